/- The texts that grammarFuncs_holds leans on, part 6. -/
import Derived.Test.YtmgklehakmdiiaaGe5
set_option maxRecDepth 100000
set_option maxHeartbeats 2000000
namespace Go.Proofs.Ytmgklehakmdiiaa.Ab
open Go
set_option linter.all false
abbrev nlGm1_18 : List (List Nat) := nlD [] [(0,[]),(0,[]),(0,[0]),(3,[2]),(4,[3]),(0,[]),(0,[]),(0,[5]),(8,[7]),(9,[8]),(5,[5,7,8]),(11,[]),(11,[]),(11,[]),(11,[]),(11,[]),(11,[]),(11,[]),(11,[]),(11,[]),(11,[]),(11,[]),(11,[]),(11,[]),(11,[]),(11,[]),(11,[]),(11,[]),(11,[]),(11,[]),(11,[]),(11,[]),(11,[]),(11,[]),(11,[]),(11,[]),(11,[]),(11,[]),(11,[]),(11,[]),(11,[]),(11,[]),(11,[]),(11,[]),(11,[]),(11,[]),(11,[]),(11,[]),(11,[]),(11,[]),(11,[]),(11,[]),(11,[]),(11,[]),(11,[]),(11,[]),(11,[]),(11,[]),(11,[]),(11,[]),(11,[]),(11,[]),(11,[]),(11,[]),(11,[]),(11,[]),(11,[]),(11,[]),(11,[]),(11,[]),(11,[]),(11,[]),(11,[]),(11,[]),(11,[]),(11,[]),(11,[]),(11,[]),(11,[]),(11,[]),(11,[]),(11,[]),(11,[]),(11,[]),(11,[]),(11,[]),(11,[]),(11,[]),(11,[]),(11,[]),(11,[]),(11,[]),(11,[]),(11,[]),(11,[])]
abbrev Kdt : List (List Nat) := nlD [] [(0,[]),(0,[]),(0,[0,1]),(3,[2]),(4,[3]),(0,[]),(0,[]),(0,[5,6]),(8,[7]),(9,[8]),(5,[4,5,6,7,8,9]),(11,[10]),(12,[11]),(13,[]),(13,[12,13]),(15,[14]),(16,[15]),(13,[]),(13,[]),(13,[17,18]),(20,[19]),(21,[20]),(17,[16,17,18,19,20,21]),(23,[22]),(24,[23]),(25,[24]),(26,[]),(26,[25,26]),(28,[27]),(29,[28]),(26,[]),(26,[]),(26,[30,31]),(33,[32]),(34,[33]),(30,[29,30,31,32,33,34]),(36,[35]),(37,[36]),(38,[37]),(39,[38]),(40,[39]),(41,[]),(41,[40,41]),(43,[42]),(44,[43]),(41,[]),(41,[]),(41,[45,46]),(48,[47]),(49,[48]),(45,[44,45,46,47,48,49]),(51,[50]),(52,[51]),(53,[52]),(54,[53]),(55,[]),(55,[54,55]),(57,[56]),(58,[57]),(55,[]),(55,[]),(55,[59,60]),(62,[61]),(63,[62]),(55,[]),(59,[58,59,60,61,62,63,64]),(66,[65]),(67,[66]),(68,[67]),(69,[68]),(70,[]),(70,[69,70]),(72,[71]),(73,[72]),(70,[]),(70,[]),(70,[74,75]),(77,[76]),(78,[77]),(70,[]),(74,[73,74,75,76,77,78,79]),(81,[80]),(82,[81]),(83,[82]),(84,[83]),(85,[]),(85,[84,85]),(87,[86]),(88,[87]),(85,[]),(85,[]),(85,[89,90]),(92,[91]),(93,[92]),(85,[]),(89,[88,89,90,91,92,93,94]),(96,[95]),(97,[96])]
abbrev nlGm1_20 : List (List Nat) := nlD [] [(0,[]),(0,[]),(0,[0]),(3,[2]),(4,[3]),(0,[]),(0,[]),(0,[5]),(8,[7]),(9,[8]),(5,[5,7,8]),(11,[]),(11,[]),(11,[]),(11,[12]),(15,[14]),(16,[15]),(11,[]),(11,[]),(11,[17]),(20,[19]),(21,[20]),(17,[17,19,20]),(23,[]),(23,[]),(23,[]),(23,[]),(23,[]),(23,[]),(23,[]),(23,[]),(23,[]),(23,[]),(23,[]),(23,[]),(23,[]),(23,[]),(23,[]),(23,[]),(23,[]),(23,[]),(23,[]),(23,[]),(23,[]),(23,[]),(23,[]),(23,[]),(23,[]),(23,[]),(23,[]),(23,[]),(23,[]),(23,[]),(23,[]),(23,[]),(23,[]),(23,[]),(23,[]),(23,[]),(23,[]),(23,[]),(23,[]),(23,[]),(23,[]),(23,[]),(23,[]),(23,[]),(23,[]),(23,[]),(23,[]),(23,[]),(23,[]),(23,[]),(23,[]),(23,[]),(23,[]),(23,[]),(23,[]),(23,[]),(23,[]),(23,[]),(23,[]),(23,[]),(23,[]),(23,[]),(23,[]),(23,[]),(23,[]),(23,[]),(23,[]),(23,[]),(23,[]),(23,[]),(23,[]),(23,[])]
abbrev nlGm1_21 : List (List Nat) := nlD [] [(0,[]),(0,[]),(0,[0]),(3,[2]),(4,[3]),(0,[]),(0,[]),(0,[5]),(8,[7]),(9,[8]),(5,[5,7,8]),(11,[]),(11,[]),(11,[]),(11,[12]),(15,[14]),(16,[15]),(11,[]),(11,[]),(11,[17]),(20,[19]),(21,[20]),(17,[17,19,20]),(23,[]),(23,[]),(23,[]),(23,[]),(23,[25]),(28,[27]),(29,[28]),(23,[]),(23,[]),(23,[30]),(33,[32]),(34,[33]),(30,[30,32,33]),(36,[]),(36,[]),(36,[]),(36,[]),(36,[]),(36,[]),(36,[]),(36,[]),(36,[]),(36,[]),(36,[]),(36,[]),(36,[]),(36,[]),(36,[]),(36,[]),(36,[]),(36,[]),(36,[]),(36,[]),(36,[]),(36,[]),(36,[]),(36,[]),(36,[]),(36,[]),(36,[]),(36,[]),(36,[]),(36,[]),(36,[]),(36,[]),(36,[]),(36,[]),(36,[]),(36,[]),(36,[]),(36,[]),(36,[]),(36,[]),(36,[]),(36,[]),(36,[]),(36,[]),(36,[]),(36,[]),(36,[]),(36,[]),(36,[]),(36,[]),(36,[]),(36,[]),(36,[]),(36,[]),(36,[]),(36,[]),(36,[]),(36,[]),(36,[])]
abbrev nlGm1_22 : List (List Nat) := nlD [] [(0,[]),(0,[]),(0,[0]),(3,[2]),(4,[3]),(0,[]),(0,[]),(0,[5]),(8,[7]),(9,[8]),(5,[5,7,8]),(11,[]),(11,[]),(11,[]),(11,[12]),(15,[14]),(16,[15]),(11,[]),(11,[]),(11,[17]),(20,[19]),(21,[20]),(17,[17,19,20]),(23,[]),(23,[]),(23,[]),(23,[]),(23,[25]),(28,[27]),(29,[28]),(23,[]),(23,[]),(23,[30]),(33,[32]),(34,[33]),(30,[30,32,33]),(36,[]),(36,[]),(36,[]),(36,[]),(36,[]),(36,[]),(36,[40]),(43,[42]),(44,[43]),(36,[]),(36,[]),(36,[45]),(48,[47]),(49,[48]),(45,[45,47,48]),(51,[]),(51,[]),(51,[]),(51,[]),(51,[]),(51,[]),(51,[]),(51,[]),(51,[]),(51,[]),(51,[]),(51,[]),(51,[]),(51,[]),(51,[]),(51,[]),(51,[]),(51,[]),(51,[]),(51,[]),(51,[]),(51,[]),(51,[]),(51,[]),(51,[]),(51,[]),(51,[]),(51,[]),(51,[]),(51,[]),(51,[]),(51,[]),(51,[]),(51,[]),(51,[]),(51,[]),(51,[]),(51,[]),(51,[]),(51,[]),(51,[]),(51,[]),(51,[]),(51,[])]
abbrev nlGm1_23 : List (List Nat) := nlD [] [(0,[]),(0,[]),(0,[0]),(3,[2]),(4,[3]),(0,[]),(0,[]),(0,[5]),(8,[7]),(9,[8]),(5,[5,7,8]),(11,[]),(11,[]),(11,[]),(11,[12]),(15,[14]),(16,[15]),(11,[]),(11,[]),(11,[17]),(20,[19]),(21,[20]),(17,[17,19,20]),(23,[]),(23,[]),(23,[]),(23,[]),(23,[25]),(28,[27]),(29,[28]),(23,[]),(23,[]),(23,[30]),(33,[32]),(34,[33]),(30,[30,32,33]),(36,[]),(36,[]),(36,[]),(36,[]),(36,[]),(36,[]),(36,[40]),(43,[42]),(44,[43]),(36,[]),(36,[]),(36,[45]),(48,[47]),(49,[48]),(45,[45,47,48]),(51,[]),(51,[]),(51,[]),(51,[]),(51,[]),(51,[54]),(57,[56]),(58,[57]),(51,[]),(51,[]),(51,[59]),(62,[61]),(63,[62]),(51,[]),(59,[58,59,61,62,63]),(66,[65]),(67,[]),(67,[]),(67,[]),(67,[]),(67,[]),(67,[]),(67,[]),(67,[]),(67,[]),(67,[]),(67,[]),(67,[]),(67,[]),(67,[]),(67,[]),(67,[]),(67,[]),(67,[]),(67,[]),(67,[]),(67,[]),(67,[]),(67,[]),(67,[]),(67,[]),(67,[]),(67,[]),(67,[])]
abbrev nlGm1_24 : List (List Nat) := nlD [] [(0,[]),(0,[]),(0,[0]),(3,[2]),(4,[3]),(0,[]),(0,[]),(0,[5]),(8,[7]),(9,[8]),(5,[5,7,8]),(11,[]),(11,[]),(11,[]),(11,[12]),(15,[14]),(16,[15]),(11,[]),(11,[]),(11,[17]),(20,[19]),(21,[20]),(17,[17,19,20]),(23,[]),(23,[]),(23,[]),(23,[]),(23,[25]),(28,[27]),(29,[28]),(23,[]),(23,[]),(23,[30]),(33,[32]),(34,[33]),(30,[30,32,33]),(36,[]),(36,[]),(36,[]),(36,[]),(36,[]),(36,[]),(36,[40]),(43,[42]),(44,[43]),(36,[]),(36,[]),(36,[45]),(48,[47]),(49,[48]),(45,[45,47,48]),(51,[]),(51,[]),(51,[]),(51,[]),(51,[]),(51,[54]),(57,[56]),(58,[57]),(51,[]),(51,[]),(51,[59]),(62,[61]),(63,[62]),(51,[]),(59,[58,59,61,62,63]),(66,[65]),(67,[]),(67,[]),(67,[]),(67,[]),(67,[69]),(72,[71]),(73,[72]),(67,[]),(67,[]),(67,[74]),(77,[76]),(78,[77]),(67,[]),(74,[73,74,76,77,78]),(81,[80]),(82,[]),(82,[]),(82,[]),(82,[]),(82,[]),(82,[]),(82,[]),(82,[]),(82,[]),(82,[]),(82,[]),(82,[]),(82,[])]
abbrev nlGm1_25 : List (List Nat) := nlD [] [(0,[]),(0,[]),(0,[0]),(3,[2]),(4,[3]),(0,[]),(0,[]),(0,[5]),(8,[7]),(9,[8]),(5,[5,7,8]),(11,[]),(11,[]),(11,[]),(11,[12]),(15,[14]),(16,[15]),(11,[]),(11,[]),(11,[17]),(20,[19]),(21,[20]),(17,[17,19,20]),(23,[]),(23,[]),(23,[]),(23,[]),(23,[25]),(28,[27]),(29,[28]),(23,[]),(23,[]),(23,[30]),(33,[32]),(34,[33]),(30,[30,32,33]),(36,[]),(36,[]),(36,[]),(36,[]),(36,[]),(36,[]),(36,[40]),(43,[42]),(44,[43]),(36,[]),(36,[]),(36,[45]),(48,[47]),(49,[48]),(45,[45,47,48]),(51,[]),(51,[]),(51,[]),(51,[]),(51,[]),(51,[54]),(57,[56]),(58,[57]),(51,[]),(51,[]),(51,[59]),(62,[61]),(63,[62]),(51,[]),(59,[58,59,61,62,63]),(66,[65]),(67,[]),(67,[]),(67,[]),(67,[]),(67,[69]),(72,[71]),(73,[72]),(67,[]),(67,[]),(67,[74]),(77,[76]),(78,[77]),(67,[]),(74,[73,74,76,77,78]),(81,[80]),(82,[]),(82,[]),(82,[]),(82,[]),(82,[84]),(87,[86]),(88,[87]),(82,[]),(82,[]),(82,[89]),(92,[91]),(93,[92]),(82,[])]
abbrev nlGm1_26 : List (List Nat) := nlD [] [(0,[]),(0,[]),(0,[0]),(3,[2]),(4,[3]),(0,[]),(0,[]),(0,[5]),(8,[7]),(9,[8]),(5,[5,7,8]),(11,[]),(11,[]),(11,[]),(11,[12]),(15,[14]),(16,[15]),(11,[]),(11,[]),(11,[17]),(20,[19]),(21,[20]),(17,[17,19,20]),(23,[]),(23,[]),(23,[]),(23,[]),(23,[25]),(28,[27]),(29,[28]),(23,[]),(23,[]),(23,[30]),(33,[32]),(34,[33]),(30,[30,32,33]),(36,[]),(36,[]),(36,[]),(36,[]),(36,[]),(36,[]),(36,[]),(36,[]),(36,[]),(36,[]),(36,[]),(36,[]),(36,[]),(36,[]),(36,[]),(36,[]),(36,[]),(36,[]),(36,[]),(36,[]),(36,[54]),(57,[56]),(58,[57]),(36,[]),(36,[]),(36,[59]),(62,[61]),(63,[62]),(36,[]),(59,[58,59,61,62,63]),(66,[65]),(67,[]),(67,[]),(67,[]),(67,[]),(67,[]),(67,[]),(67,[]),(67,[]),(67,[]),(67,[]),(67,[]),(67,[]),(67,[]),(67,[]),(67,[]),(67,[]),(67,[]),(67,[]),(67,[]),(67,[]),(67,[]),(67,[]),(67,[]),(67,[]),(67,[]),(67,[]),(67,[]),(67,[])]
abbrev nlGm1_27 : List (List Nat) := nlD [] [(0,[]),(0,[]),(0,[0]),(3,[2]),(4,[3]),(0,[]),(0,[]),(0,[5]),(8,[7]),(9,[8]),(5,[5,7,8]),(11,[]),(11,[]),(11,[]),(11,[12]),(15,[14]),(16,[15]),(11,[]),(11,[]),(11,[17]),(20,[19]),(21,[20]),(17,[17,19,20]),(23,[]),(23,[]),(23,[]),(23,[]),(23,[25]),(28,[27]),(29,[28]),(23,[]),(23,[]),(23,[30]),(33,[32]),(34,[33]),(30,[30,32,33]),(36,[]),(36,[]),(36,[]),(36,[]),(36,[]),(36,[]),(36,[]),(36,[]),(36,[]),(36,[]),(36,[]),(36,[]),(36,[]),(36,[]),(36,[]),(36,[]),(36,[]),(36,[]),(36,[]),(36,[]),(36,[54]),(57,[56]),(58,[57]),(36,[]),(36,[]),(36,[59]),(62,[61]),(63,[62]),(36,[]),(59,[58,59,61,62,63]),(66,[65]),(67,[]),(67,[]),(67,[]),(67,[]),(67,[69]),(72,[71]),(73,[72]),(67,[]),(67,[]),(67,[74]),(77,[76]),(78,[77]),(67,[]),(74,[73,74,76,77,78]),(81,[80]),(82,[]),(82,[]),(82,[]),(82,[]),(82,[]),(82,[]),(82,[]),(82,[]),(82,[]),(82,[]),(82,[]),(82,[]),(82,[])]
abbrev nlGm1_28 : List (List Nat) := nlD [] [(0,[]),(0,[]),(0,[0]),(3,[2]),(4,[3]),(0,[]),(0,[]),(0,[5]),(8,[7]),(9,[8]),(5,[5,7,8]),(11,[]),(11,[]),(11,[]),(11,[12]),(15,[14]),(16,[15]),(11,[]),(11,[]),(11,[17]),(20,[19]),(21,[20]),(17,[17,19,20]),(23,[]),(23,[]),(23,[]),(23,[]),(23,[25]),(28,[27]),(29,[28]),(23,[]),(23,[]),(23,[30]),(33,[32]),(34,[33]),(30,[30,32,33]),(36,[]),(36,[]),(36,[]),(36,[]),(36,[]),(36,[]),(36,[]),(36,[]),(36,[]),(36,[]),(36,[]),(36,[]),(36,[]),(36,[]),(36,[]),(36,[]),(36,[]),(36,[]),(36,[]),(36,[]),(36,[54]),(57,[56]),(58,[57]),(36,[]),(36,[]),(36,[59]),(62,[61]),(63,[62]),(36,[]),(59,[58,59,61,62,63]),(66,[65]),(67,[]),(67,[]),(67,[]),(67,[]),(67,[69]),(72,[71]),(73,[72]),(67,[]),(67,[]),(67,[74]),(77,[76]),(78,[77]),(67,[]),(74,[73,74,76,77,78]),(81,[80]),(82,[]),(82,[]),(82,[]),(82,[]),(82,[84]),(87,[86]),(88,[87]),(82,[]),(82,[]),(82,[89]),(92,[91]),(93,[92]),(82,[])]
noncomputable def Kcu (g0 : (List Kl) → (List Kl) → (Bool) → Option (Bool)) (a0 : List Kl) (a1 : List Kl) (a2 : Bool) : Option (Bool) :=
 (bif ((a0.length : Int) != (a1.length : Int)) then some false else (Option.bind (α := (Unit) ⊕ (Bool)) (loopM (fun (s228 : Int) => (bif (decide (s228 < (a0.length : Int))) then (Option.bind (α := Bool) ((idx a0 s228).bind fun x414 => ((idx a1 s228).bind fun x415 => (bif (x414.gOp != x415.gOp) then some true else ((idx a0 s228).bind fun x417 => ((idx a1 s228).bind fun x418 => (bif (!decide (x417.gName = x418.gName)) then some true else ((idx a0 s228).bind fun x420 => ((idx a1 s228).bind fun x421 => (bif (!decide (x420.gFunc = x421.gFunc)) then some true else (bif a2 then ((idx a0 s228).bind fun x424 => ((idx a1 s228).bind fun x425 => (bif (x424.gAt != x425.gAt) then some true else ((idx a0 s228).bind fun x427 => ((idx a1 s228).bind fun x428 => ((KgA x427.gExps x428.gExps a2).bind fun x429 => (bif (!x429) then some true else ((idx a0 s228).bind fun x431 => ((idx a1 s228).bind fun x432 => ((g0 x431.gKids x432.gKids a2).bind fun x433 => (bif (!x433) then some true else ((idx a0 s228).bind fun x435 => ((idx a1 s228).bind fun x436 => ((g0 x435.gElse x436.gElse a2).bind fun x437 => some (!x437))))))))))))))) else ((idx a0 s228).bind fun x438 => ((idx a1 s228).bind fun x439 => ((KgA x438.gExps x439.gExps a2).bind fun x440 => (bif (!x440) then some true else ((idx a0 s228).bind fun x442 => ((idx a1 s228).bind fun x443 => ((g0 x442.gKids x443.gKids a2).bind fun x444 => (bif (!x444) then some true else ((idx a0 s228).bind fun x446 => ((idx a1 s228).bind fun x447 => ((g0 x446.gElse x447.gElse a2).bind fun x448 => some (!x448)))))))))))))))))))))) fun y413 => (bif y413 then some (.done (.inr false)) else some (.next (IntKind.i64.wrap (s228 + (1 : Int)))))) else some (.done (.inl ())))) (0 : Int)) (Sum.elim (fun y227 => some true) (fun r => some r))))
theorem Kje (g0 : (List Kl) → (List Kl) → (Bool) → Option (Bool)) (hg0 : ∀ (a0 : List Kl) (a1 : List Kl) (a2 : Bool) (r : Bool) (h0 : g0 a0 a1 a2 = some r), CallsD Try.prog 20 [.lst 7 (a0.map Kk) .no, .lst 7 (a1.map Kk) .no, .v (.bool a2)] [] [] (fun d h k => d = .v (.bool r) ∧ h = [] ∧ k = [])) (a0 : List Kl) (a1 : List Kl) (a2 : Bool) (r : Bool) (h0 : Kcu g0 a0 a1 a2 = some r) : CallsD Try.prog 20 [.lst 7 (a0.map Kk) .no, .lst 7 (a1.map Kk) .no, .v (.bool a2)] [] [] (fun d h k => d = .v (.bool r) ∧ h = [] ∧ k = []) := by
 have hm := KE h0
 unfold Kcu at hm
 clear h0
 refine KU htab Try.func20 rfl rfl rfl rfl rfl (fun C => ?_)
 refine Kj ?_
 refine pu ?_
 refine Kh ?_
 refine Kr ?_
 refine Kj ?_
 refine pu ?_
 refine KaK htab rfl rfl rfl rfl rfl rfl rfl (by first | exact Kab | rfl) ?_
 refine pu ?_
 refine KaK htab rfl rfl rfl rfl rfl rfl rfl (by first | exact Kab | rfl) ?_
 refine pu ?_
 refine Kh ?_
 refine Ku rfl (fun hc2 => ?_) (fun hc2 => ?_)
 ·replace hm := yes_t hc2 hm
  refine Kj ?_
  refine pu ?_
  refine Kh ?_
  refine Ks ?_
  refine Kx ?_
  have er3 := Kn hm; subst er3
  refine rP (t' := [(6, .v (.bool false))]) [] [] 0 (wC wN) (lT lN) ?_
  exact ⟨rfl, rfl, rfl⟩
 ·replace hm := yes_f hc2 hm
  refine Kv ?_
  refine Ki ?_
  refine Kr ?_
  refine Kj ?_
  refine pu ?_
  refine Kh ?_
  obtain ⟨x227, q227, ho227⟩ := Kf hm
  refine Kci (τ := Unit) (Y := Unit) (fun y227 z227 => (⟨[], [], []⟩ : S)) x227 ?_ ?_
  ·clear hm; have hm := KE q227
   refine KI ?_
   obtain ⟨u228, hl228, hq228⟩ := yes_m hm
   refine KaU (Y := Unit) hl228 (fun s228 z228 => (⟨[(0, .lst 7 (a0.map Kk) .no), (1, .lst 7 (a1.map Kk) .no), (2, .v (.bool a2)), (7, iD s228)], [], []⟩ : S)) ?_ ?_
   ·skip
    exact WkX.of () (WkS.perm (WkS.cons rfl (Wk.refl _) (WkS.cons rfl (Wk.refl _) (WkS.cons rfl (Wk.refl _) (WkS.cons rfl (Wk.refl _) (WkS.nil))))) Pf Pf)
   ·intro G228 s228 z228 hm
    refine Kr ?_
    refine Kj ?_
    refine pu ?_
    refine pu ?_
    refine KaK htab rfl rfl rfl rfl rfl rfl rfl (by first | exact Kab | rfl) ?_
    refine pu ?_
    refine Kh ?_
    refine Ku rfl (fun hc377 => ?_) (fun hc377 => ?_)
    ·replace hm := yes_t hc377 hm
     refine Kv ?_
     refine Ki ?_
     refine Kr ?_
     refine KI ?_
     refine Kr ?_
     obtain ⟨y413, q413, ho413⟩ := Kf hm
     refine K7 (Y := Unit) (fun z413 => (⟨[(0, .lst 7 (a0.map Kk) .no), (1, .lst 7 (a1.map Kk) .no), (2, .v (.bool a2)), (7, iD s228), (116, .v (.bool y413))], [], []⟩ : S)) ?_ ?_
     ·clear hm; have hm := KE q413
      obtain ⟨x414, q414, hm⟩ := Kf hm
      obtain ⟨x415, q415, hm⟩ := Kf hm
      refine bycB (x414.gOp != x415.gOp) (fun hs416 => ?_) (fun hs416 => ?_)
      ·replace hm := yes_t hs416 hm
       refine Kah 95 [] nlGm1_18 [0,2,3,5,7,8] Kdt (by kernel_rfl) (by kernel_rfl) (by kernel_rfl) (by rfl) (by rfl) (by kernel_rfl) ?_
       iterate 6 apply Exists.intro
       intro bs
       refine zep ?_
       refine zqp ?_
       refine z_e rfl rfl (Ex.wk (KH htab rfl rfl rfl rfl rfl rfl rfl (Kt q414) (KA q414)) (Wk.of_eq (congrArg D.el (Kp x414)))) rfl rfl rfl rfl rfl rfl ?_
       refine zep ?_
       refine z_qM rfl rfl (Kz htab rfl rfl rfl rfl rfl) rfl rfl rfl rfl rfl rfl ?_
       refine zep ?_
       refine zqp ?_
       refine z_e rfl rfl (Ex.wk (KH htab rfl rfl rfl rfl rfl rfl rfl (Kt q415) (KA q415)) (Wk.of_eq (congrArg D.el (Kp x415)))) rfl rfl rfl rfl rfl rfl ?_
       refine zep ?_
       refine z_qM rfl rfl (Kz htab rfl rfl rfl rfl rfl) rfl rfl rfl rfl rfl rfl ?_
       refine zqp ?_
       refine zqp ?_
       refine KY (j := 30) (b' := true) rfl hs416 ?_
       iterate 11 refine zK ?_
       refine z_q rfl rfl (Ka5 rfl rfl rfl) rfl rfl rfl rfl rfl rfl ?_
       refine zqp ?_
       iterate 11 refine zK ?_
       refine z_q rfl rfl (Ka5 rfl rfl rfl) rfl rfl rfl rfl rfl rfl ?_
       refine zqp ?_
       iterate 14 refine zK ?_
       refine z_q rfl rfl (Ka5 rfl rfl rfl) rfl rfl rfl rfl rfl rfl ?_
       refine zqp ?_
       iterate 13 refine zK ?_
       refine z_q rfl rfl (Ka5 rfl rfl rfl) rfl rfl rfl rfl rfl rfl ?_
       refine zqp ?_
       iterate 13 refine zK ?_
       refine z_q rfl rfl (Ka5 rfl rfl rfl) rfl rfl rfl rfl rfl rfl ?_
       refine zqp ?_
       iterate 11 refine zK ?_
       refine z_nil rfl rfl (fun e he => by simp [isAl] at he) ?_
       refine pK ?_
       refine pK ?_
       refine KP rfl rfl rfl rfl rfl rfl ?_
       refine KC ?_
       have e413 := Kn hm; subst e413
       refine ⟨rfl, ?_⟩
       exact WkX.of () (WkS.perm (WkS.cons rfl (Wk.refl _) (WkS.cons rfl (Wk.refl _) (WkS.cons rfl (Wk.refl _) (WkS.cons rfl (Wk.refl _) (WkS.cons rfl (Wk.refl _) (WkS.nil)))))) Pf Pf)
      ·replace hm := yes_f hs416 hm
       obtain ⟨x417, q417, hm⟩ := Kf hm
       obtain ⟨x418, q418, hm⟩ := Kf hm
       refine bycB (!decide (x417.gName = x418.gName)) (fun hs419 => ?_) (fun hs419 => ?_)
       ·replace hm := yes_t hs419 hm
        refine Kah 95 [] nlGm1_20 [0,2,3,5,7,8,12,14,15,17,19,20] Kdt (by kernel_rfl) (by kernel_rfl) (by kernel_rfl) (by rfl) (by rfl) (by kernel_rfl) ?_
        iterate 12 apply Exists.intro
        intro bs
        refine zep ?_
        refine zqp ?_
        refine z_e rfl rfl (Ex.wk (KH htab rfl rfl rfl rfl rfl rfl rfl (Kt q414) (KA q414)) (Wk.of_eq (congrArg D.el (Kp x414)))) rfl rfl rfl rfl rfl rfl ?_
        refine zep ?_
        refine z_qM rfl rfl (Kz htab rfl rfl rfl rfl rfl) rfl rfl rfl rfl rfl rfl ?_
        refine zep ?_
        refine zqp ?_
        refine z_e rfl rfl (Ex.wk (KH htab rfl rfl rfl rfl rfl rfl rfl (Kt q415) (KA q415)) (Wk.of_eq (congrArg D.el (Kp x415)))) rfl rfl rfl rfl rfl rfl ?_
        refine zep ?_
        refine z_qM rfl rfl (Kz htab rfl rfl rfl rfl rfl) rfl rfl rfl rfl rfl rfl ?_
        refine zqp ?_
        refine zqp ?_
        refine KY (j := 30) (b' := false) rfl hs416 ?_
        refine zep ?_
        refine zqp ?_
        refine z_e rfl rfl (Ex.wk (KH htab rfl rfl rfl rfl rfl rfl rfl (Kt q417) (KA q417)) (Wk.of_eq (congrArg D.el (Kp x417)))) rfl rfl rfl rfl rfl rfl ?_
        refine zep ?_
        refine z_qM rfl rfl (Kz htab rfl rfl rfl rfl rfl) rfl rfl rfl rfl rfl rfl ?_
        refine zep ?_
        refine zqp ?_
        refine z_e rfl rfl (Ex.wk (KH htab rfl rfl rfl rfl rfl rfl rfl (Kt q418) (KA q418)) (Wk.of_eq (congrArg D.el (Kp x418)))) rfl rfl rfl rfl rfl rfl ?_
        refine zep ?_
        refine z_qM rfl rfl (Kz htab rfl rfl rfl rfl rfl) rfl rfl rfl rfl rfl rfl ?_
        refine zqp ?_
        refine z_q rfl rfl (Kak rfl rfl rfl) rfl rfl rfl rfl rfl rfl ?_
        refine zqp ?_
        refine KY (j := 43) (b' := true) rfl hs419 ?_
        iterate 11 refine zK ?_
        refine z_q rfl rfl (Ka5 rfl rfl rfl) rfl rfl rfl rfl rfl rfl ?_
        refine zqp ?_
        iterate 14 refine zK ?_
        refine z_q rfl rfl (Ka5 rfl rfl rfl) rfl rfl rfl rfl rfl rfl ?_
        refine zqp ?_
        iterate 13 refine zK ?_
        refine z_q rfl rfl (Ka5 rfl rfl rfl) rfl rfl rfl rfl rfl rfl ?_
        refine zqp ?_
        iterate 13 refine zK ?_
        refine z_q rfl rfl (Ka5 rfl rfl rfl) rfl rfl rfl rfl rfl rfl ?_
        refine zqp ?_
        iterate 11 refine zK ?_
        refine z_nil rfl rfl (fun e he => by simp [isAl] at he) ?_
        refine pK ?_
        refine pK ?_
        refine KP rfl rfl rfl rfl rfl rfl ?_
        refine KC ?_
        have e413 := Kn hm; subst e413
        refine ⟨rfl, ?_⟩
        exact WkX.of () (WkS.perm (WkS.cons rfl (Wk.refl _) (WkS.cons rfl (Wk.refl _) (WkS.cons rfl (Wk.refl _) (WkS.cons rfl (Wk.refl _) (WkS.cons rfl (Wk.refl _) (WkS.nil)))))) Pf Pf)
       ·replace hm := yes_f hs419 hm
        obtain ⟨x420, q420, hm⟩ := Kf hm
        obtain ⟨x421, q421, hm⟩ := Kf hm
        refine bycB (!decide (x420.gFunc = x421.gFunc)) (fun hs422 => ?_) (fun hs422 => ?_)
        ·replace hm := yes_t hs422 hm
         refine Kah 95 [] nlGm1_21 [0,2,3,5,7,8,12,14,15,17,19,20,25,27,28,30,32,33] Kdt (by kernel_rfl) (by kernel_rfl) (by kernel_rfl) (by rfl) (by rfl) (by kernel_rfl) ?_
         iterate 18 apply Exists.intro
         intro bs
         refine zep ?_
         refine zqp ?_
         refine z_e rfl rfl (Ex.wk (KH htab rfl rfl rfl rfl rfl rfl rfl (Kt q414) (KA q414)) (Wk.of_eq (congrArg D.el (Kp x414)))) rfl rfl rfl rfl rfl rfl ?_
         refine zep ?_
         refine z_qM rfl rfl (Kz htab rfl rfl rfl rfl rfl) rfl rfl rfl rfl rfl rfl ?_
         refine zep ?_
         refine zqp ?_
         refine z_e rfl rfl (Ex.wk (KH htab rfl rfl rfl rfl rfl rfl rfl (Kt q415) (KA q415)) (Wk.of_eq (congrArg D.el (Kp x415)))) rfl rfl rfl rfl rfl rfl ?_
         refine zep ?_
         refine z_qM rfl rfl (Kz htab rfl rfl rfl rfl rfl) rfl rfl rfl rfl rfl rfl ?_
         refine zqp ?_
         refine zqp ?_
         refine KY (j := 30) (b' := false) rfl hs416 ?_
         refine zep ?_
         refine zqp ?_
         refine z_e rfl rfl (Ex.wk (KH htab rfl rfl rfl rfl rfl rfl rfl (Kt q417) (KA q417)) (Wk.of_eq (congrArg D.el (Kp x417)))) rfl rfl rfl rfl rfl rfl ?_
         refine zep ?_
         refine z_qM rfl rfl (Kz htab rfl rfl rfl rfl rfl) rfl rfl rfl rfl rfl rfl ?_
         refine zep ?_
         refine zqp ?_
         refine z_e rfl rfl (Ex.wk (KH htab rfl rfl rfl rfl rfl rfl rfl (Kt q418) (KA q418)) (Wk.of_eq (congrArg D.el (Kp x418)))) rfl rfl rfl rfl rfl rfl ?_
         refine zep ?_
         refine z_qM rfl rfl (Kz htab rfl rfl rfl rfl rfl) rfl rfl rfl rfl rfl rfl ?_
         refine zqp ?_
         refine z_q rfl rfl (Kak rfl rfl rfl) rfl rfl rfl rfl rfl rfl ?_
         refine zqp ?_
         refine KY (j := 43) (b' := false) rfl hs419 ?_
         refine zep ?_
         refine zqp ?_
         refine z_e rfl rfl (Ex.wk (KH htab rfl rfl rfl rfl rfl rfl rfl (Kt q420) (KA q420)) (Wk.of_eq (congrArg D.el (Kp x420)))) rfl rfl rfl rfl rfl rfl ?_
         refine zep ?_
         refine z_qM rfl rfl (Kz htab rfl rfl rfl rfl rfl) rfl rfl rfl rfl rfl rfl ?_
         refine zep ?_
         refine zqp ?_
         refine z_e rfl rfl (Ex.wk (KH htab rfl rfl rfl rfl rfl rfl rfl (Kt q421) (KA q421)) (Wk.of_eq (congrArg D.el (Kp x421)))) rfl rfl rfl rfl rfl rfl ?_
         refine zep ?_
         refine z_qM rfl rfl (Kz htab rfl rfl rfl rfl rfl) rfl rfl rfl rfl rfl rfl ?_
         refine zqp ?_
         refine z_q rfl rfl (Kak rfl rfl rfl) rfl rfl rfl rfl rfl rfl ?_
         refine zqp ?_
         refine KY (j := 56) (b' := true) rfl hs422 ?_
         iterate 14 refine zK ?_
         refine z_q rfl rfl (Ka5 rfl rfl rfl) rfl rfl rfl rfl rfl rfl ?_
         refine zqp ?_
         iterate 13 refine zK ?_
         refine z_q rfl rfl (Ka5 rfl rfl rfl) rfl rfl rfl rfl rfl rfl ?_
         refine zqp ?_
         iterate 13 refine zK ?_
         refine z_q rfl rfl (Ka5 rfl rfl rfl) rfl rfl rfl rfl rfl rfl ?_
         refine zqp ?_
         iterate 11 refine zK ?_
         refine z_nil rfl rfl (fun e he => by simp [isAl] at he) ?_
         refine pK ?_
         refine pK ?_
         refine KP rfl rfl rfl rfl rfl rfl ?_
         refine KC ?_
         have e413 := Kn hm; subst e413
         refine ⟨rfl, ?_⟩
         exact WkX.of () (WkS.perm (WkS.cons rfl (Wk.refl _) (WkS.cons rfl (Wk.refl _) (WkS.cons rfl (Wk.refl _) (WkS.cons rfl (Wk.refl _) (WkS.cons rfl (Wk.refl _) (WkS.nil)))))) Pf Pf)
        ·replace hm := yes_f hs422 hm
         refine bycB a2 (fun hs423 => ?_) (fun hs423 => ?_)
         ·replace hm := yes_t hs423 hm
          obtain ⟨x424, q424, hm⟩ := Kf hm
          obtain ⟨x425, q425, hm⟩ := Kf hm
          refine bycB (x424.gAt != x425.gAt) (fun hs426 => ?_) (fun hs426 => ?_)
          ·replace hm := yes_t hs426 hm
           refine Kah 95 [] nlGm1_22 [0,2,3,5,7,8,12,14,15,17,19,20,25,27,28,30,32,33,40,42,43,45,47,48] Kdt (by kernel_rfl) (by kernel_rfl) (by kernel_rfl) (by rfl) (by rfl) (by kernel_rfl) ?_
           iterate 24 apply Exists.intro
           intro bs
           refine zep ?_
           refine zqp ?_
           refine z_e rfl rfl (Ex.wk (KH htab rfl rfl rfl rfl rfl rfl rfl (Kt q414) (KA q414)) (Wk.of_eq (congrArg D.el (Kp x414)))) rfl rfl rfl rfl rfl rfl ?_
           refine zep ?_
           refine z_qM rfl rfl (Kz htab rfl rfl rfl rfl rfl) rfl rfl rfl rfl rfl rfl ?_
           refine zep ?_
           refine zqp ?_
           refine z_e rfl rfl (Ex.wk (KH htab rfl rfl rfl rfl rfl rfl rfl (Kt q415) (KA q415)) (Wk.of_eq (congrArg D.el (Kp x415)))) rfl rfl rfl rfl rfl rfl ?_
           refine zep ?_
           refine z_qM rfl rfl (Kz htab rfl rfl rfl rfl rfl) rfl rfl rfl rfl rfl rfl ?_
           refine zqp ?_
           refine zqp ?_
           refine KY (j := 30) (b' := false) rfl hs416 ?_
           refine zep ?_
           refine zqp ?_
           refine z_e rfl rfl (Ex.wk (KH htab rfl rfl rfl rfl rfl rfl rfl (Kt q417) (KA q417)) (Wk.of_eq (congrArg D.el (Kp x417)))) rfl rfl rfl rfl rfl rfl ?_
           refine zep ?_
           refine z_qM rfl rfl (Kz htab rfl rfl rfl rfl rfl) rfl rfl rfl rfl rfl rfl ?_
           refine zep ?_
           refine zqp ?_
           refine z_e rfl rfl (Ex.wk (KH htab rfl rfl rfl rfl rfl rfl rfl (Kt q418) (KA q418)) (Wk.of_eq (congrArg D.el (Kp x418)))) rfl rfl rfl rfl rfl rfl ?_
           refine zep ?_
           refine z_qM rfl rfl (Kz htab rfl rfl rfl rfl rfl) rfl rfl rfl rfl rfl rfl ?_
           refine zqp ?_
           refine z_q rfl rfl (Kak rfl rfl rfl) rfl rfl rfl rfl rfl rfl ?_
           refine zqp ?_
           refine KY (j := 43) (b' := false) rfl hs419 ?_
           refine zep ?_
           refine zqp ?_
           refine z_e rfl rfl (Ex.wk (KH htab rfl rfl rfl rfl rfl rfl rfl (Kt q420) (KA q420)) (Wk.of_eq (congrArg D.el (Kp x420)))) rfl rfl rfl rfl rfl rfl ?_
           refine zep ?_
           refine z_qM rfl rfl (Kz htab rfl rfl rfl rfl rfl) rfl rfl rfl rfl rfl rfl ?_
           refine zep ?_
           refine zqp ?_
           refine z_e rfl rfl (Ex.wk (KH htab rfl rfl rfl rfl rfl rfl rfl (Kt q421) (KA q421)) (Wk.of_eq (congrArg D.el (Kp x421)))) rfl rfl rfl rfl rfl rfl ?_
           refine zep ?_
           refine z_qM rfl rfl (Kz htab rfl rfl rfl rfl rfl) rfl rfl rfl rfl rfl rfl ?_
           refine zqp ?_
           refine z_q rfl rfl (Kak rfl rfl rfl) rfl rfl rfl rfl rfl rfl ?_
           refine zqp ?_
           refine KY (j := 56) (b' := false) rfl hs422 ?_
           refine zqp ?_
           refine zqp ?_
           refine KY (j := 58) (b' := true) rfl hs423 ?_
           refine zep ?_
           refine zqp ?_
           refine z_e rfl rfl (Ex.wk (KH htab rfl rfl rfl rfl rfl rfl rfl (Kt q424) (KA q424)) (Wk.of_eq (congrArg D.el (Kp x424)))) rfl rfl rfl rfl rfl rfl ?_
           refine zep ?_
           refine z_qM rfl rfl (Kz htab rfl rfl rfl rfl rfl) rfl rfl rfl rfl rfl rfl ?_
           refine zep ?_
           refine zqp ?_
           refine z_e rfl rfl (Ex.wk (KH htab rfl rfl rfl rfl rfl rfl rfl (Kt q425) (KA q425)) (Wk.of_eq (congrArg D.el (Kp x425)))) rfl rfl rfl rfl rfl rfl ?_
           refine zep ?_
           refine z_qM rfl rfl (Kz htab rfl rfl rfl rfl rfl) rfl rfl rfl rfl rfl rfl ?_
           refine zqp ?_
           refine z_q rfl rfl (Ka5 rfl rfl rfl) rfl rfl rfl rfl rfl rfl ?_
           refine z_q rfl rfl (Kak rfl rfl rfl) rfl rfl rfl rfl rfl rfl ?_
           refine zqp ?_
           refine KY (j := 72) (b' := true) rfl hs426 ?_
           iterate 13 refine zK ?_
           refine z_q rfl rfl (Ka5 rfl rfl rfl) rfl rfl rfl rfl rfl rfl ?_
           refine zqp ?_
           iterate 13 refine zK ?_
           refine z_q rfl rfl (Ka5 rfl rfl rfl) rfl rfl rfl rfl rfl rfl ?_
           refine zqp ?_
           iterate 11 refine zK ?_
           refine z_nil rfl rfl (fun e he => by simp [isAl] at he) ?_
           refine pK ?_
           refine pK ?_
           refine KP rfl rfl rfl rfl rfl rfl ?_
           refine KC ?_
           have e413 := Kn hm; subst e413
           refine ⟨rfl, ?_⟩
           exact WkX.of () (WkS.perm (WkS.cons rfl (Wk.refl _) (WkS.cons rfl (Wk.refl _) (WkS.cons rfl (Wk.refl _) (WkS.cons rfl (Wk.refl _) (WkS.cons rfl (Wk.refl _) (WkS.nil)))))) Pf Pf)
          ·replace hm := yes_f hs426 hm
           obtain ⟨x427, q427, hm⟩ := Kf hm
           obtain ⟨x428, q428, hm⟩ := Kf hm
           obtain ⟨x429, q429, hm⟩ := Kf hm
           refine bycB (!x429) (fun hs430 => ?_) (fun hs430 => ?_)
           ·replace hm := yes_t hs430 hm
            refine Kah 95 [] nlGm1_23 [0,2,3,5,7,8,12,14,15,17,19,20,25,27,28,30,32,33,40,42,43,45,47,48,54,56,57,58,59,61,62,63,65] Kdt (by kernel_rfl) (by kernel_rfl) (by kernel_rfl) (by rfl) (by rfl) (by kernel_rfl) ?_
            iterate 33 apply Exists.intro
            intro bs
            refine zep ?_
            refine zqp ?_
            refine z_e rfl rfl (Ex.wk (KH htab rfl rfl rfl rfl rfl rfl rfl (Kt q414) (KA q414)) (Wk.of_eq (congrArg D.el (Kp x414)))) rfl rfl rfl rfl rfl rfl ?_
            refine zep ?_
            refine z_qM rfl rfl (Kz htab rfl rfl rfl rfl rfl) rfl rfl rfl rfl rfl rfl ?_
            refine zep ?_
            refine zqp ?_
            refine z_e rfl rfl (Ex.wk (KH htab rfl rfl rfl rfl rfl rfl rfl (Kt q415) (KA q415)) (Wk.of_eq (congrArg D.el (Kp x415)))) rfl rfl rfl rfl rfl rfl ?_
            refine zep ?_
            refine z_qM rfl rfl (Kz htab rfl rfl rfl rfl rfl) rfl rfl rfl rfl rfl rfl ?_
            refine zqp ?_
            refine zqp ?_
            refine KY (j := 30) (b' := false) rfl hs416 ?_
            refine zep ?_
            refine zqp ?_
            refine z_e rfl rfl (Ex.wk (KH htab rfl rfl rfl rfl rfl rfl rfl (Kt q417) (KA q417)) (Wk.of_eq (congrArg D.el (Kp x417)))) rfl rfl rfl rfl rfl rfl ?_
            refine zep ?_
            refine z_qM rfl rfl (Kz htab rfl rfl rfl rfl rfl) rfl rfl rfl rfl rfl rfl ?_
            refine zep ?_
            refine zqp ?_
            refine z_e rfl rfl (Ex.wk (KH htab rfl rfl rfl rfl rfl rfl rfl (Kt q418) (KA q418)) (Wk.of_eq (congrArg D.el (Kp x418)))) rfl rfl rfl rfl rfl rfl ?_
            refine zep ?_
            refine z_qM rfl rfl (Kz htab rfl rfl rfl rfl rfl) rfl rfl rfl rfl rfl rfl ?_
            refine zqp ?_
            refine z_q rfl rfl (Kak rfl rfl rfl) rfl rfl rfl rfl rfl rfl ?_
            refine zqp ?_
            refine KY (j := 43) (b' := false) rfl hs419 ?_
            refine zep ?_
            refine zqp ?_
            refine z_e rfl rfl (Ex.wk (KH htab rfl rfl rfl rfl rfl rfl rfl (Kt q420) (KA q420)) (Wk.of_eq (congrArg D.el (Kp x420)))) rfl rfl rfl rfl rfl rfl ?_
            refine zep ?_
            refine z_qM rfl rfl (Kz htab rfl rfl rfl rfl rfl) rfl rfl rfl rfl rfl rfl ?_
            refine zep ?_
            refine zqp ?_
            refine z_e rfl rfl (Ex.wk (KH htab rfl rfl rfl rfl rfl rfl rfl (Kt q421) (KA q421)) (Wk.of_eq (congrArg D.el (Kp x421)))) rfl rfl rfl rfl rfl rfl ?_
            refine zep ?_
            refine z_qM rfl rfl (Kz htab rfl rfl rfl rfl rfl) rfl rfl rfl rfl rfl rfl ?_
            refine zqp ?_
            refine z_q rfl rfl (Kak rfl rfl rfl) rfl rfl rfl rfl rfl rfl ?_
            refine zqp ?_
            refine KY (j := 56) (b' := false) rfl hs422 ?_
            refine zqp ?_
            refine zqp ?_
            refine KY (j := 58) (b' := true) rfl hs423 ?_
            refine zep ?_
            refine zqp ?_
            refine z_e rfl rfl (Ex.wk (KH htab rfl rfl rfl rfl rfl rfl rfl (Kt q424) (KA q424)) (Wk.of_eq (congrArg D.el (Kp x424)))) rfl rfl rfl rfl rfl rfl ?_
            refine zep ?_
            refine z_qM rfl rfl (Kz htab rfl rfl rfl rfl rfl) rfl rfl rfl rfl rfl rfl ?_
            refine zep ?_
            refine zqp ?_
            refine z_e rfl rfl (Ex.wk (KH htab rfl rfl rfl rfl rfl rfl rfl (Kt q425) (KA q425)) (Wk.of_eq (congrArg D.el (Kp x425)))) rfl rfl rfl rfl rfl rfl ?_
            refine zep ?_
            refine z_qM rfl rfl (Kz htab rfl rfl rfl rfl rfl) rfl rfl rfl rfl rfl rfl ?_
            refine zqp ?_
            refine z_q rfl rfl (Ka5 rfl rfl rfl) rfl rfl rfl rfl rfl rfl ?_
            refine z_q rfl rfl (Kak rfl rfl rfl) rfl rfl rfl rfl rfl rfl ?_
            refine zqp ?_
            refine KY (j := 72) (b' := false) rfl hs426 ?_
            refine zep ?_
            refine zqp ?_
            refine z_e rfl rfl (Ex.wk (KH htab rfl rfl rfl rfl rfl rfl rfl (Kt q427) (KA q427)) (Wk.of_eq (congrArg D.el (Kp x427)))) rfl rfl rfl rfl rfl rfl ?_
            refine zep ?_
            refine z_eM rfl rfl (Kz htab rfl rfl rfl rfl rfl) rfl rfl rfl rfl rfl rfl ?_
            refine zep ?_
            refine zqp ?_
            refine z_e rfl rfl (Ex.wk (KH htab rfl rfl rfl rfl rfl rfl rfl (Kt q428) (KA q428)) (Wk.of_eq (congrArg D.el (Kp x428)))) rfl rfl rfl rfl rfl rfl ?_
            refine zep ?_
            refine z_eM rfl rfl (Kz htab rfl rfl rfl rfl rfl) rfl rfl rfl rfl rfl rfl ?_
            refine zqp ?_
            refine KdE rfl rfl (Kd3 x427.gExps x428.gExps a2 x429 q429) rfl rfl Wl rfl rfl rfl rfl rfl rfl ?_
            refine zqp ?_
            refine z_q rfl rfl (Kak rfl rfl rfl) rfl rfl rfl rfl rfl rfl ?_
            refine zqp ?_
            refine KY (j := 87) (b' := true) rfl hs430 ?_
            iterate 13 refine zK ?_
            refine z_q rfl rfl (Ka5 rfl rfl rfl) rfl rfl rfl rfl rfl rfl ?_
            refine zqp ?_
            iterate 11 refine zK ?_
            refine z_nil rfl rfl (fun e he => by simp [isAl] at he) ?_
            refine pK ?_
            refine pK ?_
            refine KP rfl rfl rfl rfl rfl rfl ?_
            refine KC ?_
            have e413 := Kn hm; subst e413
            refine ⟨rfl, ?_⟩
            exact WkX.of () (WkS.perm (WkS.cons rfl (Wk.refl _) (WkS.cons rfl (Wk.refl _) (WkS.cons rfl (Wk.refl _) (WkS.cons rfl (Wk.refl _) (WkS.cons rfl (Wk.refl _) (WkS.nil)))))) Pf Pf)
           ·replace hm := yes_f hs430 hm
            obtain ⟨x431, q431, hm⟩ := Kf hm
            obtain ⟨x432, q432, hm⟩ := Kf hm
            obtain ⟨x433, q433, hm⟩ := Kf hm
            refine bycB (!x433) (fun hs434 => ?_) (fun hs434 => ?_)
            ·replace hm := yes_t hs434 hm
             refine Kah 95 [] nlGm1_24 [0,2,3,5,7,8,12,14,15,17,19,20,25,27,28,30,32,33,40,42,43,45,47,48,54,56,57,58,59,61,62,63,65,69,71,72,73,74,76,77,78,80] Kdt (by kernel_rfl) (by kernel_rfl) (by kernel_rfl) (by rfl) (by rfl) (by kernel_rfl) ?_
             iterate 42 apply Exists.intro
             intro bs
             refine zep ?_
             refine zqp ?_
             refine z_e rfl rfl (Ex.wk (KH htab rfl rfl rfl rfl rfl rfl rfl (Kt q414) (KA q414)) (Wk.of_eq (congrArg D.el (Kp x414)))) rfl rfl rfl rfl rfl rfl ?_
             refine zep ?_
             refine z_qM rfl rfl (Kz htab rfl rfl rfl rfl rfl) rfl rfl rfl rfl rfl rfl ?_
             refine zep ?_
             refine zqp ?_
             refine z_e rfl rfl (Ex.wk (KH htab rfl rfl rfl rfl rfl rfl rfl (Kt q415) (KA q415)) (Wk.of_eq (congrArg D.el (Kp x415)))) rfl rfl rfl rfl rfl rfl ?_
             refine zep ?_
             refine z_qM rfl rfl (Kz htab rfl rfl rfl rfl rfl) rfl rfl rfl rfl rfl rfl ?_
             refine zqp ?_
             refine zqp ?_
             refine KY (j := 30) (b' := false) rfl hs416 ?_
             refine zep ?_
             refine zqp ?_
             refine z_e rfl rfl (Ex.wk (KH htab rfl rfl rfl rfl rfl rfl rfl (Kt q417) (KA q417)) (Wk.of_eq (congrArg D.el (Kp x417)))) rfl rfl rfl rfl rfl rfl ?_
             refine zep ?_
             refine z_qM rfl rfl (Kz htab rfl rfl rfl rfl rfl) rfl rfl rfl rfl rfl rfl ?_
             refine zep ?_
             refine zqp ?_
             refine z_e rfl rfl (Ex.wk (KH htab rfl rfl rfl rfl rfl rfl rfl (Kt q418) (KA q418)) (Wk.of_eq (congrArg D.el (Kp x418)))) rfl rfl rfl rfl rfl rfl ?_
             refine zep ?_
             refine z_qM rfl rfl (Kz htab rfl rfl rfl rfl rfl) rfl rfl rfl rfl rfl rfl ?_
             refine zqp ?_
             refine z_q rfl rfl (Kak rfl rfl rfl) rfl rfl rfl rfl rfl rfl ?_
             refine zqp ?_
             refine KY (j := 43) (b' := false) rfl hs419 ?_
             refine zep ?_
             refine zqp ?_
             refine z_e rfl rfl (Ex.wk (KH htab rfl rfl rfl rfl rfl rfl rfl (Kt q420) (KA q420)) (Wk.of_eq (congrArg D.el (Kp x420)))) rfl rfl rfl rfl rfl rfl ?_
             refine zep ?_
             refine z_qM rfl rfl (Kz htab rfl rfl rfl rfl rfl) rfl rfl rfl rfl rfl rfl ?_
             refine zep ?_
             refine zqp ?_
             refine z_e rfl rfl (Ex.wk (KH htab rfl rfl rfl rfl rfl rfl rfl (Kt q421) (KA q421)) (Wk.of_eq (congrArg D.el (Kp x421)))) rfl rfl rfl rfl rfl rfl ?_
             refine zep ?_
             refine z_qM rfl rfl (Kz htab rfl rfl rfl rfl rfl) rfl rfl rfl rfl rfl rfl ?_
             refine zqp ?_
             refine z_q rfl rfl (Kak rfl rfl rfl) rfl rfl rfl rfl rfl rfl ?_
             refine zqp ?_
             refine KY (j := 56) (b' := false) rfl hs422 ?_
             refine zqp ?_
             refine zqp ?_
             refine KY (j := 58) (b' := true) rfl hs423 ?_
             refine zep ?_
             refine zqp ?_
             refine z_e rfl rfl (Ex.wk (KH htab rfl rfl rfl rfl rfl rfl rfl (Kt q424) (KA q424)) (Wk.of_eq (congrArg D.el (Kp x424)))) rfl rfl rfl rfl rfl rfl ?_
             refine zep ?_
             refine z_qM rfl rfl (Kz htab rfl rfl rfl rfl rfl) rfl rfl rfl rfl rfl rfl ?_
             refine zep ?_
             refine zqp ?_
             refine z_e rfl rfl (Ex.wk (KH htab rfl rfl rfl rfl rfl rfl rfl (Kt q425) (KA q425)) (Wk.of_eq (congrArg D.el (Kp x425)))) rfl rfl rfl rfl rfl rfl ?_
             refine zep ?_
             refine z_qM rfl rfl (Kz htab rfl rfl rfl rfl rfl) rfl rfl rfl rfl rfl rfl ?_
             refine zqp ?_
             refine z_q rfl rfl (Ka5 rfl rfl rfl) rfl rfl rfl rfl rfl rfl ?_
             refine z_q rfl rfl (Kak rfl rfl rfl) rfl rfl rfl rfl rfl rfl ?_
             refine zqp ?_
             refine KY (j := 72) (b' := false) rfl hs426 ?_
             refine zep ?_
             refine zqp ?_
             refine z_e rfl rfl (Ex.wk (KH htab rfl rfl rfl rfl rfl rfl rfl (Kt q427) (KA q427)) (Wk.of_eq (congrArg D.el (Kp x427)))) rfl rfl rfl rfl rfl rfl ?_
             refine zep ?_
             refine z_eM rfl rfl (Kz htab rfl rfl rfl rfl rfl) rfl rfl rfl rfl rfl rfl ?_
             refine zep ?_
             refine zqp ?_
             refine z_e rfl rfl (Ex.wk (KH htab rfl rfl rfl rfl rfl rfl rfl (Kt q428) (KA q428)) (Wk.of_eq (congrArg D.el (Kp x428)))) rfl rfl rfl rfl rfl rfl ?_
             refine zep ?_
             refine z_eM rfl rfl (Kz htab rfl rfl rfl rfl rfl) rfl rfl rfl rfl rfl rfl ?_
             refine zqp ?_
             refine KdE rfl rfl (Kd3 x427.gExps x428.gExps a2 x429 q429) rfl rfl Wl rfl rfl rfl rfl rfl rfl ?_
             refine zqp ?_
             refine z_q rfl rfl (Kak rfl rfl rfl) rfl rfl rfl rfl rfl rfl ?_
             refine zqp ?_
             refine KY (j := 87) (b' := false) rfl hs430 ?_
             refine zep ?_
             refine zqp ?_
             refine z_e rfl rfl (Ex.wk (KH htab rfl rfl rfl rfl rfl rfl rfl (Kt q431) (KA q431)) (Wk.of_eq (congrArg D.el (Kp x431)))) rfl rfl rfl rfl rfl rfl ?_
             refine zep ?_
             refine z_eM rfl rfl (Kz htab rfl rfl rfl rfl rfl) rfl rfl rfl rfl rfl rfl ?_
             refine zep ?_
             refine zqp ?_
             refine z_e rfl rfl (Ex.wk (KH htab rfl rfl rfl rfl rfl rfl rfl (Kt q432) (KA q432)) (Wk.of_eq (congrArg D.el (Kp x432)))) rfl rfl rfl rfl rfl rfl ?_
             refine zep ?_
             refine z_eM rfl rfl (Kz htab rfl rfl rfl rfl rfl) rfl rfl rfl rfl rfl rfl ?_
             refine zqp ?_
             refine KdE rfl rfl (hg0 x431.gKids x432.gKids a2 x433 q433) rfl rfl Wl rfl rfl rfl rfl rfl rfl ?_
             refine zqp ?_
             refine z_q rfl rfl (Kak rfl rfl rfl) rfl rfl rfl rfl rfl rfl ?_
             refine zqp ?_
             refine KY (j := 102) (b' := true) rfl hs434 ?_
             iterate 11 refine zK ?_
             refine z_nil rfl rfl (fun e he => by simp [isAl] at he) ?_
             refine pK ?_
             refine pK ?_
             refine KP rfl rfl rfl rfl rfl rfl ?_
             refine KC ?_
             have e413 := Kn hm; subst e413
             refine ⟨rfl, ?_⟩
             exact WkX.of () (WkS.perm (WkS.cons rfl (Wk.refl _) (WkS.cons rfl (Wk.refl _) (WkS.cons rfl (Wk.refl _) (WkS.cons rfl (Wk.refl _) (WkS.cons rfl (Wk.refl _) (WkS.nil)))))) Pf Pf)
            ·replace hm := yes_f hs434 hm
             obtain ⟨x435, q435, hm⟩ := Kf hm
             obtain ⟨x436, q436, hm⟩ := Kf hm
             refine Kah 95 [] nlGm1_25 [0,2,3,5,7,8,12,14,15,17,19,20,25,27,28,30,32,33,40,42,43,45,47,48,54,56,57,58,59,61,62,63,65,69,71,72,73,74,76,77,78,80,84,86,87,88,89,91,92,93] Kdt (by kernel_rfl) (by kernel_rfl) (by kernel_rfl) (by rfl) (by rfl) (by kernel_rfl) ?_
             iterate 50 apply Exists.intro
             intro bs
             refine zep ?_
             refine zqp ?_
             refine z_e rfl rfl (Ex.wk (KH htab rfl rfl rfl rfl rfl rfl rfl (Kt q414) (KA q414)) (Wk.of_eq (congrArg D.el (Kp x414)))) rfl rfl rfl rfl rfl rfl ?_
             refine zep ?_
             refine z_qM rfl rfl (Kz htab rfl rfl rfl rfl rfl) rfl rfl rfl rfl rfl rfl ?_
             refine zep ?_
             refine zqp ?_
             refine z_e rfl rfl (Ex.wk (KH htab rfl rfl rfl rfl rfl rfl rfl (Kt q415) (KA q415)) (Wk.of_eq (congrArg D.el (Kp x415)))) rfl rfl rfl rfl rfl rfl ?_
             refine zep ?_
             refine z_qM rfl rfl (Kz htab rfl rfl rfl rfl rfl) rfl rfl rfl rfl rfl rfl ?_
             refine zqp ?_
             refine zqp ?_
             refine KY (j := 30) (b' := false) rfl hs416 ?_
             refine zep ?_
             refine zqp ?_
             refine z_e rfl rfl (Ex.wk (KH htab rfl rfl rfl rfl rfl rfl rfl (Kt q417) (KA q417)) (Wk.of_eq (congrArg D.el (Kp x417)))) rfl rfl rfl rfl rfl rfl ?_
             refine zep ?_
             refine z_qM rfl rfl (Kz htab rfl rfl rfl rfl rfl) rfl rfl rfl rfl rfl rfl ?_
             refine zep ?_
             refine zqp ?_
             refine z_e rfl rfl (Ex.wk (KH htab rfl rfl rfl rfl rfl rfl rfl (Kt q418) (KA q418)) (Wk.of_eq (congrArg D.el (Kp x418)))) rfl rfl rfl rfl rfl rfl ?_
             refine zep ?_
             refine z_qM rfl rfl (Kz htab rfl rfl rfl rfl rfl) rfl rfl rfl rfl rfl rfl ?_
             refine zqp ?_
             refine z_q rfl rfl (Kak rfl rfl rfl) rfl rfl rfl rfl rfl rfl ?_
             refine zqp ?_
             refine KY (j := 43) (b' := false) rfl hs419 ?_
             refine zep ?_
             refine zqp ?_
             refine z_e rfl rfl (Ex.wk (KH htab rfl rfl rfl rfl rfl rfl rfl (Kt q420) (KA q420)) (Wk.of_eq (congrArg D.el (Kp x420)))) rfl rfl rfl rfl rfl rfl ?_
             refine zep ?_
             refine z_qM rfl rfl (Kz htab rfl rfl rfl rfl rfl) rfl rfl rfl rfl rfl rfl ?_
             refine zep ?_
             refine zqp ?_
             refine z_e rfl rfl (Ex.wk (KH htab rfl rfl rfl rfl rfl rfl rfl (Kt q421) (KA q421)) (Wk.of_eq (congrArg D.el (Kp x421)))) rfl rfl rfl rfl rfl rfl ?_
             refine zep ?_
             refine z_qM rfl rfl (Kz htab rfl rfl rfl rfl rfl) rfl rfl rfl rfl rfl rfl ?_
             refine zqp ?_
             refine z_q rfl rfl (Kak rfl rfl rfl) rfl rfl rfl rfl rfl rfl ?_
             refine zqp ?_
             refine KY (j := 56) (b' := false) rfl hs422 ?_
             refine zqp ?_
             refine zqp ?_
             refine KY (j := 58) (b' := true) rfl hs423 ?_
             refine zep ?_
             refine zqp ?_
             refine z_e rfl rfl (Ex.wk (KH htab rfl rfl rfl rfl rfl rfl rfl (Kt q424) (KA q424)) (Wk.of_eq (congrArg D.el (Kp x424)))) rfl rfl rfl rfl rfl rfl ?_
             refine zep ?_
             refine z_qM rfl rfl (Kz htab rfl rfl rfl rfl rfl) rfl rfl rfl rfl rfl rfl ?_
             refine zep ?_
             refine zqp ?_
             refine z_e rfl rfl (Ex.wk (KH htab rfl rfl rfl rfl rfl rfl rfl (Kt q425) (KA q425)) (Wk.of_eq (congrArg D.el (Kp x425)))) rfl rfl rfl rfl rfl rfl ?_
             refine zep ?_
             refine z_qM rfl rfl (Kz htab rfl rfl rfl rfl rfl) rfl rfl rfl rfl rfl rfl ?_
             refine zqp ?_
             refine z_q rfl rfl (Ka5 rfl rfl rfl) rfl rfl rfl rfl rfl rfl ?_
             refine z_q rfl rfl (Kak rfl rfl rfl) rfl rfl rfl rfl rfl rfl ?_
             refine zqp ?_
             refine KY (j := 72) (b' := false) rfl hs426 ?_
             refine zep ?_
             refine zqp ?_
             refine z_e rfl rfl (Ex.wk (KH htab rfl rfl rfl rfl rfl rfl rfl (Kt q427) (KA q427)) (Wk.of_eq (congrArg D.el (Kp x427)))) rfl rfl rfl rfl rfl rfl ?_
             refine zep ?_
             refine z_eM rfl rfl (Kz htab rfl rfl rfl rfl rfl) rfl rfl rfl rfl rfl rfl ?_
             refine zep ?_
             refine zqp ?_
             refine z_e rfl rfl (Ex.wk (KH htab rfl rfl rfl rfl rfl rfl rfl (Kt q428) (KA q428)) (Wk.of_eq (congrArg D.el (Kp x428)))) rfl rfl rfl rfl rfl rfl ?_
             refine zep ?_
             refine z_eM rfl rfl (Kz htab rfl rfl rfl rfl rfl) rfl rfl rfl rfl rfl rfl ?_
             refine zqp ?_
             refine KdE rfl rfl (Kd3 x427.gExps x428.gExps a2 x429 q429) rfl rfl Wl rfl rfl rfl rfl rfl rfl ?_
             refine zqp ?_
             refine z_q rfl rfl (Kak rfl rfl rfl) rfl rfl rfl rfl rfl rfl ?_
             refine zqp ?_
             refine KY (j := 87) (b' := false) rfl hs430 ?_
             refine zep ?_
             refine zqp ?_
             refine z_e rfl rfl (Ex.wk (KH htab rfl rfl rfl rfl rfl rfl rfl (Kt q431) (KA q431)) (Wk.of_eq (congrArg D.el (Kp x431)))) rfl rfl rfl rfl rfl rfl ?_
             refine zep ?_
             refine z_eM rfl rfl (Kz htab rfl rfl rfl rfl rfl) rfl rfl rfl rfl rfl rfl ?_
             refine zep ?_
             refine zqp ?_
             refine z_e rfl rfl (Ex.wk (KH htab rfl rfl rfl rfl rfl rfl rfl (Kt q432) (KA q432)) (Wk.of_eq (congrArg D.el (Kp x432)))) rfl rfl rfl rfl rfl rfl ?_
             refine zep ?_
             refine z_eM rfl rfl (Kz htab rfl rfl rfl rfl rfl) rfl rfl rfl rfl rfl rfl ?_
             refine zqp ?_
             refine KdE rfl rfl (hg0 x431.gKids x432.gKids a2 x433 q433) rfl rfl Wl rfl rfl rfl rfl rfl rfl ?_
             refine zqp ?_
             refine z_q rfl rfl (Kak rfl rfl rfl) rfl rfl rfl rfl rfl rfl ?_
             refine zqp ?_
             refine KY (j := 102) (b' := false) rfl hs434 ?_
             refine zep ?_
             refine zqp ?_
             refine z_e rfl rfl (Ex.wk (KH htab rfl rfl rfl rfl rfl rfl rfl (Kt q435) (KA q435)) (Wk.of_eq (congrArg D.el (Kp x435)))) rfl rfl rfl rfl rfl rfl ?_
             refine zep ?_
             refine z_eM rfl rfl (Kz htab rfl rfl rfl rfl rfl) rfl rfl rfl rfl rfl rfl ?_
             refine zep ?_
             refine zqp ?_
             refine z_e rfl rfl (Ex.wk (KH htab rfl rfl rfl rfl rfl rfl rfl (Kt q436) (KA q436)) (Wk.of_eq (congrArg D.el (Kp x436)))) rfl rfl rfl rfl rfl rfl ?_
             refine zep ?_
             refine z_eM rfl rfl (Kz htab rfl rfl rfl rfl rfl) rfl rfl rfl rfl rfl rfl ?_
             refine zqp ?_
             refine z_nil rfl rfl (fun e he => by simp [isAl] at he) ?_
             obtain ⟨x437, q437, hm⟩ := Kf hm
             refine Kaw (hg0 x435.gElse x436.gElse a2 x437 q437) rfl rfl rfl rfl rfl Wl ?_
             rintro _ rfl
             refine pu ?_
             refine KL rfl rfl rfl rfl rfl rfl ?_
             refine KC ?_
             have e413 := Kn hm; subst e413
             refine ⟨rfl, ?_⟩
             exact WkX.of () (WkS.perm (WkS.cons rfl (Wk.refl _) (WkS.cons rfl (Wk.refl _) (WkS.cons rfl (Wk.refl _) (WkS.cons rfl (Wk.refl _) (WkS.cons rfl (Wk.refl _) (WkS.nil)))))) Pf Pf)
         ·replace hm := yes_f hs423 hm
          obtain ⟨x438, q438, hm⟩ := Kf hm
          obtain ⟨x439, q439, hm⟩ := Kf hm
          obtain ⟨x440, q440, hm⟩ := Kf hm
          refine bycB (!x440) (fun hs441 => ?_) (fun hs441 => ?_)
          ·replace hm := yes_t hs441 hm
           refine Kah 95 [] nlGm1_26 [0,2,3,5,7,8,12,14,15,17,19,20,25,27,28,30,32,33,54,56,57,58,59,61,62,63,65] Kdt (by kernel_rfl) (by kernel_rfl) (by kernel_rfl) (by rfl) (by rfl) (by kernel_rfl) ?_
           iterate 27 apply Exists.intro
           intro bs
           refine zep ?_
           refine zqp ?_
           refine z_e rfl rfl (Ex.wk (KH htab rfl rfl rfl rfl rfl rfl rfl (Kt q414) (KA q414)) (Wk.of_eq (congrArg D.el (Kp x414)))) rfl rfl rfl rfl rfl rfl ?_
           refine zep ?_
           refine z_qM rfl rfl (Kz htab rfl rfl rfl rfl rfl) rfl rfl rfl rfl rfl rfl ?_
           refine zep ?_
           refine zqp ?_
           refine z_e rfl rfl (Ex.wk (KH htab rfl rfl rfl rfl rfl rfl rfl (Kt q415) (KA q415)) (Wk.of_eq (congrArg D.el (Kp x415)))) rfl rfl rfl rfl rfl rfl ?_
           refine zep ?_
           refine z_qM rfl rfl (Kz htab rfl rfl rfl rfl rfl) rfl rfl rfl rfl rfl rfl ?_
           refine zqp ?_
           refine zqp ?_
           refine KY (j := 30) (b' := false) rfl hs416 ?_
           refine zep ?_
           refine zqp ?_
           refine z_e rfl rfl (Ex.wk (KH htab rfl rfl rfl rfl rfl rfl rfl (Kt q417) (KA q417)) (Wk.of_eq (congrArg D.el (Kp x417)))) rfl rfl rfl rfl rfl rfl ?_
           refine zep ?_
           refine z_qM rfl rfl (Kz htab rfl rfl rfl rfl rfl) rfl rfl rfl rfl rfl rfl ?_
           refine zep ?_
           refine zqp ?_
           refine z_e rfl rfl (Ex.wk (KH htab rfl rfl rfl rfl rfl rfl rfl (Kt q418) (KA q418)) (Wk.of_eq (congrArg D.el (Kp x418)))) rfl rfl rfl rfl rfl rfl ?_
           refine zep ?_
           refine z_qM rfl rfl (Kz htab rfl rfl rfl rfl rfl) rfl rfl rfl rfl rfl rfl ?_
           refine zqp ?_
           refine z_q rfl rfl (Kak rfl rfl rfl) rfl rfl rfl rfl rfl rfl ?_
           refine zqp ?_
           refine KY (j := 43) (b' := false) rfl hs419 ?_
           refine zep ?_
           refine zqp ?_
           refine z_e rfl rfl (Ex.wk (KH htab rfl rfl rfl rfl rfl rfl rfl (Kt q420) (KA q420)) (Wk.of_eq (congrArg D.el (Kp x420)))) rfl rfl rfl rfl rfl rfl ?_
           refine zep ?_
           refine z_qM rfl rfl (Kz htab rfl rfl rfl rfl rfl) rfl rfl rfl rfl rfl rfl ?_
           refine zep ?_
           refine zqp ?_
           refine z_e rfl rfl (Ex.wk (KH htab rfl rfl rfl rfl rfl rfl rfl (Kt q421) (KA q421)) (Wk.of_eq (congrArg D.el (Kp x421)))) rfl rfl rfl rfl rfl rfl ?_
           refine zep ?_
           refine z_qM rfl rfl (Kz htab rfl rfl rfl rfl rfl) rfl rfl rfl rfl rfl rfl ?_
           refine zqp ?_
           refine z_q rfl rfl (Kak rfl rfl rfl) rfl rfl rfl rfl rfl rfl ?_
           refine zqp ?_
           refine KY (j := 56) (b' := false) rfl hs422 ?_
           refine zqp ?_
           refine zqp ?_
           refine KY (j := 58) (b' := false) rfl hs423 ?_
           iterate 11 refine zK ?_
           refine z_q rfl rfl (Kak rfl rfl rfl) rfl rfl rfl rfl rfl rfl ?_
           refine z_q rfl rfl (Kak rfl rfl rfl) rfl rfl rfl rfl rfl rfl ?_
           refine zqp ?_
           refine zep ?_
           refine zqp ?_
           refine z_e rfl rfl (Ex.wk (KH htab rfl rfl rfl rfl rfl rfl rfl (Kt q438) (KA q438)) (Wk.of_eq (congrArg D.el (Kp x438)))) rfl rfl rfl rfl rfl rfl ?_
           refine zep ?_
           refine z_eM rfl rfl (Kz htab rfl rfl rfl rfl rfl) rfl rfl rfl rfl rfl rfl ?_
           refine zep ?_
           refine zqp ?_
           refine z_e rfl rfl (Ex.wk (KH htab rfl rfl rfl rfl rfl rfl rfl (Kt q439) (KA q439)) (Wk.of_eq (congrArg D.el (Kp x439)))) rfl rfl rfl rfl rfl rfl ?_
           refine zep ?_
           refine z_eM rfl rfl (Kz htab rfl rfl rfl rfl rfl) rfl rfl rfl rfl rfl rfl ?_
           refine zqp ?_
           refine KdE rfl rfl (Kd3 x438.gExps x439.gExps a2 x440 q440) rfl rfl Wl rfl rfl rfl rfl rfl rfl ?_
           refine zqp ?_
           refine z_q rfl rfl (Kak rfl rfl rfl) rfl rfl rfl rfl rfl rfl ?_
           refine zqp ?_
           refine KY (j := 87) (b' := true) rfl hs441 ?_
           iterate 13 refine zK ?_
           refine z_q rfl rfl (Ka5 rfl rfl rfl) rfl rfl rfl rfl rfl rfl ?_
           refine zqp ?_
           iterate 11 refine zK ?_
           refine z_nil rfl rfl (fun e he => by simp [isAl] at he) ?_
           refine pK ?_
           refine pK ?_
           refine KP rfl rfl rfl rfl rfl rfl ?_
           refine KC ?_
           have e413 := Kn hm; subst e413
           refine ⟨rfl, ?_⟩
           exact WkX.of () (WkS.perm (WkS.cons rfl (Wk.refl _) (WkS.cons rfl (Wk.refl _) (WkS.cons rfl (Wk.refl _) (WkS.cons rfl (Wk.refl _) (WkS.cons rfl (Wk.refl _) (WkS.nil)))))) Pf Pf)
          ·replace hm := yes_f hs441 hm
           obtain ⟨x442, q442, hm⟩ := Kf hm
           obtain ⟨x443, q443, hm⟩ := Kf hm
           obtain ⟨x444, q444, hm⟩ := Kf hm
           refine bycB (!x444) (fun hs445 => ?_) (fun hs445 => ?_)
           ·replace hm := yes_t hs445 hm
            refine Kah 95 [] nlGm1_27 [0,2,3,5,7,8,12,14,15,17,19,20,25,27,28,30,32,33,54,56,57,58,59,61,62,63,65,69,71,72,73,74,76,77,78,80] Kdt (by kernel_rfl) (by kernel_rfl) (by kernel_rfl) (by rfl) (by rfl) (by kernel_rfl) ?_
            iterate 36 apply Exists.intro
            intro bs
            refine zep ?_
            refine zqp ?_
            refine z_e rfl rfl (Ex.wk (KH htab rfl rfl rfl rfl rfl rfl rfl (Kt q414) (KA q414)) (Wk.of_eq (congrArg D.el (Kp x414)))) rfl rfl rfl rfl rfl rfl ?_
            refine zep ?_
            refine z_qM rfl rfl (Kz htab rfl rfl rfl rfl rfl) rfl rfl rfl rfl rfl rfl ?_
            refine zep ?_
            refine zqp ?_
            refine z_e rfl rfl (Ex.wk (KH htab rfl rfl rfl rfl rfl rfl rfl (Kt q415) (KA q415)) (Wk.of_eq (congrArg D.el (Kp x415)))) rfl rfl rfl rfl rfl rfl ?_
            refine zep ?_
            refine z_qM rfl rfl (Kz htab rfl rfl rfl rfl rfl) rfl rfl rfl rfl rfl rfl ?_
            refine zqp ?_
            refine zqp ?_
            refine KY (j := 30) (b' := false) rfl hs416 ?_
            refine zep ?_
            refine zqp ?_
            refine z_e rfl rfl (Ex.wk (KH htab rfl rfl rfl rfl rfl rfl rfl (Kt q417) (KA q417)) (Wk.of_eq (congrArg D.el (Kp x417)))) rfl rfl rfl rfl rfl rfl ?_
            refine zep ?_
            refine z_qM rfl rfl (Kz htab rfl rfl rfl rfl rfl) rfl rfl rfl rfl rfl rfl ?_
            refine zep ?_
            refine zqp ?_
            refine z_e rfl rfl (Ex.wk (KH htab rfl rfl rfl rfl rfl rfl rfl (Kt q418) (KA q418)) (Wk.of_eq (congrArg D.el (Kp x418)))) rfl rfl rfl rfl rfl rfl ?_
            refine zep ?_
            refine z_qM rfl rfl (Kz htab rfl rfl rfl rfl rfl) rfl rfl rfl rfl rfl rfl ?_
            refine zqp ?_
            refine z_q rfl rfl (Kak rfl rfl rfl) rfl rfl rfl rfl rfl rfl ?_
            refine zqp ?_
            refine KY (j := 43) (b' := false) rfl hs419 ?_
            refine zep ?_
            refine zqp ?_
            refine z_e rfl rfl (Ex.wk (KH htab rfl rfl rfl rfl rfl rfl rfl (Kt q420) (KA q420)) (Wk.of_eq (congrArg D.el (Kp x420)))) rfl rfl rfl rfl rfl rfl ?_
            refine zep ?_
            refine z_qM rfl rfl (Kz htab rfl rfl rfl rfl rfl) rfl rfl rfl rfl rfl rfl ?_
            refine zep ?_
            refine zqp ?_
            refine z_e rfl rfl (Ex.wk (KH htab rfl rfl rfl rfl rfl rfl rfl (Kt q421) (KA q421)) (Wk.of_eq (congrArg D.el (Kp x421)))) rfl rfl rfl rfl rfl rfl ?_
            refine zep ?_
            refine z_qM rfl rfl (Kz htab rfl rfl rfl rfl rfl) rfl rfl rfl rfl rfl rfl ?_
            refine zqp ?_
            refine z_q rfl rfl (Kak rfl rfl rfl) rfl rfl rfl rfl rfl rfl ?_
            refine zqp ?_
            refine KY (j := 56) (b' := false) rfl hs422 ?_
            refine zqp ?_
            refine zqp ?_
            refine KY (j := 58) (b' := false) rfl hs423 ?_
            iterate 11 refine zK ?_
            refine z_q rfl rfl (Kak rfl rfl rfl) rfl rfl rfl rfl rfl rfl ?_
            refine z_q rfl rfl (Kak rfl rfl rfl) rfl rfl rfl rfl rfl rfl ?_
            refine zqp ?_
            refine zep ?_
            refine zqp ?_
            refine z_e rfl rfl (Ex.wk (KH htab rfl rfl rfl rfl rfl rfl rfl (Kt q438) (KA q438)) (Wk.of_eq (congrArg D.el (Kp x438)))) rfl rfl rfl rfl rfl rfl ?_
            refine zep ?_
            refine z_eM rfl rfl (Kz htab rfl rfl rfl rfl rfl) rfl rfl rfl rfl rfl rfl ?_
            refine zep ?_
            refine zqp ?_
            refine z_e rfl rfl (Ex.wk (KH htab rfl rfl rfl rfl rfl rfl rfl (Kt q439) (KA q439)) (Wk.of_eq (congrArg D.el (Kp x439)))) rfl rfl rfl rfl rfl rfl ?_
            refine zep ?_
            refine z_eM rfl rfl (Kz htab rfl rfl rfl rfl rfl) rfl rfl rfl rfl rfl rfl ?_
            refine zqp ?_
            refine KdE rfl rfl (Kd3 x438.gExps x439.gExps a2 x440 q440) rfl rfl Wl rfl rfl rfl rfl rfl rfl ?_
            refine zqp ?_
            refine z_q rfl rfl (Kak rfl rfl rfl) rfl rfl rfl rfl rfl rfl ?_
            refine zqp ?_
            refine KY (j := 87) (b' := false) rfl hs441 ?_
            refine zep ?_
            refine zqp ?_
            refine z_e rfl rfl (Ex.wk (KH htab rfl rfl rfl rfl rfl rfl rfl (Kt q442) (KA q442)) (Wk.of_eq (congrArg D.el (Kp x442)))) rfl rfl rfl rfl rfl rfl ?_
            refine zep ?_
            refine z_eM rfl rfl (Kz htab rfl rfl rfl rfl rfl) rfl rfl rfl rfl rfl rfl ?_
            refine zep ?_
            refine zqp ?_
            refine z_e rfl rfl (Ex.wk (KH htab rfl rfl rfl rfl rfl rfl rfl (Kt q443) (KA q443)) (Wk.of_eq (congrArg D.el (Kp x443)))) rfl rfl rfl rfl rfl rfl ?_
            refine zep ?_
            refine z_eM rfl rfl (Kz htab rfl rfl rfl rfl rfl) rfl rfl rfl rfl rfl rfl ?_
            refine zqp ?_
            refine KdE rfl rfl (hg0 x442.gKids x443.gKids a2 x444 q444) rfl rfl Wl rfl rfl rfl rfl rfl rfl ?_
            refine zqp ?_
            refine z_q rfl rfl (Kak rfl rfl rfl) rfl rfl rfl rfl rfl rfl ?_
            refine zqp ?_
            refine KY (j := 102) (b' := true) rfl hs445 ?_
            iterate 11 refine zK ?_
            refine z_nil rfl rfl (fun e he => by simp [isAl] at he) ?_
            refine pK ?_
            refine pK ?_
            refine KP rfl rfl rfl rfl rfl rfl ?_
            refine KC ?_
            have e413 := Kn hm; subst e413
            refine ⟨rfl, ?_⟩
            exact WkX.of () (WkS.perm (WkS.cons rfl (Wk.refl _) (WkS.cons rfl (Wk.refl _) (WkS.cons rfl (Wk.refl _) (WkS.cons rfl (Wk.refl _) (WkS.cons rfl (Wk.refl _) (WkS.nil)))))) Pf Pf)
           ·replace hm := yes_f hs445 hm
            obtain ⟨x446, q446, hm⟩ := Kf hm
            obtain ⟨x447, q447, hm⟩ := Kf hm
            refine Kah 95 [] nlGm1_28 [0,2,3,5,7,8,12,14,15,17,19,20,25,27,28,30,32,33,54,56,57,58,59,61,62,63,65,69,71,72,73,74,76,77,78,80,84,86,87,88,89,91,92,93] Kdt (by kernel_rfl) (by kernel_rfl) (by kernel_rfl) (by rfl) (by rfl) (by kernel_rfl) ?_
            iterate 44 apply Exists.intro
            intro bs
            refine zep ?_
            refine zqp ?_
            refine z_e rfl rfl (Ex.wk (KH htab rfl rfl rfl rfl rfl rfl rfl (Kt q414) (KA q414)) (Wk.of_eq (congrArg D.el (Kp x414)))) rfl rfl rfl rfl rfl rfl ?_
            refine zep ?_
            refine z_qM rfl rfl (Kz htab rfl rfl rfl rfl rfl) rfl rfl rfl rfl rfl rfl ?_
            refine zep ?_
            refine zqp ?_
            refine z_e rfl rfl (Ex.wk (KH htab rfl rfl rfl rfl rfl rfl rfl (Kt q415) (KA q415)) (Wk.of_eq (congrArg D.el (Kp x415)))) rfl rfl rfl rfl rfl rfl ?_
            refine zep ?_
            refine z_qM rfl rfl (Kz htab rfl rfl rfl rfl rfl) rfl rfl rfl rfl rfl rfl ?_
            refine zqp ?_
            refine zqp ?_
            refine KY (j := 30) (b' := false) rfl hs416 ?_
            refine zep ?_
            refine zqp ?_
            refine z_e rfl rfl (Ex.wk (KH htab rfl rfl rfl rfl rfl rfl rfl (Kt q417) (KA q417)) (Wk.of_eq (congrArg D.el (Kp x417)))) rfl rfl rfl rfl rfl rfl ?_
            refine zep ?_
            refine z_qM rfl rfl (Kz htab rfl rfl rfl rfl rfl) rfl rfl rfl rfl rfl rfl ?_
            refine zep ?_
            refine zqp ?_
            refine z_e rfl rfl (Ex.wk (KH htab rfl rfl rfl rfl rfl rfl rfl (Kt q418) (KA q418)) (Wk.of_eq (congrArg D.el (Kp x418)))) rfl rfl rfl rfl rfl rfl ?_
            refine zep ?_
            refine z_qM rfl rfl (Kz htab rfl rfl rfl rfl rfl) rfl rfl rfl rfl rfl rfl ?_
            refine zqp ?_
            refine z_q rfl rfl (Kak rfl rfl rfl) rfl rfl rfl rfl rfl rfl ?_
            refine zqp ?_
            refine KY (j := 43) (b' := false) rfl hs419 ?_
            refine zep ?_
            refine zqp ?_
            refine z_e rfl rfl (Ex.wk (KH htab rfl rfl rfl rfl rfl rfl rfl (Kt q420) (KA q420)) (Wk.of_eq (congrArg D.el (Kp x420)))) rfl rfl rfl rfl rfl rfl ?_
            refine zep ?_
            refine z_qM rfl rfl (Kz htab rfl rfl rfl rfl rfl) rfl rfl rfl rfl rfl rfl ?_
            refine zep ?_
            refine zqp ?_
            refine z_e rfl rfl (Ex.wk (KH htab rfl rfl rfl rfl rfl rfl rfl (Kt q421) (KA q421)) (Wk.of_eq (congrArg D.el (Kp x421)))) rfl rfl rfl rfl rfl rfl ?_
            refine zep ?_
            refine z_qM rfl rfl (Kz htab rfl rfl rfl rfl rfl) rfl rfl rfl rfl rfl rfl ?_
            refine zqp ?_
            refine z_q rfl rfl (Kak rfl rfl rfl) rfl rfl rfl rfl rfl rfl ?_
            refine zqp ?_
            refine KY (j := 56) (b' := false) rfl hs422 ?_
            refine zqp ?_
            refine zqp ?_
            refine KY (j := 58) (b' := false) rfl hs423 ?_
            iterate 11 refine zK ?_
            refine z_q rfl rfl (Kak rfl rfl rfl) rfl rfl rfl rfl rfl rfl ?_
            refine z_q rfl rfl (Kak rfl rfl rfl) rfl rfl rfl rfl rfl rfl ?_
            refine zqp ?_
            refine zep ?_
            refine zqp ?_
            refine z_e rfl rfl (Ex.wk (KH htab rfl rfl rfl rfl rfl rfl rfl (Kt q438) (KA q438)) (Wk.of_eq (congrArg D.el (Kp x438)))) rfl rfl rfl rfl rfl rfl ?_
            refine zep ?_
            refine z_eM rfl rfl (Kz htab rfl rfl rfl rfl rfl) rfl rfl rfl rfl rfl rfl ?_
            refine zep ?_
            refine zqp ?_
            refine z_e rfl rfl (Ex.wk (KH htab rfl rfl rfl rfl rfl rfl rfl (Kt q439) (KA q439)) (Wk.of_eq (congrArg D.el (Kp x439)))) rfl rfl rfl rfl rfl rfl ?_
            refine zep ?_
            refine z_eM rfl rfl (Kz htab rfl rfl rfl rfl rfl) rfl rfl rfl rfl rfl rfl ?_
            refine zqp ?_
            refine KdE rfl rfl (Kd3 x438.gExps x439.gExps a2 x440 q440) rfl rfl Wl rfl rfl rfl rfl rfl rfl ?_
            refine zqp ?_
            refine z_q rfl rfl (Kak rfl rfl rfl) rfl rfl rfl rfl rfl rfl ?_
            refine zqp ?_
            refine KY (j := 87) (b' := false) rfl hs441 ?_
            refine zep ?_
            refine zqp ?_
            refine z_e rfl rfl (Ex.wk (KH htab rfl rfl rfl rfl rfl rfl rfl (Kt q442) (KA q442)) (Wk.of_eq (congrArg D.el (Kp x442)))) rfl rfl rfl rfl rfl rfl ?_
            refine zep ?_
            refine z_eM rfl rfl (Kz htab rfl rfl rfl rfl rfl) rfl rfl rfl rfl rfl rfl ?_
            refine zep ?_
            refine zqp ?_
            refine z_e rfl rfl (Ex.wk (KH htab rfl rfl rfl rfl rfl rfl rfl (Kt q443) (KA q443)) (Wk.of_eq (congrArg D.el (Kp x443)))) rfl rfl rfl rfl rfl rfl ?_
            refine zep ?_
            refine z_eM rfl rfl (Kz htab rfl rfl rfl rfl rfl) rfl rfl rfl rfl rfl rfl ?_
            refine zqp ?_
            refine KdE rfl rfl (hg0 x442.gKids x443.gKids a2 x444 q444) rfl rfl Wl rfl rfl rfl rfl rfl rfl ?_
            refine zqp ?_
            refine z_q rfl rfl (Kak rfl rfl rfl) rfl rfl rfl rfl rfl rfl ?_
            refine zqp ?_
            refine KY (j := 102) (b' := false) rfl hs445 ?_
            refine zep ?_
            refine zqp ?_
            refine z_e rfl rfl (Ex.wk (KH htab rfl rfl rfl rfl rfl rfl rfl (Kt q446) (KA q446)) (Wk.of_eq (congrArg D.el (Kp x446)))) rfl rfl rfl rfl rfl rfl ?_
            refine zep ?_
            refine z_eM rfl rfl (Kz htab rfl rfl rfl rfl rfl) rfl rfl rfl rfl rfl rfl ?_
            refine zep ?_
            refine zqp ?_
            refine z_e rfl rfl (Ex.wk (KH htab rfl rfl rfl rfl rfl rfl rfl (Kt q447) (KA q447)) (Wk.of_eq (congrArg D.el (Kp x447)))) rfl rfl rfl rfl rfl rfl ?_
            refine zep ?_
            refine z_eM rfl rfl (Kz htab rfl rfl rfl rfl rfl) rfl rfl rfl rfl rfl rfl ?_
            refine zqp ?_
            refine z_nil rfl rfl (fun e he => by simp [isAl] at he) ?_
            obtain ⟨x448, q448, hm⟩ := Kf hm
            refine Kaw (hg0 x446.gElse x447.gElse a2 x448 q448) rfl rfl rfl rfl rfl Wl ?_
            rintro _ rfl
            refine pu ?_
            refine KL rfl rfl rfl rfl rfl rfl ?_
            refine KC ?_
            have e413 := Kn hm; subst e413
            refine ⟨rfl, ?_⟩
            exact WkX.of () (WkS.perm (WkS.cons rfl (Wk.refl _) (WkS.cons rfl (Wk.refl _) (WkS.cons rfl (Wk.refl _) (WkS.cons rfl (Wk.refl _) (WkS.cons rfl (Wk.refl _) (WkS.nil)))))) Pf Pf)
     ·intro s413 hw413; clear hm; have hm := ho413; clear q413 ho413
      refine Ki ?_
      refine KZ hw413 (fun z413 => ?_)
      refine Ku rfl (fun hc449 => ?_) (fun hc449 => ?_)
      ·replace hm := yes_t hc449 hm
       refine Kj ?_
       refine pu ?_
       refine Kh ?_
       refine Ks ?_
       refine KR ?_
       refine Kx ?_
       have e228 := Kac hm; subst e228; clear hm; have hm := hq228
       refine Kx ?_
       refine KR ?_
       have e227 := Kn hm; subst e227; refine Kbi ?_; clear hm; have hm := ho227; simp only [Sum.elim_inr] at hm
       refine Kx ?_
       have er450 := Kn hm; subst er450
       refine rP (t' := [(6, .v (.bool false))]) [] [] 0 (wC wN) (lT lN) ?_
       exact ⟨rfl, rfl, rfl⟩
      ·replace hm := yes_f hc449 hm
       refine Kv ?_
       refine KF ?_
       refine Ki ?_
       refine KD ?_
       iterate 3 refine pu ?_
       refine KC ?_
       refine Ki ⟨_, KaA hm, ?_⟩
       exact WkX.of () (WkS.perm (WkS.cons rfl (Wk.refl _) (WkS.cons rfl (Wk.refl _) (WkS.cons rfl (Wk.refl _) (WkS.cons rfl (Wk.refl _) (WkS.nil))))) Pf Pf)
    ·replace hm := yes_f hc377 hm
     refine Kan ?_
     refine KJ ?_
     have e228 := Kac hm; subst e228; clear hm; have hm := hq228
     refine KJ ?_
     refine Kae ?_
     have e227 := Kn hm; subst e227
     refine Kb1 ?_
     exact WkX.of () (WkS.perm (WkS.nil) Pf Pf)
  ·intro y227 s227 hx227 hw227; subst hx227; clear hm; have hm := ho227; simp only [Sum.elim_inl] at hm; clear q227 ho227
   refine Ki ?_
   refine KZ hw227 (fun z227 => ?_)
   refine Kj ?_
   refine pu ?_
   refine Kh ?_
   refine Ks ?_
   have er451 := Kn hm; subst er451
   refine rP (t' := [(6, .v (.bool true))]) [] [] 0 (wC wN) (lT lN) ?_
   exact ⟨rfl, rfl, rfl⟩
noncomputable def Kbv : Nat → ((List Kl) → (List Kl) → (Bool) → Option (Bool))
 | 0 => (fun _ _ _ => none)
 | n + 1 => (Kcu ((Kbv n)))
theorem KgB : ∀ n, (∀ (a0 : List Kl) (a1 : List Kl) (a2 : Bool) (r : Bool) (h0 : (Kbv n) a0 a1 a2 = some r), CallsD Try.prog 20 [.lst 7 (a0.map Kk) .no, .lst 7 (a1.map Kk) .no, .v (.bool a2)] [] [] (fun d h k => d = .v (.bool r) ∧ h = [] ∧ k = []))
  | 0 => fun _ _ _ _ h0 => by cases h0
  | n + 1 => by
    have ih := KgB n
    exact Kje (Kbv n) ih
theorem KgC : ∀ n, (∀ (a0 : List Kl) (a1 : List Kl) (a2 : Bool), Le ((Kbv n) a0 a1 a2) ((Kbv (n + 1)) a0 a1 a2))
  | 0 => fun _ _ _ => Le.none _
  | n + 1 => by
    have ih := KgC n
    exact fun a0 a1 a2 => by show Le (Kcu ((Kbv n)) a0 a1 a2) (Kcu ((Kbv (n + 1))) a0 a1 a2); unfold Kcu; repeat (first | exact Le.refl _ | exact ih _ _ _ | assumption | (refine Le.bind ?_ (fun _ => ?_)) | (refine Le.cond ?_ ?_) | (refine Le.loop (fun _ => ?_)) | (refine Le.elim (fun _ => ?_) (fun _ => ?_)))
noncomputable def KfD (a0 : List Kl) (a1 : List Kl) (a2 : Bool) : Option (Bool) := anyN fun n => (Kbv n) a0 a1 a2
theorem KjM (a0 : List Kl) (a1 : List Kl) (a2 : Bool) {r : Bool} (n : Nat) (h : (Kbv n) a0 a1 a2 = some r) : KfD a0 a1 a2 = some r := Kc9 (fun m => (KgC m) a0 a1 a2) h
theorem KjN (a0 : List Kl) (a1 : List Kl) (a2 : Bool) (r : Bool) (h0 : KfD a0 a1 a2 = some r) : CallsD Try.prog 20 [.lst 7 (a0.map Kk) .no, .lst 7 (a1.map Kk) .no, .v (.bool a2)] [] [] (fun d h k => d = .v (.bool r) ∧ h = [] ∧ k = []) :=
 let ⟨n, hn⟩ := KcI h0; (KgB n) a0 a1 a2  r hn
noncomputable def Kek (a0 : KS) (a1 : KS) (a2 : Bool) : Option (Bool) :=
 (bif (decide (a0.gName = a1.gName)) then ((Kft a0.gParams a1.gParams).bind fun x4 => (bif x4 then ((Kft a0.gLocals a1.gLocals).bind fun x6 => (bif x6 then ((KfD a0.gBody a1.gBody a2).bind fun x8 => (bif x8 then (bif (!a2) then some true else some (a0.gAt == a1.gAt)) else some false)) else some false)) else some false)) else some false)
theorem Kjz (a0 : KS) (a1 : KS) (a2 : Bool) (r : Bool) (h0 : Kek a0 a1 a2 = some r) : CallsD Try.prog 8 [Kkb a0, Kkb a1, .v (.bool a2)] [] [] (fun d h k => d = .v (.bool r) ∧ h = [] ∧ k = []) := by
 have hm := KE h0
 unfold Kek at hm
 clear h0
 refine KU htab Try.func8 rfl rfl rfl rfl rfl (fun C => ?_)
 refine Kj ?_
 refine p_box rfl rfl rfl rfl rfl rfl rfl (fun b1 => ?_)
 refine p_box rfl rfl rfl rfl rfl rfl rfl (fun b2 => ?_)
 refine pu ?_
 refine Ky ?_
 refine pu ?_
 refine pL 0 ?_
 refine pu ?_
 refine pL 1 ?_
 refine pu ?_
 refine pu ?_
 refine K5 (i := 12) rfl (fun hg3 => ?_) (fun hg3 => ?_)
 ·replace hm := yes_t hg3 hm
  refine pu ?_
  refine pL 0 ?_
  refine pu ?_
  refine pL 1 ?_
  obtain ⟨x4, q4, hm⟩ := Kf hm
  refine Kaw (KiW a0.gParams a1.gParams x4 q4) rfl rfl rfl rfl rfl Wl ?_
  rintro _ rfl
  refine KP rfl rfl rfl rfl rfl rfl ?_
  refine pu ?_
  refine K5 (i := 19) rfl (fun hg5 => ?_) (fun hg5 => ?_)
  ·replace hm := yes_t hg5 hm
   refine pu ?_
   refine pL 0 ?_
   refine pu ?_
   refine pL 1 ?_
   obtain ⟨x6, q6, hm⟩ := Kf hm
   refine Kaw (KiW a0.gLocals a1.gLocals x6 q6) rfl rfl rfl rfl rfl Wl ?_
   rintro _ rfl
   refine KP rfl rfl rfl rfl rfl rfl ?_
   refine pu ?_
   refine K5 (i := 26) rfl (fun hg7 => ?_) (fun hg7 => ?_)
   ·replace hm := yes_t hg7 hm
    refine pu ?_
    refine pL 0 ?_
    refine pu ?_
    refine pL 1 ?_
    refine pu ?_
    obtain ⟨x8, q8, hm⟩ := Kf hm
    refine Kaw (KjN a0.gBody a1.gBody a2 x8 q8) rfl rfl rfl rfl rfl Wl ?_
    rintro _ rfl
    refine KP rfl rfl rfl rfl rfl rfl ?_
    refine pu ?_
    refine K5 (i := 34) rfl (fun hg9 => ?_) (fun hg9 => ?_)
    ·replace hm := yes_t hg9 hm
     iterate 3 refine pu ?_
     refine K5 (i := 37) rfl (fun hg10 => ?_) (fun hg10 => ?_)
     ·replace hm := yes_t hg10 hm
      iterate 5 refine pK ?_
      refine KP rfl rfl rfl rfl rfl rfl ?_
      refine KP rfl rfl rfl rfl rfl rfl ?_
      refine pu ?_
      refine Kh ?_
      refine Ks ?_
      have er11 := Kn hm; subst er11
      refine rP (t' := [(6, .v (.bool true))]) [] [] 0 (wC wN) (lT lN) ?_
      exact ⟨rfl, rfl, rfl⟩
     ·replace hm := yes_f hg10 hm
      refine pu ?_
      refine pL 0 ?_
      refine pu ?_
      refine pL 1 ?_
      refine pu ?_
      refine KL rfl rfl rfl rfl rfl rfl ?_
      refine KP rfl rfl rfl rfl rfl rfl ?_
      refine pu ?_
      refine Kh ?_
      refine Ks ?_
      have er12 := Kn hm; subst er12
      refine rP (t' := [(6, .v (.bool (a0.gAt == a1.gAt)))]) [] [] 0 (wC wN) (lT lN) ?_
      exact ⟨rfl, rfl, rfl⟩
    ·replace hm := yes_f hg9 hm
     iterate 9 refine pK ?_
     refine KL rfl rfl rfl rfl rfl rfl ?_
     refine pu ?_
     refine Kh ?_
     refine Ks ?_
     have er13 := Kn hm; subst er13
     refine rP (t' := [(6, .v (.bool false))]) [] [] 0 (wC wN) (lT lN) ?_
     exact ⟨rfl, rfl, rfl⟩
   ·replace hm := yes_f hg7 hm
    iterate 6 refine pK ?_
    refine KL rfl rfl rfl rfl rfl rfl ?_
    refine pu ?_
    iterate 9 refine pK ?_
    refine KL rfl rfl rfl rfl rfl rfl ?_
    refine pu ?_
    refine Kh ?_
    refine Ks ?_
    have er14 := Kn hm; subst er14
    refine rP (t' := [(6, .v (.bool false))]) [] [] 0 (wC wN) (lT lN) ?_
    exact ⟨rfl, rfl, rfl⟩
  ·replace hm := yes_f hg5 hm
   iterate 5 refine pK ?_
   refine KL rfl rfl rfl rfl rfl rfl ?_
   refine pu ?_
   iterate 6 refine pK ?_
   refine KL rfl rfl rfl rfl rfl rfl ?_
   refine pu ?_
   iterate 9 refine pK ?_
   refine KL rfl rfl rfl rfl rfl rfl ?_
   refine pu ?_
   refine Kh ?_
   refine Ks ?_
   have er15 := Kn hm; subst er15
   refine rP (t' := [(6, .v (.bool false))]) [] [] 0 (wC wN) (lT lN) ?_
   exact ⟨rfl, rfl, rfl⟩
 ·replace hm := yes_f hg3 hm
  iterate 5 refine pK ?_
  refine KL rfl rfl rfl rfl rfl rfl ?_
  refine pu ?_
  iterate 5 refine pK ?_
  refine KL rfl rfl rfl rfl rfl rfl ?_
  refine pu ?_
  iterate 6 refine pK ?_
  refine KL rfl rfl rfl rfl rfl rfl ?_
  refine pu ?_
  iterate 9 refine pK ?_
  refine KL rfl rfl rfl rfl rfl rfl ?_
  refine pu ?_
  refine Kh ?_
  refine Ks ?_
  have er16 := Kn hm; subst er16
  refine rP (t' := [(6, .v (.bool false))]) [] [] 0 (wC wN) (lT lN) ?_
  exact ⟨rfl, rfl, rfl⟩
noncomputable def l13_lives : Option (Bool) :=
 ((KbE ([(105 : UInt8), (110 : UInt8), (116 : UInt8), (32 : UInt8), (102 : UInt8), (40 : UInt8), (105 : UInt8), (110 : UInt8), (116 : UInt8), (32 : UInt8), (42 : UInt8), (112 : UInt8), (41 : UInt8), (32 : UInt8), (123 : UInt8), (32 : UInt8), (114 : UInt8), (101 : UInt8), (116 : UInt8), (117 : UInt8), (114 : UInt8), (110 : UInt8), (32 : UInt8), (42 : UInt8), (112 : UInt8), (59 : UInt8), (32 : UInt8), (125 : UInt8)] : List UInt8)).bind fun x4 => (bif (x4.2.2 == (0 : Int)) then (bif (decide (x4.1.gName = (ByteArray.mk #[102]))) then (bif ((x4.1.gParams.length : Int) == (1 : Int)) then ((idx x4.1.gParams (0 : Int)).bind fun x9 => (bif x9.gPtr then (bif ((x4.1.gBody.length : Int) == (1 : Int)) then ((idx x4.1.gBody (0 : Int)).bind fun x12 => some (x12.gOp == (8 : Int))) else some false) else some false)) else some false) else some false) else some false))
theorem KkN  (r : Bool) (h0 : l13_lives = some r) : CallsD Try.prog 9 [] [] [] (fun d h k => d = .v (.bool r) ∧ h = [] ∧ k = []) := by
 have hm := KE h0
 unfold l13_lives at hm
 clear h0
 refine KU htab Try.func9 rfl rfl rfl rfl rfl (fun C => ?_)
 refine Kj ?_
 refine pu ?_
 refine Ky ?_
 refine p_litB htab rfl rfl rfl rfl rfl rfl rfl rfl rfl rfl rfl rfl rfl rfl rfl rfl rfl rfl rfl ?_
 refine p_eq (i := 6) (d' := .lst 1 (([(105 : UInt8), (110 : UInt8), (116 : UInt8), (32 : UInt8), (102 : UInt8), (40 : UInt8), (105 : UInt8), (110 : UInt8), (116 : UInt8), (32 : UInt8), (42 : UInt8), (112 : UInt8), (41 : UInt8), (32 : UInt8), (123 : UInt8), (32 : UInt8), (114 : UInt8), (101 : UInt8), (116 : UInt8), (117 : UInt8), (114 : UInt8), (110 : UInt8), (32 : UInt8), (42 : UInt8), (112 : UInt8), (59 : UInt8), (32 : UInt8), (125 : UInt8)] : List UInt8).map byteD) .no) rfl (Wk.lst0 (.cons (WkC.refl _) (.cons (WkC.refl _) (.cons (WkC.refl _) (.cons (WkC.refl _) (.cons (WkC.refl _) (.cons (WkC.refl _) (.cons (WkC.refl _) (.cons (WkC.refl _) (.cons (WkC.refl _) (.cons (WkC.refl _) (.cons (WkC.refl _) (.cons (WkC.refl _) (.cons (WkC.refl _) (.cons (WkC.refl _) (.cons (WkC.refl _) (.cons (WkC.refl _) (.cons (WkC.refl _) (.cons (WkC.refl _) (.cons (WkC.refl _) (.cons (WkC.refl _) (.cons (WkC.refl _) (.cons (WkC.refl _) (.cons (WkC.refl _) (.cons (WkC.refl _) (.cons (WkC.refl _) (.cons (WkC.refl _) (.cons (WkC.refl _) (.cons (WkC.refl _) (.nil)))))))))))))))))))))))))))))) ?_
 obtain ⟨x4, q4, hm⟩ := Kf hm
 refine pG (Kfo ([(105 : UInt8), (110 : UInt8), (116 : UInt8), (32 : UInt8), (102 : UInt8), (40 : UInt8), (105 : UInt8), (110 : UInt8), (116 : UInt8), (32 : UInt8), (42 : UInt8), (112 : UInt8), (41 : UInt8), (32 : UInt8), (123 : UInt8), (32 : UInt8), (114 : UInt8), (101 : UInt8), (116 : UInt8), (117 : UInt8), (114 : UInt8), (110 : UInt8), (32 : UInt8), (42 : UInt8), (112 : UInt8), (59 : UInt8), (32 : UInt8), (125 : UInt8)] : List UInt8) x4 q4) Wl Pf Pf ?_
 rintro _ _ _ ⟨w1, w2, w3, rfl, rfl, rfl⟩
 iterate 4 refine pu ?_
 refine KW htab rfl rfl rfl rfl rfl rfl rfl (fun b5 => ?_)
 refine pS0 (ds' := [tD x4.1.gName, .lst 2 (x4.1.gParams.map Kw) (.cur w1), .lst 2 (x4.1.gLocals.map Kw) (.cur w2), .lst 7 (x4.1.gBody.map Kk) (.cur w3), iD x4.1.gAt]) ?_
 refine pu ?_
 refine pu ?_
 refine Ky ?_
 iterate 3 refine pu ?_
 refine K5 (i := 13) rfl (fun hg6 => ?_) (fun hg6 => ?_)
 ·replace hm := yes_t hg6 hm
  refine pu ?_
  refine pL 0 ?_
  refine pu ?_
  refine KP rfl rfl rfl rfl rfl rfl ?_
  refine pu ?_
  refine K5 (i := 18) rfl (fun hg7 => ?_) (fun hg7 => ?_)
  ·replace hm := yes_t hg7 hm
   refine pu ?_
   refine pL 0 ?_
   refine KaK htab rfl rfl rfl rfl rfl rfl rfl (by first | exact Kab | rfl) ?_
   refine pu ?_
   refine KP rfl rfl rfl rfl rfl rfl ?_
   refine pu ?_
   refine K5 (i := 24) rfl (fun hg8 => ?_) (fun hg8 => ?_)
   ·replace hm := yes_t hg8 hm
    refine pu ?_
    refine pL 0 ?_
    obtain ⟨x9, q9, hm⟩ := Kf hm
    refine KaR htab rfl rfl rfl rfl rfl rfl rfl rfl rfl rfl (Kt q9) (KA q9) ?_
    refine pu ?_
    refine Kav htab rfl rfl rfl rfl rfl rfl rfl rfl ?_
    refine KP rfl rfl rfl rfl rfl rfl ?_
    refine pu ?_
    refine K5 (i := 31) rfl (fun hg10 => ?_) (fun hg10 => ?_)
    ·replace hm := yes_t hg10 hm
     refine pu ?_
     refine pL 0 ?_
     refine KaK htab rfl rfl rfl rfl rfl rfl rfl (by first | exact Kab | rfl) ?_
     refine pu ?_
     refine KP rfl rfl rfl rfl rfl rfl ?_
     refine pu ?_
     refine K5 (i := 37) rfl (fun hg11 => ?_) (fun hg11 => ?_)
     ·replace hm := yes_t hg11 hm
      refine pu ?_
      refine pL 0 ?_
      obtain ⟨x12, q12, hm⟩ := Kf hm
      refine KaR htab rfl rfl rfl rfl rfl rfl rfl rfl rfl rfl (Kt q12) (KA q12) ?_
      refine p_eq (i := 40) rfl (Wk.of_eq (congrArg D.el (Kp x12))) ?_
      refine pu ?_
      refine Kav htab rfl rfl rfl rfl rfl rfl rfl rfl ?_
      refine pu ?_
      refine KP rfl rfl rfl rfl rfl rfl ?_
      refine pu ?_
      refine Kh ?_
      refine Ks ?_
      have er13 := Kn hm; subst er13
      refine rP (t' := [(0, .v (.bool (x12.gOp == (8 : Int))))]) [] [] 0 (wC wN) (lT lN) ?_
      exact ⟨rfl, rfl, rfl⟩
     ·replace hm := yes_f hg11 hm
      iterate 6 refine pK ?_
      refine KL rfl rfl rfl rfl rfl rfl ?_
      refine pu ?_
      refine Kh ?_
      refine Ks ?_
      have er14 := Kn hm; subst er14
      refine rP (t' := [(0, .v (.bool false))]) [] [] 0 (wC wN) (lT lN) ?_
      exact ⟨rfl, rfl, rfl⟩
    ·replace hm := yes_f hg10 hm
     iterate 4 refine pK ?_
     refine KL rfl rfl rfl rfl rfl rfl ?_
     refine pu ?_
     iterate 6 refine pK ?_
     refine KL rfl rfl rfl rfl rfl rfl ?_
     refine pu ?_
     refine Kh ?_
     refine Ks ?_
     have er15 := Kn hm; subst er15
     refine rP (t' := [(0, .v (.bool false))]) [] [] 0 (wC wN) (lT lN) ?_
     exact ⟨rfl, rfl, rfl⟩
   ·replace hm := yes_f hg8 hm
    iterate 5 refine pK ?_
    refine KL rfl rfl rfl rfl rfl rfl ?_
    refine pu ?_
    iterate 4 refine pK ?_
    refine KL rfl rfl rfl rfl rfl rfl ?_
    refine pu ?_
    iterate 6 refine pK ?_
    refine KL rfl rfl rfl rfl rfl rfl ?_
    refine pu ?_
    refine Kh ?_
    refine Ks ?_
    have er16 := Kn hm; subst er16
    refine rP (t' := [(0, .v (.bool false))]) [] [] 0 (wC wN) (lT lN) ?_
    exact ⟨rfl, rfl, rfl⟩
  ·replace hm := yes_f hg7 hm
   iterate 4 refine pK ?_
   refine KL rfl rfl rfl rfl rfl rfl ?_
   refine pu ?_
   iterate 5 refine pK ?_
   refine KL rfl rfl rfl rfl rfl rfl ?_
   refine pu ?_
   iterate 4 refine pK ?_
   refine KL rfl rfl rfl rfl rfl rfl ?_
   refine pu ?_
   iterate 6 refine pK ?_
   refine KL rfl rfl rfl rfl rfl rfl ?_
   refine pu ?_
   refine Kh ?_
   refine Ks ?_
   have er17 := Kn hm; subst er17
   refine rP (t' := [(0, .v (.bool false))]) [] [] 0 (wC wN) (lT lN) ?_
   exact ⟨rfl, rfl, rfl⟩
 ·replace hm := yes_f hg6 hm
  iterate 3 refine pK ?_
  refine KL rfl rfl rfl rfl rfl rfl ?_
  refine pu ?_
  iterate 4 refine pK ?_
  refine KL rfl rfl rfl rfl rfl rfl ?_
  refine pu ?_
  iterate 5 refine pK ?_
  refine KL rfl rfl rfl rfl rfl rfl ?_
  refine pu ?_
  iterate 4 refine pK ?_
  refine KL rfl rfl rfl rfl rfl rfl ?_
  refine pu ?_
  iterate 6 refine pK ?_
  refine KL rfl rfl rfl rfl rfl rfl ?_
  refine pu ?_
  refine Kh ?_
  refine Ks ?_
  have er18 := Kn hm; subst er18
  refine rP (t' := [(0, .v (.bool false))]) [] [] 0 (wC wN) (lT lN) ?_
  exact ⟨rfl, rfl, rfl⟩
noncomputable def KdQ (a0 : List UInt8) : Option (Bool) :=
 ((KbE a0).bind fun x4 => ((Kej a0).bind fun x9 => ((Kek x4.1 x9.1 true).bind fun x11 => (bif x11 then (bif (x4.2.1 == x9.2.1) then (bif (x4.2.2 == x9.2.2) then (l13_lives.bind fun x15 => some x15) else some false) else some false) else some false))))
theorem l13_GrammarFuncs_ok (a0 : List UInt8) (r : Bool) (h0 : KdQ a0 = some r) : CallsD Try.prog 3 [.lst 1 (a0.map byteD) .no] [] [] (fun d h k => d = .v (.bool r) ∧ h = [] ∧ k = []) := by
 have hm := KE h0
 unfold KdQ at hm
 clear h0
 refine KU htab Try.func3 rfl rfl rfl rfl rfl (fun C => ?_)
 refine Kj ?_
 refine pu ?_
 refine Ky ?_
 refine pu ?_
 obtain ⟨x4, q4, hm⟩ := Kf hm
 refine pG (Kfo a0 x4 q4) Wl Pf Pf ?_
 rintro _ _ _ ⟨w1, w2, w3, rfl, rfl, rfl⟩
 iterate 4 refine pu ?_
 refine KW htab rfl rfl rfl rfl rfl rfl rfl (fun b5 => ?_)
 refine pS0 (ds' := [tD x4.1.gName, .lst 2 (x4.1.gParams.map Kw) (.cur w1), .lst 2 (x4.1.gLocals.map Kw) (.cur w2), .lst 7 (x4.1.gBody.map Kk) (.cur w3), iD x4.1.gAt]) ?_
 refine pu ?_
 refine pu ?_
 refine Ky ?_
 refine pu ?_
 obtain ⟨x9, q9, hm⟩ := Kf hm
 refine pG (Kjy a0 x9 q9) Wl Pf Pf ?_
 rintro _ _ _ ⟨w6, w7, w8, rfl, rfl, rfl⟩
 iterate 4 refine pu ?_
 refine KW htab rfl rfl rfl rfl rfl rfl rfl (fun b10 => ?_)
 refine pS1 (ds' := [tD x9.1.gName, .lst 2 (x9.1.gParams.map Kw) (.cur w6), .lst 2 (x9.1.gLocals.map Kw) (.cur w7), .lst 7 (x9.1.gBody.map Kk) (.cur w8), iD x9.1.gAt]) ?_
 refine pu ?_
 refine pu ?_
 refine Ky ?_
 refine K8 (d := .agg [tD x4.1.gName, .lst 2 (x4.1.gParams.map Kw) (.cur w1), .lst 2 (x4.1.gLocals.map Kw) (.cur w2), .lst 7 (x4.1.gBody.map Kk) (.cur w3), iD x4.1.gAt]) 0 htab rfl rfl rfl rfl rfl rfl rfl rfl ?_
 refine K8 (d := .agg [tD x9.1.gName, .lst 2 (x9.1.gParams.map Kw) (.cur w6), .lst 2 (x9.1.gLocals.map Kw) (.cur w7), .lst 7 (x9.1.gBody.map Kk) (.cur w8), iD x9.1.gAt]) 1 htab rfl rfl rfl rfl rfl rfl rfl rfl ?_
 obtain ⟨x11, q11, hm⟩ := Kf hm
 refine Kaw (Kjz x4.1 x9.1 true x11 q11) rfl rfl rfl rfl rfl (WkL.cons (Wk.agg (rC (rO (rO (rO (rC WkR.nil)))))) (WkL.cons (Wk.agg (rC (rO (rO (rO (rC WkR.nil)))))) (WkL.cons (Wk.refl _) Wl))) ?_
 rintro _ rfl
 refine pu ?_
 refine K5 (i := 24) rfl (fun hg12 => ?_) (fun hg12 => ?_)
 ·replace hm := yes_t hg12 hm
  iterate 3 refine pu ?_
  refine KP rfl rfl rfl rfl rfl rfl ?_
  refine pu ?_
  refine K5 (i := 29) rfl (fun hg13 => ?_) (fun hg13 => ?_)
  ·replace hm := yes_t hg13 hm
   iterate 3 refine pu ?_
   refine KP rfl rfl rfl rfl rfl rfl ?_
   refine pu ?_
   refine K5 (i := 34) rfl (fun hg14 => ?_) (fun hg14 => ?_)
   ·replace hm := yes_t hg14 hm
    obtain ⟨x15, q15, hm⟩ := Kf hm
    refine Kaw (KkN x15 q15) rfl rfl rfl rfl rfl Wl ?_
    rintro _ rfl
    refine KP rfl rfl rfl rfl rfl rfl ?_
    refine pu ?_
    refine Kh ?_
    refine Ks ?_
    have er16 := Kn hm; subst er16
    refine rP (t' := [(2, .v (.bool x15))]) [] [] 0 (wC wN) (lT lN) ?_
    exact ⟨rfl, rfl, rfl⟩
   ·replace hm := yes_f hg14 hm
    refine pK ?_
    refine KL rfl rfl rfl rfl rfl rfl ?_
    refine pu ?_
    refine Kh ?_
    refine Ks ?_
    have er17 := Kn hm; subst er17
    refine rP (t' := [(2, .v (.bool false))]) [] [] 0 (wC wN) (lT lN) ?_
    exact ⟨rfl, rfl, rfl⟩
  ·replace hm := yes_f hg13 hm
   iterate 3 refine pK ?_
   refine KL rfl rfl rfl rfl rfl rfl ?_
   refine pu ?_
   refine pK ?_
   refine KL rfl rfl rfl rfl rfl rfl ?_
   refine pu ?_
   refine Kh ?_
   refine Ks ?_
   have er18 := Kn hm; subst er18
   refine rP (t' := [(2, .v (.bool false))]) [] [] 0 (wC wN) (lT lN) ?_
   exact ⟨rfl, rfl, rfl⟩
 ·replace hm := yes_f hg12 hm
  iterate 3 refine pK ?_
  refine KL rfl rfl rfl rfl rfl rfl ?_
  refine pu ?_
  iterate 3 refine pK ?_
  refine KL rfl rfl rfl rfl rfl rfl ?_
  refine pu ?_
  refine pK ?_
  refine KL rfl rfl rfl rfl rfl rfl ?_
  refine pu ?_
  refine Kh ?_
  refine Ks ?_
  have er19 := Kn hm; subst er19
  refine rP (t' := [(2, .v (.bool false))]) [] [] 0 (wC wN) (lT lN) ?_
  exact ⟨rfl, rfl, rfl⟩
end Go.Proofs.Ytmgklehakmdiiaa.Ab
namespace Go.Proofs.Ytmgklehakmdiiaa.Ab
open Go
set_option linter.all false
def KgD (tab : List (Option TI)) (ts : List Nat) : Nat → List (Nat × Nat) → Option Nat
  | off, [] => some off
  | off, (ty, o) :: fs => match ti tab ty with
    | some i => bif Nat.beq o off && ts.contains ty then KgD tab ts (off + i.size) fs else none
    | none => none
def typeOK (tab : List (Option TI)) (ts : List Nat) (t : Nat) : Bool :=
  match ti tab t with
  | some i => match i.d with
    | .bool => Nat.beq i.size 1
    | .int _ => Nat.beq i.size 1
    | .str => Nat.beq i.size 1
    | .slice e => ts.contains e && Nat.beq i.size 1 && (match ti tab e with | some ie => Nat.ble 1 ie.size | none => false)
    | .struct fs => match KgD tab ts 0 fs with
      | some n => Nat.beq n i.size
      | none => false
    | .array n e => ts.contains e && (match ti tab e with | some ie => Nat.beq i.size (n * ie.size) | none => false)
    | _ => false
  | none => false
def closedT (tab : List (Option TI)) (ts : List Nat) : Bool := ts.all (typeOK tab ts)
def GoodT (tab : List (Option TI)) : Nat → Nat → D → Prop
  | 0, _, _ => False
  | n + 1, t, d => ∃ i, ti tab t = some i ∧ match i.d with
    | .bool => ∃ b, d = .v (.bool b)
    | .int k => ∃ m, d = .v (.int k m) ∧ (Lit.int k m).wf = true
    | .str => ∃ s : ByteArray, d = .v (.string s) ∧ s.size ≤ maxLen
    | .slice e => ∃ ie xs, ti tab e = some ie ∧ d = .lst ie.size xs .no ∧ xs.length ≤ maxLen ∧ ∀ x ∈ xs, GoodT tab n e x
    | .struct fs => ∃ ds : List D, d = .agg (ds.flatMap K0) ∧ ds.length = fs.length ∧ ∀ (j : Nat) (f : Nat × Nat) (d0 : D), fs[j]? = some f → ds[j]? = some d0 → GoodT tab n f.1 d0
    | .array m e => ∃ ds : List D, d = .agg (ds.flatMap K0) ∧ ds.length = m ∧ ∀ x ∈ ds, GoodT tab n e x
    | _ => False
section
variable {H : Type} {enc : TypeId × Value → H} {P : Program} {w : World} {base : Nat} {spare : Nat → Bool} {held : Bool} {tab : List (Option TI)} {ts : List Nat}
theorem Kff (hT : TabOK P tab) {t : TypeId} {i : TI} (h : ti tab t = some i) : P.cellsOf t = i.size := by
 obtain ⟨tf, z, dd, h1, _, _, h2, _⟩ := KeL (ti_ok hT h)
 simp [Program.cellsOf, h1, h2]
def allOf (w : World) : Hp := fun a => w.cell? a
theorem ag_all (w : World) : Ag (allOf w) w := fun _ _ h => h
def Rd (tab : List (Option TI)) (w : World) (n t : Nat) (cs : List Value) (d : D) : Prop :=
 ∃ i, ti tab t = some i ∧ RepC (allOf w) d cs ∧ Reps (allOf w) (K0 d) cs ∧ cs.length = i.size ∧ (K0 d).length = i.size ∧ GoodT tab n t d
theorem Kkd (hT : TabOK P tab) {n : Nat} {cs : List Value} (ih : ∀ t cs x, ts.contains t = true → DataW.trod enc P w base spare held n t cs = some x → ∃ d, Rd tab w n t cs d) :
    ∀ (gs : List Field) (off total : Nat), KgD tab ts off (gs.map fun f => (f.type, f.offset)) = some total → total ≤ cs.length → (∀ f ∈ gs, ∃ y, DataW.trod enc P w base spare held n f.type ((cs.drop f.offset).take (P.cellsOf f.type)) = some y) →
      off ≤ total ∧ ∃ ds : List D, ds.length = gs.length ∧ Reps (allOf w) (ds.flatMap K0) ((cs.drop off).take (total - off)) ∧ (ds.flatMap K0).length = total - off ∧ ∀ (j : Nat) (f : Nat × Nat) (d0 : D), (gs.map fun f => (f.type, f.offset))[j]? = some f → ds[j]? = some d0 → GoodT tab n f.1 d0
  | [], off, total, h, _, _ => by
    simp [KgD] at h; subst h
    exact ⟨Nat.le_refl _, [], rfl, by simp [Reps], by simp, fun j f d0 e => by simp at e⟩
  | g :: gs, off, total, h, hl, hy => by
    simp only [List.map_cons, KgD] at h
    split at h
    · rename_i i hi
      cases hb : (Nat.beq g.offset off && ts.contains g.type) with
      | false => rw [hb] at h; cases h
      | true =>
        rw [hb] at h
        simp only [cond_true] at h
        simp only [Bool.and_eq_true] at hb
        have ho := Nat.eq_of_beq_eq_true hb.1
        obtain ⟨y, hy0⟩ := hy g (by simp)
        obtain ⟨d, i', hi', h1, h2, h3, h4, h5⟩ := ih _ _ y hb.2 hy0
        rw [hi] at hi'; cases hi'
        obtain ⟨hle, ds, e1, e2, e3, e4⟩ := Kkd hT ih gs (off + i.size) total h hl fun f hf => hy f (by simp [hf])
        rw [Kff hT hi, ho] at h2
        refine ⟨by omega, d :: ds, by simp [e1], ?_, by simp [h4, e3]; omega, ?_⟩
        · simp only [List.flatMap_cons]
          have := KeB h2 e2
          have e : (cs.drop off).take i.size ++ (cs.drop (off + i.size)).take (total - (off + i.size)) = (cs.drop off).take (total - off) := by
            rw [show total - off = i.size + (total - (off + i.size)) by omega, List.take_add, List.drop_drop]
          rwa [e] at this
        · intro j f d0 hf hd
          cases j with
          | zero => simp at hf hd; subst hf; subst hd; exact h5
          | succ j => exact e4 j f d0 (by simpa using hf) (by simpa using hd)
    · cases h
theorem rd_elems {n e sz b off : Nat} {ie : TI} (hie : ti tab e = some ie) (hsz : ie.size = sz) (he : ts.contains e = true) (ih : ∀ t cs x, ts.contains t = true → DataW.trod enc P w base spare held n t cs = some x → ∃ d, Rd tab w n t cs d) :
    ∀ (m i0 : Nat), (∀ i, i0 ≤ i → i < i0 + m → ∃ cs y, w.cells? base ((⟨b, off, none⟩ : Addr).add (i * sz)) sz = some cs ∧ DataW.trod enc P w base spare held n e cs = some y) →
      ∃ xs : List D, xs.length = m ∧ Els (allOf w) sz b (off + i0 * sz) xs ∧ ∀ x ∈ xs, GoodT tab n e x
  | 0, i0, _ => ⟨[], rfl, by simp [Els], by simp⟩
  | m + 1, i0, h => by
    obtain ⟨cs, y, h1, h2⟩ := h i0 (Nat.le_refl _) (by omega)
    obtain ⟨d, i', hi', g1, g2, g3, g4, g5⟩ := ih e cs y he h2
    rw [hie] at hi'; cases hi'
    obtain ⟨xs, f1, f2, f3⟩ := rd_elems hie hsz he ih m (i0 + 1) fun i hi hi' => h i (by omega) (by omega)
    refine ⟨d :: xs, by simp [f1], ?_, ?_⟩
    · simp only [Els]
      refine ⟨⟨cs, by rw [g3, hsz], g1, fun j u hj => ?_, KeK g2⟩, ?_⟩
      · obtain ⟨_, hlen, hc⟩ := World.cells?_some h1
        have hjl : j < sz := by rw [← hlen]; exact (List.getElem?_eq_some_iff.1 hj).1
        have := hc j hjl
        rw [Kdp, Kdp] at this
        show w.cell? _ = _
        rw [this]; exact hj
      · rw [show off + i0 * sz + sz = off + (i0 + 1) * sz by rw [Nat.add_mul]; omega]; exact f2
    · intro x hx
      rcases List.mem_cons.1 hx with rfl | hx
      · exact g5
      · exact f3 x hx
theorem rd_arr {n e sz : Nat} {ie : TI} {cs : List Value} (hie : ti tab e = some ie) (hsz : ie.size = sz) (he : ts.contains e = true) (ih : ∀ t cs x, ts.contains t = true → DataW.trod enc P w base spare held n t cs = some x → ∃ d, Rd tab w n t cs d) :
    ∀ (m i0 : Nat), (∀ i, i0 ≤ i → i < i0 + m → ∃ y, DataW.trod enc P w base spare held n e ((cs.drop (i * sz)).take sz) = some y) →
      ∃ ds : List D, ds.length = m ∧ Reps (allOf w) (ds.flatMap K0) ((cs.drop (i0 * sz)).take (m * sz)) ∧ (ds.flatMap K0).length = m * sz ∧ ∀ x ∈ ds, GoodT tab n e x
  | 0, i0, _ => ⟨[], rfl, by simp [Reps], by simp, by simp⟩
  | m + 1, i0, h => by
    obtain ⟨y, h2⟩ := h i0 (Nat.le_refl _) (by omega)
    obtain ⟨d, i', hi', g1, g2, g3, g4, g5⟩ := ih e _ y he h2
    rw [hie] at hi'; cases hi'
    obtain ⟨ds, f1, f2, f3, f4⟩ := rd_arr hie hsz he ih m (i0 + 1) fun i hi hi' => h i (by omega) (by omega)
    refine ⟨d :: ds, by simp [f1], ?_, ?_, ?_⟩
    · simp only [List.flatMap_cons]
      have := KeB g2 f2
      have e2 : (cs.drop (i0 * sz)).take sz ++ (cs.drop ((i0 + 1) * sz)).take (m * sz) = (cs.drop (i0 * sz)).take ((m + 1) * sz) := by
        rw [show (m + 1) * sz = sz + m * sz by rw [Nat.add_mul]; omega, List.take_add, List.drop_drop, show i0 * sz + sz = (i0 + 1) * sz by rw [Nat.add_mul]; omega]
      rwa [e2] at this
    · simp only [List.flatMap_cons, List.length_append, f3, g4, hsz]
      rw [Nat.add_mul]; omega
    · intro x hx
      rcases List.mem_cons.1 hx with rfl | hx
      · exact g5
      · exact f4 x hx
theorem rd (hT : TabOK P tab) (hc : closedT tab ts = true) : ∀ (n : Nat) (t : TypeId) (cs : List Value) (x : DataW H × List MemPlace), ts.contains t = true → DataW.trod enc P w base spare held n t cs = some x → ∃ d, Rd tab w n t cs d := by
  intro n
  induction n with
  | zero => intro t cs x _ h; simp [DataW.trod] at h
  | succ n ih =>
    intro t cs x ht h
    have hok : typeOK tab ts t = true := by
      unfold closedT at hc
      rw [List.all_eq_true] at hc
      exact hc t (by simpa using ht)
    unfold typeOK at hok
    split at hok
    · rename_i i hi
      obtain ⟨tf, z, dd, h1, h2, h3, h4, _⟩ := KeL (ti_ok hT hi)
      split at hok
      · rename_i hd
        have hs := Nat.eq_of_beq_eq_true hok
        obtain ⟨b, rfl, _⟩ := DataW.trod_bool (by rw [h2, KiD (h3.trans hd)]) h
        refine ⟨.v (.bool b), i, hi, by simp [RepC], ?_, by simp [hs], by simp [K0, hs], ?_⟩
        · simp only [K0, Reps]; exact ⟨_, _, rfl, ⟨by simp [RepC], rfl, rfl⟩, rfl⟩
        · unfold GoodT; exact ⟨i, hi, by rw [hd]; exact ⟨b, rfl⟩⟩
      · rename_i k hd
        have hs := Nat.eq_of_beq_eq_true hok
        obtain ⟨m, rfl, _, hwf⟩ := DataW.trod_int (by rw [h2, Kgl (h3.trans hd)]) h
        refine ⟨.v (.int k m), i, hi, by simp [RepC], ?_, by simp [hs], by simp [K0, hs], ?_⟩
        · simp only [K0, Reps]; exact ⟨_, _, rfl, ⟨by simp [RepC], rfl, rfl⟩, rfl⟩
        · unfold GoodT; exact ⟨i, hi, by rw [hd]; exact ⟨m, rfl, hwf⟩⟩
      · rename_i hd
        have hs := Nat.eq_of_beq_eq_true hok
        obtain ⟨s, rfl, _, hwf⟩ := DataW.trod_string (by rw [h2, Ke7 (h3.trans hd)]) h
        refine ⟨.v (.string s), i, hi, by simp [RepC], ?_, by simp [hs], by simp [K0, hs], ?_⟩
        · simp only [K0, Reps]; exact ⟨_, _, rfl, ⟨by simp [RepC], rfl, rfl⟩, rfl⟩
        · unfold GoodT; exact ⟨i, hi, by rw [hd]; exact ⟨s, rfl, hwf⟩⟩
      · rename_i e hd
        simp only [Bool.and_eq_true] at hok
        obtain ⟨⟨he, hs⟩, hsz⟩ := hok
        have hs := Nat.eq_of_beq_eq_true hs
        split at hsz
        · rename_i ie hie
          have hsz := Nat.le_of_ble_eq_true hsz
          rcases DataW.trod_slice (by rw [h2, Kdo (h3.trans hd)]) h with ⟨rfl, _⟩ | ⟨a, len, cap, elems, rest, n', hf, rfl, _, hb, hlc, hcm, hel, hcells, _, _⟩
          · have hr : RepC (allOf w) (.lst ie.size [] .no) [.slice none 0 0] := by
              simp only [RepC, CapOK]; exact ⟨_, rfl, trivial, .inl ⟨by trivial, none, 0, rfl, fun _ => rfl⟩⟩
            refine ⟨.lst ie.size [] .no, i, hi, hr, ?_, by simp [hs], by simp [K0, hs], ?_⟩
            · simp only [K0, Reps]; exact ⟨_, _, rfl, ⟨hr, rfl, rfl⟩, rfl⟩
            · unfold GoodT; exact ⟨i, hi, by rw [hd]; exact ⟨ie, [], hie, rfl, by simp, by simp⟩⟩
          · have : n' = n := by omega
            subst this
            rw [Kff hT hie] at hcells
            rcases Nat.eq_zero_or_pos len with hz | hpos
            · subst hz
              have hr : RepC (allOf w) (.lst ie.size [] .no) [.slice (some a) 0 cap] := by
                simp only [RepC, CapOK]; exact ⟨_, rfl, trivial, .inl ⟨by trivial, some a, cap, rfl, fun q => by cases q⟩⟩
              refine ⟨.lst ie.size [] .no, i, hi, hr, ?_, by simp [hs], by simp [K0, hs], ?_⟩
              · simp only [K0, Reps]; exact ⟨_, _, rfl, ⟨hr, rfl, rfl⟩, rfl⟩
              · unfold GoodT; exact ⟨i, hi, by rw [hd]; exact ⟨ie, [], hie, rfl, by simp, by simp⟩⟩
            · have hsome : ∀ j, j < len → ∃ cs y, w.cells? base (a.add (j * ie.size)) ie.size = some cs ∧ DataW.trod enc P w base spare held n' e cs = some y := by
                intro j hj
                have hj2 := hcells j hj
                rw [List.getElem?_eq_getElem (by omega)] at hj2
                rw [Option.bind_eq_some_iff] at hj2
                obtain ⟨cs, q1, q2⟩ := hj2
                exact ⟨cs, _, q1, q2⟩
              have hspot : a.spot = none := by
                obtain ⟨cs, y, q1, _⟩ := hsome 0 hpos
                obtain ⟨_, hlen, hcc⟩ := World.cells?_some q1
                have q2 := hcc 0 (by omega)
                rw [List.getElem?_eq_getElem (by omega)] at q2
                have q3 : (a.add (0 * ie.size)).add 0 = a := by simp [Addr.add]
                rw [q3] at q2
                cases hsp : a.spot with
                | none => rfl
                | some s =>
                  unfold World.cell? at q2
                  split at q2
                  · simp [hsp] at q2
                  · cases q2
              obtain ⟨b, off, sp⟩ := a
              simp only at hspot; subst hspot
              obtain ⟨xs, f1, f2, f3⟩ := rd_elems (spare := spare) (held := held) (enc := enc) (P := P) (base := base) hie rfl he ih len 0 fun j _ hj => hsome j (by omega)
              have hr : RepC (allOf w) (.lst ie.size xs .no) [.slice (some ⟨b, off, none⟩) len cap] := by
                simp only [RepC, CapOK]
                refine ⟨_, rfl, trivial, .inr ⟨b, off, cap, by rw [f1], by rw [f1]; exact hlc, by simpa using f2⟩⟩
              refine ⟨.lst ie.size xs .no, i, hi, hr, ?_, by simp [hs], by simp [K0, hs], ?_⟩
              · simp only [K0, Reps]; exact ⟨_, _, rfl, ⟨hr, rfl, rfl⟩, rfl⟩
              · unfold GoodT; exact ⟨i, hi, by rw [hd]; exact ⟨ie, xs, hie, rfl, by rw [f1]; omega, f3⟩⟩
        · cases hsz
      · rename_i fs hd
        split at hok
        · rename_i tot hfo
          have hs := Nat.eq_of_beq_eq_true hok
          obtain ⟨gs, e1, e2⟩ := KfH (h3.trans hd)
          obtain ⟨xs, n', hf, _, hl, hxl, hx⟩ := DataW.trod_struct (by rw [h2, e1]) h
          have : n' = n := by omega
          subst this
          rw [Kff hT hi] at hl
          obtain ⟨_, ds, f1, f2, f3, f4⟩ := Kkd hT (cs := cs) ih gs.toList 0 tot (by rw [e2]; exact hfo) (by omega) fun f hfm => by
            obtain ⟨j, hj⟩ := List.getElem?_of_mem hfm
            have hj' : gs[j]? = some f := by simpa using hj
            have q := hx j f hj'
            have hjl : j < xs.length := by rw [hxl]; exact (Array.getElem?_eq_some_iff.1 hj').1
            rw [List.getElem?_eq_getElem hjl] at q
            exact ⟨_, q⟩
          simp only [List.drop_zero, Nat.sub_zero] at f2 f3
          rw [List.take_of_length_le (by omega)] at f2
          refine ⟨.agg (ds.flatMap K0), i, hi, by simp only [RepC]; exact f2, f2, hl, by simp only [K0]; omega, ?_⟩
          unfold GoodT
          exact ⟨i, hi, by rw [hd]; exact ⟨ds, rfl, by rw [f1, ← e2]; simp, fun j f d0 q1 q2 => f4 j f d0 (by rw [e2]; exact q1) q2⟩⟩
        · cases hok
      · rename_i m e hd
        simp only [Bool.and_eq_true] at hok
        obtain ⟨he, hsz⟩ := hok
        split at hsz
        · rename_i ie hie
          have hsz := Nat.eq_of_beq_eq_true hsz
          obtain ⟨xs, n', hf, _, hl, hxl, hx⟩ := DataW.trod_array (by rw [h2, td_array (h3.trans hd)]) h
          have : n' = n := by omega
          subst this
          rw [Kff hT hi] at hl
          rw [Kff hT hie] at hx
          obtain ⟨ds, f1, f2, f3, f4⟩ := rd_arr (cs := cs) hie rfl he ih m 0 fun j _ hj => by
            have q := hx j (by omega)
            rw [List.getElem?_eq_getElem (by omega)] at q
            exact ⟨_, q⟩
          simp only [Nat.zero_mul, List.drop_zero] at f2
          rw [List.take_of_length_le (by omega)] at f2
          refine ⟨.agg (ds.flatMap K0), i, hi, by simp only [RepC]; exact f2, f2, hl, by simp only [K0]; omega, ?_⟩
          unfold GoodT
          exact ⟨i, hi, by rw [hd]; exact ⟨ds, rfl, f1, f4⟩⟩
        · cases hsz
      · cases hok
    · cases hok
end
end Go.Proofs.Ytmgklehakmdiiaa.Ab
namespace Go.Proofs.Ytmgklehakmdiiaa.Ab
open Go
set_option linter.all false
section
variable {P : Program} {tab : List (Option TI)} {n t : Nat} {i : TI} {d : D}
theorem good_int {k : IntKind} (hi : ti tab t = some i) (hd : i.d = .int k) (g : GoodT tab n t d) : ∃ m, d = .v (.int k m) ∧ (Lit.int k m).wf = true := by
  cases n with
  | zero => simp [GoodT] at g
  | succ n =>
    unfold GoodT at g
    obtain ⟨i', h1, h2⟩ := g
    rw [hi] at h1; cases h1
    rw [hd] at h2; exact h2
theorem good_slice {e : Nat} {ie : TI} (hi : ti tab t = some i) (hd : i.d = .slice e) (he : ti tab e = some ie) (g : GoodT tab n t d) : ∃ (n' : Nat) (xs : List D), n = n' + 1 ∧ d = .lst ie.size xs .no ∧ xs.length ≤ maxLen ∧ ∀ x ∈ xs, GoodT tab n' e x := by
  cases n with
  | zero => simp [GoodT] at g
  | succ n =>
    unfold GoodT at g
    obtain ⟨i', h1, h2⟩ := g
    rw [hi] at h1; cases h1
    rw [hd] at h2
    obtain ⟨ie', xs, h3, h4, h5, h6⟩ := h2
    rw [he] at h3; cases h3
    exact ⟨n, xs, rfl, h4, h5, h6⟩
theorem good_u8 (hi : ti tab t = some i) (hd : i.d = .int .u8) (g : GoodT tab n t d) : ∃ c : UInt8, d = byteD c := by
 obtain ⟨m, rfl, h⟩ := good_int hi hd g
 simp [Lit.wf, IntKind.min, IntKind.max, IntKind.signed, IntKind.bits] at h
 refine ⟨UInt8.ofNat m.toNat, ?_⟩
 unfold byteD
 have e : ((UInt8.ofNat m.toNat).toNat : Int) = m := by
  rw [UInt8.toNat_ofNat']
  omega
 rw [e]
theorem Kke {α : Type} {f : α → D} {K : α → Prop} {p : D → Prop} (h : ∀ x, p x → ∃ y, x = f y ∧ K y) : ∀ (xs : List D), (∀ x ∈ xs, p x) → ∃ ys : List α, xs = ys.map f ∧ ∀ y ∈ ys, K y
  | [], _ => ⟨[], rfl, by simp⟩
  | x :: xs, hx => by
    obtain ⟨y, rfl, hy⟩ := h x (hx x (by simp))
    obtain ⟨ys, rfl, hys⟩ := Kke h xs fun z hz => hx z (by simp [hz])
    refine ⟨y :: ys, rfl, fun z hz => ?_⟩
    rcases List.mem_cons.1 hz with rfl | hz
    · exact hy
    · exact hys z hz
theorem shape_of {w : World} {r : Reach} {base : Nat} {v : Value} (hT : TabOK P tab) (hv : Value.okWide P w r base t v) (g : GoodT tab n t d) : d.shape v = true := by
  cases n with
  | zero => simp [GoodT] at g
  | succ n =>
    unfold GoodT at g
    obtain ⟨i, hi, g⟩ := g
    obtain ⟨tf, z, dd, h1, h2, h3, _⟩ := KeL (ti_ok hT hi)
    unfold Value.okWide at hv
    rw [h2] at hv
    split at g
    · rename_i hd
      have := KiD (h3.trans hd); subst this
      obtain ⟨b, rfl⟩ := g
      cases v <;> first | rfl | (simp [Cell.okWide, Cell.ok, h2] at hv)
    · rename_i k hd
      have := Kgl (h3.trans hd); subst this
      obtain ⟨b, rfl, _⟩ := g
      cases v <;> first | rfl | (simp [Cell.okWide, Cell.ok, h2] at hv)
    · rename_i hd
      have := Ke7 (h3.trans hd); subst this
      obtain ⟨b, rfl, _⟩ := g
      cases v <;> first | rfl | (simp [Cell.okWide, Cell.ok, h2] at hv)
    · rename_i e hd
      have := Kdo (h3.trans hd); subst this
      obtain ⟨ie, xs, _, rfl, _⟩ := g
      cases v <;> first | rfl | (simp [Cell.okWide, Cell.ok, h2] at hv)
    · rename_i fs hd
      obtain ⟨gs, rfl, _⟩ := KfH (h3.trans hd)
      obtain ⟨ds, rfl, _⟩ := g
      simp only at hv
      obtain ⟨cs, rfl, _⟩ := hv
      rfl
    · rename_i m e hd
      have := td_array (h3.trans hd); subst this
      obtain ⟨ds, rfl, _⟩ := g
      simp only at hv
      obtain ⟨cs, rfl, _⟩ := hv
      rfl
    · exact g.elim
theorem rd_arg {H : Type} {enc : TypeId × Value → H} {w : World} {base : Nat} {spare : Nat → Bool} {held : Bool} {v : Value} {x : DataW H} {ps : List MemPlace} {r : Reach} {b0 : Nat} (hT : TabOK P tab) (ts : List Nat) (hc : closedT tab ts = true) (ht : ts.contains t = true)
  (hv : Value.okWide P w r b0 t v) (h : DataW.Trod enc P w base spare held t v x ps) : ∃ n d, GoodT tab n t d ∧ Rep (allOf w) d v := by
 obtain ⟨n, hn⟩ := h
 obtain ⟨d, i, h1, h2, h3, h4, h5, h6⟩ := rd hT hc n t _ _ ht hn
 exact ⟨n, d, h6, h2, shape_of hT hv h6⟩
end
end Go.Proofs.Ytmgklehakmdiiaa.Ab
namespace Go.Proofs.Ytmgklehakmdiiaa
open Go.ChangeShapes Go.WideShapes Go.ChangeAt Go.RowKit Go.Joins
set_option linter.all false
theorem own : ownKnob Try.prog.godebug = none := by kernel_rfl
theorem laidOut' : laidOutB Try.prog = true := by kernel_rfl
theorem Kkf {H : Type} {enc : TypeId × Value → H} {P : Program} {W : World} (hl : laidOutB P = true) : ∀ {ts : List TypeId} {vs : List Value} {ds : List (DataW H)} {ps : List MemPlace},
    (ts.all fun t => P.readableRec t && decide (t < P.types.size)) = true → DataW.TrodAll enc P W 0 (fun _ => true) true ts vs ds ps → (∀ x ∈ ps, x.block < W.heap.size) → ∀ W', Below W.heap.size W W' →
    ∀ sp : Nat → Bool, (∀ x ∈ ps, sp x.block = true) → DataW.TrodAll enc P W' 0 sp true ts vs ds ps
  | [], vs, ds, ps, _, h, _, W', hb, sp, hsp => by
    obtain ⟨rfl, rfl, rfl⟩ := trodAll_nil h
    exact trodAll_mk0
  | t :: ts, vs, ds, ps, hr, h, hlt, W', hb, sp, hsp => by
    obtain ⟨v, vs', d, ds', p, q, rfl, rfl, rfl, h0, h1⟩ := trodAll_cons h
    simp only [List.all_cons, Bool.and_eq_true, decide_eq_true_eq] at hr
    exact trodAll_cons_mk (WideElems.Trod_stays hl hr.1.1 hr.1.2 h0 (fun x hx => hb.same (hlt x (by simp [hx]))) (fun x hx => hsp x (by simp [hx])))
      (Kkf hl hr.2 h1 (fun x hx => hlt x (by simp [hx])) W' hb sp (fun x hx => hsp x (by simp [hx])))
end Go.Proofs.Ytmgklehakmdiiaa
namespace Go.Proofs.Ytmgklehakmdiiaa.Ab
open Go
set_option linter.all false
section
variable {H : Type} {enc : TypeId × Value → H} {P : Program} {w : World} {base : Nat} {spare : Nat → Bool} {held : Bool} {tab : List (Option TI)} {ts : List Nat}
end
end Go.Proofs.Ytmgklehakmdiiaa.Ab
namespace Go.Proofs.Ytmgklehakmdiiaa.Ab
open Go
set_option linter.all false
mutual
def szE : Ka → Nat
 | ⟨_, _, _, ks, _⟩ => 1 + szEs ks
def szEs : List Ka → Nat
 | [] => 0
 | e :: l => szE e + szEs l
end
mutual
def dpE : Ka → Nat
 | ⟨_, _, _, ks, _⟩ => 1 + dpEs ks
def dpEs : List Ka → Nat
 | [] => 0
 | e :: l => max (dpE e) (dpEs l)
end
theorem KcZ (e : Ka) : szE e = 1 + szEs e.gKids := by cases e; simp only [szE]
theorem KeF (e : Ka) : dpE e = 1 + dpEs e.gKids := by cases e; simp only [dpE]
theorem KeG : ∀ l m, szEs (l ++ m) = szEs l + szEs m
 | [], m => by simp [szEs]
 | e :: l, m => by simp only [List.cons_append, szEs, KeG l m]; omega
theorem Khb : ∀ l m, dpEs (l ++ m) = max (dpEs l) (dpEs m)
 | [], m => by simp [dpEs]
 | e :: l, m => by simp only [List.cons_append, dpEs, Khb l m]; omega
theorem dpE_mem : ∀ {l : List Ka} {e : Ka}, e ∈ l → dpE e ≤ dpEs l
  | x :: l, e, h => by
    simp only [dpEs]
    rcases List.mem_cons.1 h with rfl | h
    · omega
    · have := dpE_mem h; omega
theorem szE_mem : ∀ {l : List Ka} {e : Ka}, e ∈ l → szE e ≤ szEs l
  | x :: l, e, h => by
    simp only [szEs]
    rcases List.mem_cons.1 h with rfl | h
    · omega
    · have := szE_mem h; omega
mutual
theorem dpE_le : ∀ e, dpE e ≤ szE e
  | ⟨a, b, c, ks, d⟩ => by
    have := dpEs_le ks
    simp only [szE, dpE]; omega
theorem dpEs_le : ∀ l, dpEs l ≤ szEs l
  | [] => by simp [szEs, dpEs]
  | e :: l => by
    have h1 := dpE_le e
    have h2 := dpEs_le l
    simp only [szEs, dpEs]; omega
end
theorem Kdu : ∀ l, l.length ≤ szEs l
  | [] => by simp
  | e :: l => by
    have := Kdu l
    have h := KcZ e
    simp only [szEs, List.length_cons]; omega
theorem KhY {e k : Ka} (h : k ∈ e.gKids) : dpE k < dpE e ∧ szE k < szE e := by
 have h1 := dpE_mem h
 have h2 := szE_mem h
 rw [KeF e, KcZ e]; omega
theorem KhZ {l pre : List Ka} {x : Ka} {post : List Ka} (h : l = pre ++ x :: post) : szEs pre + szE x ≤ szEs l := by
 subst h; rw [KeG]; simp only [szEs]; omega
mutual
def eqE (p : Bool) : Ka → Ka → Bool
  | ⟨a, b, c, ks, d⟩, f => a == f.gOp && (b == f.gN && (decide (c = f.gName) && ((!p || d == f.gAt) && eqEs p ks f.gKids)))
def eqEs (p : Bool) : List Ka → List Ka → Bool
  | [], m => m.isEmpty
  | e :: l, m => match m with
    | [] => false
    | f :: m => eqE p e f && eqEs p l m
end
theorem eqE_eq (p : Bool) (e f : Ka) : eqE p e f = (e.gOp == f.gOp && (e.gN == f.gN && (decide (e.gName = f.gName) && ((!p || e.gAt == f.gAt) && eqEs p e.gKids f.gKids)))) := by cases e; simp only [eqE]
theorem eqEs_eq (p : Bool) : ∀ l m, eqEs p l m = all2 (eqE p) l m
 | [], [] => by simp [eqEs, all2]
 | [], _ :: _ => by simp [eqEs, all2]
 | _ :: _, [] => by simp [eqEs, all2]
 | x :: l, y :: m => by simp only [eqEs, all2, eqEs_eq p l m]
mutual
theorem eqE_refl (p : Bool) : ∀ e, eqE p e e = true
  | ⟨a, b, c, ks, d⟩ => by
    rw [eqE_eq]
    simp [KiA p ks]
theorem KiA (p : Bool) : ∀ l, eqEs p l l = true
  | [] => by simp [eqEs]
  | e :: l => by simp only [eqEs, eqE_refl p e, KiA p l, Bool.and_self]
end
end Go.Proofs.Ytmgklehakmdiiaa.Ab
namespace Go.Proofs.Ytmgklehakmdiiaa.Ab
open Go
set_option linter.all false
theorem rexps_g (p : Bool) : ∀ (n : Nat) (l m : List Ka), dpEs l + 1 ≤ n → szEs l ≤ 1048576 → Kcq n l m p = some (eqEs p l m)
  | 0, l, m, h, _ => by omega
  | n + 1, l, m, h, hb => by
    show Kdj (Kcq n) l m p = _
    unfold Kdj
    have hl := Kdu l
    rw [eqEs_eq]
    refine pairs _ l m (fun a x q a' y q' e e' hp => ?_) ?_
    · have hx := Kes e
      have hd := dpE_mem hx
      have hz := szE_mem hx
      have hdx := KeF x
      have hsx := KcZ x
      rw [Kb2 e, cond_true]
      simp only [KbR e rfl, KbR e' hp, Option.bind_some]
      rw [Kby e (by omega), rexps_g p n _ _ (by omega) (by omega), eqE_eq]
      simp only [Option.bind_some, bne]
      cases x.gOp == y.gOp <;> cases x.gN == y.gN <;> cases decide (x.gName = y.gName) <;> cases p <;> cases x.gAt == y.gAt <;> cases eqEs _ x.gKids y.gKids <;> rfl
    · rw [Kb3, cond_false]
theorem rexps_eq {l m : List Ka} {p : Bool} (hb : szEs l ≤ 1048576) : KgA l m p = some (eqEs p l m) := Kk0 l m p (dpEs l + 1) (rexps_g p _ l m (Nat.le_refl _) hb)
end Go.Proofs.Ytmgklehakmdiiaa.Ab
namespace Go.Proofs.Ytmgklehakmdiiaa.Ab
open Go
set_option linter.all false
theorem deep_g : ∀ (n : Nat) (e : Ka), dpE e ≤ n → szE e ≤ 1048576 → KbI n e = some (dpE e : Int)
  | 0, e, h, _ => by rw [KeF] at h; omega
  | n + 1, e, h, hb => by
    show Kb9 (KbI n) e = _
    unfold Kb9
    have hs := KcZ e
    have hd := KeF e
    have hde := dpE_le e
    have hl := Kdu e.gKids
    refine Kde e.gKids (fun pre => dpEs pre) (fun a n => ((a : Nat), (n : Nat))) (fun a => (a : Int)) (by simp [szEs, dpEs]) (fun pre x post hp => ?_) ?_ ?_
    · have hk := KhY (Kes hp)
      simp only [Kb2 hp, cond_true]
      rw [Kby hp (by omega)]
      rw [show idx e.gKids (pre.length : Int) = some x by rw [hp]; exact Kd1 _ _ _, Option.bind_some, deep_g n x (by omega) (by omega), Option.bind_some]
      rw [Khb]
      simp only [dpEs]
      congr 3; omega
    · simp only [Kb3, cond_false]
    · rw [hd, KbM (by omega) (by omega)]; congr 1; omega
theorem deep_eq {e : Ka} (hb : szE e ≤ 1048576) : KfM e = some (dpE e : Int) := Kir e (dpE e) (deep_g _ e (Nat.le_refl _) hb)
theorem rdeep_g : ∀ (n : Nat) (e : Ka), dpE e ≤ n → szE e ≤ 1048576 → Kcp n e = some (dpE e : Int)
  | 0, e, h, _ => by rw [KeF] at h; omega
  | n + 1, e, h, hb => by
    show Kdh (Kcp n) e = _
    unfold Kdh
    have hs := KcZ e
    have hd := KeF e
    have hde := dpE_le e
    have hl := Kdu e.gKids
    refine Kde e.gKids (fun pre => dpEs pre) (fun a n => ((a : Nat), (n : Nat))) (fun a => (a : Int)) (by simp [szEs, dpEs]) (fun pre x post hp => ?_) ?_ ?_
    · have hk := KhY (Kes hp)
      simp only [Kb2 hp, cond_true]
      rw [Kby hp (by omega)]
      rw [show idx e.gKids (pre.length : Int) = some x by rw [hp]; exact Kd1 _ _ _, Option.bind_some, rdeep_g n x (by omega) (by omega), Option.bind_some]
      rw [Khb]
      simp only [dpEs]
      congr 3; omega
    · simp only [Kb3, cond_false]
    · rw [hd, KbM (by omega) (by omega)]; congr 1
theorem rdeep_eq {e : Ka} (hb : szE e ≤ 1048576) : KhX e = some (dpE e : Int) := KkW e (dpE e) (rdeep_g _ e (Nat.le_refl _) hb)
end Go.Proofs.Ytmgklehakmdiiaa.Ab
namespace Go.Proofs.Ytmgklehakmdiiaa.Ab.Pq
open Go
set_option linter.all false
abbrev Tok := Kq
abbrev Xp := Ka
abbrev Rdr := Kb
def z0 : Tok := ⟨0, ByteArray.empty, 0, 0⟩
def ex0 : Xp := ⟨0, 0, ByteArray.empty, [], 0⟩
def lk (L : List Tok) (i : Nat) : Tok := L.getD i z0
def mk (L : List Tok) (i : Nat) (e : Int) : Rdr := ⟨L, (i : Int), e⟩
theorem Kfg {L : List Tok} {i : Nat} (h : L.length ≤ i) : lk L i = z0 := by unfold lk; rw [List.getD_eq_getElem?_getD, List.getElem?_eq_none h]; rfl
theorem lk_lt {L : List Tok} {i : Nat} (h : (lk L i).gKind ≠ 0) : i < L.length := by
 rcases Nat.lt_or_ge i L.length with q | q
 ·exact q
 ·rw [Kfg q] at h; exact absurd rfl h
theorem KiI (L : List Tok) (i : Nat) (e : Int) : KaS (mk L i e) = some (lk L i) := by
 unfold KaS mk
 simp only []
 by_cases h : L.length ≤ i
 ·rw [decide_eq_true (by omega), cond_true, Kfg h]; rfl
 ·rw [decide_eq_false (by omega), cond_false, KdF]
  unfold lk
  rw [List.getD_eq_getElem?_getD, List.getElem?_eq_getElem (by omega)]; rfl
def isS (L : List Tok) (i : Nat) (s : ByteArray) : Bool := (lk L i).gKind == 3 && decide ((lk L i).gText = s)
theorem is_eq (L : List Tok) (i : Nat) (e : Int) (s : ByteArray) : KbU (mk L i e) s = some (isS L i s) := by
 unfold KbU isS
 rw [KiI, Option.bind_some]
 cases (lk L i).gKind == 3 <;> rfl
theorem Kel {L : List Tok} {i : Nat} {s : ByteArray} (h : isS L i s = true) : i < L.length ∧ (lk L i).gKind = 3 ∧ (lk L i).gText = s := by
 unfold isS at h
 simp only [Bool.and_eq_true, beq_iff_eq, decide_eq_true_eq] at h
 exact ⟨lk_lt (by rw [h.1]; decide), h⟩
theorem Khv (L : List Tok) (i a : Nat) (e k : Int) : KaD (mk L i e) (a : Int) k = some (bif e == 0 then mk L a k else mk L i e) := by
 unfold KaD mk
 cases h : e == 0 <;> simp only [h, cond_true, cond_false]
theorem winc {i : Nat} (h : i ≤ 4000000) : IntKind.i64.wrap ((i : Int) + 1) = ((i + 1 : Nat) : Int) := by rw [KbM (by omega) (by omega)]; omega
theorem eat_eq {L : List Tok} {i : Nat} (s : ByteArray) (h : i ≤ 4000000) : Ka1 (mk L i 0) s = some (bif isS L i s then mk L (i + 1) 0 else mk L i 3) := by
 unfold Ka1
 rw [is_eq, Option.bind_some]
 cases isS L i s
 ·simp only [Bool.not_false, cond_true, cond_false]
  show Option.bind (KaD (mk L i 0) (i : Int) 3) _ = _
  rw [Khv, Option.bind_some]; rfl
 ·simp only [Bool.not_true, cond_true, cond_false]
  show some (⟨L, IntKind.i64.wrap ((i : Int) + 1), 0⟩ : Rdr) = _
  rw [winc h]; rfl
theorem Kgh {L : List Tok} {i : Nat} (h : i ≤ 4000000) : Kbf (mk L i 0) = some (bif (lk L i).gKind == 1 then ((lk L i).gText, mk L (i + 1) 0) else (ByteArray.empty, mk L i 3)) := by
 unfold Kbf
 rw [KiI, Option.bind_some]
 cases hk : (lk L i).gKind == 1
 ·simp only [bne, hk, Bool.not_false, cond_true, cond_false]
  show Option.bind (KaD (mk L i 0) (i : Int) 3) _ = _
  rw [Khv, Option.bind_some]; rfl
 ·simp only [bne, hk, Bool.not_true, cond_true, cond_false]
  show some (_, (⟨L, IntKind.i64.wrap ((i : Int) + 1), 0⟩ : Rdr)) = _
  rw [winc h]; rfl
theorem Kc0 {L : List Tok} {i a : Nat} {e : Int} {x : Xp} (hx : e = 0 → szE x ≤ 1048576) : Kai (mk L i e) x (a : Int) = some (bif e == 0 then bif decide (24 < dpE x) then (ex0, mk L a 5) else (x, mk L i 0) else (ex0, mk L i e)) := by
 unfold Kai
 show (bif e != 0 then _ else _) = _
 cases he : e == 0
 ·simp only [bne, he, Bool.not_false, cond_true, cond_false]; rfl
 ·have h0 : e = 0 := by simpa using he
  subst h0
  simp only [bne, he, Bool.not_true, cond_true, cond_false]
  rw [deep_eq (hx rfl), Option.bind_some]
  by_cases hd : 24 < dpE x
  ·rw [decide_eq_true (by omega), cond_true, decide_eq_true hd, cond_true, Khv, Option.bind_some]; rfl
  ·rw [decide_eq_false (by omega), cond_false, decide_eq_false hd, cond_false]
noncomputable def bt (k : Int) (s : ByteArray) : Int := (Kbo k s).getD 0
theorem KiJ (s a : ByteArray) (x : Int) (b : ByteArray) (y : Int) : Kcm s a x b y = some (bif decide (s = a) then x else bif decide (s = b) then y else 0) := by
 unfold Kcm
 cases decide (s = a) <;> cases decide (s = b) <;> rfl
theorem between_eq (k : Int) (s : ByteArray) : Kbo k s = some (bt k s) := by
 have h : ∃ r, Kbo k s = some r := by
  unfold Kbo
  simp only [KiJ, Option.bind_some]
  cases k == 0
  ·cases k == 1
   ·cases k == 2
    ·cases k == 3
     ·cases k == 4
      ·cases k == 5
       ·exact ⟨_, rfl⟩
       ·cases decide (s = ByteArray.mk #[37]) <;> exact ⟨_, rfl⟩
      ·exact ⟨_, rfl⟩
     ·exact ⟨_, rfl⟩
    ·exact ⟨_, rfl⟩
   ·cases decide (s = ByteArray.mk #[38, 38]) <;> exact ⟨_, rfl⟩
  ·cases decide (s = ByteArray.mk #[124, 124]) <;> exact ⟨_, rfl⟩
 obtain ⟨r, h⟩ := h
 unfold bt; rw [h]; rfl
theorem bt_stop (k : Int) : bt k (ByteArray.mk #[41]) = 0 := by
 unfold bt Kbo
 simp only [KiJ, Option.bind_some]
 rw [decide_eq_false (p := ByteArray.mk #[41] = ByteArray.mk #[124, 124]) (by decide), decide_eq_false (p := ByteArray.mk #[41] = ByteArray.mk #[38, 38]) (by decide), decide_eq_false (p := ByteArray.mk #[41] = ByteArray.mk #[61, 61]) (by decide), decide_eq_false (p := ByteArray.mk #[41] = ByteArray.mk #[33, 61]) (by decide), decide_eq_false (p := ByteArray.mk #[41] = ByteArray.mk #[60]) (by decide), decide_eq_false (p := ByteArray.mk #[41] = ByteArray.mk #[60, 61]) (by decide), decide_eq_false (p := ByteArray.mk #[41] = ByteArray.mk #[43]) (by decide), decide_eq_false (p := ByteArray.mk #[41] = ByteArray.mk #[45]) (by decide), decide_eq_false (p := ByteArray.mk #[41] = ByteArray.mk #[37]) (by decide), decide_eq_false (p := ByteArray.mk #[41] = ByteArray.mk #[42]) (by decide), decide_eq_false (p := ByteArray.mk #[41] = ByteArray.mk #[47]) (by decide)]
 cases k == 0 <;> cases k == 1 <;> cases k == 2 <;> cases k == 3 <;> cases k == 4 <;> cases k == 5 <;> rfl
mutual
def shE (p : Int) : Xp → Xp
 | ⟨a, b, c, ks, d⟩ => ⟨a, b, c, shEs p ks, d + p⟩
def shEs (p : Int) : List Xp → List Xp
 | [] => []
 | e :: l => shE p e :: shEs p l
end
theorem shE_eq (p : Int) (e : Xp) : shE p e = ⟨e.gOp, e.gN, e.gName, shEs p e.gKids, e.gAt + p⟩ := by cases e; simp only [shE]
def shT (p : Int) (t : Tok) : Tok := ⟨t.gKind, t.gText, t.gN, t.gAt + p⟩
mutual
theorem dpE_sh (p : Int) : ∀ e, dpE (shE p e) = dpE e
 | ⟨a, b, c, ks, d⟩ => by simp only [shE, dpE, dpEs_sh p ks]
theorem dpEs_sh (p : Int) : ∀ l, dpEs (shEs p l) = dpEs l
 | [] => by simp [shEs]
 | e :: l => by simp only [shEs, dpEs, dpE_sh p e, dpEs_sh p l]
end
mutual
theorem szE_sh (p : Int) : ∀ e, szE (shE p e) = szE e
 | ⟨a, b, c, ks, d⟩ => by simp only [shE, szE, szEs_sh p ks]
theorem szEs_sh (p : Int) : ∀ l, szEs (shEs p l) = szEs l
 | [] => by simp [shEs]
 | e :: l => by simp only [shEs, szEs, szE_sh p e, szEs_sh p l]
end
structure Mt (L L2 : List Tok) (d : Nat) (p : Int) (m : Nat) : Prop where
 tok : ∀ i, i < m → lk L2 (i + d) = shT p (lk L i)
 fin : (lk L m).gKind = 0
 stp : (lk L2 (m + d)).gKind = 3 ∧ (lk L2 (m + d)).gText = ByteArray.mk #[41]
 len : m + d ≤ 1000000
theorem Mt.lt {L L2 : List Tok} {d : Nat} {p : Int} {m i : Nat} (h : Mt L L2 d p m) (hi : i ≤ m) (hk : (lk L i).gKind ≠ 0) : i < m := by
 rcases Nat.lt_or_ge i m with q | q
 ·exact q
 ·have : i = m := by omega
  subst this; exact absurd h.fin hk
def AB (L : List Tok) (i c s : Nat) (r : Option (Xp × Rdr)) (r2 : List Tok → Nat → Int → Option (Xp × Rdr)) : Prop :=
 ∃ x i' e', r = some (x, mk L i' e') ∧ (e' = 0 → i + c ≤ i' ∧ i' ≤ L.length ∧ dpE x ≤ 24 ∧ szE x + i ≤ i' + s ∧ ∀ L2 d p m, Mt L L2 d p m → i ≤ m → i' ≤ m ∧ r2 L2 d p = some (shE p x, mk L2 (i' + d) 0))
theorem AB.bad {L : List Tok} {i c s : Nat} {r : Option (Xp × Rdr)} {r2 : List Tok → Nat → Int → Option (Xp × Rdr)} (x : Xp) (i' : Nat) (e' : Int) (he : e' ≠ 0) (h : r = some (x, mk L i' e')) : AB L i c s r r2 := ⟨x, i', e', h, fun q => absurd q he⟩
theorem wIdx {k : Nat} (h : k ≤ 5) : IntKind.i64.wrap ((k : Int) + 1) = ((k + 1 : Nat) : Int) := winc (by omega)
abbrev S8 := List Tok × Int × Int × Int × Int × ByteArray × List Xp × Int
def st8 (L : List Tok) (j : Nat) (e : Int) (x : Xp) : S8 := (L, (j : Int), e, x.gOp, x.gN, x.gName, x.gKids, x.gAt)
noncomputable def rowF (g0 : Rdr → Int → Option (Xp × Rdr)) (a1 : Int) (s51 : S8) : Option (Step S8 S8) :=
 (bif (s51.2.2.1 == (0 : Int)) then ((KaS (⟨s51.1, s51.2.1, s51.2.2.1⟩ : Kb)).bind fun x79 => (Option.bind (α := Int) (bif (x79.gKind == (3 : Int)) then ((Kbo a1 x79.gText).bind fun x85 => some x85) else some (0 : Int)) fun y83 => (bif (y83 == (0 : Int)) then some (.done (s51.1, s51.2.1, s51.2.2.1, s51.2.2.2.1, s51.2.2.2.2.1, s51.2.2.2.2.2.1, s51.2.2.2.2.2.2.1, s51.2.2.2.2.2.2.2)) else ((g0 (⟨s51.1, (IntKind.i64.wrap (s51.2.1 + (1 : Int))), s51.2.2.1⟩ : Kb) (IntKind.i64.wrap (a1 + (1 : Int)))).bind fun x87 => ((Kai x87.2 (⟨y83, (0 : Int), ByteArray.empty, ([(⟨s51.2.2.2.1, s51.2.2.2.2.1, s51.2.2.2.2.2.1, s51.2.2.2.2.2.2.1, s51.2.2.2.2.2.2.2⟩ : Ka), x87.1] : List Ka), x79.gAt⟩ : Ka) s51.2.1).bind fun x89 => some (.next (x89.2.gL, x89.2.gAt, x89.2.gE, x89.1.gOp, x89.1.gN, x89.1.gName, x89.1.gKids, x89.1.gAt))))))) else some (.done (s51.1, s51.2.1, s51.2.2.1, s51.2.2.2.1, s51.2.2.2.2.1, s51.2.2.2.2.2.1, s51.2.2.2.2.2.2.1, s51.2.2.2.2.2.2.2)))
noncomputable def opAt (k : Int) (t : Tok) : Int := bif t.gKind == 3 then bt k t.gText else 0
theorem opAt_sh {k p : Int} {t : Tok} : opAt k (shT p t) = opAt k t := rfl
theorem Kkg {k : Int} {t : Tok} (h : opAt k t ≠ 0) : t.gKind ≠ 0 := by
 unfold opAt at h
 cases hk : t.gKind == 3
 ·rw [hk] at h; exact absurd rfl h
 ·have : t.gKind = 3 := by simpa using hk
  rw [this]; decide
theorem Kfv {g0 : Rdr → Int → Option (Xp × Rdr)} {k : Int} {L : List Tok} {j : Nat} {e : Int} {x : Xp} (he : e ≠ 0) : rowF g0 k (st8 L j e x) = some (.done (st8 L j e x)) := by
 unfold rowF st8
 rw [show (e == 0) = false by simp [he], cond_false]
theorem Kex {g0 : Rdr → Int → Option (Xp × Rdr)} {k : Int} {L : List Tok} {j : Nat} {x : Xp} (hj : j ≤ 4000000) : rowF g0 k (st8 L j 0 x) = (bif opAt k (lk L j) == 0 then some (.done (st8 L j 0 x)) else
  (g0 (mk L (j + 1) 0) (IntKind.i64.wrap (k + 1))).bind fun y => (Kai y.2 ⟨opAt k (lk L j), 0, ByteArray.empty, [x, y.1], (lk L j).gAt⟩ (j : Int)).bind fun q => some (.next (q.2.gL, q.2.gAt, q.2.gE, q.1.gOp, q.1.gN, q.1.gName, q.1.gKids, q.1.gAt))) := by
 cases x
 unfold rowF st8
 simp only [beq_self_eq_true, cond_true]
 change Option.bind (KaS (mk L j 0)) _ = _
 rw [KiI, Option.bind_some, winc hj]
 unfold opAt
 cases hk : (lk L j).gKind == 3
 ·simp only [cond_false, Option.bind_some]; rfl
 ·simp only [cond_true, between_eq, Option.bind_some]; rfl
theorem row_loop (g0 : Rdr → Int → Option (Xp × Rdr)) (L : List Tok) (i0 : Nat) (k : Int) (hL : L.length ≤ 100000)
    (ih : ∀ j, i0 < j → j ≤ L.length → AB L j 1 0 (g0 (mk L j 0) (IntKind.i64.wrap (k + 1))) (fun L2 d p => g0 (mk L2 (j + d) 0) (IntKind.i64.wrap (k + 1)))) :
    ∀ (q j : Nat) (x : Xp), L.length - j ≤ q → i0 ≤ j → j ≤ L.length → dpE x ≤ 24 → szE x + i0 ≤ j →
      ∃ x' j' e', loopM (rowF g0 k) (st8 L j 0 x) = some (st8 L j' e' x') ∧ (e' = 0 → j ≤ j' ∧ j' ≤ L.length ∧ dpE x' ≤ 24 ∧ szE x' + i0 ≤ j' ∧ ∀ L2 d p m, Mt L L2 d p m → j ≤ m → j' ≤ m ∧ loopM (rowF g0 k) (st8 L2 (j + d) 0 (shE p x)) = some (st8 L2 (j' + d) 0 (shE p x'))) := by
  intro q
  induction q with
  | zero =>
    intro j x hq h0 h1 hd hs
    have hz : lk L j = z0 := Kfg (by omega)
    refine ⟨x, j, 0, KG (by rw [Kex (by omega), hz]; rfl), fun _ => ⟨Nat.le_refl _, h1, hd, hs, fun L2 d p m hm hjm => ⟨hjm, ?_⟩⟩⟩
    refine KG ?_
    rw [Kex (by have := hm.len; omega)]
    rcases Nat.lt_or_ge j m with q | q
    · rw [hm.tok j q, opAt_sh, hz]; rfl
    · have : j = m := by omega
      subst this
      unfold opAt
      rw [hm.stp.1, hm.stp.2, bt_stop]; rfl
  | succ q ihq =>
    intro j x hq h0 h1 hd hs
    by_cases hop : opAt k (lk L j) = 0
    · refine ⟨x, j, 0, KG (by rw [Kex (by omega), hop]; rfl), fun _ => ⟨Nat.le_refl _, h1, hd, hs, fun L2 d p m hm hjm => ⟨hjm, ?_⟩⟩⟩
      refine KG ?_
      rw [Kex (by have := hm.len; omega)]
      rcases Nat.lt_or_ge j m with q | q
      · rw [hm.tok j q, opAt_sh, hop]; rfl
      · have : j = m := by omega
        subst this
        unfold opAt
        rw [hm.stp.1, hm.stp.2, bt_stop]; rfl
    · have hk := Kkg hop
      have hlt := lk_lt hk
      have hopb : (opAt k (lk L j) == 0) = false := by simp [hop]
      obtain ⟨y, j1, e1, hr, hg⟩ := ih (j + 1) (by omega) (by omega)
      have hf := Kex (g0 := g0) (k := k) (L := L) (j := j) (x := x) (by omega)
      rw [hopb, cond_false, hr, Option.bind_some] at hf
      by_cases he : e1 = 0
      · subst he
        obtain ⟨g1, g2, g3, g4, g5⟩ := hg rfl
        have hsz : szE (⟨opAt k (lk L j), 0, ByteArray.empty, [x, y], (lk L j).gAt⟩ : Xp) = 1 + (szE x + szE y) := by simp [KcZ, szEs]
        rw [Kc0 (fun _ => by rw [hsz]; omega), Option.bind_some] at hf
        simp only [beq_self_eq_true, cond_true] at hf
        by_cases hdd : 24 < dpE (⟨opAt k (lk L j), 0, ByteArray.empty, [x, y], (lk L j).gAt⟩ : Xp)
        · rw [decide_eq_true hdd, cond_true] at hf
          refine ⟨ex0, j, 5, ?_, fun h => by cases h⟩
          rw [Kag hf]
          exact KG (Kfv (e := 5) (by decide))
        · rw [decide_eq_false hdd, cond_false] at hf
          obtain ⟨x', j', e', h5, h6⟩ := ihq j1 ⟨opAt k (lk L j), 0, ByteArray.empty, [x, y], (lk L j).gAt⟩ (by omega) (by omega) g2 (by omega) (by rw [hsz]; omega)
          refine ⟨x', j', e', by rw [Kag hf]; exact h5, fun h => ?_⟩
          obtain ⟨k1, k2, k3, k4, k5⟩ := h6 h
          refine ⟨by omega, k2, k3, k4, fun L2 d p m hm hjm => ?_⟩
          have hjlt := hm.lt hjm hk
          obtain ⟨m1, m2⟩ := g5 L2 d p m hm (by omega)
          simp only [] at m2
          obtain ⟨m3, m4⟩ := k5 L2 d p m hm m1
          refine ⟨m3, ?_⟩
          have hf2 := Kex (g0 := g0) (k := k) (L := L2) (j := j + d) (x := shE p x) (by have := hm.len; omega)
          rw [hm.tok j hjlt, opAt_sh, hopb, cond_false, show j + d + 1 = j + 1 + d by omega, m2, Option.bind_some] at hf2
          have hsh : (⟨opAt k (lk L j), 0, ByteArray.empty, [shE p x, shE p y], (shT p (lk L j)).gAt⟩ : Xp) = shE p ⟨opAt k (lk L j), 0, ByteArray.empty, [x, y], (lk L j).gAt⟩ := by simp only [shE, shEs, shT]
          rw [hsh, Kc0 (fun _ => by rw [szE_sh, hsz]; omega), Option.bind_some, dpE_sh, decide_eq_false hdd] at hf2
          simp only [beq_self_eq_true, cond_true, cond_false] at hf2
          rw [Kag hf2]
          exact m4
      · rw [Kc0 (fun h => absurd h he), Option.bind_some, show (e1 == 0) = false by simp [he], cond_false] at hf
        refine ⟨ex0, j1, e1, ?_, fun h => absurd h he⟩
        rw [Kag hf]
        exact KG (Kfv he)
end Go.Proofs.Ytmgklehakmdiiaa.Ab.Pq
namespace Go.Proofs.Ytmgklehakmdiiaa.Ab.Pq
open Go
set_option linter.all false
theorem KbG {α β : Type} (o : Option (α × β)) : (o.bind fun x => some (x.1, x.2)) = o := by cases o <;> rfl
noncomputable abbrev pg := Ko
theorem xp_eta (x : Xp) : (⟨x.gOp, x.gN, x.gName, x.gKids, x.gAt⟩ : Xp) = x := by cases x; rfl
theorem row6 (n : Nat) (m : Rdr) : (pg (n + 1)).1 m 6 = (pg n).2.1 m := by
 show KaM (pg n).1 (pg n).2.1 (pg n).2.2.1 (pg n).2.2.2.1 (pg n).2.2.2.2 m 6 = _
 unfold KaM
 rw [show ((6 : Int) == 6) = true from rfl, cond_true, KbG]
theorem rowK {n k : Nat} (m : Rdr) (hk : k ≤ 5) : (pg (n + 1)).1 m k = ((pg n).1 m (IntKind.i64.wrap ((k : Int) + 1))).bind fun y => (loopM (rowF (pg n).1 (k : Int)) (y.2.gL, y.2.gAt, y.2.gE, y.1.gOp, y.1.gN, y.1.gName, y.1.gKids, y.1.gAt)).bind fun z => some ((⟨z.2.2.2.1, z.2.2.2.2.1, z.2.2.2.2.2.1, z.2.2.2.2.2.2.1, z.2.2.2.2.2.2.2⟩ : Xp), (⟨z.1, z.2.1, z.2.2.1⟩ : Rdr)) := by
 show KaM (pg n).1 (pg n).2.1 (pg n).2.2.1 (pg n).2.2.2.1 (pg n).2.2.2.2 m k = _
 unfold KaM
 rw [show ((k : Int) == 6) = false by simp; omega, cond_false]
 rfl
theorem unit_eq {n i : Nat} {L : List Tok} (hi : i ≤ 4000000) : (pg (n + 1)).2.1 (mk L i 0) =
  (bif (lk L i).gKind == 2 then some (⟨1, (lk L i).gN, ByteArray.empty, [], (lk L i).gAt⟩, mk L (i + 1) 0)
  else bif (lk L i).gKind == 1 then (pg n).2.2.1 (mk L (i + 1) 0) ⟨2, 0, (lk L i).gText, [], (lk L i).gAt⟩ 3 (i : Int)
  else bif (lk L i).gKind == 3 then (pg n).2.2.2.2 (mk L (i + 1) 0) (lk L i) (i : Int)
  else some (ex0, mk L i 3)) := by
 show KaX (pg n).1 (pg n).2.1 (pg n).2.2.1 (pg n).2.2.2.1 (pg n).2.2.2.2 (mk L i 0) = _
 unfold KaX
 rw [KiI, Option.bind_some]
 have hw := winc hi
 change (bif false then some _ else _) = _
 rw [cond_false]
 change (bif (lk L i).gKind == 2 then some (_, (⟨L, IntKind.i64.wrap ((i : Int) + 1), 0⟩ : Rdr)) else bif (lk L i).gKind == 1 then Option.bind ((pg n).2.2.1 ⟨L, IntKind.i64.wrap ((i : Int) + 1), 0⟩ _ _ _) _ else bif (lk L i).gKind == 3 then Option.bind ((pg n).2.2.2.2 ⟨L, IntKind.i64.wrap ((i : Int) + 1), 0⟩ _ _) _ else Option.bind (KaD ⟨L, IntKind.i64.wrap ((i : Int) + 1), 0⟩ _ _) _) = _
 rw [hw, KbG, KbG]
 change (bif (lk L i).gKind == 2 then some (_, _) else bif (lk L i).gKind == 1 then _ else bif (lk L i).gKind == 3 then _ else Option.bind (KaD (mk L (i + 1) 0) _ _) _) = _
 simp only [show (mk L i 0).gAt = (i : Int) from rfl, Khv]
 rfl
theorem Kjf {n i : Nat} {L : List Tok} {t : Tok} (hi : i ≤ 4000000) (ht : lk L i = t) : (pg (n + 1)).2.1 (mk L i 0) =
 (bif t.gKind == 2 then some (⟨1, t.gN, ByteArray.empty, [], t.gAt⟩, mk L (i + 1) 0)
 else bif t.gKind == 1 then (pg n).2.2.1 (mk L (i + 1) 0) ⟨2, 0, t.gText, [], t.gAt⟩ 3 (i : Int)
 else bif t.gKind == 3 then (pg n).2.2.2.2 (mk L (i + 1) 0) t (i : Int)
 else some (ex0, mk L i 3)) := by subst ht; exact unit_eq hi
theorem Kf9 {n i : Nat} {L : List Tok} {x : Xp} {op a : Int} (hi : i ≤ 4000000) : (pg (n + 1)).2.2.1 (mk L i 0) x op a =
  (bif isS L i (ByteArray.mk #[91]) then ((pg n).2.2.2.1 (mk L (i + 1) 0) (ByteArray.mk #[93])).bind fun y => Kai y.2 ⟨op, x.gN, x.gName, [y.1], x.gAt⟩ a else some (x, mk L i 0)) := by
 show Kax (pg n).1 (pg n).2.1 (pg n).2.2.1 (pg n).2.2.2.1 (pg n).2.2.2.2 (mk L i 0) x op a = _
 unfold Kax
 show Option.bind (bif false then some true else _) _ = _
 rw [cond_false, is_eq]
 simp only [Option.bind_some]
 have hw := winc hi
 cases isS L i (ByteArray.mk #[91])
 ·rfl
 ·simp only [Bool.not_true, cond_true, cond_false]
  change Option.bind ((pg n).2.2.2.1 ⟨L, IntKind.i64.wrap ((i : Int) + 1), 0⟩ _) _ = _
  rw [hw]
  simp only [KbG]
  rfl
theorem KiX {n i : Nat} {L : List Tok} {x : Xp} {op a e : Int} (he : e ≠ 0) : (pg (n + 1)).2.2.1 (mk L i e) x op a = some (x, mk L i e) := by
 show Kax (pg n).1 (pg n).2.1 (pg n).2.2.1 (pg n).2.2.2.1 (pg n).2.2.2.2 (mk L i e) x op a = _
 unfold Kax
 show Option.bind (bif e != 0 then some true else _) _ = _
 rw [show (e != 0) = true by simp [he]]; rfl
theorem all_eq {n : Nat} {m : Rdr} {s : ByteArray} : (pg (n + 1)).2.2.2.1 m s = ((pg n).1 m 0).bind fun x => bif x.2.gE == 0 then (Ka1 x.2 s).bind fun y => some (x.1, y) else some x := by
 show Ka8 (pg n).1 (pg n).2.1 (pg n).2.2.1 (pg n).2.2.2.1 (pg n).2.2.2.2 m s = _
 unfold Ka8
 rfl
def tm (s t : ByteArray) : Bool := decide (s = t)
theorem sign_eq {n i a : Nat} {L : List Tok} {t : Tok} : (pg (n + 1)).2.2.2.2 (mk L i 0) t (a : Int) =
  (bif tm t.gText (ByteArray.mk #[45]) then ((pg n).2.1 (mk L i 0)).bind fun y => Kai y.2 ⟨5, 0, ByteArray.empty, [y.1], t.gAt⟩ (a : Int)
  else bif tm t.gText (ByteArray.mk #[33]) then ((pg n).2.1 (mk L i 0)).bind fun y => Kai y.2 ⟨6, 0, ByteArray.empty, [y.1], t.gAt⟩ (a : Int)
  else bif tm t.gText (ByteArray.mk #[42]) then (Kbf (mk L i 0)).bind fun y => some (⟨4, 0, y.1, [], t.gAt⟩, y.2)
  else bif tm t.gText (ByteArray.mk #[38]) then (Kbf (mk L i 0)).bind fun y => (pg n).2.2.1 y.2 ⟨19, 0, y.1, [], t.gAt⟩ 20 (a : Int)
  else bif tm t.gText (ByteArray.mk #[110, 117, 108, 108]) then some (⟨18, 0, ByteArray.empty, [], t.gAt⟩, mk L i 0)
  else bif tm t.gText (ByteArray.mk #[40]) then (pg n).2.2.2.1 (mk L i 0) (ByteArray.mk #[41])
  else some (ex0, mk L a 3)) := by
 show KaY (pg n).1 (pg n).2.1 (pg n).2.2.1 (pg n).2.2.2.1 (pg n).2.2.2.2 (mk L i 0) t (a : Int) = _
 unfold KaY tm
 simp only [KiJ, Option.bind_some, Khv, KbG]
 cases h1 : decide (t.gText = ByteArray.mk #[45])
 ·cases h2 : decide (t.gText = ByteArray.mk #[33])
  ·rfl
  ·rfl
 ·rfl
theorem Mt.isS {L L2 : List Tok} {d : Nat} {p : Int} {m i : Nat} (h : Mt L L2 d p m) {s : ByteArray} (hi : i ≤ m) (hs : s ≠ ByteArray.mk #[41]) : isS L2 (i + d) s = isS L i s := by
 unfold Pq.isS
 rcases Nat.lt_or_ge i m with q | q
 ·rw [h.tok i q]; rfl
 ·have : i = m := by omega
  subst this
  rw [h.fin, h.stp.1, h.stp.2, decide_eq_false (Ne.symm hs)]; rfl
theorem AB.sound {L : List Tok} {i j a s : Nat} {op nn : Int} {nm : ByteArray} {at_ : Int} {r : Option (Xp × Rdr)} {r2 : List Tok → Nat → Int → Option (Xp × Rdr)} (y : Xp) (hs : 1 ≤ s) (hL : L.length ≤ 100000) (hij : i ≤ j) (hj : j ≤ L.length) (hy : szE y + i ≤ j)
  (hr : r = Kai (mk L j 0) ⟨op, nn, nm, [y], at_⟩ (a : Int)) (h2 : ∀ L2 d p m, Mt L L2 d p m → i ≤ m → j ≤ m ∧ r2 L2 d p = Kai (mk L2 (j + d) 0) ⟨op, nn, nm, [shE p y], at_ + p⟩ ((a + d : Nat) : Int)) : AB L i 0 s r r2 := by
 have hsz : szE (⟨op, nn, nm, [y], at_⟩ : Xp) = 1 + szE y := by simp [KcZ, szEs]
 rw [Kc0 (fun _ => by rw [hsz]; omega)] at hr
 simp only [beq_self_eq_true, cond_true] at hr
 by_cases hd : 24 < dpE (⟨op, nn, nm, [y], at_⟩ : Xp)
 ·rw [decide_eq_true hd, cond_true] at hr
  exact AB.bad ex0 a 5 (by decide) hr
 ·rw [decide_eq_false hd, cond_false] at hr
  refine ⟨_, j, 0, hr, fun _ => ⟨by omega, hj, by omega, by rw [hsz]; omega, fun L2 d p m hm him => ?_⟩⟩
  obtain ⟨g1, g2⟩ := h2 L2 d p m hm him
  refine ⟨g1, ?_⟩
  have hsh : (⟨op, nn, nm, [shE p y], at_ + p⟩ : Xp) = shE p ⟨op, nn, nm, [y], at_⟩ := by simp only [shE, shEs]
  rw [g2, hsh, Kc0 (fun _ => by rw [szE_sh, hsz]; omega), dpE_sh, decide_eq_false hd]
  rfl
theorem AB.more {L : List Tok} {i c s c' s' : Nat} {r : Option (Xp × Rdr)} {r2 : List Tok → Nat → Int → Option (Xp × Rdr)} (h : AB L (i + 1) c s r r2) (hc : c' ≤ c + 1) (hs : s ≤ s' + 1) {r2' : List Tok → Nat → Int → Option (Xp × Rdr)} (h2 : ∀ L2 d p m, Mt L L2 d p m → i ≤ m → i + 1 ≤ m ∧ r2' L2 d p = r2 L2 d p) : AB L i c' s' r r2' := by
 obtain ⟨x, i', e', h1, h3⟩ := h
 refine ⟨x, i', e', h1, fun he => ?_⟩
 obtain ⟨g1, g2, g3, g4, g5⟩ := h3 he
 refine ⟨by omega, g2, g3, by omega, fun L2 d p m hm him => ?_⟩
 obtain ⟨k1, k2⟩ := h2 L2 d p m hm him
 obtain ⟨k3, k4⟩ := g5 L2 d p m hm k1
 exact ⟨k3, k2.trans k4⟩
theorem ab : ∀ n : Nat, (∀ (L : List Tok) (i k : Nat), L.length ≤ 100000 → i ≤ L.length → k ≤ 6 → 10 * (L.length - i) + 8 ≤ n + k → AB L i 1 0 ((pg n).1 (mk L i 0) (k : Int)) (fun L2 d p => (pg n).1 (mk L2 (i + d) 0) (k : Int))) ∧
    (∀ (L : List Tok) (i : Nat), L.length ≤ 100000 → i ≤ L.length → 10 * (L.length - i) + 1 ≤ n → AB L i 1 0 ((pg n).2.1 (mk L i 0)) (fun L2 d p => (pg n).2.1 (mk L2 (i + d) 0))) ∧
    (∀ (L : List Tok) (i a : Nat) (x : Xp) (op : Int), L.length ≤ 100000 → i ≤ L.length → x.gKids = [] → 10 * (L.length - i) + 1 ≤ n → AB L i 0 1 ((pg n).2.2.1 (mk L i 0) x op (a : Int)) (fun L2 d p => (pg n).2.2.1 (mk L2 (i + d) 0) (shE p x) op ((a + d : Nat) : Int))) ∧
    (∀ (L : List Tok) (i : Nat) (s : ByteArray), L.length ≤ 100000 → i ≤ L.length → 10 * (L.length - i) + 9 ≤ n → AB L i 1 0 ((pg n).2.2.2.1 (mk L i 0) s) (fun L2 d p => (pg n).2.2.2.1 (mk L2 (i + d) 0) s)) ∧
    (∀ (L : List Tok) (i a : Nat) (t : Tok), L.length ≤ 100000 → i ≤ L.length → 10 * (L.length - i) + 10 ≤ n → AB L i 0 1 ((pg n).2.2.2.2 (mk L i 0) t (a : Int)) (fun L2 d p => (pg n).2.2.2.2 (mk L2 (i + d) 0) (shT p t) ((a + d : Nat) : Int)))
  | 0 => ⟨fun L i k _ _ _ h => by omega, fun L i _ _ h => by omega, fun L i a x op _ _ _ h => by omega, fun L i s _ _ h => by omega, fun L i a t _ _ h => by omega⟩
  | n + 1 => by
    obtain ⟨ihR, ihU, ihI, ihA, ihS⟩ := ab n
    refine ⟨fun L i k hL hi hk hn => ?_, fun L i hL hi hn => ?_, fun L i a x op hL hi hx hn => ?_, fun L i s hL hi hn => ?_, fun L i a t hL hi hn => ?_⟩
    · -- a row
      by_cases h6 : k = 6
      · subst h6
        have h := ihU L i hL hi (by omega)
        obtain ⟨x, i', e', h1, h2⟩ := h
        refine ⟨x, i', e', (row6 n _).trans h1, fun he => ?_⟩
        obtain ⟨g1, g2, g3, g4, g5⟩ := h2 he
        exact ⟨g1, g2, g3, g4, fun L2 d p m hm him => ⟨(g5 L2 d p m hm him).1, (row6 n _).trans (g5 L2 d p m hm him).2⟩⟩
      · obtain ⟨x, i1, e1, h1, h2⟩ := ihR L i (k + 1) hL hi (by omega) (by omega)
        have hrow := rowK (n := n) (k := k) (mk L i 0) (by omega)
        rw [wIdx (by omega), h1, Option.bind_some] at hrow
        by_cases he : e1 = 0
        · subst he
          obtain ⟨g1, g2, g3, g4, g5⟩ := h2 rfl
          obtain ⟨x', j', e', h3, h4⟩ := row_loop (pg n).1 L i (k : Int) hL (fun j hj hjl => by
            have := ihR L j (k + 1) hL hjl (by omega) (by omega)
            rw [wIdx (by omega)]; exact this) (L.length - i1) i1 x (Nat.le_refl _) (by omega) g2 g3 (by omega)
          change _ = Option.bind (loopM (rowF (pg n).1 (k : Int)) (st8 L i1 0 x)) _ at hrow
          rw [h3, Option.bind_some] at hrow
          simp only [st8, xp_eta] at hrow
          refine ⟨x', j', e', hrow, fun he => ?_⟩
          obtain ⟨k1, k2, k3, k4, k5⟩ := h4 he
          refine ⟨by omega, k2, k3, by omega, fun L2 d p m hm him => ?_⟩
          obtain ⟨m1, m2⟩ := g5 L2 d p m hm him
          obtain ⟨m3, m4⟩ := k5 L2 d p m hm m1
          refine ⟨m3, ?_⟩
          simp only [] at m2 ⊢
          rw [rowK _ (by omega), wIdx (by omega), m2, Option.bind_some]
          change Option.bind (loopM (rowF (pg n).1 (k : Int)) (st8 L2 (i1 + d) 0 (shE p x))) _ = _
          rw [m4, Option.bind_some]
          simp only [st8, xp_eta]; rfl
        · change _ = Option.bind (loopM (rowF (pg n).1 (k : Int)) (st8 L i1 e1 x)) _ at hrow
          rw [KG (Kfv he), Option.bind_some] at hrow
          simp only [st8, xp_eta] at hrow
          exact AB.bad x i1 e1 he hrow
    · -- a unit
      have hu := unit_eq (n := n) (i := i) (L := L) (by omega)
      by_cases h2 : (lk L i).gKind = 2
      · have hlt := lk_lt (L := L) (i := i) (by rw [h2]; decide)
        rw [h2] at hu
        refine ⟨_, i + 1, 0, hu, fun _ => ⟨Nat.le_refl _, hlt, by simp [dpE, dpEs], by simp [szE, szEs]; omega, fun L2 d p m hm him => ?_⟩⟩
        have hl := hm.lt him (by rw [h2]; decide)
        refine ⟨hl, ?_⟩
        have := Kjf (n := n) (i := i + d) (L := L2) (by have := hm.len; omega) (hm.tok i hl)
        rw [show (shT p (lk L i)).gKind = 2 from h2] at this
        try simp only []
        rw [this, show i + d + 1 = i + 1 + d by omega]; simp only [shE, shEs, shT]; rfl
      · rw [show ((lk L i).gKind == 2) = false by simp [h2], cond_false] at hu
        by_cases h1 : (lk L i).gKind = 1
        · have hlt := lk_lt (L := L) (i := i) (by rw [h1]; decide)
          rw [h1] at hu
          simp only [beq_self_eq_true, cond_true] at hu
          have h := ihI L (i + 1) i ⟨2, 0, (lk L i).gText, [], (lk L i).gAt⟩ 3 hL hlt rfl (by omega)
          rw [hu]
          refine h.more (by omega) (by omega) fun L2 d p m hm him => ?_
          have hl := hm.lt him (by rw [h1]; decide)
          refine ⟨hl, ?_⟩
          have := Kjf (n := n) (i := i + d) (L := L2) (by have := hm.len; omega) (hm.tok i hl)
          rw [show (shT p (lk L i)).gKind = 1 from h1] at this
          try simp only []
          rw [this, show i + d + 1 = i + 1 + d by omega]; simp only [shE, shEs, shT]; rfl
        · rw [show ((lk L i).gKind == 1) = false by simp [h1], cond_false] at hu
          by_cases h3 : (lk L i).gKind = 3
          · have hlt := lk_lt (L := L) (i := i) (by rw [h3]; decide)
            have h := ihS L (i + 1) i (lk L i) hL hlt (by omega)
            rw [show ((lk L i).gKind == 3) = true by simp [h3], cond_true] at hu
            rw [hu]
            refine h.more (by omega) (by omega) fun L2 d p m hm him => ?_
            have hl := hm.lt him (by rw [h3]; decide)
            refine ⟨hl, ?_⟩
            have := Kjf (n := n) (i := i + d) (L := L2) (by have := hm.len; omega) (hm.tok i hl)
            rw [show (shT p (lk L i)).gKind = 3 from h3] at this
            try simp only []
            rw [this, show i + d + 1 = i + 1 + d by omega]; rfl
          · rw [show ((lk L i).gKind == 3) = false by simp [h3], cond_false] at hu
            exact AB.bad ex0 i 3 (by decide) hu
    · -- an index
      have hx1 : dpE x = 1 := by rw [KeF, hx]; rfl
      have hx2 : szE x = 1 := by rw [KcZ, hx]; rfl
      have hu := Kf9 (n := n) (i := i) (L := L) (x := x) (op := op) (a := (a : Int)) (by omega)
      cases hb : isS L i (ByteArray.mk #[91])
      · rw [hb, cond_false] at hu
        refine ⟨x, i, 0, hu, fun _ => ⟨Nat.le_refl _, hi, by omega, by omega, fun L2 d p m hm him => ⟨him, ?_⟩⟩⟩
        have := Kf9 (n := n) (i := i + d) (L := L2) (x := shE p x) (op := op) (a := ((a + d : Nat) : Int)) (by have := hm.len; omega)
        rw [hm.isS him (by decide)] at this
        rw [hb, cond_false] at this
        exact this
      · rw [hb, cond_true] at hu
        obtain ⟨hlt, hk3, _⟩ := Kel hb
        obtain ⟨y, j, e1, h1, h2⟩ := ihA L (i + 1) (ByteArray.mk #[93]) hL hlt (by omega)
        rw [h1, Option.bind_some] at hu
        by_cases he : e1 = 0
        · subst he
          obtain ⟨g1, g2, g3, g4, g5⟩ := h2 rfl
          refine AB.sound y (Nat.le_refl _) hL (by omega) g2 (by omega) hu fun L2 d p m hm him => ?_
          have hl := hm.lt him (by rw [hk3]; decide)
          obtain ⟨m1, m2⟩ := g5 L2 d p m hm hl
          refine ⟨m1, ?_⟩
          have := Kf9 (n := n) (i := i + d) (L := L2) (x := shE p x) (op := op) (a := ((a + d : Nat) : Int)) (by have := hm.len; omega)
          rw [hm.isS him (by decide)] at this
          simp only [] at m2 ⊢
          rw [hb, cond_true, show i + d + 1 = i + 1 + d by omega, m2, Option.bind_some] at this
          rw [this, shE_eq p x]
        · rw [Kc0 (fun h => absurd h he), show (e1 == 0) = false by simp [he], cond_false] at hu
          exact AB.bad ex0 j e1 he hu
    · -- all
      obtain ⟨x, j, e1, h1, h2⟩ := ihR L i 0 hL hi (by omega) (by omega)
      have hu := all_eq (n := n) (m := mk L i 0) (s := s)
      rw [show ((pg n).1 (mk L i 0) 0) = _ from h1, Option.bind_some] at hu
      by_cases he : e1 = 0
      · subst he
        obtain ⟨g1, g2, g3, g4, g5⟩ := h2 rfl
        change _ = Option.bind (Ka1 (mk L j 0) s) _ at hu
        rw [eat_eq s (by omega), Option.bind_some] at hu
        cases hb : isS L j s
        · rw [hb, cond_false] at hu
          exact AB.bad x j 3 (by decide) hu
        · rw [hb, cond_true] at hu
          obtain ⟨hlt, hk3, ht⟩ := Kel hb
          refine ⟨x, j + 1, 0, hu, fun _ => ⟨by omega, hlt, g3, by omega, fun L2 d p m hm him => ?_⟩⟩
          obtain ⟨m1, m2⟩ := g5 L2 d p m hm him
          have hl := hm.lt m1 (by rw [hk3]; decide)
          refine ⟨hl, ?_⟩
          simp only [] at m2 ⊢
          have hb2 : isS L2 (j + d) s = true := by
            rw [← hb]; unfold isS; rw [hm.tok j hl]; rfl
          rw [all_eq, show ((pg n).1 (mk L2 (i + d) 0) 0) = _ from m2, Option.bind_some]
          change Option.bind (Ka1 (mk L2 (j + d) 0) s) _ = _
          rw [eat_eq s (by have := hm.len; omega), Option.bind_some, hb2, cond_true, show j + d + 1 = j + 1 + d by omega]
      · rw [show ((x, mk L j e1).2.gE == 0) = false by simp [mk, he], cond_false] at hu
        exact AB.bad x j e1 he hu
    · -- a sign
      have hu := sign_eq (n := n) (i := i) (a := a) (L := L) (t := t)
      have hu2 := fun (L2 : List Tok) (d : Nat) (p : Int) => sign_eq (n := n) (i := i + d) (a := a + d) (L := L2) (t := shT p t)
      have htx : ∀ p, (shT p t).gText = t.gText := fun _ => rfl
      have hta : ∀ p, (shT p t).gAt = t.gAt + p := fun _ => rfl
      simp only [htx, hta] at hu2
      have un : ∀ op : Int, (∀ {r}, r = (((pg n).2.1 (mk L i 0)).bind fun y => Kai y.2 ⟨op, 0, ByteArray.empty, [y.1], t.gAt⟩ (a : Int)) → (∀ {r2 : List Tok → Nat → Int → Option (Xp × Rdr)}, (∀ L2 d p, r2 L2 d p = (((pg n).2.1 (mk L2 (i + d) 0)).bind fun y => Kai y.2 ⟨op, 0, ByteArray.empty, [y.1], t.gAt + p⟩ ((a + d : Nat) : Int))) → AB L i 0 1 r r2)) := by
        intro op r hr r2 hr2
        obtain ⟨y, j, e1, h1, h2⟩ := ihU L i hL hi (by omega)
        rw [h1, Option.bind_some] at hr
        by_cases he : e1 = 0
        · subst he
          obtain ⟨g1, g2, g3, g4, g5⟩ := h2 rfl
          refine AB.sound y (Nat.le_refl _) hL (by omega) g2 (by omega) hr fun L2 d p m hm him => ?_
          obtain ⟨m1, m2⟩ := g5 L2 d p m hm him
          refine ⟨m1, ?_⟩
          simp only [] at m2
          rw [hr2, m2, Option.bind_some]
        · rw [Kc0 (fun h => absurd h he), show (e1 == 0) = false by simp [he], cond_false] at hr
          exact AB.bad ex0 j e1 he hr
      cases c1 : tm t.gText (ByteArray.mk #[45])
      rotate_left
      · rw [c1, cond_true] at hu
        simp only [c1, cond_true] at hu2
        exact un 5 hu hu2
      cases c2 : tm t.gText (ByteArray.mk #[33])
      rotate_left
      · rw [c1, c2, cond_false, cond_true] at hu
        simp only [c1, c2, cond_true, cond_false] at hu2
        exact un 6 hu hu2
      cases c3 : tm t.gText (ByteArray.mk #[42])
      rotate_left
      · rw [c1, c2, c3, cond_false, cond_false, cond_true, Kgh (by omega), Option.bind_some] at hu
        simp only [c1, c2, c3, cond_true, cond_false] at hu2
        cases hk : (lk L i).gKind == 1
        · rw [hk, cond_false] at hu
          exact AB.bad _ i 3 (by decide) hu
        · have hk1 : (lk L i).gKind = 1 := by simpa using hk
          have hlt := lk_lt (L := L) (i := i) (by rw [hk1]; decide)
          rw [hk, cond_true] at hu
          refine ⟨_, i + 1, 0, hu, fun _ => ⟨by omega, hlt, by simp [dpE, dpEs], by simp [szE, szEs]; omega, fun L2 d p m hm him => ?_⟩⟩
          have hl := hm.lt him (by rw [hk1]; decide)
          refine ⟨hl, ?_⟩
          try simp only []
          rw [hu2 L2 d p, Kgh (by have := hm.len; omega), Option.bind_some, hm.tok i hl, show (shT p (lk L i)).gKind = 1 from hk1, show i + d + 1 = i + 1 + d by omega]
          simp only [shE, shEs, shT]; rfl
      cases c4 : tm t.gText (ByteArray.mk #[38])
      rotate_left
      · rw [c1, c2, c3, c4, cond_false, cond_false, cond_false, cond_true, Kgh (by omega), Option.bind_some] at hu
        simp only [c1, c2, c3, c4, cond_true, cond_false] at hu2
        cases hk : (lk L i).gKind == 1
        · rw [hk, cond_false] at hu
          simp only [] at hu
          have hn0 : ∃ n', n = n' + 1 := ⟨n - 1, by omega⟩
          obtain ⟨n', rfl⟩ := hn0
          rw [KiX (by decide)] at hu
          exact AB.bad _ i 3 (by decide) hu
        · have hk1 : (lk L i).gKind = 1 := by simpa using hk
          have hlt := lk_lt (L := L) (i := i) (by rw [hk1]; decide)
          rw [hk, cond_true] at hu
          simp only [] at hu
          have h := ihI L (i + 1) a ⟨19, 0, (lk L i).gText, [], t.gAt⟩ 20 hL hlt rfl (by omega)
          rw [hu]
          refine h.more (by omega) (by omega) fun L2 d p m hm him => ?_
          have hl := hm.lt him (by rw [hk1]; decide)
          refine ⟨hl, ?_⟩
          try simp only []
          rw [hu2 L2 d p, Kgh (by have := hm.len; omega), Option.bind_some, hm.tok i hl, show (shT p (lk L i)).gKind = 1 from hk1, show i + d + 1 = i + 1 + d by omega]
          simp only [shE, shEs, shT]; rfl
      cases c5 : tm t.gText (ByteArray.mk #[110, 117, 108, 108])
      rotate_left
      · rw [c1, c2, c3, c4, c5, cond_false, cond_false, cond_false, cond_false, cond_true] at hu
        simp only [c1, c2, c3, c4, c5, cond_true, cond_false] at hu2
        refine ⟨_, i, 0, hu, fun _ => ⟨by omega, hi, by simp [dpE, dpEs], by simp [szE, szEs]; omega, fun L2 d p m hm him => ⟨him, ?_⟩⟩⟩
        try simp only []
        rw [hu2 L2 d p]; simp only [shE, shEs]
      cases c6 : tm t.gText (ByteArray.mk #[40])
      rotate_left
      · rw [c1, c2, c3, c4, c5, c6, cond_false, cond_false, cond_false, cond_false, cond_false, cond_true] at hu
        simp only [c1, c2, c3, c4, c5, c6, cond_true, cond_false] at hu2
        obtain ⟨x, j, e1, h1, h2⟩ := ihA L i (ByteArray.mk #[41]) hL hi (by omega)
        refine ⟨x, j, e1, hu.trans h1, fun he => ?_⟩
        obtain ⟨g1, g2, g3, g4, g5⟩ := h2 he
        refine ⟨by omega, g2, g3, by omega, fun L2 d p m hm him => ⟨(g5 L2 d p m hm him).1, ?_⟩⟩
        try simp only []
        rw [hu2 L2 d p]
        exact (g5 L2 d p m hm him).2
      · rw [c1, c2, c3, c4, c5, c6, cond_false, cond_false, cond_false, cond_false, cond_false, cond_false] at hu
        exact AB.bad ex0 a 3 (by decide) hu
end Go.Proofs.Ytmgklehakmdiiaa.Ab.Pq
namespace Go.Proofs.Ytmgklehakmdiiaa.Ab.Pq
open Go
set_option linter.all false
def Tot {α : Type} (m : Option α) : Prop := ∃ r, m = some r
theorem Tot.some {α : Type} (a : α) : Tot (Option.some a) := ⟨a, rfl⟩
theorem Tot.bind {α β : Type} {m : Option α} {f : α → Option β} (h : Tot m) (k : ∀ a, Tot (f a)) : Tot (m.bind f) := by
 obtain ⟨a, rfl⟩ := h
 exact k a
theorem Tot.cond {α : Type} {c : Bool} {m n : Option α} (h : Tot m) (k : Tot n) : Tot (bif c then m else n) := by
 cases c
 ·exact k
 ·exact h
theorem Tot.get {α : Type} {m : Option α} (h : Tot m) (z : α) : m = Option.some (m.getD z) := by obtain ⟨a, rfl⟩ := h; rfl
theorem kind_tot (c : Int) : Tot (Kcj c) := by
 unfold Kcj
 repeat (first | exact Tot.some _ | refine Tot.bind ?_ (fun _ => ?_) | refine Tot.cond ?_ ?_)
noncomputable def kd (c : UInt8) : Int := (Kcj (IntKind.i32.wrap (c.toNat : Int))).getD 0
theorem kind_eq (c : UInt8) : Kcj (IntKind.i32.wrap (c.toNat : Int)) = some (kd c) := (kind_tot _).get 0
noncomputable def dg (w : Bool) (c : UInt8) : Bool := kd c == 3 || (w && kd c == 2)
noncomputable def spn (w : Bool) (r : List UInt8) : Nat := (r.takeWhile (dg w)).length
theorem KeH (w : Bool) (r : List UInt8) : spn w r ≤ r.length := by unfold spn; exact (List.takeWhile_sublist _).length_le
def rt (b : List UInt8) (a : Nat) (l : List Tok) : KN := ⟨b, (a : Int), l⟩
theorem Khw {b : List UInt8} {a : Nat} {c : UInt8} {r : List UInt8} (h : b.drop a = c :: r) : b[a]? = some c ∧ a < b.length ∧ b.drop (a + 1) = r := by
 have h1 := congrArg List.head? h
 rw [List.head?_drop] at h1
 refine ⟨h1, (List.getElem?_eq_some_iff.1 h1).1, ?_⟩
 have h2 := congrArg (List.drop 1) h
 rw [List.drop_drop] at h2
 simpa using h2
theorem span_eq {b : List UInt8} {a : Nat} {l : List Tok} (w : Bool) (hb : b.length ≤ 100000) (ha : a ≤ b.length) : Kbm (rt b a l) w = some ((spn w (b.drop a) : Nat) : Int) := by
  unfold Kbm rt
  have key : ∀ (post pre : List UInt8), b.drop a = pre ++ post → loopM (fun (s24 : Int) => (bif (decide ((IntKind.i64.wrap ((a : Int) + s24)) < (b.length : Int))) then ((idx b (IntKind.i64.wrap ((a : Int) + s24))).bind fun x40 => ((Kcj (IntKind.i32.wrap (x40.toNat : Int))).bind fun x41 => (bif (x41 != (3 : Int)) then (bif (x41 != (2 : Int)) then some (.done s24) else (bif (!w) then some (.done s24) else some (.next (IntKind.i64.wrap (s24 + (1 : Int)))))) else some (.next (IntKind.i64.wrap (s24 + (1 : Int))))))) else some (.done s24))) ((pre.length : Nat) : Int) = some (((pre.length + spn w post : Nat)) : Int) := by
    intro post
    induction post with
    | nil =>
      intro pre h
      refine KG ?_
      have hl := congrArg List.length h
      simp only [List.length_drop, List.append_nil] at hl
      rw [KbM (n := (a : Int) + (pre.length : Int)) (by omega) (by omega), decide_eq_false (by omega), cond_false]
      simp [spn]
    | cons c post ih =>
      intro pre h
      have hl := congrArg List.length h
      simp only [List.length_drop, List.length_append, List.length_cons] at hl
      have hc : b[a + pre.length]? = some c := by
        have := congrArg (fun z => z[pre.length]?) h
        simpa [List.getElem?_drop] using this
      have step : ∀ x, x = (bif (kd c != 3) then (bif (kd c != 2) then some (Step.done ((pre.length : Nat) : Int)) else (bif (!w) then some (.done ((pre.length : Nat) : Int)) else some (.next (IntKind.i64.wrap (((pre.length : Nat) : Int) + 1))))) else some (.next (IntKind.i64.wrap (((pre.length : Nat) : Int) + 1))) : Option (Step Int Int)) → (dg w c = true → x = some (.next ((pre.length + 1 : Nat) : Int))) ∧ (dg w c = false → x = some (.done ((pre.length : Nat) : Int))) := by
        rintro x rfl
        have hw := winc (i := pre.length) (by omega)
        unfold dg
        cases h3 : kd c == 3 <;> cases h2 : kd c == 2 <;> cases w <;> simp [bne, h3, h2, hw]
      obtain ⟨s1, s2⟩ := step _ rfl
      have hw := KbM (n := (a : Int) + (pre.length : Int)) (by omega) (by omega)
      have hidx : idx b ((a : Int) + (pre.length : Int)) = some c := by
        rw [show (a : Int) + (pre.length : Int) = ((a + pre.length : Nat) : Int) by omega, KdF]; exact hc
      cases hd : dg w c
      · rw [KG (t := ((pre.length : Nat) : Int)) ?_]
        · simp [spn, hd]
        · rw [hw, decide_eq_true (by omega), cond_true, hidx, Option.bind_some, kind_eq, Option.bind_some]
          exact s2 hd
      · rw [Kag (s' := ((pre.length + 1 : Nat) : Int)) ?_]
        · have := ih (pre ++ [c]) (by simp [h])
          simp only [List.length_append, List.length_cons, List.length_nil, Nat.zero_add] at this
          rw [this]
          congr 2
          simp [spn, hd]; omega
        · rw [hw, decide_eq_true (by omega), cond_true, hidx, Option.bind_some, kind_eq, Option.bind_some]
          exact s1 hd
  have := key (b.drop a) [] rfl
  simp only [List.length_nil, Nat.zero_add] at this
  rw [show ((0 : Nat) : Int) = 0 from rfl] at this
  rw [this]; rfl
def txt (r : List UInt8) (n : Nat) : ByteArray := ByteArray.mk (r.take n).toArray
theorem cut_eq {b : List UInt8} {a n : Nat} (h : n ≤ (b.drop a).length) (ha : a ≤ b.length) (hb : b.length ≤ 100000) : cutL b (a : Int) (IntKind.i64.wrap ((a : Int) + (n : Int))) = some ((b.drop a).take n) := by
 rw [List.length_drop] at h
 rw [KbM (by omega) (by omega), show (a : Int) + (n : Int) = ((a + n : Nat) : Int) by omega, Kjb]
 ·rw [Nat.add_sub_cancel_left]
 ·omega
 ·omega
theorem add_eq {b : List UInt8} {a n : Nat} {l : List Tok} {k v : Int} (h : n ≤ (b.drop a).length) (ha : a ≤ b.length) (hb : b.length ≤ 100000) (hl : l.length ≤ 100000) : Kbj (rt b a l) k (n : Int) v = some (bif decide (4000 ≤ l.length) then (6, rt b a l) else (0, rt b (a + n) (l ++ [⟨k, txt (b.drop a) n, v, (a : Int)⟩]))) := by
 unfold Kbj
 change (bif decide ((4000 : Int) ≤ (l.length : Int)) then _ else Option.bind (cutL b (a : Int) (IntKind.i64.wrap ((a : Int) + (n : Int)))) _) = _
 by_cases q : 4000 ≤ l.length
 ·rw [decide_eq_true (by omega), cond_true, decide_eq_true q, cond_true]
 ·rw [decide_eq_false (by omega), cond_false, decide_eq_false q, cond_false, cut_eq h ha hb, Option.bind_some]
  rw [Kba (by omega) (by simp [rt]; omega), Option.bind_some]
  have h2 := h
  rw [List.length_drop] at h2
  unfold rt txt
  simp only []
  rw [KbM (by omega) (by omega), show (a : Int) + (n : Int) = ((a + n : Nat) : Int) by omega]
def hasS (s : ByteArray) (l : List ByteArray) : Bool := l.any fun x => decide (s = x)
theorem index_eq (s : ByteArray) (l : List ByteArray) (hl : l.length ≤ 1000) : ∃ i, Ka0 l s = some i ∧ decide ((0 : Int) ≤ i) = hasS s l := by
  unfold Ka0
  have key : ∀ (post pre : List ByteArray), l = pre ++ post → hasS s pre = false → ∃ r, loopM (fun (s15 : Int) => (bif (decide (s15 < (l.length : Int))) then ((idx l s15).bind fun x25 => (bif (decide (s = x25)) then some (Step.done (Sum.inr (α := Unit) s15)) else some (.next (IntKind.i64.wrap (s15 + (1 : Int)))))) else some (.done (.inl ())))) ((pre.length : Nat) : Int) = some r ∧ decide ((0 : Int) ≤ Sum.elim (fun _ => -1) id r) = hasS s l := by
    intro post
    induction post with
    | nil =>
      intro pre h hs
      rw [List.append_nil] at h; subst h
      refine ⟨.inl (), KG (by rw [Kb3, cond_false]), ?_⟩
      rw [hs]; rfl
    | cons x post ih =>
      intro pre h hs
      have hf : (bif (decide (((pre.length : Nat) : Int) < (l.length : Int))) then ((idx l ((pre.length : Nat) : Int)).bind fun x25 => (bif (decide (s = x25)) then some (Step.done (Sum.inr (α := Unit) ((pre.length : Nat) : Int))) else some (.next (IntKind.i64.wrap (((pre.length : Nat) : Int) + (1 : Int)))))) else some (.done (.inl ()))) = (bif decide (s = x) then some (Step.done (Sum.inr (α := Unit) ((pre.length : Nat) : Int))) else some (.next ((pre.length + 1 : Nat) : Int))) := by
        rw [Kb2 h, cond_true, KbR h rfl, Option.bind_some, Kby h (by omega)]
      by_cases q : s = x
      · rw [decide_eq_true q, cond_true] at hf
        refine ⟨_, KG hf, ?_⟩
        rw [show hasS s l = true by rw [h, q]; simp [hasS], decide_eq_true (by show (0 : Int) ≤ (pre.length : Int); omega)]
      · rw [decide_eq_false q, cond_false] at hf
        rw [Kag hf]
        have := ih (pre ++ [x]) (by simp [h]) (by unfold hasS at hs ⊢; rw [List.any_append, hs]; simp [q])
        simpa using this
  obtain ⟨r, h1, h2⟩ := key l [] rfl rfl
  simp only [List.length_nil] at h1
  rw [show ((0 : Nat) : Int) = 0 from rfl] at h1
  rw [h1, Option.bind_some]
  cases r with
  | inl u => exact ⟨-1, rfl, h2⟩
  | inr i => exact ⟨i, rfl, h2⟩
theorem Khc (s : ByteArray) (l : List ByteArray) (hl : l.length ≤ 1000) : KaH l s = some (hasS s l) := by
 unfold KaH
 obtain ⟨i, h1, h2⟩ := index_eq s l hl
 rw [h1, Option.bind_some, h2]
noncomputable def wd (s : ByteArray) : Bool := (Kcy s).getD false
theorem word_eq (s : ByteArray) : Kcy s = some (wd s) := by
 have : Tot (Kcy s) := by
  unfold Kcy
  rw [Khc _ _ (by decide)]
  exact Tot.some _
 exact this.get false
theorem name2_eq {b : List UInt8} {a : Nat} {l : List Tok} (ha : a ≤ b.length) (hb : b.length ≤ 100000) (hl : l.length ≤ 100000) : Kbz (rt b a l) =
  some (bif decide (20 < spn true (b.drop a)) then (6, rt b a l) else bif decide (4000 ≤ l.length) then (6, rt b a l) else (0, rt b (a + spn true (b.drop a)) (l ++ [⟨bif wd (txt (b.drop a) (spn true (b.drop a))) then 3 else 1, txt (b.drop a) (spn true (b.drop a)), 0, (a : Int)⟩]))) := by
 unfold Kbz
 rw [span_eq true hb ha, Option.bind_some]
 change Option.bind (cutL b (a : Int) (IntKind.i64.wrap ((a : Int) + (((spn true (b.drop a)) : Nat) : Int)))) _ = _
 have hn := KeH true (b.drop a)
 rw [cut_eq hn ha hb, Option.bind_some]
 by_cases q : 20 < spn true (b.drop a)
 ·rw [decide_eq_true (by omega), cond_true, decide_eq_true q, cond_true]
 ·rw [decide_eq_false (by omega), cond_false, decide_eq_false q, cond_false, word_eq, Option.bind_some]
  rw [show (ByteArray.mk ((b.drop a).take (spn true (b.drop a))).toArray) = txt (b.drop a) (spn true (b.drop a)) from rfl]
  cases wd (txt (b.drop a) (spn true (b.drop a)))
  ·simp only [cond_false, add_eq hn ha hb hl, Option.bind_some]
  ·simp only [cond_true, add_eq hn ha hb hl, Option.bind_some]
end Go.Proofs.Ytmgklehakmdiiaa.Ab.Pq
namespace Go.Proofs.Ytmgklehakmdiiaa.Ab.Pq
open Go
set_option linter.all false
noncomputable def digF (x17 : List UInt8) (m0 : KN) (s33 : Int × Int) : Option (Step (Int × Int) (Int ⊕ (Int × KN))) := (bif (decide (s33.2 < (x17.length : Int))) then ((idx x17 s33.2).bind fun x43 => (bif (decide ((IntKind.u64.wrap ((IntKind.u64.wrap ((9223372036854775807 : Int) - (IntKind.u64.wrap (IntKind.u8.wrap ((x43.toNat : Int) - (48 : Int)))))).tdiv (10 : Int))) < s33.1)) then some (.done (.inr ((4 : Int), m0))) else some (.next ((IntKind.u64.wrap ((IntKind.u64.wrap ((10 : Int) * s33.1)) + (IntKind.u64.wrap (IntKind.u8.wrap ((x43.toNat : Int) - (48 : Int)))))), (IntKind.i64.wrap (s33.2 + (1 : Int))))))) else some (.done (.inl s33.1)))
def dv (m0 : KN) : Option Int → Int ⊕ (Int × KN)
 | some y => .inl y
 | none => .inr ((4 : Int), m0)
def numBad (c : UInt8) (r : List UInt8) (n m : Nat) : Bool := decide (n < m) || ((c.toNat : Int) == 48 && decide (1 < n))
def dn' (b : List UInt8) (a : Nat) (l : List Tok) (r : List UInt8) (n : Nat) : Option Int → Int × KN
 | some y => (0, rt b (a + n) (l ++ [⟨2, txt r n, IntKind.i64.wrap y, (a : Int)⟩]))
 | none => (4, rt b a l)
noncomputable abbrev dn (b : List UInt8) (a : Nat) (l : List Tok) (r : List UInt8) (v : Option Int) : Int × KN := dn' b a l r (spn false r) v
theorem number_eq {b : List UInt8} {a : Nat} {l : List Tok} {c : UInt8} {r : List UInt8} (hr : b.drop a = c :: r) (hb : b.length ≤ 100000) (hl : l.length ≤ 100000) (v : Option Int) (hv : ∀ m0, loopM (digF ((c :: r).take (spn false (c :: r))) m0) ((0 : Int), (0 : Int)) = some (dv m0 v)) :
    Kbl (rt b a l) = some (bif decide (4000 ≤ l.length) then ((6 : Int), rt b a l) else bif numBad c r (spn false (c :: r)) (spn true (c :: r)) then (3, rt b a l) else dn b a l (c :: r) v) := by
  obtain ⟨h1, h2, h3⟩ := Khw hr
  have ha : a ≤ b.length := by omega
  unfold Kbl
  change (bif decide ((4000 : Int) ≤ (l.length : Int)) then _ else _) = _
  by_cases q : 4000 ≤ l.length
  · rw [decide_eq_true (by omega), cond_true, decide_eq_true q, cond_true]
  · rw [decide_eq_false (by omega), cond_false, decide_eq_false q, cond_false, span_eq false hb ha, span_eq true hb ha, hr]
    simp only [Option.bind_some]
    have hidx : idx (rt b a l).gB (rt b a l).gAt = some c := by show idx b (a : Int) = _; rw [KdF]; exact h1
    rw [hidx, Option.bind_some]
    have hbad : (bif decide (((spn false (c :: r) : Nat) : Int) < ((spn true (c :: r) : Nat) : Int)) then some true else (bif ((c.toNat : Int) == (48 : Int)) then some (decide ((1 : Int) < ((spn false (c :: r) : Nat) : Int))) else some false)) = some (numBad c r (spn false (c :: r)) (spn true (c :: r))) := by
      unfold numBad
      rw [show decide (((spn false (c :: r) : Nat) : Int) < ((spn true (c :: r) : Nat) : Int)) = decide (spn false (c :: r) < spn true (c :: r)) from decide_eq_decide.2 (by omega), show decide ((1 : Int) < ((spn false (c :: r) : Nat) : Int)) = decide (1 < spn false (c :: r)) from decide_eq_decide.2 (by omega)]
      cases decide (spn false (c :: r) < spn true (c :: r)) <;> cases ((c.toNat : Int) == 48) <;> cases decide (1 < spn false (c :: r)) <;> rfl
    rw [hbad, Option.bind_some]
    cases numBad c r (spn false (c :: r)) (spn true (c :: r))
    · simp only [cond_false]
      have hn := KeH false (c :: r)
      change Option.bind (cutL b (a : Int) (IntKind.i64.wrap ((a : Int) + ((spn false (c :: r) : Nat) : Int)))) _ = _
      rw [cut_eq (by rw [hr]; exact hn) ha hb, Option.bind_some, hr]
      change Option.bind (loopM (digF ((c :: r).take (spn false (c :: r))) (rt b a l)) ((0 : Int), (0 : Int))) _ = _
      rw [hv, Option.bind_some]
      cases v with
      | some y =>
        simp only [dv, dn, dn', Sum.elim_inl]
        rw [add_eq (by rw [hr]; exact hn) ha hb hl, Option.bind_some, decide_eq_false q, cond_false, hr]
      | none => rfl
    · rfl
theorem Kkh {α β : Type} (o : Option (α × β)) : (o.bind fun x => some (x.1, x.2)) = o := by cases o <;> rfl
def twos : List ByteArray := [(ByteArray.mk #[61, 61]), (ByteArray.mk #[33, 61]), (ByteArray.mk #[60, 61]), (ByteArray.mk #[38, 38]), (ByteArray.mk #[124, 124])]
def ones : ByteArray := ByteArray.mk #[40, 41, 123, 125, 91, 93, 59, 44, 61, 60, 43, 45, 42, 47, 37, 33, 38]
def twoB (r : List UInt8) : Bool := decide (1 < r.length) && hasS (txt r 2) twos
def sg (c : UInt8) (r : List UInt8) : Nat := bif twoB (c :: r) then 2 else bif decide (0 ≤ KdG ones (c.toNat : Int)) then 1 else 0
theorem sg_le (c : UInt8) (r : List UInt8) : sg c r ≤ (c :: r).length := by
 unfold sg twoB
 by_cases h : 1 < (c :: r).length
 ·cases (decide (1 < (c :: r).length) && hasS (txt (c :: r) 2) twos)
  ·cases decide (0 ≤ KdG ones (c.toNat : Int)) <;> simp
  ·simp only [cond_true]; omega
 ·rw [decide_eq_false h, Bool.false_and, cond_false]
  cases decide (0 ≤ KdG ones (c.toNat : Int)) <;> simp
theorem sign_eq' {b : List UInt8} {a : Nat} {l : List Tok} {c : UInt8} {r : List UInt8} (hr : b.drop a = c :: r) : KbS (rt b a l) = some ((sg c r : Nat) : Int) := by
 obtain ⟨h1, h2, h3⟩ := Khw hr
 unfold KbS
 change Option.bind (cutL b (a : Int) ((b.length : Nat) : Int)) _ = _
 rw [Kjb (by omega) (Nat.le_refl _), Option.bind_some, List.take_of_length_le (by simp), hr]
 unfold sg twoB
 by_cases h : 1 < (c :: r).length
 ·rw [decide_eq_true (by omega), cond_true, decide_eq_true h, Bool.true_and]
  rw [show cutL (c :: r) 0 2 = some ((c :: r).take 2) from by
   have := Kjb (xs := c :: r) (l := 0) (h := 2) (by omega) (by omega)
   simpa using this, Option.bind_some, Khc _ _ (by decide), Option.bind_some, Option.bind_some]
  change (bif hasS (txt (c :: r) 2) twos then _ else _) = _
  cases hasS (txt (c :: r) 2) twos
  ·simp only [cond_false]
   show Option.bind (some c) _ = _
   rw [Option.bind_some]
   show (bif decide (0 ≤ KdG ones (c.toNat : Int)) then some (1 : Int) else some 0) = _
   cases decide (0 ≤ KdG ones (c.toNat : Int)) <;> rfl
  ·rfl
 ·rw [decide_eq_false (by omega), cond_false, decide_eq_false h, Bool.false_and, Option.bind_some, cond_false]
  show Option.bind (some c) _ = _
  rw [Option.bind_some]
  show (bif decide (0 ≤ KdG ones (c.toNat : Int)) then some (1 : Int) else some 0) = _
  cases decide (0 ≤ KdG ones (c.toNat : Int)) <;> rfl
theorem next_eq {b : List UInt8} {a : Nat} {l : List Tok} {c : UInt8} {r : List UInt8} (hr : b.drop a = c :: r) (hb : b.length ≤ 100000) (hl : l.length ≤ 100000) : Ka4 (rt b a l) =
  (bif kd c == 1 then some (0, rt b (a + 1) l) else bif kd c == 2 then Kbz (rt b a l) else bif kd c == 3 then Kbl (rt b a l)
  else some (bif (sg c r) == 0 then (3, rt b a l) else bif decide (4000 ≤ l.length) then (6, rt b a l) else (0, rt b (a + sg c r) (l ++ [⟨3, txt (c :: r) (sg c r), 0, (a : Int)⟩])))) := by
 obtain ⟨h1, h2, h3⟩ := Khw hr
 unfold Ka4
 have hidx : idx (rt b a l).gB (rt b a l).gAt = some c := by show idx b (a : Int) = _; rw [KdF]; exact h1
 rw [hidx, Option.bind_some, kind_eq, Option.bind_some, sign_eq' hr, Option.bind_some, Kkh, Kkh]
 have hw : IntKind.i64.wrap ((a : Int) + 1) = ((a + 1 : Nat) : Int) := winc (by omega)
 change (bif kd c == 1 then some (0, (⟨b, IntKind.i64.wrap ((a : Int) + 1), l⟩ : KN)) else _) = _
 rw [hw]
 cases kd c == 1
 ·cases kd c == 2
  ·cases kd c == 3
   ·simp only [cond_false]
    rw [add_eq (by rw [hr]; exact sg_le c r) (by omega) hb hl, Option.bind_some, hr]
    by_cases q : sg c r = 0
    ·rw [q]; rfl
    ·rw [show (((sg c r : Nat) : Int) == 0) = false by simp; omega, show (sg c r == 0) = false by simp [q]]
     rfl
   ·rfl
  ·rfl
 ·rfl
theorem dg_true {c : UInt8} {r : List UInt8} {w : Bool} (h : dg w c = true) : 1 ≤ spn w (c :: r) := by unfold spn; rw [List.takeWhile_cons, h]; simp
end Go.Proofs.Ytmgklehakmdiiaa.Ab.Pq
namespace Go.Proofs.Ytmgklehakmdiiaa.Ab.Pq
open Go
set_option linter.all false
theorem all256 {p : UInt8 → Bool} (h : (List.range 256).all (fun n => p (UInt8.ofNat n)) = true) (c : UInt8) : p c = true := by
 have := List.all_eq_true.1 h c.toNat (by simp; exact c.toNat_lt)
 simpa using this
noncomputable def tabF (c : UInt8) : Bool := decide (KcL (c.toNat : Int) = some (kd c == 2)) && (decide (Ked (c.toNat : Int) = some (kd c == 3)) && (((c.toNat : Int) == 32 || ((c.toNat : Int) == 9 || ((c.toNat : Int) == 10 || (c.toNat : Int) == 13))) == (kd c == 1) && (!(kd c == 3) || (decide (48 ≤ c.toNat) && decide (c.toNat ≤ 57)))))
theorem KiK (c : UInt8) : tabF c = true := all256 (p := tabF) (by kernel_rfl) c
theorem let_eq (c : UInt8) : KcL (c.toNat : Int) = some (kd c == 2) := by
 have := KiK c
 unfold tabF at this
 simp only [Bool.and_eq_true, decide_eq_true_eq] at this
 exact this.1
theorem digit_eq (c : UInt8) : Ked (c.toNat : Int) = some (kd c == 3) := by
 have := KiK c
 unfold tabF at this
 simp only [Bool.and_eq_true, decide_eq_true_eq] at this
 exact this.2.1
theorem blank_eq (c : UInt8) : ((c.toNat : Int) == 32 || ((c.toNat : Int) == 9 || ((c.toNat : Int) == 10 || (c.toNat : Int) == 13))) = (kd c == 1) := by
 have := KiK c
 unfold tabF at this
 simp only [Bool.and_eq_true, decide_eq_true_eq] at this
 exact eq_of_beq this.2.2.1
theorem digit_rng {c : UInt8} (h : kd c = 3) : 48 ≤ c.toNat ∧ c.toNat ≤ 57 := by
 have := KiK c
 unfold tabF at this
 simp only [Bool.and_eq_true, decide_eq_true_eq, h] at this
 simpa using this.2.2.2
abbrev ra (r : List UInt8) : ByteArray := ByteArray.mk r.toArray
theorem Kd4 (r : List UInt8) : (ra r).size = r.length := by simp [ra, ByteArray.size]
theorem Khx (r : List UInt8) (i : Int) : bAt (ra r) i = idx r i := by unfold bAt; simp [ra]
theorem cutS_ra {r : List UInt8} {n : Nat} (h : n ≤ r.length) : cutS (ra r) 0 (n : Int) = some (txt r n) := by
 unfold cutS
 rw [Kd4, decide_eq_true (by omega), decide_eq_true (by omega), decide_eq_true (by omega)]
 simp only [Bool.and_self, cond_true]
 congr 1
 unfold txt
 apply ByteArray.ext
 simp [ByteArray.data_extract]
theorem cutS_end {r : List UInt8} {n : Nat} (h : n ≤ r.length) : cutS (ra r) (n : Int) ((ra r).size : Int) = some (ra (r.drop n)) := by
 unfold cutS
 rw [Kd4, decide_eq_true (by omega), decide_eq_true (by omega), decide_eq_true (by omega)]
 simp only [Bool.and_self, cond_true]
 congr 1
 apply ByteArray.ext
 simp only [ByteArray.data_extract]
 simp only [List.extract_toArray, List.extract_eq_take_drop, ra]
 rw [List.take_of_length_le (by simp)]; simp
def dig (c : UInt8) : Nat := c.toNat - 48
def valF (v : Nat) (l : List UInt8) : Nat := l.foldl (fun v c => 10 * v + dig c) v
theorem valF_ge : ∀ (l : List UInt8) (v : Nat), v ≤ valF v l
  | [], v => Nat.le_refl _
  | c :: l, v => by
    have := valF_ge l (10 * v + dig c)
    show v ≤ valF (10 * v + dig c) l
    omega
theorem valF_big : ∀ (l : List UInt8) (v : Nat), v * 10 ^ l.length ≤ valF v l
  | [], v => by simp [valF]
  | c :: l, v => by
    have := valF_big l (10 * v + dig c)
    show v * 10 ^ (l.length + 1) ≤ valF (10 * v + dig c) l
    refine Nat.le_trans ?_ this
    rw [Nat.pow_succ]
    have e : v * (10 ^ l.length * 10) = (10 * v) * 10 ^ l.length := by
      rw [Nat.mul_comm (10 ^ l.length) 10, ← Nat.mul_assoc, Nat.mul_comm v 10]
    rw [e]
    exact Nat.mul_le_mul_right _ (by omega)
def nv (v : Nat) : Option Int := if v ≤ 9223372036854775807 then some (v : Int) else none
theorem w8 {c : UInt8} (h : 48 ≤ c.toNat ∧ c.toNat ≤ 57) : IntKind.u64.wrap (IntKind.u8.wrap ((c.toNat : Int) - 48)) = (dig c : Int) := by
 unfold dig
 rw [IntKind.wrap_u64]
 have : IntKind.u8.wrap ((c.toNat : Int) - 48) = (c.toNat : Int) - 48 := by
  have h8 : ∀ x : Int, 0 ≤ x → x < 256 → IntKind.u8.wrap x = x := by
   intro x h0 h1
   show x % _ = x
   exact Int.emod_eq_of_lt h0 h1
  exact h8 _ (by omega) (by omega)
 rw [this]; omega
theorem dig_val (ds : List UInt8) (hd : ds.length ≤ 100000) (hr : ∀ c ∈ ds, 48 ≤ c.toNat ∧ c.toNat ≤ 57) (m0 : KN) : loopM (digF ds m0) ((0 : Int), (0 : Int)) = some (dv m0 (nv (valF 0 ds))) := by
  have key : ∀ (post pre : List UInt8) (acc : Nat), ds = pre ++ post → acc ≤ 9223372036854775807 → loopM (digF ds m0) ((acc : Int), ((pre.length : Nat) : Int)) = some (dv m0 (nv (valF acc post))) := by
    intro post
    induction post with
    | nil =>
      intro pre acc h ha
      rw [List.append_nil] at h; subst h
      refine KG ?_
      unfold digF; simp only []; rw [Kb3, cond_false]
      rw [show valF acc [] = acc from rfl]
      unfold nv; rw [if_pos ha]; rfl
    | cons x post ih =>
      intro pre acc h ha
      have hx := hr x (by rw [h]; simp)
      have hd9 : dig x ≤ 9 := by unfold dig; omega
      have hf : digF ds m0 ((acc : Int), ((pre.length : Nat) : Int)) = (bif (decide ((IntKind.u64.wrap ((IntKind.u64.wrap ((9223372036854775807 : Int) - (dig x : Int))).tdiv (10 : Int))) < (acc : Int))) then some (.done (.inr ((4 : Int), m0))) else some (.next ((IntKind.u64.wrap ((IntKind.u64.wrap ((10 : Int) * (acc : Int))) + (dig x : Int))), ((pre.length + 1 : Nat) : Int)))) := by
        unfold digF
        simp only []
        rw [Kb2 h, cond_true, KbR h rfl, Option.bind_some, Kby h (by omega), w8 hx]
      have e1 : IntKind.u64.wrap ((IntKind.u64.wrap ((9223372036854775807 : Int) - (dig x : Int))).tdiv 10) = (((9223372036854775807 - dig x) / 10 : Nat) : Int) := by
        have h1 : IntKind.u64.wrap ((9223372036854775807 : Int) - (dig x : Int)) = ((9223372036854775807 - dig x : Nat) : Int) := by rw [IntKind.wrap_u64]; omega
        rw [h1, IntKind.wrap_u64, show (((9223372036854775807 - dig x : Nat) : Int)).tdiv 10 = (((9223372036854775807 - dig x) / 10 : Nat) : Int) from rfl]; omega
      rw [e1] at hf
      have hge := valF_ge post (10 * acc + dig x)
      have ev : valF acc (x :: post) = valF (10 * acc + dig x) post := rfl
      by_cases q : (9223372036854775807 - dig x) / 10 < acc
      · rw [decide_eq_true (by omega), cond_true] at hf
        rw [KG hf, ev]
        unfold nv; rw [if_neg (by omega)]; rfl
      · rw [decide_eq_false (by omega), cond_false] at hf
        rw [Kag hf, ev]
        have := ih (pre ++ [x]) (10 * acc + dig x) (by simp [h]) (by omega)
        rw [show IntKind.u64.wrap (IntKind.u64.wrap (10 * (acc : Int)) + (dig x : Int)) = ((10 * acc + dig x : Nat) : Int) by rw [IntKind.wrap_u64, IntKind.wrap_u64]; omega]
        simpa using this
  exact key ds [] 0 rfl (by omega)
theorem rnum_eq {c : UInt8} {r : List UInt8} (hl : (c :: r).length ≤ 100000) (hr : ∀ x ∈ c :: r, 48 ≤ x.toNat ∧ x.toNat ≤ 57) : Kev (ra (c :: r)) = some (bif (c.toNat : Int) == 48 && decide (1 < (c :: r).length) then ((0 : Int), (3 : Int)) else match nv (valF 0 (c :: r)) with
    | some y => (IntKind.i64.wrap y, (0 : Int))
    | none => ((0 : Int), (4 : Int))) := by
  unfold Kev
  rw [Khx, show idx (c :: r) 0 = some c from rfl, Option.bind_some, Kd4]
  have hd9 : ∀ x ∈ c :: r, dig x ≤ 9 := fun x hx => by have := hr x hx; unfold dig; omega
  cases h48 : ((c.toNat : Int) == 48) && decide (1 < (c :: r).length)
  rotate_left
  · rw [Bool.and_eq_true, decide_eq_true_eq] at h48
    rw [h48.1, cond_true, decide_eq_true (by omega)]; rfl
  · have hb : (bif (c.toNat : Int) == 48 then some (decide ((1 : Int) < (((c :: r).length : Nat) : Int))) else some false) = some false := by
      cases q : (c.toNat : Int) == 48
      · rfl
      · rw [q, Bool.true_and] at h48
        have := of_decide_eq_false h48
        rw [cond_true, decide_eq_false (by omega)]
    rw [hb, Option.bind_some, cond_false, cond_false]
    by_cases q : 19 < (c :: r).length
    · rw [KG (t := .inr ((0 : Int), (4 : Int))) ?_]
      · have hbig : ¬ valF 0 (c :: r) ≤ 9223372036854775807 := by
          have hc := hr c (by simp)
          have h1 : 1 ≤ dig c := by
            have : (c.toNat : Int) ≠ 48 := by
              intro e
              rw [e, decide_eq_true (show 1 < (c :: r).length by omega)] at h48
              simp at h48
            unfold dig; omega
          have h2 := valF_big r (dig c)
          have h3 : valF 0 (c :: r) = valF (dig c) r := by simp [valF]
          have h4 : 10 ^ 19 ≤ 10 ^ r.length := Nat.pow_le_pow_right (by omega) (by simp at q; omega)
          have h5 : 1 * 10 ^ r.length ≤ dig c * 10 ^ r.length := Nat.mul_le_mul_right _ h1
          have h6 : (10 : Nat) ^ 19 = 10000000000000000000 := by decide
          omega
        unfold nv; rw [if_neg hbig]; rfl
      · simp only []
        rw [decide_eq_true (show (0 : Int) < (((c :: r).length : Nat) : Int) by simp), cond_true, decide_eq_true (show (19 : Int) < (((c :: r).length : Nat) : Int) by omega), cond_true]
    · have key : ∀ (post pre : List UInt8) (acc : Nat), c :: r = pre ++ post → acc < 10 ^ pre.length → acc = valF 0 pre →
          loopM (fun (s24 : Int × Int) => (bif (decide (s24.2 < (((c :: r).length : Nat) : Int))) then (bif (decide ((19 : Int) < (((c :: r).length : Nat) : Int))) then some (Step.done (Sum.inr (α := Int) ((0 : Int), (4 : Int)))) else ((bAt (ra (c :: r)) s24.2).bind fun x36 => some (.next ((IntKind.u64.wrap ((IntKind.u64.wrap (s24.1 * (10 : Int))) + (IntKind.u64.wrap (IntKind.u8.wrap ((x36.toNat : Int) - (48 : Int)))))), (IntKind.i64.wrap (s24.2 + (1 : Int))))))) else some (.done (.inl s24.1)))) ((acc : Int), ((pre.length : Nat) : Int)) = some (.inl ((valF acc post : Nat) : Int)) := by
        intro post
        induction post with
        | nil =>
          intro pre acc h ha hv
          rw [List.append_nil] at h
          refine KG ?_
          simp only []
          rw [h, Kb3, cond_false]; rfl
        | cons x post ih =>
          intro pre acc h ha hv
          have hx := hr x (by rw [h]; simp)
          have hx9 : dig x ≤ 9 := by unfold dig; omega
          have hpl : pre.length ≤ 18 := by
            have := congrArg List.length h
            simp only [List.length_append, List.length_cons] at this q
            omega
          have h18 : 10 ^ pre.length ≤ 10 ^ 18 := Nat.pow_le_pow_right (by omega) hpl
          have h6 : (10 : Nat) ^ 18 = 1000000000000000000 := by decide
          rw [Kag (s' := ((((10 * acc + dig x : Nat)) : Int), ((pre.length + 1 : Nat) : Int))) ?_]
          · have := ih (pre ++ [x]) (10 * acc + dig x) (by simp [h]) (by rw [List.length_append, List.length_singleton, Nat.pow_succ]; omega) (by rw [hv]; simp [valF])
            simpa [valF] using this
          · simp only []
            rw [Kb2 h, cond_true, decide_eq_false (by omega), cond_false, Khx, KbR h rfl, Option.bind_some, Kby h (by omega), w8 hx]
            rw [show IntKind.u64.wrap (IntKind.u64.wrap ((acc : Int) * 10) + (dig x : Int)) = ((10 * acc + dig x : Nat) : Int) by rw [IntKind.wrap_u64, IntKind.wrap_u64]; omega]
      have := key (c :: r) [] 0 rfl (by simp) rfl
      simp only [List.length_nil] at this
      rw [show ((0 : Nat) : Int) = 0 from rfl] at this
      rw [this, Option.bind_some, Sum.elim_inl]
      unfold nv
      by_cases hm : valF 0 (c :: r) ≤ 9223372036854775807
      · rw [if_pos hm, decide_eq_false (by omega), cond_false]
      · rw [if_neg hm, decide_eq_true (by omega), cond_true]
theorem rin_eq (l : List ByteArray) (s : ByteArray) (hl : l.length ≤ 1000) : r10_in l s = some (hasS s l) := by
  unfold r10_in
  have key : ∀ (post pre : List ByteArray), l = pre ++ post → hasS s pre = false → loopM (fun (s15 : Int) => (bif (decide (s15 < (l.length : Int))) then ((idx l s15).bind fun x25 => (bif (decide (x25 = s)) then some (Step.done (Sum.inr (α := Unit) true)) else some (.next (IntKind.i64.wrap (s15 + (1 : Int)))))) else some (.done (.inl ())))) ((pre.length : Nat) : Int) = some (bif hasS s l then .inr true else .inl ()) := by
    intro post
    induction post with
    | nil =>
      intro pre h hs
      rw [List.append_nil] at h; subst h
      exact KG (by rw [Kb3, cond_false, hs, cond_false])
    | cons x post ih =>
      intro pre h hs
      have hf : (bif (decide (((pre.length : Nat) : Int) < (l.length : Int))) then ((idx l ((pre.length : Nat) : Int)).bind fun x25 => (bif (decide (x25 = s)) then some (Step.done (Sum.inr (α := Unit) true)) else some (.next (IntKind.i64.wrap (((pre.length : Nat) : Int) + (1 : Int)))))) else some (.done (.inl ()))) = (bif decide (x = s) then some (Step.done (Sum.inr (α := Unit) true)) else some (.next ((pre.length + 1 : Nat) : Int))) := by
        rw [Kb2 h, cond_true, KbR h rfl, Option.bind_some, Kby h (by omega)]
      by_cases q : x = s
      · rw [decide_eq_true q, cond_true] at hf
        rw [KG hf, show hasS s l = true by rw [h, q]; simp [hasS], cond_true]
      · rw [decide_eq_false q, cond_false] at hf
        rw [Kag hf]
        have := ih (pre ++ [x]) (by simp [h]) (by unfold hasS at hs ⊢; rw [List.any_append, hs]; simp [Ne.symm q])
        simpa using this
  have := key l [] rfl rfl
  simp only [List.length_nil] at this
  rw [show ((0 : Nat) : Int) = 0 from rfl] at this
  rw [this, Option.bind_some]
  cases hasS s l <;> rfl
theorem rword_eq (s : ByteArray) : Kgz s = some (wd s) := by
 unfold Kgz
 rw [rin_eq _ _ (by decide), Option.bind_some]
 unfold wd Kcy
 rw [Khc _ _ (by decide), Option.bind_some]
 simp only [Option.getD_some]
 congr 1
 unfold hasS
 simp only [List.any_cons, List.any_nil, Bool.or_false]
 ac_rfl
end Go.Proofs.Ytmgklehakmdiiaa.Ab.Pq
namespace Go.Proofs.Ytmgklehakmdiiaa.Ab.Pq
open Go
set_option linter.all false
theorem KdR {r : List UInt8} {n : Nat} (h : n ≤ r.length) : (txt r n).size = n := by
 unfold txt ByteArray.size
 simp [h]
theorem KeP (w : Bool) (c : UInt8) (r : List UInt8) : spn w (c :: r) = bif dg w c then spn w r + 1 else 0 := by
 unfold spn
 rw [List.takeWhile_cons]
 cases dg w c <;> simp
theorem dgT (c : UInt8) : dg true c = (kd c == 2 || kd c == 3) := by unfold dg; rw [Bool.true_and, Bool.or_comm]
theorem dgF (c : UInt8) : dg false c = (kd c == 3) := by unfold dg; simp
theorem spn_dig : ∀ (l : List UInt8), ∀ x ∈ l.take (spn false l), kd x = 3
  | [], x, h => by simp at h
  | c :: l, x, h => by
    rw [KeP, dgF] at h
    cases h3 : kd c == 3
    · rw [h3, cond_false, List.take_zero] at h; simp at h
    · rw [h3, cond_true, List.take_succ_cons, List.mem_cons] at h
      rcases h with h | h
      · subst h; simpa using h3
      · exact spn_dig l x h
noncomputable def run1 (R : ByteArray) (s27 : Int) : Option (Step Int Int) := (bif (decide (s27 < (R.size : Int))) then ((bAt R s27).bind fun x45 => ((KcL (x45.toNat : Int)).bind fun x46 => (bif x46 then some (.next (IntKind.i64.wrap (s27 + (1 : Int)))) else ((bAt R s27).bind fun x48 => ((Ked (x48.toNat : Int)).bind fun x49 => (bif x49 then some (.next (IntKind.i64.wrap (s27 + (1 : Int)))) else some (.done s27))))))) else some (.done s27))
theorem run1_eq (r : List UInt8) (hr : r.length ≤ 100000) : loopM (run1 (ra r)) 0 = some ((spn true r : Nat) : Int) := by
  have key : ∀ (post pre : List UInt8), r = pre ++ post → loopM (run1 (ra r)) ((pre.length : Nat) : Int) = some (((pre.length + spn true post : Nat)) : Int) := by
    intro post
    induction post with
    | nil =>
      intro pre h
      rw [List.append_nil] at h; subst h
      refine KG ?_
      unfold run1
      rw [Kd4, Kb3, cond_false]; simp [spn]
    | cons x post ih =>
      intro pre h
      have hf : run1 (ra r) ((pre.length : Nat) : Int) = (bif dg true x then some (.next ((pre.length + 1 : Nat) : Int)) else some (.done ((pre.length : Nat) : Int))) := by
        unfold run1
        rw [Kd4, Kb2 h, cond_true, Khx, KbR h rfl, Option.bind_some, let_eq, Option.bind_some, Option.bind_some, digit_eq, Option.bind_some, Kby h (by omega), dgT]
        cases kd x == 2 <;> cases kd x == 3 <;> rfl
      rw [KeP]
      cases hd : dg true x
      · rw [hd, cond_false] at hf
        rw [KG hf]; simp
      · rw [hd, cond_true] at hf
        rw [Kag hf]
        have := ih (pre ++ [x]) (by simp [h])
        rw [List.length_append, List.length_singleton] at this
        rw [this, cond_true]
        congr 2; omega
  have := key r [] rfl
  simpa using this
noncomputable def run2 (R : ByteArray) (n : Int) (s140 : Int) : Option (Step Int (Unit ⊕ (Tok × Int))) := (bif (decide (s140 < n)) then ((bAt R s140).bind fun x152 => ((KcL (x152.toNat : Int)).bind fun x153 => (bif x153 then some (.done (.inr ((⟨(0 : Int), ByteArray.empty, (0 : Int), (0 : Int)⟩ : Kq), (3 : Int)))) else some (.next (IntKind.i64.wrap (s140 + (1 : Int))))))) else some (.done (.inl ())))
theorem run2_eq (r : List UInt8) (hr : r.length ≤ 100000) : loopM (run2 (ra r) ((spn true r : Nat) : Int)) 0 = some (bif decide (spn false r < spn true r) then .inr (z0, 3) else .inl ()) := by
  have key : ∀ (post pre : List UInt8), r = pre ++ post → spn true r = pre.length + spn true post → loopM (run2 (ra r) ((spn true r : Nat) : Int)) ((pre.length : Nat) : Int) = some (bif decide (spn false post < spn true post) then .inr (z0, 3) else .inl ()) := by
    intro post
    induction post with
    | nil =>
      intro pre h hn
      refine KG ?_
      unfold run2
      rw [hn, decide_eq_false (by simp [spn]), cond_false]
      simp [spn]
    | cons x post ih =>
      intro pre h hn
      rw [KeP, dgT] at hn
      rw [KeP, KeP, dgT, dgF]
      have hf : run2 (ra r) ((spn true r : Nat) : Int) ((pre.length : Nat) : Int) = (bif decide (pre.length < spn true r) then (bif kd x == 2 then some (.done (.inr (z0, 3))) else some (.next ((pre.length + 1 : Nat) : Int))) else some (.done (.inl ()))) := by
        unfold run2
        rw [Khx, KbR h rfl, Option.bind_some, let_eq, Option.bind_some, Kby h (by omega)]
        rw [show decide (((pre.length : Nat) : Int) < ((spn true r : Nat) : Int)) = decide (pre.length < spn true r) from decide_eq_decide.2 (by omega)]
        cases kd x == 2 <;> rfl
      cases h2 : kd x == 2
      · cases h3 : kd x == 3
        · rw [h2, h3, Bool.or_false, cond_false] at hn
          rw [decide_eq_false (by omega), cond_false] at hf
          rw [KG hf]; rfl
        · rw [h2, h3, Bool.or_true, cond_true] at hn
          rw [decide_eq_true (by omega), cond_true, h2, cond_false] at hf
          rw [Kag hf]
          have := ih (pre ++ [x]) (by simp [h]) (by rw [List.length_append, List.length_singleton]; omega)
          rw [List.length_append, List.length_singleton] at this
          rw [this, Bool.or_true, cond_true, cond_true]
          rw [show decide (spn false post < spn true post) = decide (spn false post + 1 < spn true post + 1) from decide_eq_decide.2 (by omega)]
      · have h3 : (kd x == 3) = false := by
          have : kd x = 2 := by simpa using h2
          rw [this]; rfl
        rw [h2, Bool.true_or, cond_true] at hn
        rw [decide_eq_true (by omega), cond_true, h2, cond_true] at hf
        rw [KG hf, Bool.true_or, h3, cond_true, cond_false, decide_eq_true (by omega), cond_true]
  have := key r [] rfl (by simp)
  simpa using this
def preB (r : List UInt8) (x : ByteArray) : Bool := decide (x.size ≤ r.length) && decide (txt r x.size = x)
noncomputable def run3 (R : ByteArray) (l : List ByteArray) (a1 : Bool) (s204 : Int) : Option (Step Int (Unit ⊕ (Tok × Int))) := (bif (decide (s204 < (l.length : Int))) then ((idx l s204).bind fun x232 => (Option.bind (α := Bool) (bif (decide ((x232.size : Int) ≤ (R.size : Int))) then ((cutS R (0 : Int) (x232.size : Int)).bind fun x238 => ((idx l s204).bind fun x239 => some (decide (x238 = x239)))) else some false) fun y236 => (bif y236 then (bif a1 then some (.done (.inr ((⟨(0 : Int), ByteArray.empty, (0 : Int), (0 : Int)⟩ : Kq), (6 : Int)))) else ((idx l s204).bind fun x243 => some (.done (.inr ((⟨(3 : Int), x243, (0 : Int), (0 : Int)⟩ : Kq), (0 : Int)))))) else some (.next (IntKind.i64.wrap (s204 + (1 : Int))))))) else some (.done (.inl ())))
def rs3 (many : Bool) : Option ByteArray → Unit ⊕ (Tok × Int)
 | none => .inl ()
 | some x => .inr (bif many then (z0, 6) else (⟨3, x, 0, 0⟩, 0))
theorem run3_eq (r : List UInt8) (l : List ByteArray) (many : Bool) (hl : l.length ≤ 100000) : loopM (run3 (ra r) l many) 0 = some (rs3 many (l.find? (preB r))) := by
  have key : ∀ (post pre : List ByteArray), l = pre ++ post → loopM (run3 (ra r) l many) ((pre.length : Nat) : Int) = some (rs3 many (post.find? (preB r))) := by
    intro post
    induction post with
    | nil =>
      intro pre h
      rw [List.append_nil] at h; subst h
      refine KG ?_
      unfold run3
      rw [Kb3, cond_false]; rfl
    | cons x post ih =>
      intro pre h
      have hf : run3 (ra r) l many ((pre.length : Nat) : Int) = (bif preB r x then some (.done (rs3 many (some x))) else some (.next ((pre.length + 1 : Nat) : Int))) := by
        unfold run3
        rw [Kb2 h, cond_true, KbR h rfl]
        simp only [Option.bind_some]
        rw [Kby h (by omega), Kd4 r]
        unfold preB
        by_cases q : x.size ≤ r.length
        · rw [decide_eq_true (by omega), cond_true, cutS_ra q, Option.bind_some, Option.bind_some, decide_eq_true q, Bool.true_and]
          cases decide (txt r x.size = x) <;> cases many <;> rfl
        · rw [decide_eq_false (by omega), cond_false, Option.bind_some, cond_false, decide_eq_false q, Bool.false_and, cond_false]
      rw [List.find?_cons]
      cases hp : preB r x
      · rw [hp, cond_false] at hf
        rw [Kag hf]
        have := ih (pre ++ [x]) (by simp [h])
        simpa using this
      · rw [hp, cond_true] at hf
        exact KG hf
  have := key l [] rfl
  simpa using this
theorem find_len (r : List UInt8) (k : Nat) (l : List ByteArray) (hl : ∀ x ∈ l, x.size = k) : l.find? (preB r) = bif decide (k ≤ r.length) && hasS (txt r k) l then some (txt r k) else none := by
  cases hb : decide (k ≤ r.length) && hasS (txt r k) l
  · rw [cond_false, List.find?_eq_none]
    intro x hx hp
    unfold preB at hp
    rw [hl x hx, Bool.and_eq_true, decide_eq_true_eq, decide_eq_true_eq] at hp
    rw [decide_eq_true hp.1, Bool.true_and] at hb
    unfold hasS at hb
    rw [List.any_eq_false] at hb
    exact hb x hx (by rw [hp.2]; simp)
  · rw [cond_true]
    rw [Bool.and_eq_true, decide_eq_true_eq] at hb
    obtain ⟨h1, h2⟩ := hb
    unfold hasS at h2
    rw [List.any_eq_true] at h2
    obtain ⟨x, hx, he⟩ := h2
    have hex : x = txt r k := (of_decide_eq_true he).symm
    cases hf : l.find? (preB r) with
    | none =>
      rw [List.find?_eq_none] at hf
      exact absurd (by unfold preB; rw [hl x hx, decide_eq_true h1, hex]; simp) (hf x hx)
    | some y =>
      have hp := List.find?_some hf
      have hm := List.mem_of_find?_eq_some hf
      unfold preB at hp
      rw [hl y hm, Bool.and_eq_true, decide_eq_true_eq, decide_eq_true_eq] at hp
      rw [hp.2]
def onesL : List ByteArray := [(ByteArray.mk #[40]), (ByteArray.mk #[41]), (ByteArray.mk #[123]), (ByteArray.mk #[125]), (ByteArray.mk #[91]), (ByteArray.mk #[93]), (ByteArray.mk #[59]), (ByteArray.mk #[44]), (ByteArray.mk #[61]), (ByteArray.mk #[60]), (ByteArray.mk #[43]), (ByteArray.mk #[45]), (ByteArray.mk #[42]), (ByteArray.mk #[47]), (ByteArray.mk #[37]), (ByteArray.mk #[33]), (ByteArray.mk #[38])]
theorem ones_eq (c : UInt8) : hasS (ByteArray.mk #[c]) onesL = decide (0 ≤ KdG ones (c.toNat : Int)) := by
 have := all256 (p := fun c => hasS (ByteArray.mk #[c]) onesL == decide (0 ≤ KdG ones (c.toNat : Int))) (by kernel_rfl) c
 exact eq_of_beq this
theorem find_sg (c : UInt8) (r : List UInt8) : (twos ++ onesL).find? (preB (c :: r)) = bif sg c r == 0 then none else some (txt (c :: r) (sg c r)) := by
 rw [List.find?_append, find_len (c :: r) 2 twos (by intro x hx; revert x; simp only [twos, List.forall_mem_cons]; exact ⟨rfl, rfl, rfl, rfl, rfl, by simp⟩), find_len (c :: r) 1 onesL (by intro x hx; simp only [onesL, List.mem_cons, List.not_mem_nil, or_false] at hx; rcases hx with h | h | h | h | h | h | h | h | h | h | h | h | h | h | h | h | h <;> (subst h; rfl))]
 rw [show txt (c :: r) 1 = ByteArray.mk #[c] from rfl, ones_eq]
 unfold sg twoB
 rw [show decide (2 ≤ (c :: r).length) = decide (1 < (c :: r).length) from rfl]
 cases decide (1 < (c :: r).length) && hasS (txt (c :: r) 2) twos
 ·rw [decide_eq_true (show 1 ≤ (c :: r).length by simp), Bool.true_and]
  cases decide (0 ≤ KdG ones (c.toNat : Int)) <;> rfl
 ·rfl
theorem one_eq {b : List UInt8} {a : Nat} {l : List Tok} {c : UInt8} {r : List UInt8} (hr : b.drop a = c :: r) (hb : b.length ≤ 100000) (hl : l.length ≤ 100000) (hk : kd c ≠ 1) :
    ∃ t e, KeX (ra (c :: r)) (decide ((4000 : Int) ≤ (l.length : Int))) = some (t, e) ∧ ((e ≠ 0 ∧ Ka4 (rt b a l) = some (e, rt b a l)) ∨
      (e = 0 ∧ l.length < 4000 ∧ 1 ≤ t.gText.size ∧ t.gText.size ≤ (c :: r).length ∧ Ka4 (rt b a l) = some (0, rt b (a + t.gText.size) (l ++ [⟨t.gKind, t.gText, t.gN, (a : Int)⟩])))) := by
  have hlen : (c :: r).length ≤ 100000 := by rw [← hr, List.length_drop]; omega
  have e := next_eq hr hb hl
  rw [show (kd c == 1) = false by simp [hk], cond_false] at e
  have h1 : KeX (ra (c :: r)) (decide ((4000 : Int) ≤ (l.length : Int))) = (bif kd c == 2 then some (bif decide (20 < spn true (c :: r)) || decide (4000 ≤ l.length) then (z0, 6) else (⟨bif wd (txt (c :: r) (spn true (c :: r))) then 3 else 1, txt (c :: r) (spn true (c :: r)), 0, 0⟩, (0 : Int)))
      else bif kd c == 3 then (bif decide (4000 ≤ l.length) then some (z0, 6) else bif decide (spn false (c :: r) < spn true (c :: r)) then some (z0, 3) else ((Kev (txt (c :: r) (spn true (c :: r)))).bind fun x157 => (bif (x157.2 != (0 : Int)) then some (z0, x157.2) else some (⟨2, txt (c :: r) (spn true (c :: r)), x157.1, 0⟩, (0 : Int)))))
      else some (bif sg c r == 0 then (z0, 3) else bif decide (4000 ≤ l.length) then (z0, 6) else (⟨3, txt (c :: r) (sg c r), 0, 0⟩, (0 : Int)))) := by
    unfold KeX
    change Option.bind (loopM (run1 (ra (c :: r))) 0) _ = _
    rw [run1_eq _ hlen, Option.bind_some, Khx, show idx (c :: r) 0 = some c from rfl]
    rw [Option.bind_some, let_eq, Option.bind_some, Option.bind_some, digit_eq, Option.bind_some]
    rw [show decide ((4000 : Int) ≤ (l.length : Int)) = decide (4000 ≤ l.length) from decide_eq_decide.2 (by omega), show decide ((20 : Int) < ((spn true (c :: r) : Nat) : Int)) = decide (20 < spn true (c :: r)) from decide_eq_decide.2 (by omega)]
    cases kd c == 2
    · cases kd c == 3
      · simp only [cond_false]
        change Option.bind (loopM (run3 (ra (c :: r)) (twos ++ onesL) (decide (4000 ≤ l.length))) 0) _ = _
        rw [run3_eq _ _ _ (by decide), Option.bind_some, find_sg]
        cases sg c r == 0
        · simp only [cond_false, rs3, Sum.elim_inr]
        · rfl
      · simp only [cond_false, cond_true]
        cases decide (4000 ≤ l.length)
        · simp only [cond_false]
          change Option.bind (loopM (run2 (ra (c :: r)) ((spn true (c :: r) : Nat) : Int)) 0) _ = _
          rw [run2_eq _ hlen, Option.bind_some]
          cases decide (spn false (c :: r) < spn true (c :: r))
          · simp only [cond_false, Sum.elim_inl]
            rw [cutS_ra (KeH _ _), Option.bind_some]; rfl
          · rfl
        · rfl
    · simp only [cond_true]
      rw [cutS_ra (KeH _ _), Option.bind_some, rword_eq, Option.bind_some, Option.bind_some, Option.bind_some]
      cases decide (20 < spn true (c :: r)) <;> cases decide (4000 ≤ l.length) <;> cases wd (txt (c :: r) (spn true (c :: r))) <;> rfl
  rw [h1]
  have ha : a ≤ b.length := by have := (Khw hr).2.1; omega
  cases k2 : kd c == 2
  rotate_left
  · rw [k2, cond_true, name2_eq ha hb hl, hr] at e
    rw [cond_true]
    by_cases q : 20 < spn true (c :: r)
    · rw [decide_eq_true q, cond_true] at e
      rw [decide_eq_true q]
      exact ⟨z0, 6, rfl, .inl ⟨by decide, e⟩⟩
    · rw [decide_eq_false q, cond_false] at e
      rw [decide_eq_false q, Bool.false_or]
      by_cases q2 : 4000 ≤ l.length
      · rw [decide_eq_true q2, cond_true] at e
        rw [decide_eq_true q2]
        exact ⟨z0, 6, rfl, .inl ⟨by decide, e⟩⟩
      · rw [decide_eq_false q2, cond_false] at e
        rw [decide_eq_false q2]
        refine ⟨_, _, rfl, .inr ⟨rfl, by omega, ?_, ?_, ?_⟩⟩
        · show 1 ≤ (txt (c :: r) (spn true (c :: r))).size
          rw [KdR (KeH _ _)]
          exact dg_true (by rw [dgT, k2]; rfl)
        · show (txt (c :: r) (spn true (c :: r))).size ≤ _
          rw [KdR (KeH _ _)]; exact KeH _ _
        · show _ = some ((0 : Int), rt b (a + (txt (c :: r) (spn true (c :: r))).size) _)
          rw [KdR (KeH _ _), e]
  rw [k2, cond_false] at e
  rw [cond_false]
  cases k3 : kd c == 3
  rotate_left
  · have k3' : kd c = 3 := by simpa using k3
    rw [k3, cond_true] at e
    rw [cond_true]
    have hrng : ∀ x ∈ (c :: r).take (spn false (c :: r)), 48 ≤ x.toNat ∧ x.toNat ≤ 57 := by
      intro x hx
      exact digit_rng (spn_dig _ x hx)
    have hn1 : 1 ≤ spn false (c :: r) := dg_true (by rw [dgF, k3])
    rw [number_eq hr hb hl (nv (valF 0 ((c :: r).take (spn false (c :: r))))) (fun m0 => dig_val _ (by have := KeH false (c :: r); rw [List.length_take]; omega) hrng m0)] at e
    by_cases q2 : 4000 ≤ l.length
    · rw [decide_eq_true q2, cond_true] at e
      rw [decide_eq_true q2]
      exact ⟨z0, 6, rfl, .inl ⟨by decide, e⟩⟩
    rw [decide_eq_false q2, cond_false] at e
    rw [decide_eq_false q2, cond_false]
    unfold numBad at e
    by_cases q3 : spn false (c :: r) < spn true (c :: r)
    · rw [decide_eq_true q3, Bool.true_or, cond_true] at e
      rw [decide_eq_true q3]
      exact ⟨z0, 3, rfl, .inl ⟨by decide, e⟩⟩
    rw [decide_eq_false q3, Bool.false_or] at e
    rw [decide_eq_false q3, cond_false]
    have hle : spn false (c :: r) ≤ spn true (c :: r) := by
      have : ∀ x : List UInt8, spn false x ≤ spn true x := by
        intro x
        induction x with
        | nil => simp [spn]
        | cons y x ih =>
          rw [KeP, KeP, dgT, dgF]
          cases kd y == 2 <;> cases kd y == 3 <;> simp <;> omega
      exact this _
    have heq : spn true (c :: r) = spn false (c :: r) := by omega
    rw [heq]
    obtain ⟨n, hn⟩ : ∃ n, spn false (c :: r) = n + 1 := ⟨spn false (c :: r) - 1, by omega⟩
    have hnl := KeH false (c :: r)
    have htx : txt (c :: r) (spn false (c :: r)) = ra (c :: r.take n) := by rw [hn]; rfl
    have htk : (c :: r).take (spn false (c :: r)) = c :: r.take n := by rw [hn]; rfl
    have hln : (c :: r.take n).length = spn false (c :: r) := by rw [← htk, List.length_take]; omega
    rw [htk] at hrng e
    rw [htx, rnum_eq (by rw [hln]; omega) hrng, Option.bind_some, ← htx, hln]
    cases h48 : (c.toNat : Int) == 48 && decide (1 < spn false (c :: r))
    rotate_left
    · rw [h48, cond_true] at e
      exact ⟨z0, 3, rfl, .inl ⟨by decide, e⟩⟩
    rw [h48, cond_false] at e
    rw [cond_false]
    cases hv : nv (valF 0 (c :: r.take n)) with
    | none =>
      rw [hv] at e
      exact ⟨z0, 4, rfl, .inl ⟨by decide, e⟩⟩
    | some y =>
      rw [hv] at e
      refine ⟨_, _, rfl, .inr ⟨rfl, by omega, ?_, ?_, ?_⟩⟩
      · show 1 ≤ (txt (c :: r) (spn false (c :: r))).size
        rw [KdR hnl]; exact hn1
      · show (txt (c :: r) (spn false (c :: r))).size ≤ _
        rw [KdR hnl]; exact hnl
      · show _ = some ((0 : Int), rt b (a + (txt (c :: r) (spn false (c :: r))).size) _)
        rw [KdR hnl, e]; rfl
  rw [k3, cond_false] at e
  rw [cond_false]
  by_cases q : sg c r = 0
  · rw [q] at e ⊢
    exact ⟨z0, 3, rfl, .inl ⟨by decide, e⟩⟩
  rw [show (sg c r == 0) = false by simp [q], cond_false] at e
  rw [show (sg c r == 0) = false by simp [q], cond_false]
  by_cases q2 : 4000 ≤ l.length
  · rw [decide_eq_true q2, cond_true] at e
    rw [decide_eq_true q2]
    exact ⟨z0, 6, rfl, .inl ⟨by decide, e⟩⟩
  rw [decide_eq_false q2, cond_false] at e
  rw [decide_eq_false q2]
  refine ⟨_, _, rfl, .inr ⟨rfl, by omega, ?_, ?_, ?_⟩⟩
  · show 1 ≤ (txt (c :: r) (sg c r)).size
    rw [KdR (sg_le c r)]; omega
  · show (txt (c :: r) (sg c r)).size ≤ _
    rw [KdR (sg_le c r)]; exact sg_le c r
  · show _ = some ((0 : Int), rt b (a + (txt (c :: r) (sg c r)).size) _)
    rw [KdR (sg_le c r), e]
noncomputable def rdP (n : Nat) (s25 : List UInt8 × Int × List Kq) : Option (Step (List UInt8 × Int × List Kq) ((List UInt8 × Int × List Kq) ⊕ (List Kq × Int × Int))) := (bif (decide (s25.2.1 < (n : Int))) then ((Ka4 (⟨s25.1, s25.2.1, s25.2.2⟩ : KN)).bind fun x40 => (bif (x40.1 != (0 : Int)) then some (.done (.inr (([] : List Kq), x40.2.gAt, x40.1))) else some (.next (x40.2.gB, x40.2.gAt, x40.2.gL)))) else some (.done (.inl (s25.1, s25.2.1, s25.2.2))))
noncomputable def rdR (R : ByteArray) (s58 : List Kq × Int) : Option (Step (List Kq × Int) ((List Kq) ⊕ (List Kq × Int × Int))) := (bif (decide (s58.2 < (R.size : Int))) then ((bAt R s58.2).bind fun x93 => (Option.bind (α := Bool) (bif ((x93.toNat : Int) == (32 : Int)) then some true else (bif ((x93.toNat : Int) == (9 : Int)) then some true else (bif ((x93.toNat : Int) == (10 : Int)) then some true else some ((x93.toNat : Int) == (13 : Int))))) fun y97 => (bif y97 then some (.next (s58.1, (IntKind.i64.wrap (s58.2 + (1 : Int))))) else ((cutS R s58.2 ((R).size : Int)).bind fun x102 => ((KeX x102 (decide ((4000 : Int) ≤ (s58.1.length : Int)))).bind fun x103 => (bif (x103.2 != (0 : Int)) then some (.done (.inr (([] : List Kq), s58.2, x103.2))) else ((app 40 s58.1 ([(⟨x103.1.gKind, x103.1.gText, x103.1.gN, s58.2⟩ : Kq)] : List Kq)).bind fun x108 => some (.next (x108, (IntKind.i64.wrap (s58.2 + (x103.1.gText.size : Int)))))))))))) else some (.done (.inl s58.1)))
theorem read_loops (b : List UInt8) (hb : b.length ≤ 20000) : ∀ (q a : Nat) (l : List Tok), b.length - a ≤ q → a ≤ b.length → l.length ≤ 4000 → (∃ l', l'.length ≤ 4000 ∧ loopM (rdP b.length) (b, (a : Int), l) = some (.inl (b, (b.length : Int), l')) ∧ loopM (rdR (ra b)) (l, (a : Int)) = some (.inl l')) ∨ (∃ (x : Nat) (e : Int), e ≠ 0 ∧ loopM (rdP b.length) (b, (a : Int), l) = some (.inr ([], (x : Int), e)) ∧ loopM (rdR (ra b)) (l, (a : Int)) = some (.inr ([], (x : Int), e))) := by
  intro q
  induction q with
  | zero =>
    intro a l hq ha hl
    have : a = b.length := by omega
    subst this
    refine .inl ⟨l, hl, KG ?_, KG ?_⟩
    · unfold rdP; simp
    · unfold rdR; rw [Kd4]; simp
  | succ q ih =>
    intro a l hq ha hl
    by_cases hlt : a < b.length
    rotate_left
    · have : a = b.length := by omega
      subst this
      refine .inl ⟨l, hl, KG ?_, KG ?_⟩
      · unfold rdP; simp
      · unfold rdR; rw [Kd4]; simp
    obtain ⟨c, r, hr⟩ : ∃ c r, b.drop a = c :: r := by
      cases h : b.drop a with
      | nil => have := congrArg List.length h; simp at this; omega
      | cons c r => exact ⟨c, r, rfl⟩
    have hP : rdP b.length (b, (a : Int), l) = ((Ka4 (rt b a l)).bind fun x40 => (bif (x40.1 != (0 : Int)) then some (.done (.inr (([] : List Kq), x40.2.gAt, x40.1))) else some (.next (x40.2.gB, x40.2.gAt, x40.2.gL)))) := by
      unfold rdP
      simp only []
      rw [decide_eq_true (by omega), cond_true]; rfl
    have hR : rdR (ra b) (l, (a : Int)) = (bif kd c == 1 then some (.next (l, ((a + 1 : Nat) : Int))) else ((KeX (ra (c :: r)) (decide ((4000 : Int) ≤ (l.length : Int)))).bind fun x103 => (bif (x103.2 != (0 : Int)) then some (.done (.inr (([] : List Kq), (a : Int), x103.2))) else ((app 40 l ([(⟨x103.1.gKind, x103.1.gText, x103.1.gN, (a : Int)⟩ : Kq)] : List Kq)).bind fun x108 => some (.next (x108, (IntKind.i64.wrap ((a : Int) + (x103.1.gText.size : Int))))))))) := by
      unfold rdR
      simp only []
      rw [Kd4, decide_eq_true (by omega), cond_true, Khx, KdF, (Khw hr).1, Option.bind_some]
      have hbl := blank_eq c
      have : (bif ((c.toNat : Int) == (32 : Int)) then some true else (bif ((c.toNat : Int) == (9 : Int)) then some true else (bif ((c.toNat : Int) == (10 : Int)) then some true else some ((c.toNat : Int) == (13 : Int))))) = some (kd c == 1) := by
        rw [← hbl]
        cases (c.toNat : Int) == 32 <;> cases (c.toNat : Int) == 9 <;> cases (c.toNat : Int) == 10 <;> rfl
      rw [this, Option.bind_some, winc (by omega)]
      have hc := cutS_end (r := b) (n := a) ha
      rw [Kd4, hr] at hc
      rw [hc, Option.bind_some]
    by_cases hk : kd c = 1
    · have e := next_eq hr (by omega) (l := l) (by omega)
      rw [hk] at e hR
      simp only [beq_self_eq_true, cond_true] at e hR
      rw [e, Option.bind_some] at hP
      have hP' : rdP b.length (b, (a : Int), l) = some (.next (b, ((a + 1 : Nat) : Int), l)) := hP
      rw [Kag hP', Kag hR]
      exact ih (a + 1) l (by omega) (by omega) hl
    · obtain ⟨t, e, h1, h2⟩ := one_eq hr (by omega) (l := l) (by omega) hk
      rw [show (kd c == 1) = false by simp [hk], cond_false, h1, Option.bind_some] at hR
      rcases h2 with ⟨he, h3⟩ | ⟨he, h4, h5, h6, h3⟩
      · rw [h3, Option.bind_some] at hP
        simp only [bne, show (e == 0) = false by simp [he], Bool.not_false, cond_true] at hP hR
        exact .inr ⟨a, e, he, KG hP, KG hR⟩
      · subst he
        rw [h3, Option.bind_some] at hP
        have hdl := congrArg List.length hr
        rw [List.length_drop] at hdl
        simp only [bne, beq_self_eq_true, Bool.not_true, cond_false] at hP hR
        rw [Kba (by omega) (by simp; omega), Option.bind_some, KbM (by omega) (by omega), show (a : Int) + (t.gText.size : Int) = ((a + t.gText.size : Nat) : Int) by omega] at hR
        rw [Kag hP, Kag hR]
        exact ih (a + t.gText.size) (l ++ [⟨t.gKind, t.gText, t.gN, (a : Int)⟩]) (by omega) (by omega) (by rw [List.length_append, List.length_singleton]; omega)
theorem read_both (b : List UInt8) : (∃ l, l.length ≤ 4000 ∧ Kdf b = some (l ++ [⟨0, ByteArray.empty, 0, (b.length : Int)⟩], 0, 0) ∧ Kfs b = some (l ++ [⟨0, ByteArray.empty, 0, (b.length : Int)⟩], 0, 0)) ∨ (∃ (x : Nat) (e : Int), e ≠ 0 ∧ Kdf b = some ([], (x : Int), e) ∧ Kfs b = some ([], (x : Int), e)) := by
 unfold Kdf Kfs
 by_cases h : 20000 < b.length
 ·rw [decide_eq_true (by omega), cond_true, cond_true]
  exact .inr ⟨0, 6, by decide, rfl, rfl⟩
 rw [decide_eq_false (by omega), cond_false, cond_false]
 have := read_loops b (by omega) b.length 0 [] (by omega) (by omega) (Nat.zero_le _)
 rw [show ((0 : Nat) : Int) = 0 from rfl] at this
 change (∃ l : List Tok, l.length ≤ 4000 ∧ Option.bind (loopM (rdP b.length) (b, 0, [])) _ = _ ∧ Option.bind (loopM (rdR (ra b)) ([], 0)) _ = _) ∨ (∃ (x : Nat) (e : Int), e ≠ 0 ∧ Option.bind (loopM (rdP b.length) (b, 0, [])) _ = _ ∧ Option.bind (loopM (rdR (ra b)) ([], 0)) _ = _)
 rcases this with ⟨l', hl, h1, h2⟩ | ⟨x, e, he, h1, h2⟩
 ·refine .inl ⟨l', hl, ?_, ?_⟩
  ·rw [h1, Option.bind_some]
   simp only [Sum.elim_inl]
   rw [Kba (by omega) (by simp; omega), Option.bind_some]
  ·rw [h2, Option.bind_some]
   simp only [Sum.elim_inl]
   rw [Kba (by omega) (by simp; omega), Option.bind_some]
 ·refine .inr ⟨x, e, he, ?_, ?_⟩
  ·rw [h1]; rfl
  ·rw [h2]; rfl
end Go.Proofs.Ytmgklehakmdiiaa.Ab.Pq
namespace Go.Proofs.Ytmgklehakmdiiaa.Ab.Pq
open Go
set_option linter.all false
abbrev Pos (L : List Tok) : Type := {i : Nat // i ≤ L.length}
abbrev gm (L : List Tok) (p : Pos L) (e v o : Int) : Ke := ⟨L, ((p.1 : Nat) : Int), e, v, o⟩
abbrev rm (L : List Tok) (p : Pos L) (e : Int) : Kd := ⟨L, ((p.1 : Nat) : Int), e⟩
def eatP (L : List Tok) (p : Pos L) (e : Int) (s : ByteArray) : Pos L × Int :=
 if e = 0 then if h2 : isS L p.1 s = true then (⟨p.1 + 1, (Kel h2).1⟩, 0) else (p, 3) else (p, e)
def mayP (L : List Tok) (p : Pos L) (e : Int) (s : ByteArray) : Bool × Pos L :=
 if e = 0 then if h2 : isS L p.1 s = true then (true, ⟨p.1 + 1, (Kel h2).1⟩) else (false, p) else (false, p)
def nameP (L : List Tok) (p : Pos L) (e : Int) : ByteArray × Pos L × Int :=
 if e = 0 then if h2 : (lk L p.1).gKind = 1 then ((lk L p.1).gText, ⟨p.1 + 1, lk_lt (by rw [h2]; decide)⟩, 0) else (ByteArray.empty, p, 3) else (ByteArray.empty, p, e)
def failP (L : List Tok) (p : Pos L) (e : Int) (a : Pos L) (k : Int) : Pos L × Int := if e = 0 then (a, k) else (p, e)
section
variable {L : List Tok} (hL : L.length ≤ 100000)
include hL
theorem glookN (p : Pos L) (e v o : Int) (k : Nat) (hk : k ≤ 100) : KaE (gm L p e v o) (k : Int) = some (lk L (p.1 + k)) := by
 have hp := p.2
 unfold KaE
 simp only []
 rw [KbM (by omega) (by omega)]
 by_cases h : L.length ≤ p.1 + k
 ·rw [decide_eq_true (by omega), cond_true, Kfg h]; rfl
 ·rw [decide_eq_false (by omega), cond_false, show ((p.1 : Nat) : Int) + (k : Int) = ((p.1 + k : Nat) : Int) by omega, KdF]
  unfold lk
  rw [List.getD_eq_getElem?_getD, List.getElem?_eq_getElem (by omega)]; rfl
theorem KgE (p : Pos L) (e v o : Int) : KaE (gm L p e v o) 0 = some (lk L p.1) := glookN hL p e v o 0 (by omega)
theorem glook1 (p : Pos L) (e v o : Int) : KaE (gm L p e v o) 1 = some (lk L (p.1 + 1)) := glookN hL p e v o 1 (by omega)
theorem gis0 (p : Pos L) (e v o : Int) (s : ByteArray) : KaC (gm L p e v o) 0 s = some (isS L p.1 s) := by
 unfold KaC isS
 rw [KgE hL, Option.bind_some]
 cases (lk L p.1).gKind == 3 <;> rfl
theorem gis1 (p : Pos L) (e v o : Int) (s : ByteArray) : KaC (gm L p e v o) 1 s = some (isS L (p.1 + 1) s) := by
 unfold KaC isS
 rw [glook1 hL, Option.bind_some]
 cases (lk L (p.1 + 1)).gKind == 3 <;> rfl
omit hL in
theorem gfail (p a : Pos L) (e v o k : Int) : Kao (gm L p e v o) ((a.1 : Nat) : Int) k = some (gm L (failP L p e a k).1 (failP L p e a k).2 v o) := by
 unfold Kao failP
 simp only []
 by_cases h : e = 0
 ·subst h; rfl
 ·rw [show (e == 0) = false by simp [h], if_neg h]; rfl
theorem rlook (p : Pos L) (e : Int) : Kbq (rm L p e) = some (lk L p.1) := by
 have hp := p.2
 unfold Kbq
 simp only []
 by_cases h : L.length ≤ p.1
 ·rw [decide_eq_false (by omega), cond_false, Kfg h]; rfl
 ·rw [decide_eq_true (by omega), cond_true, KdF]
  unfold lk
  rw [List.getD_eq_getElem?_getD, List.getElem?_eq_getElem (by omega)]; rfl
theorem rahead1 (p : Pos L) (e : Int) : Kef (rm L p e) 1 = some (lk L (p.1 + 1)) := by
 have hp := p.2
 unfold Kef
 simp only []
 rw [winc (by omega)]
 by_cases h : L.length ≤ p.1 + 1
 ·rw [decide_eq_false (by omega), cond_false, Kfg h]; rfl
 ·rw [decide_eq_true (by omega), cond_true, KdF]
  unfold lk
  rw [List.getD_eq_getElem?_getD, List.getElem?_eq_getElem (by omega)]; rfl
theorem ris (p : Pos L) (e : Int) (s : ByteArray) : Kee (rm L p e) s = some (isS L p.1 s) := by
 unfold Kee isS
 rw [rlook hL, Option.bind_some, Option.bind_some]
 cases (lk L p.1).gKind == 3 <;> rfl
omit hL in
theorem rfail (p a : Pos L) (e k : Int) : KbA (rm L p e) ((a.1 : Nat) : Int) k = some (rm L (failP L p e a k).1 (failP L p e a k).2) := by
 unfold KbA failP
 simp only []
 by_cases h : e = 0
 ·subst h; rfl
 ·rw [show (e == 0) = false by simp [h], if_neg h]; rfl
theorem reat (p : Pos L) (e : Int) (s : ByteArray) : Kam (rm L p e) s = some (rm L (eatP L p e s).1 (eatP L p e s).2) := by
 have hp := p.2
 unfold Kam eatP
 by_cases h : e = 0
 ·subst h
  simp only [bne, beq_self_eq_true, Bool.not_true, cond_false, if_true]
  rw [ris hL, Option.bind_some, winc (by omega)]
  by_cases h2 : isS L p.1 s = true
  ·rw [dif_pos h2, h2]; rfl
  ·rw [dif_neg h2, show isS L p.1 s = false by simpa using h2, cond_false, rfail p p, Option.bind_some]; rfl
 ·simp only [bne, show (e == 0) = false by simp [h], Bool.not_false, cond_true, if_neg h]
theorem rname (p : Pos L) (e : Int) : Kbt (rm L p e) = some ((nameP L p e).1, rm L (nameP L p e).2.1 (nameP L p e).2.2) := by
 have hp := p.2
 unfold Kbt nameP
 by_cases h : e = 0
 ·subst h
  simp only [bne, beq_self_eq_true, Bool.not_true, cond_false, if_true]
  rw [rlook hL, Option.bind_some, winc (by omega)]
  by_cases h2 : (lk L p.1).gKind = 1
  ·rw [dif_pos h2, show ((lk L p.1).gKind == 1) = true by simp [h2]]; rfl
  ·rw [dif_neg h2, show ((lk L p.1).gKind == 1) = false by simp [h2], Bool.not_false, cond_true, rfail p p, Option.bind_some]; rfl
 ·simp only [bne, show (e == 0) = false by simp [h], Bool.not_false, cond_true, if_neg h]; rfl
theorem rmay (p : Pos L) (e : Int) (s : ByteArray) : KbN (rm L p e) s = some ((mayP L p e s).1, rm L (mayP L p e s).2 e) := by
 have hp := p.2
 unfold KbN mayP
 by_cases h : e = 0
 ·subst h
  simp only [beq_self_eq_true, cond_true, if_true]
  rw [ris hL, Option.bind_some, Option.bind_some, winc (by omega)]
  by_cases h2 : isS L p.1 s = true
  ·rw [dif_pos h2, h2]; rfl
  ·rw [dif_neg h2, show isS L p.1 s = false by simpa using h2, cond_false]
 ·simp only [show (e == 0) = false by simp [h], cond_false, if_neg h]; rfl
theorem gmay (p : Pos L) (e v o : Int) (s : ByteArray) : K2 (gm L p e v o) s = some ((mayP L p e s).1, gm L (mayP L p e s).2 e v o) := by
 have hp := p.2
 unfold K2 mayP
 by_cases h : e = 0
 ·subst h
  simp only [bne, beq_self_eq_true, Bool.not_true, cond_false, if_true]
  rw [gis0 hL, Option.bind_some, Option.bind_some, winc (by omega)]
  by_cases h2 : isS L p.1 s = true
  ·rw [dif_pos h2, h2]; rfl
  ·rw [dif_neg h2, show isS L p.1 s = false by simpa using h2]; rfl
 ·simp only [bne, show (e == 0) = false by simp [h], Bool.not_false, cond_true, if_neg h]; rfl
theorem gname (p : Pos L) (e v o : Int) : KaF (gm L p e v o) = some ((nameP L p e).1, gm L (nameP L p e).2.1 (nameP L p e).2.2 v o) := by
 have hp := p.2
 unfold KaF nameP
 by_cases h : e = 0
 ·subst h
  simp only [bne, beq_self_eq_true, Bool.not_true, cond_false, if_true]
  rw [KgE hL, Option.bind_some, winc (by omega)]
  by_cases h2 : (lk L p.1).gKind = 1
  ·rw [dif_pos h2, show ((lk L p.1).gKind == 1) = true by simp [h2]]; rfl
  ·rw [dif_neg h2, show ((lk L p.1).gKind == 1) = false by simp [h2], Bool.not_false, cond_true, gfail p p, Option.bind_some]; rfl
 ·simp only [bne, show (e == 0) = false by simp [h], Bool.not_false, cond_true, if_neg h]; rfl
omit hL in
theorem Kcr {p : Pos L} {e : Int} (h : e ≠ 0) (s : ByteArray) : eatP L p e s = (p, e) := by unfold eatP; rw [if_neg h]
omit hL in
theorem Kem {p : Pos L} {e : Int} (h : e ≠ 0) (s : ByteArray) : mayP L p e s = (false, p) := by unfold mayP; rw [if_neg h]
omit hL in
theorem Kg0 {p : Pos L} {e : Int} (h : e ≠ 0) : nameP L p e = (ByteArray.empty, p, e) := by unfold nameP; rw [if_neg h]
omit hL in
theorem KfP {p a : Pos L} {e k : Int} (h : e ≠ 0) : failP L p e a k = (p, e) := by unfold failP; rw [if_neg h]
omit hL in
theorem KeQ {p a : Pos L} {k : Int} : failP L p 0 a k = (a, k) := by unfold failP; rw [if_pos rfl]
def eatsP (L : List Tok) (p : Pos L) (e : Int) (l : List ByteArray) : Pos L × Int := l.foldl (fun q s => eatP L q.1 q.2 s) (p, e)
omit hL in
theorem Kg1 {p : Pos L} {e : Int} (h : e ≠ 0) : ∀ l, eatsP L p e l = (p, e)
  | [] => rfl
  | s :: l => by
    unfold eatsP
    rw [List.foldl_cons]
    simp only []
    rw [Kcr h]
    exact Kg1 h l
noncomputable def eatF (a1 : List ByteArray) (m0 : Ke) (s34 : Int × Int) : Option (Step (Int × Int) (Int ⊕ Ke)) := (bif (decide (s34.1 < (a1.length : Int))) then ((idx a1 s34.1).bind fun x50 => (bif (m0.gE != (0 : Int)) then some (.done (.inr (⟨m0.gL, s34.2, m0.gE, m0.gVars, m0.gOpen⟩ : Ke))) else ((KaC (⟨m0.gL, s34.2, m0.gE, m0.gVars, m0.gOpen⟩ : Ke) (0 : Int) x50).bind fun x53 => (bif (!x53) then ((Kao (⟨m0.gL, s34.2, m0.gE, m0.gVars, m0.gOpen⟩ : Ke) s34.2 (3 : Int)).bind fun x55 => some (.done (.inr x55))) else some (.next ((IntKind.i64.wrap (s34.1 + (1 : Int))), (IntKind.i64.wrap (s34.2 + (1 : Int))))))))) else some (.done (.inl s34.2)))
theorem geats (p : Pos L) (e v o : Int) (l : List ByteArray) (hl : l.length ≤ 1000) : KO (gm L p e v o) l = some (gm L (eatsP L p e l).1 (eatsP L p e l).2 v o) := by
  unfold KO
  change Option.bind (loopM (eatF l (gm L p e v o)) ((0 : Int), ((p.1 : Nat) : Int))) _ = _
  by_cases h : e = 0
  · subst h
    have key : ∀ (post pre : List ByteArray) (q : Pos L), l = pre ++ post → (loopM (eatF l (gm L p 0 v o)) (((pre.length : Nat) : Int), ((q.1 : Nat) : Int))).bind (Sum.elim (fun y33 => some (⟨(gm L p 0 v o).gL, y33, (gm L p 0 v o).gE, (gm L p 0 v o).gVars, (gm L p 0 v o).gOpen⟩ : Ke)) (fun r => some r)) = some (gm L (eatsP L q 0 post).1 (eatsP L q 0 post).2 v o) := by
      intro post
      induction post with
      | nil =>
        intro pre q h
        rw [List.append_nil] at h; subst h
        rw [KG (t := .inl ((q.1 : Nat) : Int)) (by unfold eatF; simp only []; rw [Kb3, cond_false])]
        rfl
      | cons s post ih =>
        intro pre q h
        have hq := q.2
        have hf : eatF l (gm L p 0 v o) (((pre.length : Nat) : Int), ((q.1 : Nat) : Int)) = (bif isS L q.1 s then some (.next (((pre.length + 1 : Nat) : Int), ((q.1 + 1 : Nat) : Int))) else some (.done (.inr (gm L q 3 v o)))) := by
          unfold eatF
          simp only []
          rw [Kb2 h, cond_true, KbR h rfl, Option.bind_some]
          simp only [bne, beq_self_eq_true, Bool.not_true, cond_false]
          rw [gis0 hL q, Option.bind_some, Kby h (by omega), winc (by omega), gfail q q, Option.bind_some]
          cases isS L q.1 s <;> rfl
        have he : eatsP L q 0 (s :: post) = eatsP L (eatP L q 0 s).1 (eatP L q 0 s).2 post := rfl
        rw [he]
        unfold eatP
        rw [if_pos rfl]
        by_cases h2 : isS L q.1 s = true
        · rw [h2, cond_true] at hf
          rw [Kag hf, dif_pos h2]
          have := ih (pre ++ [s]) ⟨q.1 + 1, (Kel h2).1⟩ (by simp [h])
          rw [List.length_append, List.length_singleton] at this
          exact this
        · rw [show isS L q.1 s = false by simpa using h2, cond_false] at hf
          rw [KG hf, dif_neg h2]
          simp only []
          rw [Kg1 (by decide)]; rfl
    exact key l [] p rfl
  · rw [Kg1 h]
    cases l with
    | nil => rw [KG (t := .inl ((p.1 : Nat) : Int)) rfl]; rfl
    | cons s l =>
      rw [KG (t := .inr (gm L p e v o)) ?_]
      · rfl
      · unfold eatF
        simp only []
        rw [decide_eq_true (show (0 : Int) < (((s :: l).length : Nat) : Int) by simp), cond_true, show idx (s :: l) 0 = some s from rfl, Option.bind_some]
        simp only [bne, show (e == 0) = false by simp [h], Bool.not_false, cond_true]
theorem geat (p : Pos L) (e v o : Int) (s : ByteArray) : KO (gm L p e v o) [s] = some (gm L (eatP L p e s).1 (eatP L p e s).2 v o) := geats hL p e v o [s] (by simp)
end
end Go.Proofs.Ytmgklehakmdiiaa.Ab.Pq
namespace Go.Proofs.Ytmgklehakmdiiaa.Ab.Pq
open Go
set_option linter.all false
abbrev RR := Kd
def rn (L : List Tok) (i : Nat) (e : Int) : RR := ⟨L, (i : Int), e⟩
theorem rlk (L : List Tok) (i : Nat) (e : Int) : Kbq (rn L i e) = some (lk L i) := by
 unfold Kbq rn
 simp only []
 by_cases h : L.length ≤ i
 ·rw [decide_eq_false (by omega), cond_false, Kfg h]; rfl
 ·rw [decide_eq_true (by omega), cond_true, KdF]
  unfold lk
  rw [List.getD_eq_getElem?_getD, List.getElem?_eq_getElem (by omega)]; rfl
theorem risn (L : List Tok) (i : Nat) (e : Int) (s : ByteArray) : Kee (rn L i e) s = some (isS L i s) := by
 unfold Kee isS
 rw [rlk, Option.bind_some, Option.bind_some]
 cases (lk L i).gKind == 3 <;> rfl
theorem rfln (L : List Tok) (i a : Nat) (e k : Int) : KbA (rn L i e) (a : Int) k = some (bif e == 0 then rn L a k else rn L i e) := by
 unfold KbA rn
 cases h : e == 0 <;> simp only [h, cond_true, cond_false]
theorem reatn {L : List Tok} {i : Nat} (s : ByteArray) (h : i ≤ 4000000) : Kam (rn L i 0) s = some (bif isS L i s then rn L (i + 1) 0 else rn L i 3) := by
 unfold Kam
 change (bif false then _ else _) = _
 rw [cond_false, risn, Option.bind_some]
 cases isS L i s
 ·simp only [cond_false]
  show Option.bind (KbA (rn L i 0) (i : Int) 3) _ = _
  rw [rfln, Option.bind_some]; rfl
 ·simp only [cond_true]
  show some (⟨L, IntKind.i64.wrap ((i : Int) + 1), 0⟩ : RR) = _
  rw [winc h]; rfl
theorem reatb {L : List Tok} {i : Nat} {e : Int} (s : ByteArray) (he : e ≠ 0) : Kam (rn L i e) s = some (rn L i e) := by
 unfold Kam
 change (bif e != 0 then _ else _) = _
 rw [show (e != 0) = true by simp [he], cond_true]
theorem rnamen {L : List Tok} {i : Nat} (h : i ≤ 4000000) : Kbt (rn L i 0) = some (bif (lk L i).gKind == 1 then ((lk L i).gText, rn L (i + 1) 0) else (ByteArray.empty, rn L i 3)) := by
 unfold Kbt
 change (bif false then _ else _) = _
 rw [cond_false, rlk, Option.bind_some]
 cases hk : (lk L i).gKind == 1
 ·simp only [bne, hk, Bool.not_false, cond_true, cond_false]
  show Option.bind (KbA (rn L i 0) (i : Int) 3) _ = _
  rw [rfln, Option.bind_some]; rfl
 ·simp only [bne, hk, Bool.not_true, cond_true, cond_false]
  show some (_, (⟨L, IntKind.i64.wrap ((i : Int) + 1), 0⟩ : RR)) = _
  rw [winc h]; rfl
theorem rdeepn {L : List Tok} {i a : Nat} {e : Int} {x : Xp} (hx : e = 0 → szE x ≤ 1048576) : KbT (rn L i e) x (a : Int) = some (x, bif e == 0 && decide (24 < dpE x) then rn L a 5 else rn L i e) := by
 unfold KbT
 show Option.bind (bif e == 0 then _ else _) _ = _
 cases he : e == 0
 ·simp only [cond_false, Option.bind_some, Bool.false_and]
 ·have h0 : e = 0 := by simpa using he
  subst h0
  simp only [cond_true, Bool.true_and]
  rw [rdeep_eq (hx rfl), Option.bind_some, Option.bind_some, show decide ((24 : Int) < (dpE x : Int)) = decide (24 < dpE x) from decide_eq_decide.2 (by omega)]
  cases decide (24 < dpE x)
  ·rfl
  ·rw [cond_true, rfln, Option.bind_some]; rfl
def SS : List (List ByteArray) := [([(ByteArray.mk #[124, 124])] : List ByteArray), ([(ByteArray.mk #[38, 38])] : List ByteArray), ([(ByteArray.mk #[61, 61]), (ByteArray.mk #[33, 61])] : List ByteArray), ([(ByteArray.mk #[60]), (ByteArray.mk #[60, 61])] : List ByteArray), ([(ByteArray.mk #[43]), (ByteArray.mk #[45])] : List ByteArray), ([(ByteArray.mk #[42]), (ByteArray.mk #[47]), (ByteArray.mk #[37])] : List ByteArray)]
def KK : List (List Int) := [([(17 : Int)] : List Int), ([(16 : Int)] : List Int), ([(14 : Int), (15 : Int)] : List Int), ([(12 : Int), (13 : Int)] : List Int), ([(10 : Int), (11 : Int)] : List Int), ([(7 : Int), (8 : Int), (9 : Int)] : List Int)]
def lkp (s : ByteArray) : List ByteArray → List Int → Int
 | a :: A, b :: B => bif decide (a = s) then b else lkp s A B
 | _, _ => 0
noncomputable def opF (a0 : Int) (a1 : ByteArray) (s27 : Int) : Option (Step Int (Unit ⊕ Int)) := ((idx SS a0).bind fun x44 => (bif (decide (s27 < (x44.length : Int))) then ((idx SS a0).bind fun x46 => ((idx x46 s27).bind fun x47 => (bif (decide (x47 = a1)) then ((idx KK a0).bind fun x49 => ((idx x49 s27).bind fun x50 => some (.done (.inr x50)))) else some (.next (IntKind.i64.wrap (s27 + (1 : Int))))))) else some (.done (.inl ()))))
theorem Khy {k : Int} {A : List ByteArray} {B : List Int} {s : ByteArray} (hA : idx SS k = some A) (hB : idx KK k = some B) (hl : A.length = B.length) (hn : A.length ≤ 10) : Kfe k s = some (lkp s A B) := by
  unfold Kfe
  change Option.bind (loopM (opF k s) 0) _ = _
  have key : ∀ (qa pa : List ByteArray) (qb pb : List Int), A = pa ++ qa → B = pb ++ qb → pa.length = pb.length → qa.length = qb.length → (loopM (opF k s) ((pa.length : Nat) : Int)).bind (Sum.elim (fun y26 => some (0 : Int)) (fun r => some r)) = some (lkp s qa qb) := by
    intro qa
    induction qa with
    | nil =>
      intro pa qb pb h1 h2 h3 h4
      have : qb = [] := by cases qb with
        | nil => rfl
        | cons b qb => simp at h4
      subst this
      rw [List.append_nil] at h1
      rw [KG (t := .inl ()) (by unfold opF; rw [hA, Option.bind_some, h1, Kb3, cond_false])]; rfl
    | cons a qa ih =>
      intro pa qb pb h1 h2 h3 h4
      cases qb with
      | nil => simp at h4
      | cons b qb =>
        have hf : opF k s ((pa.length : Nat) : Int) = (bif decide (a = s) then some (.done (.inr b)) else some (.next ((pa.length + 1 : Nat) : Int))) := by
          unfold opF
          rw [hA, Option.bind_some, Kb2 h1, cond_true, Option.bind_some, KbR h1 rfl, Option.bind_some, hB, Option.bind_some, KbR h2 h3, Option.bind_some, Kby h1 (by omega)]
        cases hc : decide (a = s)
        · rw [hc, cond_false] at hf
          rw [Kag hf]
          have := ih (pa ++ [a]) qb (pb ++ [b]) (by simp [h1]) (by simp [h2]) (by simp [h3]) (by simpa using h4)
          rw [List.length_append, List.length_singleton] at this
          rw [this]
          simp only [lkp, hc, cond_false]
        · rw [hc, cond_true] at hf
          rw [KG hf]
          simp only [lkp, hc, cond_true]; rfl
  exact key A [] B [] rfl rfl rfl hl
theorem dsym (a s : ByteArray) : decide (a = s) = decide (s = a) := decide_eq_decide.2 eq_comm
theorem op_eq {k : Nat} (hk : k ≤ 5) (s : ByteArray) : Kfe (k : Int) s = some (bt (k : Int) s) := by
 have hk' : k = 0 ∨ k = 1 ∨ k = 2 ∨ k = 3 ∨ k = 4 ∨ k = 5 := by omega
 unfold bt Kbo
 simp only [KiJ, Option.bind_some]
 rcases hk' with h | h | h | h | h | h <;> subst h
 ·rw [Khy (A := [ByteArray.mk #[124, 124]]) (B := [17]) rfl rfl rfl (by decide)]
  simp only [lkp, dsym _ s]
  cases decide (s = ByteArray.mk #[124, 124]) <;> rfl
 ·rw [Khy (A := [ByteArray.mk #[38, 38]]) (B := [16]) rfl rfl rfl (by decide)]
  simp only [lkp, dsym _ s]
  cases decide (s = ByteArray.mk #[38, 38]) <;> rfl
 ·rw [Khy (A := [ByteArray.mk #[61, 61], ByteArray.mk #[33, 61]]) (B := [14, 15]) rfl rfl rfl (by decide)]
  simp only [lkp, dsym _ s]; rfl
 ·rw [Khy (A := [ByteArray.mk #[60], ByteArray.mk #[60, 61]]) (B := [12, 13]) rfl rfl rfl (by decide)]
  simp only [lkp, dsym _ s]; rfl
 ·rw [Khy (A := [ByteArray.mk #[43], ByteArray.mk #[45]]) (B := [10, 11]) rfl rfl rfl (by decide)]
  simp only [lkp, dsym _ s]; rfl
 ·rw [Khy (A := [ByteArray.mk #[42], ByteArray.mk #[47], ByteArray.mk #[37]]) (B := [7, 8, 9]) rfl rfl rfl (by decide)]
  simp only [lkp, dsym _ s]
  by_cases q : s = ByteArray.mk #[37]
  ·subst q; rfl
  ·rw [decide_eq_false q]; rfl
noncomputable def rowG (g0 : RR → Int → Option (Xp × RR)) (a1 : Int) (s68 : S8) : Option (Step S8 S8) := (Option.bind (α := Bool) (bif (s68.2.2.1 == (0 : Int)) then ((Kbq (⟨s68.1, s68.2.1, s68.2.2.1⟩ : Kd)).bind fun x114 => (bif (x114.gKind == (3 : Int)) then ((Kbq (⟨s68.1, s68.2.1, s68.2.2.1⟩ : Kd)).bind fun x116 => ((Kfe a1 x116.gText).bind fun x117 => some (x117 != (0 : Int)))) else some false)) else some false) fun y112 => (bif y112 then ((Kbq (⟨s68.1, s68.2.1, s68.2.2.1⟩ : Kd)).bind fun x119 => ((g0 (⟨s68.1, (IntKind.i64.wrap (s68.2.1 + (1 : Int))), s68.2.2.1⟩ : Kd) (IntKind.i64.wrap (a1 + (1 : Int)))).bind fun x121 => ((Kfe a1 x119.gText).bind fun x123 => ((KbT x121.2 (⟨x123, (0 : Int), ByteArray.empty, ([(⟨s68.2.2.2.1, s68.2.2.2.2.1, s68.2.2.2.2.2.1, s68.2.2.2.2.2.2.1, s68.2.2.2.2.2.2.2⟩ : Ka), x121.1] : List Ka), x119.gAt⟩ : Ka) s68.2.1).bind fun x124 => some (.next (x124.2.gL, x124.2.gAt, x124.2.gE, x124.1.gOp, x124.1.gN, x124.1.gName, x124.1.gKids, x124.1.gAt)))))) else some (.done (s68.1, s68.2.1, s68.2.2.1, s68.2.2.2.1, s68.2.2.2.2.1, s68.2.2.2.2.2.1, s68.2.2.2.2.2.2.1, s68.2.2.2.2.2.2.2))))
theorem Kjg {g0 : RR → Int → Option (Xp × RR)} {k : Int} {L : List Tok} {j : Nat} {e : Int} {x : Xp} (he : e ≠ 0) : rowG g0 k (st8 L j e x) = some (.done (st8 L j e x)) := by
 unfold rowG st8
 rw [show (e == 0) = false by simp [he], cond_false]; rfl
theorem rowG_eq {g0 : RR → Int → Option (Xp × RR)} {k : Nat} (hk : k ≤ 5) {L : List Tok} {j : Nat} {x : Xp} (hj : j ≤ 4000000) : rowG g0 (k : Int) (st8 L j 0 x) = (bif opAt (k : Int) (lk L j) == 0 then some (.done (st8 L j 0 x)) else
  (g0 (rn L (j + 1) 0) (IntKind.i64.wrap ((k : Int) + 1))).bind fun y => (KbT y.2 ⟨opAt (k : Int) (lk L j), 0, ByteArray.empty, [x, y.1], (lk L j).gAt⟩ (j : Int)).bind fun q => some (.next (q.2.gL, q.2.gAt, q.2.gE, q.1.gOp, q.1.gN, q.1.gName, q.1.gKids, q.1.gAt))) := by
 cases x
 unfold rowG st8
 simp only [beq_self_eq_true, cond_true]
 rw [show (⟨L, (j : Int), 0⟩ : Kd) = rn L j 0 from rfl, rlk, Option.bind_some, Option.bind_some, Option.bind_some, winc hj, op_eq hk]
 unfold opAt
 cases hk3 : (lk L j).gKind == 3
 ·simp only [cond_false, Option.bind_some]; rfl
 ·simp only [cond_true, Option.bind_some]
  cases hb : bt (k : Int) (lk L j).gText == 0
  ·simp only [bne, hb, Bool.not_false, cond_true, cond_false]; rfl
  ·simp only [bne, hb, Bool.not_true, cond_true, cond_false]
def SM (L : List Tok) (i c s : Nat) (r : Option (Xp × Rdr)) (r2 : Option (Xp × RR)) : Prop :=
 ∃ x y i' e', r = some (x, mk L i' e') ∧ r2 = some (y, rn L i' e') ∧ i' ≤ L.length ∧ (e' = 0 → x = y ∧ i + c ≤ i' ∧ dpE x ≤ 24 ∧ szE x + i ≤ i' + s)
theorem SM.bad {L : List Tok} {i c s : Nat} {r : Option (Xp × Rdr)} {r2 : Option (Xp × RR)} (x y : Xp) (i' : Nat) (e' : Int) (he : e' ≠ 0) (hi : i' ≤ L.length) (h : r = some (x, mk L i' e')) (h2 : r2 = some (y, rn L i' e')) : SM L i c s r r2 := ⟨x, y, i', e', h, h2, hi, fun q => absurd q he⟩
theorem sm_loop (g0 : Rdr → Int → Option (Xp × Rdr)) (h0 : RR → Int → Option (Xp × RR)) (L : List Tok) (i0 k : Nat) (hk : k ≤ 5) (hL : L.length ≤ 100000)
    (ih : ∀ j, i0 < j → j ≤ L.length → SM L j 1 0 (g0 (mk L j 0) (IntKind.i64.wrap ((k : Int) + 1))) (h0 (rn L j 0) (IntKind.i64.wrap ((k : Int) + 1)))) :
    ∀ (q j : Nat) (x : Xp), L.length - j ≤ q → i0 ≤ j → j ≤ L.length → dpE x ≤ 24 → szE x + i0 ≤ j →
      ∃ x' y' j' e', loopM (rowF g0 (k : Int)) (st8 L j 0 x) = some (st8 L j' e' x') ∧ loopM (rowG h0 (k : Int)) (st8 L j 0 x) = some (st8 L j' e' y') ∧ j' ≤ L.length ∧ (e' = 0 → x' = y' ∧ j ≤ j' ∧ dpE x' ≤ 24 ∧ szE x' + i0 ≤ j') := by
  intro q
  induction q with
  | zero =>
    intro j x hq h0' h1 hd hs
    have hz : lk L j = z0 := Kfg (by omega)
    exact ⟨x, x, j, 0, KG (by rw [Kex (by omega), hz]; rfl), KG (by rw [rowG_eq hk (by omega), hz]; rfl), h1, fun _ => ⟨rfl, Nat.le_refl _, hd, hs⟩⟩
  | succ q ihq =>
    intro j x hq h0' h1 hd hs
    by_cases hop : opAt (k : Int) (lk L j) = 0
    · exact ⟨x, x, j, 0, KG (by rw [Kex (by omega), hop]; rfl), KG (by rw [rowG_eq hk (by omega), hop]; rfl), h1, fun _ => ⟨rfl, Nat.le_refl _, hd, hs⟩⟩
    · have hlt := lk_lt (Kkg hop)
      have hopb : (opAt (k : Int) (lk L j) == 0) = false := by simp [hop]
      obtain ⟨y, y2, j1, e1, hr, hr2, hj1, hg⟩ := ih (j + 1) (by omega) (by omega)
      have hf := Kex (g0 := g0) (k := (k : Int)) (L := L) (j := j) (x := x) (by omega)
      have hf2 := rowG_eq (g0 := h0) (k := k) hk (L := L) (j := j) (x := x) (by omega)
      rw [hopb, cond_false, hr, Option.bind_some] at hf
      rw [hopb, cond_false, hr2, Option.bind_some] at hf2
      by_cases he : e1 = 0
      · subst he
        obtain ⟨hxy, g1, g3, g4⟩ := hg rfl
        subst hxy
        generalize hX : (⟨opAt (k : Int) (lk L j), 0, ByteArray.empty, [x, y], (lk L j).gAt⟩ : Xp) = X at hf hf2
        have hsz : szE X = 1 + (szE x + szE y) := by rw [← hX]; simp [KcZ, szEs]
        rw [Kc0 (fun _ => by rw [hsz]; omega), Option.bind_some] at hf
        rw [rdeepn (fun _ => by rw [hsz]; omega), Option.bind_some] at hf2
        simp only [beq_self_eq_true, cond_true, Bool.true_and] at hf hf2
        by_cases hdd : 24 < dpE X
        · rw [decide_eq_true hdd, cond_true] at hf hf2
          refine ⟨ex0, X, j, 5, ?_, ?_, h1, fun h => by cases h⟩
          · rw [Kag hf]
            exact KG (Kfv (L := L) (j := j) (e := 5) (x := ex0) (by decide))
          · rw [Kag hf2]
            exact KG (Kjg (L := L) (j := j) (e := 5) (x := X) (by decide))
        · rw [decide_eq_false hdd, cond_false] at hf hf2
          rw [Kag (s' := st8 L j1 0 X) hf, Kag (s' := st8 L j1 0 X) hf2]
          obtain ⟨x', y', j', e', k1, k2, k3, k4⟩ := ihq j1 X (by omega) (by omega) hj1 (by omega) (by rw [hsz]; omega)
          exact ⟨x', y', j', e', k1, k2, k3, fun h => by obtain ⟨a, b, c, d⟩ := k4 h; exact ⟨a, by omega, c, d⟩⟩
      · generalize hX : (⟨opAt (k : Int) (lk L j), 0, ByteArray.empty, [x, y], (lk L j).gAt⟩ : Xp) = X at hf
        generalize hX2 : (⟨opAt (k : Int) (lk L j), 0, ByteArray.empty, [x, y2], (lk L j).gAt⟩ : Xp) = X2 at hf2
        rw [Kc0 (fun h => absurd h he), show (e1 == 0) = false by simp [he], cond_false, Option.bind_some] at hf
        rw [rdeepn (fun h => absurd h he), show (e1 == 0) = false by simp [he], Bool.false_and, cond_false, Option.bind_some] at hf2
        refine ⟨ex0, X2, j1, e1, ?_, ?_, hj1, fun h => absurd h he⟩
        · rw [Kag hf]
          exact KG (Kfv (L := L) (j := j1) (x := ex0) he)
        · rw [Kag hf2]
          exact KG (Kjg (L := L) (j := j1) (x := X2) he)
end Go.Proofs.Ytmgklehakmdiiaa.Ab.Pq
namespace Go.Proofs.Ytmgklehakmdiiaa.Ab.Pq
open Go
set_option linter.all false
noncomputable abbrev rg := KX
theorem rlev6 (n : Nat) (m : RR) : (rg (n + 1)).1 m 6 = (rg n).2.1 m := by
 show Kcc (rg n).1 (rg n).2.1 (rg n).2.2 m 6 = _
 unfold Kcc
 rw [show ((6 : Int) == 6) = true from rfl, cond_true, KbG]
theorem rlevK {n k : Nat} (m : RR) (hk : k ≤ 5) : (rg (n + 1)).1 m k = ((rg n).1 m (IntKind.i64.wrap ((k : Int) + 1))).bind fun y => (loopM (rowG (rg n).1 (k : Int)) (y.2.gL, y.2.gAt, y.2.gE, y.1.gOp, y.1.gN, y.1.gName, y.1.gKids, y.1.gAt)).bind fun z => some ((⟨z.2.2.2.1, z.2.2.2.2.1, z.2.2.2.2.2.1, z.2.2.2.2.2.2.1, z.2.2.2.2.2.2.2⟩ : Xp), (⟨z.1, z.2.1, z.2.2.1⟩ : RR)) := by
 show Kcc (rg n).1 (rg n).2.1 (rg n).2.2 m k = _
 unfold Kcc
 rw [show ((k : Int) == 6) = false by simp; omega, cond_false]
 rfl
theorem rindex_eq {n i : Nat} {L : List Tok} {x : Xp} {op a : Int} (hi : i ≤ 4000000) : (rg (n + 1)).2.2 (rn L i 0) x op a =
  (bif isS L i (ByteArray.mk #[91]) then ((rg n).1 (rn L (i + 1) 0) 0).bind fun y => (Kam y.2 (ByteArray.mk #[93])).bind fun z => KbT z ⟨op, 0, x.gName, [y.1], x.gAt⟩ a else some (x, rn L i 0)) := by
 show Kcd (rg n).1 (rg n).2.1 (rg n).2.2 (rn L i 0) x op a = _
 unfold Kcd
 show Option.bind (bif false then some true else _) _ = _
 rw [cond_false, risn]
 simp only [Option.bind_some]
 have hw := winc hi
 cases isS L i (ByteArray.mk #[91])
 ·rfl
 ·simp only [Bool.not_true, cond_true, cond_false]
  change Option.bind ((rg n).1 ⟨L, IntKind.i64.wrap ((i : Int) + 1), 0⟩ _) _ = _
  rw [hw]
  simp only [KbG]
  rfl
theorem rindex_bad {n i : Nat} {L : List Tok} {x : Xp} {op a e : Int} (he : e ≠ 0) : (rg (n + 1)).2.2 (rn L i e) x op a = some (x, rn L i e) := by
 show Kcd (rg n).1 (rg n).2.1 (rg n).2.2 (rn L i e) x op a = _
 unfold Kcd
 show Option.bind (bif e != 0 then some true else _) _ = _
 rw [show (e != 0) = true by simp [he]]; rfl
theorem elimb {X : Type} (c : Bool) (o p : Option (Unit ⊕ X)) (f : Unit → Option X) : (Option.bind (bif c then o else p) (Sum.elim f (fun r => some r))) = bif c then Option.bind o (Sum.elim f (fun r => some r)) else Option.bind p (Sum.elim f (fun r => some r)) := by cases c <;> rfl
theorem runit_eq {n i : Nat} {L : List Tok} (hi : i ≤ 4000000) : (rg (n + 1)).2.1 (rn L i 0) =
    (bif (lk L i).gKind == 2 then some (⟨1, (lk L i).gN, ByteArray.empty, [], (lk L i).gAt⟩, rn L (i + 1) 0)
    else bif (lk L i).gKind == 1 then (rg n).2.2 (rn L (i + 1) 0) ⟨2, 0, (lk L i).gText, [], (lk L i).gAt⟩ 3 (i : Int)
    else bif (lk L i).gKind == 3 then (
      bif tm (lk L i).gText (ByteArray.mk #[45]) then ((rg n).2.1 (rn L (i + 1) 0)).bind fun y => KbT y.2 ⟨5, 0, ByteArray.empty, [y.1], (lk L i).gAt⟩ (i : Int)
      else bif tm (lk L i).gText (ByteArray.mk #[33]) then ((rg n).2.1 (rn L (i + 1) 0)).bind fun y => KbT y.2 ⟨6, 0, ByteArray.empty, [y.1], (lk L i).gAt⟩ (i : Int)
      else bif tm (lk L i).gText (ByteArray.mk #[42]) then (Kbt (rn L (i + 1) 0)).bind fun y => some (⟨4, 0, y.1, [], (lk L i).gAt⟩, y.2)
      else bif tm (lk L i).gText (ByteArray.mk #[38]) then (Kbt (rn L (i + 1) 0)).bind fun y => (rg n).2.2 y.2 ⟨19, 0, y.1, [], (lk L i).gAt⟩ 20 (i : Int)
      else bif tm (lk L i).gText (ByteArray.mk #[110, 117, 108, 108]) then some (⟨18, 0, ByteArray.empty, [], (lk L i).gAt⟩, rn L (i + 1) 0)
      else bif tm (lk L i).gText (ByteArray.mk #[40]) then ((rg n).1 (rn L (i + 1) 0) 0).bind fun y => (Kam y.2 (ByteArray.mk #[41])).bind fun z => some (y.1, z)
      else some (ex0, rn L i 3))
    else some (ex0, rn L i 3)) := by
  show Kdi (rg n).1 (rg n).2.1 (rg n).2.2 (rn L i 0) = _
  unfold Kdi tm
  change (bif false then some _ else _) = _
  rw [cond_false, rlk, Option.bind_some]
  have hw := winc hi
  have hs : (⟨(rn L i 0).gL, IntKind.i64.wrap ((rn L i 0).gAt + 1), (rn L i 0).gE⟩ : RR) = rn L (i + 1) 0 := by
    show (⟨L, IntKind.i64.wrap ((i : Int) + 1), 0⟩ : RR) = _
    rw [hw]; rfl
  rw [hs]
  have hf : KbA (rn L (i + 1) 0) (rn L i 0).gAt 3 = some (rn L i 3) := by
    show KbA (rn L (i + 1) 0) (i : Int) 3 = _
    rw [rfln]; rfl
  rw [hf]
  simp only [show (rn L i 0).gAt = (i : Int) from rfl]
  cases (lk L i).gKind == 2
  · cases (lk L i).gKind == 1
    · simp only [cond_false]
      cases (lk L i).gKind == 3
      · rfl
      · simp only [cond_true]
        rw [elimb, elimb, elimb, elimb, elimb, elimb]
        cases decide ((lk L i).gText = ByteArray.mk #[45])
        · cases decide ((lk L i).gText = ByteArray.mk #[33])
          · cases decide ((lk L i).gText = ByteArray.mk #[42])
            · cases decide ((lk L i).gText = ByteArray.mk #[38])
              · cases decide ((lk L i).gText = ByteArray.mk #[110, 117, 108, 108])
                · cases decide ((lk L i).gText = ByteArray.mk #[40])
                  · rfl
                  · simp only [cond_true, cond_false]
                    cases ((rg n).1 (rn L (i + 1) 0) 0) with
                    | none => rfl
                    | some y =>
                      simp only [Option.bind_some]
                      cases Kam y.2 (ByteArray.mk #[41]) <;> rfl
                · rfl
              · simp only [cond_true, cond_false]
                cases Kbt (rn L (i + 1) 0) with
                | none => rfl
                | some y =>
                  simp only [Option.bind_some]
                  cases (rg n).2.2 y.2 ⟨19, 0, y.1, [], (lk L i).gAt⟩ 20 (i : Int) with
                  | none => rfl
                  | some z => rfl
            · simp only [cond_true, cond_false]
              cases Kbt (rn L (i + 1) 0) <;> rfl
          · simp only [cond_true, cond_false]
            cases (rg n).2.1 (rn L (i + 1) 0) with
            | none => rfl
            | some y =>
              simp only [Option.bind_some]
              cases KbT y.2 ⟨6, 0, ByteArray.empty, [y.1], (lk L i).gAt⟩ (i : Int) with
              | none => rfl
              | some z => rfl
        · simp only [cond_true, cond_false]
          cases (rg n).2.1 (rn L (i + 1) 0) with
          | none => rfl
          | some y =>
            simp only [Option.bind_some]
            cases KbT y.2 ⟨5, 0, ByteArray.empty, [y.1], (lk L i).gAt⟩ (i : Int) with
            | none => rfl
            | some z => rfl
    · simp only [cond_true, cond_false]
      rw [KbG]
  · rfl
theorem SM.sound {L : List Tok} {i j a s : Nat} {op : Int} {nm : ByteArray} {at_ e : Int} {r : Option (Xp × Rdr)} {r2 : Option (Xp × RR)} (y y2 : Xp) (hs : 1 ≤ s) (hL : L.length ≤ 100000) (hj : j ≤ L.length) (ha : a ≤ L.length) (hy : e = 0 → y = y2 ∧ i ≤ j ∧ szE y + i ≤ j)
  (hr : r = Kai (mk L j e) ⟨op, 0, nm, [y], at_⟩ (a : Int)) (hr2 : r2 = KbT (rn L j e) ⟨op, 0, nm, [y2], at_⟩ (a : Int)) : SM L i 0 s r r2 := by
 by_cases he : e = 0
 ·subst he
  obtain ⟨hyy, hij, hsy⟩ := hy rfl
  subst hyy
  generalize hX : (⟨op, 0, nm, [y], at_⟩ : Xp) = X at hr hr2
  have hsz : szE X = 1 + szE y := by rw [← hX]; simp [KcZ, szEs]
  rw [Kc0 (fun _ => by rw [hsz]; omega)] at hr
  rw [rdeepn (fun _ => by rw [hsz]; omega)] at hr2
  simp only [beq_self_eq_true, cond_true, Bool.true_and] at hr hr2
  by_cases hd : 24 < dpE X
  ·rw [decide_eq_true hd, cond_true] at hr hr2
   exact SM.bad ex0 X a 5 (by decide) ha hr hr2
  ·rw [decide_eq_false hd, cond_false] at hr hr2
   exact ⟨X, X, j, 0, hr, hr2, hj, fun _ => ⟨rfl, by omega, by omega, by rw [hsz]; omega⟩⟩
 ·generalize hX : (⟨op, 0, nm, [y], at_⟩ : Xp) = X at hr
  generalize hX2 : (⟨op, 0, nm, [y2], at_⟩ : Xp) = X2 at hr2
  rw [Kc0 (fun h => absurd h he), show (e == 0) = false by simp [he], cond_false] at hr
  rw [rdeepn (fun h => absurd h he), show (e == 0) = false by simp [he], Bool.false_and, cond_false] at hr2
  exact SM.bad ex0 X2 j e he hj hr hr2
theorem SM.more {L : List Tok} {i c s c' s' : Nat} {r : Option (Xp × Rdr)} {r2 : Option (Xp × RR)} (h : SM L (i + 1) c s r r2) (hc : c' ≤ c + 1) (hs : s ≤ s' + 1) : SM L i c' s' r r2 := by
 obtain ⟨x, y, i', e', h1, h2, h3, h4⟩ := h
 exact ⟨x, y, i', e', h1, h2, h3, fun he => by obtain ⟨a, b, c, d⟩ := h4 he; exact ⟨a, by omega, c, by omega⟩⟩
theorem sm : ∀ n2 : Nat, (∀ (L : List Tok) (i k n1 : Nat), L.length ≤ 100000 → i ≤ L.length → k ≤ 6 → 10 * (L.length - i) + 8 ≤ n2 + k → 10 * (L.length - i) + 8 ≤ n1 + k → SM L i 1 0 ((pg n1).1 (mk L i 0) (k : Int)) ((rg n2).1 (rn L i 0) (k : Int))) ∧
    (∀ (L : List Tok) (i n1 : Nat), L.length ≤ 100000 → i ≤ L.length → 10 * (L.length - i) + 1 ≤ n2 → 10 * (L.length - i) + 1 ≤ n1 → SM L i 1 0 ((pg n1).2.1 (mk L i 0)) ((rg n2).2.1 (rn L i 0))) ∧
    (∀ (L : List Tok) (i a n1 : Nat) (x : Xp) (op : Int), L.length ≤ 100000 → i ≤ L.length → a ≤ L.length → x.gKids = [] → x.gN = 0 → 10 * (L.length - i) + 1 ≤ n2 → 10 * (L.length - i) + 1 ≤ n1 → SM L i 0 1 ((pg n1).2.2.1 (mk L i 0) x op (a : Int)) ((rg n2).2.2 (rn L i 0) x op (a : Int)))
  | 0 => ⟨fun L i k n1 _ _ _ h => by omega, fun L i n1 _ _ h => by omega, fun L i a n1 x op _ _ _ _ _ h => by omega⟩
  | n + 1 => by
    obtain ⟨ihR, ihU, ihI⟩ := sm n
    refine ⟨fun L i k n1 hL hi hk hn hn1 => ?_, fun L i n1 hL hi hn hn1 => ?_, fun L i a n1 x op hL hi ha hx hxn hn hn1 => ?_⟩
    · -- a row
      obtain ⟨n1, rfl⟩ : ∃ m, n1 = m + 1 := ⟨n1 - 1, by omega⟩
      by_cases h6 : k = 6
      · subst h6
        have h := ihU L i n1 hL hi (by omega) (by omega)
        rw [show ((6 : Nat) : Int) = 6 from rfl, row6, rlev6]; exact h
      · obtain ⟨x, y, i1, e1, h1, h2, h3, h4⟩ := ihR L i (k + 1) n1 hL hi (by omega) (by omega) (by omega)
        have hrow := rowK (n := n1) (k := k) (mk L i 0) (by omega)
        have hrow2 := rlevK (n := n) (k := k) (rn L i 0) (by omega)
        rw [wIdx (by omega), h1, Option.bind_some] at hrow
        rw [wIdx (by omega), h2, Option.bind_some] at hrow2
        change _ = Option.bind (loopM (rowF (pg n1).1 (k : Int)) (st8 L i1 e1 x)) _ at hrow
        change _ = Option.bind (loopM (rowG (rg n).1 (k : Int)) (st8 L i1 e1 y)) _ at hrow2
        by_cases he : e1 = 0
        · subst he
          obtain ⟨hxy, g1, g3, g4⟩ := h4 rfl
          subst hxy
          obtain ⟨x', y', j', e', k1, k2, k3, k4⟩ := sm_loop (pg n1).1 (rg n).1 L i k (by omega) hL (fun j hj hjl => by
            have := ihR L j (k + 1) n1 hL hjl (by omega) (by omega) (by omega)
            rw [wIdx (by omega)]; exact this) (L.length - i1) i1 x (Nat.le_refl _) (by omega) h3 g3 (by omega)
          rw [k1, Option.bind_some] at hrow
          rw [k2, Option.bind_some] at hrow2
          simp only [st8, xp_eta] at hrow hrow2
          exact ⟨x', y', j', e', hrow, hrow2, k3, fun he => by obtain ⟨a, b, c, d⟩ := k4 he; exact ⟨a, by omega, c, by omega⟩⟩
        · rw [KG (Kfv he), Option.bind_some] at hrow
          rw [KG (Kjg he), Option.bind_some] at hrow2
          simp only [st8, xp_eta] at hrow hrow2
          exact SM.bad x y i1 e1 he h3 hrow hrow2
    · -- a unit
      obtain ⟨n1, rfl⟩ : ∃ m, n1 = m + 1 := ⟨n1 - 1, by omega⟩
      have hu := unit_eq (n := n1) (i := i) (L := L) (by omega)
      have hv := runit_eq (n := n) (i := i) (L := L) (by omega)
      by_cases h2 : (lk L i).gKind = 2
      · have hlt := lk_lt (L := L) (i := i) (by rw [h2]; decide)
        rw [h2] at hu hv
        exact ⟨_, _, i + 1, 0, hu, hv, hlt, fun _ => ⟨rfl, Nat.le_refl _, by simp [dpE, dpEs], by simp [szE, szEs]; omega⟩⟩
      · rw [show ((lk L i).gKind == 2) = false by simp [h2], cond_false] at hu hv
        by_cases h1 : (lk L i).gKind = 1
        · have hlt := lk_lt (L := L) (i := i) (by rw [h1]; decide)
          rw [h1] at hu hv
          simp only [beq_self_eq_true, cond_true] at hu hv
          have h := ihI L (i + 1) i n1 ⟨2, 0, (lk L i).gText, [], (lk L i).gAt⟩ 3 hL hlt hi rfl rfl (by omega) (by omega)
          rw [hu, hv]
          exact h.more (by omega) (by omega)
        · rw [show ((lk L i).gKind == 1) = false by simp [h1], cond_false] at hu hv
          by_cases h3 : (lk L i).gKind = 3
          · have hlt := lk_lt (L := L) (i := i) (by rw [h3]; decide)
            rw [show ((lk L i).gKind == 3) = true by simp [h3], cond_true] at hu hv
            obtain ⟨n1, rfl⟩ : ∃ m, n1 = m + 2 := ⟨n1 - 2, by omega⟩
            have hs := sign_eq (n := n1 + 1) (i := i + 1) (a := i) (L := L) (t := lk L i)
            rw [hs] at hu
            have goal : ∀ {r r2}, r = (pg (n1 + 2 + 1)).2.1 (mk L i 0) → r2 = (rg (n + 1)).2.1 (rn L i 0) → SM L (i + 1) 0 1 r r2 := by
              rintro r r2 rfl rfl
              cases c1 : tm (lk L i).gText (ByteArray.mk #[45])
              rotate_left
              · rw [c1, cond_true] at hu hv
                obtain ⟨y, y2, j, e1, q1, q2, q3, q4⟩ := ihU L (i + 1) (n1 + 1) hL hlt (by omega) (by omega)
                rw [q1, Option.bind_some] at hu
                rw [q2, Option.bind_some] at hv
                exact SM.sound y y2 (Nat.le_refl _) hL q3 hi (fun he => by obtain ⟨a, b, c, d⟩ := q4 he; exact ⟨a, by omega, by omega⟩) hu hv
              cases c2 : tm (lk L i).gText (ByteArray.mk #[33])
              rotate_left
              · rw [c1, c2, cond_false, cond_true] at hu hv
                obtain ⟨y, y2, j, e1, q1, q2, q3, q4⟩ := ihU L (i + 1) (n1 + 1) hL hlt (by omega) (by omega)
                rw [q1, Option.bind_some] at hu
                rw [q2, Option.bind_some] at hv
                exact SM.sound y y2 (Nat.le_refl _) hL q3 hi (fun he => by obtain ⟨a, b, c, d⟩ := q4 he; exact ⟨a, by omega, by omega⟩) hu hv
              cases c3 : tm (lk L i).gText (ByteArray.mk #[42])
              rotate_left
              · rw [c1, c2, c3, cond_false, cond_false, cond_true] at hu hv
                rw [Kgh (by omega), Option.bind_some] at hu
                rw [rnamen (by omega), Option.bind_some] at hv
                cases hk : (lk L (i + 1)).gKind == 1
                · rw [hk, cond_false] at hu hv
                  exact SM.bad _ _ (i + 1) 3 (by decide) hlt hu hv
                · have hk1 : (lk L (i + 1)).gKind = 1 := by simpa using hk
                  rw [hk, cond_true] at hu hv
                  exact ⟨_, _, i + 1 + 1, 0, hu, hv, lk_lt (by rw [hk1]; decide), fun _ => ⟨rfl, by omega, by simp [dpE, dpEs], by simp [szE, szEs]; omega⟩⟩
              cases c4 : tm (lk L i).gText (ByteArray.mk #[38])
              rotate_left
              · rw [c1, c2, c3, c4, cond_false, cond_false, cond_false, cond_true] at hu hv
                rw [Kgh (by omega), Option.bind_some] at hu
                rw [rnamen (by omega), Option.bind_some] at hv
                cases hk : (lk L (i + 1)).gKind == 1
                · rw [hk, cond_false] at hu hv
                  simp only [] at hu hv
                  obtain ⟨n, rfl⟩ : ∃ m, n = m + 1 := ⟨n - 1, by omega⟩
                  rw [KiX (by decide)] at hu
                  rw [rindex_bad (by decide)] at hv
                  exact SM.bad _ _ (i + 1) 3 (by decide) hlt hu hv
                · have hk1 : (lk L (i + 1)).gKind = 1 := by simpa using hk
                  have hlt2 := lk_lt (L := L) (i := i + 1) (by rw [hk1]; decide)
                  rw [hk, cond_true] at hu hv
                  simp only [] at hu hv
                  have h := ihI L (i + 1 + 1) i (n1 + 1) ⟨19, 0, (lk L (i + 1)).gText, [], (lk L i).gAt⟩ 20 hL hlt2 hi rfl rfl (by omega) (by omega)
                  rw [hu, hv]
                  exact h.more (by omega) (by omega)
              cases c5 : tm (lk L i).gText (ByteArray.mk #[110, 117, 108, 108])
              rotate_left
              · rw [c1, c2, c3, c4, c5, cond_false, cond_false, cond_false, cond_false, cond_true] at hu hv
                exact ⟨_, _, i + 1, 0, hu, hv, hlt, fun _ => ⟨rfl, by omega, by simp [dpE, dpEs], by simp [szE, szEs]; omega⟩⟩
              cases c6 : tm (lk L i).gText (ByteArray.mk #[40])
              rotate_left
              · rw [c1, c2, c3, c4, c5, c6, cond_false, cond_false, cond_false, cond_false, cond_false, cond_true] at hu hv
                rw [all_eq] at hu
                obtain ⟨y, y2, j, e1, q1, q2, q3, q4⟩ := ihR L (i + 1) 0 n1 hL hlt (by omega) (by omega) (by omega)
                rw [show (pg n1).1 (mk L (i + 1) 0) 0 = _ from q1, Option.bind_some] at hu
                rw [show (rg n).1 (rn L (i + 1) 0) 0 = _ from q2, Option.bind_some] at hv
                by_cases he : e1 = 0
                · subst he
                  obtain ⟨hyy, g1, g2, g3⟩ := q4 rfl
                  subst hyy
                  change _ = Option.bind (Ka1 (mk L j 0) (ByteArray.mk #[41])) _ at hu
                  rw [eat_eq _ (by omega), Option.bind_some] at hu
                  simp only [] at hv
                  rw [reatn _ (by omega), Option.bind_some] at hv
                  cases hb : isS L j (ByteArray.mk #[41])
                  · rw [hb, cond_false] at hu hv
                    exact SM.bad y y j 3 (by decide) q3 hu hv
                  · rw [hb, cond_true] at hu hv
                    obtain ⟨hl2, _, _⟩ := Kel hb
                    exact ⟨y, y, j + 1, 0, hu, hv, hl2, fun _ => ⟨rfl, by omega, g2, by omega⟩⟩
                · rw [show ((y, mk L j e1).2.gE == 0) = false by simp [mk, he], cond_false] at hu
                  simp only [] at hv
                  rw [reatb _ he, Option.bind_some] at hv
                  exact SM.bad y y2 j e1 he q3 hu hv
              · rw [c1, c2, c3, c4, c5, c6, cond_false, cond_false, cond_false, cond_false, cond_false, cond_false] at hu hv
                exact SM.bad ex0 ex0 i 3 (by decide) hi hu hv
            exact (goal rfl rfl).more (by omega) (by omega)
          · rw [show ((lk L i).gKind == 3) = false by simp [h3], cond_false] at hu hv
            exact SM.bad ex0 ex0 i 3 (by decide) hi hu hv
    · -- an index
      obtain ⟨n1, rfl⟩ : ∃ m, n1 = m + 1 := ⟨n1 - 1, by omega⟩
      have hx1 : dpE x = 1 := by rw [KeF, hx]; rfl
      have hx2 : szE x = 1 := by rw [KcZ, hx]; rfl
      have hu := Kf9 (n := n1) (i := i) (L := L) (x := x) (op := op) (a := (a : Int)) (by omega)
      have hv := rindex_eq (n := n) (i := i) (L := L) (x := x) (op := op) (a := (a : Int)) (by omega)
      cases hb : isS L i (ByteArray.mk #[91])
      · rw [hb, cond_false] at hu hv
        exact ⟨x, x, i, 0, hu, hv, hi, fun _ => ⟨rfl, Nat.le_refl _, by omega, by omega⟩⟩
      · rw [hb, cond_true] at hu hv
        obtain ⟨hlt, hk3, _⟩ := Kel hb
        obtain ⟨n1, rfl⟩ : ∃ m, n1 = m + 1 := ⟨n1 - 1, by omega⟩
        rw [all_eq] at hu
        obtain ⟨y, y2, j, e1, q1, q2, q3, q4⟩ := ihR L (i + 1) 0 n1 hL hlt (by omega) (by omega) (by omega)
        rw [show (pg n1).1 (mk L (i + 1) 0) 0 = _ from q1, Option.bind_some] at hu
        rw [show (rg n).1 (rn L (i + 1) 0) 0 = _ from q2, Option.bind_some] at hv
        rw [hxn] at hu
        by_cases he : e1 = 0
        · subst he
          obtain ⟨hyy, g1, g2, g3⟩ := q4 rfl
          subst hyy
          rw [show ((y, mk L j 0).2.gE == 0) = true from rfl, cond_true] at hu
          change _ = Option.bind (Option.bind (Ka1 (mk L j 0) (ByteArray.mk #[93])) _) _ at hu
          rw [eat_eq _ (by omega), Option.bind_some, Option.bind_some] at hu
          simp only [] at hv
          rw [reatn _ (by omega), Option.bind_some] at hv
          cases hb2 : isS L j (ByteArray.mk #[93])
          · rw [hb2, cond_false] at hu hv
            exact SM.sound (e := 3) (j := j) y y (Nat.le_refl _) hL q3 ha (fun h => by cases h) hu hv
          · rw [hb2, cond_true] at hu hv
            obtain ⟨hl2, _, _⟩ := Kel hb2
            exact SM.sound (e := 0) (j := j + 1) y y (Nat.le_refl _) hL hl2 ha (fun _ => ⟨rfl, by omega, by omega⟩) hu hv
        · rw [show ((y, mk L j e1).2.gE == 0) = false by simp [mk, he], cond_false, Option.bind_some] at hu
          simp only [] at hv
          rw [reatb _ he, Option.bind_some] at hv
          exact SM.sound (e := e1) (j := j) y y2 (Nat.le_refl _) hL q3 ha (fun h => absurd h he) hu hv
end Go.Proofs.Ytmgklehakmdiiaa.Ab.Pq
