/- The texts that spreadBeginsUpto_holds leans on, part 5. -/
import Derived.Test.YtnfkijcmakgkmaaGreatQb4
set_option maxRecDepth 100000
set_option maxHeartbeats 80000000
namespace Go.Proofs.YtnfkijcmakgkmaaGreat.Ab
open Go
set_option linter.all false
abbrev nlSz1_8 : List (List Nat) := nlD [] [(0,[]),(0,[]),(0,[0]),(3,[2]),(4,[3]),(0,[]),(0,[]),(0,[5]),(8,[7]),(9,[8]),(5,[5,7,8]),(11,[]),(11,[]),(11,[]),(11,[]),(11,[]),(11,[]),(11,[]),(11,[]),(11,[]),(11,[]),(11,[]),(11,[]),(11,[]),(11,[]),(11,[]),(11,[]),(11,[]),(11,[]),(11,[]),(11,[]),(11,[]),(11,[]),(11,[]),(11,[]),(11,[]),(11,[]),(11,[]),(11,[]),(11,[]),(11,[]),(11,[]),(11,[]),(11,[]),(11,[]),(11,[]),(11,[]),(11,[]),(11,[]),(11,[]),(11,[]),(11,[]),(11,[]),(11,[]),(11,[]),(11,[]),(11,[]),(11,[]),(11,[]),(11,[]),(11,[]),(11,[]),(11,[]),(11,[]),(11,[]),(11,[]),(11,[]),(11,[]),(11,[]),(11,[]),(11,[]),(11,[]),(11,[]),(11,[]),(11,[]),(11,[]),(11,[]),(11,[]),(11,[]),(11,[]),(11,[]),(11,[]),(11,[]),(11,[]),(11,[]),(11,[]),(11,[]),(11,[]),(11,[]),(11,[]),(11,[]),(11,[]),(11,[]),(11,[]),(11,[])]
abbrev KcI : List (List Nat) := nlD [] [(0,[]),(0,[]),(0,[0,1]),(3,[2]),(4,[3]),(0,[]),(0,[]),(0,[5,6]),(8,[7]),(9,[8]),(5,[4,5,6,7,8,9]),(11,[10]),(12,[11]),(13,[]),(13,[12,13]),(15,[14]),(16,[15]),(13,[]),(13,[]),(13,[17,18]),(20,[19]),(21,[20]),(17,[16,17,18,19,20,21]),(23,[22]),(24,[23]),(25,[24]),(26,[]),(26,[25,26]),(28,[27]),(29,[28]),(26,[]),(26,[]),(26,[30,31]),(33,[32]),(34,[33]),(30,[29,30,31,32,33,34]),(36,[35]),(37,[36]),(38,[37]),(39,[38]),(40,[39]),(41,[]),(41,[40,41]),(43,[42]),(44,[43]),(41,[]),(41,[]),(41,[45,46]),(48,[47]),(49,[48]),(45,[44,45,46,47,48,49]),(51,[50]),(52,[51]),(53,[52]),(54,[53]),(55,[]),(55,[54,55]),(57,[56]),(58,[57]),(55,[]),(55,[]),(55,[59,60]),(62,[61]),(63,[62]),(55,[]),(59,[58,59,60,61,62,63,64]),(66,[65]),(67,[66]),(68,[67]),(69,[68]),(70,[]),(70,[69,70]),(72,[71]),(73,[72]),(70,[]),(70,[]),(70,[74,75]),(77,[76]),(78,[77]),(70,[]),(74,[73,74,75,76,77,78,79]),(81,[80]),(82,[81]),(83,[82]),(84,[83]),(85,[]),(85,[84,85]),(87,[86]),(88,[87]),(85,[]),(85,[]),(85,[89,90]),(92,[91]),(93,[92]),(85,[]),(89,[88,89,90,91,92,93,94]),(96,[95]),(97,[96])]
abbrev nlSz1_10 : List (List Nat) := nlD [] [(0,[]),(0,[]),(0,[0]),(3,[2]),(4,[3]),(0,[]),(0,[]),(0,[5]),(8,[7]),(9,[8]),(5,[5,7,8]),(11,[]),(11,[]),(11,[]),(11,[12]),(15,[14]),(16,[15]),(11,[]),(11,[]),(11,[17]),(20,[19]),(21,[20]),(17,[17,19,20]),(23,[]),(23,[]),(23,[]),(23,[]),(23,[]),(23,[]),(23,[]),(23,[]),(23,[]),(23,[]),(23,[]),(23,[]),(23,[]),(23,[]),(23,[]),(23,[]),(23,[]),(23,[]),(23,[]),(23,[]),(23,[]),(23,[]),(23,[]),(23,[]),(23,[]),(23,[]),(23,[]),(23,[]),(23,[]),(23,[]),(23,[]),(23,[]),(23,[]),(23,[]),(23,[]),(23,[]),(23,[]),(23,[]),(23,[]),(23,[]),(23,[]),(23,[]),(23,[]),(23,[]),(23,[]),(23,[]),(23,[]),(23,[]),(23,[]),(23,[]),(23,[]),(23,[]),(23,[]),(23,[]),(23,[]),(23,[]),(23,[]),(23,[]),(23,[]),(23,[]),(23,[]),(23,[]),(23,[]),(23,[]),(23,[]),(23,[]),(23,[]),(23,[]),(23,[]),(23,[]),(23,[]),(23,[])]
abbrev nlSz1_11 : List (List Nat) := nlD [] [(0,[]),(0,[]),(0,[0]),(3,[2]),(4,[3]),(0,[]),(0,[]),(0,[5]),(8,[7]),(9,[8]),(5,[5,7,8]),(11,[]),(11,[]),(11,[]),(11,[12]),(15,[14]),(16,[15]),(11,[]),(11,[]),(11,[17]),(20,[19]),(21,[20]),(17,[17,19,20]),(23,[]),(23,[]),(23,[]),(23,[]),(23,[25]),(28,[27]),(29,[28]),(23,[]),(23,[]),(23,[30]),(33,[32]),(34,[33]),(30,[30,32,33]),(36,[]),(36,[]),(36,[]),(36,[]),(36,[]),(36,[]),(36,[]),(36,[]),(36,[]),(36,[]),(36,[]),(36,[]),(36,[]),(36,[]),(36,[]),(36,[]),(36,[]),(36,[]),(36,[]),(36,[]),(36,[]),(36,[]),(36,[]),(36,[]),(36,[]),(36,[]),(36,[]),(36,[]),(36,[]),(36,[]),(36,[]),(36,[]),(36,[]),(36,[]),(36,[]),(36,[]),(36,[]),(36,[]),(36,[]),(36,[]),(36,[]),(36,[]),(36,[]),(36,[]),(36,[]),(36,[]),(36,[]),(36,[]),(36,[]),(36,[]),(36,[]),(36,[]),(36,[]),(36,[]),(36,[]),(36,[]),(36,[]),(36,[]),(36,[])]
abbrev nlSz1_12 : List (List Nat) := nlD [] [(0,[]),(0,[]),(0,[0]),(3,[2]),(4,[3]),(0,[]),(0,[]),(0,[5]),(8,[7]),(9,[8]),(5,[5,7,8]),(11,[]),(11,[]),(11,[]),(11,[12]),(15,[14]),(16,[15]),(11,[]),(11,[]),(11,[17]),(20,[19]),(21,[20]),(17,[17,19,20]),(23,[]),(23,[]),(23,[]),(23,[]),(23,[25]),(28,[27]),(29,[28]),(23,[]),(23,[]),(23,[30]),(33,[32]),(34,[33]),(30,[30,32,33]),(36,[]),(36,[]),(36,[]),(36,[]),(36,[]),(36,[]),(36,[40]),(43,[42]),(44,[43]),(36,[]),(36,[]),(36,[45]),(48,[47]),(49,[48]),(45,[45,47,48]),(51,[]),(51,[]),(51,[]),(51,[]),(51,[]),(51,[]),(51,[]),(51,[]),(51,[]),(51,[]),(51,[]),(51,[]),(51,[]),(51,[]),(51,[]),(51,[]),(51,[]),(51,[]),(51,[]),(51,[]),(51,[]),(51,[]),(51,[]),(51,[]),(51,[]),(51,[]),(51,[]),(51,[]),(51,[]),(51,[]),(51,[]),(51,[]),(51,[]),(51,[]),(51,[]),(51,[]),(51,[]),(51,[]),(51,[]),(51,[]),(51,[]),(51,[]),(51,[]),(51,[])]
abbrev nlSz1_13 : List (List Nat) := nlD [] [(0,[]),(0,[]),(0,[0]),(3,[2]),(4,[3]),(0,[]),(0,[]),(0,[5]),(8,[7]),(9,[8]),(5,[5,7,8]),(11,[]),(11,[]),(11,[]),(11,[12]),(15,[14]),(16,[15]),(11,[]),(11,[]),(11,[17]),(20,[19]),(21,[20]),(17,[17,19,20]),(23,[]),(23,[]),(23,[]),(23,[]),(23,[25]),(28,[27]),(29,[28]),(23,[]),(23,[]),(23,[30]),(33,[32]),(34,[33]),(30,[30,32,33]),(36,[]),(36,[]),(36,[]),(36,[]),(36,[]),(36,[]),(36,[40]),(43,[42]),(44,[43]),(36,[]),(36,[]),(36,[45]),(48,[47]),(49,[48]),(45,[45,47,48]),(51,[]),(51,[]),(51,[]),(51,[]),(51,[]),(51,[54]),(57,[56]),(58,[57]),(51,[]),(51,[]),(51,[59]),(62,[61]),(63,[62]),(51,[]),(59,[58,59,61,62,63]),(66,[65]),(67,[]),(67,[]),(67,[]),(67,[]),(67,[]),(67,[]),(67,[]),(67,[]),(67,[]),(67,[]),(67,[]),(67,[]),(67,[]),(67,[]),(67,[]),(67,[]),(67,[]),(67,[]),(67,[]),(67,[]),(67,[]),(67,[]),(67,[]),(67,[]),(67,[]),(67,[]),(67,[]),(67,[])]
abbrev nlSz1_14 : List (List Nat) := nlD [] [(0,[]),(0,[]),(0,[0]),(3,[2]),(4,[3]),(0,[]),(0,[]),(0,[5]),(8,[7]),(9,[8]),(5,[5,7,8]),(11,[]),(11,[]),(11,[]),(11,[12]),(15,[14]),(16,[15]),(11,[]),(11,[]),(11,[17]),(20,[19]),(21,[20]),(17,[17,19,20]),(23,[]),(23,[]),(23,[]),(23,[]),(23,[25]),(28,[27]),(29,[28]),(23,[]),(23,[]),(23,[30]),(33,[32]),(34,[33]),(30,[30,32,33]),(36,[]),(36,[]),(36,[]),(36,[]),(36,[]),(36,[]),(36,[40]),(43,[42]),(44,[43]),(36,[]),(36,[]),(36,[45]),(48,[47]),(49,[48]),(45,[45,47,48]),(51,[]),(51,[]),(51,[]),(51,[]),(51,[]),(51,[54]),(57,[56]),(58,[57]),(51,[]),(51,[]),(51,[59]),(62,[61]),(63,[62]),(51,[]),(59,[58,59,61,62,63]),(66,[65]),(67,[]),(67,[]),(67,[]),(67,[]),(67,[69]),(72,[71]),(73,[72]),(67,[]),(67,[]),(67,[74]),(77,[76]),(78,[77]),(67,[]),(74,[73,74,76,77,78]),(81,[80]),(82,[]),(82,[]),(82,[]),(82,[]),(82,[]),(82,[]),(82,[]),(82,[]),(82,[]),(82,[]),(82,[]),(82,[]),(82,[])]
abbrev nlSz1_15 : List (List Nat) := nlD [] [(0,[]),(0,[]),(0,[0]),(3,[2]),(4,[3]),(0,[]),(0,[]),(0,[5]),(8,[7]),(9,[8]),(5,[5,7,8]),(11,[]),(11,[]),(11,[]),(11,[12]),(15,[14]),(16,[15]),(11,[]),(11,[]),(11,[17]),(20,[19]),(21,[20]),(17,[17,19,20]),(23,[]),(23,[]),(23,[]),(23,[]),(23,[25]),(28,[27]),(29,[28]),(23,[]),(23,[]),(23,[30]),(33,[32]),(34,[33]),(30,[30,32,33]),(36,[]),(36,[]),(36,[]),(36,[]),(36,[]),(36,[]),(36,[40]),(43,[42]),(44,[43]),(36,[]),(36,[]),(36,[45]),(48,[47]),(49,[48]),(45,[45,47,48]),(51,[]),(51,[]),(51,[]),(51,[]),(51,[]),(51,[54]),(57,[56]),(58,[57]),(51,[]),(51,[]),(51,[59]),(62,[61]),(63,[62]),(51,[]),(59,[58,59,61,62,63]),(66,[65]),(67,[]),(67,[]),(67,[]),(67,[]),(67,[69]),(72,[71]),(73,[72]),(67,[]),(67,[]),(67,[74]),(77,[76]),(78,[77]),(67,[]),(74,[73,74,76,77,78]),(81,[80]),(82,[]),(82,[]),(82,[]),(82,[]),(82,[84]),(87,[86]),(88,[87]),(82,[]),(82,[]),(82,[89]),(92,[91]),(93,[92]),(82,[])]
abbrev nlSz1_16 : List (List Nat) := nlD [] [(0,[]),(0,[]),(0,[0]),(3,[2]),(4,[3]),(0,[]),(0,[]),(0,[5]),(8,[7]),(9,[8]),(5,[5,7,8]),(11,[]),(11,[]),(11,[]),(11,[12]),(15,[14]),(16,[15]),(11,[]),(11,[]),(11,[17]),(20,[19]),(21,[20]),(17,[17,19,20]),(23,[]),(23,[]),(23,[]),(23,[]),(23,[25]),(28,[27]),(29,[28]),(23,[]),(23,[]),(23,[30]),(33,[32]),(34,[33]),(30,[30,32,33]),(36,[]),(36,[]),(36,[]),(36,[]),(36,[]),(36,[]),(36,[]),(36,[]),(36,[]),(36,[]),(36,[]),(36,[]),(36,[]),(36,[]),(36,[]),(36,[]),(36,[]),(36,[]),(36,[]),(36,[]),(36,[54]),(57,[56]),(58,[57]),(36,[]),(36,[]),(36,[59]),(62,[61]),(63,[62]),(36,[]),(59,[58,59,61,62,63]),(66,[65]),(67,[]),(67,[]),(67,[]),(67,[]),(67,[]),(67,[]),(67,[]),(67,[]),(67,[]),(67,[]),(67,[]),(67,[]),(67,[]),(67,[]),(67,[]),(67,[]),(67,[]),(67,[]),(67,[]),(67,[]),(67,[]),(67,[]),(67,[]),(67,[]),(67,[]),(67,[]),(67,[]),(67,[])]
abbrev nlSz1_17 : List (List Nat) := nlD [] [(0,[]),(0,[]),(0,[0]),(3,[2]),(4,[3]),(0,[]),(0,[]),(0,[5]),(8,[7]),(9,[8]),(5,[5,7,8]),(11,[]),(11,[]),(11,[]),(11,[12]),(15,[14]),(16,[15]),(11,[]),(11,[]),(11,[17]),(20,[19]),(21,[20]),(17,[17,19,20]),(23,[]),(23,[]),(23,[]),(23,[]),(23,[25]),(28,[27]),(29,[28]),(23,[]),(23,[]),(23,[30]),(33,[32]),(34,[33]),(30,[30,32,33]),(36,[]),(36,[]),(36,[]),(36,[]),(36,[]),(36,[]),(36,[]),(36,[]),(36,[]),(36,[]),(36,[]),(36,[]),(36,[]),(36,[]),(36,[]),(36,[]),(36,[]),(36,[]),(36,[]),(36,[]),(36,[54]),(57,[56]),(58,[57]),(36,[]),(36,[]),(36,[59]),(62,[61]),(63,[62]),(36,[]),(59,[58,59,61,62,63]),(66,[65]),(67,[]),(67,[]),(67,[]),(67,[]),(67,[69]),(72,[71]),(73,[72]),(67,[]),(67,[]),(67,[74]),(77,[76]),(78,[77]),(67,[]),(74,[73,74,76,77,78]),(81,[80]),(82,[]),(82,[]),(82,[]),(82,[]),(82,[]),(82,[]),(82,[]),(82,[]),(82,[]),(82,[]),(82,[]),(82,[]),(82,[])]
abbrev nlSz1_18 : List (List Nat) := nlD [] [(0,[]),(0,[]),(0,[0]),(3,[2]),(4,[3]),(0,[]),(0,[]),(0,[5]),(8,[7]),(9,[8]),(5,[5,7,8]),(11,[]),(11,[]),(11,[]),(11,[12]),(15,[14]),(16,[15]),(11,[]),(11,[]),(11,[17]),(20,[19]),(21,[20]),(17,[17,19,20]),(23,[]),(23,[]),(23,[]),(23,[]),(23,[25]),(28,[27]),(29,[28]),(23,[]),(23,[]),(23,[30]),(33,[32]),(34,[33]),(30,[30,32,33]),(36,[]),(36,[]),(36,[]),(36,[]),(36,[]),(36,[]),(36,[]),(36,[]),(36,[]),(36,[]),(36,[]),(36,[]),(36,[]),(36,[]),(36,[]),(36,[]),(36,[]),(36,[]),(36,[]),(36,[]),(36,[54]),(57,[56]),(58,[57]),(36,[]),(36,[]),(36,[59]),(62,[61]),(63,[62]),(36,[]),(59,[58,59,61,62,63]),(66,[65]),(67,[]),(67,[]),(67,[]),(67,[]),(67,[69]),(72,[71]),(73,[72]),(67,[]),(67,[]),(67,[74]),(77,[76]),(78,[77]),(67,[]),(74,[73,74,76,77,78]),(81,[80]),(82,[]),(82,[]),(82,[]),(82,[]),(82,[84]),(87,[86]),(88,[87]),(82,[]),(82,[]),(82,[89]),(92,[91]),(93,[92]),(82,[])]
noncomputable def KbB (g0 : (List Kh) → (List Kh) → (Bool) → Option (Bool)) (a0 : List Kh) (a1 : List Kh) (a2 : Bool) : Option (Bool) :=
 (bif ((a0.length : Int) != (a1.length : Int)) then some false else (Option.bind (α := (Unit) ⊕ (Bool)) (loopM (fun (s228 : Int) => (bif (decide (s228 < (a0.length : Int))) then (Option.bind (α := Bool) ((idx a0 s228).bind fun x414 => ((idx a1 s228).bind fun x415 => (bif (x414.gOp != x415.gOp) then some true else ((idx a0 s228).bind fun x417 => ((idx a1 s228).bind fun x418 => (bif (!decide (x417.gName = x418.gName)) then some true else ((idx a0 s228).bind fun x420 => ((idx a1 s228).bind fun x421 => (bif (!decide (x420.gFunc = x421.gFunc)) then some true else (bif a2 then ((idx a0 s228).bind fun x424 => ((idx a1 s228).bind fun x425 => (bif (x424.gAt != x425.gAt) then some true else ((idx a0 s228).bind fun x427 => ((idx a1 s228).bind fun x428 => ((KeU x427.gExps x428.gExps a2).bind fun x429 => (bif (!x429) then some true else ((idx a0 s228).bind fun x431 => ((idx a1 s228).bind fun x432 => ((g0 x431.gKids x432.gKids a2).bind fun x433 => (bif (!x433) then some true else ((idx a0 s228).bind fun x435 => ((idx a1 s228).bind fun x436 => ((g0 x435.gElse x436.gElse a2).bind fun x437 => some (!x437))))))))))))))) else ((idx a0 s228).bind fun x438 => ((idx a1 s228).bind fun x439 => ((KeU x438.gExps x439.gExps a2).bind fun x440 => (bif (!x440) then some true else ((idx a0 s228).bind fun x442 => ((idx a1 s228).bind fun x443 => ((g0 x442.gKids x443.gKids a2).bind fun x444 => (bif (!x444) then some true else ((idx a0 s228).bind fun x446 => ((idx a1 s228).bind fun x447 => ((g0 x446.gElse x447.gElse a2).bind fun x448 => some (!x448)))))))))))))))))))))) fun y413 => (bif y413 then some (.done (.inr false)) else some (.next (IntKind.i64.wrap (s228 + (1 : Int)))))) else some (.done (.inl ())))) (0 : Int)) (Sum.elim (fun y227 => some true) (fun r => some r))))
theorem KhJ (g0 : (List Kh) → (List Kh) → (Bool) → Option (Bool)) (hg0 : ∀ (a0 : List Kh) (a1 : List Kh) (a2 : Bool) (r : Bool) (h0 : g0 a0 a1 a2 = some r), CallsD Tryz.prog 91 [.lst 7 (a0.map Ks) .no, .lst 7 (a1.map Ks) .no, .v (.bool a2)] [] [] (fun d h k => d = .v (.bool r) ∧ h = [] ∧ k = [])) (a0 : List Kh) (a1 : List Kh) (a2 : Bool) (r : Bool) (h0 : KbB g0 a0 a1 a2 = some r) : CallsD Tryz.prog 91 [.lst 7 (a0.map Ks) .no, .lst 7 (a1.map Ks) .no, .v (.bool a2)] [] [] (fun d h k => d = .v (.bool r) ∧ h = [] ∧ k = []) := by
 have hm := KG h0
 unfold KbB at hm
 clear h0
 refine K3 htab Tryz.func91 rfl rfl rfl rfl rfl (fun C => ?_)
 refine Kg ?_
 refine pu ?_
 refine Ke ?_
 refine Kk ?_
 refine Kg ?_
 refine pu ?_
 refine Kaa htab rfl rfl rfl rfl rfl rfl rfl (by first | exact KX | rfl) ?_
 refine pu ?_
 refine Kaa htab rfl rfl rfl rfl rfl rfl rfl (by first | exact KX | rfl) ?_
 refine pu ?_
 refine Ke ?_
 refine KA rfl (fun hc2 => ?_) (fun hc2 => ?_)
 ·replace hm := yes_t hc2 hm
  refine Kg ?_
  refine pu ?_
  refine Ke ?_
  refine KD ?_
  refine KS ?_
  have er3 := Kj hm; subst er3
  refine rP (t' := [(6, .v (.bool false))]) [] [] 0 (wC wN) (lT lN) ?_
  exact ⟨rfl, rfl, rfl⟩
 ·replace hm := yes_f hc2 hm
  refine Kz ?_
  refine Kb ?_
  refine Kk ?_
  refine Kg ?_
  refine pu ?_
  refine Ke ?_
  obtain ⟨x227, q227, ho227⟩ := Kc hm
  refine Ka1 (τ := Unit) (Y := Unit) (fun y227 z227 => (⟨[], [], []⟩ : S)) x227 ?_ ?_
  ·clear hm; have hm := KG q227
   refine KB ?_
   obtain ⟨u228, hl228, hq228⟩ := yes_m hm
   refine Kao (Y := Unit) hl228 (fun s228 z228 => (⟨[(0, .lst 7 (a0.map Ks) .no), (1, .lst 7 (a1.map Ks) .no), (2, .v (.bool a2)), (7, .v (.int .i64 s228))], [], []⟩ : S)) ?_ ?_
   ·skip
    exact WkX.of () (WkS.perm (WkS.cons rfl (Wk.refl _) (WkS.cons rfl (Wk.refl _) (WkS.cons rfl (Wk.refl _) (WkS.cons rfl (Wk.refl _) (WkS.nil))))) Pf Pf)
   ·intro G228 s228 z228 hm
    refine Kk ?_
    refine Kg ?_
    refine pu ?_
    refine pu ?_
    refine Kaa htab rfl rfl rfl rfl rfl rfl rfl (by first | exact KX | rfl) ?_
    refine pu ?_
    refine Ke ?_
    refine KA rfl (fun hc377 => ?_) (fun hc377 => ?_)
    ·replace hm := yes_t hc377 hm
     refine Kz ?_
     refine Kb ?_
     refine Kk ?_
     refine KB ?_
     refine Kk ?_
     obtain ⟨y413, q413, ho413⟩ := Kc hm
     refine Kae (Y := Unit) (fun z413 => (⟨[(0, .lst 7 (a0.map Ks) .no), (1, .lst 7 (a1.map Ks) .no), (2, .v (.bool a2)), (7, .v (.int .i64 s228)), (116, .v (.bool y413))], [], []⟩ : S)) ?_ ?_
     ·clear hm; have hm := KG q413
      obtain ⟨x414, q414, hm⟩ := Kc hm
      obtain ⟨x415, q415, hm⟩ := Kc hm
      refine bycB (x414.gOp != x415.gOp) (fun hs416 => ?_) (fun hs416 => ?_)
      ·replace hm := yes_t hs416 hm
       refine Kaf 95 [] nlSz1_8 [0,2,3,5,7,8] KcI (by kernel_rfl) (by kernel_rfl) (by kernel_rfl) (by rfl) (by rfl) (by kernel_rfl) ?_
       iterate 6 apply Exists.intro
       intro bs
       refine zep ?_
       refine zqp ?_
       refine z_e rfl rfl (Ex.wk (KE htab rfl rfl rfl rfl rfl rfl rfl (Kf q414) (Kl q414)) (Wk.of_eq (congrArg D.el (Kp x414)))) rfl rfl rfl rfl rfl rfl ?_
       refine zep ?_
       refine z_qM rfl rfl (Ko htab rfl rfl rfl rfl rfl) rfl rfl rfl rfl rfl rfl ?_
       refine zep ?_
       refine zqp ?_
       refine z_e rfl rfl (Ex.wk (KE htab rfl rfl rfl rfl rfl rfl rfl (Kf q415) (Kl q415)) (Wk.of_eq (congrArg D.el (Kp x415)))) rfl rfl rfl rfl rfl rfl ?_
       refine zep ?_
       refine z_qM rfl rfl (Ko htab rfl rfl rfl rfl rfl) rfl rfl rfl rfl rfl rfl ?_
       refine zqp ?_
       refine zqp ?_
       refine KQ (j := 30) (b' := true) rfl hs416 ?_
       iterate 11 refine zK ?_
       refine z_q rfl rfl (Kaz rfl rfl rfl) rfl rfl rfl rfl rfl rfl ?_
       refine zqp ?_
       iterate 11 refine zK ?_
       refine z_q rfl rfl (Kaz rfl rfl rfl) rfl rfl rfl rfl rfl rfl ?_
       refine zqp ?_
       iterate 14 refine zK ?_
       refine z_q rfl rfl (Kaz rfl rfl rfl) rfl rfl rfl rfl rfl rfl ?_
       refine zqp ?_
       iterate 13 refine zK ?_
       refine z_q rfl rfl (Kaz rfl rfl rfl) rfl rfl rfl rfl rfl rfl ?_
       refine zqp ?_
       iterate 13 refine zK ?_
       refine z_q rfl rfl (Kaz rfl rfl rfl) rfl rfl rfl rfl rfl rfl ?_
       refine zqp ?_
       iterate 11 refine zK ?_
       refine z_nil rfl rfl (fun e he => by simp [isAl] at he) ?_
       refine pK ?_
       refine pK ?_
       refine Kac rfl rfl rfl rfl rfl rfl ?_
       refine Kv ?_
       have e413 := Kj hm; subst e413
       refine ⟨rfl, ?_⟩
       exact WkX.of () (WkS.perm (WkS.cons rfl (Wk.refl _) (WkS.cons rfl (Wk.refl _) (WkS.cons rfl (Wk.refl _) (WkS.cons rfl (Wk.refl _) (WkS.cons rfl (Wk.refl _) (WkS.nil)))))) Pf Pf)
      ·replace hm := yes_f hs416 hm
       obtain ⟨x417, q417, hm⟩ := Kc hm
       obtain ⟨x418, q418, hm⟩ := Kc hm
       refine bycB (!decide (x417.gName = x418.gName)) (fun hs419 => ?_) (fun hs419 => ?_)
       ·replace hm := yes_t hs419 hm
        refine Kaf 95 [] nlSz1_10 [0,2,3,5,7,8,12,14,15,17,19,20] KcI (by kernel_rfl) (by kernel_rfl) (by kernel_rfl) (by rfl) (by rfl) (by kernel_rfl) ?_
        iterate 12 apply Exists.intro
        intro bs
        refine zep ?_
        refine zqp ?_
        refine z_e rfl rfl (Ex.wk (KE htab rfl rfl rfl rfl rfl rfl rfl (Kf q414) (Kl q414)) (Wk.of_eq (congrArg D.el (Kp x414)))) rfl rfl rfl rfl rfl rfl ?_
        refine zep ?_
        refine z_qM rfl rfl (Ko htab rfl rfl rfl rfl rfl) rfl rfl rfl rfl rfl rfl ?_
        refine zep ?_
        refine zqp ?_
        refine z_e rfl rfl (Ex.wk (KE htab rfl rfl rfl rfl rfl rfl rfl (Kf q415) (Kl q415)) (Wk.of_eq (congrArg D.el (Kp x415)))) rfl rfl rfl rfl rfl rfl ?_
        refine zep ?_
        refine z_qM rfl rfl (Ko htab rfl rfl rfl rfl rfl) rfl rfl rfl rfl rfl rfl ?_
        refine zqp ?_
        refine zqp ?_
        refine KQ (j := 30) (b' := false) rfl hs416 ?_
        refine zep ?_
        refine zqp ?_
        refine z_e rfl rfl (Ex.wk (KE htab rfl rfl rfl rfl rfl rfl rfl (Kf q417) (Kl q417)) (Wk.of_eq (congrArg D.el (Kp x417)))) rfl rfl rfl rfl rfl rfl ?_
        refine zep ?_
        refine z_qM rfl rfl (Ko htab rfl rfl rfl rfl rfl) rfl rfl rfl rfl rfl rfl ?_
        refine zep ?_
        refine zqp ?_
        refine z_e rfl rfl (Ex.wk (KE htab rfl rfl rfl rfl rfl rfl rfl (Kf q418) (Kl q418)) (Wk.of_eq (congrArg D.el (Kp x418)))) rfl rfl rfl rfl rfl rfl ?_
        refine zep ?_
        refine z_qM rfl rfl (Ko htab rfl rfl rfl rfl rfl) rfl rfl rfl rfl rfl rfl ?_
        refine zqp ?_
        refine z_q rfl rfl (K6 rfl rfl rfl) rfl rfl rfl rfl rfl rfl ?_
        refine zqp ?_
        refine KQ (j := 43) (b' := true) rfl hs419 ?_
        iterate 11 refine zK ?_
        refine z_q rfl rfl (Kaz rfl rfl rfl) rfl rfl rfl rfl rfl rfl ?_
        refine zqp ?_
        iterate 14 refine zK ?_
        refine z_q rfl rfl (Kaz rfl rfl rfl) rfl rfl rfl rfl rfl rfl ?_
        refine zqp ?_
        iterate 13 refine zK ?_
        refine z_q rfl rfl (Kaz rfl rfl rfl) rfl rfl rfl rfl rfl rfl ?_
        refine zqp ?_
        iterate 13 refine zK ?_
        refine z_q rfl rfl (Kaz rfl rfl rfl) rfl rfl rfl rfl rfl rfl ?_
        refine zqp ?_
        iterate 11 refine zK ?_
        refine z_nil rfl rfl (fun e he => by simp [isAl] at he) ?_
        refine pK ?_
        refine pK ?_
        refine Kac rfl rfl rfl rfl rfl rfl ?_
        refine Kv ?_
        have e413 := Kj hm; subst e413
        refine ⟨rfl, ?_⟩
        exact WkX.of () (WkS.perm (WkS.cons rfl (Wk.refl _) (WkS.cons rfl (Wk.refl _) (WkS.cons rfl (Wk.refl _) (WkS.cons rfl (Wk.refl _) (WkS.cons rfl (Wk.refl _) (WkS.nil)))))) Pf Pf)
       ·replace hm := yes_f hs419 hm
        obtain ⟨x420, q420, hm⟩ := Kc hm
        obtain ⟨x421, q421, hm⟩ := Kc hm
        refine bycB (!decide (x420.gFunc = x421.gFunc)) (fun hs422 => ?_) (fun hs422 => ?_)
        ·replace hm := yes_t hs422 hm
         refine Kaf 95 [] nlSz1_11 [0,2,3,5,7,8,12,14,15,17,19,20,25,27,28,30,32,33] KcI (by kernel_rfl) (by kernel_rfl) (by kernel_rfl) (by rfl) (by rfl) (by kernel_rfl) ?_
         iterate 18 apply Exists.intro
         intro bs
         refine zep ?_
         refine zqp ?_
         refine z_e rfl rfl (Ex.wk (KE htab rfl rfl rfl rfl rfl rfl rfl (Kf q414) (Kl q414)) (Wk.of_eq (congrArg D.el (Kp x414)))) rfl rfl rfl rfl rfl rfl ?_
         refine zep ?_
         refine z_qM rfl rfl (Ko htab rfl rfl rfl rfl rfl) rfl rfl rfl rfl rfl rfl ?_
         refine zep ?_
         refine zqp ?_
         refine z_e rfl rfl (Ex.wk (KE htab rfl rfl rfl rfl rfl rfl rfl (Kf q415) (Kl q415)) (Wk.of_eq (congrArg D.el (Kp x415)))) rfl rfl rfl rfl rfl rfl ?_
         refine zep ?_
         refine z_qM rfl rfl (Ko htab rfl rfl rfl rfl rfl) rfl rfl rfl rfl rfl rfl ?_
         refine zqp ?_
         refine zqp ?_
         refine KQ (j := 30) (b' := false) rfl hs416 ?_
         refine zep ?_
         refine zqp ?_
         refine z_e rfl rfl (Ex.wk (KE htab rfl rfl rfl rfl rfl rfl rfl (Kf q417) (Kl q417)) (Wk.of_eq (congrArg D.el (Kp x417)))) rfl rfl rfl rfl rfl rfl ?_
         refine zep ?_
         refine z_qM rfl rfl (Ko htab rfl rfl rfl rfl rfl) rfl rfl rfl rfl rfl rfl ?_
         refine zep ?_
         refine zqp ?_
         refine z_e rfl rfl (Ex.wk (KE htab rfl rfl rfl rfl rfl rfl rfl (Kf q418) (Kl q418)) (Wk.of_eq (congrArg D.el (Kp x418)))) rfl rfl rfl rfl rfl rfl ?_
         refine zep ?_
         refine z_qM rfl rfl (Ko htab rfl rfl rfl rfl rfl) rfl rfl rfl rfl rfl rfl ?_
         refine zqp ?_
         refine z_q rfl rfl (K6 rfl rfl rfl) rfl rfl rfl rfl rfl rfl ?_
         refine zqp ?_
         refine KQ (j := 43) (b' := false) rfl hs419 ?_
         refine zep ?_
         refine zqp ?_
         refine z_e rfl rfl (Ex.wk (KE htab rfl rfl rfl rfl rfl rfl rfl (Kf q420) (Kl q420)) (Wk.of_eq (congrArg D.el (Kp x420)))) rfl rfl rfl rfl rfl rfl ?_
         refine zep ?_
         refine z_qM rfl rfl (Ko htab rfl rfl rfl rfl rfl) rfl rfl rfl rfl rfl rfl ?_
         refine zep ?_
         refine zqp ?_
         refine z_e rfl rfl (Ex.wk (KE htab rfl rfl rfl rfl rfl rfl rfl (Kf q421) (Kl q421)) (Wk.of_eq (congrArg D.el (Kp x421)))) rfl rfl rfl rfl rfl rfl ?_
         refine zep ?_
         refine z_qM rfl rfl (Ko htab rfl rfl rfl rfl rfl) rfl rfl rfl rfl rfl rfl ?_
         refine zqp ?_
         refine z_q rfl rfl (K6 rfl rfl rfl) rfl rfl rfl rfl rfl rfl ?_
         refine zqp ?_
         refine KQ (j := 56) (b' := true) rfl hs422 ?_
         iterate 14 refine zK ?_
         refine z_q rfl rfl (Kaz rfl rfl rfl) rfl rfl rfl rfl rfl rfl ?_
         refine zqp ?_
         iterate 13 refine zK ?_
         refine z_q rfl rfl (Kaz rfl rfl rfl) rfl rfl rfl rfl rfl rfl ?_
         refine zqp ?_
         iterate 13 refine zK ?_
         refine z_q rfl rfl (Kaz rfl rfl rfl) rfl rfl rfl rfl rfl rfl ?_
         refine zqp ?_
         iterate 11 refine zK ?_
         refine z_nil rfl rfl (fun e he => by simp [isAl] at he) ?_
         refine pK ?_
         refine pK ?_
         refine Kac rfl rfl rfl rfl rfl rfl ?_
         refine Kv ?_
         have e413 := Kj hm; subst e413
         refine ⟨rfl, ?_⟩
         exact WkX.of () (WkS.perm (WkS.cons rfl (Wk.refl _) (WkS.cons rfl (Wk.refl _) (WkS.cons rfl (Wk.refl _) (WkS.cons rfl (Wk.refl _) (WkS.cons rfl (Wk.refl _) (WkS.nil)))))) Pf Pf)
        ·replace hm := yes_f hs422 hm
         refine bycB a2 (fun hs423 => ?_) (fun hs423 => ?_)
         ·replace hm := yes_t hs423 hm
          obtain ⟨x424, q424, hm⟩ := Kc hm
          obtain ⟨x425, q425, hm⟩ := Kc hm
          refine bycB (x424.gAt != x425.gAt) (fun hs426 => ?_) (fun hs426 => ?_)
          ·replace hm := yes_t hs426 hm
           refine Kaf 95 [] nlSz1_12 [0,2,3,5,7,8,12,14,15,17,19,20,25,27,28,30,32,33,40,42,43,45,47,48] KcI (by kernel_rfl) (by kernel_rfl) (by kernel_rfl) (by rfl) (by rfl) (by kernel_rfl) ?_
           iterate 24 apply Exists.intro
           intro bs
           refine zep ?_
           refine zqp ?_
           refine z_e rfl rfl (Ex.wk (KE htab rfl rfl rfl rfl rfl rfl rfl (Kf q414) (Kl q414)) (Wk.of_eq (congrArg D.el (Kp x414)))) rfl rfl rfl rfl rfl rfl ?_
           refine zep ?_
           refine z_qM rfl rfl (Ko htab rfl rfl rfl rfl rfl) rfl rfl rfl rfl rfl rfl ?_
           refine zep ?_
           refine zqp ?_
           refine z_e rfl rfl (Ex.wk (KE htab rfl rfl rfl rfl rfl rfl rfl (Kf q415) (Kl q415)) (Wk.of_eq (congrArg D.el (Kp x415)))) rfl rfl rfl rfl rfl rfl ?_
           refine zep ?_
           refine z_qM rfl rfl (Ko htab rfl rfl rfl rfl rfl) rfl rfl rfl rfl rfl rfl ?_
           refine zqp ?_
           refine zqp ?_
           refine KQ (j := 30) (b' := false) rfl hs416 ?_
           refine zep ?_
           refine zqp ?_
           refine z_e rfl rfl (Ex.wk (KE htab rfl rfl rfl rfl rfl rfl rfl (Kf q417) (Kl q417)) (Wk.of_eq (congrArg D.el (Kp x417)))) rfl rfl rfl rfl rfl rfl ?_
           refine zep ?_
           refine z_qM rfl rfl (Ko htab rfl rfl rfl rfl rfl) rfl rfl rfl rfl rfl rfl ?_
           refine zep ?_
           refine zqp ?_
           refine z_e rfl rfl (Ex.wk (KE htab rfl rfl rfl rfl rfl rfl rfl (Kf q418) (Kl q418)) (Wk.of_eq (congrArg D.el (Kp x418)))) rfl rfl rfl rfl rfl rfl ?_
           refine zep ?_
           refine z_qM rfl rfl (Ko htab rfl rfl rfl rfl rfl) rfl rfl rfl rfl rfl rfl ?_
           refine zqp ?_
           refine z_q rfl rfl (K6 rfl rfl rfl) rfl rfl rfl rfl rfl rfl ?_
           refine zqp ?_
           refine KQ (j := 43) (b' := false) rfl hs419 ?_
           refine zep ?_
           refine zqp ?_
           refine z_e rfl rfl (Ex.wk (KE htab rfl rfl rfl rfl rfl rfl rfl (Kf q420) (Kl q420)) (Wk.of_eq (congrArg D.el (Kp x420)))) rfl rfl rfl rfl rfl rfl ?_
           refine zep ?_
           refine z_qM rfl rfl (Ko htab rfl rfl rfl rfl rfl) rfl rfl rfl rfl rfl rfl ?_
           refine zep ?_
           refine zqp ?_
           refine z_e rfl rfl (Ex.wk (KE htab rfl rfl rfl rfl rfl rfl rfl (Kf q421) (Kl q421)) (Wk.of_eq (congrArg D.el (Kp x421)))) rfl rfl rfl rfl rfl rfl ?_
           refine zep ?_
           refine z_qM rfl rfl (Ko htab rfl rfl rfl rfl rfl) rfl rfl rfl rfl rfl rfl ?_
           refine zqp ?_
           refine z_q rfl rfl (K6 rfl rfl rfl) rfl rfl rfl rfl rfl rfl ?_
           refine zqp ?_
           refine KQ (j := 56) (b' := false) rfl hs422 ?_
           refine zqp ?_
           refine zqp ?_
           refine KQ (j := 58) (b' := true) rfl hs423 ?_
           refine zep ?_
           refine zqp ?_
           refine z_e rfl rfl (Ex.wk (KE htab rfl rfl rfl rfl rfl rfl rfl (Kf q424) (Kl q424)) (Wk.of_eq (congrArg D.el (Kp x424)))) rfl rfl rfl rfl rfl rfl ?_
           refine zep ?_
           refine z_qM rfl rfl (Ko htab rfl rfl rfl rfl rfl) rfl rfl rfl rfl rfl rfl ?_
           refine zep ?_
           refine zqp ?_
           refine z_e rfl rfl (Ex.wk (KE htab rfl rfl rfl rfl rfl rfl rfl (Kf q425) (Kl q425)) (Wk.of_eq (congrArg D.el (Kp x425)))) rfl rfl rfl rfl rfl rfl ?_
           refine zep ?_
           refine z_qM rfl rfl (Ko htab rfl rfl rfl rfl rfl) rfl rfl rfl rfl rfl rfl ?_
           refine zqp ?_
           refine z_q rfl rfl (Kaz rfl rfl rfl) rfl rfl rfl rfl rfl rfl ?_
           refine z_q rfl rfl (K6 rfl rfl rfl) rfl rfl rfl rfl rfl rfl ?_
           refine zqp ?_
           refine KQ (j := 72) (b' := true) rfl hs426 ?_
           iterate 13 refine zK ?_
           refine z_q rfl rfl (Kaz rfl rfl rfl) rfl rfl rfl rfl rfl rfl ?_
           refine zqp ?_
           iterate 13 refine zK ?_
           refine z_q rfl rfl (Kaz rfl rfl rfl) rfl rfl rfl rfl rfl rfl ?_
           refine zqp ?_
           iterate 11 refine zK ?_
           refine z_nil rfl rfl (fun e he => by simp [isAl] at he) ?_
           refine pK ?_
           refine pK ?_
           refine Kac rfl rfl rfl rfl rfl rfl ?_
           refine Kv ?_
           have e413 := Kj hm; subst e413
           refine ⟨rfl, ?_⟩
           exact WkX.of () (WkS.perm (WkS.cons rfl (Wk.refl _) (WkS.cons rfl (Wk.refl _) (WkS.cons rfl (Wk.refl _) (WkS.cons rfl (Wk.refl _) (WkS.cons rfl (Wk.refl _) (WkS.nil)))))) Pf Pf)
          ·replace hm := yes_f hs426 hm
           obtain ⟨x427, q427, hm⟩ := Kc hm
           obtain ⟨x428, q428, hm⟩ := Kc hm
           obtain ⟨x429, q429, hm⟩ := Kc hm
           refine bycB (!x429) (fun hs430 => ?_) (fun hs430 => ?_)
           ·replace hm := yes_t hs430 hm
            refine Kaf 95 [] nlSz1_13 [0,2,3,5,7,8,12,14,15,17,19,20,25,27,28,30,32,33,40,42,43,45,47,48,54,56,57,58,59,61,62,63,65] KcI (by kernel_rfl) (by kernel_rfl) (by kernel_rfl) (by rfl) (by rfl) (by kernel_rfl) ?_
            iterate 33 apply Exists.intro
            intro bs
            refine zep ?_
            refine zqp ?_
            refine z_e rfl rfl (Ex.wk (KE htab rfl rfl rfl rfl rfl rfl rfl (Kf q414) (Kl q414)) (Wk.of_eq (congrArg D.el (Kp x414)))) rfl rfl rfl rfl rfl rfl ?_
            refine zep ?_
            refine z_qM rfl rfl (Ko htab rfl rfl rfl rfl rfl) rfl rfl rfl rfl rfl rfl ?_
            refine zep ?_
            refine zqp ?_
            refine z_e rfl rfl (Ex.wk (KE htab rfl rfl rfl rfl rfl rfl rfl (Kf q415) (Kl q415)) (Wk.of_eq (congrArg D.el (Kp x415)))) rfl rfl rfl rfl rfl rfl ?_
            refine zep ?_
            refine z_qM rfl rfl (Ko htab rfl rfl rfl rfl rfl) rfl rfl rfl rfl rfl rfl ?_
            refine zqp ?_
            refine zqp ?_
            refine KQ (j := 30) (b' := false) rfl hs416 ?_
            refine zep ?_
            refine zqp ?_
            refine z_e rfl rfl (Ex.wk (KE htab rfl rfl rfl rfl rfl rfl rfl (Kf q417) (Kl q417)) (Wk.of_eq (congrArg D.el (Kp x417)))) rfl rfl rfl rfl rfl rfl ?_
            refine zep ?_
            refine z_qM rfl rfl (Ko htab rfl rfl rfl rfl rfl) rfl rfl rfl rfl rfl rfl ?_
            refine zep ?_
            refine zqp ?_
            refine z_e rfl rfl (Ex.wk (KE htab rfl rfl rfl rfl rfl rfl rfl (Kf q418) (Kl q418)) (Wk.of_eq (congrArg D.el (Kp x418)))) rfl rfl rfl rfl rfl rfl ?_
            refine zep ?_
            refine z_qM rfl rfl (Ko htab rfl rfl rfl rfl rfl) rfl rfl rfl rfl rfl rfl ?_
            refine zqp ?_
            refine z_q rfl rfl (K6 rfl rfl rfl) rfl rfl rfl rfl rfl rfl ?_
            refine zqp ?_
            refine KQ (j := 43) (b' := false) rfl hs419 ?_
            refine zep ?_
            refine zqp ?_
            refine z_e rfl rfl (Ex.wk (KE htab rfl rfl rfl rfl rfl rfl rfl (Kf q420) (Kl q420)) (Wk.of_eq (congrArg D.el (Kp x420)))) rfl rfl rfl rfl rfl rfl ?_
            refine zep ?_
            refine z_qM rfl rfl (Ko htab rfl rfl rfl rfl rfl) rfl rfl rfl rfl rfl rfl ?_
            refine zep ?_
            refine zqp ?_
            refine z_e rfl rfl (Ex.wk (KE htab rfl rfl rfl rfl rfl rfl rfl (Kf q421) (Kl q421)) (Wk.of_eq (congrArg D.el (Kp x421)))) rfl rfl rfl rfl rfl rfl ?_
            refine zep ?_
            refine z_qM rfl rfl (Ko htab rfl rfl rfl rfl rfl) rfl rfl rfl rfl rfl rfl ?_
            refine zqp ?_
            refine z_q rfl rfl (K6 rfl rfl rfl) rfl rfl rfl rfl rfl rfl ?_
            refine zqp ?_
            refine KQ (j := 56) (b' := false) rfl hs422 ?_
            refine zqp ?_
            refine zqp ?_
            refine KQ (j := 58) (b' := true) rfl hs423 ?_
            refine zep ?_
            refine zqp ?_
            refine z_e rfl rfl (Ex.wk (KE htab rfl rfl rfl rfl rfl rfl rfl (Kf q424) (Kl q424)) (Wk.of_eq (congrArg D.el (Kp x424)))) rfl rfl rfl rfl rfl rfl ?_
            refine zep ?_
            refine z_qM rfl rfl (Ko htab rfl rfl rfl rfl rfl) rfl rfl rfl rfl rfl rfl ?_
            refine zep ?_
            refine zqp ?_
            refine z_e rfl rfl (Ex.wk (KE htab rfl rfl rfl rfl rfl rfl rfl (Kf q425) (Kl q425)) (Wk.of_eq (congrArg D.el (Kp x425)))) rfl rfl rfl rfl rfl rfl ?_
            refine zep ?_
            refine z_qM rfl rfl (Ko htab rfl rfl rfl rfl rfl) rfl rfl rfl rfl rfl rfl ?_
            refine zqp ?_
            refine z_q rfl rfl (Kaz rfl rfl rfl) rfl rfl rfl rfl rfl rfl ?_
            refine z_q rfl rfl (K6 rfl rfl rfl) rfl rfl rfl rfl rfl rfl ?_
            refine zqp ?_
            refine KQ (j := 72) (b' := false) rfl hs426 ?_
            refine zep ?_
            refine zqp ?_
            refine z_e rfl rfl (Ex.wk (KE htab rfl rfl rfl rfl rfl rfl rfl (Kf q427) (Kl q427)) (Wk.of_eq (congrArg D.el (Kp x427)))) rfl rfl rfl rfl rfl rfl ?_
            refine zep ?_
            refine z_eM rfl rfl (Ko htab rfl rfl rfl rfl rfl) rfl rfl rfl rfl rfl rfl ?_
            refine zep ?_
            refine zqp ?_
            refine z_e rfl rfl (Ex.wk (KE htab rfl rfl rfl rfl rfl rfl rfl (Kf q428) (Kl q428)) (Wk.of_eq (congrArg D.el (Kp x428)))) rfl rfl rfl rfl rfl rfl ?_
            refine zep ?_
            refine z_eM rfl rfl (Ko htab rfl rfl rfl rfl rfl) rfl rfl rfl rfl rfl rfl ?_
            refine zqp ?_
            refine KbC rfl rfl (KcH x427.gExps x428.gExps a2 x429 q429) rfl rfl Wl rfl rfl rfl rfl rfl rfl ?_
            refine zqp ?_
            refine z_q rfl rfl (K6 rfl rfl rfl) rfl rfl rfl rfl rfl rfl ?_
            refine zqp ?_
            refine KQ (j := 87) (b' := true) rfl hs430 ?_
            iterate 13 refine zK ?_
            refine z_q rfl rfl (Kaz rfl rfl rfl) rfl rfl rfl rfl rfl rfl ?_
            refine zqp ?_
            iterate 11 refine zK ?_
            refine z_nil rfl rfl (fun e he => by simp [isAl] at he) ?_
            refine pK ?_
            refine pK ?_
            refine Kac rfl rfl rfl rfl rfl rfl ?_
            refine Kv ?_
            have e413 := Kj hm; subst e413
            refine ⟨rfl, ?_⟩
            exact WkX.of () (WkS.perm (WkS.cons rfl (Wk.refl _) (WkS.cons rfl (Wk.refl _) (WkS.cons rfl (Wk.refl _) (WkS.cons rfl (Wk.refl _) (WkS.cons rfl (Wk.refl _) (WkS.nil)))))) Pf Pf)
           ·replace hm := yes_f hs430 hm
            obtain ⟨x431, q431, hm⟩ := Kc hm
            obtain ⟨x432, q432, hm⟩ := Kc hm
            obtain ⟨x433, q433, hm⟩ := Kc hm
            refine bycB (!x433) (fun hs434 => ?_) (fun hs434 => ?_)
            ·replace hm := yes_t hs434 hm
             refine Kaf 95 [] nlSz1_14 [0,2,3,5,7,8,12,14,15,17,19,20,25,27,28,30,32,33,40,42,43,45,47,48,54,56,57,58,59,61,62,63,65,69,71,72,73,74,76,77,78,80] KcI (by kernel_rfl) (by kernel_rfl) (by kernel_rfl) (by rfl) (by rfl) (by kernel_rfl) ?_
             iterate 42 apply Exists.intro
             intro bs
             refine zep ?_
             refine zqp ?_
             refine z_e rfl rfl (Ex.wk (KE htab rfl rfl rfl rfl rfl rfl rfl (Kf q414) (Kl q414)) (Wk.of_eq (congrArg D.el (Kp x414)))) rfl rfl rfl rfl rfl rfl ?_
             refine zep ?_
             refine z_qM rfl rfl (Ko htab rfl rfl rfl rfl rfl) rfl rfl rfl rfl rfl rfl ?_
             refine zep ?_
             refine zqp ?_
             refine z_e rfl rfl (Ex.wk (KE htab rfl rfl rfl rfl rfl rfl rfl (Kf q415) (Kl q415)) (Wk.of_eq (congrArg D.el (Kp x415)))) rfl rfl rfl rfl rfl rfl ?_
             refine zep ?_
             refine z_qM rfl rfl (Ko htab rfl rfl rfl rfl rfl) rfl rfl rfl rfl rfl rfl ?_
             refine zqp ?_
             refine zqp ?_
             refine KQ (j := 30) (b' := false) rfl hs416 ?_
             refine zep ?_
             refine zqp ?_
             refine z_e rfl rfl (Ex.wk (KE htab rfl rfl rfl rfl rfl rfl rfl (Kf q417) (Kl q417)) (Wk.of_eq (congrArg D.el (Kp x417)))) rfl rfl rfl rfl rfl rfl ?_
             refine zep ?_
             refine z_qM rfl rfl (Ko htab rfl rfl rfl rfl rfl) rfl rfl rfl rfl rfl rfl ?_
             refine zep ?_
             refine zqp ?_
             refine z_e rfl rfl (Ex.wk (KE htab rfl rfl rfl rfl rfl rfl rfl (Kf q418) (Kl q418)) (Wk.of_eq (congrArg D.el (Kp x418)))) rfl rfl rfl rfl rfl rfl ?_
             refine zep ?_
             refine z_qM rfl rfl (Ko htab rfl rfl rfl rfl rfl) rfl rfl rfl rfl rfl rfl ?_
             refine zqp ?_
             refine z_q rfl rfl (K6 rfl rfl rfl) rfl rfl rfl rfl rfl rfl ?_
             refine zqp ?_
             refine KQ (j := 43) (b' := false) rfl hs419 ?_
             refine zep ?_
             refine zqp ?_
             refine z_e rfl rfl (Ex.wk (KE htab rfl rfl rfl rfl rfl rfl rfl (Kf q420) (Kl q420)) (Wk.of_eq (congrArg D.el (Kp x420)))) rfl rfl rfl rfl rfl rfl ?_
             refine zep ?_
             refine z_qM rfl rfl (Ko htab rfl rfl rfl rfl rfl) rfl rfl rfl rfl rfl rfl ?_
             refine zep ?_
             refine zqp ?_
             refine z_e rfl rfl (Ex.wk (KE htab rfl rfl rfl rfl rfl rfl rfl (Kf q421) (Kl q421)) (Wk.of_eq (congrArg D.el (Kp x421)))) rfl rfl rfl rfl rfl rfl ?_
             refine zep ?_
             refine z_qM rfl rfl (Ko htab rfl rfl rfl rfl rfl) rfl rfl rfl rfl rfl rfl ?_
             refine zqp ?_
             refine z_q rfl rfl (K6 rfl rfl rfl) rfl rfl rfl rfl rfl rfl ?_
             refine zqp ?_
             refine KQ (j := 56) (b' := false) rfl hs422 ?_
             refine zqp ?_
             refine zqp ?_
             refine KQ (j := 58) (b' := true) rfl hs423 ?_
             refine zep ?_
             refine zqp ?_
             refine z_e rfl rfl (Ex.wk (KE htab rfl rfl rfl rfl rfl rfl rfl (Kf q424) (Kl q424)) (Wk.of_eq (congrArg D.el (Kp x424)))) rfl rfl rfl rfl rfl rfl ?_
             refine zep ?_
             refine z_qM rfl rfl (Ko htab rfl rfl rfl rfl rfl) rfl rfl rfl rfl rfl rfl ?_
             refine zep ?_
             refine zqp ?_
             refine z_e rfl rfl (Ex.wk (KE htab rfl rfl rfl rfl rfl rfl rfl (Kf q425) (Kl q425)) (Wk.of_eq (congrArg D.el (Kp x425)))) rfl rfl rfl rfl rfl rfl ?_
             refine zep ?_
             refine z_qM rfl rfl (Ko htab rfl rfl rfl rfl rfl) rfl rfl rfl rfl rfl rfl ?_
             refine zqp ?_
             refine z_q rfl rfl (Kaz rfl rfl rfl) rfl rfl rfl rfl rfl rfl ?_
             refine z_q rfl rfl (K6 rfl rfl rfl) rfl rfl rfl rfl rfl rfl ?_
             refine zqp ?_
             refine KQ (j := 72) (b' := false) rfl hs426 ?_
             refine zep ?_
             refine zqp ?_
             refine z_e rfl rfl (Ex.wk (KE htab rfl rfl rfl rfl rfl rfl rfl (Kf q427) (Kl q427)) (Wk.of_eq (congrArg D.el (Kp x427)))) rfl rfl rfl rfl rfl rfl ?_
             refine zep ?_
             refine z_eM rfl rfl (Ko htab rfl rfl rfl rfl rfl) rfl rfl rfl rfl rfl rfl ?_
             refine zep ?_
             refine zqp ?_
             refine z_e rfl rfl (Ex.wk (KE htab rfl rfl rfl rfl rfl rfl rfl (Kf q428) (Kl q428)) (Wk.of_eq (congrArg D.el (Kp x428)))) rfl rfl rfl rfl rfl rfl ?_
             refine zep ?_
             refine z_eM rfl rfl (Ko htab rfl rfl rfl rfl rfl) rfl rfl rfl rfl rfl rfl ?_
             refine zqp ?_
             refine KbC rfl rfl (KcH x427.gExps x428.gExps a2 x429 q429) rfl rfl Wl rfl rfl rfl rfl rfl rfl ?_
             refine zqp ?_
             refine z_q rfl rfl (K6 rfl rfl rfl) rfl rfl rfl rfl rfl rfl ?_
             refine zqp ?_
             refine KQ (j := 87) (b' := false) rfl hs430 ?_
             refine zep ?_
             refine zqp ?_
             refine z_e rfl rfl (Ex.wk (KE htab rfl rfl rfl rfl rfl rfl rfl (Kf q431) (Kl q431)) (Wk.of_eq (congrArg D.el (Kp x431)))) rfl rfl rfl rfl rfl rfl ?_
             refine zep ?_
             refine z_eM rfl rfl (Ko htab rfl rfl rfl rfl rfl) rfl rfl rfl rfl rfl rfl ?_
             refine zep ?_
             refine zqp ?_
             refine z_e rfl rfl (Ex.wk (KE htab rfl rfl rfl rfl rfl rfl rfl (Kf q432) (Kl q432)) (Wk.of_eq (congrArg D.el (Kp x432)))) rfl rfl rfl rfl rfl rfl ?_
             refine zep ?_
             refine z_eM rfl rfl (Ko htab rfl rfl rfl rfl rfl) rfl rfl rfl rfl rfl rfl ?_
             refine zqp ?_
             refine KbC rfl rfl (hg0 x431.gKids x432.gKids a2 x433 q433) rfl rfl Wl rfl rfl rfl rfl rfl rfl ?_
             refine zqp ?_
             refine z_q rfl rfl (K6 rfl rfl rfl) rfl rfl rfl rfl rfl rfl ?_
             refine zqp ?_
             refine KQ (j := 102) (b' := true) rfl hs434 ?_
             iterate 11 refine zK ?_
             refine z_nil rfl rfl (fun e he => by simp [isAl] at he) ?_
             refine pK ?_
             refine pK ?_
             refine Kac rfl rfl rfl rfl rfl rfl ?_
             refine Kv ?_
             have e413 := Kj hm; subst e413
             refine ⟨rfl, ?_⟩
             exact WkX.of () (WkS.perm (WkS.cons rfl (Wk.refl _) (WkS.cons rfl (Wk.refl _) (WkS.cons rfl (Wk.refl _) (WkS.cons rfl (Wk.refl _) (WkS.cons rfl (Wk.refl _) (WkS.nil)))))) Pf Pf)
            ·replace hm := yes_f hs434 hm
             obtain ⟨x435, q435, hm⟩ := Kc hm
             obtain ⟨x436, q436, hm⟩ := Kc hm
             refine Kaf 95 [] nlSz1_15 [0,2,3,5,7,8,12,14,15,17,19,20,25,27,28,30,32,33,40,42,43,45,47,48,54,56,57,58,59,61,62,63,65,69,71,72,73,74,76,77,78,80,84,86,87,88,89,91,92,93] KcI (by kernel_rfl) (by kernel_rfl) (by kernel_rfl) (by rfl) (by rfl) (by kernel_rfl) ?_
             iterate 50 apply Exists.intro
             intro bs
             refine zep ?_
             refine zqp ?_
             refine z_e rfl rfl (Ex.wk (KE htab rfl rfl rfl rfl rfl rfl rfl (Kf q414) (Kl q414)) (Wk.of_eq (congrArg D.el (Kp x414)))) rfl rfl rfl rfl rfl rfl ?_
             refine zep ?_
             refine z_qM rfl rfl (Ko htab rfl rfl rfl rfl rfl) rfl rfl rfl rfl rfl rfl ?_
             refine zep ?_
             refine zqp ?_
             refine z_e rfl rfl (Ex.wk (KE htab rfl rfl rfl rfl rfl rfl rfl (Kf q415) (Kl q415)) (Wk.of_eq (congrArg D.el (Kp x415)))) rfl rfl rfl rfl rfl rfl ?_
             refine zep ?_
             refine z_qM rfl rfl (Ko htab rfl rfl rfl rfl rfl) rfl rfl rfl rfl rfl rfl ?_
             refine zqp ?_
             refine zqp ?_
             refine KQ (j := 30) (b' := false) rfl hs416 ?_
             refine zep ?_
             refine zqp ?_
             refine z_e rfl rfl (Ex.wk (KE htab rfl rfl rfl rfl rfl rfl rfl (Kf q417) (Kl q417)) (Wk.of_eq (congrArg D.el (Kp x417)))) rfl rfl rfl rfl rfl rfl ?_
             refine zep ?_
             refine z_qM rfl rfl (Ko htab rfl rfl rfl rfl rfl) rfl rfl rfl rfl rfl rfl ?_
             refine zep ?_
             refine zqp ?_
             refine z_e rfl rfl (Ex.wk (KE htab rfl rfl rfl rfl rfl rfl rfl (Kf q418) (Kl q418)) (Wk.of_eq (congrArg D.el (Kp x418)))) rfl rfl rfl rfl rfl rfl ?_
             refine zep ?_
             refine z_qM rfl rfl (Ko htab rfl rfl rfl rfl rfl) rfl rfl rfl rfl rfl rfl ?_
             refine zqp ?_
             refine z_q rfl rfl (K6 rfl rfl rfl) rfl rfl rfl rfl rfl rfl ?_
             refine zqp ?_
             refine KQ (j := 43) (b' := false) rfl hs419 ?_
             refine zep ?_
             refine zqp ?_
             refine z_e rfl rfl (Ex.wk (KE htab rfl rfl rfl rfl rfl rfl rfl (Kf q420) (Kl q420)) (Wk.of_eq (congrArg D.el (Kp x420)))) rfl rfl rfl rfl rfl rfl ?_
             refine zep ?_
             refine z_qM rfl rfl (Ko htab rfl rfl rfl rfl rfl) rfl rfl rfl rfl rfl rfl ?_
             refine zep ?_
             refine zqp ?_
             refine z_e rfl rfl (Ex.wk (KE htab rfl rfl rfl rfl rfl rfl rfl (Kf q421) (Kl q421)) (Wk.of_eq (congrArg D.el (Kp x421)))) rfl rfl rfl rfl rfl rfl ?_
             refine zep ?_
             refine z_qM rfl rfl (Ko htab rfl rfl rfl rfl rfl) rfl rfl rfl rfl rfl rfl ?_
             refine zqp ?_
             refine z_q rfl rfl (K6 rfl rfl rfl) rfl rfl rfl rfl rfl rfl ?_
             refine zqp ?_
             refine KQ (j := 56) (b' := false) rfl hs422 ?_
             refine zqp ?_
             refine zqp ?_
             refine KQ (j := 58) (b' := true) rfl hs423 ?_
             refine zep ?_
             refine zqp ?_
             refine z_e rfl rfl (Ex.wk (KE htab rfl rfl rfl rfl rfl rfl rfl (Kf q424) (Kl q424)) (Wk.of_eq (congrArg D.el (Kp x424)))) rfl rfl rfl rfl rfl rfl ?_
             refine zep ?_
             refine z_qM rfl rfl (Ko htab rfl rfl rfl rfl rfl) rfl rfl rfl rfl rfl rfl ?_
             refine zep ?_
             refine zqp ?_
             refine z_e rfl rfl (Ex.wk (KE htab rfl rfl rfl rfl rfl rfl rfl (Kf q425) (Kl q425)) (Wk.of_eq (congrArg D.el (Kp x425)))) rfl rfl rfl rfl rfl rfl ?_
             refine zep ?_
             refine z_qM rfl rfl (Ko htab rfl rfl rfl rfl rfl) rfl rfl rfl rfl rfl rfl ?_
             refine zqp ?_
             refine z_q rfl rfl (Kaz rfl rfl rfl) rfl rfl rfl rfl rfl rfl ?_
             refine z_q rfl rfl (K6 rfl rfl rfl) rfl rfl rfl rfl rfl rfl ?_
             refine zqp ?_
             refine KQ (j := 72) (b' := false) rfl hs426 ?_
             refine zep ?_
             refine zqp ?_
             refine z_e rfl rfl (Ex.wk (KE htab rfl rfl rfl rfl rfl rfl rfl (Kf q427) (Kl q427)) (Wk.of_eq (congrArg D.el (Kp x427)))) rfl rfl rfl rfl rfl rfl ?_
             refine zep ?_
             refine z_eM rfl rfl (Ko htab rfl rfl rfl rfl rfl) rfl rfl rfl rfl rfl rfl ?_
             refine zep ?_
             refine zqp ?_
             refine z_e rfl rfl (Ex.wk (KE htab rfl rfl rfl rfl rfl rfl rfl (Kf q428) (Kl q428)) (Wk.of_eq (congrArg D.el (Kp x428)))) rfl rfl rfl rfl rfl rfl ?_
             refine zep ?_
             refine z_eM rfl rfl (Ko htab rfl rfl rfl rfl rfl) rfl rfl rfl rfl rfl rfl ?_
             refine zqp ?_
             refine KbC rfl rfl (KcH x427.gExps x428.gExps a2 x429 q429) rfl rfl Wl rfl rfl rfl rfl rfl rfl ?_
             refine zqp ?_
             refine z_q rfl rfl (K6 rfl rfl rfl) rfl rfl rfl rfl rfl rfl ?_
             refine zqp ?_
             refine KQ (j := 87) (b' := false) rfl hs430 ?_
             refine zep ?_
             refine zqp ?_
             refine z_e rfl rfl (Ex.wk (KE htab rfl rfl rfl rfl rfl rfl rfl (Kf q431) (Kl q431)) (Wk.of_eq (congrArg D.el (Kp x431)))) rfl rfl rfl rfl rfl rfl ?_
             refine zep ?_
             refine z_eM rfl rfl (Ko htab rfl rfl rfl rfl rfl) rfl rfl rfl rfl rfl rfl ?_
             refine zep ?_
             refine zqp ?_
             refine z_e rfl rfl (Ex.wk (KE htab rfl rfl rfl rfl rfl rfl rfl (Kf q432) (Kl q432)) (Wk.of_eq (congrArg D.el (Kp x432)))) rfl rfl rfl rfl rfl rfl ?_
             refine zep ?_
             refine z_eM rfl rfl (Ko htab rfl rfl rfl rfl rfl) rfl rfl rfl rfl rfl rfl ?_
             refine zqp ?_
             refine KbC rfl rfl (hg0 x431.gKids x432.gKids a2 x433 q433) rfl rfl Wl rfl rfl rfl rfl rfl rfl ?_
             refine zqp ?_
             refine z_q rfl rfl (K6 rfl rfl rfl) rfl rfl rfl rfl rfl rfl ?_
             refine zqp ?_
             refine KQ (j := 102) (b' := false) rfl hs434 ?_
             refine zep ?_
             refine zqp ?_
             refine z_e rfl rfl (Ex.wk (KE htab rfl rfl rfl rfl rfl rfl rfl (Kf q435) (Kl q435)) (Wk.of_eq (congrArg D.el (Kp x435)))) rfl rfl rfl rfl rfl rfl ?_
             refine zep ?_
             refine z_eM rfl rfl (Ko htab rfl rfl rfl rfl rfl) rfl rfl rfl rfl rfl rfl ?_
             refine zep ?_
             refine zqp ?_
             refine z_e rfl rfl (Ex.wk (KE htab rfl rfl rfl rfl rfl rfl rfl (Kf q436) (Kl q436)) (Wk.of_eq (congrArg D.el (Kp x436)))) rfl rfl rfl rfl rfl rfl ?_
             refine zep ?_
             refine z_eM rfl rfl (Ko htab rfl rfl rfl rfl rfl) rfl rfl rfl rfl rfl rfl ?_
             refine zqp ?_
             refine z_nil rfl rfl (fun e he => by simp [isAl] at he) ?_
             obtain ⟨x437, q437, hm⟩ := Kc hm
             refine Kai (hg0 x435.gElse x436.gElse a2 x437 q437) rfl rfl rfl rfl rfl Wl ?_
             rintro _ rfl
             refine pu ?_
             refine K8 rfl rfl rfl rfl rfl rfl ?_
             refine Kv ?_
             have e413 := Kj hm; subst e413
             refine ⟨rfl, ?_⟩
             exact WkX.of () (WkS.perm (WkS.cons rfl (Wk.refl _) (WkS.cons rfl (Wk.refl _) (WkS.cons rfl (Wk.refl _) (WkS.cons rfl (Wk.refl _) (WkS.cons rfl (Wk.refl _) (WkS.nil)))))) Pf Pf)
         ·replace hm := yes_f hs423 hm
          obtain ⟨x438, q438, hm⟩ := Kc hm
          obtain ⟨x439, q439, hm⟩ := Kc hm
          obtain ⟨x440, q440, hm⟩ := Kc hm
          refine bycB (!x440) (fun hs441 => ?_) (fun hs441 => ?_)
          ·replace hm := yes_t hs441 hm
           refine Kaf 95 [] nlSz1_16 [0,2,3,5,7,8,12,14,15,17,19,20,25,27,28,30,32,33,54,56,57,58,59,61,62,63,65] KcI (by kernel_rfl) (by kernel_rfl) (by kernel_rfl) (by rfl) (by rfl) (by kernel_rfl) ?_
           iterate 27 apply Exists.intro
           intro bs
           refine zep ?_
           refine zqp ?_
           refine z_e rfl rfl (Ex.wk (KE htab rfl rfl rfl rfl rfl rfl rfl (Kf q414) (Kl q414)) (Wk.of_eq (congrArg D.el (Kp x414)))) rfl rfl rfl rfl rfl rfl ?_
           refine zep ?_
           refine z_qM rfl rfl (Ko htab rfl rfl rfl rfl rfl) rfl rfl rfl rfl rfl rfl ?_
           refine zep ?_
           refine zqp ?_
           refine z_e rfl rfl (Ex.wk (KE htab rfl rfl rfl rfl rfl rfl rfl (Kf q415) (Kl q415)) (Wk.of_eq (congrArg D.el (Kp x415)))) rfl rfl rfl rfl rfl rfl ?_
           refine zep ?_
           refine z_qM rfl rfl (Ko htab rfl rfl rfl rfl rfl) rfl rfl rfl rfl rfl rfl ?_
           refine zqp ?_
           refine zqp ?_
           refine KQ (j := 30) (b' := false) rfl hs416 ?_
           refine zep ?_
           refine zqp ?_
           refine z_e rfl rfl (Ex.wk (KE htab rfl rfl rfl rfl rfl rfl rfl (Kf q417) (Kl q417)) (Wk.of_eq (congrArg D.el (Kp x417)))) rfl rfl rfl rfl rfl rfl ?_
           refine zep ?_
           refine z_qM rfl rfl (Ko htab rfl rfl rfl rfl rfl) rfl rfl rfl rfl rfl rfl ?_
           refine zep ?_
           refine zqp ?_
           refine z_e rfl rfl (Ex.wk (KE htab rfl rfl rfl rfl rfl rfl rfl (Kf q418) (Kl q418)) (Wk.of_eq (congrArg D.el (Kp x418)))) rfl rfl rfl rfl rfl rfl ?_
           refine zep ?_
           refine z_qM rfl rfl (Ko htab rfl rfl rfl rfl rfl) rfl rfl rfl rfl rfl rfl ?_
           refine zqp ?_
           refine z_q rfl rfl (K6 rfl rfl rfl) rfl rfl rfl rfl rfl rfl ?_
           refine zqp ?_
           refine KQ (j := 43) (b' := false) rfl hs419 ?_
           refine zep ?_
           refine zqp ?_
           refine z_e rfl rfl (Ex.wk (KE htab rfl rfl rfl rfl rfl rfl rfl (Kf q420) (Kl q420)) (Wk.of_eq (congrArg D.el (Kp x420)))) rfl rfl rfl rfl rfl rfl ?_
           refine zep ?_
           refine z_qM rfl rfl (Ko htab rfl rfl rfl rfl rfl) rfl rfl rfl rfl rfl rfl ?_
           refine zep ?_
           refine zqp ?_
           refine z_e rfl rfl (Ex.wk (KE htab rfl rfl rfl rfl rfl rfl rfl (Kf q421) (Kl q421)) (Wk.of_eq (congrArg D.el (Kp x421)))) rfl rfl rfl rfl rfl rfl ?_
           refine zep ?_
           refine z_qM rfl rfl (Ko htab rfl rfl rfl rfl rfl) rfl rfl rfl rfl rfl rfl ?_
           refine zqp ?_
           refine z_q rfl rfl (K6 rfl rfl rfl) rfl rfl rfl rfl rfl rfl ?_
           refine zqp ?_
           refine KQ (j := 56) (b' := false) rfl hs422 ?_
           refine zqp ?_
           refine zqp ?_
           refine KQ (j := 58) (b' := false) rfl hs423 ?_
           iterate 11 refine zK ?_
           refine z_q rfl rfl (K6 rfl rfl rfl) rfl rfl rfl rfl rfl rfl ?_
           refine z_q rfl rfl (K6 rfl rfl rfl) rfl rfl rfl rfl rfl rfl ?_
           refine zqp ?_
           refine zep ?_
           refine zqp ?_
           refine z_e rfl rfl (Ex.wk (KE htab rfl rfl rfl rfl rfl rfl rfl (Kf q438) (Kl q438)) (Wk.of_eq (congrArg D.el (Kp x438)))) rfl rfl rfl rfl rfl rfl ?_
           refine zep ?_
           refine z_eM rfl rfl (Ko htab rfl rfl rfl rfl rfl) rfl rfl rfl rfl rfl rfl ?_
           refine zep ?_
           refine zqp ?_
           refine z_e rfl rfl (Ex.wk (KE htab rfl rfl rfl rfl rfl rfl rfl (Kf q439) (Kl q439)) (Wk.of_eq (congrArg D.el (Kp x439)))) rfl rfl rfl rfl rfl rfl ?_
           refine zep ?_
           refine z_eM rfl rfl (Ko htab rfl rfl rfl rfl rfl) rfl rfl rfl rfl rfl rfl ?_
           refine zqp ?_
           refine KbC rfl rfl (KcH x438.gExps x439.gExps a2 x440 q440) rfl rfl Wl rfl rfl rfl rfl rfl rfl ?_
           refine zqp ?_
           refine z_q rfl rfl (K6 rfl rfl rfl) rfl rfl rfl rfl rfl rfl ?_
           refine zqp ?_
           refine KQ (j := 87) (b' := true) rfl hs441 ?_
           iterate 13 refine zK ?_
           refine z_q rfl rfl (Kaz rfl rfl rfl) rfl rfl rfl rfl rfl rfl ?_
           refine zqp ?_
           iterate 11 refine zK ?_
           refine z_nil rfl rfl (fun e he => by simp [isAl] at he) ?_
           refine pK ?_
           refine pK ?_
           refine Kac rfl rfl rfl rfl rfl rfl ?_
           refine Kv ?_
           have e413 := Kj hm; subst e413
           refine ⟨rfl, ?_⟩
           exact WkX.of () (WkS.perm (WkS.cons rfl (Wk.refl _) (WkS.cons rfl (Wk.refl _) (WkS.cons rfl (Wk.refl _) (WkS.cons rfl (Wk.refl _) (WkS.cons rfl (Wk.refl _) (WkS.nil)))))) Pf Pf)
          ·replace hm := yes_f hs441 hm
           obtain ⟨x442, q442, hm⟩ := Kc hm
           obtain ⟨x443, q443, hm⟩ := Kc hm
           obtain ⟨x444, q444, hm⟩ := Kc hm
           refine bycB (!x444) (fun hs445 => ?_) (fun hs445 => ?_)
           ·replace hm := yes_t hs445 hm
            refine Kaf 95 [] nlSz1_17 [0,2,3,5,7,8,12,14,15,17,19,20,25,27,28,30,32,33,54,56,57,58,59,61,62,63,65,69,71,72,73,74,76,77,78,80] KcI (by kernel_rfl) (by kernel_rfl) (by kernel_rfl) (by rfl) (by rfl) (by kernel_rfl) ?_
            iterate 36 apply Exists.intro
            intro bs
            refine zep ?_
            refine zqp ?_
            refine z_e rfl rfl (Ex.wk (KE htab rfl rfl rfl rfl rfl rfl rfl (Kf q414) (Kl q414)) (Wk.of_eq (congrArg D.el (Kp x414)))) rfl rfl rfl rfl rfl rfl ?_
            refine zep ?_
            refine z_qM rfl rfl (Ko htab rfl rfl rfl rfl rfl) rfl rfl rfl rfl rfl rfl ?_
            refine zep ?_
            refine zqp ?_
            refine z_e rfl rfl (Ex.wk (KE htab rfl rfl rfl rfl rfl rfl rfl (Kf q415) (Kl q415)) (Wk.of_eq (congrArg D.el (Kp x415)))) rfl rfl rfl rfl rfl rfl ?_
            refine zep ?_
            refine z_qM rfl rfl (Ko htab rfl rfl rfl rfl rfl) rfl rfl rfl rfl rfl rfl ?_
            refine zqp ?_
            refine zqp ?_
            refine KQ (j := 30) (b' := false) rfl hs416 ?_
            refine zep ?_
            refine zqp ?_
            refine z_e rfl rfl (Ex.wk (KE htab rfl rfl rfl rfl rfl rfl rfl (Kf q417) (Kl q417)) (Wk.of_eq (congrArg D.el (Kp x417)))) rfl rfl rfl rfl rfl rfl ?_
            refine zep ?_
            refine z_qM rfl rfl (Ko htab rfl rfl rfl rfl rfl) rfl rfl rfl rfl rfl rfl ?_
            refine zep ?_
            refine zqp ?_
            refine z_e rfl rfl (Ex.wk (KE htab rfl rfl rfl rfl rfl rfl rfl (Kf q418) (Kl q418)) (Wk.of_eq (congrArg D.el (Kp x418)))) rfl rfl rfl rfl rfl rfl ?_
            refine zep ?_
            refine z_qM rfl rfl (Ko htab rfl rfl rfl rfl rfl) rfl rfl rfl rfl rfl rfl ?_
            refine zqp ?_
            refine z_q rfl rfl (K6 rfl rfl rfl) rfl rfl rfl rfl rfl rfl ?_
            refine zqp ?_
            refine KQ (j := 43) (b' := false) rfl hs419 ?_
            refine zep ?_
            refine zqp ?_
            refine z_e rfl rfl (Ex.wk (KE htab rfl rfl rfl rfl rfl rfl rfl (Kf q420) (Kl q420)) (Wk.of_eq (congrArg D.el (Kp x420)))) rfl rfl rfl rfl rfl rfl ?_
            refine zep ?_
            refine z_qM rfl rfl (Ko htab rfl rfl rfl rfl rfl) rfl rfl rfl rfl rfl rfl ?_
            refine zep ?_
            refine zqp ?_
            refine z_e rfl rfl (Ex.wk (KE htab rfl rfl rfl rfl rfl rfl rfl (Kf q421) (Kl q421)) (Wk.of_eq (congrArg D.el (Kp x421)))) rfl rfl rfl rfl rfl rfl ?_
            refine zep ?_
            refine z_qM rfl rfl (Ko htab rfl rfl rfl rfl rfl) rfl rfl rfl rfl rfl rfl ?_
            refine zqp ?_
            refine z_q rfl rfl (K6 rfl rfl rfl) rfl rfl rfl rfl rfl rfl ?_
            refine zqp ?_
            refine KQ (j := 56) (b' := false) rfl hs422 ?_
            refine zqp ?_
            refine zqp ?_
            refine KQ (j := 58) (b' := false) rfl hs423 ?_
            iterate 11 refine zK ?_
            refine z_q rfl rfl (K6 rfl rfl rfl) rfl rfl rfl rfl rfl rfl ?_
            refine z_q rfl rfl (K6 rfl rfl rfl) rfl rfl rfl rfl rfl rfl ?_
            refine zqp ?_
            refine zep ?_
            refine zqp ?_
            refine z_e rfl rfl (Ex.wk (KE htab rfl rfl rfl rfl rfl rfl rfl (Kf q438) (Kl q438)) (Wk.of_eq (congrArg D.el (Kp x438)))) rfl rfl rfl rfl rfl rfl ?_
            refine zep ?_
            refine z_eM rfl rfl (Ko htab rfl rfl rfl rfl rfl) rfl rfl rfl rfl rfl rfl ?_
            refine zep ?_
            refine zqp ?_
            refine z_e rfl rfl (Ex.wk (KE htab rfl rfl rfl rfl rfl rfl rfl (Kf q439) (Kl q439)) (Wk.of_eq (congrArg D.el (Kp x439)))) rfl rfl rfl rfl rfl rfl ?_
            refine zep ?_
            refine z_eM rfl rfl (Ko htab rfl rfl rfl rfl rfl) rfl rfl rfl rfl rfl rfl ?_
            refine zqp ?_
            refine KbC rfl rfl (KcH x438.gExps x439.gExps a2 x440 q440) rfl rfl Wl rfl rfl rfl rfl rfl rfl ?_
            refine zqp ?_
            refine z_q rfl rfl (K6 rfl rfl rfl) rfl rfl rfl rfl rfl rfl ?_
            refine zqp ?_
            refine KQ (j := 87) (b' := false) rfl hs441 ?_
            refine zep ?_
            refine zqp ?_
            refine z_e rfl rfl (Ex.wk (KE htab rfl rfl rfl rfl rfl rfl rfl (Kf q442) (Kl q442)) (Wk.of_eq (congrArg D.el (Kp x442)))) rfl rfl rfl rfl rfl rfl ?_
            refine zep ?_
            refine z_eM rfl rfl (Ko htab rfl rfl rfl rfl rfl) rfl rfl rfl rfl rfl rfl ?_
            refine zep ?_
            refine zqp ?_
            refine z_e rfl rfl (Ex.wk (KE htab rfl rfl rfl rfl rfl rfl rfl (Kf q443) (Kl q443)) (Wk.of_eq (congrArg D.el (Kp x443)))) rfl rfl rfl rfl rfl rfl ?_
            refine zep ?_
            refine z_eM rfl rfl (Ko htab rfl rfl rfl rfl rfl) rfl rfl rfl rfl rfl rfl ?_
            refine zqp ?_
            refine KbC rfl rfl (hg0 x442.gKids x443.gKids a2 x444 q444) rfl rfl Wl rfl rfl rfl rfl rfl rfl ?_
            refine zqp ?_
            refine z_q rfl rfl (K6 rfl rfl rfl) rfl rfl rfl rfl rfl rfl ?_
            refine zqp ?_
            refine KQ (j := 102) (b' := true) rfl hs445 ?_
            iterate 11 refine zK ?_
            refine z_nil rfl rfl (fun e he => by simp [isAl] at he) ?_
            refine pK ?_
            refine pK ?_
            refine Kac rfl rfl rfl rfl rfl rfl ?_
            refine Kv ?_
            have e413 := Kj hm; subst e413
            refine ⟨rfl, ?_⟩
            exact WkX.of () (WkS.perm (WkS.cons rfl (Wk.refl _) (WkS.cons rfl (Wk.refl _) (WkS.cons rfl (Wk.refl _) (WkS.cons rfl (Wk.refl _) (WkS.cons rfl (Wk.refl _) (WkS.nil)))))) Pf Pf)
           ·replace hm := yes_f hs445 hm
            obtain ⟨x446, q446, hm⟩ := Kc hm
            obtain ⟨x447, q447, hm⟩ := Kc hm
            refine Kaf 95 [] nlSz1_18 [0,2,3,5,7,8,12,14,15,17,19,20,25,27,28,30,32,33,54,56,57,58,59,61,62,63,65,69,71,72,73,74,76,77,78,80,84,86,87,88,89,91,92,93] KcI (by kernel_rfl) (by kernel_rfl) (by kernel_rfl) (by rfl) (by rfl) (by kernel_rfl) ?_
            iterate 44 apply Exists.intro
            intro bs
            refine zep ?_
            refine zqp ?_
            refine z_e rfl rfl (Ex.wk (KE htab rfl rfl rfl rfl rfl rfl rfl (Kf q414) (Kl q414)) (Wk.of_eq (congrArg D.el (Kp x414)))) rfl rfl rfl rfl rfl rfl ?_
            refine zep ?_
            refine z_qM rfl rfl (Ko htab rfl rfl rfl rfl rfl) rfl rfl rfl rfl rfl rfl ?_
            refine zep ?_
            refine zqp ?_
            refine z_e rfl rfl (Ex.wk (KE htab rfl rfl rfl rfl rfl rfl rfl (Kf q415) (Kl q415)) (Wk.of_eq (congrArg D.el (Kp x415)))) rfl rfl rfl rfl rfl rfl ?_
            refine zep ?_
            refine z_qM rfl rfl (Ko htab rfl rfl rfl rfl rfl) rfl rfl rfl rfl rfl rfl ?_
            refine zqp ?_
            refine zqp ?_
            refine KQ (j := 30) (b' := false) rfl hs416 ?_
            refine zep ?_
            refine zqp ?_
            refine z_e rfl rfl (Ex.wk (KE htab rfl rfl rfl rfl rfl rfl rfl (Kf q417) (Kl q417)) (Wk.of_eq (congrArg D.el (Kp x417)))) rfl rfl rfl rfl rfl rfl ?_
            refine zep ?_
            refine z_qM rfl rfl (Ko htab rfl rfl rfl rfl rfl) rfl rfl rfl rfl rfl rfl ?_
            refine zep ?_
            refine zqp ?_
            refine z_e rfl rfl (Ex.wk (KE htab rfl rfl rfl rfl rfl rfl rfl (Kf q418) (Kl q418)) (Wk.of_eq (congrArg D.el (Kp x418)))) rfl rfl rfl rfl rfl rfl ?_
            refine zep ?_
            refine z_qM rfl rfl (Ko htab rfl rfl rfl rfl rfl) rfl rfl rfl rfl rfl rfl ?_
            refine zqp ?_
            refine z_q rfl rfl (K6 rfl rfl rfl) rfl rfl rfl rfl rfl rfl ?_
            refine zqp ?_
            refine KQ (j := 43) (b' := false) rfl hs419 ?_
            refine zep ?_
            refine zqp ?_
            refine z_e rfl rfl (Ex.wk (KE htab rfl rfl rfl rfl rfl rfl rfl (Kf q420) (Kl q420)) (Wk.of_eq (congrArg D.el (Kp x420)))) rfl rfl rfl rfl rfl rfl ?_
            refine zep ?_
            refine z_qM rfl rfl (Ko htab rfl rfl rfl rfl rfl) rfl rfl rfl rfl rfl rfl ?_
            refine zep ?_
            refine zqp ?_
            refine z_e rfl rfl (Ex.wk (KE htab rfl rfl rfl rfl rfl rfl rfl (Kf q421) (Kl q421)) (Wk.of_eq (congrArg D.el (Kp x421)))) rfl rfl rfl rfl rfl rfl ?_
            refine zep ?_
            refine z_qM rfl rfl (Ko htab rfl rfl rfl rfl rfl) rfl rfl rfl rfl rfl rfl ?_
            refine zqp ?_
            refine z_q rfl rfl (K6 rfl rfl rfl) rfl rfl rfl rfl rfl rfl ?_
            refine zqp ?_
            refine KQ (j := 56) (b' := false) rfl hs422 ?_
            refine zqp ?_
            refine zqp ?_
            refine KQ (j := 58) (b' := false) rfl hs423 ?_
            iterate 11 refine zK ?_
            refine z_q rfl rfl (K6 rfl rfl rfl) rfl rfl rfl rfl rfl rfl ?_
            refine z_q rfl rfl (K6 rfl rfl rfl) rfl rfl rfl rfl rfl rfl ?_
            refine zqp ?_
            refine zep ?_
            refine zqp ?_
            refine z_e rfl rfl (Ex.wk (KE htab rfl rfl rfl rfl rfl rfl rfl (Kf q438) (Kl q438)) (Wk.of_eq (congrArg D.el (Kp x438)))) rfl rfl rfl rfl rfl rfl ?_
            refine zep ?_
            refine z_eM rfl rfl (Ko htab rfl rfl rfl rfl rfl) rfl rfl rfl rfl rfl rfl ?_
            refine zep ?_
            refine zqp ?_
            refine z_e rfl rfl (Ex.wk (KE htab rfl rfl rfl rfl rfl rfl rfl (Kf q439) (Kl q439)) (Wk.of_eq (congrArg D.el (Kp x439)))) rfl rfl rfl rfl rfl rfl ?_
            refine zep ?_
            refine z_eM rfl rfl (Ko htab rfl rfl rfl rfl rfl) rfl rfl rfl rfl rfl rfl ?_
            refine zqp ?_
            refine KbC rfl rfl (KcH x438.gExps x439.gExps a2 x440 q440) rfl rfl Wl rfl rfl rfl rfl rfl rfl ?_
            refine zqp ?_
            refine z_q rfl rfl (K6 rfl rfl rfl) rfl rfl rfl rfl rfl rfl ?_
            refine zqp ?_
            refine KQ (j := 87) (b' := false) rfl hs441 ?_
            refine zep ?_
            refine zqp ?_
            refine z_e rfl rfl (Ex.wk (KE htab rfl rfl rfl rfl rfl rfl rfl (Kf q442) (Kl q442)) (Wk.of_eq (congrArg D.el (Kp x442)))) rfl rfl rfl rfl rfl rfl ?_
            refine zep ?_
            refine z_eM rfl rfl (Ko htab rfl rfl rfl rfl rfl) rfl rfl rfl rfl rfl rfl ?_
            refine zep ?_
            refine zqp ?_
            refine z_e rfl rfl (Ex.wk (KE htab rfl rfl rfl rfl rfl rfl rfl (Kf q443) (Kl q443)) (Wk.of_eq (congrArg D.el (Kp x443)))) rfl rfl rfl rfl rfl rfl ?_
            refine zep ?_
            refine z_eM rfl rfl (Ko htab rfl rfl rfl rfl rfl) rfl rfl rfl rfl rfl rfl ?_
            refine zqp ?_
            refine KbC rfl rfl (hg0 x442.gKids x443.gKids a2 x444 q444) rfl rfl Wl rfl rfl rfl rfl rfl rfl ?_
            refine zqp ?_
            refine z_q rfl rfl (K6 rfl rfl rfl) rfl rfl rfl rfl rfl rfl ?_
            refine zqp ?_
            refine KQ (j := 102) (b' := false) rfl hs445 ?_
            refine zep ?_
            refine zqp ?_
            refine z_e rfl rfl (Ex.wk (KE htab rfl rfl rfl rfl rfl rfl rfl (Kf q446) (Kl q446)) (Wk.of_eq (congrArg D.el (Kp x446)))) rfl rfl rfl rfl rfl rfl ?_
            refine zep ?_
            refine z_eM rfl rfl (Ko htab rfl rfl rfl rfl rfl) rfl rfl rfl rfl rfl rfl ?_
            refine zep ?_
            refine zqp ?_
            refine z_e rfl rfl (Ex.wk (KE htab rfl rfl rfl rfl rfl rfl rfl (Kf q447) (Kl q447)) (Wk.of_eq (congrArg D.el (Kp x447)))) rfl rfl rfl rfl rfl rfl ?_
            refine zep ?_
            refine z_eM rfl rfl (Ko htab rfl rfl rfl rfl rfl) rfl rfl rfl rfl rfl rfl ?_
            refine zqp ?_
            refine z_nil rfl rfl (fun e he => by simp [isAl] at he) ?_
            obtain ⟨x448, q448, hm⟩ := Kc hm
            refine Kai (hg0 x446.gElse x447.gElse a2 x448 q448) rfl rfl rfl rfl rfl Wl ?_
            rintro _ rfl
            refine pu ?_
            refine K8 rfl rfl rfl rfl rfl rfl ?_
            refine Kv ?_
            have e413 := Kj hm; subst e413
            refine ⟨rfl, ?_⟩
            exact WkX.of () (WkS.perm (WkS.cons rfl (Wk.refl _) (WkS.cons rfl (Wk.refl _) (WkS.cons rfl (Wk.refl _) (WkS.cons rfl (Wk.refl _) (WkS.cons rfl (Wk.refl _) (WkS.nil)))))) Pf Pf)
     ·intro s413 hw413; clear hm; have hm := ho413; clear q413 ho413
      refine Kb ?_
      refine KV hw413 (fun z413 => ?_)
      refine KA rfl (fun hc449 => ?_) (fun hc449 => ?_)
      ·replace hm := yes_t hc449 hm
       refine Kg ?_
       refine pu ?_
       refine Ke ?_
       refine KD ?_
       refine Kak ?_
       refine KS ?_
       have e228 := K0 hm; subst e228; clear hm; have hm := hq228
       refine KS ?_
       refine Kak ?_
       have e227 := Kj hm; subst e227; refine Ka4 ?_; clear hm; have hm := ho227; simp only [Sum.elim_inr] at hm
       refine KS ?_
       have er450 := Kj hm; subst er450
       refine rP (t' := [(6, .v (.bool false))]) [] [] 0 (wC wN) (lT lN) ?_
       exact ⟨rfl, rfl, rfl⟩
      ·replace hm := yes_f hc449 hm
       refine Kz ?_
       refine KJ ?_
       refine Kb ?_
       refine Kq ?_
       iterate 3 refine pu ?_
       refine Kv ?_
       refine Kb ⟨_, K1 hm, ?_⟩
       exact WkX.of () (WkS.perm (WkS.cons rfl (Wk.refl _) (WkS.cons rfl (Wk.refl _) (WkS.cons rfl (Wk.refl _) (WkS.cons rfl (Wk.refl _) (WkS.nil))))) Pf Pf)
    ·replace hm := yes_f hc377 hm
     refine K7 ?_
     refine KC ?_
     have e228 := K0 hm; subst e228; clear hm; have hm := hq228
     refine KC ?_
     refine K2 ?_
     have e227 := Kj hm; subst e227
     refine Ka3 ?_
     exact WkX.of () (WkS.perm (WkS.nil) Pf Pf)
  ·intro y227 s227 hx227 hw227; subst hx227; clear hm; have hm := ho227; simp only [Sum.elim_inl] at hm; clear q227 ho227
   refine Kb ?_
   refine KV hw227 (fun z227 => ?_)
   refine Kg ?_
   refine pu ?_
   refine Ke ?_
   refine KD ?_
   have er451 := Kj hm; subst er451
   refine rP (t' := [(6, .v (.bool true))]) [] [] 0 (wC wN) (lT lN) ?_
   exact ⟨rfl, rfl, rfl⟩
noncomputable def KaV : Nat → ((List Kh) → (List Kh) → (Bool) → Option (Bool))
 | 0 => (fun _ _ _ => none)
 | n + 1 => (KbB ((KaV n)))
theorem KeV : ∀ n, (∀ (a0 : List Kh) (a1 : List Kh) (a2 : Bool) (r : Bool) (h0 : (KaV n) a0 a1 a2 = some r), CallsD Tryz.prog 91 [.lst 7 (a0.map Ks) .no, .lst 7 (a1.map Ks) .no, .v (.bool a2)] [] [] (fun d h k => d = .v (.bool r) ∧ h = [] ∧ k = []))
  | 0 => fun _ _ _ _ h0 => by cases h0
  | n + 1 => by
    have ih := KeV n
    exact KhJ (KaV n) ih
theorem KeW : ∀ n, (∀ (a0 : List Kh) (a1 : List Kh) (a2 : Bool), Le ((KaV n) a0 a1 a2) ((KaV (n + 1)) a0 a1 a2))
  | 0 => fun _ _ _ => Le.none _
  | n + 1 => by
    have ih := KeW n
    exact fun a0 a1 a2 => by show Le (KbB ((KaV n)) a0 a1 a2) (KbB ((KaV (n + 1))) a0 a1 a2); unfold KbB; repeat (first | exact Le.refl _ | exact ih _ _ _ | assumption | (refine Le.bind ?_ (fun _ => ?_)) | (refine Le.cond ?_ ?_) | (refine Le.loop (fun _ => ?_)) | (refine Le.elim (fun _ => ?_) (fun _ => ?_)))
noncomputable def Kd0 (a0 : List Kh) (a1 : List Kh) (a2 : Bool) : Option (Bool) := anyN fun n => (KaV n) a0 a1 a2
theorem Kij (a0 : List Kh) (a1 : List Kh) (a2 : Bool) {r : Bool} (n : Nat) (h : (KaV n) a0 a1 a2 = some r) : Kd0 a0 a1 a2 = some r := Kds (fun m => (KeW m) a0 a1 a2) h
theorem Kik (a0 : List Kh) (a1 : List Kh) (a2 : Bool) (r : Bool) (h0 : Kd0 a0 a1 a2 = some r) : CallsD Tryz.prog 91 [.lst 7 (a0.map Ks) .no, .lst 7 (a1.map Ks) .no, .v (.bool a2)] [] [] (fun d h k => d = .v (.bool r) ∧ h = [] ∧ k = []) :=
 let ⟨n, hn⟩ := KcT h0; (KeV n) a0 a1 a2  r hn
noncomputable def KcY (a0 : KT) (a1 : KT) (a2 : Bool) : Option (Bool) :=
 (bif (decide (a0.gName = a1.gName)) then ((KdR a0.gParams a1.gParams).bind fun x4 => (bif x4 then ((KdR a0.gLocals a1.gLocals).bind fun x6 => (bif x6 then ((Kd0 a0.gBody a1.gBody a2).bind fun x8 => (bif x8 then (bif (!a2) then some true else some (a0.gAt == a1.gAt)) else some false)) else some false)) else some false)) else some false)
theorem Kh7 (a0 : KT) (a1 : KT) (a2 : Bool) (r : Bool) (h0 : KcY a0 a1 a2 = some r) : CallsD Tryz.prog 72 [KF a0, KF a1, .v (.bool a2)] [] [] (fun d h k => d = .v (.bool r) ∧ h = [] ∧ k = []) := by
 have hm := KG h0
 unfold KcY at hm
 clear h0
 refine K3 htab Tryz.func72 rfl rfl rfl rfl rfl (fun C => ?_)
 refine Kg ?_
 refine p_box rfl rfl rfl rfl rfl rfl rfl (fun b1 => ?_)
 refine p_box rfl rfl rfl rfl rfl rfl rfl (fun b2 => ?_)
 refine pu ?_
 refine KR ?_
 refine pu ?_
 refine pL 0 ?_
 refine pu ?_
 refine pL 1 ?_
 refine pu ?_
 refine pu ?_
 refine KaD (i := 12) rfl (fun hg3 => ?_) (fun hg3 => ?_)
 ·replace hm := yes_t hg3 hm
  refine pu ?_
  refine pL 0 ?_
  refine pu ?_
  refine pL 1 ?_
  obtain ⟨x4, q4, hm⟩ := Kc hm
  refine Kai (Khc a0.gParams a1.gParams x4 q4) rfl rfl rfl rfl rfl Wl ?_
  rintro _ rfl
  refine Kac rfl rfl rfl rfl rfl rfl ?_
  refine pu ?_
  refine KaD (i := 19) rfl (fun hg5 => ?_) (fun hg5 => ?_)
  ·replace hm := yes_t hg5 hm
   refine pu ?_
   refine pL 0 ?_
   refine pu ?_
   refine pL 1 ?_
   obtain ⟨x6, q6, hm⟩ := Kc hm
   refine Kai (Khc a0.gLocals a1.gLocals x6 q6) rfl rfl rfl rfl rfl Wl ?_
   rintro _ rfl
   refine Kac rfl rfl rfl rfl rfl rfl ?_
   refine pu ?_
   refine KaD (i := 26) rfl (fun hg7 => ?_) (fun hg7 => ?_)
   ·replace hm := yes_t hg7 hm
    refine pu ?_
    refine pL 0 ?_
    refine pu ?_
    refine pL 1 ?_
    refine pu ?_
    obtain ⟨x8, q8, hm⟩ := Kc hm
    refine Kai (Kik a0.gBody a1.gBody a2 x8 q8) rfl rfl rfl rfl rfl Wl ?_
    rintro _ rfl
    refine Kac rfl rfl rfl rfl rfl rfl ?_
    refine pu ?_
    refine KaD (i := 34) rfl (fun hg9 => ?_) (fun hg9 => ?_)
    ·replace hm := yes_t hg9 hm
     iterate 3 refine pu ?_
     refine KaD (i := 37) rfl (fun hg10 => ?_) (fun hg10 => ?_)
     ·replace hm := yes_t hg10 hm
      iterate 5 refine pK ?_
      refine Kac rfl rfl rfl rfl rfl rfl ?_
      refine Kac rfl rfl rfl rfl rfl rfl ?_
      refine pu ?_
      refine Ke ?_
      refine KD ?_
      have er11 := Kj hm; subst er11
      refine rP (t' := [(6, .v (.bool true))]) [] [] 0 (wC wN) (lT lN) ?_
      exact ⟨rfl, rfl, rfl⟩
     ·replace hm := yes_f hg10 hm
      refine pu ?_
      refine pL 0 ?_
      refine pu ?_
      refine pL 1 ?_
      refine pu ?_
      refine K8 rfl rfl rfl rfl rfl rfl ?_
      refine Kac rfl rfl rfl rfl rfl rfl ?_
      refine pu ?_
      refine Ke ?_
      refine KD ?_
      have er12 := Kj hm; subst er12
      refine rP (t' := [(6, .v (.bool (a0.gAt == a1.gAt)))]) [] [] 0 (wC wN) (lT lN) ?_
      exact ⟨rfl, rfl, rfl⟩
    ·replace hm := yes_f hg9 hm
     iterate 9 refine pK ?_
     refine K8 rfl rfl rfl rfl rfl rfl ?_
     refine pu ?_
     refine Ke ?_
     refine KD ?_
     have er13 := Kj hm; subst er13
     refine rP (t' := [(6, .v (.bool false))]) [] [] 0 (wC wN) (lT lN) ?_
     exact ⟨rfl, rfl, rfl⟩
   ·replace hm := yes_f hg7 hm
    iterate 6 refine pK ?_
    refine K8 rfl rfl rfl rfl rfl rfl ?_
    refine pu ?_
    iterate 9 refine pK ?_
    refine K8 rfl rfl rfl rfl rfl rfl ?_
    refine pu ?_
    refine Ke ?_
    refine KD ?_
    have er14 := Kj hm; subst er14
    refine rP (t' := [(6, .v (.bool false))]) [] [] 0 (wC wN) (lT lN) ?_
    exact ⟨rfl, rfl, rfl⟩
  ·replace hm := yes_f hg5 hm
   iterate 5 refine pK ?_
   refine K8 rfl rfl rfl rfl rfl rfl ?_
   refine pu ?_
   iterate 6 refine pK ?_
   refine K8 rfl rfl rfl rfl rfl rfl ?_
   refine pu ?_
   iterate 9 refine pK ?_
   refine K8 rfl rfl rfl rfl rfl rfl ?_
   refine pu ?_
   refine Ke ?_
   refine KD ?_
   have er15 := Kj hm; subst er15
   refine rP (t' := [(6, .v (.bool false))]) [] [] 0 (wC wN) (lT lN) ?_
   exact ⟨rfl, rfl, rfl⟩
 ·replace hm := yes_f hg3 hm
  iterate 5 refine pK ?_
  refine K8 rfl rfl rfl rfl rfl rfl ?_
  refine pu ?_
  iterate 5 refine pK ?_
  refine K8 rfl rfl rfl rfl rfl rfl ?_
  refine pu ?_
  iterate 6 refine pK ?_
  refine K8 rfl rfl rfl rfl rfl rfl ?_
  refine pu ?_
  iterate 9 refine pK ?_
  refine K8 rfl rfl rfl rfl rfl rfl ?_
  refine pu ?_
  refine Ke ?_
  refine KD ?_
  have er16 := Kj hm; subst er16
  refine rP (t' := [(6, .v (.bool false))]) [] [] 0 (wC wN) (lT lN) ?_
  exact ⟨rfl, rfl, rfl⟩
noncomputable def Kc9 (a0 : Kw) (a1 : ByteArray) : Option (Int) :=
 (Option.bind (α := (Unit) ⊕ (Int)) (loopM (fun (s16 : Int) => (bif (decide (s16 < (a0.gGlobals.length : Int))) then ((idx a0.gGlobals s16).bind fun x26 => (bif (decide (x26.gName = a1)) then some (.done (.inr s16)) else some (.next (IntKind.i64.wrap (s16 + (1 : Int)))))) else some (.done (.inl ())))) (0 : Int)) (Sum.elim (fun y15 => some (-1 : Int)) (fun r => some r)))
theorem Kf9 (a0 : Kw) (a1 : ByteArray) (r : Int) (h0 : Kc9 a0 a1 = some r) : CallsD Tryz.prog 73 [Ku a0, .v (.string a1)] [] [] (fun d h k => d = .v (.int .i64 r) ∧ h = [] ∧ k = []) := by
 have hm := KG h0
 unfold Kc9 at hm
 clear h0
 refine K3 htab Tryz.func73 rfl rfl rfl rfl rfl (fun C => ?_)
 refine Kg ?_
 refine p_box rfl rfl rfl rfl rfl rfl rfl (fun b1 => ?_)
 refine pu ?_
 refine Ke ?_
 refine Kk ?_
 refine Kg ?_
 refine pu ?_
 refine Ke ?_
 obtain ⟨x15, q15, ho15⟩ := Kc hm
 refine Ka1 (τ := Unit) (Y := Unit) (fun y15 z15 => (⟨[], [], []⟩ : S)) x15 ?_ ?_
 ·clear hm; have hm := KG q15
  refine KB ?_
  obtain ⟨u16, hl16, hq16⟩ := yes_m hm
  refine Kao (Y := Unit) hl16 (fun s16 z16 => (⟨[(1, .v (.string a1)), (2, .ptr b1 0), (5, .v (.int .i64 s16))], [(b1, Blk.cells [.lst 4 (a0.gGlobals.map KK) .no, .lst 5 (a0.gFuncs.map KF) .no] 25)], []⟩ : S)) ?_ ?_
  ·skip
   exact WkX.of () (WkS.perm (WkS.cons rfl (Wk.refl _) (WkS.cons rfl (Wk.refl _) (WkS.cons rfl (Wk.refl _) (WkS.nil)))) Pf Pf)
  ·intro G16 s16 z16 hm
   refine Kk ?_
   refine Kg ?_
   refine pu ?_
   refine pu ?_
   refine pL 0 ?_
   refine Kaa htab rfl rfl rfl rfl rfl rfl rfl (by first | exact KX | rfl) ?_
   refine pu ?_
   refine Ke ?_
   refine KA rfl (fun hc25 => ?_) (fun hc25 => ?_)
   ·replace hm := yes_t hc25 hm
    refine Kz ?_
    refine Kb ?_
    refine Kk ?_
    refine KB ?_
    refine Kg ?_
    refine pu ?_
    refine pL 0 ?_
    refine pu ?_
    obtain ⟨x26, q26, hm⟩ := Kc hm
    refine Kad htab rfl rfl rfl rfl rfl rfl rfl rfl rfl rfl (Kf q26) (Kl q26) ?_
    refine pu ?_
    refine KW htab rfl rfl rfl rfl rfl rfl rfl rfl ?_
    refine pu ?_
    refine pu ?_
    refine Ke ?_
    refine KA rfl (fun hc27 => ?_) (fun hc27 => ?_)
    ·replace hm := yes_t hc27 hm
     refine Kg ?_
     refine pu ?_
     refine pu ?_
     refine Ke ?_
     refine KD ?_
     refine Kak ?_
     refine KS ?_
     have e16 := K0 hm; subst e16; clear hm; have hm := hq16
     refine KS ?_
     refine Kak ?_
     have e15 := Kj hm; subst e15; refine Ka4 ?_; clear hm; have hm := ho15; simp only [Sum.elim_inr] at hm
     refine KS ?_
     have er28 := Kj hm; subst er28
     refine rP (t' := [(4, .v (.int .i64 s16))]) [] [] 0 (wC wN) (lT lN) ?_
     exact ⟨rfl, rfl, rfl⟩
    ·replace hm := yes_f hc27 hm
     refine Kz ?_
     refine KJ ?_
     refine Kb ?_
     refine Kq ?_
     iterate 3 refine pu ?_
     refine Kv ?_
     refine Kb ⟨_, K1 hm, ?_⟩
     exact WkX.of () (WkS.perm (WkS.cons rfl (Wk.refl _) (WkS.cons rfl (Wk.refl _) (WkS.cons rfl (Wk.refl _) (WkS.nil)))) Pf Pf)
   ·replace hm := yes_f hc25 hm
    refine K7 ?_
    refine KC ?_
    have e16 := K0 hm; subst e16; clear hm; have hm := hq16
    refine KC ?_
    refine K2 ?_
    have e15 := Kj hm; subst e15
    refine Ka3 ?_
    exact WkX.of () (WkS.perm (WkS.nil) Pf Pf)
 ·intro y15 s15 hx15 hw15; subst hx15; clear hm; have hm := ho15; simp only [Sum.elim_inl] at hm; clear q15 ho15
  refine Kb ?_
  refine KV hw15 (fun z15 => ?_)
  refine Kg ?_
  refine pu ?_
  refine Ke ?_
  refine KD ?_
  have er29 := Kj hm; subst er29
  refine rP (t' := [(4, .v (.int .i64 (-1 : Int)))]) [] [] 0 (wC wN) (lT lN) ?_
  exact ⟨rfl, rfl, rfl⟩
abbrev KhK : List (List Nat) := nlD [] [(0,[]),(0,[0]),(2,[1]),(3,[2]),(4,[3]),(5,[4]),(6,[5]),(7,[6]),(8,[7]),(8,[]),(9,[8,9]),(11,[10]),(8,[]),(8,[12]),(8,[]),(14,[13,14]),(16,[15]),(12,[11,12,13,14,15,16]),(18,[17]),(19,[18]),(20,[19])]
abbrev KfX : List (List Nat) := nlD [] [(0,[]),(0,[0]),(2,[1]),(3,[2]),(4,[3]),(5,[4]),(6,[5]),(7,[6]),(8,[7]),(8,[]),(9,[8,9]),(11,[10]),(12,[11]),(8,[]),(8,[13]),(8,[]),(15,[14,15]),(17,[16]),(18,[17]),(13,[12,13,14,15,16,17,18]),(20,[19]),(21,[20]),(22,[21]),(23,[22]),(23,[]),(24,[23,24]),(26,[25]),(27,[26]),(23,[]),(23,[28]),(23,[]),(30,[29,30]),(32,[31]),(33,[32]),(28,[27,28,29,30,31,32,33]),(35,[34]),(36,[35])]
abbrev nlSz1_21 : List (List Nat) := nlD [] [(0,[]),(0,[]),(0,[]),(0,[]),(0,[]),(0,[]),(0,[]),(0,[]),(0,[7]),(0,[]),(9,[8]),(11,[10]),(12,[11]),(0,[]),(0,[13]),(0,[]),(15,[14]),(17,[16]),(18,[17]),(13,[13,14,16,17]),(20,[]),(20,[]),(20,[]),(20,[]),(20,[]),(20,[]),(20,[]),(20,[]),(20,[]),(20,[]),(20,[]),(20,[]),(20,[]),(20,[])]
abbrev nlSz1_22 : List (List Nat) := nlD [] [(0,[]),(0,[]),(0,[]),(0,[]),(0,[]),(0,[]),(0,[]),(0,[]),(0,[7]),(0,[]),(9,[8]),(11,[10]),(12,[11]),(0,[]),(0,[13]),(0,[]),(15,[14]),(17,[16]),(18,[17]),(13,[13,14,16,17]),(20,[]),(20,[]),(20,[]),(20,[22]),(20,[]),(24,[23]),(26,[25]),(27,[26]),(20,[]),(20,[28]),(20,[]),(30,[29]),(32,[31]),(33,[32])]
noncomputable def KcZ (a0 : Kw) (a1 : Kw) (a2 : ByteArray) (a3 : Bool) : Option (Bool) :=
 (bif a3 then ((KdQ a0 a2).bind fun x12 => ((KdQ a1 a2).bind fun x13 => (Option.bind (α := Bool) (bif (decide (x12 < (0 : Int))) then some true else (bif (decide (x13 < (0 : Int))) then some true else ((idx a0.gFuncs x12).bind fun x22 => ((idx a1.gFuncs x13).bind fun x23 => ((KcY x22 x23 false).bind fun x24 => some (!x24)))))) fun y19 => some y19))) else ((Kc9 a0 a2).bind fun x26 => ((Kc9 a1 a2).bind fun x27 => (bif (decide (x26 < (0 : Int))) then some true else (bif (decide (x27 < (0 : Int))) then some true else ((idx a0.gGlobals x26).bind fun x32 => ((idx a1.gGlobals x27).bind fun x33 => (bif (!(x32.gPtr == x33.gPtr)) then some true else ((idx a0.gGlobals x26).bind fun x36 => ((idx a1.gGlobals x27).bind fun x37 => some (x36.gSize != x37.gSize)))))))))))
theorem Kjf (a0 : Kw) (a1 : Kw) (a2 : ByteArray) (a3 : Bool) (r : Bool) (h0 : KcZ a0 a1 a2 a3 = some r) : CallsD Tryz.prog 46 [Ku a0, Ku a1, .v (.string a2), .v (.bool a3)] [] [] (fun d h k => d = .v (.bool r) ∧ h = [] ∧ k = []) := by
 have hm := KG h0
 unfold KcZ at hm
 clear h0
 refine K3 htab Tryz.func46 rfl rfl rfl rfl rfl (fun C => ?_)
 refine Kg ?_
 refine p_box rfl rfl rfl rfl rfl rfl rfl (fun b1 => ?_)
 refine p_box rfl rfl rfl rfl rfl rfl rfl (fun b2 => ?_)
 refine pu ?_
 refine Ke ?_
 refine Kk ?_
 refine Kg ?_
 refine pu ?_
 refine Ke ?_
 refine KA rfl (fun hc11 => ?_) (fun hc11 => ?_)
 ·replace hm := yes_t hc11 hm
  refine Kk ?_
  obtain ⟨x12, q12, hm⟩ := Kc hm
  refine Kaf 5 [] [[],[],[0],[],[]] [0,2,3] [[],[],[0,1],[],[],[0,1,2,3,4],[0,1,2,3,4,5],[0,1,2,3,4,5,6]] (by kernel_rfl) (by kernel_rfl) (by kernel_rfl) (by rfl) (by rfl) (by kernel_rfl) ?_
  iterate 3 apply Exists.intro
  intro bs
  refine z_eM rfl rfl (Kaj (d := Ku a0) 0 htab rfl rfl rfl rfl rfl) rfl rfl rfl rfl rfl rfl ?_
  refine zqp ?_
  refine KbC rfl rfl (Khb a0 a2 x12 q12) rfl rfl Wl rfl rfl rfl rfl rfl rfl ?_
  refine z_eM rfl rfl (Kaj (d := Ku a1) 1 htab rfl rfl rfl rfl rfl) rfl rfl rfl rfl rfl rfl ?_
  refine zqp ?_
  refine z_nil rfl rfl (fun e he => by simp [isAl] at he) ?_
  obtain ⟨x13, q13, hm⟩ := Kc hm
  refine Kai (Khb a1 a2 x13 q13) rfl rfl rfl rfl rfl Wl ?_
  rintro _ rfl
  refine pu ?_
  refine pu ?_
  refine Ke ?_
  refine Kk ?_
  obtain ⟨y19, q19, ho19⟩ := Kc hm
  refine Kae (Y := Unit) (fun z19 => (⟨[(8, .v (.bool y19))], [], []⟩ : S)) ?_ ?_
  ·clear hm; have hm := KG q19
   refine bycB (decide (x12 < (0 : Int))) (fun hs20 => ?_) (fun hs20 => ?_)
   ·replace hm := yes_t hs20 hm
    refine Kaf 17 [] [[],[],[],[],[],[],[],[],[],[],[],[],[],[],[],[],[]] [] KhK (by kernel_rfl) (by kernel_rfl) (by kernel_rfl) (by rfl) (by rfl) (by kernel_rfl) ?_
    intro bs
    iterate 3 refine zqp ?_
    refine KQ (j := 22) (b' := true) rfl hs20 ?_
    refine zK ?_
    refine zK ?_
    refine z_q rfl rfl (Kaz rfl rfl rfl) rfl rfl rfl rfl rfl rfl ?_
    refine zqp ?_
    iterate 10 refine zK ?_
    refine z_nil rfl rfl (fun e he => by simp [isAl] at he) ?_
    refine pK ?_
    refine pK ?_
    refine Kac rfl rfl rfl rfl rfl rfl ?_
    refine pu ?_
    refine Kv ?_
    have e19 := Kj hm; subst e19
    refine ⟨rfl, ?_⟩
    exact WkX.of () (WkS.perm (WkS.cons rfl (Wk.refl _) (WkS.nil)) Pf Pf)
   ·replace hm := yes_f hs20 hm
    refine bycB (decide (x13 < (0 : Int))) (fun hs21 => ?_) (fun hs21 => ?_)
    ·replace hm := yes_t hs21 hm
     refine Kaf 17 [] [[],[],[],[],[],[],[],[],[],[],[],[],[],[],[],[],[]] [] KhK (by kernel_rfl) (by kernel_rfl) (by kernel_rfl) (by rfl) (by rfl) (by kernel_rfl) ?_
     intro bs
     iterate 3 refine zqp ?_
     refine KQ (j := 22) (b' := false) rfl hs20 ?_
     refine zqp ?_
     refine zqp ?_
     refine z_q rfl rfl (K6 rfl rfl rfl) rfl rfl rfl rfl rfl rfl ?_
     refine zqp ?_
     refine KQ (j := 26) (b' := true) rfl hs21 ?_
     iterate 10 refine zK ?_
     refine z_nil rfl rfl (fun e he => by simp [isAl] at he) ?_
     refine pK ?_
     refine pK ?_
     refine Kac rfl rfl rfl rfl rfl rfl ?_
     refine pu ?_
     refine Kv ?_
     have e19 := Kj hm; subst e19
     refine ⟨rfl, ?_⟩
     exact WkX.of () (WkS.perm (WkS.cons rfl (Wk.refl _) (WkS.nil)) Pf Pf)
    ·replace hm := yes_f hs21 hm
     obtain ⟨x22, q22, hm⟩ := Kc hm
     obtain ⟨x23, q23, hm⟩ := Kc hm
     refine Kaf 17 [] [[],[],[],[],[],[],[],[],[7],[],[7,8],[7,8,10],[],[12],[],[12,13],[12,13,15]] [7,8,10,11,12,13,15,16] KhK (by kernel_rfl) (by kernel_rfl) (by kernel_rfl) (by rfl) (by rfl) (by kernel_rfl) ?_
     iterate 8 apply Exists.intro
     intro bs
     iterate 3 refine zqp ?_
     refine KQ (j := 22) (b' := false) rfl hs20 ?_
     refine zqp ?_
     refine zqp ?_
     refine z_q rfl rfl (K6 rfl rfl rfl) rfl rfl rfl rfl rfl rfl ?_
     refine zqp ?_
     refine KQ (j := 26) (b' := false) rfl hs21 ?_
     refine zep ?_
     refine z_eM rfl rfl (Kaj 0 htab rfl rfl rfl rfl rfl) rfl rfl rfl rfl rfl rfl ?_
     refine zqp ?_
     refine z_e rfl rfl (KE htab rfl rfl rfl rfl rfl rfl rfl (Kf q22) (Kl q22)) rfl rfl rfl rfl rfl rfl ?_
     refine z_eM rfl rfl (Ko (d := KF x22) htab rfl rfl rfl rfl rfl) rfl rfl rfl rfl rfl rfl ?_
     refine zep ?_
     refine z_eM rfl rfl (Kaj 1 htab rfl rfl rfl rfl rfl) rfl rfl rfl rfl rfl rfl ?_
     refine zqp ?_
     refine z_e rfl rfl (KE htab rfl rfl rfl rfl rfl rfl rfl (Kf q23) (Kl q23)) rfl rfl rfl rfl rfl rfl ?_
     refine z_eM rfl rfl (Ko (d := KF x23) htab rfl rfl rfl rfl rfl) rfl rfl rfl rfl rfl rfl ?_
     refine z_nil rfl rfl (fun e he => by simp [isAl] at he) ?_
     obtain ⟨x24, q24, hm⟩ := Kc hm
     refine Kai (Kh7 x22 x23 false x24 q24) rfl rfl rfl rfl rfl Wl ?_
     rintro _ rfl
     refine pu ?_
     refine K8 rfl rfl rfl rfl rfl rfl ?_
     refine pu ?_
     refine Kv ?_
     have e19 := Kj hm; subst e19
     refine ⟨rfl, ?_⟩
     exact WkX.of () (WkS.perm (WkS.cons rfl (Wk.refl _) (WkS.nil)) Pf Pf)
  ·intro s19 hw19; clear hm; have hm := ho19; clear q19 ho19
   refine Kb ?_
   refine KV hw19 (fun z19 => ?_)
   refine KD ?_
   refine KS ?_
   have er25 := Kj hm; subst er25
   refine rP (t' := [(8, .v (.bool y19))]) [] [] 0 (wC wN) (lT lN) ?_
   exact ⟨rfl, rfl, rfl⟩
 ·replace hm := yes_f hc11 hm
  refine Kz ?_
  refine Kb ?_
  refine Kk ?_
  obtain ⟨x26, q26, hm⟩ := Kc hm
  refine Kaf 5 [] [[],[],[0],[],[]] [0,2,3] [[],[],[0,1],[],[],[0,1,2,3,4],[0,1,2,3,4,5],[0,1,2,3,4,5,6]] (by kernel_rfl) (by kernel_rfl) (by kernel_rfl) (by rfl) (by rfl) (by kernel_rfl) ?_
  iterate 3 apply Exists.intro
  intro bs
  refine z_eM rfl rfl (Kaj (d := Ku a0) 0 htab rfl rfl rfl rfl rfl) rfl rfl rfl rfl rfl rfl ?_
  refine zqp ?_
  refine KbC rfl rfl (Kf9 a0 a2 x26 q26) rfl rfl Wl rfl rfl rfl rfl rfl rfl ?_
  refine z_eM rfl rfl (Kaj (d := Ku a1) 1 htab rfl rfl rfl rfl rfl) rfl rfl rfl rfl rfl rfl ?_
  refine zqp ?_
  refine z_nil rfl rfl (fun e he => by simp [isAl] at he) ?_
  obtain ⟨x27, q27, hm⟩ := Kc hm
  refine Kai (Kf9 a1 a2 x27 q27) rfl rfl rfl rfl rfl Wl ?_
  rintro _ rfl
  refine pu ?_
  refine pu ?_
  refine Ke ?_
  refine Kk ?_
  refine bycB (decide (x26 < (0 : Int))) (fun hs28 => ?_) (fun hs28 => ?_)
  ·replace hm := yes_t hs28 hm
   refine Kaf 34 [] [[],[],[],[],[],[],[],[],[],[],[],[],[],[],[],[],[],[],[],[],[],[],[],[],[],[],[],[],[],[],[],[],[],[]] [] KfX (by kernel_rfl) (by kernel_rfl) (by kernel_rfl) (by rfl) (by rfl) (by kernel_rfl) ?_
   intro bs
   iterate 3 refine zqp ?_
   refine KQ (j := 48) (b' := true) rfl hs28 ?_
   refine zK ?_
   refine zK ?_
   refine z_q rfl rfl (Kaz rfl rfl rfl) rfl rfl rfl rfl rfl rfl ?_
   refine zqp ?_
   iterate 13 refine zK ?_
   refine z_q rfl rfl (Kaz rfl rfl rfl) rfl rfl rfl rfl rfl rfl ?_
   refine zqp ?_
   iterate 12 refine zK ?_
   refine z_nil rfl rfl (fun e he => by simp [isAl] at he) ?_
   refine pK ?_
   refine Kac rfl rfl rfl rfl rfl rfl ?_
   refine pu ?_
   refine Ke ?_
   refine KD ?_
   have er29 := Kj hm; subst er29
   refine rP (t' := [(8, .v (.bool true))]) [] [] 0 (wC wN) (lT lN) ?_
   exact ⟨rfl, rfl, rfl⟩
  ·replace hm := yes_f hs28 hm
   refine bycB (decide (x27 < (0 : Int))) (fun hs30 => ?_) (fun hs30 => ?_)
   ·replace hm := yes_t hs30 hm
    refine Kaf 34 [] [[],[],[],[],[],[],[],[],[],[],[],[],[],[],[],[],[],[],[],[],[],[],[],[],[],[],[],[],[],[],[],[],[],[]] [] KfX (by kernel_rfl) (by kernel_rfl) (by kernel_rfl) (by rfl) (by rfl) (by kernel_rfl) ?_
    intro bs
    iterate 3 refine zqp ?_
    refine KQ (j := 48) (b' := false) rfl hs28 ?_
    refine zqp ?_
    refine zqp ?_
    refine z_q rfl rfl (K6 rfl rfl rfl) rfl rfl rfl rfl rfl rfl ?_
    refine zqp ?_
    refine KQ (j := 52) (b' := true) rfl hs30 ?_
    iterate 13 refine zK ?_
    refine z_q rfl rfl (Kaz rfl rfl rfl) rfl rfl rfl rfl rfl rfl ?_
    refine zqp ?_
    iterate 12 refine zK ?_
    refine z_nil rfl rfl (fun e he => by simp [isAl] at he) ?_
    refine pK ?_
    refine Kac rfl rfl rfl rfl rfl rfl ?_
    refine pu ?_
    refine Ke ?_
    refine KD ?_
    have er31 := Kj hm; subst er31
    refine rP (t' := [(8, .v (.bool true))]) [] [] 0 (wC wN) (lT lN) ?_
    exact ⟨rfl, rfl, rfl⟩
   ·replace hm := yes_f hs30 hm
    obtain ⟨x32, q32, hm⟩ := Kc hm
    obtain ⟨x33, q33, hm⟩ := Kc hm
    refine bycB (!(x32.gPtr == x33.gPtr)) (fun hs34 => ?_) (fun hs34 => ?_)
    ·replace hm := yes_t hs34 hm
     refine Kaf 34 [] nlSz1_21 [7,8,10,11,13,14,16,17] KfX (by kernel_rfl) (by kernel_rfl) (by kernel_rfl) (by rfl) (by rfl) (by kernel_rfl) ?_
     iterate 8 apply Exists.intro
     intro bs
     iterate 3 refine zqp ?_
     refine KQ (j := 48) (b' := false) rfl hs28 ?_
     refine zqp ?_
     refine zqp ?_
     refine z_q rfl rfl (K6 rfl rfl rfl) rfl rfl rfl rfl rfl rfl ?_
     refine zqp ?_
     refine KQ (j := 52) (b' := false) rfl hs30 ?_
     refine zep ?_
     refine z_eM rfl rfl (Kaj 0 htab rfl rfl rfl rfl rfl) rfl rfl rfl rfl rfl rfl ?_
     refine zqp ?_
     refine z_e rfl rfl (KE htab rfl rfl rfl rfl rfl rfl rfl (Kf q32) (Kl q32)) rfl rfl rfl rfl rfl rfl ?_
     refine zep ?_
     refine z_qM rfl rfl (Ko htab rfl rfl rfl rfl rfl) rfl rfl rfl rfl rfl rfl ?_
     refine zep ?_
     refine z_eM rfl rfl (Kaj 1 htab rfl rfl rfl rfl rfl) rfl rfl rfl rfl rfl rfl ?_
     refine zqp ?_
     refine z_e rfl rfl (KE htab rfl rfl rfl rfl rfl rfl rfl (Kf q33) (Kl q33)) rfl rfl rfl rfl rfl rfl ?_
     refine zep ?_
     refine z_qM rfl rfl (Ko htab rfl rfl rfl rfl rfl) rfl rfl rfl rfl rfl rfl ?_
     refine zqp ?_
     refine z_q rfl rfl (K6 rfl rfl rfl) rfl rfl rfl rfl rfl rfl ?_
     refine zqp ?_
     refine KQ (j := 67) (b' := true) rfl hs34 ?_
     iterate 12 refine zK ?_
     refine z_nil rfl rfl (fun e he => by simp [isAl] at he) ?_
     refine pK ?_
     refine Kac rfl rfl rfl rfl rfl rfl ?_
     refine pu ?_
     refine Ke ?_
     refine KD ?_
     have er35 := Kj hm; subst er35
     refine rP (t' := [(8, .v (.bool true))]) [] [] 0 (wC wN) (lT lN) ?_
     exact ⟨rfl, rfl, rfl⟩
    ·replace hm := yes_f hs34 hm
     obtain ⟨x36, q36, hm⟩ := Kc hm
     obtain ⟨x37, q37, hm⟩ := Kc hm
     refine Kaf 34 [] nlSz1_22 [7,8,10,11,13,14,16,17,22,23,25,26,28,29,31,32] KfX (by kernel_rfl) (by kernel_rfl) (by kernel_rfl) (by rfl) (by rfl) (by kernel_rfl) ?_
     iterate 16 apply Exists.intro
     intro bs
     iterate 3 refine zqp ?_
     refine KQ (j := 48) (b' := false) rfl hs28 ?_
     refine zqp ?_
     refine zqp ?_
     refine z_q rfl rfl (K6 rfl rfl rfl) rfl rfl rfl rfl rfl rfl ?_
     refine zqp ?_
     refine KQ (j := 52) (b' := false) rfl hs30 ?_
     refine zep ?_
     refine z_eM rfl rfl (Kaj 0 htab rfl rfl rfl rfl rfl) rfl rfl rfl rfl rfl rfl ?_
     refine zqp ?_
     refine z_e rfl rfl (KE htab rfl rfl rfl rfl rfl rfl rfl (Kf q32) (Kl q32)) rfl rfl rfl rfl rfl rfl ?_
     refine zep ?_
     refine z_qM rfl rfl (Ko htab rfl rfl rfl rfl rfl) rfl rfl rfl rfl rfl rfl ?_
     refine zep ?_
     refine z_eM rfl rfl (Kaj 1 htab rfl rfl rfl rfl rfl) rfl rfl rfl rfl rfl rfl ?_
     refine zqp ?_
     refine z_e rfl rfl (KE htab rfl rfl rfl rfl rfl rfl rfl (Kf q33) (Kl q33)) rfl rfl rfl rfl rfl rfl ?_
     refine zep ?_
     refine z_qM rfl rfl (Ko htab rfl rfl rfl rfl rfl) rfl rfl rfl rfl rfl rfl ?_
     refine zqp ?_
     refine z_q rfl rfl (K6 rfl rfl rfl) rfl rfl rfl rfl rfl rfl ?_
     refine zqp ?_
     refine KQ (j := 67) (b' := false) rfl hs34 ?_
     refine zep ?_
     refine z_eM rfl rfl (Kaj 0 htab rfl rfl rfl rfl rfl) rfl rfl rfl rfl rfl rfl ?_
     refine zqp ?_
     refine z_e rfl rfl (KE htab rfl rfl rfl rfl rfl rfl rfl (Kf q36) (Kl q36)) rfl rfl rfl rfl rfl rfl ?_
     refine zep ?_
     refine z_qM rfl rfl (Ko htab rfl rfl rfl rfl rfl) rfl rfl rfl rfl rfl rfl ?_
     refine zep ?_
     refine z_eM rfl rfl (Kaj 1 htab rfl rfl rfl rfl rfl) rfl rfl rfl rfl rfl rfl ?_
     refine zqp ?_
     refine z_e rfl rfl (KE htab rfl rfl rfl rfl rfl rfl rfl (Kf q37) (Kl q37)) rfl rfl rfl rfl rfl rfl ?_
     refine zep ?_
     refine z_qM rfl rfl (Ko htab rfl rfl rfl rfl rfl) rfl rfl rfl rfl rfl rfl ?_
     refine z_nil rfl rfl (fun e he => by simp [isAl] at he) ?_
     refine pu ?_
     refine K8 rfl rfl rfl rfl rfl rfl ?_
     refine pu ?_
     refine Ke ?_
     refine KD ?_
     have er38 := Kj hm; subst er38
     refine rP (t' := [(8, .v (.bool (x36.gSize != x37.gSize)))]) [] [] 0 (wC wN) (lT lN) ?_
     exact ⟨rfl, rfl, rfl⟩
end Go.Proofs.YtnfkijcmakgkmaaGreat.Ab
namespace Go.Proofs.YtnfkijcmakgkmaaGreat.Ab
open Go
set_option linter.all false
noncomputable def KdS (a0 : List ByteArray) (a1 : ByteArray) : Option (List ByteArray) :=
 (Option.bind (α := List ByteArray × Bool) (loopM (fun (s64 : List ByteArray × Bool × Int) => (bif (decide (s64.2.2 < (a0.length : Int))) then (bif (!s64.2.1) then ((idx a0 s64.2.2).bind fun x107 => (Option.bind (α := List ByteArray × Bool) (bif (ltB a1 x107 || a1.toList == x107.toList) then ((idx a0 s64.2.2).bind fun x114 => (Option.bind (α := List ByteArray) (bif (ltB a1 x114) then ((app 16 s64.1 ([a1] : List ByteArray)).bind fun x119 => some x119) else some s64.1) fun y117 => some (y117, true))) else some (s64.1, s64.2.1)) fun y112 => ((idx a0 s64.2.2).bind fun x120 => ((app 16 y112.1 ([x120] : List ByteArray)).bind fun x121 => some (.next (x121, y112.2, (IntKind.i64.wrap (s64.2.2 + (1 : Int))))))))) else ((idx a0 s64.2.2).bind fun x122 => ((app 16 s64.1 ([x122] : List ByteArray)).bind fun x123 => some (.next (x123, s64.2.1, (IntKind.i64.wrap (s64.2.2 + (1 : Int)))))))) else some (.done (s64.1, s64.2.1)))) (([] : List ByteArray), false, (0 : Int))) fun y63 => (bif (!y63.2) then ((app 16 y63.1 ([a1] : List ByteArray)).bind fun x125 => some x125) else some y63.1))
theorem Kh8 (a0 : List ByteArray) (a1 : ByteArray) (r : List ByteArray) (h0 : KdS a0 a1 = some r) : CallsD Tryz.prog 44 [.lst 1 (a0.map eStr) .no, .v (.string a1)] [] [] (fun d h k => ∃ y0, d = .lst 1 (r.map eStr) (.cur y0) ∧ h = [] ∧ k = [(1, y0)]) := by
 have hm := KG h0
 unfold KdS at hm
 clear h0
 refine K3 htab Tryz.func44 rfl rfl rfl rfl rfl (fun C => ?_)
 refine Kg ?_
 refine pu ?_
 refine KR ?_
 refine pu ?_
 refine KR ?_
 refine pu ?_
 refine Ke ?_
 refine Kk ?_
 refine Kg ?_
 refine pu ?_
 refine Ke ?_
 obtain ⟨y63, q63, ho63⟩ := Kc hm
 refine Kae (Y := Value) (fun z63 => (⟨[(1, .v (.string a1)), (5, .lst 1 (y63.1.map eStr) (.cur z63)), (6, .v (.bool y63.2))], [], [(1, z63)]⟩ : S)) ?_ ?_
 ·clear hm; have hm := KG q63
  refine KB ?_
  obtain ⟨u64, hl64, hq64⟩ := yes_m hm
  refine Kao (Y := Value) hl64 (fun s64 z64 => (⟨[(0, .lst 1 (a0.map eStr) .no), (1, .v (.string a1)), (5, .lst 1 (s64.1.map eStr) (.cur z64)), (6, .v (.bool s64.2.1)), (7, .v (.int .i64 s64.2.2))], [], [(1, z64)]⟩ : S)) ?_ ?_
  ·skip
   refine WkX.tokN (i := 5) 1 rfl (fun w104 => ?_)
   exact WkX.of w104 (WkS.perm (WkS.cons rfl (Wk.refl _) (WkS.cons rfl (Wk.refl _) (WkS.cons rfl (Wk.refl _) (WkS.cons rfl (Wk.refl _) (WkS.cons rfl (Wk.refl _) (WkS.nil)))))) Pf Pf)
  ·intro G64 s64 z64 hm
   refine Kk ?_
   refine Kg ?_
   refine pu ?_
   refine pu ?_
   refine Kaa htab rfl rfl rfl rfl rfl rfl rfl (by first | exact KX | rfl) ?_
   refine pu ?_
   refine Ke ?_
   refine KA rfl (fun hc105 => ?_) (fun hc105 => ?_)
   ·replace hm := yes_t hc105 hm
    refine Kz ?_
    refine Kb ?_
    refine Kk ?_
    refine KB ?_
    refine Kk ?_
    refine Kg ?_
    iterate 3 refine pu ?_
    refine KaD (i := 16) rfl (fun hg106 => ?_) (fun hg106 => ?_)
    ·replace hm := yes_t hg106 hm
     iterate 3 refine pu ?_
     obtain ⟨x107, q107, hm⟩ := Kc hm
     refine Kad htab rfl rfl rfl rfl rfl rfl rfl rfl rfl rfl (Kf q107) (Kl q107) ?_
     refine KW htab rfl rfl rfl rfl rfl rfl rfl rfl ?_
     refine p_ltS rfl rfl rfl rfl rfl rfl rfl ?_
     refine Kac rfl rfl rfl rfl rfl rfl ?_
     refine Ke ?_
     obtain ⟨y112, q112, ho112⟩ := Kc hm
     refine Kae (Y := Value) (fun z112 => (⟨[(0, .lst 1 (a0.map eStr) .no), (1, .v (.string a1)), (5, .lst 1 (y112.1.map eStr) (.cur z112)), (6, .v (.bool y112.2)), (7, .v (.int .i64 s64.2.2))], [], [(1, z112)]⟩ : S)) ?_ ?_
     ·clear hm; have hm := KG q112
      refine KA rfl (fun hc113 => ?_) (fun hc113 => ?_)
      ·replace hm := yes_t hc113 hm
       refine Kk ?_
       refine Kg ?_
       iterate 3 refine pu ?_
       obtain ⟨x114, q114, hm⟩ := Kc hm
       refine Kad htab rfl rfl rfl rfl rfl rfl rfl rfl rfl rfl (Kf q114) (Kl q114) ?_
       refine KW htab rfl rfl rfl rfl rfl rfl rfl rfl ?_
       refine p_ltS rfl rfl rfl rfl rfl rfl rfl ?_
       refine Ke ?_
       obtain ⟨y117, q117, ho117⟩ := Kc hm
       refine Kae (Y := Value) (fun z117 => (⟨[(0, .lst 1 (a0.map eStr) .no), (1, .v (.string a1)), (5, .lst 1 (y117.map eStr) (.cur z117)), (7, .v (.int .i64 s64.2.2))], [], [(1, z117)]⟩ : S)) ?_ ?_
       ·clear hm; have hm := KG q117
        refine KA rfl (fun hc118 => ?_) (fun hc118 => ?_)
        ·replace hm := yes_t hc118 hm
         refine Kq ?_
         refine pu ?_
         refine pu ?_
         refine p_lit htab rfl rfl rfl rfl rfl rfl rfl rfl rfl rfl rfl rfl rfl rfl ?_
         refine p_eq (i := 32) (d' := .lst 1 (([a1] : List ByteArray).map eStr) .full) rfl (Wk.lst0 (.cons (WkC.refl _) (.nil))) ?_
         obtain ⟨x119, q119, hm⟩ := Kc hm
         refine Ka0 0 htab rfl rfl rfl rfl rfl rfl rfl rfl rfl rfl rfl rfl rfl rfl rfl rfl rfl (Kan q119) (fun v119 => ?_)
         refine Ka2 (i := 33) q119 rfl ?_
         refine pu ?_
         refine Kv ?_
         have e117 := Kj hm; subst e117
         refine ⟨rfl, ?_⟩
         exact WkX.of v119 (WkS.perm (WkS.cons rfl (Wk.refl _) (WkS.cons rfl (Wk.refl _) (WkS.cons rfl (Wk.refl _) (WkS.cons rfl (Wk.refl _) (WkS.nil))))) Pf Pf)
        ·replace hm := yes_f hc118 hm
         refine Kz ?_
         have e117 := Kj hm; subst e117
         refine ⟨rfl, ?_⟩
         exact WkX.of z64 (WkS.perm (WkS.cons rfl (Wk.refl _) (WkS.cons rfl (Wk.refl _) (WkS.cons rfl (Wk.refl _) (WkS.cons rfl (Wk.refl _) (WkS.nil))))) Pf Pf)
       ·intro s117 hw117; clear hm; have hm := ho117; clear q117 ho117
        refine Kb ?_
        refine KV hw117 (fun z117 => ?_)
        refine Kq ?_
        refine pu ?_
        refine Kv ?_
        have e112 := Kj hm; subst e112
        refine ⟨rfl, ?_⟩
        exact WkX.of z117 (WkS.perm (WkS.cons rfl (Wk.refl _) (WkS.cons rfl (Wk.refl _) (WkS.cons rfl (Wk.refl _) (WkS.cons rfl (Wk.refl _) (WkS.cons rfl (Wk.refl _) (WkS.nil)))))) Pf Pf)
      ·replace hm := yes_f hc113 hm
       refine Kz ?_
       have e112 := Kj hm; subst e112
       refine ⟨rfl, ?_⟩
       exact WkX.of z64 (WkS.perm (WkS.cons rfl (Wk.refl _) (WkS.cons rfl (Wk.refl _) (WkS.cons rfl (Wk.refl _) (WkS.cons rfl (Wk.refl _) (WkS.cons rfl (Wk.refl _) (WkS.nil)))))) Pf Pf)
     ·intro s112 hw112; clear hm; have hm := ho112; clear q112 ho112
      refine Kb ?_
      refine KV hw112 (fun z112 => ?_)
      refine Kq ?_
      iterate 3 refine pu ?_
      obtain ⟨x120, q120, hm⟩ := Kc hm
      refine Kad htab rfl rfl rfl rfl rfl rfl rfl rfl rfl rfl (Kf q120) (Kl q120) ?_
      refine KW htab rfl rfl rfl rfl rfl rfl rfl rfl ?_
      refine p_lit htab rfl rfl rfl rfl rfl rfl rfl rfl rfl rfl rfl rfl rfl rfl ?_
      refine p_eq (i := 39) (d' := .lst 1 (([x120] : List ByteArray).map eStr) .full) rfl (Wk.lst0 (.cons (WkC.refl _) (.nil))) ?_
      obtain ⟨x121, q121, hm⟩ := Kc hm
      refine Ka0 0 htab rfl rfl rfl rfl rfl rfl rfl rfl rfl rfl rfl rfl rfl rfl rfl rfl rfl (Kan q121) (fun v121 => ?_)
      refine Ka2 (i := 40) q121 rfl ?_
      refine pu ?_
      refine Kv ?_
      refine KJ ?_
      refine Kb ?_
      refine Kq ?_
      iterate 3 refine pu ?_
      refine Kv ?_
      refine Kb ⟨_, K1 hm, ?_⟩
      exact WkX.of v121 (WkS.perm (WkS.cons rfl (Wk.refl _) (WkS.cons rfl (Wk.refl _) (WkS.cons rfl (Wk.refl _) (WkS.cons rfl (Wk.refl _) (WkS.cons rfl (Wk.refl _) (WkS.nil)))))) Pf Pf)
    ·replace hm := yes_f hg106 hm
     iterate 6 refine pK ?_
     refine K8 rfl rfl rfl rfl rfl rfl ?_
     refine Ke ?_
     refine Kiu rfl ?_
     refine Kz ?_
     refine Kb ?_
     refine Kq ?_
     iterate 3 refine pu ?_
     obtain ⟨x122, q122, hm⟩ := Kc hm
     refine Kad htab rfl rfl rfl rfl rfl rfl rfl rfl rfl rfl (Kf q122) (Kl q122) ?_
     refine KW htab rfl rfl rfl rfl rfl rfl rfl rfl ?_
     refine p_lit htab rfl rfl rfl rfl rfl rfl rfl rfl rfl rfl rfl rfl rfl rfl ?_
     refine p_eq (i := 39) (d' := .lst 1 (([x122] : List ByteArray).map eStr) .full) rfl (Wk.lst0 (.cons (WkC.refl _) (.nil))) ?_
     obtain ⟨x123, q123, hm⟩ := Kc hm
     refine Ka0 0 htab rfl rfl rfl rfl rfl rfl rfl rfl rfl rfl rfl rfl rfl rfl rfl rfl rfl (Kan q123) (fun v123 => ?_)
     refine Ka2 (i := 40) q123 rfl ?_
     refine pu ?_
     refine Kv ?_
     refine KJ ?_
     refine Kb ?_
     refine Kq ?_
     iterate 3 refine pu ?_
     refine Kv ?_
     refine Kb ⟨_, K1 hm, ?_⟩
     exact WkX.of v123 (WkS.perm (WkS.cons rfl (Wk.refl _) (WkS.cons rfl (Wk.refl _) (WkS.cons rfl (Wk.refl _) (WkS.cons rfl (Wk.refl _) (WkS.cons rfl (Wk.refl _) (WkS.nil)))))) Pf Pf)
   ·replace hm := yes_f hc105 hm
    refine K7 ?_
    refine KC ?_
    have e64 := K0 hm; subst e64; clear hm; have hm := hq64
    refine KC ?_
    refine K2 ?_
    have e63 := Kj hm; subst e63
    refine ⟨rfl, ?_⟩
    exact WkX.of z64 (WkS.perm (WkS.cons rfl (Wk.refl _) (WkS.cons rfl (Wk.refl _) (WkS.cons rfl (Wk.refl _) (WkS.nil)))) Pf Pf)
 ·intro s63 hw63; clear hm; have hm := ho63; clear q63 ho63
  refine Kb ?_
  refine KV hw63 (fun z63 => ?_)
  refine Kk ?_
  refine Kg ?_
  refine pu ?_
  refine pu ?_
  refine Ke ?_
  refine KA rfl (fun hc124 => ?_) (fun hc124 => ?_)
  ·replace hm := yes_t hc124 hm
   refine Kq ?_
   refine pu ?_
   refine pu ?_
   refine p_lit htab rfl rfl rfl rfl rfl rfl rfl rfl rfl rfl rfl rfl rfl rfl ?_
   refine p_eq (i := 45) (d' := .lst 1 (([a1] : List ByteArray).map eStr) .full) rfl (Wk.lst0 (.cons (WkC.refl _) (.nil))) ?_
   obtain ⟨x125, q125, hm⟩ := Kc hm
   refine Ka0 0 htab rfl rfl rfl rfl rfl rfl rfl rfl rfl rfl rfl rfl rfl rfl rfl rfl rfl (Kan q125) (fun v125 => ?_)
   refine Ka2 (i := 46) q125 rfl ?_
   refine pu ?_
   refine KR ?_
   refine pu ?_
   refine pu ?_
   refine Ke ?_
   refine KD ?_
   have er126 := Kj hm; subst er126
   refine rP (t' := [(4, .lst 1 (x125.map eStr) (.cur v125))]) [] [0] 0 (wC wN) (lT lN) ?_
   exact ⟨v125, rfl, rfl, rfl⟩
  ·replace hm := yes_f hc124 hm
   refine Kz ?_
   refine Kb ?_
   refine Kg ?_
   refine pu ?_
   refine pu ?_
   refine Ke ?_
   refine KD ?_
   have er127 := Kj hm; subst er127
   refine rP (t' := [(4, .lst 1 (y63.1.map eStr) (.cur z63))]) [] [0] 0 (wC wN) (lT lN) ?_
   exact ⟨z63, rfl, rfl, rfl⟩
noncomputable def KeX (a0 : Kw) (a1 : Kw) (a2 : Bool) : Option (List ByteArray) :=
 ((Key a0 a2).bind fun x4 => ((Key a1 a2).bind fun x10 => ((app 16 x4 x10).bind fun x11 => (Option.bind (α := List ByteArray) (loopM (fun (s39 : List ByteArray × Int) => (bif (decide (s39.2 < (x11.length : Int))) then ((idx x11 s39.2).bind fun x58 => ((KcZ a0 a1 x58 a2).bind fun x59 => (bif x59 then ((idx x11 s39.2).bind fun x61 => ((KdS s39.1 x61).bind fun x63 => some (.next (x63, (IntKind.i64.wrap (s39.2 + (1 : Int))))))) else some (.next (s39.1, (IntKind.i64.wrap (s39.2 + (1 : Int)))))))) else some (.done s39.1))) (([] : List ByteArray), (0 : Int))) fun y38 => some y38))))
theorem Kgs (a0 : Kw) (a1 : Kw) (a2 : Bool) (r : List ByteArray) (h0 : KeX a0 a1 a2 = some r) : CallsD Tryz.prog 24 [Ku a0, Ku a1, .v (.bool a2)] [] [] (fun d h k => ∃ y0, d = .lst 1 (r.map eStr) (.cur y0) ∧ h = [] ∧ k = [(1, y0)]) := by
 have hm := KG h0
 unfold KeX at hm
 clear h0
 refine K3 htab Tryz.func24 rfl rfl rfl rfl rfl (fun C => ?_)
 refine Kg ?_
 refine p_box rfl rfl rfl rfl rfl rfl rfl (fun b1 => ?_)
 refine p_box rfl rfl rfl rfl rfl rfl rfl (fun b2 => ?_)
 refine pu ?_
 refine KR ?_
 refine pu ?_
 refine Ke ?_
 refine Kk ?_
 obtain ⟨x4, q4, hm⟩ := Kc hm
 refine KfM 5 [] [(2, 1)] [[],[],[0],[],[]] [0,2,3] [[],[],[0,1],[],[],[0,1,2,3,4],[0,1,2,3,4,5],[0,1,2,3,4,5,6]] (by kernel_rfl) (by kernel_rfl) (by kernel_rfl) (by rfl) (by rfl) (by kernel_rfl) ?_
 iterate 3 apply Exists.intro
 intro bs
 refine zt_eM rfl rfl (Kaj (d := Ku a0) 0 htab rfl rfl rfl rfl rfl) rfl rfl rfl rfl rfl rfl rfl ?_
 refine zt_q rfl rfl (Kfq htab rfl) rfl rfl rfl rfl rfl rfl ?_
 refine Kht rfl rfl (Kh6 a0 a2 x4 q4) rfl rfl Wl rfl rfl rfl rfl rfl (by simp) (by decide) rfl ?_
 refine zt_eM rfl rfl (Kaj (d := Ku a1) 1 htab rfl rfl rfl rfl rfl) rfl rfl rfl rfl rfl rfl rfl ?_
 refine zt_q rfl rfl (Kfq htab rfl) rfl rfl rfl rfl rfl rfl ?_
 refine zt_nil (k' := [(1, (bs 2))]) rfl (fun e he => by simp [isT] at he; subst he; rfl) rfl rfl (fun e he => by simp [isAl] at he) ?_
 obtain ⟨w8, hw8⟩ : ∃ y, bs 2 = y := ⟨_, rfl⟩
 simp only [hw8]
 clear hw8
 obtain ⟨x10, q10, hm⟩ := Kc hm
 refine pG (Kh6 a1 a2 x10 q10) Wl Pf Pf ?_
 rintro _ _ _ ⟨w9, rfl, rfl, rfl⟩
 obtain ⟨x11, q11, hm⟩ := Kc hm
 refine Ka0 1 htab rfl rfl rfl rfl rfl rfl rfl rfl rfl rfl rfl rfl rfl rfl rfl rfl rfl (Kan q11) (fun v11 => ?_)
 refine Ka2 (i := 16) q11 rfl ?_
 refine pu ?_
 refine Ke ?_
 refine Kk ?_
 refine Kg ?_
 refine pu ?_
 refine Ke ?_
 obtain ⟨y38, q38, ho38⟩ := Kc hm
 refine Kae (Y := Value) (fun z38 => (⟨[(7, .lst 1 (y38.map eStr) (.cur z38))], [], [(1, z38)]⟩ : S)) ?_ ?_
 ·clear hm; have hm := KG q38
  refine KB ?_
  obtain ⟨u39, hl39, hq39⟩ := yes_m hm
  refine Kao (Y := Value) hl39 (fun s39 z39 => (⟨[(2, .v (.bool a2)), (3, .ptr b1 0), (4, .ptr b2 0), (7, .lst 1 (s39.1.map eStr) (.cur z39)), (8, .lst 1 (x11.map eStr) (.cur v11)), (9, .v (.int .i64 s39.2))], [(b1, Blk.cells [.lst 4 (a0.gGlobals.map KK) .no, .lst 5 (a0.gFuncs.map KF) .no] 25), (b2, Blk.cells [.lst 4 (a1.gGlobals.map KK) .no, .lst 5 (a1.gFuncs.map KF) .no] 25)], [(1, z39), (1, v11)]⟩ : S)) ?_ ?_
  ·skip
   refine WkX.tokN (i := 7) 1 rfl (fun w56 => ?_)
   exact WkX.of w56 (WkS.perm (WkS.cons rfl (Wk.refl _) (WkS.cons rfl (Wk.refl _) (WkS.cons rfl (Wk.refl _) (WkS.cons rfl (Wk.refl _) (WkS.cons rfl (Wk.refl _) (WkS.cons rfl (Wk.refl _) (WkS.nil))))))) Pf Pf)
  ·intro G39 s39 z39 hm
   refine Kk ?_
   refine Kg ?_
   refine pu ?_
   refine pu ?_
   refine Kaa htab rfl rfl rfl rfl rfl rfl rfl (by first | exact KX | rfl) ?_
   refine pu ?_
   refine Ke ?_
   refine KA rfl (fun hc57 => ?_) (fun hc57 => ?_)
   ·replace hm := yes_t hc57 hm
    refine Kz ?_
    refine Kb ?_
    refine Kk ?_
    refine KB ?_
    refine Kk ?_
    obtain ⟨x58, q58, hm⟩ := Kc hm
    refine Kaf 7 [] [[],[],[],[],[2],[2,4],[]] [0,1,2,4] [[],[],[],[],[2,3],[2,3,4],[],[0,1,2,3,4,5,6]] (by kernel_rfl) (by kernel_rfl) (by kernel_rfl) (by rfl) (by rfl) (by kernel_rfl) ?_
    iterate 4 apply Exists.intro
    intro bs
    refine z_eM rfl rfl (Kaj (d := Ku a0) 0 htab rfl rfl rfl rfl rfl) rfl rfl rfl rfl rfl rfl ?_
    refine z_eM rfl rfl (Kaj (d := Ku a1) 1 htab rfl rfl rfl rfl rfl) rfl rfl rfl rfl rfl rfl ?_
    refine zep ?_
    refine zqp ?_
    refine z_e rfl rfl (KE htab rfl rfl rfl rfl rfl rfl rfl (Kf q58) (Kl q58)) rfl rfl rfl rfl rfl rfl ?_
    refine z_qM rfl rfl (Ko htab rfl rfl rfl rfl rfl) rfl rfl rfl rfl rfl rfl ?_
    refine zqp ?_
    refine z_nil rfl rfl (fun e he => by simp [isAl] at he) ?_
    obtain ⟨x59, q59, hm⟩ := Kc hm
    refine Kai (Kjf a0 a1 x58 a2 x59 q59) rfl rfl rfl rfl rfl Wl ?_
    rintro _ rfl
    refine Ke ?_
    refine KA rfl (fun hc60 => ?_) (fun hc60 => ?_)
    ·replace hm := yes_t hc60 hm
     refine Kq ?_
     iterate 3 refine pu ?_
     obtain ⟨x61, q61, hm⟩ := Kc hm
     refine Kad htab rfl rfl rfl rfl rfl rfl rfl rfl rfl rfl (Kf q61) (Kl q61) ?_
     refine KW htab rfl rfl rfl rfl rfl rfl rfl rfl ?_
     obtain ⟨x63, q63, hm⟩ := Kc hm
     refine KaY (Kh8 s39.1 x61 x63 q63) rfl rfl rfl rfl rfl (WkL.cons (Wk.no) (WkL.cons (Wk.refl _) Wl)) Pf Pf ?_
     rintro _ _ _ ⟨w62, rfl, rfl, rfl⟩
     refine pu ?_
     refine Kv ?_
     refine KJ ?_
     refine Kb ?_
     refine Kq ?_
     iterate 3 refine pu ?_
     refine Kv ?_
     refine Kb ⟨_, K1 hm, ?_⟩
     exact WkX.of w62 (WkS.perm (WkS.cons rfl (Wk.refl _) (WkS.cons rfl (Wk.refl _) (WkS.cons rfl (Wk.refl _) (WkS.cons rfl (Wk.refl _) (WkS.cons rfl (Wk.refl _) (WkS.cons rfl (Wk.refl _) (WkS.nil))))))) Pf ((KI (j := 0) rfl).trans (List.Perm.cons _ ((KI (j := 1) rfl).trans (List.Perm.cons _ Pf)))))
    ·replace hm := yes_f hc60 hm
     refine Kz ?_
     refine KJ ?_
     refine Kb ?_
     refine Kq ?_
     iterate 3 refine pu ?_
     refine Kv ?_
     refine Kb ⟨_, K1 hm, ?_⟩
     exact WkX.of z39 (WkS.perm (WkS.cons rfl (Wk.refl _) (WkS.cons rfl (Wk.refl _) (WkS.cons rfl (Wk.refl _) (WkS.cons rfl (Wk.refl _) (WkS.cons rfl (Wk.refl _) (WkS.cons rfl (Wk.refl _) (WkS.nil))))))) Pf Pf)
   ·replace hm := yes_f hc57 hm
    refine K7 ?_
    refine KC ?_
    have e39 := K0 hm; subst e39; clear hm; have hm := hq39
    refine KC ?_
    refine K2 ?_
    have e38 := Kj hm; subst e38
    refine ⟨rfl, ?_⟩
    exact WkX.of z39 (WkS.perm (WkS.cons rfl (Wk.refl _) (WkS.nil)) Pf Pf)
 ·intro s38 hw38; clear hm; have hm := ho38; clear q38 ho38
  refine Kb ?_
  refine KV hw38 (fun z38 => ?_)
  refine Kg ?_
  refine pu ?_
  refine pu ?_
  refine Ke ?_
  refine KD ?_
  have er64 := Kj hm; subst er64
  refine rP (t' := [(6, .lst 1 (y38.map eStr) (.cur z38))]) [] [0] 0 (wC wN) (lT lN) ?_
  exact ⟨z38, rfl, rfl, rfl⟩
noncomputable def KbV (g0 : (List Kh) → Option (List Kh)) (a0 : List Kh) : Option (List Kh) :=
 (Option.bind (α := List Kh) (loopM (fun (s40 : List Kh × Int) => (bif (decide (s40.2 < (a0.length : Int))) then ((idx a0 s40.2).bind fun x67 => ((app 120 s40.1 ([x67] : List Kh)).bind fun x68 => ((idx a0 s40.2).bind fun x69 => ((g0 x69.gKids).bind fun x71 => ((app 120 x68 x71).bind fun x72 => ((idx a0 s40.2).bind fun x73 => ((g0 x73.gElse).bind fun x75 => ((app 120 x72 x75).bind fun x76 => some (.next (x76, (IntKind.i64.wrap (s40.2 + (1 : Int))))))))))))) else some (.done s40.1))) (([] : List Kh), (0 : Int))) fun y39 => some y39)
theorem Kil (g0 : (List Kh) → Option (List Kh)) (hg0 : ∀ (a0 : List Kh) (r : List Kh) (h0 : g0 a0 = some r), CallsD Tryz.prog 68 [.lst 7 (a0.map Ks) .no] [] [] (fun d h k => ∃ y0, d = .lst 7 (r.map Ks) (.cur y0) ∧ h = [] ∧ k = [(7, y0)])) (a0 : List Kh) (r : List Kh) (h0 : KbV g0 a0 = some r) : CallsD Tryz.prog 68 [.lst 7 (a0.map Ks) .no] [] [] (fun d h k => ∃ y0, d = .lst 7 (r.map Ks) (.cur y0) ∧ h = [] ∧ k = [(7, y0)]) := by
 have hm := KG h0
 unfold KbV at hm
 clear h0
 refine K3 htab Tryz.func68 rfl rfl rfl rfl rfl (fun C => ?_)
 refine Kg ?_
 refine pu ?_
 refine KR ?_
 refine pu ?_
 refine Ke ?_
 refine Kk ?_
 refine Kg ?_
 refine pu ?_
 refine Ke ?_
 obtain ⟨y39, q39, ho39⟩ := Kc hm
 refine Kae (Y := Value) (fun z39 => (⟨[(3, .lst 7 (y39.map Ks) (.cur z39))], [], [(7, z39)]⟩ : S)) ?_ ?_
 ·clear hm; have hm := KG q39
  refine KB ?_
  obtain ⟨u40, hl40, hq40⟩ := yes_m hm
  refine Kao (Y := Value) hl40 (fun s40 z40 => (⟨[(0, .lst 7 (a0.map Ks) .no), (3, .lst 7 (s40.1.map Ks) (.cur z40)), (4, .v (.int .i64 s40.2))], [], [(7, z40)]⟩ : S)) ?_ ?_
  ·skip
   refine WkX.tokN (i := 3) 7 rfl (fun w65 => ?_)
   exact WkX.of w65 (WkS.perm (WkS.cons rfl (Wk.refl _) (WkS.cons rfl (Wk.refl _) (WkS.cons rfl (Wk.refl _) (WkS.nil)))) Pf Pf)
  ·intro G40 s40 z40 hm
   refine Kk ?_
   refine Kg ?_
   refine pu ?_
   refine pu ?_
   refine Kaa htab rfl rfl rfl rfl rfl rfl rfl (by first | exact KX | rfl) ?_
   refine pu ?_
   refine Ke ?_
   refine KA rfl (fun hc66 => ?_) (fun hc66 => ?_)
   ·replace hm := yes_t hc66 hm
    refine Kz ?_
    refine Kb ?_
    refine Kk ?_
    refine KB ?_
    refine Kg ?_
    iterate 3 refine pu ?_
    obtain ⟨x67, q67, hm⟩ := Kc hm
    refine Kad htab rfl rfl rfl rfl rfl rfl rfl rfl rfl rfl (Kf q67) (Kl q67) ?_
    refine p_eq (i := 14) rfl (Wk.of_eq (congrArg D.el (Kp x67))) ?_
    refine KW (d := .agg [.v (.int .i64 x67.gOp), .v (.string x67.gName), .v (.string x67.gFunc), .lst 5 (x67.gExps.map Kx) .no, .lst 7 (x67.gKids.map Ks) .no, .lst 7 (x67.gElse.map Ks) .no, .v (.int .i64 x67.gAt)]) htab rfl rfl rfl rfl rfl rfl rfl rfl ?_
    refine p_lit htab rfl rfl rfl rfl rfl rfl rfl rfl rfl rfl rfl rfl rfl rfl ?_
    refine p_eq (i := 16) (d' := .lst 7 (([x67] : List Kh).map Ks) .full) rfl (Wk.lst0 (.cons (WkC.trans (WkC.agg (WkR.refl _)) (WkC.of_eq (Kp x67).symm)) (.nil))) ?_
    obtain ⟨x68, q68, hm⟩ := Kc hm
    refine Ka0 0 htab rfl rfl rfl rfl rfl rfl rfl rfl rfl rfl rfl rfl rfl rfl rfl rfl rfl (Kan q68) (fun v68 => ?_)
    refine Ka2 (i := 17) q68 rfl ?_
    refine pu ?_
    refine KR ?_
    iterate 3 refine pu ?_
    obtain ⟨x69, q69, hm⟩ := Kc hm
    refine Kad htab rfl rfl rfl rfl rfl rfl rfl rfl rfl rfl (Kf q69) (Kl q69) ?_
    refine p_eq (i := 21) rfl (Wk.of_eq (congrArg D.el (Kp x69))) ?_
    refine pu ?_
    refine KW htab rfl rfl rfl rfl rfl rfl rfl rfl ?_
    obtain ⟨x71, q71, hm⟩ := Kc hm
    refine pG (hg0 x69.gKids x71 q71) Wl Pf Pf ?_
    rintro _ _ _ ⟨w70, rfl, rfl, rfl⟩
    obtain ⟨x72, q72, hm⟩ := Kc hm
    refine Ka0 1 htab rfl rfl rfl rfl rfl rfl rfl rfl rfl rfl rfl rfl rfl rfl rfl rfl rfl (Kan q72) (fun v72 => ?_)
    refine Ka2 (i := 25) q72 rfl ?_
    refine pu ?_
    refine Ke ?_
    refine Kq ?_
    iterate 3 refine pu ?_
    obtain ⟨x73, q73, hm⟩ := Kc hm
    refine Kad htab rfl rfl rfl rfl rfl rfl rfl rfl rfl rfl (Kf q73) (Kl q73) ?_
    refine p_eq (i := 29) rfl (Wk.of_eq (congrArg D.el (Kp x73))) ?_
    refine pu ?_
    refine KW htab rfl rfl rfl rfl rfl rfl rfl rfl ?_
    obtain ⟨x75, q75, hm⟩ := Kc hm
    refine pG (hg0 x73.gElse x75 q75) Wl Pf Pf ?_
    rintro _ _ _ ⟨w74, rfl, rfl, rfl⟩
    obtain ⟨x76, q76, hm⟩ := Kc hm
    refine Ka0 1 htab rfl rfl rfl rfl rfl rfl rfl rfl rfl rfl rfl rfl rfl rfl rfl rfl rfl (Kan q76) (fun v76 => ?_)
    refine Ka2 (i := 33) q76 rfl ?_
    refine pu ?_
    refine Kv ?_
    refine KJ ?_
    refine Kb ?_
    refine Kq ?_
    iterate 3 refine pu ?_
    refine Kv ?_
    refine Kb ⟨_, K1 hm, ?_⟩
    exact WkX.of v76 (WkS.perm (WkS.cons rfl (Wk.refl _) (WkS.cons rfl (Wk.refl _) (WkS.cons rfl (Wk.refl _) (WkS.nil)))) Pf Pf)
   ·replace hm := yes_f hc66 hm
    refine K7 ?_
    refine KC ?_
    have e40 := K0 hm; subst e40; clear hm; have hm := hq40
    refine KC ?_
    refine K2 ?_
    have e39 := Kj hm; subst e39
    refine ⟨rfl, ?_⟩
    exact WkX.of z40 (WkS.perm (WkS.cons rfl (Wk.refl _) (WkS.nil)) Pf Pf)
 ·intro s39 hw39; clear hm; have hm := ho39; clear q39 ho39
  refine Kb ?_
  refine KV hw39 (fun z39 => ?_)
  refine Kg ?_
  refine pu ?_
  refine pu ?_
  refine Ke ?_
  refine KD ?_
  have er77 := Kj hm; subst er77
  refine rP (t' := [(2, .lst 7 (y39.map Ks) (.cur z39))]) [] [0] 0 (wC wN) (lT lN) ?_
  exact ⟨z39, rfl, rfl, rfl⟩
noncomputable def Kbg : Nat → ((List Kh) → Option (List Kh))
 | 0 => (fun _ => none)
 | n + 1 => (KbV ((Kbg n)))
theorem Kfv : ∀ n, (∀ (a0 : List Kh) (r : List Kh) (h0 : (Kbg n) a0 = some r), CallsD Tryz.prog 68 [.lst 7 (a0.map Ks) .no] [] [] (fun d h k => ∃ y0, d = .lst 7 (r.map Ks) (.cur y0) ∧ h = [] ∧ k = [(7, y0)]))
  | 0 => fun _ _ h0 => by cases h0
  | n + 1 => by
    have ih := Kfv n
    exact Kil (Kbg n) ih
theorem Kfw : ∀ n, (∀ (a0 : List Kh), Le ((Kbg n) a0) ((Kbg (n + 1)) a0))
  | 0 => fun _ => Le.none _
  | n + 1 => by
    have ih := Kfw n
    exact fun a0 => by show Le (KbV ((Kbg n)) a0) (KbV ((Kbg (n + 1))) a0); unfold KbV; repeat (first | exact Le.refl _ | exact ih _ | assumption | (refine Le.bind ?_ (fun _ => ?_)) | (refine Le.cond ?_ ?_) | (refine Le.loop (fun _ => ?_)) | (refine Le.elim (fun _ => ?_) (fun _ => ?_)))
noncomputable def Kd9 (a0 : List Kh) : Option (List Kh) := anyN fun n => (Kbg n) a0
theorem Kjg (a0 : List Kh) {r : List Kh} (n : Nat) (h : (Kbg n) a0 = some r) : Kd9 a0 = some r := Kds (fun m => (Kfw m) a0) h
theorem Kgt (a0 : List Kh) (r : List Kh) (h0 : Kd9 a0 = some r) : CallsD Tryz.prog 68 [.lst 7 (a0.map Ks) .no] [] [] (fun d h k => ∃ y0, d = .lst 7 (r.map Ks) (.cur y0) ∧ h = [] ∧ k = [(7, y0)]) :=
 let ⟨n, hn⟩ := KcT h0; (Kfv n) a0  r hn
noncomputable def KeA (a0 : List ByteArray) (a1 : ByteArray) : Option (List ByteArray) :=
 (Option.bind (α := List ByteArray × Bool) (loopM (fun (s62 : List ByteArray × Bool × Int) => (bif (decide (s62.2.2 < (a0.length : Int))) then (bif (!s62.2.1) then ((idx a0 s62.2.2).bind fun x102 => (Option.bind (α := List ByteArray × Bool) (bif (ltB a1 x102) then ((app 16 s62.1 ([a1] : List ByteArray)).bind fun x107 => some (x107, true)) else some (s62.1, s62.2.1)) fun y105 => ((idx a0 s62.2.2).bind fun x108 => (Option.bind (α := Bool) (bif (decide (a1 = x108)) then some true else some y105.2) fun y110 => ((idx a0 s62.2.2).bind fun x112 => ((app 16 y105.1 ([x112] : List ByteArray)).bind fun x113 => some (.next (x113, y110, (IntKind.i64.wrap (s62.2.2 + (1 : Int))))))))))) else ((idx a0 s62.2.2).bind fun x114 => (Option.bind (α := Bool) (bif (decide (a1 = x114)) then some true else some s62.2.1) fun y116 => ((idx a0 s62.2.2).bind fun x118 => ((app 16 s62.1 ([x118] : List ByteArray)).bind fun x119 => some (.next (x119, y116, (IntKind.i64.wrap (s62.2.2 + (1 : Int)))))))))) else some (.done (s62.1, s62.2.1)))) (([] : List ByteArray), false, (0 : Int))) fun y61 => (bif (!y61.2) then ((app 16 y61.1 ([a1] : List ByteArray)).bind fun x121 => some x121) else some y61.1))
theorem Kh9 (a0 : List ByteArray) (a1 : ByteArray) (r : List ByteArray) (h0 : KeA a0 a1 = some r) : CallsD Tryz.prog 69 [.lst 1 (a0.map eStr) .no, .v (.string a1)] [] [] (fun d h k => ∃ y0, d = .lst 1 (r.map eStr) (.cur y0) ∧ h = [] ∧ k = [(1, y0)]) := by
 have hm := KG h0
 unfold KeA at hm
 clear h0
 refine K3 htab Tryz.func69 rfl rfl rfl rfl rfl (fun C => ?_)
 refine Kg ?_
 refine pu ?_
 refine KR ?_
 refine pu ?_
 refine KR ?_
 refine pu ?_
 refine Ke ?_
 refine Kk ?_
 refine Kg ?_
 refine pu ?_
 refine Ke ?_
 obtain ⟨y61, q61, ho61⟩ := Kc hm
 refine Kae (Y := Value) (fun z61 => (⟨[(1, .v (.string a1)), (5, .lst 1 (y61.1.map eStr) (.cur z61)), (6, .v (.bool y61.2))], [], [(1, z61)]⟩ : S)) ?_ ?_
 ·clear hm; have hm := KG q61
  refine KB ?_
  obtain ⟨u62, hl62, hq62⟩ := yes_m hm
  refine Kao (Y := Value) hl62 (fun s62 z62 => (⟨[(0, .lst 1 (a0.map eStr) .no), (1, .v (.string a1)), (5, .lst 1 (s62.1.map eStr) (.cur z62)), (6, .v (.bool s62.2.1)), (7, .v (.int .i64 s62.2.2))], [], [(1, z62)]⟩ : S)) ?_ ?_
  ·skip
   refine WkX.tokN (i := 5) 1 rfl (fun w99 => ?_)
   exact WkX.of w99 (WkS.perm (WkS.cons rfl (Wk.refl _) (WkS.cons rfl (Wk.refl _) (WkS.cons rfl (Wk.refl _) (WkS.cons rfl (Wk.refl _) (WkS.cons rfl (Wk.refl _) (WkS.nil)))))) Pf Pf)
  ·intro G62 s62 z62 hm
   refine Kk ?_
   refine Kg ?_
   refine pu ?_
   refine pu ?_
   refine Kaa htab rfl rfl rfl rfl rfl rfl rfl (by first | exact KX | rfl) ?_
   refine pu ?_
   refine Ke ?_
   refine KA rfl (fun hc100 => ?_) (fun hc100 => ?_)
   ·replace hm := yes_t hc100 hm
    refine Kz ?_
    refine Kb ?_
    refine Kk ?_
    refine KB ?_
    refine Kk ?_
    refine Kg ?_
    iterate 3 refine pu ?_
    refine KaD (i := 16) rfl (fun hg101 => ?_) (fun hg101 => ?_)
    ·replace hm := yes_t hg101 hm
     iterate 3 refine pu ?_
     obtain ⟨x102, q102, hm⟩ := Kc hm
     refine Kad htab rfl rfl rfl rfl rfl rfl rfl rfl rfl rfl (Kf q102) (Kl q102) ?_
     refine KW htab rfl rfl rfl rfl rfl rfl rfl rfl ?_
     refine p_ltS rfl rfl rfl rfl rfl rfl rfl ?_
     refine Kac rfl rfl rfl rfl rfl rfl ?_
     refine Ke ?_
     obtain ⟨y105, q105, ho105⟩ := Kc hm
     refine Kae (Y := Value) (fun z105 => (⟨[(0, .lst 1 (a0.map eStr) .no), (1, .v (.string a1)), (5, .lst 1 (y105.1.map eStr) (.cur z105)), (6, .v (.bool y105.2)), (7, .v (.int .i64 s62.2.2))], [], [(1, z105)]⟩ : S)) ?_ ?_
     ·clear hm; have hm := KG q105
      refine KA rfl (fun hc106 => ?_) (fun hc106 => ?_)
      ·replace hm := yes_t hc106 hm
       refine Kg ?_
       refine pu ?_
       refine pu ?_
       refine p_lit htab rfl rfl rfl rfl rfl rfl rfl rfl rfl rfl rfl rfl rfl rfl ?_
       refine p_eq (i := 26) (d' := .lst 1 (([a1] : List ByteArray).map eStr) .full) rfl (Wk.lst0 (.cons (WkC.refl _) (.nil))) ?_
       obtain ⟨x107, q107, hm⟩ := Kc hm
       refine Ka0 0 htab rfl rfl rfl rfl rfl rfl rfl rfl rfl rfl rfl rfl rfl rfl rfl rfl rfl (Kan q107) (fun v107 => ?_)
       refine Ka2 (i := 27) q107 rfl ?_
       refine pu ?_
       refine Ke ?_
       refine Kq ?_
       refine pu ?_
       refine Kv ?_
       have e105 := Kj hm; subst e105
       refine ⟨rfl, ?_⟩
       exact WkX.of v107 (WkS.perm (WkS.cons rfl (Wk.refl _) (WkS.cons rfl (Wk.refl _) (WkS.cons rfl (Wk.refl _) (WkS.cons rfl (Wk.refl _) (WkS.cons rfl (Wk.refl _) (WkS.nil)))))) Pf Pf)
      ·replace hm := yes_f hc106 hm
       refine Kz ?_
       have e105 := Kj hm; subst e105
       refine ⟨rfl, ?_⟩
       exact WkX.of z62 (WkS.perm (WkS.cons rfl (Wk.refl _) (WkS.cons rfl (Wk.refl _) (WkS.cons rfl (Wk.refl _) (WkS.cons rfl (Wk.refl _) (WkS.cons rfl (Wk.refl _) (WkS.nil)))))) Pf Pf)
     ·intro s105 hw105; clear hm; have hm := ho105; clear q105 ho105
      refine Kb ?_
      refine KV hw105 (fun z105 => ?_)
      refine Kk ?_
      refine Kg ?_
      iterate 3 refine pu ?_
      obtain ⟨x108, q108, hm⟩ := Kc hm
      refine Kad htab rfl rfl rfl rfl rfl rfl rfl rfl rfl rfl (Kf q108) (Kl q108) ?_
      refine KW htab rfl rfl rfl rfl rfl rfl rfl rfl ?_
      refine pu ?_
      refine Ke ?_
      obtain ⟨y110, q110, ho110⟩ := Kc hm
      refine Kae (Y := Unit) (fun z110 => (⟨[(0, .lst 1 (a0.map eStr) .no), (1, .v (.string a1)), (5, .lst 1 (y105.1.map eStr) (.cur z105)), (6, .v (.bool y110)), (7, .v (.int .i64 s62.2.2))], [], [(1, z105)]⟩ : S)) ?_ ?_
      ·clear hm; have hm := KG q110
       refine KA rfl (fun hc111 => ?_) (fun hc111 => ?_)
       ·replace hm := yes_t hc111 hm
        refine Kq ?_
        refine pu ?_
        refine Kv ?_
        have e110 := Kj hm; subst e110
        refine ⟨rfl, ?_⟩
        exact WkX.of () (WkS.perm (WkS.cons rfl (Wk.refl _) (WkS.cons rfl (Wk.refl _) (WkS.cons rfl (Wk.refl _) (WkS.cons rfl (Wk.refl _) (WkS.cons rfl (Wk.refl _) (WkS.nil)))))) Pf Pf)
       ·replace hm := yes_f hc111 hm
        refine Kz ?_
        have e110 := Kj hm; subst e110
        refine ⟨rfl, ?_⟩
        exact WkX.of () (WkS.perm (WkS.cons rfl (Wk.refl _) (WkS.cons rfl (Wk.refl _) (WkS.cons rfl (Wk.refl _) (WkS.cons rfl (Wk.refl _) (WkS.cons rfl (Wk.refl _) (WkS.nil)))))) Pf Pf)
      ·intro s110 hw110; clear hm; have hm := ho110; clear q110 ho110
       refine Kb ?_
       refine KV hw110 (fun z110 => ?_)
       refine Kq ?_
       iterate 3 refine pu ?_
       obtain ⟨x112, q112, hm⟩ := Kc hm
       refine Kad htab rfl rfl rfl rfl rfl rfl rfl rfl rfl rfl (Kf q112) (Kl q112) ?_
       refine KW htab rfl rfl rfl rfl rfl rfl rfl rfl ?_
       refine p_lit htab rfl rfl rfl rfl rfl rfl rfl rfl rfl rfl rfl rfl rfl rfl ?_
       refine p_eq (i := 39) (d' := .lst 1 (([x112] : List ByteArray).map eStr) .full) rfl (Wk.lst0 (.cons (WkC.refl _) (.nil))) ?_
       obtain ⟨x113, q113, hm⟩ := Kc hm
       refine Ka0 0 htab rfl rfl rfl rfl rfl rfl rfl rfl rfl rfl rfl rfl rfl rfl rfl rfl rfl (Kan q113) (fun v113 => ?_)
       refine Ka2 (i := 40) q113 rfl ?_
       refine pu ?_
       refine Kv ?_
       refine KJ ?_
       refine Kb ?_
       refine Kq ?_
       iterate 3 refine pu ?_
       refine Kv ?_
       refine Kb ⟨_, K1 hm, ?_⟩
       exact WkX.of v113 (WkS.perm (WkS.cons rfl (Wk.refl _) (WkS.cons rfl (Wk.refl _) (WkS.cons rfl (Wk.refl _) (WkS.cons rfl (Wk.refl _) (WkS.cons rfl (Wk.refl _) (WkS.nil)))))) Pf Pf)
    ·replace hm := yes_f hg101 hm
     iterate 6 refine pK ?_
     refine K8 rfl rfl rfl rfl rfl rfl ?_
     refine Ke ?_
     refine Kiu rfl ?_
     refine Kz ?_
     refine Kb ?_
     refine Kk ?_
     refine Kg ?_
     iterate 3 refine pu ?_
     obtain ⟨x114, q114, hm⟩ := Kc hm
     refine Kad htab rfl rfl rfl rfl rfl rfl rfl rfl rfl rfl (Kf q114) (Kl q114) ?_
     refine KW htab rfl rfl rfl rfl rfl rfl rfl rfl ?_
     refine pu ?_
     refine Ke ?_
     obtain ⟨y116, q116, ho116⟩ := Kc hm
     refine Kae (Y := Unit) (fun z116 => (⟨[(0, .lst 1 (a0.map eStr) .no), (1, .v (.string a1)), (5, .lst 1 (s62.1.map eStr) (.cur z62)), (6, .v (.bool y116)), (7, .v (.int .i64 s62.2.2))], [], [(1, z62)]⟩ : S)) ?_ ?_
     ·clear hm; have hm := KG q116
      refine KA rfl (fun hc117 => ?_) (fun hc117 => ?_)
      ·replace hm := yes_t hc117 hm
       refine Kq ?_
       refine pu ?_
       refine Kv ?_
       have e116 := Kj hm; subst e116
       refine ⟨rfl, ?_⟩
       exact WkX.of () (WkS.perm (WkS.cons rfl (Wk.refl _) (WkS.cons rfl (Wk.refl _) (WkS.cons rfl (Wk.refl _) (WkS.cons rfl (Wk.refl _) (WkS.cons rfl (Wk.refl _) (WkS.nil)))))) Pf Pf)
      ·replace hm := yes_f hc117 hm
       refine Kz ?_
       have e116 := Kj hm; subst e116
       refine ⟨rfl, ?_⟩
       exact WkX.of () (WkS.perm (WkS.cons rfl (Wk.refl _) (WkS.cons rfl (Wk.refl _) (WkS.cons rfl (Wk.refl _) (WkS.cons rfl (Wk.refl _) (WkS.cons rfl (Wk.refl _) (WkS.nil)))))) Pf Pf)
     ·intro s116 hw116; clear hm; have hm := ho116; clear q116 ho116
      refine Kb ?_
      refine KV hw116 (fun z116 => ?_)
      refine Kq ?_
      iterate 3 refine pu ?_
      obtain ⟨x118, q118, hm⟩ := Kc hm
      refine Kad htab rfl rfl rfl rfl rfl rfl rfl rfl rfl rfl (Kf q118) (Kl q118) ?_
      refine KW htab rfl rfl rfl rfl rfl rfl rfl rfl ?_
      refine p_lit htab rfl rfl rfl rfl rfl rfl rfl rfl rfl rfl rfl rfl rfl rfl ?_
      refine p_eq (i := 39) (d' := .lst 1 (([x118] : List ByteArray).map eStr) .full) rfl (Wk.lst0 (.cons (WkC.refl _) (.nil))) ?_
      obtain ⟨x119, q119, hm⟩ := Kc hm
      refine Ka0 0 htab rfl rfl rfl rfl rfl rfl rfl rfl rfl rfl rfl rfl rfl rfl rfl rfl rfl (Kan q119) (fun v119 => ?_)
      refine Ka2 (i := 40) q119 rfl ?_
      refine pu ?_
      refine Kv ?_
      refine KJ ?_
      refine Kb ?_
      refine Kq ?_
      iterate 3 refine pu ?_
      refine Kv ?_
      refine Kb ⟨_, K1 hm, ?_⟩
      exact WkX.of v119 (WkS.perm (WkS.cons rfl (Wk.refl _) (WkS.cons rfl (Wk.refl _) (WkS.cons rfl (Wk.refl _) (WkS.cons rfl (Wk.refl _) (WkS.cons rfl (Wk.refl _) (WkS.nil)))))) Pf Pf)
   ·replace hm := yes_f hc100 hm
    refine K7 ?_
    refine KC ?_
    have e62 := K0 hm; subst e62; clear hm; have hm := hq62
    refine KC ?_
    refine K2 ?_
    have e61 := Kj hm; subst e61
    refine ⟨rfl, ?_⟩
    exact WkX.of z62 (WkS.perm (WkS.cons rfl (Wk.refl _) (WkS.cons rfl (Wk.refl _) (WkS.cons rfl (Wk.refl _) (WkS.nil)))) Pf Pf)
 ·intro s61 hw61; clear hm; have hm := ho61; clear q61 ho61
  refine Kb ?_
  refine KV hw61 (fun z61 => ?_)
  refine Kk ?_
  refine Kg ?_
  refine pu ?_
  refine pu ?_
  refine Ke ?_
  refine KA rfl (fun hc120 => ?_) (fun hc120 => ?_)
  ·replace hm := yes_t hc120 hm
   refine Kq ?_
   refine pu ?_
   refine pu ?_
   refine p_lit htab rfl rfl rfl rfl rfl rfl rfl rfl rfl rfl rfl rfl rfl rfl ?_
   refine p_eq (i := 45) (d' := .lst 1 (([a1] : List ByteArray).map eStr) .full) rfl (Wk.lst0 (.cons (WkC.refl _) (.nil))) ?_
   obtain ⟨x121, q121, hm⟩ := Kc hm
   refine Ka0 0 htab rfl rfl rfl rfl rfl rfl rfl rfl rfl rfl rfl rfl rfl rfl rfl rfl rfl (Kan q121) (fun v121 => ?_)
   refine Ka2 (i := 46) q121 rfl ?_
   refine pu ?_
   refine KR ?_
   refine pu ?_
   refine pu ?_
   refine Ke ?_
   refine KD ?_
   have er122 := Kj hm; subst er122
   refine rP (t' := [(4, .lst 1 (x121.map eStr) (.cur v121))]) [] [0] 0 (wC wN) (lT lN) ?_
   exact ⟨v121, rfl, rfl, rfl⟩
  ·replace hm := yes_f hc120 hm
   refine Kz ?_
   refine Kb ?_
   refine Kg ?_
   refine pu ?_
   refine pu ?_
   refine Ke ?_
   refine KD ?_
   have er123 := Kj hm; subst er123
   refine rP (t' := [(4, .lst 1 (y61.1.map eStr) (.cur z61))]) [] [0] 0 (wC wN) (lT lN) ?_
   exact ⟨z61, rfl, rfl, rfl⟩
noncomputable def Kcu (g0 : (Kn) → Option (List Kn)) (a0 : Kn) : Option (List Kn) :=
 (Option.bind (α := List Kn) (loopM (fun (s23 : List Kn × Int) => (bif (decide (s23.2 < (a0.gKids.length : Int))) then ((idx a0.gKids s23.2).bind fun x38 => ((g0 x38).bind fun x40 => ((app 64 s23.1 x40).bind fun x41 => some (.next (x41, (IntKind.i64.wrap (s23.2 + (1 : Int)))))))) else some (.done s23.1))) (([a0] : List Kn), (0 : Int))) fun y22 => some y22)
theorem Kjh (g0 : (Kn) → Option (List Kn)) (hg0 : ∀ (a0 : Kn) (r : List Kn) (h0 : g0 a0 = some r), CallsD Tryz.prog 89 [Kx a0] [] [] (fun d h k => ∃ y0, d = .lst 5 (r.map Kx) (.cur y0) ∧ h = [] ∧ k = [(5, y0)])) (a0 : Kn) (r : List Kn) (h0 : Kcu g0 a0 = some r) : CallsD Tryz.prog 89 [Kx a0] [] [] (fun d h k => ∃ y0, d = .lst 5 (r.map Kx) (.cur y0) ∧ h = [] ∧ k = [(5, y0)]) := by
 have hm := KG h0
 unfold Kcu at hm
 clear h0
 refine K3 htab Tryz.func89 rfl rfl rfl rfl rfl (fun C => ?_)
 refine w_eq (i := 0) rfl (Wk.of_eq (KM a0)) ?_
 refine Kg ?_
 refine p_box rfl rfl rfl rfl rfl rfl rfl (fun b1 => ?_)
 refine pu ?_
 refine KR ?_
 refine KaE (d := .agg [.v (.int .i64 a0.gOp), .v (.int .i64 a0.gN), .v (.string a0.gName), .lst 5 (a0.gKids.map Kx) .no, .v (.int .i64 a0.gAt)]) 0 htab rfl rfl rfl rfl rfl rfl rfl rfl ?_
 refine p_lit htab rfl rfl rfl rfl rfl rfl rfl rfl rfl rfl rfl rfl rfl rfl ?_
 refine p_eq (i := 6) (d' := .lst 5 (([a0] : List Kn).map Kx) .full) rfl (Wk.lst0 (.cons (WkC.trans (WkC.agg (WkR.refl _)) (WkC.of_eq (KM a0).symm)) (.nil))) ?_
 refine pu ?_
 refine Ke ?_
 refine Kk ?_
 refine Kg ?_
 refine pu ?_
 refine Ke ?_
 obtain ⟨y22, q22, ho22⟩ := Kc hm
 refine Kae (Y := Value) (fun z22 => (⟨[(3, .lst 5 (y22.map Kx) (.cur z22))], [], [(5, z22)]⟩ : S)) ?_ ?_
 ·clear hm; have hm := KG q22
  refine KB ?_
  obtain ⟨u23, hl23, hq23⟩ := yes_m hm
  refine Kao (Y := Value) hl23 (fun s23 z23 => (⟨[(1, .ptr b1 0), (3, .lst 5 (s23.1.map Kx) (.cur z23)), (4, .v (.int .i64 s23.2))], [(b1, Blk.cells [.v (.int .i64 a0.gOp), .v (.int .i64 a0.gN), .v (.string a0.gName), .lst 5 (a0.gKids.map Kx) .no, .v (.int .i64 a0.gAt)] 100)], [(5, z23)]⟩ : S)) ?_ ?_
  ·skip
   refine WkX.tokF (i := 3) rfl (fun w36 => ?_)
   exact WkX.of w36 (WkS.perm (WkS.cons rfl (Wk.refl _) (WkS.cons rfl (Wk.refl _) (WkS.cons rfl (Wk.refl _) (WkS.nil)))) Pf Pf)
  ·intro G23 s23 z23 hm
   refine Kk ?_
   refine Kg ?_
   refine pu ?_
   refine pu ?_
   refine pL 0 ?_
   refine Kaa htab rfl rfl rfl rfl rfl rfl rfl (by first | exact KX | rfl) ?_
   refine pu ?_
   refine Ke ?_
   refine KA rfl (fun hc37 => ?_) (fun hc37 => ?_)
   ·replace hm := yes_t hc37 hm
    refine Kz ?_
    refine Kb ?_
    refine Kk ?_
    refine KB ?_
    refine Kq ?_
    refine pu ?_
    refine pu ?_
    refine pL 0 ?_
    refine pu ?_
    obtain ⟨x38, q38, hm⟩ := Kc hm
    refine Kad htab rfl rfl rfl rfl rfl rfl rfl rfl rfl rfl (Kf q38) (Kl q38) ?_
    refine p_eq (i := 18) rfl (Wk.of_eq (congrArg D.el (KM x38))) ?_
    refine KW (d := .agg [.v (.int .i64 x38.gOp), .v (.int .i64 x38.gN), .v (.string x38.gName), .lst 5 (x38.gKids.map Kx) .no, .v (.int .i64 x38.gAt)]) htab rfl rfl rfl rfl rfl rfl rfl rfl ?_
    obtain ⟨x40, q40, hm⟩ := Kc hm
    refine KaY (hg0 x38 x40 q40) rfl rfl rfl rfl rfl (WkL.cons (Wk.trans (Wk.agg (WkR.refl _)) (Wk.of_eq (KM x38).symm)) Wl) Pf Pf ?_
    rintro _ _ _ ⟨w39, rfl, rfl, rfl⟩
    obtain ⟨x41, q41, hm⟩ := Kc hm
    refine Ka0 1 htab rfl rfl rfl rfl rfl rfl rfl rfl rfl rfl rfl rfl rfl rfl rfl rfl rfl (Kan q41) (fun v41 => ?_)
    refine Ka2 (i := 21) q41 rfl ?_
    refine pu ?_
    refine Kv ?_
    refine KJ ?_
    refine Kb ?_
    refine Kq ?_
    iterate 3 refine pu ?_
    refine Kv ?_
    refine Kb ⟨_, K1 hm, ?_⟩
    exact WkX.of v41 (WkS.perm (WkS.cons rfl (Wk.refl _) (WkS.cons rfl (Wk.refl _) (WkS.cons rfl (Wk.refl _) (WkS.nil)))) Pf Pf)
   ·replace hm := yes_f hc37 hm
    refine K7 ?_
    refine KC ?_
    have e23 := K0 hm; subst e23; clear hm; have hm := hq23
    refine KC ?_
    refine K2 ?_
    have e22 := Kj hm; subst e22
    refine ⟨rfl, ?_⟩
    exact WkX.of z23 (WkS.perm (WkS.cons rfl (Wk.refl _) (WkS.nil)) Pf Pf)
 ·intro s22 hw22; clear hm; have hm := ho22; clear q22 ho22
  refine Kb ?_
  refine KV hw22 (fun z22 => ?_)
  refine Kg ?_
  refine pu ?_
  refine pu ?_
  refine Ke ?_
  refine KD ?_
  have er42 := Kj hm; subst er42
  refine rP (t' := [(2, .lst 5 (y22.map Kx) (.cur z22))]) [] [0] 0 (wC wN) (lT lN) ?_
  exact ⟨z22, rfl, rfl, rfl⟩
noncomputable def KbO : Nat → ((Kn) → Option (List Kn))
 | 0 => (fun _ => none)
 | n + 1 => (Kcu ((KbO n)))
theorem Kgu : ∀ n, (∀ (a0 : Kn) (r : List Kn) (h0 : (KbO n) a0 = some r), CallsD Tryz.prog 89 [Kx a0] [] [] (fun d h k => ∃ y0, d = .lst 5 (r.map Kx) (.cur y0) ∧ h = [] ∧ k = [(5, y0)]))
  | 0 => fun _ _ h0 => by cases h0
  | n + 1 => by
    have ih := Kgu n
    exact Kjh (KbO n) ih
theorem Kgv : ∀ n, (∀ (a0 : Kn), Le ((KbO n) a0) ((KbO (n + 1)) a0))
  | 0 => fun _ => Le.none _
  | n + 1 => by
    have ih := Kgv n
    exact fun a0 => by show Le (Kcu ((KbO n)) a0) (Kcu ((KbO (n + 1))) a0); unfold Kcu; repeat (first | exact Le.refl _ | exact ih _ | assumption | (refine Le.bind ?_ (fun _ => ?_)) | (refine Le.cond ?_ ?_) | (refine Le.loop (fun _ => ?_)) | (refine Le.elim (fun _ => ?_) (fun _ => ?_)))
noncomputable def KgL (a0 : Kn) : Option (List Kn) := anyN fun n => (KbO n) a0
theorem r11_All_of (a0 : Kn) {r : List Kn} (n : Nat) (h : (KbO n) a0 = some r) : KgL a0 = some r := Kds (fun m => (Kgv m) a0) h
theorem r11_All_ok (a0 : Kn) (r : List Kn) (h0 : KgL a0 = some r) : CallsD Tryz.prog 89 [Kx a0] [] [] (fun d h k => ∃ y0, d = .lst 5 (r.map Kx) (.cur y0) ∧ h = [] ∧ k = [(5, y0)]) :=
 let ⟨n, hn⟩ := KcT h0; (Kgu n) a0  r hn
noncomputable def Kea (a0 : List Kh) : Option (List Kn) :=
 ((Kd9 a0).bind fun x2 => (Option.bind (α := List Kn) (loopM (fun (s162 : List Kn × Int) => (bif (decide (s162.2 < (x2.length : Int))) then (Option.bind (α := List Kn) (loopM (fun (s294 : List Kn × Int) => ((idx x2 s162.2).bind fun x311 => (bif (decide (s294.2 < (x311.gExps.length : Int))) then ((idx x2 s162.2).bind fun x313 => ((idx x313.gExps s294.2).bind fun x314 => ((KgL x314).bind fun x316 => ((app 64 s294.1 x316).bind fun x317 => some (.next (x317, (IntKind.i64.wrap (s294.2 + (1 : Int))))))))) else some (.done s294.1)))) (s162.1, (0 : Int))) fun y293 => some (.next (y293, (IntKind.i64.wrap (s162.2 + (1 : Int)))))) else some (.done s162.1))) (([] : List Kn), (0 : Int))) fun y161 => some y161))
theorem Kji (a0 : List Kh) (r : List Kn) (h0 : Kea a0 = some r) : CallsD Tryz.prog 70 [.lst 7 (a0.map Ks) .no] [] [] (fun d h k => ∃ y0, d = .lst 5 (r.map Kx) (.cur y0) ∧ h = [] ∧ k = [(5, y0)]) := by
 have hm := KG h0
 unfold Kea at hm
 clear h0
 refine K3 htab Tryz.func70 rfl rfl rfl rfl rfl (fun C => ?_)
 refine Kg ?_
 refine pu ?_
 refine KR ?_
 refine pu ?_
 refine KR ?_
 refine pu ?_
 obtain ⟨x2, q2, hm⟩ := Kc hm
 refine pG (Kgt a0 x2 q2) Wl Pf Pf ?_
 rintro _ _ _ ⟨w1, rfl, rfl, rfl⟩
 refine pu ?_
 refine Ke ?_
 refine Kk ?_
 refine Kg ?_
 refine pu ?_
 refine Ke ?_
 obtain ⟨y161, q161, ho161⟩ := Kc hm
 refine Kae (Y := Value) (fun z161 => (⟨[(3, .lst 5 (y161.map Kx) (.cur z161))], [], [(5, z161)]⟩ : S)) ?_ ?_
 ·clear hm; have hm := KG q161
  refine KB ?_
  obtain ⟨u162, hl162, hq162⟩ := yes_m hm
  refine Kao (Y := Value) hl162 (fun s162 z162 => (⟨[(3, .lst 5 (s162.1.map Kx) (.cur z162)), (4, .lst 7 (x2.map Ks) (.cur w1)), (5, .v (.int .i64 s162.2))], [], [(5, z162), (7, w1)]⟩ : S)) ?_ ?_
  ·skip
   refine WkX.tokN (i := 3) 5 rfl (fun w267 => ?_)
   exact WkX.of w267 (WkS.perm (WkS.cons rfl (Wk.refl _) (WkS.cons rfl (Wk.refl _) (WkS.cons rfl (Wk.refl _) (WkS.nil)))) Pf Pf)
  ·intro G162 s162 z162 hm
   refine Kk ?_
   refine Kg ?_
   refine pu ?_
   refine pu ?_
   refine Kaa htab rfl rfl rfl rfl rfl rfl rfl (by first | exact KX | rfl) ?_
   refine pu ?_
   refine Ke ?_
   refine KA rfl (fun hc268 => ?_) (fun hc268 => ?_)
   ·replace hm := yes_t hc268 hm
    refine Kz ?_
    refine Kb ?_
    refine Kk ?_
    refine KB ?_
    refine Kg ?_
    refine pu ?_
    refine Ke ?_
    obtain ⟨y293, q293, ho293⟩ := Kc hm
    refine Kae (Y := Value) (fun z293 => (⟨[(3, .lst 5 (y293.map Kx) (.cur z293)), (4, .lst 7 (x2.map Ks) (.cur w1)), (5, .v (.int .i64 s162.2))], [], [(5, z293), (7, w1)]⟩ : S)) ?_ ?_
    ·clear hm; have hm := KG q293
     refine KB ?_
     obtain ⟨u294, hl294, hq294⟩ := yes_m hm
     refine Kao (Y := Value) hl294 (fun s294 z294 => (⟨[(3, .lst 5 (s294.1.map Kx) (.cur z294)), (4, .lst 7 (x2.map Ks) (.cur w1)), (5, .v (.int .i64 s162.2)), (6, .v (.int .i64 s294.2))], [], [(5, z294), (7, w1)]⟩ : S)) ?_ ?_
     ·skip
      exact WkX.of z162 (WkS.perm (WkS.cons rfl (Wk.refl _) (WkS.cons rfl (Wk.refl _) (WkS.cons rfl (Wk.refl _) (WkS.cons rfl (Wk.refl _) (WkS.nil))))) Pf Pf)
     ·intro G294 s294 z294 hm
      refine Kk ?_
      refine Kg ?_
      iterate 3 refine pu ?_
      obtain ⟨x311, q311, hm⟩ := Kc hm
      refine Kad htab rfl rfl rfl rfl rfl rfl rfl rfl rfl rfl (Kf q311) (Kl q311) ?_
      refine p_eq (i := 18) rfl (Wk.of_eq (congrArg D.el (Kp x311))) ?_
      refine pu ?_
      refine KW htab rfl rfl rfl rfl rfl rfl rfl rfl ?_
      refine Kaa htab rfl rfl rfl rfl rfl rfl rfl (by first | exact KX | rfl) ?_
      refine pu ?_
      refine Ke ?_
      refine KA rfl (fun hc312 => ?_) (fun hc312 => ?_)
      ·replace hm := yes_t hc312 hm
       refine Kz ?_
       refine Kb ?_
       refine Kk ?_
       refine KB ?_
       refine Kq ?_
       iterate 3 refine pu ?_
       obtain ⟨x313, q313, hm⟩ := Kc hm
       refine Kad htab rfl rfl rfl rfl rfl rfl rfl rfl rfl rfl (Kf q313) (Kl q313) ?_
       refine p_eq (i := 28) rfl (Wk.of_eq (congrArg D.el (Kp x313))) ?_
       refine pu ?_
       refine KW htab rfl rfl rfl rfl rfl rfl rfl rfl ?_
       refine pu ?_
       obtain ⟨x314, q314, hm⟩ := Kc hm
       refine Kad htab rfl rfl rfl rfl rfl rfl rfl rfl rfl rfl (Kf q314) (Kl q314) ?_
       refine p_eq (i := 32) rfl (Wk.of_eq (congrArg D.el (KM x314))) ?_
       refine KW (d := .agg [.v (.int .i64 x314.gOp), .v (.int .i64 x314.gN), .v (.string x314.gName), .lst 5 (x314.gKids.map Kx) .no, .v (.int .i64 x314.gAt)]) htab rfl rfl rfl rfl rfl rfl rfl rfl ?_
       obtain ⟨x316, q316, hm⟩ := Kc hm
       refine KaY (r11_All_ok x314 x316 q316) rfl rfl rfl rfl rfl (WkL.cons (Wk.trans (Wk.agg (WkR.refl _)) (Wk.of_eq (KM x314).symm)) Wl) Pf Pf ?_
       rintro _ _ _ ⟨w315, rfl, rfl, rfl⟩
       obtain ⟨x317, q317, hm⟩ := Kc hm
       refine Ka0 1 htab rfl rfl rfl rfl rfl rfl rfl rfl rfl rfl rfl rfl rfl rfl rfl rfl rfl (Kan q317) (fun v317 => ?_)
       refine Ka2 (i := 35) q317 rfl ?_
       refine pu ?_
       refine Kv ?_
       refine KJ ?_
       refine Kb ?_
       refine Kq ?_
       iterate 3 refine pu ?_
       refine Kv ?_
       refine Kb ⟨_, K1 hm, ?_⟩
       exact WkX.of v317 (WkS.perm (WkS.cons rfl (Wk.refl _) (WkS.cons rfl (Wk.refl _) (WkS.cons rfl (Wk.refl _) (WkS.cons rfl (Wk.refl _) (WkS.nil))))) Pf ((KI (j := 0) rfl).trans (List.Perm.cons _ ((KI (j := 1) rfl).trans (List.Perm.cons _ Pf)))))
      ·replace hm := yes_f hc312 hm
       refine K7 ?_
       refine KC ?_
       have e294 := K0 hm; subst e294; clear hm; have hm := hq294
       refine KC ?_
       refine K2 ?_
       have e293 := Kj hm; subst e293
       refine ⟨rfl, ?_⟩
       exact WkX.of z294 (WkS.perm (WkS.cons rfl (Wk.refl _) (WkS.cons rfl (Wk.refl _) (WkS.cons rfl (Wk.refl _) (WkS.nil)))) Pf Pf)
    ·intro s293 hw293; clear hm; have hm := ho293; clear q293 ho293
     refine KJ ?_
     refine Kb ?_
     refine KV hw293 (fun z293 => ?_)
     refine Kq ?_
     iterate 3 refine pu ?_
     refine Kv ?_
     refine Kb ⟨_, K1 hm, ?_⟩
     exact WkX.of z293 (WkS.perm (WkS.cons rfl (Wk.refl _) (WkS.cons rfl (Wk.refl _) (WkS.cons rfl (Wk.refl _) (WkS.nil)))) Pf Pf)
   ·replace hm := yes_f hc268 hm
    refine K7 ?_
    refine KC ?_
    have e162 := K0 hm; subst e162; clear hm; have hm := hq162
    refine KC ?_
    refine K2 ?_
    have e161 := Kj hm; subst e161
    refine ⟨rfl, ?_⟩
    exact WkX.of z162 (WkS.perm (WkS.cons rfl (Wk.refl _) (WkS.nil)) Pf Pf)
 ·intro s161 hw161; clear hm; have hm := ho161; clear q161 ho161
  refine Kb ?_
  refine KV hw161 (fun z161 => ?_)
  refine Kg ?_
  refine pu ?_
  refine pu ?_
  refine Ke ?_
  refine KD ?_
  have er318 := Kj hm; subst er318
  refine rP (t' := [(2, .lst 5 (y161.map Kx) (.cur z161))]) [] [0] 0 (wC wN) (lT lN) ?_
  exact ⟨z161, rfl, rfl, rfl⟩
noncomputable def Keb (a0 : List Kh) (a1 : Bool) : Option (List ByteArray) :=
 ((Kd9 a0).bind fun x2 => (Option.bind (α := List ByteArray) (loopM (fun (s39 : List ByteArray × Int) => (bif (decide (s39.2 < (x2.length : Int))) then ((idx x2 s39.2).bind fun x64 => (Option.bind (α := ByteArray) (bif a1 then ((idx x2 s39.2).bind fun x69 => some x69.gFunc) else some x64.gName) fun y67 => (bif (!decide (y67 = (ByteArray.mk #[]))) then ((KeA s39.1 y67).bind fun x72 => some (.next (x72, (IntKind.i64.wrap (s39.2 + (1 : Int)))))) else some (.next (s39.1, (IntKind.i64.wrap (s39.2 + (1 : Int)))))))) else some (.done s39.1))) (([] : List ByteArray), (0 : Int))) fun y38 => ((Kea a0).bind fun x74 => (Option.bind (α := List ByteArray) (loopM (fun (s107 : List ByteArray × Int) => (Option.bind (α := Bool) (bif (decide (s107.2 < (x74.length : Int))) then some (!a1) else some false) fun y129 => (bif y129 then ((idx x74 s107.2).bind fun x132 => (bif (!decide (x132.gName = (ByteArray.mk #[]))) then ((idx x74 s107.2).bind fun x134 => ((KeA s107.1 x134.gName).bind fun x136 => some (.next (x136, (IntKind.i64.wrap (s107.2 + (1 : Int))))))) else some (.next (s107.1, (IntKind.i64.wrap (s107.2 + (1 : Int))))))) else some (.done s107.1)))) (y38, (0 : Int))) fun y106 => some y106))))
theorem Kjj (a0 : List Kh) (a1 : Bool) (r : List ByteArray) (h0 : Keb a0 a1 = some r) : CallsD Tryz.prog 43 [.lst 7 (a0.map Ks) .no, .v (.bool a1)] [] [] (fun d h k => ∃ y0, d = .lst 1 (r.map eStr) (.cur y0) ∧ h = [] ∧ k = [(1, y0)]) := by
 have hm := KG h0
 unfold Keb at hm
 clear h0
 refine K3 htab Tryz.func43 rfl rfl rfl rfl rfl (fun C => ?_)
 refine Kg ?_
 refine pu ?_
 refine KR ?_
 refine pu ?_
 refine KR ?_
 refine pu ?_
 obtain ⟨x2, q2, hm⟩ := Kc hm
 refine pG (Kgt a0 x2 q2) Wl Pf Pf ?_
 rintro _ _ _ ⟨w1, rfl, rfl, rfl⟩
 refine pu ?_
 refine Ke ?_
 refine Kk ?_
 refine Kg ?_
 refine pu ?_
 refine Ke ?_
 obtain ⟨y38, q38, ho38⟩ := Kc hm
 refine Kae (Y := Value) (fun z38 => (⟨[(0, .lst 7 (a0.map Ks) .no), (1, .v (.bool a1)), (5, .lst 1 (y38.map eStr) (.cur z38))], [], [(1, z38)]⟩ : S)) ?_ ?_
 ·clear hm; have hm := KG q38
  refine KB ?_
  obtain ⟨u39, hl39, hq39⟩ := yes_m hm
  refine Kao (Y := Value) hl39 (fun s39 z39 => (⟨[(0, .lst 7 (a0.map Ks) .no), (1, .v (.bool a1)), (5, .lst 1 (s39.1.map eStr) (.cur z39)), (6, .lst 7 (x2.map Ks) (.cur w1)), (7, .v (.int .i64 s39.2))], [], [(1, z39), (7, w1)]⟩ : S)) ?_ ?_
  ·skip
   refine WkX.tokN (i := 5) 1 rfl (fun w62 => ?_)
   exact WkX.of w62 (WkS.perm (WkS.cons rfl (Wk.refl _) (WkS.cons rfl (Wk.refl _) (WkS.cons rfl (Wk.refl _) (WkS.cons rfl (Wk.refl _) (WkS.cons rfl (Wk.refl _) (WkS.nil)))))) Pf Pf)
  ·intro G39 s39 z39 hm
   refine Kk ?_
   refine Kg ?_
   refine pu ?_
   refine pu ?_
   refine Kaa htab rfl rfl rfl rfl rfl rfl rfl (by first | exact KX | rfl) ?_
   refine pu ?_
   refine Ke ?_
   refine KA rfl (fun hc63 => ?_) (fun hc63 => ?_)
   ·replace hm := yes_t hc63 hm
    refine Kz ?_
    refine Kb ?_
    refine Kk ?_
    refine KB ?_
    refine Kg ?_
    refine pu ?_
    refine pu ?_
    obtain ⟨x64, q64, hm⟩ := Kc hm
    refine Kad htab rfl rfl rfl rfl rfl rfl rfl rfl rfl rfl (Kf q64) (Kl q64) ?_
    refine p_eq (i := 21) rfl (Wk.of_eq (congrArg D.el (Kp x64))) ?_
    refine pu ?_
    refine KW htab rfl rfl rfl rfl rfl rfl rfl rfl ?_
    refine pu ?_
    refine Ke ?_
    refine Kk ?_
    refine Kg ?_
    refine pu ?_
    refine Ke ?_
    obtain ⟨y67, q67, ho67⟩ := Kc hm
    refine Kae (Y := Unit) (fun z67 => (⟨[(0, .lst 7 (a0.map Ks) .no), (1, .v (.bool a1)), (5, .lst 1 (s39.1.map eStr) (.cur z39)), (6, .lst 7 (x2.map Ks) (.cur w1)), (7, .v (.int .i64 s39.2)), (8, .v (.string y67))], [], [(1, z39), (7, w1)]⟩ : S)) ?_ ?_
    ·clear hm; have hm := KG q67
     refine KA rfl (fun hc68 => ?_) (fun hc68 => ?_)
     ·replace hm := yes_t hc68 hm
      refine Kq ?_
      refine pu ?_
      refine pu ?_
      obtain ⟨x69, q69, hm⟩ := Kc hm
      refine Kad htab rfl rfl rfl rfl rfl rfl rfl rfl rfl rfl (Kf q69) (Kl q69) ?_
      refine p_eq (i := 27) rfl (Wk.of_eq (congrArg D.el (Kp x69))) ?_
      refine pu ?_
      refine KW htab rfl rfl rfl rfl rfl rfl rfl rfl ?_
      refine pu ?_
      refine Kv ?_
      have e67 := Kj hm; subst e67
      refine ⟨rfl, ?_⟩
      exact WkX.of () (WkS.perm (WkS.cons rfl (Wk.refl _) (WkS.cons rfl (Wk.refl _) (WkS.cons rfl (Wk.refl _) (WkS.cons rfl (Wk.refl _) (WkS.cons rfl (Wk.refl _) (WkS.cons rfl (Wk.refl _) (WkS.nil))))))) Pf Pf)
     ·replace hm := yes_f hc68 hm
      refine Kz ?_
      have e67 := Kj hm; subst e67
      refine ⟨rfl, ?_⟩
      exact WkX.of () (WkS.perm (WkS.cons rfl (Wk.refl _) (WkS.cons rfl (Wk.refl _) (WkS.cons rfl (Wk.refl _) (WkS.cons rfl (Wk.refl _) (WkS.cons rfl (Wk.refl _) (WkS.cons rfl (Wk.refl _) (WkS.nil))))))) Pf Pf)
    ·intro s67 hw67; clear hm; have hm := ho67; clear q67 ho67
     refine Kb ?_
     refine KV hw67 (fun z67 => ?_)
     refine Kg ?_
     refine pu ?_
     refine pu ?_
     refine Ke ?_
     refine KA rfl (fun hc70 => ?_) (fun hc70 => ?_)
     ·replace hm := yes_t hc70 hm
      refine Kq ?_
      refine pu ?_
      refine pu ?_
      obtain ⟨x72, q72, hm⟩ := Kc hm
      refine KaY (Kh9 s39.1 y67 x72 q72) rfl rfl rfl rfl rfl (WkL.cons (Wk.no) (WkL.cons (Wk.refl _) Wl)) Pf Pf ?_
      rintro _ _ _ ⟨w71, rfl, rfl, rfl⟩
      refine pu ?_
      refine Kv ?_
      refine KJ ?_
      refine Kb ?_
      refine Kq ?_
      iterate 3 refine pu ?_
      refine Kv ?_
      refine Kb ⟨_, K1 hm, ?_⟩
      exact WkX.of w71 (WkS.perm (WkS.cons rfl (Wk.refl _) (WkS.cons rfl (Wk.refl _) (WkS.cons rfl (Wk.refl _) (WkS.cons rfl (Wk.refl _) (WkS.cons rfl (Wk.refl _) (WkS.nil)))))) Pf ((KI (j := 0) rfl).trans (List.Perm.cons _ ((KI (j := 1) rfl).trans (List.Perm.cons _ Pf)))))
     ·replace hm := yes_f hc70 hm
      refine Kz ?_
      refine KJ ?_
      refine Kb ?_
      refine Kq ?_
      iterate 3 refine pu ?_
      refine Kv ?_
      refine Kb ⟨_, K1 hm, ?_⟩
      exact WkX.of z39 (WkS.perm (WkS.cons rfl (Wk.refl _) (WkS.cons rfl (Wk.refl _) (WkS.cons rfl (Wk.refl _) (WkS.cons rfl (Wk.refl _) (WkS.cons rfl (Wk.refl _) (WkS.nil)))))) Pf Pf)
   ·replace hm := yes_f hc63 hm
    refine K7 ?_
    refine KC ?_
    have e39 := K0 hm; subst e39; clear hm; have hm := hq39
    refine KC ?_
    refine K2 ?_
    have e38 := Kj hm; subst e38
    refine ⟨rfl, ?_⟩
    exact WkX.of z39 (WkS.perm (WkS.cons rfl (Wk.refl _) (WkS.cons rfl (Wk.refl _) (WkS.cons rfl (Wk.refl _) (WkS.nil)))) Pf Pf)
 ·intro s38 hw38; clear hm; have hm := ho38; clear q38 ho38
  refine Kb ?_
  refine KV hw38 (fun z38 => ?_)
  refine Kg ?_
  refine pu ?_
  obtain ⟨x74, q74, hm⟩ := Kc hm
  refine pG (Kji a0 x74 q74) Wl Pf Pf ?_
  rintro _ _ _ ⟨w73, rfl, rfl, rfl⟩
  refine pu ?_
  refine Ke ?_
  refine Kk ?_
  refine Kg ?_
  refine pu ?_
  refine Ke ?_
  obtain ⟨y106, q106, ho106⟩ := Kc hm
  refine Kae (Y := Value) (fun z106 => (⟨[(5, .lst 1 (y106.map eStr) (.cur z106))], [], [(1, z106)]⟩ : S)) ?_ ?_
  ·clear hm; have hm := KG q106
   refine KB ?_
   obtain ⟨u107, hl107, hq107⟩ := yes_m hm
   refine Kao (Y := Value) hl107 (fun s107 z107 => (⟨[(1, .v (.bool a1)), (5, .lst 1 (s107.1.map eStr) (.cur z107)), (9, .lst 5 (x74.map Kx) (.cur w73)), (10, .v (.int .i64 s107.2))], [], [(1, z107), (5, w73)]⟩ : S)) ?_ ?_
   ·skip
    exact WkX.of z38 (WkS.perm (WkS.cons rfl (Wk.refl _) (WkS.cons rfl (Wk.refl _) (WkS.cons rfl (Wk.refl _) (WkS.cons rfl (Wk.refl _) (WkS.nil))))) Pf ((KI (j := 1) rfl).trans (List.Perm.cons _ ((KI (j := 0) rfl).trans (List.Perm.cons _ Pf)))))
   ·intro G107 s107 z107 hm
    refine Kk ?_
    refine Kk ?_
    obtain ⟨y129, q129, ho129⟩ := Kc hm
    refine Kae (Y := Unit) (fun z129 => (⟨[(1, .v (.bool a1)), (5, .lst 1 (s107.1.map eStr) (.cur z107)), (9, .lst 5 (x74.map Kx) (.cur w73)), (10, .v (.int .i64 s107.2)), (44, .v (.bool y129))], [], [(1, z107), (5, w73)]⟩ : S)) ?_ ?_
    ·clear hm; have hm := KG q129
     refine Kq ?_
     refine pu ?_
     refine pu ?_
     refine Kaa htab rfl rfl rfl rfl rfl rfl rfl (by first | exact KX | rfl) ?_
     refine pu ?_
     refine pu ?_
     refine KaD (i := 41) rfl (fun hg130 => ?_) (fun hg130 => ?_)
     ·replace hm := yes_t hg130 hm
      refine pu ?_
      refine pu ?_
      refine Kac rfl rfl rfl rfl rfl rfl ?_
      refine Kv ?_
      have e129 := Kj hm; subst e129
      refine ⟨rfl, ?_⟩
      exact WkX.of () (WkS.perm (WkS.cons rfl (Wk.refl _) (WkS.cons rfl (Wk.refl _) (WkS.cons rfl (Wk.refl _) (WkS.cons rfl (Wk.refl _) (WkS.cons rfl (Wk.refl _) (WkS.nil)))))) Pf Pf)
     ·replace hm := yes_f hg130 hm
      refine pK ?_
      refine pK ?_
      refine K8 rfl rfl rfl rfl rfl rfl ?_
      refine Kv ?_
      have e129 := Kj hm; subst e129
      refine ⟨rfl, ?_⟩
      exact WkX.of () (WkS.perm (WkS.cons rfl (Wk.refl _) (WkS.cons rfl (Wk.refl _) (WkS.cons rfl (Wk.refl _) (WkS.cons rfl (Wk.refl _) (WkS.cons rfl (Wk.refl _) (WkS.nil)))))) Pf Pf)
    ·intro s129 hw129; clear hm; have hm := ho129; clear q129 ho129
     refine Kb ?_
     refine KV hw129 (fun z129 => ?_)
     refine KA rfl (fun hc131 => ?_) (fun hc131 => ?_)
     ·replace hm := yes_t hc131 hm
      refine Kz ?_
      refine Kb ?_
      refine Kk ?_
      refine KB ?_
      refine Kg ?_
      refine pu ?_
      refine pu ?_
      obtain ⟨x132, q132, hm⟩ := Kc hm
      refine Kad htab rfl rfl rfl rfl rfl rfl rfl rfl rfl rfl (Kf q132) (Kl q132) ?_
      refine p_eq (i := 49) rfl (Wk.of_eq (congrArg D.el (KM x132))) ?_
      refine pu ?_
      refine KW htab rfl rfl rfl rfl rfl rfl rfl rfl ?_
      refine pu ?_
      refine Ke ?_
      refine KA rfl (fun hc133 => ?_) (fun hc133 => ?_)
      ·replace hm := yes_t hc133 hm
       refine Kq ?_
       iterate 3 refine pu ?_
       obtain ⟨x134, q134, hm⟩ := Kc hm
       refine Kad htab rfl rfl rfl rfl rfl rfl rfl rfl rfl rfl (Kf q134) (Kl q134) ?_
       refine p_eq (i := 56) rfl (Wk.of_eq (congrArg D.el (KM x134))) ?_
       refine pu ?_
       refine KW htab rfl rfl rfl rfl rfl rfl rfl rfl ?_
       obtain ⟨x136, q136, hm⟩ := Kc hm
       refine KaY (Kh9 s107.1 x134.gName x136 q136) rfl rfl rfl rfl rfl (WkL.cons (Wk.no) (WkL.cons (Wk.refl _) Wl)) Pf Pf ?_
       rintro _ _ _ ⟨w135, rfl, rfl, rfl⟩
       refine pu ?_
       refine Kv ?_
       refine KJ ?_
       refine Kb ?_
       refine Kq ?_
       iterate 3 refine pu ?_
       refine Kv ?_
       refine Kb ⟨_, K1 hm, ?_⟩
       exact WkX.of w135 (WkS.perm (WkS.cons rfl (Wk.refl _) (WkS.cons rfl (Wk.refl _) (WkS.cons rfl (Wk.refl _) (WkS.cons rfl (Wk.refl _) (WkS.nil))))) Pf ((KI (j := 0) rfl).trans (List.Perm.cons _ ((KI (j := 1) rfl).trans (List.Perm.cons _ Pf)))))
      ·replace hm := yes_f hc133 hm
       refine Kz ?_
       refine KJ ?_
       refine Kb ?_
       refine Kq ?_
       iterate 3 refine pu ?_
       refine Kv ?_
       refine Kb ⟨_, K1 hm, ?_⟩
       exact WkX.of z107 (WkS.perm (WkS.cons rfl (Wk.refl _) (WkS.cons rfl (Wk.refl _) (WkS.cons rfl (Wk.refl _) (WkS.cons rfl (Wk.refl _) (WkS.nil))))) Pf Pf)
     ·replace hm := yes_f hc131 hm
      refine K7 ?_
      refine KC ?_
      have e107 := K0 hm; subst e107; clear hm; have hm := hq107
      refine KC ?_
      refine K2 ?_
      have e106 := Kj hm; subst e106
      refine ⟨rfl, ?_⟩
      exact WkX.of z107 (WkS.perm (WkS.cons rfl (Wk.refl _) (WkS.nil)) Pf Pf)
  ·intro s106 hw106; clear hm; have hm := ho106; clear q106 ho106
   refine Kb ?_
   refine KV hw106 (fun z106 => ?_)
   refine Kg ?_
   refine pu ?_
   refine pu ?_
   refine Ke ?_
   refine KD ?_
   have er137 := Kj hm; subst er137
   refine rP (t' := [(4, .lst 1 (y106.map eStr) (.cur z106))]) [] [0] 0 (wC wN) (lT lN) ?_
   exact ⟨z106, rfl, rfl, rfl⟩
noncomputable def Kec (a0 : List ByteArray) (a1 : ByteArray) : Option (Bool) :=
 (Option.bind (α := (Unit) ⊕ (Bool)) (loopM (fun (s15 : Int) => (bif (decide (s15 < (a0.length : Int))) then ((idx a0 s15).bind fun x25 => (bif (decide (x25 = a1)) then some (.done (.inr true)) else some (.next (IntKind.i64.wrap (s15 + (1 : Int)))))) else some (.done (.inl ())))) (0 : Int)) (Sum.elim (fun y14 => some false) (fun r => some r)))
theorem Ke8 (a0 : List ByteArray) (a1 : ByteArray) (r : Bool) (h0 : Kec a0 a1 = some r) : CallsD Tryz.prog 25 [.lst 1 (a0.map eStr) .no, .v (.string a1)] [] [] (fun d h k => d = .v (.bool r) ∧ h = [] ∧ k = []) := by
 have hm := KG h0
 unfold Kec at hm
 clear h0
 refine K3 htab Tryz.func25 rfl rfl rfl rfl rfl (fun C => ?_)
 refine Kg ?_
 refine pu ?_
 refine Ke ?_
 refine Kk ?_
 refine Kg ?_
 refine pu ?_
 refine Ke ?_
 obtain ⟨x14, q14, ho14⟩ := Kc hm
 refine Ka1 (τ := Unit) (Y := Unit) (fun y14 z14 => (⟨[], [], []⟩ : S)) x14 ?_ ?_
 ·clear hm; have hm := KG q14
  refine KB ?_
  obtain ⟨u15, hl15, hq15⟩ := yes_m hm
  refine Kao (Y := Unit) hl15 (fun s15 z15 => (⟨[(0, .lst 1 (a0.map eStr) .no), (1, .v (.string a1)), (5, .v (.int .i64 s15))], [], []⟩ : S)) ?_ ?_
  ·skip
   exact WkX.of () (WkS.perm (WkS.cons rfl (Wk.refl _) (WkS.cons rfl (Wk.refl _) (WkS.cons rfl (Wk.refl _) (WkS.nil)))) Pf Pf)
  ·intro G15 s15 z15 hm
   refine Kk ?_
   refine Kg ?_
   refine pu ?_
   refine pu ?_
   refine Kaa htab rfl rfl rfl rfl rfl rfl rfl (by first | exact KX | rfl) ?_
   refine pu ?_
   refine Ke ?_
   refine KA rfl (fun hc24 => ?_) (fun hc24 => ?_)
   ·replace hm := yes_t hc24 hm
    refine Kz ?_
    refine Kb ?_
    refine Kk ?_
    refine KB ?_
    refine Kg ?_
    refine pu ?_
    refine pu ?_
    obtain ⟨x25, q25, hm⟩ := Kc hm
    refine Kad htab rfl rfl rfl rfl rfl rfl rfl rfl rfl rfl (Kf q25) (Kl q25) ?_
    refine KW htab rfl rfl rfl rfl rfl rfl rfl rfl ?_
    refine pu ?_
    refine pu ?_
    refine Ke ?_
    refine KA rfl (fun hc26 => ?_) (fun hc26 => ?_)
    ·replace hm := yes_t hc26 hm
     refine Kg ?_
     refine pu ?_
     refine Ke ?_
     refine KD ?_
     refine Kak ?_
     refine KS ?_
     have e15 := K0 hm; subst e15; clear hm; have hm := hq15
     refine KS ?_
     refine Kak ?_
     have e14 := Kj hm; subst e14; refine Ka4 ?_; clear hm; have hm := ho14; simp only [Sum.elim_inr] at hm
     refine KS ?_
     have er27 := Kj hm; subst er27
     refine rP (t' := [(4, .v (.bool true))]) [] [] 0 (wC wN) (lT lN) ?_
     exact ⟨rfl, rfl, rfl⟩
    ·replace hm := yes_f hc26 hm
     refine Kz ?_
     refine KJ ?_
     refine Kb ?_
     refine Kq ?_
     iterate 3 refine pu ?_
     refine Kv ?_
     refine Kb ⟨_, K1 hm, ?_⟩
     exact WkX.of () (WkS.perm (WkS.cons rfl (Wk.refl _) (WkS.cons rfl (Wk.refl _) (WkS.cons rfl (Wk.refl _) (WkS.nil)))) Pf Pf)
   ·replace hm := yes_f hc24 hm
    refine K7 ?_
    refine KC ?_
    have e15 := K0 hm; subst e15; clear hm; have hm := hq15
    refine KC ?_
    refine K2 ?_
    have e14 := Kj hm; subst e14
    refine Ka3 ?_
    exact WkX.of () (WkS.perm (WkS.nil) Pf Pf)
 ·intro y14 s14 hx14 hw14; subst hx14; clear hm; have hm := ho14; simp only [Sum.elim_inl] at hm; clear q14 ho14
  refine Kb ?_
  refine KV hw14 (fun z14 => ?_)
  refine Kg ?_
  refine pu ?_
  refine Ke ?_
  refine KD ?_
  have er28 := Kj hm; subst er28
  refine rP (t' := [(4, .v (.bool false))]) [] [] 0 (wC wN) (lT lN) ?_
  exact ⟨rfl, rfl, rfl⟩
noncomputable def Kdi (a0 : Kw) (a1 : Kw) : Option (List ByteArray) :=
 ((KeX a0 a1 true).bind fun x4 => ((KeX a0 a1 false).bind fun x6 => ((app 96 ([] : List KT) a0.gFuncs).bind fun x7 => ((app 96 x7 a1.gFuncs).bind fun x8 => (Option.bind (α := List ByteArray) (loopM (fun (s174 : List ByteArray × Int) => (bif (decide (s174.2 < (x8.length : Int))) then ((idx x8 s174.2).bind fun x284 => ((Keb x284.gBody false).bind fun x286 => (Option.bind (α := List ByteArray) (loopM (fun (s312 : List ByteArray × Int) => (bif (decide (s312.2 < (x6.length : Int))) then ((idx x6 s312.2).bind fun x330 => ((Kec x286 x330).bind fun x331 => (bif x331 then ((idx x8 s174.2).bind fun x333 => ((KdS s312.1 x333.gName).bind fun x335 => some (.next (x335, (IntKind.i64.wrap (s312.2 + (1 : Int))))))) else some (.next (s312.1, (IntKind.i64.wrap (s312.2 + (1 : Int)))))))) else some (.done s312.1))) (s174.1, (0 : Int))) fun y311 => some (.next (y311, (IntKind.i64.wrap (s174.2 + (1 : Int)))))))) else some (.done s174.1))) (x4, (0 : Int))) fun y173 => some y173)))))
theorem Kim (a0 : Kw) (a1 : Kw) (r : List ByteArray) (h0 : Kdi a0 a1 = some r) : CallsD Tryz.prog 23 [Ku a0, Ku a1] [] [] (fun d h k => ∃ y0, d = .lst 1 (r.map eStr) (.cur y0) ∧ h = [] ∧ k = [(1, y0)]) := by
 have hm := KG h0
 unfold Kdi at hm
 clear h0
 refine K3 htab Tryz.func23 rfl rfl rfl rfl rfl (fun C => ?_)
 refine Kg ?_
 refine p_box rfl rfl rfl rfl rfl rfl rfl (fun b1 => ?_)
 refine p_box rfl rfl rfl rfl rfl rfl rfl (fun b2 => ?_)
 refine pu ?_
 refine KR ?_
 refine KaE (d := Ku a0) 0 htab rfl rfl rfl rfl rfl rfl rfl rfl ?_
 refine KaE (d := Ku a1) 1 htab rfl rfl rfl rfl rfl rfl rfl rfl ?_
 obtain ⟨x4, q4, hm⟩ := Kc hm
 refine pG (Kgs a0 a1 true x4 q4) Wl Pf Pf ?_
 rintro _ _ _ ⟨w3, rfl, rfl, rfl⟩
 refine pu ?_
 refine KR ?_
 refine KaE (d := Ku a0) 0 htab rfl rfl rfl rfl rfl rfl rfl rfl ?_
 refine KaE (d := Ku a1) 1 htab rfl rfl rfl rfl rfl rfl rfl rfl ?_
 obtain ⟨x6, q6, hm⟩ := Kc hm
 refine pG (Kgs a0 a1 false x6 q6) Wl Pf Pf ?_
 rintro _ _ _ ⟨w5, rfl, rfl, rfl⟩
 refine pu ?_
 refine KR ?_
 refine pu ?_
 refine KR ?_
 refine pu ?_
 refine pu ?_
 refine pL 0 ?_
 obtain ⟨x7, q7, hm⟩ := Kc hm
 refine p_app0 htab rfl rfl rfl rfl rfl rfl rfl rfl rfl rfl rfl rfl rfl rfl rfl (by simpa using Kan (e := KF) q7) (fun v7 => ?_)
 refine p_mapD0 (i := 20) q7 rfl ?_
 refine pu ?_
 refine KR ?_
 refine pu ?_
 refine pu ?_
 refine pL 1 ?_
 obtain ⟨x8, q8, hm⟩ := Kc hm
 refine Ka0 0 htab rfl rfl rfl rfl rfl rfl rfl rfl rfl rfl rfl rfl rfl rfl rfl rfl rfl (Kan q8) (fun v8 => ?_)
 refine Ka2 (i := 24) q8 rfl ?_
 refine pu ?_
 refine Ke ?_
 refine Kk ?_
 refine Kg ?_
 refine pu ?_
 refine Ke ?_
 obtain ⟨y173, q173, ho173⟩ := Kc hm
 refine Kae (Y := Value) (fun z173 => (⟨[(5, .lst 1 (y173.map eStr) (.cur z173))], [], [(1, z173)]⟩ : S)) ?_ ?_
 ·clear hm; have hm := KG q173
  refine KB ?_
  obtain ⟨u174, hl174, hq174⟩ := yes_m hm
  refine Kao (Y := Value) hl174 (fun s174 z174 => (⟨[(5, .lst 1 (s174.1.map eStr) (.cur z174)), (6, .lst 1 (x6.map eStr) (.cur w5)), (7, .lst 5 (x8.map KF) (.cur v8)), (8, .v (.int .i64 s174.2))], [], [(1, z174), (5, v8), (1, w5)]⟩ : S)) ?_ ?_
  ·skip
   exact WkX.of w3 (WkS.perm (WkS.cons rfl (Wk.refl _) (WkS.cons rfl (Wk.refl _) (WkS.cons rfl (Wk.refl _) (WkS.cons rfl (Wk.refl _) (WkS.nil))))) Pf ((KI (j := 2) rfl).trans (List.Perm.cons _ ((KI (j := 0) rfl).trans (List.Perm.cons _ ((KI (j := 0) rfl).trans (List.Perm.cons _ Pf)))))))
  ·intro G174 s174 z174 hm
   refine Kk ?_
   refine Kg ?_
   refine pu ?_
   refine pu ?_
   refine Kaa htab rfl rfl rfl rfl rfl rfl rfl (by first | exact KX | rfl) ?_
   refine pu ?_
   refine Ke ?_
   refine KA rfl (fun hc283 => ?_) (fun hc283 => ?_)
   ·replace hm := yes_t hc283 hm
    refine Kz ?_
    refine Kb ?_
    refine Kk ?_
    refine KB ?_
    refine Kg ?_
    refine pu ?_
    refine pu ?_
    obtain ⟨x284, q284, hm⟩ := Kc hm
    refine Kad htab rfl rfl rfl rfl rfl rfl rfl rfl rfl rfl (Kf q284) (Kl q284) ?_
    refine pu ?_
    refine KW htab rfl rfl rfl rfl rfl rfl rfl rfl ?_
    obtain ⟨x286, q286, hm⟩ := Kc hm
    refine pG (Kjj x284.gBody false x286 q286) Wl Pf Pf ?_
    rintro _ _ _ ⟨w285, rfl, rfl, rfl⟩
    refine pu ?_
    refine KR ?_
    refine pu ?_
    refine Ke ?_
    obtain ⟨y311, q311, ho311⟩ := Kc hm
    refine Kae (Y := Value) (fun z311 => (⟨[(5, .lst 1 (y311.map eStr) (.cur z311)), (6, .lst 1 (x6.map eStr) (.cur w5)), (7, .lst 5 (x8.map KF) (.cur v8)), (8, .v (.int .i64 s174.2))], [], [(1, z311), (5, v8), (1, w5)]⟩ : S)) ?_ ?_
    ·clear hm; have hm := KG q311
     refine KB ?_
     obtain ⟨u312, hl312, hq312⟩ := yes_m hm
     refine Kao (Y := Value) hl312 (fun s312 z312 => (⟨[(5, .lst 1 (s312.1.map eStr) (.cur z312)), (6, .lst 1 (x6.map eStr) (.cur w5)), (7, .lst 5 (x8.map KF) (.cur v8)), (8, .v (.int .i64 s174.2)), (9, .lst 1 (x286.map eStr) (.cur w285)), (10, .v (.int .i64 s312.2))], [], [(1, z312), (1, w285), (5, v8), (1, w5)]⟩ : S)) ?_ ?_
     ·skip
      exact WkX.of z174 (WkS.perm (WkS.cons rfl (Wk.refl _) (WkS.cons rfl (Wk.refl _) (WkS.cons rfl (Wk.refl _) (WkS.cons rfl (Wk.refl _) (WkS.cons rfl (Wk.refl _) (WkS.cons rfl (Wk.refl _) (WkS.nil))))))) Pf ((KI (j := 1) rfl).trans (List.Perm.cons _ ((KI (j := 0) rfl).trans (List.Perm.cons _ ((KI (j := 0) rfl).trans (List.Perm.cons _ ((KI (j := 0) rfl).trans (List.Perm.cons _ Pf)))))))))
     ·intro G312 s312 z312 hm
      refine Kk ?_
      refine Kg ?_
      refine pu ?_
      refine pu ?_
      refine Kaa htab rfl rfl rfl rfl rfl rfl rfl (by first | exact KX | rfl) ?_
      refine pu ?_
      refine Ke ?_
      refine KA rfl (fun hc329 => ?_) (fun hc329 => ?_)
      ·replace hm := yes_t hc329 hm
       refine Kz ?_
       refine Kb ?_
       refine Kk ?_
       refine KB ?_
       refine Kg ?_
       iterate 3 refine pu ?_
       obtain ⟨x330, q330, hm⟩ := Kc hm
       refine Kad htab rfl rfl rfl rfl rfl rfl rfl rfl rfl rfl (Kf q330) (Kl q330) ?_
       refine KW htab rfl rfl rfl rfl rfl rfl rfl rfl ?_
       obtain ⟨x331, q331, hm⟩ := Kc hm
       refine Kai (Ke8 x286 x330 x331 q331) rfl rfl rfl rfl rfl (WkL.cons (Wk.no) (WkL.cons (Wk.refl _) Wl)) ?_
       rintro _ rfl
       refine Ke ?_
       refine KA rfl (fun hc332 => ?_) (fun hc332 => ?_)
       ·replace hm := yes_t hc332 hm
        refine Kq ?_
        iterate 3 refine pu ?_
        obtain ⟨x333, q333, hm⟩ := Kc hm
        refine Kad htab rfl rfl rfl rfl rfl rfl rfl rfl rfl rfl (Kf q333) (Kl q333) ?_
        refine pu ?_
        refine KW htab rfl rfl rfl rfl rfl rfl rfl rfl ?_
        obtain ⟨x335, q335, hm⟩ := Kc hm
        refine KaY (Kh8 s312.1 x333.gName x335 q335) rfl rfl rfl rfl rfl (WkL.cons (Wk.no) (WkL.cons (Wk.refl _) Wl)) Pf Pf ?_
        rintro _ _ _ ⟨w334, rfl, rfl, rfl⟩
        refine pu ?_
        refine Kv ?_
        refine KJ ?_
        refine Kb ?_
        refine Kq ?_
        iterate 3 refine pu ?_
        refine Kv ?_
        refine Kb ⟨_, K1 hm, ?_⟩
        exact WkX.of w334 (WkS.perm (WkS.cons rfl (Wk.refl _) (WkS.cons rfl (Wk.refl _) (WkS.cons rfl (Wk.refl _) (WkS.cons rfl (Wk.refl _) (WkS.cons rfl (Wk.refl _) (WkS.cons rfl (Wk.refl _) (WkS.nil))))))) Pf ((KI (j := 0) rfl).trans (List.Perm.cons _ ((KI (j := 1) rfl).trans (List.Perm.cons _ ((KI (j := 1) rfl).trans (List.Perm.cons _ ((KI (j := 1) rfl).trans (List.Perm.cons _ Pf)))))))))
       ·replace hm := yes_f hc332 hm
        refine Kz ?_
        refine KJ ?_
        refine Kb ?_
        refine Kq ?_
        iterate 3 refine pu ?_
        refine Kv ?_
        refine Kb ⟨_, K1 hm, ?_⟩
        exact WkX.of z312 (WkS.perm (WkS.cons rfl (Wk.refl _) (WkS.cons rfl (Wk.refl _) (WkS.cons rfl (Wk.refl _) (WkS.cons rfl (Wk.refl _) (WkS.cons rfl (Wk.refl _) (WkS.cons rfl (Wk.refl _) (WkS.nil))))))) Pf Pf)
      ·replace hm := yes_f hc329 hm
       refine K7 ?_
       refine KC ?_
       have e312 := K0 hm; subst e312; clear hm; have hm := hq312
       refine KC ?_
       refine K2 ?_
       have e311 := Kj hm; subst e311
       refine ⟨rfl, ?_⟩
       exact WkX.of z312 (WkS.perm (WkS.cons rfl (Wk.refl _) (WkS.cons rfl (Wk.refl _) (WkS.cons rfl (Wk.refl _) (WkS.cons rfl (Wk.refl _) (WkS.nil))))) Pf ((KI (j := 0) rfl).trans (List.Perm.cons _ ((KI (j := 1) rfl).trans (List.Perm.cons _ ((KI (j := 1) rfl).trans (List.Perm.cons _ Pf)))))))
    ·intro s311 hw311; clear hm; have hm := ho311; clear q311 ho311
     refine KJ ?_
     refine Kb ?_
     refine KV hw311 (fun z311 => ?_)
     refine Kq ?_
     iterate 3 refine pu ?_
     refine Kv ?_
     refine Kb ⟨_, K1 hm, ?_⟩
     exact WkX.of z311 (WkS.perm (WkS.cons rfl (Wk.refl _) (WkS.cons rfl (Wk.refl _) (WkS.cons rfl (Wk.refl _) (WkS.cons rfl (Wk.refl _) (WkS.nil))))) Pf Pf)
   ·replace hm := yes_f hc283 hm
    refine K7 ?_
    refine KC ?_
    have e174 := K0 hm; subst e174; clear hm; have hm := hq174
    refine KC ?_
    refine K2 ?_
    have e173 := Kj hm; subst e173
    refine ⟨rfl, ?_⟩
    exact WkX.of z174 (WkS.perm (WkS.cons rfl (Wk.refl _) (WkS.nil)) Pf Pf)
 ·intro s173 hw173; clear hm; have hm := ho173; clear q173 ho173
  refine Kb ?_
  refine KV hw173 (fun z173 => ?_)
  refine Kg ?_
  refine pu ?_
  refine pu ?_
  refine Ke ?_
  refine KD ?_
  have er336 := Kj hm; subst er336
  refine rP (t' := [(4, .lst 1 (y173.map eStr) (.cur z173))]) [] [0] 0 (wC wN) (lT lN) ?_
  exact ⟨z173, rfl, rfl, rfl⟩
noncomputable def Kcg (a0 : Ka) : Option (Ka) :=
 (bif (decide (a0.gNode < (0 : Int))) then some (⟨a0.gName, (-1 : Int)⟩ : Ka) else some a0)
theorem Kc0 (a0 : Ka) (r : Ka) (h0 : Kcg a0 = some r) : CallsD Tryz.prog 29 [Kd a0] [] [] (fun d h k => d = Kd r ∧ h = [] ∧ k = []) := by
 have hm := KG h0
 unfold Kcg at hm
 clear h0
 refine K3 htab Tryz.func29 rfl rfl rfl rfl rfl (fun C => ?_)
 refine Kg ?_
 refine p_box rfl rfl rfl rfl rfl rfl rfl (fun b1 => ?_)
 refine Kay htab rfl rfl rfl rfl rfl rfl rfl (fun b2 => ?_)
 refine Ke ?_
 refine Kk ?_
 refine Kg ?_
 refine pu ?_
 refine pL 0 ?_
 refine pu ?_
 refine Ke ?_
 refine KA rfl (fun hc3 => ?_) (fun hc3 => ?_)
 ·replace hm := yes_t hc3 hm
  refine Kg ?_
  refine pu ?_
  refine pL 0 ?_
  refine Kb8 (r := [.v (.string a0.gName), .v (.int .i64 (-1 : Int))]) htab rfl rfl rfl rfl rfl rfl rfl rfl rfl ?_
  refine pS1 (ds' := [.v (.string a0.gName), .v (.int .i64 (-1 : Int))]) ?_
  refine Ke ?_
  refine KD ?_
  refine KS ?_
  have er4 := Kj hm; subst er4
  refine rP (t' := [(2, .ptr b2 0)]) [1] [] 0 (wC wN) (lC 0 lN) ?_
  exact ⟨rfl, rfl, rfl⟩
 ·replace hm := yes_f hc3 hm
  refine Kz ?_
  refine Kb ?_
  refine Kg ?_
  refine KaE (d := Kd a0) 0 htab rfl rfl rfl rfl rfl rfl rfl rfl ?_
  refine pS1 (ds' := [.v (.string a0.gName), .v (.int .i64 a0.gNode)]) ?_
  refine Ke ?_
  refine KD ?_
  have er5 := Kj hm; subst er5
  refine rP (t' := [(2, .ptr b2 0)]) [1] [] 0 (wC wN) (lC 0 lN) ?_
  exact ⟨rfl, rfl, rfl⟩
noncomputable def KeY (a0 : Ka) (a1 : Ka) : Option (Bool) :=
 (bif (!decide (a0.gName = a1.gName)) then some (ltB a0.gName a1.gName) else some (decide (a0.gNode < a1.gNode)))
theorem Kjz (a0 : Ka) (a1 : Ka) (r : Bool) (h0 : KeY a0 a1 = some r) : CallsD Tryz.prog 47 [Kd a0, Kd a1] [] [] (fun d h k => d = .v (.bool r) ∧ h = [] ∧ k = []) := by
 have hm := KG h0
 unfold KeY at hm
 clear h0
 refine K3 htab Tryz.func47 rfl rfl rfl rfl rfl (fun C => ?_)
 refine Kg ?_
 refine p_box rfl rfl rfl rfl rfl rfl rfl (fun b1 => ?_)
 refine p_box rfl rfl rfl rfl rfl rfl rfl (fun b2 => ?_)
 refine pu ?_
 refine Ke ?_
 refine Kk ?_
 refine Kg ?_
 refine pu ?_
 refine pL 0 ?_
 refine pu ?_
 refine pL 1 ?_
 refine pu ?_
 refine Ke ?_
 refine KA rfl (fun hc4 => ?_) (fun hc4 => ?_)
 ·replace hm := yes_t hc4 hm
  refine Kg ?_
  refine pu ?_
  refine pL 0 ?_
  refine pu ?_
  refine pL 1 ?_
  refine p_ltS rfl rfl rfl rfl rfl rfl rfl ?_
  refine pu ?_
  refine Ke ?_
  refine KD ?_
  refine KS ?_
  have er5 := Kj hm; subst er5
  refine rP (t' := [(4, .v (.bool (ltB a0.gName a1.gName)))]) [] [] 0 (wC wN) (lT lN) ?_
  exact ⟨rfl, rfl, rfl⟩
 ·replace hm := yes_f hc4 hm
  refine Kz ?_
  refine Kb ?_
  refine Kg ?_
  refine pu ?_
  refine pL 0 ?_
  refine pu ?_
  refine pL 1 ?_
  refine pu ?_
  refine pu ?_
  refine Ke ?_
  refine KD ?_
  have er6 := Kj hm; subst er6
  refine rP (t' := [(4, .v (.bool (decide (a0.gNode < a1.gNode))))]) [] [] 0 (wC wN) (lT lN) ?_
  exact ⟨rfl, rfl, rfl⟩
noncomputable def Kca (a0 : List Ka) (a1 : Ka) : Option (List Ka) :=
 ((Kcg a1).bind fun x2 => (Option.bind (α := List Ka) (loopM (fun (s39 : List Ka × Int) => (Option.bind (α := Bool) (bif (decide (s39.2 < (a0.length : Int))) then ((idx a0 s39.2).bind fun x68 => ((KeY x68 x2).bind fun x69 => some x69)) else some false) fun y66 => (bif y66 then ((idx a0 s39.2).bind fun x71 => ((app 24 s39.1 ([x71] : List Ka)).bind fun x72 => some (.next (x72, (IntKind.i64.wrap (s39.2 + (1 : Int))))))) else some (.done s39.1)))) (([] : List Ka), (0 : Int))) fun y38 => ((app 24 y38 ([x2] : List Ka)).bind fun x73 => (Option.bind (α := List Ka) (loopM (fun (s94 : List Ka × Int) => (bif (decide (s94.2 < (a0.length : Int))) then ((idx a0 s94.2).bind fun x108 => (bif (!(decide (x108.gName = x2.gName) && (x108.gNode == x2.gNode && true))) then ((idx a0 s94.2).bind fun x110 => ((app 24 s94.1 ([x110] : List Ka)).bind fun x111 => some (.next (x111, (IntKind.i64.wrap (s94.2 + (1 : Int))))))) else some (.next (s94.1, (IntKind.i64.wrap (s94.2 + (1 : Int))))))) else some (.done s94.1))) (x73, (y38.length : Int))) fun y93 => some y93))))
theorem Ket (a0 : List Ka) (a1 : Ka) (r : List Ka) (h0 : Kca a0 a1 = some r) : CallsD Tryz.prog 26 [.lst 2 (a0.map Kd) .no, Kd a1] [] [] (fun d h k => ∃ y0, d = .lst 2 (r.map Kd) (.cur y0) ∧ h = [] ∧ k = [(2, y0)]) := by
 have hm := KG h0
 unfold Kca at hm
 clear h0
 refine K3 htab Tryz.func26 rfl rfl rfl rfl rfl (fun C => ?_)
 refine Kg ?_
 refine p_box rfl rfl rfl rfl rfl rfl rfl (fun b1 => ?_)
 refine pu ?_
 refine KR ?_
 refine KaE (d := Kd a1) 0 htab rfl rfl rfl rfl rfl rfl rfl rfl ?_
 obtain ⟨x2, q2, hm⟩ := Kc hm
 refine Kai (Kc0 a1 x2 q2) rfl rfl rfl rfl rfl Wl ?_
 rintro _ rfl
 refine pS0 (ds' := [.v (.string x2.gName), .v (.int .i64 x2.gNode)]) ?_
 refine KR ?_
 refine pu ?_
 refine Ke ?_
 refine Kk ?_
 refine Kg ?_
 refine pu ?_
 refine Ke ?_
 obtain ⟨y38, q38, ho38⟩ := Kc hm
 refine Kae (Y := Value) (fun z38 => (⟨[(0, .lst 2 (a0.map Kd) .no), (3, .ptr b1 0), (5, .lst 2 (y38.map Kd) (.cur z38))], [(b1, Blk.cells [.v (.string x2.gName), .v (.int .i64 x2.gNode)] 41)], [(2, z38)]⟩ : S)) ?_ ?_
 ·clear hm; have hm := KG q38
  refine KB ?_
  obtain ⟨u39, hl39, hq39⟩ := yes_m hm
  refine Kao (Y := Value) hl39 (fun s39 z39 => (⟨[(0, .lst 2 (a0.map Kd) .no), (3, .ptr b1 0), (5, .lst 2 (s39.1.map Kd) (.cur z39)), (6, .v (.int .i64 s39.2))], [(b1, Blk.cells [.v (.string x2.gName), .v (.int .i64 x2.gNode)] 41)], [(2, z39)]⟩ : S)) ?_ ?_
  ·skip
   refine WkX.tokN (i := 5) 2 rfl (fun w62 => ?_)
   exact WkX.of w62 (WkS.perm (WkS.cons rfl (Wk.refl _) (WkS.cons rfl (Wk.refl _) (WkS.cons rfl (Wk.refl _) (WkS.cons rfl (Wk.refl _) (WkS.nil))))) Pf Pf)
  ·intro G39 s39 z39 hm
   refine Kk ?_
   refine Kk ?_
   obtain ⟨y66, q66, ho66⟩ := Kc hm
   refine Kae (Y := Unit) (fun z66 => (⟨[(0, .lst 2 (a0.map Kd) .no), (3, .ptr b1 0), (5, .lst 2 (s39.1.map Kd) (.cur z39)), (6, .v (.int .i64 s39.2)), (22, .v (.bool y66))], [(b1, Blk.cells [.v (.string x2.gName), .v (.int .i64 x2.gNode)] 41)], [(2, z39)]⟩ : S)) ?_ ?_
   ·clear hm; have hm := KG q66
    refine bycB (decide (s39.2 < (a0.length : Int))) (fun hs67 => ?_) (fun hs67 => ?_)
    ·replace hm := yes_t hs67 hm
     obtain ⟨x68, q68, hm⟩ := Kc hm
     refine Kaf 10 [] [[],[],[1],[1],[1],[1],[1],[1,5],[1,5,7],[1]] [1,5,7,8,9] [[],[],[1],[0,1,2],[0,1,2,3],[0,1,2,3,4],[0,1,2,3,4],[0,1,2,3,4,5,6],[0,1,2,3,4,5,6,7],[0,1,2,3,4],[0,1,2,3,4,5,6,7,8,9],[0,1,2,3,4,5,6,7,8,9,10]] (by kernel_rfl) (by kernel_rfl) (by kernel_rfl) (by rfl) (by rfl) (by kernel_rfl) ?_
     iterate 5 apply Exists.intro
     intro bs
     refine zqp ?_
     refine zep ?_
     refine z_q rfl rfl (x_lenL htab rfl rfl rfl rfl (by first | exact KX | rfl)) rfl rfl rfl rfl rfl rfl ?_
     refine zqp ?_
     refine zqp ?_
     refine KQ (j := 15) (b' := true) rfl hs67 ?_
     refine zep ?_
     refine zqp ?_
     refine z_e rfl rfl (KE htab rfl rfl rfl rfl rfl rfl rfl (Kf q68) (Kl q68)) rfl rfl rfl rfl rfl rfl ?_
     refine z_eM rfl rfl (Ko (d := Kd x68) htab rfl rfl rfl rfl rfl) rfl rfl rfl rfl rfl rfl ?_
     refine z_eM rfl rfl (Kaj (d := Kd x2) 0 htab rfl rfl rfl rfl rfl) rfl rfl rfl rfl rfl rfl ?_
     refine z_nil rfl rfl (fun e he => by simp [isAl] at he) ?_
     obtain ⟨x69, q69, hm⟩ := Kc hm
     refine Kai (Kjz x68 x2 x69 q69) rfl rfl rfl rfl rfl Wl ?_
     rintro _ rfl
     refine Kac rfl rfl rfl rfl rfl rfl ?_
     refine Kv ?_
     have e66 := Kj hm; subst e66
     refine ⟨rfl, ?_⟩
     exact WkX.of () (WkS.perm (WkS.cons rfl (Wk.refl _) (WkS.cons rfl (Wk.refl _) (WkS.cons rfl (Wk.refl _) (WkS.cons rfl (Wk.refl _) (WkS.cons rfl (Wk.refl _) (WkS.nil)))))) Pf Pf)
    ·replace hm := yes_f hs67 hm
     refine Kaf 10 [] [[],[],[1],[1],[1],[1],[1],[1],[1],[1]] [1] [[],[],[1],[0,1,2],[0,1,2,3],[0,1,2,3,4],[0,1,2,3,4],[0,1,2,3,4,5,6],[0,1,2,3,4,5,6,7],[0,1,2,3,4],[0,1,2,3,4,5,6,7,8,9],[0,1,2,3,4,5,6,7,8,9,10]] (by kernel_rfl) (by kernel_rfl) (by kernel_rfl) (by rfl) (by rfl) (by kernel_rfl) ?_
     apply Exists.intro
     intro bs
     refine zqp ?_
     refine zep ?_
     refine z_q rfl rfl (x_lenL htab rfl rfl rfl rfl (by first | exact KX | rfl)) rfl rfl rfl rfl rfl rfl ?_
     refine zqp ?_
     refine zqp ?_
     refine KQ (j := 15) (b' := false) rfl hs67 ?_
     iterate 5 refine zK ?_
     refine z_nil rfl rfl (fun e he => by simp [isAl] at he) ?_
     refine pK ?_
     refine K8 rfl rfl rfl rfl rfl rfl ?_
     refine Kv ?_
     have e66 := Kj hm; subst e66
     refine ⟨rfl, ?_⟩
     exact WkX.of () (WkS.perm (WkS.cons rfl (Wk.refl _) (WkS.cons rfl (Wk.refl _) (WkS.cons rfl (Wk.refl _) (WkS.cons rfl (Wk.refl _) (WkS.cons rfl (Wk.refl _) (WkS.nil)))))) Pf Pf)
   ·intro s66 hw66; clear hm; have hm := ho66; clear q66 ho66
    refine Kb ?_
    refine KV hw66 (fun z66 => ?_)
    refine KA rfl (fun hc70 => ?_) (fun hc70 => ?_)
    ·replace hm := yes_t hc70 hm
     refine Kz ?_
     refine Kb ?_
     refine Kk ?_
     refine KB ?_
     refine Kq ?_
     iterate 3 refine pu ?_
     obtain ⟨x71, q71, hm⟩ := Kc hm
     refine Kad htab rfl rfl rfl rfl rfl rfl rfl rfl rfl rfl (Kf q71) (Kl q71) ?_
     refine KW (d := Kd x71) htab rfl rfl rfl rfl rfl rfl rfl rfl ?_
     refine p_lit htab rfl rfl rfl rfl rfl rfl rfl rfl rfl rfl rfl rfl rfl rfl ?_
     refine p_eq (i := 30) (d' := .lst 2 (([x71] : List Ka).map Kd) .full) rfl (Wk.lst0 (.cons (WkC.refl _) (.nil))) ?_
     obtain ⟨x72, q72, hm⟩ := Kc hm
     refine Ka0 0 htab rfl rfl rfl rfl rfl rfl rfl rfl rfl rfl rfl rfl rfl rfl rfl rfl rfl (Kan q72) (fun v72 => ?_)
     refine Ka2 (i := 31) q72 rfl ?_
     refine pu ?_
     refine Kv ?_
     refine KJ ?_
     refine Kb ?_
     refine Kq ?_
     iterate 3 refine pu ?_
     refine Kv ?_
     refine Kb ⟨_, K1 hm, ?_⟩
     exact WkX.of v72 (WkS.perm (WkS.cons rfl (Wk.refl _) (WkS.cons rfl (Wk.refl _) (WkS.cons rfl (Wk.refl _) (WkS.cons rfl (Wk.refl _) (WkS.nil))))) Pf Pf)
    ·replace hm := yes_f hc70 hm
     refine K7 ?_
     refine KC ?_
     have e39 := K0 hm; subst e39; clear hm; have hm := hq39
     refine KC ?_
     refine K2 ?_
     have e38 := Kj hm; subst e38
     refine ⟨rfl, ?_⟩
     exact WkX.of z39 (WkS.perm (WkS.cons rfl (Wk.refl _) (WkS.cons rfl (Wk.refl _) (WkS.cons rfl (Wk.refl _) (WkS.nil)))) Pf Pf)
 ·intro s38 hw38; clear hm; have hm := ho38; clear q38 ho38
  refine Kb ?_
  refine KV hw38 (fun z38 => ?_)
  refine Kg ?_
  refine pu ?_
  refine Kaa htab rfl rfl rfl rfl rfl rfl rfl (by first | exact KX | rfl) ?_
  refine pu ?_
  refine KR ?_
  refine pu ?_
  refine KaE (d := Kd x2) 0 htab rfl rfl rfl rfl rfl rfl rfl rfl ?_
  refine p_lit htab rfl rfl rfl rfl rfl rfl rfl rfl rfl rfl rfl rfl rfl rfl ?_
  refine p_eq (i := 36) (d' := .lst 2 (([x2] : List Ka).map Kd) .full) rfl (Wk.lst0 (.cons (WkC.refl _) (.nil))) ?_
  obtain ⟨x73, q73, hm⟩ := Kc hm
  refine Ka0 0 htab rfl rfl rfl rfl rfl rfl rfl rfl rfl rfl rfl rfl rfl rfl rfl rfl rfl (Kan q73) (fun v73 => ?_)
  refine Ka2 (i := 37) q73 rfl ?_
  refine pu ?_
  refine Ke ?_
  refine Kk ?_
  refine Kg ?_
  refine pu ?_
  refine pu ?_
  refine Ke ?_
  obtain ⟨y93, q93, ho93⟩ := Kc hm
  refine Kae (Y := Value) (fun z93 => (⟨[(5, .lst 2 (y93.map Kd) (.cur z93))], [], [(2, z93)]⟩ : S)) ?_ ?_
  ·clear hm; have hm := KG q93
   refine KB ?_
   obtain ⟨u94, hl94, hq94⟩ := yes_m hm
   refine Kao (Y := Value) hl94 (fun s94 z94 => (⟨[(0, .lst 2 (a0.map Kd) .no), (3, .ptr b1 0), (5, .lst 2 (s94.1.map Kd) (.cur z94)), (8, .v (.int .i64 s94.2))], [(b1, Blk.cells [.v (.string x2.gName), .v (.int .i64 x2.gNode)] 41)], [(2, z94)]⟩ : S)) ?_ ?_
   ·skip
    exact WkX.of v73 (WkS.perm (WkS.cons rfl (Wk.refl _) (WkS.cons rfl (Wk.refl _) (WkS.cons rfl (Wk.refl _) (WkS.cons rfl (Wk.refl _) (WkS.nil))))) Pf Pf)
   ·intro G94 s94 z94 hm
    refine Kk ?_
    refine Kg ?_
    refine pu ?_
    refine pu ?_
    refine Kaa htab rfl rfl rfl rfl rfl rfl rfl (by first | exact KX | rfl) ?_
    refine pu ?_
    refine Ke ?_
    refine KA rfl (fun hc107 => ?_) (fun hc107 => ?_)
    ·replace hm := yes_t hc107 hm
     refine Kz ?_
     refine Kb ?_
     refine Kk ?_
     refine KB ?_
     refine Kk ?_
     obtain ⟨x108, q108, hm⟩ := Kc hm
     refine Kaf 5 [] [[],[],[0],[0,2],[]] [0,2,3,4] [[],[],[0,1],[0,1,2],[],[0,1,2,3,4]] (by kernel_rfl) (by kernel_rfl) (by kernel_rfl) (by rfl) (by rfl) (by kernel_rfl) ?_
     iterate 4 apply Exists.intro
     intro bs
     refine zep ?_
     refine zqp ?_
     refine z_e rfl rfl (KE htab rfl rfl rfl rfl rfl rfl rfl (Kf q108) (Kl q108)) rfl rfl rfl rfl rfl rfl ?_
     refine z_eM rfl rfl (Ko (d := Kd x108) htab rfl rfl rfl rfl rfl) rfl rfl rfl rfl rfl rfl ?_
     refine z_eM rfl rfl (Kaj (d := Kd x2) 0 htab rfl rfl rfl rfl rfl) rfl rfl rfl rfl rfl rfl ?_
     refine z_nil rfl rfl (fun e he => by simp [isAl] at he) ?_
     refine p_eqS htab rfl rfl rfl rfl rfl eqt41 rfl rfl rfl rfl rfl ?_
     refine Ke ?_
     refine KA rfl (fun hc109 => ?_) (fun hc109 => ?_)
     ·replace hm := yes_t hc109 hm
      refine Kq ?_
      iterate 3 refine pu ?_
      obtain ⟨x110, q110, hm⟩ := Kc hm
      refine Kad htab rfl rfl rfl rfl rfl rfl rfl rfl rfl rfl (Kf q110) (Kl q110) ?_
      refine KW (d := Kd x110) htab rfl rfl rfl rfl rfl rfl rfl rfl ?_
      refine p_lit htab rfl rfl rfl rfl rfl rfl rfl rfl rfl rfl rfl rfl rfl rfl ?_
      refine p_eq (i := 56) (d' := .lst 2 (([x110] : List Ka).map Kd) .full) rfl (Wk.lst0 (.cons (WkC.refl _) (.nil))) ?_
      obtain ⟨x111, q111, hm⟩ := Kc hm
      refine Ka0 0 htab rfl rfl rfl rfl rfl rfl rfl rfl rfl rfl rfl rfl rfl rfl rfl rfl rfl (Kan q111) (fun v111 => ?_)
      refine Ka2 (i := 57) q111 rfl ?_
      refine pu ?_
      refine Kv ?_
      refine KJ ?_
      refine Kb ?_
      refine Kq ?_
      iterate 3 refine pu ?_
      refine Kv ?_
      refine Kb ⟨_, K1 hm, ?_⟩
      exact WkX.of v111 (WkS.perm (WkS.cons rfl (Wk.refl _) (WkS.cons rfl (Wk.refl _) (WkS.cons rfl (Wk.refl _) (WkS.cons rfl (Wk.refl _) (WkS.nil))))) Pf Pf)
     ·replace hm := yes_f hc109 hm
      refine Kz ?_
      refine KJ ?_
      refine Kb ?_
      refine Kq ?_
      iterate 3 refine pu ?_
      refine Kv ?_
      refine Kb ⟨_, K1 hm, ?_⟩
      exact WkX.of z94 (WkS.perm (WkS.cons rfl (Wk.refl _) (WkS.cons rfl (Wk.refl _) (WkS.cons rfl (Wk.refl _) (WkS.cons rfl (Wk.refl _) (WkS.nil))))) Pf Pf)
    ·replace hm := yes_f hc107 hm
     refine K7 ?_
     refine KC ?_
     have e94 := K0 hm; subst e94; clear hm; have hm := hq94
     refine KC ?_
     refine K2 ?_
     have e93 := Kj hm; subst e93
     refine ⟨rfl, ?_⟩
     exact WkX.of z94 (WkS.perm (WkS.cons rfl (Wk.refl _) (WkS.nil)) Pf Pf)
  ·intro s93 hw93; clear hm; have hm := ho93; clear q93 ho93
   refine Kb ?_
   refine KV hw93 (fun z93 => ?_)
   refine Kg ?_
   refine pu ?_
   refine pu ?_
   refine Ke ?_
   refine KD ?_
   have er112 := Kj hm; subst er112
   refine rP (t' := [(4, .lst 2 (y93.map Kd) (.cur z93))]) [] [0] 0 (wC wN) (lT lN) ?_
   exact ⟨z93, rfl, rfl, rfl⟩
noncomputable def Kdv (a0 : Kw) (a1 : Kw) (a2 : List Ka) : Option (List Ka) :=
 ((Kdi a0 a1).bind fun x4 => ((KeX a0 a1 false).bind fun x10 => (Option.bind (α := List Ka) (loopM (fun (s80 : List Ka × Int) => (bif (decide (s80.2 < (a2.length : Int))) then ((idx a2 s80.2).bind fun x127 => (Option.bind (α := Bool) (bif (decide (x127.gNode < (0 : Int))) then ((Kec x10 x127.gName).bind fun x138 => (bif x138 then some true else (bif (decide ((0 : Int) ≤ x127.gNode)) then ((Kec x4 x127.gName).bind fun x141 => some x141) else some false))) else (bif (decide ((0 : Int) ≤ x127.gNode)) then ((Kec x4 x127.gName).bind fun x143 => some x143) else some false)) fun y136 => (bif y136 then ((Kca s80.1 x127).bind fun x146 => some (.next (x146, (IntKind.i64.wrap (s80.2 + (1 : Int)))))) else some (.next (s80.1, (IntKind.i64.wrap (s80.2 + (1 : Int)))))))) else some (.done s80.1))) (([] : List Ka), (0 : Int))) fun y79 => some y79)))
theorem Kgw (a0 : Kw) (a1 : Kw) (a2 : List Ka) (r : List Ka) (h0 : Kdv a0 a1 a2 = some r) : CallsD Tryz.prog 8 [Ku a0, Ku a1, .lst 2 (a2.map Kd) .no] [] [] (fun d h k => ∃ y0, d = .lst 2 (r.map Kd) (.cur y0) ∧ h = [] ∧ k = [(2, y0)]) := by
 have hm := KG h0
 unfold Kdv at hm
 clear h0
 refine K3 htab Tryz.func8 rfl rfl rfl rfl rfl (fun C => ?_)
 refine Kg ?_
 refine p_box rfl rfl rfl rfl rfl rfl rfl (fun b1 => ?_)
 refine p_box rfl rfl rfl rfl rfl rfl rfl (fun b2 => ?_)
 refine pu ?_
 refine Ke ?_
 refine Kk ?_
 obtain ⟨x4, q4, hm⟩ := Kc hm
 refine KfM 5 [] [(2, 1)] [[],[],[0,1],[],[]] [0,1,2,3,4] [[],[],[0,1],[],[],[0,1,2,3,4],[0,1,2,3,4,5],[0,1,2,3,4,5,6]] (by kernel_rfl) (by kernel_rfl) (by kernel_rfl) (by rfl) (by rfl) (by kernel_rfl) ?_
 iterate 5 apply Exists.intro
 intro bs
 refine zt_eM rfl rfl (Kaj (d := Ku a0) 0 htab rfl rfl rfl rfl rfl) rfl rfl rfl rfl rfl rfl rfl ?_
 refine zt_eM rfl rfl (Kaj (d := Ku a1) 1 htab rfl rfl rfl rfl rfl) rfl rfl rfl rfl rfl rfl rfl ?_
 refine Kht rfl rfl (Kim a0 a1 x4 q4) rfl rfl Wl rfl rfl rfl rfl rfl (by simp) (by decide) rfl ?_
 refine zt_eM rfl rfl (Kaj (d := Ku a0) 0 htab rfl rfl rfl rfl rfl) rfl rfl rfl rfl rfl rfl rfl ?_
 refine zt_eM rfl rfl (Kaj (d := Ku a1) 1 htab rfl rfl rfl rfl rfl) rfl rfl rfl rfl rfl rfl rfl ?_
 refine zt_nil (k' := [(1, (bs 2))]) rfl (fun e he => by simp [isT] at he; subst he; rfl) rfl rfl (fun e he => by simp [isAl] at he) ?_
 obtain ⟨w8, hw8⟩ : ∃ y, bs 2 = y := ⟨_, rfl⟩
 simp only [hw8]
 clear hw8
 obtain ⟨x10, q10, hm⟩ := Kc hm
 refine pG (Kgs a0 a1 false x10 q10) Wl Pf Pf ?_
 rintro _ _ _ ⟨w9, rfl, rfl, rfl⟩
 refine pu ?_
 refine pu ?_
 refine KR ?_
 refine pu ?_
 refine Ke ?_
 refine Kk ?_
 refine Kg ?_
 refine pu ?_
 refine Ke ?_
 obtain ⟨y79, q79, ho79⟩ := Kc hm
 refine Kae (Y := Value) (fun z79 => (⟨[(9, .lst 2 (y79.map Kd) (.cur z79))], [], [(2, z79)]⟩ : S)) ?_ ?_
 ·clear hm; have hm := KG q79
  refine KB ?_
  obtain ⟨u80, hl80, hq80⟩ := yes_m hm
  refine Kao (Y := Value) hl80 (fun s80 z80 => (⟨[(2, .lst 2 (a2.map Kd) .no), (7, .lst 1 (x4.map eStr) (.cur w8)), (8, .lst 1 (x10.map eStr) (.cur w9)), (9, .lst 2 (s80.1.map Kd) (.cur z80)), (10, .v (.int .i64 s80.2))], [], [(2, z80), (1, w9), (1, w8)]⟩ : S)) ?_ ?_
  ·skip
   refine WkX.tokN (i := 9) 2 rfl (fun w125 => ?_)
   exact WkX.of w125 (WkS.perm (WkS.cons rfl (Wk.refl _) (WkS.cons rfl (Wk.refl _) (WkS.cons rfl (Wk.refl _) (WkS.cons rfl (Wk.refl _) (WkS.cons rfl (Wk.refl _) (WkS.nil)))))) Pf Pf)
  ·intro G80 s80 z80 hm
   refine Kk ?_
   refine Kg ?_
   refine pu ?_
   refine pu ?_
   refine Kaa htab rfl rfl rfl rfl rfl rfl rfl (by first | exact KX | rfl) ?_
   refine pu ?_
   refine Ke ?_
   refine KA rfl (fun hc126 => ?_) (fun hc126 => ?_)
   ·replace hm := yes_t hc126 hm
    refine Kz ?_
    refine Kb ?_
    refine Kk ?_
    refine KB ?_
    refine Kg ?_
    refine pu ?_
    refine pu ?_
    obtain ⟨x127, q127, hm⟩ := Kc hm
    refine Kad htab rfl rfl rfl rfl rfl rfl rfl rfl rfl rfl (Kf q127) (Kl q127) ?_
    refine KW (d := Kd x127) htab rfl rfl rfl rfl rfl rfl rfl rfl ?_
    refine Kay htab rfl rfl rfl rfl rfl rfl rfl (fun b128 => ?_)
    refine pS0 (ds' := [.v (.string x127.gName), .v (.int .i64 x127.gNode)]) ?_
    refine Ke ?_
    refine Kk ?_
    obtain ⟨y136, q136, ho136⟩ := Kc hm
    refine Kae (Y := Unit) (fun z136 => (⟨[(2, .lst 2 (a2.map Kd) .no), (7, .lst 1 (x4.map eStr) (.cur w8)), (8, .lst 1 (x10.map eStr) (.cur w9)), (9, .lst 2 (s80.1.map Kd) (.cur z80)), (10, .v (.int .i64 s80.2)), (11, .ptr b128 0), (47, .v (.bool y136))], [(b128, Blk.cells [.v (.string x127.gName), .v (.int .i64 x127.gNode)] 41)], [(2, z80), (1, w9), (1, w8)]⟩ : S)) ?_ ?_
    ·clear hm; have hm := KG q136
     refine Kq ?_
     refine pu ?_
     refine pL 0 ?_
     refine pu ?_
     refine pu ?_
     refine KaD (i := 31) rfl (fun hg137 => ?_) (fun hg137 => ?_)
     ·replace hm := yes_t hg137 hm
      refine pu ?_
      refine pu ?_
      refine pL 0 ?_
      obtain ⟨x138, q138, hm⟩ := Kc hm
      refine Kai (Ke8 x10 x127.gName x138 q138) rfl rfl rfl rfl rfl (WkL.cons (Wk.no) (WkL.cons (Wk.refl _) Wl)) ?_
      rintro _ rfl
      refine Kac rfl rfl rfl rfl rfl rfl ?_
      refine pu ?_
      refine KaD (i := 37) rfl (fun hg139 => ?_) (fun hg139 => ?_)
      ·replace hm := yes_t hg139 hm
       iterate 9 refine pK ?_
       refine Kac rfl rfl rfl rfl rfl rfl ?_
       refine Kv ?_
       have e136 := Kj hm; subst e136
       refine ⟨rfl, ?_⟩
       exact WkX.of () (WkS.perm (WkS.cons rfl (Wk.refl _) (WkS.cons rfl (Wk.refl _) (WkS.cons rfl (Wk.refl _) (WkS.cons rfl (Wk.refl _) (WkS.cons rfl (Wk.refl _) (WkS.cons rfl (Wk.refl _) (WkS.cons rfl (Wk.refl _) (WkS.nil)))))))) Pf Pf)
      ·replace hm := yes_f hg139 hm
       refine pu ?_
       refine pL 0 ?_
       refine pu ?_
       refine pu ?_
       refine KaD (i := 41) rfl (fun hg140 => ?_) (fun hg140 => ?_)
       ·replace hm := yes_t hg140 hm
        refine pu ?_
        refine pu ?_
        refine pL 0 ?_
        obtain ⟨x141, q141, hm⟩ := Kc hm
        refine Kai (Ke8 x4 x127.gName x141 q141) rfl rfl rfl rfl rfl (WkL.cons (Wk.no) (WkL.cons (Wk.refl _) Wl)) ?_
        rintro _ rfl
        refine Kac rfl rfl rfl rfl rfl rfl ?_
        refine K8 rfl rfl rfl rfl rfl rfl ?_
        refine Kv ?_
        have e136 := Kj hm; subst e136
        refine ⟨rfl, ?_⟩
        exact WkX.of () (WkS.perm (WkS.cons rfl (Wk.refl _) (WkS.cons rfl (Wk.refl _) (WkS.cons rfl (Wk.refl _) (WkS.cons rfl (Wk.refl _) (WkS.cons rfl (Wk.refl _) (WkS.cons rfl (Wk.refl _) (WkS.cons rfl (Wk.refl _) (WkS.nil)))))))) Pf Pf)
       ·replace hm := yes_f hg140 hm
        iterate 4 refine pK ?_
        refine K8 rfl rfl rfl rfl rfl rfl ?_
        refine K8 rfl rfl rfl rfl rfl rfl ?_
        refine Kv ?_
        have e136 := Kj hm; subst e136
        refine ⟨rfl, ?_⟩
        exact WkX.of () (WkS.perm (WkS.cons rfl (Wk.refl _) (WkS.cons rfl (Wk.refl _) (WkS.cons rfl (Wk.refl _) (WkS.cons rfl (Wk.refl _) (WkS.cons rfl (Wk.refl _) (WkS.cons rfl (Wk.refl _) (WkS.cons rfl (Wk.refl _) (WkS.nil)))))))) Pf Pf)
     ·replace hm := yes_f hg137 hm
      iterate 4 refine pK ?_
      refine K8 rfl rfl rfl rfl rfl rfl ?_
      refine pu ?_
      refine pu ?_
      refine pL 0 ?_
      refine pu ?_
      refine pu ?_
      refine KaD (i := 41) rfl (fun hg142 => ?_) (fun hg142 => ?_)
      ·replace hm := yes_t hg142 hm
       refine pu ?_
       refine pu ?_
       refine pL 0 ?_
       obtain ⟨x143, q143, hm⟩ := Kc hm
       refine Kai (Ke8 x4 x127.gName x143 q143) rfl rfl rfl rfl rfl (WkL.cons (Wk.no) (WkL.cons (Wk.refl _) Wl)) ?_
       rintro _ rfl
       refine Kac rfl rfl rfl rfl rfl rfl ?_
       refine K8 rfl rfl rfl rfl rfl rfl ?_
       refine Kv ?_
       have e136 := Kj hm; subst e136
       refine ⟨rfl, ?_⟩
       exact WkX.of () (WkS.perm (WkS.cons rfl (Wk.refl _) (WkS.cons rfl (Wk.refl _) (WkS.cons rfl (Wk.refl _) (WkS.cons rfl (Wk.refl _) (WkS.cons rfl (Wk.refl _) (WkS.cons rfl (Wk.refl _) (WkS.cons rfl (Wk.refl _) (WkS.nil)))))))) Pf Pf)
      ·replace hm := yes_f hg142 hm
       iterate 4 refine pK ?_
       refine K8 rfl rfl rfl rfl rfl rfl ?_
       refine K8 rfl rfl rfl rfl rfl rfl ?_
       refine Kv ?_
       have e136 := Kj hm; subst e136
       refine ⟨rfl, ?_⟩
       exact WkX.of () (WkS.perm (WkS.cons rfl (Wk.refl _) (WkS.cons rfl (Wk.refl _) (WkS.cons rfl (Wk.refl _) (WkS.cons rfl (Wk.refl _) (WkS.cons rfl (Wk.refl _) (WkS.cons rfl (Wk.refl _) (WkS.cons rfl (Wk.refl _) (WkS.nil)))))))) Pf Pf)
    ·intro s136 hw136; clear hm; have hm := ho136; clear q136 ho136
     refine Kb ?_
     refine KV hw136 (fun z136 => ?_)
     refine KA rfl (fun hc144 => ?_) (fun hc144 => ?_)
     ·replace hm := yes_t hc144 hm
      refine Kq ?_
      refine pu ?_
      refine KaE (d := Kd x127) 0 htab rfl rfl rfl rfl rfl rfl rfl rfl ?_
      obtain ⟨x146, q146, hm⟩ := Kc hm
      refine KaY (Ket s80.1 x127 x146 q146) rfl rfl rfl rfl rfl (WkL.cons (Wk.no) (WkL.cons (Wk.refl _) Wl)) Pf Pf ?_
      rintro _ _ _ ⟨w145, rfl, rfl, rfl⟩
      refine pu ?_
      refine Kv ?_
      refine KJ ?_
      refine Kb ?_
      refine Kq ?_
      iterate 3 refine pu ?_
      refine Kv ?_
      refine Kb ⟨_, K1 hm, ?_⟩
      exact WkX.of w145 (WkS.perm (WkS.cons rfl (Wk.refl _) (WkS.cons rfl (Wk.refl _) (WkS.cons rfl (Wk.refl _) (WkS.cons rfl (Wk.refl _) (WkS.cons rfl (Wk.refl _) (WkS.nil)))))) Pf ((KI (j := 0) rfl).trans (List.Perm.cons _ ((KI (j := 1) rfl).trans (List.Perm.cons _ ((KI (j := 1) rfl).trans (List.Perm.cons _ Pf)))))))
     ·replace hm := yes_f hc144 hm
      refine Kz ?_
      refine KJ ?_
      refine Kb ?_
      refine Kq ?_
      iterate 3 refine pu ?_
      refine Kv ?_
      refine Kb ⟨_, K1 hm, ?_⟩
      exact WkX.of z80 (WkS.perm (WkS.cons rfl (Wk.refl _) (WkS.cons rfl (Wk.refl _) (WkS.cons rfl (Wk.refl _) (WkS.cons rfl (Wk.refl _) (WkS.cons rfl (Wk.refl _) (WkS.nil)))))) Pf Pf)
   ·replace hm := yes_f hc126 hm
    refine K7 ?_
    refine KC ?_
    have e80 := K0 hm; subst e80; clear hm; have hm := hq80
    refine KC ?_
    refine K2 ?_
    have e79 := Kj hm; subst e79
    refine ⟨rfl, ?_⟩
    exact WkX.of z80 (WkS.perm (WkS.cons rfl (Wk.refl _) (WkS.nil)) Pf Pf)
 ·intro s79 hw79; clear hm; have hm := ho79; clear q79 ho79
  refine Kb ?_
  refine KV hw79 (fun z79 => ?_)
  refine Kg ?_
  refine pu ?_
  refine pu ?_
  refine Ke ?_
  refine KD ?_
  have er147 := Kj hm; subst er147
  refine rP (t' := [(6, .lst 2 (y79.map Kd) (.cur z79))]) [] [0] 0 (wC wN) (lT lN) ?_
  exact ⟨z79, rfl, rfl, rfl⟩
theorem Ki7 (a0 : Kw) (a1 : Kw) (a2 : List Ka) (r : List Ka) (h0 : Kdv a0 a1 a2 = some r) : CallsD Tryz.prog 8 [Ku a0, Ku a1, .lst 2 (a2.map Kd) .no] [] [] (fun d h k => d = .lst 2 (r.map Kd) .no ∧ h = [] ∧ k = []) :=
 (Kgw a0 a1 a2 r h0).drop fun d h k ⟨y0, e, _, _⟩ => by subst e; exact Wk.no
noncomputable def Kfx (a0 : List Ka) : Option (List Ka) :=
 (Option.bind (α := List Ka) (loopM (fun (s19 : List Ka × Int) => (bif (decide (s19.2 < (a0.length : Int))) then ((idx a0 s19.2).bind fun x32 => ((Kca s19.1 x32).bind fun x34 => some (.next (x34, (IntKind.i64.wrap (s19.2 + (1 : Int))))))) else some (.done s19.1))) (([] : List Ka), (0 : Int))) fun y18 => some y18)
theorem r26_Row_ok (a0 : List Ka) (r : List Ka) (h0 : Kfx a0 = some r) : CallsD Tryz.prog 49 [.lst 2 (a0.map Kd) .no] [] [] (fun d h k => ∃ y0, d = .lst 2 (r.map Kd) (.cur y0) ∧ h = [] ∧ k = [(2, y0)]) := by
 have hm := KG h0
 unfold Kfx at hm
 clear h0
 refine K3 htab Tryz.func49 rfl rfl rfl rfl rfl (fun C => ?_)
 refine Kg ?_
 refine pu ?_
 refine KR ?_
 refine pu ?_
 refine Ke ?_
 refine Kk ?_
 refine Kg ?_
 refine pu ?_
 refine Ke ?_
 obtain ⟨y18, q18, ho18⟩ := Kc hm
 refine Kae (Y := Value) (fun z18 => (⟨[(3, .lst 2 (y18.map Kd) (.cur z18))], [], [(2, z18)]⟩ : S)) ?_ ?_
 ·clear hm; have hm := KG q18
  refine KB ?_
  obtain ⟨u19, hl19, hq19⟩ := yes_m hm
  refine Kao (Y := Value) hl19 (fun s19 z19 => (⟨[(0, .lst 2 (a0.map Kd) .no), (3, .lst 2 (s19.1.map Kd) (.cur z19)), (4, .v (.int .i64 s19.2))], [], [(2, z19)]⟩ : S)) ?_ ?_
  ·skip
   refine WkX.tokN (i := 3) 2 rfl (fun w30 => ?_)
   exact WkX.of w30 (WkS.perm (WkS.cons rfl (Wk.refl _) (WkS.cons rfl (Wk.refl _) (WkS.cons rfl (Wk.refl _) (WkS.nil)))) Pf Pf)
  ·intro G19 s19 z19 hm
   refine Kk ?_
   refine Kg ?_
   refine pu ?_
   refine pu ?_
   refine Kaa htab rfl rfl rfl rfl rfl rfl rfl (by first | exact KX | rfl) ?_
   refine pu ?_
   refine Ke ?_
   refine KA rfl (fun hc31 => ?_) (fun hc31 => ?_)
   ·replace hm := yes_t hc31 hm
    refine Kz ?_
    refine Kb ?_
    refine Kk ?_
    refine KB ?_
    refine Kq ?_
    iterate 3 refine pu ?_
    obtain ⟨x32, q32, hm⟩ := Kc hm
    refine Kad htab rfl rfl rfl rfl rfl rfl rfl rfl rfl rfl (Kf q32) (Kl q32) ?_
    refine KW (d := Kd x32) htab rfl rfl rfl rfl rfl rfl rfl rfl ?_
    obtain ⟨x34, q34, hm⟩ := Kc hm
    refine KaY (Ket s19.1 x32 x34 q34) rfl rfl rfl rfl rfl (WkL.cons (Wk.no) (WkL.cons (Wk.refl _) Wl)) Pf Pf ?_
    rintro _ _ _ ⟨w33, rfl, rfl, rfl⟩
    refine pu ?_
    refine Kv ?_
    refine KJ ?_
    refine Kb ?_
    refine Kq ?_
    iterate 3 refine pu ?_
    refine Kv ?_
    refine Kb ⟨_, K1 hm, ?_⟩
    exact WkX.of w33 (WkS.perm (WkS.cons rfl (Wk.refl _) (WkS.cons rfl (Wk.refl _) (WkS.cons rfl (Wk.refl _) (WkS.nil)))) Pf Pf)
   ·replace hm := yes_f hc31 hm
    refine K7 ?_
    refine KC ?_
    have e19 := K0 hm; subst e19; clear hm; have hm := hq19
    refine KC ?_
    refine K2 ?_
    have e18 := Kj hm; subst e18
    refine ⟨rfl, ?_⟩
    exact WkX.of z19 (WkS.perm (WkS.cons rfl (Wk.refl _) (WkS.nil)) Pf Pf)
 ·intro s18 hw18; clear hm; have hm := ho18; clear q18 ho18
  refine Kb ?_
  refine KV hw18 (fun z18 => ?_)
  refine Kg ?_
  refine pu ?_
  refine pu ?_
  refine Ke ?_
  refine KD ?_
  have er35 := Kj hm; subst er35
  refine rP (t' := [(2, .lst 2 (y18.map Kd) (.cur z18))]) [] [0] 0 (wC wN) (lT lN) ?_
  exact ⟨z18, rfl, rfl, rfl⟩
noncomputable def KcJ (a0 : List Ka) (a1 : Ka) : Option (Bool) :=
 (Option.bind (α := (Unit) ⊕ (Bool)) (loopM (fun (s22 : Int) => (bif (decide (s22 < (a0.length : Int))) then ((idx a0 s22).bind fun x36 => ((Kcg x36).bind fun x37 => ((Kcg a1).bind fun x38 => (bif (decide (x37.gName = x38.gName) && (x37.gNode == x38.gNode && true)) then some (.done (.inr true)) else some (.next (IntKind.i64.wrap (s22 + (1 : Int)))))))) else some (.done (.inl ())))) (0 : Int)) (Sum.elim (fun y21 => some false) (fun r => some r)))
theorem Kia (a0 : List Ka) (a1 : Ka) (r : Bool) (h0 : KcJ a0 a1 = some r) : CallsD Tryz.prog 12 [.lst 2 (a0.map Kd) .no, Kd a1] [] [] (fun d h k => d = .v (.bool r) ∧ h = [] ∧ k = []) := by
 have hm := KG h0
 unfold KcJ at hm
 clear h0
 refine K3 htab Tryz.func12 rfl rfl rfl rfl rfl (fun C => ?_)
 refine Kg ?_
 refine p_box rfl rfl rfl rfl rfl rfl rfl (fun b1 => ?_)
 refine pu ?_
 refine Ke ?_
 refine Kk ?_
 refine Kg ?_
 refine pu ?_
 refine Ke ?_
 obtain ⟨x21, q21, ho21⟩ := Kc hm
 refine Ka1 (τ := Unit) (Y := Unit) (fun y21 z21 => (⟨[], [], []⟩ : S)) x21 ?_ ?_
 ·clear hm; have hm := KG q21
  refine KB ?_
  obtain ⟨u22, hl22, hq22⟩ := yes_m hm
  refine Kao (Y := Unit) hl22 (fun s22 z22 => (⟨[(0, .lst 2 (a0.map Kd) .no), (3, .ptr b1 0), (5, .v (.int .i64 s22))], [(b1, Blk.cells [.v (.string a1.gName), .v (.int .i64 a1.gNode)] 41)], []⟩ : S)) ?_ ?_
  ·skip
   exact WkX.of () (WkS.perm (WkS.cons rfl (Wk.refl _) (WkS.cons rfl (Wk.refl _) (WkS.cons rfl (Wk.refl _) (WkS.nil)))) Pf Pf)
  ·intro G22 s22 z22 hm
   refine Kk ?_
   refine Kg ?_
   refine pu ?_
   refine pu ?_
   refine Kaa htab rfl rfl rfl rfl rfl rfl rfl (by first | exact KX | rfl) ?_
   refine pu ?_
   refine Ke ?_
   refine KA rfl (fun hc35 => ?_) (fun hc35 => ?_)
   ·replace hm := yes_t hc35 hm
    refine Kz ?_
    refine Kb ?_
    refine Kk ?_
    refine KB ?_
    refine Kk ?_
    obtain ⟨x36, q36, hm⟩ := Kc hm
    obtain ⟨x37, q37, hm⟩ := Kc hm
    refine Kaf 6 [] [[],[],[0],[0,2],[0,2,3],[]] [0,2,3,4,5] [[],[],[0,1],[0,1,2],[0,1,2,3],[],[0,1,2,3,4,5],[0,1,2,3,4,5,6]] (by kernel_rfl) (by kernel_rfl) (by kernel_rfl) (by rfl) (by rfl) (by kernel_rfl) ?_
    iterate 5 apply Exists.intro
    intro bs
    refine zep ?_
    refine zqp ?_
    refine z_e rfl rfl (KE htab rfl rfl rfl rfl rfl rfl rfl (Kf q36) (Kl q36)) rfl rfl rfl rfl rfl rfl ?_
    refine z_eM rfl rfl (Ko (d := Kd x36) htab rfl rfl rfl rfl rfl) rfl rfl rfl rfl rfl rfl ?_
    refine KbC rfl rfl (Kc0 x36 x37 q37) rfl rfl Wl rfl rfl rfl rfl rfl rfl ?_
    refine z_eM rfl rfl (Kaj (d := Kd a1) 0 htab rfl rfl rfl rfl rfl) rfl rfl rfl rfl rfl rfl ?_
    refine z_nil rfl rfl (fun e he => by simp [isAl] at he) ?_
    obtain ⟨x38, q38, hm⟩ := Kc hm
    refine Kai (Kc0 a1 x38 q38) rfl rfl rfl rfl rfl Wl ?_
    rintro _ rfl
    refine p_eqS htab rfl rfl rfl rfl rfl eqt41 rfl rfl rfl rfl rfl ?_
    refine Ke ?_
    refine KA rfl (fun hc39 => ?_) (fun hc39 => ?_)
    ·replace hm := yes_t hc39 hm
     refine Kg ?_
     refine pu ?_
     refine Ke ?_
     refine KD ?_
     refine Kak ?_
     refine KS ?_
     have e22 := K0 hm; subst e22; clear hm; have hm := hq22
     refine KS ?_
     refine Kak ?_
     have e21 := Kj hm; subst e21; refine Ka4 ?_; clear hm; have hm := ho21; simp only [Sum.elim_inr] at hm
     refine KS ?_
     have er40 := Kj hm; subst er40
     refine rP (t' := [(4, .v (.bool true))]) [] [] 0 (wC wN) (lT lN) ?_
     exact ⟨rfl, rfl, rfl⟩
    ·replace hm := yes_f hc39 hm
     refine Kz ?_
     refine KJ ?_
     refine Kb ?_
     refine Kq ?_
     iterate 3 refine pu ?_
     refine Kv ?_
     refine Kb ⟨_, K1 hm, ?_⟩
     exact WkX.of () (WkS.perm (WkS.cons rfl (Wk.refl _) (WkS.cons rfl (Wk.refl _) (WkS.cons rfl (Wk.refl _) (WkS.nil)))) Pf Pf)
   ·replace hm := yes_f hc35 hm
    refine K7 ?_
    refine KC ?_
    have e22 := K0 hm; subst e22; clear hm; have hm := hq22
    refine KC ?_
    refine K2 ?_
    have e21 := Kj hm; subst e21
    refine Ka3 ?_
    exact WkX.of () (WkS.perm (WkS.nil) Pf Pf)
 ·intro y21 s21 hx21 hw21; subst hx21; clear hm; have hm := ho21; simp only [Sum.elim_inl] at hm; clear q21 ho21
  refine Kb ?_
  refine KV hw21 (fun z21 => ?_)
  refine Kg ?_
  refine pu ?_
  refine Ke ?_
  refine KD ?_
  have er41 := Kj hm; subst er41
  refine rP (t' := [(4, .v (.bool false))]) [] [] 0 (wC wN) (lT lN) ?_
  exact ⟨rfl, rfl, rfl⟩
structure KP where
 gX : Ka
 gY : Ka
def KO (x : KP) : D := .agg [.v (.string x.gX.gName), .v (.int .i64 x.gX.gNode), .v (.string x.gY.gName), .v (.int .i64 x.gY.gNode)]
noncomputable def KeB (a0 : List KP) (a1 : List Ka) (a2 : Bool) : Option (List Ka) :=
 ((Kfx a1).bind fun x2 => (Option.bind (α := (List Ka) ⊕ (List Ka)) (loopM (fun (s540 : List Ka × Int) => (bif (decide (s540.2 < (a0.length : Int))) then (Option.bind (α := List Ka) (loopM (fun (s986 : List Ka × Int) => (bif (decide (s986.2 < (a0.length : Int))) then (Option.bind (α := Bool) (bif (!a2) then ((idx a0 s986.2).bind fun x1051 => ((KcJ s986.1 x1051.gY).bind fun x1052 => some x1052)) else some false) fun y1049 => (Option.bind (α := List Ka) (bif y1049 then ((idx a0 s986.2).bind fun x1059 => ((Kca s986.1 x1059.gX).bind fun x1061 => some x1061)) else some s986.1) fun y1057 => (Option.bind (α := Bool) (bif a2 then ((idx a0 s986.2).bind fun x1067 => ((KcJ y1057 x1067.gX).bind fun x1068 => some x1068)) else some false) fun y1065 => (bif y1065 then ((idx a0 s986.2).bind fun x1070 => ((Kca y1057 x1070.gY).bind fun x1072 => some (.next (x1072, (IntKind.i64.wrap (s986.2 + (1 : Int))))))) else some (.next (y1057, (IntKind.i64.wrap (s986.2 + (1 : Int))))))))) else some (.done s986.1))) (s540.1, (0 : Int))) fun y985 => (bif ((y985.length : Int) == (s540.1.length : Int)) then some (.done (.inr y985)) else some (.next (y985, (IntKind.i64.wrap (s540.2 + (1 : Int))))))) else some (.done (.inl s540.1)))) (x2, (0 : Int))) (Sum.elim (fun y539 => some y539) (fun r => some r))))
theorem r29_All_ok (a0 : List KP) (a1 : List Ka) (a2 : Bool) (r : List Ka) (h0 : KeB a0 a1 a2 = some r) : CallsD Tryz.prog 28 [.lst 4 (a0.map KO) .no, .lst 2 (a1.map Kd) .no, .v (.bool a2)] [] [] (fun d h k => ∃ y0, d = .lst 2 (r.map Kd) (.cur y0) ∧ h = [] ∧ k = [(2, y0)]) := by
 have hm := KG h0
 unfold KeB at hm
 clear h0
 refine K3 htab Tryz.func28 rfl rfl rfl rfl rfl (fun C => ?_)
 refine Kg ?_
 refine pu ?_
 refine KR ?_
 refine pu ?_
 obtain ⟨x2, q2, hm⟩ := Kc hm
 refine pG (r26_Row_ok a1 x2 q2) Wl Pf Pf ?_
 rintro _ _ _ ⟨w1, rfl, rfl, rfl⟩
 refine pu ?_
 refine Ke ?_
 refine Kk ?_
 refine Kg ?_
 refine pu ?_
 refine Ke ?_
 obtain ⟨x539, q539, ho539⟩ := Kc hm
 refine Ka1 (τ := List Ka) (Y := Value) (fun y539 z539 => (⟨[(7, .lst 2 (y539.map Kd) (.cur z539))], [], [(2, z539)]⟩ : S)) x539 ?_ ?_
 ·clear hm; have hm := KG q539
  refine KB ?_
  obtain ⟨u540, hl540, hq540⟩ := yes_m hm
  refine Kao (Y := Value) hl540 (fun s540 z540 => (⟨[(0, .lst 4 (a0.map KO) .no), (2, .v (.bool a2)), (7, .lst 2 (s540.1.map Kd) (.cur z540)), (8, .v (.int .i64 s540.2))], [], [(2, z540)]⟩ : S)) ?_ ?_
  ·skip
   exact WkX.of w1 (WkS.perm (WkS.cons rfl (Wk.refl _) (WkS.cons rfl (Wk.refl _) (WkS.cons rfl (Wk.refl _) (WkS.cons rfl (Wk.refl _) (WkS.nil))))) Pf Pf)
  ·intro G540 s540 z540 hm
   refine Kk ?_
   refine Kg ?_
   refine pu ?_
   refine pu ?_
   refine Kaa htab rfl rfl rfl rfl rfl rfl rfl (by first | exact KX | rfl) ?_
   refine pu ?_
   refine Ke ?_
   refine KA rfl (fun hc897 => ?_) (fun hc897 => ?_)
   ·replace hm := yes_t hc897 hm
    refine Kz ?_
    refine Kb ?_
    refine Kk ?_
    refine KB ?_
    refine Kg ?_
    refine pu ?_
    refine Kaa htab rfl rfl rfl rfl rfl rfl rfl (by first | exact KX | rfl) ?_
    refine pu ?_
    refine Ke ?_
    refine Kk ?_
    refine Kg ?_
    refine pu ?_
    refine Ke ?_
    obtain ⟨y985, q985, ho985⟩ := Kc hm
    refine Kae (Y := Value) (fun z985 => (⟨[(0, .lst 4 (a0.map KO) .no), (2, .v (.bool a2)), (7, .lst 2 (y985.map Kd) (.cur z985)), (8, .v (.int .i64 s540.2)), (9, .v (.int .i64 (s540.1.length : Int)))], [], [(2, z985)]⟩ : S)) ?_ ?_
    ·clear hm; have hm := KG q985
     refine KB ?_
     obtain ⟨u986, hl986, hq986⟩ := yes_m hm
     refine Kao (Y := Value) hl986 (fun s986 z986 => (⟨[(0, .lst 4 (a0.map KO) .no), (2, .v (.bool a2)), (7, .lst 2 (s986.1.map Kd) (.cur z986)), (8, .v (.int .i64 s540.2)), (9, .v (.int .i64 (s540.1.length : Int))), (10, .v (.int .i64 s986.2))], [], [(2, z986)]⟩ : S)) ?_ ?_
     ·skip
      exact WkX.of z540 (WkS.perm (WkS.cons rfl (Wk.refl _) (WkS.cons rfl (Wk.refl _) (WkS.cons rfl (Wk.refl _) (WkS.cons rfl (Wk.refl _) (WkS.cons rfl (Wk.refl _) (WkS.cons rfl (Wk.refl _) (WkS.nil))))))) Pf Pf)
     ·intro G986 s986 z986 hm
      refine Kk ?_
      refine Kg ?_
      refine pu ?_
      refine pu ?_
      refine Kaa htab rfl rfl rfl rfl rfl rfl rfl (by first | exact KX | rfl) ?_
      refine pu ?_
      refine Ke ?_
      refine KA rfl (fun hc1045 => ?_) (fun hc1045 => ?_)
      ·replace hm := yes_t hc1045 hm
       refine Kz ?_
       refine Kb ?_
       refine Kk ?_
       refine KB ?_
       refine Kk ?_
       refine Kk ?_
       obtain ⟨y1049, q1049, ho1049⟩ := Kc hm
       refine Kae (Y := Unit) (fun z1049 => (⟨[(0, .lst 4 (a0.map KO) .no), (2, .v (.bool a2)), (7, .lst 2 (s986.1.map Kd) (.cur z986)), (8, .v (.int .i64 s540.2)), (9, .v (.int .i64 (s540.1.length : Int))), (10, .v (.int .i64 s986.2)), (37, .v (.bool y1049))], [], [(2, z986)]⟩ : S)) ?_ ?_
       ·clear hm; have hm := KG q1049
        refine Kq ?_
        iterate 3 refine pu ?_
        refine KaD (i := 29) rfl (fun hg1050 => ?_) (fun hg1050 => ?_)
        ·replace hm := yes_t hg1050 hm
         iterate 3 refine pu ?_
         obtain ⟨x1051, q1051, hm⟩ := Kc hm
         refine Kad htab rfl rfl rfl rfl rfl rfl rfl rfl rfl rfl (Kf q1051) (Kl q1051) ?_
         refine pu ?_
         refine KW (d := Kd x1051.gY) htab rfl rfl rfl rfl rfl rfl rfl rfl ?_
         obtain ⟨x1052, q1052, hm⟩ := Kc hm
         refine Kai (Kia s986.1 x1051.gY x1052 q1052) rfl rfl rfl rfl rfl (WkL.cons (Wk.no) (WkL.cons (Wk.refl _) Wl)) ?_
         rintro _ rfl
         refine Kac rfl rfl rfl rfl rfl rfl ?_
         refine Kv ?_
         have e1049 := Kj hm; subst e1049
         refine ⟨rfl, ?_⟩
         exact WkX.of () (WkS.perm (WkS.cons rfl (Wk.refl _) (WkS.cons rfl (Wk.refl _) (WkS.cons rfl (Wk.refl _) (WkS.cons rfl (Wk.refl _) (WkS.cons rfl (Wk.refl _) (WkS.cons rfl (Wk.refl _) (WkS.cons rfl (Wk.refl _) (WkS.nil)))))))) Pf Pf)
        ·replace hm := yes_f hg1050 hm
         iterate 7 refine pK ?_
         refine K8 rfl rfl rfl rfl rfl rfl ?_
         refine Kv ?_
         have e1049 := Kj hm; subst e1049
         refine ⟨rfl, ?_⟩
         exact WkX.of () (WkS.perm (WkS.cons rfl (Wk.refl _) (WkS.cons rfl (Wk.refl _) (WkS.cons rfl (Wk.refl _) (WkS.cons rfl (Wk.refl _) (WkS.cons rfl (Wk.refl _) (WkS.cons rfl (Wk.refl _) (WkS.cons rfl (Wk.refl _) (WkS.nil)))))))) Pf Pf)
       ·intro s1049 hw1049; clear hm; have hm := ho1049; clear q1049 ho1049
        refine Kb ?_
        refine KV hw1049 (fun z1049 => ?_)
        obtain ⟨y1057, q1057, ho1057⟩ := Kc hm
        refine Kae (Y := Value) (fun z1057 => (⟨[(0, .lst 4 (a0.map KO) .no), (2, .v (.bool a2)), (7, .lst 2 (y1057.map Kd) (.cur z1057)), (8, .v (.int .i64 s540.2)), (9, .v (.int .i64 (s540.1.length : Int))), (10, .v (.int .i64 s986.2))], [], [(2, z1057)]⟩ : S)) ?_ ?_
        ·clear hm; have hm := KG q1057
         refine KA rfl (fun hc1058 => ?_) (fun hc1058 => ?_)
         ·replace hm := yes_t hc1058 hm
          refine Kq ?_
          iterate 3 refine pu ?_
          obtain ⟨x1059, q1059, hm⟩ := Kc hm
          refine Kad htab rfl rfl rfl rfl rfl rfl rfl rfl rfl rfl (Kf q1059) (Kl q1059) ?_
          refine pu ?_
          refine KW (d := Kd x1059.gX) htab rfl rfl rfl rfl rfl rfl rfl rfl ?_
          obtain ⟨x1061, q1061, hm⟩ := Kc hm
          refine KaY (Ket s986.1 x1059.gX x1061 q1061) rfl rfl rfl rfl rfl (WkL.cons (Wk.no) (WkL.cons (Wk.refl _) Wl)) Pf Pf ?_
          rintro _ _ _ ⟨w1060, rfl, rfl, rfl⟩
          refine pu ?_
          refine Kv ?_
          have e1057 := Kj hm; subst e1057
          refine ⟨rfl, ?_⟩
          exact WkX.of w1060 (WkS.perm (WkS.cons rfl (Wk.refl _) (WkS.cons rfl (Wk.refl _) (WkS.cons rfl (Wk.refl _) (WkS.cons rfl (Wk.refl _) (WkS.cons rfl (Wk.refl _) (WkS.cons rfl (Wk.refl _) (WkS.nil))))))) Pf Pf)
         ·replace hm := yes_f hc1058 hm
          refine Kz ?_
          have e1057 := Kj hm; subst e1057
          refine ⟨rfl, ?_⟩
          exact WkX.of z986 (WkS.perm (WkS.cons rfl (Wk.refl _) (WkS.cons rfl (Wk.refl _) (WkS.cons rfl (Wk.refl _) (WkS.cons rfl (Wk.refl _) (WkS.cons rfl (Wk.refl _) (WkS.cons rfl (Wk.refl _) (WkS.nil))))))) Pf Pf)
        ·intro s1057 hw1057; clear hm; have hm := ho1057; clear q1057 ho1057
         refine Kb ?_
         refine KV hw1057 (fun z1057 => ?_)
         refine Kk ?_
         obtain ⟨y1065, q1065, ho1065⟩ := Kc hm
         refine Kae (Y := Unit) (fun z1065 => (⟨[(0, .lst 4 (a0.map KO) .no), (2, .v (.bool a2)), (7, .lst 2 (y1057.map Kd) (.cur z1057)), (8, .v (.int .i64 s540.2)), (9, .v (.int .i64 (s540.1.length : Int))), (10, .v (.int .i64 s986.2)), (54, .v (.bool y1065))], [], [(2, z1057)]⟩ : S)) ?_ ?_
         ·clear hm; have hm := KG q1065
          refine Kq ?_
          refine pu ?_
          refine pu ?_
          refine KaD (i := 46) rfl (fun hg1066 => ?_) (fun hg1066 => ?_)
          ·replace hm := yes_t hg1066 hm
           iterate 3 refine pu ?_
           obtain ⟨x1067, q1067, hm⟩ := Kc hm
           refine Kad htab rfl rfl rfl rfl rfl rfl rfl rfl rfl rfl (Kf q1067) (Kl q1067) ?_
           refine pu ?_
           refine KW (d := Kd x1067.gX) htab rfl rfl rfl rfl rfl rfl rfl rfl ?_
           obtain ⟨x1068, q1068, hm⟩ := Kc hm
           refine Kai (Kia y1057 x1067.gX x1068 q1068) rfl rfl rfl rfl rfl (WkL.cons (Wk.no) (WkL.cons (Wk.refl _) Wl)) ?_
           rintro _ rfl
           refine Kac rfl rfl rfl rfl rfl rfl ?_
           refine Kv ?_
           have e1065 := Kj hm; subst e1065
           refine ⟨rfl, ?_⟩
           exact WkX.of () (WkS.perm (WkS.cons rfl (Wk.refl _) (WkS.cons rfl (Wk.refl _) (WkS.cons rfl (Wk.refl _) (WkS.cons rfl (Wk.refl _) (WkS.cons rfl (Wk.refl _) (WkS.cons rfl (Wk.refl _) (WkS.cons rfl (Wk.refl _) (WkS.nil)))))))) Pf Pf)
          ·replace hm := yes_f hg1066 hm
           iterate 7 refine pK ?_
           refine K8 rfl rfl rfl rfl rfl rfl ?_
           refine Kv ?_
           have e1065 := Kj hm; subst e1065
           refine ⟨rfl, ?_⟩
           exact WkX.of () (WkS.perm (WkS.cons rfl (Wk.refl _) (WkS.cons rfl (Wk.refl _) (WkS.cons rfl (Wk.refl _) (WkS.cons rfl (Wk.refl _) (WkS.cons rfl (Wk.refl _) (WkS.cons rfl (Wk.refl _) (WkS.cons rfl (Wk.refl _) (WkS.nil)))))))) Pf Pf)
         ·intro s1065 hw1065; clear hm; have hm := ho1065; clear q1065 ho1065
          refine Kb ?_
          refine KV hw1065 (fun z1065 => ?_)
          refine KA rfl (fun hc1069 => ?_) (fun hc1069 => ?_)
          ·replace hm := yes_t hc1069 hm
           refine Kq ?_
           iterate 3 refine pu ?_
           obtain ⟨x1070, q1070, hm⟩ := Kc hm
           refine Kad htab rfl rfl rfl rfl rfl rfl rfl rfl rfl rfl (Kf q1070) (Kl q1070) ?_
           refine pu ?_
           refine KW (d := Kd x1070.gY) htab rfl rfl rfl rfl rfl rfl rfl rfl ?_
           obtain ⟨x1072, q1072, hm⟩ := Kc hm
           refine KaY (Ket y1057 x1070.gY x1072 q1072) rfl rfl rfl rfl rfl (WkL.cons (Wk.no) (WkL.cons (Wk.refl _) Wl)) Pf Pf ?_
           rintro _ _ _ ⟨w1071, rfl, rfl, rfl⟩
           refine pu ?_
           refine Kv ?_
           refine KJ ?_
           refine Kb ?_
           refine Kq ?_
           iterate 3 refine pu ?_
           refine Kv ?_
           refine Kb ⟨_, K1 hm, ?_⟩
           exact WkX.of w1071 (WkS.perm (WkS.cons rfl (Wk.refl _) (WkS.cons rfl (Wk.refl _) (WkS.cons rfl (Wk.refl _) (WkS.cons rfl (Wk.refl _) (WkS.cons rfl (Wk.refl _) (WkS.cons rfl (Wk.refl _) (WkS.nil))))))) Pf Pf)
          ·replace hm := yes_f hc1069 hm
           refine Kz ?_
           refine KJ ?_
           refine Kb ?_
           refine Kq ?_
           iterate 3 refine pu ?_
           refine Kv ?_
           refine Kb ⟨_, K1 hm, ?_⟩
           exact WkX.of z1057 (WkS.perm (WkS.cons rfl (Wk.refl _) (WkS.cons rfl (Wk.refl _) (WkS.cons rfl (Wk.refl _) (WkS.cons rfl (Wk.refl _) (WkS.cons rfl (Wk.refl _) (WkS.cons rfl (Wk.refl _) (WkS.nil))))))) Pf Pf)
      ·replace hm := yes_f hc1045 hm
       refine K7 ?_
       refine KC ?_
       have e986 := K0 hm; subst e986; clear hm; have hm := hq986
       refine KC ?_
       refine K2 ?_
       have e985 := Kj hm; subst e985
       refine ⟨rfl, ?_⟩
       exact WkX.of z986 (WkS.perm (WkS.cons rfl (Wk.refl _) (WkS.cons rfl (Wk.refl _) (WkS.cons rfl (Wk.refl _) (WkS.cons rfl (Wk.refl _) (WkS.cons rfl (Wk.refl _) (WkS.nil)))))) Pf Pf)
    ·intro s985 hw985; clear hm; have hm := ho985; clear q985 ho985
     refine Kb ?_
     refine KV hw985 (fun z985 => ?_)
     refine Kg ?_
     refine pu ?_
     refine Kaa htab rfl rfl rfl rfl rfl rfl rfl (by first | exact KX | rfl) ?_
     refine pu ?_
     refine pu ?_
     refine Ke ?_
     refine KA rfl (fun hc1073 => ?_) (fun hc1073 => ?_)
     ·replace hm := yes_t hc1073 hm
      refine Kg ?_
      refine pu ?_
      refine pu ?_
      refine Ke ?_
      refine KD ?_
      refine Kak ?_
      refine KS ?_
      have e540 := K0 hm; subst e540; clear hm; have hm := hq540
      refine KS ?_
      refine Kak ?_
      have e539 := Kj hm; subst e539; refine Ka4 ?_; clear hm; have hm := ho539; simp only [Sum.elim_inr] at hm
      refine KS ?_
      have er1074 := Kj hm; subst er1074
      refine rP (t' := [(6, .lst 2 (y985.map Kd) (.cur z985))]) [] [0] 0 (wC wN) (lT lN) ?_
      exact ⟨z985, rfl, rfl, rfl⟩
     ·replace hm := yes_f hc1073 hm
      refine Kz ?_
      refine KJ ?_
      refine Kb ?_
      refine Kq ?_
      iterate 3 refine pu ?_
      refine Kv ?_
      refine Kb ⟨_, K1 hm, ?_⟩
      exact WkX.of z985 (WkS.perm (WkS.cons rfl (Wk.refl _) (WkS.cons rfl (Wk.refl _) (WkS.cons rfl (Wk.refl _) (WkS.cons rfl (Wk.refl _) (WkS.nil))))) Pf Pf)
   ·replace hm := yes_f hc897 hm
    refine K7 ?_
    refine KC ?_
    have e540 := K0 hm; subst e540; clear hm; have hm := hq540
    refine KC ?_
    refine K2 ?_
    have e539 := Kj hm; subst e539
    refine Ka3 ?_
    exact WkX.of z540 (WkS.perm (WkS.cons rfl (Wk.refl _) (WkS.nil)) Pf Pf)
 ·intro y539 s539 hx539 hw539; subst hx539; clear hm; have hm := ho539; simp only [Sum.elim_inl] at hm; clear q539 ho539
  refine Kb ?_
  refine KV hw539 (fun z539 => ?_)
  refine Kg ?_
  refine pu ?_
  refine pu ?_
  refine Ke ?_
  refine KD ?_
  have er1075 := Kj hm; subst er1075
  refine rP (t' := [(6, .lst 2 (y539.map Kd) (.cur z539))]) [] [0] 0 (wC wN) (lT lN) ?_
  exact ⟨z539, rfl, rfl, rfl⟩
noncomputable def r32_Of (a0 : Kw) (a1 : Kw) (a2 : List KP) (a3 : List KP) (a4 : List Ka) : Option (List Ka) :=
 ((app 48 ([] : List KP) a2).bind fun x3 => ((app 48 x3 a3).bind fun x4 => ((Kdv a0 a1 a4).bind fun x6 => ((KeB x4 x6 false).bind fun x8 => some x8))))
theorem r32_Of_ok (a0 : Kw) (a1 : Kw) (a2 : List KP) (a3 : List KP) (a4 : List Ka) (r : List Ka) (h0 : r32_Of a0 a1 a2 a3 a4 = some r) : CallsD Tryz.prog 10 [Ku a0, Ku a1, .lst 4 (a2.map KO) .no, .lst 4 (a3.map KO) .no, .lst 2 (a4.map Kd) .no] [] [] (fun d h k => ∃ y0, d = .lst 2 (r.map Kd) (.cur y0) ∧ h = [] ∧ k = [(2, y0)]) := by
 have hm := KG h0
 unfold r32_Of at hm
 clear h0
 refine K3 htab Tryz.func10 rfl rfl rfl rfl rfl (fun C => ?_)
 refine Kg ?_
 refine p_box rfl rfl rfl rfl rfl rfl rfl (fun b1 => ?_)
 refine p_box rfl rfl rfl rfl rfl rfl rfl (fun b2 => ?_)
 refine pu ?_
 refine KR ?_
 refine pu ?_
 refine KR ?_
 refine pu ?_
 refine pu ?_
 obtain ⟨x3, q3, hm⟩ := Kc hm
 refine p_app0 htab rfl rfl rfl rfl rfl rfl rfl rfl rfl rfl rfl rfl rfl rfl rfl (by simpa using Kan (e := KO) q3) (fun v3 => ?_)
 refine p_mapD0 (i := 14) q3 rfl ?_
 refine pu ?_
 refine KR ?_
 refine pu ?_
 refine pu ?_
 obtain ⟨x4, q4, hm⟩ := Kc hm
 refine Ka0 0 htab rfl rfl rfl rfl rfl rfl rfl rfl rfl rfl rfl rfl rfl rfl rfl rfl rfl (Kan q4) (fun v4 => ?_)
 refine Ka2 (i := 17) q4 rfl ?_
 refine pu ?_
 refine KR ?_
 refine pu ?_
 refine KaE (d := Ku a0) 0 htab rfl rfl rfl rfl rfl rfl rfl rfl ?_
 refine KaE (d := Ku a1) 1 htab rfl rfl rfl rfl rfl rfl rfl rfl ?_
 refine pu ?_
 obtain ⟨x6, q6, hm⟩ := Kc hm
 refine pG (Kgw a0 a1 a4 x6 q6) Wl Pf Pf ?_
 rintro _ _ _ ⟨w5, rfl, rfl, rfl⟩
 obtain ⟨x8, q8, hm⟩ := Kc hm
 refine KaY (r29_All_ok x4 x6 false x8 q8) rfl rfl rfl rfl rfl (WkL.cons (Wk.no) (WkL.cons (Wk.no) (WkL.cons (Wk.refl _) Wl))) Pf Pf ?_
 rintro _ _ _ ⟨w7, rfl, rfl, rfl⟩
 refine pu ?_
 refine Ke ?_
 refine KD ?_
 have er9 := Kj hm; subst er9
 refine rP (t' := [(10, .lst 2 (x8.map Kd) (.cur w7))]) [] [0] 0 (wC wN) (lT lN) ?_
 exact ⟨w7, rfl, rfl, rfl⟩
theorem r32_Of_ok0 (a0 : Kw) (a1 : Kw) (a2 : List KP) (a3 : List KP) (a4 : List Ka) (r : List Ka) (h0 : r32_Of a0 a1 a2 a3 a4 = some r) : CallsD Tryz.prog 10 [Ku a0, Ku a1, .lst 4 (a2.map KO) .no, .lst 4 (a3.map KO) .no, .lst 2 (a4.map Kd) .no] [] [] (fun d h k => d = .lst 2 (r.map Kd) .no ∧ h = [] ∧ k = []) :=
 (r32_Of_ok a0 a1 a2 a3 a4 r h0).drop fun d h k ⟨y0, e, _, _⟩ => by subst e; exact Wk.no
end Go.Proofs.YtnfkijcmakgkmaaGreat.Ab
namespace Go.Proofs.YtnfkijcmakgkmaaGreat.Ab
open Go
set_option linter.all false
noncomputable def KgM (a0 : List KP) (a1 : Ka) (a2 : Ka) : Option (List KP) :=
 ((Kcg a1).bind fun x3 => ((Kcg a2).bind fun x4 => (Option.bind (α := List KP) (loopM (fun (s27 : List KP × Int) => (bif (decide (s27.2 < (a0.length : Int))) then ((idx a0 s27.2).bind fun x42 => (bif (!((decide (x42.gX.gName = x3.gName) && (x42.gX.gNode == x3.gNode && true)) && ((decide (x42.gY.gName = x4.gName) && (x42.gY.gNode == x4.gNode && true)) && true))) then ((idx a0 s27.2).bind fun x44 => ((app 48 s27.1 ([x44] : List KP)).bind fun x45 => some (.next (x45, (IntKind.i64.wrap (s27.2 + (1 : Int))))))) else some (.next (s27.1, (IntKind.i64.wrap (s27.2 + (1 : Int))))))) else some (.done s27.1))) (([] : List KP), (0 : Int))) fun y26 => ((app 48 y26 ([(⟨x3, x4⟩ : KP)] : List KP)).bind fun x46 => some x46))))
theorem r29_Add_ok (a0 : List KP) (a1 : Ka) (a2 : Ka) (r : List KP) (h0 : KgM a0 a1 a2 = some r) : CallsD Tryz.prog 15 [.lst 4 (a0.map KO) .no, Kd a1, Kd a2] [] [] (fun d h k => ∃ y0, d = .lst 4 (r.map KO) (.cur y0) ∧ h = [] ∧ k = [(4, y0)]) := by
 have hm := KG h0
 unfold KgM at hm
 clear h0
 refine K3 htab Tryz.func15 rfl rfl rfl rfl rfl (fun C => ?_)
 refine Kg ?_
 refine p_box rfl rfl rfl rfl rfl rfl rfl (fun b1 => ?_)
 refine p_box rfl rfl rfl rfl rfl rfl rfl (fun b2 => ?_)
 refine pu ?_
 refine Ke ?_
 refine Kk ?_
 obtain ⟨x3, q3, hm⟩ := Kc hm
 obtain ⟨x4, q4, hm⟩ := Kc hm
 refine Kaf 6 [(5, [.v (.string ByteArray.empty), .v (.int .i64 (0 : Int)), .v (.string ByteArray.empty), .v (.int .i64 (0 : Int))], 43)] [[],[0],[],[0,1,2],[0,1,2,3],[]] [0,1,2,3,4,5] [[],[0],[],[0,1,2],[0,1,2,3],[],[0,1,2,3,4,5]] (by kernel_rfl) (by kernel_rfl) (by kernel_rfl) (by rfl) (by rfl) (by kernel_rfl) ?_
 iterate 5 apply Exists.intro
 refine ⟨.any, ?_⟩
 intro bs
 refine z_eM rfl rfl (Kaj (d := Kd a1) 0 htab rfl rfl rfl rfl rfl) rfl rfl rfl rfl rfl rfl ?_
 refine KbC rfl rfl (Kc0 a1 x3 q3) rfl rfl Wl rfl rfl rfl rfl rfl rfl ?_
 refine z_eM rfl rfl (Kaj (d := Kd a2) 1 htab rfl rfl rfl rfl rfl) rfl rfl rfl rfl rfl rfl ?_
 refine KbC rfl rfl (Kc0 a2 x4 q4) rfl rfl Wl rfl rfl rfl rfl rfl rfl ?_
 refine z_e rfl rfl (x_build (r := [.v (.string x3.gName), .v (.int .i64 x3.gNode), .v (.string x4.gName), .v (.int .i64 x4.gNode)]) htab rfl rfl rfl rfl rfl rfl) rfl rfl rfl rfl rfl rfl ?_
 refine z_alloc rfl htab rfl rfl rfl rfl rfl rfl rfl rfl (by simp [dOf, eI64]) (by simp) ?_
 refine z_nil rfl (by simp only [List.map_cons, List.map_nil]; exact rfl) (fun e he => by simp [isAl] at he; subst he; rfl) ?_
 obtain ⟨b5, hb5⟩ : ∃ b, bs 5 = b := ⟨_, rfl⟩
 simp only [hb5]
 clear hb5
 refine pS2 (ds' := [.v (.string x3.gName), .v (.int .i64 x3.gNode), .v (.string x4.gName), .v (.int .i64 x4.gNode)]) ?_
 refine KR ?_
 refine pu ?_
 refine Ke ?_
 refine Kk ?_
 refine Kg ?_
 refine pu ?_
 refine Ke ?_
 obtain ⟨y26, q26, ho26⟩ := Kc hm
 refine Kae (Y := Value) (fun z26 => (⟨[(7, .ptr b5 0), (8, .lst 4 (y26.map KO) (.cur z26))], [(b5, Blk.cells [.v (.string x3.gName), .v (.int .i64 x3.gNode), .v (.string x4.gName), .v (.int .i64 x4.gNode)] 43)], [(4, z26)]⟩ : S)) ?_ ?_
 ·clear hm; have hm := KG q26
  refine KB ?_
  obtain ⟨u27, hl27, hq27⟩ := yes_m hm
  refine Kao (Y := Value) hl27 (fun s27 z27 => (⟨[(0, .lst 4 (a0.map KO) .no), (7, .ptr b5 0), (8, .lst 4 (s27.1.map KO) (.cur z27)), (9, .v (.int .i64 s27.2))], [(b5, Blk.cells [.v (.string x3.gName), .v (.int .i64 x3.gNode), .v (.string x4.gName), .v (.int .i64 x4.gNode)] 43)], [(4, z27)]⟩ : S)) ?_ ?_
  ·skip
   refine WkX.tokN (i := 8) 4 rfl (fun w40 => ?_)
   exact WkX.of w40 (WkS.perm (WkS.cons rfl (Wk.refl _) (WkS.cons rfl (Wk.refl _) (WkS.cons rfl (Wk.refl _) (WkS.cons rfl (Wk.refl _) (WkS.nil))))) ((KI (j := 2) rfl).trans (List.Perm.cons _ Pf)) Pf)
  ·intro G27 s27 z27 hm
   refine Kk ?_
   refine Kg ?_
   refine pu ?_
   refine pu ?_
   refine Kaa htab rfl rfl rfl rfl rfl rfl rfl (by first | exact KX | rfl) ?_
   refine pu ?_
   refine Ke ?_
   refine KA rfl (fun hc41 => ?_) (fun hc41 => ?_)
   ·replace hm := yes_t hc41 hm
    refine Kz ?_
    refine Kb ?_
    refine Kk ?_
    refine KB ?_
    refine Kk ?_
    obtain ⟨x42, q42, hm⟩ := Kc hm
    refine Kaf 5 [] [[],[],[0],[0,2],[]] [0,2,3,4] [[],[],[0,1],[0,1,2],[],[0,1,2,3,4]] (by kernel_rfl) (by kernel_rfl) (by kernel_rfl) (by rfl) (by rfl) (by kernel_rfl) ?_
    iterate 4 apply Exists.intro
    intro bs
    refine zep ?_
    refine zqp ?_
    refine z_e rfl rfl (KE htab rfl rfl rfl rfl rfl rfl rfl (Kf q42) (Kl q42)) rfl rfl rfl rfl rfl rfl ?_
    refine z_eM rfl rfl (Ko (d := KO x42) htab rfl rfl rfl rfl rfl) rfl rfl rfl rfl rfl rfl ?_
    refine z_eM rfl rfl (Kaj (d := KO (⟨x3, x4⟩ : KP)) 0 htab rfl rfl rfl rfl rfl) rfl rfl rfl rfl rfl rfl ?_
    refine z_nil rfl rfl (fun e he => by simp [isAl] at he) ?_
    refine p_eqC eqn43 htab rfl rfl rfl rfl rfl eqs43 eqg43 rfl rfl rfl rfl ?_
    refine Ke ?_
    refine KA rfl (fun hc43 => ?_) (fun hc43 => ?_)
    ·replace hm := yes_t hc43 hm
     refine Kq ?_
     iterate 3 refine pu ?_
     obtain ⟨x44, q44, hm⟩ := Kc hm
     refine Kad htab rfl rfl rfl rfl rfl rfl rfl rfl rfl rfl (Kf q44) (Kl q44) ?_
     refine KW (d := KO x44) htab rfl rfl rfl rfl rfl rfl rfl rfl ?_
     refine p_lit htab rfl rfl rfl rfl rfl rfl rfl rfl rfl rfl rfl rfl rfl rfl ?_
     refine p_eq (i := 32) (d' := .lst 4 (([x44] : List KP).map KO) .full) rfl (Wk.lst0 (.cons (WkC.refl _) (.nil))) ?_
     obtain ⟨x45, q45, hm⟩ := Kc hm
     refine Ka0 0 htab rfl rfl rfl rfl rfl rfl rfl rfl rfl rfl rfl rfl rfl rfl rfl rfl rfl (Kan q45) (fun v45 => ?_)
     refine Ka2 (i := 33) q45 rfl ?_
     refine pu ?_
     refine Kv ?_
     refine KJ ?_
     refine Kb ?_
     refine Kq ?_
     iterate 3 refine pu ?_
     refine Kv ?_
     refine Kb ⟨_, K1 hm, ?_⟩
     exact WkX.of v45 (WkS.perm (WkS.cons rfl (Wk.refl _) (WkS.cons rfl (Wk.refl _) (WkS.cons rfl (Wk.refl _) (WkS.cons rfl (Wk.refl _) (WkS.nil))))) Pf Pf)
    ·replace hm := yes_f hc43 hm
     refine Kz ?_
     refine KJ ?_
     refine Kb ?_
     refine Kq ?_
     iterate 3 refine pu ?_
     refine Kv ?_
     refine Kb ⟨_, K1 hm, ?_⟩
     exact WkX.of z27 (WkS.perm (WkS.cons rfl (Wk.refl _) (WkS.cons rfl (Wk.refl _) (WkS.cons rfl (Wk.refl _) (WkS.cons rfl (Wk.refl _) (WkS.nil))))) Pf Pf)
   ·replace hm := yes_f hc41 hm
    refine K7 ?_
    refine KC ?_
    have e27 := K0 hm; subst e27; clear hm; have hm := hq27
    refine KC ?_
    refine K2 ?_
    have e26 := Kj hm; subst e26
    refine ⟨rfl, ?_⟩
    exact WkX.of z27 (WkS.perm (WkS.cons rfl (Wk.refl _) (WkS.cons rfl (Wk.refl _) (WkS.nil))) Pf Pf)
 ·intro s26 hw26; clear hm; have hm := ho26; clear q26 ho26
  refine Kb ?_
  refine KV hw26 (fun z26 => ?_)
  refine Kg ?_
  refine pu ?_
  refine KaE (d := KO (⟨x3, x4⟩ : KP)) 0 htab rfl rfl rfl rfl rfl rfl rfl rfl ?_
  refine p_lit htab rfl rfl rfl rfl rfl rfl rfl rfl rfl rfl rfl rfl rfl rfl ?_
  refine p_eq (i := 36) (d' := .lst 4 (([(⟨x3, x4⟩ : KP)] : List KP).map KO) .full) rfl (Wk.lst0 (.cons (WkC.refl _) (.nil))) ?_
  obtain ⟨x46, q46, hm⟩ := Kc hm
  refine Ka0 0 htab rfl rfl rfl rfl rfl rfl rfl rfl rfl rfl rfl rfl rfl rfl rfl rfl rfl (Kan q46) (fun v46 => ?_)
  refine Ka2 (i := 37) q46 rfl ?_
  refine pu ?_
  refine Ke ?_
  refine KD ?_
  have er47 := Kj hm; subst er47
  refine rP (t' := [(6, .lst 4 (x46.map KO) (.cur v46))]) [] [0] 0 (wC wN) (lT lN) ?_
  exact ⟨v46, rfl, rfl, rfl⟩
noncomputable def KfY (a0 : List Ka) (a1 : List Ka) : Option (Bool) :=
 (bif ((a0.length : Int) != (a1.length : Int)) then some false else (Option.bind (α := (Unit) ⊕ (Bool)) (loopM (fun (s21 : Int) => (bif (decide (s21 < (a0.length : Int))) then ((idx a0 s21).bind fun x33 => ((idx a1 s21).bind fun x34 => (bif (!(decide (x33.gName = x34.gName) && (x33.gNode == x34.gNode && true))) then some (.done (.inr false)) else some (.next (IntKind.i64.wrap (s21 + (1 : Int))))))) else some (.done (.inl ())))) (0 : Int)) (Sum.elim (fun y20 => some true) (fun r => some r))))
theorem KjA (a0 : List Ka) (a1 : List Ka) (r : Bool) (h0 : KfY a0 a1 = some r) : CallsD Tryz.prog 6 [.lst 2 (a0.map Kd) .no, .lst 2 (a1.map Kd) .no] [] [] (fun d h k => d = .v (.bool r) ∧ h = [] ∧ k = []) := by
 have hm := KG h0
 unfold KfY at hm
 clear h0
 refine K3 htab Tryz.func6 rfl rfl rfl rfl rfl (fun C => ?_)
 refine Kg ?_
 refine pu ?_
 refine Ke ?_
 refine Kk ?_
 refine Kg ?_
 refine pu ?_
 refine Kaa htab rfl rfl rfl rfl rfl rfl rfl (by first | exact KX | rfl) ?_
 refine pu ?_
 refine Kaa htab rfl rfl rfl rfl rfl rfl rfl (by first | exact KX | rfl) ?_
 refine pu ?_
 refine Ke ?_
 refine KA rfl (fun hc2 => ?_) (fun hc2 => ?_)
 ·replace hm := yes_t hc2 hm
  refine Kg ?_
  refine pu ?_
  refine Ke ?_
  refine KD ?_
  refine KS ?_
  have er3 := Kj hm; subst er3
  refine rP (t' := [(4, .v (.bool false))]) [] [] 0 (wC wN) (lT lN) ?_
  exact ⟨rfl, rfl, rfl⟩
 ·replace hm := yes_f hc2 hm
  refine Kz ?_
  refine Kb ?_
  refine Kk ?_
  refine Kg ?_
  refine pu ?_
  refine Ke ?_
  obtain ⟨x20, q20, ho20⟩ := Kc hm
  refine Ka1 (τ := Unit) (Y := Unit) (fun y20 z20 => (⟨[], [], []⟩ : S)) x20 ?_ ?_
  ·clear hm; have hm := KG q20
   refine KB ?_
   obtain ⟨u21, hl21, hq21⟩ := yes_m hm
   refine Kao (Y := Unit) hl21 (fun s21 z21 => (⟨[(0, .lst 2 (a0.map Kd) .no), (1, .lst 2 (a1.map Kd) .no), (5, .v (.int .i64 s21))], [], []⟩ : S)) ?_ ?_
   ·skip
    exact WkX.of () (WkS.perm (WkS.cons rfl (Wk.refl _) (WkS.cons rfl (Wk.refl _) (WkS.cons rfl (Wk.refl _) (WkS.nil)))) Pf Pf)
   ·intro G21 s21 z21 hm
    refine Kk ?_
    refine Kg ?_
    refine pu ?_
    refine pu ?_
    refine Kaa htab rfl rfl rfl rfl rfl rfl rfl (by first | exact KX | rfl) ?_
    refine pu ?_
    refine Ke ?_
    refine KA rfl (fun hc32 => ?_) (fun hc32 => ?_)
    ·replace hm := yes_t hc32 hm
     refine Kz ?_
     refine Kb ?_
     refine Kk ?_
     refine KB ?_
     refine Kk ?_
     obtain ⟨x33, q33, hm⟩ := Kc hm
     obtain ⟨x34, q34, hm⟩ := Kc hm
     refine Kaf 8 [] [[],[],[0],[0,2],[],[],[4],[4,6]] [0,2,3,4,6,7] [[],[],[0,1],[0,1,2],[],[],[4,5],[4,5,6],[0,1,2,3,4,5,6,7]] (by kernel_rfl) (by kernel_rfl) (by kernel_rfl) (by rfl) (by rfl) (by kernel_rfl) ?_
     iterate 6 apply Exists.intro
     intro bs
     refine zep ?_
     refine zqp ?_
     refine z_e rfl rfl (KE htab rfl rfl rfl rfl rfl rfl rfl (Kf q33) (Kl q33)) rfl rfl rfl rfl rfl rfl ?_
     refine z_eM rfl rfl (Ko (d := Kd x33) htab rfl rfl rfl rfl rfl) rfl rfl rfl rfl rfl rfl ?_
     refine zep ?_
     refine zqp ?_
     refine z_e rfl rfl (KE htab rfl rfl rfl rfl rfl rfl rfl (Kf q34) (Kl q34)) rfl rfl rfl rfl rfl rfl ?_
     refine z_eM rfl rfl (Ko (d := Kd x34) htab rfl rfl rfl rfl rfl) rfl rfl rfl rfl rfl rfl ?_
     refine z_nil rfl rfl (fun e he => by simp [isAl] at he) ?_
     refine p_eqS htab rfl rfl rfl rfl rfl eqt41 rfl rfl rfl rfl rfl ?_
     refine Ke ?_
     refine KA rfl (fun hc35 => ?_) (fun hc35 => ?_)
     ·replace hm := yes_t hc35 hm
      refine Kg ?_
      refine pu ?_
      refine Ke ?_
      refine KD ?_
      refine Kak ?_
      refine KS ?_
      have e21 := K0 hm; subst e21; clear hm; have hm := hq21
      refine KS ?_
      refine Kak ?_
      have e20 := Kj hm; subst e20; refine Ka4 ?_; clear hm; have hm := ho20; simp only [Sum.elim_inr] at hm
      refine KS ?_
      have er36 := Kj hm; subst er36
      refine rP (t' := [(4, .v (.bool false))]) [] [] 0 (wC wN) (lT lN) ?_
      exact ⟨rfl, rfl, rfl⟩
     ·replace hm := yes_f hc35 hm
      refine Kz ?_
      refine KJ ?_
      refine Kb ?_
      refine Kq ?_
      iterate 3 refine pu ?_
      refine Kv ?_
      refine Kb ⟨_, K1 hm, ?_⟩
      exact WkX.of () (WkS.perm (WkS.cons rfl (Wk.refl _) (WkS.cons rfl (Wk.refl _) (WkS.cons rfl (Wk.refl _) (WkS.nil)))) Pf Pf)
    ·replace hm := yes_f hc32 hm
     refine K7 ?_
     refine KC ?_
     have e21 := K0 hm; subst e21; clear hm; have hm := hq21
     refine KC ?_
     refine K2 ?_
     have e20 := Kj hm; subst e20
     refine Ka3 ?_
     exact WkX.of () (WkS.perm (WkS.nil) Pf Pf)
  ·intro y20 s20 hx20 hw20; subst hx20; clear hm; have hm := ho20; simp only [Sum.elim_inl] at hm; clear q20 ho20
   refine Kb ?_
   refine KV hw20 (fun z20 => ?_)
   refine Kg ?_
   refine pu ?_
   refine Ke ?_
   refine KD ?_
   have er37 := Kj hm; subst er37
   refine rP (t' := [(4, .v (.bool true))]) [] [] 0 (wC wN) (lT lN) ?_
   exact ⟨rfl, rfl, rfl⟩
structure Kbb where
 gP : Kw
 gQ : Kw
 gReads : List KP
 gAdds : List KP
 gKnown : List Ka
def Ka7 (x : Kbb) : D := .agg [.lst 4 (x.gP.gGlobals.map KK) .no, .lst 5 (x.gP.gFuncs.map KF) .no, .lst 4 (x.gQ.gGlobals.map KK) .no, .lst 5 (x.gQ.gFuncs.map KF) .no, .lst 4 (x.gReads.map KO) .no, .lst 4 (x.gAdds.map KO) .no, .lst 2 (x.gKnown.map Kd) .no]
def KeZ (x : Kab) : Prop := x.gName.size ≤ maxLen ∧ (Lit.int .i64 x.gSize).wf = true ∧ (Lit.int .i64 x.gAt).wf = true
theorem Kin {n : Nat} {d : D} (g : GoodT tab n 110 d) : ∃ x : Kab, d = KK x ∧ KeZ x := by
  obtain ⟨n', ds, _, rfl, hl, h⟩ := KbK ti110 rfl g
  match ds, hl with
  | [d0, d1, d2, d3], _ =>
    obtain ⟨x1, rfl, w1⟩ := Kdl ti9 rfl (h 0 _ _ rfl rfl)
    obtain ⟨x2, rfl⟩ := KiI ti4 rfl (h 1 _ _ rfl rfl)
    obtain ⟨x3, rfl, w3⟩ := Kcv ti3 rfl (h 2 _ _ rfl rfl)
    obtain ⟨x4, rfl, w4⟩ := Kcv ti3 rfl (h 3 _ _ rfl rfl)
    exact ⟨⟨x1, x2, x3, x4⟩, rfl, w1, w3, w4⟩
def Ked (x : Kba) : Prop := x.gName.size ≤ maxLen
theorem Khd {n : Nat} {d : D} (g : GoodT tab n 130 d) : ∃ x : Kba, d = Kah x ∧ Ked x := by
  obtain ⟨n', ds, _, rfl, hl, h⟩ := KbK ti130 rfl g
  match ds, hl with
  | [d0, d1], _ =>
    obtain ⟨x1, rfl, w1⟩ := Kdl ti9 rfl (h 0 _ _ rfl rfl)
    obtain ⟨x2, rfl⟩ := KiI ti4 rfl (h 1 _ _ rfl rfl)
    exact ⟨⟨x1, x2⟩, rfl, w1⟩
def Keu (_ : Kn) : Prop := True
theorem Kfy : ∀ (n : Nat) {d : D} (g : GoodT tab n 100 d), ∃ x : Kn, d = Kx x ∧ Keu x
  | 0, d, g => by simp [GoodT] at g
  | n + 1, d, g => by
    obtain ⟨n', ds, hn, rfl, hl, h⟩ := KbK ti100 rfl g
    obtain rfl : n' = n := by omega
    match ds, hl with
    | [d0, d1, d2, d3, d4], _ =>
      obtain ⟨x1, rfl, w1⟩ := Kcv ti3 rfl (h 0 _ _ rfl rfl)
      obtain ⟨x2, rfl, w2⟩ := Kcv ti3 rfl (h 1 _ _ rfl rfl)
      obtain ⟨x3, rfl, w3⟩ := Kdl ti9 rfl (h 2 _ _ rfl rfl)
      obtain ⟨n4, zs4, hn4, rfl, hl4, hz4⟩ := Kbk ti95 rfl ti100 (h 3 _ _ rfl rfl)
      obtain ⟨x4, rfl, w4⟩ := Kbp (f := Kx) (K := (fun y => Keu y)) (p := fun x => GoodT tab n4 100 x) (fun x hx => by obtain ⟨x5, rfl, w5⟩ := Kfy _ (hx); exact ⟨x5, rfl, w5⟩) zs4 hz4
      obtain ⟨x6, rfl, w6⟩ := Kcv ti3 rfl (h 4 _ _ rfl rfl)
      exact ⟨⟨x1, x2, x3, x4, x6⟩, by rw [KM]; rfl, trivial⟩
theorem Kjk {n : Nat} {d : D} (g : GoodT tab n 100 d) : ∃ x : Kn, d = Kx x ∧ Keu x := Kfy n g
def Kda (_ : Kh) : Prop := True
theorem KdT : ∀ (n : Nat) {d : D} (g : GoodT tab n 97 d), ∃ x : Kh, d = Ks x ∧ Kda x
  | 0, d, g => by simp [GoodT] at g
  | n + 1, d, g => by
    obtain ⟨n', ds, hn, rfl, hl, h⟩ := KbK ti97 rfl g
    obtain rfl : n' = n := by omega
    match ds, hl with
    | [d0, d1, d2, d3, d4, d5, d6], _ =>
      obtain ⟨x1, rfl, w1⟩ := Kcv ti3 rfl (h 0 _ _ rfl rfl)
      obtain ⟨x2, rfl, w2⟩ := Kdl ti9 rfl (h 1 _ _ rfl rfl)
      obtain ⟨x3, rfl, w3⟩ := Kdl ti9 rfl (h 2 _ _ rfl rfl)
      obtain ⟨n4, zs4, hn4, rfl, hl4, hz4⟩ := Kbk ti95 rfl ti100 (h 3 _ _ rfl rfl)
      obtain ⟨x4, rfl, w4⟩ := Kbp (f := Kx) (K := (fun y => Keu y)) (p := fun x => GoodT tab n4 100 x) (fun x hx => by obtain ⟨x5, rfl, w5⟩ := Kjk (hx); exact ⟨x5, rfl, w5⟩) zs4 hz4
      obtain ⟨n6, zs6, hn6, rfl, hl6, hz6⟩ := Kbk ti61 rfl ti97 (h 4 _ _ rfl rfl)
      obtain ⟨x6, rfl, w6⟩ := Kbp (f := Ks) (K := (fun y => Kda y)) (p := fun x => GoodT tab n6 97 x) (fun x hx => by obtain ⟨x7, rfl, w7⟩ := KdT _ (hx); exact ⟨x7, rfl, w7⟩) zs6 hz6
      obtain ⟨n8, zs8, hn8, rfl, hl8, hz8⟩ := Kbk ti61 rfl ti97 (h 5 _ _ rfl rfl)
      obtain ⟨x8, rfl, w8⟩ := Kbp (f := Ks) (K := (fun y => Kda y)) (p := fun x => GoodT tab n8 97 x) (fun x hx => by obtain ⟨x9, rfl, w9⟩ := KdT _ (hx); exact ⟨x9, rfl, w9⟩) zs8 hz8
      obtain ⟨x10, rfl, w10⟩ := Kcv ti3 rfl (h 6 _ _ rfl rfl)
      exact ⟨⟨x1, x2, x3, x4, x6, x8, x10⟩, by rw [Kp]; rfl, trivial⟩
theorem Kjl {n : Nat} {d : D} (g : GoodT tab n 97 d) : ∃ x : Kh, d = Ks x ∧ Kda x := KdT n g
def KfZ (x : KT) : Prop := x.gName.size ≤ maxLen ∧ (x.gParams.length ≤ maxLen ∧ ∀ y ∈ x.gParams, Ked y) ∧ (x.gLocals.length ≤ maxLen ∧ ∀ y ∈ x.gLocals, Ked y) ∧ (x.gBody.length ≤ maxLen ∧ ∀ y ∈ x.gBody, Kda y) ∧ (Lit.int .i64 x.gAt).wf = true
theorem Kjm {n : Nat} {d : D} (g : GoodT tab n 63 d) : ∃ x : KT, d = KF x ∧ KfZ x := by
  obtain ⟨n', ds, _, rfl, hl, h⟩ := KbK ti63 rfl g
  match ds, hl with
  | [d0, d1, d2, d3, d4], _ =>
    obtain ⟨x1, rfl, w1⟩ := Kdl ti9 rfl (h 0 _ _ rfl rfl)
    obtain ⟨n2, zs2, _, rfl, hl2, hz2⟩ := Kbk ti60 rfl ti130 (h 1 _ _ rfl rfl)
    obtain ⟨x2, rfl, w2⟩ := Kbp (f := Kah) (K := (fun y => Ked y)) (p := fun x => GoodT tab n2 130 x) (fun x hx => by obtain ⟨x3, rfl, w3⟩ := Khd (hx); exact ⟨x3, rfl, w3⟩) zs2 hz2
    obtain ⟨n4, zs4, _, rfl, hl4, hz4⟩ := Kbk ti60 rfl ti130 (h 2 _ _ rfl rfl)
    obtain ⟨x4, rfl, w4⟩ := Kbp (f := Kah) (K := (fun y => Ked y)) (p := fun x => GoodT tab n4 130 x) (fun x hx => by obtain ⟨x5, rfl, w5⟩ := Khd (hx); exact ⟨x5, rfl, w5⟩) zs4 hz4
    obtain ⟨n6, zs6, _, rfl, hl6, hz6⟩ := Kbk ti61 rfl ti97 (h 3 _ _ rfl rfl)
    obtain ⟨x6, rfl, w6⟩ := Kbp (f := Ks) (K := (fun y => Kda y)) (p := fun x => GoodT tab n6 97 x) (fun x hx => by obtain ⟨x7, rfl, w7⟩ := Kjl (hx); exact ⟨x7, rfl, w7⟩) zs6 hz6
    obtain ⟨x8, rfl, w8⟩ := Kcv ti3 rfl (h 4 _ _ rfl rfl)
    exact ⟨⟨x1, x2, x4, x6, x8⟩, rfl, w1, ⟨by simpa using hl2, w2⟩, ⟨by simpa using hl4, w4⟩, ⟨by simpa using hl6, w6⟩, w8⟩
def Kei (x : Kw) : Prop := (x.gGlobals.length ≤ maxLen ∧ ∀ y ∈ x.gGlobals, KeZ y) ∧ (x.gFuncs.length ≤ maxLen ∧ ∀ y ∈ x.gFuncs, KfZ y)
theorem Ke9 {n : Nat} {d : D} (g : GoodT tab n 25 d) : ∃ x : Kw, d = Ku x ∧ Kei x := by
  obtain ⟨n', ds, _, rfl, hl, h⟩ := KbK ti25 rfl g
  match ds, hl with
  | [d0, d1], _ =>
    obtain ⟨n1, zs1, _, rfl, hl1, hz1⟩ := Kbk ti22 rfl ti110 (h 0 _ _ rfl rfl)
    obtain ⟨x1, rfl, w1⟩ := Kbp (f := KK) (K := (fun y => KeZ y)) (p := fun x => GoodT tab n1 110 x) (fun x hx => by obtain ⟨x2, rfl, w2⟩ := Kin (hx); exact ⟨x2, rfl, w2⟩) zs1 hz1
    obtain ⟨n3, zs3, _, rfl, hl3, hz3⟩ := Kbk ti23 rfl ti63 (h 1 _ _ rfl rfl)
    obtain ⟨x3, rfl, w3⟩ := Kbp (f := KF) (K := (fun y => KfZ y)) (p := fun x => GoodT tab n3 63 x) (fun x hx => by obtain ⟨x4, rfl, w4⟩ := Kjm (hx); exact ⟨x4, rfl, w4⟩) zs3 hz3
    exact ⟨⟨x1, x3⟩, rfl, ⟨by simpa using hl1, w1⟩, ⟨by simpa using hl3, w3⟩⟩
def Kee (x : Ka) : Prop := x.gName.size ≤ maxLen ∧ (Lit.int .i64 x.gNode).wf = true
theorem Kfh {n : Nat} {d : D} (g : GoodT tab n 41 d) : ∃ x : Ka, d = Kd x ∧ Kee x := by
  obtain ⟨n', ds, _, rfl, hl, h⟩ := KbK ti41 rfl g
  match ds, hl with
  | [d0, d1], _ =>
    obtain ⟨x1, rfl, w1⟩ := Kdl ti9 rfl (h 0 _ _ rfl rfl)
    obtain ⟨x2, rfl, w2⟩ := Kcv ti3 rfl (h 1 _ _ rfl rfl)
    exact ⟨⟨x1, x2⟩, rfl, w1, w2⟩
def KbF (x : KP) : Prop := Kee x.gX ∧ Kee x.gY
theorem Kdw {n : Nat} {d : D} (g : GoodT tab n 43 d) : ∃ x : KP, d = KO x ∧ KbF x := by
  obtain ⟨n', ds, _, rfl, hl, h⟩ := KbK ti43 rfl g
  match ds, hl with
  | [d0, d1], _ =>
    obtain ⟨x1, rfl, w1⟩ := Kfh (h 0 _ _ rfl rfl)
    obtain ⟨x2, rfl, w2⟩ := Kfh (h 1 _ _ rfl rfl)
    exact ⟨⟨x1, x2⟩, rfl, w1, w2⟩
def KdI (x : Kbb) : Prop := Kei x.gP ∧ Kei x.gQ ∧ (x.gReads.length ≤ maxLen ∧ ∀ y ∈ x.gReads, KbF y) ∧ (x.gAdds.length ≤ maxLen ∧ ∀ y ∈ x.gAdds, KbF y) ∧ (x.gKnown.length ≤ maxLen ∧ ∀ y ∈ x.gKnown, Kee y)
theorem goodTSondagelaw32Case {n : Nat} {d : D} (g : GoodT tab n 29 d) : ∃ x : Kbb, d = Ka7 x ∧ KdI x := by
  obtain ⟨n', ds, _, rfl, hl, h⟩ := KbK ti29 rfl g
  match ds, hl with
  | [d0, d1, d2, d3, d4], _ =>
    obtain ⟨x1, rfl, w1⟩ := Ke9 (h 0 _ _ rfl rfl)
    obtain ⟨x2, rfl, w2⟩ := Ke9 (h 1 _ _ rfl rfl)
    obtain ⟨n3, zs3, _, rfl, hl3, hz3⟩ := Kbk ti26 rfl ti43 (h 2 _ _ rfl rfl)
    obtain ⟨x3, rfl, w3⟩ := Kbp (f := KO) (K := (fun y => KbF y)) (p := fun x => GoodT tab n3 43 x) (fun x hx => by obtain ⟨x4, rfl, w4⟩ := Kdw (hx); exact ⟨x4, rfl, w4⟩) zs3 hz3
    obtain ⟨n5, zs5, _, rfl, hl5, hz5⟩ := Kbk ti26 rfl ti43 (h 3 _ _ rfl rfl)
    obtain ⟨x5, rfl, w5⟩ := Kbp (f := KO) (K := (fun y => KbF y)) (p := fun x => GoodT tab n5 43 x) (fun x hx => by obtain ⟨x6, rfl, w6⟩ := Kdw (hx); exact ⟨x6, rfl, w6⟩) zs5 hz5
    obtain ⟨n7, zs7, _, rfl, hl7, hz7⟩ := Kbk ti27 rfl ti41 (h 4 _ _ rfl rfl)
    obtain ⟨x7, rfl, w7⟩ := Kbp (f := Kd) (K := (fun y => Kee y)) (p := fun x => GoodT tab n7 41 x) (fun x hx => by obtain ⟨x8, rfl, w8⟩ := Kfh (hx); exact ⟨x8, rfl, w8⟩) zs7 hz7
    exact ⟨⟨x1, x2, x3, x5, x7⟩, rfl, w1, w2, ⟨by simpa using hl3, w3⟩, ⟨by simpa using hl5, w5⟩, ⟨by simpa using hl7, w7⟩⟩
end Go.Proofs.YtnfkijcmakgkmaaGreat.Ab
namespace Go.Proofs.YtnfkijcmakgkmaaGreat.Ab
open Go
set_option linter.all false
mutual
def szE : Kn → Nat
 | ⟨_, _, _, ks, _⟩ => 1 + szEs ks
def szEs : List Kn → Nat
 | [] => 0
 | e :: l => szE e + szEs l
end
mutual
def dpE : Kn → Nat
 | ⟨_, _, _, ks, _⟩ => 1 + dpEs ks
def dpEs : List Kn → Nat
 | [] => 0
 | e :: l => max (dpE e) (dpEs l)
end
theorem Kfz (e : Kn) : szE e = 1 + szEs e.gKids := by cases e; simp only [szE]
theorem KfA (e : Kn) : dpE e = 1 + dpEs e.gKids := by cases e; simp only [dpE]
theorem Khe : ∀ l m, szEs (l ++ m) = szEs l + szEs m
 | [], m => by simp [szEs]
 | e :: l, m => by simp only [List.cons_append, szEs, Khe l m]; omega
theorem KgN : ∀ {l : List Kn} {e : Kn}, e ∈ l → dpE e ≤ dpEs l
  | x :: l, e, h => by
    simp only [dpEs]
    rcases List.mem_cons.1 h with rfl | h
    · omega
    · have := KgN h; omega
theorem KgO : ∀ {l : List Kn} {e : Kn}, e ∈ l → szE e ≤ szEs l
  | x :: l, e, h => by
    simp only [szEs]
    rcases List.mem_cons.1 h with rfl | h
    · omega
    · have := KgO h; omega
def wE (e : Kn) : Nat := wt (Kx e)
def wEs (l : List Kn) : Nat := wts (l.map Kx)
theorem wE_eq (e : Kn) : wE e = e.gName.size + wEs e.gKids + 5 := by
 unfold wE wEs
 rw [KM]
 simp only [wt, wts, wtv]; omega
theorem wEs_cons (e : Kn) (l : List Kn) : wEs (e :: l) = wE e + wEs l := by unfold wEs wE; simp only [List.map_cons, wts]
mutual
theorem szE_le : ∀ e, szE e ≤ wE e
  | ⟨a, b, c, ks, d⟩ => by
    have := szEs_le ks
    rw [wE_eq]
    simp only [szE]; omega
theorem szEs_le : ∀ l, szEs l ≤ wEs l
  | [] => by simp [szEs]
  | e :: l => by
    have h1 := szE_le e
    have h2 := szEs_le l
    rw [wEs_cons]
    simp only [szEs]; omega
end
theorem Kdo : ∀ l, l.length ≤ szEs l
  | [] => by simp
  | e :: l => by
    have := Kdo l
    have h := Kfz e
    simp only [szEs, List.length_cons]; omega
theorem kids_mem {e k : Kn} (h : k ∈ e.gKids) : dpE k < dpE e ∧ szE k < szE e := by
 have h1 := KgN h
 have h2 := KgO h
 rw [KfA e, Kfz e]; omega
theorem Kf0 {l pre : List Kn} {x : Kn} {post : List Kn} (h : l = pre ++ x :: post) : szEs pre + szE x ≤ szEs l := by
 subst h; rw [Khe]; simp only [szEs]; omega
mutual
def eqE (p : Bool) : Kn → Kn → Bool
  | ⟨a, b, c, ks, d⟩, f => a == f.gOp && (b == f.gN && (decide (c = f.gName) && ((!p || d == f.gAt) && eqEs p ks f.gKids)))
def eqEs (p : Bool) : List Kn → List Kn → Bool
  | [], m => m.isEmpty
  | e :: l, m => match m with
    | [] => false
    | f :: m => eqE p e f && eqEs p l m
end
theorem eqE_eq (p : Bool) (e f : Kn) : eqE p e f = (e.gOp == f.gOp && (e.gN == f.gN && (decide (e.gName = f.gName) && ((!p || e.gAt == f.gAt) && eqEs p e.gKids f.gKids)))) := by cases e; simp only [eqE]
theorem eqEs_eq (p : Bool) : ∀ l m, eqEs p l m = all2 (eqE p) l m
 | [], [] => by simp [eqEs, all2]
 | [], _ :: _ => by simp [eqEs, all2]
 | _ :: _, [] => by simp [eqEs, all2]
 | x :: l, y :: m => by simp only [eqEs, all2, eqEs_eq p l m]
end Go.Proofs.YtnfkijcmakgkmaaGreat.Ab
namespace Go.Proofs.YtnfkijcmakgkmaaGreat.Ab
open Go
set_option linter.all false
mutual
def allE : Kn → List Kn
 | ⟨a, b, c, ks, d⟩ => ⟨a, b, c, ks, d⟩ :: allEs ks
def allEs : List Kn → List Kn
 | [] => []
 | e :: l => allE e ++ allEs l
end
theorem allE_eq (e : Kn) : allE e = e :: allEs e.gKids := by cases e; simp only [allE]
theorem Kc1 : ∀ l m, allEs (l ++ m) = allEs l ++ allEs m
 | [], m => by simp [allEs]
 | e :: l, m => by simp only [List.cons_append, allEs, Kc1 l m, List.append_assoc]
mutual
theorem KhL : ∀ e, (allE e).length = szE e
 | ⟨_, _, _, ks, _⟩ => by simp only [allE, szE, List.length_cons, Kch ks]; omega
theorem Kch : ∀ l, (allEs l).length = szEs l
 | [] => rfl
 | e :: l => by simp only [allEs, szEs, List.length_append, KhL e, Kch l]
end
mutual
def flS : Kh → List Kh
 | ⟨a, b, c, es, ks, ls, d⟩ => ⟨a, b, c, es, ks, ls, d⟩ :: (flSs ks ++ flSs ls)
def flSs : List Kh → List Kh
 | [] => []
 | s :: l => flS s ++ flSs l
end
mutual
def szS : Kh → Nat
 | ⟨_, _, _, es, ks, ls, _⟩ => 1 + szSs ks + szSs ls + szEs es
def szSs : List Kh → Nat
 | [] => 0
 | s :: l => szS s + szSs l
end
mutual
def hS : Kh → Nat
 | ⟨_, _, _, _, ks, ls, _⟩ => 1 + max (hSs ks) (hSs ls)
def hSs : List Kh → Nat
 | [] => 1
 | s :: l => max (hS s) (hSs l)
end
def exOf (l : List Kh) : List Kn := l.flatMap fun s => allEs s.gExps
theorem flS_eq (s : Kh) : flS s = s :: (flSs s.gKids ++ flSs s.gElse) := by cases s; simp only [flS]
theorem szS_eq (s : Kh) : szS s = 1 + szSs s.gKids + szSs s.gElse + szEs s.gExps := by cases s; simp only [szS]
theorem hS_eq (s : Kh) : hS s = 1 + max (hSs s.gKids) (hSs s.gElse) := by cases s; simp only [hS]
theorem Kfi : ∀ l m, flSs (l ++ m) = flSs l ++ flSs m
 | [], m => by simp [flSs]
 | e :: l, m => by simp only [List.cons_append, flSs, Kfi l m, List.append_assoc]
theorem Khf : ∀ l m, szSs (l ++ m) = szSs l + szSs m
 | [], m => by simp [szSs]
 | e :: l, m => by simp only [List.cons_append, szSs, Khf l m]; omega
theorem Khg (l m : List Kh) : exOf (l ++ m) = exOf l ++ exOf m := by simp [exOf]
theorem hS_mem : ∀ {l : List Kh} {s : Kh}, s ∈ l → hS s ≤ hSs l
  | x :: l, e, h => by
    simp only [hSs]
    rcases List.mem_cons.1 h with rfl | h
    · omega
    · have := hS_mem h; omega
theorem szS_mem : ∀ {l : List Kh} {s : Kh}, s ∈ l → szS s ≤ szSs l
  | x :: l, e, h => by
    simp only [szSs]
    rcases List.mem_cons.1 h with rfl | h
    · omega
    · have := szS_mem h; omega
theorem KdU : ∀ l, 1 ≤ hSs l
 | [] => by simp [hSs]
 | s :: l => by have := KdU l; simp only [hSs]; omega
mutual
theorem szS_fl : ∀ s, szS s = (flS s).length + (exOf (flS s)).length
  | ⟨a, b, c, es, ks, ls, d⟩ => by
    have h1 := KcK ks
    have h2 := KcK ls
    simp only [szS, flS, List.length_cons, List.length_append, exOf, List.flatMap_cons, List.flatMap_append, Kch] at h1 h2 ⊢
    omega
theorem KcK : ∀ l, szSs l = (flSs l).length + (exOf (flSs l)).length
  | [] => rfl
  | s :: l => by
    have h1 := szS_fl s
    have h2 := KcK l
    simp only [szSs, flSs, List.length_append, Khg]; omega
end
theorem Ke0 : ∀ l, l.length ≤ szSs l
  | [] => by simp
  | e :: l => by
    have := Ke0 l
    have h := szS_eq e
    simp only [szSs, List.length_cons]; omega
theorem szSs_pre {l pre : List Kh} {x : Kh} {post : List Kh} (h : l = pre ++ x :: post) : szSs pre + szS x ≤ szSs l := by
 subst h; rw [Khf]; simp only [szSs]; omega
def wS (s : Kh) : Nat := wt (Ks s)
def wSs (l : List Kh) : Nat := wts (l.map Ks)
theorem wS_eq (s : Kh) : wS s = s.gName.size + s.gFunc.size + wEs s.gExps + wSs s.gKids + wSs s.gElse + 7 := by
 unfold wS wSs wEs
 rw [Kp]
 simp only [wt, wts, wtv]; omega
theorem wSs_cons (s : Kh) (l : List Kh) : wSs (s :: l) = wS s + wSs l := by unfold wSs wS; simp only [List.map_cons, wts]
mutual
theorem szS_le : ∀ s, szS s ≤ wS s
  | ⟨a, b, c, es, ks, ls, d⟩ => by
    have h1 := KgP ks
    have h2 := KgP ls
    have h3 := szEs_le es
    rw [wS_eq]
    simp only [szS]; omega
theorem KgP : ∀ l, szSs l ≤ wSs l
  | [] => by simp [szSs]
  | s :: l => by
    have h1 := szS_le s
    have h2 := KgP l
    rw [wSs_cons]
    simp only [szSs]; omega
end
theorem fuel {l : List Kh} {n : Nat} {x : Kh} (h : hSs l ≤ n + 1) (hx : x ∈ l) : hSs x.gKids ≤ n ∧ hSs x.gElse ≤ n := by
 have h1 := hS_mem hx
 have h2 := hS_eq x
 omega
end Go.Proofs.YtnfkijcmakgkmaaGreat.Ab
namespace Go.Proofs.YtnfkijcmakgkmaaGreat.Ab
open Go
set_option linter.all false
theorem rexps_g (p : Bool) : ∀ (n : Nat) (l m : List Kn), dpEs l + 1 ≤ n → szEs l ≤ 1048576 → Kbx n l m p = some (eqEs p l m)
  | 0, l, m, h, _ => by omega
  | n + 1, l, m, h, hb => by
    show Kcf (Kbx n) l m p = _
    unfold Kcf
    have hl := Kdo l
    rw [eqEs_eq]
    refine pairs _ l m (fun a x q a' y q' e e' hp => ?_) ?_
    · have hx := KbY e
      have hd := KgN hx
      have hz := KgO hx
      have hdx := KfA x
      have hsx := Kfz x
      rw [Kar e, cond_true]
      simp only [Kag e rfl, Kag e' hp, Option.bind_some]
      rw [Kam e (by omega), rexps_g p n _ _ (by omega) (by omega), eqE_eq]
      simp only [Option.bind_some, bne]
      cases x.gOp == y.gOp <;> cases x.gN == y.gN <;> cases decide (x.gName = y.gName) <;> cases p <;> cases x.gAt == y.gAt <;> cases eqEs _ x.gKids y.gKids <;> rfl
    · rw [Kas, cond_false]
theorem rexps_eq {l m : List Kn} {p : Bool} (hb : szEs l ≤ 1048576) : KeU l m p = some (eqEs p l m) := Kjy l m p (dpEs l + 1) (rexps_g p _ l m (Nat.le_refl _) hb)
end Go.Proofs.YtnfkijcmakgkmaaGreat.Ab
namespace Go.Proofs.YtnfkijcmakgkmaaGreat.Ab
open Go
set_option linter.all false
theorem same_b {g0 g1} {e f : Kn} (h : g0 e.gKids f.gKids = some (eqEs false e.gKids f.gKids)) : KbU g0 g1 e f = some (eqE false e f) := by
 unfold KbU
 rw [h, eqE_eq]
 cases e.gOp == f.gOp <;> cases e.gN == f.gN <;> cases decide (e.gName = f.gName) <;> rfl
theorem same_g : ∀ (n : Nat), (∀ l m, 2 * dpEs l + 1 ≤ n → szEs l ≤ 1048576 → (Ki n).1 l m = some (eqEs false l m)) ∧ (∀ e f, 2 * dpE e ≤ n → szE e ≤ 1048576 → (Ki n).2 e f = some (eqE false e f))
  | 0 => ⟨fun l m h => by omega, fun e f h _ => by rw [KfA] at h; omega⟩
  | n + 1 => by
    obtain ⟨h2, h1⟩ := same_g n
    refine ⟨fun l m h hb => ?_, fun e f h hb => ?_⟩
    · show KY (Ki n).1 (Ki n).2 l m = _
      unfold KY
      have hl := Kdo l
      rw [eqEs_eq]
      refine pairs _ l m (fun p x q p' y q' e e' hp => ?_) ?_
      · have hx := KbY e
        have hd := KgN hx
        have hz := KgO hx
        rw [Kar e, cond_true, Kag e rfl, Option.bind_some, Kag e' hp, Option.bind_some, h1 x y (by omega) (by omega), Option.bind_some, Kam e (by omega)]
        cases eqE false x y <;> rfl
      · rw [Kas, cond_false]
    · have he := KfA e
      have hs := Kfz e
      exact same_b (g1 := (Ki n).2) (h2 _ _ (by omega) (by omega))
theorem eqf_eq {l m : List Kn} (hb : szEs l ≤ 1048576) : Kav l m = some (eqEs false l m) := KbL l m (2 * dpEs l + 1) ((same_g _).1 l m (Nat.le_refl _) hb)
mutual
def eqS (p : Bool) : Kh → Kh → Bool
  | ⟨a, b, c, es, ks, ls, d⟩, f => a == f.gOp && (decide (b = f.gName) && (decide (c = f.gFunc) && ((!p || d == f.gAt) && (eqEs p es f.gExps && (eqSs p ks f.gKids && eqSs p ls f.gElse)))))
def eqSs (p : Bool) : List Kh → List Kh → Bool
  | [], m => m.isEmpty
  | e :: l, m => match m with
    | [] => false
    | f :: m => eqS p e f && eqSs p l m
end
theorem eqS_eq (p : Bool) (e f : Kh) : eqS p e f = (e.gOp == f.gOp && (decide (e.gName = f.gName) && (decide (e.gFunc = f.gFunc) && ((!p || e.gAt == f.gAt) && (eqEs p e.gExps f.gExps && (eqSs p e.gKids f.gKids && eqSs p e.gElse f.gElse)))))) := by cases e; simp only [eqS]
theorem eqSs_eq (p : Bool) : ∀ l m, eqSs p l m = all2 (eqS p) l m
 | [], [] => by simp [eqSs, all2]
 | [], _ :: _ => by simp [eqSs, all2]
 | _ :: _, [] => by simp [eqSs, all2]
 | x :: l, y :: m => by simp only [eqSs, all2, eqSs_eq p l m]
theorem sameS_g : ∀ (n : Nat), (∀ l m, 3 * hSs l ≤ n → szSs l ≤ 1048576 → (KH n).1 l m = some (eqSs false l m)) ∧ (∀ l m, 3 * hSs l ≤ n + 1 → szSs l ≤ 1048576 → (KH n).2.1 l m = some (eqSs false l m)) ∧ (∀ s t, 3 * hS s ≤ n + 2 → szS s ≤ 1048576 → (KH n).2.2 s t = some (eqS false s t))
  | 0 => by
    refine ⟨fun l m h _ => ?_, fun l m h _ => ?_, fun s t h _ => ?_⟩
    · have := KdU l; omega
    · have := KdU l; omega
    · have := KdU s.gKids; rw [hS_eq] at h; omega
  | n + 1 => by
    obtain ⟨h1, h2, h3⟩ := sameS_g n
    refine ⟨fun l m h hb => ?_, fun l m h hb => ?_, fun s t h hb => ?_⟩
    · show Kbq (KH n).1 (KH n).2.1 (KH n).2.2 l m = _
      unfold Kbq
      rw [h2 l m (by omega) hb]; rfl
    · show KZ (KH n).1 (KH n).2.1 (KH n).2.2 l m = _
      unfold KZ
      have hl := Ke0 l
      rw [eqSs_eq]
      refine pairs _ l m (fun p x q p' y q' e e' hp => ?_) ?_
      · have hx := KbY e
        have hd := hS_mem hx
        have hz := szS_mem hx
        rw [Kar e, cond_true, Kag e rfl, Option.bind_some, Kag e' hp, Option.bind_some, h3 x y (by omega) (by omega), Option.bind_some, Kam e (by omega)]
        cases eqS false x y <;> rfl
      · rw [Kas, cond_false]
    · show Kbc (KH n).1 (KH n).2.1 (KH n).2.2 s t = _
      unfold Kbc
      have hh := hS_eq s
      have hz := szS_eq s
      rw [eqf_eq (by omega), h1 _ _ (by omega) (by omega), h1 _ _ (by omega) (by omega), eqS_eq]
      simp only [Option.bind_some, bne]
      cases s.gOp == t.gOp <;> cases decide (s.gName = t.gName) <;> cases decide (s.gFunc = t.gFunc) <;> cases eqEs false s.gExps t.gExps <;> cases eqSs false s.gKids t.gKids <;> cases eqSs false s.gElse t.gElse <;> rfl
theorem sameS_eq {l m : List Kh} (hb : szSs l ≤ 1048576) : KdF l m = some (eqSs false l m) := Kh2 l m (3 * hSs l) ((sameS_g _).1 l m (Nat.le_refl _) hb)
theorem KhM (p : Bool) : ∀ (n : Nat) (l m : List Kh), hSs l ≤ n → szSs l ≤ 1048576 → KaV n l m p = some (eqSs p l m)
  | 0, l, m, h, _ => by have := KdU l; omega
  | n + 1, l, m, h, hb => by
    show KbB (KaV n) l m p = _
    unfold KbB
    have hl := Ke0 l
    rw [eqSs_eq]
    refine pairs _ l m (fun a x q a' y q' e e' hp => ?_) ?_
    · have hx := KbY e
      have hd := hS_mem hx
      have hz := szS_mem hx
      have hdx := hS_eq x
      have hsx := szS_eq x
      rw [Kar e, cond_true]
      simp only [Kag e rfl, Kag e' hp, Option.bind_some]
      rw [Kam e (by omega), rexps_eq (by omega), KhM p n _ _ (by omega) (by omega), KhM p n _ _ (by omega) (by omega), eqS_eq]
      simp only [Option.bind_some, bne]
      cases x.gOp == y.gOp <;> cases decide (x.gName = y.gName) <;> cases decide (x.gFunc = y.gFunc) <;> cases p <;> cases x.gAt == y.gAt <;> cases eqEs _ x.gExps y.gExps <;> cases eqSs _ x.gKids y.gKids <;> cases eqSs _ x.gElse y.gElse <;> rfl
    · rw [Kas, cond_false]
theorem rsameS_eq {l m : List Kh} {p : Bool} (hb : szSs l ≤ 1048576) : Kd0 l m p = some (eqSs p l m) := Kij l m p (hSs l) (KhM p _ l m (Nat.le_refl _) hb)
def eqVar (a b : Kba) : Bool := decide (a.gName = b.gName) && (a.gPtr == b.gPtr && true)
theorem vars_eq {l m : List Kba} (hb : l.length ≤ 1048576) : KdR l m = some (all2 eqVar l m) := by
 unfold KdR
 refine pairs _ l m (fun p x q p' y q' e e' hp => ?_) ?_
 ·rw [Kar e, cond_true, Kag e rfl, Option.bind_some, Kag e' hp, Option.bind_some, Kam e (by omega)]
  show (bif !eqVar x y then _ else _) = _
  cases eqVar x y <;> rfl
 ·rw [Kas, cond_false]
theorem KiN {l m : List Kba} (hb : l.length ≤ 1048576) : KaQ l m = some (all2 eqVar l m) := vars_eq hb
def eqF (a b : KT) : Bool := decide (a.gName = b.gName) && (all2 eqVar a.gParams b.gParams && (all2 eqVar a.gLocals b.gLocals && eqSs false a.gBody b.gBody))
theorem sameF_eq {a b : KT} (h1 : a.gParams.length ≤ 1048576) (h2 : a.gLocals.length ≤ 1048576) (h3 : szSs a.gBody ≤ 1048576) : Kbl a b = some (eqF a b) := by
 unfold Kbl eqF
 rw [KiN h1, KiN h2, sameS_eq h3]
 simp only [Option.bind_some]
 cases decide (a.gName = b.gName) <;> cases all2 eqVar a.gParams b.gParams <;> cases all2 eqVar a.gLocals b.gLocals <;> cases eqSs false a.gBody b.gBody <;> rfl
theorem rsameF_eq {a b : KT} (h1 : a.gParams.length ≤ 1048576) (h2 : a.gLocals.length ≤ 1048576) (h3 : szSs a.gBody ≤ 1048576) : KcY a b false = some (eqF a b) := by
 unfold KcY eqF
 rw [vars_eq h1, vars_eq h2, rsameS_eq h3]
 simp only [Option.bind_some]
 cases decide (a.gName = b.gName) <;> cases all2 eqVar a.gParams b.gParams <;> cases all2 eqVar a.gLocals b.gLocals <;> cases eqSs false a.gBody b.gBody <;> rfl
end Go.Proofs.YtnfkijcmakgkmaaGreat.Ab
