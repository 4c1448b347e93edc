/- The texts that spreadRestsUpto_holds leans on, part 5. -/
import Derived.Test.YtnfkijcmakgkmaaGreatQr4
set_option maxRecDepth 100000
set_option maxHeartbeats 80000000
namespace Go.Proofs.YtnfkijcmakgkmaaGreat.Ab
open Go
set_option linter.all false
abbrev nlSz1_8 : List (List Nat) := nlD [] [(0,[]),(0,[]),(0,[0]),(3,[2]),(4,[3]),(0,[]),(0,[]),(0,[5]),(8,[7]),(9,[8]),(5,[5,7,8]),(11,[]),(11,[]),(11,[]),(11,[]),(11,[]),(11,[]),(11,[]),(11,[]),(11,[]),(11,[]),(11,[]),(11,[]),(11,[]),(11,[]),(11,[]),(11,[]),(11,[]),(11,[]),(11,[]),(11,[]),(11,[]),(11,[]),(11,[]),(11,[]),(11,[]),(11,[]),(11,[]),(11,[]),(11,[]),(11,[]),(11,[]),(11,[]),(11,[]),(11,[]),(11,[]),(11,[]),(11,[]),(11,[]),(11,[]),(11,[]),(11,[]),(11,[]),(11,[]),(11,[]),(11,[]),(11,[]),(11,[]),(11,[]),(11,[]),(11,[]),(11,[]),(11,[]),(11,[]),(11,[]),(11,[]),(11,[]),(11,[]),(11,[]),(11,[]),(11,[]),(11,[]),(11,[]),(11,[]),(11,[]),(11,[]),(11,[]),(11,[]),(11,[]),(11,[]),(11,[]),(11,[]),(11,[]),(11,[]),(11,[]),(11,[]),(11,[]),(11,[]),(11,[]),(11,[]),(11,[]),(11,[]),(11,[]),(11,[]),(11,[])]
abbrev KcG : List (List Nat) := nlD [] [(0,[]),(0,[]),(0,[0,1]),(3,[2]),(4,[3]),(0,[]),(0,[]),(0,[5,6]),(8,[7]),(9,[8]),(5,[4,5,6,7,8,9]),(11,[10]),(12,[11]),(13,[]),(13,[12,13]),(15,[14]),(16,[15]),(13,[]),(13,[]),(13,[17,18]),(20,[19]),(21,[20]),(17,[16,17,18,19,20,21]),(23,[22]),(24,[23]),(25,[24]),(26,[]),(26,[25,26]),(28,[27]),(29,[28]),(26,[]),(26,[]),(26,[30,31]),(33,[32]),(34,[33]),(30,[29,30,31,32,33,34]),(36,[35]),(37,[36]),(38,[37]),(39,[38]),(40,[39]),(41,[]),(41,[40,41]),(43,[42]),(44,[43]),(41,[]),(41,[]),(41,[45,46]),(48,[47]),(49,[48]),(45,[44,45,46,47,48,49]),(51,[50]),(52,[51]),(53,[52]),(54,[53]),(55,[]),(55,[54,55]),(57,[56]),(58,[57]),(55,[]),(55,[]),(55,[59,60]),(62,[61]),(63,[62]),(55,[]),(59,[58,59,60,61,62,63,64]),(66,[65]),(67,[66]),(68,[67]),(69,[68]),(70,[]),(70,[69,70]),(72,[71]),(73,[72]),(70,[]),(70,[]),(70,[74,75]),(77,[76]),(78,[77]),(70,[]),(74,[73,74,75,76,77,78,79]),(81,[80]),(82,[81]),(83,[82]),(84,[83]),(85,[]),(85,[84,85]),(87,[86]),(88,[87]),(85,[]),(85,[]),(85,[89,90]),(92,[91]),(93,[92]),(85,[]),(89,[88,89,90,91,92,93,94]),(96,[95]),(97,[96])]
abbrev nlSz1_10 : List (List Nat) := nlD [] [(0,[]),(0,[]),(0,[0]),(3,[2]),(4,[3]),(0,[]),(0,[]),(0,[5]),(8,[7]),(9,[8]),(5,[5,7,8]),(11,[]),(11,[]),(11,[]),(11,[12]),(15,[14]),(16,[15]),(11,[]),(11,[]),(11,[17]),(20,[19]),(21,[20]),(17,[17,19,20]),(23,[]),(23,[]),(23,[]),(23,[]),(23,[]),(23,[]),(23,[]),(23,[]),(23,[]),(23,[]),(23,[]),(23,[]),(23,[]),(23,[]),(23,[]),(23,[]),(23,[]),(23,[]),(23,[]),(23,[]),(23,[]),(23,[]),(23,[]),(23,[]),(23,[]),(23,[]),(23,[]),(23,[]),(23,[]),(23,[]),(23,[]),(23,[]),(23,[]),(23,[]),(23,[]),(23,[]),(23,[]),(23,[]),(23,[]),(23,[]),(23,[]),(23,[]),(23,[]),(23,[]),(23,[]),(23,[]),(23,[]),(23,[]),(23,[]),(23,[]),(23,[]),(23,[]),(23,[]),(23,[]),(23,[]),(23,[]),(23,[]),(23,[]),(23,[]),(23,[]),(23,[]),(23,[]),(23,[]),(23,[]),(23,[]),(23,[]),(23,[]),(23,[]),(23,[]),(23,[]),(23,[]),(23,[])]
abbrev nlSz1_11 : List (List Nat) := nlD [] [(0,[]),(0,[]),(0,[0]),(3,[2]),(4,[3]),(0,[]),(0,[]),(0,[5]),(8,[7]),(9,[8]),(5,[5,7,8]),(11,[]),(11,[]),(11,[]),(11,[12]),(15,[14]),(16,[15]),(11,[]),(11,[]),(11,[17]),(20,[19]),(21,[20]),(17,[17,19,20]),(23,[]),(23,[]),(23,[]),(23,[]),(23,[25]),(28,[27]),(29,[28]),(23,[]),(23,[]),(23,[30]),(33,[32]),(34,[33]),(30,[30,32,33]),(36,[]),(36,[]),(36,[]),(36,[]),(36,[]),(36,[]),(36,[]),(36,[]),(36,[]),(36,[]),(36,[]),(36,[]),(36,[]),(36,[]),(36,[]),(36,[]),(36,[]),(36,[]),(36,[]),(36,[]),(36,[]),(36,[]),(36,[]),(36,[]),(36,[]),(36,[]),(36,[]),(36,[]),(36,[]),(36,[]),(36,[]),(36,[]),(36,[]),(36,[]),(36,[]),(36,[]),(36,[]),(36,[]),(36,[]),(36,[]),(36,[]),(36,[]),(36,[]),(36,[]),(36,[]),(36,[]),(36,[]),(36,[]),(36,[]),(36,[]),(36,[]),(36,[]),(36,[]),(36,[]),(36,[]),(36,[]),(36,[]),(36,[]),(36,[])]
abbrev nlSz1_12 : List (List Nat) := nlD [] [(0,[]),(0,[]),(0,[0]),(3,[2]),(4,[3]),(0,[]),(0,[]),(0,[5]),(8,[7]),(9,[8]),(5,[5,7,8]),(11,[]),(11,[]),(11,[]),(11,[12]),(15,[14]),(16,[15]),(11,[]),(11,[]),(11,[17]),(20,[19]),(21,[20]),(17,[17,19,20]),(23,[]),(23,[]),(23,[]),(23,[]),(23,[25]),(28,[27]),(29,[28]),(23,[]),(23,[]),(23,[30]),(33,[32]),(34,[33]),(30,[30,32,33]),(36,[]),(36,[]),(36,[]),(36,[]),(36,[]),(36,[]),(36,[40]),(43,[42]),(44,[43]),(36,[]),(36,[]),(36,[45]),(48,[47]),(49,[48]),(45,[45,47,48]),(51,[]),(51,[]),(51,[]),(51,[]),(51,[]),(51,[]),(51,[]),(51,[]),(51,[]),(51,[]),(51,[]),(51,[]),(51,[]),(51,[]),(51,[]),(51,[]),(51,[]),(51,[]),(51,[]),(51,[]),(51,[]),(51,[]),(51,[]),(51,[]),(51,[]),(51,[]),(51,[]),(51,[]),(51,[]),(51,[]),(51,[]),(51,[]),(51,[]),(51,[]),(51,[]),(51,[]),(51,[]),(51,[]),(51,[]),(51,[]),(51,[]),(51,[]),(51,[]),(51,[])]
abbrev nlSz1_13 : List (List Nat) := nlD [] [(0,[]),(0,[]),(0,[0]),(3,[2]),(4,[3]),(0,[]),(0,[]),(0,[5]),(8,[7]),(9,[8]),(5,[5,7,8]),(11,[]),(11,[]),(11,[]),(11,[12]),(15,[14]),(16,[15]),(11,[]),(11,[]),(11,[17]),(20,[19]),(21,[20]),(17,[17,19,20]),(23,[]),(23,[]),(23,[]),(23,[]),(23,[25]),(28,[27]),(29,[28]),(23,[]),(23,[]),(23,[30]),(33,[32]),(34,[33]),(30,[30,32,33]),(36,[]),(36,[]),(36,[]),(36,[]),(36,[]),(36,[]),(36,[40]),(43,[42]),(44,[43]),(36,[]),(36,[]),(36,[45]),(48,[47]),(49,[48]),(45,[45,47,48]),(51,[]),(51,[]),(51,[]),(51,[]),(51,[]),(51,[54]),(57,[56]),(58,[57]),(51,[]),(51,[]),(51,[59]),(62,[61]),(63,[62]),(51,[]),(59,[58,59,61,62,63]),(66,[65]),(67,[]),(67,[]),(67,[]),(67,[]),(67,[]),(67,[]),(67,[]),(67,[]),(67,[]),(67,[]),(67,[]),(67,[]),(67,[]),(67,[]),(67,[]),(67,[]),(67,[]),(67,[]),(67,[]),(67,[]),(67,[]),(67,[]),(67,[]),(67,[]),(67,[]),(67,[]),(67,[]),(67,[])]
abbrev nlSz1_14 : List (List Nat) := nlD [] [(0,[]),(0,[]),(0,[0]),(3,[2]),(4,[3]),(0,[]),(0,[]),(0,[5]),(8,[7]),(9,[8]),(5,[5,7,8]),(11,[]),(11,[]),(11,[]),(11,[12]),(15,[14]),(16,[15]),(11,[]),(11,[]),(11,[17]),(20,[19]),(21,[20]),(17,[17,19,20]),(23,[]),(23,[]),(23,[]),(23,[]),(23,[25]),(28,[27]),(29,[28]),(23,[]),(23,[]),(23,[30]),(33,[32]),(34,[33]),(30,[30,32,33]),(36,[]),(36,[]),(36,[]),(36,[]),(36,[]),(36,[]),(36,[40]),(43,[42]),(44,[43]),(36,[]),(36,[]),(36,[45]),(48,[47]),(49,[48]),(45,[45,47,48]),(51,[]),(51,[]),(51,[]),(51,[]),(51,[]),(51,[54]),(57,[56]),(58,[57]),(51,[]),(51,[]),(51,[59]),(62,[61]),(63,[62]),(51,[]),(59,[58,59,61,62,63]),(66,[65]),(67,[]),(67,[]),(67,[]),(67,[]),(67,[69]),(72,[71]),(73,[72]),(67,[]),(67,[]),(67,[74]),(77,[76]),(78,[77]),(67,[]),(74,[73,74,76,77,78]),(81,[80]),(82,[]),(82,[]),(82,[]),(82,[]),(82,[]),(82,[]),(82,[]),(82,[]),(82,[]),(82,[]),(82,[]),(82,[]),(82,[])]
abbrev nlSz1_15 : List (List Nat) := nlD [] [(0,[]),(0,[]),(0,[0]),(3,[2]),(4,[3]),(0,[]),(0,[]),(0,[5]),(8,[7]),(9,[8]),(5,[5,7,8]),(11,[]),(11,[]),(11,[]),(11,[12]),(15,[14]),(16,[15]),(11,[]),(11,[]),(11,[17]),(20,[19]),(21,[20]),(17,[17,19,20]),(23,[]),(23,[]),(23,[]),(23,[]),(23,[25]),(28,[27]),(29,[28]),(23,[]),(23,[]),(23,[30]),(33,[32]),(34,[33]),(30,[30,32,33]),(36,[]),(36,[]),(36,[]),(36,[]),(36,[]),(36,[]),(36,[40]),(43,[42]),(44,[43]),(36,[]),(36,[]),(36,[45]),(48,[47]),(49,[48]),(45,[45,47,48]),(51,[]),(51,[]),(51,[]),(51,[]),(51,[]),(51,[54]),(57,[56]),(58,[57]),(51,[]),(51,[]),(51,[59]),(62,[61]),(63,[62]),(51,[]),(59,[58,59,61,62,63]),(66,[65]),(67,[]),(67,[]),(67,[]),(67,[]),(67,[69]),(72,[71]),(73,[72]),(67,[]),(67,[]),(67,[74]),(77,[76]),(78,[77]),(67,[]),(74,[73,74,76,77,78]),(81,[80]),(82,[]),(82,[]),(82,[]),(82,[]),(82,[84]),(87,[86]),(88,[87]),(82,[]),(82,[]),(82,[89]),(92,[91]),(93,[92]),(82,[])]
abbrev nlSz1_16 : List (List Nat) := nlD [] [(0,[]),(0,[]),(0,[0]),(3,[2]),(4,[3]),(0,[]),(0,[]),(0,[5]),(8,[7]),(9,[8]),(5,[5,7,8]),(11,[]),(11,[]),(11,[]),(11,[12]),(15,[14]),(16,[15]),(11,[]),(11,[]),(11,[17]),(20,[19]),(21,[20]),(17,[17,19,20]),(23,[]),(23,[]),(23,[]),(23,[]),(23,[25]),(28,[27]),(29,[28]),(23,[]),(23,[]),(23,[30]),(33,[32]),(34,[33]),(30,[30,32,33]),(36,[]),(36,[]),(36,[]),(36,[]),(36,[]),(36,[]),(36,[]),(36,[]),(36,[]),(36,[]),(36,[]),(36,[]),(36,[]),(36,[]),(36,[]),(36,[]),(36,[]),(36,[]),(36,[]),(36,[]),(36,[54]),(57,[56]),(58,[57]),(36,[]),(36,[]),(36,[59]),(62,[61]),(63,[62]),(36,[]),(59,[58,59,61,62,63]),(66,[65]),(67,[]),(67,[]),(67,[]),(67,[]),(67,[]),(67,[]),(67,[]),(67,[]),(67,[]),(67,[]),(67,[]),(67,[]),(67,[]),(67,[]),(67,[]),(67,[]),(67,[]),(67,[]),(67,[]),(67,[]),(67,[]),(67,[]),(67,[]),(67,[]),(67,[]),(67,[]),(67,[]),(67,[])]
abbrev nlSz1_17 : List (List Nat) := nlD [] [(0,[]),(0,[]),(0,[0]),(3,[2]),(4,[3]),(0,[]),(0,[]),(0,[5]),(8,[7]),(9,[8]),(5,[5,7,8]),(11,[]),(11,[]),(11,[]),(11,[12]),(15,[14]),(16,[15]),(11,[]),(11,[]),(11,[17]),(20,[19]),(21,[20]),(17,[17,19,20]),(23,[]),(23,[]),(23,[]),(23,[]),(23,[25]),(28,[27]),(29,[28]),(23,[]),(23,[]),(23,[30]),(33,[32]),(34,[33]),(30,[30,32,33]),(36,[]),(36,[]),(36,[]),(36,[]),(36,[]),(36,[]),(36,[]),(36,[]),(36,[]),(36,[]),(36,[]),(36,[]),(36,[]),(36,[]),(36,[]),(36,[]),(36,[]),(36,[]),(36,[]),(36,[]),(36,[54]),(57,[56]),(58,[57]),(36,[]),(36,[]),(36,[59]),(62,[61]),(63,[62]),(36,[]),(59,[58,59,61,62,63]),(66,[65]),(67,[]),(67,[]),(67,[]),(67,[]),(67,[69]),(72,[71]),(73,[72]),(67,[]),(67,[]),(67,[74]),(77,[76]),(78,[77]),(67,[]),(74,[73,74,76,77,78]),(81,[80]),(82,[]),(82,[]),(82,[]),(82,[]),(82,[]),(82,[]),(82,[]),(82,[]),(82,[]),(82,[]),(82,[]),(82,[]),(82,[])]
abbrev nlSz1_18 : List (List Nat) := nlD [] [(0,[]),(0,[]),(0,[0]),(3,[2]),(4,[3]),(0,[]),(0,[]),(0,[5]),(8,[7]),(9,[8]),(5,[5,7,8]),(11,[]),(11,[]),(11,[]),(11,[12]),(15,[14]),(16,[15]),(11,[]),(11,[]),(11,[17]),(20,[19]),(21,[20]),(17,[17,19,20]),(23,[]),(23,[]),(23,[]),(23,[]),(23,[25]),(28,[27]),(29,[28]),(23,[]),(23,[]),(23,[30]),(33,[32]),(34,[33]),(30,[30,32,33]),(36,[]),(36,[]),(36,[]),(36,[]),(36,[]),(36,[]),(36,[]),(36,[]),(36,[]),(36,[]),(36,[]),(36,[]),(36,[]),(36,[]),(36,[]),(36,[]),(36,[]),(36,[]),(36,[]),(36,[]),(36,[54]),(57,[56]),(58,[57]),(36,[]),(36,[]),(36,[59]),(62,[61]),(63,[62]),(36,[]),(59,[58,59,61,62,63]),(66,[65]),(67,[]),(67,[]),(67,[]),(67,[]),(67,[69]),(72,[71]),(73,[72]),(67,[]),(67,[]),(67,[74]),(77,[76]),(78,[77]),(67,[]),(74,[73,74,76,77,78]),(81,[80]),(82,[]),(82,[]),(82,[]),(82,[]),(82,[84]),(87,[86]),(88,[87]),(82,[]),(82,[]),(82,[89]),(92,[91]),(93,[92]),(82,[])]
noncomputable def KbB (g0 : (List Kg) → (List Kg) → (Bool) → Option (Bool)) (a0 : List Kg) (a1 : List Kg) (a2 : Bool) : Option (Bool) :=
 (bif ((a0.length : Int) != (a1.length : Int)) then some false else (Option.bind (α := (Unit) ⊕ (Bool)) (loopM (fun (s228 : Int) => (bif (decide (s228 < (a0.length : Int))) then (Option.bind (α := Bool) ((idx a0 s228).bind fun x414 => ((idx a1 s228).bind fun x415 => (bif (x414.gOp != x415.gOp) then some true else ((idx a0 s228).bind fun x417 => ((idx a1 s228).bind fun x418 => (bif (!decide (x417.gName = x418.gName)) then some true else ((idx a0 s228).bind fun x420 => ((idx a1 s228).bind fun x421 => (bif (!decide (x420.gFunc = x421.gFunc)) then some true else (bif a2 then ((idx a0 s228).bind fun x424 => ((idx a1 s228).bind fun x425 => (bif (x424.gAt != x425.gAt) then some true else ((idx a0 s228).bind fun x427 => ((idx a1 s228).bind fun x428 => ((KeQ x427.gExps x428.gExps a2).bind fun x429 => (bif (!x429) then some true else ((idx a0 s228).bind fun x431 => ((idx a1 s228).bind fun x432 => ((g0 x431.gKids x432.gKids a2).bind fun x433 => (bif (!x433) then some true else ((idx a0 s228).bind fun x435 => ((idx a1 s228).bind fun x436 => ((g0 x435.gElse x436.gElse a2).bind fun x437 => some (!x437))))))))))))))) else ((idx a0 s228).bind fun x438 => ((idx a1 s228).bind fun x439 => ((KeQ x438.gExps x439.gExps a2).bind fun x440 => (bif (!x440) then some true else ((idx a0 s228).bind fun x442 => ((idx a1 s228).bind fun x443 => ((g0 x442.gKids x443.gKids a2).bind fun x444 => (bif (!x444) then some true else ((idx a0 s228).bind fun x446 => ((idx a1 s228).bind fun x447 => ((g0 x446.gElse x447.gElse a2).bind fun x448 => some (!x448)))))))))))))))))))))) fun y413 => (bif y413 then some (.done (.inr false)) else some (.next (IntKind.i64.wrap (s228 + (1 : Int)))))) else some (.done (.inl ())))) (0 : Int)) (Sum.elim (fun y227 => some true) (fun r => some r))))
theorem KhB (g0 : (List Kg) → (List Kg) → (Bool) → Option (Bool)) (hg0 : ∀ (a0 : List Kg) (a1 : List Kg) (a2 : Bool) (r : Bool) (h0 : g0 a0 a1 a2 = some r), CallsD Tryz.prog 91 [.lst 7 (a0.map Kr) .no, .lst 7 (a1.map Kr) .no, .v (.bool a2)] [] [] (fun d h k => d = .v (.bool r) ∧ h = [] ∧ k = [])) (a0 : List Kg) (a1 : List Kg) (a2 : Bool) (r : Bool) (h0 : KbB g0 a0 a1 a2 = some r) : CallsD Tryz.prog 91 [.lst 7 (a0.map Kr) .no, .lst 7 (a1.map Kr) .no, .v (.bool a2)] [] [] (fun d h k => d = .v (.bool r) ∧ h = [] ∧ k = []) := by
 have hm := KI h0
 unfold KbB at hm
 clear h0
 refine K3 htab Tryz.func91 rfl rfl rfl rfl rfl (fun C => ?_)
 refine Kh ?_
 refine pu ?_
 refine Ke ?_
 refine Km ?_
 refine Kh ?_
 refine pu ?_
 refine Kag htab rfl rfl rfl rfl rfl rfl rfl (by first | exact KY | rfl) ?_
 refine pu ?_
 refine Kag htab rfl rfl rfl rfl rfl rfl rfl (by first | exact KY | rfl) ?_
 refine pu ?_
 refine Ke ?_
 refine KC rfl (fun hc2 => ?_) (fun hc2 => ?_)
 ·replace hm := yes_t hc2 hm
  refine Kh ?_
  refine pu ?_
  refine Ke ?_
  refine KE ?_
  refine KS ?_
  have er3 := Kj hm; subst er3
  refine rP (t' := [(6, .v (.bool false))]) [] [] 0 (wC wN) (lT lN) ?_
  exact ⟨rfl, rfl, rfl⟩
 ·replace hm := yes_f hc2 hm
  refine KB ?_
  refine Kb ?_
  refine Km ?_
  refine Kh ?_
  refine pu ?_
  refine Ke ?_
  obtain ⟨x227, q227, ho227⟩ := Kc hm
  refine Kbi (τ := Unit) (Y := Unit) (fun y227 z227 => (⟨[], [], []⟩ : S)) x227 ?_ ?_
  ·clear hm; have hm := KI q227
   refine KG ?_
   obtain ⟨u228, hl228, hq228⟩ := yes_m hm
   refine Kao (Y := Unit) hl228 (fun s228 z228 => (⟨[(0, .lst 7 (a0.map Kr) .no), (1, .lst 7 (a1.map Kr) .no), (2, .v (.bool a2)), (7, .v (.int .i64 s228))], [], []⟩ : S)) ?_ ?_
   ·skip
    exact WkX.of () (WkS.perm (WkS.cons rfl (Wk.refl _) (WkS.cons rfl (Wk.refl _) (WkS.cons rfl (Wk.refl _) (WkS.cons rfl (Wk.refl _) (WkS.nil))))) Pf Pf)
   ·intro G228 s228 z228 hm
    refine Km ?_
    refine Kh ?_
    refine pu ?_
    refine pu ?_
    refine Kag htab rfl rfl rfl rfl rfl rfl rfl (by first | exact KY | rfl) ?_
    refine pu ?_
    refine Ke ?_
    refine KC rfl (fun hc377 => ?_) (fun hc377 => ?_)
    ·replace hm := yes_t hc377 hm
     refine KB ?_
     refine Kb ?_
     refine Km ?_
     refine KG ?_
     refine Km ?_
     obtain ⟨y413, q413, ho413⟩ := Kc hm
     refine Kah (Y := Unit) (fun z413 => (⟨[(0, .lst 7 (a0.map Kr) .no), (1, .lst 7 (a1.map Kr) .no), (2, .v (.bool a2)), (7, .v (.int .i64 s228)), (116, .v (.bool y413))], [], []⟩ : S)) ?_ ?_
     ·clear hm; have hm := KI q413
      obtain ⟨x414, q414, hm⟩ := Kc hm
      obtain ⟨x415, q415, hm⟩ := Kc hm
      refine bycB (x414.gOp != x415.gOp) (fun hs416 => ?_) (fun hs416 => ?_)
      ·replace hm := yes_t hs416 hm
       refine Kac 95 [] nlSz1_8 [0,2,3,5,7,8] KcG (by kernel_rfl) (by kernel_rfl) (by kernel_rfl) (by rfl) (by rfl) (by kernel_rfl) ?_
       iterate 6 apply Exists.intro
       intro bs
       refine zep ?_
       refine zqp ?_
       refine z_e rfl rfl (Ex.wk (Kz htab rfl rfl rfl rfl rfl rfl rfl (Kd q414) (Kk q414)) (Wk.of_eq (congrArg D.el (Kp x414)))) rfl rfl rfl rfl rfl rfl ?_
       refine zep ?_
       refine z_qM rfl rfl (Ko htab rfl rfl rfl rfl rfl) rfl rfl rfl rfl rfl rfl ?_
       refine zep ?_
       refine zqp ?_
       refine z_e rfl rfl (Ex.wk (Kz htab rfl rfl rfl rfl rfl rfl rfl (Kd q415) (Kk q415)) (Wk.of_eq (congrArg D.el (Kp x415)))) rfl rfl rfl rfl rfl rfl ?_
       refine zep ?_
       refine z_qM rfl rfl (Ko htab rfl rfl rfl rfl rfl) rfl rfl rfl rfl rfl rfl ?_
       refine zqp ?_
       refine zqp ?_
       refine KO (j := 30) (b' := true) rfl hs416 ?_
       iterate 11 refine zK ?_
       refine z_q rfl rfl (Kaz rfl rfl rfl) rfl rfl rfl rfl rfl rfl ?_
       refine zqp ?_
       iterate 11 refine zK ?_
       refine z_q rfl rfl (Kaz rfl rfl rfl) rfl rfl rfl rfl rfl rfl ?_
       refine zqp ?_
       iterate 14 refine zK ?_
       refine z_q rfl rfl (Kaz rfl rfl rfl) rfl rfl rfl rfl rfl rfl ?_
       refine zqp ?_
       iterate 13 refine zK ?_
       refine z_q rfl rfl (Kaz rfl rfl rfl) rfl rfl rfl rfl rfl rfl ?_
       refine zqp ?_
       iterate 13 refine zK ?_
       refine z_q rfl rfl (Kaz rfl rfl rfl) rfl rfl rfl rfl rfl rfl ?_
       refine zqp ?_
       iterate 11 refine zK ?_
       refine z_nil rfl rfl (fun e he => by simp [isAl] at he) ?_
       refine pK ?_
       refine pK ?_
       refine Kab rfl rfl rfl rfl rfl rfl ?_
       refine Kv ?_
       have e413 := Kj hm; subst e413
       refine ⟨rfl, ?_⟩
       exact WkX.of () (WkS.perm (WkS.cons rfl (Wk.refl _) (WkS.cons rfl (Wk.refl _) (WkS.cons rfl (Wk.refl _) (WkS.cons rfl (Wk.refl _) (WkS.cons rfl (Wk.refl _) (WkS.nil)))))) Pf Pf)
      ·replace hm := yes_f hs416 hm
       obtain ⟨x417, q417, hm⟩ := Kc hm
       obtain ⟨x418, q418, hm⟩ := Kc hm
       refine bycB (!decide (x417.gName = x418.gName)) (fun hs419 => ?_) (fun hs419 => ?_)
       ·replace hm := yes_t hs419 hm
        refine Kac 95 [] nlSz1_10 [0,2,3,5,7,8,12,14,15,17,19,20] KcG (by kernel_rfl) (by kernel_rfl) (by kernel_rfl) (by rfl) (by rfl) (by kernel_rfl) ?_
        iterate 12 apply Exists.intro
        intro bs
        refine zep ?_
        refine zqp ?_
        refine z_e rfl rfl (Ex.wk (Kz htab rfl rfl rfl rfl rfl rfl rfl (Kd q414) (Kk q414)) (Wk.of_eq (congrArg D.el (Kp x414)))) rfl rfl rfl rfl rfl rfl ?_
        refine zep ?_
        refine z_qM rfl rfl (Ko htab rfl rfl rfl rfl rfl) rfl rfl rfl rfl rfl rfl ?_
        refine zep ?_
        refine zqp ?_
        refine z_e rfl rfl (Ex.wk (Kz htab rfl rfl rfl rfl rfl rfl rfl (Kd q415) (Kk q415)) (Wk.of_eq (congrArg D.el (Kp x415)))) rfl rfl rfl rfl rfl rfl ?_
        refine zep ?_
        refine z_qM rfl rfl (Ko htab rfl rfl rfl rfl rfl) rfl rfl rfl rfl rfl rfl ?_
        refine zqp ?_
        refine zqp ?_
        refine KO (j := 30) (b' := false) rfl hs416 ?_
        refine zep ?_
        refine zqp ?_
        refine z_e rfl rfl (Ex.wk (Kz htab rfl rfl rfl rfl rfl rfl rfl (Kd q417) (Kk q417)) (Wk.of_eq (congrArg D.el (Kp x417)))) rfl rfl rfl rfl rfl rfl ?_
        refine zep ?_
        refine z_qM rfl rfl (Ko htab rfl rfl rfl rfl rfl) rfl rfl rfl rfl rfl rfl ?_
        refine zep ?_
        refine zqp ?_
        refine z_e rfl rfl (Ex.wk (Kz htab rfl rfl rfl rfl rfl rfl rfl (Kd q418) (Kk q418)) (Wk.of_eq (congrArg D.el (Kp x418)))) rfl rfl rfl rfl rfl rfl ?_
        refine zep ?_
        refine z_qM rfl rfl (Ko htab rfl rfl rfl rfl rfl) rfl rfl rfl rfl rfl rfl ?_
        refine zqp ?_
        refine z_q rfl rfl (K6 rfl rfl rfl) rfl rfl rfl rfl rfl rfl ?_
        refine zqp ?_
        refine KO (j := 43) (b' := true) rfl hs419 ?_
        iterate 11 refine zK ?_
        refine z_q rfl rfl (Kaz rfl rfl rfl) rfl rfl rfl rfl rfl rfl ?_
        refine zqp ?_
        iterate 14 refine zK ?_
        refine z_q rfl rfl (Kaz rfl rfl rfl) rfl rfl rfl rfl rfl rfl ?_
        refine zqp ?_
        iterate 13 refine zK ?_
        refine z_q rfl rfl (Kaz rfl rfl rfl) rfl rfl rfl rfl rfl rfl ?_
        refine zqp ?_
        iterate 13 refine zK ?_
        refine z_q rfl rfl (Kaz rfl rfl rfl) rfl rfl rfl rfl rfl rfl ?_
        refine zqp ?_
        iterate 11 refine zK ?_
        refine z_nil rfl rfl (fun e he => by simp [isAl] at he) ?_
        refine pK ?_
        refine pK ?_
        refine Kab rfl rfl rfl rfl rfl rfl ?_
        refine Kv ?_
        have e413 := Kj hm; subst e413
        refine ⟨rfl, ?_⟩
        exact WkX.of () (WkS.perm (WkS.cons rfl (Wk.refl _) (WkS.cons rfl (Wk.refl _) (WkS.cons rfl (Wk.refl _) (WkS.cons rfl (Wk.refl _) (WkS.cons rfl (Wk.refl _) (WkS.nil)))))) Pf Pf)
       ·replace hm := yes_f hs419 hm
        obtain ⟨x420, q420, hm⟩ := Kc hm
        obtain ⟨x421, q421, hm⟩ := Kc hm
        refine bycB (!decide (x420.gFunc = x421.gFunc)) (fun hs422 => ?_) (fun hs422 => ?_)
        ·replace hm := yes_t hs422 hm
         refine Kac 95 [] nlSz1_11 [0,2,3,5,7,8,12,14,15,17,19,20,25,27,28,30,32,33] KcG (by kernel_rfl) (by kernel_rfl) (by kernel_rfl) (by rfl) (by rfl) (by kernel_rfl) ?_
         iterate 18 apply Exists.intro
         intro bs
         refine zep ?_
         refine zqp ?_
         refine z_e rfl rfl (Ex.wk (Kz htab rfl rfl rfl rfl rfl rfl rfl (Kd q414) (Kk q414)) (Wk.of_eq (congrArg D.el (Kp x414)))) rfl rfl rfl rfl rfl rfl ?_
         refine zep ?_
         refine z_qM rfl rfl (Ko htab rfl rfl rfl rfl rfl) rfl rfl rfl rfl rfl rfl ?_
         refine zep ?_
         refine zqp ?_
         refine z_e rfl rfl (Ex.wk (Kz htab rfl rfl rfl rfl rfl rfl rfl (Kd q415) (Kk q415)) (Wk.of_eq (congrArg D.el (Kp x415)))) rfl rfl rfl rfl rfl rfl ?_
         refine zep ?_
         refine z_qM rfl rfl (Ko htab rfl rfl rfl rfl rfl) rfl rfl rfl rfl rfl rfl ?_
         refine zqp ?_
         refine zqp ?_
         refine KO (j := 30) (b' := false) rfl hs416 ?_
         refine zep ?_
         refine zqp ?_
         refine z_e rfl rfl (Ex.wk (Kz htab rfl rfl rfl rfl rfl rfl rfl (Kd q417) (Kk q417)) (Wk.of_eq (congrArg D.el (Kp x417)))) rfl rfl rfl rfl rfl rfl ?_
         refine zep ?_
         refine z_qM rfl rfl (Ko htab rfl rfl rfl rfl rfl) rfl rfl rfl rfl rfl rfl ?_
         refine zep ?_
         refine zqp ?_
         refine z_e rfl rfl (Ex.wk (Kz htab rfl rfl rfl rfl rfl rfl rfl (Kd q418) (Kk q418)) (Wk.of_eq (congrArg D.el (Kp x418)))) rfl rfl rfl rfl rfl rfl ?_
         refine zep ?_
         refine z_qM rfl rfl (Ko htab rfl rfl rfl rfl rfl) rfl rfl rfl rfl rfl rfl ?_
         refine zqp ?_
         refine z_q rfl rfl (K6 rfl rfl rfl) rfl rfl rfl rfl rfl rfl ?_
         refine zqp ?_
         refine KO (j := 43) (b' := false) rfl hs419 ?_
         refine zep ?_
         refine zqp ?_
         refine z_e rfl rfl (Ex.wk (Kz htab rfl rfl rfl rfl rfl rfl rfl (Kd q420) (Kk q420)) (Wk.of_eq (congrArg D.el (Kp x420)))) rfl rfl rfl rfl rfl rfl ?_
         refine zep ?_
         refine z_qM rfl rfl (Ko htab rfl rfl rfl rfl rfl) rfl rfl rfl rfl rfl rfl ?_
         refine zep ?_
         refine zqp ?_
         refine z_e rfl rfl (Ex.wk (Kz htab rfl rfl rfl rfl rfl rfl rfl (Kd q421) (Kk q421)) (Wk.of_eq (congrArg D.el (Kp x421)))) rfl rfl rfl rfl rfl rfl ?_
         refine zep ?_
         refine z_qM rfl rfl (Ko htab rfl rfl rfl rfl rfl) rfl rfl rfl rfl rfl rfl ?_
         refine zqp ?_
         refine z_q rfl rfl (K6 rfl rfl rfl) rfl rfl rfl rfl rfl rfl ?_
         refine zqp ?_
         refine KO (j := 56) (b' := true) rfl hs422 ?_
         iterate 14 refine zK ?_
         refine z_q rfl rfl (Kaz rfl rfl rfl) rfl rfl rfl rfl rfl rfl ?_
         refine zqp ?_
         iterate 13 refine zK ?_
         refine z_q rfl rfl (Kaz rfl rfl rfl) rfl rfl rfl rfl rfl rfl ?_
         refine zqp ?_
         iterate 13 refine zK ?_
         refine z_q rfl rfl (Kaz rfl rfl rfl) rfl rfl rfl rfl rfl rfl ?_
         refine zqp ?_
         iterate 11 refine zK ?_
         refine z_nil rfl rfl (fun e he => by simp [isAl] at he) ?_
         refine pK ?_
         refine pK ?_
         refine Kab rfl rfl rfl rfl rfl rfl ?_
         refine Kv ?_
         have e413 := Kj hm; subst e413
         refine ⟨rfl, ?_⟩
         exact WkX.of () (WkS.perm (WkS.cons rfl (Wk.refl _) (WkS.cons rfl (Wk.refl _) (WkS.cons rfl (Wk.refl _) (WkS.cons rfl (Wk.refl _) (WkS.cons rfl (Wk.refl _) (WkS.nil)))))) Pf Pf)
        ·replace hm := yes_f hs422 hm
         refine bycB a2 (fun hs423 => ?_) (fun hs423 => ?_)
         ·replace hm := yes_t hs423 hm
          obtain ⟨x424, q424, hm⟩ := Kc hm
          obtain ⟨x425, q425, hm⟩ := Kc hm
          refine bycB (x424.gAt != x425.gAt) (fun hs426 => ?_) (fun hs426 => ?_)
          ·replace hm := yes_t hs426 hm
           refine Kac 95 [] nlSz1_12 [0,2,3,5,7,8,12,14,15,17,19,20,25,27,28,30,32,33,40,42,43,45,47,48] KcG (by kernel_rfl) (by kernel_rfl) (by kernel_rfl) (by rfl) (by rfl) (by kernel_rfl) ?_
           iterate 24 apply Exists.intro
           intro bs
           refine zep ?_
           refine zqp ?_
           refine z_e rfl rfl (Ex.wk (Kz htab rfl rfl rfl rfl rfl rfl rfl (Kd q414) (Kk q414)) (Wk.of_eq (congrArg D.el (Kp x414)))) rfl rfl rfl rfl rfl rfl ?_
           refine zep ?_
           refine z_qM rfl rfl (Ko htab rfl rfl rfl rfl rfl) rfl rfl rfl rfl rfl rfl ?_
           refine zep ?_
           refine zqp ?_
           refine z_e rfl rfl (Ex.wk (Kz htab rfl rfl rfl rfl rfl rfl rfl (Kd q415) (Kk q415)) (Wk.of_eq (congrArg D.el (Kp x415)))) rfl rfl rfl rfl rfl rfl ?_
           refine zep ?_
           refine z_qM rfl rfl (Ko htab rfl rfl rfl rfl rfl) rfl rfl rfl rfl rfl rfl ?_
           refine zqp ?_
           refine zqp ?_
           refine KO (j := 30) (b' := false) rfl hs416 ?_
           refine zep ?_
           refine zqp ?_
           refine z_e rfl rfl (Ex.wk (Kz htab rfl rfl rfl rfl rfl rfl rfl (Kd q417) (Kk q417)) (Wk.of_eq (congrArg D.el (Kp x417)))) rfl rfl rfl rfl rfl rfl ?_
           refine zep ?_
           refine z_qM rfl rfl (Ko htab rfl rfl rfl rfl rfl) rfl rfl rfl rfl rfl rfl ?_
           refine zep ?_
           refine zqp ?_
           refine z_e rfl rfl (Ex.wk (Kz htab rfl rfl rfl rfl rfl rfl rfl (Kd q418) (Kk q418)) (Wk.of_eq (congrArg D.el (Kp x418)))) rfl rfl rfl rfl rfl rfl ?_
           refine zep ?_
           refine z_qM rfl rfl (Ko htab rfl rfl rfl rfl rfl) rfl rfl rfl rfl rfl rfl ?_
           refine zqp ?_
           refine z_q rfl rfl (K6 rfl rfl rfl) rfl rfl rfl rfl rfl rfl ?_
           refine zqp ?_
           refine KO (j := 43) (b' := false) rfl hs419 ?_
           refine zep ?_
           refine zqp ?_
           refine z_e rfl rfl (Ex.wk (Kz htab rfl rfl rfl rfl rfl rfl rfl (Kd q420) (Kk q420)) (Wk.of_eq (congrArg D.el (Kp x420)))) rfl rfl rfl rfl rfl rfl ?_
           refine zep ?_
           refine z_qM rfl rfl (Ko htab rfl rfl rfl rfl rfl) rfl rfl rfl rfl rfl rfl ?_
           refine zep ?_
           refine zqp ?_
           refine z_e rfl rfl (Ex.wk (Kz htab rfl rfl rfl rfl rfl rfl rfl (Kd q421) (Kk q421)) (Wk.of_eq (congrArg D.el (Kp x421)))) rfl rfl rfl rfl rfl rfl ?_
           refine zep ?_
           refine z_qM rfl rfl (Ko htab rfl rfl rfl rfl rfl) rfl rfl rfl rfl rfl rfl ?_
           refine zqp ?_
           refine z_q rfl rfl (K6 rfl rfl rfl) rfl rfl rfl rfl rfl rfl ?_
           refine zqp ?_
           refine KO (j := 56) (b' := false) rfl hs422 ?_
           refine zqp ?_
           refine zqp ?_
           refine KO (j := 58) (b' := true) rfl hs423 ?_
           refine zep ?_
           refine zqp ?_
           refine z_e rfl rfl (Ex.wk (Kz htab rfl rfl rfl rfl rfl rfl rfl (Kd q424) (Kk q424)) (Wk.of_eq (congrArg D.el (Kp x424)))) rfl rfl rfl rfl rfl rfl ?_
           refine zep ?_
           refine z_qM rfl rfl (Ko htab rfl rfl rfl rfl rfl) rfl rfl rfl rfl rfl rfl ?_
           refine zep ?_
           refine zqp ?_
           refine z_e rfl rfl (Ex.wk (Kz htab rfl rfl rfl rfl rfl rfl rfl (Kd q425) (Kk q425)) (Wk.of_eq (congrArg D.el (Kp x425)))) rfl rfl rfl rfl rfl rfl ?_
           refine zep ?_
           refine z_qM rfl rfl (Ko htab rfl rfl rfl rfl rfl) rfl rfl rfl rfl rfl rfl ?_
           refine zqp ?_
           refine z_q rfl rfl (Kaz rfl rfl rfl) rfl rfl rfl rfl rfl rfl ?_
           refine z_q rfl rfl (K6 rfl rfl rfl) rfl rfl rfl rfl rfl rfl ?_
           refine zqp ?_
           refine KO (j := 72) (b' := true) rfl hs426 ?_
           iterate 13 refine zK ?_
           refine z_q rfl rfl (Kaz rfl rfl rfl) rfl rfl rfl rfl rfl rfl ?_
           refine zqp ?_
           iterate 13 refine zK ?_
           refine z_q rfl rfl (Kaz rfl rfl rfl) rfl rfl rfl rfl rfl rfl ?_
           refine zqp ?_
           iterate 11 refine zK ?_
           refine z_nil rfl rfl (fun e he => by simp [isAl] at he) ?_
           refine pK ?_
           refine pK ?_
           refine Kab rfl rfl rfl rfl rfl rfl ?_
           refine Kv ?_
           have e413 := Kj hm; subst e413
           refine ⟨rfl, ?_⟩
           exact WkX.of () (WkS.perm (WkS.cons rfl (Wk.refl _) (WkS.cons rfl (Wk.refl _) (WkS.cons rfl (Wk.refl _) (WkS.cons rfl (Wk.refl _) (WkS.cons rfl (Wk.refl _) (WkS.nil)))))) Pf Pf)
          ·replace hm := yes_f hs426 hm
           obtain ⟨x427, q427, hm⟩ := Kc hm
           obtain ⟨x428, q428, hm⟩ := Kc hm
           obtain ⟨x429, q429, hm⟩ := Kc hm
           refine bycB (!x429) (fun hs430 => ?_) (fun hs430 => ?_)
           ·replace hm := yes_t hs430 hm
            refine Kac 95 [] nlSz1_13 [0,2,3,5,7,8,12,14,15,17,19,20,25,27,28,30,32,33,40,42,43,45,47,48,54,56,57,58,59,61,62,63,65] KcG (by kernel_rfl) (by kernel_rfl) (by kernel_rfl) (by rfl) (by rfl) (by kernel_rfl) ?_
            iterate 33 apply Exists.intro
            intro bs
            refine zep ?_
            refine zqp ?_
            refine z_e rfl rfl (Ex.wk (Kz htab rfl rfl rfl rfl rfl rfl rfl (Kd q414) (Kk q414)) (Wk.of_eq (congrArg D.el (Kp x414)))) rfl rfl rfl rfl rfl rfl ?_
            refine zep ?_
            refine z_qM rfl rfl (Ko htab rfl rfl rfl rfl rfl) rfl rfl rfl rfl rfl rfl ?_
            refine zep ?_
            refine zqp ?_
            refine z_e rfl rfl (Ex.wk (Kz htab rfl rfl rfl rfl rfl rfl rfl (Kd q415) (Kk q415)) (Wk.of_eq (congrArg D.el (Kp x415)))) rfl rfl rfl rfl rfl rfl ?_
            refine zep ?_
            refine z_qM rfl rfl (Ko htab rfl rfl rfl rfl rfl) rfl rfl rfl rfl rfl rfl ?_
            refine zqp ?_
            refine zqp ?_
            refine KO (j := 30) (b' := false) rfl hs416 ?_
            refine zep ?_
            refine zqp ?_
            refine z_e rfl rfl (Ex.wk (Kz htab rfl rfl rfl rfl rfl rfl rfl (Kd q417) (Kk q417)) (Wk.of_eq (congrArg D.el (Kp x417)))) rfl rfl rfl rfl rfl rfl ?_
            refine zep ?_
            refine z_qM rfl rfl (Ko htab rfl rfl rfl rfl rfl) rfl rfl rfl rfl rfl rfl ?_
            refine zep ?_
            refine zqp ?_
            refine z_e rfl rfl (Ex.wk (Kz htab rfl rfl rfl rfl rfl rfl rfl (Kd q418) (Kk q418)) (Wk.of_eq (congrArg D.el (Kp x418)))) rfl rfl rfl rfl rfl rfl ?_
            refine zep ?_
            refine z_qM rfl rfl (Ko htab rfl rfl rfl rfl rfl) rfl rfl rfl rfl rfl rfl ?_
            refine zqp ?_
            refine z_q rfl rfl (K6 rfl rfl rfl) rfl rfl rfl rfl rfl rfl ?_
            refine zqp ?_
            refine KO (j := 43) (b' := false) rfl hs419 ?_
            refine zep ?_
            refine zqp ?_
            refine z_e rfl rfl (Ex.wk (Kz htab rfl rfl rfl rfl rfl rfl rfl (Kd q420) (Kk q420)) (Wk.of_eq (congrArg D.el (Kp x420)))) rfl rfl rfl rfl rfl rfl ?_
            refine zep ?_
            refine z_qM rfl rfl (Ko htab rfl rfl rfl rfl rfl) rfl rfl rfl rfl rfl rfl ?_
            refine zep ?_
            refine zqp ?_
            refine z_e rfl rfl (Ex.wk (Kz htab rfl rfl rfl rfl rfl rfl rfl (Kd q421) (Kk q421)) (Wk.of_eq (congrArg D.el (Kp x421)))) rfl rfl rfl rfl rfl rfl ?_
            refine zep ?_
            refine z_qM rfl rfl (Ko htab rfl rfl rfl rfl rfl) rfl rfl rfl rfl rfl rfl ?_
            refine zqp ?_
            refine z_q rfl rfl (K6 rfl rfl rfl) rfl rfl rfl rfl rfl rfl ?_
            refine zqp ?_
            refine KO (j := 56) (b' := false) rfl hs422 ?_
            refine zqp ?_
            refine zqp ?_
            refine KO (j := 58) (b' := true) rfl hs423 ?_
            refine zep ?_
            refine zqp ?_
            refine z_e rfl rfl (Ex.wk (Kz htab rfl rfl rfl rfl rfl rfl rfl (Kd q424) (Kk q424)) (Wk.of_eq (congrArg D.el (Kp x424)))) rfl rfl rfl rfl rfl rfl ?_
            refine zep ?_
            refine z_qM rfl rfl (Ko htab rfl rfl rfl rfl rfl) rfl rfl rfl rfl rfl rfl ?_
            refine zep ?_
            refine zqp ?_
            refine z_e rfl rfl (Ex.wk (Kz htab rfl rfl rfl rfl rfl rfl rfl (Kd q425) (Kk q425)) (Wk.of_eq (congrArg D.el (Kp x425)))) rfl rfl rfl rfl rfl rfl ?_
            refine zep ?_
            refine z_qM rfl rfl (Ko htab rfl rfl rfl rfl rfl) rfl rfl rfl rfl rfl rfl ?_
            refine zqp ?_
            refine z_q rfl rfl (Kaz rfl rfl rfl) rfl rfl rfl rfl rfl rfl ?_
            refine z_q rfl rfl (K6 rfl rfl rfl) rfl rfl rfl rfl rfl rfl ?_
            refine zqp ?_
            refine KO (j := 72) (b' := false) rfl hs426 ?_
            refine zep ?_
            refine zqp ?_
            refine z_e rfl rfl (Ex.wk (Kz htab rfl rfl rfl rfl rfl rfl rfl (Kd q427) (Kk q427)) (Wk.of_eq (congrArg D.el (Kp x427)))) rfl rfl rfl rfl rfl rfl ?_
            refine zep ?_
            refine z_eM rfl rfl (Ko htab rfl rfl rfl rfl rfl) rfl rfl rfl rfl rfl rfl ?_
            refine zep ?_
            refine zqp ?_
            refine z_e rfl rfl (Ex.wk (Kz htab rfl rfl rfl rfl rfl rfl rfl (Kd q428) (Kk q428)) (Wk.of_eq (congrArg D.el (Kp x428)))) rfl rfl rfl rfl rfl rfl ?_
            refine zep ?_
            refine z_eM rfl rfl (Ko htab rfl rfl rfl rfl rfl) rfl rfl rfl rfl rfl rfl ?_
            refine zqp ?_
            refine KbC rfl rfl (KcF x427.gExps x428.gExps a2 x429 q429) rfl rfl Wl rfl rfl rfl rfl rfl rfl ?_
            refine zqp ?_
            refine z_q rfl rfl (K6 rfl rfl rfl) rfl rfl rfl rfl rfl rfl ?_
            refine zqp ?_
            refine KO (j := 87) (b' := true) rfl hs430 ?_
            iterate 13 refine zK ?_
            refine z_q rfl rfl (Kaz rfl rfl rfl) rfl rfl rfl rfl rfl rfl ?_
            refine zqp ?_
            iterate 11 refine zK ?_
            refine z_nil rfl rfl (fun e he => by simp [isAl] at he) ?_
            refine pK ?_
            refine pK ?_
            refine Kab rfl rfl rfl rfl rfl rfl ?_
            refine Kv ?_
            have e413 := Kj hm; subst e413
            refine ⟨rfl, ?_⟩
            exact WkX.of () (WkS.perm (WkS.cons rfl (Wk.refl _) (WkS.cons rfl (Wk.refl _) (WkS.cons rfl (Wk.refl _) (WkS.cons rfl (Wk.refl _) (WkS.cons rfl (Wk.refl _) (WkS.nil)))))) Pf Pf)
           ·replace hm := yes_f hs430 hm
            obtain ⟨x431, q431, hm⟩ := Kc hm
            obtain ⟨x432, q432, hm⟩ := Kc hm
            obtain ⟨x433, q433, hm⟩ := Kc hm
            refine bycB (!x433) (fun hs434 => ?_) (fun hs434 => ?_)
            ·replace hm := yes_t hs434 hm
             refine Kac 95 [] nlSz1_14 [0,2,3,5,7,8,12,14,15,17,19,20,25,27,28,30,32,33,40,42,43,45,47,48,54,56,57,58,59,61,62,63,65,69,71,72,73,74,76,77,78,80] KcG (by kernel_rfl) (by kernel_rfl) (by kernel_rfl) (by rfl) (by rfl) (by kernel_rfl) ?_
             iterate 42 apply Exists.intro
             intro bs
             refine zep ?_
             refine zqp ?_
             refine z_e rfl rfl (Ex.wk (Kz htab rfl rfl rfl rfl rfl rfl rfl (Kd q414) (Kk q414)) (Wk.of_eq (congrArg D.el (Kp x414)))) rfl rfl rfl rfl rfl rfl ?_
             refine zep ?_
             refine z_qM rfl rfl (Ko htab rfl rfl rfl rfl rfl) rfl rfl rfl rfl rfl rfl ?_
             refine zep ?_
             refine zqp ?_
             refine z_e rfl rfl (Ex.wk (Kz htab rfl rfl rfl rfl rfl rfl rfl (Kd q415) (Kk q415)) (Wk.of_eq (congrArg D.el (Kp x415)))) rfl rfl rfl rfl rfl rfl ?_
             refine zep ?_
             refine z_qM rfl rfl (Ko htab rfl rfl rfl rfl rfl) rfl rfl rfl rfl rfl rfl ?_
             refine zqp ?_
             refine zqp ?_
             refine KO (j := 30) (b' := false) rfl hs416 ?_
             refine zep ?_
             refine zqp ?_
             refine z_e rfl rfl (Ex.wk (Kz htab rfl rfl rfl rfl rfl rfl rfl (Kd q417) (Kk q417)) (Wk.of_eq (congrArg D.el (Kp x417)))) rfl rfl rfl rfl rfl rfl ?_
             refine zep ?_
             refine z_qM rfl rfl (Ko htab rfl rfl rfl rfl rfl) rfl rfl rfl rfl rfl rfl ?_
             refine zep ?_
             refine zqp ?_
             refine z_e rfl rfl (Ex.wk (Kz htab rfl rfl rfl rfl rfl rfl rfl (Kd q418) (Kk q418)) (Wk.of_eq (congrArg D.el (Kp x418)))) rfl rfl rfl rfl rfl rfl ?_
             refine zep ?_
             refine z_qM rfl rfl (Ko htab rfl rfl rfl rfl rfl) rfl rfl rfl rfl rfl rfl ?_
             refine zqp ?_
             refine z_q rfl rfl (K6 rfl rfl rfl) rfl rfl rfl rfl rfl rfl ?_
             refine zqp ?_
             refine KO (j := 43) (b' := false) rfl hs419 ?_
             refine zep ?_
             refine zqp ?_
             refine z_e rfl rfl (Ex.wk (Kz htab rfl rfl rfl rfl rfl rfl rfl (Kd q420) (Kk q420)) (Wk.of_eq (congrArg D.el (Kp x420)))) rfl rfl rfl rfl rfl rfl ?_
             refine zep ?_
             refine z_qM rfl rfl (Ko htab rfl rfl rfl rfl rfl) rfl rfl rfl rfl rfl rfl ?_
             refine zep ?_
             refine zqp ?_
             refine z_e rfl rfl (Ex.wk (Kz htab rfl rfl rfl rfl rfl rfl rfl (Kd q421) (Kk q421)) (Wk.of_eq (congrArg D.el (Kp x421)))) rfl rfl rfl rfl rfl rfl ?_
             refine zep ?_
             refine z_qM rfl rfl (Ko htab rfl rfl rfl rfl rfl) rfl rfl rfl rfl rfl rfl ?_
             refine zqp ?_
             refine z_q rfl rfl (K6 rfl rfl rfl) rfl rfl rfl rfl rfl rfl ?_
             refine zqp ?_
             refine KO (j := 56) (b' := false) rfl hs422 ?_
             refine zqp ?_
             refine zqp ?_
             refine KO (j := 58) (b' := true) rfl hs423 ?_
             refine zep ?_
             refine zqp ?_
             refine z_e rfl rfl (Ex.wk (Kz htab rfl rfl rfl rfl rfl rfl rfl (Kd q424) (Kk q424)) (Wk.of_eq (congrArg D.el (Kp x424)))) rfl rfl rfl rfl rfl rfl ?_
             refine zep ?_
             refine z_qM rfl rfl (Ko htab rfl rfl rfl rfl rfl) rfl rfl rfl rfl rfl rfl ?_
             refine zep ?_
             refine zqp ?_
             refine z_e rfl rfl (Ex.wk (Kz htab rfl rfl rfl rfl rfl rfl rfl (Kd q425) (Kk q425)) (Wk.of_eq (congrArg D.el (Kp x425)))) rfl rfl rfl rfl rfl rfl ?_
             refine zep ?_
             refine z_qM rfl rfl (Ko htab rfl rfl rfl rfl rfl) rfl rfl rfl rfl rfl rfl ?_
             refine zqp ?_
             refine z_q rfl rfl (Kaz rfl rfl rfl) rfl rfl rfl rfl rfl rfl ?_
             refine z_q rfl rfl (K6 rfl rfl rfl) rfl rfl rfl rfl rfl rfl ?_
             refine zqp ?_
             refine KO (j := 72) (b' := false) rfl hs426 ?_
             refine zep ?_
             refine zqp ?_
             refine z_e rfl rfl (Ex.wk (Kz htab rfl rfl rfl rfl rfl rfl rfl (Kd q427) (Kk q427)) (Wk.of_eq (congrArg D.el (Kp x427)))) rfl rfl rfl rfl rfl rfl ?_
             refine zep ?_
             refine z_eM rfl rfl (Ko htab rfl rfl rfl rfl rfl) rfl rfl rfl rfl rfl rfl ?_
             refine zep ?_
             refine zqp ?_
             refine z_e rfl rfl (Ex.wk (Kz htab rfl rfl rfl rfl rfl rfl rfl (Kd q428) (Kk q428)) (Wk.of_eq (congrArg D.el (Kp x428)))) rfl rfl rfl rfl rfl rfl ?_
             refine zep ?_
             refine z_eM rfl rfl (Ko htab rfl rfl rfl rfl rfl) rfl rfl rfl rfl rfl rfl ?_
             refine zqp ?_
             refine KbC rfl rfl (KcF x427.gExps x428.gExps a2 x429 q429) rfl rfl Wl rfl rfl rfl rfl rfl rfl ?_
             refine zqp ?_
             refine z_q rfl rfl (K6 rfl rfl rfl) rfl rfl rfl rfl rfl rfl ?_
             refine zqp ?_
             refine KO (j := 87) (b' := false) rfl hs430 ?_
             refine zep ?_
             refine zqp ?_
             refine z_e rfl rfl (Ex.wk (Kz htab rfl rfl rfl rfl rfl rfl rfl (Kd q431) (Kk q431)) (Wk.of_eq (congrArg D.el (Kp x431)))) rfl rfl rfl rfl rfl rfl ?_
             refine zep ?_
             refine z_eM rfl rfl (Ko htab rfl rfl rfl rfl rfl) rfl rfl rfl rfl rfl rfl ?_
             refine zep ?_
             refine zqp ?_
             refine z_e rfl rfl (Ex.wk (Kz htab rfl rfl rfl rfl rfl rfl rfl (Kd q432) (Kk q432)) (Wk.of_eq (congrArg D.el (Kp x432)))) rfl rfl rfl rfl rfl rfl ?_
             refine zep ?_
             refine z_eM rfl rfl (Ko htab rfl rfl rfl rfl rfl) rfl rfl rfl rfl rfl rfl ?_
             refine zqp ?_
             refine KbC rfl rfl (hg0 x431.gKids x432.gKids a2 x433 q433) rfl rfl Wl rfl rfl rfl rfl rfl rfl ?_
             refine zqp ?_
             refine z_q rfl rfl (K6 rfl rfl rfl) rfl rfl rfl rfl rfl rfl ?_
             refine zqp ?_
             refine KO (j := 102) (b' := true) rfl hs434 ?_
             iterate 11 refine zK ?_
             refine z_nil rfl rfl (fun e he => by simp [isAl] at he) ?_
             refine pK ?_
             refine pK ?_
             refine Kab rfl rfl rfl rfl rfl rfl ?_
             refine Kv ?_
             have e413 := Kj hm; subst e413
             refine ⟨rfl, ?_⟩
             exact WkX.of () (WkS.perm (WkS.cons rfl (Wk.refl _) (WkS.cons rfl (Wk.refl _) (WkS.cons rfl (Wk.refl _) (WkS.cons rfl (Wk.refl _) (WkS.cons rfl (Wk.refl _) (WkS.nil)))))) Pf Pf)
            ·replace hm := yes_f hs434 hm
             obtain ⟨x435, q435, hm⟩ := Kc hm
             obtain ⟨x436, q436, hm⟩ := Kc hm
             refine Kac 95 [] nlSz1_15 [0,2,3,5,7,8,12,14,15,17,19,20,25,27,28,30,32,33,40,42,43,45,47,48,54,56,57,58,59,61,62,63,65,69,71,72,73,74,76,77,78,80,84,86,87,88,89,91,92,93] KcG (by kernel_rfl) (by kernel_rfl) (by kernel_rfl) (by rfl) (by rfl) (by kernel_rfl) ?_
             iterate 50 apply Exists.intro
             intro bs
             refine zep ?_
             refine zqp ?_
             refine z_e rfl rfl (Ex.wk (Kz htab rfl rfl rfl rfl rfl rfl rfl (Kd q414) (Kk q414)) (Wk.of_eq (congrArg D.el (Kp x414)))) rfl rfl rfl rfl rfl rfl ?_
             refine zep ?_
             refine z_qM rfl rfl (Ko htab rfl rfl rfl rfl rfl) rfl rfl rfl rfl rfl rfl ?_
             refine zep ?_
             refine zqp ?_
             refine z_e rfl rfl (Ex.wk (Kz htab rfl rfl rfl rfl rfl rfl rfl (Kd q415) (Kk q415)) (Wk.of_eq (congrArg D.el (Kp x415)))) rfl rfl rfl rfl rfl rfl ?_
             refine zep ?_
             refine z_qM rfl rfl (Ko htab rfl rfl rfl rfl rfl) rfl rfl rfl rfl rfl rfl ?_
             refine zqp ?_
             refine zqp ?_
             refine KO (j := 30) (b' := false) rfl hs416 ?_
             refine zep ?_
             refine zqp ?_
             refine z_e rfl rfl (Ex.wk (Kz htab rfl rfl rfl rfl rfl rfl rfl (Kd q417) (Kk q417)) (Wk.of_eq (congrArg D.el (Kp x417)))) rfl rfl rfl rfl rfl rfl ?_
             refine zep ?_
             refine z_qM rfl rfl (Ko htab rfl rfl rfl rfl rfl) rfl rfl rfl rfl rfl rfl ?_
             refine zep ?_
             refine zqp ?_
             refine z_e rfl rfl (Ex.wk (Kz htab rfl rfl rfl rfl rfl rfl rfl (Kd q418) (Kk q418)) (Wk.of_eq (congrArg D.el (Kp x418)))) rfl rfl rfl rfl rfl rfl ?_
             refine zep ?_
             refine z_qM rfl rfl (Ko htab rfl rfl rfl rfl rfl) rfl rfl rfl rfl rfl rfl ?_
             refine zqp ?_
             refine z_q rfl rfl (K6 rfl rfl rfl) rfl rfl rfl rfl rfl rfl ?_
             refine zqp ?_
             refine KO (j := 43) (b' := false) rfl hs419 ?_
             refine zep ?_
             refine zqp ?_
             refine z_e rfl rfl (Ex.wk (Kz htab rfl rfl rfl rfl rfl rfl rfl (Kd q420) (Kk q420)) (Wk.of_eq (congrArg D.el (Kp x420)))) rfl rfl rfl rfl rfl rfl ?_
             refine zep ?_
             refine z_qM rfl rfl (Ko htab rfl rfl rfl rfl rfl) rfl rfl rfl rfl rfl rfl ?_
             refine zep ?_
             refine zqp ?_
             refine z_e rfl rfl (Ex.wk (Kz htab rfl rfl rfl rfl rfl rfl rfl (Kd q421) (Kk q421)) (Wk.of_eq (congrArg D.el (Kp x421)))) rfl rfl rfl rfl rfl rfl ?_
             refine zep ?_
             refine z_qM rfl rfl (Ko htab rfl rfl rfl rfl rfl) rfl rfl rfl rfl rfl rfl ?_
             refine zqp ?_
             refine z_q rfl rfl (K6 rfl rfl rfl) rfl rfl rfl rfl rfl rfl ?_
             refine zqp ?_
             refine KO (j := 56) (b' := false) rfl hs422 ?_
             refine zqp ?_
             refine zqp ?_
             refine KO (j := 58) (b' := true) rfl hs423 ?_
             refine zep ?_
             refine zqp ?_
             refine z_e rfl rfl (Ex.wk (Kz htab rfl rfl rfl rfl rfl rfl rfl (Kd q424) (Kk q424)) (Wk.of_eq (congrArg D.el (Kp x424)))) rfl rfl rfl rfl rfl rfl ?_
             refine zep ?_
             refine z_qM rfl rfl (Ko htab rfl rfl rfl rfl rfl) rfl rfl rfl rfl rfl rfl ?_
             refine zep ?_
             refine zqp ?_
             refine z_e rfl rfl (Ex.wk (Kz htab rfl rfl rfl rfl rfl rfl rfl (Kd q425) (Kk q425)) (Wk.of_eq (congrArg D.el (Kp x425)))) rfl rfl rfl rfl rfl rfl ?_
             refine zep ?_
             refine z_qM rfl rfl (Ko htab rfl rfl rfl rfl rfl) rfl rfl rfl rfl rfl rfl ?_
             refine zqp ?_
             refine z_q rfl rfl (Kaz rfl rfl rfl) rfl rfl rfl rfl rfl rfl ?_
             refine z_q rfl rfl (K6 rfl rfl rfl) rfl rfl rfl rfl rfl rfl ?_
             refine zqp ?_
             refine KO (j := 72) (b' := false) rfl hs426 ?_
             refine zep ?_
             refine zqp ?_
             refine z_e rfl rfl (Ex.wk (Kz htab rfl rfl rfl rfl rfl rfl rfl (Kd q427) (Kk q427)) (Wk.of_eq (congrArg D.el (Kp x427)))) rfl rfl rfl rfl rfl rfl ?_
             refine zep ?_
             refine z_eM rfl rfl (Ko htab rfl rfl rfl rfl rfl) rfl rfl rfl rfl rfl rfl ?_
             refine zep ?_
             refine zqp ?_
             refine z_e rfl rfl (Ex.wk (Kz htab rfl rfl rfl rfl rfl rfl rfl (Kd q428) (Kk q428)) (Wk.of_eq (congrArg D.el (Kp x428)))) rfl rfl rfl rfl rfl rfl ?_
             refine zep ?_
             refine z_eM rfl rfl (Ko htab rfl rfl rfl rfl rfl) rfl rfl rfl rfl rfl rfl ?_
             refine zqp ?_
             refine KbC rfl rfl (KcF x427.gExps x428.gExps a2 x429 q429) rfl rfl Wl rfl rfl rfl rfl rfl rfl ?_
             refine zqp ?_
             refine z_q rfl rfl (K6 rfl rfl rfl) rfl rfl rfl rfl rfl rfl ?_
             refine zqp ?_
             refine KO (j := 87) (b' := false) rfl hs430 ?_
             refine zep ?_
             refine zqp ?_
             refine z_e rfl rfl (Ex.wk (Kz htab rfl rfl rfl rfl rfl rfl rfl (Kd q431) (Kk q431)) (Wk.of_eq (congrArg D.el (Kp x431)))) rfl rfl rfl rfl rfl rfl ?_
             refine zep ?_
             refine z_eM rfl rfl (Ko htab rfl rfl rfl rfl rfl) rfl rfl rfl rfl rfl rfl ?_
             refine zep ?_
             refine zqp ?_
             refine z_e rfl rfl (Ex.wk (Kz htab rfl rfl rfl rfl rfl rfl rfl (Kd q432) (Kk q432)) (Wk.of_eq (congrArg D.el (Kp x432)))) rfl rfl rfl rfl rfl rfl ?_
             refine zep ?_
             refine z_eM rfl rfl (Ko htab rfl rfl rfl rfl rfl) rfl rfl rfl rfl rfl rfl ?_
             refine zqp ?_
             refine KbC rfl rfl (hg0 x431.gKids x432.gKids a2 x433 q433) rfl rfl Wl rfl rfl rfl rfl rfl rfl ?_
             refine zqp ?_
             refine z_q rfl rfl (K6 rfl rfl rfl) rfl rfl rfl rfl rfl rfl ?_
             refine zqp ?_
             refine KO (j := 102) (b' := false) rfl hs434 ?_
             refine zep ?_
             refine zqp ?_
             refine z_e rfl rfl (Ex.wk (Kz htab rfl rfl rfl rfl rfl rfl rfl (Kd q435) (Kk q435)) (Wk.of_eq (congrArg D.el (Kp x435)))) rfl rfl rfl rfl rfl rfl ?_
             refine zep ?_
             refine z_eM rfl rfl (Ko htab rfl rfl rfl rfl rfl) rfl rfl rfl rfl rfl rfl ?_
             refine zep ?_
             refine zqp ?_
             refine z_e rfl rfl (Ex.wk (Kz htab rfl rfl rfl rfl rfl rfl rfl (Kd q436) (Kk q436)) (Wk.of_eq (congrArg D.el (Kp x436)))) rfl rfl rfl rfl rfl rfl ?_
             refine zep ?_
             refine z_eM rfl rfl (Ko htab rfl rfl rfl rfl rfl) rfl rfl rfl rfl rfl rfl ?_
             refine zqp ?_
             refine z_nil rfl rfl (fun e he => by simp [isAl] at he) ?_
             obtain ⟨x437, q437, hm⟩ := Kc hm
             refine Kaj (hg0 x435.gElse x436.gElse a2 x437 q437) rfl rfl rfl rfl rfl Wl ?_
             rintro _ rfl
             refine pu ?_
             refine K9 rfl rfl rfl rfl rfl rfl ?_
             refine Kv ?_
             have e413 := Kj hm; subst e413
             refine ⟨rfl, ?_⟩
             exact WkX.of () (WkS.perm (WkS.cons rfl (Wk.refl _) (WkS.cons rfl (Wk.refl _) (WkS.cons rfl (Wk.refl _) (WkS.cons rfl (Wk.refl _) (WkS.cons rfl (Wk.refl _) (WkS.nil)))))) Pf Pf)
         ·replace hm := yes_f hs423 hm
          obtain ⟨x438, q438, hm⟩ := Kc hm
          obtain ⟨x439, q439, hm⟩ := Kc hm
          obtain ⟨x440, q440, hm⟩ := Kc hm
          refine bycB (!x440) (fun hs441 => ?_) (fun hs441 => ?_)
          ·replace hm := yes_t hs441 hm
           refine Kac 95 [] nlSz1_16 [0,2,3,5,7,8,12,14,15,17,19,20,25,27,28,30,32,33,54,56,57,58,59,61,62,63,65] KcG (by kernel_rfl) (by kernel_rfl) (by kernel_rfl) (by rfl) (by rfl) (by kernel_rfl) ?_
           iterate 27 apply Exists.intro
           intro bs
           refine zep ?_
           refine zqp ?_
           refine z_e rfl rfl (Ex.wk (Kz htab rfl rfl rfl rfl rfl rfl rfl (Kd q414) (Kk q414)) (Wk.of_eq (congrArg D.el (Kp x414)))) rfl rfl rfl rfl rfl rfl ?_
           refine zep ?_
           refine z_qM rfl rfl (Ko htab rfl rfl rfl rfl rfl) rfl rfl rfl rfl rfl rfl ?_
           refine zep ?_
           refine zqp ?_
           refine z_e rfl rfl (Ex.wk (Kz htab rfl rfl rfl rfl rfl rfl rfl (Kd q415) (Kk q415)) (Wk.of_eq (congrArg D.el (Kp x415)))) rfl rfl rfl rfl rfl rfl ?_
           refine zep ?_
           refine z_qM rfl rfl (Ko htab rfl rfl rfl rfl rfl) rfl rfl rfl rfl rfl rfl ?_
           refine zqp ?_
           refine zqp ?_
           refine KO (j := 30) (b' := false) rfl hs416 ?_
           refine zep ?_
           refine zqp ?_
           refine z_e rfl rfl (Ex.wk (Kz htab rfl rfl rfl rfl rfl rfl rfl (Kd q417) (Kk q417)) (Wk.of_eq (congrArg D.el (Kp x417)))) rfl rfl rfl rfl rfl rfl ?_
           refine zep ?_
           refine z_qM rfl rfl (Ko htab rfl rfl rfl rfl rfl) rfl rfl rfl rfl rfl rfl ?_
           refine zep ?_
           refine zqp ?_
           refine z_e rfl rfl (Ex.wk (Kz htab rfl rfl rfl rfl rfl rfl rfl (Kd q418) (Kk q418)) (Wk.of_eq (congrArg D.el (Kp x418)))) rfl rfl rfl rfl rfl rfl ?_
           refine zep ?_
           refine z_qM rfl rfl (Ko htab rfl rfl rfl rfl rfl) rfl rfl rfl rfl rfl rfl ?_
           refine zqp ?_
           refine z_q rfl rfl (K6 rfl rfl rfl) rfl rfl rfl rfl rfl rfl ?_
           refine zqp ?_
           refine KO (j := 43) (b' := false) rfl hs419 ?_
           refine zep ?_
           refine zqp ?_
           refine z_e rfl rfl (Ex.wk (Kz htab rfl rfl rfl rfl rfl rfl rfl (Kd q420) (Kk q420)) (Wk.of_eq (congrArg D.el (Kp x420)))) rfl rfl rfl rfl rfl rfl ?_
           refine zep ?_
           refine z_qM rfl rfl (Ko htab rfl rfl rfl rfl rfl) rfl rfl rfl rfl rfl rfl ?_
           refine zep ?_
           refine zqp ?_
           refine z_e rfl rfl (Ex.wk (Kz htab rfl rfl rfl rfl rfl rfl rfl (Kd q421) (Kk q421)) (Wk.of_eq (congrArg D.el (Kp x421)))) rfl rfl rfl rfl rfl rfl ?_
           refine zep ?_
           refine z_qM rfl rfl (Ko htab rfl rfl rfl rfl rfl) rfl rfl rfl rfl rfl rfl ?_
           refine zqp ?_
           refine z_q rfl rfl (K6 rfl rfl rfl) rfl rfl rfl rfl rfl rfl ?_
           refine zqp ?_
           refine KO (j := 56) (b' := false) rfl hs422 ?_
           refine zqp ?_
           refine zqp ?_
           refine KO (j := 58) (b' := false) rfl hs423 ?_
           iterate 11 refine zK ?_
           refine z_q rfl rfl (K6 rfl rfl rfl) rfl rfl rfl rfl rfl rfl ?_
           refine z_q rfl rfl (K6 rfl rfl rfl) rfl rfl rfl rfl rfl rfl ?_
           refine zqp ?_
           refine zep ?_
           refine zqp ?_
           refine z_e rfl rfl (Ex.wk (Kz htab rfl rfl rfl rfl rfl rfl rfl (Kd q438) (Kk q438)) (Wk.of_eq (congrArg D.el (Kp x438)))) rfl rfl rfl rfl rfl rfl ?_
           refine zep ?_
           refine z_eM rfl rfl (Ko htab rfl rfl rfl rfl rfl) rfl rfl rfl rfl rfl rfl ?_
           refine zep ?_
           refine zqp ?_
           refine z_e rfl rfl (Ex.wk (Kz htab rfl rfl rfl rfl rfl rfl rfl (Kd q439) (Kk q439)) (Wk.of_eq (congrArg D.el (Kp x439)))) rfl rfl rfl rfl rfl rfl ?_
           refine zep ?_
           refine z_eM rfl rfl (Ko htab rfl rfl rfl rfl rfl) rfl rfl rfl rfl rfl rfl ?_
           refine zqp ?_
           refine KbC rfl rfl (KcF x438.gExps x439.gExps a2 x440 q440) rfl rfl Wl rfl rfl rfl rfl rfl rfl ?_
           refine zqp ?_
           refine z_q rfl rfl (K6 rfl rfl rfl) rfl rfl rfl rfl rfl rfl ?_
           refine zqp ?_
           refine KO (j := 87) (b' := true) rfl hs441 ?_
           iterate 13 refine zK ?_
           refine z_q rfl rfl (Kaz rfl rfl rfl) rfl rfl rfl rfl rfl rfl ?_
           refine zqp ?_
           iterate 11 refine zK ?_
           refine z_nil rfl rfl (fun e he => by simp [isAl] at he) ?_
           refine pK ?_
           refine pK ?_
           refine Kab rfl rfl rfl rfl rfl rfl ?_
           refine Kv ?_
           have e413 := Kj hm; subst e413
           refine ⟨rfl, ?_⟩
           exact WkX.of () (WkS.perm (WkS.cons rfl (Wk.refl _) (WkS.cons rfl (Wk.refl _) (WkS.cons rfl (Wk.refl _) (WkS.cons rfl (Wk.refl _) (WkS.cons rfl (Wk.refl _) (WkS.nil)))))) Pf Pf)
          ·replace hm := yes_f hs441 hm
           obtain ⟨x442, q442, hm⟩ := Kc hm
           obtain ⟨x443, q443, hm⟩ := Kc hm
           obtain ⟨x444, q444, hm⟩ := Kc hm
           refine bycB (!x444) (fun hs445 => ?_) (fun hs445 => ?_)
           ·replace hm := yes_t hs445 hm
            refine Kac 95 [] nlSz1_17 [0,2,3,5,7,8,12,14,15,17,19,20,25,27,28,30,32,33,54,56,57,58,59,61,62,63,65,69,71,72,73,74,76,77,78,80] KcG (by kernel_rfl) (by kernel_rfl) (by kernel_rfl) (by rfl) (by rfl) (by kernel_rfl) ?_
            iterate 36 apply Exists.intro
            intro bs
            refine zep ?_
            refine zqp ?_
            refine z_e rfl rfl (Ex.wk (Kz htab rfl rfl rfl rfl rfl rfl rfl (Kd q414) (Kk q414)) (Wk.of_eq (congrArg D.el (Kp x414)))) rfl rfl rfl rfl rfl rfl ?_
            refine zep ?_
            refine z_qM rfl rfl (Ko htab rfl rfl rfl rfl rfl) rfl rfl rfl rfl rfl rfl ?_
            refine zep ?_
            refine zqp ?_
            refine z_e rfl rfl (Ex.wk (Kz htab rfl rfl rfl rfl rfl rfl rfl (Kd q415) (Kk q415)) (Wk.of_eq (congrArg D.el (Kp x415)))) rfl rfl rfl rfl rfl rfl ?_
            refine zep ?_
            refine z_qM rfl rfl (Ko htab rfl rfl rfl rfl rfl) rfl rfl rfl rfl rfl rfl ?_
            refine zqp ?_
            refine zqp ?_
            refine KO (j := 30) (b' := false) rfl hs416 ?_
            refine zep ?_
            refine zqp ?_
            refine z_e rfl rfl (Ex.wk (Kz htab rfl rfl rfl rfl rfl rfl rfl (Kd q417) (Kk q417)) (Wk.of_eq (congrArg D.el (Kp x417)))) rfl rfl rfl rfl rfl rfl ?_
            refine zep ?_
            refine z_qM rfl rfl (Ko htab rfl rfl rfl rfl rfl) rfl rfl rfl rfl rfl rfl ?_
            refine zep ?_
            refine zqp ?_
            refine z_e rfl rfl (Ex.wk (Kz htab rfl rfl rfl rfl rfl rfl rfl (Kd q418) (Kk q418)) (Wk.of_eq (congrArg D.el (Kp x418)))) rfl rfl rfl rfl rfl rfl ?_
            refine zep ?_
            refine z_qM rfl rfl (Ko htab rfl rfl rfl rfl rfl) rfl rfl rfl rfl rfl rfl ?_
            refine zqp ?_
            refine z_q rfl rfl (K6 rfl rfl rfl) rfl rfl rfl rfl rfl rfl ?_
            refine zqp ?_
            refine KO (j := 43) (b' := false) rfl hs419 ?_
            refine zep ?_
            refine zqp ?_
            refine z_e rfl rfl (Ex.wk (Kz htab rfl rfl rfl rfl rfl rfl rfl (Kd q420) (Kk q420)) (Wk.of_eq (congrArg D.el (Kp x420)))) rfl rfl rfl rfl rfl rfl ?_
            refine zep ?_
            refine z_qM rfl rfl (Ko htab rfl rfl rfl rfl rfl) rfl rfl rfl rfl rfl rfl ?_
            refine zep ?_
            refine zqp ?_
            refine z_e rfl rfl (Ex.wk (Kz htab rfl rfl rfl rfl rfl rfl rfl (Kd q421) (Kk q421)) (Wk.of_eq (congrArg D.el (Kp x421)))) rfl rfl rfl rfl rfl rfl ?_
            refine zep ?_
            refine z_qM rfl rfl (Ko htab rfl rfl rfl rfl rfl) rfl rfl rfl rfl rfl rfl ?_
            refine zqp ?_
            refine z_q rfl rfl (K6 rfl rfl rfl) rfl rfl rfl rfl rfl rfl ?_
            refine zqp ?_
            refine KO (j := 56) (b' := false) rfl hs422 ?_
            refine zqp ?_
            refine zqp ?_
            refine KO (j := 58) (b' := false) rfl hs423 ?_
            iterate 11 refine zK ?_
            refine z_q rfl rfl (K6 rfl rfl rfl) rfl rfl rfl rfl rfl rfl ?_
            refine z_q rfl rfl (K6 rfl rfl rfl) rfl rfl rfl rfl rfl rfl ?_
            refine zqp ?_
            refine zep ?_
            refine zqp ?_
            refine z_e rfl rfl (Ex.wk (Kz htab rfl rfl rfl rfl rfl rfl rfl (Kd q438) (Kk q438)) (Wk.of_eq (congrArg D.el (Kp x438)))) rfl rfl rfl rfl rfl rfl ?_
            refine zep ?_
            refine z_eM rfl rfl (Ko htab rfl rfl rfl rfl rfl) rfl rfl rfl rfl rfl rfl ?_
            refine zep ?_
            refine zqp ?_
            refine z_e rfl rfl (Ex.wk (Kz htab rfl rfl rfl rfl rfl rfl rfl (Kd q439) (Kk q439)) (Wk.of_eq (congrArg D.el (Kp x439)))) rfl rfl rfl rfl rfl rfl ?_
            refine zep ?_
            refine z_eM rfl rfl (Ko htab rfl rfl rfl rfl rfl) rfl rfl rfl rfl rfl rfl ?_
            refine zqp ?_
            refine KbC rfl rfl (KcF x438.gExps x439.gExps a2 x440 q440) rfl rfl Wl rfl rfl rfl rfl rfl rfl ?_
            refine zqp ?_
            refine z_q rfl rfl (K6 rfl rfl rfl) rfl rfl rfl rfl rfl rfl ?_
            refine zqp ?_
            refine KO (j := 87) (b' := false) rfl hs441 ?_
            refine zep ?_
            refine zqp ?_
            refine z_e rfl rfl (Ex.wk (Kz htab rfl rfl rfl rfl rfl rfl rfl (Kd q442) (Kk q442)) (Wk.of_eq (congrArg D.el (Kp x442)))) rfl rfl rfl rfl rfl rfl ?_
            refine zep ?_
            refine z_eM rfl rfl (Ko htab rfl rfl rfl rfl rfl) rfl rfl rfl rfl rfl rfl ?_
            refine zep ?_
            refine zqp ?_
            refine z_e rfl rfl (Ex.wk (Kz htab rfl rfl rfl rfl rfl rfl rfl (Kd q443) (Kk q443)) (Wk.of_eq (congrArg D.el (Kp x443)))) rfl rfl rfl rfl rfl rfl ?_
            refine zep ?_
            refine z_eM rfl rfl (Ko htab rfl rfl rfl rfl rfl) rfl rfl rfl rfl rfl rfl ?_
            refine zqp ?_
            refine KbC rfl rfl (hg0 x442.gKids x443.gKids a2 x444 q444) rfl rfl Wl rfl rfl rfl rfl rfl rfl ?_
            refine zqp ?_
            refine z_q rfl rfl (K6 rfl rfl rfl) rfl rfl rfl rfl rfl rfl ?_
            refine zqp ?_
            refine KO (j := 102) (b' := true) rfl hs445 ?_
            iterate 11 refine zK ?_
            refine z_nil rfl rfl (fun e he => by simp [isAl] at he) ?_
            refine pK ?_
            refine pK ?_
            refine Kab rfl rfl rfl rfl rfl rfl ?_
            refine Kv ?_
            have e413 := Kj hm; subst e413
            refine ⟨rfl, ?_⟩
            exact WkX.of () (WkS.perm (WkS.cons rfl (Wk.refl _) (WkS.cons rfl (Wk.refl _) (WkS.cons rfl (Wk.refl _) (WkS.cons rfl (Wk.refl _) (WkS.cons rfl (Wk.refl _) (WkS.nil)))))) Pf Pf)
           ·replace hm := yes_f hs445 hm
            obtain ⟨x446, q446, hm⟩ := Kc hm
            obtain ⟨x447, q447, hm⟩ := Kc hm
            refine Kac 95 [] nlSz1_18 [0,2,3,5,7,8,12,14,15,17,19,20,25,27,28,30,32,33,54,56,57,58,59,61,62,63,65,69,71,72,73,74,76,77,78,80,84,86,87,88,89,91,92,93] KcG (by kernel_rfl) (by kernel_rfl) (by kernel_rfl) (by rfl) (by rfl) (by kernel_rfl) ?_
            iterate 44 apply Exists.intro
            intro bs
            refine zep ?_
            refine zqp ?_
            refine z_e rfl rfl (Ex.wk (Kz htab rfl rfl rfl rfl rfl rfl rfl (Kd q414) (Kk q414)) (Wk.of_eq (congrArg D.el (Kp x414)))) rfl rfl rfl rfl rfl rfl ?_
            refine zep ?_
            refine z_qM rfl rfl (Ko htab rfl rfl rfl rfl rfl) rfl rfl rfl rfl rfl rfl ?_
            refine zep ?_
            refine zqp ?_
            refine z_e rfl rfl (Ex.wk (Kz htab rfl rfl rfl rfl rfl rfl rfl (Kd q415) (Kk q415)) (Wk.of_eq (congrArg D.el (Kp x415)))) rfl rfl rfl rfl rfl rfl ?_
            refine zep ?_
            refine z_qM rfl rfl (Ko htab rfl rfl rfl rfl rfl) rfl rfl rfl rfl rfl rfl ?_
            refine zqp ?_
            refine zqp ?_
            refine KO (j := 30) (b' := false) rfl hs416 ?_
            refine zep ?_
            refine zqp ?_
            refine z_e rfl rfl (Ex.wk (Kz htab rfl rfl rfl rfl rfl rfl rfl (Kd q417) (Kk q417)) (Wk.of_eq (congrArg D.el (Kp x417)))) rfl rfl rfl rfl rfl rfl ?_
            refine zep ?_
            refine z_qM rfl rfl (Ko htab rfl rfl rfl rfl rfl) rfl rfl rfl rfl rfl rfl ?_
            refine zep ?_
            refine zqp ?_
            refine z_e rfl rfl (Ex.wk (Kz htab rfl rfl rfl rfl rfl rfl rfl (Kd q418) (Kk q418)) (Wk.of_eq (congrArg D.el (Kp x418)))) rfl rfl rfl rfl rfl rfl ?_
            refine zep ?_
            refine z_qM rfl rfl (Ko htab rfl rfl rfl rfl rfl) rfl rfl rfl rfl rfl rfl ?_
            refine zqp ?_
            refine z_q rfl rfl (K6 rfl rfl rfl) rfl rfl rfl rfl rfl rfl ?_
            refine zqp ?_
            refine KO (j := 43) (b' := false) rfl hs419 ?_
            refine zep ?_
            refine zqp ?_
            refine z_e rfl rfl (Ex.wk (Kz htab rfl rfl rfl rfl rfl rfl rfl (Kd q420) (Kk q420)) (Wk.of_eq (congrArg D.el (Kp x420)))) rfl rfl rfl rfl rfl rfl ?_
            refine zep ?_
            refine z_qM rfl rfl (Ko htab rfl rfl rfl rfl rfl) rfl rfl rfl rfl rfl rfl ?_
            refine zep ?_
            refine zqp ?_
            refine z_e rfl rfl (Ex.wk (Kz htab rfl rfl rfl rfl rfl rfl rfl (Kd q421) (Kk q421)) (Wk.of_eq (congrArg D.el (Kp x421)))) rfl rfl rfl rfl rfl rfl ?_
            refine zep ?_
            refine z_qM rfl rfl (Ko htab rfl rfl rfl rfl rfl) rfl rfl rfl rfl rfl rfl ?_
            refine zqp ?_
            refine z_q rfl rfl (K6 rfl rfl rfl) rfl rfl rfl rfl rfl rfl ?_
            refine zqp ?_
            refine KO (j := 56) (b' := false) rfl hs422 ?_
            refine zqp ?_
            refine zqp ?_
            refine KO (j := 58) (b' := false) rfl hs423 ?_
            iterate 11 refine zK ?_
            refine z_q rfl rfl (K6 rfl rfl rfl) rfl rfl rfl rfl rfl rfl ?_
            refine z_q rfl rfl (K6 rfl rfl rfl) rfl rfl rfl rfl rfl rfl ?_
            refine zqp ?_
            refine zep ?_
            refine zqp ?_
            refine z_e rfl rfl (Ex.wk (Kz htab rfl rfl rfl rfl rfl rfl rfl (Kd q438) (Kk q438)) (Wk.of_eq (congrArg D.el (Kp x438)))) rfl rfl rfl rfl rfl rfl ?_
            refine zep ?_
            refine z_eM rfl rfl (Ko htab rfl rfl rfl rfl rfl) rfl rfl rfl rfl rfl rfl ?_
            refine zep ?_
            refine zqp ?_
            refine z_e rfl rfl (Ex.wk (Kz htab rfl rfl rfl rfl rfl rfl rfl (Kd q439) (Kk q439)) (Wk.of_eq (congrArg D.el (Kp x439)))) rfl rfl rfl rfl rfl rfl ?_
            refine zep ?_
            refine z_eM rfl rfl (Ko htab rfl rfl rfl rfl rfl) rfl rfl rfl rfl rfl rfl ?_
            refine zqp ?_
            refine KbC rfl rfl (KcF x438.gExps x439.gExps a2 x440 q440) rfl rfl Wl rfl rfl rfl rfl rfl rfl ?_
            refine zqp ?_
            refine z_q rfl rfl (K6 rfl rfl rfl) rfl rfl rfl rfl rfl rfl ?_
            refine zqp ?_
            refine KO (j := 87) (b' := false) rfl hs441 ?_
            refine zep ?_
            refine zqp ?_
            refine z_e rfl rfl (Ex.wk (Kz htab rfl rfl rfl rfl rfl rfl rfl (Kd q442) (Kk q442)) (Wk.of_eq (congrArg D.el (Kp x442)))) rfl rfl rfl rfl rfl rfl ?_
            refine zep ?_
            refine z_eM rfl rfl (Ko htab rfl rfl rfl rfl rfl) rfl rfl rfl rfl rfl rfl ?_
            refine zep ?_
            refine zqp ?_
            refine z_e rfl rfl (Ex.wk (Kz htab rfl rfl rfl rfl rfl rfl rfl (Kd q443) (Kk q443)) (Wk.of_eq (congrArg D.el (Kp x443)))) rfl rfl rfl rfl rfl rfl ?_
            refine zep ?_
            refine z_eM rfl rfl (Ko htab rfl rfl rfl rfl rfl) rfl rfl rfl rfl rfl rfl ?_
            refine zqp ?_
            refine KbC rfl rfl (hg0 x442.gKids x443.gKids a2 x444 q444) rfl rfl Wl rfl rfl rfl rfl rfl rfl ?_
            refine zqp ?_
            refine z_q rfl rfl (K6 rfl rfl rfl) rfl rfl rfl rfl rfl rfl ?_
            refine zqp ?_
            refine KO (j := 102) (b' := false) rfl hs445 ?_
            refine zep ?_
            refine zqp ?_
            refine z_e rfl rfl (Ex.wk (Kz htab rfl rfl rfl rfl rfl rfl rfl (Kd q446) (Kk q446)) (Wk.of_eq (congrArg D.el (Kp x446)))) rfl rfl rfl rfl rfl rfl ?_
            refine zep ?_
            refine z_eM rfl rfl (Ko htab rfl rfl rfl rfl rfl) rfl rfl rfl rfl rfl rfl ?_
            refine zep ?_
            refine zqp ?_
            refine z_e rfl rfl (Ex.wk (Kz htab rfl rfl rfl rfl rfl rfl rfl (Kd q447) (Kk q447)) (Wk.of_eq (congrArg D.el (Kp x447)))) rfl rfl rfl rfl rfl rfl ?_
            refine zep ?_
            refine z_eM rfl rfl (Ko htab rfl rfl rfl rfl rfl) rfl rfl rfl rfl rfl rfl ?_
            refine zqp ?_
            refine z_nil rfl rfl (fun e he => by simp [isAl] at he) ?_
            obtain ⟨x448, q448, hm⟩ := Kc hm
            refine Kaj (hg0 x446.gElse x447.gElse a2 x448 q448) rfl rfl rfl rfl rfl Wl ?_
            rintro _ rfl
            refine pu ?_
            refine K9 rfl rfl rfl rfl rfl rfl ?_
            refine Kv ?_
            have e413 := Kj hm; subst e413
            refine ⟨rfl, ?_⟩
            exact WkX.of () (WkS.perm (WkS.cons rfl (Wk.refl _) (WkS.cons rfl (Wk.refl _) (WkS.cons rfl (Wk.refl _) (WkS.cons rfl (Wk.refl _) (WkS.cons rfl (Wk.refl _) (WkS.nil)))))) Pf Pf)
     ·intro s413 hw413; clear hm; have hm := ho413; clear q413 ho413
      refine Kb ?_
      refine KV hw413 (fun z413 => ?_)
      refine KC rfl (fun hc449 => ?_) (fun hc449 => ?_)
      ·replace hm := yes_t hc449 hm
       refine Kh ?_
       refine pu ?_
       refine Ke ?_
       refine KE ?_
       refine Kan ?_
       refine KS ?_
       have e228 := K1 hm; subst e228; clear hm; have hm := hq228
       refine KS ?_
       refine Kan ?_
       have e227 := Kj hm; subst e227; refine Kbk ?_; clear hm; have hm := ho227; simp only [Sum.elim_inr] at hm
       refine KS ?_
       have er450 := Kj hm; subst er450
       refine rP (t' := [(6, .v (.bool false))]) [] [] 0 (wC wN) (lT lN) ?_
       exact ⟨rfl, rfl, rfl⟩
      ·replace hm := yes_f hc449 hm
       refine KB ?_
       refine KM ?_
       refine Kb ?_
       refine Kt ?_
       iterate 3 refine pu ?_
       refine Kv ?_
       refine Kb ⟨_, K0 hm, ?_⟩
       exact WkX.of () (WkS.perm (WkS.cons rfl (Wk.refl _) (WkS.cons rfl (Wk.refl _) (WkS.cons rfl (Wk.refl _) (WkS.cons rfl (Wk.refl _) (WkS.nil))))) Pf Pf)
    ·replace hm := yes_f hc377 hm
     refine Kaa ?_
     refine KH ?_
     have e228 := K1 hm; subst e228; clear hm; have hm := hq228
     refine KH ?_
     refine K5 ?_
     have e227 := Kj hm; subst e227
     refine Kbj ?_
     exact WkX.of () (WkS.perm (WkS.nil) Pf Pf)
  ·intro y227 s227 hx227 hw227; subst hx227; clear hm; have hm := ho227; simp only [Sum.elim_inl] at hm; clear q227 ho227
   refine Kb ?_
   refine KV hw227 (fun z227 => ?_)
   refine Kh ?_
   refine pu ?_
   refine Ke ?_
   refine KE ?_
   have er451 := Kj hm; subst er451
   refine rP (t' := [(6, .v (.bool true))]) [] [] 0 (wC wN) (lT lN) ?_
   exact ⟨rfl, rfl, rfl⟩
noncomputable def KaV : Nat → ((List Kg) → (List Kg) → (Bool) → Option (Bool))
 | 0 => (fun _ _ _ => none)
 | n + 1 => (KbB ((KaV n)))
theorem KeR : ∀ n, (∀ (a0 : List Kg) (a1 : List Kg) (a2 : Bool) (r : Bool) (h0 : (KaV n) a0 a1 a2 = some r), CallsD Tryz.prog 91 [.lst 7 (a0.map Kr) .no, .lst 7 (a1.map Kr) .no, .v (.bool a2)] [] [] (fun d h k => d = .v (.bool r) ∧ h = [] ∧ k = []))
  | 0 => fun _ _ _ _ h0 => by cases h0
  | n + 1 => by
    have ih := KeR n
    exact KhB (KaV n) ih
theorem KeS : ∀ n, (∀ (a0 : List Kg) (a1 : List Kg) (a2 : Bool), Le ((KaV n) a0 a1 a2) ((KaV (n + 1)) a0 a1 a2))
  | 0 => fun _ _ _ => Le.none _
  | n + 1 => by
    have ih := KeS n
    exact fun a0 a1 a2 => by show Le (KbB ((KaV n)) a0 a1 a2) (KbB ((KaV (n + 1))) a0 a1 a2); unfold KbB; repeat (first | exact Le.refl _ | exact ih _ _ _ | assumption | (refine Le.bind ?_ (fun _ => ?_)) | (refine Le.cond ?_ ?_) | (refine Le.loop (fun _ => ?_)) | (refine Le.elim (fun _ => ?_) (fun _ => ?_)))
noncomputable def KdV (a0 : List Kg) (a1 : List Kg) (a2 : Bool) : Option (Bool) := anyN fun n => (KaV n) a0 a1 a2
theorem Kic (a0 : List Kg) (a1 : List Kg) (a2 : Bool) {r : Bool} (n : Nat) (h : (KaV n) a0 a1 a2 = some r) : KdV a0 a1 a2 = some r := Kdo (fun m => (KeS m) a0 a1 a2) h
theorem Kid (a0 : List Kg) (a1 : List Kg) (a2 : Bool) (r : Bool) (h0 : KdV a0 a1 a2 = some r) : CallsD Tryz.prog 91 [.lst 7 (a0.map Kr) .no, .lst 7 (a1.map Kr) .no, .v (.bool a2)] [] [] (fun d h k => d = .v (.bool r) ∧ h = [] ∧ k = []) :=
 let ⟨n, hn⟩ := KcO h0; (KeR n) a0 a1 a2  r hn
noncomputable def KcT (a0 : KQ) (a1 : KQ) (a2 : Bool) : Option (Bool) :=
 (bif (decide (a0.gName = a1.gName)) then ((KdM a0.gParams a1.gParams).bind fun x4 => (bif x4 then ((KdM a0.gLocals a1.gLocals).bind fun x6 => (bif x6 then ((KdV a0.gBody a1.gBody a2).bind fun x8 => (bif x8 then (bif (!a2) then some true else some (a0.gAt == a1.gAt)) else some false)) else some false)) else some false)) else some false)
theorem Kh1 (a0 : KQ) (a1 : KQ) (a2 : Bool) (r : Bool) (h0 : KcT a0 a1 a2 = some r) : CallsD Tryz.prog 72 [KA a0, KA a1, .v (.bool a2)] [] [] (fun d h k => d = .v (.bool r) ∧ h = [] ∧ k = []) := by
 have hm := KI h0
 unfold KcT at hm
 clear h0
 refine K3 htab Tryz.func72 rfl rfl rfl rfl rfl (fun C => ?_)
 refine Kh ?_
 refine p_box rfl rfl rfl rfl rfl rfl rfl (fun b1 => ?_)
 refine p_box rfl rfl rfl rfl rfl rfl rfl (fun b2 => ?_)
 refine pu ?_
 refine KP ?_
 refine pu ?_
 refine pL 0 ?_
 refine pu ?_
 refine pL 1 ?_
 refine pu ?_
 refine pu ?_
 refine KaE (i := 12) rfl (fun hg3 => ?_) (fun hg3 => ?_)
 ·replace hm := yes_t hg3 hm
  refine pu ?_
  refine pL 0 ?_
  refine pu ?_
  refine pL 1 ?_
  obtain ⟨x4, q4, hm⟩ := Kc hm
  refine Kaj (Kg5 a0.gParams a1.gParams x4 q4) rfl rfl rfl rfl rfl Wl ?_
  rintro _ rfl
  refine Kab rfl rfl rfl rfl rfl rfl ?_
  refine pu ?_
  refine KaE (i := 19) rfl (fun hg5 => ?_) (fun hg5 => ?_)
  ·replace hm := yes_t hg5 hm
   refine pu ?_
   refine pL 0 ?_
   refine pu ?_
   refine pL 1 ?_
   obtain ⟨x6, q6, hm⟩ := Kc hm
   refine Kaj (Kg5 a0.gLocals a1.gLocals x6 q6) rfl rfl rfl rfl rfl Wl ?_
   rintro _ rfl
   refine Kab rfl rfl rfl rfl rfl rfl ?_
   refine pu ?_
   refine KaE (i := 26) rfl (fun hg7 => ?_) (fun hg7 => ?_)
   ·replace hm := yes_t hg7 hm
    refine pu ?_
    refine pL 0 ?_
    refine pu ?_
    refine pL 1 ?_
    refine pu ?_
    obtain ⟨x8, q8, hm⟩ := Kc hm
    refine Kaj (Kid a0.gBody a1.gBody a2 x8 q8) rfl rfl rfl rfl rfl Wl ?_
    rintro _ rfl
    refine Kab rfl rfl rfl rfl rfl rfl ?_
    refine pu ?_
    refine KaE (i := 34) rfl (fun hg9 => ?_) (fun hg9 => ?_)
    ·replace hm := yes_t hg9 hm
     iterate 3 refine pu ?_
     refine KaE (i := 37) rfl (fun hg10 => ?_) (fun hg10 => ?_)
     ·replace hm := yes_t hg10 hm
      iterate 5 refine pK ?_
      refine Kab rfl rfl rfl rfl rfl rfl ?_
      refine Kab rfl rfl rfl rfl rfl rfl ?_
      refine pu ?_
      refine Ke ?_
      refine KE ?_
      have er11 := Kj hm; subst er11
      refine rP (t' := [(6, .v (.bool true))]) [] [] 0 (wC wN) (lT lN) ?_
      exact ⟨rfl, rfl, rfl⟩
     ·replace hm := yes_f hg10 hm
      refine pu ?_
      refine pL 0 ?_
      refine pu ?_
      refine pL 1 ?_
      refine pu ?_
      refine K9 rfl rfl rfl rfl rfl rfl ?_
      refine Kab rfl rfl rfl rfl rfl rfl ?_
      refine pu ?_
      refine Ke ?_
      refine KE ?_
      have er12 := Kj hm; subst er12
      refine rP (t' := [(6, .v (.bool (a0.gAt == a1.gAt)))]) [] [] 0 (wC wN) (lT lN) ?_
      exact ⟨rfl, rfl, rfl⟩
    ·replace hm := yes_f hg9 hm
     iterate 9 refine pK ?_
     refine K9 rfl rfl rfl rfl rfl rfl ?_
     refine pu ?_
     refine Ke ?_
     refine KE ?_
     have er13 := Kj hm; subst er13
     refine rP (t' := [(6, .v (.bool false))]) [] [] 0 (wC wN) (lT lN) ?_
     exact ⟨rfl, rfl, rfl⟩
   ·replace hm := yes_f hg7 hm
    iterate 6 refine pK ?_
    refine K9 rfl rfl rfl rfl rfl rfl ?_
    refine pu ?_
    iterate 9 refine pK ?_
    refine K9 rfl rfl rfl rfl rfl rfl ?_
    refine pu ?_
    refine Ke ?_
    refine KE ?_
    have er14 := Kj hm; subst er14
    refine rP (t' := [(6, .v (.bool false))]) [] [] 0 (wC wN) (lT lN) ?_
    exact ⟨rfl, rfl, rfl⟩
  ·replace hm := yes_f hg5 hm
   iterate 5 refine pK ?_
   refine K9 rfl rfl rfl rfl rfl rfl ?_
   refine pu ?_
   iterate 6 refine pK ?_
   refine K9 rfl rfl rfl rfl rfl rfl ?_
   refine pu ?_
   iterate 9 refine pK ?_
   refine K9 rfl rfl rfl rfl rfl rfl ?_
   refine pu ?_
   refine Ke ?_
   refine KE ?_
   have er15 := Kj hm; subst er15
   refine rP (t' := [(6, .v (.bool false))]) [] [] 0 (wC wN) (lT lN) ?_
   exact ⟨rfl, rfl, rfl⟩
 ·replace hm := yes_f hg3 hm
  iterate 5 refine pK ?_
  refine K9 rfl rfl rfl rfl rfl rfl ?_
  refine pu ?_
  iterate 5 refine pK ?_
  refine K9 rfl rfl rfl rfl rfl rfl ?_
  refine pu ?_
  iterate 6 refine pK ?_
  refine K9 rfl rfl rfl rfl rfl rfl ?_
  refine pu ?_
  iterate 9 refine pK ?_
  refine K9 rfl rfl rfl rfl rfl rfl ?_
  refine pu ?_
  refine Ke ?_
  refine KE ?_
  have er16 := Kj hm; subst er16
  refine rP (t' := [(6, .v (.bool false))]) [] [] 0 (wC wN) (lT lN) ?_
  exact ⟨rfl, rfl, rfl⟩
noncomputable def Kc6 (a0 : Kw) (a1 : ByteArray) : Option (Int) :=
 (Option.bind (α := (Unit) ⊕ (Int)) (loopM (fun (s16 : Int) => (bif (decide (s16 < (a0.gGlobals.length : Int))) then ((idx a0.gGlobals s16).bind fun x26 => (bif (decide (x26.gName = a1)) then some (.done (.inr s16)) else some (.next (IntKind.i64.wrap (s16 + (1 : Int)))))) else some (.done (.inl ())))) (0 : Int)) (Sum.elim (fun y15 => some (-1 : Int)) (fun r => some r)))
theorem Kf3 (a0 : Kw) (a1 : ByteArray) (r : Int) (h0 : Kc6 a0 a1 = some r) : CallsD Tryz.prog 73 [Ku a0, .v (.string a1)] [] [] (fun d h k => d = .v (.int .i64 r) ∧ h = [] ∧ k = []) := by
 have hm := KI h0
 unfold Kc6 at hm
 clear h0
 refine K3 htab Tryz.func73 rfl rfl rfl rfl rfl (fun C => ?_)
 refine Kh ?_
 refine p_box rfl rfl rfl rfl rfl rfl rfl (fun b1 => ?_)
 refine pu ?_
 refine Ke ?_
 refine Km ?_
 refine Kh ?_
 refine pu ?_
 refine Ke ?_
 obtain ⟨x15, q15, ho15⟩ := Kc hm
 refine Kbi (τ := Unit) (Y := Unit) (fun y15 z15 => (⟨[], [], []⟩ : S)) x15 ?_ ?_
 ·clear hm; have hm := KI q15
  refine KG ?_
  obtain ⟨u16, hl16, hq16⟩ := yes_m hm
  refine Kao (Y := Unit) hl16 (fun s16 z16 => (⟨[(1, .v (.string a1)), (2, .ptr b1 0), (5, .v (.int .i64 s16))], [(b1, Blk.cells [.lst 4 (a0.gGlobals.map KJ) .no, .lst 5 (a0.gFuncs.map KA) .no] 25)], []⟩ : S)) ?_ ?_
  ·skip
   exact WkX.of () (WkS.perm (WkS.cons rfl (Wk.refl _) (WkS.cons rfl (Wk.refl _) (WkS.cons rfl (Wk.refl _) (WkS.nil)))) Pf Pf)
  ·intro G16 s16 z16 hm
   refine Km ?_
   refine Kh ?_
   refine pu ?_
   refine pu ?_
   refine pL 0 ?_
   refine Kag htab rfl rfl rfl rfl rfl rfl rfl (by first | exact KY | rfl) ?_
   refine pu ?_
   refine Ke ?_
   refine KC rfl (fun hc25 => ?_) (fun hc25 => ?_)
   ·replace hm := yes_t hc25 hm
    refine KB ?_
    refine Kb ?_
    refine Km ?_
    refine KG ?_
    refine Kh ?_
    refine pu ?_
    refine pL 0 ?_
    refine pu ?_
    obtain ⟨x26, q26, hm⟩ := Kc hm
    refine Kad htab rfl rfl rfl rfl rfl rfl rfl rfl rfl rfl (Kd q26) (Kk q26) ?_
    refine pu ?_
    refine KW htab rfl rfl rfl rfl rfl rfl rfl rfl ?_
    refine pu ?_
    refine pu ?_
    refine Ke ?_
    refine KC rfl (fun hc27 => ?_) (fun hc27 => ?_)
    ·replace hm := yes_t hc27 hm
     refine Kh ?_
     refine pu ?_
     refine pu ?_
     refine Ke ?_
     refine KE ?_
     refine Kan ?_
     refine KS ?_
     have e16 := K1 hm; subst e16; clear hm; have hm := hq16
     refine KS ?_
     refine Kan ?_
     have e15 := Kj hm; subst e15; refine Kbk ?_; clear hm; have hm := ho15; simp only [Sum.elim_inr] at hm
     refine KS ?_
     have er28 := Kj hm; subst er28
     refine rP (t' := [(4, .v (.int .i64 s16))]) [] [] 0 (wC wN) (lT lN) ?_
     exact ⟨rfl, rfl, rfl⟩
    ·replace hm := yes_f hc27 hm
     refine KB ?_
     refine KM ?_
     refine Kb ?_
     refine Kt ?_
     iterate 3 refine pu ?_
     refine Kv ?_
     refine Kb ⟨_, K0 hm, ?_⟩
     exact WkX.of () (WkS.perm (WkS.cons rfl (Wk.refl _) (WkS.cons rfl (Wk.refl _) (WkS.cons rfl (Wk.refl _) (WkS.nil)))) Pf Pf)
   ·replace hm := yes_f hc25 hm
    refine Kaa ?_
    refine KH ?_
    have e16 := K1 hm; subst e16; clear hm; have hm := hq16
    refine KH ?_
    refine K5 ?_
    have e15 := Kj hm; subst e15
    refine Kbj ?_
    exact WkX.of () (WkS.perm (WkS.nil) Pf Pf)
 ·intro y15 s15 hx15 hw15; subst hx15; clear hm; have hm := ho15; simp only [Sum.elim_inl] at hm; clear q15 ho15
  refine Kb ?_
  refine KV hw15 (fun z15 => ?_)
  refine Kh ?_
  refine pu ?_
  refine Ke ?_
  refine KE ?_
  have er29 := Kj hm; subst er29
  refine rP (t' := [(4, .v (.int .i64 (-1 : Int)))]) [] [] 0 (wC wN) (lT lN) ?_
  exact ⟨rfl, rfl, rfl⟩
abbrev KhC : List (List Nat) := nlD [] [(0,[]),(0,[0]),(2,[1]),(3,[2]),(4,[3]),(5,[4]),(6,[5]),(7,[6]),(8,[7]),(8,[]),(9,[8,9]),(11,[10]),(8,[]),(8,[12]),(8,[]),(14,[13,14]),(16,[15]),(12,[11,12,13,14,15,16]),(18,[17]),(19,[18]),(20,[19])]
abbrev KfT : List (List Nat) := nlD [] [(0,[]),(0,[0]),(2,[1]),(3,[2]),(4,[3]),(5,[4]),(6,[5]),(7,[6]),(8,[7]),(8,[]),(9,[8,9]),(11,[10]),(12,[11]),(8,[]),(8,[13]),(8,[]),(15,[14,15]),(17,[16]),(18,[17]),(13,[12,13,14,15,16,17,18]),(20,[19]),(21,[20]),(22,[21]),(23,[22]),(23,[]),(24,[23,24]),(26,[25]),(27,[26]),(23,[]),(23,[28]),(23,[]),(30,[29,30]),(32,[31]),(33,[32]),(28,[27,28,29,30,31,32,33]),(35,[34]),(36,[35])]
abbrev nlSz1_21 : List (List Nat) := nlD [] [(0,[]),(0,[]),(0,[]),(0,[]),(0,[]),(0,[]),(0,[]),(0,[]),(0,[7]),(0,[]),(9,[8]),(11,[10]),(12,[11]),(0,[]),(0,[13]),(0,[]),(15,[14]),(17,[16]),(18,[17]),(13,[13,14,16,17]),(20,[]),(20,[]),(20,[]),(20,[]),(20,[]),(20,[]),(20,[]),(20,[]),(20,[]),(20,[]),(20,[]),(20,[]),(20,[]),(20,[])]
abbrev nlSz1_22 : List (List Nat) := nlD [] [(0,[]),(0,[]),(0,[]),(0,[]),(0,[]),(0,[]),(0,[]),(0,[]),(0,[7]),(0,[]),(9,[8]),(11,[10]),(12,[11]),(0,[]),(0,[13]),(0,[]),(15,[14]),(17,[16]),(18,[17]),(13,[13,14,16,17]),(20,[]),(20,[]),(20,[]),(20,[22]),(20,[]),(24,[23]),(26,[25]),(27,[26]),(20,[]),(20,[28]),(20,[]),(30,[29]),(32,[31]),(33,[32])]
noncomputable def KcU (a0 : Kw) (a1 : Kw) (a2 : ByteArray) (a3 : Bool) : Option (Bool) :=
 (bif a3 then ((KdL a0 a2).bind fun x12 => ((KdL a1 a2).bind fun x13 => (Option.bind (α := Bool) (bif (decide (x12 < (0 : Int))) then some true else (bif (decide (x13 < (0 : Int))) then some true else ((idx a0.gFuncs x12).bind fun x22 => ((idx a1.gFuncs x13).bind fun x23 => ((KcT x22 x23 false).bind fun x24 => some (!x24)))))) fun y19 => some y19))) else ((Kc6 a0 a2).bind fun x26 => ((Kc6 a1 a2).bind fun x27 => (bif (decide (x26 < (0 : Int))) then some true else (bif (decide (x27 < (0 : Int))) then some true else ((idx a0.gGlobals x26).bind fun x32 => ((idx a1.gGlobals x27).bind fun x33 => (bif (!(x32.gPtr == x33.gPtr)) then some true else ((idx a0.gGlobals x26).bind fun x36 => ((idx a1.gGlobals x27).bind fun x37 => some (x36.gSize != x37.gSize)))))))))))
theorem Ki7 (a0 : Kw) (a1 : Kw) (a2 : ByteArray) (a3 : Bool) (r : Bool) (h0 : KcU a0 a1 a2 a3 = some r) : CallsD Tryz.prog 46 [Ku a0, Ku a1, .v (.string a2), .v (.bool a3)] [] [] (fun d h k => d = .v (.bool r) ∧ h = [] ∧ k = []) := by
 have hm := KI h0
 unfold KcU at hm
 clear h0
 refine K3 htab Tryz.func46 rfl rfl rfl rfl rfl (fun C => ?_)
 refine Kh ?_
 refine p_box rfl rfl rfl rfl rfl rfl rfl (fun b1 => ?_)
 refine p_box rfl rfl rfl rfl rfl rfl rfl (fun b2 => ?_)
 refine pu ?_
 refine Ke ?_
 refine Km ?_
 refine Kh ?_
 refine pu ?_
 refine Ke ?_
 refine KC rfl (fun hc11 => ?_) (fun hc11 => ?_)
 ·replace hm := yes_t hc11 hm
  refine Km ?_
  obtain ⟨x12, q12, hm⟩ := Kc hm
  refine Kac 5 [] [[],[],[0],[],[]] [0,2,3] [[],[],[0,1],[],[],[0,1,2,3,4],[0,1,2,3,4,5],[0,1,2,3,4,5,6]] (by kernel_rfl) (by kernel_rfl) (by kernel_rfl) (by rfl) (by rfl) (by kernel_rfl) ?_
  iterate 3 apply Exists.intro
  intro bs
  refine z_eM rfl rfl (Kai (d := Ku a0) 0 htab rfl rfl rfl rfl rfl) rfl rfl rfl rfl rfl rfl ?_
  refine zqp ?_
  refine KbC rfl rfl (Kg4 a0 a2 x12 q12) rfl rfl Wl rfl rfl rfl rfl rfl rfl ?_
  refine z_eM rfl rfl (Kai (d := Ku a1) 1 htab rfl rfl rfl rfl rfl) rfl rfl rfl rfl rfl rfl ?_
  refine zqp ?_
  refine z_nil rfl rfl (fun e he => by simp [isAl] at he) ?_
  obtain ⟨x13, q13, hm⟩ := Kc hm
  refine Kaj (Kg4 a1 a2 x13 q13) rfl rfl rfl rfl rfl Wl ?_
  rintro _ rfl
  refine pu ?_
  refine pu ?_
  refine Ke ?_
  refine Km ?_
  obtain ⟨y19, q19, ho19⟩ := Kc hm
  refine Kah (Y := Unit) (fun z19 => (⟨[(8, .v (.bool y19))], [], []⟩ : S)) ?_ ?_
  ·clear hm; have hm := KI q19
   refine bycB (decide (x12 < (0 : Int))) (fun hs20 => ?_) (fun hs20 => ?_)
   ·replace hm := yes_t hs20 hm
    refine Kac 17 [] [[],[],[],[],[],[],[],[],[],[],[],[],[],[],[],[],[]] [] KhC (by kernel_rfl) (by kernel_rfl) (by kernel_rfl) (by rfl) (by rfl) (by kernel_rfl) ?_
    intro bs
    iterate 3 refine zqp ?_
    refine KO (j := 22) (b' := true) rfl hs20 ?_
    refine zK ?_
    refine zK ?_
    refine z_q rfl rfl (Kaz rfl rfl rfl) rfl rfl rfl rfl rfl rfl ?_
    refine zqp ?_
    iterate 10 refine zK ?_
    refine z_nil rfl rfl (fun e he => by simp [isAl] at he) ?_
    refine pK ?_
    refine pK ?_
    refine Kab rfl rfl rfl rfl rfl rfl ?_
    refine pu ?_
    refine Kv ?_
    have e19 := Kj hm; subst e19
    refine ⟨rfl, ?_⟩
    exact WkX.of () (WkS.perm (WkS.cons rfl (Wk.refl _) (WkS.nil)) Pf Pf)
   ·replace hm := yes_f hs20 hm
    refine bycB (decide (x13 < (0 : Int))) (fun hs21 => ?_) (fun hs21 => ?_)
    ·replace hm := yes_t hs21 hm
     refine Kac 17 [] [[],[],[],[],[],[],[],[],[],[],[],[],[],[],[],[],[]] [] KhC (by kernel_rfl) (by kernel_rfl) (by kernel_rfl) (by rfl) (by rfl) (by kernel_rfl) ?_
     intro bs
     iterate 3 refine zqp ?_
     refine KO (j := 22) (b' := false) rfl hs20 ?_
     refine zqp ?_
     refine zqp ?_
     refine z_q rfl rfl (K6 rfl rfl rfl) rfl rfl rfl rfl rfl rfl ?_
     refine zqp ?_
     refine KO (j := 26) (b' := true) rfl hs21 ?_
     iterate 10 refine zK ?_
     refine z_nil rfl rfl (fun e he => by simp [isAl] at he) ?_
     refine pK ?_
     refine pK ?_
     refine Kab rfl rfl rfl rfl rfl rfl ?_
     refine pu ?_
     refine Kv ?_
     have e19 := Kj hm; subst e19
     refine ⟨rfl, ?_⟩
     exact WkX.of () (WkS.perm (WkS.cons rfl (Wk.refl _) (WkS.nil)) Pf Pf)
    ·replace hm := yes_f hs21 hm
     obtain ⟨x22, q22, hm⟩ := Kc hm
     obtain ⟨x23, q23, hm⟩ := Kc hm
     refine Kac 17 [] [[],[],[],[],[],[],[],[],[7],[],[7,8],[7,8,10],[],[12],[],[12,13],[12,13,15]] [7,8,10,11,12,13,15,16] KhC (by kernel_rfl) (by kernel_rfl) (by kernel_rfl) (by rfl) (by rfl) (by kernel_rfl) ?_
     iterate 8 apply Exists.intro
     intro bs
     iterate 3 refine zqp ?_
     refine KO (j := 22) (b' := false) rfl hs20 ?_
     refine zqp ?_
     refine zqp ?_
     refine z_q rfl rfl (K6 rfl rfl rfl) rfl rfl rfl rfl rfl rfl ?_
     refine zqp ?_
     refine KO (j := 26) (b' := false) rfl hs21 ?_
     refine zep ?_
     refine z_eM rfl rfl (Kai 0 htab rfl rfl rfl rfl rfl) rfl rfl rfl rfl rfl rfl ?_
     refine zqp ?_
     refine z_e rfl rfl (Kz htab rfl rfl rfl rfl rfl rfl rfl (Kd q22) (Kk q22)) rfl rfl rfl rfl rfl rfl ?_
     refine z_eM rfl rfl (Ko (d := KA x22) htab rfl rfl rfl rfl rfl) rfl rfl rfl rfl rfl rfl ?_
     refine zep ?_
     refine z_eM rfl rfl (Kai 1 htab rfl rfl rfl rfl rfl) rfl rfl rfl rfl rfl rfl ?_
     refine zqp ?_
     refine z_e rfl rfl (Kz htab rfl rfl rfl rfl rfl rfl rfl (Kd q23) (Kk q23)) rfl rfl rfl rfl rfl rfl ?_
     refine z_eM rfl rfl (Ko (d := KA x23) htab rfl rfl rfl rfl rfl) rfl rfl rfl rfl rfl rfl ?_
     refine z_nil rfl rfl (fun e he => by simp [isAl] at he) ?_
     obtain ⟨x24, q24, hm⟩ := Kc hm
     refine Kaj (Kh1 x22 x23 false x24 q24) rfl rfl rfl rfl rfl Wl ?_
     rintro _ rfl
     refine pu ?_
     refine K9 rfl rfl rfl rfl rfl rfl ?_
     refine pu ?_
     refine Kv ?_
     have e19 := Kj hm; subst e19
     refine ⟨rfl, ?_⟩
     exact WkX.of () (WkS.perm (WkS.cons rfl (Wk.refl _) (WkS.nil)) Pf Pf)
  ·intro s19 hw19; clear hm; have hm := ho19; clear q19 ho19
   refine Kb ?_
   refine KV hw19 (fun z19 => ?_)
   refine KE ?_
   refine KS ?_
   have er25 := Kj hm; subst er25
   refine rP (t' := [(8, .v (.bool y19))]) [] [] 0 (wC wN) (lT lN) ?_
   exact ⟨rfl, rfl, rfl⟩
 ·replace hm := yes_f hc11 hm
  refine KB ?_
  refine Kb ?_
  refine Km ?_
  obtain ⟨x26, q26, hm⟩ := Kc hm
  refine Kac 5 [] [[],[],[0],[],[]] [0,2,3] [[],[],[0,1],[],[],[0,1,2,3,4],[0,1,2,3,4,5],[0,1,2,3,4,5,6]] (by kernel_rfl) (by kernel_rfl) (by kernel_rfl) (by rfl) (by rfl) (by kernel_rfl) ?_
  iterate 3 apply Exists.intro
  intro bs
  refine z_eM rfl rfl (Kai (d := Ku a0) 0 htab rfl rfl rfl rfl rfl) rfl rfl rfl rfl rfl rfl ?_
  refine zqp ?_
  refine KbC rfl rfl (Kf3 a0 a2 x26 q26) rfl rfl Wl rfl rfl rfl rfl rfl rfl ?_
  refine z_eM rfl rfl (Kai (d := Ku a1) 1 htab rfl rfl rfl rfl rfl) rfl rfl rfl rfl rfl rfl ?_
  refine zqp ?_
  refine z_nil rfl rfl (fun e he => by simp [isAl] at he) ?_
  obtain ⟨x27, q27, hm⟩ := Kc hm
  refine Kaj (Kf3 a1 a2 x27 q27) rfl rfl rfl rfl rfl Wl ?_
  rintro _ rfl
  refine pu ?_
  refine pu ?_
  refine Ke ?_
  refine Km ?_
  refine bycB (decide (x26 < (0 : Int))) (fun hs28 => ?_) (fun hs28 => ?_)
  ·replace hm := yes_t hs28 hm
   refine Kac 34 [] [[],[],[],[],[],[],[],[],[],[],[],[],[],[],[],[],[],[],[],[],[],[],[],[],[],[],[],[],[],[],[],[],[],[]] [] KfT (by kernel_rfl) (by kernel_rfl) (by kernel_rfl) (by rfl) (by rfl) (by kernel_rfl) ?_
   intro bs
   iterate 3 refine zqp ?_
   refine KO (j := 48) (b' := true) rfl hs28 ?_
   refine zK ?_
   refine zK ?_
   refine z_q rfl rfl (Kaz rfl rfl rfl) rfl rfl rfl rfl rfl rfl ?_
   refine zqp ?_
   iterate 13 refine zK ?_
   refine z_q rfl rfl (Kaz rfl rfl rfl) rfl rfl rfl rfl rfl rfl ?_
   refine zqp ?_
   iterate 12 refine zK ?_
   refine z_nil rfl rfl (fun e he => by simp [isAl] at he) ?_
   refine pK ?_
   refine Kab rfl rfl rfl rfl rfl rfl ?_
   refine pu ?_
   refine Ke ?_
   refine KE ?_
   have er29 := Kj hm; subst er29
   refine rP (t' := [(8, .v (.bool true))]) [] [] 0 (wC wN) (lT lN) ?_
   exact ⟨rfl, rfl, rfl⟩
  ·replace hm := yes_f hs28 hm
   refine bycB (decide (x27 < (0 : Int))) (fun hs30 => ?_) (fun hs30 => ?_)
   ·replace hm := yes_t hs30 hm
    refine Kac 34 [] [[],[],[],[],[],[],[],[],[],[],[],[],[],[],[],[],[],[],[],[],[],[],[],[],[],[],[],[],[],[],[],[],[],[]] [] KfT (by kernel_rfl) (by kernel_rfl) (by kernel_rfl) (by rfl) (by rfl) (by kernel_rfl) ?_
    intro bs
    iterate 3 refine zqp ?_
    refine KO (j := 48) (b' := false) rfl hs28 ?_
    refine zqp ?_
    refine zqp ?_
    refine z_q rfl rfl (K6 rfl rfl rfl) rfl rfl rfl rfl rfl rfl ?_
    refine zqp ?_
    refine KO (j := 52) (b' := true) rfl hs30 ?_
    iterate 13 refine zK ?_
    refine z_q rfl rfl (Kaz rfl rfl rfl) rfl rfl rfl rfl rfl rfl ?_
    refine zqp ?_
    iterate 12 refine zK ?_
    refine z_nil rfl rfl (fun e he => by simp [isAl] at he) ?_
    refine pK ?_
    refine Kab rfl rfl rfl rfl rfl rfl ?_
    refine pu ?_
    refine Ke ?_
    refine KE ?_
    have er31 := Kj hm; subst er31
    refine rP (t' := [(8, .v (.bool true))]) [] [] 0 (wC wN) (lT lN) ?_
    exact ⟨rfl, rfl, rfl⟩
   ·replace hm := yes_f hs30 hm
    obtain ⟨x32, q32, hm⟩ := Kc hm
    obtain ⟨x33, q33, hm⟩ := Kc hm
    refine bycB (!(x32.gPtr == x33.gPtr)) (fun hs34 => ?_) (fun hs34 => ?_)
    ·replace hm := yes_t hs34 hm
     refine Kac 34 [] nlSz1_21 [7,8,10,11,13,14,16,17] KfT (by kernel_rfl) (by kernel_rfl) (by kernel_rfl) (by rfl) (by rfl) (by kernel_rfl) ?_
     iterate 8 apply Exists.intro
     intro bs
     iterate 3 refine zqp ?_
     refine KO (j := 48) (b' := false) rfl hs28 ?_
     refine zqp ?_
     refine zqp ?_
     refine z_q rfl rfl (K6 rfl rfl rfl) rfl rfl rfl rfl rfl rfl ?_
     refine zqp ?_
     refine KO (j := 52) (b' := false) rfl hs30 ?_
     refine zep ?_
     refine z_eM rfl rfl (Kai 0 htab rfl rfl rfl rfl rfl) rfl rfl rfl rfl rfl rfl ?_
     refine zqp ?_
     refine z_e rfl rfl (Kz htab rfl rfl rfl rfl rfl rfl rfl (Kd q32) (Kk q32)) rfl rfl rfl rfl rfl rfl ?_
     refine zep ?_
     refine z_qM rfl rfl (Ko htab rfl rfl rfl rfl rfl) rfl rfl rfl rfl rfl rfl ?_
     refine zep ?_
     refine z_eM rfl rfl (Kai 1 htab rfl rfl rfl rfl rfl) rfl rfl rfl rfl rfl rfl ?_
     refine zqp ?_
     refine z_e rfl rfl (Kz htab rfl rfl rfl rfl rfl rfl rfl (Kd q33) (Kk q33)) rfl rfl rfl rfl rfl rfl ?_
     refine zep ?_
     refine z_qM rfl rfl (Ko htab rfl rfl rfl rfl rfl) rfl rfl rfl rfl rfl rfl ?_
     refine zqp ?_
     refine z_q rfl rfl (K6 rfl rfl rfl) rfl rfl rfl rfl rfl rfl ?_
     refine zqp ?_
     refine KO (j := 67) (b' := true) rfl hs34 ?_
     iterate 12 refine zK ?_
     refine z_nil rfl rfl (fun e he => by simp [isAl] at he) ?_
     refine pK ?_
     refine Kab rfl rfl rfl rfl rfl rfl ?_
     refine pu ?_
     refine Ke ?_
     refine KE ?_
     have er35 := Kj hm; subst er35
     refine rP (t' := [(8, .v (.bool true))]) [] [] 0 (wC wN) (lT lN) ?_
     exact ⟨rfl, rfl, rfl⟩
    ·replace hm := yes_f hs34 hm
     obtain ⟨x36, q36, hm⟩ := Kc hm
     obtain ⟨x37, q37, hm⟩ := Kc hm
     refine Kac 34 [] nlSz1_22 [7,8,10,11,13,14,16,17,22,23,25,26,28,29,31,32] KfT (by kernel_rfl) (by kernel_rfl) (by kernel_rfl) (by rfl) (by rfl) (by kernel_rfl) ?_
     iterate 16 apply Exists.intro
     intro bs
     iterate 3 refine zqp ?_
     refine KO (j := 48) (b' := false) rfl hs28 ?_
     refine zqp ?_
     refine zqp ?_
     refine z_q rfl rfl (K6 rfl rfl rfl) rfl rfl rfl rfl rfl rfl ?_
     refine zqp ?_
     refine KO (j := 52) (b' := false) rfl hs30 ?_
     refine zep ?_
     refine z_eM rfl rfl (Kai 0 htab rfl rfl rfl rfl rfl) rfl rfl rfl rfl rfl rfl ?_
     refine zqp ?_
     refine z_e rfl rfl (Kz htab rfl rfl rfl rfl rfl rfl rfl (Kd q32) (Kk q32)) rfl rfl rfl rfl rfl rfl ?_
     refine zep ?_
     refine z_qM rfl rfl (Ko htab rfl rfl rfl rfl rfl) rfl rfl rfl rfl rfl rfl ?_
     refine zep ?_
     refine z_eM rfl rfl (Kai 1 htab rfl rfl rfl rfl rfl) rfl rfl rfl rfl rfl rfl ?_
     refine zqp ?_
     refine z_e rfl rfl (Kz htab rfl rfl rfl rfl rfl rfl rfl (Kd q33) (Kk q33)) rfl rfl rfl rfl rfl rfl ?_
     refine zep ?_
     refine z_qM rfl rfl (Ko htab rfl rfl rfl rfl rfl) rfl rfl rfl rfl rfl rfl ?_
     refine zqp ?_
     refine z_q rfl rfl (K6 rfl rfl rfl) rfl rfl rfl rfl rfl rfl ?_
     refine zqp ?_
     refine KO (j := 67) (b' := false) rfl hs34 ?_
     refine zep ?_
     refine z_eM rfl rfl (Kai 0 htab rfl rfl rfl rfl rfl) rfl rfl rfl rfl rfl rfl ?_
     refine zqp ?_
     refine z_e rfl rfl (Kz htab rfl rfl rfl rfl rfl rfl rfl (Kd q36) (Kk q36)) rfl rfl rfl rfl rfl rfl ?_
     refine zep ?_
     refine z_qM rfl rfl (Ko htab rfl rfl rfl rfl rfl) rfl rfl rfl rfl rfl rfl ?_
     refine zep ?_
     refine z_eM rfl rfl (Kai 1 htab rfl rfl rfl rfl rfl) rfl rfl rfl rfl rfl rfl ?_
     refine zqp ?_
     refine z_e rfl rfl (Kz htab rfl rfl rfl rfl rfl rfl rfl (Kd q37) (Kk q37)) rfl rfl rfl rfl rfl rfl ?_
     refine zep ?_
     refine z_qM rfl rfl (Ko htab rfl rfl rfl rfl rfl) rfl rfl rfl rfl rfl rfl ?_
     refine z_nil rfl rfl (fun e he => by simp [isAl] at he) ?_
     refine pu ?_
     refine K9 rfl rfl rfl rfl rfl rfl ?_
     refine pu ?_
     refine Ke ?_
     refine KE ?_
     have er38 := Kj hm; subst er38
     refine rP (t' := [(8, .v (.bool (x36.gSize != x37.gSize)))]) [] [] 0 (wC wN) (lT lN) ?_
     exact ⟨rfl, rfl, rfl⟩
end Go.Proofs.YtnfkijcmakgkmaaGreat.Ab
namespace Go.Proofs.YtnfkijcmakgkmaaGreat.Ab
open Go
set_option linter.all false
noncomputable def KdN (a0 : List ByteArray) (a1 : ByteArray) : Option (List ByteArray) :=
 (Option.bind (α := List ByteArray × Bool) (loopM (fun (s64 : List ByteArray × Bool × Int) => (bif (decide (s64.2.2 < (a0.length : Int))) then (bif (!s64.2.1) then ((idx a0 s64.2.2).bind fun x107 => (Option.bind (α := List ByteArray × Bool) (bif (ltB a1 x107 || a1.toList == x107.toList) then ((idx a0 s64.2.2).bind fun x114 => (Option.bind (α := List ByteArray) (bif (ltB a1 x114) then ((app 16 s64.1 ([a1] : List ByteArray)).bind fun x119 => some x119) else some s64.1) fun y117 => some (y117, true))) else some (s64.1, s64.2.1)) fun y112 => ((idx a0 s64.2.2).bind fun x120 => ((app 16 y112.1 ([x120] : List ByteArray)).bind fun x121 => some (.next (x121, y112.2, (IntKind.i64.wrap (s64.2.2 + (1 : Int))))))))) else ((idx a0 s64.2.2).bind fun x122 => ((app 16 s64.1 ([x122] : List ByteArray)).bind fun x123 => some (.next (x123, s64.2.1, (IntKind.i64.wrap (s64.2.2 + (1 : Int)))))))) else some (.done (s64.1, s64.2.1)))) (([] : List ByteArray), false, (0 : Int))) fun y63 => (bif (!y63.2) then ((app 16 y63.1 ([a1] : List ByteArray)).bind fun x125 => some x125) else some y63.1))
theorem Kh2 (a0 : List ByteArray) (a1 : ByteArray) (r : List ByteArray) (h0 : KdN a0 a1 = some r) : CallsD Tryz.prog 44 [.lst 1 (a0.map eStr) .no, .v (.string a1)] [] [] (fun d h k => ∃ y0, d = .lst 1 (r.map eStr) (.cur y0) ∧ h = [] ∧ k = [(1, y0)]) := by
 have hm := KI h0
 unfold KdN at hm
 clear h0
 refine K3 htab Tryz.func44 rfl rfl rfl rfl rfl (fun C => ?_)
 refine Kh ?_
 refine pu ?_
 refine KP ?_
 refine pu ?_
 refine KP ?_
 refine pu ?_
 refine Ke ?_
 refine Km ?_
 refine Kh ?_
 refine pu ?_
 refine Ke ?_
 obtain ⟨y63, q63, ho63⟩ := Kc hm
 refine Kah (Y := Value) (fun z63 => (⟨[(1, .v (.string a1)), (5, .lst 1 (y63.1.map eStr) (.cur z63)), (6, .v (.bool y63.2))], [], [(1, z63)]⟩ : S)) ?_ ?_
 ·clear hm; have hm := KI q63
  refine KG ?_
  obtain ⟨u64, hl64, hq64⟩ := yes_m hm
  refine Kao (Y := Value) hl64 (fun s64 z64 => (⟨[(0, .lst 1 (a0.map eStr) .no), (1, .v (.string a1)), (5, .lst 1 (s64.1.map eStr) (.cur z64)), (6, .v (.bool s64.2.1)), (7, .v (.int .i64 s64.2.2))], [], [(1, z64)]⟩ : S)) ?_ ?_
  ·skip
   refine WkX.tokN (i := 5) 1 rfl (fun w104 => ?_)
   exact WkX.of w104 (WkS.perm (WkS.cons rfl (Wk.refl _) (WkS.cons rfl (Wk.refl _) (WkS.cons rfl (Wk.refl _) (WkS.cons rfl (Wk.refl _) (WkS.cons rfl (Wk.refl _) (WkS.nil)))))) Pf Pf)
  ·intro G64 s64 z64 hm
   refine Km ?_
   refine Kh ?_
   refine pu ?_
   refine pu ?_
   refine Kag htab rfl rfl rfl rfl rfl rfl rfl (by first | exact KY | rfl) ?_
   refine pu ?_
   refine Ke ?_
   refine KC rfl (fun hc105 => ?_) (fun hc105 => ?_)
   ·replace hm := yes_t hc105 hm
    refine KB ?_
    refine Kb ?_
    refine Km ?_
    refine KG ?_
    refine Km ?_
    refine Kh ?_
    iterate 3 refine pu ?_
    refine KaE (i := 16) rfl (fun hg106 => ?_) (fun hg106 => ?_)
    ·replace hm := yes_t hg106 hm
     iterate 3 refine pu ?_
     obtain ⟨x107, q107, hm⟩ := Kc hm
     refine Kad htab rfl rfl rfl rfl rfl rfl rfl rfl rfl rfl (Kd q107) (Kk q107) ?_
     refine KW htab rfl rfl rfl rfl rfl rfl rfl rfl ?_
     refine p_ltS rfl rfl rfl rfl rfl rfl rfl ?_
     refine Kab rfl rfl rfl rfl rfl rfl ?_
     refine Ke ?_
     obtain ⟨y112, q112, ho112⟩ := Kc hm
     refine Kah (Y := Value) (fun z112 => (⟨[(0, .lst 1 (a0.map eStr) .no), (1, .v (.string a1)), (5, .lst 1 (y112.1.map eStr) (.cur z112)), (6, .v (.bool y112.2)), (7, .v (.int .i64 s64.2.2))], [], [(1, z112)]⟩ : S)) ?_ ?_
     ·clear hm; have hm := KI q112
      refine KC rfl (fun hc113 => ?_) (fun hc113 => ?_)
      ·replace hm := yes_t hc113 hm
       refine Km ?_
       refine Kh ?_
       iterate 3 refine pu ?_
       obtain ⟨x114, q114, hm⟩ := Kc hm
       refine Kad htab rfl rfl rfl rfl rfl rfl rfl rfl rfl rfl (Kd q114) (Kk q114) ?_
       refine KW htab rfl rfl rfl rfl rfl rfl rfl rfl ?_
       refine p_ltS rfl rfl rfl rfl rfl rfl rfl ?_
       refine Ke ?_
       obtain ⟨y117, q117, ho117⟩ := Kc hm
       refine Kah (Y := Value) (fun z117 => (⟨[(0, .lst 1 (a0.map eStr) .no), (1, .v (.string a1)), (5, .lst 1 (y117.map eStr) (.cur z117)), (7, .v (.int .i64 s64.2.2))], [], [(1, z117)]⟩ : S)) ?_ ?_
       ·clear hm; have hm := KI q117
        refine KC rfl (fun hc118 => ?_) (fun hc118 => ?_)
        ·replace hm := yes_t hc118 hm
         refine Kt ?_
         refine pu ?_
         refine pu ?_
         refine p_lit htab rfl rfl rfl rfl rfl rfl rfl rfl rfl rfl rfl rfl rfl rfl ?_
         refine p_eq (i := 32) (d' := .lst 1 (([a1] : List ByteArray).map eStr) .full) rfl (Wk.lst0 (.cons (WkC.refl _) (.nil))) ?_
         obtain ⟨x119, q119, hm⟩ := Kc hm
         refine Ka4 0 htab rfl rfl rfl rfl rfl rfl rfl rfl rfl rfl rfl rfl rfl rfl rfl rfl rfl (Kal q119) (fun v119 => ?_)
         refine Ka5 (i := 33) q119 rfl ?_
         refine pu ?_
         refine Kv ?_
         have e117 := Kj hm; subst e117
         refine ⟨rfl, ?_⟩
         exact WkX.of v119 (WkS.perm (WkS.cons rfl (Wk.refl _) (WkS.cons rfl (Wk.refl _) (WkS.cons rfl (Wk.refl _) (WkS.cons rfl (Wk.refl _) (WkS.nil))))) Pf Pf)
        ·replace hm := yes_f hc118 hm
         refine KB ?_
         have e117 := Kj hm; subst e117
         refine ⟨rfl, ?_⟩
         exact WkX.of z64 (WkS.perm (WkS.cons rfl (Wk.refl _) (WkS.cons rfl (Wk.refl _) (WkS.cons rfl (Wk.refl _) (WkS.cons rfl (Wk.refl _) (WkS.nil))))) Pf Pf)
       ·intro s117 hw117; clear hm; have hm := ho117; clear q117 ho117
        refine Kb ?_
        refine KV hw117 (fun z117 => ?_)
        refine Kt ?_
        refine pu ?_
        refine Kv ?_
        have e112 := Kj hm; subst e112
        refine ⟨rfl, ?_⟩
        exact WkX.of z117 (WkS.perm (WkS.cons rfl (Wk.refl _) (WkS.cons rfl (Wk.refl _) (WkS.cons rfl (Wk.refl _) (WkS.cons rfl (Wk.refl _) (WkS.cons rfl (Wk.refl _) (WkS.nil)))))) Pf Pf)
      ·replace hm := yes_f hc113 hm
       refine KB ?_
       have e112 := Kj hm; subst e112
       refine ⟨rfl, ?_⟩
       exact WkX.of z64 (WkS.perm (WkS.cons rfl (Wk.refl _) (WkS.cons rfl (Wk.refl _) (WkS.cons rfl (Wk.refl _) (WkS.cons rfl (Wk.refl _) (WkS.cons rfl (Wk.refl _) (WkS.nil)))))) Pf Pf)
     ·intro s112 hw112; clear hm; have hm := ho112; clear q112 ho112
      refine Kb ?_
      refine KV hw112 (fun z112 => ?_)
      refine Kt ?_
      iterate 3 refine pu ?_
      obtain ⟨x120, q120, hm⟩ := Kc hm
      refine Kad htab rfl rfl rfl rfl rfl rfl rfl rfl rfl rfl (Kd q120) (Kk q120) ?_
      refine KW htab rfl rfl rfl rfl rfl rfl rfl rfl ?_
      refine p_lit htab rfl rfl rfl rfl rfl rfl rfl rfl rfl rfl rfl rfl rfl rfl ?_
      refine p_eq (i := 39) (d' := .lst 1 (([x120] : List ByteArray).map eStr) .full) rfl (Wk.lst0 (.cons (WkC.refl _) (.nil))) ?_
      obtain ⟨x121, q121, hm⟩ := Kc hm
      refine Ka4 0 htab rfl rfl rfl rfl rfl rfl rfl rfl rfl rfl rfl rfl rfl rfl rfl rfl rfl (Kal q121) (fun v121 => ?_)
      refine Ka5 (i := 40) q121 rfl ?_
      refine pu ?_
      refine Kv ?_
      refine KM ?_
      refine Kb ?_
      refine Kt ?_
      iterate 3 refine pu ?_
      refine Kv ?_
      refine Kb ⟨_, K0 hm, ?_⟩
      exact WkX.of v121 (WkS.perm (WkS.cons rfl (Wk.refl _) (WkS.cons rfl (Wk.refl _) (WkS.cons rfl (Wk.refl _) (WkS.cons rfl (Wk.refl _) (WkS.cons rfl (Wk.refl _) (WkS.nil)))))) Pf Pf)
    ·replace hm := yes_f hg106 hm
     iterate 6 refine pK ?_
     refine K9 rfl rfl rfl rfl rfl rfl ?_
     refine Ke ?_
     refine Kim rfl ?_
     refine KB ?_
     refine Kb ?_
     refine Kt ?_
     iterate 3 refine pu ?_
     obtain ⟨x122, q122, hm⟩ := Kc hm
     refine Kad htab rfl rfl rfl rfl rfl rfl rfl rfl rfl rfl (Kd q122) (Kk q122) ?_
     refine KW htab rfl rfl rfl rfl rfl rfl rfl rfl ?_
     refine p_lit htab rfl rfl rfl rfl rfl rfl rfl rfl rfl rfl rfl rfl rfl rfl ?_
     refine p_eq (i := 39) (d' := .lst 1 (([x122] : List ByteArray).map eStr) .full) rfl (Wk.lst0 (.cons (WkC.refl _) (.nil))) ?_
     obtain ⟨x123, q123, hm⟩ := Kc hm
     refine Ka4 0 htab rfl rfl rfl rfl rfl rfl rfl rfl rfl rfl rfl rfl rfl rfl rfl rfl rfl (Kal q123) (fun v123 => ?_)
     refine Ka5 (i := 40) q123 rfl ?_
     refine pu ?_
     refine Kv ?_
     refine KM ?_
     refine Kb ?_
     refine Kt ?_
     iterate 3 refine pu ?_
     refine Kv ?_
     refine Kb ⟨_, K0 hm, ?_⟩
     exact WkX.of v123 (WkS.perm (WkS.cons rfl (Wk.refl _) (WkS.cons rfl (Wk.refl _) (WkS.cons rfl (Wk.refl _) (WkS.cons rfl (Wk.refl _) (WkS.cons rfl (Wk.refl _) (WkS.nil)))))) Pf Pf)
   ·replace hm := yes_f hc105 hm
    refine Kaa ?_
    refine KH ?_
    have e64 := K1 hm; subst e64; clear hm; have hm := hq64
    refine KH ?_
    refine K5 ?_
    have e63 := Kj hm; subst e63
    refine ⟨rfl, ?_⟩
    exact WkX.of z64 (WkS.perm (WkS.cons rfl (Wk.refl _) (WkS.cons rfl (Wk.refl _) (WkS.cons rfl (Wk.refl _) (WkS.nil)))) Pf Pf)
 ·intro s63 hw63; clear hm; have hm := ho63; clear q63 ho63
  refine Kb ?_
  refine KV hw63 (fun z63 => ?_)
  refine Km ?_
  refine Kh ?_
  refine pu ?_
  refine pu ?_
  refine Ke ?_
  refine KC rfl (fun hc124 => ?_) (fun hc124 => ?_)
  ·replace hm := yes_t hc124 hm
   refine Kt ?_
   refine pu ?_
   refine pu ?_
   refine p_lit htab rfl rfl rfl rfl rfl rfl rfl rfl rfl rfl rfl rfl rfl rfl ?_
   refine p_eq (i := 45) (d' := .lst 1 (([a1] : List ByteArray).map eStr) .full) rfl (Wk.lst0 (.cons (WkC.refl _) (.nil))) ?_
   obtain ⟨x125, q125, hm⟩ := Kc hm
   refine Ka4 0 htab rfl rfl rfl rfl rfl rfl rfl rfl rfl rfl rfl rfl rfl rfl rfl rfl rfl (Kal q125) (fun v125 => ?_)
   refine Ka5 (i := 46) q125 rfl ?_
   refine pu ?_
   refine KP ?_
   refine pu ?_
   refine pu ?_
   refine Ke ?_
   refine KE ?_
   have er126 := Kj hm; subst er126
   refine rP (t' := [(4, .lst 1 (x125.map eStr) (.cur v125))]) [] [0] 0 (wC wN) (lT lN) ?_
   exact ⟨v125, rfl, rfl, rfl⟩
  ·replace hm := yes_f hc124 hm
   refine KB ?_
   refine Kb ?_
   refine Kh ?_
   refine pu ?_
   refine pu ?_
   refine Ke ?_
   refine KE ?_
   have er127 := Kj hm; subst er127
   refine rP (t' := [(4, .lst 1 (y63.1.map eStr) (.cur z63))]) [] [0] 0 (wC wN) (lT lN) ?_
   exact ⟨z63, rfl, rfl, rfl⟩
noncomputable def KeT (a0 : Kw) (a1 : Kw) (a2 : Bool) : Option (List ByteArray) :=
 ((Kes a0 a2).bind fun x4 => ((Kes a1 a2).bind fun x10 => ((app 16 x4 x10).bind fun x11 => (Option.bind (α := List ByteArray) (loopM (fun (s39 : List ByteArray × Int) => (bif (decide (s39.2 < (x11.length : Int))) then ((idx x11 s39.2).bind fun x58 => ((KcU a0 a1 x58 a2).bind fun x59 => (bif x59 then ((idx x11 s39.2).bind fun x61 => ((KdN s39.1 x61).bind fun x63 => some (.next (x63, (IntKind.i64.wrap (s39.2 + (1 : Int))))))) else some (.next (s39.1, (IntKind.i64.wrap (s39.2 + (1 : Int)))))))) else some (.done s39.1))) (([] : List ByteArray), (0 : Int))) fun y38 => some y38))))
theorem Kgm (a0 : Kw) (a1 : Kw) (a2 : Bool) (r : List ByteArray) (h0 : KeT a0 a1 a2 = some r) : CallsD Tryz.prog 24 [Ku a0, Ku a1, .v (.bool a2)] [] [] (fun d h k => ∃ y0, d = .lst 1 (r.map eStr) (.cur y0) ∧ h = [] ∧ k = [(1, y0)]) := by
 have hm := KI h0
 unfold KeT at hm
 clear h0
 refine K3 htab Tryz.func24 rfl rfl rfl rfl rfl (fun C => ?_)
 refine Kh ?_
 refine p_box rfl rfl rfl rfl rfl rfl rfl (fun b1 => ?_)
 refine p_box rfl rfl rfl rfl rfl rfl rfl (fun b2 => ?_)
 refine pu ?_
 refine KP ?_
 refine pu ?_
 refine Ke ?_
 refine Km ?_
 obtain ⟨x4, q4, hm⟩ := Kc hm
 refine KfH 5 [] [(2, 1)] [[],[],[0],[],[]] [0,2,3] [[],[],[0,1],[],[],[0,1,2,3,4],[0,1,2,3,4,5],[0,1,2,3,4,5,6]] (by kernel_rfl) (by kernel_rfl) (by kernel_rfl) (by rfl) (by rfl) (by kernel_rfl) ?_
 iterate 3 apply Exists.intro
 intro bs
 refine zt_eM rfl rfl (Kai (d := Ku a0) 0 htab rfl rfl rfl rfl rfl) rfl rfl rfl rfl rfl rfl rfl ?_
 refine zt_q rfl rfl (Kfm htab rfl) rfl rfl rfl rfl rfl rfl ?_
 refine Khm rfl rfl (Kh0 a0 a2 x4 q4) rfl rfl Wl rfl rfl rfl rfl rfl (by simp) (by decide) rfl ?_
 refine zt_eM rfl rfl (Kai (d := Ku a1) 1 htab rfl rfl rfl rfl rfl) rfl rfl rfl rfl rfl rfl rfl ?_
 refine zt_q rfl rfl (Kfm htab rfl) rfl rfl rfl rfl rfl rfl ?_
 refine zt_nil (k' := [(1, (bs 2))]) rfl (fun e he => by simp [isT] at he; subst he; rfl) rfl rfl (fun e he => by simp [isAl] at he) ?_
 obtain ⟨w8, hw8⟩ : ∃ y, bs 2 = y := ⟨_, rfl⟩
 simp only [hw8]
 clear hw8
 obtain ⟨x10, q10, hm⟩ := Kc hm
 refine pG (Kh0 a1 a2 x10 q10) Wl Pf Pf ?_
 rintro _ _ _ ⟨w9, rfl, rfl, rfl⟩
 obtain ⟨x11, q11, hm⟩ := Kc hm
 refine Ka4 1 htab rfl rfl rfl rfl rfl rfl rfl rfl rfl rfl rfl rfl rfl rfl rfl rfl rfl (Kal q11) (fun v11 => ?_)
 refine Ka5 (i := 16) q11 rfl ?_
 refine pu ?_
 refine Ke ?_
 refine Km ?_
 refine Kh ?_
 refine pu ?_
 refine Ke ?_
 obtain ⟨y38, q38, ho38⟩ := Kc hm
 refine Kah (Y := Value) (fun z38 => (⟨[(7, .lst 1 (y38.map eStr) (.cur z38))], [], [(1, z38)]⟩ : S)) ?_ ?_
 ·clear hm; have hm := KI q38
  refine KG ?_
  obtain ⟨u39, hl39, hq39⟩ := yes_m hm
  refine Kao (Y := Value) hl39 (fun s39 z39 => (⟨[(2, .v (.bool a2)), (3, .ptr b1 0), (4, .ptr b2 0), (7, .lst 1 (s39.1.map eStr) (.cur z39)), (8, .lst 1 (x11.map eStr) (.cur v11)), (9, .v (.int .i64 s39.2))], [(b1, Blk.cells [.lst 4 (a0.gGlobals.map KJ) .no, .lst 5 (a0.gFuncs.map KA) .no] 25), (b2, Blk.cells [.lst 4 (a1.gGlobals.map KJ) .no, .lst 5 (a1.gFuncs.map KA) .no] 25)], [(1, z39), (1, v11)]⟩ : S)) ?_ ?_
  ·skip
   refine WkX.tokN (i := 7) 1 rfl (fun w56 => ?_)
   exact WkX.of w56 (WkS.perm (WkS.cons rfl (Wk.refl _) (WkS.cons rfl (Wk.refl _) (WkS.cons rfl (Wk.refl _) (WkS.cons rfl (Wk.refl _) (WkS.cons rfl (Wk.refl _) (WkS.cons rfl (Wk.refl _) (WkS.nil))))))) Pf Pf)
  ·intro G39 s39 z39 hm
   refine Km ?_
   refine Kh ?_
   refine pu ?_
   refine pu ?_
   refine Kag htab rfl rfl rfl rfl rfl rfl rfl (by first | exact KY | rfl) ?_
   refine pu ?_
   refine Ke ?_
   refine KC rfl (fun hc57 => ?_) (fun hc57 => ?_)
   ·replace hm := yes_t hc57 hm
    refine KB ?_
    refine Kb ?_
    refine Km ?_
    refine KG ?_
    refine Km ?_
    obtain ⟨x58, q58, hm⟩ := Kc hm
    refine Kac 7 [] [[],[],[],[],[2],[2,4],[]] [0,1,2,4] [[],[],[],[],[2,3],[2,3,4],[],[0,1,2,3,4,5,6]] (by kernel_rfl) (by kernel_rfl) (by kernel_rfl) (by rfl) (by rfl) (by kernel_rfl) ?_
    iterate 4 apply Exists.intro
    intro bs
    refine z_eM rfl rfl (Kai (d := Ku a0) 0 htab rfl rfl rfl rfl rfl) rfl rfl rfl rfl rfl rfl ?_
    refine z_eM rfl rfl (Kai (d := Ku a1) 1 htab rfl rfl rfl rfl rfl) rfl rfl rfl rfl rfl rfl ?_
    refine zep ?_
    refine zqp ?_
    refine z_e rfl rfl (Kz htab rfl rfl rfl rfl rfl rfl rfl (Kd q58) (Kk q58)) rfl rfl rfl rfl rfl rfl ?_
    refine z_qM rfl rfl (Ko htab rfl rfl rfl rfl rfl) rfl rfl rfl rfl rfl rfl ?_
    refine zqp ?_
    refine z_nil rfl rfl (fun e he => by simp [isAl] at he) ?_
    obtain ⟨x59, q59, hm⟩ := Kc hm
    refine Kaj (Ki7 a0 a1 x58 a2 x59 q59) rfl rfl rfl rfl rfl Wl ?_
    rintro _ rfl
    refine Ke ?_
    refine KC rfl (fun hc60 => ?_) (fun hc60 => ?_)
    ·replace hm := yes_t hc60 hm
     refine Kt ?_
     iterate 3 refine pu ?_
     obtain ⟨x61, q61, hm⟩ := Kc hm
     refine Kad htab rfl rfl rfl rfl rfl rfl rfl rfl rfl rfl (Kd q61) (Kk q61) ?_
     refine KW htab rfl rfl rfl rfl rfl rfl rfl rfl ?_
     obtain ⟨x63, q63, hm⟩ := Kc hm
     refine Kby (Kh2 s39.1 x61 x63 q63) rfl rfl rfl rfl rfl (WkL.cons (Wk.no) (WkL.cons (Wk.refl _) Wl)) Pf Pf ?_
     rintro _ _ _ ⟨w62, rfl, rfl, rfl⟩
     refine pu ?_
     refine Kv ?_
     refine KM ?_
     refine Kb ?_
     refine Kt ?_
     iterate 3 refine pu ?_
     refine Kv ?_
     refine Kb ⟨_, K0 hm, ?_⟩
     exact WkX.of w62 (WkS.perm (WkS.cons rfl (Wk.refl _) (WkS.cons rfl (Wk.refl _) (WkS.cons rfl (Wk.refl _) (WkS.cons rfl (Wk.refl _) (WkS.cons rfl (Wk.refl _) (WkS.cons rfl (Wk.refl _) (WkS.nil))))))) Pf ((KF (j := 0) rfl).trans (List.Perm.cons _ ((KF (j := 1) rfl).trans (List.Perm.cons _ Pf)))))
    ·replace hm := yes_f hc60 hm
     refine KB ?_
     refine KM ?_
     refine Kb ?_
     refine Kt ?_
     iterate 3 refine pu ?_
     refine Kv ?_
     refine Kb ⟨_, K0 hm, ?_⟩
     exact WkX.of z39 (WkS.perm (WkS.cons rfl (Wk.refl _) (WkS.cons rfl (Wk.refl _) (WkS.cons rfl (Wk.refl _) (WkS.cons rfl (Wk.refl _) (WkS.cons rfl (Wk.refl _) (WkS.cons rfl (Wk.refl _) (WkS.nil))))))) Pf Pf)
   ·replace hm := yes_f hc57 hm
    refine Kaa ?_
    refine KH ?_
    have e39 := K1 hm; subst e39; clear hm; have hm := hq39
    refine KH ?_
    refine K5 ?_
    have e38 := Kj hm; subst e38
    refine ⟨rfl, ?_⟩
    exact WkX.of z39 (WkS.perm (WkS.cons rfl (Wk.refl _) (WkS.nil)) Pf Pf)
 ·intro s38 hw38; clear hm; have hm := ho38; clear q38 ho38
  refine Kb ?_
  refine KV hw38 (fun z38 => ?_)
  refine Kh ?_
  refine pu ?_
  refine pu ?_
  refine Ke ?_
  refine KE ?_
  have er64 := Kj hm; subst er64
  refine rP (t' := [(6, .lst 1 (y38.map eStr) (.cur z38))]) [] [0] 0 (wC wN) (lT lN) ?_
  exact ⟨z38, rfl, rfl, rfl⟩
noncomputable def KbV (g0 : (List Kg) → Option (List Kg)) (a0 : List Kg) : Option (List Kg) :=
 (Option.bind (α := List Kg) (loopM (fun (s40 : List Kg × Int) => (bif (decide (s40.2 < (a0.length : Int))) then ((idx a0 s40.2).bind fun x67 => ((app 120 s40.1 ([x67] : List Kg)).bind fun x68 => ((idx a0 s40.2).bind fun x69 => ((g0 x69.gKids).bind fun x71 => ((app 120 x68 x71).bind fun x72 => ((idx a0 s40.2).bind fun x73 => ((g0 x73.gElse).bind fun x75 => ((app 120 x72 x75).bind fun x76 => some (.next (x76, (IntKind.i64.wrap (s40.2 + (1 : Int))))))))))))) else some (.done s40.1))) (([] : List Kg), (0 : Int))) fun y39 => some y39)
theorem Kie (g0 : (List Kg) → Option (List Kg)) (hg0 : ∀ (a0 : List Kg) (r : List Kg) (h0 : g0 a0 = some r), CallsD Tryz.prog 68 [.lst 7 (a0.map Kr) .no] [] [] (fun d h k => ∃ y0, d = .lst 7 (r.map Kr) (.cur y0) ∧ h = [] ∧ k = [(7, y0)])) (a0 : List Kg) (r : List Kg) (h0 : KbV g0 a0 = some r) : CallsD Tryz.prog 68 [.lst 7 (a0.map Kr) .no] [] [] (fun d h k => ∃ y0, d = .lst 7 (r.map Kr) (.cur y0) ∧ h = [] ∧ k = [(7, y0)]) := by
 have hm := KI h0
 unfold KbV at hm
 clear h0
 refine K3 htab Tryz.func68 rfl rfl rfl rfl rfl (fun C => ?_)
 refine Kh ?_
 refine pu ?_
 refine KP ?_
 refine pu ?_
 refine Ke ?_
 refine Km ?_
 refine Kh ?_
 refine pu ?_
 refine Ke ?_
 obtain ⟨y39, q39, ho39⟩ := Kc hm
 refine Kah (Y := Value) (fun z39 => (⟨[(3, .lst 7 (y39.map Kr) (.cur z39))], [], [(7, z39)]⟩ : S)) ?_ ?_
 ·clear hm; have hm := KI q39
  refine KG ?_
  obtain ⟨u40, hl40, hq40⟩ := yes_m hm
  refine Kao (Y := Value) hl40 (fun s40 z40 => (⟨[(0, .lst 7 (a0.map Kr) .no), (3, .lst 7 (s40.1.map Kr) (.cur z40)), (4, .v (.int .i64 s40.2))], [], [(7, z40)]⟩ : S)) ?_ ?_
  ·skip
   refine WkX.tokN (i := 3) 7 rfl (fun w65 => ?_)
   exact WkX.of w65 (WkS.perm (WkS.cons rfl (Wk.refl _) (WkS.cons rfl (Wk.refl _) (WkS.cons rfl (Wk.refl _) (WkS.nil)))) Pf Pf)
  ·intro G40 s40 z40 hm
   refine Km ?_
   refine Kh ?_
   refine pu ?_
   refine pu ?_
   refine Kag htab rfl rfl rfl rfl rfl rfl rfl (by first | exact KY | rfl) ?_
   refine pu ?_
   refine Ke ?_
   refine KC rfl (fun hc66 => ?_) (fun hc66 => ?_)
   ·replace hm := yes_t hc66 hm
    refine KB ?_
    refine Kb ?_
    refine Km ?_
    refine KG ?_
    refine Kh ?_
    iterate 3 refine pu ?_
    obtain ⟨x67, q67, hm⟩ := Kc hm
    refine Kad htab rfl rfl rfl rfl rfl rfl rfl rfl rfl rfl (Kd q67) (Kk q67) ?_
    refine p_eq (i := 14) rfl (Wk.of_eq (congrArg D.el (Kp x67))) ?_
    refine KW (d := .agg [.v (.int .i64 x67.gOp), .v (.string x67.gName), .v (.string x67.gFunc), .lst 5 (x67.gExps.map Kx) .no, .lst 7 (x67.gKids.map Kr) .no, .lst 7 (x67.gElse.map Kr) .no, .v (.int .i64 x67.gAt)]) htab rfl rfl rfl rfl rfl rfl rfl rfl ?_
    refine p_lit htab rfl rfl rfl rfl rfl rfl rfl rfl rfl rfl rfl rfl rfl rfl ?_
    refine p_eq (i := 16) (d' := .lst 7 (([x67] : List Kg).map Kr) .full) rfl (Wk.lst0 (.cons (WkC.trans (WkC.agg (WkR.refl _)) (WkC.of_eq (Kp x67).symm)) (.nil))) ?_
    obtain ⟨x68, q68, hm⟩ := Kc hm
    refine Ka4 0 htab rfl rfl rfl rfl rfl rfl rfl rfl rfl rfl rfl rfl rfl rfl rfl rfl rfl (Kal q68) (fun v68 => ?_)
    refine Ka5 (i := 17) q68 rfl ?_
    refine pu ?_
    refine KP ?_
    iterate 3 refine pu ?_
    obtain ⟨x69, q69, hm⟩ := Kc hm
    refine Kad htab rfl rfl rfl rfl rfl rfl rfl rfl rfl rfl (Kd q69) (Kk q69) ?_
    refine p_eq (i := 21) rfl (Wk.of_eq (congrArg D.el (Kp x69))) ?_
    refine pu ?_
    refine KW htab rfl rfl rfl rfl rfl rfl rfl rfl ?_
    obtain ⟨x71, q71, hm⟩ := Kc hm
    refine pG (hg0 x69.gKids x71 q71) Wl Pf Pf ?_
    rintro _ _ _ ⟨w70, rfl, rfl, rfl⟩
    obtain ⟨x72, q72, hm⟩ := Kc hm
    refine Ka4 1 htab rfl rfl rfl rfl rfl rfl rfl rfl rfl rfl rfl rfl rfl rfl rfl rfl rfl (Kal q72) (fun v72 => ?_)
    refine Ka5 (i := 25) q72 rfl ?_
    refine pu ?_
    refine Ke ?_
    refine Kt ?_
    iterate 3 refine pu ?_
    obtain ⟨x73, q73, hm⟩ := Kc hm
    refine Kad htab rfl rfl rfl rfl rfl rfl rfl rfl rfl rfl (Kd q73) (Kk q73) ?_
    refine p_eq (i := 29) rfl (Wk.of_eq (congrArg D.el (Kp x73))) ?_
    refine pu ?_
    refine KW htab rfl rfl rfl rfl rfl rfl rfl rfl ?_
    obtain ⟨x75, q75, hm⟩ := Kc hm
    refine pG (hg0 x73.gElse x75 q75) Wl Pf Pf ?_
    rintro _ _ _ ⟨w74, rfl, rfl, rfl⟩
    obtain ⟨x76, q76, hm⟩ := Kc hm
    refine Ka4 1 htab rfl rfl rfl rfl rfl rfl rfl rfl rfl rfl rfl rfl rfl rfl rfl rfl rfl (Kal q76) (fun v76 => ?_)
    refine Ka5 (i := 33) q76 rfl ?_
    refine pu ?_
    refine Kv ?_
    refine KM ?_
    refine Kb ?_
    refine Kt ?_
    iterate 3 refine pu ?_
    refine Kv ?_
    refine Kb ⟨_, K0 hm, ?_⟩
    exact WkX.of v76 (WkS.perm (WkS.cons rfl (Wk.refl _) (WkS.cons rfl (Wk.refl _) (WkS.cons rfl (Wk.refl _) (WkS.nil)))) Pf Pf)
   ·replace hm := yes_f hc66 hm
    refine Kaa ?_
    refine KH ?_
    have e40 := K1 hm; subst e40; clear hm; have hm := hq40
    refine KH ?_
    refine K5 ?_
    have e39 := Kj hm; subst e39
    refine ⟨rfl, ?_⟩
    exact WkX.of z40 (WkS.perm (WkS.cons rfl (Wk.refl _) (WkS.nil)) Pf Pf)
 ·intro s39 hw39; clear hm; have hm := ho39; clear q39 ho39
  refine Kb ?_
  refine KV hw39 (fun z39 => ?_)
  refine Kh ?_
  refine pu ?_
  refine pu ?_
  refine Ke ?_
  refine KE ?_
  have er77 := Kj hm; subst er77
  refine rP (t' := [(2, .lst 7 (y39.map Kr) (.cur z39))]) [] [0] 0 (wC wN) (lT lN) ?_
  exact ⟨z39, rfl, rfl, rfl⟩
noncomputable def Kbc : Nat → ((List Kg) → Option (List Kg))
 | 0 => (fun _ => none)
 | n + 1 => (KbV ((Kbc n)))
theorem Kfr : ∀ n, (∀ (a0 : List Kg) (r : List Kg) (h0 : (Kbc n) a0 = some r), CallsD Tryz.prog 68 [.lst 7 (a0.map Kr) .no] [] [] (fun d h k => ∃ y0, d = .lst 7 (r.map Kr) (.cur y0) ∧ h = [] ∧ k = [(7, y0)]))
  | 0 => fun _ _ h0 => by cases h0
  | n + 1 => by
    have ih := Kfr n
    exact Kie (Kbc n) ih
theorem Kfs : ∀ n, (∀ (a0 : List Kg), Le ((Kbc n) a0) ((Kbc (n + 1)) a0))
  | 0 => fun _ => Le.none _
  | n + 1 => by
    have ih := Kfs n
    exact fun a0 => by show Le (KbV ((Kbc n)) a0) (KbV ((Kbc (n + 1))) a0); unfold KbV; repeat (first | exact Le.refl _ | exact ih _ | assumption | (refine Le.bind ?_ (fun _ => ?_)) | (refine Le.cond ?_ ?_) | (refine Le.loop (fun _ => ?_)) | (refine Le.elim (fun _ => ?_) (fun _ => ?_)))
noncomputable def Kd3 (a0 : List Kg) : Option (List Kg) := anyN fun n => (Kbc n) a0
theorem Ki8 (a0 : List Kg) {r : List Kg} (n : Nat) (h : (Kbc n) a0 = some r) : Kd3 a0 = some r := Kdo (fun m => (Kfs m) a0) h
theorem Kgn (a0 : List Kg) (r : List Kg) (h0 : Kd3 a0 = some r) : CallsD Tryz.prog 68 [.lst 7 (a0.map Kr) .no] [] [] (fun d h k => ∃ y0, d = .lst 7 (r.map Kr) (.cur y0) ∧ h = [] ∧ k = [(7, y0)]) :=
 let ⟨n, hn⟩ := KcO h0; (Kfr n) a0  r hn
noncomputable def Keu (a0 : List ByteArray) (a1 : ByteArray) : Option (List ByteArray) :=
 (Option.bind (α := List ByteArray × Bool) (loopM (fun (s62 : List ByteArray × Bool × Int) => (bif (decide (s62.2.2 < (a0.length : Int))) then (bif (!s62.2.1) then ((idx a0 s62.2.2).bind fun x102 => (Option.bind (α := List ByteArray × Bool) (bif (ltB a1 x102) then ((app 16 s62.1 ([a1] : List ByteArray)).bind fun x107 => some (x107, true)) else some (s62.1, s62.2.1)) fun y105 => ((idx a0 s62.2.2).bind fun x108 => (Option.bind (α := Bool) (bif (decide (a1 = x108)) then some true else some y105.2) fun y110 => ((idx a0 s62.2.2).bind fun x112 => ((app 16 y105.1 ([x112] : List ByteArray)).bind fun x113 => some (.next (x113, y110, (IntKind.i64.wrap (s62.2.2 + (1 : Int))))))))))) else ((idx a0 s62.2.2).bind fun x114 => (Option.bind (α := Bool) (bif (decide (a1 = x114)) then some true else some s62.2.1) fun y116 => ((idx a0 s62.2.2).bind fun x118 => ((app 16 s62.1 ([x118] : List ByteArray)).bind fun x119 => some (.next (x119, y116, (IntKind.i64.wrap (s62.2.2 + (1 : Int)))))))))) else some (.done (s62.1, s62.2.1)))) (([] : List ByteArray), false, (0 : Int))) fun y61 => (bif (!y61.2) then ((app 16 y61.1 ([a1] : List ByteArray)).bind fun x121 => some x121) else some y61.1))
theorem Kh3 (a0 : List ByteArray) (a1 : ByteArray) (r : List ByteArray) (h0 : Keu a0 a1 = some r) : CallsD Tryz.prog 69 [.lst 1 (a0.map eStr) .no, .v (.string a1)] [] [] (fun d h k => ∃ y0, d = .lst 1 (r.map eStr) (.cur y0) ∧ h = [] ∧ k = [(1, y0)]) := by
 have hm := KI h0
 unfold Keu at hm
 clear h0
 refine K3 htab Tryz.func69 rfl rfl rfl rfl rfl (fun C => ?_)
 refine Kh ?_
 refine pu ?_
 refine KP ?_
 refine pu ?_
 refine KP ?_
 refine pu ?_
 refine Ke ?_
 refine Km ?_
 refine Kh ?_
 refine pu ?_
 refine Ke ?_
 obtain ⟨y61, q61, ho61⟩ := Kc hm
 refine Kah (Y := Value) (fun z61 => (⟨[(1, .v (.string a1)), (5, .lst 1 (y61.1.map eStr) (.cur z61)), (6, .v (.bool y61.2))], [], [(1, z61)]⟩ : S)) ?_ ?_
 ·clear hm; have hm := KI q61
  refine KG ?_
  obtain ⟨u62, hl62, hq62⟩ := yes_m hm
  refine Kao (Y := Value) hl62 (fun s62 z62 => (⟨[(0, .lst 1 (a0.map eStr) .no), (1, .v (.string a1)), (5, .lst 1 (s62.1.map eStr) (.cur z62)), (6, .v (.bool s62.2.1)), (7, .v (.int .i64 s62.2.2))], [], [(1, z62)]⟩ : S)) ?_ ?_
  ·skip
   refine WkX.tokN (i := 5) 1 rfl (fun w99 => ?_)
   exact WkX.of w99 (WkS.perm (WkS.cons rfl (Wk.refl _) (WkS.cons rfl (Wk.refl _) (WkS.cons rfl (Wk.refl _) (WkS.cons rfl (Wk.refl _) (WkS.cons rfl (Wk.refl _) (WkS.nil)))))) Pf Pf)
  ·intro G62 s62 z62 hm
   refine Km ?_
   refine Kh ?_
   refine pu ?_
   refine pu ?_
   refine Kag htab rfl rfl rfl rfl rfl rfl rfl (by first | exact KY | rfl) ?_
   refine pu ?_
   refine Ke ?_
   refine KC rfl (fun hc100 => ?_) (fun hc100 => ?_)
   ·replace hm := yes_t hc100 hm
    refine KB ?_
    refine Kb ?_
    refine Km ?_
    refine KG ?_
    refine Km ?_
    refine Kh ?_
    iterate 3 refine pu ?_
    refine KaE (i := 16) rfl (fun hg101 => ?_) (fun hg101 => ?_)
    ·replace hm := yes_t hg101 hm
     iterate 3 refine pu ?_
     obtain ⟨x102, q102, hm⟩ := Kc hm
     refine Kad htab rfl rfl rfl rfl rfl rfl rfl rfl rfl rfl (Kd q102) (Kk q102) ?_
     refine KW htab rfl rfl rfl rfl rfl rfl rfl rfl ?_
     refine p_ltS rfl rfl rfl rfl rfl rfl rfl ?_
     refine Kab rfl rfl rfl rfl rfl rfl ?_
     refine Ke ?_
     obtain ⟨y105, q105, ho105⟩ := Kc hm
     refine Kah (Y := Value) (fun z105 => (⟨[(0, .lst 1 (a0.map eStr) .no), (1, .v (.string a1)), (5, .lst 1 (y105.1.map eStr) (.cur z105)), (6, .v (.bool y105.2)), (7, .v (.int .i64 s62.2.2))], [], [(1, z105)]⟩ : S)) ?_ ?_
     ·clear hm; have hm := KI q105
      refine KC rfl (fun hc106 => ?_) (fun hc106 => ?_)
      ·replace hm := yes_t hc106 hm
       refine Kh ?_
       refine pu ?_
       refine pu ?_
       refine p_lit htab rfl rfl rfl rfl rfl rfl rfl rfl rfl rfl rfl rfl rfl rfl ?_
       refine p_eq (i := 26) (d' := .lst 1 (([a1] : List ByteArray).map eStr) .full) rfl (Wk.lst0 (.cons (WkC.refl _) (.nil))) ?_
       obtain ⟨x107, q107, hm⟩ := Kc hm
       refine Ka4 0 htab rfl rfl rfl rfl rfl rfl rfl rfl rfl rfl rfl rfl rfl rfl rfl rfl rfl (Kal q107) (fun v107 => ?_)
       refine Ka5 (i := 27) q107 rfl ?_
       refine pu ?_
       refine Ke ?_
       refine Kt ?_
       refine pu ?_
       refine Kv ?_
       have e105 := Kj hm; subst e105
       refine ⟨rfl, ?_⟩
       exact WkX.of v107 (WkS.perm (WkS.cons rfl (Wk.refl _) (WkS.cons rfl (Wk.refl _) (WkS.cons rfl (Wk.refl _) (WkS.cons rfl (Wk.refl _) (WkS.cons rfl (Wk.refl _) (WkS.nil)))))) Pf Pf)
      ·replace hm := yes_f hc106 hm
       refine KB ?_
       have e105 := Kj hm; subst e105
       refine ⟨rfl, ?_⟩
       exact WkX.of z62 (WkS.perm (WkS.cons rfl (Wk.refl _) (WkS.cons rfl (Wk.refl _) (WkS.cons rfl (Wk.refl _) (WkS.cons rfl (Wk.refl _) (WkS.cons rfl (Wk.refl _) (WkS.nil)))))) Pf Pf)
     ·intro s105 hw105; clear hm; have hm := ho105; clear q105 ho105
      refine Kb ?_
      refine KV hw105 (fun z105 => ?_)
      refine Km ?_
      refine Kh ?_
      iterate 3 refine pu ?_
      obtain ⟨x108, q108, hm⟩ := Kc hm
      refine Kad htab rfl rfl rfl rfl rfl rfl rfl rfl rfl rfl (Kd q108) (Kk q108) ?_
      refine KW htab rfl rfl rfl rfl rfl rfl rfl rfl ?_
      refine pu ?_
      refine Ke ?_
      obtain ⟨y110, q110, ho110⟩ := Kc hm
      refine Kah (Y := Unit) (fun z110 => (⟨[(0, .lst 1 (a0.map eStr) .no), (1, .v (.string a1)), (5, .lst 1 (y105.1.map eStr) (.cur z105)), (6, .v (.bool y110)), (7, .v (.int .i64 s62.2.2))], [], [(1, z105)]⟩ : S)) ?_ ?_
      ·clear hm; have hm := KI q110
       refine KC rfl (fun hc111 => ?_) (fun hc111 => ?_)
       ·replace hm := yes_t hc111 hm
        refine Kt ?_
        refine pu ?_
        refine Kv ?_
        have e110 := Kj hm; subst e110
        refine ⟨rfl, ?_⟩
        exact WkX.of () (WkS.perm (WkS.cons rfl (Wk.refl _) (WkS.cons rfl (Wk.refl _) (WkS.cons rfl (Wk.refl _) (WkS.cons rfl (Wk.refl _) (WkS.cons rfl (Wk.refl _) (WkS.nil)))))) Pf Pf)
       ·replace hm := yes_f hc111 hm
        refine KB ?_
        have e110 := Kj hm; subst e110
        refine ⟨rfl, ?_⟩
        exact WkX.of () (WkS.perm (WkS.cons rfl (Wk.refl _) (WkS.cons rfl (Wk.refl _) (WkS.cons rfl (Wk.refl _) (WkS.cons rfl (Wk.refl _) (WkS.cons rfl (Wk.refl _) (WkS.nil)))))) Pf Pf)
      ·intro s110 hw110; clear hm; have hm := ho110; clear q110 ho110
       refine Kb ?_
       refine KV hw110 (fun z110 => ?_)
       refine Kt ?_
       iterate 3 refine pu ?_
       obtain ⟨x112, q112, hm⟩ := Kc hm
       refine Kad htab rfl rfl rfl rfl rfl rfl rfl rfl rfl rfl (Kd q112) (Kk q112) ?_
       refine KW htab rfl rfl rfl rfl rfl rfl rfl rfl ?_
       refine p_lit htab rfl rfl rfl rfl rfl rfl rfl rfl rfl rfl rfl rfl rfl rfl ?_
       refine p_eq (i := 39) (d' := .lst 1 (([x112] : List ByteArray).map eStr) .full) rfl (Wk.lst0 (.cons (WkC.refl _) (.nil))) ?_
       obtain ⟨x113, q113, hm⟩ := Kc hm
       refine Ka4 0 htab rfl rfl rfl rfl rfl rfl rfl rfl rfl rfl rfl rfl rfl rfl rfl rfl rfl (Kal q113) (fun v113 => ?_)
       refine Ka5 (i := 40) q113 rfl ?_
       refine pu ?_
       refine Kv ?_
       refine KM ?_
       refine Kb ?_
       refine Kt ?_
       iterate 3 refine pu ?_
       refine Kv ?_
       refine Kb ⟨_, K0 hm, ?_⟩
       exact WkX.of v113 (WkS.perm (WkS.cons rfl (Wk.refl _) (WkS.cons rfl (Wk.refl _) (WkS.cons rfl (Wk.refl _) (WkS.cons rfl (Wk.refl _) (WkS.cons rfl (Wk.refl _) (WkS.nil)))))) Pf Pf)
    ·replace hm := yes_f hg101 hm
     iterate 6 refine pK ?_
     refine K9 rfl rfl rfl rfl rfl rfl ?_
     refine Ke ?_
     refine Kim rfl ?_
     refine KB ?_
     refine Kb ?_
     refine Km ?_
     refine Kh ?_
     iterate 3 refine pu ?_
     obtain ⟨x114, q114, hm⟩ := Kc hm
     refine Kad htab rfl rfl rfl rfl rfl rfl rfl rfl rfl rfl (Kd q114) (Kk q114) ?_
     refine KW htab rfl rfl rfl rfl rfl rfl rfl rfl ?_
     refine pu ?_
     refine Ke ?_
     obtain ⟨y116, q116, ho116⟩ := Kc hm
     refine Kah (Y := Unit) (fun z116 => (⟨[(0, .lst 1 (a0.map eStr) .no), (1, .v (.string a1)), (5, .lst 1 (s62.1.map eStr) (.cur z62)), (6, .v (.bool y116)), (7, .v (.int .i64 s62.2.2))], [], [(1, z62)]⟩ : S)) ?_ ?_
     ·clear hm; have hm := KI q116
      refine KC rfl (fun hc117 => ?_) (fun hc117 => ?_)
      ·replace hm := yes_t hc117 hm
       refine Kt ?_
       refine pu ?_
       refine Kv ?_
       have e116 := Kj hm; subst e116
       refine ⟨rfl, ?_⟩
       exact WkX.of () (WkS.perm (WkS.cons rfl (Wk.refl _) (WkS.cons rfl (Wk.refl _) (WkS.cons rfl (Wk.refl _) (WkS.cons rfl (Wk.refl _) (WkS.cons rfl (Wk.refl _) (WkS.nil)))))) Pf Pf)
      ·replace hm := yes_f hc117 hm
       refine KB ?_
       have e116 := Kj hm; subst e116
       refine ⟨rfl, ?_⟩
       exact WkX.of () (WkS.perm (WkS.cons rfl (Wk.refl _) (WkS.cons rfl (Wk.refl _) (WkS.cons rfl (Wk.refl _) (WkS.cons rfl (Wk.refl _) (WkS.cons rfl (Wk.refl _) (WkS.nil)))))) Pf Pf)
     ·intro s116 hw116; clear hm; have hm := ho116; clear q116 ho116
      refine Kb ?_
      refine KV hw116 (fun z116 => ?_)
      refine Kt ?_
      iterate 3 refine pu ?_
      obtain ⟨x118, q118, hm⟩ := Kc hm
      refine Kad htab rfl rfl rfl rfl rfl rfl rfl rfl rfl rfl (Kd q118) (Kk q118) ?_
      refine KW htab rfl rfl rfl rfl rfl rfl rfl rfl ?_
      refine p_lit htab rfl rfl rfl rfl rfl rfl rfl rfl rfl rfl rfl rfl rfl rfl ?_
      refine p_eq (i := 39) (d' := .lst 1 (([x118] : List ByteArray).map eStr) .full) rfl (Wk.lst0 (.cons (WkC.refl _) (.nil))) ?_
      obtain ⟨x119, q119, hm⟩ := Kc hm
      refine Ka4 0 htab rfl rfl rfl rfl rfl rfl rfl rfl rfl rfl rfl rfl rfl rfl rfl rfl rfl (Kal q119) (fun v119 => ?_)
      refine Ka5 (i := 40) q119 rfl ?_
      refine pu ?_
      refine Kv ?_
      refine KM ?_
      refine Kb ?_
      refine Kt ?_
      iterate 3 refine pu ?_
      refine Kv ?_
      refine Kb ⟨_, K0 hm, ?_⟩
      exact WkX.of v119 (WkS.perm (WkS.cons rfl (Wk.refl _) (WkS.cons rfl (Wk.refl _) (WkS.cons rfl (Wk.refl _) (WkS.cons rfl (Wk.refl _) (WkS.cons rfl (Wk.refl _) (WkS.nil)))))) Pf Pf)
   ·replace hm := yes_f hc100 hm
    refine Kaa ?_
    refine KH ?_
    have e62 := K1 hm; subst e62; clear hm; have hm := hq62
    refine KH ?_
    refine K5 ?_
    have e61 := Kj hm; subst e61
    refine ⟨rfl, ?_⟩
    exact WkX.of z62 (WkS.perm (WkS.cons rfl (Wk.refl _) (WkS.cons rfl (Wk.refl _) (WkS.cons rfl (Wk.refl _) (WkS.nil)))) Pf Pf)
 ·intro s61 hw61; clear hm; have hm := ho61; clear q61 ho61
  refine Kb ?_
  refine KV hw61 (fun z61 => ?_)
  refine Km ?_
  refine Kh ?_
  refine pu ?_
  refine pu ?_
  refine Ke ?_
  refine KC rfl (fun hc120 => ?_) (fun hc120 => ?_)
  ·replace hm := yes_t hc120 hm
   refine Kt ?_
   refine pu ?_
   refine pu ?_
   refine p_lit htab rfl rfl rfl rfl rfl rfl rfl rfl rfl rfl rfl rfl rfl rfl ?_
   refine p_eq (i := 45) (d' := .lst 1 (([a1] : List ByteArray).map eStr) .full) rfl (Wk.lst0 (.cons (WkC.refl _) (.nil))) ?_
   obtain ⟨x121, q121, hm⟩ := Kc hm
   refine Ka4 0 htab rfl rfl rfl rfl rfl rfl rfl rfl rfl rfl rfl rfl rfl rfl rfl rfl rfl (Kal q121) (fun v121 => ?_)
   refine Ka5 (i := 46) q121 rfl ?_
   refine pu ?_
   refine KP ?_
   refine pu ?_
   refine pu ?_
   refine Ke ?_
   refine KE ?_
   have er122 := Kj hm; subst er122
   refine rP (t' := [(4, .lst 1 (x121.map eStr) (.cur v121))]) [] [0] 0 (wC wN) (lT lN) ?_
   exact ⟨v121, rfl, rfl, rfl⟩
  ·replace hm := yes_f hc120 hm
   refine KB ?_
   refine Kb ?_
   refine Kh ?_
   refine pu ?_
   refine pu ?_
   refine Ke ?_
   refine KE ?_
   have er123 := Kj hm; subst er123
   refine rP (t' := [(4, .lst 1 (y61.1.map eStr) (.cur z61))]) [] [0] 0 (wC wN) (lT lN) ?_
   exact ⟨z61, rfl, rfl, rfl⟩
noncomputable def Kct (g0 : (Kn) → Option (List Kn)) (a0 : Kn) : Option (List Kn) :=
 (Option.bind (α := List Kn) (loopM (fun (s23 : List Kn × Int) => (bif (decide (s23.2 < (a0.gKids.length : Int))) then ((idx a0.gKids s23.2).bind fun x38 => ((g0 x38).bind fun x40 => ((app 64 s23.1 x40).bind fun x41 => some (.next (x41, (IntKind.i64.wrap (s23.2 + (1 : Int)))))))) else some (.done s23.1))) (([a0] : List Kn), (0 : Int))) fun y22 => some y22)
theorem Ki9 (g0 : (Kn) → Option (List Kn)) (hg0 : ∀ (a0 : Kn) (r : List Kn) (h0 : g0 a0 = some r), CallsD Tryz.prog 89 [Kx a0] [] [] (fun d h k => ∃ y0, d = .lst 5 (r.map Kx) (.cur y0) ∧ h = [] ∧ k = [(5, y0)])) (a0 : Kn) (r : List Kn) (h0 : Kct g0 a0 = some r) : CallsD Tryz.prog 89 [Kx a0] [] [] (fun d h k => ∃ y0, d = .lst 5 (r.map Kx) (.cur y0) ∧ h = [] ∧ k = [(5, y0)]) := by
 have hm := KI h0
 unfold Kct at hm
 clear h0
 refine K3 htab Tryz.func89 rfl rfl rfl rfl rfl (fun C => ?_)
 refine w_eq (i := 0) rfl (Wk.of_eq (KK a0)) ?_
 refine Kh ?_
 refine p_box rfl rfl rfl rfl rfl rfl rfl (fun b1 => ?_)
 refine pu ?_
 refine KP ?_
 refine KaD (d := .agg [.v (.int .i64 a0.gOp), .v (.int .i64 a0.gN), .v (.string a0.gName), .lst 5 (a0.gKids.map Kx) .no, .v (.int .i64 a0.gAt)]) 0 htab rfl rfl rfl rfl rfl rfl rfl rfl ?_
 refine p_lit htab rfl rfl rfl rfl rfl rfl rfl rfl rfl rfl rfl rfl rfl rfl ?_
 refine p_eq (i := 6) (d' := .lst 5 (([a0] : List Kn).map Kx) .full) rfl (Wk.lst0 (.cons (WkC.trans (WkC.agg (WkR.refl _)) (WkC.of_eq (KK a0).symm)) (.nil))) ?_
 refine pu ?_
 refine Ke ?_
 refine Km ?_
 refine Kh ?_
 refine pu ?_
 refine Ke ?_
 obtain ⟨y22, q22, ho22⟩ := Kc hm
 refine Kah (Y := Value) (fun z22 => (⟨[(3, .lst 5 (y22.map Kx) (.cur z22))], [], [(5, z22)]⟩ : S)) ?_ ?_
 ·clear hm; have hm := KI q22
  refine KG ?_
  obtain ⟨u23, hl23, hq23⟩ := yes_m hm
  refine Kao (Y := Value) hl23 (fun s23 z23 => (⟨[(1, .ptr b1 0), (3, .lst 5 (s23.1.map Kx) (.cur z23)), (4, .v (.int .i64 s23.2))], [(b1, Blk.cells [.v (.int .i64 a0.gOp), .v (.int .i64 a0.gN), .v (.string a0.gName), .lst 5 (a0.gKids.map Kx) .no, .v (.int .i64 a0.gAt)] 100)], [(5, z23)]⟩ : S)) ?_ ?_
  ·skip
   refine WkX.tokF (i := 3) rfl (fun w36 => ?_)
   exact WkX.of w36 (WkS.perm (WkS.cons rfl (Wk.refl _) (WkS.cons rfl (Wk.refl _) (WkS.cons rfl (Wk.refl _) (WkS.nil)))) Pf Pf)
  ·intro G23 s23 z23 hm
   refine Km ?_
   refine Kh ?_
   refine pu ?_
   refine pu ?_
   refine pL 0 ?_
   refine Kag htab rfl rfl rfl rfl rfl rfl rfl (by first | exact KY | rfl) ?_
   refine pu ?_
   refine Ke ?_
   refine KC rfl (fun hc37 => ?_) (fun hc37 => ?_)
   ·replace hm := yes_t hc37 hm
    refine KB ?_
    refine Kb ?_
    refine Km ?_
    refine KG ?_
    refine Kt ?_
    refine pu ?_
    refine pu ?_
    refine pL 0 ?_
    refine pu ?_
    obtain ⟨x38, q38, hm⟩ := Kc hm
    refine Kad htab rfl rfl rfl rfl rfl rfl rfl rfl rfl rfl (Kd q38) (Kk q38) ?_
    refine p_eq (i := 18) rfl (Wk.of_eq (congrArg D.el (KK x38))) ?_
    refine KW (d := .agg [.v (.int .i64 x38.gOp), .v (.int .i64 x38.gN), .v (.string x38.gName), .lst 5 (x38.gKids.map Kx) .no, .v (.int .i64 x38.gAt)]) htab rfl rfl rfl rfl rfl rfl rfl rfl ?_
    obtain ⟨x40, q40, hm⟩ := Kc hm
    refine Kby (hg0 x38 x40 q40) rfl rfl rfl rfl rfl (WkL.cons (Wk.trans (Wk.agg (WkR.refl _)) (Wk.of_eq (KK x38).symm)) Wl) Pf Pf ?_
    rintro _ _ _ ⟨w39, rfl, rfl, rfl⟩
    obtain ⟨x41, q41, hm⟩ := Kc hm
    refine Ka4 1 htab rfl rfl rfl rfl rfl rfl rfl rfl rfl rfl rfl rfl rfl rfl rfl rfl rfl (Kal q41) (fun v41 => ?_)
    refine Ka5 (i := 21) q41 rfl ?_
    refine pu ?_
    refine Kv ?_
    refine KM ?_
    refine Kb ?_
    refine Kt ?_
    iterate 3 refine pu ?_
    refine Kv ?_
    refine Kb ⟨_, K0 hm, ?_⟩
    exact WkX.of v41 (WkS.perm (WkS.cons rfl (Wk.refl _) (WkS.cons rfl (Wk.refl _) (WkS.cons rfl (Wk.refl _) (WkS.nil)))) Pf Pf)
   ·replace hm := yes_f hc37 hm
    refine Kaa ?_
    refine KH ?_
    have e23 := K1 hm; subst e23; clear hm; have hm := hq23
    refine KH ?_
    refine K5 ?_
    have e22 := Kj hm; subst e22
    refine ⟨rfl, ?_⟩
    exact WkX.of z23 (WkS.perm (WkS.cons rfl (Wk.refl _) (WkS.nil)) Pf Pf)
 ·intro s22 hw22; clear hm; have hm := ho22; clear q22 ho22
  refine Kb ?_
  refine KV hw22 (fun z22 => ?_)
  refine Kh ?_
  refine pu ?_
  refine pu ?_
  refine Ke ?_
  refine KE ?_
  have er42 := Kj hm; subst er42
  refine rP (t' := [(2, .lst 5 (y22.map Kx) (.cur z22))]) [] [0] 0 (wC wN) (lT lN) ?_
  exact ⟨z22, rfl, rfl, rfl⟩
noncomputable def KbN : Nat → ((Kn) → Option (List Kn))
 | 0 => (fun _ => none)
 | n + 1 => (Kct ((KbN n)))
theorem Kgo : ∀ n, (∀ (a0 : Kn) (r : List Kn) (h0 : (KbN n) a0 = some r), CallsD Tryz.prog 89 [Kx a0] [] [] (fun d h k => ∃ y0, d = .lst 5 (r.map Kx) (.cur y0) ∧ h = [] ∧ k = [(5, y0)]))
  | 0 => fun _ _ h0 => by cases h0
  | n + 1 => by
    have ih := Kgo n
    exact Ki9 (KbN n) ih
theorem Kgp : ∀ n, (∀ (a0 : Kn), Le ((KbN n) a0) ((KbN (n + 1)) a0))
  | 0 => fun _ => Le.none _
  | n + 1 => by
    have ih := Kgp n
    exact fun a0 => by show Le (Kct ((KbN n)) a0) (Kct ((KbN (n + 1))) a0); unfold Kct; repeat (first | exact Le.refl _ | exact ih _ | assumption | (refine Le.bind ?_ (fun _ => ?_)) | (refine Le.cond ?_ ?_) | (refine Le.loop (fun _ => ?_)) | (refine Le.elim (fun _ => ?_) (fun _ => ?_)))
noncomputable def KgE (a0 : Kn) : Option (List Kn) := anyN fun n => (KbN n) a0
theorem r11_All_of (a0 : Kn) {r : List Kn} (n : Nat) (h : (KbN n) a0 = some r) : KgE a0 = some r := Kdo (fun m => (Kgp m) a0) h
theorem r11_All_ok (a0 : Kn) (r : List Kn) (h0 : KgE a0 = some r) : CallsD Tryz.prog 89 [Kx a0] [] [] (fun d h k => ∃ y0, d = .lst 5 (r.map Kx) (.cur y0) ∧ h = [] ∧ k = [(5, y0)]) :=
 let ⟨n, hn⟩ := KcO h0; (Kgo n) a0  r hn
noncomputable def Kd4 (a0 : List Kg) : Option (List Kn) :=
 ((Kd3 a0).bind fun x2 => (Option.bind (α := List Kn) (loopM (fun (s162 : List Kn × Int) => (bif (decide (s162.2 < (x2.length : Int))) then (Option.bind (α := List Kn) (loopM (fun (s294 : List Kn × Int) => ((idx x2 s162.2).bind fun x311 => (bif (decide (s294.2 < (x311.gExps.length : Int))) then ((idx x2 s162.2).bind fun x313 => ((idx x313.gExps s294.2).bind fun x314 => ((KgE x314).bind fun x316 => ((app 64 s294.1 x316).bind fun x317 => some (.next (x317, (IntKind.i64.wrap (s294.2 + (1 : Int))))))))) else some (.done s294.1)))) (s162.1, (0 : Int))) fun y293 => some (.next (y293, (IntKind.i64.wrap (s162.2 + (1 : Int)))))) else some (.done s162.1))) (([] : List Kn), (0 : Int))) fun y161 => some y161))
theorem Kja (a0 : List Kg) (r : List Kn) (h0 : Kd4 a0 = some r) : CallsD Tryz.prog 70 [.lst 7 (a0.map Kr) .no] [] [] (fun d h k => ∃ y0, d = .lst 5 (r.map Kx) (.cur y0) ∧ h = [] ∧ k = [(5, y0)]) := by
 have hm := KI h0
 unfold Kd4 at hm
 clear h0
 refine K3 htab Tryz.func70 rfl rfl rfl rfl rfl (fun C => ?_)
 refine Kh ?_
 refine pu ?_
 refine KP ?_
 refine pu ?_
 refine KP ?_
 refine pu ?_
 obtain ⟨x2, q2, hm⟩ := Kc hm
 refine pG (Kgn a0 x2 q2) Wl Pf Pf ?_
 rintro _ _ _ ⟨w1, rfl, rfl, rfl⟩
 refine pu ?_
 refine Ke ?_
 refine Km ?_
 refine Kh ?_
 refine pu ?_
 refine Ke ?_
 obtain ⟨y161, q161, ho161⟩ := Kc hm
 refine Kah (Y := Value) (fun z161 => (⟨[(3, .lst 5 (y161.map Kx) (.cur z161))], [], [(5, z161)]⟩ : S)) ?_ ?_
 ·clear hm; have hm := KI q161
  refine KG ?_
  obtain ⟨u162, hl162, hq162⟩ := yes_m hm
  refine Kao (Y := Value) hl162 (fun s162 z162 => (⟨[(3, .lst 5 (s162.1.map Kx) (.cur z162)), (4, .lst 7 (x2.map Kr) (.cur w1)), (5, .v (.int .i64 s162.2))], [], [(5, z162), (7, w1)]⟩ : S)) ?_ ?_
  ·skip
   refine WkX.tokN (i := 3) 5 rfl (fun w267 => ?_)
   exact WkX.of w267 (WkS.perm (WkS.cons rfl (Wk.refl _) (WkS.cons rfl (Wk.refl _) (WkS.cons rfl (Wk.refl _) (WkS.nil)))) Pf Pf)
  ·intro G162 s162 z162 hm
   refine Km ?_
   refine Kh ?_
   refine pu ?_
   refine pu ?_
   refine Kag htab rfl rfl rfl rfl rfl rfl rfl (by first | exact KY | rfl) ?_
   refine pu ?_
   refine Ke ?_
   refine KC rfl (fun hc268 => ?_) (fun hc268 => ?_)
   ·replace hm := yes_t hc268 hm
    refine KB ?_
    refine Kb ?_
    refine Km ?_
    refine KG ?_
    refine Kh ?_
    refine pu ?_
    refine Ke ?_
    obtain ⟨y293, q293, ho293⟩ := Kc hm
    refine Kah (Y := Value) (fun z293 => (⟨[(3, .lst 5 (y293.map Kx) (.cur z293)), (4, .lst 7 (x2.map Kr) (.cur w1)), (5, .v (.int .i64 s162.2))], [], [(5, z293), (7, w1)]⟩ : S)) ?_ ?_
    ·clear hm; have hm := KI q293
     refine KG ?_
     obtain ⟨u294, hl294, hq294⟩ := yes_m hm
     refine Kao (Y := Value) hl294 (fun s294 z294 => (⟨[(3, .lst 5 (s294.1.map Kx) (.cur z294)), (4, .lst 7 (x2.map Kr) (.cur w1)), (5, .v (.int .i64 s162.2)), (6, .v (.int .i64 s294.2))], [], [(5, z294), (7, w1)]⟩ : S)) ?_ ?_
     ·skip
      exact WkX.of z162 (WkS.perm (WkS.cons rfl (Wk.refl _) (WkS.cons rfl (Wk.refl _) (WkS.cons rfl (Wk.refl _) (WkS.cons rfl (Wk.refl _) (WkS.nil))))) Pf Pf)
     ·intro G294 s294 z294 hm
      refine Km ?_
      refine Kh ?_
      iterate 3 refine pu ?_
      obtain ⟨x311, q311, hm⟩ := Kc hm
      refine Kad htab rfl rfl rfl rfl rfl rfl rfl rfl rfl rfl (Kd q311) (Kk q311) ?_
      refine p_eq (i := 18) rfl (Wk.of_eq (congrArg D.el (Kp x311))) ?_
      refine pu ?_
      refine KW htab rfl rfl rfl rfl rfl rfl rfl rfl ?_
      refine Kag htab rfl rfl rfl rfl rfl rfl rfl (by first | exact KY | rfl) ?_
      refine pu ?_
      refine Ke ?_
      refine KC rfl (fun hc312 => ?_) (fun hc312 => ?_)
      ·replace hm := yes_t hc312 hm
       refine KB ?_
       refine Kb ?_
       refine Km ?_
       refine KG ?_
       refine Kt ?_
       iterate 3 refine pu ?_
       obtain ⟨x313, q313, hm⟩ := Kc hm
       refine Kad htab rfl rfl rfl rfl rfl rfl rfl rfl rfl rfl (Kd q313) (Kk q313) ?_
       refine p_eq (i := 28) rfl (Wk.of_eq (congrArg D.el (Kp x313))) ?_
       refine pu ?_
       refine KW htab rfl rfl rfl rfl rfl rfl rfl rfl ?_
       refine pu ?_
       obtain ⟨x314, q314, hm⟩ := Kc hm
       refine Kad htab rfl rfl rfl rfl rfl rfl rfl rfl rfl rfl (Kd q314) (Kk q314) ?_
       refine p_eq (i := 32) rfl (Wk.of_eq (congrArg D.el (KK x314))) ?_
       refine KW (d := .agg [.v (.int .i64 x314.gOp), .v (.int .i64 x314.gN), .v (.string x314.gName), .lst 5 (x314.gKids.map Kx) .no, .v (.int .i64 x314.gAt)]) htab rfl rfl rfl rfl rfl rfl rfl rfl ?_
       obtain ⟨x316, q316, hm⟩ := Kc hm
       refine Kby (r11_All_ok x314 x316 q316) rfl rfl rfl rfl rfl (WkL.cons (Wk.trans (Wk.agg (WkR.refl _)) (Wk.of_eq (KK x314).symm)) Wl) Pf Pf ?_
       rintro _ _ _ ⟨w315, rfl, rfl, rfl⟩
       obtain ⟨x317, q317, hm⟩ := Kc hm
       refine Ka4 1 htab rfl rfl rfl rfl rfl rfl rfl rfl rfl rfl rfl rfl rfl rfl rfl rfl rfl (Kal q317) (fun v317 => ?_)
       refine Ka5 (i := 35) q317 rfl ?_
       refine pu ?_
       refine Kv ?_
       refine KM ?_
       refine Kb ?_
       refine Kt ?_
       iterate 3 refine pu ?_
       refine Kv ?_
       refine Kb ⟨_, K0 hm, ?_⟩
       exact WkX.of v317 (WkS.perm (WkS.cons rfl (Wk.refl _) (WkS.cons rfl (Wk.refl _) (WkS.cons rfl (Wk.refl _) (WkS.cons rfl (Wk.refl _) (WkS.nil))))) Pf ((KF (j := 0) rfl).trans (List.Perm.cons _ ((KF (j := 1) rfl).trans (List.Perm.cons _ Pf)))))
      ·replace hm := yes_f hc312 hm
       refine Kaa ?_
       refine KH ?_
       have e294 := K1 hm; subst e294; clear hm; have hm := hq294
       refine KH ?_
       refine K5 ?_
       have e293 := Kj hm; subst e293
       refine ⟨rfl, ?_⟩
       exact WkX.of z294 (WkS.perm (WkS.cons rfl (Wk.refl _) (WkS.cons rfl (Wk.refl _) (WkS.cons rfl (Wk.refl _) (WkS.nil)))) Pf Pf)
    ·intro s293 hw293; clear hm; have hm := ho293; clear q293 ho293
     refine KM ?_
     refine Kb ?_
     refine KV hw293 (fun z293 => ?_)
     refine Kt ?_
     iterate 3 refine pu ?_
     refine Kv ?_
     refine Kb ⟨_, K0 hm, ?_⟩
     exact WkX.of z293 (WkS.perm (WkS.cons rfl (Wk.refl _) (WkS.cons rfl (Wk.refl _) (WkS.cons rfl (Wk.refl _) (WkS.nil)))) Pf Pf)
   ·replace hm := yes_f hc268 hm
    refine Kaa ?_
    refine KH ?_
    have e162 := K1 hm; subst e162; clear hm; have hm := hq162
    refine KH ?_
    refine K5 ?_
    have e161 := Kj hm; subst e161
    refine ⟨rfl, ?_⟩
    exact WkX.of z162 (WkS.perm (WkS.cons rfl (Wk.refl _) (WkS.nil)) Pf Pf)
 ·intro s161 hw161; clear hm; have hm := ho161; clear q161 ho161
  refine Kb ?_
  refine KV hw161 (fun z161 => ?_)
  refine Kh ?_
  refine pu ?_
  refine pu ?_
  refine Ke ?_
  refine KE ?_
  have er318 := Kj hm; subst er318
  refine rP (t' := [(2, .lst 5 (y161.map Kx) (.cur z161))]) [] [0] 0 (wC wN) (lT lN) ?_
  exact ⟨z161, rfl, rfl, rfl⟩
noncomputable def Kd5 (a0 : List Kg) (a1 : Bool) : Option (List ByteArray) :=
 ((Kd3 a0).bind fun x2 => (Option.bind (α := List ByteArray) (loopM (fun (s39 : List ByteArray × Int) => (bif (decide (s39.2 < (x2.length : Int))) then ((idx x2 s39.2).bind fun x64 => (Option.bind (α := ByteArray) (bif a1 then ((idx x2 s39.2).bind fun x69 => some x69.gFunc) else some x64.gName) fun y67 => (bif (!decide (y67 = (ByteArray.mk #[]))) then ((Keu s39.1 y67).bind fun x72 => some (.next (x72, (IntKind.i64.wrap (s39.2 + (1 : Int)))))) else some (.next (s39.1, (IntKind.i64.wrap (s39.2 + (1 : Int)))))))) else some (.done s39.1))) (([] : List ByteArray), (0 : Int))) fun y38 => ((Kd4 a0).bind fun x74 => (Option.bind (α := List ByteArray) (loopM (fun (s107 : List ByteArray × Int) => (Option.bind (α := Bool) (bif (decide (s107.2 < (x74.length : Int))) then some (!a1) else some false) fun y129 => (bif y129 then ((idx x74 s107.2).bind fun x132 => (bif (!decide (x132.gName = (ByteArray.mk #[]))) then ((idx x74 s107.2).bind fun x134 => ((Keu s107.1 x134.gName).bind fun x136 => some (.next (x136, (IntKind.i64.wrap (s107.2 + (1 : Int))))))) else some (.next (s107.1, (IntKind.i64.wrap (s107.2 + (1 : Int))))))) else some (.done s107.1)))) (y38, (0 : Int))) fun y106 => some y106))))
theorem Kjb (a0 : List Kg) (a1 : Bool) (r : List ByteArray) (h0 : Kd5 a0 a1 = some r) : CallsD Tryz.prog 43 [.lst 7 (a0.map Kr) .no, .v (.bool a1)] [] [] (fun d h k => ∃ y0, d = .lst 1 (r.map eStr) (.cur y0) ∧ h = [] ∧ k = [(1, y0)]) := by
 have hm := KI h0
 unfold Kd5 at hm
 clear h0
 refine K3 htab Tryz.func43 rfl rfl rfl rfl rfl (fun C => ?_)
 refine Kh ?_
 refine pu ?_
 refine KP ?_
 refine pu ?_
 refine KP ?_
 refine pu ?_
 obtain ⟨x2, q2, hm⟩ := Kc hm
 refine pG (Kgn a0 x2 q2) Wl Pf Pf ?_
 rintro _ _ _ ⟨w1, rfl, rfl, rfl⟩
 refine pu ?_
 refine Ke ?_
 refine Km ?_
 refine Kh ?_
 refine pu ?_
 refine Ke ?_
 obtain ⟨y38, q38, ho38⟩ := Kc hm
 refine Kah (Y := Value) (fun z38 => (⟨[(0, .lst 7 (a0.map Kr) .no), (1, .v (.bool a1)), (5, .lst 1 (y38.map eStr) (.cur z38))], [], [(1, z38)]⟩ : S)) ?_ ?_
 ·clear hm; have hm := KI q38
  refine KG ?_
  obtain ⟨u39, hl39, hq39⟩ := yes_m hm
  refine Kao (Y := Value) hl39 (fun s39 z39 => (⟨[(0, .lst 7 (a0.map Kr) .no), (1, .v (.bool a1)), (5, .lst 1 (s39.1.map eStr) (.cur z39)), (6, .lst 7 (x2.map Kr) (.cur w1)), (7, .v (.int .i64 s39.2))], [], [(1, z39), (7, w1)]⟩ : S)) ?_ ?_
  ·skip
   refine WkX.tokN (i := 5) 1 rfl (fun w62 => ?_)
   exact WkX.of w62 (WkS.perm (WkS.cons rfl (Wk.refl _) (WkS.cons rfl (Wk.refl _) (WkS.cons rfl (Wk.refl _) (WkS.cons rfl (Wk.refl _) (WkS.cons rfl (Wk.refl _) (WkS.nil)))))) Pf Pf)
  ·intro G39 s39 z39 hm
   refine Km ?_
   refine Kh ?_
   refine pu ?_
   refine pu ?_
   refine Kag htab rfl rfl rfl rfl rfl rfl rfl (by first | exact KY | rfl) ?_
   refine pu ?_
   refine Ke ?_
   refine KC rfl (fun hc63 => ?_) (fun hc63 => ?_)
   ·replace hm := yes_t hc63 hm
    refine KB ?_
    refine Kb ?_
    refine Km ?_
    refine KG ?_
    refine Kh ?_
    refine pu ?_
    refine pu ?_
    obtain ⟨x64, q64, hm⟩ := Kc hm
    refine Kad htab rfl rfl rfl rfl rfl rfl rfl rfl rfl rfl (Kd q64) (Kk q64) ?_
    refine p_eq (i := 21) rfl (Wk.of_eq (congrArg D.el (Kp x64))) ?_
    refine pu ?_
    refine KW htab rfl rfl rfl rfl rfl rfl rfl rfl ?_
    refine pu ?_
    refine Ke ?_
    refine Km ?_
    refine Kh ?_
    refine pu ?_
    refine Ke ?_
    obtain ⟨y67, q67, ho67⟩ := Kc hm
    refine Kah (Y := Unit) (fun z67 => (⟨[(0, .lst 7 (a0.map Kr) .no), (1, .v (.bool a1)), (5, .lst 1 (s39.1.map eStr) (.cur z39)), (6, .lst 7 (x2.map Kr) (.cur w1)), (7, .v (.int .i64 s39.2)), (8, .v (.string y67))], [], [(1, z39), (7, w1)]⟩ : S)) ?_ ?_
    ·clear hm; have hm := KI q67
     refine KC rfl (fun hc68 => ?_) (fun hc68 => ?_)
     ·replace hm := yes_t hc68 hm
      refine Kt ?_
      refine pu ?_
      refine pu ?_
      obtain ⟨x69, q69, hm⟩ := Kc hm
      refine Kad htab rfl rfl rfl rfl rfl rfl rfl rfl rfl rfl (Kd q69) (Kk q69) ?_
      refine p_eq (i := 27) rfl (Wk.of_eq (congrArg D.el (Kp x69))) ?_
      refine pu ?_
      refine KW htab rfl rfl rfl rfl rfl rfl rfl rfl ?_
      refine pu ?_
      refine Kv ?_
      have e67 := Kj hm; subst e67
      refine ⟨rfl, ?_⟩
      exact WkX.of () (WkS.perm (WkS.cons rfl (Wk.refl _) (WkS.cons rfl (Wk.refl _) (WkS.cons rfl (Wk.refl _) (WkS.cons rfl (Wk.refl _) (WkS.cons rfl (Wk.refl _) (WkS.cons rfl (Wk.refl _) (WkS.nil))))))) Pf Pf)
     ·replace hm := yes_f hc68 hm
      refine KB ?_
      have e67 := Kj hm; subst e67
      refine ⟨rfl, ?_⟩
      exact WkX.of () (WkS.perm (WkS.cons rfl (Wk.refl _) (WkS.cons rfl (Wk.refl _) (WkS.cons rfl (Wk.refl _) (WkS.cons rfl (Wk.refl _) (WkS.cons rfl (Wk.refl _) (WkS.cons rfl (Wk.refl _) (WkS.nil))))))) Pf Pf)
    ·intro s67 hw67; clear hm; have hm := ho67; clear q67 ho67
     refine Kb ?_
     refine KV hw67 (fun z67 => ?_)
     refine Kh ?_
     refine pu ?_
     refine pu ?_
     refine Ke ?_
     refine KC rfl (fun hc70 => ?_) (fun hc70 => ?_)
     ·replace hm := yes_t hc70 hm
      refine Kt ?_
      refine pu ?_
      refine pu ?_
      obtain ⟨x72, q72, hm⟩ := Kc hm
      refine Kby (Kh3 s39.1 y67 x72 q72) rfl rfl rfl rfl rfl (WkL.cons (Wk.no) (WkL.cons (Wk.refl _) Wl)) Pf Pf ?_
      rintro _ _ _ ⟨w71, rfl, rfl, rfl⟩
      refine pu ?_
      refine Kv ?_
      refine KM ?_
      refine Kb ?_
      refine Kt ?_
      iterate 3 refine pu ?_
      refine Kv ?_
      refine Kb ⟨_, K0 hm, ?_⟩
      exact WkX.of w71 (WkS.perm (WkS.cons rfl (Wk.refl _) (WkS.cons rfl (Wk.refl _) (WkS.cons rfl (Wk.refl _) (WkS.cons rfl (Wk.refl _) (WkS.cons rfl (Wk.refl _) (WkS.nil)))))) Pf ((KF (j := 0) rfl).trans (List.Perm.cons _ ((KF (j := 1) rfl).trans (List.Perm.cons _ Pf)))))
     ·replace hm := yes_f hc70 hm
      refine KB ?_
      refine KM ?_
      refine Kb ?_
      refine Kt ?_
      iterate 3 refine pu ?_
      refine Kv ?_
      refine Kb ⟨_, K0 hm, ?_⟩
      exact WkX.of z39 (WkS.perm (WkS.cons rfl (Wk.refl _) (WkS.cons rfl (Wk.refl _) (WkS.cons rfl (Wk.refl _) (WkS.cons rfl (Wk.refl _) (WkS.cons rfl (Wk.refl _) (WkS.nil)))))) Pf Pf)
   ·replace hm := yes_f hc63 hm
    refine Kaa ?_
    refine KH ?_
    have e39 := K1 hm; subst e39; clear hm; have hm := hq39
    refine KH ?_
    refine K5 ?_
    have e38 := Kj hm; subst e38
    refine ⟨rfl, ?_⟩
    exact WkX.of z39 (WkS.perm (WkS.cons rfl (Wk.refl _) (WkS.cons rfl (Wk.refl _) (WkS.cons rfl (Wk.refl _) (WkS.nil)))) Pf Pf)
 ·intro s38 hw38; clear hm; have hm := ho38; clear q38 ho38
  refine Kb ?_
  refine KV hw38 (fun z38 => ?_)
  refine Kh ?_
  refine pu ?_
  obtain ⟨x74, q74, hm⟩ := Kc hm
  refine pG (Kja a0 x74 q74) Wl Pf Pf ?_
  rintro _ _ _ ⟨w73, rfl, rfl, rfl⟩
  refine pu ?_
  refine Ke ?_
  refine Km ?_
  refine Kh ?_
  refine pu ?_
  refine Ke ?_
  obtain ⟨y106, q106, ho106⟩ := Kc hm
  refine Kah (Y := Value) (fun z106 => (⟨[(5, .lst 1 (y106.map eStr) (.cur z106))], [], [(1, z106)]⟩ : S)) ?_ ?_
  ·clear hm; have hm := KI q106
   refine KG ?_
   obtain ⟨u107, hl107, hq107⟩ := yes_m hm
   refine Kao (Y := Value) hl107 (fun s107 z107 => (⟨[(1, .v (.bool a1)), (5, .lst 1 (s107.1.map eStr) (.cur z107)), (9, .lst 5 (x74.map Kx) (.cur w73)), (10, .v (.int .i64 s107.2))], [], [(1, z107), (5, w73)]⟩ : S)) ?_ ?_
   ·skip
    exact WkX.of z38 (WkS.perm (WkS.cons rfl (Wk.refl _) (WkS.cons rfl (Wk.refl _) (WkS.cons rfl (Wk.refl _) (WkS.cons rfl (Wk.refl _) (WkS.nil))))) Pf ((KF (j := 1) rfl).trans (List.Perm.cons _ ((KF (j := 0) rfl).trans (List.Perm.cons _ Pf)))))
   ·intro G107 s107 z107 hm
    refine Km ?_
    refine Km ?_
    obtain ⟨y129, q129, ho129⟩ := Kc hm
    refine Kah (Y := Unit) (fun z129 => (⟨[(1, .v (.bool a1)), (5, .lst 1 (s107.1.map eStr) (.cur z107)), (9, .lst 5 (x74.map Kx) (.cur w73)), (10, .v (.int .i64 s107.2)), (44, .v (.bool y129))], [], [(1, z107), (5, w73)]⟩ : S)) ?_ ?_
    ·clear hm; have hm := KI q129
     refine Kt ?_
     refine pu ?_
     refine pu ?_
     refine Kag htab rfl rfl rfl rfl rfl rfl rfl (by first | exact KY | rfl) ?_
     refine pu ?_
     refine pu ?_
     refine KaE (i := 41) rfl (fun hg130 => ?_) (fun hg130 => ?_)
     ·replace hm := yes_t hg130 hm
      refine pu ?_
      refine pu ?_
      refine Kab rfl rfl rfl rfl rfl rfl ?_
      refine Kv ?_
      have e129 := Kj hm; subst e129
      refine ⟨rfl, ?_⟩
      exact WkX.of () (WkS.perm (WkS.cons rfl (Wk.refl _) (WkS.cons rfl (Wk.refl _) (WkS.cons rfl (Wk.refl _) (WkS.cons rfl (Wk.refl _) (WkS.cons rfl (Wk.refl _) (WkS.nil)))))) Pf Pf)
     ·replace hm := yes_f hg130 hm
      refine pK ?_
      refine pK ?_
      refine K9 rfl rfl rfl rfl rfl rfl ?_
      refine Kv ?_
      have e129 := Kj hm; subst e129
      refine ⟨rfl, ?_⟩
      exact WkX.of () (WkS.perm (WkS.cons rfl (Wk.refl _) (WkS.cons rfl (Wk.refl _) (WkS.cons rfl (Wk.refl _) (WkS.cons rfl (Wk.refl _) (WkS.cons rfl (Wk.refl _) (WkS.nil)))))) Pf Pf)
    ·intro s129 hw129; clear hm; have hm := ho129; clear q129 ho129
     refine Kb ?_
     refine KV hw129 (fun z129 => ?_)
     refine KC rfl (fun hc131 => ?_) (fun hc131 => ?_)
     ·replace hm := yes_t hc131 hm
      refine KB ?_
      refine Kb ?_
      refine Km ?_
      refine KG ?_
      refine Kh ?_
      refine pu ?_
      refine pu ?_
      obtain ⟨x132, q132, hm⟩ := Kc hm
      refine Kad htab rfl rfl rfl rfl rfl rfl rfl rfl rfl rfl (Kd q132) (Kk q132) ?_
      refine p_eq (i := 49) rfl (Wk.of_eq (congrArg D.el (KK x132))) ?_
      refine pu ?_
      refine KW htab rfl rfl rfl rfl rfl rfl rfl rfl ?_
      refine pu ?_
      refine Ke ?_
      refine KC rfl (fun hc133 => ?_) (fun hc133 => ?_)
      ·replace hm := yes_t hc133 hm
       refine Kt ?_
       iterate 3 refine pu ?_
       obtain ⟨x134, q134, hm⟩ := Kc hm
       refine Kad htab rfl rfl rfl rfl rfl rfl rfl rfl rfl rfl (Kd q134) (Kk q134) ?_
       refine p_eq (i := 56) rfl (Wk.of_eq (congrArg D.el (KK x134))) ?_
       refine pu ?_
       refine KW htab rfl rfl rfl rfl rfl rfl rfl rfl ?_
       obtain ⟨x136, q136, hm⟩ := Kc hm
       refine Kby (Kh3 s107.1 x134.gName x136 q136) rfl rfl rfl rfl rfl (WkL.cons (Wk.no) (WkL.cons (Wk.refl _) Wl)) Pf Pf ?_
       rintro _ _ _ ⟨w135, rfl, rfl, rfl⟩
       refine pu ?_
       refine Kv ?_
       refine KM ?_
       refine Kb ?_
       refine Kt ?_
       iterate 3 refine pu ?_
       refine Kv ?_
       refine Kb ⟨_, K0 hm, ?_⟩
       exact WkX.of w135 (WkS.perm (WkS.cons rfl (Wk.refl _) (WkS.cons rfl (Wk.refl _) (WkS.cons rfl (Wk.refl _) (WkS.cons rfl (Wk.refl _) (WkS.nil))))) Pf ((KF (j := 0) rfl).trans (List.Perm.cons _ ((KF (j := 1) rfl).trans (List.Perm.cons _ Pf)))))
      ·replace hm := yes_f hc133 hm
       refine KB ?_
       refine KM ?_
       refine Kb ?_
       refine Kt ?_
       iterate 3 refine pu ?_
       refine Kv ?_
       refine Kb ⟨_, K0 hm, ?_⟩
       exact WkX.of z107 (WkS.perm (WkS.cons rfl (Wk.refl _) (WkS.cons rfl (Wk.refl _) (WkS.cons rfl (Wk.refl _) (WkS.cons rfl (Wk.refl _) (WkS.nil))))) Pf Pf)
     ·replace hm := yes_f hc131 hm
      refine Kaa ?_
      refine KH ?_
      have e107 := K1 hm; subst e107; clear hm; have hm := hq107
      refine KH ?_
      refine K5 ?_
      have e106 := Kj hm; subst e106
      refine ⟨rfl, ?_⟩
      exact WkX.of z107 (WkS.perm (WkS.cons rfl (Wk.refl _) (WkS.nil)) Pf Pf)
  ·intro s106 hw106; clear hm; have hm := ho106; clear q106 ho106
   refine Kb ?_
   refine KV hw106 (fun z106 => ?_)
   refine Kh ?_
   refine pu ?_
   refine pu ?_
   refine Ke ?_
   refine KE ?_
   have er137 := Kj hm; subst er137
   refine rP (t' := [(4, .lst 1 (y106.map eStr) (.cur z106))]) [] [0] 0 (wC wN) (lT lN) ?_
   exact ⟨z106, rfl, rfl, rfl⟩
noncomputable def Kd6 (a0 : List ByteArray) (a1 : ByteArray) : Option (Bool) :=
 (Option.bind (α := (Unit) ⊕ (Bool)) (loopM (fun (s15 : Int) => (bif (decide (s15 < (a0.length : Int))) then ((idx a0 s15).bind fun x25 => (bif (decide (x25 = a1)) then some (.done (.inr true)) else some (.next (IntKind.i64.wrap (s15 + (1 : Int)))))) else some (.done (.inl ())))) (0 : Int)) (Sum.elim (fun y14 => some false) (fun r => some r)))
theorem Ke5 (a0 : List ByteArray) (a1 : ByteArray) (r : Bool) (h0 : Kd6 a0 a1 = some r) : CallsD Tryz.prog 25 [.lst 1 (a0.map eStr) .no, .v (.string a1)] [] [] (fun d h k => d = .v (.bool r) ∧ h = [] ∧ k = []) := by
 have hm := KI h0
 unfold Kd6 at hm
 clear h0
 refine K3 htab Tryz.func25 rfl rfl rfl rfl rfl (fun C => ?_)
 refine Kh ?_
 refine pu ?_
 refine Ke ?_
 refine Km ?_
 refine Kh ?_
 refine pu ?_
 refine Ke ?_
 obtain ⟨x14, q14, ho14⟩ := Kc hm
 refine Kbi (τ := Unit) (Y := Unit) (fun y14 z14 => (⟨[], [], []⟩ : S)) x14 ?_ ?_
 ·clear hm; have hm := KI q14
  refine KG ?_
  obtain ⟨u15, hl15, hq15⟩ := yes_m hm
  refine Kao (Y := Unit) hl15 (fun s15 z15 => (⟨[(0, .lst 1 (a0.map eStr) .no), (1, .v (.string a1)), (5, .v (.int .i64 s15))], [], []⟩ : S)) ?_ ?_
  ·skip
   exact WkX.of () (WkS.perm (WkS.cons rfl (Wk.refl _) (WkS.cons rfl (Wk.refl _) (WkS.cons rfl (Wk.refl _) (WkS.nil)))) Pf Pf)
  ·intro G15 s15 z15 hm
   refine Km ?_
   refine Kh ?_
   refine pu ?_
   refine pu ?_
   refine Kag htab rfl rfl rfl rfl rfl rfl rfl (by first | exact KY | rfl) ?_
   refine pu ?_
   refine Ke ?_
   refine KC rfl (fun hc24 => ?_) (fun hc24 => ?_)
   ·replace hm := yes_t hc24 hm
    refine KB ?_
    refine Kb ?_
    refine Km ?_
    refine KG ?_
    refine Kh ?_
    refine pu ?_
    refine pu ?_
    obtain ⟨x25, q25, hm⟩ := Kc hm
    refine Kad htab rfl rfl rfl rfl rfl rfl rfl rfl rfl rfl (Kd q25) (Kk q25) ?_
    refine KW htab rfl rfl rfl rfl rfl rfl rfl rfl ?_
    refine pu ?_
    refine pu ?_
    refine Ke ?_
    refine KC rfl (fun hc26 => ?_) (fun hc26 => ?_)
    ·replace hm := yes_t hc26 hm
     refine Kh ?_
     refine pu ?_
     refine Ke ?_
     refine KE ?_
     refine Kan ?_
     refine KS ?_
     have e15 := K1 hm; subst e15; clear hm; have hm := hq15
     refine KS ?_
     refine Kan ?_
     have e14 := Kj hm; subst e14; refine Kbk ?_; clear hm; have hm := ho14; simp only [Sum.elim_inr] at hm
     refine KS ?_
     have er27 := Kj hm; subst er27
     refine rP (t' := [(4, .v (.bool true))]) [] [] 0 (wC wN) (lT lN) ?_
     exact ⟨rfl, rfl, rfl⟩
    ·replace hm := yes_f hc26 hm
     refine KB ?_
     refine KM ?_
     refine Kb ?_
     refine Kt ?_
     iterate 3 refine pu ?_
     refine Kv ?_
     refine Kb ⟨_, K0 hm, ?_⟩
     exact WkX.of () (WkS.perm (WkS.cons rfl (Wk.refl _) (WkS.cons rfl (Wk.refl _) (WkS.cons rfl (Wk.refl _) (WkS.nil)))) Pf Pf)
   ·replace hm := yes_f hc24 hm
    refine Kaa ?_
    refine KH ?_
    have e15 := K1 hm; subst e15; clear hm; have hm := hq15
    refine KH ?_
    refine K5 ?_
    have e14 := Kj hm; subst e14
    refine Kbj ?_
    exact WkX.of () (WkS.perm (WkS.nil) Pf Pf)
 ·intro y14 s14 hx14 hw14; subst hx14; clear hm; have hm := ho14; simp only [Sum.elim_inl] at hm; clear q14 ho14
  refine Kb ?_
  refine KV hw14 (fun z14 => ?_)
  refine Kh ?_
  refine pu ?_
  refine Ke ?_
  refine KE ?_
  have er28 := Kj hm; subst er28
  refine rP (t' := [(4, .v (.bool false))]) [] [] 0 (wC wN) (lT lN) ?_
  exact ⟨rfl, rfl, rfl⟩
noncomputable def Kdf (a0 : Kw) (a1 : Kw) : Option (List ByteArray) :=
 ((KeT a0 a1 true).bind fun x4 => ((KeT a0 a1 false).bind fun x6 => ((app 96 ([] : List KQ) a0.gFuncs).bind fun x7 => ((app 96 x7 a1.gFuncs).bind fun x8 => (Option.bind (α := List ByteArray) (loopM (fun (s174 : List ByteArray × Int) => (bif (decide (s174.2 < (x8.length : Int))) then ((idx x8 s174.2).bind fun x284 => ((Kd5 x284.gBody false).bind fun x286 => (Option.bind (α := List ByteArray) (loopM (fun (s312 : List ByteArray × Int) => (bif (decide (s312.2 < (x6.length : Int))) then ((idx x6 s312.2).bind fun x330 => ((Kd6 x286 x330).bind fun x331 => (bif x331 then ((idx x8 s174.2).bind fun x333 => ((KdN s312.1 x333.gName).bind fun x335 => some (.next (x335, (IntKind.i64.wrap (s312.2 + (1 : Int))))))) else some (.next (s312.1, (IntKind.i64.wrap (s312.2 + (1 : Int)))))))) else some (.done s312.1))) (s174.1, (0 : Int))) fun y311 => some (.next (y311, (IntKind.i64.wrap (s174.2 + (1 : Int)))))))) else some (.done s174.1))) (x4, (0 : Int))) fun y173 => some y173)))))
theorem Kif (a0 : Kw) (a1 : Kw) (r : List ByteArray) (h0 : Kdf a0 a1 = some r) : CallsD Tryz.prog 23 [Ku a0, Ku a1] [] [] (fun d h k => ∃ y0, d = .lst 1 (r.map eStr) (.cur y0) ∧ h = [] ∧ k = [(1, y0)]) := by
 have hm := KI h0
 unfold Kdf at hm
 clear h0
 refine K3 htab Tryz.func23 rfl rfl rfl rfl rfl (fun C => ?_)
 refine Kh ?_
 refine p_box rfl rfl rfl rfl rfl rfl rfl (fun b1 => ?_)
 refine p_box rfl rfl rfl rfl rfl rfl rfl (fun b2 => ?_)
 refine pu ?_
 refine KP ?_
 refine KaD (d := Ku a0) 0 htab rfl rfl rfl rfl rfl rfl rfl rfl ?_
 refine KaD (d := Ku a1) 1 htab rfl rfl rfl rfl rfl rfl rfl rfl ?_
 obtain ⟨x4, q4, hm⟩ := Kc hm
 refine pG (Kgm a0 a1 true x4 q4) Wl Pf Pf ?_
 rintro _ _ _ ⟨w3, rfl, rfl, rfl⟩
 refine pu ?_
 refine KP ?_
 refine KaD (d := Ku a0) 0 htab rfl rfl rfl rfl rfl rfl rfl rfl ?_
 refine KaD (d := Ku a1) 1 htab rfl rfl rfl rfl rfl rfl rfl rfl ?_
 obtain ⟨x6, q6, hm⟩ := Kc hm
 refine pG (Kgm a0 a1 false x6 q6) Wl Pf Pf ?_
 rintro _ _ _ ⟨w5, rfl, rfl, rfl⟩
 refine pu ?_
 refine KP ?_
 refine pu ?_
 refine KP ?_
 refine pu ?_
 refine pu ?_
 refine pL 0 ?_
 obtain ⟨x7, q7, hm⟩ := Kc hm
 refine p_app0 htab rfl rfl rfl rfl rfl rfl rfl rfl rfl rfl rfl rfl rfl rfl rfl (by simpa using Kal (e := KA) q7) (fun v7 => ?_)
 refine p_mapD0 (i := 20) q7 rfl ?_
 refine pu ?_
 refine KP ?_
 refine pu ?_
 refine pu ?_
 refine pL 1 ?_
 obtain ⟨x8, q8, hm⟩ := Kc hm
 refine Ka4 0 htab rfl rfl rfl rfl rfl rfl rfl rfl rfl rfl rfl rfl rfl rfl rfl rfl rfl (Kal q8) (fun v8 => ?_)
 refine Ka5 (i := 24) q8 rfl ?_
 refine pu ?_
 refine Ke ?_
 refine Km ?_
 refine Kh ?_
 refine pu ?_
 refine Ke ?_
 obtain ⟨y173, q173, ho173⟩ := Kc hm
 refine Kah (Y := Value) (fun z173 => (⟨[(5, .lst 1 (y173.map eStr) (.cur z173))], [], [(1, z173)]⟩ : S)) ?_ ?_
 ·clear hm; have hm := KI q173
  refine KG ?_
  obtain ⟨u174, hl174, hq174⟩ := yes_m hm
  refine Kao (Y := Value) hl174 (fun s174 z174 => (⟨[(5, .lst 1 (s174.1.map eStr) (.cur z174)), (6, .lst 1 (x6.map eStr) (.cur w5)), (7, .lst 5 (x8.map KA) (.cur v8)), (8, .v (.int .i64 s174.2))], [], [(1, z174), (5, v8), (1, w5)]⟩ : S)) ?_ ?_
  ·skip
   exact WkX.of w3 (WkS.perm (WkS.cons rfl (Wk.refl _) (WkS.cons rfl (Wk.refl _) (WkS.cons rfl (Wk.refl _) (WkS.cons rfl (Wk.refl _) (WkS.nil))))) Pf ((KF (j := 2) rfl).trans (List.Perm.cons _ ((KF (j := 0) rfl).trans (List.Perm.cons _ ((KF (j := 0) rfl).trans (List.Perm.cons _ Pf)))))))
  ·intro G174 s174 z174 hm
   refine Km ?_
   refine Kh ?_
   refine pu ?_
   refine pu ?_
   refine Kag htab rfl rfl rfl rfl rfl rfl rfl (by first | exact KY | rfl) ?_
   refine pu ?_
   refine Ke ?_
   refine KC rfl (fun hc283 => ?_) (fun hc283 => ?_)
   ·replace hm := yes_t hc283 hm
    refine KB ?_
    refine Kb ?_
    refine Km ?_
    refine KG ?_
    refine Kh ?_
    refine pu ?_
    refine pu ?_
    obtain ⟨x284, q284, hm⟩ := Kc hm
    refine Kad htab rfl rfl rfl rfl rfl rfl rfl rfl rfl rfl (Kd q284) (Kk q284) ?_
    refine pu ?_
    refine KW htab rfl rfl rfl rfl rfl rfl rfl rfl ?_
    obtain ⟨x286, q286, hm⟩ := Kc hm
    refine pG (Kjb x284.gBody false x286 q286) Wl Pf Pf ?_
    rintro _ _ _ ⟨w285, rfl, rfl, rfl⟩
    refine pu ?_
    refine KP ?_
    refine pu ?_
    refine Ke ?_
    obtain ⟨y311, q311, ho311⟩ := Kc hm
    refine Kah (Y := Value) (fun z311 => (⟨[(5, .lst 1 (y311.map eStr) (.cur z311)), (6, .lst 1 (x6.map eStr) (.cur w5)), (7, .lst 5 (x8.map KA) (.cur v8)), (8, .v (.int .i64 s174.2))], [], [(1, z311), (5, v8), (1, w5)]⟩ : S)) ?_ ?_
    ·clear hm; have hm := KI q311
     refine KG ?_
     obtain ⟨u312, hl312, hq312⟩ := yes_m hm
     refine Kao (Y := Value) hl312 (fun s312 z312 => (⟨[(5, .lst 1 (s312.1.map eStr) (.cur z312)), (6, .lst 1 (x6.map eStr) (.cur w5)), (7, .lst 5 (x8.map KA) (.cur v8)), (8, .v (.int .i64 s174.2)), (9, .lst 1 (x286.map eStr) (.cur w285)), (10, .v (.int .i64 s312.2))], [], [(1, z312), (1, w285), (5, v8), (1, w5)]⟩ : S)) ?_ ?_
     ·skip
      exact WkX.of z174 (WkS.perm (WkS.cons rfl (Wk.refl _) (WkS.cons rfl (Wk.refl _) (WkS.cons rfl (Wk.refl _) (WkS.cons rfl (Wk.refl _) (WkS.cons rfl (Wk.refl _) (WkS.cons rfl (Wk.refl _) (WkS.nil))))))) Pf ((KF (j := 1) rfl).trans (List.Perm.cons _ ((KF (j := 0) rfl).trans (List.Perm.cons _ ((KF (j := 0) rfl).trans (List.Perm.cons _ ((KF (j := 0) rfl).trans (List.Perm.cons _ Pf)))))))))
     ·intro G312 s312 z312 hm
      refine Km ?_
      refine Kh ?_
      refine pu ?_
      refine pu ?_
      refine Kag htab rfl rfl rfl rfl rfl rfl rfl (by first | exact KY | rfl) ?_
      refine pu ?_
      refine Ke ?_
      refine KC rfl (fun hc329 => ?_) (fun hc329 => ?_)
      ·replace hm := yes_t hc329 hm
       refine KB ?_
       refine Kb ?_
       refine Km ?_
       refine KG ?_
       refine Kh ?_
       iterate 3 refine pu ?_
       obtain ⟨x330, q330, hm⟩ := Kc hm
       refine Kad htab rfl rfl rfl rfl rfl rfl rfl rfl rfl rfl (Kd q330) (Kk q330) ?_
       refine KW htab rfl rfl rfl rfl rfl rfl rfl rfl ?_
       obtain ⟨x331, q331, hm⟩ := Kc hm
       refine Kaj (Ke5 x286 x330 x331 q331) rfl rfl rfl rfl rfl (WkL.cons (Wk.no) (WkL.cons (Wk.refl _) Wl)) ?_
       rintro _ rfl
       refine Ke ?_
       refine KC rfl (fun hc332 => ?_) (fun hc332 => ?_)
       ·replace hm := yes_t hc332 hm
        refine Kt ?_
        iterate 3 refine pu ?_
        obtain ⟨x333, q333, hm⟩ := Kc hm
        refine Kad htab rfl rfl rfl rfl rfl rfl rfl rfl rfl rfl (Kd q333) (Kk q333) ?_
        refine pu ?_
        refine KW htab rfl rfl rfl rfl rfl rfl rfl rfl ?_
        obtain ⟨x335, q335, hm⟩ := Kc hm
        refine Kby (Kh2 s312.1 x333.gName x335 q335) rfl rfl rfl rfl rfl (WkL.cons (Wk.no) (WkL.cons (Wk.refl _) Wl)) Pf Pf ?_
        rintro _ _ _ ⟨w334, rfl, rfl, rfl⟩
        refine pu ?_
        refine Kv ?_
        refine KM ?_
        refine Kb ?_
        refine Kt ?_
        iterate 3 refine pu ?_
        refine Kv ?_
        refine Kb ⟨_, K0 hm, ?_⟩
        exact WkX.of w334 (WkS.perm (WkS.cons rfl (Wk.refl _) (WkS.cons rfl (Wk.refl _) (WkS.cons rfl (Wk.refl _) (WkS.cons rfl (Wk.refl _) (WkS.cons rfl (Wk.refl _) (WkS.cons rfl (Wk.refl _) (WkS.nil))))))) Pf ((KF (j := 0) rfl).trans (List.Perm.cons _ ((KF (j := 1) rfl).trans (List.Perm.cons _ ((KF (j := 1) rfl).trans (List.Perm.cons _ ((KF (j := 1) rfl).trans (List.Perm.cons _ Pf)))))))))
       ·replace hm := yes_f hc332 hm
        refine KB ?_
        refine KM ?_
        refine Kb ?_
        refine Kt ?_
        iterate 3 refine pu ?_
        refine Kv ?_
        refine Kb ⟨_, K0 hm, ?_⟩
        exact WkX.of z312 (WkS.perm (WkS.cons rfl (Wk.refl _) (WkS.cons rfl (Wk.refl _) (WkS.cons rfl (Wk.refl _) (WkS.cons rfl (Wk.refl _) (WkS.cons rfl (Wk.refl _) (WkS.cons rfl (Wk.refl _) (WkS.nil))))))) Pf Pf)
      ·replace hm := yes_f hc329 hm
       refine Kaa ?_
       refine KH ?_
       have e312 := K1 hm; subst e312; clear hm; have hm := hq312
       refine KH ?_
       refine K5 ?_
       have e311 := Kj hm; subst e311
       refine ⟨rfl, ?_⟩
       exact WkX.of z312 (WkS.perm (WkS.cons rfl (Wk.refl _) (WkS.cons rfl (Wk.refl _) (WkS.cons rfl (Wk.refl _) (WkS.cons rfl (Wk.refl _) (WkS.nil))))) Pf ((KF (j := 0) rfl).trans (List.Perm.cons _ ((KF (j := 1) rfl).trans (List.Perm.cons _ ((KF (j := 1) rfl).trans (List.Perm.cons _ Pf)))))))
    ·intro s311 hw311; clear hm; have hm := ho311; clear q311 ho311
     refine KM ?_
     refine Kb ?_
     refine KV hw311 (fun z311 => ?_)
     refine Kt ?_
     iterate 3 refine pu ?_
     refine Kv ?_
     refine Kb ⟨_, K0 hm, ?_⟩
     exact WkX.of z311 (WkS.perm (WkS.cons rfl (Wk.refl _) (WkS.cons rfl (Wk.refl _) (WkS.cons rfl (Wk.refl _) (WkS.cons rfl (Wk.refl _) (WkS.nil))))) Pf Pf)
   ·replace hm := yes_f hc283 hm
    refine Kaa ?_
    refine KH ?_
    have e174 := K1 hm; subst e174; clear hm; have hm := hq174
    refine KH ?_
    refine K5 ?_
    have e173 := Kj hm; subst e173
    refine ⟨rfl, ?_⟩
    exact WkX.of z174 (WkS.perm (WkS.cons rfl (Wk.refl _) (WkS.nil)) Pf Pf)
 ·intro s173 hw173; clear hm; have hm := ho173; clear q173 ho173
  refine Kb ?_
  refine KV hw173 (fun z173 => ?_)
  refine Kh ?_
  refine pu ?_
  refine pu ?_
  refine Ke ?_
  refine KE ?_
  have er336 := Kj hm; subst er336
  refine rP (t' := [(4, .lst 1 (y173.map eStr) (.cur z173))]) [] [0] 0 (wC wN) (lT lN) ?_
  exact ⟨z173, rfl, rfl, rfl⟩
noncomputable def Kcf (a0 : Ka) : Option (Ka) :=
 (bif (decide (a0.gNode < (0 : Int))) then some (⟨a0.gName, (-1 : Int)⟩ : Ka) else some a0)
theorem KcV (a0 : Ka) (r : Ka) (h0 : Kcf a0 = some r) : CallsD Tryz.prog 29 [Kf a0] [] [] (fun d h k => d = Kf r ∧ h = [] ∧ k = []) := by
 have hm := KI h0
 unfold Kcf at hm
 clear h0
 refine K3 htab Tryz.func29 rfl rfl rfl rfl rfl (fun C => ?_)
 refine Kh ?_
 refine p_box rfl rfl rfl rfl rfl rfl rfl (fun b1 => ?_)
 refine Kay htab rfl rfl rfl rfl rfl rfl rfl (fun b2 => ?_)
 refine Ke ?_
 refine Km ?_
 refine Kh ?_
 refine pu ?_
 refine pL 0 ?_
 refine pu ?_
 refine Ke ?_
 refine KC rfl (fun hc3 => ?_) (fun hc3 => ?_)
 ·replace hm := yes_t hc3 hm
  refine Kh ?_
  refine pu ?_
  refine pL 0 ?_
  refine Kb8 (r := [.v (.string a0.gName), .v (.int .i64 (-1 : Int))]) htab rfl rfl rfl rfl rfl rfl rfl rfl rfl ?_
  refine pS1 (ds' := [.v (.string a0.gName), .v (.int .i64 (-1 : Int))]) ?_
  refine Ke ?_
  refine KE ?_
  refine KS ?_
  have er4 := Kj hm; subst er4
  refine rP (t' := [(2, .ptr b2 0)]) [1] [] 0 (wC wN) (lC 0 lN) ?_
  exact ⟨rfl, rfl, rfl⟩
 ·replace hm := yes_f hc3 hm
  refine KB ?_
  refine Kb ?_
  refine Kh ?_
  refine KaD (d := Kf a0) 0 htab rfl rfl rfl rfl rfl rfl rfl rfl ?_
  refine pS1 (ds' := [.v (.string a0.gName), .v (.int .i64 a0.gNode)]) ?_
  refine Ke ?_
  refine KE ?_
  have er5 := Kj hm; subst er5
  refine rP (t' := [(2, .ptr b2 0)]) [1] [] 0 (wC wN) (lC 0 lN) ?_
  exact ⟨rfl, rfl, rfl⟩
noncomputable def KeU (a0 : Ka) (a1 : Ka) : Option (Bool) :=
 (bif (!decide (a0.gName = a1.gName)) then some (ltB a0.gName a1.gName) else some (decide (a0.gNode < a1.gNode)))
theorem Kjs (a0 : Ka) (a1 : Ka) (r : Bool) (h0 : KeU a0 a1 = some r) : CallsD Tryz.prog 47 [Kf a0, Kf a1] [] [] (fun d h k => d = .v (.bool r) ∧ h = [] ∧ k = []) := by
 have hm := KI h0
 unfold KeU at hm
 clear h0
 refine K3 htab Tryz.func47 rfl rfl rfl rfl rfl (fun C => ?_)
 refine Kh ?_
 refine p_box rfl rfl rfl rfl rfl rfl rfl (fun b1 => ?_)
 refine p_box rfl rfl rfl rfl rfl rfl rfl (fun b2 => ?_)
 refine pu ?_
 refine Ke ?_
 refine Km ?_
 refine Kh ?_
 refine pu ?_
 refine pL 0 ?_
 refine pu ?_
 refine pL 1 ?_
 refine pu ?_
 refine Ke ?_
 refine KC rfl (fun hc4 => ?_) (fun hc4 => ?_)
 ·replace hm := yes_t hc4 hm
  refine Kh ?_
  refine pu ?_
  refine pL 0 ?_
  refine pu ?_
  refine pL 1 ?_
  refine p_ltS rfl rfl rfl rfl rfl rfl rfl ?_
  refine pu ?_
  refine Ke ?_
  refine KE ?_
  refine KS ?_
  have er5 := Kj hm; subst er5
  refine rP (t' := [(4, .v (.bool (ltB a0.gName a1.gName)))]) [] [] 0 (wC wN) (lT lN) ?_
  exact ⟨rfl, rfl, rfl⟩
 ·replace hm := yes_f hc4 hm
  refine KB ?_
  refine Kb ?_
  refine Kh ?_
  refine pu ?_
  refine pL 0 ?_
  refine pu ?_
  refine pL 1 ?_
  refine pu ?_
  refine pu ?_
  refine Ke ?_
  refine KE ?_
  have er6 := Kj hm; subst er6
  refine rP (t' := [(4, .v (.bool (decide (a0.gNode < a1.gNode))))]) [] [] 0 (wC wN) (lT lN) ?_
  exact ⟨rfl, rfl, rfl⟩
noncomputable def Kft (a0 : List Ka) (a1 : Ka) : Option (List Ka) :=
 ((Kcf a1).bind fun x2 => (Option.bind (α := List Ka) (loopM (fun (s39 : List Ka × Int) => (Option.bind (α := Bool) (bif (decide (s39.2 < (a0.length : Int))) then ((idx a0 s39.2).bind fun x68 => ((KeU x68 x2).bind fun x69 => some x69)) else some false) fun y66 => (bif y66 then ((idx a0 s39.2).bind fun x71 => ((app 24 s39.1 ([x71] : List Ka)).bind fun x72 => some (.next (x72, (IntKind.i64.wrap (s39.2 + (1 : Int))))))) else some (.done s39.1)))) (([] : List Ka), (0 : Int))) fun y38 => ((app 24 y38 ([x2] : List Ka)).bind fun x73 => (Option.bind (α := List Ka) (loopM (fun (s94 : List Ka × Int) => (bif (decide (s94.2 < (a0.length : Int))) then ((idx a0 s94.2).bind fun x108 => (bif (!(decide (x108.gName = x2.gName) && (x108.gNode == x2.gNode && true))) then ((idx a0 s94.2).bind fun x110 => ((app 24 s94.1 ([x110] : List Ka)).bind fun x111 => some (.next (x111, (IntKind.i64.wrap (s94.2 + (1 : Int))))))) else some (.next (s94.1, (IntKind.i64.wrap (s94.2 + (1 : Int))))))) else some (.done s94.1))) (x73, (y38.length : Int))) fun y93 => some y93))))
theorem r26_Put_ok (a0 : List Ka) (a1 : Ka) (r : List Ka) (h0 : Kft a0 a1 = some r) : CallsD Tryz.prog 26 [.lst 2 (a0.map Kf) .no, Kf a1] [] [] (fun d h k => ∃ y0, d = .lst 2 (r.map Kf) (.cur y0) ∧ h = [] ∧ k = [(2, y0)]) := by
 have hm := KI h0
 unfold Kft at hm
 clear h0
 refine K3 htab Tryz.func26 rfl rfl rfl rfl rfl (fun C => ?_)
 refine Kh ?_
 refine p_box rfl rfl rfl rfl rfl rfl rfl (fun b1 => ?_)
 refine pu ?_
 refine KP ?_
 refine KaD (d := Kf a1) 0 htab rfl rfl rfl rfl rfl rfl rfl rfl ?_
 obtain ⟨x2, q2, hm⟩ := Kc hm
 refine Kaj (KcV a1 x2 q2) rfl rfl rfl rfl rfl Wl ?_
 rintro _ rfl
 refine pS0 (ds' := [.v (.string x2.gName), .v (.int .i64 x2.gNode)]) ?_
 refine KP ?_
 refine pu ?_
 refine Ke ?_
 refine Km ?_
 refine Kh ?_
 refine pu ?_
 refine Ke ?_
 obtain ⟨y38, q38, ho38⟩ := Kc hm
 refine Kah (Y := Value) (fun z38 => (⟨[(0, .lst 2 (a0.map Kf) .no), (3, .ptr b1 0), (5, .lst 2 (y38.map Kf) (.cur z38))], [(b1, Blk.cells [.v (.string x2.gName), .v (.int .i64 x2.gNode)] 41)], [(2, z38)]⟩ : S)) ?_ ?_
 ·clear hm; have hm := KI q38
  refine KG ?_
  obtain ⟨u39, hl39, hq39⟩ := yes_m hm
  refine Kao (Y := Value) hl39 (fun s39 z39 => (⟨[(0, .lst 2 (a0.map Kf) .no), (3, .ptr b1 0), (5, .lst 2 (s39.1.map Kf) (.cur z39)), (6, .v (.int .i64 s39.2))], [(b1, Blk.cells [.v (.string x2.gName), .v (.int .i64 x2.gNode)] 41)], [(2, z39)]⟩ : S)) ?_ ?_
  ·skip
   refine WkX.tokN (i := 5) 2 rfl (fun w62 => ?_)
   exact WkX.of w62 (WkS.perm (WkS.cons rfl (Wk.refl _) (WkS.cons rfl (Wk.refl _) (WkS.cons rfl (Wk.refl _) (WkS.cons rfl (Wk.refl _) (WkS.nil))))) Pf Pf)
  ·intro G39 s39 z39 hm
   refine Km ?_
   refine Km ?_
   obtain ⟨y66, q66, ho66⟩ := Kc hm
   refine Kah (Y := Unit) (fun z66 => (⟨[(0, .lst 2 (a0.map Kf) .no), (3, .ptr b1 0), (5, .lst 2 (s39.1.map Kf) (.cur z39)), (6, .v (.int .i64 s39.2)), (22, .v (.bool y66))], [(b1, Blk.cells [.v (.string x2.gName), .v (.int .i64 x2.gNode)] 41)], [(2, z39)]⟩ : S)) ?_ ?_
   ·clear hm; have hm := KI q66
    refine bycB (decide (s39.2 < (a0.length : Int))) (fun hs67 => ?_) (fun hs67 => ?_)
    ·replace hm := yes_t hs67 hm
     obtain ⟨x68, q68, hm⟩ := Kc hm
     refine Kac 10 [] [[],[],[1],[1],[1],[1],[1],[1,5],[1,5,7],[1]] [1,5,7,8,9] [[],[],[1],[0,1,2],[0,1,2,3],[0,1,2,3,4],[0,1,2,3,4],[0,1,2,3,4,5,6],[0,1,2,3,4,5,6,7],[0,1,2,3,4],[0,1,2,3,4,5,6,7,8,9],[0,1,2,3,4,5,6,7,8,9,10]] (by kernel_rfl) (by kernel_rfl) (by kernel_rfl) (by rfl) (by rfl) (by kernel_rfl) ?_
     iterate 5 apply Exists.intro
     intro bs
     refine zqp ?_
     refine zep ?_
     refine z_q rfl rfl (x_lenL htab rfl rfl rfl rfl (by first | exact KY | rfl)) rfl rfl rfl rfl rfl rfl ?_
     refine zqp ?_
     refine zqp ?_
     refine KO (j := 15) (b' := true) rfl hs67 ?_
     refine zep ?_
     refine zqp ?_
     refine z_e rfl rfl (Kz htab rfl rfl rfl rfl rfl rfl rfl (Kd q68) (Kk q68)) rfl rfl rfl rfl rfl rfl ?_
     refine z_eM rfl rfl (Ko (d := Kf x68) htab rfl rfl rfl rfl rfl) rfl rfl rfl rfl rfl rfl ?_
     refine z_eM rfl rfl (Kai (d := Kf x2) 0 htab rfl rfl rfl rfl rfl) rfl rfl rfl rfl rfl rfl ?_
     refine z_nil rfl rfl (fun e he => by simp [isAl] at he) ?_
     obtain ⟨x69, q69, hm⟩ := Kc hm
     refine Kaj (Kjs x68 x2 x69 q69) rfl rfl rfl rfl rfl Wl ?_
     rintro _ rfl
     refine Kab rfl rfl rfl rfl rfl rfl ?_
     refine Kv ?_
     have e66 := Kj hm; subst e66
     refine ⟨rfl, ?_⟩
     exact WkX.of () (WkS.perm (WkS.cons rfl (Wk.refl _) (WkS.cons rfl (Wk.refl _) (WkS.cons rfl (Wk.refl _) (WkS.cons rfl (Wk.refl _) (WkS.cons rfl (Wk.refl _) (WkS.nil)))))) Pf Pf)
    ·replace hm := yes_f hs67 hm
     refine Kac 10 [] [[],[],[1],[1],[1],[1],[1],[1],[1],[1]] [1] [[],[],[1],[0,1,2],[0,1,2,3],[0,1,2,3,4],[0,1,2,3,4],[0,1,2,3,4,5,6],[0,1,2,3,4,5,6,7],[0,1,2,3,4],[0,1,2,3,4,5,6,7,8,9],[0,1,2,3,4,5,6,7,8,9,10]] (by kernel_rfl) (by kernel_rfl) (by kernel_rfl) (by rfl) (by rfl) (by kernel_rfl) ?_
     apply Exists.intro
     intro bs
     refine zqp ?_
     refine zep ?_
     refine z_q rfl rfl (x_lenL htab rfl rfl rfl rfl (by first | exact KY | rfl)) rfl rfl rfl rfl rfl rfl ?_
     refine zqp ?_
     refine zqp ?_
     refine KO (j := 15) (b' := false) rfl hs67 ?_
     iterate 5 refine zK ?_
     refine z_nil rfl rfl (fun e he => by simp [isAl] at he) ?_
     refine pK ?_
     refine K9 rfl rfl rfl rfl rfl rfl ?_
     refine Kv ?_
     have e66 := Kj hm; subst e66
     refine ⟨rfl, ?_⟩
     exact WkX.of () (WkS.perm (WkS.cons rfl (Wk.refl _) (WkS.cons rfl (Wk.refl _) (WkS.cons rfl (Wk.refl _) (WkS.cons rfl (Wk.refl _) (WkS.cons rfl (Wk.refl _) (WkS.nil)))))) Pf Pf)
   ·intro s66 hw66; clear hm; have hm := ho66; clear q66 ho66
    refine Kb ?_
    refine KV hw66 (fun z66 => ?_)
    refine KC rfl (fun hc70 => ?_) (fun hc70 => ?_)
    ·replace hm := yes_t hc70 hm
     refine KB ?_
     refine Kb ?_
     refine Km ?_
     refine KG ?_
     refine Kt ?_
     iterate 3 refine pu ?_
     obtain ⟨x71, q71, hm⟩ := Kc hm
     refine Kad htab rfl rfl rfl rfl rfl rfl rfl rfl rfl rfl (Kd q71) (Kk q71) ?_
     refine KW (d := Kf x71) htab rfl rfl rfl rfl rfl rfl rfl rfl ?_
     refine p_lit htab rfl rfl rfl rfl rfl rfl rfl rfl rfl rfl rfl rfl rfl rfl ?_
     refine p_eq (i := 30) (d' := .lst 2 (([x71] : List Ka).map Kf) .full) rfl (Wk.lst0 (.cons (WkC.refl _) (.nil))) ?_
     obtain ⟨x72, q72, hm⟩ := Kc hm
     refine Ka4 0 htab rfl rfl rfl rfl rfl rfl rfl rfl rfl rfl rfl rfl rfl rfl rfl rfl rfl (Kal q72) (fun v72 => ?_)
     refine Ka5 (i := 31) q72 rfl ?_
     refine pu ?_
     refine Kv ?_
     refine KM ?_
     refine Kb ?_
     refine Kt ?_
     iterate 3 refine pu ?_
     refine Kv ?_
     refine Kb ⟨_, K0 hm, ?_⟩
     exact WkX.of v72 (WkS.perm (WkS.cons rfl (Wk.refl _) (WkS.cons rfl (Wk.refl _) (WkS.cons rfl (Wk.refl _) (WkS.cons rfl (Wk.refl _) (WkS.nil))))) Pf Pf)
    ·replace hm := yes_f hc70 hm
     refine Kaa ?_
     refine KH ?_
     have e39 := K1 hm; subst e39; clear hm; have hm := hq39
     refine KH ?_
     refine K5 ?_
     have e38 := Kj hm; subst e38
     refine ⟨rfl, ?_⟩
     exact WkX.of z39 (WkS.perm (WkS.cons rfl (Wk.refl _) (WkS.cons rfl (Wk.refl _) (WkS.cons rfl (Wk.refl _) (WkS.nil)))) Pf Pf)
 ·intro s38 hw38; clear hm; have hm := ho38; clear q38 ho38
  refine Kb ?_
  refine KV hw38 (fun z38 => ?_)
  refine Kh ?_
  refine pu ?_
  refine Kag htab rfl rfl rfl rfl rfl rfl rfl (by first | exact KY | rfl) ?_
  refine pu ?_
  refine KP ?_
  refine pu ?_
  refine KaD (d := Kf x2) 0 htab rfl rfl rfl rfl rfl rfl rfl rfl ?_
  refine p_lit htab rfl rfl rfl rfl rfl rfl rfl rfl rfl rfl rfl rfl rfl rfl ?_
  refine p_eq (i := 36) (d' := .lst 2 (([x2] : List Ka).map Kf) .full) rfl (Wk.lst0 (.cons (WkC.refl _) (.nil))) ?_
  obtain ⟨x73, q73, hm⟩ := Kc hm
  refine Ka4 0 htab rfl rfl rfl rfl rfl rfl rfl rfl rfl rfl rfl rfl rfl rfl rfl rfl rfl (Kal q73) (fun v73 => ?_)
  refine Ka5 (i := 37) q73 rfl ?_
  refine pu ?_
  refine Ke ?_
  refine Km ?_
  refine Kh ?_
  refine pu ?_
  refine pu ?_
  refine Ke ?_
  obtain ⟨y93, q93, ho93⟩ := Kc hm
  refine Kah (Y := Value) (fun z93 => (⟨[(5, .lst 2 (y93.map Kf) (.cur z93))], [], [(2, z93)]⟩ : S)) ?_ ?_
  ·clear hm; have hm := KI q93
   refine KG ?_
   obtain ⟨u94, hl94, hq94⟩ := yes_m hm
   refine Kao (Y := Value) hl94 (fun s94 z94 => (⟨[(0, .lst 2 (a0.map Kf) .no), (3, .ptr b1 0), (5, .lst 2 (s94.1.map Kf) (.cur z94)), (8, .v (.int .i64 s94.2))], [(b1, Blk.cells [.v (.string x2.gName), .v (.int .i64 x2.gNode)] 41)], [(2, z94)]⟩ : S)) ?_ ?_
   ·skip
    exact WkX.of v73 (WkS.perm (WkS.cons rfl (Wk.refl _) (WkS.cons rfl (Wk.refl _) (WkS.cons rfl (Wk.refl _) (WkS.cons rfl (Wk.refl _) (WkS.nil))))) Pf Pf)
   ·intro G94 s94 z94 hm
    refine Km ?_
    refine Kh ?_
    refine pu ?_
    refine pu ?_
    refine Kag htab rfl rfl rfl rfl rfl rfl rfl (by first | exact KY | rfl) ?_
    refine pu ?_
    refine Ke ?_
    refine KC rfl (fun hc107 => ?_) (fun hc107 => ?_)
    ·replace hm := yes_t hc107 hm
     refine KB ?_
     refine Kb ?_
     refine Km ?_
     refine KG ?_
     refine Km ?_
     obtain ⟨x108, q108, hm⟩ := Kc hm
     refine Kac 5 [] [[],[],[0],[0,2],[]] [0,2,3,4] [[],[],[0,1],[0,1,2],[],[0,1,2,3,4]] (by kernel_rfl) (by kernel_rfl) (by kernel_rfl) (by rfl) (by rfl) (by kernel_rfl) ?_
     iterate 4 apply Exists.intro
     intro bs
     refine zep ?_
     refine zqp ?_
     refine z_e rfl rfl (Kz htab rfl rfl rfl rfl rfl rfl rfl (Kd q108) (Kk q108)) rfl rfl rfl rfl rfl rfl ?_
     refine z_eM rfl rfl (Ko (d := Kf x108) htab rfl rfl rfl rfl rfl) rfl rfl rfl rfl rfl rfl ?_
     refine z_eM rfl rfl (Kai (d := Kf x2) 0 htab rfl rfl rfl rfl rfl) rfl rfl rfl rfl rfl rfl ?_
     refine z_nil rfl rfl (fun e he => by simp [isAl] at he) ?_
     refine p_eqS htab rfl rfl rfl rfl rfl eqt41 rfl rfl rfl rfl rfl ?_
     refine Ke ?_
     refine KC rfl (fun hc109 => ?_) (fun hc109 => ?_)
     ·replace hm := yes_t hc109 hm
      refine Kt ?_
      iterate 3 refine pu ?_
      obtain ⟨x110, q110, hm⟩ := Kc hm
      refine Kad htab rfl rfl rfl rfl rfl rfl rfl rfl rfl rfl (Kd q110) (Kk q110) ?_
      refine KW (d := Kf x110) htab rfl rfl rfl rfl rfl rfl rfl rfl ?_
      refine p_lit htab rfl rfl rfl rfl rfl rfl rfl rfl rfl rfl rfl rfl rfl rfl ?_
      refine p_eq (i := 56) (d' := .lst 2 (([x110] : List Ka).map Kf) .full) rfl (Wk.lst0 (.cons (WkC.refl _) (.nil))) ?_
      obtain ⟨x111, q111, hm⟩ := Kc hm
      refine Ka4 0 htab rfl rfl rfl rfl rfl rfl rfl rfl rfl rfl rfl rfl rfl rfl rfl rfl rfl (Kal q111) (fun v111 => ?_)
      refine Ka5 (i := 57) q111 rfl ?_
      refine pu ?_
      refine Kv ?_
      refine KM ?_
      refine Kb ?_
      refine Kt ?_
      iterate 3 refine pu ?_
      refine Kv ?_
      refine Kb ⟨_, K0 hm, ?_⟩
      exact WkX.of v111 (WkS.perm (WkS.cons rfl (Wk.refl _) (WkS.cons rfl (Wk.refl _) (WkS.cons rfl (Wk.refl _) (WkS.cons rfl (Wk.refl _) (WkS.nil))))) Pf Pf)
     ·replace hm := yes_f hc109 hm
      refine KB ?_
      refine KM ?_
      refine Kb ?_
      refine Kt ?_
      iterate 3 refine pu ?_
      refine Kv ?_
      refine Kb ⟨_, K0 hm, ?_⟩
      exact WkX.of z94 (WkS.perm (WkS.cons rfl (Wk.refl _) (WkS.cons rfl (Wk.refl _) (WkS.cons rfl (Wk.refl _) (WkS.cons rfl (Wk.refl _) (WkS.nil))))) Pf Pf)
    ·replace hm := yes_f hc107 hm
     refine Kaa ?_
     refine KH ?_
     have e94 := K1 hm; subst e94; clear hm; have hm := hq94
     refine KH ?_
     refine K5 ?_
     have e93 := Kj hm; subst e93
     refine ⟨rfl, ?_⟩
     exact WkX.of z94 (WkS.perm (WkS.cons rfl (Wk.refl _) (WkS.nil)) Pf Pf)
  ·intro s93 hw93; clear hm; have hm := ho93; clear q93 ho93
   refine Kb ?_
   refine KV hw93 (fun z93 => ?_)
   refine Kh ?_
   refine pu ?_
   refine pu ?_
   refine Ke ?_
   refine KE ?_
   have er112 := Kj hm; subst er112
   refine rP (t' := [(4, .lst 2 (y93.map Kf) (.cur z93))]) [] [0] 0 (wC wN) (lT lN) ?_
   exact ⟨z93, rfl, rfl, rfl⟩
noncomputable def Kd7 (a0 : Kw) (a1 : Kw) (a2 : List Ka) : Option (List Ka) :=
 ((Kdf a0 a1).bind fun x4 => ((KeT a0 a1 false).bind fun x10 => (Option.bind (α := List Ka) (loopM (fun (s80 : List Ka × Int) => (bif (decide (s80.2 < (a2.length : Int))) then ((idx a2 s80.2).bind fun x127 => (Option.bind (α := Bool) (bif (decide (x127.gNode < (0 : Int))) then ((Kd6 x10 x127.gName).bind fun x138 => (bif x138 then some true else (bif (decide ((0 : Int) ≤ x127.gNode)) then ((Kd6 x4 x127.gName).bind fun x141 => some x141) else some false))) else (bif (decide ((0 : Int) ≤ x127.gNode)) then ((Kd6 x4 x127.gName).bind fun x143 => some x143) else some false)) fun y136 => (bif y136 then ((Kft s80.1 x127).bind fun x146 => some (.next (x146, (IntKind.i64.wrap (s80.2 + (1 : Int)))))) else some (.next (s80.1, (IntKind.i64.wrap (s80.2 + (1 : Int)))))))) else some (.done s80.1))) (([] : List Ka), (0 : Int))) fun y79 => some y79)))
theorem Kjc (a0 : Kw) (a1 : Kw) (a2 : List Ka) (r : List Ka) (h0 : Kd7 a0 a1 a2 = some r) : CallsD Tryz.prog 8 [Ku a0, Ku a1, .lst 2 (a2.map Kf) .no] [] [] (fun d h k => ∃ y0, d = .lst 2 (r.map Kf) (.cur y0) ∧ h = [] ∧ k = [(2, y0)]) := by
 have hm := KI h0
 unfold Kd7 at hm
 clear h0
 refine K3 htab Tryz.func8 rfl rfl rfl rfl rfl (fun C => ?_)
 refine Kh ?_
 refine p_box rfl rfl rfl rfl rfl rfl rfl (fun b1 => ?_)
 refine p_box rfl rfl rfl rfl rfl rfl rfl (fun b2 => ?_)
 refine pu ?_
 refine Ke ?_
 refine Km ?_
 obtain ⟨x4, q4, hm⟩ := Kc hm
 refine KfH 5 [] [(2, 1)] [[],[],[0,1],[],[]] [0,1,2,3,4] [[],[],[0,1],[],[],[0,1,2,3,4],[0,1,2,3,4,5],[0,1,2,3,4,5,6]] (by kernel_rfl) (by kernel_rfl) (by kernel_rfl) (by rfl) (by rfl) (by kernel_rfl) ?_
 iterate 5 apply Exists.intro
 intro bs
 refine zt_eM rfl rfl (Kai (d := Ku a0) 0 htab rfl rfl rfl rfl rfl) rfl rfl rfl rfl rfl rfl rfl ?_
 refine zt_eM rfl rfl (Kai (d := Ku a1) 1 htab rfl rfl rfl rfl rfl) rfl rfl rfl rfl rfl rfl rfl ?_
 refine Khm rfl rfl (Kif a0 a1 x4 q4) rfl rfl Wl rfl rfl rfl rfl rfl (by simp) (by decide) rfl ?_
 refine zt_eM rfl rfl (Kai (d := Ku a0) 0 htab rfl rfl rfl rfl rfl) rfl rfl rfl rfl rfl rfl rfl ?_
 refine zt_eM rfl rfl (Kai (d := Ku a1) 1 htab rfl rfl rfl rfl rfl) rfl rfl rfl rfl rfl rfl rfl ?_
 refine zt_nil (k' := [(1, (bs 2))]) rfl (fun e he => by simp [isT] at he; subst he; rfl) rfl rfl (fun e he => by simp [isAl] at he) ?_
 obtain ⟨w8, hw8⟩ : ∃ y, bs 2 = y := ⟨_, rfl⟩
 simp only [hw8]
 clear hw8
 obtain ⟨x10, q10, hm⟩ := Kc hm
 refine pG (Kgm a0 a1 false x10 q10) Wl Pf Pf ?_
 rintro _ _ _ ⟨w9, rfl, rfl, rfl⟩
 refine pu ?_
 refine pu ?_
 refine KP ?_
 refine pu ?_
 refine Ke ?_
 refine Km ?_
 refine Kh ?_
 refine pu ?_
 refine Ke ?_
 obtain ⟨y79, q79, ho79⟩ := Kc hm
 refine Kah (Y := Value) (fun z79 => (⟨[(9, .lst 2 (y79.map Kf) (.cur z79))], [], [(2, z79)]⟩ : S)) ?_ ?_
 ·clear hm; have hm := KI q79
  refine KG ?_
  obtain ⟨u80, hl80, hq80⟩ := yes_m hm
  refine Kao (Y := Value) hl80 (fun s80 z80 => (⟨[(2, .lst 2 (a2.map Kf) .no), (7, .lst 1 (x4.map eStr) (.cur w8)), (8, .lst 1 (x10.map eStr) (.cur w9)), (9, .lst 2 (s80.1.map Kf) (.cur z80)), (10, .v (.int .i64 s80.2))], [], [(2, z80), (1, w9), (1, w8)]⟩ : S)) ?_ ?_
  ·skip
   refine WkX.tokN (i := 9) 2 rfl (fun w125 => ?_)
   exact WkX.of w125 (WkS.perm (WkS.cons rfl (Wk.refl _) (WkS.cons rfl (Wk.refl _) (WkS.cons rfl (Wk.refl _) (WkS.cons rfl (Wk.refl _) (WkS.cons rfl (Wk.refl _) (WkS.nil)))))) Pf Pf)
  ·intro G80 s80 z80 hm
   refine Km ?_
   refine Kh ?_
   refine pu ?_
   refine pu ?_
   refine Kag htab rfl rfl rfl rfl rfl rfl rfl (by first | exact KY | rfl) ?_
   refine pu ?_
   refine Ke ?_
   refine KC rfl (fun hc126 => ?_) (fun hc126 => ?_)
   ·replace hm := yes_t hc126 hm
    refine KB ?_
    refine Kb ?_
    refine Km ?_
    refine KG ?_
    refine Kh ?_
    refine pu ?_
    refine pu ?_
    obtain ⟨x127, q127, hm⟩ := Kc hm
    refine Kad htab rfl rfl rfl rfl rfl rfl rfl rfl rfl rfl (Kd q127) (Kk q127) ?_
    refine KW (d := Kf x127) htab rfl rfl rfl rfl rfl rfl rfl rfl ?_
    refine Kay htab rfl rfl rfl rfl rfl rfl rfl (fun b128 => ?_)
    refine pS0 (ds' := [.v (.string x127.gName), .v (.int .i64 x127.gNode)]) ?_
    refine Ke ?_
    refine Km ?_
    obtain ⟨y136, q136, ho136⟩ := Kc hm
    refine Kah (Y := Unit) (fun z136 => (⟨[(2, .lst 2 (a2.map Kf) .no), (7, .lst 1 (x4.map eStr) (.cur w8)), (8, .lst 1 (x10.map eStr) (.cur w9)), (9, .lst 2 (s80.1.map Kf) (.cur z80)), (10, .v (.int .i64 s80.2)), (11, .ptr b128 0), (47, .v (.bool y136))], [(b128, Blk.cells [.v (.string x127.gName), .v (.int .i64 x127.gNode)] 41)], [(2, z80), (1, w9), (1, w8)]⟩ : S)) ?_ ?_
    ·clear hm; have hm := KI q136
     refine Kt ?_
     refine pu ?_
     refine pL 0 ?_
     refine pu ?_
     refine pu ?_
     refine KaE (i := 31) rfl (fun hg137 => ?_) (fun hg137 => ?_)
     ·replace hm := yes_t hg137 hm
      refine pu ?_
      refine pu ?_
      refine pL 0 ?_
      obtain ⟨x138, q138, hm⟩ := Kc hm
      refine Kaj (Ke5 x10 x127.gName x138 q138) rfl rfl rfl rfl rfl (WkL.cons (Wk.no) (WkL.cons (Wk.refl _) Wl)) ?_
      rintro _ rfl
      refine Kab rfl rfl rfl rfl rfl rfl ?_
      refine pu ?_
      refine KaE (i := 37) rfl (fun hg139 => ?_) (fun hg139 => ?_)
      ·replace hm := yes_t hg139 hm
       iterate 9 refine pK ?_
       refine Kab rfl rfl rfl rfl rfl rfl ?_
       refine Kv ?_
       have e136 := Kj hm; subst e136
       refine ⟨rfl, ?_⟩
       exact WkX.of () (WkS.perm (WkS.cons rfl (Wk.refl _) (WkS.cons rfl (Wk.refl _) (WkS.cons rfl (Wk.refl _) (WkS.cons rfl (Wk.refl _) (WkS.cons rfl (Wk.refl _) (WkS.cons rfl (Wk.refl _) (WkS.cons rfl (Wk.refl _) (WkS.nil)))))))) Pf Pf)
      ·replace hm := yes_f hg139 hm
       refine pu ?_
       refine pL 0 ?_
       refine pu ?_
       refine pu ?_
       refine KaE (i := 41) rfl (fun hg140 => ?_) (fun hg140 => ?_)
       ·replace hm := yes_t hg140 hm
        refine pu ?_
        refine pu ?_
        refine pL 0 ?_
        obtain ⟨x141, q141, hm⟩ := Kc hm
        refine Kaj (Ke5 x4 x127.gName x141 q141) rfl rfl rfl rfl rfl (WkL.cons (Wk.no) (WkL.cons (Wk.refl _) Wl)) ?_
        rintro _ rfl
        refine Kab rfl rfl rfl rfl rfl rfl ?_
        refine K9 rfl rfl rfl rfl rfl rfl ?_
        refine Kv ?_
        have e136 := Kj hm; subst e136
        refine ⟨rfl, ?_⟩
        exact WkX.of () (WkS.perm (WkS.cons rfl (Wk.refl _) (WkS.cons rfl (Wk.refl _) (WkS.cons rfl (Wk.refl _) (WkS.cons rfl (Wk.refl _) (WkS.cons rfl (Wk.refl _) (WkS.cons rfl (Wk.refl _) (WkS.cons rfl (Wk.refl _) (WkS.nil)))))))) Pf Pf)
       ·replace hm := yes_f hg140 hm
        iterate 4 refine pK ?_
        refine K9 rfl rfl rfl rfl rfl rfl ?_
        refine K9 rfl rfl rfl rfl rfl rfl ?_
        refine Kv ?_
        have e136 := Kj hm; subst e136
        refine ⟨rfl, ?_⟩
        exact WkX.of () (WkS.perm (WkS.cons rfl (Wk.refl _) (WkS.cons rfl (Wk.refl _) (WkS.cons rfl (Wk.refl _) (WkS.cons rfl (Wk.refl _) (WkS.cons rfl (Wk.refl _) (WkS.cons rfl (Wk.refl _) (WkS.cons rfl (Wk.refl _) (WkS.nil)))))))) Pf Pf)
     ·replace hm := yes_f hg137 hm
      iterate 4 refine pK ?_
      refine K9 rfl rfl rfl rfl rfl rfl ?_
      refine pu ?_
      refine pu ?_
      refine pL 0 ?_
      refine pu ?_
      refine pu ?_
      refine KaE (i := 41) rfl (fun hg142 => ?_) (fun hg142 => ?_)
      ·replace hm := yes_t hg142 hm
       refine pu ?_
       refine pu ?_
       refine pL 0 ?_
       obtain ⟨x143, q143, hm⟩ := Kc hm
       refine Kaj (Ke5 x4 x127.gName x143 q143) rfl rfl rfl rfl rfl (WkL.cons (Wk.no) (WkL.cons (Wk.refl _) Wl)) ?_
       rintro _ rfl
       refine Kab rfl rfl rfl rfl rfl rfl ?_
       refine K9 rfl rfl rfl rfl rfl rfl ?_
       refine Kv ?_
       have e136 := Kj hm; subst e136
       refine ⟨rfl, ?_⟩
       exact WkX.of () (WkS.perm (WkS.cons rfl (Wk.refl _) (WkS.cons rfl (Wk.refl _) (WkS.cons rfl (Wk.refl _) (WkS.cons rfl (Wk.refl _) (WkS.cons rfl (Wk.refl _) (WkS.cons rfl (Wk.refl _) (WkS.cons rfl (Wk.refl _) (WkS.nil)))))))) Pf Pf)
      ·replace hm := yes_f hg142 hm
       iterate 4 refine pK ?_
       refine K9 rfl rfl rfl rfl rfl rfl ?_
       refine K9 rfl rfl rfl rfl rfl rfl ?_
       refine Kv ?_
       have e136 := Kj hm; subst e136
       refine ⟨rfl, ?_⟩
       exact WkX.of () (WkS.perm (WkS.cons rfl (Wk.refl _) (WkS.cons rfl (Wk.refl _) (WkS.cons rfl (Wk.refl _) (WkS.cons rfl (Wk.refl _) (WkS.cons rfl (Wk.refl _) (WkS.cons rfl (Wk.refl _) (WkS.cons rfl (Wk.refl _) (WkS.nil)))))))) Pf Pf)
    ·intro s136 hw136; clear hm; have hm := ho136; clear q136 ho136
     refine Kb ?_
     refine KV hw136 (fun z136 => ?_)
     refine KC rfl (fun hc144 => ?_) (fun hc144 => ?_)
     ·replace hm := yes_t hc144 hm
      refine Kt ?_
      refine pu ?_
      refine KaD (d := Kf x127) 0 htab rfl rfl rfl rfl rfl rfl rfl rfl ?_
      obtain ⟨x146, q146, hm⟩ := Kc hm
      refine Kby (r26_Put_ok s80.1 x127 x146 q146) rfl rfl rfl rfl rfl (WkL.cons (Wk.no) (WkL.cons (Wk.refl _) Wl)) Pf Pf ?_
      rintro _ _ _ ⟨w145, rfl, rfl, rfl⟩
      refine pu ?_
      refine Kv ?_
      refine KM ?_
      refine Kb ?_
      refine Kt ?_
      iterate 3 refine pu ?_
      refine Kv ?_
      refine Kb ⟨_, K0 hm, ?_⟩
      exact WkX.of w145 (WkS.perm (WkS.cons rfl (Wk.refl _) (WkS.cons rfl (Wk.refl _) (WkS.cons rfl (Wk.refl _) (WkS.cons rfl (Wk.refl _) (WkS.cons rfl (Wk.refl _) (WkS.nil)))))) Pf ((KF (j := 0) rfl).trans (List.Perm.cons _ ((KF (j := 1) rfl).trans (List.Perm.cons _ ((KF (j := 1) rfl).trans (List.Perm.cons _ Pf)))))))
     ·replace hm := yes_f hc144 hm
      refine KB ?_
      refine KM ?_
      refine Kb ?_
      refine Kt ?_
      iterate 3 refine pu ?_
      refine Kv ?_
      refine Kb ⟨_, K0 hm, ?_⟩
      exact WkX.of z80 (WkS.perm (WkS.cons rfl (Wk.refl _) (WkS.cons rfl (Wk.refl _) (WkS.cons rfl (Wk.refl _) (WkS.cons rfl (Wk.refl _) (WkS.cons rfl (Wk.refl _) (WkS.nil)))))) Pf Pf)
   ·replace hm := yes_f hc126 hm
    refine Kaa ?_
    refine KH ?_
    have e80 := K1 hm; subst e80; clear hm; have hm := hq80
    refine KH ?_
    refine K5 ?_
    have e79 := Kj hm; subst e79
    refine ⟨rfl, ?_⟩
    exact WkX.of z80 (WkS.perm (WkS.cons rfl (Wk.refl _) (WkS.nil)) Pf Pf)
 ·intro s79 hw79; clear hm; have hm := ho79; clear q79 ho79
  refine Kb ?_
  refine KV hw79 (fun z79 => ?_)
  refine Kh ?_
  refine pu ?_
  refine pu ?_
  refine Ke ?_
  refine KE ?_
  have er147 := Kj hm; subst er147
  refine rP (t' := [(6, .lst 2 (y79.map Kf) (.cur z79))]) [] [0] 0 (wC wN) (lT lN) ?_
  exact ⟨z79, rfl, rfl, rfl⟩
theorem KiY (a0 : Kw) (a1 : Kw) (a2 : List Ka) (r : List Ka) (h0 : Kd7 a0 a1 a2 = some r) : CallsD Tryz.prog 8 [Ku a0, Ku a1, .lst 2 (a2.map Kf) .no] [] [] (fun d h k => d = .lst 2 (r.map Kf) .no ∧ h = [] ∧ k = []) :=
 (Kjc a0 a1 a2 r h0).drop fun d h k ⟨y0, e, _, _⟩ => by subst e; exact Wk.no
noncomputable def KgF (a0 : List Ka) (a1 : Ka) : Option (Bool) :=
 (Option.bind (α := (Unit) ⊕ (Bool)) (loopM (fun (s22 : Int) => (bif (decide (s22 < (a0.length : Int))) then ((idx a0 s22).bind fun x36 => ((Kcf x36).bind fun x37 => ((Kcf a1).bind fun x38 => (bif (decide (x37.gName = x38.gName) && (x37.gNode == x38.gNode && true)) then some (.done (.inr true)) else some (.next (IntKind.i64.wrap (s22 + (1 : Int)))))))) else some (.done (.inl ())))) (0 : Int)) (Sum.elim (fun y21 => some false) (fun r => some r)))
theorem r26_Has_ok (a0 : List Ka) (a1 : Ka) (r : Bool) (h0 : KgF a0 a1 = some r) : CallsD Tryz.prog 12 [.lst 2 (a0.map Kf) .no, Kf a1] [] [] (fun d h k => d = .v (.bool r) ∧ h = [] ∧ k = []) := by
 have hm := KI h0
 unfold KgF at hm
 clear h0
 refine K3 htab Tryz.func12 rfl rfl rfl rfl rfl (fun C => ?_)
 refine Kh ?_
 refine p_box rfl rfl rfl rfl rfl rfl rfl (fun b1 => ?_)
 refine pu ?_
 refine Ke ?_
 refine Km ?_
 refine Kh ?_
 refine pu ?_
 refine Ke ?_
 obtain ⟨x21, q21, ho21⟩ := Kc hm
 refine Kbi (τ := Unit) (Y := Unit) (fun y21 z21 => (⟨[], [], []⟩ : S)) x21 ?_ ?_
 ·clear hm; have hm := KI q21
  refine KG ?_
  obtain ⟨u22, hl22, hq22⟩ := yes_m hm
  refine Kao (Y := Unit) hl22 (fun s22 z22 => (⟨[(0, .lst 2 (a0.map Kf) .no), (3, .ptr b1 0), (5, .v (.int .i64 s22))], [(b1, Blk.cells [.v (.string a1.gName), .v (.int .i64 a1.gNode)] 41)], []⟩ : S)) ?_ ?_
  ·skip
   exact WkX.of () (WkS.perm (WkS.cons rfl (Wk.refl _) (WkS.cons rfl (Wk.refl _) (WkS.cons rfl (Wk.refl _) (WkS.nil)))) Pf Pf)
  ·intro G22 s22 z22 hm
   refine Km ?_
   refine Kh ?_
   refine pu ?_
   refine pu ?_
   refine Kag htab rfl rfl rfl rfl rfl rfl rfl (by first | exact KY | rfl) ?_
   refine pu ?_
   refine Ke ?_
   refine KC rfl (fun hc35 => ?_) (fun hc35 => ?_)
   ·replace hm := yes_t hc35 hm
    refine KB ?_
    refine Kb ?_
    refine Km ?_
    refine KG ?_
    refine Km ?_
    obtain ⟨x36, q36, hm⟩ := Kc hm
    obtain ⟨x37, q37, hm⟩ := Kc hm
    refine Kac 6 [] [[],[],[0],[0,2],[0,2,3],[]] [0,2,3,4,5] [[],[],[0,1],[0,1,2],[0,1,2,3],[],[0,1,2,3,4,5],[0,1,2,3,4,5,6]] (by kernel_rfl) (by kernel_rfl) (by kernel_rfl) (by rfl) (by rfl) (by kernel_rfl) ?_
    iterate 5 apply Exists.intro
    intro bs
    refine zep ?_
    refine zqp ?_
    refine z_e rfl rfl (Kz htab rfl rfl rfl rfl rfl rfl rfl (Kd q36) (Kk q36)) rfl rfl rfl rfl rfl rfl ?_
    refine z_eM rfl rfl (Ko (d := Kf x36) htab rfl rfl rfl rfl rfl) rfl rfl rfl rfl rfl rfl ?_
    refine KbC rfl rfl (KcV x36 x37 q37) rfl rfl Wl rfl rfl rfl rfl rfl rfl ?_
    refine z_eM rfl rfl (Kai (d := Kf a1) 0 htab rfl rfl rfl rfl rfl) rfl rfl rfl rfl rfl rfl ?_
    refine z_nil rfl rfl (fun e he => by simp [isAl] at he) ?_
    obtain ⟨x38, q38, hm⟩ := Kc hm
    refine Kaj (KcV a1 x38 q38) rfl rfl rfl rfl rfl Wl ?_
    rintro _ rfl
    refine p_eqS htab rfl rfl rfl rfl rfl eqt41 rfl rfl rfl rfl rfl ?_
    refine Ke ?_
    refine KC rfl (fun hc39 => ?_) (fun hc39 => ?_)
    ·replace hm := yes_t hc39 hm
     refine Kh ?_
     refine pu ?_
     refine Ke ?_
     refine KE ?_
     refine Kan ?_
     refine KS ?_
     have e22 := K1 hm; subst e22; clear hm; have hm := hq22
     refine KS ?_
     refine Kan ?_
     have e21 := Kj hm; subst e21; refine Kbk ?_; clear hm; have hm := ho21; simp only [Sum.elim_inr] at hm
     refine KS ?_
     have er40 := Kj hm; subst er40
     refine rP (t' := [(4, .v (.bool true))]) [] [] 0 (wC wN) (lT lN) ?_
     exact ⟨rfl, rfl, rfl⟩
    ·replace hm := yes_f hc39 hm
     refine KB ?_
     refine KM ?_
     refine Kb ?_
     refine Kt ?_
     iterate 3 refine pu ?_
     refine Kv ?_
     refine Kb ⟨_, K0 hm, ?_⟩
     exact WkX.of () (WkS.perm (WkS.cons rfl (Wk.refl _) (WkS.cons rfl (Wk.refl _) (WkS.cons rfl (Wk.refl _) (WkS.nil)))) Pf Pf)
   ·replace hm := yes_f hc35 hm
    refine Kaa ?_
    refine KH ?_
    have e22 := K1 hm; subst e22; clear hm; have hm := hq22
    refine KH ?_
    refine K5 ?_
    have e21 := Kj hm; subst e21
    refine Kbj ?_
    exact WkX.of () (WkS.perm (WkS.nil) Pf Pf)
 ·intro y21 s21 hx21 hw21; subst hx21; clear hm; have hm := ho21; simp only [Sum.elim_inl] at hm; clear q21 ho21
  refine Kb ?_
  refine KV hw21 (fun z21 => ?_)
  refine Kh ?_
  refine pu ?_
  refine Ke ?_
  refine KE ?_
  have er41 := Kj hm; subst er41
  refine rP (t' := [(4, .v (.bool false))]) [] [] 0 (wC wN) (lT lN) ?_
  exact ⟨rfl, rfl, rfl⟩
structure KX where
 gX : Ka
 gY : Ka
def KZ (x : KX) : D := .agg [.v (.string x.gX.gName), .v (.int .i64 x.gX.gNode), .v (.string x.gY.gName), .v (.int .i64 x.gY.gNode)]
end Go.Proofs.YtnfkijcmakgkmaaGreat.Ab
namespace Go.Proofs.YtnfkijcmakgkmaaGreat.Ab
open Go
set_option linter.all false
noncomputable def KgG (a0 : List KX) (a1 : Ka) (a2 : Ka) : Option (List KX) :=
 ((Kcf a1).bind fun x3 => ((Kcf a2).bind fun x4 => (Option.bind (α := List KX) (loopM (fun (s27 : List KX × Int) => (bif (decide (s27.2 < (a0.length : Int))) then ((idx a0 s27.2).bind fun x42 => (bif (!((decide (x42.gX.gName = x3.gName) && (x42.gX.gNode == x3.gNode && true)) && ((decide (x42.gY.gName = x4.gName) && (x42.gY.gNode == x4.gNode && true)) && true))) then ((idx a0 s27.2).bind fun x44 => ((app 48 s27.1 ([x44] : List KX)).bind fun x45 => some (.next (x45, (IntKind.i64.wrap (s27.2 + (1 : Int))))))) else some (.next (s27.1, (IntKind.i64.wrap (s27.2 + (1 : Int))))))) else some (.done s27.1))) (([] : List KX), (0 : Int))) fun y26 => ((app 48 y26 ([(⟨x3, x4⟩ : KX)] : List KX)).bind fun x46 => some x46))))
theorem r29_Add_ok (a0 : List KX) (a1 : Ka) (a2 : Ka) (r : List KX) (h0 : KgG a0 a1 a2 = some r) : CallsD Tryz.prog 15 [.lst 4 (a0.map KZ) .no, Kf a1, Kf a2] [] [] (fun d h k => ∃ y0, d = .lst 4 (r.map KZ) (.cur y0) ∧ h = [] ∧ k = [(4, y0)]) := by
 have hm := KI h0
 unfold KgG at hm
 clear h0
 refine K3 htab Tryz.func15 rfl rfl rfl rfl rfl (fun C => ?_)
 refine Kh ?_
 refine p_box rfl rfl rfl rfl rfl rfl rfl (fun b1 => ?_)
 refine p_box rfl rfl rfl rfl rfl rfl rfl (fun b2 => ?_)
 refine pu ?_
 refine Ke ?_
 refine Km ?_
 obtain ⟨x3, q3, hm⟩ := Kc hm
 obtain ⟨x4, q4, hm⟩ := Kc hm
 refine Kac 6 [(5, [.v (.string ByteArray.empty), .v (.int .i64 (0 : Int)), .v (.string ByteArray.empty), .v (.int .i64 (0 : Int))], 43)] [[],[0],[],[0,1,2],[0,1,2,3],[]] [0,1,2,3,4,5] [[],[0],[],[0,1,2],[0,1,2,3],[],[0,1,2,3,4,5]] (by kernel_rfl) (by kernel_rfl) (by kernel_rfl) (by rfl) (by rfl) (by kernel_rfl) ?_
 iterate 5 apply Exists.intro
 refine ⟨.any, ?_⟩
 intro bs
 refine z_eM rfl rfl (Kai (d := Kf a1) 0 htab rfl rfl rfl rfl rfl) rfl rfl rfl rfl rfl rfl ?_
 refine KbC rfl rfl (KcV a1 x3 q3) rfl rfl Wl rfl rfl rfl rfl rfl rfl ?_
 refine z_eM rfl rfl (Kai (d := Kf a2) 1 htab rfl rfl rfl rfl rfl) rfl rfl rfl rfl rfl rfl ?_
 refine KbC rfl rfl (KcV a2 x4 q4) rfl rfl Wl rfl rfl rfl rfl rfl rfl ?_
 refine z_e rfl rfl (x_build (r := [.v (.string x3.gName), .v (.int .i64 x3.gNode), .v (.string x4.gName), .v (.int .i64 x4.gNode)]) htab rfl rfl rfl rfl rfl rfl) rfl rfl rfl rfl rfl rfl ?_
 refine z_alloc rfl htab rfl rfl rfl rfl rfl rfl rfl rfl (by simp [dOf, eI64]) (by simp) ?_
 refine z_nil rfl (by simp only [List.map_cons, List.map_nil]; exact rfl) (fun e he => by simp [isAl] at he; subst he; rfl) ?_
 obtain ⟨b5, hb5⟩ : ∃ b, bs 5 = b := ⟨_, rfl⟩
 simp only [hb5]
 clear hb5
 refine pS2 (ds' := [.v (.string x3.gName), .v (.int .i64 x3.gNode), .v (.string x4.gName), .v (.int .i64 x4.gNode)]) ?_
 refine KP ?_
 refine pu ?_
 refine Ke ?_
 refine Km ?_
 refine Kh ?_
 refine pu ?_
 refine Ke ?_
 obtain ⟨y26, q26, ho26⟩ := Kc hm
 refine Kah (Y := Value) (fun z26 => (⟨[(7, .ptr b5 0), (8, .lst 4 (y26.map KZ) (.cur z26))], [(b5, Blk.cells [.v (.string x3.gName), .v (.int .i64 x3.gNode), .v (.string x4.gName), .v (.int .i64 x4.gNode)] 43)], [(4, z26)]⟩ : S)) ?_ ?_
 ·clear hm; have hm := KI q26
  refine KG ?_
  obtain ⟨u27, hl27, hq27⟩ := yes_m hm
  refine Kao (Y := Value) hl27 (fun s27 z27 => (⟨[(0, .lst 4 (a0.map KZ) .no), (7, .ptr b5 0), (8, .lst 4 (s27.1.map KZ) (.cur z27)), (9, .v (.int .i64 s27.2))], [(b5, Blk.cells [.v (.string x3.gName), .v (.int .i64 x3.gNode), .v (.string x4.gName), .v (.int .i64 x4.gNode)] 43)], [(4, z27)]⟩ : S)) ?_ ?_
  ·skip
   refine WkX.tokN (i := 8) 4 rfl (fun w40 => ?_)
   exact WkX.of w40 (WkS.perm (WkS.cons rfl (Wk.refl _) (WkS.cons rfl (Wk.refl _) (WkS.cons rfl (Wk.refl _) (WkS.cons rfl (Wk.refl _) (WkS.nil))))) ((KF (j := 2) rfl).trans (List.Perm.cons _ Pf)) Pf)
  ·intro G27 s27 z27 hm
   refine Km ?_
   refine Kh ?_
   refine pu ?_
   refine pu ?_
   refine Kag htab rfl rfl rfl rfl rfl rfl rfl (by first | exact KY | rfl) ?_
   refine pu ?_
   refine Ke ?_
   refine KC rfl (fun hc41 => ?_) (fun hc41 => ?_)
   ·replace hm := yes_t hc41 hm
    refine KB ?_
    refine Kb ?_
    refine Km ?_
    refine KG ?_
    refine Km ?_
    obtain ⟨x42, q42, hm⟩ := Kc hm
    refine Kac 5 [] [[],[],[0],[0,2],[]] [0,2,3,4] [[],[],[0,1],[0,1,2],[],[0,1,2,3,4]] (by kernel_rfl) (by kernel_rfl) (by kernel_rfl) (by rfl) (by rfl) (by kernel_rfl) ?_
    iterate 4 apply Exists.intro
    intro bs
    refine zep ?_
    refine zqp ?_
    refine z_e rfl rfl (Kz htab rfl rfl rfl rfl rfl rfl rfl (Kd q42) (Kk q42)) rfl rfl rfl rfl rfl rfl ?_
    refine z_eM rfl rfl (Ko (d := KZ x42) htab rfl rfl rfl rfl rfl) rfl rfl rfl rfl rfl rfl ?_
    refine z_eM rfl rfl (Kai (d := KZ (⟨x3, x4⟩ : KX)) 0 htab rfl rfl rfl rfl rfl) rfl rfl rfl rfl rfl rfl ?_
    refine z_nil rfl rfl (fun e he => by simp [isAl] at he) ?_
    refine p_eqC eqn43 htab rfl rfl rfl rfl rfl eqs43 eqg43 rfl rfl rfl rfl ?_
    refine Ke ?_
    refine KC rfl (fun hc43 => ?_) (fun hc43 => ?_)
    ·replace hm := yes_t hc43 hm
     refine Kt ?_
     iterate 3 refine pu ?_
     obtain ⟨x44, q44, hm⟩ := Kc hm
     refine Kad htab rfl rfl rfl rfl rfl rfl rfl rfl rfl rfl (Kd q44) (Kk q44) ?_
     refine KW (d := KZ x44) htab rfl rfl rfl rfl rfl rfl rfl rfl ?_
     refine p_lit htab rfl rfl rfl rfl rfl rfl rfl rfl rfl rfl rfl rfl rfl rfl ?_
     refine p_eq (i := 32) (d' := .lst 4 (([x44] : List KX).map KZ) .full) rfl (Wk.lst0 (.cons (WkC.refl _) (.nil))) ?_
     obtain ⟨x45, q45, hm⟩ := Kc hm
     refine Ka4 0 htab rfl rfl rfl rfl rfl rfl rfl rfl rfl rfl rfl rfl rfl rfl rfl rfl rfl (Kal q45) (fun v45 => ?_)
     refine Ka5 (i := 33) q45 rfl ?_
     refine pu ?_
     refine Kv ?_
     refine KM ?_
     refine Kb ?_
     refine Kt ?_
     iterate 3 refine pu ?_
     refine Kv ?_
     refine Kb ⟨_, K0 hm, ?_⟩
     exact WkX.of v45 (WkS.perm (WkS.cons rfl (Wk.refl _) (WkS.cons rfl (Wk.refl _) (WkS.cons rfl (Wk.refl _) (WkS.cons rfl (Wk.refl _) (WkS.nil))))) Pf Pf)
    ·replace hm := yes_f hc43 hm
     refine KB ?_
     refine KM ?_
     refine Kb ?_
     refine Kt ?_
     iterate 3 refine pu ?_
     refine Kv ?_
     refine Kb ⟨_, K0 hm, ?_⟩
     exact WkX.of z27 (WkS.perm (WkS.cons rfl (Wk.refl _) (WkS.cons rfl (Wk.refl _) (WkS.cons rfl (Wk.refl _) (WkS.cons rfl (Wk.refl _) (WkS.nil))))) Pf Pf)
   ·replace hm := yes_f hc41 hm
    refine Kaa ?_
    refine KH ?_
    have e27 := K1 hm; subst e27; clear hm; have hm := hq27
    refine KH ?_
    refine K5 ?_
    have e26 := Kj hm; subst e26
    refine ⟨rfl, ?_⟩
    exact WkX.of z27 (WkS.perm (WkS.cons rfl (Wk.refl _) (WkS.cons rfl (Wk.refl _) (WkS.nil))) Pf Pf)
 ·intro s26 hw26; clear hm; have hm := ho26; clear q26 ho26
  refine Kb ?_
  refine KV hw26 (fun z26 => ?_)
  refine Kh ?_
  refine pu ?_
  refine KaD (d := KZ (⟨x3, x4⟩ : KX)) 0 htab rfl rfl rfl rfl rfl rfl rfl rfl ?_
  refine p_lit htab rfl rfl rfl rfl rfl rfl rfl rfl rfl rfl rfl rfl rfl rfl ?_
  refine p_eq (i := 36) (d' := .lst 4 (([(⟨x3, x4⟩ : KX)] : List KX).map KZ) .full) rfl (Wk.lst0 (.cons (WkC.refl _) (.nil))) ?_
  obtain ⟨x46, q46, hm⟩ := Kc hm
  refine Ka4 0 htab rfl rfl rfl rfl rfl rfl rfl rfl rfl rfl rfl rfl rfl rfl rfl rfl rfl (Kal q46) (fun v46 => ?_)
  refine Ka5 (i := 37) q46 rfl ?_
  refine pu ?_
  refine Ke ?_
  refine KE ?_
  have er47 := Kj hm; subst er47
  refine rP (t' := [(6, .lst 4 (x46.map KZ) (.cur v46))]) [] [0] 0 (wC wN) (lT lN) ?_
  exact ⟨v46, rfl, rfl, rfl⟩
structure Ka6 where
 gP : Kw
 gQ : Kw
 gReads : List KX
 gAdds : List KX
 gKnown : List Ka
def KaZ (x : Ka6) : D := .agg [.lst 4 (x.gP.gGlobals.map KJ) .no, .lst 5 (x.gP.gFuncs.map KA) .no, .lst 4 (x.gQ.gGlobals.map KJ) .no, .lst 5 (x.gQ.gFuncs.map KA) .no, .lst 4 (x.gReads.map KZ) .no, .lst 4 (x.gAdds.map KZ) .no, .lst 2 (x.gKnown.map Kf) .no]
def KeV (x : K8) : Prop := x.gName.size ≤ maxLen ∧ (Lit.int .i64 x.gSize).wf = true ∧ (Lit.int .i64 x.gAt).wf = true
theorem Kig {n : Nat} {d : D} (g : GoodT tab n 110 d) : ∃ x : K8, d = KJ x ∧ KeV x := by
  obtain ⟨n', ds, _, rfl, hl, h⟩ := KbI ti110 rfl g
  match ds, hl with
  | [d0, d1, d2, d3], _ =>
    obtain ⟨x1, rfl, w1⟩ := Kdi ti9 rfl (h 0 _ _ rfl rfl)
    obtain ⟨x2, rfl⟩ := KiA ti4 rfl (h 1 _ _ rfl rfl)
    obtain ⟨x3, rfl, w3⟩ := Kcu ti3 rfl (h 2 _ _ rfl rfl)
    obtain ⟨x4, rfl, w4⟩ := Kcu ti3 rfl (h 3 _ _ rfl rfl)
    exact ⟨⟨x1, x2, x3, x4⟩, rfl, w1, w3, w4⟩
def Kd8 (x : Ka3) : Prop := x.gName.size ≤ maxLen
theorem Kg6 {n : Nat} {d : D} (g : GoodT tab n 130 d) : ∃ x : Ka3, d = Kaf x ∧ Kd8 x := by
  obtain ⟨n', ds, _, rfl, hl, h⟩ := KbI ti130 rfl g
  match ds, hl with
  | [d0, d1], _ =>
    obtain ⟨x1, rfl, w1⟩ := Kdi ti9 rfl (h 0 _ _ rfl rfl)
    obtain ⟨x2, rfl⟩ := KiA ti4 rfl (h 1 _ _ rfl rfl)
    exact ⟨⟨x1, x2⟩, rfl, w1⟩
def Keo (_ : Kn) : Prop := True
theorem Kfu : ∀ (n : Nat) {d : D} (g : GoodT tab n 100 d), ∃ x : Kn, d = Kx x ∧ Keo x
  | 0, d, g => by simp [GoodT] at g
  | n + 1, d, g => by
    obtain ⟨n', ds, hn, rfl, hl, h⟩ := KbI ti100 rfl g
    obtain rfl : n' = n := by omega
    match ds, hl with
    | [d0, d1, d2, d3, d4], _ =>
      obtain ⟨x1, rfl, w1⟩ := Kcu ti3 rfl (h 0 _ _ rfl rfl)
      obtain ⟨x2, rfl, w2⟩ := Kcu ti3 rfl (h 1 _ _ rfl rfl)
      obtain ⟨x3, rfl, w3⟩ := Kdi ti9 rfl (h 2 _ _ rfl rfl)
      obtain ⟨n4, zs4, hn4, rfl, hl4, hz4⟩ := Kbf ti95 rfl ti100 (h 3 _ _ rfl rfl)
      obtain ⟨x4, rfl, w4⟩ := Kbn (f := Kx) (K := (fun y => Keo y)) (p := fun x => GoodT tab n4 100 x) (fun x hx => by obtain ⟨x5, rfl, w5⟩ := Kfu _ (hx); exact ⟨x5, rfl, w5⟩) zs4 hz4
      obtain ⟨x6, rfl, w6⟩ := Kcu ti3 rfl (h 4 _ _ rfl rfl)
      exact ⟨⟨x1, x2, x3, x4, x6⟩, by rw [KK]; rfl, trivial⟩
theorem Kjd {n : Nat} {d : D} (g : GoodT tab n 100 d) : ∃ x : Kn, d = Kx x ∧ Keo x := Kfu n g
def Kc7 (_ : Kg) : Prop := True
theorem KdO : ∀ (n : Nat) {d : D} (g : GoodT tab n 97 d), ∃ x : Kg, d = Kr x ∧ Kc7 x
  | 0, d, g => by simp [GoodT] at g
  | n + 1, d, g => by
    obtain ⟨n', ds, hn, rfl, hl, h⟩ := KbI ti97 rfl g
    obtain rfl : n' = n := by omega
    match ds, hl with
    | [d0, d1, d2, d3, d4, d5, d6], _ =>
      obtain ⟨x1, rfl, w1⟩ := Kcu ti3 rfl (h 0 _ _ rfl rfl)
      obtain ⟨x2, rfl, w2⟩ := Kdi ti9 rfl (h 1 _ _ rfl rfl)
      obtain ⟨x3, rfl, w3⟩ := Kdi ti9 rfl (h 2 _ _ rfl rfl)
      obtain ⟨n4, zs4, hn4, rfl, hl4, hz4⟩ := Kbf ti95 rfl ti100 (h 3 _ _ rfl rfl)
      obtain ⟨x4, rfl, w4⟩ := Kbn (f := Kx) (K := (fun y => Keo y)) (p := fun x => GoodT tab n4 100 x) (fun x hx => by obtain ⟨x5, rfl, w5⟩ := Kjd (hx); exact ⟨x5, rfl, w5⟩) zs4 hz4
      obtain ⟨n6, zs6, hn6, rfl, hl6, hz6⟩ := Kbf ti61 rfl ti97 (h 4 _ _ rfl rfl)
      obtain ⟨x6, rfl, w6⟩ := Kbn (f := Kr) (K := (fun y => Kc7 y)) (p := fun x => GoodT tab n6 97 x) (fun x hx => by obtain ⟨x7, rfl, w7⟩ := KdO _ (hx); exact ⟨x7, rfl, w7⟩) zs6 hz6
      obtain ⟨n8, zs8, hn8, rfl, hl8, hz8⟩ := Kbf ti61 rfl ti97 (h 5 _ _ rfl rfl)
      obtain ⟨x8, rfl, w8⟩ := Kbn (f := Kr) (K := (fun y => Kc7 y)) (p := fun x => GoodT tab n8 97 x) (fun x hx => by obtain ⟨x9, rfl, w9⟩ := KdO _ (hx); exact ⟨x9, rfl, w9⟩) zs8 hz8
      obtain ⟨x10, rfl, w10⟩ := Kcu ti3 rfl (h 6 _ _ rfl rfl)
      exact ⟨⟨x1, x2, x3, x4, x6, x8, x10⟩, by rw [Kp]; rfl, trivial⟩
theorem Kje {n : Nat} {d : D} (g : GoodT tab n 97 d) : ∃ x : Kg, d = Kr x ∧ Kc7 x := KdO n g
def KfU (x : KQ) : Prop := x.gName.size ≤ maxLen ∧ (x.gParams.length ≤ maxLen ∧ ∀ y ∈ x.gParams, Kd8 y) ∧ (x.gLocals.length ≤ maxLen ∧ ∀ y ∈ x.gLocals, Kd8 y) ∧ (x.gBody.length ≤ maxLen ∧ ∀ y ∈ x.gBody, Kc7 y) ∧ (Lit.int .i64 x.gAt).wf = true
theorem Kjf {n : Nat} {d : D} (g : GoodT tab n 63 d) : ∃ x : KQ, d = KA x ∧ KfU x := by
  obtain ⟨n', ds, _, rfl, hl, h⟩ := KbI ti63 rfl g
  match ds, hl with
  | [d0, d1, d2, d3, d4], _ =>
    obtain ⟨x1, rfl, w1⟩ := Kdi ti9 rfl (h 0 _ _ rfl rfl)
    obtain ⟨n2, zs2, _, rfl, hl2, hz2⟩ := Kbf ti60 rfl ti130 (h 1 _ _ rfl rfl)
    obtain ⟨x2, rfl, w2⟩ := Kbn (f := Kaf) (K := (fun y => Kd8 y)) (p := fun x => GoodT tab n2 130 x) (fun x hx => by obtain ⟨x3, rfl, w3⟩ := Kg6 (hx); exact ⟨x3, rfl, w3⟩) zs2 hz2
    obtain ⟨n4, zs4, _, rfl, hl4, hz4⟩ := Kbf ti60 rfl ti130 (h 2 _ _ rfl rfl)
    obtain ⟨x4, rfl, w4⟩ := Kbn (f := Kaf) (K := (fun y => Kd8 y)) (p := fun x => GoodT tab n4 130 x) (fun x hx => by obtain ⟨x5, rfl, w5⟩ := Kg6 (hx); exact ⟨x5, rfl, w5⟩) zs4 hz4
    obtain ⟨n6, zs6, _, rfl, hl6, hz6⟩ := Kbf ti61 rfl ti97 (h 3 _ _ rfl rfl)
    obtain ⟨x6, rfl, w6⟩ := Kbn (f := Kr) (K := (fun y => Kc7 y)) (p := fun x => GoodT tab n6 97 x) (fun x hx => by obtain ⟨x7, rfl, w7⟩ := Kje (hx); exact ⟨x7, rfl, w7⟩) zs6 hz6
    obtain ⟨x8, rfl, w8⟩ := Kcu ti3 rfl (h 4 _ _ rfl rfl)
    exact ⟨⟨x1, x2, x4, x6, x8⟩, rfl, w1, ⟨by simpa using hl2, w2⟩, ⟨by simpa using hl4, w4⟩, ⟨by simpa using hl6, w6⟩, w8⟩
def Ked (x : Kw) : Prop := (x.gGlobals.length ≤ maxLen ∧ ∀ y ∈ x.gGlobals, KeV y) ∧ (x.gFuncs.length ≤ maxLen ∧ ∀ y ∈ x.gFuncs, KfU y)
theorem Ke6 {n : Nat} {d : D} (g : GoodT tab n 25 d) : ∃ x : Kw, d = Ku x ∧ Ked x := by
  obtain ⟨n', ds, _, rfl, hl, h⟩ := KbI ti25 rfl g
  match ds, hl with
  | [d0, d1], _ =>
    obtain ⟨n1, zs1, _, rfl, hl1, hz1⟩ := Kbf ti22 rfl ti110 (h 0 _ _ rfl rfl)
    obtain ⟨x1, rfl, w1⟩ := Kbn (f := KJ) (K := (fun y => KeV y)) (p := fun x => GoodT tab n1 110 x) (fun x hx => by obtain ⟨x2, rfl, w2⟩ := Kig (hx); exact ⟨x2, rfl, w2⟩) zs1 hz1
    obtain ⟨n3, zs3, _, rfl, hl3, hz3⟩ := Kbf ti23 rfl ti63 (h 1 _ _ rfl rfl)
    obtain ⟨x3, rfl, w3⟩ := Kbn (f := KA) (K := (fun y => KfU y)) (p := fun x => GoodT tab n3 63 x) (fun x hx => by obtain ⟨x4, rfl, w4⟩ := Kjf (hx); exact ⟨x4, rfl, w4⟩) zs3 hz3
    exact ⟨⟨x1, x3⟩, rfl, ⟨by simpa using hl1, w1⟩, ⟨by simpa using hl3, w3⟩⟩
def Kd9 (x : Ka) : Prop := x.gName.size ≤ maxLen ∧ (Lit.int .i64 x.gNode).wf = true
theorem Kfe {n : Nat} {d : D} (g : GoodT tab n 41 d) : ∃ x : Ka, d = Kf x ∧ Kd9 x := by
  obtain ⟨n', ds, _, rfl, hl, h⟩ := KbI ti41 rfl g
  match ds, hl with
  | [d0, d1], _ =>
    obtain ⟨x1, rfl, w1⟩ := Kdi ti9 rfl (h 0 _ _ rfl rfl)
    obtain ⟨x2, rfl, w2⟩ := Kcu ti3 rfl (h 1 _ _ rfl rfl)
    exact ⟨⟨x1, x2⟩, rfl, w1, w2⟩
def KbF (x : KX) : Prop := Kd9 x.gX ∧ Kd9 x.gY
theorem Kdr {n : Nat} {d : D} (g : GoodT tab n 43 d) : ∃ x : KX, d = KZ x ∧ KbF x := by
  obtain ⟨n', ds, _, rfl, hl, h⟩ := KbI ti43 rfl g
  match ds, hl with
  | [d0, d1], _ =>
    obtain ⟨x1, rfl, w1⟩ := Kfe (h 0 _ _ rfl rfl)
    obtain ⟨x2, rfl, w2⟩ := Kfe (h 1 _ _ rfl rfl)
    exact ⟨⟨x1, x2⟩, rfl, w1, w2⟩
def KdD (x : Ka6) : Prop := Ked x.gP ∧ Ked x.gQ ∧ (x.gReads.length ≤ maxLen ∧ ∀ y ∈ x.gReads, KbF y) ∧ (x.gAdds.length ≤ maxLen ∧ ∀ y ∈ x.gAdds, KbF y) ∧ (x.gKnown.length ≤ maxLen ∧ ∀ y ∈ x.gKnown, Kd9 y)
theorem goodTSondagelaw32Case {n : Nat} {d : D} (g : GoodT tab n 29 d) : ∃ x : Ka6, d = KaZ x ∧ KdD x := by
  obtain ⟨n', ds, _, rfl, hl, h⟩ := KbI ti29 rfl g
  match ds, hl with
  | [d0, d1, d2, d3, d4], _ =>
    obtain ⟨x1, rfl, w1⟩ := Ke6 (h 0 _ _ rfl rfl)
    obtain ⟨x2, rfl, w2⟩ := Ke6 (h 1 _ _ rfl rfl)
    obtain ⟨n3, zs3, _, rfl, hl3, hz3⟩ := Kbf ti26 rfl ti43 (h 2 _ _ rfl rfl)
    obtain ⟨x3, rfl, w3⟩ := Kbn (f := KZ) (K := (fun y => KbF y)) (p := fun x => GoodT tab n3 43 x) (fun x hx => by obtain ⟨x4, rfl, w4⟩ := Kdr (hx); exact ⟨x4, rfl, w4⟩) zs3 hz3
    obtain ⟨n5, zs5, _, rfl, hl5, hz5⟩ := Kbf ti26 rfl ti43 (h 3 _ _ rfl rfl)
    obtain ⟨x5, rfl, w5⟩ := Kbn (f := KZ) (K := (fun y => KbF y)) (p := fun x => GoodT tab n5 43 x) (fun x hx => by obtain ⟨x6, rfl, w6⟩ := Kdr (hx); exact ⟨x6, rfl, w6⟩) zs5 hz5
    obtain ⟨n7, zs7, _, rfl, hl7, hz7⟩ := Kbf ti27 rfl ti41 (h 4 _ _ rfl rfl)
    obtain ⟨x7, rfl, w7⟩ := Kbn (f := Kf) (K := (fun y => Kd9 y)) (p := fun x => GoodT tab n7 41 x) (fun x hx => by obtain ⟨x8, rfl, w8⟩ := Kfe (hx); exact ⟨x8, rfl, w8⟩) zs7 hz7
    exact ⟨⟨x1, x2, x3, x5, x7⟩, rfl, w1, w2, ⟨by simpa using hl3, w3⟩, ⟨by simpa using hl5, w5⟩, ⟨by simpa using hl7, w7⟩⟩
end Go.Proofs.YtnfkijcmakgkmaaGreat.Ab
namespace Go.Proofs.YtnfkijcmakgkmaaGreat.Ab
open Go
set_option linter.all false
mutual
def szE : Kn → Nat
 | ⟨_, _, _, ks, _⟩ => 1 + szEs ks
def szEs : List Kn → Nat
 | [] => 0
 | e :: l => szE e + szEs l
end
mutual
def dpE : Kn → Nat
 | ⟨_, _, _, ks, _⟩ => 1 + dpEs ks
def dpEs : List Kn → Nat
 | [] => 0
 | e :: l => max (dpE e) (dpEs l)
end
theorem Kfv (e : Kn) : szE e = 1 + szEs e.gKids := by cases e; simp only [szE]
theorem Kfw (e : Kn) : dpE e = 1 + dpEs e.gKids := by cases e; simp only [dpE]
theorem Kg7 : ∀ l m, szEs (l ++ m) = szEs l + szEs m
 | [], m => by simp [szEs]
 | e :: l, m => by simp only [List.cons_append, szEs, Kg7 l m]; omega
theorem KgH : ∀ {l : List Kn} {e : Kn}, e ∈ l → dpE e ≤ dpEs l
  | x :: l, e, h => by
    simp only [dpEs]
    rcases List.mem_cons.1 h with rfl | h
    · omega
    · have := KgH h; omega
theorem KgI : ∀ {l : List Kn} {e : Kn}, e ∈ l → szE e ≤ szEs l
  | x :: l, e, h => by
    simp only [szEs]
    rcases List.mem_cons.1 h with rfl | h
    · omega
    · have := KgI h; omega
def wE (e : Kn) : Nat := wt (Kx e)
def wEs (l : List Kn) : Nat := wts (l.map Kx)
theorem wE_eq (e : Kn) : wE e = e.gName.size + wEs e.gKids + 5 := by
 unfold wE wEs
 rw [KK]
 simp only [wt, wts, wtv]; omega
theorem wEs_cons (e : Kn) (l : List Kn) : wEs (e :: l) = wE e + wEs l := by unfold wEs wE; simp only [List.map_cons, wts]
mutual
theorem szE_le : ∀ e, szE e ≤ wE e
  | ⟨a, b, c, ks, d⟩ => by
    have := szEs_le ks
    rw [wE_eq]
    simp only [szE]; omega
theorem szEs_le : ∀ l, szEs l ≤ wEs l
  | [] => by simp [szEs]
  | e :: l => by
    have h1 := szE_le e
    have h2 := szEs_le l
    rw [wEs_cons]
    simp only [szEs]; omega
end
theorem Kdk : ∀ l, l.length ≤ szEs l
  | [] => by simp
  | e :: l => by
    have := Kdk l
    have h := Kfv e
    simp only [szEs, List.length_cons]; omega
theorem kids_mem {e k : Kn} (h : k ∈ e.gKids) : dpE k < dpE e ∧ szE k < szE e := by
 have h1 := KgH h
 have h2 := KgI h
 rw [Kfw e, Kfv e]; omega
theorem KfV {l pre : List Kn} {x : Kn} {post : List Kn} (h : l = pre ++ x :: post) : szEs pre + szE x ≤ szEs l := by
 subst h; rw [Kg7]; simp only [szEs]; omega
mutual
def eqE (p : Bool) : Kn → Kn → Bool
  | ⟨a, b, c, ks, d⟩, f => a == f.gOp && (b == f.gN && (decide (c = f.gName) && ((!p || d == f.gAt) && eqEs p ks f.gKids)))
def eqEs (p : Bool) : List Kn → List Kn → Bool
  | [], m => m.isEmpty
  | e :: l, m => match m with
    | [] => false
    | f :: m => eqE p e f && eqEs p l m
end
theorem eqE_eq (p : Bool) (e f : Kn) : eqE p e f = (e.gOp == f.gOp && (e.gN == f.gN && (decide (e.gName = f.gName) && ((!p || e.gAt == f.gAt) && eqEs p e.gKids f.gKids)))) := by cases e; simp only [eqE]
theorem eqEs_eq (p : Bool) : ∀ l m, eqEs p l m = all2 (eqE p) l m
 | [], [] => by simp [eqEs, all2]
 | [], _ :: _ => by simp [eqEs, all2]
 | _ :: _, [] => by simp [eqEs, all2]
 | x :: l, y :: m => by simp only [eqEs, all2, eqEs_eq p l m]
end Go.Proofs.YtnfkijcmakgkmaaGreat.Ab
namespace Go.Proofs.YtnfkijcmakgkmaaGreat.Ab
open Go
set_option linter.all false
mutual
def allE : Kn → List Kn
 | ⟨a, b, c, ks, d⟩ => ⟨a, b, c, ks, d⟩ :: allEs ks
def allEs : List Kn → List Kn
 | [] => []
 | e :: l => allE e ++ allEs l
end
theorem allE_eq (e : Kn) : allE e = e :: allEs e.gKids := by cases e; simp only [allE]
theorem KcW : ∀ l m, allEs (l ++ m) = allEs l ++ allEs m
 | [], m => by simp [allEs]
 | e :: l, m => by simp only [List.cons_append, allEs, KcW l m, List.append_assoc]
mutual
theorem KhD : ∀ e, (allE e).length = szE e
 | ⟨_, _, _, ks, _⟩ => by simp only [allE, szE, List.length_cons, Kcg ks]; omega
theorem Kcg : ∀ l, (allEs l).length = szEs l
 | [] => rfl
 | e :: l => by simp only [allEs, szEs, List.length_append, KhD e, Kcg l]
end
mutual
def flS : Kg → List Kg
 | ⟨a, b, c, es, ks, ls, d⟩ => ⟨a, b, c, es, ks, ls, d⟩ :: (flSs ks ++ flSs ls)
def flSs : List Kg → List Kg
 | [] => []
 | s :: l => flS s ++ flSs l
end
mutual
def szS : Kg → Nat
 | ⟨_, _, _, es, ks, ls, _⟩ => 1 + szSs ks + szSs ls + szEs es
def szSs : List Kg → Nat
 | [] => 0
 | s :: l => szS s + szSs l
end
mutual
def hS : Kg → Nat
 | ⟨_, _, _, _, ks, ls, _⟩ => 1 + max (hSs ks) (hSs ls)
def hSs : List Kg → Nat
 | [] => 1
 | s :: l => max (hS s) (hSs l)
end
def exOf (l : List Kg) : List Kn := l.flatMap fun s => allEs s.gExps
theorem flS_eq (s : Kg) : flS s = s :: (flSs s.gKids ++ flSs s.gElse) := by cases s; simp only [flS]
theorem szS_eq (s : Kg) : szS s = 1 + szSs s.gKids + szSs s.gElse + szEs s.gExps := by cases s; simp only [szS]
theorem hS_eq (s : Kg) : hS s = 1 + max (hSs s.gKids) (hSs s.gElse) := by cases s; simp only [hS]
theorem Kff : ∀ l m, flSs (l ++ m) = flSs l ++ flSs m
 | [], m => by simp [flSs]
 | e :: l, m => by simp only [List.cons_append, flSs, Kff l m, List.append_assoc]
theorem Kg8 : ∀ l m, szSs (l ++ m) = szSs l + szSs m
 | [], m => by simp [szSs]
 | e :: l, m => by simp only [List.cons_append, szSs, Kg8 l m]; omega
theorem Kg9 (l m : List Kg) : exOf (l ++ m) = exOf l ++ exOf m := by simp [exOf]
theorem hS_mem : ∀ {l : List Kg} {s : Kg}, s ∈ l → hS s ≤ hSs l
  | x :: l, e, h => by
    simp only [hSs]
    rcases List.mem_cons.1 h with rfl | h
    · omega
    · have := hS_mem h; omega
theorem szS_mem : ∀ {l : List Kg} {s : Kg}, s ∈ l → szS s ≤ szSs l
  | x :: l, e, h => by
    simp only [szSs]
    rcases List.mem_cons.1 h with rfl | h
    · omega
    · have := szS_mem h; omega
theorem KdP : ∀ l, 1 ≤ hSs l
 | [] => by simp [hSs]
 | s :: l => by have := KdP l; simp only [hSs]; omega
mutual
theorem szS_fl : ∀ s, szS s = (flS s).length + (exOf (flS s)).length
  | ⟨a, b, c, es, ks, ls, d⟩ => by
    have h1 := KcH ks
    have h2 := KcH ls
    simp only [szS, flS, List.length_cons, List.length_append, exOf, List.flatMap_cons, List.flatMap_append, Kcg] at h1 h2 ⊢
    omega
theorem KcH : ∀ l, szSs l = (flSs l).length + (exOf (flSs l)).length
  | [] => rfl
  | s :: l => by
    have h1 := szS_fl s
    have h2 := KcH l
    simp only [szSs, flSs, List.length_append, Kg9]; omega
end
theorem KeW : ∀ l, l.length ≤ szSs l
  | [] => by simp
  | e :: l => by
    have := KeW l
    have h := szS_eq e
    simp only [szSs, List.length_cons]; omega
theorem szSs_pre {l pre : List Kg} {x : Kg} {post : List Kg} (h : l = pre ++ x :: post) : szSs pre + szS x ≤ szSs l := by
 subst h; rw [Kg8]; simp only [szSs]; omega
def wS (s : Kg) : Nat := wt (Kr s)
def wSs (l : List Kg) : Nat := wts (l.map Kr)
theorem wS_eq (s : Kg) : wS s = s.gName.size + s.gFunc.size + wEs s.gExps + wSs s.gKids + wSs s.gElse + 7 := by
 unfold wS wSs wEs
 rw [Kp]
 simp only [wt, wts, wtv]; omega
theorem wSs_cons (s : Kg) (l : List Kg) : wSs (s :: l) = wS s + wSs l := by unfold wSs wS; simp only [List.map_cons, wts]
mutual
theorem szS_le : ∀ s, szS s ≤ wS s
  | ⟨a, b, c, es, ks, ls, d⟩ => by
    have h1 := KgJ ks
    have h2 := KgJ ls
    have h3 := szEs_le es
    rw [wS_eq]
    simp only [szS]; omega
theorem KgJ : ∀ l, szSs l ≤ wSs l
  | [] => by simp [szSs]
  | s :: l => by
    have h1 := szS_le s
    have h2 := KgJ l
    rw [wSs_cons]
    simp only [szSs]; omega
end
theorem fuel {l : List Kg} {n : Nat} {x : Kg} (h : hSs l ≤ n + 1) (hx : x ∈ l) : hSs x.gKids ≤ n ∧ hSs x.gElse ≤ n := by
 have h1 := hS_mem hx
 have h2 := hS_eq x
 omega
end Go.Proofs.YtnfkijcmakgkmaaGreat.Ab
namespace Go.Proofs.YtnfkijcmakgkmaaGreat.Ab
open Go
set_option linter.all false
theorem rexps_g (p : Bool) : ∀ (n : Nat) (l m : List Kn), dpEs l + 1 ≤ n → szEs l ≤ 1048576 → Kbx n l m p = some (eqEs p l m)
  | 0, l, m, h, _ => by omega
  | n + 1, l, m, h, hb => by
    show Kce (Kbx n) l m p = _
    unfold Kce
    have hl := Kdk l
    rw [eqEs_eq]
    refine pairs _ l m (fun a x q a' y q' e e' hp => ?_) ?_
    · have hx := KbY e
      have hd := KgH hx
      have hz := KgI hx
      have hdx := Kfw x
      have hsx := Kfv x
      rw [Kau e, cond_true]
      simp only [Kae e rfl, Kae e' hp, Option.bind_some]
      rw [Kam e (by omega), rexps_g p n _ _ (by omega) (by omega), eqE_eq]
      simp only [Option.bind_some, bne]
      cases x.gOp == y.gOp <;> cases x.gN == y.gN <;> cases decide (x.gName = y.gName) <;> cases p <;> cases x.gAt == y.gAt <;> cases eqEs _ x.gKids y.gKids <;> rfl
    · rw [Kav, cond_false]
theorem rexps_eq {l m : List Kn} {p : Bool} (hb : szEs l ≤ 1048576) : KeQ l m p = some (eqEs p l m) := Kjr l m p (dpEs l + 1) (rexps_g p _ l m (Nat.le_refl _) hb)
end Go.Proofs.YtnfkijcmakgkmaaGreat.Ab
namespace Go.Proofs.YtnfkijcmakgkmaaGreat.Ab
open Go
set_option linter.all false
theorem same_b {g0 g1} {e f : Kn} (h : g0 e.gKids f.gKids = some (eqEs false e.gKids f.gKids)) : KbU g0 g1 e f = some (eqE false e f) := by
 unfold KbU
 rw [h, eqE_eq]
 cases e.gOp == f.gOp <;> cases e.gN == f.gN <;> cases decide (e.gName = f.gName) <;> rfl
theorem same_g : ∀ (n : Nat), (∀ l m, 2 * dpEs l + 1 ≤ n → szEs l ≤ 1048576 → (Ki n).1 l m = some (eqEs false l m)) ∧ (∀ e f, 2 * dpE e ≤ n → szE e ≤ 1048576 → (Ki n).2 e f = some (eqE false e f))
  | 0 => ⟨fun l m h => by omega, fun e f h _ => by rw [Kfw] at h; omega⟩
  | n + 1 => by
    obtain ⟨h2, h1⟩ := same_g n
    refine ⟨fun l m h hb => ?_, fun e f h hb => ?_⟩
    · show KT (Ki n).1 (Ki n).2 l m = _
      unfold KT
      have hl := Kdk l
      rw [eqEs_eq]
      refine pairs _ l m (fun p x q p' y q' e e' hp => ?_) ?_
      · have hx := KbY e
        have hd := KgH hx
        have hz := KgI hx
        rw [Kau e, cond_true, Kae e rfl, Option.bind_some, Kae e' hp, Option.bind_some, h1 x y (by omega) (by omega), Option.bind_some, Kam e (by omega)]
        cases eqE false x y <;> rfl
      · rw [Kav, cond_false]
    · have he := Kfw e
      have hs := Kfv e
      exact same_b (g1 := (Ki n).2) (h2 _ _ (by omega) (by omega))
theorem eqf_eq {l m : List Kn} (hb : szEs l ≤ 1048576) : Kas l m = some (eqEs false l m) := KbJ l m (2 * dpEs l + 1) ((same_g _).1 l m (Nat.le_refl _) hb)
mutual
def eqS (p : Bool) : Kg → Kg → Bool
  | ⟨a, b, c, es, ks, ls, d⟩, f => a == f.gOp && (decide (b = f.gName) && (decide (c = f.gFunc) && ((!p || d == f.gAt) && (eqEs p es f.gExps && (eqSs p ks f.gKids && eqSs p ls f.gElse)))))
def eqSs (p : Bool) : List Kg → List Kg → Bool
  | [], m => m.isEmpty
  | e :: l, m => match m with
    | [] => false
    | f :: m => eqS p e f && eqSs p l m
end
theorem eqS_eq (p : Bool) (e f : Kg) : eqS p e f = (e.gOp == f.gOp && (decide (e.gName = f.gName) && (decide (e.gFunc = f.gFunc) && ((!p || e.gAt == f.gAt) && (eqEs p e.gExps f.gExps && (eqSs p e.gKids f.gKids && eqSs p e.gElse f.gElse)))))) := by cases e; simp only [eqS]
theorem eqSs_eq (p : Bool) : ∀ l m, eqSs p l m = all2 (eqS p) l m
 | [], [] => by simp [eqSs, all2]
 | [], _ :: _ => by simp [eqSs, all2]
 | _ :: _, [] => by simp [eqSs, all2]
 | x :: l, y :: m => by simp only [eqSs, all2, eqSs_eq p l m]
theorem sameS_g : ∀ (n : Nat), (∀ l m, 3 * hSs l ≤ n → szSs l ≤ 1048576 → (KD n).1 l m = some (eqSs false l m)) ∧ (∀ l m, 3 * hSs l ≤ n + 1 → szSs l ≤ 1048576 → (KD n).2.1 l m = some (eqSs false l m)) ∧ (∀ s t, 3 * hS s ≤ n + 2 → szS s ≤ 1048576 → (KD n).2.2 s t = some (eqS false s t))
  | 0 => by
    refine ⟨fun l m h _ => ?_, fun l m h _ => ?_, fun s t h _ => ?_⟩
    · have := KdP l; omega
    · have := KdP l; omega
    · have := KdP s.gKids; rw [hS_eq] at h; omega
  | n + 1 => by
    obtain ⟨h1, h2, h3⟩ := sameS_g n
    refine ⟨fun l m h hb => ?_, fun l m h hb => ?_, fun s t h hb => ?_⟩
    · show Kbo (KD n).1 (KD n).2.1 (KD n).2.2 l m = _
      unfold Kbo
      rw [h2 l m (by omega) hb]; rfl
    · show KU (KD n).1 (KD n).2.1 (KD n).2.2 l m = _
      unfold KU
      have hl := KeW l
      rw [eqSs_eq]
      refine pairs _ l m (fun p x q p' y q' e e' hp => ?_) ?_
      · have hx := KbY e
        have hd := hS_mem hx
        have hz := szS_mem hx
        rw [Kau e, cond_true, Kae e rfl, Option.bind_some, Kae e' hp, Option.bind_some, h3 x y (by omega) (by omega), Option.bind_some, Kam e (by omega)]
        cases eqS false x y <;> rfl
      · rw [Kav, cond_false]
    · show Ka7 (KD n).1 (KD n).2.1 (KD n).2.2 s t = _
      unfold Ka7
      have hh := hS_eq s
      have hz := szS_eq s
      rw [eqf_eq (by omega), h1 _ _ (by omega) (by omega), h1 _ _ (by omega) (by omega), eqS_eq]
      simp only [Option.bind_some, bne]
      cases s.gOp == t.gOp <;> cases decide (s.gName = t.gName) <;> cases decide (s.gFunc = t.gFunc) <;> cases eqEs false s.gExps t.gExps <;> cases eqSs false s.gKids t.gKids <;> cases eqSs false s.gElse t.gElse <;> rfl
theorem sameS_eq {l m : List Kg} (hb : szSs l ≤ 1048576) : KdA l m = some (eqSs false l m) := KhW l m (3 * hSs l) ((sameS_g _).1 l m (Nat.le_refl _) hb)
theorem KhE (p : Bool) : ∀ (n : Nat) (l m : List Kg), hSs l ≤ n → szSs l ≤ 1048576 → KaV n l m p = some (eqSs p l m)
  | 0, l, m, h, _ => by have := KdP l; omega
  | n + 1, l, m, h, hb => by
    show KbB (KaV n) l m p = _
    unfold KbB
    have hl := KeW l
    rw [eqSs_eq]
    refine pairs _ l m (fun a x q a' y q' e e' hp => ?_) ?_
    · have hx := KbY e
      have hd := hS_mem hx
      have hz := szS_mem hx
      have hdx := hS_eq x
      have hsx := szS_eq x
      rw [Kau e, cond_true]
      simp only [Kae e rfl, Kae e' hp, Option.bind_some]
      rw [Kam e (by omega), rexps_eq (by omega), KhE p n _ _ (by omega) (by omega), KhE p n _ _ (by omega) (by omega), eqS_eq]
      simp only [Option.bind_some, bne]
      cases x.gOp == y.gOp <;> cases decide (x.gName = y.gName) <;> cases decide (x.gFunc = y.gFunc) <;> cases p <;> cases x.gAt == y.gAt <;> cases eqEs _ x.gExps y.gExps <;> cases eqSs _ x.gKids y.gKids <;> cases eqSs _ x.gElse y.gElse <;> rfl
    · rw [Kav, cond_false]
theorem rsameS_eq {l m : List Kg} {p : Bool} (hb : szSs l ≤ 1048576) : KdV l m p = some (eqSs p l m) := Kic l m p (hSs l) (KhE p _ l m (Nat.le_refl _) hb)
def eqVar (a b : Ka3) : Bool := decide (a.gName = b.gName) && (a.gPtr == b.gPtr && true)
theorem vars_eq {l m : List Ka3} (hb : l.length ≤ 1048576) : KdM l m = some (all2 eqVar l m) := by
 unfold KdM
 refine pairs _ l m (fun p x q p' y q' e e' hp => ?_) ?_
 ·rw [Kau e, cond_true, Kae e rfl, Option.bind_some, Kae e' hp, Option.bind_some, Kam e (by omega)]
  show (bif !eqVar x y then _ else _) = _
  cases eqVar x y <;> rfl
 ·rw [Kav, cond_false]
theorem KiF {l m : List Ka3} (hb : l.length ≤ 1048576) : KaQ l m = some (all2 eqVar l m) := vars_eq hb
def eqF (a b : KQ) : Bool := decide (a.gName = b.gName) && (all2 eqVar a.gParams b.gParams && (all2 eqVar a.gLocals b.gLocals && eqSs false a.gBody b.gBody))
theorem sameF_eq {a b : KQ} (h1 : a.gParams.length ≤ 1048576) (h2 : a.gLocals.length ≤ 1048576) (h3 : szSs a.gBody ≤ 1048576) : Kbg a b = some (eqF a b) := by
 unfold Kbg eqF
 rw [KiF h1, KiF h2, sameS_eq h3]
 simp only [Option.bind_some]
 cases decide (a.gName = b.gName) <;> cases all2 eqVar a.gParams b.gParams <;> cases all2 eqVar a.gLocals b.gLocals <;> cases eqSs false a.gBody b.gBody <;> rfl
theorem rsameF_eq {a b : KQ} (h1 : a.gParams.length ≤ 1048576) (h2 : a.gLocals.length ≤ 1048576) (h3 : szSs a.gBody ≤ 1048576) : KcT a b false = some (eqF a b) := by
 unfold KcT eqF
 rw [vars_eq h1, vars_eq h2, rsameS_eq h3]
 simp only [Option.bind_some]
 cases decide (a.gName = b.gName) <;> cases all2 eqVar a.gParams b.gParams <;> cases all2 eqVar a.gLocals b.gLocals <;> cases eqSs false a.gBody b.gBody <;> rfl
end Go.Proofs.YtnfkijcmakgkmaaGreat.Ab
namespace Go.Proofs.YtnfkijcmakgkmaaGreat.Ab
open Go
set_option linter.all false
def one1 (b : ByteArray) : List ByteArray := if b = ByteArray.mk #[] then [] else [b]
theorem one1_len (b : ByteArray) : (one1 b).length ≤ 1 := by unfold one1; split <;> simp
def fm {β : Type} (f : β → List ByteArray) (l : List β) : List ByteArray := l.flatMap f
theorem KdB {β : Type} {f : β → List ByteArray} (h : ∀ x, (f x).length ≤ 1) : ∀ l : List β, (fm f l).length ≤ l.length
  | [] => by simp [fm]
  | x :: l => by
    have h1 := h x
    have h2 := KdB h l
    simp only [fm, List.flatMap_cons, List.length_append, List.length_cons] at h2 ⊢
    omega
theorem fm_snoc {β : Type} (f : β → List ByteArray) (l : List β) (x : β) : fm f (l ++ [x]) = fm f l ++ f x := by simp [fm]
def nmS (c : Bool) (s : Kg) : List ByteArray := one1 (bif c then s.gFunc else s.gName)
def nmX (c : Bool) (e : Kn) : List ByteArray := bif c then [] else one1 e.gName
theorem Kfx (c : Bool) (s : Kg) : (nmS c s).length ≤ 1 := one1_len _
theorem KdQ (c : Bool) (e : Kn) : (nmX c e).length ≤ 1 := by
 unfold nmX; cases c
 ·exact one1_len _
 ·simp
def Kb2 (c : Bool) (l : List Kg) : List ByteArray := fm (nmS c) (flSs l) ++ fm (nmX c) (exOf (flSs l))
theorem fm_pre {β : Type} {f : β → List ByteArray} (h : ∀ x, (f x).length ≤ 1) {l p : List β} {x : β} {q : List β} (e : l = p ++ x :: q) : (fm f p).length + 1 ≤ l.length := by
 have := KdB h p
 subst e; simp; omega
theorem add_eq {m : Kq} {b : ByteArray} (h : m.gL.length ≤ 1048576) : Kbp m b = some ⟨m.gL ++ [b]⟩ := by
 unfold Kbp
 rw [Kaw (by omega) (by simp; omega)]; rfl
theorem KiG {m : Kq} {b : ByteArray} (h : m.gL.length ≤ 1048576) : Kb0 b m = some ⟨m.gL ++ one1 b⟩ := by
 unfold Kb0 one1
 by_cases h1 : b = ByteArray.mk #[]
 ·rw [decide_eq_true h1, if_pos h1, List.append_nil]; rfl
 ·rw [decide_eq_false h1, if_neg h1, Bool.not_false, cond_true, add_eq h]; rfl
theorem names2_eq {m : Kq} {s : Kg} (h : m.gL.length ≤ 1048576) : Kco s m = some ⟨m.gL ++ nmS false s⟩ := by
 unfold Kco; rw [KiG h]; rfl
theorem names3_eq {m : Kq} {s : Kn} (h : m.gL.length ≤ 1048576) : Kcp s m = some ⟨m.gL ++ nmX false s⟩ := by
 unfold Kcp; rw [KiG h]; rfl
theorem walkX_g : ∀ (n : Nat) (e : Kn) (m : Kq), dpE e ≤ n → szE e ≤ 1048576 → m.gL.length + szE e ≤ 1048576 → KaJ n e m = some ⟨m.gL ++ fm (nmX false) (allE e)⟩
  | 0, e, m, h, _, _ => by rw [Kfw] at h; omega
  | n + 1, e, m, h, hb, hm => by
    show Ka9 (KaJ n) e m = _
    unfold Ka9
    have hs := Kfv e
    have hl := Kdk e.gKids
    rw [names3_eq (by omega), Option.bind_some]
    have hn := KdQ false e
    refine Kax e.gKids (fun pre => m.gL ++ nmX false e ++ fm (nmX false) (allEs pre)) (fun a n => ((n : Nat), a)) (fun a => a) (by simp [allEs, fm]) (fun pre x post hp => ?_) ?_ ?_
    · have hk := kids_mem (KbY hp)
      have hsp := KfV hp
      have hln := KdB (KdQ false) (allEs pre)
      rw [Kcg] at hln
      simp only [Kau hp, cond_true]
      rw [Kam hp (by omega)]
      rw [Kae hp rfl, Option.bind_some, walkX_g n x _ (by omega) (by omega) (by simp; omega), Option.bind_some]
      rw [KcW]
      simp only [allEs, List.append_nil, List.append_assoc, fm, List.flatMap_append]
    · simp only [Kav, cond_false]
    · rw [allE_eq]; simp [fm]
theorem walkX_eq {e : Kn} {m : Kq} (hb : szE e ≤ 1048576) (hm : m.gL.length + szE e ≤ 1048576) : Kdg e m = some ⟨m.gL ++ fm (nmX false) (allE e)⟩ := Khy e m (dpE e) (walkX_g _ e m (Nat.le_refl _) hb hm)
def colS (c : Bool) (s : Kg) : List ByteArray := nmS c s ++ fm (nmX c) (allEs s.gExps)
theorem colS_len (c : Bool) (l : List Kg) : (fm (colS c) l).length ≤ l.length + (exOf l).length := by
  induction l with
  | nil => simp [fm]
  | cons s l ih =>
    have h1 := Kfx c s
    have h2 := KdB (KdQ c) (allEs s.gExps)
    simp only [fm, exOf, List.flatMap_cons, List.length_append, List.length_cons, colS] at ih h2 ⊢
    omega
theorem colS_fl (c : Bool) (l : List Kg) : (fm (colS c) (flSs l)).length ≤ szSs l := by
 have := colS_len c (flSs l)
 have h := KcH l
 omega
theorem fm_app {β : Type} (f : β → List ByteArray) (l m : List β) : fm f (l ++ m) = fm f l ++ fm f m := by simp [fm]
theorem fm_one (c : Bool) (x : Kg) : fm (colS c) (flS x) = nmS c x ++ (fm (nmX c) (allEs x.gExps) ++ (fm (colS c) (flSs x.gKids) ++ fm (colS c) (flSs x.gElse))) := by
 rw [flS_eq]; simp [fm, colS]
theorem walkN_g : ∀ (n : Nat) (l : List Kg) (m : Kq), hSs l ≤ n → szSs l ≤ 1048576 → m.gL.length + szSs l ≤ 1048576 → KaU n l m = some ⟨m.gL ++ fm (colS false) (flSs l)⟩
  | 0, l, m, h, _, _ => by have := KdP l; omega
  | n + 1, l, m, h, hb, hm => by
    show KbA (KaU n) l m = _
    unfold KbA
    have hl := KeW l
    refine Kax l (fun pre => m.gL ++ fm (colS false) (flSs pre)) (fun a n => ((n : Nat), a)) (fun a => a) (by simp [flSs, fm]) (fun pre x post hp => ?_) ?_ ?_
    · have hx := KbY hp
      have hk := fuel h hx
      have hsp := szSs_pre hp
      have hsx := szS_eq x
      have hel := Kdk x.gExps
      have l1 := colS_fl false pre
      have l2 := colS_fl false x.gKids
      have l3 := KdB (KdQ false) (allEs x.gExps)
      have l5 := Kfx false x
      rw [Kcg] at l3
      simp only [Kau hp, cond_true]
      rw [Kam hp (by omega)]
      rw [Kae hp rfl, Option.bind_some, names2_eq (by simp; omega), Option.bind_some]
      refine Kax x.gExps (fun q => m.gL ++ fm (colS false) (flSs pre) ++ nmS false x ++ fm (nmX false) (allEs q)) (fun a n => ((n : Nat), a)) (fun a => a) (by simp [allEs, fm]) (fun q y post2 hq => ?_) ?_ ?_
      · have hy := KfV hq
        have l4 := KdB (KdQ false) (allEs q)
        rw [Kcg] at l4
        simp only [Kau hq, cond_true]
        rw [Kam hq (by omega)]
        rw [Kae hq rfl, Option.bind_some, walkX_eq (by omega) (by simp; omega), Option.bind_some]
        rw [KcW, fm_app]
        simp only [allEs, List.append_nil, List.append_assoc]
      · simp only [Kav, cond_false]
      · rw [walkN_g n _ _ hk.1 (by omega) (by simp; omega), Option.bind_some, walkN_g n _ _ hk.2 (by omega) (by simp; omega), Option.bind_some]
        rw [Kff, fm_app]
        simp only [flSs, List.append_nil, fm_one, List.append_assoc]
    · simp only [Kav, cond_false]
    · rfl
theorem walkN_eq {l : List Kg} {m : Kq} (hb : szSs l ≤ 1048576) (hm : m.gL.length + szSs l ≤ 1048576) : KdU l m = some ⟨m.gL ++ fm (colS false) (flSs l)⟩ := Kh9 l m (hSs l) (walkN_g _ l m (Nat.le_refl _) hb hm)
theorem col_mem (c : Bool) (l : List Kg) (x : ByteArray) : x ∈ fm (colS c) l ↔ x ∈ fm (nmS c) l ++ fm (nmX c) (exOf l) := by
 simp only [fm, colS, exOf, List.mem_append, List.mem_flatMap]
 constructor
 ·rintro ⟨s, hs, h | ⟨e, he, h⟩⟩
  ·exact .inl ⟨s, hs, h⟩
  ·exact .inr ⟨e, ⟨s, hs, he⟩, h⟩
 ·rintro (⟨s, hs, h⟩ | ⟨e, ⟨s, hs, he⟩, h⟩)
  ·exact ⟨s, hs, .inl h⟩
  ·exact ⟨s, hs, .inr ⟨e, he, h⟩⟩
theorem KiH (l : List ByteArray) : (sortB l).length = l.length := by
 unfold sortB; rw [List.length_map, List.length_mergeSort, List.length_map]
theorem col_all {c : Bool} {l : List Kg} (hb : szSs l ≤ 1048576) : Kbq ⟨fm (colS c) (flSs l)⟩ = some (insA ltB (Kb2 c l), ⟨[]⟩) := by
 have h1 := colS_fl c l
 unfold Kbq
 rw [Kcs (by simp [Kcz]; omega), Kcs (by simp [Kcz, KiH]; omega)]
 have h2 := Kbl (Kb2 c l)
 rw [Kg2 h2.1 fun x => (h2.2.1 x).trans (col_mem c (flSs l) x).symm]
theorem names_eq {l : List Kg} (hb : szSs l ≤ 1048576) : KcS l = some (insA ltB (Kb2 false l)) := by
 unfold KcS
 rw [walkN_eq hb (by simpa using hb), Option.bind_some]
 simp only [List.nil_append]
 rw [col_all hb]; rfl
theorem Kha (c : Bool) (l : List Kg) : (Kb2 c l).length ≤ szSs l := by
 have h1 := KdB (Kfx c) (flSs l)
 have h2 := KdB (KdQ c) (exOf (flSs l))
 have h3 := KcH l
 unfold Kb2
 rw [List.length_append]; omega
theorem put_eq {l : List ByteArray} {w : ByteArray} (hb : l.length ≤ 4000000) : KdN l w = some (insT ltB w l) := by
 unfold KdN
 refine Kax l (fun pre => pre.foldl (insS ltB w) ([], false)) (fun a n => (a.1, a.2, (n : Int))) (fun a => a) (by simp) (fun pre x post hp => ?_) ?_ ?_
 ·have hlp := congrArg List.length hp
  simp only [List.length_append, List.length_cons] at hlp
  have hz := KeI ltB w pre ([], false)
  rw [List.foldl_append, List.foldl_cons, List.foldl_nil]
  generalize pre.foldl (insS ltB w) ([], false) = s at hz ⊢
  obtain ⟨acc, put⟩ := s
  simp only [List.length_nil] at hz
  simp only [Kau hp, cond_true, Kae hp rfl, Option.bind_some]
  rw [Kam hp (by omega)]
  have hq : (w.toList == x.toList) = decide (w = x) := by
   rw [ByteArray.toList_eq, ByteArray.toList_eq, Bool.eq_iff_iff, beq_iff_eq, decide_eq_true_iff]
   exact ⟨fun h => Kdj h, fun h => by rw [h]⟩
  rw [hq]
  cases put
  ·simp only [Bool.not_false, cond_true]
   cases h1 : ltB w x
   ·by_cases h2 : w = x
    ·subst h2
     simp only [decide_true, Bool.or_true, cond_true, cond_false, Option.bind_some]
     rw [Kaw (by omega) (by simp; omega), Option.bind_some]
     simp [insS, KdK]
    ·simp only [decide_eq_false h2, Bool.or_false, cond_false, Option.bind_some]
     rw [Kaw (by omega) (by simp; omega), Option.bind_some]
     simp [insS, h1, h2]
   ·simp only [Bool.true_or, cond_true]
    rw [Kaw (by omega) (by simp; omega), Option.bind_some, Option.bind_some, Option.bind_some]
    simp only []
    rw [Kaw (by omega) (by simp; omega), Option.bind_some]
    simp [insS, h1]
  ·simp only [Bool.not_true, cond_false]
   rw [Kaw (by omega) (by simp; omega), Option.bind_some]
   simp [insS]
 ·simp only [Kav, cond_false]
 ·have hz := KeI ltB w l ([], false)
  have h := insS_no ltB KdK w l []
  generalize l.foldl (insS ltB w) ([], false) = s at hz h ⊢
  obtain ⟨acc, put⟩ := s
  simp only [List.length_nil] at hz
  cases put
  ·simp only [Bool.not_false, cond_true]
   rw [Kaw (by omega) (by simp; omega), Option.bind_some]
   simpa using h
  ·simp only [Bool.not_true, cond_false]
   simpa using h
end Go.Proofs.YtnfkijcmakgkmaaGreat.Ab
