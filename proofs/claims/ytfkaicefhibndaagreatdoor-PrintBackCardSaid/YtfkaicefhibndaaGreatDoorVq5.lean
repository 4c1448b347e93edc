/- The texts that printBackCard_holds leans on, part 5. -/
import Derived.Test.YtfkaicefhibndaaGreatDoorVq4
set_option maxRecDepth 100000
set_option maxHeartbeats 80000000
noncomputable section
namespace Go.Proofs.YtfkaicefhibndaaGreatDoor.Ab
section
open Go
set_option linter.all false
set_option maxRecDepth 100000
def Kd7 (a0:List K3)(a1:List K3):Option (Bool):=
 (bif ((a0.length:Int) != (a1.length:Int)) then some false else (Option.bind (α:=(Unit)⊕(Bool)) (loopM (fun (s21:Int)=>(bif (decide (s21 < (a0.length:Int))) then ((idx a0 s21).bind fun x33=>((idx a1 s21).bind fun x34=>(bif (!(decide (x33.gName=x34.gName) && (x33.gPtr==x34.gPtr && true))) then some (.done (.inr false)) else some (.next (IntKind.i64.wrap (s21+(1:Int))))))) else some (.done (.inl ())))) (0:Int)) (Sum.elim (fun y20=>some true) (fun r=>some r))))
theorem KgW (a0:List K3)(a1:List K3)(r:Bool)(h0:Kd7 a0 a1=some r):CallsD Tryz.prog 20 [.lst 2 (a0.map KA) .no,.lst 2 (a1.map KA) .no] [] [] (fun d h k=>d=.v (.bool r)∧h=[]∧k=[]):=by
 have hm:=KD h0;unfold Kd7 at hm;clear h0;refine KT htab Tryz.func20 rfl rfl rfl rfl rfl (fun C=>?_);refine Kg ?_;refine pu ?_;refine Ke ?_;refine Ku ?_;refine Kg ?_;refine pu ?_;refine Ka1 htab rfl rfl rfl rfl rfl rfl rfl (by first|exact Kao|rfl) ?_;refine pu ?_;refine Ka1 htab rfl rfl rfl rfl rfl rfl rfl (by first|exact Kao|rfl) ?_;refine pu ?_;refine Ke ?_;refine cY hm (fun hm=>?_) fun hm=>?_
 ·refine Kg ?_;refine pu ?_;refine Ke ?_;refine Kt ?_;refine Kx ?_;have er3:=Kl hm;subst er3;refine rP (t':=[(4,.v (.bool false))]) [] [] 0 (wC wN) (lT lN) ?_;exact ⟨rfl,rfl,rfl⟩
 refine Kz ?_;refine Kk ?_;refine Ku ?_;refine Kg ?_;refine pu ?_;refine Ke ?_;obtain ⟨x20,q20,ho20⟩:=Kb hm;refine KcL (τ:=Unit) (Y:=Unit) (fun y20 z20=>(⟨[],[],[]⟩:S)) x20 ?_ ?_
 ·clear hm;have hm:=KD q20;refine KN ?_;obtain ⟨u21,hl21,hq21⟩:=yes_m hm;refine Kbz (Y:=Unit) hl21 (fun s21 z21=>(⟨[(0,.lst 2 (a0.map KA) .no),(1,.lst 2 (a1.map KA) .no),(5,.v (.int .i64 s21))],[],[]⟩:S)) ?_ ?_
  ·skip
   exact wO (wP (wC (wC (wC wN))))
  intro G21 s21 z21 hm;refine Ku ?_;refine Kg ?_;refine pu ?_;refine pu ?_;refine Ka1 htab rfl rfl rfl rfl rfl rfl rfl (by first|exact Kao|rfl) ?_;refine pu ?_;refine Ke ?_;refine cY hm (fun hm=>?_) fun hm=>?_
  ·refine Kz ?_;refine Kk ?_;refine Ku ?_;refine KN ?_;refine Ku ?_;obtain ⟨x33,q33,hm⟩:=Kb hm;obtain ⟨x34,q34,hm⟩:=Kb hm;refine Kad 8 [] [[],[],[0],[0,2],[],[],[4],[4,6]] [0,2,3,4,6,7] [[],[],[0,1],[0,1,2],[],[],[4,5],[4,5,6],[0,1,2,3,4,5,6,7]] (by kernel_rfl) (by kernel_rfl) (by kernel_rfl) (by rfl) (by rfl) (by kernel_rfl) ?_;iterate 6 apply Exists.intro
   intro bs;refine zep ?_;refine zqp ?_;refine z_e rfl rfl (KG htab rfl rfl rfl rfl rfl rfl rfl (Ks q33) (Ky q33)) rfl rfl rfl rfl rfl rfl ?_;refine z_eM rfl rfl (Kw (d:=KA x33) htab rfl rfl rfl rfl rfl) rfl rfl rfl rfl rfl rfl ?_;refine zep ?_;refine zqp ?_;refine z_e rfl rfl (KG htab rfl rfl rfl rfl rfl rfl rfl (Ks q34) (Ky q34)) rfl rfl rfl rfl rfl rfl ?_;refine z_eM rfl rfl (Kw (d:=KA x34) htab rfl rfl rfl rfl rfl) rfl rfl rfl rfl rfl rfl ?_;refine z_nil rfl rfl (fun e he=>by simp [isAl] at he) ?_;refine p_eqS htab rfl rfl rfl rfl rfl eqt57 rfl rfl rfl rfl rfl ?_;refine Ke ?_;refine cY hm (fun hm=>?_) fun hm=>?_
   ·refine Kg ?_;refine pu ?_;refine Ke ?_;refine Kt ?_;refine KH ?_;refine Kx ?_;have e21:=KaA hm;subst e21;clear hm;have hm:=hq21
    refine Kx ?_;refine KH ?_;have e20:=Kl hm;subst e20;refine Kcl ?_;clear hm;have hm:=ho20;simp only [Sum.elim_inr] at hm
    refine Kx ?_;have er36:=Kl hm;subst er36;refine rP (t':=[(4,.v (.bool false))]) [] [] 0 (wC wN) (lT lN) ?_;exact ⟨rfl,rfl,rfl⟩
   refine Kz ?_;refine KK ?_;refine Kk ?_;refine KE ?_;iterate 3 refine pu ?_
   refine KB ?_;refine Kk ⟨_,Kba hm,?_⟩;exact wO (wP (wC (wC (wC wN))))
  refine KaM ?_;refine KQ ?_;have e21:=KaA hm;subst e21;clear hm;have hm:=hq21
  refine KQ ?_;refine Kay ?_;have e20:=Kl hm;subst e20;refine Kck ?_;exact wO (wP wN)
 intro y20 s20 hx20 hw20;subst hx20;clear hm;have hm:=ho20;simp only [Sum.elim_inl] at hm;clear q20 ho20;refine Kk ?_;refine K5 hw20 (fun z20=>?_);refine Kg ?_;refine pu ?_;refine Ke ?_;refine Kt ?_;have er37:=Kl hm;subst er37;refine rP (t':=[(4,.v (.bool true))]) [] [] 0 (wC wN) (lT lN) ?_;exact ⟨rfl,rfl,rfl⟩
abbrev nlPr3_1:List (List Nat):=nlD [] [(0,[]),(0,[]),(0,[0]),(3,[2]),(4,[3]),(0,[]),(0,[]),(0,[5]),(8,[7]),(9,[8]),(5,[5,7,8]),(11,[]),(11,[]),(11,[]),(11,[]),(11,[]),(11,[]),(11,[]),(11,[]),(11,[]),(11,[]),(11,[]),(11,[]),(11,[]),(11,[]),(11,[]),(11,[]),(11,[]),(11,[]),(11,[]),(11,[]),(11,[]),(11,[]),(11,[]),(11,[]),(11,[]),(11,[]),(11,[]),(11,[]),(11,[]),(11,[]),(11,[]),(11,[]),(11,[]),(11,[]),(11,[]),(11,[]),(11,[]),(11,[]),(11,[]),(11,[]),(11,[]),(11,[]),(11,[]),(11,[]),(11,[]),(11,[]),(11,[]),(11,[]),(11,[]),(11,[]),(11,[]),(11,[]),(11,[]),(11,[])]
abbrev KeH:List (List Nat):=nlD [] [(0,[]),(0,[]),(0,[0,1]),(3,[2]),(4,[3]),(0,[]),(0,[]),(0,[5,6]),(8,[7]),(9,[8]),(5,[4,5,6,7,8,9]),(11,[10]),(12,[11]),(13,[]),(13,[12,13]),(15,[14]),(16,[15]),(13,[]),(13,[]),(13,[17,18]),(20,[19]),(21,[20]),(17,[16,17,18,19,20,21]),(23,[22]),(24,[23]),(25,[24]),(26,[]),(26,[25,26]),(28,[27]),(29,[28]),(26,[]),(26,[]),(26,[30,31]),(33,[32]),(34,[33]),(30,[29,30,31,32,33,34]),(36,[35]),(37,[36]),(38,[37]),(39,[38]),(40,[39]),(41,[]),(41,[40,41]),(43,[42]),(44,[43]),(41,[]),(41,[]),(41,[45,46]),(48,[47]),(49,[48]),(45,[44,45,46,47,48,49]),(51,[50]),(52,[51]),(53,[52]),(54,[53]),(55,[]),(55,[54,55]),(57,[56]),(58,[57]),(55,[]),(55,[]),(55,[59,60]),(62,[61]),(63,[62]),(55,[]),(59,[58,59,60,61,62,63,64]),(66,[65]),(67,[66])]
abbrev nlPr3_3:List (List Nat):=nlD [] [(0,[]),(0,[]),(0,[0]),(3,[2]),(4,[3]),(0,[]),(0,[]),(0,[5]),(8,[7]),(9,[8]),(5,[5,7,8]),(11,[]),(11,[]),(11,[]),(11,[12]),(15,[14]),(16,[15]),(11,[]),(11,[]),(11,[17]),(20,[19]),(21,[20]),(17,[17,19,20]),(23,[]),(23,[]),(23,[]),(23,[]),(23,[]),(23,[]),(23,[]),(23,[]),(23,[]),(23,[]),(23,[]),(23,[]),(23,[]),(23,[]),(23,[]),(23,[]),(23,[]),(23,[]),(23,[]),(23,[]),(23,[]),(23,[]),(23,[]),(23,[]),(23,[]),(23,[]),(23,[]),(23,[]),(23,[]),(23,[]),(23,[]),(23,[]),(23,[]),(23,[]),(23,[]),(23,[]),(23,[]),(23,[]),(23,[]),(23,[]),(23,[]),(23,[])]
abbrev nlPr3_4:List (List Nat):=nlD [] [(0,[]),(0,[]),(0,[0]),(3,[2]),(4,[3]),(0,[]),(0,[]),(0,[5]),(8,[7]),(9,[8]),(5,[5,7,8]),(11,[]),(11,[]),(11,[]),(11,[12]),(15,[14]),(16,[15]),(11,[]),(11,[]),(11,[17]),(20,[19]),(21,[20]),(17,[17,19,20]),(23,[]),(23,[]),(23,[]),(23,[]),(23,[25]),(28,[27]),(29,[28]),(23,[]),(23,[]),(23,[30]),(33,[32]),(34,[33]),(30,[30,32,33]),(36,[]),(36,[]),(36,[]),(36,[]),(36,[]),(36,[]),(36,[]),(36,[]),(36,[]),(36,[]),(36,[]),(36,[]),(36,[]),(36,[]),(36,[]),(36,[]),(36,[]),(36,[]),(36,[]),(36,[]),(36,[]),(36,[]),(36,[]),(36,[]),(36,[]),(36,[]),(36,[]),(36,[]),(36,[])]
abbrev nlPr3_5:List (List Nat):=nlD [] [(0,[]),(0,[]),(0,[0]),(3,[2]),(4,[3]),(0,[]),(0,[]),(0,[5]),(8,[7]),(9,[8]),(5,[5,7,8]),(11,[]),(11,[]),(11,[]),(11,[12]),(15,[14]),(16,[15]),(11,[]),(11,[]),(11,[17]),(20,[19]),(21,[20]),(17,[17,19,20]),(23,[]),(23,[]),(23,[]),(23,[]),(23,[25]),(28,[27]),(29,[28]),(23,[]),(23,[]),(23,[30]),(33,[32]),(34,[33]),(30,[30,32,33]),(36,[]),(36,[]),(36,[]),(36,[]),(36,[]),(36,[]),(36,[40]),(43,[42]),(44,[43]),(36,[]),(36,[]),(36,[45]),(48,[47]),(49,[48]),(45,[45,47,48]),(51,[]),(51,[]),(51,[]),(51,[]),(51,[]),(51,[]),(51,[]),(51,[]),(51,[]),(51,[]),(51,[]),(51,[]),(51,[]),(51,[])]
abbrev nlPr3_6:List (List Nat):=nlD [] [(0,[]),(0,[]),(0,[0]),(3,[2]),(4,[3]),(0,[]),(0,[]),(0,[5]),(8,[7]),(9,[8]),(5,[5,7,8]),(11,[]),(11,[]),(11,[]),(11,[12]),(15,[14]),(16,[15]),(11,[]),(11,[]),(11,[17]),(20,[19]),(21,[20]),(17,[17,19,20]),(23,[]),(23,[]),(23,[]),(23,[]),(23,[25]),(28,[27]),(29,[28]),(23,[]),(23,[]),(23,[30]),(33,[32]),(34,[33]),(30,[30,32,33]),(36,[]),(36,[]),(36,[]),(36,[]),(36,[]),(36,[]),(36,[40]),(43,[42]),(44,[43]),(36,[]),(36,[]),(36,[45]),(48,[47]),(49,[48]),(45,[45,47,48]),(51,[]),(51,[]),(51,[]),(51,[]),(51,[]),(51,[54]),(57,[56]),(58,[57]),(51,[]),(51,[]),(51,[59]),(62,[61]),(63,[62]),(51,[])]
abbrev nlPr3_7:List (List Nat):=nlD [] [(0,[]),(0,[]),(0,[0]),(3,[2]),(4,[3]),(0,[]),(0,[]),(0,[5]),(8,[7]),(9,[8]),(5,[5,7,8]),(11,[]),(11,[]),(11,[]),(11,[12]),(15,[14]),(16,[15]),(11,[]),(11,[]),(11,[17]),(20,[19]),(21,[20]),(17,[17,19,20]),(23,[]),(23,[]),(23,[]),(23,[]),(23,[25]),(28,[27]),(29,[28]),(23,[]),(23,[]),(23,[30]),(33,[32]),(34,[33]),(30,[30,32,33]),(36,[]),(36,[]),(36,[]),(36,[]),(36,[]),(36,[]),(36,[]),(36,[]),(36,[]),(36,[]),(36,[]),(36,[]),(36,[]),(36,[]),(36,[]),(36,[]),(36,[]),(36,[]),(36,[]),(36,[]),(36,[54]),(57,[56]),(58,[57]),(36,[]),(36,[]),(36,[59]),(62,[61]),(63,[62]),(36,[])]
def KcK (g0:(List Kc)→(List Kc)→(Bool)→Option (Bool))(a0:List Kc)(a1:List Kc)(a2:Bool):Option (Bool):=
 (bif ((a0.length:Int) != (a1.length:Int)) then some false else (Option.bind (α:=(Unit)⊕(Bool)) (loopM (fun (s132:Int)=>(bif (decide (s132 < (a0.length:Int))) then (Option.bind (α:=Bool) ((idx a0 s132).bind fun x238=>((idx a1 s132).bind fun x239=>(bif (x238.gOp != x239.gOp) then some true else ((idx a0 s132).bind fun x241=>((idx a1 s132).bind fun x242=>(bif (x241.gN != x242.gN) then some true else ((idx a0 s132).bind fun x244=>((idx a1 s132).bind fun x245=>(bif (!decide (x244.gName=x245.gName)) then some true else (bif a2 then ((idx a0 s132).bind fun x248=>((idx a1 s132).bind fun x249=>(bif (x248.gAt != x249.gAt) then some true else ((idx a0 s132).bind fun x251=>((idx a1 s132).bind fun x252=>((g0 x251.gKids x252.gKids a2).bind fun x253=>some (!x253))))))) else ((idx a0 s132).bind fun x254=>((idx a1 s132).bind fun x255=>((g0 x254.gKids x255.gKids a2).bind fun x256=>some (!x256)))))))))))))) fun y237=>(bif y237 then some (.done (.inr false)) else some (.next (IntKind.i64.wrap (s132+(1:Int)))))) else some (.done (.inl ())))) (0:Int)) (Sum.elim (fun y131=>some true) (fun r=>some r))))
theorem Kih (g0:(List Kc)→(List Kc)→(Bool)→Option (Bool))(hg0:∀ (a0:List Kc) (a1:List Kc) (a2:Bool) (r:Bool) (h0:g0 a0 a1 a2=some r),CallsD Tryz.prog 30 [.lst 5 (a0.map Kh) .no,.lst 5 (a1.map Kh) .no,.v (.bool a2)] [] [] (fun d h k=>d=.v (.bool r)∧h=[]∧k=[]))(a0:List Kc)(a1:List Kc)(a2:Bool)(r:Bool)(h0:KcK g0 a0 a1 a2=some r):CallsD Tryz.prog 30 [.lst 5 (a0.map Kh) .no,.lst 5 (a1.map Kh) .no,.v (.bool a2)] [] [] (fun d h k=>d=.v (.bool r)∧h=[]∧k=[]):=by
 have hm:=KD h0;unfold KcK at hm;clear h0;refine KT htab Tryz.func30 rfl rfl rfl rfl rfl (fun C=>?_);refine Kg ?_;refine pu ?_;refine Ke ?_;refine Ku ?_;refine Kg ?_;refine pu ?_;refine Ka1 htab rfl rfl rfl rfl rfl rfl rfl (by first|exact Kao|rfl) ?_;refine pu ?_;refine Ka1 htab rfl rfl rfl rfl rfl rfl rfl (by first|exact Kao|rfl) ?_;refine pu ?_;refine Ke ?_;refine cY hm (fun hm=>?_) fun hm=>?_
 ·refine Kg ?_;refine pu ?_;refine Ke ?_;refine Kt ?_;refine Kx ?_;have er3:=Kl hm;subst er3;refine rP (t':=[(6,.v (.bool false))]) [] [] 0 (wC wN) (lT lN) ?_;exact ⟨rfl,rfl,rfl⟩
 refine Kz ?_;refine Kk ?_;refine Ku ?_;refine Kg ?_;refine pu ?_;refine Ke ?_;obtain ⟨x131,q131,ho131⟩:=Kb hm;refine KcL (τ:=Unit) (Y:=Unit) (fun y131 z131=>(⟨[],[],[]⟩:S)) x131 ?_ ?_
 ·clear hm;have hm:=KD q131;refine KN ?_;obtain ⟨u132,hl132,hq132⟩:=yes_m hm;refine Kbz (Y:=Unit) hl132 (fun s132 z132=>(⟨[(0,.lst 5 (a0.map Kh) .no),(1,.lst 5 (a1.map Kh) .no),(2,.v (.bool a2)),(7,.v (.int .i64 s132))],[],[]⟩:S)) ?_ ?_
  ·skip
   exact wO (wP (wC (wC (wC (wC wN)))))
  intro G132 s132 z132 hm;refine Ku ?_;refine Kg ?_;refine pu ?_;refine pu ?_;refine Ka1 htab rfl rfl rfl rfl rfl rfl rfl (by first|exact Kao|rfl) ?_;refine pu ?_;refine Ke ?_;refine cY hm (fun hm=>?_) fun hm=>?_
  ·refine Kz ?_;refine Kk ?_;refine Ku ?_;refine KN ?_;refine Ku ?_;obtain ⟨y237,q237,ho237⟩:=Kb hm;refine K7 (Y:=Unit) (fun z237=>(⟨[(0,.lst 5 (a0.map Kh) .no),(1,.lst 5 (a1.map Kh) .no),(2,.v (.bool a2)),(7,.v (.int .i64 s132)),(86,.v (.bool y237))],[],[]⟩:S)) ?_ ?_
   ·clear hm;have hm:=KD q237;obtain ⟨x238,q238,hm⟩:=Kb hm;obtain ⟨x239,q239,hm⟩:=Kb hm;refine bycB (x238.gOp != x239.gOp) (fun hs240=>?_) (fun hs240=>?_)
    ·replace hm:=yes_t hs240 hm;refine Kad 65 [] nlPr3_1 [0,2,3,5,7,8] KeH (by kernel_rfl) (by kernel_rfl) (by kernel_rfl) (by rfl) (by rfl) (by kernel_rfl) ?_;iterate 6 apply Exists.intro
     intro bs;refine zep ?_;refine zqp ?_;refine z_e rfl rfl (Ex.wk (KG htab rfl rfl rfl rfl rfl rfl rfl (Ks q238) (Ky q238)) (Wk.of_eq (congrArg D.el (Ko x238)))) rfl rfl rfl rfl rfl rfl ?_;refine zep ?_;refine z_qM rfl rfl (Kw htab rfl rfl rfl rfl rfl) rfl rfl rfl rfl rfl rfl ?_;refine zep ?_;refine zqp ?_;refine z_e rfl rfl (Ex.wk (KG htab rfl rfl rfl rfl rfl rfl rfl (Ks q239) (Ky q239)) (Wk.of_eq (congrArg D.el (Ko x239)))) rfl rfl rfl rfl rfl rfl ?_;refine zep ?_;refine z_qM rfl rfl (Kw htab rfl rfl rfl rfl rfl) rfl rfl rfl rfl rfl rfl ?_;refine zqp ?_;refine zqp ?_
     refine KV (j:=30) (b':=true) rfl hs240 ?_;iterate 11 refine zK ?_
     refine z_q rfl rfl (Ka2 rfl rfl rfl) rfl rfl rfl rfl rfl rfl ?_;refine zqp ?_;iterate 11 refine zK ?_
     refine z_q rfl rfl (Ka2 rfl rfl rfl) rfl rfl rfl rfl rfl rfl ?_;refine zqp ?_;iterate 14 refine zK ?_
     refine z_q rfl rfl (Ka2 rfl rfl rfl) rfl rfl rfl rfl rfl rfl ?_;refine zqp ?_;iterate 11 refine zK ?_
     refine z_nil rfl rfl (fun e he=>by simp [isAl] at he) ?_;refine pK ?_;refine pK ?_;refine KS rfl rfl rfl rfl rfl rfl ?_;refine KB ?_;have e237:=Kl hm;subst e237;refine ⟨rfl,?_⟩;exact wO (wP (wC (wC (wC (wC (wC wN))))))
    replace hm:=yes_f hs240 hm;obtain ⟨x241,q241,hm⟩:=Kb hm;obtain ⟨x242,q242,hm⟩:=Kb hm;refine bycB (x241.gN != x242.gN) (fun hs243=>?_) (fun hs243=>?_)
    ·replace hm:=yes_t hs243 hm;refine Kad 65 [] nlPr3_3 [0,2,3,5,7,8,12,14,15,17,19,20] KeH (by kernel_rfl) (by kernel_rfl) (by kernel_rfl) (by rfl) (by rfl) (by kernel_rfl) ?_;iterate 12 apply Exists.intro
     intro bs;refine zep ?_;refine zqp ?_;refine z_e rfl rfl (Ex.wk (KG htab rfl rfl rfl rfl rfl rfl rfl (Ks q238) (Ky q238)) (Wk.of_eq (congrArg D.el (Ko x238)))) rfl rfl rfl rfl rfl rfl ?_;refine zep ?_;refine z_qM rfl rfl (Kw htab rfl rfl rfl rfl rfl) rfl rfl rfl rfl rfl rfl ?_;refine zep ?_;refine zqp ?_;refine z_e rfl rfl (Ex.wk (KG htab rfl rfl rfl rfl rfl rfl rfl (Ks q239) (Ky q239)) (Wk.of_eq (congrArg D.el (Ko x239)))) rfl rfl rfl rfl rfl rfl ?_;refine zep ?_;refine z_qM rfl rfl (Kw htab rfl rfl rfl rfl rfl) rfl rfl rfl rfl rfl rfl ?_;refine zqp ?_;refine zqp ?_
     refine KV (j:=30) (b':=false) rfl hs240 ?_;refine zep ?_;refine zqp ?_;refine z_e rfl rfl (Ex.wk (KG htab rfl rfl rfl rfl rfl rfl rfl (Ks q241) (Ky q241)) (Wk.of_eq (congrArg D.el (Ko x241)))) rfl rfl rfl rfl rfl rfl ?_;refine zep ?_;refine z_qM rfl rfl (Kw htab rfl rfl rfl rfl rfl) rfl rfl rfl rfl rfl rfl ?_;refine zep ?_;refine zqp ?_;refine z_e rfl rfl (Ex.wk (KG htab rfl rfl rfl rfl rfl rfl rfl (Ks q242) (Ky q242)) (Wk.of_eq (congrArg D.el (Ko x242)))) rfl rfl rfl rfl rfl rfl ?_;refine zep ?_;refine z_qM rfl rfl (Kw htab rfl rfl rfl rfl rfl) rfl rfl rfl rfl rfl rfl ?_;refine zqp ?_
     refine z_q rfl rfl (Kaj rfl rfl rfl) rfl rfl rfl rfl rfl rfl ?_;refine zqp ?_;refine KV (j:=43) (b':=true) rfl hs243 ?_;iterate 11 refine zK ?_
     refine z_q rfl rfl (Ka2 rfl rfl rfl) rfl rfl rfl rfl rfl rfl ?_;refine zqp ?_;iterate 14 refine zK ?_
     refine z_q rfl rfl (Ka2 rfl rfl rfl) rfl rfl rfl rfl rfl rfl ?_;refine zqp ?_;iterate 11 refine zK ?_
     refine z_nil rfl rfl (fun e he=>by simp [isAl] at he) ?_;refine pK ?_;refine pK ?_;refine KS rfl rfl rfl rfl rfl rfl ?_;refine KB ?_;have e237:=Kl hm;subst e237;refine ⟨rfl,?_⟩;exact wO (wP (wC (wC (wC (wC (wC wN))))))
    replace hm:=yes_f hs243 hm;obtain ⟨x244,q244,hm⟩:=Kb hm;obtain ⟨x245,q245,hm⟩:=Kb hm;refine bycB (!decide (x244.gName=x245.gName)) (fun hs246=>?_) (fun hs246=>?_)
    ·replace hm:=yes_t hs246 hm;refine Kad 65 [] nlPr3_4 [0,2,3,5,7,8,12,14,15,17,19,20,25,27,28,30,32,33] KeH (by kernel_rfl) (by kernel_rfl) (by kernel_rfl) (by rfl) (by rfl) (by kernel_rfl) ?_;iterate 18 apply Exists.intro
     intro bs;refine zep ?_;refine zqp ?_;refine z_e rfl rfl (Ex.wk (KG htab rfl rfl rfl rfl rfl rfl rfl (Ks q238) (Ky q238)) (Wk.of_eq (congrArg D.el (Ko x238)))) rfl rfl rfl rfl rfl rfl ?_;refine zep ?_;refine z_qM rfl rfl (Kw htab rfl rfl rfl rfl rfl) rfl rfl rfl rfl rfl rfl ?_;refine zep ?_;refine zqp ?_;refine z_e rfl rfl (Ex.wk (KG htab rfl rfl rfl rfl rfl rfl rfl (Ks q239) (Ky q239)) (Wk.of_eq (congrArg D.el (Ko x239)))) rfl rfl rfl rfl rfl rfl ?_;refine zep ?_;refine z_qM rfl rfl (Kw htab rfl rfl rfl rfl rfl) rfl rfl rfl rfl rfl rfl ?_;refine zqp ?_;refine zqp ?_
     refine KV (j:=30) (b':=false) rfl hs240 ?_;refine zep ?_;refine zqp ?_;refine z_e rfl rfl (Ex.wk (KG htab rfl rfl rfl rfl rfl rfl rfl (Ks q241) (Ky q241)) (Wk.of_eq (congrArg D.el (Ko x241)))) rfl rfl rfl rfl rfl rfl ?_;refine zep ?_;refine z_qM rfl rfl (Kw htab rfl rfl rfl rfl rfl) rfl rfl rfl rfl rfl rfl ?_;refine zep ?_;refine zqp ?_;refine z_e rfl rfl (Ex.wk (KG htab rfl rfl rfl rfl rfl rfl rfl (Ks q242) (Ky q242)) (Wk.of_eq (congrArg D.el (Ko x242)))) rfl rfl rfl rfl rfl rfl ?_;refine zep ?_;refine z_qM rfl rfl (Kw htab rfl rfl rfl rfl rfl) rfl rfl rfl rfl rfl rfl ?_;refine zqp ?_
     refine z_q rfl rfl (Kaj rfl rfl rfl) rfl rfl rfl rfl rfl rfl ?_;refine zqp ?_;refine KV (j:=43) (b':=false) rfl hs243 ?_;refine zep ?_;refine zqp ?_;refine z_e rfl rfl (Ex.wk (KG htab rfl rfl rfl rfl rfl rfl rfl (Ks q244) (Ky q244)) (Wk.of_eq (congrArg D.el (Ko x244)))) rfl rfl rfl rfl rfl rfl ?_;refine zep ?_;refine z_qM rfl rfl (Kw htab rfl rfl rfl rfl rfl) rfl rfl rfl rfl rfl rfl ?_;refine zep ?_;refine zqp ?_;refine z_e rfl rfl (Ex.wk (KG htab rfl rfl rfl rfl rfl rfl rfl (Ks q245) (Ky q245)) (Wk.of_eq (congrArg D.el (Ko x245)))) rfl rfl rfl rfl rfl rfl ?_;refine zep ?_
     refine z_qM rfl rfl (Kw htab rfl rfl rfl rfl rfl) rfl rfl rfl rfl rfl rfl ?_;refine zqp ?_;refine z_q rfl rfl (Kaj rfl rfl rfl) rfl rfl rfl rfl rfl rfl ?_;refine zqp ?_;refine KV (j:=56) (b':=true) rfl hs246 ?_;iterate 14 refine zK ?_
     refine z_q rfl rfl (Ka2 rfl rfl rfl) rfl rfl rfl rfl rfl rfl ?_;refine zqp ?_;iterate 11 refine zK ?_
     refine z_nil rfl rfl (fun e he=>by simp [isAl] at he) ?_;refine pK ?_;refine pK ?_;refine KS rfl rfl rfl rfl rfl rfl ?_;refine KB ?_;have e237:=Kl hm;subst e237;refine ⟨rfl,?_⟩;exact wO (wP (wC (wC (wC (wC (wC wN))))))
    replace hm:=yes_f hs246 hm;refine bycB a2 (fun hs247=>?_) (fun hs247=>?_)
    ·replace hm:=yes_t hs247 hm;obtain ⟨x248,q248,hm⟩:=Kb hm;obtain ⟨x249,q249,hm⟩:=Kb hm;refine bycB (x248.gAt != x249.gAt) (fun hs250=>?_) (fun hs250=>?_)
     ·replace hm:=yes_t hs250 hm;refine Kad 65 [] nlPr3_5 [0,2,3,5,7,8,12,14,15,17,19,20,25,27,28,30,32,33,40,42,43,45,47,48] KeH (by kernel_rfl) (by kernel_rfl) (by kernel_rfl) (by rfl) (by rfl) (by kernel_rfl) ?_;iterate 24 apply Exists.intro
      intro bs;refine zep ?_;refine zqp ?_;refine z_e rfl rfl (Ex.wk (KG htab rfl rfl rfl rfl rfl rfl rfl (Ks q238) (Ky q238)) (Wk.of_eq (congrArg D.el (Ko x238)))) rfl rfl rfl rfl rfl rfl ?_;refine zep ?_;refine z_qM rfl rfl (Kw htab rfl rfl rfl rfl rfl) rfl rfl rfl rfl rfl rfl ?_;refine zep ?_;refine zqp ?_;refine z_e rfl rfl (Ex.wk (KG htab rfl rfl rfl rfl rfl rfl rfl (Ks q239) (Ky q239)) (Wk.of_eq (congrArg D.el (Ko x239)))) rfl rfl rfl rfl rfl rfl ?_;refine zep ?_;refine z_qM rfl rfl (Kw htab rfl rfl rfl rfl rfl) rfl rfl rfl rfl rfl rfl ?_;refine zqp ?_;refine zqp ?_
      refine KV (j:=30) (b':=false) rfl hs240 ?_;refine zep ?_;refine zqp ?_;refine z_e rfl rfl (Ex.wk (KG htab rfl rfl rfl rfl rfl rfl rfl (Ks q241) (Ky q241)) (Wk.of_eq (congrArg D.el (Ko x241)))) rfl rfl rfl rfl rfl rfl ?_;refine zep ?_;refine z_qM rfl rfl (Kw htab rfl rfl rfl rfl rfl) rfl rfl rfl rfl rfl rfl ?_;refine zep ?_;refine zqp ?_;refine z_e rfl rfl (Ex.wk (KG htab rfl rfl rfl rfl rfl rfl rfl (Ks q242) (Ky q242)) (Wk.of_eq (congrArg D.el (Ko x242)))) rfl rfl rfl rfl rfl rfl ?_;refine zep ?_;refine z_qM rfl rfl (Kw htab rfl rfl rfl rfl rfl) rfl rfl rfl rfl rfl rfl ?_;refine zqp ?_
      refine z_q rfl rfl (Kaj rfl rfl rfl) rfl rfl rfl rfl rfl rfl ?_;refine zqp ?_;refine KV (j:=43) (b':=false) rfl hs243 ?_;refine zep ?_;refine zqp ?_;refine z_e rfl rfl (Ex.wk (KG htab rfl rfl rfl rfl rfl rfl rfl (Ks q244) (Ky q244)) (Wk.of_eq (congrArg D.el (Ko x244)))) rfl rfl rfl rfl rfl rfl ?_;refine zep ?_;refine z_qM rfl rfl (Kw htab rfl rfl rfl rfl rfl) rfl rfl rfl rfl rfl rfl ?_;refine zep ?_;refine zqp ?_;refine z_e rfl rfl (Ex.wk (KG htab rfl rfl rfl rfl rfl rfl rfl (Ks q245) (Ky q245)) (Wk.of_eq (congrArg D.el (Ko x245)))) rfl rfl rfl rfl rfl rfl ?_;refine zep ?_
      refine z_qM rfl rfl (Kw htab rfl rfl rfl rfl rfl) rfl rfl rfl rfl rfl rfl ?_;refine zqp ?_;refine z_q rfl rfl (Kaj rfl rfl rfl) rfl rfl rfl rfl rfl rfl ?_;refine zqp ?_;refine KV (j:=56) (b':=false) rfl hs246 ?_;refine zqp ?_;refine zqp ?_;refine KV (j:=58) (b':=true) rfl hs247 ?_;refine zep ?_;refine zqp ?_;refine z_e rfl rfl (Ex.wk (KG htab rfl rfl rfl rfl rfl rfl rfl (Ks q248) (Ky q248)) (Wk.of_eq (congrArg D.el (Ko x248)))) rfl rfl rfl rfl rfl rfl ?_;refine zep ?_;refine z_qM rfl rfl (Kw htab rfl rfl rfl rfl rfl) rfl rfl rfl rfl rfl rfl ?_;refine zep ?_;refine zqp ?_
      refine z_e rfl rfl (Ex.wk (KG htab rfl rfl rfl rfl rfl rfl rfl (Ks q249) (Ky q249)) (Wk.of_eq (congrArg D.el (Ko x249)))) rfl rfl rfl rfl rfl rfl ?_;refine zep ?_;refine z_qM rfl rfl (Kw htab rfl rfl rfl rfl rfl) rfl rfl rfl rfl rfl rfl ?_;refine zqp ?_;refine z_q rfl rfl (Ka2 rfl rfl rfl) rfl rfl rfl rfl rfl rfl ?_;refine z_q rfl rfl (Kaj rfl rfl rfl) rfl rfl rfl rfl rfl rfl ?_;refine zqp ?_;refine KV (j:=72) (b':=true) rfl hs250 ?_;iterate 11 refine zK ?_
      refine z_nil rfl rfl (fun e he=>by simp [isAl] at he) ?_;refine pK ?_;refine pK ?_;refine KS rfl rfl rfl rfl rfl rfl ?_;refine KB ?_;have e237:=Kl hm;subst e237;refine ⟨rfl,?_⟩;exact wO (wP (wC (wC (wC (wC (wC wN))))))
     replace hm:=yes_f hs250 hm;obtain ⟨x251,q251,hm⟩:=Kb hm;obtain ⟨x252,q252,hm⟩:=Kb hm;refine Kad 65 [] nlPr3_6 [0,2,3,5,7,8,12,14,15,17,19,20,25,27,28,30,32,33,40,42,43,45,47,48,54,56,57,58,59,61,62,63] KeH (by kernel_rfl) (by kernel_rfl) (by kernel_rfl) (by rfl) (by rfl) (by kernel_rfl) ?_;iterate 32 apply Exists.intro
     intro bs;refine zep ?_;refine zqp ?_;refine z_e rfl rfl (Ex.wk (KG htab rfl rfl rfl rfl rfl rfl rfl (Ks q238) (Ky q238)) (Wk.of_eq (congrArg D.el (Ko x238)))) rfl rfl rfl rfl rfl rfl ?_;refine zep ?_;refine z_qM rfl rfl (Kw htab rfl rfl rfl rfl rfl) rfl rfl rfl rfl rfl rfl ?_;refine zep ?_;refine zqp ?_;refine z_e rfl rfl (Ex.wk (KG htab rfl rfl rfl rfl rfl rfl rfl (Ks q239) (Ky q239)) (Wk.of_eq (congrArg D.el (Ko x239)))) rfl rfl rfl rfl rfl rfl ?_;refine zep ?_;refine z_qM rfl rfl (Kw htab rfl rfl rfl rfl rfl) rfl rfl rfl rfl rfl rfl ?_;refine zqp ?_;refine zqp ?_
     refine KV (j:=30) (b':=false) rfl hs240 ?_;refine zep ?_;refine zqp ?_;refine z_e rfl rfl (Ex.wk (KG htab rfl rfl rfl rfl rfl rfl rfl (Ks q241) (Ky q241)) (Wk.of_eq (congrArg D.el (Ko x241)))) rfl rfl rfl rfl rfl rfl ?_;refine zep ?_;refine z_qM rfl rfl (Kw htab rfl rfl rfl rfl rfl) rfl rfl rfl rfl rfl rfl ?_;refine zep ?_;refine zqp ?_;refine z_e rfl rfl (Ex.wk (KG htab rfl rfl rfl rfl rfl rfl rfl (Ks q242) (Ky q242)) (Wk.of_eq (congrArg D.el (Ko x242)))) rfl rfl rfl rfl rfl rfl ?_;refine zep ?_;refine z_qM rfl rfl (Kw htab rfl rfl rfl rfl rfl) rfl rfl rfl rfl rfl rfl ?_;refine zqp ?_
     refine z_q rfl rfl (Kaj rfl rfl rfl) rfl rfl rfl rfl rfl rfl ?_;refine zqp ?_;refine KV (j:=43) (b':=false) rfl hs243 ?_;refine zep ?_;refine zqp ?_;refine z_e rfl rfl (Ex.wk (KG htab rfl rfl rfl rfl rfl rfl rfl (Ks q244) (Ky q244)) (Wk.of_eq (congrArg D.el (Ko x244)))) rfl rfl rfl rfl rfl rfl ?_;refine zep ?_;refine z_qM rfl rfl (Kw htab rfl rfl rfl rfl rfl) rfl rfl rfl rfl rfl rfl ?_;refine zep ?_;refine zqp ?_;refine z_e rfl rfl (Ex.wk (KG htab rfl rfl rfl rfl rfl rfl rfl (Ks q245) (Ky q245)) (Wk.of_eq (congrArg D.el (Ko x245)))) rfl rfl rfl rfl rfl rfl ?_;refine zep ?_
     refine z_qM rfl rfl (Kw htab rfl rfl rfl rfl rfl) rfl rfl rfl rfl rfl rfl ?_;refine zqp ?_;refine z_q rfl rfl (Kaj rfl rfl rfl) rfl rfl rfl rfl rfl rfl ?_;refine zqp ?_;refine KV (j:=56) (b':=false) rfl hs246 ?_;refine zqp ?_;refine zqp ?_;refine KV (j:=58) (b':=true) rfl hs247 ?_;refine zep ?_;refine zqp ?_;refine z_e rfl rfl (Ex.wk (KG htab rfl rfl rfl rfl rfl rfl rfl (Ks q248) (Ky q248)) (Wk.of_eq (congrArg D.el (Ko x248)))) rfl rfl rfl rfl rfl rfl ?_;refine zep ?_;refine z_qM rfl rfl (Kw htab rfl rfl rfl rfl rfl) rfl rfl rfl rfl rfl rfl ?_;refine zep ?_;refine zqp ?_
     refine z_e rfl rfl (Ex.wk (KG htab rfl rfl rfl rfl rfl rfl rfl (Ks q249) (Ky q249)) (Wk.of_eq (congrArg D.el (Ko x249)))) rfl rfl rfl rfl rfl rfl ?_;refine zep ?_;refine z_qM rfl rfl (Kw htab rfl rfl rfl rfl rfl) rfl rfl rfl rfl rfl rfl ?_;refine zqp ?_;refine z_q rfl rfl (Ka2 rfl rfl rfl) rfl rfl rfl rfl rfl rfl ?_;refine z_q rfl rfl (Kaj rfl rfl rfl) rfl rfl rfl rfl rfl rfl ?_;refine zqp ?_;refine KV (j:=72) (b':=false) rfl hs250 ?_;refine zep ?_;refine zqp ?_
     refine z_e rfl rfl (Ex.wk (KG htab rfl rfl rfl rfl rfl rfl rfl (Ks q251) (Ky q251)) (Wk.of_eq (congrArg D.el (Ko x251)))) rfl rfl rfl rfl rfl rfl ?_;refine zep ?_;refine z_eM rfl rfl (Kw htab rfl rfl rfl rfl rfl) rfl rfl rfl rfl rfl rfl ?_;refine zep ?_;refine zqp ?_;refine z_e rfl rfl (Ex.wk (KG htab rfl rfl rfl rfl rfl rfl rfl (Ks q252) (Ky q252)) (Wk.of_eq (congrArg D.el (Ko x252)))) rfl rfl rfl rfl rfl rfl ?_;refine zep ?_;refine z_eM rfl rfl (Kw htab rfl rfl rfl rfl rfl) rfl rfl rfl rfl rfl rfl ?_;refine zqp ?_;refine z_nil rfl rfl (fun e he=>by simp [isAl] at he) ?_;obtain ⟨x253,q253,hm⟩:=Kb hm
     refine K2 (hg0 x251.gKids x252.gKids a2 x253 q253) rfl rfl rfl rfl rfl Wl ?_;rintro _ rfl;refine pu ?_;refine KW rfl rfl rfl rfl rfl rfl ?_;refine KB ?_;have e237:=Kl hm;subst e237;refine ⟨rfl,?_⟩;exact wO (wP (wC (wC (wC (wC (wC wN))))))
    replace hm:=yes_f hs247 hm;obtain ⟨x254,q254,hm⟩:=Kb hm;obtain ⟨x255,q255,hm⟩:=Kb hm;refine Kad 65 [] nlPr3_7 [0,2,3,5,7,8,12,14,15,17,19,20,25,27,28,30,32,33,54,56,57,58,59,61,62,63] KeH (by kernel_rfl) (by kernel_rfl) (by kernel_rfl) (by rfl) (by rfl) (by kernel_rfl) ?_;iterate 26 apply Exists.intro
    intro bs;refine zep ?_;refine zqp ?_;refine z_e rfl rfl (Ex.wk (KG htab rfl rfl rfl rfl rfl rfl rfl (Ks q238) (Ky q238)) (Wk.of_eq (congrArg D.el (Ko x238)))) rfl rfl rfl rfl rfl rfl ?_;refine zep ?_;refine z_qM rfl rfl (Kw htab rfl rfl rfl rfl rfl) rfl rfl rfl rfl rfl rfl ?_;refine zep ?_;refine zqp ?_;refine z_e rfl rfl (Ex.wk (KG htab rfl rfl rfl rfl rfl rfl rfl (Ks q239) (Ky q239)) (Wk.of_eq (congrArg D.el (Ko x239)))) rfl rfl rfl rfl rfl rfl ?_;refine zep ?_;refine z_qM rfl rfl (Kw htab rfl rfl rfl rfl rfl) rfl rfl rfl rfl rfl rfl ?_;refine zqp ?_;refine zqp ?_;refine KV (j:=30) (b':=false) rfl hs240 ?_
    refine zep ?_;refine zqp ?_;refine z_e rfl rfl (Ex.wk (KG htab rfl rfl rfl rfl rfl rfl rfl (Ks q241) (Ky q241)) (Wk.of_eq (congrArg D.el (Ko x241)))) rfl rfl rfl rfl rfl rfl ?_;refine zep ?_;refine z_qM rfl rfl (Kw htab rfl rfl rfl rfl rfl) rfl rfl rfl rfl rfl rfl ?_;refine zep ?_;refine zqp ?_;refine z_e rfl rfl (Ex.wk (KG htab rfl rfl rfl rfl rfl rfl rfl (Ks q242) (Ky q242)) (Wk.of_eq (congrArg D.el (Ko x242)))) rfl rfl rfl rfl rfl rfl ?_;refine zep ?_;refine z_qM rfl rfl (Kw htab rfl rfl rfl rfl rfl) rfl rfl rfl rfl rfl rfl ?_;refine zqp ?_;refine z_q rfl rfl (Kaj rfl rfl rfl) rfl rfl rfl rfl rfl rfl ?_
    refine zqp ?_;refine KV (j:=43) (b':=false) rfl hs243 ?_;refine zep ?_;refine zqp ?_;refine z_e rfl rfl (Ex.wk (KG htab rfl rfl rfl rfl rfl rfl rfl (Ks q244) (Ky q244)) (Wk.of_eq (congrArg D.el (Ko x244)))) rfl rfl rfl rfl rfl rfl ?_;refine zep ?_;refine z_qM rfl rfl (Kw htab rfl rfl rfl rfl rfl) rfl rfl rfl rfl rfl rfl ?_;refine zep ?_;refine zqp ?_;refine z_e rfl rfl (Ex.wk (KG htab rfl rfl rfl rfl rfl rfl rfl (Ks q245) (Ky q245)) (Wk.of_eq (congrArg D.el (Ko x245)))) rfl rfl rfl rfl rfl rfl ?_;refine zep ?_;refine z_qM rfl rfl (Kw htab rfl rfl rfl rfl rfl) rfl rfl rfl rfl rfl rfl ?_;refine zqp ?_
    refine z_q rfl rfl (Kaj rfl rfl rfl) rfl rfl rfl rfl rfl rfl ?_;refine zqp ?_;refine KV (j:=56) (b':=false) rfl hs246 ?_;refine zqp ?_;refine zqp ?_;refine KV (j:=58) (b':=false) rfl hs247 ?_;iterate 11 refine zK ?_
    refine z_q rfl rfl (Kaj rfl rfl rfl) rfl rfl rfl rfl rfl rfl ?_;refine z_q rfl rfl (Kaj rfl rfl rfl) rfl rfl rfl rfl rfl rfl ?_;refine zqp ?_;refine zep ?_;refine zqp ?_;refine z_e rfl rfl (Ex.wk (KG htab rfl rfl rfl rfl rfl rfl rfl (Ks q254) (Ky q254)) (Wk.of_eq (congrArg D.el (Ko x254)))) rfl rfl rfl rfl rfl rfl ?_;refine zep ?_;refine z_eM rfl rfl (Kw htab rfl rfl rfl rfl rfl) rfl rfl rfl rfl rfl rfl ?_;refine zep ?_;refine zqp ?_;refine z_e rfl rfl (Ex.wk (KG htab rfl rfl rfl rfl rfl rfl rfl (Ks q255) (Ky q255)) (Wk.of_eq (congrArg D.el (Ko x255)))) rfl rfl rfl rfl rfl rfl ?_;refine zep ?_
    refine z_eM rfl rfl (Kw htab rfl rfl rfl rfl rfl) rfl rfl rfl rfl rfl rfl ?_;refine zqp ?_;refine z_nil rfl rfl (fun e he=>by simp [isAl] at he) ?_;obtain ⟨x256,q256,hm⟩:=Kb hm;refine K2 (hg0 x254.gKids x255.gKids a2 x256 q256) rfl rfl rfl rfl rfl Wl ?_;rintro _ rfl;refine pu ?_;refine KW rfl rfl rfl rfl rfl rfl ?_;refine KB ?_;have e237:=Kl hm;subst e237;refine ⟨rfl,?_⟩;exact wO (wP (wC (wC (wC (wC (wC wN))))))
   intro s237 hw237;clear hm;have hm:=ho237;clear q237 ho237;refine Kk ?_;refine K5 hw237 (fun z237=>?_);refine cY hm (fun hm=>?_) fun hm=>?_
   ·refine Kg ?_;refine pu ?_;refine Ke ?_;refine Kt ?_;refine KH ?_;refine Kx ?_;have e132:=KaA hm;subst e132;clear hm;have hm:=hq132
    refine Kx ?_;refine KH ?_;have e131:=Kl hm;subst e131;refine Kcl ?_;clear hm;have hm:=ho131;simp only [Sum.elim_inr] at hm
    refine Kx ?_;have er258:=Kl hm;subst er258;refine rP (t':=[(6,.v (.bool false))]) [] [] 0 (wC wN) (lT lN) ?_;exact ⟨rfl,rfl,rfl⟩
   refine Kz ?_;refine KK ?_;refine Kk ?_;refine KE ?_;iterate 3 refine pu ?_
   refine KB ?_;refine Kk ⟨_,Kba hm,?_⟩;exact wO (wP (wC (wC (wC (wC wN)))))
  refine KaM ?_;refine KQ ?_;have e132:=KaA hm;subst e132;clear hm;have hm:=hq132
  refine KQ ?_;refine Kay ?_;have e131:=Kl hm;subst e131;refine Kck ?_;exact wO (wP wN)
 intro y131 s131 hx131 hw131;subst hx131;clear hm;have hm:=ho131;simp only [Sum.elim_inl] at hm;clear q131 ho131;refine Kk ?_;refine K5 hw131 (fun z131=>?_);refine Kg ?_;refine pu ?_;refine Ke ?_;refine Kt ?_;have er259:=Kl hm;subst er259;refine rP (t':=[(6,.v (.bool true))]) [] [] 0 (wC wN) (lT lN) ?_;exact ⟨rfl,rfl,rfl⟩
def KbN:Nat→((List Kc)→(List Kc)→(Bool)→Option (Bool))
 | 0=>(fun _ _ _=>none)
 | n+1=>(KcK ((KbN n)))
theorem Kgq:∀ n,(∀ (a0:List Kc) (a1:List Kc) (a2:Bool) (r:Bool) (h0:(KbN n) a0 a1 a2=some r),CallsD Tryz.prog 30 [.lst 5 (a0.map Kh) .no,.lst 5 (a1.map Kh) .no,.v (.bool a2)] [] [] (fun d h k=>d=.v (.bool r)∧h=[]∧k=[]))
 | 0=>fun _ _ _ _ h0=>by cases h0
 |
  n+1=>by
  have ih:=Kgq n;exact Kih (KbN n) ih
theorem Kgr:∀ n,(∀ (a0:List Kc) (a1:List Kc) (a2:Bool),Le ((KbN n) a0 a1 a2) ((KbN (n+1)) a0 a1 a2))
 | 0=>fun _ _ _=>Le.none _
 |
  n+1=>by
  have ih:=Kgr n;exact fun a0 a1 a2=>by show Le (KcK ((KbN n)) a0 a1 a2) (KcK ((KbN (n+1))) a0 a1 a2);revert ih;generalize KbN n=G0;generalize KbN (n+1)=G1;intro ih;unfold KcK;repeat (first|with_reducible exact Le.refl _|with_reducible exact ih _ _ _|with_reducible assumption|(refine Le.bind ?_ (fun _=>?_))|(refine Le.cond ?_ ?_)|(refine Le.loop (fun _=>?_))|(refine Le.elim (fun _=>?_) (fun _=>?_)))
def Kd8 (a0:List Kc)(a1:List Kc)(a2:Bool):Option (Bool):=anyN fun n=>(KbN n) a0 a1 a2
theorem Kir (a0:List Kc)(a1:List Kc)(a2:Bool){r:Bool}(n:Nat)(h:(KbN n) a0 a1 a2=some r):Kd8 a0 a1 a2=some r:=Kdh (fun m=>(Kgr m) a0 a1 a2) h
theorem KcN (a0:List Kc)(a1:List Kc)(a2:Bool)(r:Bool)(h0:Kd8 a0 a1 a2=some r):CallsD Tryz.prog 30 [.lst 5 (a0.map Kh) .no,.lst 5 (a1.map Kh) .no,.v (.bool a2)] [] [] (fun d h k=>d=.v (.bool r)∧h=[]∧k=[]):=
 let ⟨n,hn⟩:=Kcz h0;(Kgq n) a0 a1 a2 r hn
end
section
open Go
set_option linter.all false
set_option maxRecDepth 100000
abbrev nlPr3_8:List (List Nat):=nlD [] [(0,[]),(0,[]),(0,[0]),(3,[2]),(4,[3]),(0,[]),(0,[]),(0,[5]),(8,[7]),(9,[8]),(5,[5,7,8]),(11,[]),(11,[]),(11,[]),(11,[]),(11,[]),(11,[]),(11,[]),(11,[]),(11,[]),(11,[]),(11,[]),(11,[]),(11,[]),(11,[]),(11,[]),(11,[]),(11,[]),(11,[]),(11,[]),(11,[]),(11,[]),(11,[]),(11,[]),(11,[]),(11,[]),(11,[]),(11,[]),(11,[]),(11,[]),(11,[]),(11,[]),(11,[]),(11,[]),(11,[]),(11,[]),(11,[]),(11,[]),(11,[]),(11,[]),(11,[]),(11,[]),(11,[]),(11,[]),(11,[]),(11,[]),(11,[]),(11,[]),(11,[]),(11,[]),(11,[]),(11,[]),(11,[]),(11,[]),(11,[]),(11,[]),(11,[]),(11,[]),(11,[]),(11,[]),(11,[]),(11,[]),(11,[]),(11,[]),(11,[]),(11,[]),(11,[]),(11,[]),(11,[]),(11,[]),(11,[]),(11,[]),(11,[]),(11,[]),(11,[]),(11,[]),(11,[]),(11,[]),(11,[]),(11,[]),(11,[]),(11,[]),(11,[]),(11,[]),(11,[])]
abbrev Kc7:List (List Nat):=nlD [] [(0,[]),(0,[]),(0,[0,1]),(3,[2]),(4,[3]),(0,[]),(0,[]),(0,[5,6]),(8,[7]),(9,[8]),(5,[4,5,6,7,8,9]),(11,[10]),(12,[11]),(13,[]),(13,[12,13]),(15,[14]),(16,[15]),(13,[]),(13,[]),(13,[17,18]),(20,[19]),(21,[20]),(17,[16,17,18,19,20,21]),(23,[22]),(24,[23]),(25,[24]),(26,[]),(26,[25,26]),(28,[27]),(29,[28]),(26,[]),(26,[]),(26,[30,31]),(33,[32]),(34,[33]),(30,[29,30,31,32,33,34]),(36,[35]),(37,[36]),(38,[37]),(39,[38]),(40,[39]),(41,[]),(41,[40,41]),(43,[42]),(44,[43]),(41,[]),(41,[]),(41,[45,46]),(48,[47]),(49,[48]),(45,[44,45,46,47,48,49]),(51,[50]),(52,[51]),(53,[52]),(54,[53]),(55,[]),(55,[54,55]),(57,[56]),(58,[57]),(55,[]),(55,[]),(55,[59,60]),(62,[61]),(63,[62]),(55,[]),(59,[58,59,60,61,62,63,64]),(66,[65]),(67,[66]),(68,[67]),(69,[68]),(70,[]),(70,[69,70]),(72,[71]),(73,[72]),(70,[]),(70,[]),(70,[74,75]),(77,[76]),(78,[77]),(70,[]),(74,[73,74,75,76,77,78,79]),(81,[80]),(82,[81]),(83,[82]),(84,[83]),(85,[]),(85,[84,85]),(87,[86]),(88,[87]),(85,[]),(85,[]),(85,[89,90]),(92,[91]),(93,[92]),(85,[]),(89,[88,89,90,91,92,93,94]),(96,[95]),(97,[96])]
abbrev nlPr3_10:List (List Nat):=nlD [] [(0,[]),(0,[]),(0,[0]),(3,[2]),(4,[3]),(0,[]),(0,[]),(0,[5]),(8,[7]),(9,[8]),(5,[5,7,8]),(11,[]),(11,[]),(11,[]),(11,[12]),(15,[14]),(16,[15]),(11,[]),(11,[]),(11,[17]),(20,[19]),(21,[20]),(17,[17,19,20]),(23,[]),(23,[]),(23,[]),(23,[]),(23,[]),(23,[]),(23,[]),(23,[]),(23,[]),(23,[]),(23,[]),(23,[]),(23,[]),(23,[]),(23,[]),(23,[]),(23,[]),(23,[]),(23,[]),(23,[]),(23,[]),(23,[]),(23,[]),(23,[]),(23,[]),(23,[]),(23,[]),(23,[]),(23,[]),(23,[]),(23,[]),(23,[]),(23,[]),(23,[]),(23,[]),(23,[]),(23,[]),(23,[]),(23,[]),(23,[]),(23,[]),(23,[]),(23,[]),(23,[]),(23,[]),(23,[]),(23,[]),(23,[]),(23,[]),(23,[]),(23,[]),(23,[]),(23,[]),(23,[]),(23,[]),(23,[]),(23,[]),(23,[]),(23,[]),(23,[]),(23,[]),(23,[]),(23,[]),(23,[]),(23,[]),(23,[]),(23,[]),(23,[]),(23,[]),(23,[]),(23,[]),(23,[])]
abbrev nlPr3_11:List (List Nat):=nlD [] [(0,[]),(0,[]),(0,[0]),(3,[2]),(4,[3]),(0,[]),(0,[]),(0,[5]),(8,[7]),(9,[8]),(5,[5,7,8]),(11,[]),(11,[]),(11,[]),(11,[12]),(15,[14]),(16,[15]),(11,[]),(11,[]),(11,[17]),(20,[19]),(21,[20]),(17,[17,19,20]),(23,[]),(23,[]),(23,[]),(23,[]),(23,[25]),(28,[27]),(29,[28]),(23,[]),(23,[]),(23,[30]),(33,[32]),(34,[33]),(30,[30,32,33]),(36,[]),(36,[]),(36,[]),(36,[]),(36,[]),(36,[]),(36,[]),(36,[]),(36,[]),(36,[]),(36,[]),(36,[]),(36,[]),(36,[]),(36,[]),(36,[]),(36,[]),(36,[]),(36,[]),(36,[]),(36,[]),(36,[]),(36,[]),(36,[]),(36,[]),(36,[]),(36,[]),(36,[]),(36,[]),(36,[]),(36,[]),(36,[]),(36,[]),(36,[]),(36,[]),(36,[]),(36,[]),(36,[]),(36,[]),(36,[]),(36,[]),(36,[]),(36,[]),(36,[]),(36,[]),(36,[]),(36,[]),(36,[]),(36,[]),(36,[]),(36,[]),(36,[]),(36,[]),(36,[]),(36,[]),(36,[]),(36,[]),(36,[]),(36,[])]
abbrev nlPr3_12:List (List Nat):=nlD [] [(0,[]),(0,[]),(0,[0]),(3,[2]),(4,[3]),(0,[]),(0,[]),(0,[5]),(8,[7]),(9,[8]),(5,[5,7,8]),(11,[]),(11,[]),(11,[]),(11,[12]),(15,[14]),(16,[15]),(11,[]),(11,[]),(11,[17]),(20,[19]),(21,[20]),(17,[17,19,20]),(23,[]),(23,[]),(23,[]),(23,[]),(23,[25]),(28,[27]),(29,[28]),(23,[]),(23,[]),(23,[30]),(33,[32]),(34,[33]),(30,[30,32,33]),(36,[]),(36,[]),(36,[]),(36,[]),(36,[]),(36,[]),(36,[40]),(43,[42]),(44,[43]),(36,[]),(36,[]),(36,[45]),(48,[47]),(49,[48]),(45,[45,47,48]),(51,[]),(51,[]),(51,[]),(51,[]),(51,[]),(51,[]),(51,[]),(51,[]),(51,[]),(51,[]),(51,[]),(51,[]),(51,[]),(51,[]),(51,[]),(51,[]),(51,[]),(51,[]),(51,[]),(51,[]),(51,[]),(51,[]),(51,[]),(51,[]),(51,[]),(51,[]),(51,[]),(51,[]),(51,[]),(51,[]),(51,[]),(51,[]),(51,[]),(51,[]),(51,[]),(51,[]),(51,[]),(51,[]),(51,[]),(51,[]),(51,[]),(51,[]),(51,[]),(51,[])]
abbrev nlPr3_13:List (List Nat):=nlD [] [(0,[]),(0,[]),(0,[0]),(3,[2]),(4,[3]),(0,[]),(0,[]),(0,[5]),(8,[7]),(9,[8]),(5,[5,7,8]),(11,[]),(11,[]),(11,[]),(11,[12]),(15,[14]),(16,[15]),(11,[]),(11,[]),(11,[17]),(20,[19]),(21,[20]),(17,[17,19,20]),(23,[]),(23,[]),(23,[]),(23,[]),(23,[25]),(28,[27]),(29,[28]),(23,[]),(23,[]),(23,[30]),(33,[32]),(34,[33]),(30,[30,32,33]),(36,[]),(36,[]),(36,[]),(36,[]),(36,[]),(36,[]),(36,[40]),(43,[42]),(44,[43]),(36,[]),(36,[]),(36,[45]),(48,[47]),(49,[48]),(45,[45,47,48]),(51,[]),(51,[]),(51,[]),(51,[]),(51,[]),(51,[54]),(57,[56]),(58,[57]),(51,[]),(51,[]),(51,[59]),(62,[61]),(63,[62]),(51,[]),(59,[58,59,61,62,63]),(66,[65]),(67,[]),(67,[]),(67,[]),(67,[]),(67,[]),(67,[]),(67,[]),(67,[]),(67,[]),(67,[]),(67,[]),(67,[]),(67,[]),(67,[]),(67,[]),(67,[]),(67,[]),(67,[]),(67,[]),(67,[]),(67,[]),(67,[]),(67,[]),(67,[]),(67,[]),(67,[]),(67,[]),(67,[])]
abbrev nlPr3_14:List (List Nat):=nlD [] [(0,[]),(0,[]),(0,[0]),(3,[2]),(4,[3]),(0,[]),(0,[]),(0,[5]),(8,[7]),(9,[8]),(5,[5,7,8]),(11,[]),(11,[]),(11,[]),(11,[12]),(15,[14]),(16,[15]),(11,[]),(11,[]),(11,[17]),(20,[19]),(21,[20]),(17,[17,19,20]),(23,[]),(23,[]),(23,[]),(23,[]),(23,[25]),(28,[27]),(29,[28]),(23,[]),(23,[]),(23,[30]),(33,[32]),(34,[33]),(30,[30,32,33]),(36,[]),(36,[]),(36,[]),(36,[]),(36,[]),(36,[]),(36,[40]),(43,[42]),(44,[43]),(36,[]),(36,[]),(36,[45]),(48,[47]),(49,[48]),(45,[45,47,48]),(51,[]),(51,[]),(51,[]),(51,[]),(51,[]),(51,[54]),(57,[56]),(58,[57]),(51,[]),(51,[]),(51,[59]),(62,[61]),(63,[62]),(51,[]),(59,[58,59,61,62,63]),(66,[65]),(67,[]),(67,[]),(67,[]),(67,[]),(67,[69]),(72,[71]),(73,[72]),(67,[]),(67,[]),(67,[74]),(77,[76]),(78,[77]),(67,[]),(74,[73,74,76,77,78]),(81,[80]),(82,[]),(82,[]),(82,[]),(82,[]),(82,[]),(82,[]),(82,[]),(82,[]),(82,[]),(82,[]),(82,[]),(82,[]),(82,[])]
abbrev nlPr3_15:List (List Nat):=nlD [] [(0,[]),(0,[]),(0,[0]),(3,[2]),(4,[3]),(0,[]),(0,[]),(0,[5]),(8,[7]),(9,[8]),(5,[5,7,8]),(11,[]),(11,[]),(11,[]),(11,[12]),(15,[14]),(16,[15]),(11,[]),(11,[]),(11,[17]),(20,[19]),(21,[20]),(17,[17,19,20]),(23,[]),(23,[]),(23,[]),(23,[]),(23,[25]),(28,[27]),(29,[28]),(23,[]),(23,[]),(23,[30]),(33,[32]),(34,[33]),(30,[30,32,33]),(36,[]),(36,[]),(36,[]),(36,[]),(36,[]),(36,[]),(36,[40]),(43,[42]),(44,[43]),(36,[]),(36,[]),(36,[45]),(48,[47]),(49,[48]),(45,[45,47,48]),(51,[]),(51,[]),(51,[]),(51,[]),(51,[]),(51,[54]),(57,[56]),(58,[57]),(51,[]),(51,[]),(51,[59]),(62,[61]),(63,[62]),(51,[]),(59,[58,59,61,62,63]),(66,[65]),(67,[]),(67,[]),(67,[]),(67,[]),(67,[69]),(72,[71]),(73,[72]),(67,[]),(67,[]),(67,[74]),(77,[76]),(78,[77]),(67,[]),(74,[73,74,76,77,78]),(81,[80]),(82,[]),(82,[]),(82,[]),(82,[]),(82,[84]),(87,[86]),(88,[87]),(82,[]),(82,[]),(82,[89]),(92,[91]),(93,[92]),(82,[])]
abbrev nlPr3_16:List (List Nat):=nlD [] [(0,[]),(0,[]),(0,[0]),(3,[2]),(4,[3]),(0,[]),(0,[]),(0,[5]),(8,[7]),(9,[8]),(5,[5,7,8]),(11,[]),(11,[]),(11,[]),(11,[12]),(15,[14]),(16,[15]),(11,[]),(11,[]),(11,[17]),(20,[19]),(21,[20]),(17,[17,19,20]),(23,[]),(23,[]),(23,[]),(23,[]),(23,[25]),(28,[27]),(29,[28]),(23,[]),(23,[]),(23,[30]),(33,[32]),(34,[33]),(30,[30,32,33]),(36,[]),(36,[]),(36,[]),(36,[]),(36,[]),(36,[]),(36,[]),(36,[]),(36,[]),(36,[]),(36,[]),(36,[]),(36,[]),(36,[]),(36,[]),(36,[]),(36,[]),(36,[]),(36,[]),(36,[]),(36,[54]),(57,[56]),(58,[57]),(36,[]),(36,[]),(36,[59]),(62,[61]),(63,[62]),(36,[]),(59,[58,59,61,62,63]),(66,[65]),(67,[]),(67,[]),(67,[]),(67,[]),(67,[]),(67,[]),(67,[]),(67,[]),(67,[]),(67,[]),(67,[]),(67,[]),(67,[]),(67,[]),(67,[]),(67,[]),(67,[]),(67,[]),(67,[]),(67,[]),(67,[]),(67,[]),(67,[]),(67,[]),(67,[]),(67,[]),(67,[]),(67,[])]
abbrev nlPr3_17:List (List Nat):=nlD [] [(0,[]),(0,[]),(0,[0]),(3,[2]),(4,[3]),(0,[]),(0,[]),(0,[5]),(8,[7]),(9,[8]),(5,[5,7,8]),(11,[]),(11,[]),(11,[]),(11,[12]),(15,[14]),(16,[15]),(11,[]),(11,[]),(11,[17]),(20,[19]),(21,[20]),(17,[17,19,20]),(23,[]),(23,[]),(23,[]),(23,[]),(23,[25]),(28,[27]),(29,[28]),(23,[]),(23,[]),(23,[30]),(33,[32]),(34,[33]),(30,[30,32,33]),(36,[]),(36,[]),(36,[]),(36,[]),(36,[]),(36,[]),(36,[]),(36,[]),(36,[]),(36,[]),(36,[]),(36,[]),(36,[]),(36,[]),(36,[]),(36,[]),(36,[]),(36,[]),(36,[]),(36,[]),(36,[54]),(57,[56]),(58,[57]),(36,[]),(36,[]),(36,[59]),(62,[61]),(63,[62]),(36,[]),(59,[58,59,61,62,63]),(66,[65]),(67,[]),(67,[]),(67,[]),(67,[]),(67,[69]),(72,[71]),(73,[72]),(67,[]),(67,[]),(67,[74]),(77,[76]),(78,[77]),(67,[]),(74,[73,74,76,77,78]),(81,[80]),(82,[]),(82,[]),(82,[]),(82,[]),(82,[]),(82,[]),(82,[]),(82,[]),(82,[]),(82,[]),(82,[]),(82,[]),(82,[])]
abbrev nlPr3_18:List (List Nat):=nlD [] [(0,[]),(0,[]),(0,[0]),(3,[2]),(4,[3]),(0,[]),(0,[]),(0,[5]),(8,[7]),(9,[8]),(5,[5,7,8]),(11,[]),(11,[]),(11,[]),(11,[12]),(15,[14]),(16,[15]),(11,[]),(11,[]),(11,[17]),(20,[19]),(21,[20]),(17,[17,19,20]),(23,[]),(23,[]),(23,[]),(23,[]),(23,[25]),(28,[27]),(29,[28]),(23,[]),(23,[]),(23,[30]),(33,[32]),(34,[33]),(30,[30,32,33]),(36,[]),(36,[]),(36,[]),(36,[]),(36,[]),(36,[]),(36,[]),(36,[]),(36,[]),(36,[]),(36,[]),(36,[]),(36,[]),(36,[]),(36,[]),(36,[]),(36,[]),(36,[]),(36,[]),(36,[]),(36,[54]),(57,[56]),(58,[57]),(36,[]),(36,[]),(36,[59]),(62,[61]),(63,[62]),(36,[]),(59,[58,59,61,62,63]),(66,[65]),(67,[]),(67,[]),(67,[]),(67,[]),(67,[69]),(72,[71]),(73,[72]),(67,[]),(67,[]),(67,[74]),(77,[76]),(78,[77]),(67,[]),(74,[73,74,76,77,78]),(81,[80]),(82,[]),(82,[]),(82,[]),(82,[]),(82,[84]),(87,[86]),(88,[87]),(82,[]),(82,[]),(82,[89]),(92,[91]),(93,[92]),(82,[])]
def Kb5 (g0:(List Ki)→(List Ki)→(Bool)→Option (Bool))(a0:List Ki)(a1:List Ki)(a2:Bool):Option (Bool):=
 (bif ((a0.length:Int) != (a1.length:Int)) then some false else (Option.bind (α:=(Unit)⊕(Bool)) (loopM (fun (s228:Int)=>(bif (decide (s228 < (a0.length:Int))) then (Option.bind (α:=Bool) ((idx a0 s228).bind fun x414=>((idx a1 s228).bind fun x415=>(bif (x414.gOp != x415.gOp) then some true else ((idx a0 s228).bind fun x417=>((idx a1 s228).bind fun x418=>(bif (!decide (x417.gName=x418.gName)) then some true else ((idx a0 s228).bind fun x420=>((idx a1 s228).bind fun x421=>(bif (!decide (x420.gFunc=x421.gFunc)) then some true else (bif a2 then ((idx a0 s228).bind fun x424=>((idx a1 s228).bind fun x425=>(bif (x424.gAt != x425.gAt) then some true else ((idx a0 s228).bind fun x427=>((idx a1 s228).bind fun x428=>((Kd8 x427.gExps x428.gExps a2).bind fun x429=>(bif (!x429) then some true else ((idx a0 s228).bind fun x431=>((idx a1 s228).bind fun x432=>((g0 x431.gKids x432.gKids a2).bind fun x433=>(bif (!x433) then some true else ((idx a0 s228).bind fun x435=>((idx a1 s228).bind fun x436=>((g0 x435.gElse x436.gElse a2).bind fun x437=>some (!x437))))))))))))))) else ((idx a0 s228).bind fun x438=>((idx a1 s228).bind fun x439=>((Kd8 x438.gExps x439.gExps a2).bind fun x440=>(bif (!x440) then some true else ((idx a0 s228).bind fun x442=>((idx a1 s228).bind fun x443=>((g0 x442.gKids x443.gKids a2).bind fun x444=>(bif (!x444) then some true else ((idx a0 s228).bind fun x446=>((idx a1 s228).bind fun x447=>((g0 x446.gElse x447.gElse a2).bind fun x448=>some (!x448)))))))))))))))))))))) fun y413=>(bif y413 then some (.done (.inr false)) else some (.next (IntKind.i64.wrap (s228+(1:Int)))))) else some (.done (.inl ())))) (0:Int)) (Sum.elim (fun y227=>some true) (fun r=>some r))))
theorem Khf (g0:(List Ki)→(List Ki)→(Bool)→Option (Bool))(hg0:∀ (a0:List Ki) (a1:List Ki) (a2:Bool) (r:Bool) (h0:g0 a0 a1 a2=some r),CallsD Tryz.prog 21 [.lst 7 (a0.map Kp) .no,.lst 7 (a1.map Kp) .no,.v (.bool a2)] [] [] (fun d h k=>d=.v (.bool r)∧h=[]∧k=[]))(a0:List Ki)(a1:List Ki)(a2:Bool)(r:Bool)(h0:Kb5 g0 a0 a1 a2=some r):CallsD Tryz.prog 21 [.lst 7 (a0.map Kp) .no,.lst 7 (a1.map Kp) .no,.v (.bool a2)] [] [] (fun d h k=>d=.v (.bool r)∧h=[]∧k=[]):=by
 have hm:=KD h0;unfold Kb5 at hm;clear h0;refine KT htab Tryz.func21 rfl rfl rfl rfl rfl (fun C=>?_);refine Kg ?_;refine pu ?_;refine Ke ?_;refine Ku ?_;refine Kg ?_;refine pu ?_;refine Ka1 htab rfl rfl rfl rfl rfl rfl rfl (by first|exact Kao|rfl) ?_;refine pu ?_;refine Ka1 htab rfl rfl rfl rfl rfl rfl rfl (by first|exact Kao|rfl) ?_;refine pu ?_;refine Ke ?_;refine cY hm (fun hm=>?_) fun hm=>?_
 ·refine Kg ?_;refine pu ?_;refine Ke ?_;refine Kt ?_;refine Kx ?_;have er3:=Kl hm;subst er3;refine rP (t':=[(6,.v (.bool false))]) [] [] 0 (wC wN) (lT lN) ?_;exact ⟨rfl,rfl,rfl⟩
 refine Kz ?_;refine Kk ?_;refine Ku ?_;refine Kg ?_;refine pu ?_;refine Ke ?_;obtain ⟨x227,q227,ho227⟩:=Kb hm;refine KcL (τ:=Unit) (Y:=Unit) (fun y227 z227=>(⟨[],[],[]⟩:S)) x227 ?_ ?_
 ·clear hm;have hm:=KD q227;refine KN ?_;obtain ⟨u228,hl228,hq228⟩:=yes_m hm;refine Kbz (Y:=Unit) hl228 (fun s228 z228=>(⟨[(0,.lst 7 (a0.map Kp) .no),(1,.lst 7 (a1.map Kp) .no),(2,.v (.bool a2)),(7,.v (.int .i64 s228))],[],[]⟩:S)) ?_ ?_
  ·skip
   exact wO (wP (wC (wC (wC (wC wN)))))
  intro G228 s228 z228 hm;refine Ku ?_;refine Kg ?_;refine pu ?_;refine pu ?_;refine Ka1 htab rfl rfl rfl rfl rfl rfl rfl (by first|exact Kao|rfl) ?_;refine pu ?_;refine Ke ?_;refine cY hm (fun hm=>?_) fun hm=>?_
  ·refine Kz ?_;refine Kk ?_;refine Ku ?_;refine KN ?_;refine Ku ?_;obtain ⟨y413,q413,ho413⟩:=Kb hm;refine K7 (Y:=Unit) (fun z413=>(⟨[(0,.lst 7 (a0.map Kp) .no),(1,.lst 7 (a1.map Kp) .no),(2,.v (.bool a2)),(7,.v (.int .i64 s228)),(116,.v (.bool y413))],[],[]⟩:S)) ?_ ?_
   ·clear hm;have hm:=KD q413;obtain ⟨x414,q414,hm⟩:=Kb hm;obtain ⟨x415,q415,hm⟩:=Kb hm;refine bycB (x414.gOp != x415.gOp) (fun hs416=>?_) (fun hs416=>?_)
    ·replace hm:=yes_t hs416 hm;refine Kad 95 [] nlPr3_8 [0,2,3,5,7,8] Kc7 (by kernel_rfl) (by kernel_rfl) (by kernel_rfl) (by rfl) (by rfl) (by kernel_rfl) ?_;iterate 6 apply Exists.intro
     intro bs;refine zep ?_;refine zqp ?_;refine z_e rfl rfl (Ex.wk (KG htab rfl rfl rfl rfl rfl rfl rfl (Ks q414) (Ky q414)) (Wk.of_eq (congrArg D.el (Kq x414)))) rfl rfl rfl rfl rfl rfl ?_;refine zep ?_;refine z_qM rfl rfl (Kw htab rfl rfl rfl rfl rfl) rfl rfl rfl rfl rfl rfl ?_;refine zep ?_;refine zqp ?_;refine z_e rfl rfl (Ex.wk (KG htab rfl rfl rfl rfl rfl rfl rfl (Ks q415) (Ky q415)) (Wk.of_eq (congrArg D.el (Kq x415)))) rfl rfl rfl rfl rfl rfl ?_;refine zep ?_;refine z_qM rfl rfl (Kw htab rfl rfl rfl rfl rfl) rfl rfl rfl rfl rfl rfl ?_;refine zqp ?_;refine zqp ?_
     refine KV (j:=30) (b':=true) rfl hs416 ?_;iterate 11 refine zK ?_
     refine z_q rfl rfl (Ka2 rfl rfl rfl) rfl rfl rfl rfl rfl rfl ?_;refine zqp ?_;iterate 11 refine zK ?_
     refine z_q rfl rfl (Ka2 rfl rfl rfl) rfl rfl rfl rfl rfl rfl ?_;refine zqp ?_;iterate 14 refine zK ?_
     refine z_q rfl rfl (Ka2 rfl rfl rfl) rfl rfl rfl rfl rfl rfl ?_;refine zqp ?_;iterate 13 refine zK ?_
     refine z_q rfl rfl (Ka2 rfl rfl rfl) rfl rfl rfl rfl rfl rfl ?_;refine zqp ?_;iterate 13 refine zK ?_
     refine z_q rfl rfl (Ka2 rfl rfl rfl) rfl rfl rfl rfl rfl rfl ?_;refine zqp ?_;iterate 11 refine zK ?_
     refine z_nil rfl rfl (fun e he=>by simp [isAl] at he) ?_;refine pK ?_;refine pK ?_;refine KS rfl rfl rfl rfl rfl rfl ?_;refine KB ?_;have e413:=Kl hm;subst e413;refine ⟨rfl,?_⟩;exact wO (wP (wC (wC (wC (wC (wC wN))))))
    replace hm:=yes_f hs416 hm;obtain ⟨x417,q417,hm⟩:=Kb hm;obtain ⟨x418,q418,hm⟩:=Kb hm;refine bycB (!decide (x417.gName=x418.gName)) (fun hs419=>?_) (fun hs419=>?_)
    ·replace hm:=yes_t hs419 hm;refine Kad 95 [] nlPr3_10 [0,2,3,5,7,8,12,14,15,17,19,20] Kc7 (by kernel_rfl) (by kernel_rfl) (by kernel_rfl) (by rfl) (by rfl) (by kernel_rfl) ?_;iterate 12 apply Exists.intro
     intro bs;refine zep ?_;refine zqp ?_;refine z_e rfl rfl (Ex.wk (KG htab rfl rfl rfl rfl rfl rfl rfl (Ks q414) (Ky q414)) (Wk.of_eq (congrArg D.el (Kq x414)))) rfl rfl rfl rfl rfl rfl ?_;refine zep ?_;refine z_qM rfl rfl (Kw htab rfl rfl rfl rfl rfl) rfl rfl rfl rfl rfl rfl ?_;refine zep ?_;refine zqp ?_;refine z_e rfl rfl (Ex.wk (KG htab rfl rfl rfl rfl rfl rfl rfl (Ks q415) (Ky q415)) (Wk.of_eq (congrArg D.el (Kq x415)))) rfl rfl rfl rfl rfl rfl ?_;refine zep ?_;refine z_qM rfl rfl (Kw htab rfl rfl rfl rfl rfl) rfl rfl rfl rfl rfl rfl ?_;refine zqp ?_;refine zqp ?_
     refine KV (j:=30) (b':=false) rfl hs416 ?_;refine zep ?_;refine zqp ?_;refine z_e rfl rfl (Ex.wk (KG htab rfl rfl rfl rfl rfl rfl rfl (Ks q417) (Ky q417)) (Wk.of_eq (congrArg D.el (Kq x417)))) rfl rfl rfl rfl rfl rfl ?_;refine zep ?_;refine z_qM rfl rfl (Kw htab rfl rfl rfl rfl rfl) rfl rfl rfl rfl rfl rfl ?_;refine zep ?_;refine zqp ?_;refine z_e rfl rfl (Ex.wk (KG htab rfl rfl rfl rfl rfl rfl rfl (Ks q418) (Ky q418)) (Wk.of_eq (congrArg D.el (Kq x418)))) rfl rfl rfl rfl rfl rfl ?_;refine zep ?_;refine z_qM rfl rfl (Kw htab rfl rfl rfl rfl rfl) rfl rfl rfl rfl rfl rfl ?_;refine zqp ?_
     refine z_q rfl rfl (Kaj rfl rfl rfl) rfl rfl rfl rfl rfl rfl ?_;refine zqp ?_;refine KV (j:=43) (b':=true) rfl hs419 ?_;iterate 11 refine zK ?_
     refine z_q rfl rfl (Ka2 rfl rfl rfl) rfl rfl rfl rfl rfl rfl ?_;refine zqp ?_;iterate 14 refine zK ?_
     refine z_q rfl rfl (Ka2 rfl rfl rfl) rfl rfl rfl rfl rfl rfl ?_;refine zqp ?_;iterate 13 refine zK ?_
     refine z_q rfl rfl (Ka2 rfl rfl rfl) rfl rfl rfl rfl rfl rfl ?_;refine zqp ?_;iterate 13 refine zK ?_
     refine z_q rfl rfl (Ka2 rfl rfl rfl) rfl rfl rfl rfl rfl rfl ?_;refine zqp ?_;iterate 11 refine zK ?_
     refine z_nil rfl rfl (fun e he=>by simp [isAl] at he) ?_;refine pK ?_;refine pK ?_;refine KS rfl rfl rfl rfl rfl rfl ?_;refine KB ?_;have e413:=Kl hm;subst e413;refine ⟨rfl,?_⟩;exact wO (wP (wC (wC (wC (wC (wC wN))))))
    replace hm:=yes_f hs419 hm;obtain ⟨x420,q420,hm⟩:=Kb hm;obtain ⟨x421,q421,hm⟩:=Kb hm;refine bycB (!decide (x420.gFunc=x421.gFunc)) (fun hs422=>?_) (fun hs422=>?_)
    ·replace hm:=yes_t hs422 hm;refine Kad 95 [] nlPr3_11 [0,2,3,5,7,8,12,14,15,17,19,20,25,27,28,30,32,33] Kc7 (by kernel_rfl) (by kernel_rfl) (by kernel_rfl) (by rfl) (by rfl) (by kernel_rfl) ?_;iterate 18 apply Exists.intro
     intro bs;refine zep ?_;refine zqp ?_;refine z_e rfl rfl (Ex.wk (KG htab rfl rfl rfl rfl rfl rfl rfl (Ks q414) (Ky q414)) (Wk.of_eq (congrArg D.el (Kq x414)))) rfl rfl rfl rfl rfl rfl ?_;refine zep ?_;refine z_qM rfl rfl (Kw htab rfl rfl rfl rfl rfl) rfl rfl rfl rfl rfl rfl ?_;refine zep ?_;refine zqp ?_;refine z_e rfl rfl (Ex.wk (KG htab rfl rfl rfl rfl rfl rfl rfl (Ks q415) (Ky q415)) (Wk.of_eq (congrArg D.el (Kq x415)))) rfl rfl rfl rfl rfl rfl ?_;refine zep ?_;refine z_qM rfl rfl (Kw htab rfl rfl rfl rfl rfl) rfl rfl rfl rfl rfl rfl ?_;refine zqp ?_;refine zqp ?_
     refine KV (j:=30) (b':=false) rfl hs416 ?_;refine zep ?_;refine zqp ?_;refine z_e rfl rfl (Ex.wk (KG htab rfl rfl rfl rfl rfl rfl rfl (Ks q417) (Ky q417)) (Wk.of_eq (congrArg D.el (Kq x417)))) rfl rfl rfl rfl rfl rfl ?_;refine zep ?_;refine z_qM rfl rfl (Kw htab rfl rfl rfl rfl rfl) rfl rfl rfl rfl rfl rfl ?_;refine zep ?_;refine zqp ?_;refine z_e rfl rfl (Ex.wk (KG htab rfl rfl rfl rfl rfl rfl rfl (Ks q418) (Ky q418)) (Wk.of_eq (congrArg D.el (Kq x418)))) rfl rfl rfl rfl rfl rfl ?_;refine zep ?_;refine z_qM rfl rfl (Kw htab rfl rfl rfl rfl rfl) rfl rfl rfl rfl rfl rfl ?_;refine zqp ?_
     refine z_q rfl rfl (Kaj rfl rfl rfl) rfl rfl rfl rfl rfl rfl ?_;refine zqp ?_;refine KV (j:=43) (b':=false) rfl hs419 ?_;refine zep ?_;refine zqp ?_;refine z_e rfl rfl (Ex.wk (KG htab rfl rfl rfl rfl rfl rfl rfl (Ks q420) (Ky q420)) (Wk.of_eq (congrArg D.el (Kq x420)))) rfl rfl rfl rfl rfl rfl ?_;refine zep ?_;refine z_qM rfl rfl (Kw htab rfl rfl rfl rfl rfl) rfl rfl rfl rfl rfl rfl ?_;refine zep ?_;refine zqp ?_;refine z_e rfl rfl (Ex.wk (KG htab rfl rfl rfl rfl rfl rfl rfl (Ks q421) (Ky q421)) (Wk.of_eq (congrArg D.el (Kq x421)))) rfl rfl rfl rfl rfl rfl ?_;refine zep ?_
     refine z_qM rfl rfl (Kw htab rfl rfl rfl rfl rfl) rfl rfl rfl rfl rfl rfl ?_;refine zqp ?_;refine z_q rfl rfl (Kaj rfl rfl rfl) rfl rfl rfl rfl rfl rfl ?_;refine zqp ?_;refine KV (j:=56) (b':=true) rfl hs422 ?_;iterate 14 refine zK ?_
     refine z_q rfl rfl (Ka2 rfl rfl rfl) rfl rfl rfl rfl rfl rfl ?_;refine zqp ?_;iterate 13 refine zK ?_
     refine z_q rfl rfl (Ka2 rfl rfl rfl) rfl rfl rfl rfl rfl rfl ?_;refine zqp ?_;iterate 13 refine zK ?_
     refine z_q rfl rfl (Ka2 rfl rfl rfl) rfl rfl rfl rfl rfl rfl ?_;refine zqp ?_;iterate 11 refine zK ?_
     refine z_nil rfl rfl (fun e he=>by simp [isAl] at he) ?_;refine pK ?_;refine pK ?_;refine KS rfl rfl rfl rfl rfl rfl ?_;refine KB ?_;have e413:=Kl hm;subst e413;refine ⟨rfl,?_⟩;exact wO (wP (wC (wC (wC (wC (wC wN))))))
    replace hm:=yes_f hs422 hm;refine bycB a2 (fun hs423=>?_) (fun hs423=>?_)
    ·replace hm:=yes_t hs423 hm;obtain ⟨x424,q424,hm⟩:=Kb hm;obtain ⟨x425,q425,hm⟩:=Kb hm;refine bycB (x424.gAt != x425.gAt) (fun hs426=>?_) (fun hs426=>?_)
     ·replace hm:=yes_t hs426 hm;refine Kad 95 [] nlPr3_12 [0,2,3,5,7,8,12,14,15,17,19,20,25,27,28,30,32,33,40,42,43,45,47,48] Kc7 (by kernel_rfl) (by kernel_rfl) (by kernel_rfl) (by rfl) (by rfl) (by kernel_rfl) ?_;iterate 24 apply Exists.intro
      intro bs;refine zep ?_;refine zqp ?_;refine z_e rfl rfl (Ex.wk (KG htab rfl rfl rfl rfl rfl rfl rfl (Ks q414) (Ky q414)) (Wk.of_eq (congrArg D.el (Kq x414)))) rfl rfl rfl rfl rfl rfl ?_;refine zep ?_;refine z_qM rfl rfl (Kw htab rfl rfl rfl rfl rfl) rfl rfl rfl rfl rfl rfl ?_;refine zep ?_;refine zqp ?_;refine z_e rfl rfl (Ex.wk (KG htab rfl rfl rfl rfl rfl rfl rfl (Ks q415) (Ky q415)) (Wk.of_eq (congrArg D.el (Kq x415)))) rfl rfl rfl rfl rfl rfl ?_;refine zep ?_;refine z_qM rfl rfl (Kw htab rfl rfl rfl rfl rfl) rfl rfl rfl rfl rfl rfl ?_;refine zqp ?_;refine zqp ?_
      refine KV (j:=30) (b':=false) rfl hs416 ?_;refine zep ?_;refine zqp ?_;refine z_e rfl rfl (Ex.wk (KG htab rfl rfl rfl rfl rfl rfl rfl (Ks q417) (Ky q417)) (Wk.of_eq (congrArg D.el (Kq x417)))) rfl rfl rfl rfl rfl rfl ?_;refine zep ?_;refine z_qM rfl rfl (Kw htab rfl rfl rfl rfl rfl) rfl rfl rfl rfl rfl rfl ?_;refine zep ?_;refine zqp ?_;refine z_e rfl rfl (Ex.wk (KG htab rfl rfl rfl rfl rfl rfl rfl (Ks q418) (Ky q418)) (Wk.of_eq (congrArg D.el (Kq x418)))) rfl rfl rfl rfl rfl rfl ?_;refine zep ?_;refine z_qM rfl rfl (Kw htab rfl rfl rfl rfl rfl) rfl rfl rfl rfl rfl rfl ?_;refine zqp ?_
      refine z_q rfl rfl (Kaj rfl rfl rfl) rfl rfl rfl rfl rfl rfl ?_;refine zqp ?_;refine KV (j:=43) (b':=false) rfl hs419 ?_;refine zep ?_;refine zqp ?_;refine z_e rfl rfl (Ex.wk (KG htab rfl rfl rfl rfl rfl rfl rfl (Ks q420) (Ky q420)) (Wk.of_eq (congrArg D.el (Kq x420)))) rfl rfl rfl rfl rfl rfl ?_;refine zep ?_;refine z_qM rfl rfl (Kw htab rfl rfl rfl rfl rfl) rfl rfl rfl rfl rfl rfl ?_;refine zep ?_;refine zqp ?_;refine z_e rfl rfl (Ex.wk (KG htab rfl rfl rfl rfl rfl rfl rfl (Ks q421) (Ky q421)) (Wk.of_eq (congrArg D.el (Kq x421)))) rfl rfl rfl rfl rfl rfl ?_;refine zep ?_
      refine z_qM rfl rfl (Kw htab rfl rfl rfl rfl rfl) rfl rfl rfl rfl rfl rfl ?_;refine zqp ?_;refine z_q rfl rfl (Kaj rfl rfl rfl) rfl rfl rfl rfl rfl rfl ?_;refine zqp ?_;refine KV (j:=56) (b':=false) rfl hs422 ?_;refine zqp ?_;refine zqp ?_;refine KV (j:=58) (b':=true) rfl hs423 ?_;refine zep ?_;refine zqp ?_;refine z_e rfl rfl (Ex.wk (KG htab rfl rfl rfl rfl rfl rfl rfl (Ks q424) (Ky q424)) (Wk.of_eq (congrArg D.el (Kq x424)))) rfl rfl rfl rfl rfl rfl ?_;refine zep ?_;refine z_qM rfl rfl (Kw htab rfl rfl rfl rfl rfl) rfl rfl rfl rfl rfl rfl ?_;refine zep ?_;refine zqp ?_
      refine z_e rfl rfl (Ex.wk (KG htab rfl rfl rfl rfl rfl rfl rfl (Ks q425) (Ky q425)) (Wk.of_eq (congrArg D.el (Kq x425)))) rfl rfl rfl rfl rfl rfl ?_;refine zep ?_;refine z_qM rfl rfl (Kw htab rfl rfl rfl rfl rfl) rfl rfl rfl rfl rfl rfl ?_;refine zqp ?_;refine z_q rfl rfl (Ka2 rfl rfl rfl) rfl rfl rfl rfl rfl rfl ?_;refine z_q rfl rfl (Kaj rfl rfl rfl) rfl rfl rfl rfl rfl rfl ?_;refine zqp ?_;refine KV (j:=72) (b':=true) rfl hs426 ?_;iterate 13 refine zK ?_
      refine z_q rfl rfl (Ka2 rfl rfl rfl) rfl rfl rfl rfl rfl rfl ?_;refine zqp ?_;iterate 13 refine zK ?_
      refine z_q rfl rfl (Ka2 rfl rfl rfl) rfl rfl rfl rfl rfl rfl ?_;refine zqp ?_;iterate 11 refine zK ?_
      refine z_nil rfl rfl (fun e he=>by simp [isAl] at he) ?_;refine pK ?_;refine pK ?_;refine KS rfl rfl rfl rfl rfl rfl ?_;refine KB ?_;have e413:=Kl hm;subst e413;refine ⟨rfl,?_⟩;exact wO (wP (wC (wC (wC (wC (wC wN))))))
     replace hm:=yes_f hs426 hm;obtain ⟨x427,q427,hm⟩:=Kb hm;obtain ⟨x428,q428,hm⟩:=Kb hm;obtain ⟨x429,q429,hm⟩:=Kb hm;refine bycB (!x429) (fun hs430=>?_) (fun hs430=>?_)
     ·replace hm:=yes_t hs430 hm;refine Kad 95 [] nlPr3_13 [0,2,3,5,7,8,12,14,15,17,19,20,25,27,28,30,32,33,40,42,43,45,47,48,54,56,57,58,59,61,62,63,65] Kc7 (by kernel_rfl) (by kernel_rfl) (by kernel_rfl) (by rfl) (by rfl) (by kernel_rfl) ?_;iterate 33 apply Exists.intro
      intro bs;refine zep ?_;refine zqp ?_;refine z_e rfl rfl (Ex.wk (KG htab rfl rfl rfl rfl rfl rfl rfl (Ks q414) (Ky q414)) (Wk.of_eq (congrArg D.el (Kq x414)))) rfl rfl rfl rfl rfl rfl ?_;refine zep ?_;refine z_qM rfl rfl (Kw htab rfl rfl rfl rfl rfl) rfl rfl rfl rfl rfl rfl ?_;refine zep ?_;refine zqp ?_;refine z_e rfl rfl (Ex.wk (KG htab rfl rfl rfl rfl rfl rfl rfl (Ks q415) (Ky q415)) (Wk.of_eq (congrArg D.el (Kq x415)))) rfl rfl rfl rfl rfl rfl ?_;refine zep ?_;refine z_qM rfl rfl (Kw htab rfl rfl rfl rfl rfl) rfl rfl rfl rfl rfl rfl ?_;refine zqp ?_;refine zqp ?_
      refine KV (j:=30) (b':=false) rfl hs416 ?_;refine zep ?_;refine zqp ?_;refine z_e rfl rfl (Ex.wk (KG htab rfl rfl rfl rfl rfl rfl rfl (Ks q417) (Ky q417)) (Wk.of_eq (congrArg D.el (Kq x417)))) rfl rfl rfl rfl rfl rfl ?_;refine zep ?_;refine z_qM rfl rfl (Kw htab rfl rfl rfl rfl rfl) rfl rfl rfl rfl rfl rfl ?_;refine zep ?_;refine zqp ?_;refine z_e rfl rfl (Ex.wk (KG htab rfl rfl rfl rfl rfl rfl rfl (Ks q418) (Ky q418)) (Wk.of_eq (congrArg D.el (Kq x418)))) rfl rfl rfl rfl rfl rfl ?_;refine zep ?_;refine z_qM rfl rfl (Kw htab rfl rfl rfl rfl rfl) rfl rfl rfl rfl rfl rfl ?_;refine zqp ?_
      refine z_q rfl rfl (Kaj rfl rfl rfl) rfl rfl rfl rfl rfl rfl ?_;refine zqp ?_;refine KV (j:=43) (b':=false) rfl hs419 ?_;refine zep ?_;refine zqp ?_;refine z_e rfl rfl (Ex.wk (KG htab rfl rfl rfl rfl rfl rfl rfl (Ks q420) (Ky q420)) (Wk.of_eq (congrArg D.el (Kq x420)))) rfl rfl rfl rfl rfl rfl ?_;refine zep ?_;refine z_qM rfl rfl (Kw htab rfl rfl rfl rfl rfl) rfl rfl rfl rfl rfl rfl ?_;refine zep ?_;refine zqp ?_;refine z_e rfl rfl (Ex.wk (KG htab rfl rfl rfl rfl rfl rfl rfl (Ks q421) (Ky q421)) (Wk.of_eq (congrArg D.el (Kq x421)))) rfl rfl rfl rfl rfl rfl ?_;refine zep ?_
      refine z_qM rfl rfl (Kw htab rfl rfl rfl rfl rfl) rfl rfl rfl rfl rfl rfl ?_;refine zqp ?_;refine z_q rfl rfl (Kaj rfl rfl rfl) rfl rfl rfl rfl rfl rfl ?_;refine zqp ?_;refine KV (j:=56) (b':=false) rfl hs422 ?_;refine zqp ?_;refine zqp ?_;refine KV (j:=58) (b':=true) rfl hs423 ?_;refine zep ?_;refine zqp ?_;refine z_e rfl rfl (Ex.wk (KG htab rfl rfl rfl rfl rfl rfl rfl (Ks q424) (Ky q424)) (Wk.of_eq (congrArg D.el (Kq x424)))) rfl rfl rfl rfl rfl rfl ?_;refine zep ?_;refine z_qM rfl rfl (Kw htab rfl rfl rfl rfl rfl) rfl rfl rfl rfl rfl rfl ?_;refine zep ?_;refine zqp ?_
      refine z_e rfl rfl (Ex.wk (KG htab rfl rfl rfl rfl rfl rfl rfl (Ks q425) (Ky q425)) (Wk.of_eq (congrArg D.el (Kq x425)))) rfl rfl rfl rfl rfl rfl ?_;refine zep ?_;refine z_qM rfl rfl (Kw htab rfl rfl rfl rfl rfl) rfl rfl rfl rfl rfl rfl ?_;refine zqp ?_;refine z_q rfl rfl (Ka2 rfl rfl rfl) rfl rfl rfl rfl rfl rfl ?_;refine z_q rfl rfl (Kaj rfl rfl rfl) rfl rfl rfl rfl rfl rfl ?_;refine zqp ?_;refine KV (j:=72) (b':=false) rfl hs426 ?_;refine zep ?_;refine zqp ?_
      refine z_e rfl rfl (Ex.wk (KG htab rfl rfl rfl rfl rfl rfl rfl (Ks q427) (Ky q427)) (Wk.of_eq (congrArg D.el (Kq x427)))) rfl rfl rfl rfl rfl rfl ?_;refine zep ?_;refine z_eM rfl rfl (Kw htab rfl rfl rfl rfl rfl) rfl rfl rfl rfl rfl rfl ?_;refine zep ?_;refine zqp ?_;refine z_e rfl rfl (Ex.wk (KG htab rfl rfl rfl rfl rfl rfl rfl (Ks q428) (Ky q428)) (Wk.of_eq (congrArg D.el (Kq x428)))) rfl rfl rfl rfl rfl rfl ?_;refine zep ?_;refine z_eM rfl rfl (Kw htab rfl rfl rfl rfl rfl) rfl rfl rfl rfl rfl rfl ?_;refine zqp ?_
      refine Kby rfl rfl (KcN x427.gExps x428.gExps a2 x429 q429) rfl rfl Wl rfl rfl rfl rfl rfl rfl ?_;refine zqp ?_;refine z_q rfl rfl (Kaj rfl rfl rfl) rfl rfl rfl rfl rfl rfl ?_;refine zqp ?_;refine KV (j:=87) (b':=true) rfl hs430 ?_;iterate 13 refine zK ?_
      refine z_q rfl rfl (Ka2 rfl rfl rfl) rfl rfl rfl rfl rfl rfl ?_;refine zqp ?_;iterate 11 refine zK ?_
      refine z_nil rfl rfl (fun e he=>by simp [isAl] at he) ?_;refine pK ?_;refine pK ?_;refine KS rfl rfl rfl rfl rfl rfl ?_;refine KB ?_;have e413:=Kl hm;subst e413;refine ⟨rfl,?_⟩;exact wO (wP (wC (wC (wC (wC (wC wN))))))
     replace hm:=yes_f hs430 hm;obtain ⟨x431,q431,hm⟩:=Kb hm;obtain ⟨x432,q432,hm⟩:=Kb hm;obtain ⟨x433,q433,hm⟩:=Kb hm;refine bycB (!x433) (fun hs434=>?_) (fun hs434=>?_)
     ·replace hm:=yes_t hs434 hm;refine Kad 95 [] nlPr3_14 [0,2,3,5,7,8,12,14,15,17,19,20,25,27,28,30,32,33,40,42,43,45,47,48,54,56,57,58,59,61,62,63,65,69,71,72,73,74,76,77,78,80] Kc7 (by kernel_rfl) (by kernel_rfl) (by kernel_rfl) (by rfl) (by rfl) (by kernel_rfl) ?_;iterate 42 apply Exists.intro
      intro bs;refine zep ?_;refine zqp ?_;refine z_e rfl rfl (Ex.wk (KG htab rfl rfl rfl rfl rfl rfl rfl (Ks q414) (Ky q414)) (Wk.of_eq (congrArg D.el (Kq x414)))) rfl rfl rfl rfl rfl rfl ?_;refine zep ?_;refine z_qM rfl rfl (Kw htab rfl rfl rfl rfl rfl) rfl rfl rfl rfl rfl rfl ?_;refine zep ?_;refine zqp ?_;refine z_e rfl rfl (Ex.wk (KG htab rfl rfl rfl rfl rfl rfl rfl (Ks q415) (Ky q415)) (Wk.of_eq (congrArg D.el (Kq x415)))) rfl rfl rfl rfl rfl rfl ?_;refine zep ?_;refine z_qM rfl rfl (Kw htab rfl rfl rfl rfl rfl) rfl rfl rfl rfl rfl rfl ?_;refine zqp ?_;refine zqp ?_
      refine KV (j:=30) (b':=false) rfl hs416 ?_;refine zep ?_;refine zqp ?_;refine z_e rfl rfl (Ex.wk (KG htab rfl rfl rfl rfl rfl rfl rfl (Ks q417) (Ky q417)) (Wk.of_eq (congrArg D.el (Kq x417)))) rfl rfl rfl rfl rfl rfl ?_;refine zep ?_;refine z_qM rfl rfl (Kw htab rfl rfl rfl rfl rfl) rfl rfl rfl rfl rfl rfl ?_;refine zep ?_;refine zqp ?_;refine z_e rfl rfl (Ex.wk (KG htab rfl rfl rfl rfl rfl rfl rfl (Ks q418) (Ky q418)) (Wk.of_eq (congrArg D.el (Kq x418)))) rfl rfl rfl rfl rfl rfl ?_;refine zep ?_;refine z_qM rfl rfl (Kw htab rfl rfl rfl rfl rfl) rfl rfl rfl rfl rfl rfl ?_;refine zqp ?_
      refine z_q rfl rfl (Kaj rfl rfl rfl) rfl rfl rfl rfl rfl rfl ?_;refine zqp ?_;refine KV (j:=43) (b':=false) rfl hs419 ?_;refine zep ?_;refine zqp ?_;refine z_e rfl rfl (Ex.wk (KG htab rfl rfl rfl rfl rfl rfl rfl (Ks q420) (Ky q420)) (Wk.of_eq (congrArg D.el (Kq x420)))) rfl rfl rfl rfl rfl rfl ?_;refine zep ?_;refine z_qM rfl rfl (Kw htab rfl rfl rfl rfl rfl) rfl rfl rfl rfl rfl rfl ?_;refine zep ?_;refine zqp ?_;refine z_e rfl rfl (Ex.wk (KG htab rfl rfl rfl rfl rfl rfl rfl (Ks q421) (Ky q421)) (Wk.of_eq (congrArg D.el (Kq x421)))) rfl rfl rfl rfl rfl rfl ?_;refine zep ?_
      refine z_qM rfl rfl (Kw htab rfl rfl rfl rfl rfl) rfl rfl rfl rfl rfl rfl ?_;refine zqp ?_;refine z_q rfl rfl (Kaj rfl rfl rfl) rfl rfl rfl rfl rfl rfl ?_;refine zqp ?_;refine KV (j:=56) (b':=false) rfl hs422 ?_;refine zqp ?_;refine zqp ?_;refine KV (j:=58) (b':=true) rfl hs423 ?_;refine zep ?_;refine zqp ?_;refine z_e rfl rfl (Ex.wk (KG htab rfl rfl rfl rfl rfl rfl rfl (Ks q424) (Ky q424)) (Wk.of_eq (congrArg D.el (Kq x424)))) rfl rfl rfl rfl rfl rfl ?_;refine zep ?_;refine z_qM rfl rfl (Kw htab rfl rfl rfl rfl rfl) rfl rfl rfl rfl rfl rfl ?_;refine zep ?_;refine zqp ?_
      refine z_e rfl rfl (Ex.wk (KG htab rfl rfl rfl rfl rfl rfl rfl (Ks q425) (Ky q425)) (Wk.of_eq (congrArg D.el (Kq x425)))) rfl rfl rfl rfl rfl rfl ?_;refine zep ?_;refine z_qM rfl rfl (Kw htab rfl rfl rfl rfl rfl) rfl rfl rfl rfl rfl rfl ?_;refine zqp ?_;refine z_q rfl rfl (Ka2 rfl rfl rfl) rfl rfl rfl rfl rfl rfl ?_;refine z_q rfl rfl (Kaj rfl rfl rfl) rfl rfl rfl rfl rfl rfl ?_;refine zqp ?_;refine KV (j:=72) (b':=false) rfl hs426 ?_;refine zep ?_;refine zqp ?_
      refine z_e rfl rfl (Ex.wk (KG htab rfl rfl rfl rfl rfl rfl rfl (Ks q427) (Ky q427)) (Wk.of_eq (congrArg D.el (Kq x427)))) rfl rfl rfl rfl rfl rfl ?_;refine zep ?_;refine z_eM rfl rfl (Kw htab rfl rfl rfl rfl rfl) rfl rfl rfl rfl rfl rfl ?_;refine zep ?_;refine zqp ?_;refine z_e rfl rfl (Ex.wk (KG htab rfl rfl rfl rfl rfl rfl rfl (Ks q428) (Ky q428)) (Wk.of_eq (congrArg D.el (Kq x428)))) rfl rfl rfl rfl rfl rfl ?_;refine zep ?_;refine z_eM rfl rfl (Kw htab rfl rfl rfl rfl rfl) rfl rfl rfl rfl rfl rfl ?_;refine zqp ?_
      refine Kby rfl rfl (KcN x427.gExps x428.gExps a2 x429 q429) rfl rfl Wl rfl rfl rfl rfl rfl rfl ?_;refine zqp ?_;refine z_q rfl rfl (Kaj rfl rfl rfl) rfl rfl rfl rfl rfl rfl ?_;refine zqp ?_;refine KV (j:=87) (b':=false) rfl hs430 ?_;refine zep ?_;refine zqp ?_;refine z_e rfl rfl (Ex.wk (KG htab rfl rfl rfl rfl rfl rfl rfl (Ks q431) (Ky q431)) (Wk.of_eq (congrArg D.el (Kq x431)))) rfl rfl rfl rfl rfl rfl ?_;refine zep ?_;refine z_eM rfl rfl (Kw htab rfl rfl rfl rfl rfl) rfl rfl rfl rfl rfl rfl ?_;refine zep ?_;refine zqp ?_
      refine z_e rfl rfl (Ex.wk (KG htab rfl rfl rfl rfl rfl rfl rfl (Ks q432) (Ky q432)) (Wk.of_eq (congrArg D.el (Kq x432)))) rfl rfl rfl rfl rfl rfl ?_;refine zep ?_;refine z_eM rfl rfl (Kw htab rfl rfl rfl rfl rfl) rfl rfl rfl rfl rfl rfl ?_;refine zqp ?_;refine Kby rfl rfl (hg0 x431.gKids x432.gKids a2 x433 q433) rfl rfl Wl rfl rfl rfl rfl rfl rfl ?_;refine zqp ?_;refine z_q rfl rfl (Kaj rfl rfl rfl) rfl rfl rfl rfl rfl rfl ?_;refine zqp ?_;refine KV (j:=102) (b':=true) rfl hs434 ?_;iterate 11 refine zK ?_
      refine z_nil rfl rfl (fun e he=>by simp [isAl] at he) ?_;refine pK ?_;refine pK ?_;refine KS rfl rfl rfl rfl rfl rfl ?_;refine KB ?_;have e413:=Kl hm;subst e413;refine ⟨rfl,?_⟩;exact wO (wP (wC (wC (wC (wC (wC wN))))))
     replace hm:=yes_f hs434 hm;obtain ⟨x435,q435,hm⟩:=Kb hm;obtain ⟨x436,q436,hm⟩:=Kb hm;refine Kad 95 [] nlPr3_15 [0,2,3,5,7,8,12,14,15,17,19,20,25,27,28,30,32,33,40,42,43,45,47,48,54,56,57,58,59,61,62,63,65,69,71,72,73,74,76,77,78,80,84,86,87,88,89,91,92,93] Kc7 (by kernel_rfl) (by kernel_rfl) (by kernel_rfl) (by rfl) (by rfl) (by kernel_rfl) ?_;iterate 50 apply Exists.intro
     intro bs;refine zep ?_;refine zqp ?_;refine z_e rfl rfl (Ex.wk (KG htab rfl rfl rfl rfl rfl rfl rfl (Ks q414) (Ky q414)) (Wk.of_eq (congrArg D.el (Kq x414)))) rfl rfl rfl rfl rfl rfl ?_;refine zep ?_;refine z_qM rfl rfl (Kw htab rfl rfl rfl rfl rfl) rfl rfl rfl rfl rfl rfl ?_;refine zep ?_;refine zqp ?_;refine z_e rfl rfl (Ex.wk (KG htab rfl rfl rfl rfl rfl rfl rfl (Ks q415) (Ky q415)) (Wk.of_eq (congrArg D.el (Kq x415)))) rfl rfl rfl rfl rfl rfl ?_;refine zep ?_;refine z_qM rfl rfl (Kw htab rfl rfl rfl rfl rfl) rfl rfl rfl rfl rfl rfl ?_;refine zqp ?_;refine zqp ?_
     refine KV (j:=30) (b':=false) rfl hs416 ?_;refine zep ?_;refine zqp ?_;refine z_e rfl rfl (Ex.wk (KG htab rfl rfl rfl rfl rfl rfl rfl (Ks q417) (Ky q417)) (Wk.of_eq (congrArg D.el (Kq x417)))) rfl rfl rfl rfl rfl rfl ?_;refine zep ?_;refine z_qM rfl rfl (Kw htab rfl rfl rfl rfl rfl) rfl rfl rfl rfl rfl rfl ?_;refine zep ?_;refine zqp ?_;refine z_e rfl rfl (Ex.wk (KG htab rfl rfl rfl rfl rfl rfl rfl (Ks q418) (Ky q418)) (Wk.of_eq (congrArg D.el (Kq x418)))) rfl rfl rfl rfl rfl rfl ?_;refine zep ?_;refine z_qM rfl rfl (Kw htab rfl rfl rfl rfl rfl) rfl rfl rfl rfl rfl rfl ?_;refine zqp ?_
     refine z_q rfl rfl (Kaj rfl rfl rfl) rfl rfl rfl rfl rfl rfl ?_;refine zqp ?_;refine KV (j:=43) (b':=false) rfl hs419 ?_;refine zep ?_;refine zqp ?_;refine z_e rfl rfl (Ex.wk (KG htab rfl rfl rfl rfl rfl rfl rfl (Ks q420) (Ky q420)) (Wk.of_eq (congrArg D.el (Kq x420)))) rfl rfl rfl rfl rfl rfl ?_;refine zep ?_;refine z_qM rfl rfl (Kw htab rfl rfl rfl rfl rfl) rfl rfl rfl rfl rfl rfl ?_;refine zep ?_;refine zqp ?_;refine z_e rfl rfl (Ex.wk (KG htab rfl rfl rfl rfl rfl rfl rfl (Ks q421) (Ky q421)) (Wk.of_eq (congrArg D.el (Kq x421)))) rfl rfl rfl rfl rfl rfl ?_;refine zep ?_
     refine z_qM rfl rfl (Kw htab rfl rfl rfl rfl rfl) rfl rfl rfl rfl rfl rfl ?_;refine zqp ?_;refine z_q rfl rfl (Kaj rfl rfl rfl) rfl rfl rfl rfl rfl rfl ?_;refine zqp ?_;refine KV (j:=56) (b':=false) rfl hs422 ?_;refine zqp ?_;refine zqp ?_;refine KV (j:=58) (b':=true) rfl hs423 ?_;refine zep ?_;refine zqp ?_;refine z_e rfl rfl (Ex.wk (KG htab rfl rfl rfl rfl rfl rfl rfl (Ks q424) (Ky q424)) (Wk.of_eq (congrArg D.el (Kq x424)))) rfl rfl rfl rfl rfl rfl ?_;refine zep ?_;refine z_qM rfl rfl (Kw htab rfl rfl rfl rfl rfl) rfl rfl rfl rfl rfl rfl ?_;refine zep ?_;refine zqp ?_
     refine z_e rfl rfl (Ex.wk (KG htab rfl rfl rfl rfl rfl rfl rfl (Ks q425) (Ky q425)) (Wk.of_eq (congrArg D.el (Kq x425)))) rfl rfl rfl rfl rfl rfl ?_;refine zep ?_;refine z_qM rfl rfl (Kw htab rfl rfl rfl rfl rfl) rfl rfl rfl rfl rfl rfl ?_;refine zqp ?_;refine z_q rfl rfl (Ka2 rfl rfl rfl) rfl rfl rfl rfl rfl rfl ?_;refine z_q rfl rfl (Kaj rfl rfl rfl) rfl rfl rfl rfl rfl rfl ?_;refine zqp ?_;refine KV (j:=72) (b':=false) rfl hs426 ?_;refine zep ?_;refine zqp ?_
     refine z_e rfl rfl (Ex.wk (KG htab rfl rfl rfl rfl rfl rfl rfl (Ks q427) (Ky q427)) (Wk.of_eq (congrArg D.el (Kq x427)))) rfl rfl rfl rfl rfl rfl ?_;refine zep ?_;refine z_eM rfl rfl (Kw htab rfl rfl rfl rfl rfl) rfl rfl rfl rfl rfl rfl ?_;refine zep ?_;refine zqp ?_;refine z_e rfl rfl (Ex.wk (KG htab rfl rfl rfl rfl rfl rfl rfl (Ks q428) (Ky q428)) (Wk.of_eq (congrArg D.el (Kq x428)))) rfl rfl rfl rfl rfl rfl ?_;refine zep ?_;refine z_eM rfl rfl (Kw htab rfl rfl rfl rfl rfl) rfl rfl rfl rfl rfl rfl ?_;refine zqp ?_
     refine Kby rfl rfl (KcN x427.gExps x428.gExps a2 x429 q429) rfl rfl Wl rfl rfl rfl rfl rfl rfl ?_;refine zqp ?_;refine z_q rfl rfl (Kaj rfl rfl rfl) rfl rfl rfl rfl rfl rfl ?_;refine zqp ?_;refine KV (j:=87) (b':=false) rfl hs430 ?_;refine zep ?_;refine zqp ?_;refine z_e rfl rfl (Ex.wk (KG htab rfl rfl rfl rfl rfl rfl rfl (Ks q431) (Ky q431)) (Wk.of_eq (congrArg D.el (Kq x431)))) rfl rfl rfl rfl rfl rfl ?_;refine zep ?_;refine z_eM rfl rfl (Kw htab rfl rfl rfl rfl rfl) rfl rfl rfl rfl rfl rfl ?_;refine zep ?_;refine zqp ?_
     refine z_e rfl rfl (Ex.wk (KG htab rfl rfl rfl rfl rfl rfl rfl (Ks q432) (Ky q432)) (Wk.of_eq (congrArg D.el (Kq x432)))) rfl rfl rfl rfl rfl rfl ?_;refine zep ?_;refine z_eM rfl rfl (Kw htab rfl rfl rfl rfl rfl) rfl rfl rfl rfl rfl rfl ?_;refine zqp ?_;refine Kby rfl rfl (hg0 x431.gKids x432.gKids a2 x433 q433) rfl rfl Wl rfl rfl rfl rfl rfl rfl ?_;refine zqp ?_;refine z_q rfl rfl (Kaj rfl rfl rfl) rfl rfl rfl rfl rfl rfl ?_;refine zqp ?_;refine KV (j:=102) (b':=false) rfl hs434 ?_;refine zep ?_;refine zqp ?_
     refine z_e rfl rfl (Ex.wk (KG htab rfl rfl rfl rfl rfl rfl rfl (Ks q435) (Ky q435)) (Wk.of_eq (congrArg D.el (Kq x435)))) rfl rfl rfl rfl rfl rfl ?_;refine zep ?_;refine z_eM rfl rfl (Kw htab rfl rfl rfl rfl rfl) rfl rfl rfl rfl rfl rfl ?_;refine zep ?_;refine zqp ?_;refine z_e rfl rfl (Ex.wk (KG htab rfl rfl rfl rfl rfl rfl rfl (Ks q436) (Ky q436)) (Wk.of_eq (congrArg D.el (Kq x436)))) rfl rfl rfl rfl rfl rfl ?_;refine zep ?_;refine z_eM rfl rfl (Kw htab rfl rfl rfl rfl rfl) rfl rfl rfl rfl rfl rfl ?_;refine zqp ?_;refine z_nil rfl rfl (fun e he=>by simp [isAl] at he) ?_;obtain ⟨x437,q437,hm⟩:=Kb hm
     refine K2 (hg0 x435.gElse x436.gElse a2 x437 q437) rfl rfl rfl rfl rfl Wl ?_;rintro _ rfl;refine pu ?_;refine KW rfl rfl rfl rfl rfl rfl ?_;refine KB ?_;have e413:=Kl hm;subst e413;refine ⟨rfl,?_⟩;exact wO (wP (wC (wC (wC (wC (wC wN))))))
    replace hm:=yes_f hs423 hm;obtain ⟨x438,q438,hm⟩:=Kb hm;obtain ⟨x439,q439,hm⟩:=Kb hm;obtain ⟨x440,q440,hm⟩:=Kb hm;refine bycB (!x440) (fun hs441=>?_) (fun hs441=>?_)
    ·replace hm:=yes_t hs441 hm;refine Kad 95 [] nlPr3_16 [0,2,3,5,7,8,12,14,15,17,19,20,25,27,28,30,32,33,54,56,57,58,59,61,62,63,65] Kc7 (by kernel_rfl) (by kernel_rfl) (by kernel_rfl) (by rfl) (by rfl) (by kernel_rfl) ?_;iterate 27 apply Exists.intro
     intro bs;refine zep ?_;refine zqp ?_;refine z_e rfl rfl (Ex.wk (KG htab rfl rfl rfl rfl rfl rfl rfl (Ks q414) (Ky q414)) (Wk.of_eq (congrArg D.el (Kq x414)))) rfl rfl rfl rfl rfl rfl ?_;refine zep ?_;refine z_qM rfl rfl (Kw htab rfl rfl rfl rfl rfl) rfl rfl rfl rfl rfl rfl ?_;refine zep ?_;refine zqp ?_;refine z_e rfl rfl (Ex.wk (KG htab rfl rfl rfl rfl rfl rfl rfl (Ks q415) (Ky q415)) (Wk.of_eq (congrArg D.el (Kq x415)))) rfl rfl rfl rfl rfl rfl ?_;refine zep ?_;refine z_qM rfl rfl (Kw htab rfl rfl rfl rfl rfl) rfl rfl rfl rfl rfl rfl ?_;refine zqp ?_;refine zqp ?_
     refine KV (j:=30) (b':=false) rfl hs416 ?_;refine zep ?_;refine zqp ?_;refine z_e rfl rfl (Ex.wk (KG htab rfl rfl rfl rfl rfl rfl rfl (Ks q417) (Ky q417)) (Wk.of_eq (congrArg D.el (Kq x417)))) rfl rfl rfl rfl rfl rfl ?_;refine zep ?_;refine z_qM rfl rfl (Kw htab rfl rfl rfl rfl rfl) rfl rfl rfl rfl rfl rfl ?_;refine zep ?_;refine zqp ?_;refine z_e rfl rfl (Ex.wk (KG htab rfl rfl rfl rfl rfl rfl rfl (Ks q418) (Ky q418)) (Wk.of_eq (congrArg D.el (Kq x418)))) rfl rfl rfl rfl rfl rfl ?_;refine zep ?_;refine z_qM rfl rfl (Kw htab rfl rfl rfl rfl rfl) rfl rfl rfl rfl rfl rfl ?_;refine zqp ?_
     refine z_q rfl rfl (Kaj rfl rfl rfl) rfl rfl rfl rfl rfl rfl ?_;refine zqp ?_;refine KV (j:=43) (b':=false) rfl hs419 ?_;refine zep ?_;refine zqp ?_;refine z_e rfl rfl (Ex.wk (KG htab rfl rfl rfl rfl rfl rfl rfl (Ks q420) (Ky q420)) (Wk.of_eq (congrArg D.el (Kq x420)))) rfl rfl rfl rfl rfl rfl ?_;refine zep ?_;refine z_qM rfl rfl (Kw htab rfl rfl rfl rfl rfl) rfl rfl rfl rfl rfl rfl ?_;refine zep ?_;refine zqp ?_;refine z_e rfl rfl (Ex.wk (KG htab rfl rfl rfl rfl rfl rfl rfl (Ks q421) (Ky q421)) (Wk.of_eq (congrArg D.el (Kq x421)))) rfl rfl rfl rfl rfl rfl ?_;refine zep ?_
     refine z_qM rfl rfl (Kw htab rfl rfl rfl rfl rfl) rfl rfl rfl rfl rfl rfl ?_;refine zqp ?_;refine z_q rfl rfl (Kaj rfl rfl rfl) rfl rfl rfl rfl rfl rfl ?_;refine zqp ?_;refine KV (j:=56) (b':=false) rfl hs422 ?_;refine zqp ?_;refine zqp ?_;refine KV (j:=58) (b':=false) rfl hs423 ?_;iterate 11 refine zK ?_
     refine z_q rfl rfl (Kaj rfl rfl rfl) rfl rfl rfl rfl rfl rfl ?_;refine z_q rfl rfl (Kaj rfl rfl rfl) rfl rfl rfl rfl rfl rfl ?_;refine zqp ?_;refine zep ?_;refine zqp ?_;refine z_e rfl rfl (Ex.wk (KG htab rfl rfl rfl rfl rfl rfl rfl (Ks q438) (Ky q438)) (Wk.of_eq (congrArg D.el (Kq x438)))) rfl rfl rfl rfl rfl rfl ?_;refine zep ?_;refine z_eM rfl rfl (Kw htab rfl rfl rfl rfl rfl) rfl rfl rfl rfl rfl rfl ?_;refine zep ?_;refine zqp ?_;refine z_e rfl rfl (Ex.wk (KG htab rfl rfl rfl rfl rfl rfl rfl (Ks q439) (Ky q439)) (Wk.of_eq (congrArg D.el (Kq x439)))) rfl rfl rfl rfl rfl rfl ?_;refine zep ?_
     refine z_eM rfl rfl (Kw htab rfl rfl rfl rfl rfl) rfl rfl rfl rfl rfl rfl ?_;refine zqp ?_;refine Kby rfl rfl (KcN x438.gExps x439.gExps a2 x440 q440) rfl rfl Wl rfl rfl rfl rfl rfl rfl ?_;refine zqp ?_;refine z_q rfl rfl (Kaj rfl rfl rfl) rfl rfl rfl rfl rfl rfl ?_;refine zqp ?_;refine KV (j:=87) (b':=true) rfl hs441 ?_;iterate 13 refine zK ?_
     refine z_q rfl rfl (Ka2 rfl rfl rfl) rfl rfl rfl rfl rfl rfl ?_;refine zqp ?_;iterate 11 refine zK ?_
     refine z_nil rfl rfl (fun e he=>by simp [isAl] at he) ?_;refine pK ?_;refine pK ?_;refine KS rfl rfl rfl rfl rfl rfl ?_;refine KB ?_;have e413:=Kl hm;subst e413;refine ⟨rfl,?_⟩;exact wO (wP (wC (wC (wC (wC (wC wN))))))
    replace hm:=yes_f hs441 hm;obtain ⟨x442,q442,hm⟩:=Kb hm;obtain ⟨x443,q443,hm⟩:=Kb hm;obtain ⟨x444,q444,hm⟩:=Kb hm;refine bycB (!x444) (fun hs445=>?_) (fun hs445=>?_)
    ·replace hm:=yes_t hs445 hm;refine Kad 95 [] nlPr3_17 [0,2,3,5,7,8,12,14,15,17,19,20,25,27,28,30,32,33,54,56,57,58,59,61,62,63,65,69,71,72,73,74,76,77,78,80] Kc7 (by kernel_rfl) (by kernel_rfl) (by kernel_rfl) (by rfl) (by rfl) (by kernel_rfl) ?_;iterate 36 apply Exists.intro
     intro bs;refine zep ?_;refine zqp ?_;refine z_e rfl rfl (Ex.wk (KG htab rfl rfl rfl rfl rfl rfl rfl (Ks q414) (Ky q414)) (Wk.of_eq (congrArg D.el (Kq x414)))) rfl rfl rfl rfl rfl rfl ?_;refine zep ?_;refine z_qM rfl rfl (Kw htab rfl rfl rfl rfl rfl) rfl rfl rfl rfl rfl rfl ?_;refine zep ?_;refine zqp ?_;refine z_e rfl rfl (Ex.wk (KG htab rfl rfl rfl rfl rfl rfl rfl (Ks q415) (Ky q415)) (Wk.of_eq (congrArg D.el (Kq x415)))) rfl rfl rfl rfl rfl rfl ?_;refine zep ?_;refine z_qM rfl rfl (Kw htab rfl rfl rfl rfl rfl) rfl rfl rfl rfl rfl rfl ?_;refine zqp ?_;refine zqp ?_
     refine KV (j:=30) (b':=false) rfl hs416 ?_;refine zep ?_;refine zqp ?_;refine z_e rfl rfl (Ex.wk (KG htab rfl rfl rfl rfl rfl rfl rfl (Ks q417) (Ky q417)) (Wk.of_eq (congrArg D.el (Kq x417)))) rfl rfl rfl rfl rfl rfl ?_;refine zep ?_;refine z_qM rfl rfl (Kw htab rfl rfl rfl rfl rfl) rfl rfl rfl rfl rfl rfl ?_;refine zep ?_;refine zqp ?_;refine z_e rfl rfl (Ex.wk (KG htab rfl rfl rfl rfl rfl rfl rfl (Ks q418) (Ky q418)) (Wk.of_eq (congrArg D.el (Kq x418)))) rfl rfl rfl rfl rfl rfl ?_;refine zep ?_;refine z_qM rfl rfl (Kw htab rfl rfl rfl rfl rfl) rfl rfl rfl rfl rfl rfl ?_;refine zqp ?_
     refine z_q rfl rfl (Kaj rfl rfl rfl) rfl rfl rfl rfl rfl rfl ?_;refine zqp ?_;refine KV (j:=43) (b':=false) rfl hs419 ?_;refine zep ?_;refine zqp ?_;refine z_e rfl rfl (Ex.wk (KG htab rfl rfl rfl rfl rfl rfl rfl (Ks q420) (Ky q420)) (Wk.of_eq (congrArg D.el (Kq x420)))) rfl rfl rfl rfl rfl rfl ?_;refine zep ?_;refine z_qM rfl rfl (Kw htab rfl rfl rfl rfl rfl) rfl rfl rfl rfl rfl rfl ?_;refine zep ?_;refine zqp ?_;refine z_e rfl rfl (Ex.wk (KG htab rfl rfl rfl rfl rfl rfl rfl (Ks q421) (Ky q421)) (Wk.of_eq (congrArg D.el (Kq x421)))) rfl rfl rfl rfl rfl rfl ?_;refine zep ?_
     refine z_qM rfl rfl (Kw htab rfl rfl rfl rfl rfl) rfl rfl rfl rfl rfl rfl ?_;refine zqp ?_;refine z_q rfl rfl (Kaj rfl rfl rfl) rfl rfl rfl rfl rfl rfl ?_;refine zqp ?_;refine KV (j:=56) (b':=false) rfl hs422 ?_;refine zqp ?_;refine zqp ?_;refine KV (j:=58) (b':=false) rfl hs423 ?_;iterate 11 refine zK ?_
     refine z_q rfl rfl (Kaj rfl rfl rfl) rfl rfl rfl rfl rfl rfl ?_;refine z_q rfl rfl (Kaj rfl rfl rfl) rfl rfl rfl rfl rfl rfl ?_;refine zqp ?_;refine zep ?_;refine zqp ?_;refine z_e rfl rfl (Ex.wk (KG htab rfl rfl rfl rfl rfl rfl rfl (Ks q438) (Ky q438)) (Wk.of_eq (congrArg D.el (Kq x438)))) rfl rfl rfl rfl rfl rfl ?_;refine zep ?_;refine z_eM rfl rfl (Kw htab rfl rfl rfl rfl rfl) rfl rfl rfl rfl rfl rfl ?_;refine zep ?_;refine zqp ?_;refine z_e rfl rfl (Ex.wk (KG htab rfl rfl rfl rfl rfl rfl rfl (Ks q439) (Ky q439)) (Wk.of_eq (congrArg D.el (Kq x439)))) rfl rfl rfl rfl rfl rfl ?_;refine zep ?_
     refine z_eM rfl rfl (Kw htab rfl rfl rfl rfl rfl) rfl rfl rfl rfl rfl rfl ?_;refine zqp ?_;refine Kby rfl rfl (KcN x438.gExps x439.gExps a2 x440 q440) rfl rfl Wl rfl rfl rfl rfl rfl rfl ?_;refine zqp ?_;refine z_q rfl rfl (Kaj rfl rfl rfl) rfl rfl rfl rfl rfl rfl ?_;refine zqp ?_;refine KV (j:=87) (b':=false) rfl hs441 ?_;refine zep ?_;refine zqp ?_;refine z_e rfl rfl (Ex.wk (KG htab rfl rfl rfl rfl rfl rfl rfl (Ks q442) (Ky q442)) (Wk.of_eq (congrArg D.el (Kq x442)))) rfl rfl rfl rfl rfl rfl ?_;refine zep ?_;refine z_eM rfl rfl (Kw htab rfl rfl rfl rfl rfl) rfl rfl rfl rfl rfl rfl ?_;refine zep ?_;refine zqp ?_
     refine z_e rfl rfl (Ex.wk (KG htab rfl rfl rfl rfl rfl rfl rfl (Ks q443) (Ky q443)) (Wk.of_eq (congrArg D.el (Kq x443)))) rfl rfl rfl rfl rfl rfl ?_;refine zep ?_;refine z_eM rfl rfl (Kw htab rfl rfl rfl rfl rfl) rfl rfl rfl rfl rfl rfl ?_;refine zqp ?_;refine Kby rfl rfl (hg0 x442.gKids x443.gKids a2 x444 q444) rfl rfl Wl rfl rfl rfl rfl rfl rfl ?_;refine zqp ?_;refine z_q rfl rfl (Kaj rfl rfl rfl) rfl rfl rfl rfl rfl rfl ?_;refine zqp ?_;refine KV (j:=102) (b':=true) rfl hs445 ?_;iterate 11 refine zK ?_
     refine z_nil rfl rfl (fun e he=>by simp [isAl] at he) ?_;refine pK ?_;refine pK ?_;refine KS rfl rfl rfl rfl rfl rfl ?_;refine KB ?_;have e413:=Kl hm;subst e413;refine ⟨rfl,?_⟩;exact wO (wP (wC (wC (wC (wC (wC wN))))))
    replace hm:=yes_f hs445 hm;obtain ⟨x446,q446,hm⟩:=Kb hm;obtain ⟨x447,q447,hm⟩:=Kb hm;refine Kad 95 [] nlPr3_18 [0,2,3,5,7,8,12,14,15,17,19,20,25,27,28,30,32,33,54,56,57,58,59,61,62,63,65,69,71,72,73,74,76,77,78,80,84,86,87,88,89,91,92,93] Kc7 (by kernel_rfl) (by kernel_rfl) (by kernel_rfl) (by rfl) (by rfl) (by kernel_rfl) ?_;iterate 44 apply Exists.intro
    intro bs;refine zep ?_;refine zqp ?_;refine z_e rfl rfl (Ex.wk (KG htab rfl rfl rfl rfl rfl rfl rfl (Ks q414) (Ky q414)) (Wk.of_eq (congrArg D.el (Kq x414)))) rfl rfl rfl rfl rfl rfl ?_;refine zep ?_;refine z_qM rfl rfl (Kw htab rfl rfl rfl rfl rfl) rfl rfl rfl rfl rfl rfl ?_;refine zep ?_;refine zqp ?_;refine z_e rfl rfl (Ex.wk (KG htab rfl rfl rfl rfl rfl rfl rfl (Ks q415) (Ky q415)) (Wk.of_eq (congrArg D.el (Kq x415)))) rfl rfl rfl rfl rfl rfl ?_;refine zep ?_;refine z_qM rfl rfl (Kw htab rfl rfl rfl rfl rfl) rfl rfl rfl rfl rfl rfl ?_;refine zqp ?_;refine zqp ?_;refine KV (j:=30) (b':=false) rfl hs416 ?_
    refine zep ?_;refine zqp ?_;refine z_e rfl rfl (Ex.wk (KG htab rfl rfl rfl rfl rfl rfl rfl (Ks q417) (Ky q417)) (Wk.of_eq (congrArg D.el (Kq x417)))) rfl rfl rfl rfl rfl rfl ?_;refine zep ?_;refine z_qM rfl rfl (Kw htab rfl rfl rfl rfl rfl) rfl rfl rfl rfl rfl rfl ?_;refine zep ?_;refine zqp ?_;refine z_e rfl rfl (Ex.wk (KG htab rfl rfl rfl rfl rfl rfl rfl (Ks q418) (Ky q418)) (Wk.of_eq (congrArg D.el (Kq x418)))) rfl rfl rfl rfl rfl rfl ?_;refine zep ?_;refine z_qM rfl rfl (Kw htab rfl rfl rfl rfl rfl) rfl rfl rfl rfl rfl rfl ?_;refine zqp ?_;refine z_q rfl rfl (Kaj rfl rfl rfl) rfl rfl rfl rfl rfl rfl ?_
    refine zqp ?_;refine KV (j:=43) (b':=false) rfl hs419 ?_;refine zep ?_;refine zqp ?_;refine z_e rfl rfl (Ex.wk (KG htab rfl rfl rfl rfl rfl rfl rfl (Ks q420) (Ky q420)) (Wk.of_eq (congrArg D.el (Kq x420)))) rfl rfl rfl rfl rfl rfl ?_;refine zep ?_;refine z_qM rfl rfl (Kw htab rfl rfl rfl rfl rfl) rfl rfl rfl rfl rfl rfl ?_;refine zep ?_;refine zqp ?_;refine z_e rfl rfl (Ex.wk (KG htab rfl rfl rfl rfl rfl rfl rfl (Ks q421) (Ky q421)) (Wk.of_eq (congrArg D.el (Kq x421)))) rfl rfl rfl rfl rfl rfl ?_;refine zep ?_;refine z_qM rfl rfl (Kw htab rfl rfl rfl rfl rfl) rfl rfl rfl rfl rfl rfl ?_;refine zqp ?_
    refine z_q rfl rfl (Kaj rfl rfl rfl) rfl rfl rfl rfl rfl rfl ?_;refine zqp ?_;refine KV (j:=56) (b':=false) rfl hs422 ?_;refine zqp ?_;refine zqp ?_;refine KV (j:=58) (b':=false) rfl hs423 ?_;iterate 11 refine zK ?_
    refine z_q rfl rfl (Kaj rfl rfl rfl) rfl rfl rfl rfl rfl rfl ?_;refine z_q rfl rfl (Kaj rfl rfl rfl) rfl rfl rfl rfl rfl rfl ?_;refine zqp ?_;refine zep ?_;refine zqp ?_;refine z_e rfl rfl (Ex.wk (KG htab rfl rfl rfl rfl rfl rfl rfl (Ks q438) (Ky q438)) (Wk.of_eq (congrArg D.el (Kq x438)))) rfl rfl rfl rfl rfl rfl ?_;refine zep ?_;refine z_eM rfl rfl (Kw htab rfl rfl rfl rfl rfl) rfl rfl rfl rfl rfl rfl ?_;refine zep ?_;refine zqp ?_;refine z_e rfl rfl (Ex.wk (KG htab rfl rfl rfl rfl rfl rfl rfl (Ks q439) (Ky q439)) (Wk.of_eq (congrArg D.el (Kq x439)))) rfl rfl rfl rfl rfl rfl ?_;refine zep ?_
    refine z_eM rfl rfl (Kw htab rfl rfl rfl rfl rfl) rfl rfl rfl rfl rfl rfl ?_;refine zqp ?_;refine Kby rfl rfl (KcN x438.gExps x439.gExps a2 x440 q440) rfl rfl Wl rfl rfl rfl rfl rfl rfl ?_;refine zqp ?_;refine z_q rfl rfl (Kaj rfl rfl rfl) rfl rfl rfl rfl rfl rfl ?_;refine zqp ?_;refine KV (j:=87) (b':=false) rfl hs441 ?_;refine zep ?_;refine zqp ?_;refine z_e rfl rfl (Ex.wk (KG htab rfl rfl rfl rfl rfl rfl rfl (Ks q442) (Ky q442)) (Wk.of_eq (congrArg D.el (Kq x442)))) rfl rfl rfl rfl rfl rfl ?_;refine zep ?_;refine z_eM rfl rfl (Kw htab rfl rfl rfl rfl rfl) rfl rfl rfl rfl rfl rfl ?_;refine zep ?_;refine zqp ?_
    refine z_e rfl rfl (Ex.wk (KG htab rfl rfl rfl rfl rfl rfl rfl (Ks q443) (Ky q443)) (Wk.of_eq (congrArg D.el (Kq x443)))) rfl rfl rfl rfl rfl rfl ?_;refine zep ?_;refine z_eM rfl rfl (Kw htab rfl rfl rfl rfl rfl) rfl rfl rfl rfl rfl rfl ?_;refine zqp ?_;refine Kby rfl rfl (hg0 x442.gKids x443.gKids a2 x444 q444) rfl rfl Wl rfl rfl rfl rfl rfl rfl ?_;refine zqp ?_;refine z_q rfl rfl (Kaj rfl rfl rfl) rfl rfl rfl rfl rfl rfl ?_;refine zqp ?_;refine KV (j:=102) (b':=false) rfl hs445 ?_;refine zep ?_;refine zqp ?_
    refine z_e rfl rfl (Ex.wk (KG htab rfl rfl rfl rfl rfl rfl rfl (Ks q446) (Ky q446)) (Wk.of_eq (congrArg D.el (Kq x446)))) rfl rfl rfl rfl rfl rfl ?_;refine zep ?_;refine z_eM rfl rfl (Kw htab rfl rfl rfl rfl rfl) rfl rfl rfl rfl rfl rfl ?_;refine zep ?_;refine zqp ?_;refine z_e rfl rfl (Ex.wk (KG htab rfl rfl rfl rfl rfl rfl rfl (Ks q447) (Ky q447)) (Wk.of_eq (congrArg D.el (Kq x447)))) rfl rfl rfl rfl rfl rfl ?_;refine zep ?_;refine z_eM rfl rfl (Kw htab rfl rfl rfl rfl rfl) rfl rfl rfl rfl rfl rfl ?_;refine zqp ?_;refine z_nil rfl rfl (fun e he=>by simp [isAl] at he) ?_;obtain ⟨x448,q448,hm⟩:=Kb hm
    refine K2 (hg0 x446.gElse x447.gElse a2 x448 q448) rfl rfl rfl rfl rfl Wl ?_;rintro _ rfl;refine pu ?_;refine KW rfl rfl rfl rfl rfl rfl ?_;refine KB ?_;have e413:=Kl hm;subst e413;refine ⟨rfl,?_⟩;exact wO (wP (wC (wC (wC (wC (wC wN))))))
   intro s413 hw413;clear hm;have hm:=ho413;clear q413 ho413;refine Kk ?_;refine K5 hw413 (fun z413=>?_);refine cY hm (fun hm=>?_) fun hm=>?_
   ·refine Kg ?_;refine pu ?_;refine Ke ?_;refine Kt ?_;refine KH ?_;refine Kx ?_;have e228:=KaA hm;subst e228;clear hm;have hm:=hq228
    refine Kx ?_;refine KH ?_;have e227:=Kl hm;subst e227;refine Kcl ?_;clear hm;have hm:=ho227;simp only [Sum.elim_inr] at hm
    refine Kx ?_;have er450:=Kl hm;subst er450;refine rP (t':=[(6,.v (.bool false))]) [] [] 0 (wC wN) (lT lN) ?_;exact ⟨rfl,rfl,rfl⟩
   refine Kz ?_;refine KK ?_;refine Kk ?_;refine KE ?_;iterate 3 refine pu ?_
   refine KB ?_;refine Kk ⟨_,Kba hm,?_⟩;exact wO (wP (wC (wC (wC (wC wN)))))
  refine KaM ?_;refine KQ ?_;have e228:=KaA hm;subst e228;clear hm;have hm:=hq228
  refine KQ ?_;refine Kay ?_;have e227:=Kl hm;subst e227;refine Kck ?_;exact wO (wP wN)
 intro y227 s227 hx227 hw227;subst hx227;clear hm;have hm:=ho227;simp only [Sum.elim_inl] at hm;clear q227 ho227;refine Kk ?_;refine K5 hw227 (fun z227=>?_);refine Kg ?_;refine pu ?_;refine Ke ?_;refine Kt ?_;have er451:=Kl hm;subst er451;refine rP (t':=[(6,.v (.bool true))]) [] [] 0 (wC wN) (lT lN) ?_;exact ⟨rfl,rfl,rfl⟩
def Kbb:Nat→((List Ki)→(List Ki)→(Bool)→Option (Bool))
 | 0=>(fun _ _ _=>none)
 | n+1=>(Kb5 ((Kbb n)))
theorem Ke1:∀ n,(∀ (a0:List Ki) (a1:List Ki) (a2:Bool) (r:Bool) (h0:(Kbb n) a0 a1 a2=some r),CallsD Tryz.prog 21 [.lst 7 (a0.map Kp) .no,.lst 7 (a1.map Kp) .no,.v (.bool a2)] [] [] (fun d h k=>d=.v (.bool r)∧h=[]∧k=[]))
 | 0=>fun _ _ _ _ h0=>by cases h0
 |
  n+1=>by
  have ih:=Ke1 n;exact Khf (Kbb n) ih
theorem Ke2:∀ n,(∀ (a0:List Ki) (a1:List Ki) (a2:Bool),Le ((Kbb n) a0 a1 a2) ((Kbb (n+1)) a0 a1 a2))
 | 0=>fun _ _ _=>Le.none _
 |
  n+1=>by
  have ih:=Ke2 n;exact fun a0 a1 a2=>by show Le (Kb5 ((Kbb n)) a0 a1 a2) (Kb5 ((Kbb (n+1))) a0 a1 a2);revert ih;generalize Kbb n=G0;generalize Kbb (n+1)=G1;intro ih;unfold Kb5;repeat (first|with_reducible exact Le.refl _|with_reducible exact ih _ _ _|with_reducible assumption|(refine Le.bind ?_ (fun _=>?_))|(refine Le.cond ?_ ?_)|(refine Le.loop (fun _=>?_))|(refine Le.elim (fun _=>?_) (fun _=>?_)))
def Kef (a0:List Ki)(a1:List Ki)(a2:Bool):Option (Bool):=anyN fun n=>(Kbb n) a0 a1 a2
theorem KhJ (a0:List Ki)(a1:List Ki)(a2:Bool){r:Bool}(n:Nat)(h:(Kbb n) a0 a1 a2=some r):Kef a0 a1 a2=some r:=Kdh (fun m=>(Ke2 m) a0 a1 a2) h
theorem KhK (a0:List Ki)(a1:List Ki)(a2:Bool)(r:Bool)(h0:Kef a0 a1 a2=some r):CallsD Tryz.prog 21 [.lst 7 (a0.map Kp) .no,.lst 7 (a1.map Kp) .no,.v (.bool a2)] [] [] (fun d h k=>d=.v (.bool r)∧h=[]∧k=[]):=
 let ⟨n,hn⟩:=Kcz h0;(Ke1 n) a0 a1 a2 r hn
def KcW (a0:K1)(a1:K1)(a2:Bool):Option (Bool):=
 (bif (decide (a0.gName=a1.gName)) then ((Kd7 a0.gParams a1.gParams).bind fun x4=>(bif x4 then ((Kd7 a0.gLocals a1.gLocals).bind fun x6=>(bif x6 then ((Kef a0.gBody a1.gBody a2).bind fun x8=>(bif x8 then (bif (!a2) then some true else some (a0.gAt==a1.gAt)) else some false)) else some false)) else some false)) else some false)
theorem KhA (a0:K1)(a1:K1)(a2:Bool)(r:Bool)(h0:KcW a0 a1 a2=some r):CallsD Tryz.prog 6 [KgC a0,KgC a1,.v (.bool a2)] [] [] (fun d h k=>d=.v (.bool r)∧h=[]∧k=[]):=by
 have hm:=KD h0;unfold KcW at hm;clear h0;refine KT htab Tryz.func6 rfl rfl rfl rfl rfl (fun C=>?_);refine Kg ?_;refine p_box rfl rfl rfl rfl rfl rfl rfl (fun b1=>?_);refine p_box rfl rfl rfl rfl rfl rfl rfl (fun b2=>?_);refine pu ?_;refine KF ?_;refine pu ?_;refine pL 0 ?_;refine pu ?_;refine pL 1 ?_;refine pu ?_;refine pu ?_;refine Kak (i:=12) rfl (fun hg3=>?_) (fun hg3=>?_)
 ·replace hm:=yes_t hg3 hm;refine pu ?_;refine pL 0 ?_;refine pu ?_;refine pL 1 ?_;obtain ⟨x4,q4,hm⟩:=Kb hm;refine K2 (KgW a0.gParams a1.gParams x4 q4) rfl rfl rfl rfl rfl Wl ?_;rintro _ rfl;refine KS rfl rfl rfl rfl rfl rfl ?_;refine pu ?_;refine Kak (i:=19) rfl (fun hg5=>?_) (fun hg5=>?_)
  ·replace hm:=yes_t hg5 hm;refine pu ?_;refine pL 0 ?_;refine pu ?_;refine pL 1 ?_;obtain ⟨x6,q6,hm⟩:=Kb hm;refine K2 (KgW a0.gLocals a1.gLocals x6 q6) rfl rfl rfl rfl rfl Wl ?_;rintro _ rfl;refine KS rfl rfl rfl rfl rfl rfl ?_;refine pu ?_;refine Kak (i:=26) rfl (fun hg7=>?_) (fun hg7=>?_)
   ·replace hm:=yes_t hg7 hm;refine pu ?_;refine pL 0 ?_;refine pu ?_;refine pL 1 ?_;refine pu ?_;obtain ⟨x8,q8,hm⟩:=Kb hm;refine K2 (KhK a0.gBody a1.gBody a2 x8 q8) rfl rfl rfl rfl rfl Wl ?_;rintro _ rfl;refine KS rfl rfl rfl rfl rfl rfl ?_;refine pu ?_;refine Kak (i:=34) rfl (fun hg9=>?_) (fun hg9=>?_)
    ·replace hm:=yes_t hg9 hm;iterate 3 refine pu ?_
     refine Kak (i:=37) rfl (fun hg10=>?_) (fun hg10=>?_)
     ·replace hm:=yes_t hg10 hm;iterate 5 refine pK ?_
      refine KS rfl rfl rfl rfl rfl rfl ?_;refine KS rfl rfl rfl rfl rfl rfl ?_;refine pu ?_;refine Ke ?_;refine Kt ?_;have er11:=Kl hm;subst er11;refine rP (t':=[(6,.v (.bool true))]) [] [] 0 (wC wN) (lT lN) ?_;exact ⟨rfl,rfl,rfl⟩
     replace hm:=yes_f hg10 hm;refine pu ?_;refine pL 0 ?_;refine pu ?_;refine pL 1 ?_;refine pu ?_;refine KW rfl rfl rfl rfl rfl rfl ?_;refine KS rfl rfl rfl rfl rfl rfl ?_;refine pu ?_;refine Ke ?_;refine Kt ?_;have er12:=Kl hm;subst er12;refine rP (t':=[(6,.v (.bool (a0.gAt==a1.gAt)))]) [] [] 0 (wC wN) (lT lN) ?_;exact ⟨rfl,rfl,rfl⟩
    replace hm:=yes_f hg9 hm;iterate 9 refine pK ?_
    refine KW rfl rfl rfl rfl rfl rfl ?_;refine pu ?_;refine Ke ?_;refine Kt ?_;have er13:=Kl hm;subst er13;refine rP (t':=[(6,.v (.bool false))]) [] [] 0 (wC wN) (lT lN) ?_;exact ⟨rfl,rfl,rfl⟩
   replace hm:=yes_f hg7 hm;iterate 6 refine pK ?_
   refine KW rfl rfl rfl rfl rfl rfl ?_;refine pu ?_;iterate 9 refine pK ?_
   refine KW rfl rfl rfl rfl rfl rfl ?_;refine pu ?_;refine Ke ?_;refine Kt ?_;have er14:=Kl hm;subst er14;refine rP (t':=[(6,.v (.bool false))]) [] [] 0 (wC wN) (lT lN) ?_;exact ⟨rfl,rfl,rfl⟩
  replace hm:=yes_f hg5 hm;iterate 5 refine pK ?_
  refine KW rfl rfl rfl rfl rfl rfl ?_;refine pu ?_;iterate 6 refine pK ?_
  refine KW rfl rfl rfl rfl rfl rfl ?_;refine pu ?_;iterate 9 refine pK ?_
  refine KW rfl rfl rfl rfl rfl rfl ?_;refine pu ?_;refine Ke ?_;refine Kt ?_;have er15:=Kl hm;subst er15;refine rP (t':=[(6,.v (.bool false))]) [] [] 0 (wC wN) (lT lN) ?_;exact ⟨rfl,rfl,rfl⟩
 replace hm:=yes_f hg3 hm;iterate 5 refine pK ?_
 refine KW rfl rfl rfl rfl rfl rfl ?_;refine pu ?_;iterate 5 refine pK ?_
 refine KW rfl rfl rfl rfl rfl rfl ?_;refine pu ?_;iterate 6 refine pK ?_
 refine KW rfl rfl rfl rfl rfl rfl ?_;refine pu ?_;iterate 9 refine pK ?_
 refine KW rfl rfl rfl rfl rfl rfl ?_;refine pu ?_;refine Ke ?_;refine Kt ?_;have er16:=Kl hm;subst er16;refine rP (t':=[(6,.v (.bool false))]) [] [] 0 (wC wN) (lT lN) ?_;exact ⟨rfl,rfl,rfl⟩
def Kd9 (a0:Kc)(a1:Kc):Option (Bool):=
 ((Kd8 ([a0]:List Kc) ([a1]:List Kc) false).bind fun x3=>some x3)
theorem Kis (a0:Kc)(a1:Kc)(r:Bool)(h0:Kd9 a0 a1=some r):CallsD Tryz.prog 11 [Kh a0,Kh a1] [] [] (fun d h k=>d=.v (.bool r)∧h=[]∧k=[]):=by
 have hm:=KD h0;unfold Kd9 at hm;clear h0;refine KT htab Tryz.func11 rfl rfl rfl rfl rfl (fun C=>?_);refine w_eq (i:=0) rfl (Wk.of_eq (Ko a0)) ?_;refine w_eq (i:=1) rfl (Wk.of_eq (Ko a1)) ?_;refine Kg ?_;refine p_box rfl rfl rfl rfl rfl rfl rfl (fun b1=>?_);refine p_box rfl rfl rfl rfl rfl rfl rfl (fun b2=>?_);refine pu ?_;refine KF ?_;refine Kai (d:=.agg [.v (.int .i64 a0.gOp),.v (.int .i64 a0.gN),.v (.string a0.gName),.lst 5 (a0.gKids.map Kh) .no,.v (.int .i64 a0.gAt)]) 0 htab rfl rfl rfl rfl rfl rfl rfl rfl ?_;refine p_lit htab rfl rfl rfl rfl rfl rfl rfl rfl rfl rfl rfl rfl rfl rfl ?_
 refine p_eq (i:=6) (d':=.lst 5 (([a0]:List Kc).map Kh) .full) rfl (Wk.lst0 (.cons (WkC.trans (WkC.agg (WkR.refl _)) (WkC.of_eq (Ko a0).symm)) (.nil))) ?_;refine Kai (d:=.agg [.v (.int .i64 a1.gOp),.v (.int .i64 a1.gN),.v (.string a1.gName),.lst 5 (a1.gKids.map Kh) .no,.v (.int .i64 a1.gAt)]) 1 htab rfl rfl rfl rfl rfl rfl rfl rfl ?_;refine p_lit htab rfl rfl rfl rfl rfl rfl rfl rfl rfl rfl rfl rfl rfl rfl ?_;refine p_eq (i:=8) (d':=.lst 5 (([a1]:List Kc).map Kh) .full) rfl (Wk.lst0 (.cons (WkC.trans (WkC.agg (WkR.refl _)) (WkC.of_eq (Ko a1).symm)) (.nil))) ?_;obtain ⟨x3,q3,hm⟩:=Kb hm
 refine K2 (KcN ([a0]:List Kc) ([a1]:List Kc) false x3 q3) rfl rfl rfl rfl rfl (WkL.cons (Wk.no) (WkL.cons (Wk.no) (WkL.cons (Wk.refl _) Wl))) ?_;rintro _ rfl;refine pu ?_;refine Ke ?_;refine Kt ?_;have er4:=Kl hm;subst er4;refine rP (t':=[(4,.v (.bool x3))]) [] [] 0 (wC wN) (lT lN) ?_;exact ⟨rfl,rfl,rfl⟩
end
section
open Go
set_option linter.all false
def Ke3 (tab:List (Option TI))(ts:List Nat):Nat→List (Nat×Nat)→Option Nat
 | off,[]=>some off
 |
  off,(ty,o)::fs=>match ti tab ty with
  | some i=>bif Nat.beq o off && ts.contains ty then Ke3 tab ts (off+i.size) fs else none
  | none=>none
def typeOK (tab:List (Option TI))(ts:List Nat)(t:Nat):Bool:=
 match ti tab t with
 |
  some i=>match i.d with
  | .bool=>Nat.beq i.size 1
  | .int _=>Nat.beq i.size 1
  | .str=>Nat.beq i.size 1
  | .slice e=>ts.contains e && Nat.beq i.size 1 && (match ti tab e with|some ie=>Nat.ble 1 ie.size|none=>false)
  |
   .struct fs=>match Ke3 tab ts 0 fs with
   | some n=>Nat.beq n i.size
   | none=>false
  | .array n e=>ts.contains e && (match ti tab e with|some ie=>Nat.beq i.size (n*ie.size)|none=>false)
  | _=>false
 | none=>false
def closedT (tab:List (Option TI))(ts:List Nat):Bool:=ts.all (typeOK tab ts)
def GoodT (tab:List (Option TI)):Nat→Nat→D→Prop
 | 0,_,_=>False
 |
  n+1,t,d=>∃ i,ti tab t=some i∧match i.d with
  | .bool=>∃ b,d=.v (.bool b)
  | .int k=>∃ m,d=.v (.int k m)∧(Lit.int k m).wf=true
  | .str=>∃ s:ByteArray,d=.v (.string s)∧s.size≤maxLen
  | .slice e=>∃ ie xs,ti tab e=some ie∧d=.lst ie.size xs .no∧xs.length≤maxLen∧∀ x∈xs,GoodT tab n e x
  | .struct fs=>∃ ds:List D,d=.agg (ds.flatMap KR)∧ds.length=fs.length∧∀ (j:Nat) (f:Nat×Nat) (d0:D),fs[j]? = some f→ds[j]? = some d0→GoodT tab n f.1 d0
  | .array m e=>∃ ds:List D,d=.agg (ds.flatMap KR)∧ds.length=m∧∀ x∈ds,GoodT tab n e x
  | _=>False
section
variable {H : Type} {enc : TypeId × Value → H} {P : Program} {w : World} {base : Nat} {spare : Nat → Bool} {held : Bool} {tab : List (Option TI)} {ts : List Nat}
theorem KdY (hT:TabOK P tab){t:TypeId}{i:TI}(h:ti tab t=some i):P.cellsOf t=i.size:=by
 obtain ⟨tf,z,dd,h1,_,_,h2,_⟩:=Kdt (ti_ok hT h);simp [Program.cellsOf,h1,h2]
def allOf (w:World):Hp:=fun a=>w.cell? a
theorem ag_all (w:World)(g:GG (allOf w) w):Ag (allOf w) w:=⟨fun _ _ h=>h,g⟩
def Rd (tab:List (Option TI))(w:World)(n t:Nat)(cs:List Value)(d:D):Prop:=
 ∃ i,ti tab t=some i∧RepC (allOf w) d cs∧Reps (allOf w) (KR d) cs∧cs.length=i.size∧(KR d).length=i.size∧GoodT tab n t d
theorem Kh5 (hT:TabOK P tab){n:Nat}{cs:List Value}(ih:∀ t cs x,ts.contains t=true→DataW.trod enc P w base spare held n t cs=some x→∃ d,Rd tab w n t cs d) :
  ∀
   (gs:List Field) (off total:Nat),Ke3 tab ts off (gs.map fun f=>(f.type,f.offset))=some total→total≤cs.length→(∀ f∈gs,∃ y,DataW.trod enc P w base spare held n f.type ((cs.drop f.offset).take (P.cellsOf f.type))=some y) →
   off≤total∧∃ ds:List D,ds.length=gs.length∧Reps (allOf w) (ds.flatMap KR) ((cs.drop off).take (total - off))∧(ds.flatMap KR).length=total - off∧∀ (j:Nat) (f:Nat×Nat) (d0:D),(gs.map fun f=>(f.type,f.offset))[j]? = some f→ds[j]? = some d0→GoodT tab n f.1 d0
 |
  [],off,total,h,_,_=>by
  simp [Ke3] at h;subst h;exact ⟨Nat.le_refl _,[],rfl,by simp [Reps],by simp,fun j f d0 e=>by simp at e⟩
 |
  g::gs,off,total,h,hl,hy=>by
  simp only [List.map_cons,Ke3] at h;split at h
  ·rename_i i hi;cases hb:(Nat.beq g.offset off && ts.contains g.type) with
   | false=>rw [hb] at h;cases h
   |
    true=>
    rw [hb] at h;simp only [cond_true] at h;simp only [Bool.and_eq_true] at hb;have ho:=Nat.eq_of_beq_eq_true hb.1;obtain ⟨y,hy0⟩:=hy g (by simp);obtain ⟨d,i',hi',h1,h2,h3,h4,h5⟩:=ih _ _ y hb.2 hy0;rw [hi] at hi';cases hi';obtain ⟨hle,ds,e1,e2,e3,e4⟩:=Kh5 hT ih gs (off+i.size) total h hl fun f hf=>hy f (by simp [hf])
    rw [KdY hT hi,ho] at h2;refine ⟨by omega,d::ds,by simp [e1],?_,by simp [h4,e3];omega,?_⟩
    ·simp only [List.flatMap_cons];have:=Kdk h2 e2;have e:(cs.drop off).take i.size++(cs.drop (off+i.size)).take (total - (off+i.size))=(cs.drop off).take (total - off):=by
      rw [show total - off=i.size+(total - (off+i.size)) by omega,List.take_add,List.drop_drop]
     rwa [e] at this
    intro j f d0 hf hd;cases j with
    | zero=>simp at hf hd;subst hf;subst hd;exact h5
    | succ j=>exact e4 j f d0 (by simpa using hf) (by simpa using hd)
  cases h
theorem rd_elems {n e sz b off:Nat}{ie:TI}(hie:ti tab e=some ie)(hsz:ie.size=sz)(he:ts.contains e=true)(ih:∀ t cs x,ts.contains t=true→DataW.trod enc P w base spare held n t cs=some x→∃ d,Rd tab w n t cs d) :
  ∀
   (m i0:Nat),(∀ i,i0≤i→i < i0+m→∃ cs y,w.cells? base ((⟨b,off,none⟩:Addr).add (i*sz)) sz=some cs∧DataW.trod enc P w base spare held n e cs=some y) →
   ∃ xs:List D,xs.length=m∧Els (allOf w) sz b (off+i0*sz) xs∧∀ x∈xs,GoodT tab n e x
 | 0,i0,_=>⟨[],rfl,by simp [Els],by simp⟩
 |
  m+1,i0,h=>by
  obtain ⟨cs,y,h1,h2⟩:=h i0 (Nat.le_refl _) (by omega);obtain ⟨d,i',hi',g1,g2,g3,g4,g5⟩:=ih e cs y he h2;rw [hie] at hi';cases hi';obtain ⟨xs,f1,f2,f3⟩:=rd_elems hie hsz he ih m (i0+1) fun i hi hi'=>h i (by omega) (by omega)
  refine ⟨d::xs,by simp [f1],?_,?_⟩
  ·simp only [Els];refine ⟨⟨cs,by rw [g3,hsz],g1,fun j u hj=>?_,Kds g2⟩,?_⟩
   ·obtain ⟨_,hlen,hc⟩:=World.cells?_some h1;have hjl:j < sz:=by rw [← hlen];exact (List.getElem?_eq_some_iff.1 hj).1
    have:=hc j hjl;rw [Kcw,Kcw] at this;show w.cell? _=_
    rw [this];exact hj
   rw [show off+i0*sz+sz=off+(i0+1)*sz by rw [Nat.add_mul];omega];exact f2
  intro x hx;rcases List.mem_cons.1 hx with rfl|hx
  ·exact g5
  exact f3 x hx
theorem rd_arr {n e sz:Nat}{ie:TI}{cs:List Value}(hie:ti tab e=some ie)(hsz:ie.size=sz)(he:ts.contains e=true)(ih:∀ t cs x,ts.contains t=true→DataW.trod enc P w base spare held n t cs=some x→∃ d,Rd tab w n t cs d) :
  ∀
   (m i0:Nat),(∀ i,i0≤i→i < i0+m→∃ y,DataW.trod enc P w base spare held n e ((cs.drop (i*sz)).take sz)=some y) →
   ∃ ds:List D,ds.length=m∧Reps (allOf w) (ds.flatMap KR) ((cs.drop (i0*sz)).take (m*sz))∧(ds.flatMap KR).length=m*sz∧∀ x∈ds,GoodT tab n e x
 | 0,i0,_=>⟨[],rfl,by simp [Reps],by simp,by simp⟩
 |
  m+1,i0,h=>by
  obtain ⟨y,h2⟩:=h i0 (Nat.le_refl _) (by omega);obtain ⟨d,i',hi',g1,g2,g3,g4,g5⟩:=ih e _ y he h2;rw [hie] at hi';cases hi';obtain ⟨ds,f1,f2,f3,f4⟩:=rd_arr hie hsz he ih m (i0+1) fun i hi hi'=>h i (by omega) (by omega)
  refine ⟨d::ds,by simp [f1],?_,?_,?_⟩
  ·simp only [List.flatMap_cons];have:=Kdk g2 f2;have e2:(cs.drop (i0*sz)).take sz++(cs.drop ((i0+1)*sz)).take (m*sz)=(cs.drop (i0*sz)).take ((m+1)*sz):=by
    rw [show (m+1)*sz=sz+m*sz by rw [Nat.add_mul];omega,List.take_add,List.drop_drop,show i0*sz+sz=(i0+1)*sz by rw [Nat.add_mul];omega]
   rwa [e2] at this
  ·simp only [List.flatMap_cons,List.length_append,f3,g4,hsz];rw [Nat.add_mul];omega
  intro x hx;rcases List.mem_cons.1 hx with rfl|hx
  ·exact g5
  exact f4 x hx
theorem rd (hT:TabOK P tab)(hc:closedT tab ts=true):∀ (n:Nat) (t:TypeId) (cs:List Value) (x:DataW H×List MemPlace),ts.contains t=true→DataW.trod enc P w base spare held n t cs=some x→∃ d,Rd tab w n t cs d:=by
 intro n;induction n with
 | zero=>intro t cs x _ h;simp [DataW.trod] at h
 |
  succ n ih=>
  intro t cs x ht h;have hok:typeOK tab ts t=true:=by
   unfold closedT at hc;rw [List.all_eq_true] at hc;exact hc t (by simpa using ht)
  unfold typeOK at hok;split at hok
  ·rename_i i hi;obtain ⟨tf,z,dd,h1,h2,h3,h4,_⟩:=Kdt (ti_ok hT hi);split at hok
   ·rename_i hd;have hs:=Nat.eq_of_beq_eq_true hok;obtain ⟨b,rfl,_⟩:=DataW.trod_bool (by rw [h2,KgH (h3.trans hd)]) h;refine ⟨.v (.bool b),i,hi,by simp [RepC],?_,by simp [hs],by simp [KR,hs],?_⟩
    ·simp only [KR,Reps];exact ⟨_,_,rfl,⟨by simp [RepC],rfl,rfl⟩,rfl⟩
    unfold GoodT;exact ⟨i,hi,by rw [hd];exact ⟨b,rfl⟩⟩
   ·rename_i k hd;have hs:=Nat.eq_of_beq_eq_true hok;obtain ⟨m,rfl,_,hwf⟩:=DataW.trod_int (by rw [h2,Keh (h3.trans hd)]) h;refine ⟨.v (.int k m),i,hi,by simp [RepC],?_,by simp [hs],by simp [KR,hs],?_⟩
    ·simp only [KR,Reps];exact ⟨_,_,rfl,⟨by simp [RepC],rfl,rfl⟩,rfl⟩
    unfold GoodT;exact ⟨i,hi,by rw [hd];exact ⟨m,rfl,hwf⟩⟩
   ·rename_i hd;have hs:=Nat.eq_of_beq_eq_true hok;obtain ⟨s,rfl,_,hwf⟩:=DataW.trod_string (by rw [h2,KdL (h3.trans hd)]) h;refine ⟨.v (.string s),i,hi,by simp [RepC],?_,by simp [hs],by simp [KR,hs],?_⟩
    ·simp only [KR,Reps];exact ⟨_,_,rfl,⟨by simp [RepC],rfl,rfl⟩,rfl⟩
    unfold GoodT;exact ⟨i,hi,by rw [hd];exact ⟨s,rfl,hwf⟩⟩
   ·rename_i e hd;simp only [Bool.and_eq_true] at hok;obtain ⟨⟨he,hs⟩,hsz⟩:=hok;have hs:=Nat.eq_of_beq_eq_true hs;split at hsz
    ·rename_i ie hie;have hsz:=Nat.le_of_ble_eq_true hsz;rcases DataW.trod_slice (by rw [h2,Kb7 (h3.trans hd)]) h with ⟨rfl,_⟩|⟨a,len,cap,elems,rest,n',hf,rfl,_,hb,hlc,hcm,hel,hcells,_,_⟩
     ·have hr:RepC (allOf w) (.lst ie.size [] .no) [.slice none 0 0]:=by
       simp only [RepC,CapOK];exact ⟨_,rfl,trivial,.inl ⟨by trivial,none,0,rfl,fun _=>rfl⟩⟩
      refine ⟨.lst ie.size [] .no,i,hi,hr,?_,by simp [hs],by simp [KR,hs],?_⟩
      ·simp only [KR,Reps];exact ⟨_,_,rfl,⟨hr,rfl,rfl⟩,rfl⟩
      unfold GoodT;exact ⟨i,hi,by rw [hd];exact ⟨ie,[],hie,rfl,by simp,by simp⟩⟩
     have:n'=n:=by omega
     subst this;rw [KdY hT hie] at hcells;rcases Nat.eq_zero_or_pos len with hz|hpos
     ·subst hz;have hr:RepC (allOf w) (.lst ie.size [] .no) [.slice (some a) 0 cap]:=by
       simp only [RepC,CapOK];exact ⟨_,rfl,trivial,.inl ⟨by trivial,some a,cap,rfl,fun q=>by cases q⟩⟩
      refine ⟨.lst ie.size [] .no,i,hi,hr,?_,by simp [hs],by simp [KR,hs],?_⟩
      ·simp only [KR,Reps];exact ⟨_,_,rfl,⟨hr,rfl,rfl⟩,rfl⟩
      unfold GoodT;exact ⟨i,hi,by rw [hd];exact ⟨ie,[],hie,rfl,by simp,by simp⟩⟩
     have hsome:∀ j,j < len→∃ cs y,w.cells? base (a.add (j*ie.size)) ie.size=some cs∧DataW.trod enc P w base spare held n' e cs=some y:=by
      intro j hj;have hj2:=hcells j hj;rw [List.getElem?_eq_getElem (by omega)] at hj2;rw [Option.bind_eq_some_iff] at hj2;obtain ⟨cs,q1,q2⟩:=hj2;exact ⟨cs,_,q1,q2⟩
     have hspot:a.spot=none:=by
      obtain ⟨cs,y,q1,_⟩:=hsome 0 hpos;obtain ⟨_,hlen,hcc⟩:=World.cells?_some q1;have q2:=hcc 0 (by omega);rw [List.getElem?_eq_getElem (by omega)] at q2;have q3:(a.add (0*ie.size)).add 0=a:=by simp [Addr.add]
      rw [q3] at q2;cases hsp:a.spot with
      | none=>rfl
      |
       some s=>
       unfold World.cell? at q2;split at q2
       ·simp [hsp] at q2
       cases q2
     obtain ⟨b,off,sp⟩:=a;simp only at hspot;subst hspot;obtain ⟨xs,f1,f2,f3⟩:=rd_elems (spare:=spare) (held:=held) (enc:=enc) (P:=P) (base:=base) hie rfl he ih len 0 fun j _ hj=>hsome j (by omega)
     have hr:RepC (allOf w) (.lst ie.size xs .no) [.slice (some ⟨b,off,none⟩) len cap]:=by
      simp only [RepC,CapOK];refine ⟨_,rfl,trivial,.inr ⟨b,off,cap,by rw [f1],by rw [f1];exact hlc,by simpa using f2⟩⟩
     refine ⟨.lst ie.size xs .no,i,hi,hr,?_,by simp [hs],by simp [KR,hs],?_⟩
     ·simp only [KR,Reps];exact ⟨_,_,rfl,⟨hr,rfl,rfl⟩,rfl⟩
     unfold GoodT;exact ⟨i,hi,by rw [hd];exact ⟨ie,xs,hie,rfl,by rw [f1];omega,f3⟩⟩
    cases hsz
   ·rename_i fs hd;split at hok
    ·rename_i tot hfo;have hs:=Nat.eq_of_beq_eq_true hok;obtain ⟨gs,e1,e2⟩:=Kei (h3.trans hd);obtain ⟨xs,n',hf,_,hl,hxl,hx⟩:=DataW.trod_struct (by rw [h2,e1]) h;have:n'=n:=by omega
     subst this;rw [KdY hT hi] at hl;obtain ⟨_,ds,f1,f2,f3,f4⟩:=Kh5 hT (cs:=cs) ih gs.toList 0 tot (by rw [e2];exact hfo) (by omega) fun f hfm=>by
      obtain ⟨j,hj⟩:=List.getElem?_of_mem hfm;have hj':gs[j]? = some f:=by simpa using hj
      have q:=hx j f hj';have hjl:j < xs.length:=by rw [hxl];exact (Array.getElem?_eq_some_iff.1 hj').1
      rw [List.getElem?_eq_getElem hjl] at q;exact ⟨_,q⟩
     simp only [List.drop_zero,Nat.sub_zero] at f2 f3;rw [List.take_of_length_le (by omega)] at f2;refine ⟨.agg (ds.flatMap KR),i,hi,by simp only [RepC];exact f2,f2,hl,by simp only [KR];omega,?_⟩;unfold GoodT;exact ⟨i,hi,by rw [hd];exact ⟨ds,rfl,by rw [f1,← e2];simp,fun j f d0 q1 q2=>f4 j f d0 (by rw [e2];exact q1) q2⟩⟩
    cases hok
   ·rename_i m e hd;simp only [Bool.and_eq_true] at hok;obtain ⟨he,hsz⟩:=hok;split at hsz
    ·rename_i ie hie;have hsz:=Nat.eq_of_beq_eq_true hsz;obtain ⟨xs,n',hf,_,hl,hxl,hx⟩:=DataW.trod_array (by rw [h2,td_array (h3.trans hd)]) h;have:n'=n:=by omega
     subst this;rw [KdY hT hi] at hl;rw [KdY hT hie] at hx;obtain ⟨ds,f1,f2,f3,f4⟩:=rd_arr (cs:=cs) hie rfl he ih m 0 fun j _ hj=>by
      have q:=hx j (by omega);rw [List.getElem?_eq_getElem (by omega)] at q;exact ⟨_,q⟩
     simp only [Nat.zero_mul,List.drop_zero] at f2;rw [List.take_of_length_le (by omega)] at f2;refine ⟨.agg (ds.flatMap KR),i,hi,by simp only [RepC];exact f2,f2,hl,by simp only [KR];omega,?_⟩;unfold GoodT;exact ⟨i,hi,by rw [hd];exact ⟨ds,rfl,f1,f4⟩⟩
    cases hsz
   cases hok
  cases hok
end
end
section
open Go
set_option linter.all false
section
variable {P : Program} {tab : List (Option TI)} {n t : Nat} {i : TI} {d : D}
theorem good_int {k:IntKind}(hi:ti tab t=some i)(hd:i.d=.int k)(g:GoodT tab n t d):∃ m,d=.v (.int k m)∧(Lit.int k m).wf=true:=by
 cases n with
 | zero=>simp [GoodT] at g
 |
  succ n=>
  unfold GoodT at g;obtain ⟨i',h1,h2⟩:=g;rw [hi] at h1;cases h1;rw [hd] at h2;exact h2
theorem good_slice {e:Nat}{ie:TI}(hi:ti tab t=some i)(hd:i.d=.slice e)(he:ti tab e=some ie)(g:GoodT tab n t d):∃ (n':Nat) (xs:List D),n=n'+1∧d=.lst ie.size xs .no∧xs.length≤maxLen∧∀ x∈xs,GoodT tab n' e x:=by
 cases n with
 | zero=>simp [GoodT] at g
 |
  succ n=>
  unfold GoodT at g;obtain ⟨i',h1,h2⟩:=g;rw [hi] at h1;cases h1;rw [hd] at h2;obtain ⟨ie',xs,h3,h4,h5,h6⟩:=h2;rw [he] at h3;cases h3;exact ⟨n,xs,rfl,h4,h5,h6⟩
theorem good_u8 (hi:ti tab t=some i)(hd:i.d=.int .u8)(g:GoodT tab n t d):∃ c:UInt8,d=byteD c:=by
 obtain ⟨m,rfl,h⟩:=good_int hi hd g;simp [Lit.wf,IntKind.min,IntKind.max,IntKind.signed,IntKind.bits] at h;refine ⟨UInt8.ofNat m.toNat,?_⟩;unfold byteD;have e:((UInt8.ofNat m.toNat).toNat:Int)=m:=by
  rw [UInt8.toNat_ofNat'];omega
 rw [e]
theorem Kh6 {α:Type}{f:α→D}{K:α→Prop}{p:D→Prop}(h:∀ x,p x→∃ y,x=f y∧K y):∀ (xs:List D),(∀ x∈xs,p x)→∃ ys:List α,xs=ys.map f∧∀ y∈ys,K y
 | [],_=>⟨[],rfl,by simp⟩
 |
  x::xs,hx=>by
  obtain ⟨y,rfl,hy⟩:=h x (hx x (by simp));obtain ⟨ys,rfl,hys⟩:=Kh6 h xs fun z hz=>hx z (by simp [hz])
  refine ⟨y::ys,rfl,fun z hz=>?_⟩;rcases List.mem_cons.1 hz with rfl|hz
  ·exact hy
  exact hys z hz
theorem shape_of {w:World}{r:Reach}{base:Nat}{v:Value}(hT:TabOK P tab)(hv:Value.okWide P w r base t v)(g:GoodT tab n t d):d.shape v=true:=by
 cases n with
 | zero=>simp [GoodT] at g
 |
  succ n=>
  unfold GoodT at g;obtain ⟨i,hi,g⟩:=g;obtain ⟨tf,z,dd,h1,h2,h3,_⟩:=Kdt (ti_ok hT hi);unfold Value.okWide at hv;rw [h2] at hv;split at g
  ·rename_i hd;have:=KgH (h3.trans hd);subst this;obtain ⟨b,rfl⟩:=g;cases v<;>first|rfl|(simp [Cell.okWide,Cell.ok,h2] at hv)
  ·rename_i k hd;have:=Keh (h3.trans hd);subst this;obtain ⟨b,rfl,_⟩:=g;cases v<;>first|rfl|(simp [Cell.okWide,Cell.ok,h2] at hv)
  ·rename_i hd;have:=KdL (h3.trans hd);subst this;obtain ⟨b,rfl,_⟩:=g;cases v<;>first|rfl|(simp [Cell.okWide,Cell.ok,h2] at hv)
  ·rename_i e hd;have:=Kb7 (h3.trans hd);subst this;obtain ⟨ie,xs,_,rfl,_⟩:=g;cases v<;>first|rfl|(simp [Cell.okWide,Cell.ok,h2] at hv)
  ·rename_i fs hd;obtain ⟨gs,rfl,_⟩:=Kei (h3.trans hd);obtain ⟨ds,rfl,_⟩:=g;simp only at hv;obtain ⟨cs,rfl,_⟩:=hv;rfl
  ·rename_i m e hd;have:=td_array (h3.trans hd);subst this;obtain ⟨ds,rfl,_⟩:=g;simp only at hv;obtain ⟨cs,rfl,_⟩:=hv;rfl
  exact g.elim
theorem rd_arg {H:Type}{enc:TypeId×Value→H}{w:World}{base:Nat}{spare:Nat→Bool}{held:Bool}{v:Value}{x:DataW H}{ps:List MemPlace}{r:Reach}{b0:Nat}(hT:TabOK P tab)(ts:List Nat)(hc:closedT tab ts=true)(ht:ts.contains t=true)
  (hv:Value.okWide P w r b0 t v) (h:DataW.Trod enc P w base spare held t v x ps):∃ n d,GoodT tab n t d∧Rep (allOf w) d v:=by
 obtain ⟨n,hn⟩:=h;obtain ⟨d,i,h1,h2,h3,h4,h5,h6⟩:=rd hT hc n t _ _ ht hn;exact ⟨n,d,h6,h2,shape_of hT hv h6⟩
end
end
end Go.Proofs.YtfkaicefhibndaaGreatDoor.Ab
namespace Go.Proofs.YtfkaicefhibndaaGreatDoor
open Go.ChangeShapes Go.WideShapes Go.ChangeAt Go.RowKit Go.Joins
set_option linter.all false
theorem own:ownKnob Tryz.prog.godebug=none:=by kernel_rfl
theorem laidOut':laidOutB Tryz.prog=true:=by kernel_rfl
theorem Kh7 {H:Type}{enc:TypeId×Value→H}{P:Program}{W:World}(hl:laidOutB P=true):∀ {ts:List TypeId} {vs:List Value} {ds:List (DataW H)} {ps:List MemPlace},
  (ts.all fun t=>P.readableRec t && decide (t < P.types.size))=true→DataW.TrodAll enc P W 0 (fun _=>true) true ts vs ds ps→(∀ x∈ps,x.block < W.heap.size)→∀ W',Below W.heap.size W W' →
  ∀ sp:Nat→Bool,(∀ x∈ps,sp x.block=true)→DataW.TrodAll enc P W' 0 sp true ts vs ds ps
 |
  [],vs,ds,ps,_,h,_,W',hb,sp,hsp=>by
  obtain ⟨rfl,rfl,rfl⟩:=trodAll_nil h;exact trodAll_mk0
 |
  t::ts,vs,ds,ps,hr,h,hlt,W',hb,sp,hsp=>by
  obtain ⟨v,vs',d,ds',p,q,rfl,rfl,rfl,h0,h1⟩:=trodAll_cons h;simp only [List.all_cons,Bool.and_eq_true,decide_eq_true_eq] at hr;exact trodAll_cons_mk (WideElems.Trod_stays hl hr.1.1 hr.1.2 h0 (fun x hx=>hb.same (hlt x (by simp [hx]))) (fun x hx=>hsp x (by simp [hx])))
   (Kh7 hl hr.2 h1 (fun x hx=>hlt x (by simp [hx])) W' hb sp (fun x hx=>hsp x (by simp [hx])))
end Go.Proofs.YtfkaicefhibndaaGreatDoor
namespace Go.Proofs.YtfkaicefhibndaaGreatDoor.Ab
section
open Go
set_option linter.all false
section
variable {H : Type} {enc : TypeId × Value → H} {P : Program} {w : World} {base : Nat} {spare : Nat → Bool} {held : Bool} {tab : List (Option TI)} {ts : List Nat}
end
end
section
open Go
set_option linter.all false
mutual
def szE:Kc→Nat
 | ⟨_,_,_,ks,_⟩=>1+szEs ks
def szEs:List Kc→Nat
 | []=>0
 | e::l=>szE e+szEs l
end
mutual
def dpE:Kc→Nat
 | ⟨_,_,_,ks,_⟩=>1+dpEs ks
def dpEs:List Kc→Nat
 | []=>0
 | e::l=>max (dpE e) (dpEs l)
end
theorem Ke4 (e:Kc):szE e=1+szEs e.gKids:=by cases e;simp only [szE]
theorem KdZ (e:Kc):dpE e=1+dpEs e.gKids:=by cases e;simp only [dpE]
theorem KgX:∀ l m,szEs (l++m)=szEs l+szEs m
 | [],m=>by simp [szEs]
 | e::l,m=>by simp only [List.cons_append,szEs,KgX l m];omega
theorem KgY:∀ l m,dpEs (l++m)=max (dpEs l) (dpEs m)
 | [],m=>by simp [dpEs]
 | e::l,m=>by simp only [List.cons_append,dpEs,KgY l m];omega
theorem KfO:∀ {l:List Kc} {e:Kc},e∈l→dpE e≤dpEs l
 |
  x::l,e,h=>by
  simp only [dpEs];rcases List.mem_cons.1 h with rfl|h
  ·omega
  have:=KfO h;omega
theorem KeI:∀ {l:List Kc} {e:Kc},e∈l→szE e≤szEs l
 |
  x::l,e,h=>by
  simp only [szEs];rcases List.mem_cons.1 h with rfl|h
  ·omega
  have:=KeI h;omega
theorem Kdu:∀ l,l.length≤szEs l
 | []=>by simp
 |
  e::l=>by
  have:=Kdu l;have h:=Ke4 e;simp only [szEs,List.length_cons];omega
end
section
open Go
set_option linter.all false
mutual
def szS:Ki→Nat
 | ⟨_,_,_,es,ks,ls,_⟩=>1+szSs ks+szSs ls+szEs es
def szSs:List Ki→Nat
 | []=>0
 | s::l=>szS s+szSs l
end
mutual
def hS:Ki→Nat
 | ⟨_,_,_,_,ks,ls,_⟩=>1+max (hSs ks) (hSs ls)
def hSs:List Ki→Nat
 | []=>1
 | s::l=>max (hS s) (hSs l)
end
theorem KfP (s:Ki):szS s=1+szSs s.gKids+szSs s.gElse+szEs s.gExps:=by cases s;simp only [szS]
theorem hS_eq (s:Ki):hS s=1+max (hSs s.gKids) (hSs s.gElse):=by cases s;simp only [hS]
theorem Kfu:∀ l m,szSs (l++m)=szSs l+szSs m
 | [],m=>by simp [szSs]
 | e::l,m=>by simp only [List.cons_append,szSs,Kfu l m];omega
theorem hS_mem:∀ {l:List Ki} {s:Ki},s∈l→hS s≤hSs l
 |
  x::l,e,h=>by
  simp only [hSs];rcases List.mem_cons.1 h with rfl|h
  ·omega
  have:=hS_mem h;omega
theorem szS_mem:∀ {l:List Ki} {s:Ki},s∈l→szS s≤szSs l
 |
  x::l,e,h=>by
  simp only [szSs];rcases List.mem_cons.1 h with rfl|h
  ·omega
  have:=szS_mem h;omega
theorem hSs_pos:∀ l,1≤hSs l
 | []=>by simp [hSs]
 | s::l=>by have:=hSs_pos l;simp only [hSs];omega
theorem Kge:∀ l,l.length≤szSs l
 | []=>by simp
 |
  e::l=>by
  have:=Kge l;have h:=KfP e;simp only [szSs,List.length_cons];omega
theorem szSs_pre {l pre:List Ki}{x:Ki}{post:List Ki}(h:l=pre++x::post):szSs pre+szS x≤szSs l:=by
 subst h;rw [Kfu];simp only [szSs];omega
theorem fuel {l:List Ki}{n:Nat}{x:Ki}(h:hSs l≤n+1)(hx:x∈l):hSs x.gKids≤n∧hSs x.gElse≤n:=by
 have h1:=hS_mem hx;have h2:=hS_eq x;omega
end
section
open Go
set_option linter.all false
theorem loop_inv {σ τ:Type}{f:σ→Option (Step σ τ)}(I:σ→Prop)(μ:σ→Nat)(Post:τ→Prop)(h:∀ s,I s→(∃ s',f s=some (.next s')∧I s'∧μ s' < μ s)∨∃ r,f s=some (.done r)∧Post r):∀ {s},I s→∃ r,loopM f s=some r∧Post r:=by
 have key:∀ n s,μ s < n→I s→∃ r,loopM f s=some r∧Post r:=by
  intro n;induction n with
  | zero=>intro s h;omega
  |
   succ n ih=>
   intro s hm hi;rcases h s hi with ⟨s',h1,h2,h3⟩|⟨r,h1,h2⟩
   ·rw [KdT h1];exact ih s' (by omega) h2
   exact ⟨r,KdS h1,h2⟩
 intro s hi;exact key _ s (Nat.lt_succ_self _) hi
def FS (f:K1):Prop:=f.gParams.length≤1048576∧f.gLocals.length≤1048576∧szSs f.gBody≤1048576
theorem index_is {β:Type}{l:List β}(t:β→Bool)(hb:l.length≤1048576){F:Int→Option (Step Int (Unit⊕Int))}(hF:∀ s,F s=(bif (decide (s < (l.length:Int))) then ((idx l s).bind fun x=>(bif (t x) then some (.done (.inr s)) else some (.next (IntKind.i64.wrap (s+(1:Int)))))) else some (.done (.inl ())))) :
  ∃ r,loopM F (0:Int)=some r∧∀ i,r=.inr i→∃ k:Nat,i=(k:Int)∧k < l.length:=by
 refine loop_inv (fun s=>∃ k:Nat,s=(k:Int)∧k≤l.length) (fun s=>l.length - s.toNat) (fun r=>∀ i,r=Sum.inr i→∃ k:Nat,i=(k:Int)∧k < l.length) (fun s hs=>?_) ⟨0,rfl,Nat.zero_le _⟩;obtain ⟨k,rfl,hk⟩:=hs;rw [hF];by_cases h:k < l.length
 ·rw [decide_eq_true (by omega),cond_true,KcR,List.getElem?_eq_getElem h,Option.bind_some];cases ht:t l[k] with
  | true=>exact .inr ⟨_,rfl,fun i e=>⟨k,by cases e;rfl,h⟩⟩
  |
   false=>
   have hw:IntKind.i64.wrap ((k:Int)+1)=((k+1:Nat):Int):=by rw [IntKind.wrap_i64];omega
   refine .inl ⟨_,rfl,⟨k+1,hw,h⟩,?_⟩;rw [hw];simp only [Int.toNat_natCast];omega
 rw [decide_eq_false (by omega),cond_false];exact .inr ⟨_,rfl,fun i e=>by cases e⟩
def ReadsF:Prop:=∀ b,∃ f at_ e,KaN b=some (f,at_,e)∧(e=0→FS f)
def ReadsG:Prop:=∀ b,∃ (f:Kaq) (at_ e:Int),Kaz b=some (f,at_,e)
end
section
open Go
set_option linter.all false
def T {α:Type}(m:Option α)(P:α→Prop):Prop:=∃ r,m=some r∧P r
theorem T.bind {α β:Type}{m:Option α}{f:α→Option β}{P:α→Prop}{Q:β→Prop}(h:T m P)(g:∀ x,P x→T (f x) Q):T (m.bind f) Q:=by
 obtain ⟨x,rfl,hx⟩:=h;exact g x hx
theorem T.ret {α:Type}{x:α}{P:α→Prop}(h:P x):T (some x) P:=⟨x,rfl,h⟩
theorem T.cond {α:Type}{c:Bool}{a b:Option α}{P:α→Prop}(h1:c=true→T a P)(h2:c=false→T b P):T (bif c then a else b) P:=by
 cases c
 ·exact h2 rfl
 exact h1 rfl
theorem T.imp {α:Type}{m:Option α}{P Q:α→Prop}(h:T m P)(g:∀ x,P x→Q x):T m Q:=by
 obtain ⟨x,h1,h2⟩:=h;exact ⟨x,h1,g x h2⟩
def StepP {σ τ:Type}(I:σ→Prop)(μ:σ→Nat)(n:Nat)(Post:τ→Prop):Step σ τ→Prop
 | .next s'=>I s'∧μ s' < n
 | .done r=>Post r
theorem T.loop {σ τ:Type}{f:σ→Option (Step σ τ)}(I:σ→Prop)(μ:σ→Nat){Post:τ→Prop}{s:σ}(hi:I s)(h:∀ s,I s→T (f s) (StepP I μ (μ s) Post)):T (loopM f s) Post:=by
 refine loop_inv I μ Post (fun s hs=>?_) hi;obtain ⟨r,h1,h2⟩:=h s hs;cases r with
 | next s'=>exact .inl ⟨s',h1,h2.1,h2.2⟩
 | done r=>exact .inr ⟨r,h1,h2⟩
theorem T.idx {α:Type}{l:List α}{k:Nat}{P:α→Prop}(h:k < l.length)(g:∀ x,l[k]? = some x→P x):T (idx l (k:Int)) P:=by
 rw [KcR];exact ⟨l[k],List.getElem?_eq_getElem h,g _ (List.getElem?_eq_getElem h)⟩
theorem T.cut {α:Type}{l:List α}{a b:Nat}{P:List α→Prop}(h1:a≤b)(h2:b≤l.length)(g:∀ x:List α,x.length=b - a→P x):T (cutL l (a:Int) (b:Int)) P:=by
 unfold cutL;rw [show (decide (0≤(a:Int)) && decide ((a:Int)≤(b:Int)) && decide ((b:Int)≤(l.length:Int)))=true by simp;omega,cond_true];refine T.ret (g _ ?_);simp;omega
theorem wn {n:Nat}(h:n < 1000000000):IntKind.i64.wrap ((n:Int)+1)=((n+1:Nat):Int):=by rw [IntKind.wrap_i64];omega
theorem wa {n k:Nat}(h:n+k < 1000000000):IntKind.i64.wrap ((n:Int)+(k:Int))=((n+k:Nat):Int):=by rw [IntKind.wrap_i64];omega
theorem tkind (c:Int):T (Kcm c) fun _=>True:=by
 unfold Kcm;repeat' (first|exact T.ret trivial|(refine T.cond (fun _=>?_) (fun _=>?_))|(refine T.bind (P:=fun _=>True) ?_ (fun _ _=>?_)))
theorem tcont (l:List ByteArray)(s:ByteArray)(hl:l.length≤1000):T (Kan l s) fun _=>True:=by
 unfold Kan Kbu;refine T.bind (P:=fun _=>True) ?_ fun _ _=>T.ret trivial
 obtain ⟨r,h1,_⟩:=index_is (fun x=>decide (s=x)) (l:=l) (by omega) (fun _=>rfl);rw [h1];cases r<;>exact T.ret trivial
theorem tword (s:ByteArray):T (Kcc s) fun _=>True:=by
 unfold Kcc;refine T.bind (tcont _ _ ?_) fun _ _=>T.ret trivial
 simp
structure TkI (m:KL) (a:Nat):Prop where
 at_:m.gAt=(a:Int)
 le:a≤m.gB.length
 len:m.gB.length≤20000
 l:m.gL.length≤4000
def fk (m:KL)(a:Nat)(k:Int):Prop:=∃ c,m.gB[a]? = some c∧Kcm (IntKind.i32.wrap (c.toNat:Int))=some k
theorem tspan {m:KL}{a:Nat}(h:TkI m a)(b:Bool):T (Ka6 m b) fun n=>∃ k:Nat,n=(k:Int)∧a+k≤m.gB.length∧(fk m a 3→1≤k)∧(b=true→fk m a 2→1≤k):=by
 have h1:=h.le;have h2:=h.len
 unfold Ka6;refine T.bind (P:=fun n=>∃ k:Nat,n=(k:Int)∧a+k≤m.gB.length∧(fk m a 3→1≤k)∧(b=true→fk m a 2→1≤k)) ?_ fun x hx=>T.ret hx
 refine T.loop (fun s=>∃ k:Nat,s=(k:Int)∧a+k≤m.gB.length) (fun s=>m.gB.length - (a+s.toNat)) ⟨0,rfl,by omega⟩ fun s hs=>?_
 obtain ⟨k,rfl,hk⟩:=hs;rw [h.at_,wa (by omega)];refine T.cond (fun hc=>?_) (fun hc=>T.ret ⟨k,rfl,hk,fun ⟨c,e,_⟩=>?_,fun _ ⟨c,e,_⟩=>?_⟩)
 ·have hlt:a+k < m.gB.length:=by have:=of_decide_eq_true hc;omega
  refine T.bind (P:=fun c=>m.gB[a+k]? = some c) (T.idx hlt fun x hx=>hx) fun c he=>?_
  obtain ⟨kd,hkd,_⟩:=tkind (IntKind.i32.wrap (c.toNat:Int));rw [hkd,Option.bind_some];have nx:StepP (fun s=>∃ k:Nat,s=(k:Int)∧a+k≤m.gB.length) (fun s:Int=>m.gB.length - (a+s.toNat)) (m.gB.length - (a+((k:Int)).toNat)) (fun n=>∃ k:Nat,n=(k:Int)∧a+k≤m.gB.length∧(fk m a 3→1≤k)∧(b=true→fk m a 2→1≤k)) (.next (IntKind.i64.wrap ((k:Int)+1))):=by
   rw [wn (by omega)];exact ⟨⟨k+1,rfl,by omega⟩,by simp only [Int.toNat_natCast];omega⟩
  have key:∀ q,fk m a q→k=0→kd=q:=fun q ⟨c',e1,e2⟩ h0=>by
   subst h0;rw [Nat.add_zero,e1] at he;cases he;rw [e2] at hkd;cases hkd;rfl
  refine T.cond (fun h3=>T.cond (fun h4=>T.ret ⟨k,rfl,hk,fun hf=>?_,fun _ hf=>?_⟩) fun h4=>T.cond (fun h5=>T.ret ⟨k,rfl,hk,fun hf=>?_,fun hb hf=>?_⟩) fun _=>T.ret nx) fun _=>T.ret nx
  ·rcases Nat.eq_zero_or_pos k with h0|h0
   ·rw [key 3 hf h0] at h3;cases h3
   exact h0
  ·rcases Nat.eq_zero_or_pos k with h0|h0
   ·rw [key 2 hf h0] at h4;cases h4
   exact h0
  ·rcases Nat.eq_zero_or_pos k with h0|h0
   ·rw [key 3 hf h0] at h3;cases h3
   exact h0
  rw [hb] at h5;cases h5
 ·rcases Nat.eq_zero_or_pos k with h0|h0
  ·subst h0;have:a < m.gB.length:=(List.getElem?_eq_some_iff.1 e).1;simp at hc;omega
  exact h0
 rcases Nat.eq_zero_or_pos k with h0|h0
 ·subst h0;have:a < m.gB.length:=(List.getElem?_eq_some_iff.1 e).1;simp at hc;omega
 exact h0
def TP (m:KL)(a:Nat)(r:Int×KL):Prop:=r.1 ≠ 0∨∃ a',a < a'∧TkI r.2 a'∧r.2.gB=m.gB
theorem tadd {m:KL}{a:Nat}(h:TkI m a){k:Nat}(h1:1≤k)(h2:a+k≤m.gB.length)(kd v:Int):T (Ka0 m kd (k:Int) v) (TP m a):=by
 have h3:=h.l;have h4:=h.len
 unfold Ka0;refine T.cond (fun _=>T.ret (.inl (by simp))) fun hc=>?_
 have hl:m.gL.length < 4000:=by
  have:=of_decide_eq_false hc;omega
 rw [h.at_,wa (by omega)];refine T.bind (P:=fun _=>True) (T.cut (by omega) h2 fun _ _=>trivial) fun x _=>?_
 rw [Kct (by omega) (by simp;omega),Option.bind_some];exact T.ret (.inr ⟨a+k,by omega,⟨rfl,h2,h4,by simp;omega⟩,rfl⟩)
theorem tname {m:KL}{a:Nat}(h:TkI m a)(hf:fk m a 2):T (Ka7 m) (TP m a):=by
 have h4:=h.len;have h5:=h.le
 unfold Ka7;refine T.bind (tspan h true) fun n hn=>?_
 obtain ⟨k,rfl,k1,_,k2⟩:=hn;have k3:=k2 rfl hf;rw [h.at_,wa (by omega)];refine T.bind (P:=fun _=>True) (T.cut (by omega) k1 fun _ _=>trivial) fun x _=>?_
 refine T.cond (fun _=>T.ret (.inl (by simp))) fun _=>T.bind (tword _) fun w _=>T.cond (fun _=>?_) fun _=>?_
 ·exact T.bind (tadd h k3 k1 3 0) fun x hx=>T.ret hx
 exact T.bind (tadd h k3 k1 1 0) fun x hx=>T.ret hx
theorem tnumber {m:KL}{a:Nat}(h:TkI m a)(hf:fk m a 3):T (KaZ m) (TP m a):=by
 have h4:=h.len;have h5:=h.le
 unfold KaZ;refine T.cond (fun _=>T.ret (.inl (by simp))) fun _=>T.bind (tspan h false) fun n hn=>?_
 obtain ⟨k,rfl,k1,k2,_⟩:=hn;have k3:=k2 hf;refine T.bind (P:=fun _=>True) ?_ fun y _=>T.cond (fun _=>T.ret (.inl (by simp))) fun _=>?_
 ·refine T.bind (tspan h true) fun n hn=>T.cond (fun _=>T.ret trivial) fun _=>?_
  rw [h.at_];exact T.bind (P:=fun _=>True) (T.idx (by omega) fun _ _=>trivial) fun c _=>T.cond (fun _=>T.ret trivial) fun _=>T.ret trivial
 rw [h.at_,wa (by omega)];refine T.bind (P:=fun x=>x.length=k) (T.cut (by omega) k1 fun _ e=>by omega) fun x hx=>?_
 refine T.bind (P:=fun r=>∀ q,r=Sum.inr q→q.1 ≠ 0) ?_ fun r hr=>?_
 ·refine T.loop (fun s=>∃ j:Nat,s.2=(j:Int)∧j≤k) (fun s=>k - s.2.toNat) ⟨0,rfl,by omega⟩ fun s hs=>?_
  obtain ⟨j,e,hj⟩:=hs;obtain ⟨s1,s2⟩:=s;simp only at e;subst e;refine T.cond (fun hc=>?_) fun _=>T.ret (fun q e=>by cases e)
  have hlt:j < x.length:=by simpa using hc
  refine T.bind (P:=fun _=>True) (T.idx hlt fun _ _=>trivial) fun c _=>T.cond (fun _=>T.ret (fun q e=>by cases e;simp)) fun _=>T.ret ?_
  have:=wn (n:=j) (by omega);refine ⟨⟨j+1,this,by omega⟩,?_⟩;simp only [this,Int.toNat_natCast];omega
 cases r with
 | inl v=>exact T.bind (tadd h k3 k1 2 _) fun x hx=>T.ret hx
 | inr q=>exact T.ret (.inl (hr q rfl))
theorem tsign {m:KL}{a:Nat}(h:TkI m a)(hlt:a < m.gB.length):T (KaV m) fun n=>n=0∨∃ k:Nat,n=(k:Int)∧1≤k∧a+k≤m.gB.length:=by
 have h4:=h.len;unfold KaV;rw [h.at_];refine T.bind (P:=fun x=>x.length=m.gB.length - a) (T.cut (by omega) (Nat.le_refl _) fun _ e=>e) fun x hx=>?_
 refine T.bind (P:=fun y=>y=true→1 < x.length) (T.cond (fun hc=>?_) fun _=>T.ret (by simp)) fun y hy=>T.cond (fun e=>T.ret (.inr ⟨2,rfl,by omega,by have:=hy e;omega⟩)) fun _=>?_
 ·have hc':1 < x.length:=by have:=of_decide_eq_true hc;omega
  refine T.bind (P:=fun _=>True) (T.cut (a:=0) (b:=2) (by omega) (by omega) fun _ _=>trivial) fun z _=>?_
  exact T.bind (tcont _ _ (by simp)) fun b _=>T.ret fun _=>hc'
 refine T.bind (P:=fun _=>True) (T.idx (k:=0) (by omega) fun _ _=>trivial) fun c _=>T.cond (fun _=>T.ret (.inr ⟨1,rfl,by omega,by omega⟩)) fun _=>T.ret (.inl rfl)
theorem tnext {m:KL}{a:Nat}(h:TkI m a)(hlt:a < m.gB.length):T (Ka8 m) (TP m a):=by
 have h4:=h.len;unfold Ka8;rw [h.at_];refine T.bind (P:=fun c=>m.gB[a]? = some c) (T.idx hlt fun _ e=>e) fun c hc=>?_
 obtain ⟨kd,hk,_⟩:=tkind (IntKind.i32.wrap (c.toNat:Int));rw [hk,Option.bind_some];refine T.cond (fun _=>T.ret (.inr ⟨a+1,by omega,⟨wn (by omega),Nat.succ_le_of_lt hlt,h4,h.l⟩,rfl⟩)) fun _=>T.cond (fun e=>?_) fun _=>T.cond (fun e=>?_) fun _=>?_
 ·have:kd=2:=by simpa using e
  subst this;exact T.bind (tname h ⟨c,hc,hk⟩) fun x hx=>T.ret hx
 ·have:kd=3:=by simpa using e
  subst this;exact T.bind (tnumber h ⟨c,hc,hk⟩) fun x hx=>T.ret hx
 refine T.bind (tsign h hlt) fun n hn=>T.cond (fun _=>T.ret (.inl (by simp))) fun e=>?_
 rcases hn with rfl|⟨k,rfl,k1,k2⟩
 ·cases e
 exact T.bind (tadd h k1 k2 3 0) fun x hx=>T.ret hx
theorem tread (b:List UInt8):T (KbM b) fun r=>r.2.2=0→1≤r.1.length∧r.1.length≤4001:=by
 unfold KbM;refine T.cond (fun _=>T.ret (by simp)) fun hc=>?_
 have hb:b.length≤20000:=by have:=of_decide_eq_false hc;omega
 refine T.bind (P:=fun r=>(∀ q,r=Sum.inl q→q.2.2.length≤4000)∧∀ q,r=Sum.inr q→q.2.2 ≠ 0) ?_ fun r hr=>?_
 ·refine T.loop (fun s=>∃ a,TkI ⟨s.1,s.2.1,s.2.2⟩ a∧s.1=b) (fun s=>b.length - s.2.1.toNat) ⟨0,⟨rfl,Nat.zero_le _,hb,by simp⟩,rfl⟩ fun s hs=>?_
  obtain ⟨a,ha,e⟩:=hs;obtain ⟨s1,s2,s3⟩:=s;simp only at ha e;subst e;have:=ha.at_;simp only at this;subst this;refine T.cond (fun hc=>?_) fun _=>T.ret ⟨fun q e=>(by cases e;exact ha.l),fun q e=>(by cases e)⟩
  have hlt:a < s1.length:=by simpa using hc
  refine T.bind (tnext ha hlt) fun r hr=>T.cond (fun e=>T.ret ⟨fun q e=>(by cases e),fun q e'=>(by cases e';simpa using e)⟩) fun e=>?_
  rcases hr with hr|⟨a',h1,h2,h3⟩
  ·exact absurd (by simpa using e) hr
  refine T.ret ⟨⟨a',?_,h3⟩,?_⟩
  ·exact ⟨h2.at_,h2.le,h2.len,h2.l⟩
  have h5:=h2.le;rw [h3] at h5;simp only [h2.at_,Int.toNat_natCast];simp only at h5;omega
 cases r with
 |
  inl q=>
  have:=hr.1 q rfl;rw [Sum.elim_inl,Kct (by omega) (by simp;omega),Option.bind_some];exact T.ret fun _=>⟨by simp,by simp;omega⟩
 | inr q=>exact T.ret fun e=>absurd e (hr.2 q rfl)
end
section
open Go
set_option linter.all false
def prem (m:Kd):Nat:=if m.gE=0 then m.gL.length+1 - m.gAt.toNat else 0
theorem KeJ {m:Kd}(h:m.gE=0):prem m=m.gL.length+1 - m.gAt.toNat:=if_pos h
theorem Ke5 {m:Kd}(h:m.gE ≠ 0):prem m=0:=if_neg h
structure PI (m:Kd):Prop where
 lo:0≤m.gAt
 hi:m.gAt≤(m.gL.length:Int)
 len:m.gL.length≤5000
structure PQ (m:Kd) (c s:Nat) (r:Kd):Prop where
 l:r.gL=m.gL
 i:PI r
 le:prem r≤prem m
 sz:r.gE=0→s+prem r≤prem m+c
theorem PI.pos {m:Kd}(h:PI m)(e:m.gE=0):1≤prem m:=by
 have:=h.lo;have:=h.hi
 rw [KeJ e];omega
theorem PI.le {m:Kd}(h:PI m):prem m≤5001:=by
 have:=h.len;by_cases e:m.gE=0
 ·rw [KeJ e];omega
 rw [Ke5 e];omega
theorem perr {m r:Kd}{c s:Nat}(h1:r.gL=m.gL)(h2:PI r)(h3:r.gE ≠ 0):PQ m c s r:=⟨h1,h2,by rw [Ke5 h3];omega,fun e=>absurd e h3⟩
theorem padv {m:Kd}(h:PI m)(hlt:m.gAt < (m.gL.length:Int)):PI ⟨m.gL,IntKind.i64.wrap (m.gAt+1),m.gE⟩∧prem ⟨m.gL,IntKind.i64.wrap (m.gAt+1),m.gE⟩≤prem m∧(m.gE=0→prem ⟨m.gL,IntKind.i64.wrap (m.gAt+1),m.gE⟩+1=prem m):=by
 have h1:=h.lo;have h2:=h.len
 have hw:IntKind.i64.wrap (m.gAt+1)=m.gAt+1:=by rw [IntKind.wrap_i64];omega
 rw [hw];have key:m.gE=0→prem ⟨m.gL,m.gAt+1,m.gE⟩+1=prem m:=fun e=>by
  rw [KeJ e,KeJ (m:=⟨m.gL,m.gAt+1,m.gE⟩) e];simp only;omega
 refine ⟨⟨by simp only;omega,by simp only;omega,h2⟩,?_,key⟩;by_cases e:m.gE=0
 ·have:=key e;omega
 rw [Ke5 (m:=⟨m.gL,m.gAt+1,m.gE⟩) e];omega
theorem plook {m:Kd}(h:PI m):T (KaD m) fun t=>t.gKind ≠ 0→m.gAt < (m.gL.length:Int):=by
 have h1:=h.lo;unfold KaD;refine T.cond (fun _=>T.ret fun e=>absurd rfl e) fun hc=>?_
 have hc':m.gAt < (m.gL.length:Int):=by have:=of_decide_eq_false hc;omega
 obtain ⟨k,hk⟩:=Int.eq_ofNat_of_zero_le h1;rw [hk] at hc' ⊢;exact T.bind (P:=fun _=>True) (T.idx (by omega) fun _ _=>trivial) fun x _=>T.ret fun _=>hc'
theorem pis {m:Kd}(h:PI m)(s:ByteArray):T (Kbm m s) fun b=>b=true→m.gAt < (m.gL.length:Int):=by
 unfold Kbm;refine T.bind (plook h) fun t ht=>T.cond (fun e=>T.ret fun _=>ht ?_) fun _=>T.ret (by simp)
 have:t.gKind=3:=by simpa using e
 rw [this];decide
theorem pfail {m:Kd}(h:PI m){a e:Int}(h1:0≤a)(h2:a≤(m.gL.length:Int))(he:e ≠ 0):T (KaE m a e) fun r=>r.gL=m.gL∧PI r∧r.gE ≠ 0:=by
 unfold KaE;refine T.cond (fun _=>T.ret ⟨rfl,⟨h1,h2,h.len⟩,he⟩) fun e=>T.ret ⟨rfl,h,by simpa using e⟩
theorem peat {m:Kd}(h:PI m)(s:ByteArray):T (Kbs m s) (PQ m 0 1):=by
 unfold Kbs;refine T.bind (pis h s) fun b hb=>T.cond (fun _=>?_) fun e=>?_
 ·exact T.bind (pfail h h.lo h.hi (by decide)) fun r hr=>T.ret (perr hr.1 hr.2.1 hr.2.2)
 obtain ⟨a1,a2,a3⟩:=padv h (hb (by simpa using e));exact T.ret ⟨rfl,a1,a2,fun e=>by have:=a3 e;omega⟩
theorem pname {m:Kd}(h:PI m):T (KaW m) fun r=>PQ m 0 1 r.2:=by
 unfold KaW;refine T.bind (plook h) fun t ht=>T.cond (fun _=>?_) fun e=>?_
 ·exact T.bind (pfail h h.lo h.hi (by decide)) fun r hr=>T.ret (perr hr.1 hr.2.1 hr.2.2)
 have:t.gKind=1:=by simpa using e
 obtain ⟨a1,a2,a3⟩:=padv h (ht (by rw [this];decide));exact T.ret ⟨rfl,a1,a2,fun e=>by have:=a3 e;simp only;omega⟩
theorem ppick (a b:ByteArray)(x:Int)(c:ByteArray)(y:Int):T (KbB a b x c y) fun _=>True:=by
 unfold KbB;repeat' (first|exact T.ret trivial|(refine T.cond (fun _=>?_) (fun _=>?_)))
theorem pbetween (a:Int)(s:ByteArray):T (KaB a s) fun _=>True:=by
 unfold KaB;repeat' (first|exact T.ret trivial|exact ppick _ _ _ _ _|(refine T.cond (fun _=>?_) (fun _=>?_))|(refine T.bind (P:=fun _=>True) ?_ (fun _ _=>?_)))
theorem deep_g:∀ (n:Nat) (e:Kc),dpE e≤n→szE e≤1048576→T (Kbf n e) fun _=>True
 | 0,e,h,_=>by have:=KdZ e;omega
 |
  n+1,e,h,hs=>by
  show T (KbW (Kbf n) e) _
  have h1:=KdZ e;have h2:=Ke4 e;have h3:=Kdu e.gKids
  unfold KbW;refine T.bind (P:=fun _=>True) (T.loop (fun s=>∃ k:Nat,s.2=(k:Int)∧k≤e.gKids.length) (fun s=>e.gKids.length - s.2.toNat) ⟨0,rfl,Nat.zero_le _⟩ fun s hs'=>?_) fun _ _=>T.ret trivial
  obtain ⟨k,hk,hk2⟩:=hs';obtain ⟨s1,s2⟩:=s;simp only at hk;subst hk;refine T.cond (fun hc=>?_) fun _=>T.ret trivial
  have hlt:k < e.gKids.length:=by have:=of_decide_eq_true hc;simp only at this;omega
  refine T.bind (P:=fun x=>x∈e.gKids) (T.idx hlt fun x hx=>List.mem_of_getElem? hx) fun x hx=>?_
  have:=KfO hx;have:=KeI hx
  refine T.bind (deep_g n x (by omega) (by omega)) fun _ _=>T.ret ?_
  have hw:=wn (n:=k) (by omega);exact ⟨⟨k+1,hw,hlt⟩,by simp only [hw,Int.toNat_natCast];omega⟩
theorem deep_t {e:Kc}(h:szE e≤1048576):T (KdD e) fun _=>True:=by
 obtain ⟨r,h1,_⟩:=deep_g (dpE e) e (Nat.le_refl _) h;exact ⟨r,KgD e _ h1,trivial⟩
theorem psound {m:Kd}(h:PI m){e:Kc}(hs:m.gE=0→szE e≤1048576){a:Int}(h1:0≤a)(h2:a≤(m.gL.length:Int)):T (Kav m e a) fun r=>r.2.gL=m.gL∧PI r.2∧(r.2.gE=0→m.gE=0∧r.1=e∧r.2=m):=by
 unfold Kav;refine T.cond (fun he=>T.ret ⟨rfl,h,fun e0=>?_⟩) fun he=>?_
 ·simp at he;exact absurd e0 he
 have he':m.gE=0:=by simpa using he
 refine T.bind (deep_t (hs he')) fun d _=>T.cond (fun _=>?_) fun _=>T.ret ⟨rfl,h,fun _=>⟨he',rfl,rfl⟩⟩
 exact T.bind (pfail h h1 h2 (by decide)) fun r hr=>T.ret ⟨hr.1,hr.2.1,fun e0=>absurd e0 hr.2.2⟩
theorem xeta (x:Kc):(⟨x.gOp,x.gN,x.gName,x.gKids,x.gAt⟩:Kc)=x:=by cases x;rfl
theorem Kde (a b:Int)(n:ByteArray)(ks:List Kc)(c:Int):szE ⟨a,b,n,ks,c⟩=1+szEs ks:=by simp only [szE]
theorem szE_1 (a b:Int)(n:ByteArray)(c:Int):szE ⟨a,b,n,[],c⟩=1:=by simp [szE,szEs]
abbrev PG (N:Nat):=Kn N
theorem PQ.trans {m r q:Kd}{c s s':Nat}(h1:PQ m c s r)(h2:PQ r 0 s' q){t:Nat}(ht:r.gE=0→q.gE=0→s+prem r≤prem m+c→s'+prem q≤prem r→t+prem q≤prem m+c):PQ m c t q:=by
 refine ⟨h2.l.trans h1.l,h2.i,Nat.le_trans h2.le h1.le,fun e=>?_⟩;have:=h2.i.pos e;have e1:r.gE=0:=by
  rcases Classical.em (r.gE=0) with e1|e1
  ·exact e1
  have:=h2.le;rw [Ke5 e1] at this;omega
 exact ht e1 e (h1.sz e1) (by have:=h2.sz e;omega)
theorem ptot:∀ N:Nat,
  (∀ (m:Kd) (a:Nat),PI m→a≤6→12*prem m+(8 - a)≤N→T ((PG N).1 m (a:Int)) fun r=>PQ m 0 (szE r.1) r.2) ∧
  (∀ m:Kd,PI m→12*prem m+1≤N→T ((PG N).2.1 m) fun r=>PQ m 0 (szE r.1) r.2) ∧
  (∀ (m:Kd) (x:Kc) (k at_:Int),PI m→x.gKids=[]→0≤at_→at_≤(m.gL.length:Int)→12*prem m+1≤N→T ((PG N).2.2.1 m x k at_) fun r=>PQ m 1 (szE r.1) r.2) ∧
  (∀ (m:Kd) (s:ByteArray),PI m→12*prem m+9≤N→T ((PG N).2.2.2.1 m s) fun r=>PQ m 0 (szE r.1) r.2) ∧
  (∀ (m:Kd) (t:Kr) (at_:Int),PI m→0≤at_→at_≤(m.gL.length:Int)→12*prem m+10≤N→T ((PG N).2.2.2.2 m t at_) fun r=>PQ m 1 (szE r.1) r.2)
 | 0=>⟨fun m a _ _ h=>by omega,fun m _ h=>by omega,fun m x k a _ _ _ _ h=>by omega,fun m s _ h=>by omega,fun m t a _ _ _ h=>by omega⟩
 |
  N+1=>by
  obtain ⟨iR,iU,iI,iA,iS⟩:=ptot N;refine ⟨fun m a hm ha hN=>?_,fun m hm hN=>?_,fun m x k at_ hm hx h1 h2 hN=>?_,fun m s hm hN=>?_,fun m t at_ hm h1 h2 hN=>?_⟩
  ·show T (KaO (PG N).1 (PG N).2.1 (PG N).2.2.1 (PG N).2.2.2.1 (PG N).2.2.2.2 m (a:Int)) _
   unfold KaO;refine T.cond (fun e=>?_) fun e=>?_
   ·have:a=6:=by
         have:(a:Int)=6:=by simpa using e
         omega
    exact T.bind (iU m hm (by omega)) fun r hr=>T.ret hr
   have ha':a < 6:=by
    have:¬ (a:Int)=6:=by simpa using e
    omega
   rw [wn (by omega)];refine T.bind (iR m (a+1) hm ha' (by omega)) fun x hx=>?_
   refine T.bind (P:=fun s:List Kr×Int×Int×Int×Int×ByteArray×List Kc×Int=>PQ m 0 (szE ⟨s.2.2.2.1,s.2.2.2.2.1,s.2.2.2.2.2.1,s.2.2.2.2.2.2.1,s.2.2.2.2.2.2.2⟩) ⟨s.1,s.2.1,s.2.2.1⟩) ?_ fun s hs=>T.ret hs
   refine T.loop (fun s:List Kr×Int×Int×Int×Int×ByteArray×List Kc×Int=>PQ m 0 (szE ⟨s.2.2.2.1,s.2.2.2.2.1,s.2.2.2.2.2.1,s.2.2.2.2.2.2.1,s.2.2.2.2.2.2.2⟩) ⟨s.1,s.2.1,s.2.2.1⟩) (fun s=>prem ⟨s.1,s.2.1,s.2.2.1⟩) (by simp only;rw [xeta];exact hx) fun s hs=>?_
   obtain ⟨L,p,e0,o1,o2,o3,o4,o5⟩:=s;simp only at hs ⊢;refine T.cond (fun he=>?_) fun _=>T.ret hs
   have he0:e0=0:=by simpa using he
   refine T.bind (plook hs.i) fun t ht=>?_
   refine T.bind (P:=fun op=>op ≠ 0→p < (L.length:Int)) (T.cond (fun hk=>?_) fun _=>T.ret (by simp)) fun op hop=>T.cond (fun _=>T.ret hs) fun hne=>?_
   ·have hk':t.gKind=3:=by simpa using hk
    exact T.bind (pbetween _ _) fun b _=>T.ret fun _=>ht (by rw [hk'];decide)
   have hlt:=hop (by simpa using hne);obtain ⟨a1,a2,a3⟩:=padv hs.i hlt;have a4:=a3 he0;have hsz:=hs.sz he0;have hl0:=hs.le;simp only at a1 a2 a3 a4;refine T.bind (iR _ (a+1) a1 ha' (by omega)) fun r hr=>?_
   have hrl:r.2.gL=L:=hr.l;have h5:=hm.le;refine T.bind (psound (m:=r.2) hr.i (e:=⟨op,0,ByteArray.empty,[⟨o1,o2,o3,o4,o5⟩,r.1],t.gAt⟩) (fun e=>?_) (a:=p) hs.i.lo (by rw [hrl];exact hs.i.hi)) fun q hq=>T.ret ?_
   ·have:=hr.sz e;rw [Kde];simp only [szEs];omega
   obtain ⟨q1,q2,q3⟩:=hq;have hnode:szE ⟨op,0,ByteArray.empty,[⟨o1,o2,o3,o4,o5⟩,r.1],t.gAt⟩=1+(szE ⟨o1,o2,o3,o4,o5⟩+szE r.1):=by rw [Kde];simp [szEs]
   by_cases eq0:q.2.gE=0
   ·obtain ⟨e1,e2,e3⟩:=q3 eq0;have:=hr.sz e1;have:=hr.le;refine ⟨?_,?_⟩
    ·simp only;rw [xeta,e2];show PQ m 0 _ q.2
     rw [e3];exact ⟨hrl.trans hs.l,hr.i,by omega,fun _=>by rw [hnode];omega⟩
    show prem q.2 < _
    rw [e3];omega
   refine ⟨perr (q1.trans (hrl.trans hs.l)) q2 eq0,?_⟩;show prem q.2 < _
   rw [Ke5 eq0];omega
  ·show T (KaI (PG N).1 (PG N).2.1 (PG N).2.2.1 (PG N).2.2.2.1 (PG N).2.2.2.2 m) _
   unfold KaI;refine T.bind (plook hm) fun t ht=>T.cond (fun e=>T.ret (perr rfl hm (by simpa using e))) fun e=>?_
   have e0:m.gE=0:=by simpa using e
   have hp:=hm.pos e0;have adv:t.gKind ≠ 0→PI ⟨m.gL,IntKind.i64.wrap (m.gAt+1),m.gE⟩∧prem ⟨m.gL,IntKind.i64.wrap (m.gAt+1),m.gE⟩+1=prem m:=fun h=>by
    obtain ⟨a1,a2,a3⟩:=padv hm (ht h);exact ⟨a1,a3 e0⟩
   have fin:t.gKind ≠ 0→∀ {x:Kc} {r:Kd},PQ ⟨m.gL,IntKind.i64.wrap (m.gAt+1),m.gE⟩ 1 (szE x) r→PQ m 0 (szE x) r:=fun h x r hr=>by
    obtain ⟨a1,a2⟩:=adv h;exact ⟨hr.l,hr.i,by have:=hr.le;omega,fun e=>by have:=hr.sz e;omega⟩
   refine T.cond (fun k=>?_) fun _=>T.cond (fun k=>?_) fun _=>T.cond (fun k=>?_) fun k=>?_
   ·have hk:t.gKind=2:=by simpa using k
    obtain ⟨a1,a2⟩:=adv (by rw [hk];decide);exact T.ret ⟨rfl,a1,by simp only;omega,fun _=>by simp only;rw [szE_1];omega⟩
   ·have hk:t.gKind=1:=by simpa using k
    have hk0:t.gKind ≠ 0:=by rw [hk];decide
    obtain ⟨a1,a2⟩:=adv hk0;exact T.bind (iI _ _ _ _ a1 rfl hm.lo hm.hi (by omega)) fun r hr=>T.ret (fin hk0 hr)
   ·have hk:t.gKind=3:=by simpa using k
    have hk0:t.gKind ≠ 0:=by rw [hk];decide
    obtain ⟨a1,a2⟩:=adv hk0;exact T.bind (iS _ _ _ a1 hm.lo hm.hi (by omega)) fun r hr=>T.ret (fin hk0 hr)
   by_cases hlt:m.gAt < (m.gL.length:Int)
   ·obtain ⟨a1,a2,a3⟩:=padv hm hlt;exact T.bind (pfail a1 hm.lo hm.hi (by decide)) fun r hr=>T.ret (perr hr.1 hr.2.1 hr.2.2)
   have h1:=hm.lo;have h2:=hm.hi;have h3:=hm.len
   unfold KaE;rw [e0];exact T.bind (P:=fun r=>r=⟨m.gL,m.gAt,3⟩) (T.ret rfl) fun r hr=>by subst hr;exact T.ret (perr rfl ⟨h1,h2,h3⟩ (by simp))
  ·show T (Kam (PG N).1 (PG N).2.1 (PG N).2.2.1 (PG N).2.2.2.1 (PG N).2.2.2.2 m x k at_) _
   unfold Kam;refine T.bind (P:=fun b=>b=false→m.gE=0∧m.gAt < (m.gL.length:Int)) (T.cond (fun _=>T.ret (by simp)) fun e=>?_) fun b hb=>T.cond (fun _=>T.ret ?_) fun e=>?_
   ·exact T.bind (pis hm _) fun b hb=>T.ret fun h=>⟨by simpa using e,hb (by simpa using h)⟩
   ·refine ⟨rfl,hm,Nat.le_refl _,fun _=>?_⟩;have:szE x=1:=by rw [Ke4,hx];simp [szEs]
    simp only;omega
   obtain ⟨e0,hlt⟩:=hb e;obtain ⟨a1,a2,a3⟩:=padv hm hlt;have a4:=a3 e0;have h5:=hm.le;refine T.bind (iA _ _ a1 (by omega)) fun r hr=>?_
   refine T.bind (psound (m:=r.2) hr.i (e:=⟨k,x.gN,x.gName,[r.1],x.gAt⟩) (fun e=>?_) (a:=at_) h1 (by rw [hr.l];exact h2)) fun q hq=>T.ret ?_
   ·have:=hr.sz e;rw [Kde];simp only [szEs];omega
   obtain ⟨q1,q2,q3⟩:=hq;by_cases eq0:q.2.gE=0
   ·obtain ⟨e1,e2,e3⟩:=q3 eq0;have:=hr.sz e1;have:=hr.le
    rw [e2,e3];exact ⟨hr.l,hr.i,by omega,fun _=>by rw [Kde];simp only [szEs];omega⟩
   exact perr (q1.trans hr.l) q2 eq0
  ·show T (KaP (PG N).1 (PG N).2.1 (PG N).2.2.1 (PG N).2.2.2.1 (PG N).2.2.2.2 m s) _
   unfold KaP;refine T.bind (iR m 0 hm (by omega) (by omega)) fun r hr=>T.cond (fun _=>?_) fun _=>T.ret hr
   exact T.bind (peat hr.i s) fun q hq=>T.ret (hr.trans hq fun _ _ h1 h2=>by simp only at *;omega)
  show T (KaJ (PG N).1 (PG N).2.1 (PG N).2.2.1 (PG N).2.2.2.1 (PG N).2.2.2.2 m t at_) _
  unfold KaJ;have h5:=hm.le;refine T.bind (P:=fun _=>True) (T.cond (fun _=>T.ret trivial) fun _=>T.ret trivial) fun b _=>T.cond (fun _=>?_) fun _=>T.cond (fun _=>?_) fun _=>T.cond (fun _=>?_) fun _=>T.cond (fun _=>?_) fun _=>T.cond (fun _=>?_) fun _=>?_
  ·refine T.bind (ppick _ _ _ _ _) fun op _=>T.bind (iU m hm (by omega)) fun r hr=>?_
   refine T.bind (psound (m:=r.2) hr.i (e:=⟨op,0,ByteArray.empty,[r.1],t.gAt⟩) (fun e=>?_) (a:=at_) h1 (by rw [hr.l];exact h2)) fun q hq=>T.ret ?_
   ·have:=hr.sz e;rw [Kde];simp only [szEs];omega
   obtain ⟨q1,q2,q3⟩:=hq;by_cases eq0:q.2.gE=0
   ·obtain ⟨e1,e2,e3⟩:=q3 eq0;have:=hr.sz e1;have:=hr.le
    rw [e2,e3];exact ⟨hr.l,hr.i,by omega,fun _=>by rw [Kde];simp only [szEs];omega⟩
   exact perr (q1.trans hr.l) q2 eq0
  ·exact T.bind (pname hm) fun r hr=>T.ret ⟨hr.l,hr.i,hr.le,fun e=>by have:=hr.sz e;simp only;rw [szE_1];omega⟩
  ·refine T.bind (pname hm) fun r hr=>?_
   have hle:=hr.le;refine T.bind (iI r.2 _ _ _ hr.i rfl h1 (by rw [hr.l];exact h2) (by omega)) fun q hq=>T.ret ?_
   refine ⟨hq.l.trans hr.l,hq.i,Nat.le_trans hq.le hr.le,fun e=>?_⟩;have:=hq.sz e;simp only;omega
  ·exact T.ret ⟨rfl,hm,Nat.le_refl _,fun _=>by simp only;rw [szE_1];omega⟩
  ·exact T.bind (iA m _ hm (by omega)) fun r hr=>T.ret ⟨hr.l,hr.i,hr.le,fun e=>by have:=hr.sz e;simp only;omega⟩
  exact T.bind (pfail hm h1 h2 (by decide)) fun r hr=>T.ret (perr hr.1 hr.2.1 hr.2.2)
theorem pexpr {L:List Kr}{a:Int}(h1:0≤a)(h2:a≤(L.length:Int))(hL:L.length≤5000):T (Kb2 L a) fun r=>0≤r.2.1∧r.2.1≤(L.length:Int)∧(r.2.2=0→a≤r.2.1∧(szE r.1:Int)≤r.2.1 - a):=by
 have hm:PI ⟨L,a,0⟩:=⟨h1,h2,hL⟩;have p0:prem ⟨L,a,0⟩=L.length+1 - a.toNat:=KeJ rfl;unfold Kb2;refine T.bind (P:=fun b=>b=false) (T.cond (fun e=>?_) fun _=>T.ret ?_) fun b hb=>?_
 ·have:=of_decide_eq_true e;omega
 ·simp;omega
 subst hb;rw [cond_false];obtain ⟨r,k1,k2⟩:=(ptot (12*prem ⟨L,a,0⟩+8)).1 ⟨L,a,0⟩ 0 hm (by omega) (by omega);have k1':=Kd3 _ _ _ k1;rw [show KcC (⟨L,a,0⟩:Kd) 0=_ from k1',Option.bind_some];have hl:r.2.gL=L:=k2.l;have i1:=k2.i.lo;have i2:=k2.i.hi
 rw [hl] at i2;refine T.cond (fun _=>T.ret ⟨i1,i2,?_⟩) fun e=>T.ret ⟨i1,i2,fun _=>?_⟩
 ·rename_i e;intro h;simp at e;exact absurd h e
 have e0:r.2.gE=0:=by simpa using e
 have:=k2.sz e0;have p1:=KeJ e0;rw [hl] at p1;have:=Ke4 r.1;simp only;omega
end
section
open Go
set_option linter.all false
def grem (m:Ka):Nat:=if m.gE=0 then m.gL.length+1 - m.gAt.toNat else 0
theorem KeK {m:Ka}(h:m.gE=0):grem m=m.gL.length+1 - m.gAt.toNat:=if_pos h
theorem Kgf {m:Ka}(h:m.gE ≠ 0):grem m=0:=if_neg h
structure GI (m:Ka):Prop where
 lo:0≤m.gAt
 hi:m.gAt≤(m.gL.length:Int)
 len:m.gL.length≤5000
structure GQ (m:Ka) (c s:Nat) (r:Ka):Prop where
 l:r.gL=m.gL
 i:GI r
 le:grem r≤grem m
 sz:r.gE=0→s+grem r≤grem m+c
theorem GI.pos {m:Ka}(h:GI m)(e:m.gE=0):1≤grem m:=by
 have:=h.lo;have:=h.hi
 rw [KeK e];omega
theorem GI.le {m:Ka}(h:GI m):grem m≤5001:=by
 have:=h.len;by_cases e:m.gE=0
 ·rw [KeK e];omega
 rw [Kgf e];omega
theorem GQ.refl {m:Ka}(h:GI m):GQ m 0 0 m:=⟨rfl,h,Nat.le_refl _,fun _=>by omega⟩
theorem gerr {m r:Ka}{c s:Nat}(h1:r.gL=m.gL)(h2:GI r)(h3:r.gE ≠ 0):GQ m c s r:=⟨h1,h2,by rw [Kgf h3];omega,fun e=>absurd e h3⟩
theorem GQ.trans {m r q:Ka}{c s s' c' t:Nat}(h1:GQ m c s r)(h2:GQ r c' s' q)(ht:t+c'≤s+s'):GQ m c t q:=by
 refine ⟨h2.l.trans h1.l,h2.i,Nat.le_trans h2.le h1.le,fun e=>?_⟩;have:=h2.i.pos e;have e1:r.gE=0:=by
  rcases Classical.em (r.gE=0) with e1|e1
  ·exact e1
  have:=h2.le;rw [Kgf e1] at this;omega
 have:=h1.sz e1;have:=h2.sz e
 omega
theorem GQ.vo {m r:Ka}{c s:Nat}(h:GQ m c s r)(v o:Int):GQ m c s ⟨r.gL,r.gAt,r.gE,v,o⟩:=⟨h.l,⟨h.i.lo,h.i.hi,h.i.len⟩,h.le,h.sz⟩
theorem GQ.less {m r:Ka}{s:Nat}(h:GQ m 0 s r)(hs:1≤s)(hm:GI m)(e:m.gE=0):grem r+1≤grem m:=by
 have:=hm.pos e;by_cases e1:r.gE=0
 ·have:=h.sz e1;omega
 rw [Kgf e1];omega
theorem gadv {m:Ka}(h:GI m)(hlt:m.gAt < (m.gL.length:Int))(e:m.gE=0):GQ m 0 1 ⟨m.gL,IntKind.i64.wrap (m.gAt+1),m.gE,m.gVars,m.gOpen⟩:=by
 have h1:=h.lo;have h2:=h.len
 have hw:IntKind.i64.wrap (m.gAt+1)=m.gAt+1:=by rw [IntKind.wrap_i64];omega
 rw [hw];have k1:=KeK e;have k2:=KeK (m:=⟨m.gL,m.gAt+1,m.gE,m.gVars,m.gOpen⟩) e;simp only at k2;exact ⟨rfl,⟨by simp only;omega,by simp only;omega,h2⟩,by omega,fun _=>by omega⟩
theorem glook {m:Ka}(h:GI m){a:Int}(ha:a=0∨a=1):T (KZ m a) fun t=>a=0→t.gKind ≠ 0→m.gAt < (m.gL.length:Int):=by
 have h1:=h.lo;have h2:=h.hi;have h3:=h.len
 have hw:IntKind.i64.wrap (m.gAt+a)=m.gAt+a:=by rw [IntKind.wrap_i64];omega
 unfold KZ;rw [hw];refine T.cond (fun _=>T.ret fun _ e=>absurd rfl e) fun hc=>?_
 have hc':m.gAt+a < (m.gL.length:Int):=by have:=of_decide_eq_false hc;omega
 obtain ⟨k,hk⟩:=Int.eq_ofNat_of_zero_le (show 0≤m.gAt+a by omega);rw [hk] at hc' ⊢;exact T.bind (P:=fun _=>True) (T.idx (by omega) fun _ _=>trivial) fun x _=>T.ret fun _ _=>by omega
theorem gis {m:Ka}(h:GI m){a:Int}(ha:a=0∨a=1)(s:ByteArray):T (Kaf m a s) fun b=>a=0→b=true→m.gAt < (m.gL.length:Int):=by
 unfold Kaf;refine T.bind (glook h ha) fun t ht=>T.cond (fun e=>T.ret fun a0 _=>ht a0 ?_) fun _=>T.ret (by simp)
 have:t.gKind=3:=by simpa using e
 rw [this];decide
theorem gfail {m:Ka}(h:GI m){a e:Int}(h1:0≤a)(h2:a≤(m.gL.length:Int))(he:e ≠ 0):T (K9 m a e) fun r=>r.gL=m.gL∧GI r∧r.gE ≠ 0:=by
 unfold K9;refine T.cond (fun _=>T.ret ⟨rfl,⟨h1,h2,h.len⟩,he⟩) fun e=>T.ret ⟨rfl,h,by simpa using e⟩
theorem geat {m:Ka}(h:GI m)(l:List ByteArray)(hl:l.length≤1000):T (KC m l) (GQ m 0 0):=by
 unfold KC;refine T.bind (P:=fun r=>(∀ p,r=Sum.inl p→GQ m 0 0 ⟨m.gL,p,m.gE,m.gVars,m.gOpen⟩)∧∀ q,r=Sum.inr q→GQ m 0 0 q) ?_ fun r hr=>?_
 ·refine T.loop (fun s=>(∃ k:Nat,s.1=(k:Int)∧k≤l.length)∧GQ m 0 0 ⟨m.gL,s.2,m.gE,m.gVars,m.gOpen⟩) (fun s=>l.length - s.1.toNat) ⟨⟨0,rfl,by omega⟩,GQ.refl h⟩ fun s hs=>?_
  obtain ⟨⟨k,hk,hk2⟩,hq⟩:=hs;obtain ⟨s1,s2⟩:=s;simp only at hk hq ⊢;subst hk;refine T.cond (fun hc=>?_) fun _=>T.ret ⟨fun p e=>(by cases e;exact hq),fun q e=>(by cases e)⟩
  have hlt:k < l.length:=by have:=of_decide_eq_true hc;omega
  refine T.bind (P:=fun _=>True) (T.idx hlt fun _ _=>trivial) fun x _=>T.cond (fun _=>T.ret ⟨fun p e=>(by cases e),fun q e=>(by cases e;exact hq)⟩) fun e=>?_
  have e0:m.gE=0:=by simpa using e
  refine T.bind (gis hq.i (.inl rfl) x) fun b hb=>T.cond (fun _=>?_) fun e=>?_
  ·exact T.bind (gfail hq.i hq.i.lo hq.i.hi (by decide)) fun r hr=>T.ret ⟨fun p e=>(by cases e),fun q e=>(by cases e;exact gerr hr.1 hr.2.1 hr.2.2)⟩
  have hadv:=hq.trans (gadv hq.i (hb rfl (by simpa using e)) e0) (t:=0) (by omega);have hw:=wn (n:=k) (by omega);exact T.ret ⟨⟨⟨k+1,hw,hlt⟩,hadv⟩,by simp only [hw,Int.toNat_natCast];omega⟩
 cases r with
 | inl p=>exact T.ret (hr.1 p rfl)
 | inr q=>exact T.ret (hr.2 q rfl)
theorem gmay {m:Ka}(h:GI m)(s:ByteArray):T (KI m s) fun r=>(r.1=true→m.gE=0∧r.2.gE=0∧GQ m 0 1 r.2)∧(r.1=false→r.2=m):=by
 unfold KI;refine T.bind (P:=fun b=>b=false→m.gE=0∧m.gAt < (m.gL.length:Int)) (T.cond (fun _=>T.ret (by simp)) fun e=>?_) fun b hb=>T.cond (fun _=>T.ret ⟨fun h=>(by cases h),fun _=>rfl⟩) fun e=>?_
 ·exact T.bind (gis h (.inl rfl) s) fun b hb=>T.ret fun h=>⟨by simpa using e,hb rfl (by simpa using h)⟩
 obtain ⟨e0,hlt⟩:=hb e;exact T.ret ⟨fun _=>⟨e0,e0,gadv h hlt e0⟩,fun h=>(by cases h)⟩
theorem gmayQ {m:Ka}(h:GI m)(s:ByteArray):T (KI m s) fun r=>GQ m 0 0 r.2∧(r.1=true→m.gE=0∧r.2.gE=0∧GQ m 0 1 r.2)∧(r.1=false→r.2=m):=(gmay h s).imp fun r hr=>by
 refine ⟨?_,hr⟩;cases e:r.1 with
 | true=>exact (hr.1 e).2.2.trans (GQ.refl (hr.1 e).2.2.i) (by omega)
 | false=>rw [hr.2 e];exact GQ.refl h
theorem gname {m:Ka}(h:GI m):T (Kaa m) fun r=>GQ m 0 1 r.2:=by
 unfold Kaa;refine T.cond (fun e=>T.ret (gerr rfl h (by simpa using e))) fun e=>T.bind (glook h (.inl rfl)) fun t ht=>T.cond (fun _=>?_) fun k=>?_
 ·exact T.bind (gfail h h.lo h.hi (by decide)) fun r hr=>T.ret (gerr hr.1 hr.2.1 hr.2.2)
 have hk:t.gKind=1:=by simpa using k
 exact T.ret (gadv h (ht rfl (by rw [hk];decide)) (by simpa using e))
theorem gexpr {m:Ka}(h:GI m):T (Kab m) fun r=>GQ m 0 (szE r.1) r.2:=by
 have h1:=h.lo;have h2:=h.hi
 unfold Kab;refine T.cond (fun e=>T.ret (gerr rfl h (by simpa using e))) fun e=>?_
 have e0:m.gE=0:=by simpa using e
 rw [show min m.gAt (m.gL.length:Int)=m.gAt by omega];refine T.bind (pexpr h1 h2 h.len) fun x hx=>T.cond (fun k=>?_) fun k=>T.ret ?_
 ·exact T.bind (gfail h hx.1 hx.2.1 (by simpa using k)) fun r hr=>T.ret (gerr hr.1 hr.2.1 hr.2.2)
 obtain ⟨k1,k2⟩:=hx.2.2 (by simpa using k);have i1:=hx.2.1;have g1:=KeK e0;have g2:=KeK (m:=⟨m.gL,x.2.1,m.gE,m.gVars,m.gOpen⟩) e0;simp only at g2;exact ⟨rfl,⟨hx.1,hx.2.1,h.len⟩,by simp only;omega,fun _=>by simp only;omega⟩
theorem gvar {m:Ka}(h:GI m):T (Kas m) fun r=>GQ m 0 1 r.2:=by
 unfold Kas;refine T.bind (geat h _ (by simp)) fun x1 h1=>T.bind (gmayQ h1.i _) fun x2 h2=>T.bind (gname h2.1.i) fun x3 h3=>?_
 have q:GQ m 0 1 x3.2:=(h1.trans h2.1 (by omega)).trans h3 (t:=1) (s:=0) (by omega);have q':=q.vo (IntKind.i64.wrap (x3.2.gVars+1)) x3.2.gOpen;refine T.cond (fun _=>?_) fun _=>T.ret q'
 have e3:x3.2.gL=x2.2.gL:=h3.l;refine T.bind (gfail q'.i (a:=x2.2.gAt) h2.1.i.lo (by simp only;rw [e3];exact h2.1.i.hi) (by decide)) fun r hr=>T.ret (gerr (hr.1.trans q'.l) hr.2.1 hr.2.2)
theorem glist {A:Type}{one:Ka→Option (A×Ka)}{sz:A→Nat}(hone:∀ {m},GI m→T (one m) fun r=>GQ m 0 (sz r.1) r.2)(szL:List A→Nat)(h0:szL []=0)(ha:∀ l x,szL (l++[x])=szL l+sz x){bb:Nat}(hbb:bb≤4096)
  {F:List A×List Kr×Int×Int×Int×Int→Option (Step (List A×List Kr×Int×Int×Int×Int) (List A×List Kr×Int×Int×Int×Int))}
  (hF:∀ s,F s=(bif (s.2.2.2.1==(0:Int)) then ((one (⟨s.2.1,s.2.2.1,s.2.2.2.1,s.2.2.2.2.1,s.2.2.2.2.2⟩:Ka)).bind fun x43=>((app bb s.1 ([x43.1]:List A)).bind fun x44=>((KI x43.2 (ByteArray.mk #[44])).bind fun x45=>(bif (!x45.1) then some (.done (x44,x45.2.gL,x45.2.gAt,x45.2.gE,x45.2.gVars,x45.2.gOpen)) else some (.next (x44,x45.2.gL,x45.2.gAt,x45.2.gE,x45.2.gVars,x45.2.gOpen)))))) else some (.done (s.1,s.2.1,s.2.2.1,s.2.2.2.1,s.2.2.2.2.1,s.2.2.2.2.2))))
  {m:Ka} (h:GI m) :
  T ((KC m ([qZ3]:List ByteArray)).bind fun x1=>((KI x1 qZ5).bind fun x2=>(bif x2.1 then some (([]:List A),x2.2) else (Option.bind (loopM F (([]:List A),x2.2.gL,x2.2.gAt,x2.2.gE,x2.2.gVars,x2.2.gOpen)) fun y27=>((KC (⟨y27.2.1,y27.2.2.1,y27.2.2.2.1,y27.2.2.2.2.1,y27.2.2.2.2.2⟩:Ka) ([qZ5]:List ByteArray)).bind fun x47=>some (y27.1,x47)))))) fun r=>GQ m 0 (szL r.1) r.2∧r.1.length≤5002:=by
 refine T.bind (geat h _ (by simp)) fun x1 h1=>T.bind (gmayQ h1.i _) fun x2 h2=>?_
 have q2:GQ m 0 0 x2.2:=h1.trans h2.1 (by omega);refine T.cond (fun _=>T.ret ⟨by simp only;rw [h0];exact q2,by simp⟩) fun _=>?_
 refine T.bind (P:=fun s:List A×List Kr×Int×Int×Int×Int=>GQ m 0 (szL s.1) ⟨s.2.1,s.2.2.1,s.2.2.2.1,s.2.2.2.2.1,s.2.2.2.2.2⟩∧s.1.length≤5002) ?_ fun s hs=>T.bind (geat hs.1.i _ (by simp)) fun x3 h3=>T.ret ⟨hs.1.trans h3 (by simp only;omega),hs.2⟩
 have hm:=h.le;refine T.loop (fun s:List A×List Kr×Int×Int×Int×Int=>GQ m 0 (szL s.1) ⟨s.2.1,s.2.2.1,s.2.2.2.1,s.2.2.2.2.1,s.2.2.2.2.2⟩∧s.1.length+grem ⟨s.2.1,s.2.2.1,s.2.2.2.1,s.2.2.2.2.1,s.2.2.2.2.2⟩≤grem m) (fun s=>grem ⟨s.2.1,s.2.2.1,s.2.2.2.1,s.2.2.2.2.1,s.2.2.2.2.2⟩) ⟨by simp only;rw [h0];exact q2,by simp only [List.length_nil,Nat.zero_add];exact q2.le⟩ fun s hs=>?_
 obtain ⟨acc,L,p,e,v,o⟩:=s;obtain ⟨hs,hl⟩:=hs;rw [hF];simp only at hs hl ⊢;refine T.cond (fun he=>?_) fun _=>T.ret ⟨hs,by simp only;omega⟩
 refine T.bind (hone hs.i) fun x hx=>?_
 rw [Kct hbb (by simp;omega),Option.bind_some];have hq:GQ m 0 (szL (acc++[x.1])) x.2:=hs.trans hx (by rw [ha];omega);refine T.bind (gmay hx.i _) fun y hy=>T.cond (fun k=>T.ret ?_) fun k=>T.ret ?_
 ·have:=hy.2 (by simpa using k);rw [this];exact ⟨hq,by simp;omega⟩
 obtain ⟨y1,y2,y3⟩:=hy.1 (by simpa using k);have:=y3.sz y2;have:=hx.le;refine ⟨⟨(hq.trans y3 (t:=szL (acc++[x.1])) (by omega)).vo _ _,?_⟩,?_⟩
 ·show (acc++[x.1]).length+grem y.2≤_
  simp only [List.length_append,List.length_singleton];omega
 show grem y.2 < _
 omega
theorem glistE {m:Ka}(h:GI m):T (KaY m) fun r=>GQ m 0 (szEs r.1) r.2∧r.1.length≤5002:=by
 unfold KaY;exact glist (fun h=>gexpr h) szEs (by simp [szEs]) (fun l x=>by rw [KgX];simp [szEs]) (by omega) (fun _=>rfl) h
theorem glistV {m:Ka}(h:GI m):T (Ka4 m) fun r=>GQ m 0 (r.1.length*1) r.2∧r.1.length≤5002:=by
 unfold Ka4;exact glist (sz:=fun _=>1) (fun h=>gvar h) (fun l=>l.length*1) (by simp) (fun l x=>by simp) (by omega) (fun _=>rfl) h
theorem Kc4 (a:Int)(b c:ByteArray)(es:List Kc)(ks ls:List Ki)(d:Int):szS ⟨a,b,c,es,ks,ls,d⟩=1+szSs ks+szSs ls+szEs es:=by rw [KfP]
theorem Kdp:szSs []=0:=by simp [szSs]
theorem szEs_0:szEs []=0:=by simp [szEs]
theorem szEs_1 (x:Kc):szEs [x]=szE x:=by simp [szEs]
theorem szEs_2 (x y:Kc):szEs [x,y]=szE x+szE y:=by simp [szEs]
theorem gcall {m:Ka}(h:GI m){a:Ki}(hk:a.gKids=[])(he:a.gElse=[]):T (KaS m a) fun r=>GQ m 0 (szS r.1) r.2:=by
 unfold KaS;refine T.bind (gname h) fun x1 h1=>T.bind (glistE h1.i) fun x2 h2=>T.bind (geat h2.1.i _ (by simp)) fun x3 h3=>T.ret ?_
 simp only;rw [Kc4,hk,he,Kdp];exact (h1.trans h2.1 (t:=1+szEs x2.1) (by omega)).trans h3 (by omega)
theorem gassign {m:Ka}(h:GI m){a:Ki}(hk:a.gKids=[])(he:a.gElse=[])(hx:a.gExps=[]):T (Kap m a) fun r=>GQ m 1 (szS r.1) r.2:=by
 have lift:∀ {s:Nat} {r:Ka},GQ m 0 s r→GQ m 1 (s+1) r:=fun q=>⟨q.l,q.i,q.le,fun e=>by have:=q.sz e;omega⟩
 have low:∀ {s:Nat} {r:Ka},GQ m 0 s r→GQ m 1 s r:=fun q=>⟨q.l,q.i,q.le,fun e=>by have:=q.sz e;omega⟩
 unfold Kap;refine T.bind (gmayQ h _) fun x1 h1=>T.cond (fun k=>?_) fun k=>?_
 ·refine T.bind (geat h1.1.i _ (by simp)) fun x2 h2=>T.ret ?_
  simp only;rw [Kc4,hk,he,hx,Kdp,szEs_0];exact low ((h1.2.1 k).2.2.trans h2 (by omega))
 rw [h1.2.2 k];refine T.bind (P:=fun _=>True) (T.bind (glook h (.inl rfl)) fun t _=>T.cond (fun _=>T.bind (gis h (.inr rfl) _) fun _ _=>T.ret trivial) fun _=>T.ret trivial) fun b _=>T.cond (fun _=>?_) fun _=>?_
 ·exact T.bind (gcall h hk he) fun x hx=>T.ret (low hx)
 refine T.bind (gexpr h) fun x2 h2=>T.bind (geat h2.i _ (by simp)) fun x3 h3=>T.ret ?_
 simp only;rw [Kc4,hk,he,Kdp,szEs_1,show 1+0+0+szE x2.1=szE x2.1+1 by omega];exact lift (h2.trans h3 (by omega))
theorem gnamed {m:Ka}(h:GI m){a:Ki}(hk:a.gKids=[])(he:a.gElse=[])(hx:a.gExps=[]):T (Kaw m a) fun r=>GQ m 0 (szS r.1) r.2:=by
 unfold Kaw;refine T.bind (gis h (.inr rfl) _) fun b _=>T.cond (fun _=>T.bind (gcall h hk he) fun x hx=>T.ret hx) fun _=>?_
 refine T.bind (gname h) fun x1 h1=>T.bind (gmayQ h1.i _) fun x2 h2=>T.cond (fun k=>?_) fun k=>?_
 ·refine T.bind (gexpr h2.1.i) fun x3 h3=>T.bind (geat h3.i _ (by simp)) fun x4 h4=>T.bind (gexpr h4.i) fun x5 h5=>T.bind (geat h5.i _ (by simp)) fun x6 h6=>T.ret ?_
  simp only;rw [Kc4,hk,he,Kdp,szEs_2];exact ((((h1.trans h2.1 (t:=1) (by omega)).trans h3 (t:=1+szE x3.1) (by omega)).trans h4 (t:=1+szE x3.1) (by omega)).trans h5 (t:=1+szE x3.1+szE x5.1) (by omega)).trans h6 (by omega)
 refine T.bind (geat h2.1.i _ (by simp)) fun x3 h3=>T.bind (gassign h3.i (a:=⟨a.gOp,x1.1,a.gFunc,a.gExps,a.gKids,a.gElse,a.gAt⟩) hk he hx) fun x4 h4=>T.ret ?_
 exact ((h1.trans h2.1 (t:=1) (by omega)).trans h3 (t:=1) (by omega)).trans h4 (by simp only;omega)
theorem gtest {m:Ka}(h:GI m):T (KaT m) fun r=>GQ m 0 (szEs r.1) r.2:=by
 unfold KaT;refine T.bind (geat h _ (by simp)) fun x1 h1=>T.bind (gexpr h1.i) fun x2 h2=>T.bind (geat h2.i _ (by simp)) fun x3 h3=>T.ret ?_
 simp only;rw [szEs_1];exact (h1.trans h2 (t:=szE x2.1) (by omega)).trans h3 (by omega)
theorem gblk {one:Ka→Option (Ki×Ka)}{m:Ka}(h:GI m)(hone:∀ {r},GI r→grem r≤grem m→T (one r) fun q=>GQ r 0 (szS q.1) q.2){F:List Ki×List Kr×Int×Int×Int×Int→Option (Step (List Ki×List Kr×Int×Int×Int×Int) (List Ki×List Kr×Int×Int×Int×Int))}
  (hF:∀ s38,F s38=(Option.bind (α:=Bool×List Kr×Int×Int×Int×Int) (bif (s38.2.2.2.1==(0:Int)) then ((KI (⟨s38.2.1,s38.2.2.1,s38.2.2.2.1,s38.2.2.2.2.1,s38.2.2.2.2.2⟩:Ka) qZ11).bind fun x62=>some ((!x62.1),x62.2.gL,x62.2.gAt,x62.2.gE,x62.2.gVars,x62.2.gOpen)) else some (false,s38.2.1,s38.2.2.1,s38.2.2.2.1,s38.2.2.2.2.1,s38.2.2.2.2.2)) fun y60=>(bif y60.1 then ((one (⟨y60.2.1,y60.2.2.1,y60.2.2.2.1,y60.2.2.2.2.1,y60.2.2.2.2.2⟩:Ka)).bind fun x64=>((app 120 s38.1 ([x64.1]:List Ki)).bind fun x65=>some (.next (x65,x64.2.gL,x64.2.gAt,x64.2.gE,x64.2.gVars,x64.2.gOpen)))) else some (.done (s38.1,y60.2.1,y60.2.2.1,y60.2.2.2.1,y60.2.2.2.2.1,y60.2.2.2.2.2))))) :
  T (loopM F (([]:List Ki),m.gL,m.gAt,m.gE,m.gVars,m.gOpen)) fun s=>GQ m 0 (szSs s.1) ⟨s.2.1,s.2.2.1,s.2.2.2.1,s.2.2.2.2.1,s.2.2.2.2.2⟩:=by
 have hm:=h.le;refine T.loop (fun s:List Ki×List Kr×Int×Int×Int×Int=>GQ m 0 (szSs s.1) ⟨s.2.1,s.2.2.1,s.2.2.2.1,s.2.2.2.2.1,s.2.2.2.2.2⟩∧s.1.length+grem ⟨s.2.1,s.2.2.1,s.2.2.2.1,s.2.2.2.2.1,s.2.2.2.2.2⟩≤grem m) (fun s=>grem ⟨s.2.1,s.2.2.1,s.2.2.2.1,s.2.2.2.2.1,s.2.2.2.2.2⟩) ⟨by simp only;rw [Kdp];exact GQ.refl h,by simp only [List.length_nil,Nat.zero_add];exact Nat.le_refl _⟩ fun s hs=>?_
 obtain ⟨acc,L,p,e,v,o⟩:=s;obtain ⟨hs,hl⟩:=hs;rw [hF];simp only at hs hl ⊢;refine T.bind (P:=fun y:Bool×List Kr×Int×Int×Int×Int=>(y.1=true→e=0∧y.2=(L,p,e,v,o))∧GQ m 0 (szSs acc) ⟨y.2.1,y.2.2.1,y.2.2.2.1,y.2.2.2.2.1,y.2.2.2.2.2⟩) (T.cond (fun he=>?_) fun _=>T.ret ⟨fun h=>(by cases h),hs⟩) fun y hy=>T.cond (fun k=>?_) fun _=>T.ret hy.2
 ·refine T.bind (gmayQ hs.i _) fun x hx=>T.ret ⟨fun k=>?_,(hs.trans hx.1 (t:=szSs acc) (by omega)).vo _ _⟩
  have:=hx.2.2 (by simpa using k);rw [this];exact ⟨by simpa using he,rfl⟩
 obtain ⟨e0,ey⟩:=hy.1 k;rw [ey];simp only;refine T.bind (hone hs.i hs.le) fun x hx=>?_
 rw [Kct (by omega) (by simp;omega),Option.bind_some];have h1:1≤szS x.1:=by rw [KfP];omega
 have h2:=hx.less h1 hs.i e0;refine T.ret ⟨⟨(hs.trans hx (t:=szSs (acc++[x.1])) (by rw [Kfu];simp only [szSs];omega)).vo _ _,?_⟩,?_⟩
 ·show (acc++[x.1]).length+grem x.2≤_
  simp only [List.length_append,List.length_singleton];omega
 show grem x.2 < _
 omega
theorem gopen {m:Ka}(h:GI m){β:Type}{f:List Kr×Int×Int×Int×Int→Option β}{Q:β→Prop}(g:∀ y:List Kr×Int×Int×Int×Int,GQ m 0 0 ⟨y.1,y.2.1,y.2.2.1,y.2.2.2.1,IntKind.i64.wrap (y.2.2.2.2+1)⟩→T (f y) Q) :
  T ((KC m qZ7).bind fun x1=>(Option.bind (α:=List Kr×Int×Int×Int×Int) (bif (decide ((24:Int)≤x1.gOpen)) then ((K9 x1 m.gAt (5:Int)).bind fun x6=>some (x6.gL,x6.gAt,x6.gE,x6.gVars,x6.gOpen)) else some (x1.gL,x1.gAt,x1.gE,x1.gVars,x1.gOpen)) f)) Q:=by
 refine T.bind (geat h _ (by simp)) fun x1 h1=>T.bind (P:=fun y:List Kr×Int×Int×Int×Int=>GQ m 0 0 ⟨y.1,y.2.1,y.2.2.1,y.2.2.2.1,IntKind.i64.wrap (y.2.2.2.2+1)⟩) (T.cond (fun _=>?_) fun _=>T.ret (h1.vo _ _)) fun y hy=>g y hy
 refine T.bind (gfail h1.i (a:=m.gAt) h.lo (by rw [h1.l];exact h.hi) (by decide)) fun r hr=>T.ret ?_
 exact (gerr (m:=m) (c:=0) (s:=0) (hr.1.trans h1.l) hr.2.1 hr.2.2).vo _ _
abbrev SG (N:Nat):=KM N
theorem stot:∀ N:Nat,(∀ m:Ka,GI m→2*grem m+1≤N→T ((SG N).1 m) fun r=>GQ m 0 (szS r.1) r.2)∧(∀ m:Ka,GI m→2*grem m+2≤N→T ((SG N).2 m) fun r=>GQ m 0 (szSs r.1) r.2)
 | 0=>⟨fun m _ h=>by omega,fun m _ h=>by omega⟩
 |
  N+1=>by
  obtain ⟨iS,iB⟩:=stot N;refine ⟨fun m hm hN=>?_,fun m hm hN=>?_⟩
  ·show T (Kax (SG N).1 (SG N).2 m) _
   unfold Kax;refine T.bind (glook hm (.inl rfl)) fun t _=>T.cond (fun _=>T.bind (gnamed hm rfl rfl rfl) fun x hx=>T.ret hx) fun _=>?_
   refine T.bind (gmay hm _) fun x1 h1=>T.cond (fun k=>?_) fun k=>?_
   ·obtain ⟨_,_,q1⟩:=h1.1 k;refine T.bind (gname q1.i) fun x2 h2=>T.bind (geat h2.i _ (by simp)) fun x3 h3=>T.bind (gexpr h3.i) fun x4 h4=>T.bind (geat h4.i _ (by simp)) fun x5 h5=>T.ret ?_
    simp only;rw [Kc4,Kdp,szEs_1];exact (((q1.trans h2 (t:=1) (by omega)).trans h3 (t:=1) (by omega)).trans h4 (t:=1+szE x4.1) (by omega)).trans h5 (by omega)
   rw [h1.2 k];refine T.bind (gmay hm _) fun x1 h1=>T.cond (fun k=>?_) fun k=>?_
   ·obtain ⟨_,_,q1⟩:=h1.1 k;have l1:=q1.sz (h1.1 k).2.1;refine T.bind (gtest q1.i) fun x2 h2=>?_
    have l2:=h2.le;refine T.bind (iB x2.2 h2.i (by omega)) fun x3 h3=>?_
    have l3:=h3.le;refine T.bind (gmayQ h3.i _) fun x4 h4=>?_
    have l4:=h4.1.le;have q3:GQ m 0 (1+szEs x2.1+szSs x3.1) x4.2:=((q1.trans h2 (t:=1+szEs x2.1) (by omega)).trans h3 (t:=1+szEs x2.1+szSs x3.1) (by omega)).trans h4.1 (by omega);refine T.cond (fun _=>T.bind (iB x4.2 h4.1.i (by omega)) fun x5 h5=>T.ret ?_) fun _=>T.ret ?_
    ·simp only;rw [Kc4];exact q3.trans h5 (by omega)
    simp only;rw [Kc4,Kdp];exact q3.trans (GQ.refl q3.i) (by omega)
   rw [h1.2 k];refine T.bind (gmay hm _) fun x1 h1=>T.cond (fun k=>?_) fun k=>?_
   ·obtain ⟨_,_,q1⟩:=h1.1 k;have l1:=q1.sz (h1.1 k).2.1;refine T.bind (gtest q1.i) fun x2 h2=>?_
    have l2:=h2.le;refine T.bind (iB x2.2 h2.i (by omega)) fun x3 h3=>T.ret ?_
    simp only;rw [Kc4,Kdp];exact (q1.trans h2 (t:=1+szEs x2.1) (by omega)).trans h3 (by omega)
   rw [h1.2 k];refine T.bind (gmay hm _) fun x1 h1=>T.cond (fun k=>?_) fun k=>?_
   ·obtain ⟨_,_,q1⟩:=h1.1 k;refine T.bind (gexpr q1.i) fun x2 h2=>T.bind (geat h2.i _ (by simp)) fun x3 h3=>T.ret ?_
    simp only;rw [Kc4,Kdp,szEs_1];exact (q1.trans h2 (t:=1+szE x2.1) (by omega)).trans h3 (by omega)
   rw [h1.2 k];refine T.bind (gmay hm _) fun x1 h1=>T.cond (fun k=>?_) fun k=>?_
   ·obtain ⟨_,_,q1⟩:=h1.1 k;refine T.bind (gtest q1.i) fun x2 h2=>T.bind (geat h2.i _ (by simp)) fun x3 h3=>T.ret ?_
    simp only;rw [Kc4,Kdp];exact (q1.trans h2 (t:=1+szEs x2.1) (by omega)).trans h3 (by omega)
   rw [h1.2 k];exact T.bind (gfail hm hm.lo hm.hi (by decide)) fun r hr=>T.ret (gerr hr.1 hr.2.1 hr.2.2)
  show T (Kat (SG N).1 (SG N).2 m) _
  unfold Kat grammar_nothing;refine gopen hm fun y hy=>?_
  rw [Option.bind_some];have l1:=hy.le;refine T.bind (gblk (m:=⟨y.1,y.2.1,y.2.2.1,y.2.2.2.1,IntKind.i64.wrap (y.2.2.2.2+1)⟩) hy.i (fun hr hl=>iS _ hr (by omega)) (fun _=>rfl)) fun s hs=>T.ret ?_
  exact (hy.trans hs (by simp only;omega)).vo _ _
theorem gstmt {m:Ka}(h:GI m):T (KbR m) fun r=>GQ m 0 (szS r.1) r.2:=by
 obtain ⟨r,h1,h2⟩:=(stot (2*grem m+1)).1 m h (Nat.le_refl _);exact ⟨r,Kdo m _ h1,h2⟩
theorem glocals {m:Ka}(h:GI m)(f:K1)(hf:f.gLocals=[]):T (KaH f m) fun r=>GQ m 0 0 r.1∧r.2.gParams=f.gParams∧r.2.gLocals.length≤5001:=by
 have hm:=h.le;unfold KaH;refine T.bind (P:=fun s:List Kr×Int×Int×Int×Int×List K3=>GQ m 0 0 ⟨s.1,s.2.1,s.2.2.1,s.2.2.2.1,s.2.2.2.2.1⟩∧s.2.2.2.2.2.length≤5001) ?_ fun s hs=>T.ret ⟨hs.1,rfl,hs.2⟩
 refine T.loop (fun s:List Kr×Int×Int×Int×Int×List K3=>GQ m 0 0 ⟨s.1,s.2.1,s.2.2.1,s.2.2.2.1,s.2.2.2.2.1⟩∧s.2.2.2.2.2.length+grem ⟨s.1,s.2.1,s.2.2.1,s.2.2.2.1,s.2.2.2.2.1⟩≤grem m) (fun s=>grem ⟨s.1,s.2.1,s.2.2.1,s.2.2.2.1,s.2.2.2.2.1⟩) ⟨GQ.refl h,by simp only [hf,List.length_nil,Nat.zero_add];exact Nat.le_refl _⟩ fun s hs=>?_
 obtain ⟨L,p,e,v,o,acc⟩:=s;obtain ⟨hs,hl⟩:=hs;simp only at hs hl ⊢;refine T.bind (P:=fun b=>b=true→e=0) (T.cond (fun he=>T.bind (gis hs.i (.inl rfl) _) fun b _=>T.ret fun _=>by simpa using he) fun _=>T.ret (by simp)) fun b hb=>T.cond (fun k=>?_) fun _=>T.ret ⟨hs,by simp only;omega⟩
 refine T.bind (gvar hs.i) fun x hx=>?_
 have h2:=hx.less (Nat.le_refl _) hs.i (hb k);rw [Kct (by omega) (by simp;omega),Option.bind_some];refine T.bind (geat hx.i _ (by simp)) fun y hy=>T.ret ⟨⟨(hs.trans hx (t:=1) (by omega)).trans hy (by omega),?_⟩,?_⟩
 ·have:=hy.le;show (acc++[x.1]).length+grem y≤_
  simp only [List.length_append,List.length_singleton];omega
 have:=hy.le;show grem y < _
 omega
theorem gblock {m:Ka}(h:GI m)(f:K1)(hf:f.gLocals=[]):T (Kbt m f) fun r=>GQ m 0 (szSs r.1) r.2.1∧r.2.2.gParams=f.gParams∧r.2.2.gLocals.length≤5001:=by
 unfold Kbt;refine gopen h fun y hy=>T.bind (glocals hy.i f hf) fun x hx=>?_
 refine T.bind (gblk (m:=x.1) hx.1.i (fun hr _=>gstmt hr) (fun _=>rfl)) fun s hs=>T.ret ⟨?_,hx.2⟩
 exact ((hy.trans hx.1 (t:=0) (by omega)).trans hs (by simp only;omega)).vo _ _
theorem size_t':∀ (n:Nat) (e:Kc),dpE e≤n→szE e≤1048576→T (Kbw n e) fun _=>True
 | 0,e,h,_=>by have:=KdZ e;omega
 |
  n+1,e,h,hs=>by
  show T (Kcq (Kbw n) e) _
  have h1:=KdZ e;have h2:=Ke4 e;have h3:=Kdu e.gKids
  unfold Kcq;refine T.bind (P:=fun _=>True) (T.loop (fun s=>∃ k:Nat,s.2=(k:Int)∧k≤e.gKids.length) (fun s=>e.gKids.length - s.2.toNat) ⟨0,rfl,Nat.zero_le _⟩ fun s hs'=>?_) fun _ _=>T.ret trivial
  obtain ⟨k,hk,hk2⟩:=hs';obtain ⟨s1,s2⟩:=s;simp only at hk;subst hk;refine T.cond (fun hc=>?_) fun _=>T.ret trivial
  have hlt:k < e.gKids.length:=by have:=of_decide_eq_true hc;simp only at this;omega
  refine T.bind (P:=fun x=>x∈e.gKids) (T.idx hlt fun x hx=>List.mem_of_getElem? hx) fun x hx=>?_
  have:=KfO hx;have:=KeI hx
  refine T.bind (size_t' n x (by omega) (by omega)) fun _ _=>T.ret ?_
  have hw:=wn (n:=k) (by omega);exact ⟨⟨k+1,hw,hlt⟩,by simp only [hw,Int.toNat_natCast];omega⟩
theorem size_t {e:Kc}(h:szE e≤1048576):T (Kfj e) fun _=>True:=by
 obtain ⟨r,h1,_⟩:=size_t' (dpE e) e (Nat.le_refl _) h;exact ⟨r,Kik e _ h1,trivial⟩
theorem Khg:∀ (n:Nat) (l:List Ki),hSs l≤n→szSs l≤1048576→T (Kbl n l) fun _=>True
 | 0,l,h,_=>by have:=hSs_pos l;omega
 |
  n+1,l,h,hs=>by
  show T (Kch (Kbl n) l) _
  have h3:=Kge l;unfold Kch;refine T.bind (P:=fun _=>True) (T.loop (fun s=>∃ k:Nat,s.2=(k:Int)∧k≤l.length) (fun s=>l.length - s.2.toNat) ⟨0,rfl,Nat.zero_le _⟩ fun s hs'=>?_) fun _ _=>T.ret trivial
  obtain ⟨k,hk,hk2⟩:=hs';obtain ⟨s1,s2⟩:=s;simp only at hk;subst hk;refine T.cond (fun hc=>?_) fun _=>T.ret trivial
  have hlt:k < l.length:=by have:=of_decide_eq_true hc;simp only at this;omega
  refine T.bind (P:=fun x=>x∈l) (T.idx hlt fun x hx=>List.mem_of_getElem? hx) fun x hx=>?_
  have:=hS_mem hx;have:=szS_mem hx;have:=hS_eq x;have:=KfP x;have h4:=Kdu x.gExps
  refine T.bind (Khg n x.gKids (by omega) (by omega)) fun _ _=>T.bind (Khg n x.gElse (by omega) (by omega)) fun _ _=>?_
  refine T.bind (P:=fun _=>True) (T.loop (fun s=>∃ k:Nat,s.2=(k:Int)∧k≤x.gExps.length) (fun s=>x.gExps.length - s.2.toNat) ⟨0,rfl,Nat.zero_le _⟩ fun s hs'=>?_) fun _ _=>T.ret ?_
  ·obtain ⟨j,hj,hj2⟩:=hs';obtain ⟨s1,s2⟩:=s;simp only at hj;subst hj;refine T.cond (fun hc=>?_) fun _=>T.ret trivial
   have hlt:j < x.gExps.length:=by have:=of_decide_eq_true hc;simp only at this;omega
   refine T.bind (P:=fun y=>y∈x.gExps) (T.idx hlt fun y hy=>List.mem_of_getElem? hy) fun y hy=>?_
   have:=KeI hy;refine T.bind (size_t (by omega)) fun _ _=>T.ret ?_
   have hw:=wn (n:=j) (by omega);exact ⟨⟨j+1,hw,hlt⟩,by simp only [hw,Int.toNat_natCast];omega⟩
  have hw:=wn (n:=k) (by omega);exact ⟨⟨k+1,hw,hlt⟩,by simp only [hw,Int.toNat_natCast];omega⟩
theorem sizes_t {l:List Ki}(h:szSs l≤1048576):T (KeD l) fun _=>True:=by
 obtain ⟨r,h1,_⟩:=Khg (hSs l) l (Nat.le_refl _) h;exact ⟨r,Kif l _ h1,trivial⟩
theorem gfunction {m:Ka}(h:GI m):T (KaF m) fun r=>r.2.gL=m.gL∧GI r.2∧(r.2.gE=0→FS r.1):=by
 have hm:=h.le;unfold KaF;refine T.bind (glook h (.inl rfl)) fun t _=>T.bind (geat h _ (by simp)) fun x1 h1=>T.bind (gname h1.i) fun x2 h2=>T.bind (glistV h2.i) fun x3 h3=>?_
 refine T.bind (gblock h3.1.i ⟨x2.1,x3.1,[],[],t.gAt⟩ rfl) fun x4 h4=>?_
 have q:GQ m 0 (szSs x4.1) x4.2.1:=((h1.trans h2 (t:=0) (by omega)).trans h3.1 (t:=0) (by omega)).trans h4.1 (by omega);have fs:x4.2.1.gE=0→FS ⟨x4.2.2.gName,x4.2.2.gParams,x4.2.2.gLocals,x4.1,x4.2.2.gAt⟩:=fun e=>by
  have:=q.sz e;refine ⟨?_,?_,?_⟩
  ·simp only;rw [h4.2.1];have:=h3.2;simp only;omega
  ·have:=h4.2.2;simp only;omega
  simp only;omega
 refine T.bind (P:=fun _=>True) (T.cond (fun e=>?_) fun _=>T.ret trivial) fun b _=>T.cond (fun _=>?_) fun _=>T.ret ⟨q.l,q.i,fs⟩
 ·have:=q.sz (by simpa using e);exact T.bind (sizes_t (by omega)) fun _ _=>T.ret trivial
 exact T.bind (gfail q.i (a:=x1.gAt) h1.i.lo (by rw [q.l,← h1.l];exact h1.i.hi) (by decide)) fun r hr=>T.ret ⟨hr.1.trans q.l,hr.2.1,fun e=>absurd e hr.2.2⟩
theorem gtext {A:Type}{b:List UInt8}{none_:A}{at_:Kr→Int}{of:List Kr→Int→Option (A×Int×Int)}{P:A→Prop}(hof:∀ l:List Kr,l.length≤5000→T (of l 0) fun r=>0≤r.2.1∧(r.2.2=0→P r.1)) :
  T ((KbM b).bind fun x4=>(bif (x4.2.2 != (0:Int)) then some (none_,x4.2.1,x4.2.2) else ((of x4.1 (0:Int)).bind fun x14=>((idx x4.1 (min x14.2.1 (IntKind.i64.wrap ((x4.1.length:Int) - (1:Int))))).bind fun x16=>(bif (x14.2.2 != (0:Int)) then some (none_,x16.gAt,x14.2.2) else (bif (x16.gKind != (0:Int)) then some (none_,x16.gAt,(3:Int)) else some (x14.1,(0:Int),(0:Int)))))))) fun r=>r.2.2=0→P r.1:=by
 refine T.bind (tread b) fun x hx=>T.cond (fun e=>T.ret fun h=>?_) fun e=>?_
 ·simp at e;exact absurd h e
 obtain ⟨k1,k2⟩:=hx (by simpa using e);refine T.bind (hof x.1 (by omega)) fun y hy=>?_
 have hw:IntKind.i64.wrap ((x.1.length:Int) - 1)=(x.1.length:Int) - 1:=by rw [IntKind.wrap_i64];omega
 rw [hw];have h0:=hy.1;obtain ⟨k,hk⟩:=Int.eq_ofNat_of_zero_le (show 0≤min y.2.1 ((x.1.length:Int) - 1) by omega);rw [hk];refine T.bind (P:=fun _=>True) (T.idx (by omega) fun _ _=>trivial) fun t _=>T.cond (fun e=>T.ret fun h=>?_) fun e=>T.cond (fun _=>T.ret (by simp)) fun _=>T.ret fun _=>hy.2 (by simpa using e)
 simp at e;exact absurd h e
theorem readsF:ReadsF:=fun b=>by
 have key:T (KaN b) fun r=>r.2.2=0→FS r.1:=by
  unfold KaN KbD;refine T.bind (gtext (P:=FS) (at_:=fun t=>t.gAt) fun l hl=>?_) fun x hx=>T.ret hx
  unfold KcV KbI;refine T.bind (P:=fun r:Ka×Bool=>GI r.1) (T.cond (fun _=>T.ret ⟨by simp,by simp,hl⟩) fun _=>T.ret ⟨by simp,by simp,hl⟩) fun x hx=>T.cond (fun _=>T.ret (by simp)) fun _=>?_
  refine T.bind (gfunction hx) fun r hr=>T.cond (fun e=>T.ret ⟨hr.2.1.lo,fun h=>?_⟩) fun e=>T.ret ⟨hr.2.1.lo,fun _=>hr.2.2 (by simpa using e)⟩
  simp at e;exact absurd h e
 obtain ⟨⟨f,a,e⟩,h1,h2⟩:=key;exact ⟨f,a,e,h1,h2⟩
theorem gglobal {m:Ka}(h:GI m):T (KaQ m) fun r=>GI r.2:=by
 unfold KaQ;refine T.bind (glook h (.inl rfl)) fun t _=>T.bind (geat h _ (by simp)) fun x1 h1=>T.bind (gmayQ h1.i _) fun x2 h2=>T.bind (gname h2.1.i) fun x3 h3=>?_
 refine T.bind (P:=fun y:Bool×List Kr×Int×Int×Int×Int=>GI ⟨y.2.1,y.2.2.1,y.2.2.2.1,y.2.2.2.2.1,y.2.2.2.2.2⟩) (T.cond (fun _=>T.bind (gmayQ h3.i _) fun x hx=>T.ret ⟨hx.1.i.lo,hx.1.i.hi,hx.1.i.len⟩) fun _=>T.ret ⟨h3.i.lo,h3.i.hi,h3.i.len⟩) fun y hy=>?_
 refine T.bind (P:=fun y:List Kr×Int×Int×Int×Int×Int=>GI ⟨y.1,y.2.1,y.2.2.1,y.2.2.2.1,y.2.2.2.2.1⟩) (T.cond (fun _=>?_) fun _=>T.ret hy) fun z hz=>T.bind (geat hz _ (by simp)) fun r hr=>T.ret hr.i
 refine T.bind (glook hy (.inl rfl)) fun t ht=>?_
 refine T.bind (P:=fun y:List Kr×Int×Int×Int×Int×Int=>GI ⟨y.1,y.2.1,y.2.2.1,y.2.2.2.1,y.2.2.2.2.1⟩) ?_ fun z hz=>T.bind (geat hz _ (by simp)) fun r hr=>T.ret ⟨hr.i.lo,hr.i.hi,hr.i.len⟩
 refine T.bind (P:=fun y:List Kr×Int×Int×Int×Int×Int=>GI ⟨y.1,y.2.1,y.2.2.1,y.2.2.2.1,y.2.2.2.2.1⟩) (T.cond (fun _=>?_) fun k=>?_) fun z hz=>T.ret hz
 ·exact T.bind (gfail hy hy.lo hy.hi (by decide)) fun r hr=>T.ret ⟨hr.2.1.lo,hr.2.1.hi,hr.2.1.len⟩
 have hk:t.gKind=2:=by simpa using k
 have hlt:=ht rfl (by rw [hk];decide);refine T.bind (P:=fun _=>True) (T.cond (fun _=>T.ret trivial) fun _=>T.ret trivial) fun b _=>T.bind (P:=fun y:List Kr×Int×Int×Int×Int×Int=>GI ⟨y.1,y.2.1,y.2.2.1,y.2.2.2.1,y.2.2.2.2.1⟩) (T.cond (fun _=>?_) fun _=>T.ret ?_) fun z hz=>T.ret hz
 ·exact T.bind (gfail hy hy.lo hy.hi (by decide)) fun r hr=>T.ret ⟨hr.2.1.lo,hr.2.1.hi,hr.2.1.len⟩
 have h1:=hy.lo;have h2:=hy.len
 simp only at hlt h1 h2;have hw:IntKind.i64.wrap (y.2.2.1+1)=y.2.2.1+1:=by rw [IntKind.wrap_i64];omega
 simp only;rw [hw];exact ⟨by simp only;omega,by simp only;omega,h2⟩
theorem readsG:ReadsG:=fun b=>by
 have key:T (Kaz b) fun _=>True:=by
  unfold Kaz Kbr;refine T.bind ((gtext (P:=fun _=>True) (at_:=fun t=>t.gAt) fun l hl=>?_)) fun x hx=>T.ret trivial
  unfold Kcv KbI;refine T.bind (P:=fun r:Ka×Bool=>GI r.1) (T.cond (fun _=>T.ret ⟨by simp,by simp,hl⟩) fun _=>T.ret ⟨by simp,by simp,hl⟩) fun x hx=>T.cond (fun _=>T.ret (by simp)) fun _=>?_
  exact T.bind (gglobal hx) fun r hr=>T.cond (fun e=>T.ret ⟨hr.lo,fun _=>trivial⟩) fun e=>T.ret ⟨hr.lo,fun _=>trivial⟩
 obtain ⟨⟨f,a,e⟩,h1,_⟩:=key;exact ⟨f,a,e,h1⟩
end
section
open Go
set_option linter.all false
abbrev Tk:=Int×ByteArray×Int
inductive Pc where
 | tk (t:Tk)
 | sp (c:UInt8)
def Pc.txt:Pc→List UInt8
 | .tk t=>t.2.1.data.toList
 | .sp c=>[c]
def txts (l:List Pc):List UInt8:=l.flatMap Pc.txt
def tks:List Pc→List Tk
 | []=>[]
 | .tk t::l=>t::tks l
 | .sp _::l=>tks l
abbrev mk (s:ByteArray):Pc:=.tk (3,s,0)
abbrev nm (s:ByteArray):Pc:=.tk (1,s,0)
abbrev nb (n:Int):Pc:=.tk (2,itoaB n,n)
theorem txts_nil:txts []=[]:=rfl
theorem KbP (p:Pc)(l:List Pc):txts (p::l)=p.txt++txts l:=rfl
theorem KbX (a b:List Pc):txts (a++b)=txts a++txts b:=by simp [txts]
theorem K8:∀ a b:List Pc,tks (a++b)=tks a++tks b
 | [],b=>rfl
 | .tk t::a,b=>by simp only [List.cons_append,tks,K8 a b]
 | .sp c::a,b=>by simp only [List.cons_append,tks,K8 a b]
def ck (c:UInt8):Int:=(Kcm (IntKind.i32.wrap (c.toNat:Int))).getD 0
theorem ck_is (c:UInt8):Kcm (IntKind.i32.wrap (c.toNat:Int))=some (ck c):=by
 obtain ⟨k,h,_⟩:=tkind (IntKind.i32.wrap (c.toNat:Int));unfold ck;rw [h];rfl
structure Alp (b:List UInt8):Prop where
 hd:∃ c r,b=c::r∧ck c=2
 al:∀ c∈b,ck c=2∨ck c=3
 le:b.length≤20
structure NmOK (s:ByteArray):Prop where
 al:Alp s.data.toList
 nw:Kcc s=some false
structure WdOK (s:ByteArray):Prop where
 al:Alp s.data.toList
 w:Kcc s=some true
def lev (op:Int):Nat:=if op=7∨op=8∨op=9 then 5 else if op=10∨op=11 then 4 else if op=12∨op=13 then 3 else if op=14∨op=15 then 2 else if op=16 then 1 else if op=17 then 0 else 6
def sgn (op:Int):ByteArray:=if op=7 then ⟨#[42]⟩ else if op=8 then ⟨#[47]⟩ else if op=9 then ⟨#[37]⟩ else if op=10 then ⟨#[43]⟩ else if op=11 then ⟨#[45]⟩ else if op=12 then ⟨#[60]⟩ else if op=13 then ⟨#[60,61]⟩ else if op=14 then ⟨#[61,61]⟩ else if op=15 then ⟨#[33,61]⟩ else if op=16 then ⟨#[38,38]⟩ else if op=17 then ⟨#[124,124]⟩ else ⟨#[]⟩
theorem Kep {op:Int}(h:lev op < 6):op=7∨op=8∨op=9∨op=10∨op=11∨op=12∨op=13∨op=14∨op=15∨op=16∨op=17:=by
 unfold lev at h;repeat' split at h
 all_goals omega
def kd (row:Nat)(x:Nat×List Pc):List Pc:=if x.1 < row then mk ⟨#[40]⟩::(x.2++[mk ⟨#[41]⟩]) else x.2
def rE (op n:Int)(s:ByteArray):List (Nat×List Pc)→List Pc
 | []=>if op=1 then [nb n] else if op=2 then [nm s] else if op=18 then [mk ⟨#[110,117,108,108]⟩] else if op=4 then [mk ⟨#[42]⟩,nm s] else [mk ⟨#[38]⟩,nm s]
 | [k]=>if op=3 then nm s::mk ⟨#[91]⟩::(k.2++[mk ⟨#[93]⟩]) else if op=20 then mk ⟨#[38]⟩::nm s::mk ⟨#[91]⟩::(k.2++[mk ⟨#[93]⟩]) else if op=5 then mk ⟨#[45]⟩::kd 6 k else mk ⟨#[33]⟩::kd 6 k
 | k::q::_=>kd (lev op) k++(.sp 32::mk (sgn op)::.sp 32::kd (lev op+1) q)
mutual
def pE:Kc→List Pc
 | ⟨op,n,s,ks,_⟩=>rE op n s (pKs ks)
def pKs:List Kc→List (Nat×List Pc)
 | []=>[]
 | e::l=>(lev e.gOp,pE e)::pKs l
end
abbrev pKd (row:Nat)(e:Kc):List Pc:=kd row (lev e.gOp,pE e)
inductive VE:Kc→Prop
 | num (n a:Int):0≤n→n≤9223372036854775807→VE ⟨1,n,ByteArray.empty,[],a⟩
 | var (s a):NmOK s→VE ⟨2,0,s,[],a⟩
 | null (a):VE ⟨18,0,ByteArray.empty,[],a⟩
 | load (s a):NmOK s→VE ⟨4,0,s,[],a⟩
 | addr (s a):NmOK s→VE ⟨19,0,s,[],a⟩
 | index (s k a):NmOK s→VE k→VE ⟨3,0,s,[k],a⟩
 | addrAt (s k a):NmOK s→VE k→VE ⟨20,0,s,[k],a⟩
 | neg (k a):VE k→VE ⟨5,0,ByteArray.empty,[k],a⟩
 | not (k a):VE k→VE ⟨6,0,ByteArray.empty,[k],a⟩
 | bin (op l r a):lev op < 6→VE l→VE r→VE ⟨op,0,ByteArray.empty,[l,r],a⟩
theorem pE_bin {op:Int}(h:lev op < 6)(n:Int)(s:ByteArray)(l r:Kc)(a:Int):pE ⟨op,n,s,[l,r],a⟩=pKd (lev op) l++(.sp 32::mk (sgn op)::.sp 32::pKd (lev op+1) r):=by simp only [pE,pKs,rE]
theorem lev_lt (e:Kc):lev e.gOp≤6:=by
 unfold lev;repeat' split
 all_goals omega
theorem kd_up {k:Nat}{x:Nat×List Pc}(h:x.1 ≠ k):kd (k+1) x=kd k x:=by
 unfold kd;by_cases h1:x.1 < k
 ·rw [if_pos h1,if_pos (by omega)]
 rw [if_neg h1,if_neg (by omega)]
theorem kd_own {k:Nat}{x:Nat×List Pc}(h:k≤x.1):kd k x=x.2:=by unfold kd;rw [if_neg (by omega)]
theorem kd_in {k:Nat}{x:Nat×List Pc}(h:x.1 < k):kd k x=mk ⟨#[40]⟩::(x.2++[mk ⟨#[41]⟩]):=by unfold kd;rw [if_pos h]
def VX (e:Kc):Prop:=VE e∧dpE e≤24
mutual
inductive VS:Nat→Ki→Prop
 | assign (d s e a):NmOK s→VX e→VS d ⟨1,s,ByteArray.empty,[e],[],[],a⟩
 | put (d s e f a):NmOK s→VX e→VX f→VS d ⟨2,s,ByteArray.empty,[e,f],[],[],a⟩
 | store (d s e a):NmOK s→VX e→VS d ⟨3,s,ByteArray.empty,[e],[],[],a⟩
 | call (d f es a):NmOK f→(∀ e∈es,VX e)→VS d ⟨4,ByteArray.empty,f,es,[],[],a⟩
 | callTo (d s f es a):NmOK s→NmOK f→(∀ e∈es,VX e)→VS d ⟨4,s,f,es,[],[],a⟩
 | input (d s a):NmOK s→VS d ⟨5,s,ByteArray.empty,[],[],[],a⟩
 | ret (d e a):VX e→VS d ⟨8,ByteArray.empty,ByteArray.empty,[e],[],[],a⟩
 | assert (d e a):VX e→VS d ⟨9,ByteArray.empty,ByteArray.empty,[e],[],[],a⟩
 | ite (d e ks ls a):VX e→VSs d ks→VSs d ls→VS (d+1) ⟨6,ByteArray.empty,ByteArray.empty,[e],ks,ls,a⟩
 | loop (d e ks a):VX e→VSs d ks→VS (d+1) ⟨7,ByteArray.empty,ByteArray.empty,[e],ks,[],a⟩
inductive VSs:Nat→List Ki→Prop
 | nil (d):VSs d []
 | cons (d s l):VS d s→VSs d l→VSs d (s::l)
end
theorem vss_append {d:Nat}{l:List Ki}{s:Ki}(h:VSs d l)(hs:VS d s):VSs d (l++[s]):=by
 induction l with
 | nil=>exact .cons _ _ _ hs (.nil _)
 |
  cons x l ih=>cases h with
  | cons _ _ _ h1 h2=>exact .cons _ _ _ h1 (ih h2)
structure VF (f:K1):Prop where
 nm:NmOK f.gName
 ps:∀ v∈f.gParams,NmOK v.gName
 ls:∀ v∈f.gLocals,NmOK v.gName
 many:f.gParams.length+f.gLocals.length≤16
 body:VSs 23 f.gBody
 size:szSs f.gBody≤1048576
structure VG (g:Kaq):Prop where
 nm:NmOK g.gName
 ptr:g.gPtr=true→g.gSize=0
 lo:0≤g.gSize
 hi:g.gSize≤1000
def Kal:List (List Pc)→List Pc
 | []=>[]
 | [x]=>x
 | x::y::l=>x++(mk ⟨#[44]⟩::.sp 32::Kal (y::l))
def ind (d:Nat)(l:List Pc):List Pc:=List.replicate d (.sp 9)++(l++[.sp 10])
def pF (op:Int)(s f:ByteArray)(es:List (List Pc)):List Pc:=
 if op=4 then (if s=ByteArray.empty then [] else [nm s,.sp 32,mk ⟨#[61]⟩,.sp 32])++(nm f::mk ⟨#[40]⟩::(Kal es++[mk ⟨#[41]⟩,mk ⟨#[59]⟩]))
 else if op=5 then [nm s,.sp 32,mk ⟨#[61]⟩,.sp 32,mk ⟨#[105,110,112,117,116]⟩,mk ⟨#[40]⟩,mk ⟨#[41]⟩,mk ⟨#[59]⟩]
 else match es with
 | [x]=>if op=1 then nm s::.sp 32::mk ⟨#[61]⟩::.sp 32::(x++[mk ⟨#[59]⟩]) else if op=3 then mk ⟨#[42]⟩::nm s::.sp 32::mk ⟨#[61]⟩::.sp 32::(x++[mk ⟨#[59]⟩]) else if op=8 then mk ⟨#[114,101,116,117,114,110]⟩::.sp 32::(x++[mk ⟨#[59]⟩]) else mk ⟨#[97,115,115,101,114,116]⟩::mk ⟨#[40]⟩::(x++[mk ⟨#[41]⟩,mk ⟨#[59]⟩])
 | x::y::_=>nm s::mk ⟨#[91]⟩::(x++(mk ⟨#[93]⟩::.sp 32::mk ⟨#[61]⟩::.sp 32::(y++[mk ⟨#[59]⟩])))
 | []=>[]
def pH (op:Int)(es:List (List Pc)):List Pc:=(if op=6 then mk ⟨#[105,102]⟩ else mk ⟨#[119,104,105,108,101]⟩)::.sp 32::mk ⟨#[40]⟩::(es.headD []++[mk ⟨#[41]⟩,.sp 32,mk ⟨#[123]⟩])
mutual
def pS (d:Nat):Ki→List Pc
 | ⟨op,s,f,es,ks,ls,_⟩=>if op=6∨op=7 then ind d (pH op (es.map pE))++(pSs (d+1) ks++((if ls.isEmpty then [] else ind d [mk ⟨#[125]⟩,.sp 32,mk ⟨#[101,108,115,101]⟩,.sp 32,mk ⟨#[123]⟩]++pSs (d+1) ls)++ind d [mk ⟨#[125]⟩])) else ind d (pF op s f (es.map pE))
def pSs (d:Nat):List Ki→List Pc
 | []=>[]
 | s::l=>pS d s++pSs d l
end
def pV (v:K3):List Pc:=mk ⟨#[105,110,116]⟩::.sp 32::(if v.gPtr then [mk ⟨#[42]⟩,nm v.gName] else [nm v.gName])
def pLs (l:List K3):List Pc:=l.flatMap fun v=>ind 1 (pV v++[mk ⟨#[59]⟩])
def pFn (f:K1):List Pc:=ind 0 (mk ⟨#[105,110,116]⟩::.sp 32::nm f.gName::mk ⟨#[40]⟩::(Kal (f.gParams.map pV)++[mk ⟨#[41]⟩,.sp 32,mk ⟨#[123]⟩]))++(pLs f.gLocals++(pSs 1 f.gBody++ind 0 [mk ⟨#[125]⟩]))
def pGl (g:Kaq):List Pc:=pV ⟨g.gName,g.gPtr⟩++(if g.gPtr=false∧0 < g.gSize then [mk ⟨#[91]⟩,nb g.gSize,mk ⟨#[93]⟩,mk ⟨#[59]⟩,.sp 10] else [mk ⟨#[59]⟩,.sp 10])
end
section
open Go
set_option linter.all false
def sk (t:Kr):Tk:=(t.gKind,t.gText,t.gN)
def Pt {α:Type}(m:Option α)(P:α→Prop):Prop:=∀ r,m=some r→P r
theorem Pt.bind {α β:Type}{m:Option α}{f:α→Option β}{P:α→Prop}{Q:β→Prop}(h:Pt m P)(g:∀ x,P x→Pt (f x) Q):Pt (m.bind f) Q:=by
 intro r e;cases hm:m with
 | none=>rw [hm] at e;cases e
 | some x=>rw [hm] at e;exact g x (h x hm) r e
theorem Pt.ret {α:Type}{x:α}{P:α→Prop}(h:P x):Pt (some x) P:=fun r e=>by cases e;exact h
theorem Pt.cond {α:Type}{c:Bool}{a b:Option α}{P:α→Prop}(h1:c=true→Pt a P)(h2:c=false→Pt b P):Pt (bif c then a else b) P:=by
 cases c
 ·exact h2 rfl
 exact h1 rfl
theorem Pt.any {α:Type}{m:Option α}:Pt m fun _=>True:=fun _ _=>trivial
theorem Pt.eq {α:Type}{m:Option α}:Pt m fun x=>m=some x:=fun _ e=>e
theorem Pt.imp {α:Type}{m:Option α}{P Q:α→Prop}(h:Pt m P)(g:∀ x,P x→Q x):Pt m Q:=fun r e=>g r (h r e)
def StepQ {σ τ:Type}(I:σ→Prop)(Post:τ→Prop):Step σ τ→Prop
 | .next s'=>I s'
 | .done r=>Post r
theorem Pt.loop {σ τ:Type}{f:σ→Option (Step σ τ)}(I:σ→Prop){Post:τ→Prop}{s:σ}(hi:I s)(h:∀ s,I s→Pt (f s) (StepQ I Post)):Pt (loopM f s) Post:=by
 intro r e;obtain ⟨n,hn⟩:=Kel e;clear e;induction n generalizing s with
 | zero=>cases hn
 |
  succ n ih=>
  unfold loopN at hn;cases hf:f s with
  | none=>rw [hf] at hn;cases hn
  |
   some q=>
   have hq:=h s hi q hf;rw [hf] at hn;cases q with
   | next s'=>exact ih hq hn
   | done t=>cases hn;exact hq
theorem T.eq {α:Type}{m:Option α}{x:α}{P:α→Prop}(h:m=some x)(hp:P x):T m P:=⟨x,h,hp⟩
def memB (s:ByteArray)(l:List ByteArray):Bool:=l.any fun x=>decide (s=x)
theorem memB_iff {s:ByteArray}{l:List ByteArray}:memB s l=true↔s∈l:=by simp [memB]
theorem tcontI (l:List ByteArray)(s:ByteArray)(hl:l.length≤1000):Kan l s=some (memB s l):=by
 have key:T (Kan l s) fun b=>b=memB s l:=by
  unfold Kan Kbu;refine T.bind (P:=fun i=>(0≤i↔s∈l)) ?_ fun i hi=>T.ret (Bool.eq_iff_iff.2 (by rw [memB_iff,← hi];simp))
  refine T.bind (P:=fun r=>(∀ u,r=Sum.inl u→s ∉ l)∧∀ i,r=Sum.inr i→0≤i∧s∈l) (T.loop (fun j=>∃ k:Nat,j=(k:Int)∧k≤l.length∧s ∉ l.take k) (fun j=>l.length - j.toNat) ⟨0,rfl,by omega,by simp⟩ fun j hj=>?_) fun r hr=>?_
  ·obtain ⟨k,rfl,hk,hn⟩:=hj;refine T.cond (fun hc=>?_) fun hc=>T.ret ⟨fun u _=>?_,fun i e=>by cases e⟩
   ·have hlt:k < l.length:=by simpa using hc
    refine T.bind (P:=fun x=>l[k]? = some x) (T.idx hlt fun x hx=>hx) fun x hx=>T.cond (fun e=>T.ret ?_) fun e=>T.ret ?_
    ·have e':s=x:=of_decide_eq_true e;exact ⟨fun u e=>(by cases e),fun i e=>(by cases e;exact ⟨by omega,by rw [e'];exact List.mem_of_getElem? hx⟩)⟩
    have e':s ≠ x:=of_decide_eq_false e;rw [wn (by omega)];refine ⟨⟨k+1,rfl,hlt,?_⟩,by simp only [Int.toNat_natCast];omega⟩;rw [List.take_add_one,hx];simp [hn,e']
   have:l.length≤k:=by simpa using hc
   rwa [List.take_of_length_le this] at hn
  cases r with
  | inl u=>exact T.ret (by have:=hr.1 u rfl;simp [this])
  | inr i=>exact T.ret (by have:=hr.2 i rfl;simp [this])
 obtain ⟨b,h1,h2⟩:=key;rw [h1,h2]
abbrev two:List ByteArray:=[(ByteArray.mk #[61,61]),(ByteArray.mk #[33,61]),(ByteArray.mk #[60,61]),(ByteArray.mk #[38,38]),(ByteArray.mk #[124,124])]
abbrev ones:ByteArray:=ByteArray.mk #[40,41,123,125,91,93,59,44,61,60,43,45,42,47,37,33,38]
def vl (l:List UInt8)(v:Nat):Nat:=l.foldl (fun v c=>10*v+(c.toNat - 48)) v
theorem vl_ge:∀ (l:List UInt8) (v:Nat),v≤vl l v
 | [],v=>Nat.le_refl _
 |
  c::l,v=>by
  have:=vl_ge l (10*v+(c.toNat - 48));show v≤vl l (10*v+(c.toNat - 48))
  omega
theorem KgF (a b:List UInt8)(v:Nat):vl (a++b) v=vl b (vl a v):=by simp [vl]
theorem vl_le (l:List UInt8)(k:Nat)(v:Nat):vl (l.take k) v≤vl l v:=by
 conv=>rhs;rw [← List.take_append_drop k l]
 rw [KgF];exact vl_ge _ _
theorem u8n {n:Nat}(h:n < 256):(UInt8.ofNat n).toNat=n:=by rw [UInt8.toNat_ofNat'];omega
theorem dd_all (u:Nat):(∀ c∈Lib.decDigits u,48≤c.toNat∧c.toNat≤57)∧vl (Lib.decDigits u) 0=u∧∃ c r,Lib.decDigits u=c::r∧(c=48→u=0):=by
 induction u using Nat.strongRecOn with
 |
  _ u ih=>
  rw [Lib.decDigits];by_cases h:u < 10
  ·rw [dif_pos h];have e:=u8n (n:=48+u) (by omega);refine ⟨fun c hc=>?_,?_,_,_,rfl,fun e'=>?_⟩
   ·rw [List.mem_singleton.1 hc,e];omega
   ·show 10*0+((UInt8.ofNat (48+u)).toNat - 48)=u
    rw [e];omega
   rw [e'] at e;have:(48:UInt8).toNat=48:=rfl;omega
  rw [dif_neg h];obtain ⟨h1,h2,c,r,h3,h4⟩:=ih (u / 10) (by omega);have e:=u8n (n:=48+u % 10) (by omega);refine ⟨fun c hc=>?_,?_,c,r++[UInt8.ofNat (48+u % 10)],by rw [h3];rfl,fun e'=>?_⟩
  ·rcases List.mem_append.1 hc with hc|hc
   ·exact h1 c hc
   rw [List.mem_singleton.1 hc,e];omega
  ·rw [KgF,h2];show 10*(u / 10)+((UInt8.ofNat (48+u % 10)).toNat - 48)=u
   rw [e];omega
  have:=h4 e';omega
theorem Kgg {n:Int}(h:0≤n):(itoaB n).data.toList=Lib.decDigits n.toNat:=by
 unfold itoaB Lib.itoa;rw [if_neg (by omega)]
theorem ck_dig {c:UInt8}(h:48≤c.toNat∧c.toNat≤57):ck c=3:=by
 have key:∀ k:UInt8,c.toNat=k.toNat→ck k=3→ck c=3:=fun k e h=>by rw [UInt8.toNat_inj.1 e];exact h
 have:c.toNat=48∨c.toNat=49∨c.toNat=50∨c.toNat=51∨c.toNat=52∨c.toNat=53∨c.toNat=54∨c.toNat=55∨c.toNat=56∨c.toNat=57:=by omega
 rcases this with e|e|e|e|e|e|e|e|e|e
 ·exact key 48 e (by kernel_rfl)
 ·exact key 49 e (by kernel_rfl)
 ·exact key 50 e (by kernel_rfl)
 ·exact key 51 e (by kernel_rfl)
 ·exact key 52 e (by kernel_rfl)
 ·exact key 53 e (by kernel_rfl)
 ·exact key 54 e (by kernel_rfl)
 ·exact key 55 e (by kernel_rfl)
 ·exact key 56 e (by kernel_rfl)
 exact key 57 e (by kernel_rfl)
def cls (b:Bool)(c:UInt8):Bool:=decide (ck c=3) || (b && decide (ck c=2))
structure RA (m:KL) (a:Nat) (x:List UInt8):Prop where
 at_:m.gAt=(a:Int)
 le:a≤m.gB.length
 len:m.gB.length≤20000
 dr:m.gB.drop a=x
theorem RA.lx {m:KL}{a:Nat}{x:List UInt8}(h:RA m a x):a+x.length=m.gB.length:=by
 have:=h.le;rw [← h.dr,List.length_drop];omega
theorem RA.nx {m:KL}{a:Nat}{x:List UInt8}(h:RA m a x)(k:Nat):m.gB[a+k]? = x[k]?:=by rw [← h.dr,List.getElem?_drop]
theorem tw_get {p:UInt8→Bool}:∀ {x:List UInt8} {k:Nat} {c:UInt8},x[k]? = some c→k≤(x.takeWhile p).length→(p c=true→k+1≤(x.takeWhile p).length)∧(p c=false→k=(x.takeWhile p).length)
 | [],k,c,h,_=>by simp at h
 |
  d::x,0,c,h,hk=>by
  simp only [List.getElem?_cons_zero,Option.some.injEq] at h;subst h;cases hp:p d<;>simp [List.takeWhile,hp]
 |
  d::x,k+1,c,h,hk=>by
  cases hp:p d with
  | false=>simp [List.takeWhile,hp] at hk
  |
   true=>
   simp only [List.takeWhile_cons,hp,if_true,List.length_cons] at hk ⊢;simp only [List.getElem?_cons_succ] at h;obtain ⟨h1,h2⟩:=tw_get (p:=p) h (by omega);exact ⟨fun e=>by have:=h1 e;omega,fun e=>by have:=h2 e;omega⟩
theorem tw_le {p:UInt8→Bool}:∀ x:List UInt8,(x.takeWhile p).length≤x.length
 | []=>by simp
 |
  c::x=>by
  have:=tw_le (p:=p) x;cases hp:p c<;>simp [List.takeWhile,hp];omega
theorem KfQ {m:KL}{a:Nat}{x:List UInt8}(h:RA m a x)(b:Bool):Ka6 m b=some (((x.takeWhile (cls b)).length:Nat):Int):=by
 have hl:=h.lx;have hlen:=h.len
 have key:T (Ka6 m b) fun n=>n=(((x.takeWhile (cls b)).length:Nat):Int):=by
  unfold Ka6;refine T.bind (P:=fun n=>n=(((x.takeWhile (cls b)).length:Nat):Int)) ?_ fun n hn=>T.ret hn
  refine T.loop (fun s=>∃ k:Nat,s=(k:Int)∧k≤(x.takeWhile (cls b)).length) (fun s=>x.length - s.toNat) ⟨0,rfl,by omega⟩ fun s hs=>?_
  obtain ⟨k,rfl,hk⟩:=hs;have htw:=tw_le (p:=cls b) x;rw [h.at_,wa (by omega)];refine T.cond (fun hc=>?_) fun hc=>T.ret ?_
  ·have hlt:a+k < m.gB.length:=by have:=of_decide_eq_true hc;omega
   refine T.bind (P:=fun c=>m.gB[a+k]? = some c) (T.idx hlt fun x hx=>hx) fun c he=>?_
   rw [h.nx] at he;obtain ⟨g1,g2⟩:=tw_get (p:=cls b) he hk;rw [ck_is,Option.bind_some];have nx:cls b c=true→StepP (fun s=>∃ k:Nat,s=(k:Int)∧k≤(x.takeWhile (cls b)).length) (fun s:Int=>x.length - s.toNat) (x.length - ((k:Int)).toNat) (fun n:Int=>n=(((x.takeWhile (cls b)).length:Nat):Int)) (.next (IntKind.i64.wrap ((k:Int)+1))):=fun e=>by
    rw [wn (by omega)];exact ⟨⟨k+1,rfl,g1 e⟩,by simp only [Int.toNat_natCast];omega⟩
   have dn:cls b c=false→StepP (fun s=>∃ k:Nat,s=(k:Int)∧k≤(x.takeWhile (cls b)).length) (fun s:Int=>x.length - s.toNat) (x.length - ((k:Int)).toNat) (fun n:Int=>n=(((x.takeWhile (cls b)).length:Nat):Int)) (.done (k:Int)):=fun e=>by
    show (k:Int)=_
    rw [← g2 e]
   refine T.cond (fun h3=>T.cond (fun h2=>T.ret (dn ?_)) fun h2=>T.cond (fun hb=>T.ret (dn ?_)) fun hb=>T.ret (nx ?_)) fun h3=>T.ret (nx ?_)
   ·simp at h3 h2;simp [cls,h3,h2]
   ·simp at h3 hb;simp [cls,h3,hb]
   ·simp at h2 hb;simp [cls,h2,hb]
   simp at h3;simp [cls,h3]
  show (k:Int)=_
  have:x.length≤k:=by have:=of_decide_eq_false hc;omega
  omega
 obtain ⟨n,h1,h2⟩:=key;rw [h1,h2]
theorem Ke6 {m:KL}{a:Nat}{x y:List UInt8}(h:RA m a (x++y)):cutL m.gB (a:Int) ((a+x.length:Nat):Int)=some x:=by
 have hl:=h.lx;rw [List.length_append] at hl;unfold cutL;rw [show (decide (0≤(a:Int)) && decide ((a:Int)≤((a+x.length:Nat):Int)) && decide (((a+x.length:Nat):Int)≤(m.gB.length:Int)))=true by simp;omega,cond_true];simp only [Int.toNat_natCast];rw [h.dr,show a+x.length - a=x.length by omega,List.take_left'];rfl
theorem tw_all {p:UInt8→Bool}{y:List UInt8}:∀ {x:List UInt8},(∀ c∈x,p c=true)→(∀ c r,y=c::r→p c=false)→(x++y).takeWhile p=x
 |
  [],_,hy=>by
  cases y with
  | nil=>rfl
  | cons c r=>simp [List.takeWhile,hy c r rfl]
 |
  c::x,hx,hy=>by
  rw [List.cons_append,List.takeWhile_cons,hx c (by simp),if_pos rfl,tw_all (fun d hd=>hx d (by simp [hd])) hy]
def Nx (m:KL)(a n:Nat)(t:List Tk)(r:Int×KL):Prop:=(r.1=6∧4000≤m.gL.length)∨(r.1=0∧r.2.gB=m.gB∧r.2.gAt=((a+n:Nat):Int)∧r.2.gL.map sk=m.gL.map sk++t∧r.2.gL.length≤4000)
theorem add_is {m:KL}{a:Nat}{x y:List UInt8}(h:RA m a (x++y))(k v:Int):T (Ka0 m k (x.length:Int) v) (Nx m a x.length [(k,ByteArray.mk x.toArray,v)]):=by
 have hl:=h.lx;have hlen:=h.len
 rw [List.length_append] at hl;unfold Ka0;refine T.cond (fun hc=>T.ret (.inl ⟨rfl,by have:=of_decide_eq_true hc;omega⟩)) fun hc=>?_
 have hc':m.gL.length < 4000:=by have:=of_decide_eq_false hc;omega
 rw [h.at_,wa (by omega),Ke6 h,Option.bind_some,Kct (by omega) (by simp;omega),Option.bind_some];exact T.ret (.inr ⟨rfl,rfl,rfl,by simp [sk],by simp;omega⟩)
def na (b:List UInt8):Prop:=∀ c r,b=c::r→ck c ≠ 2∧ck c ≠ 3
theorem na_cls {b:List UInt8}(h:na b)(q:Bool):∀ c r,b=c::r→cls q c=false:=fun c r e=>by
 obtain ⟨h1,h2⟩:=h c r e;simp [cls,h1,h2]
theorem Alp.tw {x y:List UInt8}(h:Alp x)(hy:na y):(x++y).takeWhile (cls true)=x:=
 tw_all (fun c hc=>by rcases h.al c hc with e|e<;>simp [cls,e]) (na_cls hy _)
theorem name_is {m:KL}{a:Nat}{s:ByteArray}{y:List UInt8}(h:RA m a (s.data.toList++y))(hx:Alp s.data.toList)(hy:na y){w:Bool}(hw:Kcc s=some w):T (Ka7 m) (Nx m a s.data.toList.length [(bif w then 3 else 1,s,0)]):=by
 have hl:=h.lx;have hlen:=h.len;have hle:=hx.le
 rw [List.length_append] at hl;have es:(ByteArray.mk s.data.toList.toArray)=s:=by cases s;simp
 unfold Ka7;rw [KfQ h,hx.tw hy,Option.bind_some,h.at_,wa (by omega),Ke6 h,Option.bind_some];refine T.cond (fun hc=>?_) fun _=>?_
 ·have:=of_decide_eq_true hc;omega
 rw [es,hw,Option.bind_some];have hadd:=fun k=>add_is h k 0
 rw [es] at hadd;cases w
 ·exact T.bind (hadd 1) fun r hr=>T.ret hr
 exact T.bind (hadd 3) fun r hr=>T.ret hr
end
section
open Go
set_option linter.all false
theorem u8c (c:UInt8)(h:48≤c.toNat):IntKind.u64.wrap (IntKind.u8.wrap ((c.toNat:Int) - (48:Int)))=((c.toNat - 48:Nat):Int):=by
 have:=c.toNat_lt;rw [IntKind.wrap_u8,IntKind.wrap_u64];omega
theorem num_is {m:KL}{a:Nat}{n:Int}{y:List UInt8}(h0:0≤n)(h1:n≤9223372036854775807)(h:RA m a ((itoaB n).data.toList++y))(hy:na y):T (KaZ m) (Nx m a (itoaB n).data.toList.length [(2,itoaB n,n)]):=by
 obtain ⟨d1,d2,c,r,d3,d4⟩:=dd_all n.toNat;have hd:=Kgg h0;have hl:=h.lx;have hlen:=h.len
 rw [List.length_append] at hl;have es:(ByteArray.mk (itoaB n).data.toList.toArray)=itoaB n:=by cases itoaB n;simp
 have tw:∀ q,((itoaB n).data.toList++y).takeWhile (cls q)=(itoaB n).data.toList:=fun q=>tw_all (fun c hc=>by
  rw [hd] at hc;simp [cls,ck_dig (d1 c hc)]) (na_cls hy _)
 unfold KaZ;refine T.cond (fun hc=>T.ret (.inl ⟨rfl,by have:=of_decide_eq_true hc;omega⟩)) fun _=>?_
 rw [KfQ h,tw,Option.bind_some,KfQ h,tw,Option.bind_some];refine T.bind (P:=fun b=>b=false) (T.cond (fun hc=>?_) fun _=>?_) fun b hb=>?_
 ·have:=of_decide_eq_true hc;omega
 ·rw [h.at_];have hlen1:1≤(itoaB n).data.toList.length:=by rw [hd,d3];simp
  refine T.bind (P:=fun x=>x=c) (T.idx (by omega) fun x hx=>?_) fun x hx=>T.cond (fun e=>T.ret ?_) fun _=>T.ret rfl
  ·have:=h.nx 0;rw [Nat.add_zero,hx,hd,d3] at this;simpa using this
  subst hx;have e48:x=48:=by
   have:(x.toNat:Int)=48:=by simpa using e
   exact UInt8.toNat_inj.1 (by have:(48:UInt8).toNat=48:=rfl;omega)
  have hz:=d4 e48;rw [hd,hz];rw [Lib.decDigits,dif_pos (by omega)];simp
 subst hb;rw [cond_false,h.at_,wa (by omega),Ke6 h,Option.bind_some];refine T.bind (P:=fun r=>r=Sum.inl n) ?_ fun r hr=>?_
 ·generalize hx:(itoaB n).data.toList=x at *;refine T.loop (fun s=>∃ j:Nat,s=(((vl (x.take j) 0:Nat):Int),(j:Int))∧j≤x.length) (fun s=>x.length - s.2.toNat) ⟨0,rfl,Nat.zero_le _⟩ fun s hs=>?_
  obtain ⟨j,rfl,hj⟩:=hs;simp only;refine T.cond (fun hc=>?_) fun hc=>T.ret ?_
  ·have hlt:j < x.length:=by have:=of_decide_eq_true hc;omega
   refine T.bind (P:=fun c=>x[j]? = some c) (T.idx hlt fun x hx=>hx) fun c hc=>?_
   obtain ⟨c1,c2⟩:=d1 c (by rw [← hd];exact List.mem_of_getElem? hc);have htake:x.take (j+1)=x.take j++[c]:=by rw [List.take_add_one,hc];rfl
   have hv:vl (x.take (j+1)) 0=10*vl (x.take j) 0+(c.toNat - 48):=by rw [htake,KgF];rfl
   have hle:=vl_le x (j+1) 0;rw [hd,d2,← hd,hv] at hle;rw [u8c c c1,wn (by omega)];generalize vl (x.take j) 0=v at *;have w1:IntKind.u64.wrap ((9223372036854775807:Int) - ((c.toNat - 48:Nat):Int))=((9223372036854775807 - (c.toNat - 48):Nat):Int):=by rw [IntKind.wrap_u64];omega
   have w2:IntKind.u64.wrap (((9223372036854775807 - (c.toNat - 48):Nat):Int).tdiv (10:Int))=(((9223372036854775807 - (c.toNat - 48)) / 10:Nat):Int):=by
    rw [show ((9223372036854775807 - (c.toNat - 48):Nat):Int).tdiv (10:Int)=(((9223372036854775807 - (c.toNat - 48)) / 10:Nat):Int) from rfl,IntKind.wrap_u64];omega
   have w3:IntKind.u64.wrap (IntKind.u64.wrap ((10:Int)*(v:Int))+((c.toNat - 48:Nat):Int))=((10*v+(c.toNat - 48):Nat):Int):=by rw [IntKind.wrap_u64,IntKind.wrap_u64];omega
   rw [w1,w2,w3];refine T.cond (fun e=>?_) fun _=>T.ret ⟨⟨j+1,by rw [hv],hlt⟩,by simp only [Int.toNat_natCast];omega⟩
   have:=of_decide_eq_true e;omega
  have:x.length≤j:=by simpa using hc
  show Sum.inl _=Sum.inl n
  rw [List.take_of_length_le this,hd,d2];congr 1;omega
 subst hr;rw [Sum.elim_inl,show IntKind.i64.wrap n=n by rw [IntKind.wrap_i64];omega];have hadd:=add_is h 2 n;rw [es] at hadd;exact T.bind hadd fun r hr=>T.ret hr
def n2 (c:UInt8)(b:List UInt8):Prop:=∀ d r,b=d::r→memB ⟨#[c,d]⟩ two=false
theorem sign1_is {m:KL}{a:Nat}{c:UInt8}{y:List UInt8}(h:RA m a (c::y))(hc:0≤KeT ones (c.toNat:Int))(hy:n2 c y):KaV m=some 1:=by
 have hl:=h.lx;rw [List.length_cons] at hl;unfold KaV;have hcut:cutL m.gB m.gAt (m.gB.length:Int)=some (c::y):=by
  have:=Ke6 (x:=c::y) (y:=[]) (by rwa [List.append_nil]);rwa [show a+(c::y).length=m.gB.length from h.lx,← h.at_] at this
 rw [hcut,Option.bind_some];have key:(bif (decide ((1:Int) < ((c::y).length:Int))) then ((cutL (c::y) (0:Int) (2:Int)).bind fun x7=>((Kan qZ4 (ByteArray.mk x7.toArray)).bind fun x8=>some x8)) else some false)=some false:=by
  cases y with
  | nil=>rfl
  |
   cons d r=>
   rw [decide_eq_true (by simp only [List.length_cons];omega),cond_true];have hc2:cutL (c::d::r) 0 2=some [c,d]:=by
    unfold cutL;rw [show (decide ((0:Int)≤0) && decide ((0:Int)≤2) && decide ((2:Int)≤((c::d::r).length:Int)))=true by simp;omega];rfl
   rw [hc2,Option.bind_some,tcontI _ _ (by simp),Option.bind_some];exact congrArg some (hy d r rfl)
 rw [key,Option.bind_some,cond_false,show idx (c::y) (0:Int)=some c from rfl,Option.bind_some,decide_eq_true hc];rfl
theorem sign2_is {m:KL}{a:Nat}{c d:UInt8}{y:List UInt8}(h:RA m a (c::d::y))(hm:memB ⟨#[c,d]⟩ two=true):KaV m=some 2:=by
 unfold KaV;have hcut:cutL m.gB m.gAt (m.gB.length:Int)=some (c::d::y):=by
  have:=Ke6 (x:=c::d::y) (y:=[]) (by rwa [List.append_nil]);rwa [show a+(c::d::y).length=m.gB.length from h.lx,← h.at_] at this
 have hc2:cutL (c::d::y) 0 2=some [c,d]:=by
  unfold cutL;rw [show (decide ((0:Int)≤0) && decide ((0:Int)≤2) && decide ((2:Int)≤((c::d::y).length:Int)))=true by simp;omega];rfl
 rw [hcut,Option.bind_some,decide_eq_true (by simp only [List.length_cons];omega),cond_true,hc2,Option.bind_some,tcontI _ _ (by simp),Option.bind_some,Option.bind_some];show (bif memB ⟨#[c,d]⟩ two then some (2:Int) else _)=_
 rw [hm];rfl
inductive Lx:List Pc→Prop
 | nil:Lx []
 | sp (c l):ck c=1→Lx l→Lx (.sp c::l)
 | nm (s l):NmOK s→na (txts l)→Lx l→Lx (nm s::l)
 | wd (s l):WdOK s→na (txts l)→Lx l→Lx (mk s::l)
 | nb (n l):0≤n→n≤9223372036854775807→na (txts l)→Lx l→Lx (nb n::l)
 | m1 (c l):ck c=0→0≤KeT ones (c.toNat:Int)→n2 c (txts l)→Lx l→Lx (mk ⟨#[c]⟩::l)
 | m2 (c d l):ck c=0→memB ⟨#[c,d]⟩ two=true→Lx l→Lx (mk ⟨#[c,d]⟩::l)
theorem next_is {m:KL}{a:Nat}{p:Pc}{l:List Pc}(h:RA m a (txts (p::l)))(hx:Lx (p::l))(h4:m.gL.length≤4000):1≤p.txt.length∧Lx l∧T (Ka8 m) (Nx m a p.txt.length (tks [p])):=by
 have hl:=h.lx;have hlen:=h.len
 rw [KbP] at h;have idx0:∀ {c:UInt8} {r:List UInt8},p.txt=c::r→idx m.gB m.gAt=some c:=fun {c r} e=>by
  have:=h.nx 0;rw [e] at this;rw [h.at_,KcR];simpa using this
 have start:∀ {c:UInt8} {r:List UInt8},p.txt=c::r→∀ {Q:Int×KL→Prop},T ((bif (ck c==(1:Int)) then some ((0:Int),(⟨m.gB,(IntKind.i64.wrap (m.gAt+(1:Int))),m.gL⟩:KL)) else (bif (ck c==(2:Int)) then ((Ka7 m).bind fun x27=>some (x27.1,x27.2)) else (bif (ck c==(3:Int)) then ((KaZ m).bind fun x34=>some (x34.1,x34.2)) else ((KaV m).bind fun x36=>(bif (x36==(0:Int)) then some ((3:Int),m) else ((Ka0 m (3:Int) x36 (0:Int)).bind fun x41=>some (x41.1,x41.2)))))))) Q→T (Ka8 m) Q:=fun {c r} e {Q} hq=>by
  unfold Ka8;rw [idx0 e,Option.bind_some,ck_is,Option.bind_some];exact hq
 cases hx with
 |
  sp c l hc hl'=>
  refine ⟨Nat.le_refl _,hl',start (c:=c) (r:=[]) rfl ?_⟩;rw [hc];refine T.ret (.inr ⟨rfl,rfl,?_,by simp [tks],h4⟩);show IntKind.i64.wrap (m.gAt+1)=_
  rw [h.at_,wn (by have:=h.le;omega)];rfl
 |
  nm s l hs hn hl'=>
  obtain ⟨c,r,e,hc⟩:=hs.al.hd;refine ⟨by show 1≤s.data.toList.length;rw [e];simp,hl',start (c:=c) (r:=r) e ?_⟩;rw [hc];exact T.bind (name_is h hs.al hn hs.nw) fun x hx=>T.ret hx
 |
  wd s l hs hn hl'=>
  obtain ⟨c,r,e,hc⟩:=hs.al.hd;refine ⟨by show 1≤s.data.toList.length;rw [e];simp,hl',start (c:=c) (r:=r) e ?_⟩;rw [hc];exact T.bind (name_is h hs.al hn hs.w) fun x hx=>T.ret hx
 |
  nb n l h0 h1 hn hl'=>
  obtain ⟨d1,d2,c,r,d3,d4⟩:=dd_all n.toNat;have e:(itoaB n).data.toList=c::r:=by rw [Kgg h0,d3]
  refine ⟨by show 1≤(itoaB n).data.toList.length;rw [e];simp,hl',start (c:=c) (r:=r) e ?_⟩;rw [ck_dig (d1 c (by rw [d3];simp))];exact T.bind (num_is h0 h1 h hn) fun x hx=>T.ret hx
 |
  m1 c l hc h1 hn hl'=>
  refine ⟨Nat.le_refl _,hl',start (c:=c) (r:=[]) rfl ?_⟩;rw [hc];show T ((KaV m).bind _) _
  rw [sign1_is h h1 hn,Option.bind_some];exact T.bind (add_is (x:=[c]) h 3 0) fun x hx=>T.ret hx
 |
  m2 c d l hc h1 hl'=>
  refine ⟨by show 1≤2;omega,hl',start (c:=c) (r:=[d]) rfl ?_⟩;rw [hc];show T ((KaV m).bind _) _
  rw [sign2_is h h1,Option.bind_some];exact T.bind (add_is (x:=[c,d]) h 3 0) fun x hx=>T.ret hx
theorem read_is {l:List Pc}(h:Lx l):T (KbM (txts l)) fun r=>(r.2.2=6∧(20000 < (txts l).length∨4000≤(tks l).length))∨(r.2.2=0∧(txts l).length≤20000∧r.1.map sk=tks l++[(0,ByteArray.empty,0)]∧r.1.length≤4001):=by
 unfold KbM;refine T.cond (fun hc=>T.ret (.inl ⟨rfl,.inl (by have:=of_decide_eq_true hc;omega)⟩)) fun hc=>?_
 have hb:(txts l).length≤20000:=by have:=of_decide_eq_false hc;omega
 refine T.bind (P:=fun r=>(∀ q,r=Sum.inl q→q.2.2.length≤4000∧q.2.2.map sk=tks l)∧∀ q,r=Sum.inr q→q.2.2=6∧4000≤(tks l).length) ?_ fun r hr=>?_
 ·refine T.loop (fun s=>s.1=txts l∧∃ a l',RA ⟨s.1,s.2.1,s.2.2⟩ a (txts l')∧Lx l'∧s.2.2.map sk++tks l'=tks l∧s.2.2.length≤4000) (fun s=>(txts l).length - s.2.1.toNat) ⟨rfl,0,l,⟨rfl,Nat.zero_le _,hb,rfl⟩,h,rfl,by simp⟩ fun s hs=>?_
  obtain ⟨s1,s2,s3⟩:=s;obtain ⟨e,a,l',ha,hl',ht,h4⟩:=hs;simp only at e ha ht h4;subst e;have:=ha.at_;simp only at this;subst this;have hlx:=ha.lx;simp only at hlx;refine T.cond (fun hc=>?_) fun hc=>T.ret ⟨fun q e=>?_,fun q e=>by cases e⟩
  ·cases l' with
   | nil=>rw [txts_nil] at hlx;simp at hlx;simp at hc;omega
   |
    cons p l'=>
    obtain ⟨n1,n2,n3⟩:=next_is ha hl' h4;refine T.bind n3 fun r hr=>?_
    rcases hr with ⟨hr,h40⟩|⟨r1,r2,r3,r4,r5⟩
    ·rw [hr];have h41:4000≤(tks l).length:=by rw [← ht,List.length_append,List.length_map];simp only at h40;omega
     exact T.ret ⟨fun q e=>(by cases e),fun q e=>(by cases e;exact ⟨rfl,h41⟩)⟩
    rw [r1];have hdr:=ha.dr;simp only at r2 hdr;have hle:a+p.txt.length≤(txts l).length:=by rw [KbP,List.length_append] at hlx;omega
    refine T.ret ⟨⟨r2,a+p.txt.length,l',⟨r3,by simp only;rw [r2];exact hle,by simp only;rw [r2];exact hb,?_⟩,n2,?_,r5⟩,?_⟩
    ·simp only;rw [r2,← List.drop_drop,hdr,KbP,List.drop_left'];rfl
    ·show r.2.gL.map sk++tks l'=_
     rw [r4,← ht];cases p<;>simp [tks]
    show (txts l).length - r.2.gAt.toNat < _
    rw [r3];simp only [Int.toNat_natCast];omega
  cases e;refine ⟨h4,?_⟩;have h0:txts l'=[]:=by
   have:(txts l).length≤a:=by simpa using hc
   exact List.eq_nil_of_length_eq_zero (by omega)
  cases l' with
  | nil=>rw [← ht];simp [tks]
  |
   cons p l'=>
   obtain ⟨n1,_,_⟩:=next_is ha hl' h4;rw [KbP] at h0;have:=(List.append_eq_nil_iff.1 h0).1;rw [this] at n1;simp at n1
 cases r with
 |
  inl q=>
  obtain ⟨h1,h2⟩:=hr.1 q rfl;rw [Sum.elim_inl,Kct (by omega) (by simp;omega),Option.bind_some];exact T.ret (.inr ⟨rfl,hb,by rw [List.map_append,h2];rfl,by simp;omega⟩)
 | inr q=>exact T.ret (.inl ⟨(hr.2 q rfl).1,.inr (hr.2 q rfl).2⟩)
end
section
open Go
set_option linter.all false
def TkOK (t:Tk):Prop:=(t.1=1→NmOK t.2.1)∧(t.1=2→0≤t.2.2∧t.2.2≤9223372036854775807)
def GL (L:List Kr):Prop:=∀ t∈L,TkOK (sk t)
theorem T.pt {α:Type}{m:Option α}{P:α→Prop}(h:T m P):Pt m P:=by
 intro r e;obtain ⟨x,h1,h2⟩:=h;rw [h1] at e;cases e;exact h2
theorem RA.of {m:KL}{a:Nat}(h:TkI m a):RA m a (m.gB.drop a):=⟨h.at_,h.le,h.len,rfl⟩
theorem vadd {m:KL}{a:Nat}{x y:List UInt8}(h:RA m a (x++y))(g:GL m.gL){k v:Int}(hk:TkOK (k,ByteArray.mk x.toArray,v)):Pt (Ka0 m k (x.length:Int) v) fun r=>r.1=0→GL r.2.gL:=(add_is h k v).pt.imp fun r hr e t ht=>by
 rcases hr with ⟨hr,_⟩|⟨_,_,_,h4,_⟩
 ·rw [e] at hr;cases hr
 have:sk t∈r.2.gL.map sk:=List.mem_map_of_mem ht;rw [h4,List.mem_append,List.mem_singleton] at this;rcases this with h|h
 ·obtain ⟨t',h1,h2⟩:=List.mem_map.1 h;rw [← h2];exact g t' h1
 rw [h];exact hk
theorem tw_mem {p:UInt8→Bool}:∀ {x:List UInt8} {c:UInt8},c∈x.takeWhile p→p c=true
 |
  d::x,c,h=>by
  cases hp:p d with
  | false=>simp [List.takeWhile,hp] at h
  |
   true=>
   simp only [List.takeWhile_cons,hp,if_true,List.mem_cons] at h;rcases h with rfl|h
   ·exact hp
   exact tw_mem h
theorem vname {m:KL}{a:Nat}{x:List UInt8}(h:RA m a x)(g:GL m.gL){c:UInt8}{r:List UInt8}(e:x=c::r)(hc:ck c=2):Pt (Ka7 m) fun r=>r.1=0→GL r.2.gL:=by
 have hl:=h.lx;have hlen:=h.len;have htw:=tw_le (p:=cls true) x
 have hs:x.takeWhile (cls true)++x.dropWhile (cls true)=x:=List.takeWhile_append_dropWhile;have h':RA m a (x.takeWhile (cls true)++x.dropWhile (cls true)):=by rw [hs];exact h
 unfold Ka7;rw [KfQ h,Option.bind_some,h.at_,wa (by omega),Ke6 h',Option.bind_some];refine Pt.cond (fun _=>Pt.ret (fun e=>by cases e)) fun h20=>Pt.bind Pt.eq fun w hw=>Pt.cond (fun _=>?_) fun hw0=>?_
 ·exact Pt.bind (vadd h' g ⟨fun e=>(by cases e),fun e=>(by cases e)⟩) fun r hr=>Pt.ret hr
 refine Pt.bind (vadd h' g ⟨fun _=>⟨⟨?_,?_,?_⟩,?_⟩,fun e=>(by cases e)⟩) fun r hr=>Pt.ret hr
 ·exact ⟨c,r.takeWhile (cls true),by simp [e,List.takeWhile_cons,cls,hc],hc⟩
 ·intro d hd;have:=tw_mem (p:=cls true) (x:=x) (c:=d) (by simpa using hd);simp [cls] at this;rcases this with h|h
  ·exact .inr h
  exact .inl h
 ·have:=of_decide_eq_false h20;show (x.takeWhile (cls true)).length≤20
  omega
 rw [hw];exact congrArg some hw0
theorem vnumber {m:KL}{a:Nat}{x:List UInt8}(h:RA m a x)(g:GL m.gL):Pt (KaZ m) fun r=>r.1=0→GL r.2.gL:=by
 have hl:=h.lx;have hlen:=h.len;have htw:=tw_le (p:=cls false) x
 have hs:x.takeWhile (cls false)++x.dropWhile (cls false)=x:=List.takeWhile_append_dropWhile;have h':RA m a (x.takeWhile (cls false)++x.dropWhile (cls false)):=by rw [hs];exact h
 unfold KaZ;refine Pt.cond (fun _=>Pt.ret (fun e=>by cases e)) fun _=>?_
 rw [KfQ h,Option.bind_some];refine Pt.bind Pt.any fun b _=>Pt.cond (fun _=>Pt.ret (fun e=>by cases e)) fun _=>?_
 rw [h.at_,wa (by omega),Ke6 h',Option.bind_some];refine Pt.bind (P:=fun r=>(∀ y,r=Sum.inl y→0≤y∧y≤9223372036854775807)∧∀ q,r=Sum.inr q→q.1 ≠ 0) (Pt.loop (fun s=>0≤s.1∧s.1≤9223372036854775807) ⟨by simp,by simp⟩ fun s hs=>?_) fun r hr=>?_
 ·obtain ⟨v,j⟩:=s;simp only at hs ⊢;refine Pt.cond (fun _=>Pt.bind Pt.any fun c _=>Pt.cond (fun _=>Pt.ret ⟨fun y e=>(by cases e),fun q e=>(by cases e;simp)⟩) fun hc=>Pt.ret ?_) fun _=>Pt.ret ⟨fun y e=>(by cases e;exact hs),fun q e=>(by cases e)⟩
  have hc':=of_decide_eq_false hc;have hd:0≤IntKind.u64.wrap (IntKind.u8.wrap ((c.toNat:Int) - (48:Int)))∧IntKind.u64.wrap (IntKind.u8.wrap ((c.toNat:Int) - (48:Int)))≤255:=by rw [IntKind.wrap_u8,IntKind.wrap_u64];omega
  show 0≤IntKind.u64.wrap _∧IntKind.u64.wrap _≤_
  generalize IntKind.u64.wrap (IntKind.u8.wrap ((c.toNat:Int) - (48:Int)))=d at *;obtain ⟨d1,d2⟩:=hd;have w1:IntKind.u64.wrap ((9223372036854775807:Int) - d)=9223372036854775807 - d:=by rw [IntKind.wrap_u64];omega
  have w2:(9223372036854775807 - d).tdiv (10:Int)=(9223372036854775807 - d) / 10:=Int.tdiv_eq_ediv_of_nonneg (by omega);have w3:IntKind.u64.wrap ((9223372036854775807 - d) / 10)=(9223372036854775807 - d) / 10:=by rw [IntKind.wrap_u64];omega
  rw [w1,w2,w3] at hc';have w4:IntKind.u64.wrap (IntKind.u64.wrap ((10:Int)*v)+d)=10*v+d:=by rw [IntKind.wrap_u64,IntKind.wrap_u64];omega
  rw [w4];omega
 cases r with
 |
  inl y=>
  obtain ⟨y1,y2⟩:=hr.1 y rfl;refine Pt.bind (vadd h' g ⟨fun e=>(by cases e),fun _=>?_⟩) fun r hr=>Pt.ret hr
  show 0≤IntKind.i64.wrap y∧IntKind.i64.wrap y≤_
  rw [IntKind.wrap_i64];omega
 | inr q=>exact Pt.ret fun e=>absurd e (hr.2 q rfl)
theorem vnext {m:KL}{a:Nat}(h:TkI m a)(g:GL m.gL):Pt (Ka8 m) fun r=>r.1=0→GL r.2.gL:=by
 have ha:=RA.of h;unfold Ka8;refine Pt.bind (P:=fun c=>∃ r,m.gB.drop a=c::r) (fun c e=>?_) fun c hc=>?_
 ·rw [h.at_,KcR] at e;exact ⟨m.gB.drop (a+1),by rw [List.drop_eq_getElem_cons (List.getElem?_eq_some_iff.1 e).1,(List.getElem?_eq_some_iff.1 e).2]⟩
 obtain ⟨r,hr⟩:=hc;rw [ck_is,Option.bind_some];refine Pt.cond (fun _=>Pt.ret fun _=>g) fun _=>Pt.cond (fun e=>?_) fun _=>Pt.cond (fun e=>?_) fun _=>?_
 ·exact Pt.bind (vname ha g hr (by simpa using e)) fun x hx=>Pt.ret hx
 ·exact Pt.bind (vnumber ha g) fun x hx=>Pt.ret hx
 have hlt:a < m.gB.length:=by
  rcases Nat.lt_or_ge a m.gB.length with h1|h1
  ·exact h1
  rw [List.drop_of_length_le h1] at hr;cases hr
 refine Pt.bind (tsign h hlt).pt fun n hn=>Pt.cond (fun _=>Pt.ret fun e=>(by cases e)) fun e=>?_
 rcases hn with rfl|⟨k,rfl,k1,k2⟩
 ·cases e
 have hs:(m.gB.drop a).take k++(m.gB.drop a).drop k=m.gB.drop a:=List.take_append_drop _ _;have h':RA m a ((m.gB.drop a).take k++(m.gB.drop a).drop k):=by rw [hs];exact ha
 have hk:((m.gB.drop a).take k).length=k:=by simp;omega
 have:=vadd (k:=3) (v:=0) h' g ⟨fun e=>(by cases e),fun e=>(by cases e)⟩;rw [hk] at this;exact Pt.bind this fun x hx=>Pt.ret hx
theorem vread (b:List UInt8):Pt (KbM b) fun r=>r.2.2=0→GL r.1:=by
 unfold KbM;refine Pt.cond (fun _=>Pt.ret (by simp)) fun hc=>?_
 have hb:b.length≤20000:=by have:=of_decide_eq_false hc;omega
 refine Pt.bind (P:=fun r=>(∀ q,r=Sum.inl q→GL q.2.2)∧∀ q,r=Sum.inr q→q.2.2 ≠ 0) ?_ fun r hr=>?_
 ·refine Pt.loop (fun s=>s.1=b∧GL s.2.2∧∃ a,TkI ⟨s.1,s.2.1,s.2.2⟩ a) ⟨rfl,by simp [GL],0,rfl,Nat.zero_le _,hb,by simp⟩ fun s hs=>?_
  obtain ⟨s1,s2,s3⟩:=s;obtain ⟨e,g,a,ha⟩:=hs;simp only at e g ha;subst e;have:=ha.at_;simp only at this;subst this;refine Pt.cond (fun hc=>?_) fun hc=>Pt.ret ⟨fun q e=>(by cases e;exact g),fun q e=>by cases e⟩
  have hlt:a < s1.length:=by simpa using hc
  refine Pt.bind (P:=fun r=>TP ⟨s1,(a:Int),s3⟩ a r∧(r.1=0→GL r.2.gL)) (fun r e=>⟨(tnext ha hlt).pt r e,vnext ha g r e⟩) fun r hr=>Pt.cond (fun e=>Pt.ret ⟨fun q e=>(by cases e),fun q e'=>(by cases e';simpa using e)⟩) fun e=>Pt.ret ?_
  have e0:r.1=0:=by simpa using e
  rcases hr.1 with h1|⟨a',h1,h2,h3⟩
  ·exact absurd e0 h1
  exact ⟨h3,hr.2 e0,a',h2.at_,h2.le,h2.len,h2.l⟩
 cases r with
 |
  inl q=>
  have:=hr.1 q rfl;refine Pt.bind (P:=fun l=>GL l) (fun l e=>?_) fun l hl=>Pt.ret fun _=>hl
  rw [(Kem e).1];intro t ht;rcases List.mem_append.1 ht with ht|ht
  ·exact this t ht
  rw [List.mem_singleton.1 ht];exact ⟨fun e=>(by cases e),fun e=>(by cases e)⟩
 | inr q=>exact Pt.ret fun e=>absurd e (hr.2 q rfl)
theorem VE.kids {e:Kc}(h:VE e):e.gKids.length≤2∧∀ k∈e.gKids,VE k:=by
 cases h<;>simp_all
theorem deepV_g:∀ (n:Nat) (e:Kc),VE e→dpE e≤n→dpE e≤1000→Kbf n e=some (dpE e:Int)
 | 0,e,_,h,_=>by rw [KdZ] at h;omega
 |
  n+1,e,hv,h,hb=>by
  show KbW (Kbf n) e=_
  unfold KbW;obtain ⟨hl,hk⟩:=hv.kids;have hd:=KdZ e;refine loop_list e.gKids (fun pre=>dpEs pre) (fun a n=>((a:Nat),(n:Nat))) (fun a=>(a:Int)) (by simp [dpEs]) (fun pre x post hp=>?_) ?_ ?_
  ·have hx:=hk x (Kcs hp);have hm:=KfO (Kcs hp);simp only [KdU hp,cond_true];rw [Kdi hp (by omega)];rw [show idx e.gKids (pre.length:Int)=some x by rw [hp];exact KfD _ _ _,Option.bind_some,deepV_g n x hx (by omega) (by omega),Option.bind_some];rw [KgY];simp only [dpEs];congr 3;omega
  ·simp only [KfE,cond_false]
  rw [hd,wrap_id (by omega) (by omega)];congr 1;omega
theorem deepV {e:Kc}(h:VE e)(hb:dpE e≤1000):KdD e=some (dpE e:Int):=KgD e _ (deepV_g _ e h (Nat.le_refl _) hb)
structure PV (m:Kd) (P:Prop) (r:Kd):Prop where
 l:r.gL=m.gL
 e:r.gE=0→m.gE=0∧P
theorem PV.imp {m r:Kd}{P Q:Prop}(h:PV m P r)(g:P→Q):PV m Q r:=⟨h.l,fun e=>⟨(h.e e).1,g (h.e e).2⟩⟩
theorem PV.trans {m r q:Kd}{P Q R:Prop}(h:PV m P r)(h':PV r Q q)(g:P→Q→R):PV m R q:=⟨h'.l.trans h.l,fun e=>⟨(h.e (h'.e e).1).1,g (h.e (h'.e e).1).2 (h'.e e).2⟩⟩
theorem vlook {m:Kd}(g:GL m.gL):Pt (KaD m) fun t=>TkOK (sk t):=by
 unfold KaD;refine Pt.cond (fun _=>Pt.ret ⟨fun e=>(by cases e),fun e=>(by cases e)⟩) fun _=>Pt.bind (P:=fun t=>TkOK (sk t)) (fun t e=>g t (List.mem_of_getElem? (idx_ok e).2)) fun t ht=>Pt.ret ht
theorem vfail {m:Kd}{a e:Int}(he:e ≠ 0):Pt (KaE m a e) fun r=>r.gL=m.gL∧r.gE ≠ 0:=by
 unfold KaE;refine Pt.cond (fun _=>Pt.ret ⟨rfl,he⟩) fun h=>Pt.ret ⟨rfl,fun e=>?_⟩
 rw [e] at h;cases h
theorem PV.bad {m r:Kd}{P:Prop}(h:r.gL=m.gL∧r.gE ≠ 0):PV m P r:=⟨h.1,fun e=>absurd e h.2⟩
theorem veat {m:Kd}(s:ByteArray):Pt (Kbs m s) (PV m True):=by
 unfold Kbs;refine Pt.bind Pt.any fun b _=>Pt.cond (fun _=>Pt.bind (vfail (by decide)) fun r hr=>Pt.ret (PV.bad hr)) fun _=>Pt.ret ⟨rfl,fun e=>⟨e,trivial⟩⟩
theorem vname' {m:Kd}(g:GL m.gL):Pt (KaW m) fun r=>PV m (NmOK r.1) r.2:=by
 unfold KaW;refine Pt.bind (vlook g) fun t ht=>Pt.cond (fun _=>Pt.bind (vfail (by decide)) fun r hr=>Pt.ret (PV.bad hr)) fun h=>Pt.ret ⟨rfl,fun e=>⟨e,ht.1 (by simpa [sk] using h)⟩⟩
theorem vsound {m:Kd}{e:Kc}(h:m.gE=0→VE e∧dpE e≤1000)(a:Int):Pt (Kav m e a) fun r=>PV m (VX r.1) r.2:=by
 unfold Kav;refine Pt.cond (fun e=>Pt.ret ⟨rfl,fun e0=>?_⟩) fun e0=>?_
 ·simp at e;exact absurd e0 e
 obtain ⟨h1,h2⟩:=h (by simpa using e0);rw [deepV h1 h2,Option.bind_some];refine Pt.cond (fun _=>Pt.bind (vfail (by decide)) fun r hr=>Pt.ret (PV.bad hr)) fun h=>Pt.ret ⟨rfl,fun e'=>⟨e',h1,?_⟩⟩
 have:=of_decide_eq_false h;show dpE e≤24
 omega
theorem vbetween (a:Int)(s:ByteArray):Pt (KaB a s) fun op=>op ≠ 0→lev op < 6:=by
 unfold KaB KbB;repeat' (first|exact Pt.ret (by decide)|(refine Pt.cond (fun _=>?_) (fun _=>?_))|(refine Pt.bind (P:=fun op=>op ≠ 0→lev op < 6) ?_ (fun _ h=>Pt.ret h)))
theorem dp1 (o n:Int)(s:ByteArray)(k:Kc)(a:Int):dpE ⟨o,n,s,[k],a⟩=1+dpE k:=by simp [dpE,dpEs]
theorem dp2 (o n:Int)(s:ByteArray)(k q:Kc)(a:Int):dpE ⟨o,n,s,[k,q],a⟩=1+max (dpE k) (dpE q):=by simp [dpE,dpEs]
theorem dp0 (o n:Int)(s:ByteArray)(a:Int):dpE ⟨o,n,s,[],a⟩=1:=by simp [dpE,dpEs]
theorem ptv:∀ N:Nat,
  (∀ (m:Kd) (a:Int),GL m.gL→Pt ((PG N).1 m a) fun r=>PV m (VX r.1) r.2) ∧
  (∀ m:Kd,GL m.gL→Pt ((PG N).2.1 m) fun r=>PV m (VX r.1) r.2) ∧
  (∀ (m:Kd) (x:Kc) (k at_:Int),GL m.gL→(m.gE=0→∃ s a,NmOK s∧((x=⟨2,0,s,[],a⟩∧k=3)∨(x=⟨19,0,s,[],a⟩∧k=20)))→Pt ((PG N).2.2.1 m x k at_) fun r=>PV m (VX r.1) r.2) ∧
  (∀ (m:Kd) (s:ByteArray),GL m.gL→Pt ((PG N).2.2.2.1 m s) fun r=>PV m (VX r.1) r.2) ∧
  (∀ (m:Kd) (t:Kr) (at_:Int),GL m.gL→Pt ((PG N).2.2.2.2 m t at_) fun r=>PV m (VX r.1) r.2)
 | 0=>⟨fun _ _ _ r e=>(by cases e),fun _ _ r e=>(by cases e),fun _ _ _ _ _ _ r e=>(by cases e),fun _ _ _ r e=>(by cases e),fun _ _ _ _ r e=>(by cases e)⟩
 |
  N+1=>by
  obtain ⟨iR,iU,iI,iA,iS⟩:=ptv N;refine ⟨fun m a g=>?_,fun m g=>?_,fun m x k at_ g hx=>?_,fun m s g=>?_,fun m t at_ g=>?_⟩
  ·show Pt (KaO (PG N).1 (PG N).2.1 (PG N).2.2.1 (PG N).2.2.2.1 (PG N).2.2.2.2 m a) _
   unfold KaO;refine Pt.cond (fun _=>Pt.bind (iU m g) fun r hr=>Pt.ret hr) fun _=>Pt.bind (iR m _ g) fun x hx=>?_
   refine Pt.bind (P:=fun s:List Kr×Int×Int×Int×Int×ByteArray×List Kc×Int=>PV m (VX ⟨s.2.2.2.1,s.2.2.2.2.1,s.2.2.2.2.2.1,s.2.2.2.2.2.2.1,s.2.2.2.2.2.2.2⟩) ⟨s.1,s.2.1,s.2.2.1⟩) ?_ fun s hs=>Pt.ret hs
   refine Pt.loop (fun s:List Kr×Int×Int×Int×Int×ByteArray×List Kc×Int=>PV m (VX ⟨s.2.2.2.1,s.2.2.2.2.1,s.2.2.2.2.2.1,s.2.2.2.2.2.2.1,s.2.2.2.2.2.2.2⟩) ⟨s.1,s.2.1,s.2.2.1⟩) (by simp only;rw [xeta];exact hx) fun s hs=>?_
   obtain ⟨L,p,e0,o1,o2,o3,o4,o5⟩:=s;simp only at hs ⊢;refine Pt.cond (fun he=>?_) fun _=>Pt.ret hs
   have he0:e0=0:=by simpa using he
   have gL:GL L:=by have:=hs.l;simp only at this;rw [this];exact g
   refine Pt.bind (vlook (m:=⟨L,p,e0⟩) gL) fun t ht=>?_
   refine Pt.bind (P:=fun op=>op ≠ 0→lev op < 6) (Pt.cond (fun hk=>Pt.bind (vbetween _ _) fun b hb=>Pt.ret hb) fun _=>Pt.ret (by simp)) fun op hop=>Pt.cond (fun _=>Pt.ret hs) fun hne=>?_
   have hop':=hop (by simpa using hne);refine Pt.bind (iR ⟨L,IntKind.i64.wrap (p+1),e0⟩ _ gL) fun r hr=>?_
   obtain ⟨v1,v2⟩:=(hs.e he0).2;refine Pt.bind (vsound (m:=r.2) (e:=⟨op,0,ByteArray.empty,[⟨o1,o2,o3,o4,o5⟩,r.1],t.gAt⟩) (fun e=>?_) p) fun q hq=>Pt.ret ?_
   ·obtain ⟨r1,r2⟩:=(hr.e e).2;refine ⟨.bin _ _ _ _ hop' v1 r1,?_⟩;rw [dp2];omega
   show PV m (VX ⟨q.1.gOp,q.1.gN,q.1.gName,q.1.gKids,q.1.gAt⟩) ⟨q.2.gL,q.2.gAt,q.2.gE⟩
   rw [xeta];exact ⟨hq.l.trans (hr.l.trans hs.l),fun e=>⟨(hs.e he0).1,(hq.e e).2⟩⟩
  ·show Pt (KaI (PG N).1 (PG N).2.1 (PG N).2.2.1 (PG N).2.2.2.1 (PG N).2.2.2.2 m) _
   unfold KaI;refine Pt.bind (vlook g) fun t ht=>Pt.cond (fun e=>Pt.ret ⟨rfl,fun e0=>?_⟩) fun e=>Pt.cond (fun k=>Pt.ret ⟨rfl,fun e=>⟨e,?_⟩⟩) fun _=>Pt.cond (fun k=>?_) fun _=>Pt.cond (fun k=>?_) fun k=>?_
   ·simp at e;exact absurd e0 e
   ·obtain ⟨n1,n2⟩:=ht.2 (by simpa [sk] using k);exact ⟨.num _ _ n1 n2,by rw [dp0];omega⟩
   ·refine Pt.bind (iI ⟨m.gL,IntKind.i64.wrap (m.gAt+1),m.gE⟩ _ _ _ g fun _=>⟨_,_,ht.1 (by simpa [sk] using k),.inl ⟨rfl,rfl⟩⟩) fun r hr=>Pt.ret ⟨hr.l,hr.e⟩
   ·exact Pt.bind (iS ⟨m.gL,IntKind.i64.wrap (m.gAt+1),m.gE⟩ _ _ g) fun r hr=>Pt.ret ⟨hr.l,hr.e⟩
   exact Pt.bind (vfail (m:=⟨m.gL,IntKind.i64.wrap (m.gAt+1),m.gE⟩) (by decide)) fun r hr=>Pt.ret (PV.bad hr)
  ·show Pt (Kam (PG N).1 (PG N).2.1 (PG N).2.2.1 (PG N).2.2.2.1 (PG N).2.2.2.2 m x k at_) _
   unfold Kam;refine Pt.bind Pt.any fun b _=>Pt.cond (fun _=>Pt.ret ⟨rfl,fun e=>⟨e,?_⟩⟩) fun _=>?_
   ·obtain ⟨s,a,h1,h2⟩:=hx e;rcases h2 with ⟨rfl,_⟩|⟨rfl,_⟩
    ·exact ⟨.var _ _ h1,by rw [dp0];omega⟩
    exact ⟨.addr _ _ h1,by rw [dp0];omega⟩
   refine Pt.bind (iA ⟨m.gL,IntKind.i64.wrap (m.gAt+1),m.gE⟩ _ g) fun r hr=>?_
   refine Pt.bind (vsound (m:=r.2) (e:=⟨k,x.gN,x.gName,[r.1],x.gAt⟩) (fun e=>?_) at_) fun q hq=>Pt.ret ⟨hq.l.trans hr.l,fun e=>⟨(hr.e (hq.e e).1).1,(hq.e e).2⟩⟩
   obtain ⟨e1,r1,r2⟩:=hr.e e;obtain ⟨s,a,h1,h2⟩:=hx e1;rcases h2 with ⟨rfl,rfl⟩|⟨rfl,rfl⟩
   ·exact ⟨.index _ _ _ h1 r1,by rw [dp1];omega⟩
   exact ⟨.addrAt _ _ _ h1 r1,by rw [dp1];omega⟩
  ·show Pt (KaP (PG N).1 (PG N).2.1 (PG N).2.2.1 (PG N).2.2.2.1 (PG N).2.2.2.2 m s) _
   unfold KaP;refine Pt.bind (iR m 0 g) fun r hr=>Pt.cond (fun _=>?_) fun _=>Pt.ret hr
   exact Pt.bind (veat s) fun q hq=>Pt.ret (hr.trans hq fun h _=>h)
  show Pt (KaJ (PG N).1 (PG N).2.1 (PG N).2.2.1 (PG N).2.2.2.1 (PG N).2.2.2.2 m t at_) _
  unfold KaJ;refine Pt.bind (P:=fun b=>b=true→t.gText=ByteArray.mk #[45]∨t.gText=ByteArray.mk #[33]) (Pt.cond (fun h=>Pt.ret fun _=>.inl (of_decide_eq_true h)) fun _=>Pt.ret fun h=>.inr (of_decide_eq_true h)) fun b hb=>Pt.cond (fun h=>?_) fun _=>Pt.cond (fun _=>?_) fun _=>Pt.cond (fun _=>?_) fun _=>Pt.cond (fun _=>Pt.ret ⟨rfl,fun e=>⟨e,.null _,by rw [dp0];omega⟩⟩) fun _=>Pt.cond (fun _=>?_) fun _=>?_
  ·refine Pt.bind (P:=fun op=>op=5∨op=6) ?_ fun op hop=>Pt.bind (iU m g) fun r hr=>?_
   ·unfold KbB;refine Pt.cond (fun _=>Pt.ret (.inl rfl)) fun h1=>Pt.cond (fun _=>Pt.ret (.inr rfl)) fun h2=>?_
    rcases hb h with h|h
    ·exact absurd h (of_decide_eq_false h1)
    exact absurd h (of_decide_eq_false h2)
   refine Pt.bind (vsound (m:=r.2) (e:=⟨op,0,ByteArray.empty,[r.1],t.gAt⟩) (fun e=>?_) at_) fun q hq=>Pt.ret ⟨hq.l.trans hr.l,fun e=>⟨(hr.e (hq.e e).1).1,(hq.e e).2⟩⟩
   obtain ⟨e1,r1,r2⟩:=hr.e e;refine ⟨?_,by rw [dp1];omega⟩;rcases hop with rfl|rfl
   ·exact .neg _ _ r1
   exact .not _ _ r1
  ·exact Pt.bind (vname' g) fun r hr=>Pt.ret ⟨hr.l,fun e=>⟨(hr.e e).1,.load _ _ (hr.e e).2,by rw [dp0];omega⟩⟩
  ·refine Pt.bind (vname' g) fun r hr=>Pt.bind (iI r.2 _ _ _ (by rw [hr.l];exact g) fun e=>⟨_,_,(hr.e e).2,.inr ⟨rfl,rfl⟩⟩) fun q hq=>Pt.ret (hr.trans hq fun _ h=>h)
  ·exact Pt.bind (iA m _ g) fun r hr=>Pt.ret hr
  exact Pt.bind (vfail (by decide)) fun r hr=>Pt.ret (PV.bad hr)
theorem vexpr {L:List Kr}(g:GL L)(a:Int):Pt (Kb2 L a) fun r=>r.2.2=0→VX r.1:=by
 unfold Kb2;refine Pt.bind Pt.any fun b _=>Pt.cond (fun _=>Pt.ret fun e=>(by cases e)) fun _=>Pt.bind (P:=fun r=>PV ⟨L,a,0⟩ (VX r.1) r.2) (fun r e=>?_) fun r hr=>Pt.cond (fun e=>Pt.ret fun e0=>?_) fun e=>Pt.ret fun _=>(hr.e (by simpa using e)).2
 ·obtain ⟨n,hn⟩:=Kcz e;exact (ptv n).1 _ _ g r hn
 simp at e;exact absurd e0 e
end
section
open Go
set_option linter.all false
structure GV (m:Ka) (P:Prop) (r:Ka):Prop where
 l:r.gL=m.gL
 o:r.gOpen=m.gOpen
 v:r.gVars=m.gVars
 e:r.gE=0→m.gE=0∧P
theorem GV.imp {m r:Ka}{P Q:Prop}(h:GV m P r)(g:P→Q):GV m Q r:=⟨h.l,h.o,h.v,fun e=>⟨(h.e e).1,g (h.e e).2⟩⟩
theorem GV.trans {m r q:Ka}{P Q R:Prop}(h:GV m P r)(h':GV r Q q)(g:P→Q→R):GV m R q:=⟨h'.l.trans h.l,h'.o.trans h.o,h'.v.trans h.v,fun e=>⟨(h.e (h'.e e).1).1,g (h.e (h'.e e).1).2 (h'.e e).2⟩⟩
theorem GV.refl (m:Ka):GV m True m:=⟨rfl,rfl,rfl,fun e=>⟨e,trivial⟩⟩
theorem GV.gl {m r:Ka}{P:Prop}(h:GV m P r)(g:GL m.gL):GL r.gL:=by rw [h.l];exact g
def Bd (m r:Ka):Prop:=r.gL=m.gL∧r.gOpen=m.gOpen∧r.gVars=m.gVars∧r.gE ≠ 0
theorem GV.bad {m r:Ka}{P:Prop}(h:Bd m r):GV m P r:=⟨h.1,h.2.1,h.2.2.1,fun e=>absurd e h.2.2.2⟩
theorem wfail {m:Ka}{a e:Int}(he:e ≠ 0):Pt (K9 m a e) (Bd m):=by
 unfold K9;refine Pt.cond (fun _=>Pt.ret ⟨rfl,rfl,rfl,he⟩) fun h=>Pt.ret ⟨rfl,rfl,rfl,fun e=>?_⟩
 rw [e] at h;cases h
theorem wlook {m:Ka}(g:GL m.gL)(a:Int):Pt (KZ m a) fun t=>TkOK (sk t):=by
 unfold KZ;refine Pt.cond (fun _=>Pt.ret ⟨fun e=>(by cases e),fun e=>(by cases e)⟩) fun _=>Pt.bind (P:=fun t=>TkOK (sk t)) (fun t e=>g t (List.mem_of_getElem? (idx_ok e).2)) fun t ht=>Pt.ret ht
theorem weat (m:Ka)(l:List ByteArray):Pt (KC m l) (GV m True):=by
 unfold KC;refine Pt.bind (P:=fun r=>∀ q,r=Sum.inr q→GV m True q) (Pt.loop (fun _=>True) trivial fun s _=>?_) fun r hr=>?_
 ·refine Pt.cond (fun _=>Pt.bind Pt.any fun x _=>Pt.cond (fun e=>Pt.ret fun q h=>?_) fun _=>Pt.bind Pt.any fun b _=>Pt.cond (fun _=>?_) fun _=>Pt.ret trivial) fun _=>Pt.ret fun q h=>by cases h
  ·cases h;exact ⟨rfl,rfl,rfl,fun e=>⟨e,trivial⟩⟩
  refine Pt.bind (wfail (m:=⟨m.gL,s.2,m.gE,m.gVars,m.gOpen⟩) (by decide)) fun x hx=>Pt.ret fun q h=>?_
  cases h;exact .bad hx
 cases r with
 | inl p=>exact Pt.ret ⟨rfl,rfl,rfl,fun e=>⟨e,trivial⟩⟩
 | inr q=>exact Pt.ret (hr q rfl)
theorem wmay (m:Ka)(s:ByteArray):Pt (KI m s) fun r=>GV m True r.2:=by
 unfold KI;exact Pt.bind Pt.any fun b _=>Pt.cond (fun _=>Pt.ret (GV.refl m)) fun _=>Pt.ret ⟨rfl,rfl,rfl,fun e=>⟨e,trivial⟩⟩
theorem wname {m:Ka}(g:GL m.gL):Pt (Kaa m) fun r=>GV m (NmOK r.1) r.2:=by
 unfold Kaa;refine Pt.cond (fun e=>Pt.ret (.bad ⟨rfl,rfl,rfl,by simpa using e⟩)) fun _=>Pt.bind (wlook g 0) fun t ht=>Pt.cond (fun _=>Pt.bind (wfail (by decide)) fun r hr=>Pt.ret (.bad hr)) fun h=>Pt.ret ⟨rfl,rfl,rfl,fun e=>⟨e,ht.1 (by simpa [sk] using h)⟩⟩
theorem wexpr {m:Ka}(g:GL m.gL):Pt (Kab m) fun r=>GV m (VX r.1) r.2:=by
 unfold Kab;refine Pt.cond (fun e=>Pt.ret (.bad ⟨rfl,rfl,rfl,by simpa using e⟩)) fun _=>Pt.bind (vexpr g _) fun x hx=>Pt.cond (fun k=>?_) fun k=>Pt.ret ⟨rfl,rfl,rfl,fun e=>⟨e,hx (by simpa using k)⟩⟩
 exact Pt.bind (wfail (by simpa using k)) fun r hr=>Pt.ret (.bad hr)
structure GW (m:Ka) (vs:List K3) (r:Ka):Prop where
 l:r.gL=m.gL
 o:r.gOpen=m.gOpen
 e:r.gE=0→m.gE=0∧(∀ v∈vs,NmOK v.gName)∧(0≤m.gVars→m.gVars≤16→r.gVars=m.gVars+vs.length∧r.gVars≤16)
theorem GV.w {m r:Ka}{P:Prop}(h:GV m P r):GW m [] r:=⟨h.l,h.o,fun e=>⟨(h.e e).1,by simp,fun _ h16=>by rw [h.v];simp [h16]⟩⟩
theorem GW.trans {m r q:Ka}{k l:List K3}(h:GW m k r)(h':GW r l q):GW m (k++l) q:=by
 refine ⟨h'.l.trans h.l,h'.o.trans h.o,fun e=>?_⟩;obtain ⟨e1,v1,n1⟩:=h'.e e;obtain ⟨e2,v2,n2⟩:=h.e e1;refine ⟨e2,fun v hv=>?_,fun a b=>?_⟩
 ·rcases List.mem_append.1 hv with hv|hv
  ·exact v2 v hv
  exact v1 v hv
 obtain ⟨c1,c2⟩:=n2 a b;obtain ⟨c3,c4⟩:=n1 (by omega) c2;refine ⟨?_,c4⟩;rw [c3,c1,List.length_append];omega
theorem GW.gv {m r q:Ka}{l:List K3}{P:Prop}(h:GW m l r)(h':GV r P q):GW m l q:=by
 have:=h.trans h'.w;rwa [List.append_nil] at this
theorem GW.gl {m r:Ka}{l:List K3}(h:GW m l r)(g:GL m.gL):GL r.gL:=by rw [h.l];exact g
theorem wvar {m:Ka}(g:GL m.gL):Pt (Kas m) fun r=>GW m [r.1] r.2:=by
 unfold Kas;refine Pt.bind (weat m _) fun x1 h1=>Pt.bind (wmay x1 _) fun x2 h2=>Pt.bind (wname ((h1.trans h2 fun _ h=>h).gl g)) fun x3 h3=>?_
 have q:=(h1.trans h2 fun _ h=>h).trans h3 fun _ h=>h
 refine Pt.cond (fun _=>Pt.bind (wfail (by decide)) fun r hr=>Pt.ret ⟨hr.1.trans q.l,hr.2.1.trans q.o,fun e=>absurd e hr.2.2.2⟩) fun k=>Pt.ret ⟨q.l,q.o,fun e=>?_⟩
 obtain ⟨e1,n1⟩:=q.e e;refine ⟨e1,fun v hv=>by rw [List.mem_singleton.1 hv];exact n1,fun a b=>?_⟩;have hk:=of_decide_eq_false k;have hw:IntKind.i64.wrap (x3.2.gVars+1)=m.gVars+1:=by rw [q.v,IntKind.wrap_i64];omega
 simp only;rw [hw] at hk ⊢;exact ⟨rfl,by omega⟩
theorem wlistE {m:Ka}(g:GL m.gL):Pt (KaY m) fun r=>GV m (∀ e∈r.1,VX e) r.2:=by
 unfold KaY;refine Pt.bind (weat m _) fun x1 h1=>Pt.bind (wmay x1 _) fun x2 h2=>?_
 have q2:=h1.trans h2 fun _ h=>h
 refine Pt.cond (fun _=>Pt.ret (q2.imp fun _=>by simp)) fun _=>?_
 refine Pt.bind (P:=fun s:List Kc×List Kr×Int×Int×Int×Int=>GV m (∀ e∈s.1,VX e) ⟨s.2.1,s.2.2.1,s.2.2.2.1,s.2.2.2.2.1,s.2.2.2.2.2⟩) (Pt.loop (fun s:List Kc×List Kr×Int×Int×Int×Int=>GV m (∀ e∈s.1,VX e) ⟨s.2.1,s.2.2.1,s.2.2.2.1,s.2.2.2.2.1,s.2.2.2.2.2⟩) (q2.imp fun _=>by simp) fun s hs=>?_) fun s hs=>Pt.bind (weat _ _) fun x3 h3=>Pt.ret (hs.trans h3 fun h _=>h)
 refine Pt.cond (fun _=>Pt.bind (wexpr (m:=⟨s.2.1,s.2.2.1,s.2.2.2.1,s.2.2.2.2.1,s.2.2.2.2.2⟩) (hs.gl g)) fun x hx=>Pt.bind (P:=fun l=>l=s.1++[x.1]) (fun l e=>(Kem e).1) fun l hl=>Pt.bind (wmay _ _) fun y hy=>?_) fun _=>Pt.ret hs
 subst hl;have q:=(hs.trans hx (R:=∀ e∈s.1++[x.1],VX e) fun h1 h2 e he=>by
  rcases List.mem_append.1 he with he|he
  ·exact h1 e he
  rw [List.mem_singleton.1 he];exact h2).trans hy fun h _=>h
 exact Pt.cond (fun _=>Pt.ret q) fun _=>Pt.ret q
theorem wlistV {m:Ka}(g:GL m.gL):Pt (Ka4 m) fun r=>GW m r.1 r.2:=by
 unfold Ka4;refine Pt.bind (weat m _) fun x1 h1=>Pt.bind (wmay x1 _) fun x2 h2=>?_
 have q2:=(h1.trans h2 (R:=True) fun _ h=>h).w;refine Pt.cond (fun _=>Pt.ret q2) fun _=>?_
 refine Pt.bind (P:=fun s:List K3×List Kr×Int×Int×Int×Int=>GW m s.1 ⟨s.2.1,s.2.2.1,s.2.2.2.1,s.2.2.2.2.1,s.2.2.2.2.2⟩) (Pt.loop (fun s:List K3×List Kr×Int×Int×Int×Int=>GW m s.1 ⟨s.2.1,s.2.2.1,s.2.2.2.1,s.2.2.2.2.1,s.2.2.2.2.2⟩) q2 fun s hs=>?_) fun s hs=>Pt.bind (weat _ _) fun x3 h3=>Pt.ret (hs.gv h3)
 refine Pt.cond (fun _=>Pt.bind (wvar (m:=⟨s.2.1,s.2.2.1,s.2.2.2.1,s.2.2.2.2.1,s.2.2.2.2.2⟩) (hs.gl g)) fun x hx=>Pt.bind (P:=fun l=>l=s.1++[x.1]) (fun l e=>(Kem e).1) fun l hl=>Pt.bind (wmay _ _) fun y hy=>?_) fun _=>Pt.ret hs
 subst hl;have q:=(hs.trans hx).gv hy;exact Pt.cond (fun _=>Pt.ret q) fun _=>Pt.ret q
theorem wcall {m:Ka}(g:GL m.gL){a:Ki}(hn:a.gName=ByteArray.empty∨(m.gE=0→NmOK a.gName))(hk:a.gKids=[])(he:a.gElse=[])(d:Nat):Pt (KaS m a) fun r=>GV m (VS d r.1) r.2:=by
 unfold KaS;refine Pt.bind (wname g) fun x1 h1=>Pt.bind (wlistE (h1.gl g)) fun x2 h2=>Pt.bind (weat _ _) fun x3 h3=>Pt.ret ?_
 have q:=((h1.trans h2 And.intro).trans h3 fun h _=>h);refine ⟨q.l,q.o,q.v,fun e=>?_⟩;obtain ⟨e0,n1,n2⟩:=q.e e;refine ⟨e0,?_⟩;simp only;rw [hk,he];rcases hn with hn|hn
 ·rw [hn];exact .call _ _ _ _ n1 n2
 exact .callTo _ _ _ _ _ (hn e0) n1 n2
theorem wassign {m:Ka}(g:GL m.gL){a:Ki}(hn:m.gE=0→NmOK a.gName)(hf:a.gFunc=ByteArray.empty)(hx:a.gExps=[])(hk:a.gKids=[])(he:a.gElse=[])(d:Nat):Pt (Kap m a) fun r=>GV m (VS d r.1) r.2:=by
 unfold Kap;refine Pt.bind (wmay m _) fun x1 h1=>Pt.cond (fun _=>Pt.bind (weat _ _) fun x2 h2=>Pt.ret ?_) fun _=>Pt.bind Pt.any fun b _=>Pt.cond (fun _=>?_) fun _=>?_
 ·have q:=h1.trans h2 fun _ h=>h
  refine ⟨q.l,q.o,q.v,fun e=>?_⟩;obtain ⟨e0,_⟩:=q.e e;refine ⟨e0,?_⟩;simp only;rw [hf,hx,hk,he];exact .input _ _ _ (hn e0)
 ·refine Pt.bind (wcall (h1.gl g) (.inr fun e=>hn (h1.e e).1) hk he d) fun x hx=>Pt.ret (h1.trans hx fun _ h=>h)
 refine Pt.bind (wexpr (h1.gl g)) fun x2 h2=>Pt.bind (weat _ _) fun x3 h3=>Pt.ret ?_
 have q:=(h1.trans h2 fun _ h=>h).trans h3 fun h _=>h
 refine ⟨q.l,q.o,q.v,fun e=>?_⟩;obtain ⟨e0,n1⟩:=q.e e;refine ⟨e0,?_⟩;simp only;rw [hf,hk,he];exact .assign _ _ _ _ (hn e0) n1
theorem wnamed {m:Ka}(g:GL m.gL)(at_:Int)(d:Nat):Pt (Kaw m ⟨0,ByteArray.empty,ByteArray.empty,[],[],[],at_⟩) fun r=>GV m (VS d r.1) r.2:=by
 unfold Kaw;refine Pt.bind Pt.any fun b _=>Pt.cond (fun _=>Pt.bind (wcall g (.inl rfl) rfl rfl d) fun x hx=>Pt.ret hx) fun _=>Pt.bind (wname g) fun x1 h1=>Pt.bind (wmay _ _) fun x2 h2=>Pt.cond (fun _=>?_) fun _=>?_
 ·have q2:=h1.trans h2 fun h _=>h
  refine Pt.bind (wexpr (q2.gl g)) fun x3 h3=>Pt.bind (weat _ _) fun x4 h4=>?_
  have q4:=(q2.trans h3 And.intro).trans h4 fun h _=>h
  refine Pt.bind (wexpr (q4.gl g)) fun x5 h5=>Pt.bind (weat _ _) fun x6 h6=>Pt.ret ?_
  have q6:=(q4.trans h5 And.intro).trans h6 fun h _=>h
  refine ⟨q6.l,q6.o,q6.v,fun e=>?_⟩;obtain ⟨e0,⟨n1,n2⟩,n3⟩:=q6.e e;exact ⟨e0,.put _ _ _ _ _ n1 n2 n3⟩
 refine Pt.bind (weat _ _) fun x3 h3=>?_
 have q3:=(h1.trans h2 fun h _=>h).trans h3 fun h _=>h
 refine Pt.bind (wassign (q3.gl g) (a:=⟨0,x1.1,ByteArray.empty,[],[],[],at_⟩) (fun e=>(q3.e e).2) rfl rfl rfl rfl d) fun x4 h4=>Pt.ret ?_
 exact q3.trans h4 fun _ h=>h
theorem wtest {m:Ka}(g:GL m.gL):Pt (KaT m) fun r=>GV m (∃ e,r.1=[e]∧VX e) r.2:=by
 unfold KaT;refine Pt.bind (weat m _) fun x1 h1=>Pt.bind (wexpr (h1.gl g)) fun x2 h2=>Pt.bind (weat _ _) fun x3 h3=>Pt.ret ?_
 exact ((h1.trans h2 fun _ h=>h).trans h3 fun h _=>h).imp fun h=>⟨_,rfl,h⟩
theorem wblk {one:Ka→Option (Ki×Ka)}{m:Ka}{d:Nat}(hone:∀ {r},r.gL=m.gL→r.gOpen=m.gOpen→m.gE=0→Pt (one r) fun q=>GV r (VS d q.1) q.2){F:List Ki×List Kr×Int×Int×Int×Int→Option (Step (List Ki×List Kr×Int×Int×Int×Int) (List Ki×List Kr×Int×Int×Int×Int))}
  (hF:∀ s38,F s38=(Option.bind (α:=Bool×List Kr×Int×Int×Int×Int) (bif (s38.2.2.2.1==(0:Int)) then ((KI (⟨s38.2.1,s38.2.2.1,s38.2.2.2.1,s38.2.2.2.2.1,s38.2.2.2.2.2⟩:Ka) qZ11).bind fun x62=>some ((!x62.1),x62.2.gL,x62.2.gAt,x62.2.gE,x62.2.gVars,x62.2.gOpen)) else some (false,s38.2.1,s38.2.2.1,s38.2.2.2.1,s38.2.2.2.2.1,s38.2.2.2.2.2)) fun y60=>(bif y60.1 then ((one (⟨y60.2.1,y60.2.2.1,y60.2.2.2.1,y60.2.2.2.2.1,y60.2.2.2.2.2⟩:Ka)).bind fun x64=>((app 120 s38.1 ([x64.1]:List Ki)).bind fun x65=>some (.next (x65,x64.2.gL,x64.2.gAt,x64.2.gE,x64.2.gVars,x64.2.gOpen)))) else some (.done (s38.1,y60.2.1,y60.2.2.1,y60.2.2.2.1,y60.2.2.2.2.1,y60.2.2.2.2.2))))) :
  Pt (loopM F (([]:List Ki),m.gL,m.gAt,m.gE,m.gVars,m.gOpen)) fun s=>GV m (VSs d s.1) ⟨s.2.1,s.2.2.1,s.2.2.2.1,s.2.2.2.2.1,s.2.2.2.2.2⟩:=by
 refine Pt.loop (fun s:List Ki×List Kr×Int×Int×Int×Int=>GV m (VSs d s.1) ⟨s.2.1,s.2.2.1,s.2.2.2.1,s.2.2.2.2.1,s.2.2.2.2.2⟩) ((GV.refl m).imp fun _=>.nil _) fun s hs=>?_
 rw [hF];refine Pt.bind (P:=fun y:Bool×List Kr×Int×Int×Int×Int=>GV m (VSs d s.1) ⟨y.2.1,y.2.2.1,y.2.2.2.1,y.2.2.2.2.1,y.2.2.2.2.2⟩∧(y.1=true→s.2.2.2.1=0)) (Pt.cond (fun he=>Pt.bind (wmay _ _) fun x hx=>Pt.ret ⟨hs.trans hx fun h _=>h,fun _=>by simpa using he⟩) fun _=>Pt.ret ⟨hs,fun h=>(by cases h)⟩) fun y hy=>Pt.cond (fun k=>?_) fun _=>Pt.ret hy.1
 have e0:=(hs.e (hy.2 k)).1;refine Pt.bind (hone hy.1.l hy.1.o e0) fun x hx=>Pt.bind (P:=fun l=>l=s.1++[x.1]) (fun l e=>(Kem e).1) fun l hl=>Pt.ret ?_
 subst hl;exact hy.1.trans hx fun h1 h2=>vss_append h1 h2
theorem wopen {m:Ka}{o:Nat}(ho:m.gOpen=(o:Int)){β:Type}{f:List Kr×Int×Int×Int×Int→Option β}{Q:β→Prop}(g:∀ y:List Kr×Int×Int×Int×Int,GV m (o+1≤24) ⟨y.1,y.2.1,y.2.2.1,y.2.2.2.1,y.2.2.2.2⟩→Pt (f y) Q) :
  Pt ((KC m qZ7).bind fun x1=>(Option.bind (α:=List Kr×Int×Int×Int×Int) (bif (decide ((24:Int)≤x1.gOpen)) then ((K9 x1 m.gAt (5:Int)).bind fun x6=>some (x6.gL,x6.gAt,x6.gE,x6.gVars,x6.gOpen)) else some (x1.gL,x1.gAt,x1.gE,x1.gVars,x1.gOpen)) f)) Q:=by
 refine Pt.bind (weat m _) fun x1 h1=>Pt.bind (P:=fun y:List Kr×Int×Int×Int×Int=>GV m (o+1≤24) ⟨y.1,y.2.1,y.2.2.1,y.2.2.2.1,y.2.2.2.2⟩) (Pt.cond (fun _=>Pt.bind (wfail (by decide)) fun r hr=>Pt.ret (h1.trans (.bad hr) (Q:=o+1≤24) fun _ h=>h)) fun k=>Pt.ret ((h1.imp fun _=>?_))) fun y hy=>g y hy
 have:=of_decide_eq_false k;have:=h1.o;omega
theorem stv:∀ N:Nat,(∀ (m:Ka) (o:Nat),GL m.gL→m.gOpen=(o:Int)→o≤24→Pt ((SG N).1 m) fun r=>GV m (VS (24 - o) r.1) r.2)∧(∀ (m:Ka) (o:Nat),GL m.gL→m.gOpen=(o:Int)→o≤24→Pt ((SG N).2 m) fun r=>GV m (o+1≤24∧VSs (24 - (o+1)) r.1) r.2)
 | 0=>⟨fun _ _ _ _ _ r e=>(by cases e),fun _ _ _ _ _ r e=>(by cases e)⟩
 |
  N+1=>by
  obtain ⟨iS,iB⟩:=stv N;refine ⟨fun m o g ho h24=>?_,fun m o g ho h24=>?_⟩
  ·show Pt (Kax (SG N).1 (SG N).2 m) _
   unfold Kax;refine Pt.bind (wlook g 0) fun t _=>Pt.cond (fun _=>Pt.bind (wnamed g _ _) fun x hx=>Pt.ret hx) fun _=>Pt.bind (wmay m _) fun x1 q1=>Pt.cond (fun _=>?_) fun _=>Pt.bind (wmay _ _) fun x2 h2=>?_
   ·refine Pt.bind (wname (q1.gl g)) fun x2 h2=>Pt.bind (weat _ _) fun x3 h3=>?_
    have q3:=(q1.trans h2 fun _ h=>h).trans h3 fun h _=>h
    refine Pt.bind (wexpr (q3.gl g)) fun x4 h4=>Pt.bind (weat _ _) fun x5 h5=>Pt.ret ?_
    exact ((q3.trans h4 And.intro).trans h5 fun h _=>h).imp fun h=>.store _ _ _ _ h.1 h.2
   have q2:GV m True x2.2:=q1.trans h2 fun _ h=>h
   refine Pt.cond (fun _=>?_) fun _=>Pt.bind (wmay _ _) fun x3 h3=>?_
   ·refine Pt.bind (wtest (q2.gl g)) fun x3 h3=>?_
    have q3:=q2.trans h3 fun _ h=>h
    refine Pt.bind (iB _ o (q3.gl g) (q3.o.trans ho) h24) fun x4 h4=>Pt.bind (wmay _ _) fun x5 h5=>?_
    have q5:=(q3.trans h4 And.intro).trans h5 fun h _=>h
    refine Pt.cond (fun _=>Pt.bind (iB _ o (q5.gl g) (q5.o.trans ho) h24) fun x6 h6=>Pt.ret ((q5.trans h6 And.intro).imp fun h=>?_)) fun _=>Pt.ret (q5.imp fun h=>?_)
    ·obtain ⟨⟨⟨e,he,ve⟩,h1,h2⟩,h3,h4⟩:=h;rw [he,show 24 - o=(24 - (o+1))+1 by omega];exact .ite _ _ _ _ _ ve h2 h4
    obtain ⟨⟨e,he,ve⟩,h1,h2⟩:=h;rw [he,show 24 - o=(24 - (o+1))+1 by omega];exact .ite _ _ _ _ _ ve h2 (.nil _)
   have q3:GV m True x3.2:=q2.trans h3 fun _ h=>h
   refine Pt.cond (fun _=>?_) fun _=>Pt.bind (wmay _ _) fun x4 h4=>?_
   ·refine Pt.bind (wtest (q3.gl g)) fun x4 h4=>?_
    have q4:=q3.trans h4 fun _ h=>h
    refine Pt.bind (iB _ o (q4.gl g) (q4.o.trans ho) h24) fun x5 h5=>Pt.ret ((q4.trans h5 And.intro).imp fun h=>?_)
    obtain ⟨⟨e,he,ve⟩,h1,h2⟩:=h;rw [he,show 24 - o=(24 - (o+1))+1 by omega];exact .loop _ _ _ _ ve h2
   have q4:GV m True x4.2:=q3.trans h4 fun _ h=>h
   refine Pt.cond (fun _=>?_) fun _=>Pt.bind (wmay _ _) fun x5 h5=>?_
   ·refine Pt.bind (wexpr (q4.gl g)) fun x5 h5=>Pt.bind (weat _ _) fun x6 h6=>Pt.ret ?_
    exact ((q4.trans h5 fun _ h=>h).trans h6 fun h _=>h).imp fun h=>.ret _ _ _ h
   have q5:GV m True x5.2:=q4.trans h5 fun _ h=>h
   refine Pt.cond (fun _=>?_) fun _=>?_
   ·refine Pt.bind (wtest (q5.gl g)) fun x6 h6=>Pt.bind (weat _ _) fun x7 h7=>Pt.ret ?_
    refine ((q5.trans h6 fun _ h=>h).trans h7 fun h _=>h).imp fun h=>?_
    obtain ⟨e,he,ve⟩:=h;rw [he];exact .assert _ _ _ ve
   exact Pt.bind (wfail (by decide)) fun r hr=>Pt.ret (q5.trans (Q:=VS (24 - o) _) (.bad hr) fun _ h=>h)
  show Pt (Kat (SG N).1 (SG N).2 m) _
  unfold Kat grammar_nothing;refine wopen ho fun y hy=>?_
  rw [Option.bind_some];have hyo:=hy.o;simp only at hyo;have hw:IntKind.i64.wrap (y.2.2.2.2+1)=((o+1:Nat):Int):=by rw [hyo,ho,IntKind.wrap_i64];omega
  refine Pt.bind (wblk (m:=⟨y.1,y.2.1,y.2.2.1,y.2.2.2.1,IntKind.i64.wrap (y.2.2.2.2+1)⟩) (d:=24 - (o+1)) (fun {r} hl hr he=>iS r (o+1) (by rw [hl];exact hy.gl g) (by rw [hr];exact hw) (hy.e he).2) (fun _=>rfl)) fun s hs=>Pt.ret ⟨hs.l.trans hy.l,?_,hs.v.trans hy.v,fun e=>?_⟩
  ·have:=hs.o;simp only at this ⊢;rw [this,hw,ho,IntKind.wrap_i64];omega
  obtain ⟨e1,h1⟩:=hs.e e;obtain ⟨e2,h2⟩:=hy.e e1;exact ⟨e2,h2,h1⟩
theorem wstmt {m:Ka}{o:Nat}(g:GL m.gL)(ho:m.gOpen=(o:Int))(h24:o≤24):Pt (KbR m) fun r=>GV m (VS (24 - o) r.1) r.2:=fun r e=>by
 obtain ⟨n,hn⟩:=Kcz e;exact (stv n).1 m o g ho h24 r hn
theorem wlocals {m:Ka}(g:GL m.gL)(f:K1)(hf:f.gLocals=[]):Pt (KaH f m) fun r=>GW m r.2.gLocals r.1∧r.2.gName=f.gName∧r.2.gParams=f.gParams:=by
 unfold KaH;refine Pt.bind (P:=fun s:List Kr×Int×Int×Int×Int×List K3=>GW m s.2.2.2.2.2 ⟨s.1,s.2.1,s.2.2.1,s.2.2.2.1,s.2.2.2.2.1⟩) ?_ fun s hs=>Pt.ret ⟨hs,rfl,rfl⟩
 refine Pt.loop (fun s:List Kr×Int×Int×Int×Int×List K3=>GW m s.2.2.2.2.2 ⟨s.1,s.2.1,s.2.2.1,s.2.2.2.1,s.2.2.2.2.1⟩) (by simp only;rw [hf];exact (GV.refl m).w) fun s hs=>?_
 refine Pt.bind Pt.any fun b _=>Pt.cond (fun _=>Pt.bind (wvar (m:=⟨s.1,s.2.1,s.2.2.1,s.2.2.2.1,s.2.2.2.2.1⟩) (hs.gl g)) fun x hx=>Pt.bind (P:=fun l=>l=s.2.2.2.2.2++[x.1]) (fun l e=>(Kem e).1) fun l hl=>Pt.bind (weat _ _) fun y hy=>Pt.ret ?_) fun _=>Pt.ret hs
 subst hl;exact (hs.trans hx).gv hy
theorem wfunction {m:Ka}(g:GL m.gL)(ho:m.gOpen=0)(hv:m.gVars=0):Pt (KaF m) fun r=>r.2.gE=0→NmOK r.1.gName∧(∀ v∈r.1.gParams,NmOK v.gName)∧(∀ v∈r.1.gLocals,NmOK v.gName)∧r.1.gParams.length+r.1.gLocals.length≤16∧VSs 23 r.1.gBody:=by
 unfold KaF;refine Pt.bind (wlook g 0) fun t _=>Pt.bind (weat m _) fun x1 h1=>Pt.bind (wname (h1.gl g)) fun x2 h2=>?_
 have q2:=h1.trans h2 fun _ h=>h
 refine Pt.bind (wlistV (q2.gl g)) fun x3 h3=>?_
 have q3:=q2.w.trans h3;rw [List.nil_append] at q3;refine Pt.bind (P:=fun x4:List Ki×Ka×K1=>x4.2.1.gE=0→x3.2.gE=0∧x4.2.2.gName=x2.1∧x4.2.2.gParams=x3.1∧GW m (x3.1++x4.2.2.gLocals) ⟨x4.2.1.gL,x4.2.1.gAt,x4.2.1.gE,((x3.1++x4.2.2.gLocals).length:Int),0⟩∧(x3.1++x4.2.2.gLocals).length≤16∧VSs 23 x4.1) ?_ fun x4 h4=>?_
 ·unfold Kbt;have ho3:x3.2.gOpen=((0:Nat):Int):=q3.o.trans ho;refine wopen ho3 fun y hy=>?_
  have hyo:=hy.o;simp only at hyo;have hw:IntKind.i64.wrap (y.2.2.2.2+1)=((1:Nat):Int):=by rw [hyo,ho3,IntKind.wrap_i64];omega
  refine Pt.bind (wlocals (m:=⟨y.1,y.2.1,y.2.2.1,y.2.2.2.1,IntKind.i64.wrap (y.2.2.2.2+1)⟩) (hy.gl (q3.gl g)) _ rfl) fun z hz=>?_
  obtain ⟨hz,z1,z2⟩:=hz;have zo:=hz.o;simp only at zo;refine Pt.bind (wblk (m:=z.1) (d:=23) (fun {r} hl hr he=>wstmt (o:=1) (by rw [hl];exact hz.gl (hy.gl (q3.gl g))) (by rw [hr,zo];exact hw) (by omega)) (fun _=>rfl)) fun s hs=>Pt.ret fun e=>?_
  obtain ⟨e1,b1⟩:=hs.e e;obtain ⟨e2,b2,b3⟩:=hz.e e1;obtain ⟨e3,b4⟩:=hy.e e2;obtain ⟨e4,b5,b6⟩:=q3.e e3;simp only at e1 e2 e3 b3;obtain ⟨c1,c2⟩:=b6 (by omega) (by omega);have hyv:=hy.v;simp only at hyv;obtain ⟨c3,c4⟩:=b3 (by rw [hyv];omega) (by rw [hyv];exact c2);have cnt:(x3.1++z.2.gLocals).length≤16:=by rw [List.length_append];omega
  refine ⟨e3,z1,z2,⟨?_,?_,fun _=>⟨e4,fun v hv'=>?_,fun _ _=>⟨?_,?_⟩⟩⟩,cnt,b1⟩
  ·exact (hs.l.trans hz.l).trans (hy.l.trans q3.l)
  ·exact ho.symm
  ·rcases List.mem_append.1 hv' with h|h
   ·exact b5 v h
   exact b2 v h
  ·simp only;omega
  simp only;omega
 have fin:x4.2.1.gE=0→NmOK x4.2.2.gName∧(∀ v∈x4.2.2.gParams,NmOK v.gName)∧(∀ v∈x4.2.2.gLocals,NmOK v.gName)∧x4.2.2.gParams.length+x4.2.2.gLocals.length≤16∧VSs 23 x4.1:=fun e=>by
  obtain ⟨e1,n1,n2,n3,n4,n5⟩:=h4 e;obtain ⟨_,n6,_⟩:=n3.e e;obtain ⟨e2,_,_⟩:=h3.e e1;rw [n1,n2];rw [List.length_append] at n4;exact ⟨(h2.e e2).2,fun v hv=>n6 v (by simp [hv]),fun v hv=>n6 v (by simp [hv]),n4,n5⟩
 refine Pt.bind Pt.any fun b _=>Pt.cond (fun _=>Pt.bind (wfail (by decide)) fun r hr=>Pt.ret fun e=>absurd e hr.2.2.2) fun _=>Pt.ret fin
theorem vtext {A:Type}{b:List UInt8}{none_:A}{of:List Kr→Int→Option (A×Int×Int)}{P:A→Prop}(hof:∀ l:List Kr,GL l→Pt (of l 0) fun r=>r.2.2=0→P r.1) :
  Pt ((KbM b).bind fun x4=>(bif (x4.2.2 != (0:Int)) then some (none_,x4.2.1,x4.2.2) else ((of x4.1 (0:Int)).bind fun x14=>((idx x4.1 (min x14.2.1 (IntKind.i64.wrap ((x4.1.length:Int) - (1:Int))))).bind fun x16=>(bif (x14.2.2 != (0:Int)) then some (none_,x16.gAt,x14.2.2) else (bif (x16.gKind != (0:Int)) then some (none_,x16.gAt,(3:Int)) else some (x14.1,(0:Int),(0:Int)))))))) fun r=>r.2.2=0→P r.1:=by
 refine Pt.bind (vread b) fun x hx=>Pt.cond (fun e=>Pt.ret fun h=>?_) fun e=>Pt.bind (hof x.1 (hx (by simpa using e))) fun y hy=>Pt.bind Pt.any fun t _=>Pt.cond (fun e=>Pt.ret fun h=>?_) fun e=>Pt.cond (fun _=>Pt.ret (fun h=>by cases h)) fun _=>Pt.ret fun _=>hy (by simpa using e)
 ·simp at e;exact absurd h e
 simp at e;exact absurd h e
theorem vfunc (b:List UInt8):T (KaN b) fun r=>r.2.2=0→VF r.1:=by
 obtain ⟨f,a,e,h1,h2⟩:=readsF b;refine T.eq h1 fun h=>?_
 have key:Pt (KaN b) fun r=>r.2.2=0→NmOK r.1.gName∧(∀ v∈r.1.gParams,NmOK v.gName)∧(∀ v∈r.1.gLocals,NmOK v.gName)∧r.1.gParams.length+r.1.gLocals.length≤16∧VSs 23 r.1.gBody:=by
  unfold KaN KbD;refine Pt.bind (vtext (P:=fun f=>NmOK f.gName∧(∀ v∈f.gParams,NmOK v.gName)∧(∀ v∈f.gLocals,NmOK v.gName)∧f.gParams.length+f.gLocals.length≤16∧VSs 23 f.gBody) fun l g=>?_) fun x hx=>Pt.ret hx
  unfold KcV KbI;refine Pt.bind (P:=fun r:Ka×Bool=>r.1=⟨l,0,0,0,0⟩) (Pt.cond (fun _=>Pt.ret rfl) fun _=>Pt.ret rfl) fun x hx=>Pt.cond (fun _=>Pt.ret fun h=>by cases h) fun _=>?_
  rw [hx];refine Pt.bind (wfunction g rfl rfl) fun r hr=>Pt.cond (fun e=>Pt.ret fun h=>?_) fun e=>Pt.ret fun _=>hr (by simpa using e)
  simp at e;exact absurd h e
 obtain ⟨n1,n2,n3,n4,n5⟩:=key _ h1 h;exact ⟨n1,n2,n3,n4,n5,(h2 h).2.2⟩
theorem wglobal {m:Ka}(g:GL m.gL):Pt (KaQ m) fun r=>r.2.gE=0→VG r.1:=by
 unfold KaQ;refine Pt.bind (wlook g 0) fun t _=>Pt.bind (weat m _) fun x1 h1=>Pt.bind (wmay _ _) fun x2 h2=>?_
 have q2:=h1.trans h2 fun _ h=>h
 refine Pt.bind (wname (q2.gl g)) fun x3 h3=>?_
 have q3:=q2.trans h3 fun _ h=>h
 refine Pt.bind (P:=fun y:Bool×List Kr×Int×Int×Int×Int=>GV m (NmOK x3.1) ⟨y.2.1,y.2.2.1,y.2.2.2.1,y.2.2.2.2.1,y.2.2.2.2.2⟩∧(x2.1=true→y.1=false)) (Pt.cond (fun k=>Pt.bind (wmay _ _) fun x hx=>Pt.ret ⟨q3.trans hx fun h _=>h,fun h=>?_⟩) fun _=>Pt.ret ⟨q3,fun _=>rfl⟩) fun y hy=>?_
 ·rw [h] at k;cases k
 refine Pt.bind (P:=fun z:List Kr×Int×Int×Int×Int×Int=>GV m (NmOK x3.1) ⟨z.1,z.2.1,z.2.2.1,z.2.2.2.1,z.2.2.2.2.1⟩∧(x2.1=true→z.2.2.2.2.2=0)∧0≤z.2.2.2.2.2∧z.2.2.2.2.2≤1000) (Pt.cond (fun k=>?_) fun _=>Pt.ret ⟨hy.1,fun _=>rfl,by simp,by simp⟩) fun z hz=>Pt.bind (weat _ _) fun r hr=>Pt.ret fun e=>?_
 ·have k0:x2.1=true→False:=fun h=>by rw [hy.2 h] at k;cases k
  refine Pt.bind (wlook (m:=⟨y.2.1,y.2.2.1,y.2.2.2.1,y.2.2.2.2.1,y.2.2.2.2.2⟩) (hy.1.gl g) 0) fun t _=>?_
  refine Pt.bind (P:=fun z:List Kr×Int×Int×Int×Int×Int=>GV m (NmOK x3.1) ⟨z.1,z.2.1,z.2.2.1,z.2.2.2.1,z.2.2.2.2.1⟩∧0≤z.2.2.2.2.2∧z.2.2.2.2.2≤1000) (Pt.bind (P:=fun z:List Kr×Int×Int×Int×Int×Int=>GV m (NmOK x3.1) ⟨z.1,z.2.1,z.2.2.1,z.2.2.2.1,z.2.2.2.2.1⟩∧0≤z.2.2.2.2.2∧z.2.2.2.2.2≤1000) (Pt.cond (fun _=>?_) fun _=>?_) fun z hz=>Pt.ret hz) fun z hz=>Pt.bind (weat _ _) fun r hr=>Pt.ret ⟨hz.1.trans hr fun h _=>h,fun h=>(k0 h).elim,hz.2⟩
  ·exact Pt.bind (wfail (by decide)) fun r hr=>Pt.ret ⟨hy.1.trans (Q:=True) (.bad hr) fun h _=>h,by simp,by simp⟩
  refine Pt.bind (P:=fun b=>b=false→1≤t.gN∧t.gN≤1000) (Pt.cond (fun _=>Pt.ret (by simp)) fun k1=>Pt.ret fun k2=>?_) fun b hb=>Pt.bind (P:=fun z:List Kr×Int×Int×Int×Int×Int=>GV m (NmOK x3.1) ⟨z.1,z.2.1,z.2.2.1,z.2.2.2.1,z.2.2.2.2.1⟩∧0≤z.2.2.2.2.2∧z.2.2.2.2.2≤1000) (Pt.cond (fun _=>?_) fun k=>Pt.ret ⟨⟨hy.1.l,hy.1.o,hy.1.v,hy.1.e⟩,?_⟩) fun z hz=>Pt.ret hz
  ·have:=of_decide_eq_false k1;have:=of_decide_eq_false k2;omega
  ·exact Pt.bind (wfail (by decide)) fun r hr=>Pt.ret ⟨hy.1.trans (Q:=True) (.bad hr) fun h _=>h,by simp,by simp⟩
  obtain ⟨n1,n2⟩:=hb k;show 0≤t.gN∧t.gN≤1000
  omega
 exact ⟨(hz.1.e (hr.e e).1).2,hz.2.1,hz.2.2.1,hz.2.2.2⟩
theorem vglobal (b:List UInt8):T (Kaz b) fun r=>r.2.2=0→VG r.1:=by
 obtain ⟨f,a,e,h1⟩:=readsG b;refine T.eq h1 ?_;have key:Pt (Kaz b) fun r=>r.2.2=0→VG r.1:=by
  unfold Kaz Kbr;refine Pt.bind (vtext (P:=VG) fun l g=>?_) fun x hx=>Pt.ret hx
  unfold Kcv KbI;refine Pt.bind (P:=fun r:Ka×Bool=>r.1=⟨l,0,0,0,0⟩) (Pt.cond (fun _=>Pt.ret rfl) fun _=>Pt.ret rfl) fun x hx=>Pt.cond (fun _=>Pt.ret fun h=>by cases h) fun _=>?_
  rw [hx];refine Pt.bind (wglobal g) fun r hr=>Pt.cond (fun e=>Pt.ret fun h=>?_) fun e=>Pt.ret fun _=>hr (by simpa using e)
  simp at e;exact absurd h e
 exact key _ h1
theorem vtextE (b:List UInt8):T (KbC b) fun r=>r.2.2=0→VX r.1∧szE r.1≤5000:=by
 have key:T (KbC b) fun r=>r.2.2=0→szE r.1≤5000:=by
  unfold KbC;refine T.bind (tread b) fun x hx=>T.cond (fun e=>T.ret fun h=>?_) fun e=>?_
  ·simp at e;exact absurd h e
  obtain ⟨k1,k2⟩:=hx (by simpa using e);refine T.bind (pexpr (L:=x.1) (a:=0) (by omega) (by omega) (by omega)) fun y hy=>?_
  have hw:IntKind.i64.wrap ((x.1.length:Int) - 1)=(x.1.length:Int) - 1:=by rw [IntKind.wrap_i64];omega
  rw [hw];obtain ⟨k,hk⟩:=Int.eq_ofNat_of_zero_le (show 0≤min y.2.1 ((x.1.length:Int) - 1) by have:=hy.1;omega);rw [hk];have hi:T (idx x.1 (k:Int)) fun _=>True:=T.idx (by omega) fun _ _=>trivial
  refine T.bind (P:=fun _=>True) (T.cond (fun _=>T.bind hi fun t _=>T.ret trivial) fun _=>T.ret trivial) fun b _=>T.bind (P:=fun e=>e=0→y.2.2=0) (T.cond (fun _=>T.ret (by simp)) fun _=>T.ret fun h=>h) fun e he=>T.cond (fun k=>T.bind hi fun t _=>T.ret fun h=>?_) fun k=>T.ret fun _=>?_
  ·simp at k;exact absurd h k
  have:=hy.2.2 (he (by simpa using k));have:=hy.2.1;simp only;omega
 obtain ⟨r,h1,h2⟩:=key;refine T.eq h1 fun h=>⟨?_,h2 h⟩
 have key:Pt (KbC b) fun r=>r.2.2=0→VX r.1:=by
  unfold KbC;refine Pt.bind (vread b) fun x hx=>Pt.cond (fun e=>Pt.ret fun h=>?_) fun e=>Pt.bind (vexpr (hx (by simpa using e)) 0) fun y hy=>Pt.bind Pt.any fun b _=>Pt.bind (P:=fun e=>e=0→y.2.2=0) (Pt.cond (fun _=>Pt.ret (by simp)) fun _=>Pt.ret fun h=>h) fun e he=>Pt.cond (fun k=>Pt.bind Pt.any fun t _=>Pt.ret fun h=>?_) fun k=>Pt.ret fun _=>hy (he (by simpa using k))
  ·simp at e;exact absurd h e
  simp at k;exact absurd h k
 exact key r h1 h
end
end Go.Proofs.YtfkaicefhibndaaGreatDoor.Ab
end
