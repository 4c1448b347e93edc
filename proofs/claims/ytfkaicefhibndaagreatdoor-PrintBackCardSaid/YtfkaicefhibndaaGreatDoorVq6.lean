/- The texts that printBackCard_holds leans on, part 6. -/
import Derived.Test.YtfkaicefhibndaaGreatDoorVq5
set_option maxRecDepth 100000
set_option maxHeartbeats 80000000
noncomputable section
namespace Go.Proofs.YtfkaicefhibndaaGreatDoor.Ab
section
open Go
set_option linter.all false
abbrev dl (b:ByteArray):List UInt8:=b.data.toList
theorem dl_app (a b:ByteArray):dl (a++b)=dl a++dl b:=by show (a++b).data.toList=_;rw [ByteArray.data_append,Array.toList_append]
theorem KgL (a:ByteArray):(dl a).length=a.size:=by show a.data.toList.length=a.data.size;rw [Array.length_toList]
theorem T.cat {a b:ByteArray}{x y:List UInt8}(ha:dl a=x)(hb:dl b=y)(h:x.length+y.length≤100000000000000):T (catS a b) fun r=>dl r=x++y:=by
 have h1:=KgL a;have h2:=KgL b
 rw [ha] at h1;rw [hb] at h2;exact T.eq (catS_of (by omega)) (by rw [dl_app,ha,hb])
theorem dd_len:∀ (k u:Nat),u < 10 ^ (k+1)→(Lib.decDigits u).length≤k+1
 | 0,u,h=>by rw [Lib.decDigits,dif_pos (by omega)];simp
 |
  k+1,u,h=>by
  rw [Lib.decDigits];by_cases h1:u < 10
  ·rw [dif_pos h1];simp
  rw [dif_neg h1];have:=dd_len k (u / 10) (by rw [Nat.pow_succ] at h;omega);simp only [List.length_append,List.length_singleton];omega
theorem Khh {n:Int}(h0:0≤n)(h1:n≤9223372036854775807):(dl (itoaB n)).length≤20:=by
 show (itoaB n).data.toList.length≤20
 rw [Kgg h0];exact dd_len 19 _ (by
  have:n.toNat≤9223372036854775807:=by omega
  omega)
theorem tl_mk (s:ByteArray)(l:List Pc):(txts (mk s::l)).length=(dl s).length+(txts l).length:=by simp [KbP,Pc.txt]
theorem tl_nm (s:ByteArray)(l:List Pc):(txts (nm s::l)).length=(dl s).length+(txts l).length:=by simp [KbP,Pc.txt]
theorem tl_nb (n:Int)(l:List Pc):(txts (nb n::l)).length=(dl (itoaB n)).length+(txts l).length:=by simp [KbP,Pc.txt]
theorem tl_sp (c:UInt8)(l:List Pc):(txts (.sp c::l)).length=1+(txts l).length:=by simp [KbP,Pc.txt];omega
theorem KaU (a b:List Pc):(txts (a++b)).length=(txts a).length+(txts b).length:=by rw [KbX,List.length_append]
theorem Kbi:(txts []).length=0:=rfl
theorem Keq (k:Nat)(x:Nat×List Pc):(txts (kd k x)).length≤(txts x.2).length+2:=by
 unfold kd;split
 ·rw [tl_mk,KaU,tl_mk,Kbi];show 1+((txts x.2).length+(1+0))≤_
  omega
 omega
theorem NmOK.len {s:ByteArray}(h:NmOK s):(dl s).length≤20:=h.al.le
theorem sgn_len (op:Int):(dl (sgn op)).length≤2:=by
 unfold sgn;repeat' split
 all_goals decide
theorem KbE {e:Kc}(h:VE e):(txts (pE e)).length≤25*szE e:=by
 induction h with
 | num n a h0 h1=>show (txts [nb n]).length≤25*szE _;rw [tl_nb,Kbi,szE_1];have:=Khh h0 h1;omega
 | var s a h=>show (txts [nm s]).length≤25*szE _;rw [tl_nm,Kbi,szE_1];have:=h.len;omega
 | null a=>rw [szE_1];show 4≤_;omega
 | load s a h=>show (txts [mk ⟨#[42]⟩,nm s]).length≤25*szE _;rw [tl_mk,tl_nm,Kbi,szE_1];have:=h.len;show 1+_≤_;omega
 | addr s a h=>show (txts [mk ⟨#[38]⟩,nm s]).length≤25*szE _;rw [tl_mk,tl_nm,Kbi,szE_1];have:=h.len;show 1+_≤_;omega
 |
  index s k a h _ ih=>
  show (txts (nm s::mk ⟨#[91]⟩::(pE k++[mk ⟨#[93]⟩]))).length≤_
  rw [tl_nm,tl_mk,KaU,tl_mk,Kbi,Kde];have:=h.len;simp only [szEs];show _+(1+(_+(1+0)))≤_;omega
 |
  addrAt s k a h _ ih=>
  show (txts (mk ⟨#[38]⟩::nm s::mk ⟨#[91]⟩::(pE k++[mk ⟨#[93]⟩]))).length≤_
  rw [tl_mk,tl_nm,tl_mk,KaU,tl_mk,Kbi,Kde];have:=h.len;simp only [szEs];show 1+(_+(1+(_+(1+0))))≤_;omega
 |
  neg k a _ ih=>
  show (txts (mk ⟨#[45]⟩::pKd 6 k)).length≤_
  rw [tl_mk,Kde];have:=Keq 6 (lev k.gOp,pE k);simp only [szEs];show 1+(txts (kd 6 (lev k.gOp,pE k))).length≤_
  simp only at this;omega
 |
  not k a _ ih=>
  show (txts (mk ⟨#[33]⟩::pKd 6 k)).length≤_
  rw [tl_mk,Kde];have:=Keq 6 (lev k.gOp,pE k);simp only [szEs];show 1+(txts (kd 6 (lev k.gOp,pE k))).length≤_
  simp only at this;omega
 |
  bin op l r a hl _ _ ih1 ih2=>
  rw [pE_bin hl,KaU,tl_sp,tl_mk,tl_sp,Kde];have h1:(txts (pKd (lev op) l)).length≤(txts (pE l)).length+2:=Keq _ _;have h2:(txts (pKd (lev op+1) r)).length≤(txts (pE r)).length+2:=Keq _ _;have:=sgn_len op;simp only [szEs]
  omega
theorem sign_is (op:Int):KbA op=some (sgn op,(lev op:Int),decide (lev op < 6)):=by
 have key:∀ k:Int,op=k→KbA k=some (sgn k,(lev k:Int),decide (lev k < 6))→KbA op=some (sgn op,(lev op:Int),decide (lev op < 6)):=fun k e h=>by rw [e];exact h
 by_cases h:lev op < 6
 ·rcases Kep h with h|h|h|h|h|h|h|h|h|h|h<;>exact key _ h rfl
 have hn:op ≠ 7∧op ≠ 8∧op ≠ 9∧op ≠ 10∧op ≠ 11∧op ≠ 12∧op ≠ 13∧op ≠ 14∧op ≠ 15∧op ≠ 16∧op ≠ 17:=by
  refine ⟨?_,?_,?_,?_,?_,?_,?_,?_,?_,?_,?_⟩<;>(intro e;subst e;exact h (by decide))
 have h6:lev op=6:=by have:=lev_lt ⟨op,0,ByteArray.empty,[],0⟩;simp only at this;omega
 obtain ⟨n1,n2,n3,n4,n5,n6,n7,n8,n9,n10,n11⟩:=hn;rw [h6];have f:∀ c:Int,op ≠ c→(op==c)=false:=fun c h=>beq_eq_false_iff_ne.2 h
 unfold KbA sgn;rw [f 7 n1,f 8 n2,f 9 n3,f 10 n4,f 11 n5,f 12 n6,f 13 n7,f 14 n8,f 15 n9,f 16 n10,f 17 n11,if_neg n1,if_neg n2,if_neg n3,if_neg n4,if_neg n5,if_neg n6,if_neg n7,if_neg n8,if_neg n9,if_neg n10,if_neg n11];rfl
theorem needs_is {op:Int}(h:lev op < 6):Kcb op=some 2:=by
 rcases Kep h with rfl|rfl|rfl|rfl|rfl|rfl|rfl|rfl|rfl|rfl|rfl<;>rfl
abbrev EG (N:Nat):=Kag N
theorem prE:∀ N:Nat,(∀ e,VE e→szE e≤1048576→2*dpE e≤N→T ((EG N).1 e) fun r=>dl r=txts (pE e))∧(∀ e (k:Nat),VE e→k≤6→szE e≤1048576→2*dpE e+1≤N→T ((EG N).2 e (k:Int)) fun r=>dl r=txts (pKd k e))
 | 0=>⟨fun e _ _ h=>by have:=KdZ e;omega,fun e k _ _ _ h=>by omega⟩
 |
  N+1=>by
  obtain ⟨iE,iK⟩:=prE N;refine ⟨fun e h hs hN=>?_,fun e k h hk hs hN=>?_⟩
  ·show T (Kcg (EG N).1 (EG N).2 e) _
   have hlen:=KbE h;have hsz:=Ke4 e;have hdp:=KdZ e;unfold Kcg;cases h with
   |
    num n a h0 h1=>
    rw [show Kcb 1=some 0 from rfl,Option.bind_some];refine T.cond (fun h=>by cases h) fun _=>?_
    rw [show KbA 1=some (ByteArray.mk #[],6,false) from rfl,Option.bind_some];show T ((need (KdV n)).bind fun x27=>some (itoaB n)) _
    have:KdV n=true:=by simp [KdV];omega
    rw [this];exact T.ret (by simp [txts,pE,pKs,rE,Pc.txt])
   | var s a h=>exact T.ret (by simp [txts,pE,pKs,rE,Pc.txt])
   | null a=>exact T.ret (by simp [txts,pE,pKs,rE,Pc.txt])
   |
    load s a h=>
    show T ((catS qZ10 s).bind fun x=>some x) _
    exact T.bind (T.cat (x:=[42]) rfl rfl (by have:=h.len;simp [dl] at this ⊢;omega)) fun r hr=>T.ret (by simpa [txts,pE,pKs,rE,Pc.txt] using hr)
   |
    addr s a h=>
    show T ((catS (ByteArray.mk #[38]) s).bind fun x=>some x) _
    exact T.bind (T.cat (x:=[38]) rfl rfl (by have:=h.len;simp [dl] at this ⊢;omega)) fun r hr=>T.ret (by simpa [txts,pE,pKs,rE,Pc.txt] using hr)
   |
    index s k a h hk=>
    have hkl:=KbE hk;have hsk:szE k≤1048576:=by simp only [szEs] at hsz;omega
    have hnl:=h.len;simp only [dpEs] at hdp;rw [show Kcb 3=some 1 from rfl,Option.bind_some];refine T.cond (fun h=>by cases h) fun _=>?_
    rw [show KbA 3=some (ByteArray.mk #[],6,false) from rfl,Option.bind_some];iterate 6 refine T.cond (fun h=>by cases h) fun _=>?_
    refine T.cond (fun _=>?_) fun h=>by cases h
    show T ((catS s qZ9).bind fun x40=>((idx [k] (0:Int)).bind fun x41=>(((EG N).1 x41).bind fun x42=>((catS x40 x42).bind fun x43=>((catS x43 qZ14).bind fun x44=>some x44))))) _
    refine T.bind (T.cat (y:=[91]) rfl rfl (by simp only [List.length_singleton];omega)) fun r1 h1=>?_
    refine T.bind (P:=fun x=>x=k) (T.ret rfl) fun x hx=>?_
    subst hx;refine T.bind (iE x hk hsk (by omega)) fun r2 h2=>T.bind (T.cat h1 h2 (by simp only [List.length_append,List.length_singleton];omega)) fun r3 h3=>T.bind (T.cat (y:=[93]) h3 rfl (by simp only [List.length_append,List.length_singleton];omega)) fun r4 h4=>T.ret ?_
    rw [h4];simp [txts,pE,pKs,rE,Pc.txt]
   |
    addrAt s k a h hk=>
    have hkl:=KbE hk;have hsk:szE k≤1048576:=by simp only [szEs] at hsz;omega
    have hnl:=h.len;simp only [dpEs] at hdp;rw [show Kcb 20=some 1 from rfl,Option.bind_some];refine T.cond (fun h=>by cases h) fun _=>?_
    rw [show KbA 20=some (ByteArray.mk #[],6,false) from rfl,Option.bind_some];iterate 7 refine T.cond (fun h=>by cases h) fun _=>?_
    refine T.cond (fun _=>?_) fun h=>by cases h
    show T ((catS (ByteArray.mk #[38]) s).bind fun x39=>((catS x39 qZ9).bind fun x40=>((idx [k] (0:Int)).bind fun x41=>(((EG N).1 x41).bind fun x42=>((catS x40 x42).bind fun x43=>((catS x43 qZ14).bind fun x44=>some x44)))))) _
    refine T.bind (T.cat (x:=[38]) rfl rfl (by simp only [List.length_singleton];omega)) fun r0 h0=>T.bind (T.cat (y:=[91]) h0 rfl (by simp only [List.length_append,List.length_singleton];omega)) fun r1 h1=>?_
    refine T.bind (P:=fun x=>x=k) (T.ret rfl) fun x hx=>?_
    subst hx;refine T.bind (iE x hk hsk (by omega)) fun r2 h2=>T.bind (T.cat h1 h2 (by simp only [List.length_append,List.length_singleton];omega)) fun r3 h3=>T.bind (T.cat (y:=[93]) h3 rfl (by simp only [List.length_append,List.length_singleton];omega)) fun r4 h4=>T.ret ?_
    rw [h4];simp [txts,pE,pKs,rE,Pc.txt]
   |
    neg k a hk=>
    have hkl:=KbE hk;have hsk:szE k≤1048576:=by simp only [szEs] at hsz;omega
    simp only [dpEs] at hdp;rw [show Kcb 5=some 1 from rfl,Option.bind_some];refine T.cond (fun h=>by cases h) fun _=>?_
    rw [show KbA 5=some (ByteArray.mk #[],6,false) from rfl,Option.bind_some];iterate 8 refine T.cond (fun h=>by cases h) fun _=>?_
    refine T.cond (fun _=>?_) fun h=>by cases h
    show T ((idx [k] (0:Int)).bind fun x41=>(((EG N).2 x41 (6:Int)).bind fun x42=>((catS qZ13 x42).bind fun x43=>some x43))) _
    refine T.bind (P:=fun x=>x=k) (T.ret rfl) fun x hx=>?_
    subst hx;have h2:(txts (pKd 6 x)).length≤(txts (pE x)).length+2:=Keq _ _;refine T.bind (iK x 6 hk (by omega) hsk (by omega)) fun r2 h2=>T.bind (T.cat (x:=[45]) rfl h2 (by simp only [List.length_singleton];omega)) fun r3 h3=>T.ret ?_
    rw [h3];simp [txts,pE,pKs,rE,Pc.txt]
   |
    not k a hk=>
    have hkl:=KbE hk;have hsk:szE k≤1048576:=by simp only [szEs] at hsz;omega
    simp only [dpEs] at hdp;rw [show Kcb 6=some 1 from rfl,Option.bind_some];refine T.cond (fun h=>by cases h) fun _=>?_
    rw [show KbA 6=some (ByteArray.mk #[],6,false) from rfl,Option.bind_some];iterate 9 refine T.cond (fun h=>by cases h) fun _=>?_
    refine T.cond (fun _=>?_) fun h=>by cases h
    show T ((idx [k] (0:Int)).bind fun x41=>(((EG N).2 x41 (6:Int)).bind fun x42=>((catS qZ19 x42).bind fun x43=>some x43))) _
    refine T.bind (P:=fun x=>x=k) (T.ret rfl) fun x hx=>?_
    subst hx;have h2:(txts (pKd 6 x)).length≤(txts (pE x)).length+2:=Keq _ _;refine T.bind (iK x 6 hk (by omega) hsk (by omega)) fun r2 h2=>T.bind (T.cat (x:=[33]) rfl h2 (by simp only [List.length_singleton];omega)) fun r3 h3=>T.ret ?_
    rw [h3];simp [txts,pE,pKs,rE,Pc.txt]
   |
    bin op l r a ho hl hr=>
    simp only [dpEs] at hdp;simp only [szEs] at hsz;rw [needs_is ho,Option.bind_some];refine T.cond (fun h=>by simp at h) fun _=>?_
    rw [sign_is op,Option.bind_some,decide_eq_true ho];refine T.cond (fun _=>?_) fun h=>by cases h
    refine T.bind (P:=fun x=>x=l) (T.ret rfl) fun x hx=>?_
    subst hx;have b1:(txts (pKd (lev op) x)).length≤(txts (pE x)).length+2:=Keq _ _;have b2:(txts (pKd (lev op+1) r)).length≤(txts (pE r)).length+2:=Keq _ _;have b3:=sgn_len op;have b4:=KbE hl;have b5:=KbE hr
    refine T.bind (iK x (lev op) hl (by omega) (by omega) (by omega)) fun r1 h1=>T.bind (T.cat (y:=[32]) h1 rfl (by simp only [List.length_singleton];omega)) fun r2 h2=>T.bind (T.cat h2 rfl (by simp only [List.length_append,List.length_singleton];omega)) fun r3 h3=>T.bind (T.cat (y:=[32]) h3 rfl (by simp only [List.length_append,List.length_singleton];omega)) fun r4 h4=>T.bind (P:=fun x=>x=r) (T.ret rfl) fun y hy=>?_
    subst hy;have hw:IntKind.i64.wrap ((lev op:Int)+1)=((lev op+1:Nat):Int):=wn (by omega);show T ((Kag N).2 y (IntKind.i64.wrap ((lev op:Int)+1)) |>.bind _) _
    rw [hw];refine T.bind (iK y (lev op+1) hr (by omega) (by omega) (by omega)) fun r5 h5=>T.bind (T.cat h4 h5 (by simp only [List.length_append,List.length_singleton];omega)) fun r6 h6=>T.ret ?_
    rw [h6,pE_bin ho];simp [txts,Pc.txt]
  show T (Kcp (EG N).1 (EG N).2 e (k:Int)) _
  have hlen:=KbE h;unfold Kcp;refine T.bind (iE e h hs (by omega)) fun r hr=>?_
  rw [sign_is,Option.bind_some];refine T.bind (P:=fun b=>b=decide (lev e.gOp < k)) (T.cond (fun _=>T.ret (by simp)) fun h=>T.ret ?_) fun b hb=>?_
  ·have:=of_decide_eq_false h;exact (decide_eq_false (by omega)).symm
  subst hb;refine T.cond (fun h=>?_) fun h=>T.ret ?_
  ·refine T.bind (T.cat (x:=[40]) rfl hr (by simp only [List.length_singleton];omega)) fun r1 h1=>T.bind (T.cat (y:=[41]) h1 rfl (by simp only [List.length_append,List.length_singleton];omega)) fun r2 h2=>T.ret ?_
   rw [h2];show _=txts (kd k (lev e.gOp,pE e))
   rw [kd_in (of_decide_eq_true h)];simp [txts,Pc.txt]
  show dl r=txts (kd k (lev e.gOp,pE e))
  rw [kd_own (by have:=of_decide_eq_false h;simp only;omega)];exact hr
theorem prX {e:Kc}(h:VE e)(hs:szE e≤1048576):T (KaR e) fun r=>dl r=txts (pE e):=by
 obtain ⟨r,h1,h2⟩:=(prE (2*dpE e)).1 e h hs (Nat.le_refl _);exact ⟨r,Kid _ _ h1,h2⟩
end
section
open Go
set_option linter.all false
theorem T.each {σ τ β:Type}{f:σ→Option (Step σ τ)}{Post:τ→Prop}(l:List β)(I:List β→σ→Prop){s:σ}(h0:I [] s)(h1:∀ pre x post s,l=pre++x::post→I pre s→T (f s) fun r=>∃ s',r=.next s'∧I (pre++[x]) s')(h2:∀ s,I l s→T (f s) fun r=>∃ t,r=.done t∧Post t):T (loopM f s) Post:=by
 have key:∀ (post pre:List β) (s:σ),l=pre++post→I pre s→T (loopM f s) Post:=by
  intro post;induction post with
  |
   nil=>
   intro pre s h hi;rw [List.append_nil] at h;subst h;obtain ⟨r,e,t,rfl,ht⟩:=h2 s hi;exact T.eq (KdS e) ht
  |
   cons x post ih=>
   intro pre s h hi;obtain ⟨r,e,s',rfl,hs⟩:=h1 pre x post s h hi;rw [KdT e];exact ih (pre++[x]) s' (by simp [h]) hs
 exact key l [] s rfl h0
theorem T.next {σ τ:Type}{P:σ→Prop}{s:σ}(h:P s):T (some (Step.next s:Step σ τ)) fun r=>∃ s',r=.next s'∧P s':=T.ret ⟨s,rfl,h⟩
theorem T.done {σ τ:Type}{P:τ→Prop}{t:τ}(h:P t):T (some (Step.done t:Step σ τ)) fun r=>∃ t',r=.done t'∧P t':=T.ret ⟨t,rfl,h⟩
theorem idxP {β:Type}{l pre:List β}{x:β}{post:List β}(h:l=pre++x::post):idx l (pre.length:Int)=some x:=by rw [h];exact KfD _ _ _
theorem Kea {β:Type}{l pre:List β}{x:β}{post:List β}(h:l=pre++x::post):pre.length < l.length:=by subst h;simp
theorem KgZ:∀ L:List (List Pc),txts (Kal L)=Lib.join (L.map txts) [44,32]
 | []=>rfl
 | [x]=>by rw [List.map_singleton,Lib.join_one];rfl
 |
  x::y::l=>by
  have ih:=KgZ (y::l);simp only [List.map_cons] at ih ⊢;rw [Lib.join_cons] at ih ⊢;show txts (x++(mk ⟨#[44]⟩::.sp 32::Kal (y::l)))=_
  rw [KbX,KbP,KbP,ih];simp [Lib.joinTail,Pc.txt]
theorem Kgh:∀ L:List (List Pc),(txts (Kal L)).length≤2*L.length+(L.map fun x=>(txts x).length).sum
 | []=>Nat.le_refl _
 | [x]=>by simp [Kal]
 |
  x::y::l=>by
  have ih:=Kgh (y::l);show (txts (x++(mk ⟨#[44]⟩::.sp 32::Kal (y::l)))).length≤_
  rw [KaU,tl_mk,tl_sp];simp only [List.map_cons,List.sum_cons,List.length_cons] at ih ⊢;show _+(1+(1+_))≤_
  omega
theorem join_is {out:List ByteArray}{L:List (List Pc)}(h:out.map dl=L.map txts)(h1:L.length≤1048576)(h2:(txts (Kal L)).length≤100000000000):T ((need (KeU out qZ12)).bind fun x41=>some (joinB out qZ12)) fun r=>dl r=txts (Kal L):=by
 have e:dl (joinB out qZ12)=txts (Kal L):=by
  rw [KgZ,← h];rfl
 have hl:out.length=L.length:=by simpa using congrArg List.length h
 have ok:KeU out qZ12=true:=by
  have:=KgL (joinB out qZ12);rw [e] at this;simp only [KeU,Bool.and_eq_true,decide_eq_true_eq];omega
 rw [ok];exact T.ret e
theorem Kdq {l:List Kc}(hv:∀ e∈l,VX e):(txts (Kal (l.map pE))).length≤27*szEs l:=by
 have:=Kgh (l.map pE);have hl:=Kdu l;have h2:((l.map pE).map fun x=>(txts x).length).sum≤25*szEs l:=by
  clear hl this;induction l with
  | nil=>simp
  |
   cons e l ih=>
   have:=ih (fun e he=>hv e (by simp [he]));have:=KbE (hv e (by simp)).1;simp only [List.map_cons,List.sum_cons,szEs];omega
 rw [List.length_map] at this;omega
theorem eachE_is {l:List Kc}(hv:∀ e∈l,VX e)(hs:szEs l≤1048576):T (Kb6 l) fun r=>dl r=txts (Kal (l.map pE)):=by
 have hl:=Kdu l;unfold Kb6;refine T.bind (P:=fun out=>out.map dl=(l.map pE).map txts) (T.each l (fun pre s=>s.1.map dl=(pre.map pE).map txts∧s.2=(pre.length:Int)) ⟨rfl,rfl⟩ (fun pre x post s e hi=>?_) fun s hi=>?_) fun out ho=>join_is ho (by simp;omega) ?_
 ·obtain ⟨h1,h2⟩:=hi;obtain ⟨s1,s2⟩:=s;simp only at h1 h2;subst h2;have hlp:=Kea e;have hlen:s1.length=pre.length:=by simpa using congrArg List.length h1
  have hx:=KeI (Kcs e);rw [KdU e,cond_true,idxP e,Option.bind_some];refine T.bind (prX (hv x (Kcs e)).1 (by omega)) fun r hr=>?_
  rw [Kct (by omega) (by simp;omega),Option.bind_some];refine T.next ⟨by simp [h1,hr],?_⟩;show IntKind.i64.wrap _=_
  rw [Kdi e (by omega)];simp
 ·obtain ⟨h1,h2⟩:=hi;rw [h2,KfE,cond_false];exact T.done h1
 have:=Kdq hv;omega
theorem var_is {v:K3}(h:NmOK v.gName):T (Kcu v) fun r=>dl r=txts (pV v):=by
 have hl:=h.len;unfold Kcu pV;refine T.cond (fun hp=>?_) fun hp=>?_
 ·rw [hp];exact T.bind (T.cat (x:=[105,110,116,32,42]) rfl rfl (by simp only [List.length_cons,List.length_nil];omega)) fun r hr=>T.ret (by rw [hr];simp [txts,Pc.txt])
 rw [hp];exact T.bind (T.cat (x:=[105,110,116,32]) rfl rfl (by simp only [List.length_cons,List.length_nil];omega)) fun r hr=>T.ret (by rw [hr];simp [txts,Pc.txt])
theorem pV_len {v:K3}(h:NmOK v.gName):(txts (pV v)).length≤25:=by
 have hl:=h.len;unfold pV;rw [tl_mk,tl_sp];split
 ·rw [tl_mk,tl_nm,Kbi];show 3+(1+(1+_))≤_;omega
 rw [tl_nm,Kbi];show 3+(1+_)≤_;omega
theorem Kfv {l:List K3}(hv:∀ v∈l,NmOK v.gName):(txts (Kal (l.map pV))).length≤27*l.length:=by
 have:=Kgh (l.map pV);have h2:((l.map pV).map fun x=>(txts x).length).sum≤25*l.length:=by
  clear this;induction l with
  | nil=>simp
  |
   cons e l ih=>
   have:=ih (fun e he=>hv e (by simp [he]));have:=pV_len (hv e (by simp));simp only [List.map_cons,List.sum_cons,List.length_cons];omega
 rw [List.length_map] at this;omega
theorem eachV_is {l:List K3}(hv:∀ v∈l,NmOK v.gName)(hs:l.length≤1000):T (Kcf l) fun r=>dl r=txts (Kal (l.map pV)):=by
 unfold Kcf;refine T.bind (P:=fun out=>out.map dl=(l.map pV).map txts) (T.each l (fun pre s=>s.1.map dl=(pre.map pV).map txts∧s.2=(pre.length:Int)) ⟨rfl,rfl⟩ (fun pre x post s e hi=>?_) fun s hi=>?_) fun out ho=>join_is ho (by simp;omega) ?_
 ·obtain ⟨h1,h2⟩:=hi;obtain ⟨s1,s2⟩:=s;simp only at h1 h2;subst h2;have hlp:=Kea e;have hlen:s1.length=pre.length:=by simpa using congrArg List.length h1
  rw [KdU e,cond_true,idxP e,Option.bind_some];refine T.bind (var_is (hv x (Kcs e))) fun r hr=>?_
  rw [Kct (by omega) (by simp;omega),Option.bind_some];refine T.next ⟨by simp [h1,hr],?_⟩;show IntKind.i64.wrap _=_
  rw [Kdi e (by omega)];simp
 ·obtain ⟨h1,h2⟩:=hi;rw [h2,KfE,cond_false];exact T.done h1
 have:=Kfv hv;omega
theorem appB {x y:List UInt8}(h:x.length+y.length≤100000000000000):app 1 x y=some (x++y):=app_of (by omega)
theorem txts_ind (d:Nat)(l:List Pc):txts (ind d l)=List.replicate d 9++(txts l++[10]):=by
 unfold ind;rw [KbX,KbX];congr 1;induction d with
 | zero=>rfl
 | succ d ih=>rw [List.replicate_succ,KbP,ih];rfl
theorem KdH (d:Nat)(l:List Pc):(txts (ind d l)).length=d+((txts l).length+1):=by rw [txts_ind];simp
abbrev Pg (b:List UInt8)(d:Nat):Kj:=⟨⟨b⟩,(d:Int)⟩
theorem KdI {b:List UInt8}{d:Nat}{s:ByteArray}{l:List Pc}(hs:dl s=txts l)(hd:d≤1000)(h:b.length+(txts (ind d l)).length≤50000000000000):T (KaC (Pg b d) s) fun r=>r=Pg (b++txts (ind d l)) d:=by
 rw [KdH] at h;unfold KaC;refine T.bind (P:=fun y:List UInt8×Int=>y=(b++List.replicate d 9,(d:Int))) ?_ fun y hy=>?_
 ·refine T.loop (fun s:Int×List UInt8×Int=>∃ k:Nat,s=((k:Int),b++List.replicate k 9,(d:Int))∧k≤d) (fun s=>d - s.1.toNat) ⟨0,by simp,Nat.zero_le _⟩ fun s hs=>?_
  obtain ⟨k,rfl,hk⟩:=hs;simp only;refine T.cond (fun hc=>?_) fun hc=>T.ret ?_
  ·have hlt:k < d:=by have:=of_decide_eq_true hc;omega
   unfold Kbh;rw [show u8ok (9:Int)=true from rfl];show T ((app 1 (b++List.replicate k 9) [(9:Int).toNat.toUInt8]).bind _ |>.bind _) _
   rw [appB (by simp;omega)];refine T.ret ⟨⟨k+1,?_,hlt⟩,?_⟩
   ·show (IntKind.i64.wrap ((k:Int)+1),_,_)=_
    rw [wn (by omega),List.replicate_succ',← List.append_assoc];rfl
   show d - (IntKind.i64.wrap ((k:Int)+1)).toNat < _
   rw [wn (by omega)];simp only [Int.toNat_natCast];omega
  have:k=d:=by have:=of_decide_eq_false hc;omega
  subst this;rfl
 subst hy;unfold KbO Kbh;show T ((app 1 (b++List.replicate d 9) (dl s)).bind _ |>.bind _) _
 rw [hs,appB (by simp;omega),Option.bind_some,Option.bind_some,show u8ok (10:Int)=true from rfl];show T ((app 1 (b++List.replicate d 9++txts l) [(10:Int).toNat.toUInt8]).bind _ |>.bind _) _
 rw [appB (by simp;omega)];refine T.ret ?_;rw [txts_ind];show (⟨⟨_⟩,_⟩:Kj)=_
 simp only [List.append_assoc];rfl
end
section
open Go
set_option linter.all false
def pFs (s:Ki):List Pc:=pF s.gOp s.gName s.gFunc (s.gExps.map pE)
theorem szEs1 (e:Kc):szEs [e]=szE e:=by simp [szEs]
theorem szEs2 (e f:Kc):szEs [e,f]=szE e+szE f:=by simp [szEs]
theorem pF_len {b:Nat}{s:Ki}(h:VS b s)(h6:s.gOp ≠ 6)(h7:s.gOp ≠ 7):(txts (pFs s)).length≤60+27*szEs s.gExps:=by
 unfold pFs;cases h with
 |
  assign d s e a hs he=>
  have h1:=hs.len;have h2:=KbE he.1
  show (txts (nm s::.sp 32::mk ⟨#[61]⟩::.sp 32::(pE e++[mk ⟨#[59]⟩]))).length≤_
  rw [tl_nm,tl_sp,tl_mk,tl_sp,KaU,tl_mk,Kbi];simp only [szEs1];show _+(1+(1+(1+(_+(1+0)))))≤_;omega
 |
  put d s e f a hs he hf=>
  have h1:=hs.len;have h2:=KbE he.1;have h3:=KbE hf.1
  show (txts (nm s::mk ⟨#[91]⟩::(pE e++(mk ⟨#[93]⟩::.sp 32::mk ⟨#[61]⟩::.sp 32::(pE f++[mk ⟨#[59]⟩]))))).length≤_
  rw [tl_nm,tl_mk,KaU,tl_mk,tl_sp,tl_mk,tl_sp,KaU,tl_mk,Kbi];simp only [szEs2];show _+(1+(_+(1+(1+(1+(1+(_+(1+0))))))))≤_;omega
 |
  store d s e a hs he=>
  have h1:=hs.len;have h2:=KbE he.1
  show (txts (mk ⟨#[42]⟩::nm s::.sp 32::mk ⟨#[61]⟩::.sp 32::(pE e++[mk ⟨#[59]⟩]))).length≤_
  rw [tl_mk,tl_nm,tl_sp,tl_mk,tl_sp,KaU,tl_mk,Kbi];simp only [szEs1];show 1+(_+(1+(1+(1+(_+(1+0))))))≤_;omega
 |
  call d f es a hf he=>
  have h1:=hf.len;have h2:=Kdq he
  show (txts (nm f::mk ⟨#[40]⟩::(Kal (es.map pE)++[mk ⟨#[41]⟩,mk ⟨#[59]⟩]))).length≤_
  rw [tl_nm,tl_mk,KaU,tl_mk,tl_mk,Kbi];show _+(1+(_+(1+(1+0))))≤60+27*szEs es;omega
 |
  callTo d s f es a hs hf he=>
  have h0:=hs.len;have h1:=hf.len;have h2:=Kdq he
  have hne:s ≠ ByteArray.empty:=fun e=>by
   obtain ⟨c,r,h,_⟩:=hs.al.hd;rw [e] at h;cases h
  show (txts ((if s=ByteArray.empty then [] else [nm s,.sp 32,mk ⟨#[61]⟩,.sp 32])++(nm f::mk ⟨#[40]⟩::(Kal (es.map pE)++[mk ⟨#[41]⟩,mk ⟨#[59]⟩])))).length≤_
  rw [if_neg hne,KaU,tl_nm,tl_sp,tl_mk,tl_sp,Kbi,tl_nm,tl_mk,KaU,tl_mk,tl_mk,Kbi];show _+(1+(1+(1+0)))+(_+(1+(_+(1+(1+0)))))≤60+27*szEs es;omega
 |
  input d s a hs=>
  have h1:=hs.len;show (txts [nm s,.sp 32,mk ⟨#[61]⟩,.sp 32,mk ⟨#[105,110,112,117,116]⟩,mk ⟨#[40]⟩,mk ⟨#[41]⟩,mk ⟨#[59]⟩]).length≤_
  rw [tl_nm,tl_sp,tl_mk,tl_sp,tl_mk,tl_mk,tl_mk,tl_mk,Kbi];show _+(1+(1+(1+(5+(1+(1+(1+0)))))))≤60+_;omega
 |
  ret d e a he=>
  have h2:=KbE he.1;show (txts (mk ⟨#[114,101,116,117,114,110]⟩::.sp 32::(pE e++[mk ⟨#[59]⟩]))).length≤_
  rw [tl_mk,tl_sp,KaU,tl_mk,Kbi];simp only [szEs1];show 6+(1+(_+(1+0)))≤_;omega
 |
  assert d e a he=>
  have h2:=KbE he.1;show (txts (mk ⟨#[97,115,115,101,114,116]⟩::mk ⟨#[40]⟩::(pE e++[mk ⟨#[41]⟩,mk ⟨#[59]⟩]))).length≤_
  rw [tl_mk,tl_mk,KaU,tl_mk,tl_mk,Kbi];simp only [szEs1];show 6+(1+(_+(1+(1+0))))≤_;omega
 | ite d e ks ls a he hk hl=>exact absurd rfl h6
 | loop d e ks a he hk=>exact absurd rfl h7
mutual
theorem pS_len:∀ {b:Nat} {s:Ki},VS b s→∀ d,d+b≤100→(txts (pS d s)).length≤400*szS s
 |
  b,⟨op,s,f,es,ks,ls,a⟩,h,d,hd=>by
  have hz:=Kc4 op s f es ks ls a;by_cases h6:op=6∨op=7
  ·have key:∀ (d':Nat) (e:Kc),b=d'+1→es=[e]→VX e→VSs d' ks→VSs d' ls→(txts (pS d ⟨op,s,f,es,ks,ls,a⟩)).length≤400*szS ⟨op,s,f,es,ks,ls,a⟩:=fun d' e hb he hv hk hl=>by
    have h1:=KfR hk (d+1) (by omega);have h2:=KfR hl (d+1) (by omega);have h3:=KbE hv.1;subst he;rw [hz,szEs1];simp only [pS];rw [if_pos h6,KaU,KdH,KaU,KaU,KdH,tl_mk,Kbi];have hH:(txts (pH op ([e].map pE))).length≤20+25*szE e:=by
     show (txts ((if op=6 then mk ⟨#[105,102]⟩ else mk ⟨#[119,104,105,108,101]⟩)::.sp 32::mk ⟨#[40]⟩::(pE e++[mk ⟨#[41]⟩,.sp 32,mk ⟨#[123]⟩]))).length≤_
     split
     ·rw [tl_mk,tl_sp,tl_mk,KaU,tl_mk,tl_sp,tl_mk,Kbi];show 2+(1+(1+(_+(1+(1+(1+0))))))≤_;omega
     rw [tl_mk,tl_sp,tl_mk,KaU,tl_mk,tl_sp,tl_mk,Kbi];show 5+(1+(1+(_+(1+(1+(1+0))))))≤_;omega
    have hL:(txts (if ls.isEmpty then [] else ind d [mk ⟨#[125]⟩,.sp 32,mk ⟨#[101,108,115,101]⟩,.sp 32,mk ⟨#[123]⟩]++pSs (d+1) ls)).length≤d+20+400*szSs ls:=by
     split
     ·rw [Kbi];omega
     rw [KaU,KdH,tl_mk,tl_sp,tl_mk,tl_sp,tl_mk,Kbi];show d+(1+(1+(4+(1+(1+0))))+1)+_≤_;omega
    show d+(_+1)+(_+(_+(d+(1+0+1))))≤_
    omega
   cases h with
   | ite d' e _ _ _ he hk hl=>exact key d' e rfl rfl he hk hl
   | loop d' e _ _ he hk=>exact key d' e rfl rfl he hk (.nil _)
   | _=>omega
  have h1:=pF_len h (by simp only;omega) (by simp only;omega);rw [hz];simp only [pS];rw [if_neg h6,KdH];unfold pFs at h1;simp only at h1;omega
theorem KfR:∀ {b:Nat} {l:List Ki},VSs b l→∀ d,d+b≤100→(txts (pSs d l)).length≤400*szSs l
 | b,[],h,d,hd=>by simp only [pSs,szSs];exact Nat.le_refl _
 |
  b,s::l,h,d,hd=>by
  cases h with
  |
   cons _ _ _ hs hl=>
   have h1:=pS_len hs d hd;have h2:=KfR hl d hd;simp only [pSs,szSs];rw [KaU];omega
end
theorem simp_is {b:Nat}{s:Ki}(h:VS b s)(h6:s.gOp ≠ 6)(h7:s.gOp ≠ 7)(hbig:szS s≤1048576):T (KcA s) fun r=>r.2=true∧dl r.1=txts (pFs s):=by
 have hz:=KfP s;unfold KcA;cases h with
 |
  assign d s e a hs he=>
  have h1:=hs.len;have h2:=KbE he.1
  rw [show KbZ 1=some 1 from rfl,Option.bind_some];refine T.bind (P:=fun b=>b=false) (T.ret rfl) fun b hb=>?_
  subst hb;iterate 1 refine T.cond (fun h=>by cases h) fun _=>?_
  refine T.cond (fun _=>?_) fun h=>by cases h
  show T ((catS s (ByteArray.mk #[32,61,32])).bind fun x10=>((idx [e] (0:Int)).bind fun x11=>((KaR x11).bind fun x12=>((catS x10 x12).bind fun x13=>((catS x13 qZ15).bind fun x14=>some (x14,true)))))) _
  simp only [szEs1] at hz;refine T.bind (T.cat (y:=[32,61,32]) rfl rfl (by simp only [List.length_cons,List.length_nil];omega)) fun r1 e1=>T.bind (P:=fun x=>x=e) (T.ret rfl) fun x hx=>?_
  subst hx;refine T.bind (prX he.1 (by omega)) fun r2 e2=>T.bind (T.cat e1 e2 (by simp only [List.length_append,List.length_cons,List.length_nil];omega)) fun r3 e3=>T.bind (T.cat (y:=[59]) e3 rfl (by simp only [List.length_append,List.length_cons,List.length_nil];omega)) fun r4 e4=>T.ret ⟨rfl,?_⟩
  rw [e4];simp [pFs,pF,txts,Pc.txt]
 |
  put d s e f a hs he hf=>
  have h1:=hs.len;have h2:=KbE he.1;have h3:=KbE hf.1
  rw [show KbZ 2=some 2 from rfl,Option.bind_some];refine T.bind (P:=fun b=>b=false) (T.ret rfl) fun b hb=>?_
  subst hb;simp only [szEs2] at hz;iterate 2 refine T.cond (fun h=>by cases h) fun _=>?_
  refine T.cond (fun _=>?_) fun h=>by cases h
  show T ((catS s qZ9).bind fun x17=>((idx [e,f] (0:Int)).bind fun x18=>((KaR x18).bind fun x19=>((catS x17 x19).bind fun x20=>((catS x20 (ByteArray.mk #[93,32,61,32])).bind fun x21=>((idx [e,f] (1:Int)).bind fun x22=>((KaR x22).bind fun x23=>((catS x21 x23).bind fun x24=>((catS x24 qZ15).bind fun x25=>some (x25,true)))))))))) _
  refine T.bind (T.cat (y:=[91]) rfl rfl (by simp only [List.length_cons,List.length_nil];omega)) fun r1 e1=>T.bind (P:=fun x=>x=e) (T.ret rfl) fun x hx=>?_
  subst hx;refine T.bind (prX he.1 (by omega)) fun r2 e2=>T.bind (T.cat e1 e2 (by simp only [List.length_append,List.length_cons,List.length_nil];omega)) fun r3 e3=>T.bind (T.cat (y:=[93,32,61,32]) e3 rfl (by simp only [List.length_append,List.length_cons,List.length_nil];omega)) fun r4 e4=>T.bind (P:=fun x=>x=f) (T.ret rfl) fun y hy=>?_
  subst hy;refine T.bind (prX hf.1 (by omega)) fun r5 e5=>T.bind (T.cat e4 e5 (by simp only [List.length_append,List.length_cons,List.length_nil];omega)) fun r6 e6=>T.bind (T.cat (y:=[59]) e6 rfl (by simp only [List.length_append,List.length_cons,List.length_nil];omega)) fun r7 e7=>T.ret ⟨rfl,?_⟩
  rw [e7];simp [pFs,pF,txts,Pc.txt]
 |
  store d s e a hs he=>
  have h1:=hs.len;have h2:=KbE he.1
  rw [show KbZ 3=some 1 from rfl,Option.bind_some];refine T.bind (P:=fun b=>b=false) (T.ret rfl) fun b hb=>?_
  subst hb;simp only [szEs1] at hz;iterate 3 refine T.cond (fun h=>by cases h) fun _=>?_
  refine T.cond (fun _=>?_) fun h=>by cases h
  show T ((catS qZ10 s).bind fun x28=>((catS x28 (ByteArray.mk #[32,61,32])).bind fun x29=>((idx [e] (0:Int)).bind fun x30=>((KaR x30).bind fun x31=>((catS x29 x31).bind fun x32=>((catS x32 qZ15).bind fun x33=>some (x33,true))))))) _
  refine T.bind (T.cat (x:=[42]) rfl rfl (by simp only [List.length_cons,List.length_nil];omega)) fun r0 e0=>T.bind (T.cat (y:=[32,61,32]) e0 rfl (by simp only [List.length_append,List.length_cons,List.length_nil];omega)) fun r1 e1=>T.bind (P:=fun x=>x=e) (T.ret rfl) fun x hx=>?_
  subst hx;refine T.bind (prX he.1 (by omega)) fun r2 e2=>T.bind (T.cat e1 e2 (by simp only [List.length_append,List.length_cons,List.length_nil];omega)) fun r3 e3=>T.bind (T.cat (y:=[59]) e3 rfl (by simp only [List.length_append,List.length_cons,List.length_nil];omega)) fun r4 e4=>T.ret ⟨rfl,?_⟩
  rw [e4];simp [pFs,pF,txts,Pc.txt]
 |
  call d f es a hf he=>
  have h1:=hf.len;have h2:=Kdq he
  have hz2:szEs es≤1048575:=by simp only at hz;omega
  rw [show KbZ 4=some 0 from rfl,Option.bind_some];refine T.bind (P:=fun b=>b=false) (T.cond (fun h=>by cases h) fun _=>T.ret (decide_eq_false (by omega))) fun b hb=>?_
  subst hb;iterate 7 refine T.cond (fun h=>by cases h) fun _=>?_
  refine T.cond (fun _=>?_) fun h=>by cases h
  refine T.bind (T.cat (y:=[40]) rfl rfl (by simp only [List.length_cons,List.length_nil];omega)) fun r1 e1=>T.bind (eachE_is (l:=es) he (by omega)) fun r2 e2=>T.bind (T.cat e1 e2 (by simp only [List.length_append,List.length_cons,List.length_nil];omega)) fun r3 e3=>T.bind (T.cat (y:=[41,59]) e3 rfl (by simp only [List.length_append,List.length_cons,List.length_nil];omega)) fun r4 e4=>?_
  refine T.bind (P:=fun x=>x=r4) (T.cond (fun h=>by cases h) fun _=>T.ret rfl) fun x hx=>T.ret ⟨rfl,?_⟩
  rw [hx,e4];simp [pFs,pF,txts,Pc.txt]
 |
  callTo d s f es a hs hf he=>
  have h0:=hs.len;have h1:=hf.len;have h2:=Kdq he
  have hz2:szEs es≤1048575:=by simp only at hz;omega
  have hne:s ≠ ByteArray.empty:=fun e=>by
   obtain ⟨c,r,h,_⟩:=hs.al.hd;rw [e] at h;cases h
  rw [show KbZ 4=some 0 from rfl,Option.bind_some];refine T.bind (P:=fun b=>b=false) (T.cond (fun h=>by cases h) fun _=>T.ret (decide_eq_false (by omega))) fun b hb=>?_
  subst hb;iterate 7 refine T.cond (fun h=>by cases h) fun _=>?_
  refine T.cond (fun _=>?_) fun h=>by cases h
  refine T.bind (T.cat (y:=[40]) rfl rfl (by simp only [List.length_cons,List.length_nil];omega)) fun r1 e1=>T.bind (eachE_is (l:=es) he (by omega)) fun r2 e2=>T.bind (T.cat e1 e2 (by simp only [List.length_append,List.length_cons,List.length_nil];omega)) fun r3 e3=>T.bind (T.cat (y:=[41,59]) e3 rfl (by simp only [List.length_append,List.length_cons,List.length_nil];omega)) fun r4 e4=>?_
  have h4:(dl r4).length≤30+27*szEs es:=by rw [e4];simp only [List.length_append,List.length_cons,List.length_nil];omega
  refine T.bind (P:=fun x=>dl x=(dl s++[32,61,32])++dl r4) (T.cond (fun _=>?_) fun h=>?_) fun r7 e7=>T.ret ⟨rfl,?_⟩
  ·exact T.bind (T.cat (x:=dl s) (y:=[32,61,32]) rfl rfl (by simp only [List.length_cons,List.length_nil];omega)) fun r5 e5=>T.bind (T.cat (y:=dl r4) e5 rfl (by simp only [List.length_append,List.length_cons,List.length_nil];omega)) fun r6 e6=>T.ret e6
  ·have:decide (s=(ByteArray.mk #[]))=false:=decide_eq_false hne;rw [this] at h;cases h
  rw [e7,e4];simp [pFs,pF,txts,Pc.txt,hne]
 |
  input d s a hs=>
  have h1:=hs.len;rw [show KbZ 5=some 0 from rfl,Option.bind_some];refine T.bind (P:=fun b=>b=false) (T.ret rfl) fun b hb=>?_
  subst hb;iterate 4 refine T.cond (fun h=>by cases h) fun _=>?_
  refine T.cond (fun _=>?_) fun h=>by cases h
  show T ((catS s (ByteArray.mk #[32,61,32,105,110,112,117,116,40,41,59])).bind fun x36=>some (x36,true)) _
  refine T.bind (T.cat (x:=dl s) (y:=[32,61,32,105,110,112,117,116,40,41,59]) rfl rfl (by simp only [List.length_cons,List.length_nil];omega)) fun r4 e4=>T.ret ⟨rfl,?_⟩
  show dl r4=txts [nm s,.sp 32,mk ⟨#[61]⟩,.sp 32,mk ⟨#[105,110,112,117,116]⟩,mk ⟨#[40]⟩,mk ⟨#[41]⟩,mk ⟨#[59]⟩]
  rw [e4];simp [txts,Pc.txt]
 |
  ret d e a he=>
  have h2:=KbE he.1;rw [show KbZ 8=some 1 from rfl,Option.bind_some];refine T.bind (P:=fun b=>b=false) (T.ret rfl) fun b hb=>?_
  subst hb;simp only [szEs1] at hz;iterate 5 refine T.cond (fun h=>by cases h) fun _=>?_
  refine T.cond (fun _=>?_) fun h=>by cases h
  show T ((idx [e] (0:Int)).bind fun x39=>((KaR x39).bind fun x40=>((catS (ByteArray.mk #[114,101,116,117,114,110,32]) x40).bind fun x41=>((catS x41 qZ15).bind fun x42=>some (x42,true))))) _
  refine T.bind (P:=fun x=>x=e) (T.ret rfl) fun x hx=>?_
  subst hx;refine T.bind (prX he.1 (by omega)) fun r2 e2=>T.bind (T.cat (x:=[114,101,116,117,114,110,32]) rfl e2 (by simp only [List.length_append,List.length_cons,List.length_nil];omega)) fun r3 e3=>T.bind (T.cat (y:=[59]) e3 rfl (by simp only [List.length_append,List.length_cons,List.length_nil];omega)) fun r4 e4=>T.ret ⟨rfl,?_⟩
  rw [e4];simp [pFs,pF,txts,Pc.txt]
 |
  assert d e a he=>
  have h2:=KbE he.1;rw [show KbZ 9=some 1 from rfl,Option.bind_some];refine T.bind (P:=fun b=>b=false) (T.ret rfl) fun b hb=>?_
  subst hb;simp only [szEs1] at hz;iterate 6 refine T.cond (fun h=>by cases h) fun _=>?_
  refine T.cond (fun _=>?_) fun h=>by cases h
  show T ((idx [e] (0:Int)).bind fun x45=>((KaR x45).bind fun x46=>((catS (ByteArray.mk #[97,115,115,101,114,116,40]) x46).bind fun x47=>((catS x47 (ByteArray.mk #[41,59])).bind fun x48=>some (x48,true))))) _
  refine T.bind (P:=fun x=>x=e) (T.ret rfl) fun x hx=>?_
  subst hx;refine T.bind (prX he.1 (by omega)) fun r2 e2=>T.bind (T.cat (x:=[97,115,115,101,114,116,40]) rfl e2 (by simp only [List.length_append,List.length_cons,List.length_nil];omega)) fun r3 e3=>T.bind (T.cat (y:=[41,59]) e3 rfl (by simp only [List.length_append,List.length_cons,List.length_nil];omega)) fun r4 e4=>T.ret ⟨rfl,?_⟩
  rw [e4];simp [pFs,pF,txts,Pc.txt]
 | ite d e ks ls a he hk hl=>exact absurd rfl h6
 | loop d e ks a he hk=>exact absurd rfl h7
end
section
open Go
set_option linter.all false
abbrev SPG (N:Nat):=Km N
theorem Kd0 (d:Nat):∀ a b:List Ki,pSs d (a++b)=pSs d a++pSs d b
 | [],b=>rfl
 | s::a,b=>by simp only [List.cons_append,pSs,Kd0 d a b,List.append_assoc]
theorem vss_mem {b:Nat}:∀ {l:List Ki},VSs b l→∀ s∈l,VS b s
 |
  s::l,h,x,hx=>by
  cases h with
  |
   cons _ _ _ h1 h2=>
   rcases List.mem_cons.1 hx with rfl|hx
   ·exact h1
   exact vss_mem h2 x hx
theorem pgE {b c:List UInt8}{d:Nat}(h:b=c):Pg b d=Pg c d:=by rw [h]
theorem prS:∀ N:Nat,(∀ (b d:Nat) (l:List Ki) (u:List UInt8),VSs b l→d+b≤100→szSs l≤1048576→u.length+(txts (pSs d l)).length≤50000000000000→3*b+3≤N→T ((SPG N).1 (Pg u d) l) fun r=>r=Pg (u++txts (pSs d l)) d) ∧
  (∀ (b d:Nat) (s:Ki) (u:List UInt8),VS b s→d+b≤100→szS s≤1048576→u.length+(txts (pS d s)).length≤50000000000000→3*b+2≤N→T ((SPG N).2.1 (Pg u d) s) fun r=>r=Pg (u++txts (pS d s)) d) ∧
  (∀ (b d:Nat) (l:List Ki) (u:List UInt8),VSs b l→d+1+b≤100→szSs l≤1048576→u.length+(txts (pSs (d+1) l)).length≤50000000000000→3*b+4≤N→T ((SPG N).2.2.1 (Pg u d) l) fun r=>r=Pg (u++txts (pSs (d+1) l)) d)
 | 0=>⟨fun _ _ _ _ _ _ _ _ h=>by omega,fun _ _ _ _ _ _ _ _ h=>by omega,fun _ _ _ _ _ _ _ _ h=>by omega⟩
 |
  N+1=>by
  obtain ⟨iL,iS,iI⟩:=prS N;refine ⟨fun b d l u hv hd hs hu hN=>?_,fun b d s u hv hd hs hu hN=>?_,fun b d l u hv hd hs hu hN=>?_⟩
  ·show T (Kbp (SPG N).1 (SPG N).2.1 (SPG N).2.2.1 (SPG N).2.2.2.1 (SPG N).2.2.2.2 (Pg u d) l) _
   unfold Kbp;have hl:=Kge l;refine T.bind (P:=fun y:List UInt8×Int=>y=(u++txts (pSs d l),(d:Int))) (T.each l (fun pre s=>s=((pre.length:Int),u++txts (pSs d pre),(d:Int))) (by simp [pSs,txts]) (fun pre x post s e hi=>?_) fun s hi=>?_) fun y hy=>T.ret (by rw [hy])
   ·subst hi;have hx:=vss_mem hv x (Kcs e);have hxs:=szSs_pre e;have hlen:(txts (pSs d pre)).length+(txts (pS d x)).length≤(txts (pSs d l)).length:=by
     rw [e,Kd0,KaU];simp only [pSs];rw [KaU];omega
    simp only;rw [KdU e,cond_true,idxP e,Option.bind_some];refine T.bind (iS b d x _ hx hd (by omega) (by rw [List.length_append];omega) (by omega)) fun r hr=>T.next ?_
    subst hr;show (IntKind.i64.wrap _,_,_)=_
    rw [Kdi e (by omega),Kd0,KbX];simp [pSs,txts]
   subst hi;simp only;rw [KfE,cond_false];exact T.done rfl
  ·show T (Kbx (SPG N).1 (SPG N).2.1 (SPG N).2.2.1 (SPG N).2.2.2.1 (SPG N).2.2.2.2 (Pg u d) s) _
   unfold Kbx;by_cases h67:s.gOp=6∨s.gOp=7
   ·have key:∀ (b':Nat) (op:Int) (e:Kc) (ks ls:List Ki) (a:Int),(op=6∨(op=7∧ls=[]))→b=b'+1→s=⟨op,ByteArray.empty,ByteArray.empty,[e],ks,ls,a⟩→VX e→VSs b' ks→VSs b' ls→T ((Option.bind (α:=ByteArray) (bif (op==(6:Int)) then some (ByteArray.mk #[105,102,32,40]) else some (ByteArray.mk #[119,104,105,108,101,32,40])) fun y11=>((idx [e] (0:Int)).bind fun x13=>((KaR x13).bind fun x14=>((catS y11 x14).bind fun x15=>((catS x15 (ByteArray.mk #[41,32,123])).bind fun x16=>((KaC (Pg u d) x16).bind fun x18=>(((SPG N).2.2.1 x18 ks).bind fun x20=>(Option.bind (α:=Bool) (bif (op==(6:Int)) then some (decide ((0:Int) < (ls.length:Int))) else some false) fun y22=>(bif y22 then ((KaC x20 (ByteArray.mk #[125,32,101,108,115,101,32,123])).bind fun x26=>(((SPG N).2.2.1 x26 ls).bind fun x28=>((KaC x28 qZ11).bind fun x30=>some x30))) else ((KaC x20 qZ11).bind fun x33=>some x33))))))))))) fun r=>r=Pg (u++txts (pS d s)) d:=fun b' op e ks ls a hop hb hse he hk hl=>by
     subst hse;have hz:=Kc4 op ByteArray.empty ByteArray.empty [e] ks ls a;rw [szEs1] at hz;have h2:=KbE he.1;have hpS:pS d ⟨op,ByteArray.empty,ByteArray.empty,[e],ks,ls,a⟩=ind d (pH op [pE e])++(pSs (d+1) ks++((if ls.isEmpty then [] else ind d [mk ⟨#[125]⟩,.sp 32,mk ⟨#[101,108,115,101]⟩,.sp 32,mk ⟨#[123]⟩]++pSs (d+1) ls)++ind d [mk ⟨#[125]⟩])):=by
      simp only [pS];rw [if_pos (by omega)];rfl
     rw [hpS] at hu ⊢;rw [KaU,KaU,KaU] at hu;refine T.bind (P:=fun y=>dl y++(txts (pE e)++[41,32,123])=txts (pH op [pE e])∧(dl y).length≤7) (T.cond (fun h=>T.ret ?_) fun h=>T.ret ?_) fun y11 h11=>T.bind (P:=fun x=>x=e) (T.ret rfl) fun x hx=>?_
     ·have:op=6:=by simpa using h
      exact ⟨by simp [pH,this,txts,Pc.txt,dl],by decide⟩
     ·have:op ≠ 6:=by simpa using h
      exact ⟨by simp [pH,this,txts,Pc.txt,dl],by decide⟩
     subst hx;obtain ⟨h11,h12⟩:=h11;refine T.bind (prX he.1 (by omega)) fun r1 e1=>T.bind (T.cat (x:=dl y11) rfl e1 (by omega)) fun r2 e2=>T.bind (T.cat (y:=[41,32,123]) e2 rfl (by simp only [List.length_append,List.length_cons,List.length_nil];omega)) fun r3 e3=>T.bind (KdI (l:=pH op [pE x]) (by rw [e3,← h11];simp) (by omega) (by omega)) fun r4 e4=>?_
     subst e4;refine T.bind (iI b' d ks _ hk (by omega) (by omega) (by rw [List.length_append];omega) (by omega)) fun r5 e5=>?_
     subst e5;refine T.bind (P:=fun y=>y=!ls.isEmpty) (T.cond (fun h=>T.ret ?_) fun h=>T.ret ?_) fun y22 h22=>T.cond (fun h=>?_) fun h=>?_
     ·cases ls<;>simp
     ·have:op ≠ 6:=by simpa using h
      rcases hop with h|⟨_,rfl⟩
      ·exact absurd h this
      rfl
     ·have hne:ls.isEmpty=false:=by rw [h] at h22;simpa using h22.symm
      rw [hne] at hu ⊢;simp only [Bool.false_eq_true,if_false] at hu ⊢;rw [KaU] at hu;refine T.bind (KdI (l:=[mk ⟨#[125]⟩,.sp 32,mk ⟨#[101,108,115,101]⟩,.sp 32,mk ⟨#[123]⟩]) rfl (by omega) (by simp only [List.length_append];omega)) fun r6 e6=>?_
      subst e6;refine T.bind (iI b' d ls _ hl (by omega) (by omega) (by simp only [List.length_append];omega) (by omega)) fun r7 e7=>?_
      subst e7;refine T.bind (KdI (l:=[mk ⟨#[125]⟩]) rfl (by omega) (by simp only [List.length_append];omega)) fun r8 e8=>T.ret ?_
      rw [e8];exact pgE (by simp [KbX])
     have hne:ls.isEmpty=true:=by rw [h] at h22;simpa using h22.symm
     rw [hne] at hu ⊢;simp only [if_true] at hu ⊢;refine T.bind (KdI (l:=[mk ⟨#[125]⟩]) rfl (by omega) (by simp only [List.length_append];omega)) fun r8 e8=>T.ret ?_
     rw [e8];exact pgE (by simp [KbX])
    cases hv with
    |
     ite b' e ks ls a he hk hl=>
     rw [show KcA ⟨6,ByteArray.empty,ByteArray.empty,[e],ks,ls,a⟩=some (ByteArray.mk #[],false) from rfl,Option.bind_some];exact key b' 6 e ks ls a (.inl rfl) rfl rfl he hk hl
    |
     loop b' e ks a he hk=>
     rw [show KcA ⟨7,ByteArray.empty,ByteArray.empty,[e],ks,[],a⟩=some (ByteArray.mk #[],false) from rfl,Option.bind_some];exact key b' 7 e ks [] a (.inr ⟨rfl,rfl⟩) rfl rfl he hk (.nil _)
    | _=>simp only at h67;omega
   have hpS:pS d s=ind d (pFs s):=by
    cases s with
    |
     mk op nm fn es ks ls a=>
     simp only at h67;simp only [pS];rw [if_neg h67];rfl
   rw [hpS] at hu ⊢;refine T.bind (simp_is hv (by omega) (by omega) hs) fun r hr=>?_
   obtain ⟨h1,h2⟩:=hr;refine T.cond (fun _=>T.bind (KdI h2 (by omega) hu) fun q hq=>T.ret hq) fun h=>?_
   rw [h1] at h;cases h
  show T (Kbq (SPG N).1 (SPG N).2.1 (SPG N).2.2.1 (SPG N).2.2.2.1 (SPG N).2.2.2.2 (Pg u d) l) _
  unfold Kbq;have hw:IntKind.i64.wrap ((d:Int)+1)=((d+1:Nat):Int):=wn (by omega);show T (((SPG N).1 ⟨⟨u⟩,IntKind.i64.wrap ((d:Int)+1)⟩ l).bind _) _
  rw [hw];refine T.bind (iL b (d+1) l u hv (by omega) hs hu (by omega)) fun r hr=>T.ret ?_
  subst hr;show (⟨_,IntKind.i64.wrap (((d+1:Nat):Int) - 1)⟩:Kj)=_
  rw [show IntKind.i64.wrap (((d+1:Nat):Int) - 1)=(d:Int) by rw [IntKind.wrap_i64];omega]
theorem prSs {b d:Nat}{l:List Ki}{u:List UInt8}(hv:VSs b l)(hd:d+b≤100)(hs:szSs l≤1048576)(hu:u.length+(txts (pSs d l)).length≤50000000000000):T (KcZ (Pg u d) l) fun r=>r=Pg (u++txts (pSs d l)) d:=by
 obtain ⟨r,h1,h2⟩:=(prS (3*b+3)).1 b d l u hv hd hs hu (Nat.le_refl _);exact ⟨r,Kgs _ _ _ h1,h2⟩
theorem KeE (a b:List K3):pLs (a++b)=pLs a++pLs b:=by simp [pLs]
theorem pLs_len {l:List K3}(hv:∀ v∈l,NmOK v.gName):(txts (pLs l)).length≤28*l.length:=by
 induction l with
 | nil=>exact Nat.le_refl _
 |
  cons v l ih=>
  have:=ih fun v h=>hv v (by simp [h])
  have h1:=pV_len (hv v (by simp));show (txts (ind 1 (pV v++[mk ⟨#[59]⟩])++pLs l)).length≤_
  rw [KaU,KdH,KaU,tl_mk,Kbi];have h2:(v::l).length=l.length+1:=rfl;show 1+(_+(1+0)+1)+_≤_;omega
theorem pFn_len {f:K1}(h:VF f):(txts (pFn f)).length≤1000+400*szSs f.gBody:=by
 have h1:=h.nm.len;have h2:=Kfv h.ps;have h3:=pLs_len h.ls;have h4:=KfR h.body 1 (by omega);have h5:=h.many
 unfold pFn;rw [KaU,KaU,KaU,KdH,KdH,tl_mk,tl_sp,tl_nm,tl_mk,KaU,tl_mk,tl_sp,tl_mk,Kbi,tl_mk,Kbi];show 0+(3+(1+(_+(1+(_+(1+(1+(1+0)))))))+1)+(_+(_+(0+(1+0+1))))≤_
 omega
theorem func_is {f:K1}(h:VF f):T (KcJ f) fun r=>dl r=txts (pFn f):=by
 have h1:=h.nm.len;have h2:=Kfv h.ps;have h3:=pLs_len h.ls;have h4:=KfR h.body 1 (by omega);have h5:=h.many;have h6:=h.size
 have hlen:=pFn_len h;have hpF:txts (pFn f)=txts (ind 0 (mk ⟨#[105,110,116]⟩::.sp 32::nm f.gName::mk ⟨#[40]⟩::(Kal (f.gParams.map pV)++[mk ⟨#[41]⟩,.sp 32,mk ⟨#[123]⟩])))++(txts (pLs f.gLocals)++(txts (pSs 1 f.gBody)++txts (ind 0 [mk ⟨#[125]⟩]))):=by
  unfold pFn;simp only [KbX]
 have hsum:=congrArg List.length hpF;simp only [List.length_append] at hsum;unfold KcJ;refine T.bind (T.cat (x:=[105,110,116,32]) rfl rfl (by simp only [List.length_cons,List.length_nil];omega)) fun r1 e1=>T.bind (T.cat (y:=[40]) e1 rfl (by simp only [List.length_append,List.length_cons,List.length_nil];omega)) fun r2 e2=>T.bind (eachV_is h.ps (by omega)) fun r3 e3=>T.bind (T.cat e2 e3 (by simp only [List.length_append,List.length_cons,List.length_nil];omega)) fun r4 e4=>T.bind (T.cat (y:=[41,32,123]) e4 rfl (by simp only [List.length_append,List.length_cons,List.length_nil];omega)) fun r5 e5=>?_
 refine T.bind (KdI (b:=[]) (d:=0) (l:=mk ⟨#[105,110,116]⟩::.sp 32::nm f.gName::mk ⟨#[40]⟩::(Kal (f.gParams.map pV)++[mk ⟨#[41]⟩,.sp 32,mk ⟨#[123]⟩])) (by rw [e5];simp [txts,Pc.txt]) (by omega) (by rw [List.length_nil];omega)) fun r6 e6=>?_
 subst e6;generalize hA:txts (ind 0 (mk ⟨#[105,110,116]⟩::.sp 32::nm f.gName::mk ⟨#[40]⟩::(Kal (f.gParams.map pV)++[mk ⟨#[41]⟩,.sp 32,mk ⟨#[123]⟩])))=A at *;rw [List.nil_append];refine T.bind (P:=fun y:List UInt8×Int=>y=(A++txts (pLs f.gLocals),((1:Nat):Int))) (T.each f.gLocals (fun pre s=>s=((pre.length:Int),A++txts (pLs pre),((1:Nat):Int))) (by show (_,_,IntKind.i64.wrap _)=_;simp [pLs,txts];rfl) (fun pre x post s e hi=>?_) fun s hi=>?_) fun y hy=>?_
 ·subst hi;have hlp:(txts (pLs pre)).length+(txts (ind 1 (pV x++[mk ⟨#[59]⟩]))).length≤(txts (pLs f.gLocals)).length:=by
   have e':pLs f.gLocals=pLs pre++(ind 1 (pV x++[mk ⟨#[59]⟩])++pLs post):=by rw [e,KeE];rfl
   rw [e',KaU,KaU];omega
  have hx:=pV_len (h.ls x (Kcs e));simp only;rw [KdU e,cond_true,idxP e,Option.bind_some];refine T.bind (var_is (h.ls x (Kcs e))) fun q1 f1=>T.bind (T.cat (y:=[59]) f1 rfl (by simp only [List.length_cons,List.length_nil];omega)) fun q2 f2=>T.bind (KdI (l:=pV x++[mk ⟨#[59]⟩]) (by rw [f2];simp [txts,Pc.txt]) (by omega) (by rw [List.length_append];omega)) fun q3 f3=>T.next ?_
  subst f3;show (IntKind.i64.wrap _,_,_)=_
  have:=Kea e;rw [Kdi e (by omega),KeE,KbX];simp [pLs,KbX]
 ·subst hi;simp only;rw [KfE,cond_false];exact T.done rfl
 subst hy;refine T.bind (prSs (b:=23) (d:=1) h.body (by omega) h.size (by rw [List.length_append];omega)) fun r7 e7=>?_
 subst e7;refine T.bind (KdI (b:=(A++txts (pLs f.gLocals))++txts (pSs 1 f.gBody)) (d:=0) (l:=[mk ⟨#[125]⟩]) rfl (by omega) (by simp only [List.length_append];omega)) fun r8 e8=>?_
 subst e8;have ok:strOK (Pg ((A++txts (pLs f.gLocals))++txts (pSs 1 f.gBody)++txts (ind 0 [mk ⟨#[125]⟩])) 0)=true:=by
  have hne:txts (ind 0 [mk ⟨#[125]⟩])=[125,10]:=rfl;simp only [strOK,Bool.and_eq_true,decide_eq_true_eq,List.length_append];rw [hne] at *;refine ⟨by simp,?_⟩;have h2:[(125:UInt8),10].length=2:=rfl;omega
 rw [ok];refine T.ret ?_;rw [hpF];show (ByteArray.mk (List.toArray _)).data.toList=_
 simp [List.append_assoc]
theorem global_is {g:Kaq}(h:VG g):T (KcT g) fun r=>dl r=txts (pGl g):=by
 have h1:=h.nm.len;have h2:=h.lo;have h3:=h.hi
 unfold KcT pGl pV;refine T.cond (fun hp=>?_) fun hp=>T.cond (fun hs=>?_) fun hs=>?_
 ·exact T.bind (T.cat (x:=[105,110,116,32,42]) rfl rfl (by simp only [List.length_cons,List.length_nil];omega)) fun r1 e1=>T.bind (T.cat (y:=[59,10]) e1 rfl (by simp only [List.length_append,List.length_cons,List.length_nil];omega)) fun r2 e2=>T.ret (by rw [e2,hp];simp [txts,Pc.txt])
 ·have hs':=of_decide_eq_true hs;have hn:=Khh (n:=g.gSize) (by omega) (by omega);have ok:KdV g.gSize=true:=by simp [KdV];omega
  refine T.bind (T.cat (x:=[105,110,116,32]) rfl rfl (by simp only [List.length_cons,List.length_nil];omega)) fun r1 e1=>T.bind (T.cat (y:=[91]) e1 rfl (by simp only [List.length_append,List.length_cons,List.length_nil];omega)) fun r2 e2=>?_
  rw [ok];exact T.bind (P:=fun _=>True) (T.ret trivial) fun _ _=>T.bind (T.cat e2 rfl (by simp only [List.length_append,List.length_cons,List.length_nil];omega)) fun r3 e3=>T.bind (T.cat (y:=[93,59,10]) e3 rfl (by simp only [List.length_append,List.length_cons,List.length_nil];omega)) fun r4 e4=>T.ret (by rw [e4,hp];simp [txts,Pc.txt,hs'])
 have hs':=of_decide_eq_false hs;exact T.bind (T.cat (x:=[105,110,116,32]) rfl rfl (by simp only [List.length_cons,List.length_nil];omega)) fun r1 e1=>T.bind (T.cat (y:=[59,10]) e1 rfl (by simp only [List.length_append,List.length_cons,List.length_nil];omega)) fun r2 e2=>T.ret (by rw [e2,hp];simp [txts,Pc.txt,hs'])
end
section
open Go
set_option linter.all false
theorem two_iff (c d:UInt8):memB ⟨#[c,d]⟩ two=true↔(c=61∧d=61)∨(c=33∧d=61)∨(c=60∧d=61)∨(c=38∧d=38)∨(c=124∧d=124):=by simp [memB]
theorem n2_of {c:UInt8}{b:List UInt8}(h:∀ d r,b=d::r→¬((c=61∧d=61)∨(c=33∧d=61)∨(c=60∧d=61)∨(c=38∧d=38)∨(c=124∧d=124))):n2 c b:=fun d r e=>by
 have:=h d r e;rw [← two_iff] at this;simpa using this
theorem n2_sp {c e:UInt8}(h:e ≠ 61∧e ≠ 38∧e ≠ 124)(l:List Pc):n2 c (txts (.sp e::l)):=n2_of fun d r q=>by
 have:e=d:=by rw [KbP] at q;exact (List.cons.inj q).1
 subst this;rintro (⟨_,h1⟩|⟨_,h1⟩|⟨_,h1⟩|⟨_,h1⟩|⟨_,h1⟩)
 ·exact h.1 h1
 ·exact h.1 h1
 ·exact h.1 h1
 ·exact h.2.1 h1
 exact h.2.2 h1
theorem n2_any {c:UInt8}(h:c ≠ 61∧c ≠ 33∧c ≠ 60∧c ≠ 38∧c ≠ 124)(b:List UInt8):n2 c b:=n2_of fun d r _=>by
 rintro (⟨h1,_⟩|⟨h1,_⟩|⟨h1,_⟩|⟨h1,_⟩|⟨h1,_⟩)
 ·exact h.1 h1
 ·exact h.2.1 h1
 ·exact h.2.2.1 h1
 ·exact h.2.2.2.1 h1
 exact h.2.2.2.2 h1
structure Sg (c:UInt8):Prop where
 k:ck c=0
 i:0≤KeT ones (c.toNat:Int)
 n:c ≠ 61∧c ≠ 33∧c ≠ 60∧c ≠ 38∧c ≠ 124
theorem Sg.lx {c:UInt8}(h:Sg c){l:List Pc}(hl:Lx l):Lx (Pc.tk (3,⟨#[c]⟩,0)::l):=.m1 c l h.k h.i (n2_any h.n _) hl
theorem ix (c:UInt8)(h:decide (0≤KeT ones (c.toNat:Int))=true):0≤KeT ones (c.toNat:Int):=of_decide_eq_true h
theorem sg40:Sg 40:=⟨by kernel_rfl,ix _ (by kernel_rfl),by decide⟩
theorem sg41:Sg 41:=⟨by kernel_rfl,ix _ (by kernel_rfl),by decide⟩
theorem sg91:Sg 91:=⟨by kernel_rfl,ix _ (by kernel_rfl),by decide⟩
theorem sg93:Sg 93:=⟨by kernel_rfl,ix _ (by kernel_rfl),by decide⟩
theorem sg59:Sg 59:=⟨by kernel_rfl,ix _ (by kernel_rfl),by decide⟩
theorem sg44:Sg 44:=⟨by kernel_rfl,ix _ (by kernel_rfl),by decide⟩
theorem sg123:Sg 123:=⟨by kernel_rfl,ix _ (by kernel_rfl),by decide⟩
theorem sg125:Sg 125:=⟨by kernel_rfl,ix _ (by kernel_rfl),by decide⟩
theorem sg42:Sg 42:=⟨by kernel_rfl,ix _ (by kernel_rfl),by decide⟩
theorem sg45:Sg 45:=⟨by kernel_rfl,ix _ (by kernel_rfl),by decide⟩
theorem sg43:Sg 43:=⟨by kernel_rfl,ix _ (by kernel_rfl),by decide⟩
theorem sg47:Sg 47:=⟨by kernel_rfl,ix _ (by kernel_rfl),by decide⟩
theorem sg37:Sg 37:=⟨by kernel_rfl,ix _ (by kernel_rfl),by decide⟩
theorem sp32 {l:List Pc}(h:Lx l):Lx (.sp 32::l):=.sp _ _ (by kernel_rfl) h
theorem sp9 {l:List Pc}(h:Lx l):Lx (.sp 9::l):=.sp _ _ (by kernel_rfl) h
theorem sp10 {l:List Pc}(h:Lx l):Lx (.sp 10::l):=.sp _ _ (by kernel_rfl) h
theorem na_of {c:UInt8}(h:ck c ≠ 2∧ck c ≠ 3)(b:List UInt8):na (c::b):=fun d r e=>by cases e;exact h
theorem na_sg {c:UInt8}(h:Sg c)(l:List Pc):na (txts (mk ⟨#[c]⟩::l)):=na_of (c:=c) (by rw [h.k];decide) (txts l)
theorem na_32 (l:List Pc):na (txts (.sp 32::l)):=na_of (c:=32) (by rw [show ck 32=1 by kernel_rfl];decide) (txts l)
theorem na_10 (l:List Pc):na (txts (.sp 10::l)):=na_of (c:=10) (by rw [show ck 10=1 by kernel_rfl];decide) (txts l)
theorem eq_lx {l:List Pc}(h:Lx l):Lx (mk ⟨#[61]⟩::.sp 32::l):=.m1 61 _ (by kernel_rfl) (ix _ (by kernel_rfl)) (n2_sp (by decide) _) (sp32 h)
theorem op_lx {op:Int}(ho:lev op < 6){l:List Pc}(h:Lx l):Lx (mk (sgn op)::.sp 32::l):=by
 have h':=sp32 h;rcases Kep ho with rfl|rfl|rfl|rfl|rfl|rfl|rfl|rfl|rfl|rfl|rfl
 ·exact sg42.lx h'
 ·exact sg47.lx h'
 ·exact sg37.lx h'
 ·exact sg43.lx h'
 ·exact sg45.lx h'
 ·exact .m1 60 _ (by kernel_rfl) (ix _ (by kernel_rfl)) (n2_sp (by decide) _) h'
 ·exact .m2 60 61 _ (by kernel_rfl) (by kernel_rfl) h'
 ·exact .m2 61 61 _ (by kernel_rfl) (by kernel_rfl) h'
 ·exact .m2 33 61 _ (by kernel_rfl) (by kernel_rfl) h'
 ·exact .m2 38 38 _ (by kernel_rfl) (by kernel_rfl) h'
 exact .m2 124 124 _ (by kernel_rfl) (by kernel_rfl) h'
abbrev words:List ByteArray:=[(ByteArray.mk #[105,110,116]),(ByteArray.mk #[105,102]),(ByteArray.mk #[101,108,115,101]),(ByteArray.mk #[119,104,105,108,101]),(ByteArray.mk #[114,101,116,117,114,110]),(ByteArray.mk #[97,115,115,101,114,116]),(ByteArray.mk #[105,110,112,117,116]),(ByteArray.mk #[110,117,108,108])]
theorem word_is (s:ByteArray):Kcc s=some (memB s words):=by
 unfold Kcc;rw [tcontI _ _ (by simp),Option.bind_some]
theorem wd_ok {c:UInt8}{r:List UInt8}{s:ByteArray}(hs:s.data.toList=c::r)(h:((c::r).all fun c=>decide (ck c=2))=true)(h2:(c::r).length≤20)(h3:memB s words=true):WdOK s:=by
 have h':=List.all_eq_true.1 h;refine ⟨⟨⟨c,r,hs,of_decide_eq_true (h' c (by simp))⟩,fun d hd=>.inl ?_,by rw [hs];exact h2⟩,by rw [word_is,h3]⟩;rw [hs] at hd;exact of_decide_eq_true (h' d hd)
theorem wInt:WdOK ⟨#[105,110,116]⟩:=wd_ok rfl (by kernel_rfl) (by decide) (by kernel_rfl)
theorem wIf:WdOK ⟨#[105,102]⟩:=wd_ok rfl (by kernel_rfl) (by decide) (by kernel_rfl)
theorem wElse:WdOK ⟨#[101,108,115,101]⟩:=wd_ok rfl (by kernel_rfl) (by decide) (by kernel_rfl)
theorem wWhile:WdOK ⟨#[119,104,105,108,101]⟩:=wd_ok rfl (by kernel_rfl) (by decide) (by kernel_rfl)
theorem wReturn:WdOK ⟨#[114,101,116,117,114,110]⟩:=wd_ok rfl (by kernel_rfl) (by decide) (by kernel_rfl)
theorem wAssert:WdOK ⟨#[97,115,115,101,114,116]⟩:=wd_ok rfl (by kernel_rfl) (by decide) (by kernel_rfl)
theorem wInput:WdOK ⟨#[105,110,112,117,116]⟩:=wd_ok rfl (by kernel_rfl) (by decide) (by kernel_rfl)
theorem wNull:WdOK ⟨#[110,117,108,108]⟩:=wd_ok rfl (by kernel_rfl) (by decide) (by kernel_rfl)
def Stt (l:List Pc):Prop:=∃ c r,txts l=c::r∧c ≠ 61∧c ≠ 38∧c ≠ 124∨∃ c r,txts l=c::r∧c=38
theorem stt_c {l:List Pc}{c:UInt8}{r:List UInt8}(h:txts l=c::r)(h1:c ≠ 61)(h2:c ≠ 124):Stt l:=by
 by_cases h3:c=38
 ·exact ⟨0,[],.inr ⟨c,r,h,h3⟩⟩
 exact ⟨c,r,.inl ⟨h,h1,h3,h2⟩⟩
theorem stt_not {l:List Pc}(h:Stt l):n2 33 (txts l):=n2_of fun d r e=>by
 have hd:d ≠ 61:=by
  obtain ⟨c,r',⟨h1,h2,_⟩|⟨c',r'',h1,h2⟩⟩:=h
  ·rw [e] at h1;rw [(List.cons.inj h1).1];exact h2
  rw [e] at h1;rw [(List.cons.inj h1).1,h2];decide
 rintro (⟨h1,_⟩|⟨_,h1⟩|⟨h1,_⟩|⟨h1,_⟩|⟨h1,_⟩)
 ·exact absurd h1 (by decide)
 ·exact hd h1
 ·exact absurd h1 (by decide)
 ·exact absurd h1 (by decide)
 exact absurd h1 (by decide)
theorem nm_hd {s:ByteArray}(h:NmOK s)(l:List Pc):∃ c r,txts (nm s::l)=c::r∧ck c=2:=by
 obtain ⟨c,r,h1,h2⟩:=h.al.hd;exact ⟨c,r++txts l,by rw [KbP];show s.data.toList++_=_;rw [h1];rfl,h2⟩
theorem nm_st {s:ByteArray}(h:NmOK s)(l:List Pc):Stt (nm s::l):=by
 obtain ⟨c,r,h1,h2⟩:=nm_hd h l;refine stt_c h1 (fun e=>?_) (fun e=>?_)
 ·rw [e] at h2;exact absurd h2 (by rw [show ck 61=0 by kernel_rfl];decide)
 rw [e] at h2;exact absurd h2 (by rw [show ck 124=0 by kernel_rfl];decide)
theorem amp_lx {s:ByteArray}(h:NmOK s){l:List Pc}(hl:Lx (nm s::l)):Lx (mk ⟨#[38]⟩::nm s::l):=by
 refine .m1 38 _ (by kernel_rfl) (ix _ (by kernel_rfl)) (n2_of fun d r e=>?_) hl;obtain ⟨c,r',h1,h2⟩:=nm_hd h l;rw [h1] at e;have hc:=(List.cons.inj e).1;have hd:d ≠ 38:=fun q=>by rw [hc,q] at h2;exact absurd h2 (by rw [show ck 38=0 by kernel_rfl];decide)
 rintro (⟨h1,_⟩|⟨h1,_⟩|⟨h1,_⟩|⟨_,h1⟩|⟨h1,_⟩)
 ·exact absurd h1 (by decide)
 ·exact absurd h1 (by decide)
 ·exact absurd h1 (by decide)
 ·exact hd h1
 exact absurd h1 (by decide)
theorem kd_lx {k:Nat}{x:Nat×List Pc}{l:List Pc}(h:∀ l,Lx l→na (txts l)→Lx (x.2++l)∧Stt (x.2++l))(hl:Lx l)(hn:na (txts l)):Lx (kd k x++l)∧Stt (kd k x++l):=by
 unfold kd;split
 ·have h1:=(h (mk ⟨#[41]⟩::l) (sg41.lx hl) (na_sg sg41 _)).1;rw [show (mk ⟨#[40]⟩::(x.2++[mk ⟨#[41]⟩]))++l=mk ⟨#[40]⟩::(x.2++(mk ⟨#[41]⟩::l)) by simp];exact ⟨sg40.lx h1,stt_c (c:=40) (r:=txts (x.2++(mk ⟨#[41]⟩::l))) rfl (by decide) (by decide)⟩
 exact h l hl hn
theorem lxE {e:Kc}(h:VE e):∀ l,Lx l→na (txts l)→Lx (pE e++l)∧Stt (pE e++l):=by
 induction h with
 |
  num n a h0 h1=>
  intro l hl hn;obtain ⟨d1,d2,c,r,d3,d4⟩:=dd_all n.toNat;refine ⟨.nb n l h0 h1 hn hl,stt_c (c:=c) (r:=r++txts l) ?_ (fun e=>?_) (fun e=>?_)⟩
  ·show txts (nb n::l)=_
   rw [KbP];show (itoaB n).data.toList++_=_;rw [Kgg h0,d3];rfl
  ·have:=d1 c (by rw [d3];simp);rw [e] at this;exact absurd this (by decide)
  have:=d1 c (by rw [d3];simp);rw [e] at this;exact absurd this (by decide)
 | var s a h=>intro l hl hn;exact ⟨.nm s l h hn hl,nm_st h l⟩
 | null a=>intro l hl hn;exact ⟨.wd _ l wNull hn hl,stt_c (c:=110) rfl (by decide) (by decide)⟩
 | load s a h=>intro l hl hn;exact ⟨sg42.lx (.nm s l h hn hl),stt_c (c:=42) rfl (by decide) (by decide)⟩
 | addr s a h=>intro l hl hn;exact ⟨amp_lx h (.nm s l h hn hl),stt_c (c:=38) rfl (by decide) (by decide)⟩
 |
  index s k a h _ ih=>
  intro l hl hn;have h1:=(ih (mk ⟨#[93]⟩::l) (sg93.lx hl) (na_sg sg93 _)).1;have e:pE ⟨3,0,s,[k],a⟩++l=nm s::mk ⟨#[91]⟩::(pE k++(mk ⟨#[93]⟩::l)):=by
   show (nm s::mk ⟨#[91]⟩::(pE k++[mk ⟨#[93]⟩]))++l=_;simp
  rw [e];exact ⟨.nm s _ h (na_sg sg91 _) (sg91.lx h1),nm_st h _⟩
 |
  addrAt s k a h _ ih=>
  intro l hl hn;have h1:=(ih (mk ⟨#[93]⟩::l) (sg93.lx hl) (na_sg sg93 _)).1;have e:pE ⟨20,0,s,[k],a⟩++l=mk ⟨#[38]⟩::nm s::mk ⟨#[91]⟩::(pE k++(mk ⟨#[93]⟩::l)):=by
   show (mk ⟨#[38]⟩::nm s::mk ⟨#[91]⟩::(pE k++[mk ⟨#[93]⟩]))++l=_;simp
  rw [e];exact ⟨amp_lx h (.nm s _ h (na_sg sg91 _) (sg91.lx h1)),stt_c (c:=38) rfl (by decide) (by decide)⟩
 |
  neg k a _ ih=>
  intro l hl hn;have h1:=kd_lx (k:=6) (x:=(lev k.gOp,pE k)) ih hl hn;exact ⟨sg45.lx h1.1,stt_c (c:=45) rfl (by decide) (by decide)⟩
 |
  not k a _ ih=>
  intro l hl hn;have h1:=kd_lx (k:=6) (x:=(lev k.gOp,pE k)) ih hl hn;exact ⟨.m1 33 _ (by kernel_rfl) (ix _ (by kernel_rfl)) (stt_not h1.2) h1.1,stt_c (c:=33) rfl (by decide) (by decide)⟩
 |
  bin op l' r a ho _ _ ih1 ih2=>
  intro l hl hn;have h1:=kd_lx (k:=lev op+1) (x:=(lev r.gOp,pE r)) ih2 hl hn;have h2:=kd_lx (k:=lev op) (x:=(lev l'.gOp,pE l')) ih1 (sp32 (op_lx ho h1.1)) (na_32 _);have e:pE ⟨op,0,ByteArray.empty,[l',r],a⟩++l=kd (lev op) (lev l'.gOp,pE l')++(.sp 32::mk (sgn op)::.sp 32::(kd (lev op+1) (lev r.gOp,pE r)++l)):=by
   rw [pE_bin ho];simp
  rw [e];exact h2
theorem lxX {e:Kc}(h:VX e){l:List Pc}(hl:Lx l)(hn:na (txts l)):Lx (pE e++l):=(lxE h.1 l hl hn).1
theorem comE {es:List Kc}(h:∀ e∈es,VX e){l:List Pc}(hl:Lx l)(hn:na (txts l)):Lx (Kal (es.map pE)++l):=by
 induction es with
 | nil=>exact hl
 |
  cons e es ih=>
  have h1:=ih fun e he=>h e (by simp [he])
  cases es with
  | nil=>exact lxX (h e (by simp)) hl hn
  |
   cons f es=>
   show Lx ((pE e++(mk ⟨#[44]⟩::.sp 32::Kal (pE f::es.map pE)))++l)
   rw [List.append_assoc];exact lxX (h e (by simp)) (sg44.lx (sp32 h1)) (na_sg sg44 _)
theorem KfS {d:Nat}{x l:List Pc}(h:Lx (x++(.sp 10::l))):Lx (ind d x++l):=by
 have e:ind d x++l=List.replicate d (.sp 9)++(x++(.sp 10::l)):=by unfold ind;simp
 rw [e];clear e;induction d with
 | zero=>exact h
 | succ d ih=>rw [List.replicate_succ];exact sp9 ih
theorem pF_lx {b:Nat}{s:Ki}(h:VS b s)(h6:s.gOp ≠ 6)(h7:s.gOp ≠ 7){l:List Pc}(hl:Lx l)(hn:na (txts l)):Lx (pFs s++l):=by
 have h59:=sg59.lx hl;have n59:=na_sg sg59 l;cases h with
 |
  assign d s e a hs he=>
  rw [show pFs ⟨1,s,ByteArray.empty,[e],[],[],a⟩++l=nm s::.sp 32::mk ⟨#[61]⟩::.sp 32::(pE e++(mk ⟨#[59]⟩::l)) by simp [pFs,pF]];exact .nm _ _ hs (na_32 _) (sp32 (eq_lx (lxX he h59 n59)))
 |
  put d s e f a hs he hf=>
  rw [show pFs ⟨2,s,ByteArray.empty,[e,f],[],[],a⟩++l=nm s::mk ⟨#[91]⟩::(pE e++(mk ⟨#[93]⟩::.sp 32::mk ⟨#[61]⟩::.sp 32::(pE f++(mk ⟨#[59]⟩::l)))) by simp [pFs,pF]];exact .nm _ _ hs (na_sg sg91 _) (sg91.lx (lxX he (sg93.lx (sp32 (eq_lx (lxX hf h59 n59)))) (na_sg sg93 _)))
 |
  store d s e a hs he=>
  rw [show pFs ⟨3,s,ByteArray.empty,[e],[],[],a⟩++l=mk ⟨#[42]⟩::nm s::.sp 32::mk ⟨#[61]⟩::.sp 32::(pE e++(mk ⟨#[59]⟩::l)) by simp [pFs,pF]];exact sg42.lx (.nm _ _ hs (na_32 _) (sp32 (eq_lx (lxX he h59 n59))))
 |
  call d f es a hf he=>
  rw [show pFs ⟨4,ByteArray.empty,f,es,[],[],a⟩++l=nm f::mk ⟨#[40]⟩::(Kal (es.map pE)++(mk ⟨#[41]⟩::mk ⟨#[59]⟩::l)) by simp [pFs,pF]];exact .nm _ _ hf (na_sg sg40 _) (sg40.lx (comE he (sg41.lx h59) (na_sg sg41 _)))
 |
  callTo d s f es a hs hf he=>
  have hne:s ≠ ByteArray.empty:=fun e=>by
   obtain ⟨c,r,h,_⟩:=hs.al.hd;rw [e] at h;cases h
  rw [show pFs ⟨4,s,f,es,[],[],a⟩++l=nm s::.sp 32::mk ⟨#[61]⟩::.sp 32::nm f::mk ⟨#[40]⟩::(Kal (es.map pE)++(mk ⟨#[41]⟩::mk ⟨#[59]⟩::l)) by simp [pFs,pF,hne]];exact .nm _ _ hs (na_32 _) (sp32 (eq_lx (.nm _ _ hf (na_sg sg40 _) (sg40.lx (comE he (sg41.lx h59) (na_sg sg41 _))))))
 |
  input d s a hs=>
  exact .nm _ _ hs (na_32 _) (sp32 (eq_lx (.wd _ _ wInput (na_sg sg40 _) (sg40.lx (sg41.lx h59)))))
 |
  ret d e a he=>
  rw [show pFs ⟨8,ByteArray.empty,ByteArray.empty,[e],[],[],a⟩++l=mk ⟨#[114,101,116,117,114,110]⟩::.sp 32::(pE e++(mk ⟨#[59]⟩::l)) by simp [pFs,pF]];exact .wd _ _ wReturn (na_32 _) (sp32 (lxX he h59 n59))
 |
  assert d e a he=>
  rw [show pFs ⟨9,ByteArray.empty,ByteArray.empty,[e],[],[],a⟩++l=mk ⟨#[97,115,115,101,114,116]⟩::mk ⟨#[40]⟩::(pE e++(mk ⟨#[41]⟩::mk ⟨#[59]⟩::l)) by simp [pFs,pF]];exact .wd _ _ wAssert (na_sg sg40 _) (sg40.lx (lxX he (sg41.lx h59) (na_sg sg41 _)))
 | ite d e ks ls a he hk hl=>exact absurd rfl h6
 | loop d e ks a he hk=>exact absurd rfl h7
mutual
theorem lxS:∀ {b:Nat} {s:Ki},VS b s→∀ (d:Nat) {l:List Pc},Lx l→Lx (pS d s++l)
 |
  b,⟨op,s,f,es,ks,ls,a⟩,h,d,l,hl=>by
  by_cases h6:op=6∨op=7
  ·have key:∀ (d':Nat) (e:Kc),es=[e]→VX e→VSs d' ks→VSs d' ls→Lx (pS d ⟨op,s,f,es,ks,ls,a⟩++l):=fun d' e he hv hk hlv=>by
    subst he;have h1:Lx (ind d [mk ⟨#[125]⟩]++l):=KfS (sg125.lx (sp10 hl));have h2:Lx ((if ls.isEmpty then [] else ind d [mk ⟨#[125]⟩,.sp 32,mk ⟨#[101,108,115,101]⟩,.sp 32,mk ⟨#[123]⟩]++pSs (d+1) ls)++(ind d [mk ⟨#[125]⟩]++l)):=by
     split
     ·exact h1
     rw [List.append_assoc];exact KfS (sg125.lx (sp32 (.wd _ _ wElse (na_32 _) (sp32 (sg123.lx (sp10 (lxSs hlv (d+1) h1)))))))
    have h3:=lxSs hk (d+1) h2;simp only [pS];rw [if_pos h6,List.append_assoc,List.append_assoc,List.append_assoc];refine KfS ?_;have h4:Lx (mk ⟨#[40]⟩::(pE e++(mk ⟨#[41]⟩::.sp 32::mk ⟨#[123]⟩::.sp 10::(pSs (d+1) ks++((if ls.isEmpty then [] else ind d [mk ⟨#[125]⟩,.sp 32,mk ⟨#[101,108,115,101]⟩,.sp 32,mk ⟨#[123]⟩]++pSs (d+1) ls)++(ind d [mk ⟨#[125]⟩]++l)))))):=sg40.lx (lxX hv (sg41.lx (sp32 (sg123.lx (sp10 h3)))) (na_sg sg41 _));unfold pH;simp only [List.map_cons,List.map_nil,List.headD_cons,List.cons_append,List.append_assoc,List.nil_append];split
    ·exact .wd _ _ wIf (na_32 _) (sp32 h4)
    exact .wd _ _ wWhile (na_32 _) (sp32 h4)
   cases h with
   | ite d' e _ _ _ he hk hl=>exact key d' e rfl he hk hl
   | loop d' e _ _ he hk=>exact key d' e rfl he hk (.nil _)
   | _=>omega
  simp only [pS];rw [if_neg h6];exact KfS (pF_lx h (by simp only;omega) (by simp only;omega) (sp10 hl) (na_10 _))
theorem lxSs:∀ {b:Nat} {l':List Ki},VSs b l'→∀ (d:Nat) {l:List Pc},Lx l→Lx (pSs d l'++l)
 | b,[],h,d,l,hl=>hl
 |
  b,s::l',h,d,l,hl=>by
  cases h with
  |
   cons _ _ _ hs hl'=>
   simp only [pSs];rw [List.append_assoc];exact lxS hs d (lxSs hl' d hl)
end
theorem lxV {v:K3}(h:NmOK v.gName){l:List Pc}(hl:Lx l)(hn:na (txts l)):Lx (pV v++l):=by
 unfold pV;simp only [List.cons_append];refine .wd _ _ wInt (na_32 _) (sp32 ?_);split
 ·exact sg42.lx (.nm _ _ h hn hl)
 exact .nm _ _ h hn hl
theorem comV {vs:List K3}(h:∀ v∈vs,NmOK v.gName){l:List Pc}(hl:Lx l)(hn:na (txts l)):Lx (Kal (vs.map pV)++l):=by
 induction vs with
 | nil=>exact hl
 |
  cons e es ih=>
  have h1:=ih fun e he=>h e (by simp [he])
  cases es with
  | nil=>exact lxV (h e (by simp)) hl hn
  |
   cons f es=>
   show Lx ((pV e++(mk ⟨#[44]⟩::.sp 32::Kal (pV f::es.map pV)))++l)
   rw [List.append_assoc];exact lxV (h e (by simp)) (sg44.lx (sp32 h1)) (na_sg sg44 _)
theorem lxLs {vs:List K3}(h:∀ v∈vs,NmOK v.gName){l:List Pc}(hl:Lx l):Lx (pLs vs++l):=by
 induction vs with
 | nil=>exact hl
 |
  cons v vs ih=>
  show Lx ((ind 1 (pV v++[mk ⟨#[59]⟩])++pLs vs)++l)
  rw [List.append_assoc];refine KfS ?_;rw [List.append_assoc];exact lxV (h v (by simp)) (sg59.lx (sp10 (ih fun v hv=>h v (by simp [hv])))) (na_sg sg59 _)
theorem lxFn {f:K1}(h:VF f):Lx (pFn f):=by
 have h1:Lx (ind 0 [mk ⟨#[125]⟩]):=sg125.lx (sp10 .nil);have h2:=lxLs h.ls (lxSs h.body 1 h1);unfold pFn;refine KfS ?_;simp only [List.cons_append,List.append_assoc,List.nil_append];exact .wd _ _ wInt (na_32 _) (sp32 (.nm _ _ h.nm (na_sg sg40 _) (sg40.lx (comV h.ps (sg41.lx (sp32 (sg123.lx (sp10 h2)))) (na_sg sg41 _)))))
theorem lxG {g:Kaq}(h:VG g):Lx (pGl g):=by
 have h1:Lx [mk ⟨#[59]⟩,.sp 10]:=sg59.lx (sp10 .nil);unfold pGl;refine lxV h.nm ?_ ?_
 ·split
  ·exact sg91.lx (.nb _ _ h.lo (by have:=h.hi;omega) (na_sg sg93 _) (sg93.lx h1))
  exact h1
 split
 ·exact na_sg sg91 _
 exact na_sg sg59 _
end
section
open Go
set_option linter.all false
mutual
def stE:Kc→Kc
 | ⟨a,b,c,ks,_⟩=>⟨a,b,c,stEs ks,0⟩
def stEs:List Kc→List Kc
 | []=>[]
 | e::l=>stE e::stEs l
end
mutual
theorem dp_st:∀ e,dpE (stE e)=dpE e
 | ⟨a,b,c,ks,d⟩=>by simp only [stE,dpE,dps_st ks]
theorem dps_st:∀ l,dpEs (stEs l)=dpEs l
 | []=>rfl
 | e::l=>by simp only [stEs,dpEs,dp_st e,dps_st l]
end
theorem KgM {x e:Kc}(h:stE x=stE e):dpE x=dpE e:=by rw [← dp_st x,h,dp_st]
mutual
theorem pE_st:∀ e,pE (stE e)=pE e
 | ⟨a,b,c,ks,d⟩=>by simp only [stE,pE,pKs_st ks]
theorem pKs_st:∀ l,pKs (stEs l)=pKs l
 | []=>rfl
 |
  ⟨a,b,c,ks,d⟩::l=>by
  have:=pE_st ⟨a,b,c,ks,d⟩;simp only [stE] at this;simp only [stEs,stE,pKs,this,pKs_st l]
end
theorem pE_same {x e:Kc}(h:stE x=stE e):pE x=pE e:=by rw [← pE_st x,h,pE_st]
def TA (L:List Kr)(a:Nat)(ts:List Tk):Prop:=(L.drop a).map sk=ts
theorem K0 {L:List Kr}{a:Nat}{t:Tk}{ts:List Tk}(h:TA L a (t::ts)):a < L.length∧(∃ x,L[a]? = some x∧sk x=t)∧TA L (a+1) ts:=by
 unfold TA at h ⊢;have hlt:a < L.length:=by
  rcases Nat.lt_or_ge a L.length with h1|h1
  ·exact h1
  rw [List.drop_of_length_le h1] at h;cases h
 rw [List.drop_eq_getElem_cons hlt,List.map_cons] at h;obtain ⟨h1,h2⟩:=List.cons.inj h;exact ⟨hlt,⟨_,List.getElem?_eq_getElem hlt,h1⟩,h2⟩
theorem Kbj {L:List Kr}:∀ {us:List Tk} {a:Nat} {ts:List Tk},TA L a (us++ts)→TA L (a+us.length) ts
 | [],a,ts,h=>h
 |
  u::us,a,ts,h=>by
  have:=Kbj (K0 h).2.2;rw [List.length_cons,show a+(us.length+1)=a+1+us.length by omega];exact this
theorem KdJ {L:List Kr}{a:Nat}{t:Tk}{ts:List Tk}(h:TA L a (t::ts))(e:Int):∃ x,KaD ⟨L,(a:Int),e⟩=some x∧sk x=t:=by
 obtain ⟨h1,⟨x,h2,h3⟩,_⟩:=K0 h;refine ⟨x,?_,h3⟩;unfold KaD;simp only;rw [decide_eq_false (by omega),cond_false,KcR,h2];rfl
theorem is_ta {L:List Kr}{a:Nat}{t:Tk}{ts:List Tk}(h:TA L a (t::ts))(e:Int)(s:ByteArray):Kbm ⟨L,(a:Int),e⟩ s=some (bif t.1==(3:Int) then decide (t.2.1=s) else false):=by
 obtain ⟨x,h1,h2⟩:=KdJ h e;unfold Kbm;rw [h1,Option.bind_some,← h2];show (bif x.gKind==3 then some (decide (x.gText=s)) else some false)=some (bif x.gKind==3 then decide (x.gText=s) else false)
 cases x.gKind==3<;>rfl
def fol (k:Nat)(ts:List Tk):Prop:=∃ t r,ts=t::r∧(t.1=3→t.2.1 ≠ ⟨#[91]⟩∧∀ j:Nat,k≤j→j < 6→KaB (j:Int) t.2.1=some 0)
theorem fol_of {s:ByteArray}(h:s ≠ ⟨#[91]⟩)(h0:KaB 0 s=some 0)(h1:KaB 1 s=some 0)(h2:KaB 2 s=some 0)(h3:KaB 3 s=some 0)(h4:KaB 4 s=some 0)(h5:KaB 5 s=some 0)(k:Nat)(r:List Tk):fol k ((3,s,0)::r):=by
 refine ⟨_,r,rfl,fun _=>⟨h,fun j _ hj=>?_⟩⟩;have:j=0∨j=1∨j=2∨j=3∨j=4∨j=5:=by omega
 rcases this with rfl|rfl|rfl|rfl|rfl|rfl<;>assumption
theorem fol41 (k:Nat)(r:List Tk):fol k ((3,⟨#[41]⟩,0)::r):=fol_of (by decide) (by kernel_rfl) (by kernel_rfl) (by kernel_rfl) (by kernel_rfl) (by kernel_rfl) (by kernel_rfl) k r
theorem fol93 (k:Nat)(r:List Tk):fol k ((3,⟨#[93]⟩,0)::r):=fol_of (by decide) (by kernel_rfl) (by kernel_rfl) (by kernel_rfl) (by kernel_rfl) (by kernel_rfl) (by kernel_rfl) k r
theorem fol59 (k:Nat)(r:List Tk):fol k ((3,⟨#[59]⟩,0)::r):=fol_of (by decide) (by kernel_rfl) (by kernel_rfl) (by kernel_rfl) (by kernel_rfl) (by kernel_rfl) (by kernel_rfl) k r
theorem fol44 (k:Nat)(r:List Tk):fol k ((3,⟨#[44]⟩,0)::r):=fol_of (by decide) (by kernel_rfl) (by kernel_rfl) (by kernel_rfl) (by kernel_rfl) (by kernel_rfl) (by kernel_rfl) k r
theorem fol_end (k:Nat)(s:ByteArray)(n:Int)(r:List Tk):fol k ((0,s,n)::r):=⟨_,r,rfl,fun h=>by cases h⟩
theorem fol_up {k j:Nat}{ts:List Tk}(h:fol k ts)(hk:k≤j):fol j ts:=by
 obtain ⟨t,r,h1,h2⟩:=h;exact ⟨t,r,h1,fun e=>⟨(h2 e).1,fun i hi=>(h2 e).2 i (by omega)⟩⟩
theorem Kit {op:Int}(h:((List.range 6).all fun j:Nat=>decide (KaB (j:Int) (sgn op)=some (if j=lev op then op else 0)))=true):∀ j:Nat,j < 6→KaB (j:Int) (sgn op)=some (if j=lev op then op else 0):=fun j hj=>of_decide_eq_true (List.all_eq_true.1 h j (List.mem_range.2 hj))
theorem Kg0 {op:Int}(ho:lev op < 6):sgn op ≠ ⟨#[91]⟩∧∀ j:Nat,j < 6→KaB (j:Int) (sgn op)=some (if j=lev op then op else 0):=by
 rcases Kep ho with rfl|rfl|rfl|rfl|rfl|rfl|rfl|rfl|rfl|rfl|rfl;all_goals exact ⟨by decide,Kit (by kernel_rfl)⟩
theorem op_ne {op:Int}(ho:lev op < 6):op ≠ 0:=fun e=>by subst e;revert ho;decide
theorem fol_sgn {op:Int}(ho:lev op < 6)(r:List Tk):fol (lev op+1) ((3,sgn op,0)::r):=by
 obtain ⟨h1,h2⟩:=Kg0 ho;refine ⟨_,r,rfl,fun _=>⟨h1,fun j hj h6=>?_⟩⟩;rw [h2 j h6,if_neg (by omega)]
structure RX (L:List Kr) (a n:Nat) (e:Kc) (q:Kc×Kd):Prop where
 r:q.2=⟨L,((a+n:Nat):Int),0⟩
 s:stE q.1=stE e
 v:VE q.1
theorem Khi {L:List Kr}{p:Int}{x:Kc}(hv:VE x)(hd:dpE x≤24)(a:Int):Kav ⟨L,p,0⟩ x a=some (x,⟨L,p,0⟩):=by
 unfold Kav;show (bif false then _ else (KdD x).bind _)=_
 rw [cond_false,deepV hv (by omega),Option.bind_some,decide_eq_false (by omega),cond_false]
theorem KhB (k:Nat)(e:Kc):tks (pKd k e)=if lev e.gOp < k then (3,⟨#[40]⟩,0)::(tks (pE e)++[(3,⟨#[41]⟩,0)]) else tks (pE e):=by
 show tks (kd k (lev e.gOp,pE e))=_
 unfold kd;split
 ·simp only [tks,K8]
 rfl
theorem tks_bin {op:Int}(ho:lev op < 6)(n:Int)(s:ByteArray)(l r:Kc)(a:Int):tks (pE ⟨op,n,s,[l,r],a⟩)=tks (pKd (lev op) l)++((3,sgn op,0)::tks (pKd (lev op+1) r)):=by
 rw [pE_bin ho,K8];simp only [tks]
theorem spine {g0:Kd→Int→Option (Kc×Kd)}{k:Nat}(hk:k < 6){L:List Kr}(hL:L.length≤5000){F:List Kr×Int×Int×Int×Int×ByteArray×List Kc×Int→Option (Step (List Kr×Int×Int×Int×Int×ByteArray×List Kc×Int) (List Kr×Int×Int×Int×Int×ByteArray×List Kc×Int))}
  (hF:∀ s51,F s51=(bif (s51.2.2.1==(0:Int)) then ((KaD (⟨s51.1,s51.2.1,s51.2.2.1⟩:Kd)).bind fun x79=>(Option.bind (α:=Int) (bif (x79.gKind==(3:Int)) then ((KaB (k:Int) x79.gText).bind fun x85=>some x85) else some (0:Int)) fun y83=>(bif (y83==(0:Int)) then some (.done (s51.1,s51.2.1,s51.2.2.1,s51.2.2.2.1,s51.2.2.2.2.1,s51.2.2.2.2.2.1,s51.2.2.2.2.2.2.1,s51.2.2.2.2.2.2.2)) else ((g0 (⟨s51.1,(IntKind.i64.wrap (s51.2.1+(1:Int))),s51.2.2.1⟩:Kd) (IntKind.i64.wrap ((k:Int)+(1:Int)))).bind fun x87=>((Kav x87.2 (⟨y83,(0:Int),ByteArray.empty,([(⟨s51.2.2.2.1,s51.2.2.2.2.1,s51.2.2.2.2.2.1,s51.2.2.2.2.2.2.1,s51.2.2.2.2.2.2.2⟩:Kc),x87.1]:List Kc),x79.gAt⟩:Kc) s51.2.1).bind fun x89=>some (.next (x89.2.gL,x89.2.gAt,x89.2.gE,x89.1.gOp,x89.1.gN,x89.1.gName,x89.1.gKids,x89.1.gAt))))))) else some (.done (s51.1,s51.2.1,s51.2.2.1,s51.2.2.2.1,s51.2.2.2.2.1,s51.2.2.2.2.2.1,s51.2.2.2.2.2.2.1,s51.2.2.2.2.2.2.2))))
  {β:Type} {G:List Kr×Int×Int×Int×Int×ByteArray×List Kc×Int→Option β} {Q:β→Prop} {n0:Nat}
  (hR:∀ (a:Nat) (e:Kc) (ts:List Tk),n0≤a→VE e→dpE e≤24→TA L a (tks (pKd (k+1) e)++ts)→fol (k+1) ts→T (g0 ⟨L,(a:Int),0⟩ (IntKind.i64.wrap ((k:Int)+(1:Int)))) (RX L a (tks (pKd (k+1) e)).length e))
  {e:Kc} (hv:VE e):∀ (a:Nat) (ts:List Tk),n0≤a→dpE e≤24→TA L a (tks (pKd k e)++ts)→fol (k+1) ts →
   (∀ x:Kc,stE x=stE e→VE x→T (Option.bind (loopM F (L,((a+(tks (pKd k e)).length:Nat):Int),0,x.gOp,x.gN,x.gName,x.gKids,x.gAt)) G) Q) →
   T ((g0 ⟨L,(a:Int),0⟩ (IntKind.i64.wrap ((k:Int)+(1:Int)))).bind fun x7=>Option.bind (loopM F (x7.2.gL,x7.2.gAt,x7.2.gE,x7.1.gOp,x7.1.gN,x7.1.gName,x7.1.gKids,x7.1.gAt)) G) Q:=by
 have direct:∀ e:Kc,VE e→lev e.gOp ≠ k→∀ (a:Nat) (ts:List Tk),n0≤a→dpE e≤24→TA L a (tks (pKd k e)++ts)→fol (k+1) ts →
   (∀ x:Kc,stE x=stE e→VE x→T (Option.bind (loopM F (L,((a+(tks (pKd k e)).length:Nat):Int),0,x.gOp,x.gN,x.gName,x.gKids,x.gAt)) G) Q) →
   T ((g0 ⟨L,(a:Int),0⟩ (IntKind.i64.wrap ((k:Int)+(1:Int)))).bind fun x7=>Option.bind (loopM F (x7.2.gL,x7.2.gAt,x7.2.gE,x7.1.gOp,x7.1.gN,x7.1.gName,x7.1.gKids,x7.1.gAt)) G) Q:=by
  intro e hv hne a ts ha hd hta hf hq;have hkd:pKd (k+1) e=pKd k e:=kd_up (x:=(lev e.gOp,pE e)) hne;have h1:=hR a e ts ha hv hd (by rw [hkd];exact hta) hf;rw [hkd] at h1;refine T.bind h1 fun r hr=>?_
  rw [hr.r];exact hq r.1 hr.s hr.v
 induction hv with
 |
  bin op l r at_ ho hl hr ih1 ih2=>
  by_cases hlev:lev op=k
  ·intro a ts ha hd hta hf hq;subst hlev;have hown:pKd (lev op) ⟨op,0,ByteArray.empty,[l,r],at_⟩=pE ⟨op,0,ByteArray.empty,[l,r],at_⟩:=kd_own (Nat.le_refl _);rw [hown,tks_bin ho,List.append_assoc,List.cons_append] at hta;rw [hown,tks_bin ho] at hq;rw [dp2] at hd;refine ih1 a _ ha (by omega) hta (fol_sgn ho _) fun x hx hxv=>?_
   have hta1:=Kbj hta;generalize hp:a+(tks (pKd (lev op) l)).length=p at *;obtain ⟨t,ht1,ht2⟩:=KdJ hta1 0;have hta2:=(K0 hta1).2.2;have hplt:=(K0 hta1).1;obtain ⟨r',hr1,hr2⟩:=hR (p+1) r ts (by omega) hr (by omega) hta2 hf;have hk3:t.gKind=3:=congrArg Prod.fst ht2;have htx:t.gText=sgn op:=congrArg (fun t:Tk=>t.2.1) ht2;have hbt:=(Kg0 ho).2 (lev op) hk;rw [if_pos rfl] at hbt;have hnv:VE ⟨op,0,ByteArray.empty,[⟨x.gOp,x.gN,x.gName,x.gKids,x.gAt⟩,r'.1],t.gAt⟩:=by rw [xeta];exact .bin _ _ _ _ ho hxv hr2.v
   have hnd:dpE ⟨op,0,ByteArray.empty,[⟨x.gOp,x.gN,x.gName,x.gKids,x.gAt⟩,r'.1],t.gAt⟩≤24:=by rw [xeta,dp2,KgM hx,KgM hr2.s];omega
   have hstep:F (L,(p:Int),0,x.gOp,x.gN,x.gName,x.gKids,x.gAt)=some (.next (L,((p+1+(tks (pKd (lev op+1) r)).length:Nat):Int),0,op,0,ByteArray.empty,[x,r'.1],t.gAt)):=by
    rw [hF];simp only;rw [show ((0:Int)==0)=true from rfl,cond_true,ht1,Option.bind_some,hk3,show ((3:Int)==3)=true from rfl,cond_true,htx,hbt,Option.bind_some,Option.bind_some,show (op==0)=false from beq_eq_false_iff_ne.2 (op_ne ho),cond_false,wn (by omega),hr1,Option.bind_some,hr2.r,Khi hnv hnd,Option.bind_some,xeta]
   rw [KdT hstep];have:=hq ⟨op,0,ByteArray.empty,[x,r'.1],t.gAt⟩ (by simp only [stE,stEs,hx,hr2.s]) (.bin _ _ _ _ ho hxv hr2.v);rw [List.length_append,List.length_cons,show a+((tks (pKd (lev op) l)).length+((tks (pKd (lev op+1) r)).length+1))=p+1+(tks (pKd (lev op+1) r)).length by omega] at this;exact this
  exact direct _ (.bin op l r at_ ho hl hr) hlev
 | num n a h0 h1=>exact direct _ (.num n a h0 h1) (by show 6 ≠ k;omega)
 | var s a h=>exact direct _ (.var s a h) (by show 6 ≠ k;omega)
 | null a=>exact direct _ (.null a) (by show 6 ≠ k;omega)
 | load s a h=>exact direct _ (.load s a h) (by show 6 ≠ k;omega)
 | addr s a h=>exact direct _ (.addr s a h) (by show 6 ≠ k;omega)
 | index s k' a h hk'=>exact direct _ (.index s k' a h hk') (by show 6 ≠ k;omega)
 | addrAt s k' a h hk'=>exact direct _ (.addrAt s k' a h hk') (by show 6 ≠ k;omega)
 | neg k' a hk'=>exact direct _ (.neg k' a hk') (by show 6 ≠ k;omega)
 | not k' a hk'=>exact direct _ (.not k' a hk') (by show 6 ≠ k;omega)
end
section
open Go
set_option linter.all false
theorem par_tks {k:Nat}{e:Kc}(h:lev e.gOp < k):tks (pKd k e)=(3,⟨#[40]⟩,0)::(tks (pE e)++[(3,⟨#[41]⟩,0)]):=by rw [KhB,if_pos h]
theorem KcX {k:Nat}{e:Kc}(h:k≤lev e.gOp):tks (pKd k e)=tks (pE e):=by rw [KhB,if_neg (by omega)]
theorem name_ta {L:List Kr}{a:Nat}{s:ByteArray}{n:Int}{ts:List Tk}(hL:L.length≤5000)(h:TA L a ((1,s,n)::ts)):KaW ⟨L,(a:Int),0⟩=some (s,⟨L,((a+1:Nat):Int),0⟩):=by
 obtain ⟨x,h1,h2⟩:=KdJ h 0;have hlt:=(K0 h).1;have hk:x.gKind=1:=congrArg Prod.fst h2;have ht:x.gText=s:=congrArg (fun t:Tk=>t.2.1) h2;unfold KaW;rw [h1,Option.bind_some,hk,ht];show some (s,(⟨L,IntKind.i64.wrap ((a:Int)+1),0⟩:Kd))=_
 rw [wn (by omega)]
theorem eat_ta {L:List Kr}{a:Nat}{s:ByteArray}{n:Int}{ts:List Tk}(hL:L.length≤5000)(h:TA L a ((3,s,n)::ts)):Kbs ⟨L,(a:Int),0⟩ s=some ⟨L,((a+1:Nat):Int),0⟩:=by
 have hlt:=(K0 h).1;unfold Kbs;rw [is_ta h 0 s];show (Option.bind (some (decide (s=s))) _)=_
 rw [decide_eq_true rfl,Option.bind_some];show some (⟨L,IntKind.i64.wrap ((a:Int)+1),0⟩:Kd)=_
 rw [wn (by omega)]
theorem rt {L:List Kr}(hL:L.length≤5000):∀ N:Nat,
  (∀ (a k:Nat) (e:Kc) (ts:List Tk),VE e→dpE e≤24→k≤6→TA L a (tks (pKd k e)++ts)→fol k ts→12*(L.length+1 - a)+(8 - k)≤N→T ((PG N).1 ⟨L,(a:Int),0⟩ (k:Int)) (RX L a (tks (pKd k e)).length e)) ∧
  (∀ (a:Nat) (e:Kc) (ts:List Tk),VE e→dpE e≤24→TA L a (tks (pKd 6 e)++ts)→fol 6 ts→12*(L.length+1 - a)+1≤N→T ((PG N).2.1 ⟨L,(a:Int),0⟩) (RX L a (tks (pKd 6 e)).length e)) ∧
  (∀ (a:Nat) (x:Kc) (k at_:Int) (ts:List Tk),TA L a ts→fol 6 ts→1≤N→T ((PG N).2.2.1 ⟨L,(a:Int),0⟩ x k at_) fun r=>r=(x,⟨L,(a:Int),0⟩)) ∧
  (∀ (a:Nat) (o:Int) (s:ByteArray) (p k at_:Int) (e:Kc) (ts:List Tk),NmOK s→(k=3∨k=20)→VE e→dpE e≤23→TA L a ((3,⟨#[91]⟩,0)::(tks (pE e)++((3,⟨#[93]⟩,0)::ts)))→12*(L.length+1 - a)+1≤N→T ((PG N).2.2.1 ⟨L,(a:Int),0⟩ ⟨o,0,s,[],p⟩ k at_) fun r=>r.2=⟨L,((a+((tks (pE e)).length+2):Nat):Int),0⟩∧stE r.1=⟨k,0,s,[stE e],0⟩∧VE r.1) ∧
  (∀ (a:Nat) (e:Kc) (s:ByteArray) (ts:List Tk),(s=⟨#[41]⟩∨s=⟨#[93]⟩)→VE e→dpE e≤24→TA L a (tks (pE e)++((3,s,0)::ts))→12*(L.length+1 - a)+9≤N→T ((PG N).2.2.2.1 ⟨L,(a:Int),0⟩ s) (RX L a ((tks (pE e)).length+1) e)) ∧
  (∀ (a:Nat) (e:Kc) (t:Kr) (tl ts:List Tk) (at_:Int),VE e→dpE e≤24→tks (pKd 6 e)=sk t::tl→t.gKind=3→TA L a (tl++ts)→fol 6 ts→12*(L.length+1 - a)+10≤N→T ((PG N).2.2.2.2 ⟨L,(a:Int),0⟩ t at_) (RX L a tl.length e))
 | 0=>⟨fun _ _ _ _ _ _ _ _ _ h=>by omega,fun _ _ _ _ _ _ _ h=>by omega,fun _ _ _ _ _ _ _ h=>by omega,fun _ _ _ _ _ _ _ _ _ _ _ _ _ h=>by omega,fun _ _ _ _ _ _ _ _ h=>by omega,fun _ _ _ _ _ _ _ _ _ _ _ _ h=>by omega⟩
 |
  N+1=>by
  obtain ⟨iR,iU,i0,i1,iA,iS⟩:=rt hL N;refine ⟨fun a k e ts hv hd hk hta hf hN=>?_,fun a e ts hv hd hta hf hN=>?_,fun a x k at_ ts hta hf hN=>?_,fun a o s p k at_ e ts hs hk hv hd hta hN=>?_,fun a e s ts hs hv hd hta hN=>?_,fun a e t tl ts at_ hv hd ht hk hta hf hN=>?_⟩
  ·show T (KaO (PG N).1 (PG N).2.1 (PG N).2.2.1 (PG N).2.2.2.1 (PG N).2.2.2.2 ⟨L,(a:Int),0⟩ (k:Int)) _
   unfold KaO;refine T.cond (fun h=>?_) fun h=>?_
   ·have:k=6:=by
         have:(k:Int)=6:=by simpa using h
         omega
    subst this;exact T.bind (iU a e ts hv hd hta hf (by omega)) fun r hr=>T.ret hr
   have hk6:k < 6:=by
    have:¬ (k:Int)=6:=by simpa using h
    omega
   refine spine hk6 hL (fun _=>rfl) (n0:=a) (fun a' e' ts' ha' hv' hd' hta' hf'=>?_) hv a ts (Nat.le_refl _) hd hta (fol_up hf (by omega)) fun x hx hxv=>?_
   ·rw [wn (by omega)];exact iR a' (k+1) e' ts' hv' hd' (by omega) hta' hf' (by omega)
   have hta1:=Kbj hta;obtain ⟨t,r,h1,h2⟩:=hf;rw [h1] at hta1;obtain ⟨y,y1,y2⟩:=KdJ hta1 0;refine T.bind (P:=fun s=>s=(L,((a+(tks (pKd k e)).length:Nat):Int),0,x.gOp,x.gN,x.gName,x.gKids,x.gAt)) (T.eq (KdS ?_) rfl) fun s hs=>T.ret ?_
   ·simp only;rw [show ((0:Int)==0)=true from rfl,cond_true,y1,Option.bind_some];have hy:(bif (y.gKind==(3:Int)) then ((KaB (k:Int) y.gText).bind fun x85=>some x85) else some (0:Int))=some 0:=by
     cases h3:y.gKind==3 with
     | false=>rfl
     |
      true=>
      have hk3:t.1=3:=by rw [← y2];simpa [sk] using h3
      have htx:y.gText=t.2.1:=by rw [← y2];rfl
      rw [cond_true,htx,(h2 hk3).2 k (Nat.le_refl _) hk6];rfl
    rw [hy];rfl
   subst hs;exact ⟨rfl,by simp only;rw [xeta];exact hx,by simp only;rw [xeta];exact hxv⟩
  ·show T (KaI (PG N).1 (PG N).2.1 (PG N).2.2.1 (PG N).2.2.2.1 (PG N).2.2.2.2 ⟨L,(a:Int),0⟩) _
   unfold KaI
   have mark:∀ (s:ByteArray) (tl:List Tk),tks (pKd 6 e)=(3,s,0)::tl→T ((KaD (⟨L,(a:Int),0⟩:Kd)).bind fun x2=>(bif ((0:Int) != (0:Int)) then some (qZ1,(⟨L,(a:Int),0⟩:Kd)) else (bif (x2.gKind==(2:Int)) then some ((⟨(1:Int),x2.gN,ByteArray.empty,[],x2.gAt⟩:Kc),(⟨L,(IntKind.i64.wrap ((a:Int)+(1:Int))),0⟩:Kd)) else (bif (x2.gKind==(1:Int)) then (((PG N).2.2.1 (⟨L,(IntKind.i64.wrap ((a:Int)+(1:Int))),0⟩:Kd) (⟨(2:Int),(0:Int),x2.gText,[],x2.gAt⟩:Kc) (3:Int) (a:Int)).bind fun x24=>some (x24.1,x24.2)) else (bif (x2.gKind==(3:Int)) then (((PG N).2.2.2.2 (⟨L,(IntKind.i64.wrap ((a:Int)+(1:Int))),0⟩:Kd) x2 (a:Int)).bind fun x29=>some (x29.1,x29.2)) else ((KaE (⟨L,(IntKind.i64.wrap ((a:Int)+(1:Int))),0⟩:Kd) (a:Int) (3:Int)).bind fun x31=>some (qZ1,x31))))))) (RX L a (tks (pKd 6 e)).length e):=fun s tl h=>by
    rw [h,List.cons_append] at hta;obtain ⟨x,h1,h2⟩:=KdJ hta 0;obtain ⟨hlt,_,hta2⟩:=K0 hta;have hk:x.gKind=3:=congrArg Prod.fst h2;rw [h1,Option.bind_some,hk,wn (by omega)];refine T.bind (iS (a+1) e x tl ts (a:Int) hv hd (by rw [h,h2]) hk hta2 hf (by omega)) fun r hr=>T.ret ?_
    refine ⟨?_,hr.s,hr.v⟩;show r.2=_
    rw [hr.r,h,List.length_cons,show a+1+tl.length=a+(tl.length+1) by omega]
   cases hv with
   |
    num n p h0 h1=>
    have htk:tks (pKd 6 ⟨1,n,ByteArray.empty,[],p⟩)=[(2,itoaB n,n)]:=rfl;rw [htk] at hta ⊢;obtain ⟨x,x1,x2⟩:=KdJ hta 0;have hlt:=(K0 hta).1;have hk:x.gKind=2:=congrArg Prod.fst x2;have hn:x.gN=n:=congrArg (fun t:Tk=>t.2.2) x2;rw [x1,Option.bind_some,hk,hn];refine T.ret ⟨?_,rfl,.num _ _ h0 h1⟩;show (⟨L,IntKind.i64.wrap ((a:Int)+1),0⟩:Kd)=_
    rw [wn (by omega)];rfl
   |
    var s p h=>
    have htk:tks (pKd 6 ⟨2,0,s,[],p⟩)=[(1,s,0)]:=rfl;rw [htk] at hta ⊢;obtain ⟨x,x1,x2⟩:=KdJ hta 0;obtain ⟨hlt,_,hta2⟩:=K0 hta;have hk:x.gKind=1:=congrArg Prod.fst x2;have hn:x.gText=s:=congrArg (fun t:Tk=>t.2.1) x2;rw [x1,Option.bind_some,hk,hn];show T (((PG N).2.2.1 ⟨L,IntKind.i64.wrap ((a:Int)+1),0⟩ ⟨2,0,s,[],x.gAt⟩ 3 (a:Int)).bind _) _
    rw [wn (by omega)];refine T.bind (i0 (a+1) _ _ _ ts hta2 hf (by omega)) fun r hr=>T.ret ?_
    subst hr;exact ⟨rfl,rfl,.var _ _ h⟩
   |
    index s k p h hk'=>
    have htk:tks (pKd 6 ⟨3,0,s,[k],p⟩)=(1,s,0)::(3,⟨#[91]⟩,0)::(tks (pE k)++[(3,⟨#[93]⟩,0)]):=by
     rw [KcX (Nat.le_refl 6)];show tks (nm s::mk ⟨#[91]⟩::(pE k++[mk ⟨#[93]⟩]))=_
     simp only [tks,K8]
    rw [htk] at hta ⊢;simp only [List.cons_append,List.append_assoc,List.nil_append] at hta;rw [dp1] at hd;obtain ⟨x,x1,x2⟩:=KdJ hta 0;obtain ⟨hlt,_,hta2⟩:=K0 hta;have hk:x.gKind=1:=congrArg Prod.fst x2;have hn:x.gText=s:=congrArg (fun t:Tk=>t.2.1) x2;rw [x1,Option.bind_some,hk,hn];show T (((PG N).2.2.1 ⟨L,IntKind.i64.wrap ((a:Int)+1),0⟩ ⟨2,0,s,[],x.gAt⟩ 3 (a:Int)).bind _) _
    rw [wn (by omega)];refine T.bind (i1 (a+1) 2 s x.gAt 3 (a:Int) k ts h (.inl rfl) hk' (by omega) hta2 (by omega)) fun r hr=>T.ret ?_
    obtain ⟨r1,r2,r3⟩:=hr;refine ⟨?_,by simp only;rw [r2];simp only [stE,stEs],r3⟩;show r.2=_
    rw [r1];simp only [List.length_cons,List.length_append,List.length_nil];rw [show a+1+((tks (pE k)).length+2)=a+((tks (pE k)).length+(0+1)+1+1) by omega]
   | bin op l r p ho hl hr=>exact mark _ _ (par_tks ho)
   | null p=>exact mark _ _ rfl
   | load s p h=>exact mark _ _ rfl
   | addr s p h=>exact mark _ _ rfl
   |
    addrAt s k p h hk'=>
    refine mark ⟨#[38]⟩ ((1,s,0)::(3,⟨#[91]⟩,0)::(tks (pE k)++[(3,⟨#[93]⟩,0)])) ?_;rw [KcX (Nat.le_refl 6)];show tks (mk ⟨#[38]⟩::nm s::mk ⟨#[91]⟩::(pE k++[mk ⟨#[93]⟩]))=_
    simp only [tks,K8]
   | neg k p hk'=>exact mark ⟨#[45]⟩ (tks (pKd 6 k)) (KcX (Nat.le_refl 6))
   | not k p hk'=>exact mark ⟨#[33]⟩ (tks (pKd 6 k)) (KcX (Nat.le_refl 6))
  ·show T (Kam (PG N).1 (PG N).2.1 (PG N).2.2.1 (PG N).2.2.2.1 (PG N).2.2.2.2 ⟨L,(a:Int),0⟩ x k at_) _
   unfold Kam;obtain ⟨t,r,h1,h2⟩:=hf;rw [h1] at hta;have his:(bif t.1==(3:Int) then decide (t.2.1=(⟨#[91]⟩:ByteArray)) else false)=false:=by
    cases h3:t.1==3 with
    | false=>rfl
    | true=>exact decide_eq_false (h2 (by simpa using h3)).1
   show T (Option.bind ((Kbm ⟨L,(a:Int),0⟩ qZ9).bind fun x7=>some (!x7)) _) _
   rw [is_ta hta 0,his];exact T.ret rfl
  ·show T (Kam (PG N).1 (PG N).2.1 (PG N).2.2.1 (PG N).2.2.2.1 (PG N).2.2.2.2 ⟨L,(a:Int),0⟩ ⟨o,0,s,[],p⟩ k at_) _
   unfold Kam;obtain ⟨hlt,_,hta2⟩:=K0 hta;show T (Option.bind ((Kbm ⟨L,(a:Int),0⟩ qZ9).bind fun x7=>some (!x7)) _) _
   rw [is_ta hta 0];show T (((PG N).2.2.2.1 ⟨L,IntKind.i64.wrap ((a:Int)+1),0⟩ qZ14).bind fun x11=>((Kav x11.2 (⟨k,0,s,([x11.1]:List Kc),p⟩:Kc) at_).bind fun x12=>some (x12.1,x12.2))) _
   rw [wn (by omega)];refine T.bind (iA (a+1) e _ ts (.inr rfl) hv (by omega) hta2 (by omega)) fun r hr=>?_
   have hnv:VE ⟨k,0,s,[r.1],p⟩:=by
    rcases hk with rfl|rfl
    ·exact .index _ _ _ hs hr.v
    exact .addrAt _ _ _ hs hr.v
   rw [hr.r,Khi hnv (by rw [dp1,KgM hr.s];omega)];refine T.ret ⟨?_,by simp only [stE,stEs,hr.s],hnv⟩;show (⟨L,_,0⟩:Kd)=_
   rw [show a+1+((tks (pE e)).length+1)=a+((tks (pE e)).length+2) by omega]
  ·show T (KaP (PG N).1 (PG N).2.1 (PG N).2.2.1 (PG N).2.2.2.1 (PG N).2.2.2.2 ⟨L,(a:Int),0⟩ s) _
   unfold KaP;have h0:tks (pKd 0 e)=tks (pE e):=KcX (Nat.zero_le _);have hf:fol 0 ((3,s,0)::ts):=by
    rcases hs with rfl|rfl
    ·exact fol41 _ _
    exact fol93 _ _
   have h1:=iR a 0 e _ hv hd (by omega) (by rw [h0];exact hta) hf (by omega);rw [h0] at h1;refine T.bind h1 fun r hr=>?_
   have hta1:=Kbj hta;rw [hr.r];refine T.cond (fun _=>?_) fun h=>by cases h
   rw [eat_ta hL hta1];exact T.ret ⟨rfl,hr.s,hr.v⟩
  show T (KaJ (PG N).1 (PG N).2.1 (PG N).2.2.1 (PG N).2.2.2.1 (PG N).2.2.2.2 ⟨L,(a:Int),0⟩ t at_) _
  unfold KaJ
  have un:∀ (s:ByteArray) (op:Int) (k:Kc),(s=⟨#[45]⟩∧op=5∨s=⟨#[33]⟩∧op=6)→t.gText=s→VE k→dpE k≤23→tl=tks (pKd 6 k)→stE e=⟨op,0,ByteArray.empty,[stE k],0⟩→T (Option.bind (α:=Bool) (bif (decide (t.gText=qZ13)) then some (decide (t.gText=qZ13)) else some (decide (t.gText=qZ19))) fun y19=>(bif y19 then ((KbB t.gText qZ13 (5:Int) qZ19 (6:Int)).bind fun x34=>(((PG N).2.1 ⟨L,(a:Int),0⟩).bind fun x35=>((Kav x35.2 (⟨x34,(0:Int),ByteArray.empty,([x35.1]:List Kc),t.gAt⟩:Kc) at_).bind fun x36=>some (x36.1,x36.2)))) else (bif (decide (t.gText=qZ10)) then ((KaW ⟨L,(a:Int),0⟩).bind fun x47=>some ((⟨(4:Int),(0:Int),x47.1,[],t.gAt⟩:Kc),x47.2)) else (bif (decide (t.gText=(ByteArray.mk #[38]))) then ((KaW ⟨L,(a:Int),0⟩).bind fun x56=>(((PG N).2.2.1 x56.2 (⟨(19:Int),(0:Int),x56.1,[],t.gAt⟩:Kc) (20:Int) at_).bind fun x57=>some (x57.1,x57.2))) else (bif (decide (t.gText=(ByteArray.mk #[110,117,108,108]))) then some ((⟨(18:Int),(0:Int),ByteArray.empty,[],t.gAt⟩:Kc),⟨L,(a:Int),0⟩) else (bif (decide (t.gText=qZ3)) then (((PG N).2.2.2.1 ⟨L,(a:Int),0⟩ qZ5).bind fun x67=>some (x67.1,x67.2)) else ((KaE ⟨L,(a:Int),0⟩ at_ (3:Int)).bind fun x69=>some (qZ1,x69)))))))) (RX L a tl.length e):=fun s op k hs htx hkv hkd htl hst=>by
   subst htl;have key:∀ b:Bool,b=true→KbB t.gText qZ13 (5:Int) qZ19 (6:Int)=some op→T (bif b then ((KbB t.gText qZ13 (5:Int) qZ19 (6:Int)).bind fun x34=>(((PG N).2.1 ⟨L,(a:Int),0⟩).bind fun x35=>((Kav x35.2 (⟨x34,(0:Int),ByteArray.empty,([x35.1]:List Kc),t.gAt⟩:Kc) at_).bind fun x36=>some (x36.1,x36.2)))) else none) (RX L a (tks (pKd 6 k)).length e):=fun b hb hp=>by
    rw [hb,cond_true,hp,Option.bind_some];refine T.bind (iU a k ts hkv (by omega) hta hf (by omega)) fun r hr=>?_
    have hnv:VE ⟨op,0,ByteArray.empty,[r.1],t.gAt⟩:=by
     rcases hs with ⟨_,rfl⟩|⟨_,rfl⟩
     ·exact .neg _ _ hr.v
     exact .not _ _ hr.v
    rw [hr.r,Khi hnv (by rw [dp1,KgM hr.s];omega)];exact T.ret ⟨rfl,by rw [hst];simp only [stE,stEs,hr.s],hnv⟩
   rcases hs with ⟨rfl,rfl⟩|⟨rfl,rfl⟩
   ·rw [htx] at key ⊢;have:=key true rfl (by kernel_rfl);exact this
   rw [htx] at key ⊢;have:=key true rfl (by kernel_rfl);exact this
  have no:∀ {s:ByteArray} (h1:t.gText=s) {s':ByteArray},s ≠ s'→decide (t.gText=s')=false:=by
   intro s h1 s' h2;exact decide_eq_false (by rw [h1];exact h2)
  cases hv with
  |
   num n p h0 h1=>
   have:(2,itoaB n,n)=sk t:=(List.cons.inj ht).1;have:t.gKind=2:=(congrArg Prod.fst this).symm;omega
  |
   var s p h=>
   have:(1,s,(0:Int))=sk t:=(List.cons.inj ht).1;have:t.gKind=1:=(congrArg Prod.fst this).symm;omega
  |
   index s k p h hk'=>
   rw [KcX (Nat.le_refl 6)] at ht;have:(1,s,(0:Int))=sk t:=(List.cons.inj ht).1;have:t.gKind=1:=(congrArg Prod.fst this).symm;omega
  |
   bin op l r p ho hl hr=>
   rw [par_tks ho] at ht;obtain ⟨h1,h2⟩:=List.cons.inj ht;have htx:t.gText=⟨#[40]⟩:=(congrArg (fun t:Tk=>t.2.1) h1).symm;subst h2;rw [no htx (by decide),cond_false,no htx (by decide),Option.bind_some,cond_false,no htx (by decide),cond_false,no htx (by decide),cond_false,no htx (by decide),cond_false,decide_eq_true htx,cond_true];rw [List.append_assoc] at hta;refine T.bind (iA a _ _ ts (.inl rfl) (.bin op l r p ho hl hr) hd hta (by omega)) fun q hq=>T.ret ?_
   rw [List.length_append];exact hq
  |
   null p=>
   obtain ⟨h1,h2⟩:=List.cons.inj ht;have htx:t.gText=⟨#[110,117,108,108]⟩:=(congrArg (fun t:Tk=>t.2.1) h1).symm;subst h2;rw [no htx (by decide),cond_false,no htx (by decide),Option.bind_some,cond_false,no htx (by decide),cond_false,no htx (by decide),cond_false,decide_eq_true htx,cond_true];exact T.ret ⟨rfl,rfl,.null _⟩
  |
   load s p h=>
   obtain ⟨h1,h2⟩:=List.cons.inj ht;have htx:t.gText=⟨#[42]⟩:=(congrArg (fun t:Tk=>t.2.1) h1).symm;subst h2;rw [no htx (by decide),cond_false,no htx (by decide),Option.bind_some,cond_false,decide_eq_true htx,cond_true,name_ta hL hta];exact T.ret ⟨rfl,rfl,.load _ _ h⟩
  |
   addr s p h=>
   obtain ⟨h1,h2⟩:=List.cons.inj ht;have htx:t.gText=⟨#[38]⟩:=(congrArg (fun t:Tk=>t.2.1) h1).symm;subst h2;rw [no htx (by decide),cond_false,no htx (by decide),Option.bind_some,cond_false,no htx (by decide),cond_false,decide_eq_true htx,cond_true,name_ta hL hta,Option.bind_some];refine T.bind (i0 (a+1) _ _ _ ts (K0 hta).2.2 hf (by omega)) fun r hr=>T.ret ?_
   subst hr;exact ⟨rfl,rfl,.addr _ _ h⟩
  |
   addrAt s k p h hk'=>
   rw [KcX (Nat.le_refl 6),show tks (pE ⟨20,0,s,[k],p⟩)=(3,⟨#[38]⟩,0)::(1,s,0)::(3,⟨#[91]⟩,0)::(tks (pE k)++[(3,⟨#[93]⟩,0)]) by
    show tks (mk ⟨#[38]⟩::nm s::mk ⟨#[91]⟩::(pE k++[mk ⟨#[93]⟩]))=_
    simp only [tks,K8]] at ht
   obtain ⟨h1,h2⟩:=List.cons.inj ht;have htx:t.gText=⟨#[38]⟩:=(congrArg (fun t:Tk=>t.2.1) h1).symm;subst h2;simp only [List.cons_append,List.append_assoc,List.nil_append] at hta;rw [dp1] at hd;rw [no htx (by decide),cond_false,no htx (by decide),Option.bind_some,cond_false,no htx (by decide),cond_false,decide_eq_true htx,cond_true,name_ta hL hta,Option.bind_some];have hlt:=(K0 hta).1;refine T.bind (i1 (a+1) 19 s t.gAt 20 at_ k ts h (.inr rfl) hk' (by omega) (K0 hta).2.2 (by omega)) fun r hr=>T.ret ?_
   obtain ⟨r1,r2,r3⟩:=hr;refine ⟨?_,by simp only;rw [r2];simp only [stE,stEs],r3⟩;show r.2=_
   rw [r1];simp only [List.length_cons,List.length_append,List.length_nil];rw [show a+1+((tks (pE k)).length+2)=a+((tks (pE k)).length+(0+1)+1+1) by omega]
  |
   neg k p hk'=>
   rw [KcX (Nat.le_refl 6)] at ht;obtain ⟨h1,h2⟩:=List.cons.inj (show (3,(⟨#[45]⟩:ByteArray),(0:Int))::tks (pKd 6 k)=sk t::tl from ht);rw [dp1] at hd;exact un ⟨#[45]⟩ 5 k (.inl ⟨rfl,rfl⟩) (congrArg (fun t:Tk=>t.2.1) h1).symm hk' (by omega) h2.symm (by simp only [stE,stEs])
  |
   not k p hk'=>
   rw [KcX (Nat.le_refl 6)] at ht;obtain ⟨h1,h2⟩:=List.cons.inj (show (3,(⟨#[33]⟩:ByteArray),(0:Int))::tks (pKd 6 k)=sk t::tl from ht);rw [dp1] at hd;exact un ⟨#[33]⟩ 6 k (.inr ⟨rfl,rfl⟩) (congrArg (fun t:Tk=>t.2.1) h1).symm hk' (by omega) h2.symm (by simp only [stE,stEs])
theorem expr_ta {L:List Kr}(hL:L.length≤5000){a:Nat}{e:Kc}{ts:List Tk}(hv:VX e)(hta:TA L a (tks (pE e)++ts))(hf:fol 0 ts):T (Kb2 L (a:Int)) fun r=>r.2=(((a+(tks (pE e)).length:Nat):Int),0)∧stE r.1=stE e∧VE r.1:=by
 have h0:tks (pKd 0 e)=tks (pE e):=KcX (Nat.zero_le _);have hle:a≤L.length:=by
  obtain ⟨t,r,h1,_⟩:=hf;have:=Kbj hta;rw [h1] at this;have:=(K0 this).1;omega
 obtain ⟨r,h1,h2⟩:=(rt hL (12*(L.length+1 - a)+8)).1 a 0 e ts hv.1 hv.2 (by omega) (by rw [h0];exact hta) hf (Nat.le_refl _);rw [h0] at h2;have h1':=Kd3 _ _ _ h1;unfold Kb2;refine T.bind (P:=fun b=>b=false) (T.cond (fun h=>?_) fun _=>T.ret (decide_eq_false (by omega))) fun b hb=>?_
 ·have:=of_decide_eq_true h;omega
 subst hb;rw [cond_false,show KcC (⟨L,(a:Int),0⟩:Kd) 0=_ from h1',Option.bind_some,h2.r];exact T.ret ⟨rfl,h2.s,h2.v⟩
end
section
open Go
set_option linter.all false
abbrev Gr (L:List Kr)(a:Nat)(v o:Int):Ka:=⟨L,(a:Int),0,v,o⟩
theorem ta_lt {L:List Kr}{a:Nat}{t:Tk}{ts:List Tk}(h:TA L a (t::ts)):a < L.length:=(K0 h).1
section
variable {L : List Kr} {a : Nat} {v o : Int} (hL : L.length ≤ 5000)
include hL
theorem Kdf {t:Tk}{ts:List Tk}(h:TA L a (t::ts)):∃ x,KZ (Gr L a v o) 0=some x∧sk x=t:=by
 obtain ⟨h1,⟨x,h2,h3⟩,_⟩:=K0 h;refine ⟨x,?_,h3⟩;unfold KZ;have hw:IntKind.i64.wrap ((a:Int)+0)=(a:Int):=by rw [IntKind.wrap_i64];omega
 show (bif decide ((L.length:Int)≤IntKind.i64.wrap ((a:Int)+0)) then _ else (idx L (IntKind.i64.wrap ((a:Int)+0))).bind fun x5=>some x5)=_
 rw [hw,decide_eq_false (by omega),cond_false,KcR,h2];rfl
theorem glook1_ta {t u:Tk}{ts:List Tk}(h:TA L a (t::u::ts)):∃ x,KZ (Gr L a v o) 1=some x∧sk x=u:=by
 obtain ⟨h1,⟨x,h2,h3⟩,_⟩:=K0 (K0 h).2.2;refine ⟨x,?_,h3⟩;unfold KZ;have hw:IntKind.i64.wrap ((a:Int)+1)=((a+1:Nat):Int):=wn (by omega);show (bif decide ((L.length:Int)≤IntKind.i64.wrap ((a:Int)+1)) then _ else (idx L (IntKind.i64.wrap ((a:Int)+1))).bind fun x5=>some x5)=_
 rw [hw,decide_eq_false (by omega),cond_false,KcR,h2];rfl
theorem gis_ta {t:Tk}{ts:List Tk}(h:TA L a (t::ts))(s:ByteArray):Kaf (Gr L a v o) 0 s=some (bif t.1==(3:Int) then decide (t.2.1=s) else false):=by
 obtain ⟨x,h1,h2⟩:=Kdf (v:=v) (o:=o) hL h;unfold Kaf;rw [h1,Option.bind_some,← h2];show (bif x.gKind==3 then some (decide (x.gText=s)) else some false)=some (bif x.gKind==3 then decide (x.gText=s) else false)
 cases x.gKind==3<;>rfl
theorem KfT {t u:Tk}{ts:List Tk}(h:TA L a (t::u::ts))(s:ByteArray):Kaf (Gr L a v o) 1 s=some (bif u.1==(3:Int) then decide (u.2.1=s) else false):=by
 obtain ⟨x,h1,h2⟩:=glook1_ta (v:=v) (o:=o) hL h;unfold Kaf;rw [h1,Option.bind_some,← h2];show (bif x.gKind==3 then some (decide (x.gText=s)) else some false)=some (bif x.gKind==3 then decide (x.gText=s) else false)
 cases x.gKind==3<;>rfl
theorem Kcj {s:ByteArray}{n:Int}{ts:List Tk}(h:TA L a ((3,s,n)::ts)):KI (Gr L a v o) s=some (true,Gr L (a+1) v o):=by
 have hlt:=ta_lt h;unfold KI;show (Option.bind ((Kaf (Gr L a v o) 0 s).bind fun x5=>some (!x5)) _)=_
 rw [gis_ta hL h];show (Option.bind (some (!decide (s=s))) _)=_
 rw [decide_eq_true rfl];show some (true,(⟨L,IntKind.i64.wrap ((a:Int)+1),0,v,o⟩:Ka))=_
 rw [wn (by omega)]
theorem Kc5 {t:Tk}{s:ByteArray}{ts:List Tk}(h:TA L a (t::ts))(hn:t.1=3→t.2.1 ≠ s):KI (Gr L a v o) s=some (false,Gr L a v o):=by
 unfold KI;show (Option.bind ((Kaf (Gr L a v o) 0 s).bind fun x5=>some (!x5)) _)=_
 rw [gis_ta hL h];have:(bif t.1==(3:Int) then decide (t.2.1=s) else false)=false:=by
  cases h3:t.1==3 with
  | false=>rfl
  | true=>exact decide_eq_false (hn (by simpa using h3))
 rw [this];rfl
theorem KcO {s:ByteArray}{n:Int}{ts:List Tk}(h:TA L a ((1,s,n)::ts)):Kaa (Gr L a v o)=some (s,Gr L (a+1) v o):=by
 obtain ⟨x,h1,h2⟩:=Kdf (v:=v) (o:=o) hL h;have hlt:=ta_lt h;have hk:x.gKind=1:=congrArg Prod.fst h2;have ht:x.gText=s:=congrArg (fun t:Tk=>t.2.1) h2;unfold Kaa;show (bif false then _ else (KZ (Gr L a v o) 0).bind _)=_
 rw [cond_false,h1,Option.bind_some,hk,ht];show some (s,(⟨L,IntKind.i64.wrap ((a:Int)+1),0,v,o⟩:Ka))=_
 rw [wn (by omega)]
theorem geat_ta {l:List ByteArray}(hl:l.length≤100){ts:List Tk}(h:TA L a (l.map (fun s=>((3:Int),s,(0:Int)))++ts)):KC (Gr L a v o) l=some (Gr L (a+l.length) v o):=by
 have key:T (KC (Gr L a v o) l) fun r=>r=Gr L (a+l.length) v o:=by
  unfold KC;refine T.bind (P:=fun r=>r=Sum.inl ((a+l.length:Nat):Int)) (T.each l (fun pre s=>s=((pre.length:Int),((a+pre.length:Nat):Int))) rfl (fun pre x post s e hi=>?_) fun s hi=>?_) fun r hr=>?_
  ·subst hi;have hta:=h;rw [e,List.map_append,List.map_cons,List.append_assoc,List.cons_append] at hta;have hta1:=Kbj hta;rw [List.length_map] at hta1;have hlt:=ta_lt hta1;have hlp:=Kea e;simp only;rw [KdU e,cond_true,idxP e,Option.bind_some];show T ((Kaf (Gr L (a+pre.length) v o) 0 x).bind _) _
   rw [gis_ta hL hta1];show T (bif !(decide (x=x)) then _ else _) _
   rw [decide_eq_true rfl];refine T.next ?_;rw [Kdi e (by omega),wn (by omega)];simp only [List.length_append,List.length_singleton];rw [show a+(pre.length+1)=a+pre.length+1 by omega]
  ·subst hi;simp only;rw [KfE,cond_false];exact T.done rfl
  subst hr;exact T.ret rfl
 obtain ⟨r,h1,h2⟩:=key;rw [h1,h2]
theorem geat1 {s:ByteArray}{ts:List Tk}(h:TA L a ((3,s,0)::ts)):KC (Gr L a v o) [s]=some (Gr L (a+1) v o):=geat_ta hL (l:=[s]) (by simp) h
def RE (L:List Kr)(a n:Nat)(v o:Int)(e:Kc)(r:Kc×Ka):Prop:=r.2=Gr L (a+n) v o∧stE r.1=stE e
omit hL in
theorem ta_le {us ts:List Tk}{t:Tk}(h:TA L a (us++(t::ts))):a+us.length < L.length:=ta_lt (Kbj h)
theorem Kdv {e:Kc}{ts:List Tk}(hv:VX e)(h:TA L a (tks (pE e)++ts))(hf:fol 0 ts):T (Kab (Gr L a v o)) (RE L a (tks (pE e)).length v o e):=by
 have hle:a+(tks (pE e)).length < L.length:=by
  obtain ⟨t,r,h1,_⟩:=hf;rw [h1] at h;exact ta_le h
 unfold Kab;show T (bif false then _ else (Kb2 L (min (a:Int) (L.length:Int))).bind _) _
 rw [cond_false,show min (a:Int) (L.length:Int)=(a:Int) by omega];refine T.bind (expr_ta hL hv h hf) fun r hr=>?_
 obtain ⟨h1,h2,_⟩:=hr;rw [h1];exact T.ret ⟨rfl,h2⟩
end
def NP (l:List Tk):Prop:=∃ t u r,l=t::u::r∧(t.1=3→t.2.1 ≠ ⟨#[41]⟩∧t.2.1 ≠ ⟨#[105,110,112,117,116]⟩)∧(t.1=1→u.1=3→u.2.1 ≠ ⟨#[40]⟩)
def nOp (l:List Tk):Prop:=∃ t r,l=t::r∧(t.1=3→t.2.1 ≠ ⟨#[40]⟩)
theorem Keb {s:ByteArray}(h1:s ≠ ⟨#[41]⟩)(h2:s ≠ ⟨#[105,110,112,117,116]⟩){l:List Tk}(h:l ≠ []):NP ((3,s,0)::l):=by
 cases l with
 | nil=>exact absurd rfl h
 | cons u r=>exact ⟨_,u,r,rfl,fun _=>⟨h1,h2⟩,fun h=>by cases h⟩
theorem np_ne {l:List Tk}(h:NP l):l ≠ []:=by
 obtain ⟨t,u,r,h1,_⟩:=h;rw [h1];simp
theorem np_kd {k:Nat}{e:Kc}(h:∀ ts,nOp ts→NP (tks (pE e)++ts)){ts:List Tk}(ht:nOp ts):NP (tks (pKd k e)++ts):=by
 by_cases hk:lev e.gOp < k
 ·rw [par_tks hk,List.cons_append,List.append_assoc];exact Keb (by decide) (by decide) (np_ne (h _ ⟨(3,⟨#[41]⟩,0),ts,rfl,fun _=>by decide⟩))
 rw [KcX (by omega)];exact h ts ht
theorem np_e {e:Kc}(hv:VE e):∀ ts,nOp ts→NP (tks (pE e)++ts):=by
 have nn:∀ {ts},nOp ts→ts ≠ []:=fun ⟨t,r,h,_⟩=>by rw [h];simp
 induction hv with
 |
  num n a h0 h1=>
  intro ts ⟨t,r,h,_⟩;subst h;exact ⟨(2,itoaB n,n),t,r,rfl,fun h=>(by cases h),fun h=>by cases h⟩
 |
  var s a h=>
  intro ts ⟨t,r,h,h2⟩;subst h;exact ⟨(1,s,0),t,r,rfl,fun h=>(by cases h),fun _=>h2⟩
 | null a=>intro ts h;exact Keb (by decide) (by decide) (nn h)
 | load s a h=>intro ts h;exact Keb (l:=(1,s,0)::ts) (by decide) (by decide) (by simp)
 | addr s a h=>intro ts h;exact Keb (l:=(1,s,0)::ts) (by decide) (by decide) (by simp)
 |
  index s k a h _ ih=>
  intro ts ht;refine ⟨(1,s,0),(3,⟨#[91]⟩,0),tks (pE k)++((3,⟨#[93]⟩,0)::ts),?_,fun h=>(by cases h),fun _ _=>by decide⟩;show tks (nm s::mk ⟨#[91]⟩::(pE k++[mk ⟨#[93]⟩]))++ts=_
  simp [tks,K8]
 |
  addrAt s k a h _ ih=>
  intro ts ht;show NP (tks (mk ⟨#[38]⟩::nm s::mk ⟨#[91]⟩::(pE k++[mk ⟨#[93]⟩]))++ts)
  exact Keb (by decide) (by decide) (by simp [tks])
 |
  neg k a _ ih=>
  intro ts ht;exact Keb (s:=⟨#[45]⟩) (by decide) (by decide) (np_ne (np_kd (k:=6) ih ht))
 |
  not k a _ ih=>
  intro ts ht;exact Keb (s:=⟨#[33]⟩) (by decide) (by decide) (np_ne (np_kd (k:=6) ih ht))
 |
  bin op l r a ho _ _ ih1 ih2=>
  intro ts ht;rw [tks_bin ho,List.append_assoc,List.cons_append];refine np_kd ih1 ⟨_,_,rfl,fun _=>?_⟩;rcases Kep ho with rfl|rfl|rfl|rfl|rfl|rfl|rfl|rfl|rfl|rfl|rfl<;>decide
theorem Khj:∀ a,(stEs a).length=a.length
 | []=>rfl
 | e::a=>by simp [stEs,Khj a]
def comT {α:Type}(p:α→List Pc):List α→List Tk
 | []=>[]
 | x::l=>(3,⟨#[44]⟩,0)::(tks (p x)++comT p l)
theorem Kgi {α:Type}(p:α→List Pc)(x:α):∀ l:List α,tks (Kal ((x::l).map p))=tks (p x)++comT p l
 | []=>by simp [Kal,comT]
 |
  y::l=>by
  have ih:=Kgi p y l;show tks (p x++(mk ⟨#[44]⟩::.sp 32::Kal ((y::l).map p)))=_
  rw [K8];simp only [tks,comT];rw [ih]
theorem comT_fol {α:Type}(p:α→List Pc)(l:List α)(ts:List Tk)(k:Nat):fol k (comT p l++((3,⟨#[41]⟩,0)::ts)):=by
 cases l with
 | nil=>exact fol41 _ _
 | cons x l=>exact fol44 _ _
theorem ta_len {L:List Kr}{a:Nat}{ts:List Tk}(h:TA L a ts):ts.length+a≤L.length∨ts=[]:=by
 unfold TA at h;rcases Nat.lt_or_ge a L.length with h1|h1
 ·left;rw [← h];simp;omega
 right;rw [← h,List.drop_of_length_le h1];rfl
theorem comT_len {α:Type}(p:α→List Pc):∀ l:List α,l.length≤(comT p l).length
 | []=>Nat.le_refl _
 |
  x::l=>by
  have:=comT_len p l;simp only [comT,List.length_cons,List.length_append];omega
section
variable {A B : Type} {L : List Kr} (hL : L.length ≤ 5000) {p : A → List Pc} {one : Ka → Option (A × Ka)} {o : Int} {f : A → B} {vc : Nat → Int} {xs : List A}
  (hone : ∀ (a i : Nat) (x : A) (ts : List Tk), x ∈ xs → i < xs.length → TA L a (tks (p x) ++ ts) → fol 0 ts → T (one (Gr L a (vc i) o)) fun r => f r.1 = f x ∧ r.2 = Gr L (a + (tks (p x)).length) (vc (i + 1)) o) {bb : Nat} (hbb : bb ≤ 4096)
  {F : List A × List Kr × Int × Int × Int × Int → Option (Step (List A × List Kr × Int × Int × Int × Int) (List A × List Kr × Int × Int × Int × Int))}
  (hF : ∀ s, F s = (bif (s.2.2.2.1 == (0 : Int)) then ((one (⟨s.2.1, s.2.2.1, s.2.2.2.1, s.2.2.2.2.1, s.2.2.2.2.2⟩ : Ka)).bind fun x43 => ((app bb s.1 ([x43.1] : List A)).bind fun x44 => ((KI x43.2 (ByteArray.mk #[44])).bind fun x45 => (bif (!x45.1) then some (.done (x44, x45.2.gL, x45.2.gAt, x45.2.gE, x45.2.gVars, x45.2.gOpen)) else some (.next (x44, x45.2.gL, x45.2.gAt, x45.2.gE, x45.2.gVars, x45.2.gOpen)))))) else some (.done (s.1, s.2.1, s.2.2.1, s.2.2.2.1, s.2.2.2.2.1, s.2.2.2.2.2))))
include hL hone hbb hF
theorem com_ta:∀ (rest:List A) (x:A) (acc:List A) (a i:Nat) (ts:List Tk),(∀ y∈x::rest,y∈xs)→i+rest.length < xs.length→acc.length+rest.length≤6000→TA L a (tks (p x)++(comT p rest++((3,⟨#[41]⟩,0)::ts))) →
  T (loopM F (acc,L,(a:Int),0,vc i,o)) fun s=>∃ l',s=(acc++l',L,((a+((tks (p x)).length+(comT p rest).length):Nat):Int),0,vc (i+1+rest.length),o)∧l'.map f=(x::rest).map f
 |
  rest,x,acc,a,i,ts,hx,hi,hacc,hta=>by
  obtain ⟨r,h1,h2,h3⟩:=hone a i x _ (hx x (by simp)) (by omega) hta (comT_fol p rest ts 0);have hta1:=Kbj hta;cases rest with
  |
   nil=>
   have hst:F (acc,L,(a:Int),0,vc i,o)=some (.done (acc++[r.1],L,((a+(tks (p x)).length:Nat):Int),0,vc (i+1),o)):=by
    rw [hF];show ((one (Gr L a (vc i) o)).bind _)=_
    rw [h1,Option.bind_some,Kct (by omega) (by simp at hacc ⊢;omega),Option.bind_some,h3,Kc5 hL hta1 (fun _=>by decide)];rfl
   exact T.eq (KdS hst) ⟨[r.1],rfl,by simp [h2]⟩
  |
   cons y rest=>
   have hta2:=hta1;simp only [comT,List.cons_append,List.append_assoc] at hta2;have hst:F (acc,L,(a:Int),0,vc i,o)=some (.next (acc++[r.1],L,((a+(tks (p x)).length+1:Nat):Int),0,vc (i+1),o)):=by
    rw [hF];show ((one (Gr L a (vc i) o)).bind _)=_
    rw [h1,Option.bind_some,Kct (by omega) (by simp at hacc ⊢;omega),Option.bind_some,h3,Kcj hL hta2];rfl
   rw [KdT hst];simp only [List.length_cons] at hi hacc;refine (com_ta rest y (acc++[r.1]) (a+(tks (p x)).length+1) (i+1) ts (fun z hz=>hx z (by simp at hz ⊢;rcases hz with h|h<;>simp [h])) (by omega) (by simp;omega) (K0 hta2).2.2).imp fun s hs=>?_
   obtain ⟨l',e1,e2⟩:=hs;refine ⟨r.1::l',?_,by simp only [List.map_cons] at e2 ⊢;rw [h2,e2]⟩;rw [e1];simp only [comT,List.length_cons,List.length_append,List.append_assoc,List.cons_append,List.nil_append];rw [show a+(tks (p x)).length+1+((tks (p y)).length+(comT p rest).length)=a+((tks (p x)).length+((tks (p y)).length+(comT p rest).length+1)) by omega,show i+1+1+rest.length=i+1+(rest.length+1) by omega]
theorem list_ta (hhd:∀ x∈xs,∀ ts,fol 0 ts→nOp ts→∃ t r,tks (p x)++ts=t::r∧(t.1=3→t.2.1 ≠ ⟨#[41]⟩)){a:Nat}{ts:List Tk}(h:TA L a ((3,⟨#[40]⟩,0)::(tks (Kal (xs.map p))++((3,⟨#[41]⟩,0)::ts)))) :
  T ((KC (Gr L a (vc 0) o) ([qZ3]:List ByteArray)).bind fun x1=>((KI x1 qZ5).bind fun x2=>(bif x2.1 then some (([]:List A),x2.2) else (Option.bind (α:=List A×List Kr×Int×Int×Int×Int) (loopM F (([]:List A),x2.2.gL,x2.2.gAt,x2.2.gE,x2.2.gVars,x2.2.gOpen)) fun y27=>((KC (⟨y27.2.1,y27.2.2.1,y27.2.2.2.1,y27.2.2.2.2.1,y27.2.2.2.2.2⟩:Ka) ([qZ5]:List ByteArray)).bind fun x47=>some (y27.1,x47)))))) fun r=>r.1.map f=xs.map f∧r.2=Gr L (a+((tks (Kal (xs.map p))).length+2)) (vc xs.length) o:=by
 rw [geat1 hL h,Option.bind_some];have h1:=(K0 h).2.2;cases xs with
 |
  nil=>
  rw [Kcj hL h1];exact T.ret ⟨rfl,rfl⟩
 |
  cons x l=>
  rw [Kgi,List.append_assoc] at h1;obtain ⟨t,r,e1,e2⟩:=hhd x (by simp) _ (comT_fol p l ts 0) (by cases l with
   | nil=>exact ⟨_,_,rfl,fun _=>by decide⟩
   | cons y l=>exact ⟨_,_,rfl,fun _=>by decide⟩)
  have hlen:l.length≤5000:=by
   have h3:=comT_len p l;rcases ta_len h1 with h2|h2
   ·simp only [List.length_append] at h2;omega
   simp at h2
  have hno:=h1;rw [e1] at hno;rw [Kc5 hL hno e2,Option.bind_some];refine T.bind (com_ta hL hone hbb hF l x [] (a+1) 0 ts (fun y hy=>hy) (by simp) (by simp;omega) h1) fun s hs=>?_
  obtain ⟨l',f1,f2⟩:=hs;subst f1;have h4:=Kbj (us:=tks (p x)++comT p l) (by rw [List.append_assoc];exact h1);rw [List.length_append] at h4;show T ((KC (Gr L (a+1+((tks (p x)).length+(comT p l).length)) (vc (0+1+l.length)) o) _).bind _) _
  rw [geat1 hL h4];refine T.ret ⟨f2,?_⟩;rw [Kgi,List.length_append];show Gr L _ (vc (0+1+l.length)) o=_
  rw [show a+1+((tks (p x)).length+(comT p l).length)+1=a+((tks (p x)).length+(comT p l).length+2) by omega,show 0+1+l.length=(x::l).length by simp;omega]
end
theorem Kdw:∀ l,stEs l=l.map stE
 | []=>rfl
 | e::l=>by rw [stEs,Kdw l];rfl
theorem listE_ta {L:List Kr}(hL:L.length≤5000){a:Nat}{v o:Int}{es:List Kc}{ts:List Tk}(hv:∀ e∈es,VX e)(h:TA L a ((3,⟨#[40]⟩,0)::(tks (Kal (es.map pE))++((3,⟨#[41]⟩,0)::ts)))):T (KaY (Gr L a v o)) fun r=>stEs r.1=stEs es∧r.2=Gr L (a+((tks (Kal (es.map pE))).length+2)) v o:=by
 unfold KaY;refine (list_ta hL (p:=pE) (f:=stE) (vc:=fun _=>v) (xs:=es) (one:=Kab) (bb:=64) (fun a i x ts hx _ hta hf=>(Kdv hL (hv x hx) hta hf).imp fun r hr=>⟨hr.2,hr.1⟩) (by omega) (fun _=>rfl) (fun x hx ts _ hn=>?_) h).imp fun r hr=>⟨by rw [Kdw,Kdw];exact hr.1,hr.2⟩
 obtain ⟨t,u,r,e1,e2,_⟩:=np_e (hv x hx).1 ts hn;exact ⟨t,u::r,e1,fun h=>(e2 h).1⟩
theorem tks_pV (v:K3):tks (pV v)=(3,⟨#[105,110,116]⟩,0)::(if v.gPtr then [(3,⟨#[42]⟩,0),(1,v.gName,0)] else [(1,v.gName,0)]):=by
 unfold pV;simp only [tks];split<;>rfl
theorem var_ta {L:List Kr}(hL:L.length≤5000){a:Nat}{o:Int}{n:Nat}(hn:n < 16){v:K3}{ts:List Tk}(h:TA L a (tks (pV v)++ts)):T (Kas (Gr L a (n:Int) o)) fun r=>r.1=v∧r.2=Gr L (a+(tks (pV v)).length) ((n+1:Nat):Int) o:=by
 unfold Kas;rw [tks_pV] at h ⊢;have hw:IntKind.i64.wrap ((n:Int)+1)=((n+1:Nat):Int):=wn (by omega);rw [List.cons_append] at h;rw [geat1 hL h,Option.bind_some];have h1:=(K0 h).2.2;obtain ⟨nm_,ptr⟩:=v;cases ptr with
 |
  true=>
  simp only [if_true,List.cons_append,List.nil_append] at h1;rw [Kcj hL h1,Option.bind_some,KcO hL (K0 h1).2.2,Option.bind_some];show T (bif decide ((16:Int) < IntKind.i64.wrap ((n:Int)+1)) then _ else some (_,(⟨L,_,0,IntKind.i64.wrap ((n:Int)+1),o⟩:Ka))) _
  rw [hw,decide_eq_false (by omega)];exact T.ret ⟨rfl,rfl⟩
 |
  false=>
  simp only [Bool.false_eq_true,if_false,List.cons_append,List.nil_append] at h1;rw [Kc5 hL h1 (fun h=>by cases h),Option.bind_some,KcO hL h1,Option.bind_some];show T (bif decide ((16:Int) < IntKind.i64.wrap ((n:Int)+1)) then _ else some (_,(⟨L,_,0,IntKind.i64.wrap ((n:Int)+1),o⟩:Ka))) _
  rw [hw,decide_eq_false (by omega)];exact T.ret ⟨rfl,rfl⟩
theorem listV_ta {L:List Kr}(hL:L.length≤5000){a:Nat}{o:Int}{vs:List K3}{ts:List Tk}(hn:vs.length≤16)(h:TA L a ((3,⟨#[40]⟩,0)::(tks (Kal (vs.map pV))++((3,⟨#[41]⟩,0)::ts)))):T (Ka4 (Gr L a 0 o)) fun r=>r.1=vs∧r.2=Gr L (a+((tks (Kal (vs.map pV))).length+2)) (vs.length:Int) o:=by
 unfold Ka4;refine (list_ta hL (p:=pV) (f:=id) (vc:=fun i=>(i:Int)) (xs:=vs) (one:=Kas) (bb:=24) (fun a i x ts hx hi hta hf=>var_ta hL (by omega) hta) (by omega) (fun _=>rfl) (fun x hx ts _ hn=>?_) h).imp fun r hr=>⟨by simpa using hr.1,hr.2⟩
 rw [tks_pV];exact ⟨_,_,rfl,fun _=>by decide⟩
theorem test_ta {L:List Kr}(hL:L.length≤5000){a:Nat}{v o:Int}{e:Kc}{ts:List Tk}(hv:VX e)(h:TA L a ((3,⟨#[40]⟩,0)::(tks (pE e)++((3,⟨#[41]⟩,0)::ts)))):T (KaT (Gr L a v o)) fun r=>stEs r.1=[stE e]∧r.2=Gr L (a+((tks (pE e)).length+2)) v o:=by
 unfold KaT;rw [geat1 hL h,Option.bind_some];have h1:=(K0 h).2.2;refine T.bind (Kdv hL hv h1 (fol41 _ _)) fun r hr=>?_
 obtain ⟨r1,r2⟩:=hr;rw [r1,geat1 hL (Kbj h1)];refine T.ret ⟨by simp only [stEs,r2],?_⟩;show Gr L _ v o=_
 rw [show a+1+(tks (pE e)).length+1=a+((tks (pE e)).length+2) by omega]
end
section
open Go
set_option linter.all false
mutual
def stS:Ki→Ki
 | ⟨a,b,c,es,ks,ls,_⟩=>⟨a,b,c,stEs es,stSs ks,stSs ls,0⟩
def stSs:List Ki→List Ki
 | []=>[]
 | s::l=>stS s::stSs l
end
theorem Kfw:∀ a b,stSs (a++b)=stSs a++stSs b
 | [],b=>rfl
 | e::a,b=>by simp only [List.cons_append,stSs,Kfw a b]
theorem KeL (d:Nat)(x:List Pc):tks (ind d x)=tks x:=by
 unfold ind;rw [K8,K8];have:tks (List.replicate d (Pc.sp 9))=[]:=by
  induction d with
  | zero=>rfl
  | succ d ih=>rw [List.replicate_succ];exact ih
 rw [this];simp [tks]
def RT (L:List Kr)(a n:Nat)(v o:Int)(s:Ki)(r:Ki×Ka):Prop:=stS r.1=stS s∧r.2=Gr L (a+n) v o
section
variable {L : List Kr} (hL : L.length ≤ 5000) {a : Nat} {v o : Int}
include hL
theorem call_ta {f:ByteArray}{es:List Kc}{ts:List Tk}(he:∀ e∈es,VX e)(h:TA L a ((1,f,0)::(3,⟨#[40]⟩,0)::(tks (Kal (es.map pE))++((3,⟨#[41]⟩,0)::(3,⟨#[59]⟩,0)::ts))))(s:Ki):T (KaS (Gr L a v o) s) fun r=>stS r.1=⟨4,s.gName,f,stEs es,stSs s.gKids,stSs s.gElse,0⟩∧r.2=Gr L (a+((tks (Kal (es.map pE))).length+4)) v o:=by
 unfold KaS;rw [KcO hL h,Option.bind_some];refine T.bind (listE_ta hL he (K0 h).2.2) fun r hr=>?_
 obtain ⟨r1,r2⟩:=hr;have h2:=Kbj (us:=(1,f,0)::(3,⟨#[40]⟩,0)::(tks (Kal (es.map pE))++[(3,⟨#[41]⟩,0)])) (a:=a) (ts:=(3,⟨#[59]⟩,0)::ts) (by simpa using h);simp only [List.length_cons,List.length_append,List.length_nil] at h2;rw [r2,show a+1+((tks (Kal (es.map pE))).length+2)=a+((tks (Kal (es.map pE))).length+(0+1)+1+1) by omega,geat1 hL h2];refine T.ret ⟨by simp only [stS,r1],?_⟩;show Gr L _ v o=_
 rw [show a+((tks (Kal (es.map pE))).length+(0+1)+1+1)+1=a+((tks (Kal (es.map pE))).length+4) by omega]
theorem input_ta {ts:List Tk}(h:TA L a ((3,⟨#[105,110,112,117,116]⟩,0)::(3,⟨#[40]⟩,0)::(3,⟨#[41]⟩,0)::(3,⟨#[59]⟩,0)::ts))(s:Ki):T (Kap (Gr L a v o) s) fun r=>r=(⟨5,s.gName,s.gFunc,s.gExps,s.gKids,s.gElse,s.gAt⟩,Gr L (a+4) v o):=by
 unfold Kap;rw [Kcj hL h,Option.bind_some];show T ((KC (Gr L (a+1) v o) _).bind _) _
 rw [geat_ta hL (l:=[qZ3,qZ5,qZ15]) (by simp) (K0 h).2.2];exact T.ret rfl
theorem acall_ta {f:ByteArray}{es:List Kc}{ts:List Tk}(he:∀ e∈es,VX e)(h:TA L a ((1,f,0)::(3,⟨#[40]⟩,0)::(tks (Kal (es.map pE))++((3,⟨#[41]⟩,0)::(3,⟨#[59]⟩,0)::ts))))(s:Ki):T (Kap (Gr L a v o) s) fun r=>stS r.1=⟨4,s.gName,f,stEs es,stSs s.gKids,stSs s.gElse,0⟩∧r.2=Gr L (a+((tks (Kal (es.map pE))).length+4)) v o:=by
 unfold Kap;rw [Kc5 hL h (fun h=>by cases h),Option.bind_some];obtain ⟨x,h1,h2⟩:=Kdf (v:=v) (o:=o) hL h;have hk:x.gKind=1:=congrArg Prod.fst h2;show T (Option.bind ((KZ (Gr L a v o) 0).bind fun x34=>(bif (x34.gKind==(1:Int)) then ((Kaf (Gr L a v o) (1:Int) qZ3).bind fun x36=>some x36) else some false)) fun y33=>(bif y33 then ((KaS (Gr L a v o) s).bind fun x40=>some (x40.1,x40.2)) else _)) _
 rw [h1,Option.bind_some,hk,show ((1:Int)==1)=true from rfl,cond_true,KfT hL h,Option.bind_some,Option.bind_some];exact T.bind (call_ta hL he h s) fun r hr=>T.ret hr
theorem aexp_ta {e:Kc}{ts:List Tk}(he:VX e)(h:TA L a (tks (pE e)++((3,⟨#[59]⟩,0)::ts)))(s:Ki):T (Kap (Gr L a v o) s) fun r=>stS r.1=⟨1,s.gName,s.gFunc,[stE e],stSs s.gKids,stSs s.gElse,0⟩∧r.2=Gr L (a+((tks (pE e)).length+1)) v o:=by
 obtain ⟨t,u,r,e1,e2,e3⟩:=np_e he.1 ((3,⟨#[59]⟩,0)::ts) ⟨_,_,rfl,fun _=>by decide⟩;have h':=h;rw [e1] at h';unfold Kap;rw [Kc5 hL h' (fun h=>(e2 h).2),Option.bind_some];obtain ⟨x,h1,h2⟩:=Kdf (v:=v) (o:=o) hL h';have hk:x.gKind=t.1:=congrArg Prod.fst h2
 show T (Option.bind ((KZ (Gr L a v o) 0).bind fun x34=>(bif (x34.gKind==(1:Int)) then ((Kaf (Gr L a v o) (1:Int) qZ3).bind fun x36=>some x36) else some false)) fun y33=>(bif y33 then _ else ((Kab (Gr L a v o)).bind fun x42=>((KC x42.2 qZ0).bind fun x43=>some ((⟨(1:Int),s.gName,s.gFunc,([x42.1]:List Kc),s.gKids,s.gElse,s.gAt⟩:Ki),x43))))) _
 have hno:((KZ (Gr L a v o) 0).bind fun x34=>(bif (x34.gKind==(1:Int)) then ((Kaf (Gr L a v o) (1:Int) qZ3).bind fun x36=>some x36) else some false))=some false:=by
  rw [h1,Option.bind_some,hk,KfT hL h'];cases h3:t.1==1 with
  | false=>rfl
  |
   true=>
   rw [cond_true,Option.bind_some];cases h4:u.1==3 with
   | false=>rfl
   | true=>rw [cond_true,decide_eq_false (e3 (by simpa using h3) (by simpa using h4))]
 rw [hno,Option.bind_some,cond_false];refine T.bind (Kdv hL he h (fol59 _ _)) fun r hr=>?_
 obtain ⟨r1,r2⟩:=hr;rw [r1,geat1 hL (Kbj h)];refine T.ret ⟨by simp only [stS,stEs,r2],?_⟩;show Gr L _ v o=_
 rw [show a+(tks (pE e)).length+1=a+((tks (pE e)).length+1) by omega]
theorem nEq_ta {s:ByteArray}{ts:List Tk}(h:TA L a ((1,s,0)::(3,⟨#[61]⟩,0)::ts)){at_:Int}{Q:Ki×Ka→Prop}(g:T (Kap (Gr L (a+2) v o) ⟨0,s,ByteArray.empty,[],[],[],at_⟩) Q):T (Kaw (Gr L a v o) ⟨0,ByteArray.empty,ByteArray.empty,[],[],[],at_⟩) Q:=by
 have h1:=(K0 h).2.2;unfold Kaw;rw [KfT hL h,Option.bind_some];show T (bif decide ((⟨#[61]⟩:ByteArray)=⟨#[40]⟩) then _ else _) _
 rw [decide_eq_false (by decide),cond_false,KcO hL h,Option.bind_some,Kc5 hL h1 (fun _=>by decide),Option.bind_some];show T ((KC (Gr L (a+1) v o) _).bind _) _
 rw [geat1 hL h1,Option.bind_some];exact T.bind g fun r hr=>T.ret hr
theorem named_ta {b:Nat}{s:Ki}{ts:List Tk}(hv:VS b s){t:Tk}{r:List Tk}(ht:tks (pFs s)=t::r)(hk:t.1=1)(h6:s.gOp ≠ 6)(h7:s.gOp ≠ 7)(h:TA L a (tks (pFs s)++ts))(at_:Int):T (Kaw (Gr L a v o) ⟨0,ByteArray.empty,ByteArray.empty,[],[],[],at_⟩) (RT L a (tks (pFs s)).length v o s):=by
 cases hv with
 |
  assign d s e p hs he=>
  have htk:tks (pFs ⟨1,s,ByteArray.empty,[e],[],[],p⟩)=(1,s,0)::(3,⟨#[61]⟩,0)::(tks (pE e)++[(3,⟨#[59]⟩,0)]):=by simp [pFs,pF,tks,K8]
  rw [htk] at h ⊢;simp only [List.cons_append,List.append_assoc,List.nil_append] at h;refine nEq_ta hL h ((aexp_ta hL he (K0 (K0 h).2.2).2.2 _).imp fun q hq=>⟨?_,?_⟩)
  ·rw [hq.1];simp only [stS,stEs,stSs]
  rw [hq.2];simp only [List.length_cons,List.length_append,List.length_nil];rw [show a+2+((tks (pE e)).length+1)=a+((tks (pE e)).length+(0+1)+1+1) by omega]
 |
  put d s e f p hs he hf=>
  have htk:tks (pFs ⟨2,s,ByteArray.empty,[e,f],[],[],p⟩)=(1,s,0)::(3,⟨#[91]⟩,0)::(tks (pE e)++((3,⟨#[93]⟩,0)::(3,⟨#[61]⟩,0)::(tks (pE f)++[(3,⟨#[59]⟩,0)]))):=by simp [pFs,pF,tks,K8]
  rw [htk] at h ⊢;simp only [List.cons_append,List.append_assoc,List.nil_append] at h;have h1:=(K0 h).2.2;have h2:=(K0 h1).2.2;have h3:=Kbj h2;unfold Kaw;rw [KfT hL h,Option.bind_some];show T (bif decide ((⟨#[91]⟩:ByteArray)=⟨#[40]⟩) then _ else _) _
  rw [decide_eq_false (by decide),cond_false,KcO hL h,Option.bind_some,Kcj hL h1,Option.bind_some];show T ((Kab (Gr L (a+1+1) v o)).bind _) _
  refine T.bind (Kdv hL he h2 (fol93 _ _)) fun q hq=>?_
  obtain ⟨q1,q2⟩:=hq;rw [q1,geat_ta hL (l:=[qZ14,(ByteArray.mk #[61])]) (by simp) h3,Option.bind_some];have h4:=(K0 (K0 h3).2.2).2.2;show T ((Kab (Gr L (a+1+1+(tks (pE e)).length+1+1) v o)).bind _) _
  refine T.bind (Kdv hL hf h4 (fol59 _ _)) fun w hw=>?_
  obtain ⟨w1,w2⟩:=hw;rw [w1,geat1 hL (Kbj h4)];refine T.ret ⟨by simp only [stS,stEs,stSs,q2,w2],?_⟩;show Gr L _ v o=_
  simp only [List.length_cons,List.length_append,List.length_nil];rw [show a+1+1+(tks (pE e)).length+1+1+(tks (pE f)).length+1=a+((tks (pE e)).length+((tks (pE f)).length+(0+1)+1+1)+1+1) by omega]
 | store d s e p hs he=>cases ht;cases hk
 |
  call d f es p hf he=>
  have htk:tks (pFs ⟨4,ByteArray.empty,f,es,[],[],p⟩)=(1,f,0)::(3,⟨#[40]⟩,0)::(tks (Kal (es.map pE))++[(3,⟨#[41]⟩,0),(3,⟨#[59]⟩,0)]):=by simp [pFs,pF,tks,K8]
  rw [htk] at h ⊢;simp only [List.cons_append,List.append_assoc,List.nil_append] at h;unfold Kaw;rw [KfT hL h,Option.bind_some];show T (bif decide ((⟨#[40]⟩:ByteArray)=⟨#[40]⟩) then _ else _) _
  rw [decide_eq_true rfl,cond_true];refine T.bind (call_ta hL he h _) fun q hq=>T.ret ⟨?_,?_⟩
  ·simp only;rw [hq.1];simp only [stS,stSs]
  simp only;rw [hq.2];simp only [List.length_cons,List.length_append,List.length_nil]
 |
  callTo d s f es p hs hf he=>
  have hne:s ≠ ByteArray.empty:=fun e=>by
   obtain ⟨c,r,h,_⟩:=hs.al.hd;rw [e] at h;cases h
  have htk:tks (pFs ⟨4,s,f,es,[],[],p⟩)=(1,s,0)::(3,⟨#[61]⟩,0)::(1,f,0)::(3,⟨#[40]⟩,0)::(tks (Kal (es.map pE))++[(3,⟨#[41]⟩,0),(3,⟨#[59]⟩,0)]):=by simp [pFs,pF,tks,K8,hne]
  rw [htk] at h ⊢;simp only [List.cons_append,List.append_assoc,List.nil_append] at h;refine nEq_ta hL h ((acall_ta hL he (K0 (K0 h).2.2).2.2 _).imp fun q hq=>⟨?_,?_⟩)
  ·rw [hq.1];simp only [stS,stSs]
  rw [hq.2];simp only [List.length_cons,List.length_append,List.length_nil];rw [show a+2+((tks (Kal (es.map pE))).length+4)=a+((tks (Kal (es.map pE))).length+(0+1+1)+1+1+1+1) by omega]
 |
  input d s p hs=>
  have htk:tks (pFs ⟨5,s,ByteArray.empty,[],[],[],p⟩)=[(1,s,0),(3,⟨#[61]⟩,0),(3,⟨#[105,110,112,117,116]⟩,0),(3,⟨#[40]⟩,0),(3,⟨#[41]⟩,0),(3,⟨#[59]⟩,0)]:=rfl;rw [htk] at h ⊢;simp only [List.cons_append,List.nil_append] at h;refine nEq_ta hL h ((input_ta hL (K0 (K0 h).2.2).2.2 _).imp fun q hq=>?_);subst hq;exact ⟨by simp only [stS,stEs,stSs],rfl⟩
 | ret d e p he=>cases ht;cases hk
 | assert d e p he=>cases ht;cases hk
 | ite d e ks ls p he hk hl=>exact absurd rfl h6
 | loop d e ks p he hk=>exact absurd rfl h7
end
end
section
open Go
set_option linter.all false
def HS (l:List Tk):Prop:=∃ t r,l=t::r∧(t.1=3→t.2.1 ≠ ⟨#[125]⟩∧t.2.1 ≠ ⟨#[101,108,115,101]⟩∧t.2.1 ≠ ⟨#[105,110,116]⟩)
theorem hs_n (s:ByteArray)(n:Int)(l:List Tk):HS ((1,s,n)::l):=⟨_,l,rfl,fun h=>by cases h⟩
theorem hs_m {s:ByteArray}(h:s ≠ ⟨#[125]⟩∧s ≠ ⟨#[101,108,115,101]⟩∧s ≠ ⟨#[105,110,116]⟩)(l:List Tk):HS ((3,s,0)::l):=⟨_,l,rfl,fun _=>h⟩
theorem HS.app {l:List Tk}(h:HS l)(m:List Tk):HS (l++m):=by
 obtain ⟨t,r,h1,h2⟩:=h;exact ⟨t,r++m,by rw [h1];rfl,h2⟩
theorem pS_67 {d:Nat}{op:Int}{s f:ByteArray}{e:Kc}{ks ls:List Ki}{p:Int}(h:op=6∨op=7):tks (pS d ⟨op,s,f,[e],ks,ls,p⟩)=(3,(if op=6 then ⟨#[105,102]⟩ else ⟨#[119,104,105,108,101]⟩),0)::(3,⟨#[40]⟩,0)::(tks (pE e)++((3,⟨#[41]⟩,0)::(3,⟨#[123]⟩,0)::(tks (pSs (d+1) ks)++((3,⟨#[125]⟩,0)::(if ls.isEmpty then [] else (3,⟨#[101,108,115,101]⟩,0)::(3,⟨#[123]⟩,0)::(tks (pSs (d+1) ls)++[(3,⟨#[125]⟩,0)])))))):=by
 simp only [pS];rw [if_pos h,K8,K8,K8,KeL,KeL];unfold pH;cases ls with
 | nil=>rcases h with rfl|rfl<;>simp [tks,K8]
 | cons x l=>rcases h with rfl|rfl<;>simp [tks,K8,KeL]
theorem Kci {d:Nat}{s:Ki}(h:¬(s.gOp=6∨s.gOp=7)):tks (pS d s)=tks (pFs s):=by
 obtain ⟨op,nm_,fn,es,ks,ls,p⟩:=s;simp only at h;simp only [pS];rw [if_neg h,KeL];rfl
theorem hs_s {b:Nat}{s:Ki}(h:VS b s)(d:Nat):HS (tks (pS d s)):=by
 cases h with
 | assign d' s e p hs he=>rw [Kci (by simp)];exact hs_n _ _ _
 | put d' s e f p hs he hf=>rw [Kci (by simp)];exact hs_n _ _ _
 | store d' s e p hs he=>rw [Kci (by simp)];exact hs_m (by decide) _
 | call d' f es p hf he=>rw [Kci (by simp)];exact hs_n _ _ _
 |
  callTo d' s f es p hs hf he=>
  have hne:s ≠ ByteArray.empty:=fun e=>by
   obtain ⟨c,r,h,_⟩:=hs.al.hd;rw [e] at h;cases h
  rw [Kci (by simp),show tks (pFs ⟨4,s,f,es,[],[],p⟩)=(1,s,0)::(3,⟨#[61]⟩,0)::(1,f,0)::(3,⟨#[40]⟩,0)::(tks (Kal (es.map pE))++[(3,⟨#[41]⟩,0),(3,⟨#[59]⟩,0)]) by simp [pFs,pF,tks,K8,hne]];exact hs_n _ _ _
 | input d' s p hs=>rw [Kci (by simp)];exact hs_n _ _ _
 | ret d' e p he=>rw [Kci (by simp)];exact hs_m (by decide) _
 | assert d' e p he=>rw [Kci (by simp)];exact hs_m (by decide) _
 | ite d' e ks ls p he hk hl=>rw [pS_67 (.inl rfl)];exact hs_m (by decide) _
 | loop d' e ks p he hk=>rw [pS_67 (.inr rfl)];exact hs_m (by decide) _
theorem pSs_hs {b:Nat}{l:List Ki}(h:VSs b l)(d:Nat)(ts:List Tk):∃ t r,tks (pSs d l)++((3,⟨#[125]⟩,0)::ts)=t::r∧(t.1=3→t.2.1 ≠ ⟨#[105,110,116]⟩∧t.2.1 ≠ ⟨#[101,108,115,101]⟩):=by
 cases h with
 | nil=>exact ⟨_,_,rfl,fun _=>by decide⟩
 |
  cons _ s l h1 h2=>
  simp only [pSs];obtain ⟨t,r,e1,e2⟩:=hs_s h1 d;rw [K8,e1];exact ⟨t,_,rfl,fun h=>⟨(e2 h).2.2,(e2 h).2.1⟩⟩
def nEl (l:List Tk):Prop:=∃ t r,l=t::r∧(t.1=3→t.2.1 ≠ ⟨#[101,108,115,101]⟩)
section
variable {L : List Kr} (hL : L.length ≤ 5000) {v : Int}
include hL
theorem blk_ta {one:Ka→Option (Ki×Ka)}{o:Int}{d b a0:Nat}(hone:∀ (a:Nat) (s:Ki) (ts:List Tk),a0≤a→VS b s→TA L a (tks (pS d s)++ts)→nEl ts→T (one (Gr L a v o)) (RT L a (tks (pS d s)).length v o s)){F:List Ki×List Kr×Int×Int×Int×Int→Option (Step (List Ki×List Kr×Int×Int×Int×Int) (List Ki×List Kr×Int×Int×Int×Int))}
  (hF:∀ s38,F s38=(Option.bind (α:=Bool×List Kr×Int×Int×Int×Int) (bif (s38.2.2.2.1==(0:Int)) then ((KI (⟨s38.2.1,s38.2.2.1,s38.2.2.2.1,s38.2.2.2.2.1,s38.2.2.2.2.2⟩:Ka) qZ11).bind fun x62=>some ((!x62.1),x62.2.gL,x62.2.gAt,x62.2.gE,x62.2.gVars,x62.2.gOpen)) else some (false,s38.2.1,s38.2.2.1,s38.2.2.2.1,s38.2.2.2.2.1,s38.2.2.2.2.2)) fun y60=>(bif y60.1 then ((one (⟨y60.2.1,y60.2.2.1,y60.2.2.2.1,y60.2.2.2.2.1,y60.2.2.2.2.2⟩:Ka)).bind fun x64=>((app 120 s38.1 ([x64.1]:List Ki)).bind fun x65=>some (.next (x65,x64.2.gL,x64.2.gAt,x64.2.gE,x64.2.gVars,x64.2.gOpen)))) else some (.done (s38.1,y60.2.1,y60.2.2.1,y60.2.2.2.1,y60.2.2.2.2.1,y60.2.2.2.2.2)))))
  {a:Nat} (ha:a0≤a) {l:List Ki} {ts:List Tk} (hv:VSs b l) (h:TA L a (tks (pSs d l)++((3,⟨#[125]⟩,0)::ts))) :
  T (loopM F (([]:List Ki),L,(a:Int),0,v,o)) fun s=>stSs s.1=stSs l∧s.2=(L,((a+((tks (pSs d l)).length+1):Nat):Int),0,v,o):=by
 have hlen:∀ l:List Ki,VSs b l→l.length≤(tks (pSs d l)).length:=by
  intro l;induction l with
  | nil=>intro _;exact Nat.zero_le _
  |
   cons s l ih=>
   intro hv;cases hv with
   |
    cons _ _ _ h1 h2=>
    have:=ih h2;obtain ⟨t,r,e1,_⟩:=hs_s h1 d;simp only [pSs];rw [K8,e1];simp only [List.length_cons,List.length_append];omega
 have hl:=hlen l hv;have hle:=ta_le h;refine T.each l (fun pre s=>∃ l',s=(l',L,((a+(tks (pSs d pre)).length:Nat):Int),0,v,o)∧stSs l'=stSs pre∧l'.length=pre.length) ⟨[],rfl,rfl,rfl⟩ (fun pre x post s e hi=>?_) fun s hi=>?_
 ·obtain ⟨l',rfl,e1,e2⟩:=hi;have hta:=h;rw [e,Kd0,K8,List.append_assoc] at hta;simp only [pSs] at hta;rw [K8,List.append_assoc] at hta;have hta1:=Kbj hta;have hx:=vss_mem hv x (Kcs e);obtain ⟨t,r,f1,f2⟩:=(hs_s hx d).app (tks (pSs d post)++((3,⟨#[125]⟩,0)::ts));have hno:=hta1;rw [f1] at hno;have hlp:=Kea e;rw [hF];show T (Option.bind ((KI (Gr L (a+(tks (pSs d pre)).length) v o) _).bind _) _) _
  rw [Kc5 hL hno (fun h=>(f2 h).1),Option.bind_some,Option.bind_some];show T ((one (Gr L (a+(tks (pSs d pre)).length) v o)).bind _) _
  have hvp:VSs b post:=by
   have:∀ (pre:List Ki),VSs b (pre++x::post)→VSs b post:=by
    intro pre;induction pre with
    | nil=>intro h;cases h with|cons _ _ _ _ h2=>exact h2
    | cons y pre ih=>intro h;cases h with|cons _ _ _ _ h2=>exact ih h2
   exact this pre (by rw [← e];exact hv)
  obtain ⟨t',r',g1,g2⟩:=pSs_hs hvp d ts;refine T.bind (hone _ x _ (by omega) hx hta1 ⟨t',r',g1,fun h=>(g2 h).2⟩) fun q hq=>?_
  obtain ⟨q1,q2⟩:=hq;rw [Kct (by omega) (by simp;omega),Option.bind_some,q2];refine T.next ⟨l'++[q.1],?_,by rw [Kfw,Kfw,e1];simp only [stSs,q1],by simp [e2]⟩;rw [Kd0,K8];simp only [pSs];rw [K8];simp only [List.length_append,tks,List.length_nil];rw [show a+((tks (pSs d pre)).length+((tks (pS d x)).length+0))=a+(tks (pSs d pre)).length+(tks (pS d x)).length by omega]
 obtain ⟨l',rfl,e1,e2⟩:=hi;have hta1:=Kbj h;rw [hF];show T (Option.bind ((KI (Gr L (a+(tks (pSs d l)).length) v o) _).bind _) _) _
 rw [Kcj hL hta1];exact T.done ⟨e1,by rw [show a+((tks (pSs d l)).length+1)=a+(tks (pSs d l)).length+1 by omega]⟩
theorem open_ta {a o:Nat}(ho:o < 24){ts:List Tk}(h:TA L a ((3,⟨#[123]⟩,0)::ts)){β:Type}{f:List Kr×Int×Int×Int×Int→Option β}{Q:β→Prop}(g:T (f (L,((a+1:Nat):Int),0,v,(o:Int))) Q) :
  T ((KC (Gr L a v o) qZ7).bind fun x1=>(Option.bind (α:=List Kr×Int×Int×Int×Int) (bif (decide ((24:Int)≤x1.gOpen)) then ((K9 x1 (Gr L a v o).gAt (5:Int)).bind fun x6=>some (x6.gL,x6.gAt,x6.gE,x6.gVars,x6.gOpen)) else some (x1.gL,x1.gAt,x1.gE,x1.gVars,x1.gOpen)) f)) Q:=by
 rw [geat1 hL h,Option.bind_some];show T (Option.bind (bif decide ((24:Int)≤(o:Int)) then _ else some (L,((a+1:Nat):Int),0,v,(o:Int))) f) Q
 rw [decide_eq_false (by omega)];exact g
theorem st_ta:∀ N:Nat,(∀ (a b d o:Nat) (s:Ki) (ts:List Tk),VS b s→o+b≤24→TA L a (tks (pS d s)++ts)→nEl ts→2*(L.length+1 - a)+1≤N→T ((SG N).1 (Gr L a v o)) (RT L a (tks (pS d s)).length v o s)) ∧
  (∀ (a b d o:Nat) (l:List Ki) (ts:List Tk),VSs b l→o+1+b≤24→TA L a ((3,⟨#[123]⟩,0)::(tks (pSs d l)++((3,⟨#[125]⟩,0)::ts)))→2*(L.length+1 - a)+2≤N→T ((SG N).2 (Gr L a v o)) fun r=>stSs r.1=stSs l∧r.2=Gr L (a+((tks (pSs d l)).length+2)) v o)
 | 0=>⟨fun _ _ _ _ _ _ _ _ _ _ h=>by omega,fun _ _ _ _ _ _ _ _ _ h=>by omega⟩
 |
  N+1=>by
  obtain ⟨iS,iB⟩:=st_ta N;refine ⟨fun a b d o s ts hv ho h hn hN=>?_,fun a b d o l ts hv ho h hN=>?_⟩
  ·show T (Kax (SG N).1 (SG N).2 (Gr L a v o)) _
   unfold Kax;obtain ⟨t,r,e1,e2⟩:=hs_s hv d;have h0:=h;rw [e1,List.cons_append] at h0;obtain ⟨x,x1,x2⟩:=Kdf (v:=v) (o:=(o:Int)) hL h0;have hk:x.gKind=t.1:=congrArg Prod.fst x2;rw [x1,Option.bind_some,hk];have nam:¬(s.gOp=6∨s.gOp=7)→t.1=1→T (bif (t.1==(1:Int)) then ((Kaw (Gr L a v o) (⟨(0:Int),ByteArray.empty,ByteArray.empty,[],[],[],x.gAt⟩:Ki)).bind fun x6=>some (x6.1,x6.2)) else none) (RT L a (tks (pS d s)).length v o s):=fun h67 ht=>by
    rw [ht];rw [Kci h67] at h e1 ⊢;exact T.bind (named_ta hL hv e1 ht (by omega) (by omega) h _) fun q hq=>T.ret hq
   have no:∀ {w:ByteArray},t.1=3→t.2.1 ≠ w→KI (Gr L a v o) w=some (false,Gr L a v o):=fun h1 h2=>Kc5 hL h0 fun _=>h2
   cases hv with
   |
    assign d' s e p hs he=>
    have ht:t.1=1:=by rw [Kci (by simp)] at e1;rw [← (List.cons.inj e1).1]
    have:=nam (by simp) ht;rw [ht] at this ⊢;exact this
   |
    put d' s e f p hs he hf=>
    have ht:t.1=1:=by rw [Kci (by simp)] at e1;rw [← (List.cons.inj e1).1]
    have:=nam (by simp) ht;rw [ht] at this ⊢;exact this
   |
    call d' f es p hf he=>
    have ht:t.1=1:=by rw [Kci (by simp)] at e1;rw [← (List.cons.inj e1).1]
    have:=nam (by simp) ht;rw [ht] at this ⊢;exact this
   |
    callTo d' s f es p hs hf he=>
    have ht:t.1=1:=by
     have hne:s ≠ ByteArray.empty:=fun e=>by
      obtain ⟨c,r,h,_⟩:=hs.al.hd;rw [e] at h;cases h
     rw [Kci (by simp),show tks (pFs ⟨4,s,f,es,[],[],p⟩)=(1,s,0)::(3,⟨#[61]⟩,0)::(1,f,0)::(3,⟨#[40]⟩,0)::(tks (Kal (es.map pE))++[(3,⟨#[41]⟩,0),(3,⟨#[59]⟩,0)]) by simp [pFs,pF,tks,K8,hne]] at e1;rw [← (List.cons.inj e1).1]
    have:=nam (by simp) ht;rw [ht] at this ⊢;exact this
   |
    input d' s p hs=>
    have ht:t.1=1:=by rw [Kci (by simp)] at e1;rw [← (List.cons.inj e1).1]
    have:=nam (by simp) ht;rw [ht] at this ⊢;exact this
   |
    store d' s e p hs he=>
    have htk:tks (pS d ⟨3,s,ByteArray.empty,[e],[],[],p⟩)=(3,⟨#[42]⟩,0)::(1,s,0)::(3,⟨#[61]⟩,0)::(tks (pE e)++[(3,⟨#[59]⟩,0)]):=by rw [Kci (by simp)];simp [pFs,pF,tks,K8]
    have ht:t=(3,⟨#[42]⟩,0):=by rw [htk] at e1;exact (List.cons.inj e1).1.symm
    subst ht;rw [htk] at h ⊢;simp only [List.cons_append,List.append_assoc,List.nil_append] at h;refine T.cond (fun h=>by cases h) fun _=>?_
    rw [Kcj hL h,Option.bind_some];refine T.cond (fun _=>?_) fun h=>by cases h
    have h1:=(K0 h).2.2;have h2:=(K0 h1).2.2;have h3:=(K0 h2).2.2;show T ((Kaa (Gr L (a+1) v o)).bind _) _
    rw [KcO hL h1,Option.bind_some];show T ((KC (Gr L (a+1+1) v o) _).bind _) _
    rw [geat1 hL h2,Option.bind_some];refine T.bind (Kdv hL he h3 (fol59 _ _)) fun q hq=>?_
    obtain ⟨q1,q2⟩:=hq;rw [q1,geat1 hL (Kbj h3)];refine T.ret ⟨by simp only [stS,stEs,stSs,q2],?_⟩;show Gr L _ v o=_
    simp only [List.length_cons,List.length_append,List.length_nil];rw [show a+1+1+1+(tks (pE e)).length+1=a+((tks (pE e)).length+(0+1)+1+1+1) by omega]
   |
    ret d' e p he=>
    have htk:tks (pS d ⟨8,ByteArray.empty,ByteArray.empty,[e],[],[],p⟩)=(3,⟨#[114,101,116,117,114,110]⟩,0)::(tks (pE e)++[(3,⟨#[59]⟩,0)]):=by rw [Kci (by simp)];simp [pFs,pF,tks,K8]
    have ht:t=(3,⟨#[114,101,116,117,114,110]⟩,0):=by rw [htk] at e1;exact (List.cons.inj e1).1.symm
    subst ht;rw [htk] at h ⊢;simp only [List.cons_append,List.append_assoc,List.nil_append] at h;refine T.cond (fun h=>by cases h) fun _=>?_
    rw [no rfl (by decide),Option.bind_some];refine T.cond (fun h=>by cases h) fun _=>?_
    rw [no rfl (by decide),Option.bind_some];refine T.cond (fun h=>by cases h) fun _=>?_
    rw [no rfl (by decide),Option.bind_some];refine T.cond (fun h=>by cases h) fun _=>?_
    rw [Kcj hL h,Option.bind_some];refine T.cond (fun _=>?_) fun h=>by cases h
    have h1:=(K0 h).2.2;refine T.bind (Kdv hL he h1 (fol59 _ _)) fun q hq=>?_
    obtain ⟨q1,q2⟩:=hq;rw [q1,geat1 hL (Kbj h1)];refine T.ret ⟨by simp only [stS,stEs,stSs,q2],?_⟩;show Gr L _ v o=_
    simp only [List.length_cons,List.length_append,List.length_nil];rw [show a+1+(tks (pE e)).length+1=a+((tks (pE e)).length+(0+1)+1) by omega]
   |
    assert d' e p he=>
    have htk:tks (pS d ⟨9,ByteArray.empty,ByteArray.empty,[e],[],[],p⟩)=(3,⟨#[97,115,115,101,114,116]⟩,0)::(3,⟨#[40]⟩,0)::(tks (pE e)++[(3,⟨#[41]⟩,0),(3,⟨#[59]⟩,0)]):=by rw [Kci (by simp)];simp [pFs,pF,tks,K8]
    have ht:t=(3,⟨#[97,115,115,101,114,116]⟩,0):=by rw [htk] at e1;exact (List.cons.inj e1).1.symm
    subst ht;rw [htk] at h ⊢;simp only [List.cons_append,List.append_assoc,List.nil_append] at h;refine T.cond (fun h=>by cases h) fun _=>?_
    rw [no rfl (by decide),Option.bind_some];refine T.cond (fun h=>by cases h) fun _=>?_
    rw [no rfl (by decide),Option.bind_some];refine T.cond (fun h=>by cases h) fun _=>?_
    rw [no rfl (by decide),Option.bind_some];refine T.cond (fun h=>by cases h) fun _=>?_
    rw [no rfl (by decide),Option.bind_some];refine T.cond (fun h=>by cases h) fun _=>?_
    rw [Kcj hL h,Option.bind_some];refine T.cond (fun _=>?_) fun h=>by cases h
    have h1:=(K0 h).2.2;refine T.bind (test_ta hL he h1) fun q hq=>?_
    obtain ⟨q1,q2⟩:=hq;have h2:=Kbj (us:=(3,⟨#[40]⟩,0)::(tks (pE e)++[(3,⟨#[41]⟩,0)])) (ts:=(3,⟨#[59]⟩,0)::ts) (by simpa only [List.cons_append,List.append_assoc,List.nil_append] using h1);simp only [List.length_cons,List.length_append,List.length_nil] at h2;rw [q2,show a+1+((tks (pE e)).length+2)=a+1+((tks (pE e)).length+(0+1)+1) by omega,geat1 hL h2];refine T.ret ⟨by simp only [stS,stEs,stSs,q1],?_⟩;show Gr L _ v o=_
    simp only [List.length_cons,List.length_append,List.length_nil];rw [show a+1+((tks (pE e)).length+(0+1)+1)+1=a+((tks (pE e)).length+(0+1+1)+1+1) by omega]
   |
    ite d' e ks ls p he hks hls=>
    have htk:=pS_67 (d:=d) (s:=ByteArray.empty) (f:=ByteArray.empty) (e:=e) (ks:=ks) (ls:=ls) (p:=p) (Or.inl (rfl:(6:Int)=6));rw [if_pos rfl] at htk;have ht:t=(3,⟨#[105,102]⟩,0):=by rw [htk] at e1;exact (List.cons.inj e1).1.symm
    subst ht;rw [htk] at h ⊢;simp only [List.cons_append,List.append_assoc,List.nil_append] at h;refine T.cond (fun h=>by cases h) fun _=>?_
    rw [no rfl (by decide),Option.bind_some];refine T.cond (fun h=>by cases h) fun _=>?_
    rw [Kcj hL h,Option.bind_some];refine T.cond (fun _=>?_) fun h=>by cases h
    have h1:=(K0 h).2.2;refine T.bind (test_ta hL he h1) fun q hq=>?_
    obtain ⟨q1,q2⟩:=hq;have h2:=Kbj (us:=(3,⟨#[40]⟩,0)::(tks (pE e)++[(3,⟨#[41]⟩,0)])) (by simpa only [List.cons_append,List.append_assoc,List.nil_append] using h1);simp only [List.length_cons,List.length_append,List.length_nil] at h2;rw [q2,show a+1+((tks (pE e)).length+2)=a+1+((tks (pE e)).length+(0+1)+1) by omega];have hlt0:=ta_lt h;have hlt2:=ta_lt h2;generalize hc:a+1+((tks (pE e)).length+(0+1)+1)=c at *;refine T.bind (iB c d' (d+1) o ks _ hks (by omega) h2 (by omega)) fun w hw=>?_
    obtain ⟨w1,w2⟩:=hw;have h3:=Kbj (us:=(3,⟨#[123]⟩,0)::(tks (pSs (d+1) ks)++[(3,⟨#[125]⟩,0)])) (by simpa only [List.cons_append,List.append_assoc,List.nil_append] using h2);simp only [List.length_cons,List.length_append,List.length_nil] at h3;rw [w2,show c+((tks (pSs (d+1) ks)).length+2)=c+((tks (pSs (d+1) ks)).length+(0+1)+1) by omega];generalize hc2:c+((tks (pSs (d+1) ks)).length+(0+1)+1)=c2 at *;cases ls with
    |
     nil=>
     simp only [List.isEmpty_nil,if_true,List.nil_append] at h3;obtain ⟨t',r',f1,f2⟩:=hn;rw [f1] at h3;rw [Kc5 hL h3 f2];refine T.ret ⟨by simp only [stS,stEs,stSs,q1,w1],?_⟩;show Gr L _ v o=_
     simp only [List.length_cons,List.length_append,List.length_nil,List.isEmpty_nil,if_true];rw [show a+((tks (pE e)).length+((tks (pSs (d+1) ks)).length+(0+1)+1+1)+1+1)=c2 by omega]
    |
     cons y ls=>
     simp only [List.isEmpty_cons,Bool.false_eq_true,if_false,List.cons_append,List.append_assoc,List.nil_append] at h3;rw [Kcj hL h3,Option.bind_some];refine T.cond (fun _=>?_) fun h=>by cases h
     refine T.bind (iB (c2+1) d' (d+1) o (y::ls) _ hls (by omega) (K0 h3).2.2 (by have:=ta_lt h3;omega)) fun z hz=>?_
     obtain ⟨z1,z2⟩:=hz;refine T.ret ⟨by simp only [stS,stEs,q1,w1,z1],?_⟩;show z.2=_
     rw [z2];simp only [List.length_cons,List.length_append,List.length_nil,List.isEmpty_cons,Bool.false_eq_true,if_false];rw [show a+((tks (pE e)).length+((tks (pSs (d+1) ks)).length+((tks (pSs (d+1) (y::ls))).length+(0+1)+1+1+1)+1+1)+1+1)=c2+1+((tks (pSs (d+1) (y::ls))).length+2) by omega]
   |
    loop d' e ks p he hks=>
    have htk:=pS_67 (d:=d) (s:=ByteArray.empty) (f:=ByteArray.empty) (e:=e) (ks:=ks) (ls:=[]) (p:=p) (Or.inr (rfl:(7:Int)=7));rw [if_neg (by decide)] at htk;have ht:t=(3,⟨#[119,104,105,108,101]⟩,0):=by rw [htk] at e1;exact (List.cons.inj e1).1.symm
    subst ht;rw [htk] at h ⊢;simp only [List.cons_append,List.append_assoc,List.nil_append,List.isEmpty_nil,if_true] at h;refine T.cond (fun h=>by cases h) fun _=>?_
    rw [no rfl (by decide),Option.bind_some];refine T.cond (fun h=>by cases h) fun _=>?_
    rw [no rfl (by decide),Option.bind_some];refine T.cond (fun h=>by cases h) fun _=>?_
    rw [Kcj hL h,Option.bind_some];refine T.cond (fun _=>?_) fun h=>by cases h
    have h1:=(K0 h).2.2;refine T.bind (test_ta hL he h1) fun q hq=>?_
    obtain ⟨q1,q2⟩:=hq;have h2:=Kbj (us:=(3,⟨#[40]⟩,0)::(tks (pE e)++[(3,⟨#[41]⟩,0)])) (by simpa only [List.cons_append,List.append_assoc,List.nil_append] using h1);simp only [List.length_cons,List.length_append,List.length_nil] at h2;rw [q2,show a+1+((tks (pE e)).length+2)=a+1+((tks (pE e)).length+(0+1)+1) by omega];have hlt0:=ta_lt h;have hlt2:=ta_lt h2;generalize hc:a+1+((tks (pE e)).length+(0+1)+1)=c at *;refine T.bind (iB c d' (d+1) o ks _ hks (by omega) h2 (by omega)) fun w hw=>T.ret ?_
    obtain ⟨w1,w2⟩:=hw;refine ⟨by simp only [stS,stEs,stSs,q1,w1],?_⟩;show w.2=_
    rw [w2];simp only [List.length_cons,List.length_append,List.length_nil,List.isEmpty_nil,if_true];rw [show a+((tks (pE e)).length+((tks (pSs (d+1) ks)).length+(0+1)+1+1)+1+1)=c+((tks (pSs (d+1) ks)).length+2) by omega]
  show T (Kat (SG N).1 (SG N).2 (Gr L a v o)) _
  unfold Kat grammar_nothing;refine open_ta hL (by omega) h ?_;rw [Option.bind_some];have hlt:=ta_lt h;have hw:IntKind.i64.wrap ((o:Int)+1)=((o+1:Nat):Int):=wn (by omega);simp only;rw [hw];refine T.bind (blk_ta hL (v:=v) (o:=((o+1:Nat):Int)) (d:=d) (b:=b) (a0:=a+1) (fun a' s' ts' ha' hv' hta' hn'=>iS a' b d (o+1) s' ts' hv' (by omega) hta' hn' (by omega)) (fun _=>rfl) (Nat.le_refl _) hv (K0 h).2.2) fun s hs=>T.ret ?_
  obtain ⟨s1,s2⟩:=hs;refine ⟨s1,?_⟩;rw [s2];show (⟨L,_,0,v,IntKind.i64.wrap (((o+1:Nat):Int) - 1)⟩:Ka)=_
  rw [show IntKind.i64.wrap (((o+1:Nat):Int) - 1)=(o:Int) by rw [IntKind.wrap_i64];omega,show a+1+((tks (pSs d l)).length+1)=a+((tks (pSs d l)).length+2) by omega]
theorem stmt_ta {a b d o:Nat}{s:Ki}{ts:List Tk}(hv:VS b s)(ho:o+b≤24)(h:TA L a (tks (pS d s)++ts))(hn:nEl ts):T (KbR (Gr L a v o)) (RT L a (tks (pS d s)).length v o s):=by
 obtain ⟨r,h1,h2⟩:=(st_ta hL (2*(L.length+1 - a)+1)).1 a b d o s ts hv ho h hn (Nat.le_refl _);exact ⟨r,Kdo _ _ h1,h2⟩
end
end
section
open Go
set_option linter.all false
mutual
theorem sz_stE:∀ e,szE (stE e)=szE e
 | ⟨a,b,c,ks,d⟩=>by simp only [stE,szE,sz_stEs ks]
theorem sz_stEs:∀ l,szEs (stEs l)=szEs l
 | []=>rfl
 | e::l=>by simp only [stEs,szEs,sz_stE e,sz_stEs l]
end
mutual
theorem sz_stS:∀ s,szS (stS s)=szS s
 | ⟨a,b,c,es,ks,ls,d⟩=>by simp only [stS,szS,sz_stEs es,KfU ks,KfU ls]
theorem KfU:∀ l,szSs (stSs l)=szSs l
 | []=>rfl
 | e::l=>by simp only [stSs,szSs,sz_stS e,KfU l]
end
theorem KgN:∀ l:List K3,tks (pLs l)=l.flatMap fun v=>tks (pV v)++[(3,⟨#[59]⟩,0)]
 | []=>rfl
 |
  v::l=>by
  show tks (ind 1 (pV v++[mk ⟨#[59]⟩])++pLs l)=_
  rw [K8,KeL,K8,KgN l];simp [tks]
theorem tks_pFn (f:K1):tks (pFn f)=(3,⟨#[105,110,116]⟩,0)::(1,f.gName,0)::(3,⟨#[40]⟩,0)::(tks (Kal (f.gParams.map pV))++((3,⟨#[41]⟩,0)::(3,⟨#[123]⟩,0)::(tks (pLs f.gLocals)++(tks (pSs 1 f.gBody)++[(3,⟨#[125]⟩,0)])))):=by
 unfold pFn;simp [K8,KeL,tks]
structure SF (g f:K1):Prop where
 nm:g.gName=f.gName
 ps:g.gParams=f.gParams
 ls:g.gLocals=f.gLocals
 body:stSs g.gBody=stSs f.gBody
section
variable {L : List Kr} (hL : L.length ≤ 5000)
include hL
theorem locals_ta {a n o:Nat}{l:List K3}(hn:n+l.length≤16){ts:List Tk}(h:TA L a (tks (pLs l)++ts))(hts:∃ t r,ts=t::r∧(t.1=3→t.2.1 ≠ ⟨#[105,110,116]⟩))(f:K1)(hf:f.gLocals=[]):T (KaH f (Gr L a (n:Int) (o:Int))) fun r=>r=(Gr L (a+(tks (pLs l)).length) ((n+l.length:Nat):Int) (o:Int),⟨f.gName,f.gParams,l,f.gBody,f.gAt⟩):=by
 obtain ⟨t0,r0,ht0,ht1⟩:=hts;unfold KaH;refine T.bind (P:=fun s:List Kr×Int×Int×Int×Int×List K3=>s=(L,((a+(tks (pLs l)).length:Nat):Int),0,((n+l.length:Nat):Int),(o:Int),l)) (T.each l (fun pre s=>s=(L,((a+(tks (pLs pre)).length:Nat):Int),0,((n+pre.length:Nat):Int),(o:Int),pre)) (by rw [hf];rfl) (fun pre x post s e hi=>?_) fun s hi=>?_) fun s hs=>T.ret (by rw [hs])
 ·subst hi;have hta:=h;rw [e,KeE,K8,List.append_assoc] at hta;have e2:tks (pLs (x::post))=tks (pV x)++((3,⟨#[59]⟩,0)::tks (pLs post)):=by rw [KgN,KgN];simp
  rw [e2,List.append_assoc,List.cons_append] at hta;have hta1:=Kbj hta;have hlp:=Kea e;have hint:=hta1;rw [tks_pV,List.cons_append] at hint;show T (Option.bind ((Kaf (Gr L (a+(tks (pLs pre)).length) ((n+pre.length:Nat):Int) o) 0 (ByteArray.mk #[105,110,116])).bind fun x58=>some x58) _) _
  rw [gis_ta hL hint,Option.bind_some,Option.bind_some];refine T.cond (fun _=>?_) fun h=>absurd (of_decide_eq_false (show decide ((⟨#[105,110,116]⟩:ByteArray)=⟨#[105,110,116]⟩)=false from h)) (fun h=>h rfl)
  show T ((Kas (Gr L (a+(tks (pLs pre)).length) ((n+pre.length:Nat):Int) o)).bind _) _
  refine T.bind (var_ta hL (by omega) hta1) fun q hq=>?_
  obtain ⟨q1,q2⟩:=hq;rw [Kct (by omega) (by simp;omega),Option.bind_some,q1,q2,geat1 hL (Kbj hta1)];refine T.next ?_;have e3:tks (pLs (pre++[x]))=tks (pLs pre)++(tks (pV x)++[(3,⟨#[59]⟩,0)]):=by rw [KeE,K8];congr 1;rw [KgN];simp
  rw [e3];simp only [List.length_append,List.length_cons,List.length_nil];rw [show a+(tks (pLs pre)).length+(tks (pV x)).length+1=a+((tks (pLs pre)).length+((tks (pV x)).length+(0+1))) by omega,show n+pre.length+1=n+(pre.length+(0+1)) by omega]
 subst hi;have hta1:=Kbj h;rw [ht0] at hta1;show T (Option.bind ((Kaf (Gr L (a+(tks (pLs l)).length) ((n+l.length:Nat):Int) o) 0 (ByteArray.mk #[105,110,116])).bind fun x58=>some x58) _) _
 rw [gis_ta hL hta1];have hno:(bif t0.1==(3:Int) then decide (t0.2.1=(ByteArray.mk #[105,110,116])) else false)=false:=by
  cases h3:t0.1==3 with
  | false=>rfl
  | true=>exact decide_eq_false (ht1 (by simpa using h3))
 rw [hno];exact T.done rfl
theorem func_ta {f:K1}(hf:VF f)(h:TA L 0 (tks (pFn f)++[(0,ByteArray.empty,0)])):T (KaF (Gr L 0 0 0)) fun r=>(r.2.gE=6∧0≤r.2.gAt∧r.2.gAt≤(L.length:Int))∨(r.2.gE=0∧r.2.gAt=((tks (pFn f)).length:Int)∧SF r.1 f):=by
 have hmany:=hf.many;have hh:=h;rw [tks_pFn] at h;simp only [List.cons_append,List.append_assoc,List.nil_append] at h;have h1:=(K0 h).2.2;have h2:=(K0 h1).2.2;have h3:=Kbj (us:=(3,⟨#[40]⟩,0)::(tks (Kal (f.gParams.map pV))++[(3,⟨#[41]⟩,0)])) (by simpa only [List.cons_append,List.append_assoc,List.nil_append] using h2);simp only [List.length_cons,List.length_append,List.length_nil] at h3;have h4:=(K0 h3).2.2;have h5:=Kbj h4;have hlt:=ta_lt h;obtain ⟨x,x1,_⟩:=Kdf (v:=0) (o:=0) hL h;unfold KaF;rw [x1,Option.bind_some,geat1 hL h,Option.bind_some];show T ((Kaa (Gr L (0+1) 0 0)).bind _) _
 rw [KcO hL h1,Option.bind_some];refine T.bind (listV_ta hL (by omega) h2) fun q hq=>?_
 obtain ⟨q1,q2⟩:=hq;rw [q1,q2,show 0+1+1+((tks (Kal (f.gParams.map pV))).length+2)=0+1+1+((tks (Kal (f.gParams.map pV))).length+(0+1)+1) by omega];generalize hc:0+1+1+((tks (Kal (f.gParams.map pV))).length+(0+1)+1)=c at *;refine T.bind (P:=fun r=>stSs r.1=stSs f.gBody∧r.2.1=Gr L (c+1+(tks (pLs f.gLocals)).length+((tks (pSs 1 f.gBody)).length+1)) ((f.gParams.length+f.gLocals.length:Nat):Int) 0∧r.2.2=⟨f.gName,f.gParams,f.gLocals,[],x.gAt⟩) ?_ fun r hr=>?_
 ·unfold Kbt;refine open_ta hL (o:=0) (by omega) h3 ?_;have hw:IntKind.i64.wrap (((0:Nat):Int)+1)=((1:Nat):Int):=wn (by omega);simp only;rw [hw];refine T.bind (locals_ta hL (n:=f.gParams.length) (o:=1) hmany h4 ?_ _ rfl) fun w hw'=>?_
  ·obtain ⟨t,r,e1,e2⟩:=pSs_hs hf.body 1 [(0,ByteArray.empty,0)];exact ⟨t,r,e1,fun h=>(e2 h).1⟩
  subst hw';refine T.bind (blk_ta hL (o:=((1:Nat):Int)) (d:=1) (b:=23) (a0:=0) (fun a' s' ts' _ hv' hta' hn'=>stmt_ta hL (o:=1) hv' (by omega) hta' hn') (fun _=>rfl) (Nat.zero_le _) hf.body h5) fun s hs=>T.ret ?_
  obtain ⟨s1,s2⟩:=hs;refine ⟨s1,?_,rfl⟩;simp only;rw [s2];show (⟨L,_,0,_,IntKind.i64.wrap (((1:Nat):Int) - 1)⟩:Ka)=_
  rw [show IntKind.i64.wrap (((1:Nat):Int) - 1)=0 by rw [IntKind.wrap_i64];omega]
 obtain ⟨r1,r2,r3⟩:=hr;rw [r2,r3];have hsz:szSs r.1≤1048576:=by rw [← KfU,r1,KfU];exact hf.size
 have hpos:c+1+(tks (pLs f.gLocals)).length+((tks (pSs 1 f.gBody)).length+1)=(tks (pFn f)).length:=by
  rw [tks_pFn];simp only [List.length_cons,List.length_append,List.length_nil];omega
 refine T.bind (P:=fun _=>True) (T.cond (fun _=>T.bind (sizes_t hsz) fun _ _=>T.ret trivial) fun _=>T.ret trivial) fun b _=>T.cond (fun _=>?_) fun _=>T.ret (.inr ⟨rfl,by rw [hpos],rfl,rfl,rfl,r1⟩)
 refine T.bind (P:=fun q=>q.gE=6∧q.gAt=((0+1:Nat):Int)) (T.ret ⟨rfl,rfl⟩) fun q hq=>T.ret (.inl ⟨hq.1,?_⟩)
 simp only;rw [hq.2];omega
theorem gl_ta {g:Kaq}(hg:VG g)(h:TA L 0 (tks (pGl g)++[(0,ByteArray.empty,0)])):T (KaQ (Gr L 0 0 0)) fun r=>r.2=Gr L (tks (pGl g)).length 0 0∧r.1.gName=g.gName∧r.1.gPtr=g.gPtr∧r.1.gSize=g.gSize:=by
 have h1:=hg.lo;have h2:=hg.hi
 obtain ⟨x,x1,_⟩:=Kdf (v:=0) (o:=0) hL (t:=(3,⟨#[105,110,116]⟩,0)) (a:=0) (ts:=(tks (pGl g)++[(0,ByteArray.empty,0)]).tail) (by
  rw [show tks (pGl g)=(3,⟨#[105,110,116]⟩,0)::(tks (pGl g)).tail by unfold pGl;rw [K8,tks_pV];rfl] at h;exact h)
 unfold KaQ;rw [x1,Option.bind_some];obtain ⟨nm_,ptr,sz,p⟩:=g;cases ptr with
 |
  true=>
  have hs:=hg.ptr rfl;simp only at hs h1 h2;subst hs;have htk:tks (pGl ⟨nm_,true,0,p⟩)=[(3,⟨#[105,110,116]⟩,0),(3,⟨#[42]⟩,0),(1,nm_,0),(3,⟨#[59]⟩,0)]:=by simp [pGl,pV,tks]
  rw [htk] at h ⊢;simp only [List.cons_append,List.nil_append] at h;have k1:=(K0 h).2.2;have k2:=(K0 k1).2.2;have k3:=(K0 k2).2.2;rw [geat1 hL h,Option.bind_some,Kcj hL k1,Option.bind_some];show T ((Kaa (Gr L (0+1+1) 0 0)).bind _) _
  rw [KcO hL k2,Option.bind_some];show T ((KC (Gr L (0+1+1+1) 0 0) _).bind _) _
  rw [geat1 hL k3];exact T.ret ⟨rfl,rfl,rfl,rfl⟩
 |
  false=>
  simp only at h1 h2;by_cases hz:0 < sz
  ·have htk:tks (pGl ⟨nm_,false,sz,p⟩)=[(3,⟨#[105,110,116]⟩,0),(1,nm_,0),(3,⟨#[91]⟩,0),(2,itoaB sz,sz),(3,⟨#[93]⟩,0),(3,⟨#[59]⟩,0)]:=by simp [pGl,pV,tks,hz]
   rw [htk] at h ⊢;simp only [List.cons_append,List.nil_append] at h;have k1:=(K0 h).2.2;have k2:=(K0 k1).2.2;have k3:=(K0 k2).2.2;have k4:=(K0 k3).2.2;have k5:=(K0 k4).2.2;have l3:=ta_lt k3;rw [geat1 hL h,Option.bind_some,Kc5 hL k1 (fun h=>by cases h),Option.bind_some];show T ((Kaa (Gr L (0+1) 0 0)).bind _) _
   rw [KcO hL k1,Option.bind_some];show T (Option.bind ((KI (Gr L (0+1+1) 0 0) qZ9).bind _) _) _
   rw [Kcj hL k2,Option.bind_some,Option.bind_some];obtain ⟨y,y1,y2⟩:=Kdf (v:=0) (o:=0) hL k3;have hk:y.gKind=2:=congrArg Prod.fst y2;have hn:y.gN=sz:=congrArg (fun t:Tk=>t.2.2) y2;refine T.bind (P:=fun z=>z=(L,((0+1+1+1+1+1:Nat):Int),0,0,0,sz)) (T.cond (fun _=>?_) fun h=>by cases h) fun z hz=>?_
   ·show T ((KZ (Gr L (0+1+1+1) 0 0) 0).bind _) _
    rw [y1,Option.bind_some,hk,hn];refine T.bind (P:=fun z=>z=(L,((0+1+1+1+1:Nat):Int),0,0,0,sz)) (T.bind (P:=fun z=>z=(L,((0+1+1+1+1:Nat):Int),0,0,0,sz)) (T.cond (fun h=>by cases h) fun _=>?_) fun z hz=>T.ret (by rw [hz])) fun z hz=>?_
    ·refine T.bind (P:=fun b=>b=false) (T.cond (fun h=>?_) fun _=>T.ret (decide_eq_false (by omega))) fun b hb=>?_
     ·have:=of_decide_eq_true h;omega
     subst hb;refine T.bind (P:=fun z=>z=(L,((0+1+1+1+1:Nat):Int),0,0,0,sz)) (T.cond (fun h=>by cases h) fun _=>T.ret ?_) fun z hz=>T.ret (by rw [hz])
     show (L,IntKind.i64.wrap (((0+1+1+1:Nat):Int)+1),_,_,_,_)=_
     rw [wn (by omega)]
    subst hz;show T ((KC (Gr L (0+1+1+1+1) 0 0) _).bind _) _
    rw [geat1 hL k4];exact T.ret rfl
   subst hz;show T ((KC (Gr L (0+1+1+1+1+1) 0 0) _).bind _) _
   rw [geat1 hL k5];exact T.ret ⟨rfl,rfl,rfl,rfl⟩
  have hs:sz=0:=by omega
  subst hs;have htk:tks (pGl ⟨nm_,false,0,p⟩)=[(3,⟨#[105,110,116]⟩,0),(1,nm_,0),(3,⟨#[59]⟩,0)]:=by simp [pGl,pV,tks]
  rw [htk] at h ⊢;simp only [List.cons_append,List.nil_append] at h;have k1:=(K0 h).2.2;have k2:=(K0 k1).2.2;rw [geat1 hL h,Option.bind_some,Kc5 hL k1 (fun h=>by cases h),Option.bind_some];show T ((Kaa (Gr L (0+1) 0 0)).bind _) _
  rw [KcO hL k1,Option.bind_some];show T (Option.bind ((KI (Gr L (0+1+1) 0 0) qZ9).bind _) _) _
  rw [Kc5 hL k2 (fun _=>by decide),Option.bind_some,Option.bind_some];show T ((KC (Gr L (0+1+1) 0 0) _).bind _) _
  rw [geat1 hL k2];exact T.ret ⟨rfl,rfl,rfl,rfl⟩
end
theorem KgO {l:List Pc}{L:List Kr}(h:L.map sk=tks l++[(0,ByteArray.empty,0)]):TA L 0 (tks l++[(0,ByteArray.empty,0)])∧L.length=(tks l).length+1:=by
 refine ⟨by unfold TA;rw [List.drop_zero,h],?_⟩;have:=congrArg List.length h;simpa using this
theorem end_ta {l:List Pc}{L:List Kr}(h:L.map sk=tks l++[(0,ByteArray.empty,0)])(hL:L.length≤5000):∃ t,idx L (min ((tks l).length:Int) (IntKind.i64.wrap ((L.length:Int) - (1:Int))))=some t∧t.gKind=0:=by
 obtain ⟨h1,h2⟩:=KgO h;obtain ⟨_,⟨t,h3,h4⟩,_⟩:=K0 (Kbj h1);refine ⟨t,?_,congrArg Prod.fst h4⟩;have hw:IntKind.i64.wrap ((L.length:Int) - 1)=(L.length:Int) - 1:=by rw [IntKind.wrap_i64];omega
 rw [hw,show min ((tks l).length:Int) ((L.length:Int) - 1)=((tks l).length:Int) by omega,KcR];rw [Nat.zero_add] at h3;exact h3
theorem ftext_ta {f:K1}(hf:VF f):T (KaN (txts (pFn f))) fun r=>r.2.2=6∨(r.2.2=0∧(txts (pFn f)).length≤20000∧SF r.1 f):=by
 unfold KaN KbD;refine T.bind (P:=fun r:K1×Int×Int=>r.2.2=6∨(r.2.2=0∧(txts (pFn f)).length≤20000∧SF r.1 f)) (T.bind (read_is (lxFn hf)) fun x hx=>?_) fun r hr=>T.ret hr
 rcases hx with ⟨hx,_⟩|⟨x1,x2,x3,x4⟩
 ·rw [hx];exact T.ret (.inl rfl)
 rw [x1];have hL:x.1.length≤5000:=by omega
 obtain ⟨h1,h2⟩:=KgO x3;obtain ⟨t,t1,t2⟩:=end_ta x3 hL;refine T.bind (P:=fun r:K1×Int×Int=>(r.2.2=6∧0≤r.2.1∧r.2.1≤(x.1.length:Int))∨(r.2.2=0∧r.2.1=((tks (pFn f)).length:Int)∧SF r.1 f)) ?_ fun y hy=>?_
 ·unfold KcV KbI;show T ((KaF (Gr x.1 0 0 0)).bind _) _
  refine T.bind (func_ta hL hf h1) fun r hr=>?_
  rcases hr with ⟨r1,r2,r3⟩|⟨r1,r2,r3⟩
  ·rw [r1];exact T.ret (.inl ⟨rfl,r2,r3⟩)
  rw [r1];exact T.ret (.inr ⟨rfl,r2,r3⟩)
 rcases hy with ⟨y1,y2,y3⟩|⟨y1,y2,y3⟩
 ·rw [y1];have hw:IntKind.i64.wrap ((x.1.length:Int) - 1)=(x.1.length:Int) - 1:=by rw [IntKind.wrap_i64];omega
  rw [hw];obtain ⟨k,hk⟩:=Int.eq_ofNat_of_zero_le (show 0≤min y.2.1 ((x.1.length:Int) - 1) by omega);rw [hk];exact T.bind (P:=fun _=>True) (T.idx (by omega) fun _ _=>trivial) fun _ _=>T.ret (.inl rfl)
 rw [y1,y2,t1,Option.bind_some,t2];exact T.ret (.inr ⟨rfl,x2,y3⟩)
theorem gtext_ta {g:Kaq}(hg:VG g):T (Kaz (txts (pGl g))) fun r=>r.2.2=0∧r.1.gName=g.gName∧r.1.gPtr=g.gPtr∧r.1.gSize=g.gSize:=by
 have hn:=hg.nm.len;have hlo:=hg.lo;have hhi:=hg.hi
 have hsmall:(txts (pGl g)).length≤100∧(tks (pGl g)).length≤100:=by
  unfold pGl;have h1:=pV_len (v:=⟨g.gName,g.gPtr⟩) hg.nm;have h3:(tks (pV ⟨g.gName,g.gPtr⟩)).length≤3:=by rw [tks_pV];split<;>simp
  refine ⟨?_,?_⟩
  ·rw [KaU];split
   ·have:=Khh (n:=g.gSize) hlo (by omega);rw [tl_mk,tl_nb,tl_mk,tl_mk,tl_sp,Kbi];show _+(1+(_+(1+(1+(1+0)))))≤100
    omega
   rw [tl_mk,tl_sp,Kbi];show _+(1+(1+0))≤100
   omega
  rw [K8,List.length_append];split<;>(simp only [tks,List.length_cons,List.length_nil];omega)
 unfold Kaz Kbr;refine T.bind (P:=fun r:Kaq×Int×Int=>r.2.2=0∧r.1.gName=g.gName∧r.1.gPtr=g.gPtr∧r.1.gSize=g.gSize) (T.bind (read_is (lxG hg)) fun x hx=>?_) fun r hr=>T.ret hr
 rcases hx with ⟨_,hx⟩|⟨x1,x2,x3,x4⟩
 ·omega
 rw [x1];have hL:x.1.length≤5000:=by omega
 obtain ⟨h1,h2⟩:=KgO x3;obtain ⟨t,t1,t2⟩:=end_ta x3 hL;refine T.bind (P:=fun r:Kaq×Int×Int=>r.2=(((tks (pGl g)).length:Int),0)∧r.1.gName=g.gName∧r.1.gPtr=g.gPtr∧r.1.gSize=g.gSize) ?_ fun y hy=>?_
 ·unfold Kcv KbI;show T ((KaQ (Gr x.1 0 0 0)).bind _) _
  refine T.bind (gl_ta hL hg h1) fun r hr=>?_
  rw [hr.1];exact T.ret ⟨rfl,hr.2⟩
 obtain ⟨y1,y2⟩:=hy;rw [y1,t1,Option.bind_some,t2];exact T.ret ⟨rfl,y2⟩
theorem etext_ta {l:List Pc}{e:Kc}(hl:Lx l)(ht:tks l=tks (pE e))(he:VX e):T (KbC (txts l)) fun r=>(r.2.2=6∧(20000 < (txts l).length∨4000≤(tks l).length))∨(r.2.2=0∧stE r.1=stE e∧VE r.1):=by
 unfold KbC;refine T.bind (read_is hl) fun x hx=>?_
 rcases hx with ⟨hx,hx2⟩|⟨x1,x2,x3,x4⟩
 ·rw [hx];exact T.ret (.inl ⟨rfl,hx2⟩)
 rw [x1];have hL:x.1.length≤5000:=by omega
 obtain ⟨h1,h2⟩:=KgO x3;obtain ⟨t,t1,t2⟩:=end_ta x3 hL;refine T.bind (expr_ta hL (a:=0) he (by rw [← ht];exact h1) (fol_end _ _ _ _)) fun y hy=>?_
 obtain ⟨y1,y2,y3⟩:=hy;rw [y1];show T (Option.bind ((idx x.1 (min ((0+(tks (pE e)).length:Nat):Int) _)).bind _) _) _
 rw [← ht,Nat.zero_add,t1,Option.bind_some,t2];exact T.ret (.inr ⟨rfl,y2,y3⟩)
end
section
open Go
set_option linter.all false
set_option maxRecDepth 100000
abbrev qZ17:List UInt8:=[(97:UInt8),(45:UInt8),(40:UInt8),(98:UInt8),(45:UInt8),(99:UInt8),(41:UInt8)]
def l14_lives:Option (Bool):=
 ((KbC qZ17).bind fun x1=>(bif (x1.2.2==(0:Int)) then ((KaR x1.1).bind fun x4=>some (decide (x4=(ByteArray.mk #[97,32,45,32,40,98,32,45,32,99,41])))) else some false))
theorem Kd1 (r:Bool)(h0:l14_lives=some r):CallsD Tryz.prog 12 [] [] [] (fun d h k=>d=.v (.bool r)∧h=[]∧k=[]):=by
 have hm:=KD h0;unfold l14_lives at hm;clear h0;refine KT htab Tryz.func12 rfl rfl rfl rfl rfl (fun C=>?_);refine Kg ?_;refine pu ?_;refine KF ?_;refine p_litB htab rfl rfl rfl rfl rfl rfl rfl rfl rfl rfl rfl rfl rfl rfl rfl rfl rfl rfl rfl ?_;refine p_eq (i:=6) (d':=.lst 1 (qZ17.map byteD) .no) rfl (Wk.lst0 (.cons (WkC.refl _) (.cons (WkC.refl _) (.cons (WkC.refl _) (.cons (WkC.refl _) (.cons (WkC.refl _) (.cons (WkC.refl _) (.cons (WkC.refl _) (.nil))))))))) ?_;obtain ⟨x1,q1,hm⟩:=Kb hm
 refine K2 (Kew qZ17 x1 q1) rfl rfl rfl rfl rfl Wl ?_;rintro _ rfl;refine pu ?_;refine pu ?_;refine p_eq (i:=8) rfl (Wk.of_eq (Ko x1.1)) ?_;refine pu ?_;refine pu ?_;refine KY htab rfl rfl rfl rfl rfl rfl rfl (fun b2=>?_);refine pS0 (ds':=[.v (.int .i64 x1.1.gOp),.v (.int .i64 x1.1.gN),.v (.string x1.1.gName),.lst 5 (x1.1.gKids.map Kh) .no,.v (.int .i64 x1.1.gAt)]) ?_;refine pu ?_;refine pu ?_;refine KF ?_;iterate 3 refine pu ?_
 refine Kak (i:=13) rfl (fun hg3=>?_) (fun hg3=>?_)
 ·replace hm:=yes_t hg3 hm;refine Kai (d:=.agg [.v (.int .i64 x1.1.gOp),.v (.int .i64 x1.1.gN),.v (.string x1.1.gName),.lst 5 (x1.1.gKids.map Kh) .no,.v (.int .i64 x1.1.gAt)]) 0 htab rfl rfl rfl rfl rfl rfl rfl rfl ?_;obtain ⟨x4,q4,hm⟩:=Kb hm;refine K2 (KbG x1.1 x4 q4) rfl rfl rfl rfl rfl (WkL.cons (Wk.trans (Wk.agg (WkR.refl _)) (Wk.of_eq (Ko x1.1).symm)) Wl) ?_;rintro _ rfl;refine pu ?_;refine KS rfl rfl rfl rfl rfl rfl ?_;refine pu ?_;refine Ke ?_;refine Kt ?_;have er5:=Kl hm;subst er5
  refine rP (t':=[(0,.v (.bool (decide (x4=(ByteArray.mk #[97,32,45,32,40,98,32,45,32,99,41])))))]) [] [] 0 (wC wN) (lT lN) ?_;exact ⟨rfl,rfl,rfl⟩
 replace hm:=yes_f hg3 hm;iterate 3 refine pK ?_
 refine KW rfl rfl rfl rfl rfl rfl ?_;refine pu ?_;refine Ke ?_;refine Kt ?_;have er6:=Kl hm;subst er6;refine rP (t':=[(0,.v (.bool false))]) [] [] 0 (wC wN) (lT lN) ?_;exact ⟨rfl,rfl,rfl⟩
def KcG (a0:List UInt8):Option (Bool):=
 ((KaN a0).bind fun x4=>(Option.bind (α:=(Unit)⊕(Bool)) (bif (x4.2.2==(0:Int)) then ((KcJ x4.1).bind fun x29=>((KaN x29.data.toList).bind fun x33=>(Option.bind (α:=Bool) (bif (decide ((x29.size:Int)≤(20000:Int))) then (bif (x33.2.2 != (6:Int)) then (bif (x33.2.2 != (0:Int)) then some true else ((KcW x4.1 x33.1 false).bind fun x43=>some (!x43))) else some false) else some false) fun y39=>(bif y39 then some (.inr false) else (Option.bind (α:=Bool) (bif (x33.2.2==(0:Int)) then ((KcJ x33.1).bind fun x50=>some (!decide (x50=x29))) else some false) fun y48=>(bif y48 then some (.inr false) else some (.inl ()))))))) else some (.inl ())) (Sum.elim (fun y27=>((Kaz a0).bind fun x54=>(Option.bind (α:=(Unit)⊕(Bool)) (bif (x54.2.2==(0:Int)) then ((KcT x54.1).bind fun x66=>((Kaz x66.data.toList).bind fun x67=>(Option.bind (α:=Bool) (bif (x67.2.2 != (0:Int)) then some true else (bif (!decide (x67.1.gName=x54.1.gName)) then some true else (bif (!(x67.1.gPtr==x54.1.gPtr)) then some true else some (x67.1.gSize != x54.1.gSize)))) fun y72=>(bif y72 then some (.inr false) else some (.inl ()))))) else some (.inl ())) (Sum.elim (fun y64=>((KbC a0).bind fun x79=>(bif (x79.2.2==(0:Int)) then ((KaR x79.1).bind fun x82=>((KbC x82.data.toList).bind fun x83=>(bif (decide ((x82.size:Int)≤(20000:Int))) then (bif (x83.2.2 != (6:Int)) then (bif (x83.2.2 != (0:Int)) then some false else ((Kd9 x79.1 x83.1).bind fun x89=>(bif (!x89) then some false else (l14_lives.bind fun x92=>some x92)))) else (l14_lives.bind fun x94=>some x94)) else (l14_lives.bind fun x96=>some x96)))) else (l14_lives.bind fun x98=>some x98)))) (fun r=>some r))))) (fun r=>some r))))
theorem l14_PrintBack_ok (a0:List UInt8)(r:Bool)(h0:KcG a0=some r):CallsD Tryz.prog 3 [.lst 1 (a0.map byteD) .no] [] [] (fun d h k=>d=.v (.bool r)∧h=[]∧k=[]):=by
 have hm:=KD h0;unfold KcG at hm;clear h0;refine KT htab Tryz.func3 rfl rfl rfl rfl rfl (fun C=>?_);refine Kg ?_;refine pu ?_;refine KF ?_;refine pu ?_;obtain ⟨x4,q4,hm⟩:=Kb hm;refine pG (Kd4 a0 x4 q4) Wl Pf Pf ?_;rintro _ _ _ ⟨w1,w2,w3,rfl,rfl,rfl⟩;iterate 4 refine pu ?_
 refine KY htab rfl rfl rfl rfl rfl rfl rfl (fun b5=>?_);refine pS0 (ds':=[.v (.string x4.1.gName),.lst 2 (x4.1.gParams.map KA) (.cur w1),.lst 2 (x4.1.gLocals.map KA) (.cur w2),.lst 7 (x4.1.gBody.map Kp) (.cur w3),.v (.int .i64 x4.1.gAt)]) ?_;refine pu ?_;refine pu ?_;refine Ke ?_;refine Ku ?_;refine Kg ?_;refine pu ?_;refine pu ?_;refine Ke ?_;obtain ⟨x27,q27,ho27⟩:=Kb hm;refine KcL (τ:=Unit) (Y:=Unit) (fun y27 z27=>(⟨[(0,.lst 1 (a0.map byteD) .no)],[],[]⟩:S)) x27 ?_ ?_
 ·clear hm;have hm:=KD q27;refine cY hm (fun hm=>?_) fun hm=>?_
  ·refine Kg ?_;refine Kai (d:=.agg [.v (.string x4.1.gName),.lst 2 (x4.1.gParams.map KA) (.cur w1),.lst 2 (x4.1.gLocals.map KA) (.cur w2),.lst 7 (x4.1.gBody.map Kp) (.cur w3),.v (.int .i64 x4.1.gAt)]) 0 htab rfl rfl rfl rfl rfl rfl rfl rfl ?_;obtain ⟨x29,q29,hm⟩:=Kb hm;refine K2 (Kgn x4.1 x29 q29) rfl rfl rfl rfl rfl (WkL.cons (Wk.agg (rC (rO (rO (rO (rC WkR.nil)))))) Wl) ?_;rintro _ rfl;refine pu ?_;refine KF ?_;refine pu ?_;refine p_ofStr htab rfl rfl rfl rfl rfl rfl rfl rfl rfl rfl rfl ?_;obtain ⟨x33,q33,hm⟩:=Kb hm;refine pG (Kd4 x29.data.toList x33 q33) Wl Pf Pf ?_
   rintro _ _ _ ⟨w30,w31,w32,rfl,rfl,rfl⟩;iterate 4 refine pu ?_
   refine KY htab rfl rfl rfl rfl rfl rfl rfl (fun b34=>?_);refine pS1 (ds':=[.v (.string x33.1.gName),.lst 2 (x33.1.gParams.map KA) (.cur w30),.lst 2 (x33.1.gLocals.map KA) (.cur w31),.lst 7 (x33.1.gBody.map Kp) (.cur w32),.v (.int .i64 x33.1.gAt)]) ?_;refine pu ?_;refine pu ?_;refine Ke ?_;refine Ku ?_;refine Ku ?_;obtain ⟨y39,q39,ho39⟩:=Kb hm
   refine K7 (Y:=Unit) (fun z39=>(⟨[(0,.lst 1 (a0.map byteD) .no),(6,.v (.string x29)),(7,.ptr b34 0),(9,.v (.int .i64 x33.2.2)),(54,.v (.bool y39))],[(b34,Blk.cells [.v (.string x33.1.gName),.lst 2 (x33.1.gParams.map KA) (.cur w30),.lst 2 (x33.1.gLocals.map KA) (.cur w31),.lst 7 (x33.1.gBody.map Kp) (.cur w32),.v (.int .i64 x33.1.gAt)] 26)],[(2,w30),(2,w31),(7,w32)]⟩:S)) ?_ ?_
   ·clear hm;have hm:=KD q39;refine KE ?_;refine pu ?_;refine p_lenS htab rfl rfl rfl rfl rfl rfl rfl rfl ?_;refine pu ?_;refine pu ?_;refine Kak (i:=41) rfl (fun hg40=>?_) (fun hg40=>?_)
    ·replace hm:=yes_t hg40 hm;refine pu ?_;refine pu ?_;refine KS rfl rfl rfl rfl rfl rfl ?_;refine pu ?_;refine Kak (i:=45) rfl (fun hg41=>?_) (fun hg41=>?_)
     ·replace hm:=yes_t hg41 hm;iterate 3 refine pu ?_
      refine Kak (i:=48) rfl (fun hg42=>?_) (fun hg42=>?_)
      ·replace hm:=yes_t hg42 hm;iterate 4 refine pK ?_
       refine KS rfl rfl rfl rfl rfl rfl ?_;refine KS rfl rfl rfl rfl rfl rfl ?_;refine KB ?_;have e39:=Kl hm;subst e39;refine ⟨rfl,?_⟩;exact wO (WkS.perm (wC (wC (wC (wC (wC wN))))) ((KU (j:=1) rfl).trans (List.Perm.cons _ Pf)) Pf)
      replace hm:=yes_f hg42 hm;refine Kai (d:=.agg [.v (.string x4.1.gName),.lst 2 (x4.1.gParams.map KA) (.cur w1),.lst 2 (x4.1.gLocals.map KA) (.cur w2),.lst 7 (x4.1.gBody.map Kp) (.cur w3),.v (.int .i64 x4.1.gAt)]) 0 htab rfl rfl rfl rfl rfl rfl rfl rfl ?_;refine Kai (d:=.agg [.v (.string x33.1.gName),.lst 2 (x33.1.gParams.map KA) (.cur w30),.lst 2 (x33.1.gLocals.map KA) (.cur w31),.lst 7 (x33.1.gBody.map Kp) (.cur w32),.v (.int .i64 x33.1.gAt)]) 1 htab rfl rfl rfl rfl rfl rfl rfl rfl ?_;obtain ⟨x43,q43,hm⟩:=Kb hm
      refine K2 (KhA x4.1 x33.1 false x43 q43) rfl rfl rfl rfl rfl (WkL.cons (Wk.agg (rC (rO (rO (rO (rC WkR.nil)))))) (WkL.cons (Wk.agg (rC (rO (rO (rO (rC WkR.nil)))))) (WkL.cons (Wk.refl _) Wl))) ?_;rintro _ rfl;refine pu ?_;refine KW rfl rfl rfl rfl rfl rfl ?_;refine KS rfl rfl rfl rfl rfl rfl ?_;refine KB ?_;have e39:=Kl hm;subst e39;refine ⟨rfl,?_⟩;exact wO (WkS.perm (wC (wC (wC (wC (wC wN))))) ((KU (j:=1) rfl).trans (List.Perm.cons _ Pf)) Pf)
     replace hm:=yes_f hg41 hm;iterate 8 refine pK ?_
     refine KW rfl rfl rfl rfl rfl rfl ?_;refine KB ?_;have e39:=Kl hm;subst e39;refine ⟨rfl,?_⟩;exact wO (WkS.perm (wC (wC (wC (wC (wC wN))))) ((KU (j:=1) rfl).trans (List.Perm.cons _ Pf)) Pf)
    replace hm:=yes_f hg40 hm;refine pK ?_;refine pK ?_;refine KW rfl rfl rfl rfl rfl rfl ?_;refine pu ?_;iterate 8 refine pK ?_
    refine KW rfl rfl rfl rfl rfl rfl ?_;refine KB ?_;have e39:=Kl hm;subst e39;refine ⟨rfl,?_⟩;exact wO (WkS.perm (wC (wC (wC (wC (wC wN))))) ((KU (j:=1) rfl).trans (List.Perm.cons _ Pf)) Pf)
   intro s39 hw39;clear hm;have hm:=ho39;clear q39 ho39;refine Kk ?_;refine K5 hw39 (fun z39=>?_);refine cY hm (fun hm=>?_) fun hm=>?_
   ·refine Kg ?_;refine pu ?_;refine Ke ?_;refine Kt ?_;refine Kx ?_;have e27:=Kl hm;subst e27;refine Kcl ?_;clear hm;have hm:=ho27;simp only [Sum.elim_inr] at hm
    refine Kx ?_;have er45:=Kl hm;subst er45;refine rP (t':=[(2,.v (.bool false))]) [] [] 0 (wC wN) (lT lN) ?_;exact ⟨rfl,rfl,rfl⟩
   refine Kz ?_;refine Kk ?_;refine Ku ?_;obtain ⟨y48,q48,ho48⟩:=Kb hm;refine K7 (Y:=Unit) (fun z48=>(⟨[(0,.lst 1 (a0.map byteD) .no),(62,.v (.bool y48))],[],[]⟩:S)) ?_ ?_
   ·clear hm;have hm:=KD q48;refine KE ?_;iterate 3 refine pu ?_
    refine Kak (i:=57) rfl (fun hg49=>?_) (fun hg49=>?_)
    ·replace hm:=yes_t hg49 hm;refine Kai (d:=.agg [.v (.string x33.1.gName),.lst 2 (x33.1.gParams.map KA) (.cur w30),.lst 2 (x33.1.gLocals.map KA) (.cur w31),.lst 7 (x33.1.gBody.map Kp) (.cur w32),.v (.int .i64 x33.1.gAt)]) 0 htab rfl rfl rfl rfl rfl rfl rfl rfl ?_;obtain ⟨x50,q50,hm⟩:=Kb hm;refine K2 (Kgn x33.1 x50 q50) rfl rfl rfl rfl rfl (WkL.cons (Wk.agg (rC (rO (rO (rO (rC WkR.nil)))))) Wl) ?_;rintro _ rfl;refine pu ?_;refine pu ?_;refine KS rfl rfl rfl rfl rfl rfl ?_;refine KB ?_;have e48:=Kl hm;subst e48;refine ⟨rfl,?_⟩;exact wO (wP (wC (wC wN)))
    replace hm:=yes_f hg49 hm;iterate 4 refine pK ?_
    refine KW rfl rfl rfl rfl rfl rfl ?_;refine KB ?_;have e48:=Kl hm;subst e48;refine ⟨rfl,?_⟩;exact wO (wP (wC (wC wN)))
   intro s48 hw48;clear hm;have hm:=ho48;clear q48 ho48;refine Kk ?_;refine K5 hw48 (fun z48=>?_);refine cY hm (fun hm=>?_) fun hm=>?_
   ·refine Kg ?_;refine pu ?_;refine Ke ?_;refine Kt ?_;have e27:=Kl hm;subst e27;refine Kcl ?_;clear hm;have hm:=ho27;simp only [Sum.elim_inr] at hm
    refine Kx ?_;have er53:=Kl hm;subst er53;refine rP (t':=[(2,.v (.bool false))]) [] [] 0 (wC wN) (lT lN) ?_;exact ⟨rfl,rfl,rfl⟩
   refine Kz ?_;have e27:=Kl hm;subst e27;refine Kck ?_;exact wO (wP (wC wN))
  refine Kz ?_;have e27:=Kl hm;subst e27;refine Kck ?_;exact wO (wP (wC wN))
 intro y27 s27 hx27 hw27;subst hx27;clear hm;have hm:=ho27;simp only [Sum.elim_inl] at hm;clear q27 ho27;refine Kk ?_;refine K5 hw27 (fun z27=>?_);refine Kg ?_;refine pu ?_;obtain ⟨x54,q54,hm⟩:=Kb hm;refine K2 (KdG a0 x54 q54) rfl rfl rfl rfl rfl Wl ?_;rintro _ rfl;iterate 4 refine pu ?_
 refine KY htab rfl rfl rfl rfl rfl rfl rfl (fun b55=>?_);refine pS0 (ds':=[.v (.string x54.1.gName),.v (.bool x54.1.gPtr),.v (.int .i64 x54.1.gSize),.v (.int .i64 x54.1.gAt)]) ?_;refine pu ?_;refine pu ?_;refine Ke ?_;refine Ku ?_;refine Kg ?_;refine pu ?_;refine pu ?_;refine Ke ?_;obtain ⟨x64,q64,ho64⟩:=Kb hm;refine KcL (τ:=Unit) (Y:=Unit) (fun y64 z64=>(⟨[(0,.lst 1 (a0.map byteD) .no)],[],[]⟩:S)) x64 ?_ ?_
 ·clear hm;have hm:=KD q64;refine cY hm (fun hm=>?_) fun hm=>?_
  ·refine Kg ?_;refine Kai (d:=KbH x54.1) 0 htab rfl rfl rfl rfl rfl rfl rfl rfl ?_;obtain ⟨x66,q66,hm⟩:=Kb hm;refine K2 (Khx x54.1 x66 q66) rfl rfl rfl rfl rfl Wl ?_;rintro _ rfl;refine p_ofStr htab rfl rfl rfl rfl rfl rfl rfl rfl rfl rfl rfl ?_;obtain ⟨x67,q67,hm⟩:=Kb hm;refine K2 (KdG x66.data.toList x67 q67) rfl rfl rfl rfl rfl Wl ?_;rintro _ rfl;iterate 4 refine pu ?_
   refine KY htab rfl rfl rfl rfl rfl rfl rfl (fun b68=>?_);refine pS1 (ds':=[.v (.string x67.1.gName),.v (.bool x67.1.gPtr),.v (.int .i64 x67.1.gSize),.v (.int .i64 x67.1.gAt)]) ?_;refine pu ?_;refine pu ?_;refine Ke ?_;refine Ku ?_;obtain ⟨y72,q72,ho72⟩:=Kb hm;refine K7 (Y:=Unit) (fun z72=>(⟨[(0,.lst 1 (a0.map byteD) .no),(101,.v (.bool y72))],[],[]⟩:S)) ?_ ?_
   ·clear hm;have hm:=KD q72;refine KE ?_;iterate 3 refine pu ?_
    refine Kak (i:=81) rfl (fun hg73=>?_) (fun hg73=>?_)
    ·replace hm:=yes_t hg73 hm;iterate 5 refine pK ?_
     refine KS rfl rfl rfl rfl rfl rfl ?_;refine pu ?_;iterate 5 refine pK ?_
     refine KS rfl rfl rfl rfl rfl rfl ?_;refine pu ?_;iterate 5 refine pK ?_
     refine KS rfl rfl rfl rfl rfl rfl ?_;refine KB ?_;have e72:=Kl hm;subst e72;refine ⟨rfl,?_⟩;exact wO (wP (wC (wC wN)))
    replace hm:=yes_f hg73 hm;refine pu ?_;refine pL 1 ?_;refine pu ?_;refine pL 0 ?_;refine pu ?_;refine KW rfl rfl rfl rfl rfl rfl ?_;refine pu ?_;refine Kak (i:=88) rfl (fun hg74=>?_) (fun hg74=>?_)
    ·replace hm:=yes_t hg74 hm;iterate 5 refine pK ?_
     refine KS rfl rfl rfl rfl rfl rfl ?_;refine pu ?_;iterate 5 refine pK ?_
     refine KS rfl rfl rfl rfl rfl rfl ?_;refine KB ?_;have e72:=Kl hm;subst e72;refine ⟨rfl,?_⟩;exact wO (wP (wC (wC wN)))
    replace hm:=yes_f hg74 hm;refine pu ?_;refine pL 1 ?_;refine pu ?_;refine pL 0 ?_;refine pu ?_;refine KW rfl rfl rfl rfl rfl rfl ?_;refine pu ?_;refine Kak (i:=95) rfl (fun hg75=>?_) (fun hg75=>?_)
    ·replace hm:=yes_t hg75 hm;iterate 5 refine pK ?_
     refine KS rfl rfl rfl rfl rfl rfl ?_;refine KB ?_;have e72:=Kl hm;subst e72;refine ⟨rfl,?_⟩;exact wO (wP (wC (wC wN)))
    replace hm:=yes_f hg75 hm;refine pu ?_;refine pL 1 ?_;refine pu ?_;refine pL 0 ?_;refine pu ?_;refine KW rfl rfl rfl rfl rfl rfl ?_;refine KB ?_;have e72:=Kl hm;subst e72;refine ⟨rfl,?_⟩;exact wO (wP (wC (wC wN)))
   intro s72 hw72;clear hm;have hm:=ho72;clear q72 ho72;refine Kk ?_;refine K5 hw72 (fun z72=>?_);refine cY hm (fun hm=>?_) fun hm=>?_
   ·refine Kg ?_;refine pu ?_;refine Ke ?_;refine Kt ?_;have e64:=Kl hm;subst e64;refine Kcl ?_;clear hm;have hm:=ho64;simp only [Sum.elim_inr] at hm
    refine Kx ?_;have er78:=Kl hm;subst er78;refine rP (t':=[(2,.v (.bool false))]) [] [] 0 (wC wN) (lT lN) ?_;exact ⟨rfl,rfl,rfl⟩
   refine Kz ?_;have e64:=Kl hm;subst e64;refine Kck ?_;exact wO (wP (wC wN))
  refine Kz ?_;have e64:=Kl hm;subst e64;refine Kck ?_;exact wO (wP (wC wN))
 intro y64 s64 hx64 hw64;subst hx64;clear hm;have hm:=ho64;simp only [Sum.elim_inl] at hm;clear q64 ho64;refine Kk ?_;refine K5 hw64 (fun z64=>?_);refine Kg ?_;refine pu ?_;obtain ⟨x79,q79,hm⟩:=Kb hm;refine K2 (Kew a0 x79 q79) rfl rfl rfl rfl rfl Wl ?_;rintro _ rfl;refine pu ?_;refine pu ?_;refine p_eq (i:=105) rfl (Wk.of_eq (Ko x79.1)) ?_;refine pu ?_;refine pu ?_;refine KY htab rfl rfl rfl rfl rfl rfl rfl (fun b80=>?_);refine pS0 (ds':=[.v (.int .i64 x79.1.gOp),.v (.int .i64 x79.1.gN),.v (.string x79.1.gName),.lst 5 (x79.1.gKids.map Kh) .no,.v (.int .i64 x79.1.gAt)]) ?_;refine pu ?_;refine pu ?_
 refine Ke ?_;refine Ku ?_;refine Kg ?_;refine pu ?_;refine pu ?_;refine Ke ?_;refine cY hm (fun hm=>?_) fun hm=>?_
 ·refine Kg ?_;refine Kai (d:=.agg [.v (.int .i64 x79.1.gOp),.v (.int .i64 x79.1.gN),.v (.string x79.1.gName),.lst 5 (x79.1.gKids.map Kh) .no,.v (.int .i64 x79.1.gAt)]) 0 htab rfl rfl rfl rfl rfl rfl rfl rfl ?_;obtain ⟨x82,q82,hm⟩:=Kb hm;refine K2 (KbG x79.1 x82 q82) rfl rfl rfl rfl rfl (WkL.cons (Wk.trans (Wk.agg (WkR.refl _)) (Wk.of_eq (Ko x79.1).symm)) Wl) ?_;rintro _ rfl;refine pu ?_;refine KF ?_;refine pu ?_;refine p_ofStr htab rfl rfl rfl rfl rfl rfl rfl rfl rfl rfl rfl ?_;obtain ⟨x83,q83,hm⟩:=Kb hm;refine K2 (Kew x82.data.toList x83 q83) rfl rfl rfl rfl rfl Wl ?_;rintro _ rfl;refine pu ?_
  refine pu ?_;refine p_eq (i:=116) rfl (Wk.of_eq (Ko x83.1)) ?_;refine pu ?_;refine pu ?_;refine KY htab rfl rfl rfl rfl rfl rfl rfl (fun b84=>?_);refine pS1 (ds':=[.v (.int .i64 x83.1.gOp),.v (.int .i64 x83.1.gN),.v (.string x83.1.gName),.lst 5 (x83.1.gKids.map Kh) .no,.v (.int .i64 x83.1.gAt)]) ?_;refine pu ?_;refine pu ?_;refine KF ?_;refine pu ?_;refine p_lenS htab rfl rfl rfl rfl rfl rfl rfl rfl ?_;refine pu ?_;refine pu ?_;refine Kak (i:=122) rfl (fun hg85=>?_) (fun hg85=>?_)
  ·replace hm:=yes_t hg85 hm;refine pu ?_;refine pu ?_;refine KS rfl rfl rfl rfl rfl rfl ?_;refine pu ?_;refine Kak (i:=126) rfl (fun hg86=>?_) (fun hg86=>?_)
   ·replace hm:=yes_t hg86 hm;iterate 3 refine pu ?_
    refine Kak (i:=129) rfl (fun hg87=>?_) (fun hg87=>?_)
    ·replace hm:=yes_t hg87 hm;iterate 4 refine pK ?_
     refine KS rfl rfl rfl rfl rfl rfl ?_;refine KS rfl rfl rfl rfl rfl rfl ?_;refine Ke ?_;refine wpD_true rfl ?_;refine Kg ?_;refine pu ?_;refine Ke ?_;refine Kt ?_;refine Kx ?_;have er88:=Kl hm;subst er88;refine rP (t':=[(2,.v (.bool false))]) [] [] 0 (wC wN) (lT lN) ?_;exact ⟨rfl,rfl,rfl⟩
    replace hm:=yes_f hg87 hm;refine Kai (d:=.agg [.v (.int .i64 x79.1.gOp),.v (.int .i64 x79.1.gN),.v (.string x79.1.gName),.lst 5 (x79.1.gKids.map Kh) .no,.v (.int .i64 x79.1.gAt)]) 0 htab rfl rfl rfl rfl rfl rfl rfl rfl ?_;refine Kai (d:=.agg [.v (.int .i64 x83.1.gOp),.v (.int .i64 x83.1.gN),.v (.string x83.1.gName),.lst 5 (x83.1.gKids.map Kh) .no,.v (.int .i64 x83.1.gAt)]) 1 htab rfl rfl rfl rfl rfl rfl rfl rfl ?_;obtain ⟨x89,q89,hm⟩:=Kb hm
    refine K2 (Kis x79.1 x83.1 x89 q89) rfl rfl rfl rfl rfl (WkL.cons (Wk.trans (Wk.agg (WkR.refl _)) (Wk.of_eq (Ko x79.1).symm)) (WkL.cons (Wk.trans (Wk.agg (WkR.refl _)) (Wk.of_eq (Ko x83.1).symm)) Wl)) ?_;rintro _ rfl;refine pu ?_;refine KW rfl rfl rfl rfl rfl rfl ?_;refine KS rfl rfl rfl rfl rfl rfl ?_;refine Ke ?_;refine cY hm (fun hm=>?_) fun hm=>?_
    ·refine Kg ?_;refine pu ?_;refine Ke ?_;refine Kt ?_;refine Kx ?_;have er91:=Kl hm;subst er91;refine rP (t':=[(2,.v (.bool false))]) [] [] 0 (wC wN) (lT lN) ?_;exact ⟨rfl,rfl,rfl⟩
    refine Kz ?_;refine Kk ?_;refine Kg ?_;obtain ⟨x92,q92,hm⟩:=Kb hm;refine K2 (Kd1 x92 q92) rfl rfl rfl rfl rfl Wl ?_;rintro _ rfl;refine pu ?_;refine Ke ?_;refine Kt ?_;have er93:=Kl hm;subst er93;refine rP (t':=[(2,.v (.bool x92))]) [] [] 0 (wC wN) (lT lN) ?_;exact ⟨rfl,rfl,rfl⟩
   replace hm:=yes_f hg86 hm;iterate 8 refine pK ?_
   refine KW rfl rfl rfl rfl rfl rfl ?_;refine Ke ?_;refine Kff rfl ?_;refine Kz ?_;refine Kk ?_;refine Kg ?_;obtain ⟨x94,q94,hm⟩:=Kb hm;refine K2 (Kd1 x94 q94) rfl rfl rfl rfl rfl Wl ?_;rintro _ rfl;refine pu ?_;refine Ke ?_;refine Kt ?_;have er95:=Kl hm;subst er95;refine rP (t':=[(2,.v (.bool x94))]) [] [] 0 (wC wN) (lT lN) ?_;exact ⟨rfl,rfl,rfl⟩
  replace hm:=yes_f hg85 hm;refine pK ?_;refine pK ?_;refine KW rfl rfl rfl rfl rfl rfl ?_;refine pu ?_;iterate 8 refine pK ?_
  refine KW rfl rfl rfl rfl rfl rfl ?_;refine Ke ?_;refine Kff rfl ?_;refine Kz ?_;refine Kk ?_;refine Kg ?_;obtain ⟨x96,q96,hm⟩:=Kb hm;refine K2 (Kd1 x96 q96) rfl rfl rfl rfl rfl Wl ?_;rintro _ rfl;refine pu ?_;refine Ke ?_;refine Kt ?_;have er97:=Kl hm;subst er97;refine rP (t':=[(2,.v (.bool x96))]) [] [] 0 (wC wN) (lT lN) ?_;exact ⟨rfl,rfl,rfl⟩
 refine Kz ?_;refine Kk ?_;refine Kg ?_;obtain ⟨x98,q98,hm⟩:=Kb hm;refine K2 (Kd1 x98 q98) rfl rfl rfl rfl rfl Wl ?_;rintro _ rfl;refine pu ?_;refine Ke ?_;refine Kt ?_;have er99:=Kl hm;subst er99;refine rP (t':=[(2,.v (.bool x98))]) [] [] 0 (wC wN) (lT lN) ?_;exact ⟨rfl,rfl,rfl⟩
end
section
open Go
set_option linter.all false
theorem pE_map {l m:List Kc}(h:stEs l=stEs m):l.map pE=m.map pE:=by
 have key:∀ l:List Kc,l.map pE=(stEs l).map pE:=by
  intro l;induction l with
  | nil=>rfl
  | cons e l ih=>simp only [stEs,List.map_cons,pE_st,ih]
 rw [key l,h,← key m]
mutual
theorem pS_st (d:Nat):∀ s,pS d (stS s)=pS d s
 |
  ⟨op,s,f,es,ks,ls,p⟩=>by
  have h1:(stEs es).map pE=es.map pE:=by
   rw [← pE_map (l:=stEs es) (m:=es)];rw [Kdw,Kdw,List.map_map];refine List.map_congr_left fun e _=>?_
   exact stE_st e
  have h2:=pSs_st (d+1) ks;have h3:=pSs_st (d+1) ls;have h4:(stSs ls).isEmpty=ls.isEmpty:=by cases ls<;>rfl
  simp only [stS,pS,h1,h2,h3,h4]
theorem pSs_st (d:Nat):∀ l,pSs d (stSs l)=pSs d l
 | []=>rfl
 | s::l=>by simp only [stSs,pSs,pS_st d s,pSs_st d l]
theorem stE_st:∀ e,stE (stE e)=stE e
 | ⟨a,b,c,ks,d⟩=>by simp only [stE,stEs_st ks]
theorem stEs_st:∀ l,stEs (stEs l)=stEs l
 | []=>rfl
 | e::l=>by simp only [stEs,stE_st e,stEs_st l]
end
theorem pFn_same {g f:K1}(h:SF g f):pFn g=pFn f:=by
 have hb:pSs 1 g.gBody=pSs 1 f.gBody:=by rw [← pSs_st,h.body,pSs_st]
 unfold pFn;rw [h.nm,h.ps,h.ls,hb]
theorem KgG {β τ:Type}{l:List β}{t:τ}{F:Int→Option (Step Int τ)}(h1:∀ pre x post,l=pre++x::post→F (pre.length:Int)=some (.next ((pre.length+1:Nat):Int)))(h2:F (l.length:Int)=some (.done t)):loopM F (0:Int)=some t:=
 loop_pre l (fun _=>()) (fun _ k=>(k:Int)) (fun _=>t) h1 h2
theorem Kh8 {l:List K3}(hb:l.length≤1048576):Kd7 l l=some true:=by
 unfold Kd7;simp only [bne_self_eq_false,cond_false];rw [KgG (l:=l) (t:=Sum.inl ()) (fun pre x post e=>?_) (by simp)]
 ·rfl
 have hix:idx l (pre.length:Int)=some x:=by rw [e];exact KfD _ _ _
 simp only [KdU e,cond_true,hix,Option.bind_some,decide_true,beq_self_eq_true,Bool.and_self,Bool.not_true,cond_false];rw [Kdi e (by omega)]
theorem other {l m:List Kc}(h:stEs l=stEs m){pre:List Kc}{x:Kc}{post:List Kc}(e:l=pre++x::post):∃ y,idx m (pre.length:Int)=some y∧stE y=stE x:=by
 have h1:(stEs l)[pre.length]? = some (stE x):=by rw [Kdw,e];simp
 rw [h,Kdw,List.getElem?_map] at h1;obtain ⟨y,h2,h3⟩:=Option.map_eq_some_iff.1 h1;exact ⟨y,by rw [KcR];exact h2,h3⟩
theorem stE_fields {x y:Kc}(h:stE y=stE x):y.gOp=x.gOp∧y.gN=x.gN∧y.gName=x.gName∧stEs y.gKids=stEs x.gKids:=by
 cases x;cases y
 simp only [stE,Kc.mk.injEq] at h;exact ⟨h.1,h.2.1,h.2.2.1,h.2.2.2.1⟩
theorem Kg1:∀ (n:Nat) (l m:List Kc),dpEs l+1≤n→szEs l≤1048576→stEs l=stEs m→KbN n l m false=some true
 | 0,l,m,h,_,_=>by omega
 |
  n+1,l,m,h,hb,hs=>by
  show KcK (KbN n) l m false=_
  unfold KcK;have hl:=Kdu l;have hlen:m.length=l.length:=by rw [← Khj m,← hs,Khj]
  simp only [hlen,bne_self_eq_false,cond_false];rw [KgG (l:=l) (t:=Sum.inl ()) (fun pre x post e=>?_) (by simp)]
  ·rfl
  have hix:idx l (pre.length:Int)=some x:=by rw [e];exact KfD _ _ _
  obtain ⟨y,hiy,hy⟩:=other hs e;obtain ⟨f1,f2,f3,f4⟩:=stE_fields hy;have hd:=KfO (Kcs e);have hz:=KeI (Kcs e);have:=KdZ x;have:=Ke4 x
  simp only [KdU e,cond_true,hix,hiy,Option.bind_some,f1,f2,f3,decide_true,bne_self_eq_false,Bool.not_true,cond_false,Kg1 n x.gKids y.gKids (by omega) (by omega) f4.symm];rw [Kdi e (by omega)]
theorem Kh9 {l m:List Kc}(h:szEs l≤1048576)(hs:stEs l=stEs m):Kd8 l m false=some true:=Kir l m false _ (Kg1 (dpEs l+1) l m (Nat.le_refl _) h hs)
theorem Ke7:∀ l,stSs l=l.map stS
 | []=>rfl
 | e::l=>by rw [stSs,Ke7 l];rfl
theorem otherS {l m:List Ki}(h:stSs l=stSs m){pre:List Ki}{x:Ki}{post:List Ki}(e:l=pre++x::post):∃ y,idx m (pre.length:Int)=some y∧stS y=stS x:=by
 have h1:(stSs l)[pre.length]? = some (stS x):=by rw [Ke7,e];simp
 rw [h,Ke7,List.getElem?_map] at h1;obtain ⟨y,h2,h3⟩:=Option.map_eq_some_iff.1 h1;exact ⟨y,by rw [KcR];exact h2,h3⟩
theorem stS_fields {x y:Ki}(h:stS y=stS x):y.gOp=x.gOp∧y.gName=x.gName∧y.gFunc=x.gFunc∧stEs y.gExps=stEs x.gExps∧stSs y.gKids=stSs x.gKids∧stSs y.gElse=stSs x.gElse:=by
 cases x;cases y
 simp only [stS,Ki.mk.injEq] at h;exact ⟨h.1,h.2.1,h.2.2.1,h.2.2.2.1,h.2.2.2.2.1,h.2.2.2.2.2.1⟩
theorem Ke8:∀ (n:Nat) (l m:List Ki),hSs l≤n→szSs l≤1048576→stSs l=stSs m→Kbb n l m false=some true
 | 0,l,m,h,_,_=>by have:=hSs_pos l;omega
 |
  n+1,l,m,h,hb,hs=>by
  show Kb5 (Kbb n) l m false=_
  unfold Kb5;have hl:=Kge l;have hlen:m.length=l.length:=by
   have:=congrArg List.length hs;rw [Ke7,Ke7,List.length_map,List.length_map] at this;exact this.symm
  simp only [hlen,bne_self_eq_false,cond_false];rw [KgG (l:=l) (t:=Sum.inl ()) (fun pre x post e=>?_) (by simp)]
  ·rfl
  have hix:idx l (pre.length:Int)=some x:=by rw [e];exact KfD _ _ _
  obtain ⟨y,hiy,hy⟩:=otherS hs e;obtain ⟨f1,f2,f3,f4,f5,f6⟩:=stS_fields hy;have hd:=hS_mem (Kcs e);have hz:=szS_mem (Kcs e);have:=hS_eq x;have:=KfP x
  simp only [KdU e,cond_true,hix,hiy,Option.bind_some,f1,f2,f3,decide_true,bne_self_eq_false,Bool.not_true,cond_false,Kh9 (l:=x.gExps) (m:=y.gExps) (by omega) f4.symm,Ke8 n x.gKids y.gKids (by omega) (by omega) f5.symm,Ke8 n x.gElse y.gElse (by omega) (by omega) f6.symm];rw [Kdi e (by omega)]
theorem sameF {f g:K1}(hf:VF f)(h:SF g f):KcW f g false=some true:=by
 have h1:=hf.many;have h2:=hf.size
 have hb:Kef f.gBody g.gBody false=some true:=KhJ _ _ _ _ (Ke8 (hSs f.gBody) _ _ (Nat.le_refl _) h2 h.body.symm);unfold KcW;rw [h.nm,h.ps,h.ls,Kh8 (by omega),Kh8 (by omega),hb,decide_eq_true rfl];rfl
theorem sameE {x y:Kc}(hz:szE x≤1048576)(h:stE y=stE x):Kd9 x y=some true:=by
 unfold Kd9;rw [Kh9 (by simp only [szEs];omega) (by simp only [stEs,h])];rfl
theorem ba_eq {a b:ByteArray}(h:dl a=dl b):a=b:=by
 cases a;cases b
 simp only [dl] at h;rw [Array.toList_inj.1 h]
theorem lives14:l14_lives=some true:=by
 have al:∀ c:UInt8,ck c=2→memB ⟨#[c]⟩ words=false→NmOK ⟨#[c]⟩:=fun c h h2=>⟨⟨⟨c,[],rfl,h⟩,fun d hd=>.inl (by rw [List.mem_singleton.1 hd];exact h),by simp⟩,by rw [word_is,h2]⟩
 have ha:NmOK ⟨#[97]⟩:=al 97 (by kernel_rfl) (by kernel_rfl);have hb:NmOK ⟨#[98]⟩:=al 98 (by kernel_rfl) (by kernel_rfl);have hc:NmOK ⟨#[99]⟩:=al 99 (by kernel_rfl) (by kernel_rfl);have he:VX ⟨11,0,ByteArray.empty,[⟨2,0,⟨#[97]⟩,[],0⟩,⟨11,0,ByteArray.empty,[⟨2,0,⟨#[98]⟩,[],0⟩,⟨2,0,⟨#[99]⟩,[],0⟩],0⟩],0⟩:=⟨.bin _ _ _ _ (by decide) (.var _ _ ha) (.bin _ _ _ _ (by decide) (.var _ _ hb) (.var _ _ hc)),by decide⟩;have hl:Lx [nm ⟨#[97]⟩,mk ⟨#[45]⟩,mk ⟨#[40]⟩,nm ⟨#[98]⟩,mk ⟨#[45]⟩,nm ⟨#[99]⟩,mk ⟨#[41]⟩]:=.nm _ _ ha (na_sg sg45 _) (sg45.lx (sg40.lx (.nm _ _ hb (na_sg sg45 _) (sg45.lx (.nm _ _ hc (na_sg sg41 _) (sg41.lx .nil))))))
 have key:T l14_lives fun r=>r=true:=by
  unfold l14_lives;refine T.bind (etext_ta hl rfl he) fun r hr=>?_
  rcases hr with ⟨_,hr⟩|⟨r1,r2,r3⟩
  ·exact absurd hr (by decide)
  rw [r1];show T ((KaR r.1).bind fun x4=>some (decide (x4=(ByteArray.mk #[97,32,45,32,40,98,32,45,32,99,41])))) _
  have hsz:szE r.1=5:=by rw [← sz_stE,r2,sz_stE];rfl
  refine T.bind (prX r3 (by omega)) fun q hq=>T.ret ?_
  rw [pE_same r2] at hq;exact decide_eq_true (ba_eq hq)
 obtain ⟨r,h1,h2⟩:=key;rw [h1,h2]
theorem func_part {b:List UInt8}{β:Type}{k:(Unit⊕Bool)→Option β}{Q:β→Prop}(hk:T (k (.inl ())) Q):T ((KaN b).bind fun x4=>(Option.bind (α:=(Unit)⊕(Bool)) (bif (x4.2.2==(0:Int)) then ((KcJ x4.1).bind fun x29=>((KaN x29.data.toList).bind fun x33=>(Option.bind (α:=Bool) (bif (decide ((x29.size:Int)≤(20000:Int))) then (bif (x33.2.2 != (6:Int)) then (bif (x33.2.2 != (0:Int)) then some true else ((KcW x4.1 x33.1 false).bind fun x43=>some (!x43))) else some false) else some false) fun y39=>(bif y39 then some (.inr false) else (Option.bind (α:=Bool) (bif (x33.2.2==(0:Int)) then ((KcJ x33.1).bind fun x50=>some (!decide (x50=x29))) else some false) fun y48=>(bif y48 then some (.inr false) else some (.inl ()))))))) else some (.inl ())) k)) Q:=by
 refine T.bind (vfunc b) fun x hx=>T.bind (P:=fun y=>y=Sum.inl ()) (T.cond (fun h=>?_) fun _=>T.ret rfl) fun y hy=>by rw [hy];exact hk
 have hf:=hx (by simpa using h);refine T.bind (func_is hf) fun s hs=>?_
 have hs':s.data.toList=txts (pFn x.1):=hs;have hsz:=KgL s;rw [hs'] ;obtain ⟨g,g1,g2⟩:=ftext_ta hf;have gv:=(vfunc (txts (pFn x.1))).pt g g1;rw [g1,Option.bind_some];refine T.bind (P:=fun y=>y=false) (T.cond (fun _=>T.cond (fun h6=>T.cond (fun h0=>?_) fun h0=>?_) fun _=>T.ret rfl) fun _=>T.ret rfl) fun y39 h39=>?_
 ·rcases g2 with g2|⟨g2,_⟩
  ·rw [g2] at h6;cases h6
  rw [g2] at h0;cases h0
 ·rcases g2 with g2|⟨g2,g3,g4⟩
  ·rw [g2] at h6;cases h6
  rw [sameF hf g4];exact T.ret rfl
 subst h39;rw [cond_false];refine T.bind (P:=fun y=>y=false) (T.cond (fun h0=>?_) fun _=>T.ret rfl) fun y48 h48=>by subst h48;exact T.ret rfl
 have e0:g.2.2=0:=by simpa using h0
 rcases g2 with g2|⟨g2,g3,g4⟩
 ·rw [e0] at g2;cases g2
 refine T.bind (func_is (gv e0)) fun q hq=>T.ret ?_
 have:q=s:=ba_eq (by rw [hq,pFn_same g4];exact hs.symm);rw [this];simp
theorem glob_part {b:List UInt8}{β:Type}{k:(Unit⊕Bool)→Option β}{Q:β→Prop}(hk:T (k (.inl ())) Q):T ((Kaz b).bind fun x54=>(Option.bind (α:=(Unit)⊕(Bool)) (bif (x54.2.2==(0:Int)) then ((KcT x54.1).bind fun x66=>((Kaz x66.data.toList).bind fun x67=>(Option.bind (α:=Bool) (bif (x67.2.2 != (0:Int)) then some true else (bif (!decide (x67.1.gName=x54.1.gName)) then some true else (bif (!(x67.1.gPtr==x54.1.gPtr)) then some true else some (x67.1.gSize != x54.1.gSize)))) fun y72=>(bif y72 then some (.inr false) else some (.inl ()))))) else some (.inl ())) k)) Q:=by
 refine T.bind (vglobal b) fun x hx=>T.bind (P:=fun y=>y=Sum.inl ()) (T.cond (fun h=>?_) fun _=>T.ret rfl) fun y hy=>by rw [hy];exact hk
 have hg:=hx (by simpa using h);refine T.bind (global_is hg) fun s hs=>?_
 have hs':s.data.toList=txts (pGl x.1):=hs;rw [hs'];refine T.bind (gtext_ta hg) fun g hg'=>?_
 obtain ⟨g1,g2,g3,g4⟩:=hg';rw [g1,g2,g3,g4];refine T.bind (P:=fun y=>y=false) ?_ fun y hy=>by subst hy;exact T.ret rfl
 simp only [bne_self_eq_false,cond_false,decide_true,Bool.not_true,beq_self_eq_true];exact T.ret rfl
theorem exp_part {b:List UInt8}:T ((KbC b).bind fun x79=>(bif (x79.2.2==(0:Int)) then ((KaR x79.1).bind fun x82=>((KbC x82.data.toList).bind fun x83=>(bif (decide ((x82.size:Int)≤(20000:Int))) then (bif (x83.2.2 != (6:Int)) then (bif (x83.2.2 != (0:Int)) then some false else ((Kd9 x79.1 x83.1).bind fun x89=>(bif (!x89) then some false else (l14_lives.bind fun x92=>some x92)))) else (l14_lives.bind fun x94=>some x94)) else (l14_lives.bind fun x96=>some x96)))) else (l14_lives.bind fun x98=>some x98))) fun r=>r=true:=by
 have liv:T (l14_lives.bind fun x=>some x) fun r=>r=true:=by rw [lives14];exact T.ret rfl
 refine T.bind (vtextE b) fun x hx=>T.cond (fun h=>?_) fun _=>liv
 obtain ⟨hv,hz⟩:=hx (by simpa using h);refine T.bind (prX hv.1 (by omega)) fun s hs=>?_
 have hs':s.data.toList=txts (pE x.1):=hs;have hlx:Lx (pE x.1):=by
  have:=lxX hv .nil (fun c r e=>by cases e);rwa [List.append_nil] at this
 rw [hs'];refine T.bind (etext_ta hlx rfl hv) fun y hy=>T.cond (fun _=>T.cond (fun h6=>T.cond (fun h0=>?_) fun h0=>?_) fun _=>liv) fun _=>liv
 ·rcases hy with ⟨y1,_⟩|⟨y1,_⟩
  ·rw [y1] at h6;cases h6
  rw [y1] at h0;cases h0
 rcases hy with ⟨y1,_⟩|⟨y1,y2,_⟩
 ·rw [y1] at h6;cases h6
 rw [sameE (by omega) y2];exact liv
theorem KhL (b:List UInt8):KcG b=some true:=by
 have key:T (KcG b) fun r=>r=true:=by
  unfold KcG;refine func_part ?_;rw [Sum.elim_inl];refine glob_part ?_;rw [Sum.elim_inl];exact exp_part
 obtain ⟨r,h1,h2⟩:=key;rw [h1,h2]
end
section
open Go
set_option linter.all false
set_option maxRecDepth 100000
def wfL22:List UInt8→Prop:=(fun y=>(y.length≤maxLen∧∀ z∈y,True))
theorem goodL22 {n:Nat}{d:D}(g:GoodT tab n 22 d):∃ x:List UInt8,d=.lst 1 (x.map byteD) .no∧wfL22 x:=by
 obtain ⟨n1,zs1,_,rfl,hl1,hz1⟩:=good_slice ti22 rfl ti5 (g);obtain ⟨x1,rfl,w1⟩:=Kh6 (f:=byteD) (K:=(fun y=>True)) (p:=fun x=>GoodT tab n1 5 x) (fun x hx=>by obtain ⟨x2,rfl⟩:=good_u8 ti5 rfl (hx);exact ⟨x2,rfl,trivial⟩) zs1 hz1;exact ⟨x1,rfl,⟨by simpa using hl1,w1⟩⟩
theorem PrintBack_yes (a0:List UInt8)(h:wfL22 a0):KcG a0=some true:=KhL a0
end
end Go.Proofs.YtfkaicefhibndaaGreatDoor.Ab
namespace Go.Proofs.YtfkaicefhibndaaGreatDoor
open Go.ChangeShapes Go.WideShapes Go.ChangeAt Go.RowKit Go.Joins
set_option linter.all false
def Kfm (os:Os):World:=
 let w0:=World.holding Tryz.prog os ⟨#[],#[],[]⟩;let put (h:Array Obj) (g:Nat) (cs:Array Value):Array Obj:=h.modify g fun
  | .cells _ t frozen=>.cells cs t frozen
  | o=>o
 let h1:=put w0.heap 2 ([0,1,28,2,29,14,24,3,30,22,20,15,25,17,4,8,31,27,13,23,21,19,16,7,26,12,18,6,11,5,10,9].map fun z=>Value.int .u8 z).toArray;let h2:=put h1 3 ([0,1,56,2,57,49,28,3,61,58,42,50,38,29,17,4,62,47,59,36,45,43,51,22,53,39,33,30,24,18,12,5,63,55,48,27,60,41,37,16,46,35,44,21,52,32,23,11,54,26,40,15,34,20,31,10,25,14,19,9,13,8,7,6].map fun z=>Value.int .u8 z).toArray
 let h3:=put h2 0 ([1,10,100,1000,10000,100000,1000000,10000000,100000000,1000000000,10000000000,100000000000,1000000000000,10000000000000,100000000000000,1000000000000000,10000000000000000,100000000000000000,1000000000000000000,10000000000000000000].map fun z=>Value.int .u64 z).toArray;{ w0 with heap:=h3 }
theorem laid_met (os:Os)(args:Array Value):laidMet Tryz.prog Rows.printBackRow.laid ((Kfm os).forCall (fun _ _=>0) ⟨#[],args,[]⟩).memory:=
 (Go.LaidIn.of_run (l:=Rows.printBackRow.laid) [2,3,0] 8 (by kernel_rfl) (by kernel_rfl) (by kernel_rfl) (by kernel_rfl)).met
theorem Kiu (os:Os){H:Type}(enc:TypeId×Value→H) :
  (OpenSpec.ofChange Rows.printBackSpec).preRow enc Tryz.prog Tryz.f3 Rows.printBackRow.domain false Rows.printBackRow.laid ((Kfm os).forCall (fun _ _=>0) ⟨#[],#[.slice none 0 0],[]⟩).memory #[.slice none 0 0]:=by
 have hw:(DataW.whole enc Tryz.prog ((Kfm os).forCall (fun _ _=>0) ⟨#[],#[.slice none 0 0],[]⟩).memory Tryz.f3.params.toList (OpenSpec.ofChange Rows.printBackSpec).vars false (#[.slice none 0 0]:Array Value).toList 8).map (fun x=>(x.1,x.2.1)) =
   some ([.nil],[]):=by kernel_rfl
 obtain ⟨⟨x1,x2,x3⟩,hx,hx1⟩:=Option.map_eq_some_iff.1 hw;simp only [Prod.mk.injEq] at hx1;obtain ⟨rfl,rfl⟩:=hx1;exact OpenSpec.preRow_of_cond 8 hx (by kernel_rfl) (fun k hk=>by cases hk) (by kernel_rfl) (laid_met os _)
theorem tab_gg {W:World}(h:laidMetH Tryz.prog Rows.printBackRow.laid W):Ab.GG (Ab.allOf W) W:=by
 have h' : laidMet Tryz.prog Rows.printBackRow.laid W := h;obtain ⟨ps, hv, _⟩ := h';have hr : Go.Lib.TabIs Tryz.prog W "internal/strconv.uint64pow10" .u64 Go.Lib.pow10Tab := by
  obtain ⟨_, _, _, _, _, _, _, _, _, _, hv, _⟩ := hv;obtain ⟨_, _, _, _, _, _, _, _, _, _, hv, _⟩ := hv;obtain ⟨g, t, cs, fuel, p, q, hg, hty, hvar, hd, _, _⟩ := hv;have e : (Rows.laid_internal_strconv_uint64pow10 : DataW Unit) = Go.Lib.tabData .u64 Go.Lib.pow10Tab := rfl;obtain rfl := Option.some.inj ((show Tryz.prog.globalNamed "internal/strconv.uint64pow10" = some Ab.tabG by kernel_rfl).symm.trans hg);obtain rfl := Option.some.inj ((show (Tryz.prog.globals[Ab.tabG]?).map (·.type) = some 144 by kernel_rfl).symm.trans hty);rw [e] at hd;have hcs := Go.Lib.cells_of_tab (n := 20) (e := 130) (by kernel_rfl) (by kernel_rfl) (by kernel_rfl) (by kernel_rfl) hd;unfold Go.Lib.TabIs
  rw [hvar,← hcs]
 have hp:W.heap[Ab.tabG]?.bind (fun|.cells cs _ _=>some cs|_=>none)=some Ab.tabC.toArray:=by
  unfold Go.Lib.TabIs World.var? at hr;rw [show Tryz.prog.globalNamed "internal/strconv.uint64pow10" = some Ab.tabG by kernel_rfl] at hr;cases hh : W.heap[Ab.tabG]? with
  | none=>rw [Option.bind_some,hh] at hr;cases hr
  |
   some o=>
   rw [Option.bind_some,hh] at hr;cases o with
   | cells cs T fz=>exact hr
   | _=>cases hr
 cases hh:W.heap[Ab.tabG]? with
 | none=>rw [hh] at hp;cases hp
 |
  some o=>
  rw [hh,Option.bind_some] at hp;cases o with
  |
   cells cs T fz=>
   simp only [Option.some.injEq] at hp;subst hp;refine ⟨⟨.int .u64 1,?_⟩,⟨.int .u64 10000000000000000000,?_⟩,T,fz,hh⟩
   ·show W.cell? ⟨Ab.tabG,0,none⟩=_
    unfold World.cell?;simp only;rw [hh];rfl
   show W.cell? ⟨Ab.tabG,19,none⟩=_
   unfold World.cell?;simp only;rw [hh];rfl
  | _=>cases hp
theorem KhC (os:Os)(started:os.Started)(H:Type)(enc:TypeId×Value→H)(Fi:Stop.Interp) :
  ReturnsInHanded {} Tryz.checked os 3 .any ((OpenSpec.ofChange Rows.printBackSpec).preRow enc Tryz.prog Tryz.f3 Rows.printBackRow.domain false Rows.printBackRow.laid) (((OpenSpec.ofChange Rows.printBackSpec).at Fi).post enc Tryz.prog Tryz.f3 false true false false):=by
 refine returnsInHanded_of_row (C:=Tryz.checked) (s:=(OpenSpec.ofChange Rows.printBackSpec)) own started (by kernel_rfl) Tryz.func3
  (witness_row_atRef (enc:=enc) (C:=Tryz.checked) false (Kfm os) #[.slice none 0 0] rfl (by kernel_rfl) (by kernel_rfl) (by kernel_rfl) (Kiu os enc)) ?_
 intro W base args ds gs before hval0 hW _ _ _ hlaid _ _;have hval:∀ (j:Nat) t v,Tryz.f3.params[j]? = some t→args[j]? = some v→Value.okWide Tryz.prog W .any base t v:=hval0;have hW':=hW;obtain ⟨p,q,hA0,hV,rfl,hfz,hnd⟩:=hW;have hA:DataW.TrodAll enc Tryz.prog W 0 (fun _=>true) true Tryz.f3.params.toList args.toList ds p:=hA0;obtain ⟨rfl,rfl⟩:=trodVars_none hV;simp only [List.append_nil] at hW';have hback:=Kh7 laidOut' (by kernel_rfl) hA (fun x hx=>hW'.lt x hx);rw [Tryz.params3] at hA hval;obtain ⟨v0,vs0,d0,ds0,p0,q0,hargs,rfl,hp0,h0,r0⟩:=trodAll_cons hA;obtain ⟨rfl,rfl,hpn⟩:=trodAll_nil r0
 obtain rfl:args=#[v0]:=by cases args;simp_all
 obtain ⟨n0,x0,g0,rep0⟩:=Ab.rd_arg (t:=22) Ab.htab [5,22] (by kernel_rfl) (by kernel_rfl) (hval 0 22 v0 rfl rfl) h0;obtain ⟨a0,rfl,k0⟩:=Ab.goodL22 g0;clear hA0 hval0;refine (Ab.to_calls (us:=#[v0]) (Ab.l14_PrintBack_ok a0 true (Ab.PrintBack_yes a0 k0)) (Ab.ag_all W (tab_gg hlaid)) (by simp only [Ab.RepsV];exact ⟨_,_,rfl,rep0,rfl⟩)).mono fun e W' ⟨he,hb⟩=>?_
 subst he;exact ⟨_,rfl,_,_,_,[],p,[],hW',trodAll_cons_mk (shut_bool Tryz.underlying4 _) trodAll_mk0,hback W' hb _ (fun x hx=>by simpa using hW'.lt x hx),rfl,hb.frame _,fun h=>by cases h⟩
theorem KhD:Rows.PrintBackSaid:=
 OpenClaim.holds_of_cond 3 Tryz.f3 rfl rfl rfl rfl rfl rfl rfl ⟨rfl,rfl,rfl,rfl,rfl⟩ rfl rfl rfl rfl rfl (by kernel_rfl) Tryz.func3 (by kernel_rfl)
  (of_decide_eq_true (by kernel_rfl)) (by unfold Func.isWrapper;rw [if_neg (of_decide_eq_false (by kernel_rfl))];exact ⟨rfl,rfl⟩)
  (fun os started H enc _ Fi=>by rw [OpenClaim.pre_eq_preRow];exact KhC os started H enc Fi)
theorem printBackCard_holds:Rows.PrintBackCardSaid:=
 Claim7.holds_tied_plain_at .later [] [.data, .data, .data] true (true, "4a0a2011583db2ce48943b0077f80d90855cd83382519689d0e0aae424b1c55d") false
  KhD (fun _ h=>by cases h) (by kernel_rfl) (fun _ h=>by cases h) printBack_row_tie rfl ⟨rfl,rfl⟩ (by kernel_rfl) rfl
  (fun f fn hf hfn=>by
   obtain rfl:f=3:=(Option.some.inj ((show Tryz.prog.funcNamed Rows.printBackRow.func=some 3 by kernel_rfl).symm.trans hf)).symm;obtain rfl:fn=Tryz.f3:=(Option.some.inj (Tryz.func3.symm.trans hfn)).symm;exact ⟨by kernel_rfl,fun j t ht=>by
    rw [Tryz.params3] at ht;have key:∀ (l:List Nat),(l.all fun t=>!(Tryz.prog.wantsStandIn t))=true→∀ j t,l[j]? = some t→Tryz.prog.wantsStandIn t=false:=fun l h j t e=>by
     have:=List.all_eq_true.1 h t (List.mem_of_getElem? e);simpa using this
    exact key [22] (by kernel_rfl) j t (by simpa using ht)⟩)
  (by kernel_rfl)
#print axioms printBackCard_holds
end Go.Proofs.YtfkaicefhibndaaGreatDoor
end
