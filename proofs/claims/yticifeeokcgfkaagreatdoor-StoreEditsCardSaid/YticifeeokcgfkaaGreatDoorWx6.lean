/- The texts that storeEditsCard_holds leans on, part 6. -/
import Derived.Test.YticifeeokcgfkaaGreatDoorWx5
set_option linter.all false
set_option maxRecDepth 100000
set_option maxHeartbeats 80000000
noncomputable section
open Array renaming length_toList→b9
open Bool renaming false_and→gG,not_false→a3,not_true→bI,true_and→eS
open ByteArray renaming empty→ε,mk→ν
open Go renaming Exit→dH,IntKind→fP,Oper→bG,Operand→aH,Program→aJ,ResultVar→dM,TypeId→aD,Value→ω,World→aL,execOp→bL
open Go.IntKind renaming i64→ζ,wrap_i64→b1
open Go.Lib renaming decDigits→d8
open Go.OpenSpec renaming ofChange→ru
open Go.Value renaming cells→cT,int→g7
open Go.World renaming cell?→aO
open Int renaming toNat_natCast→cL
open List renaming all_eq_true→bY,append_nil→aN,drop_zero→DL,flatMap_cons→cA,getD_eq_getElem?_getD→fx,getElem?_eq_getElem→bF,getElem?_eq_none→jq,length_append→υ,length_cons→Ψ,length_map→b6,length_nil→aB,length_singleton→aW,length_take→kX,map_cons→a7,mem_cons→cX,mem_of_getElem?→a4,mem_singleton→aT,nil_append→a8,takeWhile_cons→wE,take_append_drop→fq,take_of_length_le→cV,take_succ→DJ
open List.Perm renaming cons→χ
open List.Sublist renaming refl→bT
open Nat renaming add_mul→cC,add_zero→gY,beq→bM,ble→cK,blt→aZ,le_refl→Φ,mul_le_mul_right→dF,zero_le→fM
open Option renaming bind→κ,bind_some→δ,map_eq_some_iff→fF
open Option.some renaming inj→oP,injEq→aA
open Or renaming inl→fi,inr→fh
open Prod.mk renaming injEq→fb
open Sum renaming elim→Ω,elim_inl→Γ,elim_inr→ς,inl→c5,inr→bZ
open UInt8 renaming ofNat→il
namespace Go.Proofs.YticifeeokcgfkaaGreatDoor.Ab.Pq
section
variable {L:List c9}(hL:L.length ≤ 100000)
theorem xN {c:Nat}{m:RR}{lo:List KZ}{l2:List Kk}{m2:RR}(h:zI c m=some (lo,l2,m2)):∃ x y,Am m 0=some x∧aE (u9 c) (x.gL,x.ga,x.gE,[])=some y∧Ah (⟨y.1,y.2.1,y.2.2.1⟩:RR) 1=some (l2,m2)∧y.2.2.2=lo:=by
 unfold zI at h;cases h1:Am m 0 with
 | none=>rw [h1] at h;cases h
 |
  some x=>
  rw [h1,δ] at h;cases h2:aE (u9 c) (x.gL,x.ga,x.gE,[]) with
  | none=>rw [h2] at h;cases h
  |
   some y=>
   rw [h2,δ] at h;cases d:Ah (⟨y.1,y.2.1,y.2.2.1⟩:RR) 1 with
   | none=>rw [d] at h;cases h
   |
    some z=>
    rw [d,δ] at h;simp only [aA,fb] at h;obtain ⟨a,b,c⟩:=h;exact ⟨x,y,rfl,h2,by rw [d];cases z;simp_all,a⟩
include hL
theorem o7 {l:List Kk}(h:szSs l≤1000000):B5 l=some (szSs l:Int)∧((Cb l).bind fun a=>(Dt l).bind fun b=>some (decide ((800:Int)<(ζ.wrap ((a.length:Int)+(b.length:Int))))))=some (decide (800<szSs l)):=by
 refine ⟨m0 (by omega),?_⟩;have hfl:=Aa l;rw [mZ (by omega),δ,vw (by omega),δ,kR (by omega) (by omega)];congr 1;exact decide_eq_decide.2 (by omega)
def nG (f:KC)(q:Nat)(e:Int):KC×Int×Int:=bif e != 0 then (zF,(q:Int),e) else (f,(q:Int),0)
theorem se (p:dK L):∃ f q e v',w9 (gm L p 0 0 0)=some (f,gm L q e v' 0)∧Ca L ((p.1:Nat):Int)=some (nG f q.1 e)∧(e=0→f.gh.length≤1048576∧f.gi.length≤1048576∧szSs f.gx≤1048576):=by
 have hp:=p.2;unfold w9 Ca;rw [Δ (by omega),θ,Δ (by omega),δ,θ];rw [yK hL,δ,geat hL,δ,gname hL,δ];rw [jE hL p,δ,fG hL p,δ,kH hL,δ];simp only [];generalize eatP L p 0 iG=a;generalize nameP L a.1 a.2=m;obtain ⟨f,ps,lo,l2,q,e,v',h1,h2,j⟩:=rI hL m.2.1 m.2.2 m.1 (lk L p.1).ga;cases hA:rr (gm L m.2.1 m.2.2 0 0) with
 | none=>rw [hA] at h1;cases h1
 | some d=>
 rw [hA,δ] at h1;cases hB:wq d.2 (⟨m.1,d.1,[],[],(lk L p.1).ga⟩:KC) with
 | none=>rw [hB] at h1;cases h1
 | some k=>
 rw [hB,δ] at h1;simp only [aA,fb] at h1;obtain ⟨hf,hg⟩:=h1;cases hC:wU (rm L m.2.1 m.2.2) with
 | none=>rw [hC] at h2;cases h2
 | some b=>
 rw [hC,δ] at h2;cases hD:zI b.1.length b.2 with
 | none=>rw [hD] at h2;cases h2
 | some y=>
 rw [hD,δ] at h2;simp only [aA,fb] at h2;obtain ⟨hps,hy⟩:=h2;subst hy;obtain ⟨c,t,k1,k2,n,o⟩:=xN hD;simp only [δ];rw [hB,δ,k1,δ];change ∃ f_1 q_1 e_1 v'_1,_∧κ (aE (u9 b.1.length) (c.gL,c.ga,c.gE,[])) _=_∧_;rw [k2,δ,n,δ,hg,hf,o,hps];simp only [];by_cases he:e=0;subst he;obtain ⟨g,hs⟩:=j rfl;have hq:=q.2;obtain ⟨r,s⟩:=o7 hL (l:=l2) (by omega);have hb:k.1=l2:=by have:=a6 KC.gx (hf.trans g);exact this
 rw [hb,r,s];simp only [aG,ξ,δ];rw [show decide ((800:Int)<((szSs l2:Nat):Int))=decide (800<szSs l2) from decide_eq_decide.2 (by omega)];subst g;by_cases i:800<szSs l2;rw [Ξ i,ξ,ξ,gfail q a.1,jF q a.1,v9,δ,δ,δ];exact ⟨_,a.1,6,v',rfl,rfl,fun h=>by cases h⟩;rw [Δ i,θ,θ,δ];exact ⟨_,q,0,v',rfl,rfl,fun _=>⟨by show ps.length≤_;omega,by show lo.length≤_;omega,by show szSs l2≤_;omega⟩⟩;have hb:(e==0)=false:=by simp [he]
 simp only [hb,θ,δ,bne,a3,ξ];refine ⟨_,q,e,v',rfl,?_,fun h=>bH h he⟩;unfold nG;simp only [bne,hb,a3,ξ];rfl
end
end Go.Proofs.YticifeeokcgfkaaGreatDoor.Ab.Pq
namespace Go.Proofs.YticifeeokcgfkaaGreatDoor.Ab.Pq
open Go
def Ge (f:KC):Prop:=f.gh.length≤1048576∧f.gi.length≤1048576∧szSs f.gx≤1048576
theorem lv:Ge zF:=⟨by show (0:Nat)≤_;omega,by show (0:Nat)≤_;omega,by show szSs []≤_;decide⟩
theorem xZ {f:KC}{q:Nat}{e:Int}(h:e=0→Ge f):Ge (nG f q e).1:=by
 unfold nG;by_cases he:e=0;subst he;exact h rfl;simp only [bne,show (e==0)=false by simp [he],a3,ξ];exact lv
theorem x1 (f:KC)(q:Nat)(e:Int):(nG f q e).2.1=(q:Int):=by
 unfold nG;cases (e != 0)<;>rfl
section
variable {L:List c9}(hL:L.length ≤ 100000)
include hL
theorem pJ (a:Int):∃ r,As L a=some r∧Ca L a=some r∧Ge r.1∧(0≤a→a≤(L.length:Int)→∃ q:dK L,r.2.1=((q.1:Nat):Int)):=by
 by_cases b:0≤a;by_cases h1:a≤(L.length:Int);obtain ⟨n,rfl⟩:=Int.eq_ofNat_of_zero_le b;obtain ⟨f,q,e,v',k1,k2,c⟩:=se hL ⟨n,by omega⟩;refine ⟨nG f q.1 e,?_,k2,xZ c,fun _ _=>⟨q,x1 _ _ _⟩⟩;unfold As td;rw [Ξ b,ξ,δ,Ξ h1];simp only [bI,θ];change κ (w9 (gm L ⟨n,by omega⟩ 0 0 0)) _=_;rw [k1,δ];unfold nG;cases (e != 0)<;>rfl;refine ⟨(zF,0,2),?_,?_,lv,fun _ h=>bH h h1⟩;unfold As td;rw [Ξ b,ξ,δ,Δ h1];rfl;unfold Ca;rw [Δ (by omega),θ,Ξ (by omega)];rfl;refine ⟨(zF,0,2),?_,?_,lv,fun h=>bH h b⟩;unfold As td;rw [Δ b,θ];rfl;unfold Ca;rw [Ξ (by omega),ξ];rfl
end
theorem funcText_both (b:List aC):∃ r,y3 b=some r∧FK b=some r∧Ge r.1:=by
 unfold y3 F0 FK;rcases Koa b with ⟨l,hl,h1,h2⟩|⟨x,e,he,h1,h2⟩;rw [h1,h2];simp only [δ,bne,aG,bI,θ];have hlen:(l++[(⟨0,ε,0,(b.length:Int)⟩:c9)]).length=l.length+1:=by simp
 obtain ⟨r,a,c,hz,d⟩:=pJ (L:=l++[⟨0,ε,0,(b.length:Int)⟩]) (by omega) 0;obtain ⟨q,hq⟩:=d (by omega) (by omega);have f:=q.2;rw [a,c,δ,δ,hq,nB hl q.2,δ];have hw:ζ.wrap (((l++[(⟨0,ε,0,(b.length:Int)⟩:c9)]).length:Int)-1)=(l.length:Int):=by rw [hlen,kR (by omega) (by omega)];omega
 rw [hw,show min ((q.1:Nat):Int) (l.length:Int)=((min q.1 l.length:Nat):Int) by omega,I8 (by omega),δ];generalize lk (l++[(⟨0,ε,0,(b.length:Int)⟩:c9)]) (min q.1 l.length)=t;simp only [];cases he:r.2.2==0;simp only [a3,ξ,gG,θ,he,δ];exact ⟨_,rfl,rfl,lv⟩;simp only [bI,θ,eS];cases hk:t.gp==0;simp only [bne,hk,a3,ξ];exact ⟨_,rfl,rfl,lv⟩;simp only [bne,hk,bI,θ,he,ξ];exact ⟨_,rfl,rfl,hz⟩;rw [h1,h2];simp only [δ,bne,show (e==0)=false by simp [he],a3,ξ];exact ⟨_,rfl,rfl,lv⟩
end Go.Proofs.YticifeeokcgfkaaGreatDoor.Ab.Pq
namespace Go.Proofs.YticifeeokcgfkaaGreatDoor.Ab
section
open Go
def j9 {β:Type}(l:List β)(i:Option Nat)(x:β):List β:=match i with
 | some k=>l.set k x
 | none=>l++[x]
def m6 {β:Type}(l:List β)(i:Option Nat)(x:β):List β:=match i with
 | some k=>l.set k x
 | none=>l
def mG (i:Option Nat):Int:=match i with
 | some k=>(k:Int)
 | none=>-1
theorem qL {β:Type}{t:β→Bool}{l:List β}{k:Nat}(h:l.findIdx? t=some k):k<l.length:=(List.findIdx?_eq_some_iff_getElem.1 h).1
theorem lq {β ρ:Type}{l:List β}(t:β→Bool)(c:Int→ρ)(hb:l.length≤1048576){F:Int→Option (Step Int (Unit⊕ρ))}(hF:∀ s,F s=(bif (decide (s<(l.length:Int))) then ((idx l s).bind fun x=>(bif (t x) then some (.done (.inr (c s))) else some (.next (ζ.wrap (s+(1:Int)))))) else some (.done (.inl ())))) :
  aE F (0:Int)=some (match l.findIdx? t with|some k=>.inr (c k)|none=>.inl ()):=by
 have key:T (aE F (0:Int)) fun r=>r=(match l.findIdx? t with|some k=>.inr (c k)|none=>.inl ()):=by
  refine T.loop (fun s=>∃ k:Nat,s=(k:Int)∧k≤l.length∧(l.take k).findIdx? t=none) (fun s=>l.length-s.toNat) ⟨0,rfl,fM _,rfl⟩ fun s hs=>?_;obtain ⟨k,rfl,hk,hn⟩:=hs;rw [hF];refine T.cond (fun hc=>?_) fun hc=>T.ret ?_;have h:k<l.length:=by have:=aY hc;omega
  have e:l=l.take k++l[k]::l.drop (k+1):=by rw [← List.drop_eq_getElem_cons h,fq]
  rw [lb,bF h,δ];refine T.cond (fun ht=>T.ret ?_) fun ht=>T.ret ?_;show bZ (c (k:Int))=_;rw [show l.findIdx? t=some k by
   rw [e,List.findIdx?_append,hn,List.findIdx?_cons,ht];simp;omega]
  have hw:=wn (n:=k) (by omega);refine ⟨⟨k+1,hw,h,?_⟩,by simp only [hw,cL];omega⟩;rw [DJ,List.findIdx?_append,hn,bF h];simp [List.findIdx?_cons,ht];have:k=l.length:=by have:=a9 hc;omega
  subst this;rw [List.take_length] at hn;show c5 ()=_;rw [hn]
 obtain ⟨r,h1,h2⟩:=key;rw [h1,h2]
theorem m5 {β:Type}{l:List β}{bb:Nat}(hbb:bb≤4096)(i:Option Nat)(x:β)(hb:l.length≤1048576){F:Int×List β→Option (Step (Int×List β) (List β))}(hF:∀ s,F s=(bif (decide (s.1<(l.length:Int))) then (bif (s.1==mG i) then ((app bb s.2 ([x]:List β)).bind fun y=>some (.next ((ζ.wrap (s.1+(1:Int))),y))) else ((idx l s.1).bind fun z=>((app bb s.2 ([z]:List β)).bind fun y=>some (.next ((ζ.wrap (s.1+(1:Int))),y))))) else some (.done s.2))) :
  aE F ((0:Int),([]:List β))=some (m6 l i x):=by
 generalize a:m6 l i x=m;have hml:m.length=l.length:=by subst a;cases i<;>simp [m6]
 have key:T (aE F ((0:Int),([]:List β))) fun r=>r=m:=by
  refine T.each l (fun pre s=>s.1=(pre.length:Int)∧s.2=m.take pre.length) ⟨rfl,rfl⟩ (fun pre z post s e hi=>?_) fun s hi=>?_
  ·obtain ⟨h1,h2⟩:=hi;obtain ⟨b,c⟩:=s;simp only at h1 h2;subst h1 h2;have hlp:=BZ e;have hz:l[pre.length]? = some z:=by rw [e];simp
   have fin:∀ v,m[pre.length]? = some v→T ((app bb (m.take pre.length) [v]).bind fun y=>some (Step.next (τ:=List β) ((ζ.wrap ((pre.length:Int)+(1:Int))),y))) fun r=>∃ s',r=.next s'∧s'.1=((pre++[z]).length:Int)∧s'.2=m.take (pre++[z]).length:=fun v hv=>by
    rw [h9 hbb (by simp;omega),δ];refine T.next ⟨by show ζ.wrap _=_;rw [fK e (by omega)];simp,?_⟩;rw [υ,aW,DJ,hv];rfl
   rw [hF,fL e,ξ];refine T.cond (fun h=>?_) fun h=>T.to (kh e) (fin z ?_)
   ·refine fin x ?_;subst a;cases i with
    |
     some k=>
     have:k=pre.length:=by
      have:(pre.length:Int)=(k:Int):=by simpa [mG] using h
      omega
     subst this;show (l.set _ x)[_]? = _
     rw [List.getElem?_set_self hlp]
    | none=>simp [mG] at h
   subst a;cases i with
   |
    some k=>
    have hne:k≠pre.length:=fun q=>by subst q;simp [mG] at h
    show (l.set _ x)[_]? = _
    rw [List.getElem?_set_ne hne];exact hz
   | none=>exact hz
  obtain ⟨h1,h2⟩:=hi;rw [hF,h1,jR,θ];exact T.done (by rw [h2,← hml,List.take_length])
 obtain ⟨r,h1,h2⟩:=key;rw [h1,h2]
theorem nV {β:Type}{l:List β}{bb:Nat}(hbb:bb≤4096)(t:β→Bool)(hb:l.length≤1048576){F:Int×List β→Option (Step (Int×List β) (List β))}(hF:∀ s,F s=(bif (decide (s.1<(l.length:Int))) then ((idx l s.1).bind fun x=>(bif (!(t x)) then ((idx l s.1).bind fun z=>((app bb s.2 ([z]:List β)).bind fun y=>some (.next ((ζ.wrap (s.1+(1:Int))),y)))) else some (.next ((ζ.wrap (s.1+(1:Int))),s.2)))) else some (.done s.2))) :
  aE F ((0:Int),([]:List β))=some (l.filter fun x=>!t x):=by
 have key:T (aE F ((0:Int),([]:List β))) fun r=>r=l.filter fun x=>!t x:=by
  refine T.each l (fun pre s=>s.1=(pre.length:Int)∧s.2=pre.filter fun x=>!t x) ⟨rfl,rfl⟩ (fun pre z post s e hi=>?_) fun s hi=>?_;obtain ⟨h1,h2⟩:=hi;obtain ⟨a,b⟩:=s;simp only at h1 h2;subst h1 h2;have hlp:=BZ e;have hf:=List.length_filter_le (fun x=>!t x) pre;have hend:ζ.wrap ((pre.length:Int)+(1:Int))=((pre++[z]).length:Int):=by rw [fK e (by omega)];simp
  rw [hF,fL e,ξ];refine T.to (kh e) (T.cond (fun h=>T.to (kh e) ?_) fun h=>T.next ⟨hend,?_⟩);rw [h9 hbb (by simp;omega),δ];refine T.next ⟨hend,?_⟩;rw [List.filter_append];simp [h];rw [List.filter_append];simp [h];obtain ⟨h1,h2⟩:=hi;rw [hF,h1,jR,θ];exact T.done h2
 obtain ⟨r,h1,h2⟩:=key;rw [h1,h2]
theorem vH {β:Type}{a:List β}{z:β}(t:β→Bool)(hb:a.length≤1048576){ix:Option Int}(hix:ix=some (mG (a.findIdx? t))){F:Int×Int×List β→Option (Step (Int×Int×List β) (Int×List β))}
  (hF:∀ s,F s=(bif (decide (s.2.1<(s.2.2.length:Int))) then ((idx s.2.2 s.2.1).bind fun g=>(bif (!(t g)) then ((idx s.2.2 s.1).bind fun v=>some (.next ((ζ.wrap (s.1+(1:Int))),(ζ.wrap (s.2.1+(1:Int))),(s.2.2.set s.1.toNat g)))) else some (.next (s.1,(ζ.wrap (s.2.1+(1:Int))),s.2.2)))) else some (.done (s.1,s.2.2)))) :
  (ix.bind fun e=>(bif (e==(-1:Int)) then some a else (κ (aE F (e,(ζ.wrap (e+(1:Int))),a)) fun b=>((eP b.2 b.1 ((b.2).length:Int)).bind fun w=>((eP (k8 b.2 b.1.toNat z) (0:Int) b.1).bind fun n=>some n)))))=some (a.filter fun x=>!t x):=by
 subst hix;rw [δ];cases hi:a.findIdx? t with
 |
  none=>
  rw [show (mG none==-1)=true from rfl,ξ];congr 1;refine (List.filter_eq_self.2 fun x hx=>?_).symm;simpa using List.findIdx?_eq_none_iff.1 hi x hx
 |
  some k=>
  obtain ⟨hk,o,p⟩:=List.findIdx?_eq_some_iff_getElem.1 hi;rw [show (mG (some k)==-1)=false by simp [mG],θ];have hw:∀ j:Nat,j<1048577→ζ.wrap ((j:Int)+1)=((j+1:Nat):Int):=fun j h=>by rw [b1];omega
  have u:(a.take (k+1)).filter (fun x=>!t x)=a.take k:=by
   rw [DJ,List.filter_append,bF hk];rw [List.filter_eq_self.2 fun x hx=>?_]
   ·simp [o]
   obtain ⟨j,hj,rfl⟩:=List.mem_iff_getElem.1 hx;have hj':j<k:=by rw [kX] at hj;omega
   rw [List.getElem_take];simpa using p j hj'
  obtain ⟨r,h1,i,l,rfl,h2,d,c⟩:=IU (f:=F) (fun s=>∃ (i j:Nat) (l:List β),s=((i:Int),(j:Int),l)∧i<j∧j≤a.length∧l.length=a.length∧l.take i=(a.take j).filter (fun x=>!t x)∧l.drop j=a.drop j) (fun s=>a.length-s.2.1.toNat) (fun r=>∃ (i:Nat) (l:List β),r=((i:Int),l)∧i≤a.length∧l.length=a.length∧l.take i=a.filter fun x=>!t x) (fun s hs=>by
   obtain ⟨i,j,l,rfl,h1,h2,d,c,m⟩:=hs;rw [hF];simp only;by_cases h:j<a.length
   ·have hj:l[j]? = some l[j]:=bF (by omega);have hi:l[i]? = some l[i]:=bF (by omega);have hja:a[j]? = some l[j]:=by
     have:=a6 (fun q=>q[0]?) m;simp only [List.getElem?_drop,gY] at this;rw [← this,hj]
    have hd:l.drop (j+1)=a.drop (j+1):=by
     have:=a6 (List.drop 1) m;simpa [List.drop_drop] using this
    rw [Ξ (by omega),ξ,lb,hj,δ,hw j (by omega),hw i (by omega)];cases ht:t l[j] with
    | true=>exact .inl ⟨_,rfl,⟨i,j+1,l,rfl,by omega,by omega,d,by rw [DJ,List.filter_append,hja,← c];simp [ht],hd⟩,by simp only [cL];omega⟩
    |
     false=>
     rw [a3,ξ,lb,hi,δ];refine .inl ⟨_,rfl,⟨i+1,j+1,l.set i l[j],by simp,by omega,by omega,by simpa using d,?_,?_⟩,by simp only [cL];omega⟩
     ·rw [DJ (l:=a),List.filter_append,hja,← c,DJ,List.getElem?_set_self (by omega),List.take_set_of_le (Φ _)];simp [ht]
     rw [List.drop_set_of_lt (by omega),hd]
   rw [Δ (by omega),θ];refine .inr ⟨_,rfl,i,l,rfl,by omega,d,?_⟩;rw [c,cV (by omega)]) (s:=((k:Int),ζ.wrap ((k:Int)+1),a)) ⟨k,k+1,a,by rw [hw k (by omega)],by omega,hk,rfl,u.symm,rfl⟩
  rw [show mG (some k)=(k:Int) from rfl,h1,δ];simp only [cL];have c1:eP l (i:Int) (l.length:Int)=some (l.drop i):=by
   unfold eP;rw [show (decide (0≤(i:Int)) && decide ((i:Int)≤(l.length:Int)) && decide ((l.length:Int)≤(l.length:Int)))=true by simp;omega,ξ];simp [cV]
  have c2:eP (k8 l i z) 0 (i:Int)=some (l.take i):=by
   have hlen:(k8 l i z).length=l.length:=by unfold k8;simp;omega
   unfold eP;rw [show (decide ((0:Int)≤0) && decide ((0:Int)≤(i:Int)) && decide ((i:Int)≤((k8 l i z).length:Int)))=true by rw [hlen];simp;omega,ξ];simp only [Int.toNat_zero,DL,cL,Nat.sub_zero];unfold k8;rw [List.take_append_of_le_length (by simp;omega),List.take_take,Nat.min_self]
  rw [c1,δ,c2,δ,c]
end
section
open Go
structure Rv (p:KB):Prop where
 ok:(pv p).2.2=0
 vf:∀ f∈p.gf,VF f
 vg:∀ g∈p.gc,VG g
theorem VF.fs {f:KC}(h:VF f):FS f:=⟨by have:=h.many;omega,by have:=h.many;omega,h.size⟩
theorem Rv.fit {p:KB}(h:Rv p):PFit p:=(Rt.mk h.ok fun f hf=>(h.vf f hf).fs).big.fit
theorem Oe:Rv (⟨[],[]⟩:KB):=⟨by unfold pv;simp [BP,dupN,scan],fun f hf=>(by cases hf),fun f hf=>(by cases hf)⟩
theorem nJ {β:Type}{l:List β}{i:Option Nat}{x y:β}(h:y∈j9 l i x):y∈l∨y=x:=by
 cases i with
 | some k=>exact List.mem_or_eq_of_mem_set h
 | none=>simpa [j9] using h
theorem m7 {β:Type}(l:List β)(i:Option Nat)(x:β):(j9 l i x).length≤l.length+1:=by cases i<;>simp [j9]
theorem IM {p q:KB}{own:Int}(hq:PFit q)(vf:∀ f∈q.gf,VF f)(vg:∀ g∈q.gc,VG g)(hp:Rv p):∃ at_ e r,Cs ⟨p⟩ q own=some (at_,e,⟨r⟩)∧Dc p q own=some (r,at_,e)∧Rv r:=by
 unfold Cs Dc;rw [og hq,uc hq,δ,δ];by_cases h:(pv q).2.2=0;rw [show ((pv q).2.2==0)=true by simp [h]];exact ⟨0,0,q,rfl,rfl,h,vf,vg⟩;rw [show ((pv q).2.2==0)=false by simp [h]];cases h2:(pv q).1 != own<;>exact ⟨_,_,p,rfl,rfl,hp⟩
def xU (n:Nat)(i:Option Nat):Int:=match i with
 | some k=>(k:Int)
 | none=>(n:Int)
theorem qp {l:List KC}(hl:l.length≤1000)(f:KC):Ic l f f=some (j9 l (l.findIdx? fun x=>decide (x.gb=f.gb)) f,xU l.length (l.findIdx? fun x=>decide (x.gb=f.gb))):=by
 unfold Ic DF J5 J1;rw [yT (by omega) (by omega),δ];simp only [δ];rw [lq (fun x:KC=>decide (x.gb=f.gb)) (fun s=>s) (l:=l) (by omega) (fun _=>rfl),δ];cases hi:l.findIdx? fun x=>decide (x.gb=f.gb) with
 |
  none=>
  simp only;rw [Γ,δ,show decide ((-1:Int)<0)=true from rfl,ξ,h9 (by omega) (by simp;omega)];rfl
 |
  some k=>
  have hk:=qL hi;simp only;rw [ς,δ,Δ (by omega),θ,lb,bF hk,δ];rfl
theorem xD {l:List KR}(hl:l.length≤1000)(f:KR):H9 l f f=some (j9 l (l.findIdx? fun x=>decide (x.gb=f.gb)) f,xU l.length (l.findIdx? fun x=>decide (x.gb=f.gb))):=by
 unfold H9 w5 J6 J0;rw [yT (by omega) (by omega),δ];simp only [δ];rw [lq (fun x:KR=>decide (x.gb=f.gb)) (fun s=>s) (l:=l) (by omega) (fun _=>rfl),δ];cases hi:l.findIdx? fun x=>decide (x.gb=f.gb) with
 |
  none=>
  simp only;rw [Γ,δ,show decide ((-1:Int)<0)=true from rfl,ξ,h9 (by omega) (by simp;omega)];rfl
 |
  some k=>
  have hk:=qL hi;simp only;rw [ς,δ,Δ (by omega),θ,lb,bF hk,δ];rfl
theorem qW {l:List KC}(hl:l.length≤1000)(n:η):Ig l n=some (l.filter fun x=>!decide (x.gb=n)):=by
 unfold Ig;refine vH (a:=l) (fun x=>decide (x.gb=n)) (by omega) ?_ (fun _=>rfl);unfold J8 Ia;simp only [δ];rw [lq (fun x:KC=>decide (x.gb=n)) (fun s=>s) (l:=l) (by omega) (fun _=>rfl),δ];cases l.findIdx? fun x=>decide (x.gb=n)<;>rfl
theorem qV {l:List KR}(hl:l.length≤1000)(n:η):If l n=some (l.filter fun x=>!decide (x.gb=n)):=by
 unfold If;refine vH (a:=l) (fun x=>decide (x.gb=n)) (by omega) ?_ (fun _=>rfl);unfold J7 Ib;simp only [δ];rw [lq (fun x:KR=>decide (x.gb=n)) (fun s=>s) (l:=l) (by omega) (fun _=>rfl),δ];cases l.findIdx? fun x=>decide (x.gb=n)<;>rfl
theorem En {p:KB}(hl:p.gf.length≤1000)(n:η):Hu p n=some (mG (p.gf.findIdx? fun x=>decide (x.gb=n))):=by
 unfold Hu;rw [lq (fun x:KC=>decide (x.gb=n)) (fun s=>s) (l:=p.gf) (by omega) (fun _=>rfl),δ];cases p.gf.findIdx? fun x=>decide (x.gb=n)<;>rfl
theorem Em {p:KB}(hl:p.gc.length≤1000)(n:η):Hy p n=some (mG (p.gc.findIdx? fun x=>decide (x.gb=n))):=by
 unfold Hy;rw [lq (fun x:KR=>decide (x.gb=n)) (fun s=>s) (l:=p.gc) (by omega) (fun _=>rfl),δ];cases p.gc.findIdx? fun x=>decide (x.gb=n)<;>rfl
theorem El (b:List aC):∃ f at_ e,y3 b=some (f,at_,e)∧FK b=some (f,at_,e)∧(e=0→VF f):=by
 obtain ⟨⟨f,a,e⟩,h1,h2,_,_,c⟩:=Pq.funcText_both b;refine ⟨f,a,e,h1,h2,fun h=>?_⟩;obtain ⟨d,n2,g,n4,n5⟩:=AI b _ h1 h;exact ⟨d,n2,g,n4,n5,c⟩
theorem Ek (b:List aC):∃ (f:KR) (at_ e:Int),CJ b=some (f,at_,e)∧FN b=some (f,at_,e)∧(e=0→VG f):=by
 obtain ⟨⟨f,a,e⟩,h1,h2⟩:=Pq.globalText_both b;exact ⟨f,a,e,h1,h2,tE b _ h1⟩
section
variable {p:KB}(hp:Rv p)
include hp
theorem Rv.lens:p.gc.length≤24∧p.gf.length≤24:=qw hp.ok
theorem yr (b:List aC):∃ at_ e r,Dw ⟨p⟩ b=some (at_,e,⟨r⟩)∧Ht p b=some (r,at_,e)∧Rv r:=by
 obtain ⟨l1,l2⟩:=hp.lens;obtain ⟨f,a,e,k1,k2,d⟩:=El b;unfold Dw Ht;rw [k1,k2,δ,δ];by_cases he:e=0;subst he;have hv:=d rfl;simp only [b3,θ,qp (l:=p.gf) (by omega) f,En (p:=p) (by omega) f.gb,δ];rw [m5 (l:=p.gf) (bb:=96) (by omega) (p.gf.findIdx? fun x=>decide (x.gb=f.gb)) f (by omega) (fun _=>rfl),δ];generalize p.gf.findIdx? (fun x=>decide (x.gb=f.gb))=i;have hs:=m7 p.gf i f;have c:∀ g∈j9 p.gf i f,VF g:=fun g hg=>(nJ hg).elim (hp.vf g) fun h=>by rw [h];exact hv
 obtain ⟨a',e',r,j,m,n⟩:=IM (p:=p) (q:=⟨p.gc,j9 p.gf i f⟩) (own:=ζ.wrap ((p.gc.length:Int)+xU p.gf.length i)) (Big.fit ⟨by simp only;omega,by simp only;omega,fun g hg=>(c g hg).fs⟩) c hp.vg hp;refine ⟨a',e',r,by rw [j];rfl,?_,n⟩;have key:(κ (α:=Int×List KC) (bif (decide (mG i<(0:Int))) then ((app 96 (m6 p.gf i f) ([f]:List KC)).bind fun o=>some (((m6 p.gf i f).length:Int),o)) else some (mG i,m6 p.gf i f)) fun y=>some y)=some (xU p.gf.length i,j9 p.gf i f):=by
  cases i with
  |
   none=>
   rw [show decide (mG none<0)=true from rfl,ξ];show κ ((app 96 p.gf [f]).bind _) _=_
   rw [h9 (by omega) (by simp;omega)];rfl
  |
   some k=>
   rw [show decide (mG (some k)<0)=false from Δ (by show ¬ (k:Int)<0;omega)];rfl
 rw [Option.bind_fun_some] at key;rw [key,δ,m];rfl;simp only [show (e != 0)=true by simpa using he,ξ,δ];exact ⟨_,_,p,rfl,rfl,hp⟩
theorem sd (b:List aC):∃ at_ e r,Id ⟨p⟩ b=some (at_,e,⟨r⟩)∧Hw p b=some (r,at_,e)∧Rv r:=by
 obtain ⟨l1,l2⟩:=hp.lens;obtain ⟨f,a,e,k1,k2,c⟩:=Ek b;unfold Id Hw;rw [k1,k2,δ,δ];by_cases he:e=0;subst he;have hv:=c rfl;simp only [b3,θ,xD (l:=p.gc) (by omega) f,Em (p:=p) (by omega) f.gb,δ];rw [m5 (l:=p.gc) (bb:=40) (by omega) (p.gc.findIdx? fun x=>decide (x.gb=f.gb)) f (by omega) (fun _=>rfl),δ];generalize p.gc.findIdx? (fun x=>decide (x.gb=f.gb))=i;have hs:=m7 p.gc i f;have d:∀ g∈j9 p.gc i f,VG g:=fun g hg=>(nJ hg).elim (hp.vg g) fun h=>by rw [h];exact hv
 obtain ⟨a',e',r,j,m,n⟩:=IM (p:=p) (q:=⟨j9 p.gc i f,p.gf⟩) (own:=-1) (Big.fit ⟨by simp only;omega,by simp only;omega,fun g hg=>(hp.vf g hg).fs⟩) hp.vf d hp;refine ⟨a',e',r,by rw [j];rfl,?_,n⟩;have key:(κ (α:=List KR) (bif (decide (mG i<(0:Int))) then ((app 40 (m6 p.gc i f) ([f]:List KR)).bind fun o=>some o) else some (m6 p.gc i f)) fun y=>some y)=some (j9 p.gc i f):=by
  cases i with
  |
   none=>
   rw [show decide (mG none<0)=true from rfl,ξ];show κ ((app 40 p.gc [f]).bind _) _=_
   rw [h9 (by omega) (by simp;omega)];rfl
  |
   some k=>
   rw [show decide (mG (some k)<0)=false from Δ (by show ¬ (k:Int)<0;omega)];rfl
 rw [Option.bind_fun_some] at key;rw [key,δ,m];rfl;simp only [show (e != 0)=true by simpa using he,ξ,δ];exact ⟨_,_,p,rfl,rfl,hp⟩
theorem yz (n:η):∃ e r,Dv ⟨p⟩ n=some (e,⟨r⟩)∧Hs p n=some (r,e)∧Rv r:=by
 obtain ⟨l1,l2⟩:=hp.lens;unfold Dv DF w5 Hs;simp only;rw [yT (by omega) (by omega),δ,qV (by omega),δ,yT (by omega) (by omega),δ,qW (by omega),δ];rw [nV (l:=p.gc) (bb:=40) (by omega) (fun x=>decide (x.gb=n)) (by omega) (fun _=>rfl),δ,nV (l:=p.gf) (bb:=96) (by omega) (fun x=>decide (x.gb=n)) (by omega) (fun _=>rfl),δ];generalize hg:(p.gc.filter fun x=>!decide (x.gb=n))=gs;generalize hf:(p.gf.filter fun x=>!decide (x.gb=n))=fs;have g1:gs.length≤p.gc.length:=by rw [← hg];exact List.length_filter_le _ _
 have f1:fs.length≤p.gf.length:=by rw [← hf];exact List.length_filter_le _ _
 have c:∀ g∈gs,VG g:=fun g h=>hp.vg g (by rw [← hg] at h;exact (List.mem_filter.1 h).1);have a:∀ f∈fs,VF f:=fun f h=>hp.vf f (by rw [← hf] at h;exact (List.mem_filter.1 h).1);rw [b1,b1];by_cases h:gs.length=p.gc.length∧fs.length=p.gf.length;rw [h.1,h.2];simp only [aG,ξ,δ];exact ⟨_,p,rfl,rfl,hp⟩;rw [show (((gs.length:Int)+(fs.length:Int)+9223372036854775808)%18446744073709551616-9223372036854775808==((p.gc.length:Int)+(p.gf.length:Int)+9223372036854775808)%18446744073709551616-9223372036854775808)=false from beq_eq_false_iff_ne.2 (by omega),θ];obtain ⟨a',e',r,b,d,i⟩:=IM (p:=p) (q:=⟨gs,fs⟩) (own:=-1) (Big.fit ⟨by simp only;omega,by simp only;omega,fun g hg=>(a g hg).fs⟩) a c hp;refine ⟨e',r,?_,by rw [d];rfl,i⟩;by_cases h1:gs.length=p.gc.length;rw [show ((gs.length:Int)==(p.gc.length:Int))=true by simp [h1],ξ,δ,show ((fs.length:Int)==(p.gf.length:Int))=false from beq_eq_false_iff_ne.2 (by omega),θ,b];rfl;rw [show ((gs.length:Int)==(p.gc.length:Int))=false from beq_eq_false_iff_ne.2 (by omega),θ,δ,θ,b];rfl
end
end
section
open Go
theorem BA {a b:η}(h:dl a=dl b):a=b:=by
 obtain ⟨a⟩:=a;obtain ⟨b⟩:=b;have:a.toList=b.toList:=h;rw [Array.toList_inj.1 this]
theorem yu {β:Type}{pc:β→List aC}{c:Nat}:∀ {l:List β},(∀ x∈l,(pc x).length≤c)→(l.flatMap pc).length≤l.length*c
 | [],_=>fM _
 |
  x::l,h=>by
  have h1:=h x (by simp);have h2:=yu (l:=l) fun y hy=>h y (by simp [hy])
  rw [cA,υ,Ψ,cC];omega
section
variable {β:Type}{l:List β}{pr:β→Option η}{pc:β→List aC}(hl:l.length ≤ 24)(hpr:∀ x ∈ l, T (pr x) fun r => dl r = pc x)(hn:∀ x ∈ l, (pc x).length ≤ 1000000000)
include hl hpr hn
theorem qv {pre:List β}{x:β}{post:List β}(e:l=pre++x::post):(pre.flatMap pc).length≤24000000000:=by
 have h:=yu (l:=pre) (pc:=pc) (c:=1000000000) fun y hy=>hn y (by rw [e];simp [hy]);have hlp:=BZ e;have:pre.length*1000000000≤24*1000000000:=dF _ (by omega);omega
theorem zp {u:List aC}(hu:u.length≤24000000000){F:Int×List aC→Option (Step (Int×List aC) (List aC))}
  (hF:∀ s,F s=(bif (decide (s.1<(l.length:Int))) then ((idx l s.1).bind fun x=>((pr x).bind fun y=>((F3 (⟨s.2⟩:Kal) y).bind fun z=>some (.next ((ζ.wrap (s.1+(1:Int))),z.2.2.gz))))) else some (.done s.2))):T (aE F ((0:Int),u)) fun r=>r=u++l.flatMap pc:=by
 refine T.each l (fun pre s=>s=((pre.length:Int),u++pre.flatMap pc)) (by simp) (fun pre x post s e hi=>?_) fun s hi=>?_;subst hi;have hp:=qv hl hpr hn e;have hx:=hn x (iW e);rw [hF,fL e,ξ];refine T.to (kh e) (T.bind (hpr x (iW e)) fun y hy=>?_);unfold F3;rw [show y.data.toList=pc x from hy];simp only;rw [show app 1 (u++pre.flatMap pc) (pc x)=some ((u++pre.flatMap pc)++pc x) from yI (by rw [υ];omega)];refine T.next ?_;show (ζ.wrap _,_)=_;rw [fK e (by omega)];simp;subst hi;rw [hF,jR,θ];exact T.done rfl
theorem zY {u:η}{U:List aC}(hU:dl u=U)(hu:U.length≤24000000000){F:η×Int→Option (Step (η×Int) η)}
  (hF:∀ s,F s=(bif (decide (s.2<(l.length:Int))) then ((idx l s.2).bind fun x=>((pr x).bind fun y=>((bD s.1 y).bind fun z=>some (.next (z,(ζ.wrap (s.2+(1:Int)))))))) else some (.done s.1))):T (aE F (u,(0:Int))) fun r=>dl r=U++l.flatMap pc:=by
 refine T.each l (fun pre s=>dl s.1=U++pre.flatMap pc∧s.2=(pre.length:Int)) ⟨by rw [hU];simp,rfl⟩ (fun pre x post s e hi=>?_) fun s hi=>?_;obtain ⟨h1,h2⟩:=hi;obtain ⟨a,b⟩:=s;simp only at h1 h2;subst h2;have hp:=qv hl hpr hn e;have hx:=hn x (iW e);rw [hF,fL e,ξ];refine T.to (kh e) (T.bind (hpr x (iW e)) fun y hy=>T.ct h1 hy fun r hr=>T.next ⟨by rw [hr];simp,?_⟩);show ζ.wrap _=_;rw [fK e (by omega)];simp;obtain ⟨h1,h2⟩:=hi;rw [hF,h2,jR,θ];exact T.done h1
end
theorem xX {g:KR}(hg:VG g):(aK (r1 g)).length≤100:=by
 have hn:=hg.nm.len;have hlo:=hg.lo;have hhi:=hg.hi;have h1:=kK (v:=⟨g.gb,g.gA⟩) hg.nm;unfold r1;rw [iN];split;have:=Fe (n:=g.gC) hlo (by omega);rw [cN,zD,cN,cN,eY,jU];show _+(1+(_+(1+(1+(1+0)))))≤100;omega;rw [cN,eY,jU];show _+(1+(1+0))≤100;omega
theorem rH {p:KB}(hp:Rv p):∃ t,FT ⟨p⟩=some t∧Fm p=some t:=by
 have hl:=hp.lens;have g1:∀ x∈p.gc,(aK (r1 x)).length≤1000000000:=fun x hx=>by have:=xX (hp.vg x hx);omega
 have f1:∀ x∈p.gf,(aK (qB x)).length≤1000000000:=fun x hx=>by have:=qA (hp.vf x hx);have:=(hp.vf x hx).size;omega
 have hu:(p.gc.flatMap fun x=>aK (r1 x)).length≤24000000000:=by have h:=yu (l:=p.gc) (pc:=fun x=>aK (r1 x)) (c:=1000000000) g1;have:p.gc.length*1000000000≤24*1000000000:=dF _ hl.1;omega
 have hv:(p.gf.flatMap fun x=>aK (qB x)).length≤24000000000:=by have h:=yu (l:=p.gf) (pc:=fun x=>aK (qB x)) (c:=1000000000) f1;have:p.gf.length*1000000000≤24*1000000000:=dF _ hl.2;omega
 have a:T (FT ⟨p⟩) fun r=>dl r=(p.gc.flatMap fun x=>aK (r1 x))++p.gf.flatMap fun x=>aK (qB x):=by unfold FT;refine T.bind (zp (pc:=fun x=>aK (r1 x)) hl.1 (fun x hx=>sb (hp.vg x hx)) g1 (by simp) fun _=>rfl) fun u e=>?_;rw [a8] at e;subst e;refine T.bind (zp (pc:=fun x=>aK (qB x)) hl.2 (fun x hx=>yq (hp.vf x hx)) f1 hu fun _=>rfl) fun v e=>?_;have hs:qj ⟨v⟩=true:=Ξ (by rw [e];simp only [υ];omega);rw [hs];refine T.bind (P:=fun _=>True) (T.ret trivial) fun _ _=>T.ret ?_;rw [← e];show (ν (List.toArray _)).data.toList=_;simp
 have b:T (Fm p) fun r=>dl r=(p.gc.flatMap fun x=>aK (r1 x))++p.gf.flatMap fun x=>aK (qB x):=by unfold Fm;refine T.bind (zY (pc:=fun x=>aK (r1 x)) hl.1 (fun x hx=>pQ (hp.vg x hx)) g1 (U:=[]) rfl (by simp) fun _=>rfl) fun u e=>?_;rw [a8] at e;exact T.bind (zY (pc:=fun x=>aK (qB x)) hl.2 (fun x hx=>vG (hp.vf x hx)) f1 e hu fun _=>rfl) fun v e=>T.ret e
 obtain ⟨r,h1,h2⟩:=a;obtain ⟨s,d,f⟩:=b;exact ⟨r,h1,by rw [d,BA (h2.trans f.symm)]⟩
theorem qt {p:KB}(hp:Rv p):DC ⟨p⟩=some p:=by
 unfold DC;simp only [EP hp.fit,δ]
theorem sj (hlv:l36_lives=some true)(l:List Kbz)(hb:l.length≤9223372036854775807):Dy l=some true:=by
 have key:T (Dy l) fun r=>r=true:=by
  unfold Dy store_New;rw [δ];refine T.bind (P:=fun z=>∃ p:KB,z=.inl (p.gc,p.gf,p.gc,p.gf)∧Rv p) (T.loop (fun s:Int×List KR×List KC×List KR×List KC=>∃ (k:Nat) (p:KB),s=((k:Int),p.gc,p.gf,p.gc,p.gf)∧k≤l.length∧Rv p) (fun s=>l.length-s.1.toNat) ⟨0,⟨[],[]⟩,rfl,fM _,Oe⟩ fun s hs=>?_) fun z hz=>?_
  ·obtain ⟨k,p,rfl,hk,hp⟩:=hs;refine T.cond (fun hc=>?_) fun _=>T.ret ⟨p,rfl,hp⟩
   have h:k<l.length:=by have:=aY hc;simp only at this;omega
   have hw:ζ.wrap ((k:Int)+1)=((k+1:Nat):Int):=by rw [b1];omega
   have hx:idx l (k:Int)=some l[k]:=by rw [lb,bF h]
   generalize l[k]=x at hx;simp only [hx,δ]
   have last:∀ (a e:Int) (q:KB),Rv q→T (κ (α:=Bool) (bif (a != a) then some true else (bif (e != e) then some true else ((DC ⟨q⟩).bind fun f=>((Fo f (⟨q.gc,q.gf⟩:KB) true).bind fun g=>some (!g))))) fun i=>(bif i then some (Step.done (.inr false)) else some (.next ((ζ.wrap ((k:Int)+(1:Int))),q.gc,q.gf,q.gc,q.gf)))) (ot (fun s:Int×List KR×List KC×List KR×List KC=>∃ (k:Nat) (p:KB),s=((k:Int),p.gc,p.gf,p.gc,p.gf)∧k≤l.length∧Rv p) (fun s=>l.length-s.1.toNat) (l.length-((k:Int)).toNat) (fun z:(List KR×List KC×List KR×List KC)⊕Bool=>∃ p:KB,z=.inl (p.gc,p.gf,p.gc,p.gf)∧Rv p)):=fun a e q hq=>by
    simp only [b3,θ,qt hq,δ,Ee hq.fit,bI];exact T.ret ⟨⟨k+1,q,by rw [hw],h,hq⟩,by simp only [hw,cL];omega⟩
   unfold pD;cases x.gp==0 with
   |
    true=>
    obtain ⟨a,e,q,b,c,d⟩:=yr hp x.gq;simp only [ξ,b,c,δ];exact last a e q d
   |
    false=>
    simp only [θ];cases x.gp==1 with
    |
     true=>
     obtain ⟨a,e,q,b,c,d⟩:=sd hp x.gq;simp only [ξ,b,c,δ];exact last a e q d
    |
     false=>
     obtain ⟨e,q,b,c,d⟩:=yz hp x.gb;simp only [θ,b,c,δ];exact last 0 e q d
  obtain ⟨p,rfl,hp⟩:=hz;obtain ⟨t,h1,h2⟩:=rH hp;rw [Γ];simp only [h1,h2,δ,hlv,eF,ξ];exact T.ret rfl
 obtain ⟨r,h1,h2⟩:=key;rw [h1,h2]
end
section
open Go
theorem xk (c d:aC):j1 ⟨#[c,d]⟩ D8=true↔(c=61∧d=61)∨(c=33∧d=61)∨(c=60∧d=61)∨(c=38∧d=38)∨(c=124∧d=124):=by simp [j1]
theorem ED {c:aC}{b:List aC}(h:∀ d r,b=d::r→¬((c=61∧d=61)∨(c=33∧d=61)∨(c=60∧d=61)∨(c=38∧d=38)∨(c=124∧d=124))):n2 c b:=fun d r e=>by
 have:=h d r e;rw [← xk] at this;simpa using this
theorem Bk {c:aC}(h:c≠61∧c≠33∧c≠60∧c≠38∧c≠124)(b:List aC):n2 c b:=ED fun d r _=>by
 rintro (⟨h1,_⟩|⟨h1,_⟩|⟨h1,_⟩|⟨h1,_⟩|⟨h1,_⟩)
 ·exact h.1 h1
 ·exact h.2.1 h1
 ·exact h.2.2.1 h1
 ·exact h.2.2.2.1 h1
 exact h.2.2.2.2 h1
structure Sg (c:aC):Prop where
 k:ck c=0
 i:0≤oy ones (c.toNat:Int)
 n:c≠61∧c≠33∧c≠60∧c≠38∧c≠124
theorem Sg.lx {c:aC}(h:Sg c){l:List Pc}(hl:Lx l):Lx (Pc.tk (3,⟨#[c]⟩,0)::l):=.m1 c l h.k h.i (Bk h.n _) hl
theorem ix (c:aC)(h:decide (0≤oy ones (c.toNat:Int))=true):0≤oy ones (c.toNat:Int):=aY h
theorem sg40:Sg 40:=⟨by kernel_rfl,ix _ (by kernel_rfl),by decide⟩
theorem sg41:Sg 41:=⟨by kernel_rfl,ix _ (by kernel_rfl),by decide⟩
theorem sg59:Sg 59:=⟨by kernel_rfl,ix _ (by kernel_rfl),by decide⟩
theorem sg123:Sg 123:=⟨by kernel_rfl,ix _ (by kernel_rfl),by decide⟩
theorem sg125:Sg 125:=⟨by kernel_rfl,ix _ (by kernel_rfl),by decide⟩
theorem tX {l:List Pc}(h:Lx l):Lx (.sp 32::l):=.sp _ _ (by kernel_rfl) h
theorem zS {c:aC}(h:ck c≠2∧ck c≠3)(b:List aC):na (c::b):=fun d r e=>by cases e;exact h
theorem zR {c:aC}(h:Sg c)(l:List Pc):na (aK (mk ⟨#[c]⟩::l)):=zS (c:=c) (by rw [h.k];decide) (aK l)
theorem zT (l:List Pc):na (aK (.sp 32::l)):=zS (c:=32) (by rw [show ck 32=1 by kernel_rfl];decide) (aK l)
abbrev tz:List η:=[(ν #[105,110,116]),(ν #[105,102]),(ν #[101,108,115,101]),(ν #[119,104,105,108,101]),(ν #[114,101,116,117,114,110]),(ν #[97,115,115,101,114,116]),(ν #[105,110,112,117,116]),(ν #[110,117,108,108])]
theorem qd (s:η):rp s=some (j1 s tz):=by
 unfold rp;rw [o2 _ _ (by simp),δ]
theorem zt {c:aC}{r:List aC}{s:η}(hs:s.data.toList=c::r)(h:((c::r).all fun c=>decide (ck c=2))=true)(h2:(c::r).length≤20)(a:j1 s tz=true):WdOK s:=by
 have h':=bY.1 h;refine ⟨⟨⟨c,r,hs,aY (h' c (by simp))⟩,fun d hd=>.inl ?_,by rw [hs];exact h2⟩,by rw [qd,a]⟩;rw [hs] at hd;exact aY (h' d hd)
theorem Ih:WdOK ⟨#[105,110,116]⟩:=zt rfl (by kernel_rfl) (by decide) (by kernel_rfl)
theorem xg:WdOK ⟨#[114,101,116,117,114,110]⟩:=zt rfl (by kernel_rfl) (by decide) (by kernel_rfl)
end
section
open Go
theorem uT:NmOK ⟨#[109,97,105,110]⟩:=⟨⟨⟨109,[97,105,110],rfl,by kernel_rfl⟩,fun d hd=>by
 simp only [cX,List.not_mem_nil,or_false] at hd;rcases hd with rfl|rfl|rfl|rfl<;>exact .inl (by kernel_rfl),by decide⟩,by rw [qd,show j1 ⟨#[109,97,105,110]⟩ tz=false by kernel_rfl]⟩
abbrev sm (a b:Int):Kk:=⟨8,ε,ε,[⟨1,3,ε,[],a⟩],[],[],b⟩
abbrev fm (a b c:Int):KC:=⟨⟨#[109,97,105,110]⟩,[],[],[sm a b],c⟩
def l3:List Pc:=[mk ⟨#[105,110,116]⟩,.sp 32,nm ⟨#[109,97,105,110]⟩,mk ⟨#[40]⟩,mk ⟨#[41]⟩,.sp 32,mk ⟨#[123]⟩,.sp 32,mk ⟨#[114,101,116,117,114,110]⟩,.sp 32,nb 3,mk ⟨#[59]⟩,.sp 32,mk ⟨#[125]⟩]
theorem N9 (a b c:Int):VF (fm a b c):=⟨uT,fun v h=>(by cases h),fun v h=>(by cases h),by simp,.cons _ _ _ (.ret _ _ _ ⟨.num _ _ (by decide) (by decide),by show dpE _≤24;simp [dpE,dS]⟩) (.nil _),by show szSs _≤_;simp [szSs,jt,b7,szE]⟩
theorem Of:Lx l3:=.wd _ _ Ih (zT _) (tX (.nm _ _ uT (zR sg40 _) (sg40.lx (sg41.lx (tX (sg123.lx (tX (.wd _ _ xg (zT _) (tX (.nb _ _ (by decide) (by decide) (zR sg59 _) (sg59.lx (tX (sg125.lx .nil)))))))))))))
theorem Lc:aK l3=[105,110,116,32,109,97,105,110,40,41,32,123,32,114,101,116,117,114,110,32,51,59,32,125]:=by
 have h:(itoaB 3).data.toList=[51]:=by rw [Ff (by decide),d8,ft (by decide)];rfl
 simp [l3,aK,Pc.txt,h]
abbrev Lm (t:Tk)(a:Int):KJ:=⟨t.1,t.2.1,t.2.2,a⟩
theorem mN:∀ L:List KJ,L=List.zipWith Lm (L.map sk) (L.map (·.ga))
 | []=>rfl
 | t::L=>by simp only [a7,List.zipWith_cons_cons];rw [← mN L];rfl
theorem Bl:∀ {l:List Int},l.length=10→∃ a b c d e f g h i j,l=[a,b,c,d,e,f,g,h,i,j]
 | [a,b,c,d,e,f,g,h,i,j],_=>⟨a,b,c,d,e,f,g,h,i,j,rfl⟩
theorem T.get {α:Type}{m:Option α}{x:α}(h:T m fun r=>r=x):m=some x:=by
 obtain ⟨r,h1,h2⟩:=h;rw [h1,h2]
section
variable (a b c d e f g h i j:Int)
def AO:List KJ:=[⟨3,⟨#[105,110,116]⟩,0,a⟩,⟨1,⟨#[109,97,105,110]⟩,0,b⟩,⟨3,⟨#[40]⟩,0,c⟩,⟨3,⟨#[41]⟩,0,d⟩,⟨3,⟨#[123]⟩,0,e⟩,⟨3,⟨#[114,101,116,117,114,110]⟩,0,f⟩,⟨2,itoaB 3,3,g⟩,⟨3,⟨#[59]⟩,0,h⟩,⟨3,⟨#[125]⟩,0,i⟩,⟨0,ε,0,j⟩]
theorem yx {L:List KJ}{k k' v o:Int}{w:η}(h:mA ⟨L,k,0,v,o⟩ 0 w=some true)(hk:ζ.wrap (k+1)=k'):K9 ⟨L,k,0,v,o⟩ [w]=some ⟨L,k',0,v,o⟩:=by
 subst hk;unfold K9;rw [ig (s':=((1:Int),ζ.wrap (k+1))),K0 (t:=.inl (ζ.wrap (k+1)))];rfl;rfl;show ((mA ⟨L,k,0,v,o⟩ 0 w).bind _)=_;rw [h];rfl
abbrev G3 (k o:Int):Km:=⟨AO a b c d e f g h i j,k,0,0,o⟩
abbrev P3 (k:Int):Kr:=⟨AO a b c d e f g h i j,k,0⟩
theorem Ef:∀ n k:Nat,k≤6→7≤n+k→(Kz (n+1)).1 (P3 a b c d e f g h i j 6) (k:Int)=some (⟨1,3,ε,[],g⟩,P3 a b c d e f g h i j 7)
 | 0,k,h1,h2=>by omega
 |
  n+1,k,h1,h2=>by
  show sN (Kz (n+1)).1 (Kz (n+1)).2.1 (Kz (n+1)).2.2.1 (Kz (n+1)).2.2.2.1 (Kz (n+1)).2.2.2.2 _ (k:Int)=_
  unfold sN;by_cases hk:k=6
  ·subst hk;rfl
  rw [show ((k:Int)==6)=false from beq_eq_false_iff_ne.2 (by omega),θ,wn (by omega),Ef n (k+1) (by omega) (by omega),δ];have hb:sO (k:Int) ⟨#[59]⟩=some 0:=by
   have:k=0∨k=1∨k=2∨k=3∨k=4∨k=5:=by omega
   rcases this with rfl|rfl|rfl|rfl|rfl|rfl<;>rfl
  rw [K0 (t:=(AO a b c d e f g h i j,(7:Int),(0:Int),(1:Int),(3:Int),ε,([]:List Kf),g))]
  ·rfl
  show ((sO (k:Int) ⟨#[59]⟩).bind _ |>.bind _)=_
  rw [hb];rfl
theorem EI:kW (G3 a b c d e f g h i j 6 1)=some (⟨1,3,ε,[],g⟩,G3 a b c d e f g h i j 7 1):=by
 unfold kW Dm;have:=Nu _ _ _ (Ef a b c d e f g h i j 7 0 (by omega) (by omega));show (κ ((Dz (P3 a b c d e f g h i j 6) 0).bind _) _)=_;rw [show Dz (P3 a b c d e f g h i j 6) 0=_ from this];rfl
theorem Ec:wo (G3 a b c d e f g h i j 5 1)=some (sm g f,G3 a b c d e f g h i j 8 1):=by
 refine Nz _ 1 ?_;show sP (Kai 0).1 (Kai 0).2 (G3 a b c d e f g h i j 5 1)=_;unfold sP;have l:i0 (G3 a b c d e f g h i j 5 1) ⟨#[114,101,116,117,114,110]⟩=some (true,G3 a b c d e f g h i j 6 1):=rfl;have k:∀ w,decide ((⟨#[114,101,116,117,114,110]⟩:η)=w)=false→i0 (G3 a b c d e f g h i j 5 1) w=some (false,G3 a b c d e f g h i j 5 1):=fun w hw=>by unfold i0;rw [show mA (G3 a b c d e f g h i j 5 1) 0 w=some (decide ((⟨#[114,101,116,117,114,110]⟩:η)=w)) from rfl,hw];rfl
 refine T.get (T.to (x:=(⟨3,⟨#[114,101,116,117,114,110]⟩,0,f⟩:KJ)) rfl (T.cond (fun h=>by cases h) fun _=>T.to (k _ (by kernel_rfl)) (T.cond (fun h=>by cases h) fun _=>T.to (k _ (by kernel_rfl)) (T.cond (fun h=>by cases h) fun _=>T.to (k _ (by kernel_rfl)) (T.cond (fun h=>by cases h) fun _=>T.to l (T.cond (fun _=>T.to (EI a b c d e f g h i j) (T.to (yx (k':=8) (by rfl) (by rfl)) (T.ret rfl))) fun h=>by cases h))))))
theorem func3:w9 (G3 a b c d e f g h i j 0 0)=some (fm g f a,G3 a b c d e f g h i j 9 0):=by
 unfold w9;rw [show oC (G3 a b c d e f g h i j 0 0) 0=some ⟨3,⟨#[105,110,116]⟩,0,a⟩ from rfl,δ,yx (k':=1) (by rfl) (by rfl),δ,show oO (G3 a b c d e f g h i j 1 0)=some (⟨#[109,97,105,110]⟩,G3 a b c d e f g h i j 2 0) from rfl,δ];have k:rr (G3 a b c d e f g h i j 2 0)=some ([],G3 a b c d e f g h i j 4 0):=by unfold rr;rw [yx (k':=3) (by rfl) (by rfl),δ,show i0 (G3 a b c d e f g h i j 3 0) ⟨#[41]⟩=some (true,G3 a b c d e f g h i j 4 0) from rfl];rfl
 have l:∀ q:KC,wq (G3 a b c d e f g h i j 4 0) q=some ([sm g f],G3 a b c d e f g h i j 9 0,q):=fun q=>by
  unfold wq;rw [yx (k':=5) (by rfl) (by rfl),δ];have m:y7 q (G3 a b c d e f g h i j 5 1)=some (G3 a b c d e f g h i j 5 1,q):=by unfold y7;rw [K0 (t:=(AO a b c d e f g h i j,(5:Int),(0:Int),(0:Int),(1:Int),q.gi))];rfl;show ((mA (G3 a b c d e f g h i j 5 1) 0 ⟨#[105,110,116]⟩).bind _ |>.bind _)=_;rw [show mA (G3 a b c d e f g h i j 5 1) 0 ⟨#[105,110,116]⟩=some false from by kernel_rfl];rfl
  show (κ (y7 q (G3 a b c d e f g h i j 5 1)) _)=_;rw [m,δ];simp only [];rw [ig (s':=([sm g f],AO a b c d e f g h i j,(8:Int),(0:Int),(0:Int),(1:Int))),K0 (t:=([sm g f],AO a b c d e f g h i j,(9:Int),(0:Int),(0:Int),(1:Int)))];rfl;simp only [aG,ξ];rw [show i0 (G3 a b c d e f g h i j 8 1) ⟨#[125]⟩=some (true,G3 a b c d e f g h i j 9 1) from rfl];rfl;simp only [aG,ξ];rw [show i0 (G3 a b c d e f g h i j 5 1) ⟨#[125]⟩=some (false,G3 a b c d e f g h i j 5 1) from by kernel_rfl];show ((wo (G3 a b c d e f g h i j 5 1)).bind _)=_;rw [Ec];rfl
 rw [k,δ,l,δ];have n:B5 [sm g f]=some 2:=by rw [m0 (by simp [szSs,jt,b7,szE])];simp [szSs,jt,b7,szE]
 show (κ (κ (B5 [sm g f]) _) _)=_;rw [n];rfl
end
theorem Bu:T (y3 [105,110,116,32,109,97,105,110,40,41,32,123,32,114,101,116,117,114,110,32,51,59,32,125]) fun r=>∃ a b c,r=(fm a b c,0,0):=by
 rw [← Lc];unfold y3 F0;refine T.bind (P:=fun r:KC×Int×Int=>∃ a b c,r=(fm a b c,0,0)) (T.bind (xP Of) fun x hx=>?_) fun r ⟨a,b,c,hr⟩=>T.ret ⟨a,b,c,by rw [hr]⟩;rcases hx with ⟨_,h⟩|⟨m,_,k,_⟩;rw [Lc] at h;rcases h with h|h<;>exact bH h (by decide);rw [m];have hL:=mN x.1;obtain ⟨a,b,c,d,e,f,g,h,i,j,ha⟩:=Bl (l:=x.1.map (·.ga)) (by rw [b6,← b6 (f:=sk),k];rfl);rw [ha,k,show List.zipWith Lm (oZ l3++[(0,ε,0)]) [a,b,c,d,e,f,g,h,i,j]=AO a b c d e f g h i j from rfl] at hL;rw [hL];refine T.cond (fun h=>by cases h) fun _=>T.to (x:=(fm g f a,9,0)) ?_ (T.to (x:=(⟨0,ε,0,j⟩:KJ)) rfl (T.cond (fun h=>by cases h) fun _=>T.cond (fun h=>by cases h) fun _=>T.ret ⟨g,f,a,rfl⟩));unfold As td;show ((w9 (G3 a b c d e f g h i j 0 0)).bind _)=_;rw [func3];rfl
theorem Lj (a b c:Int):pv ⟨[],[fm a b c]⟩=(0,0,0):=by
 have h:wr (fnS ⟨[],[fm a b c]⟩ (fm a b c))=(0,0):=by kernel_rfl
 unfold pv;simp [BP,dupN,scan,j4,h]
theorem Lg (a b c:Int):Rv ⟨[],[fm a b c]⟩:=⟨by rw [Lj],fun f h=>by rw [aT.1 h];exact N9 a b c,fun g h=>(by cases h)⟩
theorem yf:l36_lives=some true:=by
 have key:T l36_lives fun r=>r=true:=by
  unfold l36_lives store_New Dw;rw [δ];refine T.bind (P:=fun r:Int×Int×KaJ=>∃ a b c,r=(0,0,⟨⟨[],[fm a b c]⟩⟩)) (T.bind Bu fun r ⟨a,b,c,hr⟩=>?_) fun r ⟨a,b,c,hr⟩=>?_;rw [hr];simp only [b3,θ,qp (l:=[]) (by simp) (fm a b c),δ];unfold Cs;show T (((FR ⟨[],[fm a b c]⟩).bind _).bind _) _;rw [og (Lg a b c).fit,δ,Lj];exact T.ret ⟨a,b,c,rfl⟩;rw [hr];refine T.cond (fun _=>T.cond (fun _=>T.to (qt (Lg a b c)) ?_) fun h=>by cases h) fun h=>by cases h
  refine T.cond (fun _=>T.to (x:=((7:Int),(⟨⟨[],[fm a b c]⟩⟩:KaJ))) ?_ (T.ret rfl)) fun h=>by cases h
  unfold Dv DF w5;simp only;rw [yT (by omega) (by simp),δ,qV (by simp),δ,yT (by omega) (by simp),δ,qW (by simp),δ];have:(decide ((⟨#[109,97,105,110]⟩:η)=⟨#[102]⟩))=false:=by kernel_rfl
  simp [this]
 obtain ⟨r,h1,h2⟩:=key;rw [h1,h2]
theorem PT (l:List Kbz)(hb:l.length≤9223372036854775807):Dy l=some true:=sj yf l hb
end
section
open Go
set_option maxRecDepth 100000
def JZ (x:Kbz):Prop:=(Lit.int .i64 x.gp).wf=true∧(x.gq.length≤maxLen∧∀ y∈x.gq,True)∧x.gb.size≤maxLen
theorem QI {n:Nat}{d:D}(g:dN tab n 34 d):∃ x:Kbz,d=DH x∧JZ x:=by
 obtain ⟨n',ds,_,rfl,hl,h⟩:=PD Eb rfl g;match ds,hl with
 |
  [d0,q,r],_=>
  obtain ⟨a,rfl,b⟩:=nP Oc rfl (h 0 _ _ rfl rfl);obtain ⟨n2,c,_,rfl,e,i⟩:=Mu Im rfl Ld (h 1 _ _ rfl rfl);obtain ⟨j,rfl,k⟩:=Jg (f:=dW) (K:=(fun y=>True)) (p:=fun x=>dN tab n2 5 x) (fun x hx=>by obtain ⟨l,rfl⟩:=ym Ld rfl (hx);exact ⟨l,rfl,trivial⟩) c i;obtain ⟨m,rfl,o⟩:=vq Ob rfl (h 2 _ _ rfl rfl);exact ⟨⟨a,j,m⟩,rfl,b,⟨by simpa using e,k⟩,o⟩
def zq:List Kbz→Prop:=(fun y=>(y.length≤maxLen∧∀ z∈y,JZ z))
theorem goodL22 {n:Nat}{d:D}(g:dN tab n 22 d):∃ x:List Kbz,d=.lst 3 (x.map DH) .no∧zq x:=by
 obtain ⟨a,b,_,rfl,c,e⟩:=Mu In rfl Eb (g);obtain ⟨h,rfl,i⟩:=Jg (f:=DH) (K:=(fun y=>JZ y)) (p:=fun x=>dN tab a 34 x) (fun x hx=>by obtain ⟨j,rfl,k⟩:=QI (hx);exact ⟨j,rfl,k⟩) b e;exact ⟨h,rfl,⟨by simpa using c,i⟩⟩
theorem StoreEdits_yes (a0:List Kbz)(h:zq a0):Dy a0=some true:=PT a0 (by have:=h.1;unfold maxLen at this;omega)
end
end Go.Proofs.YticifeeokcgfkaaGreatDoor.Ab
namespace Go.Proofs.YticifeeokcgfkaaGreatDoor
open Go.ChangeShapes Go.WideShapes Go.ChangeAt Go.RowKit Go.Joins
noncomputable def GZ (os:Os):aL:=
 let a:=World.holding Tryz.prog os ⟨#[],#[],[]⟩;let put (h:Array Obj) (g:Nat) (cs:Array ω):Array Obj:=h.modify g fun
  | .cells _ t frozen=>.cells cs t frozen
  | o=>o
 let h1:=put a.heap 2 ([0,1,28,2,29,14,24,3,30,22,20,15,25,17,4,8,31,27,13,23,21,19,16,7,26,12,18,6,11,5,10,9].map fun z=>g7 .u8 z).toArray;let h2:=put h1 3 ([0,1,56,2,57,49,28,3,61,58,42,50,38,29,17,4,62,47,59,36,45,43,51,22,53,39,33,30,24,18,12,5,63,55,48,27,60,41,37,16,46,35,44,21,52,32,23,11,54,26,40,15,34,20,31,10,25,14,19,9,13,8,7,6].map fun z=>g7 .u8 z).toArray
 let b:=put h2 0 ([1,10,100,1000,10000,100000,1000000,10000000,100000000,1000000000,10000000000,100000000000,1000000000000,10000000000000,100000000000000,1000000000000000,10000000000000000,100000000000000000,1000000000000000000,10000000000000000000].map fun z=>g7 .u64 z).toArray;{ a with heap:=b }
theorem va (os:Os)(args:Array ω):laidMet Tryz.prog Rows.storeEditsRow.laid ((GZ os).forCall (fun _ _=>0) ⟨#[],args,[]⟩).memory:=
 (Go.LaidIn.of_run (l:=Rows.storeEditsRow.laid) [2,3,0] 8 (by kernel_rfl) (by kernel_rfl) (by kernel_rfl) (by kernel_rfl)).met
theorem Ol (os:Os){H:Type}(enc:aD×ω→H) :
  (ru Rows.storeEditsSpec).preRow enc Tryz.prog Tryz.f3 Rows.storeEditsRow.domain false Rows.storeEditsRow.laid ((GZ os).forCall (fun _ _=>0) ⟨#[],#[.slice none 0 0],[]⟩).memory #[.slice none 0 0]:=by
 have hw:(DataW.whole enc Tryz.prog ((GZ os).forCall (fun _ _=>0) ⟨#[],#[.slice none 0 0],[]⟩).memory Tryz.f3.params.toList (ru Rows.storeEditsSpec).vars false (#[.slice none 0 0]:Array ω).toList 8).map (fun x=>(x.1,x.2.1)) =
   some ([.nil],[]):=by kernel_rfl
 obtain ⟨⟨b,c,d⟩,hx,a⟩:=fF.1 hw;simp only [fb] at a;obtain ⟨rfl,rfl⟩:=a;exact OpenSpec.preRow_of_cond 8 hx (by kernel_rfl) (fun k hk=>by cases hk) (by kernel_rfl) (va os _)
theorem AR {W:aL}(h:laidMetH Tryz.prog Rows.storeEditsRow.laid W):Ab.GG (Ab.allOf W) W:=by
 have h' : laidMet Tryz.prog Rows.storeEditsRow.laid W := h;obtain ⟨ps, hv, _⟩ := h';have hr : Go.Lib.TabIs Tryz.prog W "internal/strconv.uint64pow10" .u64 Go.Lib.pow10Tab := by
  obtain ⟨_, _, _, _, _, _, _, _, _, _, hv, _⟩ := hv;obtain ⟨_, _, _, _, _, _, _, _, _, _, hv, _⟩ := hv;obtain ⟨g, t, cs, fuel, p, q, hg, hty, hvar, hd, _, _⟩ := hv;have e : (Rows.laid_internal_strconv_uint64pow10 : DataW Unit) = Go.Lib.tabData .u64 Go.Lib.pow10Tab := rfl;obtain rfl := oP ((show Tryz.prog.globalNamed "internal/strconv.uint64pow10" = some Ab.tabG by kernel_rfl).symm.trans hg);obtain rfl := oP ((show (Tryz.prog.globals[Ab.tabG]?).map (·.type) = some 230 by kernel_rfl).symm.trans hty);rw [e] at hd;have hcs := Go.Lib.cells_of_tab (n := 20) (e := 200) (by kernel_rfl) (by kernel_rfl) (by kernel_rfl) (by kernel_rfl) hd;unfold Go.Lib.TabIs
  rw [hvar,← hcs]
 have hp:W.heap[Ab.tabG]?.bind (fun|.cells cs _ _=>some cs|_=>none)=some Ab.tabC.toArray:=by
  unfold Go.Lib.TabIs World.var? at hr;rw [show Tryz.prog.globalNamed "internal/strconv.uint64pow10" = some Ab.tabG by kernel_rfl] at hr;cases hh : W.heap[Ab.tabG]? with
  | none=>rw [δ,hh] at hr;cases hr
  |
   some o=>
   rw [δ,hh] at hr;cases o with
   | cells cs T fz=>exact hr
   | _=>cases hr
 cases hh:W.heap[Ab.tabG]? with
 | none=>rw [hh] at hp;cases hp
 |
  some o=>
  rw [hh,δ] at hp;cases o with
  |
   cells cs T fz=>
   simp only [aA] at hp;subst hp;refine ⟨⟨.int .u64 1,?_⟩,⟨.int .u64 10000000000000000000,?_⟩,T,fz,hh⟩
   ·show W.cell? ⟨Ab.tabG,0,none⟩=_
    unfold aO;simp only;rw [hh];rfl
   show W.cell? ⟨Ab.tabG,19,none⟩=_
   unfold aO;simp only;rw [hh];rfl
  | _=>cases hp
theorem Qb (os:Os)(started:os.Started)(H:Type)(enc:aD×ω→H)(Fi:Stop.Interp) :
  ReturnsInHanded {} Tryz.checked os 3 .any ((ru Rows.storeEditsSpec).preRow enc Tryz.prog Tryz.f3 Rows.storeEditsRow.domain false Rows.storeEditsRow.laid) (((ru Rows.storeEditsSpec).at Fi).post enc Tryz.prog Tryz.f3 false true false false):=by
 refine returnsInHanded_of_row (C:=Tryz.checked) (s:=(ru Rows.storeEditsSpec)) own started (by kernel_rfl) Tryz.func3
  (witness_row_atRef (enc:=enc) (C:=Tryz.checked) false (GZ os) #[.slice none 0 0] rfl (by kernel_rfl) (by kernel_rfl) (by kernel_rfl) (Ol os enc)) ?_
 intro W base args ds gs before b hW _ _ _ hlaid _ _;have hval:∀ (j:Nat) t v,Tryz.f3.params[j]? = some t→args[j]? = some v→Value.okWide Tryz.prog W .any base t v:=b;have hW':=hW;obtain ⟨p,q,c,hV,rfl,hfz,hnd⟩:=hW;have hA:DataW.TrodAll enc Tryz.prog W 0 (fun _=>true) true Tryz.f3.params.toList args.toList ds p:=c;obtain ⟨rfl,rfl⟩:=trodVars_none hV;simp only [aN] at hW';have hback:=LL vb (by kernel_rfl) hA (fun x hx=>hW'.lt x hx);rw [Tryz.params3] at hA hval;obtain ⟨a,k,d0,l,m,n,hargs,rfl,o,d,f⟩:=trodAll_cons hA;obtain ⟨rfl,rfl,hpn⟩:=trodAll_nil f;obtain rfl:args=#[a]:=by cases args;simp_all
 obtain ⟨r,x0,g0,g⟩:=Ab.rd_arg (t:=22) Ab.htab [3,5,9,22,32,34] (by kernel_rfl) (by kernel_rfl) (hval 0 22 a rfl rfl) d;obtain ⟨a0,rfl,i⟩:=Ab.goodL22 g0;clear c b;refine (Ab.to_calls (us:=#[a]) (Ab.l36_StoreEdits_ok a0 true (Ab.StoreEdits_yes a0 i)) (Ab.ag_all W (AR hlaid)) (by simp only [Ab.RepsV];exact ⟨_,_,rfl,g,rfl⟩)).mono fun e W' ⟨he,hb⟩=>?_;subst he;exact ⟨_,rfl,_,_,_,[],p,[],hW',trodAll_cons_mk (shut_bool Tryz.underlying4 _) trodAll_mk0,hback W' hb _ (fun x hx=>by simpa using hW'.lt x hx),rfl,hb.frame _,fun h=>by cases h⟩
theorem Qa:Rows.StoreEditsSaid:=
 OpenClaim.holds_of_cond 3 Tryz.f3 rfl rfl rfl rfl rfl rfl rfl ⟨rfl,rfl,rfl,rfl,rfl⟩ rfl rfl rfl rfl rfl (by kernel_rfl) Tryz.func3 (by kernel_rfl)
  (aY (by kernel_rfl)) (by unfold Func.isWrapper;rw [aF (a9 (by kernel_rfl))];exact ⟨rfl,rfl⟩)
  (fun os started H enc _ Fi=>by rw [OpenClaim.pre_eq_preRow];exact Qb os started H enc Fi)
theorem storeEditsCard_holds:Rows.StoreEditsCardSaid:=
 Claim7.holds_tied_plain_at .later [] [.data, .data, .data] true (true, "5727faae769ba2d16b559c5fc7bc527cd99d173dd50590e3e37185f6a6b8b1ee") true
  Qa (fun _ h=>by cases h) (by kernel_rfl) (fun _ h=>by cases h) storeEdits_row_tie rfl ⟨rfl,rfl⟩ (by kernel_rfl) rfl
  (fun f fn hf hfn=>by
   obtain rfl:f=3:=(oP ((show Tryz.prog.funcNamed Rows.storeEditsRow.func=some 3 by kernel_rfl).symm.trans hf)).symm;obtain rfl:fn=Tryz.f3:=(oP (Tryz.func3.symm.trans hfn)).symm;exact ⟨by kernel_rfl,fun j t ht=>by
    rw [Tryz.params3] at ht;have key:∀ (l:List Nat),(l.all fun t=>!(Tryz.prog.wantsStandIn t))=true→∀ j t,l[j]? = some t→Tryz.prog.wantsStandIn t=false:=fun l h j t e=>by
     have:=bY.1 h t (a4 e);simpa using this
    exact key [22] (by kernel_rfl) j t (by simpa using ht)⟩)
  (by kernel_rfl)
#print axioms storeEditsCard_holds
end Go.Proofs.YticifeeokcgfkaaGreatDoor