/- The texts that storeEditsCard_holds leans on, part 5. -/
import Derived.Test.YticifeeokcgfkaaGreatDoorWx4
set_option linter.all false
set_option maxRecDepth 100000
set_option maxHeartbeats 80000000
noncomputable section
open And renaming intro→J9
open Array renaming length_toList→b9
open Bool renaming and_eq_true→aR,false_and→gG,false_eq_true→cP,not_false→a3,not_true→bI,true_and→eS
open ByteArray renaming empty→ε,mk→ν
open Go renaming Exit→dH,IntKind→fP,Oper→bG,Operand→aH,Program→aJ,ResultVar→dM,TypeId→aD,Value→ω,World→aL,execOp→bL
open Go.IntKind renaming i32→eT,i64→ζ,u64→bB,u8→dU,wrap_i64→b1,wrap_u64→cU
open Go.Lib renaming decDigits→d8
open Go.Value renaming cells→cT
open Int renaming toNat_natCast→cL
open List renaming all_eq_true→bY,append_assoc→aS,append_nil→aN,cons_append→bK,drop_of_length_le→rx,eq_nil_of_length_eq_zero→fd,flatMap_cons→cA,getD_eq_getElem?_getD→fx,getElem?_append_right→mM,getElem?_cons_succ→fY,getElem?_cons_zero→dB,getElem?_eq_getElem→bF,getElem?_eq_none→jq,getElem?_eq_some_iff→aP,length→fc,length_append→υ,length_cons→Ψ,length_drop→eD,length_map→b6,length_nil→aB,length_singleton→aW,length_take→kX,map_cons→a7,map_nil→fg,mem_append→dC,mem_cons→cX,mem_of_getElem?→a4,mem_singleton→aT,nil_append→a8,range→ff,replicate→aV,takeWhile_cons→wE,take_append_drop→fq,take_of_length_le→cV
open List.Perm renaming cons→χ
open List.Sublist renaming refl→bT
open Nat renaming add_assoc→RK,add_zero→gY,beq→bM,ble→cK,blt→aZ,le_refl→Φ,le_succ→CU,le_trans→eJ,lt_or_ge→fU,mul_le_mul_right→dF,zero_add→cH,zero_le→fM
open Option renaming bind→κ,bind_some→δ
open Option.some renaming injEq→aA
open Or renaming inl→fi,inr→fh
open Sum renaming elim→Ω,elim_inl→Γ,elim_inr→ς,inl→c5,inr→bZ
open UInt8 renaming ofNat→il
namespace Go.Proofs.YticifeeokcgfkaaGreatDoor.Ab
section
open Go
def sk (t:KJ):Tk:=(t.gp,t.gq,t.gN)
def Pt {α:Type}(m:Option α)(P:α→Prop):Prop:=∀ r,m=some r→P r
def Pt.bind {α β:Type}{m:Option α}{f:α→Option β}{P:α→Prop}{Q:β→Prop}(h:Pt m P)(g:∀ x,P x→Pt (f x) Q):Pt (m.bind f) Q:=by
 intro r e;cases a:m with
 | none=>rw [a] at e;cases e
 | some x=>rw [a] at e;exact g x (h x a) r e
def Pt.ret {α:Type}{x:α}{P:α→Prop}(h:P x):Pt (some x) P:=fun r e=>by cases e;exact h
def Pt.cond {α:Type}{c:Bool}{a b:Option α}{P:α→Prop}(h1:c=true→Pt a P)(h2:c=false→Pt b P):Pt (bif c then a else b) P:=by
 cases c;exact h2 rfl;exact h1 rfl
def Pt.any {α:Type}{m:Option α}:Pt m fun _=>True:=fun _ _=>trivial
def Pt.eq {α:Type}{m:Option α}:Pt m fun x=>m=some x:=fun _ e=>e
def Pt.imp {α:Type}{m:Option α}{P Q:α→Prop}(h:Pt m P)(g:∀ x,P x→Q x):Pt m Q:=fun r e=>g r (h r e)
def ET {σ τ:Type}(I:σ→Prop)(Post:τ→Prop):Step σ τ→Prop
 | .next s'=>I s'
 | .done r=>Post r
def Pt.loop {σ τ:Type}{f:σ→Option (Step σ τ)}(I:σ→Prop){Post:τ→Prop}{s:σ}(hi:I s)(h:∀ s,I s→Pt (f s) (ET I Post)):Pt (aE f s) Post:=by
 intro r e;obtain ⟨n,hn⟩:=Ft e;clear e;induction n generalizing s with
 | zero=>cases hn
 |
  succ n ih=>
  unfold fe at hn;cases hf:f s with
  | none=>rw [hf] at hn;cases hn
  |
   some q=>
   have hq:=h s hi q hf;rw [hf] at hn;cases q with
   | next s'=>exact ih hq hn
   | done t=>cases hn;exact hq
def T.eq {α:Type}{m:Option α}{x:α}{P:α→Prop}(h:m=some x)(hp:P x):T m P:=⟨x,h,hp⟩
def j1 (s:η)(l:List η):Bool:=l.any fun x=>decide (s=x)
def u4 {s:η}{l:List η}:j1 s l=true↔s∈l:=by simp [j1]
def o2 (l:List η)(s:η)(hl:l.length≤1000):wv l s=some (j1 s l):=by
 have key:T (wv l s) fun b=>b=j1 s l:=by
  unfold wv DE;refine T.bind (P:=fun i=>(0≤i↔s∈l)) ?_ fun i hi=>T.ret (Bool.eq_iff_iff.2 (by rw [u4,← hi];simp));refine T.bind (P:=fun r=>(∀ u,r=c5 u→s ∉ l)∧∀ i,r=bZ i→0≤i∧s∈l) (T.loop (fun j=>∃ k:Nat,j=(k:Int)∧k≤l.length∧s ∉ l.take k) (fun j=>l.length-j.toNat) ⟨0,rfl,by omega,by simp⟩ fun j hj=>?_) fun r hr=>?_;obtain ⟨k,rfl,hk,hn⟩:=hj;refine T.cond (fun hc=>?_) fun hc=>T.ret ⟨fun u _=>?_,fun i e=>by cases e⟩;have hlt:k<l.length:=by simpa using hc
  refine T.bind (P:=fun x=>l[k]? = some x) (T.idx hlt fun x hx=>hx) fun x hx=>T.cond (fun e=>T.ret ?_) fun e=>T.ret ?_;have e':s=x:=aY e;exact ⟨fun u e=>(by cases e),fun i e=>(by cases e;exact ⟨by omega,by rw [e'];exact a4 hx⟩)⟩;have e':s≠x:=a9 e;rw [wn (by omega)];refine ⟨⟨k+1,rfl,hlt,?_⟩,by simp only [cL];omega⟩;rw [List.take_add_one,hx];simp [hn,e'];have:l.length≤k:=by simpa using hc
  rwa [cV this] at hn;cases r with
  | inl u=>exact T.ret (by have:=hr.1 u rfl;simp [this])
  | inr i=>exact T.ret (by have:=hr.2 i rfl;simp [this])
 obtain ⟨b,h1,h2⟩:=key;rw [h1,h2]
abbrev D8:List η:=[(ν #[61,61]),(ν #[33,61]),(ν #[60,61]),(ν #[38,38]),(ν #[124,124])]
abbrev ones:η:=ν #[40,41,123,125,91,93,59,44,61,60,43,45,42,47,37,33,38]
def vl (l:List aC)(v:Nat):Nat:=l.foldl (fun v c=>10*v+(c.toNat-48)) v
def zx:∀ (l:List aC) (v:Nat),v≤vl l v
 | [],v=>Φ _
 |
  c::l,v=>by
  have:=zx l (10*v+(c.toNat-48));show v≤vl l (10*v+(c.toNat-48))
  omega
def I9 (a b:List aC)(v:Nat):vl (a++b) v=vl b (vl a v):=by simp [vl]
def DZ (l:List aC)(k:Nat)(v:Nat):vl (l.take k) v≤vl l v:=by
 conv=>rhs;rw [← fq k l]
 rw [I9];exact zx _ _
def Lb {n:Nat}(h:n<256):(il n).toNat=n:=by rw [UInt8.toNat_ofNat'];omega
def vK (u:Nat):(∀ c∈d8 u,48≤c.toNat∧c.toNat≤57)∧vl (d8 u) 0=u∧∃ c r,d8 u=c::r∧(c=48→u=0):=by
 induction u using Nat.strongRecOn with
 |
  _ u ih=>
  rw [d8];by_cases h:u<10
  ·rw [ft h];have e:=Lb (n:=48+u) (by omega);refine ⟨fun c hc=>?_,?_,_,_,rfl,fun e'=>?_⟩
   ·rw [aT.1 hc,e];omega
   ·show 10*0+((il (48+u)).toNat-48)=u
    rw [e];omega
   rw [e'] at e;have:(48:aC).toNat=48:=rfl;omega
  rw [ia h];obtain ⟨h1,h2,c,r,a,b⟩:=ih (u/10) (by omega);have e:=Lb (n:=48+u%10) (by omega);refine ⟨fun c hc=>?_,?_,c,r++[il (48+u%10)],by rw [a];rfl,fun e'=>?_⟩
  ·rcases dC.1 hc with hc|hc
   ·exact h1 c hc
   rw [aT.1 hc,e];omega
  ·rw [I9,h2];show 10*(u/10)+((il (48+u%10)).toNat-48)=u
   rw [e];omega
  have:=b e';omega
def Ff {n:Int}(h:0≤n):(itoaB n).data.toList=d8 n.toNat:=by
 unfold itoaB Lib.itoa;rw [aF (by omega)]
def vR {c:aC}(h:48≤c.toNat∧c.toNat≤57):ck c=3:=by
 have key:∀ k:aC,c.toNat=k.toNat→ck k=3→ck c=3:=fun k e h=>by rw [UInt8.toNat_inj.1 e];exact h
 have:c.toNat=48∨c.toNat=49∨c.toNat=50∨c.toNat=51∨c.toNat=52∨c.toNat=53∨c.toNat=54∨c.toNat=55∨c.toNat=56∨c.toNat=57:=by omega
 rcases this with e|e|e|e|e|e|e|e|e|e;exact key 48 e (by kernel_rfl);exact key 49 e (by kernel_rfl);exact key 50 e (by kernel_rfl);exact key 51 e (by kernel_rfl);exact key 52 e (by kernel_rfl);exact key 53 e (by kernel_rfl);exact key 54 e (by kernel_rfl);exact key 55 e (by kernel_rfl);exact key 56 e (by kernel_rfl);exact key 57 e (by kernel_rfl)
def i4 (b:Bool)(c:aC):Bool:=decide (ck c=3) || (b && decide (ck c=2))
structure RA (m:Kaa) (a:Nat) (x:List aC):Prop where
 at_:m.ga=(a:Int)
 le:a≤m.gB.length
 len:m.gB.length≤20000
 dr:m.gB.drop a=x
def RA.lx {m:Kaa}{a:Nat}{x:List aC}(h:RA m a x):a+x.length=m.gB.length:=by
 have:=h.le;rw [← h.dr,eD];omega
def RA.nx {m:Kaa}{a:Nat}{x:List aC}(h:RA m a x)(k:Nat):m.gB[a+k]? = x[k]?:=by rw [← h.dr,List.getElem?_drop]
def tP {p:aC→Bool}:∀ {x:List aC} {k:Nat} {c:aC},x[k]? = some c→k≤(x.takeWhile p).length→(p c=true→k+1≤(x.takeWhile p).length)∧(p c=false→k=(x.takeWhile p).length)
 | [],k,c,h,_=>by simp at h
 |
  d::x,0,c,h,hk=>by
  simp only [dB,aA] at h;subst h;cases hp:p d<;>simp [List.takeWhile,hp]
 |
  d::x,k+1,c,h,hk=>by
  cases hp:p d with
  | false=>simp [List.takeWhile,hp] at hk
  |
   true=>
   simp only [wE,hp,bR,Ψ] at hk ⊢;simp only [fY] at h;obtain ⟨h1,h2⟩:=tP (p:=p) h (by omega);exact ⟨fun e=>by have:=h1 e;omega,fun e=>by have:=h2 e;omega⟩
def qh {p:aC→Bool}:∀ x:List aC,(x.takeWhile p).length≤x.length
 | []=>by simp
 |
  c::x=>by
  have:=qh (p:=p) x;cases hp:p c<;>simp [List.takeWhile,hp];omega
def EX {m:Kaa}{a:Nat}{x:List aC}(h:RA m a x)(b:Bool):wm m b=some (((x.takeWhile (i4 b)).length:Nat):Int):=by
 have hl:=h.lx;have hlen:=h.len;have key:T (wm m b) fun n=>n=(((x.takeWhile (i4 b)).length:Nat):Int):=by
  unfold wm;refine T.bind (P:=fun n=>n=(((x.takeWhile (i4 b)).length:Nat):Int)) ?_ fun n hn=>T.ret hn;refine T.loop (fun s=>∃ k:Nat,s=(k:Int)∧k≤(x.takeWhile (i4 b)).length) (fun s=>x.length-s.toNat) ⟨0,rfl,by omega⟩ fun s hs=>?_;obtain ⟨k,rfl,hk⟩:=hs;have htw:=qh (p:=i4 b) x;rw [h.at_,wa (by omega)];refine T.cond (fun hc=>?_) fun hc=>T.ret ?_;have hlt:a+k<m.gB.length:=by have:=aY hc;omega
  refine T.bind (P:=fun c=>m.gB[a+k]? = some c) (T.idx hlt fun x hx=>hx) fun c he=>?_;rw [h.nx] at he;obtain ⟨g1,f⟩:=tP (p:=i4 b) he hk;rw [vQ,δ];have nx:i4 b c=true→ot (fun s=>∃ k:Nat,s=(k:Int)∧k≤(x.takeWhile (i4 b)).length) (fun s:Int=>x.length-s.toNat) (x.length-((k:Int)).toNat) (fun n:Int=>n=(((x.takeWhile (i4 b)).length:Nat):Int)) (.next (ζ.wrap ((k:Int)+1))):=fun e=>by rw [wn (by omega)];exact ⟨⟨k+1,rfl,g1 e⟩,by simp only [cL];omega⟩
  have dn:i4 b c=false→ot (fun s=>∃ k:Nat,s=(k:Int)∧k≤(x.takeWhile (i4 b)).length) (fun s:Int=>x.length-s.toNat) (x.length-((k:Int)).toNat) (fun n:Int=>n=(((x.takeWhile (i4 b)).length:Nat):Int)) (.done (k:Int)):=fun e=>by show (k:Int)=_;rw [← f e]
  refine T.cond (fun d=>T.cond (fun h2=>T.ret (dn ?_)) fun h2=>T.cond (fun hb=>T.ret (dn ?_)) fun hb=>T.ret (nx ?_)) fun d=>T.ret (nx ?_);simp at d h2;simp [i4,d,h2];simp at d hb;simp [i4,d,hb];simp at h2 hb;simp [i4,h2,hb];simp at d;simp [i4,d];show (k:Int)=_;have:x.length≤k:=by have:=a9 hc;omega
  omega
 obtain ⟨n,h1,h2⟩:=key;rw [h1,h2]
def BO {m:Kaa}{a:Nat}{x y:List aC}(h:RA m a (x++y)):eP m.gB (a:Int) ((a+x.length:Nat):Int)=some x:=by
 have hl:=h.lx;rw [υ] at hl;unfold eP;rw [show (decide (0≤(a:Int)) && decide ((a:Int)≤((a+x.length:Nat):Int)) && decide (((a+x.length:Nat):Int)≤(m.gB.length:Int)))=true by simp;omega,ξ];simp only [cL];rw [h.dr,show a+x.length-a=x.length by omega,List.take_left'];rfl
def oY {p:aC→Bool}{y:List aC}:∀ {x:List aC},(∀ c∈x,p c=true)→(∀ c r,y=c::r→p c=false)→(x++y).takeWhile p=x
 |
  [],_,hy=>by
  cases y with
  | nil=>rfl
  | cons c r=>simp [List.takeWhile,hy c r rfl]
 |
  c::x,hx,hy=>by
  rw [bK,wE,hx c (by simp),aQ rfl,oY (fun d hd=>hx d (by simp [hd])) hy]
def Nx (m:Kaa)(a n:Nat)(t:List Tk)(r:Int×Kaa):Prop:=(r.1=6∧4000≤m.gL.length)∨(r.1=0∧r.2.gB=m.gB∧r.2.ga=((a+n:Nat):Int)∧r.2.gL.map sk=m.gL.map sk++t∧r.2.gL.length≤4000)
def kQ {m:Kaa}{a:Nat}{x y:List aC}(h:RA m a (x++y))(k v:Int):T (sL m k (x.length:Int) v) (Nx m a x.length [(k,ν x.toArray,v)]):=by
 have hl:=h.lx;have hlen:=h.len;rw [υ] at hl;unfold sL;refine T.cond (fun hc=>T.ret (.inl ⟨rfl,by have:=aY hc;omega⟩)) fun hc=>?_;have hc':m.gL.length<4000:=by have:=a9 hc;omega
 rw [h.at_,wa (by omega),BO h,δ,h9 (by omega) (by simp;omega),δ];exact T.ret (.inr ⟨rfl,rfl,rfl,by simp [sk],by simp;omega⟩)
def na (b:List aC):Prop:=∀ c r,b=c::r→ck c≠2∧ck c≠3
def uY {b:List aC}(h:na b)(q:Bool):∀ c r,b=c::r→i4 q c=false:=fun c r e=>by
 obtain ⟨h1,h2⟩:=h c r e;simp [i4,h1,h2]
def Alp.tw {x y:List aC}(h:Alp x)(hy:na y):(x++y).takeWhile (i4 true)=x:=
 oY (fun c hc=>by rcases h.al c hc with e|e<;>simp [i4,e]) (uY hy _)
def qF {m:Kaa}{a:Nat}{s:η}{y:List aC}(h:RA m a (s.data.toList++y))(hx:Alp s.data.toList)(hy:na y){w:Bool}(hw:rp s=some w):T (tb m) (Nx m a s.data.toList.length [(bif w then 3 else 1,s,0)]):=by
 have hl:=h.lx;have hlen:=h.len;have hle:=hx.le;rw [υ] at hl;have es:(ν s.data.toList.toArray)=s:=by cases s;simp
 unfold tb;rw [EX h,hx.tw hy,δ,h.at_,wa (by omega),BO h,δ];refine T.cond (fun hc=>?_) fun _=>?_;have:=aY hc;omega;rw [es,hw,δ];have hadd:=fun k=>kQ h k 0;rw [es] at hadd;cases w;exact T.bind (hadd 1) fun r hr=>T.ret hr;exact T.bind (hadd 3) fun r hr=>T.ret hr
end
section
open Go
def Oa (c:aC)(h:48≤c.toNat):bB.wrap (dU.wrap ((c.toNat:Int)-(48:Int)))=((c.toNat-48:Nat):Int):=by
 have:=c.toNat_lt;rw [IntKind.wrap_u8,cU];omega
def Bh {m:Kaa}{a:Nat}{n:Int}{y:List aC}(i:0≤n)(h1:n≤9223372036854775807)(h:RA m a ((itoaB n).data.toList++y))(hy:na y):T (tc m) (Nx m a (itoaB n).data.toList.length [(2,itoaB n,n)]):=by
 obtain ⟨d,f,c,r,g,k⟩:=vK n.toNat;have hd:=Ff i;have hl:=h.lx;have hlen:=h.len;rw [υ] at hl;have es:(ν (itoaB n).data.toList.toArray)=itoaB n:=by cases itoaB n;simp
 have tw:∀ q,((itoaB n).data.toList++y).takeWhile (i4 q)=(itoaB n).data.toList:=fun q=>oY (fun c hc=>by
  rw [hd] at hc;simp [i4,vR (d c hc)]) (uY hy _)
 unfold tc;refine T.cond (fun hc=>T.ret (.inl ⟨rfl,by have:=aY hc;omega⟩)) fun _=>?_;rw [EX h,tw,δ,EX h,tw,δ];refine T.bind (P:=fun b=>b=false) (T.cond (fun hc=>?_) fun _=>?_) fun b hb=>?_;have:=aY hc;omega;rw [h.at_];have u:1≤(itoaB n).data.toList.length:=by rw [hd,g];simp
 refine T.bind (P:=fun x=>x=c) (T.idx (by omega) fun x hx=>?_) fun x hx=>T.cond (fun e=>T.ret ?_) fun _=>T.ret rfl;have:=h.nx 0;rw [gY,hx,hd,g] at this;simpa using this;subst hx;have l:x=48:=by
  have:(x.toNat:Int)=48:=by simpa using e
  exact UInt8.toNat_inj.1 (by have:(48:aC).toNat=48:=rfl;omega)
 have hz:=k l;rw [hd,hz];rw [d8,ft (by omega)];simp;subst hb;rw [θ,h.at_,wa (by omega),BO h,δ];refine T.bind (P:=fun r=>r=c5 n) ?_ fun r hr=>?_;generalize hx:(itoaB n).data.toList=x at *;refine T.loop (fun s=>∃ j:Nat,s=(((vl (x.take j) 0:Nat):Int),(j:Int))∧j≤x.length) (fun s=>x.length-s.2.toNat) ⟨0,rfl,fM _⟩ fun s hs=>?_;obtain ⟨j,rfl,hj⟩:=hs;simp only;refine T.cond (fun hc=>?_) fun hc=>T.ret ?_;have hlt:j<x.length:=by have:=aY hc;omega
 refine T.bind (P:=fun c=>x[j]? = some c) (T.idx hlt fun x hx=>hx) fun c hc=>?_;obtain ⟨c1,c2⟩:=d c (by rw [← hd];exact a4 hc);have htake:x.take (j+1)=x.take j++[c]:=by rw [List.take_add_one,hc];rfl
 have hv:vl (x.take (j+1)) 0=10*vl (x.take j) 0+(c.toNat-48):=by rw [htake,I9];rfl
 have hle:=DZ x (j+1) 0;rw [hd,f,← hd,hv] at hle;rw [Oa c c1,wn (by omega)];generalize vl (x.take j) 0=v at *;have o:bB.wrap ((9223372036854775807:Int)-((c.toNat-48:Nat):Int))=((9223372036854775807-(c.toNat-48):Nat):Int):=by rw [cU];omega
 have p:bB.wrap (((9223372036854775807-(c.toNat-48):Nat):Int).tdiv (10:Int))=(((9223372036854775807-(c.toNat-48))/10:Nat):Int):=by rw [show ((9223372036854775807-(c.toNat-48):Nat):Int).tdiv (10:Int)=(((9223372036854775807-(c.toNat-48))/10:Nat):Int) from rfl,cU];omega
 have t:bB.wrap (bB.wrap ((10:Int)*(v:Int))+((c.toNat-48:Nat):Int))=((10*v+(c.toNat-48):Nat):Int):=by rw [cU,cU];omega
 rw [o,p,t];refine T.cond (fun e=>?_) fun _=>T.ret ⟨⟨j+1,by rw [hv],hlt⟩,by simp only [cL];omega⟩;have:=aY e;omega;have:x.length≤j:=by simpa using hc
 show c5 _=c5 n;rw [cV this,hd,f];congr 1;omega;subst hr;rw [Γ,show ζ.wrap n=n by rw [b1];omega];have hadd:=kQ h 2 n;rw [es] at hadd;exact T.bind hadd fun r hr=>T.ret hr
def n2 (c:aC)(b:List aC):Prop:=∀ d r,b=d::r→j1 ⟨#[c,d]⟩ D8=false
def t6 {m:Kaa}{a:Nat}{c:aC}{y:List aC}(h:RA m a (c::y))(hc:0≤oy ones (c.toNat:Int))(hy:n2 c y):sM m=some 1:=by
 have hl:=h.lx;rw [Ψ] at hl;unfold sM;have hcut:eP m.gB m.ga (m.gB.length:Int)=some (c::y):=by have:=BO (x:=c::y) (y:=[]) (by rwa [aN]);rwa [show a+(c::y).length=m.gB.length from h.lx,← h.at_] at this
 rw [hcut,δ];have key:(bif (decide ((1:Int)<((c::y).length:Int))) then ((eP (c::y) (0:Int) (2:Int)).bind fun b=>((wv xT (ν b.toArray)).bind fun e=>some e)) else some false)=some false:=by
  cases y with
  | nil=>rfl
  |
   cons d r=>
   rw [Ξ (by simp only [Ψ];omega),ξ];have f:eP (c::d::r) 0 2=some [c,d]:=by
    unfold eP;rw [show (decide ((0:Int)≤0) && decide ((0:Int)≤2) && decide ((2:Int)≤((c::d::r).length:Int)))=true by simp;omega];rfl
   rw [f,δ,o2 _ _ (by simp),δ];exact a6 some (hy d r rfl)
 rw [key,δ,θ,show idx (c::y) (0:Int)=some c from rfl,δ,Ξ hc];rfl
def t0 {m:Kaa}{a:Nat}{c d:aC}{y:List aC}(h:RA m a (c::d::y))(b:j1 ⟨#[c,d]⟩ D8=true):sM m=some 2:=by
 unfold sM;have hcut:eP m.gB m.ga (m.gB.length:Int)=some (c::d::y):=by have:=BO (x:=c::d::y) (y:=[]) (by rwa [aN]);rwa [show a+(c::d::y).length=m.gB.length from h.lx,← h.at_] at this
 have e:eP (c::d::y) 0 2=some [c,d]:=by unfold eP;rw [show (decide ((0:Int)≤0) && decide ((0:Int)≤2) && decide ((2:Int)≤((c::d::y).length:Int)))=true by simp;omega];rfl
 rw [hcut,δ,Ξ (by simp only [Ψ];omega),ξ,e,δ,o2 _ _ (by simp),δ,δ];show (bif j1 ⟨#[c,d]⟩ D8 then some (2:Int) else _)=_;rw [b];rfl
inductive Lx:List Pc→Prop
 | nil:Lx []
 | sp (c l):ck c=1→Lx l→Lx (.sp c::l)
 | nm (s l):NmOK s→na (aK l)→Lx l→Lx (nm s::l)
 | wd (s l):WdOK s→na (aK l)→Lx l→Lx (mk s::l)
 | nb (n l):0≤n→n≤9223372036854775807→na (aK l)→Lx l→Lx (nb n::l)
 | m1 (c l):ck c=0→0≤oy ones (c.toNat:Int)→n2 c (aK l)→Lx l→Lx (mk ⟨#[c]⟩::l)
 | m2 (c d l):ck c=0→j1 ⟨#[c,d]⟩ D8=true→Lx l→Lx (mk ⟨#[c,d]⟩::l)
def qD {m:Kaa}{a:Nat}{p:Pc}{l:List Pc}(h:RA m a (aK (p::l)))(hx:Lx (p::l))(o:m.gL.length≤4000):1≤p.txt.length∧Lx l∧T (p8 m) (Nx m a p.txt.length (oZ [p])):=by
 have hl:=h.lx;have hlen:=h.len;rw [p6] at h;have q:∀ {c:aC} {r:List aC},p.txt=c::r→idx m.gB m.ga=some c:=fun {c r} e=>by have:=h.nx 0;rw [e] at this;rw [h.at_,lb];simpa using this
 have start:∀ {c:aC} {r:List aC},p.txt=c::r→∀ {Q:Int×Kaa→Prop},T ((bif (ck c==(1:Int)) then some ((0:Int),(⟨m.gB,(ζ.wrap (m.ga+(1:Int))),m.gL⟩:Kaa)) else (bif (ck c==(2:Int)) then ((tb m).bind fun b=>some (b.1,b.2)) else (bif (ck c==(3:Int)) then ((tc m).bind fun f=>some (f.1,f.2)) else ((sM m).bind fun g=>(bif (g==(0:Int)) then some ((3:Int),m) else ((sL m (3:Int) g (0:Int)).bind fun i=>some (i.1,i.2)))))))) Q→T (p8 m) Q:=fun {c r} e {Q} hq=>by unfold p8;rw [q e,δ,vQ,δ];exact hq
 cases hx with
 |
  sp c l hc hl'=>
  refine ⟨Φ _,hl',start (c:=c) (r:=[]) rfl ?_⟩;rw [hc];refine T.ret (.inr ⟨rfl,rfl,?_,by simp [oZ],o⟩);show ζ.wrap (m.ga+1)=_
  rw [h.at_,wn (by have:=h.le;omega)];rfl
 |
  nm s l hs hn hl'=>
  obtain ⟨c,r,e,hc⟩:=hs.al.hd;refine ⟨by show 1≤s.data.toList.length;rw [e];simp,hl',start (c:=c) (r:=r) e ?_⟩;rw [hc];exact T.bind (qF h hs.al hn hs.nw) fun x hx=>T.ret hx
 |
  wd s l hs hn hl'=>
  obtain ⟨c,r,e,hc⟩:=hs.al.hd;refine ⟨by show 1≤s.data.toList.length;rw [e];simp,hl',start (c:=c) (r:=r) e ?_⟩;rw [hc];exact T.bind (qF h hs.al hn hs.w) fun x hx=>T.ret hx
 |
  nb n l j h1 hn hl'=>
  obtain ⟨t,u,c,r,k,v⟩:=vK n.toNat;have e:(itoaB n).data.toList=c::r:=by rw [Ff j,k]
  refine ⟨by show 1≤(itoaB n).data.toList.length;rw [e];simp,hl',start (c:=c) (r:=r) e ?_⟩;rw [vR (t c (by rw [k];simp))];exact T.bind (Bh j h1 h hn) fun x hx=>T.ret hx
 |
  m1 c l hc h1 hn hl'=>
  refine ⟨Φ _,hl',start (c:=c) (r:=[]) rfl ?_⟩;rw [hc];show T ((sM m).bind _) _
  rw [t6 h h1 hn,δ];exact T.bind (kQ (x:=[c]) h 3 0) fun x hx=>T.ret hx
 |
  m2 c d l hc h1 hl'=>
  refine ⟨by show 1≤2;omega,hl',start (c:=c) (r:=[d]) rfl ?_⟩;rw [hc];show T ((sM m).bind _) _
  rw [t0 h h1,δ];exact T.bind (kQ (x:=[c,d]) h 3 0) fun x hx=>T.ret hx
def xP {l:List Pc}(h:Lx l):T (wg (aK l)) fun r=>(r.2.2=6∧(20000<(aK l).length∨4000≤(oZ l).length))∨(r.2.2=0∧(aK l).length≤20000∧r.1.map sk=oZ l++[(0,ε,0)]∧r.1.length≤4001):=by
 unfold wg;refine T.cond (fun hc=>T.ret (.inl ⟨rfl,.inl (by have:=aY hc;omega)⟩)) fun hc=>?_;have hb:(aK l).length≤20000:=by have:=a9 hc;omega
 refine T.bind (P:=fun r=>(∀ q,r=c5 q→q.2.2.length≤4000∧q.2.2.map sk=oZ l)∧∀ q,r=bZ q→q.2.2=6∧4000≤(oZ l).length) ?_ fun r hr=>?_
 ·refine T.loop (fun s=>s.1=aK l∧∃ a l',RA ⟨s.1,s.2.1,s.2.2⟩ a (aK l')∧Lx l'∧s.2.2.map sk++oZ l'=oZ l∧s.2.2.length≤4000) (fun s=>(aK l).length-s.2.1.toNat) ⟨rfl,0,l,⟨rfl,fM _,hb,rfl⟩,h,rfl,by simp⟩ fun s hs=>?_
  obtain ⟨t,u,v⟩:=s;obtain ⟨e,a,l',ha,hl',ht,c⟩:=hs;simp only at e ha ht c;subst e;have:=ha.at_;simp only at this;subst this;have hlx:=ha.lx;simp only at hlx;refine T.cond (fun hc=>?_) fun hc=>T.ret ⟨fun q e=>?_,fun q e=>by cases e⟩
  ·cases l' with
   | nil=>rw [IS] at hlx;simp at hlx;simp at hc;omega
   |
    cons p l'=>
    obtain ⟨d,n2,i⟩:=qD ha hl' c;refine T.bind i fun r hr=>?_
    rcases hr with ⟨hr,j⟩|⟨k,b,f,m,n⟩
    ·rw [hr];have o:4000≤(oZ l).length:=by rw [← ht,υ,b6];simp only at j;omega
     exact T.ret ⟨fun q e=>(by cases e),fun q e=>(by cases e;exact ⟨rfl,o⟩)⟩
    rw [k];have hdr:=ha.dr;simp only at b hdr;have hle:a+p.txt.length≤(aK l).length:=by rw [p6,υ] at hlx;omega
    refine T.ret ⟨⟨b,a+p.txt.length,l',⟨f,by simp only;rw [b];exact hle,by simp only;rw [b];exact hb,?_⟩,n2,?_,n⟩,?_⟩
    ·simp only;rw [b,← List.drop_drop,hdr,p6,List.drop_left'];rfl
    ·show r.2.gL.map sk++oZ l'=_
     rw [m,← ht];cases p<;>simp [oZ]
    show (aK l).length-r.2.ga.toNat<_
    rw [f];simp only [cL];omega
  cases e;refine ⟨c,?_⟩;have g:aK l'=[]:=by
   have:(aK l).length≤a:=by simpa using hc
   exact fd (by omega)
  cases l' with
  | nil=>rw [← ht];simp [oZ]
  |
   cons p l'=>
   obtain ⟨d,_,_⟩:=qD ha hl' c;rw [p6] at g;have:=(List.append_eq_nil_iff.1 g).1;rw [this] at d;simp at d
 cases r with
 |
  inl q=>
  obtain ⟨h1,h2⟩:=hr.1 q rfl;rw [Γ,h9 (by omega) (by simp;omega),δ];exact T.ret (.inr ⟨rfl,hb,by rw [List.map_append,h2];rfl,by simp;omega⟩)
 | inr q=>exact T.ret (.inl ⟨(hr.2 q rfl).1,.inr (hr.2 q rfl).2⟩)
end
section
open Go
def sE (t:Tk):Prop:=(t.1=1→NmOK t.2.1)∧(t.1=2→0≤t.2.2∧t.2.2≤9223372036854775807)
def ij (L:List KJ):Prop:=∀ t∈L,sE (sk t)
def T.pt {α:Type}{m:Option α}{P:α→Prop}(h:T m P):Pt m P:=by
 intro r e;obtain ⟨x,h1,h2⟩:=h;rw [h1] at e;cases e;exact h2
def RA.of {m:Kaa}{a:Nat}(h:TkI m a):RA m a (m.gB.drop a):=⟨h.at_,h.le,h.len,rfl⟩
def xi {m:Kaa}{a:Nat}{x y:List aC}(h:RA m a (x++y))(g:ij m.gL){k v:Int}(hk:sE (k,ν x.toArray,v)):Pt (sL m k (x.length:Int) v) fun r=>r.1=0→ij r.2.gL:=(kQ h k v).pt.imp fun r hr e t ht=>by
 rcases hr with ⟨hr,_⟩|⟨_,_,_,b,_⟩
 ·rw [e] at hr;cases hr
 have:sk t∈r.2.gL.map sk:=List.mem_map_of_mem ht;rw [b,dC,aT] at this;rcases this with h|h
 ·obtain ⟨t',h1,h2⟩:=List.mem_map.1 h;rw [← h2];exact g t' h1
 rw [h];exact hk
def tO {p:aC→Bool}:∀ {x:List aC} {c:aC},c∈x.takeWhile p→p c=true
 |
  d::x,c,h=>by
  cases hp:p d with
  | false=>simp [List.takeWhile,hp] at h
  |
   true=>
   simp only [wE,hp,bR,cX] at h;rcases h with rfl|h
   ·exact hp
   exact tO h
def DY {m:Kaa}{a:Nat}{x:List aC}(h:RA m a x)(g:ij m.gL){c:aC}{r:List aC}(e:x=c::r)(hc:ck c=2):Pt (tb m) fun r=>r.1=0→ij r.2.gL:=by
 have hl:=h.lx;have hlen:=h.len;have htw:=qh (p:=i4 true) x;have hs:x.takeWhile (i4 true)++x.dropWhile (i4 true)=x:=List.takeWhile_append_dropWhile;have h':RA m a (x.takeWhile (i4 true)++x.dropWhile (i4 true)):=by rw [hs];exact h
 unfold tb;rw [EX h,δ,h.at_,wa (by omega),BO h',δ];refine Pt.cond (fun _=>Pt.ret (fun e=>by cases e)) fun b=>Pt.bind Pt.eq fun w hw=>Pt.cond (fun _=>?_) fun f=>?_;exact Pt.bind (xi h' g ⟨fun e=>(by cases e),fun e=>(by cases e)⟩) fun r hr=>Pt.ret hr;refine Pt.bind (xi h' g ⟨fun _=>⟨⟨?_,?_,?_⟩,?_⟩,fun e=>(by cases e)⟩) fun r hr=>Pt.ret hr;exact ⟨c,r.takeWhile (i4 true),by simp [e,wE,i4,hc],hc⟩;intro d hd;have:=tO (p:=i4 true) (x:=x) (c:=d) (by simpa using hd);simp [i4] at this;rcases this with h|h;exact .inr h;exact .inl h;have:=a9 b;show (x.takeWhile (i4 true)).length≤20;omega;rw [hw];exact a6 some f
def xh {m:Kaa}{a:Nat}{x:List aC}(h:RA m a x)(g:ij m.gL):Pt (tc m) fun r=>r.1=0→ij r.2.gL:=by
 have hl:=h.lx;have hlen:=h.len;have htw:=qh (p:=i4 false) x;have hs:x.takeWhile (i4 false)++x.dropWhile (i4 false)=x:=List.takeWhile_append_dropWhile;have h':RA m a (x.takeWhile (i4 false)++x.dropWhile (i4 false)):=by rw [hs];exact h
 unfold tc;refine Pt.cond (fun _=>Pt.ret (fun e=>by cases e)) fun _=>?_;rw [EX h,δ];refine Pt.bind Pt.any fun b _=>Pt.cond (fun _=>Pt.ret (fun e=>by cases e)) fun _=>?_;rw [h.at_,wa (by omega),BO h',δ];refine Pt.bind (P:=fun r=>(∀ y,r=c5 y→0≤y∧y≤9223372036854775807)∧∀ q,r=bZ q→q.1≠0) (Pt.loop (fun s=>0≤s.1∧s.1≤9223372036854775807) ⟨by simp,by simp⟩ fun s hs=>?_) fun r hr=>?_;obtain ⟨v,j⟩:=s;simp only at hs ⊢;refine Pt.cond (fun _=>Pt.bind Pt.any fun c _=>Pt.cond (fun _=>Pt.ret ⟨fun y e=>(by cases e),fun q e=>(by cases e;simp)⟩) fun hc=>Pt.ret ?_) fun _=>Pt.ret ⟨fun y e=>(by cases e;exact hs),fun q e=>(by cases e)⟩;have hc':=a9 hc;have hd:0≤bB.wrap (dU.wrap ((c.toNat:Int)-(48:Int)))∧bB.wrap (dU.wrap ((c.toNat:Int)-(48:Int)))≤255:=by rw [IntKind.wrap_u8,cU];omega
 show 0≤bB.wrap _∧bB.wrap _≤_;generalize bB.wrap (dU.wrap ((c.toNat:Int)-(48:Int)))=d at *;obtain ⟨n,o⟩:=hd;have f:bB.wrap ((9223372036854775807:Int)-d)=9223372036854775807-d:=by rw [cU];omega
 have i:(9223372036854775807-d).tdiv (10:Int)=(9223372036854775807-d)/10:=Int.tdiv_eq_ediv_of_nonneg (by omega);have k:bB.wrap ((9223372036854775807-d)/10)=(9223372036854775807-d)/10:=by rw [cU];omega
 rw [f,i,k] at hc';have l:bB.wrap (bB.wrap ((10:Int)*v)+d)=10*v+d:=by rw [cU,cU];omega
 rw [l];omega;cases r with
 |
  inl y=>
  obtain ⟨t,u⟩:=hr.1 y rfl;refine Pt.bind (xi h' g ⟨fun e=>(by cases e),fun _=>?_⟩) fun r hr=>Pt.ret hr
  show 0≤ζ.wrap y∧ζ.wrap y≤_
  rw [b1];omega
 | inr q=>exact Pt.ret fun e=>bH e (hr.2 q rfl)
def DX {m:Kaa}{a:Nat}(h:TkI m a)(g:ij m.gL):Pt (p8 m) fun r=>r.1=0→ij r.2.gL:=by
 have ha:=RA.of h;unfold p8;refine Pt.bind (P:=fun c=>∃ r,m.gB.drop a=c::r) (fun c e=>?_) fun c hc=>?_;rw [h.at_,lb] at e;exact ⟨m.gB.drop (a+1),by rw [List.drop_eq_getElem_cons (aP.1 e).1,(aP.1 e).2]⟩;obtain ⟨r,hr⟩:=hc;rw [vQ,δ];refine Pt.cond (fun _=>Pt.ret fun _=>g) fun _=>Pt.cond (fun e=>?_) fun _=>Pt.cond (fun e=>?_) fun _=>?_;exact Pt.bind (DY ha g hr (by simpa using e)) fun x hx=>Pt.ret hx;exact Pt.bind (xh ha g) fun x hx=>Pt.ret hx;have hlt:a<m.gB.length:=by rcases fU a m.gB.length with h1|h1;exact h1;rw [rx h1] at hr;cases hr
 refine Pt.bind (zC h hlt).pt fun n hn=>Pt.cond (fun _=>Pt.ret fun e=>(by cases e)) fun e=>?_;rcases hn with rfl|⟨k,rfl,k1,k2⟩;cases e;have hs:(m.gB.drop a).take k++(m.gB.drop a).drop k=m.gB.drop a:=fq _ _;have h':RA m a ((m.gB.drop a).take k++(m.gB.drop a).drop k):=by rw [hs];exact ha
 have hk:((m.gB.drop a).take k).length=k:=by simp;omega
 have:=xi (k:=3) (v:=0) h' g ⟨fun e=>(by cases e),fun e=>(by cases e)⟩;rw [hk] at this;exact Pt.bind this fun x hx=>Pt.ret hx
def DW (b:List aC):Pt (wg b) fun r=>r.2.2=0→ij r.1:=by
 unfold wg;refine Pt.cond (fun _=>Pt.ret (by simp)) fun hc=>?_;have hb:b.length≤20000:=by have:=a9 hc;omega
 refine Pt.bind (P:=fun r=>(∀ q,r=c5 q→ij q.2.2)∧∀ q,r=bZ q→q.2.2≠0) ?_ fun r hr=>?_;refine Pt.loop (fun s=>s.1=b∧ij s.2.2∧∃ a,TkI ⟨s.1,s.2.1,s.2.2⟩ a) ⟨rfl,by simp [ij],0,rfl,fM _,hb,by simp⟩ fun s hs=>?_;obtain ⟨c,i,f⟩:=s;obtain ⟨e,g,a,ha⟩:=hs;simp only at e g ha;subst e;have:=ha.at_;simp only at this;subst this;refine Pt.cond (fun hc=>?_) fun hc=>Pt.ret ⟨fun q e=>(by cases e;exact g),fun q e=>by cases e⟩;have hlt:a<c.length:=by simpa using hc
 refine Pt.bind (P:=fun r=>TP ⟨c,(a:Int),f⟩ a r∧(r.1=0→ij r.2.gL)) (fun r e=>⟨(D9 ha hlt).pt r e,DX ha g r e⟩) fun r hr=>Pt.cond (fun e=>Pt.ret ⟨fun q e=>(by cases e),fun q e'=>(by cases e';simpa using e)⟩) fun e=>Pt.ret ?_;have d:r.1=0:=by simpa using e
 rcases hr.1 with h1|⟨a',h1,h2,h⟩;exact bH d h1;exact ⟨h,hr.2 d,a',h2.at_,h2.le,h2.len,h2.l⟩;cases r with
 |
  inl q=>
  have:=hr.1 q rfl;refine Pt.bind (P:=fun l=>ij l) (fun l e=>?_) fun l hl=>Pt.ret fun _=>hl
  rw [(sF e).1];intro t ht;rcases dC.1 ht with ht|ht
  ·exact this t ht
  rw [aT.1 ht];exact ⟨fun e=>(by cases e),fun e=>(by cases e)⟩
 | inr q=>exact Pt.ret fun e=>bH e (hr.2 q rfl)
def VE.kids {e:Kf}(h:VE e):e.gd.length≤2∧∀ k∈e.gd,VE k:=by
 cases h<;>simp_all
def qX:∀ (n:Nat) (e:Kf),VE e→dpE e≤n→dpE e≤1000→Kch n e=some (dpE e:Int)
 | 0,e,_,h,_=>by rw [kS] at h;omega
 |
  n+1,e,hv,h,hb=>by
  show yZ (Kch n) e=_
  unfold yZ;obtain ⟨hl,hk⟩:=hv.kids;have hd:=kS e;refine wR e.gd (fun pre=>dS pre) (fun a n=>((a:Nat),(n:Nat))) (fun a=>(a:Int)) (by simp [dS]) (fun pre x post hp=>?_) ?_ ?_
  ·have hx:=hk x (iW hp);have b:=Ac (iW hp);simp only [fL hp,ξ];rw [fK hp (by omega)];rw [show idx e.gd (pre.length:Int)=some x by rw [hp];exact iX _ _ _,δ,qX n x hx (by omega) (by omega),δ];rw [HD];simp only [dS];congr 3;omega
  ·simp only [jR,θ]
  rw [hd,kR (by omega) (by omega)];congr 1;omega
def EN {e:Kf}(h:VE e)(hb:dpE e≤1000):Fb e=some (dpE e:Int):=MY e _ (qX _ e h (Φ _) hb)
structure PV (m:Kr) (P:Prop) (r:Kr):Prop where
 l:r.gL=m.gL
 e:r.gE=0→m.gE=0∧P
def PV.imp {m r:Kr}{P Q:Prop}(h:PV m P r)(g:P→Q):PV m Q r:=⟨h.l,fun e=>⟨(h.e e).1,g (h.e e).2⟩⟩
def PV.trans {m r q:Kr}{P Q R:Prop}(h:PV m P r)(h':PV r Q q)(g:P→Q→R):PV m R q:=⟨h'.l.trans h.l,fun e=>⟨(h.e (h'.e e).1).1,g (h.e (h'.e e).1).2 (h'.e e).2⟩⟩
def tC {m:Kr}(g:ij m.gL):Pt (wj m) fun t=>sE (sk t):=by
 unfold wj;refine Pt.cond (fun _=>Pt.ret ⟨fun e=>(by cases e),fun e=>(by cases e)⟩) fun _=>Pt.bind (P:=fun t=>sE (sk t)) (fun t e=>g t (a4 (z6 e).2)) fun t ht=>Pt.ret ht
def mQ {m:Kr}{a e:Int}(he:e≠0):Pt (rq m a e) fun r=>r.gL=m.gL∧r.gE≠0:=by
 unfold rq;refine Pt.cond (fun _=>Pt.ret ⟨rfl,he⟩) fun h=>Pt.ret ⟨rfl,fun e=>?_⟩;rw [e] at h;cases h
def PV.bad {m r:Kr}{P:Prop}(h:r.gL=m.gL∧r.gE≠0):PV m P r:=⟨h.1,fun e=>bH e h.2⟩
def Ii {m:Kr}(s:η):Pt (wt m s) (PV m True):=by
 unfold wt;refine Pt.bind Pt.any fun b _=>Pt.cond (fun _=>Pt.bind (mQ (by decide)) fun r hr=>Pt.ret (PV.bad hr)) fun _=>Pt.ret ⟨rfl,fun e=>⟨e,trivial⟩⟩
def tB {m:Kr}(g:ij m.gL):Pt (zd m) fun r=>PV m (NmOK r.1) r.2:=by
 unfold zd;refine Pt.bind (tC g) fun t ht=>Pt.cond (fun _=>Pt.bind (mQ (by decide)) fun r hr=>Pt.ret (PV.bad hr)) fun h=>Pt.ret ⟨rfl,fun e=>⟨e,ht.1 (by simpa [sk] using h)⟩⟩
def oU {m:Kr}{e:Kf}(h:m.gE=0→VE e∧dpE e≤1000)(a:Int):Pt (mL m e a) fun r=>PV m (VX r.1) r.2:=by
 unfold mL;refine Pt.cond (fun e=>Pt.ret ⟨rfl,fun b=>?_⟩) fun b=>?_;simp at e;exact bH b e;obtain ⟨h1,h2⟩:=h (by simpa using b);rw [EN h1 h2,δ];refine Pt.cond (fun _=>Pt.bind (mQ (by decide)) fun r hr=>Pt.ret (PV.bad hr)) fun h=>Pt.ret ⟨rfl,fun e'=>⟨e',h1,?_⟩⟩;have:=a9 h;show dpE e≤24;omega
def tF (a:Int)(s:η):Pt (sO a s) fun op=>op≠0→lev op<6:=by
 unfold sO wV;repeat' (first|exact Pt.ret (by decide)|(refine Pt.cond (fun _=>?_) (fun _=>?_))|(refine Pt.bind (P:=fun op=>op≠0→lev op<6) ?_ (fun _ h=>Pt.ret h)))
def Iu (o n:Int)(s:η)(k:Kf)(a:Int):dpE ⟨o,n,s,[k],a⟩=1+dpE k:=by simp [dpE,dS]
def Oj (o n:Int)(s:η)(k q:Kf)(a:Int):dpE ⟨o,n,s,[k,q],a⟩=1+max (dpE k) (dpE q):=by simp [dpE,dS]
def EK (o n:Int)(s:η)(a:Int):dpE ⟨o,n,s,[],a⟩=1:=by simp [dpE,dS]
def Lh:∀ N:Nat,
  (∀ (m:Kr) (a:Int),ij m.gL→Pt ((PG N).1 m a) fun r=>PV m (VX r.1) r.2) ∧
  (∀ m:Kr,ij m.gL→Pt ((PG N).2.1 m) fun r=>PV m (VX r.1) r.2) ∧
  (∀ (m:Kr) (x:Kf) (k at_:Int),ij m.gL→(m.gE=0→∃ s a,NmOK s∧((x=⟨2,0,s,[],a⟩∧k=3)∨(x=⟨19,0,s,[],a⟩∧k=20)))→Pt ((PG N).2.2.1 m x k at_) fun r=>PV m (VX r.1) r.2) ∧
  (∀ (m:Kr) (s:η),ij m.gL→Pt ((PG N).2.2.2.1 m s) fun r=>PV m (VX r.1) r.2) ∧
  (∀ (m:Kr) (t:KJ) (at_:Int),ij m.gL→Pt ((PG N).2.2.2.2 m t at_) fun r=>PV m (VX r.1) r.2)
 | 0=>⟨fun _ _ _ r e=>(by cases e),fun _ _ r e=>(by cases e),fun _ _ _ _ _ _ r e=>(by cases e),fun _ _ _ r e=>(by cases e),fun _ _ _ _ r e=>(by cases e)⟩
 |
  N+1=>by
  obtain ⟨iR,iU,iI,iA,iS⟩:=Lh N;refine ⟨fun m a g=>?_,fun m g=>?_,fun m x k at_ g hx=>?_,fun m s g=>?_,fun m t at_ g=>?_⟩
  ·show Pt (sN (PG N).1 (PG N).2.1 (PG N).2.2.1 (PG N).2.2.2.1 (PG N).2.2.2.2 m a) _
   unfold sN;refine Pt.cond (fun _=>Pt.bind (iU m g) fun r hr=>Pt.ret hr) fun _=>Pt.bind (iR m _ g) fun x hx=>?_
   refine Pt.bind (P:=fun s:List KJ×Int×Int×Int×Int×η×List Kf×Int=>PV m (VX ⟨s.2.2.2.1,s.2.2.2.2.1,s.2.2.2.2.2.1,s.2.2.2.2.2.2.1,s.2.2.2.2.2.2.2⟩) ⟨s.1,s.2.1,s.2.2.1⟩) ?_ fun s hs=>Pt.ret hs
   refine Pt.loop (fun s:List KJ×Int×Int×Int×Int×η×List Kf×Int=>PV m (VX ⟨s.2.2.2.1,s.2.2.2.2.1,s.2.2.2.2.2.1,s.2.2.2.2.2.2.1,s.2.2.2.2.2.2.2⟩) ⟨s.1,s.2.1,s.2.2.1⟩) (by simp only;rw [DN];exact hx) fun s hs=>?_
   obtain ⟨L,p,d,n,o,u,v,w⟩:=s;simp only at hs ⊢;refine Pt.cond (fun he=>?_) fun _=>Pt.ret hs
   have f:d=0:=by simpa using he
   have gL:ij L:=by have:=hs.l;simp only at this;rw [this];exact g
   refine Pt.bind (tC (m:=⟨L,p,d⟩) gL) fun t ht=>?_
   refine Pt.bind (P:=fun op=>op≠0→lev op<6) (Pt.cond (fun hk=>Pt.bind (tF _ _) fun b hb=>Pt.ret hb) fun _=>Pt.ret (by simp)) fun op hop=>Pt.cond (fun _=>Pt.ret hs) fun hne=>?_
   have hop':=hop (by simpa using hne);refine Pt.bind (iR ⟨L,ζ.wrap (p+1),d⟩ _ gL) fun r hr=>?_
   obtain ⟨v1,v2⟩:=(hs.e f).2;refine Pt.bind (oU (m:=r.2) (e:=⟨op,0,ε,[⟨n,o,u,v,w⟩,r.1],t.ga⟩) (fun e=>?_) p) fun q hq=>Pt.ret ?_
   ·obtain ⟨c,i⟩:=(hr.e e).2;refine ⟨.bin _ _ _ _ hop' v1 c,?_⟩;rw [Oj];omega
   show PV m (VX ⟨q.1.gj,q.1.gN,q.1.gb,q.1.gd,q.1.ga⟩) ⟨q.2.gL,q.2.ga,q.2.gE⟩
   rw [DN];exact ⟨hq.l.trans (hr.l.trans hs.l),fun e=>⟨(hs.e f).1,(hq.e e).2⟩⟩
  ·show Pt (zb (PG N).1 (PG N).2.1 (PG N).2.2.1 (PG N).2.2.2.1 (PG N).2.2.2.2 m) _
   unfold zb;refine Pt.bind (tC g) fun t ht=>Pt.cond (fun e=>Pt.ret ⟨rfl,fun d=>?_⟩) fun e=>Pt.cond (fun k=>Pt.ret ⟨rfl,fun e=>⟨e,?_⟩⟩) fun _=>Pt.cond (fun k=>?_) fun _=>Pt.cond (fun k=>?_) fun k=>?_
   ·simp at e;exact bH d e
   ·obtain ⟨y,n2⟩:=ht.2 (by simpa [sk] using k);exact ⟨.num _ _ y n2,by rw [EK];omega⟩
   ·refine Pt.bind (iI ⟨m.gL,ζ.wrap (m.ga+1),m.gE⟩ _ _ _ g fun _=>⟨_,_,ht.1 (by simpa [sk] using k),.inl ⟨rfl,rfl⟩⟩) fun r hr=>Pt.ret ⟨hr.l,hr.e⟩
   ·exact Pt.bind (iS ⟨m.gL,ζ.wrap (m.ga+1),m.gE⟩ _ _ g) fun r hr=>Pt.ret ⟨hr.l,hr.e⟩
   exact Pt.bind (mQ (m:=⟨m.gL,ζ.wrap (m.ga+1),m.gE⟩) (by decide)) fun r hr=>Pt.ret (PV.bad hr)
  ·show Pt (ww (PG N).1 (PG N).2.1 (PG N).2.2.1 (PG N).2.2.2.1 (PG N).2.2.2.2 m x k at_) _
   unfold ww;refine Pt.bind Pt.any fun b _=>Pt.cond (fun _=>Pt.ret ⟨rfl,fun e=>⟨e,?_⟩⟩) fun _=>?_
   ·obtain ⟨s,a,h1,h2⟩:=hx e;rcases h2 with ⟨rfl,_⟩|⟨rfl,_⟩
    ·exact ⟨.var _ _ h1,by rw [EK];omega⟩
    exact ⟨.addr _ _ h1,by rw [EK];omega⟩
   refine Pt.bind (iA ⟨m.gL,ζ.wrap (m.ga+1),m.gE⟩ _ g) fun r hr=>?_
   refine Pt.bind (oU (m:=r.2) (e:=⟨k,x.gN,x.gb,[r.1],x.ga⟩) (fun e=>?_) at_) fun q hq=>Pt.ret ⟨hq.l.trans hr.l,fun e=>⟨(hr.e (hq.e e).1).1,(hq.e e).2⟩⟩
   obtain ⟨j,c,i⟩:=hr.e e;obtain ⟨s,a,h1,h2⟩:=hx j;rcases h2 with ⟨rfl,rfl⟩|⟨rfl,rfl⟩
   ·exact ⟨.index _ _ _ h1 c,by rw [Iu];omega⟩
   exact ⟨.addrAt _ _ _ h1 c,by rw [Iu];omega⟩
  ·show Pt (y8 (PG N).1 (PG N).2.1 (PG N).2.2.1 (PG N).2.2.2.1 (PG N).2.2.2.2 m s) _
   unfold y8;refine Pt.bind (iR m 0 g) fun r hr=>Pt.cond (fun _=>?_) fun _=>Pt.ret hr
   exact Pt.bind (Ii s) fun q hq=>Pt.ret (hr.trans hq fun h _=>h)
  show Pt (za (PG N).1 (PG N).2.1 (PG N).2.2.1 (PG N).2.2.2.1 (PG N).2.2.2.2 m t at_) _
  unfold za;refine Pt.bind (P:=fun b=>b=true→t.gq=ν #[45]∨t.gq=ν #[33]) (Pt.cond (fun h=>Pt.ret fun _=>.inl (aY h)) fun _=>Pt.ret fun h=>.inr (aY h)) fun b hb=>Pt.cond (fun h=>?_) fun _=>Pt.cond (fun _=>?_) fun _=>Pt.cond (fun _=>?_) fun _=>Pt.cond (fun _=>Pt.ret ⟨rfl,fun e=>⟨e,.null _,by rw [EK];omega⟩⟩) fun _=>Pt.cond (fun _=>?_) fun _=>?_
  ·refine Pt.bind (P:=fun op=>op=5∨op=6) ?_ fun op hop=>Pt.bind (iU m g) fun r hr=>?_
   ·unfold wV;refine Pt.cond (fun _=>Pt.ret (.inl rfl)) fun h1=>Pt.cond (fun _=>Pt.ret (.inr rfl)) fun h2=>?_
    rcases hb h with h|h
    ·exact bH h (a9 h1)
    exact bH h (a9 h2)
   refine Pt.bind (oU (m:=r.2) (e:=⟨op,0,ε,[r.1],t.ga⟩) (fun e=>?_) at_) fun q hq=>Pt.ret ⟨hq.l.trans hr.l,fun e=>⟨(hr.e (hq.e e).1).1,(hq.e e).2⟩⟩
   obtain ⟨j,c,i⟩:=hr.e e;refine ⟨?_,by rw [Iu];omega⟩;rcases hop with rfl|rfl
   ·exact .neg _ _ c
   exact .not _ _ c
  ·exact Pt.bind (tB g) fun r hr=>Pt.ret ⟨hr.l,fun e=>⟨(hr.e e).1,.load _ _ (hr.e e).2,by rw [EK];omega⟩⟩
  ·refine Pt.bind (tB g) fun r hr=>Pt.bind (iI r.2 _ _ _ (by rw [hr.l];exact g) fun e=>⟨_,_,(hr.e e).2,.inr ⟨rfl,rfl⟩⟩) fun q hq=>Pt.ret (hr.trans hq fun _ h=>h)
  ·exact Pt.bind (iA m _ g) fun r hr=>Pt.ret hr
  exact Pt.bind (mQ (by decide)) fun r hr=>Pt.ret (PV.bad hr)
def D0 {L:List KJ}(g:ij L)(a:Int):Pt (Dm L a) fun r=>r.2.2=0→VX r.1:=by
 unfold Dm;refine Pt.bind Pt.any fun b _=>Pt.cond (fun _=>Pt.ret fun e=>(by cases e)) fun _=>Pt.bind (P:=fun r=>PV ⟨L,a,0⟩ (VX r.1) r.2) (fun r e=>?_) fun r hr=>Pt.cond (fun e=>Pt.ret fun c=>?_) fun e=>Pt.ret fun _=>(hr.e (by simpa using e)).2;obtain ⟨n,hn⟩:=kq e;exact (Lh n).1 _ _ g r hn;simp at e;exact bH c e
end
section
open Go
structure GV (m:Km) (P:Prop) (r:Km):Prop where
 l:r.gL=m.gL
 o:r.gt=m.gt
 v:r.gu=m.gu
 e:r.gE=0→m.gE=0∧P
def GV.imp {m r:Km}{P Q:Prop}(h:GV m P r)(g:P→Q):GV m Q r:=⟨h.l,h.o,h.v,fun e=>⟨(h.e e).1,g (h.e e).2⟩⟩
def GV.trans {m r q:Km}{P Q R:Prop}(h:GV m P r)(h':GV r Q q)(g:P→Q→R):GV m R q:=⟨h'.l.trans h.l,h'.o.trans h.o,h'.v.trans h.v,fun e=>⟨(h.e (h'.e e).1).1,g (h.e (h'.e e).1).2 (h'.e e).2⟩⟩
def GV.refl (m:Km):GV m True m:=⟨rfl,rfl,rfl,fun e=>⟨e,trivial⟩⟩
def GV.gl {m r:Km}{P:Prop}(h:GV m P r)(g:ij m.gL):ij r.gL:=by rw [h.l];exact g
def Bd (m r:Km):Prop:=r.gL=m.gL∧r.gt=m.gt∧r.gu=m.gu∧r.gE≠0
def GV.bad {m r:Km}{P:Prop}(h:Bd m r):GV m P r:=⟨h.1,h.2.1,h.2.2.1,fun e=>bH e h.2.2.2⟩
def jD {m:Km}{a e:Int}(he:e≠0):Pt (lg m a e) (Bd m):=by
 unfold lg;refine Pt.cond (fun _=>Pt.ret ⟨rfl,rfl,rfl,he⟩) fun h=>Pt.ret ⟨rfl,rfl,rfl,fun e=>?_⟩;rw [e] at h;cases h
def mP {m:Km}(g:ij m.gL)(a:Int):Pt (oC m a) fun t=>sE (sk t):=by
 unfold oC;refine Pt.cond (fun _=>Pt.ret ⟨fun e=>(by cases e),fun e=>(by cases e)⟩) fun _=>Pt.bind (P:=fun t=>sE (sk t)) (fun t e=>g t (a4 (z6 e).2)) fun t ht=>Pt.ret ht
def g8 (m:Km)(l:List η):Pt (K9 m l) (GV m True):=by
 unfold K9;refine Pt.bind (P:=fun r=>∀ q,r=bZ q→GV m True q) (Pt.loop (fun _=>True) trivial fun s _=>?_) fun r hr=>?_;refine Pt.cond (fun _=>Pt.bind Pt.any fun x _=>Pt.cond (fun e=>Pt.ret fun q h=>?_) fun _=>Pt.bind Pt.any fun b _=>Pt.cond (fun _=>?_) fun _=>Pt.ret trivial) fun _=>Pt.ret fun q h=>by cases h
 cases h;exact ⟨rfl,rfl,rfl,fun e=>⟨e,trivial⟩⟩;refine Pt.bind (jD (m:=⟨m.gL,s.2,m.gE,m.gu,m.gt⟩) (by decide)) fun x hx=>Pt.ret fun q h=>?_;cases h;exact .bad hx;cases r with
 | inl p=>exact Pt.ret ⟨rfl,rfl,rfl,fun e=>⟨e,trivial⟩⟩
 | inr q=>exact Pt.ret (hr q rfl)
def ja (m:Km)(s:η):Pt (i0 m s) fun r=>GV m True r.2:=by
 unfold i0;exact Pt.bind Pt.any fun b _=>Pt.cond (fun _=>Pt.ret (GV.refl m)) fun _=>Pt.ret ⟨rfl,rfl,rfl,fun e=>⟨e,trivial⟩⟩
def li {m:Km}(g:ij m.gL):Pt (oO m) fun r=>GV m (NmOK r.1) r.2:=by
 unfold oO;refine Pt.cond (fun e=>Pt.ret (.bad ⟨rfl,rfl,rfl,by simpa using e⟩)) fun _=>Pt.bind (mP g 0) fun t ht=>Pt.cond (fun _=>Pt.bind (jD (by decide)) fun r hr=>Pt.ret (.bad hr)) fun h=>Pt.ret ⟨rfl,rfl,rfl,fun e=>⟨e,ht.1 (by simpa [sk] using h)⟩⟩
def ky {m:Km}(g:ij m.gL):Pt (kW m) fun r=>GV m (VX r.1) r.2:=by
 unfold kW;refine Pt.cond (fun e=>Pt.ret (.bad ⟨rfl,rfl,rfl,by simpa using e⟩)) fun _=>Pt.bind (D0 g _) fun x hx=>Pt.cond (fun k=>?_) fun k=>Pt.ret ⟨rfl,rfl,rfl,fun e=>⟨e,hx (by simpa using k)⟩⟩;exact Pt.bind (jD (by simpa using k)) fun r hr=>Pt.ret (.bad hr)
structure GW (m:Km) (vs:List KZ) (r:Km):Prop where
 l:r.gL=m.gL
 o:r.gt=m.gt
 e:r.gE=0→m.gE=0∧(∀ v∈vs,NmOK v.gb)∧(0≤m.gu→m.gu≤16→r.gu=m.gu+vs.length∧r.gu≤16)
def GV.w {m r:Km}{P:Prop}(h:GV m P r):GW m [] r:=⟨h.l,h.o,fun e=>⟨(h.e e).1,by simp,fun _ a=>by rw [h.v];simp [a]⟩⟩
def GW.trans {m r q:Km}{k l:List KZ}(h:GW m k r)(h':GW r l q):GW m (k++l) q:=by
 refine ⟨h'.l.trans h.l,h'.o.trans h.o,fun e=>?_⟩;obtain ⟨c,v1,d⟩:=h'.e e;obtain ⟨f,v2,n2⟩:=h.e c;refine ⟨f,fun v hv=>?_,fun a b=>?_⟩;rcases dC.1 hv with hv|hv;exact v2 v hv;exact v1 v hv;obtain ⟨c1,c2⟩:=n2 a b;obtain ⟨c3,c4⟩:=d (by omega) c2;refine ⟨?_,c4⟩;rw [c3,c1,υ];omega
def GW.gv {m r q:Km}{l:List KZ}{P:Prop}(h:GW m l r)(h':GV r P q):GW m l q:=by
 have:=h.trans h'.w;rwa [aN] at this
def GW.gl {m r:Km}{l:List KZ}(h:GW m l r)(g:ij m.gL):ij r.gL:=by rw [h.l];exact g
def DS {m:Km}(g:ij m.gL):Pt (wy m) fun r=>GW m [r.1] r.2:=by
 unfold wy;refine Pt.bind (g8 m _) fun c h1=>Pt.bind (ja c _) fun n h2=>Pt.bind (li ((h1.trans h2 fun _ h=>h).gl g)) fun d f=>?_;have q:=(h1.trans h2 fun _ h=>h).trans f fun _ h=>h;refine Pt.cond (fun _=>Pt.bind (jD (by decide)) fun r hr=>Pt.ret ⟨hr.1.trans q.l,hr.2.1.trans q.o,fun e=>bH e hr.2.2.2⟩) fun k=>Pt.ret ⟨q.l,q.o,fun e=>?_⟩;obtain ⟨i,j⟩:=q.e e;refine ⟨i,fun v hv=>by rw [aT.1 hv];exact j,fun a b=>?_⟩;have hk:=a9 k;have hw:ζ.wrap (d.2.gu+1)=m.gu+1:=by rw [q.v,b1];omega
 simp only;rw [hw] at hk ⊢;exact ⟨rfl,by omega⟩
def AH {m:Km}(g:ij m.gL):Pt (Ax m) fun r=>GV m (∀ e∈r.1,VX e) r.2:=by
 unfold Ax;refine Pt.bind (g8 m _) fun b h1=>Pt.bind (ja b _) fun d h2=>?_;have a:=h1.trans h2 fun _ h=>h;refine Pt.cond (fun _=>Pt.ret (a.imp fun _=>by simp)) fun _=>?_;refine Pt.bind (P:=fun s:List Kf×List KJ×Int×Int×Int×Int=>GV m (∀ e∈s.1,VX e) ⟨s.2.1,s.2.2.1,s.2.2.2.1,s.2.2.2.2.1,s.2.2.2.2.2⟩) (Pt.loop (fun s:List Kf×List KJ×Int×Int×Int×Int=>GV m (∀ e∈s.1,VX e) ⟨s.2.1,s.2.2.1,s.2.2.2.1,s.2.2.2.2.1,s.2.2.2.2.2⟩) (a.imp fun _=>by simp) fun s hs=>?_) fun s hs=>Pt.bind (g8 _ _) fun f c=>Pt.ret (hs.trans c fun h _=>h);refine Pt.cond (fun _=>Pt.bind (ky (m:=⟨s.2.1,s.2.2.1,s.2.2.2.1,s.2.2.2.2.1,s.2.2.2.2.2⟩) (hs.gl g)) fun x hx=>Pt.bind (P:=fun l=>l=s.1++[x.1]) (fun l e=>(sF e).1) fun l hl=>Pt.bind (ja _ _) fun y hy=>?_) fun _=>Pt.ret hs;subst hl;have q:=(hs.trans hx (R:=∀ e∈s.1++[x.1],VX e) fun h1 h2 e he=>by
  rcases dC.1 he with he|he
  ·exact h1 e he
  rw [aT.1 he];exact h2).trans hy fun h _=>h
 exact Pt.cond (fun _=>Pt.ret q) fun _=>Pt.ret q
def AG {m:Km}(g:ij m.gL):Pt (rr m) fun r=>GW m r.1 r.2:=by
 unfold rr;refine Pt.bind (g8 m _) fun b h1=>Pt.bind (ja b _) fun d h2=>?_;have a:=(h1.trans h2 (R:=True) fun _ h=>h).w;refine Pt.cond (fun _=>Pt.ret a) fun _=>Pt.bind (P:=fun s:List KZ×List KJ×Int×Int×Int×Int=>GW m s.1 ⟨s.2.1,s.2.2.1,s.2.2.2.1,s.2.2.2.2.1,s.2.2.2.2.2⟩) (Pt.loop (fun s:List KZ×List KJ×Int×Int×Int×Int=>GW m s.1 ⟨s.2.1,s.2.2.1,s.2.2.2.1,s.2.2.2.2.1,s.2.2.2.2.2⟩) a fun s hs=>?_) fun s hs=>Pt.bind (g8 _ _) fun f c=>Pt.ret (hs.gv c);refine Pt.cond (fun _=>Pt.bind (DS (m:=⟨s.2.1,s.2.2.1,s.2.2.2.1,s.2.2.2.2.1,s.2.2.2.2.2⟩) (hs.gl g)) fun x hx=>Pt.bind (P:=fun l=>l=s.1++[x.1]) (fun l e=>(sF e).1) fun l hl=>Pt.bind (ja _ _) fun y hy=>?_) fun _=>Pt.ret hs;subst hl;have q:=(hs.trans hx).gv hy;exact Pt.cond (fun _=>Pt.ret q) fun _=>Pt.ret q
def zu {m:Km}(g:ij m.gL){a:Kk}(hn:a.gb=ε∨(m.gE=0→NmOK a.gb))(hk:a.gd=[])(he:a.gr=[])(d:Nat):Pt (w1 m a) fun r=>GV m (VS d r.1) r.2:=by
 unfold w1;refine Pt.bind (li g) fun i h1=>Pt.bind (AH (h1.gl g)) fun j h2=>Pt.bind (g8 _ _) fun k f=>Pt.ret ?_;have q:=((h1.trans h2 J9).trans f fun h _=>h);refine ⟨q.l,q.o,q.v,fun e=>?_⟩;obtain ⟨b,c,n2⟩:=q.e e;refine ⟨b,?_⟩;simp only;rw [hk,he];rcases hn with hn|hn;rw [hn];exact .call _ _ _ _ c n2;exact .callTo _ _ _ _ _ (hn b) c n2
def xf {m:Km}(g:ij m.gL){a:Kk}(hn:m.gE=0→NmOK a.gb)(hf:a.gy=ε)(hx:a.gn=[])(hk:a.gd=[])(he:a.gr=[])(d:Nat):Pt (y6 m a) fun r=>GV m (VS d r.1) r.2:=by
 unfold y6;refine Pt.bind (ja m _) fun k h1=>Pt.cond (fun _=>Pt.bind (g8 _ _) fun f h2=>Pt.ret ?_) fun _=>Pt.bind Pt.any fun b _=>Pt.cond (fun _=>?_) fun _=>?_;have q:=h1.trans h2 fun _ h=>h;refine ⟨q.l,q.o,q.v,fun e=>?_⟩;obtain ⟨c,_⟩:=q.e e;refine ⟨c,?_⟩;simp only;rw [hf,hx,hk,he];exact .input _ _ _ (hn c);refine Pt.bind (zu (h1.gl g) (.inr fun e=>hn (h1.e e).1) hk he d) fun x hx=>Pt.ret (h1.trans hx fun _ h=>h);refine Pt.bind (ky (h1.gl g)) fun f h2=>Pt.bind (g8 _ _) fun n i=>Pt.ret ?_;have q:=(h1.trans h2 fun _ h=>h).trans i fun h _=>h;refine ⟨q.l,q.o,q.v,fun e=>?_⟩;obtain ⟨c,j⟩:=q.e e;refine ⟨c,?_⟩;simp only;rw [hf,hk,he];exact .assign _ _ _ _ (hn c) j
def AF {m:Km}(g:ij m.gL)(at_:Int)(d:Nat):Pt (CH m ⟨0,ε,ε,[],[],[],at_⟩) fun r=>GV m (VS d r.1) r.2:=by
 unfold CH;refine Pt.bind Pt.any fun b _=>Pt.cond (fun _=>Pt.bind (zu g (.inl rfl) rfl rfl d) fun x hx=>Pt.ret hx) fun _=>Pt.bind (li g) fun p h1=>Pt.bind (ja _ _) fun A h2=>Pt.cond (fun _=>?_) fun _=>?_;have k:=h1.trans h2 fun h _=>h;refine Pt.bind (ky (k.gl g)) fun q f=>Pt.bind (g8 _ _) fun s i=>?_;have n:=(k.trans f J9).trans i fun h _=>h;refine Pt.bind (ky (n.gl g)) fun B t=>Pt.bind (g8 _ _) fun C u=>Pt.ret ?_;have c:=(n.trans t J9).trans u fun h _=>h;refine ⟨c.l,c.o,c.v,fun e=>?_⟩;obtain ⟨w,⟨y,n2⟩,z⟩:=c.e e;exact ⟨w,.put _ _ _ _ _ y n2 z⟩;refine Pt.bind (g8 _ _) fun q f=>?_;have j:=(h1.trans h2 fun h _=>h).trans f fun h _=>h;exact Pt.bind (xf (j.gl g) (a:=⟨0,p.1,ε,[],[],[],at_⟩) (fun e=>(j.e e).2) rfl rfl rfl rfl d) fun s i=>Pt.ret (j.trans i fun _ h=>h)
def tv {m:Km}(g:ij m.gL):Pt (Aw m) fun r=>GV m (∃ e,r.1=[e]∧VX e) r.2:=by
 unfold Aw;exact Pt.bind (g8 m _) fun b h1=>Pt.bind (ky (h1.gl g)) fun c h2=>Pt.bind (g8 _ _) fun d a=>Pt.ret (((h1.trans h2 fun _ h=>h).trans a fun h _=>h).imp fun h=>⟨_,rfl,h⟩)
def DV {one:Km→Option (Kk×Km)}{m:Km}{d:Nat}(hone:∀ {r},r.gL=m.gL→r.gt=m.gt→m.gE=0→Pt (one r) fun q=>GV r (VS d q.1) q.2){F:List Kk×List KJ×Int×Int×Int×Int→Option (Step (List Kk×List KJ×Int×Int×Int×Int) (List Kk×List KJ×Int×Int×Int×Int))}
  (hF:∀ a,F a=(κ (α:=Bool×List KJ×Int×Int×Int×Int) (bif (a.2.2.2.1==(0:Int)) then ((i0 (⟨a.2.1,a.2.2.1,a.2.2.2.1,a.2.2.2.2.1,a.2.2.2.2.2⟩:Km) iw).bind fun c=>some ((!c.1),c.2.gL,c.2.ga,c.2.gE,c.2.gu,c.2.gt)) else some (false,a.2.1,a.2.2.1,a.2.2.2.1,a.2.2.2.2.1,a.2.2.2.2.2)) fun b=>(bif b.1 then ((one (⟨b.2.1,b.2.2.1,b.2.2.2.1,b.2.2.2.2.1,b.2.2.2.2.2⟩:Km)).bind fun f=>((app 120 a.1 ([f.1]:List Kk)).bind fun g=>some (.next (g,f.2.gL,f.2.ga,f.2.gE,f.2.gu,f.2.gt)))) else some (.done (a.1,b.2.1,b.2.2.1,b.2.2.2.1,b.2.2.2.2.1,b.2.2.2.2.2))))) :
  Pt (aE F (([]:List Kk),m.gL,m.ga,m.gE,m.gu,m.gt)) fun s=>GV m (VSs d s.1) ⟨s.2.1,s.2.2.1,s.2.2.2.1,s.2.2.2.2.1,s.2.2.2.2.2⟩:=by
 refine Pt.loop (fun s:List Kk×List KJ×Int×Int×Int×Int=>GV m (VSs d s.1) ⟨s.2.1,s.2.2.1,s.2.2.2.1,s.2.2.2.2.1,s.2.2.2.2.2⟩) ((GV.refl m).imp fun _=>.nil _) fun s hs=>?_;rw [hF];refine Pt.bind (P:=fun y:Bool×List KJ×Int×Int×Int×Int=>GV m (VSs d s.1) ⟨y.2.1,y.2.2.1,y.2.2.2.1,y.2.2.2.2.1,y.2.2.2.2.2⟩∧(y.1=true→s.2.2.2.1=0)) (Pt.cond (fun he=>Pt.bind (ja _ _) fun x hx=>Pt.ret ⟨hs.trans hx fun h _=>h,fun _=>by simpa using he⟩) fun _=>Pt.ret ⟨hs,fun h=>(by cases h)⟩) fun y hy=>Pt.cond (fun k=>?_) fun _=>Pt.ret hy.1;have i:=(hs.e (hy.2 k)).1;refine Pt.bind (hone hy.1.l hy.1.o i) fun x hx=>Pt.bind (P:=fun l=>l=s.1++[x.1]) (fun l e=>(sF e).1) fun l hl=>Pt.ret ?_;subst hl;exact hy.1.trans hx fun h1 h2=>oS h1 h2
def wopen {m:Km}{o:Nat}(ho:m.gt=(o:Int)){β:Type}{f:List KJ×Int×Int×Int×Int→Option β}{Q:β→Prop}(g:∀ y:List KJ×Int×Int×Int×Int,GV m (o+1≤24) ⟨y.1,y.2.1,y.2.2.1,y.2.2.2.1,y.2.2.2.2⟩→Pt (f y) Q) :
  Pt ((K9 m ([jv]:List η)).bind fun a=>(κ (α:=List KJ×Int×Int×Int×Int) (bif (decide ((24:Int)≤a.gt)) then ((lg a m.ga (5:Int)).bind fun b=>some (b.gL,b.ga,b.gE,b.gu,b.gt)) else some (a.gL,a.ga,a.gE,a.gu,a.gt)) f)) Q:=by
 refine Pt.bind (g8 m _) fun a h1=>Pt.bind (P:=fun y:List KJ×Int×Int×Int×Int=>GV m (o+1≤24) ⟨y.1,y.2.1,y.2.2.1,y.2.2.2.1,y.2.2.2.2⟩) (Pt.cond (fun _=>Pt.bind (jD (by decide)) fun r hr=>Pt.ret (h1.trans (.bad hr) (Q:=o+1≤24) fun _ h=>h)) fun k=>Pt.ret ((h1.imp fun _=>?_))) fun y hy=>g y hy;have:=a9 k;have:=h1.o;omega
def Lf:∀ N:Nat,(∀ (m:Km) (o:Nat),ij m.gL→m.gt=(o:Int)→o≤24→Pt ((SG N).1 m) fun r=>GV m (VS (24-o) r.1) r.2)∧(∀ (m:Km) (o:Nat),ij m.gL→m.gt=(o:Int)→o≤24→Pt ((SG N).2 m) fun r=>GV m (o+1≤24∧VSs (24-(o+1)) r.1) r.2)
 | 0=>⟨fun _ _ _ _ _ r e=>(by cases e),fun _ _ _ _ _ r e=>(by cases e)⟩
 |
  N+1=>by
  obtain ⟨iS,iB⟩:=Lf N;refine ⟨fun m o g ho p=>?_,fun m o g ho p=>?_⟩
  ·show Pt (sP (SG N).1 (SG N).2 m) _
   unfold sP;refine Pt.bind (mP g 0) fun t _=>Pt.cond (fun _=>Pt.bind (AF g _ _) fun x hx=>Pt.ret hx) fun _=>Pt.bind (ja m _) fun H u=>Pt.cond (fun _=>?_) fun _=>Pt.bind (ja _ _) fun A h2=>?_
   ·refine Pt.bind (li (u.gl g)) fun A h2=>Pt.bind (g8 _ _) fun w j=>?_
    have a:=(u.trans h2 fun _ h=>h).trans j fun h _=>h
    refine Pt.bind (ky (a.gl g)) fun q b=>Pt.bind (g8 _ _) fun k c=>Pt.ret ?_
    exact ((a.trans b J9).trans c fun h _=>h).imp fun h=>.store _ _ _ _ h.1 h.2
   have z:GV m True A.2:=u.trans h2 fun _ h=>h
   refine Pt.cond (fun _=>?_) fun _=>Pt.bind (ja _ _) fun w j=>?_
   ·refine Pt.bind (tv (z.gl g)) fun w j=>?_
    have a:=z.trans j fun _ h=>h
    refine Pt.bind (iB _ o (a.gl g) (a.o.trans ho) p) fun q b=>Pt.bind (ja _ _) fun k c=>?_
    have f:=(a.trans b J9).trans c fun h _=>h
    refine Pt.cond (fun _=>Pt.bind (iB _ o (f.gl g) (f.o.trans ho) p) fun B n=>Pt.ret ((f.trans n J9).imp fun h=>?_)) fun _=>Pt.ret (f.imp fun h=>?_)
    ·obtain ⟨⟨⟨e,he,ve⟩,h1,h2⟩,j,b⟩:=h;rw [he,show 24-o=(24-(o+1))+1 by omega];exact .ite _ _ _ _ _ ve h2 b
    obtain ⟨⟨e,he,ve⟩,h1,h2⟩:=h;rw [he,show 24-o=(24-(o+1))+1 by omega];exact .ite _ _ _ _ _ ve h2 (.nil _)
   have a:GV m True w.2:=z.trans j fun _ h=>h
   refine Pt.cond (fun _=>?_) fun _=>Pt.bind (ja _ _) fun q b=>?_
   ·refine Pt.bind (tv (a.gl g)) fun q b=>?_
    have i:=a.trans b fun _ h=>h
    refine Pt.bind (iB _ o (i.gl g) (i.o.trans ho) p) fun k c=>Pt.ret ((i.trans c J9).imp fun h=>?_)
    obtain ⟨⟨e,he,ve⟩,h1,h2⟩:=h;rw [he,show 24-o=(24-(o+1))+1 by omega];exact .loop _ _ _ _ ve h2
   have i:GV m True q.2:=a.trans b fun _ h=>h
   refine Pt.cond (fun _=>?_) fun _=>Pt.bind (ja _ _) fun k c=>?_
   ·refine Pt.bind (ky (i.gl g)) fun k c=>Pt.bind (g8 _ _) fun B n=>Pt.ret ?_
    exact ((i.trans c fun _ h=>h).trans n fun h _=>h).imp fun h=>.ret _ _ _ h
   have f:GV m True k.2:=i.trans c fun _ h=>h
   refine Pt.cond (fun _=>?_) fun _=>?_
   ·refine Pt.bind (tv (f.gl g)) fun B n=>Pt.bind (g8 _ _) fun I C=>Pt.ret ?_
    refine ((f.trans n fun _ h=>h).trans C fun h _=>h).imp fun h=>?_
    obtain ⟨e,he,ve⟩:=h;rw [he];exact .assert _ _ _ ve
   exact Pt.bind (jD (by decide)) fun r hr=>Pt.ret (f.trans (Q:=VS (24-o) _) (.bad hr) fun _ h=>h)
  show Pt (wx (SG N).1 (SG N).2 m) _
  unfold wx grammar_nothing;refine wopen ho fun y hy=>?_
  rw [δ];have hyo:=hy.o;simp only at hyo;have hw:ζ.wrap (y.2.2.2.2+1)=((o+1:Nat):Int):=by rw [hyo,ho,b1];omega
  refine Pt.bind (DV (m:=⟨y.1,y.2.1,y.2.2.1,y.2.2.2.1,ζ.wrap (y.2.2.2.2+1)⟩) (d:=24-(o+1)) (fun {r} hl hr he=>iS r (o+1) (by rw [hl];exact hy.gl g) (by rw [hr];exact hw) (hy.e he).2) (fun _=>rfl)) fun s hs=>Pt.ret ⟨hs.l.trans hy.l,?_,hs.v.trans hy.v,fun e=>?_⟩
  ·have:=hs.o;simp only at this ⊢;rw [this,hw,ho,b1];omega
  obtain ⟨F,h1⟩:=hs.e e;obtain ⟨G,h2⟩:=hy.e F;exact ⟨G,h2,h1⟩
def DT {m:Km}{o:Nat}(g:ij m.gL)(ho:m.gt=(o:Int))(a:o≤24):Pt (wo m) fun r=>GV m (VS (24-o) r.1) r.2:=fun r e=>by
 obtain ⟨n,hn⟩:=kq e;exact (Lf n).1 m o g ho a r hn
def xd {m:Km}(g:ij m.gL)(f:KC)(hf:f.gi=[]):Pt (y7 f m) fun r=>GW m r.2.gi r.1∧r.2.gb=f.gb∧r.2.gh=f.gh:=by
 unfold y7;refine Pt.bind (P:=fun s:List KJ×Int×Int×Int×Int×List KZ=>GW m s.2.2.2.2.2 ⟨s.1,s.2.1,s.2.2.1,s.2.2.2.1,s.2.2.2.2.1⟩) ?_ fun s hs=>Pt.ret ⟨hs,rfl,rfl⟩;refine Pt.loop (fun s:List KJ×Int×Int×Int×Int×List KZ=>GW m s.2.2.2.2.2 ⟨s.1,s.2.1,s.2.2.1,s.2.2.2.1,s.2.2.2.2.1⟩) (by simp only;rw [hf];exact (GV.refl m).w) fun s hs=>?_;refine Pt.bind Pt.any fun b _=>Pt.cond (fun _=>Pt.bind (DS (m:=⟨s.1,s.2.1,s.2.2.1,s.2.2.2.1,s.2.2.2.2.1⟩) (hs.gl g)) fun x hx=>Pt.bind (P:=fun l=>l=s.2.2.2.2.2++[x.1]) (fun l e=>(sF e).1) fun l hl=>Pt.bind (g8 _ _) fun y hy=>Pt.ret ?_) fun _=>Pt.ret hs;subst hl;exact (hs.trans hx).gv hy
def rA {m:Km}(g:ij m.gL)(ho:m.gt=0)(hv:m.gu=0):Pt (w9 m) fun r=>r.2.gE=0→NmOK r.1.gb∧(∀ v∈r.1.gh,NmOK v.gb)∧(∀ v∈r.1.gi,NmOK v.gb)∧r.1.gh.length+r.1.gi.length≤16∧VSs 23 r.1.gx:=by
 unfold w9;refine Pt.bind (mP g 0) fun t _=>Pt.bind (g8 m _) fun L h1=>Pt.bind (li (h1.gl g)) fun x h2=>?_;have n:=h1.trans h2 fun _ h=>h;refine Pt.bind (AG (n.gl g)) fun c p=>?_;have f:=n.w.trans p;rw [a8] at f;refine Pt.bind (P:=fun a:List Kk×Km×KC=>a.2.1.gE=0→c.2.gE=0∧a.2.2.gb=x.1∧a.2.2.gh=c.1∧GW m (c.1++a.2.2.gi) ⟨a.2.1.gL,a.2.1.ga,a.2.1.gE,((c.1++a.2.2.gi).length:Int),0⟩∧(c.1++a.2.2.gi).length≤16∧VSs 23 a.1) ?_ fun a A=>?_;unfold wq;have q:c.2.gt=((0:Nat):Int):=f.o.trans ho;refine wopen q fun y hy=>?_;have hyo:=hy.o;simp only at hyo;have hw:ζ.wrap (y.2.2.2.2+1)=((1:Nat):Int):=by rw [hyo,q,b1];omega
 refine Pt.bind (xd (m:=⟨y.1,y.2.1,y.2.2.1,y.2.2.2.1,ζ.wrap (y.2.2.2.2+1)⟩) (hy.gl (f.gl g)) _ rfl) fun z hz=>?_;obtain ⟨hz,z1,B⟩:=hz;have zo:=hz.o;simp only at zo;refine Pt.bind (DV (m:=z.1) (d:=23) (fun {r} hl hr he=>DT (o:=1) (by rw [hl];exact hz.gl (hy.gl (f.gl g))) (by rw [hr,zo];exact hw) (by omega)) (fun _=>rfl)) fun s hs=>Pt.ret fun e=>?_;obtain ⟨i,C⟩:=hs.e e;obtain ⟨j,F,u⟩:=hz.e i;obtain ⟨k,M⟩:=hy.e j;obtain ⟨G,H,I⟩:=f.e k;simp only at i j k u;obtain ⟨c1,c2⟩:=I (by omega) (by omega);have hyv:=hy.v;simp only at hyv;obtain ⟨c3,c4⟩:=u (by rw [hyv];omega) (by rw [hyv];exact c2);have cnt:(c.1++z.2.gi).length≤16:=by rw [υ];omega
 refine ⟨k,z1,B,⟨?_,?_,fun _=>⟨G,fun v hv'=>?_,fun _ _=>⟨?_,?_⟩⟩⟩,cnt,C⟩;exact (hs.l.trans hz.l).trans (hy.l.trans f.l);exact ho.symm;rcases dC.1 hv' with h|h;exact H v h;exact F v h;simp only;omega;simp only;omega;have fin:a.2.1.gE=0→NmOK a.2.2.gb∧(∀ v∈a.2.2.gh,NmOK v.gb)∧(∀ v∈a.2.2.gi,NmOK v.gb)∧a.2.2.gh.length+a.2.2.gi.length≤16∧VSs 23 a.1:=fun e=>by obtain ⟨i,J,n2,K,n4,n5⟩:=A e;obtain ⟨_,n6,_⟩:=K.e e;obtain ⟨j,_,_⟩:=p.e i;rw [J,n2];rw [υ] at n4;exact ⟨(h2.e j).2,fun v hv=>n6 v (by simp [hv]),fun v hv=>n6 v (by simp [hv]),n4,n5⟩
 refine Pt.bind Pt.any fun b _=>Pt.cond (fun _=>Pt.bind (jD (by decide)) fun r hr=>Pt.ret fun e=>bH e hr.2.2.2) fun _=>Pt.ret fin
def zw {A:Type}{b:List aC}{none_:A}{of:List KJ→Int→Option (A×Int×Int)}{P:A→Prop}(hof:∀ l:List KJ,ij l→Pt (of l 0) fun r=>r.2.2=0→P r.1) :
  Pt ((wg b).bind fun a=>(bif (a.2.2 != (0:Int)) then some (none_,a.2.1,a.2.2) else ((of a.1 (0:Int)).bind fun c=>((idx a.1 (min c.2.1 (ζ.wrap ((a.1.length:Int)-(1:Int))))).bind fun d=>(bif (c.2.2 != (0:Int)) then some (none_,d.ga,c.2.2) else (bif (d.gp != (0:Int)) then some (none_,d.ga,(3:Int)) else some (c.1,(0:Int),(0:Int)))))))) fun r=>r.2.2=0→P r.1:=by
 refine Pt.bind (DW b) fun x hx=>Pt.cond (fun e=>Pt.ret fun h=>?_) fun e=>Pt.bind (hof x.1 (hx (by simpa using e))) fun y hy=>Pt.bind Pt.any fun t _=>Pt.cond (fun e=>Pt.ret fun h=>?_) fun e=>Pt.cond (fun _=>Pt.ret (fun h=>by cases h)) fun _=>Pt.ret fun _=>hy (by simpa using e);simp at e;exact bH h e;simp at e;exact bH h e
def AI (b:List aC):Pt (y3 b) fun r=>r.2.2=0→NmOK r.1.gb∧(∀ v∈r.1.gh,NmOK v.gb)∧(∀ v∈r.1.gi,NmOK v.gb)∧r.1.gh.length+r.1.gi.length≤16∧VSs 23 r.1.gx:=by
 unfold y3 F0;refine Pt.bind (zw (P:=fun f=>NmOK f.gb∧(∀ v∈f.gh,NmOK v.gb)∧(∀ v∈f.gi,NmOK v.gb)∧f.gh.length+f.gi.length≤16∧VSs 23 f.gx) fun l g=>?_) fun x hx=>Pt.ret hx;unfold As td;refine Pt.bind (P:=fun r:Km×Bool=>r.1=⟨l,0,0,0,0⟩) (Pt.cond (fun _=>Pt.ret rfl) fun _=>Pt.ret rfl) fun x hx=>Pt.cond (fun _=>Pt.ret fun h=>by cases h) fun _=>?_;rw [hx];refine Pt.bind (rA g rfl rfl) fun r hr=>Pt.cond (fun e=>Pt.ret fun h=>?_) fun e=>Pt.ret fun _=>hr (by simpa using e);simp at e;exact bH h e
def xe {m:Km}(g:ij m.gL):Pt (DB m) fun r=>r.2.gE=0→VG r.1:=by
 unfold DB;refine Pt.bind (mP g 0) fun t _=>Pt.bind (g8 m _) fun n h1=>Pt.bind (ja _ _) fun c h2=>?_;have d:=h1.trans h2 fun _ h=>h;refine Pt.bind (li (d.gl g)) fun a i=>?_;have f:=d.trans i fun _ h=>h;refine Pt.bind (P:=fun y:Bool×List KJ×Int×Int×Int×Int=>GV m (NmOK a.1) ⟨y.2.1,y.2.2.1,y.2.2.2.1,y.2.2.2.2.1,y.2.2.2.2.2⟩∧(c.1=true→y.1=false)) (Pt.cond (fun k=>Pt.bind (ja _ _) fun x hx=>Pt.ret ⟨f.trans hx fun h _=>h,fun h=>?_⟩) fun _=>Pt.ret ⟨f,fun _=>rfl⟩) fun y hy=>?_;rw [h] at k;cases k;refine Pt.bind (P:=fun z:List KJ×Int×Int×Int×Int×Int=>GV m (NmOK a.1) ⟨z.1,z.2.1,z.2.2.1,z.2.2.2.1,z.2.2.2.2.1⟩∧(c.1=true→z.2.2.2.2.2=0)∧0≤z.2.2.2.2.2∧z.2.2.2.2.2≤1000) (Pt.cond (fun k=>?_) fun _=>Pt.ret ⟨hy.1,fun _=>rfl,by simp,by simp⟩) fun z hz=>Pt.bind (g8 _ _) fun r hr=>Pt.ret fun e=>?_;have j:c.1=true→False:=fun h=>by rw [hy.2 h] at k;cases k
 refine Pt.bind (mP (m:=⟨y.2.1,y.2.2.1,y.2.2.2.1,y.2.2.2.2.1,y.2.2.2.2.2⟩) (hy.1.gl g) 0) fun t _=>Pt.bind (P:=fun z:List KJ×Int×Int×Int×Int×Int=>GV m (NmOK a.1) ⟨z.1,z.2.1,z.2.2.1,z.2.2.2.1,z.2.2.2.2.1⟩∧0≤z.2.2.2.2.2∧z.2.2.2.2.2≤1000) (Pt.bind (P:=fun z:List KJ×Int×Int×Int×Int×Int=>GV m (NmOK a.1) ⟨z.1,z.2.1,z.2.2.1,z.2.2.2.1,z.2.2.2.2.1⟩∧0≤z.2.2.2.2.2∧z.2.2.2.2.2≤1000) (Pt.cond (fun _=>?_) fun _=>?_) fun z hz=>Pt.ret hz) fun z hz=>Pt.bind (g8 _ _) fun r hr=>Pt.ret ⟨hz.1.trans hr fun h _=>h,fun h=>(j h).elim,hz.2⟩;exact Pt.bind (jD (by decide)) fun r hr=>Pt.ret ⟨hy.1.trans (Q:=True) (.bad hr) fun h _=>h,by simp,by simp⟩;refine Pt.bind (P:=fun b=>b=false→1≤t.gN∧t.gN≤1000) (Pt.cond (fun _=>Pt.ret (by simp)) fun k1=>Pt.ret fun k2=>?_) fun b hb=>Pt.bind (P:=fun z:List KJ×Int×Int×Int×Int×Int=>GV m (NmOK a.1) ⟨z.1,z.2.1,z.2.2.1,z.2.2.2.1,z.2.2.2.2.1⟩∧0≤z.2.2.2.2.2∧z.2.2.2.2.2≤1000) (Pt.cond (fun _=>?_) fun k=>Pt.ret ⟨⟨hy.1.l,hy.1.o,hy.1.v,hy.1.e⟩,?_⟩) fun z hz=>Pt.ret hz;have:=a9 k1;have:=a9 k2;omega;exact Pt.bind (jD (by decide)) fun r hr=>Pt.ret ⟨hy.1.trans (Q:=True) (.bad hr) fun h _=>h,by simp,by simp⟩;obtain ⟨p,n2⟩:=hb k;show 0≤t.gN∧t.gN≤1000;omega;exact ⟨(hz.1.e (hr.e e).1).2,hz.2.1,hz.2.2.1,hz.2.2.2⟩
def tE (b:List aC):Pt (CJ b) fun r=>r.2.2=0→VG r.1:=by
 unfold CJ H5;refine Pt.bind (zw (P:=VG) fun l g=>?_) fun x hx=>Pt.ret hx;unfold Av td;refine Pt.bind (P:=fun r:Km×Bool=>r.1=⟨l,0,0,0,0⟩) (Pt.cond (fun _=>Pt.ret rfl) fun _=>Pt.ret rfl) fun x hx=>Pt.cond (fun _=>Pt.ret fun h=>by cases h) fun _=>?_;rw [hx];refine Pt.bind (xe g) fun r hr=>Pt.cond (fun e=>Pt.ret fun h=>?_) fun e=>Pt.ret fun _=>hr (by simpa using e);simp at e;exact bH h e
end
section
open Go
abbrev dl (b:η):List aC:=b.data.toList
def BB (a b:η):dl (a++b)=dl a++dl b:=by show (a++b).data.toList=_;rw [ByteArray.data_append,Array.toList_append]
def mm (a:η):(dl a).length=a.size:=by show a.data.toList.length=a.data.size;rw [b9]
def T.cat {a b:η}{x y:List aC}(ha:dl a=x)(hb:dl b=y)(h:x.length+y.length≤100000000000000):T (bD a b) fun r=>dl r=x++y:=by
 have h1:=mm a;have h2:=mm b;rw [ha] at h1;rw [hb] at h2;exact T.eq (yE (by omega)) (by rw [BB,ha,hb])
def vJ:∀ (k u:Nat),u<10 ^ (k+1)→(d8 u).length≤k+1
 | 0,u,h=>by rw [d8,ft (by omega)];simp
 |
  k+1,u,h=>by
  rw [d8];by_cases h1:u<10
  ·rw [ft h1];simp
  rw [ia h1];have:=vJ k (u/10) (by rw [Nat.pow_succ] at h;omega);simp only [υ,aW];omega
def Fe {n:Int}(a:0≤n)(h1:n≤9223372036854775807):(dl (itoaB n)).length≤20:=by
 show (itoaB n).data.toList.length≤20;rw [Ff a];exact vJ 19 _ (by
  have:n.toNat≤9223372036854775807:=by omega
  omega)
def cN (s:η)(l:List Pc):(aK (mk s::l)).length=(dl s).length+(aK l).length:=by simp [p6,Pc.txt]
def g9 (s:η)(l:List Pc):(aK (nm s::l)).length=(dl s).length+(aK l).length:=by simp [p6,Pc.txt]
def zD (n:Int)(l:List Pc):(aK (nb n::l)).length=(dl (itoaB n)).length+(aK l).length:=by simp [p6,Pc.txt]
def eY (c:aC)(l:List Pc):(aK (.sp c::l)).length=1+(aK l).length:=by simp [p6,Pc.txt];omega
def iN (a b:List Pc):(aK (a++b)).length=(aK a).length+(aK b).length:=by rw [mz,υ]
def jU:(aK []).length=0:=rfl
def sX (k:Nat)(x:Nat×List Pc):(aK (nL k x)).length≤(aK x.2).length+2:=by
 unfold nL;split;rw [cN,iN,cN,jU];show 1+((aK x.2).length+(1+0))≤_;omega;omega
def NmOK.len {s:η}(h:NmOK s):(dl s).length≤20:=h.al.le
def lS (op:Int):(dl (xC op)).length≤2:=by
 unfold xC;repeat' split
 all_goals decide
def iV {e:Kf}(h:VE e):(aK (pE e)).length≤25*szE e:=by
 induction h with
 | num n a b h1=>show (aK [nb n]).length≤25*szE _;rw [zD,jU,mX];have:=Fe b h1;omega
 | var s a h=>show (aK [nm s]).length≤25*szE _;rw [g9,jU,mX];have:=h.len;omega
 | null a=>rw [mX];show 4≤_;omega
 | load s a h=>show (aK [mk ⟨#[42]⟩,nm s]).length≤25*szE _;rw [cN,g9,jU,mX];have:=h.len;show 1+_≤_;omega
 | addr s a h=>show (aK [mk ⟨#[38]⟩,nm s]).length≤25*szE _;rw [cN,g9,jU,mX];have:=h.len;show 1+_≤_;omega
 |
  index s k a h _ ih=>
  show (aK (nm s::mk ⟨#[91]⟩::(pE k++[mk ⟨#[93]⟩]))).length≤_
  rw [g9,cN,iN,cN,jU,kD];have:=h.len;simp only [b7];show _+(1+(_+(1+0)))≤_;omega
 |
  addrAt s k a h _ ih=>
  show (aK (mk ⟨#[38]⟩::nm s::mk ⟨#[91]⟩::(pE k++[mk ⟨#[93]⟩]))).length≤_
  rw [cN,g9,cN,iN,cN,jU,kD];have:=h.len;simp only [b7];show 1+(_+(1+(_+(1+0))))≤_;omega
 |
  neg k a _ ih=>
  show (aK (mk ⟨#[45]⟩::oG 6 k)).length≤_
  rw [cN,kD];have:=sX 6 (lev k.gj,pE k);simp only [b7];show 1+(aK (nL 6 (lev k.gj,pE k))).length≤_
  simp only at this;omega
 |
  not k a _ ih=>
  show (aK (mk ⟨#[33]⟩::oG 6 k)).length≤_
  rw [cN,kD];have:=sX 6 (lev k.gj,pE k);simp only [b7];show 1+(aK (nL 6 (lev k.gj,pE k))).length≤_
  simp only at this;omega
 |
  bin op l r a hl _ _ c d=>
  rw [pw hl,iN,eY,cN,eY,kD];have h1:(aK (oG (lev op) l)).length≤(aK (pE l)).length+2:=sX _ _;have h2:(aK (oG (lev op+1) r)).length≤(aK (pE r)).length+2:=sX _ _;have:=lS op;simp only [b7]
  omega
def qo (op:Int):sK op=some (xC op,(lev op:Int),decide (lev op<6)):=by
 have key:∀ k:Int,op=k→sK k=some (xC k,(lev k:Int),decide (lev k<6))→sK op=some (xC op,(lev op:Int),decide (lev op<6)):=fun k e h=>by rw [e];exact h
 by_cases h:lev op<6;rcases Kid h with h|h|h|h|h|h|h|h|h|h|h<;>exact key _ h rfl;have hn:op≠7∧op≠8∧op≠9∧op≠10∧op≠11∧op≠12∧op≠13∧op≠14∧op≠15∧op≠16∧op≠17:=by refine ⟨?_,?_,?_,?_,?_,?_,?_,?_,?_,?_,?_⟩<;>(intro e;subst e;exact h (by decide))
 have d:lev op=6:=by have:=u7 ⟨op,0,ε,[],0⟩;simp only at this;omega
 obtain ⟨a,n2,b,n4,n5,n6,n7,n8,n9,n10,n11⟩:=hn;rw [d];have f:∀ c:Int,op≠c→(op==c)=false:=fun c h=>beq_eq_false_iff_ne.2 h;unfold sK xC;rw [f 7 a,f 8 n2,f 9 b,f 10 n4,f 11 n5,f 12 n6,f 13 n7,f 14 n8,f 15 n9,f 16 n10,f 17 n11,aF a,aF n2,aF b,aF n4,aF n5,aF n6,aF n7,aF n8,aF n9,aF n10,aF n11];rfl
def uU {op:Int}(h:lev op<6):Aq op=some 2:=by
 rcases Kid h with rfl|rfl|rfl|rfl|rfl|rfl|rfl|rfl|rfl|rfl|rfl<;>rfl
abbrev EG (N:Nat):=KaQ N
def Li:∀ N:Nat,(∀ e,VE e→szE e≤1048576→2*dpE e≤N→T ((EG N).1 e) fun r=>dl r=aK (pE e))∧(∀ e (k:Nat),VE e→k≤6→szE e≤1048576→2*dpE e+1≤N→T ((EG N).2 e (k:Int)) fun r=>dl r=aK (oG k e))
 | 0=>⟨fun e _ _ h=>by have:=kS e;omega,fun e k _ _ _ h=>by omega⟩
 |
  N+1=>by
  obtain ⟨iE,iK⟩:=Li N;refine ⟨fun e h hs hN=>?_,fun e k h hk hs hN=>?_⟩
  ·show T (Cz (EG N).1 (EG N).2 e) _
   have hlen:=iV h;have hsz:=la e;have hdp:=kS e;unfold Cz;cases h with
   |
    num n a t h1=>
    rw [show Aq 1=some 0 from rfl,δ];refine T.cond (fun h=>by cases h) fun _=>?_
    rw [show sK 1=some (ν #[],6,false) from rfl,δ];show T ((need (yM n)).bind fun A=>some (itoaB n)) _
    have:yM n=true:=by simp [yM];omega
    rw [this];exact T.ret (by simp [aK,pE,k6,rE,Pc.txt])
   | var s a h=>exact T.ret (by simp [aK,pE,k6,rE,Pc.txt])
   | null a=>exact T.ret (by simp [aK,pE,k6,rE,Pc.txt])
   |
    load s a h=>
    show T ((bD gZ s).bind fun x=>some x) _
    exact T.bind (T.cat (x:=[42]) rfl rfl (by have:=h.len;simp [dl] at this ⊢;omega)) fun r hr=>T.ret (by simpa [aK,pE,k6,rE,Pc.txt] using hr)
   |
    addr s a h=>
    show T ((bD jG s).bind fun x=>some x) _
    exact T.bind (T.cat (x:=[38]) rfl rfl (by have:=h.len;simp [dl] at this ⊢;omega)) fun r hr=>T.ret (by simpa [aK,pE,k6,rE,Pc.txt] using hr)
   |
    index s k a h hk=>
    have hkl:=iV hk;have hsk:szE k≤1048576:=by simp only [b7] at hsz;omega
    have hnl:=h.len;simp only [dS] at hdp;rw [show Aq 3=some 1 from rfl,δ];refine T.cond (fun h=>by cases h) fun _=>?_
    rw [show sK 3=some (ν #[],6,false) from rfl,δ];iterate 6 refine T.cond (fun h=>by cases h) fun _=>?_
    refine T.cond (fun _=>?_) fun h=>by cases h
    show T ((bD s eH).bind fun o=>((idx [k] (0:Int)).bind fun d=>(((EG N).1 d).bind fun f=>((bD o f).bind fun g=>((bD g eO).bind fun p=>some p))))) _
    refine T.bind (T.cat (y:=[91]) rfl rfl (by simp only [aW];omega)) fun q h1=>?_
    refine T.bind (P:=fun x=>x=k) (T.ret rfl) fun x hx=>?_
    subst hx;refine T.bind (iE x hk hsk (by omega)) fun i h2=>T.bind (T.cat h1 h2 (by simp only [υ,aW];omega)) fun m c=>T.bind (T.cat (y:=[93]) c rfl (by simp only [υ,aW];omega)) fun u j=>T.ret ?_
    rw [j];simp [aK,pE,k6,rE,Pc.txt]
   |
    addrAt s k a h hk=>
    have hkl:=iV hk;have hsk:szE k≤1048576:=by simp only [b7] at hsz;omega
    have hnl:=h.len;simp only [dS] at hdp;rw [show Aq 20=some 1 from rfl,δ];refine T.cond (fun h=>by cases h) fun _=>?_
    rw [show sK 20=some (ν #[],6,false) from rfl,δ];iterate 7 refine T.cond (fun h=>by cases h) fun _=>?_
    refine T.cond (fun _=>?_) fun h=>by cases h
    show T ((bD jG s).bind fun v=>((bD v eH).bind fun o=>((idx [k] (0:Int)).bind fun d=>(((EG N).1 d).bind fun f=>((bD o f).bind fun g=>((bD g eO).bind fun p=>some p)))))) _
    refine T.bind (T.cat (x:=[38]) rfl rfl (by simp only [aW];omega)) fun B t=>T.bind (T.cat (y:=[91]) t rfl (by simp only [υ,aW];omega)) fun q h1=>?_
    refine T.bind (P:=fun x=>x=k) (T.ret rfl) fun x hx=>?_
    subst hx;refine T.bind (iE x hk hsk (by omega)) fun i h2=>T.bind (T.cat h1 h2 (by simp only [υ,aW];omega)) fun m c=>T.bind (T.cat (y:=[93]) c rfl (by simp only [υ,aW];omega)) fun u j=>T.ret ?_
    rw [j];simp [aK,pE,k6,rE,Pc.txt]
   |
    neg k a hk=>
    have hkl:=iV hk;have hsk:szE k≤1048576:=by simp only [b7] at hsz;omega
    simp only [dS] at hdp;rw [show Aq 5=some 1 from rfl,δ];refine T.cond (fun h=>by cases h) fun _=>?_
    rw [show sK 5=some (ν #[],6,false) from rfl,δ];iterate 8 refine T.cond (fun h=>by cases h) fun _=>?_
    refine T.cond (fun _=>?_) fun h=>by cases h
    show T ((idx [k] (0:Int)).bind fun d=>(((EG N).2 d (6:Int)).bind fun f=>((bD f6 f).bind fun g=>some g))) _
    refine T.bind (P:=fun x=>x=k) (T.ret rfl) fun x hx=>?_
    subst hx;have h2:(aK (oG 6 x)).length≤(aK (pE x)).length+2:=sX _ _;refine T.bind (iK x 6 hk (by omega) hsk (by omega)) fun i h2=>T.bind (T.cat (x:=[45]) rfl h2 (by simp only [aW];omega)) fun m c=>T.ret ?_
    rw [c];simp [aK,pE,k6,rE,Pc.txt]
   |
    not k a hk=>
    have hkl:=iV hk;have hsk:szE k≤1048576:=by simp only [b7] at hsz;omega
    simp only [dS] at hdp;rw [show Aq 6=some 1 from rfl,δ];refine T.cond (fun h=>by cases h) fun _=>?_
    rw [show sK 6=some (ν #[],6,false) from rfl,δ];iterate 9 refine T.cond (fun h=>by cases h) fun _=>?_
    refine T.cond (fun _=>?_) fun h=>by cases h
    show T ((idx [k] (0:Int)).bind fun d=>(((EG N).2 d (6:Int)).bind fun f=>((bD kc f).bind fun g=>some g))) _
    refine T.bind (P:=fun x=>x=k) (T.ret rfl) fun x hx=>?_
    subst hx;have h2:(aK (oG 6 x)).length≤(aK (pE x)).length+2:=sX _ _;refine T.bind (iK x 6 hk (by omega) hsk (by omega)) fun i h2=>T.bind (T.cat (x:=[33]) rfl h2 (by simp only [aW];omega)) fun m c=>T.ret ?_
    rw [c];simp [aK,pE,k6,rE,Pc.txt]
   |
    bin op l r a ho hl hr=>
    simp only [dS] at hdp;simp only [b7] at hsz;rw [uU ho,δ];refine T.cond (fun h=>by simp at h) fun _=>?_
    rw [qo op,δ,Ξ ho];refine T.cond (fun _=>?_) fun h=>by cases h
    refine T.bind (P:=fun x=>x=l) (T.ret rfl) fun x hx=>?_
    subst hx;have C:(aK (oG (lev op) x)).length≤(aK (pE x)).length+2:=sX _ _;have F:(aK (oG (lev op+1) r)).length≤(aK (pE r)).length+2:=sX _ _;have G:=lS op;have H:=iV hl;have I:=iV hr
    refine T.bind (iK x (lev op) hl (by omega) (by omega) (by omega)) fun q h1=>T.bind (T.cat (y:=[32]) h1 rfl (by simp only [aW];omega)) fun i h2=>T.bind (T.cat h2 rfl (by simp only [υ,aW];omega)) fun m c=>T.bind (T.cat (y:=[32]) c rfl (by simp only [υ,aW];omega)) fun u j=>T.bind (P:=fun x=>x=r) (T.ret rfl) fun y hy=>?_
    subst hy;have hw:ζ.wrap ((lev op:Int)+1)=((lev op+1:Nat):Int):=wn (by omega);show T ((KaQ N).2 y (ζ.wrap ((lev op:Int)+1)) |>.bind _) _
    rw [hw];refine T.bind (iK y (lev op+1) hr (by omega) (by omega) (by omega)) fun J w=>T.bind (T.cat j w (by simp only [υ,aW];omega)) fun K z=>T.ret ?_
    rw [z,pw ho];simp [aK,Pc.txt]
  show T (Ch (EG N).1 (EG N).2 e (k:Int)) _
  have hlen:=iV h;unfold Ch;refine T.bind (iE e h hs (by omega)) fun r hr=>?_
  rw [qo,δ];refine T.bind (P:=fun b=>b=decide (lev e.gj<k)) (T.cond (fun _=>T.ret (by simp)) fun h=>T.ret ?_) fun b hb=>?_
  ·have:=a9 h;exact (Δ (by omega)).symm
  subst hb;refine T.cond (fun h=>?_) fun h=>T.ret ?_
  ·refine T.bind (T.cat (x:=[40]) rfl hr (by simp only [aW];omega)) fun q h1=>T.bind (T.cat (y:=[41]) h1 rfl (by simp only [υ,aW];omega)) fun i h2=>T.ret ?_
   rw [h2];show _=aK (nL k (lev e.gj,pE e))
   rw [zV (aY h)];simp [aK,Pc.txt]
  show dl r=aK (nL k (lev e.gj,pE e))
  rw [vh (by have:=a9 h;simp only;omega)];exact hr
def zN {e:Kf}(h:VE e)(hs:szE e≤1048576):T (mK e) fun r=>dl r=aK (pE e):=by
 obtain ⟨r,h1,h2⟩:=(Li (2*dpE e)).1 e h hs (Φ _);exact ⟨r,OS _ _ h1,h2⟩
end
section
open Go
def T.each {σ τ β:Type}{f:σ→Option (Step σ τ)}{Post:τ→Prop}(l:List β)(I:List β→σ→Prop){s:σ}(a:I [] s)(h1:∀ pre x post s,l=pre++x::post→I pre s→T (f s) fun r=>∃ s',r=.next s'∧I (pre++[x]) s')(h2:∀ s,I l s→T (f s) fun r=>∃ t,r=.done t∧Post t):T (aE f s) Post:=by
 have key:∀ (post pre:List β) (s:σ),l=pre++post→I pre s→T (aE f s) Post:=by
  intro post;induction post with
  |
   nil=>
   intro pre s h hi;rw [aN] at h;subst h;obtain ⟨r,e,t,rfl,ht⟩:=h2 s hi;exact T.eq (K0 e) ht
  |
   cons x post ih=>
   intro pre s h hi;obtain ⟨r,e,s',rfl,hs⟩:=h1 pre x post s h hi;rw [ig e];exact ih (pre++[x]) s' (by simp [h]) hs
 exact key l [] s rfl a
def T.next {σ τ:Type}{P:σ→Prop}{s:σ}(h:P s):T (some (Step.next s:Step σ τ)) fun r=>∃ s',r=.next s'∧P s':=T.ret ⟨s,rfl,h⟩
def T.done {σ τ:Type}{P:τ→Prop}{t:τ}(h:P t):T (some (Step.done t:Step σ τ)) fun r=>∃ t',r=.done t'∧P t':=T.ret ⟨t,rfl,h⟩
def kh {β:Type}{l pre:List β}{x:β}{post:List β}(h:l=pre++x::post):idx l (pre.length:Int)=some x:=by rw [h];exact iX _ _ _
def BZ {β:Type}{l pre:List β}{x:β}{post:List β}(h:l=pre++x::post):pre.length<l.length:=by subst h;simp
def Me:∀ L:List (List Pc),aK (jm L)=Lib.join (L.map aK) [44,32]
 | []=>rfl
 | [x]=>by rw [List.map_singleton,Lib.join_one];rfl
 |
  x::y::l=>by
  have ih:=Me (y::l);simp only [a7] at ih ⊢;rw [Lib.join_cons] at ih ⊢;show aK (x++(mk ⟨#[44]⟩::.sp 32::jm (y::l)))=_
  rw [mz,p6,p6,ih];simp [Lib.joinTail,Pc.txt]
def Js:∀ L:List (List Pc),(aK (jm L)).length≤2*L.length+(L.map fun x=>(aK x).length).sum
 | []=>Φ _
 | [x]=>by simp [jm]
 |
  x::y::l=>by
  have ih:=Js (y::l);show (aK (x++(mk ⟨#[44]⟩::.sp 32::jm (y::l)))).length≤_
  rw [iN,cN,eY];simp only [a7,List.sum_cons,Ψ] at ih ⊢;show _+(1+(1+_))≤_
  omega
def qH {out:List η}{L:List (List Pc)}(h:out.map dl=L.map aK)(h1:L.length≤1048576)(h2:(aK (jm L)).length≤100000000000):T ((need (BH out je)).bind fun a=>some (jj out je)) fun r=>dl r=aK (jm L):=by
 have e:dl (jj out je)=aK (jm L):=by rw [Me,← h];rfl
 have hl:out.length=L.length:=by simpa using a6 fc h
 have ok:BH out je=true:=by have:=mm (jj out je);rw [e] at this;simp only [BH,aR,bJ];omega
 rw [ok];exact T.ret e
def Cp {l:List Kf}(hv:∀ e∈l,VX e):(aK (jm (l.map pE))).length≤27*b7 l:=by
 have:=Js (l.map pE);have hl:=p5 l;have h2:((l.map pE).map fun x=>(aK x).length).sum≤25*b7 l:=by
  clear hl this;induction l with
  | nil=>simp
  |
   cons e l ih=>
   have:=ih (fun e he=>hv e (by simp [he]));have:=iV (hv e (by simp)).1;simp only [a7,List.sum_cons,b7];omega
 rw [b6] at this;omega
def n0 {l:List Kf}(hv:∀ e∈l,VX e)(hs:b7 l≤1048576):T (H8 l) fun r=>dl r=aK (jm (l.map pE)):=by
 have hl:=p5 l;unfold H8;refine T.bind (P:=fun out=>out.map dl=(l.map pE).map aK) (T.each l (fun pre s=>s.1.map dl=(pre.map pE).map aK∧s.2=(pre.length:Int)) ⟨rfl,rfl⟩ (fun pre x post s e hi=>?_) fun s hi=>?_) fun out ho=>qH ho (by simp;omega) ?_;obtain ⟨h1,h2⟩:=hi;obtain ⟨a,b⟩:=s;simp only at h1 h2;subst h2;have hlp:=BZ e;have hlen:a.length=pre.length:=by simpa using a6 fc h1
 have hx:=wM (iW e);rw [fL e,ξ,kh e,δ];refine T.bind (zN (hv x (iW e)).1 (by omega)) fun r hr=>?_;rw [h9 (by omega) (by simp;omega),δ];refine T.next ⟨by simp [h1,hr],?_⟩;show ζ.wrap _=_;rw [fK e (by omega)];simp;obtain ⟨h1,h2⟩:=hi;rw [h2,jR,θ];exact T.done h1;have:=Cp hv;omega
def tG {v:KZ}(h:NmOK v.gb):T (FO v) fun r=>dl r=aK (pV v):=by
 have hl:=h.len;unfold FO pV;refine T.cond (fun hp=>?_) fun hp=>?_;rw [hp];exact T.bind (T.cat (x:=[105,110,116,32,42]) rfl rfl (by simp only [Ψ,aB];omega)) fun r hr=>T.ret (by rw [hr];simp [aK,Pc.txt]);rw [hp];exact T.bind (T.cat (x:=[105,110,116,32]) rfl rfl (by simp only [Ψ,aB];omega)) fun r hr=>T.ret (by rw [hr];simp [aK,Pc.txt])
def kK {v:KZ}(h:NmOK v.gb):(aK (pV v)).length≤25:=by
 have hl:=h.len;unfold pV;rw [cN,eY];split;rw [cN,g9,jU];show 3+(1+(1+_))≤_;omega;rw [g9,jU];show 3+(1+_)≤_;omega
def HK {l:List KZ}(hv:∀ v∈l,NmOK v.gb):(aK (jm (l.map pV))).length≤27*l.length:=by
 have:=Js (l.map pV);have h2:((l.map pV).map fun x=>(aK x).length).sum≤25*l.length:=by
  clear this;induction l with
  | nil=>simp
  |
   cons e l ih=>
   have:=ih (fun e he=>hv e (by simp [he]));have:=kK (hv e (by simp));simp only [a7,List.sum_cons,Ψ];omega
 rw [b6] at this;omega
def vC {l:List KZ}(hv:∀ v∈l,NmOK v.gb)(hs:l.length≤1000):T (H6 l) fun r=>dl r=aK (jm (l.map pV)):=by
 unfold H6;refine T.bind (P:=fun out=>out.map dl=(l.map pV).map aK) (T.each l (fun pre s=>s.1.map dl=(pre.map pV).map aK∧s.2=(pre.length:Int)) ⟨rfl,rfl⟩ (fun pre x post s e hi=>?_) fun s hi=>?_) fun out ho=>qH ho (by simp;omega) ?_;obtain ⟨h1,h2⟩:=hi;obtain ⟨a,b⟩:=s;simp only at h1 h2;subst h2;have hlp:=BZ e;have hlen:a.length=pre.length:=by simpa using a6 fc h1
 rw [fL e,ξ,kh e,δ];refine T.bind (tG (hv x (iW e))) fun r hr=>?_;rw [h9 (by omega) (by simp;omega),δ];refine T.next ⟨by simp [h1,hr],?_⟩;show ζ.wrap _=_;rw [fK e (by omega)];simp;obtain ⟨h1,h2⟩:=hi;rw [h2,jR,θ];exact T.done h1;have:=HK hv;omega
def yI {x y:List aC}(h:x.length+y.length≤100000000000000):app 1 x y=some (x++y):=C1 (by omega)
def BY (d:Nat)(l:List Pc):aK (jy d l)=aV d 9++(aK l++[10]):=by
 unfold jy;rw [mz,mz];congr 1;induction d with
 | zero=>rfl
 | succ d ih=>rw [List.replicate_succ,p6,ih];rfl
def wL (d:Nat)(l:List Pc):(aK (jy d l)).length=d+((aK l).length+1):=by rw [BY];simp
abbrev Pg (b:List aC)(d:Nat):Ky:=⟨⟨b⟩,(d:Int)⟩
def z8 {b:List aC}{d:Nat}{s:η}{l:List Pc}(hs:dl s=aK l)(hd:d≤1000)(h:b.length+(aK (jy d l)).length≤50000000000000):T (p7 (Pg b d) s) fun r=>r=Pg (b++aK (jy d l)) d:=by
 rw [wL] at h;unfold p7;refine T.bind (P:=fun y:List aC×Int=>y=(b++aV d 9,(d:Int))) ?_ fun y hy=>?_;refine T.loop (fun s:Int×List aC×Int=>∃ k:Nat,s=((k:Int),b++aV k 9,(d:Int))∧k≤d) (fun s=>d-s.1.toNat) ⟨0,by simp,fM _⟩ fun s hs=>?_;obtain ⟨k,rfl,hk⟩:=hs;simp only;refine T.cond (fun hc=>?_) fun hc=>T.ret ?_;have hlt:k<d:=by have:=aY hc;omega
 unfold FZ;rw [show mW (9:Int)=true from rfl];show T ((app 1 (b++aV k 9) [(9:Int).toNat.toUInt8]).bind _ |>.bind _) _;rw [yI (by simp;omega)];refine T.ret ⟨⟨k+1,?_,hlt⟩,?_⟩;show (ζ.wrap ((k:Int)+1),_,_)=_;rw [wn (by omega),List.replicate_succ',← aS];rfl;show d-(ζ.wrap ((k:Int)+1)).toNat<_;rw [wn (by omega)];simp only [cL];omega;have:k=d:=by have:=a9 hc;omega
 subst this;rfl;subst hy;unfold J4 FZ;show T ((app 1 (b++aV d 9) (dl s)).bind _ |>.bind _) _;rw [hs,yI (by simp;omega),δ,δ,show mW (10:Int)=true from rfl];show T ((app 1 (b++aV d 9++aK l) [(10:Int).toNat.toUInt8]).bind _ |>.bind _) _;rw [yI (by simp;omega)];refine T.ret ?_;rw [BY];show (⟨⟨_⟩,_⟩:Ky)=_;simp only [aS];rfl
end
section
open Go
def k7 (s:Kk):List Pc:=pF s.gj s.gb s.gy (s.gn.map pE)
def hm (e:Kf):b7 [e]=szE e:=by simp [b7]
def tU (e f:Kf):b7 [e,f]=szE e+szE f:=by simp [b7]
def Bf {b:Nat}{s:Kk}(h:VS b s)(g:s.gj≠6)(i:s.gj≠7):(aK (k7 s)).length≤60+27*b7 s.gn:=by
 unfold k7;cases h with
 |
  assign d s e a hs he=>
  have h1:=hs.len;have h2:=iV he.1
  show (aK (nm s::.sp 32::mk ⟨#[61]⟩::.sp 32::(pE e++[mk ⟨#[59]⟩]))).length≤_
  rw [g9,eY,cN,eY,iN,cN,jU];simp only [hm];show _+(1+(1+(1+(_+(1+0)))))≤_;omega
 |
  put d s e f a hs he hf=>
  have h1:=hs.len;have h2:=iV he.1;have j:=iV hf.1
  show (aK (nm s::mk ⟨#[91]⟩::(pE e++(mk ⟨#[93]⟩::.sp 32::mk ⟨#[61]⟩::.sp 32::(pE f++[mk ⟨#[59]⟩]))))).length≤_
  rw [g9,cN,iN,cN,eY,cN,eY,iN,cN,jU];simp only [tU];show _+(1+(_+(1+(1+(1+(1+(_+(1+0))))))))≤_;omega
 |
  store d s e a hs he=>
  have h1:=hs.len;have h2:=iV he.1
  show (aK (mk ⟨#[42]⟩::nm s::.sp 32::mk ⟨#[61]⟩::.sp 32::(pE e++[mk ⟨#[59]⟩]))).length≤_
  rw [cN,g9,eY,cN,eY,iN,cN,jU];simp only [hm];show 1+(_+(1+(1+(1+(_+(1+0))))))≤_;omega
 |
  call d f es a hf he=>
  have h1:=hf.len;have h2:=Cp he
  show (aK (nm f::mk ⟨#[40]⟩::(jm (es.map pE)++[mk ⟨#[41]⟩,mk ⟨#[59]⟩]))).length≤_
  rw [g9,cN,iN,cN,cN,jU];show _+(1+(_+(1+(1+0))))≤60+27*b7 es;omega
 |
  callTo d s f es a hs hf he=>
  have k:=hs.len;have h1:=hf.len;have h2:=Cp he
  have hne:s≠ε:=fun e=>by
   obtain ⟨c,r,h,_⟩:=hs.al.hd;rw [e] at h;cases h
  show (aK ((if s=ε then [] else [nm s,.sp 32,mk ⟨#[61]⟩,.sp 32])++(nm f::mk ⟨#[40]⟩::(jm (es.map pE)++[mk ⟨#[41]⟩,mk ⟨#[59]⟩])))).length≤_
  rw [aF hne,iN,g9,eY,cN,eY,jU,g9,cN,iN,cN,cN,jU];show _+(1+(1+(1+0)))+(_+(1+(_+(1+(1+0)))))≤60+27*b7 es;omega
 |
  input d s a hs=>
  have h1:=hs.len;show (aK [nm s,.sp 32,mk ⟨#[61]⟩,.sp 32,mk ⟨#[105,110,112,117,116]⟩,mk ⟨#[40]⟩,mk ⟨#[41]⟩,mk ⟨#[59]⟩]).length≤_
  rw [g9,eY,cN,eY,cN,cN,cN,cN,jU];show _+(1+(1+(1+(5+(1+(1+(1+0)))))))≤60+_;omega
 |
  ret d e a he=>
  have h2:=iV he.1;show (aK (mk ⟨#[114,101,116,117,114,110]⟩::.sp 32::(pE e++[mk ⟨#[59]⟩]))).length≤_
  rw [cN,eY,iN,cN,jU];simp only [hm];show 6+(1+(_+(1+0)))≤_;omega
 |
  assert d e a he=>
  have h2:=iV he.1;show (aK (mk ⟨#[97,115,115,101,114,116]⟩::mk ⟨#[40]⟩::(pE e++[mk ⟨#[41]⟩,mk ⟨#[59]⟩]))).length≤_
  rw [cN,cN,iN,cN,cN,jU];simp only [hm];show 6+(1+(_+(1+(1+0))))≤_;omega
 | ite d e ks ls a he hk hl=>exact bH rfl g
 | loop d e ks a he hk=>exact bH rfl i
mutual
def Be:∀ {b:Nat} {s:Kk},VS b s→∀ d,d+b≤100→(aK (pS d s)).length≤400*jt s
 |
  b,⟨op,s,f,es,ks,ls,a⟩,h,d,hd=>by
  have hz:=o3 op s f es ks ls a;by_cases c:op=6∨op=7
  ·have key:∀ (d':Nat) (e:Kf),b=d'+1→es=[e]→VX e→VSs d' ks→VSs d' ls→(aK (pS d ⟨op,s,f,es,ks,ls,a⟩)).length≤400*jt ⟨op,s,f,es,ks,ls,a⟩:=fun d' e hb he hv hk hl=>by
    have h1:=yP hk (d+1) (by omega);have h2:=yP hl (d+1) (by omega);have g:=iV hv.1;subst he;rw [hz,hm];simp only [pS];rw [aQ c,iN,wL,iN,iN,wL,cN,jU];have hH:(aK (pH op ([e].map pE))).length≤20+25*szE e:=by
     show (aK ((if op=6 then mk ⟨#[105,102]⟩ else mk ⟨#[119,104,105,108,101]⟩)::.sp 32::mk ⟨#[40]⟩::(pE e++[mk ⟨#[41]⟩,.sp 32,mk ⟨#[123]⟩]))).length≤_
     split
     ·rw [cN,eY,cN,iN,cN,eY,cN,jU];show 2+(1+(1+(_+(1+(1+(1+0))))))≤_;omega
     rw [cN,eY,cN,iN,cN,eY,cN,jU];show 5+(1+(1+(_+(1+(1+(1+0))))))≤_;omega
    have hL:(aK (if ls.isEmpty then [] else jy d [mk ⟨#[125]⟩,.sp 32,mk ⟨#[101,108,115,101]⟩,.sp 32,mk ⟨#[123]⟩]++ip (d+1) ls)).length≤d+20+400*szSs ls:=by
     split
     ·rw [jU];omega
     rw [iN,wL,cN,eY,cN,eY,cN,jU];show d+(1+(1+(4+(1+(1+0))))+1)+_≤_;omega
    show d+(_+1)+(_+(_+(d+(1+0+1))))≤_
    omega
   cases h with
   | ite d' e _ _ _ he hk hl=>exact key d' e rfl rfl he hk hl
   | loop d' e _ _ he hk=>exact key d' e rfl rfl he hk (.nil _)
   | _=>omega
  have h1:=Bf h (by simp only;omega) (by simp only;omega);rw [hz];simp only [pS];rw [aF c,wL];unfold k7 at h1;simp only at h1;omega
def yP:∀ {b:Nat} {l:List Kk},VSs b l→∀ d,d+b≤100→(aK (ip d l)).length≤400*szSs l
 | b,[],h,d,hd=>by simp only [ip,szSs];exact Φ _
 |
  b,s::l,h,d,hd=>by
  cases h with
  |
   cons _ _ _ hs hl=>
   have h1:=Be hs d hd;have h2:=yP hl d hd;simp only [ip,szSs];rw [iN];omega
end
def xB {b:Nat}{s:Kk}(h:VS b s)(v:s.gj≠6)(w:s.gj≠7)(hbig:jt s≤1048576):T (Du s) fun r=>r.2=true∧dl r.1=aK (k7 s):=by
 have hz:=oI s;unfold Du;cases h with
 |
  assign d s e a hs he=>
  have h1:=hs.len;have h2:=iV he.1
  rw [show wW 1=some 1 from rfl,δ];refine T.bind (P:=fun b=>b=false) (T.ret rfl) fun b hb=>?_
  subst hb;iterate 1 refine T.cond (fun h=>by cases h) fun _=>?_
  refine T.cond (fun _=>?_) fun h=>by cases h
  show T ((bD s ny).bind fun z=>((idx [e] (0:Int)).bind fun A=>((mK A).bind fun B=>((bD z B).bind fun C=>((bD C eM).bind fun F=>some (F,true)))))) _
  simp only [hm] at hz;refine T.bind (T.cat (y:=[32,61,32]) rfl rfl (by simp only [Ψ,aB];omega)) fun p m=>T.bind (P:=fun x=>x=e) (T.ret rfl) fun x hx=>?_
  subst hx;refine T.bind (zN he.1 (by omega)) fun n i=>T.bind (T.cat m i (by simp only [υ,Ψ,aB];omega)) fun o j=>T.bind (T.cat (y:=[59]) j rfl (by simp only [υ,Ψ,aB];omega)) fun k g=>T.ret ⟨rfl,?_⟩
  rw [g];simp [k7,pF,aK,Pc.txt]
 |
  put d s e f a hs he hf=>
  have h1:=hs.len;have h2:=iV he.1;have h3:=iV hf.1
  rw [show wW 2=some 2 from rfl,δ];refine T.bind (P:=fun b=>b=false) (T.ret rfl) fun b hb=>?_
  subst hb;simp only [tU] at hz;iterate 2 refine T.cond (fun h=>by cases h) fun _=>?_
  refine T.cond (fun _=>?_) fun h=>by cases h
  show T ((bD s eH).bind fun G=>((idx [e,f] (0:Int)).bind fun H=>((mK H).bind fun I=>((bD G I).bind fun J=>((bD J (ν #[93,32,61,32])).bind fun K=>((idx [e,f] (1:Int)).bind fun L=>((mK L).bind fun M=>((bD K M).bind fun N=>((bD N eM).bind fun O=>some (O,true)))))))))) _
  refine T.bind (T.cat (y:=[91]) rfl rfl (by simp only [Ψ,aB];omega)) fun p m=>T.bind (P:=fun x=>x=e) (T.ret rfl) fun x hx=>?_
  subst hx;refine T.bind (zN he.1 (by omega)) fun n i=>T.bind (T.cat m i (by simp only [υ,Ψ,aB];omega)) fun o j=>T.bind (T.cat (y:=[93,32,61,32]) j rfl (by simp only [υ,Ψ,aB];omega)) fun k g=>T.bind (P:=fun x=>x=f) (T.ret rfl) fun y hy=>?_
  subst hy;refine T.bind (zN hf.1 (by omega)) fun Q q=>T.bind (T.cat g q (by simp only [υ,Ψ,aB];omega)) fun R t=>T.bind (T.cat (y:=[59]) t rfl (by simp only [υ,Ψ,aB];omega)) fun U u=>T.ret ⟨rfl,?_⟩
  rw [u];simp [k7,pF,aK,Pc.txt]
 |
  store d s e a hs he=>
  have h1:=hs.len;have h2:=iV he.1
  rw [show wW 3=some 1 from rfl,δ];refine T.bind (P:=fun b=>b=false) (T.ret rfl) fun b hb=>?_
  subst hb;simp only [hm] at hz;iterate 3 refine T.cond (fun h=>by cases h) fun _=>?_
  refine T.cond (fun _=>?_) fun h=>by cases h
  show T ((bD gZ s).bind fun V=>((bD V ny).bind fun W=>((idx [e] (0:Int)).bind fun X=>((mK X).bind fun Y=>((bD W Y).bind fun Z=>((bD Z eM).bind fun aa=>some (aa,true))))))) _
  refine T.bind (T.cat (x:=[42]) rfl rfl (by simp only [Ψ,aB];omega)) fun r0 e0=>T.bind (T.cat (y:=[32,61,32]) e0 rfl (by simp only [υ,Ψ,aB];omega)) fun p m=>T.bind (P:=fun x=>x=e) (T.ret rfl) fun x hx=>?_
  subst hx;refine T.bind (zN he.1 (by omega)) fun n i=>T.bind (T.cat m i (by simp only [υ,Ψ,aB];omega)) fun o j=>T.bind (T.cat (y:=[59]) j rfl (by simp only [υ,Ψ,aB];omega)) fun k g=>T.ret ⟨rfl,?_⟩
  rw [g];simp [k7,pF,aK,Pc.txt]
 |
  call d f es a hf he=>
  have h1:=hf.len;have h2:=Cp he
  have ad:b7 es≤1048575:=by simp only at hz;omega
  rw [show wW 4=some 0 from rfl,δ];refine T.bind (P:=fun b=>b=false) (T.cond (fun h=>by cases h) fun _=>T.ret (Δ (by omega))) fun b hb=>?_
  subst hb;iterate 7 refine T.cond (fun h=>by cases h) fun _=>?_
  refine T.cond (fun _=>?_) fun h=>by cases h
  refine T.bind (T.cat (y:=[40]) rfl rfl (by simp only [Ψ,aB];omega)) fun p m=>T.bind (n0 (l:=es) he (by omega)) fun n i=>T.bind (T.cat m i (by simp only [υ,Ψ,aB];omega)) fun o j=>T.bind (T.cat (y:=[41,59]) j rfl (by simp only [υ,Ψ,aB];omega)) fun k g=>?_
  refine T.bind (P:=fun x=>x=k) (T.cond (fun h=>by cases h) fun _=>T.ret rfl) fun x hx=>T.ret ⟨rfl,?_⟩
  rw [hx,g];simp [k7,pF,aK,Pc.txt]
 |
  callTo d s f es a hs hf he=>
  have h0:=hs.len;have h1:=hf.len;have h2:=Cp he
  have ad:b7 es≤1048575:=by simp only at hz;omega
  have hne:s≠ε:=fun e=>by
   obtain ⟨c,r,h,_⟩:=hs.al.hd;rw [e] at h;cases h
  rw [show wW 4=some 0 from rfl,δ];refine T.bind (P:=fun b=>b=false) (T.cond (fun h=>by cases h) fun _=>T.ret (Δ (by omega))) fun b hb=>?_
  subst hb;iterate 7 refine T.cond (fun h=>by cases h) fun _=>?_
  refine T.cond (fun _=>?_) fun h=>by cases h
  refine T.bind (T.cat (y:=[40]) rfl rfl (by simp only [Ψ,aB];omega)) fun p m=>T.bind (n0 (l:=es) he (by omega)) fun n i=>T.bind (T.cat m i (by simp only [υ,Ψ,aB];omega)) fun o j=>T.bind (T.cat (y:=[41,59]) j rfl (by simp only [υ,Ψ,aB];omega)) fun k g=>?_
  have h4:(dl k).length≤30+27*b7 es:=by rw [g];simp only [υ,Ψ,aB];omega
  refine T.bind (P:=fun x=>dl x=(dl s++[32,61,32])++dl k) (T.cond (fun _=>?_) fun h=>?_) fun U u=>T.ret ⟨rfl,?_⟩
  ·exact T.bind (T.cat (x:=dl s) (y:=[32,61,32]) rfl rfl (by simp only [Ψ,aB];omega)) fun Q q=>T.bind (T.cat (y:=dl k) q rfl (by simp only [υ,Ψ,aB];omega)) fun R t=>T.ret t
  ·have:decide (s=(ν #[]))=false:=Δ hne;rw [this] at h;cases h
  rw [u,g];simp [k7,pF,aK,Pc.txt,hne]
 |
  input d s a hs=>
  have h1:=hs.len;rw [show wW 5=some 0 from rfl,δ];refine T.bind (P:=fun b=>b=false) (T.ret rfl) fun b hb=>?_
  subst hb;iterate 4 refine T.cond (fun h=>by cases h) fun _=>?_
  refine T.cond (fun _=>?_) fun h=>by cases h
  show T ((bD s (ν #[32,61,32,105,110,112,117,116,40,41,59])).bind fun ae=>some (ae,true)) _
  refine T.bind (T.cat (x:=dl s) (y:=[32,61,32,105,110,112,117,116,40,41,59]) rfl rfl (by simp only [Ψ,aB];omega)) fun k g=>T.ret ⟨rfl,?_⟩
  show dl k=aK [nm s,.sp 32,mk ⟨#[61]⟩,.sp 32,mk ⟨#[105,110,112,117,116]⟩,mk ⟨#[40]⟩,mk ⟨#[41]⟩,mk ⟨#[59]⟩]
  rw [g];simp [aK,Pc.txt]
 |
  ret d e a he=>
  have h2:=iV he.1;rw [show wW 8=some 1 from rfl,δ];refine T.bind (P:=fun b=>b=false) (T.ret rfl) fun b hb=>?_
  subst hb;simp only [hm] at hz;iterate 5 refine T.cond (fun h=>by cases h) fun _=>?_
  refine T.cond (fun _=>?_) fun h=>by cases h
  show T ((idx [e] (0:Int)).bind fun af=>((mK af).bind fun ag=>((bD (ν #[114,101,116,117,114,110,32]) ag).bind fun ah=>((bD ah eM).bind fun ai=>some (ai,true))))) _
  refine T.bind (P:=fun x=>x=e) (T.ret rfl) fun x hx=>?_
  subst hx;refine T.bind (zN he.1 (by omega)) fun n i=>T.bind (T.cat (x:=[114,101,116,117,114,110,32]) rfl i (by simp only [υ,Ψ,aB];omega)) fun o j=>T.bind (T.cat (y:=[59]) j rfl (by simp only [υ,Ψ,aB];omega)) fun k g=>T.ret ⟨rfl,?_⟩
  rw [g];simp [k7,pF,aK,Pc.txt]
 |
  assert d e a he=>
  have h2:=iV he.1;rw [show wW 9=some 1 from rfl,δ];refine T.bind (P:=fun b=>b=false) (T.ret rfl) fun b hb=>?_
  subst hb;simp only [hm] at hz;iterate 6 refine T.cond (fun h=>by cases h) fun _=>?_
  refine T.cond (fun _=>?_) fun h=>by cases h
  show T ((idx [e] (0:Int)).bind fun aj=>((mK aj).bind fun ak=>((bD (ν #[97,115,115,101,114,116,40]) ak).bind fun am=>((bD am (ν #[41,59])).bind fun an=>some (an,true))))) _
  refine T.bind (P:=fun x=>x=e) (T.ret rfl) fun x hx=>?_
  subst hx;refine T.bind (zN he.1 (by omega)) fun n i=>T.bind (T.cat (x:=[97,115,115,101,114,116,40]) rfl i (by simp only [υ,Ψ,aB];omega)) fun o j=>T.bind (T.cat (y:=[41,59]) j rfl (by simp only [υ,Ψ,aB];omega)) fun k g=>T.ret ⟨rfl,?_⟩
  rw [g];simp [k7,pF,aK,Pc.txt]
 | ite d e ks ls a he hk hl=>exact bH rfl v
 | loop d e ks a he hk=>exact bH rfl w
end
section
open Go
abbrev k9 (N:Nat):=KA N
def Fh (d:Nat):∀ a b:List Kk,ip d (a++b)=ip d a++ip d b
 | [],b=>rfl
 | s::a,b=>by simp only [bK,ip,Fh d a b,aS]
def lI {b:Nat}:∀ {l:List Kk},VSs b l→∀ s∈l,VS b s
 |
  s::l,h,x,hx=>by
  cases h with
  |
   cons _ _ _ h1 h2=>
   rcases cX.1 hx with rfl|hx
   ·exact h1
   exact lI h2 x hx
def Lk {b c:List aC}{d:Nat}(h:b=c):Pg b d=Pg c d:=by rw [h]
def Eo:∀ N:Nat,(∀ (b d:Nat) (l:List Kk) (u:List aC),VSs b l→d+b≤100→szSs l≤1048576→u.length+(aK (ip d l)).length≤50000000000000→3*b+3≤N→T ((k9 N).1 (Pg u d) l) fun r=>r=Pg (u++aK (ip d l)) d) ∧
  (∀ (b d:Nat) (s:Kk) (u:List aC),VS b s→d+b≤100→jt s≤1048576→u.length+(aK (pS d s)).length≤50000000000000→3*b+2≤N→T ((k9 N).2.1 (Pg u d) s) fun r=>r=Pg (u++aK (pS d s)) d) ∧
  (∀ (b d:Nat) (l:List Kk) (u:List aC),VSs b l→d+1+b≤100→szSs l≤1048576→u.length+(aK (ip (d+1) l)).length≤50000000000000→3*b+4≤N→T ((k9 N).2.2.1 (Pg u d) l) fun r=>r=Pg (u++aK (ip (d+1) l)) d)
 | 0=>⟨fun _ _ _ _ _ _ _ _ h=>by omega,fun _ _ _ _ _ _ _ _ h=>by omega,fun _ _ _ _ _ _ _ _ h=>by omega⟩
 |
  N+1=>by
  obtain ⟨iL,iS,iI⟩:=Eo N;refine ⟨fun b d l u hv hd hs hu hN=>?_,fun b d s u hv hd hs hu hN=>?_,fun b d l u hv hd hs hu hN=>?_⟩
  ·show T (CM (k9 N).1 (k9 N).2.1 (k9 N).2.2.1 (k9 N).2.2.2.1 (k9 N).2.2.2.2 (Pg u d) l) _
   unfold CM;have hl:=we l;refine T.bind (P:=fun y:List aC×Int=>y=(u++aK (ip d l),(d:Int))) (T.each l (fun pre s=>s=((pre.length:Int),u++aK (ip d pre),(d:Int))) (by simp [ip,aK]) (fun pre x post s e hi=>?_) fun s hi=>?_) fun y hy=>T.ret (by rw [hy])
   ·subst hi;have hx:=lI hv x (iW e);have hxs:=GS e;have hlen:(aK (ip d pre)).length+(aK (pS d x)).length≤(aK (ip d l)).length:=by
     rw [e,Fh,iN];simp only [ip];rw [iN];omega
    simp only;rw [fL e,ξ,kh e,δ];refine T.bind (iS b d x _ hx hd (by omega) (by rw [υ];omega) (by omega)) fun r hr=>T.next ?_
    subst hr;show (ζ.wrap _,_,_)=_
    rw [fK e (by omega),Fh,mz];simp [ip,aK]
   subst hi;simp only;rw [jR,θ];exact T.done rfl
  ·show T (CI (k9 N).1 (k9 N).2.1 (k9 N).2.2.1 (k9 N).2.2.2.1 (k9 N).2.2.2.2 (Pg u d) s) _
   unfold CI;by_cases f:s.gj=6∨s.gj=7
   ·have key:∀ (b':Nat) (op:Int) (e:Kf) (ks ls:List Kk) (a:Int),(op=6∨(op=7∧ls=[]))→b=b'+1→s=⟨op,ε,ε,[e],ks,ls,a⟩→VX e→VSs b' ks→VSs b' ls→T ((κ (α:=η) (bif (op==(6:Int)) then some (ν #[105,102,32,40]) else some (ν #[119,104,105,108,101,32,40])) fun g=>((idx [e] (0:Int)).bind fun n=>((mK n).bind fun o=>((bD g o).bind fun p=>((bD p (ν #[41,32,123])).bind fun t=>((p7 (Pg u d) t).bind fun v=>(((k9 N).2.2.1 v ks).bind fun k=>(κ (α:=Bool) (bif (op==(6:Int)) then some (decide ((0:Int)<(ls.length:Int))) else some false) fun m=>(bif m then ((p7 k (ν #[125,32,101,108,115,101,32,123])).bind fun w=>(((k9 N).2.2.1 w ls).bind fun z=>((p7 z iw).bind fun A=>some A))) else ((p7 k iw).bind fun B=>some B))))))))))) fun r=>r=Pg (u++aK (pS d s)) d:=fun b' op e ks ls a hop hb hse he hk hl=>by
     subst hse;have hz:=o3 op ε ε [e] ks ls a;rw [hm] at hz;have h2:=iV he.1;have hpS:pS d ⟨op,ε,ε,[e],ks,ls,a⟩=jy d (pH op [pE e])++(ip (d+1) ks++((if ls.isEmpty then [] else jy d [mk ⟨#[125]⟩,.sp 32,mk ⟨#[101,108,115,101]⟩,.sp 32,mk ⟨#[123]⟩]++ip (d+1) ls)++jy d [mk ⟨#[125]⟩])):=by
      simp only [pS];rw [aQ (by omega)];rfl
     rw [hpS] at hu ⊢;rw [iN,iN,iN] at hu;refine T.bind (P:=fun y=>dl y++(aK (pE e)++[41,32,123])=aK (pH op [pE e])∧(dl y).length≤7) (T.cond (fun h=>T.ret ?_) fun h=>T.ret ?_) fun g i=>T.bind (P:=fun x=>x=e) (T.ret rfl) fun x hx=>?_
     ·have:op=6:=by simpa using h
      exact ⟨by simp [pH,this,aK,Pc.txt,dl],by decide⟩
     ·have:op≠6:=by simpa using h
      exact ⟨by simp [pH,this,aK,Pc.txt,dl],by decide⟩
     subst hx;obtain ⟨i,M⟩:=i;refine T.bind (zN he.1 (by omega)) fun O C=>T.bind (T.cat (x:=dl g) rfl C (by omega)) fun Q F=>T.bind (T.cat (y:=[41,32,123]) F rfl (by simp only [υ,Ψ,aB];omega)) fun R G=>T.bind (z8 (l:=pH op [pE x]) (by rw [G,← i];simp) (by omega) (by omega)) fun U H=>?_
     subst H;refine T.bind (iI b' d ks _ hk (by omega) (by omega) (by rw [υ];omega) (by omega)) fun V I=>?_
     subst I;refine T.bind (P:=fun y=>y=!ls.isEmpty) (T.cond (fun h=>T.ret ?_) fun h=>T.ret ?_) fun m c=>T.cond (fun h=>?_) fun h=>?_
     ·cases ls<;>simp
     ·have:op≠6:=by simpa using h
      rcases hop with h|⟨_,rfl⟩
      ·exact bH h this
      rfl
     ·have hne:ls.isEmpty=false:=by rw [h] at c;simpa using c.symm
      rw [hne] at hu ⊢;simp only [cP,bE] at hu ⊢;rw [iN] at hu;refine T.bind (z8 (l:=[mk ⟨#[125]⟩,.sp 32,mk ⟨#[101,108,115,101]⟩,.sp 32,mk ⟨#[123]⟩]) rfl (by omega) (by simp only [υ];omega)) fun W J=>?_
      subst J;refine T.bind (iI b' d ls _ hl (by omega) (by omega) (by simp only [υ];omega) (by omega)) fun X K=>?_
      subst K;refine T.bind (z8 (l:=[mk ⟨#[125]⟩]) rfl (by omega) (by simp only [υ];omega)) fun L j=>T.ret ?_
      rw [j];exact Lk (by simp [mz])
     have hne:ls.isEmpty=true:=by rw [h] at c;simpa using c.symm
     rw [hne] at hu ⊢;simp only [bR] at hu ⊢;refine T.bind (z8 (l:=[mk ⟨#[125]⟩]) rfl (by omega) (by simp only [υ];omega)) fun L j=>T.ret ?_
     rw [j];exact Lk (by simp [mz])
    cases hv with
    |
     ite b' e ks ls a he hk hl=>
     rw [show Du ⟨6,ε,ε,[e],ks,ls,a⟩=some (ν #[],false) from rfl,δ];exact key b' 6 e ks ls a (.inl rfl) rfl rfl he hk hl
    |
     loop b' e ks a he hk=>
     rw [show Du ⟨7,ε,ε,[e],ks,[],a⟩=some (ν #[],false) from rfl,δ];exact key b' 7 e ks [] a (.inr ⟨rfl,rfl⟩) rfl rfl he hk (.nil _)
    | _=>simp only at f;omega
   have hpS:pS d s=jy d (k7 s):=by
    cases s with
    |
     mk op nm fn es ks ls a=>
     simp only at f;simp only [pS];rw [aF f];rfl
   rw [hpS] at hu ⊢;refine T.bind (xB hv (by omega) (by omega) hs) fun r hr=>?_
   obtain ⟨h1,h2⟩:=hr;refine T.cond (fun _=>T.bind (z8 h2 (by omega) hu) fun q hq=>T.ret hq) fun h=>?_
   rw [h1] at h;cases h
  show T (CK (k9 N).1 (k9 N).2.1 (k9 N).2.2.1 (k9 N).2.2.2.1 (k9 N).2.2.2.2 (Pg u d) l) _
  unfold CK;have hw:ζ.wrap ((d:Int)+1)=((d+1:Nat):Int):=wn (by omega);show T (((k9 N).1 ⟨⟨u⟩,ζ.wrap ((d:Int)+1)⟩ l).bind _) _
  rw [hw];refine T.bind (iL b (d+1) l u hv (by omega) hs hu (by omega)) fun r hr=>T.ret ?_
  subst hr;show (⟨_,ζ.wrap (((d+1:Nat):Int)-1)⟩:Ky)=_
  rw [show ζ.wrap (((d+1:Nat):Int)-1)=(d:Int) by rw [b1];omega]
def Iq {b d:Nat}{l:List Kk}{u:List aC}(hv:VSs b l)(hd:d+b≤100)(hs:szSs l≤1048576)(hu:u.length+(aK (ip d l)).length≤50000000000000):T (HQ (Pg u d) l) fun r=>r=Pg (u++aK (ip d l)) d:=by
 obtain ⟨r,h1,h2⟩:=(Eo (3*b+3)).1 b d l u hv hd hs hu (Φ _);exact ⟨r,Qn _ _ _ h1,h2⟩
def Hg (a b:List KZ):j5 (a++b)=j5 a++j5 b:=by simp [j5]
def mb {l:List KZ}(hv:∀ v∈l,NmOK v.gb):(aK (j5 l)).length≤28*l.length:=by
 induction l with
 | nil=>exact Φ _
 |
  cons v l ih=>
  have:=ih fun v h=>hv v (by simp [h])
  have h1:=kK (hv v (by simp));show (aK (jy 1 (pV v++[mk ⟨#[59]⟩])++j5 l)).length≤_
  rw [iN,wL,iN,cN,jU];have h2:(v::l).length=l.length+1:=rfl;show 1+(_+(1+0)+1)+_≤_;omega
def qA {f:KC}(h:VF f):(aK (qB f)).length≤1000+400*szSs f.gx:=by
 have h1:=h.nm.len;have h2:=HK h.ps;have a:=mb h.ls;have b:=yP h.body 1 (by omega);have c:=h.many;unfold qB;rw [iN,iN,iN,wL,wL,cN,eY,g9,cN,iN,cN,eY,cN,jU,cN,jU];show 0+(3+(1+(_+(1+(_+(1+(1+(1+0)))))))+1)+(_+(_+(0+(1+0+1))))≤_;omega
def yq {f:KC}(h:VF f):T (HA f) fun r=>dl r=aK (qB f):=by
 have h1:=h.nm.len;have h2:=HK h.ps;have q:=mb h.ls;have t:=yP h.body 1 (by omega);have u:=h.many;have v:=h.size;have hlen:=qA h;have hpF:aK (qB f)=aK (jy 0 (mk ⟨#[105,110,116]⟩::.sp 32::nm f.gb::mk ⟨#[40]⟩::(jm (f.gh.map pV)++[mk ⟨#[41]⟩,.sp 32,mk ⟨#[123]⟩])))++(aK (j5 f.gi)++(aK (ip 1 f.gx)++aK (jy 0 [mk ⟨#[125]⟩]))):=by unfold qB;simp only [mz]
 have hsum:=a6 fc hpF;simp only [υ] at hsum;unfold HA;refine T.bind (T.cat (x:=[105,110,116,32]) rfl rfl (by simp only [Ψ,aB];omega)) fun w a=>T.bind (T.cat (y:=[40]) a rfl (by simp only [υ,Ψ,aB];omega)) fun z c=>T.bind (vC h.ps (by omega)) fun B g=>T.bind (T.cat c g (by simp only [υ,Ψ,aB];omega)) fun C i=>T.bind (T.cat (y:=[41,32,123]) i rfl (by simp only [υ,Ψ,aB];omega)) fun F j=>?_;refine T.bind (z8 (b:=[]) (d:=0) (l:=mk ⟨#[105,110,116]⟩::.sp 32::nm f.gb::mk ⟨#[40]⟩::(jm (f.gh.map pV)++[mk ⟨#[41]⟩,.sp 32,mk ⟨#[123]⟩])) (by rw [j];simp [aK,Pc.txt]) (by omega) (by rw [aB];omega)) fun G k=>?_;subst k;generalize hA:aK (jy 0 (mk ⟨#[105,110,116]⟩::.sp 32::nm f.gb::mk ⟨#[40]⟩::(jm (f.gh.map pV)++[mk ⟨#[41]⟩,.sp 32,mk ⟨#[123]⟩])))=A at *;rw [a8];refine T.bind (P:=fun y:List aC×Int=>y=(A++aK (j5 f.gi),((1:Nat):Int))) (T.each f.gi (fun pre s=>s=((pre.length:Int),A++aK (j5 pre),((1:Nat):Int))) (by show (_,_,ζ.wrap _)=_;simp [j5,aK];rfl) (fun pre x post s e hi=>?_) fun s hi=>?_) fun y hy=>?_;subst hi;have hlp:(aK (j5 pre)).length+(aK (jy 1 (pV x++[mk ⟨#[59]⟩]))).length≤(aK (j5 f.gi)).length:=by
  have e':j5 f.gi=j5 pre++(jy 1 (pV x++[mk ⟨#[59]⟩])++j5 post):=by rw [e,Hg];rfl
  rw [e',iN,iN];omega
 have hx:=kK (h.ls x (iW e));simp only;rw [fL e,ξ,kh e,δ];refine T.bind (tG (h.ls x (iW e))) fun H f1=>T.bind (T.cat (y:=[59]) f1 rfl (by simp only [Ψ,aB];omega)) fun I m=>T.bind (z8 (l:=pV x++[mk ⟨#[59]⟩]) (by rw [m];simp [aK,Pc.txt]) (by omega) (by rw [υ];omega)) fun J n=>T.next ?_;subst n;show (ζ.wrap _,_,_)=_;have:=BZ e;rw [fK e (by omega),Hg,mz];simp [j5,mz];subst hi;simp only;rw [jR,θ];exact T.done rfl;subst hy;refine T.bind (Iq (b:=23) (d:=1) h.body (by omega) h.size (by rw [υ];omega)) fun K o=>?_;subst o;refine T.bind (z8 (b:=(A++aK (j5 f.gi))++aK (ip 1 f.gx)) (d:=0) (l:=[mk ⟨#[125]⟩]) rfl (by omega) (by simp only [υ];omega)) fun L p=>?_;subst p;have ok:mY (Pg ((A++aK (j5 f.gi))++aK (ip 1 f.gx)++aK (jy 0 [mk ⟨#[125]⟩])) 0)=true:=by have hne:aK (jy 0 [mk ⟨#[125]⟩])=[125,10]:=rfl;simp only [mY,aR,bJ,υ];rw [hne] at *;refine ⟨by simp,?_⟩;have h2:[(125:aC),10].length=2:=rfl;omega
 rw [ok];refine T.ret ?_;rw [hpF];show (ν (List.toArray _)).data.toList=_;simp [aS]
def sb {g:KR}(h:VG g):T (HT g) fun r=>dl r=aK (r1 g):=by
 have h1:=h.nm.len;have h2:=h.lo;have i:=h.hi;unfold HT r1 pV;refine T.cond (fun hp=>?_) fun hp=>T.cond (fun hs=>?_) fun hs=>?_;exact T.bind (T.cat (x:=[105,110,116,32,42]) rfl rfl (by simp only [Ψ,aB];omega)) fun c a=>T.bind (T.cat (y:=[59,10]) a rfl (by simp only [υ,Ψ,aB];omega)) fun d b=>T.ret (by rw [b,hp];simp [aK,Pc.txt]);have hs':=aY hs;have hn:=Fe (n:=g.gC) (by omega) (by omega);have ok:yM g.gC=true:=by simp [yM];omega
 refine T.bind (T.cat (x:=[105,110,116,32]) rfl rfl (by simp only [Ψ,aB];omega)) fun c a=>T.bind (T.cat (y:=[91]) a rfl (by simp only [υ,Ψ,aB];omega)) fun d b=>?_;rw [ok];exact T.bind (P:=fun _=>True) (T.ret trivial) fun _ _=>T.bind (T.cat b rfl (by simp only [υ,Ψ,aB];omega)) fun j e=>T.bind (T.cat (y:=[93,59,10]) e rfl (by simp only [υ,Ψ,aB];omega)) fun k f=>T.ret (by rw [f,hp];simp [aK,Pc.txt,hs']);have hs':=a9 hs;exact T.bind (T.cat (x:=[105,110,116,32]) rfl rfl (by simp only [Ψ,aB];omega)) fun c a=>T.bind (T.cat (y:=[59,10]) a rfl (by simp only [υ,Ψ,aB];omega)) fun d b=>T.ret (by rw [b,hp];simp [aK,Pc.txt,hs'])
end
section
open Go
def T.ct {β:Type}{a b:η}{x y:List aC}{f:η→Option β}{Q:β→Prop}(ha:dl a=x)(hb:dl b=y)(g:∀ r,dl r=x++y→T (f r) Q)(h:x.length+y.length≤100000000000000:=by first|omega|(simp only [υ,Ψ,aB];omega)):T ((bD a b).bind f) Q:=T.bind (T.cat ha hb h) g
def T.to {α β:Type}{m:Option α}{x:α}{f:α→Option β}{Q:β→Prop}(h:m=some x)(g:T (f x) Q):T (m.bind f) Q:=by rw [h];exact g
def qQ {v:KZ}(h:NmOK v.gb):T (FJ v) fun r=>dl r=aK (pV v):=by
 have hl:=h.len;unfold FJ pV;refine T.cond (fun hp=>?_) fun hp=>?_<;>rw [hp];exact T.ct (x:=[105,110,116,32,42]) rfl rfl fun r hr=>T.ret (by rw [hr];simp [aK,Pc.txt]);exact T.ct (x:=[105,110,116,32]) rfl rfl fun r hr=>T.ret (by rw [hr];simp [aK,Pc.txt])
def qR {d:Nat}(hd:d≤1000):T (B9 (d:Int)) fun r=>dl r=aV d 9:=by
 unfold B9;refine T.bind (P:=fun r=>dl r=aV d 9) (T.loop (fun s:η×Int=>∃ k:Nat,s.2=(k:Int)∧dl s.1=aV k 9∧k≤d) (fun s=>d-s.2.toNat) ⟨0,rfl,rfl,fM _⟩ fun s hs=>?_) fun r hr=>T.ret hr;obtain ⟨k,h1,h2,hk⟩:=hs;obtain ⟨u,i⟩:=s;simp only at h1 h2;subst h1;refine T.cond (fun hc=>?_) fun hc=>T.ret ?_;have hlt:k<d:=by have:=aY hc;simp only at this;omega
 exact T.ct (y:=[9]) h2 rfl (fun r e=>T.ret ⟨⟨k+1,wn (by omega),by rw [e,List.replicate_succ'],hlt⟩,by simp only [wn (n:=k) (by omega),cL];omega⟩) (by simp;omega);have:k=d:=by have:=a9 hc;simp only at this;omega
 subst this;exact h2
def EL {n:Int}(c:0≤n)(h1:n≤9223372036854775807):T (C6 n) fun r=>dl r=dl (itoaB n):=by
 have hlen:=Fe c h1;have hi:dl (itoaB n)=d8 n.toNat:=Ff c;rw [hi] at hlen ⊢;unfold C6;refine T.cond (fun h=>?_) fun h=>?_;have:n=0:=by simpa using h
 subst this;exact T.ret (by rw [d8,ft (by decide)];rfl);have hn:n≠0:=by simpa using h
 refine T.bind (P:=fun r=>dl r=d8 n.toNat) (T.loop (fun s:η×Int=>∃ k:Nat,s.2=(k:Int)∧(if k=0 then [] else d8 k)++dl s.1=d8 n.toNat∧k≤n.toNat) (fun s=>s.2.toNat) ⟨n.toNat,by simp;omega,by rw [aF (by omega)];exact aN _,Φ _⟩ fun s hs=>?_) fun r hr=>T.cond (fun h=>bH (aY h) (by omega)) fun _=>T.ret hr;obtain ⟨k,d,a,hk⟩:=hs;obtain ⟨u,i⟩:=s;simp only at d a;subst d;refine T.cond (fun hc=>?_) fun hc=>T.ret ?_;have b:k≠0:=by simpa using hc
 rw [aF b] at a;have g:(k:Int).tmod 10=((k%10:Nat):Int):=by rw [Int.tmod_eq_emod_of_nonneg (by omega)];omega
 have hd:(k:Int).tdiv 10=((k/10:Nat):Int):=by rw [Int.tdiv_eq_ediv_of_nonneg (by omega)];omega
 have hu:(dl u).length≤20:=by have:=a6 fc a;rw [υ] at this;omega
 simp only [g,hd];refine T.bind (P:=fun y=>y=((k%10:Nat):Int)) (T.cond (fun h=>bH (aY h) (by omega)) fun _=>T.ret rfl) fun y hy=>?_;subst hy;have hb:dU.wrap (ζ.wrap ((48:Int)+((k%10:Nat):Int)))=((48+k%10:Nat):Int):=by rw [b1,IntKind.wrap_u8];omega
 have hw:ζ.wrap ((k/10:Nat):Int)=((k/10:Nat):Int):=by rw [b1];omega
 rw [hb,show mW ((48+k%10:Nat):Int)=true by simp [mW];omega];show T ((bD _ u).bind _) _;refine T.ct (x:=[il (48+k%10)]) rfl rfl (fun r e=>T.ret ⟨⟨k/10,hw,?_,by omega⟩,by simp only [hw,cL];omega⟩);simp only;rw [e,← a];have hk:=Lib.decDigits.eq_def k;by_cases f:k<10;rw [ft f] at hk;rw [aQ (by omega),hk,show k%10=k by omega];rfl;rw [ia f] at hk;rw [aF (by omega),hk,aS];have b:k=0:=by simpa using hc
 rw [aQ b] at a;exact a
def yh {op:Int}(h:¬ lev op<6):(op<7∨17<op)∧lev op=6:=by
 have a:=u7 ⟨op,0,ε,[],0⟩;simp only at a;refine ⟨?_,by omega⟩;unfold lev at h;repeat' split at h
 all_goals omega
def Bz (op:Int):z7 op=some (lev op:Int):=by
 have key:∀ k:Int,op=k→z7 k=some (lev k:Int)→z7 op=some (lev op:Int):=fun k e h=>by rw [e];exact h
 by_cases h:lev op<6;rcases Kid h with h|h|h|h|h|h|h|h|h|h|h<;>exact key _ h rfl;obtain ⟨h1,h2⟩:=yh h;rw [h2];unfold z7;rcases h1 with h1|h1;rw [Ξ h1];rfl;rw [Δ (by omega),Ξ h1];rfl
abbrev DG (N:Nat):=Ka2 N
def Ok {op:Int}(h:lev op<6):7≤op∧op≤17:=by rcases Kid h with rfl|rfl|rfl|rfl|rfl|rfl|rfl|rfl|rfl|rfl|rfl<;>decide
def It {op:Int}(h:lev op<6):idx ([gZ,jI,jX,jH,f6,nk,nu,nt,nr,jY,jZ]:List η) (ζ.wrap (op-(7:Int)))=some (xC op):=by
 rcases Kid h with rfl|rfl|rfl|rfl|rfl|rfl|rfl|rfl|rfl|rfl|rfl<;>rfl
def EO:∀ N:Nat,(∀ e,VE e→szE e≤1048576→2*dpE e≤N→T ((DG N).1 e) fun r=>dl r=aK (pE e))∧(∀ e (k:Nat),VE e→k≤6→szE e≤1048576→2*dpE e+1≤N→T ((DG N).2 e (k:Int)) fun r=>dl r=aK (oG k e))
 | 0=>⟨fun e _ _ h=>by have:=kS e;omega,fun e k _ _ _ h=>by omega⟩
 |
  N+1=>by
  obtain ⟨iE,iK⟩:=EO N;refine ⟨fun e h hs hN=>?_,fun e k h hk hs hN=>?_⟩
  ·show T (Cq (DG N).1 (DG N).2 e) _
   have hlen:=iV h;have hsz:=la e;have hdp:=kS e;unfold Cq;cases h with
   |
    num n a f h1=>
    show T ((C6 n).bind fun m=>some m) _
    exact T.bind (EL f h1) fun r hr=>T.ret (by rw [hr];simp [aK,pE,k6,rE,Pc.txt])
   | var s a h=>exact T.ret (by simp [aK,pE,k6,rE,Pc.txt])
   | null a=>exact T.ret (by simp [aK,pE,k6,rE,Pc.txt])
   |
    load s a h=>
    have:=h.len;show T ((bD gZ s).bind fun x=>some x) _
    exact T.ct (x:=[42]) rfl rfl fun r hr=>T.ret (by simpa [aK,pE,k6,rE,Pc.txt] using hr)
   |
    addr s a h=>
    have:=h.len;show T ((bD jG s).bind fun x=>some x) _
    exact T.ct (x:=[38]) rfl rfl fun r hr=>T.ret (by simpa [aK,pE,k6,rE,Pc.txt] using hr)
   |
    index s k a h hk=>
    have hkl:=iV hk;have hsk:szE k≤1048576:=by simp only [b7] at hsz;omega
    have hnl:=h.len;simp only [dS] at hdp;refine T.bind (P:=fun y=>y=false) (T.ret rfl) fun y hy=>?_
    subst hy;refine T.cond (fun h=>by cases h) fun _=>T.bind (P:=fun y=>dl y=aK (pE k)) (T.cond (fun _=>T.to (x:=k) rfl (T.bind (iE k hk hsk (by omega)) fun r e=>T.ret e)) fun h=>by cases h) fun y h2=>?_
    iterate 6 refine T.cond (fun h=>by cases h) fun _=>?_
    refine T.cond (fun _=>?_) fun h=>by cases h
    refine T.ct (y:=[91]) rfl rfl fun g h1=>T.ct h1 h2 fun d b=>T.ct (y:=[93]) b rfl fun j c=>T.ret ?_
    rw [c];simp [aK,pE,k6,rE,Pc.txt]
   |
    addrAt s k a h hk=>
    have hkl:=iV hk;have hsk:szE k≤1048576:=by simp only [b7] at hsz;omega
    have hnl:=h.len;simp only [dS] at hdp;refine T.bind (P:=fun y=>y=false) (T.ret rfl) fun y hy=>?_
    subst hy;refine T.cond (fun h=>by cases h) fun _=>T.bind (P:=fun y=>dl y=aK (pE k)) (T.cond (fun _=>T.to (x:=k) rfl (T.bind (iE k hk hsk (by omega)) fun r e=>T.ret e)) fun h=>by cases h) fun y h2=>?_
    iterate 7 refine T.cond (fun h=>by cases h) fun _=>?_
    refine T.cond (fun _=>?_) fun h=>by cases h
    refine T.ct (x:=[38]) rfl rfl fun u f=>T.ct (y:=[91]) f rfl fun g h1=>T.ct h1 h2 fun d b=>T.ct (y:=[93]) b rfl fun j c=>T.ret ?_
    rw [c];simp [aK,pE,k6,rE,Pc.txt]
   |
    neg k a hk=>
    have hkl:=iV hk;have hsk:szE k≤1048576:=by simp only [b7] at hsz;omega
    simp only [dS] at hdp;have hb:(aK (oG 6 k)).length≤(aK (pE k)).length+2:=sX _ _;refine T.bind (P:=fun y=>y=false) (T.ret rfl) fun y hy=>?_
    subst hy;refine T.cond (fun h=>by cases h) fun _=>T.bind (P:=fun y=>dl y=aK (pE k)) (T.cond (fun _=>T.to (x:=k) rfl (T.bind (iE k hk hsk (by omega)) fun r e=>T.ret e)) fun h=>by cases h) fun y h2=>?_
    iterate 8 refine T.cond (fun h=>by cases h) fun _=>?_
    refine T.cond (fun _=>?_) fun h=>by cases h
    refine T.to (x:=k) rfl (T.bind (iK k 6 hk (by omega) hsk (by omega)) fun i h2=>T.ct (x:=[45]) rfl h2 fun d b=>T.ret ?_);rw [b];simp [aK,pE,k6,rE,Pc.txt]
   |
    not k a hk=>
    have hkl:=iV hk;have hsk:szE k≤1048576:=by simp only [b7] at hsz;omega
    simp only [dS] at hdp;have hb:(aK (oG 6 k)).length≤(aK (pE k)).length+2:=sX _ _;refine T.bind (P:=fun y=>y=false) (T.ret rfl) fun y hy=>?_
    subst hy;refine T.cond (fun h=>by cases h) fun _=>T.bind (P:=fun y=>dl y=aK (pE k)) (T.cond (fun _=>T.to (x:=k) rfl (T.bind (iE k hk hsk (by omega)) fun r e=>T.ret e)) fun h=>by cases h) fun y h2=>?_
    iterate 9 refine T.cond (fun h=>by cases h) fun _=>?_
    refine T.cond (fun _=>?_) fun h=>by cases h
    refine T.to (x:=k) rfl (T.bind (iK k 6 hk (by omega) hsk (by omega)) fun i h2=>T.ct (x:=[33]) rfl h2 fun d b=>T.ret ?_);rw [b];simp [aK,pE,k6,rE,Pc.txt]
   |
    bin op l r a ho hl hr=>
    simp only [dS] at hdp;simp only [b7] at hsz;obtain ⟨o,p⟩:=Ok ho;have v:(aK (oG (lev op) l)).length≤(aK (pE l)).length+2:=sX _ _;have w:(aK (oG (lev op+1) r)).length≤(aK (pE r)).length+2:=sX _ _;have z:=lS op;have A:=iV hl;have B:=iV hr
    have hw:ζ.wrap ((lev op:Int)+1)=((lev op+1:Nat):Int):=wn (by omega);simp only [Ξ o,Ξ p,ξ,δ];refine T.cond (fun h=>by simp at h) fun _=>?_
    refine T.to (It ho) (T.to (x:=l) rfl (T.to (Bz op) (T.bind (iK l (lev op) hl (by omega) (by omega) (by omega)) fun g h1=>T.ct (y:=[32]) h1 rfl fun i h2=>T.ct h2 rfl (fun d b=>T.ct (y:=[32]) b rfl (fun j c=>T.to (x:=r) rfl (T.to (Bz op) (?_))) (by simp only [υ,Ψ,aB];omega)) (by simp only [υ,Ψ,aB];omega))));rw [hw];refine T.bind (iK r (lev op+1) hr (by omega) (by omega) (by omega)) fun C q=>T.ct c q (fun F t=>T.ret ?_) (by simp only [υ,Ψ,aB];omega)
    rw [t,pw ho];simp [aK,Pc.txt]
  show T (B8 (DG N).1 (DG N).2 e (k:Int)) _
  have hlen:=iV h;unfold B8;refine T.to (Bz _) (T.cond (fun h'=>?_) fun h'=>?_)
  ·refine T.bind (iE e h hs (by omega)) fun r hr=>T.ct (x:=[40]) rfl hr fun g h1=>T.ct (y:=[41]) h1 rfl fun i h2=>T.ret ?_
   rw [h2];show _=aK (nL k (lev e.gj,pE e))
   rw [zV (by have:=aY h';simp only;omega)];simp [aK,Pc.txt]
  refine T.bind (iE e h hs (by omega)) fun r hr=>T.ret ?_
  show dl r=aK (nL k (lev e.gj,pE e))
  rw [vh (by have:=a9 h';simp only;omega)];exact hr
def dX {e:Kf}(h:VE e)(hs:szE e≤1048576):T (B0 e) fun r=>dl r=aK (pE e):=by
 obtain ⟨r,h1,h2⟩:=(EO (2*dpE e)).1 e h hs (Φ _);exact ⟨r,Ow _ _ h1,h2⟩
end
section
open Go
def JB (x:List Pc):∀ L:List (List Pc),aK (jm (L++[x]))=(if L=[] then [] else aK (jm L)++[44,32])++aK x
 | []=>rfl
 |
  [y]=>by
  show aK (y++(mk ⟨#[44]⟩::.sp 32::x))=_
  rw [aF (by simp),mz,p6,p6];simp [Pc.txt,jm]
 |
  y::z::l=>by
  have ih:=JB x (z::l);rw [aF (by simp)] at ih ⊢;show aK (y++(mk ⟨#[44]⟩::.sp 32::jm (z::l++[x])))=aK (y++(mk ⟨#[44]⟩::.sp 32::jm (z::l)))++[44,32]++aK x
  simp only [mz,p6,ih,aS]
def L5:∀ (B A:List (List Pc)),(aK (jm A)).length≤(aK (jm (A++B))).length
 | [],A=>by simp
 |
  x::B,A=>by
  have h1:=a6 fc (JB x A);have h2:=L5 B (A++[x]);rw [aS] at h2;refine eJ ?_ h2;rw [h1];by_cases h:A=[]
  ·subst h;exact fM _
  rw [aF h];simp only [υ];omega
def mn {β:Type}{l:List β}{pr:β→Option η}{pc:β→List Pc}{u:η}{U:List aC}(hU:dl u=U)(hpr:∀ x∈l,T (pr x) fun r=>dl r=aK (pc x))(hl:l.length≤1048576)(hb:U.length+(aK (jm (l.map pc))).length≤10000000000000)
  {F:η×Int→Option (Step (η×Int) η)} (hF:∀ s,F s=(bif (decide (s.2<(l.length:Int))) then (κ (α:=η) (bif (decide ((0:Int)<s.2)) then ((bD s.1 je).bind fun x=>some x) else some s.1) fun y=>((idx l s.2).bind fun x=>((pr x).bind fun z=>((bD y z).bind fun w=>some (.next (w,(ζ.wrap (s.2+(1:Int))))))))) else some (.done s.1))) :
  T (aE F (u,(0:Int))) fun r=>dl r=U++aK (jm (l.map pc)):=by
 refine T.each l (fun pre s=>dl s.1=U++aK (jm (pre.map pc))∧s.2=(pre.length:Int)) ⟨by rw [hU];exact (aN _).symm,rfl⟩ (fun pre x post s e hi=>?_) fun s hi=>?_;obtain ⟨h1,h2⟩:=hi;obtain ⟨a,b⟩:=s;simp only at h1 h2;subst h2;have hx:=hpr x (iW e);have hs:=JB (pc x) (pre.map pc);have hlen:=L5 (post.map pc) ((pre++[x]).map pc);have el:(pre++[x]).map pc++post.map pc=l.map pc:=by rw [e];simp
 rw [el] at hlen;rw [List.map_append,List.map_singleton,hs] at hlen;rw [hF,fL e,ξ];simp only [υ] at hlen;refine T.bind (P:=fun y=>dl y=U++(if pre.map pc=[] then [] else aK (jm (pre.map pc))++[44,32])) (T.cond (fun h=>?_) fun h=>T.ret ?_) fun y hy=>T.to (kh e) (T.bind hx fun z hz=>T.ct hy hz (fun w hw=>T.next ⟨?_,?_⟩) (by simp only [υ];omega));have hne:pre.map pc≠[]:=fun q=>by have:=a6 fc q;rw [b6] at this;have:=aY h;simp only at this;simp_all
 rw [aF hne] at hlen ⊢;simp only [υ] at hlen;exact T.ct (y:=[44,32]) h1 rfl (fun r e=>T.ret (by rw [e,aS])) (by simp only [υ];omega);have hn:pre=[]:=by have:=a9 h;simp only at this;exact List.length_eq_zero_iff.1 (by omega)
 subst hn;exact h1;rw [hw,List.map_append,List.map_singleton,hs,aS];show ζ.wrap _=_;rw [fK e (by omega)];simp;obtain ⟨h1,h2⟩:=hi;rw [hF,h2,jR,θ];exact T.done h1
def yv {b:Nat}{s:Kk}(h:VS b s)(t:s.gj≠6)(u:s.gj≠7)(hbig:jt s≤1048576):T (Ho s) fun r=>dl r=aK (k7 s):=by
 have hz:=oI s;unfold Ho;cases h with
 |
  call d f es a hf he=>
  have h1:=hf.len;have h2:=Cp he
  have v:b7 es≤1048575:=by simp only at hz;omega
  have hl:=p5 es;refine T.cond (fun _=>?_) fun h=>by cases h
  refine T.ct (y:=[40]) rfl rfl fun o k=>T.bind (mn (pc:=pE) k (fun x hx=>dX (he x hx).1 (by have:=wM hx;omega)) (by omega) (by simp only [υ,Ψ,aB];omega) (fun _=>rfl)) fun l g=>T.bind (P:=fun y=>y=l) (T.cond (fun h=>by cases h) fun _=>T.ret rfl) fun y hy=>?_
  subst hy;refine T.ct (y:=[41,59]) g rfl fun m i=>T.ret ?_
  rw [i];simp [k7,pF,aK,Pc.txt]
 |
  callTo d s f es a hs hf he=>
  have C:=hs.len;have h1:=hf.len;have h2:=Cp he
  have v:b7 es≤1048575:=by simp only at hz;omega
  have hl:=p5 es;have hne:s≠ε:=fun e=>by
   obtain ⟨c,r,h,_⟩:=hs.al.hd;rw [e] at h;cases h
  refine T.cond (fun _=>?_) fun h=>by cases h
  refine T.ct (y:=[40]) rfl rfl fun o k=>T.bind (mn (pc:=pE) k (fun x hx=>dX (he x hx).1 (by have:=wM hx;omega)) (by omega) (by simp only [υ,Ψ,aB];omega) (fun _=>rfl)) fun l g=>T.bind (P:=fun y=>dl y=(dl s++[32,61,32])++dl l) (T.cond (fun _=>?_) fun h=>?_) fun y hy=>?_
  ·exact T.ct (x:=dl s) (y:=[32,61,32]) rfl rfl fun w p=>T.ct (y:=dl l) p rfl (fun z q=>T.ret q) (by rw [g];simp only [υ,Ψ,aB];omega)
  ·have:decide (s=(ν #[]))=false:=Δ hne;rw [this] at h;cases h
  rw [g] at hy;refine T.ct (y:=[41,59]) hy rfl fun m i=>T.ret ?_
  rw [i];simp [k7,pF,aK,Pc.txt,hne]
 |
  input d s a hs=>
  have h1:=hs.len;refine T.cond (fun h=>by cases h) fun _=>T.cond (fun _=>?_) fun h=>by cases h
  refine T.ct (x:=dl s) (y:=[32,61,32,105,110,112,117,116,40,41,59]) rfl rfl fun n j=>T.ret ?_
  show dl n=aK [nm s,.sp 32,mk ⟨#[61]⟩,.sp 32,mk ⟨#[105,110,112,117,116]⟩,mk ⟨#[40]⟩,mk ⟨#[41]⟩,mk ⟨#[59]⟩]
  rw [j];simp [aK,Pc.txt]
 |
  assign d s e a hs he=>
  have h1:=hs.len;have h2:=iV he.1
  simp only [hm] at hz;refine T.cond (fun h=>by cases h) fun _=>T.cond (fun h=>by cases h) fun _=>T.bind (P:=fun b=>b=false) (T.ret rfl) fun b hb=>?_
  subst hb;refine T.cond (fun h=>by cases h) fun _=>T.to (x:=e) rfl (T.bind (dX he.1 (by omega)) fun l g=>?_)
  refine T.cond (fun _=>?_) fun h=>by cases h
  refine T.ct (y:=[32,61,32]) rfl rfl fun o k=>T.ct k g fun m i=>T.ct (y:=[59]) i rfl fun n j=>T.ret ?_
  rw [j];simp [k7,pF,aK,Pc.txt]
 |
  put d s e f a hs he hf=>
  have h1:=hs.len;have h2:=iV he.1;have F:=iV hf.1
  simp only [tU] at hz;refine T.cond (fun h=>by cases h) fun _=>T.cond (fun h=>by cases h) fun _=>T.bind (P:=fun b=>b=false) (T.ret rfl) fun b hb=>?_
  subst hb;refine T.cond (fun h=>by cases h) fun _=>T.to (x:=e) rfl (T.bind (dX he.1 (by omega)) fun l g=>?_)
  refine T.cond (fun h=>by cases h) fun _=>T.cond (fun _=>?_) fun h=>by cases h
  refine T.ct (y:=[91]) rfl rfl fun o k=>T.ct k g fun m i=>T.ct (y:=[93,32,61,32]) i rfl fun n j=>T.to (x:=f) rfl (T.bind (dX hf.1 (by omega)) fun w p=>T.ct j p fun z q=>T.ct (y:=[59]) q rfl fun G A=>T.ret ?_)
  rw [A];simp [k7,pF,aK,Pc.txt]
 |
  store d s e a hs he=>
  have h1:=hs.len;have h2:=iV he.1
  simp only [hm] at hz;refine T.cond (fun h=>by cases h) fun _=>T.cond (fun h=>by cases h) fun _=>T.bind (P:=fun b=>b=false) (T.ret rfl) fun b hb=>?_
  subst hb;refine T.cond (fun h=>by cases h) fun _=>T.to (x:=e) rfl (T.bind (dX he.1 (by omega)) fun l g=>?_)
  iterate 2 refine T.cond (fun h=>by cases h) fun _=>?_
  refine T.cond (fun _=>?_) fun h=>by cases h
  refine T.ct (x:=[42]) rfl rfl fun H B=>T.ct (y:=[32,61,32]) B rfl fun o k=>T.ct k g fun m i=>T.ct (y:=[59]) i rfl fun n j=>T.ret ?_
  rw [j];simp [k7,pF,aK,Pc.txt]
 |
  ret d e a he=>
  have h2:=iV he.1;simp only [hm] at hz;refine T.cond (fun h=>by cases h) fun _=>T.cond (fun h=>by cases h) fun _=>T.bind (P:=fun b=>b=false) (T.ret rfl) fun b hb=>?_
  subst hb;refine T.cond (fun h=>by cases h) fun _=>T.to (x:=e) rfl (T.bind (dX he.1 (by omega)) fun l g=>?_)
  iterate 3 refine T.cond (fun h=>by cases h) fun _=>?_
  refine T.cond (fun _=>?_) fun h=>by cases h
  refine T.ct (x:=[114,101,116,117,114,110,32]) rfl g fun m i=>T.ct (y:=[59]) i rfl fun n j=>T.ret ?_
  rw [j];simp [k7,pF,aK,Pc.txt]
 |
  assert d e a he=>
  have h2:=iV he.1;simp only [hm] at hz;refine T.cond (fun h=>by cases h) fun _=>T.cond (fun h=>by cases h) fun _=>T.bind (P:=fun b=>b=false) (T.ret rfl) fun b hb=>?_
  subst hb;refine T.cond (fun h=>by cases h) fun _=>T.to (x:=e) rfl (T.bind (dX he.1 (by omega)) fun l g=>?_)
  iterate 4 refine T.cond (fun h=>by cases h) fun _=>?_
  refine T.cond (fun _=>?_) fun h=>by cases h
  refine T.ct (x:=[97,115,115,101,114,116,40]) rfl g fun m i=>T.ct (y:=[41,59]) i rfl fun n j=>T.ret ?_
  rw [j];simp [k7,pF,aK,Pc.txt]
 | ite d e ks ls a he hk hl=>exact bH rfl t
 | loop d e ks a he hk=>exact bH rfl u
end
section
open Go
abbrev N7 (N:Nat):=Kc3 N
def Iv:∀ (N b d:Nat) (l:List Kk),VSs b l→d+b≤100→szSs l≤1048576→b+1≤N→T ((N7 N) l (d:Int)) fun r=>dl r=aK (ip d l)
 | 0,_,_,_,_,_,_,h=>by omega
 |
  N+1,b,d,l,hv,hd,hs,hN=>by
  show T (Cc (N7 N) l (d:Int)) _
  unfold Cc;have hl:=we l;have htot:=yP hv d hd;have hrep:(aV d (9:aC)).length=d:=List.length_replicate;refine T.bind (P:=fun r=>dl r=aK (ip d l)) (T.each l (fun pre s=>dl s.1=aK (ip d pre)∧s.2=(pre.length:Int)) ⟨rfl,rfl⟩ (fun pre x post s e hi=>?_) fun s hi=>?_) fun y hy=>T.ret hy
  ·obtain ⟨h1,h2⟩:=hi;obtain ⟨M,O⟩:=s;simp only at h1 h2;subst h2;have hx:=lI hv x (iW e);have hxs:=GS e;have hsn:ip d (pre++[x])=ip d pre++pS d x:=by rw [Fh];simp [ip]
   have hlen:(aK (ip d pre)).length+(aK (pS d x)).length≤(aK (ip d l)).length:=by
    rw [e,Fh,iN];simp only [ip];rw [iN];omega
   have hend:ζ.wrap ((pre.length:Int)+1)=(((pre++[x]).length:Nat):Int):=by rw [fK e (by omega)];simp
   rw [fL e,ξ];refine T.to (kh e) ?_;by_cases c:x.gj=6∨x.gj=7
   ·obtain ⟨b',op,g,ks,ls,a,hop,hb,rfl,he,hk,hls⟩:∃ (b':Nat) (op:Int) (g:Kf) (ks ls:List Kk) (a:Int),(op=6∨(op=7∧ls=[]))∧b=b'+1∧x=⟨op,ε,ε,[g],ks,ls,a⟩∧VX g∧VSs b' ks∧VSs b' ls:=by
     cases hx with
     | ite b' g ks ls a he hk hl=>exact ⟨b',6,g,ks,ls,a,.inl rfl,rfl,rfl,he,hk,hl⟩
     | loop b' g ks a he hk=>exact ⟨b',7,g,ks,[],a,.inr ⟨rfl,rfl⟩,rfl,rfl,he,hk,.nil _⟩
     | _=>simp only at c;omega
    have hz:=o3 op ε ε [g] ks ls a;rw [hm] at hz;have k1:=iV he.1;have k2:=yP hk (d+1) (by omega);have Q:=yP hls (d+1) (by omega)
    have hpS:aK (pS d ⟨op,ε,ε,[g],ks,ls,a⟩)=aK (jy d (pH op [pE g]))++(aK (ip (d+1) ks)++((if ls.isEmpty then [] else aK (jy d [mk ⟨#[125]⟩,.sp 32,mk ⟨#[101,108,115,101]⟩,.sp 32,mk ⟨#[123]⟩])++aK (ip (d+1) ls))++aK (jy d [mk ⟨#[125]⟩]))):=by
     simp only [pS];rw [aQ (by omega)];simp only [mz,a7,fg];cases ls.isEmpty<;>simp [mz,IS]
    have hw:=wn (n:=d) (by omega);refine T.bind (P:=fun y=>y=false) (T.cond (fun _=>T.cond (fun h=>?_) fun _=>T.ret rfl) fun _=>T.ret rfl) fun y hy=>?_
    ·rcases hop with rfl|⟨rfl,_⟩<;>simp at *
    subst hy;refine T.cond (fun h=>by cases h) fun _=>T.bind (P:=fun y=>dl y++(aK (pE g)++[41,32,123])=aK (pH op [pE g])∧(dl y).length≤7) (T.cond (fun h=>T.ret ?_) fun h=>T.ret ?_) fun R i=>?_
    ·have:op=6:=by simpa using h
     exact ⟨by simp [pH,this,aK,Pc.txt,dl],by decide⟩
    ·have:op≠6:=by simpa using h
     exact ⟨by simp [pH,this,aK,Pc.txt,dl],by decide⟩
    obtain ⟨i,U⟩:=i;refine T.bind (qR (by omega)) fun w j=>T.ct j rfl (fun z k=>T.to (x:=g) rfl (T.bind (dX he.1 (by omega)) fun A m=>T.ct k m (fun B o=>T.ct (y:=[41,32,123,10]) o rfl (fun C p=>?_))))
    rw [hw];refine T.bind (Iv N b' (d+1) ks hk (by omega) (by omega) (by omega)) fun V F=>T.ct p F (fun W G=>T.ct h1 G (fun v q=>T.bind (P:=fun y=>y=!ls.isEmpty) (T.cond (fun h=>T.ret ?_) fun h=>T.ret ?_) fun X f=>T.bind (P:=fun y=>dl y=dl v++(if ls.isEmpty then [] else aK (jy d [mk ⟨#[125]⟩,.sp 32,mk ⟨#[101,108,115,101]⟩,.sp 32,mk ⟨#[123]⟩])++aK (ip (d+1) ls))) (T.cond (fun h=>?_) fun h=>T.ret ?_) fun y hy=>?_))
    ·cases ls<;>simp
    ·have:op≠6:=by simpa using h
     rcases hop with h|⟨_,rfl⟩
     ·exact bH h this
     rfl
    ·have hne:ls.isEmpty=false:=by rw [h] at f;simpa using f.symm
     rw [hne];refine T.bind (qR (by omega)) fun H f1=>T.ct (y:=[125,32,101,108,115,101,32,123,10]) f1 rfl fun I t=>?_
     refine T.bind (Iv N b' (d+1) ls hls (by omega) (by omega) (by omega)) fun Y J=>T.ct t J (fun Z K=>T.ct (x:=dl v) rfl K (fun L u=>T.ret ?_) (by rw [q];simp only [υ,Ψ,aB];omega))
     rw [u,BY];simp [aK,Pc.txt]
    ·have hne:ls.isEmpty=true:=by rw [h] at f;simpa using f.symm
     rw [hne];simp
    have aa:(dl y).length≤2000000000:=by
     rw [hy,q];split
     ·simp only [υ,Ψ,aB];omega
     have:=wL d [mk ⟨#[125]⟩,.sp 32,mk ⟨#[101,108,115,101]⟩,.sp 32,mk ⟨#[123]⟩];rw [show (aK [mk ⟨#[125]⟩,.sp 32,mk ⟨#[101,108,115,101]⟩,.sp 32,mk ⟨#[123]⟩]).length=8 from rfl] at this;simp only [υ,Ψ,aB];omega
    refine T.bind (qR (by omega)) fun H f1=>T.ct (y:=[125,10]) f1 rfl fun I t=>T.ct (x:=dl y) rfl t (fun L u=>T.next ⟨?_,hend⟩)
    rw [u,hy,q,hsn,mz,hpS];simp only [BY];rw [← i];simp [aK,Pc.txt]
   have hpS:pS d x=jy d (k7 x):=by
    cases x with
    |
     mk op nm fn es ks ls a=>
     simp only at c;simp only [pS];rw [aF c];rfl
   rw [hpS] at hlen hsn;rw [wL] at hlen;refine T.bind (P:=fun y=>y=true) (T.cond (fun _=>T.cond (fun _=>T.ret rfl) fun h=>bH (.inr (by simpa using h)) c) fun h=>bH (.inl (by simpa using h)) c) fun y hy=>?_
   subst hy;refine T.cond (fun _=>T.bind (qR (by omega)) fun w j=>T.bind (yv hx (by omega) (by omega) (by omega)) fun z k=>T.ct j k fun A m=>T.ct (y:=[10]) m rfl fun B o=>T.ct h1 o fun C p=>T.next ⟨?_,hend⟩) fun h=>by cases h
   rw [p,hsn,mz,BY,aS]
  obtain ⟨h1,h2⟩:=hi;rw [h2,jR,θ];exact T.done h1
def BC {b d:Nat}{l:List Kk}(hv:VSs b l)(hd:d+b≤100)(hs:szSs l≤1048576):T (G6 l (d:Int)) fun r=>dl r=aK (ip d l):=by
 obtain ⟨r,h1,h2⟩:=Iv (b+1) b d l hv hd hs (Φ _);exact ⟨r,O6 _ _ _ h1,h2⟩
def vG {f:KC}(h:VF f):T (Hn f) fun r=>dl r=aK (qB f):=by
 have h1:=h.nm.len;have h2:=HK h.ps;have o:=mb h.ls;have p:=yP h.body 1 (by omega);have q:=h.many;have t:=h.size;unfold Hn;refine T.ct (x:=[105,110,116,32]) rfl rfl fun u b=>T.ct (y:=[40]) b rfl fun w c=>T.bind (mn (pc:=pV) c (fun v hv=>qQ (h.ps v hv)) (by omega) (by simp only [υ,Ψ,aB];omega) (fun _=>rfl)) fun z g=>T.ct (y:=[41,32,123,10]) g rfl fun B a=>?_;generalize hA:[105,110,116,32]++dl f.gb++[40]++aK (jm (f.gh.map pV))++[41,32,123,10]=A at a;have hAl:A.length≤1000:=by rw [← hA];simp only [υ,Ψ,aB];omega
 refine T.bind (P:=fun y=>dl y=A++aK (j5 f.gi)) (T.each f.gi (fun pre s=>dl s.1=A++aK (j5 pre)∧s.2=(pre.length:Int)) ⟨by rw [a];simp [j5,aK],rfl⟩ (fun pre x post s e hi=>?_) fun s hi=>?_) fun y hy=>T.bind (BC (d:=1) h.body (by omega) h.size) fun C i=>T.ct hy i fun F j=>T.ct (y:=[125,10]) j rfl fun G k=>T.ret ?_;obtain ⟨k1,k2⟩:=hi;obtain ⟨H,I⟩:=s;simp only at k1 k2;subst k2;have hlp:(aK (j5 pre)).length≤(aK (j5 f.gi)).length:=by rw [e,Hg,iN];omega
 have hx:=kK (h.ls x (iW e));have:=BZ e;rw [fL e,ξ];refine T.to (kh e) (T.bind (qQ (h.ls x (iW e))) fun J f1=>T.ct (x:=[9]) rfl f1 fun K l=>T.ct (y:=[59,10]) l rfl fun L m=>T.ct k1 m fun M n=>T.next ⟨?_,?_⟩);rw [n,Hg,mz,show j5 [x]=jy 1 (pV x++[mk ⟨#[59]⟩]) by simp [j5],BY,mz];simp [aK,Pc.txt];show ζ.wrap _=_;rw [fK e (by omega)];simp;obtain ⟨k1,k2⟩:=hi;rw [k2,jR,θ];exact T.done k1;unfold qB;rw [k,← hA];simp only [mz,BY,p6,IS,Pc.txt];simp
def pQ {g:KR}(h:VG g):T (Hz g) fun r=>dl r=aK (r1 g):=by
 have h1:=h.nm.len;have h2:=h.lo;have j:=h.hi;unfold Hz r1 pV;refine T.cond (fun hp=>?_) fun hp=>T.cond (fun hs=>?_) fun hs=>?_;exact T.ct (x:=[105,110,116,32,42]) rfl rfl fun c a=>T.ct (y:=[59,10]) a rfl fun d b=>T.ret (by rw [b,hp];simp [aK,Pc.txt]);have hs':=aY hs;have hn:=Fe (n:=g.gC) (by omega) (by omega);exact T.ct (x:=[105,110,116,32]) rfl rfl fun c a=>T.ct (y:=[91]) a rfl fun d b=>T.bind (EL (by omega) (by omega)) fun k e=>T.ct b e fun l f=>T.ct (y:=[93,59,10]) f rfl fun m i=>T.ret (by rw [i,hp];simp [aK,Pc.txt,hs']);have hs':=a9 hs;exact T.ct (x:=[105,110,116,32]) rfl rfl fun c a=>T.ct (y:=[59,10]) a rfl fun d b=>T.ret (by rw [b,hp];simp [aK,Pc.txt,hs'])
end
end Go.Proofs.YticifeeokcgfkaaGreatDoor.Ab
namespace Go.Proofs.YticifeeokcgfkaaGreatDoor.Ab
section
open Go
def vI:∀ (n:Nat) (e:Kf),dpE e≤n→szE e≤1048576→Kch n e=some (dpE e:Int)
 | 0,e,h,_=>by rw [kS] at h;omega
 |
  n+1,e,h,hb=>by
  show yZ (Kch n) e=_
  unfold yZ;have hs:=la e;have hd:=kS e;have hde:=pO e;have hl:=p5 e.gd;refine wR e.gd (fun pre=>dS pre) (fun a n=>((a:Nat),(n:Nat))) (fun a=>(a:Int)) (by simp [b7,dS]) (fun pre x post hp=>?_) ?_ ?_
  ·have hk:=GX (iW hp);simp only [fL hp,ξ];rw [fK hp (by omega)];rw [show idx e.gd (pre.length:Int)=some x by rw [hp];exact iX _ _ _,δ,vI n x (by omega) (by omega),δ];rw [HD];simp only [dS];congr 3;omega
  ·simp only [jR,θ]
  rw [hd,kR (by omega) (by omega)];congr 1;omega
def yC {e:Kf}(hb:szE e≤1048576):Fb e=some (dpE e:Int):=MY e (dpE e) (vI _ e (Φ _) hb)
def qs:∀ (n:Nat) (e:Kf),dpE e≤n→szE e≤1048576→Kc9 n e=some (dpE e:Int)
 | 0,e,h,_=>by rw [kS] at h;omega
 |
  n+1,e,h,hb=>by
  show Cl (Kc9 n) e=_
  unfold Cl;have hs:=la e;have hd:=kS e;have hde:=pO e;have hl:=p5 e.gd;refine wR e.gd (fun pre=>dS pre) (fun a n=>((a:Nat),(n:Nat))) (fun a=>(a:Int)) (by simp [b7,dS]) (fun pre x post hp=>?_) ?_ ?_
  ·have hk:=GX (iW hp);simp only [fL hp,ξ];rw [fK hp (by omega)];rw [show idx e.gd (pre.length:Int)=some x by rw [hp];exact iX _ _ _,δ,qs n x (by omega) (by omega),δ];rw [HD];simp only [dS];congr 3;omega
  ·simp only [jR,θ]
  rw [hd,kR (by omega) (by omega)];congr 1
def ut {e:Kf}(hb:szE e≤1048576):GY e=some (dpE e:Int):=OB e (dpE e) (qs _ e (Φ _) hb)
end
end Go.Proofs.YticifeeokcgfkaaGreatDoor.Ab
namespace Go.Proofs.YticifeeokcgfkaaGreatDoor.Ab.Pq
open Go
abbrev c9:=KJ
abbrev Xp:=Kf
abbrev jl:=Kr
def z0:c9:=⟨0,ε,0,0⟩
def jg:Xp:=⟨0,0,ε,[],0⟩
def lk (L:List c9)(i:Nat):c9:=L.getD i z0
def mk (L:List c9)(i:Nat)(e:Int):jl:=⟨L,(i:Int),e⟩
def yL {L:List c9}{i:Nat}(h:L.length≤i):lk L i=z0:=by unfold lk;rw [fx,jq h];rfl
def fR {L:List c9}{i:Nat}(h:(lk L i).gp≠0):i<L.length:=by
 rcases fU i L.length with q|q;exact q;rw [yL q] at h;exact bH rfl h
def Gy (L:List c9)(i:Nat)(e:Int):wj (mk L i e)=some (lk L i):=by
 unfold wj mk;simp only [];by_cases h:L.length≤i;rw [Ξ (by omega),ξ,yL h];rfl;rw [Δ (by omega),θ,lb];unfold lk;rw [fx,bF (by omega)];rfl
def isS (L:List c9)(i:Nat)(s:η):Bool:=(lk L i).gp==3 && decide ((lk L i).gq=s)
def is_eq (L:List c9)(i:Nat)(e:Int)(s:η):FQ (mk L i e) s=some (isS L i s):=by
 unfold FQ isS;rw [Gy,δ];cases (lk L i).gp==3<;>rfl
def v8 {L:List c9}{i:Nat}{s:η}(h:isS L i s=true):i<L.length∧(lk L i).gp=3∧(lk L i).gq=s:=by
 unfold isS at h;simp only [aR,beq_iff_eq,bJ] at h;exact ⟨fR (by rw [h.1];decide),h⟩
def EW (L:List c9)(i a:Nat)(e k:Int):rq (mk L i e) (a:Int) k=some (bif e==0 then mk L a k else mk L i e):=by
 unfold rq mk;cases h:e==0<;>simp only [h,ξ,θ]
def gH {i:Nat}(h:i≤4000000):ζ.wrap ((i:Int)+1)=((i+1:Nat):Int):=by rw [kR (by omega) (by omega)];omega
def ml {L:List c9}{i:Nat}(s:η)(h:i≤4000000):wt (mk L i 0) s=some (bif isS L i s then mk L (i+1) 0 else mk L i 3):=by
 unfold wt;rw [is_eq,δ];cases isS L i s;simp only [a3,ξ,θ];show κ (rq (mk L i 0) (i:Int) 3) _=_;rw [EW,δ];rfl;simp only [bI,ξ,θ];show some (⟨L,ζ.wrap ((i:Int)+1),0⟩:jl)=_;rw [gH h];rfl
def name_eq {L:List c9}{i:Nat}(h:i≤4000000):zd (mk L i 0)=some (bif (lk L i).gp==1 then ((lk L i).gq,mk L (i+1) 0) else (ε,mk L i 3)):=by
 unfold zd;rw [Gy,δ];cases hk:(lk L i).gp==1;simp only [bne,hk,a3,ξ,θ];show κ (rq (mk L i 0) (i:Int) 3) _=_;rw [EW,δ];rfl;simp only [bne,hk,bI,ξ,θ];show some (_,(⟨L,ζ.wrap ((i:Int)+1),0⟩:jl))=_;rw [gH h];rfl
def wb {L:List c9}{i a:Nat}{e:Int}{x:Xp}(hx:e=0→szE x≤1048576):mL (mk L i e) x (a:Int)=some (bif e==0 then bif decide (24<dpE x) then (jg,mk L a 5) else (x,mk L i 0) else (jg,mk L i e)):=by
 unfold mL;show (bif e != 0 then _ else _)=_;cases he:e==0;simp only [bne,he,a3,ξ,θ];rfl;have b:e=0:=by simpa using he
 subst b;simp only [bne,he,bI,ξ,θ];rw [yC (hx rfl),δ];by_cases hd:24<dpE x;rw [Ξ (by omega),ξ,Ξ hd,ξ,EW,δ];rfl;rw [Δ (by omega),θ,Δ hd,θ]
def bt (k:Int)(s:η):Int:=(sO k s).getD 0
def Gx (s a:η)(x:Int)(b:η)(y:Int):wV s a x b y=some (bif decide (s=a) then x else bif decide (s=b) then y else 0):=by
 unfold wV;cases decide (s=a)<;>cases decide (s=b)<;>rfl
def pY (k:Int)(s:η):sO k s=some (bt k s):=by
 have h:∃ r,sO k s=some r:=by unfold sO;simp only [Gx,δ];cases k==0;cases k==1;cases k==2;cases k==3;cases k==4;cases k==5;exact ⟨_,rfl⟩;cases decide (s=ν #[37])<;>exact ⟨_,rfl⟩;exact ⟨_,rfl⟩;exact ⟨_,rfl⟩;exact ⟨_,rfl⟩;cases decide (s=ν #[38,38])<;>exact ⟨_,rfl⟩;cases decide (s=ν #[124,124])<;>exact ⟨_,rfl⟩
 obtain ⟨r,h⟩:=h;unfold bt;rw [h];rfl
def q7 (k:Int):bt k fO=0:=by
 unfold bt sO;simp only [Gx,δ];rw [Δ (p:=ν #[41]=ν #[124,124]) (by decide),Δ (p:=ν #[41]=ν #[38,38]) (by decide),Δ (p:=ν #[41]=ν #[61,61]) (by decide),Δ (p:=ν #[41]=ν #[33,61]) (by decide),Δ (p:=ν #[41]=ν #[60]) (by decide),Δ (p:=ν #[41]=ν #[60,61]) (by decide),Δ (p:=ν #[41]=ν #[43]) (by decide),Δ (p:=ν #[41]=ν #[45]) (by decide),Δ (p:=ν #[41]=ν #[37]) (by decide),Δ (p:=ν #[41]=ν #[42]) (by decide),Δ (p:=ν #[41]=ν #[47]) (by decide)];cases k==0<;>cases k==1<;>cases k==2<;>cases k==3<;>cases k==4<;>cases k==5<;>rfl
mutual
def jS (p:Int):Xp→Xp
 | ⟨a,b,c,ks,d⟩=>⟨a,b,c,jb p ks,d+p⟩
def jb (p:Int):List Xp→List Xp
 | []=>[]
 | e::l=>jS p e::jb p l
end
def AV (p:Int)(e:Xp):jS p e=⟨e.gj,e.gN,e.gb,jb p e.gd,e.ga+p⟩:=by cases e;simp only [jS]
def m3 (p:Int)(t:c9):c9:=⟨t.gp,t.gq,t.gN,t.ga+p⟩
mutual
def pN (p:Int):∀ e,dpE (jS p e)=dpE e
 | ⟨a,b,c,ks,d⟩=>by simp only [jS,dpE,qS p ks]
def qS (p:Int):∀ l,dS (jb p l)=dS l
 | []=>by simp [jb]
 | e::l=>by simp only [jb,dS,pN p e,qS p l]
end
mutual
def o4 (p:Int):∀ e,szE (jS p e)=szE e
 | ⟨a,b,c,ks,d⟩=>by simp only [jS,szE,qi p ks]
def qi (p:Int):∀ l,b7 (jb p l)=b7 l
 | []=>by simp [jb]
 | e::l=>by simp only [jb,b7,o4 p e,qi p l]
end
structure Mt (L L2:List c9) (d:Nat) (p:Int) (m:Nat):Prop where
 tok:∀ i,i<m→lk L2 (i+d)=m3 p (lk L i)
 fin:(lk L m).gp=0
 stp:(lk L2 (m+d)).gp=3∧(lk L2 (m+d)).gq=ν #[41]
 len:m+d≤1000000
def Mt.lt {L L2:List c9}{d:Nat}{p:Int}{m i:Nat}(h:Mt L L2 d p m)(hi:i≤m)(hk:(lk L i).gp≠0):i<m:=by
 rcases fU i m with q|q;exact q;have:i=m:=by omega
 subst this;exact bH h.fin hk
def AB (L:List c9)(i c s:Nat)(r:Option (Xp×jl))(a:List c9→Nat→Int→Option (Xp×jl)):Prop:=
 ∃ x i' e',r=some (x,mk L i' e')∧(e'=0→i+c≤i'∧i'≤L.length∧dpE x≤24∧szE x+i≤i'+s∧∀ L2 d p m,Mt L L2 d p m→i≤m→i'≤m∧a L2 d p=some (jS p x,mk L2 (i'+d) 0))
def AB.bad {L:List c9}{i c s:Nat}{r:Option (Xp×jl)}{a:List c9→Nat→Int→Option (Xp×jl)}(x:Xp)(i':Nat)(e':Int)(he:e' ≠ 0)(h:r=some (x,mk L i' e')):AB L i c s r a:=⟨x,i',e',h,fun q=>bH q he⟩
def rB {k:Nat}(h:k≤5):ζ.wrap ((k:Int)+1)=((k+1:Nat):Int):=gH (by omega)
abbrev S8:=List c9×Int×Int×Int×Int×η×List Xp×Int
def ji (L:List c9)(j:Nat)(e:Int)(x:Xp):S8:=(L,(j:Int),e,x.gj,x.gN,x.gb,x.gd,x.ga)
def ka (g0:jl→Int→Option (Xp×jl))(d:Int)(a:S8):Option (Step S8 S8):=
 bif a.2.2.1==0 then (wj (⟨a.1,a.2.1,a.2.2.1⟩:Kr)).bind fun c=>κ (α:=Int) (bif c.gp==3 then (sO d c.gq).bind fun g=>some g else some 0) fun e=>bif e==0 then some (.done (a.1,a.2.1,a.2.2.1,a.2.2.2.1,a.2.2.2.2.1,a.2.2.2.2.2.1,a.2.2.2.2.2.2.1,a.2.2.2.2.2.2.2)) else ((g0 (⟨a.1,(ζ.wrap (a.2.1+1)),a.2.2.1⟩:Kr) (ζ.wrap (d+1))).bind fun f=>(mL f.2 (⟨e,0,ε,([(⟨a.2.2.2.1,a.2.2.2.2.1,a.2.2.2.2.2.1,a.2.2.2.2.2.2.1,a.2.2.2.2.2.2.2⟩:Kf),f.1]:List Kf),c.ga⟩:Kf) a.2.1).bind fun b=>some (.next (b.2.gL,b.2.ga,b.2.gE,b.1.gj,b.1.gN,b.1.gb,b.1.gd,b.1.ga))) else some (.done (a.1,a.2.1,a.2.2.1,a.2.2.2.1,a.2.2.2.2.1,a.2.2.2.2.2.1,a.2.2.2.2.2.2.1,a.2.2.2.2.2.2.2))
def gV (k:Int)(t:c9):Int:=bif t.gp==3 then bt k t.gq else 0
def mc {k p:Int}{t:c9}:gV k (m3 p t)=gV k t:=rfl
def L4 {k:Int}{t:c9}(h:gV k t≠0):t.gp≠0:=by
 unfold gV at h;cases hk:t.gp==3;rw [hk] at h;exact bH rfl h;have:t.gp=3:=by simpa using hk
 rw [this];decide
def C5 {g0:jl→Int→Option (Xp×jl)}{k:Int}{L:List c9}{j:Nat}{e:Int}{x:Xp}(he:e≠0):ka g0 k (ji L j e x)=some (.done (ji L j e x)):=by
 unfold ka ji;rw [show (e==0)=false by simp [he],θ]
def yO {g0:jl→Int→Option (Xp×jl)}{k:Int}{L:List c9}{j:Nat}{x:Xp}(hj:j≤4000000):ka g0 k (ji L j 0 x)=(bif gV k (lk L j)==0 then some (.done (ji L j 0 x)) else
  (g0 (mk L (j+1) 0) (ζ.wrap (k+1))).bind fun y=>(mL y.2 ⟨gV k (lk L j),0,ε,[x,y.1],(lk L j).ga⟩ (j:Int)).bind fun q=>some (.next (q.2.gL,q.2.ga,q.2.gE,q.1.gj,q.1.gN,q.1.gb,q.1.gd,q.1.ga))):=by
 cases x;unfold ka ji;simp only [aG,ξ];change κ (wj (mk L j 0)) _=_;rw [Gy,δ,gH hj];unfold gV;cases hk:(lk L j).gp==3;simp only [θ,δ];rfl;simp only [ξ,pY,δ];rfl
def uf (g0:jl→Int→Option (Xp×jl))(L:List c9)(b:Nat)(k:Int)(hL:L.length≤100000)
  (ih:∀ j,b<j→j≤L.length→AB L j 1 0 (g0 (mk L j 0) (ζ.wrap (k+1))) (fun L2 d p=>g0 (mk L2 (j+d) 0) (ζ.wrap (k+1)))) :
  ∀
   (q j:Nat) (x:Xp),L.length-j≤q→b≤j→j≤L.length→dpE x≤24→szE x+b≤j →
   ∃ x' j' e',aE (ka g0 k) (ji L j 0 x)=some (ji L j' e' x')∧(e'=0→j≤j'∧j'≤L.length∧dpE x'≤24∧szE x'+b≤j'∧∀ L2 d p m,Mt L L2 d p m→j≤m→j'≤m∧aE (ka g0 k) (ji L2 (j+d) 0 (jS p x))=some (ji L2 (j'+d) 0 (jS p x'))):=by
 intro q;induction q with
 |
  zero=>
  intro j x hq i h1 hd hs;have hz:lk L j=z0:=yL (by omega);refine ⟨x,j,0,K0 (by rw [yO (by omega),hz];rfl),fun _=>⟨Φ _,h1,hd,hs,fun L2 d p m a hjm=>⟨hjm,?_⟩⟩⟩;refine K0 ?_;rw [yO (by have:=a.len;omega)];rcases fU j m with q|q
  ·rw [a.tok j q,mc,hz];rfl
  have:j=m:=by omega
  subst this;unfold gV;rw [a.stp.1,a.stp.2,q7];rfl
 |
  succ q ihq=>
  intro j x hq i h1 hd hs;by_cases hop:gV k (lk L j)=0
  ·refine ⟨x,j,0,K0 (by rw [yO (by omega),hop];rfl),fun _=>⟨Φ _,h1,hd,hs,fun L2 d p m a hjm=>⟨hjm,?_⟩⟩⟩;refine K0 ?_;rw [yO (by have:=a.len;omega)];rcases fU j m with q|q
   ·rw [a.tok j q,mc,hop];rfl
   have:j=m:=by omega
   subst this;unfold gV;rw [a.stp.1,a.stp.2,q7];rfl
  have hk:=L4 hop;have hlt:=fR hk;have hopb:(gV k (lk L j)==0)=false:=by simp [hop]
  obtain ⟨y,g,f,hr,hg⟩:=ih (j+1) (by omega) (by omega);have hf:=yO (g0:=g0) (k:=k) (L:=L) (j:=j) (x:=x) (by omega);rw [hopb,θ,hr,δ] at hf;by_cases he:f=0
  ·subst he;obtain ⟨g1,l,z,A,n⟩:=hg rfl;have hsz:szE (⟨gV k (lk L j),0,ε,[x,y],(lk L j).ga⟩:Xp)=1+(szE x+szE y):=by simp [la,b7]
   rw [wb (fun _=>by rw [hsz];omega),δ] at hf;simp only [aG,ξ] at hf;by_cases hdd:24<dpE (⟨gV k (lk L j),0,ε,[x,y],(lk L j).ga⟩:Xp)
   ·rw [Ξ hdd,ξ] at hf;refine ⟨jg,j,5,?_,fun h=>by cases h⟩;rw [ig hf];exact K0 (C5 (e:=5) (by decide))
   rw [Δ hdd,θ] at hf;obtain ⟨x',j',e',o,r⟩:=ihq g ⟨gV k (lk L j),0,ε,[x,y],(lk L j).ga⟩ (by omega) (by omega) l (by omega) (by rw [hsz];omega);refine ⟨x',j',e',by rw [ig hf];exact o,fun h=>?_⟩;obtain ⟨k1,k2,s,t,u⟩:=r h;refine ⟨by omega,k2,s,t,fun L2 d p m a hjm=>?_⟩;have hjlt:=a.lt hjm hk;obtain ⟨m1,m2⟩:=n L2 d p m a (by omega);simp only [] at m2;obtain ⟨v,w⟩:=u L2 d p m a m1;refine ⟨v,?_⟩;have c:=yO (g0:=g0) (k:=k) (L:=L2) (j:=j+d) (x:=jS p x) (by have:=a.len;omega)
   rw [a.tok j hjlt,mc,hopb,θ,show j+d+1=j+1+d by omega,m2,δ] at c;have hsh:(⟨gV k (lk L j),0,ε,[jS p x,jS p y],(m3 p (lk L j)).ga⟩:Xp)=jS p ⟨gV k (lk L j),0,ε,[x,y],(lk L j).ga⟩:=by simp only [jS,jb,m3]
   rw [hsh,wb (fun _=>by rw [o4,hsz];omega),δ,pN,Δ hdd] at c;simp only [aG,ξ,θ] at c;rw [ig c];exact w
  rw [wb (fun h=>bH h he),δ,show (f==0)=false by simp [he],θ] at hf;refine ⟨jg,g,f,?_,fun h=>bH h he⟩;rw [ig hf];exact K0 (C5 he)
end Go.Proofs.YticifeeokcgfkaaGreatDoor.Ab.Pq
namespace Go.Proofs.YticifeeokcgfkaaGreatDoor.Ab.Pq
open Go
def oB {α β:Type}(o:Option (α×β)):(o.bind fun x=>some (x.1,x.2))=o:=by cases o<;>rfl
abbrev pg:=Kz
def kw (x:Xp):(⟨x.gj,x.gN,x.gb,x.gd,x.ga⟩:Xp)=x:=by cases x;rfl
def AY (n:Nat)(m:jl):(pg (n+1)).1 m 6=(pg n).2.1 m:=by
 show sN (pg n).1 (pg n).2.1 (pg n).2.2.1 (pg n).2.2.2.1 (pg n).2.2.2.2 m 6=_;unfold sN;rw [show ((6:Int)==6)=true from rfl,ξ,oB]
def AX {n k:Nat}(m:jl)(hk:k≤5):(pg (n+1)).1 m k=((pg n).1 m (ζ.wrap ((k:Int)+1))).bind fun y=>(aE (ka (pg n).1 (k:Int)) (y.2.gL,y.2.ga,y.2.gE,y.1.gj,y.1.gN,y.1.gb,y.1.gd,y.1.ga)).bind fun z=>some ((⟨z.2.2.2.1,z.2.2.2.2.1,z.2.2.2.2.2.1,z.2.2.2.2.2.2.1,z.2.2.2.2.2.2.2⟩:Xp),(⟨z.1,z.2.1,z.2.2.1⟩:jl)):=by
 show sN (pg n).1 (pg n).2.1 (pg n).2.2.1 (pg n).2.2.2.1 (pg n).2.2.2.2 m k=_;unfold sN;rw [show ((k:Int)==6)=false by simp;omega,θ];rfl
def lK {n i:Nat}{L:List c9}(hi:i≤4000000):(pg (n+1)).2.1 (mk L i 0) =
  (bif (lk L i).gp==2 then some (⟨1,(lk L i).gN,ε,[],(lk L i).ga⟩,mk L (i+1) 0)
  else bif (lk L i).gp==1 then (pg n).2.2.1 (mk L (i+1) 0) ⟨2,0,(lk L i).gq,[],(lk L i).ga⟩ 3 (i:Int)
  else bif (lk L i).gp==3 then (pg n).2.2.2.2 (mk L (i+1) 0) (lk L i) (i:Int)
  else some (jg,mk L i 3)):=by
 show zb (pg n).1 (pg n).2.1 (pg n).2.2.1 (pg n).2.2.2.1 (pg n).2.2.2.2 (mk L i 0)=_;unfold zb;rw [Gy,δ];have hw:=gH hi;change (bif false then some _ else _)=_;rw [θ];change (bif (lk L i).gp==2 then some (_,(⟨L,ζ.wrap ((i:Int)+1),0⟩:jl)) else bif (lk L i).gp==1 then κ ((pg n).2.2.1 ⟨L,ζ.wrap ((i:Int)+1),0⟩ _ _ _) _ else bif (lk L i).gp==3 then κ ((pg n).2.2.2.2 ⟨L,ζ.wrap ((i:Int)+1),0⟩ _ _) _ else κ (rq ⟨L,ζ.wrap ((i:Int)+1),0⟩ _ _) _)=_;rw [hw,oB,oB];change (bif (lk L i).gp==2 then some (_,_) else bif (lk L i).gp==1 then _ else bif (lk L i).gp==3 then _ else κ (rq (mk L (i+1) 0) _ _) _)=_;simp only [show (mk L i 0).ga=(i:Int) from rfl,EW];rfl
def IR {n i:Nat}{L:List c9}{t:c9}(hi:i≤4000000)(ht:lk L i=t):(pg (n+1)).2.1 (mk L i 0) =
 (bif t.gp==2 then some (⟨1,t.gN,ε,[],t.ga⟩,mk L (i+1) 0)
 else bif t.gp==1 then (pg n).2.2.1 (mk L (i+1) 0) ⟨2,0,t.gq,[],t.ga⟩ 3 (i:Int)
 else bif t.gp==3 then (pg n).2.2.2.2 (mk L (i+1) 0) t (i:Int)
 else some (jg,mk L i 3)):=by subst ht;exact lK hi
def Hf {n i:Nat}{L:List c9}{x:Xp}{op a:Int}(hi:i≤4000000):(pg (n+1)).2.2.1 (mk L i 0) x op a =
  (bif isS L i eH then ((pg n).2.2.2.1 (mk L (i+1) 0) eO).bind fun y=>mL y.2 ⟨op,x.gN,x.gb,[y.1],x.ga⟩ a else some (x,mk L i 0)):=by
 show ww (pg n).1 (pg n).2.1 (pg n).2.2.1 (pg n).2.2.2.1 (pg n).2.2.2.2 (mk L i 0) x op a=_;unfold ww;show κ (bif false then some true else _) _=_;rw [θ,is_eq];simp only [δ];have hw:=gH hi;cases isS L i eH;rfl;simp only [bI,ξ,θ];change κ ((pg n).2.2.2.1 ⟨L,ζ.wrap ((i:Int)+1),0⟩ _) _=_;rw [hw];simp only [oB];rfl
def Md {n i:Nat}{L:List c9}{x:Xp}{op a e:Int}(he:e≠0):(pg (n+1)).2.2.1 (mk L i e) x op a=some (x,mk L i e):=by
 show ww (pg n).1 (pg n).2.1 (pg n).2.2.1 (pg n).2.2.2.1 (pg n).2.2.2.2 (mk L i e) x op a=_;unfold ww;show κ (bif e != 0 then some true else _) _=_;rw [show (e != 0)=true by simp [he]];rfl
def mt {n:Nat}{m:jl}{s:η}:(pg (n+1)).2.2.2.1 m s=((pg n).1 m 0).bind fun x=>bif x.2.gE==0 then (wt x.2 s).bind fun y=>some (x.1,y) else some x:=by
 show y8 (pg n).1 (pg n).2.1 (pg n).2.2.1 (pg n).2.2.2.1 (pg n).2.2.2.2 m s=_;unfold y8;rfl
def tm (s t:η):Bool:=decide (s=t)
def lR {n i a:Nat}{L:List c9}{t:c9}:(pg (n+1)).2.2.2.2 (mk L i 0) t (a:Int) =
  (bif tm t.gq f6 then ((pg n).2.1 (mk L i 0)).bind fun y=>mL y.2 ⟨5,0,ε,[y.1],t.ga⟩ (a:Int)
  else bif tm t.gq kc then ((pg n).2.1 (mk L i 0)).bind fun y=>mL y.2 ⟨6,0,ε,[y.1],t.ga⟩ (a:Int)
  else bif tm t.gq gZ then (zd (mk L i 0)).bind fun y=>some (⟨4,0,y.1,[],t.ga⟩,y.2)
  else bif tm t.gq jG then (zd (mk L i 0)).bind fun y=>(pg n).2.2.1 y.2 ⟨19,0,y.1,[],t.ga⟩ 20 (a:Int)
  else bif tm t.gq jf then some (⟨18,0,ε,[],t.ga⟩,mk L i 0)
  else bif tm t.gq fJ then (pg n).2.2.2.1 (mk L i 0) fO
  else some (jg,mk L a 3)):=by
 show za (pg n).1 (pg n).2.1 (pg n).2.2.1 (pg n).2.2.2.1 (pg n).2.2.2.2 (mk L i 0) t (a:Int)=_;unfold za tm;simp only [Gx,δ,EW,oB];cases h1:decide (t.gq=ν #[45]);cases h2:decide (t.gq=ν #[33]);rfl;rfl;rfl
def Mt.isS {L L2:List c9}{d:Nat}{p:Int}{m i:Nat}(h:Mt L L2 d p m){s:η}(hi:i≤m)(hs:s≠ν #[41]):isS L2 (i+d) s=isS L i s:=by
 unfold Pq.isS;rcases fU i m with q|q;rw [h.tok i q];rfl;have:i=m:=by omega
 subst this;rw [h.fin,h.stp.1,h.stp.2,Δ (Ne.symm hs)];rfl
def AB.sound {L:List c9}{i j a s:Nat}{op nn:Int}{nm:η}{at_:Int}{r:Option (Xp×jl)}{b:List c9→Nat→Int→Option (Xp×jl)}(y:Xp)(hs:1≤s)(hL:L.length≤100000)(hij:i≤j)(hj:j≤L.length)(hy:szE y+i≤j)
  (hr:r=mL (mk L j 0) ⟨op,nn,nm,[y],at_⟩ (a:Int)) (h2:∀ L2 d p m,Mt L L2 d p m→i≤m→j≤m∧b L2 d p=mL (mk L2 (j+d) 0) ⟨op,nn,nm,[jS p y],at_+p⟩ ((a+d:Nat):Int)):AB L i 0 s r b:=by
 have hsz:szE (⟨op,nn,nm,[y],at_⟩:Xp)=1+szE y:=by simp [la,b7]
 rw [wb (fun _=>by rw [hsz];omega)] at hr;simp only [aG,ξ] at hr;by_cases hd:24<dpE (⟨op,nn,nm,[y],at_⟩:Xp);rw [Ξ hd,ξ] at hr;exact AB.bad jg a 5 (by decide) hr;rw [Δ hd,θ] at hr;refine ⟨_,j,0,hr,fun _=>⟨by omega,hj,by omega,by rw [hsz];omega,fun L2 d p m c him=>?_⟩⟩;obtain ⟨g1,e⟩:=h2 L2 d p m c him;refine ⟨g1,?_⟩;have hsh:(⟨op,nn,nm,[jS p y],at_+p⟩:Xp)=jS p ⟨op,nn,nm,[y],at_⟩:=by simp only [jS,jb]
 rw [e,hsh,wb (fun _=>by rw [o4,hsz];omega),pN,Δ hd];rfl
def AB.more {L:List c9}{i c s c' s':Nat}{r:Option (Xp×jl)}{a:List c9→Nat→Int→Option (Xp×jl)}(h:AB L (i+1) c s r a)(hc:c'≤c+1)(hs:s≤s'+1){b:List c9→Nat→Int→Option (Xp×jl)}(h2:∀ L2 d p m,Mt L L2 d p m→i≤m→i+1≤m∧b L2 d p=a L2 d p):AB L i c' s' r b:=by
 obtain ⟨x,i',e',h1,f⟩:=h;refine ⟨x,i',e',h1,fun he=>?_⟩;obtain ⟨g1,g,j,o,k⟩:=f he;refine ⟨by omega,g,j,by omega,fun L2 d p m e him=>?_⟩;obtain ⟨k1,k2⟩:=h2 L2 d p m e him;obtain ⟨l,n⟩:=k L2 d p m e k1;exact ⟨l,k2.trans n⟩
def ab:∀ n:Nat,(∀ (L:List c9) (i k:Nat),L.length≤100000→i≤L.length→k≤6→10*(L.length-i)+8≤n+k→AB L i 1 0 ((pg n).1 (mk L i 0) (k:Int)) (fun L2 d p=>(pg n).1 (mk L2 (i+d) 0) (k:Int))) ∧
  (∀ (L:List c9) (i:Nat),L.length≤100000→i≤L.length→10*(L.length-i)+1≤n→AB L i 1 0 ((pg n).2.1 (mk L i 0)) (fun L2 d p=>(pg n).2.1 (mk L2 (i+d) 0))) ∧
  (∀ (L:List c9) (i a:Nat) (x:Xp) (op:Int),L.length≤100000→i≤L.length→x.gd=[]→10*(L.length-i)+1≤n→AB L i 0 1 ((pg n).2.2.1 (mk L i 0) x op (a:Int)) (fun L2 d p=>(pg n).2.2.1 (mk L2 (i+d) 0) (jS p x) op ((a+d:Nat):Int))) ∧
  (∀ (L:List c9) (i:Nat) (s:η),L.length≤100000→i≤L.length→10*(L.length-i)+9≤n→AB L i 1 0 ((pg n).2.2.2.1 (mk L i 0) s) (fun L2 d p=>(pg n).2.2.2.1 (mk L2 (i+d) 0) s)) ∧
  (∀ (L:List c9) (i a:Nat) (t:c9),L.length≤100000→i≤L.length→10*(L.length-i)+10≤n→AB L i 0 1 ((pg n).2.2.2.2 (mk L i 0) t (a:Int)) (fun L2 d p=>(pg n).2.2.2.2 (mk L2 (i+d) 0) (m3 p t) ((a+d:Nat):Int)))
 | 0=>⟨fun L i k _ _ _ h=>by omega,fun L i _ _ h=>by omega,fun L i a x op _ _ _ h=>by omega,fun L i s _ _ h=>by omega,fun L i a t _ _ h=>by omega⟩
 |
  n+1=>by
  obtain ⟨ihR,ihU,ihI,ihA,ihS⟩:=ab n;refine ⟨fun L i k hL hi hk hn=>?_,fun L i hL hi hn=>?_,fun L i a x op hL hi hx hn=>?_,fun L i s hL hi hn=>?_,fun L i a t hL hi hn=>?_⟩
  ·
   by_cases C:k=6
   ·subst C;have h:=ihU L i hL hi (by omega);obtain ⟨x,i',e',h1,h2⟩:=h;refine ⟨x,i',e',(AY n _).trans h1,fun he=>?_⟩;obtain ⟨g1,g,l,u,e⟩:=h2 he;exact ⟨g1,g,l,u,fun L2 d p m b him=>⟨(e L2 d p m b him).1,(AY n _).trans (e L2 d p m b him).2⟩⟩
   obtain ⟨x,v,c,h1,h2⟩:=ihR L i (k+1) hL hi (by omega) (by omega);have hrow:=AX (n:=n) (k:=k) (mk L i 0) (by omega);rw [rB (by omega),h1,δ] at hrow;by_cases he:c=0
   ·subst he;obtain ⟨g1,g,l,u,e⟩:=h2 rfl;obtain ⟨x',j',e',o,F⟩:=uf (pg n).1 L i (k:Int) hL (fun j hj hjl=>by
     have:=ihR L j (k+1) hL hjl (by omega) (by omega);rw [rB (by omega)];exact this) (L.length-v) v x (Φ _) (by omega) g l (by omega)
    change _=κ (aE (ka (pg n).1 (k:Int)) (ji L v 0 x)) _ at hrow;rw [o,δ] at hrow;simp only [ji,kw] at hrow;refine ⟨x',j',e',hrow,fun he=>?_⟩;obtain ⟨k1,k2,G,O,H⟩:=F he;refine ⟨by omega,k2,G,by omega,fun L2 d p m b him=>?_⟩;obtain ⟨m1,m2⟩:=e L2 d p m b him;obtain ⟨I,J⟩:=H L2 d p m b m1;refine ⟨I,?_⟩;simp only [] at m2 ⊢;rw [AX _ (by omega),rB (by omega),m2,δ];change κ (aE (ka (pg n).1 (k:Int)) (ji L2 (v+d) 0 (jS p x))) _=_;rw [J,δ];simp only [ji,kw];rfl
   change _=κ (aE (ka (pg n).1 (k:Int)) (ji L v c x)) _ at hrow;rw [K0 (C5 he),δ] at hrow;simp only [ji,kw] at hrow;exact AB.bad x v c he hrow
  ·
   have hu:=lK (n:=n) (i:=i) (L:=L) (by omega);by_cases h2:(lk L i).gp=2
   ·have hlt:=fR (L:=L) (i:=i) (by rw [h2];decide);rw [h2] at hu;refine ⟨_,i+1,0,hu,fun _=>⟨Φ _,hlt,by simp [dpE,dS],by simp [szE,b7];omega,fun L2 d p m b him=>?_⟩⟩;have hl:=b.lt him (by rw [h2];decide);refine ⟨hl,?_⟩;have:=IR (n:=n) (i:=i+d) (L:=L2) (by have:=b.len;omega) (b.tok i hl);rw [show (m3 p (lk L i)).gp=2 from h2] at this;try simp only []
    rw [this,show i+d+1=i+1+d by omega];simp only [jS,jb,m3];rfl
   rw [show ((lk L i).gp==2)=false by simp [h2],θ] at hu;by_cases h1:(lk L i).gp=1
   ·have hlt:=fR (L:=L) (i:=i) (by rw [h1];decide);rw [h1] at hu;simp only [aG,ξ] at hu;have h:=ihI L (i+1) i ⟨2,0,(lk L i).gq,[],(lk L i).ga⟩ 3 hL hlt rfl (by omega);rw [hu];refine h.more (by omega) (by omega) fun L2 d p m b him=>?_
    have hl:=b.lt him (by rw [h1];decide);refine ⟨hl,?_⟩;have:=IR (n:=n) (i:=i+d) (L:=L2) (by have:=b.len;omega) (b.tok i hl);rw [show (m3 p (lk L i)).gp=1 from h1] at this;try simp only []
    rw [this,show i+d+1=i+1+d by omega];simp only [jS,jb,m3];rfl
   rw [show ((lk L i).gp==1)=false by simp [h1],θ] at hu;by_cases o:(lk L i).gp=3
   ·have hlt:=fR (L:=L) (i:=i) (by rw [o];decide);have h:=ihS L (i+1) i (lk L i) hL hlt (by omega);rw [show ((lk L i).gp==3)=true by simp [o],ξ] at hu;rw [hu];refine h.more (by omega) (by omega) fun L2 d p m b him=>?_
    have hl:=b.lt him (by rw [o];decide);refine ⟨hl,?_⟩;have:=IR (n:=n) (i:=i+d) (L:=L2) (by have:=b.len;omega) (b.tok i hl);rw [show (m3 p (lk L i)).gp=3 from o] at this;try simp only []
    rw [this,show i+d+1=i+1+d by omega];rfl
   rw [show ((lk L i).gp==3)=false by simp [o],θ] at hu;exact AB.bad jg i 3 (by decide) hu
  ·
   have P:dpE x=1:=by rw [kS,hx];rfl
   have Q:szE x=1:=by rw [la,hx];rfl
   have hu:=Hf (n:=n) (i:=i) (L:=L) (x:=x) (op:=op) (a:=(a:Int)) (by omega);cases hb:isS L i eH
   ·rw [hb,θ] at hu;refine ⟨x,i,0,hu,fun _=>⟨Φ _,hi,by omega,by omega,fun L2 d p m b him=>⟨him,?_⟩⟩⟩;have:=Hf (n:=n) (i:=i+d) (L:=L2) (x:=jS p x) (op:=op) (a:=((a+d:Nat):Int)) (by have:=b.len;omega);rw [b.isS him (by decide)] at this;rw [hb,θ] at this;exact this
   rw [hb,ξ] at hu;obtain ⟨hlt,z,_⟩:=v8 hb;obtain ⟨y,j,c,h1,h2⟩:=ihA L (i+1) eO hL hlt (by omega);rw [h1,δ] at hu;by_cases he:c=0
   ·subst he;obtain ⟨g1,g,l,u,e⟩:=h2 rfl;refine AB.sound y (Φ _) hL (by omega) g (by omega) hu fun L2 d p m b him=>?_
    have hl:=b.lt him (by rw [z];decide);obtain ⟨m1,m2⟩:=e L2 d p m b hl;refine ⟨m1,?_⟩;have:=Hf (n:=n) (i:=i+d) (L:=L2) (x:=jS p x) (op:=op) (a:=((a+d:Nat):Int)) (by have:=b.len;omega);rw [b.isS him (by decide)] at this;simp only [] at m2 ⊢;rw [hb,ξ,show i+d+1=i+1+d by omega,m2,δ] at this;rw [this,AV p x]
   rw [wb (fun h=>bH h he),show (c==0)=false by simp [he],θ] at hu;exact AB.bad jg j c he hu
  ·
   obtain ⟨x,j,c,h1,h2⟩:=ihR L i 0 hL hi (by omega) (by omega);have hu:=mt (n:=n) (m:=mk L i 0) (s:=s);rw [show ((pg n).1 (mk L i 0) 0)=_ from h1,δ] at hu;by_cases he:c=0
   ·subst he;obtain ⟨g1,g,l,u,e⟩:=h2 rfl;change _=κ (wt (mk L j 0) s) _ at hu;rw [ml s (by omega),δ] at hu;cases hb:isS L j s
    ·rw [hb,θ] at hu;exact AB.bad x j 3 (by decide) hu
    rw [hb,ξ] at hu;obtain ⟨hlt,z,ht⟩:=v8 hb;refine ⟨x,j+1,0,hu,fun _=>⟨by omega,hlt,l,by omega,fun L2 d p m b him=>?_⟩⟩;obtain ⟨m1,m2⟩:=e L2 d p m b him;have hl:=b.lt m1 (by rw [z];decide);refine ⟨hl,?_⟩;simp only [] at m2 ⊢;have K:isS L2 (j+d) s=true:=by
     rw [← hb];unfold isS;rw [b.tok j hl];rfl
    rw [mt,show ((pg n).1 (mk L2 (i+d) 0) 0)=_ from m2,δ];change κ (wt (mk L2 (j+d) 0) s) _=_;rw [ml s (by have:=b.len;omega),δ,K,ξ,show j+d+1=j+1+d by omega]
   rw [show ((x,mk L j c).2.gE==0)=false by simp [mk,he],θ] at hu;exact AB.bad x j c he hu
  ·
   have hu:=lR (n:=n) (i:=i) (a:=a) (L:=L) (t:=t);have f:=fun (L2:List c9) (d:Nat) (p:Int)=>lR (n:=n) (i:=i+d) (a:=a+d) (L:=L2) (t:=m3 p t)
   have htx:∀ p,(m3 p t).gq=t.gq:=fun _=>rfl
   have hta:∀ p,(m3 p t).ga=t.ga+p:=fun _=>rfl
   simp only [htx,hta] at f;have un:∀ op:Int,(∀ {r},r=(((pg n).2.1 (mk L i 0)).bind fun y=>mL y.2 ⟨op,0,ε,[y.1],t.ga⟩ (a:Int))→(∀ {A:List c9→Nat→Int→Option (Xp×jl)},(∀ L2 d p,A L2 d p=(((pg n).2.1 (mk L2 (i+d) 0)).bind fun y=>mL y.2 ⟨op,0,ε,[y.1],t.ga+p⟩ ((a+d:Nat):Int)))→AB L i 0 1 r A)):=by
    intro op r hr A M;obtain ⟨y,j,c,h1,h2⟩:=ihU L i hL hi (by omega);rw [h1,δ] at hr;by_cases he:c=0
    ·subst he;obtain ⟨g1,g,l,u,e⟩:=h2 rfl;refine AB.sound y (Φ _) hL (by omega) g (by omega) hr fun L2 d p m b him=>?_
     obtain ⟨m1,m2⟩:=e L2 d p m b him;refine ⟨m1,?_⟩;simp only [] at m2;rw [M,m2,δ]
    rw [wb (fun h=>bH h he),show (c==0)=false by simp [he],θ] at hr;exact AB.bad jg j c he hr
   cases c1:tm t.gq f6;rotate_left
   ·rw [c1,ξ] at hu;simp only [c1,ξ] at f;exact un 5 hu f
   cases c2:tm t.gq kc;rotate_left
   ·rw [c1,c2,θ,ξ] at hu;simp only [c1,c2,ξ,θ] at f;exact un 6 hu f
   cases c3:tm t.gq gZ;rotate_left
   ·rw [c1,c2,c3,θ,θ,ξ,name_eq (by omega),δ] at hu;simp only [c1,c2,c3,ξ,θ] at f;cases hk:(lk L i).gp==1
    ·rw [hk,θ] at hu;exact AB.bad _ i 3 (by decide) hu
    have q:(lk L i).gp=1:=by simpa using hk
    have hlt:=fR (L:=L) (i:=i) (by rw [q];decide);rw [hk,ξ] at hu;refine ⟨_,i+1,0,hu,fun _=>⟨by omega,hlt,by simp [dpE,dS],by simp [szE,b7];omega,fun L2 d p m b him=>?_⟩⟩;have hl:=b.lt him (by rw [q];decide);refine ⟨hl,?_⟩;try simp only []
    rw [f L2 d p,name_eq (by have:=b.len;omega),δ,b.tok i hl,show (m3 p (lk L i)).gp=1 from q,show i+d+1=i+1+d by omega];simp only [jS,jb,m3];rfl
   cases c4:tm t.gq jG;rotate_left
   ·rw [c1,c2,c3,c4,θ,θ,θ,ξ,name_eq (by omega),δ] at hu;simp only [c1,c2,c3,c4,ξ,θ] at f;cases hk:(lk L i).gp==1
    ·rw [hk,θ] at hu;simp only [] at hu;have N:∃ n',n=n'+1:=⟨n-1,by omega⟩;obtain ⟨n',rfl⟩:=N;rw [Md (by decide)] at hu;exact AB.bad _ i 3 (by decide) hu
    have q:(lk L i).gp=1:=by simpa using hk
    have hlt:=fR (L:=L) (i:=i) (by rw [q];decide);rw [hk,ξ] at hu;simp only [] at hu;have h:=ihI L (i+1) a ⟨19,0,(lk L i).gq,[],t.ga⟩ 20 hL hlt rfl (by omega);rw [hu];refine h.more (by omega) (by omega) fun L2 d p m b him=>?_
    have hl:=b.lt him (by rw [q];decide);refine ⟨hl,?_⟩;try simp only []
    rw [f L2 d p,name_eq (by have:=b.len;omega),δ,b.tok i hl,show (m3 p (lk L i)).gp=1 from q,show i+d+1=i+1+d by omega];simp only [jS,jb,m3];rfl
   cases w:tm t.gq jf;rotate_left
   ·rw [c1,c2,c3,c4,w,θ,θ,θ,θ,ξ] at hu;simp only [c1,c2,c3,c4,w,ξ,θ] at f;refine ⟨_,i,0,hu,fun _=>⟨by omega,hi,by simp [dpE,dS],by simp [szE,b7];omega,fun L2 d p m b him=>⟨him,?_⟩⟩⟩;try simp only []
    rw [f L2 d p];simp only [jS,jb]
   cases B:tm t.gq fJ;rotate_left
   ·rw [c1,c2,c3,c4,w,B,θ,θ,θ,θ,θ,ξ] at hu;simp only [c1,c2,c3,c4,w,B,ξ,θ] at f;obtain ⟨x,j,c,h1,h2⟩:=ihA L i fO hL hi (by omega);refine ⟨x,j,c,hu.trans h1,fun he=>?_⟩;obtain ⟨g1,g,l,u,e⟩:=h2 he;refine ⟨by omega,g,l,by omega,fun L2 d p m b him=>⟨(e L2 d p m b him).1,?_⟩⟩;try simp only []
    rw [f L2 d p];exact (e L2 d p m b him).2
   rw [c1,c2,c3,c4,w,B,θ,θ,θ,θ,θ,θ] at hu;exact AB.bad jg a 3 (by decide) hu
end Go.Proofs.YticifeeokcgfkaaGreatDoor.Ab.Pq
namespace Go.Proofs.YticifeeokcgfkaaGreatDoor.Ab.Pq
open Go
def Tot {α:Type}(m:Option α):Prop:=∃ r,m=some r
def Tot.some {α:Type}(a:α):Tot (Option.some a):=⟨a,rfl⟩
def Tot.bind {α β:Type}{m:Option α}{f:α→Option β}(h:Tot m)(k:∀ a,Tot (f a)):Tot (m.bind f):=by
 obtain ⟨a,rfl⟩:=h;exact k a
def Tot.cond {α:Type}{c:Bool}{m n:Option α}(h:Tot m)(k:Tot n):Tot (bif c then m else n):=by
 cases c;exact k;exact h
def Tot.get {α:Type}{m:Option α}(h:Tot m)(z:α):m=Option.some (m.getD z):=by obtain ⟨a,rfl⟩:=h;rfl
def vc (c:Int):Tot (sJ c):=by
 unfold sJ;repeat (first|exact Tot.some _|refine Tot.bind ?_ (fun _=>?_)|refine Tot.cond ?_ ?_)
def kd (c:aC):Int:=(sJ (eT.wrap (c.toNat:Int))).getD 0
def mi (c:aC):sJ (eT.wrap (c.toNat:Int))=some (kd c):=(vc _).get 0
def dg (w:Bool)(c:aC):Bool:=kd c==3 || (w && kd c==2)
def spn (w:Bool)(r:List aC):Nat:=(r.takeWhile (dg w)).length
def wH (w:Bool)(r:List aC):spn w r≤r.length:=by unfold spn;exact (List.takeWhile_sublist _).length_le
def rt (b:List aC)(a:Nat)(l:List c9):Kaa:=⟨b,(a:Int),l⟩
def EV {b:List aC}{a:Nat}{c:aC}{r:List aC}(h:b.drop a=c::r):b[a]? = some c∧a<b.length∧b.drop (a+1)=r:=by
 have h1:=a6 List.head? h;rw [List.head?_drop] at h1;refine ⟨h1,(aP.1 h1).1,?_⟩;have h2:=a6 (List.drop 1) h;rw [List.drop_drop] at h2;simpa using h2
def lP {b:List aC}{a:Nat}{l:List c9}(w:Bool)(hb:b.length≤100000)(ha:a≤b.length):wm (rt b a l) w=some ((spn w (b.drop a):Nat):Int):=by
 unfold wm rt;have key:∀ (post pre:List aC),b.drop a=pre++post→aE (fun (d:Int)=>(bif (decide ((ζ.wrap ((a:Int)+d))<(b.length:Int))) then ((idx b (ζ.wrap ((a:Int)+d))).bind fun f=>((sJ (eT.wrap (f.toNat:Int))).bind fun e=>(bif (e != (3:Int)) then (bif (e != (2:Int)) then some (.done d) else (bif (!w) then some (.done d) else some (.next (ζ.wrap (d+(1:Int)))))) else some (.next (ζ.wrap (d+(1:Int))))))) else some (.done d))) ((pre.length:Nat):Int)=some (((pre.length+spn w post:Nat)):Int):=by
  intro post;induction post with
  |
   nil=>
   intro pre h;refine K0 ?_;have hl:=a6 fc h;simp only [eD,aN] at hl;rw [kR (n:=(a:Int)+(pre.length:Int)) (by omega) (by omega),Δ (by omega),θ];simp [spn]
  |
   cons c post ih=>
   intro pre h;have hl:=a6 fc h;simp only [eD,υ,Ψ] at hl;have hc:b[a+pre.length]? = some c:=by
    have:=a6 (fun z=>z[pre.length]?) h;simpa [List.getElem?_drop] using this
   have step:∀ x,x=(bif (kd c != 3) then (bif (kd c != 2) then some (Step.done ((pre.length:Nat):Int)) else (bif (!w) then some (.done ((pre.length:Nat):Int)) else some (.next (ζ.wrap (((pre.length:Nat):Int)+1))))) else some (.next (ζ.wrap (((pre.length:Nat):Int)+1))):Option (Step Int Int))→(dg w c=true→x=some (.next ((pre.length+1:Nat):Int)))∧(dg w c=false→x=some (.done ((pre.length:Nat):Int))):=by
    rintro x rfl;have hw:=gH (i:=pre.length) (by omega);unfold dg;cases g:kd c==3<;>cases h2:kd c==2<;>cases w<;>simp [bne,g,h2,hw]
   obtain ⟨j,k⟩:=step _ rfl;have hw:=kR (n:=(a:Int)+(pre.length:Int)) (by omega) (by omega);have hidx:idx b ((a:Int)+(pre.length:Int))=some c:=by
    rw [show (a:Int)+(pre.length:Int)=((a+pre.length:Nat):Int) by omega,lb];exact hc
   cases hd:dg w c
   ·rw [K0 (t:=((pre.length:Nat):Int)) ?_]
    ·simp [spn,hd]
    rw [hw,Ξ (by omega),ξ,hidx,δ,mi,δ];exact k hd
   rw [ig (s':=((pre.length+1:Nat):Int)) ?_]
   ·have:=ih (pre++[c]) (by simp [h]);simp only [υ,Ψ,aB,cH] at this;rw [this];congr 2;simp [spn,hd];omega
   rw [hw,Ξ (by omega),ξ,hidx,δ,mi,δ];exact j hd
 have:=key (b.drop a) [] rfl;simp only [aB,cH] at this;rw [show ((0:Nat):Int)=0 from rfl] at this;rw [this];rfl
def txt (r:List aC)(n:Nat):η:=ν (r.take n).toArray
def pR {b:List aC}{a n:Nat}(h:n≤(b.drop a).length)(ha:a≤b.length)(hb:b.length≤100000):eP b (a:Int) (ζ.wrap ((a:Int)+(n:Int)))=some ((b.drop a).take n):=by
 rw [eD] at h;rw [kR (by omega) (by omega),show (a:Int)+(n:Int)=((a+n:Nat):Int) by omega,IE];rw [Nat.add_sub_cancel_left];omega;omega
def mu {b:List aC}{a n:Nat}{l:List c9}{k v:Int}(h:n≤(b.drop a).length)(ha:a≤b.length)(hb:b.length≤100000)(hl:l.length≤100000):sL (rt b a l) k (n:Int) v=some (bif decide (4000≤l.length) then (6,rt b a l) else (0,rt b (a+n) (l++[⟨k,txt (b.drop a) n,v,(a:Int)⟩]))):=by
 unfold sL;change (bif decide ((4000:Int)≤(l.length:Int)) then _ else κ (eP b (a:Int) (ζ.wrap ((a:Int)+(n:Int)))) _)=_;by_cases q:4000≤l.length;rw [Ξ (by omega),ξ,Ξ q,ξ];rw [Δ (by omega),θ,Δ q,θ,pR h ha hb,δ];rw [h9 (by omega) (by simp [rt];omega),δ];have h2:=h;rw [eD] at h2;unfold rt txt;simp only [];rw [kR (by omega) (by omega),show (a:Int)+(n:Int)=((a+n:Nat):Int) by omega]
def hasS (s:η)(l:List η):Bool:=l.any fun x=>decide (s=x)
def vm (s:η)(l:List η)(hl:l.length≤1000):∃ i,DE l s=some i∧decide ((0:Int)≤i)=hasS s l:=by
 unfold DE;have key:∀ (post pre:List η),l=pre++post→hasS s pre=false→∃ r,aE (fun (a:Int)=>(bif (decide (a<(l.length:Int))) then ((idx l a).bind fun b=>(bif (decide (s=b)) then some (Step.done (bZ (α:=Unit) a)) else some (.next (ζ.wrap (a+(1:Int)))))) else some (.done (.inl ())))) ((pre.length:Nat):Int)=some r∧decide ((0:Int)≤Ω (fun _=>-1) id r)=hasS s l:=by
  intro post;induction post with
  |
   nil=>
   intro pre h hs;rw [aN] at h;subst h;refine ⟨.inl (),K0 (by rw [jR,θ]),?_⟩;rw [hs];rfl
  |
   cons x post ih=>
   intro pre h hs;have hf:(bif (decide (((pre.length:Nat):Int)<(l.length:Int))) then ((idx l ((pre.length:Nat):Int)).bind fun b=>(bif (decide (s=b)) then some (Step.done (bZ (α:=Unit) ((pre.length:Nat):Int))) else some (.next (ζ.wrap (((pre.length:Nat):Int)+(1:Int)))))) else some (.done (.inl ())))=(bif decide (s=x) then some (Step.done (bZ (α:=Unit) ((pre.length:Nat):Int))) else some (.next ((pre.length+1:Nat):Int))):=by
    rw [fL h,ξ,sY h rfl,δ,fK h (by omega)]
   by_cases q:s=x
   ·rw [Ξ q,ξ] at hf;refine ⟨_,K0 hf,?_⟩;rw [show hasS s l=true by rw [h,q];simp [hasS],Ξ (by show (0:Int)≤(pre.length:Int);omega)]
   rw [Δ q,θ] at hf;rw [ig hf];have:=ih (pre++[x]) (by simp [h]) (by unfold hasS at hs ⊢;rw [List.any_append,hs];simp [q]);simpa using this
 obtain ⟨r,h1,h2⟩:=key l [] rfl rfl;simp only [aB] at h1;rw [show ((0:Nat):Int)=0 from rfl] at h1;rw [h1,δ];cases r with
 | inl u=>exact ⟨-1,rfl,h2⟩
 | inr i=>exact ⟨i,rfl,h2⟩
def JA (s:η)(l:List η)(hl:l.length≤1000):wv l s=some (hasS s l):=by
 unfold wv;obtain ⟨i,h1,h2⟩:=vm s l hl;rw [h1,δ,h2]
def wd (s:η):Bool:=(rp s).getD false
def xc (s:η):rp s=some (wd s):=by
 have:Tot (rp s):=by unfold rp;rw [JA _ _ (by decide)];exact Tot.some _
 exact this.get false
def uX {b:List aC}{a:Nat}{l:List c9}(ha:a≤b.length)(hb:b.length≤100000)(hl:l.length≤100000):tb (rt b a l) =
  some (bif decide (20<spn true (b.drop a)) then (6,rt b a l) else bif decide (4000≤l.length) then (6,rt b a l) else (0,rt b (a+spn true (b.drop a)) (l++[⟨bif wd (txt (b.drop a) (spn true (b.drop a))) then 3 else 1,txt (b.drop a) (spn true (b.drop a)),0,(a:Int)⟩]))):=by
 unfold tb;rw [lP true hb ha,δ];change κ (eP b (a:Int) (ζ.wrap ((a:Int)+(((spn true (b.drop a)):Nat):Int)))) _=_;have hn:=wH true (b.drop a);rw [pR hn ha hb,δ];by_cases q:20<spn true (b.drop a);rw [Ξ (by omega),ξ,Ξ q,ξ];rw [Δ (by omega),θ,Δ q,θ,xc,δ];rw [show (ν ((b.drop a).take (spn true (b.drop a))).toArray)=txt (b.drop a) (spn true (b.drop a)) from rfl];cases wd (txt (b.drop a) (spn true (b.drop a)));simp only [θ,mu hn ha hb hl,δ];simp only [ξ,mu hn ha hb hl,δ]
end Go.Proofs.YticifeeokcgfkaaGreatDoor.Ab.Pq
namespace Go.Proofs.YticifeeokcgfkaaGreatDoor.Ab.Pq
open Go
def pP (b:List aC)(d:Kaa)(a:Int×Int):Option (Step (Int×Int) (Int⊕(Int×Kaa))):=bif decide (a.2<b.length) then (idx b a.2).bind fun c=>bif decide ((bB.wrap ((bB.wrap ((9223372036854775807:Int)-(bB.wrap (dU.wrap ((c.toNat:Int)-(48:Int)))))).tdiv (10:Int)))<a.1) then some (.done (.inr ((4:Int),d))) else some (.next ((bB.wrap ((bB.wrap ((10:Int)*a.1))+(bB.wrap (dU.wrap ((c.toNat:Int)-(48:Int)))))),(ζ.wrap (a.2+(1:Int))))) else some (.done (.inl a.1))
def dv (a:Kaa):Option Int→Int⊕(Int×Kaa)
 | some y=>.inl y
 | none=>.inr ((4:Int),a)
def numBad (c:aC)(r:List aC)(n m:Nat):Bool:=decide (n<m) || ((c.toNat:Int)==48 && decide (1<n))
def Lp (b:List aC)(a:Nat)(l:List c9)(r:List aC)(n:Nat):Option Int→Int×Kaa
 | some y=>(0,rt b (a+n) (l++[⟨2,txt r n,ζ.wrap y,(a:Int)⟩]))
 | none=>(4,rt b a l)
abbrev dn (b:List aC)(a:Nat)(l:List c9)(r:List aC)(v:Option Int):Int×Kaa:=Lp b a l r (spn false r) v
def r5 {b:List aC}{a:Nat}{l:List c9}{c:aC}{r:List aC}(hr:b.drop a=c::r)(hb:b.length≤100000)(hl:l.length≤100000)(v:Option Int)(hv:∀ d,aE (pP ((c::r).take (spn false (c::r))) d) ((0:Int),(0:Int))=some (dv d v)) :
  tc (rt b a l)=some (bif decide (4000≤l.length) then ((6:Int),rt b a l) else bif numBad c r (spn false (c::r)) (spn true (c::r)) then (3,rt b a l) else dn b a l (c::r) v):=by
 obtain ⟨h1,h2,e⟩:=EV hr;have ha:a≤b.length:=by omega
 unfold tc;change (bif decide ((4000:Int)≤(l.length:Int)) then _ else _)=_;by_cases q:4000≤l.length;rw [Ξ (by omega),ξ,Ξ q,ξ];rw [Δ (by omega),θ,Δ q,θ,lP false hb ha,lP true hb ha,hr];simp only [δ];have hidx:idx (rt b a l).gB (rt b a l).ga=some c:=by show idx b (a:Int)=_;rw [lb];exact h1
 rw [hidx,δ];have hbad:(bif decide (((spn false (c::r):Nat):Int)<((spn true (c::r):Nat):Int)) then some true else (bif ((c.toNat:Int)==(48:Int)) then some (decide ((1:Int)<((spn false (c::r):Nat):Int))) else some false))=some (numBad c r (spn false (c::r)) (spn true (c::r))):=by unfold numBad;rw [show decide (((spn false (c::r):Nat):Int)<((spn true (c::r):Nat):Int))=decide (spn false (c::r)<spn true (c::r)) from decide_eq_decide.2 (by omega),show decide ((1:Int)<((spn false (c::r):Nat):Int))=decide (1<spn false (c::r)) from decide_eq_decide.2 (by omega)];cases decide (spn false (c::r)<spn true (c::r))<;>cases ((c.toNat:Int)==48)<;>cases decide (1<spn false (c::r))<;>rfl
 rw [hbad,δ];cases numBad c r (spn false (c::r)) (spn true (c::r))
 ·simp only [θ];have hn:=wH false (c::r);change κ (eP b (a:Int) (ζ.wrap ((a:Int)+((spn false (c::r):Nat):Int)))) _=_;rw [pR (by rw [hr];exact hn) ha hb,δ,hr];change κ (aE (pP ((c::r).take (spn false (c::r))) (rt b a l)) ((0:Int),(0:Int))) _=_;rw [hv,δ];cases v with
  |
   some y=>
   simp only [dv,dn,Lp,Γ];rw [mu (by rw [hr];exact hn) ha hb hl,δ,Δ q,θ,hr]
  | none=>rfl
 rfl
def L3 {α β:Type}(o:Option (α×β)):(o.bind fun x=>some (x.1,x.2))=o:=by cases o<;>rfl
def lM:List η:=[nt,nr,nu,jY,jZ]
def ones:η:=ν #[40,41,123,125,91,93,59,44,61,60,43,45,42,47,37,33,38]
def xl (r:List aC):Bool:=decide (1<r.length) && hasS (txt r 2) lM
def sg (c:aC)(r:List aC):Nat:=bif xl (c::r) then 2 else bif decide (0≤oy ones (c.toNat:Int)) then 1 else 0
def m4 (c:aC)(r:List aC):sg c r≤(c::r).length:=by
 unfold sg xl;by_cases h:1<(c::r).length;cases (decide (1<(c::r).length) && hasS (txt (c::r) 2) lM);cases decide (0≤oy ones (c.toNat:Int))<;>simp;simp only [ξ];omega;rw [Δ h,gG,θ];cases decide (0≤oy ones (c.toNat:Int))<;>simp
def tZ {b:List aC}{a:Nat}{l:List c9}{c:aC}{r:List aC}(hr:b.drop a=c::r):sM (rt b a l)=some ((sg c r:Nat):Int):=by
 obtain ⟨h1,h2,d⟩:=EV hr;unfold sM;change κ (eP b (a:Int) ((b.length:Nat):Int)) _=_;rw [IE (by omega) (Φ _),δ,cV (by simp),hr];unfold sg xl;by_cases h:1<(c::r).length;rw [Ξ (by omega),ξ,Ξ h,eS];rw [show eP (c::r) 0 2=some ((c::r).take 2) from by
  have:=IE (xs:=c::r) (l:=0) (h:=2) (by omega) (by omega);simpa using this,δ,JA _ _ (by decide),δ,δ]
 change (bif hasS (txt (c::r) 2) lM then _ else _)=_;cases hasS (txt (c::r) 2) lM;simp only [θ];show κ (some c) _=_;rw [δ];show (bif decide (0≤oy ones (c.toNat:Int)) then some (1:Int) else some 0)=_;cases decide (0≤oy ones (c.toNat:Int))<;>rfl;rfl;rw [Δ (by omega),θ,Δ h,gG,δ,θ];show κ (some c) _=_;rw [δ];show (bif decide (0≤oy ones (c.toNat:Int)) then some (1:Int) else some 0)=_;cases decide (0≤oy ones (c.toNat:Int))<;>rfl
def qE {b:List aC}{a:Nat}{l:List c9}{c:aC}{r:List aC}(hr:b.drop a=c::r)(hb:b.length≤100000)(hl:l.length≤100000):p8 (rt b a l) =
  (bif kd c==1 then some (0,rt b (a+1) l) else bif kd c==2 then tb (rt b a l) else bif kd c==3 then tc (rt b a l)
  else some (bif (sg c r)==0 then (3,rt b a l) else bif decide (4000≤l.length) then (6,rt b a l) else (0,rt b (a+sg c r) (l++[⟨3,txt (c::r) (sg c r),0,(a:Int)⟩])))):=by
 obtain ⟨h1,h2,d⟩:=EV hr;unfold p8;have hidx:idx (rt b a l).gB (rt b a l).ga=some c:=by show idx b (a:Int)=_;rw [lb];exact h1
 rw [hidx,δ,mi,δ,tZ hr,δ,L3,L3];have hw:ζ.wrap ((a:Int)+1)=((a+1:Nat):Int):=gH (by omega);change (bif kd c==1 then some (0,(⟨b,ζ.wrap ((a:Int)+1),l⟩:Kaa)) else _)=_;rw [hw];cases kd c==1;cases kd c==2;cases kd c==3;simp only [θ];rw [mu (by rw [hr];exact m4 c r) (by omega) hb hl,δ,hr];by_cases q:sg c r=0;rw [q];rfl;rw [show (((sg c r:Nat):Int)==0)=false by simp;omega,show (sg c r==0)=false by simp [q]];rfl;rfl;rfl;rfl
def ta (a:Nat)(x:Int×η×Int):c9:=⟨x.1,x.2.1,x.2.2,(a:Int)⟩
def qU {c:aC}{r:List aC}{w:Bool}(h:dg w c=true):1≤spn w (c::r):=by unfold spn;rw [wE,h];simp
end Go.Proofs.YticifeeokcgfkaaGreatDoor.Ab.Pq
namespace Go.Proofs.YticifeeokcgfkaaGreatDoor.Ab.Pq
open Go
def v7 {p:aC→Bool}(h:(ff 256).all (fun n=>p (il n))=true)(c:aC):p c=true:=by
 have:=bY.1 h c.toNat (by simp;exact c.toNat_lt);simpa using this
def rJ (c:aC):Bool:=decide (Al (c.toNat:Int)=some (kd c==2)) && (decide (Dp (c.toNat:Int)=some (kd c==3)) && (((c.toNat:Int)==32 || ((c.toNat:Int)==9 || ((c.toNat:Int)==10 || (c.toNat:Int)==13)))==(kd c==1) && (!(kd c==3) || (decide (48≤c.toNat) && decide (c.toNat≤57)))))
def Gw (c:aC):rJ c=true:=v7 (p:=rJ) (by kernel_rfl) c
def pB (c:aC):Al (c.toNat:Int)=some (kd c==2):=by
 have:=Gw c;unfold rJ at this;simp only [aR,bJ] at this;exact this.1
def od (c:aC):Dp (c.toNat:Int)=some (kd c==3):=by
 have:=Gw c;unfold rJ at this;simp only [aR,bJ] at this;exact this.2.1
def vW (c:aC):((c.toNat:Int)==32 || ((c.toNat:Int)==9 || ((c.toNat:Int)==10 || (c.toNat:Int)==13)))=(kd c==1):=by
 have:=Gw c;unfold rJ at this;simp only [aR,bJ] at this;exact eq_of_beq this.2.2.1
def sq {c:aC}(h:kd c=3):48≤c.toNat∧c.toNat≤57:=by
 have:=Gw c;unfold rJ at this;simp only [aR,bJ,h] at this;simpa using this.2.2.2
abbrev ra (r:List aC):η:=ν r.toArray
def wK (r:List aC):(ra r).size=r.length:=by simp [ra,ByteArray.size]
def CZ (r:List aC)(i:Int):oh (ra r) i=idx r i:=by unfold oh;simp [ra]
def mo {r:List aC}{n:Nat}(h:n≤r.length):i7 (ra r) 0 (n:Int)=some (txt r n):=by
 unfold i7;rw [wK,Ξ (by omega),Ξ (by omega),Ξ (by omega)];simp only [Bool.and_self,ξ];congr 1;unfold txt;apply ByteArray.ext;simp [ByteArray.data_extract]
def vL {r:List aC}{n:Nat}(h:n≤r.length):i7 (ra r) (n:Int) ((ra r).size:Int)=some (ra (r.drop n)):=by
 unfold i7;rw [wK,Ξ (by omega),Ξ (by omega),Ξ (by omega)];simp only [Bool.and_self,ξ];congr 1;apply ByteArray.ext;simp only [ByteArray.data_extract];simp only [List.extract_toArray,List.extract_eq_take_drop,ra];rw [cV (by simp)];simp
def dig (c:aC):Nat:=c.toNat-48
def valF (v:Nat)(l:List aC):Nat:=l.foldl (fun v c=>10*v+dig c) v
def qe:∀ (l:List aC) (v:Nat),v≤valF v l
 | [],v=>Φ _
 |
  c::l,v=>by
  have:=qe l (10*v+dig c);show v≤valF (10*v+dig c) l
  omega
def mS:∀ (l:List aC) (v:Nat),v*10 ^ l.length≤valF v l
 | [],v=>by simp [valF]
 |
  c::l,v=>by
  have:=mS l (10*v+dig c);show v*10 ^ (l.length+1)≤valF (10*v+dig c) l
  refine eJ ?_ this;rw [Nat.pow_succ];have e:v*(10 ^ l.length*10)=(10*v)*10 ^ l.length:=by
   rw [Nat.mul_comm (10 ^ l.length) 10,← Nat.mul_assoc,Nat.mul_comm v 10]
  rw [e];exact dF _ (by omega)
def nv (v:Nat):Option Int:=if v≤9223372036854775807 then some (v:Int) else none
def w8 {c:aC}(h:48≤c.toNat∧c.toNat≤57):bB.wrap (dU.wrap ((c.toNat:Int)-48))=(dig c:Int):=by
 unfold dig;rw [cU];have:dU.wrap ((c.toNat:Int)-48)=(c.toNat:Int)-48:=by
  have a:∀ x:Int,0≤x→x<256→dU.wrap x=x:=by intro x b h1;show x%_=x;exact Int.emod_eq_of_lt b h1
  exact a _ (by omega) (by omega)
 rw [this];omega
def yB (ds:List aC)(hd:ds.length≤100000)(hr:∀ c∈ds,48≤c.toNat∧c.toNat≤57)(a:Kaa):aE (pP ds a) ((0:Int),(0:Int))=some (dv a (nv (valF 0 ds))):=by
 have key:∀ (post pre:List aC) (acc:Nat),ds=pre++post→acc≤9223372036854775807→aE (pP ds a) ((acc:Int),((pre.length:Nat):Int))=some (dv a (nv (valF acc post))):=by
  intro post;induction post with
  |
   nil=>
   intro pre acc h ha;rw [aN] at h;subst h;refine K0 ?_;unfold pP;simp only [];rw [jR,θ];rw [show valF acc []=acc from rfl];unfold nv;rw [aQ ha];rfl
  |
   cons x post ih=>
   intro pre acc h ha;have hx:=hr x (by rw [h];simp);have d:dig x≤9:=by unfold dig;omega
   have hf:pP ds a ((acc:Int),((pre.length:Nat):Int))=(bif (decide ((bB.wrap ((bB.wrap ((9223372036854775807:Int)-(dig x:Int))).tdiv (10:Int)))<(acc:Int))) then some (.done (.inr ((4:Int),a))) else some (.next ((bB.wrap ((bB.wrap ((10:Int)*(acc:Int)))+(dig x:Int))),((pre.length+1:Nat):Int)))):=by
    unfold pP;simp only [];rw [fL h,ξ,sY h rfl,δ,fK h (by omega),w8 hx]
   have b:bB.wrap ((bB.wrap ((9223372036854775807:Int)-(dig x:Int))).tdiv 10)=(((9223372036854775807-dig x)/10:Nat):Int):=by
    have h1:bB.wrap ((9223372036854775807:Int)-(dig x:Int))=((9223372036854775807-dig x:Nat):Int):=by rw [cU];omega
    rw [h1,cU,show (((9223372036854775807-dig x:Nat):Int)).tdiv 10=(((9223372036854775807-dig x)/10:Nat):Int) from rfl];omega
   rw [b] at hf;have hge:=qe post (10*acc+dig x);have ev:valF acc (x::post)=valF (10*acc+dig x) post:=rfl;by_cases q:(9223372036854775807-dig x)/10<acc
   ·rw [Ξ (by omega),ξ] at hf;rw [K0 hf,ev];unfold nv;rw [aF (by omega)];rfl
   rw [Δ (by omega),θ] at hf;rw [ig hf,ev];have:=ih (pre++[x]) (10*acc+dig x) (by simp [h]) (by omega);rw [show bB.wrap (bB.wrap (10*(acc:Int))+(dig x:Int))=((10*acc+dig x:Nat):Int) by rw [cU,cU];omega];simpa using this
 exact key ds [] 0 rfl (by omega)
def xK {c:aC}{r:List aC}(hl:(c::r).length≤100000)(hr:∀ x∈c::r,48≤x.toNat∧x.toNat≤57):Fz (ra (c::r))=some (bif (c.toNat:Int)==48 && decide (1<(c::r).length) then ((0:Int),(3:Int)) else match nv (valF 0 (c::r)) with
  | some y=>(ζ.wrap y,(0:Int))
  | none=>((0:Int),(4:Int))):=by
 unfold Fz;rw [CZ,show idx (c::r) 0=some c from rfl,δ,wK];have i:∀ x∈c::r,dig x≤9:=fun x hx=>by have:=hr x hx;unfold dig;omega
 cases a:((c.toNat:Int)==48) && decide (1<(c::r).length);rotate_left
 ·rw [aR,bJ] at a;rw [a.1,ξ,Ξ (by omega)];rfl
 have hb:(bif (c.toNat:Int)==48 then some (decide ((1:Int)<(((c::r).length:Nat):Int))) else some false)=some false:=by
  cases q:(c.toNat:Int)==48
  ·rfl
  rw [q,eS] at a;have:=a9 a;rw [ξ,Δ (by omega)]
 rw [hb,δ,θ,θ];by_cases q:19<(c::r).length
 ·rw [K0 (t:=.inr ((0:Int),(4:Int))) ?_]
  ·have hbig:¬ valF 0 (c::r)≤9223372036854775807:=by
    have hc:=hr c (by simp);have h1:1≤dig c:=by
     have:(c.toNat:Int)≠48:=by
      intro e;rw [e,Ξ (show 1<(c::r).length by omega)] at a;simp at a
     unfold dig;omega
    have h2:=mS r (dig c);have j:valF 0 (c::r)=valF (dig c) r:=by simp [valF]
    have k:10 ^ 19≤10 ^ r.length:=Nat.pow_le_pow_right (by omega) (by simp at q;omega);have l:1*10 ^ r.length≤dig c*10 ^ r.length:=dF _ h1;have f:(10:Nat) ^ 19=10000000000000000000:=by decide
    omega
   unfold nv;rw [aF hbig];rfl
  simp only [];rw [Ξ (show (0:Int)<(((c::r).length:Nat):Int) by simp),ξ,Ξ (show (19:Int)<(((c::r).length:Nat):Int) by omega),ξ]
 have key:∀ (post pre:List aC) (acc:Nat),c::r=pre++post→acc<10 ^ pre.length→acc=valF 0 pre →
   aE (fun (b:Int×Int)=>(bif (decide (b.2<(((c::r).length:Nat):Int))) then (bif (decide ((19:Int)<(((c::r).length:Nat):Int))) then some (Step.done (bZ (α:=Int) ((0:Int),(4:Int)))) else ((oh (ra (c::r)) b.2).bind fun g=>some (.next ((bB.wrap ((bB.wrap (b.1*(10:Int)))+(bB.wrap (dU.wrap ((g.toNat:Int)-(48:Int)))))),(ζ.wrap (b.2+(1:Int))))))) else some (.done (.inl b.1)))) ((acc:Int),((pre.length:Nat):Int))=some (.inl ((valF acc post:Nat):Int)):=by
  intro post;induction post with
  |
   nil=>
   intro pre acc h ha hv;rw [aN] at h;refine K0 ?_;simp only [];rw [h,jR,θ];rfl
  |
   cons x post ih=>
   intro pre acc h ha hv;have hx:=hr x (by rw [h];simp);have m:dig x≤9:=by unfold dig;omega
   have hpl:pre.length≤18:=by
    have:=a6 fc h;simp only [υ,Ψ] at this q;omega
   have n:10 ^ pre.length≤10 ^ 18:=Nat.pow_le_pow_right (by omega) hpl;have f:(10:Nat) ^ 18=1000000000000000000:=by decide
   rw [ig (s':=((((10*acc+dig x:Nat)):Int),((pre.length+1:Nat):Int))) ?_]
   ·have:=ih (pre++[x]) (10*acc+dig x) (by simp [h]) (by rw [υ,aW,Nat.pow_succ];omega) (by rw [hv];simp [valF]);simpa [valF] using this
   simp only [];rw [fL h,ξ,Δ (by omega),θ,CZ,sY h rfl,δ,fK h (by omega),w8 hx];rw [show bB.wrap (bB.wrap ((acc:Int)*10)+(dig x:Int))=((10*acc+dig x:Nat):Int) by rw [cU,cU];omega]
 have:=key (c::r) [] 0 rfl (by simp) rfl;simp only [aB] at this;rw [show ((0:Nat):Int)=0 from rfl] at this;rw [this,δ,Γ];unfold nv;by_cases d:valF 0 (c::r)≤9223372036854775807
 ·rw [aQ d,Δ (by omega),θ]
 rw [aF d,Ξ (by omega),ξ]
def AZ (l:List η)(s:η)(hl:l.length≤1000):l7 l s=some (hasS s l):=by
 unfold l7;have key:∀ (post pre:List η),l=pre++post→hasS s pre=false→aE (fun (a:Int)=>(bif (decide (a<(l.length:Int))) then ((idx l a).bind fun b=>(bif (decide (b=s)) then some (Step.done (bZ (α:=Unit) true)) else some (.next (ζ.wrap (a+(1:Int)))))) else some (.done (.inl ())))) ((pre.length:Nat):Int)=some (bif hasS s l then .inr true else .inl ()):=by
  intro post;induction post with
  |
   nil=>
   intro pre h hs;rw [aN] at h;subst h;exact K0 (by rw [jR,θ,hs,θ])
  |
   cons x post ih=>
   intro pre h hs;have hf:(bif (decide (((pre.length:Nat):Int)<(l.length:Int))) then ((idx l ((pre.length:Nat):Int)).bind fun b=>(bif (decide (b=s)) then some (Step.done (bZ (α:=Unit) true)) else some (.next (ζ.wrap (((pre.length:Nat):Int)+(1:Int)))))) else some (.done (.inl ())))=(bif decide (x=s) then some (Step.done (bZ (α:=Unit) true)) else some (.next ((pre.length+1:Nat):Int))):=by
    rw [fL h,ξ,sY h rfl,δ,fK h (by omega)]
   by_cases q:x=s
   ·rw [Ξ q,ξ] at hf;rw [K0 hf,show hasS s l=true by rw [h,q];simp [hasS],ξ]
   rw [Δ q,θ] at hf;rw [ig hf];have:=ih (pre++[x]) (by simp [h]) (by unfold hasS at hs ⊢;rw [List.any_append,hs];simp [Ne.symm q]);simpa using this
 have:=key l [] rfl rfl;simp only [aB] at this;rw [show ((0:Nat):Int)=0 from rfl] at this;rw [this,δ];cases hasS s l<;>rfl
def t8 (s:η):Hq s=some (wd s):=by
 unfold Hq;rw [AZ _ _ (by decide),δ];unfold wd rp;rw [JA _ _ (by decide),δ];simp only [Option.getD_some];congr 1;unfold hasS;simp only [List.any_cons,List.any_nil,Bool.or_false];ac_rfl
end Go.Proofs.YticifeeokcgfkaaGreatDoor.Ab.Pq
namespace Go.Proofs.YticifeeokcgfkaaGreatDoor.Ab.Pq
open Go
def yS {r:List aC}{n:Nat}(h:n≤r.length):(txt r n).size=n:=by
 unfold txt ByteArray.size;simp [h]
def BX (w:Bool)(c:aC)(r:List aC):spn w (c::r)=bif dg w c then spn w r+1 else 0:=by
 unfold spn;rw [wE];cases dg w c<;>simp
def EM (c:aC):dg true c=(kd c==2 || kd c==3):=by unfold dg;rw [eS,Bool.or_comm]
def Gn (c:aC):dg false c=(kd c==3):=by unfold dg;simp
def ql:∀ (l:List aC),∀ x∈l.take (spn false l),kd x=3
 | [],x,h=>by simp at h
 |
  c::l,x,h=>by
  rw [BX,Gn] at h;cases a:kd c==3
  ·rw [a,θ,List.take_zero] at h;simp at h
  rw [a,ξ,List.take_succ_cons,cX] at h;rcases h with h|h
  ·subst h;simpa using a
  exact ql l x h
def rQ (R:η)(a:Int):Option (Step Int Int):=bif decide (a<(R.size:Int)) then (oh R a).bind fun b=>(Al (b.toNat:Int)).bind fun c=>bif c then some (.next (ζ.wrap (a+(1:Int)))) else ((oh R a).bind fun d=>(Dp (d.toNat:Int)).bind fun e=>bif e then some (.next (ζ.wrap (a+(1:Int)))) else some (.done a)) else some (.done a)
def xH (r:List aC)(hr:r.length≤100000):aE (rQ (ra r)) 0=some ((spn true r:Nat):Int):=by
 have key:∀ (post pre:List aC),r=pre++post→aE (rQ (ra r)) ((pre.length:Nat):Int)=some (((pre.length+spn true post:Nat)):Int):=by
  intro post;induction post with
  |
   nil=>
   intro pre h;rw [aN] at h;subst h;refine K0 ?_;unfold rQ;rw [wK,jR,θ];simp [spn]
  |
   cons x post ih=>
   intro pre h;have hf:rQ (ra r) ((pre.length:Nat):Int)=(bif dg true x then some (.next ((pre.length+1:Nat):Int)) else some (.done ((pre.length:Nat):Int))):=by
    unfold rQ;rw [wK,fL h,ξ,CZ,sY h rfl,δ,pB,δ,δ,od,δ,fK h (by omega),EM];cases kd x==2<;>cases kd x==3<;>rfl
   rw [BX];cases hd:dg true x
   ·rw [hd,θ] at hf;rw [K0 hf];simp
   rw [hd,ξ] at hf;rw [ig hf];have:=ih (pre++[x]) (by simp [h]);rw [υ,aW] at this;rw [this,ξ];congr 2;omega
 have:=key r [] rfl;simpa using this
def rN (R:η)(n:Int)(a:Int):Option (Step Int (Unit⊕(c9×Int))):=bif decide (a<n) then (oh R a).bind fun b=>(Al (b.toNat:Int)).bind fun c=>bif c then some (.done (.inr (kf,(3:Int)))) else some (.next (ζ.wrap (a+(1:Int)))) else some (.done (.inl ()))
def xG (r:List aC)(hr:r.length≤100000):aE (rN (ra r) ((spn true r:Nat):Int)) 0=some (bif decide (spn false r<spn true r) then .inr (z0,3) else .inl ()):=by
 have key:∀ (post pre:List aC),r=pre++post→spn true r=pre.length+spn true post→aE (rN (ra r) ((spn true r:Nat):Int)) ((pre.length:Nat):Int)=some (bif decide (spn false post<spn true post) then .inr (z0,3) else .inl ()):=by
  intro post;induction post with
  |
   nil=>
   intro pre h hn;refine K0 ?_;unfold rN;rw [hn,Δ (by simp [spn]),θ];simp [spn]
  |
   cons x post ih=>
   intro pre h hn;rw [BX,EM] at hn;rw [BX,BX,EM,Gn];have hf:rN (ra r) ((spn true r:Nat):Int) ((pre.length:Nat):Int)=(bif decide (pre.length<spn true r) then (bif kd x==2 then some (.done (.inr (z0,3))) else some (.next ((pre.length+1:Nat):Int))) else some (.done (.inl ()))):=by
    unfold rN;rw [CZ,sY h rfl,δ,pB,δ,fK h (by omega)];rw [show decide (((pre.length:Nat):Int)<((spn true r:Nat):Int))=decide (pre.length<spn true r) from decide_eq_decide.2 (by omega)];cases kd x==2<;>rfl
   cases h2:kd x==2
   ·cases a:kd x==3
    ·rw [h2,a,Bool.or_false,θ] at hn;rw [Δ (by omega),θ] at hf;rw [K0 hf];rfl
    rw [h2,a,Bool.or_true,ξ] at hn;rw [Ξ (by omega),ξ,h2,θ] at hf;rw [ig hf];have:=ih (pre++[x]) (by simp [h]) (by rw [υ,aW];omega);rw [υ,aW] at this;rw [this,Bool.or_true,ξ,ξ];rw [show decide (spn false post<spn true post)=decide (spn false post+1<spn true post+1) from decide_eq_decide.2 (by omega)]
   have a:(kd x==3)=false:=by
    have:kd x=2:=by simpa using h2
    rw [this];rfl
   rw [h2,Bool.true_or,ξ] at hn;rw [Ξ (by omega),ξ,h2,ξ] at hf;rw [K0 hf,Bool.true_or,a,ξ,θ,Ξ (by omega),ξ]
 have:=key r [] rfl (by simp);simpa using this
def preB (r:List aC)(x:η):Bool:=decide (x.size≤r.length) && decide (txt r x.size=x)
def rM (R:η)(l:List η)(c:Bool)(a:Int):Option (Step Int (Unit⊕(c9×Int))):=bif decide (a<l.length) then (idx l a).bind fun b=>κ (α:=Bool) (bif decide ((b.size:Int)≤(R.size:Int)) then (i7 R (0:Int) (b.size:Int)).bind fun d=>(idx l a).bind fun e=>some (decide (d=e)) else some false) fun f=>bif f then bif c then some (.done (.inr (kf,(6:Int)))) else ((idx l a).bind fun g=>some (.done (.inr ((⟨(3:Int),g,(0:Int),(0:Int)⟩:KJ),(0:Int))))) else some (.next (ζ.wrap (a+(1:Int)))) else some (.done (.inl ()))
def Gj (many:Bool):Option η→Unit⊕(c9×Int)
 | none=>.inl ()
 | some x=>.inr (bif many then (z0,6) else (⟨3,x,0,0⟩,0))
def xF (r:List aC)(l:List η)(many:Bool)(hl:l.length≤100000):aE (rM (ra r) l many) 0=some (Gj many (l.find? (preB r))):=by
 have key:∀ (post pre:List η),l=pre++post→aE (rM (ra r) l many) ((pre.length:Nat):Int)=some (Gj many (post.find? (preB r))):=by
  intro post;induction post with
  |
   nil=>
   intro pre h;rw [aN] at h;subst h;refine K0 ?_;unfold rM;rw [jR,θ];rfl
  |
   cons x post ih=>
   intro pre h;have hf:rM (ra r) l many ((pre.length:Nat):Int)=(bif preB r x then some (.done (Gj many (some x))) else some (.next ((pre.length+1:Nat):Int))):=by
    unfold rM;rw [fL h,ξ,sY h rfl];simp only [δ];rw [fK h (by omega),wK r];unfold preB;by_cases q:x.size≤r.length
    ·rw [Ξ (by omega),ξ,mo q,δ,δ,Ξ q,eS];cases decide (txt r x.size=x)<;>cases many<;>rfl
    rw [Δ (by omega),θ,δ,θ,Δ q,gG,θ]
   rw [List.find?_cons];cases hp:preB r x
   ·rw [hp,θ] at hf;rw [ig hf];have:=ih (pre++[x]) (by simp [h]);simpa using this
   rw [hp,ξ] at hf;exact K0 hf
 have:=key l [] rfl;simpa using this
def nU (r:List aC)(k:Nat)(l:List η)(hl:∀ x∈l,x.size=k):l.find? (preB r)=bif decide (k≤r.length) && hasS (txt r k) l then some (txt r k) else none:=by
 cases hb:decide (k≤r.length) && hasS (txt r k) l;rw [θ,List.find?_eq_none];intro x hx hp;unfold preB at hp;rw [hl x hx,aR,bJ,bJ] at hp;rw [Ξ hp.1,eS] at hb;unfold hasS at hb;rw [List.any_eq_false] at hb;exact hb x hx (by rw [hp.2];simp);rw [ξ];rw [aR,bJ] at hb;obtain ⟨h1,h2⟩:=hb;unfold hasS at h2;rw [List.any_eq_true] at h2;obtain ⟨x,hx,he⟩:=h2;have hex:x=txt r k:=(aY he).symm;cases hf:l.find? (preB r) with
 |
  none=>
  rw [List.find?_eq_none] at hf;exact bH (by unfold preB;rw [hl x hx,Ξ h1,hex];simp) (hf x hx)
 |
  some y=>
  have hp:=List.find?_some hf;have a:=List.mem_of_find?_eq_some hf;unfold preB at hp;rw [hl y a,aR,bJ,bJ] at hp;rw [hp.2]
def lm:List η:=[fJ,fO,jv,iw,eH,eO,eM,i3,gJ,nk,jH,f6,gZ,jI,jX,kc,jG]
def x4 (c:aC):hasS (ν #[c]) lm=decide (0≤oy ones (c.toNat:Int)):=by
 have:=v7 (p:=fun c=>hasS (ν #[c]) lm==decide (0≤oy ones (c.toNat:Int))) (by kernel_rfl) c;exact eq_of_beq this
def yw (c:aC)(r:List aC):(lM++lm).find? (preB (c::r))=bif sg c r==0 then none else some (txt (c::r) (sg c r)):=by
 rw [List.find?_append,nU (c::r) 2 lM (by intro x hx;revert x;simp only [lM,List.forall_mem_cons];exact ⟨rfl,rfl,rfl,rfl,rfl,by simp⟩),nU (c::r) 1 lm (by intro x hx;simp only [lm,cX,List.not_mem_nil,or_false] at hx;rcases hx with h|h|h|h|h|h|h|h|h|h|h|h|h|h|h|h|h<;>(subst h;rfl))];rw [show txt (c::r) 1=ν #[c] from rfl,x4];unfold sg xl;rw [show decide (2≤(c::r).length)=decide (1<(c::r).length) from rfl];cases decide (1<(c::r).length) && hasS (txt (c::r) 2) lM;rw [Ξ (show 1≤(c::r).length by simp),eS];cases decide (0≤oy ones (c.toNat:Int))<;>rfl;rfl
def z1:c9:=⟨0,ε,0,0⟩
def Bg {b:List aC}{a:Nat}{l:List c9}{c:aC}{r:List aC}(hr:b.drop a=c::r)(hb:b.length≤100000)(hl:l.length≤100000)(hk:kd c≠1) :
  ∃
   t e,BW (ra (c::r)) (decide ((4000:Int)≤(l.length:Int)))=some (t,e)∧((e≠0∧p8 (rt b a l)=some (e,rt b a l)) ∨
   (e=0∧l.length<4000∧1≤t.gq.size∧t.gq.size≤(c::r).length∧p8 (rt b a l)=some (0,rt b (a+t.gq.size) (l++[⟨t.gp,t.gq,t.gN,(a:Int)⟩])))):=by
 have hlen:(c::r).length≤100000:=by rw [← hr,eD];omega
 have e:=qE hr hb hl;rw [show (kd c==1)=false by simp [hk],θ] at e;have h1:BW (ra (c::r)) (decide ((4000:Int)≤(l.length:Int)))=(bif kd c==2 then some (bif decide (20<spn true (c::r)) || decide (4000≤l.length) then (z0,6) else (⟨bif wd (txt (c::r) (spn true (c::r))) then 3 else 1,txt (c::r) (spn true (c::r)),0,0⟩,(0:Int)))
   else bif kd c==3 then (bif decide (4000≤l.length) then some (z0,6) else bif decide (spn false (c::r)<spn true (c::r)) then some (z0,3) else ((Fz (txt (c::r) (spn true (c::r)))).bind fun h=>(bif (h.2 != (0:Int)) then some (z0,h.2) else some (⟨2,txt (c::r) (spn true (c::r)),h.1,0⟩,(0:Int)))))
   else some (bif sg c r==0 then (z0,3) else bif decide (4000≤l.length) then (z0,6) else (⟨3,txt (c::r) (sg c r),0,0⟩,(0:Int)))):=by
  unfold BW;change κ (aE (rQ (ra (c::r))) 0) _=_;rw [xH _ hlen,δ,CZ,show idx (c::r) 0=some c from rfl];rw [δ,pB,δ,δ,od,δ];rw [show decide ((4000:Int)≤(l.length:Int))=decide (4000≤l.length) from decide_eq_decide.2 (by omega),show decide ((20:Int)<((spn true (c::r):Nat):Int))=decide (20<spn true (c::r)) from decide_eq_decide.2 (by omega)];cases kd c==2
  ·cases kd c==3
   ·simp only [θ];change κ (aE (rM (ra (c::r)) (lM++lm) (decide (4000≤l.length))) 0) _=_;rw [xF _ _ _ (by decide),δ,yw];cases sg c r==0
    ·simp only [θ,Gj,ς]
    rfl
   simp only [θ,ξ];cases decide (4000≤l.length)
   ·simp only [θ];change κ (aE (rN (ra (c::r)) ((spn true (c::r):Nat):Int)) 0) _=_;rw [xG _ hlen,δ];cases decide (spn false (c::r)<spn true (c::r))
    ·simp only [θ,Γ];rw [mo (wH _ _),δ];rfl
    rfl
   rfl
  simp only [ξ];rw [mo (wH _ _),δ,t8,δ,δ,δ];cases decide (20<spn true (c::r))<;>cases decide (4000≤l.length)<;>cases wd (txt (c::r) (spn true (c::r)))<;>rfl
 rw [h1];have ha:a≤b.length:=by have:=(EV hr).2.1;omega
 cases k2:kd c==2;rotate_left;rw [k2,ξ,uX ha hb hl,hr] at e;rw [ξ];by_cases q:20<spn true (c::r);rw [Ξ q,ξ] at e;rw [Ξ q];exact ⟨z0,6,rfl,.inl ⟨by decide,e⟩⟩;rw [Δ q,θ] at e;rw [Δ q,Bool.false_or];by_cases d:4000≤l.length;rw [Ξ d,ξ] at e;rw [Ξ d];exact ⟨z0,6,rfl,.inl ⟨by decide,e⟩⟩;rw [Δ d,θ] at e;rw [Δ d];refine ⟨_,_,rfl,.inr ⟨rfl,by omega,?_,?_,?_⟩⟩;show 1≤(txt (c::r) (spn true (c::r))).size;rw [yS (wH _ _)];exact qU (by rw [EM,k2];rfl);show (txt (c::r) (spn true (c::r))).size≤_;rw [yS (wH _ _)];exact wH _ _;show _=some ((0:Int),rt b (a+(txt (c::r) (spn true (c::r))).size) _);rw [yS (wH _ _),e];rw [k2,θ] at e;rw [θ];cases f:kd c==3;rotate_left
 ·have m:kd c=3:=by simpa using f
  rw [f,ξ] at e;rw [ξ];have hrng:∀ x∈(c::r).take (spn false (c::r)),48≤x.toNat∧x.toNat≤57:=by
   intro x hx;exact sq (ql _ x hx)
  have j:1≤spn false (c::r):=qU (by rw [Gn,f]);rw [r5 hr hb hl (nv (valF 0 ((c::r).take (spn false (c::r))))) (fun k=>yB _ (by have:=wH false (c::r);rw [kX];omega) hrng k)] at e;by_cases d:4000≤l.length
  ·rw [Ξ d,ξ] at e;rw [Ξ d];exact ⟨z0,6,rfl,.inl ⟨by decide,e⟩⟩
  rw [Δ d,θ] at e;rw [Δ d,θ];unfold numBad at e;by_cases g:spn false (c::r)<spn true (c::r)
  ·rw [Ξ g,Bool.true_or,ξ] at e;rw [Ξ g];exact ⟨z0,3,rfl,.inl ⟨by decide,e⟩⟩
  rw [Δ g,Bool.false_or] at e;rw [Δ g,θ];have hle:spn false (c::r)≤spn true (c::r):=by
   have:∀ x:List aC,spn false x≤spn true x:=by
    intro x;induction x with
    | nil=>simp [spn]
    |
     cons y x ih=>
     rw [BX,BX,EM,Gn];cases kd y==2<;>cases kd y==3<;>simp<;>omega
   exact this _
  have heq:spn true (c::r)=spn false (c::r):=by omega
  rw [heq];obtain ⟨n,hn⟩:∃ n,spn false (c::r)=n+1:=⟨spn false (c::r)-1,by omega⟩;have hnl:=wH false (c::r);have htx:txt (c::r) (spn false (c::r))=ra (c::r.take n):=by rw [hn];rfl
  have htk:(c::r).take (spn false (c::r))=c::r.take n:=by rw [hn];rfl
  have hln:(c::r.take n).length=spn false (c::r):=by rw [← htk,kX];omega
  rw [htk] at hrng e;rw [htx,xK (by rw [hln];omega) hrng,δ,← htx,hln];cases i:(c.toNat:Int)==48 && decide (1<spn false (c::r));rotate_left
  ·rw [i,ξ] at e;exact ⟨z0,3,rfl,.inl ⟨by decide,e⟩⟩
  rw [i,θ] at e;rw [θ];cases hv:nv (valF 0 (c::r.take n)) with
  |
   none=>
   rw [hv] at e;exact ⟨z0,4,rfl,.inl ⟨by decide,e⟩⟩
  |
   some y=>
   rw [hv] at e;refine ⟨_,_,rfl,.inr ⟨rfl,by omega,?_,?_,?_⟩⟩
   ·show 1≤(txt (c::r) (spn false (c::r))).size
    rw [yS hnl];exact j
   ·show (txt (c::r) (spn false (c::r))).size≤_
    rw [yS hnl];exact hnl
   show _=some ((0:Int),rt b (a+(txt (c::r) (spn false (c::r))).size) _)
   rw [yS hnl,e];rfl
 rw [f,θ] at e;rw [θ];by_cases q:sg c r=0;rw [q] at e ⊢;exact ⟨z0,3,rfl,.inl ⟨by decide,e⟩⟩;rw [show (sg c r==0)=false by simp [q],θ] at e;rw [show (sg c r==0)=false by simp [q],θ];by_cases d:4000≤l.length;rw [Ξ d,ξ] at e;rw [Ξ d];exact ⟨z0,6,rfl,.inl ⟨by decide,e⟩⟩;rw [Δ d,θ] at e;rw [Δ d];refine ⟨_,_,rfl,.inr ⟨rfl,by omega,?_,?_,?_⟩⟩;show 1≤(txt (c::r) (sg c r)).size;rw [yS (m4 c r)];omega;show (txt (c::r) (sg c r)).size≤_;rw [yS (m4 c r)];exact m4 c r;show _=some ((0:Int),rt b (a+(txt (c::r) (sg c r)).size) _);rw [yS (m4 c r),e]
def xQ (n:Nat)(a:List aC×Int×List KJ):Option (Step (List aC×Int×List KJ) ((List aC×Int×List KJ)⊕(List KJ×Int×Int))):=bif decide (a.2.1<(n:Int)) then (p8 (⟨a.1,a.2.1,a.2.2⟩:Kaa)).bind fun b=>bif b.1 != (0:Int) then some (.done (.inr (([]:List KJ),b.2.ga,b.1))) else some (.next (b.2.gB,b.2.ga,b.2.gL)) else some (.done (.inl (a.1,a.2.1,a.2.2)))
def zM (R:η)(a:List KJ×Int):Option (Step (List KJ×Int) ((List KJ)⊕(List KJ×Int×Int))):=bif decide (a.2<(R.size:Int)) then (oh R a.2).bind fun c=>κ (α:=Bool) (bif (c.toNat:Int)==(32:Int) then some true else bif (c.toNat:Int)==(9:Int) then some true else bif (c.toNat:Int)==(10:Int) then some true else some ((c.toNat:Int)==(13:Int))) fun d=>bif d then some (.next (a.1,(ζ.wrap (a.2+(1:Int))))) else ((i7 R a.2 ((R).size:Int)).bind fun e=>(BW e (decide ((4000:Int)≤(a.1.length:Int)))).bind fun b=>bif b.2 != (0:Int) then some (.done (.inr (([]:List KJ),a.2,b.2))) else (app 40 a.1 ([(⟨b.1.gp,b.1.gq,b.1.gN,a.2⟩:KJ)]:List KJ)).bind fun f=>some (.next (f,(ζ.wrap (a.2+(b.1.gq.size:Int)))))) else some (.done (.inl a.1))
def pi (b:List aC)(hb:b.length≤20000):∀ (q a:Nat) (l:List c9),b.length-a≤q→a≤b.length→l.length≤4000→(∃ l',l'.length≤4000∧aE (xQ b.length) (b,(a:Int),l)=some (.inl (b,(b.length:Int),l'))∧aE (zM (ra b)) (l,(a:Int))=some (.inl l'))∨(∃ (x:Nat) (e:Int),e≠0∧aE (xQ b.length) (b,(a:Int),l)=some (.inr ([],(x:Int),e))∧aE (zM (ra b)) (l,(a:Int))=some (.inr ([],(x:Int),e))):=by
 intro q;induction q with
 |
  zero=>
  intro a l hq ha hl;have:a=b.length:=by omega
  subst this;refine .inl ⟨l,hl,K0 ?_,K0 ?_⟩
  ·unfold xQ;simp
  unfold zM;rw [wK];simp
 |
  succ q ih=>
  intro a l hq ha hl;by_cases hlt:a<b.length;rotate_left
  ·have:a=b.length:=by omega
   subst this;refine .inl ⟨l,hl,K0 ?_,K0 ?_⟩
   ·unfold xQ;simp
   unfold zM;rw [wK];simp
  obtain ⟨c,r,hr⟩:∃ c r,b.drop a=c::r:=by
   cases h:b.drop a with
   | nil=>have:=a6 fc h;simp at this;omega
   | cons c r=>exact ⟨c,r,rfl⟩
  have hP:xQ b.length (b,(a:Int),l)=((p8 (rt b a l)).bind fun d=>(bif (d.1 != (0:Int)) then some (.done (.inr (([]:List KJ),d.2.ga,d.1))) else some (.next (d.2.gB,d.2.ga,d.2.gL)))):=by
   unfold xQ;simp only [];rw [Ξ (by omega),ξ];rfl
  have hR:zM (ra b) (l,(a:Int))=(bif kd c==1 then some (.next (l,((a+1:Nat):Int))) else ((BW (ra (c::r)) (decide ((4000:Int)≤(l.length:Int)))).bind fun f=>(bif (f.2 != (0:Int)) then some (.done (.inr (([]:List KJ),(a:Int),f.2))) else ((app 40 l ([(⟨f.1.gp,f.1.gq,f.1.gN,(a:Int)⟩:KJ)]:List KJ)).bind fun i=>some (.next (i,(ζ.wrap ((a:Int)+(f.1.gq.size:Int))))))))):=by
   unfold zM;simp only [];rw [wK,Ξ (by omega),ξ,CZ,lb,(EV hr).1,δ];have hbl:=vW c;have:(bif ((c.toNat:Int)==(32:Int)) then some true else (bif ((c.toNat:Int)==(9:Int)) then some true else (bif ((c.toNat:Int)==(10:Int)) then some true else some ((c.toNat:Int)==(13:Int)))))=some (kd c==1):=by
    rw [← hbl];cases (c.toNat:Int)==32<;>cases (c.toNat:Int)==9<;>cases (c.toNat:Int)==10<;>rfl
   rw [this,δ,gH (by omega)];have hc:=vL (r:=b) (n:=a) ha;rw [wK,hr] at hc;rw [hc,δ]
  by_cases hk:kd c=1
  ·have e:=qE hr (by omega) (l:=l) (by omega);rw [hk] at e hR;simp only [aG,ξ] at e hR;rw [e,δ] at hP;have hP':xQ b.length (b,(a:Int),l)=some (.next (b,((a+1:Nat):Int),l)):=hP;rw [ig hP',ig hR];exact ih (a+1) l (by omega) (by omega) hl
  obtain ⟨t,e,h1,h2⟩:=Bg hr (by omega) (l:=l) (by omega) hk;rw [show (kd c==1)=false by simp [hk],θ,h1,δ] at hR;rcases h2 with ⟨he,g⟩|⟨he,j,k,m,g⟩
  ·rw [g,δ] at hP;simp only [bne,show (e==0)=false by simp [he],a3,ξ] at hP hR;exact .inr ⟨a,e,he,K0 hP,K0 hR⟩
  subst he;rw [g,δ] at hP;have hdl:=a6 fc hr;rw [eD] at hdl;simp only [bne,aG,bI,θ] at hP hR;rw [h9 (by omega) (by simp;omega),δ,kR (by omega) (by omega),show (a:Int)+(t.gq.size:Int)=((a+t.gq.size:Nat):Int) by omega] at hR;rw [ig hP,ig hR];exact ih (a+t.gq.size) (l++[⟨t.gp,t.gq,t.gN,(a:Int)⟩]) (by omega) (by omega) (by rw [υ,aW];omega)
def Koa (b:List aC):(∃ l,l.length≤4000∧wg b=some (l++[⟨0,ε,0,(b.length:Int)⟩],0,0)∧Df b=some (l++[⟨0,ε,0,(b.length:Int)⟩],0,0))∨(∃ (x:Nat) (e:Int),e≠0∧wg b=some ([],(x:Int),e)∧Df b=some ([],(x:Int),e)):=by
 unfold wg Df;by_cases h:20000<b.length;rw [Ξ (by omega),ξ,ξ];exact .inr ⟨0,6,by decide,rfl,rfl⟩;rw [Δ (by omega),θ,θ];have:=pi b (by omega) b.length 0 [] (by omega) (by omega) (fM _);rw [show ((0:Nat):Int)=0 from rfl] at this;change (∃ l:List c9,l.length≤4000∧κ (aE (xQ b.length) (b,0,[])) _=_∧κ (aE (zM (ra b)) ([],0)) _=_)∨(∃ (x:Nat) (e:Int),e≠0∧κ (aE (xQ b.length) (b,0,[])) _=_∧κ (aE (zM (ra b)) ([],0)) _=_);rcases this with ⟨l',hl,h1,h2⟩|⟨x,e,he,h1,h2⟩;refine .inl ⟨l',hl,?_,?_⟩;rw [h1,δ];simp only [Γ];rw [h9 (by omega) (by simp;omega),δ];rw [h2,δ];simp only [Γ];rw [h9 (by omega) (by simp;omega),δ];refine .inr ⟨x,e,he,?_,?_⟩;rw [h1];rfl;rw [h2];rfl
end Go.Proofs.YticifeeokcgfkaaGreatDoor.Ab.Pq
namespace Go.Proofs.YticifeeokcgfkaaGreatDoor.Ab.Pq
open Go
abbrev dK (L:List c9):Type:={i:Nat // i≤L.length}
abbrev gm (L:List c9)(p:dK L)(e v o:Int):Km:=⟨L,((p.1:Nat):Int),e,v,o⟩
abbrev rm (L:List c9)(p:dK L)(e:Int):Kl:=⟨L,((p.1:Nat):Int),e⟩
def eatP (L:List c9)(p:dK L)(e:Int)(s:η):dK L×Int:=
 if e=0 then if h2:isS L p.1 s=true then (⟨p.1+1,(v8 h2).1⟩,0) else (p,3) else (p,e)
def mayP (L:List c9)(p:dK L)(e:Int)(s:η):Bool×dK L:=
 if e=0 then if h2:isS L p.1 s=true then (true,⟨p.1+1,(v8 h2).1⟩) else (false,p) else (false,p)
def nameP (L:List c9)(p:dK L)(e:Int):η×dK L×Int:=
 if e=0 then if h2:(lk L p.1).gp=1 then ((lk L p.1).gq,⟨p.1+1,fR (by rw [h2];decide)⟩,0) else (ε,p,3) else (ε,p,e)
def iT (L:List c9)(p:dK L)(e:Int)(a:dK L)(k:Int):dK L×Int:=if e=0 then (a,k) else (p,e)
section
variable {L:List c9}(hL:L.length ≤ 100000)
include hL
theorem vr (p:dK L)(e v o:Int)(k:Nat)(hk:k≤100):oC (gm L p e v o) (k:Int)=some (lk L (p.1+k)):=by
 have hp:=p.2;unfold oC;simp only [];rw [kR (by omega) (by omega)];by_cases h:L.length≤p.1+k;rw [Ξ (by omega),ξ,yL h];rfl;rw [Δ (by omega),θ,show ((p.1:Nat):Int)+(k:Int)=((p.1+k:Nat):Int) by omega,lb];unfold lk;rw [fx,bF (by omega)];rfl
theorem yK (p:dK L)(e v o:Int):oC (gm L p e v o) 0=some (lk L p.1):=vr hL p e v o 0 (by omega)
theorem Br (p:dK L)(e v o:Int):oC (gm L p e v o) 1=some (lk L (p.1+1)):=vr hL p e v o 1 (by omega)
theorem vt (p:dK L)(e v o:Int)(s:η):mA (gm L p e v o) 0 s=some (isS L p.1 s):=by
 unfold mA isS;rw [yK hL,δ];cases (lk L p.1).gp==3<;>rfl
theorem Bs (p:dK L)(e v o:Int)(s:η):mA (gm L p e v o) 1 s=some (isS L (p.1+1) s):=by
 unfold mA isS;rw [Br hL,δ];cases (lk L (p.1+1)).gp==3<;>rfl
omit hL in
theorem gfail (p a:dK L)(e v o k:Int):lg (gm L p e v o) ((a.1:Nat):Int) k=some (gm L (iT L p e a k).1 (iT L p e a k).2 v o):=by
 unfold lg iT;simp only [];by_cases h:e=0;subst h;rfl;rw [show (e==0)=false by simp [h],aF h];rfl
theorem jE (p:dK L)(e:Int):lf (rm L p e)=some (lk L p.1):=by
 have hp:=p.2;unfold lf;simp only [];by_cases h:L.length≤p.1;rw [Δ (by omega),θ,yL h];rfl;rw [Ξ (by omega),ξ,lb];unfold lk;rw [fx,bF (by omega)];rfl
theorem l6 (p:dK L)(e:Int):Do (rm L p e) 1=some (lk L (p.1+1)):=by
 have hp:=p.2;unfold Do;simp only [];rw [gH (by omega)];by_cases h:L.length≤p.1+1;rw [Δ (by omega),θ,yL h];rfl;rw [Ξ (by omega),ξ,lb];unfold lk;rw [fx,bF (by omega)];rfl
theorem Ej (p:dK L)(e:Int)(s:η):wJ (rm L p e) s=some (isS L p.1 s):=by
 unfold wJ isS;rw [jE hL,δ,δ];cases (lk L p.1).gp==3<;>rfl
omit hL in
theorem jF (p a:dK L)(e k:Int):mv (rm L p e) ((a.1:Nat):Int) k=some (rm L (iT L p e a k).1 (iT L p e a k).2):=by
 unfold mv iT;simp only [];by_cases h:e=0;subst h;rfl;rw [show (e==0)=false by simp [h],aF h];rfl
theorem fG (p:dK L)(e:Int)(s:η):KaR (rm L p e) s=some (rm L (eatP L p e s).1 (eatP L p e s).2):=by
 have hp:=p.2;unfold KaR eatP;by_cases h:e=0;subst h;simp only [bne,aG,bI,θ,bR];rw [Ej hL,δ,gH (by omega)];by_cases h2:isS L p.1 s=true;rw [ft h2,h2];rfl;rw [ia h2,show isS L p.1 s=false by simpa using h2,θ,jF p p,δ];rfl;simp only [bne,show (e==0)=false by simp [h],a3,ξ,aF h]
theorem kH (p:dK L)(e:Int):Kcv (rm L p e)=some ((nameP L p e).1,rm L (nameP L p e).2.1 (nameP L p e).2.2):=by
 have hp:=p.2;unfold Kcv nameP;by_cases h:e=0;subst h;simp only [bne,aG,bI,θ,bR];rw [jE hL,δ,gH (by omega)];by_cases h2:(lk L p.1).gp=1;rw [ft h2,show ((lk L p.1).gp==1)=true by simp [h2]];rfl;rw [ia h2,show ((lk L p.1).gp==1)=false by simp [h2],a3,ξ,jF p p,δ];rfl;simp only [bne,show (e==0)=false by simp [h],a3,ξ,aF h];rfl
theorem ju (p:dK L)(e:Int)(s:η):lc (rm L p e) s=some ((mayP L p e s).1,rm L (mayP L p e s).2 e):=by
 have hp:=p.2;unfold lc mayP;by_cases h:e=0;subst h;simp only [aG,ξ,bR];rw [Ej hL,δ,δ,gH (by omega)];by_cases h2:isS L p.1 s=true;rw [ft h2,h2];rfl;rw [ia h2,show isS L p.1 s=false by simpa using h2,θ];simp only [show (e==0)=false by simp [h],θ,aF h];rfl
theorem gmay (p:dK L)(e v o:Int)(s:η):i0 (gm L p e v o) s=some ((mayP L p e s).1,gm L (mayP L p e s).2 e v o):=by
 have hp:=p.2;unfold i0 mayP;by_cases h:e=0;subst h;simp only [bne,aG,bI,θ,bR];rw [vt hL,δ,δ,gH (by omega)];by_cases h2:isS L p.1 s=true;rw [ft h2,h2];rfl;rw [ia h2,show isS L p.1 s=false by simpa using h2];rfl;simp only [bne,show (e==0)=false by simp [h],a3,ξ,aF h];rfl
theorem gname (p:dK L)(e v o:Int):oO (gm L p e v o)=some ((nameP L p e).1,gm L (nameP L p e).2.1 (nameP L p e).2.2 v o):=by
 have hp:=p.2;unfold oO nameP;by_cases h:e=0;subst h;simp only [bne,aG,bI,θ,bR];rw [yK hL,δ,gH (by omega)];by_cases h2:(lk L p.1).gp=1;rw [ft h2,show ((lk L p.1).gp==1)=true by simp [h2]];rfl;rw [ia h2,show ((lk L p.1).gp==1)=false by simp [h2],a3,ξ,gfail p p,δ];rfl;simp only [bne,show (e==0)=false by simp [h],a3,ξ,aF h];rfl
omit hL in
theorem mI {p:dK L}{e:Int}(h:e≠0)(s:η):eatP L p e s=(p,e):=by unfold eatP;rw [aF h]
omit hL in
theorem Af {p:dK L}{e:Int}(h:e≠0)(s:η):mayP L p e s=(false,p):=by unfold mayP;rw [aF h]
omit hL in
theorem G4 {p:dK L}{e:Int}(h:e≠0):nameP L p e=(ε,p,e):=by unfold nameP;rw [aF h]
omit hL in
theorem E8 {p a:dK L}{e k:Int}(h:e≠0):iT L p e a k=(p,e):=by unfold iT;rw [aF h]
omit hL in
theorem v9 {p a:dK L}{k:Int}:iT L p 0 a k=(a,k):=by unfold iT;rw [aQ rfl]
def jk (L:List c9)(p:dK L)(e:Int)(l:List η):dK L×Int:=l.foldl (fun q s=>eatP L q.1 q.2 s) (p,e)
omit hL in
theorem G2 {p:dK L}{e:Int}(h:e≠0):∀ l,jk L p e l=(p,e)
 | []=>rfl
 |
  s::l=>by
  unfold jk;rw [List.foldl_cons];simp only [];rw [mI h];exact G2 h l
def sl (c:List η)(a:Km)(b:Int×Int):Option (Step (Int×Int) (Int⊕Km)):=bif decide (b.1<c.length) then (idx c b.1).bind fun d=>bif a.gE != (0:Int) then some (.done (.inr (⟨a.gL,b.2,a.gE,a.gu,a.gt⟩:Km))) else ((mA (⟨a.gL,b.2,a.gE,a.gu,a.gt⟩:Km) (0:Int) d).bind fun e=>bif !e then (lg (⟨a.gL,b.2,a.gE,a.gu,a.gt⟩:Km) b.2 (3:Int)).bind fun f=>some (.done (.inr f)) else some (.next ((ζ.wrap (b.1+(1:Int))),(ζ.wrap (b.2+(1:Int)))))) else some (.done (.inl b.2))
theorem qJ (p:dK L)(e v o:Int)(l:List η)(hl:l.length≤1000):K9 (gm L p e v o) l=some (gm L (jk L p e l).1 (jk L p e l).2 v o):=by
 unfold K9;change κ (aE (sl l (gm L p e v o)) ((0:Int),((p.1:Nat):Int))) _=_;by_cases h:e=0;subst h;have key:∀ (post pre:List η) (q:dK L),l=pre++post→(aE (sl l (gm L p 0 v o)) (((pre.length:Nat):Int),((q.1:Nat):Int))).bind (Ω (fun a=>some (⟨(gm L p 0 v o).gL,a,(gm L p 0 v o).gE,(gm L p 0 v o).gu,(gm L p 0 v o).gt⟩:Km)) (fun r=>some r))=some (gm L (jk L q 0 post).1 (jk L q 0 post).2 v o):=by
  intro post;induction post with
  |
   nil=>
   intro pre q h;rw [aN] at h;subst h;rw [K0 (t:=.inl ((q.1:Nat):Int)) (by unfold sl;simp only [];rw [jR,θ])];rfl
  |
   cons s post ih=>
   intro pre q h;have hq:=q.2;have hf:sl l (gm L p 0 v o) (((pre.length:Nat):Int),((q.1:Nat):Int))=(bif isS L q.1 s then some (.next (((pre.length+1:Nat):Int),((q.1+1:Nat):Int))) else some (.done (.inr (gm L q 3 v o)))):=by
    unfold sl;simp only [];rw [fL h,ξ,sY h rfl,δ];simp only [bne,aG,bI,θ];rw [vt hL q,δ,fK h (by omega),gH (by omega),gfail q q,δ];cases isS L q.1 s<;>rfl
   have he:jk L q 0 (s::post)=jk L (eatP L q 0 s).1 (eatP L q 0 s).2 post:=rfl;rw [he];unfold eatP;rw [aQ rfl];by_cases h2:isS L q.1 s=true
   ·rw [h2,ξ] at hf;rw [ig hf,ft h2];have:=ih (pre++[s]) ⟨q.1+1,(v8 h2).1⟩ (by simp [h]);rw [υ,aW] at this;exact this
   rw [show isS L q.1 s=false by simpa using h2,θ] at hf;rw [K0 hf,ia h2];simp only [];rw [G2 (by decide)];rfl
 exact key l [] p rfl;rw [G2 h];cases l with
 | nil=>rw [K0 (t:=.inl ((p.1:Nat):Int)) rfl];rfl
 |
  cons s l=>
  rw [K0 (t:=.inr (gm L p e v o)) ?_]
  ·rfl
  unfold sl;simp only [];rw [Ξ (show (0:Int)<(((s::l).length:Nat):Int) by simp),ξ,show idx (s::l) 0=some s from rfl,δ];simp only [bne,show (e==0)=false by simp [h],a3,ξ]
theorem geat (p:dK L)(e v o:Int)(s:η):K9 (gm L p e v o) [s]=some (gm L (eatP L p e s).1 (eatP L p e s).2 v o):=qJ hL p e v o [s] (by simp)
end
end Go.Proofs.YticifeeokcgfkaaGreatDoor.Ab.Pq
namespace Go.Proofs.YticifeeokcgfkaaGreatDoor.Ab.Pq
open Go
abbrev RR:=Kl
def rn (L:List c9)(i:Nat)(e:Int):RR:=⟨L,(i:Int),e⟩
def Gk (L:List c9)(i:Nat)(e:Int):lf (rn L i e)=some (lk L i):=by
 unfold lf rn;simp only [];by_cases h:L.length≤i;rw [Δ (by omega),θ,yL h];rfl;rw [Ξ (by omega),ξ,lb];unfold lk;rw [fx,bF (by omega)];rfl
def Ei (L:List c9)(i:Nat)(e:Int)(s:η):wJ (rn L i e) s=some (isS L i s):=by
 unfold wJ isS;rw [Gk,δ,δ];cases (lk L i).gp==3<;>rfl
def xM (L:List c9)(i a:Nat)(e k:Int):mv (rn L i e) (a:Int) k=some (bif e==0 then rn L a k else rn L i e):=by
 unfold mv rn;cases h:e==0<;>simp only [h,ξ,θ]
def zK {L:List c9}{i:Nat}(s:η)(h:i≤4000000):KaR (rn L i 0) s=some (bif isS L i s then rn L (i+1) 0 else rn L i 3):=by
 unfold KaR;change (bif false then _ else _)=_;rw [θ,Ei,δ];cases isS L i s;simp only [θ];show κ (mv (rn L i 0) (i:Int) 3) _=_;rw [xM,δ];rfl;simp only [ξ];show some (⟨L,ζ.wrap ((i:Int)+1),0⟩:RR)=_;rw [gH h];rfl
def zL {L:List c9}{i:Nat}{e:Int}(s:η)(he:e≠0):KaR (rn L i e) s=some (rn L i e):=by
 unfold KaR;change (bif e != 0 then _ else _)=_;rw [show (e != 0)=true by simp [he],ξ]
def uh {L:List c9}{i:Nat}(h:i≤4000000):Kcv (rn L i 0)=some (bif (lk L i).gp==1 then ((lk L i).gq,rn L (i+1) 0) else (ε,rn L i 3)):=by
 unfold Kcv;change (bif false then _ else _)=_;rw [θ,Gk,δ];cases hk:(lk L i).gp==1;simp only [bne,hk,a3,ξ,θ];show κ (mv (rn L i 0) (i:Int) 3) _=_;rw [xM,δ];rfl;simp only [bne,hk,bI,ξ,θ];show some (_,(⟨L,ζ.wrap ((i:Int)+1),0⟩:RR))=_;rw [gH h];rfl
def l5 {L:List c9}{i a:Nat}{e:Int}{x:Xp}(hx:e=0→szE x≤1048576):Kde (rn L i e) x (a:Int)=some (x,bif e==0 && decide (24<dpE x) then rn L a 5 else rn L i e):=by
 unfold Kde;show κ (bif e==0 then _ else _) _=_;cases he:e==0;simp only [θ,δ,gG];have b:e=0:=by simpa using he
 subst b;simp only [ξ,eS];rw [ut (hx rfl),δ,δ,show decide ((24:Int)<(dpE x:Int))=decide (24<dpE x) from decide_eq_decide.2 (by omega)];cases decide (24<dpE x);rfl;rw [ξ,xM,δ];rfl
def SS:List (List η):=[([jZ]:List η),([jY]:List η),rX,rW,([jH,f6]:List η),([gZ,jI,jX]:List η)]
def KK:List (List Int):=[([(17:Int)]:List Int),([(16:Int)]:List Int),([(14:Int),(15:Int)]:List Int),([(12:Int),(13:Int)]:List Int),([(10:Int),(11:Int)]:List Int),ux]
def u5 (s:η):List η→List Int→Int
 | a::A,b::B=>bif decide (a=s) then b else u5 s A B
 | _,_=>0
def EC (a0:Int)(b:η)(a:Int):Option (Step Int (Unit⊕Int)):=(idx SS a0).bind fun c=>bif decide (a<c.length) then (idx SS a0).bind fun d=>(idx d a).bind fun e=>bif decide (e=b) then (idx KK a0).bind fun f=>(idx f a).bind fun g=>some (.done (.inr g)) else some (.next (ζ.wrap (a+(1:Int)))) else some (.done (.inl ()))
def C0 {k:Int}{A:List η}{B:List Int}{s:η}(hA:idx SS k=some A)(hB:idx KK k=some B)(hl:A.length=B.length)(hn:A.length≤10):z4 k s=some (u5 s A B):=by
 unfold z4;change κ (aE (EC k s) 0) _=_;have key:∀ (qa pa:List η) (qb pb:List Int),A=pa++qa→B=pb++qb→pa.length=pb.length→qa.length=qb.length→(aE (EC k s) ((pa.length:Nat):Int)).bind (Ω (fun e=>some (0:Int)) (fun r=>some r))=some (u5 s qa qb):=by
  intro qa;induction qa with
  |
   nil=>
   intro pa qb pb h1 h2 d c;have:qb=[]:=by cases qb with
    | nil=>rfl
    | cons b qb=>simp at c
   subst this;rw [aN] at h1;rw [K0 (t:=.inl ()) (by unfold EC;rw [hA,δ,h1,jR,θ])];rfl
  |
   cons a qa ih=>
   intro pa qb pb h1 h2 d c;cases qb with
   | nil=>simp at c
   |
    cons b qb=>
    have hf:EC k s ((pa.length:Nat):Int)=(bif decide (a=s) then some (.done (.inr b)) else some (.next ((pa.length+1:Nat):Int))):=by
     unfold EC;rw [hA,δ,fL h1,ξ,δ,sY h1 rfl,δ,hB,δ,sY h2 d,δ,fK h1 (by omega)]
    cases hc:decide (a=s)
    ·rw [hc,θ] at hf;rw [ig hf];have:=ih (pa++[a]) qb (pb++[b]) (by simp [h1]) (by simp [h2]) (by simp [d]) (by simpa using c);rw [υ,aW] at this;rw [this];simp only [u5,hc,θ]
    rw [hc,ξ] at hf;rw [K0 hf];simp only [u5,hc,ξ];rfl
 exact key A [] B [] rfl rfl rfl hl
def so (a s:η):decide (a=s)=decide (s=a):=decide_eq_decide.2 eq_comm
def EB {k:Nat}(hk:k≤5)(s:η):z4 (k:Int) s=some (bt (k:Int) s):=by
 have hk':k=0∨k=1∨k=2∨k=3∨k=4∨k=5:=by omega
 unfold bt sO;simp only [Gx,δ];rcases hk' with h|h|h|h|h|h<;>subst h;rw [C0 (A:=[ν #[124,124]]) (B:=[17]) rfl rfl rfl (by decide)];simp only [u5,so _ s];cases decide (s=ν #[124,124])<;>rfl;rw [C0 (A:=[ν #[38,38]]) (B:=[16]) rfl rfl rfl (by decide)];simp only [u5,so _ s];cases decide (s=ν #[38,38])<;>rfl;rw [C0 (A:=[ν #[61,61],ν #[33,61]]) (B:=[14,15]) rfl rfl rfl (by decide)];simp only [u5,so _ s];rfl;rw [C0 (A:=[ν #[60],ν #[60,61]]) (B:=[12,13]) rfl rfl rfl (by decide)];simp only [u5,so _ s];rfl;rw [C0 (A:=[ν #[43],ν #[45]]) (B:=[10,11]) rfl rfl rfl (by decide)];simp only [u5,so _ s];rfl;rw [C0 (A:=[ν #[42],ν #[47],ν #[37]]) (B:=[7,8,9]) rfl rfl rfl (by decide)];simp only [u5,so _ s];by_cases q:s=ν #[37];subst q;rfl;rw [Δ q];rfl
def o9 (g0:RR→Int→Option (Xp×RR))(c:Int)(a:S8):Option (Step S8 S8):=κ (α:=Bool) (bif a.2.2.1==(0:Int) then (lf (⟨a.1,a.2.1,a.2.2.1⟩:Kl)).bind fun f=>bif f.gp==(3:Int) then (lf (⟨a.1,a.2.1,a.2.2.1⟩:Kl)).bind fun g=>(z4 c g.gq).bind fun h=>some (h != (0:Int)) else some false else some false) fun i=>bif i then (lf (⟨a.1,a.2.1,a.2.2.1⟩:Kl)).bind fun d=>(g0 (⟨a.1,(ζ.wrap (a.2.1+(1:Int))),a.2.2.1⟩:Kl) (ζ.wrap (c+(1:Int)))).bind fun e=>(z4 c d.gq).bind fun j=>(Kde e.2 (⟨j,(0:Int),ε,([(⟨a.2.2.2.1,a.2.2.2.2.1,a.2.2.2.2.2.1,a.2.2.2.2.2.2.1,a.2.2.2.2.2.2.2⟩:Kf),e.1]:List Kf),d.ga⟩:Kf) a.2.1).bind fun b=>some (.next (b.2.gL,b.2.ga,b.2.gE,b.1.gj,b.1.gN,b.1.gb,b.1.gd,b.1.ga)) else some (.done (a.1,a.2.1,a.2.2.1,a.2.2.2.1,a.2.2.2.2.1,a.2.2.2.2.2.1,a.2.2.2.2.2.2.1,a.2.2.2.2.2.2.2))
def IQ {g0:RR→Int→Option (Xp×RR)}{k:Int}{L:List c9}{j:Nat}{e:Int}{x:Xp}(he:e≠0):o9 g0 k (ji L j e x)=some (.done (ji L j e x)):=by
 unfold o9 ji;rw [show (e==0)=false by simp [he],θ];rfl
def lZ {g0:RR→Int→Option (Xp×RR)}{k:Nat}(hk:k≤5){L:List c9}{j:Nat}{x:Xp}(hj:j≤4000000):o9 g0 (k:Int) (ji L j 0 x)=(bif gV (k:Int) (lk L j)==0 then some (.done (ji L j 0 x)) else
  (g0 (rn L (j+1) 0) (ζ.wrap ((k:Int)+1))).bind fun y=>(Kde y.2 ⟨gV (k:Int) (lk L j),0,ε,[x,y.1],(lk L j).ga⟩ (j:Int)).bind fun q=>some (.next (q.2.gL,q.2.ga,q.2.gE,q.1.gj,q.1.gN,q.1.gb,q.1.gd,q.1.ga))):=by
 cases x;unfold o9 ji;simp only [aG,ξ];rw [show (⟨L,(j:Int),0⟩:Kl)=rn L j 0 from rfl,Gk,δ,δ,δ,gH hj,EB hk];unfold gV;cases a:(lk L j).gp==3;simp only [θ,δ];rfl;simp only [ξ,δ];cases hb:bt (k:Int) (lk L j).gq==0;simp only [bne,hb,a3,ξ,θ];rfl;simp only [bne,hb,bI,ξ,θ]
def SM (L:List c9)(i c s:Nat)(r:Option (Xp×jl))(a:Option (Xp×RR)):Prop:=
 ∃ x y i' e',r=some (x,mk L i' e')∧a=some (y,rn L i' e')∧i'≤L.length∧(e'=0→x=y∧i+c≤i'∧dpE x≤24∧szE x+i≤i'+s)
def SM.bad {L:List c9}{i c s:Nat}{r:Option (Xp×jl)}{a:Option (Xp×RR)}(x y:Xp)(i':Nat)(e':Int)(he:e' ≠ 0)(hi:i'≤L.length)(h:r=some (x,mk L i' e'))(h2:a=some (y,rn L i' e')):SM L i c s r a:=⟨x,y,i',e',h,h2,hi,fun q=>bH q he⟩
def xz (g0:jl→Int→Option (Xp×jl))(m:RR→Int→Option (Xp×RR))(L:List c9)(i k:Nat)(hk:k≤5)(hL:L.length≤100000)
  (ih:∀ j,i<j→j≤L.length→SM L j 1 0 (g0 (mk L j 0) (ζ.wrap ((k:Int)+1))) (m (rn L j 0) (ζ.wrap ((k:Int)+1)))) :
  ∀
   (q j:Nat) (x:Xp),L.length-j≤q→i≤j→j≤L.length→dpE x≤24→szE x+i≤j →
   ∃ x' y' j' e',aE (ka g0 (k:Int)) (ji L j 0 x)=some (ji L j' e' x')∧aE (o9 m (k:Int)) (ji L j 0 x)=some (ji L j' e' y')∧j'≤L.length∧(e'=0→x'=y'∧j≤j'∧dpE x'≤24∧szE x'+i≤j'):=by
 intro q;induction q with
 |
  zero=>
  intro j x hq o h1 hd hs;have hz:lk L j=z0:=yL (by omega);exact ⟨x,x,j,0,K0 (by rw [yO (by omega),hz];rfl),K0 (by rw [lZ hk (by omega),hz];rfl),h1,fun _=>⟨rfl,Φ _,hd,hs⟩⟩
 |
  succ q ihq=>
  intro j x hq o h1 hd hs;by_cases hop:gV (k:Int) (lk L j)=0
  ·exact ⟨x,x,j,0,K0 (by rw [yO (by omega),hop];rfl),K0 (by rw [lZ hk (by omega),hop];rfl),h1,fun _=>⟨rfl,Φ _,hd,hs⟩⟩
  have hlt:=fR (L4 hop);have hopb:(gV (k:Int) (lk L j)==0)=false:=by simp [hop]
  obtain ⟨y,p,g,l,hr,r,n,hg⟩:=ih (j+1) (by omega) (by omega);have hf:=yO (g0:=g0) (k:=(k:Int)) (L:=L) (j:=j) (x:=x) (by omega);have f:=lZ (g0:=m) (k:=k) hk (L:=L) (j:=j) (x:=x) (by omega);rw [hopb,θ,hr,δ] at hf;rw [hopb,θ,r,δ] at f;by_cases he:l=0
  ·subst he;obtain ⟨hxy,g1,u,v⟩:=hg rfl;subst hxy;generalize hX:(⟨gV (k:Int) (lk L j),0,ε,[x,y],(lk L j).ga⟩:Xp)=X at hf f;have hsz:szE X=1+(szE x+szE y):=by rw [← hX];simp [la,b7]
   rw [wb (fun _=>by rw [hsz];omega),δ] at hf;rw [l5 (fun _=>by rw [hsz];omega),δ] at f;simp only [aG,ξ,eS] at hf f;by_cases hdd:24<dpE X
   ·rw [Ξ hdd,ξ] at hf f;refine ⟨jg,X,j,5,?_,?_,h1,fun h=>by cases h⟩
    ·rw [ig hf];exact K0 (C5 (L:=L) (j:=j) (e:=5) (x:=jg) (by decide))
    rw [ig f];exact K0 (IQ (L:=L) (j:=j) (e:=5) (x:=X) (by decide))
   rw [Δ hdd,θ] at hf f;rw [ig (s':=ji L g 0 X) hf,ig (s':=ji L g 0 X) f];obtain ⟨x',y',j',e',k1,k2,s,t⟩:=ihq g X (by omega) (by omega) n (by omega) (by rw [hsz];omega);exact ⟨x',y',j',e',k1,k2,s,fun h=>by obtain ⟨a,b,c,d⟩:=t h;exact ⟨a,by omega,c,d⟩⟩
  generalize hX:(⟨gV (k:Int) (lk L j),0,ε,[x,y],(lk L j).ga⟩:Xp)=X at hf;generalize w:(⟨gV (k:Int) (lk L j),0,ε,[x,p],(lk L j).ga⟩:Xp)=X2 at f;rw [wb (fun h=>bH h he),show (l==0)=false by simp [he],θ,δ] at hf;rw [l5 (fun h=>bH h he),show (l==0)=false by simp [he],gG,θ,δ] at f;refine ⟨jg,X2,g,l,?_,?_,n,fun h=>bH h he⟩
  ·rw [ig hf];exact K0 (C5 (L:=L) (j:=g) (x:=jg) he)
  rw [ig f];exact K0 (IQ (L:=L) (j:=g) (x:=X2) he)
end Go.Proofs.YticifeeokcgfkaaGreatDoor.Ab.Pq
namespace Go.Proofs.YticifeeokcgfkaaGreatDoor.Ab.Pq
open Go
abbrev rg:=Kao
def Eh (n:Nat)(m:RR):(rg (n+1)).1 m 6=(rg n).2.1 m:=by
 show yY (rg n).1 (rg n).2.1 (rg n).2.2 m 6=_;unfold yY;rw [show ((6:Int)==6)=true from rfl,ξ,oB]
def Eg {n k:Nat}(m:RR)(hk:k≤5):(rg (n+1)).1 m k=((rg n).1 m (ζ.wrap ((k:Int)+1))).bind fun y=>(aE (o9 (rg n).1 (k:Int)) (y.2.gL,y.2.ga,y.2.gE,y.1.gj,y.1.gN,y.1.gb,y.1.gd,y.1.ga)).bind fun z=>some ((⟨z.2.2.2.1,z.2.2.2.2.1,z.2.2.2.2.2.1,z.2.2.2.2.2.2.1,z.2.2.2.2.2.2.2⟩:Xp),(⟨z.1,z.2.1,z.2.2.1⟩:RR)):=by
 show yY (rg n).1 (rg n).2.1 (rg n).2.2 m k=_;unfold yY;rw [show ((k:Int)==6)=false by simp;omega,θ];rfl
def rT {n i:Nat}{L:List c9}{x:Xp}{op a:Int}(hi:i≤4000000):(rg (n+1)).2.2 (rn L i 0) x op a =
  (bif isS L i eH then ((rg n).1 (rn L (i+1) 0) 0).bind fun y=>(KaR y.2 eO).bind fun z=>Kde z ⟨op,0,x.gb,[y.1],x.ga⟩ a else some (x,rn L i 0)):=by
 show y2 (rg n).1 (rg n).2.1 (rg n).2.2 (rn L i 0) x op a=_;unfold y2;show κ (bif false then some true else _) _=_;rw [θ,Ei];simp only [δ];have hw:=gH hi;cases isS L i eH;rfl;simp only [bI,ξ,θ];change κ ((rg n).1 ⟨L,ζ.wrap ((i:Int)+1),0⟩ _) _=_;rw [hw];simp only [oB];rfl
def pd {n i:Nat}{L:List c9}{x:Xp}{op a e:Int}(he:e≠0):(rg (n+1)).2.2 (rn L i e) x op a=some (x,rn L i e):=by
 show y2 (rg n).1 (rg n).2.1 (rg n).2.2 (rn L i e) x op a=_;unfold y2;show κ (bif e != 0 then some true else _) _=_;rw [show (e != 0)=true by simp [he]];rfl
def lw {X:Type}(c:Bool)(o p:Option (Unit⊕X))(f:Unit→Option X):(κ (bif c then o else p) (Ω f (fun r=>some r)))=bif c then κ o (Ω f (fun r=>some r)) else κ p (Ω f (fun r=>some r)):=by cases c<;>rfl
def t9 {n i:Nat}{L:List c9}(hi:i≤4000000):(rg (n+1)).2.1 (rn L i 0) =
  (bif (lk L i).gp==2 then some (⟨1,(lk L i).gN,ε,[],(lk L i).ga⟩,rn L (i+1) 0)
  else bif (lk L i).gp==1 then (rg n).2.2 (rn L (i+1) 0) ⟨2,0,(lk L i).gq,[],(lk L i).ga⟩ 3 (i:Int)
  else bif (lk L i).gp==3 then (
   bif tm (lk L i).gq f6 then ((rg n).2.1 (rn L (i+1) 0)).bind fun y=>Kde y.2 ⟨5,0,ε,[y.1],(lk L i).ga⟩ (i:Int)
   else bif tm (lk L i).gq kc then ((rg n).2.1 (rn L (i+1) 0)).bind fun y=>Kde y.2 ⟨6,0,ε,[y.1],(lk L i).ga⟩ (i:Int)
   else bif tm (lk L i).gq gZ then (Kcv (rn L (i+1) 0)).bind fun y=>some (⟨4,0,y.1,[],(lk L i).ga⟩,y.2)
   else bif tm (lk L i).gq jG then (Kcv (rn L (i+1) 0)).bind fun y=>(rg n).2.2 y.2 ⟨19,0,y.1,[],(lk L i).ga⟩ 20 (i:Int)
   else bif tm (lk L i).gq jf then some (⟨18,0,ε,[],(lk L i).ga⟩,rn L (i+1) 0)
   else bif tm (lk L i).gq fJ then ((rg n).1 (rn L (i+1) 0) 0).bind fun y=>(KaR y.2 fO).bind fun z=>some (y.1,z)
   else some (jg,rn L i 3))
  else some (jg,rn L i 3)):=by
 show Ck (rg n).1 (rg n).2.1 (rg n).2.2 (rn L i 0)=_;unfold Ck tm;change (bif false then some _ else _)=_;rw [θ,Gk,δ];have hw:=gH hi;have hs:(⟨(rn L i 0).gL,ζ.wrap ((rn L i 0).ga+1),(rn L i 0).gE⟩:RR)=rn L (i+1) 0:=by show (⟨L,ζ.wrap ((i:Int)+1),0⟩:RR)=_;rw [hw];rfl
 rw [hs];have hf:mv (rn L (i+1) 0) (rn L i 0).ga 3=some (rn L i 3):=by show mv (rn L (i+1) 0) (i:Int) 3=_;rw [xM];rfl
 rw [hf];simp only [show (rn L i 0).ga=(i:Int) from rfl];cases (lk L i).gp==2;cases (lk L i).gp==1
 ·simp only [θ];cases (lk L i).gp==3
  ·rfl
  simp only [ξ];rw [lw,lw,lw,lw,lw,lw];cases decide ((lk L i).gq=ν #[45])
  ·cases decide ((lk L i).gq=ν #[33])
   ·cases decide ((lk L i).gq=ν #[42])
    ·cases decide ((lk L i).gq=ν #[38])
     ·cases decide ((lk L i).gq=ν #[110,117,108,108])
      ·cases decide ((lk L i).gq=ν #[40])
       ·rfl
       simp only [ξ,θ];cases ((rg n).1 (rn L (i+1) 0) 0) with
       | none=>rfl
       |
        some y=>
        simp only [δ];cases KaR y.2 fO<;>rfl
      rfl
     simp only [ξ,θ];cases Kcv (rn L (i+1) 0) with
     | none=>rfl
     |
      some y=>
      simp only [δ];cases (rg n).2.2 y.2 ⟨19,0,y.1,[],(lk L i).ga⟩ 20 (i:Int) with
      | none=>rfl
      | some z=>rfl
    simp only [ξ,θ];cases Kcv (rn L (i+1) 0)<;>rfl
   simp only [ξ,θ];cases (rg n).2.1 (rn L (i+1) 0) with
   | none=>rfl
   |
    some y=>
    simp only [δ];cases Kde y.2 ⟨6,0,ε,[y.1],(lk L i).ga⟩ (i:Int) with
    | none=>rfl
    | some z=>rfl
  simp only [ξ,θ];cases (rg n).2.1 (rn L (i+1) 0) with
  | none=>rfl
  |
   some y=>
   simp only [δ];cases Kde y.2 ⟨5,0,ε,[y.1],(lk L i).ga⟩ (i:Int) with
   | none=>rfl
   | some z=>rfl
 simp only [ξ,θ];rw [oB];rfl
def SM.sound {L:List c9}{i j a s:Nat}{op:Int}{nm:η}{at_ e:Int}{r:Option (Xp×jl)}{d:Option (Xp×RR)}(y c:Xp)(hs:1≤s)(hL:L.length≤100000)(hj:j≤L.length)(ha:a≤L.length)(hy:e=0→y=c∧i≤j∧szE y+i≤j)
  (hr:r=mL (mk L j e) ⟨op,0,nm,[y],at_⟩ (a:Int)) (b:d=Kde (rn L j e) ⟨op,0,nm,[c],at_⟩ (a:Int)):SM L i 0 s r d:=by
 by_cases he:e=0;subst he;obtain ⟨hyy,hij,hsy⟩:=hy rfl;subst hyy;generalize hX:(⟨op,0,nm,[y],at_⟩:Xp)=X at hr b;have hsz:szE X=1+szE y:=by rw [← hX];simp [la,b7]
 rw [wb (fun _=>by rw [hsz];omega)] at hr;rw [l5 (fun _=>by rw [hsz];omega)] at b;simp only [aG,ξ,eS] at hr b;by_cases hd:24<dpE X;rw [Ξ hd,ξ] at hr b;exact SM.bad jg X a 5 (by decide) ha hr b;rw [Δ hd,θ] at hr b;exact ⟨X,X,j,0,hr,b,hj,fun _=>⟨rfl,by omega,by omega,by rw [hsz];omega⟩⟩;generalize hX:(⟨op,0,nm,[y],at_⟩:Xp)=X at hr;generalize f:(⟨op,0,nm,[c],at_⟩:Xp)=X2 at b;rw [wb (fun h=>bH h he),show (e==0)=false by simp [he],θ] at hr;rw [l5 (fun h=>bH h he),show (e==0)=false by simp [he],gG,θ] at b;exact SM.bad jg X2 j e he hj hr b
def SM.more {L:List c9}{i c s c' s':Nat}{r:Option (Xp×jl)}{e:Option (Xp×RR)}(h:SM L (i+1) c s r e)(hc:c'≤c+1)(hs:s≤s'+1):SM L i c' s' r e:=by
 obtain ⟨x,y,i',e',h1,h2,f,g⟩:=h;exact ⟨x,y,i',e',h1,h2,f,fun he=>by obtain ⟨a,b,c,d⟩:=g he;exact ⟨a,by omega,c,by omega⟩⟩
def sm:∀ n2:Nat,(∀ (L:List c9) (i k f:Nat),L.length≤100000→i≤L.length→k≤6→10*(L.length-i)+8≤n2+k→10*(L.length-i)+8≤f+k→SM L i 1 0 ((pg f).1 (mk L i 0) (k:Int)) ((rg n2).1 (rn L i 0) (k:Int))) ∧
  (∀ (L:List c9) (i f:Nat),L.length≤100000→i≤L.length→10*(L.length-i)+1≤n2→10*(L.length-i)+1≤f→SM L i 1 0 ((pg f).2.1 (mk L i 0)) ((rg n2).2.1 (rn L i 0))) ∧
  (∀ (L:List c9) (i a f:Nat) (x:Xp) (op:Int),L.length≤100000→i≤L.length→a≤L.length→x.gd=[]→x.gN=0→10*(L.length-i)+1≤n2→10*(L.length-i)+1≤f→SM L i 0 1 ((pg f).2.2.1 (mk L i 0) x op (a:Int)) ((rg n2).2.2 (rn L i 0) x op (a:Int)))
 | 0=>⟨fun L i k f _ _ _ h=>by omega,fun L i f _ _ h=>by omega,fun L i a f x op _ _ _ _ _ h=>by omega⟩
 |
  n+1=>by
  obtain ⟨ihR,ihU,ihI⟩:=sm n;refine ⟨fun L i k f hL hi hk hn H=>?_,fun L i f hL hi hn H=>?_,fun L i a f x op hL hi ha hx hxn hn H=>?_⟩
  ·
   obtain ⟨f,rfl⟩:∃ m,f=m+1:=⟨f-1,by omega⟩;by_cases K:k=6
   ·subst K;have h:=ihU L i f hL hi (by omega) (by omega);rw [show ((6:Nat):Int)=6 from rfl,AY,Eh];exact h
   obtain ⟨x,y,w,g,h1,h2,v,M⟩:=ihR L i (k+1) f hL hi (by omega) (by omega) (by omega);have hrow:=AX (n:=f) (k:=k) (mk L i 0) (by omega);have o:=Eg (n:=n) (k:=k) (rn L i 0) (by omega);rw [rB (by omega),h1,δ] at hrow;rw [rB (by omega),h2,δ] at o;change _=κ (aE (ka (pg f).1 (k:Int)) (ji L w g x)) _ at hrow;change _=κ (aE (o9 (rg n).1 (k:Int)) (ji L w g y)) _ at o;by_cases he:g=0
   ·subst he;obtain ⟨hxy,g1,z,Q⟩:=M rfl;subst hxy;obtain ⟨x',y',j',e',k1,k2,N,O⟩:=xz (pg f).1 (rg n).1 L i k (by omega) hL (fun j hj hjl=>by
     have:=ihR L j (k+1) f hL hjl (by omega) (by omega) (by omega);rw [rB (by omega)];exact this) (L.length-w) w x (Φ _) (by omega) v z (by omega)
    rw [k1,δ] at hrow;rw [k2,δ] at o;simp only [ji,kw] at hrow o;exact ⟨x',y',j',e',hrow,o,N,fun he=>by obtain ⟨a,b,c,d⟩:=O he;exact ⟨a,by omega,c,by omega⟩⟩
   rw [K0 (C5 he),δ] at hrow;rw [K0 (IQ he),δ] at o;simp only [ji,kw] at hrow o;exact SM.bad x y w g he v hrow o
  ·
   obtain ⟨f,rfl⟩:∃ m,f=m+1:=⟨f-1,by omega⟩;have hu:=lK (n:=f) (i:=i) (L:=L) (by omega);have hv:=t9 (n:=n) (i:=i) (L:=L) (by omega);by_cases h2:(lk L i).gp=2
   ·have hlt:=fR (L:=L) (i:=i) (by rw [h2];decide);rw [h2] at hu hv;exact ⟨_,_,i+1,0,hu,hv,hlt,fun _=>⟨rfl,Φ _,by simp [dpE,dS],by simp [szE,b7];omega⟩⟩
   rw [show ((lk L i).gp==2)=false by simp [h2],θ] at hu hv;by_cases h1:(lk L i).gp=1
   ·have hlt:=fR (L:=L) (i:=i) (by rw [h1];decide);rw [h1] at hu hv;simp only [aG,ξ] at hu hv;have h:=ihI L (i+1) i f ⟨2,0,(lk L i).gq,[],(lk L i).ga⟩ 3 hL hlt hi rfl rfl (by omega) (by omega);rw [hu,hv];exact h.more (by omega) (by omega)
   rw [show ((lk L i).gp==1)=false by simp [h1],θ] at hu hv;by_cases v:(lk L i).gp=3
   ·have hlt:=fR (L:=L) (i:=i) (by rw [v];decide);rw [show ((lk L i).gp==3)=true by simp [v],ξ] at hu hv;obtain ⟨f,rfl⟩:∃ m,f=m+2:=⟨f-2,by omega⟩;have hs:=lR (n:=f+1) (i:=i+1) (a:=i) (L:=L) (t:=lk L i);rw [hs] at hu;have goal:∀ {r A},r=(pg (f+2+1)).2.1 (mk L i 0)→A=(rg (n+1)).2.1 (rn L i 0)→SM L (i+1) 0 1 r A:=by
     rintro r A rfl rfl;cases c1:tm (lk L i).gq f6;rotate_left
     ·rw [c1,ξ] at hu hv;obtain ⟨y,p,j,g,q,s,l,u⟩:=ihU L (i+1) (f+1) hL hlt (by omega) (by omega);rw [q,δ] at hu;rw [s,δ] at hv;exact SM.sound y p (Φ _) hL l hi (fun he=>by obtain ⟨a,b,c,d⟩:=u he;exact ⟨a,by omega,by omega⟩) hu hv
     cases c2:tm (lk L i).gq kc;rotate_left
     ·rw [c1,c2,θ,ξ] at hu hv;obtain ⟨y,p,j,g,q,s,l,u⟩:=ihU L (i+1) (f+1) hL hlt (by omega) (by omega);rw [q,δ] at hu;rw [s,δ] at hv;exact SM.sound y p (Φ _) hL l hi (fun he=>by obtain ⟨a,b,c,d⟩:=u he;exact ⟨a,by omega,by omega⟩) hu hv
     cases c3:tm (lk L i).gq gZ;rotate_left
     ·rw [c1,c2,c3,θ,θ,ξ] at hu hv;rw [name_eq (by omega),δ] at hu;rw [uh (by omega),δ] at hv;cases hk:(lk L (i+1)).gp==1
      ·rw [hk,θ] at hu hv;exact SM.bad _ _ (i+1) 3 (by decide) hlt hu hv
      have B:(lk L (i+1)).gp=1:=by simpa using hk
      rw [hk,ξ] at hu hv;exact ⟨_,_,i+1+1,0,hu,hv,fR (by rw [B];decide),fun _=>⟨rfl,by omega,by simp [dpE,dS],by simp [szE,b7];omega⟩⟩
     cases c4:tm (lk L i).gq jG;rotate_left
     ·rw [c1,c2,c3,c4,θ,θ,θ,ξ] at hu hv;rw [name_eq (by omega),δ] at hu;rw [uh (by omega),δ] at hv;cases hk:(lk L (i+1)).gp==1
      ·rw [hk,θ] at hu hv;simp only [] at hu hv;obtain ⟨n,rfl⟩:∃ m,n=m+1:=⟨n-1,by omega⟩;rw [Md (by decide)] at hu;rw [pd (by decide)] at hv;exact SM.bad _ _ (i+1) 3 (by decide) hlt hu hv
      have B:(lk L (i+1)).gp=1:=by simpa using hk
      have P:=fR (L:=L) (i:=i+1) (by rw [B];decide);rw [hk,ξ] at hu hv;simp only [] at hu hv;have h:=ihI L (i+1+1) i (f+1) ⟨19,0,(lk L (i+1)).gq,[],(lk L i).ga⟩ 20 hL P hi rfl rfl (by omega) (by omega);rw [hu,hv];exact h.more (by omega) (by omega)
     cases C:tm (lk L i).gq jf;rotate_left
     ·rw [c1,c2,c3,c4,C,θ,θ,θ,θ,ξ] at hu hv;exact ⟨_,_,i+1,0,hu,hv,hlt,fun _=>⟨rfl,by omega,by simp [dpE,dS],by simp [szE,b7];omega⟩⟩
     cases I:tm (lk L i).gq fJ;rotate_left
     ·rw [c1,c2,c3,c4,C,I,θ,θ,θ,θ,θ,ξ] at hu hv;rw [mt] at hu;obtain ⟨y,p,j,g,q,s,l,u⟩:=ihR L (i+1) 0 f hL hlt (by omega) (by omega) (by omega);rw [show (pg f).1 (mk L (i+1) 0) 0=_ from q,δ] at hu;rw [show (rg n).1 (rn L (i+1) 0) 0=_ from s,δ] at hv;by_cases he:g=0
      ·subst he;obtain ⟨hyy,g1,J,z⟩:=u rfl;subst hyy;change _=κ (wt (mk L j 0) fO) _ at hu;rw [ml _ (by omega),δ] at hu;simp only [] at hv;rw [zK _ (by omega),δ] at hv;cases hb:isS L j fO
       ·rw [hb,θ] at hu hv;exact SM.bad y y j 3 (by decide) l hu hv
       rw [hb,ξ] at hu hv;obtain ⟨F,_,_⟩:=v8 hb;exact ⟨y,y,j+1,0,hu,hv,F,fun _=>⟨rfl,by omega,J,by omega⟩⟩
      rw [show ((y,mk L j g).2.gE==0)=false by simp [mk,he],θ] at hu;simp only [] at hv;rw [zL _ he,δ] at hv;exact SM.bad y p j g he l hu hv
     rw [c1,c2,c3,c4,C,I,θ,θ,θ,θ,θ,θ] at hu hv;exact SM.bad jg jg i 3 (by decide) hi hu hv
    exact (goal rfl rfl).more (by omega) (by omega)
   rw [show ((lk L i).gp==3)=false by simp [v],θ] at hu hv;exact SM.bad jg jg i 3 (by decide) hi hu hv
  ·
   obtain ⟨f,rfl⟩:∃ m,f=m+1:=⟨f-1,by omega⟩;have R:dpE x=1:=by rw [kS,hx];rfl
   have U:szE x=1:=by rw [la,hx];rfl
   have hu:=Hf (n:=f) (i:=i) (L:=L) (x:=x) (op:=op) (a:=(a:Int)) (by omega);have hv:=rT (n:=n) (i:=i) (L:=L) (x:=x) (op:=op) (a:=(a:Int)) (by omega);cases hb:isS L i eH
   ·rw [hb,θ] at hu hv;exact ⟨x,x,i,0,hu,hv,hi,fun _=>⟨rfl,Φ _,by omega,by omega⟩⟩
   rw [hb,ξ] at hu hv;obtain ⟨hlt,V,_⟩:=v8 hb;obtain ⟨f,rfl⟩:∃ m,f=m+1:=⟨f-1,by omega⟩;rw [mt] at hu;obtain ⟨y,p,j,g,q,s,l,u⟩:=ihR L (i+1) 0 f hL hlt (by omega) (by omega) (by omega);rw [show (pg f).1 (mk L (i+1) 0) 0=_ from q,δ] at hu;rw [show (rg n).1 (rn L (i+1) 0) 0=_ from s,δ] at hv;rw [hxn] at hu;by_cases he:g=0
   ·subst he;obtain ⟨hyy,g1,J,z⟩:=u rfl;subst hyy;rw [show ((y,mk L j 0).2.gE==0)=true from rfl,ξ] at hu;change _=κ (κ (wt (mk L j 0) eO) _) _ at hu;rw [ml _ (by omega),δ,δ] at hu;simp only [] at hv;rw [zK _ (by omega),δ] at hv;cases G:isS L j eO
    ·rw [G,θ] at hu hv;exact SM.sound (e:=3) (j:=j) y y (Φ _) hL l ha (fun h=>by cases h) hu hv
    rw [G,ξ] at hu hv;obtain ⟨F,_,_⟩:=v8 G;exact SM.sound (e:=0) (j:=j+1) y y (Φ _) hL F ha (fun _=>⟨rfl,by omega,by omega⟩) hu hv
   rw [show ((y,mk L j g).2.gE==0)=false by simp [mk,he],θ,δ] at hu;simp only [] at hv;rw [zL _ he,δ] at hv;exact SM.sound (e:=g) (j:=j) y p (Φ _) hL l ha (fun h=>bH h he) hu hv
end Go.Proofs.YticifeeokcgfkaaGreatDoor.Ab.Pq
namespace Go.Proofs.YticifeeokcgfkaaGreatDoor.Ab.Pq
open Go
def GR {A:Type}(L:List c9)(v o:Int)(p:dK L)(sz:A→Nat)(r:Option (A×Km))(a:Option (A×RR)):Prop:=
 ∃ x y q e,r=some (x,gm L q e v o)∧a=some (y,rm L q e)∧(e=0→x=y∧p.1+sz x≤q.1)
def GR.bad {A:Type}{L:List c9}{v o:Int}{p:dK L}{sz:A→Nat}{r:Option (A×Km)}{a:Option (A×RR)}{x y:A}{q:dK L}{e:Int}(he:e≠0)(h:r=some (x,gm L q e v o))(h2:a=some (y,rm L q e)):GR L v o p sz r a:=⟨x,y,q,e,h,h2,fun h=>bH h he⟩
def GR.ret {A:Type}{L:List c9}{v o:Int}{p:dK L}{sz:A→Nat}{r:Option (A×Km)}{a:Option (A×RR)}{x:A}{q:dK L}{e:Int}(h:r=some (x,gm L q e v o))(h2:a=some (x,rm L q e))(hs:p.1+sz x≤q.1):GR L v o p sz r a:=⟨x,x,q,e,h,h2,fun _=>⟨rfl,hs⟩⟩
section
variable {L:List c9}
def Ke2 (p:dK L)(s:η):(∃ q:dK L,eatP L p 0 s=(q,0)∧q.1=p.1+1∧isS L p.1 s=true)∨(eatP L p 0 s=(p,3)∧isS L p.1 s=false):=by
 unfold eatP;rw [aQ rfl];by_cases h:isS L p.1 s=true;rw [ft h];exact .inl ⟨_,rfl,rfl,h⟩;rw [ia h];exact .inr ⟨rfl,by simpa using h⟩
def sG (p:dK L)(e:Int)(s:η):p.1≤(eatP L p e s).1.1:=by
 unfold eatP;by_cases he:e=0;rw [aQ he];by_cases h:isS L p.1 s=true;rw [ft h];exact CU _;rw [ia h];exact Φ _;rw [aF he];exact Φ _
def Kco (p:dK L)(s:η):(∃ q:dK L,mayP L p 0 s=(true,q)∧q.1=p.1+1∧isS L p.1 s=true)∨(mayP L p 0 s=(false,p)∧isS L p.1 s=false):=by
 unfold mayP;rw [aQ rfl];by_cases h:isS L p.1 s=true;rw [ft h];exact .inl ⟨_,rfl,rfl,h⟩;rw [ia h];exact .inr ⟨rfl,by simpa using h⟩
def Kh2 (p:dK L):(∃ q:dK L,nameP L p 0=((lk L p.1).gq,q,0)∧q.1=p.1+1∧(lk L p.1).gp=1)∨nameP L p 0=(ε,p,3):=by
 unfold nameP;rw [aQ rfl];by_cases h:(lk L p.1).gp=1;rw [ft h];exact .inl ⟨_,rfl,rfl,h⟩;rw [ia h];exact .inr rfl
def Gr {p:dK L}{e v o:Int}(he:e≠0):kW (gm L p e v o)=some (jg,gm L p e v o):=by
 unfold kW;rw [show ((gm L p e v o).gE != 0)=true by simp [he]];rfl
def C3 {p:dK L}{e:Int}(he:e≠0):Kbr (rm L p e)=some (jg,rm L p e):=by
 unfold Kbr;rw [show ((rm L p e).gE != 0)=true by simp [he]];rfl
variable (hL:L.length ≤ 100000)
include hL
theorem rj {p:dK L}{e v o:Int}(he:e≠0)(l:List η)(hl:l.length≤1000):K9 (gm L p e v o) l=some (gm L p e v o):=by rw [qJ hL p e v o l hl,G2 he]
theorem ri {p:dK L}{e:Int}(he:e≠0)(s:η):KaR (rm L p e) s=some (rm L p e):=by rw [fG hL,mI he]
theorem z3 {p:dK L}{e v o:Int}(he:e≠0)(s:η):i0 (gm L p e v o) s=some (false,gm L p e v o):=by rw [gmay hL,Af he]
theorem sW {p:dK L}{e:Int}(he:e≠0)(s:η):lc (rm L p e) s=some (false,rm L p e):=by rw [ju hL,Af he]
theorem yn {p:dK L}{e v o:Int}(he:e≠0):oO (gm L p e v o)=some (ε,gm L p e v o):=by rw [gname hL,G4 he]
theorem xL {p:dK L}{e:Int}(he:e≠0):Kcv (rm L p e)=some (ε,rm L p e):=by rw [kH hL,G4 he]
theorem BQ (p:dK L)(v o:Int):GR L v o p szE (kW (gm L p 0 v o)) (Kbr (rm L p 0)):=by
 have hp:=p.2;obtain ⟨x,y,i,e,h1,h2,a,b⟩:=(sm (10*L.length+20)).1 L p.1 0 (10*L.length+20) hL hp (by omega) (by omega) (by omega);have h1':=Nu _ _ _ h1;have c:=Ph _ _ _ h2;have d:kW (gm L p 0 v o)=some (bif e==0 then x else jg,gm L ⟨i,a⟩ e v o):=by unfold kW Dm;simp only [bne,aG,bI,θ];rw [show min ((p.1:Nat):Int) (L.length:Int)=((p.1:Nat):Int) by omega,Δ (by omega),θ,Δ (by omega),δ,θ];rw [show Dz (⟨L,((p.1:Nat):Int),0⟩:Kr) 0=_ from h1',δ];by_cases he:e=0;subst he;rfl;simp only [mk,show (e==0)=false by simp [he],a3,ξ,δ,θ];have:=gfail (L:=L) p ⟨i,a⟩ 0 v o e;rw [v9] at this;rw [show lg (gm L p 0 v o) (i:Int) e=_ from this,δ];rfl
 have f:Kbr (rm L p 0)=some (y,rm L ⟨i,a⟩ e):=by unfold Kbr;simp only [bne,aG,bI,θ];rw [show G7 (rm L p 0) 0=_ from c,δ];rfl
 refine ⟨_,_,_,_,d,f,fun he=>?_⟩;subst he;obtain ⟨g,h,j,k⟩:=b rfl;exact ⟨g,by show p.1+szE x≤i;omega⟩
abbrev IB:=List Xp×List c9×Int×Int×Int×Int
abbrev EU:=List Xp×List c9×Int×Int
omit hL in
def ye (a:IB):Option (Step IB IB):=bif a.2.2.2.1==(0:Int) then (kW (⟨a.2.1,a.2.2.1,a.2.2.2.1,a.2.2.2.2.1,a.2.2.2.2.2⟩:Km)).bind fun c=>(app 64 a.1 ([c.1]:List Kf)).bind fun d=>(i0 c.2 i3).bind fun b=>bif !b.1 then some (.done (d,b.2.gL,b.2.ga,b.2.gE,b.2.gu,b.2.gt)) else some (.next (d,b.2.gL,b.2.ga,b.2.gE,b.2.gu,b.2.gt)) else some (.done (a.1,a.2.1,a.2.2.1,a.2.2.2.1,a.2.2.2.2.1,a.2.2.2.2.2))
omit hL in
def sV (a:EU):Option (Step EU EU):=(lc (⟨a.2.1,a.2.2.1,a.2.2.2⟩:Kl) i3).bind fun b=>bif b.1 then (Kbr b.2).bind fun c=>(app 64 a.1 ([c.1]:List Kf)).bind fun d=>some (.next (d,c.2.gL,c.2.ga,c.2.gE)) else some (.done (a.1,b.2.gL,b.2.ga,b.2.gE))
theorem yd (v o:Int)(i:Nat):∀ (n:Nat) (p:dK L) (acc:List Xp),L.length-p.1≤n→i+b7 acc≤p.1 →
  ∃ l l2 q e,aE ye (acc,L,((p.1:Nat):Int),0,v,o)=some (l,L,((q.1:Nat):Int),e,v,o)∧((Kbr (rm L p 0)).bind fun a=>(app 64 acc [a.1]).bind fun j=>aE sV (j,a.2.gL,a.2.ga,a.2.gE))=some (l2,L,((q.1:Nat):Int),e)∧(e=0→l=l2∧i+b7 l≤(q:dK L).1):=by
 intro n;induction n with
 |
  zero=>
  intro p acc hn ha;obtain ⟨x,y,q,e,h1,h2,d⟩:=BQ hL p v o;have hp:=p.2;have hlen:=p5 acc;have he:e≠0:=by
   intro he;obtain ⟨_,k⟩:=d he;have:=q.2;have s:1≤szE x:=by rw [la];omega
   omega
  have hf:ye (acc,L,((p.1:Nat):Int),0,v,o)=some (.done (acc++[x],L,((q.1:Nat):Int),e,v,o)):=by
   unfold ye;simp only [aG,ξ];rw [h1,δ,h9 (by omega) (by simp;omega),δ];simp only [];rw [z3 hL he,δ];rfl
  refine ⟨_,acc++[y],q,e,K0 hf,?_,fun h=>bH h he⟩;rw [h2,δ,h9 (by omega) (by simp;omega),δ];refine K0 ?_;unfold sV;simp only [];rw [sW hL he,δ];rfl
 |
  succ n ih=>
  intro p acc hn ha;obtain ⟨x,y,q,e,h1,h2,d⟩:=BQ hL p v o;have hp:=p.2;have hlen:=p5 acc;have hf:∀ b q',mayP L q e i3=(b,q')→ye (acc,L,((p.1:Nat):Int),0,v,o)=(bif !b then some (.done (acc++[x],L,((q'.1:Nat):Int),e,v,o)) else some (.next (acc++[x],L,((q'.1:Nat):Int),e,v,o))):=by
   intro b q' hb;unfold ye;simp only [aG,ξ];rw [h1,δ,h9 (by omega) (by simp;omega),δ];simp only [];rw [gmay hL,δ,hb]
  have hR:∀ b q',mayP L q e i3=(b,q')→sV (acc++[y],L,((q.1:Nat):Int),e)=(bif b then ((Kbr (rm L q' e)).bind fun c=>((app 64 (acc++[y]) ([c.1]:List Kf)).bind fun t=>some (.next (t,c.2.gL,c.2.ga,c.2.gE)))) else some (.done (acc++[y],L,((q'.1:Nat):Int),e))):=by
   intro b q' hb;unfold sV;simp only [];rw [ju hL q,δ,hb]
  rw [h2,δ,h9 (by omega) (by simp;omega),δ];by_cases he:e=0
  ·subst he;obtain ⟨hxy,k⟩:=d rfl;subst hxy;have s:1≤szE x:=by rw [la];omega
   have hsz:b7 (acc++[x])=b7 acc+szE x:=by rw [Fv];simp [b7]
   rcases Kco q i3 with ⟨q',hq,C,_⟩|⟨hq,_⟩
   ·have hf':=hf _ _ hq;have hR':=hR _ _ hq;simp only [bI,θ,ξ] at hf' hR';rw [ig hf'];obtain ⟨l,l2,u,A,k1,k2,B⟩:=ih q' (acc++[x]) (by omega) (by omega);refine ⟨l,l2,u,A,k1,?_,B⟩;rw [← k2];have hstep:∀ (m:Option (Xp×RR)) (g:Xp×RR→Option EU),sV (acc++[x],L,((q.1:Nat):Int),0)=(m.bind fun z=>(g z).bind fun w=>some (.next w))→(∃ r,(m.bind g)=some r)→aE sV (acc++[x],L,((q.1:Nat):Int),0)=m.bind fun z=>(g z).bind fun w=>aE sV w:=by
     intro m g f hr;cases m with
     | none=>obtain ⟨r,hr⟩:=hr;cases hr
     |
      some z=>
      rw [δ] at f hr ⊢;obtain ⟨r,hr⟩:=hr;rw [hr,δ] at f ⊢;exact ig f
    have hh:=hstep (Kbr (rm L q' 0)) (fun z=>(app 64 (acc++[x]) [z.1]).bind fun w=>some (w,z.2.gL,z.2.ga,z.2.gE)) (by
     rw [hR'];cases Kbr (rm L q' 0) with
     | none=>rfl
     |
      some z=>
      simp only [δ];cases app 64 (acc++[x]) [z.1]<;>rfl) (by
     obtain ⟨x',y',q'',e'',m1,m2,F⟩:=BQ hL q' v o;rw [m2,δ];have G:=q.2;rw [h9 (by omega) (by simp;omega),δ];exact ⟨_,rfl⟩)
    rw [show ((acc++[x],(x,rm L q 0).2.gL,(x,rm L q 0).2.ga,(x,rm L q 0).2.gE):EU)=(acc++[x],L,((q.1:Nat):Int),0) from rfl,hh];cases Kbr (rm L q' 0) with
    | none=>rfl
    |
     some z=>
     simp only [δ];cases app 64 (acc++[x]) [z.1]<;>rfl
   have hf':=hf _ _ hq;have hR':=hR _ _ hq;simp only [a3,θ,ξ] at hf' hR';exact ⟨_,_,q,0,K0 hf',K0 hR',fun _=>⟨rfl,by omega⟩⟩
  have hf':=hf _ _ (Af he _);have hR':=hR _ _ (Af he _);simp only [a3,θ,ξ] at hf' hR';exact ⟨_,_,q,e,K0 hf',K0 hR',fun h=>bH h he⟩
theorem yg (p:dK L)(v o:Int):GR L v o p b7 (Ax (gm L p 0 v o)) (Dn (rm L p 0)):=by
 unfold Ax Dn;rw [geat hL,δ,fG hL,δ];rcases Ke2 p fJ with ⟨q,hq,r,_⟩|⟨hq,_⟩;rw [hq];simp only [];rw [gmay hL,δ,ju hL,δ];rcases Kco q fO with ⟨q',h,s,_⟩|⟨h,_⟩;rw [h];exact GR.ret (x:=[]) (q:=q') (e:=0) rfl rfl (by simp [b7];omega);rw [h];simp only [θ];obtain ⟨l,l2,c,e,k1,k2,j⟩:=yd hL v o p.1 L.length q [] (by omega) (by simp [b7];omega);change GR L v o p b7 (κ (aE ye ([],L,((q.1:Nat):Int),0,v,o)) _) _;rw [k1,δ];simp only [];rw [geat hL c,δ];have k:((Kbr (rm L q 0)).bind fun f=>(app 64 ([]:List Xp) [f.1]).bind fun m=>(aE sV (m,f.2.gL,f.2.ga,f.2.gE)).bind fun g=>((KaR (⟨g.2.1,g.2.2.1,g.2.2.2⟩:Kl) fO).bind fun n=>some (g.1,n)))=some (l2,rm L (eatP L c e fO).1 (eatP L c e fO).2):=by
  cases hx:Kbr (rm L q 0) with
  | none=>rw [hx] at k2;cases k2
  |
   some z=>
   rw [hx,δ] at k2;rw [δ];cases hy:app 64 ([]:List Xp) [z.1] with
   | none=>rw [hy] at k2;cases k2
   |
    some w=>
    rw [hy,δ] at k2;rw [δ,k2,δ];simp only [];rw [fG hL c,δ]
 refine ⟨l,l2,(eatP L c e fO).1,(eatP L c e fO).2,rfl,k,fun he=>?_⟩;by_cases i:e=0;obtain ⟨a,b⟩:=j i;have:=sG c e fO;exact ⟨a,by omega⟩;rw [mI i] at he;exact bH he i;rw [hq];simp only [];have d:(3:Int)≠0:=by decide
 rw [z3 hL d,δ,sW hL d,δ];simp only [θ];change GR L v o p b7 (κ (aE ye ([],L,((p.1:Nat):Int),3,v,o)) _) _;rw [K0 (t:=([],L,((p.1:Nat):Int),3,v,o)) rfl,δ];simp only [];rw [rj hL d _ (by simp),δ,C3 d,δ,h9 (by omega) (by simp),δ];refine GR.bad d (q:=p) rfl (y:=[jg]) ?_;change κ (aE sV ([]++[jg],L,((p.1:Nat):Int),3)) _=_;rw [K0 (t:=([jg],L,((p.1:Nat):Int),3)) (by unfold sV;simp only [];rw [sW hL d,δ];rfl),δ];simp only [];rw [ri hL d,δ]
end
end Go.Proofs.YticifeeokcgfkaaGreatDoor.Ab.Pq
namespace Go.Proofs.YticifeeokcgfkaaGreatDoor.Ab.Pq
open Go
section
variable {L:List c9}
def tT {op at_:Int}{nm fn:η}{es:List Xp}:jt ⟨op,nm,fn,es,[],[],at_⟩=1+b7 es:=by rw [oI];simp [szSs]
variable (hL:L.length ≤ 100000)
include hL
theorem u6 {p:dK L}{e v o:Int}(he:e≠0):Ax (gm L p e v o)=some ([],gm L p e v o):=by
 unfold Ax;rw [rj hL he _ (by simp),δ,z3 hL he,δ];simp only [θ];change (κ (aE ye ([],L,((p.1:Nat):Int),e,v,o)) _)=_;rw [K0 (t:=([],L,((p.1:Nat):Int),e,v,o)) (by unfold ye;simp only [];rw [show (e==0)=false by simp [he],θ]),δ];simp only [];rw [rj hL he _ (by simp),δ]
theorem qN {p:dK L}{e:Int}(he:e≠0):Dn (rm L p e)=some ([jg],rm L p e):=by
 unfold Dn;rw [ri hL he,δ,sW hL he,δ];simp only [θ];rw [C3 he,δ,h9 (by omega) (by simp),δ];change (κ (aE sV ([]++[jg],L,((p.1:Nat):Int),e)) _)=_;rw [K0 (t:=([jg],L,((p.1:Nat):Int),e)) (by unfold sV;simp only [];rw [sW hL he,δ];rfl),δ];simp only [];rw [ri hL he,δ]
theorem q5 (p:dK L)(v o:Int)(op at_:Int)(nm fn:η)(es:List Xp):GR L v o p jt (w1 (gm L p 0 v o) ⟨op,nm,fn,es,[],[],at_⟩) (yX (rm L p 0) ⟨op,nm,fn,es,[],[],at_⟩):=by
 unfold w1 yX;rw [gname hL,δ,kH hL,δ];rcases Kh2 p with ⟨q,hq,c,_⟩|hq;rw [hq];simp only [];obtain ⟨x,y,b,e,h1,h2,a⟩:=yg hL q v o;rw [h1,δ,h2,δ,geat hL,δ,fG hL,δ];by_cases he:e=0;obtain ⟨hxy,d⟩:=a he;subst hxy;exact GR.ret rfl rfl (by rw [tT];have:=sG b e eM;show p.1+(1+b7 x)≤(eatP L b e eM).1.1;omega);rw [mI he];exact GR.bad he rfl rfl;rw [hq];simp only [];have a:(3:Int)≠0:=by decide
 rw [u6 hL a,qN hL a,δ,δ,rj hL a _ (by simp),δ,ri hL a,δ];exact GR.bad a rfl rfl
theorem BF {p:dK L}{e v o:Int}(he:e≠0)(s:Kk):(∃ x,w1 (gm L p e v o) s=some (x,gm L p e v o))∧(∃ y,yX (rm L p e) s=some (y,rm L p e)):=by
 constructor;unfold w1;rw [yn hL he,δ];simp only [];rw [u6 hL he,δ];simp only [];rw [rj hL he _ (by simp),δ];exact ⟨_,rfl⟩;unfold yX;rw [xL hL he,δ];simp only [];rw [qN hL he,δ];simp only [];rw [ri hL he,δ];exact ⟨_,rfl⟩
theorem lO (p:dK L)(v o:Int):GR L v o p b7 (Aw (gm L p 0 v o)) (Dd (rm L p 0)):=by
 unfold Aw Dd;rw [geat hL,δ,fG hL,δ];rcases Ke2 p fJ with ⟨q,hq,c,_⟩|⟨hq,_⟩;rw [hq];simp only [];obtain ⟨x,y,b,e,h1,h2,a⟩:=BQ hL q v o;rw [h1,δ,h2,δ,geat hL,δ,fG hL,δ];by_cases he:e=0;obtain ⟨hxy,d⟩:=a he;subst hxy;exact GR.ret rfl rfl (by simp only [b7];have:=sG b e fO;omega);rw [mI he];exact GR.bad he rfl rfl;rw [hq];simp only [];have a:(3:Int)≠0:=by decide
 rw [Gr a,δ,C3 a,δ,rj hL a _ (by simp),δ,ri hL a,δ];exact GR.bad a rfl rfl
theorem IP (p a:dK L)(v o:Int)(s:η)(op at_:Int)(nm fn:η)(hp:p.1+1≤a.1):GR L v o p jt
  ((kW (gm L a 0 v o)).bind fun x=>(K9 x.2 [s]).bind fun z=>some ((⟨op,nm,fn,[x.1],[],[],at_⟩:Kk),z))
  ((Kbr (rm L a 0)).bind fun x=>(KaR x.2 s).bind fun z=>some ((⟨op,nm,fn,[x.1],[],[],at_⟩:Kk),z)):=by
 obtain ⟨x,y,b,e,h1,h2,c⟩:=BQ hL a v o;rw [h1,δ,h2,δ,geat hL,δ,fG hL,δ];by_cases he:e=0;obtain ⟨hxy,d⟩:=c he;subst hxy;exact GR.ret rfl rfl (by rw [tT];simp only [b7];have:=sG b e s;omega);rw [mI he];exact GR.bad he rfl rfl
theorem Lz {p a:dK L}{v o e:Int}(he:e≠0)(s:η)(op at_:Int)(nm fn:η):GR L v o p jt
  ((kW (gm L a e v o)).bind fun x=>(K9 x.2 [s]).bind fun z=>some ((⟨op,nm,fn,[x.1],[],[],at_⟩:Kk),z))
  ((Kbr (rm L a e)).bind fun x=>(KaR x.2 s).bind fun z=>some ((⟨op,nm,fn,[x.1],[],[],at_⟩:Kk),z)):=by
 rw [Gr he,δ,C3 he,δ,rj hL he _ (by simp),δ,ri hL he,δ];exact GR.bad he rfl rfl
theorem Bm (i:Nat)(s:η):(bif (lk L i).gp==3 then some (decide ((lk L i).gq=s)) else some false)=some (isS L i s):=by
 unfold isS;cases (lk L i).gp==3<;>rfl
def ll (e:RR)(nm fn:η)(op at_:Int):Option (Kk×RR):=(lc e ke).bind fun a=>bif a.1 then (KaR a.2 fJ).bind fun f=>(KaR f fO).bind fun g=>(KaR g eM).bind fun h=>some ((⟨(5:Int),nm,fn,[],[],[],at_⟩:Kk),h) else (Do a.2 (1:Int)).bind fun b=>κ (α:=Bool) ((lf a.2).bind fun i=>bif i.gp==(1:Int) then bif b.gp==(3:Int) then some (decide (b.gq=fJ)) else some false else some false) fun j=>bif j then (yX a.2 (⟨op,nm,fn,[],[],[],at_⟩:Kk)).bind fun c=>some (c.1,c.2) else (Kbr a.2).bind fun d=>(KaR d.2 eM).bind fun k=>some ((⟨(1:Int),nm,fn,([d.1]:List Kf),[],[],at_⟩:Kk),k)
theorem sD (p c:dK L)(v o:Int)(nm fn:η)(op at_:Int)(hp:p.1+1≤c.1):GR L v o p jt (y6 (gm L c 0 v o) ⟨op,nm,fn,[],[],[],at_⟩) (ll (rm L c 0) nm fn op at_):=by
 unfold y6 ll;rw [gmay hL,δ,ju hL,δ];rcases Kco c ke with ⟨q,hq,h,_⟩|⟨hq,_⟩;rw [hq];simp only [ξ];rw [qJ hL _ _ _ _ _ (by simp),δ,fG hL,δ,fG hL,δ,fG hL,δ];refine GR.ret (q:=(jk L q 0 [ν #[40],ν #[41],ν #[59]]).1) rfl rfl ?_;rw [tT];simp only [b7];have i:=sG q 0 fJ;have j:=sG (eatP L q 0 fJ).1 (eatP L q 0 fJ).2 fO;have k:=sG (eatP L (eatP L q 0 fJ).1 (eatP L q 0 fJ).2 fO).1 (eatP L (eatP L q 0 fJ).1 (eatP L q 0 fJ).2 fO).2 eM;show p.1+(1+0)≤(eatP L (eatP L (eatP L q 0 fJ).1 (eatP L q 0 fJ).2 fO).1 (eatP L (eatP L q 0 fJ).1 (eatP L q 0 fJ).2 fO).2 eM).1.1;omega;rw [hq];simp only [θ];rw [yK hL,δ,Bs hL,δ,l6 hL,δ,jE hL,δ,Bm hL];cases hk:(bif (lk L c.1).gp==1 then some (isS L (c.1+1) fJ) else some false) with
 | none=>cases d:(lk L c.1).gp==1<;>rw [d] at hk<;>cases hk
 |
  some b=>
  rw [δ,δ];cases b
  ·exact IP hL p c v o _ _ _ _ _ hp
  simp only [ξ];rw [oB,oB];obtain ⟨x,y,f,e,h1,h2,g⟩:=q5 hL c v o op at_ nm fn [];exact ⟨x,y,f,e,h1,h2,fun he=>by obtain ⟨a,b⟩:=g he;exact ⟨a,by omega⟩⟩
theorem ol {p:dK L}{e v o:Int}(he:e≠0)(nm fn:η)(op at_:Int):(∃ x,y6 (gm L p e v o) ⟨op,nm,fn,[],[],[],at_⟩=some (x,gm L p e v o))∧(∃ y,ll (rm L p e) nm fn op at_=some (y,rm L p e)):=by
 obtain ⟨⟨c1,h1⟩,⟨c2,h2⟩⟩:=BF hL (p:=p) (v:=v) (o:=o) he ⟨op,nm,fn,[],[],[],at_⟩;constructor
 ·unfold y6;rw [z3 hL he,δ];simp only [θ];rw [yK hL,δ,Bs hL,δ];cases hk:(bif (lk L p.1).gp==1 then some (isS L (p.1+1) fJ) else some false) with
  | none=>cases a:(lk L p.1).gp==1<;>rw [a] at hk<;>cases hk
  |
   some b=>
   rw [δ];cases b
   ·simp only [θ];rw [Gr he,δ];simp only [];rw [rj hL he _ (by simp),δ];exact ⟨_,rfl⟩
   simp only [ξ];rw [oB,h1];exact ⟨_,rfl⟩
 unfold ll;rw [sW hL he,δ];simp only [θ];rw [l6 hL,δ,jE hL,δ,Bm hL];cases hk:(bif (lk L p.1).gp==1 then some (isS L (p.1+1) fJ) else some false) with
 | none=>cases a:(lk L p.1).gp==1<;>rw [a] at hk<;>cases hk
 |
  some b=>
  rw [δ];cases b
  ·simp only [θ];rw [C3 he,δ];simp only [];rw [ri hL he,δ];exact ⟨_,rfl⟩
  simp only [ξ];rw [oB,h2];exact ⟨_,rfl⟩
end
end Go.Proofs.YticifeeokcgfkaaGreatDoor.Ab.Pq
namespace Go.Proofs.YticifeeokcgfkaaGreatDoor.Ab.Pq
open Go
section
variable {L:List c9}(hL:L.length ≤ 100000)
include hL
theorem rS (p:dK L)(e at_:Int):FD (rm L p e) ⟨0,ε,ε,[],[],[],at_⟩=(bif isS L (p.1+1) fJ then yX (rm L p e) ⟨0,ε,ε,[],[],[],at_⟩ else ((Kcv (rm L p e)).bind fun a=>((lc a.2 eH).bind fun b=>(bif b.1 then ((Kbr b.2).bind fun c=>((KaR c.2 eO).bind fun f=>((KaR f gJ).bind fun g=>((Kbr g).bind fun d=>((KaR d.2 eM).bind fun h=>some ((⟨(2:Int),a.1,ε,([c.1,d.1]:List Kf),[],[],at_⟩:Kk),h)))))) else ((KaR b.2 gJ).bind fun i=>ll i a.1 ε 0 at_))))):=by
 unfold FD ll;rw [l6 hL,δ,Bm hL,δ];cases isS L (p.1+1) fJ;rfl;simp only [ξ];rw [oB]
theorem r9 (p:dK L)(e v o at_:Int):CH (gm L p e v o) ⟨0,ε,ε,[],[],[],at_⟩=(bif isS L (p.1+1) fJ then w1 (gm L p e v o) ⟨0,ε,ε,[],[],[],at_⟩ else ((oO (gm L p e v o)).bind fun a=>((i0 a.2 eH).bind fun b=>(bif b.1 then ((kW b.2).bind fun c=>((K9 c.2 ([eO,gJ]:List η)).bind fun f=>((kW f).bind fun d=>((K9 d.2 ([eM]:List η)).bind fun g=>some ((⟨(2:Int),a.1,ε,([c.1,d.1]:List Kf),[],[],at_⟩:Kk),g))))) else ((K9 b.2 ([gJ]:List η)).bind fun h=>y6 h ⟨0,a.1,ε,[],[],[],at_⟩))))):=by
 unfold CH;rw [Bs hL,δ];simp only [oB]
theorem uW (p:dK L)(v o at_:Int):GR L v o p jt (CH (gm L p 0 v o) ⟨0,ε,ε,[],[],[],at_⟩) (FD (rm L p 0) ⟨0,ε,ε,[],[],[],at_⟩):=by
 rw [r9 hL,rS hL];have b:(3:Int)≠0:=by decide
 cases isS L (p.1+1) fJ;rotate_left;exact q5 hL p v o _ _ _ _ _;simp only [θ];rw [gname hL,δ,kH hL,δ];rcases Kh2 p with ⟨q,hq,m,_⟩|hq;rw [hq];simp only [];rw [gmay hL,δ,ju hL,δ];rcases Kco q eH with ⟨q',c,g,_⟩|⟨c,_⟩;rw [c];simp only [ξ];obtain ⟨x,y,a,e,h1,h2,i⟩:=BQ hL q' v o;rw [h1,δ,h2,δ];simp only [];rw [qJ hL a e v o _ (by simp),δ,fG hL a,δ,fG hL,δ];rw [show jk L a e [ν #[93],ν #[61]]=eatP L (eatP L a e eO).1 (eatP L a e eO).2 gJ from rfl];have n:=sG a e eO;have f:=sG (eatP L a e eO).1 (eatP L a e eO).2 gJ;have hbad:e≠0→(eatP L (eatP L a e eO).1 (eatP L a e eO).2 gJ).2≠0:=by intro he;rw [mI he];simp only [];rw [mI he];exact he
 generalize eatP L (eatP L a e eO).1 (eatP L a e eO).2 gJ=w at f hbad ⊢;obtain ⟨j,k⟩:=w;simp only [] at f hbad ⊢;by_cases hw:k=0;subst hw;have he:e=0:=by by_cases h:e=0;exact h;exact bH rfl (hbad h)
 obtain ⟨hxy,r⟩:=i he;subst hxy;obtain ⟨x',y',d,e',m1,m2,l⟩:=BQ hL j v o;rw [m1,δ,m2,δ];simp only [];rw [geat hL d,δ,fG hL d,δ];by_cases he':e'=0;obtain ⟨hxy,s⟩:=l he';subst hxy;refine GR.ret (q:=(eatP L d e' eM).1) rfl rfl ?_;rw [tT];simp only [b7];have:=sG d e' eM;omega;rw [mI he'];exact GR.bad he' rfl rfl;rw [Gr hw,δ,C3 hw,δ];simp only [];rw [rj hL hw _ (by simp),δ,ri hL hw,δ];exact GR.bad hw rfl rfl;rw [c];simp only [θ];rw [geat hL,δ,fG hL,δ];rcases Ke2 q gJ with ⟨q',c,g,_⟩|⟨c,_⟩;rw [c];exact sD hL p q' v o _ _ _ _ (by omega);rw [c];obtain ⟨⟨x,hx⟩,⟨y,hy⟩⟩:=ol hL (p:=q) (v:=v) (o:=o) b (lk L p.1).gq ε 0 at_;exact GR.bad b hx hy;rw [hq];simp only [];rw [z3 hL b,δ,sW hL b,δ];simp only [θ];rw [rj hL b _ (by simp),δ,ri hL b,δ];obtain ⟨⟨x,hx⟩,⟨y,hy⟩⟩:=ol hL (p:=p) (v:=v) (o:=o) b ε ε 0 at_;exact GR.bad b hx hy
end
end Go.Proofs.YticifeeokcgfkaaGreatDoor.Ab.Pq
namespace Go.Proofs.YticifeeokcgfkaaGreatDoor.Ab.Pq
open Go
section
variable {L:List c9}(hL:L.length ≤ 100000)
omit hL in
def tA (i:Nat):∃ w,(bif (lk L i).gp==3 then some (lk L i).gq else some (ν #[]))=some w∧∀ s:η,s≠ν #[]→decide (w=s)=isS L i s:=by
 unfold isS;cases h:(lk L i).gp==3;exact ⟨_,rfl,fun s hs=>by rw [gG,Δ (Ne.symm hs)]⟩;exact ⟨_,rfl,fun s hs=>by rw [eS]⟩
include hL
theorem ng {p q:dK L}(h:q.1=p.1+1):(⟨L,ζ.wrap (((p.1:Nat):Int)+1),0⟩:RR)=rm L q 0:=by
 have:=p.2;rw [gH (by omega),← h]
theorem xy (g0:Km→Option (Kk×Km))(g1:Km→Option (List Kk×Km))(l:RR→Int→Option (List Kk×RR))(k1:RR→Int→Option (Kk×RR))(k2:RR→Int→Option (List Kk×RR))(p:dK L)(v o:Int)
  (ih:∀ q:dK L,p.1+1≤q.1→GR L v o q szSs (g1 (gm L q 0 v o)) (k2 (rm L q 0) o))
  (ihb:∀ (q:dK L) (e:Int),e≠0→(∃ x,g1 (gm L q e v o)=some (x,gm L q e v o))∧(∃ y,k2 (rm L q e) o=some (y,rm L q e))) :
  GR L v o p jt (sP g0 g1 (gm L p 0 v o)) (y1 l k1 k2 (rm L p 0) o):=by
 have f:(3:Int)≠0:=by decide
 unfold sP y1;rw [yK hL,δ,jE hL,δ];cases hk:(lk L p.1).gp==1;rotate_left;simp only [ξ];rw [oB,oB];exact uW hL p v o _;obtain ⟨w,hw,hws⟩:=tA (L:=L) p.1;simp only [θ];rw [hw,δ,hws _ (by decide),hws _ (by decide),hws _ (by decide),hws _ (by decide),hws _ (by decide)];rw [gmay hL,δ];rcases Kco p gZ with ⟨q,hq,c,hs⟩|⟨hq,hs⟩;rw [hq,hs];simp only [ξ];rw [ng hL c,gname hL,δ,kH hL,δ];rcases Kh2 q with ⟨q',a,m,_⟩|a;rw [a];simp only [];rw [geat hL,δ,fG hL,δ];rcases Ke2 q' gJ with ⟨b,a,B,_⟩|⟨a,_⟩;rw [a];exact IP hL p b v o _ _ _ _ _ (by omega);rw [a];exact Lz hL f _ _ _ _ _;rw [a];simp only [];rw [rj hL f _ (by simp),δ,ri hL f,δ];exact Lz hL f _ _ _ _ _;rw [hq,hs];simp only [θ];rw [gmay hL,δ];rcases Kco p kZ with ⟨q,hq,c,hs⟩|⟨hq,hs⟩;rw [hq,hs];simp only [ξ];rw [ng hL c];obtain ⟨x,y,b,e,h1,h2,g⟩:=lO hL q v o;rw [h1,δ,h2,δ];simp only [];by_cases he:e=0;subst he;obtain ⟨hxy,j⟩:=g rfl;subst hxy;obtain ⟨x',y',d,e',m1,m2,i⟩:=ih b (by omega);rw [m1,δ,m2,δ];simp only [];rw [gmay hL,δ,ju hL,δ];by_cases he':e'=0;subst he';obtain ⟨hxy,n⟩:=i rfl;subst hxy;rcases Kco d kI with ⟨r,a,m,_⟩|⟨a,_⟩;rw [a];simp only [ξ];obtain ⟨s,C,k,t,u,z,A⟩:=ih r (by omega);rw [u,δ,z,δ];refine ⟨_,_,k,t,rfl,rfl,fun h=>?_⟩;obtain ⟨hxy,F⟩:=A h;subst hxy;refine ⟨rfl,?_⟩;rw [oI];show p.1+(1+szSs x'+szSs s+b7 x)≤k.1;omega;rw [a];simp only [θ];refine GR.ret (q:=d) rfl rfl ?_;rw [oI];show p.1+(1+szSs x'+szSs []+b7 x)≤d.1;simp only [szSs];omega;rw [Af he'];simp only [θ];exact GR.bad he' rfl rfl;obtain ⟨⟨x',m1⟩,⟨y',m2⟩⟩:=ihb b e he;rw [m1,δ,m2,δ];simp only [];rw [z3 hL he,δ,sW hL he,δ];simp only [θ];exact GR.bad he rfl rfl;rw [hq,hs];simp only [θ];rw [gmay hL,δ];rcases Kco p k3 with ⟨q,hq,c,hs⟩|⟨hq,hs⟩;rw [hq,hs];simp only [ξ];rw [ng hL c];obtain ⟨x,y,b,e,h1,h2,g⟩:=lO hL q v o;rw [h1,δ,h2,δ];simp only [];by_cases he:e=0;subst he;obtain ⟨hxy,j⟩:=g rfl;subst hxy;obtain ⟨x',y',d,e',m1,m2,i⟩:=ih b (by omega);rw [m1,δ,m2,δ];refine ⟨_,_,d,e',rfl,rfl,fun h=>?_⟩;obtain ⟨hxy,n⟩:=i h;subst hxy;refine ⟨rfl,?_⟩;rw [oI];show p.1+(1+szSs x'+szSs []+b7 x)≤d.1;simp only [szSs];omega;obtain ⟨⟨x',m1⟩,⟨y',m2⟩⟩:=ihb b e he;rw [m1,δ,m2,δ];exact GR.bad he rfl rfl;rw [hq,hs];simp only [θ];rw [gmay hL,δ];rcases Kco p k5 with ⟨q,hq,c,hs⟩|⟨hq,hs⟩;rw [hq,hs];simp only [ξ];rw [ng hL c];exact IP hL p q v o _ _ _ _ _ (by omega);rw [hq,hs];simp only [θ];rw [gmay hL,δ];rcases Kco p k4 with ⟨q,hq,c,hs⟩|⟨hq,hs⟩;rw [hq,hs];simp only [ξ];rw [ng hL c];obtain ⟨x,y,b,e,h1,h2,g⟩:=lO hL q v o;rw [h1,δ,h2,δ];simp only [];rw [geat hL,δ,fG hL,δ];by_cases he:e=0;obtain ⟨hxy,j⟩:=g he;subst hxy;refine GR.ret (q:=(eatP L b e eM).1) rfl rfl ?_;rw [tT];have:=sG b e eM;omega;rw [mI he];exact GR.bad he rfl rfl;rw [hq,hs];simp only [θ];rw [gfail p p,δ,jF p p,δ,v9];exact GR.bad f rfl rfl
end
end Go.Proofs.YticifeeokcgfkaaGreatDoor.Ab.Pq
namespace Go.Proofs.YticifeeokcgfkaaGreatDoor.Ab.Pq
open Go
abbrev IC:=List Kk×List c9×Int×Int×Int×Int
abbrev ID:=List Kk×List c9×Int×Int
def vX (g0:Km→Option (Kk×Km))(a:IC):Option (Step IC IC):=κ (α:=Bool×List KJ×Int×Int×Int×Int) (bif a.2.2.2.1==(0:Int) then (i0 (⟨a.2.1,a.2.2.1,a.2.2.2.1,a.2.2.2.2.1,a.2.2.2.2.2⟩:Km) iw).bind fun c=>some ((!c.1),c.2.gL,c.2.ga,c.2.gE,c.2.gu,c.2.gt) else some (false,a.2.1,a.2.2.1,a.2.2.2.1,a.2.2.2.2.1,a.2.2.2.2.2)) fun b=>bif b.1 then (g0 (⟨b.2.1,b.2.2.1,b.2.2.2.1,b.2.2.2.2.1,b.2.2.2.2.2⟩:Km)).bind fun d=>(app 120 a.1 ([d.1]:List Kk)).bind fun e=>some (.next (e,d.2.gL,d.2.ga,d.2.gE,d.2.gu,d.2.gt)) else some (.done (a.1,b.2.1,b.2.2.1,b.2.2.2.1,b.2.2.2.2.1,b.2.2.2.2.2))
def z2 (g1:RR→Int→Option (Kk×RR))(e:Int)(a:ID):Option (Step ID ID):=κ (α:=Bool×List KJ×Int×Int) (bif a.2.2.2==(0:Int) then (lc (⟨a.2.1,a.2.2.1,a.2.2.2⟩:Kl) iw).bind fun c=>some ((!c.1),c.2.gL,c.2.ga,c.2.gE) else some (false,a.2.1,a.2.2.1,a.2.2.2)) fun b=>bif b.1 then (g1 (⟨b.2.1,b.2.2.1,b.2.2.2⟩:Kl) e).bind fun d=>(app 120 a.1 ([d.1]:List Kk)).bind fun f=>some (.next (f,d.2.gL,d.2.ga,d.2.gE)) else some (.done (a.1,b.2.1,b.2.2.1,b.2.2.2))
section
variable {L:List c9}
def E1 {g0}{acc:List Kk}{p:dK L}{e v o:Int}(he:e≠0):aE (vX g0) (acc,L,((p.1:Nat):Int),e,v,o)=some (acc,L,((p.1:Nat):Int),e,v,o):=by
 refine K0 ?_;unfold vX;simp only [];rw [show (e==0)=false by simp [he],θ];rfl
def E0 {g1}{a:Int}{acc:List Kk}{p:dK L}{e:Int}(he:e≠0):aE (z2 g1 a) (acc,L,((p.1:Nat):Int),e)=some (acc,L,((p.1:Nat):Int),e):=by
 refine K0 ?_;unfold z2;simp only [];rw [show (e==0)=false by simp [he],θ];rfl
variable (hL:L.length ≤ 100000)
include hL
theorem rc (g0:Km→Option (Kk×Km))(k1:RR→Int→Option (Kk×RR))(v o:Int)(a:Nat)
  (ih:∀ q:dK L,a≤q.1→GR L v o q jt (g0 (gm L q 0 v o)) (k1 (rm L q 0) o)):∀ (n:Nat) (p:dK L) (acc:List Kk),L.length-p.1≤n→a+szSs acc≤p.1 →
  ∃ l l2 q e,aE (vX g0) (acc,L,((p.1:Nat):Int),0,v,o)=some (l,L,(((q:dK L).1:Nat):Int),e,v,o)∧aE (z2 k1 o) (acc,L,((p.1:Nat):Int),0)=some (l2,L,((q.1:Nat):Int),e)∧(e=0→l=l2∧a+szSs l≤q.1):=by
 intro n;induction n with
 |
  zero=>
  intro p acc hn ha;have hp:=p.2;have hlen:=we acc;rcases Kco p iw with ⟨q,hq,c,hs⟩|⟨hq,hs⟩
  ·have:=(v8 hs).1;omega
  obtain ⟨x,y,q,e,h1,h2,b⟩:=ih p (by omega);have he:e≠0:=by
   intro he;obtain ⟨_,d⟩:=b he;have:=q.2;have f:1≤jt x:=by rw [oI];omega
   omega
  refine ⟨acc++[x],acc++[y],q,e,?_,?_,fun h=>bH h he⟩
  ·rw [ig (s':=(acc++[x],L,((q.1:Nat):Int),e,v,o)) ?_]
   ·exact E1 he
   unfold vX;simp only [aG,ξ];rw [gmay hL p,δ,hq];simp only [a3,δ,ξ];rw [h1,δ,h9 (by omega) (by simp;omega),δ]
  rw [ig (s':=(acc++[y],L,((q.1:Nat):Int),e)) ?_]
  ·exact E0 he
  unfold z2;simp only [aG,ξ];rw [ju hL p,δ,hq];simp only [a3,δ,ξ];rw [h2,δ,h9 (by omega) (by simp;omega),δ]
 |
  succ n ihn=>
  intro p acc hn ha;have hp:=p.2;have hlen:=we acc;rcases Kco p iw with ⟨q,hq,c,hs⟩|⟨hq,hs⟩
  ·refine ⟨acc,acc,q,0,K0 ?_,K0 ?_,fun _=>⟨rfl,by omega⟩⟩
   ·unfold vX;simp only [aG,ξ];rw [gmay hL p,δ,hq];rfl
   unfold z2;simp only [aG,ξ];rw [ju hL p,δ,hq];rfl
  obtain ⟨x,y,q,e,h1,h2,b⟩:=ih p (by omega);have f1:vX g0 (acc,L,((p.1:Nat):Int),0,v,o)=some (.next (acc++[x],L,((q.1:Nat):Int),e,v,o)):=by
   unfold vX;simp only [aG,ξ];rw [gmay hL p,δ,hq];simp only [a3,δ,ξ];rw [h1,δ,h9 (by omega) (by simp;omega),δ]
  have g:z2 k1 o (acc,L,((p.1:Nat):Int),0)=some (.next (acc++[y],L,((q.1:Nat):Int),e)):=by
   unfold z2;simp only [aG,ξ];rw [ju hL p,δ,hq];simp only [a3,δ,ξ];rw [h2,δ,h9 (by omega) (by simp;omega),δ]
  rw [ig f1,ig g];by_cases he:e=0
  ·subst he;obtain ⟨hxy,d⟩:=b rfl;subst hxy;have f:1≤jt x:=by rw [oI];omega
   exact ihn q (acc++[x]) (by omega) (by rw [HL];simp only [szSs];omega)
  exact ⟨_,_,q,e,E1 he,E0 he,fun h=>bH h he⟩
def hO (L:List c9)(p:dK L)(e:Int)(o:Int):dK L×Int:=if 24≤o then iT L (eatP L p e jv).1 (eatP L p e jv).2 p 5 else eatP L p e jv
theorem pj (p:dK L)(e o:Int):Am (rm L p e) o=some (rm L (hO L p e o).1 (hO L p e o).2):=by
 unfold Am hO;rw [fG hL,δ];by_cases h:24≤o;rw [Ξ h,ξ,aQ h,jF _ p,δ];rw [Δ h,θ,aF h]
omit hL in
theorem Gs {p:dK L}{e o:Int}(he:e≠0):hO L p e o=(p,e):=by
 unfold hO;rw [mI he];simp only [];rw [E8 he];split<;>rfl
omit hL in
theorem re {p:dK L}{o:Int}(h:(hO L p 0 o).2=0):o<24∧p.1+1≤(hO L p 0 o).1.1:=by
 unfold hO at h ⊢;by_cases a:24≤o;rw [aQ a] at h;rcases Ke2 p jv with ⟨q,hq,b,_⟩|⟨hq,_⟩;rw [hq] at h;simp only [v9] at h;cases h;rw [hq] at h;simp only [] at h;rw [E8 (by decide)] at h;cases h;rw [aF a] at h ⊢;refine ⟨by omega,?_⟩;rcases Ke2 p jv with ⟨q,hq,b,_⟩|⟨hq,_⟩;rw [hq];simp only [];omega;rw [hq] at h;cases h
theorem vu (p:dK L)(e v o:Int):((K9 (gm L p e v o) [ν #[123]]).bind fun a=>(bif (decide ((24:Int)≤a.gt)) then ((lg a ((p.1:Nat):Int) (5:Int)).bind fun b=>some (b.gL,b.ga,b.gE,b.gu,b.gt)) else some (a.gL,a.ga,a.gE,a.gu,a.gt)))=some (L,(((hO L p e o).1.1:Nat):Int),(hO L p e o).2,v,o):=by
 unfold hO;rw [geat hL,δ];by_cases h:24≤o;simp only [Ξ h,ξ,aQ h];rw [gfail _ p,δ];simp only [Δ h,θ,aF h]
theorem Lw (g0:Km→Option (Kk×Km))(g1:Km→Option (List Kk×Km))(p:dK L)(e v o:Int):wx g0 g1 (gm L p e v o)=(aE (vX g0) ([],L,(((hO L p e o).1.1:Nat):Int),(hO L p e o).2,v,ζ.wrap (o+1))).bind fun a=>some (a.1,(⟨a.2.1,a.2.2.1,a.2.2.2.1,a.2.2.2.2.1,(ζ.wrap (a.2.2.2.2.2-(1:Int)))⟩:Km)):=by
 have h:=vu hL p e v o;unfold wx;rw [geat hL,δ] at h ⊢;simp only [] at h ⊢;rw [h,δ];rfl
end
end Go.Proofs.YticifeeokcgfkaaGreatDoor.Ab.Pq
namespace Go.Proofs.YticifeeokcgfkaaGreatDoor.Ab.Pq
open Go
abbrev sU:=Kai
abbrev lW:=Kaw
def wopen {o:Nat}(h:o≤1000):ζ.wrap (ζ.wrap ((o:Int)+1)-1)=(o:Int):=by
 rw [kR (n:=(o:Int)+1) (by omega) (by omega),kR (by omega) (by omega)];omega
section
variable {L:List c9}(hL:L.length ≤ 100000)
include hL
theorem Gq (n:Nat)(p:dK L)(e:Int)(a:Int):(lW (n+1)).1 (rm L p e) a=(aE (z2 (lW n).2.1 a) ([],L,((p.1:Nat):Int),e)).bind fun b=>some (b.1,(⟨b.2.1,b.2.2.1,b.2.2.2⟩:RR)):=rfl
theorem Lv (n:Nat)(p:dK L)(e o:Int):(lW (n+1)).2.2 (rm L p e) o=(lW n).1 (rm L (hO L p e o).1 (hO L p e o).2) (ζ.wrap (o+1)):=by
 show Cf (lW n).1 (lW n).2.1 (lW n).2.2 (rm L p e) o=_;unfold Cf;rw [pj hL,δ,oB]
theorem yG {p:dK L}{e v:Int}{o:Nat}(ho:o≤24)(he:e≠0)(a n2:Nat):(∃ x,(sU (a+1)).2 (gm L p e v o)=some (x,gm L p e v o))∧(∃ y,(lW (n2+2)).2.2 (rm L p e) o=some (y,rm L p e)):=by
 constructor;show ∃ x,wx (sU a).1 (sU a).2 (gm L p e v o)=_;rw [Lw hL,Gs he];simp only [];rw [E1 he,δ];simp only [];rw [wopen (by omega)];exact ⟨_,rfl⟩;rw [Lv hL,Gq hL,Gs he];simp only [];rw [E0 he,δ];exact ⟨_,rfl⟩
theorem Od (v:Int):∀ N n2:Nat,n2≤N→(∀ (p:dK L) (o c:Nat),o≤24→4*(L.length-p.1)+1≤n2→4*(L.length-p.1)+1≤c→GR L v o p jt ((sU c).1 (gm L p 0 v o)) ((lW n2).2.1 (rm L p 0) o)) ∧
  (∀ (p:dK L) (o c:Nat),o≤24→4*(L.length-p.1)+3≤n2→4*(L.length-p.1)+3≤c→GR L v o p szSs ((sU c).2 (gm L p 0 v o)) ((lW n2).2.2 (rm L p 0) o)):=by
 intro N;induction N with
 | zero=>intro n2 h;exact ⟨fun p o c _ h2=>by omega,fun p o c _ h2=>by omega⟩
 |
  succ N ih=>
  intro n2 hN;refine ⟨fun p o c ho h1 h2=>?_,fun p o c ho h1 h2=>?_⟩
  ·obtain ⟨m1,rfl⟩:∃ m,c=m+1:=⟨c-1,by omega⟩;obtain ⟨m2,rfl⟩:∃ m,n2=m+1:=⟨n2-1,by omega⟩;have hp:=p.2;by_cases hlt:p.1<L.length
   ·refine xy hL (sU m1).1 (sU m1).2 (lW m2).1 (lW m2).2.1 (lW m2).2.2 p v o (fun q hq=>(ih m2 (by omega)).2 q o m1 ho (by omega) (by omega)) fun q e he=>?_;obtain ⟨m1,rfl⟩:∃ m,m1=m+1:=⟨m1-1,by omega⟩;obtain ⟨m2,rfl⟩:∃ m,m2=m+2:=⟨m2-2,by omega⟩;exact yG hL ho he m1 m2
   ·
    have hz:lk L p.1=z0:=yL (by omega);refine ⟨⟨0,ε,ε,[],[],[],0⟩,⟨0,ε,ε,[],[],[],0⟩,p,3,?_,?_,fun h=>by cases h⟩
    ·show sP (sU m1).1 (sU m1).2 (gm L p 0 v o)=_
     have hs:∀ s:η,mayP L p 0 s=(false,p):=by
      intro s;rcases Kco p s with ⟨q,_,_,h⟩|⟨h,_⟩
      ·have:=(v8 h).1;omega
      exact h
     unfold sP;rw [yK hL,δ,hz];simp only [show (z0.gp==1)=false from rfl,θ];rw [gmay hL,δ,hs];simp only [θ];rw [gmay hL,δ,hs];simp only [θ];rw [gmay hL,δ,hs];simp only [θ];rw [gmay hL,δ,hs];simp only [θ];rw [gmay hL,δ,hs];simp only [θ];rw [gfail p p,δ,v9];rfl
    show y1 (lW m2).1 (lW m2).2.1 (lW m2).2.2 (rm L p 0) o=_
    unfold y1;rw [jE hL,δ,hz];simp only [show (z0.gp==1)=false from rfl,show (z0.gp==3)=false from rfl,θ,δ];rw [Δ (by decide),Δ (by decide),Δ (by decide),Δ (by decide),Δ (by decide)];simp only [θ];rw [jF p p,δ,v9];rfl
  obtain ⟨m1,rfl⟩:∃ m,c=m+1:=⟨c-1,by omega⟩;obtain ⟨m2,rfl⟩:∃ m,n2=m+2:=⟨n2-2,by omega⟩;show GR L v o p szSs (wx (sU m1).1 (sU m1).2 (gm L p 0 v o)) _
  rw [Lw hL,Lv hL,Gq hL];by_cases he:(hO L p 0 o).2=0
  ·obtain ⟨f,g⟩:=re he;rw [he];have hw:ζ.wrap ((o:Int)+1)=((o+1:Nat):Int):=gH (by omega);obtain ⟨l,l2,q,e,k1,k2,d⟩:=rc hL (sU m1).1 (lW m2).2.1 v ((o+1:Nat):Int) (p.1+1) (fun q hq=>(ih m2 (by omega)).1 q (o+1) m1 (by omega) (by omega) (by omega)) L.length (hO L p 0 o).1 [] (by omega) (by simp only [szSs];omega);rw [hw,k1,k2,δ,δ];simp only [];rw [← hw,wopen (by omega)];exact ⟨l,l2,q,e,rfl,rfl,fun h=>by obtain ⟨a,b⟩:=d h;exact ⟨a,by omega⟩⟩
  rw [E1 he,E0 he,δ,δ];simp only [];rw [wopen (by omega)];exact GR.bad he rfl rfl
end
end Go.Proofs.YticifeeokcgfkaaGreatDoor.Ab.Pq
namespace Go.Proofs.YticifeeokcgfkaaGreatDoor.Ab.Pq
open Go
def dI (L:List c9)(p:dK L)(e:Int)(n:Nat):KZ×dK L×Int:=
 let a:=eatP L p e iG;let b:=mayP L a.1 a.2 gZ;let m:=nameP L b.2 a.2;let f:=if 16≤n then iT L m.2.1 m.2.2 b.2 6 else (m.2.1,m.2.2)
 (⟨m.1,b.1⟩,f.1,f.2)
section
variable {L:List c9}
def tH {p:dK L}{e:Int}{n:Nat}(he:e≠0):dI L p e n=(⟨ε,false⟩,p,e):=by
 unfold dI;simp only [mI he,Af he,G4 he,E8 he];split<;>rfl
def lJ {p:dK L}{n:Nat}(h:(dI L p 0 n).2.2=0):p.1+1≤(dI L p 0 n).2.1.1:=by
 unfold dI at h ⊢;simp only [] at h ⊢;rcases Ke2 p iG with ⟨q,hq,d,_⟩|⟨hq,_⟩;rw [hq] at h ⊢;simp only [] at h ⊢;have hb:q.1≤(mayP L q 0 gZ).2.1:=by rcases Kco q gZ with ⟨q',a,c,_⟩|⟨a,_⟩<;>rw [a]<;>simp only []<;>omega
 generalize mayP L q 0 gZ=b at h hb ⊢;rcases Kh2 b.2 with ⟨q',a,c,_⟩|a;rw [a] at h ⊢;simp only [v9] at h ⊢;by_cases hn:16≤n;rw [aQ hn] at h;cases h;rw [aF hn];simp only [];omega;rw [a] at h;simp only [] at h;rw [E8 (by decide)] at h;by_cases hn:16≤n;rw [aQ hn] at h;cases h;rw [aF hn] at h;cases h;rw [hq] at h;simp only [Af (show (3:Int)≠0 by decide),G4 (show (3:Int)≠0 by decide),E8 (show (3:Int)≠0 by decide)] at h;by_cases hn:16≤n;rw [aQ hn] at h;cases h;rw [aF hn] at h;cases h
variable (hL:L.length ≤ 100000)
include hL
theorem gvar (p:dK L)(e o:Int){n:Nat}(hn:n≤1000000):wy (gm L p e n o)=some ((dI L p e n).1,gm L (dI L p e n).2.1 (dI L p e n).2.2 ((n+1:Nat):Int) o):=by
 unfold wy dI;simp only [];rw [geat hL,δ,gmay hL,δ,gname hL,δ];simp only [];rw [gH (by omega)];by_cases h:16≤n;rw [Ξ (by omega),ξ,aQ h,gfail _ (mayP L (eatP L p e iG).1 (eatP L p e iG).2 gZ).2,δ];rw [Δ (by omega),θ,aF h]
theorem xE (p:dK L)(e:Int)(n:Nat):wY (rm L p e) (n:Int)=some ((dI L p e n).1,rm L (dI L p e n).2.1 (dI L p e n).2.2):=by
 unfold wY dI;simp only [];rw [fG hL,δ,ju hL,δ,kH hL,δ];simp only [];by_cases h:16≤n;rw [Ξ (by omega),ξ,aQ h,jF _ (mayP L (eatP L p e iG).1 (eatP L p e iG).2 gZ).2,δ];rw [Δ (by omega),θ,aF h]
abbrev Iz:=List KZ×List c9×Int×Int×Int×Int
abbrev IA:=List KZ×List c9×Int×Int
omit hL in
def zU (a:Iz):Option (Step Iz Iz):=bif a.2.2.2.1==(0:Int) then (wy (⟨a.2.1,a.2.2.1,a.2.2.2.1,a.2.2.2.2.1,a.2.2.2.2.2⟩:Km)).bind fun c=>(app 24 a.1 ([c.1]:List KZ)).bind fun d=>(i0 c.2 i3).bind fun b=>bif !b.1 then some (.done (d,b.2.gL,b.2.ga,b.2.gE,b.2.gu,b.2.gt)) else some (.next (d,b.2.gL,b.2.ga,b.2.gE,b.2.gu,b.2.gt)) else some (.done (a.1,a.2.1,a.2.2.1,a.2.2.2.1,a.2.2.2.2.1,a.2.2.2.2.2))
omit hL in
def yb (a:IA):Option (Step IA IA):=(lc (⟨a.2.1,a.2.2.1,a.2.2.2⟩:Kl) i3).bind fun b=>bif b.1 then (wY b.2 (a.1.length:Int)).bind fun c=>(app 24 a.1 ([c.1]:List KZ)).bind fun d=>some (.next (d,c.2.gL,c.2.ga,c.2.gE)) else some (.done (a.1,b.2.gL,b.2.ga,b.2.gE))
theorem ya (o:Int)(a:Nat):∀ (n:Nat) (p:dK L) (acc:List KZ),L.length-p.1≤n→a+acc.length≤p.1 →
  ∃ l q e v',aE zU (acc,L,((p.1:Nat):Int),0,(acc.length:Int),o)=some (l,L,(((q:dK L).1:Nat):Int),e,v',o)∧aE yb (acc++[(dI L p 0 acc.length).1],L,(((dI L p 0 acc.length).2.1.1:Nat):Int),(dI L p 0 acc.length).2.2)=some (l,L,((q.1:Nat):Int),e)∧(e=0→v'=(l.length:Int)∧a+l.length≤q.1):=by
 intro n;induction n with
 |
  zero=>
  intro p acc hn ha;have hp:=p.2;have he:(dI L p 0 acc.length).2.2≠0:=by
   intro he;have:=lJ he;have:=(dI L p 0 acc.length).2.1.2;omega
  refine ⟨_,(dI L p 0 acc.length).2.1,_,_,K0 (t:=(acc++[(dI L p 0 acc.length).1],L,(((dI L p 0 acc.length).2.1.1:Nat):Int),(dI L p 0 acc.length).2.2,((acc.length+1:Nat):Int),o)) ?_,K0 ?_,fun h=>bH h he⟩
  ·unfold zU;simp only [aG,ξ];rw [gvar hL p 0 o (by omega),δ,h9 (by omega) (by simp;omega),δ];simp only [];rw [z3 hL he,δ];rfl
  unfold yb;simp only [];rw [sW hL he,δ];rfl
 |
  succ n ih=>
  intro p acc hn ha;have hp:=p.2;have hf:∀ b q',mayP L (dI L p 0 acc.length).2.1 (dI L p 0 acc.length).2.2 i3=(b,q')→zU (acc,L,((p.1:Nat):Int),0,(acc.length:Int),o)=(bif !b then some (.done (acc++[(dI L p 0 acc.length).1],L,((q'.1:Nat):Int),(dI L p 0 acc.length).2.2,((acc.length+1:Nat):Int),o)) else some (.next (acc++[(dI L p 0 acc.length).1],L,((q'.1:Nat):Int),(dI L p 0 acc.length).2.2,((acc.length+1:Nat):Int),o))):=by
   intro b q' hb;unfold zU;simp only [aG,ξ];rw [gvar hL p 0 o (by omega),δ,h9 (by omega) (by simp;omega),δ];simp only [];rw [gmay hL,δ,hb]
  by_cases he:(dI L p 0 acc.length).2.2=0
  ·have g:=lJ he;rcases Kco (dI L p 0 acc.length).2.1 i3 with ⟨q',hq,i,_⟩|⟨hq,_⟩
   ·rw [he] at hf ⊢;have hf':=hf _ _ hq;simp only [bI,θ] at hf';obtain ⟨l,c,d,v',k1,k2,f⟩:=ih q' (acc++[(dI L p 0 acc.length).1]) (by omega) (by rw [υ,aW];omega);rw [υ,aW] at k1 k2;refine ⟨l,c,d,v',by rw [ig hf'];exact k1,?_,f⟩;rw [← k2];refine ig ?_;unfold yb;simp only [];rw [ju hL (dI L p 0 acc.length).2.1,δ,hq];simp only [ξ];rw [υ,aW,xE hL q' 0,δ,h9 (by omega) (by simp;omega),δ]
   rw [he] at hf ⊢;have hf':=hf _ _ hq;simp only [a3,ξ] at hf';refine ⟨_,(dI L p 0 acc.length).2.1,0,_,K0 hf',K0 ?_,fun _=>⟨by rw [υ,aW],by rw [υ,aW];omega⟩⟩;unfold yb;simp only [];rw [ju hL (dI L p 0 acc.length).2.1,δ,hq];rfl
  have hf':=hf _ _ (Af he _);simp only [a3,ξ] at hf';refine ⟨_,(dI L p 0 acc.length).2.1,(dI L p 0 acc.length).2.2,_,K0 hf',K0 ?_,fun h=>bH h he⟩;unfold yb;simp only [];rw [sW hL he,δ];rfl
end
end Go.Proofs.YticifeeokcgfkaaGreatDoor.Ab.Pq
namespace Go.Proofs.YticifeeokcgfkaaGreatDoor.Ab.Pq
open Go
section
variable {L:List c9}(hL:L.length ≤ 100000)
include hL
theorem nD {p:dK L}{e v o:Int}(he:e≠0):rr (gm L p e v o)=some ([],gm L p e v o)∧wU (rm L p e)=some ([⟨ε,false⟩],rm L p e):=by
 constructor;unfold rr;rw [rj hL he _ (by simp),δ,z3 hL he,δ];simp only [θ];change (κ (aE zU ([],L,((p.1:Nat):Int),e,v,o)) _)=_;rw [K0 (t:=([],L,((p.1:Nat):Int),e,v,o)) (by unfold zU;simp only [];rw [show (e==0)=false by simp [he],θ]),δ];simp only [];rw [rj hL he _ (by simp),δ];unfold wU;rw [ri hL he,δ,sW hL he,δ];simp only [θ];rw [show wY (rm L p e) 0=_ from xE hL p e 0,δ,h9 (by omega) (by simp),δ,tH he];change (κ (aE yb ([]++[⟨ε,false⟩],L,((p.1:Nat):Int),e)) _)=_;rw [K0 (t:=([⟨ε,false⟩],L,((p.1:Nat):Int),e)) (by unfold yb;simp only [];rw [sW hL he,δ];rfl),δ];simp only [];rw [ri hL he,δ]
theorem rZ (p:dK L)(o:Int):∃ l l2 q e v',rr (gm L p 0 0 o)=some (l,gm L q e v' o)∧wU (rm L p 0)=some (l2,rm L q e)∧(e=0→l=l2∧v'=(l.length:Int)∧p.1+l.length≤q.1):=by
 have d:(3:Int)≠0:=by decide
 rcases Ke2 p fJ with ⟨q,hq,m,_⟩|⟨hq,_⟩;unfold rr wU;rw [geat hL,δ,fG hL,δ,hq];simp only [];rw [gmay hL,δ,ju hL,δ];rcases Kco q fO with ⟨q',f,n,_⟩|⟨f,_⟩;rw [f];exact ⟨[],[],q',0,0,rfl,rfl,fun _=>⟨rfl,rfl,by simp only [aB];omega⟩⟩;rw [f];simp only [θ];obtain ⟨l,c,e,v',k1,k2,j⟩:=ya hL o p.1 L.length q [] (by omega) (by simp only [aB];omega);rw [show wY (rm L q 0) 0=_ from xE hL q 0 0,δ,h9 (by omega) (by simp),δ];have k1':aE zU ([],L,((q.1:Nat):Int),0,0,o)=some (l,L,((c.1:Nat):Int),e,v',o):=k1;have k:aE yb ([]++[(dI L q 0 0).1],L,(((dI L q 0 0).2.1.1:Nat):Int),(dI L q 0 0).2.2)=some (l,L,((c.1:Nat):Int),e):=k2;refine ⟨l,l,(eatP L c e fO).1,(eatP L c e fO).2,v',?_,?_,fun h=>?_⟩;change (κ (aE zU ([],L,((q.1:Nat):Int),0,0,o)) _)=_;rw [k1',δ];simp only [];rw [geat hL c,δ];change (κ (aE yb ([]++[(dI L q 0 0).1],L,(((dI L q 0 0).2.1.1:Nat):Int),(dI L q 0 0).2.2)) _)=_;rw [k,δ];simp only [];rw [fG hL c,δ];by_cases he:e=0;obtain ⟨a,b⟩:=j he;have:=sG c e fO;exact ⟨rfl,a,by omega⟩;rw [mI he] at h;exact bH h he;unfold rr wU;rw [geat hL,δ,fG hL,δ,hq];obtain ⟨g,i⟩:=nD hL (p:=p) (v:=0) (o:=o) d;unfold rr at g;unfold wU at i;rw [rj hL d _ (by simp),δ] at g;rw [ri hL d,δ] at i;exact ⟨_,_,p,3,0,g,i,fun h=>by cases h⟩
abbrev Ix:=List c9×Int×Int×Int×Int×List KZ
abbrev Iy:=List c9×Int×Int×List KZ
omit hL in
def yj (a:Ix):Option (Step Ix Ix):=κ (α:=Bool) (bif a.2.2.1==(0:Int) then (mA (⟨a.1,a.2.1,a.2.2.1,a.2.2.2.1,a.2.2.2.2.1⟩:Km) (0:Int) iG).bind fun d=>some d else some false) fun e=>bif e then (wy (⟨a.1,a.2.1,a.2.2.1,a.2.2.2.1,a.2.2.2.2.1⟩:Km)).bind fun c=>(app 24 a.2.2.2.2.2 ([c.1]:List KZ)).bind fun f=>(K9 c.2 ([eM]:List η)).bind fun b=>some (.next (b.gL,b.ga,b.gE,b.gu,b.gt,f)) else some (.done (a.1,a.2.1,a.2.2.1,a.2.2.2.1,a.2.2.2.2.1,a.2.2.2.2.2))
omit hL in
def u9 (c:Nat)(a:Iy):Option (Step Iy Iy):=κ (α:=Bool) (bif a.2.2.1==(0:Int) then (wJ (⟨a.1,a.2.1,a.2.2.1⟩:Kl) iG).bind fun e=>some e else some false) fun f=>bif f then (wY (⟨a.1,a.2.1,a.2.2.1⟩:Kl) (ζ.wrap ((c:Int)+(a.2.2.2.length:Int)))).bind fun d=>(app 24 a.2.2.2 ([d.1]:List KZ)).bind fun g=>(KaR d.2 eM).bind fun b=>some (.next (b.gL,b.ga,b.gE,g)) else some (.done (a.1,a.2.1,a.2.2.1,a.2.2.2))
omit hL in
theorem mh {p:dK L}{e v o:Int}{acc:List KZ}(he:e≠0):aE yj (L,((p.1:Nat):Int),e,v,o,acc)=some (L,((p.1:Nat):Int),e,v,o,acc):=by
 refine K0 ?_;unfold yj;simp only [];rw [show (e==0)=false by simp [he],θ];rfl
omit hL in
theorem mg {p:dK L}{e:Int}{c:Nat}{acc:List KZ}(he:e≠0):aE (u9 c) (L,((p.1:Nat):Int),e,acc)=some (L,((p.1:Nat):Int),e,acc):=by
 refine K0 ?_;unfold u9;simp only [];rw [show (e==0)=false by simp [he],θ];rfl
theorem yi (o:Int)(c a:Nat):∀ (n:Nat) (p:dK L) (acc:List KZ),L.length-p.1≤n→a+acc.length≤p.1→c≤a →
  ∃ l q e v',aE yj (L,((p.1:Nat):Int),0,((c+acc.length:Nat):Int),o,acc)=some (L,(((q:dK L).1:Nat):Int),e,v',o,l)∧aE (u9 c) (L,((p.1:Nat):Int),0,acc)=some (L,((q.1:Nat):Int),e,l)∧(e=0→a+l.length≤q.1):=by
 intro n;induction n with
 |
  zero=>
  intro p acc hn ha hc;have hp:=p.2;have hs:isS L p.1 iG=false:=by
   cases h:isS L p.1 iG
   ·rfl
   have:=(v8 h).1;omega
  refine ⟨acc,p,0,((c+acc.length:Nat):Int),K0 ?_,K0 ?_,fun _=>ha⟩
  ·unfold yj;simp only [aG,ξ];rw [vt hL p,δ,δ,hs,θ]
  unfold u9;simp only [aG,ξ];rw [Ej hL p,δ,δ,hs,θ]
 |
  succ n ih=>
  intro p acc hn ha hc;have hp:=p.2;cases hs:isS L p.1 iG
  ·refine ⟨acc,p,0,((c+acc.length:Nat):Int),K0 ?_,K0 ?_,fun _=>ha⟩
   ·unfold yj;simp only [aG,ξ];rw [vt hL p,δ,δ,hs,θ]
   unfold u9;simp only [aG,ξ];rw [Ej hL p,δ,δ,hs,θ]
  have hle:(eatP L (dI L p 0 (c+acc.length)).2.1 (dI L p 0 (c+acc.length)).2.2 eM).2=0→p.1+1≤(eatP L (dI L p 0 (c+acc.length)).2.1 (dI L p 0 (c+acc.length)).2.2 eM).1.1:=by
   intro h;by_cases he:(dI L p 0 (c+acc.length)).2.2=0
   ·have:=lJ he;have:=sG (dI L p 0 (c+acc.length)).2.1 (dI L p 0 (c+acc.length)).2.2 eM;omega
   rw [mI he] at h;exact bH h he
  have f1:yj (L,((p.1:Nat):Int),0,((c+acc.length:Nat):Int),o,acc)=some (.next (L,(((eatP L (dI L p 0 (c+acc.length)).2.1 (dI L p 0 (c+acc.length)).2.2 eM).1.1:Nat):Int),(eatP L (dI L p 0 (c+acc.length)).2.1 (dI L p 0 (c+acc.length)).2.2 eM).2,((c+acc.length+1:Nat):Int),o,acc++[(dI L p 0 (c+acc.length)).1])):=by
   unfold yj;simp only [aG,ξ];rw [vt hL p,δ,δ,hs,ξ,gvar hL p 0 o (by omega),δ,h9 (by omega) (by simp;omega),δ];simp only [];rw [geat hL,δ]
  have b:u9 c (L,((p.1:Nat):Int),0,acc)=some (.next (L,(((eatP L (dI L p 0 (c+acc.length)).2.1 (dI L p 0 (c+acc.length)).2.2 eM).1.1:Nat):Int),(eatP L (dI L p 0 (c+acc.length)).2.1 (dI L p 0 (c+acc.length)).2.2 eM).2,acc++[(dI L p 0 (c+acc.length)).1])):=by
   unfold u9;simp only [aG,ξ];rw [Ej hL p,δ,δ,hs,ξ,kR (by omega) (by omega),show (c:Int)+(acc.length:Int)=((c+acc.length:Nat):Int) by omega,xE hL p 0,δ,h9 (by omega) (by simp;omega),δ];simp only [];rw [fG hL,δ]
  rw [ig f1,ig b];by_cases he:(eatP L (dI L p 0 (c+acc.length)).2.1 (dI L p 0 (c+acc.length)).2.2 eM).2=0
  ·have h1:=hle he;rw [he];have:=ih (eatP L (dI L p 0 (c+acc.length)).2.1 (dI L p 0 (c+acc.length)).2.2 eM).1 (acc++[(dI L p 0 (c+acc.length)).1]) (by omega) (by rw [υ,aW];omega) hc;rw [υ,aW,← RK] at this;exact this
  exact ⟨_,_,_,_,mh he,mg he,fun h=>bH h he⟩
end
end Go.Proofs.YticifeeokcgfkaaGreatDoor.Ab.Pq
namespace Go.Proofs.YticifeeokcgfkaaGreatDoor.Ab.Pq
open Go
def zG:KR:=⟨ε,false,0,0⟩
def Lu {L:List c9}{p:dK L}{e:Int}{s:η}(h:(mayP L p e s).1=true):e=0:=by
 unfold mayP at h;by_cases q:e=0;exact q;rw [aF q] at h;cases h
def kE (L:List c9)(p:dK L):dK L×Int×Int:=
 if h:(lk L p.1).gp=2 then if (lk L p.1).gN<1∨1000<(lk L p.1).gN then (p,4,0) else (⟨p.1+1,fR (by rw [h];decide)⟩,0,(lk L p.1).gN) else (p,3,0)
def ic (L:List c9)(p:dK L):KR×dK L×Int:=
 let a:=eatP L p 0 iG;let b:=mayP L a.1 a.2 gZ;let n:=nameP L b.2 a.2;let m:=if b.1=true then (false,n.2.1) else mayP L n.2.1 n.2.2 eH
 let s:=if m.1=true then ((eatP L (kE L m.2).1 (kE L m.2).2.1 eO).1,(eatP L (kE L m.2).1 (kE L m.2).2.1 eO).2,(kE L m.2).2.2) else (m.2,n.2.2,0)
 let f:=eatP L s.1 s.2.1 eM;(⟨n.1,b.1,s.2.2,(lk L p.1).ga⟩,f.1,f.2)
section
variable {L:List c9}(hL:L.length ≤ 100000)
include hL
theorem EH (p:dK L)(v o:Int):DB (gm L p 0 v o)=some ((ic L p).1,gm L (ic L p).2.1 (ic L p).2.2 v o):=by
 unfold DB ic;simp only [];rw [yK hL,δ,geat hL,δ,gmay hL,δ,gname hL,δ];generalize eatP L p 0 iG=a;generalize mayP L a.1 a.2 gZ=b;generalize nameP L b.2 a.2=n;have e:(bif (!b.1) then ((i0 (gm L n.2.1 n.2.2 v o) eH).bind fun c=>some (c.1,c.2.gL,c.2.ga,c.2.gE,c.2.gu,c.2.gt)) else some (false,L,((n.2.1.1:Nat):Int),n.2.2,v,o))=some ((if b.1=true then (false,n.2.1) else mayP L n.2.1 n.2.2 eH).1,L,(((if b.1=true then (false,n.2.1) else mayP L n.2.1 n.2.2 eH).2.1:Nat):Int),n.2.2,v,o):=by rw [gmay hL,δ];cases b.1<;>rfl
 have he:(if b.1=true then (false,n.2.1) else mayP L n.2.1 n.2.2 eH).1=true→n.2.2=0:=by intro h;cases hb:b.1;rw [hb] at h;exact Lu h;rw [hb] at h;cases h
 simp only [] at e ⊢;rw [e,δ];generalize (if b.1=true then (false,n.2.1) else mayP L n.2.1 n.2.2 eH)=m at he ⊢;cases f:m.1;simp only [θ,δ,cP,bE];rw [geat hL m.2,δ];rw [he f];simp only [ξ,bR];rw [yK hL m.2,δ];unfold kE;by_cases k2:(lk L m.2.1).gp=2;rw [ft k2];simp only [bne,show ((lk L m.2.1).gp==2)=true by simp [k2],bI,θ];by_cases d:(lk L m.2.1).gN<1∨1000<(lk L m.2.1).gN;have hb:(bif decide ((lk L m.2.1).gN<1) then some true else some (decide (1000<(lk L m.2.1).gN)))=some true:=by rcases d with k|k;rw [Ξ k];rfl;rw [Ξ k];cases decide ((lk L m.2.1).gN<1)<;>rfl
 rw [aQ d,hb,δ,ξ,gfail m.2 m.2,v9,δ,δ,δ,δ];simp only [];rw [geat hL m.2,δ,δ];simp only [];rw [geat hL,δ];have hb:(bif decide ((lk L m.2.1).gN<1) then some true else some (decide (1000<(lk L m.2.1).gN)))=some false:=by rw [Δ (fun h=>d (.inl h)),Δ (fun h=>d (.inr h))];rfl
 have hp:=m.2.2;rw [aF d,hb,δ,θ,δ,δ,δ];simp only [];rw [gH (by omega)];rw [geat hL ⟨m.2.1+1,fR (by rw [k2];decide)⟩,δ,δ];simp only [];rw [geat hL,δ];rw [ia k2];simp only [bne,show ((lk L m.2.1).gp==2)=false by simp [k2],a3,ξ];rw [gfail m.2 m.2,v9,δ,δ,δ];simp only [];rw [geat hL m.2,δ,δ];simp only [];rw [geat hL,δ]
def uJ (x:KR×Nat×Int):KR×Int×Int:=bif x.2.2 != 0 then (zG,((x.2.1:Nat):Int),x.2.2) else (x.1,((x.2.1:Nat):Int),0)
theorem yp (p:dK L):Av L ((p.1:Nat):Int)=some (uJ ((ic L p).1,(ic L p).2.1.1,(ic L p).2.2)):=by
 have hp:=p.2;unfold Av td;rw [Ξ (by omega),ξ,δ,Ξ (by omega)];simp only [bI,θ];rw [EH hL p,δ];unfold uJ;cases ((ic L p).2.2 != 0)<;>rfl
theorem xS (p:dK L):Cr L ((p.1:Nat):Int)=some (uJ ((ic L p).1,(ic L p).2.1.1,(ic L p).2.2)):=by
 have hp:=p.2;unfold Cr ic;rw [Δ (by omega),θ,Δ (by omega),δ,θ];rw [jE hL p,δ,fG hL p,δ,ju hL,δ,kH hL,δ];try simp only []
 generalize eatP L p 0 iG=a;generalize mayP L a.1 a.2 gZ=b;generalize nameP L b.2 a.2=n;have g:(bif (!b.1) then ((lc (rm L n.2.1 n.2.2) eH).bind fun d=>some (d.1,d.2.gL,d.2.ga,d.2.gE)) else some (false,L,((n.2.1.1:Nat):Int),n.2.2))=some ((if b.1=true then (false,n.2.1) else mayP L n.2.1 n.2.2 eH).1,L,(((if b.1=true then (false,n.2.1) else mayP L n.2.1 n.2.2 eH).2.1:Nat):Int),n.2.2):=by rw [ju hL,δ];cases b.1<;>rfl
 have he:(if b.1=true then (false,n.2.1) else mayP L n.2.1 n.2.2 eH).1=true→n.2.2=0:=by intro h;cases hb:b.1;rw [hb] at h;exact Lu h;rw [hb] at h;cases h
 try simp only [] at g ⊢
 rw [g,δ];generalize (if b.1=true then (false,n.2.1) else mayP L n.2.1 n.2.2 eH)=m at he ⊢;unfold uJ;cases i:m.1;simp only [θ,δ,cP,bE];rw [fG hL m.2,δ];cases ((eatP L m.2 n.2.2 eM).2 != 0)<;>rfl;rw [he i];simp only [ξ,bR];rw [jE hL m.2,δ];unfold kE;by_cases k2:(lk L m.2.1).gp=2;rw [ft k2];simp only [bne,show ((lk L m.2.1).gp==2)=true by simp [k2],bI,θ];by_cases c:(lk L m.2.1).gN<1∨1000<(lk L m.2.1).gN;have hb:(bif decide ((lk L m.2.1).gN<1) then some true else some (decide (1000<(lk L m.2.1).gN)))=some true:=by rcases c with k|k;rw [Ξ k];rfl;rw [Ξ k];cases decide ((lk L m.2.1).gN<1)<;>rfl
 rw [aQ c,hb,δ,ξ,jF m.2 m.2,v9,δ,δ,δ];simp only [];rw [show ((4:Int)==0)=false from rfl,θ,δ];simp only [];rw [fG hL m.2,δ,δ];simp only [];rw [fG hL,δ];rw [mI (p:=m.2) (e:=4) (by decide)];simp only [];rw [mI (p:=m.2) (e:=4) (by decide)];rfl;have hb:(bif decide ((lk L m.2.1).gN<1) then some true else some (decide (1000<(lk L m.2.1).gN)))=some false:=by rw [Δ (fun h=>c (.inl h)),Δ (fun h=>c (.inr h))];rfl
 have hp:=m.2.2;rw [aF c,hb,δ,θ,δ,δ];simp only [];rw [show ((0:Int)==0)=true from rfl,ξ,δ];simp only [];rw [gH (by omega)];rw [fG hL ⟨m.2.1+1,fR (by rw [k2];decide)⟩,δ,δ];simp only [];rw [fG hL,δ];generalize eatP L (eatP L ⟨m.2.1+1,fR (by rw [k2];decide)⟩ 0 eO).1 (eatP L ⟨m.2.1+1,fR (by rw [k2];decide)⟩ 0 eO).2 eM=f;cases (f.2==0)<;>rfl;rw [ia k2];simp only [bne,show ((lk L m.2.1).gp==2)=false by simp [k2],a3,ξ];rw [jF m.2 m.2,v9,δ,δ];simp only [];rw [show ((3:Int)==0)=false from rfl,θ,δ];simp only [];rw [fG hL m.2,δ,δ];simp only [];rw [fG hL,δ];rw [mI (p:=m.2) (e:=3) (by decide)];simp only [];rw [mI (p:=m.2) (e:=3) (by decide)];rfl
theorem Om (a:Int):∃ r,Av L a=some r∧Cr L a=some r∧(0≤a→a≤(L.length:Int)→∃ q:dK L,r.2.1=((q.1:Nat):Int)):=by
 by_cases b:0≤a;by_cases h1:a≤(L.length:Int);obtain ⟨n,rfl⟩:=Int.eq_ofNat_of_zero_le b;refine ⟨_,yp hL ⟨n,by omega⟩,xS hL ⟨n,by omega⟩,fun _ _=>⟨(ic L ⟨n,by omega⟩).2.1,?_⟩⟩;unfold uJ;cases ((ic L ⟨n,by omega⟩).2.2 != 0)<;>rfl;refine ⟨(zG,0,2),?_,?_,fun _ h=>bH h h1⟩;unfold Av td;rw [Ξ b,ξ,δ,Δ h1];rfl;unfold Cr;rw [Δ (by omega),θ,Ξ (by omega)];rfl;refine ⟨(zG,0,2),?_,?_,fun h=>bH h b⟩;unfold Av td;rw [Δ b,θ];rfl;unfold Cr;rw [Ξ (by omega),ξ];rfl
end
def I8 {l:List c9}{t:c9}{i:Nat}(h:i<(l++[t]).length):idx (l++[t]) (i:Int)=some (lk (l++[t]) i):=by
 rw [lb];unfold lk;rw [fx,bF h];rfl
def pA {l:List c9}{t:c9}:lk (l++[t]) l.length=t:=by
 unfold lk;rw [fx,mM (Φ _),Nat.sub_self];rfl
def nB {b:List aC}{l:List c9}(hl:l.length≤4000){i:Nat}(hi:i≤(l++[(⟨0,ε,0,(b.length:Int)⟩:c9)]).length)(e:Int) :
  FG (l++[⟨0,ε,0,(b.length:Int)⟩]) b (i:Int) e=some (bif (bif e==0 && (lk (l++[⟨0,ε,0,(b.length:Int)⟩]) (min i l.length)).gp != 0 then 3 else e)==0 then 0 else (lk (l++[⟨0,ε,0,(b.length:Int)⟩]) (min i l.length)).ga,bif e==0 && (lk (l++[⟨0,ε,0,(b.length:Int)⟩]) (min i l.length)).gp != 0 then 3 else e):=by
 unfold FG;have hlen:(l++[(⟨0,ε,0,(b.length:Int)⟩:c9)]).length=l.length+1:=by simp
 have h1:(bif (decide ((i:Int)<((l++[(⟨0,ε,0,(b.length:Int)⟩:c9)]).length:Int))) then ((idx (l++[(⟨0,ε,0,(b.length:Int)⟩:c9)]) (i:Int)).bind fun a=>((idx (l++[(⟨0,ε,0,(b.length:Int)⟩:c9)]) (i:Int)).bind fun c=>some (a.ga,c.gp))) else some ((b.length:Int),(0:Int)))=some ((lk (l++[⟨0,ε,0,(b.length:Int)⟩]) (min i l.length)).ga,(lk (l++[⟨0,ε,0,(b.length:Int)⟩]) (min i l.length)).gp):=by by_cases q:i<l.length+1;rw [Ξ (by omega),ξ,I8 (by omega),δ,δ,show min i l.length=i by omega];rw [Δ (by omega),θ,show min i l.length=l.length by omega,pA]
 rw [h1,δ];generalize lk (l++[(⟨0,ε,0,(b.length:Int)⟩:c9)]) (min i l.length)=t;simp only [];cases he:e==0;simp only [θ,δ,gG,he];simp only [ξ,δ,eS];cases hk:t.gp != 0;simp only [θ,δ,he,ξ];simp only [ξ,δ];rfl
def globalText_both (b:List aC):∃ r,CJ b=some r∧FN b=some r:=by
 unfold CJ H5 FN;rcases Koa b with ⟨l,hl,h1,h2⟩|⟨x,e,he,h1,h2⟩;rw [h1,h2];simp only [δ,bne,aG,bI,θ];have hlen:(l++[(⟨0,ε,0,(b.length:Int)⟩:c9)]).length=l.length+1:=by simp
 obtain ⟨r,a,c,d⟩:=Om (L:=l++[⟨0,ε,0,(b.length:Int)⟩]) (by omega) 0;obtain ⟨q,hq⟩:=d (by omega) (by omega);have f:=q.2;rw [a,c,δ,δ,hq,nB hl q.2,δ];have hw:ζ.wrap (((l++[(⟨0,ε,0,(b.length:Int)⟩:c9)]).length:Int)-1)=(l.length:Int):=by rw [hlen,kR (by omega) (by omega)];omega
 rw [hw,show min ((q.1:Nat):Int) (l.length:Int)=((min q.1 l.length:Nat):Int) by omega,I8 (by omega),δ];generalize lk (l++[(⟨0,ε,0,(b.length:Int)⟩:c9)]) (min q.1 l.length)=t;simp only [];cases he:r.2.2==0;simp only [a3,ξ,gG,θ,he,δ];exact ⟨_,rfl,rfl⟩;simp only [bI,θ,eS];cases hk:t.gp==0;simp only [bne,hk,a3,ξ];exact ⟨_,rfl,rfl⟩;simp only [bne,hk,bI,θ,he,ξ];exact ⟨_,rfl,rfl⟩;rw [h1,h2];simp only [δ,bne,show (e==0)=false by simp [he],a3,ξ];exact ⟨_,rfl,rfl⟩
end Go.Proofs.YticifeeokcgfkaaGreatDoor.Ab.Pq
namespace Go.Proofs.YticifeeokcgfkaaGreatDoor.Ab
section
open Go
def tY:∀ (n:Nat) (e:Kf),dpE e≤n→szE e≤1048576→KcN n e=some (szE e:Int)
 | 0,e,h,_=>by rw [kS] at h;omega
 |
  n+1,e,h,hb=>by
  show Cg (KcN n) e=_
  unfold Cg;have hs:=la e;have hl:=p5 e.gd;refine wR e.gd (fun pre=>1+b7 pre) (fun a n=>((a:Nat),(n:Nat))) (fun a=>(a:Int)) (by simp [b7,dS,f5]) (fun pre x post hp=>?_) ?_ ?_
  ·have hk:=GX (iW hp);have hsp:=GU hp;simp only [fL hp,ξ];rw [fK hp (by omega)];rw [show idx e.gd (pre.length:Int)=some x by rw [hp];exact iX _ _ _,δ,tY n x (by omega) (by omega),δ];rw [kR (by omega) (by omega),Fv];simp only [b7];congr 3;omega
  ·simp only [jR,θ]
  rw [hs]
def xA {e:Kf}(hb:szE e≤1048576):G9 e=some (szE e:Int):=Pj e (dpE e) (tY _ e (Φ _) hb)
def uw:∀ (n:Nat) (e:Kf),dpE e≤n→szE e≤1048576→Kdv n e=some (p4 e)
 | 0,e,h,_=>by rw [kS] at h;omega
 |
  n+1,e,h,hb=>by
  show B6 (Kdv n) e=_
  unfold B6;have hs:=la e;have hl:=p5 e.gd;refine wR e.gd (fun pre=>e::f5 pre) (fun a n=>(a,(n:Nat))) (fun a=>a) (by simp [b7,dS,f5]) (fun pre x post hp=>?_) ?_ ?_
  ·have hk:=GX (iW hp);have hsp:=GU hp;simp only [fL hp,ξ];rw [fK hp (by omega)];rw [show idx e.gd (pre.length:Int)=some x by rw [hp];exact iX _ _ _,δ,uw n x (by omega) (by omega),δ];rw [h9 (by omega) (by rw [Ψ,Dj,IX];omega),δ,JS];simp only [f5,aN,bK]
  ·simp only [jR,θ]
  rw [yJ]
def xR {e:Kf}(hb:szE e≤1048576):GB e=some (p4 e):=po e (dpE e) (uw _ e (Φ _) hb)
def IN:∀ (n:Nat) (l:List Kk),ki l≤n→szSs l≤1048576→KcO n l=some (flSs l)
 | 0,l,h,_=>by have:=BR l;omega
 |
  n+1,l,h,hb=>by
  show Ce (KcO n) l=_
  unfold Ce;have hl:=we l;refine wR l (fun pre=>flSs pre) (fun a n=>(a,(n:Nat))) (fun a=>a) (by simp [flSs]) (fun pre x post hp=>?_) ?_ ?_
  ·have hx:=iW hp;have hk:=fuel h hx;have hsp:=GS hp;have hsx:=oI x;have f1:=Aa pre;have b:=Aa x.gd;have c:=Aa x.gr;simp only [fL hp,ξ];rw [fK hp (by omega)];rw [show idx l (pre.length:Int)=some x by rw [hp];exact iX _ _ _,δ,h9 (by omega) (by simp;omega),δ,δ,IN n _ hk.1 (by omega),δ,h9 (by omega) (by simp;omega),δ,δ,IN n _ hk.2 (by omega),δ,h9 (by omega) (by simp;omega),δ];rw [Mi]
   simp only [flSs,aN,Bv x,aS,bK,a8]
  ·simp only [jR,θ]
  rfl
def mZ {l:List Kk}(hb:szSs l≤1048576):Cb l=some (flSs l):=O9 l (ki l) (IN _ l (Φ _) hb)
def vy {l pre:List Kk}{x:Kk}{post:List Kk}(h:l=pre++x::post):(jz pre).length+b7 x.gn≤(jz l).length:=by
 subst h;simp only [jz,List.flatMap_append,cA,υ,Dj];omega
def vw {l:List Kk}(hb:szSs l≤1048576):Dt l=some (jz (flSs l)):=by
 unfold Dt;rw [mZ hb,δ];have hf:=Aa l;generalize flSs l=m at hf ⊢;refine wR m (fun pre=>jz pre) (fun a n=>(a,(n:Nat))) (fun a=>a) (by simp [jz]) (fun pre x post hp=>?_) ?_ ?_;have hx:=iW hp;have b:=vy hp;have hl:=p5 x.gn;simp only [fL hp,ξ];rw [fK hp (by omega)];have hi:idx m (pre.length:Int)=some x:=by rw [hp];exact iX _ _ _
 rw [hi];refine wR x.gn (fun q=>jz pre++f5 q) (fun a n=>(a,(n:Nat))) (fun a=>a) (by simp [f5]) (fun q y c hq=>?_) ?_ ?_;have hy:=GU hq;simp only [δ,fL hq,ξ];rw [fK hq (by omega)];rw [show idx x.gn (q.length:Int)=some y by rw [hq];exact iX _ _ _,δ,xR (by omega),δ,h9 (by omega) (by simp [Dj,IX];omega),δ];rw [JS];simp only [f5,aN,aS];simp only [δ,jR,θ];simp only [Mh];simp [jz];simp only [jR,θ];rfl
def lQ:∀ (n:Nat) (l:List Kk),ki l≤n→szSs l≤1048576→Kcs n l=some (szSs l:Int)
 | 0,l,h,_=>by have:=BR l;omega
 |
  n+1,l,h,hb=>by
  show Cy (Kcs n) l=_
  unfold Cy;have hl:=we l;refine wR l (fun pre=>szSs pre) (fun a n=>((a:Nat),(n:Nat))) (fun a=>(a:Int)) (by simp [szSs]) (fun pre x post hp=>?_) ?_ ?_
  ·have hx:=iW hp;have hk:=fuel h hx;have hsp:=GS hp;have hsx:=oI x;have hel:=p5 x.gn;simp only [fL hp,ξ];rw [fK hp (by omega)];rw [show idx l (pre.length:Int)=some x by rw [hp];exact iX _ _ _,δ,lQ n _ hk.1 (by omega),δ,lQ n _ hk.2 (by omega),δ];refine wR x.gn (fun q=>szSs pre+1+szSs x.gd+szSs x.gr+b7 q) (fun a n=>((a:Nat),(n:Nat))) (fun a=>(a:Int)) ?_ (fun q y b hq=>?_) ?_ ?_
   ·simp only [b7];rw [kR (n:=1+(szSs x.gd:Int)) (by omega) (by omega),kR (n:=1+(szSs x.gd:Int)+szSs x.gr) (by omega) (by omega),kR (by omega) (by omega)];congr 1;omega
   ·have hy:=GU hq;simp only [fL hq,ξ];rw [fK hq (by omega)];rw [show idx x.gn (q.length:Int)=some y by rw [hq];exact iX _ _ _,δ,xA (by omega),δ,kR (by omega) (by omega),Fv];simp only [b7];congr 3;omega
   ·simp only [jR,θ]
   rw [HL];simp only [szSs];congr 3;omega
  ·simp only [jR,θ]
  rfl
def m0 {l:List Kk}(hb:szSs l≤1048576):B5 l=some (szSs l:Int):=OO l (ki l) (lQ _ l (Φ _) hb)
end
end Go.Proofs.YticifeeokcgfkaaGreatDoor.Ab
namespace Go.Proofs.YticifeeokcgfkaaGreatDoor.Ab.Pq
open Go
section
variable {L:List c9}(hL:L.length ≤ 100000)
omit hL in
def zX (m2:KC)(p:dK L)(e v o:Int):y7 m2 (gm L p e v o)=(aE yj (L,((p.1:Nat):Int),e,v,o,m2.gi)).bind fun a=>some ((⟨a.1,a.2.1,a.2.2.1,a.2.2.2.1,a.2.2.2.2.1⟩:Km),(⟨m2.gb,m2.gh,a.2.2.2.2.2,m2.gx,m2.ga⟩:KC)):=rfl
include hL
theorem Ly (p:dK L)(e v o:Int)(m2:KC):wq (gm L p e v o) m2=(y7 m2 (gm L (hO L p e o).1 (hO L p e o).2 v (ζ.wrap (o+1)))).bind fun a=>(aE (vX wo) ([],a.1.gL,a.1.ga,a.1.gE,a.1.gu,a.1.gt)).bind fun b=>some (b.1,(⟨b.2.1,b.2.2.1,b.2.2.2.1,b.2.2.2.2.1,(ζ.wrap (b.2.2.2.2.2-(1:Int)))⟩:Km),a.2):=by
 have h:=vu hL p e v o;unfold wq;rw [geat hL,δ] at h ⊢;simp only [] at h ⊢;rw [h,δ];rfl
theorem rK (p:dK L)(v:Int){o:Nat}(ho:o≤24):GR L v o p jt (wo (gm L p 0 v o)) ((lW (4*L.length+10)).2.1 (rm L p 0) o):=by
 obtain ⟨x,y,q,e,h1,h2,a⟩:=(Od hL v (4*L.length+10) (4*L.length+10) (Φ _)).1 p o (4*L.length+10) ho (by omega) (by omega);exact ⟨x,y,q,e,Nz _ _ h1,h2,a⟩
theorem yF (p:dK L)(v:Int):∃ l l2 q e,aE (vX wo) ([],L,((p.1:Nat):Int),0,v,1)=some (l,L,(((q:dK L).1:Nat):Int),e,v,1)∧Ah (rm L p 0) 1=some (l2,rm L q e)∧(e=0→l=l2∧p.1+szSs l≤q.1):=by
 obtain ⟨l,l2,q,e,k1,k2,a⟩:=rc hL wo (lW (4*L.length+10)).2.1 v ((1:Nat):Int) p.1 (fun q _=>rK hL q v (by omega)) L.length p [] (by omega) (by simp only [szSs];omega);refine ⟨l,l2,q,e,k1,Mj _ _ (4*L.length+10+1) ?_,a⟩;rw [Gq hL];rw [show (1:Int)=((1:Nat):Int) from rfl,k2,δ]
theorem ms {p:dK L}{e v o:Int}(he:e≠0):aE (vX wo) ([],L,((p.1:Nat):Int),e,v,o)=some ([],L,((p.1:Nat):Int),e,v,o)∧Ah (rm L p e) 1=some ([],rm L p e):=by
 refine ⟨E1 he,Mj _ _ 1 ?_⟩;rw [Gq hL,E0 he,δ]
end
end Go.Proofs.YticifeeokcgfkaaGreatDoor.Ab.Pq
namespace Go.Proofs.YticifeeokcgfkaaGreatDoor.Ab.Pq
open Go
section
variable {L:List c9}(hL:L.length ≤ 100000)
include hL
theorem Lt {p:dK L}{e v:Int}(he:e≠0)(m2:KC):wq (gm L p e v 0) m2=some ([],gm L p e v 0,⟨m2.gb,m2.gh,m2.gi,m2.gx,m2.ga⟩):=by
 rw [Ly hL,Gs he];simp only [];rw [zX,mh he,δ,δ];simp only [];rw [(ms hL he).1,δ];rfl
def zI (c:Nat)(m:RR):Option (List KZ×List Kk×RR):=(Am m 0).bind fun b=>(aE (u9 c) (b.gL,b.ga,b.gE,[])).bind fun a=>(Ah (⟨a.1,a.2.1,a.2.2.1⟩:RR) 1).bind fun d=>some (a.2.2.2,d.1,d.2)
theorem zH {p:dK L}{e:Int}{c:Nat}(he:e≠0):zI c (rm L p e)=some ([],[],rm L p e):=by
 unfold zI;rw [pj hL,δ,Gs he];simp only [];rw [mg he,δ];simp only [];rw [(ms hL (v:=0) (o:=0) he).2,δ]
theorem sh (p:dK L)(c:Nat)(hc:c≤p.1)(nm:η)(ps:List KZ)(at_:Int):∃ lo l l2 q e v',wq (gm L p 0 c 0) ⟨nm,ps,[],[],at_⟩=some (l,gm L q e v' 0,⟨nm,ps,lo,[],at_⟩)∧zI c (rm L p 0)=some (lo,l2,rm L q e)∧(e=0→l=l2∧p.1+lo.length+szSs l≤q.1):=by
 rw [Ly hL];unfold zI;rw [pj hL,δ,show ζ.wrap ((0:Int)+1)=1 from rfl,zX];by_cases he:(hO L p 0 0).2=0;obtain ⟨_,hb⟩:=re he;rw [he];obtain ⟨lo,q,e,v',k1,k2,f⟩:=yi hL 1 c p.1 L.length (hO L p 0 0).1 [] (by omega) (by simp only [aB];omega) hc;have k1':aE yj (L,(((hO L p 0 0).1.1:Nat):Int),0,(c:Int),1,[])=some (L,((q.1:Nat):Int),e,v',1,lo):=k1;rw [k1',k2,δ,δ,δ];simp only [];by_cases d:e=0;subst d;obtain ⟨l,l2,g,i,m1,m2,j⟩:=yF hL q v';rw [m1,m2,δ,δ];refine ⟨lo,l,l2,g,i,v',rfl,rfl,fun h=>?_⟩;obtain ⟨a,b⟩:=j h;have:=f rfl;exact ⟨a,by omega⟩;obtain ⟨m1,m2⟩:=ms hL (p:=q) (v:=v') (o:=1) d;rw [m1,m2,δ,δ];exact ⟨lo,_,_,q,e,v',rfl,rfl,fun h=>bH h d⟩;rw [mh he,mg he,δ,δ,δ];simp only [];obtain ⟨m1,m2⟩:=ms hL (p:=(hO L p 0 0).1) (v:=(c:Int)) (o:=1) he;rw [m1,m2,δ,δ];exact ⟨[],_,_,_,_,_,rfl,rfl,fun h=>bH h he⟩
end
end Go.Proofs.YticifeeokcgfkaaGreatDoor.Ab.Pq
namespace Go.Proofs.YticifeeokcgfkaaGreatDoor.Ab.Pq
open Go
def zF:KC:=⟨ε,[],[],[],0⟩
section
variable {L:List c9}(hL:L.length ≤ 100000)
include hL
theorem rI (p:dK L)(e:Int)(nm:η)(at_:Int):∃ f ps lo l2 q e' v',((rr (gm L p e 0 0)).bind fun i=>(wq i.2 (⟨nm,i.1,[],[],at_⟩:KC)).bind fun d=>some ((⟨d.2.2.gb,d.2.2.gh,d.2.2.gi,d.1,d.2.2.ga⟩:KC),d.2.1))=some (f,gm L q e' v' 0)∧((wU (rm L p e)).bind fun g=>(zI g.1.length g.2).bind fun y=>some (g.1,y))=some (ps,lo,l2,rm L q e')∧(e'=0→f=⟨nm,ps,lo,l2,at_⟩∧ps.length+lo.length+szSs l2≤2*q.1):=by
 by_cases he:e=0;subst he;obtain ⟨l,l2,q,e,v',h1,h2,j⟩:=rZ hL p 0;rw [h1,h2,δ,δ];simp only [];by_cases he:e=0;subst he;obtain ⟨hl,hv,hq⟩:=j rfl;subst hl;subst hv;obtain ⟨lo,b,k,m,n,v2,k1,k2,r⟩:=sh hL q l.length (by omega) nm l at_;rw [k1,k2,δ,δ];refine ⟨_,l,lo,k,m,n,v2,rfl,rfl,fun h=>?_⟩;obtain ⟨a,c⟩:=r h;subst a;exact ⟨rfl,by omega⟩;rw [Lt hL he,zH hL he,δ,δ];exact ⟨_,l2,[],[],q,e,v',rfl,rfl,fun h=>bH h he⟩;obtain ⟨h1,h2⟩:=nD hL (p:=p) (v:=0) (o:=0) he;rw [h1,h2,δ,δ];simp only [];rw [Lt hL he,zH hL he,δ,δ];exact ⟨_,_,[],[],p,e,0,rfl,rfl,fun h=>bH h he⟩
end
end Go.Proofs.YticifeeokcgfkaaGreatDoor.Ab.Pq
namespace Go.Proofs.YticifeeokcgfkaaGreatDoor.Ab.Pq
open Go
end Go.Proofs.YticifeeokcgfkaaGreatDoor.Ab.Pq