/- The texts that storePrintsCard_holds leans on, part 7. -/
import Derived.Test.YtbbeiinofainlaaGreatDoorVg96
set_option linter.all false
set_option maxRecDepth 100000
set_option maxHeartbeats 80000000
noncomputable section
namespace Go.Proofs.YtbbeiinofainlaaGreatDoor.Ab
section
open Go
def TkOK (t:Tk):Prop:=(t.1=1→NmOK t.2.1)∧(t.1=2→0≤t.2.2∧t.2.2≤9223372036854775807)
def GLv (L:List KB):Prop:=∀ t∈L,TkOK (sk t)
theorem T.pt {α:Type}{m:Option α}{P:α→Prop}(h:T m P):Pt m P:=by
 intro r e;obtain ⟨x,h1,h2⟩:=h;rw [h1] at e;cases e;exact h2
theorem RA.of {m:K4}{a:Nat}(h:TkI m a):RA m a (m.gB.drop a):=⟨h.at_,h.le,h.len,rfl⟩
theorem vadd {m:K4}{a:Nat}{x y:List UInt8}(h:RA m a (x++y))(g:GLv m.gL){k v:Int}(hk:TkOK (k,ByteArray.mk x.toArray,v)):Pt (KbG m k (x.length:Int) v) fun r=>r.1=0→GLv r.2.gL:=(add_is h k v).pt.imp fun r hr e t ht=>by
 rcases hr with ⟨hr,_⟩|⟨_,_,_,b,_⟩
 ·rw [e] at hr;cases hr
 have:sk t∈r.2.gL.map sk:=List.mem_map_of_mem ht;rw [b,List.mem_append,List.mem_singleton] at this;rcases this with h|h
 ·obtain ⟨t',h1,h2⟩:=List.mem_map.1 h;rw [← h2];exact g t' h1
 rw [h];exact hk
theorem tw_mem {p:UInt8→Bool}:∀ {x:List UInt8} {c:UInt8},c∈x.takeWhile p→p c=true
 |
  d::x,c,h=>by
  cases hp:p d with
  | false=>simp [List.takeWhile,hp] at h
  |
   true=>
   simp only [List.takeWhile_cons,hp,if_true,List.mem_cons] at h;rcases h with rfl|h
   ·exact hp
   exact tw_mem h
theorem vname {m:K4}{a:Nat}{x:List UInt8}(h:RA m a x)(g:GLv m.gL){c:UInt8}{r:List UInt8}(e:x=c::r)(hc:ck c=2):Pt (KbS m) fun r=>r.1=0→GLv r.2.gL:=by
 have hl:=h.lx;have hlen:=h.len;have htw:=tw_le (p:=cls true) x
 have hs:x.takeWhile (cls true)++x.dropWhile (cls true)=x:=List.takeWhile_append_dropWhile;have h':RA m a (x.takeWhile (cls true)++x.dropWhile (cls true)):=by rw [hs];exact h
 unfold KbS;rw [KiS h,Option.bind_some,h.at_,wa (by omega),KhN h',Option.bind_some];refine Pt.cond (fun _=>Pt.ret (fun e=>by cases e)) fun b=>Pt.bind Pt.eq fun w hw=>Pt.cond (fun _=>?_) fun f=>?_
 ·exact Pt.bind (vadd h' g ⟨fun e=>(by cases e),fun e=>(by cases e)⟩) fun r hr=>Pt.ret hr
 refine Pt.bind (vadd h' g ⟨fun _=>⟨⟨?_,?_,?_⟩,?_⟩,fun e=>(by cases e)⟩) fun r hr=>Pt.ret hr
 ·exact ⟨c,r.takeWhile (cls true),by simp [e,List.takeWhile_cons,cls,hc],hc⟩
 ·intro d hd;have:=tw_mem (p:=cls true) (x:=x) (c:=d) (by simpa using hd);simp [cls] at this;rcases this with h|h
  ·exact .inr h
  exact .inl h
 ·have:=of_decide_eq_false b;show (x.takeWhile (cls true)).length≤20
  omega
 rw [hw];exact congrArg some f
theorem vnumber {m:K4}{a:Nat}{x:List UInt8}(h:RA m a x)(g:GLv m.gL):Pt (KbE m) fun r=>r.1=0→GLv r.2.gL:=by
 have hl:=h.lx;have hlen:=h.len;have htw:=tw_le (p:=cls false) x
 have hs:x.takeWhile (cls false)++x.dropWhile (cls false)=x:=List.takeWhile_append_dropWhile;have h':RA m a (x.takeWhile (cls false)++x.dropWhile (cls false)):=by rw [hs];exact h
 unfold KbE;refine Pt.cond (fun _=>Pt.ret (fun e=>by cases e)) fun _=>?_
 rw [KiS h,Option.bind_some];refine Pt.bind Pt.any fun b _=>Pt.cond (fun _=>Pt.ret (fun e=>by cases e)) fun _=>?_
 rw [h.at_,wa (by omega),KhN h',Option.bind_some];refine Pt.bind (P:=fun r=>(∀ y,r=Sum.inl y→0≤y∧y≤9223372036854775807)∧∀ q,r=Sum.inr q→q.1 ≠ 0) (Pt.loop (fun s=>0≤s.1∧s.1≤9223372036854775807) ⟨by simp,by simp⟩ fun s hs=>?_) fun r hr=>?_
 ·obtain ⟨v,j⟩:=s;simp only at hs ⊢;refine Pt.cond (fun _=>Pt.bind Pt.any fun c _=>Pt.cond (fun _=>Pt.ret ⟨fun y e=>(by cases e),fun q e=>(by cases e;simp)⟩) fun hc=>Pt.ret ?_) fun _=>Pt.ret ⟨fun y e=>(by cases e;exact hs),fun q e=>(by cases e)⟩
  have hc':=of_decide_eq_false hc;have hd:0≤IntKind.u64.wrap (IntKind.u8.wrap ((c.toNat:Int) - (48:Int)))∧IntKind.u64.wrap (IntKind.u8.wrap ((c.toNat:Int) - (48:Int)))≤255:=by rw [IntKind.wrap_u8,IntKind.wrap_u64];omega
  show 0≤IntKind.u64.wrap _∧IntKind.u64.wrap _≤_
  generalize IntKind.u64.wrap (IntKind.u8.wrap ((c.toNat:Int) - (48:Int)))=d at *;obtain ⟨d1,d2⟩:=hd;have f:IntKind.u64.wrap ((9223372036854775807:Int) - d)=9223372036854775807 - d:=by rw [IntKind.wrap_u64];omega
  have i:(9223372036854775807 - d).tdiv (10:Int)=(9223372036854775807 - d) / 10:=Int.tdiv_eq_ediv_of_nonneg (by omega);have k:IntKind.u64.wrap ((9223372036854775807 - d) / 10)=(9223372036854775807 - d) / 10:=by rw [IntKind.wrap_u64];omega
  rw [f,i,k] at hc';have l:IntKind.u64.wrap (IntKind.u64.wrap ((10:Int)*v)+d)=10*v+d:=by rw [IntKind.wrap_u64,IntKind.wrap_u64];omega
  rw [l];omega
 cases r with
 |
  inl y=>
  obtain ⟨n,o⟩:=hr.1 y rfl;refine Pt.bind (vadd h' g ⟨fun e=>(by cases e),fun _=>?_⟩) fun r hr=>Pt.ret hr
  show 0≤IntKind.i64.wrap y∧IntKind.i64.wrap y≤_
  rw [IntKind.wrap_i64];omega
 | inr q=>exact Pt.ret fun e=>absurd e (hr.2 q rfl)
theorem vnext {m:K4}{a:Nat}(h:TkI m a)(g:GLv m.gL):Pt (KbT m) fun r=>r.1=0→GLv r.2.gL:=by
 have ha:=RA.of h;unfold KbT;refine Pt.bind (P:=fun c=>∃ r,m.gB.drop a=c::r) (fun c e=>?_) fun c hc=>?_
 ·rw [h.at_,Kdq] at e;exact ⟨m.gB.drop (a+1),by rw [List.drop_eq_getElem_cons (List.getElem?_eq_some_iff.1 e).1,(List.getElem?_eq_some_iff.1 e).2]⟩
 obtain ⟨r,hr⟩:=hc;rw [ck_is,Option.bind_some];refine Pt.cond (fun _=>Pt.ret fun _=>g) fun _=>Pt.cond (fun e=>?_) fun _=>Pt.cond (fun e=>?_) fun _=>?_
 ·exact Pt.bind (vname ha g hr (by simpa using e)) fun x hx=>Pt.ret hx
 ·exact Pt.bind (vnumber ha g) fun x hx=>Pt.ret hx
 have hlt:a < m.gB.length:=by
  rcases Nat.lt_or_ge a m.gB.length with h1|h1
  ·exact h1
  rw [List.drop_of_length_le h1] at hr;cases hr
 refine Pt.bind (tsign h hlt).pt fun n hn=>Pt.cond (fun _=>Pt.ret fun e=>(by cases e)) fun e=>?_
 rcases hn with rfl|⟨k,rfl,k1,k2⟩
 ·cases e
 have hs:(m.gB.drop a).take k++(m.gB.drop a).drop k=m.gB.drop a:=List.take_append_drop _ _;have h':RA m a ((m.gB.drop a).take k++(m.gB.drop a).drop k):=by rw [hs];exact ha
 have hk:((m.gB.drop a).take k).length=k:=by simp;omega
 have:=vadd (k:=3) (v:=0) h' g ⟨fun e=>(by cases e),fun e=>(by cases e)⟩;rw [hk] at this;exact Pt.bind this fun x hx=>Pt.ret hx
theorem vread (b:List UInt8):Pt (Kc2 b) fun r=>r.2.2=0→GLv r.1:=by
 unfold Kc2;refine Pt.cond (fun _=>Pt.ret (by simp)) fun hc=>?_
 have hb:b.length≤20000:=by have:=of_decide_eq_false hc;omega
 refine Pt.bind (P:=fun r=>(∀ q,r=Sum.inl q→GLv q.2.2)∧∀ q,r=Sum.inr q→q.2.2 ≠ 0) ?_ fun r hr=>?_
 ·refine Pt.loop (fun s=>s.1=b∧GLv s.2.2∧∃ a,TkI ⟨s.1,s.2.1,s.2.2⟩ a) ⟨rfl,by simp [GLv],0,rfl,Nat.zero_le _,hb,by simp⟩ fun s hs=>?_
  obtain ⟨c,i,f⟩:=s;obtain ⟨e,g,a,ha⟩:=hs;simp only at e g ha;subst e;have:=ha.at_;simp only at this;subst this;refine Pt.cond (fun hc=>?_) fun hc=>Pt.ret ⟨fun q e=>(by cases e;exact g),fun q e=>by cases e⟩
  have hlt:a < c.length:=by simpa using hc
  refine Pt.bind (P:=fun r=>TP ⟨c,(a:Int),f⟩ a r∧(r.1=0→GLv r.2.gL)) (fun r e=>⟨(tnext ha hlt).pt r e,vnext ha g r e⟩) fun r hr=>Pt.cond (fun e=>Pt.ret ⟨fun q e=>(by cases e),fun q e'=>(by cases e';simpa using e)⟩) fun e=>Pt.ret ?_
  have d:r.1=0:=by simpa using e
  rcases hr.1 with h1|⟨a',h1,h2,h⟩
  ·exact absurd d h1
  exact ⟨h,hr.2 d,a',h2.at_,h2.le,h2.len,h2.l⟩
 cases r with
 |
  inl q=>
  have:=hr.1 q rfl;refine Pt.bind (P:=fun l=>GLv l) (fun l e=>?_) fun l hl=>Pt.ret fun _=>hl
  rw [(KeL e).1];intro t ht;rcases List.mem_append.1 ht with ht|ht
  ·exact this t ht
  rw [List.mem_singleton.1 ht];exact ⟨fun e=>(by cases e),fun e=>(by cases e)⟩
 | inr q=>exact Pt.ret fun e=>absurd e (hr.2 q rfl)
theorem VE.kids {e:Ke}(h:VE e):e.gc.length≤2∧∀ k∈e.gc,VE k:=by
 cases h<;>simp_all
theorem deepV_g:∀ (n:Nat) (e:Ke),VE e→dpE e≤n→dpE e≤1000→Kb1 n e=some (dpE e:Int)
 | 0,e,_,h,_=>by rw [Ken] at h;omega
 |
  n+1,e,hv,h,hb=>by
  show Kda (Kb1 n) e=_
  unfold Kda;obtain ⟨hl,hk⟩:=hv.kids;have hd:=Ken e;refine loop_list e.gc (fun pre=>dpEs pre) (fun a n=>((a:Nat),(n:Nat))) (fun a=>(a:Int)) (by simp [dpEs]) (fun pre x post hp=>?_) ?_ ?_
  ·have hx:=hk x (KcE hp);have b:=Kf0 (KcE hp);simp only [Kcc hp,cond_true];rw [KbO hp (by omega)];rw [show idx e.gc (pre.length:Int)=some x by rw [hp];exact KcN _ _ _,Option.bind_some,deepV_g n x hx (by omega) (by omega),Option.bind_some];rw [Kkh];simp only [dpEs];congr 3;omega
  ·simp only [Kix,cond_false]
  rw [hd,wrap_id (by omega) (by omega)];congr 1;omega
theorem deepV {e:Ke}(h:VE e)(hb:dpE e≤1000):KfT e=some (dpE e:Int):=KjP e _ (deepV_g _ e h (Nat.le_refl _) hb)
structure PV (m:Ki) (P:Prop) (r:Ki):Prop where
 l:r.gL=m.gL
 e:r.gE=0→m.gE=0∧P
theorem PV.imp {m r:Ki}{P Q:Prop}(h:PV m P r)(g:P→Q):PV m Q r:=⟨h.l,fun e=>⟨(h.e e).1,g (h.e e).2⟩⟩
theorem PV.trans {m r q:Ki}{P Q R:Prop}(h:PV m P r)(h':PV r Q q)(g:P→Q→R):PV m R q:=⟨h'.l.trans h.l,fun e=>⟨(h.e (h'.e e).1).1,g (h.e (h'.e e).1).2 (h'.e e).2⟩⟩
theorem vlook {m:Ki}(g:GLv m.gL):Pt (Ka8 m) fun t=>TkOK (sk t):=by
 unfold Ka8;refine Pt.cond (fun _=>Pt.ret ⟨fun e=>(by cases e),fun e=>(by cases e)⟩) fun _=>Pt.bind (P:=fun t=>TkOK (sk t)) (fun t e=>g t (List.mem_of_getElem? (Kis e).2)) fun t ht=>Pt.ret ht
theorem vfail {m:Ki}{a e:Int}(he:e ≠ 0):Pt (Ka9 m a e) fun r=>r.gL=m.gL∧r.gE ≠ 0:=by
 unfold Ka9;refine Pt.cond (fun _=>Pt.ret ⟨rfl,he⟩) fun h=>Pt.ret ⟨rfl,fun e=>?_⟩
 rw [e] at h;cases h
theorem PV.bad {m r:Ki}{P:Prop}(h:r.gL=m.gL∧r.gE ≠ 0):PV m P r:=⟨h.1,fun e=>absurd e h.2⟩
theorem veat {m:Ki}(s:ByteArray):Pt (Kcp m s) (PV m True):=by
 unfold Kcp;refine Pt.bind Pt.any fun b _=>Pt.cond (fun _=>Pt.bind (vfail (by decide)) fun r hr=>Pt.ret (PV.bad hr)) fun _=>Pt.ret ⟨rfl,fun e=>⟨e,trivial⟩⟩
theorem vname' {m:Ki}(g:GLv m.gL):Pt (Kbw m) fun r=>PV m (NmOK r.1) r.2:=by
 unfold Kbw;refine Pt.bind (vlook g) fun t ht=>Pt.cond (fun _=>Pt.bind (vfail (by decide)) fun r hr=>Pt.ret (PV.bad hr)) fun h=>Pt.ret ⟨rfl,fun e=>⟨e,ht.1 (by simpa [sk] using h)⟩⟩
theorem vsound {m:Ki}{e:Ke}(h:m.gE=0→VE e∧dpE e≤1000)(a:Int):Pt (KaY m e a) fun r=>PV m (VX r.1) r.2:=by
 unfold KaY;refine Pt.cond (fun e=>Pt.ret ⟨rfl,fun b=>?_⟩) fun b=>?_
 ·simp at e;exact absurd b e
 obtain ⟨h1,h2⟩:=h (by simpa using b);rw [deepV h1 h2,Option.bind_some];refine Pt.cond (fun _=>Pt.bind (vfail (by decide)) fun r hr=>Pt.ret (PV.bad hr)) fun h=>Pt.ret ⟨rfl,fun e'=>⟨e',h1,?_⟩⟩
 have:=of_decide_eq_false h;show dpE e≤24
 omega
theorem vbetween (a:Int)(s:ByteArray):Pt (Ka5 a s) fun op=>op ≠ 0→lev op < 6:=by
 unfold Ka5 KcC;repeat' (first|exact Pt.ret (by decide)|(refine Pt.cond (fun _=>?_) (fun _=>?_))|(refine Pt.bind (P:=fun op=>op ≠ 0→lev op < 6) ?_ (fun _ h=>Pt.ret h)))
theorem dp1 (o n:Int)(s:ByteArray)(k:Ke)(a:Int):dpE ⟨o,n,s,[k],a⟩=1+dpE k:=by simp [dpE,dpEs]
theorem dp2 (o n:Int)(s:ByteArray)(k q:Ke)(a:Int):dpE ⟨o,n,s,[k,q],a⟩=1+max (dpE k) (dpE q):=by simp [dpE,dpEs]
theorem dp0 (o n:Int)(s:ByteArray)(a:Int):dpE ⟨o,n,s,[],a⟩=1:=by simp [dpE,dpEs]
theorem ptv:∀ N:Nat,
  (∀ (m:Ki) (a:Int),GLv m.gL→Pt ((PG N).1 m a) fun r=>PV m (VX r.1) r.2) ∧
  (∀ m:Ki,GLv m.gL→Pt ((PG N).2.1 m) fun r=>PV m (VX r.1) r.2) ∧
  (∀ (m:Ki) (x:Ke) (k at_:Int),GLv m.gL→(m.gE=0→∃ s a,NmOK s∧((x=⟨2,0,s,[],a⟩∧k=3)∨(x=⟨19,0,s,[],a⟩∧k=20)))→Pt ((PG N).2.2.1 m x k at_) fun r=>PV m (VX r.1) r.2) ∧
  (∀ (m:Ki) (s:ByteArray),GLv m.gL→Pt ((PG N).2.2.2.1 m s) fun r=>PV m (VX r.1) r.2) ∧
  (∀ (m:Ki) (t:KB) (at_:Int),GLv m.gL→Pt ((PG N).2.2.2.2 m t at_) fun r=>PV m (VX r.1) r.2)
 | 0=>⟨fun _ _ _ r e=>(by cases e),fun _ _ r e=>(by cases e),fun _ _ _ _ _ _ r e=>(by cases e),fun _ _ _ r e=>(by cases e),fun _ _ _ _ r e=>(by cases e)⟩
 |
  N+1=>by
  obtain ⟨iR,iU,iI,iA,iS⟩:=ptv N;refine ⟨fun m a g=>?_,fun m g=>?_,fun m x k at_ g hx=>?_,fun m s g=>?_,fun m t at_ g=>?_⟩
  ·show Pt (Kbk (PG N).1 (PG N).2.1 (PG N).2.2.1 (PG N).2.2.2.1 (PG N).2.2.2.2 m a) _
   unfold Kbk;refine Pt.cond (fun _=>Pt.bind (iU m g) fun r hr=>Pt.ret hr) fun _=>Pt.bind (iR m _ g) fun x hx=>?_
   refine Pt.bind (P:=fun s:List KB×Int×Int×Int×Int×ByteArray×List Ke×Int=>PV m (VX ⟨s.2.2.2.1,s.2.2.2.2.1,s.2.2.2.2.2.1,s.2.2.2.2.2.2.1,s.2.2.2.2.2.2.2⟩) ⟨s.1,s.2.1,s.2.2.1⟩) ?_ fun s hs=>Pt.ret hs
   refine Pt.loop (fun s:List KB×Int×Int×Int×Int×ByteArray×List Ke×Int=>PV m (VX ⟨s.2.2.2.1,s.2.2.2.2.1,s.2.2.2.2.2.1,s.2.2.2.2.2.2.1,s.2.2.2.2.2.2.2⟩) ⟨s.1,s.2.1,s.2.2.1⟩) (by simp only;rw [xeta];exact hx) fun s hs=>?_
   obtain ⟨L,p,d,n,o,u,v,w⟩:=s;simp only at hs ⊢;refine Pt.cond (fun he=>?_) fun _=>Pt.ret hs
   have f:d=0:=by simpa using he
   have gL:GLv L:=by have:=hs.l;simp only at this;rw [this];exact g
   refine Pt.bind (vlook (m:=⟨L,p,d⟩) gL) fun t ht=>?_
   refine Pt.bind (P:=fun op=>op ≠ 0→lev op < 6) (Pt.cond (fun hk=>Pt.bind (vbetween _ _) fun b hb=>Pt.ret hb) fun _=>Pt.ret (by simp)) fun op hop=>Pt.cond (fun _=>Pt.ret hs) fun hne=>?_
   have hop':=hop (by simpa using hne);refine Pt.bind (iR ⟨L,IntKind.i64.wrap (p+1),d⟩ _ gL) fun r hr=>?_
   obtain ⟨v1,v2⟩:=(hs.e f).2;refine Pt.bind (vsound (m:=r.2) (e:=⟨op,0,ByteArray.empty,[⟨n,o,u,v,w⟩,r.1],t.gb⟩) (fun e=>?_) p) fun q hq=>Pt.ret ?_
   ·obtain ⟨c,i⟩:=(hr.e e).2;refine ⟨.bin _ _ _ _ hop' v1 c,?_⟩;rw [dp2];omega
   show PV m (VX ⟨q.1.gj,q.1.gN,q.1.ga,q.1.gc,q.1.gb⟩) ⟨q.2.gL,q.2.gb,q.2.gE⟩
   rw [xeta];exact ⟨hq.l.trans (hr.l.trans hs.l),fun e=>⟨(hs.e f).1,(hq.e e).2⟩⟩
  ·show Pt (Kbd (PG N).1 (PG N).2.1 (PG N).2.2.1 (PG N).2.2.2.1 (PG N).2.2.2.2 m) _
   unfold Kbd;refine Pt.bind (vlook g) fun t ht=>Pt.cond (fun e=>Pt.ret ⟨rfl,fun d=>?_⟩) fun e=>Pt.cond (fun k=>Pt.ret ⟨rfl,fun e=>⟨e,?_⟩⟩) fun _=>Pt.cond (fun k=>?_) fun _=>Pt.cond (fun k=>?_) fun k=>?_
   ·simp at e;exact absurd d e
   ·obtain ⟨y,n2⟩:=ht.2 (by simpa [sk] using k);exact ⟨.num _ _ y n2,by rw [dp0];omega⟩
   ·refine Pt.bind (iI ⟨m.gL,IntKind.i64.wrap (m.gb+1),m.gE⟩ _ _ _ g fun _=>⟨_,_,ht.1 (by simpa [sk] using k),.inl ⟨rfl,rfl⟩⟩) fun r hr=>Pt.ret ⟨hr.l,hr.e⟩
   ·exact Pt.bind (iS ⟨m.gL,IntKind.i64.wrap (m.gb+1),m.gE⟩ _ _ g) fun r hr=>Pt.ret ⟨hr.l,hr.e⟩
   exact Pt.bind (vfail (m:=⟨m.gL,IntKind.i64.wrap (m.gb+1),m.gE⟩) (by decide)) fun r hr=>Pt.ret (PV.bad hr)
  ·show Pt (KaN (PG N).1 (PG N).2.1 (PG N).2.2.1 (PG N).2.2.2.1 (PG N).2.2.2.2 m x k at_) _
   unfold KaN;refine Pt.bind Pt.any fun b _=>Pt.cond (fun _=>Pt.ret ⟨rfl,fun e=>⟨e,?_⟩⟩) fun _=>?_
   ·obtain ⟨s,a,h1,h2⟩:=hx e;rcases h2 with ⟨rfl,_⟩|⟨rfl,_⟩
    ·exact ⟨.var _ _ h1,by rw [dp0];omega⟩
    exact ⟨.addr _ _ h1,by rw [dp0];omega⟩
   refine Pt.bind (iA ⟨m.gL,IntKind.i64.wrap (m.gb+1),m.gE⟩ _ g) fun r hr=>?_
   refine Pt.bind (vsound (m:=r.2) (e:=⟨k,x.gN,x.ga,[r.1],x.gb⟩) (fun e=>?_) at_) fun q hq=>Pt.ret ⟨hq.l.trans hr.l,fun e=>⟨(hr.e (hq.e e).1).1,(hq.e e).2⟩⟩
   obtain ⟨j,c,i⟩:=hr.e e;obtain ⟨s,a,h1,h2⟩:=hx j;rcases h2 with ⟨rfl,rfl⟩|⟨rfl,rfl⟩
   ·exact ⟨.index _ _ _ h1 c,by rw [dp1];omega⟩
   exact ⟨.addrAt _ _ _ h1 c,by rw [dp1];omega⟩
  ·show Pt (Kbl (PG N).1 (PG N).2.1 (PG N).2.2.1 (PG N).2.2.2.1 (PG N).2.2.2.2 m s) _
   unfold Kbl;refine Pt.bind (iR m 0 g) fun r hr=>Pt.cond (fun _=>?_) fun _=>Pt.ret hr
   exact Pt.bind (veat s) fun q hq=>Pt.ret (hr.trans hq fun h _=>h)
  show Pt (Kbe (PG N).1 (PG N).2.1 (PG N).2.2.1 (PG N).2.2.2.1 (PG N).2.2.2.2 m t at_) _
  unfold Kbe;refine Pt.bind (P:=fun b=>b=true→t.gr=ByteArray.mk #[45]∨t.gr=ByteArray.mk #[33]) (Pt.cond (fun h=>Pt.ret fun _=>.inl (of_decide_eq_true h)) fun _=>Pt.ret fun h=>.inr (of_decide_eq_true h)) fun b hb=>Pt.cond (fun h=>?_) fun _=>Pt.cond (fun _=>?_) fun _=>Pt.cond (fun _=>?_) fun _=>Pt.cond (fun _=>Pt.ret ⟨rfl,fun e=>⟨e,.null _,by rw [dp0];omega⟩⟩) fun _=>Pt.cond (fun _=>?_) fun _=>?_
  ·refine Pt.bind (P:=fun op=>op=5∨op=6) ?_ fun op hop=>Pt.bind (iU m g) fun r hr=>?_
   ·unfold KcC;refine Pt.cond (fun _=>Pt.ret (.inl rfl)) fun h1=>Pt.cond (fun _=>Pt.ret (.inr rfl)) fun h2=>?_
    rcases hb h with h|h
    ·exact absurd h (of_decide_eq_false h1)
    exact absurd h (of_decide_eq_false h2)
   refine Pt.bind (vsound (m:=r.2) (e:=⟨op,0,ByteArray.empty,[r.1],t.gb⟩) (fun e=>?_) at_) fun q hq=>Pt.ret ⟨hq.l.trans hr.l,fun e=>⟨(hr.e (hq.e e).1).1,(hq.e e).2⟩⟩
   obtain ⟨j,c,i⟩:=hr.e e;refine ⟨?_,by rw [dp1];omega⟩;rcases hop with rfl|rfl
   ·exact .neg _ _ c
   exact .not _ _ c
  ·exact Pt.bind (vname' g) fun r hr=>Pt.ret ⟨hr.l,fun e=>⟨(hr.e e).1,.load _ _ (hr.e e).2,by rw [dp0];omega⟩⟩
  ·refine Pt.bind (vname' g) fun r hr=>Pt.bind (iI r.2 _ _ _ (by rw [hr.l];exact g) fun e=>⟨_,_,(hr.e e).2,.inr ⟨rfl,rfl⟩⟩) fun q hq=>Pt.ret (hr.trans hq fun _ h=>h)
  ·exact Pt.bind (iA m _ g) fun r hr=>Pt.ret hr
  exact Pt.bind (vfail (by decide)) fun r hr=>Pt.ret (PV.bad hr)
theorem vexpr {L:List KB}(g:GLv L)(a:Int):Pt (Kdw L a) fun r=>r.2.2=0→VX r.1:=by
 unfold Kdw;refine Pt.bind Pt.any fun b _=>Pt.cond (fun _=>Pt.ret fun e=>(by cases e)) fun _=>Pt.bind (P:=fun r=>PV ⟨L,a,0⟩ (VX r.1) r.2) (fun r e=>?_) fun r hr=>Pt.cond (fun e=>Pt.ret fun c=>?_) fun e=>Pt.ret fun _=>(hr.e (by simpa using e)).2
 ·obtain ⟨n,hn⟩:=Kc4 e;exact (ptv n).1 _ _ g r hn
 simp at e;exact absurd c e
end
section
open Go
structure GV (m:Kg) (P:Prop) (r:Kg):Prop where
 l:r.gL=m.gL
 o:r.gm=m.gm
 v:r.gn=m.gn
 e:r.gE=0→m.gE=0∧P
theorem GV.imp {m r:Kg}{P Q:Prop}(h:GV m P r)(g:P→Q):GV m Q r:=⟨h.l,h.o,h.v,fun e=>⟨(h.e e).1,g (h.e e).2⟩⟩
theorem GV.trans {m r q:Kg}{P Q R:Prop}(h:GV m P r)(h':GV r Q q)(g:P→Q→R):GV m R q:=⟨h'.l.trans h.l,h'.o.trans h.o,h'.v.trans h.v,fun e=>⟨(h.e (h'.e e).1).1,g (h.e (h'.e e).1).2 (h'.e e).2⟩⟩
theorem GV.refl (m:Kg):GV m True m:=⟨rfl,rfl,rfl,fun e=>⟨e,trivial⟩⟩
theorem GV.gl {m r:Kg}{P:Prop}(h:GV m P r)(g:GLv m.gL):GLv r.gL:=by rw [h.l];exact g
def Bd (m r:Kg):Prop:=r.gL=m.gL∧r.gm=m.gm∧r.gn=m.gn∧r.gE ≠ 0
theorem GV.bad {m r:Kg}{P:Prop}(h:Bd m r):GV m P r:=⟨h.1,h.2.1,h.2.2.1,fun e=>absurd e h.2.2.2⟩
theorem wfail {m:Kg}{a e:Int}(he:e ≠ 0):Pt (Kaz m a e) (Bd m):=by
 unfold Kaz;refine Pt.cond (fun _=>Pt.ret ⟨rfl,rfl,rfl,he⟩) fun h=>Pt.ret ⟨rfl,rfl,rfl,fun e=>?_⟩
 rw [e] at h;cases h
theorem wlook {m:Kg}(g:GLv m.gL)(a:Int):Pt (Kav m a) fun t=>TkOK (sk t):=by
 unfold Kav;refine Pt.cond (fun _=>Pt.ret ⟨fun e=>(by cases e),fun e=>(by cases e)⟩) fun _=>Pt.bind (P:=fun t=>TkOK (sk t)) (fun t e=>g t (List.mem_of_getElem? (Kis e).2)) fun t ht=>Pt.ret ht
theorem weat (m:Kg)(l:List ByteArray):Pt (KQ m l) (GV m True):=by
 unfold KQ;refine Pt.bind (P:=fun r=>∀ q,r=Sum.inr q→GV m True q) (Pt.loop (fun _=>True) trivial fun s _=>?_) fun r hr=>?_
 ·refine Pt.cond (fun _=>Pt.bind Pt.any fun x _=>Pt.cond (fun e=>Pt.ret fun q h=>?_) fun _=>Pt.bind Pt.any fun b _=>Pt.cond (fun _=>?_) fun _=>Pt.ret trivial) fun _=>Pt.ret fun q h=>by cases h
  ·cases h;exact ⟨rfl,rfl,rfl,fun e=>⟨e,trivial⟩⟩
  refine Pt.bind (wfail (m:=⟨m.gL,s.2,m.gE,m.gn,m.gm⟩) (by decide)) fun x hx=>Pt.ret fun q h=>?_
  cases h;exact .bad hx
 cases r with
 | inl p=>exact Pt.ret ⟨rfl,rfl,rfl,fun e=>⟨e,trivial⟩⟩
 | inr q=>exact Pt.ret (hr q rfl)
theorem wmay (m:Kg)(s:ByteArray):Pt (KY m s) fun r=>GV m True r.2:=by
 unfold KY;exact Pt.bind Pt.any fun b _=>Pt.cond (fun _=>Pt.ret (GV.refl m)) fun _=>Pt.ret ⟨rfl,rfl,rfl,fun e=>⟨e,trivial⟩⟩
theorem wname {m:Kg}(g:GLv m.gL):Pt (KaQ m) fun r=>GV m (NmOK r.1) r.2:=by
 unfold KaQ;refine Pt.cond (fun e=>Pt.ret (.bad ⟨rfl,rfl,rfl,by simpa using e⟩)) fun _=>Pt.bind (wlook g 0) fun t ht=>Pt.cond (fun _=>Pt.bind (wfail (by decide)) fun r hr=>Pt.ret (.bad hr)) fun h=>Pt.ret ⟨rfl,rfl,rfl,fun e=>⟨e,ht.1 (by simpa [sk] using h)⟩⟩
theorem wexpr {m:Kg}(g:GLv m.gL):Pt (KaA m) fun r=>GV m (VX r.1) r.2:=by
 unfold KaA;refine Pt.cond (fun e=>Pt.ret (.bad ⟨rfl,rfl,rfl,by simpa using e⟩)) fun _=>Pt.bind (vexpr g _) fun x hx=>Pt.cond (fun k=>?_) fun k=>Pt.ret ⟨rfl,rfl,rfl,fun e=>⟨e,hx (by simpa using k)⟩⟩
 exact Pt.bind (wfail (by simpa using k)) fun r hr=>Pt.ret (.bad hr)
structure GW (m:Kg) (vs:List K3) (r:Kg):Prop where
 l:r.gL=m.gL
 o:r.gm=m.gm
 e:r.gE=0→m.gE=0∧(∀ v∈vs,NmOK v.ga)∧(0≤m.gn→m.gn≤16→r.gn=m.gn+vs.length∧r.gn≤16)
theorem GV.w {m r:Kg}{P:Prop}(h:GV m P r):GW m [] r:=⟨h.l,h.o,fun e=>⟨(h.e e).1,by simp,fun _ a=>by rw [h.v];simp [a]⟩⟩
theorem GW.trans {m r q:Kg}{k l:List K3}(h:GW m k r)(h':GW r l q):GW m (k++l) q:=by
 refine ⟨h'.l.trans h.l,h'.o.trans h.o,fun e=>?_⟩;obtain ⟨c,v1,d⟩:=h'.e e;obtain ⟨f,v2,n2⟩:=h.e c;refine ⟨f,fun v hv=>?_,fun a b=>?_⟩
 ·rcases List.mem_append.1 hv with hv|hv
  ·exact v2 v hv
  exact v1 v hv
 obtain ⟨c1,c2⟩:=n2 a b;obtain ⟨c3,c4⟩:=d (by omega) c2;refine ⟨?_,c4⟩;rw [c3,c1,List.length_append];omega
theorem GW.gv {m r q:Kg}{l:List K3}{P:Prop}(h:GW m l r)(h':GV r P q):GW m l q:=by
 have:=h.trans h'.w;rwa [List.append_nil] at this
theorem GW.gl {m r:Kg}{l:List K3}(h:GW m l r)(g:GLv m.gL):GLv r.gL:=by rw [h.l];exact g
theorem wvar {m:Kg}(g:GLv m.gL):Pt (KaW m) fun r=>GW m [r.1] r.2:=by
 unfold KaW;refine Pt.bind (weat m _) fun c h1=>Pt.bind (wmay c _) fun n h2=>Pt.bind (wname ((h1.trans h2 fun _ h=>h).gl g)) fun d f=>?_
 have q:=(h1.trans h2 fun _ h=>h).trans f fun _ h=>h
 refine Pt.cond (fun _=>Pt.bind (wfail (by decide)) fun r hr=>Pt.ret ⟨hr.1.trans q.l,hr.2.1.trans q.o,fun e=>absurd e hr.2.2.2⟩) fun k=>Pt.ret ⟨q.l,q.o,fun e=>?_⟩
 obtain ⟨i,j⟩:=q.e e;refine ⟨i,fun v hv=>by rw [List.mem_singleton.1 hv];exact j,fun a b=>?_⟩;have hk:=of_decide_eq_false k;have hw:IntKind.i64.wrap (d.2.gn+1)=m.gn+1:=by rw [q.v,IntKind.wrap_i64];omega
 simp only;rw [hw] at hk ⊢;exact ⟨rfl,by omega⟩
theorem wlistE {m:Kg}(g:GLv m.gL):Pt (KbD m) fun r=>GV m (∀ e∈r.1,VX e) r.2:=by
 unfold KbD;refine Pt.bind (weat m _) fun b h1=>Pt.bind (wmay b _) fun d h2=>?_
 have a:=h1.trans h2 fun _ h=>h
 refine Pt.cond (fun _=>Pt.ret (a.imp fun _=>by simp)) fun _=>?_
 refine Pt.bind (P:=fun s:List Ke×List KB×Int×Int×Int×Int=>GV m (∀ e∈s.1,VX e) ⟨s.2.1,s.2.2.1,s.2.2.2.1,s.2.2.2.2.1,s.2.2.2.2.2⟩) (Pt.loop (fun s:List Ke×List KB×Int×Int×Int×Int=>GV m (∀ e∈s.1,VX e) ⟨s.2.1,s.2.2.1,s.2.2.2.1,s.2.2.2.2.1,s.2.2.2.2.2⟩) (a.imp fun _=>by simp) fun s hs=>?_) fun s hs=>Pt.bind (weat _ _) fun f c=>Pt.ret (hs.trans c fun h _=>h)
 refine Pt.cond (fun _=>Pt.bind (wexpr (m:=⟨s.2.1,s.2.2.1,s.2.2.2.1,s.2.2.2.2.1,s.2.2.2.2.2⟩) (hs.gl g)) fun x hx=>Pt.bind (P:=fun l=>l=s.1++[x.1]) (fun l e=>(KeL e).1) fun l hl=>Pt.bind (wmay _ _) fun y hy=>?_) fun _=>Pt.ret hs
 subst hl;have q:=(hs.trans hx (R:=∀ e∈s.1++[x.1],VX e) fun h1 h2 e he=>by
  rcases List.mem_append.1 he with he|he
  ·exact h1 e he
  rw [List.mem_singleton.1 he];exact h2).trans hy fun h _=>h
 exact Pt.cond (fun _=>Pt.ret q) fun _=>Pt.ret q
theorem wlistV {m:Kg}(g:GLv m.gL):Pt (KbI m) fun r=>GW m r.1 r.2:=by
 unfold KbI;refine Pt.bind (weat m _) fun b h1=>Pt.bind (wmay b _) fun d h2=>?_
 have a:=(h1.trans h2 (R:=True) fun _ h=>h).w;refine Pt.cond (fun _=>Pt.ret a) fun _=>?_
 refine Pt.bind (P:=fun s:List K3×List KB×Int×Int×Int×Int=>GW m s.1 ⟨s.2.1,s.2.2.1,s.2.2.2.1,s.2.2.2.2.1,s.2.2.2.2.2⟩) (Pt.loop (fun s:List K3×List KB×Int×Int×Int×Int=>GW m s.1 ⟨s.2.1,s.2.2.1,s.2.2.2.1,s.2.2.2.2.1,s.2.2.2.2.2⟩) a fun s hs=>?_) fun s hs=>Pt.bind (weat _ _) fun f c=>Pt.ret (hs.gv c)
 refine Pt.cond (fun _=>Pt.bind (wvar (m:=⟨s.2.1,s.2.2.1,s.2.2.2.1,s.2.2.2.2.1,s.2.2.2.2.2⟩) (hs.gl g)) fun x hx=>Pt.bind (P:=fun l=>l=s.1++[x.1]) (fun l e=>(KeL e).1) fun l hl=>Pt.bind (wmay _ _) fun y hy=>?_) fun _=>Pt.ret hs
 subst hl;have q:=(hs.trans hx).gv hy;exact Pt.cond (fun _=>Pt.ret q) fun _=>Pt.ret q
theorem wcall {m:Kg}(g:GLv m.gL){a:Kj}(hn:a.ga=ByteArray.empty∨(m.gE=0→NmOK a.ga))(hk:a.gc=[])(he:a.gq=[])(d:Nat):Pt (Kbp m a) fun r=>GV m (VS d r.1) r.2:=by
 unfold Kbp;refine Pt.bind (wname g) fun i h1=>Pt.bind (wlistE (h1.gl g)) fun j h2=>Pt.bind (weat _ _) fun k f=>Pt.ret ?_
 have q:=((h1.trans h2 And.intro).trans f fun h _=>h);refine ⟨q.l,q.o,q.v,fun e=>?_⟩;obtain ⟨b,c,n2⟩:=q.e e;refine ⟨b,?_⟩;simp only;rw [hk,he];rcases hn with hn|hn
 ·rw [hn];exact .call _ _ _ _ c n2
 exact .callTo _ _ _ _ _ (hn b) c n2
theorem wassign {m:Kg}(g:GLv m.gL){a:Kj}(hn:m.gE=0→NmOK a.ga)(hf:a.gu=ByteArray.empty)(hx:a.go=[])(hk:a.gc=[])(he:a.gq=[])(d:Nat):Pt (KaT m a) fun r=>GV m (VS d r.1) r.2:=by
 unfold KaT;refine Pt.bind (wmay m _) fun k h1=>Pt.cond (fun _=>Pt.bind (weat _ _) fun f h2=>Pt.ret ?_) fun _=>Pt.bind Pt.any fun b _=>Pt.cond (fun _=>?_) fun _=>?_
 ·have q:=h1.trans h2 fun _ h=>h
  refine ⟨q.l,q.o,q.v,fun e=>?_⟩;obtain ⟨c,_⟩:=q.e e;refine ⟨c,?_⟩;simp only;rw [hf,hx,hk,he];exact .input _ _ _ (hn c)
 ·refine Pt.bind (wcall (h1.gl g) (.inr fun e=>hn (h1.e e).1) hk he d) fun x hx=>Pt.ret (h1.trans hx fun _ h=>h)
 refine Pt.bind (wexpr (h1.gl g)) fun f h2=>Pt.bind (weat _ _) fun n i=>Pt.ret ?_
 have q:=(h1.trans h2 fun _ h=>h).trans i fun h _=>h
 refine ⟨q.l,q.o,q.v,fun e=>?_⟩;obtain ⟨c,j⟩:=q.e e;refine ⟨c,?_⟩;simp only;rw [hf,hk,he];exact .assign _ _ _ _ (hn c) j
theorem wnamed {m:Kg}(g:GLv m.gL)(at_:Int)(d:Nat):Pt (KaZ m ⟨0,ByteArray.empty,ByteArray.empty,[],[],[],at_⟩) fun r=>GV m (VS d r.1) r.2:=by
 unfold KaZ;refine Pt.bind Pt.any fun b _=>Pt.cond (fun _=>Pt.bind (wcall g (.inl rfl) rfl rfl d) fun x hx=>Pt.ret hx) fun _=>Pt.bind (wname g) fun p h1=>Pt.bind (wmay _ _) fun A h2=>Pt.cond (fun _=>?_) fun _=>?_
 ·have k:=h1.trans h2 fun h _=>h
  refine Pt.bind (wexpr (k.gl g)) fun q f=>Pt.bind (weat _ _) fun s i=>?_
  have n:=(k.trans f And.intro).trans i fun h _=>h
  refine Pt.bind (wexpr (n.gl g)) fun B t=>Pt.bind (weat _ _) fun C u=>Pt.ret ?_
  have c:=(n.trans t And.intro).trans u fun h _=>h
  refine ⟨c.l,c.o,c.v,fun e=>?_⟩;obtain ⟨w,⟨y,n2⟩,z⟩:=c.e e;exact ⟨w,.put _ _ _ _ _ y n2 z⟩
 refine Pt.bind (weat _ _) fun q f=>?_
 have j:=(h1.trans h2 fun h _=>h).trans f fun h _=>h
 refine Pt.bind (wassign (j.gl g) (a:=⟨0,p.1,ByteArray.empty,[],[],[],at_⟩) (fun e=>(j.e e).2) rfl rfl rfl rfl d) fun s i=>Pt.ret ?_
 exact j.trans i fun _ h=>h
theorem wtest {m:Kg}(g:GLv m.gL):Pt (Kbq m) fun r=>GV m (∃ e,r.1=[e]∧VX e) r.2:=by
 unfold Kbq;refine Pt.bind (weat m _) fun b h1=>Pt.bind (wexpr (h1.gl g)) fun c h2=>Pt.bind (weat _ _) fun d a=>Pt.ret ?_
 exact ((h1.trans h2 fun _ h=>h).trans a fun h _=>h).imp fun h=>⟨_,rfl,h⟩
theorem wblk {one:Kg→Option (Kj×Kg)}{m:Kg}{d:Nat}(hone:∀ {r},r.gL=m.gL→r.gm=m.gm→m.gE=0→Pt (one r) fun q=>GV r (VS d q.1) q.2){F:List Kj×List KB×Int×Int×Int×Int→Option (Step (List Kj×List KB×Int×Int×Int×Int) (List Kj×List KB×Int×Int×Int×Int))}
  (hF:∀ a,F a=(Option.bind (α:=Bool×List KB×Int×Int×Int×Int) (bif (a.2.2.2.1==(0:Int)) then ((KY (⟨a.2.1,a.2.2.1,a.2.2.2.1,a.2.2.2.2.1,a.2.2.2.2.2⟩:Kg) qZ17).bind fun c=>some ((!c.1),c.2.gL,c.2.gb,c.2.gE,c.2.gn,c.2.gm)) else some (false,a.2.1,a.2.2.1,a.2.2.2.1,a.2.2.2.2.1,a.2.2.2.2.2)) fun b=>(bif b.1 then ((one (⟨b.2.1,b.2.2.1,b.2.2.2.1,b.2.2.2.2.1,b.2.2.2.2.2⟩:Kg)).bind fun f=>((app 120 a.1 ([f.1]:List Kj)).bind fun g=>some (.next (g,f.2.gL,f.2.gb,f.2.gE,f.2.gn,f.2.gm)))) else some (.done (a.1,b.2.1,b.2.2.1,b.2.2.2.1,b.2.2.2.2.1,b.2.2.2.2.2))))) :
  Pt (loopM F (([]:List Kj),m.gL,m.gb,m.gE,m.gn,m.gm)) fun s=>GV m (VSs d s.1) ⟨s.2.1,s.2.2.1,s.2.2.2.1,s.2.2.2.2.1,s.2.2.2.2.2⟩:=by
 refine Pt.loop (fun s:List Kj×List KB×Int×Int×Int×Int=>GV m (VSs d s.1) ⟨s.2.1,s.2.2.1,s.2.2.2.1,s.2.2.2.2.1,s.2.2.2.2.2⟩) ((GV.refl m).imp fun _=>.nil _) fun s hs=>?_
 rw [hF];refine Pt.bind (P:=fun y:Bool×List KB×Int×Int×Int×Int=>GV m (VSs d s.1) ⟨y.2.1,y.2.2.1,y.2.2.2.1,y.2.2.2.2.1,y.2.2.2.2.2⟩∧(y.1=true→s.2.2.2.1=0)) (Pt.cond (fun he=>Pt.bind (wmay _ _) fun x hx=>Pt.ret ⟨hs.trans hx fun h _=>h,fun _=>by simpa using he⟩) fun _=>Pt.ret ⟨hs,fun h=>(by cases h)⟩) fun y hy=>Pt.cond (fun k=>?_) fun _=>Pt.ret hy.1
 have i:=(hs.e (hy.2 k)).1;refine Pt.bind (hone hy.1.l hy.1.o i) fun x hx=>Pt.bind (P:=fun l=>l=s.1++[x.1]) (fun l e=>(KeL e).1) fun l hl=>Pt.ret ?_
 subst hl;exact hy.1.trans hx fun h1 h2=>vss_append h1 h2
theorem wopen {m:Kg}{o:Nat}(ho:m.gm=(o:Int)){β:Type}{f:List KB×Int×Int×Int×Int→Option β}{Q:β→Prop}(g:∀ y:List KB×Int×Int×Int×Int,GV m (o+1≤24) ⟨y.1,y.2.1,y.2.2.1,y.2.2.2.1,y.2.2.2.2⟩→Pt (f y) Q) :
  Pt ((KQ m qZ14).bind fun a=>(Option.bind (α:=List KB×Int×Int×Int×Int) (bif (decide ((24:Int)≤a.gm)) then ((Kaz a m.gb (5:Int)).bind fun b=>some (b.gL,b.gb,b.gE,b.gn,b.gm)) else some (a.gL,a.gb,a.gE,a.gn,a.gm)) f)) Q:=by
 refine Pt.bind (weat m _) fun a h1=>Pt.bind (P:=fun y:List KB×Int×Int×Int×Int=>GV m (o+1≤24) ⟨y.1,y.2.1,y.2.2.1,y.2.2.2.1,y.2.2.2.2⟩) (Pt.cond (fun _=>Pt.bind (wfail (by decide)) fun r hr=>Pt.ret (h1.trans (.bad hr) (Q:=o+1≤24) fun _ h=>h)) fun k=>Pt.ret ((h1.imp fun _=>?_))) fun y hy=>g y hy
 have:=of_decide_eq_false k;have:=h1.o;omega
theorem stv:∀ N:Nat,(∀ (m:Kg) (o:Nat),GLv m.gL→m.gm=(o:Int)→o≤24→Pt ((SG N).1 m) fun r=>GV m (VS (24 - o) r.1) r.2)∧(∀ (m:Kg) (o:Nat),GLv m.gL→m.gm=(o:Int)→o≤24→Pt ((SG N).2 m) fun r=>GV m (o+1≤24∧VSs (24 - (o+1)) r.1) r.2)
 | 0=>⟨fun _ _ _ _ _ r e=>(by cases e),fun _ _ _ _ _ r e=>(by cases e)⟩
 |
  N+1=>by
  obtain ⟨iS,iB⟩:=stv N;refine ⟨fun m o g ho p=>?_,fun m o g ho p=>?_⟩
  ·show Pt (Ka1 (SG N).1 (SG N).2 m) _
   unfold Ka1;refine Pt.bind (wlook g 0) fun t _=>Pt.cond (fun _=>Pt.bind (wnamed g _ _) fun x hx=>Pt.ret hx) fun _=>Pt.bind (wmay m _) fun F u=>Pt.cond (fun _=>?_) fun _=>Pt.bind (wmay _ _) fun A h2=>?_
   ·refine Pt.bind (wname (u.gl g)) fun A h2=>Pt.bind (weat _ _) fun w j=>?_
    have a:=(u.trans h2 fun _ h=>h).trans j fun h _=>h
    refine Pt.bind (wexpr (a.gl g)) fun q b=>Pt.bind (weat _ _) fun k c=>Pt.ret ?_
    exact ((a.trans b And.intro).trans c fun h _=>h).imp fun h=>.store _ _ _ _ h.1 h.2
   have z:GV m True A.2:=u.trans h2 fun _ h=>h
   refine Pt.cond (fun _=>?_) fun _=>Pt.bind (wmay _ _) fun w j=>?_
   ·refine Pt.bind (wtest (z.gl g)) fun w j=>?_
    have a:=z.trans j fun _ h=>h
    refine Pt.bind (iB _ o (a.gl g) (a.o.trans ho) p) fun q b=>Pt.bind (wmay _ _) fun k c=>?_
    have f:=(a.trans b And.intro).trans c fun h _=>h
    refine Pt.cond (fun _=>Pt.bind (iB _ o (f.gl g) (f.o.trans ho) p) fun B n=>Pt.ret ((f.trans n And.intro).imp fun h=>?_)) fun _=>Pt.ret (f.imp fun h=>?_)
    ·obtain ⟨⟨⟨e,he,ve⟩,h1,h2⟩,j,b⟩:=h;rw [he,show 24 - o=(24 - (o+1))+1 by omega];exact .ite _ _ _ _ _ ve h2 b
    obtain ⟨⟨e,he,ve⟩,h1,h2⟩:=h;rw [he,show 24 - o=(24 - (o+1))+1 by omega];exact .ite _ _ _ _ _ ve h2 (.nil _)
   have a:GV m True w.2:=z.trans j fun _ h=>h
   refine Pt.cond (fun _=>?_) fun _=>Pt.bind (wmay _ _) fun q b=>?_
   ·refine Pt.bind (wtest (a.gl g)) fun q b=>?_
    have i:=a.trans b fun _ h=>h
    refine Pt.bind (iB _ o (i.gl g) (i.o.trans ho) p) fun k c=>Pt.ret ((i.trans c And.intro).imp fun h=>?_)
    obtain ⟨⟨e,he,ve⟩,h1,h2⟩:=h;rw [he,show 24 - o=(24 - (o+1))+1 by omega];exact .loop _ _ _ _ ve h2
   have i:GV m True q.2:=a.trans b fun _ h=>h
   refine Pt.cond (fun _=>?_) fun _=>Pt.bind (wmay _ _) fun k c=>?_
   ·refine Pt.bind (wexpr (i.gl g)) fun k c=>Pt.bind (weat _ _) fun B n=>Pt.ret ?_
    exact ((i.trans c fun _ h=>h).trans n fun h _=>h).imp fun h=>.ret _ _ _ h
   have f:GV m True k.2:=i.trans c fun _ h=>h
   refine Pt.cond (fun _=>?_) fun _=>?_
   ·refine Pt.bind (wtest (f.gl g)) fun B n=>Pt.bind (weat _ _) fun G C=>Pt.ret ?_
    refine ((f.trans n fun _ h=>h).trans C fun h _=>h).imp fun h=>?_
    obtain ⟨e,he,ve⟩:=h;rw [he];exact .assert _ _ _ ve
   exact Pt.bind (wfail (by decide)) fun r hr=>Pt.ret (f.trans (Q:=VS (24 - o) _) (.bad hr) fun _ h=>h)
  show Pt (KaX (SG N).1 (SG N).2 m) _
  unfold KaX grammar_nothing;refine wopen ho fun y hy=>?_
  rw [Option.bind_some];have hyo:=hy.o;simp only at hyo;have hw:IntKind.i64.wrap (y.2.2.2.2+1)=((o+1:Nat):Int):=by rw [hyo,ho,IntKind.wrap_i64];omega
  refine Pt.bind (wblk (m:=⟨y.1,y.2.1,y.2.2.1,y.2.2.2.1,IntKind.i64.wrap (y.2.2.2.2+1)⟩) (d:=24 - (o+1)) (fun {r} hl hr he=>iS r (o+1) (by rw [hl];exact hy.gl g) (by rw [hr];exact hw) (hy.e he).2) (fun _=>rfl)) fun s hs=>Pt.ret ⟨hs.l.trans hy.l,?_,hs.v.trans hy.v,fun e=>?_⟩
  ·have:=hs.o;simp only at this ⊢;rw [this,hw,ho,IntKind.wrap_i64];omega
  obtain ⟨D,h1⟩:=hs.e e;obtain ⟨E,h2⟩:=hy.e D;exact ⟨E,h2,h1⟩
theorem wstmt {m:Kg}{o:Nat}(g:GLv m.gL)(ho:m.gm=(o:Int))(a:o≤24):Pt (KcZ m) fun r=>GV m (VS (24 - o) r.1) r.2:=fun r e=>by
 obtain ⟨n,hn⟩:=Kc4 e;exact (stv n).1 m o g ho a r hn
theorem wlocals {m:Kg}(g:GLv m.gL)(f:KG)(hf:f.gh=[]):Pt (Kbc f m) fun r=>GW m r.2.gh r.1∧r.2.ga=f.ga∧r.2.gf=f.gf:=by
 unfold Kbc;refine Pt.bind (P:=fun s:List KB×Int×Int×Int×Int×List K3=>GW m s.2.2.2.2.2 ⟨s.1,s.2.1,s.2.2.1,s.2.2.2.1,s.2.2.2.2.1⟩) ?_ fun s hs=>Pt.ret ⟨hs,rfl,rfl⟩
 refine Pt.loop (fun s:List KB×Int×Int×Int×Int×List K3=>GW m s.2.2.2.2.2 ⟨s.1,s.2.1,s.2.2.1,s.2.2.2.1,s.2.2.2.2.1⟩) (by simp only;rw [hf];exact (GV.refl m).w) fun s hs=>?_
 refine Pt.bind Pt.any fun b _=>Pt.cond (fun _=>Pt.bind (wvar (m:=⟨s.1,s.2.1,s.2.2.1,s.2.2.2.1,s.2.2.2.2.1⟩) (hs.gl g)) fun x hx=>Pt.bind (P:=fun l=>l=s.2.2.2.2.2++[x.1]) (fun l e=>(KeL e).1) fun l hl=>Pt.bind (weat _ _) fun y hy=>Pt.ret ?_) fun _=>Pt.ret hs
 subst hl;exact (hs.trans hx).gv hy
theorem wfunction {m:Kg}(g:GLv m.gL)(ho:m.gm=0)(hv:m.gn=0):Pt (Kba m) fun r=>r.2.gE=0→NmOK r.1.ga∧(∀ v∈r.1.gf,NmOK v.ga)∧(∀ v∈r.1.gh,NmOK v.ga)∧r.1.gf.length+r.1.gh.length≤16∧VSs 23 r.1.gp:=by
 unfold Kba;refine Pt.bind (wlook g 0) fun t _=>Pt.bind (weat m _) fun K h1=>Pt.bind (wname (h1.gl g)) fun x h2=>?_
 have n:=h1.trans h2 fun _ h=>h
 refine Pt.bind (wlistV (n.gl g)) fun c p=>?_
 have f:=n.w.trans p;rw [List.nil_append] at f;refine Pt.bind (P:=fun a:List Kj×Kg×KG=>a.2.1.gE=0→c.2.gE=0∧a.2.2.ga=x.1∧a.2.2.gf=c.1∧GW m (c.1++a.2.2.gh) ⟨a.2.1.gL,a.2.1.gb,a.2.1.gE,((c.1++a.2.2.gh).length:Int),0⟩∧(c.1++a.2.2.gh).length≤16∧VSs 23 a.1) ?_ fun a A=>?_
 ·unfold Kcq;have q:c.2.gm=((0:Nat):Int):=f.o.trans ho;refine wopen q fun y hy=>?_
  have hyo:=hy.o;simp only at hyo;have hw:IntKind.i64.wrap (y.2.2.2.2+1)=((1:Nat):Int):=by rw [hyo,q,IntKind.wrap_i64];omega
  refine Pt.bind (wlocals (m:=⟨y.1,y.2.1,y.2.2.1,y.2.2.2.1,IntKind.i64.wrap (y.2.2.2.2+1)⟩) (hy.gl (f.gl g)) _ rfl) fun z hz=>?_
  obtain ⟨hz,B,C⟩:=hz;have zo:=hz.o;simp only at zo;refine Pt.bind (wblk (m:=z.1) (d:=23) (fun {r} hl hr he=>wstmt (o:=1) (by rw [hl];exact hz.gl (hy.gl (f.gl g))) (by rw [hr,zo];exact hw) (by omega)) (fun _=>rfl)) fun s hs=>Pt.ret fun e=>?_
  obtain ⟨i,D⟩:=hs.e e;obtain ⟨j,E,u⟩:=hz.e i;obtain ⟨k,L⟩:=hy.e j;obtain ⟨F,G,H⟩:=f.e k;simp only at i j k u;obtain ⟨c1,c2⟩:=H (by omega) (by omega);have hyv:=hy.v;simp only at hyv;obtain ⟨c3,c4⟩:=u (by rw [hyv];omega) (by rw [hyv];exact c2);have cnt:(c.1++z.2.gh).length≤16:=by rw [List.length_append];omega
  refine ⟨k,B,C,⟨?_,?_,fun _=>⟨F,fun v hv'=>?_,fun _ _=>⟨?_,?_⟩⟩⟩,cnt,D⟩
  ·exact (hs.l.trans hz.l).trans (hy.l.trans f.l)
  ·exact ho.symm
  ·rcases List.mem_append.1 hv' with h|h
   ·exact G v h
   exact E v h
  ·simp only;omega
  simp only;omega
 have fin:a.2.1.gE=0→NmOK a.2.2.ga∧(∀ v∈a.2.2.gf,NmOK v.ga)∧(∀ v∈a.2.2.gh,NmOK v.ga)∧a.2.2.gf.length+a.2.2.gh.length≤16∧VSs 23 a.1:=fun e=>by
  obtain ⟨i,I,n2,J,n4,n5⟩:=A e;obtain ⟨_,n6,_⟩:=J.e e;obtain ⟨j,_,_⟩:=p.e i;rw [I,n2];rw [List.length_append] at n4;exact ⟨(h2.e j).2,fun v hv=>n6 v (by simp [hv]),fun v hv=>n6 v (by simp [hv]),n4,n5⟩
 refine Pt.bind Pt.any fun b _=>Pt.cond (fun _=>Pt.bind (wfail (by decide)) fun r hr=>Pt.ret fun e=>absurd e hr.2.2.2) fun _=>Pt.ret fin
theorem vtext {A:Type}{b:List UInt8}{none_:A}{of:List KB→Int→Option (A×Int×Int)}{P:A→Prop}(hof:∀ l:List KB,GLv l→Pt (of l 0) fun r=>r.2.2=0→P r.1) :
  Pt ((Kc2 b).bind fun a=>(bif (a.2.2 != (0:Int)) then some (none_,a.2.1,a.2.2) else ((of a.1 (0:Int)).bind fun c=>((idx a.1 (min c.2.1 (IntKind.i64.wrap ((a.1.length:Int) - (1:Int))))).bind fun d=>(bif (c.2.2 != (0:Int)) then some (none_,d.gb,c.2.2) else (bif (d.gt != (0:Int)) then some (none_,d.gb,(3:Int)) else some (c.1,(0:Int),(0:Int)))))))) fun r=>r.2.2=0→P r.1:=by
 refine Pt.bind (vread b) fun x hx=>Pt.cond (fun e=>Pt.ret fun h=>?_) fun e=>Pt.bind (hof x.1 (hx (by simpa using e))) fun y hy=>Pt.bind Pt.any fun t _=>Pt.cond (fun e=>Pt.ret fun h=>?_) fun e=>Pt.cond (fun _=>Pt.ret (fun h=>by cases h)) fun _=>Pt.ret fun _=>hy (by simpa using e)
 ·simp at e;exact absurd h e
 simp at e;exact absurd h e
theorem vfunc (b:List UInt8):T (Kbs b) fun r=>r.2.2=0→VF r.1:=by
 obtain ⟨f,a,e,h1,h2⟩:=readsF b;refine T.eq h1 fun h=>?_
 have key:Pt (Kbs b) fun r=>r.2.2=0→NmOK r.1.ga∧(∀ v∈r.1.gf,NmOK v.ga)∧(∀ v∈r.1.gh,NmOK v.ga)∧r.1.gf.length+r.1.gh.length≤16∧VSs 23 r.1.gp:=by
  unfold Kbs KcF;refine Pt.bind (vtext (P:=fun f=>NmOK f.ga∧(∀ v∈f.gf,NmOK v.ga)∧(∀ v∈f.gh,NmOK v.ga)∧f.gf.length+f.gh.length≤16∧VSs 23 f.gp) fun l g=>?_) fun x hx=>Pt.ret hx
  unfold KeD Kc3;refine Pt.bind (P:=fun r:Kg×Bool=>r.1=⟨l,0,0,0,0⟩) (Pt.cond (fun _=>Pt.ret rfl) fun _=>Pt.ret rfl) fun x hx=>Pt.cond (fun _=>Pt.ret fun h=>by cases h) fun _=>?_
  rw [hx];refine Pt.bind (wfunction g rfl rfl) fun r hr=>Pt.cond (fun e=>Pt.ret fun h=>?_) fun e=>Pt.ret fun _=>hr (by simpa using e)
  simp at e;exact absurd h e
 obtain ⟨c,n2,d,n4,n5⟩:=key _ h1 h;exact ⟨c,n2,d,n4,n5,(h2 h).2.2⟩
theorem wglobal {m:Kg}(g:GLv m.gL):Pt (Kcd m) fun r=>r.2.gE=0→VG r.1:=by
 unfold Kcd;refine Pt.bind (wlook g 0) fun t _=>Pt.bind (weat m _) fun n h1=>Pt.bind (wmay _ _) fun c h2=>?_
 have d:=h1.trans h2 fun _ h=>h
 refine Pt.bind (wname (d.gl g)) fun a i=>?_
 have f:=d.trans i fun _ h=>h
 refine Pt.bind (P:=fun y:Bool×List KB×Int×Int×Int×Int=>GV m (NmOK a.1) ⟨y.2.1,y.2.2.1,y.2.2.2.1,y.2.2.2.2.1,y.2.2.2.2.2⟩∧(c.1=true→y.1=false)) (Pt.cond (fun k=>Pt.bind (wmay _ _) fun x hx=>Pt.ret ⟨f.trans hx fun h _=>h,fun h=>?_⟩) fun _=>Pt.ret ⟨f,fun _=>rfl⟩) fun y hy=>?_
 ·rw [h] at k;cases k
 refine Pt.bind (P:=fun z:List KB×Int×Int×Int×Int×Int=>GV m (NmOK a.1) ⟨z.1,z.2.1,z.2.2.1,z.2.2.2.1,z.2.2.2.2.1⟩∧(c.1=true→z.2.2.2.2.2=0)∧0≤z.2.2.2.2.2∧z.2.2.2.2.2≤1000) (Pt.cond (fun k=>?_) fun _=>Pt.ret ⟨hy.1,fun _=>rfl,by simp,by simp⟩) fun z hz=>Pt.bind (weat _ _) fun r hr=>Pt.ret fun e=>?_
 ·have j:c.1=true→False:=fun h=>by rw [hy.2 h] at k;cases k
  refine Pt.bind (wlook (m:=⟨y.2.1,y.2.2.1,y.2.2.2.1,y.2.2.2.2.1,y.2.2.2.2.2⟩) (hy.1.gl g) 0) fun t _=>?_
  refine Pt.bind (P:=fun z:List KB×Int×Int×Int×Int×Int=>GV m (NmOK a.1) ⟨z.1,z.2.1,z.2.2.1,z.2.2.2.1,z.2.2.2.2.1⟩∧0≤z.2.2.2.2.2∧z.2.2.2.2.2≤1000) (Pt.bind (P:=fun z:List KB×Int×Int×Int×Int×Int=>GV m (NmOK a.1) ⟨z.1,z.2.1,z.2.2.1,z.2.2.2.1,z.2.2.2.2.1⟩∧0≤z.2.2.2.2.2∧z.2.2.2.2.2≤1000) (Pt.cond (fun _=>?_) fun _=>?_) fun z hz=>Pt.ret hz) fun z hz=>Pt.bind (weat _ _) fun r hr=>Pt.ret ⟨hz.1.trans hr fun h _=>h,fun h=>(j h).elim,hz.2⟩
  ·exact Pt.bind (wfail (by decide)) fun r hr=>Pt.ret ⟨hy.1.trans (Q:=True) (.bad hr) fun h _=>h,by simp,by simp⟩
  refine Pt.bind (P:=fun b=>b=false→1≤t.gN∧t.gN≤1000) (Pt.cond (fun _=>Pt.ret (by simp)) fun k1=>Pt.ret fun k2=>?_) fun b hb=>Pt.bind (P:=fun z:List KB×Int×Int×Int×Int×Int=>GV m (NmOK a.1) ⟨z.1,z.2.1,z.2.2.1,z.2.2.2.1,z.2.2.2.2.1⟩∧0≤z.2.2.2.2.2∧z.2.2.2.2.2≤1000) (Pt.cond (fun _=>?_) fun k=>Pt.ret ⟨⟨hy.1.l,hy.1.o,hy.1.v,hy.1.e⟩,?_⟩) fun z hz=>Pt.ret hz
  ·have:=of_decide_eq_false k1;have:=of_decide_eq_false k2;omega
  ·exact Pt.bind (wfail (by decide)) fun r hr=>Pt.ret ⟨hy.1.trans (Q:=True) (.bad hr) fun h _=>h,by simp,by simp⟩
  obtain ⟨p,n2⟩:=hb k;show 0≤t.gN∧t.gN≤1000
  omega
 exact ⟨(hz.1.e (hr.e e).1).2,hz.2.1,hz.2.2.1,hz.2.2.2⟩
theorem vglobal (b:List UInt8):T (KbX b) fun r=>r.2.2=0→VG r.1:=by
 obtain ⟨f,a,e,h1⟩:=readsG b;refine T.eq h1 ?_;have key:Pt (KbX b) fun r=>r.2.2=0→VG r.1:=by
  unfold KbX KcS;refine Pt.bind (vtext (P:=VG) fun l g=>?_) fun x hx=>Pt.ret hx
  unfold KeE Kc3;refine Pt.bind (P:=fun r:Kg×Bool=>r.1=⟨l,0,0,0,0⟩) (Pt.cond (fun _=>Pt.ret rfl) fun _=>Pt.ret rfl) fun x hx=>Pt.cond (fun _=>Pt.ret fun h=>by cases h) fun _=>?_
  rw [hx];refine Pt.bind (wglobal g) fun r hr=>Pt.cond (fun e=>Pt.ret fun h=>?_) fun e=>Pt.ret fun _=>hr (by simpa using e)
  simp at e;exact absurd h e
 exact key _ h1
end
section
open Go
abbrev dl (b:ByteArray):List UInt8:=b.data.toList
theorem dl_app (a b:ByteArray):dl (a++b)=dl a++dl b:=by show (a++b).data.toList=_;rw [ByteArray.data_append,Array.toList_append]
theorem dl_size (a:ByteArray):(dl a).length=a.size:=by show a.data.toList.length=a.data.size;rw [Array.length_toList]
theorem T.cat {a b:ByteArray}{x y:List UInt8}(ha:dl a=x)(hb:dl b=y)(h:x.length+y.length≤100000000000000):T (catS a b) fun r=>dl r=x++y:=by
 have h1:=dl_size a;have h2:=dl_size b
 rw [ha] at h1;rw [hb] at h2;exact T.eq (catS_of (by omega)) (by rw [dl_app,ha,hb])
theorem dd_len:∀ (k u:Nat),u < 10 ^ (k+1)→(Lib.decDigits u).length≤k+1
 | 0,u,h=>by rw [Lib.decDigits,dif_pos (by omega)];simp
 |
  k+1,u,h=>by
  rw [Lib.decDigits];by_cases h1:u < 10
  ·rw [dif_pos h1];simp
  rw [dif_neg h1];have:=dd_len k (u / 10) (by rw [Nat.pow_succ] at h;omega);simp only [List.length_append,List.length_singleton];omega
theorem KkG {n:Int}(h0:0≤n)(h1:n≤9223372036854775807):(dl (itoaB n)).length≤20:=by
 show (itoaB n).data.toList.length≤20
 rw [KhM h0];exact dd_len 19 _ (by
  have:n.toNat≤9223372036854775807:=by omega
  omega)
theorem tl_mk (s:ByteArray)(l:List Pc):(txts (mk s::l)).length=(dl s).length+(txts l).length:=by simp [KcW,Pc.txt]
theorem tl_nm (s:ByteArray)(l:List Pc):(txts (nm s::l)).length=(dl s).length+(txts l).length:=by simp [KcW,Pc.txt]
theorem tl_nb (n:Int)(l:List Pc):(txts (nb n::l)).length=(dl (itoaB n)).length+(txts l).length:=by simp [KcW,Pc.txt]
theorem tl_sp (c:UInt8)(l:List Pc):(txts (.sp c::l)).length=1+(txts l).length:=by simp [KcW,Pc.txt];omega
theorem Kbu (a b:List Pc):(txts (a++b)).length=(txts a).length+(txts b).length:=by rw [Kdc,List.length_append]
theorem Kb6:(txts []).length=0:=rfl
theorem KgY (k:Nat)(x:Nat×List Pc):(txts (kdp k x)).length≤(txts x.2).length+2:=by
 unfold kdp;split
 ·rw [tl_mk,Kbu,tl_mk,Kb6];show 1+((txts x.2).length+(1+0))≤_
  omega
 omega
theorem NmOK.len {s:ByteArray}(h:NmOK s):(dl s).length≤20:=h.al.le
theorem sgn_len (op:Int):(dl (sgn op)).length≤2:=by
 unfold sgn;repeat' split
 all_goals decide
theorem KcK {e:Ke}(h:VE e):(txts (pE e)).length≤25*szE e:=by
 induction h with
 | num n a h0 h1=>show (txts [nb n]).length≤25*szE _;rw [tl_nb,Kb6,szE_1];have:=KkG h0 h1;omega
 | var s a h=>show (txts [nm s]).length≤25*szE _;rw [tl_nm,Kb6,szE_1];have:=h.len;omega
 | null a=>rw [szE_1];show 4≤_;omega
 | load s a h=>show (txts [mk ⟨#[42]⟩,nm s]).length≤25*szE _;rw [tl_mk,tl_nm,Kb6,szE_1];have:=h.len;show 1+_≤_;omega
 | addr s a h=>show (txts [mk ⟨#[38]⟩,nm s]).length≤25*szE _;rw [tl_mk,tl_nm,Kb6,szE_1];have:=h.len;show 1+_≤_;omega
 |
  index s k a h _ ih=>
  show (txts (nm s::mk ⟨#[91]⟩::(pE k++[mk ⟨#[93]⟩]))).length≤_
  rw [tl_nm,tl_mk,Kbu,tl_mk,Kb6,Kfd];have:=h.len;simp only [szEs];show _+(1+(_+(1+0)))≤_;omega
 |
  addrAt s k a h _ ih=>
  show (txts (mk ⟨#[38]⟩::nm s::mk ⟨#[91]⟩::(pE k++[mk ⟨#[93]⟩]))).length≤_
  rw [tl_mk,tl_nm,tl_mk,Kbu,tl_mk,Kb6,Kfd];have:=h.len;simp only [szEs];show 1+(_+(1+(_+(1+0))))≤_;omega
 |
  neg k a _ ih=>
  show (txts (mk ⟨#[45]⟩::pKd 6 k)).length≤_
  rw [tl_mk,Kfd];have:=KgY 6 (lev k.gj,pE k);simp only [szEs];show 1+(txts (kdp 6 (lev k.gj,pE k))).length≤_
  simp only at this;omega
 |
  not k a _ ih=>
  show (txts (mk ⟨#[33]⟩::pKd 6 k)).length≤_
  rw [tl_mk,Kfd];have:=KgY 6 (lev k.gj,pE k);simp only [szEs];show 1+(txts (kdp 6 (lev k.gj,pE k))).length≤_
  simp only at this;omega
 |
  bin op l r a hl _ _ b c=>
  rw [pE_bin hl,Kbu,tl_sp,tl_mk,tl_sp,Kfd];have h1:(txts (pKd (lev op) l)).length≤(txts (pE l)).length+2:=KgY _ _;have h2:(txts (pKd (lev op+1) r)).length≤(txts (pE r)).length+2:=KgY _ _;have:=sgn_len op;simp only [szEs]
  omega
theorem sign_is (op:Int):KcB op=some (sgn op,(lev op:Int),decide (lev op < 6)):=by
 have key:∀ k:Int,op=k→KcB k=some (sgn k,(lev k:Int),decide (lev k < 6))→KcB op=some (sgn op,(lev op:Int),decide (lev op < 6)):=fun k e h=>by rw [e];exact h
 by_cases h:lev op < 6
 ·rcases KgX h with h|h|h|h|h|h|h|h|h|h|h<;>exact key _ h rfl
 have hn:op ≠ 7∧op ≠ 8∧op ≠ 9∧op ≠ 10∧op ≠ 11∧op ≠ 12∧op ≠ 13∧op ≠ 14∧op ≠ 15∧op ≠ 16∧op ≠ 17:=by
  refine ⟨?_,?_,?_,?_,?_,?_,?_,?_,?_,?_,?_⟩<;>(intro e;subst e;exact h (by decide))
 have d:lev op=6:=by have:=lev_lt ⟨op,0,ByteArray.empty,[],0⟩;simp only at this;omega
 obtain ⟨a,n2,b,n4,n5,n6,n7,n8,n9,n10,n11⟩:=hn;rw [d];have f:∀ c:Int,op ≠ c→(op==c)=false:=fun c h=>beq_eq_false_iff_ne.2 h
 unfold KcB sgn;rw [f 7 a,f 8 n2,f 9 b,f 10 n4,f 11 n5,f 12 n6,f 13 n7,f 14 n8,f 15 n9,f 16 n10,f 17 n11,if_neg a,if_neg n2,if_neg b,if_neg n4,if_neg n5,if_neg n6,if_neg n7,if_neg n8,if_neg n9,if_neg n10,if_neg n11];rfl
theorem needs_is {op:Int}(h:lev op < 6):Kdu op=some 2:=by
 rcases KgX h with rfl|rfl|rfl|rfl|rfl|rfl|rfl|rfl|rfl|rfl|rfl<;>rfl
abbrev EG (N:Nat):=KaE N
theorem prE:∀ N:Nat,(∀ e,VE e→szE e≤1048576→2*dpE e≤N→T ((EG N).1 e) fun r=>dl r=txts (pE e))∧(∀ e (k:Nat),VE e→k≤6→szE e≤1048576→2*dpE e+1≤N→T ((EG N).2 e (k:Int)) fun r=>dl r=txts (pKd k e))
 | 0=>⟨fun e _ _ h=>by have:=Ken e;omega,fun e k _ _ _ h=>by omega⟩
 |
  N+1=>by
  obtain ⟨iE,iK⟩:=prE N;refine ⟨fun e h hs hN=>?_,fun e k h hk hs hN=>?_⟩
  ·show T (KdA (EG N).1 (EG N).2 e) _
   have hlen:=KcK h;have hsz:=Kfy e;have hdp:=Ken e;unfold KdA;cases h with
   |
    num n a h0 h1=>
    rw [show Kdu 1=some 0 from rfl,Option.bind_some];refine T.cond (fun h=>by cases h) fun _=>?_
    rw [show KcB 1=some (ByteArray.mk #[],6,false) from rfl,Option.bind_some];show T ((need (Kgo n)).bind fun z=>some (itoaB n)) _
    have:Kgo n=true:=by simp [Kgo];omega
    rw [this];exact T.ret (by simp [txts,pE,pKs,rE,Pc.txt])
   | var s a h=>exact T.ret (by simp [txts,pE,pKs,rE,Pc.txt])
   | null a=>exact T.ret (by simp [txts,pE,pKs,rE,Pc.txt])
   |
    load s a h=>
    show T ((catS qZ16 s).bind fun x=>some x) _
    exact T.bind (T.cat (x:=[42]) rfl rfl (by have:=h.len;simp [dl] at this ⊢;omega)) fun r hr=>T.ret (by simpa [txts,pE,pKs,rE,Pc.txt] using hr)
   |
    addr s a h=>
    show T ((catS (ByteArray.mk #[38]) s).bind fun x=>some x) _
    exact T.bind (T.cat (x:=[38]) rfl rfl (by have:=h.len;simp [dl] at this ⊢;omega)) fun r hr=>T.ret (by simpa [txts,pE,pKs,rE,Pc.txt] using hr)
   |
    index s k a h hk=>
    have hkl:=KcK hk;have hsk:szE k≤1048576:=by simp only [szEs] at hsz;omega
    have hnl:=h.len;simp only [dpEs] at hdp;rw [show Kdu 3=some 1 from rfl,Option.bind_some];refine T.cond (fun h=>by cases h) fun _=>?_
    rw [show KcB 3=some (ByteArray.mk #[],6,false) from rfl,Option.bind_some];iterate 6 refine T.cond (fun h=>by cases h) fun _=>?_
    refine T.cond (fun _=>?_) fun h=>by cases h
    show T ((catS s qZ20).bind fun o=>((idx [k] (0:Int)).bind fun d=>(((EG N).1 d).bind fun f=>((catS o f).bind fun g=>((catS g qZ21).bind fun p=>some p))))) _
    refine T.bind (T.cat (y:=[91]) rfl rfl (by simp only [List.length_singleton];omega)) fun q h1=>?_
    refine T.bind (P:=fun x=>x=k) (T.ret rfl) fun x hx=>?_
    subst hx;refine T.bind (iE x hk hsk (by omega)) fun i h2=>T.bind (T.cat h1 h2 (by simp only [List.length_append,List.length_singleton];omega)) fun m c=>T.bind (T.cat (y:=[93]) c rfl (by simp only [List.length_append,List.length_singleton];omega)) fun t j=>T.ret ?_
    rw [j];simp [txts,pE,pKs,rE,Pc.txt]
   |
    addrAt s k a h hk=>
    have hkl:=KcK hk;have hsk:szE k≤1048576:=by simp only [szEs] at hsz;omega
    have hnl:=h.len;simp only [dpEs] at hdp;rw [show Kdu 20=some 1 from rfl,Option.bind_some];refine T.cond (fun h=>by cases h) fun _=>?_
    rw [show KcB 20=some (ByteArray.mk #[],6,false) from rfl,Option.bind_some];iterate 7 refine T.cond (fun h=>by cases h) fun _=>?_
    refine T.cond (fun _=>?_) fun h=>by cases h
    show T ((catS (ByteArray.mk #[38]) s).bind fun u=>((catS u qZ20).bind fun o=>((idx [k] (0:Int)).bind fun d=>(((EG N).1 d).bind fun f=>((catS o f).bind fun g=>((catS g qZ21).bind fun p=>some p)))))) _
    refine T.bind (T.cat (x:=[38]) rfl rfl (by simp only [List.length_singleton];omega)) fun A h0=>T.bind (T.cat (y:=[91]) h0 rfl (by simp only [List.length_append,List.length_singleton];omega)) fun q h1=>?_
    refine T.bind (P:=fun x=>x=k) (T.ret rfl) fun x hx=>?_
    subst hx;refine T.bind (iE x hk hsk (by omega)) fun i h2=>T.bind (T.cat h1 h2 (by simp only [List.length_append,List.length_singleton];omega)) fun m c=>T.bind (T.cat (y:=[93]) c rfl (by simp only [List.length_append,List.length_singleton];omega)) fun t j=>T.ret ?_
    rw [j];simp [txts,pE,pKs,rE,Pc.txt]
   |
    neg k a hk=>
    have hkl:=KcK hk;have hsk:szE k≤1048576:=by simp only [szEs] at hsz;omega
    simp only [dpEs] at hdp;rw [show Kdu 5=some 1 from rfl,Option.bind_some];refine T.cond (fun h=>by cases h) fun _=>?_
    rw [show KcB 5=some (ByteArray.mk #[],6,false) from rfl,Option.bind_some];iterate 8 refine T.cond (fun h=>by cases h) fun _=>?_
    refine T.cond (fun _=>?_) fun h=>by cases h
    show T ((idx [k] (0:Int)).bind fun d=>(((EG N).2 d (6:Int)).bind fun f=>((catS qZ19 f).bind fun g=>some g))) _
    refine T.bind (P:=fun x=>x=k) (T.ret rfl) fun x hx=>?_
    subst hx;have h2:(txts (pKd 6 x)).length≤(txts (pE x)).length+2:=KgY _ _;refine T.bind (iK x 6 hk (by omega) hsk (by omega)) fun i h2=>T.bind (T.cat (x:=[45]) rfl h2 (by simp only [List.length_singleton];omega)) fun m c=>T.ret ?_
    rw [c];simp [txts,pE,pKs,rE,Pc.txt]
   |
    not k a hk=>
    have hkl:=KcK hk;have hsk:szE k≤1048576:=by simp only [szEs] at hsz;omega
    simp only [dpEs] at hdp;rw [show Kdu 6=some 1 from rfl,Option.bind_some];refine T.cond (fun h=>by cases h) fun _=>?_
    rw [show KcB 6=some (ByteArray.mk #[],6,false) from rfl,Option.bind_some];iterate 9 refine T.cond (fun h=>by cases h) fun _=>?_
    refine T.cond (fun _=>?_) fun h=>by cases h
    show T ((idx [k] (0:Int)).bind fun d=>(((EG N).2 d (6:Int)).bind fun f=>((catS qZ25 f).bind fun g=>some g))) _
    refine T.bind (P:=fun x=>x=k) (T.ret rfl) fun x hx=>?_
    subst hx;have h2:(txts (pKd 6 x)).length≤(txts (pE x)).length+2:=KgY _ _;refine T.bind (iK x 6 hk (by omega) hsk (by omega)) fun i h2=>T.bind (T.cat (x:=[33]) rfl h2 (by simp only [List.length_singleton];omega)) fun m c=>T.ret ?_
    rw [c];simp [txts,pE,pKs,rE,Pc.txt]
   |
    bin op l r a ho hl hr=>
    simp only [dpEs] at hdp;simp only [szEs] at hsz;rw [needs_is ho,Option.bind_some];refine T.cond (fun h=>by simp at h) fun _=>?_
    rw [sign_is op,Option.bind_some,decide_eq_true ho];refine T.cond (fun _=>?_) fun h=>by cases h
    refine T.bind (P:=fun x=>x=l) (T.ret rfl) fun x hx=>?_
    subst hx;have B:(txts (pKd (lev op) x)).length≤(txts (pE x)).length+2:=KgY _ _;have C:(txts (pKd (lev op+1) r)).length≤(txts (pE r)).length+2:=KgY _ _;have D:=sgn_len op;have E:=KcK hl;have F:=KcK hr
    refine T.bind (iK x (lev op) hl (by omega) (by omega) (by omega)) fun q h1=>T.bind (T.cat (y:=[32]) h1 rfl (by simp only [List.length_singleton];omega)) fun i h2=>T.bind (T.cat h2 rfl (by simp only [List.length_append,List.length_singleton];omega)) fun m c=>T.bind (T.cat (y:=[32]) c rfl (by simp only [List.length_append,List.length_singleton];omega)) fun t j=>T.bind (P:=fun x=>x=r) (T.ret rfl) fun y hy=>?_
    subst hy;have hw:IntKind.i64.wrap ((lev op:Int)+1)=((lev op+1:Nat):Int):=wn (by omega);show T ((KaE N).2 y (IntKind.i64.wrap ((lev op:Int)+1)) |>.bind _) _
    rw [hw];refine T.bind (iK y (lev op+1) hr (by omega) (by omega) (by omega)) fun G v=>T.bind (T.cat j v (by simp only [List.length_append,List.length_singleton];omega)) fun H w=>T.ret ?_
    rw [w,pE_bin ho];simp [txts,Pc.txt]
  show T (KdW (EG N).1 (EG N).2 e (k:Int)) _
  have hlen:=KcK h;unfold KdW;refine T.bind (iE e h hs (by omega)) fun r hr=>?_
  rw [sign_is,Option.bind_some];refine T.bind (P:=fun b=>b=decide (lev e.gj < k)) (T.cond (fun _=>T.ret (by simp)) fun h=>T.ret ?_) fun b hb=>?_
  ·have:=of_decide_eq_false h;exact (decide_eq_false (by omega)).symm
  subst hb;refine T.cond (fun h=>?_) fun h=>T.ret ?_
  ·refine T.bind (T.cat (x:=[40]) rfl hr (by simp only [List.length_singleton];omega)) fun q h1=>T.bind (T.cat (y:=[41]) h1 rfl (by simp only [List.length_append,List.length_singleton];omega)) fun i h2=>T.ret ?_
   rw [h2];show _=txts (kdp k (lev e.gj,pE e))
   rw [kd_in (of_decide_eq_true h)];simp [txts,Pc.txt]
  show dl r=txts (kdp k (lev e.gj,pE e))
  rw [kd_own (by have:=of_decide_eq_false h;simp only;omega)];exact hr
theorem prX {e:Ke}(h:VE e)(hs:szE e≤1048576):T (KbN e) fun r=>dl r=txts (pE e):=by
 obtain ⟨r,h1,h2⟩:=(prE (2*dpE e)).1 e h hs (Nat.le_refl _);exact ⟨r,KlM _ _ h1,h2⟩
end
section
open Go
theorem T.each {σ τ β:Type}{f:σ→Option (Step σ τ)}{Post:τ→Prop}(l:List β)(I:List β→σ→Prop){s:σ}(h0:I [] s)(h1:∀ pre x post s,l=pre++x::post→I pre s→T (f s) fun r=>∃ s',r=.next s'∧I (pre++[x]) s')(h2:∀ s,I l s→T (f s) fun r=>∃ t,r=.done t∧Post t):T (loopM f s) Post:=by
 have key:∀ (post pre:List β) (s:σ),l=pre++post→I pre s→T (loopM f s) Post:=by
  intro post;induction post with
  |
   nil=>
   intro pre s h hi;rw [List.append_nil] at h;subst h;obtain ⟨r,e,t,rfl,ht⟩:=h2 s hi;exact T.eq (KbA e) ht
  |
   cons x post ih=>
   intro pre s h hi;obtain ⟨r,e,s',rfl,hs⟩:=h1 pre x post s h hi;rw [KcM e];exact ih (pre++[x]) s' (by simp [h]) hs
 exact key l [] s rfl h0
theorem T.next {σ τ:Type}{P:σ→Prop}{s:σ}(h:P s):T (some (Step.next s:Step σ τ)) fun r=>∃ s',r=.next s'∧P s':=T.ret ⟨s,rfl,h⟩
theorem T.done {σ τ:Type}{P:τ→Prop}{t:τ}(h:P t):T (some (Step.done t:Step σ τ)) fun r=>∃ t',r=.done t'∧P t':=T.ret ⟨t,rfl,h⟩
theorem idxP {β:Type}{l pre:List β}{x:β}{post:List β}(h:l=pre++x::post):idx l (pre.length:Int)=some x:=by rw [h];exact KcN _ _ _
theorem KgJ {β:Type}{l pre:List β}{x:β}{post:List β}(h:l=pre++x::post):pre.length < l.length:=by subst h;simp
theorem Kkj:∀ L:List (List Pc),txts (KaM L)=Lib.join (L.map txts) [44,32]
 | []=>rfl
 | [x]=>by rw [List.map_singleton,Lib.join_one];rfl
 |
  x::y::l=>by
  have ih:=Kkj (y::l);simp only [List.map_cons] at ih ⊢;rw [Lib.join_cons] at ih ⊢;show txts (x++(mk ⟨#[44]⟩::.sp 32::KaM (y::l)))=_
  rw [Kdc,KcW,KcW,ih];simp [Lib.joinTail,Pc.txt]
theorem Kjo:∀ L:List (List Pc),(txts (KaM L)).length≤2*L.length+(L.map fun x=>(txts x).length).sum
 | []=>Nat.le_refl _
 | [x]=>by simp [KaM]
 |
  x::y::l=>by
  have ih:=Kjo (y::l);show (txts (x++(mk ⟨#[44]⟩::.sp 32::KaM (y::l)))).length≤_
  rw [Kbu,tl_mk,tl_sp];simp only [List.map_cons,List.sum_cons,List.length_cons] at ih ⊢;show _+(1+(1+_))≤_
  omega
theorem join_is {out:List ByteArray}{L:List (List Pc)}(h:out.map dl=L.map txts)(h1:L.length≤1048576)(h2:(txts (KaM L)).length≤100000000000):T ((need (Khy out qZ18)).bind fun a=>some (joinB out qZ18)) fun r=>dl r=txts (KaM L):=by
 have e:dl (joinB out qZ18)=txts (KaM L):=by
  rw [Kkj,← h];rfl
 have hl:out.length=L.length:=by simpa using congrArg List.length h
 have ok:Khy out qZ18=true:=by
  have:=dl_size (joinB out qZ18);rw [e] at this;simp only [Khy,Bool.and_eq_true,decide_eq_true_eq];omega
 rw [ok];exact T.ret e
theorem KfA {l:List Ke}(hv:∀ e∈l,VX e):(txts (KaM (l.map pE))).length≤27*szEs l:=by
 have:=Kjo (l.map pE);have hl:=Kfc l;have h2:((l.map pE).map fun x=>(txts x).length).sum≤25*szEs l:=by
  clear hl this;induction l with
  | nil=>simp
  |
   cons e l ih=>
   have:=ih (fun e he=>hv e (by simp [he]));have:=KcK (hv e (by simp)).1;simp only [List.map_cons,List.sum_cons,szEs];omega
 rw [List.length_map] at this;omega
theorem eachE_is {l:List Ke}(hv:∀ e∈l,VX e)(hs:szEs l≤1048576):T (Kdo l) fun r=>dl r=txts (KaM (l.map pE)):=by
 have hl:=Kfc l;unfold Kdo;refine T.bind (P:=fun out=>out.map dl=(l.map pE).map txts) (T.each l (fun pre s=>s.1.map dl=(pre.map pE).map txts∧s.2=(pre.length:Int)) ⟨rfl,rfl⟩ (fun pre x post s e hi=>?_) fun s hi=>?_) fun out ho=>join_is ho (by simp;omega) ?_
 ·obtain ⟨h1,h2⟩:=hi;obtain ⟨a,b⟩:=s;simp only at h1 h2;subst h2;have hlp:=KgJ e;have hlen:a.length=pre.length:=by simpa using congrArg List.length h1
  have hx:=Kf1 (KcE e);rw [Kcc e,cond_true,idxP e,Option.bind_some];refine T.bind (prX (hv x (KcE e)).1 (by omega)) fun r hr=>?_
  rw [Kc6 (by omega) (by simp;omega),Option.bind_some];refine T.next ⟨by simp [h1,hr],?_⟩;show IntKind.i64.wrap _=_
  rw [KbO e (by omega)];simp
 ·obtain ⟨h1,h2⟩:=hi;rw [h2,Kix,cond_false];exact T.done h1
 have:=KfA hv;omega
theorem var_is {v:K3}(h:NmOK v.ga):T (KdZ v) fun r=>dl r=txts (pV v):=by
 have hl:=h.len;unfold KdZ pV;refine T.cond (fun hp=>?_) fun hp=>?_
 ·rw [hp];exact T.bind (T.cat (x:=[105,110,116,32,42]) rfl rfl (by simp only [List.length_cons,List.length_nil];omega)) fun r hr=>T.ret (by rw [hr];simp [txts,Pc.txt])
 rw [hp];exact T.bind (T.cat (x:=[105,110,116,32]) rfl rfl (by simp only [List.length_cons,List.length_nil];omega)) fun r hr=>T.ret (by rw [hr];simp [txts,Pc.txt])
theorem pV_len {v:K3}(h:NmOK v.ga):(txts (pV v)).length≤25:=by
 have hl:=h.len;unfold pV;rw [tl_mk,tl_sp];split
 ·rw [tl_mk,tl_nm,Kb6];show 3+(1+(1+_))≤_;omega
 rw [tl_nm,Kb6];show 3+(1+_)≤_;omega
theorem Kin {l:List K3}(hv:∀ v∈l,NmOK v.ga):(txts (KaM (l.map pV))).length≤27*l.length:=by
 have:=Kjo (l.map pV);have h2:((l.map pV).map fun x=>(txts x).length).sum≤25*l.length:=by
  clear this;induction l with
  | nil=>simp
  |
   cons e l ih=>
   have:=ih (fun e he=>hv e (by simp [he]));have:=pV_len (hv e (by simp));simp only [List.map_cons,List.sum_cons,List.length_cons];omega
 rw [List.length_map] at this;omega
theorem eachV_is {l:List K3}(hv:∀ v∈l,NmOK v.ga)(hs:l.length≤1000):T (Kdz l) fun r=>dl r=txts (KaM (l.map pV)):=by
 unfold Kdz;refine T.bind (P:=fun out=>out.map dl=(l.map pV).map txts) (T.each l (fun pre s=>s.1.map dl=(pre.map pV).map txts∧s.2=(pre.length:Int)) ⟨rfl,rfl⟩ (fun pre x post s e hi=>?_) fun s hi=>?_) fun out ho=>join_is ho (by simp;omega) ?_
 ·obtain ⟨h1,h2⟩:=hi;obtain ⟨a,b⟩:=s;simp only at h1 h2;subst h2;have hlp:=KgJ e;have hlen:a.length=pre.length:=by simpa using congrArg List.length h1
  rw [Kcc e,cond_true,idxP e,Option.bind_some];refine T.bind (var_is (hv x (KcE e))) fun r hr=>?_
  rw [Kc6 (by omega) (by simp;omega),Option.bind_some];refine T.next ⟨by simp [h1,hr],?_⟩;show IntKind.i64.wrap _=_
  rw [KbO e (by omega)];simp
 ·obtain ⟨h1,h2⟩:=hi;rw [h2,Kix,cond_false];exact T.done h1
 have:=Kin hv;omega
theorem appB {x y:List UInt8}(h:x.length+y.length≤100000000000000):app 1 x y=some (x++y):=Kiu (by omega)
theorem txts_ind (d:Nat)(l:List Pc):txts (ind d l)=List.replicate d 9++(txts l++[10]):=by
 unfold ind;rw [Kdc,Kdc];congr 1;induction d with
 | zero=>rfl
 | succ d ih=>rw [List.replicate_succ,KcW,ih];rfl
theorem Kf3 (d:Nat)(l:List Pc):(txts (ind d l)).length=d+((txts l).length+1):=by rw [txts_ind];simp
abbrev Pg (b:List UInt8)(d:Nat):Kn:=⟨⟨b⟩,(d:Int)⟩
theorem Kf4 {b:List UInt8}{d:Nat}{s:ByteArray}{l:List Pc}(hs:dl s=txts l)(hd:d≤1000)(h:b.length+(txts (ind d l)).length≤50000000000000):T (Ka7 (Pg b d) s) fun r=>r=Pg (b++txts (ind d l)) d:=by
 rw [Kf3] at h;unfold Ka7;refine T.bind (P:=fun y:List UInt8×Int=>y=(b++List.replicate d 9,(d:Int))) ?_ fun y hy=>?_
 ·refine T.loop (fun s:Int×List UInt8×Int=>∃ k:Nat,s=((k:Int),b++List.replicate k 9,(d:Int))∧k≤d) (fun s=>d - s.1.toNat) ⟨0,by simp,Nat.zero_le _⟩ fun s hs=>?_
  obtain ⟨k,rfl,hk⟩:=hs;simp only;refine T.cond (fun hc=>?_) fun hc=>T.ret ?_
  ·have hlt:k < d:=by have:=of_decide_eq_true hc;omega
   unfold Kb5;rw [show u8ok (9:Int)=true from rfl];show T ((app 1 (b++List.replicate k 9) [(9:Int).toNat.toUInt8]).bind _ |>.bind _) _
   rw [appB (by simp;omega)];refine T.ret ⟨⟨k+1,?_,hlt⟩,?_⟩
   ·show (IntKind.i64.wrap ((k:Int)+1),_,_)=_
    rw [wn (by omega),List.replicate_succ',← List.append_assoc];rfl
   show d - (IntKind.i64.wrap ((k:Int)+1)).toNat < _
   rw [wn (by omega)];simp only [Int.toNat_natCast];omega
  have:k=d:=by have:=of_decide_eq_false hc;omega
  subst this;rfl
 subst hy;unfold KcV Kb5;show T ((app 1 (b++List.replicate d 9) (dl s)).bind _ |>.bind _) _
 rw [hs,appB (by simp;omega),Option.bind_some,Option.bind_some,show u8ok (10:Int)=true from rfl];show T ((app 1 (b++List.replicate d 9++txts l) [(10:Int).toNat.toUInt8]).bind _ |>.bind _) _
 rw [appB (by simp;omega)];refine T.ret ?_;rw [txts_ind];show (⟨⟨_⟩,_⟩:Kn)=_
 simp only [List.append_assoc];rfl
end
section
open Go
def pFs (s:Kj):List Pc:=pF s.gj s.ga s.gu (s.go.map pE)
theorem szEs1 (e:Ke):szEs [e]=szE e:=by simp [szEs]
theorem szEs2 (e f:Ke):szEs [e,f]=szE e+szE f:=by simp [szEs]
theorem pF_len {b:Nat}{s:Kj}(h:VS b s)(g:s.gj ≠ 6)(i:s.gj ≠ 7):(txts (pFs s)).length≤60+27*szEs s.go:=by
 unfold pFs;cases h with
 |
  assign d s e a hs he=>
  have h1:=hs.len;have h2:=KcK he.1
  show (txts (nm s::.sp 32::mk ⟨#[61]⟩::.sp 32::(pE e++[mk ⟨#[59]⟩]))).length≤_
  rw [tl_nm,tl_sp,tl_mk,tl_sp,Kbu,tl_mk,Kb6];simp only [szEs1];show _+(1+(1+(1+(_+(1+0)))))≤_;omega
 |
  put d s e f a hs he hf=>
  have h1:=hs.len;have h2:=KcK he.1;have j:=KcK hf.1
  show (txts (nm s::mk ⟨#[91]⟩::(pE e++(mk ⟨#[93]⟩::.sp 32::mk ⟨#[61]⟩::.sp 32::(pE f++[mk ⟨#[59]⟩]))))).length≤_
  rw [tl_nm,tl_mk,Kbu,tl_mk,tl_sp,tl_mk,tl_sp,Kbu,tl_mk,Kb6];simp only [szEs2];show _+(1+(_+(1+(1+(1+(1+(_+(1+0))))))))≤_;omega
 |
  store d s e a hs he=>
  have h1:=hs.len;have h2:=KcK he.1
  show (txts (mk ⟨#[42]⟩::nm s::.sp 32::mk ⟨#[61]⟩::.sp 32::(pE e++[mk ⟨#[59]⟩]))).length≤_
  rw [tl_mk,tl_nm,tl_sp,tl_mk,tl_sp,Kbu,tl_mk,Kb6];simp only [szEs1];show 1+(_+(1+(1+(1+(_+(1+0))))))≤_;omega
 |
  call d f es a hf he=>
  have h1:=hf.len;have h2:=KfA he
  show (txts (nm f::mk ⟨#[40]⟩::(KaM (es.map pE)++[mk ⟨#[41]⟩,mk ⟨#[59]⟩]))).length≤_
  rw [tl_nm,tl_mk,Kbu,tl_mk,tl_mk,Kb6];show _+(1+(_+(1+(1+0))))≤60+27*szEs es;omega
 |
  callTo d s f es a hs hf he=>
  have h0:=hs.len;have h1:=hf.len;have h2:=KfA he
  have hne:s ≠ ByteArray.empty:=fun e=>by
   obtain ⟨c,r,h,_⟩:=hs.al.hd;rw [e] at h;cases h
  show (txts ((if s=ByteArray.empty then [] else [nm s,.sp 32,mk ⟨#[61]⟩,.sp 32])++(nm f::mk ⟨#[40]⟩::(KaM (es.map pE)++[mk ⟨#[41]⟩,mk ⟨#[59]⟩])))).length≤_
  rw [if_neg hne,Kbu,tl_nm,tl_sp,tl_mk,tl_sp,Kb6,tl_nm,tl_mk,Kbu,tl_mk,tl_mk,Kb6];show _+(1+(1+(1+0)))+(_+(1+(_+(1+(1+0)))))≤60+27*szEs es;omega
 |
  input d s a hs=>
  have h1:=hs.len;show (txts [nm s,.sp 32,mk ⟨#[61]⟩,.sp 32,mk ⟨#[105,110,112,117,116]⟩,mk ⟨#[40]⟩,mk ⟨#[41]⟩,mk ⟨#[59]⟩]).length≤_
  rw [tl_nm,tl_sp,tl_mk,tl_sp,tl_mk,tl_mk,tl_mk,tl_mk,Kb6];show _+(1+(1+(1+(5+(1+(1+(1+0)))))))≤60+_;omega
 |
  ret d e a he=>
  have h2:=KcK he.1;show (txts (mk ⟨#[114,101,116,117,114,110]⟩::.sp 32::(pE e++[mk ⟨#[59]⟩]))).length≤_
  rw [tl_mk,tl_sp,Kbu,tl_mk,Kb6];simp only [szEs1];show 6+(1+(_+(1+0)))≤_;omega
 |
  assert d e a he=>
  have h2:=KcK he.1;show (txts (mk ⟨#[97,115,115,101,114,116]⟩::mk ⟨#[40]⟩::(pE e++[mk ⟨#[41]⟩,mk ⟨#[59]⟩]))).length≤_
  rw [tl_mk,tl_mk,Kbu,tl_mk,tl_mk,Kb6];simp only [szEs1];show 6+(1+(_+(1+(1+0))))≤_;omega
 | ite d e ks ls a he hk hl=>exact absurd rfl g
 | loop d e ks a he hk=>exact absurd rfl i
mutual
theorem pS_len:∀ {b:Nat} {s:Kj},VS b s→∀ d,d+b≤100→(txts (pS d s)).length≤400*szS s
 |
  b,⟨op,s,f,es,ks,ls,a⟩,h,d,hd=>by
  have hz:=KeP op s f es ks ls a;by_cases c:op=6∨op=7
  ·have key:∀ (d':Nat) (e:Ke),b=d'+1→es=[e]→VX e→VSs d' ks→VSs d' ls→(txts (pS d ⟨op,s,f,es,ks,ls,a⟩)).length≤400*szS ⟨op,s,f,es,ks,ls,a⟩:=fun d' e hb he hv hk hl=>by
    have h1:=KiT hk (d+1) (by omega);have h2:=KiT hl (d+1) (by omega);have g:=KcK hv.1;subst he;rw [hz,szEs1];simp only [pS];rw [if_pos c,Kbu,Kf3,Kbu,Kbu,Kf3,tl_mk,Kb6];have hH:(txts (pH op ([e].map pE))).length≤20+25*szE e:=by
     show (txts ((if op=6 then mk ⟨#[105,102]⟩ else mk ⟨#[119,104,105,108,101]⟩)::.sp 32::mk ⟨#[40]⟩::(pE e++[mk ⟨#[41]⟩,.sp 32,mk ⟨#[123]⟩]))).length≤_
     split
     ·rw [tl_mk,tl_sp,tl_mk,Kbu,tl_mk,tl_sp,tl_mk,Kb6];show 2+(1+(1+(_+(1+(1+(1+0))))))≤_;omega
     rw [tl_mk,tl_sp,tl_mk,Kbu,tl_mk,tl_sp,tl_mk,Kb6];show 5+(1+(1+(_+(1+(1+(1+0))))))≤_;omega
    have hL:(txts (if ls.isEmpty then [] else ind d [mk ⟨#[125]⟩,.sp 32,mk ⟨#[101,108,115,101]⟩,.sp 32,mk ⟨#[123]⟩]++pSs (d+1) ls)).length≤d+20+400*szSs ls:=by
     split
     ·rw [Kb6];omega
     rw [Kbu,Kf3,tl_mk,tl_sp,tl_mk,tl_sp,tl_mk,Kb6];show d+(1+(1+(4+(1+(1+0))))+1)+_≤_;omega
    show d+(_+1)+(_+(_+(d+(1+0+1))))≤_
    omega
   cases h with
   | ite d' e _ _ _ he hk hl=>exact key d' e rfl rfl he hk hl
   | loop d' e _ _ he hk=>exact key d' e rfl rfl he hk (.nil _)
   | _=>omega
  have h1:=pF_len h (by simp only;omega) (by simp only;omega);rw [hz];simp only [pS];rw [if_neg c,Kf3];unfold pFs at h1;simp only at h1;omega
theorem KiT:∀ {b:Nat} {l:List Kj},VSs b l→∀ d,d+b≤100→(txts (pSs d l)).length≤400*szSs l
 | b,[],h,d,hd=>by simp only [pSs,szSs];exact Nat.le_refl _
 |
  b,s::l,h,d,hd=>by
  cases h with
  |
   cons _ _ _ hs hl=>
   have h1:=pS_len hs d hd;have h2:=KiT hl d hd;simp only [pSs,szSs];rw [Kbu];omega
end
theorem simp_is {b:Nat}{s:Kj}(h:VS b s)(v:s.gj ≠ 6)(w:s.gj ≠ 7)(hbig:szS s≤1048576):T (Kd3 s) fun r=>r.2=true∧dl r.1=txts (pFs s):=by
 have hz:=KgW s;unfold Kd3;cases h with
 |
  assign d s e a hs he=>
  have h1:=hs.len;have h2:=KcK he.1
  rw [show Kde 1=some 1 from rfl,Option.bind_some];refine T.bind (P:=fun b=>b=false) (T.ret rfl) fun b hb=>?_
  subst hb;iterate 1 refine T.cond (fun h=>by cases h) fun _=>?_
  refine T.cond (fun _=>?_) fun h=>by cases h
  show T ((catS s (ByteArray.mk #[32,61,32])).bind fun z=>((idx [e] (0:Int)).bind fun A=>((KbN A).bind fun B=>((catS z B).bind fun C=>((catS C qZ22).bind fun D=>some (D,true)))))) _
  simp only [szEs1] at hz;refine T.bind (T.cat (y:=[32,61,32]) rfl rfl (by simp only [List.length_cons,List.length_nil];omega)) fun p m=>T.bind (P:=fun x=>x=e) (T.ret rfl) fun x hx=>?_
  subst hx;refine T.bind (prX he.1 (by omega)) fun n i=>T.bind (T.cat m i (by simp only [List.length_append,List.length_cons,List.length_nil];omega)) fun o j=>T.bind (T.cat (y:=[59]) j rfl (by simp only [List.length_append,List.length_cons,List.length_nil];omega)) fun k g=>T.ret ⟨rfl,?_⟩
  rw [g];simp [pFs,pF,txts,Pc.txt]
 |
  put d s e f a hs he hf=>
  have h1:=hs.len;have h2:=KcK he.1;have h3:=KcK hf.1
  rw [show Kde 2=some 2 from rfl,Option.bind_some];refine T.bind (P:=fun b=>b=false) (T.ret rfl) fun b hb=>?_
  subst hb;simp only [szEs2] at hz;iterate 2 refine T.cond (fun h=>by cases h) fun _=>?_
  refine T.cond (fun _=>?_) fun h=>by cases h
  show T ((catS s qZ20).bind fun E=>((idx [e,f] (0:Int)).bind fun F=>((KbN F).bind fun G=>((catS E G).bind fun H=>((catS H (ByteArray.mk #[93,32,61,32])).bind fun I=>((idx [e,f] (1:Int)).bind fun J=>((KbN J).bind fun K=>((catS I K).bind fun L=>((catS L qZ22).bind fun M=>some (M,true)))))))))) _
  refine T.bind (T.cat (y:=[91]) rfl rfl (by simp only [List.length_cons,List.length_nil];omega)) fun p m=>T.bind (P:=fun x=>x=e) (T.ret rfl) fun x hx=>?_
  subst hx;refine T.bind (prX he.1 (by omega)) fun n i=>T.bind (T.cat m i (by simp only [List.length_append,List.length_cons,List.length_nil];omega)) fun o j=>T.bind (T.cat (y:=[93,32,61,32]) j rfl (by simp only [List.length_append,List.length_cons,List.length_nil];omega)) fun k g=>T.bind (P:=fun x=>x=f) (T.ret rfl) fun y hy=>?_
  subst hy;refine T.bind (prX hf.1 (by omega)) fun N q=>T.bind (T.cat g q (by simp only [List.length_append,List.length_cons,List.length_nil];omega)) fun O t=>T.bind (T.cat (y:=[59]) t rfl (by simp only [List.length_append,List.length_cons,List.length_nil];omega)) fun Q u=>T.ret ⟨rfl,?_⟩
  rw [u];simp [pFs,pF,txts,Pc.txt]
 |
  store d s e a hs he=>
  have h1:=hs.len;have h2:=KcK he.1
  rw [show Kde 3=some 1 from rfl,Option.bind_some];refine T.bind (P:=fun b=>b=false) (T.ret rfl) fun b hb=>?_
  subst hb;simp only [szEs1] at hz;iterate 3 refine T.cond (fun h=>by cases h) fun _=>?_
  refine T.cond (fun _=>?_) fun h=>by cases h
  show T ((catS qZ16 s).bind fun R=>((catS R (ByteArray.mk #[32,61,32])).bind fun S=>((idx [e] (0:Int)).bind fun U=>((KbN U).bind fun V=>((catS S V).bind fun W=>((catS W qZ22).bind fun X=>some (X,true))))))) _
  refine T.bind (T.cat (x:=[42]) rfl rfl (by simp only [List.length_cons,List.length_nil];omega)) fun r0 Y=>T.bind (T.cat (y:=[32,61,32]) Y rfl (by simp only [List.length_append,List.length_cons,List.length_nil];omega)) fun p m=>T.bind (P:=fun x=>x=e) (T.ret rfl) fun x hx=>?_
  subst hx;refine T.bind (prX he.1 (by omega)) fun n i=>T.bind (T.cat m i (by simp only [List.length_append,List.length_cons,List.length_nil];omega)) fun o j=>T.bind (T.cat (y:=[59]) j rfl (by simp only [List.length_append,List.length_cons,List.length_nil];omega)) fun k g=>T.ret ⟨rfl,?_⟩
  rw [g];simp [pFs,pF,txts,Pc.txt]
 |
  call d f es a hf he=>
  have h1:=hf.len;have h2:=KfA he
  have Z:szEs es≤1048575:=by simp only at hz;omega
  rw [show Kde 4=some 0 from rfl,Option.bind_some];refine T.bind (P:=fun b=>b=false) (T.cond (fun h=>by cases h) fun _=>T.ret (decide_eq_false (by omega))) fun b hb=>?_
  subst hb;iterate 7 refine T.cond (fun h=>by cases h) fun _=>?_
  refine T.cond (fun _=>?_) fun h=>by cases h
  refine T.bind (T.cat (y:=[40]) rfl rfl (by simp only [List.length_cons,List.length_nil];omega)) fun p m=>T.bind (eachE_is (l:=es) he (by omega)) fun n i=>T.bind (T.cat m i (by simp only [List.length_append,List.length_cons,List.length_nil];omega)) fun o j=>T.bind (T.cat (y:=[41,59]) j rfl (by simp only [List.length_append,List.length_cons,List.length_nil];omega)) fun k g=>?_
  refine T.bind (P:=fun x=>x=k) (T.cond (fun h=>by cases h) fun _=>T.ret rfl) fun x hx=>T.ret ⟨rfl,?_⟩
  rw [hx,g];simp [pFs,pF,txts,Pc.txt]
 |
  callTo d s f es a hs hf he=>
  have h0:=hs.len;have h1:=hf.len;have h2:=KfA he
  have Z:szEs es≤1048575:=by simp only at hz;omega
  have hne:s ≠ ByteArray.empty:=fun e=>by
   obtain ⟨c,r,h,_⟩:=hs.al.hd;rw [e] at h;cases h
  rw [show Kde 4=some 0 from rfl,Option.bind_some];refine T.bind (P:=fun b=>b=false) (T.cond (fun h=>by cases h) fun _=>T.ret (decide_eq_false (by omega))) fun b hb=>?_
  subst hb;iterate 7 refine T.cond (fun h=>by cases h) fun _=>?_
  refine T.cond (fun _=>?_) fun h=>by cases h
  refine T.bind (T.cat (y:=[40]) rfl rfl (by simp only [List.length_cons,List.length_nil];omega)) fun p m=>T.bind (eachE_is (l:=es) he (by omega)) fun n i=>T.bind (T.cat m i (by simp only [List.length_append,List.length_cons,List.length_nil];omega)) fun o j=>T.bind (T.cat (y:=[41,59]) j rfl (by simp only [List.length_append,List.length_cons,List.length_nil];omega)) fun k g=>?_
  have h4:(dl k).length≤30+27*szEs es:=by rw [g];simp only [List.length_append,List.length_cons,List.length_nil];omega
  refine T.bind (P:=fun x=>dl x=(dl s++[32,61,32])++dl k) (T.cond (fun _=>?_) fun h=>?_) fun Q u=>T.ret ⟨rfl,?_⟩
  ·exact T.bind (T.cat (x:=dl s) (y:=[32,61,32]) rfl rfl (by simp only [List.length_cons,List.length_nil];omega)) fun N q=>T.bind (T.cat (y:=dl k) q rfl (by simp only [List.length_append,List.length_cons,List.length_nil];omega)) fun O t=>T.ret t
  ·have:decide (s=(ByteArray.mk #[]))=false:=decide_eq_false hne;rw [this] at h;cases h
  rw [u,g];simp [pFs,pF,txts,Pc.txt,hne]
 |
  input d s a hs=>
  have h1:=hs.len;rw [show Kde 5=some 0 from rfl,Option.bind_some];refine T.bind (P:=fun b=>b=false) (T.ret rfl) fun b hb=>?_
  subst hb;iterate 4 refine T.cond (fun h=>by cases h) fun _=>?_
  refine T.cond (fun _=>?_) fun h=>by cases h
  show T ((catS s (ByteArray.mk #[32,61,32,105,110,112,117,116,40,41,59])).bind fun aa=>some (aa,true)) _
  refine T.bind (T.cat (x:=dl s) (y:=[32,61,32,105,110,112,117,116,40,41,59]) rfl rfl (by simp only [List.length_cons,List.length_nil];omega)) fun k g=>T.ret ⟨rfl,?_⟩
  show dl k=txts [nm s,.sp 32,mk ⟨#[61]⟩,.sp 32,mk ⟨#[105,110,112,117,116]⟩,mk ⟨#[40]⟩,mk ⟨#[41]⟩,mk ⟨#[59]⟩]
  rw [g];simp [txts,Pc.txt]
 |
  ret d e a he=>
  have h2:=KcK he.1;rw [show Kde 8=some 1 from rfl,Option.bind_some];refine T.bind (P:=fun b=>b=false) (T.ret rfl) fun b hb=>?_
  subst hb;simp only [szEs1] at hz;iterate 5 refine T.cond (fun h=>by cases h) fun _=>?_
  refine T.cond (fun _=>?_) fun h=>by cases h
  show T ((idx [e] (0:Int)).bind fun ab=>((KbN ab).bind fun ac=>((catS (ByteArray.mk #[114,101,116,117,114,110,32]) ac).bind fun ad=>((catS ad qZ22).bind fun ae=>some (ae,true))))) _
  refine T.bind (P:=fun x=>x=e) (T.ret rfl) fun x hx=>?_
  subst hx;refine T.bind (prX he.1 (by omega)) fun n i=>T.bind (T.cat (x:=[114,101,116,117,114,110,32]) rfl i (by simp only [List.length_append,List.length_cons,List.length_nil];omega)) fun o j=>T.bind (T.cat (y:=[59]) j rfl (by simp only [List.length_append,List.length_cons,List.length_nil];omega)) fun k g=>T.ret ⟨rfl,?_⟩
  rw [g];simp [pFs,pF,txts,Pc.txt]
 |
  assert d e a he=>
  have h2:=KcK he.1;rw [show Kde 9=some 1 from rfl,Option.bind_some];refine T.bind (P:=fun b=>b=false) (T.ret rfl) fun b hb=>?_
  subst hb;simp only [szEs1] at hz;iterate 6 refine T.cond (fun h=>by cases h) fun _=>?_
  refine T.cond (fun _=>?_) fun h=>by cases h
  show T ((idx [e] (0:Int)).bind fun af=>((KbN af).bind fun ag=>((catS (ByteArray.mk #[97,115,115,101,114,116,40]) ag).bind fun ah=>((catS ah (ByteArray.mk #[41,59])).bind fun ai=>some (ai,true))))) _
  refine T.bind (P:=fun x=>x=e) (T.ret rfl) fun x hx=>?_
  subst hx;refine T.bind (prX he.1 (by omega)) fun n i=>T.bind (T.cat (x:=[97,115,115,101,114,116,40]) rfl i (by simp only [List.length_append,List.length_cons,List.length_nil];omega)) fun o j=>T.bind (T.cat (y:=[41,59]) j rfl (by simp only [List.length_append,List.length_cons,List.length_nil];omega)) fun k g=>T.ret ⟨rfl,?_⟩
  rw [g];simp [pFs,pF,txts,Pc.txt]
 | ite d e ks ls a he hk hl=>exact absurd rfl v
 | loop d e ks a he hk=>exact absurd rfl w
end
section
open Go
abbrev SPG (N:Nat):=Kp N
theorem Kgr (d:Nat):∀ a b:List Kj,pSs d (a++b)=pSs d a++pSs d b
 | [],b=>rfl
 | s::a,b=>by simp only [List.cons_append,pSs,Kgr d a b,List.append_assoc]
theorem vss_mem {b:Nat}:∀ {l:List Kj},VSs b l→∀ s∈l,VS b s
 |
  s::l,h,x,hx=>by
  cases h with
  |
   cons _ _ _ h1 h2=>
   rcases List.mem_cons.1 hx with rfl|hx
   ·exact h1
   exact vss_mem h2 x hx
theorem pgE {b c:List UInt8}{d:Nat}(h:b=c):Pg b d=Pg c d:=by rw [h]
theorem prTS:∀ N:Nat,(∀ (b d:Nat) (l:List Kj) (u:List UInt8),VSs b l→d+b≤100→szSs l≤1048576→u.length+(txts (pSs d l)).length≤50000000000000→3*b+3≤N→T ((SPG N).1 (Pg u d) l) fun r=>r=Pg (u++txts (pSs d l)) d) ∧
  (∀ (b d:Nat) (s:Kj) (u:List UInt8),VS b s→d+b≤100→szS s≤1048576→u.length+(txts (pS d s)).length≤50000000000000→3*b+2≤N→T ((SPG N).2.1 (Pg u d) s) fun r=>r=Pg (u++txts (pS d s)) d) ∧
  (∀ (b d:Nat) (l:List Kj) (u:List UInt8),VSs b l→d+1+b≤100→szSs l≤1048576→u.length+(txts (pSs (d+1) l)).length≤50000000000000→3*b+4≤N→T ((SPG N).2.2.1 (Pg u d) l) fun r=>r=Pg (u++txts (pSs (d+1) l)) d)
 | 0=>⟨fun _ _ _ _ _ _ _ _ h=>by omega,fun _ _ _ _ _ _ _ _ h=>by omega,fun _ _ _ _ _ _ _ _ h=>by omega⟩
 |
  N+1=>by
  obtain ⟨iL,iS,iI⟩:=prTS N;refine ⟨fun b d l u hv hd hs hu hN=>?_,fun b d s u hv hd hs hu hN=>?_,fun b d l u hv hd hs hu hN=>?_⟩
  ·show T (Kcl (SPG N).1 (SPG N).2.1 (SPG N).2.2.1 (SPG N).2.2.2.1 (SPG N).2.2.2.2 (Pg u d) l) _
   unfold Kcl;have hl:=KgI l;refine T.bind (P:=fun y:List UInt8×Int=>y=(u++txts (pSs d l),(d:Int))) (T.each l (fun pre s=>s=((pre.length:Int),u++txts (pSs d pre),(d:Int))) (by simp [pSs,txts]) (fun pre x post s e hi=>?_) fun s hi=>?_) fun y hy=>T.ret (by rw [hy])
   ·subst hi;have hx:=vss_mem hv x (KcE e);have hxs:=szSs_pre e;have hlen:(txts (pSs d pre)).length+(txts (pS d x)).length≤(txts (pSs d l)).length:=by
     rw [e,Kgr,Kbu];simp only [pSs];rw [Kbu];omega
    simp only;rw [Kcc e,cond_true,idxP e,Option.bind_some];refine T.bind (iS b d x _ hx hd (by omega) (by rw [List.length_append];omega) (by omega)) fun r hr=>T.next ?_
    subst hr;show (IntKind.i64.wrap _,_,_)=_
    rw [KbO e (by omega),Kgr,Kdc];simp [pSs,txts]
   subst hi;simp only;rw [Kix,cond_false];exact T.done rfl
  ·show T (Kcy (SPG N).1 (SPG N).2.1 (SPG N).2.2.1 (SPG N).2.2.2.1 (SPG N).2.2.2.2 (Pg u d) s) _
   unfold Kcy;by_cases f:s.gj=6∨s.gj=7
   ·have key:∀ (b':Nat) (op:Int) (e:Ke) (ks ls:List Kj) (a:Int),(op=6∨(op=7∧ls=[]))→b=b'+1→s=⟨op,ByteArray.empty,ByteArray.empty,[e],ks,ls,a⟩→VX e→VSs b' ks→VSs b' ls→T ((Option.bind (α:=ByteArray) (bif (op==(6:Int)) then some (ByteArray.mk #[105,102,32,40]) else some (ByteArray.mk #[119,104,105,108,101,32,40])) fun g=>((idx [e] (0:Int)).bind fun n=>((KbN n).bind fun o=>((catS g o).bind fun p=>((catS p (ByteArray.mk #[41,32,123])).bind fun t=>((Ka7 (Pg u d) t).bind fun v=>(((SPG N).2.2.1 v ks).bind fun k=>(Option.bind (α:=Bool) (bif (op==(6:Int)) then some (decide ((0:Int) < (ls.length:Int))) else some false) fun m=>(bif m then ((Ka7 k (ByteArray.mk #[125,32,101,108,115,101,32,123])).bind fun w=>(((SPG N).2.2.1 w ls).bind fun z=>((Ka7 z qZ17).bind fun A=>some A))) else ((Ka7 k qZ17).bind fun B=>some B))))))))))) fun r=>r=Pg (u++txts (pS d s)) d:=fun b' op e ks ls a hop hb hse he hk hl=>by
     subst hse;have hz:=KeP op ByteArray.empty ByteArray.empty [e] ks ls a;rw [szEs1] at hz;have h2:=KcK he.1;have hpS:pS d ⟨op,ByteArray.empty,ByteArray.empty,[e],ks,ls,a⟩=ind d (pH op [pE e])++(pSs (d+1) ks++((if ls.isEmpty then [] else ind d [mk ⟨#[125]⟩,.sp 32,mk ⟨#[101,108,115,101]⟩,.sp 32,mk ⟨#[123]⟩]++pSs (d+1) ls)++ind d [mk ⟨#[125]⟩])):=by
      simp only [pS];rw [if_pos (by omega)];rfl
     rw [hpS] at hu ⊢;rw [Kbu,Kbu,Kbu] at hu;refine T.bind (P:=fun y=>dl y++(txts (pE e)++[41,32,123])=txts (pH op [pE e])∧(dl y).length≤7) (T.cond (fun h=>T.ret ?_) fun h=>T.ret ?_) fun g i=>T.bind (P:=fun x=>x=e) (T.ret rfl) fun x hx=>?_
     ·have:op=6:=by simpa using h
      exact ⟨by simp [pH,this,txts,Pc.txt,dl],by decide⟩
     ·have:op ≠ 6:=by simpa using h
      exact ⟨by simp [pH,this,txts,Pc.txt,dl],by decide⟩
     subst hx;obtain ⟨i,K⟩:=i;refine T.bind (prX he.1 (by omega)) fun L C=>T.bind (T.cat (x:=dl g) rfl C (by omega)) fun M D=>T.bind (T.cat (y:=[41,32,123]) D rfl (by simp only [List.length_append,List.length_cons,List.length_nil];omega)) fun O E=>T.bind (Kf4 (l:=pH op [pE x]) (by rw [E,← i];simp) (by omega) (by omega)) fun Q F=>?_
     subst F;refine T.bind (iI b' d ks _ hk (by omega) (by omega) (by rw [List.length_append];omega) (by omega)) fun R G=>?_
     subst G;refine T.bind (P:=fun y=>y=!ls.isEmpty) (T.cond (fun h=>T.ret ?_) fun h=>T.ret ?_) fun m c=>T.cond (fun h=>?_) fun h=>?_
     ·cases ls<;>simp
     ·have:op ≠ 6:=by simpa using h
      rcases hop with h|⟨_,rfl⟩
      ·exact absurd h this
      rfl
     ·have hne:ls.isEmpty=false:=by rw [h] at c;simpa using c.symm
      rw [hne] at hu ⊢;simp only [Bool.false_eq_true,if_false] at hu ⊢;rw [Kbu] at hu;refine T.bind (Kf4 (l:=[mk ⟨#[125]⟩,.sp 32,mk ⟨#[101,108,115,101]⟩,.sp 32,mk ⟨#[123]⟩]) rfl (by omega) (by simp only [List.length_append];omega)) fun S H=>?_
      subst H;refine T.bind (iI b' d ls _ hl (by omega) (by omega) (by simp only [List.length_append];omega) (by omega)) fun U I=>?_
      subst I;refine T.bind (Kf4 (l:=[mk ⟨#[125]⟩]) rfl (by omega) (by simp only [List.length_append];omega)) fun J j=>T.ret ?_
      rw [j];exact pgE (by simp [Kdc])
     have hne:ls.isEmpty=true:=by rw [h] at c;simpa using c.symm
     rw [hne] at hu ⊢;simp only [if_true] at hu ⊢;refine T.bind (Kf4 (l:=[mk ⟨#[125]⟩]) rfl (by omega) (by simp only [List.length_append];omega)) fun J j=>T.ret ?_
     rw [j];exact pgE (by simp [Kdc])
    cases hv with
    |
     ite b' e ks ls a he hk hl=>
     rw [show Kd3 ⟨6,ByteArray.empty,ByteArray.empty,[e],ks,ls,a⟩=some (ByteArray.mk #[],false) from rfl,Option.bind_some];exact key b' 6 e ks ls a (.inl rfl) rfl rfl he hk hl
    |
     loop b' e ks a he hk=>
     rw [show Kd3 ⟨7,ByteArray.empty,ByteArray.empty,[e],ks,[],a⟩=some (ByteArray.mk #[],false) from rfl,Option.bind_some];exact key b' 7 e ks [] a (.inr ⟨rfl,rfl⟩) rfl rfl he hk (.nil _)
    | _=>simp only at f;omega
   have hpS:pS d s=ind d (pFs s):=by
    cases s with
    |
     mk op nm fn es ks ls a=>
     simp only at f;simp only [pS];rw [if_neg f];rfl
   rw [hpS] at hu ⊢;refine T.bind (simp_is hv (by omega) (by omega) hs) fun r hr=>?_
   obtain ⟨h1,h2⟩:=hr;refine T.cond (fun _=>T.bind (Kf4 h2 (by omega) hu) fun q hq=>T.ret hq) fun h=>?_
   rw [h1] at h;cases h
  show T (Kcm (SPG N).1 (SPG N).2.1 (SPG N).2.2.1 (SPG N).2.2.2.1 (SPG N).2.2.2.2 (Pg u d) l) _
  unfold Kcm;have hw:IntKind.i64.wrap ((d:Int)+1)=((d+1:Nat):Int):=wn (by omega);show T (((SPG N).1 ⟨⟨u⟩,IntKind.i64.wrap ((d:Int)+1)⟩ l).bind _) _
  rw [hw];refine T.bind (iL b (d+1) l u hv (by omega) hs hu (by omega)) fun r hr=>T.ret ?_
  subst hr;show (⟨_,IntKind.i64.wrap (((d+1:Nat):Int) - 1)⟩:Kn)=_
  rw [show IntKind.i64.wrap (((d+1:Nat):Int) - 1)=(d:Int) by rw [IntKind.wrap_i64];omega]
theorem prSs {b d:Nat}{l:List Kj}{u:List UInt8}(hv:VSs b l)(hd:d+b≤100)(hs:szSs l≤1048576)(hu:u.length+(txts (pSs d l)).length≤50000000000000):T (KeI (Pg u d) l) fun r=>r=Pg (u++txts (pSs d l)) d:=by
 obtain ⟨r,h1,h2⟩:=(prTS (3*b+3)).1 b d l u hv hd hs hu (Nat.le_refl _);exact ⟨r,KjA _ _ _ h1,h2⟩
theorem Khd (a b:List K3):pLs (a++b)=pLs a++pLs b:=by simp [pLs]
theorem pLs_len {l:List K3}(hv:∀ v∈l,NmOK v.ga):(txts (pLs l)).length≤28*l.length:=by
 induction l with
 | nil=>exact Nat.le_refl _
 |
  cons v l ih=>
  have:=ih fun v h=>hv v (by simp [h])
  have h1:=pV_len (hv v (by simp));show (txts (ind 1 (pV v++[mk ⟨#[59]⟩])++pLs l)).length≤_
  rw [Kbu,Kf3,Kbu,tl_mk,Kb6];have h2:(v::l).length=l.length+1:=rfl;show 1+(_+(1+0)+1)+_≤_;omega
theorem pFn_len {f:KG}(h:VF f):(txts (pFn f)).length≤1000+400*szSs f.gp:=by
 have h1:=h.nm.len;have h2:=Kin h.ps;have a:=pLs_len h.ls;have b:=KiT h.body 1 (by omega);have c:=h.many
 unfold pFn;rw [Kbu,Kbu,Kbu,Kf3,Kf3,tl_mk,tl_sp,tl_nm,tl_mk,Kbu,tl_mk,tl_sp,tl_mk,Kb6,tl_mk,Kb6];show 0+(3+(1+(_+(1+(_+(1+(1+(1+0)))))))+1)+(_+(_+(0+(1+0+1))))≤_
 omega
theorem func_is {f:KG}(h:VF f):T (Kfo f) fun r=>dl r=txts (pFn f):=by
 have h1:=h.nm.len;have h2:=Kin h.ps;have q:=pLs_len h.ls;have t:=KiT h.body 1 (by omega);have u:=h.many;have v:=h.size
 have hlen:=pFn_len h;have hpF:txts (pFn f)=txts (ind 0 (mk ⟨#[105,110,116]⟩::.sp 32::nm f.ga::mk ⟨#[40]⟩::(KaM (f.gf.map pV)++[mk ⟨#[41]⟩,.sp 32,mk ⟨#[123]⟩])))++(txts (pLs f.gh)++(txts (pSs 1 f.gp)++txts (ind 0 [mk ⟨#[125]⟩]))):=by
  unfold pFn;simp only [Kdc]
 have hsum:=congrArg List.length hpF;simp only [List.length_append] at hsum;unfold Kfo;refine T.bind (T.cat (x:=[105,110,116,32]) rfl rfl (by simp only [List.length_cons,List.length_nil];omega)) fun w a=>T.bind (T.cat (y:=[40]) a rfl (by simp only [List.length_append,List.length_cons,List.length_nil];omega)) fun z c=>T.bind (eachV_is h.ps (by omega)) fun B g=>T.bind (T.cat c g (by simp only [List.length_append,List.length_cons,List.length_nil];omega)) fun C i=>T.bind (T.cat (y:=[41,32,123]) i rfl (by simp only [List.length_append,List.length_cons,List.length_nil];omega)) fun D j=>?_
 refine T.bind (Kf4 (b:=[]) (d:=0) (l:=mk ⟨#[105,110,116]⟩::.sp 32::nm f.ga::mk ⟨#[40]⟩::(KaM (f.gf.map pV)++[mk ⟨#[41]⟩,.sp 32,mk ⟨#[123]⟩])) (by rw [j];simp [txts,Pc.txt]) (by omega) (by rw [List.length_nil];omega)) fun E k=>?_
 subst k;generalize hA:txts (ind 0 (mk ⟨#[105,110,116]⟩::.sp 32::nm f.ga::mk ⟨#[40]⟩::(KaM (f.gf.map pV)++[mk ⟨#[41]⟩,.sp 32,mk ⟨#[123]⟩])))=A at *;rw [List.nil_append];refine T.bind (P:=fun y:List UInt8×Int=>y=(A++txts (pLs f.gh),((1:Nat):Int))) (T.each f.gh (fun pre s=>s=((pre.length:Int),A++txts (pLs pre),((1:Nat):Int))) (by show (_,_,IntKind.i64.wrap _)=_;simp [pLs,txts];rfl) (fun pre x post s e hi=>?_) fun s hi=>?_) fun y hy=>?_
 ·subst hi;have hlp:(txts (pLs pre)).length+(txts (ind 1 (pV x++[mk ⟨#[59]⟩]))).length≤(txts (pLs f.gh)).length:=by
   have e':pLs f.gh=pLs pre++(ind 1 (pV x++[mk ⟨#[59]⟩])++pLs post):=by rw [e,Khd];rfl
   rw [e',Kbu,Kbu];omega
  have hx:=pV_len (h.ls x (KcE e));simp only;rw [Kcc e,cond_true,idxP e,Option.bind_some];refine T.bind (var_is (h.ls x (KcE e))) fun F f1=>T.bind (T.cat (y:=[59]) f1 rfl (by simp only [List.length_cons,List.length_nil];omega)) fun G m=>T.bind (Kf4 (l:=pV x++[mk ⟨#[59]⟩]) (by rw [m];simp [txts,Pc.txt]) (by omega) (by rw [List.length_append];omega)) fun H n=>T.next ?_
  subst n;show (IntKind.i64.wrap _,_,_)=_
  have:=KgJ e;rw [KbO e (by omega),Khd,Kdc];simp [pLs,Kdc]
 ·subst hi;simp only;rw [Kix,cond_false];exact T.done rfl
 subst hy;refine T.bind (prSs (b:=23) (d:=1) h.body (by omega) h.size (by rw [List.length_append];omega)) fun I o=>?_
 subst o;refine T.bind (Kf4 (b:=(A++txts (pLs f.gh))++txts (pSs 1 f.gp)) (d:=0) (l:=[mk ⟨#[125]⟩]) rfl (by omega) (by simp only [List.length_append];omega)) fun J p=>?_
 subst p;have ok:strOK (Pg ((A++txts (pLs f.gh))++txts (pSs 1 f.gp)++txts (ind 0 [mk ⟨#[125]⟩])) 0)=true:=by
  have hne:txts (ind 0 [mk ⟨#[125]⟩])=[125,10]:=rfl;simp only [strOK,Bool.and_eq_true,decide_eq_true_eq,List.length_append];rw [hne] at *;refine ⟨by simp,?_⟩;have h2:[(125:UInt8),10].length=2:=rfl;omega
 rw [ok];refine T.ret ?_;rw [hpF];show (ByteArray.mk (List.toArray _)).data.toList=_
 simp [List.append_assoc]
theorem global_is {g:KT}(h:VG g):T (Ke4 g) fun r=>dl r=txts (pGl g):=by
 have h1:=h.nm.len;have h2:=h.lo;have i:=h.hi
 unfold Ke4 pGl pV;refine T.cond (fun hp=>?_) fun hp=>T.cond (fun hs=>?_) fun hs=>?_
 ·exact T.bind (T.cat (x:=[105,110,116,32,42]) rfl rfl (by simp only [List.length_cons,List.length_nil];omega)) fun c a=>T.bind (T.cat (y:=[59,10]) a rfl (by simp only [List.length_append,List.length_cons,List.length_nil];omega)) fun d b=>T.ret (by rw [b,hp];simp [txts,Pc.txt])
 ·have hs':=of_decide_eq_true hs;have hn:=KkG (n:=g.gA) (by omega) (by omega);have ok:Kgo g.gA=true:=by simp [Kgo];omega
  refine T.bind (T.cat (x:=[105,110,116,32]) rfl rfl (by simp only [List.length_cons,List.length_nil];omega)) fun c a=>T.bind (T.cat (y:=[91]) a rfl (by simp only [List.length_append,List.length_cons,List.length_nil];omega)) fun d b=>?_
  rw [ok];exact T.bind (P:=fun _=>True) (T.ret trivial) fun _ _=>T.bind (T.cat b rfl (by simp only [List.length_append,List.length_cons,List.length_nil];omega)) fun j e=>T.bind (T.cat (y:=[93,59,10]) e rfl (by simp only [List.length_append,List.length_cons,List.length_nil];omega)) fun k f=>T.ret (by rw [f,hp];simp [txts,Pc.txt,hs'])
 have hs':=of_decide_eq_false hs;exact T.bind (T.cat (x:=[105,110,116,32]) rfl rfl (by simp only [List.length_cons,List.length_nil];omega)) fun c a=>T.bind (T.cat (y:=[59,10]) a rfl (by simp only [List.length_append,List.length_cons,List.length_nil];omega)) fun d b=>T.ret (by rw [b,hp];simp [txts,Pc.txt,hs'])
end
section
open Go
theorem two_iff (c d:UInt8):memB ⟨#[c,d]⟩ two=true↔(c=61∧d=61)∨(c=33∧d=61)∨(c=60∧d=61)∨(c=38∧d=38)∨(c=124∧d=124):=by simp [memB]
theorem n2_of {c:UInt8}{b:List UInt8}(h:∀ d r,b=d::r→¬((c=61∧d=61)∨(c=33∧d=61)∨(c=60∧d=61)∨(c=38∧d=38)∨(c=124∧d=124))):n2 c b:=fun d r e=>by
 have:=h d r e;rw [← two_iff] at this;simpa using this
theorem n2_sp {c e:UInt8}(h:e ≠ 61∧e ≠ 38∧e ≠ 124)(l:List Pc):n2 c (txts (.sp e::l)):=n2_of fun d r q=>by
 have:e=d:=by rw [KcW] at q;exact (List.cons.inj q).1
 subst this;rintro (⟨_,h1⟩|⟨_,h1⟩|⟨_,h1⟩|⟨_,h1⟩|⟨_,h1⟩)
 ·exact h.1 h1
 ·exact h.1 h1
 ·exact h.1 h1
 ·exact h.2.1 h1
 exact h.2.2 h1
theorem n2_any {c:UInt8}(h:c ≠ 61∧c ≠ 33∧c ≠ 60∧c ≠ 38∧c ≠ 124)(b:List UInt8):n2 c b:=n2_of fun d r _=>by
 rintro (⟨h1,_⟩|⟨h1,_⟩|⟨h1,_⟩|⟨h1,_⟩|⟨h1,_⟩)
 ·exact h.1 h1
 ·exact h.2.1 h1
 ·exact h.2.2.1 h1
 ·exact h.2.2.2.1 h1
 exact h.2.2.2.2 h1
structure Sg (c:UInt8):Prop where
 k:ck c=0
 i:0≤Khr ones (c.toNat:Int)
 n:c ≠ 61∧c ≠ 33∧c ≠ 60∧c ≠ 38∧c ≠ 124
theorem Sg.lx {c:UInt8}(h:Sg c){l:List Pc}(hl:Lx l):Lx (Pc.tk (3,⟨#[c]⟩,0)::l):=.m1 c l h.k h.i (n2_any h.n _) hl
theorem ix (c:UInt8)(h:decide (0≤Khr ones (c.toNat:Int))=true):0≤Khr ones (c.toNat:Int):=of_decide_eq_true h
theorem sg40:Sg 40:=⟨by kernel_rfl,ix _ (by kernel_rfl),by decide⟩
theorem sg41:Sg 41:=⟨by kernel_rfl,ix _ (by kernel_rfl),by decide⟩
theorem sg91:Sg 91:=⟨by kernel_rfl,ix _ (by kernel_rfl),by decide⟩
theorem sg93:Sg 93:=⟨by kernel_rfl,ix _ (by kernel_rfl),by decide⟩
theorem sg59:Sg 59:=⟨by kernel_rfl,ix _ (by kernel_rfl),by decide⟩
theorem sg44:Sg 44:=⟨by kernel_rfl,ix _ (by kernel_rfl),by decide⟩
theorem sg123:Sg 123:=⟨by kernel_rfl,ix _ (by kernel_rfl),by decide⟩
theorem sg125:Sg 125:=⟨by kernel_rfl,ix _ (by kernel_rfl),by decide⟩
theorem sg42:Sg 42:=⟨by kernel_rfl,ix _ (by kernel_rfl),by decide⟩
theorem sg45:Sg 45:=⟨by kernel_rfl,ix _ (by kernel_rfl),by decide⟩
theorem sg43:Sg 43:=⟨by kernel_rfl,ix _ (by kernel_rfl),by decide⟩
theorem sg47:Sg 47:=⟨by kernel_rfl,ix _ (by kernel_rfl),by decide⟩
theorem sg37:Sg 37:=⟨by kernel_rfl,ix _ (by kernel_rfl),by decide⟩
theorem sp32 {l:List Pc}(h:Lx l):Lx (.sp 32::l):=.sp _ _ (by kernel_rfl) h
theorem sp9 {l:List Pc}(h:Lx l):Lx (.sp 9::l):=.sp _ _ (by kernel_rfl) h
theorem sp10 {l:List Pc}(h:Lx l):Lx (.sp 10::l):=.sp _ _ (by kernel_rfl) h
theorem na_of {c:UInt8}(h:ck c ≠ 2∧ck c ≠ 3)(b:List UInt8):na (c::b):=fun d r e=>by cases e;exact h
theorem na_sg {c:UInt8}(h:Sg c)(l:List Pc):na (txts (mk ⟨#[c]⟩::l)):=na_of (c:=c) (by rw [h.k];decide) (txts l)
theorem na_32 (l:List Pc):na (txts (.sp 32::l)):=na_of (c:=32) (by rw [show ck 32=1 by kernel_rfl];decide) (txts l)
theorem na_10 (l:List Pc):na (txts (.sp 10::l)):=na_of (c:=10) (by rw [show ck 10=1 by kernel_rfl];decide) (txts l)
theorem eq_lx {l:List Pc}(h:Lx l):Lx (mk ⟨#[61]⟩::.sp 32::l):=.m1 61 _ (by kernel_rfl) (ix _ (by kernel_rfl)) (n2_sp (by decide) _) (sp32 h)
theorem op_lx {op:Int}(ho:lev op < 6){l:List Pc}(h:Lx l):Lx (mk (sgn op)::.sp 32::l):=by
 have h':=sp32 h;rcases KgX ho with rfl|rfl|rfl|rfl|rfl|rfl|rfl|rfl|rfl|rfl|rfl
 ·exact sg42.lx h'
 ·exact sg47.lx h'
 ·exact sg37.lx h'
 ·exact sg43.lx h'
 ·exact sg45.lx h'
 ·exact .m1 60 _ (by kernel_rfl) (ix _ (by kernel_rfl)) (n2_sp (by decide) _) h'
 ·exact .m2 60 61 _ (by kernel_rfl) (by kernel_rfl) h'
 ·exact .m2 61 61 _ (by kernel_rfl) (by kernel_rfl) h'
 ·exact .m2 33 61 _ (by kernel_rfl) (by kernel_rfl) h'
 ·exact .m2 38 38 _ (by kernel_rfl) (by kernel_rfl) h'
 exact .m2 124 124 _ (by kernel_rfl) (by kernel_rfl) h'
abbrev words:List ByteArray:=[(ByteArray.mk #[105,110,116]),(ByteArray.mk #[105,102]),(ByteArray.mk #[101,108,115,101]),(ByteArray.mk #[119,104,105,108,101]),(ByteArray.mk #[114,101,116,117,114,110]),(ByteArray.mk #[97,115,115,101,114,116]),(ByteArray.mk #[105,110,112,117,116]),(ByteArray.mk #[110,117,108,108])]
theorem word_is (s:ByteArray):Kdv s=some (memB s words):=by
 unfold Kdv;rw [tcontI _ _ (by simp),Option.bind_some]
theorem wd_ok {c:UInt8}{r:List UInt8}{s:ByteArray}(hs:s.data.toList=c::r)(h:((c::r).all fun c=>decide (ck c=2))=true)(h2:(c::r).length≤20)(a:memB s words=true):WdOK s:=by
 have h':=List.all_eq_true.1 h;refine ⟨⟨⟨c,r,hs,of_decide_eq_true (h' c (by simp))⟩,fun d hd=>.inl ?_,by rw [hs];exact h2⟩,by rw [word_is,a]⟩;rw [hs] at hd;exact of_decide_eq_true (h' d hd)
theorem wInt:WdOK ⟨#[105,110,116]⟩:=wd_ok rfl (by kernel_rfl) (by decide) (by kernel_rfl)
theorem wIf:WdOK ⟨#[105,102]⟩:=wd_ok rfl (by kernel_rfl) (by decide) (by kernel_rfl)
theorem wElse:WdOK ⟨#[101,108,115,101]⟩:=wd_ok rfl (by kernel_rfl) (by decide) (by kernel_rfl)
theorem wWhile:WdOK ⟨#[119,104,105,108,101]⟩:=wd_ok rfl (by kernel_rfl) (by decide) (by kernel_rfl)
theorem wReturn:WdOK ⟨#[114,101,116,117,114,110]⟩:=wd_ok rfl (by kernel_rfl) (by decide) (by kernel_rfl)
theorem wAssert:WdOK ⟨#[97,115,115,101,114,116]⟩:=wd_ok rfl (by kernel_rfl) (by decide) (by kernel_rfl)
theorem wInput:WdOK ⟨#[105,110,112,117,116]⟩:=wd_ok rfl (by kernel_rfl) (by decide) (by kernel_rfl)
theorem wNull:WdOK ⟨#[110,117,108,108]⟩:=wd_ok rfl (by kernel_rfl) (by decide) (by kernel_rfl)
def Stt (l:List Pc):Prop:=∃ c r,txts l=c::r∧c ≠ 61∧c ≠ 38∧c ≠ 124∨∃ c r,txts l=c::r∧c=38
theorem stt_c {l:List Pc}{c:UInt8}{r:List UInt8}(h:txts l=c::r)(h1:c ≠ 61)(h2:c ≠ 124):Stt l:=by
 by_cases a:c=38
 ·exact ⟨0,[],.inr ⟨c,r,h,a⟩⟩
 exact ⟨c,r,.inl ⟨h,h1,a,h2⟩⟩
theorem Xd {A0 G:Prop}(a0:A0)(k:A0→G:=by intro _a;exact absurd _a (by decide)):G:=k a0
theorem stt_not {l:List Pc}(h:Stt l):n2 33 (txts l):=n2_of fun d r e=>by
 have hd:d ≠ 61:=by
  obtain ⟨c,r',⟨h1,h2,_⟩|⟨c',r'',h1,h2⟩⟩:=h
  ·rw [e] at h1;rw [(List.cons.inj h1).1];exact h2
  rw [e] at h1;rw [(List.cons.inj h1).1,h2];decide
 rintro (⟨h1,_⟩|⟨_,h1⟩|⟨h1,_⟩|⟨h1,_⟩|⟨h1,_⟩)
 ·exact Xd h1
 ·exact hd h1
 ·exact Xd h1
 ·exact Xd h1
 exact Xd h1
theorem nm_hd {s:ByteArray}(h:NmOK s)(l:List Pc):∃ c r,txts (nm s::l)=c::r∧ck c=2:=by
 obtain ⟨c,r,h1,h2⟩:=h.al.hd;exact ⟨c,r++txts l,by rw [KcW];show s.data.toList++_=_;rw [h1];rfl,h2⟩
theorem nm_st {s:ByteArray}(h:NmOK s)(l:List Pc):Stt (nm s::l):=by
 obtain ⟨c,r,h1,h2⟩:=nm_hd h l;refine stt_c h1 (fun e=>?_) (fun e=>?_)
 ·rw [e] at h2;exact absurd h2 (by rw [show ck 61=0 by kernel_rfl];decide)
 rw [e] at h2;exact absurd h2 (by rw [show ck 124=0 by kernel_rfl];decide)
theorem amp_lx {s:ByteArray}(h:NmOK s){l:List Pc}(hl:Lx (nm s::l)):Lx (mk ⟨#[38]⟩::nm s::l):=by
 refine .m1 38 _ (by kernel_rfl) (ix _ (by kernel_rfl)) (n2_of fun d r e=>?_) hl;obtain ⟨c,r',h1,h2⟩:=nm_hd h l;rw [h1] at e;have hc:=(List.cons.inj e).1;have hd:d ≠ 38:=fun q=>by rw [hc,q] at h2;exact absurd h2 (by rw [show ck 38=0 by kernel_rfl];decide)
 rintro (⟨h1,_⟩|⟨h1,_⟩|⟨h1,_⟩|⟨_,h1⟩|⟨h1,_⟩)
 ·exact Xd h1
 ·exact Xd h1
 ·exact Xd h1
 ·exact hd h1
 exact Xd h1
theorem kd_lx {k:Nat}{x:Nat×List Pc}{l:List Pc}(h:∀ l,Lx l→na (txts l)→Lx (x.2++l)∧Stt (x.2++l))(hl:Lx l)(hn:na (txts l)):Lx (kdp k x++l)∧Stt (kdp k x++l):=by
 unfold kdp;split
 ·have h1:=(h (mk ⟨#[41]⟩::l) (sg41.lx hl) (na_sg sg41 _)).1;rw [show (mk ⟨#[40]⟩::(x.2++[mk ⟨#[41]⟩]))++l=mk ⟨#[40]⟩::(x.2++(mk ⟨#[41]⟩::l)) by simp];exact ⟨sg40.lx h1,stt_c (c:=40) (r:=txts (x.2++(mk ⟨#[41]⟩::l))) rfl (by decide) (by decide)⟩
 exact h l hl hn
theorem lxE {e:Ke}(h:VE e):∀ l,Lx l→na (txts l)→Lx (pE e++l)∧Stt (pE e++l):=by
 induction h with
 |
  num n a h0 h1=>
  intro l hl hn;obtain ⟨d1,d2,c,r,b,g⟩:=dd_all n.toNat;refine ⟨.nb n l h0 h1 hn hl,stt_c (c:=c) (r:=r++txts l) ?_ (fun e=>?_) (fun e=>?_)⟩
  ·show txts (nb n::l)=_
   rw [KcW];show (itoaB n).data.toList++_=_;rw [KhM h0,b];rfl
  ·have:=d1 c (by rw [b];simp);rw [e] at this;exact absurd this (by decide)
  have:=d1 c (by rw [b];simp);rw [e] at this;exact absurd this (by decide)
 | var s a h=>intro l hl hn;exact ⟨.nm s l h hn hl,nm_st h l⟩
 | null a=>intro l hl hn;exact ⟨.wd _ l wNull hn hl,stt_c (c:=110) rfl (by decide) (by decide)⟩
 | load s a h=>intro l hl hn;exact ⟨sg42.lx (.nm s l h hn hl),stt_c (c:=42) rfl (by decide) (by decide)⟩
 | addr s a h=>intro l hl hn;exact ⟨amp_lx h (.nm s l h hn hl),stt_c (c:=38) rfl (by decide) (by decide)⟩
 |
  index s k a h _ ih=>
  intro l hl hn;have h1:=(ih (mk ⟨#[93]⟩::l) (sg93.lx hl) (na_sg sg93 _)).1;have e:pE ⟨3,0,s,[k],a⟩++l=nm s::mk ⟨#[91]⟩::(pE k++(mk ⟨#[93]⟩::l)):=by
   show (nm s::mk ⟨#[91]⟩::(pE k++[mk ⟨#[93]⟩]))++l=_;simp
  rw [e];exact ⟨.nm s _ h (na_sg sg91 _) (sg91.lx h1),nm_st h _⟩
 |
  addrAt s k a h _ ih=>
  intro l hl hn;have h1:=(ih (mk ⟨#[93]⟩::l) (sg93.lx hl) (na_sg sg93 _)).1;have e:pE ⟨20,0,s,[k],a⟩++l=mk ⟨#[38]⟩::nm s::mk ⟨#[91]⟩::(pE k++(mk ⟨#[93]⟩::l)):=by
   show (mk ⟨#[38]⟩::nm s::mk ⟨#[91]⟩::(pE k++[mk ⟨#[93]⟩]))++l=_;simp
  rw [e];exact ⟨amp_lx h (.nm s _ h (na_sg sg91 _) (sg91.lx h1)),stt_c (c:=38) rfl (by decide) (by decide)⟩
 |
  neg k a _ ih=>
  intro l hl hn;have h1:=kd_lx (k:=6) (x:=(lev k.gj,pE k)) ih hl hn;exact ⟨sg45.lx h1.1,stt_c (c:=45) rfl (by decide) (by decide)⟩
 |
  not k a _ ih=>
  intro l hl hn;have h1:=kd_lx (k:=6) (x:=(lev k.gj,pE k)) ih hl hn;exact ⟨.m1 33 _ (by kernel_rfl) (ix _ (by kernel_rfl)) (stt_not h1.2) h1.1,stt_c (c:=33) rfl (by decide) (by decide)⟩
 |
  bin op l' r a ho _ _ d f=>
  intro l hl hn;have h1:=kd_lx (k:=lev op+1) (x:=(lev r.gj,pE r)) f hl hn;have h2:=kd_lx (k:=lev op) (x:=(lev l'.gj,pE l')) d (sp32 (op_lx ho h1.1)) (na_32 _);have e:pE ⟨op,0,ByteArray.empty,[l',r],a⟩++l=kdp (lev op) (lev l'.gj,pE l')++(.sp 32::mk (sgn op)::.sp 32::(kdp (lev op+1) (lev r.gj,pE r)++l)):=by
   rw [pE_bin ho];simp
  rw [e];exact h2
theorem lxX {e:Ke}(h:VX e){l:List Pc}(hl:Lx l)(hn:na (txts l)):Lx (pE e++l):=(lxE h.1 l hl hn).1
theorem comE {es:List Ke}(h:∀ e∈es,VX e){l:List Pc}(hl:Lx l)(hn:na (txts l)):Lx (KaM (es.map pE)++l):=by
 induction es with
 | nil=>exact hl
 |
  cons e es ih=>
  have h1:=ih fun e he=>h e (by simp [he])
  cases es with
  | nil=>exact lxX (h e (by simp)) hl hn
  |
   cons f es=>
   show Lx ((pE e++(mk ⟨#[44]⟩::.sp 32::KaM (pE f::es.map pE)))++l)
   rw [List.append_assoc];exact lxX (h e (by simp)) (sg44.lx (sp32 h1)) (na_sg sg44 _)
theorem KiU {d:Nat}{x l:List Pc}(h:Lx (x++(.sp 10::l))):Lx (ind d x++l):=by
 have e:ind d x++l=List.replicate d (.sp 9)++(x++(.sp 10::l)):=by unfold ind;simp
 rw [e];clear e;induction d with
 | zero=>exact h
 | succ d ih=>rw [List.replicate_succ];exact sp9 ih
theorem pF_lx {b:Nat}{s:Kj}(h:VS b s)(i:s.gj ≠ 6)(j:s.gj ≠ 7){l:List Pc}(hl:Lx l)(hn:na (txts l)):Lx (pFs s++l):=by
 have g:=sg59.lx hl;have n59:=na_sg sg59 l;cases h with
 |
  assign d s e a hs he=>
  rw [show pFs ⟨1,s,ByteArray.empty,[e],[],[],a⟩++l=nm s::.sp 32::mk ⟨#[61]⟩::.sp 32::(pE e++(mk ⟨#[59]⟩::l)) by simp [pFs,pF]];exact .nm _ _ hs (na_32 _) (sp32 (eq_lx (lxX he g n59)))
 |
  put d s e f a hs he hf=>
  rw [show pFs ⟨2,s,ByteArray.empty,[e,f],[],[],a⟩++l=nm s::mk ⟨#[91]⟩::(pE e++(mk ⟨#[93]⟩::.sp 32::mk ⟨#[61]⟩::.sp 32::(pE f++(mk ⟨#[59]⟩::l)))) by simp [pFs,pF]];exact .nm _ _ hs (na_sg sg91 _) (sg91.lx (lxX he (sg93.lx (sp32 (eq_lx (lxX hf g n59)))) (na_sg sg93 _)))
 |
  store d s e a hs he=>
  rw [show pFs ⟨3,s,ByteArray.empty,[e],[],[],a⟩++l=mk ⟨#[42]⟩::nm s::.sp 32::mk ⟨#[61]⟩::.sp 32::(pE e++(mk ⟨#[59]⟩::l)) by simp [pFs,pF]];exact sg42.lx (.nm _ _ hs (na_32 _) (sp32 (eq_lx (lxX he g n59))))
 |
  call d f es a hf he=>
  rw [show pFs ⟨4,ByteArray.empty,f,es,[],[],a⟩++l=nm f::mk ⟨#[40]⟩::(KaM (es.map pE)++(mk ⟨#[41]⟩::mk ⟨#[59]⟩::l)) by simp [pFs,pF]];exact .nm _ _ hf (na_sg sg40 _) (sg40.lx (comE he (sg41.lx g) (na_sg sg41 _)))
 |
  callTo d s f es a hs hf he=>
  have hne:s ≠ ByteArray.empty:=fun e=>by
   obtain ⟨c,r,h,_⟩:=hs.al.hd;rw [e] at h;cases h
  rw [show pFs ⟨4,s,f,es,[],[],a⟩++l=nm s::.sp 32::mk ⟨#[61]⟩::.sp 32::nm f::mk ⟨#[40]⟩::(KaM (es.map pE)++(mk ⟨#[41]⟩::mk ⟨#[59]⟩::l)) by simp [pFs,pF,hne]];exact .nm _ _ hs (na_32 _) (sp32 (eq_lx (.nm _ _ hf (na_sg sg40 _) (sg40.lx (comE he (sg41.lx g) (na_sg sg41 _))))))
 |
  input d s a hs=>
  exact .nm _ _ hs (na_32 _) (sp32 (eq_lx (.wd _ _ wInput (na_sg sg40 _) (sg40.lx (sg41.lx g)))))
 |
  ret d e a he=>
  rw [show pFs ⟨8,ByteArray.empty,ByteArray.empty,[e],[],[],a⟩++l=mk ⟨#[114,101,116,117,114,110]⟩::.sp 32::(pE e++(mk ⟨#[59]⟩::l)) by simp [pFs,pF]];exact .wd _ _ wReturn (na_32 _) (sp32 (lxX he g n59))
 |
  assert d e a he=>
  rw [show pFs ⟨9,ByteArray.empty,ByteArray.empty,[e],[],[],a⟩++l=mk ⟨#[97,115,115,101,114,116]⟩::mk ⟨#[40]⟩::(pE e++(mk ⟨#[41]⟩::mk ⟨#[59]⟩::l)) by simp [pFs,pF]];exact .wd _ _ wAssert (na_sg sg40 _) (sg40.lx (lxX he (sg41.lx g) (na_sg sg41 _)))
 | ite d e ks ls a he hk hl=>exact absurd rfl i
 | loop d e ks a he hk=>exact absurd rfl j
mutual
theorem lxS:∀ {b:Nat} {s:Kj},VS b s→∀ (d:Nat) {l:List Pc},Lx l→Lx (pS d s++l)
 |
  b,⟨op,s,f,es,ks,ls,a⟩,h,d,l,hl=>by
  by_cases c:op=6∨op=7
  ·have key:∀ (d':Nat) (e:Ke),es=[e]→VX e→VSs d' ks→VSs d' ls→Lx (pS d ⟨op,s,f,es,ks,ls,a⟩++l):=fun d' e he hv hk hlv=>by
    subst he;have h1:Lx (ind d [mk ⟨#[125]⟩]++l):=KiU (sg125.lx (sp10 hl));have h2:Lx ((if ls.isEmpty then [] else ind d [mk ⟨#[125]⟩,.sp 32,mk ⟨#[101,108,115,101]⟩,.sp 32,mk ⟨#[123]⟩]++pSs (d+1) ls)++(ind d [mk ⟨#[125]⟩]++l)):=by
     split
     ·exact h1
     rw [List.append_assoc];exact KiU (sg125.lx (sp32 (.wd _ _ wElse (na_32 _) (sp32 (sg123.lx (sp10 (lxSs hlv (d+1) h1)))))))
    have i:=lxSs hk (d+1) h2;simp only [pS];rw [if_pos c,List.append_assoc,List.append_assoc,List.append_assoc];refine KiU ?_;have g:Lx (mk ⟨#[40]⟩::(pE e++(mk ⟨#[41]⟩::.sp 32::mk ⟨#[123]⟩::.sp 10::(pSs (d+1) ks++((if ls.isEmpty then [] else ind d [mk ⟨#[125]⟩,.sp 32,mk ⟨#[101,108,115,101]⟩,.sp 32,mk ⟨#[123]⟩]++pSs (d+1) ls)++(ind d [mk ⟨#[125]⟩]++l)))))):=sg40.lx (lxX hv (sg41.lx (sp32 (sg123.lx (sp10 i)))) (na_sg sg41 _));unfold pH;simp only [List.map_cons,List.map_nil,List.headD_cons,List.cons_append,List.append_assoc,List.nil_append];split
    ·exact .wd _ _ wIf (na_32 _) (sp32 g)
    exact .wd _ _ wWhile (na_32 _) (sp32 g)
   cases h with
   | ite d' e _ _ _ he hk hl=>exact key d' e rfl he hk hl
   | loop d' e _ _ he hk=>exact key d' e rfl he hk (.nil _)
   | _=>omega
  simp only [pS];rw [if_neg c];exact KiU (pF_lx h (by simp only;omega) (by simp only;omega) (sp10 hl) (na_10 _))
theorem lxSs:∀ {b:Nat} {l':List Kj},VSs b l'→∀ (d:Nat) {l:List Pc},Lx l→Lx (pSs d l'++l)
 | b,[],h,d,l,hl=>hl
 |
  b,s::l',h,d,l,hl=>by
  cases h with
  |
   cons _ _ _ hs hl'=>
   simp only [pSs];rw [List.append_assoc];exact lxS hs d (lxSs hl' d hl)
end
theorem lxV {v:K3}(h:NmOK v.ga){l:List Pc}(hl:Lx l)(hn:na (txts l)):Lx (pV v++l):=by
 unfold pV;simp only [List.cons_append];refine .wd _ _ wInt (na_32 _) (sp32 ?_);split
 ·exact sg42.lx (.nm _ _ h hn hl)
 exact .nm _ _ h hn hl
theorem comV {vs:List K3}(h:∀ v∈vs,NmOK v.ga){l:List Pc}(hl:Lx l)(hn:na (txts l)):Lx (KaM (vs.map pV)++l):=by
 induction vs with
 | nil=>exact hl
 |
  cons e es ih=>
  have h1:=ih fun e he=>h e (by simp [he])
  cases es with
  | nil=>exact lxV (h e (by simp)) hl hn
  |
   cons f es=>
   show Lx ((pV e++(mk ⟨#[44]⟩::.sp 32::KaM (pV f::es.map pV)))++l)
   rw [List.append_assoc];exact lxV (h e (by simp)) (sg44.lx (sp32 h1)) (na_sg sg44 _)
theorem lxLs {vs:List K3}(h:∀ v∈vs,NmOK v.ga){l:List Pc}(hl:Lx l):Lx (pLs vs++l):=by
 induction vs with
 | nil=>exact hl
 |
  cons v vs ih=>
  show Lx ((ind 1 (pV v++[mk ⟨#[59]⟩])++pLs vs)++l)
  rw [List.append_assoc];refine KiU ?_;rw [List.append_assoc];exact lxV (h v (by simp)) (sg59.lx (sp10 (ih fun v hv=>h v (by simp [hv])))) (na_sg sg59 _)
theorem lxFn {f:KG}(h:VF f):Lx (pFn f):=by
 have h1:Lx (ind 0 [mk ⟨#[125]⟩]):=sg125.lx (sp10 .nil);have h2:=lxLs h.ls (lxSs h.body 1 h1);unfold pFn;refine KiU ?_;simp only [List.cons_append,List.append_assoc,List.nil_append];exact .wd _ _ wInt (na_32 _) (sp32 (.nm _ _ h.nm (na_sg sg40 _) (sg40.lx (comV h.ps (sg41.lx (sp32 (sg123.lx (sp10 h2)))) (na_sg sg41 _)))))
end
section
open Go
mutual
def stE:Ke→Ke
 | ⟨a,b,c,ks,_⟩=>⟨a,b,c,stEs ks,0⟩
def stEs:List Ke→List Ke
 | []=>[]
 | e::l=>stE e::stEs l
end
mutual
theorem dp_st:∀ e,dpE (stE e)=dpE e
 | ⟨a,b,c,ks,d⟩=>by simp only [stE,dpE,dps_st ks]
theorem dps_st:∀ l,dpEs (stEs l)=dpEs l
 | []=>rfl
 | e::l=>by simp only [stEs,dpEs,dp_st e,dps_st l]
end
theorem Kj6 {x e:Ke}(h:stE x=stE e):dpE x=dpE e:=by rw [← dp_st x,h,dp_st]
def TA (L:List KB)(a:Nat)(ts:List Tk):Prop:=(L.drop a).map sk=ts
theorem KaJ {L:List KB}{a:Nat}{t:Tk}{ts:List Tk}(h:TA L a (t::ts)):a < L.length∧(∃ x,L[a]? = some x∧sk x=t)∧TA L (a+1) ts:=by
 unfold TA at h ⊢;have hlt:a < L.length:=by
  rcases Nat.lt_or_ge a L.length with h1|h1
  ·exact h1
  rw [List.drop_of_length_le h1] at h;cases h
 rw [List.drop_eq_getElem_cons hlt,List.map_cons] at h;obtain ⟨h1,h2⟩:=List.cons.inj h;exact ⟨hlt,⟨_,List.getElem?_eq_getElem hlt,h1⟩,h2⟩
theorem Kb7 {L:List KB}:∀ {us:List Tk} {a:Nat} {ts:List Tk},TA L a (us++ts)→TA L (a+us.length) ts
 | [],a,ts,h=>h
 |
  u::us,a,ts,h=>by
  have:=Kb7 (KaJ h).2.2;rw [List.length_cons,show a+(us.length+1)=a+1+us.length by omega];exact this
theorem Kf5 {L:List KB}{a:Nat}{t:Tk}{ts:List Tk}(h:TA L a (t::ts))(e:Int):∃ x,Ka8 ⟨L,(a:Int),e⟩=some x∧sk x=t:=by
 obtain ⟨h1,⟨x,h2,b⟩,_⟩:=KaJ h;refine ⟨x,?_,b⟩;unfold Ka8;simp only;rw [decide_eq_false (by omega),cond_false,Kdq,h2];rfl
theorem is_ta {L:List KB}{a:Nat}{t:Tk}{ts:List Tk}(h:TA L a (t::ts))(e:Int)(s:ByteArray):Kce ⟨L,(a:Int),e⟩ s=some (bif t.1==(3:Int) then decide (t.2.1=s) else false):=by
 obtain ⟨x,h1,h2⟩:=Kf5 h e;unfold Kce;rw [h1,Option.bind_some,← h2];show (bif x.gt==3 then some (decide (x.gr=s)) else some false)=some (bif x.gt==3 then decide (x.gr=s) else false)
 cases x.gt==3<;>rfl
def fol (k:Nat)(ts:List Tk):Prop:=∃ t r,ts=t::r∧(t.1=3→t.2.1 ≠ ⟨#[91]⟩∧∀ j:Nat,k≤j→j < 6→Ka5 (j:Int) t.2.1=some 0)
theorem fol_of {s:ByteArray}(h:s ≠ ⟨#[91]⟩)(h0:Ka5 0 s=some 0)(h1:Ka5 1 s=some 0)(h2:Ka5 2 s=some 0)(a:Ka5 3 s=some 0)(b:Ka5 4 s=some 0)(c:Ka5 5 s=some 0)(k:Nat)(r:List Tk):fol k ((3,s,0)::r):=by
 refine ⟨_,r,rfl,fun _=>⟨h,fun j _ hj=>?_⟩⟩;have:j=0∨j=1∨j=2∨j=3∨j=4∨j=5:=by omega
 rcases this with rfl|rfl|rfl|rfl|rfl|rfl<;>assumption
theorem fol41 (k:Nat)(r:List Tk):fol k ((3,⟨#[41]⟩,0)::r):=fol_of (by decide) (by kernel_rfl) (by kernel_rfl) (by kernel_rfl) (by kernel_rfl) (by kernel_rfl) (by kernel_rfl) k r
theorem fol93 (k:Nat)(r:List Tk):fol k ((3,⟨#[93]⟩,0)::r):=fol_of (by decide) (by kernel_rfl) (by kernel_rfl) (by kernel_rfl) (by kernel_rfl) (by kernel_rfl) (by kernel_rfl) k r
theorem fol59 (k:Nat)(r:List Tk):fol k ((3,⟨#[59]⟩,0)::r):=fol_of (by decide) (by kernel_rfl) (by kernel_rfl) (by kernel_rfl) (by kernel_rfl) (by kernel_rfl) (by kernel_rfl) k r
theorem fol44 (k:Nat)(r:List Tk):fol k ((3,⟨#[44]⟩,0)::r):=fol_of (by decide) (by kernel_rfl) (by kernel_rfl) (by kernel_rfl) (by kernel_rfl) (by kernel_rfl) (by kernel_rfl) k r
theorem fol_up {k j:Nat}{ts:List Tk}(h:fol k ts)(hk:k≤j):fol j ts:=by
 obtain ⟨t,r,h1,h2⟩:=h;exact ⟨t,r,h1,fun e=>⟨(h2 e).1,fun i hi=>(h2 e).2 i (by omega)⟩⟩
theorem Kl6 {op:Int}(h:((List.range 6).all fun j:Nat=>decide (Ka5 (j:Int) (sgn op)=some (if j=lev op then op else 0)))=true):∀ j:Nat,j < 6→Ka5 (j:Int) (sgn op)=some (if j=lev op then op else 0):=fun j hj=>of_decide_eq_true (List.all_eq_true.1 h j (List.mem_range.2 hj))
theorem Kkk {op:Int}(ho:lev op < 6):sgn op ≠ ⟨#[91]⟩∧∀ j:Nat,j < 6→Ka5 (j:Int) (sgn op)=some (if j=lev op then op else 0):=by
 rcases KgX ho with rfl|rfl|rfl|rfl|rfl|rfl|rfl|rfl|rfl|rfl|rfl;all_goals exact ⟨by decide,Kl6 (by kernel_rfl)⟩
theorem op_ne {op:Int}(ho:lev op < 6):op ≠ 0:=fun e=>by subst e;revert ho;decide
theorem fol_sgn {op:Int}(ho:lev op < 6)(r:List Tk):fol (lev op+1) ((3,sgn op,0)::r):=by
 obtain ⟨h1,h2⟩:=Kkk ho;refine ⟨_,r,rfl,fun _=>⟨h1,fun j hj a=>?_⟩⟩;rw [h2 j a,if_neg (by omega)]
structure RX (L:List KB) (a n:Nat) (e:Ke) (q:Ke×Ki):Prop where
 r:q.2=⟨L,((a+n:Nat):Int),0⟩
 s:stE q.1=stE e
 v:VE q.1
theorem KkH {L:List KB}{p:Int}{x:Ke}(hv:VE x)(hd:dpE x≤24)(a:Int):KaY ⟨L,p,0⟩ x a=some (x,⟨L,p,0⟩):=by
 unfold KaY;show (bif false then _ else (KfT x).bind _)=_
 rw [cond_false,deepV hv (by omega),Option.bind_some,decide_eq_false (by omega),cond_false]
theorem Kk5 (k:Nat)(e:Ke):tks (pKd k e)=if lev e.gj < k then (3,⟨#[40]⟩,0)::(tks (pE e)++[(3,⟨#[41]⟩,0)]) else tks (pE e):=by
 show tks (kdp k (lev e.gj,pE e))=_
 unfold kdp;split
 ·simp only [tks,KaF]
 rfl
theorem tks_bin {op:Int}(ho:lev op < 6)(n:Int)(s:ByteArray)(l r:Ke)(a:Int):tks (pE ⟨op,n,s,[l,r],a⟩)=tks (pKd (lev op) l)++((3,sgn op,0)::tks (pKd (lev op+1) r)):=by
 rw [pE_bin ho,KaF];simp only [tks]
theorem spine {g0:Ki→Int→Option (Ke×Ki)}{k:Nat}(hk:k < 6){L:List KB}(hL:L.length≤5000){F:List KB×Int×Int×Int×Int×ByteArray×List Ke×Int→Option (Step (List KB×Int×Int×Int×Int×ByteArray×List Ke×Int) (List KB×Int×Int×Int×Int×ByteArray×List Ke×Int))}
  (hF:∀ b,F b=(bif (b.2.2.1==(0:Int)) then ((Ka8 (⟨b.1,b.2.1,b.2.2.1⟩:Ki)).bind fun g=>(Option.bind (α:=Int) (bif (g.gt==(3:Int)) then ((Ka5 (k:Int) g.gr).bind fun q=>some q) else some (0:Int)) fun j=>(bif (j==(0:Int)) then some (.done (b.1,b.2.1,b.2.2.1,b.2.2.2.1,b.2.2.2.2.1,b.2.2.2.2.2.1,b.2.2.2.2.2.2.1,b.2.2.2.2.2.2.2)) else ((g0 (⟨b.1,(IntKind.i64.wrap (b.2.1+(1:Int))),b.2.2.1⟩:Ki) (IntKind.i64.wrap ((k:Int)+(1:Int)))).bind fun m=>((KaY m.2 (⟨j,(0:Int),ByteArray.empty,([(⟨b.2.2.2.1,b.2.2.2.2.1,b.2.2.2.2.2.1,b.2.2.2.2.2.2.1,b.2.2.2.2.2.2.2⟩:Ke),m.1]:List Ke),g.gb⟩:Ke) b.2.1).bind fun d=>some (.next (d.2.gL,d.2.gb,d.2.gE,d.1.gj,d.1.gN,d.1.ga,d.1.gc,d.1.gb))))))) else some (.done (b.1,b.2.1,b.2.2.1,b.2.2.2.1,b.2.2.2.2.1,b.2.2.2.2.2.1,b.2.2.2.2.2.2.1,b.2.2.2.2.2.2.2))))
  {β:Type} {G:List KB×Int×Int×Int×Int×ByteArray×List Ke×Int→Option β} {Q:β→Prop} {n0:Nat}
  (hR:∀ (a:Nat) (e:Ke) (ts:List Tk),n0≤a→VE e→dpE e≤24→TA L a (tks (pKd (k+1) e)++ts)→fol (k+1) ts→T (g0 ⟨L,(a:Int),0⟩ (IntKind.i64.wrap ((k:Int)+(1:Int)))) (RX L a (tks (pKd (k+1) e)).length e))
  {e:Ke} (hv:VE e):∀ (a:Nat) (ts:List Tk),n0≤a→dpE e≤24→TA L a (tks (pKd k e)++ts)→fol (k+1) ts →
   (∀ x:Ke,stE x=stE e→VE x→T (Option.bind (loopM F (L,((a+(tks (pKd k e)).length:Nat):Int),0,x.gj,x.gN,x.ga,x.gc,x.gb)) G) Q) →
   T ((g0 ⟨L,(a:Int),0⟩ (IntKind.i64.wrap ((k:Int)+(1:Int)))).bind fun c=>Option.bind (loopM F (c.2.gL,c.2.gb,c.2.gE,c.1.gj,c.1.gN,c.1.ga,c.1.gc,c.1.gb)) G) Q:=by
 have direct:∀ e:Ke,VE e→lev e.gj ≠ k→∀ (a:Nat) (ts:List Tk),n0≤a→dpE e≤24→TA L a (tks (pKd k e)++ts)→fol (k+1) ts →
   (∀ x:Ke,stE x=stE e→VE x→T (Option.bind (loopM F (L,((a+(tks (pKd k e)).length:Nat):Int),0,x.gj,x.gN,x.ga,x.gc,x.gb)) G) Q) →
   T ((g0 ⟨L,(a:Int),0⟩ (IntKind.i64.wrap ((k:Int)+(1:Int)))).bind fun c=>Option.bind (loopM F (c.2.gL,c.2.gb,c.2.gE,c.1.gj,c.1.gN,c.1.ga,c.1.gc,c.1.gb)) G) Q:=by
  intro e hv hne a ts ha hd hta hf hq;have hkd:pKd (k+1) e=pKd k e:=kd_up (x:=(lev e.gj,pE e)) hne;have h1:=hR a e ts ha hv hd (by rw [hkd];exact hta) hf;rw [hkd] at h1;refine T.bind h1 fun r hr=>?_
  rw [hr.r];exact hq r.1 hr.s hr.v
 induction hv with
 |
  bin op l r at_ ho hl hr u B=>
  by_cases hlev:lev op=k
  ·intro a ts ha hd hta hf hq;subst hlev;have hown:pKd (lev op) ⟨op,0,ByteArray.empty,[l,r],at_⟩=pE ⟨op,0,ByteArray.empty,[l,r],at_⟩:=kd_own (Nat.le_refl _);rw [hown,tks_bin ho,List.append_assoc,List.cons_append] at hta;rw [hown,tks_bin ho] at hq;rw [dp2] at hd;refine u a _ ha (by omega) hta (fol_sgn ho _) fun x hx hxv=>?_
   have i:=Kb7 hta;generalize hp:a+(tks (pKd (lev op) l)).length=p at *;obtain ⟨t,w,o⟩:=Kf5 i 0;have y:=(KaJ i).2.2;have hplt:=(KaJ i).1;obtain ⟨r',z,f⟩:=hR (p+1) r ts (by omega) hr (by omega) y hf;have A:t.gt=3:=congrArg Prod.fst o;have htx:t.gr=sgn op:=congrArg (fun t:Tk=>t.2.1) o;have hbt:=(Kkk ho).2 (lev op) hk;rw [if_pos rfl] at hbt;have hnv:VE ⟨op,0,ByteArray.empty,[⟨x.gj,x.gN,x.ga,x.gc,x.gb⟩,r'.1],t.gb⟩:=by rw [xeta];exact .bin _ _ _ _ ho hxv f.v
   have hnd:dpE ⟨op,0,ByteArray.empty,[⟨x.gj,x.gN,x.ga,x.gc,x.gb⟩,r'.1],t.gb⟩≤24:=by rw [xeta,dp2,Kj6 hx,Kj6 f.s];omega
   have hstep:F (L,(p:Int),0,x.gj,x.gN,x.ga,x.gc,x.gb)=some (.next (L,((p+1+(tks (pKd (lev op+1) r)).length:Nat):Int),0,op,0,ByteArray.empty,[x,r'.1],t.gb)):=by
    rw [hF];simp only;rw [show ((0:Int)==0)=true from rfl,cond_true,w,Option.bind_some,A,show ((3:Int)==3)=true from rfl,cond_true,htx,hbt,Option.bind_some,Option.bind_some,show (op==0)=false from beq_eq_false_iff_ne.2 (op_ne ho),cond_false,wn (by omega),z,Option.bind_some,f.r,KkH hnv hnd,Option.bind_some,xeta]
   rw [KcM hstep];have:=hq ⟨op,0,ByteArray.empty,[x,r'.1],t.gb⟩ (by simp only [stE,stEs,hx,f.s]) (.bin _ _ _ _ ho hxv f.v);rw [List.length_append,List.length_cons,show a+((tks (pKd (lev op) l)).length+((tks (pKd (lev op+1) r)).length+1))=p+1+(tks (pKd (lev op+1) r)).length by omega] at this;exact this
  exact direct _ (.bin op l r at_ ho hl hr) hlev
 | num n a h0 h1=>exact direct _ (.num n a h0 h1) (by show 6 ≠ k;omega)
 | var s a h=>exact direct _ (.var s a h) (by show 6 ≠ k;omega)
 | null a=>exact direct _ (.null a) (by show 6 ≠ k;omega)
 | load s a h=>exact direct _ (.load s a h) (by show 6 ≠ k;omega)
 | addr s a h=>exact direct _ (.addr s a h) (by show 6 ≠ k;omega)
 | index s k' a h hk'=>exact direct _ (.index s k' a h hk') (by show 6 ≠ k;omega)
 | addrAt s k' a h hk'=>exact direct _ (.addrAt s k' a h hk') (by show 6 ≠ k;omega)
 | neg k' a hk'=>exact direct _ (.neg k' a hk') (by show 6 ≠ k;omega)
 | not k' a hk'=>exact direct _ (.not k' a hk') (by show 6 ≠ k;omega)
end
section
open Go
theorem par_tks {k:Nat}{e:Ke}(h:lev e.gj < k):tks (pKd k e)=(3,⟨#[40]⟩,0)::(tks (pE e)++[(3,⟨#[41]⟩,0)]):=by rw [Kk5,if_pos h]
theorem KeF {k:Nat}{e:Ke}(h:k≤lev e.gj):tks (pKd k e)=tks (pE e):=by rw [Kk5,if_neg (by omega)]
theorem name_ta {L:List KB}{a:Nat}{s:ByteArray}{n:Int}{ts:List Tk}(hL:L.length≤5000)(h:TA L a ((1,s,n)::ts)):Kbw ⟨L,(a:Int),0⟩=some (s,⟨L,((a+1:Nat):Int),0⟩):=by
 obtain ⟨x,h1,h2⟩:=Kf5 h 0;have hlt:=(KaJ h).1;have hk:x.gt=1:=congrArg Prod.fst h2;have ht:x.gr=s:=congrArg (fun t:Tk=>t.2.1) h2;unfold Kbw;rw [h1,Option.bind_some,hk,ht];show some (s,(⟨L,IntKind.i64.wrap ((a:Int)+1),0⟩:Ki))=_
 rw [wn (by omega)]
theorem eat_ta {L:List KB}{a:Nat}{s:ByteArray}{n:Int}{ts:List Tk}(hL:L.length≤5000)(h:TA L a ((3,s,n)::ts)):Kcp ⟨L,(a:Int),0⟩ s=some ⟨L,((a+1:Nat):Int),0⟩:=by
 have hlt:=(KaJ h).1;unfold Kcp;rw [is_ta h 0 s];show (Option.bind (some (decide (s=s))) _)=_
 rw [decide_eq_true rfl,Option.bind_some];show some (⟨L,IntKind.i64.wrap ((a:Int)+1),0⟩:Ki)=_
 rw [wn (by omega)]
theorem rt {L:List KB}(hL:L.length≤5000):∀ N:Nat,
  (∀ (a k:Nat) (e:Ke) (ts:List Tk),VE e→dpE e≤24→k≤6→TA L a (tks (pKd k e)++ts)→fol k ts→12*(L.length+1 - a)+(8 - k)≤N→T ((PG N).1 ⟨L,(a:Int),0⟩ (k:Int)) (RX L a (tks (pKd k e)).length e)) ∧
  (∀ (a:Nat) (e:Ke) (ts:List Tk),VE e→dpE e≤24→TA L a (tks (pKd 6 e)++ts)→fol 6 ts→12*(L.length+1 - a)+1≤N→T ((PG N).2.1 ⟨L,(a:Int),0⟩) (RX L a (tks (pKd 6 e)).length e)) ∧
  (∀ (a:Nat) (x:Ke) (k at_:Int) (ts:List Tk),TA L a ts→fol 6 ts→1≤N→T ((PG N).2.2.1 ⟨L,(a:Int),0⟩ x k at_) fun r=>r=(x,⟨L,(a:Int),0⟩)) ∧
  (∀ (a:Nat) (o:Int) (s:ByteArray) (p k at_:Int) (e:Ke) (ts:List Tk),NmOK s→(k=3∨k=20)→VE e→dpE e≤23→TA L a ((3,⟨#[91]⟩,0)::(tks (pE e)++((3,⟨#[93]⟩,0)::ts)))→12*(L.length+1 - a)+1≤N→T ((PG N).2.2.1 ⟨L,(a:Int),0⟩ ⟨o,0,s,[],p⟩ k at_) fun r=>r.2=⟨L,((a+((tks (pE e)).length+2):Nat):Int),0⟩∧stE r.1=⟨k,0,s,[stE e],0⟩∧VE r.1) ∧
  (∀ (a:Nat) (e:Ke) (s:ByteArray) (ts:List Tk),(s=⟨#[41]⟩∨s=⟨#[93]⟩)→VE e→dpE e≤24→TA L a (tks (pE e)++((3,s,0)::ts))→12*(L.length+1 - a)+9≤N→T ((PG N).2.2.2.1 ⟨L,(a:Int),0⟩ s) (RX L a ((tks (pE e)).length+1) e)) ∧
  (∀ (a:Nat) (e:Ke) (t:KB) (tl ts:List Tk) (at_:Int),VE e→dpE e≤24→tks (pKd 6 e)=sk t::tl→t.gt=3→TA L a (tl++ts)→fol 6 ts→12*(L.length+1 - a)+10≤N→T ((PG N).2.2.2.2 ⟨L,(a:Int),0⟩ t at_) (RX L a tl.length e))
 | 0=>⟨fun _ _ _ _ _ _ _ _ _ h=>by omega,fun _ _ _ _ _ _ _ h=>by omega,fun _ _ _ _ _ _ _ h=>by omega,fun _ _ _ _ _ _ _ _ _ _ _ _ _ h=>by omega,fun _ _ _ _ _ _ _ _ h=>by omega,fun _ _ _ _ _ _ _ _ _ _ _ _ h=>by omega⟩
 |
  N+1=>by
  obtain ⟨iR,iU,C,D,iA,iS⟩:=rt hL N;refine ⟨fun a k e ts hv hd hk hta hf hN=>?_,fun a e ts hv hd hta hf hN=>?_,fun a x k at_ ts hta hf hN=>?_,fun a o s p k at_ e ts hs hk hv hd hta hN=>?_,fun a e s ts hs hv hd hta hN=>?_,fun a e t tl ts at_ hv hd ht hk hta hf hN=>?_⟩
  ·show T (Kbk (PG N).1 (PG N).2.1 (PG N).2.2.1 (PG N).2.2.2.1 (PG N).2.2.2.2 ⟨L,(a:Int),0⟩ (k:Int)) _
   unfold Kbk;refine T.cond (fun h=>?_) fun h=>?_
   ·have:k=6:=by
         have:(k:Int)=6:=by simpa using h
         omega
    subst this;exact T.bind (iU a e ts hv hd hta hf (by omega)) fun r hr=>T.ret hr
   have E:k < 6:=by
    have:¬ (k:Int)=6:=by simpa using h
    omega
   refine spine E hL (fun _=>rfl) (n0:=a) (fun a' e' ts' ha' hv' hd' hta' hf'=>?_) hv a ts (Nat.le_refl _) hd hta (fol_up hf (by omega)) fun x hx hxv=>?_
   ·rw [wn (by omega)];exact iR a' (k+1) e' ts' hv' hd' (by omega) hta' hf' (by omega)
   have j:=Kb7 hta;obtain ⟨t,r,h1,h2⟩:=hf;rw [h1] at j;obtain ⟨y,R,F⟩:=Kf5 j 0;refine T.bind (P:=fun s=>s=(L,((a+(tks (pKd k e)).length:Nat):Int),0,x.gj,x.gN,x.ga,x.gc,x.gb)) (T.eq (KbA ?_) rfl) fun s hs=>T.ret ?_
   ·simp only;rw [show ((0:Int)==0)=true from rfl,cond_true,R,Option.bind_some];have hy:(bif (y.gt==(3:Int)) then ((Ka5 (k:Int) y.gr).bind fun S=>some S) else some (0:Int))=some 0:=by
     cases m:y.gt==3 with
     | false=>rfl
     |
      true=>
      have U:t.1=3:=by rw [← F];simpa [sk] using m
      have htx:y.gr=t.2.1:=by rw [← F];rfl
      rw [cond_true,htx,(h2 U).2 k (Nat.le_refl _) E];rfl
    rw [hy];rfl
   subst hs;exact ⟨rfl,by simp only;rw [xeta];exact hx,by simp only;rw [xeta];exact hxv⟩
  ·show T (Kbd (PG N).1 (PG N).2.1 (PG N).2.2.1 (PG N).2.2.2.1 (PG N).2.2.2.2 ⟨L,(a:Int),0⟩) _
   unfold Kbd
   have mark:∀ (s:ByteArray) (tl:List Tk),tks (pKd 6 e)=(3,s,0)::tl→T ((Ka8 (⟨L,(a:Int),0⟩:Ki)).bind fun c=>(bif ((0:Int) != (0:Int)) then some (qZ4,(⟨L,(a:Int),0⟩:Ki)) else (bif (c.gt==(2:Int)) then some ((⟨(1:Int),c.gN,ByteArray.empty,[],c.gb⟩:Ke),(⟨L,(IntKind.i64.wrap ((a:Int)+(1:Int))),0⟩:Ki)) else (bif (c.gt==(1:Int)) then (((PG N).2.2.1 (⟨L,(IntKind.i64.wrap ((a:Int)+(1:Int))),0⟩:Ki) (⟨(2:Int),(0:Int),c.gr,[],c.gb⟩:Ke) (3:Int) (a:Int)).bind fun G=>some (G.1,G.2)) else (bif (c.gt==(3:Int)) then (((PG N).2.2.2.2 (⟨L,(IntKind.i64.wrap ((a:Int)+(1:Int))),0⟩:Ki) c (a:Int)).bind fun H=>some (H.1,H.2)) else ((Ka9 (⟨L,(IntKind.i64.wrap ((a:Int)+(1:Int))),0⟩:Ki) (a:Int) (3:Int)).bind fun V=>some (qZ4,V))))))) (RX L a (tks (pKd 6 e)).length e):=fun s tl h=>by
    rw [h,List.cons_append] at hta;obtain ⟨x,h1,h2⟩:=Kf5 hta 0;obtain ⟨hlt,_,d⟩:=KaJ hta;have hk:x.gt=3:=congrArg Prod.fst h2;rw [h1,Option.bind_some,hk,wn (by omega)];refine T.bind (iS (a+1) e x tl ts (a:Int) hv hd (by rw [h,h2]) hk d hf (by omega)) fun r hr=>T.ret ?_
    refine ⟨?_,hr.s,hr.v⟩;show r.2=_
    rw [hr.r,h,List.length_cons,show a+1+tl.length=a+(tl.length+1) by omega]
   cases hv with
   |
    num n p h0 h1=>
    have htk:tks (pKd 6 ⟨1,n,ByteArray.empty,[],p⟩)=[(2,itoaB n,n)]:=rfl;rw [htk] at hta ⊢;obtain ⟨x,f,c⟩:=Kf5 hta 0;have hlt:=(KaJ hta).1;have hk:x.gt=2:=congrArg Prod.fst c;have hn:x.gN=n:=congrArg (fun t:Tk=>t.2.2) c;rw [f,Option.bind_some,hk,hn];refine T.ret ⟨?_,rfl,.num _ _ h0 h1⟩;show (⟨L,IntKind.i64.wrap ((a:Int)+1),0⟩:Ki)=_
    rw [wn (by omega)];rfl
   |
    var s p h=>
    have htk:tks (pKd 6 ⟨2,0,s,[],p⟩)=[(1,s,0)]:=rfl;rw [htk] at hta ⊢;obtain ⟨x,f,c⟩:=Kf5 hta 0;obtain ⟨hlt,_,d⟩:=KaJ hta;have hk:x.gt=1:=congrArg Prod.fst c;have hn:x.gr=s:=congrArg (fun t:Tk=>t.2.1) c;rw [f,Option.bind_some,hk,hn];show T (((PG N).2.2.1 ⟨L,IntKind.i64.wrap ((a:Int)+1),0⟩ ⟨2,0,s,[],x.gb⟩ 3 (a:Int)).bind _) _
    rw [wn (by omega)];refine T.bind (C (a+1) _ _ _ ts d hf (by omega)) fun r hr=>T.ret ?_
    subst hr;exact ⟨rfl,rfl,.var _ _ h⟩
   |
    index s k p h hk'=>
    have htk:tks (pKd 6 ⟨3,0,s,[k],p⟩)=(1,s,0)::(3,⟨#[91]⟩,0)::(tks (pE k)++[(3,⟨#[93]⟩,0)]):=by
     rw [KeF (Nat.le_refl 6)];show tks (nm s::mk ⟨#[91]⟩::(pE k++[mk ⟨#[93]⟩]))=_
     simp only [tks,KaF]
    rw [htk] at hta ⊢;simp only [List.cons_append,List.append_assoc,List.nil_append] at hta;rw [dp1] at hd;obtain ⟨x,f,c⟩:=Kf5 hta 0;obtain ⟨hlt,_,d⟩:=KaJ hta;have hk:x.gt=1:=congrArg Prod.fst c;have hn:x.gr=s:=congrArg (fun t:Tk=>t.2.1) c;rw [f,Option.bind_some,hk,hn];show T (((PG N).2.2.1 ⟨L,IntKind.i64.wrap ((a:Int)+1),0⟩ ⟨2,0,s,[],x.gb⟩ 3 (a:Int)).bind _) _
    rw [wn (by omega)];refine T.bind (D (a+1) 2 s x.gb 3 (a:Int) k ts h (.inl rfl) hk' (by omega) d (by omega)) fun r hr=>T.ret ?_
    obtain ⟨u,w,z⟩:=hr;refine ⟨?_,by simp only;rw [w];simp only [stE,stEs],z⟩;show r.2=_
    rw [u];simp only [List.length_cons,List.length_append,List.length_nil];rw [show a+1+((tks (pE k)).length+2)=a+((tks (pE k)).length+(0+1)+1+1) by omega]
   | bin op l r p ho hl hr=>exact mark _ _ (par_tks ho)
   | null p=>exact mark _ _ rfl
   | load s p h=>exact mark _ _ rfl
   | addr s p h=>exact mark _ _ rfl
   |
    addrAt s k p h hk'=>
    refine mark ⟨#[38]⟩ ((1,s,0)::(3,⟨#[91]⟩,0)::(tks (pE k)++[(3,⟨#[93]⟩,0)])) ?_;rw [KeF (Nat.le_refl 6)];show tks (mk ⟨#[38]⟩::nm s::mk ⟨#[91]⟩::(pE k++[mk ⟨#[93]⟩]))=_
    simp only [tks,KaF]
   | neg k p hk'=>exact mark ⟨#[45]⟩ (tks (pKd 6 k)) (KeF (Nat.le_refl 6))
   | not k p hk'=>exact mark ⟨#[33]⟩ (tks (pKd 6 k)) (KeF (Nat.le_refl 6))
  ·show T (KaN (PG N).1 (PG N).2.1 (PG N).2.2.1 (PG N).2.2.2.1 (PG N).2.2.2.2 ⟨L,(a:Int),0⟩ x k at_) _
   unfold KaN;obtain ⟨t,r,h1,h2⟩:=hf;rw [h1] at hta;have his:(bif t.1==(3:Int) then decide (t.2.1=(⟨#[91]⟩:ByteArray)) else false)=false:=by
    cases m:t.1==3 with
    | false=>rfl
    | true=>exact decide_eq_false (h2 (by simpa using m)).1
   show T (Option.bind ((Kce ⟨L,(a:Int),0⟩ qZ20).bind fun A=>some (!A)) _) _
   rw [is_ta hta 0,his];exact T.ret rfl
  ·show T (KaN (PG N).1 (PG N).2.1 (PG N).2.2.1 (PG N).2.2.2.1 (PG N).2.2.2.2 ⟨L,(a:Int),0⟩ ⟨o,0,s,[],p⟩ k at_) _
   unfold KaN;obtain ⟨hlt,_,d⟩:=KaJ hta;show T (Option.bind ((Kce ⟨L,(a:Int),0⟩ qZ20).bind fun A=>some (!A)) _) _
   rw [is_ta hta 0];show T (((PG N).2.2.2.1 ⟨L,IntKind.i64.wrap ((a:Int)+1),0⟩ qZ21).bind fun I=>((KaY I.2 (⟨k,0,s,([I.1]:List Ke),p⟩:Ke) at_).bind fun J=>some (J.1,J.2))) _
   rw [wn (by omega)];refine T.bind (iA (a+1) e _ ts (.inr rfl) hv (by omega) d (by omega)) fun r hr=>?_
   have hnv:VE ⟨k,0,s,[r.1],p⟩:=by
    rcases hk with rfl|rfl
    ·exact .index _ _ _ hs hr.v
    exact .addrAt _ _ _ hs hr.v
   rw [hr.r,KkH hnv (by rw [dp1,Kj6 hr.s];omega)];refine T.ret ⟨?_,by simp only [stE,stEs,hr.s],hnv⟩;show (⟨L,_,0⟩:Ki)=_
   rw [show a+1+((tks (pE e)).length+1)=a+((tks (pE e)).length+2) by omega]
  ·show T (Kbl (PG N).1 (PG N).2.1 (PG N).2.2.1 (PG N).2.2.2.1 (PG N).2.2.2.2 ⟨L,(a:Int),0⟩ s) _
   unfold Kbl;have h0:tks (pKd 0 e)=tks (pE e):=KeF (Nat.zero_le _);have hf:fol 0 ((3,s,0)::ts):=by
    rcases hs with rfl|rfl
    ·exact fol41 _ _
    exact fol93 _ _
   have h1:=iR a 0 e _ hv hd (by omega) (by rw [h0];exact hta) hf (by omega);rw [h0] at h1;refine T.bind h1 fun r hr=>?_
   have j:=Kb7 hta;rw [hr.r];refine T.cond (fun _=>?_) fun h=>by cases h
   rw [eat_ta hL j];exact T.ret ⟨rfl,hr.s,hr.v⟩
  show T (Kbe (PG N).1 (PG N).2.1 (PG N).2.2.1 (PG N).2.2.2.1 (PG N).2.2.2.2 ⟨L,(a:Int),0⟩ t at_) _
  unfold Kbe
  have un:∀ (s:ByteArray) (op:Int) (k:Ke),(s=⟨#[45]⟩∧op=5∨s=⟨#[33]⟩∧op=6)→t.gr=s→VE k→dpE k≤23→tl=tks (pKd 6 k)→stE e=⟨op,0,ByteArray.empty,[stE k],0⟩→T (Option.bind (α:=Bool) (bif (decide (t.gr=qZ19)) then some (decide (t.gr=qZ19)) else some (decide (t.gr=qZ25))) fun W=>(bif W then ((KcC t.gr qZ19 (5:Int) qZ25 (6:Int)).bind fun B=>(((PG N).2.1 ⟨L,(a:Int),0⟩).bind fun g=>((KaY g.2 (⟨B,(0:Int),ByteArray.empty,([g.1]:List Ke),t.gb⟩:Ke) at_).bind fun i=>some (i.1,i.2)))) else (bif (decide (t.gr=qZ16)) then ((Kbw ⟨L,(a:Int),0⟩).bind fun K=>some ((⟨(4:Int),(0:Int),K.1,[],t.gb⟩:Ke),K.2)) else (bif (decide (t.gr=(ByteArray.mk #[38]))) then ((Kbw ⟨L,(a:Int),0⟩).bind fun M=>(((PG N).2.2.1 M.2 (⟨(19:Int),(0:Int),M.1,[],t.gb⟩:Ke) (20:Int) at_).bind fun O=>some (O.1,O.2))) else (bif (decide (t.gr=(ByteArray.mk #[110,117,108,108]))) then some ((⟨(18:Int),(0:Int),ByteArray.empty,[],t.gb⟩:Ke),⟨L,(a:Int),0⟩) else (bif (decide (t.gr=qZ8)) then (((PG N).2.2.2.1 ⟨L,(a:Int),0⟩ qZ10).bind fun Q=>some (Q.1,Q.2)) else ((Ka9 ⟨L,(a:Int),0⟩ at_ (3:Int)).bind fun X=>some (qZ4,X)))))))) (RX L a tl.length e):=fun s op k hs htx hkv hkd htl hst=>by
   subst htl;have key:∀ b:Bool,b=true→KcC t.gr qZ19 (5:Int) qZ25 (6:Int)=some op→T (bif b then ((KcC t.gr qZ19 (5:Int) qZ25 (6:Int)).bind fun B=>(((PG N).2.1 ⟨L,(a:Int),0⟩).bind fun g=>((KaY g.2 (⟨B,(0:Int),ByteArray.empty,([g.1]:List Ke),t.gb⟩:Ke) at_).bind fun i=>some (i.1,i.2)))) else none) (RX L a (tks (pKd 6 k)).length e):=fun b hb hp=>by
    rw [hb,cond_true,hp,Option.bind_some];refine T.bind (iU a k ts hkv (by omega) hta hf (by omega)) fun r hr=>?_
    have hnv:VE ⟨op,0,ByteArray.empty,[r.1],t.gb⟩:=by
     rcases hs with ⟨_,rfl⟩|⟨_,rfl⟩
     ·exact .neg _ _ hr.v
     exact .not _ _ hr.v
    rw [hr.r,KkH hnv (by rw [dp1,Kj6 hr.s];omega)];exact T.ret ⟨rfl,by rw [hst];simp only [stE,stEs,hr.s],hnv⟩
   rcases hs with ⟨rfl,rfl⟩|⟨rfl,rfl⟩
   ·rw [htx] at key ⊢;have:=key true rfl (by kernel_rfl);exact this
   rw [htx] at key ⊢;have:=key true rfl (by kernel_rfl);exact this
  have no:∀ {s:ByteArray} (h1:t.gr=s) {s':ByteArray},s ≠ s'→decide (t.gr=s')=false:=by
   intro s h1 s' h2;exact decide_eq_false (by rw [h1];exact h2)
  cases hv with
  |
   num n p h0 h1=>
   have:(2,itoaB n,n)=sk t:=(List.cons.inj ht).1;have:t.gt=2:=(congrArg Prod.fst this).symm;omega
  |
   var s p h=>
   have:(1,s,(0:Int))=sk t:=(List.cons.inj ht).1;have:t.gt=1:=(congrArg Prod.fst this).symm;omega
  |
   index s k p h hk'=>
   rw [KeF (Nat.le_refl 6)] at ht;have:(1,s,(0:Int))=sk t:=(List.cons.inj ht).1;have:t.gt=1:=(congrArg Prod.fst this).symm;omega
  |
   bin op l r p ho hl hr=>
   rw [par_tks ho] at ht;obtain ⟨h1,h2⟩:=List.cons.inj ht;have htx:t.gr=⟨#[40]⟩:=(congrArg (fun t:Tk=>t.2.1) h1).symm;subst h2;rw [no htx (by decide),cond_false,no htx (by decide),Option.bind_some,cond_false,no htx (by decide),cond_false,no htx (by decide),cond_false,no htx (by decide),cond_false,decide_eq_true htx,cond_true];rw [List.append_assoc] at hta;refine T.bind (iA a _ _ ts (.inl rfl) (.bin op l r p ho hl hr) hd hta (by omega)) fun q hq=>T.ret ?_
   rw [List.length_append];exact hq
  |
   null p=>
   obtain ⟨h1,h2⟩:=List.cons.inj ht;have htx:t.gr=⟨#[110,117,108,108]⟩:=(congrArg (fun t:Tk=>t.2.1) h1).symm;subst h2;rw [no htx (by decide),cond_false,no htx (by decide),Option.bind_some,cond_false,no htx (by decide),cond_false,no htx (by decide),cond_false,decide_eq_true htx,cond_true];exact T.ret ⟨rfl,rfl,.null _⟩
  |
   load s p h=>
   obtain ⟨h1,h2⟩:=List.cons.inj ht;have htx:t.gr=⟨#[42]⟩:=(congrArg (fun t:Tk=>t.2.1) h1).symm;subst h2;rw [no htx (by decide),cond_false,no htx (by decide),Option.bind_some,cond_false,decide_eq_true htx,cond_true,name_ta hL hta];exact T.ret ⟨rfl,rfl,.load _ _ h⟩
  |
   addr s p h=>
   obtain ⟨h1,h2⟩:=List.cons.inj ht;have htx:t.gr=⟨#[38]⟩:=(congrArg (fun t:Tk=>t.2.1) h1).symm;subst h2;rw [no htx (by decide),cond_false,no htx (by decide),Option.bind_some,cond_false,no htx (by decide),cond_false,decide_eq_true htx,cond_true,name_ta hL hta,Option.bind_some];refine T.bind (C (a+1) _ _ _ ts (KaJ hta).2.2 hf (by omega)) fun r hr=>T.ret ?_
   subst hr;exact ⟨rfl,rfl,.addr _ _ h⟩
  |
   addrAt s k p h hk'=>
   rw [KeF (Nat.le_refl 6),show tks (pE ⟨20,0,s,[k],p⟩)=(3,⟨#[38]⟩,0)::(1,s,0)::(3,⟨#[91]⟩,0)::(tks (pE k)++[(3,⟨#[93]⟩,0)]) by
    show tks (mk ⟨#[38]⟩::nm s::mk ⟨#[91]⟩::(pE k++[mk ⟨#[93]⟩]))=_
    simp only [tks,KaF]] at ht
   obtain ⟨h1,h2⟩:=List.cons.inj ht;have htx:t.gr=⟨#[38]⟩:=(congrArg (fun t:Tk=>t.2.1) h1).symm;subst h2;simp only [List.cons_append,List.append_assoc,List.nil_append] at hta;rw [dp1] at hd;rw [no htx (by decide),cond_false,no htx (by decide),Option.bind_some,cond_false,no htx (by decide),cond_false,decide_eq_true htx,cond_true,name_ta hL hta,Option.bind_some];have hlt:=(KaJ hta).1;refine T.bind (D (a+1) 19 s t.gb 20 at_ k ts h (.inr rfl) hk' (by omega) (KaJ hta).2.2 (by omega)) fun r hr=>T.ret ?_
   obtain ⟨u,w,z⟩:=hr;refine ⟨?_,by simp only;rw [w];simp only [stE,stEs],z⟩;show r.2=_
   rw [u];simp only [List.length_cons,List.length_append,List.length_nil];rw [show a+1+((tks (pE k)).length+2)=a+((tks (pE k)).length+(0+1)+1+1) by omega]
  |
   neg k p hk'=>
   rw [KeF (Nat.le_refl 6)] at ht;obtain ⟨h1,h2⟩:=List.cons.inj (show (3,(⟨#[45]⟩:ByteArray),(0:Int))::tks (pKd 6 k)=sk t::tl from ht);rw [dp1] at hd;exact un ⟨#[45]⟩ 5 k (.inl ⟨rfl,rfl⟩) (congrArg (fun t:Tk=>t.2.1) h1).symm hk' (by omega) h2.symm (by simp only [stE,stEs])
  |
   not k p hk'=>
   rw [KeF (Nat.le_refl 6)] at ht;obtain ⟨h1,h2⟩:=List.cons.inj (show (3,(⟨#[33]⟩:ByteArray),(0:Int))::tks (pKd 6 k)=sk t::tl from ht);rw [dp1] at hd;exact un ⟨#[33]⟩ 6 k (.inr ⟨rfl,rfl⟩) (congrArg (fun t:Tk=>t.2.1) h1).symm hk' (by omega) h2.symm (by simp only [stE,stEs])
theorem expr_ta {L:List KB}(hL:L.length≤5000){a:Nat}{e:Ke}{ts:List Tk}(hv:VX e)(hta:TA L a (tks (pE e)++ts))(hf:fol 0 ts):T (Kdw L (a:Int)) fun r=>r.2=(((a+(tks (pE e)).length:Nat):Int),0)∧stE r.1=stE e∧VE r.1:=by
 have h0:tks (pKd 0 e)=tks (pE e):=KeF (Nat.zero_le _);have hle:a≤L.length:=by
  obtain ⟨t,r,h1,_⟩:=hf;have:=Kb7 hta;rw [h1] at this;have:=(KaJ this).1;omega
 obtain ⟨r,h1,h2⟩:=(rt hL (12*(L.length+1 - a)+8)).1 a 0 e ts hv.1 hv.2 (by omega) (by rw [h0];exact hta) hf (Nat.le_refl _);rw [h0] at h2;have h1':=Kgw _ _ _ h1;unfold Kdw;refine T.bind (P:=fun b=>b=false) (T.cond (fun h=>?_) fun _=>T.ret (decide_eq_false (by omega))) fun b hb=>?_
 ·have:=of_decide_eq_true h;omega
 subst hb;rw [cond_false,show Kd5 (⟨L,(a:Int),0⟩:Ki) 0=_ from h1',Option.bind_some,h2.r];exact T.ret ⟨rfl,h2.s,h2.v⟩
end
section
open Go
abbrev Gr (L:List KB)(a:Nat)(v o:Int):Kg:=⟨L,(a:Int),0,v,o⟩
theorem ta_lt {L:List KB}{a:Nat}{t:Tk}{ts:List Tk}(h:TA L a (t::ts)):a < L.length:=(KaJ h).1
section
variable {L : List KB} {a : Nat} {v o : Int} (hL : L.length ≤ 5000)
include hL
theorem KgK {t:Tk}{ts:List Tk}(h:TA L a (t::ts)):∃ x,Kav (Gr L a v o) 0=some x∧sk x=t:=by
 obtain ⟨h1,⟨x,h2,b⟩,_⟩:=KaJ h;refine ⟨x,?_,b⟩;unfold Kav;have hw:IntKind.i64.wrap ((a:Int)+0)=(a:Int):=by rw [IntKind.wrap_i64];omega
 show (bif decide ((L.length:Int)≤IntKind.i64.wrap ((a:Int)+0)) then _ else (idx L (IntKind.i64.wrap ((a:Int)+0))).bind fun c=>some c)=_
 rw [hw,decide_eq_false (by omega),cond_false,Kdq,h2];rfl
theorem glook1_ta {t u:Tk}{ts:List Tk}(h:TA L a (t::u::ts)):∃ x,Kav (Gr L a v o) 1=some x∧sk x=u:=by
 obtain ⟨h1,⟨x,h2,b⟩,_⟩:=KaJ (KaJ h).2.2;refine ⟨x,?_,b⟩;unfold Kav;have hw:IntKind.i64.wrap ((a:Int)+1)=((a+1:Nat):Int):=wn (by omega);show (bif decide ((L.length:Int)≤IntKind.i64.wrap ((a:Int)+1)) then _ else (idx L (IntKind.i64.wrap ((a:Int)+1))).bind fun c=>some c)=_
 rw [hw,decide_eq_false (by omega),cond_false,Kdq,h2];rfl
theorem gis_ta {t:Tk}{ts:List Tk}(h:TA L a (t::ts))(s:ByteArray):KaD (Gr L a v o) 0 s=some (bif t.1==(3:Int) then decide (t.2.1=s) else false):=by
 obtain ⟨x,h1,h2⟩:=KgK (v:=v) (o:=o) hL h;unfold KaD;rw [h1,Option.bind_some,← h2];show (bif x.gt==3 then some (decide (x.gr=s)) else some false)=some (bif x.gt==3 then decide (x.gr=s) else false)
 cases x.gt==3<;>rfl
theorem KiV {t u:Tk}{ts:List Tk}(h:TA L a (t::u::ts))(s:ByteArray):KaD (Gr L a v o) 1 s=some (bif u.1==(3:Int) then decide (u.2.1=s) else false):=by
 obtain ⟨x,h1,h2⟩:=glook1_ta (v:=v) (o:=o) hL h;unfold KaD;rw [h1,Option.bind_some,← h2];show (bif x.gt==3 then some (decide (x.gr=s)) else some false)=some (bif x.gt==3 then decide (x.gr=s) else false)
 cases x.gt==3<;>rfl
theorem Kee {s:ByteArray}{n:Int}{ts:List Tk}(h:TA L a ((3,s,n)::ts)):KY (Gr L a v o) s=some (true,Gr L (a+1) v o):=by
 have hlt:=ta_lt h;unfold KY;show (Option.bind ((KaD (Gr L a v o) 0 s).bind fun b=>some (!b)) _)=_
 rw [gis_ta hL h];show (Option.bind (some (!decide (s=s))) _)=_
 rw [decide_eq_true rfl];show some (true,(⟨L,IntKind.i64.wrap ((a:Int)+1),0,v,o⟩:Kg))=_
 rw [wn (by omega)]
theorem Kgs {t:Tk}{s:ByteArray}{ts:List Tk}(h:TA L a (t::ts))(hn:t.1=3→t.2.1 ≠ s):KY (Gr L a v o) s=some (false,Gr L a v o):=by
 unfold KY;show (Option.bind ((KaD (Gr L a v o) 0 s).bind fun b=>some (!b)) _)=_
 rw [gis_ta hL h];have:(bif t.1==(3:Int) then decide (t.2.1=s) else false)=false:=by
  cases c:t.1==3 with
  | false=>rfl
  | true=>exact decide_eq_false (hn (by simpa using c))
 rw [this];rfl
theorem KfI {s:ByteArray}{n:Int}{ts:List Tk}(h:TA L a ((1,s,n)::ts)):KaQ (Gr L a v o)=some (s,Gr L (a+1) v o):=by
 obtain ⟨x,h1,h2⟩:=KgK (v:=v) (o:=o) hL h;have hlt:=ta_lt h;have hk:x.gt=1:=congrArg Prod.fst h2;have ht:x.gr=s:=congrArg (fun t:Tk=>t.2.1) h2;unfold KaQ;show (bif false then _ else (Kav (Gr L a v o) 0).bind _)=_
 rw [cond_false,h1,Option.bind_some,hk,ht];show some (s,(⟨L,IntKind.i64.wrap ((a:Int)+1),0,v,o⟩:Kg))=_
 rw [wn (by omega)]
theorem geat_ta {l:List ByteArray}(hl:l.length≤100){ts:List Tk}(h:TA L a (l.map (fun s=>((3:Int),s,(0:Int)))++ts)):KQ (Gr L a v o) l=some (Gr L (a+l.length) v o):=by
 have key:T (KQ (Gr L a v o) l) fun r=>r=Gr L (a+l.length) v o:=by
  unfold KQ;refine T.bind (P:=fun r=>r=Sum.inl ((a+l.length:Nat):Int)) (T.each l (fun pre s=>s=((pre.length:Int),((a+pre.length:Nat):Int))) rfl (fun pre x post s e hi=>?_) fun s hi=>?_) fun r hr=>?_
  ·subst hi;have hta:=h;rw [e,List.map_append,List.map_cons,List.append_assoc,List.cons_append] at hta;have b:=Kb7 hta;rw [List.length_map] at b;have hlt:=ta_lt b;have hlp:=KgJ e;simp only;rw [Kcc e,cond_true,idxP e,Option.bind_some];show T ((KaD (Gr L (a+pre.length) v o) 0 x).bind _) _
   rw [gis_ta hL b];show T (bif !(decide (x=x)) then _ else _) _
   rw [decide_eq_true rfl];refine T.next ?_;rw [KbO e (by omega),wn (by omega)];simp only [List.length_append,List.length_singleton];rw [show a+(pre.length+1)=a+pre.length+1 by omega]
  ·subst hi;simp only;rw [Kix,cond_false];exact T.done rfl
  subst hr;exact T.ret rfl
 obtain ⟨r,h1,h2⟩:=key;rw [h1,h2]
theorem geat1 {s:ByteArray}{ts:List Tk}(h:TA L a ((3,s,0)::ts)):KQ (Gr L a v o) [s]=some (Gr L (a+1) v o):=geat_ta hL (l:=[s]) (by simp) h
def RE (L:List KB)(a n:Nat)(v o:Int)(e:Ke)(r:Ke×Kg):Prop:=r.2=Gr L (a+n) v o∧stE r.1=stE e
omit hL in
theorem ta_le {us ts:List Tk}{t:Tk}(h:TA L a (us++(t::ts))):a+us.length < L.length:=ta_lt (Kb7 h)
theorem KfJ {e:Ke}{ts:List Tk}(hv:VX e)(h:TA L a (tks (pE e)++ts))(hf:fol 0 ts):T (KaA (Gr L a v o)) (RE L a (tks (pE e)).length v o e):=by
 have hle:a+(tks (pE e)).length < L.length:=by
  obtain ⟨t,r,h1,_⟩:=hf;rw [h1] at h;exact ta_le h
 unfold KaA;show T (bif false then _ else (Kdw L (min (a:Int) (L.length:Int))).bind _) _
 rw [cond_false,show min (a:Int) (L.length:Int)=(a:Int) by omega];refine T.bind (expr_ta hL hv h hf) fun r hr=>?_
 obtain ⟨h1,h2,_⟩:=hr;rw [h1];exact T.ret ⟨rfl,h2⟩
end
def NP (l:List Tk):Prop:=∃ t u r,l=t::u::r∧(t.1=3→t.2.1 ≠ ⟨#[41]⟩∧t.2.1 ≠ ⟨#[105,110,112,117,116]⟩)∧(t.1=1→u.1=3→u.2.1 ≠ ⟨#[40]⟩)
def nOp (l:List Tk):Prop:=∃ t r,l=t::r∧(t.1=3→t.2.1 ≠ ⟨#[40]⟩)
theorem KgL {s:ByteArray}(h1:s ≠ ⟨#[41]⟩)(h2:s ≠ ⟨#[105,110,112,117,116]⟩){l:List Tk}(h:l ≠ []):NP ((3,s,0)::l):=by
 cases l with
 | nil=>exact absurd rfl h
 | cons u r=>exact ⟨_,u,r,rfl,fun _=>⟨h1,h2⟩,fun h=>by cases h⟩
theorem np_ne {l:List Tk}(h:NP l):l ≠ []:=by
 obtain ⟨t,u,r,h1,_⟩:=h;rw [h1];simp
theorem np_kd {k:Nat}{e:Ke}(h:∀ ts,nOp ts→NP (tks (pE e)++ts)){ts:List Tk}(ht:nOp ts):NP (tks (pKd k e)++ts):=by
 by_cases hk:lev e.gj < k
 ·rw [par_tks hk,List.cons_append,List.append_assoc];exact KgL (by decide) (by decide) (np_ne (h _ ⟨(3,⟨#[41]⟩,0),ts,rfl,fun _=>by decide⟩))
 rw [KeF (by omega)];exact h ts ht
theorem np_e {e:Ke}(hv:VE e):∀ ts,nOp ts→NP (tks (pE e)++ts):=by
 have nn:∀ {ts},nOp ts→ts ≠ []:=fun ⟨t,r,h,_⟩=>by rw [h];simp
 induction hv with
 |
  num n a h0 h1=>
  intro ts ⟨t,r,h,_⟩;subst h;exact ⟨(2,itoaB n,n),t,r,rfl,fun h=>(by cases h),fun h=>by cases h⟩
 |
  var s a h=>
  intro ts ⟨t,r,h,h2⟩;subst h;exact ⟨(1,s,0),t,r,rfl,fun h=>(by cases h),fun _=>h2⟩
 | null a=>intro ts h;exact KgL (by decide) (by decide) (nn h)
 | load s a h=>intro ts h;exact KgL (l:=(1,s,0)::ts) (by decide) (by decide) (by simp)
 | addr s a h=>intro ts h;exact KgL (l:=(1,s,0)::ts) (by decide) (by decide) (by simp)
 |
  index s k a h _ ih=>
  intro ts ht;refine ⟨(1,s,0),(3,⟨#[91]⟩,0),tks (pE k)++((3,⟨#[93]⟩,0)::ts),?_,fun h=>(by cases h),fun _ _=>by decide⟩;show tks (nm s::mk ⟨#[91]⟩::(pE k++[mk ⟨#[93]⟩]))++ts=_
  simp [tks,KaF]
 |
  addrAt s k a h _ ih=>
  intro ts ht;show NP (tks (mk ⟨#[38]⟩::nm s::mk ⟨#[91]⟩::(pE k++[mk ⟨#[93]⟩]))++ts)
  exact KgL (by decide) (by decide) (by simp [tks])
 |
  neg k a _ ih=>
  intro ts ht;exact KgL (s:=⟨#[45]⟩) (by decide) (by decide) (np_ne (np_kd (k:=6) ih ht))
 |
  not k a _ ih=>
  intro ts ht;exact KgL (s:=⟨#[33]⟩) (by decide) (by decide) (np_ne (np_kd (k:=6) ih ht))
 |
  bin op l r a ho _ _ b c=>
  intro ts ht;rw [tks_bin ho,List.append_assoc,List.cons_append];refine np_kd b ⟨_,_,rfl,fun _=>?_⟩;rcases KgX ho with rfl|rfl|rfl|rfl|rfl|rfl|rfl|rfl|rfl|rfl|rfl<;>decide
theorem KkI:∀ a,(stEs a).length=a.length
 | []=>rfl
 | e::a=>by simp [stEs,KkI a]
def comT {α:Type}(p:α→List Pc):List α→List Tk
 | []=>[]
 | x::l=>(3,⟨#[44]⟩,0)::(tks (p x)++comT p l)
theorem Kjp {α:Type}(p:α→List Pc)(x:α):∀ l:List α,tks (KaM ((x::l).map p))=tks (p x)++comT p l
 | []=>by simp [KaM,comT]
 |
  y::l=>by
  have ih:=Kjp p y l;show tks (p x++(mk ⟨#[44]⟩::.sp 32::KaM ((y::l).map p)))=_
  rw [KaF];simp only [tks,comT];rw [ih]
theorem comT_fol {α:Type}(p:α→List Pc)(l:List α)(ts:List Tk)(k:Nat):fol k (comT p l++((3,⟨#[41]⟩,0)::ts)):=by
 cases l with
 | nil=>exact fol41 _ _
 | cons x l=>exact fol44 _ _
theorem ta_len {L:List KB}{a:Nat}{ts:List Tk}(h:TA L a ts):ts.length+a≤L.length∨ts=[]:=by
 unfold TA at h;rcases Nat.lt_or_ge a L.length with h1|h1
 ·left;rw [← h];simp;omega
 right;rw [← h,List.drop_of_length_le h1];rfl
theorem comT_len {α:Type}(p:α→List Pc):∀ l:List α,l.length≤(comT p l).length
 | []=>Nat.le_refl _
 |
  x::l=>by
  have:=comT_len p l;simp only [comT,List.length_cons,List.length_append];omega
section
variable {A B : Type} {L : List KB} (hL : L.length ≤ 5000) {p : A → List Pc} {one : Kg → Option (A × Kg)} {o : Int} {f : A → B} {vc : Nat → Int} {xs : List A}
  (hone : ∀ (a i : Nat) (x : A) (ts : List Tk), x ∈ xs → i < xs.length → TA L a (tks (p x) ++ ts) → fol 0 ts → T (one (Gr L a (vc i) o)) fun r => f r.1 = f x ∧ r.2 = Gr L (a + (tks (p x)).length) (vc (i + 1)) o) {bb : Nat} (hbb : bb ≤ 4096)
  {F : List A × List KB × Int × Int × Int × Int → Option (Step (List A × List KB × Int × Int × Int × Int) (List A × List KB × Int × Int × Int × Int))}
  (hF : ∀ s, F s = (bif (s.2.2.2.1 == (0 : Int)) then ((one (⟨s.2.1, s.2.2.1, s.2.2.2.1, s.2.2.2.2.1, s.2.2.2.2.2⟩ : Kg)).bind fun x43 => ((app bb s.1 ([x43.1] : List A)).bind fun x44 => ((KY x43.2 (ByteArray.mk #[44])).bind fun x45 => (bif (!x45.1) then some (.done (x44, x45.2.gL, x45.2.gb, x45.2.gE, x45.2.gn, x45.2.gm)) else some (.next (x44, x45.2.gL, x45.2.gb, x45.2.gE, x45.2.gn, x45.2.gm)))))) else some (.done (s.1, s.2.1, s.2.2.1, s.2.2.2.1, s.2.2.2.2.1, s.2.2.2.2.2))))
include hL hone hbb hF
theorem com_ta:∀ (rest:List A) (x:A) (acc:List A) (a i:Nat) (ts:List Tk),(∀ y∈x::rest,y∈xs)→i+rest.length < xs.length→acc.length+rest.length≤6000→TA L a (tks (p x)++(comT p rest++((3,⟨#[41]⟩,0)::ts))) →
  T (loopM F (acc,L,(a:Int),0,vc i,o)) fun s=>∃ l',s=(acc++l',L,((a+((tks (p x)).length+(comT p rest).length):Nat):Int),0,vc (i+1+rest.length),o)∧l'.map f=(x::rest).map f
 |
  rest,x,acc,a,i,ts,hx,hi,hacc,hta=>by
  obtain ⟨r,h1,h2,c⟩:=hone a i x _ (hx x (by simp)) (by omega) hta (comT_fol p rest ts 0);have d:=Kb7 hta;cases rest with
  |
   nil=>
   have hst:F (acc,L,(a:Int),0,vc i,o)=some (.done (acc++[r.1],L,((a+(tks (p x)).length:Nat):Int),0,vc (i+1),o)):=by
    rw [hF];show ((one (Gr L a (vc i) o)).bind _)=_
    rw [h1,Option.bind_some,Kc6 (by omega) (by simp at hacc ⊢;omega),Option.bind_some,c,Kgs hL d (fun _=>by decide)];rfl
   exact T.eq (KbA hst) ⟨[r.1],rfl,by simp [h2]⟩
  |
   cons y rest=>
   have b:=d;simp only [comT,List.cons_append,List.append_assoc] at b;have hst:F (acc,L,(a:Int),0,vc i,o)=some (.next (acc++[r.1],L,((a+(tks (p x)).length+1:Nat):Int),0,vc (i+1),o)):=by
    rw [hF];show ((one (Gr L a (vc i) o)).bind _)=_
    rw [h1,Option.bind_some,Kc6 (by omega) (by simp at hacc ⊢;omega),Option.bind_some,c,Kee hL b];rfl
   rw [KcM hst];simp only [List.length_cons] at hi hacc;refine (com_ta rest y (acc++[r.1]) (a+(tks (p x)).length+1) (i+1) ts (fun z hz=>hx z (by simp at hz ⊢;rcases hz with h|h<;>simp [h])) (by omega) (by simp;omega) (KaJ b).2.2).imp fun s hs=>?_
   obtain ⟨l',g,e⟩:=hs;refine ⟨r.1::l',?_,by simp only [List.map_cons] at e ⊢;rw [h2,e]⟩;rw [g];simp only [comT,List.length_cons,List.length_append,List.append_assoc,List.cons_append,List.nil_append];rw [show a+(tks (p x)).length+1+((tks (p y)).length+(comT p rest).length)=a+((tks (p x)).length+((tks (p y)).length+(comT p rest).length+1)) by omega,show i+1+1+rest.length=i+1+(rest.length+1) by omega]
theorem list_ta (hhd:∀ x∈xs,∀ ts,fol 0 ts→nOp ts→∃ t r,tks (p x)++ts=t::r∧(t.1=3→t.2.1 ≠ ⟨#[41]⟩)){a:Nat}{ts:List Tk}(h:TA L a ((3,⟨#[40]⟩,0)::(tks (KaM (xs.map p))++((3,⟨#[41]⟩,0)::ts)))) :
  T ((KQ (Gr L a (vc 0) o) ([qZ8]:List ByteArray)).bind fun e=>((KY e qZ10).bind fun b=>(bif b.1 then some (([]:List A),b.2) else (Option.bind (α:=List A×List KB×Int×Int×Int×Int) (loopM F (([]:List A),b.2.gL,b.2.gb,b.2.gE,b.2.gn,b.2.gm)) fun c=>((KQ (⟨c.2.1,c.2.2.1,c.2.2.2.1,c.2.2.2.2.1,c.2.2.2.2.2⟩:Kg) ([qZ10]:List ByteArray)).bind fun g=>some (c.1,g)))))) fun r=>r.1.map f=xs.map f∧r.2=Gr L (a+((tks (KaM (xs.map p))).length+2)) (vc xs.length) o:=by
 rw [geat1 hL h,Option.bind_some];have h1:=(KaJ h).2.2;cases xs with
 |
  nil=>
  rw [Kee hL h1];exact T.ret ⟨rfl,rfl⟩
 |
  cons x l=>
  rw [Kjp,List.append_assoc] at h1;obtain ⟨t,r,j,k⟩:=hhd x (by simp) _ (comT_fol p l ts 0) (by cases l with
   | nil=>exact ⟨_,_,rfl,fun _=>by decide⟩
   | cons y l=>exact ⟨_,_,rfl,fun _=>by decide⟩)
  have hlen:l.length≤5000:=by
   have n:=comT_len p l;rcases ta_len h1 with h2|h2
   ·simp only [List.length_append] at h2;omega
   simp at h2
  have hno:=h1;rw [j] at hno;rw [Kgs hL hno k,Option.bind_some];refine T.bind (com_ta hL hone hbb hF l x [] (a+1) 0 ts (fun y hy=>hy) (by simp) (by simp;omega) h1) fun s hs=>?_
  obtain ⟨l',f1,m⟩:=hs;subst f1;have d:=Kb7 (us:=tks (p x)++comT p l) (by rw [List.append_assoc];exact h1);rw [List.length_append] at d;show T ((KQ (Gr L (a+1+((tks (p x)).length+(comT p l).length)) (vc (0+1+l.length)) o) _).bind _) _
  rw [geat1 hL d];refine T.ret ⟨m,?_⟩;rw [Kjp,List.length_append];show Gr L _ (vc (0+1+l.length)) o=_
  rw [show a+1+((tks (p x)).length+(comT p l).length)+1=a+((tks (p x)).length+(comT p l).length+2) by omega,show 0+1+l.length=(x::l).length by simp;omega]
end
theorem KhO:∀ l,stEs l=l.map stE
 | []=>rfl
 | e::l=>by rw [stEs,KhO l];rfl
theorem listE_ta {L:List KB}(hL:L.length≤5000){a:Nat}{v o:Int}{es:List Ke}{ts:List Tk}(hv:∀ e∈es,VX e)(h:TA L a ((3,⟨#[40]⟩,0)::(tks (KaM (es.map pE))++((3,⟨#[41]⟩,0)::ts)))):T (KbD (Gr L a v o)) fun r=>stEs r.1=stEs es∧r.2=Gr L (a+((tks (KaM (es.map pE))).length+2)) v o:=by
 unfold KbD;refine (list_ta hL (p:=pE) (f:=stE) (vc:=fun _=>v) (xs:=es) (one:=KaA) (bb:=64) (fun a i x ts hx _ hta hf=>(KfJ hL (hv x hx) hta hf).imp fun r hr=>⟨hr.2,hr.1⟩) (by omega) (fun _=>rfl) (fun x hx ts _ hn=>?_) h).imp fun r hr=>⟨by rw [KhO,KhO];exact hr.1,hr.2⟩
 obtain ⟨t,u,r,b,c,_⟩:=np_e (hv x hx).1 ts hn;exact ⟨t,u::r,b,fun h=>(c h).1⟩
theorem tks_pV (v:K3):tks (pV v)=(3,⟨#[105,110,116]⟩,0)::(if v.gz then [(3,⟨#[42]⟩,0),(1,v.ga,0)] else [(1,v.ga,0)]):=by
 unfold pV;simp only [tks];split<;>rfl
theorem var_ta {L:List KB}(hL:L.length≤5000){a:Nat}{o:Int}{n:Nat}(hn:n < 16){v:K3}{ts:List Tk}(h:TA L a (tks (pV v)++ts)):T (KaW (Gr L a (n:Int) o)) fun r=>r.1=v∧r.2=Gr L (a+(tks (pV v)).length) ((n+1:Nat):Int) o:=by
 unfold KaW;rw [tks_pV] at h ⊢;have hw:IntKind.i64.wrap ((n:Int)+1)=((n+1:Nat):Int):=wn (by omega);rw [List.cons_append] at h;rw [geat1 hL h,Option.bind_some];have h1:=(KaJ h).2.2;obtain ⟨nm_,ptr⟩:=v;cases ptr with
 |
  true=>
  simp only [if_true,List.cons_append,List.nil_append] at h1;rw [Kee hL h1,Option.bind_some,KfI hL (KaJ h1).2.2,Option.bind_some];show T (bif decide ((16:Int) < IntKind.i64.wrap ((n:Int)+1)) then _ else some (_,(⟨L,_,0,IntKind.i64.wrap ((n:Int)+1),o⟩:Kg))) _
  rw [hw,decide_eq_false (by omega)];exact T.ret ⟨rfl,rfl⟩
 |
  false=>
  simp only [Bool.false_eq_true,if_false,List.cons_append,List.nil_append] at h1;rw [Kgs hL h1 (fun h=>by cases h),Option.bind_some,KfI hL h1,Option.bind_some];show T (bif decide ((16:Int) < IntKind.i64.wrap ((n:Int)+1)) then _ else some (_,(⟨L,_,0,IntKind.i64.wrap ((n:Int)+1),o⟩:Kg))) _
  rw [hw,decide_eq_false (by omega)];exact T.ret ⟨rfl,rfl⟩
theorem listV_ta {L:List KB}(hL:L.length≤5000){a:Nat}{o:Int}{vs:List K3}{ts:List Tk}(hn:vs.length≤16)(h:TA L a ((3,⟨#[40]⟩,0)::(tks (KaM (vs.map pV))++((3,⟨#[41]⟩,0)::ts)))):T (KbI (Gr L a 0 o)) fun r=>r.1=vs∧r.2=Gr L (a+((tks (KaM (vs.map pV))).length+2)) (vs.length:Int) o:=by
 unfold KbI;refine (list_ta hL (p:=pV) (f:=id) (vc:=fun i=>(i:Int)) (xs:=vs) (one:=KaW) (bb:=24) (fun a i x ts hx hi hta hf=>var_ta hL (by omega) hta) (by omega) (fun _=>rfl) (fun x hx ts _ hn=>?_) h).imp fun r hr=>⟨by simpa using hr.1,hr.2⟩
 rw [tks_pV];exact ⟨_,_,rfl,fun _=>by decide⟩
theorem test_ta {L:List KB}(hL:L.length≤5000){a:Nat}{v o:Int}{e:Ke}{ts:List Tk}(hv:VX e)(h:TA L a ((3,⟨#[40]⟩,0)::(tks (pE e)++((3,⟨#[41]⟩,0)::ts)))):T (Kbq (Gr L a v o)) fun r=>stEs r.1=[stE e]∧r.2=Gr L (a+((tks (pE e)).length+2)) v o:=by
 unfold Kbq;rw [geat1 hL h,Option.bind_some];have h1:=(KaJ h).2.2;refine T.bind (KfJ hL hv h1 (fol41 _ _)) fun r hr=>?_
 obtain ⟨b,c⟩:=hr;rw [b,geat1 hL (Kb7 h1)];refine T.ret ⟨by simp only [stEs,c],?_⟩;show Gr L _ v o=_
 rw [show a+1+(tks (pE e)).length+1=a+((tks (pE e)).length+2) by omega]
end
section
open Go
mutual
def stTS:Kj→Kj
 | ⟨a,b,c,es,ks,ls,_⟩=>⟨a,b,c,stEs es,stSs ks,stSs ls,0⟩
def stSs:List Kj→List Kj
 | []=>[]
 | s::l=>stTS s::stSs l
end
theorem Kio:∀ a b,stSs (a++b)=stSs a++stSs b
 | [],b=>rfl
 | e::a,b=>by simp only [List.cons_append,stSs,Kio a b]
theorem Khj (d:Nat)(x:List Pc):tks (ind d x)=tks x:=by
 unfold ind;rw [KaF,KaF];have:tks (List.replicate d (Pc.sp 9))=[]:=by
  induction d with
  | zero=>rfl
  | succ d ih=>rw [List.replicate_succ];exact ih
 rw [this];simp [tks]
def RT (L:List KB)(a n:Nat)(v o:Int)(s:Kj)(r:Kj×Kg):Prop:=stTS r.1=stTS s∧r.2=Gr L (a+n) v o
section
variable {L : List KB} (hL : L.length ≤ 5000) {a : Nat} {v o : Int}
include hL
theorem call_ta {f:ByteArray}{es:List Ke}{ts:List Tk}(he:∀ e∈es,VX e)(h:TA L a ((1,f,0)::(3,⟨#[40]⟩,0)::(tks (KaM (es.map pE))++((3,⟨#[41]⟩,0)::(3,⟨#[59]⟩,0)::ts))))(s:Kj):T (Kbp (Gr L a v o) s) fun r=>stTS r.1=⟨4,s.ga,f,stEs es,stSs s.gc,stSs s.gq,0⟩∧r.2=Gr L (a+((tks (KaM (es.map pE))).length+4)) v o:=by
 unfold Kbp;rw [KfI hL h,Option.bind_some];refine T.bind (listE_ta hL he (KaJ h).2.2) fun r hr=>?_
 obtain ⟨b,c⟩:=hr;have h2:=Kb7 (us:=(1,f,0)::(3,⟨#[40]⟩,0)::(tks (KaM (es.map pE))++[(3,⟨#[41]⟩,0)])) (a:=a) (ts:=(3,⟨#[59]⟩,0)::ts) (by simpa using h);simp only [List.length_cons,List.length_append,List.length_nil] at h2;rw [c,show a+1+((tks (KaM (es.map pE))).length+2)=a+((tks (KaM (es.map pE))).length+(0+1)+1+1) by omega,geat1 hL h2];refine T.ret ⟨by simp only [stTS,b],?_⟩;show Gr L _ v o=_
 rw [show a+((tks (KaM (es.map pE))).length+(0+1)+1+1)+1=a+((tks (KaM (es.map pE))).length+4) by omega]
theorem input_ta {ts:List Tk}(h:TA L a ((3,⟨#[105,110,112,117,116]⟩,0)::(3,⟨#[40]⟩,0)::(3,⟨#[41]⟩,0)::(3,⟨#[59]⟩,0)::ts))(s:Kj):T (KaT (Gr L a v o) s) fun r=>r=(⟨5,s.ga,s.gu,s.go,s.gc,s.gq,s.gb⟩,Gr L (a+4) v o):=by
 unfold KaT;rw [Kee hL h,Option.bind_some];show T ((KQ (Gr L (a+1) v o) _).bind _) _
 rw [geat_ta hL (l:=[qZ8,qZ10,qZ22]) (by simp) (KaJ h).2.2];exact T.ret rfl
theorem acall_ta {f:ByteArray}{es:List Ke}{ts:List Tk}(he:∀ e∈es,VX e)(h:TA L a ((1,f,0)::(3,⟨#[40]⟩,0)::(tks (KaM (es.map pE))++((3,⟨#[41]⟩,0)::(3,⟨#[59]⟩,0)::ts))))(s:Kj):T (KaT (Gr L a v o) s) fun r=>stTS r.1=⟨4,s.ga,f,stEs es,stSs s.gc,stSs s.gq,0⟩∧r.2=Gr L (a+((tks (KaM (es.map pE))).length+4)) v o:=by
 unfold KaT;rw [Kgs hL h (fun h=>by cases h),Option.bind_some];obtain ⟨x,h1,h2⟩:=KgK (v:=v) (o:=o) hL h;have hk:x.gt=1:=congrArg Prod.fst h2;show T (Option.bind ((Kav (Gr L a v o) 0).bind fun c=>(bif (c.gt==(1:Int)) then ((KaD (Gr L a v o) (1:Int) qZ8).bind fun d=>some d) else some false)) fun g=>(bif g then ((Kbp (Gr L a v o) s).bind fun b=>some (b.1,b.2)) else _)) _
 rw [h1,Option.bind_some,hk,show ((1:Int)==1)=true from rfl,cond_true,KiV hL h,Option.bind_some,Option.bind_some];exact T.bind (call_ta hL he h s) fun r hr=>T.ret hr
theorem aexp_ta {e:Ke}{ts:List Tk}(he:VX e)(h:TA L a (tks (pE e)++((3,⟨#[59]⟩,0)::ts)))(s:Kj):T (KaT (Gr L a v o) s) fun r=>stTS r.1=⟨1,s.ga,s.gu,[stE e],stSs s.gc,stSs s.gq,0⟩∧r.2=Gr L (a+((tks (pE e)).length+1)) v o:=by
 obtain ⟨t,u,r,f,g,i⟩:=np_e he.1 ((3,⟨#[59]⟩,0)::ts) ⟨_,_,rfl,fun _=>by decide⟩;have h':=h;rw [f] at h';unfold KaT;rw [Kgs hL h' (fun h=>(g h).2),Option.bind_some];obtain ⟨x,h1,h2⟩:=KgK (v:=v) (o:=o) hL h';have hk:x.gt=t.1:=congrArg Prod.fst h2
 show T (Option.bind ((Kav (Gr L a v o) 0).bind fun b=>(bif (b.gt==(1:Int)) then ((KaD (Gr L a v o) (1:Int) qZ8).bind fun c=>some c) else some false)) fun j=>(bif j then _ else ((KaA (Gr L a v o)).bind fun d=>((KQ d.2 qZ3).bind fun k=>some ((⟨(1:Int),s.ga,s.gu,([d.1]:List Ke),s.gc,s.gq,s.gb⟩:Kj),k))))) _
 have hno:((Kav (Gr L a v o) 0).bind fun b=>(bif (b.gt==(1:Int)) then ((KaD (Gr L a v o) (1:Int) qZ8).bind fun c=>some c) else some false))=some false:=by
  rw [h1,Option.bind_some,hk,KiV hL h'];cases l:t.1==1 with
  | false=>rfl
  |
   true=>
   rw [cond_true,Option.bind_some];cases m:u.1==3 with
   | false=>rfl
   | true=>rw [cond_true,decide_eq_false (i (by simpa using l) (by simpa using m))]
 rw [hno,Option.bind_some,cond_false];refine T.bind (KfJ hL he h (fol59 _ _)) fun r hr=>?_
 obtain ⟨n,p⟩:=hr;rw [n,geat1 hL (Kb7 h)];refine T.ret ⟨by simp only [stTS,stEs,p],?_⟩;show Gr L _ v o=_
 rw [show a+(tks (pE e)).length+1=a+((tks (pE e)).length+1) by omega]
theorem nEq_ta {s:ByteArray}{ts:List Tk}(h:TA L a ((1,s,0)::(3,⟨#[61]⟩,0)::ts)){at_:Int}{Q:Kj×Kg→Prop}(g:T (KaT (Gr L (a+2) v o) ⟨0,s,ByteArray.empty,[],[],[],at_⟩) Q):T (KaZ (Gr L a v o) ⟨0,ByteArray.empty,ByteArray.empty,[],[],[],at_⟩) Q:=by
 have h1:=(KaJ h).2.2;unfold KaZ;rw [KiV hL h,Option.bind_some];show T (bif decide ((⟨#[61]⟩:ByteArray)=⟨#[40]⟩) then _ else _) _
 rw [decide_eq_false (by decide),cond_false,KfI hL h,Option.bind_some,Kgs hL h1 (fun _=>by decide),Option.bind_some];show T ((KQ (Gr L (a+1) v o) _).bind _) _
 rw [geat1 hL h1,Option.bind_some];exact T.bind g fun r hr=>T.ret hr
theorem named_ta {b:Nat}{s:Kj}{ts:List Tk}(hv:VS b s){t:Tk}{r:List Tk}(ht:tks (pFs s)=t::r)(hk:t.1=1)(j:s.gj ≠ 6)(k:s.gj ≠ 7)(h:TA L a (tks (pFs s)++ts))(at_:Int):T (KaZ (Gr L a v o) ⟨0,ByteArray.empty,ByteArray.empty,[],[],[],at_⟩) (RT L a (tks (pFs s)).length v o s):=by
 cases hv with
 |
  assign d s e p hs he=>
  have htk:tks (pFs ⟨1,s,ByteArray.empty,[e],[],[],p⟩)=(1,s,0)::(3,⟨#[61]⟩,0)::(tks (pE e)++[(3,⟨#[59]⟩,0)]):=by simp [pFs,pF,tks,KaF]
  rw [htk] at h ⊢;simp only [List.cons_append,List.append_assoc,List.nil_append] at h;refine nEq_ta hL h ((aexp_ta hL he (KaJ (KaJ h).2.2).2.2 _).imp fun q hq=>⟨?_,?_⟩)
  ·rw [hq.1];simp only [stTS,stEs,stSs]
  rw [hq.2];simp only [List.length_cons,List.length_append,List.length_nil];rw [show a+2+((tks (pE e)).length+1)=a+((tks (pE e)).length+(0+1)+1+1) by omega]
 |
  put d s e f p hs he hf=>
  have htk:tks (pFs ⟨2,s,ByteArray.empty,[e,f],[],[],p⟩)=(1,s,0)::(3,⟨#[91]⟩,0)::(tks (pE e)++((3,⟨#[93]⟩,0)::(3,⟨#[61]⟩,0)::(tks (pE f)++[(3,⟨#[59]⟩,0)]))):=by simp [pFs,pF,tks,KaF]
  rw [htk] at h ⊢;simp only [List.cons_append,List.append_assoc,List.nil_append] at h;have h1:=(KaJ h).2.2;have h2:=(KaJ h1).2.2;have g:=Kb7 h2;unfold KaZ;rw [KiV hL h,Option.bind_some];show T (bif decide ((⟨#[91]⟩:ByteArray)=⟨#[40]⟩) then _ else _) _
  rw [decide_eq_false (by decide),cond_false,KfI hL h,Option.bind_some,Kee hL h1,Option.bind_some];show T ((KaA (Gr L (a+1+1) v o)).bind _) _
  refine T.bind (KfJ hL he h2 (fol93 _ _)) fun q hq=>?_
  obtain ⟨m,n⟩:=hq;rw [m,geat_ta hL (l:=[qZ21,(ByteArray.mk #[61])]) (by simp) g,Option.bind_some];have i:=(KaJ (KaJ g).2.2).2.2;show T ((KaA (Gr L (a+1+1+(tks (pE e)).length+1+1) v o)).bind _) _
  refine T.bind (KfJ hL hf i (fol59 _ _)) fun w hw=>?_
  obtain ⟨u,x⟩:=hw;rw [u,geat1 hL (Kb7 i)];refine T.ret ⟨by simp only [stTS,stEs,stSs,n,x],?_⟩;show Gr L _ v o=_
  simp only [List.length_cons,List.length_append,List.length_nil];rw [show a+1+1+(tks (pE e)).length+1+1+(tks (pE f)).length+1=a+((tks (pE e)).length+((tks (pE f)).length+(0+1)+1+1)+1+1) by omega]
 | store d s e p hs he=>cases ht;cases hk
 |
  call d f es p hf he=>
  have htk:tks (pFs ⟨4,ByteArray.empty,f,es,[],[],p⟩)=(1,f,0)::(3,⟨#[40]⟩,0)::(tks (KaM (es.map pE))++[(3,⟨#[41]⟩,0),(3,⟨#[59]⟩,0)]):=by simp [pFs,pF,tks,KaF]
  rw [htk] at h ⊢;simp only [List.cons_append,List.append_assoc,List.nil_append] at h;unfold KaZ;rw [KiV hL h,Option.bind_some];show T (bif decide ((⟨#[40]⟩:ByteArray)=⟨#[40]⟩) then _ else _) _
  rw [decide_eq_true rfl,cond_true];refine T.bind (call_ta hL he h _) fun q hq=>T.ret ⟨?_,?_⟩
  ·simp only;rw [hq.1];simp only [stTS,stSs]
  simp only;rw [hq.2];simp only [List.length_cons,List.length_append,List.length_nil]
 |
  callTo d s f es p hs hf he=>
  have hne:s ≠ ByteArray.empty:=fun e=>by
   obtain ⟨c,r,h,_⟩:=hs.al.hd;rw [e] at h;cases h
  have htk:tks (pFs ⟨4,s,f,es,[],[],p⟩)=(1,s,0)::(3,⟨#[61]⟩,0)::(1,f,0)::(3,⟨#[40]⟩,0)::(tks (KaM (es.map pE))++[(3,⟨#[41]⟩,0),(3,⟨#[59]⟩,0)]):=by simp [pFs,pF,tks,KaF,hne]
  rw [htk] at h ⊢;simp only [List.cons_append,List.append_assoc,List.nil_append] at h;refine nEq_ta hL h ((acall_ta hL he (KaJ (KaJ h).2.2).2.2 _).imp fun q hq=>⟨?_,?_⟩)
  ·rw [hq.1];simp only [stTS,stSs]
  rw [hq.2];simp only [List.length_cons,List.length_append,List.length_nil];rw [show a+2+((tks (KaM (es.map pE))).length+4)=a+((tks (KaM (es.map pE))).length+(0+1+1)+1+1+1+1) by omega]
 |
  input d s p hs=>
  have htk:tks (pFs ⟨5,s,ByteArray.empty,[],[],[],p⟩)=[(1,s,0),(3,⟨#[61]⟩,0),(3,⟨#[105,110,112,117,116]⟩,0),(3,⟨#[40]⟩,0),(3,⟨#[41]⟩,0),(3,⟨#[59]⟩,0)]:=rfl;rw [htk] at h ⊢;simp only [List.cons_append,List.nil_append] at h;refine nEq_ta hL h ((input_ta hL (KaJ (KaJ h).2.2).2.2 _).imp fun q hq=>?_);subst hq;exact ⟨by simp only [stTS,stEs,stSs],rfl⟩
 | ret d e p he=>cases ht;cases hk
 | assert d e p he=>cases ht;cases hk
 | ite d e ks ls p he hk hl=>exact absurd rfl j
 | loop d e ks p he hk=>exact absurd rfl k
end
end
section
open Go
def HS (l:List Tk):Prop:=∃ t r,l=t::r∧(t.1=3→t.2.1 ≠ ⟨#[125]⟩∧t.2.1 ≠ ⟨#[101,108,115,101]⟩∧t.2.1 ≠ ⟨#[105,110,116]⟩)
theorem hs_n (s:ByteArray)(n:Int)(l:List Tk):HS ((1,s,n)::l):=⟨_,l,rfl,fun h=>by cases h⟩
theorem hs_m {s:ByteArray}(h:s ≠ ⟨#[125]⟩∧s ≠ ⟨#[101,108,115,101]⟩∧s ≠ ⟨#[105,110,116]⟩)(l:List Tk):HS ((3,s,0)::l):=⟨_,l,rfl,fun _=>h⟩
theorem HS.app {l:List Tk}(h:HS l)(m:List Tk):HS (l++m):=by
 obtain ⟨t,r,h1,h2⟩:=h;exact ⟨t,r++m,by rw [h1];rfl,h2⟩
theorem pS_67 {d:Nat}{op:Int}{s f:ByteArray}{e:Ke}{ks ls:List Kj}{p:Int}(h:op=6∨op=7):tks (pS d ⟨op,s,f,[e],ks,ls,p⟩)=(3,(if op=6 then ⟨#[105,102]⟩ else ⟨#[119,104,105,108,101]⟩),0)::(3,⟨#[40]⟩,0)::(tks (pE e)++((3,⟨#[41]⟩,0)::(3,⟨#[123]⟩,0)::(tks (pSs (d+1) ks)++((3,⟨#[125]⟩,0)::(if ls.isEmpty then [] else (3,⟨#[101,108,115,101]⟩,0)::(3,⟨#[123]⟩,0)::(tks (pSs (d+1) ls)++[(3,⟨#[125]⟩,0)])))))):=by
 simp only [pS];rw [if_pos h,KaF,KaF,KaF,Khj,Khj];unfold pH;cases ls with
 | nil=>rcases h with rfl|rfl<;>simp [tks,KaF]
 | cons x l=>rcases h with rfl|rfl<;>simp [tks,KaF,Khj]
theorem KdF {d:Nat}{s:Kj}(h:¬(s.gj=6∨s.gj=7)):tks (pS d s)=tks (pFs s):=by
 obtain ⟨op,nm_,fn,es,ks,ls,p⟩:=s;simp only at h;simp only [pS];rw [if_neg h,Khj];rfl
theorem hs_s {b:Nat}{s:Kj}(h:VS b s)(d:Nat):HS (tks (pS d s)):=by
 cases h with
 | assign d' s e p hs he=>rw [KdF (by simp)];exact hs_n _ _ _
 | put d' s e f p hs he hf=>rw [KdF (by simp)];exact hs_n _ _ _
 | store d' s e p hs he=>rw [KdF (by simp)];exact hs_m (by decide) _
 | call d' f es p hf he=>rw [KdF (by simp)];exact hs_n _ _ _
 |
  callTo d' s f es p hs hf he=>
  have hne:s ≠ ByteArray.empty:=fun e=>by
   obtain ⟨c,r,h,_⟩:=hs.al.hd;rw [e] at h;cases h
  rw [KdF (by simp),show tks (pFs ⟨4,s,f,es,[],[],p⟩)=(1,s,0)::(3,⟨#[61]⟩,0)::(1,f,0)::(3,⟨#[40]⟩,0)::(tks (KaM (es.map pE))++[(3,⟨#[41]⟩,0),(3,⟨#[59]⟩,0)]) by simp [pFs,pF,tks,KaF,hne]];exact hs_n _ _ _
 | input d' s p hs=>rw [KdF (by simp)];exact hs_n _ _ _
 | ret d' e p he=>rw [KdF (by simp)];exact hs_m (by decide) _
 | assert d' e p he=>rw [KdF (by simp)];exact hs_m (by decide) _
 | ite d' e ks ls p he hk hl=>rw [pS_67 (.inl rfl)];exact hs_m (by decide) _
 | loop d' e ks p he hk=>rw [pS_67 (.inr rfl)];exact hs_m (by decide) _
theorem pSs_hs {b:Nat}{l:List Kj}(h:VSs b l)(d:Nat)(ts:List Tk):∃ t r,tks (pSs d l)++((3,⟨#[125]⟩,0)::ts)=t::r∧(t.1=3→t.2.1 ≠ ⟨#[105,110,116]⟩∧t.2.1 ≠ ⟨#[101,108,115,101]⟩):=by
 cases h with
 | nil=>exact ⟨_,_,rfl,fun _=>by decide⟩
 |
  cons _ s l h1 h2=>
  simp only [pSs];obtain ⟨t,r,c,a⟩:=hs_s h1 d;rw [KaF,c];exact ⟨t,_,rfl,fun h=>⟨(a h).2.2,(a h).2.1⟩⟩
def nEl (l:List Tk):Prop:=∃ t r,l=t::r∧(t.1=3→t.2.1 ≠ ⟨#[101,108,115,101]⟩)
section
variable {L : List KB} (hL : L.length ≤ 5000) {v : Int}
include hL
theorem blk_ta {one:Kg→Option (Kj×Kg)}{o:Int}{d b a0:Nat}(hone:∀ (a:Nat) (s:Kj) (ts:List Tk),a0≤a→VS b s→TA L a (tks (pS d s)++ts)→nEl ts→T (one (Gr L a v o)) (RT L a (tks (pS d s)).length v o s)){F:List Kj×List KB×Int×Int×Int×Int→Option (Step (List Kj×List KB×Int×Int×Int×Int) (List Kj×List KB×Int×Int×Int×Int))}
  (hF:∀ c,F c=(Option.bind (α:=Bool×List KB×Int×Int×Int×Int) (bif (c.2.2.2.1==(0:Int)) then ((KY (⟨c.2.1,c.2.2.1,c.2.2.2.1,c.2.2.2.2.1,c.2.2.2.2.2⟩:Kg) qZ17).bind fun g=>some ((!g.1),g.2.gL,g.2.gb,g.2.gE,g.2.gn,g.2.gm)) else some (false,c.2.1,c.2.2.1,c.2.2.2.1,c.2.2.2.2.1,c.2.2.2.2.2)) fun f=>(bif f.1 then ((one (⟨f.2.1,f.2.2.1,f.2.2.2.1,f.2.2.2.2.1,f.2.2.2.2.2⟩:Kg)).bind fun i=>((app 120 c.1 ([i.1]:List Kj)).bind fun n=>some (.next (n,i.2.gL,i.2.gb,i.2.gE,i.2.gn,i.2.gm)))) else some (.done (c.1,f.2.1,f.2.2.1,f.2.2.2.1,f.2.2.2.2.1,f.2.2.2.2.2)))))
  {a:Nat} (ha:a0≤a) {l:List Kj} {ts:List Tk} (hv:VSs b l) (h:TA L a (tks (pSs d l)++((3,⟨#[125]⟩,0)::ts))) :
  T (loopM F (([]:List Kj),L,(a:Int),0,v,o)) fun s=>stSs s.1=stSs l∧s.2=(L,((a+((tks (pSs d l)).length+1):Nat):Int),0,v,o):=by
 have hlen:∀ l:List Kj,VSs b l→l.length≤(tks (pSs d l)).length:=by
  intro l;induction l with
  | nil=>intro _;exact Nat.zero_le _
  |
   cons s l ih=>
   intro hv;cases hv with
   |
    cons _ _ _ h1 h2=>
    have:=ih h2;obtain ⟨t,r,j,_⟩:=hs_s h1 d;simp only [pSs];rw [KaF,j];simp only [List.length_cons,List.length_append];omega
 have hl:=hlen l hv;have hle:=ta_le h;refine T.each l (fun pre s=>∃ l',s=(l',L,((a+(tks (pSs d pre)).length:Nat):Int),0,v,o)∧stSs l'=stSs pre∧l'.length=pre.length) ⟨[],rfl,rfl,rfl⟩ (fun pre x post s e hi=>?_) fun s hi=>?_
 ·obtain ⟨l',rfl,j,m⟩:=hi;have hta:=h;rw [e,Kgr,KaF,List.append_assoc] at hta;simp only [pSs] at hta;rw [KaF,List.append_assoc] at hta;have k:=Kb7 hta;have hx:=vss_mem hv x (KcE e);obtain ⟨t,r,f1,p⟩:=(hs_s hx d).app (tks (pSs d post)++((3,⟨#[125]⟩,0)::ts));have hno:=k;rw [f1] at hno;have hlp:=KgJ e;rw [hF];show T (Option.bind ((KY (Gr L (a+(tks (pSs d pre)).length) v o) _).bind _) _) _
  rw [Kgs hL hno (fun h=>(p h).1),Option.bind_some,Option.bind_some];show T ((one (Gr L (a+(tks (pSs d pre)).length) v o)).bind _) _
  have hvp:VSs b post:=by
   have:∀ (pre:List Kj),VSs b (pre++x::post)→VSs b post:=by
    intro pre;induction pre with
    | nil=>intro h;cases h with|cons _ _ _ _ h2=>exact h2
    | cons y pre ih=>intro h;cases h with|cons _ _ _ _ h2=>exact ih h2
   exact this pre (by rw [← e];exact hv)
  obtain ⟨t',r',g1,u⟩:=pSs_hs hvp d ts;refine T.bind (hone _ x _ (by omega) hx k ⟨t',r',g1,fun h=>(u h).2⟩) fun q hq=>?_
  obtain ⟨w,z⟩:=hq;rw [Kc6 (by omega) (by simp;omega),Option.bind_some,z];refine T.next ⟨l'++[q.1],?_,by rw [Kio,Kio,j];simp only [stSs,w],by simp [m]⟩;rw [Kgr,KaF];simp only [pSs];rw [KaF];simp only [List.length_append,tks,List.length_nil];rw [show a+((tks (pSs d pre)).length+((tks (pS d x)).length+0))=a+(tks (pSs d pre)).length+(tks (pS d x)).length by omega]
 obtain ⟨l',rfl,j,m⟩:=hi;have k:=Kb7 h;rw [hF];show T (Option.bind ((KY (Gr L (a+(tks (pSs d l)).length) v o) _).bind _) _) _
 rw [Kee hL k];exact T.done ⟨j,by rw [show a+((tks (pSs d l)).length+1)=a+(tks (pSs d l)).length+1 by omega]⟩
theorem open_ta {a o:Nat}(ho:o < 24){ts:List Tk}(h:TA L a ((3,⟨#[123]⟩,0)::ts)){β:Type}{f:List KB×Int×Int×Int×Int→Option β}{Q:β→Prop}(g:T (f (L,((a+1:Nat):Int),0,v,(o:Int))) Q) :
  T ((KQ (Gr L a v o) qZ14).bind fun b=>(Option.bind (α:=List KB×Int×Int×Int×Int) (bif (decide ((24:Int)≤b.gm)) then ((Kaz b (Gr L a v o).gb (5:Int)).bind fun c=>some (c.gL,c.gb,c.gE,c.gn,c.gm)) else some (b.gL,b.gb,b.gE,b.gn,b.gm)) f)) Q:=by
 rw [geat1 hL h,Option.bind_some];show T (Option.bind (bif decide ((24:Int)≤(o:Int)) then _ else some (L,((a+1:Nat):Int),0,v,(o:Int))) f) Q
 rw [decide_eq_false (by omega)];exact g
theorem st_ta:∀ N:Nat,(∀ (a b d o:Nat) (s:Kj) (ts:List Tk),VS b s→o+b≤24→TA L a (tks (pS d s)++ts)→nEl ts→2*(L.length+1 - a)+1≤N→T ((SG N).1 (Gr L a v o)) (RT L a (tks (pS d s)).length v o s)) ∧
  (∀ (a b d o:Nat) (l:List Kj) (ts:List Tk),VSs b l→o+1+b≤24→TA L a ((3,⟨#[123]⟩,0)::(tks (pSs d l)++((3,⟨#[125]⟩,0)::ts)))→2*(L.length+1 - a)+2≤N→T ((SG N).2 (Gr L a v o)) fun r=>stSs r.1=stSs l∧r.2=Gr L (a+((tks (pSs d l)).length+2)) v o)
 | 0=>⟨fun _ _ _ _ _ _ _ _ _ _ h=>by omega,fun _ _ _ _ _ _ _ _ _ h=>by omega⟩
 |
  N+1=>by
  obtain ⟨iS,iB⟩:=st_ta N;refine ⟨fun a b d o s ts hv ho h hn hN=>?_,fun a b d o l ts hv ho h hN=>?_⟩
  ·show T (Ka1 (SG N).1 (SG N).2 (Gr L a v o)) _
   unfold Ka1;obtain ⟨t,r,g,K⟩:=hs_s hv d;have h0:=h;rw [g,List.cons_append] at h0;obtain ⟨x,A,B⟩:=KgK (v:=v) (o:=(o:Int)) hL h0;have hk:x.gt=t.1:=congrArg Prod.fst B;rw [A,Option.bind_some,hk];have nam:¬(s.gj=6∨s.gj=7)→t.1=1→T (bif (t.1==(1:Int)) then ((KaZ (Gr L a v o) (⟨(0:Int),ByteArray.empty,ByteArray.empty,[],[],[],x.gb⟩:Kj)).bind fun u=>some (u.1,u.2)) else none) (RT L a (tks (pS d s)).length v o s):=fun C ht=>by
    rw [ht];rw [KdF C] at h g ⊢;exact T.bind (named_ta hL hv g ht (by omega) (by omega) h _) fun q hq=>T.ret hq
   have no:∀ {w:ByteArray},t.1=3→t.2.1 ≠ w→KY (Gr L a v o) w=some (false,Gr L a v o):=fun h1 h2=>Kgs hL h0 fun _=>h2
   cases hv with
   |
    assign d' s e p hs he=>
    have ht:t.1=1:=by rw [KdF (by simp)] at g;rw [← (List.cons.inj g).1]
    have:=nam (by simp) ht;rw [ht] at this ⊢;exact this
   |
    put d' s e f p hs he hf=>
    have ht:t.1=1:=by rw [KdF (by simp)] at g;rw [← (List.cons.inj g).1]
    have:=nam (by simp) ht;rw [ht] at this ⊢;exact this
   |
    call d' f es p hf he=>
    have ht:t.1=1:=by rw [KdF (by simp)] at g;rw [← (List.cons.inj g).1]
    have:=nam (by simp) ht;rw [ht] at this ⊢;exact this
   |
    callTo d' s f es p hs hf he=>
    have ht:t.1=1:=by
     have hne:s ≠ ByteArray.empty:=fun e=>by
      obtain ⟨c,r,h,_⟩:=hs.al.hd;rw [e] at h;cases h
     rw [KdF (by simp),show tks (pFs ⟨4,s,f,es,[],[],p⟩)=(1,s,0)::(3,⟨#[61]⟩,0)::(1,f,0)::(3,⟨#[40]⟩,0)::(tks (KaM (es.map pE))++[(3,⟨#[41]⟩,0),(3,⟨#[59]⟩,0)]) by simp [pFs,pF,tks,KaF,hne]] at g;rw [← (List.cons.inj g).1]
    have:=nam (by simp) ht;rw [ht] at this ⊢;exact this
   |
    input d' s p hs=>
    have ht:t.1=1:=by rw [KdF (by simp)] at g;rw [← (List.cons.inj g).1]
    have:=nam (by simp) ht;rw [ht] at this ⊢;exact this
   |
    store d' s e p hs he=>
    have htk:tks (pS d ⟨3,s,ByteArray.empty,[e],[],[],p⟩)=(3,⟨#[42]⟩,0)::(1,s,0)::(3,⟨#[61]⟩,0)::(tks (pE e)++[(3,⟨#[59]⟩,0)]):=by rw [KdF (by simp)];simp [pFs,pF,tks,KaF]
    have ht:t=(3,⟨#[42]⟩,0):=by rw [htk] at g;exact (List.cons.inj g).1.symm
    subst ht;rw [htk] at h ⊢;simp only [List.cons_append,List.append_assoc,List.nil_append] at h;refine T.cond (fun h=>by cases h) fun _=>?_
    rw [Kee hL h,Option.bind_some];refine T.cond (fun _=>?_) fun h=>by cases h
    have h1:=(KaJ h).2.2;have h2:=(KaJ h1).2.2;have i:=(KaJ h2).2.2;show T ((KaQ (Gr L (a+1) v o)).bind _) _
    rw [KfI hL h1,Option.bind_some];show T ((KQ (Gr L (a+1+1) v o) _).bind _) _
    rw [geat1 hL h2,Option.bind_some];refine T.bind (KfJ hL he i (fol59 _ _)) fun q hq=>?_
    obtain ⟨j,k⟩:=hq;rw [j,geat1 hL (Kb7 i)];refine T.ret ⟨by simp only [stTS,stEs,stSs,k],?_⟩;show Gr L _ v o=_
    simp only [List.length_cons,List.length_append,List.length_nil];rw [show a+1+1+1+(tks (pE e)).length+1=a+((tks (pE e)).length+(0+1)+1+1+1) by omega]
   |
    ret d' e p he=>
    have htk:tks (pS d ⟨8,ByteArray.empty,ByteArray.empty,[e],[],[],p⟩)=(3,⟨#[114,101,116,117,114,110]⟩,0)::(tks (pE e)++[(3,⟨#[59]⟩,0)]):=by rw [KdF (by simp)];simp [pFs,pF,tks,KaF]
    have ht:t=(3,⟨#[114,101,116,117,114,110]⟩,0):=by rw [htk] at g;exact (List.cons.inj g).1.symm
    subst ht;rw [htk] at h ⊢;simp only [List.cons_append,List.append_assoc,List.nil_append] at h;refine T.cond (fun h=>by cases h) fun _=>?_
    rw [no rfl (by decide),Option.bind_some];refine T.cond (fun h=>by cases h) fun _=>?_
    rw [no rfl (by decide),Option.bind_some];refine T.cond (fun h=>by cases h) fun _=>?_
    rw [no rfl (by decide),Option.bind_some];refine T.cond (fun h=>by cases h) fun _=>?_
    rw [Kee hL h,Option.bind_some];refine T.cond (fun _=>?_) fun h=>by cases h
    have h1:=(KaJ h).2.2;refine T.bind (KfJ hL he h1 (fol59 _ _)) fun q hq=>?_
    obtain ⟨j,k⟩:=hq;rw [j,geat1 hL (Kb7 h1)];refine T.ret ⟨by simp only [stTS,stEs,stSs,k],?_⟩;show Gr L _ v o=_
    simp only [List.length_cons,List.length_append,List.length_nil];rw [show a+1+(tks (pE e)).length+1=a+((tks (pE e)).length+(0+1)+1) by omega]
   |
    assert d' e p he=>
    have htk:tks (pS d ⟨9,ByteArray.empty,ByteArray.empty,[e],[],[],p⟩)=(3,⟨#[97,115,115,101,114,116]⟩,0)::(3,⟨#[40]⟩,0)::(tks (pE e)++[(3,⟨#[41]⟩,0),(3,⟨#[59]⟩,0)]):=by rw [KdF (by simp)];simp [pFs,pF,tks,KaF]
    have ht:t=(3,⟨#[97,115,115,101,114,116]⟩,0):=by rw [htk] at g;exact (List.cons.inj g).1.symm
    subst ht;rw [htk] at h ⊢;simp only [List.cons_append,List.append_assoc,List.nil_append] at h;refine T.cond (fun h=>by cases h) fun _=>?_
    rw [no rfl (by decide),Option.bind_some];refine T.cond (fun h=>by cases h) fun _=>?_
    rw [no rfl (by decide),Option.bind_some];refine T.cond (fun h=>by cases h) fun _=>?_
    rw [no rfl (by decide),Option.bind_some];refine T.cond (fun h=>by cases h) fun _=>?_
    rw [no rfl (by decide),Option.bind_some];refine T.cond (fun h=>by cases h) fun _=>?_
    rw [Kee hL h,Option.bind_some];refine T.cond (fun _=>?_) fun h=>by cases h
    have h1:=(KaJ h).2.2;refine T.bind (test_ta hL he h1) fun q hq=>?_
    obtain ⟨j,k⟩:=hq;have h2:=Kb7 (us:=(3,⟨#[40]⟩,0)::(tks (pE e)++[(3,⟨#[41]⟩,0)])) (ts:=(3,⟨#[59]⟩,0)::ts) (by simpa only [List.cons_append,List.append_assoc,List.nil_append] using h1);simp only [List.length_cons,List.length_append,List.length_nil] at h2;rw [k,show a+1+((tks (pE e)).length+2)=a+1+((tks (pE e)).length+(0+1)+1) by omega,geat1 hL h2];refine T.ret ⟨by simp only [stTS,stEs,stSs,j],?_⟩;show Gr L _ v o=_
    simp only [List.length_cons,List.length_append,List.length_nil];rw [show a+1+((tks (pE e)).length+(0+1)+1)+1=a+((tks (pE e)).length+(0+1+1)+1+1) by omega]
   |
    ite d' e ks ls p he hks hls=>
    have htk:=pS_67 (d:=d) (s:=ByteArray.empty) (f:=ByteArray.empty) (e:=e) (ks:=ks) (ls:=ls) (p:=p) (Or.inl (rfl:(6:Int)=6));rw [if_pos rfl] at htk;have ht:t=(3,⟨#[105,102]⟩,0):=by rw [htk] at g;exact (List.cons.inj g).1.symm
    subst ht;rw [htk] at h ⊢;simp only [List.cons_append,List.append_assoc,List.nil_append] at h;refine T.cond (fun h=>by cases h) fun _=>?_
    rw [no rfl (by decide),Option.bind_some];refine T.cond (fun h=>by cases h) fun _=>?_
    rw [Kee hL h,Option.bind_some];refine T.cond (fun _=>?_) fun h=>by cases h
    have h1:=(KaJ h).2.2;refine T.bind (test_ta hL he h1) fun q hq=>?_
    obtain ⟨j,k⟩:=hq;have h2:=Kb7 (us:=(3,⟨#[40]⟩,0)::(tks (pE e)++[(3,⟨#[41]⟩,0)])) (by simpa only [List.cons_append,List.append_assoc,List.nil_append] using h1);simp only [List.length_cons,List.length_append,List.length_nil] at h2;rw [k,show a+1+((tks (pE e)).length+2)=a+1+((tks (pE e)).length+(0+1)+1) by omega];have D:=ta_lt h;have E:=ta_lt h2;generalize hc:a+1+((tks (pE e)).length+(0+1)+1)=c at *;refine T.bind (iB c d' (d+1) o ks _ hks (by omega) h2 (by omega)) fun w hw=>?_
    obtain ⟨m,n⟩:=hw;have i:=Kb7 (us:=(3,⟨#[123]⟩,0)::(tks (pSs (d+1) ks)++[(3,⟨#[125]⟩,0)])) (by simpa only [List.cons_append,List.append_assoc,List.nil_append] using h2);simp only [List.length_cons,List.length_append,List.length_nil] at i;rw [n,show c+((tks (pSs (d+1) ks)).length+2)=c+((tks (pSs (d+1) ks)).length+(0+1)+1) by omega];generalize M:c+((tks (pSs (d+1) ks)).length+(0+1)+1)=c2 at *;cases ls with
    |
     nil=>
     simp only [List.isEmpty_nil,if_true,List.nil_append] at i;obtain ⟨t',r',f1,F⟩:=hn;rw [f1] at i;rw [Kgs hL i F];refine T.ret ⟨by simp only [stTS,stEs,stSs,j,m],?_⟩;show Gr L _ v o=_
     simp only [List.length_cons,List.length_append,List.length_nil,List.isEmpty_nil,if_true];rw [show a+((tks (pE e)).length+((tks (pSs (d+1) ks)).length+(0+1)+1+1)+1+1)=c2 by omega]
    |
     cons y ls=>
     simp only [List.isEmpty_cons,Bool.false_eq_true,if_false,List.cons_append,List.append_assoc,List.nil_append] at i;rw [Kee hL i,Option.bind_some];refine T.cond (fun _=>?_) fun h=>by cases h
     refine T.bind (iB (c2+1) d' (d+1) o (y::ls) _ hls (by omega) (KaJ i).2.2 (by have:=ta_lt i;omega)) fun z hz=>?_
     obtain ⟨G,H⟩:=hz;refine T.ret ⟨by simp only [stTS,stEs,j,m,G],?_⟩;show z.2=_
     rw [H];simp only [List.length_cons,List.length_append,List.length_nil,List.isEmpty_cons,Bool.false_eq_true,if_false];rw [show a+((tks (pE e)).length+((tks (pSs (d+1) ks)).length+((tks (pSs (d+1) (y::ls))).length+(0+1)+1+1+1)+1+1)+1+1)=c2+1+((tks (pSs (d+1) (y::ls))).length+2) by omega]
   |
    loop d' e ks p he hks=>
    have htk:=pS_67 (d:=d) (s:=ByteArray.empty) (f:=ByteArray.empty) (e:=e) (ks:=ks) (ls:=[]) (p:=p) (Or.inr (rfl:(7:Int)=7));rw [if_neg (by decide)] at htk;have ht:t=(3,⟨#[119,104,105,108,101]⟩,0):=by rw [htk] at g;exact (List.cons.inj g).1.symm
    subst ht;rw [htk] at h ⊢;simp only [List.cons_append,List.append_assoc,List.nil_append,List.isEmpty_nil,if_true] at h;refine T.cond (fun h=>by cases h) fun _=>?_
    rw [no rfl (by decide),Option.bind_some];refine T.cond (fun h=>by cases h) fun _=>?_
    rw [no rfl (by decide),Option.bind_some];refine T.cond (fun h=>by cases h) fun _=>?_
    rw [Kee hL h,Option.bind_some];refine T.cond (fun _=>?_) fun h=>by cases h
    have h1:=(KaJ h).2.2;refine T.bind (test_ta hL he h1) fun q hq=>?_
    obtain ⟨j,k⟩:=hq;have h2:=Kb7 (us:=(3,⟨#[40]⟩,0)::(tks (pE e)++[(3,⟨#[41]⟩,0)])) (by simpa only [List.cons_append,List.append_assoc,List.nil_append] using h1);simp only [List.length_cons,List.length_append,List.length_nil] at h2;rw [k,show a+1+((tks (pE e)).length+2)=a+1+((tks (pE e)).length+(0+1)+1) by omega];have D:=ta_lt h;have E:=ta_lt h2;generalize hc:a+1+((tks (pE e)).length+(0+1)+1)=c at *;refine T.bind (iB c d' (d+1) o ks _ hks (by omega) h2 (by omega)) fun w hw=>T.ret ?_
    obtain ⟨m,n⟩:=hw;refine ⟨by simp only [stTS,stEs,stSs,j,m],?_⟩;show w.2=_
    rw [n];simp only [List.length_cons,List.length_append,List.length_nil,List.isEmpty_nil,if_true];rw [show a+((tks (pE e)).length+((tks (pSs (d+1) ks)).length+(0+1)+1+1)+1+1)=c+((tks (pSs (d+1) ks)).length+2) by omega]
  show T (KaX (SG N).1 (SG N).2 (Gr L a v o)) _
  unfold KaX grammar_nothing;refine open_ta hL (by omega) h ?_;rw [Option.bind_some];have hlt:=ta_lt h;have hw:IntKind.i64.wrap ((o:Int)+1)=((o+1:Nat):Int):=wn (by omega);simp only;rw [hw];refine T.bind (blk_ta hL (v:=v) (o:=((o+1:Nat):Int)) (d:=d) (b:=b) (a0:=a+1) (fun a' s' ts' ha' hv' hta' hn'=>iS a' b d (o+1) s' ts' hv' (by omega) hta' hn' (by omega)) (fun _=>rfl) (Nat.le_refl _) hv (KaJ h).2.2) fun s hs=>T.ret ?_
  obtain ⟨I,J⟩:=hs;refine ⟨I,?_⟩;rw [J];show (⟨L,_,0,v,IntKind.i64.wrap (((o+1:Nat):Int) - 1)⟩:Kg)=_
  rw [show IntKind.i64.wrap (((o+1:Nat):Int) - 1)=(o:Int) by rw [IntKind.wrap_i64];omega,show a+1+((tks (pSs d l)).length+1)=a+((tks (pSs d l)).length+2) by omega]
theorem stmt_ta {a b d o:Nat}{s:Kj}{ts:List Tk}(hv:VS b s)(ho:o+b≤24)(h:TA L a (tks (pS d s)++ts))(hn:nEl ts):T (KcZ (Gr L a v o)) (RT L a (tks (pS d s)).length v o s):=by
 obtain ⟨r,h1,h2⟩:=(st_ta hL (2*(L.length+1 - a)+1)).1 a b d o s ts hv ho h hn (Nat.le_refl _);exact ⟨r,Kfx _ _ h1,h2⟩
end
end
section
open Go
mutual
theorem sz_stE:∀ e,szE (stE e)=szE e
 | ⟨a,b,c,ks,d⟩=>by simp only [stE,szE,sz_stEs ks]
theorem sz_stEs:∀ l,szEs (stEs l)=szEs l
 | []=>rfl
 | e::l=>by simp only [stEs,szEs,sz_stE e,sz_stEs l]
end
mutual
theorem sz_stS:∀ s,szS (stTS s)=szS s
 | ⟨a,b,c,es,ks,ls,d⟩=>by simp only [stTS,szS,sz_stEs es,KgM ks,KgM ls]
theorem KgM:∀ l,szSs (stSs l)=szSs l
 | []=>rfl
 | e::l=>by simp only [stSs,szSs,sz_stS e,KgM l]
end
theorem Kj7:∀ l:List K3,tks (pLs l)=l.flatMap fun v=>tks (pV v)++[(3,⟨#[59]⟩,0)]
 | []=>rfl
 |
  v::l=>by
  show tks (ind 1 (pV v++[mk ⟨#[59]⟩])++pLs l)=_
  rw [KaF,Khj,KaF,Kj7 l];simp [tks]
theorem tks_pFn (f:KG):tks (pFn f)=(3,⟨#[105,110,116]⟩,0)::(1,f.ga,0)::(3,⟨#[40]⟩,0)::(tks (KaM (f.gf.map pV))++((3,⟨#[41]⟩,0)::(3,⟨#[123]⟩,0)::(tks (pLs f.gh)++(tks (pSs 1 f.gp)++[(3,⟨#[125]⟩,0)])))):=by
 unfold pFn;simp [KaF,Khj,tks]
structure SF (g f:KG):Prop where
 nm:g.ga=f.ga
 ps:g.gf=f.gf
 ls:g.gh=f.gh
 body:stSs g.gp=stSs f.gp
def Gross (f:KG):Prop:=∃ b n,stSs b=stSs f.gp∧Kfp b=some n∧800 < n
section
variable {L : List KB} (hL : L.length ≤ 5000)
include hL
theorem locals_ta {a n o:Nat}{l:List K3}(hn:n+l.length≤16){ts:List Tk}(h:TA L a (tks (pLs l)++ts))(hts:∃ t r,ts=t::r∧(t.1=3→t.2.1 ≠ ⟨#[105,110,116]⟩))(f:KG)(hf:f.gh=[]):T (Kbc f (Gr L a (n:Int) (o:Int))) fun r=>r=(Gr L (a+(tks (pLs l)).length) ((n+l.length:Nat):Int) (o:Int),⟨f.ga,f.gf,l,f.gp,f.gb⟩):=by
 obtain ⟨c,v,g,i⟩:=hts;unfold Kbc;refine T.bind (P:=fun s:List KB×Int×Int×Int×Int×List K3=>s=(L,((a+(tks (pLs l)).length:Nat):Int),0,((n+l.length:Nat):Int),(o:Int),l)) (T.each l (fun pre s=>s=(L,((a+(tks (pLs pre)).length:Nat):Int),0,((n+pre.length:Nat):Int),(o:Int),pre)) (by rw [hf];rfl) (fun pre x post s e hi=>?_) fun s hi=>?_) fun s hs=>T.ret (by rw [hs])
 ·subst hi;have hta:=h;rw [e,Khd,KaF,List.append_assoc] at hta;have j:tks (pLs (x::post))=tks (pV x)++((3,⟨#[59]⟩,0)::tks (pLs post)):=by rw [Kj7,Kj7];simp
  rw [j,List.append_assoc,List.cons_append] at hta;have b:=Kb7 hta;have hlp:=KgJ e;have hint:=b;rw [tks_pV,List.cons_append] at hint;show T (Option.bind ((KaD (Gr L (a+(tks (pLs pre)).length) ((n+pre.length:Nat):Int) o) 0 (ByteArray.mk #[105,110,116])).bind fun d=>some d) _) _
  rw [gis_ta hL hint,Option.bind_some,Option.bind_some];refine T.cond (fun _=>?_) fun h=>absurd (of_decide_eq_false (show decide ((⟨#[105,110,116]⟩:ByteArray)=⟨#[105,110,116]⟩)=false from h)) (fun h=>h rfl)
  show T ((KaW (Gr L (a+(tks (pLs pre)).length) ((n+pre.length:Nat):Int) o)).bind _) _
  refine T.bind (var_ta hL (by omega) b) fun q hq=>?_
  obtain ⟨k,m⟩:=hq;rw [Kc6 (by omega) (by simp;omega),Option.bind_some,k,m,geat1 hL (Kb7 b)];refine T.next ?_;have p:tks (pLs (pre++[x]))=tks (pLs pre)++(tks (pV x)++[(3,⟨#[59]⟩,0)]):=by rw [Khd,KaF];congr 1;rw [Kj7];simp
  rw [p];simp only [List.length_append,List.length_cons,List.length_nil];rw [show a+(tks (pLs pre)).length+(tks (pV x)).length+1=a+((tks (pLs pre)).length+((tks (pV x)).length+(0+1))) by omega,show n+pre.length+1=n+(pre.length+(0+1)) by omega]
 subst hi;have b:=Kb7 h;rw [g] at b;show T (Option.bind ((KaD (Gr L (a+(tks (pLs l)).length) ((n+l.length:Nat):Int) o) 0 (ByteArray.mk #[105,110,116])).bind fun d=>some d) _) _
 rw [gis_ta hL b];have hno:(bif c.1==(3:Int) then decide (c.2.1=(ByteArray.mk #[105,110,116])) else false)=false:=by
  cases u:c.1==3 with
  | false=>rfl
  | true=>exact decide_eq_false (i (by simpa using u))
 rw [hno];exact T.done rfl
theorem func_ta {f:KG}(hf:VF f)(h:TA L 0 (tks (pFn f)++[(0,ByteArray.empty,0)])):T (Kba (Gr L 0 0 0)) fun r=>(r.2.gE=6∧Gross f∧0≤r.2.gb∧r.2.gb≤(L.length:Int))∨(r.2.gE=0∧r.2.gb=((tks (pFn f)).length:Int)∧SF r.1 f):=by
 have hmany:=hf.many;have hh:=h;rw [tks_pFn] at h;simp only [List.cons_append,List.append_assoc,List.nil_append] at h;have h1:=(KaJ h).2.2;have h2:=(KaJ h1).2.2;have a:=Kb7 (us:=(3,⟨#[40]⟩,0)::(tks (KaM (f.gf.map pV))++[(3,⟨#[41]⟩,0)])) (by simpa only [List.cons_append,List.append_assoc,List.nil_append] using h2);simp only [List.length_cons,List.length_append,List.length_nil] at a;have g:=(KaJ a).2.2;have i:=Kb7 g;have hlt:=ta_lt h;obtain ⟨x,j,_⟩:=KgK (v:=0) (o:=0) hL h;unfold Kba;rw [j,Option.bind_some,geat1 hL h,Option.bind_some];show T ((KaQ (Gr L (0+1) 0 0)).bind _) _
 rw [KfI hL h1,Option.bind_some];refine T.bind (listV_ta hL (by omega) h2) fun q hq=>?_
 obtain ⟨k,l⟩:=hq;rw [k,l,show 0+1+1+((tks (KaM (f.gf.map pV))).length+2)=0+1+1+((tks (KaM (f.gf.map pV))).length+(0+1)+1) by omega];generalize hc:0+1+1+((tks (KaM (f.gf.map pV))).length+(0+1)+1)=c at *;refine T.bind (P:=fun r=>stSs r.1=stSs f.gp∧r.2.1=Gr L (c+1+(tks (pLs f.gh)).length+((tks (pSs 1 f.gp)).length+1)) ((f.gf.length+f.gh.length:Nat):Int) 0∧r.2.2=⟨f.ga,f.gf,f.gh,[],x.gb⟩) ?_ fun r hr=>?_
 ·unfold Kcq;refine open_ta hL (o:=0) (by omega) a ?_;have hw:IntKind.i64.wrap (((0:Nat):Int)+1)=((1:Nat):Int):=wn (by omega);simp only;rw [hw];refine T.bind (locals_ta hL (n:=f.gf.length) (o:=1) hmany g ?_ _ rfl) fun w hw'=>?_
  ·obtain ⟨t,r,m,p⟩:=pSs_hs hf.body 1 [(0,ByteArray.empty,0)];exact ⟨t,r,m,fun h=>(p h).1⟩
  subst hw';refine T.bind (blk_ta hL (o:=((1:Nat):Int)) (d:=1) (b:=23) (a0:=0) (fun a' s' ts' _ hv' hta' hn'=>stmt_ta hL (o:=1) hv' (by omega) hta' hn') (fun _=>rfl) (Nat.zero_le _) hf.body i) fun s hs=>T.ret ?_
  obtain ⟨u,z⟩:=hs;refine ⟨u,?_,rfl⟩;simp only;rw [z];show (⟨L,_,0,_,IntKind.i64.wrap (((1:Nat):Int) - 1)⟩:Kg)=_
  rw [show IntKind.i64.wrap (((1:Nat):Int) - 1)=0 by rw [IntKind.wrap_i64];omega]
 obtain ⟨e,A,B⟩:=hr;rw [A,B];have hsz:szSs r.1≤1048576:=by rw [← KgM,e,KgM];exact hf.size
 have hpos:c+1+(tks (pLs f.gh)).length+((tks (pSs 1 f.gp)).length+1)=(tks (pFn f)).length:=by
  rw [tks_pFn];simp only [List.length_cons,List.length_append,List.length_nil];omega
 refine T.bind (P:=fun y=>y=true→Gross f) (T.cond (fun _=>?_) fun _=>T.ret fun h=>by cases h) fun b hb=>T.cond (fun hb'=>?_) fun _=>T.ret (.inr ⟨rfl,by rw [hpos],rfl,rfl,rfl,e⟩)
 ·obtain ⟨n,hn,_⟩:=sizes_t hsz;rw [hn,Option.bind_some];exact T.ret fun h=>⟨r.1,n,e,hn,of_decide_eq_true h⟩
 refine T.bind (P:=fun q=>q.gE=6∧q.gb=((0+1:Nat):Int)) (T.ret ⟨rfl,rfl⟩) fun q hq=>T.ret (.inl ⟨hq.1,hb hb',?_⟩)
 simp only;rw [hq.2];omega
end
theorem toks_ta {l:List Pc}{L:List KB}(h:L.map sk=tks l++[(0,ByteArray.empty,0)]):TA L 0 (tks l++[(0,ByteArray.empty,0)])∧L.length=(tks l).length+1:=by
 refine ⟨by unfold TA;rw [List.drop_zero,h],?_⟩;have:=congrArg List.length h;simpa using this
theorem end_ta {l:List Pc}{L:List KB}(h:L.map sk=tks l++[(0,ByteArray.empty,0)])(hL:L.length≤5000):∃ t,idx L (min ((tks l).length:Int) (IntKind.i64.wrap ((L.length:Int) - (1:Int))))=some t∧t.gt=0:=by
 obtain ⟨h1,h2⟩:=toks_ta h;obtain ⟨_,⟨t,a,b⟩,_⟩:=KaJ (Kb7 h1);refine ⟨t,?_,congrArg Prod.fst b⟩;have hw:IntKind.i64.wrap ((L.length:Int) - 1)=(L.length:Int) - 1:=by rw [IntKind.wrap_i64];omega
 rw [hw,show min ((tks l).length:Int) ((L.length:Int) - 1)=((tks l).length:Int) by omega,Kdq];rw [Nat.zero_add] at a;exact a
theorem ftext_ta {f:KG}(hf:VF f){l:List Pc}(hl:Lx l)(ht:tks l=tks (pFn f)):T (Kbs (txts l)) fun r=>(r.2.2=6∧(20000 < (txts l).length∨4000≤(tks l).length∨Gross f))∨(r.2.2=0∧(txts l).length≤20000∧SF r.1 f):=by
 unfold Kbs KcF;refine T.bind (P:=fun r:KG×Int×Int=>(r.2.2=6∧(20000 < (txts l).length∨4000≤(tks l).length∨Gross f))∨(r.2.2=0∧(txts l).length≤20000∧SF r.1 f)) (T.bind (read_is hl) fun x hx=>?_) fun r hr=>T.ret hr
 rcases hx with ⟨hx,j⟩|⟨m,n,e,q⟩
 ·rw [hx];exact T.ret (.inl ⟨rfl,j.elim .inl fun h=>.inr (.inl h)⟩)
 rw [m];have hL:x.1.length≤5000:=by omega
 obtain ⟨h1,h2⟩:=toks_ta e;obtain ⟨t,o,p⟩:=end_ta e hL;refine T.bind (P:=fun r:KG×Int×Int=>(r.2.2=6∧Gross f∧0≤r.2.1∧r.2.1≤(x.1.length:Int))∨(r.2.2=0∧r.2.1=((tks l).length:Int)∧SF r.1 f)) ?_ fun y hy=>?_
 ·unfold KeD Kc3;show T ((Kba (Gr x.1 0 0 0)).bind _) _
  refine T.bind (func_ta hL hf (by rw [← ht];exact h1)) fun r hr=>?_
  rcases hr with ⟨a,b,c⟩|⟨a,b,c⟩
  ·rw [a];exact T.ret (.inl ⟨rfl,b,c⟩)
  rw [a];exact T.ret (.inr ⟨rfl,by rw [ht];exact b,c⟩)
 rcases hy with ⟨d,yg,g,i⟩|⟨d,g,i⟩
 ·rw [d];have hw:IntKind.i64.wrap ((x.1.length:Int) - 1)=(x.1.length:Int) - 1:=by rw [IntKind.wrap_i64];omega
  rw [hw];obtain ⟨k,hk⟩:=Int.eq_ofNat_of_zero_le (show 0≤min y.2.1 ((x.1.length:Int) - 1) by omega);rw [hk];exact T.bind (P:=fun _=>True) (T.idx (by omega) fun _ _=>trivial) fun _ _=>T.ret (.inl ⟨rfl,.inr (.inr yg)⟩)
 rw [d,g,o,Option.bind_some,p];exact T.ret (.inr ⟨rfl,n,i⟩)
end
section
open Go
theorem KgZ {β τ:Type}{l:List β}{t:τ}{F:Int→Option (Step Int τ)}(h1:∀ pre x post,l=pre++x::post→F (pre.length:Int)=some (.next ((pre.length+1:Nat):Int)))(h2:F (l.length:Int)=some (.done t)):loopM F (0:Int)=some t:=
 Kkz l (fun _=>()) (fun _ k=>(k:Int)) (fun _=>t) h1 h2
theorem KlG {l:List K3}(hb:l.length≤1048576):KgF l l=some true:=by
 unfold KgF;simp only [bne_self_eq_false,cond_false];rw [KgZ (l:=l) (t:=Sum.inl ()) (fun pre x post e=>?_) (by simp)]
 ·rfl
 have hix:idx l (pre.length:Int)=some x:=by rw [e];exact KcN _ _ _
 simp only [Kcc e,cond_true,hix,Option.bind_some,decide_true,beq_self_eq_true,Bool.and_self,Bool.not_true,cond_false];rw [KbO e (by omega)]
theorem other {β γ:Type}{s:β→γ}{l m:List β}{w:Bool}(h:l.map s=m.map s)(hw:w=true→l=m){pre:List β}{x:β}{post:List β}(e:l=pre++x::post):∃ y,idx m (pre.length:Int)=some y∧s y=s x∧(w=true→x=y):=by
 have h1:(l.map s)[pre.length]? = some (s x):=by rw [e];simp
 rw [h,List.getElem?_map] at h1;obtain ⟨y,h2,a⟩:=Option.map_eq_some_iff.1 h1;refine ⟨y,by rw [Kdq];exact h2,a,fun hh=>?_⟩;rw [← hw hh,e] at h2;simpa using h2
theorem stE_fields {x y:Ke}(h:stE y=stE x):y.gj=x.gj∧y.gN=x.gN∧y.ga=x.ga∧stEs y.gc=stEs x.gc:=by
 cases x;cases y
 simp only [stE,Ke.mk.injEq] at h;exact ⟨h.1,h.2.1,h.2.2.1,h.2.2.2.1⟩
theorem Kkl (w:Bool):∀ (n:Nat) (l m:List Ke),dpEs l+1≤n→szEs l≤1048576→stEs l=stEs m→(w=true→l=m)→KcO n l m w=some true
 | 0,l,m,h,_,_,_=>by omega
 |
  n+1,l,m,h,hb,hs,hw=>by
  show Kek (KcO n) l m w=_
  unfold Kek;have hl:=Kfc l;have hlen:m.length=l.length:=by rw [← KkI m,← hs,KkI]
  simp only [hlen,bne_self_eq_false,cond_false];rw [KgZ (l:=l) (t:=Sum.inl ()) (fun pre x post e=>?_) (by simp)]
  ·rfl
  have hix:idx l (pre.length:Int)=some x:=by rw [e];exact KcN _ _ _
  obtain ⟨y,hiy,hy,hxy⟩:=other (by rw [← KhO,← KhO,hs]) hw e;obtain ⟨f1,a,b,c⟩:=stE_fields hy;have hd:=Kf0 (KcE e);have hz:=Kf1 (KcE e);have:=Ken x;have:=Kfy x
  have ih:=Kkl w n x.gc y.gc (by omega) (by omega) c.symm fun h=>by rw [hxy h]
  cases w with
  |
   true=>
   have:=hxy rfl;subst this;simp only [Kcc e,cond_true,hix,hiy,Option.bind_some,decide_true,bne_self_eq_false,Bool.not_true,cond_false,ih];rw [KbO e (by omega)]
  |
   false=>
   simp only [Kcc e,cond_true,hix,hiy,Option.bind_some,f1,a,b,decide_true,bne_self_eq_false,Bool.not_true,cond_false,ih];rw [KbO e (by omega)]
theorem exps_same {w:Bool}{l m:List Ke}(h:szEs l≤1048576)(hs:stEs l=stEs m)(hw:w=true→l=m):Khu l m w=some true:=Kl3 l m w _ (Kkl w (dpEs l+1) l m (Nat.le_refl _) h hs hw)
theorem KhP:∀ l,stSs l=l.map stTS
 | []=>rfl
 | e::l=>by rw [stSs,KhP l];rfl
theorem stS_fields {x y:Kj}(h:stTS y=stTS x):y.gj=x.gj∧y.ga=x.ga∧y.gu=x.gu∧stEs y.go=stEs x.go∧stSs y.gc=stSs x.gc∧stSs y.gq=stSs x.gq:=by
 cases x;cases y
 simp only [stTS,Kj.mk.injEq] at h;exact ⟨h.1,h.2.1,h.2.2.1,h.2.2.2.1,h.2.2.2.2.1,h.2.2.2.2.2.1⟩
theorem KhQ (w:Bool):∀ (n:Nat) (l m:List Kj),hSs l≤n→szSs l≤1048576→stSs l=stSs m→(w=true→l=m)→KbU n l m w=some true
 | 0,l,m,h,_,_,_=>by have:=KiR l;omega
 |
  n+1,l,m,h,hb,hs,hw=>by
  show Kdm (KbU n) l m w=_
  unfold Kdm;have hl:=KgI l;have hlen:m.length=l.length:=by
   have:=congrArg List.length hs;rw [KhP,KhP,List.length_map,List.length_map] at this;exact this.symm
  simp only [hlen,bne_self_eq_false,cond_false];rw [KgZ (l:=l) (t:=Sum.inl ()) (fun pre x post e=>?_) (by simp)]
  ·rfl
  have hix:idx l (pre.length:Int)=some x:=by rw [e];exact KcN _ _ _
  obtain ⟨y,hiy,hy,hxy⟩:=other (by rw [← KhP,← KhP,hs]) hw e;obtain ⟨f1,b,c,d,f,g⟩:=stS_fields hy;have hd:=KiP (KcE e);have hz:=KiQ (KcE e);have:=hS_eq x;have:=KgW x
  have k1:=exps_same (w:=w) (l:=x.go) (m:=y.go) (by omega) d.symm fun h=>by rw [hxy h]
  have k2:=KhQ w n x.gc y.gc (by omega) (by omega) f.symm fun h=>by rw [hxy h]
  have a:=KhQ w n x.gq y.gq (by omega) (by omega) g.symm fun h=>by rw [hxy h]
  cases w with
  |
   true=>
   have:=hxy rfl;subst this;simp only [Kcc e,cond_true,hix,hiy,Option.bind_some,decide_true,bne_self_eq_false,Bool.not_true,cond_false,k1,k2,a];rw [KbO e (by omega)]
  |
   false=>
   simp only [Kcc e,cond_true,hix,hiy,Option.bind_some,f1,b,c,decide_true,bne_self_eq_false,Bool.not_true,cond_false,k1,k2,a];rw [KbO e (by omega)]
theorem sameF {w:Bool}{f g:KG}(h1:f.gf.length≤1048576)(h2:f.gh.length≤1048576)(a:szSs f.gp≤1048576)(h:SF g f)(hw:w=true→g=f):KeA g f w=some true:=by
 have hb:KgP g.gp f.gp w=some true:=Kk9 _ _ _ _ (KhQ w (hSs g.gp) _ _ (Nat.le_refl _) (by rw [← KgM,h.body,KgM];exact a) h.body fun e=>by rw [hw e]);unfold KeA;rw [h.nm,h.ps,h.ls,KlG h1,KlG h2,hb,decide_eq_true rfl];cases w with
 | true=>have:=hw rfl;subst this;simp
 | false=>rfl
theorem sameP {p:KL}(hp:PFit p):Khx p p true=some true:=by
 have h1:=hp.gl;have h2:=hp.fu
 unfold Khx;simp only [bne_self_eq_false,cond_false,Option.bind_some];rw [KgZ (l:=p.gd) (t:=Sum.inl ()) (fun pre x post e=>?_) (by simp),Option.bind_some,Sum.elim_inl,KgZ (l:=p.gi) (t:=Sum.inl ()) (fun pre x post e=>?_) (by simp),Option.bind_some,Sum.elim_inl]
 ·have hix:idx p.gi (pre.length:Int)=some x:=by rw [e];exact KcN _ _ _
  have hx:=hp.fn x (KcE e);simp only [Kcc e,cond_true,hix,Option.bind_some,sameF (w:=true) hx.1.fp hx.1.fl hx.2 ⟨rfl,rfl,rfl,rfl⟩ (fun _=>rfl),Bool.not_true,cond_false];rw [KbO e (by omega)]
 have hix:idx p.gd (pre.length:Int)=some x:=by rw [e];exact KcN _ _ _
 simp only [Kcc e,cond_true,hix,Option.bind_some,decide_true,Bool.not_true,beq_self_eq_true,bne_self_eq_false,cond_false];rw [KbO e (by omega)]
end
section
open Go
structure Rv (p:KL):Prop where
 ok:(prS p).2.2=0
 vf:∀ f∈p.gi,VF f
 vg:∀ g∈p.gd,VG g
theorem VF.fs {f:KG}(h:VF f):FS f:=⟨by have:=h.many;omega,by have:=h.many;omega,h.size⟩
theorem Rv.rt {p:KL}(h:Rv p):Rt p:=⟨h.ok,fun f hf=>(h.vf f hf).fs⟩
theorem Rv.fit {p:KL}(h:Rv p):PFit p:=h.rt.big.fit
theorem rv0:Rv (⟨[],[]⟩:KL):=⟨by unfold prS;simp [KhJ,dupN,scan],fun f hf=>(by cases hf),fun f hf=>(by cases hf)⟩
theorem put_all {β:Type}{P:β→Prop}{l m:List β}{f:β}(hl:∀ g∈l,P g)(hf:P f)(h:∀ g∈m,g∈l∨g=f):∀ g∈m,P g:=fun g hg=>by
 rcases h g hg with h|rfl
 ·exact hl g h
 exact hf
theorem do_rv {p:KL}(hp:Rv p)(x:Kbx):T (l36_do ⟨p⟩ x) fun r=>Rv r.2.2.gP:=by
 have hb:=hp.rt.big;have h1:=hb.gl;have h2:=hb.fu
 have hl:=Kj5 hp.ok;have fin:∀ {q:KL} {own:Int},q.gd.length≤25→q.gi.length≤25→(∀ f∈q.gi,VF f)→(∀ g∈q.gd,VG g)→T (KcD ⟨p⟩ q own) fun r=>Rv r.2.2.gP:=fun {q own} k n hf hg=>by
  obtain ⟨a,e,r,k1,k2⟩:=try_is (p:=p) (q:=q) (own:=own) ⟨k,n,fun f h=>(hf f h).fs⟩;refine T.eq k1 ?_;rcases k2 with ⟨_,rfl,o⟩|⟨_,rfl⟩
  ·exact ⟨o,hf,hg⟩
  exact hp
 unfold l36_do;refine T.cond (fun _=>?_) fun _=>T.cond (fun _=>?_) fun _=>?_
 ·unfold Kdr;refine T.bind (P:=fun r:Int×Int×Kaq=>Rv r.2.2.gP) (T.bind (vfunc x.gr) fun f hf=>T.cond (fun _=>T.ret hp) fun he=>?_) fun r hr=>T.ret hr
  obtain ⟨m,i,b,s,c⟩:=setF (l:=p.gi) (by omega) f.1;refine T.bind (P:=fun y=>y=(m,i)) (T.eq b rfl) fun y hy=>?_
  subst hy;exact T.bind (fin (q:=⟨p.gd,m⟩) h1 (by simp only;omega) (put_all hp.vf (hf (by simpa using he)) c) hp.vg) fun r hr=>T.ret hr
 ·unfold Kel;refine T.bind (P:=fun r:Int×Int×Kaq=>Rv r.2.2.gP) (T.bind (vglobal x.gr) fun f hf=>T.cond (fun _=>T.ret hp) fun he=>?_) fun r hr=>T.ret hr
  obtain ⟨m,i,b,s,c⟩:=setG (l:=p.gd) (by omega) f.1;refine T.bind (P:=fun y=>y=(m,i)) (T.eq b rfl) fun y hy=>?_
  subst hy;exact T.bind (fin (q:=⟨m,p.gi⟩) (by simp only;omega) h2 hp.vf (put_all hp.vg (hf (by simpa using he)) c)) fun r hr=>T.ret hr
 unfold Kc5 Kbj KaL;refine T.bind (P:=fun r:Int×Kaq=>Rv r.2.gP) ?_ fun r hr=>T.ret hr
 simp only;rw [Keu (by omega) (by omega),Option.bind_some];obtain ⟨mg,g1,d⟩:=delG (l:=p.gd) (by omega) x.ga;rw [g1,Option.bind_some,Keu (by omega) (by omega),Option.bind_some];obtain ⟨mf,f1,j⟩:=delF (l:=p.gi) (by omega) x.ga;rw [f1,Option.bind_some];refine T.bind (P:=fun _=>True) (T.cond (fun _=>T.ret trivial) fun _=>T.ret trivial) fun _ _=>T.cond (fun _=>T.ret hp) fun _=>?_
 exact T.bind (fin (q:=⟨mg,mf⟩) (by have:=d.1;simp only;omega) (by have:=j.1;simp only;omega) (fun f hf=>hp.vf f (j.2 f hf)) fun g hg=>hp.vg g (d.2 g hg)) fun r hr=>T.ret hr
theorem prog_is {p:KL}(hp:Rv p):KcA ⟨p⟩=some p:=by
 unfold KcA;simp only [copyP hp.fit,Option.bind_some]
theorem of_is {p:KL}(hp:Rv p):KhI p=some (⟨p⟩,0,0,0):=by
 unfold KhI;rw [KkD hp.fit,Option.bind_some,prS_zero hp.ok];simp only [bne_self_eq_false,cond_false,copyP hp.fit,Option.bind_some]
theorem app1 {u v:List UInt8}(h:u.length+v.length≤140737488355328):app 1 u v=some (u++v):=by
 unfold app;rw [decide_eq_true (by omega),cond_true]
theorem wr_loop {β:Type}{l:List β}{pr:β→Option ByteArray}{c:Nat}(hc:c≤1000000000)(hl:l.length≤24)(hpr:∀ x∈l,T (pr x) fun r=>(dl r).length≤c){u:List UInt8}(hu:u.length≤24000000000){F:Int×List UInt8→Option (Step (Int×List UInt8) (List UInt8))}
  (hF:∀ s,F s=(bif (decide (s.1 < (l.length:Int))) then ((idx l s.1).bind fun x=>((pr x).bind fun y=>((KbH (⟨s.2⟩:K8) y).bind fun z=>some (.next ((IntKind.i64.wrap (s.1+(1:Int))),z.2.2.gx))))) else some (.done s.2))):T (loopM F ((0:Int),u)) fun r=>r.length≤u.length+24000000000:=by
 refine T.loop (fun s:Int×List UInt8=>∃ k:Nat,s.1=(k:Int)∧k≤l.length∧s.2.length≤u.length+k*1000000000) (fun s=>l.length - s.1.toNat) ⟨0,rfl,Nat.zero_le _,by simp⟩ fun s hs=>?_
 obtain ⟨k,e,hk,hr⟩:=hs;obtain ⟨i,v⟩:=s;simp only at e hr;subst e;rw [hF];refine T.cond (fun hh=>?_) fun _=>T.ret ?_
 ·have h:k < l.length:=by have:=of_decide_eq_true hh;simp only at this;omega
  refine T.bind (P:=fun x=>x∈l) (T.idx h fun x hx=>List.mem_of_getElem? hx) fun x hx=>T.bind (hpr x hx) fun y hy=>?_
  unfold KbH;rw [app1 (u:=v) (v:=y.data.toList) (by show v.length+(dl y).length≤_;omega)];have hw:=wn (n:=k) (by omega);refine T.ret ⟨⟨k+1,hw,h,?_⟩,by simp only [hw,Int.toNat_natCast];omega⟩;show (v++dl y).length≤_
  rw [List.length_append];omega
 show v.length≤_;omega
theorem pGl_len {g:KT}(hg:VG g):(txts (pGl g)).length≤100:=by
 have hn:=hg.nm.len;have hlo:=hg.lo;have hhi:=hg.hi
 have h1:=pV_len (v:=⟨g.ga,g.gz⟩) hg.nm;unfold pGl;rw [Kbu];split
 ·have:=KkG (n:=g.gA) hlo (by omega);rw [tl_mk,tl_nb,tl_mk,tl_mk,tl_sp,Kb6];show _+(1+(_+(1+(1+(1+0)))))≤100
  omega
 rw [tl_mk,tl_sp,Kb6];show _+(1+(1+0))≤100
 omega
theorem text_is {p:KL}(hp:Rv p):T (Kc8 ⟨p⟩) fun _=>True:=by
 have hl:=Kj5 hp.ok;unfold Kc8;refine T.bind (wr_loop (c:=100) (by omega) hl.1 (fun x hx=>(global_is (hp.vg x hx)).imp fun r hr=>by rw [hr];exact pGl_len (hp.vg x hx)) (by simp) fun _=>rfl) fun u hu=>?_
 have hu':u.length≤24000000000:=by simpa using hu
 refine T.bind (wr_loop (c:=1000000000) (by omega) hl.2 (fun x hx=>(func_is (hp.vf x hx)).imp fun r hr=>by rw [hr];have:=pFn_len (hp.vf x hx);have:=(hp.vf x hx).size;omega) hu' fun _=>rfl) fun v hv=>?_
 have hs:strTK ⟨v⟩=true:=decide_eq_true (by simp only;omega);rw [hs];exact T.bind (P:=fun _=>True) (T.ret trivial) fun _ _=>T.ret trivial
end
section
open Go
theorem nmMain:NmOK ⟨#[109,97,105,110]⟩:=⟨⟨⟨109,[97,105,110],rfl,by kernel_rfl⟩,fun d hd=>by
 simp only [List.mem_cons,List.not_mem_nil,or_false] at hd;rcases hd with rfl|rfl|rfl|rfl<;>exact .inl (by kernel_rfl),by decide⟩,by rw [word_is,show memB ⟨#[109,97,105,110]⟩ words=false by kernel_rfl]⟩
abbrev sm (a b:Int):Kj:=⟨8,ByteArray.empty,ByteArray.empty,[⟨1,3,ByteArray.empty,[],a⟩],[],[],b⟩
abbrev fm (a b c:Int):KG:=⟨⟨#[109,97,105,110]⟩,[],[],[sm a b],c⟩
def l3:List Pc:=[mk ⟨#[105,110,116]⟩,.sp 32,nm ⟨#[109,97,105,110]⟩,mk ⟨#[40]⟩,mk ⟨#[41]⟩,.sp 32,mk ⟨#[123]⟩,.sp 32,mk ⟨#[114,101,116,117,114,110]⟩,.sp 32,nb 3,mk ⟨#[59]⟩,.sp 32,mk ⟨#[125]⟩]
theorem vfm (a b c:Int):VF (fm a b c):=⟨nmMain,fun v h=>(by cases h),fun v h=>(by cases h),by simp,.cons _ _ _ (.ret _ _ _ ⟨.num _ _ (by decide) (by decide),by show dpE _≤24;simp [dpE,dpEs]⟩) (.nil _),by show szSs _≤_;simp [szSs,szS,szEs,szE]⟩
theorem lx3:Lx l3:=.wd _ _ wInt (na_32 _) (sp32 (.nm _ _ nmMain (na_sg sg40 _) (sg40.lx (sg41.lx (sp32 (sg123.lx (sp32 (.wd _ _ wReturn (na_32 _) (sp32 (.nb _ _ (by decide) (by decide) (na_sg sg59 _) (sg59.lx (sp32 (sg125.lx .nil)))))))))))))
theorem tx3:txts l3=[105,110,116,32,109,97,105,110,40,41,32,123,32,114,101,116,117,114,110,32,51,59,32,125]:=by
 have h:(itoaB 3).data.toList=[51]:=by rw [KhM (by decide),Lib.decDigits,dif_pos (by decide)];rfl
 simp [l3,txts,Pc.txt,h]
theorem st3 {f:KG}(h:SF f (fm 0 0 0)):∃ a b c,f=fm a b c:=by
 obtain ⟨n,ps,ls,body,c⟩:=f;obtain ⟨h1,h2,e,d⟩:=h;simp only at h1 h2 e d;subst h1 h2 e;match body,d with
 |
  [⟨op,s,g,[⟨o,v,t,[],a⟩],[],[],b⟩],d=>
  simp only [stSs,stTS,stEs,stE,List.cons.injEq,Kj.mk.injEq,Ke.mk.injEq] at d;obtain ⟨⟨rfl,rfl,rfl,⟨⟨rfl,rfl,rfl,_⟩,_⟩,_⟩,_⟩:=d;exact ⟨a,b,c,rfl⟩
theorem sizes3 (a b:Int):Kfp [sm a b]=some 2:=Kjy _ 2 (by
 have h0:Kbr 1 []=some 0:=by
  show Kct (Kbr 0) []=_
  unfold Kct;rw [KbA (t:=(0:Int)) rfl];rfl
 have h1:KfW ⟨1,3,ByteArray.empty,[],a⟩=some 1:=KjR _ 1 (by
  show Kdb (Kcf 0) _=_
  unfold Kdb;rw [KbA (t:=(1:Int)) rfl];rfl)
 show Kct (Kbr 1) _=_
 unfold Kct;rw [KcM (s':=((2:Int),(1:Int))),KbA (t:=(2:Int)) rfl]
 ·rfl
 show ((Kbr 1 []).bind fun c=>(Kbr 1 []).bind fun d=>_)=_
 rw [h0,Option.bind_some,Option.bind_some];rw [KcM (s':=((2:Int),(1:Int))),KbA (t:=(2:Int)) rfl]
 ·rfl
 show ((KfW _).bind fun _=>_)=_
 rw [h1];rfl)
theorem slim3:¬ Gross (fm 0 0 0):=fun ⟨b,n,h1,h2,d⟩=>by
 obtain ⟨a,b',c,h⟩:=st3 (f:=⟨⟨#[109,97,105,110]⟩,[],[],b,0⟩) ⟨rfl,rfl,rfl,h1⟩;have hb:b=[sm a b']:=congrArg KG.gp h;rw [hb,sizes3] at h2;cases h2;exact Xd d
theorem pr3 (a b c:Int):prS ⟨[],[fm a b c]⟩=(0,0,0):=by
 have h:wr (fnS ⟨[],[fm a b c]⟩ (fm a b c))=(0,0):=by kernel_rfl
 unfold prS;simp [KhJ,dupN,scan,stepF,h]
theorem rv3 (a b c:Int):Rv ⟨[],[fm a b c]⟩:=⟨by rw [pr3],fun f h=>by rw [List.mem_singleton.1 h];exact vfm a b c,fun g h=>(by cases h)⟩
theorem set3 (f:KG):KcI [] f f=some ([f],0):=by
 unfold KcI Kbj KbB;rw [Keu (by omega) (by simp),Option.bind_some,KbA (t:=.inl ()) rfl];rfl
theorem drop3 (a b c:Int):Kc5 ⟨⟨[],[fm a b c]⟩⟩ ⟨#[102]⟩=some (7,⟨⟨[],[fm a b c]⟩⟩):=by
 have h1:KaU [] ⟨#[102]⟩=some []:=by
  unfold KaU Kbf;rw [KbA (t:=.inl ()) rfl];rfl
 have h2:Ka0 [fm a b c] ⟨#[102]⟩=some [fm a b c]:=by
  unfold Ka0 Kbt;rw [KcM (s':=(1:Int)) rfl,KbA (t:=.inl ()) rfl];rfl
 unfold Kc5 Kbj KaL;simp only;rw [Keu (by omega) (by simp),Option.bind_some,h1,Option.bind_some,Keu (by omega) (by simp),Option.bind_some,h2];rfl
theorem ftext3:T (Kbs [105,110,116,32,109,97,105,110,40,41,32,123,32,114,101,116,117,114,110,32,51,59,32,125]) fun r=>r.2.2=0∧SF r.1 (fm 0 0 0):=by
 rw [← tx3];refine (ftext_ta (vfm 0 0 0) lx3 rfl).imp fun r hr=>?_
 rcases hr with ⟨_,h⟩|⟨h0,_,hs⟩
 ·rw [tx3] at h;rcases h with h|h|h
  ·exact absurd h (by decide)
  ·exact absurd h (by decide)
  exact absurd h slim3
 exact ⟨h0,hs⟩
theorem lives36:l36_lives=some true:=by
 have key:T l36_lives fun r=>r=true:=by
  unfold l36_lives store_New Kdr;rw [Option.bind_some];refine T.bind (P:=fun r:Int×Int×Kaq=>∃ a b c,r=(0,0,⟨⟨[],[fm a b c]⟩⟩)) (T.bind ftext3 fun r hr=>?_) fun r hr=>?_
  ·obtain ⟨h0,hs⟩:=hr;rw [h0];obtain ⟨a,b,c,e⟩:=st3 hs;rw [e];simp only [bne_self_eq_false,cond_false,set3,Option.bind_some];unfold KcD;rw [KkD (rv3 a b c).fit,Option.bind_some,pr3];exact T.ret ⟨a,b,c,rfl⟩
  obtain ⟨a,b,c,rfl⟩:=hr;refine T.cond (fun _=>T.cond (fun _=>T.bind (T.eq (P:=fun q=>q=⟨[],[fm a b c]⟩) (prog_is (rv3 a b c)) rfl) fun q hq=>?_) fun h=>by cases h) fun h=>by cases h
  subst hq;exact T.cond (fun _=>T.bind (T.eq (P:=fun q=>q.1=7) (drop3 a b c) rfl) fun q hq=>T.ret (by rw [hq];rfl)) fun h=>by cases h
 obtain ⟨r,h1,h2⟩:=key;rw [h1,h2]
theorem KkJ (l:List Kbx)(hb:l.length≤9223372036854775807):KdJ l=some true:=by
 have key:T (KdJ l) fun r=>r=true:=by
  unfold KdJ store_New;rw [Option.bind_some];refine T.bind (P:=fun y:List KT×List KG=>Rv ⟨y.1,y.2⟩) (T.loop (fun s:Int×List KT×List KG=>∃ k:Nat,s.1=(k:Int)∧k≤l.length∧Rv ⟨s.2.1,s.2.2⟩) (fun s=>l.length - s.1.toNat) ⟨0,rfl,Nat.zero_le _,rv0⟩ fun s hs=>?_) fun y hy=>?_
  ·obtain ⟨k,e,hk,hr⟩:=hs;obtain ⟨i,g,f⟩:=s;simp only at e hr;subst e;refine T.cond (fun hc=>?_) fun _=>T.ret hr
   have h:k < l.length:=by have:=of_decide_eq_true hc;simp only at this;omega
   have hw:IntKind.i64.wrap ((k:Int)+1)=((k+1:Nat):Int):=by rw [IntKind.wrap_i64];omega
   exact T.bind (P:=fun _=>True) (T.idx h fun _ _=>trivial) fun x _=>T.bind (do_rv hr x) fun q hq=>T.ret ⟨⟨k+1,hw,h,hq⟩,by simp only [hw,Int.toNat_natCast];omega⟩
  obtain ⟨gs,fs⟩:=y;have hp:Rv ⟨gs,fs⟩:=hy;have hl:fs.length≤24:=(Kj5 hp.ok).2;refine T.bind (T.eq (P:=fun q=>q=⟨gs,fs⟩) (prog_is hp) rfl) fun p hq=>?_
  subst hq;refine T.bind (P:=fun z=>z=Sum.inl ()) (T.loop (fun s:Int=>∃ k:Nat,s=(k:Int)∧k≤fs.length) (fun s=>fs.length - s.toNat) ⟨0,rfl,Nat.zero_le _⟩ fun s hs=>?_) fun z hz=>?_
  ·obtain ⟨k,rfl,hk⟩:=hs;refine T.cond (fun hc=>?_) fun _=>T.ret rfl
   have h:k < fs.length:=by have:=of_decide_eq_true hc;simp only at this;omega
   refine T.bind (P:=fun x=>fs[k]? = some x) (T.idx h fun x hx=>hx) fun x hx=>?_
   have hv:=hp.vf x (List.mem_of_getElem? hx);refine T.bind (func_is hv) fun s hs=>?_
   have hs':s.data.toList=txts (pFn x):=hs;rw [hs'];refine T.bind (ftext_ta hv (lxFn hv) rfl) fun g hg=>?_
   refine T.bind (P:=fun y=>y=false) (T.cond (fun _=>T.cond (fun b=>T.cond (fun h0=>?_) fun h0=>?_) fun _=>T.ret rfl) fun _=>T.ret rfl) fun y hy=>?_
   ·rcases hg with ⟨a,_⟩|⟨a,_⟩
    ·rw [a] at b;cases b
    rw [a] at h0;cases h0
   ·rcases hg with ⟨a,_⟩|⟨a,d,c⟩
    ·rw [a] at h0;cases h0
    have:=hv.many;show T ((idx fs (k:Int)).bind _) _
    rw [Kdq,hx,Option.bind_some,sameF (by omega) (by omega) hv.size c (fun e=>by cases e)];exact T.ret rfl
   subst hy;have hw:=wn (n:=k) (by omega);exact T.ret ⟨⟨k+1,hw,h⟩,by simp only [hw,Int.toNat_natCast];omega⟩
  subst hz;rw [Sum.elim_inl];obtain ⟨t,ht,_⟩:=text_is hp;refine T.bind (T.eq (P:=fun q=>q=(⟨⟨gs,fs⟩⟩,0,0,0)) (of_is hp) rfl) fun q hq=>?_
  subst hq;refine T.cond (fun _=>T.cond (fun _=>T.cond (fun _=>?_) fun h=>by cases h) fun h=>by cases h) fun h=>by cases h
  refine T.bind (T.eq (P:=fun q=>q=t) ht rfl) fun q hq=>T.bind (T.eq (P:=fun q=>q=t) ht rfl) fun q' hq'=>T.cond (fun _=>?_) fun h=>absurd (hq.trans hq'.symm) (of_decide_eq_false h)
  refine T.bind (T.eq (P:=fun q=>q=⟨gs,fs⟩) (prog_is hp) rfl) fun q hq=>?_
  subst hq;refine T.bind (T.eq (P:=fun q=>q=true) (sameP hp.fit) rfl) fun q hq=>?_
  subst hq;rw [lives36];exact T.ret rfl
 obtain ⟨r,h1,h2⟩:=key;rw [h1,h2]
end
section
open Go
set_option maxRecDepth 100000
def KeW (x:Kbx):Prop:=(Lit.int .i64 x.gt).wf=true∧(x.gr.length≤maxLen∧∀ y∈x.gr,True)∧x.ga.size≤maxLen
theorem KiW {n:Nat}{d:D}(g:GoodT tab n 30 d):∃ x:Kbx,d=KcJ x∧KeW x:=by
 obtain ⟨n',ds,_,rfl,hl,h⟩:=Kl1 ti30 rfl g;match ds,hl with
 |
  [d0,d1,d2],_=>
  obtain ⟨a,rfl,b⟩:=good_int ti3 rfl (h 0 _ _ rfl rfl);obtain ⟨n2,c,_,rfl,e,i⟩:=KkS ti28 rfl ti5 (h 1 _ _ rfl rfl);obtain ⟨j,rfl,k⟩:=KjL (f:=byteD) (K:=(fun y=>True)) (p:=fun x=>GoodT tab n2 5 x) (fun x hx=>by obtain ⟨l,rfl⟩:=good_u8 ti5 rfl (hx);exact ⟨l,rfl,trivial⟩) c i;obtain ⟨m,rfl,o⟩:=good_str ti9 rfl (h 2 _ _ rfl rfl);exact ⟨⟨a,j,m⟩,rfl,b,⟨by simpa using e,k⟩,o⟩
def wfL22:List Kbx→Prop:=(fun y=>(y.length≤maxLen∧∀ z∈y,KeW z))
theorem goodL22 {n:Nat}{d:D}(g:GoodT tab n 22 d):∃ x:List Kbx,d=.lst 3 (x.map KcJ) .no∧wfL22 x:=by
 obtain ⟨a,b,_,rfl,c,e⟩:=KkS ti22 rfl ti30 (g);obtain ⟨h,rfl,i⟩:=KjL (f:=KcJ) (K:=(fun y=>KeW y)) (p:=fun x=>GoodT tab a 30 x) (fun x hx=>by obtain ⟨j,rfl,k⟩:=KiW (hx);exact ⟨j,rfl,k⟩) b e;exact ⟨h,rfl,⟨by simpa using c,i⟩⟩
theorem StorePrints_yes (a0:List Kbx)(h:wfL22 a0):KdJ a0=some true:=KkJ a0 (by have:=h.1;unfold maxLen at this;omega)
end
end Go.Proofs.YtbbeiinofainlaaGreatDoor.Ab
namespace Go.Proofs.YtbbeiinofainlaaGreatDoor
open Go.ChangeShapes Go.WideShapes Go.ChangeAt Go.RowKit Go.Joins
def Kh7 (os:Os):World:=
 let a:=World.holding Tryz.prog os ⟨#[],#[],[]⟩;let put (h:Array Obj) (g:Nat) (cs:Array Value):Array Obj:=h.modify g fun
  | .cells _ t frozen=>.cells cs t frozen
  | o=>o
 let h1:=put a.heap 2 ([0,1,28,2,29,14,24,3,30,22,20,15,25,17,4,8,31,27,13,23,21,19,16,7,26,12,18,6,11,5,10,9].map fun z=>Value.int .u8 z).toArray;let h2:=put h1 3 ([0,1,56,2,57,49,28,3,61,58,42,50,38,29,17,4,62,47,59,36,45,43,51,22,53,39,33,30,24,18,12,5,63,55,48,27,60,41,37,16,46,35,44,21,52,32,23,11,54,26,40,15,34,20,31,10,25,14,19,9,13,8,7,6].map fun z=>Value.int .u8 z).toArray
 let b:=put h2 1 ([1,10,100,1000,10000,100000,1000000,10000000,100000000,1000000000,10000000000,100000000000,1000000000000,10000000000000,100000000000000,1000000000000000,10000000000000000,100000000000000000,1000000000000000000,10000000000000000000].map fun z=>Value.int .u64 z).toArray;{ a with heap:=b }
theorem laid_met (os:Os)(args:Array Value):laidMet Tryz.prog Rows.storePrintsRow.laid ((Kh7 os).forCall (fun _ _=>0) ⟨#[],args,[]⟩).memory:=
 (Go.LaidIn.of_run (l:=Rows.storePrintsRow.laid) [2,3,1] 8 (by kernel_rfl) (by kernel_rfl) (by kernel_rfl) (by kernel_rfl)).met
theorem Kl7 (os:Os){H:Type}(enc:TypeId×Value→H) :
  (OpenSpec.ofChange Rows.storePrintsSpec).preRow enc Tryz.prog Tryz.f3 Rows.storePrintsRow.domain false Rows.storePrintsRow.laid ((Kh7 os).forCall (fun _ _=>0) ⟨#[],#[.slice none 0 0],[]⟩).memory #[.slice none 0 0]:=by
 have hw:(DataW.whole enc Tryz.prog ((Kh7 os).forCall (fun _ _=>0) ⟨#[],#[.slice none 0 0],[]⟩).memory Tryz.f3.params.toList (OpenSpec.ofChange Rows.storePrintsSpec).vars false (#[.slice none 0 0]:Array Value).toList 8).map (fun x=>(x.1,x.2.1)) =
   some ([.nil],[]):=by kernel_rfl
 obtain ⟨⟨b,c,d⟩,hx,a⟩:=Option.map_eq_some_iff.1 hw;simp only [Prod.mk.injEq] at a;obtain ⟨rfl,rfl⟩:=a;exact OpenSpec.preRow_of_cond 8 hx (by kernel_rfl) (fun k hk=>by cases hk) (by kernel_rfl) (laid_met os _)
theorem tab_gg {W:World}(h:laidMetH Tryz.prog Rows.storePrintsRow.laid W):Ab.GG (Ab.allOf W) W:=by
 have h' : laidMet Tryz.prog Rows.storePrintsRow.laid W := h;obtain ⟨ps, hv, _⟩ := h';have hr : Go.Lib.TabIs Tryz.prog W "internal/strconv.uint64pow10" .u64 Go.Lib.pow10Tab := by
  obtain ⟨_, _, _, _, _, _, _, _, _, _, hv, _⟩ := hv;obtain ⟨_, _, _, _, _, _, _, _, _, _, hv, _⟩ := hv;obtain ⟨g, t, cs, fuel, p, q, hg, hty, hvar, hd, _, _⟩ := hv;have e : (Rows.laid_internal_strconv_uint64pow10 : DataW Unit) = Go.Lib.tabData .u64 Go.Lib.pow10Tab := rfl;obtain rfl := Option.some.inj ((show Tryz.prog.globalNamed "internal/strconv.uint64pow10" = some Ab.tabG by kernel_rfl).symm.trans hg);obtain rfl := Option.some.inj ((show (Tryz.prog.globals[Ab.tabG]?).map (·.type) = some 191 by kernel_rfl).symm.trans hty);rw [e] at hd;have hcs := Go.Lib.cells_of_tab (n := 20) (e := 171) (by kernel_rfl) (by kernel_rfl) (by kernel_rfl) (by kernel_rfl) hd;unfold Go.Lib.TabIs
  rw [hvar,← hcs]
 have hp:W.heap[Ab.tabG]?.bind (fun|.cells cs _ _=>some cs|_=>none)=some Ab.tabC.toArray:=by
  unfold Go.Lib.TabIs World.var? at hr;rw [show Tryz.prog.globalNamed "internal/strconv.uint64pow10" = some Ab.tabG by kernel_rfl] at hr;cases hh : W.heap[Ab.tabG]? with
  | none=>rw [Option.bind_some,hh] at hr;cases hr
  |
   some o=>
   rw [Option.bind_some,hh] at hr;cases o with
   | cells cs T fz=>exact hr
   | _=>cases hr
 cases hh:W.heap[Ab.tabG]? with
 | none=>rw [hh] at hp;cases hp
 |
  some o=>
  rw [hh,Option.bind_some] at hp;cases o with
  |
   cells cs T fz=>
   simp only [Option.some.injEq] at hp;subst hp;refine ⟨⟨.int .u64 1,?_⟩,⟨.int .u64 10000000000000000000,?_⟩,T,fz,hh⟩
   ·show W.cell? ⟨Ab.tabG,0,none⟩=_
    unfold World.cell?;simp only;rw [hh];rfl
   show W.cell? ⟨Ab.tabG,19,none⟩=_
   unfold World.cell?;simp only;rw [hh];rfl
  | _=>cases hp
theorem Kj9 (os:Os)(started:os.Started)(H:Type)(enc:TypeId×Value→H)(Fi:Stop.Interp) :
  ReturnsInHanded {} Tryz.checked os 3 .any ((OpenSpec.ofChange Rows.storePrintsSpec).preRow enc Tryz.prog Tryz.f3 Rows.storePrintsRow.domain false Rows.storePrintsRow.laid) (((OpenSpec.ofChange Rows.storePrintsSpec).at Fi).post enc Tryz.prog Tryz.f3 false true false false):=by
 refine returnsInHanded_of_row (C:=Tryz.checked) (s:=(OpenSpec.ofChange Rows.storePrintsSpec)) own started (by kernel_rfl) Tryz.func3
  (witness_row_atRef (enc:=enc) (C:=Tryz.checked) false (Kh7 os) #[.slice none 0 0] rfl (by kernel_rfl) (by kernel_rfl) (by kernel_rfl) (Kl7 os enc)) ?_
 intro W base args ds gs before b hW _ _ _ hlaid _ _;have hval:∀ (j:Nat) t v,Tryz.f3.params[j]? = some t→args[j]? = some v→Value.okWide Tryz.prog W .any base t v:=b;have hW':=hW;obtain ⟨p,q,c,hV,rfl,hfz,hnd⟩:=hW;have hA:DataW.TrodAll enc Tryz.prog W 0 (fun _=>true) true Tryz.f3.params.toList args.toList ds p:=c;obtain ⟨rfl,rfl⟩:=trodVars_none hV;simp only [List.append_nil] at hW';have hback:=Klz laidOut' (by kernel_rfl) hA (fun x hx=>hW'.lt x hx);rw [Tryz.params3] at hA hval;obtain ⟨a,i,d0,k,l,m,hargs,rfl,n,h0,d⟩:=trodAll_cons hA;obtain ⟨rfl,rfl,hpn⟩:=trodAll_nil d
 obtain rfl:args=#[a]:=by cases args;simp_all
 obtain ⟨n0,x0,g0,f⟩:=Ab.rd_arg (t:=22) Ab.htab [3,5,9,22,28,30] (by kernel_rfl) (by kernel_rfl) (hval 0 22 a rfl rfl) h0;obtain ⟨a0,rfl,g⟩:=Ab.goodL22 g0;clear c b;refine (Ab.to_calls (us:=#[a]) (Ab.l36_StorePrints_ok a0 true (Ab.StorePrints_yes a0 g)) (Ab.ag_all W (tab_gg hlaid)) (by simp only [Ab.RepsV];exact ⟨_,_,rfl,f,rfl⟩)).mono fun e W' ⟨he,hb⟩=>?_
 subst he;exact ⟨_,rfl,_,_,_,[],p,[],hW',trodAll_cons_mk (shut_bool Tryz.underlying4 _) trodAll_mk0,hback W' hb _ (fun x hx=>by simpa using hW'.lt x hx),rfl,hb.frame _,fun h=>by cases h⟩
theorem Kka:Rows.StorePrintsSaid:=
 OpenClaim.holds_of_cond 3 Tryz.f3 rfl rfl rfl rfl rfl rfl rfl ⟨rfl,rfl,rfl,rfl,rfl⟩ rfl rfl rfl rfl rfl (by kernel_rfl) Tryz.func3 (by kernel_rfl)
  (of_decide_eq_true (by kernel_rfl)) (by unfold Func.isWrapper;rw [if_neg (of_decide_eq_false (by kernel_rfl))];exact ⟨rfl,rfl⟩)
  (fun os started H enc _ Fi=>by rw [OpenClaim.pre_eq_preRow];exact Kj9 os started H enc Fi)
theorem storePrintsCard_holds:Rows.StorePrintsCardSaid:=
 Claim7.holds_tied_plain_at .later [] [.data, .data, .data] true (true, "37e02393b3c756f8573adf4e4447cf663699db13d77b6e87ef424b9029f49a03") true
  Kka (fun _ h=>by cases h) (by kernel_rfl) (fun _ h=>by cases h) storePrints_row_tie rfl ⟨rfl,rfl⟩ (by kernel_rfl) rfl
  (fun f fn hf hfn=>by
   obtain rfl:f=3:=(Option.some.inj ((show Tryz.prog.funcNamed Rows.storePrintsRow.func=some 3 by kernel_rfl).symm.trans hf)).symm;obtain rfl:fn=Tryz.f3:=(Option.some.inj (Tryz.func3.symm.trans hfn)).symm;exact ⟨by kernel_rfl,fun j t ht=>by
    rw [Tryz.params3] at ht;have key:∀ (l:List Nat),(l.all fun t=>!(Tryz.prog.wantsStandIn t))=true→∀ j t,l[j]? = some t→Tryz.prog.wantsStandIn t=false:=fun l h j t e=>by
     have:=List.all_eq_true.1 h t (List.mem_of_getElem? e);simpa using this
    exact key [22] (by kernel_rfl) j t (by simpa using ht)⟩)
  (by kernel_rfl)
#print axioms storePrintsCard_holds
end Go.Proofs.YtbbeiinofainlaaGreatDoor
end
