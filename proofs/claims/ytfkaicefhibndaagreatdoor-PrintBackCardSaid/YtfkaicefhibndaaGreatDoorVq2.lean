/- The texts that printBackCard_holds leans on, part 2. -/
import Derived.Test.YtfkaicefhibndaaGreatDoorVq1
set_option maxRecDepth 100000
set_option maxHeartbeats 80000000
noncomputable section
namespace Go.Proofs.YtfkaicefhibndaaGreatDoor.Ab
section
open Go
set_option linter.all false
theorem els_get {H:Hp}{k b:Nat}:∀ {xs:List D} {off i:Nat} {x:D},Els H k b off xs→xs[i]? = some x→∃ us,us.length=k∧RepC H x us∧Told H b (off+i*k) us∧∀ u∈us,one u=true
 | [],off,i,x,h,e=>by simp at e
 |
  y::ys,off,0,x,h,e=>by
  simp only [Els] at h;simp at e;subst e;simpa using h.1
 |
  y::ys,off,i+1,x,h,e=>by
  simp only [Els] at h;simp at e;obtain ⟨us,h1,h2,h3,h4⟩:=els_get h.2 e;exact ⟨us,h1,h2,by rw [show off+(i+1)*k=off+k+i*k by rw [Nat.add_mul];omega];exact h3,h4⟩
theorem els_drop {H:Hp}{k b:Nat}:∀ (n:Nat) {xs:List D} {off:Nat},Els H k b off xs→Els H k b (off+n*k) (xs.drop n)
 | 0,xs,off,h=>by simpa using h
 | n+1,[],off,h=>by simp [Els]
 |
  n+1,x::xs,off,h=>by
  simp only [Els] at h;have:=els_drop n h.2;rw [show off+k+n*k=off+(n+1)*k by rw [Nat.add_mul];omega] at this;simpa using this
theorem els_take {H:Hp}{k b:Nat}:∀ (n:Nat) {xs:List D} {off:Nat},Els H k b off xs→Els H k b off (xs.take n)
 | 0,xs,off,h=>by simp [Els]
 | n+1,[],off,h=>by simp [Els]
 |
  n+1,x::xs,off,h=>by
  simp only [Els] at h;simp only [List.take_succ_cons,Els];exact ⟨h.1,els_take n h.2⟩
theorem Kf3 {H:Hp}{k b:Nat}:∀ {xs ys:List D} {off:Nat},Els H k b off xs→Els H k b (off+xs.length*k) ys→Els H k b off (xs++ys)
 | [],ys,off,_,h=>by simpa using h
 |
  x::xs,ys,off,h,g=>by
  simp only [Els] at h;simp only [List.cons_append,Els];refine ⟨h.1,Kf3 h.2 ?_⟩;rw [show off+k+xs.length*k=off+(x::xs).length*k by simp [Nat.add_mul];omega];exact g
section
variable {P : Program} {C : Ctx} {N : Nat} {ops rest : List Oper} {o : Oper} {t : List (Nat × D)} {h : List (Nat × Blk)} {k : List (Nat × Value)} {Q : Exit → S → Prop} {tab : List (Option TI)}
theorem Kdr {H:Hp}{kk:Nat}{xs:List D}{c:Cap}{y:Value}(hr:Rep H (.lst kk xs c) y):∃ a m,y=.slice a xs.length m:=by
 obtain ⟨_,h2⟩:=Kbd hr;rcases h2 with ⟨rfl,a,m,rfl,_⟩|⟨b,off,m,rfl,_⟩
 ·exact ⟨a,m,rfl⟩
 exact ⟨_,m,rfl⟩
theorem Kia {w:World}{T e:TypeId}{i:TI}{a:Option Addr}{n m:Nat}{ty:TypeId}(hi:tiOf P T=some i)(hd:i.d=.slice e):(Builtin.len_ #[T] ty #[.slice a n m]).run P w=.ok (.int .i64 n) w:=by
 obtain ⟨d,h1,h2⟩:=Kah (w:=w) hi;have:=Kb7 (h2.trans hd);subst this;unfold Builtin.len_;simp only [List.getElem?_toArray,List.getElem?_cons_zero];rw [Kv h1];rfl
theorem KhE {w:World}{T:TypeId}{i:TI}{s:ByteArray}{ty:TypeId}(hi:tiOf P T=some i)(hd:i.d=.str):(Builtin.len_ #[T] ty #[.string s]).run P w=.ok (.int .i64 s.size) w:=by
 obtain ⟨d,h1,h2⟩:=Kah (w:=w) hi;have:=KdL (h2.trans hd);subst this;unfold Builtin.len_;simp only [List.getElem?_toArray,List.getElem?_cons_zero];rw [Kv h1];rfl
theorem Kcx {b:Builtin}{args:List Operand}{ts:Array TypeId}{a:Act}{w w':World}{v:Value}{s:Array TypeId→TypeId→Array Value→Sem Value}(ho:o.op=.call ⟨.builtin b,args.toArray,ts⟩)
  (hb:∀ c vs,builtin b ts o.type c vs=(do pure (.value (← s ts o.type vs)))) (hr:(s ts o.type (args.map a.eval).toArray).run P w=.ok v w'):(execOp a.eval o).run P w=.ok (.value v) w':=by
 unfold execOp;rw [ho];simp only [resolve];rw [Kv (a:=(⟨.builtin b ts o.type _,(args.map a.eval).toArray⟩:Deferred)) (w':=w) (by rw [← List.map_toArray];rfl)];simp only [invoke,hb];exact Kbk hr
theorem Kej {n kk:Nat}{T e:TypeId}{x:Operand}{xs:List D}{c:Cap}{ti0:TI}(hT:TabOK P tab)(ho:o.op=.call ⟨.builtin .len,[x].toArray,#[T]⟩)(hx:opD t x=some (.lst kk xs c))(hti:ti tab T=some ti0)(hs:ti0.d=.slice e)(hn:xs.length=n):∀ H a w,TOK H t a→∃ v,(execOp a.eval o).run P w=.ok (.value v) w∧Rep H (.v (.int .i64 n)) v:=
 fun H a w kt=>by
  obtain ⟨ad,m,hy⟩:=Kdr (K4 kt hx);refine ⟨.int .i64 n,Kcx (s:=Builtin.len_) ho (fun _ _=>rfl) ?_,rep_v rfl⟩;simp only [List.map_cons,List.map_nil,hy,hn];exact Kia (ti_ok hT hti) hs
theorem Ka1 {i n kk:Nat}{T e:TypeId}{x:Operand}{xs:List D}{c:Cap}{ti0:TI}(hT:TabOK P tab)(ho:o.op=.call ⟨.builtin .len,[x].toArray,#[T]⟩)(hw:wantD ops t o=some true)(hd:o.dst=some i)(hi:Nat.blt i N=true)
 (hx:opD t x=some (.lst kk xs c)) (hti:ti tab T=some ti0) (hs:ti0.d=.slice e) (hn:xs.length=n) (g:opsD P C N ops rest ⟨(i,.v (.int .i64 n))::t,h,k⟩ Q):opsD P C N ops (o::rest) ⟨t,h,k⟩ Q:=KcF (s:=⟨t,h,k⟩) hw hd hi (Kej hT ho hx hti hs hn) g
theorem x_lenS {n:Nat}{T:TypeId}{x:Operand}{s:ByteArray}{ti0:TI}(hT:TabOK P tab)(ho:o.op=.call ⟨.builtin .len,[x].toArray,#[T]⟩)(hx:opD t x=some (.v (.string s)))(hti:ti tab T=some ti0)(hs:ti0.d=.str)(hn:s.size=n):∀ H a w,TOK H t a→∃ v,(execOp a.eval o).run P w=.ok (.value v) w∧Rep H (.v (.int .i64 n)) v:=
 fun H a w kt=>by
  refine ⟨.int .i64 n,Kcx (s:=Builtin.len_) ho (fun _ _=>rfl) ?_,rep_v rfl⟩;simp only [List.map_cons,List.map_nil,Kac (K4 kt hx),← hn];exact KhE (ti_ok hT hti) hs
theorem p_lenS {i n:Nat}{T:TypeId}{x:Operand}{s:ByteArray}{ti0:TI}(hT:TabOK P tab)(ho:o.op=.call ⟨.builtin .len,[x].toArray,#[T]⟩)(hw:wantD ops t o=some true)(hd:o.dst=some i)(hi:Nat.blt i N=true)
 (hx:opD t x=some (.v (.string s))) (hti:ti tab T=some ti0) (hs:ti0.d=.str) (hn:s.size=n) (g:opsD P C N ops rest ⟨(i,.v (.int .i64 n))::t,h,k⟩ Q):opsD P C N ops (o::rest) ⟨t,h,k⟩ Q:=KcF (s:=⟨t,h,k⟩) hw hd hi (x_lenS hT ho hx hti hs hn) g
theorem KG {kk:Nat}{T e:TypeId}{x ix:Operand}{xs:List D}{c:Cap}{ik:IntKind}{j:Int}{d:D}{ti0 tie:TI}(hT:TabOK P tab)(ho:o.op=.indexAddr T x ix)(hx:opD t x=some (.lst kk xs c))(hix:opD t ix=some (.v (.int ik j)))(hti:ti tab T=some ti0)(hs:ti0.d=.slice e)(hte:ti tab e=some tie)(hk:tie.size=kk)(h0:0≤j)(hb:xs[j.toNat]? = some d):∀ H a w,TOK H t a→∃ v,(execOp a.eval o).run P w=.ok (.value v) w∧Rep H (.el d) v:=
 fun H a w kt=>by
  obtain ⟨dd,h1,h2⟩:=Kah (w:=w) (ti_ok hT hti);have:=Kb7 (h2.trans hs);subst this;obtain ⟨hlt,_⟩:=List.getElem?_eq_some_iff.1 hb;obtain ⟨_,h3⟩:=Kbd (K4 kt hx);rcases h3 with ⟨rfl,_⟩|⟨b,off,m,hy,_,hE⟩
  ·simp at hb
  obtain ⟨us,h4,h5,h6,h7⟩:=els_get hE hb;refine ⟨.pointer (some ⟨b,off+j.toNat*kk,none⟩),?_,Ka3 (by simp only [RepC];exact ⟨b,_,us,rfl,h5,h6,h7⟩) rfl rfl⟩;unfold execOp;rw [ho];refine Kbk ?_;rw [hy,Kac (K4 kt hix)];unfold Instr.indexAt;rw [Kv (a:=(ik,j)) rfl];simp only [];have hlt2:j < (xs.length:Int):=by omega
  simp only [KcY,h1,Kc9,KbS (ti_ok hT hte),hk,if_pos (show 0≤j∧j < (xs.length:Int) from ⟨h0,hlt2⟩),Kcw]
theorem Kbn {i kk:Nat}{T e:TypeId}{x ix:Operand}{xs:List D}{c:Cap}{ik:IntKind}{j:Int}{d:D}{ti0 tie:TI}(hT:TabOK P tab)(ho:o.op=.indexAddr T x ix)(hw:wantD ops t o=some true)(hd:o.dst=some i)(hi:Nat.blt i N=true)
 (hx:opD t x=some (.lst kk xs c)) (hix:opD t ix=some (.v (.int ik j))) (hti:ti tab T=some ti0) (hs:ti0.d=.slice e) (hte:ti tab e=some tie) (hk:tie.size=kk) (h0:0≤j) (hb:xs[j.toNat]? = some d)
 (g:opsD P C N ops rest ⟨(i,.el d)::t,h,k⟩ Q):opsD P C N ops (o::rest) ⟨t,h,k⟩ Q:=KcF (s:=⟨t,h,k⟩) hw hd hi (KG hT ho hx hix hti hs hte hk h0 hb) g
end
def optI (t:List (Nat×D)):Option Operand→Option (Option Int)
 | none=>some none
 |
  some x=>match opD t x with
  | some (.v (.int _ n))=>some (some n)
  | _=>none
theorem KcH {P:Program}{w:World}{kk:IntKind}{n:Int}{y:Nat}{code:BoundsCode}(h0:0≤n)(h1:n≤y):(Instr.sliceBound (.int kk n) y code).run P w=.ok n.toNat w:=by
 unfold Instr.sliceBound;rw [Kv (a:=(kk,n)) rfl];simp only [if_pos (show 0≤n∧n≤(y:Int) from ⟨h0,h1⟩)];rfl
theorem Kg6 {H:Hp}{t:List (Nat×D)}{a:Act}(kt:TOK H t a){x:Option Operand}{r:Option Int}(e:optI t x=some r):(x=none∧r=none)∨∃ y kk n,x=some y∧r=some n∧a.eval y=.int kk n:=by
 cases x with
 | none=>simp [optI] at e;exact .inl ⟨rfl,e.symm⟩
 |
  some y=>
  simp only [optI] at e;split at e
  ·rename_i kk n hy;simp only [Option.some.injEq] at e;exact .inr ⟨y,kk,n,rfl,e.symm,Kac (K4 kt hy)⟩
  cases e
theorem bounds_run {P:Program}{w:World}{H:Hp}{t:List (Nat×D)}{a:Act}(kt:TOK H t a){isS:Bool}{len cap l n m:Nat}{lo hi mx:Option Operand}{l' n' m':Option Int}(e1:optI t lo=some l')(e2:optI t hi=some n')(e3:optI t mx=some m')
  (h1:l'.getD 0=l) (h2:n'.getD len=n) (h3:m'.getD cap=m) (h4:m' ≠ none→n' ≠ none) (h5:l≤n) (h6:n≤m) (h7:m≤cap) :
  (Instr.sliceBounds isS len cap (lo.map a.eval) (hi.map a.eval) (mx.map a.eval)).run P w=.ok (l,n,m) w:=by
 unfold Instr.sliceBounds;rcases Kg6 kt e1 with ⟨rfl,rfl⟩|⟨y1,k1,n1,rfl,rfl,v1⟩<;>rcases Kg6 kt e2 with ⟨rfl,rfl⟩|⟨y2,k2,n2,rfl,rfl,v2⟩<;>rcases Kg6 kt e3 with ⟨rfl,rfl⟩|⟨y3,k3,n3,rfl,rfl,v3⟩ <;>
  simp only [Option.getD_none,Option.getD_some,Option.map_none,Option.map_some] at*<;>
  first
  | (
   have hl:l=0:=by omega
   have hn:n=len:=by omega
   have hm:m=cap:=by omega
   subst hl;subst hn;subst hm;simp only [KcY,Kc9];done)
  | (
   simp only [KcY,Kc9,v1,v2,v3,KcH (show (0:Int)≤n3 by omega) (show n3≤(cap:Int) by omega),KcH (show (0:Int)≤n2 by omega) (show n2≤((n3.toNat:Nat):Int) by omega),KcH (show (0:Int)≤n1 by omega) (show n1≤((n2.toNat:Nat):Int) by omega)];congr 1;simp only [Prod.mk.injEq];omega)
  | (
   simp only [KcY,Kc9,v2,v3,KcH (show (0:Int)≤n3 by omega) (show n3≤(cap:Int) by omega),KcH (show (0:Int)≤n2 by omega) (show n2≤((n3.toNat:Nat):Int) by omega)];congr 1;simp only [Prod.mk.injEq];omega)
  | (
   simp only [KcY,Kc9,v1,v2,KcH (show (0:Int)≤n2 by omega) (show n2≤(cap:Int) by omega),KcH (show (0:Int)≤n1 by omega) (show n1≤((n2.toNat:Nat):Int) by omega)];congr 1;simp only [Prod.mk.injEq];omega)
  | (
   simp only [KcY,Kc9,v2,KcH (show (0:Int)≤n2 by omega) (show n2≤(cap:Int) by omega)];congr 1;simp only [Prod.mk.injEq];omega)
  | (
   simp only [KcY,Kc9,v1,KcH (show (0:Int)≤n1 by omega) (show n1≤(len:Int) by omega)];congr 1;simp only [Prod.mk.injEq];omega)
  | (exfalso;revert h4;simp;done)
section
variable {P : Program} {C : Ctx} {N : Nat} {ops rest : List Oper} {o : Oper} {t : List (Nat × D)} {h : List (Nat × Blk)} {k : List (Nat × Value)} {Q : Exit → S → Prop} {tab : List (Option TI)}
theorem x_part {l n kk:Nat}{T e:TypeId}{x:Operand}{lo hi:Option Operand}{l' n':Option Int}{xs:List D}{c:Cap}{ti0 tie:TI}(hT:TabOK P tab)(ho:o.op=.slice T x lo hi none)
 (hx:opD t x=some (.lst kk xs c)) (e1:optI t lo=some l') (e2:optI t hi=some n') (hti:ti tab T=some ti0) (hs:ti0.d=.slice e) (hte:ti tab e=some tie) (hk:tie.size=kk) (h1:l'.getD 0=(l:Int)) (h2:n'.getD xs.length=(n:Int)) (h5:l≤n) (h6:n≤xs.length):∀ H a w,TOK H t a→∃ v,(execOp a.eval o).run P w=.ok (.value v) w∧Rep H (.lst kk ((xs.drop l).take (n - l)) .no) v:=fun H a w kt=>by
 obtain ⟨d,h3,h4⟩:=Kah (w:=w) (ti_ok hT hti);have:=Kb7 (h4.trans hs);subst this;have hlen:((xs.drop l).take (n - l)).length=n - l:=by simp;omega
 obtain ⟨hc,hr⟩:=Kbd (K4 kt hx);have key:∀ ad m,a.eval x=.slice ad xs.length m→xs.length≤m→(execOp a.eval o).run P w=.ok (.value (.slice (if m=l then ad else ad.map (·.add (l*kk))) (n - l) (m - l))) w:=by
  intro ad m hy hm;unfold execOp;rw [ho];refine Kbk ?_;rw [hy];unfold Instr.sliceAt;rw [Kv h3];simp only [Instr.slice];rw [Kv h3];have:=bounds_run (P:=P) (w:=w) kt (isS:=true) (cap:=m) (mx:=none) (m':=none) (m:=m) e1 e2 rfl h1 h2 rfl (fun x=>absurd rfl x) h5 (by omega) (Nat.le_refl _);simp only [Option.map_none] at this ⊢;simp only [KcY,Kc9,this,KbS (ti_ok hT hte),hk]
 rcases hr with ⟨rfl,a0,m0,hy,hn0⟩|⟨b,off,m,hy,hm,hE⟩
 ·refine ⟨_,key a0 m0 hy (by simp),?_⟩;simp only [List.length_nil] at h6;have hn:n=0:=by omega
  have hl:l=0:=by omega
  subst hn;subst hl;refine Ka3 ?_ rfl rfl;simp only [RepC,CapOK,true_and];refine ⟨_,rfl,.inl ⟨by simp,_,_,rfl,fun q=>?_⟩⟩;split at q
  ·rename_i hm0;rw [hm0]
  cases a0 with
  | none=>rw [hn0 rfl]
  | some _=>cases q
 refine ⟨_,key _ m hy hm,?_⟩;by_cases hml:m=l
 ·rw [if_pos hml];have hn:n=l:=by omega
  subst hn;refine Ka3 ?_ rfl rfl;simp only [RepC,CapOK,true_and];refine ⟨_,rfl,.inr ⟨b,off,m - n,by simp,by simp,by simp [Els]⟩⟩
 rw [if_neg hml];refine Ka3 ?_ rfl rfl;simp only [RepC,CapOK,true_and];refine ⟨_,rfl,.inr ⟨b,off+l*kk,m - l,by simp [Kcw,hlen],by rw [hlen];omega,els_take _ (els_drop l hE)⟩⟩
theorem p_part {i l n kk:Nat}{T e:TypeId}{x:Operand}{lo hi:Option Operand}{l' n':Option Int}{xs:List D}{c:Cap}{ti0 tie:TI}(hT:TabOK P tab)(ho:o.op=.slice T x lo hi none)(hw:wantD ops t o=some true)(hd:o.dst=some i)(hi0:Nat.blt i N=true)
 (hx:opD t x=some (.lst kk xs c)) (e1:optI t lo=some l') (e2:optI t hi=some n') (hti:ti tab T=some ti0) (hs:ti0.d=.slice e) (hte:ti tab e=some tie) (hk:tie.size=kk) (h1:l'.getD 0=(l:Int)) (h2:n'.getD xs.length=(n:Int)) (h5:l≤n) (h6:n≤xs.length)
 (g:opsD P C N ops rest ⟨(i,.lst kk ((xs.drop l).take (n - l)) .no)::t,h,k⟩ Q):opsD P C N ops (o::rest) ⟨t,h,k⟩ Q:=KcF (s:=⟨t,h,k⟩) hw hd hi0 (x_part hT ho hx e1 e2 hti hs hte hk h1 h2 h5 h6) g
end
end
section
open Go
set_option linter.all false
theorem els_flat {H:Hp}{k b:Nat}:∀ {xs:List D} {off:Nat},Els H k b off xs→∃ us:List Value,us.length=xs.length*k∧Told H b off us∧(∀ u∈us,one u=true)∧∀ H' b' off',H.le H'→Told H' b' off' us→Els H' k b' off' xs
 | [],off,_=>⟨[],by simp,fun j u e=>by simp at e,by simp,fun _ _ _ _ _=>by simp [Els]⟩
 |
  x::xs,off,h=>by
  simp only [Els] at h;obtain ⟨⟨us,h1,h2,h3,h4⟩,h5⟩:=h;obtain ⟨vs,g1,g2,g3,g4⟩:=els_flat h5;refine ⟨us++vs,by simp [h1,g1,Nat.add_mul];omega,fun j u e=>?_,fun u hu=>?_,fun H' b' off' hle ht=>?_⟩
  ·rw [List.getElem?_append] at e;split at e
   ·exact h3 j u e
   have:=g2 _ _ e;rw [show off+k+(j - us.length)=off+j by omega] at this;exact this
  ·rcases List.mem_append.1 hu with x|x
   ·exact h4 u x
   exact g3 u x
  simp only [Els];refine ⟨⟨us,h1,RepC.mono hle x us h2,fun j u e=>ht j u (by rw [List.getElem?_append_left (List.getElem?_eq_some_iff.1 e).1];exact e),h4⟩,g4 H' b' (off'+k) hle fun j u e=>?_⟩;have:=ht (us.length+j) u (by rw [List.getElem?_append_right (by omega)];simpa using e);rw [show off'+(us.length+j)=off'+k+j by omega] at this;exact this
theorem next_le {need cap:Nat}(h:cap < need):Builtin.nextslicecap need cap≤2*need:=by
 unfold Builtin.nextslicecap;split
 ·omega
 split
 ·omega
 have key:∀ r c,c≤2*need→256≤c→Builtin.growBy need r c≤2*need:=by
  intro r;induction r with
  | zero=>intro c hc _;simpa [Builtin.growBy] using hc
  |
   succ r ih=>
   intro c hc h2;unfold Builtin.growBy;split
   ·exact hc
   exact ih _ (by omega) (by omega)
 exact key 4 cap (by omega) (by omega)
theorem KgT {P:Program}{w:World}{n:Nat}:(askRoom n).run P w=.ok () w:=by unfold askRoom;split<;>rfl
def wDrew (w:World):World:={ w with drawn:=w.drawn+1 }
theorem Core.drew {C:Ctx}{H:Hp}{h:List (Nat×Blk)}{k:List (Nat×Value)}{w:World}(c:Core C H h k w):Core C H h k (wDrew w):=
 ⟨⟨
  fun a v e=>c.ag a v e,c.ag.gg.step (Hp.le_refl H) rfl⟩,c.le,c.new,c.same,c.size,fun p hp=>by
  have:=c.blks p hp;obtain ⟨b,bl⟩:=p;cases bl<;>first|exact this|exact Opq.later _ H H w (wDrew w) this (Hp.le_refl H) (fun _ _=>rfl) (fun _ _ q=>q),fun p hp=>by
  have:=c.toks p hp;obtain ⟨b,y⟩:=p;exact this,c.nd,c.own,c.env.trans ⟨rfl,rfl,rfl,Nat.le_refl _⟩⟩
theorem Ked {P:Program}{w:World}{H:Hp}(hA:Ag H w){kk:Nat}{xs:List D}{c:Cap}{v:Value}(hr:Rep H (.lst kk xs c) v) :
  ∃ us:List Value,us.length=xs.length*kk∧(∀ u∈us,one u=true)∧(Builtin.firstCells kk xs.length v).run P w=.ok us.toArray w∧∀ H' b' off',H.le H'→Told H' b' off' us→Els H' kk b' off' xs:=by
 obtain ⟨_,h⟩:=Kbd hr;rcases h with ⟨rfl,a,m,rfl,_⟩|⟨b,off,m,rfl,hm,hE⟩
 ·refine ⟨[],by simp,by simp,?_,fun _ _ _ _ _=>by simp [Els]⟩;cases a with
  | none=>rfl
  | some a=>simp only [Builtin.firstCells,List.length_nil,Nat.zero_mul];rfl
 obtain ⟨us,h1,h2,h3,h4⟩:=els_flat hE;refine ⟨us,h1,h3,?_,h4⟩;have:=Kc0 (P:=P) (xs.length*kk) (h2.row hA) (by omega);rw [← h1,List.take_length] at this;simp only [Builtin.firstCells];rw [← h1];exact this
theorem app_run {P:Program}{tab:List (Option TI)}(hT:TabOK P tab){C:Ctx}{H:Hp}{h:List (Nat×Blk)}{k1 k2:List (Nat×Value)}{w:World}{kk bb:Nat}{T T' e e':TypeId}{ty:TypeId}{i0 i1 ie:TI}{xs ys:List D}{c c':Cap}{v1 v2:Value}
  (core:Core C H h (k1++k2) w) (hk1:(k1=[]∧c=.full)∨(k1=[(kk,v1)]∧c=.cur v1)) (hx:Rep H (.lst kk xs c) v1) (hy:Rep H (.lst kk ys c') v2)
  (hi0:ti tab T=some i0) (hd0:i0.d=.slice e) (hi1:ti tab T'=some i1) (hd1:i1.d=.slice e') (hie:ti tab e=some ie) (hks:ie.size=kk) (hbb:ie.bytes=bb) (hz:ie.zero.length=kk) (hb1:1≤bb) (hbound:(xs.length+ys.length)*bb≤140737488355328) :
  ∃ v w' H',(Builtin.append_ #[T,T'] ty #[v1,v2]).run P w=.ok v w'∧H.le H'∧Core C H' h ((kk,v)::k2) w'∧Rep H' (.lst kk (xs++ys) (.cur v)) v:=by
 subst hks;subst hbb;have hTe:=ti_ok hT hie;obtain ⟨d0,u0,u1⟩:=Kah (w:=w) (ti_ok hT hi0);have e0:=Kb7 (u1.trans hd0);subst e0;obtain ⟨d1,u2,u3⟩:=Kah (w:=w) (ti_ok hT hi1);have e1:=Kb7 (u3.trans hd1);subst e1;obtain ⟨tif,z,t1,t2,t3,t4,t5⟩:=KcP (w:=w) hTe;obtain ⟨us1,f1,f2,f3,f4⟩:=Ked (P:=P) core.ag hx;obtain ⟨us2,g1,g2,g3,g4⟩:=Ked (P:=P) core.ag hy;obtain ⟨a2,m2,ey⟩:=Kdr hy;have hlen2:(Builtin.lenOf v2).run P w=.ok ys.length w:=by rw [ey];rfl
 obtain ⟨hc,hxr⟩:=Kbd hx;have hneed:xs.length+ys.length≤140737488355328:=Nat.le_trans (Nat.le_mul_of_pos_right _ hb1) hbound;have start:∀ base cap,v1=.slice base xs.length cap→(Builtin.append_ #[T,T'] ty #[v1,v2]).run P w =
   (
    if
      xs.length+ys.length≤cap then (do
      let new ← Builtin.firstCells ie.size ys.length v2
      if let some a:=base then storeCells (a.add (xs.length*ie.size)) new.toList
      pure (.slice base (xs.length+ys.length) cap):Sem Value)
    else (do
      if ((xs.length + ys.length : Nat) : Int) > IntKind.i64.max ∧ ((false = true) ∨ (← Go.typeInfo e).bytes = 0) then runtimePanic (.error "growslice: len out of range")
      if Builtin.nextslicecap (xs.length + ys.length) cap * (← Go.typeInfo e).bytes > 2 ^ 48 then (if false then runtimePanic (.error "growslice: len out of range") else do
       if !(← Builtin.mayShare ie.size xs.length ys.length base v2) then mark .noRoom
       unsupported (.resourceLimit "append: a slice or a string whose bytes no memory bears"))
      let newCap ← choose (.appendCap (xs.length+ys.length) cap e)
      askRoom (newCap*(← Go.typeInfo e).bytes)
      let old ← Builtin.firstCells ie.size xs.length v1
      let new ← Builtin.firstCells ie.size ys.length v2
      let rest:=Builtin.zeroCells (← Go.zeroValue e).cells (newCap - (xs.length+ys.length));pure (.slice (some (← newRow e (old++new++rest))) (xs.length+ys.length) newCap):Sem Value)).run P w:=by
  intro base cap hv;subst hv;unfold Builtin.append_;simp only [List.getElem?_toArray,List.getElem?_cons_zero,List.getElem?_cons_succ];rw [Kv u0];simp only [];rw [Kv (KbS hTe)];rw [Kv u2];simp only [];rw [Kv (a:=false) (w':=w) rfl];simp only [Bool.false_eq_true,if_false];rw [Kv hlen2];simp only [Bool.not_false,if_true];rfl
 by_cases hA:∃ base cap,v1=.slice base xs.length cap∧xs.length+ys.length≤cap
 ·obtain ⟨base,cap,hv,hle⟩:=hA;rw [start base cap hv,if_pos hle];rw [Kv g3];by_cases hm:ys=[]
  ·
   subst hm;have hu2:us2=[]:=List.eq_nil_of_length_eq_zero (by simpa using g1);subst hu2;refine ⟨v1,w,H,?_,Hp.le_refl H,?_,?_⟩
   · rw [hv];cases base with
     | none=>rfl
     | some a=>simp only [storeCells];rfl
   · rcases hk1 with ⟨rfl,rfl⟩|⟨rfl,rfl⟩
     ·
      have hcl:KbU (ie.size,v1)=[]:=by
       rw [hv] at hc ⊢;simp only [CapOK] at hc;subst hc;cases base<;>simp [KbU]
      have ht:TokOK H w (ie.size,v1):=by
       intro a n m ev hlt;rw [hv] at hc ev;simp only [CapOK] at hc;simp only [Value.slice.injEq] at ev;obtain ⟨_,rfl,rfl⟩:=ev;omega
      refine ⟨core.ag,core.le,core.new,core.same,core.size,core.blks,?_,?_,?_,core.env⟩
      ·intro p hp;rcases List.mem_cons.1 hp with rfl|hp
       ·exact ht
       exact core.toks p hp
      ·have:KO h ((ie.size,v1)::k2)=KO h k2:=by simp [KO,K6,hcl]
       rw [this];exact core.nd
      have:KO h ((ie.size,v1)::k2)=KO h k2:=by simp [KO,K6,hcl]
      rw [this];exact core.own
     exact core
   refine Ka3 ?_ (by rw [hv];rfl) rfl;simp only [RepC,CapOK,List.append_nil];exact ⟨v1,rfl,rfl,hxr⟩
  ·
   have hpos:0 < ys.length:=List.length_pos_iff.2 hm;rcases hk1 with ⟨rfl,rfl⟩|⟨rfl,rfl⟩
   · rw [hv] at hc;simp only [CapOK] at hc;omega
   obtain ⟨b,off,hbase,hE⟩:∃ b off,base=some ⟨b,off,none⟩∧Els H ie.size b off xs:=by
     rcases hxr with ⟨hnil,a,m,hs,hn0⟩|⟨b,off,m,hs,hmle,hE⟩
     ·rw [hv] at hs;simp only [Value.slice.injEq] at hs;obtain ⟨rfl,h1,rfl⟩:=hs;cases base with
      | none=>have:=hn0 rfl;omega
      |
       some a=>
       obtain ⟨cs,TT,_,hspot,_⟩:=core.toks (ie.size,v1) (by simp) a xs.length cap hv (by omega);obtain ⟨ab,ao,as_⟩:=a;simp only at hspot;subst hspot;exact ⟨ab,ao,rfl,by rw [hnil];simp [Els]⟩
     rw [hv] at hs;simp only [Value.slice.injEq] at hs;exact ⟨b,off,hs.1,hE⟩
   subst hbase;obtain ⟨cs,TT,h1,_,h3,h4⟩:=core.toks (ie.size,v1) (by simp) ⟨b,off,none⟩ xs.length cap hv (by omega);simp only at h1 h3 h4;have hsz:off+xs.length*ie.size+us2.length≤cs.toList.length:=by
     rw [g1];have:(xs.length+ys.length)*ie.size≤cap*ie.size:=Nat.mul_le_mul_right _ hle;rw [Nat.add_mul] at this;simp only [Array.length_toList];omega
   have hsz2:off+xs.length*ie.size+us2.length≤cs.size:=by rw [← Array.length_toList];exact hsz
   obtain ⟨w',s1,s2,s3,s4,s5⟩:=Kcr (P:=P) (b:=b) (off:=off+xs.length*ie.size) (T:=TT) us2 0 w cs.toList (by simpa using h1) (by omega) g2;simp only [Nat.add_zero] at s5;let H':Hp:=fun a=>if a.block=b∧a.spot=none∧off+xs.length*ie.size≤a.off∧a.off < off+xs.length*ie.size+us2.length then us2[a.off - (off+xs.length*ie.size)]? else H a
   have hle':H.le H':=fun a v0 ea=>by
     show (if a.block=b∧a.spot=none∧off+xs.length*ie.size≤a.off∧a.off < off+xs.length*ie.size+us2.length then us2[a.off - (off+xs.length*ie.size)]? else H a)=some v0
     rw [if_neg]
     ·exact ea
     rintro ⟨q1,q2,q3,q4⟩;obtain ⟨ab,ao,as_⟩:=a;simp only at q1 q2 q3 q4;subst q1;subst q2;rw [h4 ao q3] at ea;cases ea
   have hnew:∀ j u,us2[j]? = some u→H' ⟨b,off+xs.length*ie.size+j,none⟩=some u:=fun j u ej=>by
     have hj:=(List.getElem?_eq_some_iff.1 ej).1;show (if b=b∧(none:Option Nat)=none∧off+xs.length*ie.size≤off+xs.length*ie.size+j∧off+xs.length*ie.size+j < off+xs.length*ie.size+us2.length then us2[off+xs.length*ie.size+j - (off+xs.length*ie.size)]? else H _)=some u
     rw [if_pos ⟨rfl,rfl,by omega,by omega⟩,Nat.add_sub_cancel_left];exact ej
   have hclaim:KO [] [(ie.size,v1)]=[b]:=by
     rw [hv];simp only [KO,KbU,List.map_nil,List.flatMap_cons,List.flatMap_nil,List.nil_append,List.append_nil];rw [if_pos (by omega)]
   have gg1:GG H' w':=by
     refine core.ag.gg.step hle' ?_;by_cases q:tabG=b
     ·obtain ⟨_,⟨v',e2⟩,T2,fz2,e3⟩:=core.ag.gg;rw [q] at e2 e3 ⊢;have hlt:19 < off+xs.length*ie.size:=by
       rcases Nat.lt_or_ge 19 (off+xs.length*ie.size) with x|x
       ·exact x
       rw [h4 19 x] at e2;cases e2
      have ec:cs=tabC.toArray:=by
       rw [h1] at e3;simp only [Option.some.injEq,Obj.cells.injEq] at e3;exact e3.1
      have hcl:cs.toList.length=20:=by rw [ec];simp [tabC,Lib.pow10Tab]
      have hu:us2=[]:=List.eq_nil_of_length_eq_zero (by omega);have hcs:cs.size=20:=by simpa using hcl
      rw [s5,h1,hu,List.take_of_length_le (by omega),List.nil_append,List.length_nil,Nat.add_zero,List.drop_of_length_le (by omega),List.append_nil]
     exact s4 _ q
   have local1:Core ⟨H,w,KO [] [(ie.size,v1)]⟩ H' [] [(ie.size,.slice (some ⟨b,off,none⟩) (xs.length+ys.length) cap)] w':=by
     rw [hclaim];refine ⟨⟨fun a v0 ea=>?_,gg1⟩,hle',fun a v0 ea=>?_,fun i _ hm=>s4 i (by simpa using hm),by show w.heap.size≤w'.heap.size;omega,by simp,?_,?_,?_,s2⟩
     ·by_cases q:a.block=b∧a.spot=none∧off+xs.length*ie.size≤a.off∧a.off < off+xs.length*ie.size+us2.length
      ·have ea':us2[a.off - (off+xs.length*ie.size)]? = some v0:=by
        have:H' a=us2[a.off - (off+xs.length*ie.size)]?:=if_pos q;rw [this] at ea;exact ea
       obtain ⟨q1,q2,q3,q4⟩:=q;simp only [World.cell?,q1,s5,q2,Option.isSome_none,Bool.false_eq_true,if_false,List.getElem?_toArray];rw [List.getElem?_append_right (by simp;omega),List.getElem?_append_left (by simp;omega)];rw [show a.off - (cs.toList.take (off+xs.length*ie.size)).length=a.off - (off+xs.length*ie.size) by simp;omega];exact ea'
      have ea':H a=some v0:=by
       have:H' a=H a:=if_neg q;rw [this] at ea;exact ea
      have hcell:=core.ag a v0 ea';by_cases qb:a.block=b
      ·obtain ⟨ab,ao,as_⟩:=a;simp only at qb;subst qb;cases as_ with
       | some sp=>simp [World.cell?,h1] at hcell
       |
        none=>
        have hlt:ao < off+xs.length*ie.size:=by
         rcases Nat.lt_or_ge ao (off+xs.length*ie.size) with x|x
         ·exact x
         rw [h4 ao x] at ea';cases ea'
        simp only [World.cell?,h1,s5,Option.isSome_none,Bool.false_eq_true,if_false,List.getElem?_toArray] at hcell ⊢;rw [List.getElem?_append_left (by simp;omega),List.getElem?_take,if_pos hlt];simpa using hcell
      simp only [World.cell?] at hcell ⊢;rw [s4 _ qb];exact hcell
     ·by_cases q:a.block=b∧a.spot=none∧off+xs.length*ie.size≤a.off∧a.off < off+xs.length*ie.size+us2.length
      ·exact .inr (.inr (by simp [q.1]))
      have:H' a=H a:=if_neg q;rw [this] at ea;exact .inl ea
     ·intro p hp;simp only [List.mem_singleton] at hp;subst hp;intro a n m ev hlt;simp only [Value.slice.injEq,Option.some.injEq] at ev;obtain ⟨rfl,rfl,rfl⟩:=ev;refine ⟨_,TT,s5,rfl,?_,fun o ho=>?_⟩
      ·simp only [List.size_toArray,List.length_append,List.length_take,List.length_drop,Array.length_toList] at hsz ⊢;omega
      simp only at ho ⊢;have:H' ⟨b,o,none⟩=H ⟨b,o,none⟩:=if_neg (by rintro ⟨_,_,q3,q4⟩;simp only at q3 q4;rw [g1] at q4;rw [Nat.add_mul] at ho;omega);rw [this];exact h4 o (by rw [Nat.add_mul] at ho;omega)
     ·simp only [KO,KbU,List.map_nil,List.flatMap_cons,List.flatMap_nil,List.nil_append,List.append_nil];split<;>simp
     intro x hx';simp only [KO,KbU,List.map_nil,List.flatMap_cons,List.flatMap_nil,List.nil_append,List.append_nil] at hx';split at hx'
     ·exact .inl (by simpa using hx')
     cases hx'
   have:=Core.call (h1:=[]) (k1:=[(ie.size,v1)]) (h2:=h) (k2:=k2) (by simpa using core) local1;refine ⟨.slice (some ⟨b,off,none⟩) (xs.length+ys.length) cap,w',H',?_,hle',by simpa using this,?_⟩
   · simp only [Kcw];rw [Kv s1];rfl
   refine Ka3 ?_ rfl rfl;simp only [RepC,CapOK];refine ⟨_,rfl,rfl,.inr ⟨b,off,cap,by simp,by simpa using hle,?_⟩⟩;exact Kf3 (Els.mono hle' _ _ _ _ hE) (g4 H' b _ hle' hnew)
 ·
  have hv:∃ base cap,v1=.slice base xs.length cap:=Kdr hx;obtain ⟨base,cap,hv⟩:=hv;have hgt:¬ xs.length+ys.length≤cap:=fun x=>hA ⟨base,cap,hv,x⟩
  rw [start base cap hv,if_neg hgt];have hti:(Go.typeInfo e).run P w=.ok tif w:=t1;have hbytes:tif.bytes=ie.bytes:=t3;have hno1:¬ (((xs.length+ys.length:Nat):Int) > IntKind.i64.max∧((false=true)∨tif.bytes=0)):=by
   rintro ⟨_,q|q⟩
   · cases q
   omega
  have hno2:¬ (Builtin.nextslicecap (xs.length+ys.length) cap*tif.bytes > 2 ^ 48):=by
   have h5:=next_le (Nat.lt_of_not_le hgt);have h6:Builtin.nextslicecap (xs.length+ys.length) cap*ie.bytes≤2*(xs.length+ys.length)*ie.bytes:=Nat.mul_le_mul_right _ h5;rw [Nat.mul_assoc] at h6;rw [hbytes];omega
  have hforced:∀ need,(Question.appendCap need cap e).forced=false:=fun _=>rfl
  obtain ⟨newCap,hcap,hchoose⟩:∃ newCap,xs.length+ys.length≤newCap∧(choose (.appendCap (xs.length+ys.length) cap e)).run P w=.ok newCap (wDrew w):=by
   refine ⟨_,?_,by simp only [choose,Sem.run,hforced];rfl⟩;simp only [Question.cut];omega
  have hzv:∃ z,(Go.zeroValue e).run P (wDrew w)=.ok z (wDrew w)∧z.cells.toList=ie.zero:=KcE hTe;obtain ⟨zz,hz1,hz2⟩:=hzv;have hti2:∃ tif2,(Go.typeInfo e).run P (wDrew w)=.ok tif2 (wDrew w):=by
   obtain ⟨tif2,_,q,_⟩:=KcP (w:=wDrew w) hTe;exact ⟨tif2,q⟩
  obtain ⟨tif2,hti2⟩:=hti2;have core2:=core.drew;obtain ⟨us1',f1',f2',f3',f4'⟩:=Ked (P:=P) core2.ag hx;obtain ⟨us2',g1',g2',g3',g4'⟩:=Ked (P:=P) core2.ag hy;let restA:=Builtin.zeroCells zz.cells (newCap - (xs.length+ys.length));have hrest:restA.size=(newCap - (xs.length+ys.length))*ie.size:=by
   show (Builtin.zeroCells zz.cells _).size=_
   unfold Builtin.zeroCells;simp only [Array.size_map,Array.size_range];have:zz.cells.size=ie.size:=by rw [← Array.length_toList,hz2,hz]
   rw [this]
  have hrun:((do
      if ((xs.length + ys.length : Nat) : Int) > IntKind.i64.max ∧ ((false = true) ∨ (← Go.typeInfo e).bytes = 0) then runtimePanic (.error "growslice: len out of range")
      if Builtin.nextslicecap (xs.length + ys.length) cap * (← Go.typeInfo e).bytes > 2 ^ 48 then (if false then runtimePanic (.error "growslice: len out of range") else do
       if !(← Builtin.mayShare ie.size xs.length ys.length base v2) then mark .noRoom
       unsupported (.resourceLimit "append: a slice or a string whose bytes no memory bears"))
      let newCap ← choose (.appendCap (xs.length+ys.length) cap e)
      askRoom (newCap*(← Go.typeInfo e).bytes)
      let old ← Builtin.firstCells ie.size xs.length v1
      let new ← Builtin.firstCells ie.size ys.length v2
      let rest:=Builtin.zeroCells (← Go.zeroValue e).cells (newCap - (xs.length+ys.length));pure (.slice (some (← newRow e (old++new++rest))) (xs.length+ys.length) newCap):Sem Value)).run P w =
     .ok (.slice (some ⟨w.heap.size,0,none⟩) (xs.length+ys.length) newCap) ((wDrew w).alloc (.cells (us1'.toArray++us2'.toArray++restA) e)):=by
   rw [Kv hti];rw [if_neg hno1];rw [Kv hti];rw [if_neg hno2];rw [Kv hchoose,Kv hti2,Kv KgT,Kv f3',Kv g3',Kv hz1];rfl
  rw [hrun];have hus1:us1'.length=xs.length*ie.size:=f1';have hus2:us2'.length=ys.length*ie.size:=g1';have earr:us1'.toArray++us2'.toArray++restA=((us1'++us2')++restA.toList).toArray:=by simp
  rw [earr];have hsizew:(wDrew w).heap.size=w.heap.size:=rfl;obtain ⟨hle',core3,told⟩:=Core.allocTold (Core.here core2.ag) (us:=us1'++us2') (vs:=(us1'++us2')++restA.toList) e (fun j u ej=>by rw [List.getElem?_append_left (List.getElem?_eq_some_iff.1 ej).1];exact ej);rw [hsizew] at hle' core3 told;have hcells:((wDrew w).alloc (.cells ((us1'++us2')++restA.toList).toArray e)).heap[w.heap.size]? = some (.cells ((us1'++us2')++restA.toList).toArray e (0,0)):=by
   rw [KbT,hsizew,if_pos rfl]
  have local1:Core ⟨H,wDrew w,[]⟩ (tell H w.heap.size (us1'++us2')) [] [(ie.size,.slice (some ⟨w.heap.size,0,none⟩) (xs.length+ys.length) newCap)] ((wDrew w).alloc (.cells ((us1'++us2')++restA.toList).toArray e)):=by
   refine ⟨core3.ag,core3.le,core3.new,core3.same,core3.size,by simp,?_,?_,?_,core3.env⟩
   · intro p hp;simp only [List.mem_singleton] at hp;subst hp;intro a n m ev hlt;simp only [Value.slice.injEq,Option.some.injEq] at ev;obtain ⟨rfl,rfl,rfl⟩:=ev;refine ⟨_,e,hcells,rfl,?_,fun o ho=>?_⟩
     ·simp only [List.size_toArray,List.length_append,Array.length_toList,hrest,hus1,hus2,Nat.zero_add];rw [← Nat.add_mul,← Nat.add_mul];exact Nat.mul_le_mul_right _ (by omega)
     simp only [Nat.zero_add] at ho;show tell H w.heap.size (us1'++us2') ⟨w.heap.size,o,none⟩=none
     unfold tell;rw [if_pos ⟨rfl,rfl⟩];rw [List.getElem?_eq_none];simp only [List.length_append,hus1,hus2,← Nat.add_mul];exact ho
   · simp only [KO,KbU,List.map_nil,List.flatMap_cons,List.flatMap_nil,List.nil_append,List.append_nil];split<;>simp
   intro x hx';simp only [KO,KbU,List.map_nil,List.flatMap_cons,List.flatMap_nil,List.nil_append,List.append_nil] at hx';split at hx'
   ·simp at hx';subst hx';exact .inr (Nat.le_refl _)
   cases hx'
  have coreD:=core2.drop (h':=h) (k':=k2) (List.Sublist.refl _) (by
   rcases hk1 with ⟨rfl,_⟩|⟨rfl,_⟩
   · exact List.Sublist.refl _
   exact List.sublist_append_right _ _)
  have:=Core.call (h1:=[]) (k1:=[]) (h2:=h) (k2:=k2) (by simpa using coreD) local1;refine ⟨_,_,_,rfl,hle',by simpa using this,?_⟩;refine Ka3 ?_ rfl rfl;simp only [RepC,CapOK];refine ⟨_,rfl,rfl,.inr ⟨w.heap.size,0,newCap,by simp,by simpa using hcap,?_⟩⟩;refine Kf3 (f4' _ _ _ hle' fun j u ej=>?_) (g4' _ _ _ hle' fun j u ej=>?_)
  ·exact told j u (by rw [List.getElem?_append_left (List.getElem?_eq_some_iff.1 ej).1];exact ej)
  have:=told (us1'.length+j) u (by rw [List.getElem?_append_right (by omega)];simpa using ej);rw [show 0+xs.length*ie.size+j=0+(us1'.length+j) by omega];exact this
end
section
open Go
set_option linter.all false
section
variable {P : Program} {C : Ctx} {N : Nat} {ops rest : List Oper} {o : Oper} {t : List (Nat × D)} {h : List (Nat × Blk)} {k : List (Nat × Value)} {Q : Exit → S → Prop} {tab : List (Option TI)}
theorem app_step {i kk bb:Nat}{T T' e e':TypeId}{x y:Operand}{xs ys:List D}{c c':Cap}{i0 i1 ie:TI}{k1 k2:List (Nat×Value)}(hT:TabOK P tab)(ho:o.op=.call ⟨.builtin .append,[x,y].toArray,#[T,T']⟩)(hw:wantD ops t o=some true)(hd:o.dst=some i)(hi:Nat.blt i N=true)
  (hx:∀ H a,TOK H t a→Rep H (.lst kk xs c) (a.eval x)) (hy:opD t y=some (.lst kk ys c')) (hk1:∀ H a,TOK H t a→(k1=[]∧c=.full)∨(k1=[(kk,a.eval x)]∧c=.cur (a.eval x))) (hkk:k.Perm (k1++k2))
  (hi0:ti tab T=some i0) (hd0:i0.d=.slice e) (hi1:ti tab T'=some i1) (hd1:i1.d=.slice e') (hie:ti tab e=some ie) (hks:ie.size=kk) (hbb:ie.bytes=bb) (hz:ie.zero.length=kk) (hb1:1≤bb) (hbound:(xs.length+ys.length)*bb≤140737488355328)
  (g:∀ v,opsD P C N ops rest ⟨(i,.lst kk (xs++ys) (.cur v))::t,h,(kk,v)::k2⟩ Q):opsD P C N ops (o::rest) ⟨t,h,k⟩ Q:=
 Kdg (s:=⟨t,h,k⟩) hw hd hi fun H a w core kt=>by
  obtain ⟨v,w',H',h1,h2,h3,h4⟩:=app_run (P:=P) (ty:=o.type) hT (core.perm (List.Perm.refl _) hkk) (hk1 H a kt) (hx H a kt) (K4 kt hy) hi0 hd0 hi1 hd1 hie hks hbb hz hb1 hbound;exact ⟨v,w',H',_,h,(kk,v)::k2,Kcx (s:=Builtin.append_) ho (fun _ _=>rfl) (by simpa using h1),h2,h3,h4,g v⟩
theorem Kek {i kk bb:Nat}{T T' e e':TypeId}{x y:Operand}{xs ys:List D}{c':Cap}{v0:Value}{i0 i1 ie:TI}{k2:List (Nat×Value)}(j:Nat)(hT:TabOK P tab)(ho:o.op=.call ⟨.builtin .append,[x,y].toArray,#[T,T']⟩)(hw:wantD ops t o=some true)(hd:o.dst=some i)(hi:Nat.blt i N=true)
  (hx:opD t x=some (.lst kk xs (.cur v0))) (hy:opD t y=some (.lst kk ys c')) (hj:k[j]? = some (kk,v0)) (he:k.eraseIdx j=k2)
  (hi0:ti tab T=some i0) (hd0:i0.d=.slice e) (hi1:ti tab T'=some i1) (hd1:i1.d=.slice e') (hie:ti tab e=some ie) (hks:ie.size=kk) (hbb:ie.bytes=bb) (hz:ie.zero.length=kk) (hb1:Nat.ble 1 bb=true) (hbound:(xs.length+ys.length)*bb≤140737488355328)
  (g:∀ v,opsD P C N ops rest ⟨(i,.lst kk (xs++ys) (.cur v))::t,h,(kk,v)::k2⟩ Q):opsD P C N ops (o::rest) ⟨t,h,k⟩ Q:=
 app_step (k1:=[(kk,v0)]) hT ho hw hd hi (fun _ _ kt=>K4 kt hx) hy (fun H a kt=>by
  have:=(Kbd (K4 kt hx)).1;simp only [CapOK] at this;rw [this];exact .inr ⟨rfl,rfl⟩) (he ▸ KU hj) hi0 hd0 hi1 hd1 hie hks hbb hz (Nat.le_of_ble_eq_true hb1) hbound g
end
def KcI (agg:Bool)(k:Nat):Nat→List D→List D
 | 0,_=>[]
 | n+1,r=>(bif agg then .agg (r.take k) else r.headD .any)::KcI agg k n (r.drop k)
theorem KhV {H:Hp}{k b:Nat}{agg:Bool}(hk:agg=false→k=1):∀ (n:Nat) {r:List D} {us:List Value} {off:Nat},Reps H r us→r.length=n*k→Told H b off us→Els H k b off (KcI agg k n r)
 | 0,r,us,off,_,_,_=>by simp [KcI,Els]
 |
  n+1,r,us,off,hr,hl,ht=>by
  have hul:=KbF hr;have hkl:k≤r.length:=by rw [hl,Nat.add_mul];omega
  simp only [KcI,Els];refine ⟨⟨us.take k,by simp;omega,?_,KhQ ht k,fun u hu=>Kds hr u (List.mem_of_mem_take hu)⟩,?_⟩
  ·cases agg with
   | true=>simp only [cond_true,RepC];exact Kdy k hr
   |
    false=>
    have:=hk rfl;subst this;simp only [cond_false];cases r with
    | nil=>simp at hkl
    |
     cons d r=>
     simp only [Reps] at hr;obtain ⟨u,us',rfl,h1,_⟩:=hr;simpa using h1.1
  exact KhV hk n (Kdx k hr) (by simp [hl,Nat.add_mul]) (KhP ht k)
theorem KeP {agg:Bool}{k:Nat}:∀ (n:Nat) (r:List D),(KcI agg k n r).length=n
 | 0,_=>rfl
 | n+1,r=>by simp [KcI,KeP n]
theorem Kgk {tab:List (Option TI)}{fs:List (Nat×Nat)}{t:List (Nat×D)}:∀ {ps:List (Nat×Operand)} {cs r:List D},KcQ tab fs t ps cs=some r→r.length=cs.length
 | [],cs,r,e=>by simp [KcQ] at e;rw [e]
 |
  (f,x)::ps,cs,r,e=>by
  simp only [KcQ] at e;split at e
  ·split at e
   ·rename_i fl _ _ _ j d _ _;cases hb:(stor d && Nat.beq (KR d).length j.size && Nat.ble (fl.2+j.size) cs.length) with
    | false=>rw [hb] at e;cases e
    |
     true=>
     rw [hb] at e;simp only [cond_true] at e;simp only [Bool.and_eq_true] at hb;have h2:=Nat.eq_of_beq_eq_true hb.1.2;have h3:=Nat.le_of_ble_eq_true hb.2;rw [Kgk e,lay_length (by omega)]
   cases e
  cases e
section
variable {P : Program} {C : Ctx} {N : Nat} {ops rest : List Oper} {o : Oper} {t : List (Nat × D)} {h : List (Nat × Blk)} {k : List (Nat × Value)} {Q : Exit → S → Prop} {tab : List (Option TI)}
abbrev ExE (P:Program)(o:Oper)(t:List (Nat×D))(d:D):Prop:=∀ H a w,Ag H w→TOK H t a→∃ v w' H',(execOp a.eval o).run P w=.ok (.value v) w'∧Core ⟨H,w,[]⟩ H' [] [] w'∧Rep H' d v
theorem p_e {i:Nat}{d:D}(hx:ExE P o t d)(hw:wantD ops t o=some true)(hd:o.dst=some i)(hi:Nat.blt i N=true)(g:opsD P C N ops rest ⟨(i,d)::t,h,k⟩ Q):opsD P C N ops (o::rest) ⟨t,h,k⟩ Q:=
 Kdg (s:=⟨t,h,k⟩) hw hd hi fun H a w core kt=>by
  obtain ⟨v,w',H',h1,h2,h3⟩:=hx H a w core.ag kt;exact ⟨v,w',H',_,h,k,h1,h2.le,by simpa using Core.call (h1:=[]) (k1:=[]) (h2:=h) (k2:=k) core h2,h3,g⟩
theorem x_litS {n kk:Nat}{T e:TypeId}{ps:Array (Nat×Operand)}{i0 ie:TI}{r:List D}(hT:TabOK P tab)(ho:o.op=.buildSlice T n ps)
 (hi0:ti tab T=some i0) (hd0:i0.d=.slice e) (hie:ti tab e=some ie) (hks:ie.size=kk) (hz:ie.zero.all one=true) (hzl:Nat.beq ie.zero.length kk=true) (hpos:Nat.ble 1 (n*kk)=true) (hmax:Nat.ble (n*kk) 16777216=true) (hag:(ie.agg || Nat.beq kk 1)=true)
 (er:KcQ tab ((List.range n).map fun j=>(e,j*kk)) t ps.toList (List.replicate (n*kk) .any)=some r):∀ H a w,Ag H w→TOK H t a→∃ w' H',(execOp a.eval o).run P w=.ok (.value (.slice (some ⟨w.heap.size,0,none⟩) n n)) w'∧Core ⟨H,w,[]⟩ H' [] [] w'∧Rep H' (.lst kk (KcI ie.agg kk n r) .full) (.slice (some ⟨w.heap.size,0,none⟩) n n):=fun H a w hA kt=>by
 have core:Core ⟨H,w,[]⟩ H [] [] w:=Core.here hA;subst hks;obtain ⟨d0,u0,u1⟩:=Kah (w:=w) (ti_ok hT hi0);have e0:=Kb7 (u1.trans hd0);subst e0;obtain ⟨z,hz1,hz2⟩:=KcE (w:=w) (ti_ok hT hie);have hpos:=Nat.le_of_ble_eq_true hpos;have hmax:=Nat.le_of_ble_eq_true hmax;have hzl:=Nat.eq_of_beq_eq_true hzl;have hzs:z.cells.size=ie.size:=by rw [← Array.length_toList,hz2,hzl]
 have hkp:0 < ie.size:=by
  rcases Nat.eq_zero_or_pos ie.size with x|x
  ·rw [x] at hpos;omega
  exact x
 let init:List Value:=((Array.range (n*ie.size)).map fun j=>z.cells[j % z.cells.size]!).toList;have hil:init.length=n*ie.size:=by simp [init]
 have hi1:∀ u∈init,one u=true:=by
  intro u hu;simp only [init,Array.toList_map,List.mem_map] at hu;obtain ⟨j,_,rfl⟩:=hu;rw [List.all_eq_true] at hz;have hlt:j % z.cells.size < z.cells.size:=Nat.mod_lt _ (by omega);rw [getElem!_pos z.cells _ hlt];apply hz;rw [← hz2];exact Array.getElem_mem_toList hlt
 have hany:∀ (us:List Value),(∀ u∈us,one u=true)→Reps H (List.replicate us.length .any) us:=by
  intro us;induction us with
  | nil=>intro _;simp [Reps]
  |
   cons u us ih=>
   intro hu;simp only [List.length_cons,List.replicate_succ,Reps];exact ⟨u,us,rfl,⟨by simp [RepC],hu u (by simp),rfl⟩,ih fun x hx=>hu x (by simp [hx])⟩
 have hr0:=hany init hi1;rw [hil] at hr0;obtain ⟨vs,f1,f2⟩:=fill_ok (P:=P) (place:=fun j=>some (j*ie.size,ie.size)) hT kt (fs:=(List.range n).map fun j=>(e,j*ie.size)) (by
  intro f fl j hf hj;rw [List.getElem?_map,Option.map_eq_some_iff] at hf;obtain ⟨x,h8,h9⟩:=hf;have hx:=(List.getElem?_eq_some_iff.1 h8).2;simp at hx;subst hx;subst h9;simp only at hj;rw [hie] at hj;cases hj;rfl) ps.toList _ _ r hr0 er
 have hrl:=Kgk er;simp only [List.length_replicate] at hrl;obtain ⟨hle,core',told⟩:=core.allocTold (us:=vs) (vs:=vs) e (fun _ _ x=>x);refine ⟨_,_,?_,core',?_⟩
 ·unfold execOp;rw [ho];refine Kbk ?_;unfold Instr.buildSlice;rw [Kv u0];simp only [];rw [Kv (KbS (ti_ok hT hie))];rw [if_neg (by omega)];rw [if_neg (show ¬ n*ie.size=0 by omega),Kv hz1];rw [Kv (a:=z.cells) (w':=w) rfl];have e1:(ps.map fun x=>(x.1,a.eval x.2)).toList=ps.toList.map fun p=>(p.1,a.eval p.2):=by simp
  have e2:(Array.range (n*ie.size)).map (fun j=>z.cells[j % z.cells.size]!)=init.toArray:=(Array.toArray_toList).symm;rw [e1,e2];simp only [f1];rfl
 refine Ka3 ?_ rfl rfl;simp only [RepC,CapOK];refine ⟨_,rfl,rfl,.inr ⟨w.heap.size,0,n,by rw [KeP],by rw [KeP];exact Nat.le_refl _,?_⟩⟩;refine KhV ?_ n (Reps.mono hle _ _ f2) hrl told;intro hf;rw [hf] at hag;simpa using hag
theorem x_lit {n kk:Nat}{T e:TypeId}{ps:Array (Nat×Operand)}{i0 ie:TI}{r:List D}(hT:TabOK P tab)(ho:o.op=.buildSlice T n ps)
 (hi0:ti tab T=some i0) (hd0:i0.d=.slice e) (hie:ti tab e=some ie) (hks:ie.size=kk) (hz:ie.zero.all one=true) (hzl:Nat.beq ie.zero.length kk=true) (hpos:Nat.ble 1 (n*kk)=true) (hmax:Nat.ble (n*kk) 16777216=true) (hag:(ie.agg || Nat.beq kk 1)=true)
 (er:KcQ tab ((List.range n).map fun j=>(e,j*kk)) t ps.toList (List.replicate (n*kk) .any)=some r):ExE P o t (.lst kk (KcI ie.agg kk n r) .full):=fun H a w hA kt=>let ⟨w',H',h1,h2,h3⟩:=x_litS hT ho hi0 hd0 hie hks hz hzl hpos hmax hag er H a w hA kt;⟨_,w',H',h1,h2,h3⟩
theorem p_lit {i n kk:Nat}{T e:TypeId}{ps:Array (Nat×Operand)}{i0 ie:TI}{r:List D}(hT:TabOK P tab)(ho:o.op=.buildSlice T n ps)(hw:wantD ops t o=some true)(hd:o.dst=some i)(hi:Nat.blt i N=true)
  (hi0:ti tab T=some i0) (hd0:i0.d=.slice e) (hie:ti tab e=some ie) (hks:ie.size=kk) (hz:ie.zero.all one=true) (hzl:Nat.beq ie.zero.length kk=true) (hpos:Nat.ble 1 (n*kk)=true) (hmax:Nat.ble (n*kk) 16777216=true) (hag:(ie.agg || Nat.beq kk 1)=true)
  (er:KcQ tab ((List.range n).map fun j=>(e,j*kk)) t ps.toList (List.replicate (n*kk) .any)=some r) (g:opsD P C N ops rest ⟨(i,.lst kk (KcI ie.agg kk n r) .full)::t,h,k⟩ Q):opsD P C N ops (o::rest) ⟨t,h,k⟩ Q:=
 p_e (x_lit hT ho hi0 hd0 hie hks hz hzl hpos hmax hag er) hw hd hi g
def byteD (b:UInt8):D:=.v (.int .u8 b.toNat)
theorem KhW {H:Hp}{w:World}(hA:Ag H w){b:Nat}:∀ (bs:List UInt8) (off:Nat),Els H 1 b off (bs.map byteD)→RowAt w b off (bs.map fun c=>.int .u8 c.toNat)
 | [],off,_=>fun j u e=>by simp at e
 |
  c::bs,off,h=>by
  simp only [List.map_cons,Els,byteD] at h;obtain ⟨⟨us,h1,h2,h3,_⟩,h5⟩:=h;simp only [RepC] at h2;subst h2;have ih:=KhW hA bs (off+1) h5;intro j u e;cases j with
  | zero=>simp at e;subst e;exact hA _ _ (h3 0 _ (by simp))
  |
   succ j=>
   have:=ih j u (by simpa using e);rwa [show off+1+j=off+(j+1) by omega] at this
theorem x_toStr {T T' e:TypeId}{x:Operand}{bs:List UInt8}{c:Cap}{i0 i1 ie:TI}(hT:TabOK P tab)(ho:o.op=.convert T T' x)
 (hx:opD t x=some (.lst 1 (bs.map byteD) c)) (hi0:ti tab T=some i0) (hd0:i0.d=.slice e) (hi1:ti tab T'=some i1) (hd1:i1.d=.str) (hie:ti tab e=some ie) (hde:ie.d=.int .u8):ExE P o t (.v (.string ⟨bs.toArray⟩)):=fun H a w hA kt=>by
 have core:Core ⟨H,w,[]⟩ H [] [] w:=Core.here hA;obtain ⟨d0,u0,u1⟩:=Kah (w:=w) (ti_ok hT hi0);have e0:=Kb7 (u1.trans hd0);subst e0;obtain ⟨d1,u2,u3⟩:=Kah (w:=w) (ti_ok hT hi1);have e1:=KdL (u3.trans hd1);subst e1;obtain ⟨d2,u4,u5⟩:=Kah (w:=w) (ti_ok hT hie);have e2:=Keh (u5.trans hde);subst e2;refine ⟨.string ⟨bs.toArray⟩,w,H,?_,core,rep_v rfl⟩;unfold execOp;rw [ho];refine Kbk ?_;obtain ⟨_,hr⟩:=Kbd (K4 kt hx);unfold convert;rw [Kv u0,Kv u2];rcases hr with ⟨hn,a0,m0,hy,_⟩|⟨b,off,m,hy,hm,hE⟩
 ·have:bs=[]:=by simpa using hn
  subst this;rw [hy];simp only [];rw [Kv u4];cases a0<;>rfl
 rw [hy];simp only [];rw [Kv u4];have hrow:=KhW core.ag bs off hE;have hload:=Kc0 (P:=P) bs.length hrow (by simp);simp only [List.length_map];unfold Conv.bytesToString;simp only [];rw [Kv hload];have:((bs.map fun c=>Value.int .u8 c.toNat).take bs.length)=bs.map fun c=>Value.int .u8 c.toNat:=by rw [List.take_of_length_le (by simp)]
 rw [this];have key:∀ (f:Value→ByteArray→Sem (ForInStep ByteArray)),(∀ (c:UInt8) (s:ByteArray),f (.int .u8 c.toNat) s=pure (ForInStep.yield (s.push (UInt8.ofNat (Int.toNat (c.toNat:Int)))))) →
   ∀ (l:List UInt8) (s:ByteArray),(forIn (l.map fun c=>Value.int .u8 c.toNat) s f:Sem ByteArray).run P w=.ok ⟨s.data++l.toArray⟩ w:=by
  intro f hf l;induction l with
  | nil=>intro s;simp
  |
   cons c l ih=>
   intro s;rw [List.map_cons,List.forIn_cons,hf];rw [Kv (a:=ForInStep.yield (s.push (UInt8.ofNat (Int.toNat (c.toNat:Int))))) rfl];simp only [];rw [ih];congr 2;simp
 rw [← Array.forIn_toList];simp only [];rw [Kv (key _ (fun _ _=>rfl) bs ByteArray.empty)];simp
theorem p_toStr {i:Nat}{T T' e:TypeId}{x:Operand}{bs:List UInt8}{c:Cap}{i0 i1 ie:TI}(hT:TabOK P tab)(ho:o.op=.convert T T' x)(hw:wantD ops t o=some true)(hd:o.dst=some i)(hi:Nat.blt i N=true)
  (hx:opD t x=some (.lst 1 (bs.map byteD) c)) (hi0:ti tab T=some i0) (hd0:i0.d=.slice e) (hi1:ti tab T'=some i1) (hd1:i1.d=.str) (hie:ti tab e=some ie) (hde:ie.d=.int .u8)
  (g:opsD P C N ops rest ⟨(i,.v (.string ⟨bs.toArray⟩))::t,h,k⟩ Q):opsD P C N ops (o::rest) ⟨t,h,k⟩ Q:=
 p_e (x_toStr hT ho hx hi0 hd0 hi1 hd1 hie hde) hw hd hi g
end
end
section
open Go
set_option linter.all false
def blk:Value→Nat
 | .pointer (some a)=>a.block
 | _=>0
abbrev AL:=List (Nat×List D×TypeId)
abbrev TE:=List (Nat×D×Option Nat)
def isAl (al:AL)(e:Nat):Bool:=al.any fun x=>x.1==e
def Kau (al:AL)(S:Nat→Bool)(vals:Nat→Value):List (Nat×Blk):=
 match al with
 | []=>[]
 | (e,ds,T)::al=>bif S e then (blk (vals e),.cells ds T)::Kau al S vals else Kau al S vals
theorem Kbc {S S':Nat→Bool}{vals vals':Nat→Value}:∀ {al:AL},(∀ e,isAl al e=true→S e=S' e∧(S e=true→vals e=vals' e))→Kau al S vals=Kau al S' vals'
 | [],_=>rfl
 |
  (e,ds,T)::al,h=>by
  have h1:=h e (by simp [isAl]);have h2:=Kbc (al:=al) (S:=S) (S':=S') (vals:=vals) (vals':=vals') fun x hx=>h x (by simp only [isAl,List.any_cons,Bool.or_eq_true] at hx ⊢;exact .inr hx)
  simp only [Kau,h1.1,h2];cases hs:S' e with
  | true=>rw [h1.2 (h1.1.trans hs)]
  | false=>rfl
theorem Kdl {vals:Nat→Value}:∀ {al:AL},Kau al (fun _=>false) vals=[]
 | []=>rfl
 | (e,ds,T)::al=>by simp only [Kau,cond_false];exact Kdl
theorem KdP {S:Nat→Bool}{vals:Nat→Value}:∀ {al:AL},(∀ e,isAl al e=true→S e=true)→Kau al S vals=al.map fun x=>(blk (vals x.1),.cells x.2.1 x.2.2)
 | [],_=>rfl
 |
  (e,ds,T)::al,h=>by
  have h2:=KdP (al:=al) (S:=S) (vals:=vals) fun x hx=>h x (by simp only [isAl,List.any_cons,Bool.or_eq_true] at hx ⊢;exact .inr hx)
  simp only [Kau,h e (by simp [isAl]),cond_true,h2,List.map_cons]
theorem Kho {S:Nat→Bool}{vals:Nat→Value}{i:Nat}{v:Value}{ds:List D}{T:TypeId}(hS:S i=false):∀ {al:AL},(i,ds,T)∈al→(al.map (·.1)).Nodup →
  (Kau al (Jx.upd S i true) (Jx.upd vals i v)).Perm (Kau al S vals++[(blk v,.cells ds T)])
 | [],h,_=>by cases h
 |
  (e,ds',T')::al,h,hn=>by
  simp only [List.map_cons,List.nodup_cons] at hn;by_cases he:e=i
  ·subst he;have hin:(ds',T')=(ds,T):=by
    rcases List.mem_cons.1 h with h1|h1
    ·simp only [Prod.mk.injEq,true_and] at h1 ⊢;exact ⟨h1.1.symm,h1.2.symm⟩
    exact absurd (List.mem_map.2 ⟨_,h1,rfl⟩) hn.1
   simp only [Prod.mk.injEq] at hin;obtain ⟨rfl,rfl⟩:=hin;have hrest:Kau al (Jx.upd S e true) (Jx.upd vals e v)=Kau al S vals:=Kbc fun x hx=>by
    have:x ≠ e:=fun q=>by
     subst q;obtain ⟨y,hy,hq⟩:=List.any_eq_true.1 hx;exact hn.1 (List.mem_map.2 ⟨y,hy,by simpa using hq⟩)
    exact ⟨Jx.upd_ne _ _ this,fun _=>Jx.upd_ne _ _ this⟩
   simp only [Kau,Jx.upd_same,cond_true,hS,cond_false,hrest];exact (List.perm_append_singleton _ _).symm
  have ih:=Kho (v:=v) (vals:=vals) hS (al:=al) (by
   rcases List.mem_cons.1 h with h1|h1
   ·simp only [Prod.mk.injEq] at h1;exact absurd h1.1.symm he
   exact h1) hn.2
  simp only [Kau,Jx.upd_ne _ _ he];cases S e with
  | true=>simp only [cond_true,List.cons_append];exact ih.cons _
  | false=>simpa using ih
section
variable (P : Program) (C : Ctx) (N : Nat) (l : List Oper) (m : Nat) (De : Nat → D) (al : AL) (pre : List (List Nat)) (ev : List Nat) (h : List (Nat × Blk)) (k : List (Nat × Value)) (Q : Exit → S → Prop)
def Cz (H0:Hp)(S:Nat→Bool)(vals:Nat→Value)(w:World):Prop:=
 ∃ H,H0.le H∧Core C H (h++Kau al S vals) k w∧∀ e,S e=true→ev.contains e=true→(isAl al e=true→vals e=.pointer (some ⟨blk (vals e),0,none⟩))∧(isAl al e=false→Rep H (De e) (vals e))
def dE (bs:Nat→Nat)(e:Nat):D:=bif isAl al e then .ptr (bs e) 0 else De e
def look3:TE→Nat→Option (D×Option Nat)
 | [],_=>none
 | (j,d,o)::te,i=>bif Nat.beq j i then some (d,o) else look3 te i
def vis (p:List Nat):TE→List (Nat×D)
 | []=>[]
 | (j,d,none)::te=>(j,d)::vis p te
 | (j,d,some e)::te=>(j,bif p.contains e then d else .any)::vis p te
def TOKz (H0:Hp)(bs:Nat→Nat)(vals:Nat→Value)(te:TE)(a:Act):Prop:=
 ∀ j d o,look3 te j=some (d,o)→∃ v,a.tmps[j]? = some v∧(o=none→∀ H,H0.le H→Rep H d v)∧∀ e,o=some e→v=vals e∧d=dE De al bs e∧ev.contains e=true
def finZ (H0:Hp)(vals:Nat→Value)(a:Act):Prop:=∀ S w,(∀ i,ev.contains i=true→S i=true)→Cz C De al ev h k H0 S vals w→wpList P l.toArray (QD C N Q) (l.drop m) a w
def Zw (bs:Nat→Nat)(i:Nat)(rest:List Oper)(te:TE):Prop:=
 ∀
  H0 vals a,(∀ e,bs e=blk (vals e))→TOKz De al ev H0 bs vals te a→a.tmps.size=N→a.defers=[] →
  Jx.Lx P l.toArray (Cz C De al ev h k H0) (fun i=>pre.getD i []) (fun i=>ev.contains i) vals (finZ P C N l m De al ev h k Q H0 vals) i rest a
end
section
variable {P : Program} {C : Ctx} {N : Nat} {l : List Oper} {m : Nat} {De : Nat → D} {al : AL} {pre : List (List Nat)} {ev : List Nat} {h : List (Nat × Blk)} {k : List (Nat × Value)} {Q : Exit → S → Prop} {tab : List (Option TI)} {bs : Nat → Nat} {i : Nat} {o : Oper} {rest : List Oper} {te : TE}
theorem Kg7 {p:List Nat}:∀ {te:TE} {j:Nat} {d:D},look (vis p te) j=some d→∃ d' o,look3 te j=some (d',o)∧((o=none∧d=d')∨(∃ e,o=some e∧p.contains e=true∧d=d')∨d=.any)
 | [],j,d,e=>by simp [vis,look] at e
 |
  (j0,d0,none)::te,j,d,e=>by
  simp only [vis,look,look3] at e ⊢;cases hb:Nat.beq j0 j with
  | true=>rw [hb] at e;simp at e;exact ⟨d0,none,by simp,.inl ⟨rfl,e.symm⟩⟩
  | false=>rw [hb] at e;simpa using Kg7 e
 |
  (j0,d0,some e0)::te,j,d,e=>by
  simp only [vis,look,look3] at e ⊢;cases hb:Nat.beq j0 j with
  |
   true=>
   rw [hb] at e;simp only [cond_true,Option.some.injEq] at e;refine ⟨d0,some e0,by simp,?_⟩;cases hp:p.contains e0 with
   | true=>rw [hp] at e;exact .inr (.inl ⟨e0,rfl,hp,e.symm⟩)
   | false=>rw [hp] at e;exact .inr (.inr e.symm)
  | false=>rw [hb] at e;simpa using Kg7 e
theorem KbJ {H0 H:Hp}{vals:Nat→Value}{a:Act}{p:List Nat}(hbs:∀ e,bs e=blk (vals e))(kt:TOKz De al ev H0 bs vals te a)(hle:H0.le H)
  (hev:∀ e,p.contains e=true→ev.contains e=true→(isAl al e=true→vals e=.pointer (some ⟨blk (vals e),0,none⟩))∧(isAl al e=false→Rep H (De e) (vals e))):TOK H (vis p te) a:=by
 intro j d e;obtain ⟨d',o,h1,h2⟩:=Kg7 e;obtain ⟨v,h3,h4,h5⟩:=kt j d' o h1;refine ⟨v,h3,?_⟩;rcases h2 with ⟨rfl,rfl⟩|⟨e0,rfl,hp,rfl⟩|rfl
 ·exact h4 rfl H hle
 ·obtain ⟨rfl,rfl,h6⟩:=h5 e0 rfl;have h7:=hev e0 hp h6;unfold dE;cases ha:isAl al e0 with
  | true=>simp only [cond_true];rw [h7.1 ha,hbs];exact Ka3 (by simp [RepC]) rfl rfl
  | false=>simp only [cond_false];exact h7.2 ha
 exact ⟨by simp [RepC],by cases v<;>rfl⟩
theorem TOKz.put {H0:Hp}{vals:Nat→Value}{a:Act}(kt:TOKz De al ev H0 bs vals te a){j:Nat}{d:D}{o:Option Nat}{v:Value}(hj:j < a.tmps.size)(h1:o=none→∀ H,H0.le H→Rep H d v)(h2:∀ e,o=some e→v=vals e∧d=dE De al bs e∧ev.contains e=true) :
  TOKz De al ev H0 bs vals ((j,d,o)::te) (a.put (some j) v):=by
 intro j' d' o' e;simp only [look3] at e;simp only [Act.put];cases hb:Nat.beq j j' with
 |
  true=>
  rw [hb] at e;simp at e;obtain ⟨rfl,rfl⟩:=e;have:=Nat.eq_of_beq_eq_true hb;subst this;exact ⟨v,by simp [hj],h1,h2⟩
 |
  false=>
  rw [hb] at e;simp at e;have hne:j ≠ j':=Nat.ne_of_beq_eq_false hb;obtain ⟨u,h3,h4⟩:=kt j' d' o' e;exact ⟨u,by rw [Array.getElem?_setIfInBounds_ne hne];exact h3,h4⟩
theorem Kb8 {H0:Hp}{vals:Nat→Value}{a:Act}(hbs:∀ e,bs e=blk (vals e))(kt:TOKz De al ev H0 bs vals te a):TOK H0 (vis [] te) a:=KbJ hbs kt (Hp.le_refl _) fun e he=>by simp at he
theorem z_nil {t':List (Nat×D)}{h':List (Nat×Blk)}(e1:vis ev te=t')(e2:(h++al.map fun x=>(bs x.1,Blk.cells x.2.1 x.2.2))=h')(hal:∀ e,isAl al e=true→ev.contains e=true)(g:opsD P C N l (l.drop m) ⟨t',h',k⟩ Q):Zw P C N l m De al pre ev h k Q bs i [] te:=by
 intro H0 vals a hbs kt hN hdf S w hS hC;obtain ⟨H,hle,c,hev⟩:=hC;subst e1;subst e2;refine g a w ⟨H,?_,KbJ hbs kt hle fun e _ he=>hev e (hS e he) he,hN,hdf⟩;rw [KdP fun e he=>hS e (hal e he)] at c;have:(fun x:Nat×List D×TypeId=>(bs x.1,Blk.cells x.2.1 x.2.2))=fun x=>(blk (vals x.1),Blk.cells x.2.1 x.2.2):=by funext x;rw [hbs]
 rw [this];exact c
theorem z_skip {j:Nat}(hw:wantD l (vis [] te) o=some false)(hd:o.dst=some j)(hi:Nat.blt j N=true)(hne:ev.contains i=false)(g:Zw P C N l m De al pre ev h k Q bs (i+1) rest ((j,.v (.tuple #[]),none)::te)):Zw P C N l m De al pre ev h k Q bs i (o::rest) te:=by
 intro H0 vals a hbs kt hN hdf;refine ⟨undef,?_,?_⟩
 ·unfold Jx.OK;rw [Ka9 (Kb8 hbs kt) hw,if_neg (by simp)];exact ⟨rfl,fun he=>by have he':ev.contains i=true:=he;rw [hne] at he';cases he'⟩
 rw [hd];refine g H0 vals _ hbs (kt.put (by rw [hN];simpa using hi) (fun _ H _=>⟨by simp [RepC,undef,Value.cells],rfl⟩) (fun e he=>by cases he)) ?_ hdf;simp only [Act.put,Array.size_setIfInBounds];exact hN
theorem z_quiet {j:Nat}{x:Value}{p:List Nat}(hp:pre.getD i []=p)(hw:wantD l (vis [] te) o=some true)(hd:o.dst=some j)(hi:Nat.blt j N=true)(hne:ev.contains i=false)(hone:one x=true)(_hpe:p.all ev.contains=true)
  (hx:∀ hh H a w,Core C H (h++hh) k w→TOK H (vis p te) a→∃ v,(execOp a.eval o).run P w=.ok (.value v) w∧Rep H (.v x) v)
  (g:Zw P C N l m De al pre ev h k Q bs (i+1) rest ((j,.v x,none)::te)):Zw P C N l m De al pre ev h k Q bs i (o::rest) te:=by
 intro H0 vals a hbs kt hN hdf;refine ⟨x,?_,?_⟩
 ·unfold Jx.OK;rw [Ka9 (Kb8 hbs kt) hw,if_pos rfl,if_neg (by show ¬ ev.contains i=true;rw [hne];exact Bool.false_ne_true)];rintro S w ⟨H,hle,c,hev⟩ hpS;replace hpS:∀ k∈pre.getD i [],S k=true:=hpS;rw [hp] at hpS;obtain ⟨v,h1,h2⟩:=hx _ H a w c (KbJ hbs kt hle fun e he he2=>hev e (hpS e (by simpa using he)) he2);rw [Kac h2] at h1;exact h1
 rw [hd];refine g H0 vals _ hbs (kt.put (by rw [hN];simpa using hi) (fun _ H _=>rep_v hone) (fun e he=>by cases he)) ?_ hdf;simp only [Act.put,Array.size_setIfInBounds];exact hN
theorem z_event {j:Nat}{p:List Nat}{d:D}(hp:pre.getD i []=p)(hw:wantD l (vis [] te) o=some true)(hd:o.dst=some j)(hi:Nat.blt j N=true)(he:ev.contains i=true)(hna:isAl al i=false)(hDe:De i=d)
  (hx:∀ hh H a w,Core C H (h++hh) k w→TOK H (vis p te) a→Jx.Gives P o a w fun v w'=>∃ H',H.le H'∧Core ⟨H,w,[]⟩ H' [] [] w'∧Rep H' d v)
  (g:Zw P C N l m De al pre ev h k Q bs (i+1) rest ((j,d,some i)::te)):Zw P C N l m De al pre ev h k Q bs i (o::rest) te:=by
 intro H0 vals a hbs kt hN hdf;subst hDe;refine ⟨vals i,?_,?_⟩
 ·unfold Jx.OK;rw [Ka9 (Kb8 hbs kt) hw,if_pos rfl,if_pos he];refine ⟨rfl,?_⟩;rintro S w ⟨H,hle,c,hev⟩ hSi hpS;replace hpS:∀ k∈pre.getD i [],S k=true:=hpS;rw [hp] at hpS;refine (hx _ H a w c (KbJ hbs kt hle fun e he he2=>hev e (hpS e (by simpa using he)) he2)).mono ?_;rintro v w' ⟨H',hle',c',hr⟩;have hal:Kau al (Jx.upd S i true) (Jx.upd vals i v)=Kau al S vals:=Kbc fun e hea=>by
   have:e ≠ i:=fun q=>by rw [q,hna] at hea;cases hea
   exact ⟨Jx.upd_ne _ _ this,fun _=>Jx.upd_ne _ _ this⟩
  refine ⟨H',Hp.le_trans hle hle',?_,fun e hes hee=>?_⟩
  ·rw [hal];have:=Core.call (h1:=[]) (k1:=[]) (h2:=h++Kau al S vals) (k2:=k) c c';simpa using this
  by_cases hei:e=i
  ·subst hei;rw [Jx.upd_same];exact ⟨fun q=>(by rw [hna] at q;cases q),fun _=>hr⟩
  rw [Jx.upd_ne _ _ hei] at hes ⊢;exact ⟨(hev e hes hee).1,fun q=>((hev e hes hee).2 q).mono hle'⟩
 rw [hd];refine g H0 vals _ hbs (kt.put (by rw [hN];simpa using hi) (fun q=>by cases q) (fun e q=>?_)) ?_ hdf
 ·cases q;exact ⟨rfl,by unfold dE;rw [hna];rfl,he⟩
 simp only [Act.put,Array.size_setIfInBounds];exact hN
def Kda:List (Nat×D)→TE
 | []=>[]
 | (j,d)::t=>(j,d,none)::Kda t
theorem KdQ:∀ {t:List (Nat×D)} {j:Nat} {d:D} {o:Option Nat},look3 (Kda t) j=some (d,o)→look t j=some d∧o=none
 | [],j,d,o,e=>by simp [Kda,look3] at e
 |
  (j0,d0)::t,j,d,o,e=>by
  simp only [Kda,look3,look] at e ⊢;cases hb:Nat.beq j0 j with
  | true=>rw [hb] at e;simp at e;exact ⟨by simp [e.1],e.2.symm⟩
  | false=>rw [hb] at e;simpa using KdQ e
theorem wpD_drawn {id:Nat}{t:List (Nat×D)}(m:Nat)(De:Nat→D)(al:AL)(pre:List (List Nat))(ev:List Nat)(tp:List (List Nat))(hfo:P.follows .mixedOrders=true)(hsl:Jx.slotsB l.toArray=true)
  (hp:Jx.preB l.toArray (fun i=>pre.getD i [])=true) (hpe:pre.all (·.all ev.contains)=true) (hev:ev.all (· < (l.take m).length)=true) (hsuf:Jx.sufB l.toArray tp (l.take m).length=true)
  (hwalk:∀ bs,Zw P C N l m De al pre ev h k Q bs 0 (l.take m) (Kda t)):wpD P C N (.region id l.toArray true) ⟨t,h,k⟩ Q:=by
 rintro a w ⟨H,c,kt,hN,hdf⟩;have key:=Jx.region_any (P:=P) (Q:=QD C N Q) (id:=id) (w:=w) (a0:=a) (l1:=l.take m) (l2:=l.drop m) (Cz C De al ev h k H) (fun i=>pre.getD i []) (fun i=>ev.contains i) tp hfo (by rw [List.take_append_drop];exact hsl) (by rw [List.take_append_drop];exact hp) ?_ ?_
  (by rw [List.take_append_drop];exact hsuf) ?_ ?_ ?_
 ·rw [List.take_append_drop] at key;exact key
 ·intro i k hk;rw [List.all_eq_true] at hpe;by_cases hi:i < pre.length
  ·have e:pre.getD i []=pre[i]:=by simp [hi]
   rw [e] at hk;exact List.all_eq_true.1 (hpe _ (List.getElem_mem hi)) k hk
  have e:pre.getD i []=[]:=by simp [Nat.le_of_not_lt hi]
  rw [e] at hk;cases hk
 ·intro i hi;rw [List.all_eq_true] at hev;simpa using hev i (by simpa using hi)
 ·rintro S vals vals' w hv ⟨H',hle,c',hr⟩;refine ⟨H',hle,?_,fun e hes hee=>?_⟩
  ·rw [← Kbc (S:=S) (S':=S) (vals:=vals) (vals':=vals') fun e _=>⟨rfl,hv e⟩];exact c'
  rw [← hv e hes];exact hr e hes hee
 ·intro vals;refine ⟨H,Hp.le_refl H,?_,fun e he=>by cases he⟩;rw [Kdl,List.append_nil];exact c.drew
 intro vals;rw [List.take_append_drop];exact hwalk (fun e=>blk (vals e)) H vals a (fun _=>rfl) (fun j d o e=>by
  obtain ⟨h1,h2⟩:=KdQ e;obtain ⟨v,h3,h4⟩:=kt j d h1;exact ⟨v,h3,fun _ H' hle=>h4.mono hle,fun e he=>by rw [h2] at he;cases he⟩) hN hdf
end
end
section
open Go
set_option linter.all false
def ExDs:List Nat→((Nat→D)→Prop)→Prop
 | [],G=>G fun _=>.any
 | e::es,G=>∃ d,ExDs es fun f=>G fun x=>bif Nat.beq x e then d else f x
theorem KfA:∀ {es:List Nat} {G:(Nat→D)→Prop},ExDs es G→∃ De,G De
 | [],_,h=>⟨_,h⟩
 | _::_,_,⟨_,h⟩=>let ⟨_,h2⟩:=KfA h;⟨_,h2⟩
theorem bycB {p:Prop}(b:Bool)(h1:b=true→p)(h2:b=false→p):p:=by
 cases b
 ·exact h2 rfl
 exact h1 rfl
section
variable {P : Program} {C : Ctx} {N : Nat} {l : List Oper} {m : Nat} {De : Nat → D} {al : AL} {pre : List (List Nat)} {ev : List Nat} {h : List (Nat × Blk)} {k : List (Nat × Value)} {Q : Exit → S → Prop} {tab : List (Option TI)} {bs : Nat → Nat} {i : Nat} {o : Oper} {rest : List Oper} {te : TE}
theorem Kad {id:Nat}{t:List (Nat×D)}(m:Nat)(al:AL)(pre:List (List Nat))(ev:List Nat)(tp:List (List Nat))(hfo:P.follows .mixedOrders=true)(hsl:Jx.slotsB l.toArray=true)
  (hp:Jx.preB l.toArray (fun i=>pre.getD i [])=true) (hpe:pre.all (·.all ev.contains)=true) (hev:ev.all (· < (l.take m).length)=true) (hsuf:Jx.sufB l.toArray tp (l.take m).length=true)
  (hwalk:ExDs ev fun De=>∀ bs,Zw P C N l m De al pre ev h k Q bs 0 (l.take m) (Kda t)):wpD P C N (.region id l.toArray true) ⟨t,h,k⟩ Q:=by
 obtain ⟨De,hw⟩:=KfA hwalk;exact wpD_drawn m De al pre ev tp hfo hsl hp hpe hev hsuf hw
abbrev Ex (P:Program)(o:Oper)(t:List (Nat×D))(d:D):Prop:=∀ H a w,TOK H t a→∃ v,(execOp a.eval o).run P w=.ok (.value v) w∧Rep H d v
theorem KX {t:List (Nat×D)}{d:D}(hT:TabOK P tab)(e:evP tab t o.op=some d):Ex P o t d:=fun _ _ _ kt=>evP_ok hT kt e
theorem z_q {j:Nat}{x:Value}{p:List Nat}{t:List (Nat×D)}(hp:pre.getD i []=p)(ht:vis p te=t)(hx:Ex P o t (.v x))(hw:wantD l (vis [] te) o=some true)(hd:o.dst=some j)(hi:Nat.blt j N=true)(hne:ev.contains i=false)(hone:one x=true)(hpe:p.all ev.contains=true)
  (g:Zw P C N l m De al pre ev h k Q bs (i+1) rest ((j,.v x,none)::te)):Zw P C N l m De al pre ev h k Q bs i (o::rest) te:=
 z_quiet hp hw hd hi hne hone hpe (fun _ H a w _ kt=>hx H a w (ht ▸ kt)) g
theorem z_e {j:Nat}{p:List Nat}{t:List (Nat×D)}{d:D}(hp:pre.getD i []=p)(ht:vis p te=t)(hx:Ex P o t d)(hw:wantD l (vis [] te) o=some true)(hd:o.dst=some j)(hi:Nat.blt j N=true)(he:ev.contains i=true)(hna:isAl al i=false)(hDe:De i=d)
  (g:Zw P C N l m De al pre ev h k Q bs (i+1) rest ((j,d,some i)::te)):Zw P C N l m De al pre ev h k Q bs i (o::rest) te:=
 z_event hp hw hd hi he hna hDe (fun _ H a w c kt=>by
  obtain ⟨v,h1,h2⟩:=hx H a w (ht ▸ kt);unfold Jx.Gives;rw [h1];exact ⟨H,Hp.le_refl H,Core.here c.ag,h2⟩) g
abbrev ExM (P:Program)(C:Ctx)(h:List (Nat×Blk))(k:List (Nat×Value))(o:Oper)(t:List (Nat×D))(d:D):Prop:=∀ hh H a w,Core C H (h++hh) k w→TOK H t a→∃ v,(execOp a.eval o).run P w=.ok (.value v) w∧Rep H d v
theorem z_qM {j:Nat}{x:Value}{p:List Nat}{t:List (Nat×D)}(hp:pre.getD i []=p)(ht:vis p te=t)(hx:ExM P C h k o t (.v x))(hw:wantD l (vis [] te) o=some true)(hd:o.dst=some j)(hi:Nat.blt j N=true)(hne:ev.contains i=false)(hone:one x=true)(hpe:p.all ev.contains=true)
  (g:Zw P C N l m De al pre ev h k Q bs (i+1) rest ((j,.v x,none)::te)):Zw P C N l m De al pre ev h k Q bs i (o::rest) te:=
 z_quiet hp hw hd hi hne hone hpe (fun hh H a w c kt=>hx hh H a w c (ht ▸ kt)) g
theorem z_eM {j:Nat}{p:List Nat}{t:List (Nat×D)}{d:D}(hp:pre.getD i []=p)(ht:vis p te=t)(hx:ExM P C h k o t d)(hw:wantD l (vis [] te) o=some true)(hd:o.dst=some j)(hi:Nat.blt j N=true)(he:ev.contains i=true)(hna:isAl al i=false)(hDe:De i=d)
  (g:Zw P C N l m De al pre ev h k Q bs (i+1) rest ((j,d,some i)::te)):Zw P C N l m De al pre ev h k Q bs i (o::rest) te:=
 z_event hp hw hd hi he hna hDe (fun hh H a w c kt=>by
  obtain ⟨v,h1,h2⟩:=hx hh H a w c (ht ▸ kt);unfold Jx.Gives;rw [h1];exact ⟨H,Hp.le_refl H,Core.here c.ag,h2⟩) g
theorem KJ {b off:Nat}{T T':TypeId}{x:Operand}{t:List (Nat×D)}{ds:List D}{ti0:TI}{d:D}(j:Nat)(hT:TabOK P tab)(ho:o.op=.load T x)(hx:opD t x=some (.ptr b off))(hb:h[j]? = some (b,.cells ds T'))(hTi:ti tab T=some ti0)(e:partD ti0 ds off=some d):ExM P C h k o t d:=
 fun hh H a w c kt=>by
  obtain ⟨us,h1,h2,h3⟩:=c.blks _ (List.mem_append_left _ (List.mem_of_getElem? hb));obtain ⟨v,h4,h5⟩:=KdM (P:=P) (T:=T) (n:=off) (ti_ok hT hTi) (Kfe h1) h2 e;refine ⟨v,?_,h5⟩;unfold execOp;rw [ho];refine Kbk ?_;rw [KbV (K4 kt hx)];rwa [Nat.zero_add] at h4
theorem Kw {T:TypeId}{x:Operand}{t:List (Nat×D)}{d0 d:D}{ti0:TI}(hT:TabOK P tab)(ho:o.op=.load T x)(hx:opD t x=some (.el d0))(hTi:ti tab T=some ti0)(e:partD ti0 (KR d0) 0=some d)(hne:(KR d0).isEmpty=false):ExM P C h k o t d:=
 fun hh H a w c kt=>by
  obtain ⟨b,off,vs,h1,h2,h3,h4⟩:=KeA (K4 kt hx);obtain ⟨v,h5,h6⟩:=KdM (P:=P) (T:=T) (n:=0) (ti_ok hT hTi) (h3.row c.ag) (Khm (by intro e;rw [e] at hne;cases hne) h2 h4) e;refine ⟨v,?_,h6⟩;unfold execOp;rw [ho];exact Kbk (by rw [h1];exact h5)
theorem Kby {f:FuncId}{args:List Operand}{ts:Array TypeId}{j:Nat}{p:List Nat}{t:List (Nat×D)}{ds ds':List D}{d:D}(hp:pre.getD i []=p)(ht:vis p te=t)(hc:CallsD P f ds' [] [] (fun d' h k=>d'=d∧h=[]∧k=[]))(ho:o.op=.call ⟨.value (.func f),args.toArray,ts⟩)
  (ha:KbQ args (opD t)=some ds) (hwk:WkL ds ds') (hw:wantD l (vis [] te) o=some true) (hd:o.dst=some j) (hi:Nat.blt j N=true) (he:ev.contains i=true) (hna:isAl al i=false) (hDe:De i=d)
  (g:Zw P C N l m De al pre ev h k Q bs (i+1) rest ((j,d,some i)::te)):Zw P C N l m De al pre ev h k Q bs i (o::rest) te:=
 z_event hp hw hd hi he hna hDe (fun hh H a w c kt=>by
  subst ht;unfold Jx.Gives;rw [Kd5 ho hc.1];simp only [];have hv:=hwk H _ (Kca kt ha);rw [List.map_toArray];refine (hc.2 H w _ hv c.ag (by simp) (by simp) (by simp [KO,K6])).mono ?_;rintro e w' ⟨v,H',d',h',k',rfl,hr,hcore,rfl,rfl,rfl⟩;exact ⟨v,rfl,H',hcore.le,hcore,hr⟩) g
theorem KV {j:Nat}{b b':Bool}(hl:look3 te j=some (.v (.bool b),none))(e:b=b')(g:Zw P C N l m De al pre ev h k Q bs i rest ((j,.v (.bool b'),none)::te)):Zw P C N l m De al pre ev h k Q bs i rest te:=by
 subst e;intro H0 vals a hbs kt hN hdf;refine g H0 vals a hbs (fun j' d o e=>?_) hN hdf;simp only [look3] at e;cases hb:Nat.beq j j' with
 |
  true=>
  rw [hb] at e;simp at e;obtain ⟨rfl,rfl⟩:=e;have:=Nat.eq_of_beq_eq_true hb;subst this;exact kt _ _ _ hl
 | false=>rw [hb] at e;exact kt j' d o (by simpa using e)
end
end
section
open Go
set_option linter.all false
def WkS (C:Ctx)(s s':S):Prop:=∀ H a w,Core C H s.h s.k w→TOK H s.t a→∃ H',H.le H'∧Core C H' s'.h s'.k w∧TOK H' s'.t a
theorem look_cons {t:List (Nat×D)}{j i:Nat}{d0 d:D}{p:Prop}(h:look ((j,d0)::t) i=some d)(h1:i=j→d=d0→p)(h2:look t i=some d→p):p:=by
 simp only [look] at h;cases hb:Nat.beq j i with
 | true=>rw [hb] at h;simp at h;exact h1 (Nat.eq_of_beq_eq_true hb).symm h.symm
 | false=>rw [hb] at h;exact h2 (by simpa using h)
theorem WkS.nil {t:List (Nat×D)}:∀ i d,look [] i=some d→∃ d0,look t i=some d0∧Wk d0 d:=fun i d h=>by simp [look] at h
theorem WkS.cons {t t':List (Nat×D)}{j:Nat}{d0 d1:D}(h0:look t j=some d0)(hw:Wk d0 d1)(g:∀ i d,look t' i=some d→∃ d0,look t i=some d0∧Wk d0 d):∀ i d,look ((j,d1)::t') i=some d→∃ d0,look t i=some d0∧Wk d0 d:=
 fun i d h=>look_cons h (fun e1 e2=>⟨d0,e1 ▸ h0,e2 ▸ hw⟩) (g i d)
theorem Wk.of_eq {d d':D}(h:d=d'):Wk d d':=h ▸ Wk.refl d
section
variable {P : Program} {C : Ctx} {N : Nat} {ops rest : List Oper} {o : Oper} {t : List (Nat × D)} {h : List (Nat × Blk)} {k : List (Nat × Value)} {Q : Exit → S → Prop} {tab : List (Option TI)}
end
end
section
open Go
set_option linter.all false
structure Hv where
 e:Nat
 h1:Value→List (Nat×Blk)
 k1:Value→List (Nat×Value)
 d:Value→D
section
variable (P : Program) (C : Ctx) (N : Nat) (l : List Oper) (m : Nat) (De : Nat → D) (al : AL) (pre : List (List Nat)) (ev : List Nat) (v : Hv) (h : List (Nat × Blk)) (k : List (Nat × Value)) (Q : Exit → S → Prop)
def dH (x:Value)(e:Nat):D:=bif Nat.beq e v.e then v.d x else De e
def Ch (H0:Hp)(S:Nat→Bool)(vals:Nat→Value)(w:World):Prop:=
 ∃
  H,H0.le H∧(∀ e,S e=true→ev.contains e=true→∀ p∈pre.getD e [],S p=true)∧Core C H ((bif S v.e then v.h1 (vals v.e) else h)++Kau al S vals) (bif S v.e then v.k1 (vals v.e) else k) w ∧
  ∀ e,S e=true→ev.contains e=true→(isAl al e=true→vals e=.pointer (some ⟨blk (vals e),0,none⟩))∧(isAl al e=false→Rep H (dH De v (vals v.e) e) (vals e))
def finH (H0:Hp)(vals:Nat→Value)(a:Act):Prop:=∀ S w,(∀ i,ev.contains i=true→S i=true)→Ch C De al pre ev v h k H0 S vals w→wpList P l.toArray (QD C N Q) (l.drop m) a w
def Zh (bs:Nat→Nat)(y:Value)(i:Nat)(rest:List Oper)(te:TE):Prop:=
 ∀
  H0 vals a,(∀ e,bs e=blk (vals e))→y=vals v.e→TOKz (dH De v y) al ev H0 bs vals te a→a.tmps.size=N→a.defers=[] →
  Jx.Lx P l.toArray (Ch C De al pre ev v h k H0) (fun i=>pre.getD i []) (fun i=>ev.contains i) vals (finH P C N l m De al pre ev v h k Q H0 vals) i rest a
end
section
variable {P : Program} {C : Ctx} {N : Nat} {l : List Oper} {m : Nat} {De : Nat → D} {al : AL} {pre : List (List Nat)} {ev : List Nat} {v : Hv} {h : List (Nat × Blk)} {k : List (Nat × Value)} {Q : Exit → S → Prop} {tab : List (Option TI)} {bs : Nat → Nat} {y : Value} {i : Nat} {o : Oper} {rest : List Oper} {te : TE}
theorem Kc1 {t':List (Nat×D)}{h':List (Nat×Blk)}{k':List (Nat×Value)}(e1:vis ev te=t')(e2:(v.h1 y++al.map fun x=>(bs x.1,Blk.cells x.2.1 x.2.2))=h')(e3:v.k1 y=k')(hv:ev.contains v.e=true)(hal:∀ e,isAl al e=true→ev.contains e=true)(g:opsD P C N l (l.drop m) ⟨t',h',k'⟩ Q):Zh P C N l m De al pre ev v h k Q bs y i [] te:=by
 intro H0 vals a hbs hy kt hN hdf S w hS hC;obtain ⟨H,hle,_,c,hev⟩:=hC;subst e1;subst e2;subst e3;subst hy;have hse:=hS _ hv;rw [hse] at c;simp only [cond_true] at c;refine g a w ⟨H,?_,KbJ hbs kt hle fun e _ he=>hev e (hS e he) he,hN,hdf⟩;rw [KdP fun e he=>hS e (hal e he)] at c;have:(fun x:Nat×List D×TypeId=>(bs x.1,Blk.cells x.2.1 x.2.2))=fun x=>(blk (vals x.1),Blk.cells x.2.1 x.2.2):=by funext x;rw [hbs]
 rw [this];exact c
theorem zh_q {j:Nat}{x:Value}{p:List Nat}{t:List (Nat×D)}(hp:pre.getD i []=p)(ht:vis p te=t)(hx:Ex P o t (.v x))(hw:wantD l (vis [] te) o=some true)(hd:o.dst=some j)(hi:Nat.blt j N=true)(hne:ev.contains i=false)(hone:one x=true)(_hpe:p.all ev.contains=true)
  (g:Zh P C N l m De al pre ev v h k Q bs y (i+1) rest ((j,.v x,none)::te)):Zh P C N l m De al pre ev v h k Q bs y i (o::rest) te:=by
 intro H0 vals a hbs hy kt hN hdf;refine ⟨x,?_,?_⟩
 ·unfold Jx.OK;rw [Ka9 (Kb8 hbs kt) hw,if_pos rfl,if_neg (by show ¬ ev.contains i=true;rw [hne];exact Bool.false_ne_true)];rintro S w ⟨H,hle,_,c,hev⟩ hpS;replace hpS:∀ k∈pre.getD i [],S k=true:=hpS;rw [hp] at hpS;obtain ⟨r,h1,h2⟩:=hx H a w (ht ▸ KbJ hbs kt hle fun e he he2=>hy ▸ hev e (hpS e (by simpa using he)) he2);rw [Kac h2] at h1;exact h1
 rw [hd];refine g H0 vals _ hbs hy (kt.put (by rw [hN];simpa using hi) (fun _ H _=>rep_v hone) (fun e he=>by cases he)) ?_ hdf;simp only [Act.put,Array.size_setIfInBounds];exact hN
theorem Kdb {S:Nat→Bool}(hdn:∀ e,S e=true→ev.contains e=true→∀ p∈pre.getD e [],S p=true)(hpS:∀ k∈pre.getD i [],S k=true):∀ e,Jx.upd S i true e=true→ev.contains e=true→∀ p∈pre.getD e [],Jx.upd S i true p=true:=by
 intro e he hee p hp;by_cases hpi:p=i
 ·rw [hpi,Jx.upd_same]
 rw [Jx.upd_ne _ _ hpi];by_cases hei:e=i
 ·subst hei;exact hpS p hp
 rw [Jx.upd_ne _ _ hei] at he;exact hdn e he hee p hp
theorem Kg8 {j:Nat}{p:List Nat}{t:List (Nat×D)}{d:D}(hp:pre.getD i []=p)(ht:vis p te=t)
  (hx0:p.contains v.e=false→∀ hh H a w,Core C H (h++hh) k w→TOK H t a→Jx.Gives P o a w fun r w'=>∃ H',Core ⟨H,w,[]⟩ H' [] [] w'∧Rep H' d r)
  (hx1:(pre.getD v.e []).contains i=false→∀ hh H a w,Core C H (v.h1 y++hh) (v.k1 y) w→TOK H t a→Jx.Gives P o a w fun r w'=>∃ H',Core ⟨H,w,[]⟩ H' [] [] w'∧Rep H' d r)
  (hw:wantD l (vis [] te) o=some true) (hd:o.dst=some j) (hi:Nat.blt j N=true) (he:ev.contains i=true) (hev0:ev.contains v.e=true) (hna:isAl al i=false) (hnv:Nat.beq i v.e=false) (hDe:De i=d)
  (g:Zh P C N l m De al pre ev v h k Q bs y (i+1) rest ((j,d,some i)::te)):Zh P C N l m De al pre ev v h k Q bs y i (o::rest) te:=by
 intro H0 vals a hbs hy kt hN hdf;subst hDe;have hne:i ≠ v.e:=Nat.ne_of_beq_eq_false hnv;refine ⟨vals i,?_,?_⟩
 ·unfold Jx.OK;rw [Ka9 (Kb8 hbs kt) hw,if_pos rfl,if_pos he];refine ⟨rfl,?_⟩;rintro S w ⟨H,hle,hdn,c,hev⟩ hSi hpS;replace hpS:∀ k∈pre.getD i [],S k=true:=hpS;have hpS':=hpS;rw [hp] at hpS;have htok:=ht ▸ KbJ hbs kt hle fun e he he2=>hy ▸ hev e (hpS e (by simpa using he)) he2
  have key:Jx.Gives P o a w fun r w'=>∃ H',Core ⟨H,w,[]⟩ H' [] [] w'∧Rep H' (De i) r:=by
   cases hs:S v.e with
   |
    false=>
    rw [hs] at c;refine hx0 ?_ _ H a w c htok;cases hc:p.contains v.e with
    | false=>rfl
    | true=>rw [hpS v.e (by simpa using hc)] at hs;cases hs
   |
    true=>
    rw [hs] at c;rw [← hy] at c;refine hx1 ?_ _ H a w c htok;cases hc:(pre.getD v.e []).contains i with
    | false=>rfl
    |
     true=>
     have hm:i∈pre.getD v.e []:=by
      rw [List.contains_iff_exists_mem_beq] at hc;obtain ⟨z,hz,hb⟩:=hc;have:i=z:=by simpa using hb
      rw [this];exact hz
     rw [hdn v.e hs hev0 i hm] at hSi;cases hSi
  refine key.mono ?_;rintro r w' ⟨H',c',hr⟩;have hal:Kau al (Jx.upd S i true) (Jx.upd vals i r)=Kau al S vals:=Kbc fun e hea=>by
   have:e ≠ i:=fun q=>by rw [q,hna] at hea;cases hea
   exact ⟨Jx.upd_ne _ _ this,fun _=>Jx.upd_ne _ _ this⟩
  refine ⟨H',Hp.le_trans hle c'.le,Kdb hdn hpS',?_,fun e hes hee=>?_⟩
  ·rw [hal,Jx.upd_ne _ _ (Ne.symm hne),Jx.upd_ne _ _ (Ne.symm hne)];have:=Core.call (h1:=[]) (k1:=[]) c c';exact this
  rw [Jx.upd_ne _ _ (Ne.symm hne)];by_cases hei:e=i
  ·subst hei;rw [Jx.upd_same];refine ⟨fun q=>(by rw [hna] at q;cases q),fun _=>?_⟩;unfold dH;rw [hnv];exact hr
  rw [Jx.upd_ne _ _ hei] at hes ⊢;exact ⟨(hev e hes hee).1,fun q=>((hev e hes hee).2 q).mono c'.le⟩
 rw [hd];refine g H0 vals _ hbs hy (kt.put (by rw [hN];simpa using hi) (fun q=>by cases q) (fun e q=>?_)) ?_ hdf
 ·cases q;exact ⟨rfl,by unfold dE dH;rw [hna,hnv];rfl,he⟩
 simp only [Act.put,Array.size_setIfInBounds];exact hN
theorem Kb9 {a:Act}{w w':World}{r:Value}{K:Value→World→Prop}(h1:(execOp a.eval o).run P w=.ok (.value r) w')(hk:K r w'):Jx.Gives P o a w K:=by
 unfold Jx.Gives;rw [h1];exact hk
theorem zh_e {j:Nat}{p:List Nat}{t:List (Nat×D)}{d:D}(hp:pre.getD i []=p)(ht:vis p te=t)(hx:Ex P o t d)(hw:wantD l (vis [] te) o=some true)(hd:o.dst=some j)(hi:Nat.blt j N=true)(he:ev.contains i=true)(hev0:ev.contains v.e=true)(hna:isAl al i=false)(hnv:Nat.beq i v.e=false)(hDe:De i=d)
  (g:Zh P C N l m De al pre ev v h k Q bs y (i+1) rest ((j,d,some i)::te)):Zh P C N l m De al pre ev v h k Q bs y i (o::rest) te:=
 Kg8 hp ht (fun _ _ H a w c kt=>let ⟨_,h1,h2⟩:=hx H a w kt;Kb9 h1 ⟨H,Core.here c.ag,h2⟩) (fun _ _ H a w c kt=>let ⟨_,h1,h2⟩:=hx H a w kt;Kb9 h1 ⟨H,Core.here c.ag,h2⟩) hw hd hi he hev0 hna hnv hDe g
theorem zh_E {j:Nat}{p:List Nat}{t:List (Nat×D)}{d:D}(hp:pre.getD i []=p)(ht:vis p te=t)(hx:ExE P o t d)(hw:wantD l (vis [] te) o=some true)(hd:o.dst=some j)(hi:Nat.blt j N=true)(he:ev.contains i=true)(hev0:ev.contains v.e=true)(hna:isAl al i=false)(hnv:Nat.beq i v.e=false)(hDe:De i=d)
  (g:Zh P C N l m De al pre ev v h k Q bs y (i+1) rest ((j,d,some i)::te)):Zh P C N l m De al pre ev v h k Q bs y i (o::rest) te:=
 Kg8 hp ht (fun _ _ H a w c kt=>let ⟨_,_,H',h1,h2,h3⟩:=hx H a w c.ag kt;Kb9 h1 ⟨H',h2,h3⟩) (fun _ _ H a w c kt=>let ⟨_,_,H',h1,h2,h3⟩:=hx H a w c.ag kt;Kb9 h1 ⟨H',h2,h3⟩) hw hd hi he hev0 hna hnv hDe g
theorem zh_M {j:Nat}{p:List Nat}{t:List (Nat×D)}{d:D}(hp:pre.getD i []=p)(ht:vis p te=t)(hx0:p.contains v.e=false→ExM P C h k o t d)(hx1:(pre.getD v.e []).contains i=false→ExM P C (v.h1 y) (v.k1 y) o t d)(hw:wantD l (vis [] te) o=some true)(hd:o.dst=some j)(hi:Nat.blt j N=true)(he:ev.contains i=true)(hev0:ev.contains v.e=true)(hna:isAl al i=false)(hnv:Nat.beq i v.e=false)(hDe:De i=d)
  (g:Zh P C N l m De al pre ev v h k Q bs y (i+1) rest ((j,d,some i)::te)):Zh P C N l m De al pre ev v h k Q bs y i (o::rest) te:=
 Kg8 hp ht (fun q hh H a w c kt=>let ⟨_,h1,h2⟩:=hx0 q hh H a w c kt;Kb9 h1 ⟨H,Core.here c.ag,h2⟩) (fun q hh H a w c kt=>let ⟨_,h1,h2⟩:=hx1 q hh H a w c kt;Kb9 h1 ⟨H,Core.here c.ag,h2⟩) hw hd hi he hev0 hna hnv hDe g
theorem offB {b:Bool}{p:Prop}(hb:b=true):b=false→p:=fun q=>by rw [hb] at q;cases q
theorem zh_heavy {p:List Nat}{t:List (Nat×D)}(hp:pre.getD i []=p)(ht:vis p te=t)(hiv:i=v.e)
  (hx:∀ hh H a w,Core C H (h++hh) k w→TOK H t a→Jx.Gives P o a w fun r w'=>∃ H',H.le H'∧Core C H' (v.h1 r++hh) (v.k1 r) w'∧Rep H' (v.d r) r)
  (hw:wantD l (vis [] te) o=some true) (he:ev.contains i=true) (hna:isAl al i=false) {te':TE} (hd:(∃ j,o.dst=some j∧Nat.blt j N=true∧te'=(j,v.d y,some i)::te)∨(o.dst=none∧te'=te))
  (g:Zh P C N l m De al pre ev v h k Q bs y (i+1) rest te'):Zh P C N l m De al pre ev v h k Q bs y i (o::rest) te:=by
 subst hiv;intro H0 vals a hbs hy kt hN hdf;refine ⟨vals v.e,?_,?_⟩
 ·unfold Jx.OK;rw [Ka9 (Kb8 hbs kt) hw,if_pos rfl,if_pos he];refine ⟨rfl,?_⟩;rintro S w ⟨H,hle,hdn,c,hev⟩ hSi hpS;replace hpS:∀ k∈pre.getD v.e [],S k=true:=hpS;have hpS':=hpS;rw [hp] at hpS;have htok:=ht ▸ KbJ hbs kt hle fun e he he2=>hy ▸ hev e (hpS e (by simpa using he)) he2
  rw [hSi] at c;refine (hx _ H a w c htok).mono ?_;rintro r w' ⟨H',hle',c',hr⟩;have hal:Kau al (Jx.upd S v.e true) (Jx.upd vals v.e r)=Kau al S vals:=Kbc fun e hea=>by
   have:e ≠ v.e:=fun q=>by rw [q,hna] at hea;cases hea
   exact ⟨Jx.upd_ne _ _ this,fun _=>Jx.upd_ne _ _ this⟩
  refine ⟨H',Hp.le_trans hle hle',Kdb hdn hpS',?_,fun e hes hee=>?_⟩
  ·rw [hal,Jx.upd_same,Jx.upd_same];exact c'
  rw [Jx.upd_same];by_cases hei:e=v.e
  ·subst hei;rw [Jx.upd_same];refine ⟨fun q=>(by rw [hna] at q;cases q),fun _=>?_⟩;unfold dH;rw [Nat.beq_refl];exact hr
  rw [Jx.upd_ne _ _ hei] at hes ⊢;refine ⟨(hev e hes hee).1,fun q=>?_⟩;have:=((hev e hes hee).2 q).mono hle';have hb:Nat.beq e v.e=false:=by
   cases hb:Nat.beq e v.e with
   | false=>rfl
   | true=>exact absurd (Nat.eq_of_beq_eq_true hb) hei
  unfold dH at this ⊢;rw [hb] at this ⊢;exact this
 rcases hd with ⟨j,hd,hi,rfl⟩|⟨hd,rfl⟩
 ·rw [hd];refine g H0 vals _ hbs hy (kt.put (by rw [hN];simpa using hi) (fun q=>by cases q) (fun e q=>?_)) ?_ hdf
  ·cases q;exact ⟨rfl,by unfold dE dH;rw [hna,Nat.beq_refl];rfl,he⟩
  simp only [Act.put,Array.size_setIfInBounds];exact hN
 rw [hd];exact g H0 vals _ hbs hy kt hN hdf
theorem KhX {id:Nat}{t:List (Nat×D)}(m:Nat)(al:AL)(pre:List (List Nat))(ev:List Nat)(tp:List (List Nat))(v:Hv)(hfo:P.follows .mixedOrders=true)(hsl:Jx.slotsB l.toArray=true)
  (hp:Jx.preB l.toArray (fun i=>pre.getD i [])=true) (hpe:pre.all (·.all ev.contains)=true) (hev:ev.all (· < (l.take m).length)=true) (hsuf:Jx.sufB l.toArray tp (l.take m).length=true)
  (hwalk:ExDs ev fun De=>∀ bs y,Zh P C N l m De al pre ev v h k Q bs y 0 (l.take m) (Kda t)):wpD P C N (.region id l.toArray true) ⟨t,h,k⟩ Q:=by
 obtain ⟨De,hwalk⟩:=KfA hwalk;rintro a w ⟨H,c,kt,hN,hdf⟩;have key:=Jx.region_any (P:=P) (Q:=QD C N Q) (id:=id) (w:=w) (a0:=a) (l1:=l.take m) (l2:=l.drop m) (Ch C De al pre ev v h k H) (fun i=>pre.getD i []) (fun i=>ev.contains i) tp hfo (by rw [List.take_append_drop];exact hsl) (by rw [List.take_append_drop];exact hp) ?_ ?_
  (by rw [List.take_append_drop];exact hsuf) ?_ ?_ ?_
 ·rw [List.take_append_drop] at key;exact key
 ·intro i k hk;rw [List.all_eq_true] at hpe;by_cases hi:i < pre.length
  ·have e:pre.getD i []=pre[i]:=by simp [hi]
   rw [e] at hk;exact List.all_eq_true.1 (hpe _ (List.getElem_mem hi)) k hk
  have e:pre.getD i []=[]:=by simp [Nat.le_of_not_lt hi]
  rw [e] at hk;cases hk
 ·intro i hi;rw [List.all_eq_true] at hev;simpa using hev i (by simpa using hi)
 ·rintro S vals vals' w hv ⟨H',hle,hdn,c',hr⟩;have hb:(bif S v.e then v.h1 (vals v.e) else h)=(bif S v.e then v.h1 (vals' v.e) else h)∧(bif S v.e then v.k1 (vals v.e) else k)=(bif S v.e then v.k1 (vals' v.e) else k):=by
   cases hs:S v.e with
   | false=>exact ⟨rfl,rfl⟩
   | true=>rw [hv _ hs];exact ⟨rfl,rfl⟩
  refine ⟨H',hle,hdn,?_,fun e hes hee=>?_⟩
  ·rw [← Kbc (S:=S) (S':=S) (vals:=vals) (vals':=vals') fun e _=>⟨rfl,hv e⟩,← hb.1,← hb.2];exact c'
  rw [← hv e hes];refine ⟨(hr e hes hee).1,fun q=>?_⟩;have:=(hr e hes hee).2 q;unfold dH at this ⊢;cases hq:Nat.beq e v.e with
  | false=>rw [hq] at this;exact this
  |
   true=>
   rw [hq] at this;have e2:=Nat.eq_of_beq_eq_true hq;rw [← hv v.e (e2 ▸ hes)];exact this
 ·intro vals;refine ⟨H,Hp.le_refl H,(fun e he=>by cases he),?_,fun e he=>by cases he⟩;rw [Kdl,List.append_nil];exact c.drew
 intro vals;rw [List.take_append_drop];exact hwalk (fun e=>blk (vals e)) (vals v.e) H vals a (fun _=>rfl) rfl (fun j d o e=>by
  obtain ⟨h1,h2⟩:=KdQ e;obtain ⟨r,h3,h4⟩:=kt j d h1;exact ⟨r,h3,fun _ H' hle=>h4.mono hle,fun e he=>by rw [h2] at he;cases he⟩) hN hdf
end
end
section
open Go
set_option linter.all false
section
variable {P : Program} {C : Ctx} {N : Nat} {l ops rest : List Oper} {m : Nat} {De : Nat → D} {al : AL} {pre : List (List Nat)} {ev : List Nat} {h : List (Nat × Blk)} {k : List (Nat × Value)} {Q : Exit → S → Prop} {tab : List (Option TI)} {bs : Nat → Nat} {y : Value} {i : Nat} {o : Oper} {te : TE} {t : List (Nat × D)}
theorem zh_app {kk bb:Nat}{T T' e e':TypeId}{x z:Operand}{xs ys zs:List D}{c c':Cap}{i0 i1 ie:TI}{k1 k2:List (Nat×Value)}{p:List Nat}{j:Nat}(hT:TabOK P tab)(hp:pre.getD i []=p)(ht:vis p te=t)(ho:o.op=.call ⟨.builtin .append,[x,z].toArray,#[T,T']⟩)(hw:wantD l (vis [] te) o=some true)(hd:o.dst=some j)(hi:Nat.blt j N=true)(he:ev.contains i=true)(hna:isAl al i=false)
  (hx:∀ H a,TOK H t a→Rep H (.lst kk xs c) (a.eval x)) (hy:opD t z=some (.lst kk ys c')) (hk1:∀ H a,TOK H t a→(k1=[]∧c=.full)∨(k1=[(kk,a.eval x)]∧c=.cur (a.eval x))) (hkk:k.Perm (k1++k2))
  (hi0:ti tab T=some i0) (hd0:i0.d=.slice e) (hi1:ti tab T'=some i1) (hd1:i1.d=.slice e') (hie:ti tab e=some ie) (hks:ie.size=kk) (hbb:ie.bytes=bb) (hz:ie.zero.length=kk) (hb1:Nat.ble 1 bb=true) (hbound:(xs.length+ys.length)*bb≤140737488355328) (hzs:xs++ys=zs)
  (g:Zh P C N l m De al pre ev ⟨i,fun _=>h,fun y=>(kk,y)::k2,fun y=>.lst kk zs (.cur y)⟩ h k Q bs y (i+1) rest ((j,.lst kk zs (.cur y),some i)::te)) :
  Zh P C N l m De al pre ev ⟨i,fun _=>h,fun y=>(kk,y)::k2,fun y=>.lst kk zs (.cur y)⟩ h k Q bs y i (o::rest) te:=by
 subst hzs;refine zh_heavy hp ht rfl ?_ hw he hna (.inl ⟨j,hd,hi,rfl⟩) g;intro hh H a w core kt;obtain ⟨v,w',H',h1,h2,h3,h4⟩:=app_run (P:=P) (ty:=o.type) hT (core.perm (List.Perm.refl _) hkk) (hk1 H a kt) (hx H a kt) (K4 kt hy) hi0 hd0 hi1 hd1 hie hks hbb hz (Nat.le_of_ble_eq_true hb1) hbound;exact Kb9 (Kcx (s:=Builtin.append_) ho (fun _ _=>rfl) (by simpa using h1)) ⟨H',h2,h3,h4⟩
theorem app_kC {x:Operand}{kk:Nat}{xs:List D}{v0:Value}(hx:opD t x=some (.lst kk xs (.cur v0))):∀ H a,TOK H t a→([(kk,v0)]=([]:List (Nat×Value))∧Cap.cur v0=.full)∨([(kk,v0)]=[(kk,a.eval x)]∧Cap.cur v0=.cur (a.eval x)):=fun H a kt=>by
 have:=(Kbd (K4 kt hx)).1;simp only [CapOK] at this;rw [this];exact .inr ⟨rfl,rfl⟩
theorem rep_of {d:D}{x:Operand}(hx:opD t x=some d):∀ H a,TOK H t a→Rep H d (a.eval x):=fun _ _ kt=>K4 kt hx
theorem wpD_app {id:Nat}(m:Nat)(al:AL)(pre:List (List Nat))(ev:List Nat)(tp:List (List Nat))(e0 kk j:Nat)(hfo:P.follows .mixedOrders=true)(hsl:Jx.slotsB l.toArray=true)
  (hp:Jx.preB l.toArray (fun i=>pre.getD i [])=true) (hpe:pre.all (·.all ev.contains)=true) (hev:ev.all (· < (l.take m).length)=true) (hsuf:Jx.sufB l.toArray tp (l.take m).length=true)
  {k2:List (Nat×Value)} (_hk2:k.eraseIdx j=k2)
  (hwalk:∃ zs,ExDs ev fun De=>∀ bs y,Zh P C N l m De al pre ev ⟨e0,fun _=>h,fun y=>(kk,y)::k2,fun y=>.lst kk zs (.cur y)⟩ h k Q bs y 0 (l.take m) (Kda t)):wpD P C N (.region id l.toArray true) ⟨t,h,k⟩ Q:=
 let ⟨zs,hwalk⟩:=hwalk;KhX m al pre ev tp ⟨e0,fun _=>h,fun y=>(kk,y)::k2,fun y=>.lst kk zs (.cur y)⟩ hfo hsl hp hpe hev hsuf hwalk
theorem Kcy {b off:Nat}{T T':TypeId}{x z:Operand}{ds ds':List D}{ti0:TI}{d:D}{p:List Nat}{h':List (Nat×Blk)}(j:Nat)(hT:TabOK P tab)(hp:pre.getD i []=p)(ht:vis p te=t)(ho:o.op=.store T x z)(hw:wantD l (vis [] te) o=some true)(hd:o.dst=none)(he:ev.contains i=true)(hna:isAl al i=false)
  (hx:opD t x=some (.ptr b off)) (hb:h[j]? = some (b,.cells ds T')) (hti:ti tab T=some ti0) (hy:opD t z=some d) (hs:stor d=true) (hsz:Nat.beq (KR d).length ti0.size=true) (hle:Nat.ble (off+ti0.size) ds.length=true)
  (e1:lay ds off (KR d)=ds') (e2:h.set j (b,.cells ds' T')=h')
  (g:Zh P C N l m De al pre ev ⟨i,fun _=>h',fun _=>k,fun _=>.any⟩ h k Q bs y (i+1) rest te):Zh P C N l m De al pre ev ⟨i,fun _=>h',fun _=>k,fun _=>.any⟩ h k Q bs y i (o::rest) te:=by
 subst e1;subst e2;refine zh_heavy hp ht rfl ?_ hw he hna (.inr ⟨hd,rfl⟩) g;intro hh H a w c kt;have hjl:j < h.length:=(List.getElem?_eq_some_iff.1 hb).1;have hb2:(h++hh)[j]? = some (b,.cells ds T'):=by rw [List.getElem?_append_left hjl];exact hb
 obtain ⟨us,h1,h2,h3⟩:=c.blks _ (List.mem_of_getElem? hb2);have hv:=KdN hs (K4 kt hy);have hlen:=KbF hv;have hlen2:=KbF h2;have q1:=Nat.eq_of_beq_eq_true hsz;have q2:=Nat.le_of_ble_eq_true hle;obtain ⟨w',h4,henv,h5,h6,h7⟩:=Kcr (P:=P) (b:=b) (off:=off) (a.eval z).cells.toList 0 w us h1 (by omega) (Kds hv);have hrun:(Instr.storeAt T (a.eval x) (a.eval z)).run P w=.ok () w':=by
  rw [KbV (K4 kt hx)];unfold Instr.storeAt;rw [Kv (a:=(⟨b,off,none⟩:Addr)) rfl];unfold storeVar;rw [Kv (KbS (ti_ok hT hti)),if_neg (by simp only [Array.length_toList] at hlen;omega)];exact h4
 have hex:(execOp a.eval o).run P w=.ok .skip w':=by
  unfold execOp;rw [ho];show ((Instr.storeAt T (a.eval x) (a.eval z)) >>= fun _=>pure Next.skip).run P w=_
  rw [Kv hrun];rfl
 unfold Jx.Gives;rw [hex];have cw:=c.write hb2 henv h5 h6 h7 (by simpa using Kf2 h2 hv off);rw [List.set_append_left _ _ hjl] at cw;exact ⟨H,Hp.le_refl H,cw,by simp only [Rep,RepC];exact ⟨trivial,rfl⟩⟩
theorem Kcd {id:Nat}(m:Nat)(al:AL)(pre:List (List Nat))(ev:List Nat)(tp:List (List Nat))(e0:Nat)(hfo:P.follows .mixedOrders=true)(hsl:Jx.slotsB l.toArray=true)
  (hp:Jx.preB l.toArray (fun i=>pre.getD i [])=true) (hpe:pre.all (·.all ev.contains)=true) (hev:ev.all (· < (l.take m).length)=true) (hsuf:Jx.sufB l.toArray tp (l.take m).length=true)
  (hwalk:∃ h',ExDs ev fun De=>∀ bs y,Zh P C N l m De al pre ev ⟨e0,fun _=>h',fun _=>k,fun _=>.any⟩ h k Q bs y 0 (l.take m) (Kda t)):wpD P C N (.region id l.toArray true) ⟨t,h,k⟩ Q:=
 let ⟨h',hwalk⟩:=hwalk;KhX m al pre ev tp ⟨e0,fun _=>h',fun _=>k,fun _=>.any⟩ hfo hsl hp hpe hev hsuf hwalk
end
section
variable {P : Program} {C : Ctx} {N : Nat} {l : List Oper} {m : Nat} {De : Nat → D} {al : AL} {pre : List (List Nat)} {ev : List Nat} {h : List (Nat × Blk)} {k : List (Nat × Value)} {Q : Exit → S → Prop} {bs : Nat → Nat} {i : Nat} {o : Oper} {rest : List Oper} {te : TE}
end
section
variable {P : Program} {C : Ctx} {N : Nat} {l : List Oper} {m : Nat} {De : Nat → D} {al : AL} {pre : List (List Nat)} {ev : List Nat} {h : List (Nat × Blk)} {k : List (Nat × Value)} {Q : Exit → S → Prop} {bs : Nat → Nat} {i : Nat} {o : Oper} {rest : List Oper} {te : TE}
theorem z_event2 {j:Nat}{p:List Nat}{d:D}(hp:pre.getD i []=p)(hw:wantD l (vis [] te) o=some true)(hd:o.dst=some j)(hi:Nat.blt j N=true)(he:ev.contains i=true)(hna:isAl al i=false)(hDe:De i=d)
  (hx:∀ hh H a w,Core C H (h++hh) k w→TOK H (vis p te) a→Jx.Gives P o a w fun v w'=>∃ H',H.le H'∧Core C H' (h++hh) k w'∧Rep H' d v)
  (g:Zw P C N l m De al pre ev h k Q bs (i+1) rest ((j,d,some i)::te)):Zw P C N l m De al pre ev h k Q bs i (o::rest) te:=by
 intro H0 vals a hbs kt hN hdf;subst hDe;refine ⟨vals i,?_,?_⟩
 ·unfold Jx.OK;rw [Ka9 (Kb8 hbs kt) hw,if_pos rfl,if_pos he];refine ⟨rfl,?_⟩;rintro S w ⟨H,hle,c,hev⟩ hSi hpS;replace hpS:∀ k∈pre.getD i [],S k=true:=hpS;rw [hp] at hpS;refine (hx _ H a w c (KbJ hbs kt hle fun e he he2=>hev e (hpS e (by simpa using he)) he2)).mono ?_;rintro v w' ⟨H',hle',c',hr⟩;have hal:Kau al (Jx.upd S i true) (Jx.upd vals i v)=Kau al S vals:=Kbc fun e hea=>by
   have:e ≠ i:=fun q=>by rw [q,hna] at hea;cases hea
   exact ⟨Jx.upd_ne _ _ this,fun _=>Jx.upd_ne _ _ this⟩
  refine ⟨H',Hp.le_trans hle hle',by rw [hal];exact c',fun e hes hee=>?_⟩;by_cases hei:e=i
  ·subst hei;rw [Jx.upd_same];exact ⟨fun q=>(by rw [hna] at q;cases q),fun _=>hr⟩
  rw [Jx.upd_ne _ _ hei] at hes ⊢;exact ⟨(hev e hes hee).1,fun q=>((hev e hes hee).2 q).mono hle'⟩
 rw [hd];refine g H0 vals _ hbs (kt.put (by rw [hN];simpa using hi) (fun q=>by cases q) (fun e q=>?_)) ?_ hdf
 ·cases q;exact ⟨rfl,by unfold dE;rw [hna];rfl,he⟩
 simp only [Act.put,Array.size_setIfInBounds];exact hN
theorem z_callB {f:FuncId}{args:List Operand}{ts:Array TypeId}{j:Nat}{p:List Nat}{t:List (Nat×D)}{ds ds':List D}{d:D}{x:Nat×Blk}(b:Nat)(hp:pre.getD i []=p)(ht:vis p te=t)(hc:CallsD P f ds' [x] [] (fun d' h k=>d'=d∧h=[x]∧k=[]))(ho:o.op=.call ⟨.value (.func f),args.toArray,ts⟩)
  (ha:KbQ args (opD t)=some ds) (hwk:WkL ds ds') (hb:h[b]? = some x) (hw:wantD l (vis [] te) o=some true) (hd:o.dst=some j) (hi:Nat.blt j N=true) (he:ev.contains i=true) (hna:isAl al i=false) (hDe:De i=d)
  (g:Zw P C N l m De al pre ev h k Q bs (i+1) rest ((j,d,some i)::te)):Zw P C N l m De al pre ev h k Q bs i (o::rest) te:=
 z_event2 hp hw hd hi he hna hDe (fun hh H a w c kt=>by
  subst ht;unfold Jx.Gives;rw [Kd5 ho hc.1];simp only [];have hv:=hwk H _ (Kca kt ha);rw [List.map_toArray];have hbl:b < h.length:=(List.getElem?_eq_some_iff.1 hb).1;have hb2:(h++hh)[b]? = some x:=by rw [List.getElem?_append_left hbl];exact hb
  have c1:=c.perm (KU hb2) (List.Perm.refl k);have hblk:=c.blks _ (List.mem_of_getElem? hb2);have nd:=(Kb3 [x] ((h++hh).eraseIdx b) [] k).nodup_iff.1 (by simpa using c1.nd);rw [List.nodup_append] at nd;refine (hc.2 H w _ hv c.ag (by simpa using hblk) (by simp) nd.1).mono ?_;rintro e w' ⟨v,H',d',h',k',rfl,hr,hcore,rfl,rfl,rfl⟩;refine ⟨v,rfl,H',hcore.le,?_,hr⟩;have c2:=Core.call (h1:=[x]) (k1:=[]) (h2:=(h++hh).eraseIdx b) (k2:=k) c1 hcore;exact c2.perm (KU hb2).symm (List.Perm.refl k)) g
end
theorem Kg9 {H:Hp}{d:D}:∀ {ds:List D} {us:List Value} (off:Nat) {u:Value},Reps H ds us→us[off]? = some u→(RepC H d [u]∧d.flat=true)→Reps H (ds.set off d) us
 | [],us,off,u,h,e,_=>by simp only [Reps] at h;subst h;simp at e
 |
  d0::ds,us,off,u,h,e,hd=>by
  simp only [Reps] at h;obtain ⟨u0,us',rfl,h1,h2⟩:=h;cases off with
  |
   zero=>
   simp only [List.getElem?_cons_zero,Option.some.injEq] at e;subst e;simp only [List.set_cons_zero,Reps];exact ⟨u0,us',rfl,⟨hd.1,h1.2.1,hd.2⟩,h2⟩
  |
   succ off=>
   simp only [List.getElem?_cons_succ] at e;simp only [List.set_cons_succ,Reps];exact ⟨u0,us',rfl,h1,Kg9 off h2 e hd⟩
section
variable {P : Program} {C : Ctx} {N : Nat} {ops rest : List Oper} {o : Oper} {h : List (Nat × Blk)} {k : List (Nat × Value)} {Q : Exit → S → Prop} {tab : List (Option TI)} {t : List (Nat × D)}
end
end
section
open Go
set_option linter.all false
abbrev FL:=List (Nat×Nat×List D)
def isF (fl:FL)(i:Nat):Bool:=fl.any fun x=>Nat.beq x.2.1 i
def KbY (fl:FL)(S:Nat→Bool)(e:Nat)(zs:List D):List D:=
 match fl with
 | []=>zs
 | (a,s,ds)::fl=>bif Nat.beq a e && S s then ds else KbY fl S e zs
def alS (fl:FL)(S:Nat→Bool)(al:AL):AL:=al.map fun x=>(x.1,KbY fl S x.1 x.2.1,x.2.2)
theorem Kf4 {fl:FL}{S:Nat→Bool}{al:AL}{e:Nat}:isAl (alS fl S al) e=isAl al e:=by
 unfold isAl alS;rw [List.any_map];rfl
theorem Khp {S:Nat→Bool}{i e:Nat}{zs:List D}:∀ {fl:FL},isF fl i=false→KbY fl (Jx.upd S i true) e zs=KbY fl S e zs
 | [],_=>rfl
 |
  (a,s,ds)::fl,h=>by
  unfold isF at h;simp only [List.any_cons,Bool.or_eq_false_iff] at h;have hs:s ≠ i:=Nat.ne_of_beq_eq_false h.1;unfold KbY;rw [Jx.upd_ne _ _ hs,Khp (fl:=fl) h.2]
theorem alS_upd {fl:FL}{S:Nat→Bool}{al:AL}{i:Nat}(h:isF fl i=false):alS fl (Jx.upd S i true) al=alS fl S al:=by
 unfold alS;exact List.map_congr_left fun x _=>by rw [Khp h]
theorem KgB {S:Nat→Bool}{e:Nat}{zs:List D}:∀ {fl:FL},(∀ x∈fl,x.1=e→S x.2.1=false)→KbY fl S e zs=zs
 | [],_=>rfl
 |
  (a,s,ds)::fl,h=>by
  unfold KbY;have ih:=KgB (fl:=fl) (zs:=zs) (S:=S) (e:=e) fun x hx=>h x (by simp [hx])
  cases hb:Nat.beq a e with
  | false=>simpa using ih
  |
   true=>
   have:=h (a,s,ds) (by simp) (Nat.eq_of_beq_eq_true hb);simp only at this;rw [this];simpa using ih
theorem Khq {S:Nat→Bool}{vals:Nat→Value}{e:Nat}{d1 d2:List D}{T:TypeId}(hS:S e=true):∀ {al1 al2:AL},al1.length=al2.length→(∀ (j:Nat) (x y:Nat×List D×TypeId),al1[j]? = some x→al2[j]? = some y→x.1=y.1∧x.2.2=y.2.2∧(x.1 ≠ e→x=y)∧(x.1=e→x=(e,d1,T)∧y=(e,d2,T)))→(al1.map (·.1)).Nodup→isAl al1 e=true →
  ∃ j,(Kau al1 S vals)[j]? = some (blk (vals e),.cells d1 T)∧Kau al2 S vals=(Kau al1 S vals).set j (blk (vals e),.cells d2 T)
 | [],_,_,_,_,h=>by cases h
 | _::_,[],h,_,_,_=>by cases h
 |
  (e1,c1,T1)::l1,(e2,c2,T2)::l2,hl,hc,hn,hi=>by
  have h0:=hc 0 _ _ rfl rfl;simp only at h0;obtain ⟨rfl,q2,q3,q4⟩:=h0;simp only [List.map_cons,List.nodup_cons] at hn;have hrest:∀ (j:Nat) (x y:Nat×List D×TypeId),l1[j]? = some x→l2[j]? = some y→x.1=y.1∧x.2.2=y.2.2∧(x.1 ≠ e→x=y)∧(x.1=e→x=(e,d1,T)∧y=(e,d2,T)):=fun j x y hx hy=>hc (j+1) x y (by simpa using hx) (by simpa using hy)
  have hlen:l1.length=l2.length:=by simpa using hl
  by_cases he:e1=e
  ·obtain ⟨q5,q6⟩:=q4 he;simp only [Prod.mk.injEq] at q5 q6;obtain ⟨_,rfl,rfl⟩:=q5;obtain ⟨_,rfl,rfl⟩:=q6;subst he;have same:l1=l2:=by
    apply List.ext_getElem? ;intro j;cases hx:l1[j]? with
    | none=>rw [List.getElem?_eq_none_iff] at hx;rw [List.getElem?_eq_none_iff.2 (by omega)]
    |
     some x=>
     obtain ⟨hjl,hxe⟩:=List.getElem?_eq_some_iff.1 hx;have hy:l2[j]? = some (l2[j]'(by omega)):=List.getElem?_eq_getElem _;have:=(hrest j x _ hx hy).2.2.1 fun q=>hn.1 (List.mem_map.2 ⟨x,List.mem_of_getElem? hx,q⟩)
     rw [hy,this]
   subst same;refine ⟨0,?_,?_⟩
   ·simp only [Kau,hS,cond_true];rfl
   simp only [Kau,hS,cond_true];rfl
  have q5:=q3 he;simp only [Prod.mk.injEq,true_and] at q5;obtain ⟨rfl,rfl⟩:=q5;have hi':isAl l1 e=true:=by
   unfold isAl at hi ⊢;simp only [List.any_cons,Bool.or_eq_true,beq_iff_eq] at hi ⊢;rcases hi with h|h
   ·exact absurd h he
   exact h
  obtain ⟨j,j1,j2⟩:=Khq (vals:=vals) hS hlen hrest hn.2 hi';cases hs:S e1 with
  |
   true=>
   refine ⟨j+1,?_,?_⟩
   ·simp only [Kau,hs,cond_true,List.getElem?_cons_succ];exact j1
   simp only [Kau,hs,cond_true,List.set_cons_succ,j2]
  |
   false=>
   refine ⟨j,?_,?_⟩
   ·simp only [Kau,hs,cond_false];exact j1
   simp only [Kau,hs,cond_false];exact j2
section
variable (P : Program) (C : Ctx) (N : Nat) (l : List Oper) (m : Nat) (De : Nat → D) (al : AL) (fl : FL) (pre : List (List Nat)) (ev : List Nat) (h : List (Nat × Blk)) (k : List (Nat × Value)) (Q : Exit → S → Prop)
def Cf (H0:Hp)(S:Nat→Bool)(vals:Nat→Value)(w:World):Prop:=
 ∃ H,H0.le H∧(∀ e,S e=true→ev.contains e=true→∀ p∈pre.getD e [],S p=true)∧Core C H (h++Kau (alS fl S al) S vals) k w∧∀ e,S e=true→ev.contains e=true→(isAl al e=true→vals e=.pointer (some ⟨blk (vals e),0,none⟩))∧(isAl al e=false→Rep H (De e) (vals e))
def finF (H0:Hp)(vals:Nat→Value)(a:Act):Prop:=∀ S w,(∀ i,ev.contains i=true→S i=true)→Cf C De al fl pre ev h k H0 S vals w→wpList P l.toArray (QD C N Q) (l.drop m) a w
def Zf (bs:Nat→Nat)(i:Nat)(rest:List Oper)(te:TE):Prop:=
 ∀
  H0 vals a,(∀ e,bs e=blk (vals e))→TOKz De al ev H0 bs vals te a→a.tmps.size=N→a.defers=[] →
  Jx.Lx P l.toArray (Cf C De al fl pre ev h k H0) (fun i=>pre.getD i []) (fun i=>ev.contains i) vals (finF P C N l m De al fl pre ev h k Q H0 vals) i rest a
end
section
variable {P : Program} {C : Ctx} {N : Nat} {l : List Oper} {m : Nat} {De : Nat → D} {al : AL} {fl : FL} {pre : List (List Nat)} {ev : List Nat} {h : List (Nat × Blk)} {k : List (Nat × Value)} {Q : Exit → S → Prop} {tab : List (Option TI)} {bs : Nat → Nat} {i : Nat} {o : Oper} {rest : List Oper} {te : TE}
theorem zf_nil {t':List (Nat×D)}{h':List (Nat×Blk)}(e1:vis ev te=t')(e2:(h++(alS fl (fun _=>true) al).map fun x=>(bs x.1,Blk.cells x.2.1 x.2.2))=h')(hfe:fl.all (fun x=>ev.contains x.2.1)=true)(hal:∀ e,isAl al e=true→ev.contains e=true)(g:opsD P C N l (l.drop m) ⟨t',h',k⟩ Q):Zf P C N l m De al fl pre ev h k Q bs i [] te:=by
 intro H0 vals a hbs kt hN hdf S w hS hC;obtain ⟨H,hle,_,c,hev⟩:=hC;subst e1;subst e2;refine g a w ⟨H,?_,KbJ hbs kt hle fun e _ he=>hev e (hS e he) he,hN,hdf⟩;have hcl:alS fl S al=alS fl (fun _=>true) al:=by
  unfold alS;refine List.map_congr_left fun x _=>?_
  have:∀ fl:FL,fl.all (fun x=>ev.contains x.2.1)=true→KbY fl S x.1 x.2.1=KbY fl (fun _=>true) x.1 x.2.1:=by
   intro fl;induction fl with
   | nil=>intro _;rfl
   |
    cons y fl ih=>
    intro hy;simp only [List.all_cons,Bool.and_eq_true] at hy;obtain ⟨ya,ys,yd⟩:=y;unfold KbY;rw [ih hy.2,hS ys hy.1]
  rw [this fl hfe]
 rw [hcl] at c;rw [KdP fun e he=>hS e (hal e (by rw [Kf4] at he;exact he))] at c;have:(fun x:Nat×List D×TypeId=>(bs x.1,Blk.cells x.2.1 x.2.2))=fun x=>(blk (vals x.1),Blk.cells x.2.1 x.2.2):=by funext x;rw [hbs]
 rw [this];exact c
theorem zf_quiet {j:Nat}{x:Value}{p:List Nat}(hp:pre.getD i []=p)(hw:wantD l (vis [] te) o=some true)(hd:o.dst=some j)(hi:Nat.blt j N=true)(hne:ev.contains i=false)(hone:one x=true)(_hpe:p.all ev.contains=true)
  (hx:∀ hh H a w,Core C H (h++hh) k w→TOK H (vis p te) a→∃ v,(execOp a.eval o).run P w=.ok (.value v) w∧Rep H (.v x) v)
  (g:Zf P C N l m De al fl pre ev h k Q bs (i+1) rest ((j,.v x,none)::te)):Zf P C N l m De al fl pre ev h k Q bs i (o::rest) te:=by
 intro H0 vals a hbs kt hN hdf;refine ⟨x,?_,?_⟩
 ·unfold Jx.OK;rw [Ka9 (Kb8 hbs kt) hw,if_pos rfl,if_neg (by show ¬ ev.contains i=true;rw [hne];exact Bool.false_ne_true)];rintro S w ⟨H,hle,_,c,hev⟩ hpS;replace hpS:∀ k∈pre.getD i [],S k=true:=hpS;rw [hp] at hpS;obtain ⟨v,h1,h2⟩:=hx _ H a w c (KbJ hbs kt hle fun e he he2=>hev e (hpS e (by simpa using he)) he2);rw [Kac h2] at h1;exact h1
 rw [hd];refine g H0 vals _ hbs (kt.put (by rw [hN];simpa using hi) (fun _ H _=>rep_v hone) (fun e he=>by cases he)) ?_ hdf;simp only [Act.put,Array.size_setIfInBounds];exact hN
theorem KhY {S:Nat→Bool}{vals:Nat→Value}{r:Value}(hna:isAl al i=false)(hnf:isF fl i=false):Kau (alS fl (Jx.upd S i true) al) (Jx.upd S i true) (Jx.upd vals i r)=Kau (alS fl S al) S vals:=by
 rw [alS_upd hnf];refine Kbc fun e hea=>?_
 rw [Kf4] at hea;have:e ≠ i:=fun q=>by rw [q,hna] at hea;cases hea
 exact ⟨Jx.upd_ne _ _ this,fun _=>Jx.upd_ne _ _ this⟩
theorem Kha {j:Nat}{p:List Nat}{d:D}(hp:pre.getD i []=p)(hw:wantD l (vis [] te) o=some true)(hd:o.dst=some j)(hi:Nat.blt j N=true)(he:ev.contains i=true)(hna:isAl al i=false)(hnf:isF fl i=false)(hDe:De i=d)
  (hx:∀ hh H a w,Core C H (h++hh) k w→TOK H (vis p te) a→Jx.Gives P o a w fun v w'=>∃ H',H.le H'∧Core ⟨H,w,[]⟩ H' [] [] w'∧Rep H' d v)
  (g:Zf P C N l m De al fl pre ev h k Q bs (i+1) rest ((j,d,some i)::te)):Zf P C N l m De al fl pre ev h k Q bs i (o::rest) te:=by
 intro H0 vals a hbs kt hN hdf;subst hDe;refine ⟨vals i,?_,?_⟩
 ·unfold Jx.OK;rw [Ka9 (Kb8 hbs kt) hw,if_pos rfl,if_pos he];refine ⟨rfl,?_⟩;rintro S w ⟨H,hle,hdn,c,hev⟩ hSi hpS;replace hpS:∀ k∈pre.getD i [],S k=true:=hpS;have hpS':=hpS;rw [hp] at hpS;refine (hx _ H a w c (KbJ hbs kt hle fun e he he2=>hev e (hpS e (by simpa using he)) he2)).mono ?_;rintro v w' ⟨H',hle',c',hr⟩;refine ⟨H',Hp.le_trans hle hle',Kdb hdn hpS',?_,fun e hes hee=>?_⟩
  ·rw [KhY hna hnf];have:=Core.call (h1:=[]) (k1:=[]) (h2:=h++Kau (alS fl S al) S vals) (k2:=k) c c';simpa using this
  by_cases hei:e=i
  ·subst hei;rw [Jx.upd_same];exact ⟨fun q=>(by rw [hna] at q;cases q),fun _=>hr⟩
  rw [Jx.upd_ne _ _ hei] at hes ⊢;exact ⟨(hev e hes hee).1,fun q=>((hev e hes hee).2 q).mono hle'⟩
 rw [hd];refine g H0 vals _ hbs (kt.put (by rw [hN];simpa using hi) (fun q=>by cases q) (fun e q=>?_)) ?_ hdf
 ·cases q;exact ⟨rfl,by unfold dE;rw [hna];rfl,he⟩
 simp only [Act.put,Array.size_setIfInBounds];exact hN
theorem zf_new {j:Nat}{p:List Nat}{ds:List D}{T:TypeId}(hp:pre.getD i []=p)(hw:wantD l (vis [] te) o=some true)(hd:o.dst=some j)(hi:Nat.blt j N=true)(he:ev.contains i=true)(hnf:isF fl i=false)(hfp:fl.all (fun x=>ev.contains x.2.1 && (!Nat.beq x.1 i || (pre.getD x.2.1 []).any (Nat.beq i)))=true)(hia:(i,ds,T)∈al)(hnd:(al.map (·.1)).Nodup)
  (hx:∀ hh H a w,Core C H (h++hh) k w→TOK H (vis p te) a→∃ us,(execOp a.eval o).run P w=.ok (.value (.pointer (some ⟨w.heap.size,0,none⟩))) (w.alloc (.cells (List.toArray us) T))∧Reps H ds us)
  (g:Zf P C N l m De al fl pre ev h k Q bs (i+1) rest ((j,.ptr (bs i) 0,some i)::te)):Zf P C N l m De al fl pre ev h k Q bs i (o::rest) te:=by
 intro H0 vals a hbs kt hN hdf;have hisal:isAl al i=true:=List.any_eq_true.2 ⟨_,hia,by simp⟩;refine ⟨vals i,?_,?_⟩
 ·unfold Jx.OK;rw [Ka9 (Kb8 hbs kt) hw,if_pos rfl,if_pos he];refine ⟨rfl,?_⟩;rintro S w ⟨H,hle,hdn,c,hev⟩ hSi hpS;replace hpS:∀ k∈pre.getD i [],S k=true:=hpS;have hpS':=hpS;rw [hp] at hpS;obtain ⟨us,h1,h2⟩:=hx _ H a w c (KbJ hbs kt hle fun e he he2=>hev e (hpS e (by simpa using he)) he2);unfold Jx.Gives;rw [h1];refine ⟨H,hle,Kdb hdn hpS',?_,fun e hes hee=>?_⟩
  ·have c':=c.alloc T h2;refine c'.perm ?_ (List.Perm.refl _);rw [List.append_assoc,alS_upd hnf];have hz:KbY fl S i ds=ds:=KgB fun x hx hxi=>by
    have:=List.all_eq_true.1 hfp x hx;simp only [Bool.and_eq_true,Bool.or_eq_true,Bool.not_eq_true'] at this;obtain ⟨q1,q2⟩:=this;rcases q2 with q2|q2
    ·exact absurd hxi (Nat.ne_of_beq_eq_false q2)
    cases hs:S x.2.1 with
    | false=>rfl
    |
     true=>
     obtain ⟨z,hz1,hz2⟩:=List.any_eq_true.1 q2;have:=hdn x.2.1 hs q1 z hz1;rw [← Nat.eq_of_beq_eq_true hz2,hSi] at this;cases this
   have hin:(i,ds,T)∈alS fl S al:=by
    unfold alS;exact List.mem_map.2 ⟨_,hia,by simp only [hz]⟩
   have hnd':((alS fl S al).map (·.1)).Nodup:=by
    unfold alS;rw [List.map_map];exact hnd
   exact List.Perm.append_left h (Kho (v:=.pointer (some ⟨w.heap.size,0,none⟩)) (vals:=vals) hSi hin hnd').symm
  by_cases hei:e=i
  ·subst hei;rw [Jx.upd_same];exact ⟨fun _=>rfl,fun q=>(by rw [hisal] at q;cases q)⟩
  rw [Jx.upd_ne _ _ hei] at hes ⊢;exact hev e hes hee
 rw [hd];refine g H0 vals _ hbs (kt.put (by rw [hN];simpa using hi) (fun q=>by cases q) (fun e q=>?_)) ?_ hdf
 ·cases q;exact ⟨rfl,by unfold dE;rw [hisal];rfl,he⟩
 simp only [Act.put,Array.size_setIfInBounds];exact hN
theorem Khr {S:Nat→Bool}{e i:Nat}{zs:List D}:∀ {fl:FL},fl.all (fun x=>Nat.beq x.1 e==Nat.beq x.2.1 i)=true→KbY fl (Jx.upd S i true) e zs=KbY fl (fun s=>Nat.beq s i) e zs
 | [],_=>rfl
 |
  (a,s,ds)::fl,h=>by
  simp only [List.all_cons,Bool.and_eq_true,beq_iff_eq] at h;unfold KbY;rw [Khr (fl:=fl) h.2];cases hb:Nat.beq a e with
  | false=>rfl
  |
   true=>
   have:=Nat.eq_of_beq_eq_true (h.1.symm.trans hb);subst this;rw [Jx.upd_same,Nat.beq_refl]
theorem Khs {S:Nat→Bool}{e e' i:Nat}{zs:List D}(hne:e' ≠ e):∀ {fl:FL},fl.all (fun x=>Nat.beq x.1 e==Nat.beq x.2.1 i)=true→KbY fl (Jx.upd S i true) e' zs=KbY fl S e' zs
 | [],_=>rfl
 |
  (a,s,ds)::fl,h=>by
  simp only [List.all_cons,Bool.and_eq_true,beq_iff_eq] at h;unfold KbY;rw [Khs hne (fl:=fl) h.2];cases hb:Nat.beq a e' with
  | false=>rfl
  |
   true=>
   have ha:=Nat.eq_of_beq_eq_true hb;subst ha;have:s ≠ i:=fun q=>by
    subst q;have h1:=h.1;rw [Nat.beq_refl] at h1;exact hne (Nat.eq_of_beq_eq_true h1)
   rw [Jx.upd_ne _ _ this]
theorem KhZ {e:Nat}{x y:List D×TypeId}:∀ {al:AL},(al.map (·.1)).Nodup→(e,x)∈al→(e,y)∈al→x=y
 | [],_,h,_=>by cases h
 |
  z::al,hn,h1,h2=>by
  simp only [List.map_cons,List.nodup_cons] at hn;rcases List.mem_cons.1 h1 with q1|q1<;>rcases List.mem_cons.1 h2 with q2|q2
  ·have:=q1.trans q2.symm;simpa using this
  ·exact absurd (List.mem_map.2 ⟨_,q2,by rw [← q1]⟩) hn.1
  ·exact absurd (List.mem_map.2 ⟨_,q1,by rw [← q2]⟩) hn.1
  exact KhZ hn.2 q1 q2
theorem KgK {e off:Nat}{T T':TypeId}{x z:Operand}{zs ds':List D}{ti0:TI}{d:D}{p:List Nat}{t:List (Nat×D)}(hT:TabOK P tab)(hp:pre.getD i []=p)(ht:vis p te=t)(ho:o.op=.store T x z)(hw:wantD l (vis [] te) o=some true)(hd:o.dst=none)(he:ev.contains i=true)(hna:isAl al i=false)
  (hx:opD t x=some (.ptr (bs e) off)) (hpe:p.any (Nat.beq e)=true) (hia:(e,zs,T')∈al) (hnd:(al.map (·.1)).Nodup) (hfo:fl.all (fun x=>Nat.beq x.1 e==Nat.beq x.2.1 i)=true)
  (hti:ti tab T=some ti0) (hy:opD t z=some d) (hs:stor d=true) (hsz:Nat.beq (KR d).length ti0.size=true) (hle:Nat.ble (off+ti0.size) zs.length=true)
  (e1:lay zs off (KR d)=ds') (e2:KbY fl (fun s=>Nat.beq s i) e zs=ds') (hDe:De i=.any)
  (g:Zf P C N l m De al fl pre ev h k Q bs (i+1) rest te):Zf P C N l m De al fl pre ev h k Q bs i (o::rest) te:=by
 subst e1;intro H0 vals a hbs kt hN hdf;refine ⟨vals i,?_,?_⟩
 ·unfold Jx.OK;rw [Ka9 (Kb8 hbs kt) hw,if_pos rfl,if_pos he];refine ⟨rfl,?_⟩;rintro S w ⟨H,hle0,hdn,c,hev⟩ hSi hpS;replace hpS:∀ k∈pre.getD i [],S k=true:=hpS;have hpS':=hpS;rw [hp] at hpS;have htok:=ht ▸ KbJ hbs kt hle0 fun e he he2=>hev e (hpS e (by simpa using he)) he2
  have hSe:S e=true:=by
   obtain ⟨q,q1,q2⟩:=List.any_eq_true.1 hpe;rw [Nat.eq_of_beq_eq_true q2];exact hpS q q1
  have hz:KbY fl S e zs=zs:=KgB fun x hx hxe=>by
   have:=List.all_eq_true.1 hfo x hx;rw [hxe,Nat.beq_refl,beq_iff_eq] at this;rw [Nat.eq_of_beq_eq_true this.symm];exact hSi
  have hisal:isAl (alS fl S al) e=true:=by rw [Kf4];exact List.any_eq_true.2 ⟨_,hia,by simp⟩
  have hnd':((alS fl S al).map (·.1)).Nodup:=by
   unfold alS;rw [List.map_map];exact hnd
  obtain ⟨j,j1,j2⟩:=Khq (vals:=vals) (e:=e) (d1:=zs) (d2:=lay zs off (KR d)) (T:=T') hSe (al1:=alS fl S al) (al2:=alS fl (Jx.upd S i true) al) (by simp [alS]) (by
   intro j x y hx hy;unfold alS at hx hy;rw [List.getElem?_map] at hx hy;cases hq:al[j]? with
   | none=>rw [hq] at hx;cases hx
   |
    some q=>
    rw [hq] at hx hy;simp only [Option.map_some,Option.some.injEq] at hx hy;subst hx;subst hy;refine ⟨rfl,rfl,fun hne=>?_,fun heq=>?_⟩
    ·simp only at hne;rw [Khs hne hfo]
    simp only at heq;obtain ⟨q1,q2⟩:=q;simp only at heq;subst heq;have:=KhZ hnd (List.mem_of_getElem? hq) hia;subst this;simp only;rw [hz,Khr hfo,e2];exact ⟨rfl,rfl⟩) hnd' hisal
  have hb2:(h++Kau (alS fl S al) S vals)[h.length+j]? = some (bs e,.cells zs T'):=by
   rw [List.getElem?_append_right (Nat.le_add_right _ _),Nat.add_sub_cancel_left,j1,hbs]
  obtain ⟨us,h1,h2,h3⟩:=c.blks _ (List.mem_of_getElem? hb2);have hv:=KdN hs (K4 htok hy);have hlen:=KbF hv;have hlen2:=KbF h2;have q1:=Nat.eq_of_beq_eq_true hsz;have q2:=Nat.le_of_ble_eq_true hle;obtain ⟨w',h4,henv,h5,h6,h7⟩:=Kcr (P:=P) (b:=bs e) (off:=off) (a.eval z).cells.toList 0 w us h1 (by omega) (Kds hv);have hrun:(Instr.storeAt T (a.eval x) (a.eval z)).run P w=.ok () w':=by
   rw [KbV (K4 htok hx)];unfold Instr.storeAt;rw [Kv (a:=(⟨bs e,off,none⟩:Addr)) rfl];unfold storeVar;rw [Kv (KbS (ti_ok hT hti)),if_neg (by simp only [Array.length_toList] at hlen;omega)];exact h4
  have hex:(execOp a.eval o).run P w=.ok .skip w':=by
   unfold execOp;rw [ho];show ((Instr.storeAt T (a.eval x) (a.eval z)) >>= fun _=>pure Next.skip).run P w=_
   rw [Kv hrun];rfl
  unfold Jx.Gives;rw [hex];have cw:=c.write hb2 henv h5 h6 h7 (by simpa using Kf2 h2 hv off);rw [List.set_append_right _ _ (Nat.le_add_right _ _),Nat.add_sub_cancel_left] at cw;have hal:∀ r,Kau (alS fl (Jx.upd S i true) al) (Jx.upd S i true) (Jx.upd vals i r)=(Kau (alS fl S al) S vals).set j (bs e,.cells (lay zs off (KR d)) T'):=fun r=>by
   rw [hbs,← j2];refine Kbc fun e hea=>?_
   rw [Kf4] at hea;have:e ≠ i:=fun q=>by rw [q,hna] at hea;cases hea
   exact ⟨Jx.upd_ne _ _ this,fun _=>Jx.upd_ne _ _ this⟩
  refine ⟨H,hle0,Kdb hdn hpS',by rw [hal];exact cw,fun e2 hes hee=>?_⟩;by_cases hei:e2=i
  ·subst hei;rw [Jx.upd_same];refine ⟨fun q=>(by rw [hna] at q;cases q),fun _=>?_⟩;rw [hDe];simp only [Rep,RepC];exact ⟨trivial,rfl⟩
  rw [Jx.upd_ne _ _ hei] at hes ⊢;exact hev e2 hes hee
 rw [hd];exact g H0 vals _ hbs kt hN hdf
theorem zf_q {j:Nat}{x:Value}{p:List Nat}{t:List (Nat×D)}(hp:pre.getD i []=p)(ht:vis p te=t)(hx:Ex P o t (.v x))(hw:wantD l (vis [] te) o=some true)(hd:o.dst=some j)(hi:Nat.blt j N=true)(hne:ev.contains i=false)(hone:one x=true)(hpe:p.all ev.contains=true)
  (g:Zf P C N l m De al fl pre ev h k Q bs (i+1) rest ((j,.v x,none)::te)):Zf P C N l m De al fl pre ev h k Q bs i (o::rest) te:=
 zf_quiet hp hw hd hi hne hone hpe (fun _ H a w _ kt=>hx H a w (ht ▸ kt)) g
theorem zf_e {j:Nat}{p:List Nat}{t:List (Nat×D)}{d:D}(hp:pre.getD i []=p)(ht:vis p te=t)(hx:Ex P o t d)(hw:wantD l (vis [] te) o=some true)(hd:o.dst=some j)(hi:Nat.blt j N=true)(he:ev.contains i=true)(hna:isAl al i=false)(hnf:isF fl i=false)(hDe:De i=d)
  (g:Zf P C N l m De al fl pre ev h k Q bs (i+1) rest ((j,d,some i)::te)):Zf P C N l m De al fl pre ev h k Q bs i (o::rest) te:=
 Kha hp hw hd hi he hna hnf hDe (fun _ H a w c kt=>by
  obtain ⟨v,h1,h2⟩:=hx H a w (ht ▸ kt);unfold Jx.Gives;rw [h1];exact ⟨H,Hp.le_refl H,Core.here c.ag,h2⟩) g
theorem zf_qM {j:Nat}{x:Value}{p:List Nat}{t:List (Nat×D)}(hp:pre.getD i []=p)(ht:vis p te=t)(hx:ExM P C h k o t (.v x))(hw:wantD l (vis [] te) o=some true)(hd:o.dst=some j)(hi:Nat.blt j N=true)(hne:ev.contains i=false)(hone:one x=true)(hpe:p.all ev.contains=true)
  (g:Zf P C N l m De al fl pre ev h k Q bs (i+1) rest ((j,.v x,none)::te)):Zf P C N l m De al fl pre ev h k Q bs i (o::rest) te:=
 zf_quiet hp hw hd hi hne hone hpe (fun hh H a w c kt=>hx hh H a w c (ht ▸ kt)) g
theorem zf_eM {j:Nat}{p:List Nat}{t:List (Nat×D)}{d:D}(hp:pre.getD i []=p)(ht:vis p te=t)(hx:ExM P C h k o t d)(hw:wantD l (vis [] te) o=some true)(hd:o.dst=some j)(hi:Nat.blt j N=true)(he:ev.contains i=true)(hna:isAl al i=false)(hnf:isF fl i=false)(hDe:De i=d)
  (g:Zf P C N l m De al fl pre ev h k Q bs (i+1) rest ((j,d,some i)::te)):Zf P C N l m De al fl pre ev h k Q bs i (o::rest) te:=
 Kha hp hw hd hi he hna hnf hDe (fun hh H a w c kt=>by
  obtain ⟨v,h1,h2⟩:=hx hh H a w c (ht ▸ kt);unfold Jx.Gives;rw [h1];exact ⟨H,Hp.le_refl H,Core.here c.ag,h2⟩) g
theorem zf_call {f:FuncId}{args:List Operand}{ts:Array TypeId}{j:Nat}{p:List Nat}{t:List (Nat×D)}{ds ds':List D}{d:D}(hp:pre.getD i []=p)(ht:vis p te=t)(hc:CallsD P f ds' [] [] (fun d' h k=>d'=d∧h=[]∧k=[]))(ho:o.op=.call ⟨.value (.func f),args.toArray,ts⟩)
  (ha:KbQ args (opD t)=some ds) (hwk:WkL ds ds') (hw:wantD l (vis [] te) o=some true) (hd:o.dst=some j) (hi:Nat.blt j N=true) (he:ev.contains i=true) (hna:isAl al i=false) (hnf:isF fl i=false) (hDe:De i=d)
  (g:Zf P C N l m De al fl pre ev h k Q bs (i+1) rest ((j,d,some i)::te)):Zf P C N l m De al fl pre ev h k Q bs i (o::rest) te:=
 Kha hp hw hd hi he hna hnf hDe (fun hh H a w c kt=>by
  subst ht;unfold Jx.Gives;rw [Kd5 ho hc.1];simp only [];have hv:=hwk H _ (Kca kt ha);rw [List.map_toArray];refine (hc.2 H w _ hv c.ag (by simp) (by simp) (by simp [KO,K6])).mono ?_;rintro e w' ⟨v,H',d',h',k',rfl,hr,hcore,rfl,rfl,rfl⟩;exact ⟨v,rfl,H',hcore.le,hcore,hr⟩) g
theorem Kf5 {j:Nat}{p:List Nat}{T:TypeId}{ti0:TI}{zs:List D}(hp:pre.getD i []=p)(hT:TabOK P tab)(ho:o.op=.alloc T)(hw:wantD l (vis [] te) o=some true)(hd:o.dst=some j)(hi:Nat.blt j N=true)(he:ev.contains i=true)(hti:ti tab T=some ti0)(hz:ti0.zero.all one=true)(ez:ti0.zero.map dOf=zs)
  (hnf:isF fl i=false) (hfp:fl.all (fun x=>ev.contains x.2.1 && (!Nat.beq x.1 i || (pre.getD x.2.1 []).any (Nat.beq i)))=true) (hia:(i,zs,T)∈al) (hnd:(al.map (·.1)).Nodup) (g:Zf P C N l m De al fl pre ev h k Q bs (i+1) rest ((j,.ptr (bs i) 0,some i)::te)):Zf P C N l m De al fl pre ev h k Q bs i (o::rest) te:=
 zf_new hp hw hd hi he hnf hfp hia hnd (fun hh H a w c kt=>by
  obtain ⟨z,h1,h2⟩:=KcE (w:=w) (ti_ok hT hti);refine ⟨z.cells.toList,?_,?_⟩
  ·unfold execOp;rw [ho];refine Kbk ?_;unfold Instr.alloc;rw [Kv h1];simp only [];rw [Kv Kf0];simp;first|done|rfl
  rw [h2,← ez];rw [List.all_eq_true] at hz;revert hz;generalize ti0.zero=l0;intro hz;induction l0 with
  | nil=>simp [Reps]
  |
   cons u l0 ih=>
   simp only [List.map_cons,Reps];exact ⟨u,l0,rfl,⟨(Kfx H u).1,hz u (by simp),(Kfx H u).2⟩,ih (fun x hx=>hz x (by simp [hx]))⟩) g
theorem Kfg {id:Nat}{t:List (Nat×D)}(m:Nat)(al:AL)(fl:FL)(pre:List (List Nat))(ev:List Nat)(tp:List (List Nat))(hfo:P.follows .mixedOrders=true)(hsl:Jx.slotsB l.toArray=true)
  (hp:Jx.preB l.toArray (fun i=>pre.getD i [])=true) (hpe:pre.all (·.all ev.contains)=true) (hev:ev.all (· < (l.take m).length)=true) (hsuf:Jx.sufB l.toArray tp (l.take m).length=true)
  (hwalk:ExDs ev fun De=>∀ bs,Zf P C N l m De al fl pre ev h k Q bs 0 (l.take m) (Kda t)):wpD P C N (.region id l.toArray true) ⟨t,h,k⟩ Q:=by
 obtain ⟨De,hwalk⟩:=KfA hwalk;rintro a w ⟨H,c,kt,hN,hdf⟩;have key:=Jx.region_any (P:=P) (Q:=QD C N Q) (id:=id) (w:=w) (a0:=a) (l1:=l.take m) (l2:=l.drop m) (Cf C De al fl pre ev h k H) (fun i=>pre.getD i []) (fun i=>ev.contains i) tp hfo (by rw [List.take_append_drop];exact hsl) (by rw [List.take_append_drop];exact hp) ?_ ?_
  (by rw [List.take_append_drop];exact hsuf) ?_ ?_ ?_
 ·rw [List.take_append_drop] at key;exact key
 ·intro i k hk;rw [List.all_eq_true] at hpe;by_cases hi:i < pre.length
  ·have e:pre.getD i []=pre[i]:=by simp [hi]
   rw [e] at hk;exact List.all_eq_true.1 (hpe _ (List.getElem_mem hi)) k hk
  have e:pre.getD i []=[]:=by simp [Nat.le_of_not_lt hi]
  rw [e] at hk;cases hk
 ·intro i hi;rw [List.all_eq_true] at hev;simpa using hev i (by simpa using hi)
 ·rintro S vals vals' w hv ⟨H',hle,hdn,c',hr⟩;refine ⟨H',hle,hdn,?_,fun e hes hee=>?_⟩
  ·rw [← Kbc (S:=S) (S':=S) (vals:=vals) (vals':=vals') fun e _=>⟨rfl,hv e⟩];exact c'
  rw [← hv e hes];exact hr e hes hee
 ·intro vals;refine ⟨H,Hp.le_refl H,(fun e he=>by cases he),?_,fun e he=>by cases he⟩;rw [Kdl,List.append_nil];exact c.drew
 intro vals;rw [List.take_append_drop];exact hwalk (fun e=>blk (vals e)) H vals a (fun _=>rfl) (fun j d o e=>by
  obtain ⟨h1,h2⟩:=KdQ e;obtain ⟨v,h3,h4⟩:=kt j d h1;exact ⟨v,h3,fun _ H' hle=>h4.mono hle,fun e he=>by rw [h2] at he;cases he⟩) hN hdf
end
end
section
open Go
set_option linter.all false
section
variable {P : Program} {C : Ctx} {N : Nat} {l : List Oper} {m : Nat} {De : Nat → D} {al : AL} {fl : FL} {pre : List (List Nat)} {ev : List Nat} {h : List (Nat × Blk)} {k : List (Nat × Value)} {Q : Exit → S → Prop} {tab : List (Option TI)} {bs : Nat → Nat} {i : Nat} {o : Oper} {rest : List Oper} {te : TE}
theorem zf_event2 {j:Nat}{p:List Nat}{d:D}(hp:pre.getD i []=p)(hw:wantD l (vis [] te) o=some true)(hd:o.dst=some j)(hi:Nat.blt j N=true)(he:ev.contains i=true)(hna:isAl al i=false)(hnf:isF fl i=false)(hDe:De i=d)
  (hx:∀ hh H a w,Core C H (h++hh) k w→TOK H (vis p te) a→Jx.Gives P o a w fun v w'=>∃ H',H.le H'∧Core C H' (h++hh) k w'∧Rep H' d v)
  (g:Zf P C N l m De al fl pre ev h k Q bs (i+1) rest ((j,d,some i)::te)):Zf P C N l m De al fl pre ev h k Q bs i (o::rest) te:=by
 intro H0 vals a hbs kt hN hdf;subst hDe;refine ⟨vals i,?_,?_⟩
 ·unfold Jx.OK;rw [Ka9 (Kb8 hbs kt) hw,if_pos rfl,if_pos he];refine ⟨rfl,?_⟩;rintro S w ⟨H,hle,hdn,c,hev⟩ hSi hpS;replace hpS:∀ k∈pre.getD i [],S k=true:=hpS;have hpS':=hpS;rw [hp] at hpS;refine (hx _ H a w c (KbJ hbs kt hle fun e he he2=>hev e (hpS e (by simpa using he)) he2)).mono ?_;rintro v w' ⟨H',hle',c',hr⟩;refine ⟨H',Hp.le_trans hle hle',Kdb hdn hpS',?_,fun e hes hee=>?_⟩
  ·rw [KhY hna hnf];exact c'
  by_cases hei:e=i
  ·subst hei;rw [Jx.upd_same];exact ⟨fun q=>(by rw [hna] at q;cases q),fun _=>hr⟩
  rw [Jx.upd_ne _ _ hei] at hes ⊢;exact ⟨(hev e hes hee).1,fun q=>((hev e hes hee).2 q).mono hle'⟩
 rw [hd];refine g H0 vals _ hbs (kt.put (by rw [hN];simpa using hi) (fun q=>by cases q) (fun e q=>?_)) ?_ hdf
 ·cases q;exact ⟨rfl,by unfold dE;rw [hna];rfl,he⟩
 simp only [Act.put,Array.size_setIfInBounds];exact hN
theorem Khb {f:FuncId}{args:List Operand}{ts:Array TypeId}{j:Nat}{p:List Nat}{t:List (Nat×D)}{ds ds':List D}{d:D}{x:Nat×Blk}(b:Nat)(hp:pre.getD i []=p)(ht:vis p te=t)(hc:CallsD P f ds' [x] [] (fun d' h k=>d'=d∧h=[x]∧k=[]))(ho:o.op=.call ⟨.value (.func f),args.toArray,ts⟩)
  (ha:KbQ args (opD t)=some ds) (hwk:WkL ds ds') (hb:h[b]? = some x) (hw:wantD l (vis [] te) o=some true) (hd:o.dst=some j) (hi:Nat.blt j N=true) (he:ev.contains i=true) (hna:isAl al i=false) (hnf:isF fl i=false) (hDe:De i=d)
  (g:Zf P C N l m De al fl pre ev h k Q bs (i+1) rest ((j,d,some i)::te)):Zf P C N l m De al fl pre ev h k Q bs i (o::rest) te:=
 zf_event2 hp hw hd hi he hna hnf hDe (fun hh H a w c kt=>by
  subst ht;unfold Jx.Gives;rw [Kd5 ho hc.1];simp only [];have hv:=hwk H _ (Kca kt ha);rw [List.map_toArray];have hbl:b < h.length:=(List.getElem?_eq_some_iff.1 hb).1;have hb2:(h++hh)[b]? = some x:=by rw [List.getElem?_append_left hbl];exact hb
  have c1:=c.perm (KU hb2) (List.Perm.refl k);have hblk:=c.blks _ (List.mem_of_getElem? hb2);have nd:=(Kb3 [x] ((h++hh).eraseIdx b) [] k).nodup_iff.1 (by simpa using c1.nd);rw [List.nodup_append] at nd;refine (hc.2 H w _ hv c.ag (by simpa using hblk) (by simp) nd.1).mono ?_;rintro e w' ⟨v,H',d',h',k',rfl,hr,hcore,rfl,rfl,rfl⟩;refine ⟨v,rfl,H',hcore.le,?_,hr⟩;have c2:=Core.call (h1:=[x]) (k1:=[]) (h2:=(h++hh).eraseIdx b) (k2:=k) c1 hcore;exact c2.perm (KU hb2).symm (List.Perm.refl k)) g
end
end
section
open Go
set_option linter.all false
structure Hx (X:Type) where
 e:Nat
 h1:X→List (Nat×Blk)
 k1:X→List (Nat×Value)
 G:X→Prop
section
variable {X : Type} (P : Program) (C : Ctx) (N : Nat) (l : List Oper) (m : Nat) (De : Nat → D) (al : AL) (pre : List (List Nat)) (ev : List Nat) (v : Hx X) (h : List (Nat × Blk)) (k : List (Nat × Value)) (Q : Exit → S → Prop)
def Cx (H0:Hp)(S:Nat→Bool)(vals:Nat→Value)(w:World):Prop:=
 ∃
  H,∃ x:X,(S v.e=true→v.G x)∧H0.le H∧(∀ e,S e=true→ev.contains e=true→∀ p∈pre.getD e [],S p=true)∧Core C H ((bif S v.e then v.h1 x else h)++Kau al S vals) (bif S v.e then v.k1 x else k) w ∧
  ∀ e,S e=true→ev.contains e=true→(isAl al e=true→vals e=.pointer (some ⟨blk (vals e),0,none⟩))∧(isAl al e=false→Rep H (De e) (vals e))
def finX (H0:Hp)(vals:Nat→Value)(a:Act):Prop:=∀ S w,(∀ i,ev.contains i=true→S i=true)→Cx C De al pre ev v h k H0 S vals w→wpList P l.toArray (QD C N Q) (l.drop m) a w
def Zx (bs:Nat→Nat)(i:Nat)(rest:List Oper)(te:TE):Prop:=
 ∀
  H0 vals a,(∀ e,bs e=blk (vals e))→TOKz De al ev H0 bs vals te a→a.tmps.size=N→a.defers=[] →
  Jx.Lx P l.toArray (Cx C De al pre ev v h k H0) (fun i=>pre.getD i []) (fun i=>ev.contains i) vals (finX P C N l m De al pre ev v h k Q H0 vals) i rest a
end
section
variable {X : Type} {P : Program} {C : Ctx} {N : Nat} {l : List Oper} {m : Nat} {De : Nat → D} {al : AL} {pre : List (List Nat)} {ev : List Nat} {v : Hx X} {h : List (Nat × Blk)} {k : List (Nat × Value)} {Q : Exit → S → Prop} {tab : List (Option TI)} {bs : Nat → Nat} {i : Nat} {o : Oper} {rest : List Oper} {te : TE}
theorem zx_nil {t':List (Nat×D)}(e1:vis ev te=t')(hv:ev.contains v.e=true)(hal:∀ e,isAl al e=true→ev.contains e=true)(g:∀ x:X,v.G x→opsD P C N l (l.drop m) ⟨t',v.h1 x++al.map (fun x=>(bs x.1,Blk.cells x.2.1 x.2.2)),v.k1 x⟩ Q):Zx P C N l m De al pre ev v h k Q bs i [] te:=by
 intro H0 vals a hbs kt hN hdf S w hS hC;obtain ⟨H,x,hG,hle,_,c,hev⟩:=hC;subst e1;have hse:=hS _ hv;rw [hse] at c;simp only [cond_true] at c;refine g x (hG hse) a w ⟨H,?_,KbJ hbs kt hle fun e _ he=>hev e (hS e he) he,hN,hdf⟩;rw [KdP fun e he=>hS e (hal e he)] at c;have:(fun x:Nat×List D×TypeId=>(bs x.1,Blk.cells x.2.1 x.2.2))=fun x=>(blk (vals x.1),Blk.cells x.2.1 x.2.2):=by funext x;rw [hbs]
 rw [this];exact c
theorem zx_q {j:Nat}{x:Value}{p:List Nat}{t:List (Nat×D)}(hp:pre.getD i []=p)(ht:vis p te=t)(hx:Ex P o t (.v x))(hw:wantD l (vis [] te) o=some true)(hd:o.dst=some j)(hi:Nat.blt j N=true)(hne:ev.contains i=false)(hone:one x=true)(_hpe:p.all ev.contains=true)
  (g:Zx P C N l m De al pre ev v h k Q bs (i+1) rest ((j,.v x,none)::te)):Zx P C N l m De al pre ev v h k Q bs i (o::rest) te:=by
 intro H0 vals a hbs kt hN hdf;refine ⟨x,?_,?_⟩
 ·unfold Jx.OK;rw [Ka9 (Kb8 hbs kt) hw,if_pos rfl,if_neg (by show ¬ ev.contains i=true;rw [hne];exact Bool.false_ne_true)];rintro S w ⟨H,x,hG,hle,_,c,hev⟩ hpS;replace hpS:∀ k∈pre.getD i [],S k=true:=hpS;rw [hp] at hpS;obtain ⟨r,h1,h2⟩:=hx H a w (ht ▸ KbJ hbs kt hle fun e he he2=>hev e (hpS e (by simpa using he)) he2);rw [Kac h2] at h1;exact h1
 rw [hd];refine g H0 vals _ hbs (kt.put (by rw [hN];simpa using hi) (fun _ H _=>rep_v hone) (fun e he=>by cases he)) ?_ hdf;simp only [Act.put,Array.size_setIfInBounds];exact hN
theorem Khc {j:Nat}{p:List Nat}{t:List (Nat×D)}{d:D}(hp:pre.getD i []=p)(ht:vis p te=t)
  (hx0:p.contains v.e=false→∀ hh H a w,Core C H (h++hh) k w→TOK H t a→Jx.Gives P o a w fun r w'=>∃ H',Core ⟨H,w,[]⟩ H' [] [] w'∧Rep H' d r)
  (hx1:(pre.getD v.e []).contains i=false→∀ (x:X),v.G x→∀ hh H a w,Core C H (v.h1 x++hh) (v.k1 x) w→TOK H t a→Jx.Gives P o a w fun r w'=>∃ H',Core ⟨H,w,[]⟩ H' [] [] w'∧Rep H' d r)
  (hw:wantD l (vis [] te) o=some true) (hd:o.dst=some j) (hi:Nat.blt j N=true) (he:ev.contains i=true) (hev0:ev.contains v.e=true) (hna:isAl al i=false) (hnv:Nat.beq i v.e=false) (hDe:De i=d)
  (g:Zx P C N l m De al pre ev v h k Q bs (i+1) rest ((j,d,some i)::te)):Zx P C N l m De al pre ev v h k Q bs i (o::rest) te:=by
 intro H0 vals a hbs kt hN hdf;subst hDe;have hne:i ≠ v.e:=Nat.ne_of_beq_eq_false hnv;refine ⟨vals i,?_,?_⟩
 ·unfold Jx.OK;rw [Ka9 (Kb8 hbs kt) hw,if_pos rfl,if_pos he];refine ⟨rfl,?_⟩;rintro S w ⟨H,x,hG,hle,hdn,c,hev⟩ hSi hpS;replace hpS:∀ k∈pre.getD i [],S k=true:=hpS;have hpS':=hpS;rw [hp] at hpS;have htok:=ht ▸ KbJ hbs kt hle fun e he he2=>hev e (hpS e (by simpa using he)) he2
  have key:Jx.Gives P o a w fun r w'=>∃ H',Core ⟨H,w,[]⟩ H' [] [] w'∧Rep H' (De i) r:=by
   cases hs:S v.e with
   |
    false=>
    rw [hs] at c;refine hx0 ?_ _ H a w c htok;cases hc:p.contains v.e with
    | false=>rfl
    | true=>rw [hpS v.e (by simpa using hc)] at hs;cases hs
   |
    true=>
    rw [hs] at c;refine hx1 ?_ x (hG hs) _ H a w c htok;cases hc:(pre.getD v.e []).contains i with
    | false=>rfl
    |
     true=>
     have hm:i∈pre.getD v.e []:=by
      rw [List.contains_iff_exists_mem_beq] at hc;obtain ⟨z,hz,hb⟩:=hc;have:i=z:=by simpa using hb
      rw [this];exact hz
     rw [hdn v.e hs hev0 i hm] at hSi;cases hSi
  refine key.mono ?_;rintro r w' ⟨H',c',hr⟩;have hal:Kau al (Jx.upd S i true) (Jx.upd vals i r)=Kau al S vals:=Kbc fun e hea=>by
   have:e ≠ i:=fun q=>by rw [q,hna] at hea;cases hea
   exact ⟨Jx.upd_ne _ _ this,fun _=>Jx.upd_ne _ _ this⟩
  refine ⟨H',x,fun q=>hG (by rwa [Jx.upd_ne _ _ (Ne.symm hne)] at q),Hp.le_trans hle c'.le,Kdb hdn hpS',?_,fun e hes hee=>?_⟩
  ·rw [hal,Jx.upd_ne _ _ (Ne.symm hne)];have:=Core.call (h1:=[]) (k1:=[]) c c';exact this
  by_cases hei:e=i
  ·subst hei;rw [Jx.upd_same];exact ⟨fun q=>(by rw [hna] at q;cases q),fun _=>hr⟩
  rw [Jx.upd_ne _ _ hei] at hes ⊢;exact ⟨(hev e hes hee).1,fun q=>((hev e hes hee).2 q).mono c'.le⟩
 rw [hd];refine g H0 vals _ hbs (kt.put (by rw [hN];simpa using hi) (fun q=>by cases q) (fun e q=>?_)) ?_ hdf
 ·cases q;exact ⟨rfl,by unfold dE;rw [hna];rfl,he⟩
 simp only [Act.put,Array.size_setIfInBounds];exact hN
theorem zx_e {j:Nat}{p:List Nat}{t:List (Nat×D)}{d:D}(hp:pre.getD i []=p)(ht:vis p te=t)(hx:Ex P o t d)(hw:wantD l (vis [] te) o=some true)(hd:o.dst=some j)(hi:Nat.blt j N=true)(he:ev.contains i=true)(hev0:ev.contains v.e=true)(hna:isAl al i=false)(hnv:Nat.beq i v.e=false)(hDe:De i=d)
  (g:Zx P C N l m De al pre ev v h k Q bs (i+1) rest ((j,d,some i)::te)):Zx P C N l m De al pre ev v h k Q bs i (o::rest) te:=
 Khc hp ht (fun _ _ H a w c kt=>let ⟨_,h1,h2⟩:=hx H a w kt;Kb9 h1 ⟨H,Core.here c.ag,h2⟩) (fun _ _ _ _ H a w c kt=>let ⟨_,h1,h2⟩:=hx H a w kt;Kb9 h1 ⟨H,Core.here c.ag,h2⟩) hw hd hi he hev0 hna hnv hDe g
theorem zx_E {j:Nat}{p:List Nat}{t:List (Nat×D)}{d:D}(hp:pre.getD i []=p)(ht:vis p te=t)(hx:ExE P o t d)(hw:wantD l (vis [] te) o=some true)(hd:o.dst=some j)(hi:Nat.blt j N=true)(he:ev.contains i=true)(hev0:ev.contains v.e=true)(hna:isAl al i=false)(hnv:Nat.beq i v.e=false)(hDe:De i=d)
  (g:Zx P C N l m De al pre ev v h k Q bs (i+1) rest ((j,d,some i)::te)):Zx P C N l m De al pre ev v h k Q bs i (o::rest) te:=
 Khc hp ht (fun _ _ H a w c kt=>let ⟨_,_,H',h1,h2,h3⟩:=hx H a w c.ag kt;Kb9 h1 ⟨H',h2,h3⟩) (fun _ _ _ _ H a w c kt=>let ⟨_,_,H',h1,h2,h3⟩:=hx H a w c.ag kt;Kb9 h1 ⟨H',h2,h3⟩) hw hd hi he hev0 hna hnv hDe g
theorem zx_M {j:Nat}{p:List Nat}{t:List (Nat×D)}{d:D}(hp:pre.getD i []=p)(ht:vis p te=t)(hx0:p.contains v.e=false→ExM P C h k o t d)(hx1:(pre.getD v.e []).contains i=false→∀ x:X,v.G x→ExM P C (v.h1 x) (v.k1 x) o t d)(hw:wantD l (vis [] te) o=some true)(hd:o.dst=some j)(hi:Nat.blt j N=true)(he:ev.contains i=true)(hev0:ev.contains v.e=true)(hna:isAl al i=false)(hnv:Nat.beq i v.e=false)(hDe:De i=d)
  (g:Zx P C N l m De al pre ev v h k Q bs (i+1) rest ((j,d,some i)::te)):Zx P C N l m De al pre ev v h k Q bs i (o::rest) te:=
 Khc hp ht (fun q hh H a w c kt=>let ⟨_,h1,h2⟩:=hx0 q hh H a w c kt;Kb9 h1 ⟨H,Core.here c.ag,h2⟩) (fun q x hg hh H a w c kt=>let ⟨_,h1,h2⟩:=hx1 q x hg hh H a w c kt;Kb9 h1 ⟨H,Core.here c.ag,h2⟩) hw hd hi he hev0 hna hnv hDe g
theorem zx_heavy {p:List Nat}{t:List (Nat×D)}(hp:pre.getD i []=p)(ht:vis p te=t)(hiv:i=v.e)
  (hx:∀ hh H a w,Core C H (h++hh) k w→TOK H t a→Jx.Gives P o a w fun r w'=>∃ H',∃ x:X,v.G x∧H.le H'∧Core C H' (v.h1 x++hh) (v.k1 x) w'∧Rep H' (De v.e) r)
  (hw:wantD l (vis [] te) o=some true) (he:ev.contains i=true) (hna:isAl al i=false) {te':TE} (hd:(∃ j,o.dst=some j∧Nat.blt j N=true∧te'=(j,De v.e,some i)::te)∨(o.dst=none∧te'=te))
  (g:Zx P C N l m De al pre ev v h k Q bs (i+1) rest te'):Zx P C N l m De al pre ev v h k Q bs i (o::rest) te:=by
 subst hiv;intro H0 vals a hbs kt hN hdf;refine ⟨vals v.e,?_,?_⟩
 ·unfold Jx.OK;rw [Ka9 (Kb8 hbs kt) hw,if_pos rfl,if_pos he];refine ⟨rfl,?_⟩;rintro S w ⟨H,x,hG,hle,hdn,c,hev⟩ hSi hpS;replace hpS:∀ k∈pre.getD v.e [],S k=true:=hpS;have hpS':=hpS;rw [hp] at hpS;have htok:=ht ▸ KbJ hbs kt hle fun e he he2=>hev e (hpS e (by simpa using he)) he2
  rw [hSi] at c;refine (hx _ H a w c htok).mono ?_;rintro r w' ⟨H',x',hG',hle',c',hr⟩;have hal:Kau al (Jx.upd S v.e true) (Jx.upd vals v.e r)=Kau al S vals:=Kbc fun e hea=>by
   have:e ≠ v.e:=fun q=>by rw [q,hna] at hea;cases hea
   exact ⟨Jx.upd_ne _ _ this,fun _=>Jx.upd_ne _ _ this⟩
  refine ⟨H',x',fun _=>hG',Hp.le_trans hle hle',Kdb hdn hpS',?_,fun e hes hee=>?_⟩
  ·rw [hal,Jx.upd_same];exact c'
  by_cases hei:e=v.e
  ·subst hei;rw [Jx.upd_same];exact ⟨fun q=>(by rw [hna] at q;cases q),fun _=>hr⟩
  rw [Jx.upd_ne _ _ hei] at hes ⊢;exact ⟨(hev e hes hee).1,fun q=>((hev e hes hee).2 q).mono hle'⟩
 rcases hd with ⟨j,hd,hi,rfl⟩|⟨hd,rfl⟩
 ·rw [hd];refine g H0 vals _ hbs (kt.put (by rw [hN];simpa using hi) (fun q=>by cases q) (fun e q=>?_)) ?_ hdf
  ·cases q;exact ⟨rfl,by unfold dE;rw [hna];rfl,he⟩
  simp only [Act.put,Array.size_setIfInBounds];exact hN
 rw [hd];exact g H0 vals _ hbs kt hN hdf
abbrev BK:=List (Nat×Blk)×List (Nat×Value)
theorem KfB {v:Hx BK}{t':List (Nat×D)}{h2 hz:List (Nat×Blk)}{k2:List (Nat×Value)}(e1:vis ev te=t')(hv:ev.contains v.e=true)(hv1:∀ x,v.h1 x=x.1++h2)(hv2:∀ x,v.k1 x=x.2++k2)(ea:h2++al.map (fun x=>(bs x.1,Blk.cells x.2.1 x.2.2))=hz)
  (hal:∀ e,isAl al e=true→ev.contains e=true) (g:∀ h' k',v.G (h',k')→opsD P C N l (l.drop m) ⟨t',h'++hz,k'++k2⟩ Q):Zx P C N l m De al pre ev v h k Q bs i [] te:=
 zx_nil e1 hv hal fun x hG=>by
  rw [hv1,hv2,List.append_assoc,ea];exact g x.1 x.2 hG
theorem KeQ {v:Hx BK}{f:FuncId}{args:List Operand}{ts:Array TypeId}{j:Nat}{p:List Nat}{t:List (Nat×D)}{ds ds':List D}{d:D}{h1 h2:List (Nat×Blk)}{k1 k2:List (Nat×Value)}{R:D→List (Nat×Blk)→List (Nat×Value)→Prop}
  (hp:pre.getD i []=p) (ht:vis p te=t) (hiv:i=v.e) (hc:CallsD P f ds' h1 k1 R) (ho:o.op=.call ⟨.value (.func f),args.toArray,ts⟩) (ha:KbQ args (opD t)=some ds) (hwk:WkL ds ds')
  (hh:h.Perm (h1++h2)) (hk:k.Perm (k1++k2)) (hv1:∀ x,v.h1 x=x.1++h2) (hv2:∀ x,v.k1 x=x.2++k2) (hG:∀ d' h' k',R d' h' k'→v.G (h',k')∧Wk d' d) (hDe:De v.e=d)
  (hw:wantD l (vis [] te) o=some true) (he:ev.contains i=true) (hna:isAl al i=false) (hd:o.dst=some j) (hi:Nat.blt j N=true)
  (g:Zx P C N l m De al pre ev v h k Q bs (i+1) rest ((j,d,some i)::te)):Zx P C N l m De al pre ev v h k Q bs i (o::rest) te:=by
 subst hDe;refine zx_heavy hp ht hiv (fun hh' H a w c kt=>?_) hw he hna (.inl ⟨j,hd,hi,rfl⟩) g;unfold Jx.Gives;rw [Kd5 ho hc.1];simp only [];have hv:=hwk H _ (Kca kt ha);rw [List.map_toArray];have c1:Core C H (h1++(h2++hh')) (k1++k2) w:=c.perm (by rw [← List.append_assoc];exact hh.append_right hh') hk;have nd:=(Kb3 h1 (h2++hh') k1 k2).nodup_iff.1 c1.nd;rw [List.nodup_append] at nd;refine (hc.2 H w _ hv c.ag (fun q hq=>c1.blks q (List.mem_append_left _ hq)) (fun q hq=>c1.toks q (List.mem_append_left _ hq)) nd.1).mono ?_;rintro e w' ⟨r,H',d',h',k',rfl,hr,hcore,hR⟩;obtain ⟨hg,hwd⟩:=hG d' h' k' hR
 have c2:=Core.call (h1:=h1) (k1:=k1) (h2:=h2++hh') (k2:=k2) c1 hcore;refine ⟨r,rfl,H',(h',k'),hg,hcore.le,?_,hwd H' r hr⟩;rw [hv1,hv2,List.append_assoc];exact c2
theorem KdR {id:Nat}{t:List (Nat×D)}(m:Nat)(al:AL)(pre:List (List Nat))(ev:List Nat)(tp:List (List Nat))(v:Hx X)(x0:X)(hfo:P.follows .mixedOrders=true)(hsl:Jx.slotsB l.toArray=true)
  (hp:Jx.preB l.toArray (fun i=>pre.getD i [])=true) (hpe:pre.all (·.all ev.contains)=true) (hev:ev.all (· < (l.take m).length)=true) (hsuf:Jx.sufB l.toArray tp (l.take m).length=true)
  (hwalk:ExDs ev fun De=>∀ bs,Zx P C N l m De al pre ev v h k Q bs 0 (l.take m) (Kda t)):wpD P C N (.region id l.toArray true) ⟨t,h,k⟩ Q:=by
 obtain ⟨De,hwalk⟩:=KfA hwalk;rintro a w ⟨H,c,kt,hN,hdf⟩;have key:=Jx.region_any (P:=P) (Q:=QD C N Q) (id:=id) (w:=w) (a0:=a) (l1:=l.take m) (l2:=l.drop m) (Cx C De al pre ev v h k H) (fun i=>pre.getD i []) (fun i=>ev.contains i) tp hfo (by rw [List.take_append_drop];exact hsl) (by rw [List.take_append_drop];exact hp) ?_ ?_
  (by rw [List.take_append_drop];exact hsuf) ?_ ?_ ?_
 ·rw [List.take_append_drop] at key;exact key
 ·intro i k hk;rw [List.all_eq_true] at hpe;by_cases hi:i < pre.length
  ·have e:pre.getD i []=pre[i]:=by simp [hi]
   rw [e] at hk;exact List.all_eq_true.1 (hpe _ (List.getElem_mem hi)) k hk
  have e:pre.getD i []=[]:=by simp [Nat.le_of_not_lt hi]
  rw [e] at hk;cases hk
 ·intro i hi;rw [List.all_eq_true] at hev;simpa using hev i (by simpa using hi)
 ·rintro S vals vals' w hv ⟨H',x,hG,hle,hdn,c',hr⟩;refine ⟨H',x,hG,hle,hdn,?_,fun e hes hee=>?_⟩
  ·rw [← Kbc (S:=S) (S':=S) (vals:=vals) (vals':=vals') fun e _=>⟨rfl,hv e⟩];exact c'
  rw [← hv e hes];exact hr e hes hee
 ·intro vals;refine ⟨H,x0,(fun q=>by cases q),Hp.le_refl H,(fun e he=>by cases he),?_,fun e he=>by cases he⟩;rw [Kdl,List.append_nil];exact c.drew
 intro vals;rw [List.take_append_drop];exact hwalk (fun e=>blk (vals e)) H vals a (fun _=>rfl) (fun j d o e=>by
  obtain ⟨h1,h2⟩:=KdQ e;obtain ⟨r,h3,h4⟩:=kt j d h1;exact ⟨r,h3,fun _ H' hle=>h4.mono hle,fun e he=>by rw [h2] at he;cases he⟩) hN hdf
end
end
section
open Go
set_option linter.all false
abbrev TL:=List (Nat×Nat)
def isT (tl:TL)(e:Nat):Bool:=tl.any fun x=>x.1==e
def toks (tl:TL)(S:Nat→Bool)(vals:Nat→Value):List (Nat×Value):=
 match tl with
 | []=>[]
 | (e,kk)::tl=>bif S e then (kk,vals e)::toks tl S vals else toks tl S vals
def setc (d:D)(v:Value):D:=
 match d with
 | .lst k xs _=>.lst k xs (.cur v)
 | d=>d
def dT (tl:TL)(e:Nat)(d:D)(v:Value):D:=bif isT tl e then setc d v else d
section
variable (P : Program) (C : Ctx) (N : Nat) (l : List Oper) (m : Nat) (De : Nat → D) (al : AL) (tl : TL) (pre : List (List Nat)) (ev : List Nat) (h : List (Nat × Blk)) (k : List (Nat × Value)) (Q : Exit → S → Prop)
def dEt (bs:Nat→Value)(e:Nat):D:=bif isAl al e then .ptr (blk (bs e)) 0 else dT tl e (De e) (bs e)
def TOKt (H0:Hp)(bs:Nat→Value)(vals:Nat→Value)(te:TE)(a:Act):Prop:=
 ∀ j d o,look3 te j=some (d,o)→∃ v,a.tmps[j]? = some v∧(o=none→∀ H,H0.le H→Rep H d v)∧∀ e,o=some e→v=vals e∧d=dEt De al tl bs e∧ev.contains e=true
end
section
variable {P : Program} {C : Ctx} {N : Nat} {l : List Oper} {m : Nat} {De : Nat → D} {al : AL} {tl : TL} {pre : List (List Nat)} {ev : List Nat} {h : List (Nat × Blk)} {k : List (Nat × Value)} {Q : Exit → S → Prop} {tab : List (Option TI)} {bs : Nat → Value} {i : Nat} {o : Oper} {rest : List Oper} {te : TE}
theorem TOKt.put {H0:Hp}{vals:Nat→Value}{a:Act}(kt:TOKt De al tl ev H0 bs vals te a){j:Nat}{d:D}{o:Option Nat}{v:Value}(hj:j < a.tmps.size)(h1:o=none→∀ H,H0.le H→Rep H d v)(h2:∀ e,o=some e→v=vals e∧d=dEt De al tl bs e∧ev.contains e=true) :
  TOKt De al tl ev H0 bs vals ((j,d,o)::te) (a.put (some j) v):=by
 intro j' d' o' e;simp only [look3] at e;simp only [Act.put];cases hb:Nat.beq j j' with
 |
  true=>
  rw [hb] at e;simp at e;obtain ⟨rfl,rfl⟩:=e;have:=Nat.eq_of_beq_eq_true hb;subst this;exact ⟨v,by simp [hj],h1,h2⟩
 |
  false=>
  rw [hb] at e;simp at e;have hne:j ≠ j':=Nat.ne_of_beq_eq_false hb;obtain ⟨u,h3,h4⟩:=kt j' d' o' e;exact ⟨u,by rw [Array.getElem?_setIfInBounds_ne hne];exact h3,h4⟩
end
section
variable {P : Program} {C : Ctx} {N : Nat} {l : List Oper} {m : Nat} {De : Nat → D} {al : AL} {tl : TL} {pre : List (List Nat)} {ev : List Nat} {h : List (Nat × Blk)} {k : List (Nat × Value)} {Q : Exit → S → Prop} {tab : List (Option TI)} {bs : Nat → Value} {i : Nat} {o : Oper} {rest : List Oper} {te : TE}
end
end
section
open Go
set_option linter.all false
abbrev oT:Option TI:=some ⟨.other,1,8,[.nilFunc]⟩
def tab:List (Option TI):=[none,
 oT,
 some ⟨.int .i64,1,8,[.int .i64 0]⟩,
 some ⟨.int .i64,1,8,[.int .i64 0]⟩,
 some ⟨.bool,1,1,[.bool false]⟩,
 some ⟨.int .u8,1,1,[.int .u8 0]⟩,
 some ⟨.int .u8,1,1,[.int .u8 0]⟩,
 some ⟨.struct [(2,0),(3,1),(4,2),(6,3)],4,24,[.int .i64 0,.int .i64 0,.bool false,.int .u8 0]⟩,
 some ⟨.struct [(2,0),(3,1),(4,2),(6,3)],4,24,[.int .i64 0,.int .i64 0,.bool false,.int .u8 0]⟩,
 some ⟨.str,1,16,[.string ByteArray.empty]⟩,
 some ⟨.str,1,16,[.string ByteArray.empty]⟩,
 some ⟨.str,1,16,[.string ByteArray.empty]⟩,
 some ⟨.int .u64,1,8,[.int .u64 0]⟩,
 some ⟨.struct [(9,0),(12,1)],2,24,[.string ByteArray.empty,.int .u64 0]⟩,
 some ⟨.struct [(9,0),(12,1)],2,24,[.string ByteArray.empty,.int .u64 0]⟩,
 some ⟨.ptr 157,1,8,[.pointer none]⟩,
 some ⟨.ptr 160,1,8,[.pointer none]⟩,
 some ⟨.ptr 167,1,8,[.pointer none]⟩,
 some ⟨.struct [(17,0)],1,8,[.pointer none]⟩,
 some ⟨.struct [(17,0)],1,8,[.pointer none]⟩,
 none,
 some ⟨.int .i32,1,4,[.int .i32 0]⟩,
 some ⟨.slice 5,1,24,[.slice none 0 0]⟩,
 some ⟨.slice 57,1,24,[.slice none 0 0]⟩,
 some ⟨.slice 92,1,24,[.slice none 0 0]⟩,
 some ⟨.struct [(9,0),(23,1),(23,2),(24,3),(3,4)],5,96,[.string ByteArray.empty,.slice none 0 0,.slice none 0 0,.slice none 0 0,.int .i64 0]⟩,
 some ⟨.struct [(9,0),(23,1),(23,2),(24,3),(3,4)],5,96,[.string ByteArray.empty,.slice none 0 0,.slice none 0 0,.slice none 0 0,.int .i64 0]⟩,
 some ⟨.int .i64,1,8,[.int .i64 0]⟩,
 none,
 oT,
 oT,
 oT,
 some ⟨.struct [(9,0),(4,1),(3,2),(3,3)],4,40,[.string ByteArray.empty,.bool false,.int .i64 0,.int .i64 0]⟩,
 some ⟨.struct [(9,0),(4,1),(3,2),(3,3)],4,40,[.string ByteArray.empty,.bool false,.int .i64 0,.int .i64 0]⟩,
 none,
 oT,
 oT,
 some ⟨.slice 39,1,24,[.slice none 0 0]⟩,
 some ⟨.struct [(3,0),(3,1),(9,2),(37,3),(3,4)],5,64,[.int .i64 0,.int .i64 0,.string ByteArray.empty,.slice none 0 0,.int .i64 0]⟩,
 some ⟨.struct [(3,0),(3,1),(9,2),(37,3),(3,4)],5,64,[.int .i64 0,.int .i64 0,.string ByteArray.empty,.slice none 0 0,.int .i64 0]⟩,
 none,
 oT,
 oT,
 oT,
 oT,
 oT,
 oT,
 oT,
 some ⟨.ptr 53,1,8,[.pointer none]⟩,
 some ⟨.ptr 51,1,8,[.pointer none]⟩,
 some ⟨.struct [(49,0),(22,1)],2,32,[.pointer none,.slice none 0 0]⟩,
 some ⟨.struct [(49,0),(22,1)],2,32,[.pointer none,.slice none 0 0]⟩,
 some ⟨.struct [(51,0),(3,2)],3,40,[.pointer none,.slice none 0 0,.int .i64 0]⟩,
 some ⟨.struct [(51,0),(3,2)],3,40,[.pointer none,.slice none 0 0,.int .i64 0]⟩,
 oT,
 oT,
 some ⟨.struct [(9,0),(4,1)],2,24,[.string ByteArray.empty,.bool false]⟩,
 some ⟨.struct [(9,0),(4,1)],2,24,[.string ByteArray.empty,.bool false]⟩,
 oT,
 oT,
 oT,
 oT,
 oT,
 oT,
 oT,
 oT,
 some ⟨.slice 71,1,24,[.slice none 0 0]⟩,
 none,
 oT,
 oT,
 some ⟨.struct [(3,0),(9,1),(3,2),(3,3)],4,40,[.int .i64 0,.string ByteArray.empty,.int .i64 0,.int .i64 0]⟩,
 some ⟨.struct [(3,0),(9,1),(3,2),(3,3)],4,40,[.int .i64 0,.string ByteArray.empty,.int .i64 0,.int .i64 0]⟩,
 oT,
 none,
 oT,
 oT,
 oT,
 some ⟨.ptr 82,1,8,[.pointer none]⟩,
 none,
 oT,
 oT,
 some ⟨.struct [(66,0),(3,1),(27,2),(3,3),(3,4)],5,56,[.slice none 0 0,.int .i64 0,.int .i64 0,.int .i64 0,.int .i64 0]⟩,
 some ⟨.struct [(66,0),(3,1),(27,2),(3,3),(3,4)],5,56,[.slice none 0 0,.int .i64 0,.int .i64 0,.int .i64 0,.int .i64 0]⟩,
 none,
 none,
 oT,
 none,
 oT,
 some ⟨.slice 9,1,24,[.slice none 0 0]⟩,
 oT,
 oT,
 some ⟨.struct [(3,0),(9,1),(9,2),(37,3),(24,4),(24,5),(3,6)],7,120,[.int .i64 0,.string ByteArray.empty,.string ByteArray.empty,.slice none 0 0,.slice none 0 0,.slice none 0 0,.int .i64 0]⟩,
 some ⟨.struct [(3,0),(9,1),(9,2),(37,3),(24,4),(24,5),(3,6)],7,120,[.int .i64 0,.string ByteArray.empty,.string ByteArray.empty,.slice none 0 0,.slice none 0 0,.slice none 0 0,.int .i64 0]⟩,
 some ⟨.ptr 5,1,8,[.pointer none]⟩,
 oT,
 some ⟨.ptr 97,1,8,[.pointer none]⟩,
 some ⟨.struct [(22,0),(3,1),(66,2)],3,56,[.slice none 0 0,.int .i64 0,.slice none 0 0]⟩,
 some ⟨.struct [(22,0),(3,1),(66,2)],3,56,[.slice none 0 0,.int .i64 0,.slice none 0 0]⟩,
 oT,
 some ⟨.ptr 101,1,8,[.pointer none]⟩,
 some ⟨.struct [(66,0),(3,1),(27,2)],3,40,[.slice none 0 0,.int .i64 0,.int .i64 0]⟩,
 some ⟨.struct [(66,0),(3,1),(27,2)],3,40,[.slice none 0 0,.int .i64 0,.int .i64 0]⟩,
 oT,
 oT,
 oT,
 oT,
 oT,
 oT,
 oT,
 oT,
 oT,
 oT,
 oT,
 none,
 oT,
 oT,
 oT,
 oT,
 oT,
 oT,
 oT,
 oT,
 oT,
 oT,
 oT,
 oT,
 none,
 oT,
 oT,
 some ⟨.array 24 5,24,24,[.int .u8 0,.int .u8 0,.int .u8 0,.int .u8 0,.int .u8 0,.int .u8 0,.int .u8 0,.int .u8 0,.int .u8 0,.int .u8 0,.int .u8 0,.int .u8 0,.int .u8 0,.int .u8 0,.int .u8 0,.int .u8 0,.int .u8 0,.int .u8 0,.int .u8 0,.int .u8 0,.int .u8 0,.int .u8 0,.int .u8 0,.int .u8 0]⟩,
 some ⟨.int .u64,1,8,[.int .u64 0]⟩,
 oT,
 oT,
 none,
 oT,
 oT,
 oT,
 oT,
 oT,
 oT,
 oT,
 oT,
 oT,
 oT,
 some ⟨.array 20 130,20,160,[.int .u64 0,.int .u64 0,.int .u64 0,.int .u64 0,.int .u64 0,.int .u64 0,.int .u64 0,.int .u64 0,.int .u64 0,.int .u64 0,.int .u64 0,.int .u64 0,.int .u64 0,.int .u64 0,.int .u64 0,.int .u64 0,.int .u64 0,.int .u64 0,.int .u64 0,.int .u64 0]⟩,
 some ⟨.int .u32,1,4,[.int .u32 0]⟩,
 some ⟨.array 65 5,65,65,[.int .u8 0,.int .u8 0,.int .u8 0,.int .u8 0,.int .u8 0,.int .u8 0,.int .u8 0,.int .u8 0,.int .u8 0,.int .u8 0,.int .u8 0,.int .u8 0,.int .u8 0,.int .u8 0,.int .u8 0,.int .u8 0,.int .u8 0,.int .u8 0,.int .u8 0,.int .u8 0,.int .u8 0,.int .u8 0,.int .u8 0,.int .u8 0,.int .u8 0,.int .u8 0,.int .u8 0,.int .u8 0,.int .u8 0,.int .u8 0,.int .u8 0,.int .u8 0,.int .u8 0,.int .u8 0,.int .u8 0,.int .u8 0,.int .u8 0,.int .u8 0,.int .u8 0,.int .u8 0,.int .u8 0,.int .u8 0,.int .u8 0,.int .u8 0,.int .u8 0,.int .u8 0,.int .u8 0,.int .u8 0,.int .u8 0,.int .u8 0,.int .u8 0,.int .u8 0,.int .u8 0,.int .u8 0,.int .u8 0,.int .u8 0,.int .u8 0,.int .u8 0,.int .u8 0,.int .u8 0,.int .u8 0,.int .u8 0,.int .u8 0,.int .u8 0,.int .u8 0]⟩,
 oT,
 some ⟨.int .u64,1,8,[.int .u64 0]⟩,
 oT,
 oT,
 oT,
 oT,
 oT,
 some ⟨.array 32 5,32,32,[.int .u8 0,.int .u8 0,.int .u8 0,.int .u8 0,.int .u8 0,.int .u8 0,.int .u8 0,.int .u8 0,.int .u8 0,.int .u8 0,.int .u8 0,.int .u8 0,.int .u8 0,.int .u8 0,.int .u8 0,.int .u8 0,.int .u8 0,.int .u8 0,.int .u8 0,.int .u8 0,.int .u8 0,.int .u8 0,.int .u8 0,.int .u8 0,.int .u8 0,.int .u8 0,.int .u8 0,.int .u8 0,.int .u8 0,.int .u8 0,.int .u8 0,.int .u8 0]⟩,
 some ⟨.array 64 5,64,64,[.int .u8 0,.int .u8 0,.int .u8 0,.int .u8 0,.int .u8 0,.int .u8 0,.int .u8 0,.int .u8 0,.int .u8 0,.int .u8 0,.int .u8 0,.int .u8 0,.int .u8 0,.int .u8 0,.int .u8 0,.int .u8 0,.int .u8 0,.int .u8 0,.int .u8 0,.int .u8 0,.int .u8 0,.int .u8 0,.int .u8 0,.int .u8 0,.int .u8 0,.int .u8 0,.int .u8 0,.int .u8 0,.int .u8 0,.int .u8 0,.int .u8 0,.int .u8 0,.int .u8 0,.int .u8 0,.int .u8 0,.int .u8 0,.int .u8 0,.int .u8 0,.int .u8 0,.int .u8 0,.int .u8 0,.int .u8 0,.int .u8 0,.int .u8 0,.int .u8 0,.int .u8 0,.int .u8 0,.int .u8 0,.int .u8 0,.int .u8 0,.int .u8 0,.int .u8 0,.int .u8 0,.int .u8 0,.int .u8 0,.int .u8 0,.int .u8 0,.int .u8 0,.int .u8 0,.int .u8 0,.int .u8 0,.int .u8 0,.int .u8 0,.int .u8 0]⟩,
 some ⟨.struct [(17,0),(17,1),(17,2),(9,3)],4,40,[.pointer none,.pointer none,.pointer none,.string ByteArray.empty]⟩,
 some ⟨.struct [(17,0),(17,1),(17,2),(9,3)],4,40,[.pointer none,.pointer none,.pointer none,.string ByteArray.empty]⟩,
 some ⟨.array 0 16,0,0,[]⟩,
 some ⟨.struct [(158,0)],0,0,[]⟩,
 some ⟨.struct [(158,0)],0,0,[]⟩,
 some ⟨.int .u8,1,1,[.int .u8 0]⟩,
 some ⟨.int .u8,1,1,[.int .u8 0]⟩,
 oT,
 some ⟨.int .i32,1,4,[.int .i32 0]⟩,
 some ⟨.int .i32,1,4,[.int .i32 0]⟩,
 some ⟨.struct [(12,0),(12,1),(145,2),(161,3),(5,4),(5,5),(162,6),(163,7),(93,8),(164,9),(165,10)],11,48,[.int .u64 0,.int .u64 0,.int .u32 0,.int .u8 0,.int .u8 0,.int .u8 0,.int .u8 0,.nilFunc,.pointer none,.int .i32 0,.int .i32 0]⟩,
 some ⟨.struct [(12,0),(12,1),(145,2),(161,3),(5,4),(5,5),(162,6),(163,7),(93,8),(164,9),(165,10)],11,48,[.int .u64 0,.int .u64 0,.int .u32 0,.int .u8 0,.int .u8 0,.int .u8 0,.int .u8 0,.nilFunc,.pointer none,.int .i32 0,.int .i32 0]⟩]
theorem htab:TabOK Tryz.prog tab:=tab_ok (P:=Tryz.prog) (by kernel_rfl)
theorem eqt57:EqT Tryz.prog 57:=⟨by kernel_rfl,by kernel_rfl,by kernel_rfl⟩
theorem ti5:ti tab 5=some ⟨.int .u8,1,1,[.int .u8 0]⟩:=rfl
theorem ti22:ti tab 22=some ⟨.slice 5,1,24,[.slice none 0 0]⟩:=rfl
end
section
open Go
set_option linter.all false
inductive Step (σ τ:Type) where
 | next (s:σ)
 | done (t:τ)
def loopN {σ τ:Type}(f:σ→Option (Step σ τ)):Nat→σ→Option τ
 | 0,_=>none
 |
  n+1,s=>match f s with
  | none=>none
  | some (.next s')=>loopN f n s'
  | some (.done t)=>some t
theorem Kh0 {σ τ:Type}{f:σ→Option (Step σ τ)}:∀ {n m:Nat} {s:σ} {t t':τ},loopN f n s=some t→loopN f m s=some t'→t=t'
 | 0,_,_,_,_,h,_=>by simp [loopN] at h
 | _+1,0,_,_,_,_,h=>by simp [loopN] at h
 |
  n+1,m+1,s,t,t',h,k=>by
  simp only [loopN] at h k;cases hf:f s with
  | none=>rw [hf] at h;cases h
  |
   some x=>
   rw [hf] at h k;cases x with
   | next s'=>exact Kh0 h k
   | done u=>simp at h k;rw [← h,← k]
open Classical in
def loopM {σ τ:Type}(f:σ→Option (Step σ τ))(s:σ):Option τ:=if h:∃ n t,loopN f n s=some t then some h.choose_spec.choose else none
theorem Kf6 {σ τ:Type}{f:σ→Option (Step σ τ)}{n:Nat}{s:σ}{t:τ}(h:loopN f n s=some t):loopM f s=some t:=by
 have hx:∃ n t,loopN f n s=some t:=⟨n,t,h⟩;unfold loopM;rw [dif_pos hx];exact congrArg some (Kh0 hx.choose_spec.choose_spec h)
theorem Kel {σ τ:Type}{f:σ→Option (Step σ τ)}{s:σ}{t:τ}(h:loopM f s=some t):∃ n,loopN f n s=some t:=by
 unfold loopM at h;split at h
 ·rename_i hx;simp only [Option.some.injEq] at h;exact ⟨_,h ▸ hx.choose_spec.choose_spec⟩
 cases h
theorem KdS {σ τ:Type}{f:σ→Option (Step σ τ)}{s:σ}{t:τ}(h:f s=some (.done t)):loopM f s=some t:=Kf6 (n:=1) (by simp [loopN,h])
theorem KdT {σ τ:Type}{f:σ→Option (Step σ τ)}{s s':σ}(h:f s=some (.next s')):loopM f s=loopM f s':=by
 cases e:loopM f s' with
 |
  some t=>
  obtain ⟨n,hn⟩:=Kel e;exact Kf6 (n:=n+1) (by simp [loopN,h,hn])
 |
  none=>
  cases e2:loopM f s with
  | none=>rfl
  |
   some t=>
   obtain ⟨n,hn⟩:=Kel e2;cases n with
   | zero=>simp [loopN] at hn
   |
    succ n=>
    simp only [loopN,h] at hn;rw [Kf6 hn] at e;cases e
def Yes {α:Type}(m:Option α)(φ:α→Prop):Prop:=∃ x,m=some x∧φ x
section
variable {α β : Type} {φ : α → Prop} {ψ : β → Prop}
theorem Kb {m:Option α}{f:α→Option β}(h:Yes (m.bind f) ψ):∃ a,m=some a∧Yes (f a) ψ:=by
 obtain ⟨x,h1,h2⟩:=h;rw [Option.bind_eq_some_iff] at h1;obtain ⟨a,h3,h4⟩:=h1;exact ⟨a,h3,x,h4,h2⟩
theorem yes_t {c:Bool}{a b:Option α}(hc:c=true)(h:Yes (bif c then a else b) φ):Yes a φ:=by subst hc;exact h
theorem yes_f {c:Bool}{a b:Option α}(hc:c=false)(h:Yes (bif c then a else b) φ):Yes b φ:=by subst hc;exact h
theorem KD {m:Option α}{r:α}(h:m=some r):Yes m (fun x=>x=r):=⟨r,h,rfl⟩
theorem Kl {a r:α}(h:Yes (some a) (fun x=>x=r)):a=r:=by obtain ⟨x,h1,h2⟩:=h;cases h1;exact h2
theorem yes_m {m:Option α}(h:Yes m φ):∃ a,m=some a∧Yes (some a) φ:=by
 obtain ⟨x,h1,h2⟩:=h;exact ⟨x,h1,x,rfl,h2⟩
def need (p:Bool):Option Unit:=bif p then some () else none
theorem KeG {p:Bool}{u:Unit}(h:need p=some u):p=true:=by
 cases p with
 | true=>rfl
 | false=>cases h
def idx (xs:List α)(i:Int):Option α:=bif decide (0≤i) then xs[i.toNat]? else none
theorem idx_ok {xs:List α}{i:Int}{x:α}(h:idx xs i=some x):0≤i∧xs[i.toNat]? = some x:=by
 unfold idx at h;by_cases hi:0≤i
 ·rw [decide_eq_true hi] at h;exact ⟨hi,h⟩
 rw [decide_eq_false hi] at h;cases h
theorem Ks {xs:List α}{i:Int}{x:α}(h:idx xs i=some x):0≤i:=(idx_ok h).1
theorem Ky {xs:List α}{i:Int}{x:α}{e:α→D}(h:idx xs i=some x):(xs.map e)[i.toNat]? = some (e x):=by
 rw [List.getElem?_map,(idx_ok h).2];rfl
theorem KcR (xs:List α)(n:Nat):idx xs (n:Int)=xs[n]?:=by simp [idx]
def cutL (xs:List α)(l h:Int):Option (List α):=bif decide (0≤l) && decide (l≤h) && decide (h≤(xs.length:Int)) then some ((xs.drop l.toNat).take (h.toNat - l.toNat)) else none
theorem cutL_ok {xs ys:List α}{l h:Int}(e:cutL xs l h=some ys):ys=(xs.drop l.toNat).take (h.toNat - l.toNat)∧l=(l.toNat:Int)∧h=(h.toNat:Int)∧l.toNat≤h.toNat∧h.toNat≤xs.length:=by
 unfold cutL at e;cases hc:decide (0≤l) && decide (l≤h) && decide (h≤(xs.length:Int)) with
 | false=>rw [hc] at e;cases e
 |
  true=>
  rw [hc] at e;simp only [Bool.and_eq_true,decide_eq_true_eq] at hc;obtain ⟨⟨h1,h2⟩,h3⟩:=hc;simp only [cond_true,Option.some.injEq] at e;exact ⟨e.symm,by omega,by omega,by omega,by omega⟩
def app (bb:Nat)(xs ys:List α):Option (List α):=bif decide ((xs.length+ys.length)*bb≤140737488355328) then some (xs++ys) else none
theorem Kem {bb:Nat}{xs ys zs:List α}(h:app bb xs ys=some zs):zs=xs++ys∧(xs.length+ys.length)*bb≤140737488355328:=by
 unfold app at h;cases hc:decide ((xs.length+ys.length)*bb≤140737488355328) with
 | false=>rw [hc] at h;cases h
 |
  true=>
  rw [hc] at h;simp only [cond_true,Option.some.injEq] at h;exact ⟨h.symm,of_decide_eq_true hc⟩
theorem app_of {bb:Nat}{xs ys:List α}(h:(xs.length+ys.length)*bb≤140737488355328):app bb xs ys=some (xs++ys):=by
 unfold app;rw [decide_eq_true h];rfl
theorem Kce {bb:Nat}{xs ys zs:List α}{e:α→D}(h:app bb xs ys=some zs):((xs.map e).length+(ys.map e).length)*bb≤140737488355328:=by
 simpa using (Kem h).2
theorem app_map {bb:Nat}{xs ys zs:List α}{e:α→D}(h:app bb xs ys=some zs):xs.map e++ys.map e=zs.map e:=by
 rw [(Kem h).1,List.map_append]
theorem Kao {xs:List α}{e:α→D}:(xs.map e).length=xs.length:=List.length_map _
end
def WkC (d d':D):Prop:=∀ H us,RepC H d us→RepC H d' us
def WkR (ds ds':List D):Prop:=∀ H us,Reps H ds us→Reps H ds' us
theorem WkC.refl (d:D):WkC d d:=fun _ _ h=>h
theorem WkC.no {k:Nat}{xs:List D}{c:Cap}:WkC (.lst k xs c) (.lst k xs .no):=fun H us h=>by
 simp only [RepC] at h ⊢;obtain ⟨y,e,_,h⟩:=h;exact ⟨y,e,trivial,h⟩
theorem WkC.nil {k k':Nat}{c:Cap}:WkC (.lst k [] c) (.lst k' [] .no):=fun H us h=>by
 simp only [RepC] at h ⊢;obtain ⟨y,e,_,h⟩:=h;rcases h with ⟨_,h⟩|⟨b,off,m,e1,e2,e3⟩
 ·exact ⟨y,e,trivial,.inl ⟨by trivial,h⟩⟩
 exact ⟨y,e,trivial,.inr ⟨b,off,m,e1,e2,by simp [Els]⟩⟩
theorem WkC.nilF {k k':Nat}:WkC (.lst k [] .full) (.lst k' [] .full):=fun H us h=>by
 simp only [RepC] at h ⊢;obtain ⟨y,e,h0,h⟩:=h;rcases h with ⟨_,h⟩|⟨b,off,m,e1,e2,e3⟩
 ·exact ⟨y,e,h0,.inl ⟨by trivial,h⟩⟩
 exact ⟨y,e,h0,.inr ⟨b,off,m,e1,e2,by simp [Els]⟩⟩
theorem WkC.agg {ds ds':List D}(h:WkR ds ds'):WkC (.agg ds) (.agg ds'):=fun H us k=>by
 simp only [RepC] at k ⊢;exact h H us k
theorem WkC.of_eq {d d':D}(h:d=d'):WkC d d':=h ▸ WkC.refl d
theorem WkR.refl (ds:List D):WkR ds ds:=fun _ _ h=>h
theorem WkR.nil:WkR [] []:=WkR.refl _
theorem WkR.cons {d d':D}{ds ds':List D}(h:WkC d d')(hf:d'.flat=d.flat)(k:WkR ds ds'):WkR (d::ds) (d'::ds'):=fun H us q=>by
 simp only [Reps] at q ⊢;obtain ⟨u,us',e,⟨h1,h2,h3⟩,h4⟩:=q;exact ⟨u,us',e,⟨h H _ h1,h2,hf.trans h3⟩,k H _ h4⟩
inductive WkE:List D→List D→Prop
 | nil:WkE [] []
 | cons {d d':D} {ds ds':List D} (h:WkC d d') (k:WkE ds ds'):WkE (d::ds) (d'::ds')
theorem WkE.refl:∀ ds:List D,WkE ds ds
 | []=>.nil
 | _::ds=>.cons (WkC.refl _) (WkE.refl ds)
theorem WkE.els {H:Hp}{k b:Nat}:∀ {ds ds':List D} {off:Nat},WkE ds ds'→Els H k b off ds→Els H k b off ds'
 | _,_,_,.nil,h=>h
 |
  _,_,_,.cons h1 h2,h=>by
  simp only [Els] at h ⊢;obtain ⟨⟨us,e1,e2,e3⟩,h3⟩:=h;exact ⟨⟨us,e1,h1 H us e2,e3⟩,h2.els h3⟩
theorem WkE.length {ds ds':List D}(h:WkE ds ds'):ds.length=ds'.length:=by
 induction h with
 | nil=>rfl
 | cons _ _ ih=>simp [ih]
theorem WkE.append {ds ds' es es':List D}(h:WkE ds ds')(k:WkE es es'):WkE (ds++es) (ds'++es'):=by
 induction h with
 | nil=>exact k
 | cons h1 _ ih=>exact .cons h1 ih
theorem WkC.lst {k:Nat}{xs ys:List D}{c:Cap}(h:WkE xs ys):WkC (.lst k xs c) (.lst k ys c):=fun H us q=>by
 simp only [RepC] at q ⊢;obtain ⟨y,e,hc,q⟩:=q;refine ⟨y,e,hc,?_⟩;rcases q with ⟨q1,q2⟩|⟨b,off,m,e1,e2,e3⟩
 ·subst q1;cases h;exact .inl ⟨rfl,q2⟩
 exact .inr ⟨b,off,m,by rw [← h.length];exact e1,by rw [← h.length];exact e2,h.els e3⟩
theorem WkC.trans {a b c:D}(h:WkC a b)(k:WkC b c):WkC a c:=fun H us q=>k H us (h H us q)
theorem WkC.wk {d d':D}(h:WkC d d')(hs:∀ y,d.shape y=true→d'.shape y=true):Wk d d':=fun H y q=>⟨h H _ q.1,hs y q.2⟩
theorem shape_agg {l l':List D}:∀ y,(D.agg l).shape y=true→(D.agg l').shape y=true:=fun y h=>by cases y<;>first|rfl|cases h
theorem Kh1 {k k':Nat}{l l':List D}{c c':Cap}:∀ y,(D.lst k l c).shape y=true→(D.lst k' l' c').shape y=true:=fun y h=>by cases y<;>first|rfl|cases h
theorem Wk.agg {ds ds':List D}(h:WkR ds ds'):Wk (.agg ds) (.agg ds'):=(WkC.agg h).wk shape_agg
theorem Wk.lst0 {k:Nat}{xs ys:List D}{c:Cap}(h:WkE xs ys):Wk (.lst k xs c) (.lst k ys c):=(WkC.lst h).wk Kh1
theorem Wk.lst {k:Nat}{xs ys:List D}{c:Cap}(h:WkE xs ys):Wk (.lst k xs c) (.lst k ys .no):=((WkC.lst h).trans WkC.no).wk Kh1
theorem Wk.trans {a b c:D}(h:Wk a b)(k:Wk b c):Wk a c:=fun H y q=>k H y (h H y q)
theorem WkS.trans {C:Ctx}{a b c:S}(h:WkS C a b)(k:WkS C b c):WkS C a c:=fun H x w c1 t1=>by
 obtain ⟨H1,l1,c2,t2⟩:=h H x w c1 t1;obtain ⟨H2,l2,c3,t3⟩:=k H1 x w c2 t2;exact ⟨H2,Hp.le_trans l1 l2,c3,t3⟩
theorem WkS.refl {C:Ctx}(s:S):WkS C s s:=fun H _ _ c t=>⟨H,Hp.le_refl H,c,t⟩
theorem WkS.blk {C:Ctx}{t:List (Nat×D)}{h h':List (Nat×Blk)}{k:List (Nat×Value)}{b:Nat}{ds ds':List D}{T:TypeId}(j:Nat)(hb:h[j]? = some (b,.cells ds T))(hw:WkR ds ds')(e:h.set j (b,.cells ds' T)=h'):WkS C ⟨t,h,k⟩ ⟨t,h',k⟩:=fun H a w c kt=>by
 subst e;refine ⟨H,Hp.le_refl H,?_,kt⟩;obtain ⟨us,h1,h2,h3⟩:=c.blks _ (List.mem_of_getElem? hb);have hlt:=(List.getElem?_eq_some_iff.1 hb).1;have hget:=(List.getElem?_eq_some_iff.1 hb).2;have hcl:KO (h.set j (b,Blk.cells ds' T)) k=KO h k:=by
  exact KfZ hb rfl
 refine ⟨c.ag,c.le,c.new,c.same,c.size,?_,c.toks,by rw [hcl];exact c.nd,by rw [hcl];exact c.own,c.env⟩;intro p hp;rcases List.mem_or_eq_of_mem_set hp with hp|hp
 ·exact c.blks p hp
 subst hp;exact ⟨us,h1,hw H us h2,h3⟩
theorem TokOK.full {H:Hp}{w:World}{k:Nat}{y:Value}(h:CapOK .full y):TokOK H w (k,y):=fun a n m e hlt=>by
 subst e;simp only [CapOK] at h;omega
theorem Kib {k:Nat}{y:Value}(h:CapOK .full y):KbU (k,y)=[]:=by
 unfold KbU;split
 ·rename_i k0 a n m e;simp only [Prod.mk.injEq] at e;obtain ⟨_,e⟩:=e;subst e;simp only [CapOK] at h;rw [if_neg (by omega)]
 rfl
theorem Core.tokFull {C:Ctx}{H:Hp}{h:List (Nat×Blk)}{k:List (Nat×Value)}{w:World}(c:Core C H h k w)(kk:Nat){y:Value}(hy:CapOK .full y):Core C H h ((kk,y)::k) w:=by
 have hcl:KO h ((kk,y)::k)=KO h k:=by unfold KO;rw [List.flatMap_cons,Kib hy];rfl
 refine ⟨c.ag,c.le,c.new,c.same,c.size,c.blks,?_,by rw [hcl];exact c.nd,by rw [hcl];exact c.own,c.env⟩;intro p hp;rcases List.mem_cons.1 hp with rfl|hp
 ·exact TokOK.full hy
 exact c.toks p hp
theorem KfC {H:Hp}{k:Nat}{xs:List D}{y:Value}(h:Rep H (.lst k xs .full) y):CapOK .full y∧Rep H (.lst k xs (.cur y)) y:=by
 obtain ⟨hc,hr⟩:=Kbd h;refine ⟨hc,?_,by have:=h.2;cases y<;>first|rfl|cases this⟩;have h1:=h.1;simp only [RepC] at h1 ⊢;obtain ⟨y',e,_,h3⟩:=h1;have:y'=y:=by
  have hs:=h.2;cases y<;>simp [D.shape] at hs<;>simp [Value.cells] at e<;>exact e.symm
 subst this;exact ⟨y',e,rfl,h3⟩
section
variable {P : Program} {C : Ctx} {N : Nat} {ops rest : List Oper} {o : Oper} {t : List (Nat × D)} {h : List (Nat × Blk)} {k : List (Nat × Value)} {Q : Exit → S → Prop} {tab : List (Option TI)}
def WkX {Y:Type}(C:Ctx)(s:S)(S1:Y→S):Prop:=∀ H a w,Core C H s.h s.k w→TOK H s.t a→∃ y H',H.le H'∧Core C H' (S1 y).h (S1 y).k w∧TOK H' (S1 y).t a
theorem WkX.of {Y:Type}{s:S}{S1:Y→S}(y:Y)(h:WkS C s (S1 y)):WkX C s S1:=fun H a w c t=>by
 obtain ⟨H',h1,h2,h3⟩:=h H a w c t;exact ⟨y,H',h1,h2,h3⟩
theorem WkX.wk {Y:Type}{s s':S}{S1:Y→S}(h:WkS C s s')(g:WkX C s' S1):WkX C s S1:=fun H a w c t=>by
 obtain ⟨H',h1,h2,h3⟩:=h H a w c t;obtain ⟨y,H2,g1,g2,g3⟩:=g H' a w h2 h3;exact ⟨y,H2,Hp.le_trans h1 g1,g2,g3⟩
theorem KeR {t:List (Nat×D)}{H:Hp}{a:Act}(kt:TOK H t a){i:Nat}{d:D}{v:Value}(h1:a.tmps[i]? = some v)(h2:Rep H d v):TOK H ((i,d)::t) a:=by
 intro j d' e;simp only [look] at e;cases hb:Nat.beq i j with
 |
  true=>
  rw [hb] at e;simp at e;subst e;have:=Nat.eq_of_beq_eq_true hb;subst this;exact ⟨v,h1,h2⟩
 | false=>rw [hb] at e;exact kt j d' (by simpa using e)
theorem WkX.tokF {Y:Type}{S1:Y→S}{i kk:Nat}{xs:List D}(hx:look t i=some (.lst kk xs .full))(g:∀ y,WkX C ⟨(i,.lst kk xs (.cur y))::t,h,(kk,y)::k⟩ S1):WkX C ⟨t,h,k⟩ S1:=fun H a w c kt=>by
 obtain ⟨v,h1,h2⟩:=kt i _ hx;obtain ⟨h3,h4⟩:=KfC h2;exact g v H a w (c.tokFull kk h3) (KeR kt h1 h4)
theorem rep_nil {H:Hp}{k k':Nat}{c:Cap}{y:Value}(h:Rep H (.lst k [] c) y)(hc:CapOK c y):Rep H (.lst k' [] c) y:=by
 obtain ⟨h1,h2⟩:=h;refine ⟨?_,by cases y<;>first|rfl|cases h2⟩;simp only [RepC] at h1 ⊢;obtain ⟨z,e,h3,h4⟩:=h1;refine ⟨z,e,h3,?_⟩;rcases h4 with ⟨_,h4⟩|⟨b,off,m,e1,e2,e3⟩
 ·exact .inl ⟨by trivial,h4⟩
 exact .inr ⟨b,off,m,e1,e2,by simp [Els]⟩
theorem WkX.tokN {Y:Type}{S1:Y→S}{i k0:Nat}(kk:Nat)(hx:look t i=some (.lst k0 [] .full))(g:∀ y,WkX C ⟨(i,.lst kk [] (.cur y))::t,h,(kk,y)::k⟩ S1):WkX C ⟨t,h,k⟩ S1:=fun H a w c kt=>by
 obtain ⟨v,h1,h2⟩:=kt i _ hx;have h5:=rep_nil (k':=kk) h2 (Kbd h2).1;obtain ⟨h3,h4⟩:=KfC h5;exact g v H a w (c.tokFull kk h3) (KeR kt h1 h4)
theorem Kf7 {H:Hp}{w:World}{b off k0:Nat}{ds:List D}{T:TypeId}{xs:List D}(kk j:Nat)(hb:h[j]? = some (b,.cells ds T))(hd:ds[off]? = some (.lst k0 xs .full))(hk:k0=kk∨xs=[])(c:Core C H h k w):∃ y,Core C H (h.set j (b,.cells (ds.set off (.lst kk xs (.cur y))) T)) ((kk,y)::k) w:=by
 obtain ⟨us,h1,h2,h3⟩:=c.blks _ (List.mem_of_getElem? hb);obtain ⟨u,e1,e2,e3,e4⟩:=Kc8 h2 hd;have hr:Rep H (.lst k0 xs .full) u:=Ka3 e2 e3 e4;have hr':Rep H (.lst kk xs .full) u:=by
  rcases hk with rfl|rfl
  ·exact hr
  exact rep_nil hr (Kbd hr).1
 obtain ⟨h4,h5⟩:=KfC hr';refine ⟨u,?_⟩;have c1:=c.tokFull kk h4;have hcl:KO (h.set j (b,Blk.cells (ds.set off (.lst kk xs (.cur u))) T)) ((kk,u)::k)=KO h ((kk,u)::k):=by
  exact KfZ hb rfl
 refine ⟨c1.ag,c1.le,c1.new,c1.same,c1.size,?_,c1.toks,by rw [hcl];exact c1.nd,by rw [hcl];exact c1.own,c1.env⟩;intro p hp;rcases List.mem_or_eq_of_mem_set hp with hp|hp
 ·exact c1.blks p hp
 subst hp;have hc5:=h5.1;rw [Kb4 e3] at hc5;exact ⟨us,h1,Kg9 off h2 e1 ⟨hc5,rfl⟩,h3⟩
theorem WkX.cellF {Y:Type}{S1:Y→S}{b off k0:Nat}{ds:List D}{T:TypeId}{xs:List D}(kk j:Nat)(hb:h[j]? = some (b,.cells ds T))(hd:ds[off]? = some (.lst k0 xs .full))(hk:k0=kk∨xs=[])(g:∀ y,WkX C ⟨t,h.set j (b,.cells (ds.set off (.lst kk xs (.cur y))) T),(kk,y)::k⟩ S1):WkX C ⟨t,h,k⟩ S1:=fun H a w c kt=>by
 obtain ⟨y,c'⟩:=Kf7 kk j hb hd hk c;exact g y H a w c' kt
theorem WkS.perm {t t':List (Nat×D)}{h' hj:List (Nat×Blk)}{k' kj:List (Nat×Value)}(e:∀ i d,look t' i=some d→∃ d0,look t i=some d0∧Wk d0 d)(hh:h.Perm (h'++hj))(kk:k.Perm (k'++kj)):WkS C ⟨t,h,k⟩ ⟨t',h',k'⟩:=fun H a w c kt=>by
 refine ⟨H,Hp.le_refl H,(c.perm hh kk).drop (List.sublist_append_left _ _) (List.sublist_append_left _ _),?_⟩;intro i d hd;obtain ⟨d0,h1,h2⟩:=e i d hd;obtain ⟨v,h3,h4⟩:=kt i d0 h1;exact ⟨v,h3,h2 H v h4⟩
theorem K5 {Y:Type}{c:Code}{s:S}{S1:Y→S}(hs:WkX C s S1)(g:∀ y,wpD P C N c (S1 y) Q):wpD P C N c s Q:=by
 rintro a w ⟨H,c0,kt,hN,hdf⟩;obtain ⟨y,H',hle,c',kt'⟩:=hs H a w c0 kt;exact g y a w ⟨H',c',kt',hN,hdf⟩
theorem K7 {Y:Type}{c:Code}{s:S}(S1:Y→S)(h1:wpD P C N c s (fun x s'=>x=.normal∧WkX C s' S1))(h2:∀ s',WkX C s' S1→Q .normal s'):wpD P C N c s Q:=
 Kg5 h1 fun _ s' ⟨e,hw⟩=>by subst e;exact h2 s' hw
def midX {τ ρ Y:Type}(C:Ctx)(S1:τ→Y→S)(Q:Exit→S→Prop)(x:τ⊕ρ):Exit→S→Prop:=fun e s=>
 match x with
 | .inl v=>e=.normal∧WkX C s (S1 v)
 | .inr _=>Q e s
theorem KcL {τ ρ Y:Type}{c:Code}{s:S}(S1:τ→Y→S)(x:τ⊕ρ)(h1:wpD P C N c s (midX C S1 Q x))(h2:∀ v s',x=.inl v→WkX C s' (S1 v)→Q .normal s'):wpD P C N c s Q:=by
 refine Kg5 h1 fun e s' hm=>?_
 cases x with
 |
  inl v=>
  obtain ⟨e1,hw⟩:=hm;subst e1;exact h2 v s' rfl hw
 | inr r=>exact hm
theorem WkX.trans {Y Z:Type}{s:S}{S1:Y→S}{S2:Z→S}(h:WkX C s S1)(g:∀ y,WkX C (S1 y) S2):WkX C s S2:=fun H a w c kt=>by
 obtain ⟨y,H1,l1,c1,t1⟩:=h H a w c kt;obtain ⟨z,H2,l2,c2,t2⟩:=g y H1 a w c1 t1;exact ⟨z,H2,Hp.le_trans l1 l2,c2,t2⟩
def LP {σ τ:Type}(t:τ)(G:σ→Prop):Step σ τ→Prop
 | .next s=>G s
 | .done u=>u=t
theorem Kba {σ τ:Type}{t:τ}{G:σ→Prop}{s:σ}(h:Yes (some (Step.next s)) (LP t G)):G s:=by obtain ⟨x,h1,h2⟩:=h;cases h1;exact h2
theorem KaA {σ τ:Type}{t u:τ}{G:σ→Prop}(h:Yes (some (Step.done (σ:=σ) u)) (LP t G)):u=t:=by obtain ⟨x,h1,h2⟩:=h;cases h1;exact h2
theorem yes_loop {σ τ:Type}{f:σ→Option (Step σ τ)}{t:τ}{n:Nat}{x:σ}(h:loopN f (n+1) x=some t):Yes (f x) (LP t fun x'=>loopN f n x'=some t):=by
 simp only [loopN] at h;cases e:f x with
 | none=>rw [e] at h;cases h
 |
  some st=>
  rw [e] at h;cases st with
  | next s'=>exact ⟨_,rfl,h⟩
  | done u=>exact ⟨_,rfl,by simpa [LP] using h⟩
theorem Kbz {σ τ Y:Type}{f:σ→Option (Step σ τ)}{x0:σ}{u:τ}{s:S}{c:Code}(hl:loopM f x0=some u)(St:σ→Y→S)(hw:WkX C s (St x0))
  (hb:∀ (G:σ→Prop) x y,Yes (f x) (LP u G)→wpD P C N c (St x y) (thenD (fun s'=>∃ x',G x'∧WkX C s' (St x')) Q)):wpD P C N (.loop c) s Q:=by
 obtain ⟨n,hn⟩:=Kel hl;have key:∀ n x y,loopN f n x=some u→KgJ P C N c Q n (St x y):=by
  intro n;induction n with
  | zero=>intro x y h;simp [loopN] at h
  |
   succ n ih=>
   intro x y h;refine Kii (Kg5 (hb _ x y (yes_loop h)) ?_);intro e s' q;cases e with
   |
    normal=>
    obtain ⟨x',h1,h2⟩:=q;rintro a w ⟨H,c0,kt,hN,hdf⟩;obtain ⟨y',H',hle,c',kt'⟩:=h2 H a w c0 kt;exact ih x' y' h1 a w ⟨H',c',kt',hN,hdf⟩
   | _=>exact q
 exact K5 hw (fun y=>wpD_loop n (key n x0 y hn))
def retX (C:Ctx)(tab:List (Option TI))(rs:List ResultVar)(R:D→List (Nat×Blk)→List (Nat×Value)→Prop)(x:Exit)(s:S):Prop:=∀ H a w,Core C H s.h s.k w→TOK H s.t a→∃ s' H',H.le H'∧Core C H' s'.h s'.k w∧TOK H' s'.t a∧retD tab rs R x s'
theorem retX.of {rs:List ResultVar}{R:D→List (Nat×Blk)→List (Nat×Value)→Prop}{x:Exit}{s s':S}(h:WkS C s s')(g:retD tab rs R x s'):retX C tab rs R x s:=fun H a w c kt=>by
 obtain ⟨H',h1,h2,h3⟩:=h H a w c kt;exact ⟨s',H',h1,h2,h3,g⟩
theorem retX.wk {rs:List ResultVar}{R:D→List (Nat×Blk)→List (Nat×Value)→Prop}{x:Exit}{s s':S}(h:WkS C s s')(g:retX C tab rs R x s'):retX C tab rs R x s:=fun H a w c kt=>by
 obtain ⟨H',h1,h2,h3⟩:=h H a w c kt;obtain ⟨s2,H2,g1,g2⟩:=g H' a w h2 h3;exact ⟨s2,H2,Hp.le_trans h1 g1,g2⟩
theorem retX.wkX {Y:Type}{S1:Y→S}{rs:List ResultVar}{R:D→List (Nat×Blk)→List (Nat×Value)→Prop}{x:Exit}{s:S}(h:WkX C s S1)(g:∀ y,retX C tab rs R x (S1 y)):retX C tab rs R x s:=fun H a w c kt=>by
 obtain ⟨y,H',h1,h2,h3⟩:=h H a w c kt;obtain ⟨s2,H2,g1,g2⟩:=g y H' a w h2 h3;exact ⟨s2,H2,Hp.le_trans h1 g1,g2⟩
theorem retX.tokF {rs:List ResultVar}{R:D→List (Nat×Blk)→List (Nat×Value)→Prop}{x:Exit}{i kk:Nat}{xs:List D}(hx:look t i=some (.lst kk xs .full))(g:∀ y,retX C tab rs R x ⟨(i,.lst kk xs (.cur y))::t,h,(kk,y)::k⟩):retX C tab rs R x ⟨t,h,k⟩:=fun H a w c kt=>by
 obtain ⟨v,h1,h2⟩:=kt i _ hx;obtain ⟨h3,h4⟩:=KfC h2;exact g v H a w (c.tokFull kk h3) (KeR kt h1 h4)
theorem retX.tokN {rs:List ResultVar}{R:D→List (Nat×Blk)→List (Nat×Value)→Prop}{x:Exit}{i k0:Nat}(kk:Nat)(hx:look t i=some (.lst k0 [] .full))(g:∀ y,retX C tab rs R x ⟨(i,.lst kk [] (.cur y))::t,h,(kk,y)::k⟩):retX C tab rs R x ⟨t,h,k⟩:=fun H a w c kt=>by
 obtain ⟨v,h1,h2⟩:=kt i _ hx;have h5:=rep_nil (k':=kk) h2 (Kbd h2).1;obtain ⟨h3,h4⟩:=KfC h5;exact g v H a w (c.tokFull kk h3) (KeR kt h1 h4)
theorem retX.cellF {rs:List ResultVar}{R:D→List (Nat×Blk)→List (Nat×Value)→Prop}{x:Exit}{b off k0:Nat}{ds:List D}{T:TypeId}{xs:List D}(kk j:Nat)(hb:h[j]? = some (b,.cells ds T))(hd:ds[off]? = some (.lst k0 xs .full))(hk:k0=kk∨xs=[])(g:∀ y,retX C tab rs R x ⟨t,h.set j (b,.cells (ds.set off (.lst kk xs (.cur y))) T),(kk,y)::k⟩):retX C tab rs R x ⟨t,h,k⟩:=fun H a w c kt=>by
 obtain ⟨y,c'⟩:=Kf7 kk j hb hd hk c;exact g y H a w c' kt
theorem KT {f:FuncId}{fn:Func}{c:Code}{ds:List D}{R:D→List (Nat×Blk)→List (Nat×Value)→Prop}{rs:List ResultVar}(ht:TabOK P tab)
  (hf : P.funcs[f]? = some fn) (hb : fn.body = some c) (hn : (fn.name == "runtime.NumGoroutine") = false) {N : Nat} (hN : fn.ntmps = N) (hl : Nat.ble ds.length N = true) (hrs : fn.results.toList = rs)
  (hw:∀ C,wpD P C N c ⟨argT 0 ds,h,k⟩ (retX C tab rs R)):CallsD P f ds h k R:=by
 refine enter ht hf hb hn hN hl hrs fun C=>?_
 intro a w r;refine wp_mono (hw C a w r) ?_;rintro x a' w' ⟨s,⟨H,c0,kt,hN,hdf⟩,hk⟩;obtain ⟨s',H',hle,c',kt',hr⟩:=hk H a' w' c0 kt;exact ⟨s',⟨H',c',kt',hN,hdf⟩,hr⟩
theorem Kh2 {s:S}{r:ResultVar}{rs:List ResultVar}{d:D}{ds:List D}(h1:KeO tab s r d)(h2:resL tab s rs ds):resL tab s (r::rs) (d::ds):=⟨d,ds,rfl,h1,h2⟩
theorem resOne_tmp {s:S}{i:Nat}{d:D}(h1:look s.t i=some d):KeO tab s (.tmp i) d:=h1
theorem Kip {s:S}{a b off:Nat}{T T':TypeId}{ds:List D}{i:TI}{d:D}(j:Nat)(h1:look s.t a=some (.ptr b off))(h2:s.h[j]? = some (b,Blk.cells ds T'))(h3:ti tab T=some i)(h4:partD i ds off=some d):KeO tab s (.cell a T) d:=⟨j,b,off,ds,T',i,h1,h2,h3,h4⟩
theorem retD_mk {R:D→List (Nat×Blk)→List (Nat×Value)→Prop}{rs:List ResultVar}{x:Exit}{s:S}{ds:List D}{hh:List (Nat×Blk)}{kk:List (Nat×Value)}(hx:x=.ret∨x=.normal)(hr:resL tab s rs ds)(hs:hh.Sublist s.h)(ks:kk.Sublist s.k)(g:R (wrapD ds) hh kk):retD tab rs R x s:=⟨hx,ds,hh,kk,hr,hs,ks,g⟩
theorem x_cut {α:Type}{e0:α→D}{kk:Nat}{T e:TypeId}{x:Operand}{lo hi:Option Operand}{l' n':Option Int}{xs ys:List α}{l n:Int}{c:Cap}{ti0 tie:TI}(q:cutL xs l n=some ys)(hT:TabOK P tab)(ho:o.op=.slice T x lo hi none)
  (hx:opD t x=some (.lst kk (xs.map e0) c)) (e1:optI t lo=some l') (e2:optI t hi=some n') (hti:ti tab T=some ti0) (hs:ti0.d=.slice e) (hte:ti tab e=some tie) (hk:tie.size=kk) (h1:l'.getD 0=l) (h2:n'.getD xs.length=n):Ex P o t (.lst kk (ys.map e0) .no):=by
 obtain ⟨q1,q2,q3,q4,q5⟩:=cutL_ok q;have:=x_part hT ho hx e1 e2 hti hs hte hk (h1.trans q2) (by rw [Kao];exact h2.trans q3) q4 (by rw [Kao];exact q5);rw [q1,List.map_take,List.map_drop];exact this
theorem p_cut {α:Type}{e0:α→D}{i kk:Nat}{T e:TypeId}{x:Operand}{lo hi:Option Operand}{l' n':Option Int}{xs ys:List α}{l n:Int}{c:Cap}{ti0 tie:TI}(q:cutL xs l n=some ys)(hT:TabOK P tab)(ho:o.op=.slice T x lo hi none)(hw:wantD ops t o=some true)(hd:o.dst=some i)(hi0:Nat.blt i N=true)
  (hx:opD t x=some (.lst kk (xs.map e0) c)) (e1:optI t lo=some l') (e2:optI t hi=some n') (hti:ti tab T=some ti0) (hs:ti0.d=.slice e) (hte:ti tab e=some tie) (hk:tie.size=kk) (h1:l'.getD 0=l) (h2:n'.getD xs.length=n)
  (g:opsD P C N ops rest ⟨(i,.lst kk (ys.map e0) .no)::t,h,k⟩ Q):opsD P C N ops (o::rest) ⟨t,h,k⟩ Q:=by
 obtain ⟨q1,q2,q3,q4,q5⟩:=cutL_ok q;refine p_part hT ho hw hd hi0 hx e1 e2 hti hs hte hk (h1.trans q2) (by rw [Kao];exact h2.trans q3) q4 (by rw [Kao];exact q5) ?_;rw [q1,List.map_take,List.map_drop] at g;exact g
theorem Ken {α:Type}{e0:α→D}{i kk:Nat}{xs ys zs:List α}{bb:Nat}{c:Cap}(q:app bb xs ys=some zs)(hx:look t i=some (.lst kk (xs.map e0++ys.map e0) c))(g:opsD P C N ops rest ⟨(i,.lst kk (zs.map e0) c)::t,h,k⟩ Q):opsD P C N ops rest ⟨t,h,k⟩ Q:=
 p_eq hx (Wk.of_eq (by rw [app_map q])) g
theorem perm_set {α:Type}:∀ {l:List α} {j:Nat} {x y:α},l[j]? = some x→(y::l.eraseIdx j).Perm (l.set j y)
 | [],j,x,y,h=>by simp at h
 | a::l,0,x,y,h=>by simp
 |
  a::l,j+1,x,y,h=>by
  simp at h;simp only [List.eraseIdx_cons_succ,List.set_cons_succ];exact (List.Perm.swap a y _).trans ((perm_set h).cons a)
end
section
variable {P : Program} {C : Ctx} {N : Nat} {ops rest : List Oper} {o : Oper} {t : List (Nat × D)} {h : List (Nat × Blk)} {k : List (Nat × Value)} {Q : Exit → S → Prop} {tab : List (Option TI)}
theorem Kck {τ ρ Y:Type}{S1:τ→Y→S}{s:S}{v:τ}(g:WkX C s (S1 v)):midX (ρ:=ρ) C S1 Q (.inl v) .normal s:=⟨rfl,g⟩
theorem Kcl {τ ρ Y:Type}{S1:τ→Y→S}{s:S}{r:ρ}(g:Q .ret s):midX C S1 Q (.inr r) .ret s:=g
theorem CallsD.drop {f:FuncId}{ds:List D}{R:D→List (Nat×Blk)→List (Nat×Value)→Prop}{d1:D}(c:CallsD P f ds h k R)(hr:∀ d h k,R d h k→Wk d d1):CallsD P f ds h k (fun d h k=>d=d1∧h=[]∧k=[]):=by
 refine ⟨c.1,fun H w vs h1 h2 h3 h4 h5=>(c.2 H w vs h1 h2 h3 h4 h5).mono ?_⟩;rintro e w' ⟨v,H',d,h',k',e1,e2,e3,e4⟩;exact ⟨v,H',d1,[],[],e1,hr d h' k' e4 H' v e2,e3.drop (List.nil_sublist _) (List.nil_sublist _),rfl,rfl,rfl⟩
theorem Ex.wk {d d':D}(h:Ex P o t d)(k:Wk d d'):Ex P o t d':=fun H a w kt=>let ⟨v,h1,h2⟩:=h H a w kt;⟨v,h1,k H v h2⟩
theorem ExE.wk {d d':D}(h:ExE P o t d)(k:Wk d d'):ExE P o t d':=fun H a w hA kt=>let ⟨v,w',H',h1,h2,h3⟩:=h H a w hA kt;⟨v,w',H',h1,h2,k H' v h3⟩
theorem p_cellF {b off k0:Nat}{ds:List D}{T:TypeId}{xs:List D}(kk j:Nat)(hb:h[j]? = some (b,.cells ds T))(hd:ds[off]? = some (.lst k0 xs .full))(hk:k0=kk∨xs=[])(g:∀ y,opsD P C N ops rest ⟨t,h.set j (b,.cells (ds.set off (.lst kk xs (.cur y))) T),(kk,y)::k⟩ Q):opsD P C N ops rest ⟨t,h,k⟩ Q:=by
 rintro a w ⟨H,c0,kt,hN,hdf⟩;obtain ⟨y,c'⟩:=Kf7 kk j hb hd hk c0;exact g y a w ⟨H,c',kt,hN,hdf⟩
theorem o_blk {b:Nat}{ds ds':List D}{T:TypeId}{h':List (Nat×Blk)}(j:Nat)(hb:h[j]? = some (b,.cells ds T))(hw:WkR ds ds')(e:h.set j (b,.cells ds' T)=h')(g:opsD P C N ops rest ⟨t,h',k⟩ Q):opsD P C N ops rest ⟨t,h,k⟩ Q:=
 ops_wk (s:=⟨t,h,k⟩) (s':=⟨t,h',k⟩) (WkS.blk j hb hw e) g
theorem w_eq {c:Code}{i:Nat}{d d':D}(hx:look t i=some d)(e:Wk d d')(g:wpD P C N c ⟨(i,d')::t,h,k⟩ Q):wpD P C N c ⟨t,h,k⟩ Q:=by
 rintro a w ⟨H,c0,kt,hN,hdf⟩;obtain ⟨v,h1,h2⟩:=kt i _ hx;exact g a w ⟨H,c0,KeR kt h1 (e H v h2),hN,hdf⟩
end
def eI64 (n:Int):D:=.v (.int .i64 n)
def eStr (s:ByteArray):D:=.v (.string s)
end
section
open Go
set_option linter.all false
def Le {α:Type}(m m':Option α):Prop:=∀ r,m=some r→m'=some r
theorem Le.refl {α:Type}(m:Option α):Le m m:=fun _ h=>h
theorem Le.none {α:Type}(m:Option α):Le Option.none m:=fun _ h=>by cases h
theorem Le.bind {α β:Type}{m m':Option α}{f f':α→Option β}(h:Le m m')(k:∀ x,Le (f x) (f' x)):Le (m.bind f) (m'.bind f'):=fun r e=>by
 rw [Option.bind_eq_some_iff] at e ⊢;obtain ⟨a,h1,h2⟩:=e;exact ⟨a,h a h1,k a r h2⟩
theorem Le.cond {α:Type}{c:Bool}{m m' n n':Option α}(h:Le m m')(k:Le n n'):Le (bif c then m else n) (bif c then m' else n'):=by
 cases c
 ·exact k
 exact h
theorem Le.elim {α β γ:Type}{f f':α→Option γ}{g g':β→Option γ}{x:α⊕β}(h:∀ a,Le (f a) (f' a))(k:∀ b,Le (g b) (g' b)):Le (Sum.elim f g x) (Sum.elim f' g' x):=by
 cases x
 ·exact h _
 exact k _
theorem Le.loop {σ τ:Type}{f f':σ→Option (Step σ τ)}{s:σ}(h:∀ s,Le (f s) (f' s)):Le (loopM f s) (loopM f' s):=fun r e=>by
 obtain ⟨n,hn⟩:=Kel e;have key:∀ n s,loopN f n s=some r→loopN f' n s=some r:=by
  intro n;induction n with
  | zero=>intro s h;simp [loopN] at h
  |
   succ n ih=>
   intro s e;simp only [loopN] at e ⊢;cases hf:f s with
   | none=>rw [hf] at e;cases e
   |
    some x=>
    rw [hf] at e;rw [h s x hf];cases x with
    | next s'=>exact ih s' e
    | done t=>exact e
 exact Kf6 (key n s hn)
open Classical in
def anyN {α:Type}(f:Nat→Option α):Option α:=if h:∃ n r,f n=some r then some h.choose_spec.choose else Option.none
theorem Kcz {α:Type}{f:Nat→Option α}{r:α}(h:anyN f=some r):∃ n,f n=some r:=by
 unfold anyN at h;split at h
 ·rename_i hx;simp only [Option.some.injEq] at h;exact ⟨_,h ▸ hx.choose_spec.choose_spec⟩
 cases h
theorem Kdh {α:Type}{f:Nat→Option α}(hle:∀ n,Le (f n) (f (n+1))){r:α}{n:Nat}(h:f n=some r):anyN f=some r:=by
 have up:∀ (k n:Nat) (r:α),f n=some r→f (n+k)=some r:=by
  intro k;induction k with
  | zero=>intro n r e;exact e
  | succ k ih=>intro n r e;exact hle _ _ (ih n r e)
 have hx:∃ n r,f n=some r:=⟨n,r,h⟩;unfold anyN;rw [dif_pos hx];have h1:=hx.choose_spec.choose_spec;have h2:=up n _ _ h1;have h3:=up hx.choose _ _ h;rw [Nat.add_comm] at h3;exact h2.symm.trans h3
def catS (a b:ByteArray):Option ByteArray:=bif decide (((a.size+b.size:Nat):Int)≤IntKind.i64.max) then some (a++b) else none
theorem catS_ok {a b r:ByteArray}(h:catS a b=some r):r=a++b∧((a.size+b.size:Nat):Int)≤IntKind.i64.max:=by
 unfold catS at h;by_cases hc:((a.size+b.size:Nat):Int)≤IntKind.i64.max
 ·rw [decide_eq_true hc] at h;simp only [cond_true,Option.some.injEq] at h;exact ⟨h.symm,hc⟩
 rw [decide_eq_false hc] at h;cases h
theorem i64max:IntKind.i64.max=9223372036854775807:=by decide
theorem catS_of {a b:ByteArray}(h:a.size+b.size≤9223372036854775807):catS a b=some (a++b):=by
 unfold catS;rw [decide_eq_true (by rw [i64max];omega)];rfl
section
variable {P : Program} {C : Ctx} {N : Nat} {ops rest : List Oper} {o : Oper} {t : List (Nat × D)} {h : List (Nat × Blk)} {k : List (Nat × Value)} {Q : Exit → S → Prop} {tab : List (Option TI)}
theorem x_cat {xt yt:TypeId}{x y:Operand}{a b r:ByteArray}(q:catS a b=some r)(ho:o.op=.binOp .add xt x y yt)(hx:opD t x=some (.v (.string a)))(hy:opD t y=some (.v (.string b))):Ex P o t (.v (.string r)):=fun H ac w kt=>by
 obtain ⟨rfl,hl⟩:=catS_ok q;refine ⟨.string (a++b),?_,rep_v rfl⟩;unfold execOp;rw [ho];refine Kbk ?_;rw [Kac (K4 kt hx),Kac (K4 kt hy)];have hn:¬ IntKind.i64.max < ((a.size+b.size:Nat):Int):=by omega
 have h2:binOp .add xt (.string a) (.string b)=pure (.string (a++b)):=by
  unfold binOp Op.stringOp;simp only [gt_iff_lt];rw [if_neg hn]
 have h1:(eqGuard .add xt x y (.string a) (.string b)).run P w=.ok () w:=by simp [eqGuard]<;>rfl
 rw [Kv h1,h2];rfl
theorem p_cat {i:Nat}{xt yt:TypeId}{x y:Operand}{a b r:ByteArray}(q:catS a b=some r)(ho:o.op=.binOp .add xt x y yt)(hw:wantD ops t o=some true)(hd:o.dst=some i)(hi:Nat.blt i N=true)(hx:opD t x=some (.v (.string a)))(hy:opD t y=some (.v (.string b)))
 (g:opsD P C N ops rest ⟨(i,.v (.string r))::t,h,k⟩ Q):opsD P C N ops (o::rest) ⟨t,h,k⟩ Q:=KcF (s:=⟨t,h,k⟩) hw hd hi (x_cat q ho hx hy) g
theorem x_max {T T':TypeId}{x y:Operand}{kk:IntKind}{a b:Int}(ho:o.op=.call ⟨.builtin .max,[x,y].toArray,#[T,T']⟩)(hx:opD t x=some (.v (.int kk a)))(hy:opD t y=some (.v (.int kk b))):Ex P o t (.v (.int kk (max a b))):=fun H ac w kt=>by
 refine ⟨.int kk (max a b),Kcx (s:=Builtin.max_) ho (fun _ _=>rfl) ?_,rep_v rfl⟩;simp only [List.map_cons,List.map_nil,Kac (K4 kt hx),Kac (K4 kt hy)];show (pure (.int kk (if b > a then b else a)):Sem Value).run P w=_
 have:max a b=if b > a then b else a:=by split<;>omega
 rw [this];rfl
theorem p_max {i:Nat}{T T':TypeId}{x y:Operand}{kk:IntKind}{a b:Int}(ho:o.op=.call ⟨.builtin .max,[x,y].toArray,#[T,T']⟩)(hw:wantD ops t o=some true)(hd:o.dst=some i)(hi:Nat.blt i N=true)(hx:opD t x=some (.v (.int kk a)))(hy:opD t y=some (.v (.int kk b)))
 (g:opsD P C N ops rest ⟨(i,.v (.int kk (max a b)))::t,h,k⟩ Q):opsD P C N ops (o::rest) ⟨t,h,k⟩ Q:=KcF (s:=⟨t,h,k⟩) hw hd hi (x_max ho hx hy) g
theorem x_min {T T':TypeId}{x y:Operand}{kk:IntKind}{a b:Int}(ho:o.op=.call ⟨.builtin .min,[x,y].toArray,#[T,T']⟩)(hx:opD t x=some (.v (.int kk a)))(hy:opD t y=some (.v (.int kk b))):Ex P o t (.v (.int kk (min a b))):=fun H ac w kt=>by
 refine ⟨.int kk (min a b),Kcx (s:=Builtin.min_) ho (fun _ _=>rfl) ?_,rep_v rfl⟩;simp only [List.map_cons,List.map_nil,Kac (K4 kt hx),Kac (K4 kt hy)];show (pure (.int kk (if b < a then b else a)):Sem Value).run P w=_
 have:min a b=if b < a then b else a:=by split<;>omega
 rw [this];rfl
theorem p_min {i:Nat}{T T':TypeId}{x y:Operand}{kk:IntKind}{a b:Int}(ho:o.op=.call ⟨.builtin .min,[x,y].toArray,#[T,T']⟩)(hw:wantD ops t o=some true)(hd:o.dst=some i)(hi:Nat.blt i N=true)(hx:opD t x=some (.v (.int kk a)))(hy:opD t y=some (.v (.int kk b)))
 (g:opsD P C N ops rest ⟨(i,.v (.int kk (min a b)))::t,h,k⟩ Q):opsD P C N ops (o::rest) ⟨t,h,k⟩ Q:=KcF (s:=⟨t,h,k⟩) hw hd hi (x_min ho hx hy) g
theorem KeS {H:Hp}:∀ {l m:List D} {us vs:List Value},RepsV H l us→RepsV H m vs→RepsV H (l++m) (us++vs)
 | [],m,us,vs,h,k=>by simp only [RepsV] at h;subst h;simpa using k
 |
  d::l,m,us,vs,h,k=>by
  simp only [RepsV] at h;obtain ⟨u,us',rfl,h1,h2⟩:=h;simp only [List.cons_append,RepsV];exact ⟨u,_,rfl,h1,KeS h2 k⟩
theorem rep_fn_inv {H:Hp}{f:Fn}{as_ cs:List D}{y:Value}(h:Rep H (.fn f as_ cs) y):∃ vs ws,y=.func f vs.toArray ws.toArray∧RepsV H as_ vs∧RepsV H cs ws:=by
 obtain ⟨h1,h2⟩:=h;cases y<;>simp [D.shape] at h2<;>simp [RepC,Value.cells] at h1<;>simp [h1]
theorem callV_run {f:FuncId}{args:List Operand}{ts:Array TypeId}{x:Operand}{a:Act}{w:World}{vs ws:List Value}(ho:o.op=.call ⟨.value x,args.toArray,ts⟩)(hx:a.eval x=.func (.func f) vs.toArray ws.toArray)(h:Goes P f):(execOp a.eval o).run P w=.ok (.enter f (vs++args.map a.eval++ws).toArray) w:=by
 unfold execOp;rw [ho];simp only [];have:(resolve a.eval ⟨.value x,args.toArray,ts⟩ o.type).run P w=.ok ⟨.fn (.func f) ws.toArray,vs.toArray++(args.map a.eval).toArray⟩ w:=by
  simp [resolve,Deferred.ofValue,hx];first|done|rfl
 rw [Kv this];show (callFunc f (vs.toArray++(args.map a.eval).toArray++ws.toArray)).run P w=_
 rw [KgA h];simp
theorem KdA {f:FuncId}{x:Operand}{args:List Operand}{ts:Array TypeId}{i:Nat}{as_ cs ds da ds':List D}{h1 h2:List (Nat×Blk)}{k1 k2:List (Nat×Value)}{R:D→List (Nat×Blk)→List (Nat×Value)→Prop}
  (hc:CallsD P f ds' h1 k1 R) (hx:opD t x=some (.fn (.func f) as_ cs)) (ho:o.op=.call ⟨.value x,args.toArray,ts⟩) (hw:wantD ops t o=some true) (hd:o.dst=some i) (hi:Nat.blt i N=true) (ha:KbQ args (opD t)=some ds) (hda:as_++ds++cs=da) (hwk:WkL da ds')
  (hh:h.Perm (h1++h2)) (hk:k.Perm (k1++k2)) (g:∀ d h' k',R d h' k'→opsD P C N ops rest ⟨(i,d)::t,h'++h2,k'++k2⟩ Q):opsD P C N ops (o::rest) ⟨t,h,k⟩ Q:=by
 subst hda;rintro a w ⟨H,c,kt,hN,hdf⟩;obtain ⟨vs,ws,ex,r1,r2⟩:=rep_fn_inv (K4 kt hx);unfold wpList;rw [Ka9 kt hw,if_pos rfl];refine .inl ?_;unfold Oper.wp;rw [callV_run ho ex hc.1,Oper.upon_enter];have c0:=c.perm hh hk;have nd:=(Kb3 h1 h2 k1 k2).nodup_iff.1 c0.nd;rw [List.nodup_append] at nd;have hv:=hwk H _ (KeS (KeS r1 (Kca kt ha)) r2);have:=hc.2 H w _ hv c.ag (fun p hp=>c0.blks p (List.mem_append_left _ hp)) (fun p hp=>c0.toks p (List.mem_append_left _ hp)) nd.1;refine this.mono ?_;rintro e w' ⟨v,H',d,h',k',rfl,hr,hcore,hR⟩;simp only [];rw [hd]
 refine g d h' k' hR _ _ ⟨H',Core.call c0 hcore,TOK.put (kt.mono hcore.le) (by rw [hN];simpa using hi) hr,?_,hdf⟩;simp only [Act.put,Array.size_setIfInBounds];exact hN
theorem Kf8 {f:FuncId}{x:Operand}{args:List Operand}{ts:Array TypeId}{i:Nat}{as_ cs ds da ds':List D}{R:D→Prop}
  (hc:CallsD P f ds' [] [] (fun d h k=>R d∧h=[]∧k=[])) (hx:opD t x=some (.fn (.func f) as_ cs)) (ho:o.op=.call ⟨.value x,args.toArray,ts⟩) (hw:wantD ops t o=some true) (hd:o.dst=some i) (hi:Nat.blt i N=true) (ha:KbQ args (opD t)=some ds) (hda:as_++ds++cs=da) (hwk:WkL da ds')
  (g:∀ d,R d→opsD P C N ops rest ⟨(i,d)::t,h,k⟩ Q):opsD P C N ops (o::rest) ⟨t,h,k⟩ Q:=
 KdA (h1:=[]) (k1:=[]) (h2:=h) (k2:=k) hc hx ho hw hd hi ha hda hwk (List.Perm.refl _) (List.Perm.refl _) fun d h' k' ⟨r,e1,e2⟩=>by subst e1;subst e2;exact g d r
theorem KgU {H:Hp}{b:Nat}:∀ (bs:List UInt8) (off:Nat),Told H b off (bs.map fun c=>Value.int .u8 c.toNat)→Els H 1 b off (bs.map byteD)
 | [],off,_=>by simp [Els]
 |
  c::bs,off,h=>by
  simp only [List.map_cons,Els,byteD];refine ⟨⟨[.int .u8 c.toNat],rfl,by simp [RepC],fun j u e=>?_,by simp [one]⟩,KgU bs (off+1) fun j u e=>?_⟩
  ·cases j with
   | zero=>simp at e;subst e;exact h 0 _ (by simp)
   | succ j=>simp at e
  have:=h (j+1) u (by simpa using e);rwa [show off+(j+1)=off+1+j by omega] at this
end
end
section
open Go
set_option linter.all false
theorem Kee {w:World}{a:Addr}{n k:Nat}:(w.freeze a n).heap[k]? = w.heap[k]?∨(a.block=k∧∃ c e f g,w.heap[k]? = some (.cells c e f)∧(w.freeze a n).heap[k]? = some (.cells c e g)):=by
 unfold World.freeze;split
 ·exact .inl rfl
 by_cases hk:a.block=k
 ·subst hk;simp only [Array.getElem?_modify,if_true];cases h:w.heap[a.block]? with
  | none=>exact .inl rfl
  |
   some o=>
   cases o<;>first|exact .inl rfl|(rename_i c e f;exact .inr ⟨trivial,c,e,f,_,rfl,rfl⟩)
 left;simp [Array.getElem?_modify,hk]
theorem KgV {w:World}{a x:Addr}{n:Nat}:(w.freeze a n).cell? x=w.cell? x:=by
 unfold World.cell?;rcases Kee (w:=w) (a:=a) (n:=n) (k:=x.block) with h|⟨_,c,e,f,g,h1,h2⟩
 ·rw [h]
 rw [h1,h2]
theorem Kht (w:World)(a:Addr)(n:Nat):Env w (w.freeze a n)∧(w.freeze a n).heap.size=w.heap.size:=by
 unfold World.freeze;split
 ·exact ⟨Env.refl w,rfl⟩
 exact ⟨⟨rfl,rfl,rfl,Nat.le_refl _⟩,by simp⟩
theorem Kh3 {H:Hp}{w:World}{a:Addr}{n:Nat}(g:GG H w):GG H (w.freeze a n):=by
 obtain ⟨h1,h2,T,fz,h3⟩:=g;refine ⟨h1,h2,?_⟩;rcases Kee (w:=w) (a:=a) (n:=n) (k:=tabG) with h|⟨_,c,e,f,f',h4,h5⟩
 ·exact ⟨T,fz,by rw [h];exact h3⟩
 rw [h4] at h3;simp only [Option.some.injEq,Obj.cells.injEq] at h3;exact ⟨_,_,by rw [h5,h3.1]⟩
theorem Core.freezeNew {H H':Hp}{w w':World}{b off n:Nat}(c:Core ⟨H,w,[]⟩ H' [] [] w')(hb:w.heap.size≤b):Core ⟨H,w,[]⟩ H' [] [] (w'.freeze ⟨b,off,none⟩ n):=by
 obtain ⟨he,hs⟩:=Kht w' ⟨b,off,none⟩ n;refine ⟨⟨fun a v e=>by rw [KgV];exact c.ag a v e,Kh3 c.ag.gg⟩,c.le,c.new,fun k hk hm=>?_,by rw [hs];exact c.size,by simp,by simp,by simp [KO],by simp [KO],c.env.trans he⟩;have hk':k < w.heap.size:=hk;rcases Kee (w:=w') (a:=⟨b,off,none⟩) (n:=n) (k:=k) with h|⟨h1,_⟩
 ·rw [h];exact c.same k hk hm
 simp only at h1;omega
theorem run_mark {P:Program}{w:World}{b off:Nat}:∃ w',(markStringish ⟨b,off,none⟩).run P w=.ok () w'∧(w'=w∨∃ o n,w'=w.freeze ⟨b,o,none⟩ n):=by
 unfold markStringish;have h:(shape b).run P w=.ok (w.shape? b) w:=rfl;rw [Kv h];cases w.shape? b with
 | none=>exact ⟨w,rfl,.inl rfl⟩
 | some p=>exact ⟨w.freeze ⟨b,p.2,none⟩ 1,rfl,.inr ⟨p.2,1,rfl⟩⟩
section
variable {P : Program} {C : Ctx} {N : Nat} {ops rest : List Oper} {o : Oper} {t : List (Nat × D)} {h : List (Nat × Blk)} {k : List (Nat × Value)} {Q : Exit → S → Prop} {tab : List (Option TI)}
theorem x_ofStr {T T' e:TypeId}{x:Operand}{s:ByteArray}{i0 i1 ie:TI}(hT:TabOK P tab)(ho:o.op=.convert T T' x)(hx:opD t x=some (.v (.string s)))(hi0:ti tab T=some i0)(hd0:i0.d=.str)(hi1:ti tab T'=some i1)(hd1:i1.d=.slice e)(hie:ti tab e=some ie)(hde:ie.d=.int .u8):ExE P o t (.lst 1 (s.data.toList.map byteD) .no):=fun H a w hA kt=>by
 have core:Core ⟨H,w,[]⟩ H [] [] w:=Core.here hA;obtain ⟨d0,u0,u1⟩:=Kah (w:=w) (ti_ok hT hi0);have e0:=KdL (u1.trans hd0);subst e0;obtain ⟨d1,u2,u3⟩:=Kah (w:=w) (ti_ok hT hi1);have e1:=Kb7 (u3.trans hd1);subst e1;obtain ⟨d2,u4,u5⟩:=Kah (w:=w) (ti_ok hT hie);have e2:=Keh (u5.trans hde);subst e2;have hx:=Kac (K4 kt hx);have hrun:∀ (v:Value) (w':World),(Conv.stringToBytes e s).run P w=.ok v w'→(execOp a.eval o).run P w=.ok (.value v) w':=by
  intro v w' hv;unfold execOp;rw [ho];refine Kbk ?_;rw [hx];unfold convert;rw [Kv u0,Kv u2];simp only [];rw [Kv u4];exact hv
 have hch:∃ n,s.size≤n∧(choose (.appendCap s.size 0 e)).run P w=.ok n (wDrew w):=by
  have hforced:(Question.appendCap s.size 0 e).forced=false:=rfl;refine ⟨_,?_,by simp only [choose,Sem.run,hforced];rfl⟩;simp only [Question.cut];omega
 obtain ⟨n,hn,hc1⟩:=hch;have core1:Core ⟨H,w,[]⟩ H [] [] (wDrew w):=core.drew;let us:List Value:=s.data.toList.map fun b=>Value.int .u8 b.toNat
 let vs:List Value:=us++(List.replicate (n - s.size) (Value.int .u8 0));obtain ⟨hle,core2,told⟩:=core1.allocTold (us:=us) (vs:=vs) e (fun j u q=>by
  have hl:=(List.getElem?_eq_some_iff.1 q).1;rw [List.getElem?_append_left hl];exact q)
 have hnew:(wDrew w).heap.size=w.heap.size:=rfl;obtain ⟨w3,hm,hw3⟩:=run_mark (P:=P) (w:=(wDrew w).alloc (.cells vs.toArray e)) (b:=w.heap.size) (off:=0);have core3:Core ⟨H,w,[]⟩ (tell H (wDrew w).heap.size us) [] [] w3:=by
  rcases hw3 with rfl|⟨q,m,rfl⟩
  ·exact core2
  exact core2.freezeNew (Nat.le_refl _)
 have hel:=KgU (H:=tell H (wDrew w).heap.size us) (b:=w.heap.size) s.data.toList 0 told;refine ⟨.slice (some ⟨w.heap.size,0,none⟩) s.size n,w3,_,hrun _ _ ?_,core3,?_⟩
 ·unfold Conv.stringToBytes;rw [Kv hc1];have hvs:(s.data.map fun b=>Value.int .u8 b.toNat)++Array.replicate (n - s.size) (Value.int .u8 0)=vs.toArray:=by
   apply Array.toList_inj.1;simp [vs,us]
  simp only [hvs];have hr:(newRow e vs.toArray).run P (wDrew w)=.ok (⟨w.heap.size,0,none⟩:Addr) ((wDrew w).alloc (.cells vs.toArray e)):=rfl;rw [Kv hr,Kv hm];rfl
 refine Ka3 ?_ rfl rfl;simp only [RepC,CapOK];have hsz:s.data.toList.length=s.size:=Array.length_toList;by_cases h0:s.size=0
 ·refine ⟨_,rfl,trivial,.inl ⟨?_,some ⟨w.heap.size,0,none⟩,n,by rw [h0],fun q=>by cases q⟩⟩;have:s.data.toList.length=0:=hsz.trans h0;rw [List.length_eq_zero_iff] at this;rw [this];rfl
 exact ⟨_,rfl,trivial,.inr ⟨w.heap.size,0,n,by rw [List.length_map,hsz],by rw [List.length_map,hsz];exact hn,hel⟩⟩
theorem p_litB {i1 i2 n kk:Nat}{o2:Oper}{T e:TypeId}{ps:Array (Nat×Operand)}{i0 ie:TI}{r:List D}(hT:TabOK P tab)(ho:o.op=.buildSlice T n ps)(hw:wantD ops t o=some true)(hd:o.dst=some i1)(hi:Nat.blt i1 N=true)
  (ho2:o2.op=.convert T T (.tmp i1)) (hw2:wantD ops ((i1,.lst kk (KcI ie.agg kk n r) .no)::t) o2=some true) (hd2:o2.dst=some i2) (hi2:Nat.blt i2 N=true)
  (hi0:ti tab T=some i0) (hd0:i0.d=.slice e) (hie:ti tab e=some ie) (hde:ie.d=.int .u8) (hks:ie.size=kk) (hz:ie.zero.all one=true) (hzl:Nat.beq ie.zero.length kk=true) (hpos:Nat.ble 1 (n*kk)=true) (hmax:Nat.ble (n*kk) 16777216=true) (hag:(ie.agg || Nat.beq kk 1)=true)
  (er:KcQ tab ((List.range n).map fun j=>(e,j*kk)) t ps.toList (List.replicate (n*kk) .any)=some r)
  (g:opsD P C N ops rest ⟨(i2,.lst kk (KcI ie.agg kk n r) .no)::(i1,.lst kk (KcI ie.agg kk n r) .no)::t,h,k⟩ Q):opsD P C N ops (o::o2::rest) ⟨t,h,k⟩ Q:=by
 rintro a w ⟨H,c,kt,hN,hdf⟩;obtain ⟨w1,H1,hr1,c1,rep1⟩:=x_litS hT ho hi0 hd0 hie hks hz hzl hpos hmax hag er H a w c.ag kt;have rep1':Rep H1 (.lst kk (KcI ie.agg kk n r) .no) (.slice (some ⟨w.heap.size,0,none⟩) n n):=Wk.no H1 _ rep1;obtain ⟨w2,hm,hw2'⟩:=run_mark (P:=P) (w:=w1) (b:=w.heap.size) (off:=0);have c2:Core ⟨H,w,[]⟩ H1 [] [] w2:=by
  rcases hw2' with rfl|⟨q,m,rfl⟩
  ·exact c1
  exact c1.freezeNew (Nat.le_refl _)
 have c3:Core C H1 h k w2:=by
  have:=Core.call (h1:=[]) (k1:=[]) (h2:=h) (k2:=k) (by simpa using c) c2;simpa using this
 have kt1:TOK H1 ((i1,.lst kk (KcI ie.agg kk n r) .no)::t) (a.put (some i1) (.slice (some ⟨w.heap.size,0,none⟩) n n)):=TOK.put (kt.mono c1.le) (by rw [hN];simpa using hi) rep1';have hsz1:(a.put (some i1) (.slice (some ⟨w.heap.size,0,none⟩) n n)).tmps.size=N:=by simp only [Act.put,Array.size_setIfInBounds];exact hN
 unfold wpList;rw [Ka9 kt hw,if_pos rfl];refine .inl ?_;unfold Oper.wp;rw [hr1,Oper.upon_value,hd];unfold wpList;rw [Ka9 kt1 hw2,if_pos rfl];refine .inl ?_;unfold Oper.wp;have hev:(a.put (some i1) (Value.slice (some ⟨w.heap.size,0,none⟩) n n)).eval (.tmp i1)=.slice (some ⟨w.heap.size,0,none⟩) n n:=by
  simp only [Act.eval,Act.put];rw [Array.getD_eq_getD_getElem?,Array.getElem?_setIfInBounds_self_of_lt (by rw [hN];simpa using hi)];rfl
 have hr2:(execOp (a.put (some i1) (Value.slice (some ⟨w.heap.size,0,none⟩) n n)).eval o2).run P w1=.ok (.value (.slice (some ⟨w.heap.size,0,none⟩) n n)) w2:=by
  unfold execOp;rw [ho2];refine Kbk ?_;rw [hev];obtain ⟨d0,u0,u1⟩:=Kah (w:=w1) (ti_ok hT hi0);have e0:=Kb7 (u1.trans hd0);subst e0;obtain ⟨d1,u2,u3⟩:=Kah (w:=w1) (ti_ok hT hie);have e1:=Keh (u3.trans hde);subst e1;unfold convert;rw [Kv u0,Kv u0];simp only [];rw [Kv u2];simp only [beq_self_eq_true];rw [Kv hm];rfl
 rw [hr2,Oper.upon_value,hd2];refine g _ _ ⟨H1,c3,TOK.put kt1 (by rw [hsz1];simpa using hi2) rep1',?_,hdf⟩;simp only [Act.put,Array.size_setIfInBounds];exact hN
theorem p_ofStr {i:Nat}{T T' e:TypeId}{x:Operand}{s:ByteArray}{i0 i1 ie:TI}(hT:TabOK P tab)(ho:o.op=.convert T T' x)(hw:wantD ops t o=some true)(hd:o.dst=some i)(hi:Nat.blt i N=true)(hx:opD t x=some (.v (.string s)))(hi0:ti tab T=some i0)(hd0:i0.d=.str)(hi1:ti tab T'=some i1)(hd1:i1.d=.slice e)(hie:ti tab e=some ie)(hde:ie.d=.int .u8)
 (g:opsD P C N ops rest ⟨(i,.lst 1 (s.data.toList.map byteD) .no)::t,h,k⟩ Q):opsD P C N ops (o::rest) ⟨t,h,k⟩ Q:=p_e (x_ofStr hT ho hx hi0 hd0 hi1 hd1 hie hde) hw hd hi g
end
end
section
open Go
set_option linter.all false
section
variable {P : Program} {C : Ctx} {N : Nat} {ops rest : List Oper} {o : Oper} {t : List (Nat × D)} {h : List (Nat × Blk)} {k : List (Nat × Value)} {Q : Exit → S → Prop} {tab : List (Option TI)}
end
end
section
open Go
set_option linter.all false
section
variable {P : Program} {C : Ctx} {N : Nat} {l : List Oper} {m : Nat} {De : Nat → D} {al : AL} {pre : List (List Nat)} {ev : List Nat} {h : List (Nat × Blk)} {k : List (Nat × Value)} {Q : Exit → S → Prop} {bs : Nat → Nat} {i : Nat} {o : Oper} {rest : List Oper} {te : TE}
end
end
section
open Go
set_option linter.all false
section
variable {P : Program} {C : Ctx} {N : Nat} {ops rest : List Oper} {o : Oper} {t : List (Nat × D)} {h : List (Nat × Blk)} {k : List (Nat × Value)} {Q : Exit → S → Prop} {tab : List (Option TI)}
end
end
section
open Go
set_option linter.all false
abbrev SL (z:Option Addr×Nat×Nat):Value:=.slice z.1 z.2.1 z.2.2
abbrev Z3:=Option Addr×Nat×Nat
theorem Khd {H:Hp}{k:Nat}:∀ {xs:List D} {us:List Value},FlatR H k xs us→us.length=xs.length*k
 |
  [],us,h=>by
  have:us=[]:=h;subst this;simp
 |
  x::xs,us,h=>by
  obtain ⟨u1,u2,rfl,hl,_,h3⟩:=h;simp [hl,Khd h3,Nat.add_mul];omega
theorem flat_one {H:Hp}{k:Nat}:∀ {xs:List D} {us:List Value},FlatR H k xs us→∀ u∈us,one u=true
 |
  [],us,h,u,hu=>by
  have:us=[]:=h;subst this;cases hu
 |
  x::xs,us,h,u,hu=>by
  obtain ⟨u1,u2,rfl,hl,⟨_,h2⟩,h3⟩:=h;rcases List.mem_append.1 hu with x|x
  ·exact h2 u x
  exact flat_one h3 u x
theorem Kfo {H:Hp}{k:Nat}:∀ {xs ys:List D} {us vs:List Value},FlatR H k xs us→FlatR H k ys vs→FlatR H k (xs++ys) (us++vs)
 |
  [],ys,us,vs,h,g=>by
  have:us=[]:=h;subst this;simpa using g
 |
  x::xs,ys,us,vs,h,g=>by
  obtain ⟨u1,u2,rfl,hl,h1,h3⟩:=h;exact ⟨u1,u2++vs,by simp,hl,h1,Kfo h3 g⟩
theorem Kh4 {H:Hp}{k b:Nat}:∀ {xs:List D} {off:Nat},Els H k b off xs→∃ us:List Value,us.length=xs.length*k∧Told H b off us∧FlatR H k xs us
 | [],off,_=>⟨[],by simp,fun j u e=>by simp at e,rfl⟩
 |
  x::xs,off,h=>by
  simp only [Els] at h;obtain ⟨⟨us,h1,h2,h3,h4⟩,h5⟩:=h;obtain ⟨vs,g1,g2,g3⟩:=Kh4 h5;refine ⟨us++vs,by simp [h1,g1,Nat.add_mul];omega,fun j u e=>?_,us,vs,rfl,h1,⟨h2,h4⟩,g3⟩;rw [List.getElem?_append] at e;split at e
  ·exact h3 j u e
  have:=g2 _ _ e;rw [show off+k+(j - us.length)=off+j by omega] at this;exact this
section
variable {C : Ctx} {t : List (Nat × D)} {h : List (Nat × Blk)} {k : List (Nat × Value)}
theorem WkS.drop {h':List (Nat×Blk)}(j:Nat)(e:h.eraseIdx j=h'):WkS C ⟨t,h,k⟩ ⟨t,h',k⟩:=fun H a w c kt=>by
 subst e;exact ⟨H,Hp.le_refl H,c.drop (List.eraseIdx_sublist _ _) (List.Sublist.refl _),kt⟩
theorem row_nil {H:Hp}{w:World}{k0 kk:Nat}{v:Value}(c:Core C H h k w)(hr:Rep H (.lst k0 [] .full) v):∃ z:Z3,v=SL z∧Core C H ((0,.row kk [] (SL z))::h) k w:=by
 obtain ⟨hc,hx⟩:=Kbd hr;have:∃ a,v=.slice a 0 0:=by
  rcases hx with ⟨_,a,m,rfl,_⟩|⟨b,off,m,rfl,hm,_⟩
  ·simp only [CapOK] at hc;subst hc;exact ⟨a,rfl⟩
  simp only [CapOK,List.length_nil] at hc;subst hc;exact ⟨_,rfl⟩
 obtain ⟨a,rfl⟩:=this;refine ⟨(a,0,0),rfl,c.ag,c.le,c.new,c.same,c.size,?_,c.toks,?_,?_,c.env⟩
 ·intro p hp;rcases List.mem_cons.1 hp with rfl|hp
  ·exact .inl ⟨a,rfl,rfl⟩
  exact c.blks p hp
 ·have:KO ((0,Blk.row kk [] (SL (a,0,0)))::h) k=KO h k:=by cases a<;>simp [KO,K6,KaG]
  rw [this];exact c.nd
 have:KO ((0,Blk.row kk [] (SL (a,0,0)))::h) k=KO h k:=by cases a<;>simp [KO,K6,KaG]
 rw [this];exact c.own
theorem row_nilC {H:Hp}{w:World}{b off k0:Nat}{ds:List D}{T:TypeId}(kk j:Nat)(hb:h[j]? = some (b,.cells ds T))(hd:ds[off]? = some (.lst k0 [] .full))(c:Core C H h k w):∃ z:Z3,Core C H ((0,.row kk [] (SL z))::h.set j (b,.cells (ds.set off (.v (SL z))) T)) k w:=by
 obtain ⟨us,h1,h2,h3⟩:=c.blks _ (List.mem_of_getElem? hb);obtain ⟨u,e1,e2,e3,e4⟩:=Kc8 h2 hd;obtain ⟨z,rfl,c'⟩:=row_nil (kk:=kk) c (Ka3 e2 e3 e4);have hcl:KO ((0,.row kk [] (SL z))::h.set j (b,Blk.cells (ds.set off (.v (SL z))) T)) k=KO ((0,.row kk [] (SL z))::h) k:=by
  have:=KfZ (h:=h) (k:=k) (y:=(b,Blk.cells (ds.set off (.v (SL z))) T)) hb rfl;simp only [KO,List.flatMap_cons] at this ⊢;rw [List.append_assoc,this,List.append_assoc]
 refine ⟨z,c'.ag,c'.le,c'.new,c'.same,c'.size,?_,c'.toks,by rw [hcl];exact c'.nd,by rw [hcl];exact c'.own,c'.env⟩;intro p hp;rcases List.mem_cons.1 hp with rfl|hp
 ·exact c'.blks _ (by simp)
 rcases List.mem_or_eq_of_mem_set hp with hp|hp
 ·exact c.blks p hp
 subst hp;exact ⟨us,h1,Kg9 off h2 e1 ⟨by simp [RepC],rfl⟩,h3⟩
end
section
variable {P : Program} {C : Ctx} {N : Nat} {ops rest : List Oper} {o : Oper} {t : List (Nat × D)} {h : List (Nat × Blk)} {k : List (Nat × Value)} {Q : Exit → S → Prop} {tab : List (Option TI)}
theorem row_len {H:Hp}{w:World}{r kk:Nat}{xs:List D}{y:Value}(h:BlkOK H w (r,.row kk xs y)):∃ a m,y=.slice a xs.length m:=by
 rcases h with ⟨a,rfl,rfl⟩|⟨b,m,us,rest,T,rfl,_⟩
 ·exact ⟨a,0,rfl⟩
 exact ⟨_,m,rfl⟩
end
end
section
open Go
set_option linter.all false
theorem first_row {P:Program}{w:World}{H:Hp}{r kk:Nat}{xs:List D}{y:Value}(hb:BlkOK H w (r,.row kk xs y)) :
  ∃ us:List Value,us.length=xs.length*kk∧FlatR H kk xs us∧(Builtin.firstCells kk xs.length y).run P w=.ok us.toArray w:=by
 rcases hb with ⟨a,rfl,rfl⟩|⟨b,m,us,rest,T,rfl,h0,hm,h1,h2,h3,h4⟩
 ·refine ⟨[],by simp,rfl,?_⟩;cases a with
  | none=>rfl
  | some a=>simp only [Builtin.firstCells,List.length_nil,Nat.zero_mul];rfl
 have hl:=Khd h2;refine ⟨us,hl,h2,?_⟩;have hr:RowAt w b 0 us:=fun j u e=>by
  have:=Kfe h1 j u (by rw [List.getElem?_append_left (List.getElem?_eq_some_iff.1 e).1];exact e);exact this
 have:=Kc0 (P:=P) (xs.length*kk) hr (by omega);rw [← hl,List.take_length] at this;simp only [Builtin.firstCells];rw [← hl];exact this
theorem first_told {P:Program}{w:World}{H:Hp}(hA:Ag H w){kk:Nat}{xs:List D}{c:Cap}{v:Value}(hr:Rep H (.lst kk xs c) v) :
  ∃ us:List Value,us.length=xs.length*kk∧FlatR H kk xs us∧(Builtin.firstCells kk xs.length v).run P w=.ok us.toArray w:=by
 obtain ⟨_,h⟩:=Kbd hr;rcases h with ⟨rfl,a,m,rfl,_⟩|⟨b,off,m,rfl,hm,hE⟩
 ·refine ⟨[],by simp,rfl,?_⟩;cases a with
  | none=>rfl
  | some a=>simp only [Builtin.firstCells,List.length_nil,Nat.zero_mul];rfl
 obtain ⟨us,h1,h2,h3⟩:=Kh4 hE;refine ⟨us,h1,h3,?_⟩;have:=Kc0 (P:=P) (xs.length*kk) (h2.row hA) (by omega);rw [← h1,List.take_length] at this;simp only [Builtin.firstCells];rw [← h1];exact this
theorem Core.drew' {H:Hp}{w:World}(hA:Ag H w):Ag H (wDrew w):=⟨fun a v e=>hA a v e,hA.gg.step (Hp.le_refl H) rfl⟩
theorem blk_drew {H:Hp}{w:World}{p:Nat×Blk}(h:BlkOK H w p):BlkOK H (wDrew w) p:=by
 obtain ⟨b,bl⟩:=p;cases bl<;>first|exact h|exact Opq.later _ H H w (wDrew w) h (Hp.le_refl H) (fun _ _=>rfl) (fun _ _ q=>q)
def rowTy (w:World)(v:Value)(T:TypeId):Prop:=∀ a n m,v=.slice (some a) n m→0 < m→∃ cs,w.heap[a.block]? = some (.cells cs T (0,0))
theorem app_runRT {P:Program}{tab:List (Option TI)}(hT:TabOK P tab){H:Hp}{w:World}{r kk bb:Nat}{T T' e e':TypeId}{ty:TypeId}{i0 i1 ie:TI}{xs ys:List D}{v1 v2:Value}
  (hA:Ag H w) (hrow:BlkOK H w (r,.row kk xs v1)) (hown:∀ b∈KO [(r,.row kk xs v1)] [],b < w.heap.size)
  (hl2:(Builtin.lenOf v2).run P w=.ok ys.length w) (hf2:∀ w',(∀ b,b < w.heap.size→w'.heap[b]? = w.heap[b]?)→∃ us:List Value,us.length=ys.length*kk∧FlatR H kk ys us∧(Builtin.firstCells kk ys.length v2).run P w'=.ok us.toArray w')
  (hi0:ti tab T=some i0) (hd0:i0.d=.slice e) (hi1:ti tab T'=some i1) (hd1:i1.d=.slice e'∨i1.d=.str) (hie:ti tab e=some ie) (hks:ie.size=kk) (hbb:ie.bytes=bb) (hz:ie.zero.length=kk) (hb1:1≤bb) (hbound:(xs.length+ys.length)*bb≤140737488355328) :
  ∃ (z:Z3) (w':World),(Builtin.append_ #[T,T'] ty #[v1,v2]).run P w=.ok (SL z) w'∧(rowTy w v1 e→rowTy w' (SL z) e)∧Core ⟨H,w,KO [(r,.row kk xs v1)] []⟩ H [(0,.row kk (xs++ys) (SL z))] [] w':=by
 subst hks;subst hbb;have hTe:=ti_ok hT hie;obtain ⟨d0,u0,u1⟩:=Kah (w:=w) (ti_ok hT hi0);have e0:=Kb7 (u1.trans hd0);subst e0;obtain ⟨d1,u2,u3⟩:=Kah (w:=w) (ti_ok hT hi1);have e1:d1=.slice e'∨d1=.string:=hd1.imp (fun q=>Kb7 (u3.trans q)) (fun q=>KdL (u3.trans q));obtain ⟨tif,z,t1,t2,t3,t4,t5⟩:=KcP (w:=w) hTe;have hneed:xs.length+ys.length≤140737488355328:=Nat.le_trans (Nat.le_mul_of_pos_right _ hb1) hbound;have start:∀ base cap,v1=.slice base xs.length cap→(Builtin.append_ #[T,T'] ty #[v1,v2]).run P w =
   (
    if
      xs.length+ys.length≤cap then (do
      let new ← Builtin.firstCells ie.size ys.length v2
      if let some a:=base then storeCells (a.add (xs.length*ie.size)) new.toList
      pure (.slice base (xs.length+ys.length) cap):Sem Value)
    else (do
      if ((xs.length + ys.length : Nat) : Int) > IntKind.i64.max ∧ ((false = true) ∨ (← Go.typeInfo e).bytes = 0) then runtimePanic (.error "growslice: len out of range")
      if Builtin.nextslicecap (xs.length + ys.length) cap * (← Go.typeInfo e).bytes > 2 ^ 48 then (if false then runtimePanic (.error "growslice: len out of range") else do
       if !(← Builtin.mayShare ie.size xs.length ys.length base v2) then mark .noRoom
       unsupported (.resourceLimit "append: a slice or a string whose bytes no memory bears"))
      let newCap ← choose (.appendCap (xs.length+ys.length) cap e)
      askRoom (newCap*(← Go.typeInfo e).bytes)
      let old ← Builtin.firstCells ie.size xs.length v1
      let new ← Builtin.firstCells ie.size ys.length v2
      let rest:=Builtin.zeroCells (← Go.zeroValue e).cells (newCap - (xs.length+ys.length));pure (.slice (some (← newRow e (old++new++rest))) (xs.length+ys.length) newCap):Sem Value)).run P w:=by
  intro base cap hv;subst hv;rcases e1 with rfl|rfl;all_goals (
   unfold Builtin.append_;simp only [List.getElem?_toArray,List.getElem?_cons_zero,List.getElem?_cons_succ];rw [Kv u0];simp only [];rw [Kv (KbS hTe)];rw [Kv u2];simp only [];rw [Kv (a:=false) (w':=w) rfl];simp only [Bool.false_eq_true,if_false];rw [Kv hl2];simp only [Bool.not_false,if_true];rfl)
 obtain ⟨base,cap,hv⟩:=row_len hrow;by_cases hle:xs.length+ys.length≤cap
 ·obtain ⟨us2,g1,g2,g3⟩:=hf2 w (fun _ _=>rfl);rw [start base cap hv,if_pos hle,Kv g3];rcases hrow with ⟨a,e1,e2⟩|⟨b,m,us,rest,TT,e1,h0,hm,h1,h2,h3,h4⟩
  ·
   rw [hv] at e1;simp only [Value.slice.injEq] at e1;obtain ⟨rfl,e3,rfl⟩:=e1;have hy:ys=[]:=List.eq_nil_of_length_eq_zero (by omega);subst hy;subst e2;have hu2:us2=[]:=List.eq_nil_of_length_eq_zero (by simpa using g1);subst hu2;refine ⟨(base,0,0),w,?_,fun _ a n m q hm0=>by simp only [SL,Value.slice.injEq] at q;omega,hA,Hp.le_refl H,fun _ _ x=>.inl x,fun _ _ _=>rfl,Nat.le_refl _,?_,by simp,?_,?_,Env.refl w⟩
   · cases base with
     | none=>rfl
     | some a=>simp only [storeCells];rfl
   · intro p hp;simp only [List.mem_singleton] at hp;subst hp;exact .inl ⟨base,rfl,rfl⟩
   · cases base<;>simp [KO,K6,KaG]
   cases base<;>simp [KO,K6,KaG]
  rw [hv] at e1;simp only [Value.slice.injEq] at e1;obtain ⟨rfl,_,rfl⟩:=e1;have hul:=Khd h2;have hclaim:KO [(r,Blk.row ie.size xs v1)] []=[b]:=by rw [hv];simp [KO,K6,KaG,hm]
  have hmk:(xs.length+ys.length)*ie.size≤cap*ie.size:=Nat.mul_le_mul_right _ hle;rw [Nat.add_mul] at hmk;have hsz:0+xs.length*ie.size+us2.length≤(us++rest).length:=by rw [g1];omega
  obtain ⟨w',s1,s2,s3,s4,s5⟩:=Kcr (P:=P) (b:=b) (off:=xs.length*ie.size) (T:=TT) us2 0 w (us++rest) h1 (by omega) (flat_one g2);simp only [Nat.add_zero] at s5;have ecells:(us++rest).take (xs.length*ie.size)++(us2++(us++rest).drop (xs.length*ie.size+us2.length))=(us++us2)++rest.drop us2.length:=by
    rw [List.take_append_of_le_length (by omega),List.take_of_length_le (by omega),List.drop_append,List.drop_of_length_le (by omega),List.nil_append,List.append_assoc];congr 3;omega
  rw [ecells] at s5;refine ⟨(some ⟨b,0,none⟩,xs.length+ys.length,cap),w',?_,fun hy a n m q hm0=>?_,?_⟩;rotate_left
  · obtain ⟨cs,hcs⟩:=hy ⟨b,0,none⟩ _ _ hv hm;simp only [SL,Value.slice.injEq,Option.some.injEq] at q;obtain ⟨rfl,_,_⟩:=q;rw [h1] at hcs;simp only [Option.some.injEq,Obj.cells.injEq] at hcs;exact ⟨_,by rw [← hcs.2.1];exact s5⟩
  rotate_left
  · simp only [Kcw,Nat.zero_add];rw [Kv s1];rfl
  rw [hclaim];refine ⟨⟨fun a v0 ea=>?_,hA.gg.own h4 s4⟩,Hp.le_refl H,fun _ _ x=>.inl x,fun i _ hm=>s4 i (by simpa using hm),by show w.heap.size≤w'.heap.size;omega,?_,by simp,?_,?_,s2⟩
  ·have hcell:=hA a v0 ea;by_cases qb:a.block=b
   ·obtain ⟨ab,ao,as_⟩:=a;simp only at qb;subst qb;cases as_ with
    | some sp=>simp [World.cell?,h1] at hcell
    | none=>rw [h4 ao] at ea;cases ea
   simp only [World.cell?] at hcell ⊢;rw [s4 _ qb];exact hcell
  ·intro p hp;simp only [List.mem_singleton] at hp;subst hp;refine .inr ⟨b,cap,us++us2,rest.drop us2.length,TT,by simp [SL],by simpa using hle,hm,by simpa using s5,Kfo h2 g2,?_,h4⟩;have:=congrArg List.length ecells;simp only [List.length_append,List.length_take,List.length_drop] at this h3 ⊢;omega
  ·simp [KO,K6,KaG,hm]
  intro x hx;simp [KO,K6,KaG,hm] at hx;subst hx;exact .inl (by simp)
 have hgt:¬ xs.length+ys.length≤cap:=hle;rw [start base cap hv,if_neg hgt];have hti:(Go.typeInfo e).run P w=.ok tif w:=t1;have hbytes:tif.bytes=ie.bytes:=t3;have hno1:¬ (((xs.length+ys.length:Nat):Int) > IntKind.i64.max∧((false=true)∨tif.bytes=0)):=by
  rintro ⟨_,q|q⟩
  · cases q
  omega
 have hno2:¬ (Builtin.nextslicecap (xs.length+ys.length) cap*tif.bytes > 2 ^ 48):=by
  have h5:=next_le (Nat.lt_of_not_le hgt);have h6:Builtin.nextslicecap (xs.length+ys.length) cap*ie.bytes≤2*(xs.length+ys.length)*ie.bytes:=Nat.mul_le_mul_right _ h5;rw [Nat.mul_assoc] at h6;rw [hbytes];omega
 have hforced:∀ need,(Question.appendCap need cap e).forced=false:=fun _=>rfl
 obtain ⟨newCap,hcap,hchoose⟩:∃ newCap,xs.length+ys.length≤newCap∧(choose (.appendCap (xs.length+ys.length) cap e)).run P w=.ok newCap (wDrew w):=by
  refine ⟨_,?_,by simp only [choose,Sem.run,hforced];rfl⟩;simp only [Question.cut];omega
 obtain ⟨zz,hz1,hz2⟩:=KcE (w:=wDrew w) hTe;obtain ⟨tif2,_,hti2,_⟩:=KcP (w:=wDrew w) hTe;obtain ⟨us1,f1,f2,f3⟩:=first_row (P:=P) (blk_drew hrow);obtain ⟨us2,g1,g2,g3⟩:=hf2 (wDrew w) (fun _ _=>rfl);let restA:=Builtin.zeroCells zz.cells (newCap - (xs.length+ys.length));have hrest:restA.size=(newCap - (xs.length+ys.length))*ie.size:=by
  show (Builtin.zeroCells zz.cells _).size=_
  unfold Builtin.zeroCells;simp only [Array.size_map,Array.size_range];have:zz.cells.size=ie.size:=by rw [← Array.length_toList,hz2,hz]
  rw [this]
 refine ⟨(some ⟨w.heap.size,0,none⟩,xs.length+ys.length,newCap),(wDrew w).alloc (.cells (us1.toArray++us2.toArray++restA) e),?_,fun _ a n m q hm0=>?_,?_⟩;rotate_left
 ·simp only [SL,Value.slice.injEq,Option.some.injEq] at q;obtain ⟨rfl,_,_⟩:=q;exact ⟨_,by show ((wDrew w).alloc _).heap[(wDrew w).heap.size]? = _;rw [KbT,if_pos rfl]⟩
 rotate_left
 ·rw [Kv hti];rw [if_neg hno1];rw [Kv hti];rw [if_neg hno2];rw [Kv hchoose,Kv hti2,Kv KgT,Kv f3,Kv g3,Kv hz1];rfl
 have earr:us1.toArray++us2.toArray++restA=((us1++us2)++restA.toList).toArray:=by simp
 rw [earr];have hsizew:(wDrew w).heap.size=w.heap.size:=rfl;have hcells:((wDrew w).alloc (.cells ((us1++us2)++restA.toList).toArray e)).heap[w.heap.size]? = some (.cells ((us1++us2)++restA.toList).toArray e (0,0)):=by
   rw [KbT,hsizew,if_pos rfl]
 have hm0:0 < newCap:=by omega
 refine ⟨(Core.drew' hA).alloc _,Hp.le_refl H,fun _ _ x=>.inl x,fun b hb _=>?_,?_,?_,by simp,?_,?_,⟨rfl,rfl,rfl,Nat.le_refl _⟩⟩
 · rw [KbT,hsizew,if_neg (by exact Nat.ne_of_lt hb)];rfl
 · rw [KeB,hsizew];exact Nat.le_succ _
 · intro p hp;simp only [List.mem_singleton] at hp;subst hp;refine .inr ⟨w.heap.size,newCap,us1++us2,restA.toList,e,by simp [SL],by simpa using hcap,hm0,hcells,Kfo f2 g2,?_,fun o=>?_⟩
   ·simp only [List.length_append,Array.length_toList,hrest,f1,g1];rw [← Nat.add_mul,← Nat.add_mul];exact Nat.mul_le_mul_right _ (by omega)
   cases q:H ⟨w.heap.size,o,none⟩ with
   | none=>rfl
   | some v=>exact absurd (hA.lt q) (Nat.lt_irrefl _)
 · simp [KO,K6,KaG,hm0]
 intro x hx;simp [KO,K6,KaG,hm0] at hx;subst hx;exact .inr (Nat.le_refl _)
section
variable {P : Program} {C : Ctx} {N : Nat} {ops rest : List Oper} {o : Oper} {t : List (Nat × D)} {h : List (Nat × Blk)} {k : List (Nat × Value)} {Q : Exit → S → Prop} {tab : List (Option TI)}
end
end
section
open Go
set_option linter.all false
section
variable {P : Program} {C : Ctx} {N : Nat} {ops rest : List Oper} {o : Oper} {t : List (Nat × D)} {h : List (Nat × Blk)} {k : List (Nat × Value)} {Q : Exit → S → Prop} {tab : List (Option TI)}
theorem KaK {f:FuncId}{args:List Operand}{ts:Array TypeId}{i:Nat}{ds ds':List D}{h1 h2:List (Nat×Blk)}{k1 k2:List (Nat×Value)}{R:D→List (Nat×Blk)→List (Nat×Value)→Prop}
  (hc:CallsD P f ds' h1 k1 R) (ho:o.op=.call ⟨.value (.func f),args.toArray,ts⟩) (hw:wantD ops t o=some true) (hd:o.dst=some i) (hi:Nat.blt i N=true) (ha:KbQ args (opD t)=some ds) (hwk:WkL ds ds')
  (hh:h.Perm (h1++h2)) (hk:k.Perm (k1++k2)) (g:∀ d h' k',R d h' k'→opsD P C N ops rest ⟨(i,d)::t,h'++h2,k'++k2⟩ Q):opsD P C N ops (o::rest) ⟨t,h,k⟩ Q:=
 ops_call (s:=⟨t,h,k⟩) hc ho hw hd hi ha hwk hh hk g
theorem WkC.any {d:D}:WkC d .any:=fun _ _ _=>by simp only [RepC]
end
end
section
open Go
set_option linter.all false
theorem Core.newRow {C:Ctx}{H:Hp}{h:List (Nat×Blk)}{k:List (Nat×Value)}{w:World}(c:Core C H h k w){xs:List D}{us rest:List Value}{kk m:Nat}{T:TypeId}(hf:FlatR H kk xs us)(hm:xs.length≤m)(hl:m*kk≤(us++rest).length)(z:m=0→xs=[]) :
  Core C H ((0,.row kk xs (SL (some ⟨w.heap.size,0,none⟩,xs.length,m)))::h) k (w.alloc (.cells (us++rest).toArray T)):=by
 have c0:Core ⟨H,w,[]⟩ H [(0,.row kk xs (SL (some ⟨w.heap.size,0,none⟩,xs.length,m)))] [] (w.alloc (.cells (us++rest).toArray T)):=by
  refine ⟨c.ag.alloc _,Hp.le_refl H,fun _ _ x=>.inl x,fun b hb _=>?_,?_,?_,by simp,?_,?_,⟨rfl,rfl,rfl,Nat.le_refl _⟩⟩
  ·rw [KbT,if_neg (by exact Nat.ne_of_lt hb)]
  ·rw [KeB];exact Nat.le_succ _
  ·intro p hp;simp only [List.mem_singleton] at hp;subst hp;by_cases q:m=0
   ·subst q;have:=z rfl;subst this;exact .inl ⟨_,rfl,rfl⟩
   refine .inr ⟨w.heap.size,m,us,rest,T,rfl,hm,by omega,by rw [KbT,if_pos rfl],hf,hl,fun o=>?_⟩;cases e:H ⟨w.heap.size,o,none⟩ with
   | none=>rfl
   | some v=>exact absurd (c.ag.lt e) (Nat.lt_irrefl _)
  ·simp only [KO,K6,KaG,List.flatMap_cons,List.flatMap_nil,List.append_nil];split<;>simp
  intro b hb;simp only [KO,K6,KaG,List.flatMap_cons,List.flatMap_nil,List.append_nil] at hb;split at hb
  ·simp at hb;subst hb;exact .inr (Nat.le_refl _)
  cases hb
 have:=Core.call (h1:=[]) (k1:=[]) (h2:=h) (k2:=k) c c0;simpa using this
section
variable {P : Program} {C : Ctx} {N : Nat} {ops rest : List Oper} {o : Oper} {t : List (Nat × D)} {h : List (Nat × Blk)} {k : List (Nat × Value)} {Q : Exit → S → Prop} {tab : List (Option TI)}
end
end
section
open Go
set_option linter.all false
theorem loop_pre {σ τ α β:Type}{f:σ→Option (Step σ τ)}(l:List β)(g:List β→α)(st:α→Nat→σ)(fin:α→τ)
  (h1:∀ pre x post,l=pre++x::post→f (st (g pre) pre.length)=some (.next (st (g (pre++[x])) (pre.length+1))))
  (h2:f (st (g l) l.length)=some (.done (fin (g l)))):loopM f (st (g []) 0)=some (fin (g l)):=by
 have key:∀ (post pre:List β),l=pre++post→loopM f (st (g pre) pre.length)=some (fin (g l)):=by
  intro post;induction post with
  | nil=>intro pre h;rw [List.append_nil] at h;subst h;exact KdS h2
  |
   cons x post ih=>
   intro pre h;rw [KdT (h1 pre x post h)];have:=ih (pre++[x]) (by simp [h]);simpa using this
 simpa using key l [] rfl
theorem loop_list {σ τ α β ρ:Type}{f:σ→Option (Step σ τ)}{s0:σ}{k:τ→Option ρ}{r:Option ρ}(l:List β)(g:List β→α)(st:α→Nat→σ)(fin:α→τ)(h0:st (g []) 0=s0)
  (h1:∀ pre x post,l=pre++x::post→f (st (g pre) pre.length)=some (.next (st (g (pre++[x])) (pre.length+1))))
  (h2:f (st (g l) l.length)=some (.done (fin (g l)))) (hk:k (fin (g l))=r):Option.bind (loopM f s0) k=r:=by
 subst h0;rw [loop_pre l g st fin h1 h2];exact hk
theorem KfD {β:Type}(pre:List β)(x:β)(post:List β):idx (pre++x::post) (pre.length:Int)=some x:=by
 rw [KcR];simp
theorem KdU {β:Type}{l pre:List β}{x:β}{post:List β}(h:l=pre++x::post):decide ((pre.length:Int) < (l.length:Int))=true:=by
 subst h;simp;omega
theorem KfE {β:Type}(l:List β):decide ((l.length:Int) < (l.length:Int))=false:=by simp
theorem Kdi {β:Type}{l pre:List β}{x:β}{post:List β}(h:l=pre++x::post)(hb:l.length≤4611686018427387904):IntKind.i64.wrap ((pre.length:Int)+1)=((pre.length+1:Nat):Int):=by
 have:pre.length < l.length:=by subst h;simp
 rw [IntKind.wrap_i64];omega
theorem wrap_id {n:Int}(h:-9223372036854775808≤n)(k:n < 9223372036854775808):IntKind.i64.wrap n=n:=by rw [IntKind.wrap_i64];omega
theorem Kcs {β:Type}{l pre:List β}{x:β}{post:List β}(h:l=pre++x::post):x∈l:=by subst h;simp
theorem Kct {β:Type}{bb:Nat}{xs ys:List β}(hb:bb≤4096)(h:xs.length+ys.length≤8388608):app bb xs ys=some (xs++ys):=by
 refine app_of ?_;have:=Nat.mul_le_mul h hb;omega
end
section
open Go
set_option linter.all false
theorem Le.of {α:Type}{m m':Option α}{r:α}(h:Le m m')(e:m=some r):m'=some r:=h r e
end
section
open Go
set_option linter.all false
abbrev RL:=List (Nat×Nat×List D)
def isR (rl:RL)(e:Nat):Bool:=rl.any fun x=>x.1==e
def dR (rl:RL)(e:Nat)(d:D)(v:Value):D:=bif isR rl e then .v v else d
section
variable (P : Program) (C : Ctx) (N : Nat) (l : List Oper) (m : Nat) (De : Nat → D) (al : AL) (rl : RL) (pre : List (List Nat)) (ev : List Nat) (h : List (Nat × Blk)) (k : List (Nat × Value)) (Q : Exit → S → Prop)
def dEr (bs:Nat→Value)(e:Nat):D:=bif isAl al e then .ptr (blk (bs e)) 0 else dR rl e (De e) (bs e)
def TOKr (H0:Hp)(bs:Nat→Value)(vals:Nat→Value)(te:TE)(a:Act):Prop:=
 ∀ j d o,look3 te j=some (d,o)→∃ v,a.tmps[j]? = some v∧(o=none→∀ H,H0.le H→Rep H d v)∧∀ e,o=some e→v=vals e∧d=dEr De al rl bs e∧ev.contains e=true
end
section
variable {P : Program} {C : Ctx} {N : Nat} {l : List Oper} {m : Nat} {De : Nat → D} {al : AL} {rl : RL} {pre : List (List Nat)} {ev : List Nat} {h : List (Nat × Blk)} {k : List (Nat × Value)} {Q : Exit → S → Prop} {tab : List (Option TI)} {bs : Nat → Value} {i : Nat} {o : Oper} {rest : List Oper} {te : TE}
theorem TOKr.put {H0:Hp}{vals:Nat→Value}{a:Act}(kt:TOKr De al rl ev H0 bs vals te a){j:Nat}{d:D}{o:Option Nat}{v:Value}(hj:j < a.tmps.size)(h1:o=none→∀ H,H0.le H→Rep H d v)(h2:∀ e,o=some e→v=vals e∧d=dEr De al rl bs e∧ev.contains e=true) :
  TOKr De al rl ev H0 bs vals ((j,d,o)::te) (a.put (some j) v):=by
 intro j' d' o' e;simp only [look3] at e;simp only [Act.put];cases hb:Nat.beq j j' with
 |
  true=>
  rw [hb] at e;simp at e;obtain ⟨rfl,rfl⟩:=e;have:=Nat.eq_of_beq_eq_true hb;subst this;exact ⟨v,by simp [hj],h1,h2⟩
 |
  false=>
  rw [hb] at e;simp at e;have hne:j ≠ j':=Nat.ne_of_beq_eq_false hb;obtain ⟨u,h3,h4⟩:=kt j' d' o' e;exact ⟨u,by rw [Array.getElem?_setIfInBounds_ne hne];exact h3,h4⟩
end
section
variable {P : Program} {C : Ctx} {N : Nat} {l : List Oper} {m : Nat} {De : Nat → D} {al : AL} {rl : RL} {pre : List (List Nat)} {ev : List Nat} {h : List (Nat × Blk)} {k : List (Nat × Value)} {Q : Exit → S → Prop} {tab : List (Option TI)} {bs : Nat → Value} {i : Nat} {o : Oper} {rest : List Oper} {te : TE}
end
end
section
open Go
set_option linter.all false
def KeT (s:ByteArray)(c:Int):Int:=Lib.indexByte s.data.toList c.toNat.toUInt8
theorem indexB_ok (s:ByteArray)(c:Int):CallsD Tryz.prog 79 [.v (.string s),.v (.int .u8 c)] [] [] (fun d h k=>d=.v (.int .i64 (KeT s c))∧h=[]∧k=[]):=
 of_calls (us:=#[.string s,.int .u8 c]) ⟨_,Tryz.func79,rfl,rfl⟩ rfl (fun _=>rep_v rfl) fun w=>(Tryz.strings_IndexByte s c w).mono fun _ w' ⟨h1,h2⟩=>⟨h1,by subst h2;exact ⟨⟨rfl,rfl,rfl,Nat.le_refl _,fun _ _=>rfl⟩,Nat.le_refl _⟩⟩
end
section
open Go
set_option linter.all false
section
variable {P : Program} {C : Ctx} {N : Nat} {ops rest : List Oper} {o : Oper} {t : List (Nat × D)} {h : List (Nat × Blk)} {k : List (Nat × Value)} {Q : Exit → S → Prop}
theorem Kg {id:Nat}{ops:List Oper}{y:Code}{s:S}(g:opsD P C N ops ops s (thenD (fun s'=>wpD P C N y s' Q) Q)):wpD P C N (.seq (.region id ops.toArray false) y) s Q:=Ku (KE g)
theorem Ke {next:S→Prop}{s:S}(g:next s):opsD P C N ops [] s (thenD next Q):=KB (Kk g)
theorem KF {id:Nat}{ops2:List Oper}{y:Code}{s:S}{Q':Exit→S→Prop}(g:opsD P C N ops2 ops2 s (thenD (fun s'=>wpD P C N y s' Q) Q)):opsD P C N ops [] s (thenD (fun s'=>wpD P C N (.seq (.region id ops2.toArray false) y) s' Q) Q'):=Ke (Kg g)
theorem pu {i:Nat}{d:D}(g:opsD Tryz.prog C N ops rest ⟨(i,d)::t,h,k⟩ Q)(hw:wantD ops t o=some true:=by rfl)(hd:o.dst=some i:=by rfl)(hi:Nat.blt i N=true:=by rfl)(e:evP tab t o.op=some d:=by rfl):opsD Tryz.prog C N ops (o::rest) ⟨t,h,k⟩ Q:=p_pure htab hw hd hi e g
theorem p_st0 {hr:List (Nat×Blk)}{b off:Nat}{T T':TypeId}{x y:Operand}{ds ds':List D}{ti0:TI}{d:D}(ho:o.op=.store T x y)(hw:wantD ops t o=some true)(hd:o.dst=none)(hx:opD t x=some (.ptr b off))(hT:ti tab T=some ti0)(hy:opD t y=some d)(hs:stor d=true)(hsz:Nat.beq (KR d).length ti0.size=true)(hle:Nat.ble (off+ti0.size) ds.length=true)(e:lay ds off (KR d)=ds')(g:opsD Tryz.prog C N ops rest ⟨t,(b,.cells ds' T')::hr,k⟩ Q):opsD Tryz.prog C N ops (o::rest) ⟨t,(b,.cells ds T')::hr,k⟩ Q:=Kfz 0 htab ho hw hd hx rfl hT hy hs hsz hle e rfl g
theorem WkS.bl0 {hr:List (Nat×Blk)}{b:Nat}{ds ds':List D}{T:TypeId}(hw:WkR ds ds'):WkS C ⟨t,(b,.cells ds T)::hr,k⟩ ⟨t,(b,.cells ds' T)::hr,k⟩:=WkS.blk 0 rfl hw rfl
theorem p_st1 {a0:Nat×Blk}{hr:List (Nat×Blk)}{b off:Nat}{T T':TypeId}{x y:Operand}{ds ds':List D}{ti0:TI}{d:D}(ho:o.op=.store T x y)(hw:wantD ops t o=some true)(hd:o.dst=none)(hx:opD t x=some (.ptr b off))(hT:ti tab T=some ti0)(hy:opD t y=some d)(hs:stor d=true)(hsz:Nat.beq (KR d).length ti0.size=true)(hle:Nat.ble (off+ti0.size) ds.length=true)(e:lay ds off (KR d)=ds')(g:opsD Tryz.prog C N ops rest ⟨t,a0::(b,.cells ds' T')::hr,k⟩ Q):opsD Tryz.prog C N ops (o::rest) ⟨t,a0::(b,.cells ds T')::hr,k⟩ Q:=Kfz 1 htab ho hw hd hx rfl hT hy hs hsz hle e rfl g
theorem WkS.bl1 {a0:Nat×Blk}{hr:List (Nat×Blk)}{b:Nat}{ds ds':List D}{T:TypeId}(hw:WkR ds ds'):WkS C ⟨t,a0::(b,.cells ds T)::hr,k⟩ ⟨t,a0::(b,.cells ds' T)::hr,k⟩:=WkS.blk 1 rfl hw rfl
theorem p_st2 {a0 a1:Nat×Blk}{hr:List (Nat×Blk)}{b off:Nat}{T T':TypeId}{x y:Operand}{ds ds':List D}{ti0:TI}{d:D}(ho:o.op=.store T x y)(hw:wantD ops t o=some true)(hd:o.dst=none)(hx:opD t x=some (.ptr b off))(hT:ti tab T=some ti0)(hy:opD t y=some d)(hs:stor d=true)(hsz:Nat.beq (KR d).length ti0.size=true)(hle:Nat.ble (off+ti0.size) ds.length=true)(e:lay ds off (KR d)=ds')(g:opsD Tryz.prog C N ops rest ⟨t,a0::a1::(b,.cells ds' T')::hr,k⟩ Q):opsD Tryz.prog C N ops (o::rest) ⟨t,a0::a1::(b,.cells ds T')::hr,k⟩ Q:=Kfz 2 htab ho hw hd hx rfl hT hy hs hsz hle e rfl g
theorem WkS.bl2 {a0 a1:Nat×Blk}{hr:List (Nat×Blk)}{b:Nat}{ds ds':List D}{T:TypeId}(hw:WkR ds ds'):WkS C ⟨t,a0::a1::(b,.cells ds T)::hr,k⟩ ⟨t,a0::a1::(b,.cells ds' T)::hr,k⟩:=WkS.blk 2 rfl hw rfl
theorem p_st3 {a0 a1 a2:Nat×Blk}{hr:List (Nat×Blk)}{b off:Nat}{T T':TypeId}{x y:Operand}{ds ds':List D}{ti0:TI}{d:D}(ho:o.op=.store T x y)(hw:wantD ops t o=some true)(hd:o.dst=none)(hx:opD t x=some (.ptr b off))(hT:ti tab T=some ti0)(hy:opD t y=some d)(hs:stor d=true)(hsz:Nat.beq (KR d).length ti0.size=true)(hle:Nat.ble (off+ti0.size) ds.length=true)(e:lay ds off (KR d)=ds')(g:opsD Tryz.prog C N ops rest ⟨t,a0::a1::a2::(b,.cells ds' T')::hr,k⟩ Q):opsD Tryz.prog C N ops (o::rest) ⟨t,a0::a1::a2::(b,.cells ds T')::hr,k⟩ Q:=Kfz 3 htab ho hw hd hx rfl hT hy hs hsz hle e rfl g
theorem p_st4 {a0 a1 a2 a3:Nat×Blk}{hr:List (Nat×Blk)}{b off:Nat}{T T':TypeId}{x y:Operand}{ds ds':List D}{ti0:TI}{d:D}(ho:o.op=.store T x y)(hw:wantD ops t o=some true)(hd:o.dst=none)(hx:opD t x=some (.ptr b off))(hT:ti tab T=some ti0)(hy:opD t y=some d)(hs:stor d=true)(hsz:Nat.beq (KR d).length ti0.size=true)(hle:Nat.ble (off+ti0.size) ds.length=true)(e:lay ds off (KR d)=ds')(g:opsD Tryz.prog C N ops rest ⟨t,a0::a1::a2::a3::(b,.cells ds' T')::hr,k⟩ Q):opsD Tryz.prog C N ops (o::rest) ⟨t,a0::a1::a2::a3::(b,.cells ds T')::hr,k⟩ Q:=Kfz 4 htab ho hw hd hx rfl hT hy hs hsz hle e rfl g
end
section
variable {P : Program} {C : Ctx} {N : Nat} {l : List Oper} {m : Nat} {De : Nat → D} {al : AL} {pre : List (List Nat)} {ev : List Nat} {h : List (Nat × Blk)} {k : List (Nat × Value)} {Q : Exit → S → Prop} {bs : Nat → Nat} {i : Nat} {o : Oper} {rest : List Oper} {te : TE}
theorem zqp {j:Nat}{x:Value}{p:List Nat}{t:List (Nat×D)}(g:Zw Tryz.prog C N l m De al pre ev h k Q bs (i+1) rest ((j,.v x,none)::te))(hp:pre.getD i []=p:=by rfl)(ht:vis p te=t:=by rfl)(hx:evP tab t o.op=some (.v x):=by rfl)(hw:wantD l (vis [] te) o=some true:=by rfl)(hd:o.dst=some j:=by rfl)(hi:Nat.blt j N=true:=by rfl)(hne:ev.contains i=false:=by rfl)(hone:one x=true:=by rfl)(hpe:p.all ev.contains=true:=by rfl):Zw Tryz.prog C N l m De al pre ev h k Q bs i (o::rest) te:=
 z_q hp ht (KX htab hx) hw hd hi hne hone hpe g
theorem zep {j:Nat}{p:List Nat}{t:List (Nat×D)}{d:D}(g:Zw Tryz.prog C N l m De al pre ev h k Q bs (i+1) rest ((j,d,some i)::te))(hp:pre.getD i []=p:=by rfl)(ht:vis p te=t:=by rfl)(hx:evP tab t o.op=some d:=by rfl)(hw:wantD l (vis [] te) o=some true:=by rfl)(hd:o.dst=some j:=by rfl)(hi:Nat.blt j N=true:=by rfl)(he:ev.contains i=true:=by rfl)(hna:isAl al i=false:=by rfl)(hDe:De i=d:=by rfl):Zw Tryz.prog C N l m De al pre ev h k Q bs i (o::rest) te:=
 z_e hp ht (KX htab hx) hw hd hi he hna hDe g
end
def pickE {α:Type}:List Nat→List α→List α
 | [],_=>[]
 |
  j::js,l=>match l[j]? with
  | some x=>x::pickE js (l.eraseIdx j)
  | none=>[]
def restE {α:Type}:List Nat→List α→List α
 | [],l=>l
 |
  j::js,l=>match l[j]? with
  | some _=>restE js (l.eraseIdx j)
  | none=>l
theorem Kf9 {α:Type}:∀ (js:List Nat) (l:List α),l.Perm (pickE js l++restE js l)
 | [],l=>List.Perm.refl _
 |
  j::js,l=>by
  unfold pickE restE;cases h:l[j]? with
  | none=>exact List.Perm.refl _
  | some x=>exact (KU h).trans ((Kf9 js (l.eraseIdx j)).cons x)
section
variable {P : Program} {C : Ctx} {N : Nat} {ops rest : List Oper} {o : Oper} {t : List (Nat × D)} {h : List (Nat × Blk)} {k : List (Nat × Value)} {Q : Exit → S → Prop}
theorem rP {rs:List ResultVar}{R:D→List (Nat×Blk)→List (Nat×Value)→Prop}{x:Exit}{t':List (Nat×D)}{ds:List D}(js ks:List Nat)(n:Nat)(e:∀ i d,look t' i=some d→∃ d0,look t i=some d0∧Wk d0 d)(hr:resL tab ⟨t',pickE js h,pickE ks k⟩ rs ds)(g:R (wrapD ds) ((pickE js h).take n) (pickE ks k))(hx:x=.ret∨x=.normal:=by first|exact .inl rfl|exact .inr rfl):retX C tab rs R x ⟨t,h,k⟩:=
 retX.of (s':=⟨t',pickE js h,pickE ks k⟩) (WkS.perm e (Kf9 js h) (Kf9 ks k)) (retD_mk hx hr (List.take_sublist n _) (List.Sublist.refl _) g)
theorem wC {t t':List (Nat×D)}{j:Nat}{d0:D}(g:∀ i d,look t' i=some d→∃ d1,look t i=some d1∧Wk d1 d)(h0:look t j=some d0:=by rfl):∀ i d,look ((j,d0)::t') i=some d→∃ d1,look t i=some d1∧Wk d1 d:=WkS.cons h0 (Wk.refl _) g
theorem wN {t:List (Nat×D)}:∀ i d,look [] i=some d→∃ d0,look t i=some d0∧Wk d0 d:=WkS.nil
theorem lN {s:S}:resL tab s [] []:=rfl
theorem lT {s:S}{i:Nat}{rs:List ResultVar}{d:D}{ds:List D}(h2:resL tab s rs ds)(h1:look s.t i=some d:=by rfl):resL tab s (.tmp i::rs) (d::ds):=Kh2 (resOne_tmp h1) h2
theorem lC {s:S}{a b off:Nat}{T T':TypeId}{ds:List D}{i:TI}{d:D}{rs:List ResultVar}{ds':List D}(j:Nat)(hr:resL tab s rs ds')(h1:look s.t a=some (.ptr b off):=by rfl)(h2:s.h[j]? = some (b,Blk.cells ds T'):=by rfl)(h3:ti tab T=some i:=by rfl)(h4:partD i ds off=some d:=by rfl):resL tab s (.cell a T::rs) (d::ds'):=Kh2 (Kip j h1 h2 h3 h4) hr
theorem rC {d:D}{ds ds':List D}(g:WkR ds ds'):WkR (d::ds) (d::ds'):=WkR.cons (WkC.refl _) rfl g
theorem rO {ds ds':List D}{kk:Nat}{xs:List D}{c:Cap}(g:WkR ds ds'):WkR (.lst kk xs c::ds) (.lst kk xs .no::ds'):=WkR.cons WkC.no rfl g
theorem Pf {α:Type}{l:List α}:l.Perm l:=List.Perm.refl l
theorem Wl {ds:List D}:WkL ds ds:=WkL.refl ds
theorem pL {i b off:Nat}{T T':TypeId}{x:Operand}{ds:List D}{ti0:TI}{d:D}(j:Nat)(g:opsD Tryz.prog C N ops rest ⟨(i,d)::t,h,k⟩ Q)(ho:o.op=.load T x:=by rfl)(hw:wantD ops t o=some true:=by rfl)(hd:o.dst=some i:=by rfl)(hi:Nat.blt i N=true:=by rfl)(hx:opD t x=some (.ptr b off):=by rfl)(hb:h[j]? = some (b,.cells ds T'):=by rfl)(hT:ti tab T=some ti0:=by rfl)(e:partD ti0 ds off=some d:=by rfl):opsD Tryz.prog C N ops (o::rest) ⟨t,h,k⟩ Q:=Kai j htab ho hw hd hi hx hb hT e g
theorem pG {f:FuncId}{args:List Operand}{ts:Array TypeId}{i:Nat}{ds ds':List D}{h1 h2:List (Nat×Blk)}{k1 k2:List (Nat×Value)}{R:D→List (Nat×Blk)→List (Nat×Value)→Prop}(hc:CallsD Tryz.prog f ds' h1 k1 R)(hwk:WkL ds ds')(hh:h.Perm (h1++h2))(hk:k.Perm (k1++k2))(g:∀ d h' k',R d h' k'→opsD Tryz.prog C N ops rest ⟨(i,d)::t,h'++h2,k'++k2⟩ Q)(ho:o.op=.call ⟨.value (.func f),args.toArray,ts⟩:=by rfl)(hw:wantD ops t o=some true:=by rfl)(hd:o.dst=some i:=by rfl)(hi:Nat.blt i N=true:=by rfl)(ha:KbQ args (opD t)=some ds:=by rfl):opsD Tryz.prog C N ops (o::rest) ⟨t,h,k⟩ Q:=KaK hc ho hw hd hi ha hwk hh hk g
theorem pK {i:Nat}(g:opsD Tryz.prog C N ops rest ⟨(i,.v (.tuple #[]))::t,h,k⟩ Q)(hw:wantD ops t o=some false:=by rfl)(hd:o.dst=some i:=by rfl)(hi:Nat.blt i N=true:=by rfl):opsD Tryz.prog C N ops (o::rest) ⟨t,h,k⟩ Q:=p_skip hw hd hi g
theorem pS0 {hr:List (Nat×Blk)}{b off:Nat}{T T':TypeId}{x y:Operand}{ds ds':List D}{ti0:TI}{d:D}(g:opsD Tryz.prog C N ops rest ⟨t,(b,.cells ds' T')::hr,k⟩ Q)(ho:o.op=.store T x y:=by rfl)(hw:wantD ops t o=some true:=by rfl)(hd:o.dst=none:=by rfl)(hx:opD t x=some (.ptr b off):=by rfl)(hT:ti tab T=some ti0:=by rfl)(hy:opD t y=some d:=by rfl)(hs:stor d=true:=by rfl)(hsz:Nat.beq (KR d).length ti0.size=true:=by rfl)(hle:Nat.ble (off+ti0.size) ds.length=true:=by rfl)(e:lay ds off (KR d)=ds':=by rfl):opsD Tryz.prog C N ops (o::rest) ⟨t,(b,.cells ds T')::hr,k⟩ Q:=p_st0 ho hw hd hx hT hy hs hsz hle e g
theorem pS1 {a0:Nat×Blk}{hr:List (Nat×Blk)}{b off:Nat}{T T':TypeId}{x y:Operand}{ds ds':List D}{ti0:TI}{d:D}(g:opsD Tryz.prog C N ops rest ⟨t,a0::(b,.cells ds' T')::hr,k⟩ Q)(ho:o.op=.store T x y:=by rfl)(hw:wantD ops t o=some true:=by rfl)(hd:o.dst=none:=by rfl)(hx:opD t x=some (.ptr b off):=by rfl)(hT:ti tab T=some ti0:=by rfl)(hy:opD t y=some d:=by rfl)(hs:stor d=true:=by rfl)(hsz:Nat.beq (KR d).length ti0.size=true:=by rfl)(hle:Nat.ble (off+ti0.size) ds.length=true:=by rfl)(e:lay ds off (KR d)=ds':=by rfl):opsD Tryz.prog C N ops (o::rest) ⟨t,a0::(b,.cells ds T')::hr,k⟩ Q:=p_st1 ho hw hd hx hT hy hs hsz hle e g
theorem pS2 {a0 a1:Nat×Blk}{hr:List (Nat×Blk)}{b off:Nat}{T T':TypeId}{x y:Operand}{ds ds':List D}{ti0:TI}{d:D}(g:opsD Tryz.prog C N ops rest ⟨t,a0::a1::(b,.cells ds' T')::hr,k⟩ Q)(ho:o.op=.store T x y:=by rfl)(hw:wantD ops t o=some true:=by rfl)(hd:o.dst=none:=by rfl)(hx:opD t x=some (.ptr b off):=by rfl)(hT:ti tab T=some ti0:=by rfl)(hy:opD t y=some d:=by rfl)(hs:stor d=true:=by rfl)(hsz:Nat.beq (KR d).length ti0.size=true:=by rfl)(hle:Nat.ble (off+ti0.size) ds.length=true:=by rfl)(e:lay ds off (KR d)=ds':=by rfl):opsD Tryz.prog C N ops (o::rest) ⟨t,a0::a1::(b,.cells ds T')::hr,k⟩ Q:=p_st2 ho hw hd hx hT hy hs hsz hle e g
theorem pS3 {a0 a1 a2:Nat×Blk}{hr:List (Nat×Blk)}{b off:Nat}{T T':TypeId}{x y:Operand}{ds ds':List D}{ti0:TI}{d:D}(g:opsD Tryz.prog C N ops rest ⟨t,a0::a1::a2::(b,.cells ds' T')::hr,k⟩ Q)(ho:o.op=.store T x y:=by rfl)(hw:wantD ops t o=some true:=by rfl)(hd:o.dst=none:=by rfl)(hx:opD t x=some (.ptr b off):=by rfl)(hT:ti tab T=some ti0:=by rfl)(hy:opD t y=some d:=by rfl)(hs:stor d=true:=by rfl)(hsz:Nat.beq (KR d).length ti0.size=true:=by rfl)(hle:Nat.ble (off+ti0.size) ds.length=true:=by rfl)(e:lay ds off (KR d)=ds':=by rfl):opsD Tryz.prog C N ops (o::rest) ⟨t,a0::a1::a2::(b,.cells ds T')::hr,k⟩ Q:=p_st3 ho hw hd hx hT hy hs hsz hle e g
theorem pS4 {a0 a1 a2 a3:Nat×Blk}{hr:List (Nat×Blk)}{b off:Nat}{T T':TypeId}{x y:Operand}{ds ds':List D}{ti0:TI}{d:D}(g:opsD Tryz.prog C N ops rest ⟨t,a0::a1::a2::a3::(b,.cells ds' T')::hr,k⟩ Q)(ho:o.op=.store T x y:=by rfl)(hw:wantD ops t o=some true:=by rfl)(hd:o.dst=none:=by rfl)(hx:opD t x=some (.ptr b off):=by rfl)(hT:ti tab T=some ti0:=by rfl)(hy:opD t y=some d:=by rfl)(hs:stor d=true:=by rfl)(hsz:Nat.beq (KR d).length ti0.size=true:=by rfl)(hle:Nat.ble (off+ti0.size) ds.length=true:=by rfl)(e:lay ds off (KR d)=ds':=by rfl):opsD Tryz.prog C N ops (o::rest) ⟨t,a0::a1::a2::a3::(b,.cells ds T')::hr,k⟩ Q:=p_st4 ho hw hd hx hT hy hs hsz hle e g
end
section
variable {P : Program} {C : Ctx} {N : Nat} {l : List Oper} {m : Nat} {De : Nat → D} {al : AL} {pre : List (List Nat)} {ev : List Nat} {h : List (Nat × Blk)} {k : List (Nat × Value)} {Q : Exit → S → Prop} {bs : Nat → Nat} {i : Nat} {o : Oper} {rest : List Oper} {te : TE}
theorem zK {j:Nat}(g:Zw Tryz.prog C N l m De al pre ev h k Q bs (i+1) rest ((j,.v (.tuple #[]),none)::te))(hw:wantD l (vis [] te) o=some false:=by rfl)(hd:o.dst=some j:=by rfl)(hi:Nat.blt j N=true:=by rfl)(hne:ev.contains i=false:=by rfl):Zw Tryz.prog C N l m De al pre ev h k Q bs i (o::rest) te:=z_skip hw hd hi hne g
end
theorem wpDcY {P:Program}{C:Ctx}{N:Nat}{s:S}{Q:Exit→S→Prop}{α:Type}{φ:α→Prop}{m1 m2:Option α}{c:Operand}{x y:Code}{b:Bool}(hm:Yes (bif b then m1 else m2) φ)(hc:opD s.t c=some (.v (.bool b)))(ht:Yes m1 φ→wpD P C N x s Q)(hf:Yes m2 φ→wpD P C N y s Q):wpD P C N (.cond c x y) s Q:=
 Kg4 hc (fun h=>ht (yes_t h hm)) (fun h=>hf (yes_f h hm))
theorem cY {P:Program}{C:Ctx}{N:Nat}{s:S}{Q:Exit→S→Prop}{α:Type}{φ:α→Prop}{m1 m2:Option α}{c:Operand}{x y:Code}{b:Bool}(hm:Yes (bif b then m1 else m2) φ)(ht:Yes m1 φ→wpD P C N x s Q)(hf:Yes m2 φ→wpD P C N y s Q)(hc:opD s.t c=some (.v (.bool b)):=by rfl):wpD P C N (.cond c x y) s Q:=wpDcY hm hc ht hf
theorem wO {C:Ctx}{s:S}{S1:Unit→S}(h:WkS C s (S1 ())):WkX C s S1:=WkX.of () h
theorem wP {C:Ctx}{t t':List (Nat×D)}{h h' hj:List (Nat×Blk)}{k k' kj:List (Nat×Value)}(e:∀ i d,look t' i=some d→∃ d0,look t i=some d0∧Wk d0 d)(hh:h.Perm (h'++hj):=by exact Pf)(hk:k.Perm (k'++kj):=by exact Pf):WkS C ⟨t,h,k⟩ ⟨t',h',k'⟩:=WkS.perm e hh hk
end
section
open Go Go.RowKit
set_option linter.all false
set_option maxHeartbeats 4000000
set_option maxRecDepth 100000
theorem bu_size:∃ j,Tryz.prog.info? 51=some j∧j.size=2:=by
 have h:(Tryz.prog.info? 51).map (·.size)=some 2:=by kernel_rfl
 exact Option.map_eq_some_iff.1 h
theorem copy_used (b:Nat)(w:World)(h0:w.cell? ⟨b,0,none⟩=some (.pointer (some ⟨b,0,none⟩))) :
  Calls Tryz.prog 51 #[.pointer (some ⟨b,0,none⟩)] w fun e w'=>e=.returned (.tuple #[])∧w'=w:=by
 obtain ⟨j,hj,_⟩:=bu_size;go_enter Tryz.func51,Tryz.ntmps51;go_wp2;rw [Lib.run_neq_ptr_same w _ (by kernel_rfl) hj];go_wp2;go_end0;exact ⟨rfl,rfl⟩
theorem copy_fresh (b:Nat)(w:World)(h0:w.cell? ⟨b,0,none⟩=some (.pointer none))(hsh:w.shape? b=some (53,3))(hfz:w.frozen? ⟨b,0,none⟩=false) :
  Calls Tryz.prog 51 #[.pointer (some ⟨b,0,none⟩)] w fun e w'=>e=.returned (.tuple #[])∧w'=w.setCell ⟨b,0,none⟩ (.pointer (some ⟨b,0,none⟩)):=by
 obtain ⟨j,hj,hjs⟩:=bu_size;go_enter Tryz.func51,Tryz.ntmps51;go_wp2;rw [Lib.run_to_unsafe w ⟨b,0,none⟩ (by kernel_rfl) (by kernel_rfl) hj (by rw [hjs];decide) hsh (Nat.zero_lt_succ 2)];simp only [Result.andThen];rw [Oper.upon_value];go_wp2;rw [run_callFunc_extern Tryz.func68 (by kernel_rfl) (by kernel_rfl) (by kernel_rfl) (e:=Extern.AbiNoEscape.same) (by kernel_rfl)];rw [Lib.run_noEscape];simp only [Result.andThen];rw [Oper.upon_value];go_wp2;rw [Lib.run_from_unsafe w ⟨b,0,none⟩ (by kernel_rfl) (by kernel_rfl) hj hsh (by kernel_rfl)];simp only [Result.andThen];rw [Oper.upon_value];go_wp2;go_end0;exact ⟨rfl,rfl⟩
end
section
open Go
set_option linter.all false
theorem buf_later {H H':Hp}{w w':World}{xs:List D}{z:Z3}(hq:BlkOK H w (0,.row 1 xs (SL z)))(hl:H.le H')(hw:∀ b∈KaG (SL z),w'.heap[b]? = w.heap[b]?)(hn:∀ b∈KaG (SL z),(∀ o,H ⟨b,o,none⟩=none)→∀ o,H' ⟨b,o,none⟩=none):BlkOK H' w' (0,.row 1 xs (SL z)):=by
 rcases hq with h|⟨b,m,us,rest,T,e,h0,hm,h1,h2,h3,h4⟩
 ·exact .inl h
 have hb:b∈KaG (SL z):=by rw [e];simp [KaG,hm]
 exact .inr ⟨b,m,us,rest,T,e,h0,hm,by rw [hw b hb];exact h1,h2.mono hl,h3,hn b hb h4⟩
def bufO (T:TypeId)(l:List UInt8)(z:Z3):Opq where
 cl:=KaG (SL z)
 Q:=fun H w=>BlkOK H w (0,.row 1 (l.map byteD) (SL z))∧rowTy w (SL z) T
 lt:=fun H w q b hb=>Kgx (h:=[(0,.row 1 (l.map byteD) (SL z))]) (k:=[]) (by simpa using q.1) (by simp) b (by simpa [KO,K6] using hb)
 later:=fun H H' w w' q hl hw hn=>⟨buf_later q.1 hl hw hn,fun a n m e hm=>by
  have hb:a.block∈KaG (SL z):=by rw [e];simp [KaG,hm]
  rw [hw _ hb];exact q.2 a n m e hm⟩
theorem Core.swap {C:Ctx}{H:Hp}{h h':List (Nat×Blk)}{k:List (Nat×Value)}{w:World}(c:Core C H h k w)(hc:KO h' k=KO h k)(hb:∀ p∈h',BlkOK H w p):Core C H h' k w:=
 ⟨c.ag,c.le,c.new,c.same,c.size,hb,c.toks,by rw [hc];exact c.nd,by rw [hc];exact c.own,c.env⟩
theorem WkC.slf0 {b:Nat}:WkC (.v (.pointer none)) (.slf b):=fun H us h=>by
 simp only [RepC] at h ⊢;exact .inl h
theorem app_zs {k:Nat}{α:Type}{xs ys zs:List α}(h:app k xs ys=some zs):xs++ys=zs:=(Kem h).1.symm
def u8ok (x:Int):Bool:=decide (0≤x) && decide (x < 256)
theorem u8_eq {x:Int}(h:u8ok x=true):D.v (.int .u8 x)=byteD x.toNat.toUInt8:=by
 simp only [u8ok,Bool.and_eq_true,decide_eq_true_eq] at h;have:((x.toNat.toUInt8).toNat:Int)=x:=by
  rw [show (x.toNat.toUInt8).toNat=x.toNat % 256 from UInt8.toNat_ofNat'];omega
 unfold byteD;rw [this]
section
variable {P : Program} {C : Ctx} {N : Nat} {ops rest : List Oper} {o : Oper} {t : List (Nat × D)} {h : List (Nat × Blk)} {k : List (Nat × Value)} {Q : Exit → S → Prop} {tab : List (Option TI)}
theorem buf_app {i r bb:Nat}{T T' e:TypeId}{x y:Operand}{l:List UInt8}{ys:List D}{zs:List UInt8}{z:Z3}{i0 i1 ie:TI}(j:Nat)(hT:TabOK P tab)(ho:o.op=.call ⟨.builtin .append,[x,y].toArray,#[T,T']⟩)(hw:wantD ops t o=some true)(hd:o.dst=some i)(hi:Nat.blt i N=true)
  (hx:opD t x=some (.v (SL z))) (hj:h[j]? = some (r,.opq (bufO e l z)))
  (hy2:∀ H a w,Core C H h k w→TOK H t a→(Builtin.lenOf (a.eval y)).run P w=.ok ys.length w∧∀ w',(∀ b,b < w.heap.size→w'.heap[b]? = w.heap[b]?)→∃ us:List Value,us.length=ys.length*1∧FlatR H 1 ys us∧(Builtin.firstCells 1 ys.length (a.eval y)).run P w'=.ok us.toArray w')
  (hi0:ti tab T=some i0) (hd0:i0.d=.slice e) (hi1:ti tab T'=some i1) (hd1:i1.d=.slice e∨i1.d=.str) (hie:ti tab e=some ie) (hks:ie.size=1) (hbb:ie.bytes=bb) (hz:ie.zero.length=1) (hb1:Nat.ble 1 bb=true) (hbound:(l.length+ys.length)*bb≤140737488355328) (em:l.map byteD++ys=zs.map byteD)
  (g:∀ z':Z3,opsD P C N ops rest ⟨(i,.v (SL z'))::t,h.set j (0,.opq (bufO e zs z')),k⟩ Q):opsD P C N ops (o::rest) ⟨t,h,k⟩ Q:=
 Kdg (s:=⟨t,h,k⟩) hw hd hi fun H a w core kt=>by
  obtain ⟨q1,q2⟩:=hy2 H a w core kt;have c1:Core C H ([(r,.opq (bufO e l z))]++h.eraseIdx j) ([]++k) w:=core.perm (KU hj) (List.Perm.refl _);have hbl:(bufO e l z).Q H w:=core.blks _ (List.mem_of_getElem? hj);obtain ⟨z',w',h1,hty,h2⟩:=app_runRT (P:=P) (ty:=o.type) (v1:=SL z) (v2:=a.eval y) (r:=0) hT core.ag hbl.1 (fun b hb=>c1.lt b (by
   have:=(Kb3 [(r,Blk.opq (bufO e l z))] (h.eraseIdx j) [] k).mem_iff (a:=b);exact this.2 (List.mem_append_left _ (by simpa [KO,K6,bufO] using hb)))) q1 q2 hi0 hd0 hi1 hd1 hie hks hbb hz (Nat.le_of_ble_eq_true hb1) (by rw [List.length_map];exact hbound)
  have hM:KO [(r,Blk.opq (bufO e l z))] []=KO [(0,Blk.row 1 (l.map byteD) (SL z))] []:=rfl;rw [← hM,em] at h2;have h3:Core ⟨H,w,KO [(r,Blk.opq (bufO e l z))] []⟩ H [(0,.opq (bufO e zs z'))] [] w':=h2.swap rfl fun p hp=>by
   simp only [List.mem_singleton] at hp;subst hp;exact ⟨h2.blks _ (by simp),hty hbl.2⟩
  have c2:=Core.call c1 h3;refine ⟨SL z',w',H,.v (SL z'),h.set j (0,.opq (bufO e zs z')),k,Kcx (s:=Builtin.append_) ho (fun _ _=>rfl) ?_,Hp.le_refl H,c2.perm (perm_set hj) (List.Perm.refl _),rep_v rfl,g z'⟩;have e1:=Kac (K4 kt hx);simpa [e1] using h1
theorem p_appB {i r bb:Nat}{T T' e:TypeId}{x y:Operand}{l zs:List UInt8}{ys:List D}{c':Cap}{z:Z3}{i0 i1 ie:TI}(j:Nat)(hT:TabOK P tab)(ho:o.op=.call ⟨.builtin .append,[x,y].toArray,#[T,T']⟩)(hw:wantD ops t o=some true)(hd:o.dst=some i)(hi:Nat.blt i N=true)
  (hx:opD t x=some (.v (SL z))) (hj:h[j]? = some (r,.opq (bufO e l z))) (hy:opD t y=some (.lst 1 ys c'))
  (hi0:ti tab T=some i0) (hd0:i0.d=.slice e) (hi1:ti tab T'=some i1) (hd1:i1.d=.slice e) (hie:ti tab e=some ie) (hks:ie.size=1) (hbb:ie.bytes=bb) (hz:ie.zero.length=1) (hb1:Nat.ble 1 bb=true) (hbound:(l.length+ys.length)*bb≤140737488355328) (em:l.map byteD++ys=zs.map byteD)
  (g:∀ z':Z3,opsD P C N ops rest ⟨(i,.v (SL z'))::t,h.set j (0,.opq (bufO e zs z')),k⟩ Q):opsD P C N ops (o::rest) ⟨t,h,k⟩ Q:=
 buf_app j hT ho hw hd hi hx hj (fun H a w core kt=>by
  have hry:=K4 kt hy;obtain ⟨a2,m2,ey⟩:=Kdr hry;refine ⟨by rw [ey];rfl,fun w2 hw2=>first_told ⟨fun a' v e'=>?_,core.ag.gg.step (Hp.le_refl H) (hw2 _ core.ag.gg.lt)⟩ hry⟩;have:=core.ag a' v e';have hlt:=core.ag.lt e';unfold World.cell? at this ⊢;rw [hw2 _ hlt];exact this) hi0 hd0 hi1 (.inl hd1) hie hks hbb hz hb1 hbound em g
theorem flat_str {H:Hp}:∀ l:List UInt8,FlatR H 1 (l.map byteD) (l.map fun b=>Value.int .u8 b.toNat)
 | []=>rfl
 | b::l=>⟨[.int .u8 b.toNat],l.map fun b=>Value.int .u8 b.toNat,rfl,rfl,⟨by simp [byteD,RepC],by simp [one]⟩,flat_str l⟩
theorem p_appS {i r bb:Nat}{T T' e:TypeId}{x y:Operand}{l zs:List UInt8}{s:ByteArray}{z:Z3}{i0 i1 ie:TI}(j:Nat)(hT:TabOK P tab)(ho:o.op=.call ⟨.builtin .append,[x,y].toArray,#[T,T']⟩)(hw:wantD ops t o=some true)(hd:o.dst=some i)(hi:Nat.blt i N=true)
  (hx:opD t x=some (.v (SL z))) (hj:h[j]? = some (r,.opq (bufO e l z))) (hy:opD t y=some (.v (.string s)))
  (hi0:ti tab T=some i0) (hd0:i0.d=.slice e) (hi1:ti tab T'=some i1) (hd1:i1.d=.str) (hie:ti tab e=some ie) (hks:ie.size=1) (hbb:ie.bytes=bb) (hz:ie.zero.length=1) (hb1:Nat.ble 1 bb=true) (hbound:(l.length+s.data.toList.length)*bb≤140737488355328) (em:l++s.data.toList=zs)
  (g:∀ z':Z3,opsD P C N ops rest ⟨(i,.v (SL z'))::t,h.set j (0,.opq (bufO e zs z')),k⟩ Q):opsD P C N ops (o::rest) ⟨t,h,k⟩ Q:=
 buf_app (ys:=s.data.toList.map byteD) j hT ho hw hd hi hx hj (fun H a w core kt=>by
  have e1:=Kac (K4 kt hy);have hs:(s.data.toList.map byteD).length=s.size:=by rw [List.length_map,Array.length_toList];rfl
  rw [e1,hs];refine ⟨rfl,fun w' _=>⟨Lib.strCells s,by rw [Lib.strCells_length];omega,flat_str _,Lib.run_firstCells_string w' 1 s⟩⟩) hi0 hd0 hi1 (.inr hd1) hie hks hbb hz hb1 (by rw [List.length_map];exact hbound) (by rw [← em,List.map_append]) g
theorem o_bufC {b' off k0:Nat}{ds:List D}{T':TypeId}(e:TypeId)(j:Nat)(hb:h[j]? = some (b',.cells ds T'))(hd:ds[off]? = some (.lst k0 [] .full))(g:∀ z:Z3,opsD P C N ops rest ⟨t,(0,.opq (bufO e [] z))::h.set j (b',.cells (ds.set off (.v (SL z))) T'),k⟩ Q):opsD P C N ops rest ⟨t,h,k⟩ Q:=fun a w ⟨H,c,kt,hn,hd'⟩=>by
 obtain ⟨z,c'⟩:=row_nilC 1 j hb hd c;refine g z a w ⟨H,c'.swap rfl ?_,kt,hn,hd'⟩;intro p hp;rcases List.mem_cons.1 hp with rfl|hp
 ·have:=c'.blks _ (List.mem_cons_self ..);refine ⟨this,fun a n m q hm=>?_⟩;rcases this with ⟨a0,e1,_⟩|⟨b,m',us,rest,T,e1,h0,hm',h1,h2,h3,h4⟩
  ·rw [q] at e1;simp only [Value.slice.injEq] at e1;omega
  obtain ⟨us1,g1,g2,g3⟩:=c.blks _ (List.mem_of_getElem? hb);obtain ⟨u,f1,f2,f3,f4⟩:=Kc8 g2 hd;obtain ⟨us2,k1,k2,k3⟩:=c'.blks (b',Blk.cells (ds.set off (.v (SL z))) T') (List.mem_cons_of_mem _ (List.mem_of_getElem? (by rw [List.getElem?_set_self (List.getElem?_eq_some_iff.1 hb).1])));rw [g1] at k1;simp only [Option.some.injEq,Obj.cells.injEq,and_true,true_and] at k1;have hus:us1=us2:=by simpa using k1
  subst hus;obtain ⟨u2,f5,f6,_,_⟩:=Kc8 k2 (by rw [List.getElem?_set_self (List.getElem?_eq_some_iff.1 hd).1]);rw [f1] at f5;simp only [Option.some.injEq] at f5;subst f5;simp only [RepC,List.cons.injEq,and_true] at f6;simp only [RepC,List.cons.injEq,and_true] at f2;obtain ⟨y,f7,f8,_⟩:=f2;subst f7;rw [f6,q] at f8;simp only [CapOK] at f8;rw [q] at e1;simp only [List.length_nil,Value.slice.injEq] at e1;omega
 exact c'.blks _ (List.mem_cons_of_mem _ hp)
end
end
section
open Go Go.RowKit
set_option linter.all false
set_option maxHeartbeats 4000000
set_option maxRecDepth 100000
structure Kar where
 gBuf:List UInt8
structure Kj where
 gB:Kar
 gIn:Int
abbrev pgH (m0:Kj)(o0:Nat)(z:Z3):List (Nat×Blk):=[(o0,Blk.cells [.slf o0,.v (SL z),.v (.int .i64 m0.gIn)] 53),(0,Blk.opq (bufO 5 m0.gB.gBuf z))]
theorem core_at {H:Hp}{w:World}{h:List (Nat×Blk)}{k:List (Nat×Value)}(hA:Ag H w)(hb:∀ p∈h,BlkOK H w p)(ht:∀ p∈k,TokOK H w p)(hnd:(KO h k).Nodup):Core ⟨H,w,KO h k⟩ H h k w:=
 ⟨hA,Hp.le_refl H,fun _ _ x=>.inl x,fun _ _ _=>rfl,Nat.le_refl _,hb,ht,hnd,fun b hb=>.inl hb,Env.refl w⟩
theorem reps3 {H:Hp}{d0 d1 d2:D}{us:List Value}(h:Reps H [d0,d1,d2] us):∃ u0 u1 u2,us=[u0,u1,u2]∧(RepC H d0 [u0]∧one u0=true∧d0.flat=true)∧(RepC H d1 [u1]∧one u1=true∧d1.flat=true)∧(RepC H d2 [u2]∧one u2=true∧d2.flat=true):=by
 simp only [Reps] at h;obtain ⟨u0,_,rfl,h0,u1,_,rfl,h1,u2,_,rfl,h2,rfl⟩:=h;exact ⟨u0,u1,u2,rfl,h0,h1,h2⟩
theorem copy_ok (m0:Kj)(o0:Nat)(z:Z3):CallsD Tryz.prog 51 [.ptr o0 0] (pgH m0 o0 z) [] (fun d h k=>d=.tup []∧h=pgH m0 o0 z∧k=[]):=by
 refine ⟨⟨_,Tryz.func51,rfl,rfl⟩,fun H w vs hv hA hb ht hnd=>?_⟩;simp only [RepsV] at hv;obtain ⟨u,us,rfl,hu,rfl⟩:=hv;have:=KbV hu;subst this;have c:=core_at hA hb ht hnd;obtain ⟨us,h1,h2,h3⟩:=hb _ (List.mem_cons_self ..);obtain ⟨u0,u1,u2,rfl,r0,r1,r2⟩:=reps3 h2;have htup:Rep H (.tup []) (.tuple #[]):=⟨⟨[],rfl,rfl⟩,rfl⟩;have q:=r0.1;simp only [RepC,List.cons.injEq,and_true] at q;rcases q with rfl|rfl
 ·refine (copy_fresh o0 w (by simp [World.cell?,h1]) (by simp [World.shape?,h1]) (by simp [World.frozen?,h1])).mono fun e w' ⟨he,hw⟩=>?_
  subst hw;refine ⟨_,H,.tup [],_,[],he,htup,?_,rfl,rfl,rfl⟩;have:=c.write (w':=w.setCell ⟨o0,0,none⟩ (.pointer (some ⟨o0,0,none⟩))) (j:=0) (us':=[.pointer (some ⟨o0,0,none⟩),u1,u2]) (ds':=[.slf o0,.v (SL z),.v (.int .i64 m0.gIn)]) rfl ⟨rfl,rfl,rfl,Nat.le_refl _⟩ size_set (fun i hi=>by rw [Kf1,if_neg (fun q=>hi q.symm)]) (by rw [Kf1,if_pos rfl,h1];rfl)
   ⟨_,_,rfl,⟨by simp [RepC],rfl,rfl⟩,_,_,rfl,r1,_,_,rfl,r2,rfl⟩
  exact this
 refine (copy_used o0 w (by simp [World.cell?,h1])).mono fun e w' ⟨he,hw⟩=>?_
 subst hw;exact ⟨_,H,.tup [],_,[],he,htup,c,rfl,rfl,rfl⟩
theorem Kiq (b g cap:Nat)(u0 u2:Value)(cs:Array Value)(l:List UInt8)(w:World)(h0:l ≠ [])(hbk:w.heap[b]? = some (.cells #[u0,.slice (some ⟨g,0,none⟩) l.length cap,u2] 53 (0,0)))(hbg:w.heap[g]? = some (.cells cs 5 (0,0)))(hcap:l.length≤cap)(hlen:l.length≤cs.size)(hmax:l.length≤9223372036854775807)(hcell:∀ (j:Nat) x,l[j]? = some x→w.cell? ⟨g,j,none⟩=some (.int .u8 x.toNat)) :
  Calls Tryz.prog 19 #[.pointer (some ⟨b,0,none⟩)] w fun e w'=>e=.returned (.string ⟨l.toArray⟩)∧w'=w.drew.freeze ⟨g,0,none⟩ l.length:=by
 have hl0:l.length ≠ 0:=by simpa using h0
 have c1:w.drew.cell? ⟨b,1,none⟩=some (.slice (some ⟨g,0,none⟩) l.length cap):=by
  have:w.drew.heap[b]? = some (.cells #[u0,.slice (some ⟨g,0,none⟩) l.length cap,u2] 53 (0,0)):=hbk;rw [Lib.cell_of_heap this];rfl
 have hSD:(Builtin.unsafeSliceData_ #[22] 93 #[.slice (some ⟨g,0,none⟩) l.length cap]).run Tryz.prog w.drew=.ok (.pointer (some ⟨g,0,none⟩)) w.drew:=
  Lib.run_unsafeSliceData_row _ _ _ _ _ _ (by omega)
 have hUS:(Builtin.unsafeString_ #[93,3] 9 #[.pointer (some ⟨g,0,none⟩),.int .i64 l.length]).run Tryz.prog w.drew=.ok (.string ⟨l.toArray⟩) (w.drew.freeze ⟨g,0,none⟩ l.length):=
  Lib.run_unsafeString_row w.drew 93 3 9 5 (by kernel_rfl) (by kernel_rfl) g cs.size (by have hg':w.drew.heap[g]? = some (.cells cs 5 (0,0)):=hbg;simp [World.shape?,hg']) l h0 (by omega) (by omega) (fun j x hx=>by have:=hcell j x hx;simp only [Addr.add_lit,Nat.zero_add];exact this)
 go_enter Tryz.func19,Tryz.ntmps19
 go_wp2
 go_region
 all_goals (go_wp2;go_ret;exact ⟨rfl,rfl⟩)
def strB (m:Kj):ByteArray×Kj:=(⟨m.gB.gBuf.toArray⟩,m)
def strOK (m:Kj):Bool:=!m.gB.gBuf.isEmpty && decide (m.gB.gBuf.length≤9223372036854775807)
theorem Khu {H:Hp}:∀ {l:List UInt8} {us:List Value},FlatR H 1 (l.map byteD) us→us=l.map fun b=>Value.int .u8 b.toNat
 | [],us,h=>h
 |
  b::l,us,h=>by
  obtain ⟨u1,u2,rfl,hl,⟨hr,_⟩,h2⟩:=h;simp only [byteD,RepC] at hr;subst hr;rw [Khu h2];rfl
theorem strB_ok (m0:Kj)(o0:Nat)(z:Z3)(h0:strOK m0=true):CallsD Tryz.prog 19 [.ptr o0 0] (pgH m0 o0 z) [] (fun d h k=>d=.v (.string (strB m0).1)∧h=[(o0,Blk.cells [.slf o0,.any,.v (.int .i64 (strB m0).2.gIn)] 53)]∧k=[]):=by
 refine ⟨⟨_,Tryz.func19,rfl,rfl⟩,fun H w vs hv hA hb ht hnd=>?_⟩;simp only [strOK,Bool.and_eq_true,Bool.not_eq_true',List.isEmpty_eq_false_iff,decide_eq_true_eq] at h0;simp only [RepsV] at hv;obtain ⟨u,us,rfl,hu,rfl⟩:=hv;have:=KbV hu;subst this;obtain ⟨us,h1,h2,h3⟩:=hb _ (List.mem_cons_self ..);obtain ⟨u0,u1,u2,rfl,r0,r1,r2⟩:=reps3 h2;have q:=r1.1;simp only [RepC,List.cons.injEq,and_true] at q;subst q;have hq:(bufO 5 m0.gB.gBuf z).Q H w:=hb _ (List.mem_cons_of_mem _ (List.mem_cons_self ..));obtain ⟨hrow,hty⟩:=hq;rcases hrow with ⟨a,_,e⟩|⟨g,m,us,rest,T,e,k0,hm,k1,k2,k3,k4⟩
 ·exact absurd (by simpa using e) h0.1
 obtain ⟨cs,hcs⟩:=hty _ _ _ e hm;rw [k1] at hcs;simp only [Option.some.injEq,Obj.cells.injEq,and_true] at hcs;obtain ⟨hcs,rfl⟩:=hcs;rw [List.length_map] at e k0;have hus:=Khu k2;rw [e] at h1;have hM:KO (pgH m0 o0 z) []=[o0,g]:=by
  have:KaG (SL z)=[g]:=by rw [e];simp [KaG,hm]
  simp [KO,K6,bufO,this]
 rw [hM] at hnd;have hne:o0 ≠ g:=by simpa using hnd
 refine (Kiq o0 g m u0 u2 _ m0.gB.gBuf w h0.1 h1 k1 k0 (by rw [← List.length_map (f:=fun b:UInt8=>Value.int .u8 b.toNat),← hus];simp) h0.2 (fun j x hx=>?_)).mono fun e' w' ⟨he,hw⟩=>?_
 ·have:us[j]? = some (.int .u8 x.toNat):=by rw [hus];simp [hx]
  simp only [World.cell?,k1,Option.isSome_none,Bool.false_eq_true,if_false,List.getElem?_toArray];rw [List.getElem?_append_left (List.getElem?_eq_some_iff.1 this).1];exact this
 subst hw;obtain ⟨f1,f2⟩:=Kht w.drew ⟨g,0,none⟩ m0.gB.gBuf.length;have hdr:∀ k,k ≠ g→(w.drew.freeze ⟨g,0,none⟩ m0.gB.gBuf.length).heap[k]? = w.heap[k]?:=fun k hk=>by
  rcases Kee (w:=w.drew) (a:=⟨g,0,none⟩) (n:=m0.gB.gBuf.length) (k:=k) with h|⟨h,_⟩
  ·rw [h];rfl
  exact absurd h.symm (by simpa using hk)
 rw [hM];refine ⟨_,H,_,_,[],he,rep_v rfl,⟨⟨fun a v e2=>by rw [KgV];exact hA a v e2,Kh3 (hA.gg.step (Hp.le_refl H) rfl)⟩,Hp.le_refl H,fun _ _ x=>.inl x,fun k _ hk=>hdr k (fun q=>hk (by simp [q])),by rw [f2];exact Nat.le_refl _,?_,by simp,by simp [KO,K6],by simp [KO,K6],Env.trans (b:=w.drew) ⟨rfl,rfl,rfl,Nat.le_refl _⟩ f1⟩,rfl,rfl,rfl⟩;intro p hp;simp only [List.mem_singleton] at hp;subst hp;exact ⟨[u0,.slice (some ⟨g,0,none⟩) m0.gB.gBuf.length m,u2],by rw [hdr _ hne];exact h1,⟨_,_,rfl,r0,_,_,rfl,⟨by simp [RepC],rfl,rfl⟩,_,_,rfl,r2,rfl⟩,h3⟩
end
section
open Go Go.RowKit
set_option linter.all false
def joinB (xs:List ByteArray)(s:ByteArray):ByteArray:=⟨(Lib.join (xs.map (·.data.toList)) s.data.toList).toArray⟩
def KeU (xs:List ByteArray)(s:ByteArray):Bool:=decide (xs.length≤140737488355328) && decide ((joinB xs s).size≤140737488355328)
theorem els_str {H:Hp}{b:Nat}:∀ {xs:List ByteArray} {off:Nat},Els H 1 b off (xs.map fun x=>D.v (.string x))→∀ (j:Nat) x,xs[j]? = some x→H ⟨b,off+j,none⟩=some (.string x)
 | [],off,_,j,x,e=>by simp at e
 |
  y::xs,off,h,0,x,e=>by
  simp only [List.map_cons,Els,RepC] at h;obtain ⟨⟨us,hl,rfl,ht,_⟩,_⟩:=h;simp only [List.getElem?_cons_zero,Option.some.injEq] at e;subst e;exact ht 0 _ rfl
 |
  y::xs,off,h,j+1,x,e=>by
  simp only [List.map_cons,Els] at h;have:=els_str h.2 j x (by simpa using e);rw [show off+(j+1)=off+1+j by omega];exact this
theorem joinB_ok (xs:List ByteArray)(s:ByteArray)(h:KeU xs s=true):CallsD Tryz.prog 35 [.lst 1 (xs.map fun x=>D.v (.string x)) .no,.v (.string s)] [] [] (fun d h k=>d=.v (.string (joinB xs s))∧h=[]∧k=[]):=by
 refine ⟨⟨_,Tryz.func35,rfl,rfl⟩,fun H w vs hv hA _ _ _=>?_⟩;simp only [KeU,Bool.and_eq_true,decide_eq_true_eq] at h;simp only [RepsV] at hv;obtain ⟨u,us,rfl,hu,u2,us2,rfl,hu2,rfl⟩:=hv;have:=Kac hu2;subst this;obtain ⟨_,hx⟩:=Kbd hu;have hsz:(Lib.join (xs.map (·.data.toList)) s.data.toList).length≤140737488355328:=by
  have:=h.2;unfold joinB ByteArray.size at this;simpa using this
 rcases hx with ⟨h0,a,m,rfl,_⟩|⟨b,off,m,rfl,hm,hE⟩
 ·have:xs=[]:=by simpa using h0
  subst this;refine (Tryz.strings_Join_none a m s w).mono fun e w' ⟨he,hw⟩=>?_
  subst hw;refine ⟨_,H,_,[],[],he,rep_v rfl,Kec hA (Below.refl _ _),rfl,rfl,rfl⟩
 have hc:=els_str hE;rw [List.length_map] at hm;by_cases h0:xs=[]
 ·subst h0;refine (Tryz.strings_Join_none (some ⟨b,off,none⟩) m s w).mono fun e w' ⟨he,hw⟩=>?_
  subst hw;refine ⟨_,H,_,[],[],he,rep_v rfl,Kec hA (Below.refl _ _),rfl,rfl,rfl⟩
 obtain ⟨y,ys,rfl⟩:=List.exists_cons_of_ne_nil h0;have hb:b < w.heap.size:=hA.lt (hc 0 y rfl);have:=Tryz.strings_Join b off m (y::ys) s w (fun j x e=>hA _ _ (hc j x e)) hb h.1 hm hsz;rw [List.length_map];refine this.mono fun e w' ⟨he,hw⟩=>?_
 exact ⟨_,H,_,[],[],he,rep_v rfl,Kec hA hw,rfl,rfl,rfl⟩
end
section
open Go Go.RowKit
set_option linter.all false
def itoaB (x:Int):ByteArray:=⟨(Lib.itoa x).toArray⟩
def KdV (x:Int):Bool:=decide (-9223372036854775808≤x) && decide (x≤9223372036854775807)
theorem below_gr (w:World)(n:Nat)(os:Array Obj):Below w.heap.size w (Sort.grow (w.drewN n) os):=
 ⟨rfl,rfl,rfl,by simp [Sort.grow,World.drewN],fun k hk=>by simp only [Sort.grow,World.drewN];rw [Array.getElem?_append_left hk]⟩
theorem itoaB_ok (x:Int)(h:KdV x=true):CallsD Tryz.prog 24 [.v (.int .i64 x)] [] [] (fun d h k=>d=.v (.string (itoaB x))∧h=[]∧k=[]):=by
 refine ⟨⟨_, Tryz.func24, rfl, rfl⟩, fun H w vs hv hA _ _ _ => ?_⟩;simp only [KdV, Bool.and_eq_true, decide_eq_true_eq] at h;simp only [RepsV] at hv;obtain ⟨u, us, rfl, hu, rfl⟩ := hv;have := Kac hu;subst this;have ht : Lib.TabIs Tryz.prog w "internal/strconv.uint64pow10" .u64 Lib.pow10Tab := by
  obtain ⟨_, _, T, fz, h3⟩ := hA.gg;unfold Lib.TabIs World.var?;rw [show Tryz.prog.globalNamed "internal/strconv.uint64pow10" = some tabG by kernel_rfl, Option.bind_some, h3];rfl
 refine (Tryz.strconv_Itoa x h.1 h.2 w ht).mono fun e w' ⟨he,k,os,hw⟩=>?_
 subst hw;exact ⟨_,H,_,[],[],he,rep_v rfl,Kec hA (below_gr w k os),rfl,rfl,rfl⟩
end
end Go.Proofs.YtfkaicefhibndaaGreatDoor.Ab
end
