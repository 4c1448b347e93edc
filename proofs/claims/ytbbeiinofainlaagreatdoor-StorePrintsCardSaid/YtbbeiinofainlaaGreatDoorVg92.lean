/- The texts that storePrintsCard_holds leans on, part 2. -/
import Derived.Test.YtbbeiinofainlaaGreatDoorVg91
set_option linter.all false
set_option maxRecDepth 100000
set_option maxHeartbeats 80000000
noncomputable section
namespace Go.Proofs.YtbbeiinofainlaaGreatDoor.Ab
section
open Go
theorem els_get {H:Hp}{k b:Nat}:∀ {xs:List D} {off i:Nat} {x:D},Els H k b off xs→xs[i]? = some x→∃ us,us.length=k∧RepC H x us∧Told H b (off+i*k) us∧∀ u∈us,one u=true
 | [],off,i,x,h,e=>by simp at e
 |
  y::ys,off,0,x,h,e=>by
  simp only [Els] at h;simp at e;subst e;simpa using h.1
 |
  y::ys,off,i+1,x,h,e=>by
  simp only [Els] at h;simp at e;obtain ⟨us,h1,h2,a,c⟩:=els_get h.2 e;exact ⟨us,h1,h2,by rw [show off+(i+1)*k=off+k+i*k by rw [Nat.add_mul];omega];exact a,c⟩
theorem els_drop {H:Hp}{k b:Nat}:∀ (n:Nat) {xs:List D} {off:Nat},Els H k b off xs→Els H k b (off+n*k) (xs.drop n)
 | 0,xs,off,h=>by simpa using h
 | n+1,[],off,h=>by simp [Els]
 |
  n+1,x::xs,off,h=>by
  simp only [Els] at h;have:=els_drop n h.2;rw [show off+k+n*k=off+(n+1)*k by rw [Nat.add_mul];omega] at this;simpa using this
theorem els_take {H:Hp}{k b:Nat}:∀ (n:Nat) {xs:List D} {off:Nat},Els H k b off xs→Els H k b off (xs.take n)
 | 0,xs,off,h=>by simp [Els]
 | n+1,[],off,h=>by simp [Els]
 |
  n+1,x::xs,off,h=>by
  simp only [Els] at h;simp only [List.take_succ_cons,Els];exact ⟨h.1,els_take n h.2⟩
theorem Ki3 {H:Hp}{k b:Nat}:∀ {xs ys:List D} {off:Nat},Els H k b off xs→Els H k b (off+xs.length*k) ys→Els H k b off (xs++ys)
 | [],ys,off,_,h=>by simpa using h
 |
  x::xs,ys,off,h,g=>by
  simp only [Els] at h;simp only [List.cons_append,Els];refine ⟨h.1,Ki3 h.2 ?_⟩;rw [show off+k+xs.length*k=off+(x::xs).length*k by simp [Nat.add_mul];omega];exact g
section
variable {P : Program} {C : Ctx} {N : Nat} {ops rest : List Oper} {o : Oper} {t : List (Nat × D)} {h : List (Nat × Blk)} {k : List (Nat × Value)} {Q : Exit → S → Prop} {tab : List (Option TI)}
theorem KdK {H:Hp}{kk:Nat}{xs:List D}{c:Cap}{y:Value}(hr:Rep H (.lst kk xs c) y):∃ a m,y=.slice a xs.length m:=by
 obtain ⟨_,h2⟩:=KbK hr;rcases h2 with ⟨rfl,a,m,rfl,_⟩|⟨b,off,m,rfl,_⟩
 ·exact ⟨a,m,rfl⟩
 exact ⟨_,m,rfl⟩
theorem Kg1 {w:World}{T e:TypeId}{i:TI}{a:Option Addr}{n m:Nat}{ty:TypeId}(hi:tiOf P T=some i)(hd:i.d=.slice e):(Builtin.len_ #[T] ty #[.slice a n m]).run P w=.ok (.int .i64 n) w:=by
 obtain ⟨d,h1,h2⟩:=Kak (w:=w) hi;have:=KbY (h2.trans hd);subst this;unfold Builtin.len_;simp only [List.getElem?_toArray,List.getElem?_cons_zero];rw [Kw h1];rfl
theorem Kk6 {w:World}{T:TypeId}{i:TI}{s:ByteArray}{ty:TypeId}(hi:tiOf P T=some i)(hd:i.d=.str):(Builtin.len_ #[T] ty #[.string s]).run P w=.ok (.int .i64 s.size) w:=by
 obtain ⟨d,h1,h2⟩:=Kak (w:=w) hi;have:=Kf8 (h2.trans hd);subst this;unfold Builtin.len_;simp only [List.getElem?_toArray,List.getElem?_cons_zero];rw [Kw h1];rfl
theorem Kb9 {b:Builtin}{args:List Operand}{ts:Array TypeId}{a:Act}{w w':World}{v:Value}{s:Array TypeId→TypeId→Array Value→Sem Value}(ho:o.op=.call ⟨.builtin b,args.toArray,ts⟩)
  (hb:∀ c vs,builtin b ts o.type c vs=(do pure (.value (← s ts o.type vs)))) (hr:(s ts o.type (args.map a.eval).toArray).run P w=.ok v w'):(execOp a.eval o).run P w=.ok (.value v) w':=by
 unfold execOp;rw [ho];simp only [resolve];rw [Kw (a:=(⟨.builtin b ts o.type _,(args.map a.eval).toArray⟩:Deferred)) (w':=w) (by rw [← List.map_toArray];rfl)];simp only [invoke,hb];exact Kbb hr
theorem Kef {n kk:Nat}{T e:TypeId}{x:Operand}{xs:List D}{c:Cap}{b:TI}(hT:TabOK P tab)(ho:o.op=.call ⟨.builtin .len,[x].toArray,#[T]⟩)(hx:opD t x=some (.lst kk xs c))(hti:ti tab T=some b)(hs:b.d=.slice e)(hn:xs.length=n):∀ H a w,TOK H t a→∃ v,(execOp a.eval o).run P w=.ok (.value v) w∧Rep H (.v (.int .i64 n)) v:=
 fun H a w kt=>by
  obtain ⟨ad,m,hy⟩:=KdK (Kae kt hx);refine ⟨.int .i64 n,Kb9 (s:=Builtin.len_) ho (fun _ _=>rfl) ?_,rep_v rfl⟩;simp only [List.map_cons,List.map_nil,hy,hn];exact Kg1 (ti_ok hT hti) hs
theorem Kax {i n kk:Nat}{T e:TypeId}{x:Operand}{xs:List D}{c:Cap}{a:TI}(hT:TabOK P tab)(ho:o.op=.call ⟨.builtin .len,[x].toArray,#[T]⟩)(hw:wantD ops t o=some true)(hd:o.dst=some i)(hi:Nat.blt i N=true)
 (hx:opD t x=some (.lst kk xs c)) (hti:ti tab T=some a) (hs:a.d=.slice e) (hn:xs.length=n) (g:opsD P C N ops rest ⟨(i,.v (.int .i64 n))::t,h,k⟩ Q):opsD P C N ops (o::rest) ⟨t,h,k⟩ Q:=Kdi (s:=⟨t,h,k⟩) hw hd hi (Kef hT ho hx hti hs hn) g
theorem x_lenS {n:Nat}{T:TypeId}{x:Operand}{s:ByteArray}{b:TI}(hT:TabOK P tab)(ho:o.op=.call ⟨.builtin .len,[x].toArray,#[T]⟩)(hx:opD t x=some (.v (.string s)))(hti:ti tab T=some b)(hs:b.d=.str)(hn:s.size=n):∀ H a w,TOK H t a→∃ v,(execOp a.eval o).run P w=.ok (.value v) w∧Rep H (.v (.int .i64 n)) v:=
 fun H a w kt=>by
  refine ⟨.int .i64 n,Kb9 (s:=Builtin.len_) ho (fun _ _=>rfl) ?_,rep_v rfl⟩;simp only [List.map_cons,List.map_nil,KW (Kae kt hx),← hn];exact Kk6 (ti_ok hT hti) hs
theorem p_lenS {i n:Nat}{T:TypeId}{x:Operand}{s:ByteArray}{a:TI}(hT:TabOK P tab)(ho:o.op=.call ⟨.builtin .len,[x].toArray,#[T]⟩)(hw:wantD ops t o=some true)(hd:o.dst=some i)(hi:Nat.blt i N=true)
 (hx:opD t x=some (.v (.string s))) (hti:ti tab T=some a) (hs:a.d=.str) (hn:s.size=n) (g:opsD P C N ops rest ⟨(i,.v (.int .i64 n))::t,h,k⟩ Q):opsD P C N ops (o::rest) ⟨t,h,k⟩ Q:=Kdi (s:=⟨t,h,k⟩) hw hd hi (x_lenS hT ho hx hti hs hn) g
theorem KO {kk:Nat}{T e:TypeId}{x ix:Operand}{xs:List D}{c:Cap}{ik:IntKind}{j:Int}{d:D}{f tie:TI}(hT:TabOK P tab)(ho:o.op=.indexAddr T x ix)(hx:opD t x=some (.lst kk xs c))(hix:opD t ix=some (.v (.int ik j)))(hti:ti tab T=some f)(hs:f.d=.slice e)(hte:ti tab e=some tie)(hk:tie.size=kk)(h0:0≤j)(hb:xs[j.toNat]? = some d):∀ H a w,TOK H t a→∃ v,(execOp a.eval o).run P w=.ok (.value v) w∧Rep H (.el d) v:=
 fun H a w kt=>by
  obtain ⟨dd,h1,h2⟩:=Kak (w:=w) (ti_ok hT hti);have:=KbY (h2.trans hs);subst this;obtain ⟨hlt,_⟩:=List.getElem?_eq_some_iff.1 hb;obtain ⟨_,g⟩:=KbK (Kae kt hx);rcases g with ⟨rfl,_⟩|⟨b,off,m,hy,_,hE⟩
  ·simp at hb
  obtain ⟨us,s,n,p,q⟩:=els_get hE hb;refine ⟨.pointer (some ⟨b,off+j.toNat*kk,none⟩),?_,Kbi (by simp only [RepC];exact ⟨b,_,us,rfl,n,p,q⟩) rfl rfl⟩;unfold execOp;rw [ho];refine Kbb ?_;rw [hy,KW (Kae kt hix)];unfold Instr.indexAt;rw [Kw (a:=(ik,j)) rfl];simp only [];have r:j < (xs.length:Int):=by omega
  simp only [Kcz,h1,KcG,Kby (ti_ok hT hte),hk,if_pos (show 0≤j∧j < (xs.length:Int) from ⟨h0,r⟩),KcT]
theorem Ka3 {i kk:Nat}{T e:TypeId}{x ix:Operand}{xs:List D}{c:Cap}{ik:IntKind}{j:Int}{d:D}{a tie:TI}(hT:TabOK P tab)(ho:o.op=.indexAddr T x ix)(hw:wantD ops t o=some true)(hd:o.dst=some i)(hi:Nat.blt i N=true)
 (hx:opD t x=some (.lst kk xs c)) (hix:opD t ix=some (.v (.int ik j))) (hti:ti tab T=some a) (hs:a.d=.slice e) (hte:ti tab e=some tie) (hk:tie.size=kk) (h0:0≤j) (hb:xs[j.toNat]? = some d)
 (g:opsD P C N ops rest ⟨(i,.el d)::t,h,k⟩ Q):opsD P C N ops (o::rest) ⟨t,h,k⟩ Q:=Kdi (s:=⟨t,h,k⟩) hw hd hi (KO hT ho hx hix hti hs hte hk h0 hb) g
end
def optI (t:List (Nat×D)):Option Operand→Option (Option Int)
 | none=>some none
 |
  some x=>match opD t x with
  | some (.v (.int _ n))=>some (some n)
  | _=>none
theorem Keg {P:Program}{w:World}{kk:IntKind}{n:Int}{y:Nat}{code:BoundsCode}(h0:0≤n)(h1:n≤y):(Instr.sliceBound (.int kk n) y code).run P w=.ok n.toNat w:=by
 unfold Instr.sliceBound;rw [Kw (a:=(kk,n)) rfl];simp only [if_pos (show 0≤n∧n≤(y:Int) from ⟨h0,h1⟩)];rfl
theorem Kks {H:Hp}{t:List (Nat×D)}{a:Act}(kt:TOK H t a){x:Option Operand}{r:Option Int}(e:optI t x=some r):(x=none∧r=none)∨∃ y kk n,x=some y∧r=some n∧a.eval y=.int kk n:=by
 cases x with
 | none=>simp [optI] at e;exact .inl ⟨rfl,e.symm⟩
 |
  some y=>
  simp only [optI] at e;split at e
  ·rename_i kk n hy;simp only [Option.some.injEq] at e;exact .inr ⟨y,kk,n,rfl,e.symm,KW (Kae kt hy)⟩
  cases e
theorem Ki4 {P:Program}{w:World}{H:Hp}{t:List (Nat×D)}{a:Act}(kt:TOK H t a){isS:Bool}{len cap l n m:Nat}{lo hi mx:Option Operand}{l' n' m':Option Int}(e:optI t lo=some l')(f:optI t hi=some n')(g:optI t mx=some m')
  (h1:l'.getD 0=l) (h2:n'.getD len=n) (q:m'.getD cap=m) (j:m' ≠ none→n' ≠ none) (r:l≤n) (s:n≤m) (u:m≤cap) :
  (Instr.sliceBounds isS len cap (lo.map a.eval) (hi.map a.eval) (mx.map a.eval)).run P w=.ok (l,n,m) w:=by
 unfold Instr.sliceBounds;rcases Kks kt e with ⟨rfl,rfl⟩|⟨x,k1,b,rfl,rfl,v1⟩<;>rcases Kks kt f with ⟨rfl,rfl⟩|⟨z,k2,n2,rfl,rfl,v2⟩<;>rcases Kks kt g with ⟨rfl,rfl⟩|⟨A,B,c,rfl,rfl,d⟩ <;>
  simp only [Option.getD_none,Option.getD_some,Option.map_none,Option.map_some] at*<;>
  first
  | (
   have hl:l=0:=by omega
   have hn:n=len:=by omega
   have p:m=cap:=by omega
   subst hl;subst hn;subst p;simp only [Kcz,KcG];done)
  | (
   simp only [Kcz,KcG,v1,v2,d,Keg (show (0:Int)≤c by omega) (show c≤(cap:Int) by omega),Keg (show (0:Int)≤n2 by omega) (show n2≤((c.toNat:Nat):Int) by omega),Keg (show (0:Int)≤b by omega) (show b≤((n2.toNat:Nat):Int) by omega)];congr 1;simp only [Prod.mk.injEq];omega)
  | (
   simp only [Kcz,KcG,v2,d,Keg (show (0:Int)≤c by omega) (show c≤(cap:Int) by omega),Keg (show (0:Int)≤n2 by omega) (show n2≤((c.toNat:Nat):Int) by omega)];congr 1;simp only [Prod.mk.injEq];omega)
  | (
   simp only [Kcz,KcG,v1,v2,Keg (show (0:Int)≤n2 by omega) (show n2≤(cap:Int) by omega),Keg (show (0:Int)≤b by omega) (show b≤((n2.toNat:Nat):Int) by omega)];congr 1;simp only [Prod.mk.injEq];omega)
  | (
   simp only [Kcz,KcG,v2,Keg (show (0:Int)≤n2 by omega) (show n2≤(cap:Int) by omega)];congr 1;simp only [Prod.mk.injEq];omega)
  | (
   simp only [Kcz,KcG,v1,Keg (show (0:Int)≤b by omega) (show b≤(len:Int) by omega)];congr 1;simp only [Prod.mk.injEq];omega)
  | (exfalso;revert j;simp;done)
section
variable {P : Program} {C : Ctx} {N : Nat} {ops rest : List Oper} {o : Oper} {t : List (Nat × D)} {h : List (Nat × Blk)} {k : List (Nat × Value)} {Q : Exit → S → Prop} {tab : List (Option TI)}
theorem x_part {l n kk:Nat}{T e:TypeId}{x:Operand}{lo hi:Option Operand}{l' n':Option Int}{xs:List D}{c:Cap}{f tie:TI}(hT:TabOK P tab)(ho:o.op=.slice T x lo hi none)
 (hx:opD t x=some (.lst kk xs c)) (p:optI t lo=some l') (r:optI t hi=some n') (hti:ti tab T=some f) (hs:f.d=.slice e) (hte:ti tab e=some tie) (hk:tie.size=kk) (h1:l'.getD 0=(l:Int)) (h2:n'.getD xs.length=(n:Int)) (s:l≤n) (u:n≤xs.length):∀ H a w,TOK H t a→∃ v,(execOp a.eval o).run P w=.ok (.value v) w∧Rep H (.lst kk ((xs.drop l).take (n - l)) .no) v:=fun H a w kt=>by
 obtain ⟨d,g,z⟩:=Kak (w:=w) (ti_ok hT hti);have:=KbY (z.trans hs);subst this;have hlen:((xs.drop l).take (n - l)).length=n - l:=by simp;omega
 obtain ⟨hc,hr⟩:=KbK (Kae kt hx);have key:∀ ad m,a.eval x=.slice ad xs.length m→xs.length≤m→(execOp a.eval o).run P w=.ok (.value (.slice (if m=l then ad else ad.map (·.add (l*kk))) (n - l) (m - l))) w:=by
  intro ad m hy j;unfold execOp;rw [ho];refine Kbb ?_;rw [hy];unfold Instr.sliceAt;rw [Kw g];simp only [Instr.slice];rw [Kw g];have:=Ki4 (P:=P) (w:=w) kt (isS:=true) (cap:=m) (mx:=none) (m':=none) (m:=m) p r rfl h1 h2 rfl (fun x=>absurd rfl x) s (by omega) (Nat.le_refl _);simp only [Option.map_none] at this ⊢;simp only [Kcz,KcG,this,Kby (ti_ok hT hte),hk]
 rcases hr with ⟨rfl,a0,A,hy,B⟩|⟨b,off,m,hy,j,hE⟩
 ·refine ⟨_,key a0 A hy (by simp),?_⟩;simp only [List.length_nil] at u;have hn:n=0:=by omega
  have hl:l=0:=by omega
  subst hn;subst hl;refine Kbi ?_ rfl rfl;simp only [RepC,CapOK,true_and];refine ⟨_,rfl,.inl ⟨by simp,_,_,rfl,fun q=>?_⟩⟩;split at q
  ·rename_i E;rw [E]
  cases a0 with
  | none=>rw [B rfl]
  | some _=>cases q
 refine ⟨_,key _ m hy j,?_⟩;by_cases hml:m=l
 ·rw [if_pos hml];have hn:n=l:=by omega
  subst hn;refine Kbi ?_ rfl rfl;simp only [RepC,CapOK,true_and];refine ⟨_,rfl,.inr ⟨b,off,m - n,by simp,by simp,by simp [Els]⟩⟩
 rw [if_neg hml];refine Kbi ?_ rfl rfl;simp only [RepC,CapOK,true_and];refine ⟨_,rfl,.inr ⟨b,off+l*kk,m - l,by simp [KcT,hlen],by rw [hlen];omega,els_take _ (els_drop l hE)⟩⟩
theorem p_part {i l n kk:Nat}{T e:TypeId}{x:Operand}{lo hi:Option Operand}{l' n':Option Int}{xs:List D}{c:Cap}{a tie:TI}(hT:TabOK P tab)(ho:o.op=.slice T x lo hi none)(hw:wantD ops t o=some true)(hd:o.dst=some i)(b:Nat.blt i N=true)
 (hx:opD t x=some (.lst kk xs c)) (f:optI t lo=some l') (j:optI t hi=some n') (hti:ti tab T=some a) (hs:a.d=.slice e) (hte:ti tab e=some tie) (hk:tie.size=kk) (h1:l'.getD 0=(l:Int)) (h2:n'.getD xs.length=(n:Int)) (p:l≤n) (q:n≤xs.length)
 (g:opsD P C N ops rest ⟨(i,.lst kk ((xs.drop l).take (n - l)) .no)::t,h,k⟩ Q):opsD P C N ops (o::rest) ⟨t,h,k⟩ Q:=Kdi (s:=⟨t,h,k⟩) hw hd b (x_part hT ho hx f j hti hs hte hk h1 h2 p q) g
end
end
section
open Go
theorem els_flat {H:Hp}{k b:Nat}:∀ {xs:List D} {off:Nat},Els H k b off xs→∃ us:List Value,us.length=xs.length*k∧Told H b off us∧(∀ u∈us,one u=true)∧∀ H' b' off',H.le H'→Told H' b' off' us→Els H' k b' off' xs
 | [],off,_=>⟨[],by simp,fun j u e=>by simp at e,by simp,fun _ _ _ _ _=>by simp [Els]⟩
 |
  x::xs,off,h=>by
  simp only [Els] at h;obtain ⟨⟨us,h1,h2,c,a⟩,d⟩:=h;obtain ⟨vs,g1,f,g,n⟩:=els_flat d;refine ⟨us++vs,by simp [h1,g1,Nat.add_mul];omega,fun j u e=>?_,fun u hu=>?_,fun H' b' off' hle ht=>?_⟩
  ·rw [List.getElem?_append] at e;split at e
   ·exact c j u e
   have:=f _ _ e;rw [show off+k+(j - us.length)=off+j by omega] at this;exact this
  ·rcases List.mem_append.1 hu with x|x
   ·exact a u x
   exact g u x
  simp only [Els];refine ⟨⟨us,h1,RepC.mono hle x us h2,fun j u e=>ht j u (by rw [List.getElem?_append_left (List.getElem?_eq_some_iff.1 e).1];exact e),a⟩,n H' b' (off'+k) hle fun j u e=>?_⟩;have:=ht (us.length+j) u (by rw [List.getElem?_append_right (by omega)];simpa using e);rw [show off'+(us.length+j)=off'+k+j by omega] at this;exact this
theorem next_le {need cap:Nat}(h:cap < need):Builtin.nextslicecap need cap≤2*need:=by
 unfold Builtin.nextslicecap;split
 ·omega
 split
 ·omega
 have key:∀ r c,c≤2*need→256≤c→Builtin.growBy need r c≤2*need:=by
  intro r;induction r with
  | zero=>intro c hc _;simpa [Builtin.growBy] using hc
  |
   succ r ih=>
   intro c hc h2;unfold Builtin.growBy;split
   ·exact hc
   exact ih _ (by omega) (by omega)
 exact key 4 cap (by omega) (by omega)
theorem Kh8 {P:Program}{w:World}{n:Nat}:(askRoom n).run P w=.ok () w:=by unfold askRoom;split<;>rfl
def wDrew (w:World):World:={ w with drawn:=w.drawn+1 }
theorem Core.drew {C:Ctx}{H:Hp}{h:List (Nat×Blk)}{k:List (Nat×Value)}{w:World}(c:Core C H h k w):Core C H h k (wDrew w):=
 ⟨⟨
  fun a v e=>c.ag a v e,c.ag.gg.step (Hp.le_refl H) rfl⟩,c.le,c.new,c.same,c.size,fun p hp=>by
  have:=c.blks p hp;obtain ⟨b,bl⟩:=p;cases bl<;>first|exact this|exact Opq.later _ H H w (wDrew w) this (Hp.le_refl H) (fun _ _=>rfl) (fun _ _ q=>q),fun p hp=>by
  have:=c.toks p hp;obtain ⟨b,y⟩:=p;exact this,c.nd,c.own,c.env.trans ⟨rfl,rfl,rfl,Nat.le_refl _⟩⟩
theorem KgN {P:Program}{w:World}{H:Hp}(hA:Ag H w){kk:Nat}{xs:List D}{c:Cap}{v:Value}(hr:Rep H (.lst kk xs c) v) :
  ∃ us:List Value,us.length=xs.length*kk∧(∀ u∈us,one u=true)∧(Builtin.firstCells kk xs.length v).run P w=.ok us.toArray w∧∀ H' b' off',H.le H'→Told H' b' off' us→Els H' kk b' off' xs:=by
 obtain ⟨_,h⟩:=KbK hr;rcases h with ⟨rfl,a,m,rfl,_⟩|⟨b,off,m,rfl,f,hE⟩
 ·refine ⟨[],by simp,by simp,?_,fun _ _ _ _ _=>by simp [Els]⟩;cases a with
  | none=>rfl
  | some a=>simp only [Builtin.firstCells,List.length_nil,Nat.zero_mul];rfl
 obtain ⟨us,h1,h2,d,e⟩:=els_flat hE;refine ⟨us,h1,d,?_,e⟩;have:=KeK (P:=P) (xs.length*kk) (h2.row hA) (by omega);rw [← h1,List.take_length] at this;simp only [Builtin.firstCells];rw [← h1];exact this
theorem app_run {P:Program}{tab:List (Option TI)}(hT:TabOK P tab){C:Ctx}{H:Hp}{h:List (Nat×Blk)}{k1 k2:List (Nat×Value)}{w:World}{kk bb:Nat}{T T' e e':TypeId}{ty:TypeId}{Y Z ie:TI}{xs ys:List D}{c c':Cap}{v1 v2:Value}
  (core:Core C H h (k1++k2) w) (R:(k1=[]∧c=.full)∨(k1=[(kk,v1)]∧c=.cur v1)) (hx:Rep H (.lst kk xs c) v1) (hy:Rep H (.lst kk ys c') v2)
  (ad:ti tab T=some Y) (ae:Y.d=.slice e) (af:ti tab T'=some Z) (ah:Z.d=.slice e') (hie:ti tab e=some ie) (hks:ie.size=kk) (hbb:ie.bytes=bb) (hz:ie.zero.length=kk) (ai:1≤bb) (hbound:(xs.length+ys.length)*bb≤140737488355328) :
  ∃ v w' H',(Builtin.append_ #[T,T'] ty #[v1,v2]).run P w=.ok v w'∧H.le H'∧Core C H' h ((kk,v)::k2) w'∧Rep H' (.lst kk (xs++ys) (.cur v)) v:=by
 subst hks;subst hbb;have hTe:=ti_ok hT hie;obtain ⟨d0,u0,u1⟩:=Kak (w:=w) (ti_ok hT ad);obtain rfl:=KbY (u1.trans ae);obtain ⟨d1,u2,u3⟩:=Kak (w:=w) (ti_ok hT af);obtain rfl:=KbY (u3.trans ah);obtain ⟨tif,z,t1,t2,t3,t4,t5⟩:=Kd0 (w:=w) hTe;obtain ⟨bs,f1,f2,f3,f4⟩:=KgN (P:=P) core.ag hx;obtain ⟨f,g1,g2,g3,g4⟩:=KgN (P:=P) core.ag hy;obtain ⟨a2,m2,ey⟩:=KdK hy;have av:(Builtin.lenOf v2).run P w=.ok ys.length w:=by rw [ey];rfl
 obtain ⟨hc,hxr⟩:=KbK hx;have hneed:xs.length+ys.length≤140737488355328:=Nat.le_trans (Nat.le_mul_of_pos_right _ ai) hbound;have start:∀ base cap,v1=.slice base xs.length cap→(Builtin.append_ #[T,T'] ty #[v1,v2]).run P w =
   (
    if
      xs.length+ys.length≤cap then (do
      let new ← Builtin.firstCells ie.size ys.length v2
      if let some a:=base then storeCells (a.add (xs.length*ie.size)) new.toList
      pure (.slice base (xs.length+ys.length) cap):Sem Value)
    else (do
      if ((xs.length + ys.length : Nat) : Int) > IntKind.i64.max ∧ ((false = true) ∨ (← Go.typeInfo e).bytes = 0) then runtimePanic (.error "growslice: len out of range")
      if Builtin.nextslicecap (xs.length + ys.length) cap * (← Go.typeInfo e).bytes > 2 ^ 48 then (if false then runtimePanic (.error "growslice: len out of range") else do
       if !(← Builtin.mayShare ie.size xs.length ys.length base v2) then mark .noRoom
       unsupported (.resourceLimit "append: a slice or a string whose bytes no memory bears"))
      let newCap ← choose (.appendCap (xs.length+ys.length) cap e)
      askRoom (newCap*(← Go.typeInfo e).bytes)
      let old ← Builtin.firstCells ie.size xs.length v1
      let new ← Builtin.firstCells ie.size ys.length v2
      let rest:=Builtin.zeroCells (← Go.zeroValue e).cells (newCap - (xs.length+ys.length));pure (.slice (some (← newRow e (old++new++rest))) (xs.length+ys.length) newCap):Sem Value)).run P w:=by
  intro base cap hv;subst hv;unfold Builtin.append_;simp only [List.getElem?_toArray,List.getElem?_cons_zero,List.getElem?_cons_succ];rw [Kw u0];simp only [];rw [Kw (Kby hTe)];rw [Kw u2];simp only [];rw [Kw (a:=false) (w':=w) rfl];simp only [Bool.false_eq_true,if_false];rw [Kw av];simp only [Bool.not_false,if_true];rfl
 by_cases hA:∃ base cap,v1=.slice base xs.length cap∧xs.length+ys.length≤cap
 ·obtain ⟨base,cap,hv,hle⟩:=hA;rw [start base cap hv,if_pos hle];rw [Kw g3];by_cases I:ys=[]
  ·
   subst I;have aw:f=[]:=List.eq_nil_of_length_eq_zero (by simpa using g1);subst aw;refine ⟨v1,w,H,?_,Hp.le_refl H,?_,?_⟩
   · rw [hv];cases base with
     | none=>rfl
     | some a=>simp only [storeCells];rfl
   · rcases R with ⟨rfl,rfl⟩|⟨rfl,rfl⟩
     ·
      have hcl:Kcn (ie.size,v1)=[]:=by
       rw [hv] at hc ⊢;simp only [CapOK] at hc;subst hc;cases base<;>simp [Kcn]
      have ht:TokOK H w (ie.size,v1):=by
       intro a n m ev hlt;rw [hv] at hc ev;simp only [CapOK] at hc;simp only [Value.slice.injEq] at ev;obtain ⟨_,rfl,rfl⟩:=ev;omega
      refine ⟨core.ag,core.le,core.new,core.same,core.size,core.blks,?_,?_,?_,core.env⟩
      ·intro p hp;rcases List.mem_cons.1 hp with rfl|hp
       ·exact ht
       exact core.toks p hp
      ·have:KP h ((ie.size,v1)::k2)=KP h k2:=by simp [KP,K0,hcl]
       rw [this];exact core.nd
      have:KP h ((ie.size,v1)::k2)=KP h k2:=by simp [KP,K0,hcl]
      rw [this];exact core.own
     exact core
   refine Kbi ?_ (by rw [hv];rfl) rfl;simp only [RepC,CapOK,List.append_nil];exact ⟨v1,rfl,rfl,hxr⟩
  ·
   have hpos:0 < ys.length:=List.length_pos_iff.2 I;rcases R with ⟨rfl,rfl⟩|⟨rfl,rfl⟩
   · rw [hv] at hc;simp only [CapOK] at hc;omega
   obtain ⟨b,off,hbase,hE⟩:∃ b off,base=some ⟨b,off,none⟩∧Els H ie.size b off xs:=by
     rcases hxr with ⟨hnil,a,m,hs,ax⟩|⟨b,off,m,hs,hmle,hE⟩
     ·rw [hv] at hs;simp only [Value.slice.injEq] at hs;obtain ⟨rfl,h1,rfl⟩:=hs;cases base with
      | none=>have:=ax rfl;omega
      |
       some a=>
       obtain ⟨cs,TT,_,hspot,_⟩:=core.toks (ie.size,v1) (by simp) a xs.length cap hv (by omega);obtain ⟨ab,ao,as_⟩:=a;simp only at hspot;subst hspot;exact ⟨ab,ao,rfl,by rw [hnil];simp [Els]⟩
     rw [hv] at hs;simp only [Value.slice.injEq] at hs;exact ⟨b,off,hs.1,hE⟩
   subst hbase;obtain ⟨cs,TT,h1,_,h3,B⟩:=core.toks (ie.size,v1) (by simp) ⟨b,off,none⟩ xs.length cap hv (by omega);simp only at h1 h3 B;have hsz:off+xs.length*ie.size+f.length≤cs.toList.length:=by
     rw [g1];have:(xs.length+ys.length)*ie.size≤cap*ie.size:=Nat.mul_le_mul_right _ hle;rw [Nat.add_mul] at this;simp only [Array.length_toList];omega
   have bx:off+xs.length*ie.size+f.length≤cs.size:=by rw [← Array.length_toList];exact hsz
   obtain ⟨w',s1,s2,s3,U,E⟩:=KcL (P:=P) (b:=b) (off:=off+xs.length*ie.size) (T:=TT) f 0 w cs.toList (by simpa using h1) (by omega) g2;simp only [Nat.add_zero] at E;let H':Hp:=fun a=>if a.block=b∧a.spot=none∧off+xs.length*ie.size≤a.off∧a.off < off+xs.length*ie.size+f.length then f[a.off - (off+xs.length*ie.size)]? else H a
   have hle':H.le H':=fun a A ea=>by
     show (if a.block=b∧a.spot=none∧off+xs.length*ie.size≤a.off∧a.off < off+xs.length*ie.size+f.length then f[a.off - (off+xs.length*ie.size)]? else H a)=some A
     rw [if_neg]
     ·exact ea
     rintro ⟨J,K,F,G⟩;obtain ⟨ab,ao,as_⟩:=a;simp only at J K F G;subst J;subst K;rw [B ao F] at ea;cases ea
   have hnew:∀ j u,f[j]? = some u→H' ⟨b,off+xs.length*ie.size+j,none⟩=some u:=fun j u ej=>by
     have hj:=(List.getElem?_eq_some_iff.1 ej).1;show (if b=b∧(none:Option Nat)=none∧off+xs.length*ie.size≤off+xs.length*ie.size+j∧off+xs.length*ie.size+j < off+xs.length*ie.size+f.length then f[off+xs.length*ie.size+j - (off+xs.length*ie.size)]? else H _)=some u
     rw [if_pos ⟨rfl,rfl,by omega,by omega⟩,Nat.add_sub_cancel_left];exact ej
   have hclaim:KP [] [(ie.size,v1)]=[b]:=by
     rw [hv];simp only [KP,Kcn,List.map_nil,List.flatMap_cons,List.flatMap_nil,List.nil_append,List.append_nil];rw [if_pos (by omega)]
   have bc:GG H' w':=by
     refine core.ag.gg.step hle' ?_;by_cases q:tabG=b
     ·obtain ⟨_,⟨v',V⟩,T2,cb,L⟩:=core.ag.gg;rw [q] at V L ⊢;have hlt:19 < off+xs.length*ie.size:=by
       rcases Nat.lt_or_ge 19 (off+xs.length*ie.size) with x|x
       ·exact x
       rw [B 19 x] at V;cases V
      have ec:cs=tabC.toArray:=by
       rw [h1] at L;simp only [Option.some.injEq,Obj.cells.injEq] at L;exact L.1
      have hcl:cs.toList.length=20:=by rw [ec];simp [tabC,Lib.pow10Tab]
      have hu:f=[]:=List.eq_nil_of_length_eq_zero (by omega);have hcs:cs.size=20:=by simpa using hcl
      rw [E,h1,hu,List.take_of_length_le (by omega),List.nil_append,List.length_nil,Nat.add_zero,List.drop_of_length_le (by omega),List.append_nil]
     exact U _ q
   have local1:Core ⟨H,w,KP [] [(ie.size,v1)]⟩ H' [] [(ie.size,.slice (some ⟨b,off,none⟩) (xs.length+ys.length) cap)] w':=by
     rw [hclaim];refine ⟨⟨fun a A ea=>?_,bc⟩,hle',fun a A ea=>?_,fun i _ I=>U i (by simpa using I),by show w.heap.size≤w'.heap.size;omega,by simp,?_,?_,?_,s2⟩
     ·by_cases q:a.block=b∧a.spot=none∧off+xs.length*ie.size≤a.off∧a.off < off+xs.length*ie.size+f.length
      ·have ea':f[a.off - (off+xs.length*ie.size)]? = some A:=by
        have:H' a=f[a.off - (off+xs.length*ie.size)]?:=if_pos q;rw [this] at ea;exact ea
       obtain ⟨J,K,F,G⟩:=q;simp only [World.cell?,J,E,K,Option.isSome_none,Bool.false_eq_true,if_false,List.getElem?_toArray];rw [List.getElem?_append_right (by simp;omega),List.getElem?_append_left (by simp;omega)];rw [show a.off - (cs.toList.take (off+xs.length*ie.size)).length=a.off - (off+xs.length*ie.size) by simp;omega];exact ea'
      have ea':H a=some A:=by
       have:H' a=H a:=if_neg q;rw [this] at ea;exact ea
      have hcell:=core.ag a A ea';by_cases qb:a.block=b
      ·obtain ⟨ab,ao,as_⟩:=a;simp only at qb;subst qb;cases as_ with
       | some sp=>simp [World.cell?,h1] at hcell
       |
        none=>
        have hlt:ao < off+xs.length*ie.size:=by
         rcases Nat.lt_or_ge ao (off+xs.length*ie.size) with x|x
         ·exact x
         rw [B ao x] at ea';cases ea'
        simp only [World.cell?,h1,E,Option.isSome_none,Bool.false_eq_true,if_false,List.getElem?_toArray] at hcell ⊢;rw [List.getElem?_append_left (by simp;omega),List.getElem?_take,if_pos hlt];simpa using hcell
      simp only [World.cell?] at hcell ⊢;rw [U _ qb];exact hcell
     ·by_cases q:a.block=b∧a.spot=none∧off+xs.length*ie.size≤a.off∧a.off < off+xs.length*ie.size+f.length
      ·exact .inr (.inr (by simp [q.1]))
      have:H' a=H a:=if_neg q;rw [this] at ea;exact .inl ea
     ·intro p hp;simp only [List.mem_singleton] at hp;subst hp;intro a n m ev hlt;simp only [Value.slice.injEq,Option.some.injEq] at ev;obtain ⟨rfl,rfl,rfl⟩:=ev;refine ⟨_,TT,E,rfl,?_,fun o ho=>?_⟩
      ·simp only [List.size_toArray,List.length_append,List.length_take,List.length_drop,Array.length_toList] at hsz ⊢;omega
      simp only at ho ⊢;have:H' ⟨b,o,none⟩=H ⟨b,o,none⟩:=if_neg (by rintro ⟨_,_,F,G⟩;simp only at F G;rw [g1] at G;rw [Nat.add_mul] at ho;omega);rw [this];exact B o (by rw [Nat.add_mul] at ho;omega)
     ·simp only [KP,Kcn,List.map_nil,List.flatMap_cons,List.flatMap_nil,List.nil_append,List.append_nil];split<;>simp
     intro x hx';simp only [KP,Kcn,List.map_nil,List.flatMap_cons,List.flatMap_nil,List.nil_append,List.append_nil] at hx';split at hx'
     ·exact .inl (by simpa using hx')
     cases hx'
   have:=Core.call (h1:=[]) (k1:=[(ie.size,v1)]) (h2:=h) (k2:=k2) (by simpa using core) local1;refine ⟨.slice (some ⟨b,off,none⟩) (xs.length+ys.length) cap,w',H',?_,hle',by simpa using this,?_⟩
   · simp only [KcT];rw [Kw s1];rfl
   refine Kbi ?_ rfl rfl;simp only [RepC,CapOK];refine ⟨_,rfl,rfl,.inr ⟨b,off,cap,by simp,by simpa using hle,?_⟩⟩;exact Ki3 (Els.mono hle' _ _ _ _ hE) (g4 H' b _ hle' hnew)
 ·
  have hv:∃ base cap,v1=.slice base xs.length cap:=KdK hx;obtain ⟨base,cap,hv⟩:=hv;have hgt:¬ xs.length+ys.length≤cap:=fun x=>hA ⟨base,cap,hv,x⟩
  rw [start base cap hv,if_neg hgt];have hti:(Go.typeInfo e).run P w=.ok tif w:=t1;have hbytes:tif.bytes=ie.bytes:=t3;have bd:¬ (((xs.length+ys.length:Nat):Int) > IntKind.i64.max∧((false=true)∨tif.bytes=0)):=by
   rintro ⟨_,q|q⟩
   · cases q
   omega
  have be:¬ (Builtin.nextslicecap (xs.length+ys.length) cap*tif.bytes > 2 ^ 48):=by
   have h5:=next_le (Nat.lt_of_not_le hgt);have h6:Builtin.nextslicecap (xs.length+ys.length) cap*ie.bytes≤2*(xs.length+ys.length)*ie.bytes:=Nat.mul_le_mul_right _ h5;rw [Nat.mul_assoc] at h6;rw [hbytes];omega
  have hforced:∀ need,(Question.appendCap need cap e).forced=false:=fun _=>rfl
  obtain ⟨newCap,hcap,hchoose⟩:∃ newCap,xs.length+ys.length≤newCap∧(choose (.appendCap (xs.length+ys.length) cap e)).run P w=.ok newCap (wDrew w):=by
   refine ⟨_,?_,by simp only [choose,Sem.run,hforced];rfl⟩;simp only [Question.cut];omega
  have hzv:∃ z,(Go.zeroValue e).run P (wDrew w)=.ok z (wDrew w)∧z.cells.toList=ie.zero:=Kcr hTe;obtain ⟨zz,bh,bi⟩:=hzv;have W:∃ M,(Go.typeInfo e).run P (wDrew w)=.ok M (wDrew w):=by
   obtain ⟨M,_,q,_⟩:=Kd0 (w:=wDrew w) hTe;exact ⟨M,q⟩
  obtain ⟨M,W⟩:=W;have O:=core.drew;obtain ⟨g,bj,cc,bk,bl⟩:=KgN (P:=P) O.ag hx;obtain ⟨r,bm,cd,bn,bo⟩:=KgN (P:=P) O.ag hy;let restA:=Builtin.zeroCells zz.cells (newCap - (xs.length+ys.length));have hrest:restA.size=(newCap - (xs.length+ys.length))*ie.size:=by
   show (Builtin.zeroCells zz.cells _).size=_
   unfold Builtin.zeroCells;simp only [Array.size_map,Array.size_range];have:zz.cells.size=ie.size:=by rw [← Array.length_toList,bi,hz]
   rw [this]
  have hrun:((do
      if ((xs.length + ys.length : Nat) : Int) > IntKind.i64.max ∧ ((false = true) ∨ (← Go.typeInfo e).bytes = 0) then runtimePanic (.error "growslice: len out of range")
      if Builtin.nextslicecap (xs.length + ys.length) cap * (← Go.typeInfo e).bytes > 2 ^ 48 then (if false then runtimePanic (.error "growslice: len out of range") else do
       if !(← Builtin.mayShare ie.size xs.length ys.length base v2) then mark .noRoom
       unsupported (.resourceLimit "append: a slice or a string whose bytes no memory bears"))
      let newCap ← choose (.appendCap (xs.length+ys.length) cap e)
      askRoom (newCap*(← Go.typeInfo e).bytes)
      let old ← Builtin.firstCells ie.size xs.length v1
      let new ← Builtin.firstCells ie.size ys.length v2
      let rest:=Builtin.zeroCells (← Go.zeroValue e).cells (newCap - (xs.length+ys.length));pure (.slice (some (← newRow e (old++new++rest))) (xs.length+ys.length) newCap):Sem Value)).run P w =
     .ok (.slice (some ⟨w.heap.size,0,none⟩) (xs.length+ys.length) newCap) ((wDrew w).alloc (.cells (g.toArray++r.toArray++restA) e)):=by
   rw [Kw hti];rw [if_neg bd];rw [Kw hti];rw [if_neg be];rw [Kw hchoose,Kw W,Kw Kh8,Kw bk,Kw bn,Kw bh];rfl
  rw [hrun];have aa:g.length=xs.length*ie.size:=bj;have ac:r.length=ys.length*ie.size:=bm;have earr:g.toArray++r.toArray++restA=((g++r)++restA.toList).toArray:=by simp
  rw [earr];have hsizew:(wDrew w).heap.size=w.heap.size:=rfl;obtain ⟨hle',s,told⟩:=Core.allocTold (Core.here O.ag) (us:=g++r) (vs:=(g++r)++restA.toList) e (fun j u ej=>by rw [List.getElem?_append_left (List.getElem?_eq_some_iff.1 ej).1];exact ej);rw [hsizew] at hle' s told;have hcells:((wDrew w).alloc (.cells ((g++r)++restA.toList).toArray e)).heap[w.heap.size]? = some (.cells ((g++r)++restA.toList).toArray e (0,0)):=by
   rw [Kbz,hsizew,if_pos rfl]
  have local1:Core ⟨H,wDrew w,[]⟩ (tell H w.heap.size (g++r)) [] [(ie.size,.slice (some ⟨w.heap.size,0,none⟩) (xs.length+ys.length) newCap)] ((wDrew w).alloc (.cells ((g++r)++restA.toList).toArray e)):=by
   refine ⟨s.ag,s.le,s.new,s.same,s.size,by simp,?_,?_,?_,s.env⟩
   · intro p hp;simp only [List.mem_singleton] at hp;subst hp;intro a n m ev hlt;simp only [Value.slice.injEq,Option.some.injEq] at ev;obtain ⟨rfl,rfl,rfl⟩:=ev;refine ⟨_,e,hcells,rfl,?_,fun o ho=>?_⟩
     ·simp only [List.size_toArray,List.length_append,Array.length_toList,hrest,aa,ac,Nat.zero_add];rw [← Nat.add_mul,← Nat.add_mul];exact Nat.mul_le_mul_right _ (by omega)
     simp only [Nat.zero_add] at ho;show tell H w.heap.size (g++r) ⟨w.heap.size,o,none⟩=none
     unfold tell;rw [if_pos ⟨rfl,rfl⟩];rw [List.getElem?_eq_none];simp only [List.length_append,aa,ac,← Nat.add_mul];exact ho
   · simp only [KP,Kcn,List.map_nil,List.flatMap_cons,List.flatMap_nil,List.nil_append,List.append_nil];split<;>simp
   intro x hx';simp only [KP,Kcn,List.map_nil,List.flatMap_cons,List.flatMap_nil,List.nil_append,List.append_nil] at hx';split at hx'
   ·simp at hx';subst hx';exact .inr (Nat.le_refl _)
   cases hx'
  have coreD:=O.drop (h':=h) (k':=k2) (List.Sublist.refl _) (by
   rcases R with ⟨rfl,_⟩|⟨rfl,_⟩
   · exact List.Sublist.refl _
   exact List.sublist_append_right _ _)
  have:=Core.call (h1:=[]) (k1:=[]) (h2:=h) (k2:=k2) (by simpa using coreD) local1;refine ⟨_,_,_,rfl,hle',by simpa using this,?_⟩;refine Kbi ?_ rfl rfl;simp only [RepC,CapOK];refine ⟨_,rfl,rfl,.inr ⟨w.heap.size,0,newCap,by simp,by simpa using hcap,?_⟩⟩;refine Ki3 (bl _ _ _ hle' fun j u ej=>?_) (bo _ _ _ hle' fun j u ej=>?_)
  ·exact told j u (by rw [List.getElem?_append_left (List.getElem?_eq_some_iff.1 ej).1];exact ej)
  have:=told (g.length+j) u (by rw [List.getElem?_append_right (by omega)];simpa using ej);rw [show 0+xs.length*ie.size+j=0+(g.length+j) by omega];exact this
end
section
open Go
section
variable {P : Program} {C : Ctx} {N : Nat} {ops rest : List Oper} {o : Oper} {t : List (Nat × D)} {h : List (Nat × Blk)} {k : List (Nat × Value)} {Q : Exit → S → Prop} {tab : List (Option TI)}
theorem app_step {i kk bb:Nat}{T T' e e':TypeId}{x y:Operand}{xs ys:List D}{c c':Cap}{b f ie:TI}{k1 k2:List (Nat×Value)}(hT:TabOK P tab)(ho:o.op=.call ⟨.builtin .append,[x,y].toArray,#[T,T']⟩)(hw:wantD ops t o=some true)(hd:o.dst=some i)(hi:Nat.blt i N=true)
  (hx:∀ H a,TOK H t a→Rep H (.lst kk xs c) (a.eval x)) (hy:opD t y=some (.lst kk ys c')) (j:∀ H a,TOK H t a→(k1=[]∧c=.full)∨(k1=[(kk,a.eval x)]∧c=.cur (a.eval x))) (hkk:k.Perm (k1++k2))
  (n:ti tab T=some b) (p:b.d=.slice e) (q:ti tab T'=some f) (r:f.d=.slice e') (hie:ti tab e=some ie) (hks:ie.size=kk) (hbb:ie.bytes=bb) (hz:ie.zero.length=kk) (u:1≤bb) (hbound:(xs.length+ys.length)*bb≤140737488355328)
  (g:∀ v,opsD P C N ops rest ⟨(i,.lst kk (xs++ys) (.cur v))::t,h,(kk,v)::k2⟩ Q):opsD P C N ops (o::rest) ⟨t,h,k⟩ Q:=
 Kb4 (s:=⟨t,h,k⟩) hw hd hi fun H a w core kt=>by
  obtain ⟨v,w',H',h1,h2,z,A⟩:=app_run (P:=P) (ty:=o.type) hT (core.perm (List.Perm.refl _) hkk) (j H a kt) (hx H a kt) (Kae kt hy) n p q r hie hks hbb hz u hbound;exact ⟨v,w',H',_,h,(kk,v)::k2,Kb9 (s:=Builtin.append_) ho (fun _ _=>rfl) (by simpa using h1),h2,z,A,g v⟩
theorem p_appF {i kk bb:Nat}{T T' e e':TypeId}{x y:Operand}{xs ys:List D}{c':Cap}{a b ie:TI}(hT:TabOK P tab)(ho:o.op=.call ⟨.builtin .append,[x,y].toArray,#[T,T']⟩)(hw:wantD ops t o=some true)(hd:o.dst=some i)(hi:Nat.blt i N=true)
  (hx:opD t x=some (.lst kk xs .full)) (hy:opD t y=some (.lst kk ys c'))
  (c:ti tab T=some a) (f:a.d=.slice e) (j:ti tab T'=some b) (n:b.d=.slice e') (hie:ti tab e=some ie) (hks:ie.size=kk) (hbb:ie.bytes=bb) (hz:ie.zero.length=kk) (p:Nat.ble 1 bb=true) (hbound:(xs.length+ys.length)*bb≤140737488355328)
  (g:∀ v,opsD P C N ops rest ⟨(i,.lst kk (xs++ys) (.cur v))::t,h,(kk,v)::k⟩ Q):opsD P C N ops (o::rest) ⟨t,h,k⟩ Q:=
 app_step (k1:=[]) hT ho hw hd hi (fun _ _ kt=>Kae kt hx) hy (fun _ _ _=>.inl ⟨rfl,rfl⟩) (List.Perm.refl _) c f j n hie hks hbb hz (Nat.le_of_ble_eq_true p) hbound g
theorem Kge {i kk bb:Nat}{T T' e e':TypeId}{x y:Operand}{xs ys:List D}{c':Cap}{b:Value}{c f ie:TI}{k2:List (Nat×Value)}(j:Nat)(hT:TabOK P tab)(ho:o.op=.call ⟨.builtin .append,[x,y].toArray,#[T,T']⟩)(hw:wantD ops t o=some true)(hd:o.dst=some i)(hi:Nat.blt i N=true)
  (hx:opD t x=some (.lst kk xs (.cur b))) (hy:opD t y=some (.lst kk ys c')) (hj:k[j]? = some (kk,b)) (he:k.eraseIdx j=k2)
  (n:ti tab T=some c) (p:c.d=.slice e) (q:ti tab T'=some f) (r:f.d=.slice e') (hie:ti tab e=some ie) (hks:ie.size=kk) (hbb:ie.bytes=bb) (hz:ie.zero.length=kk) (s:Nat.ble 1 bb=true) (hbound:(xs.length+ys.length)*bb≤140737488355328)
  (g:∀ v,opsD P C N ops rest ⟨(i,.lst kk (xs++ys) (.cur v))::t,h,(kk,v)::k2⟩ Q):opsD P C N ops (o::rest) ⟨t,h,k⟩ Q:=
 app_step (k1:=[(kk,b)]) hT ho hw hd hi (fun _ _ kt=>Kae kt hx) hy (fun H a kt=>by
  have:=(KbK (Kae kt hx)).1;simp only [CapOK] at this;rw [this];exact .inr ⟨rfl,rfl⟩) (he ▸ KZ hj) n p q r hie hks hbb hz (Nat.le_of_ble_eq_true s) hbound g
end
def Keh (agg:Bool)(k:Nat):Nat→List D→List D
 | 0,_=>[]
 | n+1,r=>(bif agg then .agg (r.take k) else r.headD .any)::Keh agg k n (r.drop k)
theorem Kln {H:Hp}{k b:Nat}{agg:Bool}(hk:agg=false→k=1):∀ (n:Nat) {r:List D} {us:List Value} {off:Nat},Reps H r us→r.length=n*k→Told H b off us→Els H k b off (Keh agg k n r)
 | 0,r,us,off,_,_,_=>by simp [Keh,Els]
 |
  n+1,r,us,off,hr,hl,ht=>by
  have hul:=Kcu hr;have hkl:k≤r.length:=by rw [hl,Nat.add_mul];omega
  simp only [Keh,Els];refine ⟨⟨us.take k,by simp;omega,?_,Klj ht k,fun u hu=>KeZ hr u (List.mem_of_mem_take hu)⟩,?_⟩
  ·cases agg with
   | true=>simp only [cond_true,RepC];exact KfM k hr
   |
    false=>
    have:=hk rfl;subst this;simp only [cond_false];cases r with
    | nil=>simp at hkl
    |
     cons d r=>
     simp only [Reps] at hr;obtain ⟨u,us',rfl,h1,_⟩:=hr;simpa using h1.1
  exact Kln hk n (KfL k hr) (by simp [hl,Nat.add_mul]) (Kli ht k)
theorem Kho {agg:Bool}{k:Nat}:∀ (n:Nat) (r:List D),(Keh agg k n r).length=n
 | 0,_=>rfl
 | n+1,r=>by simp [Keh,Kho n]
theorem Kjq {tab:List (Option TI)}{fs:List (Nat×Nat)}{t:List (Nat×D)}:∀ {ps:List (Nat×Operand)} {cs r:List D},Kdx tab fs t ps cs=some r→r.length=cs.length
 | [],cs,r,e=>by simp [Kdx] at e;rw [e]
 |
  (f,x)::ps,cs,r,e=>by
  simp only [Kdx] at e;split at e
  ·split at e
   ·rename_i fl _ _ _ j d _ _;cases hb:(stor d && Nat.beq (Kah d).length j.size && Nat.ble (fl.2+j.size) cs.length) with
    | false=>rw [hb] at e;cases e
    |
     true=>
     rw [hb] at e;simp only [cond_true] at e;simp only [Bool.and_eq_true] at hb;have h2:=Nat.eq_of_beq_eq_true hb.1.2;have a:=Nat.le_of_ble_eq_true hb.2;rw [Kjq e,lay_length (by omega)]
   cases e
  cases e
section
variable {P : Program} {C : Ctx} {N : Nat} {ops rest : List Oper} {o : Oper} {t : List (Nat × D)} {h : List (Nat × Blk)} {k : List (Nat × Value)} {Q : Exit → S → Prop} {tab : List (Option TI)}
abbrev ExE (P:Program)(o:Oper)(t:List (Nat×D))(d:D):Prop:=∀ H a w,Ag H w→TOK H t a→∃ v w' H',(execOp a.eval o).run P w=.ok (.value v) w'∧Core ⟨H,w,[]⟩ H' [] [] w'∧Rep H' d v
theorem p_e {i:Nat}{d:D}(hx:ExE P o t d)(hw:wantD ops t o=some true)(hd:o.dst=some i)(hi:Nat.blt i N=true)(g:opsD P C N ops rest ⟨(i,d)::t,h,k⟩ Q):opsD P C N ops (o::rest) ⟨t,h,k⟩ Q:=
 Kb4 (s:=⟨t,h,k⟩) hw hd hi fun H a w core kt=>by
  obtain ⟨v,w',H',h1,h2,b⟩:=hx H a w core.ag kt;exact ⟨v,w',H',_,h,k,h1,h2.le,by simpa using Core.call (h1:=[]) (k1:=[]) (h2:=h) (k2:=k) core h2,b,g⟩
theorem x_litS {n kk:Nat}{T e:TypeId}{ps:Array (Nat×Operand)}{b ie:TI}{r:List D}(hT:TabOK P tab)(ho:o.op=.buildSlice T n ps)
 (q:ti tab T=some b) (s:b.d=.slice e) (hie:ti tab e=some ie) (hks:ie.size=kk) (hz:ie.zero.all one=true) (hzl:Nat.beq ie.zero.length kk=true) (hpos:Nat.ble 1 (n*kk)=true) (hmax:Nat.ble (n*kk) 16777216=true) (hag:(ie.agg || Nat.beq kk 1)=true)
 (er:Kdx tab ((List.range n).map fun j=>(e,j*kk)) t ps.toList (List.replicate (n*kk) .any)=some r):∀ H a w,Ag H w→TOK H t a→∃ w' H',(execOp a.eval o).run P w=.ok (.value (.slice (some ⟨w.heap.size,0,none⟩) n n)) w'∧Core ⟨H,w,[]⟩ H' [] [] w'∧Rep H' (.lst kk (Keh ie.agg kk n r) .full) (.slice (some ⟨w.heap.size,0,none⟩) n n):=fun H a w hA kt=>by
 have core:Core ⟨H,w,[]⟩ H [] [] w:=Core.here hA;subst hks;obtain ⟨d0,A,B⟩:=Kak (w:=w) (ti_ok hT q);obtain rfl:=KbY (B.trans s);obtain ⟨z,E,c⟩:=Kcr (w:=w) (ti_ok hT hie);have hpos:=Nat.le_of_ble_eq_true hpos;have hmax:=Nat.le_of_ble_eq_true hmax;have hzl:=Nat.eq_of_beq_eq_true hzl;have hzs:z.cells.size=ie.size:=by rw [← Array.length_toList,c,hzl]
 have hkp:0 < ie.size:=by
  rcases Nat.eq_zero_or_pos ie.size with x|x
  ·rw [x] at hpos;omega
  exact x
 let init:List Value:=((Array.range (n*ie.size)).map fun j=>z.cells[j % z.cells.size]!).toList;have hil:init.length=n*ie.size:=by simp [init]
 have F:∀ u∈init,one u=true:=by
  intro u hu;simp only [init,Array.toList_map,List.mem_map] at hu;obtain ⟨j,_,rfl⟩:=hu;rw [List.all_eq_true] at hz;have hlt:j % z.cells.size < z.cells.size:=Nat.mod_lt _ (by omega);rw [getElem!_pos z.cells _ hlt];apply hz;rw [← c];exact Array.getElem_mem_toList hlt
 have hany:∀ (us:List Value),(∀ u∈us,one u=true)→Reps H (List.replicate us.length .any) us:=by
  intro us;induction us with
  | nil=>intro _;simp [Reps]
  |
   cons u us ih=>
   intro hu;simp only [List.length_cons,List.replicate_succ,Reps];exact ⟨u,us,rfl,⟨by simp [RepC],hu u (by simp),rfl⟩,ih fun x hx=>hu x (by simp [hx])⟩
 have g:=hany init F;rw [hil] at g;obtain ⟨vs,f1,G⟩:=Kj0 (P:=P) (place:=fun j=>some (j*ie.size,ie.size)) hT kt (fs:=(List.range n).map fun j=>(e,j*ie.size)) (by
  intro f fl j hf hj;rw [List.getElem?_map,Option.map_eq_some_iff] at hf;obtain ⟨x,I,J⟩:=hf;have hx:=(List.getElem?_eq_some_iff.1 I).2;simp at hx;subst hx;subst J;simp only at hj;rw [hie] at hj;cases hj;rfl) ps.toList _ _ r g er
 have hrl:=Kjq er;simp only [List.length_replicate] at hrl;obtain ⟨hle,core',told⟩:=core.allocTold (us:=vs) (vs:=vs) e (fun _ _ x=>x);refine ⟨_,_,?_,core',?_⟩
 ·unfold execOp;rw [ho];refine Kbb ?_;unfold Instr.buildSlice;rw [Kw A];simp only [];rw [Kw (Kby (ti_ok hT hie))];rw [if_neg (by omega)];rw [if_neg (show ¬ n*ie.size=0 by omega),Kw E];rw [Kw (a:=z.cells) (w':=w) rfl];have K:(ps.map fun x=>(x.1,a.eval x.2)).toList=ps.toList.map fun p=>(p.1,a.eval p.2):=by simp
  have L:(Array.range (n*ie.size)).map (fun j=>z.cells[j % z.cells.size]!)=init.toArray:=(Array.toArray_toList).symm;rw [K,L];simp only [f1];rfl
 refine Kbi ?_ rfl rfl;simp only [RepC,CapOK];refine ⟨_,rfl,rfl,.inr ⟨w.heap.size,0,n,by rw [Kho],by rw [Kho];exact Nat.le_refl _,?_⟩⟩;refine Kln ?_ n (Reps.mono hle _ _ G) hrl told;intro hf;rw [hf] at hag;simpa using hag
theorem x_lit {n kk:Nat}{T e:TypeId}{ps:Array (Nat×Operand)}{b ie:TI}{r:List D}(hT:TabOK P tab)(ho:o.op=.buildSlice T n ps)
 (c:ti tab T=some b) (f:b.d=.slice e) (hie:ti tab e=some ie) (hks:ie.size=kk) (hz:ie.zero.all one=true) (hzl:Nat.beq ie.zero.length kk=true) (hpos:Nat.ble 1 (n*kk)=true) (hmax:Nat.ble (n*kk) 16777216=true) (hag:(ie.agg || Nat.beq kk 1)=true)
 (er:Kdx tab ((List.range n).map fun j=>(e,j*kk)) t ps.toList (List.replicate (n*kk) .any)=some r):ExE P o t (.lst kk (Keh ie.agg kk n r) .full):=fun H a w hA kt=>let ⟨w',H',h1,h2,g⟩:=x_litS hT ho c f hie hks hz hzl hpos hmax hag er H a w hA kt;⟨_,w',H',h1,h2,g⟩
theorem p_lit {i n kk:Nat}{T e:TypeId}{ps:Array (Nat×Operand)}{a ie:TI}{r:List D}(hT:TabOK P tab)(ho:o.op=.buildSlice T n ps)(hw:wantD ops t o=some true)(hd:o.dst=some i)(hi:Nat.blt i N=true)
  (b:ti tab T=some a) (c:a.d=.slice e) (hie:ti tab e=some ie) (hks:ie.size=kk) (hz:ie.zero.all one=true) (hzl:Nat.beq ie.zero.length kk=true) (hpos:Nat.ble 1 (n*kk)=true) (hmax:Nat.ble (n*kk) 16777216=true) (hag:(ie.agg || Nat.beq kk 1)=true)
  (er:Kdx tab ((List.range n).map fun j=>(e,j*kk)) t ps.toList (List.replicate (n*kk) .any)=some r) (g:opsD P C N ops rest ⟨(i,.lst kk (Keh ie.agg kk n r) .full)::t,h,k⟩ Q):opsD P C N ops (o::rest) ⟨t,h,k⟩ Q:=
 p_e (x_lit hT ho b c hie hks hz hzl hpos hmax hag er) hw hd hi g
theorem p_lit0 {i kk:Nat}{T e:TypeId}{b ie:TI}(hT:TabOK P tab)(ho:o.op=.buildSlice T 0 #[])(hw:wantD ops t o=some true)(hd:o.dst=some i)(hi:Nat.blt i N=true)
  (c:ti tab T=some b) (f:b.d=.slice e) (hie:ti tab e=some ie) (_hks:ie.size=kk) (g:opsD P C N ops rest ⟨(i,.lst kk [] .full)::t,h,k⟩ Q):opsD P C N ops (o::rest) ⟨t,h,k⟩ Q:=
 Kb4 (s:=⟨t,h,k⟩) hw hd hi fun H a w core kt=>by
  obtain ⟨d0,j,n⟩:=Kak (w:=w) (ti_ok hT c);obtain rfl:=KbY (n.trans f);obtain ⟨hle,core',told⟩:=core.allocTold (us:=[]) (vs:=[]) e (fun _ _ x=>x);refine ⟨.slice (some ⟨w.heap.size,0,none⟩) 0 0,_,_,_,h,k,?_,hle,core',?_,g⟩
  ·unfold execOp;rw [ho];refine Kbb ?_;unfold Instr.buildSlice;rw [Kw j];simp only [];rw [Kw (Kby (ti_ok hT hie))];simp only [Nat.zero_mul];rw [if_neg (by decide),if_pos trivial,Kw (a:=#[]) (w':=w) rfl];have p:Array.map (fun x=>(#[]:Array Value)[x % (#[]:Array Value).size]!) (Array.range 0)=#[]:=by simp
   have r:(Array.map (fun x:Nat×Operand=>(x.1,a.eval x.2)) #[]).toList=[]:=by simp
   rw [p,r];rfl
  refine Kbi ?_ rfl rfl;simp only [RepC,CapOK];exact ⟨_,rfl,by trivial,.inl ⟨by trivial,_,_,rfl,fun q=>by cases q⟩⟩
def byteD (b:UInt8):D:=.v (.int .u8 b.toNat)
theorem Klo {H:Hp}{w:World}(hA:Ag H w){b:Nat}:∀ (bs:List UInt8) (off:Nat),Els H 1 b off (bs.map byteD)→RowAt w b off (bs.map fun c=>.int .u8 c.toNat)
 | [],off,_=>fun j u e=>by simp at e
 |
  c::bs,off,h=>by
  simp only [List.map_cons,Els,byteD] at h;obtain ⟨⟨us,h1,h2,a,_⟩,d⟩:=h;simp only [RepC] at h2;subst h2;have ih:=Klo hA bs (off+1) d;intro j u e;cases j with
  | zero=>simp at e;subst e;exact hA _ _ (a 0 _ (by simp))
  |
   succ j=>
   have:=ih j u (by simpa using e);rwa [show off+1+j=off+(j+1) by omega] at this
theorem x_toStr {T T' e:TypeId}{x:Operand}{bs:List UInt8}{c:Cap}{g j ie:TI}(hT:TabOK P tab)(ho:o.op=.convert T T' x)
 (hx:opD t x=some (.lst 1 (bs.map byteD) c)) (p:ti tab T=some g) (q:g.d=.slice e) (r:ti tab T'=some j) (u:j.d=.str) (hie:ti tab e=some ie) (hde:ie.d=.int .u8):ExE P o t (.v (.string ⟨bs.toArray⟩)):=fun H a w hA kt=>by
 have core:Core ⟨H,w,[]⟩ H [] [] w:=Core.here hA;obtain ⟨d0,z,A⟩:=Kak (w:=w) (ti_ok hT p);obtain rfl:=KbY (A.trans q);obtain ⟨d1,B,E⟩:=Kak (w:=w) (ti_ok hT r);obtain rfl:=Kf8 (E.trans u);obtain ⟨d2,n,F⟩:=Kak (w:=w) (ti_ok hT hie);obtain rfl:=KgR (F.trans hde);refine ⟨.string ⟨bs.toArray⟩,w,H,?_,core,rep_v rfl⟩;unfold execOp;rw [ho];refine Kbb ?_;obtain ⟨_,hr⟩:=KbK (Kae kt hx);unfold convert;rw [Kw z,Kw B];rcases hr with ⟨hn,a0,G,hy,_⟩|⟨b,off,m,hy,I,hE⟩
 ·have:bs=[]:=by simpa using hn
  subst this;rw [hy];simp only [];rw [Kw n];cases a0<;>rfl
 rw [hy];simp only [];rw [Kw n];have hrow:=Klo core.ag bs off hE;have hload:=KeK (P:=P) bs.length hrow (by simp);simp only [List.length_map];unfold Conv.bytesToString;simp only [];rw [Kw hload];have:((bs.map fun c=>Value.int .u8 c.toNat).take bs.length)=bs.map fun c=>Value.int .u8 c.toNat:=by rw [List.take_of_length_le (by simp)]
 rw [this];have key:∀ (f:Value→ByteArray→Sem (ForInStep ByteArray)),(∀ (c:UInt8) (s:ByteArray),f (.int .u8 c.toNat) s=pure (ForInStep.yield (s.push (UInt8.ofNat (Int.toNat (c.toNat:Int)))))) →
   ∀ (l:List UInt8) (s:ByteArray),(forIn (l.map fun c=>Value.int .u8 c.toNat) s f:Sem ByteArray).run P w=.ok ⟨s.data++l.toArray⟩ w:=by
  intro f hf l;induction l with
  | nil=>intro s;simp
  |
   cons c l ih=>
   intro s;rw [List.map_cons,List.forIn_cons,hf];rw [Kw (a:=ForInStep.yield (s.push (UInt8.ofNat (Int.toNat (c.toNat:Int))))) rfl];simp only [];rw [ih];congr 2;simp
 rw [← Array.forIn_toList];simp only [];rw [Kw (key _ (fun _ _=>rfl) bs ByteArray.empty)];simp
theorem p_toStr {i:Nat}{T T' e:TypeId}{x:Operand}{bs:List UInt8}{c:Cap}{a b ie:TI}(hT:TabOK P tab)(ho:o.op=.convert T T' x)(hw:wantD ops t o=some true)(hd:o.dst=some i)(hi:Nat.blt i N=true)
  (hx:opD t x=some (.lst 1 (bs.map byteD) c)) (f:ti tab T=some a) (j:a.d=.slice e) (n:ti tab T'=some b) (p:b.d=.str) (hie:ti tab e=some ie) (hde:ie.d=.int .u8)
  (g:opsD P C N ops rest ⟨(i,.v (.string ⟨bs.toArray⟩))::t,h,k⟩ Q):opsD P C N ops (o::rest) ⟨t,h,k⟩ Q:=
 p_e (x_toStr hT ho hx f j n p hie hde) hw hd hi g
end
end
section
open Go
def blk:Value→Nat
 | .pointer (some a)=>a.block
 | _=>0
abbrev AL:=List (Nat×List D×TypeId)
abbrev TE:=List (Nat×D×Option Nat)
def isAl (al:AL)(e:Nat):Bool:=al.any fun x=>x.1==e
def Kap (al:AL)(S:Nat→Bool)(vals:Nat→Value):List (Nat×Blk):=
 match al with
 | []=>[]
 | (e,ds,T)::al=>bif S e then (blk (vals e),.cells ds T)::Kap al S vals else Kap al S vals
theorem KaV {S S':Nat→Bool}{vals vals':Nat→Value}:∀ {al:AL},(∀ e,isAl al e=true→S e=S' e∧(S e=true→vals e=vals' e))→Kap al S vals=Kap al S' vals'
 | [],_=>rfl
 |
  (e,ds,T)::al,h=>by
  have h1:=h e (by simp [isAl]);have h2:=KaV (al:=al) (S:=S) (S':=S') (vals:=vals) (vals':=vals') fun x hx=>h x (by simp only [isAl,List.any_cons,Bool.or_eq_true] at hx ⊢;exact .inr hx)
  simp only [Kap,h1.1,h2];cases hs:S' e with
  | true=>rw [h1.2 (h1.1.trans hs)]
  | false=>rfl
theorem KdT {vals:Nat→Value}:∀ {al:AL},Kap al (fun _=>false) vals=[]
 | []=>rfl
 | (e,ds,T)::al=>by simp only [Kap,cond_false];exact KdT
theorem Kei {S:Nat→Bool}{vals:Nat→Value}:∀ {al:AL},(∀ e,isAl al e=true→S e=true)→Kap al S vals=al.map fun x=>(blk (vals x.1),.cells x.2.1 x.2.2)
 | [],_=>rfl
 |
  (e,ds,T)::al,h=>by
  have h2:=Kei (al:=al) (S:=S) (vals:=vals) fun x hx=>h x (by simp only [isAl,List.any_cons,Bool.or_eq_true] at hx ⊢;exact .inr hx)
  simp only [Kap,h e (by simp [isAl]),cond_true,h2,List.map_cons]
theorem Ki5 {S:Nat→Bool}{vals:Nat→Value}{i:Nat}{v:Value}{ds:List D}{T:TypeId}(hS:S i=false):∀ {al:AL},(i,ds,T)∈al→(al.map (·.1)).Nodup →
  (Kap al (Jx.upd S i true) (Jx.upd vals i v)).Perm (Kap al S vals++[(blk v,.cells ds T)])
 | [],h,_=>by cases h
 |
  (e,ds',T')::al,h,hn=>by
  simp only [List.map_cons,List.nodup_cons] at hn;by_cases he:e=i
  ·subst he;have hin:(ds',T')=(ds,T):=by
    rcases List.mem_cons.1 h with h1|h1
    ·simp only [Prod.mk.injEq,true_and] at h1 ⊢;exact ⟨h1.1.symm,h1.2.symm⟩
    exact absurd (List.mem_map.2 ⟨_,h1,rfl⟩) hn.1
   simp only [Prod.mk.injEq] at hin;obtain ⟨rfl,rfl⟩:=hin;have hrest:Kap al (Jx.upd S e true) (Jx.upd vals e v)=Kap al S vals:=KaV fun x hx=>by
    have:x ≠ e:=fun q=>by
     subst q;obtain ⟨y,hy,hq⟩:=List.any_eq_true.1 hx;exact hn.1 (List.mem_map.2 ⟨y,hy,by simpa using hq⟩)
    exact ⟨Jx.upd_ne _ _ this,fun _=>Jx.upd_ne _ _ this⟩
   simp only [Kap,Jx.upd_same,cond_true,hS,cond_false,hrest];exact (List.perm_append_singleton _ _).symm
  have ih:=Ki5 (v:=v) (vals:=vals) hS (al:=al) (by
   rcases List.mem_cons.1 h with h1|h1
   ·simp only [Prod.mk.injEq] at h1;exact absurd h1.1.symm he
   exact h1) hn.2
  simp only [Kap,Jx.upd_ne _ _ he];cases S e with
  | true=>simp only [cond_true,List.cons_append];exact ih.cons _
  | false=>simpa using ih
section
variable (P : Program) (C : Ctx) (N : Nat) (l : List Oper) (m : Nat) (De : Nat → D) (al : AL) (pre : List (List Nat)) (ev : List Nat) (h : List (Nat × Blk)) (k : List (Nat × Value)) (Q : Exit → S → Prop)
def Cz (H0:Hp)(S:Nat→Bool)(vals:Nat→Value)(w:World):Prop:=
 ∃ H,H0.le H∧Core C H (h++Kap al S vals) k w∧∀ e,S e=true→ev.contains e=true→(isAl al e=true→vals e=.pointer (some ⟨blk (vals e),0,none⟩))∧(isAl al e=false→Rep H (De e) (vals e))
def dE (bs:Nat→Nat)(e:Nat):D:=bif isAl al e then .ptr (bs e) 0 else De e
def look3:TE→Nat→Option (D×Option Nat)
 | [],_=>none
 | (j,d,o)::te,i=>bif Nat.beq j i then some (d,o) else look3 te i
def vis (p:List Nat):TE→List (Nat×D)
 | []=>[]
 | (j,d,none)::te=>(j,d)::vis p te
 | (j,d,some e)::te=>(j,bif p.contains e then d else .any)::vis p te
def TOKz (H0:Hp)(bs:Nat→Nat)(vals:Nat→Value)(te:TE)(a:Act):Prop:=
 ∀ j d o,look3 te j=some (d,o)→∃ v,a.tmps[j]? = some v∧(o=none→∀ H,H0.le H→Rep H d v)∧∀ e,o=some e→v=vals e∧d=dE De al bs e∧ev.contains e=true
def finZ (H0:Hp)(vals:Nat→Value)(a:Act):Prop:=∀ S w,(∀ i,ev.contains i=true→S i=true)→Cz C De al ev h k H0 S vals w→wpList P l.toArray (QD C N Q) (l.drop m) a w
def Zw (bs:Nat→Nat)(i:Nat)(rest:List Oper)(te:TE):Prop:=
 ∀
  H0 vals a,(∀ e,bs e=blk (vals e))→TOKz De al ev H0 bs vals te a→a.tmps.size=N→a.defers=[] →
  Jx.Lx P l.toArray (Cz C De al ev h k H0) (fun i=>pre.getD i []) (fun i=>ev.contains i) vals (finZ P C N l m De al ev h k Q H0 vals) i rest a
end
section
variable {P : Program} {C : Ctx} {N : Nat} {l : List Oper} {m : Nat} {De : Nat → D} {al : AL} {pre : List (List Nat)} {ev : List Nat} {h : List (Nat × Blk)} {k : List (Nat × Value)} {Q : Exit → S → Prop} {tab : List (Option TI)} {bs : Nat → Nat} {i : Nat} {o : Oper} {rest : List Oper} {te : TE}
theorem Khp {p:List Nat}:∀ {te:TE} {j:Nat} {d:D},look (vis p te) j=some d→∃ d' o,look3 te j=some (d',o)∧((o=none∧d=d')∨(∃ e,o=some e∧p.contains e=true∧d=d')∨d=.any)
 | [],j,d,e=>by simp [vis,look] at e
 |
  (a,d0,none)::te,j,d,e=>by
  simp only [vis,look,look3] at e ⊢;cases hb:Nat.beq a j with
  | true=>rw [hb] at e;simp at e;exact ⟨d0,none,by simp,.inl ⟨rfl,e.symm⟩⟩
  | false=>rw [hb] at e;simpa using Khp e
 |
  (a,d0,some b)::te,j,d,e=>by
  simp only [vis,look,look3] at e ⊢;cases hb:Nat.beq a j with
  |
   true=>
   rw [hb] at e;simp only [cond_true,Option.some.injEq] at e;refine ⟨d0,some b,by simp,?_⟩;cases hp:p.contains b with
   | true=>rw [hp] at e;exact .inr (.inl ⟨b,rfl,hp,e.symm⟩)
   | false=>rw [hp] at e;exact .inr (.inr e.symm)
  | false=>rw [hb] at e;simpa using Khp e
theorem Kca {H0 H:Hp}{vals:Nat→Value}{a:Act}{p:List Nat}(hbs:∀ e,bs e=blk (vals e))(kt:TOKz De al ev H0 bs vals te a)(hle:H0.le H)
  (hev:∀ e,p.contains e=true→ev.contains e=true→(isAl al e=true→vals e=.pointer (some ⟨blk (vals e),0,none⟩))∧(isAl al e=false→Rep H (De e) (vals e))):TOK H (vis p te) a:=by
 intro j d e;obtain ⟨d',o,h1,h2⟩:=Khp e;obtain ⟨v,f,g,n⟩:=kt j d' o h1;refine ⟨v,f,?_⟩;rcases h2 with ⟨rfl,rfl⟩|⟨b,rfl,hp,rfl⟩|rfl
 ·exact g rfl H hle
 ·obtain ⟨rfl,rfl,q⟩:=n b rfl;have c:=hev b hp q;unfold dE;cases ha:isAl al b with
  | true=>simp only [cond_true];rw [c.1 ha,hbs];exact Kbi (by simp [RepC]) rfl rfl
  | false=>simp only [cond_false];exact c.2 ha
 exact ⟨by simp [RepC],by cases v<;>rfl⟩
theorem TOKz.put {H0:Hp}{vals:Nat→Value}{a:Act}(kt:TOKz De al ev H0 bs vals te a){j:Nat}{d:D}{o:Option Nat}{v:Value}(hj:j < a.tmps.size)(h1:o=none→∀ H,H0.le H→Rep H d v)(h2:∀ e,o=some e→v=vals e∧d=dE De al bs e∧ev.contains e=true) :
  TOKz De al ev H0 bs vals ((j,d,o)::te) (a.put (some j) v):=by
 intro j' d' o' e;simp only [look3] at e;simp only [Act.put];cases hb:Nat.beq j j' with
 |
  true=>
  rw [hb] at e;simp at e;obtain ⟨rfl,rfl⟩:=e;have:=Nat.eq_of_beq_eq_true hb;subst this;exact ⟨v,by simp [hj],h1,h2⟩
 |
  false=>
  rw [hb] at e;simp at e;have hne:j ≠ j':=Nat.ne_of_beq_eq_false hb;obtain ⟨u,b,c⟩:=kt j' d' o' e;exact ⟨u,by rw [Array.getElem?_setIfInBounds_ne hne];exact b,c⟩
theorem KcX {H0:Hp}{vals:Nat→Value}{a:Act}(hbs:∀ e,bs e=blk (vals e))(kt:TOKz De al ev H0 bs vals te a):TOK H0 (vis [] te) a:=Kca hbs kt (Hp.le_refl _) fun e he=>by simp at he
theorem z_nil {t':List (Nat×D)}{h':List (Nat×Blk)}(b:vis ev te=t')(d:(h++al.map fun x=>(bs x.1,Blk.cells x.2.1 x.2.2))=h')(hal:∀ e,isAl al e=true→ev.contains e=true)(g:opsD P C N l (l.drop m) ⟨t',h',k⟩ Q):Zw P C N l m De al pre ev h k Q bs i [] te:=by
 intro H0 vals a hbs kt hN hdf S w hS hC;obtain ⟨H,hle,c,hev⟩:=hC;subst b;subst d;refine g a w ⟨H,?_,Kca hbs kt hle fun e _ he=>hev e (hS e he) he,hN,hdf⟩;rw [Kei fun e he=>hS e (hal e he)] at c;have:(fun x:Nat×List D×TypeId=>(bs x.1,Blk.cells x.2.1 x.2.2))=fun x=>(blk (vals x.1),Blk.cells x.2.1 x.2.2):=by funext x;rw [hbs]
 rw [this];exact c
theorem z_skip {j:Nat}(hw:wantD l (vis [] te) o=some false)(hd:o.dst=some j)(hi:Nat.blt j N=true)(hne:ev.contains i=false)(g:Zw P C N l m De al pre ev h k Q bs (i+1) rest ((j,.v (.tuple #[]),none)::te)):Zw P C N l m De al pre ev h k Q bs i (o::rest) te:=by
 intro H0 vals a hbs kt hN hdf;refine ⟨undef,?_,?_⟩
 ·unfold Jx.OK;rw [Ka2 (KcX hbs kt) hw,if_neg (by simp)];exact ⟨rfl,fun he=>by have he':ev.contains i=true:=he;rw [hne] at he';cases he'⟩
 rw [hd];refine g H0 vals _ hbs (kt.put (by rw [hN];simpa using hi) (fun _ H _=>⟨by simp [RepC,undef,Value.cells],rfl⟩) (fun e he=>by cases he)) ?_ hdf;simp only [Act.put,Array.size_setIfInBounds];exact hN
theorem z_quiet {j:Nat}{x:Value}{p:List Nat}(hp:pre.getD i []=p)(hw:wantD l (vis [] te) o=some true)(hd:o.dst=some j)(hi:Nat.blt j N=true)(hne:ev.contains i=false)(hone:one x=true)(_hpe:p.all ev.contains=true)
  (hx:∀ hh H a w,Core C H (h++hh) k w→TOK H (vis p te) a→∃ v,(execOp a.eval o).run P w=.ok (.value v) w∧Rep H (.v x) v)
  (g:Zw P C N l m De al pre ev h k Q bs (i+1) rest ((j,.v x,none)::te)):Zw P C N l m De al pre ev h k Q bs i (o::rest) te:=by
 intro H0 vals a hbs kt hN hdf;refine ⟨x,?_,?_⟩
 ·unfold Jx.OK;rw [Ka2 (KcX hbs kt) hw,if_pos rfl,if_neg (by show ¬ ev.contains i=true;rw [hne];exact Bool.false_ne_true)];rintro S w ⟨H,hle,c,hev⟩ hpS;replace hpS:∀ k∈pre.getD i [],S k=true:=hpS;rw [hp] at hpS;obtain ⟨v,h1,h2⟩:=hx _ H a w c (Kca hbs kt hle fun e he b=>hev e (hpS e (by simpa using he)) b);rw [KW h2] at h1;exact h1
 rw [hd];refine g H0 vals _ hbs (kt.put (by rw [hN];simpa using hi) (fun _ H _=>rep_v hone) (fun e he=>by cases he)) ?_ hdf;simp only [Act.put,Array.size_setIfInBounds];exact hN
theorem Kj1 {j:Nat}{p:List Nat}{d:D}(hp:pre.getD i []=p)(hw:wantD l (vis [] te) o=some true)(hd:o.dst=some j)(hi:Nat.blt j N=true)(he:ev.contains i=true)(hna:isAl al i=false)(hDe:De i=d)
  (hx:∀ hh H a w,Core C H (h++hh) k w→TOK H (vis p te) a→Jx.Gives P o a w fun v w'=>∃ H',H.le H'∧Core ⟨H,w,[]⟩ H' [] [] w'∧Rep H' d v)
  (g:Zw P C N l m De al pre ev h k Q bs (i+1) rest ((j,d,some i)::te)):Zw P C N l m De al pre ev h k Q bs i (o::rest) te:=by
 intro H0 vals a hbs kt hN hdf;subst hDe;refine ⟨vals i,?_,?_⟩
 ·unfold Jx.OK;rw [Ka2 (KcX hbs kt) hw,if_pos rfl,if_pos he];refine ⟨rfl,?_⟩;rintro S w ⟨H,hle,c,hev⟩ hSi hpS;replace hpS:∀ k∈pre.getD i [],S k=true:=hpS;rw [hp] at hpS;refine (hx _ H a w c (Kca hbs kt hle fun e he b=>hev e (hpS e (by simpa using he)) b)).mono ?_;rintro v w' ⟨H',hle',c',hr⟩;have hal:Kap al (Jx.upd S i true) (Jx.upd vals i v)=Kap al S vals:=KaV fun e hea=>by
   have:e ≠ i:=fun q=>by rw [q,hna] at hea;cases hea
   exact ⟨Jx.upd_ne _ _ this,fun _=>Jx.upd_ne _ _ this⟩
  refine ⟨H',Hp.le_trans hle hle',?_,fun e hes hee=>?_⟩
  ·rw [hal];have:=Core.call (h1:=[]) (k1:=[]) (h2:=h++Kap al S vals) (k2:=k) c c';simpa using this
  by_cases hei:e=i
  ·subst hei;rw [Jx.upd_same];exact ⟨fun q=>(by rw [hna] at q;cases q),fun _=>hr⟩
  rw [Jx.upd_ne _ _ hei] at hes ⊢;exact ⟨(hev e hes hee).1,fun q=>((hev e hes hee).2 q).mono hle'⟩
 rw [hd];refine g H0 vals _ hbs (kt.put (by rw [hN];simpa using hi) (fun q=>by cases q) (fun e q=>?_)) ?_ hdf
 ·cases q;exact ⟨rfl,by unfold dE;rw [hna];rfl,he⟩
 simp only [Act.put,Array.size_setIfInBounds];exact hN
def KdL:List (Nat×D)→TE
 | []=>[]
 | (j,d)::t=>(j,d,none)::KdL t
theorem Kej:∀ {t:List (Nat×D)} {j:Nat} {d:D} {o:Option Nat},look3 (KdL t) j=some (d,o)→look t j=some d∧o=none
 | [],j,d,o,e=>by simp [KdL,look3] at e
 |
  (a,d0)::t,j,d,o,e=>by
  simp only [KdL,look3,look] at e ⊢;cases hb:Nat.beq a j with
  | true=>rw [hb] at e;simp at e;exact ⟨by simp [e.1],e.2.symm⟩
  | false=>rw [hb] at e;simpa using Kej e
theorem wpD_drawn {id:Nat}{t:List (Nat×D)}(m:Nat)(De:Nat→D)(al:AL)(pre:List (List Nat))(ev:List Nat)(tp:List (List Nat))(hfo:P.follows .mixedOrders=true)(hsl:Jx.slotsB l.toArray=true)
  (hp:Jx.preB l.toArray (fun i=>pre.getD i [])=true) (hpe:pre.all (·.all ev.contains)=true) (hev:ev.all (· < (l.take m).length)=true) (hsuf:Jx.sufB l.toArray tp (l.take m).length=true)
  (hwalk:∀ bs,Zw P C N l m De al pre ev h k Q bs 0 (l.take m) (KdL t)):wpD P C N (.region id l.toArray true) ⟨t,h,k⟩ Q:=by
 rintro a w ⟨H,c,kt,hN,hdf⟩;have key:=Jx.region_any (P:=P) (Q:=QD C N Q) (id:=id) (w:=w) (a0:=a) (l1:=l.take m) (l2:=l.drop m) (Cz C De al ev h k H) (fun i=>pre.getD i []) (fun i=>ev.contains i) tp hfo (by rw [List.take_append_drop];exact hsl) (by rw [List.take_append_drop];exact hp) ?_ ?_
  (by rw [List.take_append_drop];exact hsuf) ?_ ?_ ?_
 ·rw [List.take_append_drop] at key;exact key
 ·intro i k hk;rw [List.all_eq_true] at hpe;by_cases hi:i < pre.length
  ·have e:pre.getD i []=pre[i]:=by simp [hi]
   rw [e] at hk;exact List.all_eq_true.1 (hpe _ (List.getElem_mem hi)) k hk
  have e:pre.getD i []=[]:=by simp [Nat.le_of_not_lt hi]
  rw [e] at hk;cases hk
 ·intro i hi;rw [List.all_eq_true] at hev;simpa using hev i (by simpa using hi)
 ·rintro S vals vals' w hv ⟨H',hle,c',hr⟩;refine ⟨H',hle,?_,fun e hes hee=>?_⟩
  ·rw [← KaV (S:=S) (S':=S) (vals:=vals) (vals':=vals') fun e _=>⟨rfl,hv e⟩];exact c'
  rw [← hv e hes];exact hr e hes hee
 ·intro vals;refine ⟨H,Hp.le_refl H,?_,fun e he=>by cases he⟩;rw [KdT,List.append_nil];exact c.drew
 intro vals;rw [List.take_append_drop];exact hwalk (fun e=>blk (vals e)) H vals a (fun _=>rfl) (fun j d o e=>by
  obtain ⟨h1,h2⟩:=Kej e;obtain ⟨v,b,f⟩:=kt j d h1;exact ⟨v,b,fun _ H' hle=>f.mono hle,fun e he=>by rw [h2] at he;cases he⟩) hN hdf
end
end
section
open Go
def ExDs:List Nat→((Nat→D)→Prop)→Prop
 | [],G=>G fun _=>.any
 | e::es,G=>∃ d,ExDs es fun f=>G fun x=>bif Nat.beq x e then d else f x
theorem KfO:∀ {es:List Nat} {G:(Nat→D)→Prop},ExDs es G→∃ De,G De
 | [],_,h=>⟨_,h⟩
 | _::_,_,⟨_,h⟩=>let ⟨_,h2⟩:=KfO h;⟨_,h2⟩
theorem bycB {p:Prop}(b:Bool)(h1:b=true→p)(h2:b=false→p):p:=by
 cases b
 ·exact h2 rfl
 exact h1 rfl
section
variable {P : Program} {C : Ctx} {N : Nat} {l : List Oper} {m : Nat} {De : Nat → D} {al : AL} {pre : List (List Nat)} {ev : List Nat} {h : List (Nat × Blk)} {k : List (Nat × Value)} {Q : Exit → S → Prop} {tab : List (Option TI)} {bs : Nat → Nat} {i : Nat} {o : Oper} {rest : List Oper} {te : TE}
theorem Kaj {id:Nat}{t:List (Nat×D)}(m:Nat)(al:AL)(pre:List (List Nat))(ev:List Nat)(tp:List (List Nat))(hfo:P.follows .mixedOrders=true)(hsl:Jx.slotsB l.toArray=true)
  (hp:Jx.preB l.toArray (fun i=>pre.getD i [])=true) (hpe:pre.all (·.all ev.contains)=true) (hev:ev.all (· < (l.take m).length)=true) (hsuf:Jx.sufB l.toArray tp (l.take m).length=true)
  (hwalk:ExDs ev fun De=>∀ bs,Zw P C N l m De al pre ev h k Q bs 0 (l.take m) (KdL t)):wpD P C N (.region id l.toArray true) ⟨t,h,k⟩ Q:=by
 obtain ⟨De,hw⟩:=KfO hwalk;exact wpD_drawn m De al pre ev tp hfo hsl hp hpe hev hsuf hw
abbrev Ex (P:Program)(o:Oper)(t:List (Nat×D))(d:D):Prop:=∀ H a w,TOK H t a→∃ v,(execOp a.eval o).run P w=.ok (.value v) w∧Rep H d v
theorem Kam {t:List (Nat×D)}{d:D}(hT:TabOK P tab)(e:evP tab t o.op=some d):Ex P o t d:=fun _ _ _ kt=>evP_ok hT kt e
theorem z_q {j:Nat}{x:Value}{p:List Nat}{t:List (Nat×D)}(hp:pre.getD i []=p)(ht:vis p te=t)(hx:Ex P o t (.v x))(hw:wantD l (vis [] te) o=some true)(hd:o.dst=some j)(hi:Nat.blt j N=true)(hne:ev.contains i=false)(hone:one x=true)(hpe:p.all ev.contains=true)
  (g:Zw P C N l m De al pre ev h k Q bs (i+1) rest ((j,.v x,none)::te)):Zw P C N l m De al pre ev h k Q bs i (o::rest) te:=
 z_quiet hp hw hd hi hne hone hpe (fun _ H a w _ kt=>hx H a w (ht ▸ kt)) g
theorem z_e {j:Nat}{p:List Nat}{t:List (Nat×D)}{d:D}(hp:pre.getD i []=p)(ht:vis p te=t)(hx:Ex P o t d)(hw:wantD l (vis [] te) o=some true)(hd:o.dst=some j)(hi:Nat.blt j N=true)(he:ev.contains i=true)(hna:isAl al i=false)(hDe:De i=d)
  (g:Zw P C N l m De al pre ev h k Q bs (i+1) rest ((j,d,some i)::te)):Zw P C N l m De al pre ev h k Q bs i (o::rest) te:=
 Kj1 hp hw hd hi he hna hDe (fun _ H a w c kt=>by
  obtain ⟨v,h1,h2⟩:=hx H a w (ht ▸ kt);unfold Jx.Gives;rw [h1];exact ⟨H,Hp.le_refl H,Core.here c.ag,h2⟩) g
abbrev ExM (P:Program)(C:Ctx)(h:List (Nat×Blk))(k:List (Nat×Value))(o:Oper)(t:List (Nat×D))(d:D):Prop:=∀ hh H a w,Core C H (h++hh) k w→TOK H t a→∃ v,(execOp a.eval o).run P w=.ok (.value v) w∧Rep H d v
theorem z_qM {j:Nat}{x:Value}{p:List Nat}{t:List (Nat×D)}(hp:pre.getD i []=p)(ht:vis p te=t)(hx:ExM P C h k o t (.v x))(hw:wantD l (vis [] te) o=some true)(hd:o.dst=some j)(hi:Nat.blt j N=true)(hne:ev.contains i=false)(hone:one x=true)(hpe:p.all ev.contains=true)
  (g:Zw P C N l m De al pre ev h k Q bs (i+1) rest ((j,.v x,none)::te)):Zw P C N l m De al pre ev h k Q bs i (o::rest) te:=
 z_quiet hp hw hd hi hne hone hpe (fun hh H a w c kt=>hx hh H a w c (ht ▸ kt)) g
theorem z_eM {j:Nat}{p:List Nat}{t:List (Nat×D)}{d:D}(hp:pre.getD i []=p)(ht:vis p te=t)(hx:ExM P C h k o t d)(hw:wantD l (vis [] te) o=some true)(hd:o.dst=some j)(hi:Nat.blt j N=true)(he:ev.contains i=true)(hna:isAl al i=false)(hDe:De i=d)
  (g:Zw P C N l m De al pre ev h k Q bs (i+1) rest ((j,d,some i)::te)):Zw P C N l m De al pre ev h k Q bs i (o::rest) te:=
 Kj1 hp hw hd hi he hna hDe (fun hh H a w c kt=>by
  obtain ⟨v,h1,h2⟩:=hx hh H a w c (ht ▸ kt);unfold Jx.Gives;rw [h1];exact ⟨H,Hp.le_refl H,Core.here c.ag,h2⟩) g
theorem KN {b off:Nat}{T T':TypeId}{x:Operand}{t:List (Nat×D)}{ds:List D}{f:TI}{d:D}(j:Nat)(hT:TabOK P tab)(ho:o.op=.load T x)(hx:opD t x=some (.ptr b off))(hb:h[j]? = some (b,.cells ds T'))(hTi:ti tab T=some f)(e:partD f ds off=some d):ExM P C h k o t d:=
 fun hh H a w c kt=>by
  obtain ⟨us,h1,h2,q⟩:=c.blks _ (List.mem_append_left _ (List.mem_of_getElem? hb));obtain ⟨v,g,p⟩:=Kfg (P:=P) (T:=T) (n:=off) (ti_ok hT hTi) (KgS h1) h2 e;refine ⟨v,?_,p⟩;unfold execOp;rw [ho];refine Kbb ?_;rw [Kcv (Kae kt hx)];rwa [Nat.zero_add] at g
theorem KF {T:TypeId}{x:Operand}{t:List (Nat×D)}{d0 d:D}{f:TI}(hT:TabOK P tab)(ho:o.op=.load T x)(hx:opD t x=some (.el d0))(hTi:ti tab T=some f)(e:partD f (Kah d0) 0=some d)(hne:(Kah d0).isEmpty=false):ExM P C h k o t d:=
 fun hh H a w c kt=>by
  obtain ⟨b,off,vs,h1,h2,g,j⟩:=Kg8 (Kae kt hx);obtain ⟨v,p,q⟩:=Kfg (P:=P) (T:=T) (n:=0) (ti_ok hT hTi) (g.row c.ag) (Ki1 (by intro e;rw [e] at hne;cases hne) h2 j) e;refine ⟨v,?_,q⟩;unfold execOp;rw [ho];exact Kbb (by rw [h1];exact p)
theorem Kcg {f:FuncId}{args:List Operand}{ts:Array TypeId}{j:Nat}{p:List Nat}{t:List (Nat×D)}{ds ds':List D}{d:D}(hp:pre.getD i []=p)(ht:vis p te=t)(hc:CallsD P f ds' [] [] (fun d' h k=>d'=d∧h=[]∧k=[]))(ho:o.op=.call ⟨.value (.func f),args.toArray,ts⟩)
  (ha:Kb3 args (opD t)=some ds) (hwk:WkL ds ds') (hw:wantD l (vis [] te) o=some true) (hd:o.dst=some j) (hi:Nat.blt j N=true) (he:ev.contains i=true) (hna:isAl al i=false) (hDe:De i=d)
  (g:Zw P C N l m De al pre ev h k Q bs (i+1) rest ((j,d,some i)::te)):Zw P C N l m De al pre ev h k Q bs i (o::rest) te:=
 Kj1 hp hw hd hi he hna hDe (fun hh H a w c kt=>by
  subst ht;unfold Jx.Gives;rw [Kd1 ho hc.1];simp only [];have hv:=hwk H _ (Kco kt ha);rw [List.map_toArray];refine (hc.2 H w _ hv c.ag (by simp) (by simp) (by simp [KP,K0])).mono ?_;rintro e w' ⟨v,H',d',h',k',rfl,hr,hcore,rfl,rfl,rfl⟩;exact ⟨v,rfl,H',hcore.le,hcore,hr⟩) g
theorem K1 {j:Nat}{b b':Bool}(hl:look3 te j=some (.v (.bool b),none))(e:b=b')(g:Zw P C N l m De al pre ev h k Q bs i rest ((j,.v (.bool b'),none)::te)):Zw P C N l m De al pre ev h k Q bs i rest te:=by
 subst e;intro H0 vals a hbs kt hN hdf;refine g H0 vals a hbs (fun j' d o e=>?_) hN hdf;simp only [look3] at e;cases hb:Nat.beq j j' with
 |
  true=>
  rw [hb] at e;simp at e;obtain ⟨rfl,rfl⟩:=e;have:=Nat.eq_of_beq_eq_true hb;subst this;exact kt _ _ _ hl
 | false=>rw [hb] at e;exact kt j' d o (by simpa using e)
end
end
section
open Go
def WkS (C:Ctx)(s s':S):Prop:=∀ H a w,Core C H s.h s.k w→TOK H s.t a→∃ H',H.le H'∧Core C H' s'.h s'.k w∧TOK H' s'.t a
theorem WkS.keep {C:Ctx}{t t':List (Nat×D)}{h h':List (Nat×Blk)}{k k':List (Nat×Value)}(l:List Nat)(e:keepT l t=t')(hh:h'.Sublist h)(hk:k'.Sublist k):WkS C ⟨t,h,k⟩ ⟨t',h',k'⟩:=
 fun H _ _ c kt=>⟨H,Hp.le_refl H,c.drop hh hk,e ▸ Kkr kt l⟩
theorem look_cons {t:List (Nat×D)}{j i:Nat}{d0 d:D}{p:Prop}(h:look ((j,d0)::t) i=some d)(h1:i=j→d=d0→p)(h2:look t i=some d→p):p:=by
 simp only [look] at h;cases hb:Nat.beq j i with
 | true=>rw [hb] at h;simp at h;exact h1 (Nat.eq_of_beq_eq_true hb).symm h.symm
 | false=>rw [hb] at h;exact h2 (by simpa using h)
theorem WkS.nil {t:List (Nat×D)}:∀ i d,look [] i=some d→∃ d0,look t i=some d0∧Wk d0 d:=fun i d h=>by simp [look] at h
theorem WkS.cons {t t':List (Nat×D)}{j:Nat}{d0 d1:D}(h0:look t j=some d0)(hw:Wk d0 d1)(g:∀ i d,look t' i=some d→∃ d0,look t i=some d0∧Wk d0 d):∀ i d,look ((j,d1)::t') i=some d→∃ d0,look t i=some d0∧Wk d0 d:=
 fun i d h=>look_cons h (fun a b=>⟨d0,a ▸ h0,b ▸ hw⟩) (g i d)
theorem Wk.of_eq {d d':D}(h:d=d'):Wk d d':=h ▸ Wk.refl d
section
variable {P : Program} {C : Ctx} {N : Nat} {ops rest : List Oper} {o : Oper} {t : List (Nat × D)} {h : List (Nat × Blk)} {k : List (Nat × Value)} {Q : Exit → S → Prop} {tab : List (Option TI)}
end
end
section
open Go
structure Hv where
 e:Nat
 h1:Value→List (Nat×Blk)
 k1:Value→List (Nat×Value)
 d:Value→D
section
variable (P : Program) (C : Ctx) (N : Nat) (l : List Oper) (m : Nat) (De : Nat → D) (al : AL) (pre : List (List Nat)) (ev : List Nat) (v : Hv) (h : List (Nat × Blk)) (k : List (Nat × Value)) (Q : Exit → S → Prop)
def dH (x:Value)(e:Nat):D:=bif Nat.beq e v.e then v.d x else De e
def Ch (H0:Hp)(S:Nat→Bool)(vals:Nat→Value)(w:World):Prop:=
 ∃
  H,H0.le H∧(∀ e,S e=true→ev.contains e=true→∀ p∈pre.getD e [],S p=true)∧Core C H ((bif S v.e then v.h1 (vals v.e) else h)++Kap al S vals) (bif S v.e then v.k1 (vals v.e) else k) w ∧
  ∀ e,S e=true→ev.contains e=true→(isAl al e=true→vals e=.pointer (some ⟨blk (vals e),0,none⟩))∧(isAl al e=false→Rep H (dH De v (vals v.e) e) (vals e))
def finH (H0:Hp)(vals:Nat→Value)(a:Act):Prop:=∀ S w,(∀ i,ev.contains i=true→S i=true)→Ch C De al pre ev v h k H0 S vals w→wpList P l.toArray (QD C N Q) (l.drop m) a w
def Zh (bs:Nat→Nat)(y:Value)(i:Nat)(rest:List Oper)(te:TE):Prop:=
 ∀
  H0 vals a,(∀ e,bs e=blk (vals e))→y=vals v.e→TOKz (dH De v y) al ev H0 bs vals te a→a.tmps.size=N→a.defers=[] →
  Jx.Lx P l.toArray (Ch C De al pre ev v h k H0) (fun i=>pre.getD i []) (fun i=>ev.contains i) vals (finH P C N l m De al pre ev v h k Q H0 vals) i rest a
end
section
variable {P : Program} {C : Ctx} {N : Nat} {l : List Oper} {m : Nat} {De : Nat → D} {al : AL} {pre : List (List Nat)} {ev : List Nat} {v : Hv} {h : List (Nat × Blk)} {k : List (Nat × Value)} {Q : Exit → S → Prop} {tab : List (Option TI)} {bs : Nat → Nat} {y : Value} {i : Nat} {o : Oper} {rest : List Oper} {te : TE}
theorem Ke0 {t':List (Nat×D)}{h':List (Nat×Blk)}{k':List (Nat×Value)}(b:vis ev te=t')(d:(v.h1 y++al.map fun x=>(bs x.1,Blk.cells x.2.1 x.2.2))=h')(f:v.k1 y=k')(hv:ev.contains v.e=true)(hal:∀ e,isAl al e=true→ev.contains e=true)(g:opsD P C N l (l.drop m) ⟨t',h',k'⟩ Q):Zh P C N l m De al pre ev v h k Q bs y i [] te:=by
 intro H0 vals a hbs hy kt hN hdf S w hS hC;obtain ⟨H,hle,_,c,hev⟩:=hC;subst b;subst d;subst f;subst hy;have hse:=hS _ hv;rw [hse] at c;simp only [cond_true] at c;refine g a w ⟨H,?_,Kca hbs kt hle fun e _ he=>hev e (hS e he) he,hN,hdf⟩;rw [Kei fun e he=>hS e (hal e he)] at c;have:(fun x:Nat×List D×TypeId=>(bs x.1,Blk.cells x.2.1 x.2.2))=fun x=>(blk (vals x.1),Blk.cells x.2.1 x.2.2):=by funext x;rw [hbs]
 rw [this];exact c
theorem zh_q {j:Nat}{x:Value}{p:List Nat}{t:List (Nat×D)}(hp:pre.getD i []=p)(ht:vis p te=t)(hx:Ex P o t (.v x))(hw:wantD l (vis [] te) o=some true)(hd:o.dst=some j)(hi:Nat.blt j N=true)(hne:ev.contains i=false)(hone:one x=true)(_hpe:p.all ev.contains=true)
  (g:Zh P C N l m De al pre ev v h k Q bs y (i+1) rest ((j,.v x,none)::te)):Zh P C N l m De al pre ev v h k Q bs y i (o::rest) te:=by
 intro H0 vals a hbs hy kt hN hdf;refine ⟨x,?_,?_⟩
 ·unfold Jx.OK;rw [Ka2 (KcX hbs kt) hw,if_pos rfl,if_neg (by show ¬ ev.contains i=true;rw [hne];exact Bool.false_ne_true)];rintro S w ⟨H,hle,_,c,hev⟩ hpS;replace hpS:∀ k∈pre.getD i [],S k=true:=hpS;rw [hp] at hpS;obtain ⟨r,h1,h2⟩:=hx H a w (ht ▸ Kca hbs kt hle fun e he b=>hy ▸ hev e (hpS e (by simpa using he)) b);rw [KW h2] at h1;exact h1
 rw [hd];refine g H0 vals _ hbs hy (kt.put (by rw [hN];simpa using hi) (fun _ H _=>rep_v hone) (fun e he=>by cases he)) ?_ hdf;simp only [Act.put,Array.size_setIfInBounds];exact hN
theorem Kep {S:Nat→Bool}(hdn:∀ e,S e=true→ev.contains e=true→∀ p∈pre.getD e [],S p=true)(hpS:∀ k∈pre.getD i [],S k=true):∀ e,Jx.upd S i true e=true→ev.contains e=true→∀ p∈pre.getD e [],Jx.upd S i true p=true:=by
 intro e he hee p hp;by_cases hpi:p=i
 ·rw [hpi,Jx.upd_same]
 rw [Jx.upd_ne _ _ hpi];by_cases hei:e=i
 ·subst hei;exact hpS p hp
 rw [Jx.upd_ne _ _ hei] at he;exact hdn e he hee p hp
theorem Kkt {j:Nat}{p:List Nat}{t:List (Nat×D)}{d:D}(hp:pre.getD i []=p)(ht:vis p te=t)
  (b:p.contains v.e=false→∀ hh H a w,Core C H (h++hh) k w→TOK H t a→Jx.Gives P o a w fun r w'=>∃ H',Core ⟨H,w,[]⟩ H' [] [] w'∧Rep H' d r)
  (f:(pre.getD v.e []).contains i=false→∀ hh H a w,Core C H (v.h1 y++hh) (v.k1 y) w→TOK H t a→Jx.Gives P o a w fun r w'=>∃ H',Core ⟨H,w,[]⟩ H' [] [] w'∧Rep H' d r)
  (hw:wantD l (vis [] te) o=some true) (hd:o.dst=some j) (hi:Nat.blt j N=true) (he:ev.contains i=true) (n:ev.contains v.e=true) (hna:isAl al i=false) (hnv:Nat.beq i v.e=false) (hDe:De i=d)
  (g:Zh P C N l m De al pre ev v h k Q bs y (i+1) rest ((j,d,some i)::te)):Zh P C N l m De al pre ev v h k Q bs y i (o::rest) te:=by
 intro H0 vals a hbs hy kt hN hdf;subst hDe;have hne:i ≠ v.e:=Nat.ne_of_beq_eq_false hnv;refine ⟨vals i,?_,?_⟩
 ·unfold Jx.OK;rw [Ka2 (KcX hbs kt) hw,if_pos rfl,if_pos he];refine ⟨rfl,?_⟩;rintro S w ⟨H,hle,hdn,c,hev⟩ hSi hpS;replace hpS:∀ k∈pre.getD i [],S k=true:=hpS;have hpS':=hpS;rw [hp] at hpS;have htok:=ht ▸ Kca hbs kt hle fun e he s=>hy ▸ hev e (hpS e (by simpa using he)) s
  have key:Jx.Gives P o a w fun r w'=>∃ H',Core ⟨H,w,[]⟩ H' [] [] w'∧Rep H' (De i) r:=by
   cases hs:S v.e with
   |
    false=>
    rw [hs] at c;refine b ?_ _ H a w c htok;cases hc:p.contains v.e with
    | false=>rfl
    | true=>rw [hpS v.e (by simpa using hc)] at hs;cases hs
   |
    true=>
    rw [hs] at c;rw [← hy] at c;refine f ?_ _ H a w c htok;cases hc:(pre.getD v.e []).contains i with
    | false=>rfl
    |
     true=>
     have u:i∈pre.getD v.e []:=by
      rw [List.contains_iff_exists_mem_beq] at hc;obtain ⟨z,hz,hb⟩:=hc;have:i=z:=by simpa using hb
      rw [this];exact hz
     rw [hdn v.e hs n i u] at hSi;cases hSi
  refine key.mono ?_;rintro r w' ⟨H',c',hr⟩;have hal:Kap al (Jx.upd S i true) (Jx.upd vals i r)=Kap al S vals:=KaV fun e hea=>by
   have:e ≠ i:=fun q=>by rw [q,hna] at hea;cases hea
   exact ⟨Jx.upd_ne _ _ this,fun _=>Jx.upd_ne _ _ this⟩
  refine ⟨H',Hp.le_trans hle c'.le,Kep hdn hpS',?_,fun e hes hee=>?_⟩
  ·rw [hal,Jx.upd_ne _ _ (Ne.symm hne),Jx.upd_ne _ _ (Ne.symm hne)];have:=Core.call (h1:=[]) (k1:=[]) c c';exact this
  rw [Jx.upd_ne _ _ (Ne.symm hne)];by_cases hei:e=i
  ·subst hei;rw [Jx.upd_same];refine ⟨fun q=>(by rw [hna] at q;cases q),fun _=>?_⟩;unfold dH;rw [hnv];exact hr
  rw [Jx.upd_ne _ _ hei] at hes ⊢;exact ⟨(hev e hes hee).1,fun q=>((hev e hes hee).2 q).mono c'.le⟩
 rw [hd];refine g H0 vals _ hbs hy (kt.put (by rw [hN];simpa using hi) (fun q=>by cases q) (fun e q=>?_)) ?_ hdf
 ·cases q;exact ⟨rfl,by unfold dE dH;rw [hna,hnv];rfl,he⟩
 simp only [Act.put,Array.size_setIfInBounds];exact hN
theorem Kcb {a:Act}{w w':World}{r:Value}{K:Value→World→Prop}(h1:(execOp a.eval o).run P w=.ok (.value r) w')(hk:K r w'):Jx.Gives P o a w K:=by
 unfold Jx.Gives;rw [h1];exact hk
theorem zh_e {j:Nat}{p:List Nat}{t:List (Nat×D)}{d:D}(hp:pre.getD i []=p)(ht:vis p te=t)(hx:Ex P o t d)(hw:wantD l (vis [] te) o=some true)(hd:o.dst=some j)(hi:Nat.blt j N=true)(he:ev.contains i=true)(b:ev.contains v.e=true)(hna:isAl al i=false)(hnv:Nat.beq i v.e=false)(hDe:De i=d)
  (g:Zh P C N l m De al pre ev v h k Q bs y (i+1) rest ((j,d,some i)::te)):Zh P C N l m De al pre ev v h k Q bs y i (o::rest) te:=
 Kkt hp ht (fun _ _ H a w c kt=>let ⟨_,h1,h2⟩:=hx H a w kt;Kcb h1 ⟨H,Core.here c.ag,h2⟩) (fun _ _ H a w c kt=>let ⟨_,h1,h2⟩:=hx H a w kt;Kcb h1 ⟨H,Core.here c.ag,h2⟩) hw hd hi he b hna hnv hDe g
theorem zh_E {j:Nat}{p:List Nat}{t:List (Nat×D)}{d:D}(hp:pre.getD i []=p)(ht:vis p te=t)(hx:ExE P o t d)(hw:wantD l (vis [] te) o=some true)(hd:o.dst=some j)(hi:Nat.blt j N=true)(he:ev.contains i=true)(f:ev.contains v.e=true)(hna:isAl al i=false)(hnv:Nat.beq i v.e=false)(hDe:De i=d)
  (g:Zh P C N l m De al pre ev v h k Q bs y (i+1) rest ((j,d,some i)::te)):Zh P C N l m De al pre ev v h k Q bs y i (o::rest) te:=
 Kkt hp ht (fun _ _ H a w c kt=>let ⟨_,_,H',h1,h2,b⟩:=hx H a w c.ag kt;Kcb h1 ⟨H',h2,b⟩) (fun _ _ H a w c kt=>let ⟨_,_,H',h1,h2,b⟩:=hx H a w c.ag kt;Kcb h1 ⟨H',h2,b⟩) hw hd hi he f hna hnv hDe g
theorem zh_M {j:Nat}{p:List Nat}{t:List (Nat×D)}{d:D}(hp:pre.getD i []=p)(ht:vis p te=t)(b:p.contains v.e=false→ExM P C h k o t d)(f:(pre.getD v.e []).contains i=false→ExM P C (v.h1 y) (v.k1 y) o t d)(hw:wantD l (vis [] te) o=some true)(hd:o.dst=some j)(hi:Nat.blt j N=true)(he:ev.contains i=true)(n:ev.contains v.e=true)(hna:isAl al i=false)(hnv:Nat.beq i v.e=false)(hDe:De i=d)
  (g:Zh P C N l m De al pre ev v h k Q bs y (i+1) rest ((j,d,some i)::te)):Zh P C N l m De al pre ev v h k Q bs y i (o::rest) te:=
 Kkt hp ht (fun q hh H a w c kt=>let ⟨_,h1,h2⟩:=b q hh H a w c kt;Kcb h1 ⟨H,Core.here c.ag,h2⟩) (fun q hh H a w c kt=>let ⟨_,h1,h2⟩:=f q hh H a w c kt;Kcb h1 ⟨H,Core.here c.ag,h2⟩) hw hd hi he n hna hnv hDe g
theorem offB {b:Bool}{p:Prop}(hb:b=true):b=false→p:=fun q=>by rw [hb] at q;cases q
theorem zh_heavy {p:List Nat}{t:List (Nat×D)}(hp:pre.getD i []=p)(ht:vis p te=t)(hiv:i=v.e)
  (hx:∀ hh H a w,Core C H (h++hh) k w→TOK H t a→Jx.Gives P o a w fun r w'=>∃ H',H.le H'∧Core C H' (v.h1 r++hh) (v.k1 r) w'∧Rep H' (v.d r) r)
  (hw:wantD l (vis [] te) o=some true) (he:ev.contains i=true) (hna:isAl al i=false) {te':TE} (hd:(∃ j,o.dst=some j∧Nat.blt j N=true∧te'=(j,v.d y,some i)::te)∨(o.dst=none∧te'=te))
  (g:Zh P C N l m De al pre ev v h k Q bs y (i+1) rest te'):Zh P C N l m De al pre ev v h k Q bs y i (o::rest) te:=by
 subst hiv;intro H0 vals a hbs hy kt hN hdf;refine ⟨vals v.e,?_,?_⟩
 ·unfold Jx.OK;rw [Ka2 (KcX hbs kt) hw,if_pos rfl,if_pos he];refine ⟨rfl,?_⟩;rintro S w ⟨H,hle,hdn,c,hev⟩ hSi hpS;replace hpS:∀ k∈pre.getD v.e [],S k=true:=hpS;have hpS':=hpS;rw [hp] at hpS;have htok:=ht ▸ Kca hbs kt hle fun e he b=>hy ▸ hev e (hpS e (by simpa using he)) b
  rw [hSi] at c;refine (hx _ H a w c htok).mono ?_;rintro r w' ⟨H',hle',c',hr⟩;have hal:Kap al (Jx.upd S v.e true) (Jx.upd vals v.e r)=Kap al S vals:=KaV fun e hea=>by
   have:e ≠ v.e:=fun q=>by rw [q,hna] at hea;cases hea
   exact ⟨Jx.upd_ne _ _ this,fun _=>Jx.upd_ne _ _ this⟩
  refine ⟨H',Hp.le_trans hle hle',Kep hdn hpS',?_,fun e hes hee=>?_⟩
  ·rw [hal,Jx.upd_same,Jx.upd_same];exact c'
  rw [Jx.upd_same];by_cases hei:e=v.e
  ·subst hei;rw [Jx.upd_same];refine ⟨fun q=>(by rw [hna] at q;cases q),fun _=>?_⟩;unfold dH;rw [Nat.beq_refl];exact hr
  rw [Jx.upd_ne _ _ hei] at hes ⊢;refine ⟨(hev e hes hee).1,fun q=>?_⟩;have:=((hev e hes hee).2 q).mono hle';have hb:Nat.beq e v.e=false:=by
   cases hb:Nat.beq e v.e with
   | false=>rfl
   | true=>exact absurd (Nat.eq_of_beq_eq_true hb) hei
  unfold dH at this ⊢;rw [hb] at this ⊢;exact this
 rcases hd with ⟨j,hd,hi,rfl⟩|⟨hd,rfl⟩
 ·rw [hd];refine g H0 vals _ hbs hy (kt.put (by rw [hN];simpa using hi) (fun q=>by cases q) (fun e q=>?_)) ?_ hdf
  ·cases q;exact ⟨rfl,by unfold dE dH;rw [hna,Nat.beq_refl];rfl,he⟩
  simp only [Act.put,Array.size_setIfInBounds];exact hN
 rw [hd];exact g H0 vals _ hbs hy kt hN hdf
theorem Klp {id:Nat}{t:List (Nat×D)}(m:Nat)(al:AL)(pre:List (List Nat))(ev:List Nat)(tp:List (List Nat))(v:Hv)(hfo:P.follows .mixedOrders=true)(hsl:Jx.slotsB l.toArray=true)
  (hp:Jx.preB l.toArray (fun i=>pre.getD i [])=true) (hpe:pre.all (·.all ev.contains)=true) (hev:ev.all (· < (l.take m).length)=true) (hsuf:Jx.sufB l.toArray tp (l.take m).length=true)
  (hwalk:ExDs ev fun De=>∀ bs y,Zh P C N l m De al pre ev v h k Q bs y 0 (l.take m) (KdL t)):wpD P C N (.region id l.toArray true) ⟨t,h,k⟩ Q:=by
 obtain ⟨De,hwalk⟩:=KfO hwalk;rintro a w ⟨H,c,kt,hN,hdf⟩;have key:=Jx.region_any (P:=P) (Q:=QD C N Q) (id:=id) (w:=w) (a0:=a) (l1:=l.take m) (l2:=l.drop m) (Ch C De al pre ev v h k H) (fun i=>pre.getD i []) (fun i=>ev.contains i) tp hfo (by rw [List.take_append_drop];exact hsl) (by rw [List.take_append_drop];exact hp) ?_ ?_
  (by rw [List.take_append_drop];exact hsuf) ?_ ?_ ?_
 ·rw [List.take_append_drop] at key;exact key
 ·intro i k hk;rw [List.all_eq_true] at hpe;by_cases hi:i < pre.length
  ·have e:pre.getD i []=pre[i]:=by simp [hi]
   rw [e] at hk;exact List.all_eq_true.1 (hpe _ (List.getElem_mem hi)) k hk
  have e:pre.getD i []=[]:=by simp [Nat.le_of_not_lt hi]
  rw [e] at hk;cases hk
 ·intro i hi;rw [List.all_eq_true] at hev;simpa using hev i (by simpa using hi)
 ·rintro S vals vals' w hv ⟨H',hle,hdn,c',hr⟩;have hb:(bif S v.e then v.h1 (vals v.e) else h)=(bif S v.e then v.h1 (vals' v.e) else h)∧(bif S v.e then v.k1 (vals v.e) else k)=(bif S v.e then v.k1 (vals' v.e) else k):=by
   cases hs:S v.e with
   | false=>exact ⟨rfl,rfl⟩
   | true=>rw [hv _ hs];exact ⟨rfl,rfl⟩
  refine ⟨H',hle,hdn,?_,fun e hes hee=>?_⟩
  ·rw [← KaV (S:=S) (S':=S) (vals:=vals) (vals':=vals') fun e _=>⟨rfl,hv e⟩,← hb.1,← hb.2];exact c'
  rw [← hv e hes];refine ⟨(hr e hes hee).1,fun q=>?_⟩;have:=(hr e hes hee).2 q;unfold dH at this ⊢;cases hq:Nat.beq e v.e with
  | false=>rw [hq] at this;exact this
  |
   true=>
   rw [hq] at this;have b:=Nat.eq_of_beq_eq_true hq;rw [← hv v.e (b ▸ hes)];exact this
 ·intro vals;refine ⟨H,Hp.le_refl H,(fun e he=>by cases he),?_,fun e he=>by cases he⟩;rw [KdT,List.append_nil];exact c.drew
 intro vals;rw [List.take_append_drop];exact hwalk (fun e=>blk (vals e)) (vals v.e) H vals a (fun _=>rfl) rfl (fun j d o e=>by
  obtain ⟨h1,h2⟩:=Kej e;obtain ⟨r,f,g⟩:=kt j d h1;exact ⟨r,f,fun _ H' hle=>g.mono hle,fun e he=>by rw [h2] at he;cases he⟩) hN hdf
end
end
section
open Go
section
variable {P : Program} {C : Ctx} {N : Nat} {l ops rest : List Oper} {m : Nat} {De : Nat → D} {al : AL} {pre : List (List Nat)} {ev : List Nat} {h : List (Nat × Blk)} {k : List (Nat × Value)} {Q : Exit → S → Prop} {tab : List (Option TI)} {bs : Nat → Nat} {y : Value} {i : Nat} {o : Oper} {te : TE} {t : List (Nat × D)}
theorem zh_app {kk bb:Nat}{T T' e e':TypeId}{x z:Operand}{xs ys zs:List D}{c c':Cap}{b f ie:TI}{k1 k2:List (Nat×Value)}{p:List Nat}{j:Nat}(hT:TabOK P tab)(hp:pre.getD i []=p)(ht:vis p te=t)(ho:o.op=.call ⟨.builtin .append,[x,z].toArray,#[T,T']⟩)(hw:wantD l (vis [] te) o=some true)(hd:o.dst=some j)(hi:Nat.blt j N=true)(he:ev.contains i=true)(hna:isAl al i=false)
  (hx:∀ H a,TOK H t a→Rep H (.lst kk xs c) (a.eval x)) (hy:opD t z=some (.lst kk ys c')) (n:∀ H a,TOK H t a→(k1=[]∧c=.full)∨(k1=[(kk,a.eval x)]∧c=.cur (a.eval x))) (hkk:k.Perm (k1++k2))
  (q:ti tab T=some b) (r:b.d=.slice e) (u:ti tab T'=some f) (A:f.d=.slice e') (hie:ti tab e=some ie) (hks:ie.size=kk) (hbb:ie.bytes=bb) (hz:ie.zero.length=kk) (B:Nat.ble 1 bb=true) (hbound:(xs.length+ys.length)*bb≤140737488355328) (hzs:xs++ys=zs)
  (g:Zh P C N l m De al pre ev ⟨i,fun _=>h,fun y=>(kk,y)::k2,fun y=>.lst kk zs (.cur y)⟩ h k Q bs y (i+1) rest ((j,.lst kk zs (.cur y),some i)::te)) :
  Zh P C N l m De al pre ev ⟨i,fun _=>h,fun y=>(kk,y)::k2,fun y=>.lst kk zs (.cur y)⟩ h k Q bs y i (o::rest) te:=by
 subst hzs;refine zh_heavy hp ht rfl ?_ hw he hna (.inl ⟨j,hd,hi,rfl⟩) g;intro hh H a w core kt;obtain ⟨v,w',H',h1,h2,E,F⟩:=app_run (P:=P) (ty:=o.type) hT (core.perm (List.Perm.refl _) hkk) (n H a kt) (hx H a kt) (Kae kt hy) q r u A hie hks hbb hz (Nat.le_of_ble_eq_true B) hbound;exact Kcb (Kb9 (s:=Builtin.append_) ho (fun _ _=>rfl) (by simpa using h1)) ⟨H',h2,E,F⟩
theorem app_kC {x:Operand}{kk:Nat}{xs:List D}{b:Value}(hx:opD t x=some (.lst kk xs (.cur b))):∀ H a,TOK H t a→([(kk,b)]=([]:List (Nat×Value))∧Cap.cur b=.full)∨([(kk,b)]=[(kk,a.eval x)]∧Cap.cur b=.cur (a.eval x)):=fun H a kt=>by
 have:=(KbK (Kae kt hx)).1;simp only [CapOK] at this;rw [this];exact .inr ⟨rfl,rfl⟩
theorem rep_of {d:D}{x:Operand}(hx:opD t x=some d):∀ H a,TOK H t a→Rep H d (a.eval x):=fun _ _ kt=>Kae kt hx
theorem wpD_app {id:Nat}(m:Nat)(al:AL)(pre:List (List Nat))(ev:List Nat)(tp:List (List Nat))(a kk j:Nat)(hfo:P.follows .mixedOrders=true)(hsl:Jx.slotsB l.toArray=true)
  (hp:Jx.preB l.toArray (fun i=>pre.getD i [])=true) (hpe:pre.all (·.all ev.contains)=true) (hev:ev.all (· < (l.take m).length)=true) (hsuf:Jx.sufB l.toArray tp (l.take m).length=true)
  {k2:List (Nat×Value)} (_hk2:k.eraseIdx j=k2)
  (hwalk:∃ zs,ExDs ev fun De=>∀ bs y,Zh P C N l m De al pre ev ⟨a,fun _=>h,fun y=>(kk,y)::k2,fun y=>.lst kk zs (.cur y)⟩ h k Q bs y 0 (l.take m) (KdL t)):wpD P C N (.region id l.toArray true) ⟨t,h,k⟩ Q:=
 let ⟨zs,hwalk⟩:=hwalk;Klp m al pre ev tp ⟨a,fun _=>h,fun y=>(kk,y)::k2,fun y=>.lst kk zs (.cur y)⟩ hfo hsl hp hpe hev hsuf hwalk
theorem Keq {b off:Nat}{T T':TypeId}{x z:Operand}{ds ds':List D}{e:TI}{d:D}{p:List Nat}{h':List (Nat×Blk)}(j:Nat)(hT:TabOK P tab)(hp:pre.getD i []=p)(ht:vis p te=t)(ho:o.op=.store T x z)(hw:wantD l (vis [] te) o=some true)(hd:o.dst=none)(he:ev.contains i=true)(hna:isAl al i=false)
  (hx:opD t x=some (.ptr b off)) (hb:h[j]? = some (b,.cells ds T')) (hti:ti tab T=some e) (hy:opD t z=some d) (hs:stor d=true) (hsz:Nat.beq (Kah d).length e.size=true) (hle:Nat.ble (off+e.size) ds.length=true)
  (n:lay ds off (Kah d)=ds') (q:h.set j (b,.cells ds' T')=h')
  (g:Zh P C N l m De al pre ev ⟨i,fun _=>h',fun _=>k,fun _=>.any⟩ h k Q bs y (i+1) rest te):Zh P C N l m De al pre ev ⟨i,fun _=>h',fun _=>k,fun _=>.any⟩ h k Q bs y i (o::rest) te:=by
 subst n;subst q;refine zh_heavy hp ht rfl ?_ hw he hna (.inr ⟨hd,rfl⟩) g;intro hh H a w c kt;have hjl:j < h.length:=(List.getElem?_eq_some_iff.1 hb).1;have f:(h++hh)[j]? = some (b,.cells ds T'):=by rw [List.getElem?_append_left hjl];exact hb
 obtain ⟨us,h1,h2,B⟩:=c.blks _ (List.mem_of_getElem? f);have hv:=Kfh hs (Kae kt hy);have hlen:=Kcu hv;have E:=Kcu h2;have F:=Nat.eq_of_beq_eq_true hsz;have G:=Nat.le_of_ble_eq_true hle;obtain ⟨w',r,henv,s,u,A⟩:=KcL (P:=P) (b:=b) (off:=off) (a.eval z).cells.toList 0 w us h1 (by omega) (KeZ hv);have hrun:(Instr.storeAt T (a.eval x) (a.eval z)).run P w=.ok () w':=by
  rw [Kcv (Kae kt hx)];unfold Instr.storeAt;rw [Kw (a:=(⟨b,off,none⟩:Addr)) rfl];unfold storeVar;rw [Kw (Kby (ti_ok hT hti)),if_neg (by simp only [Array.length_toList] at hlen;omega)];exact r
 have hex:(execOp a.eval o).run P w=.ok .skip w':=by
  unfold execOp;rw [ho];show ((Instr.storeAt T (a.eval x) (a.eval z)) >>= fun _=>pure Next.skip).run P w=_
  rw [Kw hrun];rfl
 unfold Jx.Gives;rw [hex];have cw:=c.write f henv s u A (by simpa using Ki2 h2 hv off);rw [List.set_append_left _ _ hjl] at cw;exact ⟨H,Hp.le_refl H,cw,by simp only [Rep,RepC];exact ⟨trivial,rfl⟩⟩
theorem KdU {id:Nat}(m:Nat)(al:AL)(pre:List (List Nat))(ev:List Nat)(tp:List (List Nat))(a:Nat)(hfo:P.follows .mixedOrders=true)(hsl:Jx.slotsB l.toArray=true)
  (hp:Jx.preB l.toArray (fun i=>pre.getD i [])=true) (hpe:pre.all (·.all ev.contains)=true) (hev:ev.all (· < (l.take m).length)=true) (hsuf:Jx.sufB l.toArray tp (l.take m).length=true)
  (hwalk:∃ h',ExDs ev fun De=>∀ bs y,Zh P C N l m De al pre ev ⟨a,fun _=>h',fun _=>k,fun _=>.any⟩ h k Q bs y 0 (l.take m) (KdL t)):wpD P C N (.region id l.toArray true) ⟨t,h,k⟩ Q:=
 let ⟨h',hwalk⟩:=hwalk;Klp m al pre ev tp ⟨a,fun _=>h',fun _=>k,fun _=>.any⟩ hfo hsl hp hpe hev hsuf hwalk
end
section
variable {P : Program} {C : Ctx} {N : Nat} {l : List Oper} {m : Nat} {De : Nat → D} {al : AL} {pre : List (List Nat)} {ev : List Nat} {h : List (Nat × Blk)} {k : List (Nat × Value)} {Q : Exit → S → Prop} {bs : Nat → Nat} {i : Nat} {o : Oper} {rest : List Oper} {te : TE}
theorem z_E {j:Nat}{p:List Nat}{t:List (Nat×D)}{d:D}(hp:pre.getD i []=p)(ht:vis p te=t)(hx:ExE P o t d)(hw:wantD l (vis [] te) o=some true)(hd:o.dst=some j)(hi:Nat.blt j N=true)(he:ev.contains i=true)(hna:isAl al i=false)(hDe:De i=d)
  (g:Zw P C N l m De al pre ev h k Q bs (i+1) rest ((j,d,some i)::te)):Zw P C N l m De al pre ev h k Q bs i (o::rest) te:=
 Kj1 hp hw hd hi he hna hDe (fun _ H a w c kt=>by
  obtain ⟨r,w',H',h1,h2,b⟩:=hx H a w c.ag (ht ▸ kt);exact Kcb h1 ⟨H',h2.le,h2,b⟩) g
end
section
variable {P : Program} {C : Ctx} {N : Nat} {l : List Oper} {m : Nat} {De : Nat → D} {al : AL} {pre : List (List Nat)} {ev : List Nat} {h : List (Nat × Blk)} {k : List (Nat × Value)} {Q : Exit → S → Prop} {bs : Nat → Nat} {i : Nat} {o : Oper} {rest : List Oper} {te : TE}
theorem z_event2 {j:Nat}{p:List Nat}{d:D}(hp:pre.getD i []=p)(hw:wantD l (vis [] te) o=some true)(hd:o.dst=some j)(hi:Nat.blt j N=true)(he:ev.contains i=true)(hna:isAl al i=false)(hDe:De i=d)
  (hx:∀ hh H a w,Core C H (h++hh) k w→TOK H (vis p te) a→Jx.Gives P o a w fun v w'=>∃ H',H.le H'∧Core C H' (h++hh) k w'∧Rep H' d v)
  (g:Zw P C N l m De al pre ev h k Q bs (i+1) rest ((j,d,some i)::te)):Zw P C N l m De al pre ev h k Q bs i (o::rest) te:=by
 intro H0 vals a hbs kt hN hdf;subst hDe;refine ⟨vals i,?_,?_⟩
 ·unfold Jx.OK;rw [Ka2 (KcX hbs kt) hw,if_pos rfl,if_pos he];refine ⟨rfl,?_⟩;rintro S w ⟨H,hle,c,hev⟩ hSi hpS;replace hpS:∀ k∈pre.getD i [],S k=true:=hpS;rw [hp] at hpS;refine (hx _ H a w c (Kca hbs kt hle fun e he b=>hev e (hpS e (by simpa using he)) b)).mono ?_;rintro v w' ⟨H',hle',c',hr⟩;have hal:Kap al (Jx.upd S i true) (Jx.upd vals i v)=Kap al S vals:=KaV fun e hea=>by
   have:e ≠ i:=fun q=>by rw [q,hna] at hea;cases hea
   exact ⟨Jx.upd_ne _ _ this,fun _=>Jx.upd_ne _ _ this⟩
  refine ⟨H',Hp.le_trans hle hle',by rw [hal];exact c',fun e hes hee=>?_⟩;by_cases hei:e=i
  ·subst hei;rw [Jx.upd_same];exact ⟨fun q=>(by rw [hna] at q;cases q),fun _=>hr⟩
  rw [Jx.upd_ne _ _ hei] at hes ⊢;exact ⟨(hev e hes hee).1,fun q=>((hev e hes hee).2 q).mono hle'⟩
 rw [hd];refine g H0 vals _ hbs (kt.put (by rw [hN];simpa using hi) (fun q=>by cases q) (fun e q=>?_)) ?_ hdf
 ·cases q;exact ⟨rfl,by unfold dE;rw [hna];rfl,he⟩
 simp only [Act.put,Array.size_setIfInBounds];exact hN
theorem Kfj {f:FuncId}{args:List Operand}{ts:Array TypeId}{j:Nat}{p:List Nat}{t:List (Nat×D)}{ds ds':List D}{d:D}{x:Nat×Blk}(b:Nat)(hp:pre.getD i []=p)(ht:vis p te=t)(hc:CallsD P f ds' [x] [] (fun d' h k=>d'=d∧h=[x]∧k=[]))(ho:o.op=.call ⟨.value (.func f),args.toArray,ts⟩)
  (ha:Kb3 args (opD t)=some ds) (hwk:WkL ds ds') (hb:h[b]? = some x) (hw:wantD l (vis [] te) o=some true) (hd:o.dst=some j) (hi:Nat.blt j N=true) (he:ev.contains i=true) (hna:isAl al i=false) (hDe:De i=d)
  (g:Zw P C N l m De al pre ev h k Q bs (i+1) rest ((j,d,some i)::te)):Zw P C N l m De al pre ev h k Q bs i (o::rest) te:=
 z_event2 hp hw hd hi he hna hDe (fun hh H a w c kt=>by
  subst ht;unfold Jx.Gives;rw [Kd1 ho hc.1];simp only [];have hv:=hwk H _ (Kco kt ha);rw [List.map_toArray];have hbl:b < h.length:=(List.getElem?_eq_some_iff.1 hb).1;have n:(h++hh)[b]? = some x:=by rw [List.getElem?_append_left hbl];exact hb
  have c1:=c.perm (KZ n) (List.Perm.refl k);have hblk:=c.blks _ (List.mem_of_getElem? n);have nd:=(KbM [x] ((h++hh).eraseIdx b) [] k).nodup_iff.1 (by simpa using c1.nd);rw [List.nodup_append] at nd;refine (hc.2 H w _ hv c.ag (by simpa using hblk) (by simp) nd.1).mono ?_;rintro e w' ⟨v,H',d',h',k',rfl,hr,hcore,rfl,rfl,rfl⟩;refine ⟨v,rfl,H',hcore.le,?_,hr⟩;have c2:=Core.call (h1:=[x]) (k1:=[]) (h2:=(h++hh).eraseIdx b) (k2:=k) c1 hcore;exact c2.perm (KZ n).symm (List.Perm.refl k)) g
end
theorem reps_set {H:Hp}{d:D}:∀ {ds:List D} {us:List Value} (off:Nat) {u:Value},Reps H ds us→us[off]? = some u→(RepC H d [u]∧d.flat=true)→Reps H (ds.set off d) us
 | [],us,off,u,h,e,_=>by simp only [Reps] at h;subst h;simp at e
 |
  d0::ds,us,off,u,h,e,hd=>by
  simp only [Reps] at h;obtain ⟨a,us',rfl,h1,h2⟩:=h;cases off with
  |
   zero=>
   simp only [List.getElem?_cons_zero,Option.some.injEq] at e;subst e;simp only [List.set_cons_zero,Reps];exact ⟨a,us',rfl,⟨hd.1,h1.2.1,hd.2⟩,h2⟩
  |
   succ off=>
   simp only [List.getElem?_cons_succ] at e;simp only [List.set_cons_succ,Reps];exact ⟨a,us',rfl,h1,reps_set off h2 e hd⟩
section
variable {P : Program} {C : Ctx} {N : Nat} {ops rest : List Oper} {o : Oper} {h : List (Nat × Blk)} {k : List (Nat × Value)} {Q : Exit → S → Prop} {tab : List (Option TI)} {t : List (Nat × D)}
end
end
section
open Go
abbrev FL:=List (Nat×Nat×List D)
def isF (fl:FL)(i:Nat):Bool:=fl.any fun x=>Nat.beq x.2.1 i
def Kdd (fl:FL)(S:Nat→Bool)(e:Nat)(zs:List D):List D:=
 match fl with
 | []=>zs
 | (a,s,ds)::fl=>bif Nat.beq a e && S s then ds else Kdd fl S e zs
def alS (fl:FL)(S:Nat→Bool)(al:AL):AL:=al.map fun x=>(x.1,Kdd fl S x.1 x.2.1,x.2.2)
theorem Ki6 {fl:FL}{S:Nat→Bool}{al:AL}{e:Nat}:isAl (alS fl S al) e=isAl al e:=by
 unfold isAl alS;rw [List.any_map];rfl
theorem KkN {S:Nat→Bool}{i e:Nat}{zs:List D}:∀ {fl:FL},isF fl i=false→Kdd fl (Jx.upd S i true) e zs=Kdd fl S e zs
 | [],_=>rfl
 |
  (a,s,ds)::fl,h=>by
  unfold isF at h;simp only [List.any_cons,Bool.or_eq_false_iff] at h;have hs:s ≠ i:=Nat.ne_of_beq_eq_false h.1;unfold Kdd;rw [Jx.upd_ne _ _ hs,KkN (fl:=fl) h.2]
theorem alS_upd {fl:FL}{S:Nat→Bool}{al:AL}{i:Nat}(h:isF fl i=false):alS fl (Jx.upd S i true) al=alS fl S al:=by
 unfold alS;exact List.map_congr_left fun x _=>by rw [KkN h]
theorem KjJ {S:Nat→Bool}{e:Nat}{zs:List D}:∀ {fl:FL},(∀ x∈fl,x.1=e→S x.2.1=false)→Kdd fl S e zs=zs
 | [],_=>rfl
 |
  (a,s,ds)::fl,h=>by
  unfold Kdd;have ih:=KjJ (fl:=fl) (zs:=zs) (S:=S) (e:=e) fun x hx=>h x (by simp [hx])
  cases hb:Nat.beq a e with
  | false=>simpa using ih
  |
   true=>
   have:=h (a,s,ds) (by simp) (Nat.eq_of_beq_eq_true hb);simp only at this;rw [this];simpa using ih
theorem KkO {S:Nat→Bool}{vals:Nat→Value}{e:Nat}{d1 d2:List D}{T:TypeId}(hS:S e=true):∀ {al1 al2:AL},al1.length=al2.length→(∀ (j:Nat) (x y:Nat×List D×TypeId),al1[j]? = some x→al2[j]? = some y→x.1=y.1∧x.2.2=y.2.2∧(x.1 ≠ e→x=y)∧(x.1=e→x=(e,d1,T)∧y=(e,d2,T)))→(al1.map (·.1)).Nodup→isAl al1 e=true →
  ∃ j,(Kap al1 S vals)[j]? = some (blk (vals e),.cells d1 T)∧Kap al2 S vals=(Kap al1 S vals).set j (blk (vals e),.cells d2 T)
 | [],_,_,_,_,h=>by cases h
 | _::_,[],h,_,_,_=>by cases h
 |
  (b,c1,p)::l1,(r,c2,s)::l2,hl,hc,hn,hi=>by
  have h0:=hc 0 _ _ rfl rfl;simp only at h0;obtain ⟨rfl,u,g,n⟩:=h0;simp only [List.map_cons,List.nodup_cons] at hn;have hrest:∀ (j:Nat) (x y:Nat×List D×TypeId),l1[j]? = some x→l2[j]? = some y→x.1=y.1∧x.2.2=y.2.2∧(x.1 ≠ e→x=y)∧(x.1=e→x=(e,d1,T)∧y=(e,d2,T)):=fun j x y hx hy=>hc (j+1) x y (by simpa using hx) (by simpa using hy)
  have hlen:l1.length=l2.length:=by simpa using hl
  by_cases he:b=e
  ·obtain ⟨a,c⟩:=n he;simp only [Prod.mk.injEq] at a c;obtain ⟨_,rfl,rfl⟩:=a;obtain ⟨_,rfl,rfl⟩:=c;subst he;have same:l1=l2:=by
    apply List.ext_getElem?;intro j;cases hx:l1[j]? with
    | none=>rw [List.getElem?_eq_none_iff] at hx;rw [List.getElem?_eq_none_iff.2 (by omega)]
    |
     some x=>
     obtain ⟨hjl,hxe⟩:=List.getElem?_eq_some_iff.1 hx;have hy:l2[j]? = some (l2[j]'(by omega)):=List.getElem?_eq_getElem _;have:=(hrest j x _ hx hy).2.2.1 fun q=>hn.1 (List.mem_map.2 ⟨x,List.mem_of_getElem? hx,q⟩)
     rw [hy,this]
   subst same;refine ⟨0,?_,?_⟩
   ·simp only [Kap,hS,cond_true];rfl
   simp only [Kap,hS,cond_true];rfl
  have a:=g he;simp only [Prod.mk.injEq,true_and] at a;obtain ⟨rfl,rfl⟩:=a;have hi':isAl l1 e=true:=by
   unfold isAl at hi ⊢;simp only [List.any_cons,Bool.or_eq_true,beq_iff_eq] at hi ⊢;rcases hi with h|h
   ·exact absurd h he
   exact h
  obtain ⟨j,d,f⟩:=KkO (vals:=vals) hS hlen hrest hn.2 hi';cases hs:S b with
  |
   true=>
   refine ⟨j+1,?_,?_⟩
   ·simp only [Kap,hs,cond_true,List.getElem?_cons_succ];exact d
   simp only [Kap,hs,cond_true,List.set_cons_succ,f]
  |
   false=>
   refine ⟨j,?_,?_⟩
   ·simp only [Kap,hs,cond_false];exact d
   simp only [Kap,hs,cond_false];exact f
section
variable (P : Program) (C : Ctx) (N : Nat) (l : List Oper) (m : Nat) (De : Nat → D) (al : AL) (fl : FL) (pre : List (List Nat)) (ev : List Nat) (h : List (Nat × Blk)) (k : List (Nat × Value)) (Q : Exit → S → Prop)
def Cf (H0:Hp)(S:Nat→Bool)(vals:Nat→Value)(w:World):Prop:=
 ∃ H,H0.le H∧(∀ e,S e=true→ev.contains e=true→∀ p∈pre.getD e [],S p=true)∧Core C H (h++Kap (alS fl S al) S vals) k w∧∀ e,S e=true→ev.contains e=true→(isAl al e=true→vals e=.pointer (some ⟨blk (vals e),0,none⟩))∧(isAl al e=false→Rep H (De e) (vals e))
def finF (H0:Hp)(vals:Nat→Value)(a:Act):Prop:=∀ S w,(∀ i,ev.contains i=true→S i=true)→Cf C De al fl pre ev h k H0 S vals w→wpList P l.toArray (QD C N Q) (l.drop m) a w
def Zf (bs:Nat→Nat)(i:Nat)(rest:List Oper)(te:TE):Prop:=
 ∀
  H0 vals a,(∀ e,bs e=blk (vals e))→TOKz De al ev H0 bs vals te a→a.tmps.size=N→a.defers=[] →
  Jx.Lx P l.toArray (Cf C De al fl pre ev h k H0) (fun i=>pre.getD i []) (fun i=>ev.contains i) vals (finF P C N l m De al fl pre ev h k Q H0 vals) i rest a
end
section
variable {P : Program} {C : Ctx} {N : Nat} {l : List Oper} {m : Nat} {De : Nat → D} {al : AL} {fl : FL} {pre : List (List Nat)} {ev : List Nat} {h : List (Nat × Blk)} {k : List (Nat × Value)} {Q : Exit → S → Prop} {tab : List (Option TI)} {bs : Nat → Nat} {i : Nat} {o : Oper} {rest : List Oper} {te : TE}
theorem zf_nil {t':List (Nat×D)}{h':List (Nat×Blk)}(b:vis ev te=t')(d:(h++(alS fl (fun _=>true) al).map fun x=>(bs x.1,Blk.cells x.2.1 x.2.2))=h')(hfe:fl.all (fun x=>ev.contains x.2.1)=true)(hal:∀ e,isAl al e=true→ev.contains e=true)(g:opsD P C N l (l.drop m) ⟨t',h',k⟩ Q):Zf P C N l m De al fl pre ev h k Q bs i [] te:=by
 intro H0 vals a hbs kt hN hdf S w hS hC;obtain ⟨H,hle,_,c,hev⟩:=hC;subst b;subst d;refine g a w ⟨H,?_,Kca hbs kt hle fun e _ he=>hev e (hS e he) he,hN,hdf⟩;have hcl:alS fl S al=alS fl (fun _=>true) al:=by
  unfold alS;refine List.map_congr_left fun x _=>?_
  have:∀ fl:FL,fl.all (fun x=>ev.contains x.2.1)=true→Kdd fl S x.1 x.2.1=Kdd fl (fun _=>true) x.1 x.2.1:=by
   intro fl;induction fl with
   | nil=>intro _;rfl
   |
    cons y fl ih=>
    intro hy;simp only [List.all_cons,Bool.and_eq_true] at hy;obtain ⟨ya,ys,yd⟩:=y;unfold Kdd;rw [ih hy.2,hS ys hy.1]
  rw [this fl hfe]
 rw [hcl] at c;rw [Kei fun e he=>hS e (hal e (by rw [Ki6] at he;exact he))] at c;have:(fun x:Nat×List D×TypeId=>(bs x.1,Blk.cells x.2.1 x.2.2))=fun x=>(blk (vals x.1),Blk.cells x.2.1 x.2.2):=by funext x;rw [hbs]
 rw [this];exact c
theorem zf_quiet {j:Nat}{x:Value}{p:List Nat}(hp:pre.getD i []=p)(hw:wantD l (vis [] te) o=some true)(hd:o.dst=some j)(hi:Nat.blt j N=true)(hne:ev.contains i=false)(hone:one x=true)(_hpe:p.all ev.contains=true)
  (hx:∀ hh H a w,Core C H (h++hh) k w→TOK H (vis p te) a→∃ v,(execOp a.eval o).run P w=.ok (.value v) w∧Rep H (.v x) v)
  (g:Zf P C N l m De al fl pre ev h k Q bs (i+1) rest ((j,.v x,none)::te)):Zf P C N l m De al fl pre ev h k Q bs i (o::rest) te:=by
 intro H0 vals a hbs kt hN hdf;refine ⟨x,?_,?_⟩
 ·unfold Jx.OK;rw [Ka2 (KcX hbs kt) hw,if_pos rfl,if_neg (by show ¬ ev.contains i=true;rw [hne];exact Bool.false_ne_true)];rintro S w ⟨H,hle,_,c,hev⟩ hpS;replace hpS:∀ k∈pre.getD i [],S k=true:=hpS;rw [hp] at hpS;obtain ⟨v,h1,h2⟩:=hx _ H a w c (Kca hbs kt hle fun e he b=>hev e (hpS e (by simpa using he)) b);rw [KW h2] at h1;exact h1
 rw [hd];refine g H0 vals _ hbs (kt.put (by rw [hN];simpa using hi) (fun _ H _=>rep_v hone) (fun e he=>by cases he)) ?_ hdf;simp only [Act.put,Array.size_setIfInBounds];exact hN
theorem Klq {S:Nat→Bool}{vals:Nat→Value}{r:Value}(hna:isAl al i=false)(hnf:isF fl i=false):Kap (alS fl (Jx.upd S i true) al) (Jx.upd S i true) (Jx.upd vals i r)=Kap (alS fl S al) S vals:=by
 rw [alS_upd hnf];refine KaV fun e hea=>?_
 rw [Ki6] at hea;have:e ≠ i:=fun q=>by rw [q,hna] at hea;cases hea
 exact ⟨Jx.upd_ne _ _ this,fun _=>Jx.upd_ne _ _ this⟩
theorem Kku {j:Nat}{p:List Nat}{d:D}(hp:pre.getD i []=p)(hw:wantD l (vis [] te) o=some true)(hd:o.dst=some j)(hi:Nat.blt j N=true)(he:ev.contains i=true)(hna:isAl al i=false)(hnf:isF fl i=false)(hDe:De i=d)
  (hx:∀ hh H a w,Core C H (h++hh) k w→TOK H (vis p te) a→Jx.Gives P o a w fun v w'=>∃ H',H.le H'∧Core ⟨H,w,[]⟩ H' [] [] w'∧Rep H' d v)
  (g:Zf P C N l m De al fl pre ev h k Q bs (i+1) rest ((j,d,some i)::te)):Zf P C N l m De al fl pre ev h k Q bs i (o::rest) te:=by
 intro H0 vals a hbs kt hN hdf;subst hDe;refine ⟨vals i,?_,?_⟩
 ·unfold Jx.OK;rw [Ka2 (KcX hbs kt) hw,if_pos rfl,if_pos he];refine ⟨rfl,?_⟩;rintro S w ⟨H,hle,hdn,c,hev⟩ hSi hpS;replace hpS:∀ k∈pre.getD i [],S k=true:=hpS;have hpS':=hpS;rw [hp] at hpS;refine (hx _ H a w c (Kca hbs kt hle fun e he b=>hev e (hpS e (by simpa using he)) b)).mono ?_;rintro v w' ⟨H',hle',c',hr⟩;refine ⟨H',Hp.le_trans hle hle',Kep hdn hpS',?_,fun e hes hee=>?_⟩
  ·rw [Klq hna hnf];have:=Core.call (h1:=[]) (k1:=[]) (h2:=h++Kap (alS fl S al) S vals) (k2:=k) c c';simpa using this
  by_cases hei:e=i
  ·subst hei;rw [Jx.upd_same];exact ⟨fun q=>(by rw [hna] at q;cases q),fun _=>hr⟩
  rw [Jx.upd_ne _ _ hei] at hes ⊢;exact ⟨(hev e hes hee).1,fun q=>((hev e hes hee).2 q).mono hle'⟩
 rw [hd];refine g H0 vals _ hbs (kt.put (by rw [hN];simpa using hi) (fun q=>by cases q) (fun e q=>?_)) ?_ hdf
 ·cases q;exact ⟨rfl,by unfold dE;rw [hna];rfl,he⟩
 simp only [Act.put,Array.size_setIfInBounds];exact hN
theorem zf_new {j:Nat}{p:List Nat}{ds:List D}{T:TypeId}(hp:pre.getD i []=p)(hw:wantD l (vis [] te) o=some true)(hd:o.dst=some j)(hi:Nat.blt j N=true)(he:ev.contains i=true)(hnf:isF fl i=false)(hfp:fl.all (fun x=>ev.contains x.2.1 && (!Nat.beq x.1 i || (pre.getD x.2.1 []).any (Nat.beq i)))=true)(hia:(i,ds,T)∈al)(hnd:(al.map (·.1)).Nodup)
  (hx:∀ hh H a w,Core C H (h++hh) k w→TOK H (vis p te) a→∃ us,(execOp a.eval o).run P w=.ok (.value (.pointer (some ⟨w.heap.size,0,none⟩))) (w.alloc (.cells (List.toArray us) T))∧Reps H ds us)
  (g:Zf P C N l m De al fl pre ev h k Q bs (i+1) rest ((j,.ptr (bs i) 0,some i)::te)):Zf P C N l m De al fl pre ev h k Q bs i (o::rest) te:=by
 intro H0 vals a hbs kt hN hdf;have hisal:isAl al i=true:=List.any_eq_true.2 ⟨_,hia,by simp⟩;refine ⟨vals i,?_,?_⟩
 ·unfold Jx.OK;rw [Ka2 (KcX hbs kt) hw,if_pos rfl,if_pos he];refine ⟨rfl,?_⟩;rintro S w ⟨H,hle,hdn,c,hev⟩ hSi hpS;replace hpS:∀ k∈pre.getD i [],S k=true:=hpS;have hpS':=hpS;rw [hp] at hpS;obtain ⟨us,h1,h2⟩:=hx _ H a w c (Kca hbs kt hle fun e he d=>hev e (hpS e (by simpa using he)) d);unfold Jx.Gives;rw [h1];refine ⟨H,hle,Kep hdn hpS',?_,fun e hes hee=>?_⟩
  ·have c':=c.alloc T h2;refine c'.perm ?_ (List.Perm.refl _);rw [List.append_assoc,alS_upd hnf];have hz:Kdd fl S i ds=ds:=KjJ fun x hx hxi=>by
    have:=List.all_eq_true.1 hfp x hx;simp only [Bool.and_eq_true,Bool.or_eq_true,Bool.not_eq_true'] at this;obtain ⟨f,b⟩:=this;rcases b with b|b
    ·exact absurd hxi (Nat.ne_of_beq_eq_false b)
    cases hs:S x.2.1 with
    | false=>rfl
    |
     true=>
     obtain ⟨z,n,r⟩:=List.any_eq_true.1 b;have:=hdn x.2.1 hs f z n;rw [← Nat.eq_of_beq_eq_true r,hSi] at this;cases this
   have hin:(i,ds,T)∈alS fl S al:=by
    unfold alS;exact List.mem_map.2 ⟨_,hia,by simp only [hz]⟩
   have hnd':((alS fl S al).map (·.1)).Nodup:=by
    unfold alS;rw [List.map_map];exact hnd
   exact List.Perm.append_left h (Ki5 (v:=.pointer (some ⟨w.heap.size,0,none⟩)) (vals:=vals) hSi hin hnd').symm
  by_cases hei:e=i
  ·subst hei;rw [Jx.upd_same];exact ⟨fun _=>rfl,fun q=>(by rw [hisal] at q;cases q)⟩
  rw [Jx.upd_ne _ _ hei] at hes ⊢;exact hev e hes hee
 rw [hd];refine g H0 vals _ hbs (kt.put (by rw [hN];simpa using hi) (fun q=>by cases q) (fun e q=>?_)) ?_ hdf
 ·cases q;exact ⟨rfl,by unfold dE;rw [hisal];rfl,he⟩
 simp only [Act.put,Array.size_setIfInBounds];exact hN
theorem KkP {S:Nat→Bool}{e i:Nat}{zs:List D}:∀ {fl:FL},fl.all (fun x=>Nat.beq x.1 e==Nat.beq x.2.1 i)=true→Kdd fl (Jx.upd S i true) e zs=Kdd fl (fun s=>Nat.beq s i) e zs
 | [],_=>rfl
 |
  (a,s,ds)::fl,h=>by
  simp only [List.all_cons,Bool.and_eq_true,beq_iff_eq] at h;unfold Kdd;rw [KkP (fl:=fl) h.2];cases hb:Nat.beq a e with
  | false=>rfl
  |
   true=>
   have:=Nat.eq_of_beq_eq_true (h.1.symm.trans hb);subst this;rw [Jx.upd_same,Nat.beq_refl]
theorem KkQ {S:Nat→Bool}{e e' i:Nat}{zs:List D}(hne:e' ≠ e):∀ {fl:FL},fl.all (fun x=>Nat.beq x.1 e==Nat.beq x.2.1 i)=true→Kdd fl (Jx.upd S i true) e' zs=Kdd fl S e' zs
 | [],_=>rfl
 |
  (a,s,ds)::fl,h=>by
  simp only [List.all_cons,Bool.and_eq_true,beq_iff_eq] at h;unfold Kdd;rw [KkQ hne (fl:=fl) h.2];cases hb:Nat.beq a e' with
  | false=>rfl
  |
   true=>
   have ha:=Nat.eq_of_beq_eq_true hb;subst ha;have:s ≠ i:=fun q=>by
    subst q;have h1:=h.1;rw [Nat.beq_refl] at h1;exact hne (Nat.eq_of_beq_eq_true h1)
   rw [Jx.upd_ne _ _ this]
theorem Klr {e:Nat}{x y:List D×TypeId}:∀ {al:AL},(al.map (·.1)).Nodup→(e,x)∈al→(e,y)∈al→x=y
 | [],_,h,_=>by cases h
 |
  z::al,hn,h1,h2=>by
  simp only [List.map_cons,List.nodup_cons] at hn;rcases List.mem_cons.1 h1 with a|a<;>rcases List.mem_cons.1 h2 with b|b
  ·have:=a.trans b.symm;simpa using this
  ·exact absurd (List.mem_map.2 ⟨_,b,by rw [← a]⟩) hn.1
  ·exact absurd (List.mem_map.2 ⟨_,a,by rw [← b]⟩) hn.1
  exact Klr hn.2 a b
theorem Kir {e off:Nat}{T T':TypeId}{x z:Operand}{zs ds':List D}{n:TI}{d:D}{p:List Nat}{t:List (Nat×D)}(hT:TabOK P tab)(hp:pre.getD i []=p)(ht:vis p te=t)(ho:o.op=.store T x z)(hw:wantD l (vis [] te) o=some true)(hd:o.dst=none)(he:ev.contains i=true)(hna:isAl al i=false)
  (hx:opD t x=some (.ptr (bs e) off)) (hpe:p.any (Nat.beq e)=true) (hia:(e,zs,T')∈al) (hnd:(al.map (·.1)).Nodup) (hfo:fl.all (fun x=>Nat.beq x.1 e==Nat.beq x.2.1 i)=true)
  (hti:ti tab T=some n) (hy:opD t z=some d) (hs:stor d=true) (hsz:Nat.beq (Kah d).length n.size=true) (hle:Nat.ble (off+n.size) zs.length=true)
  (F:lay zs off (Kah d)=ds') (f:Kdd fl (fun s=>Nat.beq s i) e zs=ds') (hDe:De i=.any)
  (g:Zf P C N l m De al fl pre ev h k Q bs (i+1) rest te):Zf P C N l m De al fl pre ev h k Q bs i (o::rest) te:=by
 subst F;intro H0 vals a hbs kt hN hdf;refine ⟨vals i,?_,?_⟩
 ·unfold Jx.OK;rw [Ka2 (KcX hbs kt) hw,if_pos rfl,if_pos he];refine ⟨rfl,?_⟩;rintro S w ⟨H,B,hdn,c,hev⟩ hSi hpS;replace hpS:∀ k∈pre.getD i [],S k=true:=hpS;have hpS':=hpS;rw [hp] at hpS;have htok:=ht ▸ Kca hbs kt B fun e he G=>hev e (hpS e (by simpa using he)) G
  have hSe:S e=true:=by
   obtain ⟨q,u,A⟩:=List.any_eq_true.1 hpe;rw [Nat.eq_of_beq_eq_true A];exact hpS q u
  have hz:Kdd fl S e zs=zs:=KjJ fun x hx hxe=>by
   have:=List.all_eq_true.1 hfo x hx;rw [hxe,Nat.beq_refl,beq_iff_eq] at this;rw [Nat.eq_of_beq_eq_true this.symm];exact hSi
  have hisal:isAl (alS fl S al) e=true:=by rw [Ki6];exact List.any_eq_true.2 ⟨_,hia,by simp⟩
  have hnd':((alS fl S al).map (·.1)).Nodup:=by
   unfold alS;rw [List.map_map];exact hnd
  obtain ⟨j,I,J⟩:=KkO (vals:=vals) (e:=e) (d1:=zs) (d2:=lay zs off (Kah d)) (T:=T') hSe (al1:=alS fl S al) (al2:=alS fl (Jx.upd S i true) al) (by simp [alS]) (by
   intro j x y hx hy;unfold alS at hx hy;rw [List.getElem?_map] at hx hy;cases hq:al[j]? with
   | none=>rw [hq] at hx;cases hx
   |
    some q=>
    rw [hq] at hx hy;simp only [Option.map_some,Option.some.injEq] at hx hy;subst hx;subst hy;refine ⟨rfl,rfl,fun hne=>?_,fun heq=>?_⟩
    ·simp only at hne;rw [KkQ hne hfo]
    simp only at heq;obtain ⟨u,A⟩:=q;simp only at heq;subst heq;have:=Klr hnd (List.mem_of_getElem? hq) hia;subst this;simp only;rw [hz,KkP hfo,f];exact ⟨rfl,rfl⟩) hnd' hisal
  have E:(h++Kap (alS fl S al) S vals)[h.length+j]? = some (bs e,.cells zs T'):=by
   rw [List.getElem?_append_right (Nat.le_add_right _ _),Nat.add_sub_cancel_left,I,hbs]
  obtain ⟨us,h1,h2,R⟩:=c.blks _ (List.mem_of_getElem? E);have hv:=Kfh hs (Kae htok hy);have hlen:=Kcu hv;have U:=Kcu h2;have u:=Nat.eq_of_beq_eq_true hsz;have A:=Nat.le_of_ble_eq_true hle;obtain ⟨w',K,henv,L,M,O⟩:=KcL (P:=P) (b:=bs e) (off:=off) (a.eval z).cells.toList 0 w us h1 (by omega) (KeZ hv);have hrun:(Instr.storeAt T (a.eval x) (a.eval z)).run P w=.ok () w':=by
   rw [Kcv (Kae htok hx)];unfold Instr.storeAt;rw [Kw (a:=(⟨bs e,off,none⟩:Addr)) rfl];unfold storeVar;rw [Kw (Kby (ti_ok hT hti)),if_neg (by simp only [Array.length_toList] at hlen;omega)];exact K
  have hex:(execOp a.eval o).run P w=.ok .skip w':=by
   unfold execOp;rw [ho];show ((Instr.storeAt T (a.eval x) (a.eval z)) >>= fun _=>pure Next.skip).run P w=_
   rw [Kw hrun];rfl
  unfold Jx.Gives;rw [hex];have cw:=c.write E henv L M O (by simpa using Ki2 h2 hv off);rw [List.set_append_right _ _ (Nat.le_add_right _ _),Nat.add_sub_cancel_left] at cw;have hal:∀ r,Kap (alS fl (Jx.upd S i true) al) (Jx.upd S i true) (Jx.upd vals i r)=(Kap (alS fl S al) S vals).set j (bs e,.cells (lay zs off (Kah d)) T'):=fun r=>by
   rw [hbs,← J];refine KaV fun e hea=>?_
   rw [Ki6] at hea;have:e ≠ i:=fun q=>by rw [q,hna] at hea;cases hea
   exact ⟨Jx.upd_ne _ _ this,fun _=>Jx.upd_ne _ _ this⟩
  refine ⟨H,B,Kep hdn hpS',by rw [hal];exact cw,fun f hes hee=>?_⟩;by_cases hei:f=i
  ·subst hei;rw [Jx.upd_same];refine ⟨fun q=>(by rw [hna] at q;cases q),fun _=>?_⟩;rw [hDe];simp only [Rep,RepC];exact ⟨trivial,rfl⟩
  rw [Jx.upd_ne _ _ hei] at hes ⊢;exact hev f hes hee
 rw [hd];exact g H0 vals _ hbs kt hN hdf
theorem zf_q {j:Nat}{x:Value}{p:List Nat}{t:List (Nat×D)}(hp:pre.getD i []=p)(ht:vis p te=t)(hx:Ex P o t (.v x))(hw:wantD l (vis [] te) o=some true)(hd:o.dst=some j)(hi:Nat.blt j N=true)(hne:ev.contains i=false)(hone:one x=true)(hpe:p.all ev.contains=true)
  (g:Zf P C N l m De al fl pre ev h k Q bs (i+1) rest ((j,.v x,none)::te)):Zf P C N l m De al fl pre ev h k Q bs i (o::rest) te:=
 zf_quiet hp hw hd hi hne hone hpe (fun _ H a w _ kt=>hx H a w (ht ▸ kt)) g
theorem zf_e {j:Nat}{p:List Nat}{t:List (Nat×D)}{d:D}(hp:pre.getD i []=p)(ht:vis p te=t)(hx:Ex P o t d)(hw:wantD l (vis [] te) o=some true)(hd:o.dst=some j)(hi:Nat.blt j N=true)(he:ev.contains i=true)(hna:isAl al i=false)(hnf:isF fl i=false)(hDe:De i=d)
  (g:Zf P C N l m De al fl pre ev h k Q bs (i+1) rest ((j,d,some i)::te)):Zf P C N l m De al fl pre ev h k Q bs i (o::rest) te:=
 Kku hp hw hd hi he hna hnf hDe (fun _ H a w c kt=>by
  obtain ⟨v,h1,h2⟩:=hx H a w (ht ▸ kt);unfold Jx.Gives;rw [h1];exact ⟨H,Hp.le_refl H,Core.here c.ag,h2⟩) g
theorem zf_qM {j:Nat}{x:Value}{p:List Nat}{t:List (Nat×D)}(hp:pre.getD i []=p)(ht:vis p te=t)(hx:ExM P C h k o t (.v x))(hw:wantD l (vis [] te) o=some true)(hd:o.dst=some j)(hi:Nat.blt j N=true)(hne:ev.contains i=false)(hone:one x=true)(hpe:p.all ev.contains=true)
  (g:Zf P C N l m De al fl pre ev h k Q bs (i+1) rest ((j,.v x,none)::te)):Zf P C N l m De al fl pre ev h k Q bs i (o::rest) te:=
 zf_quiet hp hw hd hi hne hone hpe (fun hh H a w c kt=>hx hh H a w c (ht ▸ kt)) g
theorem zf_eM {j:Nat}{p:List Nat}{t:List (Nat×D)}{d:D}(hp:pre.getD i []=p)(ht:vis p te=t)(hx:ExM P C h k o t d)(hw:wantD l (vis [] te) o=some true)(hd:o.dst=some j)(hi:Nat.blt j N=true)(he:ev.contains i=true)(hna:isAl al i=false)(hnf:isF fl i=false)(hDe:De i=d)
  (g:Zf P C N l m De al fl pre ev h k Q bs (i+1) rest ((j,d,some i)::te)):Zf P C N l m De al fl pre ev h k Q bs i (o::rest) te:=
 Kku hp hw hd hi he hna hnf hDe (fun hh H a w c kt=>by
  obtain ⟨v,h1,h2⟩:=hx hh H a w c (ht ▸ kt);unfold Jx.Gives;rw [h1];exact ⟨H,Hp.le_refl H,Core.here c.ag,h2⟩) g
theorem zf_call {f:FuncId}{args:List Operand}{ts:Array TypeId}{j:Nat}{p:List Nat}{t:List (Nat×D)}{ds ds':List D}{d:D}(hp:pre.getD i []=p)(ht:vis p te=t)(hc:CallsD P f ds' [] [] (fun d' h k=>d'=d∧h=[]∧k=[]))(ho:o.op=.call ⟨.value (.func f),args.toArray,ts⟩)
  (ha:Kb3 args (opD t)=some ds) (hwk:WkL ds ds') (hw:wantD l (vis [] te) o=some true) (hd:o.dst=some j) (hi:Nat.blt j N=true) (he:ev.contains i=true) (hna:isAl al i=false) (hnf:isF fl i=false) (hDe:De i=d)
  (g:Zf P C N l m De al fl pre ev h k Q bs (i+1) rest ((j,d,some i)::te)):Zf P C N l m De al fl pre ev h k Q bs i (o::rest) te:=
 Kku hp hw hd hi he hna hnf hDe (fun hh H a w c kt=>by
  subst ht;unfold Jx.Gives;rw [Kd1 ho hc.1];simp only [];have hv:=hwk H _ (Kco kt ha);rw [List.map_toArray];refine (hc.2 H w _ hv c.ag (by simp) (by simp) (by simp [KP,K0])).mono ?_;rintro e w' ⟨v,H',d',h',k',rfl,hr,hcore,rfl,rfl,rfl⟩;exact ⟨v,rfl,H',hcore.le,hcore,hr⟩) g
theorem KgA {j:Nat}{p:List Nat}{T:TypeId}{b:TI}{zs:List D}(hp:pre.getD i []=p)(hT:TabOK P tab)(ho:o.op=.alloc T)(hw:wantD l (vis [] te) o=some true)(hd:o.dst=some j)(hi:Nat.blt j N=true)(he:ev.contains i=true)(hti:ti tab T=some b)(hz:b.zero.all one=true)(ez:b.zero.map dOf=zs)
  (hnf:isF fl i=false) (hfp:fl.all (fun x=>ev.contains x.2.1 && (!Nat.beq x.1 i || (pre.getD x.2.1 []).any (Nat.beq i)))=true) (hia:(i,zs,T)∈al) (hnd:(al.map (·.1)).Nodup) (g:Zf P C N l m De al fl pre ev h k Q bs (i+1) rest ((j,.ptr (bs i) 0,some i)::te)):Zf P C N l m De al fl pre ev h k Q bs i (o::rest) te:=
 zf_new hp hw hd hi he hnf hfp hia hnd (fun hh H a w c kt=>by
  obtain ⟨z,h1,h2⟩:=Kcr (w:=w) (ti_ok hT hti);refine ⟨z.cells.toList,?_,?_⟩
  ·unfold execOp;rw [ho];refine Kbb ?_;unfold Instr.alloc;rw [Kw h1];simp only [];rw [Kw Kga];simp;first|done|rfl
  rw [h2,← ez];rw [List.all_eq_true] at hz;revert hz;generalize b.zero=d;intro hz;induction d with
  | nil=>simp [Reps]
  |
   cons u d ih=>
   simp only [List.map_cons,Reps];exact ⟨u,d,rfl,⟨(Kgb H u).1,hz u (by simp),(Kgb H u).2⟩,ih (fun x hx=>hz x (by simp [hx]))⟩) g
theorem KgT {id:Nat}{t:List (Nat×D)}(m:Nat)(al:AL)(fl:FL)(pre:List (List Nat))(ev:List Nat)(tp:List (List Nat))(hfo:P.follows .mixedOrders=true)(hsl:Jx.slotsB l.toArray=true)
  (hp:Jx.preB l.toArray (fun i=>pre.getD i [])=true) (hpe:pre.all (·.all ev.contains)=true) (hev:ev.all (· < (l.take m).length)=true) (hsuf:Jx.sufB l.toArray tp (l.take m).length=true)
  (hwalk:ExDs ev fun De=>∀ bs,Zf P C N l m De al fl pre ev h k Q bs 0 (l.take m) (KdL t)):wpD P C N (.region id l.toArray true) ⟨t,h,k⟩ Q:=by
 obtain ⟨De,hwalk⟩:=KfO hwalk;rintro a w ⟨H,c,kt,hN,hdf⟩;have key:=Jx.region_any (P:=P) (Q:=QD C N Q) (id:=id) (w:=w) (a0:=a) (l1:=l.take m) (l2:=l.drop m) (Cf C De al fl pre ev h k H) (fun i=>pre.getD i []) (fun i=>ev.contains i) tp hfo (by rw [List.take_append_drop];exact hsl) (by rw [List.take_append_drop];exact hp) ?_ ?_
  (by rw [List.take_append_drop];exact hsuf) ?_ ?_ ?_
 ·rw [List.take_append_drop] at key;exact key
 ·intro i k hk;rw [List.all_eq_true] at hpe;by_cases hi:i < pre.length
  ·have e:pre.getD i []=pre[i]:=by simp [hi]
   rw [e] at hk;exact List.all_eq_true.1 (hpe _ (List.getElem_mem hi)) k hk
  have e:pre.getD i []=[]:=by simp [Nat.le_of_not_lt hi]
  rw [e] at hk;cases hk
 ·intro i hi;rw [List.all_eq_true] at hev;simpa using hev i (by simpa using hi)
 ·rintro S vals vals' w hv ⟨H',hle,hdn,c',hr⟩;refine ⟨H',hle,hdn,?_,fun e hes hee=>?_⟩
  ·rw [← KaV (S:=S) (S':=S) (vals:=vals) (vals':=vals') fun e _=>⟨rfl,hv e⟩];exact c'
  rw [← hv e hes];exact hr e hes hee
 ·intro vals;refine ⟨H,Hp.le_refl H,(fun e he=>by cases he),?_,fun e he=>by cases he⟩;rw [KdT,List.append_nil];exact c.drew
 intro vals;rw [List.take_append_drop];exact hwalk (fun e=>blk (vals e)) H vals a (fun _=>rfl) (fun j d o e=>by
  obtain ⟨h1,h2⟩:=Kej e;obtain ⟨v,b,f⟩:=kt j d h1;exact ⟨v,b,fun _ H' hle=>f.mono hle,fun e he=>by rw [h2] at he;cases he⟩) hN hdf
end
end
section
open Go
section
variable {P : Program} {C : Ctx} {N : Nat} {l : List Oper} {m : Nat} {De : Nat → D} {al : AL} {fl : FL} {pre : List (List Nat)} {ev : List Nat} {h : List (Nat × Blk)} {k : List (Nat × Value)} {Q : Exit → S → Prop} {tab : List (Option TI)} {bs : Nat → Nat} {i : Nat} {o : Oper} {rest : List Oper} {te : TE}
theorem zf_event2 {j:Nat}{p:List Nat}{d:D}(hp:pre.getD i []=p)(hw:wantD l (vis [] te) o=some true)(hd:o.dst=some j)(hi:Nat.blt j N=true)(he:ev.contains i=true)(hna:isAl al i=false)(hnf:isF fl i=false)(hDe:De i=d)
  (hx:∀ hh H a w,Core C H (h++hh) k w→TOK H (vis p te) a→Jx.Gives P o a w fun v w'=>∃ H',H.le H'∧Core C H' (h++hh) k w'∧Rep H' d v)
  (g:Zf P C N l m De al fl pre ev h k Q bs (i+1) rest ((j,d,some i)::te)):Zf P C N l m De al fl pre ev h k Q bs i (o::rest) te:=by
 intro H0 vals a hbs kt hN hdf;subst hDe;refine ⟨vals i,?_,?_⟩
 ·unfold Jx.OK;rw [Ka2 (KcX hbs kt) hw,if_pos rfl,if_pos he];refine ⟨rfl,?_⟩;rintro S w ⟨H,hle,hdn,c,hev⟩ hSi hpS;replace hpS:∀ k∈pre.getD i [],S k=true:=hpS;have hpS':=hpS;rw [hp] at hpS;refine (hx _ H a w c (Kca hbs kt hle fun e he b=>hev e (hpS e (by simpa using he)) b)).mono ?_;rintro v w' ⟨H',hle',c',hr⟩;refine ⟨H',Hp.le_trans hle hle',Kep hdn hpS',?_,fun e hes hee=>?_⟩
  ·rw [Klq hna hnf];exact c'
  by_cases hei:e=i
  ·subst hei;rw [Jx.upd_same];exact ⟨fun q=>(by rw [hna] at q;cases q),fun _=>hr⟩
  rw [Jx.upd_ne _ _ hei] at hes ⊢;exact ⟨(hev e hes hee).1,fun q=>((hev e hes hee).2 q).mono hle'⟩
 rw [hd];refine g H0 vals _ hbs (kt.put (by rw [hN];simpa using hi) (fun q=>by cases q) (fun e q=>?_)) ?_ hdf
 ·cases q;exact ⟨rfl,by unfold dE;rw [hna];rfl,he⟩
 simp only [Act.put,Array.size_setIfInBounds];exact hN
theorem Kkv {f:FuncId}{args:List Operand}{ts:Array TypeId}{j:Nat}{p:List Nat}{t:List (Nat×D)}{ds ds':List D}{d:D}{x:Nat×Blk}(b:Nat)(hp:pre.getD i []=p)(ht:vis p te=t)(hc:CallsD P f ds' [x] [] (fun d' h k=>d'=d∧h=[x]∧k=[]))(ho:o.op=.call ⟨.value (.func f),args.toArray,ts⟩)
  (ha:Kb3 args (opD t)=some ds) (hwk:WkL ds ds') (hb:h[b]? = some x) (hw:wantD l (vis [] te) o=some true) (hd:o.dst=some j) (hi:Nat.blt j N=true) (he:ev.contains i=true) (hna:isAl al i=false) (hnf:isF fl i=false) (hDe:De i=d)
  (g:Zf P C N l m De al fl pre ev h k Q bs (i+1) rest ((j,d,some i)::te)):Zf P C N l m De al fl pre ev h k Q bs i (o::rest) te:=
 zf_event2 hp hw hd hi he hna hnf hDe (fun hh H a w c kt=>by
  subst ht;unfold Jx.Gives;rw [Kd1 ho hc.1];simp only [];have hv:=hwk H _ (Kco kt ha);rw [List.map_toArray];have hbl:b < h.length:=(List.getElem?_eq_some_iff.1 hb).1;have n:(h++hh)[b]? = some x:=by rw [List.getElem?_append_left hbl];exact hb
  have c1:=c.perm (KZ n) (List.Perm.refl k);have hblk:=c.blks _ (List.mem_of_getElem? n);have nd:=(KbM [x] ((h++hh).eraseIdx b) [] k).nodup_iff.1 (by simpa using c1.nd);rw [List.nodup_append] at nd;refine (hc.2 H w _ hv c.ag (by simpa using hblk) (by simp) nd.1).mono ?_;rintro e w' ⟨v,H',d',h',k',rfl,hr,hcore,rfl,rfl,rfl⟩;refine ⟨v,rfl,H',hcore.le,?_,hr⟩;have c2:=Core.call (h1:=[x]) (k1:=[]) (h2:=(h++hh).eraseIdx b) (k2:=k) c1 hcore;exact c2.perm (KZ n).symm (List.Perm.refl k)) g
end
end
section
open Go
structure Hx (X:Type) where
 e:Nat
 h1:X→List (Nat×Blk)
 k1:X→List (Nat×Value)
 G:X→Prop
section
variable {X : Type} (P : Program) (C : Ctx) (N : Nat) (l : List Oper) (m : Nat) (De : Nat → D) (al : AL) (pre : List (List Nat)) (ev : List Nat) (v : Hx X) (h : List (Nat × Blk)) (k : List (Nat × Value)) (Q : Exit → S → Prop)
def Cx (H0:Hp)(S:Nat→Bool)(vals:Nat→Value)(w:World):Prop:=
 ∃
  H,∃ x:X,(S v.e=true→v.G x)∧H0.le H∧(∀ e,S e=true→ev.contains e=true→∀ p∈pre.getD e [],S p=true)∧Core C H ((bif S v.e then v.h1 x else h)++Kap al S vals) (bif S v.e then v.k1 x else k) w ∧
  ∀ e,S e=true→ev.contains e=true→(isAl al e=true→vals e=.pointer (some ⟨blk (vals e),0,none⟩))∧(isAl al e=false→Rep H (De e) (vals e))
def finX (H0:Hp)(vals:Nat→Value)(a:Act):Prop:=∀ S w,(∀ i,ev.contains i=true→S i=true)→Cx C De al pre ev v h k H0 S vals w→wpList P l.toArray (QD C N Q) (l.drop m) a w
def Zx (bs:Nat→Nat)(i:Nat)(rest:List Oper)(te:TE):Prop:=
 ∀
  H0 vals a,(∀ e,bs e=blk (vals e))→TOKz De al ev H0 bs vals te a→a.tmps.size=N→a.defers=[] →
  Jx.Lx P l.toArray (Cx C De al pre ev v h k H0) (fun i=>pre.getD i []) (fun i=>ev.contains i) vals (finX P C N l m De al pre ev v h k Q H0 vals) i rest a
end
section
variable {X : Type} {P : Program} {C : Ctx} {N : Nat} {l : List Oper} {m : Nat} {De : Nat → D} {al : AL} {pre : List (List Nat)} {ev : List Nat} {v : Hx X} {h : List (Nat × Blk)} {k : List (Nat × Value)} {Q : Exit → S → Prop} {tab : List (Option TI)} {bs : Nat → Nat} {i : Nat} {o : Oper} {rest : List Oper} {te : TE}
theorem zx_nil {t':List (Nat×D)}(b:vis ev te=t')(hv:ev.contains v.e=true)(hal:∀ e,isAl al e=true→ev.contains e=true)(g:∀ x:X,v.G x→opsD P C N l (l.drop m) ⟨t',v.h1 x++al.map (fun x=>(bs x.1,Blk.cells x.2.1 x.2.2)),v.k1 x⟩ Q):Zx P C N l m De al pre ev v h k Q bs i [] te:=by
 intro H0 vals a hbs kt hN hdf S w hS hC;obtain ⟨H,x,hG,hle,_,c,hev⟩:=hC;subst b;have hse:=hS _ hv;rw [hse] at c;simp only [cond_true] at c;refine g x (hG hse) a w ⟨H,?_,Kca hbs kt hle fun e _ he=>hev e (hS e he) he,hN,hdf⟩;rw [Kei fun e he=>hS e (hal e he)] at c;have:(fun x:Nat×List D×TypeId=>(bs x.1,Blk.cells x.2.1 x.2.2))=fun x=>(blk (vals x.1),Blk.cells x.2.1 x.2.2):=by funext x;rw [hbs]
 rw [this];exact c
theorem zx_q {j:Nat}{x:Value}{p:List Nat}{t:List (Nat×D)}(hp:pre.getD i []=p)(ht:vis p te=t)(hx:Ex P o t (.v x))(hw:wantD l (vis [] te) o=some true)(hd:o.dst=some j)(hi:Nat.blt j N=true)(hne:ev.contains i=false)(hone:one x=true)(_hpe:p.all ev.contains=true)
  (g:Zx P C N l m De al pre ev v h k Q bs (i+1) rest ((j,.v x,none)::te)):Zx P C N l m De al pre ev v h k Q bs i (o::rest) te:=by
 intro H0 vals a hbs kt hN hdf;refine ⟨x,?_,?_⟩
 ·unfold Jx.OK;rw [Ka2 (KcX hbs kt) hw,if_pos rfl,if_neg (by show ¬ ev.contains i=true;rw [hne];exact Bool.false_ne_true)];rintro S w ⟨H,x,hG,hle,_,c,hev⟩ hpS;replace hpS:∀ k∈pre.getD i [],S k=true:=hpS;rw [hp] at hpS;obtain ⟨r,h1,h2⟩:=hx H a w (ht ▸ Kca hbs kt hle fun e he b=>hev e (hpS e (by simpa using he)) b);rw [KW h2] at h1;exact h1
 rw [hd];refine g H0 vals _ hbs (kt.put (by rw [hN];simpa using hi) (fun _ H _=>rep_v hone) (fun e he=>by cases he)) ?_ hdf;simp only [Act.put,Array.size_setIfInBounds];exact hN
theorem zx_event {j:Nat}{p:List Nat}{t:List (Nat×D)}{d:D}(hp:pre.getD i []=p)(ht:vis p te=t)
  (b:p.contains v.e=false→∀ hh H a w,Core C H (h++hh) k w→TOK H t a→Jx.Gives P o a w fun r w'=>∃ H',Core ⟨H,w,[]⟩ H' [] [] w'∧Rep H' d r)
  (f:(pre.getD v.e []).contains i=false→∀ (x:X),v.G x→∀ hh H a w,Core C H (v.h1 x++hh) (v.k1 x) w→TOK H t a→Jx.Gives P o a w fun r w'=>∃ H',Core ⟨H,w,[]⟩ H' [] [] w'∧Rep H' d r)
  (hw:wantD l (vis [] te) o=some true) (hd:o.dst=some j) (hi:Nat.blt j N=true) (he:ev.contains i=true) (n:ev.contains v.e=true) (hna:isAl al i=false) (hnv:Nat.beq i v.e=false) (hDe:De i=d)
  (g:Zx P C N l m De al pre ev v h k Q bs (i+1) rest ((j,d,some i)::te)):Zx P C N l m De al pre ev v h k Q bs i (o::rest) te:=by
 intro H0 vals a hbs kt hN hdf;subst hDe;have hne:i ≠ v.e:=Nat.ne_of_beq_eq_false hnv;refine ⟨vals i,?_,?_⟩
 ·unfold Jx.OK;rw [Ka2 (KcX hbs kt) hw,if_pos rfl,if_pos he];refine ⟨rfl,?_⟩;rintro S w ⟨H,x,hG,hle,hdn,c,hev⟩ hSi hpS;replace hpS:∀ k∈pre.getD i [],S k=true:=hpS;have hpS':=hpS;rw [hp] at hpS;have htok:=ht ▸ Kca hbs kt hle fun e he s=>hev e (hpS e (by simpa using he)) s
  have key:Jx.Gives P o a w fun r w'=>∃ H',Core ⟨H,w,[]⟩ H' [] [] w'∧Rep H' (De i) r:=by
   cases hs:S v.e with
   |
    false=>
    rw [hs] at c;refine b ?_ _ H a w c htok;cases hc:p.contains v.e with
    | false=>rfl
    | true=>rw [hpS v.e (by simpa using hc)] at hs;cases hs
   |
    true=>
    rw [hs] at c;refine f ?_ x (hG hs) _ H a w c htok;cases hc:(pre.getD v.e []).contains i with
    | false=>rfl
    |
     true=>
     have u:i∈pre.getD v.e []:=by
      rw [List.contains_iff_exists_mem_beq] at hc;obtain ⟨z,hz,hb⟩:=hc;have:i=z:=by simpa using hb
      rw [this];exact hz
     rw [hdn v.e hs n i u] at hSi;cases hSi
  refine key.mono ?_;rintro r w' ⟨H',c',hr⟩;have hal:Kap al (Jx.upd S i true) (Jx.upd vals i r)=Kap al S vals:=KaV fun e hea=>by
   have:e ≠ i:=fun q=>by rw [q,hna] at hea;cases hea
   exact ⟨Jx.upd_ne _ _ this,fun _=>Jx.upd_ne _ _ this⟩
  refine ⟨H',x,fun q=>hG (by rwa [Jx.upd_ne _ _ (Ne.symm hne)] at q),Hp.le_trans hle c'.le,Kep hdn hpS',?_,fun e hes hee=>?_⟩
  ·rw [hal,Jx.upd_ne _ _ (Ne.symm hne)];have:=Core.call (h1:=[]) (k1:=[]) c c';exact this
  by_cases hei:e=i
  ·subst hei;rw [Jx.upd_same];exact ⟨fun q=>(by rw [hna] at q;cases q),fun _=>hr⟩
  rw [Jx.upd_ne _ _ hei] at hes ⊢;exact ⟨(hev e hes hee).1,fun q=>((hev e hes hee).2 q).mono c'.le⟩
 rw [hd];refine g H0 vals _ hbs (kt.put (by rw [hN];simpa using hi) (fun q=>by cases q) (fun e q=>?_)) ?_ hdf
 ·cases q;exact ⟨rfl,by unfold dE;rw [hna];rfl,he⟩
 simp only [Act.put,Array.size_setIfInBounds];exact hN
theorem zx_e {j:Nat}{p:List Nat}{t:List (Nat×D)}{d:D}(hp:pre.getD i []=p)(ht:vis p te=t)(hx:Ex P o t d)(hw:wantD l (vis [] te) o=some true)(hd:o.dst=some j)(hi:Nat.blt j N=true)(he:ev.contains i=true)(b:ev.contains v.e=true)(hna:isAl al i=false)(hnv:Nat.beq i v.e=false)(hDe:De i=d)
  (g:Zx P C N l m De al pre ev v h k Q bs (i+1) rest ((j,d,some i)::te)):Zx P C N l m De al pre ev v h k Q bs i (o::rest) te:=
 zx_event hp ht (fun _ _ H a w c kt=>let ⟨_,h1,h2⟩:=hx H a w kt;Kcb h1 ⟨H,Core.here c.ag,h2⟩) (fun _ _ _ _ H a w c kt=>let ⟨_,h1,h2⟩:=hx H a w kt;Kcb h1 ⟨H,Core.here c.ag,h2⟩) hw hd hi he b hna hnv hDe g
theorem zx_E {j:Nat}{p:List Nat}{t:List (Nat×D)}{d:D}(hp:pre.getD i []=p)(ht:vis p te=t)(hx:ExE P o t d)(hw:wantD l (vis [] te) o=some true)(hd:o.dst=some j)(hi:Nat.blt j N=true)(he:ev.contains i=true)(f:ev.contains v.e=true)(hna:isAl al i=false)(hnv:Nat.beq i v.e=false)(hDe:De i=d)
  (g:Zx P C N l m De al pre ev v h k Q bs (i+1) rest ((j,d,some i)::te)):Zx P C N l m De al pre ev v h k Q bs i (o::rest) te:=
 zx_event hp ht (fun _ _ H a w c kt=>let ⟨_,_,H',h1,h2,b⟩:=hx H a w c.ag kt;Kcb h1 ⟨H',h2,b⟩) (fun _ _ _ _ H a w c kt=>let ⟨_,_,H',h1,h2,b⟩:=hx H a w c.ag kt;Kcb h1 ⟨H',h2,b⟩) hw hd hi he f hna hnv hDe g
theorem zx_M {j:Nat}{p:List Nat}{t:List (Nat×D)}{d:D}(hp:pre.getD i []=p)(ht:vis p te=t)(b:p.contains v.e=false→ExM P C h k o t d)(f:(pre.getD v.e []).contains i=false→∀ x:X,v.G x→ExM P C (v.h1 x) (v.k1 x) o t d)(hw:wantD l (vis [] te) o=some true)(hd:o.dst=some j)(hi:Nat.blt j N=true)(he:ev.contains i=true)(n:ev.contains v.e=true)(hna:isAl al i=false)(hnv:Nat.beq i v.e=false)(hDe:De i=d)
  (g:Zx P C N l m De al pre ev v h k Q bs (i+1) rest ((j,d,some i)::te)):Zx P C N l m De al pre ev v h k Q bs i (o::rest) te:=
 zx_event hp ht (fun q hh H a w c kt=>let ⟨_,h1,h2⟩:=b q hh H a w c kt;Kcb h1 ⟨H,Core.here c.ag,h2⟩) (fun q x hg hh H a w c kt=>let ⟨_,h1,h2⟩:=f q x hg hh H a w c kt;Kcb h1 ⟨H,Core.here c.ag,h2⟩) hw hd hi he n hna hnv hDe g
theorem zx_heavy {p:List Nat}{t:List (Nat×D)}(hp:pre.getD i []=p)(ht:vis p te=t)(hiv:i=v.e)
  (hx:∀ hh H a w,Core C H (h++hh) k w→TOK H t a→Jx.Gives P o a w fun r w'=>∃ H',∃ x:X,v.G x∧H.le H'∧Core C H' (v.h1 x++hh) (v.k1 x) w'∧Rep H' (De v.e) r)
  (hw:wantD l (vis [] te) o=some true) (he:ev.contains i=true) (hna:isAl al i=false) {te':TE} (hd:(∃ j,o.dst=some j∧Nat.blt j N=true∧te'=(j,De v.e,some i)::te)∨(o.dst=none∧te'=te))
  (g:Zx P C N l m De al pre ev v h k Q bs (i+1) rest te'):Zx P C N l m De al pre ev v h k Q bs i (o::rest) te:=by
 subst hiv;intro H0 vals a hbs kt hN hdf;refine ⟨vals v.e,?_,?_⟩
 ·unfold Jx.OK;rw [Ka2 (KcX hbs kt) hw,if_pos rfl,if_pos he];refine ⟨rfl,?_⟩;rintro S w ⟨H,x,hG,hle,hdn,c,hev⟩ hSi hpS;replace hpS:∀ k∈pre.getD v.e [],S k=true:=hpS;have hpS':=hpS;rw [hp] at hpS;have htok:=ht ▸ Kca hbs kt hle fun e he b=>hev e (hpS e (by simpa using he)) b
  rw [hSi] at c;refine (hx _ H a w c htok).mono ?_;rintro r w' ⟨H',x',hG',hle',c',hr⟩;have hal:Kap al (Jx.upd S v.e true) (Jx.upd vals v.e r)=Kap al S vals:=KaV fun e hea=>by
   have:e ≠ v.e:=fun q=>by rw [q,hna] at hea;cases hea
   exact ⟨Jx.upd_ne _ _ this,fun _=>Jx.upd_ne _ _ this⟩
  refine ⟨H',x',fun _=>hG',Hp.le_trans hle hle',Kep hdn hpS',?_,fun e hes hee=>?_⟩
  ·rw [hal,Jx.upd_same];exact c'
  by_cases hei:e=v.e
  ·subst hei;rw [Jx.upd_same];exact ⟨fun q=>(by rw [hna] at q;cases q),fun _=>hr⟩
  rw [Jx.upd_ne _ _ hei] at hes ⊢;exact ⟨(hev e hes hee).1,fun q=>((hev e hes hee).2 q).mono hle'⟩
 rcases hd with ⟨j,hd,hi,rfl⟩|⟨hd,rfl⟩
 ·rw [hd];refine g H0 vals _ hbs (kt.put (by rw [hN];simpa using hi) (fun q=>by cases q) (fun e q=>?_)) ?_ hdf
  ·cases q;exact ⟨rfl,by unfold dE;rw [hna];rfl,he⟩
  simp only [Act.put,Array.size_setIfInBounds];exact hN
 rw [hd];exact g H0 vals _ hbs kt hN hdf
abbrev BK:=List (Nat×Blk)×List (Nat×Value)
theorem Khe {v:Hx BK}{t':List (Nat×D)}{h2 hz:List (Nat×Blk)}{k2:List (Nat×Value)}(a:vis ev te=t')(hv:ev.contains v.e=true)(b:∀ x,v.h1 x=x.1++h2)(c:∀ x,v.k1 x=x.2++k2)(ea:h2++al.map (fun x=>(bs x.1,Blk.cells x.2.1 x.2.2))=hz)
  (hal:∀ e,isAl al e=true→ev.contains e=true) (g:∀ h' k',v.G (h',k')→opsD P C N l (l.drop m) ⟨t',h'++hz,k'++k2⟩ Q):Zx P C N l m De al pre ev v h k Q bs i [] te:=
 zx_nil a hv hal fun x hG=>by
  rw [b,c,List.append_assoc,ea];exact g x.1 x.2 hG
theorem KgB {v:Hx BK}{f:FuncId}{args:List Operand}{ts:Array TypeId}{j:Nat}{p:List Nat}{t:List (Nat×D)}{ds ds':List D}{d:D}{h1 h2:List (Nat×Blk)}{k1 k2:List (Nat×Value)}{R:D→List (Nat×Blk)→List (Nat×Value)→Prop}
  (hp:pre.getD i []=p) (ht:vis p te=t) (hiv:i=v.e) (hc:CallsD P f ds' h1 k1 R) (ho:o.op=.call ⟨.value (.func f),args.toArray,ts⟩) (ha:Kb3 args (opD t)=some ds) (hwk:WkL ds ds')
  (hh:h.Perm (h1++h2)) (hk:k.Perm (k1++k2)) (b:∀ x,v.h1 x=x.1++h2) (n:∀ x,v.k1 x=x.2++k2) (hG:∀ d' h' k',R d' h' k'→v.G (h',k')∧Wk d' d) (hDe:De v.e=d)
  (hw:wantD l (vis [] te) o=some true) (he:ev.contains i=true) (hna:isAl al i=false) (hd:o.dst=some j) (hi:Nat.blt j N=true)
  (g:Zx P C N l m De al pre ev v h k Q bs (i+1) rest ((j,d,some i)::te)):Zx P C N l m De al pre ev v h k Q bs i (o::rest) te:=by
 subst hDe;refine zx_heavy hp ht hiv (fun hh' H a w c kt=>?_) hw he hna (.inl ⟨j,hd,hi,rfl⟩) g;unfold Jx.Gives;rw [Kd1 ho hc.1];simp only [];have hv:=hwk H _ (Kco kt ha);rw [List.map_toArray];have c1:Core C H (h1++(h2++hh')) (k1++k2) w:=c.perm (by rw [← List.append_assoc];exact hh.append_right hh') hk;have nd:=(KbM h1 (h2++hh') k1 k2).nodup_iff.1 c1.nd;rw [List.nodup_append] at nd;refine (hc.2 H w _ hv c.ag (fun q hq=>c1.blks q (List.mem_append_left _ hq)) (fun q hq=>c1.toks q (List.mem_append_left _ hq)) nd.1).mono ?_;rintro e w' ⟨r,H',d',h',k',rfl,hr,hcore,hR⟩;obtain ⟨hg,hwd⟩:=hG d' h' k' hR
 have c2:=Core.call (h1:=h1) (k1:=k1) (h2:=h2++hh') (k2:=k2) c1 hcore;refine ⟨r,rfl,H',(h',k'),hg,hcore.le,?_,hwd H' r hr⟩;rw [b,n,List.append_assoc];exact c2
theorem Kfk {id:Nat}{t:List (Nat×D)}(m:Nat)(al:AL)(pre:List (List Nat))(ev:List Nat)(tp:List (List Nat))(v:Hx X)(x0:X)(hfo:P.follows .mixedOrders=true)(hsl:Jx.slotsB l.toArray=true)
  (hp:Jx.preB l.toArray (fun i=>pre.getD i [])=true) (hpe:pre.all (·.all ev.contains)=true) (hev:ev.all (· < (l.take m).length)=true) (hsuf:Jx.sufB l.toArray tp (l.take m).length=true)
  (hwalk:ExDs ev fun De=>∀ bs,Zx P C N l m De al pre ev v h k Q bs 0 (l.take m) (KdL t)):wpD P C N (.region id l.toArray true) ⟨t,h,k⟩ Q:=by
 obtain ⟨De,hwalk⟩:=KfO hwalk;rintro a w ⟨H,c,kt,hN,hdf⟩;have key:=Jx.region_any (P:=P) (Q:=QD C N Q) (id:=id) (w:=w) (a0:=a) (l1:=l.take m) (l2:=l.drop m) (Cx C De al pre ev v h k H) (fun i=>pre.getD i []) (fun i=>ev.contains i) tp hfo (by rw [List.take_append_drop];exact hsl) (by rw [List.take_append_drop];exact hp) ?_ ?_
  (by rw [List.take_append_drop];exact hsuf) ?_ ?_ ?_
 ·rw [List.take_append_drop] at key;exact key
 ·intro i k hk;rw [List.all_eq_true] at hpe;by_cases hi:i < pre.length
  ·have e:pre.getD i []=pre[i]:=by simp [hi]
   rw [e] at hk;exact List.all_eq_true.1 (hpe _ (List.getElem_mem hi)) k hk
  have e:pre.getD i []=[]:=by simp [Nat.le_of_not_lt hi]
  rw [e] at hk;cases hk
 ·intro i hi;rw [List.all_eq_true] at hev;simpa using hev i (by simpa using hi)
 ·rintro S vals vals' w hv ⟨H',x,hG,hle,hdn,c',hr⟩;refine ⟨H',x,hG,hle,hdn,?_,fun e hes hee=>?_⟩
  ·rw [← KaV (S:=S) (S':=S) (vals:=vals) (vals':=vals') fun e _=>⟨rfl,hv e⟩];exact c'
  rw [← hv e hes];exact hr e hes hee
 ·intro vals;refine ⟨H,x0,(fun q=>by cases q),Hp.le_refl H,(fun e he=>by cases he),?_,fun e he=>by cases he⟩;rw [KdT,List.append_nil];exact c.drew
 intro vals;rw [List.take_append_drop];exact hwalk (fun e=>blk (vals e)) H vals a (fun _=>rfl) (fun j d o e=>by
  obtain ⟨h1,h2⟩:=Kej e;obtain ⟨r,b,f⟩:=kt j d h1;exact ⟨r,b,fun _ H' hle=>f.mono hle,fun e he=>by rw [h2] at he;cases he⟩) hN hdf
end
end
section
open Go
abbrev TL:=List (Nat×Nat)
def isT (tl:TL)(e:Nat):Bool:=tl.any fun x=>x.1==e
def toks (tl:TL)(S:Nat→Bool)(vals:Nat→Value):List (Nat×Value):=
 match tl with
 | []=>[]
 | (e,kk)::tl=>bif S e then (kk,vals e)::toks tl S vals else toks tl S vals
theorem Kg9 {S S':Nat→Bool}{vals vals':Nat→Value}:∀ {tl:TL},(∀ e,isT tl e=true→S e=S' e∧(S e=true→vals e=vals' e))→toks tl S vals=toks tl S' vals'
 | [],_=>rfl
 |
  (e,kk)::tl,h=>by
  have h1:=h e (by simp [isT]);have h2:=Kg9 (tl:=tl) (S:=S) (S':=S') (vals:=vals) (vals':=vals') fun x hx=>h x (by simp only [isT,List.any_cons,Bool.or_eq_true] at hx ⊢;exact .inr hx)
  simp only [toks,h1.1,h2];cases hs:S' e with
  | true=>rw [h1.2 (h1.1.trans hs)]
  | false=>rfl
theorem Kls {vals:Nat→Value}:∀ {tl:TL},toks tl (fun _=>false) vals=[]
 | []=>rfl
 | (e,kk)::tl=>by simp only [toks,cond_false];exact Kls
theorem toks_all {S:Nat→Bool}{vals:Nat→Value}:∀ {tl:TL},(∀ e,isT tl e=true→S e=true)→toks tl S vals=tl.map fun x=>(x.2,vals x.1)
 | [],_=>rfl
 |
  (e,kk)::tl,h=>by
  have h2:=toks_all (tl:=tl) (S:=S) (vals:=vals) fun x hx=>h x (by simp only [isT,List.any_cons,Bool.or_eq_true] at hx ⊢;exact .inr hx)
  simp only [toks,h e (by simp [isT]),cond_true,h2,List.map_cons]
theorem toks_new {S:Nat→Bool}{vals:Nat→Value}{i:Nat}{v:Value}{kk:Nat}(hS:S i=false):∀ {tl:TL},(i,kk)∈tl→(tl.map (·.1)).Nodup →
  (toks tl (Jx.upd S i true) (Jx.upd vals i v)).Perm (toks tl S vals++[(kk,v)])
 | [],h,_=>by cases h
 |
  (e,k')::tl,h,hn=>by
  simp only [List.map_cons,List.nodup_cons] at hn;by_cases he:e=i
  ·subst he;have hin:k'=kk:=by
    rcases List.mem_cons.1 h with h1|h1
    ·simp only [Prod.mk.injEq,true_and] at h1;exact h1.symm
    exact absurd (List.mem_map.2 ⟨_,h1,rfl⟩) hn.1
   subst hin;have hrest:toks tl (Jx.upd S e true) (Jx.upd vals e v)=toks tl S vals:=Kg9 fun x hx=>by
    have:x ≠ e:=fun q=>by
     subst q;obtain ⟨y,hy,hq⟩:=List.any_eq_true.1 hx;exact hn.1 (List.mem_map.2 ⟨y,hy,by simpa using hq⟩)
    exact ⟨Jx.upd_ne _ _ this,fun _=>Jx.upd_ne _ _ this⟩
   simp only [toks,Jx.upd_same,cond_true,hS,cond_false,hrest];exact (List.perm_append_singleton _ _).symm
  have ih:=toks_new (v:=v) (vals:=vals) hS (tl:=tl) (by
   rcases List.mem_cons.1 h with h1|h1
   ·simp only [Prod.mk.injEq] at h1;exact absurd h1.1.symm he
   exact h1) hn.2
  simp only [toks,Jx.upd_ne _ _ he];cases S e with
  | true=>simp only [cond_true,List.cons_append];exact ih.cons _
  | false=>simpa using ih
def setc (d:D)(v:Value):D:=
 match d with
 | .lst k xs _=>.lst k xs (.cur v)
 | d=>d
def dT (tl:TL)(e:Nat)(d:D)(v:Value):D:=bif isT tl e then setc d v else d
theorem dT_no {tl:TL}{e:Nat}{d:D}{v:Value}(h:isT tl e=false):dT tl e d v=d:=by unfold dT;rw [h];rfl
section
variable (P : Program) (C : Ctx) (N : Nat) (l : List Oper) (m : Nat) (De : Nat → D) (al : AL) (tl : TL) (pre : List (List Nat)) (ev : List Nat) (h : List (Nat × Blk)) (k : List (Nat × Value)) (Q : Exit → S → Prop)
def Ct (H0:Hp)(S:Nat→Bool)(vals:Nat→Value)(w:World):Prop:=
 ∃ H,H0.le H∧Core C H (h++Kap al S vals) (k++toks tl S vals) w∧∀ e,S e=true→ev.contains e=true→(isAl al e=true→vals e=.pointer (some ⟨blk (vals e),0,none⟩))∧(isAl al e=false→Rep H (dT tl e (De e) (vals e)) (vals e))
def dEt (bs:Nat→Value)(e:Nat):D:=bif isAl al e then .ptr (blk (bs e)) 0 else dT tl e (De e) (bs e)
def TOKt (H0:Hp)(bs:Nat→Value)(vals:Nat→Value)(te:TE)(a:Act):Prop:=
 ∀ j d o,look3 te j=some (d,o)→∃ v,a.tmps[j]? = some v∧(o=none→∀ H,H0.le H→Rep H d v)∧∀ e,o=some e→v=vals e∧d=dEt De al tl bs e∧ev.contains e=true
def finT (H0:Hp)(vals:Nat→Value)(a:Act):Prop:=∀ S w,(∀ i,ev.contains i=true→S i=true)→Ct C De al tl ev h k H0 S vals w→wpList P l.toArray (QD C N Q) (l.drop m) a w
def Zt (bs:Nat→Value)(i:Nat)(rest:List Oper)(te:TE):Prop:=
 ∀
  H0 vals a,(∀ e,bs e=vals e)→TOKt De al tl ev H0 bs vals te a→a.tmps.size=N→a.defers=[] →
  Jx.Lx P l.toArray (Ct C De al tl ev h k H0) (fun i=>pre.getD i []) (fun i=>ev.contains i) vals (finT P C N l m De al tl ev h k Q H0 vals) i rest a
end
section
variable {P : Program} {C : Ctx} {N : Nat} {l : List Oper} {m : Nat} {De : Nat → D} {al : AL} {tl : TL} {pre : List (List Nat)} {ev : List Nat} {h : List (Nat × Blk)} {k : List (Nat × Value)} {Q : Exit → S → Prop} {tab : List (Option TI)} {bs : Nat → Value} {i : Nat} {o : Oper} {rest : List Oper} {te : TE}
theorem Ki7 {H0 H:Hp}{vals:Nat→Value}{a:Act}{p:List Nat}(hbs:∀ e,bs e=vals e)(kt:TOKt De al tl ev H0 bs vals te a)(hle:H0.le H)
  (hev:∀ e,p.contains e=true→ev.contains e=true→(isAl al e=true→vals e=.pointer (some ⟨blk (vals e),0,none⟩))∧(isAl al e=false→Rep H (dT tl e (De e) (vals e)) (vals e))):TOK H (vis p te) a:=by
 obtain rfl:bs=vals:=funext hbs;intro j d e;obtain ⟨d',o,h1,h2⟩:=Khp e;obtain ⟨v,f,g,n⟩:=kt j d' o h1;refine ⟨v,f,?_⟩;rcases h2 with ⟨rfl,rfl⟩|⟨b,rfl,hp,rfl⟩|rfl
 ·exact g rfl H hle
 ·obtain ⟨rfl,rfl,q⟩:=n b rfl;have c:=hev b hp q;unfold dEt;cases ha:isAl al b with
  | true=>simp only [cond_true];rw [c.1 ha];exact Kbi (by simp [RepC,blk]) rfl rfl
  | false=>simp only [cond_false];exact c.2 ha
 exact ⟨by simp [RepC],by cases v<;>rfl⟩
theorem TOKt.put {H0:Hp}{vals:Nat→Value}{a:Act}(kt:TOKt De al tl ev H0 bs vals te a){j:Nat}{d:D}{o:Option Nat}{v:Value}(hj:j < a.tmps.size)(h1:o=none→∀ H,H0.le H→Rep H d v)(h2:∀ e,o=some e→v=vals e∧d=dEt De al tl bs e∧ev.contains e=true) :
  TOKt De al tl ev H0 bs vals ((j,d,o)::te) (a.put (some j) v):=by
 intro j' d' o' e;simp only [look3] at e;simp only [Act.put];cases hb:Nat.beq j j' with
 |
  true=>
  rw [hb] at e;simp at e;obtain ⟨rfl,rfl⟩:=e;have:=Nat.eq_of_beq_eq_true hb;subst this;exact ⟨v,by simp [hj],h1,h2⟩
 |
  false=>
  rw [hb] at e;simp at e;have hne:j ≠ j':=Nat.ne_of_beq_eq_false hb;obtain ⟨u,b,c⟩:=kt j' d' o' e;exact ⟨u,by rw [Array.getElem?_setIfInBounds_ne hne];exact b,c⟩
theorem vis_nilt {H0:Hp}{vals:Nat→Value}{a:Act}(hbs:∀ e,bs e=vals e)(kt:TOKt De al tl ev H0 bs vals te a):TOK H0 (vis [] te) a:=Ki7 hbs kt (Hp.le_refl _) fun e he=>by simp at he
theorem zt_nil {t':List (Nat×D)}{h':List (Nat×Blk)}{k':List (Nat×Value)}(ek:(k++tl.map fun x=>(x.2,bs x.1))=k')(htl:∀ e,isT tl e=true→ev.contains e=true)(b:vis ev te=t')(d:(h++al.map fun x=>(blk (bs x.1),Blk.cells x.2.1 x.2.2))=h')(hal:∀ e,isAl al e=true→ev.contains e=true)(g:opsD P C N l (l.drop m) ⟨t',h',k'⟩ Q):Zt P C N l m De al tl pre ev h k Q bs i [] te:=by
 intro H0 vals a hbs kt hN hdf S w hS hC;obtain rfl:bs=vals:=funext hbs;subst ek;obtain ⟨H,hle,c,hev⟩:=hC;subst b;subst d;refine g a w ⟨H,?_,Ki7 hbs kt hle fun e _ he=>hev e (hS e he) he,hN,hdf⟩;rw [Kei fun e he=>hS e (hal e he),toks_all fun e he=>hS e (htl e he)] at c;exact c
theorem zt_event {j:Nat}{p:List Nat}{d:D}(hp:pre.getD i []=p)(hw:wantD l (vis [] te) o=some true)(hd:o.dst=some j)(hi:Nat.blt j N=true)(he:ev.contains i=true)(hna:isAl al i=false)(hnt:isT tl i=false)(hDe:De i=d)
  (hx:∀ hh H a w,Core C H (h++hh) k w→TOK H (vis p te) a→Jx.Gives P o a w fun v w'=>∃ H',H.le H'∧Core ⟨H,w,[]⟩ H' [] [] w'∧Rep H' d v)
  (g:Zt P C N l m De al tl pre ev h k Q bs (i+1) rest ((j,d,some i)::te)):Zt P C N l m De al tl pre ev h k Q bs i (o::rest) te:=by
 intro H0 vals a hbs kt hN hdf;subst hDe;refine ⟨vals i,?_,?_⟩
 ·unfold Jx.OK;rw [Ka2 (vis_nilt hbs kt) hw,if_pos rfl,if_pos he];refine ⟨rfl,?_⟩;rintro S w ⟨H,hle,c,hev⟩ hSi hpS;replace hpS:∀ k∈pre.getD i [],S k=true:=hpS;rw [hp] at hpS;refine (hx _ H a w (c.drop (List.Sublist.refl _) (List.sublist_append_left k _)) (Ki7 hbs kt hle fun e he b=>hev e (hpS e (by simpa using he)) b)).mono ?_;rintro v w' ⟨H',hle',c',hr⟩;have hal:Kap al (Jx.upd S i true) (Jx.upd vals i v)=Kap al S vals:=KaV fun e hea=>by
   have:e ≠ i:=fun q=>by rw [q,hna] at hea;cases hea
   exact ⟨Jx.upd_ne _ _ this,fun _=>Jx.upd_ne _ _ this⟩
  have htk:toks tl (Jx.upd S i true) (Jx.upd vals i v)=toks tl S vals:=Kg9 fun e hea=>by
   have:e ≠ i:=fun q=>by rw [q,hnt] at hea;cases hea
   exact ⟨Jx.upd_ne _ _ this,fun _=>Jx.upd_ne _ _ this⟩
  refine ⟨H',Hp.le_trans hle hle',?_,fun e hes hee=>?_⟩
  ·rw [hal,htk];have:=Core.call (h1:=[]) (k1:=[]) (h2:=h++Kap al S vals) (k2:=k++toks tl S vals) c c';simpa using this
  by_cases hei:e=i
  ·subst hei;rw [Jx.upd_same];exact ⟨fun q=>(by rw [hna] at q;cases q),fun _=>by rw [dT_no hnt];exact hr⟩
  rw [Jx.upd_ne _ _ hei] at hes ⊢;exact ⟨(hev e hes hee).1,fun q=>((hev e hes hee).2 q).mono hle'⟩
 rw [hd];refine g H0 vals _ hbs (kt.put (by rw [hN];simpa using hi) (fun q=>by cases q) (fun e q=>?_)) ?_ hdf
 ·cases q;exact ⟨rfl,by unfold dEt;rw [hna,dT_no hnt];rfl,he⟩
 simp only [Act.put,Array.size_setIfInBounds];exact hN
theorem zt_eventT {j:Nat}{p:List Nat}(hp:pre.getD i []=p)(hw:wantD l (vis [] te) o=some true)(hd:o.dst=some j)(hi:Nat.blt j N=true)(he:ev.contains i=true)(hna:isAl al i=false){kk:Nat}{xs:List D}(hit:(i,kk)∈tl)(hnd:(tl.map (·.1)).Nodup)(hDe:De i=.lst kk xs .no)
  (hx:∀ hh H a w,Core C H (h++hh) k w→TOK H (vis p te) a→Jx.Gives P o a w fun v w'=>∃ H',H.le H'∧Core ⟨H,w,[]⟩ H' [] [(kk,v)] w'∧Rep H' (.lst kk xs (.cur v)) v)
  (g:Zt P C N l m De al tl pre ev h k Q bs (i+1) rest ((j,.lst kk xs (.cur (bs i)),some i)::te)):Zt P C N l m De al tl pre ev h k Q bs i (o::rest) te:=by
 intro H0 vals a hbs kt hN hdf;obtain rfl:bs=vals:=funext hbs;have hist:isT tl i=true:=List.any_eq_true.2 ⟨_,hit,by simp⟩;refine ⟨bs i,?_,?_⟩
 ·unfold Jx.OK;rw [Ka2 (vis_nilt hbs kt) hw,if_pos rfl,if_pos he];refine ⟨rfl,?_⟩;rintro S w ⟨H,hle,c,hev⟩ hSi hpS;replace hpS:∀ k∈pre.getD i [],S k=true:=hpS;rw [hp] at hpS;refine (hx _ H a w (c.drop (List.Sublist.refl _) (List.sublist_append_left k _)) (Ki7 hbs kt hle fun e he b=>hev e (hpS e (by simpa using he)) b)).mono ?_;rintro v w' ⟨H',hle',c',hr⟩;have hal:Kap al (Jx.upd S i true) (Jx.upd bs i v)=Kap al S bs:=KaV fun e hea=>by
   have:e ≠ i:=fun q=>by rw [q,hna] at hea;cases hea
   exact ⟨Jx.upd_ne _ _ this,fun _=>Jx.upd_ne _ _ this⟩
  refine ⟨H',Hp.le_trans hle hle',?_,fun e hes hee=>?_⟩
  ·rw [hal];have:=Core.call (h1:=[]) (k1:=[]) (h2:=h++Kap al S bs) (k2:=k++toks tl S bs) c c';refine this.perm (List.Perm.refl _) ?_;have hp:=toks_new (S:=S) (vals:=bs) (v:=v) hSi hit hnd;refine List.Perm.trans ?_ (List.Perm.append_left k hp.symm);have hq:((kk,v)::(k++toks tl S bs)).Perm ((k++toks tl S bs)++[(kk,v)]):=(List.perm_append_singleton _ _).symm;rw [List.append_assoc] at hq;exact hq
  by_cases hei:e=i
  ·subst hei;rw [Jx.upd_same];exact ⟨fun q=>(by rw [hna] at q;cases q),fun _=>by unfold dT;rw [hist,hDe];exact hr⟩
  rw [Jx.upd_ne _ _ hei] at hes ⊢;exact ⟨(hev e hes hee).1,fun q=>((hev e hes hee).2 q).mono hle'⟩
 rw [hd];refine g H0 bs _ hbs (kt.put (by rw [hN];simpa using hi) (fun q=>by cases q) (fun e q=>?_)) ?_ hdf
 ·cases q;exact ⟨rfl,by unfold dEt dT;rw [hna,hist,hDe];rfl,he⟩
 simp only [Act.put,Array.size_setIfInBounds];exact hN
theorem wpD_drawnT {id:Nat}{t:List (Nat×D)}(m:Nat)(De:Nat→D)(al:AL)(tl:TL)(pre:List (List Nat))(ev:List Nat)(tp:List (List Nat))(hfo:P.follows .mixedOrders=true)(hsl:Jx.slotsB l.toArray=true)
  (hp:Jx.preB l.toArray (fun i=>pre.getD i [])=true) (hpe:pre.all (·.all ev.contains)=true) (hev:ev.all (· < (l.take m).length)=true) (hsuf:Jx.sufB l.toArray tp (l.take m).length=true)
  (hwalk:∀ bs,Zt P C N l m De al tl pre ev h k Q bs 0 (l.take m) (KdL t)):wpD P C N (.region id l.toArray true) ⟨t,h,k⟩ Q:=by
 rintro a w ⟨H,c,kt,hN,hdf⟩;have key:=Jx.region_any (P:=P) (Q:=QD C N Q) (id:=id) (w:=w) (a0:=a) (l1:=l.take m) (l2:=l.drop m) (Ct C De al tl ev h k H) (fun i=>pre.getD i []) (fun i=>ev.contains i) tp hfo (by rw [List.take_append_drop];exact hsl) (by rw [List.take_append_drop];exact hp) ?_ ?_
  (by rw [List.take_append_drop];exact hsuf) ?_ ?_ ?_
 ·rw [List.take_append_drop] at key;exact key
 ·intro i k hk;rw [List.all_eq_true] at hpe;by_cases hi:i < pre.length
  ·have e:pre.getD i []=pre[i]:=by simp [hi]
   rw [e] at hk;exact List.all_eq_true.1 (hpe _ (List.getElem_mem hi)) k hk
  have e:pre.getD i []=[]:=by simp [Nat.le_of_not_lt hi]
  rw [e] at hk;cases hk
 ·intro i hi;rw [List.all_eq_true] at hev;simpa using hev i (by simpa using hi)
 ·rintro S vals vals' w hv ⟨H',hle,c',hr⟩;refine ⟨H',hle,?_,fun e hes hee=>?_⟩
  ·rw [← KaV (S:=S) (S':=S) (vals:=vals) (vals':=vals') fun e _=>⟨rfl,hv e⟩,← Kg9 (S:=S) (S':=S) (vals:=vals) (vals':=vals') fun e _=>⟨rfl,hv e⟩];exact c'
  rw [← hv e hes];exact hr e hes hee
 ·intro vals;refine ⟨H,Hp.le_refl H,?_,fun e he=>by cases he⟩;rw [KdT,Kls,List.append_nil,List.append_nil];exact c.drew
 intro vals;rw [List.take_append_drop];exact hwalk vals H vals a (fun _=>rfl) (fun j d o e=>by
  obtain ⟨h1,h2⟩:=Kej e;obtain ⟨v,b,f⟩:=kt j d h1;exact ⟨v,b,fun _ H' hle=>f.mono hle,fun e he=>by rw [h2] at he;cases he⟩) hN hdf
end
section
variable {P : Program} {C : Ctx} {N : Nat} {l : List Oper} {m : Nat} {De : Nat → D} {al : AL} {tl : TL} {pre : List (List Nat)} {ev : List Nat} {h : List (Nat × Blk)} {k : List (Nat × Value)} {Q : Exit → S → Prop} {tab : List (Option TI)} {bs : Nat → Value} {i : Nat} {o : Oper} {rest : List Oper} {te : TE}
theorem wpD_drawsT {id:Nat}{t:List (Nat×D)}(m:Nat)(al:AL)(tl:TL)(pre:List (List Nat))(ev:List Nat)(tp:List (List Nat))(hfo:P.follows .mixedOrders=true)(hsl:Jx.slotsB l.toArray=true)
  (hp:Jx.preB l.toArray (fun i=>pre.getD i [])=true) (hpe:pre.all (·.all ev.contains)=true) (hev:ev.all (· < (l.take m).length)=true) (hsuf:Jx.sufB l.toArray tp (l.take m).length=true)
  (hwalk:ExDs ev fun De=>∀ bs,Zt P C N l m De al tl pre ev h k Q bs 0 (l.take m) (KdL t)):wpD P C N (.region id l.toArray true) ⟨t,h,k⟩ Q:=by
 obtain ⟨De,hw⟩:=KfO hwalk;exact wpD_drawnT m De al tl pre ev tp hfo hsl hp hpe hev hsuf hw
theorem zt_e {j:Nat}{p:List Nat}{t:List (Nat×D)}{d:D}(hp:pre.getD i []=p)(ht:vis p te=t)(hx:Ex P o t d)(hw:wantD l (vis [] te) o=some true)(hd:o.dst=some j)(hi:Nat.blt j N=true)(he:ev.contains i=true)(hna:isAl al i=false)(hnt:isT tl i=false)(hDe:De i=d)
  (g:Zt P C N l m De al tl pre ev h k Q bs (i+1) rest ((j,d,some i)::te)):Zt P C N l m De al tl pre ev h k Q bs i (o::rest) te:=
 zt_event hp hw hd hi he hna hnt hDe (fun _ H a w c kt=>by
  obtain ⟨v,h1,h2⟩:=hx H a w (ht ▸ kt);unfold Jx.Gives;rw [h1];exact ⟨H,Hp.le_refl H,Core.here c.ag,h2⟩) g
theorem zt_eM {j:Nat}{p:List Nat}{t:List (Nat×D)}{d:D}(hp:pre.getD i []=p)(ht:vis p te=t)(hx:ExM P C h k o t d)(hw:wantD l (vis [] te) o=some true)(hd:o.dst=some j)(hi:Nat.blt j N=true)(he:ev.contains i=true)(hna:isAl al i=false)(hnt:isT tl i=false)(hDe:De i=d)
  (g:Zt P C N l m De al tl pre ev h k Q bs (i+1) rest ((j,d,some i)::te)):Zt P C N l m De al tl pre ev h k Q bs i (o::rest) te:=
 zt_event hp hw hd hi he hna hnt hDe (fun hh H a w c kt=>by
  obtain ⟨v,h1,h2⟩:=hx hh H a w c (ht ▸ kt);unfold Jx.Gives;rw [h1];exact ⟨H,Hp.le_refl H,Core.here c.ag,h2⟩) g
theorem zt_callT {f:FuncId}{args:List Operand}{ts:Array TypeId}{j:Nat}{p:List Nat}{t:List (Nat×D)}{ds ds':List D}{kk:Nat}{xs:List D}(hp:pre.getD i []=p)(ht:vis p te=t)(hc:CallsD P f ds' [] [] (fun d' h k=>∃ y,d'=.lst kk xs (.cur y)∧h=[]∧k=[(kk,y)]))(ho:o.op=.call ⟨.value (.func f),args.toArray,ts⟩)
  (ha:Kb3 args (opD t)=some ds) (hwk:WkL ds ds') (hw:wantD l (vis [] te) o=some true) (hd:o.dst=some j) (hi:Nat.blt j N=true) (he:ev.contains i=true) (hna:isAl al i=false) (hit:(i,kk)∈tl) (hnd:(tl.map (·.1)).Nodup) (hDe:De i=.lst kk xs .no)
  (g:Zt P C N l m De al tl pre ev h k Q bs (i+1) rest ((j,.lst kk xs (.cur (bs i)),some i)::te)):Zt P C N l m De al tl pre ev h k Q bs i (o::rest) te:=
 zt_eventT hp hw hd hi he hna hit hnd hDe (fun hh H a w c kt=>by
  subst ht;unfold Jx.Gives;rw [Kd1 ho hc.1];simp only [];have hv:=hwk H _ (Kco kt ha);rw [List.map_toArray];refine (hc.2 H w _ hv c.ag (by simp) (by simp) (by simp [KP,K0])).mono ?_;rintro e w' ⟨v,H',d',h',k',rfl,hr,hcore,y,rfl,rfl,rfl⟩;have hy:v=y:=(KbK hr).1;subst hy;exact ⟨v,rfl,H',hcore.le,hcore,hr⟩) g
end
end
section
open Go
abbrev oT:Option TI:=some ⟨.other,1,8,[.nilFunc]⟩
def tab:List (Option TI):=[none,
 oT,
 some ⟨.int .i64,1,8,[.int .i64 0]⟩,
 some ⟨.int .i64,1,8,[.int .i64 0]⟩,
 some ⟨.bool,1,1,[.bool false]⟩,
 some ⟨.int .u8,1,1,[.int .u8 0]⟩,
 some ⟨.int .u8,1,1,[.int .u8 0]⟩,
 some ⟨.struct [(2,0),(3,1),(4,2),(6,3)],4,24,[.int .i64 0,.int .i64 0,.bool false,.int .u8 0]⟩,
 some ⟨.struct [(2,0),(3,1),(4,2),(6,3)],4,24,[.int .i64 0,.int .i64 0,.bool false,.int .u8 0]⟩,
 some ⟨.str,1,16,[.string ByteArray.empty]⟩,
 some ⟨.str,1,16,[.string ByteArray.empty]⟩,
 some ⟨.str,1,16,[.string ByteArray.empty]⟩,
 some ⟨.int .u64,1,8,[.int .u64 0]⟩,
 some ⟨.struct [(9,0),(12,1)],2,24,[.string ByteArray.empty,.int .u64 0]⟩,
 some ⟨.struct [(9,0),(12,1)],2,24,[.string ByteArray.empty,.int .u64 0]⟩,
 some ⟨.ptr 215,1,8,[.pointer none]⟩,
 some ⟨.ptr 218,1,8,[.pointer none]⟩,
 some ⟨.ptr 225,1,8,[.pointer none]⟩,
 some ⟨.struct [(17,0)],1,8,[.pointer none]⟩,
 some ⟨.struct [(17,0)],1,8,[.pointer none]⟩,
 none,
 some ⟨.int .i32,1,4,[.int .i32 0]⟩,
 some ⟨.slice 30,1,24,[.slice none 0 0]⟩,
 some ⟨.ptr 51,1,8,[.pointer none]⟩,
 oT,
 some ⟨.int .i64,1,8,[.int .i64 0]⟩,
 none,
 oT,
 some ⟨.slice 5,1,24,[.slice none 0 0]⟩,
 some ⟨.struct [(3,0),(28,1),(9,2)],3,48,[.int .i64 0,.slice none 0 0,.string ByteArray.empty]⟩,
 some ⟨.struct [(3,0),(28,1),(9,2)],3,48,[.int .i64 0,.slice none 0 0,.string ByteArray.empty]⟩,
 some ⟨.slice 74,1,24,[.slice none 0 0]⟩,
 some ⟨.slice 40,1,24,[.slice none 0 0]⟩,
 some ⟨.struct [(31,0),(32,1)],2,48,[.slice none 0 0,.slice none 0 0]⟩,
 some ⟨.struct [(31,0),(32,1)],2,48,[.slice none 0 0,.slice none 0 0]⟩,
 oT,
 oT,
 some ⟨.slice 64,1,24,[.slice none 0 0]⟩,
 some ⟨.slice 98,1,24,[.slice none 0 0]⟩,
 some ⟨.struct [(9,0),(37,1),(37,2),(38,3),(3,4)],5,96,[.string ByteArray.empty,.slice none 0 0,.slice none 0 0,.slice none 0 0,.int .i64 0]⟩,
 some ⟨.struct [(9,0),(37,1),(37,2),(38,3),(3,4)],5,96,[.string ByteArray.empty,.slice none 0 0,.slice none 0 0,.slice none 0 0,.int .i64 0]⟩,
 none,
 oT,
 oT,
 none,
 oT,
 oT,
 oT,
 oT,
 oT,
 some ⟨.struct [(34,0)],2,48,[.slice none 0 0,.slice none 0 0]⟩,
 some ⟨.struct [(34,0)],2,48,[.slice none 0 0,.slice none 0 0]⟩,
 oT,
 oT,
 oT,
 some ⟨.ptr 60,1,8,[.pointer none]⟩,
 some ⟨.ptr 58,1,8,[.pointer none]⟩,
 some ⟨.struct [(56,0),(28,1)],2,32,[.pointer none,.slice none 0 0]⟩,
 some ⟨.struct [(56,0),(28,1)],2,32,[.pointer none,.slice none 0 0]⟩,
 some ⟨.struct [(58,0),(3,2)],3,40,[.pointer none,.slice none 0 0,.int .i64 0]⟩,
 some ⟨.struct [(58,0),(3,2)],3,40,[.pointer none,.slice none 0 0,.int .i64 0]⟩,
 oT,
 oT,
 some ⟨.struct [(9,0),(4,1)],2,24,[.string ByteArray.empty,.bool false]⟩,
 some ⟨.struct [(9,0),(4,1)],2,24,[.string ByteArray.empty,.bool false]⟩,
 oT,
 oT,
 oT,
 oT,
 oT,
 oT,
 none,
 oT,
 some ⟨.struct [(9,0),(4,1),(3,2),(3,3)],4,40,[.string ByteArray.empty,.bool false,.int .i64 0,.int .i64 0]⟩,
 some ⟨.struct [(9,0),(4,1),(3,2),(3,3)],4,40,[.string ByteArray.empty,.bool false,.int .i64 0,.int .i64 0]⟩,
 none,
 none,
 none,
 oT,
 oT,
 none,
 oT,
 oT,
 oT,
 none,
 oT,
 none,
 oT,
 oT,
 oT,
 oT,
 oT,
 oT,
 oT,
 oT,
 oT,
 some ⟨.slice 127,1,24,[.slice none 0 0]⟩,
 some ⟨.struct [(3,0),(9,1),(9,2),(96,3),(38,4),(38,5),(3,6)],7,120,[.int .i64 0,.string ByteArray.empty,.string ByteArray.empty,.slice none 0 0,.slice none 0 0,.slice none 0 0,.int .i64 0]⟩,
 some ⟨.struct [(3,0),(9,1),(9,2),(96,3),(38,4),(38,5),(3,6)],7,120,[.int .i64 0,.string ByteArray.empty,.string ByteArray.empty,.slice none 0 0,.slice none 0 0,.slice none 0 0,.int .i64 0]⟩,
 oT,
 oT,
 oT,
 some ⟨.slice 9,1,24,[.slice none 0 0]⟩,
 oT,
 oT,
 some ⟨.ptr 5,1,8,[.pointer none]⟩,
 some ⟨.slice 110,1,24,[.slice none 0 0]⟩,
 none,
 oT,
 some ⟨.struct [(3,0),(9,1),(3,2),(3,3)],4,40,[.int .i64 0,.string ByteArray.empty,.int .i64 0,.int .i64 0]⟩,
 some ⟨.struct [(3,0),(9,1),(3,2),(3,3)],4,40,[.int .i64 0,.string ByteArray.empty,.int .i64 0,.int .i64 0]⟩,
 some ⟨.ptr 116,1,8,[.pointer none]⟩,
 none,
 oT,
 oT,
 some ⟨.struct [(106,0),(3,1),(25,2),(3,3),(3,4)],5,56,[.slice none 0 0,.int .i64 0,.int .i64 0,.int .i64 0,.int .i64 0]⟩,
 some ⟨.struct [(106,0),(3,1),(25,2),(3,3),(3,4)],5,56,[.slice none 0 0,.int .i64 0,.int .i64 0,.int .i64 0,.int .i64 0]⟩,
 oT,
 oT,
 oT,
 oT,
 oT,
 oT,
 oT,
 oT,
 oT,
 some ⟨.struct [(3,0),(3,1),(9,2),(96,3),(3,4)],5,64,[.int .i64 0,.int .i64 0,.string ByteArray.empty,.slice none 0 0,.int .i64 0]⟩,
 some ⟨.struct [(3,0),(3,1),(9,2),(96,3),(3,4)],5,64,[.int .i64 0,.int .i64 0,.string ByteArray.empty,.slice none 0 0,.int .i64 0]⟩,
 oT,
 oT,
 none,
 oT,
 oT,
 some ⟨.ptr 135,1,8,[.pointer none]⟩,
 some ⟨.struct [(28,0),(3,1),(106,2)],3,56,[.slice none 0 0,.int .i64 0,.slice none 0 0]⟩,
 some ⟨.struct [(28,0),(3,1),(106,2)],3,56,[.slice none 0 0,.int .i64 0,.slice none 0 0]⟩,
 oT,
 oT,
 oT,
 oT,
 oT,
 oT,
 oT,
 oT,
 oT,
 some ⟨.map 9 3,1,8,[.map none]⟩,
 some ⟨.struct [(3,0),(25,1)],2,16,[.int .i64 0,.int .i64 0]⟩,
 some ⟨.struct [(3,0),(25,1)],2,16,[.int .i64 0,.int .i64 0]⟩,
 oT,
 some ⟨.struct [(34,0),(40,2)],7,144,[.slice none 0 0,.slice none 0 0,.string ByteArray.empty,.slice none 0 0,.slice none 0 0,.slice none 0 0,.int .i64 0]⟩,
 some ⟨.struct [(34,0),(40,2)],7,144,[.slice none 0 0,.slice none 0 0,.string ByteArray.empty,.slice none 0 0,.slice none 0 0,.slice none 0 0,.int .i64 0]⟩,
 none,
 oT,
 oT,
 oT,
 oT,
 none,
 oT,
 oT,
 oT,
 oT,
 oT,
 oT,
 oT,
 oT,
 none,
 some ⟨.array 2 37,2,48,[.slice none 0 0,.slice none 0 0]⟩,
 oT,
 oT,
 oT,
 oT,
 some ⟨.int .u64,1,8,[.int .u64 0]⟩,
 oT,
 oT,
 oT,
 oT,
 oT,
 some ⟨.slice 3,1,24,[.slice none 0 0]⟩,
 oT,
 oT,
 oT,
 oT,
 some ⟨.array 24 5,24,24,[.int .u8 0,.int .u8 0,.int .u8 0,.int .u8 0,.int .u8 0,.int .u8 0,.int .u8 0,.int .u8 0,.int .u8 0,.int .u8 0,.int .u8 0,.int .u8 0,.int .u8 0,.int .u8 0,.int .u8 0,.int .u8 0,.int .u8 0,.int .u8 0,.int .u8 0,.int .u8 0,.int .u8 0,.int .u8 0,.int .u8 0,.int .u8 0]⟩,
 oT,
 oT,
 none,
 oT,
 oT,
 none,
 oT,
 oT,
 some ⟨.array 20 171,20,160,[.int .u64 0,.int .u64 0,.int .u64 0,.int .u64 0,.int .u64 0,.int .u64 0,.int .u64 0,.int .u64 0,.int .u64 0,.int .u64 0,.int .u64 0,.int .u64 0,.int .u64 0,.int .u64 0,.int .u64 0,.int .u64 0,.int .u64 0,.int .u64 0,.int .u64 0,.int .u64 0]⟩,
 some ⟨.int .u32,1,4,[.int .u32 0]⟩,
 some ⟨.array 65 5,65,65,[.int .u8 0,.int .u8 0,.int .u8 0,.int .u8 0,.int .u8 0,.int .u8 0,.int .u8 0,.int .u8 0,.int .u8 0,.int .u8 0,.int .u8 0,.int .u8 0,.int .u8 0,.int .u8 0,.int .u8 0,.int .u8 0,.int .u8 0,.int .u8 0,.int .u8 0,.int .u8 0,.int .u8 0,.int .u8 0,.int .u8 0,.int .u8 0,.int .u8 0,.int .u8 0,.int .u8 0,.int .u8 0,.int .u8 0,.int .u8 0,.int .u8 0,.int .u8 0,.int .u8 0,.int .u8 0,.int .u8 0,.int .u8 0,.int .u8 0,.int .u8 0,.int .u8 0,.int .u8 0,.int .u8 0,.int .u8 0,.int .u8 0,.int .u8 0,.int .u8 0,.int .u8 0,.int .u8 0,.int .u8 0,.int .u8 0,.int .u8 0,.int .u8 0,.int .u8 0,.int .u8 0,.int .u8 0,.int .u8 0,.int .u8 0,.int .u8 0,.int .u8 0,.int .u8 0,.int .u8 0,.int .u8 0,.int .u8 0,.int .u8 0,.int .u8 0,.int .u8 0]⟩,
 oT,
 some ⟨.int .u64,1,8,[.int .u64 0]⟩,
 oT,
 oT,
 some ⟨.ptr 200,1,8,[.pointer none]⟩,
 some ⟨.struct [(106,0),(3,1),(25,2)],3,40,[.slice none 0 0,.int .i64 0,.int .i64 0]⟩,
 some ⟨.struct [(106,0),(3,1),(25,2)],3,40,[.slice none 0 0,.int .i64 0,.int .i64 0]⟩,
 oT,
 oT,
 oT,
 oT,
 oT,
 oT,
 oT,
 some ⟨.array 32 5,32,32,[.int .u8 0,.int .u8 0,.int .u8 0,.int .u8 0,.int .u8 0,.int .u8 0,.int .u8 0,.int .u8 0,.int .u8 0,.int .u8 0,.int .u8 0,.int .u8 0,.int .u8 0,.int .u8 0,.int .u8 0,.int .u8 0,.int .u8 0,.int .u8 0,.int .u8 0,.int .u8 0,.int .u8 0,.int .u8 0,.int .u8 0,.int .u8 0,.int .u8 0,.int .u8 0,.int .u8 0,.int .u8 0,.int .u8 0,.int .u8 0,.int .u8 0,.int .u8 0]⟩,
 some ⟨.array 64 5,64,64,[.int .u8 0,.int .u8 0,.int .u8 0,.int .u8 0,.int .u8 0,.int .u8 0,.int .u8 0,.int .u8 0,.int .u8 0,.int .u8 0,.int .u8 0,.int .u8 0,.int .u8 0,.int .u8 0,.int .u8 0,.int .u8 0,.int .u8 0,.int .u8 0,.int .u8 0,.int .u8 0,.int .u8 0,.int .u8 0,.int .u8 0,.int .u8 0,.int .u8 0,.int .u8 0,.int .u8 0,.int .u8 0,.int .u8 0,.int .u8 0,.int .u8 0,.int .u8 0,.int .u8 0,.int .u8 0,.int .u8 0,.int .u8 0,.int .u8 0,.int .u8 0,.int .u8 0,.int .u8 0,.int .u8 0,.int .u8 0,.int .u8 0,.int .u8 0,.int .u8 0,.int .u8 0,.int .u8 0,.int .u8 0,.int .u8 0,.int .u8 0,.int .u8 0,.int .u8 0,.int .u8 0,.int .u8 0,.int .u8 0,.int .u8 0,.int .u8 0,.int .u8 0,.int .u8 0,.int .u8 0,.int .u8 0,.int .u8 0,.int .u8 0,.int .u8 0]⟩,
 oT,
 oT,
 oT,
 oT,
 some ⟨.struct [(17,0),(17,1),(17,2),(9,3)],4,40,[.pointer none,.pointer none,.pointer none,.string ByteArray.empty]⟩,
 some ⟨.struct [(17,0),(17,1),(17,2),(9,3)],4,40,[.pointer none,.pointer none,.pointer none,.string ByteArray.empty]⟩,
 some ⟨.array 0 16,0,0,[]⟩,
 some ⟨.struct [(216,0)],0,0,[]⟩,
 some ⟨.struct [(216,0)],0,0,[]⟩,
 some ⟨.int .u8,1,1,[.int .u8 0]⟩,
 some ⟨.int .u8,1,1,[.int .u8 0]⟩,
 oT,
 some ⟨.int .i32,1,4,[.int .i32 0]⟩,
 some ⟨.int .i32,1,4,[.int .i32 0]⟩,
 some ⟨.struct [(12,0),(12,1),(192,2),(219,3),(5,4),(5,5),(220,6),(221,7),(105,8),(222,9),(223,10)],11,48,[.int .u64 0,.int .u64 0,.int .u32 0,.int .u8 0,.int .u8 0,.int .u8 0,.int .u8 0,.nilFunc,.pointer none,.int .i32 0,.int .i32 0]⟩,
 some ⟨.struct [(12,0),(12,1),(192,2),(219,3),(5,4),(5,5),(220,6),(221,7),(105,8),(222,9),(223,10)],11,48,[.int .u64 0,.int .u64 0,.int .u32 0,.int .u8 0,.int .u8 0,.int .u8 0,.int .u8 0,.nilFunc,.pointer none,.int .i32 0,.int .i32 0]⟩]
theorem htab:TabOK Tryz.prog tab:=tab_ok (P:=Tryz.prog) (by kernel_rfl)
theorem eqt64:EqT Tryz.prog 64:=⟨by kernel_rfl,by kernel_rfl,by kernel_rfl⟩
theorem ti3:ti tab 3=some ⟨.int .i64,1,8,[.int .i64 0]⟩:=rfl
theorem ti5:ti tab 5=some ⟨.int .u8,1,1,[.int .u8 0]⟩:=rfl
theorem ti9:ti tab 9=some ⟨.str,1,16,[.string ByteArray.empty]⟩:=rfl
theorem ti22:ti tab 22=some ⟨.slice 30,1,24,[.slice none 0 0]⟩:=rfl
theorem ti28:ti tab 28=some ⟨.slice 5,1,24,[.slice none 0 0]⟩:=rfl
theorem ti30:ti tab 30=some ⟨.struct [(3,0),(28,1),(9,2)],3,48,[.int .i64 0,.slice none 0 0,.string ByteArray.empty]⟩:=rfl
end
end Go.Proofs.YtbbeiinofainlaaGreatDoor.Ab
end
