/- The texts that storePrintsCard_holds leans on, part 3. -/
import Derived.Test.YtbbeiinofainlaaGreatDoorVg92
set_option linter.all false
set_option maxRecDepth 100000
set_option maxHeartbeats 80000000
noncomputable section
namespace Go.Proofs.YtbbeiinofainlaaGreatDoor.Ab
section
open Go
inductive Step (σ τ:Type) where
 | next (s:σ)
 | done (t:τ)
def loopN {σ τ:Type}(f:σ→Option (Step σ τ)):Nat→σ→Option τ
 | 0,_=>none
 |
  n+1,s=>match f s with
  | none=>none
  | some (.next s')=>loopN f n s'
  | some (.done t)=>some t
theorem Klt {σ τ:Type}{f:σ→Option (Step σ τ)}:∀ {n m:Nat} {s:σ} {t t':τ},loopN f n s=some t→loopN f m s=some t'→t=t'
 | 0,_,_,_,_,h,_=>by simp [loopN] at h
 | _+1,0,_,_,_,_,h=>by simp [loopN] at h
 |
  n+1,m+1,s,t,t',h,k=>by
  simp only [loopN] at h k;cases hf:f s with
  | none=>rw [hf] at h;cases h
  |
   some x=>
   rw [hf] at h k;cases x with
   | next s'=>exact Klt h k
   | done u=>simp at h k;rw [← h,← k]
open Classical in
def loopM {σ τ:Type}(f:σ→Option (Step σ τ))(s:σ):Option τ:=if h:∃ n t,loopN f n s=some t then some h.choose_spec.choose else none
theorem Ki8 {σ τ:Type}{f:σ→Option (Step σ τ)}{n:Nat}{s:σ}{t:τ}(h:loopN f n s=some t):loopM f s=some t:=by
 have hx:∃ n t,loopN f n s=some t:=⟨n,t,h⟩;unfold loopM;rw [dif_pos hx];exact congrArg some (Klt hx.choose_spec.choose_spec h)
theorem KgU {σ τ:Type}{f:σ→Option (Step σ τ)}{s:σ}{t:τ}(h:loopM f s=some t):∃ n,loopN f n s=some t:=by
 unfold loopM at h;split at h
 ·rename_i hx;simp only [Option.some.injEq] at h;exact ⟨_,h ▸ hx.choose_spec.choose_spec⟩
 cases h
theorem KbA {σ τ:Type}{f:σ→Option (Step σ τ)}{s:σ}{t:τ}(h:f s=some (.done t)):loopM f s=some t:=Ki8 (n:=1) (by simp [loopN,h])
theorem KcM {σ τ:Type}{f:σ→Option (Step σ τ)}{s s':σ}(h:f s=some (.next s')):loopM f s=loopM f s':=by
 cases e:loopM f s' with
 |
  some t=>
  obtain ⟨n,hn⟩:=KgU e;exact Ki8 (n:=n+1) (by simp [loopN,h,hn])
 |
  none=>
  cases a:loopM f s with
  | none=>rfl
  |
   some t=>
   obtain ⟨n,hn⟩:=KgU a;cases n with
   | zero=>simp [loopN] at hn
   |
    succ n=>
    simp only [loopN,h] at hn;rw [Ki8 hn] at e;cases e
def Yes {α:Type}(m:Option α)(φ:α→Prop):Prop:=∃ x,m=some x∧φ x
section
variable {α β : Type} {φ : α → Prop} {ψ : β → Prop}
theorem Ka {m:Option α}{f:α→Option β}(h:Yes (m.bind f) ψ):∃ a,m=some a∧Yes (f a) ψ:=by
 obtain ⟨x,h1,h2⟩:=h;rw [Option.bind_eq_some_iff] at h1;obtain ⟨a,b,c⟩:=h1;exact ⟨a,b,x,c,h2⟩
theorem yes_t {c:Bool}{a b:Option α}(hc:c=true)(h:Yes (bif c then a else b) φ):Yes a φ:=by subst hc;exact h
theorem yes_f {c:Bool}{a b:Option α}(hc:c=false)(h:Yes (bif c then a else b) φ):Yes b φ:=by subst hc;exact h
theorem KE {m:Option α}{r:α}(h:m=some r):Yes m (fun x=>x=r):=⟨r,h,rfl⟩
theorem Kf {a r:α}(h:Yes (some a) (fun x=>x=r)):a=r:=by obtain ⟨x,h1,h2⟩:=h;cases h1;exact h2
theorem yes_m {m:Option α}(h:Yes m φ):∃ a,m=some a∧Yes (some a) φ:=by
 obtain ⟨x,h1,h2⟩:=h;exact ⟨x,h1,x,rfl,h2⟩
theorem yes_none (h:Yes none φ):False:=by obtain ⟨x,h1,_⟩:=h;cases h1
def need (p:Bool):Option Unit:=bif p then some () else none
theorem KdX {p:Bool}{u:Unit}(h:need p=some u):p=true:=by
 cases p with
 | true=>rfl
 | false=>cases h
def idx (xs:List α)(i:Int):Option α:=bif decide (0≤i) then xs[i.toNat]? else none
theorem Kis {xs:List α}{i:Int}{x:α}(h:idx xs i=some x):0≤i∧xs[i.toNat]? = some x:=by
 unfold idx at h;by_cases hi:0≤i
 ·rw [decide_eq_true hi] at h;exact ⟨hi,h⟩
 rw [decide_eq_false hi] at h;cases h
theorem Ks {xs:List α}{i:Int}{x:α}(h:idx xs i=some x):0≤i:=(Kis h).1
theorem KD {xs:List α}{i:Int}{x:α}{e:α→D}(h:idx xs i=some x):(xs.map e)[i.toNat]? = some (e x):=by
 rw [List.getElem?_map,(Kis h).2];rfl
theorem Kdq (xs:List α)(n:Nat):idx xs (n:Int)=xs[n]?:=by simp [idx]
def cutL (xs:List α)(l h:Int):Option (List α):=bif decide (0≤l) && decide (l≤h) && decide (h≤(xs.length:Int)) then some ((xs.drop l.toNat).take (h.toNat - l.toNat)) else none
theorem Kit {xs ys:List α}{l h:Int}(e:cutL xs l h=some ys):ys=(xs.drop l.toNat).take (h.toNat - l.toNat)∧l=(l.toNat:Int)∧h=(h.toNat:Int)∧l.toNat≤h.toNat∧h.toNat≤xs.length:=by
 unfold cutL at e;cases hc:decide (0≤l) && decide (l≤h) && decide (h≤(xs.length:Int)) with
 | false=>rw [hc] at e;cases e
 |
  true=>
  rw [hc] at e;simp only [Bool.and_eq_true,decide_eq_true_eq] at hc;obtain ⟨⟨h1,h2⟩,a⟩:=hc;simp only [cond_true,Option.some.injEq] at e;exact ⟨e.symm,by omega,by omega,by omega,by omega⟩
def app (bb:Nat)(xs ys:List α):Option (List α):=bif decide ((xs.length+ys.length)*bb≤140737488355328) then some (xs++ys) else none
theorem KeL {bb:Nat}{xs ys zs:List α}(h:app bb xs ys=some zs):zs=xs++ys∧(xs.length+ys.length)*bb≤140737488355328:=by
 unfold app at h;cases hc:decide ((xs.length+ys.length)*bb≤140737488355328) with
 | false=>rw [hc] at h;cases h
 |
  true=>
  rw [hc] at h;simp only [cond_true,Option.some.injEq] at h;exact ⟨h.symm,of_decide_eq_true hc⟩
theorem Kiu {bb:Nat}{xs ys:List α}(h:(xs.length+ys.length)*bb≤140737488355328):app bb xs ys=some (xs++ys):=by
 unfold app;rw [decide_eq_true h];rfl
theorem KcH {bb:Nat}{xs ys zs:List α}{e:α→D}(h:app bb xs ys=some zs):((xs.map e).length+(ys.map e).length)*bb≤140737488355328:=by
 simpa using (KeL h).2
theorem Kiv {bb:Nat}{xs ys zs:List α}{e:α→D}(h:app bb xs ys=some zs):xs.map e++ys.map e=zs.map e:=by
 rw [(KeL h).1,List.map_append]
theorem K2 {xs:List α}{e:α→D}:(xs.map e).length=xs.length:=List.length_map _
end
def WkC (d d':D):Prop:=∀ H us,RepC H d us→RepC H d' us
def WkR (ds ds':List D):Prop:=∀ H us,Reps H ds us→Reps H ds' us
theorem WkC.refl (d:D):WkC d d:=fun _ _ h=>h
theorem WkC.no {k:Nat}{xs:List D}{c:Cap}:WkC (.lst k xs c) (.lst k xs .no):=fun H us h=>by
 simp only [RepC] at h ⊢;obtain ⟨y,e,_,h⟩:=h;exact ⟨y,e,trivial,h⟩
theorem WkC.nil {k k':Nat}{c:Cap}:WkC (.lst k [] c) (.lst k' [] .no):=fun H us h=>by
 simp only [RepC] at h ⊢;obtain ⟨y,e,_,h⟩:=h;rcases h with ⟨_,h⟩|⟨b,off,m,a,d,f⟩
 ·exact ⟨y,e,trivial,.inl ⟨by trivial,h⟩⟩
 exact ⟨y,e,trivial,.inr ⟨b,off,m,a,d,by simp [Els]⟩⟩
theorem WkC.nilF {k k':Nat}:WkC (.lst k [] .full) (.lst k' [] .full):=fun H us h=>by
 simp only [RepC] at h ⊢;obtain ⟨y,e,h0,h⟩:=h;rcases h with ⟨_,h⟩|⟨b,off,m,a,c,d⟩
 ·exact ⟨y,e,h0,.inl ⟨by trivial,h⟩⟩
 exact ⟨y,e,h0,.inr ⟨b,off,m,a,c,by simp [Els]⟩⟩
theorem WkC.agg {ds ds':List D}(h:WkR ds ds'):WkC (.agg ds) (.agg ds'):=fun H us k=>by
 simp only [RepC] at k ⊢;exact h H us k
theorem WkC.of_eq {d d':D}(h:d=d'):WkC d d':=h ▸ WkC.refl d
theorem WkR.refl (ds:List D):WkR ds ds:=fun _ _ h=>h
theorem WkR.nil:WkR [] []:=WkR.refl _
theorem WkR.cons {d d':D}{ds ds':List D}(h:WkC d d')(hf:d'.flat=d.flat)(k:WkR ds ds'):WkR (d::ds) (d'::ds'):=fun H us q=>by
 simp only [Reps] at q ⊢;obtain ⟨u,us',e,⟨h1,h2,a⟩,b⟩:=q;exact ⟨u,us',e,⟨h H _ h1,h2,hf.trans a⟩,k H _ b⟩
inductive WkE:List D→List D→Prop
 | nil:WkE [] []
 | cons {d d':D} {ds ds':List D} (h:WkC d d') (k:WkE ds ds'):WkE (d::ds) (d'::ds')
theorem WkE.refl:∀ ds:List D,WkE ds ds
 | []=>.nil
 | _::ds=>.cons (WkC.refl _) (WkE.refl ds)
theorem WkE.els {H:Hp}{k b:Nat}:∀ {ds ds':List D} {off:Nat},WkE ds ds'→Els H k b off ds→Els H k b off ds'
 | _,_,_,.nil,h=>h
 |
  _,_,_,.cons h1 h2,h=>by
  simp only [Els] at h ⊢;obtain ⟨⟨us,a,c,d⟩,e⟩:=h;exact ⟨⟨us,a,h1 H us c,d⟩,h2.els e⟩
theorem WkE.length {ds ds':List D}(h:WkE ds ds'):ds.length=ds'.length:=by
 induction h with
 | nil=>rfl
 | cons _ _ ih=>simp [ih]
theorem WkE.append {ds ds' es es':List D}(h:WkE ds ds')(k:WkE es es'):WkE (ds++es) (ds'++es'):=by
 induction h with
 | nil=>exact k
 | cons h1 _ ih=>exact .cons h1 ih
theorem WkC.lst {k:Nat}{xs ys:List D}{c:Cap}(h:WkE xs ys):WkC (.lst k xs c) (.lst k ys c):=fun H us q=>by
 simp only [RepC] at q ⊢;obtain ⟨y,e,hc,q⟩:=q;refine ⟨y,e,hc,?_⟩;rcases q with ⟨a,d⟩|⟨b,off,m,f,g,j⟩
 ·subst a;cases h;exact .inl ⟨rfl,d⟩
 exact .inr ⟨b,off,m,by rw [← h.length];exact f,by rw [← h.length];exact g,h.els j⟩
theorem WkC.trans {a b c:D}(h:WkC a b)(k:WkC b c):WkC a c:=fun H us q=>k H us (h H us q)
theorem WkC.wk {d d':D}(h:WkC d d')(hs:∀ y,d.shape y=true→d'.shape y=true):Wk d d':=fun H y q=>⟨h H _ q.1,hs y q.2⟩
theorem shape_agg {l l':List D}:∀ y,(D.agg l).shape y=true→(D.agg l').shape y=true:=fun y h=>by cases y<;>first|rfl|cases h
theorem Klu {k k':Nat}{l l':List D}{c c':Cap}:∀ y,(D.lst k l c).shape y=true→(D.lst k' l' c').shape y=true:=fun y h=>by cases y<;>first|rfl|cases h
theorem Wk.agg {ds ds':List D}(h:WkR ds ds'):Wk (.agg ds) (.agg ds'):=(WkC.agg h).wk shape_agg
theorem Wk.lst0 {k:Nat}{xs ys:List D}{c:Cap}(h:WkE xs ys):Wk (.lst k xs c) (.lst k ys c):=(WkC.lst h).wk Klu
theorem Wk.lst {k:Nat}{xs ys:List D}{c:Cap}(h:WkE xs ys):Wk (.lst k xs c) (.lst k ys .no):=((WkC.lst h).trans WkC.no).wk Klu
theorem Wk.trans {a b c:D}(h:Wk a b)(k:Wk b c):Wk a c:=fun H y q=>k H y (h H y q)
theorem WkS.trans {C:Ctx}{a b c:S}(h:WkS C a b)(k:WkS C b c):WkS C a c:=fun H x w c1 d=>by
 obtain ⟨H1,l1,c2,e⟩:=h H x w c1 d;obtain ⟨H2,l2,c3,f⟩:=k H1 x w c2 e;exact ⟨H2,Hp.le_trans l1 l2,c3,f⟩
theorem WkS.refl {C:Ctx}(s:S):WkS C s s:=fun H _ _ c t=>⟨H,Hp.le_refl H,c,t⟩
theorem WkS.blk {C:Ctx}{t:List (Nat×D)}{h h':List (Nat×Blk)}{k:List (Nat×Value)}{b:Nat}{ds ds':List D}{T:TypeId}(j:Nat)(hb:h[j]? = some (b,.cells ds T))(hw:WkR ds ds')(e:h.set j (b,.cells ds' T)=h'):WkS C ⟨t,h,k⟩ ⟨t,h',k⟩:=fun H a w c kt=>by
 subst e;refine ⟨H,Hp.le_refl H,?_,kt⟩;obtain ⟨us,h1,h2,d⟩:=c.blks _ (List.mem_of_getElem? hb);have hlt:=(List.getElem?_eq_some_iff.1 hb).1;have hget:=(List.getElem?_eq_some_iff.1 hb).2;have hcl:KP (h.set j (b,Blk.cells ds' T)) k=KP h k:=by
  exact KiY hb rfl
 refine ⟨c.ag,c.le,c.new,c.same,c.size,?_,c.toks,by rw [hcl];exact c.nd,by rw [hcl];exact c.own,c.env⟩;intro p hp;rcases List.mem_or_eq_of_mem_set hp with hp|hp
 ·exact c.blks p hp
 subst hp;exact ⟨us,h1,hw H us h2,d⟩
theorem TokOK.full {H:Hp}{w:World}{k:Nat}{y:Value}(h:CapOK .full y):TokOK H w (k,y):=fun a n m e hlt=>by
 subst e;simp only [CapOK] at h;omega
theorem KlH {k:Nat}{y:Value}(h:CapOK .full y):Kcn (k,y)=[]:=by
 unfold Kcn;split
 ·rename_i b a n m e;simp only [Prod.mk.injEq] at e;obtain ⟨_,e⟩:=e;subst e;simp only [CapOK] at h;rw [if_neg (by omega)]
 rfl
theorem Core.tokFull {C:Ctx}{H:Hp}{h:List (Nat×Blk)}{k:List (Nat×Value)}{w:World}(c:Core C H h k w)(kk:Nat){y:Value}(hy:CapOK .full y):Core C H h ((kk,y)::k) w:=by
 have hcl:KP h ((kk,y)::k)=KP h k:=by unfold KP;rw [List.flatMap_cons,KlH hy];rfl
 refine ⟨c.ag,c.le,c.new,c.same,c.size,c.blks,?_,by rw [hcl];exact c.nd,by rw [hcl];exact c.own,c.env⟩;intro p hp;rcases List.mem_cons.1 hp with rfl|hp
 ·exact TokOK.full hy
 exact c.toks p hp
theorem Kiw {H:Hp}{k:Nat}{xs:List D}{y:Value}(h:Rep H (.lst k xs .full) y):CapOK .full y∧Rep H (.lst k xs (.cur y)) y:=by
 obtain ⟨hc,hr⟩:=KbK h;refine ⟨hc,?_,by have:=h.2;cases y<;>first|rfl|cases this⟩;have h1:=h.1;simp only [RepC] at h1 ⊢;obtain ⟨y',e,_,a⟩:=h1;have:y'=y:=by
  have hs:=h.2;cases y<;>simp [D.shape] at hs<;>simp [Value.cells] at e<;>exact e.symm
 subst this;exact ⟨y',e,rfl,a⟩
section
variable {P : Program} {C : Ctx} {N : Nat} {ops rest : List Oper} {o : Oper} {t : List (Nat × D)} {h : List (Nat × Blk)} {k : List (Nat × Value)} {Q : Exit → S → Prop} {tab : List (Option TI)}
def WkX {Y:Type}(C:Ctx)(s:S)(S1:Y→S):Prop:=∀ H a w,Core C H s.h s.k w→TOK H s.t a→∃ y H',H.le H'∧Core C H' (S1 y).h (S1 y).k w∧TOK H' (S1 y).t a
theorem WkX.of {Y:Type}{s:S}{S1:Y→S}(y:Y)(h:WkS C s (S1 y)):WkX C s S1:=fun H a w c t=>by
 obtain ⟨H',h1,h2,b⟩:=h H a w c t;exact ⟨y,H',h1,h2,b⟩
theorem WkX.wk {Y:Type}{s s':S}{S1:Y→S}(h:WkS C s s')(g:WkX C s' S1):WkX C s S1:=fun H a w c t=>by
 obtain ⟨H',h1,h2,b⟩:=h H a w c t;obtain ⟨y,H2,g1,d,e⟩:=g H' a w h2 b;exact ⟨y,H2,Hp.le_trans h1 g1,d,e⟩
theorem Ke1 {t:List (Nat×D)}{H:Hp}{a:Act}(kt:TOK H t a){i:Nat}{d:D}{v:Value}(h1:a.tmps[i]? = some v)(h2:Rep H d v):TOK H ((i,d)::t) a:=by
 intro j d' e;simp only [look] at e;cases hb:Nat.beq i j with
 |
  true=>
  rw [hb] at e;simp at e;subst e;have:=Nat.eq_of_beq_eq_true hb;subst this;exact ⟨v,h1,h2⟩
 | false=>rw [hb] at e;exact kt j d' (by simpa using e)
theorem WkX.tokF {Y:Type}{S1:Y→S}{i kk:Nat}{xs:List D}(hx:look t i=some (.lst kk xs .full))(g:∀ y,WkX C ⟨(i,.lst kk xs (.cur y))::t,h,(kk,y)::k⟩ S1):WkX C ⟨t,h,k⟩ S1:=fun H a w c kt=>by
 obtain ⟨v,h1,h2⟩:=kt i _ hx;obtain ⟨b,d⟩:=Kiw h2;exact g v H a w (c.tokFull kk b) (Ke1 kt h1 d)
theorem rep_nil {H:Hp}{k k':Nat}{c:Cap}{y:Value}(h:Rep H (.lst k [] c) y)(hc:CapOK c y):Rep H (.lst k' [] c) y:=by
 obtain ⟨h1,h2⟩:=h;refine ⟨?_,by cases y<;>first|rfl|cases h2⟩;simp only [RepC] at h1 ⊢;obtain ⟨z,e,d,a⟩:=h1;refine ⟨z,e,d,?_⟩;rcases a with ⟨_,a⟩|⟨b,off,m,f,g,j⟩
 ·exact .inl ⟨by trivial,a⟩
 exact .inr ⟨b,off,m,f,g,by simp [Els]⟩
theorem WkX.tokN {Y:Type}{S1:Y→S}{i b:Nat}(kk:Nat)(hx:look t i=some (.lst b [] .full))(g:∀ y,WkX C ⟨(i,.lst kk [] (.cur y))::t,h,(kk,y)::k⟩ S1):WkX C ⟨t,h,k⟩ S1:=fun H a w c kt=>by
 obtain ⟨v,h1,h2⟩:=kt i _ hx;have d:=rep_nil (k':=kk) h2 (KbK h2).1;obtain ⟨e,f⟩:=Kiw d;exact g v H a w (c.tokFull kk e) (Ke1 kt h1 f)
theorem Ki9 {H:Hp}{w:World}{b off a:Nat}{ds:List D}{T:TypeId}{xs:List D}(kk j:Nat)(hb:h[j]? = some (b,.cells ds T))(hd:ds[off]? = some (.lst a xs .full))(hk:a=kk∨xs=[])(c:Core C H h k w):∃ y,Core C H (h.set j (b,.cells (ds.set off (.lst kk xs (.cur y))) T)) ((kk,y)::k) w:=by
 obtain ⟨us,h1,h2,f⟩:=c.blks _ (List.mem_of_getElem? hb);obtain ⟨u,g,n,d,q⟩:=Khl h2 hd;have hr:Rep H (.lst a xs .full) u:=Kbi n d q;have hr':Rep H (.lst kk xs .full) u:=by
  rcases hk with rfl|rfl
  ·exact hr
  exact rep_nil hr (KbK hr).1
 obtain ⟨r,s⟩:=Kiw hr';refine ⟨u,?_⟩;have c1:=c.tokFull kk r;have hcl:KP (h.set j (b,Blk.cells (ds.set off (.lst kk xs (.cur u))) T)) ((kk,u)::k)=KP h ((kk,u)::k):=by
  exact KiY hb rfl
 refine ⟨c1.ag,c1.le,c1.new,c1.same,c1.size,?_,c1.toks,by rw [hcl];exact c1.nd,by rw [hcl];exact c1.own,c1.env⟩;intro p hp;rcases List.mem_or_eq_of_mem_set hp with hp|hp
 ·exact c1.blks p hp
 subst hp;have e:=s.1;rw [Kdl d] at e;exact ⟨us,h1,reps_set off h2 g ⟨e,rfl⟩,f⟩
theorem WkX.cellF {Y:Type}{S1:Y→S}{b off d:Nat}{ds:List D}{T:TypeId}{xs:List D}(kk j:Nat)(hb:h[j]? = some (b,.cells ds T))(hd:ds[off]? = some (.lst d xs .full))(hk:d=kk∨xs=[])(g:∀ y,WkX C ⟨t,h.set j (b,.cells (ds.set off (.lst kk xs (.cur y))) T),(kk,y)::k⟩ S1):WkX C ⟨t,h,k⟩ S1:=fun H a w c kt=>by
 obtain ⟨y,c'⟩:=Ki9 kk j hb hd hk c;exact g y H a w c' kt
theorem WkS.perm {t t':List (Nat×D)}{h' hj:List (Nat×Blk)}{k' kj:List (Nat×Value)}(e:∀ i d,look t' i=some d→∃ d0,look t i=some d0∧Wk d0 d)(hh:h.Perm (h'++hj))(kk:k.Perm (k'++kj)):WkS C ⟨t,h,k⟩ ⟨t',h',k'⟩:=fun H a w c kt=>by
 refine ⟨H,Hp.le_refl H,(c.perm hh kk).drop (List.sublist_append_left _ _) (List.sublist_append_left _ _),?_⟩;intro i d hd;obtain ⟨d0,h1,h2⟩:=e i d hd;obtain ⟨v,b,f⟩:=kt i d0 h1;exact ⟨v,b,h2 H v f⟩
theorem KX {Y:Type}{c:Code}{s:S}{S1:Y→S}(hs:WkX C s S1)(g:∀ y,wpD P C N c (S1 y) Q):wpD P C N c s Q:=by
 rintro a w ⟨H,c0,kt,hN,hdf⟩;obtain ⟨y,H',hle,c',kt'⟩:=hs H a w c0 kt;exact g y a w ⟨H',c',kt',hN,hdf⟩
theorem Kaf {Y:Type}{c:Code}{s:S}(S1:Y→S)(h1:wpD P C N c s (fun x s'=>x=.normal∧WkX C s' S1))(h2:∀ s',WkX C s' S1→Q .normal s'):wpD P C N c s Q:=
 Kkq h1 fun _ s' ⟨e,hw⟩=>by subst e;exact h2 s' hw
def midX {τ ρ Y:Type}(C:Ctx)(S1:τ→Y→S)(Q:Exit→S→Prop)(x:τ⊕ρ):Exit→S→Prop:=fun e s=>
 match x with
 | .inl v=>e=.normal∧WkX C s (S1 v)
 | .inr _=>Q e s
theorem KaG {τ ρ Y:Type}{c:Code}{s:S}(S1:τ→Y→S)(x:τ⊕ρ)(h1:wpD P C N c s (midX C S1 Q x))(h2:∀ v s',x=.inl v→WkX C s' (S1 v)→Q .normal s'):wpD P C N c s Q:=by
 refine Kkq h1 fun e s' a=>?_
 cases x with
 |
  inl v=>
  obtain ⟨b,hw⟩:=a;subst b;exact h2 v s' rfl hw
 | inr r=>exact a
theorem WkX.trans {Y Z:Type}{s:S}{S1:Y→S}{S2:Z→S}(h:WkX C s S1)(g:∀ y,WkX C (S1 y) S2):WkX C s S2:=fun H a w c kt=>by
 obtain ⟨y,H1,l1,c1,b⟩:=h H a w c kt;obtain ⟨z,H2,l2,c2,d⟩:=g y H1 a w c1 b;exact ⟨z,H2,Hp.le_trans l1 l2,c2,d⟩
def LP {σ τ:Type}(t:τ)(G:σ→Prop):Step σ τ→Prop
 | .next s=>G s
 | .done u=>u=t
theorem Kaw {σ τ:Type}{t:τ}{G:σ→Prop}{s:σ}(h:Yes (some (Step.next s)) (LP t G)):G s:=by obtain ⟨x,h1,h2⟩:=h;cases h1;exact h2
theorem K6 {σ τ:Type}{t u:τ}{G:σ→Prop}(h:Yes (some (Step.done (σ:=σ) u)) (LP t G)):u=t:=by obtain ⟨x,h1,h2⟩:=h;cases h1;exact h2
theorem yes_loop {σ τ:Type}{f:σ→Option (Step σ τ)}{t:τ}{n:Nat}{x:σ}(h:loopN f (n+1) x=some t):Yes (f x) (LP t fun x'=>loopN f n x'=some t):=by
 simp only [loopN] at h;cases e:f x with
 | none=>rw [e] at h;cases h
 |
  some st=>
  rw [e] at h;cases st with
  | next s'=>exact ⟨_,rfl,h⟩
  | done u=>exact ⟨_,rfl,by simpa [LP] using h⟩
theorem KaO {σ τ Y:Type}{f:σ→Option (Step σ τ)}{x0:σ}{u:τ}{s:S}{c:Code}(hl:loopM f x0=some u)(St:σ→Y→S)(hw:WkX C s (St x0))
  (hb:∀ (G:σ→Prop) x y,Yes (f x) (LP u G)→wpD P C N c (St x y) (thenD (fun s'=>∃ x',G x'∧WkX C s' (St x')) Q)):wpD P C N (.loop c) s Q:=by
 obtain ⟨n,hn⟩:=KgU hl;have key:∀ n x y,loopN f n x=some u→KjZ P C N c Q n (St x y):=by
  intro n;induction n with
  | zero=>intro x y h;simp [loopN] at h
  |
   succ n ih=>
   intro x y h;refine KlQ (Kkq (hb _ x y (yes_loop h)) ?_);intro e s' q;cases e with
   |
    normal=>
    obtain ⟨x',h1,h2⟩:=q;rintro a w ⟨H,c0,kt,hN,hdf⟩;obtain ⟨y',H',hle,c',kt'⟩:=h2 H a w c0 kt;exact ih x' y' h1 a w ⟨H',c',kt',hN,hdf⟩
   | _=>exact q
 exact KX hw (fun y=>wpD_loop n (key n x0 y hn))
def retX (C:Ctx)(tab:List (Option TI))(rs:List ResultVar)(R:D→List (Nat×Blk)→List (Nat×Value)→Prop)(x:Exit)(s:S):Prop:=∀ H a w,Core C H s.h s.k w→TOK H s.t a→∃ s' H',H.le H'∧Core C H' s'.h s'.k w∧TOK H' s'.t a∧retD tab rs R x s'
theorem retX.of {rs:List ResultVar}{R:D→List (Nat×Blk)→List (Nat×Value)→Prop}{x:Exit}{s s':S}(h:WkS C s s')(g:retD tab rs R x s'):retX C tab rs R x s:=fun H a w c kt=>by
 obtain ⟨H',h1,h2,b⟩:=h H a w c kt;exact ⟨s',H',h1,h2,b,g⟩
theorem retX.wk {rs:List ResultVar}{R:D→List (Nat×Blk)→List (Nat×Value)→Prop}{x:Exit}{s s':S}(h:WkS C s s')(g:retX C tab rs R x s'):retX C tab rs R x s:=fun H a w c kt=>by
 obtain ⟨H',h1,h2,b⟩:=h H a w c kt;obtain ⟨d,H2,g1,e⟩:=g H' a w h2 b;exact ⟨d,H2,Hp.le_trans h1 g1,e⟩
theorem retX.wkX {Y:Type}{S1:Y→S}{rs:List ResultVar}{R:D→List (Nat×Blk)→List (Nat×Value)→Prop}{x:Exit}{s:S}(h:WkX C s S1)(g:∀ y,retX C tab rs R x (S1 y)):retX C tab rs R x s:=fun H a w c kt=>by
 obtain ⟨y,H',h1,h2,b⟩:=h H a w c kt;obtain ⟨d,H2,g1,e⟩:=g y H' a w h2 b;exact ⟨d,H2,Hp.le_trans h1 g1,e⟩
theorem retX.tokF {rs:List ResultVar}{R:D→List (Nat×Blk)→List (Nat×Value)→Prop}{x:Exit}{i kk:Nat}{xs:List D}(hx:look t i=some (.lst kk xs .full))(g:∀ y,retX C tab rs R x ⟨(i,.lst kk xs (.cur y))::t,h,(kk,y)::k⟩):retX C tab rs R x ⟨t,h,k⟩:=fun H a w c kt=>by
 obtain ⟨v,h1,h2⟩:=kt i _ hx;obtain ⟨b,d⟩:=Kiw h2;exact g v H a w (c.tokFull kk b) (Ke1 kt h1 d)
theorem retX.tokN {rs:List ResultVar}{R:D→List (Nat×Blk)→List (Nat×Value)→Prop}{x:Exit}{i b:Nat}(kk:Nat)(hx:look t i=some (.lst b [] .full))(g:∀ y,retX C tab rs R x ⟨(i,.lst kk [] (.cur y))::t,h,(kk,y)::k⟩):retX C tab rs R x ⟨t,h,k⟩:=fun H a w c kt=>by
 obtain ⟨v,h1,h2⟩:=kt i _ hx;have d:=rep_nil (k':=kk) h2 (KbK h2).1;obtain ⟨e,f⟩:=Kiw d;exact g v H a w (c.tokFull kk e) (Ke1 kt h1 f)
theorem retX.cellF {rs:List ResultVar}{R:D→List (Nat×Blk)→List (Nat×Value)→Prop}{x:Exit}{b off d:Nat}{ds:List D}{T:TypeId}{xs:List D}(kk j:Nat)(hb:h[j]? = some (b,.cells ds T))(hd:ds[off]? = some (.lst d xs .full))(hk:d=kk∨xs=[])(g:∀ y,retX C tab rs R x ⟨t,h.set j (b,.cells (ds.set off (.lst kk xs (.cur y))) T),(kk,y)::k⟩):retX C tab rs R x ⟨t,h,k⟩:=fun H a w c kt=>by
 obtain ⟨y,c'⟩:=Ki9 kk j hb hd hk c;exact g y H a w c' kt
theorem KV {f:FuncId}{fn:Func}{c:Code}{ds:List D}{R:D→List (Nat×Blk)→List (Nat×Value)→Prop}{rs:List ResultVar}(ht:TabOK P tab)
  (hf : P.funcs[f]? = some fn) (hb : fn.body = some c) (hn : (fn.name == "runtime.NumGoroutine") = false) {N : Nat} (hN : fn.ntmps = N) (hl : Nat.ble ds.length N = true) (hrs : fn.results.toList = rs)
  (hw:∀ C,wpD P C N c ⟨argT 0 ds,h,k⟩ (retX C tab rs R)):CallsD P f ds h k R:=by
 refine enter ht hf hb hn hN hl hrs fun C=>?_
 intro a w r;refine wp_mono (hw C a w r) ?_;rintro x a' w' ⟨s,⟨H,c0,kt,hN,hdf⟩,hk⟩;obtain ⟨s',H',hle,c',kt',hr⟩:=hk H a' w' c0 kt;exact ⟨s',⟨H',c',kt',hN,hdf⟩,hr⟩
theorem Ke2 {s:S}:resL tab s [] []:=rfl
theorem KdV {s:S}{r:ResultVar}{rs:List ResultVar}{d:D}{ds:List D}(h1:Khn tab s r d)(h2:resL tab s rs ds):resL tab s (r::rs) (d::ds):=⟨d,ds,rfl,h1,h2⟩
theorem KdM {s:S}{i:Nat}{d:D}(h1:look s.t i=some d):Khn tab s (.tmp i) d:=h1
theorem KlY {s:S}{a b off:Nat}{T T':TypeId}{ds:List D}{i:TI}{d:D}(j:Nat)(h1:look s.t a=some (.ptr b off))(h2:s.h[j]? = some (b,Blk.cells ds T'))(c:ti tab T=some i)(e:partD i ds off=some d):Khn tab s (.cell a T) d:=⟨j,b,off,ds,T',i,h1,h2,c,e⟩
theorem Kfl {R:D→List (Nat×Blk)→List (Nat×Value)→Prop}{rs:List ResultVar}{x:Exit}{s:S}{ds:List D}{hh:List (Nat×Blk)}{kk:List (Nat×Value)}(hx:x=.ret∨x=.normal)(hr:resL tab s rs ds)(hs:hh.Sublist s.h)(ks:kk.Sublist s.k)(g:R (wrapD ds) hh kk):retD tab rs R x s:=⟨hx,ds,hh,kk,hr,hs,ks,g⟩
theorem x_cut {α:Type}{a:α→D}{kk:Nat}{T e:TypeId}{x:Operand}{lo hi:Option Operand}{l' n':Option Int}{xs ys:List α}{l n:Int}{c:Cap}{b tie:TI}(q:cutL xs l n=some ys)(hT:TabOK P tab)(ho:o.op=.slice T x lo hi none)
  (hx:opD t x=some (.lst kk (xs.map a) c)) (f:optI t lo=some l') (g:optI t hi=some n') (hti:ti tab T=some b) (hs:b.d=.slice e) (hte:ti tab e=some tie) (hk:tie.size=kk) (h1:l'.getD 0=l) (h2:n'.getD xs.length=n):Ex P o t (.lst kk (ys.map a) .no):=by
 obtain ⟨j,p,r,s,u⟩:=Kit q;have:=x_part hT ho hx f g hti hs hte hk (h1.trans p) (by rw [K2];exact h2.trans r) s (by rw [K2];exact u);rw [j,List.map_take,List.map_drop];exact this
theorem p_cut {α:Type}{a:α→D}{i kk:Nat}{T e:TypeId}{x:Operand}{lo hi:Option Operand}{l' n':Option Int}{xs ys:List α}{l n:Int}{c:Cap}{b tie:TI}(q:cutL xs l n=some ys)(hT:TabOK P tab)(ho:o.op=.slice T x lo hi none)(hw:wantD ops t o=some true)(hd:o.dst=some i)(f:Nat.blt i N=true)
  (hx:opD t x=some (.lst kk (xs.map a) c)) (j:optI t lo=some l') (p:optI t hi=some n') (hti:ti tab T=some b) (hs:b.d=.slice e) (hte:ti tab e=some tie) (hk:tie.size=kk) (h1:l'.getD 0=l) (h2:n'.getD xs.length=n)
  (g:opsD P C N ops rest ⟨(i,.lst kk (ys.map a) .no)::t,h,k⟩ Q):opsD P C N ops (o::rest) ⟨t,h,k⟩ Q:=by
 obtain ⟨r,s,u,v,w⟩:=Kit q;refine p_part hT ho hw hd f hx j p hti hs hte hk (h1.trans s) (by rw [K2];exact h2.trans u) v (by rw [K2];exact w) ?_;rw [r,List.map_take,List.map_drop] at g;exact g
theorem Kgf {α:Type}{a:α→D}{i kk:Nat}{xs ys zs:List α}{bb:Nat}{c:Cap}(q:app bb xs ys=some zs)(hx:look t i=some (.lst kk (xs.map a++ys.map a) c))(g:opsD P C N ops rest ⟨(i,.lst kk (zs.map a) c)::t,h,k⟩ Q):opsD P C N ops rest ⟨t,h,k⟩ Q:=
 p_eq hx (Wk.of_eq (by rw [Kiv q])) g
theorem KfF {α:Type}:∀ {l:List α} {j:Nat} {x y:α},l[j]? = some x→(y::l.eraseIdx j).Perm (l.set j y)
 | [],j,x,y,h=>by simp at h
 | a::l,0,x,y,h=>by simp
 |
  a::l,j+1,x,y,h=>by
  simp at h;simp only [List.eraseIdx_cons_succ,List.set_cons_succ];exact (List.Perm.swap a y _).trans ((KfF h).cons a)
end
section
variable {P : Program} {C : Ctx} {N : Nat} {ops rest : List Oper} {o : Oper} {t : List (Nat × D)} {h : List (Nat × Blk)} {k : List (Nat × Value)} {Q : Exit → S → Prop} {tab : List (Option TI)}
theorem Kat {τ ρ Y:Type}{S1:τ→Y→S}{s:S}{v:τ}(g:WkX C s (S1 v)):midX (ρ:=ρ) C S1 Q (.inl v) .normal s:=⟨rfl,g⟩
theorem Ka4 {τ ρ Y:Type}{S1:τ→Y→S}{s:S}{r:ρ}(g:Q .ret s):midX C S1 Q (.inr r) .ret s:=g
theorem CallsD.drop {f:FuncId}{ds:List D}{R:D→List (Nat×Blk)→List (Nat×Value)→Prop}{d1:D}(c:CallsD P f ds h k R)(hr:∀ d h k,R d h k→Wk d d1):CallsD P f ds h k (fun d h k=>d=d1∧h=[]∧k=[]):=by
 refine ⟨c.1,fun H w vs h1 h2 a b g=>(c.2 H w vs h1 h2 a b g).mono ?_⟩;rintro e w' ⟨v,H',d,h',k',j,n,p,q⟩;exact ⟨v,H',d1,[],[],j,hr d h' k' q H' v n,p.drop (List.nil_sublist _) (List.nil_sublist _),rfl,rfl,rfl⟩
theorem Ex.wk {d d':D}(h:Ex P o t d)(k:Wk d d'):Ex P o t d':=fun H a w kt=>let ⟨v,h1,h2⟩:=h H a w kt;⟨v,h1,k H v h2⟩
theorem ExE.wk {d d':D}(h:ExE P o t d)(k:Wk d d'):ExE P o t d':=fun H a w hA kt=>let ⟨v,w',H',h1,h2,b⟩:=h H a w hA kt;⟨v,w',H',h1,h2,k H' v b⟩
theorem p_cellF {b off c:Nat}{ds:List D}{T:TypeId}{xs:List D}(kk j:Nat)(hb:h[j]? = some (b,.cells ds T))(hd:ds[off]? = some (.lst c xs .full))(hk:c=kk∨xs=[])(g:∀ y,opsD P C N ops rest ⟨t,h.set j (b,.cells (ds.set off (.lst kk xs (.cur y))) T),(kk,y)::k⟩ Q):opsD P C N ops rest ⟨t,h,k⟩ Q:=by
 rintro a w ⟨H,c0,kt,hN,hdf⟩;obtain ⟨y,c'⟩:=Ki9 kk j hb hd hk c0;exact g y a w ⟨H,c',kt,hN,hdf⟩
theorem o_blk {b:Nat}{ds ds':List D}{T:TypeId}{h':List (Nat×Blk)}(j:Nat)(hb:h[j]? = some (b,.cells ds T))(hw:WkR ds ds')(e:h.set j (b,.cells ds' T)=h')(g:opsD P C N ops rest ⟨t,h',k⟩ Q):opsD P C N ops rest ⟨t,h,k⟩ Q:=
 ops_wk (s:=⟨t,h,k⟩) (s':=⟨t,h',k⟩) (WkS.blk j hb hw e) g
theorem w_eq {c:Code}{i:Nat}{d d':D}(hx:look t i=some d)(e:Wk d d')(g:wpD P C N c ⟨(i,d')::t,h,k⟩ Q):wpD P C N c ⟨t,h,k⟩ Q:=by
 rintro a w ⟨H,c0,kt,hN,hdf⟩;obtain ⟨v,h1,h2⟩:=kt i _ hx;exact g a w ⟨H,c0,Ke1 kt h1 (e H v h2),hN,hdf⟩
end
def eI64 (n:Int):D:=.v (.int .i64 n)
def eStr (s:ByteArray):D:=.v (.string s)
def eList {α:Type}(k:Nat)(e:α→D)(l:List α):D:=.lst k (l.map e) .no
end
section
open Go
def Le {α:Type}(m m':Option α):Prop:=∀ r,m=some r→m'=some r
theorem Le.refl {α:Type}(m:Option α):Le m m:=fun _ h=>h
theorem Le.none {α:Type}(m:Option α):Le Option.none m:=fun _ h=>by cases h
theorem Le.bind {α β:Type}{m m':Option α}{f f':α→Option β}(h:Le m m')(k:∀ x,Le (f x) (f' x)):Le (m.bind f) (m'.bind f'):=fun r e=>by
 rw [Option.bind_eq_some_iff] at e ⊢;obtain ⟨a,h1,h2⟩:=e;exact ⟨a,h a h1,k a r h2⟩
theorem Le.cond {α:Type}{c:Bool}{m m' n n':Option α}(h:Le m m')(k:Le n n'):Le (bif c then m else n) (bif c then m' else n'):=by
 cases c
 ·exact k
 exact h
theorem Le.elim {α β γ:Type}{f f':α→Option γ}{g g':β→Option γ}{x:α⊕β}(h:∀ a,Le (f a) (f' a))(k:∀ b,Le (g b) (g' b)):Le (Sum.elim f g x) (Sum.elim f' g' x):=by
 cases x
 ·exact h _
 exact k _
theorem Le.loop {σ τ:Type}{f f':σ→Option (Step σ τ)}{s:σ}(h:∀ s,Le (f s) (f' s)):Le (loopM f s) (loopM f' s):=fun r e=>by
 obtain ⟨n,hn⟩:=KgU e;have key:∀ n s,loopN f n s=some r→loopN f' n s=some r:=by
  intro n;induction n with
  | zero=>intro s h;simp [loopN] at h
  |
   succ n ih=>
   intro s e;simp only [loopN] at e ⊢;cases hf:f s with
   | none=>rw [hf] at e;cases e
   |
    some x=>
    rw [hf] at e;rw [h s x hf];cases x with
    | next s'=>exact ih s' e
    | done t=>exact e
 exact Ki8 (key n s hn)
open Classical in
def anyN {α:Type}(f:Nat→Option α):Option α:=if h:∃ n r,f n=some r then some h.choose_spec.choose else Option.none
theorem Kc4 {α:Type}{f:Nat→Option α}{r:α}(h:anyN f=some r):∃ n,f n=some r:=by
 unfold anyN at h;split at h
 ·rename_i hx;simp only [Option.some.injEq] at h;exact ⟨_,h ▸ hx.choose_spec.choose_spec⟩
 cases h
theorem KdY {α:Type}{f:Nat→Option α}(hle:∀ n,Le (f n) (f (n+1))){r:α}{n:Nat}(h:f n=some r):anyN f=some r:=by
 have up:∀ (k n:Nat) (r:α),f n=some r→f (n+k)=some r:=by
  intro k;induction k with
  | zero=>intro n r e;exact e
  | succ k ih=>intro n r e;exact hle _ _ (ih n r e)
 have hx:∃ n r,f n=some r:=⟨n,r,h⟩;unfold anyN;rw [dif_pos hx];have h1:=hx.choose_spec.choose_spec;have h2:=up n _ _ h1;have a:=up hx.choose _ _ h;rw [Nat.add_comm] at a;exact h2.symm.trans a
def catS (a b:ByteArray):Option ByteArray:=bif decide (((a.size+b.size:Nat):Int)≤IntKind.i64.max) then some (a++b) else none
theorem catS_ok {a b r:ByteArray}(h:catS a b=some r):r=a++b∧((a.size+b.size:Nat):Int)≤IntKind.i64.max:=by
 unfold catS at h;by_cases hc:((a.size+b.size:Nat):Int)≤IntKind.i64.max
 ·rw [decide_eq_true hc] at h;simp only [cond_true,Option.some.injEq] at h;exact ⟨h.symm,hc⟩
 rw [decide_eq_false hc] at h;cases h
theorem i64max:IntKind.i64.max=9223372036854775807:=by decide
theorem catS_of {a b:ByteArray}(h:a.size+b.size≤9223372036854775807):catS a b=some (a++b):=by
 unfold catS;rw [decide_eq_true (by rw [i64max];omega)];rfl
section
variable {P : Program} {C : Ctx} {N : Nat} {ops rest : List Oper} {o : Oper} {t : List (Nat × D)} {h : List (Nat × Blk)} {k : List (Nat × Value)} {Q : Exit → S → Prop} {tab : List (Option TI)}
theorem x_cat {xt yt:TypeId}{x y:Operand}{a b r:ByteArray}(q:catS a b=some r)(ho:o.op=.binOp .add xt x y yt)(hx:opD t x=some (.v (.string a)))(hy:opD t y=some (.v (.string b))):Ex P o t (.v (.string r)):=fun H ac w kt=>by
 obtain ⟨rfl,hl⟩:=catS_ok q;refine ⟨.string (a++b),?_,rep_v rfl⟩;unfold execOp;rw [ho];refine Kbb ?_;rw [KW (Kae kt hx),KW (Kae kt hy)];have hn:¬ IntKind.i64.max < ((a.size+b.size:Nat):Int):=by omega
 have h2:binOp .add xt (.string a) (.string b)=pure (.string (a++b)):=by
  unfold binOp Op.stringOp;simp only [gt_iff_lt];rw [if_neg hn]
 have h1:(eqGuard .add xt x y (.string a) (.string b)).run P w=.ok () w:=by simp [eqGuard]<;>rfl
 rw [Kw h1,h2];rfl
theorem p_cat {i:Nat}{xt yt:TypeId}{x y:Operand}{a b r:ByteArray}(q:catS a b=some r)(ho:o.op=.binOp .add xt x y yt)(hw:wantD ops t o=some true)(hd:o.dst=some i)(hi:Nat.blt i N=true)(hx:opD t x=some (.v (.string a)))(hy:opD t y=some (.v (.string b)))
 (g:opsD P C N ops rest ⟨(i,.v (.string r))::t,h,k⟩ Q):opsD P C N ops (o::rest) ⟨t,h,k⟩ Q:=Kdi (s:=⟨t,h,k⟩) hw hd hi (x_cat q ho hx hy) g
theorem x_max {T T':TypeId}{x y:Operand}{kk:IntKind}{a b:Int}(ho:o.op=.call ⟨.builtin .max,[x,y].toArray,#[T,T']⟩)(hx:opD t x=some (.v (.int kk a)))(hy:opD t y=some (.v (.int kk b))):Ex P o t (.v (.int kk (max a b))):=fun H ac w kt=>by
 refine ⟨.int kk (max a b),Kb9 (s:=Builtin.max_) ho (fun _ _=>rfl) ?_,rep_v rfl⟩;simp only [List.map_cons,List.map_nil,KW (Kae kt hx),KW (Kae kt hy)];show (pure (.int kk (if b > a then b else a)):Sem Value).run P w=_
 have:max a b=if b > a then b else a:=by split<;>omega
 rw [this];rfl
theorem p_max {i:Nat}{T T':TypeId}{x y:Operand}{kk:IntKind}{a b:Int}(ho:o.op=.call ⟨.builtin .max,[x,y].toArray,#[T,T']⟩)(hw:wantD ops t o=some true)(hd:o.dst=some i)(hi:Nat.blt i N=true)(hx:opD t x=some (.v (.int kk a)))(hy:opD t y=some (.v (.int kk b)))
 (g:opsD P C N ops rest ⟨(i,.v (.int kk (max a b)))::t,h,k⟩ Q):opsD P C N ops (o::rest) ⟨t,h,k⟩ Q:=Kdi (s:=⟨t,h,k⟩) hw hd hi (x_max ho hx hy) g
theorem x_min {T T':TypeId}{x y:Operand}{kk:IntKind}{a b:Int}(ho:o.op=.call ⟨.builtin .min,[x,y].toArray,#[T,T']⟩)(hx:opD t x=some (.v (.int kk a)))(hy:opD t y=some (.v (.int kk b))):Ex P o t (.v (.int kk (min a b))):=fun H ac w kt=>by
 refine ⟨.int kk (min a b),Kb9 (s:=Builtin.min_) ho (fun _ _=>rfl) ?_,rep_v rfl⟩;simp only [List.map_cons,List.map_nil,KW (Kae kt hx),KW (Kae kt hy)];show (pure (.int kk (if b < a then b else a)):Sem Value).run P w=_
 have:min a b=if b < a then b else a:=by split<;>omega
 rw [this];rfl
theorem p_min {i:Nat}{T T':TypeId}{x y:Operand}{kk:IntKind}{a b:Int}(ho:o.op=.call ⟨.builtin .min,[x,y].toArray,#[T,T']⟩)(hw:wantD ops t o=some true)(hd:o.dst=some i)(hi:Nat.blt i N=true)(hx:opD t x=some (.v (.int kk a)))(hy:opD t y=some (.v (.int kk b)))
 (g:opsD P C N ops rest ⟨(i,.v (.int kk (min a b)))::t,h,k⟩ Q):opsD P C N ops (o::rest) ⟨t,h,k⟩ Q:=Kdi (s:=⟨t,h,k⟩) hw hd hi (x_min ho hx hy) g
theorem Kj2 {i kk:Nat}{xt yt e:Nat}{x:Operand}{xs:List D}{c:Cap}{f:TI}(hT:TabOK P tab)(ho:o.op=.binOp .eql xt x (.const (.slice none 0 0)) yt)(hw:wantD ops t o=some true)(hd:o.dst=some i)(hi:Nat.blt i N=true)(hx:opD t x=some (.lst kk xs c))(j:ti tab xt=some f)(p:f.d=.slice e)
  (g:∀ b,(b=true→xs=[])→opsD P C N ops rest ⟨(i,.v (.bool b))::t,h,k⟩ Q):opsD P C N ops (o::rest) ⟨t,h,k⟩ Q:=by
 refine Kb4 (s:=⟨t,h,k⟩) hw hd hi fun H a w cc kt=>?_
 obtain ⟨d0,r,u⟩:=Kak (w:=w) (ti_ok hT j);obtain rfl:=KbY (u.trans p);have hr:=Kae kt hx;obtain ⟨_,y⟩:=KbK hr;have key:∀ (ad:Option Addr) (n m:Nat),a.eval x=.slice ad n m→(execOp a.eval o).run P w=.ok (.value (.bool ad.isNone)) w:=by
  intro ad n m hv;unfold execOp;rw [ho];refine Kbb ?_;rw [hv];have h1:(eqGuard .eql xt x (.const (.slice none 0 0)) (.slice ad n m) (a.eval (.const (.slice none 0 0)))).run P w=.ok () w:=by simp [eqGuard,Act.eval]<;>rfl
  rw [Kw h1];show (do pure (.bool (← Op.equal xt (.slice ad n m) (.slice none 0 0))):Sem Value).run P w=_
  have h2:(Op.equal xt (.slice ad n m) (.slice none 0 0)).run P w=.ok ad.isNone w:=by
   show (Op.equalIn (9999+1) xt _ _).run P w=_
   rw [Op.equalIn,Kw r];cases ad<;>rfl
  rw [Kw h2];rfl
 rcases y with ⟨rfl,ad,m,hv,_⟩|⟨b,off,m,hv,_,hE⟩
 ·exact ⟨.bool ad.isNone,w,H,.v (.bool ad.isNone),h,k,key _ _ _ hv,Hp.le_refl H,cc,rep_v rfl,g _ fun _=>rfl⟩
 exact ⟨.bool false,w,H,.v (.bool false),h,k,key _ _ _ hv,Hp.le_refl H,cc,rep_v rfl,g _ fun q=>by cases q⟩
theorem Khq {H:Hp}:∀ {l m:List D} {us vs:List Value},RepsV H l us→RepsV H m vs→RepsV H (l++m) (us++vs)
 | [],m,us,vs,h,k=>by simp only [RepsV] at h;subst h;simpa using k
 |
  d::l,m,us,vs,h,k=>by
  simp only [RepsV] at h;obtain ⟨u,us',rfl,h1,h2⟩:=h;simp only [List.cons_append,RepsV];exact ⟨u,_,rfl,h1,Khq h2 k⟩
theorem rep_fn_inv {H:Hp}{f:Fn}{as_ cs:List D}{y:Value}(h:Rep H (.fn f as_ cs) y):∃ vs ws,y=.func f vs.toArray ws.toArray∧RepsV H as_ vs∧RepsV H cs ws:=by
 obtain ⟨h1,h2⟩:=h;cases y<;>simp [D.shape] at h2<;>simp [RepC,Value.cells] at h1<;>simp [h1]
theorem callV_run {f:FuncId}{args:List Operand}{ts:Array TypeId}{x:Operand}{a:Act}{w:World}{vs ws:List Value}(ho:o.op=.call ⟨.value x,args.toArray,ts⟩)(hx:a.eval x=.func (.func f) vs.toArray ws.toArray)(h:Goes P f):(execOp a.eval o).run P w=.ok (.enter f (vs++args.map a.eval++ws).toArray) w:=by
 unfold execOp;rw [ho];simp only [];have:(resolve a.eval ⟨.value x,args.toArray,ts⟩ o.type).run P w=.ok ⟨.fn (.func f) ws.toArray,vs.toArray++(args.map a.eval).toArray⟩ w:=by
  simp [resolve,Deferred.ofValue,hx];first|done|rfl
 rw [Kw this];show (callFunc f (vs.toArray++(args.map a.eval).toArray++ws.toArray)).run P w=_
 rw [KjH h];simp
theorem KdG {f:FuncId}{x:Operand}{args:List Operand}{ts:Array TypeId}{i:Nat}{as_ cs ds da ds':List D}{h1 h2:List (Nat×Blk)}{k1 k2:List (Nat×Value)}{R:D→List (Nat×Blk)→List (Nat×Value)→Prop}
  (hc:CallsD P f ds' h1 k1 R) (hx:opD t x=some (.fn (.func f) as_ cs)) (ho:o.op=.call ⟨.value x,args.toArray,ts⟩) (hw:wantD ops t o=some true) (hd:o.dst=some i) (hi:Nat.blt i N=true) (ha:Kb3 args (opD t)=some ds) (hda:as_++ds++cs=da) (hwk:WkL da ds')
  (hh:h.Perm (h1++h2)) (hk:k.Perm (k1++k2)) (g:∀ d h' k',R d h' k'→opsD P C N ops rest ⟨(i,d)::t,h'++h2,k'++k2⟩ Q):opsD P C N ops (o::rest) ⟨t,h,k⟩ Q:=by
 subst hda;rintro a w ⟨H,c,kt,hN,hdf⟩;obtain ⟨vs,ws,ex,b,j⟩:=rep_fn_inv (Kae kt hx);unfold wpList;rw [Ka2 kt hw,if_pos rfl];refine .inl ?_;unfold Oper.wp;rw [callV_run ho ex hc.1,Oper.upon_enter];have c0:=c.perm hh hk;have nd:=(KbM h1 h2 k1 k2).nodup_iff.1 c0.nd;rw [List.nodup_append] at nd;have hv:=hwk H _ (Khq (Khq b (Kco kt ha)) j);have:=hc.2 H w _ hv c.ag (fun p hp=>c0.blks p (List.mem_append_left _ hp)) (fun p hp=>c0.toks p (List.mem_append_left _ hp)) nd.1;refine this.mono ?_;rintro e w' ⟨v,H',d,h',k',rfl,hr,hcore,hR⟩;simp only [];rw [hd]
 refine g d h' k' hR _ _ ⟨H',Core.call c0 hcore,TOK.put (kt.mono hcore.le) (by rw [hN];simpa using hi) hr,?_,hdf⟩;simp only [Act.put,Array.size_setIfInBounds];exact hN
theorem KfG {f:FuncId}{x:Operand}{args:List Operand}{ts:Array TypeId}{i:Nat}{as_ cs ds da ds':List D}{R:D→Prop}
  (hc:CallsD P f ds' [] [] (fun d h k=>R d∧h=[]∧k=[])) (hx:opD t x=some (.fn (.func f) as_ cs)) (ho:o.op=.call ⟨.value x,args.toArray,ts⟩) (hw:wantD ops t o=some true) (hd:o.dst=some i) (hi:Nat.blt i N=true) (ha:Kb3 args (opD t)=some ds) (hda:as_++ds++cs=da) (hwk:WkL da ds')
  (g:∀ d,R d→opsD P C N ops rest ⟨(i,d)::t,h,k⟩ Q):opsD P C N ops (o::rest) ⟨t,h,k⟩ Q:=
 KdG (h1:=[]) (k1:=[]) (h2:=h) (k2:=k) hc hx ho hw hd hi ha hda hwk (List.Perm.refl _) (List.Perm.refl _) fun d h' k' ⟨r,a,b⟩=>by subst a;subst b;exact g d r
theorem Kke {H:Hp}{b:Nat}:∀ (bs:List UInt8) (off:Nat),Told H b off (bs.map fun c=>Value.int .u8 c.toNat)→Els H 1 b off (bs.map byteD)
 | [],off,_=>by simp [Els]
 |
  c::bs,off,h=>by
  simp only [List.map_cons,Els,byteD];refine ⟨⟨[.int .u8 c.toNat],rfl,by simp [RepC],fun j u e=>?_,by simp [one]⟩,Kke bs (off+1) fun j u e=>?_⟩
  ·cases j with
   | zero=>simp at e;subst e;exact h 0 _ (by simp)
   | succ j=>simp at e
  have:=h (j+1) u (by simpa using e);rwa [show off+(j+1)=off+1+j by omega] at this
end
end
section
open Go
theorem Kfr {w:World}{a:Addr}{n k:Nat}:(w.freeze a n).heap[k]? = w.heap[k]?∨(a.block=k∧∃ c e f g,w.heap[k]? = some (.cells c e f)∧(w.freeze a n).heap[k]? = some (.cells c e g)):=by
 unfold World.freeze;split
 ·exact .inl rfl
 by_cases hk:a.block=k
 ·subst hk;simp only [Array.getElem?_modify,if_true];cases h:w.heap[a.block]? with
  | none=>exact .inl rfl
  |
   some o=>
   cases o<;>first|exact .inl rfl|(rename_i c e f;exact .inr ⟨trivial,c,e,f,_,rfl,rfl⟩)
 left;simp [Array.getElem?_modify,hk]
theorem Kh9 {w:World}{a x:Addr}{n:Nat}:(w.freeze a n).cell? x=w.cell? x:=by
 unfold World.cell?;rcases Kfr (w:=w) (a:=a) (n:=n) (k:=x.block) with h|⟨_,c,e,f,g,h1,h2⟩
 ·rw [h]
 rw [h1,h2]
theorem Kja (w:World)(a:Addr)(n:Nat):Env w (w.freeze a n)∧(w.freeze a n).heap.size=w.heap.size:=by
 unfold World.freeze;split
 ·exact ⟨Env.refl w,rfl⟩
 exact ⟨⟨rfl,rfl,rfl,Nat.le_refl _⟩,by simp⟩
theorem KjK {H:Hp}{w:World}{a:Addr}{n:Nat}(g:GG H w):GG H (w.freeze a n):=by
 obtain ⟨h1,h2,T,fz,b⟩:=g;refine ⟨h1,h2,?_⟩;rcases Kfr (w:=w) (a:=a) (n:=n) (k:=tabG) with h|⟨_,c,e,f,f',d,j⟩
 ·exact ⟨T,fz,by rw [h];exact b⟩
 rw [d] at b;simp only [Option.some.injEq,Obj.cells.injEq] at b;exact ⟨_,_,by rw [j,b.1]⟩
theorem Core.freezeNew {H H':Hp}{w w':World}{b off n:Nat}(c:Core ⟨H,w,[]⟩ H' [] [] w')(hb:w.heap.size≤b):Core ⟨H,w,[]⟩ H' [] [] (w'.freeze ⟨b,off,none⟩ n):=by
 obtain ⟨he,hs⟩:=Kja w' ⟨b,off,none⟩ n;refine ⟨⟨fun a v e=>by rw [Kh9];exact c.ag a v e,KjK c.ag.gg⟩,c.le,c.new,fun k hk d=>?_,by rw [hs];exact c.size,by simp,by simp,by simp [KP],by simp [KP],c.env.trans he⟩;have hk':k < w.heap.size:=hk;rcases Kfr (w:=w') (a:=⟨b,off,none⟩) (n:=n) (k:=k) with h|⟨h1,_⟩
 ·rw [h];exact c.same k hk d
 simp only at h1;omega
theorem run_mark {P:Program}{w:World}{b off:Nat}:∃ w',(markStringish ⟨b,off,none⟩).run P w=.ok () w'∧(w'=w∨∃ o n,w'=w.freeze ⟨b,o,none⟩ n):=by
 unfold markStringish;have h:(shape b).run P w=.ok (w.shape? b) w:=rfl;rw [Kw h];cases w.shape? b with
 | none=>exact ⟨w,rfl,.inl rfl⟩
 | some p=>exact ⟨w.freeze ⟨b,p.2,none⟩ 1,rfl,.inr ⟨p.2,1,rfl⟩⟩
section
variable {P : Program} {C : Ctx} {N : Nat} {ops rest : List Oper} {o : Oper} {t : List (Nat × D)} {h : List (Nat × Blk)} {k : List (Nat × Value)} {Q : Exit → S → Prop} {tab : List (Option TI)}
theorem x_ofStr {T T' e:TypeId}{x:Operand}{s:ByteArray}{c f ie:TI}(hT:TabOK P tab)(ho:o.op=.convert T T' x)(hx:opD t x=some (.v (.string s)))(r:ti tab T=some c)(y:c.d=.str)(z:ti tab T'=some f)(A:f.d=.slice e)(hie:ti tab e=some ie)(hde:ie.d=.int .u8):ExE P o t (.lst 1 (s.data.toList.map byteD) .no):=fun H a w hA kt=>by
 have core:Core ⟨H,w,[]⟩ H [] [] w:=Core.here hA;obtain ⟨d0,B,E⟩:=Kak (w:=w) (ti_ok hT r);obtain rfl:=Kf8 (E.trans y);obtain ⟨d1,F,G⟩:=Kak (w:=w) (ti_ok hT z);obtain rfl:=KbY (G.trans A);obtain ⟨d2,I,J⟩:=Kak (w:=w) (ti_ok hT hie);obtain rfl:=KgR (J.trans hde);have hx:=KW (Kae kt hx);have hrun:∀ (v:Value) (w':World),(Conv.stringToBytes e s).run P w=.ok v w'→(execOp a.eval o).run P w=.ok (.value v) w':=by
  intro v w' hv;unfold execOp;rw [ho];refine Kbb ?_;rw [hx];unfold convert;rw [Kw B,Kw F];simp only [];rw [Kw I];exact hv
 have hch:∃ n,s.size≤n∧(choose (.appendCap s.size 0 e)).run P w=.ok n (wDrew w):=by
  have hforced:(Question.appendCap s.size 0 e).forced=false:=rfl;refine ⟨_,?_,by simp only [choose,Sem.run,hforced];rfl⟩;simp only [Question.cut];omega
 obtain ⟨n,hn,K⟩:=hch;have L:Core ⟨H,w,[]⟩ H [] [] (wDrew w):=core.drew;let us:List Value:=s.data.toList.map fun b=>Value.int .u8 b.toNat
 let vs:List Value:=us++(List.replicate (n - s.size) (Value.int .u8 0));obtain ⟨hle,g,told⟩:=L.allocTold (us:=us) (vs:=vs) e (fun j u q=>by
  have hl:=(List.getElem?_eq_some_iff.1 q).1;rw [List.getElem?_append_left hl];exact q)
 have hnew:(wDrew w).heap.size=w.heap.size:=rfl;obtain ⟨p,M,O⟩:=run_mark (P:=P) (w:=(wDrew w).alloc (.cells vs.toArray e)) (b:=w.heap.size) (off:=0);have R:Core ⟨H,w,[]⟩ (tell H (wDrew w).heap.size us) [] [] p:=by
  rcases O with rfl|⟨q,m,rfl⟩
  ·exact g
  exact g.freezeNew (Nat.le_refl _)
 have hel:=Kke (H:=tell H (wDrew w).heap.size us) (b:=w.heap.size) s.data.toList 0 told;refine ⟨.slice (some ⟨w.heap.size,0,none⟩) s.size n,p,_,hrun _ _ ?_,R,?_⟩
 ·unfold Conv.stringToBytes;rw [Kw K];have hvs:(s.data.map fun b=>Value.int .u8 b.toNat)++Array.replicate (n - s.size) (Value.int .u8 0)=vs.toArray:=by
   apply Array.toList_inj.1;simp [vs,us]
  simp only [hvs];have hr:(newRow e vs.toArray).run P (wDrew w)=.ok (⟨w.heap.size,0,none⟩:Addr) ((wDrew w).alloc (.cells vs.toArray e)):=rfl;rw [Kw hr,Kw M];rfl
 refine Kbi ?_ rfl rfl;simp only [RepC,CapOK];have hsz:s.data.toList.length=s.size:=Array.length_toList;by_cases h0:s.size=0
 ·refine ⟨_,rfl,trivial,.inl ⟨?_,some ⟨w.heap.size,0,none⟩,n,by rw [h0],fun q=>by cases q⟩⟩;have:s.data.toList.length=0:=hsz.trans h0;rw [List.length_eq_zero_iff] at this;rw [this];rfl
 exact ⟨_,rfl,trivial,.inr ⟨w.heap.size,0,n,by rw [List.length_map,hsz],by rw [List.length_map,hsz];exact hn,hel⟩⟩
theorem p_litB {f u n kk:Nat}{p:Oper}{T e:TypeId}{ps:Array (Nat×Operand)}{x ie:TI}{r:List D}(hT:TabOK P tab)(ho:o.op=.buildSlice T n ps)(hw:wantD ops t o=some true)(hd:o.dst=some f)(hi:Nat.blt f N=true)
  (F:p.op=.convert T T (.tmp f)) (G:wantD ops ((f,.lst kk (Keh ie.agg kk n r) .no)::t) p=some true) (I:p.dst=some u) (J:Nat.blt u N=true)
  (y:ti tab T=some x) (z:x.d=.slice e) (hie:ti tab e=some ie) (hde:ie.d=.int .u8) (hks:ie.size=kk) (hz:ie.zero.all one=true) (hzl:Nat.beq ie.zero.length kk=true) (hpos:Nat.ble 1 (n*kk)=true) (hmax:Nat.ble (n*kk) 16777216=true) (hag:(ie.agg || Nat.beq kk 1)=true)
  (er:Kdx tab ((List.range n).map fun j=>(e,j*kk)) t ps.toList (List.replicate (n*kk) .any)=some r)
  (g:opsD P C N ops rest ⟨(u,.lst kk (Keh ie.agg kk n r) .no)::(f,.lst kk (Keh ie.agg kk n r) .no)::t,h,k⟩ Q):opsD P C N ops (o::p::rest) ⟨t,h,k⟩ Q:=by
 rintro a w ⟨H,c,kt,hN,hdf⟩;obtain ⟨s,H1,K,c1,L⟩:=x_litS hT ho y z hie hks hz hzl hpos hmax hag er H a w c.ag kt;have A:Rep H1 (.lst kk (Keh ie.agg kk n r) .no) (.slice (some ⟨w.heap.size,0,none⟩) n n):=Wk.no H1 _ L;obtain ⟨v,M,O⟩:=run_mark (P:=P) (w:=s) (b:=w.heap.size) (off:=0);have c2:Core ⟨H,w,[]⟩ H1 [] [] v:=by
  rcases O with rfl|⟨q,m,rfl⟩
  ·exact c1
  exact c1.freezeNew (Nat.le_refl _)
 have c3:Core C H1 h k v:=by
  have:=Core.call (h1:=[]) (k1:=[]) (h2:=h) (k2:=k) (by simpa using c) c2;simpa using this
 have B:TOK H1 ((f,.lst kk (Keh ie.agg kk n r) .no)::t) (a.put (some f) (.slice (some ⟨w.heap.size,0,none⟩) n n)):=TOK.put (kt.mono c1.le) (by rw [hN];simpa using hi) A;have R:(a.put (some f) (.slice (some ⟨w.heap.size,0,none⟩) n n)).tmps.size=N:=by simp only [Act.put,Array.size_setIfInBounds];exact hN
 unfold wpList;rw [Ka2 kt hw,if_pos rfl];refine .inl ?_;unfold Oper.wp;rw [K,Oper.upon_value,hd];unfold wpList;rw [Ka2 B G,if_pos rfl];refine .inl ?_;unfold Oper.wp;have hev:(a.put (some f) (Value.slice (some ⟨w.heap.size,0,none⟩) n n)).eval (.tmp f)=.slice (some ⟨w.heap.size,0,none⟩) n n:=by
  simp only [Act.eval,Act.put];rw [Array.getD_eq_getD_getElem?,Array.getElem?_setIfInBounds_self_of_lt (by rw [hN];simpa using hi)];rfl
 have U:(execOp (a.put (some f) (Value.slice (some ⟨w.heap.size,0,none⟩) n n)).eval p).run P s=.ok (.value (.slice (some ⟨w.heap.size,0,none⟩) n n)) v:=by
  unfold execOp;rw [F];refine Kbb ?_;rw [hev];obtain ⟨d0,E,V⟩:=Kak (w:=s) (ti_ok hT y);obtain rfl:=KbY (V.trans z);obtain ⟨d1,W,X⟩:=Kak (w:=s) (ti_ok hT hie);obtain rfl:=KgR (X.trans hde);unfold convert;rw [Kw E,Kw E];simp only [];rw [Kw W];simp only [beq_self_eq_true];rw [Kw M];rfl
 rw [U,Oper.upon_value,I];refine g _ _ ⟨H1,c3,TOK.put B (by rw [R];simpa using J) A,?_,hdf⟩;simp only [Act.put,Array.size_setIfInBounds];exact hN
theorem p_ofStr {i:Nat}{T T' e:TypeId}{x:Operand}{s:ByteArray}{a b ie:TI}(hT:TabOK P tab)(ho:o.op=.convert T T' x)(hw:wantD ops t o=some true)(hd:o.dst=some i)(hi:Nat.blt i N=true)(hx:opD t x=some (.v (.string s)))(c:ti tab T=some a)(f:a.d=.str)(j:ti tab T'=some b)(n:b.d=.slice e)(hie:ti tab e=some ie)(hde:ie.d=.int .u8)
 (g:opsD P C N ops rest ⟨(i,.lst 1 (s.data.toList.map byteD) .no)::t,h,k⟩ Q):opsD P C N ops (o::rest) ⟨t,h,k⟩ Q:=p_e (x_ofStr hT ho hx c f j n hie hde) hw hd hi g
end
end
section
open Go
theorem idx_lt {α:Type}{xs:List α}{j:Int}{x:α}(h:idx xs j=some x):j.toNat < xs.length:=(List.getElem?_eq_some_iff.1 (Kis h).2).1
theorem idx_lt' {α:Type}{xs:List α}{j:Int}{x:α}{n:Nat}(h:idx xs j=some x)(hn:xs.length=n):j < (n:Int):=by
 have:=idx_lt h;have:=Ks h;omega
theorem part_at0 {α:Type}{i:TI}{e:α→D}{xs:List α}{j:Int}{x:α}(hg:i.agg=false)(h:idx xs j=some x):partD i (xs.map e) (j.toNat*1)=some (e x):=by
 unfold partD;rw [hg,cond_false,Nat.mul_one,List.getElem?_map,(Kis h).2];rfl
section
variable {P : Program} {C : Ctx} {N : Nat} {ops rest : List Oper} {o : Oper} {t : List (Nat × D)} {h : List (Nat × Blk)} {k : List (Nat × Value)} {Q : Exit → S → Prop} {tab : List (Option TI)}
theorem x_idxA {n:Nat}{T e:TypeId}{x ix:Operand}{ik:IntKind}{j:Int}{ds:List D}{d:D}{b tie:TI}(hT:TabOK P tab)(ho:o.op=.index T x ix)(hx:opD t x=some (.agg ds))(hix:opD t ix=some (.v (.int ik j)))
  (hti:ti tab T=some b) (hs:b.d=.array n e) (hte:ti tab e=some tie) (h0:0≤j) (hb:j < n) (hp:partD tie ds (j.toNat*tie.size)=some d):Ex P o t d:=fun H a w kt=>by
 obtain ⟨dd,h1,h2⟩:=Kak (w:=w) (ti_ok hT hti);have:=Ki0 (h2.trans hs);subst this;obtain ⟨us,c,f⟩:=KdR (Kae kt hx);obtain ⟨v,g,p⟩:=KiZ (w:=w) (ti_ok hT hte) f hp;refine ⟨v,?_,p⟩;unfold execOp;rw [ho];refine Kbb ?_;rw [c,KW (Kae kt hix)];unfold Instr.index;rw [Kw (a:=(ik,j)) rfl];simp only [];rw [Kw h1];simp only [if_pos (show 0≤j∧j < (n:Int) from ⟨h0,hb⟩)];rw [Kw (Kby (ti_ok hT hte))];exact g
theorem p_idxA {i n:Nat}{T e:TypeId}{x ix:Operand}{ik:IntKind}{j:Int}{ds:List D}{d:D}{a tie:TI}(hT:TabOK P tab)(ho:o.op=.index T x ix)(hw:wantD ops t o=some true)(hd:o.dst=some i)(hi:Nat.blt i N=true)(hx:opD t x=some (.agg ds))(hix:opD t ix=some (.v (.int ik j)))
 (hti:ti tab T=some a) (hs:a.d=.array n e) (hte:ti tab e=some tie) (h0:0≤j) (hb:j < n) (hp:partD tie ds (j.toNat*tie.size)=some d)
 (g:opsD P C N ops rest ⟨(i,d)::t,h,k⟩ Q):opsD P C N ops (o::rest) ⟨t,h,k⟩ Q:=Kdi (s:=⟨t,h,k⟩) hw hd hi (x_idxA hT ho hx hix hti hs hte h0 hb hp) g
end
end
section
open Go
section
variable {P : Program} {C : Ctx} {N : Nat} {l : List Oper} {m : Nat} {De : Nat → D} {al : AL} {pre : List (List Nat)} {ev : List Nat} {h : List (Nat × Blk)} {k : List (Nat × Value)} {Q : Exit → S → Prop} {bs : Nat → Nat} {i : Nat} {o : Oper} {rest : List Oper} {te : TE}
end
end
section
open Go
section
variable {P : Program} {C : Ctx} {N : Nat} {ops rest : List Oper} {o : Oper} {t : List (Nat × D)} {h : List (Nat × Blk)} {k : List (Nat × Value)} {Q : Exit → S → Prop} {tab : List (Option TI)}
theorem KkR {H:Hp}:∀ {l:List Value},l.all one=true→Reps H (l.map dOf) l
 | [],_=>by simp [Reps]
 |
  u::l,hz=>by
  simp only [List.all_cons,Bool.and_eq_true] at hz;simp only [List.map_cons,Reps];exact ⟨u,l,rfl,⟨(Kgb H u).1,hz.1,(Kgb H u).2⟩,KkR hz.2⟩
theorem x_buildA {T:TypeId}{ps:Array (Nat×Operand)}{b j:TI}{n e:Nat}{r:List D}(hT:TabOK P tab)(ho:o.op=.build T ps)(hti:ti tab T=some b)(hfs:b.d=.array n e)(hj:ti tab e=some j)(hz:b.zero.all one=true)(eb:Kdx tab ((List.range n).map fun i=>(e,i*j.size)) t ps.toList (b.zero.map dOf)=some r):∀ H a w,TOK H t a→∃ v,(execOp a.eval o).run P w=.ok (.value v) w∧Rep H (.agg r) v:=
 fun H a w kt=>by
 obtain ⟨z,h1,h2⟩:=Kcr (w:=w) (ti_ok hT hti);obtain ⟨d,g,q⟩:=Kak (w:=w) (ti_ok hT hti);obtain rfl:=Ki0 (q.trans hfs);have hr:Reps H (b.zero.map dOf) z.cells.toList:=by rw [h2];exact KkR hz
 obtain ⟨vs,s,u⟩:=Kj0 (P:=P) (place:=fun i=>some (i*j.size,j.size)) hT kt (fs:=(List.range n).map fun i=>(e,i*j.size)) (by
  intro f fl j' hf hj';rw [List.getElem?_map,Option.map_eq_some_iff] at hf;obtain ⟨x,y,A⟩:=hf;have:=List.getElem?_eq_some_iff.1 y;obtain ⟨F,c⟩:=this;simp only [List.getElem_range] at c;subst A;subst c;simp only [] at hj';rw [hj] at hj';cases hj';rfl) ps.toList _ _ r hr eb
 refine ⟨.agg vs.toArray,?_,Kip u⟩;unfold execOp;rw [ho];refine Kbb ?_;unfold Instr.build;rw [Kw h1];simp only [];rw [Kw g];simp only [];rw [Kw (Kby (ti_ok hT hj))];have B:(ps.map fun x=>(x.1,a.eval x.2)).toList=ps.toList.map fun p=>(p.1,a.eval p.2):=by simp
 rw [B];have E:z.cells=z.cells.toList.toArray:=by simp
 rw [E];simp only [s];rfl
theorem p_buildA {i:Nat}{T:TypeId}{ps:Array (Nat×Operand)}{a j:TI}{n e:Nat}{r:List D}(hT:TabOK P tab)(ho:o.op=.build T ps)(hw:wantD ops t o=some true)(hd:o.dst=some i)(hi:Nat.blt i N=true)
 (hti:ti tab T=some a) (hfs:a.d=.array n e) (hj:ti tab e=some j) (hz:a.zero.all one=true) (eb:Kdx tab ((List.range n).map fun i=>(e,i*j.size)) t ps.toList (a.zero.map dOf)=some r)
 (g:opsD P C N ops rest ⟨(i,.agg r)::t,h,k⟩ Q):opsD P C N ops (o::rest) ⟨t,h,k⟩ Q:=Kdi (s:=⟨t,h,k⟩) hw hd hi (x_buildA hT ho hti hfs hj hz eb) g
end
end
section
open Go
abbrev SL (z:Option Addr×Nat×Nat):Value:=.slice z.1 z.2.1 z.2.2
abbrev Z3:=Option Addr×Nat×Nat
theorem flat_els {H H':Hp}{k b:Nat}:∀ {xs:List D} {us:List Value} {off:Nat},H.le H'→FlatR H k xs us→Told H' b off us→Els H' k b off xs
 | [],us,off,_,_,_=>by simp [Els]
 |
  x::xs,us,off,hle,h,ht=>by
  obtain ⟨a,d,rfl,hl,⟨h1,h2⟩,c⟩:=h;simp only [Els];refine ⟨⟨a,hl,RepC.mono hle x a h1,fun j u e=>ht j u (by rw [List.getElem?_append_left (List.getElem?_eq_some_iff.1 e).1];exact e),h2⟩,flat_els hle c fun j u e=>?_⟩;have:=ht (k+j) u (by rw [List.getElem?_append_right (by omega)];rw [hl];simpa using e);rw [show off+k+j=off+(k+j) by omega];exact this
theorem KeG {H:Hp}{k:Nat}:∀ {xs:List D} {us:List Value},FlatR H k xs us→us.length=xs.length*k
 |
  [],us,h=>by
  have:us=[]:=h;subst this;simp
 |
  x::xs,us,h=>by
  obtain ⟨b,c,rfl,hl,_,a⟩:=h;simp [hl,KeG a,Nat.add_mul];omega
theorem Kkw {H:Hp}{k:Nat}:∀ {xs:List D} {us:List Value},FlatR H k xs us→∀ u∈us,one u=true
 |
  [],us,h,u,hu=>by
  have:us=[]:=h;subst this;cases hu
 |
  x::xs,us,h,u,hu=>by
  obtain ⟨b,c,rfl,hl,⟨_,h2⟩,a⟩:=h;rcases List.mem_append.1 hu with x|x
  ·exact h2 u x
  exact Kkw a u x
theorem KgO {H:Hp}{k:Nat}:∀ {xs ys:List D} {us vs:List Value},FlatR H k xs us→FlatR H k ys vs→FlatR H k (xs++ys) (us++vs)
 |
  [],ys,us,vs,h,g=>by
  have:us=[]:=h;subst this;simpa using g
 |
  x::xs,ys,us,vs,h,g=>by
  obtain ⟨a,b,rfl,hl,h1,c⟩:=h;exact ⟨a,b++vs,by simp,hl,h1,KgO c g⟩
theorem Klv {H:Hp}{k b:Nat}:∀ {xs:List D} {off:Nat},Els H k b off xs→∃ us:List Value,us.length=xs.length*k∧Told H b off us∧FlatR H k xs us
 | [],off,_=>⟨[],by simp,fun j u e=>by simp at e,rfl⟩
 |
  x::xs,off,h=>by
  simp only [Els] at h;obtain ⟨⟨us,h1,h2,a,c⟩,d⟩:=h;obtain ⟨vs,g1,f,g⟩:=Klv d;refine ⟨us++vs,by simp [h1,g1,Nat.add_mul];omega,fun j u e=>?_,us,vs,rfl,h1,⟨h2,c⟩,g⟩;rw [List.getElem?_append] at e;split at e
  ·exact a j u e
  have:=f _ _ e;rw [show off+k+(j - us.length)=off+j by omega] at this;exact this
theorem told_sl {H:Hp}{k:Nat}{xs:List D}{y:Value}(h:RepC H (.lst k xs (.cur y)) [y]):Rep H (.lst k xs (.cur y)) y:=by
 have h0:=h;simp only [RepC] at h;obtain ⟨z,e,_,h⟩:=h;simp at e;subst e;have h1:one y=true:=by
  rcases h with ⟨_,a,m,rfl,_⟩|⟨b,off,m,rfl,_⟩<;>rfl
 exact Kbi h0 h1 rfl
section
variable {C : Ctx} {t : List (Nat × D)} {h : List (Nat × Blk)} {k : List (Nat × Value)}
theorem row_told {H:Hp}{w:World}{r kk:Nat}{xs:List D}{y:Value}(hA:Ag H w)(hb:BlkOK H w (r,.row kk xs y)) :
  ∃ H',H.le H'∧Core ⟨H,w,KP [(r,.row kk xs y)] []⟩ H' [(r,.told kk xs y)] [(kk,y)] w:=by
 rcases hb with ⟨a,rfl,rfl⟩|⟨b,m,us,rest,T,rfl,h0,f,h1,h2,g,s⟩
 ·refine ⟨H,Hp.le_refl H,hA,Hp.le_refl H,fun _ _ x=>.inl x,fun _ _ _=>rfl,Nat.le_refl _,?_,?_,?_,?_,Env.refl w⟩
  ·intro p hp;simp only [List.mem_singleton] at hp;subst hp;show RepC H _ _
   simp only [RepC,CapOK];exact ⟨_,rfl,by trivial,.inl ⟨by trivial,a,0,rfl,fun _=>rfl⟩⟩
  ·intro p hp;simp only [List.mem_singleton] at hp;subst hp;intro a n m e hlt;simp only [Value.slice.injEq] at e;omega
  ·cases a<;>simp [KP,K0,Kcn]
  cases a<;>simp [KP,K0,Kcn]
 have hl:=KeG h2;let H':Hp:=tell H b us;have hle:H.le H':=fun a v e=>by
  show (if a.block=b∧a.spot=none then us[a.off]? else H a)=some v
  rw [if_neg]
  ·exact e
  rintro ⟨c,d⟩;obtain ⟨ab,ao,as_⟩:=a;simp only at c d;subst c;subst d;rw [s ao] at e;cases e
 have htold:Told H' b 0 us:=fun j u e=>by
  show (if b=b∧(none:Option Nat)=none then us[0+j]? else H _)=some u
  rw [if_pos ⟨rfl,rfl⟩,Nat.zero_add];exact e
 have hcl:KP [(r,Blk.row kk xs (.slice (some ⟨b,0,none⟩) xs.length m))] []=[b]:=by simp [KP,K0,Kau,f]
 refine ⟨H',hle,?_⟩;rw [hcl];refine ⟨⟨fun a v e=>?_,hA.gg.step hle rfl⟩,hle,fun a v e=>?_,fun _ _ _=>rfl,Nat.le_refl _,?_,?_,?_,?_,Env.refl w⟩
 ·by_cases q:a.block=b∧a.spot=none
  ·have:H' a=us[a.off]?:=if_pos q;rw [this] at e;obtain ⟨ab,ao,as_⟩:=a;simp only at q e;obtain ⟨rfl,rfl⟩:=q;simp only [World.cell?,h1,Option.isSome_none,Bool.false_eq_true,if_false,List.getElem?_toArray];rw [List.getElem?_append_left (List.getElem?_eq_some_iff.1 e).1];exact e
  have:H' a=H a:=if_neg q;rw [this] at e;exact hA a v e
 ·by_cases q:a.block=b∧a.spot=none
  ·exact .inr (.inr (by simp [q.1]))
  have:H' a=H a:=if_neg q;rw [this] at e;exact .inl e
 ·intro p hp;simp only [List.mem_singleton] at hp;subst hp;show RepC H' _ _
  simp only [RepC,CapOK];exact ⟨_,rfl,by trivial,.inr ⟨b,0,m,rfl,h0,flat_els hle h2 htold⟩⟩
 ·intro p hp;simp only [List.mem_singleton] at hp;subst hp;intro a n m' e hlt;simp only [Value.slice.injEq,Option.some.injEq] at e;obtain ⟨rfl,rfl,rfl⟩:=e;refine ⟨_,T,h1,rfl,by simpa using g,fun o ho=>?_⟩;show (if b=b∧(none:Option Nat)=none then us[o]? else H _)=none
  rw [if_pos ⟨rfl,rfl⟩,List.getElem?_eq_none];simp only at ho;omega
 ·simp only [KP,K0,Kcn,List.flatMap_cons,List.flatMap_nil,List.append_nil,List.nil_append];split<;>simp
 intro x hx;simp only [KP,K0,Kcn,List.flatMap_cons,List.flatMap_nil,List.append_nil,List.nil_append] at hx;split at hx
 ·exact .inl (by simpa using hx)
 cases hx
theorem WkS.frz {h':List (Nat×Blk)}{r kk:Nat}{xs:List D}{y:Value}(j:Nat)(hj:h[j]? = some (r,.row kk xs y))(e:h.set j (r,.told kk xs y)=h'):WkS C ⟨t,h,k⟩ ⟨t,h',(kk,y)::k⟩:=fun H a w c kt=>by
 subst e;have hb:=c.blks _ (List.mem_of_getElem? hj);obtain ⟨H',hle,c'⟩:=row_told c.ag hb;have c1:Core C H ([(r,.row kk xs y)]++h.eraseIdx j) ([]++k) w:=c.perm (KZ hj) (List.Perm.refl _);exact ⟨H',hle,(Core.call c1 c').perm (KfF hj) (List.Perm.refl _),kt.mono hle⟩
theorem WkS.tld {r kk:Nat}{xs:List D}{y:Value}(i j:Nat)(hx:look t i=some (.v y))(hj:h[j]? = some (r,.told kk xs y)):WkS C ⟨t,h,k⟩ ⟨(i,.lst kk xs (.cur y))::t,h,k⟩:=fun H a w c kt=>by
 have hb:=told_sl (c.blks _ (List.mem_of_getElem? hj));obtain ⟨v,h1,h2⟩:=kt i _ hx;rw [KW h2] at h1;exact ⟨H,Hp.le_refl H,c,Ke1 kt h1 hb⟩
theorem WkS.drop {h':List (Nat×Blk)}(j:Nat)(e:h.eraseIdx j=h'):WkS C ⟨t,h,k⟩ ⟨t,h',k⟩:=fun H a w c kt=>by
 subst e;exact ⟨H,Hp.le_refl H,c.drop (List.eraseIdx_sublist _ _) (List.Sublist.refl _),kt⟩
theorem row_nil {H:Hp}{w:World}{d kk:Nat}{v:Value}(c:Core C H h k w)(hr:Rep H (.lst d [] .full) v):∃ z:Z3,v=SL z∧Core C H ((0,.row kk [] (SL z))::h) k w:=by
 obtain ⟨hc,hx⟩:=KbK hr;have:∃ a,v=.slice a 0 0:=by
  rcases hx with ⟨_,a,m,rfl,_⟩|⟨b,off,m,rfl,e,_⟩
  ·simp only [CapOK] at hc;subst hc;exact ⟨a,rfl⟩
  simp only [CapOK,List.length_nil] at hc;subst hc;exact ⟨_,rfl⟩
 obtain ⟨a,rfl⟩:=this;refine ⟨(a,0,0),rfl,c.ag,c.le,c.new,c.same,c.size,?_,c.toks,?_,?_,c.env⟩
 ·intro p hp;rcases List.mem_cons.1 hp with rfl|hp
  ·exact .inl ⟨a,rfl,rfl⟩
  exact c.blks p hp
 ·have:KP ((0,Blk.row kk [] (SL (a,0,0)))::h) k=KP h k:=by cases a<;>simp [KP,K0,Kau]
  rw [this];exact c.nd
 have:KP ((0,Blk.row kk [] (SL (a,0,0)))::h) k=KP h k:=by cases a<;>simp [KP,K0,Kau]
 rw [this];exact c.own
theorem WkX.rowN {Y:Type}{S1:Y→S}{i b:Nat}(kk:Nat)(hx:look t i=some (.lst b [] .full))(g:∀ z:Z3,WkX C ⟨(i,.v (SL z))::t,(0,.row kk [] (SL z))::h,k⟩ S1):WkX C ⟨t,h,k⟩ S1:=fun H a w c kt=>by
 obtain ⟨v,h1,h2⟩:=kt i _ hx;obtain ⟨z,rfl,c'⟩:=row_nil (kk:=kk) c h2;exact g z H a w c' (Ke1 kt h1 (rep_v rfl))
end
section
variable {P : Program} {C : Ctx} {N : Nat} {ops rest : List Oper} {o : Oper} {t : List (Nat × D)} {h : List (Nat × Blk)} {k : List (Nat × Value)} {Q : Exit → S → Prop} {tab : List (Option TI)}
theorem retX.rowN {rs:List ResultVar}{R:D→List (Nat×Blk)→List (Nat×Value)→Prop}{x:Exit}{i b:Nat}(kk:Nat)(hx:look t i=some (.lst b [] .full))(g:∀ z:Z3,retX C tab rs R x ⟨(i,.v (SL z))::t,(0,.row kk [] (SL z))::h,k⟩):retX C tab rs R x ⟨t,h,k⟩:=fun H a w c kt=>by
 obtain ⟨v,h1,h2⟩:=kt i _ hx;obtain ⟨z,rfl,c'⟩:=row_nil (kk:=kk) c h2;exact g z H a w c' (Ke1 kt h1 (rep_v rfl))
theorem row_len {H:Hp}{w:World}{r kk:Nat}{xs:List D}{y:Value}(h:BlkOK H w (r,.row kk xs y)):∃ a m,y=.slice a xs.length m:=by
 rcases h with ⟨a,rfl,rfl⟩|⟨b,m,us,rest,T,rfl,_⟩
 ·exact ⟨a,0,rfl⟩
 exact ⟨_,m,rfl⟩
theorem Kgg {i r kk:Nat}{T e:TypeId}{x:Operand}{xs:List D}{z:Z3}{b:TI}(j:Nat)(hT:TabOK P tab)(ho:o.op=.call ⟨.builtin .len,[x].toArray,#[T]⟩)(hw:wantD ops t o=some true)(hd:o.dst=some i)(hi:Nat.blt i N=true)
  (hx:opD t x=some (.v (SL z))) (hj:h[j]? = some (r,.row kk xs (SL z))) (hti:ti tab T=some b) (hs:b.d=.slice e) {n:Nat} (hn:xs.length=n) (g:opsD P C N ops rest ⟨(i,.v (.int .i64 n))::t,h,k⟩ Q):opsD P C N ops (o::rest) ⟨t,h,k⟩ Q:=
 Kb4 (s:=⟨t,h,k⟩) hw hd hi fun H a w core kt=>by
  obtain ⟨ad,m,hy⟩:=row_len (core.blks _ (List.mem_of_getElem? hj));refine ⟨.int .i64 n,w,H,.v (.int .i64 n),h,k,Kb9 (s:=Builtin.len_) ho (fun _ _=>rfl) ?_,Hp.le_refl H,core,rep_v rfl,g⟩;have e:=KW (Kae kt hx);simp only [List.map_cons,List.map_nil,e,hy,hn];exact Kg1 (ti_ok hT hti) hs
end
end
section
open Go
theorem first_row {P:Program}{w:World}{H:Hp}{r kk:Nat}{xs:List D}{y:Value}(hb:BlkOK H w (r,.row kk xs y)) :
  ∃ us:List Value,us.length=xs.length*kk∧FlatR H kk xs us∧(Builtin.firstCells kk xs.length y).run P w=.ok us.toArray w:=by
 rcases hb with ⟨a,rfl,rfl⟩|⟨b,m,us,rest,T,rfl,h0,c,h1,h2,d,f⟩
 ·refine ⟨[],by simp,rfl,?_⟩;cases a with
  | none=>rfl
  | some a=>simp only [Builtin.firstCells,List.length_nil,Nat.zero_mul];rfl
 have hl:=KeG h2;refine ⟨us,hl,h2,?_⟩;have hr:RowAt w b 0 us:=fun j u e=>by
  have:=KgS h1 j u (by rw [List.getElem?_append_left (List.getElem?_eq_some_iff.1 e).1];exact e);exact this
 have:=KeK (P:=P) (xs.length*kk) hr (by omega);rw [← hl,List.take_length] at this;simp only [Builtin.firstCells];rw [← hl];exact this
theorem Kha {P:Program}{w:World}{H:Hp}(hA:Ag H w){kk:Nat}{xs:List D}{c:Cap}{v:Value}(hr:Rep H (.lst kk xs c) v) :
  ∃ us:List Value,us.length=xs.length*kk∧FlatR H kk xs us∧(Builtin.firstCells kk xs.length v).run P w=.ok us.toArray w:=by
 obtain ⟨_,h⟩:=KbK hr;rcases h with ⟨rfl,a,m,rfl,_⟩|⟨b,off,m,rfl,e,hE⟩
 ·refine ⟨[],by simp,rfl,?_⟩;cases a with
  | none=>rfl
  | some a=>simp only [Builtin.firstCells,List.length_nil,Nat.zero_mul];rfl
 obtain ⟨us,h1,h2,d⟩:=Klv hE;refine ⟨us,h1,d,?_⟩;have:=KeK (P:=P) (xs.length*kk) (h2.row hA) (by omega);rw [← h1,List.take_length] at this;simp only [Builtin.firstCells];rw [← h1];exact this
theorem Core.drew' {H:Hp}{w:World}(hA:Ag H w):Ag H (wDrew w):=⟨fun a v e=>hA a v e,hA.gg.step (Hp.le_refl H) rfl⟩
theorem blk_drew {H:Hp}{w:World}{p:Nat×Blk}(h:BlkOK H w p):BlkOK H (wDrew w) p:=by
 obtain ⟨b,bl⟩:=p;cases bl<;>first|exact h|exact Opq.later _ H H w (wDrew w) h (Hp.le_refl H) (fun _ _=>rfl) (fun _ _ q=>q)
def rowTy (w:World)(v:Value)(T:TypeId):Prop:=∀ a n m,v=.slice (some a) n m→0 < m∧∃ cs,w.heap[a.block]? = some (.cells cs T (0,0))
theorem Klw {P:Program}{tab:List (Option TI)}(hT:TabOK P tab){H:Hp}{w:World}{r kk bb:Nat}{T T' e e':TypeId}{ty:TypeId}{G y ie:TI}{xs ys:List D}{v1 v2:Value}
  (hA:Ag H w) (hrow:BlkOK H w (r,.row kk xs v1)) (hown:∀ b∈KP [(r,.row kk xs v1)] [],b < w.heap.size)
  (K:(Builtin.lenOf v2).run P w=.ok ys.length w) (I:∀ w',(∀ b,b < w.heap.size→w'.heap[b]? = w.heap[b]?)→∃ us:List Value,us.length=ys.length*kk∧FlatR H kk ys us∧(Builtin.firstCells kk ys.length v2).run P w'=.ok us.toArray w')
  (L:ti tab T=some G) (M:G.d=.slice e) (O:ti tab T'=some y) (R:y.d=.slice e'∨y.d=.str) (hie:ti tab e=some ie) (hks:ie.size=kk) (hbb:ie.bytes=bb) (hz:ie.zero.length=kk) (U:1≤bb) (hbound:(xs.length+ys.length)*bb≤140737488355328) :
  ∃ (z:Z3) (w':World),(Builtin.append_ #[T,T'] ty #[v1,v2]).run P w=.ok (SL z) w'∧(rowTy w v1 e→rowTy w' (SL z) e)∧Core ⟨H,w,KP [(r,.row kk xs v1)] []⟩ H [(0,.row kk (xs++ys) (SL z))] [] w':=by
 subst hks;subst hbb;have hTe:=ti_ok hT hie;obtain ⟨d0,V,W⟩:=Kak (w:=w) (ti_ok hT L);obtain rfl:=KbY (W.trans M);obtain ⟨d1,X,J⟩:=Kak (w:=w) (ti_ok hT O);have f:d1=.slice e'∨d1=.string:=R.imp (fun q=>KbY (J.trans q)) (fun q=>Kf8 (J.trans q));obtain ⟨tif,z,Y,t2,Z,t4,t5⟩:=Kd0 (w:=w) hTe;have hneed:xs.length+ys.length≤140737488355328:=Nat.le_trans (Nat.le_mul_of_pos_right _ U) hbound;have start:∀ base cap,v1=.slice base xs.length cap→(Builtin.append_ #[T,T'] ty #[v1,v2]).run P w =
   (
    if
      xs.length+ys.length≤cap then (do
      let new ← Builtin.firstCells ie.size ys.length v2
      if let some a:=base then storeCells (a.add (xs.length*ie.size)) new.toList
      pure (.slice base (xs.length+ys.length) cap):Sem Value)
    else (do
      if ((xs.length + ys.length : Nat) : Int) > IntKind.i64.max ∧ ((false = true) ∨ (← Go.typeInfo e).bytes = 0) then runtimePanic (.error "growslice: len out of range")
      if Builtin.nextslicecap (xs.length + ys.length) cap * (← Go.typeInfo e).bytes > 2 ^ 48 then (if false then runtimePanic (.error "growslice: len out of range") else do
       if !(← Builtin.mayShare ie.size xs.length ys.length base v2) then mark .noRoom
       unsupported (.resourceLimit "append: a slice or a string whose bytes no memory bears"))
      let newCap ← choose (.appendCap (xs.length+ys.length) cap e)
      askRoom (newCap*(← Go.typeInfo e).bytes)
      let old ← Builtin.firstCells ie.size xs.length v1
      let new ← Builtin.firstCells ie.size ys.length v2
      let rest:=Builtin.zeroCells (← Go.zeroValue e).cells (newCap - (xs.length+ys.length));pure (.slice (some (← newRow e (old++new++rest))) (xs.length+ys.length) newCap):Sem Value)).run P w:=by
  intro base cap hv;subst hv;rcases f with rfl|rfl;all_goals (
   unfold Builtin.append_;simp only [List.getElem?_toArray,List.getElem?_cons_zero,List.getElem?_cons_succ];rw [Kw V];simp only [];rw [Kw (Kby hTe)];rw [Kw X];simp only [];rw [Kw (a:=false) (w':=w) rfl];simp only [Bool.false_eq_true,if_false];rw [Kw K];simp only [Bool.not_false,if_true];rfl)
 obtain ⟨base,cap,hv⟩:=row_len hrow;by_cases hle:xs.length+ys.length≤cap
 ·obtain ⟨c,g1,s,A⟩:=I w (fun _ _=>rfl);rw [start base cap hv,if_pos hle,Kw A];rcases hrow with ⟨a,f,e2⟩|⟨b,m,us,rest,TT,f,h0,g,h1,h2,h3,B⟩
  ·
   rw [hv] at f;simp only [Value.slice.injEq] at f;obtain ⟨rfl,e3,rfl⟩:=f;have hy:ys=[]:=List.eq_nil_of_length_eq_zero (by omega);subst hy;subst e2;have ad:c=[]:=List.eq_nil_of_length_eq_zero (by simpa using g1);subst ad;refine ⟨(base,0,0),w,?_,fun hy a n m q=>by simp only [SL,Value.slice.injEq] at q;have:=(hy a _ _ (by rw [hv,q.1])).1;omega,hA,Hp.le_refl H,fun _ _ x=>.inl x,fun _ _ _=>rfl,Nat.le_refl _,?_,by simp,?_,?_,Env.refl w⟩
   · cases base with
     | none=>rfl
     | some a=>simp only [storeCells];rfl
   · intro p hp;simp only [List.mem_singleton] at hp;subst hp;exact .inl ⟨base,rfl,rfl⟩
   · cases base<;>simp [KP,K0,Kau]
   cases base<;>simp [KP,K0,Kau]
  rw [hv] at f;simp only [Value.slice.injEq] at f;obtain ⟨rfl,_,rfl⟩:=f;have hul:=KeG h2;have hclaim:KP [(r,Blk.row ie.size xs v1)] []=[b]:=by rw [hv];simp [KP,K0,Kau,g]
  have hmk:(xs.length+ys.length)*ie.size≤cap*ie.size:=Nat.mul_le_mul_right _ hle;rw [Nat.add_mul] at hmk;have hsz:0+xs.length*ie.size+c.length≤(us++rest).length:=by rw [g1];omega
  obtain ⟨w',s1,s2,s3,E,u⟩:=KcL (P:=P) (b:=b) (off:=xs.length*ie.size) (T:=TT) c 0 w (us++rest) h1 (by omega) (Kkw s);simp only [Nat.add_zero] at u;have ecells:(us++rest).take (xs.length*ie.size)++(c++(us++rest).drop (xs.length*ie.size+c.length))=(us++c)++rest.drop c.length:=by
    rw [List.take_append_of_le_length (by omega),List.take_of_length_le (by omega),List.drop_append,List.drop_of_length_le (by omega),List.nil_append,List.append_assoc];congr 3;omega
  rw [ecells] at u;refine ⟨(some ⟨b,0,none⟩,xs.length+ys.length,cap),w',?_,fun hy a n m q=>?_,?_⟩;rotate_left
  · obtain ⟨_,cs,hcs⟩:=hy ⟨b,0,none⟩ _ _ hv;simp only [SL,Value.slice.injEq,Option.some.injEq] at q;obtain ⟨rfl,_,rfl⟩:=q;rw [h1] at hcs;simp only [Option.some.injEq,Obj.cells.injEq] at hcs;exact ⟨g,_,by rw [← hcs.2.1];exact u⟩
  rotate_left
  · simp only [KcT,Nat.zero_add];rw [Kw s1];rfl
  rw [hclaim];refine ⟨⟨fun a v0 ea=>?_,hA.gg.own B E⟩,Hp.le_refl H,fun _ _ x=>.inl x,fun i _ g=>E i (by simpa using g),by show w.heap.size≤w'.heap.size;omega,?_,by simp,?_,?_,s2⟩
  ·have hcell:=hA a v0 ea;by_cases qb:a.block=b
   ·obtain ⟨ab,ao,as_⟩:=a;simp only at qb;subst qb;cases as_ with
    | some sp=>simp [World.cell?,h1] at hcell
    | none=>rw [B ao] at ea;cases ea
   simp only [World.cell?] at hcell ⊢;rw [E _ qb];exact hcell
  ·intro p hp;simp only [List.mem_singleton] at hp;subst hp;refine .inr ⟨b,cap,us++c,rest.drop c.length,TT,by simp [SL],by simpa using hle,g,by simpa using u,KgO h2 s,?_,B⟩;have:=congrArg List.length ecells;simp only [List.length_append,List.length_take,List.length_drop] at this h3 ⊢;omega
  ·simp [KP,K0,Kau,g]
  intro x hx;simp [KP,K0,Kau,g] at hx;subst hx;exact .inl (by simp)
 have hgt:¬ xs.length+ys.length≤cap:=hle;rw [start base cap hv,if_neg hgt];have hti:(Go.typeInfo e).run P w=.ok tif w:=Y;have hbytes:tif.bytes=ie.bytes:=Z;have ah:¬ (((xs.length+ys.length:Nat):Int) > IntKind.i64.max∧((false=true)∨tif.bytes=0)):=by
  rintro ⟨_,q|q⟩
  · cases q
  omega
 have ai:¬ (Builtin.nextslicecap (xs.length+ys.length) cap*tif.bytes > 2 ^ 48):=by
  have h5:=next_le (Nat.lt_of_not_le hgt);have h6:Builtin.nextslicecap (xs.length+ys.length) cap*ie.bytes≤2*(xs.length+ys.length)*ie.bytes:=Nat.mul_le_mul_right _ h5;rw [Nat.mul_assoc] at h6;rw [hbytes];omega
 have hforced:∀ need,(Question.appendCap need cap e).forced=false:=fun _=>rfl
 obtain ⟨newCap,hcap,hchoose⟩:∃ newCap,xs.length+ys.length≤newCap∧(choose (.appendCap (xs.length+ys.length) cap e)).run P w=.ok newCap (wDrew w):=by
  refine ⟨_,?_,by simp only [choose,Sem.run,hforced];rfl⟩;simp only [Question.cut];omega
 obtain ⟨zz,al,am⟩:=Kcr (w:=wDrew w) hTe;obtain ⟨ay,_,an,_⟩:=Kd0 (w:=wDrew w) hTe;obtain ⟨j,f1,f2,f3⟩:=first_row (P:=P) (blk_drew hrow);obtain ⟨c,g1,s,A⟩:=I (wDrew w) (fun _ _=>rfl);let restA:=Builtin.zeroCells zz.cells (newCap - (xs.length+ys.length));have hrest:restA.size=(newCap - (xs.length+ys.length))*ie.size:=by
  show (Builtin.zeroCells zz.cells _).size=_
  unfold Builtin.zeroCells;simp only [Array.size_map,Array.size_range];have:zz.cells.size=ie.size:=by rw [← Array.length_toList,am,hz]
  rw [this]
 refine ⟨(some ⟨w.heap.size,0,none⟩,xs.length+ys.length,newCap),(wDrew w).alloc (.cells (j.toArray++c.toArray++restA) e),?_,fun _ a n m q=>?_,?_⟩;rotate_left
 ·simp only [SL,Value.slice.injEq,Option.some.injEq] at q;obtain ⟨rfl,_,rfl⟩:=q;exact ⟨by omega,_,by show ((wDrew w).alloc _).heap[(wDrew w).heap.size]? = _;rw [Kbz,if_pos rfl]⟩
 rotate_left
 ·rw [Kw hti];rw [if_neg ah];rw [Kw hti];rw [if_neg ai];rw [Kw hchoose,Kw an,Kw Kh8,Kw f3,Kw A,Kw al];rfl
 have earr:j.toArray++c.toArray++restA=((j++c)++restA.toList).toArray:=by simp
 rw [earr];have hsizew:(wDrew w).heap.size=w.heap.size:=rfl;have hcells:((wDrew w).alloc (.cells ((j++c)++restA.toList).toArray e)).heap[w.heap.size]? = some (.cells ((j++c)++restA.toList).toArray e (0,0)):=by
   rw [Kbz,hsizew,if_pos rfl]
 have F:0 < newCap:=by omega
 refine ⟨(Core.drew' hA).alloc _,Hp.le_refl H,fun _ _ x=>.inl x,fun b hb _=>?_,?_,?_,by simp,?_,?_,⟨rfl,rfl,rfl,Nat.le_refl _⟩⟩
 · rw [Kbz,hsizew,if_neg (by exact Nat.ne_of_lt hb)];rfl
 · rw [Kf9,hsizew];exact Nat.le_succ _
 · intro p hp;simp only [List.mem_singleton] at hp;subst hp;refine .inr ⟨w.heap.size,newCap,j++c,restA.toList,e,by simp [SL],by simpa using hcap,F,hcells,KgO f2 s,?_,fun o=>?_⟩
   ·simp only [List.length_append,Array.length_toList,hrest,f1,g1];rw [← Nat.add_mul,← Nat.add_mul];exact Nat.mul_le_mul_right _ (by omega)
   cases q:H ⟨w.heap.size,o,none⟩ with
   | none=>rfl
   | some v=>exact absurd (hA.lt q) (Nat.lt_irrefl _)
 · simp [KP,K0,Kau,F]
 intro x hx;simp [KP,K0,Kau,F] at hx;subst hx;exact .inr (Nat.le_refl _)
theorem app_runR {P:Program}{tab:List (Option TI)}(hT:TabOK P tab){H:Hp}{w:World}{r kk bb:Nat}{T T' e e':TypeId}{ty:TypeId}{c a ie:TI}{xs ys:List D}{v1 v2:Value}
  (hA:Ag H w) (hrow:BlkOK H w (r,.row kk xs v1)) (hown:∀ b∈KP [(r,.row kk xs v1)] [],b < w.heap.size)
  (f:(Builtin.lenOf v2).run P w=.ok ys.length w) (g:∀ w',(∀ b,b < w.heap.size→w'.heap[b]? = w.heap[b]?)→∃ us:List Value,us.length=ys.length*kk∧FlatR H kk ys us∧(Builtin.firstCells kk ys.length v2).run P w'=.ok us.toArray w')
  (j:ti tab T=some c) (n:c.d=.slice e) (p:ti tab T'=some a) (q:a.d=.slice e'∨a.d=.str) (hie:ti tab e=some ie) (hks:ie.size=kk) (hbb:ie.bytes=bb) (hz:ie.zero.length=kk) (s:1≤bb) (hbound:(xs.length+ys.length)*bb≤140737488355328) :
  ∃ (z:Z3) (w':World),(Builtin.append_ #[T,T'] ty #[v1,v2]).run P w=.ok (SL z) w'∧Core ⟨H,w,KP [(r,.row kk xs v1)] []⟩ H [(0,.row kk (xs++ys) (SL z))] [] w':=by
 obtain ⟨z,w',h1,_,h2⟩:=Klw (ty:=ty) hT hA hrow hown f g j n p q hie hks hbb hz s hbound;exact ⟨z,w',h1,h2⟩
section
variable {P : Program} {C : Ctx} {N : Nat} {ops rest : List Oper} {o : Oper} {t : List (Nat × D)} {h : List (Nat × Blk)} {k : List (Nat × Value)} {Q : Exit → S → Prop} {tab : List (Option TI)}
theorem p_appR {i r kk bb:Nat}{T T' e e':TypeId}{x y:Operand}{xs ys:List D}{c':Cap}{z:Z3}{c f ie:TI}(j:Nat)(hT:TabOK P tab)(ho:o.op=.call ⟨.builtin .append,[x,y].toArray,#[T,T']⟩)(hw:wantD ops t o=some true)(hd:o.dst=some i)(hi:Nat.blt i N=true)
  (hx:opD t x=some (.v (SL z))) (hj:h[j]? = some (r,.row kk xs (SL z))) (hy:opD t y=some (.lst kk ys c'))
  (p:ti tab T=some c) (q:c.d=.slice e) (u:ti tab T'=some f) (A:f.d=.slice e') (hie:ti tab e=some ie) (hks:ie.size=kk) (hbb:ie.bytes=bb) (hz:ie.zero.length=kk) (B:Nat.ble 1 bb=true) (hbound:(xs.length+ys.length)*bb≤140737488355328)
  (g:∀ z':Z3,opsD P C N ops rest ⟨(i,.v (SL z'))::t,h.set j (0,.row kk (xs++ys) (SL z')),k⟩ Q):opsD P C N ops (o::rest) ⟨t,h,k⟩ Q:=
 Kb4 (s:=⟨t,h,k⟩) hw hd hi fun H a w core kt=>by
  have hry:=Kae kt hy;obtain ⟨E,m2,ey⟩:=KdK hry;have c1:Core C H ([(r,.row kk xs (SL z))]++h.eraseIdx j) ([]++k) w:=core.perm (KZ hj) (List.Perm.refl _);have hbl:=core.blks _ (List.mem_of_getElem? hj);obtain ⟨z',w',h1,h2⟩:=app_runR (P:=P) (ty:=o.type) (v1:=SL z) (v2:=a.eval y) hT core.ag hbl (fun b hb=>c1.lt b (by
   have:=(KbM [(r,Blk.row kk xs (SL z))] (h.eraseIdx j) [] k).mem_iff (a:=b);exact this.2 (List.mem_append_left _ hb))) (by rw [ey];rfl) (fun F n=>Kha ⟨fun a' v e'=>by
    have:=core.ag a' v e';have hlt:=core.ag.lt e';unfold World.cell? at this ⊢;rw [n _ hlt];exact this,core.ag.gg.step (Hp.le_refl H) (n _ core.ag.gg.lt)⟩ hry) p q u (.inl A) hie hks hbb hz (Nat.le_of_ble_eq_true B) hbound
  have c2:=Core.call c1 h2;refine ⟨SL z',w',H,.v (SL z'),h.set j (0,.row kk (xs++ys) (SL z')),k,Kb9 (s:=Builtin.append_) ho (fun _ _=>rfl) ?_,Hp.le_refl H,c2.perm (KfF hj) (List.Perm.refl _),rep_v rfl,g z'⟩;have e:=KW (Kae kt hx);simpa [e] using h1
end
end
section
open Go
section
variable {P : Program} {C : Ctx} {N : Nat} {ops rest : List Oper} {o : Oper} {t : List (Nat × D)} {h : List (Nat × Blk)} {k : List (Nat × Value)} {Q : Exit → S → Prop} {tab : List (Option TI)}
theorem p_appR2 {i r kk bb:Nat}{T T' e e':TypeId}{x y:Operand}{xs ys zs:List D}{c':Cap}{z:Z3}{a b ie:TI}(j:Nat)(hT:TabOK P tab)(ho:o.op=.call ⟨.builtin .append,[x,y].toArray,#[T,T']⟩)(hw:wantD ops t o=some true)(hd:o.dst=some i)(hi:Nat.blt i N=true)
  (hx:opD t x=some (.v (SL z))) (hj:h[j]? = some (r,.row kk xs (SL z))) (hy:opD t y=some (.lst kk ys c'))
  (c:ti tab T=some a) (f:a.d=.slice e) (n:ti tab T'=some b) (p:b.d=.slice e') (hie:ti tab e=some ie) (hks:ie.size=kk) (hbb:ie.bytes=bb) (hz:ie.zero.length=kk) (q:Nat.ble 1 bb=true) (hbound:(xs.length+ys.length)*bb≤140737488355328) (em:xs++ys=zs)
  (g:∀ z':Z3,opsD P C N ops rest ⟨(i,.v (SL z'))::t,h.set j (0,.row kk zs (SL z')),k⟩ Q):opsD P C N ops (o::rest) ⟨t,h,k⟩ Q:=by
 subst em;exact p_appR j hT ho hw hd hi hx hj hy c f n p hie hks hbb hz q hbound g
theorem p_app0R {i n kk bb:Nat}{T T' e e':TypeId}{x y:Operand}{ys zs:List D}{c':Cap}{c f ie:TI}(hT:TabOK P tab)(ho:o.op=.call ⟨.builtin .append,[x,y].toArray,#[T,T']⟩)(hw:wantD ops t o=some true)(hd:o.dst=some i)(hi:Nat.blt i N=true)
  (hx:opD t x=some (.lst n [] .full)) (hy:opD t y=some (.lst kk ys c'))
  (p:ti tab T=some c) (q:c.d=.slice e) (r:ti tab T'=some f) (u:f.d=.slice e') (hie:ti tab e=some ie) (hks:ie.size=kk) (hbb:ie.bytes=bb) (hz:ie.zero.length=kk) (A:Nat.ble 1 bb=true) (hbound:ys.length*bb≤140737488355328) (em:ys=zs)
  (g:∀ z':Z3,opsD P C N ops rest ⟨(i,.v (SL z'))::t,(0,.row kk zs (SL z'))::h,k⟩ Q):opsD P C N ops (o::rest) ⟨t,h,k⟩ Q:=by
 subst em;refine Kb4 (s:=⟨t,h,k⟩) hw hd hi fun H a w core kt=>?_
 have hry:=Kae kt hy;obtain ⟨B,m2,ey⟩:=KdK hry;obtain ⟨z,ez,c1⟩:=row_nil (kk:=kk) core (Kae kt hx);have hbl:=c1.blks _ (List.mem_cons_self ..);obtain ⟨z',w',h1,h2⟩:=app_runR (P:=P) (ty:=o.type) (v1:=SL z) (v2:=a.eval y) (xs:=[]) (ys:=ys) hT c1.ag hbl (fun b hb=>c1.lt b (by
   have:=(KbM [(0,Blk.row kk [] (SL z))] h [] k).mem_iff (a:=b);exact this.2 (List.mem_append_left _ hb))) (by rw [ey];rfl) (fun E j=>Kha ⟨fun a' v e'=>by
    have:=core.ag a' v e';have hlt:=core.ag.lt e';unfold World.cell? at this ⊢;rw [j _ hlt];exact this,core.ag.gg.step (Hp.le_refl H) (j _ core.ag.gg.lt)⟩ hry) p q r (.inl u) hie hks hbb hz (Nat.le_of_ble_eq_true A) (by simpa using hbound)
 have c2:=Core.call (h1:=[(0,.row kk [] (SL z))]) (k1:=[]) (h2:=h) (k2:=k) c1 h2;refine ⟨SL z',w',H,.v (SL z'),(0,.row kk ys (SL z'))::h,k,Kb9 (s:=Builtin.append_) ho (fun _ _=>rfl) ?_,Hp.le_refl H,c2,rep_v rfl,g z'⟩;simpa [ez] using h1
theorem Ka6 {f:FuncId}{args:List Operand}{ts:Array TypeId}{i:Nat}{ds ds':List D}{h1 h2:List (Nat×Blk)}{k1 k2:List (Nat×Value)}{R:D→List (Nat×Blk)→List (Nat×Value)→Prop}
  (hc:CallsD P f ds' h1 k1 R) (ho:o.op=.call ⟨.value (.func f),args.toArray,ts⟩) (hw:wantD ops t o=some true) (hd:o.dst=some i) (hi:Nat.blt i N=true) (ha:Kb3 args (opD t)=some ds) (hwk:WkL ds ds')
  (hh:h.Perm (h1++h2)) (hk:k.Perm (k1++k2)) (g:∀ d h' k',R d h' k'→opsD P C N ops rest ⟨(i,d)::t,h'++h2,k'++k2⟩ Q):opsD P C N ops (o::rest) ⟨t,h,k⟩ Q:=
 ops_call (s:=⟨t,h,k⟩) hc ho hw hd hi ha hwk hh hk g
theorem WkC.any {d:D}:WkC d .any:=fun _ _ _=>by simp only [RepC]
end
end
section
open Go
abbrev PE (z:Z3)(o:Nat):Value:=.pointer (z.1.map (·.add o))
def mkOK (bb:Nat)(n c:Int):Bool:=decide (0≤n) && decide (n≤c) && decide (c*bb≤140737488355328)
theorem mkOK_of {bb:Nat}{n c:Int}(h:mkOK bb n c=true):0≤n∧n≤c∧c*bb≤140737488355328:=by
 simp only [mkOK,Bool.and_eq_true,decide_eq_true_eq] at h;exact ⟨h.1.1,h.1.2,h.2⟩
theorem Kkx {H:Hp}{kk:Nat}{x:D}{us:List Value}(hl:us.length=kk)(h:RepC H x us)(h1:∀ u∈us,one u=true):∀ n,FlatR H kk (List.replicate n x) (List.replicate n us).flatten
 | 0=>rfl
 |
  n+1=>by
  simp only [List.replicate_succ,List.flatten_cons];exact ⟨us,_,rfl,hl,⟨h,h1⟩,Kkx hl h h1 n⟩
theorem flat_at {H:Hp}{kk:Nat}:∀ {xs:List D} {us:List Value} {j:Nat} {x:D},FlatR H kk xs us→xs[j]? = some x→∃ vs,vs.length=kk∧RepC H x vs∧(∀ u∈vs,one u=true)∧(us.drop (j*kk)).take kk=vs∧j*kk+kk≤us.length
 | [],us,j,x,_,e=>by simp at e
 |
  y::xs,us,0,x,h,e=>by
  obtain ⟨a,c,rfl,hl,⟨h1,h2⟩,b⟩:=h;simp only [List.getElem?_cons_zero,Option.some.injEq] at e;subst e;refine ⟨a,hl,h1,h2,?_,by simp [hl]⟩;rw [Nat.zero_mul,List.drop_zero,List.take_append_of_le_length (by omega),List.take_of_length_le (by omega)]
 |
  y::xs,us,j+1,x,h,e=>by
  obtain ⟨a,c,rfl,hl,⟨h1,h2⟩,b⟩:=h;simp only [List.getElem?_cons_succ] at e;obtain ⟨vs,g1,d,f,g,n⟩:=flat_at b e;refine ⟨vs,g1,d,f,?_,by simp only [List.length_append,hl,Nat.add_mul];omega⟩;rw [show (j+1)*kk=a.length+j*kk by rw [hl,Nat.add_mul];omega,List.drop_append,List.drop_of_length_le (by omega),List.nil_append,Nat.add_sub_cancel_left];exact g
theorem flat_set {H:Hp}{kk:Nat}{x:D}{vs:List Value}(hl:vs.length=kk)(hx:RepC H x vs)(h1:∀ u∈vs,one u=true):∀ {xs:List D} {us:List Value} {j:Nat},FlatR H kk xs us→j < xs.length→FlatR H kk (xs.set j x) (us.take (j*kk)++(vs++us.drop (j*kk+kk)))
 | [],us,j,_,e=>by simp at e
 |
  y::xs,us,0,h,e=>by
  obtain ⟨a,c,rfl,hl',⟨h2,d⟩,b⟩:=h;simp only [List.set_cons_zero,Nat.zero_mul,List.take_zero,List.nil_append,Nat.zero_add];refine ⟨vs,c,?_,hl,⟨hx,h1⟩,b⟩;rw [List.drop_append,List.drop_of_length_le (by omega),List.nil_append,hl',Nat.sub_self,List.drop_zero]
 |
  y::xs,us,j+1,h,e=>by
  obtain ⟨a,c,rfl,hl',⟨h2,d⟩,b⟩:=h;simp only [List.set_cons_succ];refine ⟨a,_,?_,hl',⟨h2,d⟩,flat_set hl hx h1 b (by simpa using e)⟩;have q:(j+1)*kk=a.length+j*kk:=by rw [hl',Nat.add_mul];omega
  rw [q,List.take_append,List.take_of_length_le (by omega),Nat.add_sub_cancel_left,List.append_assoc,List.drop_append,List.drop_of_length_le (by omega),List.nil_append];congr 4;omega
theorem Core.newRow {C:Ctx}{H:Hp}{h:List (Nat×Blk)}{k:List (Nat×Value)}{w:World}(c:Core C H h k w){xs:List D}{us rest:List Value}{kk m:Nat}{T:TypeId}(hf:FlatR H kk xs us)(a:xs.length≤m)(hl:m*kk≤(us++rest).length)(z:m=0→xs=[]) :
  Core C H ((0,.row kk xs (SL (some ⟨w.heap.size,0,none⟩,xs.length,m)))::h) k (w.alloc (.cells (us++rest).toArray T)):=by
 have c0:Core ⟨H,w,[]⟩ H [(0,.row kk xs (SL (some ⟨w.heap.size,0,none⟩,xs.length,m)))] [] (w.alloc (.cells (us++rest).toArray T)):=by
  refine ⟨c.ag.alloc _,Hp.le_refl H,fun _ _ x=>.inl x,fun b hb _=>?_,?_,?_,by simp,?_,?_,⟨rfl,rfl,rfl,Nat.le_refl _⟩⟩
  ·rw [Kbz,if_neg (by exact Nat.ne_of_lt hb)]
  ·rw [Kf9];exact Nat.le_succ _
  ·intro p hp;simp only [List.mem_singleton] at hp;subst hp;by_cases q:m=0
   ·subst q;have:=z rfl;subst this;exact .inl ⟨_,rfl,rfl⟩
   refine .inr ⟨w.heap.size,m,us,rest,T,rfl,a,by omega,by rw [Kbz,if_pos rfl],hf,hl,fun o=>?_⟩;cases e:H ⟨w.heap.size,o,none⟩ with
   | none=>rfl
   | some v=>exact absurd (c.ag.lt e) (Nat.lt_irrefl _)
  ·simp only [KP,K0,Kau,List.flatMap_cons,List.flatMap_nil,List.append_nil];split<;>simp
  intro b hb;simp only [KP,K0,Kau,List.flatMap_cons,List.flatMap_nil,List.append_nil] at hb;split at hb
  ·simp at hb;subst hb;exact .inr (Nat.le_refl _)
  cases hb
 have:=Core.call (h1:=[]) (k1:=[]) (h2:=h) (k2:=k) c c0;simpa using this
theorem Kgh {z:List Value}{kk:Nat}(hz:z.length=kk):∀ n,((List.replicate n z).flatten).length=n*kk
 | 0=>by simp
 | n+1=>by simp [List.replicate_succ,Kgh hz n,hz,Nat.add_mul];omega
theorem repl_at {z:List Value}:∀ (n i:Nat),i < n*z.length→(List.replicate n z).flatten[i]? = z[i % z.length]?
 | 0,i,h=>by simp at h
 |
  n+1,i,h=>by
  simp only [List.replicate_succ,List.flatten_cons];rw [List.getElem?_append];split
  ·rename_i hlt;rw [Nat.mod_eq_of_lt hlt]
  rename_i hge;rw [repl_at n (i - z.length) (by rw [Nat.add_mul,Nat.one_mul] at h;omega)];rw [Nat.mod_eq_sub_mod (a:=i) (by omega)]
section
variable {P : Program} {C : Ctx} {N : Nat} {ops rest : List Oper} {o : Oper} {t : List (Nat × D)} {h : List (Nat × Blk)} {k : List (Nat × Value)} {Q : Exit → S → Prop} {tab : List (Option TI)}
theorem p_makeR {i kk bb:Nat}{T e:TypeId}{x y:Operand}{k1 k2:IntKind}{n c:Int}{x0:D}{b ie:TI}(hT:TabOK P tab)(ho:o.op=.makeSlice T x y)(hw:wantD ops t o=some true)(hd:o.dst=some i)(hi:Nat.blt i N=true)
  (hx:opD t x=some (.v (.int k1 n))) (hy:opD t y=some (.v (.int k2 c))) (hti:ti tab T=some b) (hs:b.d=.slice e) (hie:ti tab e=some ie) (hks:ie.size=kk) (hbb:ie.bytes=bb) (hz:ie.zero.length=kk) (f:Nat.ble 1 bb=true) (j:Nat.ble 1 kk=true) (h1z:ie.zero.all one=true)
  (hok:mkOK bb n c=true) (p:∀ H,RepC H x0 ie.zero)
  (g:∀ z:Z3,opsD P C N ops rest ⟨(i,.v (SL z))::t,(0,.row kk (List.replicate n.toNat x0) (SL z))::h,k⟩ Q):opsD P C N ops (o::rest) ⟨t,h,k⟩ Q:=
 Kb4 (s:=⟨t,h,k⟩) hw hd hi fun H a w core kt=>by
  subst hks;subst hbb;obtain ⟨h0,hnc,hcb⟩:=mkOK_of hok;have K:=Nat.le_of_ble_eq_true f;have L:=Nat.le_of_ble_eq_true j;obtain ⟨d0,r,A⟩:=Kak (w:=w) (ti_ok hT hti);obtain rfl:=KbY (A.trans hs);have hTe:=ti_ok hT hie;obtain ⟨tif,zz,B,M,E,O,R⟩:=Kd0 (w:=w) hTe;obtain ⟨zv,F,G⟩:=Kcr (w:=w) hTe;have hone:∀ u∈ie.zero,one u=true:=by simpa [List.all_eq_true] using h1z
  have hc:c≤140737488355328:=by
   have:c*1≤c*(ie.bytes:Int):=Int.mul_le_mul_of_nonneg_left (by omega) (by omega);omega
  have wl:IntKind.i64.wrap n=n:=by rw [IntKind.wrap_i64];omega
  have wc:IntKind.i64.wrap c=c:=by rw [IntKind.wrap_i64];omega
  let xs:=List.replicate n.toNat x0;have hxl:xs.length=n.toNat:=by simp [xs]
  refine ⟨SL (some ⟨w.heap.size,0,none⟩,n.toNat,c.toNat),w.alloc (.cells ((List.replicate n.toNat ie.zero).flatten++(List.replicate (c.toNat - n.toNat) ie.zero).flatten).toArray e),H,.v (SL (some ⟨w.heap.size,0,none⟩,n.toNat,c.toNat)),(0,.row ie.size xs (SL (some ⟨w.heap.size,0,none⟩,n.toNat,c.toNat)))::h,k,?_,Hp.le_refl H,?_,rep_v rfl,g _⟩
  ·unfold execOp;rw [ho];refine Kbb ?_;rw [KW (Kae kt hx),KW (Kae kt hy)];unfold Instr.makeSlice;rw [Kw r];simp only [];rw [Kw (a:=n) rfl,Kw (a:=c) rfl,Kw B];simp only [wl,wc,E];rw [if_neg (by
    simp only [Bool.or_eq_true,decide_eq_true_eq,not_or,Int.not_lt,Int.not_le];refine ⟨⟨⟨by omega,?_⟩,by omega⟩,by omega⟩;have:(ie.bytes:Int)*c≤140737488355328:=by rw [Int.mul_comm];exact hcb
    show (ie.bytes:Int)*c≤2 ^ 48
    omega)]
   rw [Kw Kh8,Kw (Kby hTe)];have hcell:∀ zr:Array Value,(c.toNat*ie.size=0∨zr.toList=ie.zero)→(Array.range (c.toNat*ie.size)).map (zr[· % zr.size]!)=((List.replicate n.toNat ie.zero).flatten++(List.replicate (c.toNat - n.toNat) ie.zero).flatten).toArray:=by
    intro zr hzr;apply Array.ext';have I:(List.replicate n.toNat ie.zero).flatten++(List.replicate (c.toNat - n.toNat) ie.zero).flatten=(List.replicate c.toNat ie.zero).flatten:=by
     rw [← List.flatten_append,List.replicate_append_replicate,show n.toNat+(c.toNat - n.toNat)=c.toNat by omega]
    rw [I];apply List.ext_getElem?;intro i;simp only [Array.toList_map,Array.toList_range,List.getElem?_map];rcases hzr with q|q
    ·have J:c.toNat=0:=by
      rcases Nat.mul_eq_zero.1 q with q|q
      ·exact q
      omega
     rw [J];simp
    have hsz:zr.size=ie.size:=by rw [← Array.length_toList,q,hz]
    by_cases hlt:i < c.toNat*ie.size
    ·rw [List.getElem?_range hlt,repl_at c.toNat i (by rw [hz];exact hlt)];simp only [Option.map_some];have hml:i % zr.size < zr.size:=Nat.mod_lt _ (by omega);rw [← q,Array.length_toList,Array.getElem?_toList,getElem!_pos zr _ hml,getElem?_pos zr _ hml]
    rw [List.getElem?_eq_none (by simpa using hlt),List.getElem?_eq_none (by rw [Kgh hz];omega)];rfl
   by_cases q:c.toNat*ie.size=0
   ·rw [if_pos q,Kw (a:=(#[]:Array Value)) rfl,hcell #[] (.inl q)];rfl
   rw [if_neg q];simp only [Kcz,F,KcG];rw [hcell zv.cells (.inr G)];rfl
  have:=core.newRow (xs:=xs) (us:=(List.replicate n.toNat ie.zero).flatten) (rest:=(List.replicate (c.toNat - n.toNat) ie.zero).flatten) (kk:=ie.size) (m:=c.toNat) (T:=e)
   (Kkx hz (p H) hone n.toNat) (by omega) (by simp only [List.length_append,Kgh hz];rw [← Nat.add_mul];exact Nat.mul_le_mul_right _ (by omega)) (fun q=>by
    have:n.toNat=0:=by omega
    simp [xs,this])
  rw [hxl] at this;exact this
theorem Kky {i kk bb:Nat}{T e:TypeId}{x y:Operand}{k1 k2:IntKind}{n c:Int}{x0:D}{zs:List D}{a ie:TI}(hT:TabOK P tab)(ho:o.op=.makeSlice T x y)(hw:wantD ops t o=some true)(hd:o.dst=some i)(hi:Nat.blt i N=true)
  (hx:opD t x=some (.v (.int k1 n))) (hy:opD t y=some (.v (.int k2 c))) (hti:ti tab T=some a) (hs:a.d=.slice e) (hie:ti tab e=some ie) (hks:ie.size=kk) (hbb:ie.bytes=bb) (hz:ie.zero.length=kk) (b:Nat.ble 1 bb=true) (f:Nat.ble 1 kk=true) (h1z:ie.zero.all one=true)
  (hok:mkOK bb n c=true) (j:∀ H,RepC H x0 ie.zero) (em:List.replicate n.toNat x0=zs)
  (g:∀ z:Z3,opsD P C N ops rest ⟨(i,.v (SL z))::t,(0,.row kk zs (SL z))::h,k⟩ Q):opsD P C N ops (o::rest) ⟨t,h,k⟩ Q:=by
 subst em;exact p_makeR hT ho hw hd hi hx hy hti hs hie hks hbb hz b f h1z hok j g
theorem KgC {α:Type}{e:α→D}{xs:List α}{j:Nat}{v:α}:(xs.map e).set j (e v)=(xs.set j v).map e:=List.map_set.symm
theorem KgD {α:Type}{e:α→D}{xs:List α}{j:Int}{x:α}(h:idx xs j=some x):j.toNat < (xs.map e).length:=by simpa using idx_lt h
theorem Kdj {i r kk:Nat}{T e:TypeId}{x ix:Operand}{xs:List D}{z:Z3}{ik:IntKind}{jx:Int}{d:D}{c tie:TI}(j:Nat)(hT:TabOK P tab)(ho:o.op=.indexAddr T x ix)(hw:wantD ops t o=some true)(hd:o.dst=some i)(hi:Nat.blt i N=true)
  (hx:opD t x=some (.v (SL z))) (hj:h[j]? = some (r,.row kk xs (SL z))) (hix:opD t ix=some (.v (.int ik jx))) (hti:ti tab T=some c) (hs:c.d=.slice e) (hte:ti tab e=some tie) (hk:tie.size=kk) (h0:0≤jx) (hb:xs[jx.toNat]? = some d)
  (g:opsD P C N ops rest ⟨(i,.v (PE z (jx.toNat*kk)))::t,h,k⟩ Q):opsD P C N ops (o::rest) ⟨t,h,k⟩ Q:=
 Kb4 (s:=⟨t,h,k⟩) hw hd hi fun H a w core kt=>by
  obtain ⟨dd,h1,h2⟩:=Kak (w:=w) (ti_ok hT hti);have:=KbY (h2.trans hs);subst this;obtain ⟨hlt,_⟩:=List.getElem?_eq_some_iff.1 hb;rcases core.blks _ (List.mem_of_getElem? hj) with ⟨ad,_,n⟩|⟨b,m,us,rest',TT,f,g0,q,g1,u,y,A⟩
  ·subst n;simp at hb
  refine ⟨PE z (jx.toNat*kk),w,H,_,h,k,?_,Hp.le_refl H,core,rep_v rfl,g⟩;unfold execOp;rw [ho];refine Kbb ?_;rw [KW (Kae kt hx),KW (Kae kt hix)];obtain ⟨B,E,F⟩:=z;simp only [SL,Value.slice.injEq] at f;obtain ⟨rfl,rfl,rfl⟩:=f;unfold Instr.indexAt;rw [Kw (a:=(ik,jx)) rfl];simp only [];have p:jx < (xs.length:Int):=by omega
  simp only [SL,PE,Kcz,h1,KcG,Kby (ti_ok hT hte),hk,if_pos (show 0≤jx∧jx < (xs.length:Int) from ⟨h0,p⟩),KcT,Option.map_some]
theorem Kfm {i r kk jn:Nat}{T:TypeId}{x:Operand}{xs:List D}{z:Z3}{d0 d:D}{c:TI}(j:Nat)(hT:TabOK P tab)(ho:o.op=.load T x)(hw:wantD ops t o=some true)(hd:o.dst=some i)(hi:Nat.blt i N=true)
  (hx:opD t x=some (.v (PE z (jn*kk)))) (hj:h[j]? = some (r,.row kk xs (SL z))) (hti:ti tab T=some c) (hb:xs[jn]? = some d0) (e:partD c (Kah d0) 0=some d) (hne:Kah d0 ≠ [])
  (g:opsD P C N ops rest ⟨(i,d)::t,h,k⟩ Q):opsD P C N ops (o::rest) ⟨t,h,k⟩ Q:=
 Kb4 (s:=⟨t,h,k⟩) hw hd hi fun H a w core kt=>by
  rcases core.blks _ (List.mem_of_getElem? hj) with ⟨ad,_,p⟩|⟨b,m,us,rest',TT,f,g0,I,g1,y,J,K⟩
  ·subst p;simp at hb
  obtain ⟨vs,f1,A,B,E,L⟩:=flat_at y hb;have hrow:RowAt w b (jn*kk) vs:=fun q u eq=>by
   have:=(KgS g1).drop (jn*kk);rw [Nat.zero_add] at this;refine this q u ?_;rw [List.drop_append_of_le_length (by omega)];have hq:=(List.getElem?_eq_some_iff.1 eq).1;rw [← E,List.getElem?_take,if_pos (by omega)] at eq;rw [List.getElem?_append_left (by rw [List.length_drop];omega)];exact eq
  obtain ⟨v,F,G⟩:=Kfg (P:=P) (T:=T) (n:=0) (ti_ok hT hti) hrow (Ki1 hne A B) e;refine ⟨v,w,H,d,h,k,?_,Hp.le_refl H,core,G,g⟩;unfold execOp;rw [ho];refine Kbb ?_;rw [KW (Kae kt hx)];obtain ⟨M,O,R⟩:=z;simp only [SL,Value.slice.injEq] at f;obtain ⟨rfl,rfl,rfl⟩:=f;simpa [PE,KcT] using F
theorem KfH {r kk jn:Nat}{T:TypeId}{x y:Operand}{xs xs':List D}{z:Z3}{d:D}{u:TI}(j:Nat)(hT:TabOK P tab)(ho:o.op=.store T x y)(hw:wantD ops t o=some true)(hd:o.dst=none)
  (hx:opD t x=some (.v (PE z (jn*kk)))) (hj:h[j]? = some (r,.row kk xs (SL z))) (hti:ti tab T=some u) (hy:opD t y=some d) (hs:stor d=true) (hsz:u.size=kk) (hdl:Nat.beq (Kah d).length kk=true) (hlt:jn < xs.length) (em:xs.set jn d=xs')
  (g:opsD P C N ops rest ⟨t,h.set j (r,.row kk xs' (SL z)),k⟩ Q):opsD P C N ops (o::rest) ⟨t,h,k⟩ Q:=
 Kko (s:=⟨t,h,k⟩) hw hd fun H a w core kt=>by
  subst em;have hbl:=core.blks _ (List.mem_of_getElem? hj);rcases hbl with ⟨ad,_,E⟩|⟨b,m,us,rest',TT,A,g0,c,g1,B,F,f⟩
  ·subst E;simp at hlt
  have hry:=Kae kt hy;have hv:=Kfh hs hry;have hlen:=Kcu hv;have hkl:=Nat.eq_of_beq_eq_true hdl;have hul:=KeG B;have hvl:(a.eval y).cells.toList.length=kk:=by omega
  obtain ⟨K,L,e⟩:=z;simp only [SL,Value.slice.injEq] at A;obtain ⟨rfl,rfl,rfl⟩:=A;have hjm:jn*kk+kk≤us.length:=by
   rw [hul];have:=Nat.mul_le_mul_right kk (show jn+1≤xs.length from hlt);rw [Nat.add_mul] at this;omega
  have hone:=KeZ hv;obtain ⟨w',G,I,M,n,q⟩:=KcL (P:=P) (b:=b) (off:=jn*kk) (T:=TT) (a.eval y).cells.toList 0 w (us++rest') g1 (by rw [hvl,List.length_append];omega) hone;rw [Nat.add_zero,hvl] at q;have ecells:(us++rest').take (jn*kk)++((a.eval y).cells.toList++(us++rest').drop (jn*kk+kk))=(us.take (jn*kk)++((a.eval y).cells.toList++us.drop (jn*kk+kk)))++rest':=by
   rw [List.take_append_of_le_length (by omega),List.drop_append_of_le_length (by omega)];simp
  rw [ecells] at q;have hrc:RepC H d (a.eval y).cells.toList:=hry.1;have c1:Core C H ([(r,.row kk xs (.slice (some ⟨b,0,none⟩) xs.length e))]++h.eraseIdx j) ([]++k) w:=core.perm (KZ hj) (List.Perm.refl _);have hclaim:KP [(r,Blk.row kk xs (.slice (some ⟨b,0,none⟩) xs.length e))] []=[b]:=by simp [KP,K0,Kau,c]
  have c2:Core ⟨H,w,KP [(r,Blk.row kk xs (.slice (some ⟨b,0,none⟩) xs.length e))] []⟩ H [(r,.row kk (xs.set jn d) (.slice (some ⟨b,0,none⟩) xs.length e))] [] w':=by
   rw [hclaim];refine ⟨⟨fun a J ea=>?_,core.ag.gg.own f n⟩,Hp.le_refl H,fun _ _ x=>.inl x,fun i _ c=>n i (by simpa using c),by show w.heap.size≤w'.heap.size;omega,?_,by simp,?_,?_,I⟩
   ·have hcell:=core.ag a J ea;by_cases qb:a.block=b
    ·obtain ⟨ab,ao,as_⟩:=a;simp only at qb;subst qb;cases as_ with
     | some sp=>simp [World.cell?,g1] at hcell
     | none=>rw [f ao] at ea;cases ea
    simp only [World.cell?] at hcell ⊢;rw [n _ qb];exact hcell
   ·intro p hp;simp only [List.mem_singleton] at hp;subst hp;refine .inr ⟨b,e,_,rest',TT,by simp,by simpa using g0,c,q,flat_set hvl hrc hone B hlt,?_,f⟩;have:=congrArg List.length ecells;simp only [List.length_append,List.length_take,List.length_drop] at this F ⊢;omega
   ·simp [KP,K0,Kau,c]
   intro x hx;simp [KP,K0,Kau,c] at hx;subst hx;exact .inl (by simp)
  refine ⟨w',H,h.set j (r,.row kk (xs.set jn d) (.slice (some ⟨b,0,none⟩) xs.length e)),k,?_,Hp.le_refl H,(Core.call c1 c2).perm (KfF hj) (List.Perm.refl _),g⟩;unfold execOp;rw [ho];have hrun:(Instr.storeAt T (a.eval x) (a.eval y)).run P w=.ok () w':=by
   rw [KW (Kae kt hx)];unfold Instr.storeAt;simp only [PE,Option.map_some,KcT,Nat.zero_add];rw [Kw (a:=(⟨b,jn*kk,none⟩:Addr)) rfl];unfold storeVar;rw [Kw (Kby (ti_ok hT hti)),if_neg (by rw [← Array.length_toList,hvl,hsz];simp)];exact G
  show ((Instr.storeAt T (a.eval x) (a.eval y)) >>= fun _=>pure Next.skip).run P w=_
  rw [Kw hrun];rfl
end
end
section
open Go
theorem Kkz {σ τ α β:Type}{f:σ→Option (Step σ τ)}(l:List β)(g:List β→α)(st:α→Nat→σ)(fin:α→τ)
  (h1:∀ pre x post,l=pre++x::post→f (st (g pre) pre.length)=some (.next (st (g (pre++[x])) (pre.length+1))))
  (h2:f (st (g l) l.length)=some (.done (fin (g l)))):loopM f (st (g []) 0)=some (fin (g l)):=by
 have key:∀ (post pre:List β),l=pre++post→loopM f (st (g pre) pre.length)=some (fin (g l)):=by
  intro post;induction post with
  | nil=>intro pre h;rw [List.append_nil] at h;subst h;exact KbA h2
  |
   cons x post ih=>
   intro pre h;rw [KcM (h1 pre x post h)];have:=ih (pre++[x]) (by simp [h]);simpa using this
 simpa using key l [] rfl
theorem loop_list {σ τ α β ρ:Type}{f:σ→Option (Step σ τ)}{a:σ}{k:τ→Option ρ}{r:Option ρ}(l:List β)(g:List β→α)(st:α→Nat→σ)(fin:α→τ)(h0:st (g []) 0=a)
  (h1:∀ pre x post,l=pre++x::post→f (st (g pre) pre.length)=some (.next (st (g (pre++[x])) (pre.length+1))))
  (h2:f (st (g l) l.length)=some (.done (fin (g l)))) (hk:k (fin (g l))=r):Option.bind (loopM f a) k=r:=by
 subst h0;rw [Kkz l g st fin h1 h2];exact hk
theorem KcN {β:Type}(pre:List β)(x:β)(post:List β):idx (pre++x::post) (pre.length:Int)=some x:=by
 rw [Kdq];simp
theorem Kcc {β:Type}{l pre:List β}{x:β}{post:List β}(h:l=pre++x::post):decide ((pre.length:Int) < (l.length:Int))=true:=by
 subst h;simp;omega
theorem Kix {β:Type}(l:List β):decide ((l.length:Int) < (l.length:Int))=false:=by simp
theorem KbO {β:Type}{l pre:List β}{x:β}{post:List β}(h:l=pre++x::post)(hb:l.length≤4611686018427387904):IntKind.i64.wrap ((pre.length:Int)+1)=((pre.length+1:Nat):Int):=by
 have:pre.length < l.length:=by subst h;simp
 rw [IntKind.wrap_i64];omega
theorem wrap_id {n:Int}(h:-9223372036854775808≤n)(k:n < 9223372036854775808):IntKind.i64.wrap n=n:=by rw [IntKind.wrap_i64];omega
theorem KcE {β:Type}{l pre:List β}{x:β}{post:List β}(h:l=pre++x::post):x∈l:=by subst h;simp
theorem Kc6 {β:Type}{bb:Nat}{xs ys:List β}(hb:bb≤4096)(h:xs.length+ys.length≤8388608):app bb xs ys=some (xs++ys):=by
 refine Kiu ?_;have:=Nat.mul_le_mul h hb;omega
theorem idx_pre2 {β:Type}{m p:List β}{x:β}{q:List β}{n:Nat}(h:m=p++x::q)(hn:n=p.length):idx m (n:Int)=some x:=by
 subst h hn;exact KcN _ _ _
end
section
open Go
theorem Le.of {α:Type}{m m':Option α}{r:α}(h:Le m m')(e:m=some r):m'=some r:=h r e
end
section
open Go
abbrev RL:=List (Nat×Nat×List D)
def isR (rl:RL)(e:Nat):Bool:=rl.any fun x=>x.1==e
def dR (rl:RL)(e:Nat)(d:D)(v:Value):D:=bif isR rl e then .v v else d
section
variable (P : Program) (C : Ctx) (N : Nat) (l : List Oper) (m : Nat) (De : Nat → D) (al : AL) (rl : RL) (pre : List (List Nat)) (ev : List Nat) (h : List (Nat × Blk)) (k : List (Nat × Value)) (Q : Exit → S → Prop)
def dEr (bs:Nat→Value)(e:Nat):D:=bif isAl al e then .ptr (blk (bs e)) 0 else dR rl e (De e) (bs e)
def TOKr (H0:Hp)(bs:Nat→Value)(vals:Nat→Value)(te:TE)(a:Act):Prop:=
 ∀ j d o,look3 te j=some (d,o)→∃ v,a.tmps[j]? = some v∧(o=none→∀ H,H0.le H→Rep H d v)∧∀ e,o=some e→v=vals e∧d=dEr De al rl bs e∧ev.contains e=true
end
section
variable {P : Program} {C : Ctx} {N : Nat} {l : List Oper} {m : Nat} {De : Nat → D} {al : AL} {rl : RL} {pre : List (List Nat)} {ev : List Nat} {h : List (Nat × Blk)} {k : List (Nat × Value)} {Q : Exit → S → Prop} {tab : List (Option TI)} {bs : Nat → Value} {i : Nat} {o : Oper} {rest : List Oper} {te : TE}
theorem TOKr.put {H0:Hp}{vals:Nat→Value}{a:Act}(kt:TOKr De al rl ev H0 bs vals te a){j:Nat}{d:D}{o:Option Nat}{v:Value}(hj:j < a.tmps.size)(h1:o=none→∀ H,H0.le H→Rep H d v)(h2:∀ e,o=some e→v=vals e∧d=dEr De al rl bs e∧ev.contains e=true) :
  TOKr De al rl ev H0 bs vals ((j,d,o)::te) (a.put (some j) v):=by
 intro j' d' o' e;simp only [look3] at e;simp only [Act.put];cases hb:Nat.beq j j' with
 |
  true=>
  rw [hb] at e;simp at e;obtain ⟨rfl,rfl⟩:=e;have:=Nat.eq_of_beq_eq_true hb;subst this;exact ⟨v,by simp [hj],h1,h2⟩
 |
  false=>
  rw [hb] at e;simp at e;have hne:j ≠ j':=Nat.ne_of_beq_eq_false hb;obtain ⟨u,b,c⟩:=kt j' d' o' e;exact ⟨u,by rw [Array.getElem?_setIfInBounds_ne hne];exact b,c⟩
end
section
variable {P : Program} {C : Ctx} {N : Nat} {l : List Oper} {m : Nat} {De : Nat → D} {al : AL} {rl : RL} {pre : List (List Nat)} {ev : List Nat} {h : List (Nat × Blk)} {k : List (Nat × Value)} {Q : Exit → S → Prop} {tab : List (Option TI)} {bs : Nat → Value} {i : Nat} {o : Oper} {rest : List Oper} {te : TE}
end
end
section
open Go
def Khr (s:ByteArray)(c:Int):Int:=Lib.indexByte s.data.toList c.toNat.toUInt8
theorem indexB_ok (s c):CallsD Tryz.prog 109 [.v (.string s),.v (.int .u8 c)] [] [] (fun d h k=>d=.v (.int .i64 (Khr s c))∧h=[]∧k=[]):=
 of_calls (us:=#[.string s,.int .u8 c]) ⟨_,Tryz.func109,rfl,rfl⟩ rfl (fun _=>rep_v rfl) fun w=>(Tryz.strings_IndexByte s c w).mono fun _ w' ⟨h1,h2⟩=>⟨h1,by subst h2;exact ⟨⟨rfl,rfl,rfl,Nat.le_refl _,fun _ _=>rfl⟩,Nat.le_refl _⟩⟩
end
section
open Go
section
variable {P : Program} {C : Ctx} {N : Nat} {ops rest : List Oper} {o : Oper} {t : List (Nat × D)} {h : List (Nat × Blk)} {k : List (Nat × Value)} {Q : Exit → S → Prop}
theorem Kd {id:Nat}{ops:List Oper}{y:Code}{s:S}(g:opsD P C N ops ops s (thenD (fun s'=>wpD P C N y s' Q) Q)):wpD P C N (.seq (.region id ops.toArray false) y) s Q:=Km (Kz g)
theorem Kb {next:S→Prop}{s:S}(g:next s):opsD P C N ops [] s (thenD next Q):=KC (Kc g)
theorem KH {id:Nat}{a:List Oper}{y:Code}{s:S}{Q':Exit→S→Prop}(g:opsD P C N a a s (thenD (fun s'=>wpD P C N y s' Q) Q)):opsD P C N ops [] s (thenD (fun s'=>wpD P C N (.seq (.region id a.toArray false) y) s' Q) Q'):=Kb (Kd g)
theorem pu {i:Nat}{d:D}(g:opsD Tryz.prog C N ops rest ⟨(i,d)::t,h,k⟩ Q)(hw:wantD ops t o=some true:=by rfl)(hd:o.dst=some i:=by rfl)(hi:Nat.blt i N=true:=by rfl)(e:evP tab t o.op=some d:=by rfl):opsD Tryz.prog C N ops (o::rest) ⟨t,h,k⟩ Q:=Kc0 htab hw hd hi e g
theorem p_st0 {hr:List (Nat×Blk)}{b off:Nat}{T T':TypeId}{x y:Operand}{ds ds':List D}{a:TI}{d:D}(ho:o.op=.store T x y)(hw:wantD ops t o=some true)(hd:o.dst=none)(hx:opD t x=some (.ptr b off))(hT:ti tab T=some a)(hy:opD t y=some d)(hs:stor d=true)(hsz:Nat.beq (Kah d).length a.size=true)(hle:Nat.ble (off+a.size) ds.length=true)(e:lay ds off (Kah d)=ds')(g:opsD Tryz.prog C N ops rest ⟨t,(b,.cells ds' T')::hr,k⟩ Q):opsD Tryz.prog C N ops (o::rest) ⟨t,(b,.cells ds T')::hr,k⟩ Q:=Kiq 0 htab ho hw hd hx rfl hT hy hs hsz hle e rfl g
theorem WkS.bl0 {hr:List (Nat×Blk)}{b:Nat}{ds ds':List D}{T:TypeId}(hw:WkR ds ds'):WkS C ⟨t,(b,.cells ds T)::hr,k⟩ ⟨t,(b,.cells ds' T)::hr,k⟩:=WkS.blk 0 rfl hw rfl
theorem p_st1 {a0:Nat×Blk}{hr:List (Nat×Blk)}{b off:Nat}{T T':TypeId}{x y:Operand}{ds ds':List D}{a:TI}{d:D}(ho:o.op=.store T x y)(hw:wantD ops t o=some true)(hd:o.dst=none)(hx:opD t x=some (.ptr b off))(hT:ti tab T=some a)(hy:opD t y=some d)(hs:stor d=true)(hsz:Nat.beq (Kah d).length a.size=true)(hle:Nat.ble (off+a.size) ds.length=true)(e:lay ds off (Kah d)=ds')(g:opsD Tryz.prog C N ops rest ⟨t,a0::(b,.cells ds' T')::hr,k⟩ Q):opsD Tryz.prog C N ops (o::rest) ⟨t,a0::(b,.cells ds T')::hr,k⟩ Q:=Kiq 1 htab ho hw hd hx rfl hT hy hs hsz hle e rfl g
theorem WkS.bl1 {a0:Nat×Blk}{hr:List (Nat×Blk)}{b:Nat}{ds ds':List D}{T:TypeId}(hw:WkR ds ds'):WkS C ⟨t,a0::(b,.cells ds T)::hr,k⟩ ⟨t,a0::(b,.cells ds' T)::hr,k⟩:=WkS.blk 1 rfl hw rfl
theorem p_st2 {a0 c:Nat×Blk}{hr:List (Nat×Blk)}{b off:Nat}{T T':TypeId}{x y:Operand}{ds ds':List D}{a:TI}{d:D}(ho:o.op=.store T x y)(hw:wantD ops t o=some true)(hd:o.dst=none)(hx:opD t x=some (.ptr b off))(hT:ti tab T=some a)(hy:opD t y=some d)(hs:stor d=true)(hsz:Nat.beq (Kah d).length a.size=true)(hle:Nat.ble (off+a.size) ds.length=true)(e:lay ds off (Kah d)=ds')(g:opsD Tryz.prog C N ops rest ⟨t,a0::c::(b,.cells ds' T')::hr,k⟩ Q):opsD Tryz.prog C N ops (o::rest) ⟨t,a0::c::(b,.cells ds T')::hr,k⟩ Q:=Kiq 2 htab ho hw hd hx rfl hT hy hs hsz hle e rfl g
theorem WkS.bl2 {a0 a:Nat×Blk}{hr:List (Nat×Blk)}{b:Nat}{ds ds':List D}{T:TypeId}(hw:WkR ds ds'):WkS C ⟨t,a0::a::(b,.cells ds T)::hr,k⟩ ⟨t,a0::a::(b,.cells ds' T)::hr,k⟩:=WkS.blk 2 rfl hw rfl
theorem p_st3 {a0 c f:Nat×Blk}{hr:List (Nat×Blk)}{b off:Nat}{T T':TypeId}{x y:Operand}{ds ds':List D}{a:TI}{d:D}(ho:o.op=.store T x y)(hw:wantD ops t o=some true)(hd:o.dst=none)(hx:opD t x=some (.ptr b off))(hT:ti tab T=some a)(hy:opD t y=some d)(hs:stor d=true)(hsz:Nat.beq (Kah d).length a.size=true)(hle:Nat.ble (off+a.size) ds.length=true)(e:lay ds off (Kah d)=ds')(g:opsD Tryz.prog C N ops rest ⟨t,a0::c::f::(b,.cells ds' T')::hr,k⟩ Q):opsD Tryz.prog C N ops (o::rest) ⟨t,a0::c::f::(b,.cells ds T')::hr,k⟩ Q:=Kiq 3 htab ho hw hd hx rfl hT hy hs hsz hle e rfl g
theorem p_st4 {a0 c f j:Nat×Blk}{hr:List (Nat×Blk)}{b off:Nat}{T T':TypeId}{x y:Operand}{ds ds':List D}{a:TI}{d:D}(ho:o.op=.store T x y)(hw:wantD ops t o=some true)(hd:o.dst=none)(hx:opD t x=some (.ptr b off))(hT:ti tab T=some a)(hy:opD t y=some d)(hs:stor d=true)(hsz:Nat.beq (Kah d).length a.size=true)(hle:Nat.ble (off+a.size) ds.length=true)(e:lay ds off (Kah d)=ds')(g:opsD Tryz.prog C N ops rest ⟨t,a0::c::f::j::(b,.cells ds' T')::hr,k⟩ Q):opsD Tryz.prog C N ops (o::rest) ⟨t,a0::c::f::j::(b,.cells ds T')::hr,k⟩ Q:=Kiq 4 htab ho hw hd hx rfl hT hy hs hsz hle e rfl g
end
section
variable {P : Program} {C : Ctx} {N : Nat} {l : List Oper} {m : Nat} {De : Nat → D} {al : AL} {pre : List (List Nat)} {ev : List Nat} {h : List (Nat × Blk)} {k : List (Nat × Value)} {Q : Exit → S → Prop} {bs : Nat → Nat} {i : Nat} {o : Oper} {rest : List Oper} {te : TE}
theorem zqp {j:Nat}{x:Value}{p:List Nat}{t:List (Nat×D)}(g:Zw Tryz.prog C N l m De al pre ev h k Q bs (i+1) rest ((j,.v x,none)::te))(hp:pre.getD i []=p:=by rfl)(ht:vis p te=t:=by rfl)(hx:evP tab t o.op=some (.v x):=by rfl)(hw:wantD l (vis [] te) o=some true:=by rfl)(hd:o.dst=some j:=by rfl)(hi:Nat.blt j N=true:=by rfl)(hne:ev.contains i=false:=by rfl)(hone:one x=true:=by rfl)(hpe:p.all ev.contains=true:=by rfl):Zw Tryz.prog C N l m De al pre ev h k Q bs i (o::rest) te:=
 z_q hp ht (Kam htab hx) hw hd hi hne hone hpe g
theorem zep {j:Nat}{p:List Nat}{t:List (Nat×D)}{d:D}(g:Zw Tryz.prog C N l m De al pre ev h k Q bs (i+1) rest ((j,d,some i)::te))(hp:pre.getD i []=p:=by rfl)(ht:vis p te=t:=by rfl)(hx:evP tab t o.op=some d:=by rfl)(hw:wantD l (vis [] te) o=some true:=by rfl)(hd:o.dst=some j:=by rfl)(hi:Nat.blt j N=true:=by rfl)(he:ev.contains i=true:=by rfl)(hna:isAl al i=false:=by rfl)(hDe:De i=d:=by rfl):Zw Tryz.prog C N l m De al pre ev h k Q bs i (o::rest) te:=
 z_e hp ht (Kam htab hx) hw hd hi he hna hDe g
end
def pickE {α:Type}:List Nat→List α→List α
 | [],_=>[]
 |
  j::js,l=>match l[j]? with
  | some x=>x::pickE js (l.eraseIdx j)
  | none=>[]
def restE {α:Type}:List Nat→List α→List α
 | [],l=>l
 |
  j::js,l=>match l[j]? with
  | some _=>restE js (l.eraseIdx j)
  | none=>l
theorem Kjb {α:Type}:∀ (js:List Nat) (l:List α),l.Perm (pickE js l++restE js l)
 | [],l=>List.Perm.refl _
 |
  j::js,l=>by
  unfold pickE restE;cases h:l[j]? with
  | none=>exact List.Perm.refl _
  | some x=>exact (KZ h).trans ((Kjb js (l.eraseIdx j)).cons x)
section
variable {P : Program} {C : Ctx} {N : Nat} {ops rest : List Oper} {o : Oper} {t : List (Nat × D)} {h : List (Nat × Blk)} {k : List (Nat × Value)} {Q : Exit → S → Prop}
theorem rP {rs:List ResultVar}{R:D→List (Nat×Blk)→List (Nat×Value)→Prop}{x:Exit}{t':List (Nat×D)}{ds:List D}(js ks:List Nat)(n:Nat)(e:∀ i d,look t' i=some d→∃ d0,look t i=some d0∧Wk d0 d)(hr:resL tab ⟨t',pickE js h,pickE ks k⟩ rs ds)(g:R (wrapD ds) ((pickE js h).take n) (pickE ks k))(hx:x=.ret∨x=.normal:=by first|exact .inl rfl|exact .inr rfl):retX C tab rs R x ⟨t,h,k⟩:=
 retX.of (s':=⟨t',pickE js h,pickE ks k⟩) (WkS.perm e (Kjb js h) (Kjb ks k)) (Kfl hx hr (List.take_sublist n _) (List.Sublist.refl _) g)
theorem wC {t t':List (Nat×D)}{j:Nat}{d0:D}(g:∀ i d,look t' i=some d→∃ d1,look t i=some d1∧Wk d1 d)(h0:look t j=some d0:=by rfl):∀ i d,look ((j,d0)::t') i=some d→∃ d1,look t i=some d1∧Wk d1 d:=WkS.cons h0 (Wk.refl _) g
theorem wN {t:List (Nat×D)}:∀ i d,look [] i=some d→∃ d0,look t i=some d0∧Wk d0 d:=WkS.nil
theorem lN {s:S}:resL tab s [] []:=rfl
theorem lT {s:S}{i:Nat}{rs:List ResultVar}{d:D}{ds:List D}(h2:resL tab s rs ds)(h1:look s.t i=some d:=by rfl):resL tab s (.tmp i::rs) (d::ds):=KdV (KdM h1) h2
theorem lC {s:S}{a b off:Nat}{T T':TypeId}{ds:List D}{i:TI}{d:D}{rs:List ResultVar}{ds':List D}(j:Nat)(hr:resL tab s rs ds')(h1:look s.t a=some (.ptr b off):=by rfl)(h2:s.h[j]? = some (b,Blk.cells ds T'):=by rfl)(c:ti tab T=some i:=by rfl)(e:partD i ds off=some d:=by rfl):resL tab s (.cell a T::rs) (d::ds'):=KdV (KlY j h1 h2 c e) hr
theorem rC {d:D}{ds ds':List D}(g:WkR ds ds'):WkR (d::ds) (d::ds'):=WkR.cons (WkC.refl _) rfl g
theorem rO {ds ds':List D}{kk:Nat}{xs:List D}{c:Cap}(g:WkR ds ds'):WkR (.lst kk xs c::ds) (.lst kk xs .no::ds'):=WkR.cons WkC.no rfl g
theorem Pf {α:Type}{l:List α}:l.Perm l:=List.Perm.refl l
theorem Wl {ds:List D}:WkL ds ds:=WkL.refl ds
theorem pL {i b off:Nat}{T T':TypeId}{x:Operand}{ds:List D}{a:TI}{d:D}(j:Nat)(g:opsD Tryz.prog C N ops rest ⟨(i,d)::t,h,k⟩ Q)(ho:o.op=.load T x:=by rfl)(hw:wantD ops t o=some true:=by rfl)(hd:o.dst=some i:=by rfl)(hi:Nat.blt i N=true:=by rfl)(hx:opD t x=some (.ptr b off):=by rfl)(hb:h[j]? = some (b,.cells ds T'):=by rfl)(hT:ti tab T=some a:=by rfl)(e:partD a ds off=some d:=by rfl):opsD Tryz.prog C N ops (o::rest) ⟨t,h,k⟩ Q:=Kaa j htab ho hw hd hi hx hb hT e g
theorem pG {f args ts i ds ds' h1 h2 k1 k2}{R:D→List (Nat×Blk)→List (Nat×Value)→Prop}(hc:CallsD Tryz.prog f ds' h1 k1 R)(hwk:WkL ds ds')(hh:h.Perm (h1++h2))(hk:k.Perm (k1++k2))(g:∀ d h' k',R d h' k'→opsD Tryz.prog C N ops rest ⟨(i,d)::t,h'++h2,k'++k2⟩ Q)(ho:o.op=.call ⟨.value (.func f),args.toArray,ts⟩:=by rfl)(hw:wantD ops t o=some true:=by rfl)(hd:o.dst=some i:=by rfl)(hi:Nat.blt i N=true:=by rfl)(ha:Kb3 args (opD t)=some ds:=by rfl):opsD Tryz.prog C N ops (o::rest) ⟨t,h,k⟩ Q:=Ka6 hc ho hw hd hi ha hwk hh hk g
theorem pK {i:Nat}(g:opsD Tryz.prog C N ops rest ⟨(i,.v (.tuple #[]))::t,h,k⟩ Q)(hw:wantD ops t o=some false:=by rfl)(hd:o.dst=some i:=by rfl)(hi:Nat.blt i N=true:=by rfl):opsD Tryz.prog C N ops (o::rest) ⟨t,h,k⟩ Q:=p_skip hw hd hi g
theorem pS0 {hr:List (Nat×Blk)}{b off:Nat}{T T':TypeId}{x y:Operand}{ds ds':List D}{a:TI}{d:D}(g:opsD Tryz.prog C N ops rest ⟨t,(b,.cells ds' T')::hr,k⟩ Q)(ho:o.op=.store T x y:=by rfl)(hw:wantD ops t o=some true:=by rfl)(hd:o.dst=none:=by rfl)(hx:opD t x=some (.ptr b off):=by rfl)(hT:ti tab T=some a:=by rfl)(hy:opD t y=some d:=by rfl)(hs:stor d=true:=by rfl)(hsz:Nat.beq (Kah d).length a.size=true:=by rfl)(hle:Nat.ble (off+a.size) ds.length=true:=by rfl)(e:lay ds off (Kah d)=ds':=by rfl):opsD Tryz.prog C N ops (o::rest) ⟨t,(b,.cells ds T')::hr,k⟩ Q:=p_st0 ho hw hd hx hT hy hs hsz hle e g
theorem pS1 {a0:Nat×Blk}{hr:List (Nat×Blk)}{b off:Nat}{T T':TypeId}{x y:Operand}{ds ds':List D}{a:TI}{d:D}(g:opsD Tryz.prog C N ops rest ⟨t,a0::(b,.cells ds' T')::hr,k⟩ Q)(ho:o.op=.store T x y:=by rfl)(hw:wantD ops t o=some true:=by rfl)(hd:o.dst=none:=by rfl)(hx:opD t x=some (.ptr b off):=by rfl)(hT:ti tab T=some a:=by rfl)(hy:opD t y=some d:=by rfl)(hs:stor d=true:=by rfl)(hsz:Nat.beq (Kah d).length a.size=true:=by rfl)(hle:Nat.ble (off+a.size) ds.length=true:=by rfl)(e:lay ds off (Kah d)=ds':=by rfl):opsD Tryz.prog C N ops (o::rest) ⟨t,a0::(b,.cells ds T')::hr,k⟩ Q:=p_st1 ho hw hd hx hT hy hs hsz hle e g
theorem pS2 {a0 c:Nat×Blk}{hr:List (Nat×Blk)}{b off:Nat}{T T':TypeId}{x y:Operand}{ds ds':List D}{a:TI}{d:D}(g:opsD Tryz.prog C N ops rest ⟨t,a0::c::(b,.cells ds' T')::hr,k⟩ Q)(ho:o.op=.store T x y:=by rfl)(hw:wantD ops t o=some true:=by rfl)(hd:o.dst=none:=by rfl)(hx:opD t x=some (.ptr b off):=by rfl)(hT:ti tab T=some a:=by rfl)(hy:opD t y=some d:=by rfl)(hs:stor d=true:=by rfl)(hsz:Nat.beq (Kah d).length a.size=true:=by rfl)(hle:Nat.ble (off+a.size) ds.length=true:=by rfl)(e:lay ds off (Kah d)=ds':=by rfl):opsD Tryz.prog C N ops (o::rest) ⟨t,a0::c::(b,.cells ds T')::hr,k⟩ Q:=p_st2 ho hw hd hx hT hy hs hsz hle e g
theorem pS3 {a0 c f:Nat×Blk}{hr:List (Nat×Blk)}{b off:Nat}{T T':TypeId}{x y:Operand}{ds ds':List D}{a:TI}{d:D}(g:opsD Tryz.prog C N ops rest ⟨t,a0::c::f::(b,.cells ds' T')::hr,k⟩ Q)(ho:o.op=.store T x y:=by rfl)(hw:wantD ops t o=some true:=by rfl)(hd:o.dst=none:=by rfl)(hx:opD t x=some (.ptr b off):=by rfl)(hT:ti tab T=some a:=by rfl)(hy:opD t y=some d:=by rfl)(hs:stor d=true:=by rfl)(hsz:Nat.beq (Kah d).length a.size=true:=by rfl)(hle:Nat.ble (off+a.size) ds.length=true:=by rfl)(e:lay ds off (Kah d)=ds':=by rfl):opsD Tryz.prog C N ops (o::rest) ⟨t,a0::c::f::(b,.cells ds T')::hr,k⟩ Q:=p_st3 ho hw hd hx hT hy hs hsz hle e g
theorem pS4 {a0 c f j:Nat×Blk}{hr:List (Nat×Blk)}{b off:Nat}{T T':TypeId}{x y:Operand}{ds ds':List D}{a:TI}{d:D}(g:opsD Tryz.prog C N ops rest ⟨t,a0::c::f::j::(b,.cells ds' T')::hr,k⟩ Q)(ho:o.op=.store T x y:=by rfl)(hw:wantD ops t o=some true:=by rfl)(hd:o.dst=none:=by rfl)(hx:opD t x=some (.ptr b off):=by rfl)(hT:ti tab T=some a:=by rfl)(hy:opD t y=some d:=by rfl)(hs:stor d=true:=by rfl)(hsz:Nat.beq (Kah d).length a.size=true:=by rfl)(hle:Nat.ble (off+a.size) ds.length=true:=by rfl)(e:lay ds off (Kah d)=ds':=by rfl):opsD Tryz.prog C N ops (o::rest) ⟨t,a0::c::f::j::(b,.cells ds T')::hr,k⟩ Q:=p_st4 ho hw hd hx hT hy hs hsz hle e g
end
section
variable {P : Program} {C : Ctx} {N : Nat} {l : List Oper} {m : Nat} {De : Nat → D} {al : AL} {pre : List (List Nat)} {ev : List Nat} {h : List (Nat × Blk)} {k : List (Nat × Value)} {Q : Exit → S → Prop} {bs : Nat → Nat} {i : Nat} {o : Oper} {rest : List Oper} {te : TE}
theorem zK {j:Nat}(g:Zw Tryz.prog C N l m De al pre ev h k Q bs (i+1) rest ((j,.v (.tuple #[]),none)::te))(hw:wantD l (vis [] te) o=some false:=by rfl)(hd:o.dst=some j:=by rfl)(hi:Nat.blt j N=true:=by rfl)(hne:ev.contains i=false:=by rfl):Zw Tryz.prog C N l m De al pre ev h k Q bs i (o::rest) te:=z_skip hw hd hi hne g
end
theorem wpDcY {P:Program}{C:Ctx}{N:Nat}{s:S}{Q:Exit→S→Prop}{α:Type}{φ:α→Prop}{m1 m2:Option α}{c:Operand}{x y:Code}{b:Bool}(a:Yes (bif b then m1 else m2) φ)(hc:opD s.t c=some (.v (.bool b)))(ht:Yes m1 φ→wpD P C N x s Q)(hf:Yes m2 φ→wpD P C N y s Q):wpD P C N (.cond c x y) s Q:=
 KfE hc (fun h=>ht (yes_t h a)) (fun h=>hf (yes_f h a))
theorem cY {P:Program}{C:Ctx}{N:Nat}{s:S}{Q:Exit→S→Prop}{α:Type}{φ:α→Prop}{m1 m2:Option α}{c:Operand}{x y:Code}{b:Bool}(a:Yes (bif b then m1 else m2) φ)(ht:Yes m1 φ→wpD P C N x s Q)(hf:Yes m2 φ→wpD P C N y s Q)(hc:opD s.t c=some (.v (.bool b)):=by rfl):wpD P C N (.cond c x y) s Q:=wpDcY a hc ht hf
theorem wO {C:Ctx}{s:S}{S1:Unit→S}(h:WkS C s (S1 ())):WkX C s S1:=WkX.of () h
theorem wP {C:Ctx}{t t':List (Nat×D)}{h h' hj:List (Nat×Blk)}{k k' kj:List (Nat×Value)}(e:∀ i d,look t' i=some d→∃ d0,look t i=some d0∧Wk d0 d)(hh:h.Perm (h'++hj):=by exact Pf)(hk:k.Perm (k'++kj):=by exact Pf):WkS C ⟨t,h,k⟩ ⟨t',h',k'⟩:=WkS.perm e hh hk
end
section
open Go Go.RowKit
set_option maxHeartbeats 4000000
set_option maxRecDepth 100000
theorem bu_size:∃ j,Tryz.prog.info? 58=some j∧j.size=2:=by
 have h:(Tryz.prog.info? 58).map (·.size)=some 2:=by kernel_rfl
 exact Option.map_eq_some_iff.1 h
theorem Klx (b:Nat)(w:World)(h0:w.cell? ⟨b,0,none⟩=some (.pointer (some ⟨b,0,none⟩))) :
  Calls Tryz.prog 56 #[.pointer (some ⟨b,0,none⟩)] w fun e w'=>e=.returned (.tuple #[])∧w'=w:=by
 obtain ⟨j,hj,_⟩:=bu_size;go_enter Tryz.func56,Tryz.ntmps56;go_wp2;rw [Lib.run_neq_ptr_same w _ (by kernel_rfl) hj];go_wp2;go_end0;exact ⟨rfl,rfl⟩
theorem copy_fresh (b:Nat)(w:World)(h0:w.cell? ⟨b,0,none⟩=some (.pointer none))(hsh:w.shape? b=some (60,3))(hfz:w.frozen? ⟨b,0,none⟩=false) :
  Calls Tryz.prog 56 #[.pointer (some ⟨b,0,none⟩)] w fun e w'=>e=.returned (.tuple #[])∧w'=w.setCell ⟨b,0,none⟩ (.pointer (some ⟨b,0,none⟩)):=by
 obtain ⟨j,hj,hjs⟩:=bu_size;go_enter Tryz.func56,Tryz.ntmps56;go_wp2;rw [Lib.run_to_unsafe w ⟨b,0,none⟩ (by kernel_rfl) (by kernel_rfl) hj (by rw [hjs];decide) hsh (Nat.zero_lt_succ 2)];simp only [Result.andThen];rw [Oper.upon_value];go_wp2;rw [run_callFunc_extern Tryz.func83 (by kernel_rfl) (by kernel_rfl) (by kernel_rfl) (e:=Extern.AbiNoEscape.same) (by kernel_rfl)];rw [Lib.run_noEscape];simp only [Result.andThen];rw [Oper.upon_value];go_wp2;rw [Lib.run_from_unsafe w ⟨b,0,none⟩ (by kernel_rfl) (by kernel_rfl) hj hsh (by kernel_rfl)];simp only [Result.andThen];rw [Oper.upon_value];go_wp2;go_end0;exact ⟨rfl,rfl⟩
end
section
open Go
theorem buf_later {H H':Hp}{w w':World}{xs:List D}{z:Z3}(hq:BlkOK H w (0,.row 1 xs (SL z)))(hl:H.le H')(hw:∀ b∈Kau (SL z),w'.heap[b]? = w.heap[b]?)(hn:∀ b∈Kau (SL z),(∀ o,H ⟨b,o,none⟩=none)→∀ o,H' ⟨b,o,none⟩=none):BlkOK H' w' (0,.row 1 xs (SL z)):=by
 rcases hq with h|⟨b,m,us,rest,T,e,h0,a,h1,h2,c,d⟩
 ·exact .inl h
 have hb:b∈Kau (SL z):=by rw [e];simp [Kau,a]
 exact .inr ⟨b,m,us,rest,T,e,h0,a,by rw [hw b hb];exact h1,h2.mono hl,c,hn b hb d⟩
def bufO (T:TypeId)(l:List UInt8)(z:Z3):Opq where
 cl:=Kau (SL z)
 Q:=fun H w=>BlkOK H w (0,.row 1 (l.map byteD) (SL z))∧rowTy w (SL z) T
 lt:=fun H w q b hb=>KjF (h:=[(0,.row 1 (l.map byteD) (SL z))]) (k:=[]) (by simpa using q.1) (by simp) b (by simpa [KP,K0] using hb)
 later:=fun H H' w w' q hl hw hn=>⟨buf_later q.1 hl hw hn,fun a n m e=>by
  obtain ⟨c,hc⟩:=q.2 a n m e;have hb:a.block∈Kau (SL z):=by rw [e];simp [Kau,c]
  rw [hw _ hb];exact ⟨c,hc⟩⟩
theorem Core.swap {C:Ctx}{H:Hp}{h h':List (Nat×Blk)}{k:List (Nat×Value)}{w:World}(c:Core C H h k w)(hc:KP h' k=KP h k)(hb:∀ p∈h',BlkOK H w p):Core C H h' k w:=
 ⟨c.ag,c.le,c.new,c.same,c.size,hb,c.toks,by rw [hc];exact c.nd,by rw [hc];exact c.own,c.env⟩
theorem WkC.slf0 {b:Nat}:WkC (.v (.pointer none)) (.slf b):=fun H us h=>by
 simp only [RepC] at h ⊢;exact .inl h
theorem app_zs {k:Nat}{α:Type}{xs ys zs:List α}(h:app k xs ys=some zs):xs++ys=zs:=(KeL h).1.symm
def u8ok (x:Int):Bool:=decide (0≤x) && decide (x < 256)
theorem u8_eq {x:Int}(h:u8ok x=true):D.v (.int .u8 x)=byteD x.toNat.toUInt8:=by
 simp only [u8ok,Bool.and_eq_true,decide_eq_true_eq] at h;have:((x.toNat.toUInt8).toNat:Int)=x:=by
  rw [show (x.toNat.toUInt8).toNat=x.toNat % 256 from UInt8.toNat_ofNat'];omega
 unfold byteD;rw [this]
section
variable {P : Program} {C : Ctx} {N : Nat} {ops rest : List Oper} {o : Oper} {t : List (Nat × D)} {h : List (Nat × Blk)} {k : List (Nat × Value)} {Q : Exit → S → Prop} {tab : List (Option TI)}
theorem buf_app {i r bb:Nat}{T T' e:TypeId}{x y:Operand}{l:List UInt8}{ys:List D}{zs:List UInt8}{z:Z3}{f c ie:TI}(j:Nat)(hT:TabOK P tab)(ho:o.op=.call ⟨.builtin .append,[x,y].toArray,#[T,T']⟩)(hw:wantD ops t o=some true)(hd:o.dst=some i)(hi:Nat.blt i N=true)
  (hx:opD t x=some (.v (SL z))) (hj:h[j]? = some (r,.opq (bufO e l z)))
  (m:∀ H a w,Core C H h k w→TOK H t a→(Builtin.lenOf (a.eval y)).run P w=.ok ys.length w∧∀ w',(∀ b,b < w.heap.size→w'.heap[b]? = w.heap[b]?)→∃ us:List Value,us.length=ys.length*1∧FlatR H 1 ys us∧(Builtin.firstCells 1 ys.length (a.eval y)).run P w'=.ok us.toArray w')
  (n:ti tab T=some f) (q:f.d=.slice e) (u:ti tab T'=some c) (A:c.d=.slice e∨c.d=.str) (hie:ti tab e=some ie) (hks:ie.size=1) (hbb:ie.bytes=bb) (hz:ie.zero.length=1) (B:Nat.ble 1 bb=true) (hbound:(l.length+ys.length)*bb≤140737488355328) (em:l.map byteD++ys=zs.map byteD)
  (g:∀ z':Z3,opsD P C N ops rest ⟨(i,.v (SL z'))::t,h.set j (0,.opq (bufO e zs z')),k⟩ Q):opsD P C N ops (o::rest) ⟨t,h,k⟩ Q:=
 Kb4 (s:=⟨t,h,k⟩) hw hd hi fun H a w core kt=>by
  obtain ⟨E,F⟩:=m H a w core kt;have c1:Core C H ([(r,.opq (bufO e l z))]++h.eraseIdx j) ([]++k) w:=core.perm (KZ hj) (List.Perm.refl _);have hbl:(bufO e l z).Q H w:=core.blks _ (List.mem_of_getElem? hj);obtain ⟨z',w',h1,hty,h2⟩:=Klw (P:=P) (ty:=o.type) (v1:=SL z) (v2:=a.eval y) (r:=0) hT core.ag hbl.1 (fun b hb=>c1.lt b (by
   have:=(KbM [(r,Blk.opq (bufO e l z))] (h.eraseIdx j) [] k).mem_iff (a:=b);exact this.2 (List.mem_append_left _ (by simpa [KP,K0,bufO] using hb)))) E F n q u A hie hks hbb hz (Nat.le_of_ble_eq_true B) (by rw [List.length_map];exact hbound)
  have hM:KP [(r,Blk.opq (bufO e l z))] []=KP [(0,Blk.row 1 (l.map byteD) (SL z))] []:=rfl;rw [← hM,em] at h2;have G:Core ⟨H,w,KP [(r,Blk.opq (bufO e l z))] []⟩ H [(0,.opq (bufO e zs z'))] [] w':=h2.swap rfl fun p hp=>by
   simp only [List.mem_singleton] at hp;subst hp;exact ⟨h2.blks _ (by simp),hty hbl.2⟩
  have c2:=Core.call c1 G;refine ⟨SL z',w',H,.v (SL z'),h.set j (0,.opq (bufO e zs z')),k,Kb9 (s:=Builtin.append_) ho (fun _ _=>rfl) ?_,Hp.le_refl H,c2.perm (KfF hj) (List.Perm.refl _),rep_v rfl,g z'⟩;have I:=KW (Kae kt hx);simpa [I] using h1
theorem p_appB {i r bb:Nat}{T T' e:TypeId}{x y:Operand}{l zs:List UInt8}{ys:List D}{c':Cap}{z:Z3}{b c ie:TI}(j:Nat)(hT:TabOK P tab)(ho:o.op=.call ⟨.builtin .append,[x,y].toArray,#[T,T']⟩)(hw:wantD ops t o=some true)(hd:o.dst=some i)(hi:Nat.blt i N=true)
  (hx:opD t x=some (.v (SL z))) (hj:h[j]? = some (r,.opq (bufO e l z))) (hy:opD t y=some (.lst 1 ys c'))
  (m:ti tab T=some b) (n:b.d=.slice e) (p:ti tab T'=some c) (q:c.d=.slice e) (hie:ti tab e=some ie) (hks:ie.size=1) (hbb:ie.bytes=bb) (hz:ie.zero.length=1) (s:Nat.ble 1 bb=true) (hbound:(l.length+ys.length)*bb≤140737488355328) (em:l.map byteD++ys=zs.map byteD)
  (g:∀ z':Z3,opsD P C N ops rest ⟨(i,.v (SL z'))::t,h.set j (0,.opq (bufO e zs z')),k⟩ Q):opsD P C N ops (o::rest) ⟨t,h,k⟩ Q:=
 buf_app j hT ho hw hd hi hx hj (fun H a w core kt=>by
  have hry:=Kae kt hy;obtain ⟨u,m2,ey⟩:=KdK hry;refine ⟨by rw [ey];rfl,fun A f=>Kha ⟨fun a' v e'=>?_,core.ag.gg.step (Hp.le_refl H) (f _ core.ag.gg.lt)⟩ hry⟩;have:=core.ag a' v e';have hlt:=core.ag.lt e';unfold World.cell? at this ⊢;rw [f _ hlt];exact this) m n p (.inl q) hie hks hbb hz s hbound em g
theorem flat_str {H:Hp}:∀ l:List UInt8,FlatR H 1 (l.map byteD) (l.map fun b=>Value.int .u8 b.toNat)
 | []=>rfl
 | b::l=>⟨[.int .u8 b.toNat],l.map fun b=>Value.int .u8 b.toNat,rfl,rfl,⟨by simp [byteD,RepC],by simp [one]⟩,flat_str l⟩
theorem p_appS {i r bb:Nat}{T T' e:TypeId}{x y:Operand}{l zs:List UInt8}{s:ByteArray}{z:Z3}{b c ie:TI}(j:Nat)(hT:TabOK P tab)(ho:o.op=.call ⟨.builtin .append,[x,y].toArray,#[T,T']⟩)(hw:wantD ops t o=some true)(hd:o.dst=some i)(hi:Nat.blt i N=true)
  (hx:opD t x=some (.v (SL z))) (hj:h[j]? = some (r,.opq (bufO e l z))) (hy:opD t y=some (.v (.string s)))
  (f:ti tab T=some b) (m:b.d=.slice e) (n:ti tab T'=some c) (p:c.d=.str) (hie:ti tab e=some ie) (hks:ie.size=1) (hbb:ie.bytes=bb) (hz:ie.zero.length=1) (q:Nat.ble 1 bb=true) (hbound:(l.length+s.data.toList.length)*bb≤140737488355328) (em:l++s.data.toList=zs)
  (g:∀ z':Z3,opsD P C N ops rest ⟨(i,.v (SL z'))::t,h.set j (0,.opq (bufO e zs z')),k⟩ Q):opsD P C N ops (o::rest) ⟨t,h,k⟩ Q:=
 buf_app (ys:=s.data.toList.map byteD) j hT ho hw hd hi hx hj (fun H a w core kt=>by
  have u:=KW (Kae kt hy);have hs:(s.data.toList.map byteD).length=s.size:=by rw [List.length_map,Array.length_toList];rfl
  rw [u,hs];refine ⟨rfl,fun w' _=>⟨Lib.strCells s,by rw [Lib.strCells_length];omega,flat_str _,Lib.run_firstCells_string w' 1 s⟩⟩) f m n (.inr p) hie hks hbb hz q (by rw [List.length_map];exact hbound) (by rw [← em,List.map_append]) g
theorem p_allocV {i:Nat}{T:TypeId}{d:TI}{zs:List D}(ht:TabOK P tab)(ho:o.op=.alloc T)(hw:wantD ops t o=some true)(hd:o.dst=some i)(hi:Nat.blt i N=true)(hT:ti tab T=some d)(hz:d.zero.all one=true)(e:d.zero.map D.v=zs)
  (g:∀ b,opsD P C N ops rest ⟨(i,.ptr b 0)::t,h++[(b,.cells zs T)],k⟩ Q):opsD P C N ops (o::rest) ⟨t,h,k⟩ Q:=by
 refine Kb4 (s:=⟨t,h,k⟩) hw hd hi fun H a w c kt=>?_
 obtain ⟨z,h1,h2⟩:=Kcr (w:=w) (ti_ok ht hT);have hr:Reps H zs z.cells.toList:=by
  rw [h2,← e];rw [List.all_eq_true] at hz;revert hz;generalize d.zero=l;intro hz;induction l with
  | nil=>simp [Reps]
  |
   cons u l ih=>
   simp only [List.map_cons,Reps];exact ⟨u,l,rfl,⟨by simp [RepC],hz u (by simp),rfl⟩,ih (fun x hx=>hz x (by simp [hx]))⟩
 refine ⟨.pointer (some ⟨w.heap.size,0,none⟩),_,H,.ptr w.heap.size 0,_,k,?_,Hp.le_refl H,c.alloc T hr,Kbi (by simp [RepC]) rfl rfl,g w.heap.size⟩;unfold execOp;rw [ho];refine Kbb ?_;unfold Instr.alloc;rw [Kw h1];simp only [];rw [Kw Kga];simp;first|done|rfl
theorem p_buildV {i:Nat}{T:TypeId}{ps:Array (Nat×Operand)}{a:TI}{fs:List (Nat×Nat)}{r:List D}(hT:TabOK P tab)(ho:o.op=.build T ps)(hw:wantD ops t o=some true)(hd:o.dst=some i)(hi:Nat.blt i N=true)
 (hti:ti tab T=some a) (hfs:a.d=.struct fs) (hall:fs.all (fun f=>(ti tab f.1).isSome)=true) (hz:a.zero.all one=true) (e:Kdx tab fs t ps.toList (a.zero.map D.v)=some r)
 (g:opsD P C N ops rest ⟨(i,.agg r)::t,h,k⟩ Q):opsD P C N ops (o::rest) ⟨t,h,k⟩ Q:=Kdi (s:=⟨t,h,k⟩) hw hd hi (x_buildF (fun _ _=>⟨by simp [RepC],rfl⟩) hT ho hti hfs hall hz e) g
theorem o_bufN {b' off:Nat}{ds:List D}{T':TypeId}(e:TypeId)(j:Nat)(hb:h[j]? = some (b',.cells ds T'))(hd:ds[off]? = some (.v (.slice none 0 0)))(g:opsD P C N ops rest ⟨t,(0,.opq (bufO e [] (none,0,0)))::h,k⟩ Q):opsD P C N ops rest ⟨t,h,k⟩ Q:=fun a w ⟨H,c,kt,hn,hd'⟩=>by
 refine g a w ⟨H,c.swap rfl ?_,kt,hn,hd'⟩;intro p hp;rcases List.mem_cons.1 hp with rfl|hp
 ·exact ⟨.inl ⟨none,rfl,rfl⟩,fun a n m q=>by cases q⟩
 exact c.blks _ hp
end
end
section
open Go Go.RowKit
set_option maxHeartbeats 4000000
set_option maxRecDepth 100000
structure K8 where
 gx:List UInt8
structure Kn where
 gB:K8
 gy:Int
abbrev pgH (a:Kn)(b:Nat)(z:Z3):List (Nat×Blk):=[(b,Blk.cells [.slf b,.v (SL z),.v (.int .i64 a.gy)] 60),(0,Blk.opq (bufO 5 a.gB.gx z))]
theorem core_at {H:Hp}{w:World}{h:List (Nat×Blk)}{k:List (Nat×Value)}(hA:Ag H w)(hb:∀ p∈h,BlkOK H w p)(ht:∀ p∈k,TokOK H w p)(hnd:(KP h k).Nodup):Core ⟨H,w,KP h k⟩ H h k w:=
 ⟨hA,Hp.le_refl H,fun _ _ x=>.inl x,fun _ _ _=>rfl,Nat.le_refl _,hb,ht,hnd,fun b hb=>.inl hb,Env.refl w⟩
theorem reps3 {H:Hp}{d0 d1 d2:D}{us:List Value}(h:Reps H [d0,d1,d2] us):∃ a b c,us=[a,b,c]∧(RepC H d0 [a]∧one a=true∧d0.flat=true)∧(RepC H d1 [b]∧one b=true∧d1.flat=true)∧(RepC H d2 [c]∧one c=true∧d2.flat=true):=by
 simp only [Reps] at h;obtain ⟨a,_,rfl,h0,b,_,rfl,h1,c,_,rfl,h2,rfl⟩:=h;exact ⟨a,b,c,rfl,h0,h1,h2⟩
theorem copy_ok (b a z):CallsD Tryz.prog 56 [.ptr a 0] (pgH b a z) [] (fun d h k=>d=.tup []∧h=pgH b a z∧k=[]):=by
 refine ⟨⟨_,Tryz.func56,rfl,rfl⟩,fun H w vs hv hA hb ht hnd=>?_⟩;simp only [RepsV] at hv;obtain ⟨u,us,rfl,hu,rfl⟩:=hv;have:=Kcv hu;subst this;have c:=core_at hA hb ht hnd;obtain ⟨us,h1,h2,o⟩:=hb _ (List.mem_cons_self ..);obtain ⟨p,f,g,rfl,l,m,n⟩:=reps3 h2;have htup:Rep H (.tup []) (.tuple #[]):=⟨⟨[],rfl,rfl⟩,rfl⟩;have q:=l.1;simp only [RepC,List.cons.injEq,and_true] at q;rcases q with rfl|rfl
 ·refine (copy_fresh a w (by simp [World.cell?,h1]) (by simp [World.shape?,h1]) (by simp [World.frozen?,h1])).mono fun e w' ⟨he,hw⟩=>?_
  subst hw;refine ⟨_,H,.tup [],_,[],he,htup,?_,rfl,rfl,rfl⟩;have:=c.write (w':=w.setCell ⟨a,0,none⟩ (.pointer (some ⟨a,0,none⟩))) (j:=0) (us':=[.pointer (some ⟨a,0,none⟩),f,g]) (ds':=[.slf a,.v (SL z),.v (.int .i64 b.gy)]) rfl ⟨rfl,rfl,rfl,Nat.le_refl _⟩ Kkp (fun i hi=>by rw [heap_set,if_neg (fun q=>hi q.symm)]) (by rw [heap_set,if_pos rfl,h1];rfl)
   ⟨_,_,rfl,⟨by simp [RepC],rfl,rfl⟩,_,_,rfl,m,_,_,rfl,n,rfl⟩
  exact this
 refine (Klx a w (by simp [World.cell?,h1])).mono fun e w' ⟨he,hw⟩=>?_
 subst hw;exact ⟨_,H,.tup [],_,[],he,htup,c,rfl,rfl,rfl⟩
theorem KlZ (b g cap:Nat)(a c:Value)(cs:Array Value)(l:List UInt8)(w:World)(h0:l ≠ [])(hbk:w.heap[b]? = some (.cells #[a,.slice (some ⟨g,0,none⟩) l.length cap,c] 60 (0,0)))(hbg:w.heap[g]? = some (.cells cs 5 (0,0)))(hcap:l.length≤cap)(hlen:l.length≤cs.size)(hmax:l.length≤9223372036854775807)(hcell:∀ (j:Nat) x,l[j]? = some x→w.cell? ⟨g,j,none⟩=some (.int .u8 x.toNat)) :
  Calls Tryz.prog 22 #[.pointer (some ⟨b,0,none⟩)] w fun e w'=>e=.returned (.string ⟨l.toArray⟩)∧w'=w.drew.freeze ⟨g,0,none⟩ l.length:=by
 have d:l.length ≠ 0:=by simpa using h0
 have c1:w.drew.cell? ⟨b,1,none⟩=some (.slice (some ⟨g,0,none⟩) l.length cap):=by
  have:w.drew.heap[b]? = some (.cells #[a,.slice (some ⟨g,0,none⟩) l.length cap,c] 60 (0,0)):=hbk;rw [Lib.cell_of_heap this];rfl
 have hSD:(Builtin.unsafeSliceData_ #[28] 105 #[.slice (some ⟨g,0,none⟩) l.length cap]).run Tryz.prog w.drew=.ok (.pointer (some ⟨g,0,none⟩)) w.drew:=
  Lib.run_unsafeSliceData_row _ _ _ _ _ _ (by omega)
 have hUS:(Builtin.unsafeString_ #[105,3] 9 #[.pointer (some ⟨g,0,none⟩),.int .i64 l.length]).run Tryz.prog w.drew=.ok (.string ⟨l.toArray⟩) (w.drew.freeze ⟨g,0,none⟩ l.length):=
  Lib.run_unsafeString_row w.drew 105 3 9 5 (by kernel_rfl) (by kernel_rfl) g cs.size (by have hg':w.drew.heap[g]? = some (.cells cs 5 (0,0)):=hbg;simp [World.shape?,hg']) l h0 (by omega) (by omega) (fun j x hx=>by have:=hcell j x hx;simp only [Addr.add_lit,Nat.zero_add];exact this)
 go_enter Tryz.func22,Tryz.ntmps22
 go_wp2
 go_region
 all_goals (go_wp2;go_ret;exact ⟨rfl,rfl⟩)
def strB (m:Kn):ByteArray×Kn:=(⟨m.gB.gx.toArray⟩,m)
def strOK (m:Kn):Bool:=!m.gB.gx.isEmpty && decide (m.gB.gx.length≤9223372036854775807)
theorem Kjc {H:Hp}:∀ {l:List UInt8} {us:List Value},FlatR H 1 (l.map byteD) us→us=l.map fun b=>Value.int .u8 b.toNat
 | [],us,h=>h
 |
  b::l,us,h=>by
  obtain ⟨a,c,rfl,hl,⟨hr,_⟩,h2⟩:=h;simp only [byteD,RepC] at hr;subst hr;rw [Kjc h2];rfl
theorem strB_ok (c i z)(h0:strOK c=true):CallsD Tryz.prog 22 [.ptr i 0] (pgH c i z) [] (fun d h k=>d=.v (.string (strB c).1)∧h=[(i,Blk.cells [.slf i,.any,.v (.int .i64 (strB c).2.gy)] 60)]∧k=[]):=by
 refine ⟨⟨_,Tryz.func22,rfl,rfl⟩,fun H w vs hv hA hb ht hnd=>?_⟩;simp only [strOK,Bool.and_eq_true,Bool.not_eq_true',List.isEmpty_eq_false_iff,decide_eq_true_eq] at h0;simp only [RepsV] at hv;obtain ⟨u,us,rfl,hu,rfl⟩:=hv;have:=Kcv hu;subst this;obtain ⟨us,h1,h2,s⟩:=hb _ (List.mem_cons_self ..);obtain ⟨l,E,o,rfl,t,y,A⟩:=reps3 h2;have q:=y.1;simp only [RepC,List.cons.injEq,and_true] at q;subst q;have hq:(bufO 5 c.gB.gx z).Q H w:=hb _ (List.mem_cons_of_mem _ (List.mem_cons_self ..));obtain ⟨hrow,hty⟩:=hq;rcases hrow with ⟨a,_,e⟩|⟨g,m,us,rest,T,e,r,B,k1,k2,F,G⟩
 ·exact absurd (by simpa using e) h0.1
 obtain ⟨_,cs,hcs⟩:=hty _ _ _ e;rw [k1] at hcs;simp only [Option.some.injEq,Obj.cells.injEq,and_true] at hcs;obtain ⟨hcs,rfl⟩:=hcs;rw [List.length_map] at e r;have hus:=Kjc k2;rw [e] at h1;have hM:KP (pgH c i z) []=[i,g]:=by
  have:Kau (SL z)=[g]:=by rw [e];simp [Kau,B]
  simp [KP,K0,bufO,this]
 rw [hM] at hnd;have hne:i ≠ g:=by simpa using hnd
 refine (KlZ i g m l o _ c.gB.gx w h0.1 h1 k1 r (by rw [← List.length_map (f:=fun b:UInt8=>Value.int .u8 b.toNat),← hus];simp) h0.2 (fun j x hx=>?_)).mono fun e' w' ⟨he,hw⟩=>?_
 ·have:us[j]? = some (.int .u8 x.toNat):=by rw [hus];simp [hx]
  simp only [World.cell?,k1,Option.isSome_none,Bool.false_eq_true,if_false,List.getElem?_toArray];rw [List.getElem?_append_left (List.getElem?_eq_some_iff.1 this).1];exact this
 subst hw;obtain ⟨f1,C⟩:=Kja w.drew ⟨g,0,none⟩ c.gB.gx.length;have hdr:∀ k,k ≠ g→(w.drew.freeze ⟨g,0,none⟩ c.gB.gx.length).heap[k]? = w.heap[k]?:=fun k hk=>by
  rcases Kfr (w:=w.drew) (a:=⟨g,0,none⟩) (n:=c.gB.gx.length) (k:=k) with h|⟨h,_⟩
  ·rw [h];rfl
  exact absurd h.symm (by simpa using hk)
 rw [hM];refine ⟨_,H,_,_,[],he,rep_v rfl,⟨⟨fun a v D=>by rw [Kh9];exact hA a v D,KjK (hA.gg.step (Hp.le_refl H) rfl)⟩,Hp.le_refl H,fun _ _ x=>.inl x,fun k _ hk=>hdr k (fun q=>hk (by simp [q])),by rw [C];exact Nat.le_refl _,?_,by simp,by simp [KP,K0],by simp [KP,K0],Env.trans (b:=w.drew) ⟨rfl,rfl,rfl,Nat.le_refl _⟩ f1⟩,rfl,rfl,rfl⟩;intro p hp;simp only [List.mem_singleton] at hp;subst hp;exact ⟨[l,.slice (some ⟨g,0,none⟩) c.gB.gx.length m,o],by rw [hdr _ hne];exact h1,⟨_,_,rfl,t,_,_,rfl,⟨by simp [RepC],rfl,rfl⟩,_,_,rfl,A,rfl⟩,s⟩
end
section
open Go Go.RowKit
set_option maxHeartbeats 4000000
set_option maxRecDepth 100000
theorem Kl0 (b:Nat)(w:World)(h0:w.cell? ⟨b,0,none⟩=some (.pointer none))(hsh:w.shape? b=some (58,2))(hfz:w.frozen? ⟨b,0,none⟩=false) :
  Calls Tryz.prog 56 #[.pointer (some ⟨b,0,none⟩)] w fun e w'=>e=.returned (.tuple #[])∧w'=w.setCell ⟨b,0,none⟩ (.pointer (some ⟨b,0,none⟩)):=by
 obtain ⟨j,hj,hjs⟩:=bu_size;go_enter Tryz.func56,Tryz.ntmps56;go_wp2;rw [Lib.run_to_unsafe w ⟨b,0,none⟩ (by kernel_rfl) (by kernel_rfl) hj (by rw [hjs];decide) hsh (Nat.zero_lt_succ 1)];simp only [Result.andThen];rw [Oper.upon_value];go_wp2;rw [run_callFunc_extern Tryz.func83 (by kernel_rfl) (by kernel_rfl) (by kernel_rfl) (e:=Extern.AbiNoEscape.same) (by kernel_rfl)];rw [Lib.run_noEscape];simp only [Result.andThen];rw [Oper.upon_value];go_wp2;rw [Lib.run_from_unsafe w ⟨b,0,none⟩ (by kernel_rfl) (by kernel_rfl) hj hsh (by kernel_rfl)];simp only [Result.andThen];rw [Oper.upon_value];go_wp2;go_end0;exact ⟨rfl,rfl⟩
theorem reps2 {H:Hp}{d0 d1:D}{us:List Value}(h:Reps H [d0,d1] us):∃ a b,us=[a,b]∧(RepC H d0 [a]∧one a=true∧d0.flat=true)∧(RepC H d1 [b]∧one b=true∧d1.flat=true):=by
 simp only [Reps] at h;obtain ⟨a,_,rfl,h0,b,_,rfl,h1,rfl⟩:=h;exact ⟨a,b,rfl,h0,h1⟩
abbrev blH (b:K8)(a:Nat)(z:Z3):List (Nat×Blk):=[(a,Blk.cells [.slf a,.v (SL z)] 58),(0,Blk.opq (bufO 5 b.gx z))]
theorem copyT_ok (b a z):CallsD Tryz.prog 56 [.ptr a 0] (blH b a z) [] (fun d h k=>d=.tup []∧h=blH b a z∧k=[]):=by
 refine ⟨⟨_,Tryz.func56,rfl,rfl⟩,fun H w vs hv hA hb ht hnd=>?_⟩;simp only [RepsV] at hv;obtain ⟨u,us,rfl,hu,rfl⟩:=hv;have:=Kcv hu;subst this;have c:=core_at hA hb ht hnd;obtain ⟨us,h1,h2,m⟩:=hb _ (List.mem_cons_self ..);obtain ⟨n,f,rfl,g,l⟩:=reps2 h2;have htup:Rep H (.tup []) (.tuple #[]):=⟨⟨[],rfl,rfl⟩,rfl⟩;have q:=g.1;simp only [RepC,List.cons.injEq,and_true] at q;rcases q with rfl|rfl
 ·refine (Kl0 a w (by simp [World.cell?,h1]) (by simp [World.shape?,h1]) (by simp [World.frozen?,h1])).mono fun e w' ⟨he,hw⟩=>?_
  subst hw;refine ⟨_,H,.tup [],_,[],he,htup,?_,rfl,rfl,rfl⟩;have:=c.write (w':=w.setCell ⟨a,0,none⟩ (.pointer (some ⟨a,0,none⟩))) (j:=0) (us':=[.pointer (some ⟨a,0,none⟩),f]) (ds':=[.slf a,.v (SL z)]) rfl ⟨rfl,rfl,rfl,Nat.le_refl _⟩ Kkp (fun i hi=>by rw [heap_set,if_neg (fun q=>hi q.symm)]) (by rw [heap_set,if_pos rfl,h1];rfl)
   ⟨_,_,rfl,⟨by simp [RepC],rfl,rfl⟩,_,_,rfl,l,rfl⟩
  exact this
 refine (Klx a w (by simp [World.cell?,h1])).mono fun e w' ⟨he,hw⟩=>?_
 subst hw;exact ⟨_,H,.tup [],_,[],he,htup,c,rfl,rfl,rfl⟩
theorem bl_String (b g cap:Nat)(a:Value)(cs:Array Value)(l:List UInt8)(w:World)(h0:l ≠ [])(hbk:w.heap[b]? = some (.cells #[a,.slice (some ⟨g,0,none⟩) l.length cap] 58 (0,0)))(hbg:w.heap[g]? = some (.cells cs 5 (0,0)))(hcap:l.length≤cap)(hlen:l.length≤cs.size)(hmax:l.length≤9223372036854775807)(hcell:∀ (j:Nat) x,l[j]? = some x→w.cell? ⟨g,j,none⟩=some (.int .u8 x.toNat)) :
  Calls Tryz.prog 22 #[.pointer (some ⟨b,0,none⟩)] w fun e w'=>e=.returned (.string ⟨l.toArray⟩)∧w'=w.drew.freeze ⟨g,0,none⟩ l.length:=by
 have c:l.length ≠ 0:=by simpa using h0
 have c1:w.drew.cell? ⟨b,1,none⟩=some (.slice (some ⟨g,0,none⟩) l.length cap):=by
  have:w.drew.heap[b]? = some (.cells #[a,.slice (some ⟨g,0,none⟩) l.length cap] 58 (0,0)):=hbk;rw [Lib.cell_of_heap this];rfl
 have hSD:(Builtin.unsafeSliceData_ #[28] 105 #[.slice (some ⟨g,0,none⟩) l.length cap]).run Tryz.prog w.drew=.ok (.pointer (some ⟨g,0,none⟩)) w.drew:=
  Lib.run_unsafeSliceData_row _ _ _ _ _ _ (by omega)
 have hUS:(Builtin.unsafeString_ #[105,3] 9 #[.pointer (some ⟨g,0,none⟩),.int .i64 l.length]).run Tryz.prog w.drew=.ok (.string ⟨l.toArray⟩) (w.drew.freeze ⟨g,0,none⟩ l.length):=
  Lib.run_unsafeString_row w.drew 105 3 9 5 (by kernel_rfl) (by kernel_rfl) g cs.size (by have hg':w.drew.heap[g]? = some (.cells cs 5 (0,0)):=hbg;simp [World.shape?,hg']) l h0 (by omega) (by omega) (fun j x hx=>by have:=hcell j x hx;simp only [Addr.add_lit,Nat.zero_add];exact this)
 go_enter Tryz.func22,Tryz.ntmps22
 go_wp2
 go_region
 all_goals (go_wp2;go_ret;exact ⟨rfl,rfl⟩)
def strT (m:K8):ByteArray×K8:=(⟨m.gx.toArray⟩,m)
def strTOK (m:K8):Bool:=!m.gx.isEmpty && decide (m.gx.length≤9223372036854775807)
theorem strT_ok (c i z)(h0:strTOK c=true):CallsD Tryz.prog 22 [.ptr i 0] (blH c i z) [] (fun d h k=>d=.v (.string (strT c).1)∧h=[(i,Blk.cells [.slf i,.any] 58)]∧k=[]):=by
 refine ⟨⟨_,Tryz.func22,rfl,rfl⟩,fun H w vs hv hA hb ht hnd=>?_⟩;simp only [strTOK,Bool.and_eq_true,Bool.not_eq_true',List.isEmpty_eq_false_iff,decide_eq_true_eq] at h0;simp only [RepsV] at hv;obtain ⟨u,us,rfl,hu,rfl⟩:=hv;have:=Kcv hu;subst this;obtain ⟨us,h1,h2,r⟩:=hb _ (List.mem_cons_self ..);obtain ⟨l,C,rfl,s,t⟩:=reps2 h2;have q:=t.1;simp only [RepC,List.cons.injEq,and_true] at q;subst q;have hq:(bufO 5 c.gx z).Q H w:=hb _ (List.mem_cons_of_mem _ (List.mem_cons_self ..));obtain ⟨hrow,hty⟩:=hq;rcases hrow with ⟨a,_,e⟩|⟨g,m,us,rest,T,e,o,y,k1,k2,D,E⟩
 ·exact absurd (by simpa using e) h0.1
 obtain ⟨_,cs,hcs⟩:=hty _ _ _ e;rw [k1] at hcs;simp only [Option.some.injEq,Obj.cells.injEq,and_true] at hcs;obtain ⟨hcs,rfl⟩:=hcs;rw [List.length_map] at e o;have hus:=Kjc k2;rw [e] at h1;have hM:KP (blH c i z) []=[i,g]:=by
  have:Kau (SL z)=[g]:=by rw [e];simp [Kau,y]
  simp [KP,K0,bufO,this]
 rw [hM] at hnd;have hne:i ≠ g:=by simpa using hnd
 refine (bl_String i g m l _ c.gx w h0.1 h1 k1 o (by rw [← List.length_map (f:=fun b:UInt8=>Value.int .u8 b.toNat),← hus];simp) h0.2 (fun j x hx=>?_)).mono fun e' w' ⟨he,hw⟩=>?_
 ·have:us[j]? = some (.int .u8 x.toNat):=by rw [hus];simp [hx]
  simp only [World.cell?,k1,Option.isSome_none,Bool.false_eq_true,if_false,List.getElem?_toArray];rw [List.getElem?_append_left (List.getElem?_eq_some_iff.1 this).1];exact this
 subst hw;obtain ⟨f1,A⟩:=Kja w.drew ⟨g,0,none⟩ c.gx.length;have hdr:∀ k,k ≠ g→(w.drew.freeze ⟨g,0,none⟩ c.gx.length).heap[k]? = w.heap[k]?:=fun k hk=>by
  rcases Kfr (w:=w.drew) (a:=⟨g,0,none⟩) (n:=c.gx.length) (k:=k) with h|⟨h,_⟩
  ·rw [h];rfl
  exact absurd h.symm (by simpa using hk)
 rw [hM];refine ⟨_,H,_,_,[],he,rep_v rfl,⟨⟨fun a v B=>by rw [Kh9];exact hA a v B,KjK (hA.gg.step (Hp.le_refl H) rfl)⟩,Hp.le_refl H,fun _ _ x=>.inl x,fun k _ hk=>hdr k (fun q=>hk (by simp [q])),by rw [A];exact Nat.le_refl _,?_,by simp,by simp [KP,K0],by simp [KP,K0],Env.trans (b:=w.drew) ⟨rfl,rfl,rfl,Nat.le_refl _⟩ f1⟩,rfl,rfl,rfl⟩;intro p hp;simp only [List.mem_singleton] at hp;subst hp;exact ⟨[l,.slice (some ⟨g,0,none⟩) c.gx.length m],by rw [hdr _ hne];exact h1,⟨_,_,rfl,s,_,_,rfl,⟨by simp [RepC],rfl,rfl⟩,rfl⟩,r⟩
end
section
open Go Go.RowKit
set_option maxHeartbeats 4000000
set_option maxRecDepth 100000
theorem bl_String0 (b cap:Nat)(a:Option Addr)(ha:a=none∨cap ≠ 0)(c:Value)(w:World)(hbk:w.heap[b]? = some (.cells #[c,.slice a 0 cap] 58 (0,0))) :
  Calls Tryz.prog 22 #[.pointer (some ⟨b,0,none⟩)] w fun e w'=>e=.returned (.string ByteArray.empty)∧w'=w.drew:=by
 have c1:w.drew.cell? ⟨b,1,none⟩=some (.slice a 0 cap):=by
  have:w.drew.heap[b]? = some (.cells #[c,.slice a 0 cap] 58 (0,0)):=hbk;rw [Lib.cell_of_heap this];rfl
 have hSD:(Builtin.unsafeSliceData_ #[28] 105 #[.slice a 0 cap]).run Tryz.prog w.drew=.ok (.pointer a) w.drew:=by
  cases a with
  | none=>exact Lib.run_unsafeSliceData_nil _ _ _ _ _
  | some a=>exact Lib.run_unsafeSliceData_row _ _ _ _ _ _ (by rcases ha with h|h;cases h;exact h)
 have hUS:(Builtin.unsafeString_ #[105,3] 9 #[.pointer a,.int .i64 0]).run Tryz.prog w.drew=.ok (.string .empty) w.drew:=Lib.run_unsafeString_none _ _ _ _ _;go_enter Tryz.func22,Tryz.ntmps22;go_wp2;go_region;all_goals (go_wp2;go_ret;exact ⟨rfl,rfl⟩)
def strTK (m:K8):Bool:=decide (m.gx.length≤9223372036854775807)
theorem strTK_ok (f b z)(h0:strTK f=true):CallsD Tryz.prog 22 [.ptr b 0] (blH f b z) [] (fun d h k=>d=.v (.string (strT f).1)∧h=[(b,Blk.cells [.slf b,.any] 58)]∧k=[]):=by
 obtain ⟨l⟩:=f;cases l with
 | cons c l=>exact strT_ok ⟨c::l⟩ b z (by simpa [strTOK,strTK] using h0)
 |
  nil=>
  refine ⟨⟨_,Tryz.func22,rfl,rfl⟩,fun H w vs hv hA hb ht hnd=>?_⟩;simp only [RepsV] at hv;obtain ⟨u,us,rfl,hu,rfl⟩:=hv;have:=Kcv hu;subst this;have s:=hb;obtain ⟨us,h1,h2,j⟩:=hb _ (List.mem_cons_self ..);obtain ⟨i,t,rfl,n,o⟩:=reps2 h2;have q:=o.1;simp only [RepC,List.cons.injEq,and_true] at q;subst q;have hq:(bufO 5 ([]:List UInt8) z).Q H w:=hb _ (List.mem_cons_of_mem _ (List.mem_cons_self ..));obtain ⟨hrow,hty⟩:=hq;have hz:∃ a cap,SL z=.slice a 0 cap∧(a=none∨cap ≠ 0):=by
   rcases hrow with ⟨a,e,_⟩|⟨g,m,us,rest,T,e,y,A,_⟩
   ·refine ⟨a,0,e,?_⟩;cases a with
    | none=>exact .inl rfl
    | some a=>exact absurd (hty _ _ _ e).1 (by decide)
   exact ⟨_,m,e,.inr (by omega)⟩
  obtain ⟨a,cap,e,ha⟩:=hz;rw [e] at h1;refine (bl_String0 b cap a ha i w h1).mono fun e' w' ⟨he,hw⟩=>?_
  subst hw;have hn:(KP [(b,Blk.cells [.slf b,.any] 58)] []).Nodup:=by simp [KP,K0]
  refine ⟨_,H,_,_,[],he,rep_v rfl,⟨⟨fun a v r=>hA a v r,hA.gg.step (Hp.le_refl H) rfl⟩,Hp.le_refl H,fun _ _ x=>.inl x,fun k _ hk=>rfl,Nat.le_refl _,?_,by simp,hn,?_,⟨rfl,rfl,rfl,Nat.le_refl _⟩⟩,rfl,rfl,rfl⟩
  ·intro p hp;simp only [List.mem_singleton] at hp;subst hp;exact ⟨[i,.slice a 0 cap],h1,⟨_,_,rfl,n,_,_,rfl,⟨by simp [RepC],rfl,rfl⟩,rfl⟩,j⟩
  intro x hx;simp [KP,K0] at hx;subst hx;exact .inl (by simp [KP,K0])
end
section
open Go
def KbV (Zc:Int×Int→List PanicEntry){ρ:Type}(P:Program)(f:FuncId)(ds:List D)(h:List (Nat×Blk))(k:List (Nat×Value))(pr:(Int×Int)⊕ρ)(R:ρ→D→List (Nat×Blk)→List (Nat×Value)→Prop):Prop:=
 match pr with
 | .inr r=>CallsD P f ds h k (R r)
 |
  .inl pe=>Goes P f∧∀ H w vs,RepsV H ds vs→Ag H w→(∀ p∈h,BlkOK H w p)→(∀ p∈k,TokOK H w p)→(KP h k).Nodup →
  Calls P f vs.toArray w fun e w'=>e=.panicked (Zc pe)∧∃ H',Core ⟨H,w,KP h k⟩ H' [] [] w'
def retP (Zc:Int×Int→List PanicEntry){ρ:Type}(C:Ctx)(tab:List (Option TI))(rs:List ResultVar)(R:ρ→D→List (Nat×Blk)→List (Nat×Value)→Prop)(pr:(Int×Int)⊕ρ)(x:Exit)(s:S):Prop:=
 match pr with
 | .inr r=>retX C tab rs (R r) x s
 | .inl pe=>x=.panic (Zc pe)
section
variable {Zc : Int × Int → List PanicEntry} {ρ : Type} {P : Program} {C : Ctx} {N : Nat} {tab : List (Option TI)} {ops rest : List Oper} {o : Oper} {t : List (Nat × D)} {h : List (Nat × Blk)} {k : List (Nat × Value)} {Q : Exit → S → Prop}
theorem Kcw {R:ρ→D→List (Nat×Blk)→List (Nat×Value)→Prop}{rs:List ResultVar}{r:ρ}{x:Exit}{s:S}(g:retX C tab rs (R r) x s):retP Zc C tab rs R (.inr r) x s:=g
theorem KaI {R:ρ→D→List (Nat×Blk)→List (Nat×Value)→Prop}{rs:List ResultVar}{pe:Int×Int}{s:S}:retP Zc C tab rs R (.inl pe) (.panic (Zc pe)) s:=rfl
theorem Kab {next:S→Prop}{s:S}{c:List PanicEntry}(g:Q (.panic c) s):thenD next Q (.panic c) s:=g
theorem KaC {s:S}{j:Nat}{c:List PanicEntry}(g:Q (.panic c) s):Khm j Q (.panic c) s:=g
theorem Kar {τ ρ' Y:Type}{S1:τ→Y→S}{s:S}{r:ρ'}{c:List PanicEntry}(g:Q (.panic c) s):midX C S1 Q (.inr r) (.panic c) s:=g
theorem Kfs {R:ρ→D→List (Nat×Blk)→List (Nat×Value)→Prop}{pr:(Int×Int)⊕ρ}(ht:TabOK P tab){f:FuncId}{fn:Func}{c:Code}{ds:List D}{rs:List ResultVar}
  (hf : P.funcs[f]? = some fn) (hb : fn.body = some c) (hn : (fn.name == "runtime.NumGoroutine") = false) {N : Nat} (hN : fn.ntmps = N) (hl : Nat.ble ds.length N = true) (hrs : fn.results.toList = rs)
  (hw:∀ C,wpD P C N c ⟨argT 0 ds,h,k⟩ (retP Zc C tab rs R pr)):KbV Zc P f ds h k pr R:=by
 cases pr with
 | inr r=>exact KV ht hf hb hn hN hl hrs hw
 |
  inl pe=>
  subst hN;subst hrs;refine ⟨⟨fn,hf,hn,by simp [hb]⟩,fun H w vs h1 h2 g j l=>?_⟩;have hlen:=Kgc h1;have hle:=Nat.le_of_ble_eq_true hl;refine calls_of_wp hf hb (wp_mono (hw ⟨H,w,KP h k⟩ _ _ ⟨H,?_,?_,?_,rfl⟩) ?_)
  ·exact ⟨h2,Hp.le_refl H,fun _ _ x=>.inl x,fun _ _ _=>rfl,Nat.le_refl _,g,j,l,fun b hb=>.inl hb,Env.refl w⟩
  ·intro i d e;obtain ⟨n,rfl,hn⟩:=KjI ds 0 i d e;obtain ⟨u,a,m⟩:=KhY h1 hn;refine ⟨u,?_,m⟩;have hlt:n < vs.length:=(List.getElem?_eq_some_iff.1 a).1;simp only [Nat.zero_add];rw [Array.getElem?_append_left (by simpa using hlt)];simpa using a
  ·simp;omega
  rintro e a' w' ⟨s',⟨H',c',k',hN,hdf⟩,hx⟩;have hx':e=.panic (Zc pe):=hx;subst hx';exact ⟨hdf,rfl,H',c'.drop (List.nil_sublist _) (List.nil_sublist _)⟩
theorem Kbg {f:FuncId}{args:List Operand}{ts:Array TypeId}{ds ds':List D}{h1 h2:List (Nat×Blk)}{k1 k2:List (Nat×Value)}{pe:Int×Int}{R:ρ→D→List (Nat×Blk)→List (Nat×Value)→Prop}
  (hc:KbV Zc P f ds' h1 k1 (.inl pe) R) (ho:o.op=.call ⟨.value (.func f),args.toArray,ts⟩) (hw:wantD ops t o=some true) (ha:Kb3 args (opD t)=some ds) (hwk:WkL ds ds')
  (hh:h.Perm (h1++h2)) (hk:k.Perm (k1++k2)) (g:Q (.panic (Zc pe)) ⟨[],[],[]⟩):opsD P C N ops (o::rest) ⟨t,h,k⟩ Q:=by
 rintro a w ⟨H,c,kt,hN,hdf⟩;obtain ⟨hg,hc⟩:=hc;unfold wpList;rw [Ka2 kt hw,if_pos rfl];refine .inl ?_;unfold Oper.wp;rw [Kd1 ho hg,Oper.upon_enter];have c0:=c.perm hh hk;have nd:=(KbM h1 h2 k1 k2).nodup_iff.1 c0.nd;rw [List.nodup_append] at nd;have hv:=hwk H _ (Kco kt ha);have:=hc H w _ hv c.ag (fun p hp=>c0.blks p (List.mem_append_left _ hp)) (fun p hp=>c0.toks p (List.mem_append_left _ hp)) nd.1;rw [List.map_toArray];refine this.mono ?_;rintro e w' ⟨rfl,H',hcore⟩;simp only [];refine ⟨⟨[],[],[]⟩,⟨H',?_,fun i d e=>by simp [look] at e,hN,hdf⟩,g⟩;have:=Core.call (h1':=[]) (k1':=[]) c0 hcore
 exact this.drop (List.nil_sublist _) (List.nil_sublist _)
end
end
section
open Go
theorem Kjd {H:Hp}{k:Nat}:∀ (n:Nat) {xs:List D} {us:List Value},FlatR H k xs us→∃ a b,us=a++b∧FlatR H k (xs.take n) a∧FlatR H k (xs.drop n) b
 | 0,xs,us,h=>⟨[],us,rfl,rfl,h⟩
 |
  n+1,[],us,h=>by
  have:us=[]:=h;subst this;exact ⟨[],[],rfl,rfl,rfl⟩
 |
  n+1,x::xs,us,h=>by
  obtain ⟨v1,v2,rfl,hl,h1,c⟩:=h;obtain ⟨a,b,rfl,d,e⟩:=Kjd n c;exact ⟨v1++a,b,by simp,⟨v1,a,rfl,hl,h1,d⟩,e⟩
section
variable {P : Program} {C : Ctx} {N : Nat} {ops rest : List Oper} {o : Oper} {t : List (Nat × D)} {h : List (Nat × Blk)} {k : List (Nat × Value)} {Q : Exit → S → Prop} {tab : List (Option TI)}
theorem Core.reblk {H:Hp}{w:World}(c:Core C H h k w){j:Nat}{p q:Nat×Blk}(hj:h[j]? = some p)(hc:K0 q=K0 p)(hq:BlkOK H w q):Core C H (h.set j q) k w:=by
 have hcl:=KiY (k:=k) hj hc;refine ⟨c.ag,c.le,c.new,c.same,c.size,fun x hx=>?_,c.toks,by rw [hcl];exact c.nd,by rw [hcl];exact c.own,c.env⟩;rcases List.mem_or_eq_of_mem_set hx with hx|rfl
 ·exact c.blks x hx
 exact hq
theorem p_cutR {α:Type}{f:α→D}{i kk r:Nat}{T e:TypeId}{x:Operand}{hi:Option Operand}{n':Option Int}{xs ys:List α}{n:Int}{z:Z3}{y tie:TI}(j:Nat)(q:cutL xs 0 n=some ys)(hT:TabOK P tab)(ho:o.op=.slice T x none hi none)(hw:wantD ops t o=some true)(hd:o.dst=some i)(E:Nat.blt i N=true)
  (hx:opD t x=some (.v (SL z))) (hj:h[j]? = some (r,.row kk (xs.map f) (SL z))) (F:optI t hi=some n') (hti:ti tab T=some y) (hs:y.d=.slice e) (hte:ti tab e=some tie) (hk:tie.size=kk) (h2:n'.getD (xs.length:Int)=n)
  (g:∀ z':Z3,opsD P C N ops rest ⟨(i,.v (SL z'))::t,h.set j (0,.row kk (ys.map f) (SL z')),k⟩ Q):opsD P C N ops (o::rest) ⟨t,h,k⟩ Q:=by
 obtain ⟨p,U,G,I,J⟩:=Kit q;simp only [Int.toNat_zero,List.drop_zero,Nat.sub_zero] at p I;generalize hn:n.toNat=M at *;subst G;refine Kb4 (s:=⟨t,h,k⟩) hw hd E fun H a w c kt=>?_
 obtain ⟨d,A,K⟩:=Kak (w:=w) (ti_ok hT hti);have:=KbY (K.trans hs);subst this;have hb:=c.blks _ (List.mem_of_getElem? hj);have hxv:=KW (Kae kt hx);have key:∀ ad m,SL z=.slice ad xs.length m→xs.length≤m→(execOp a.eval o).run P w=.ok (.value (.slice (if m=0 then ad else ad.map (·.add (0*kk))) (M - 0) (m - 0))) w:=by
  intro ad m hy B;unfold execOp;rw [ho];refine Kbb ?_;rw [hxv,hy];unfold Instr.sliceAt;rw [Kw A];simp only [Instr.slice];rw [Kw A];have:=Ki4 (P:=P) (w:=w) kt (isS:=true) (len:=xs.length) (cap:=m) (lo:=none) (l:=0) (mx:=none) (m':=none) (m:=m) (l':=none) rfl F rfl rfl h2 rfl (fun x=>absurd rfl x) (Nat.zero_le _) (by omega) (Nat.le_refl _);simp only [Option.map_none] at this ⊢;simp only [Kcz,KcG,this,Kby (ti_ok hT hte),hk]
 rcases hb with ⟨a0,hy,hnil⟩|⟨b,m,us,rs,T',hy,h0,B,h1,hf,hr,hH⟩
 ·have hxs:xs=[]:=by simpa using hnil
  subst hxs;simp only [List.length_nil] at J;have hM:M=0:=by omega
  subst hM;have hys:ys=[]:=by rw [p];rfl
  subst hys;have u:=key a0 0 hy (Nat.le_refl _);refine ⟨_,_,H,_,_,_,u,Hp.le_refl H,?_,?_,g (a0,0,0)⟩
  ·exact c.reblk hj (by rw [show K0 (0,Blk.row kk (([]:List α).map f) (SL (a0,0,0)))=Kau (SL (a0,0,0)) from rfl,show K0 (r,Blk.row kk (([]:List α).map f) (SL z))=Kau (SL z) from rfl,hy]) (.inl ⟨a0,rfl,rfl⟩)
  exact rep_v rfl
 simp only [List.length_map] at hy h0;have u:=key _ m hy h0;rw [if_neg (by omega)] at u;simp only [Option.map_some,KcT,Nat.zero_mul,Nat.add_zero,Nat.sub_zero] at u;obtain ⟨L,O,rfl,R,_⟩:=Kjd M hf;refine ⟨_,_,H,_,_,_,u,Hp.le_refl H,?_,?_,g (some ⟨b,0,none⟩,M,m)⟩
 ·refine c.reblk hj ?_ (.inr ⟨b,m,L,O++rs,T',?_,?_,B,by rw [← List.append_assoc];exact h1,?_,by rw [← List.append_assoc];exact hr,hH⟩)
  ·rw [show K0 (0,Blk.row kk (ys.map f) (SL (some ⟨b,0,none⟩,M,m)))=Kau (SL (some ⟨b,0,none⟩,M,m)) from rfl,show K0 (r,Blk.row kk (xs.map f) (SL z))=Kau (SL z) from rfl,hy];rfl
  ·rw [p];simp [SL];omega
  ·rw [p];simp;omega
  rw [p,List.map_take];exact R
 exact rep_v rfl
end
end
section
open Go
section
variable {P : Program} {C : Ctx} {N : Nat} {ops rest : List Oper} {o : Oper} {t : List (Nat × D)} {h : List (Nat × Blk)} {k : List (Nat × Value)} {Q : Exit → S → Prop} {tab : List (Option TI)}
end
def nilB:D→D→Option Bool
 | .ptr _ _,.v (.pointer none)=>some false
 | .v (.pointer none),.ptr _ _=>some false
 | .el _,.v (.pointer none)=>some false
 | .v (.pointer none),.el _=>some false
 | .v (.pointer none),.v (.pointer none)=>some true
 | _,_=>none
section
variable {P : Program} {C : Ctx} {N : Nat} {ops rest : List Oper} {o : Oper} {t : List (Nat × D)} {h : List (Nat × Blk)} {k : List (Nat × Value)} {Q : Exit → S → Prop} {tab : List (Option TI)}
theorem x_eqP {op:BinOp}{neg:Bool}{xt yt:TypeId}{x y:Operand}{c:TI}{el:Nat}{dx dy:D}{b:Bool}(hT:TabOK P tab)(ho:o.op=.binOp op xt x y yt)
  (hop:isNeq op=some neg) (hx:opD t x=some dx) (hy:opD t y=some dy) (hti:ti tab xt=some c) (hs:c.d=.ptr el) (e:nilB dx dy=some b):∀ H a w,TOK H t a→∃ v,(execOp a.eval o).run P w=.ok (.value v) w∧Rep H (.v (.bool (bif neg then !b else b))) v:=
 fun H a w kt=>by
  refine ⟨.bool (bif neg then !b else b),?_,rep_v rfl⟩;have hu:=Kae kt hx;have hv:=Kae kt hy;obtain ⟨dd,f,g⟩:=Kak (w:=w) (ti_ok hT hti);have:=td_ptr (g.trans hs);subst this;have key:∃ p q:Option Addr,a.eval x=.pointer p∧a.eval y=.pointer q∧((p=none∧b=q.isNone)∨(q=none∧b=p.isNone)):=by
   unfold nilB at e;split at e
   ·obtain ⟨h1,h2⟩:=hu;have:=KW hv;simp only [RepC] at h1;cases hq:a.eval x<;>rw [hq] at h1 h2<;>simp [D.shape,Value.cells] at h1 h2;subst h1;simp only [Option.some.injEq] at e;subst e;exact ⟨_,_,rfl,this,.inr ⟨rfl,rfl⟩⟩
   ·obtain ⟨h1,h2⟩:=hv;have:=KW hu;simp only [RepC] at h1;cases hq:a.eval y<;>rw [hq] at h1 h2<;>simp [D.shape,Value.cells] at h1 h2;subst h1;simp only [Option.some.injEq] at e;subst e;exact ⟨_,_,this,rfl,.inl ⟨rfl,rfl⟩⟩
   ·obtain ⟨h1,h2⟩:=hu;have:=KW hv;simp only [RepC] at h1;obtain ⟨_,_,_,h1,_⟩:=h1;cases hq:a.eval x<;>rw [hq] at h1 h2<;>simp [D.shape,Value.cells] at h1 h2;subst h1;simp only [Option.some.injEq] at e;subst e;exact ⟨_,_,rfl,this,.inr ⟨rfl,rfl⟩⟩
   ·obtain ⟨h1,h2⟩:=hv;have:=KW hu;simp only [RepC] at h1;obtain ⟨_,_,_,h1,_⟩:=h1;cases hq:a.eval y<;>rw [hq] at h1 h2<;>simp [D.shape,Value.cells] at h1 h2;subst h1;simp only [Option.some.injEq] at e;subst e;exact ⟨_,_,this,rfl,.inl ⟨rfl,rfl⟩⟩
   ·have h1:=KW hu;have h2:=KW hv;simp only [Option.some.injEq] at e;subst e;exact ⟨_,_,h1,h2,.inl ⟨rfl,rfl⟩⟩
   cases e
  obtain ⟨p,q,i,j,l⟩:=key;have hq:(Op.equal xt (.pointer p) (.pointer q)).run P w=.ok b w:=by
   show (Op.equalIn (9999+1) xt _ _).run P w=_
   rw [Op.equalIn,Kw f];rcases l with ⟨rfl,rfl⟩|⟨rfl,rfl⟩
   ·rfl
   cases p<;>rfl
  unfold execOp;rw [ho];refine Kbb ?_;rw [i,j];have hg:(eqGuard op xt x y (.pointer p) (.pointer q)).run P w=.ok () w:=by
   cases op<;>simp [eqGuard]
  rw [Kw hg];cases op<;>simp [isNeq] at hop<;>subst hop
  ·show (do pure (Value.bool (← Op.equal xt _ _)):Sem Value).run P w=_
   rw [Kw hq];rfl
  show (do pure (Value.bool (!(← Op.equal xt _ _))):Sem Value).run P w=_
  rw [Kw hq];rfl
theorem p_eqP {i:Nat}{op:BinOp}{neg:Bool}{xt yt:TypeId}{x y:Operand}{a:TI}{el:Nat}{dx dy:D}{b:Bool}(hT:TabOK P tab)(ho:o.op=.binOp op xt x y yt)(hw:wantD ops t o=some true)(hd:o.dst=some i)(hi:Nat.blt i N=true)
  (hop:isNeq op=some neg) (hx:opD t x=some dx) (hy:opD t y=some dy) (hti:ti tab xt=some a) (hs:a.d=.ptr el) (e:nilB dx dy=some b)
  (g:opsD P C N ops rest ⟨(i,.v (.bool (bif neg then !b else b)))::t,h,k⟩ Q):opsD P C N ops (o::rest) ⟨t,h,k⟩ Q:=
 Kdi (s:=⟨t,h,k⟩) hw hd hi (x_eqP hT ho hop hx hy hti hs e) g
end
end
section
open Go
def Khs (tab:List (Option TI))(ts:List Nat):Nat→List (Nat×Nat)→Option Nat
 | off,[]=>some off
 |
  off,(ty,o)::fs=>match ti tab ty with
  | some i=>bif Nat.beq o off && ts.contains ty then Khs tab ts (off+i.size) fs else none
  | none=>none
def typeOK (tab:List (Option TI))(ts:List Nat)(t:Nat):Bool:=
 match ti tab t with
 |
  some i=>match i.d with
  | .bool=>Nat.beq i.size 1
  | .int _=>Nat.beq i.size 1
  | .str=>Nat.beq i.size 1
  | .slice e=>ts.contains e && Nat.beq i.size 1 && (match ti tab e with|some ie=>Nat.ble 1 ie.size|none=>false)
  |
   .struct fs=>match Khs tab ts 0 fs with
   | some n=>Nat.beq n i.size
   | none=>false
  | .array n e=>ts.contains e && (match ti tab e with|some ie=>Nat.beq i.size (n*ie.size)|none=>false)
  | _=>false
 | none=>false
def closedT (tab:List (Option TI))(ts:List Nat):Bool:=ts.all (typeOK tab ts)
def GoodT (tab:List (Option TI)):Nat→Nat→D→Prop
 | 0,_,_=>False
 |
  n+1,t,d=>∃ i,ti tab t=some i∧match i.d with
  | .bool=>∃ b,d=.v (.bool b)
  | .int k=>∃ m,d=.v (.int k m)∧(Lit.int k m).wf=true
  | .str=>∃ s:ByteArray,d=.v (.string s)∧s.size≤maxLen
  | .slice e=>∃ ie xs,ti tab e=some ie∧d=.lst ie.size xs .no∧xs.length≤maxLen∧∀ x∈xs,GoodT tab n e x
  | .struct fs=>∃ ds:List D,d=.agg (ds.flatMap Kah)∧ds.length=fs.length∧∀ (j:Nat) (f:Nat×Nat) (d0:D),fs[j]? = some f→ds[j]? = some d0→GoodT tab n f.1 d0
  | .array m e=>∃ ds:List D,d=.agg (ds.flatMap Kah)∧ds.length=m∧∀ x∈ds,GoodT tab n e x
  | _=>False
section
variable {H : Type} {enc : TypeId × Value → H} {P : Program} {w : World} {base : Nat} {spare : Nat → Bool} {held : Bool} {tab : List (Option TI)} {ts : List Nat}
theorem Kgi (hT:TabOK P tab){t:TypeId}{i:TI}(h:ti tab t=some i):P.cellsOf t=i.size:=by
 obtain ⟨tf,z,dd,h1,_,_,h2,_⟩:=KfD (ti_ok hT h);simp [Program.cellsOf,h1,h2]
def allOf (w:World):Hp:=fun a=>w.cell? a
theorem ag_all (w:World)(g:GG (allOf w) w):Ag (allOf w) w:=⟨fun _ _ h=>h,g⟩
def Rd (tab:List (Option TI))(w:World)(n t:Nat)(cs:List Value)(d:D):Prop:=
 ∃ i,ti tab t=some i∧RepC (allOf w) d cs∧Reps (allOf w) (Kah d) cs∧cs.length=i.size∧(Kah d).length=i.size∧GoodT tab n t d
theorem Kly (hT:TabOK P tab){n:Nat}{cs:List Value}(ih:∀ t cs x,ts.contains t=true→DataW.trod enc P w base spare held n t cs=some x→∃ d,Rd tab w n t cs d) :
  ∀
   (gs:List Field) (off total:Nat),Khs tab ts off (gs.map fun f=>(f.type,f.offset))=some total→total≤cs.length→(∀ f∈gs,∃ y,DataW.trod enc P w base spare held n f.type ((cs.drop f.offset).take (P.cellsOf f.type))=some y) →
   off≤total∧∃ ds:List D,ds.length=gs.length∧Reps (allOf w) (ds.flatMap Kah) ((cs.drop off).take (total - off))∧(ds.flatMap Kah).length=total - off∧∀ (j:Nat) (f:Nat×Nat) (d0:D),(gs.map fun f=>(f.type,f.offset))[j]? = some f→ds[j]? = some d0→GoodT tab n f.1 d0
 |
  [],off,total,h,_,_=>by
  simp [Khs] at h;subst h;exact ⟨Nat.le_refl _,[],rfl,by simp [Reps],by simp,fun j f d0 e=>by simp at e⟩
 |
  g::gs,off,total,h,hl,hy=>by
  simp only [List.map_cons,Khs] at h;split at h
  ·rename_i i hi;cases hb:(Nat.beq g.offset off && ts.contains g.type) with
   | false=>rw [hb] at h;cases h
   |
    true=>
    rw [hb] at h;simp only [cond_true] at h;simp only [Bool.and_eq_true] at hb;have ho:=Nat.eq_of_beq_eq_true hb.1;obtain ⟨y,a⟩:=hy g (by simp);obtain ⟨d,i',hi',h1,h2,p,b,c⟩:=ih _ _ y hb.2 a;rw [hi] at hi';cases hi';obtain ⟨hle,ds,k,l,m,o⟩:=Kly hT ih gs (off+i.size) total h hl fun f hf=>hy f (by simp [hf])
    rw [Kgi hT hi,ho] at h2;refine ⟨by omega,d::ds,by simp [k],?_,by simp [b,m];omega,?_⟩
    ·simp only [List.flatMap_cons];have:=Kfq h2 l;have e:(cs.drop off).take i.size++(cs.drop (off+i.size)).take (total - (off+i.size))=(cs.drop off).take (total - off):=by
      rw [show total - off=i.size+(total - (off+i.size)) by omega,List.take_add,List.drop_drop]
     rwa [e] at this
    intro j f d0 hf hd;cases j with
    | zero=>simp at hf hd;subst hf;subst hd;exact c
    | succ j=>exact o j f d0 (by simpa using hf) (by simpa using hd)
  cases h
theorem rd_elems {n e sz b off:Nat}{ie:TI}(hie:ti tab e=some ie)(hsz:ie.size=sz)(he:ts.contains e=true)(ih:∀ t cs x,ts.contains t=true→DataW.trod enc P w base spare held n t cs=some x→∃ d,Rd tab w n t cs d) :
  ∀
   (m a:Nat),(∀ i,a≤i→i < a+m→∃ cs y,w.cells? base ((⟨b,off,none⟩:Addr).add (i*sz)) sz=some cs∧DataW.trod enc P w base spare held n e cs=some y) →
   ∃ xs:List D,xs.length=m∧Els (allOf w) sz b (off+a*sz) xs∧∀ x∈xs,GoodT tab n e x
 | 0,a,_=>⟨[],rfl,by simp [Els],by simp⟩
 |
  m+1,a,h=>by
  obtain ⟨cs,y,h1,h2⟩:=h a (Nat.le_refl _) (by omega);obtain ⟨d,i',hi',g1,c,f,o,g⟩:=ih e cs y he h2;rw [hie] at hi';cases hi';obtain ⟨xs,f1,k,l⟩:=rd_elems hie hsz he ih m (a+1) fun i hi hi'=>h i (by omega) (by omega)
  refine ⟨d::xs,by simp [f1],?_,?_⟩
  ·simp only [Els];refine ⟨⟨cs,by rw [f,hsz],g1,fun j u hj=>?_,KeZ c⟩,?_⟩
   ·obtain ⟨_,hlen,hc⟩:=World.cells?_some h1;have hjl:j < sz:=by rw [← hlen];exact (List.getElem?_eq_some_iff.1 hj).1
    have:=hc j hjl;rw [KcT,KcT] at this;show w.cell? _=_
    rw [this];exact hj
   rw [show off+a*sz+sz=off+(a+1)*sz by rw [Nat.add_mul];omega];exact k
  intro x hx;rcases List.mem_cons.1 hx with rfl|hx
  ·exact g
  exact l x hx
theorem rd_arr {n e sz:Nat}{ie:TI}{cs:List Value}(hie:ti tab e=some ie)(hsz:ie.size=sz)(he:ts.contains e=true)(ih:∀ t cs x,ts.contains t=true→DataW.trod enc P w base spare held n t cs=some x→∃ d,Rd tab w n t cs d) :
  ∀
   (m a:Nat),(∀ i,a≤i→i < a+m→∃ y,DataW.trod enc P w base spare held n e ((cs.drop (i*sz)).take sz)=some y) →
   ∃ ds:List D,ds.length=m∧Reps (allOf w) (ds.flatMap Kah) ((cs.drop (a*sz)).take (m*sz))∧(ds.flatMap Kah).length=m*sz∧∀ x∈ds,GoodT tab n e x
 | 0,a,_=>⟨[],rfl,by simp [Reps],by simp,by simp⟩
 |
  m+1,a,h=>by
  obtain ⟨y,h2⟩:=h a (Nat.le_refl _) (by omega);obtain ⟨d,i',hi',g1,b,o,c,f⟩:=ih e _ y he h2;rw [hie] at hi';cases hi';obtain ⟨ds,f1,g,j,k⟩:=rd_arr hie hsz he ih m (a+1) fun i hi hi'=>h i (by omega) (by omega)
  refine ⟨d::ds,by simp [f1],?_,?_,?_⟩
  ·simp only [List.flatMap_cons];have:=Kfq b g;have l:(cs.drop (a*sz)).take sz++(cs.drop ((a+1)*sz)).take (m*sz)=(cs.drop (a*sz)).take ((m+1)*sz):=by
    rw [show (m+1)*sz=sz+m*sz by rw [Nat.add_mul];omega,List.take_add,List.drop_drop,show a*sz+sz=(a+1)*sz by rw [Nat.add_mul];omega]
   rwa [l] at this
  ·simp only [List.flatMap_cons,List.length_append,j,c,hsz];rw [Nat.add_mul];omega
  intro x hx;rcases List.mem_cons.1 hx with rfl|hx
  ·exact f
  exact k x hx
theorem rd (hT:TabOK P tab)(hc:closedT tab ts=true):∀ (n:Nat) (t:TypeId) (cs:List Value) (x:DataW H×List MemPlace),ts.contains t=true→DataW.trod enc P w base spare held n t cs=some x→∃ d,Rd tab w n t cs d:=by
 intro n;induction n with
 | zero=>intro t cs x _ h;simp [DataW.trod] at h
 |
  succ n ih=>
  intro t cs x ht h;have hok:typeOK tab ts t=true:=by
   unfold closedT at hc;rw [List.all_eq_true] at hc;exact hc t (by simpa using ht)
  unfold typeOK at hok;split at hok
  ·rename_i i hi;obtain ⟨tf,z,dd,h1,h2,l,E,_⟩:=KfD (ti_ok hT hi);split at hok
   ·rename_i hd;have hs:=Nat.eq_of_beq_eq_true hok;obtain ⟨b,rfl,_⟩:=DataW.trod_bool (by rw [h2,KjX (l.trans hd)]) h;refine ⟨.v (.bool b),i,hi,by simp [RepC],?_,by simp [hs],by simp [Kah,hs],?_⟩
    ·simp only [Kah,Reps];exact ⟨_,_,rfl,⟨by simp [RepC],rfl,rfl⟩,rfl⟩
    unfold GoodT;exact ⟨i,hi,by rw [hd];exact ⟨b,rfl⟩⟩
   ·rename_i k hd;have hs:=Nat.eq_of_beq_eq_true hok;obtain ⟨m,rfl,_,hwf⟩:=DataW.trod_int (by rw [h2,KgR (l.trans hd)]) h;refine ⟨.v (.int k m),i,hi,by simp [RepC],?_,by simp [hs],by simp [Kah,hs],?_⟩
    ·simp only [Kah,Reps];exact ⟨_,_,rfl,⟨by simp [RepC],rfl,rfl⟩,rfl⟩
    unfold GoodT;exact ⟨i,hi,by rw [hd];exact ⟨m,rfl,hwf⟩⟩
   ·rename_i hd;have hs:=Nat.eq_of_beq_eq_true hok;obtain ⟨s,rfl,_,hwf⟩:=DataW.trod_string (by rw [h2,Kf8 (l.trans hd)]) h;refine ⟨.v (.string s),i,hi,by simp [RepC],?_,by simp [hs],by simp [Kah,hs],?_⟩
    ·simp only [Kah,Reps];exact ⟨_,_,rfl,⟨by simp [RepC],rfl,rfl⟩,rfl⟩
    unfold GoodT;exact ⟨i,hi,by rw [hd];exact ⟨s,rfl,hwf⟩⟩
   ·rename_i e hd;simp only [Bool.and_eq_true] at hok;obtain ⟨⟨he,hs⟩,hsz⟩:=hok;have hs:=Nat.eq_of_beq_eq_true hs;split at hsz
    ·rename_i ie hie;have hsz:=Nat.le_of_ble_eq_true hsz;rcases DataW.trod_slice (by rw [h2,KbY (l.trans hd)]) h with ⟨rfl,_⟩|⟨a,len,cap,elems,rest,n',hf,rfl,_,hb,hlc,hcm,hel,hcells,_,_⟩
     ·have hr:RepC (allOf w) (.lst ie.size [] .no) [.slice none 0 0]:=by
       simp only [RepC,CapOK];exact ⟨_,rfl,trivial,.inl ⟨by trivial,none,0,rfl,fun _=>rfl⟩⟩
      refine ⟨.lst ie.size [] .no,i,hi,hr,?_,by simp [hs],by simp [Kah,hs],?_⟩
      ·simp only [Kah,Reps];exact ⟨_,_,rfl,⟨hr,rfl,rfl⟩,rfl⟩
      unfold GoodT;exact ⟨i,hi,by rw [hd];exact ⟨ie,[],hie,rfl,by simp,by simp⟩⟩
     have:n'=n:=by omega
     subst this;rw [Kgi hT hie] at hcells;rcases Nat.eq_zero_or_pos len with hz|hpos
     ·subst hz;have hr:RepC (allOf w) (.lst ie.size [] .no) [.slice (some a) 0 cap]:=by
       simp only [RepC,CapOK];exact ⟨_,rfl,trivial,.inl ⟨by trivial,some a,cap,rfl,fun q=>by cases q⟩⟩
      refine ⟨.lst ie.size [] .no,i,hi,hr,?_,by simp [hs],by simp [Kah,hs],?_⟩
      ·simp only [Kah,Reps];exact ⟨_,_,rfl,⟨hr,rfl,rfl⟩,rfl⟩
      unfold GoodT;exact ⟨i,hi,by rw [hd];exact ⟨ie,[],hie,rfl,by simp,by simp⟩⟩
     have hsome:∀ j,j < len→∃ cs y,w.cells? base (a.add (j*ie.size)) ie.size=some cs∧DataW.trod enc P w base spare held n' e cs=some y:=by
      intro j hj;have r:=hcells j hj;rw [List.getElem?_eq_getElem (by omega)] at r;rw [Option.bind_eq_some_iff] at r;obtain ⟨cs,o,g⟩:=r;exact ⟨cs,_,o,g⟩
     have hspot:a.spot=none:=by
      obtain ⟨cs,y,o,_⟩:=hsome 0 hpos;obtain ⟨_,hlen,hcc⟩:=World.cells?_some o;have g:=hcc 0 (by omega);rw [List.getElem?_eq_getElem (by omega)] at g;have B:(a.add (0*ie.size)).add 0=a:=by simp [Addr.add]
      rw [B] at g;cases hsp:a.spot with
      | none=>rfl
      |
       some s=>
       unfold World.cell? at g;split at g
       ·simp [hsp] at g
       cases g
     obtain ⟨b,off,sp⟩:=a;simp only at hspot;subst hspot;obtain ⟨xs,f1,c,p⟩:=rd_elems (spare:=spare) (held:=held) (enc:=enc) (P:=P) (base:=base) hie rfl he ih len 0 fun j _ hj=>hsome j (by omega)
     have hr:RepC (allOf w) (.lst ie.size xs .no) [.slice (some ⟨b,off,none⟩) len cap]:=by
      simp only [RepC,CapOK];refine ⟨_,rfl,trivial,.inr ⟨b,off,cap,by rw [f1],by rw [f1];exact hlc,by simpa using c⟩⟩
     refine ⟨.lst ie.size xs .no,i,hi,hr,?_,by simp [hs],by simp [Kah,hs],?_⟩
     ·simp only [Kah,Reps];exact ⟨_,_,rfl,⟨hr,rfl,rfl⟩,rfl⟩
     unfold GoodT;exact ⟨i,hi,by rw [hd];exact ⟨ie,xs,hie,rfl,by rw [f1];omega,p⟩⟩
    cases hsz
   ·rename_i fs hd;split at hok
    ·rename_i tot hfo;have hs:=Nat.eq_of_beq_eq_true hok;obtain ⟨gs,C,u⟩:=KfN (l.trans hd);obtain ⟨xs,n',hf,_,hl,hxl,hx⟩:=DataW.trod_struct (by rw [h2,C]) h;have:n'=n:=by omega
     subst this;rw [Kgi hT hi] at hl;obtain ⟨_,ds,f1,c,p,A⟩:=Kly hT (cs:=cs) ih gs.toList 0 tot (by rw [u];exact hfo) (by omega) fun f hfm=>by
      obtain ⟨j,hj⟩:=List.getElem?_of_mem hfm;have hj':gs[j]? = some f:=by simpa using hj
      have q:=hx j f hj';have hjl:j < xs.length:=by rw [hxl];exact (Array.getElem?_eq_some_iff.1 hj').1
      rw [List.getElem?_eq_getElem hjl] at q;exact ⟨_,q⟩
     simp only [List.drop_zero,Nat.sub_zero] at c p;rw [List.take_of_length_le (by omega)] at c;refine ⟨.agg (ds.flatMap Kah),i,hi,by simp only [RepC];exact c,c,hl,by simp only [Kah];omega,?_⟩;unfold GoodT;exact ⟨i,hi,by rw [hd];exact ⟨ds,rfl,by rw [f1,← u];simp,fun j f d0 o g=>A j f d0 (by rw [u];exact o) g⟩⟩
    cases hok
   ·rename_i m e hd;simp only [Bool.and_eq_true] at hok;obtain ⟨he,hsz⟩:=hok;split at hsz
    ·rename_i ie hie;have hsz:=Nat.eq_of_beq_eq_true hsz;obtain ⟨xs,n',hf,_,hl,hxl,hx⟩:=DataW.trod_array (by rw [h2,Ki0 (l.trans hd)]) h;have:n'=n:=by omega
     subst this;rw [Kgi hT hi] at hl;rw [Kgi hT hie] at hx;obtain ⟨ds,f1,c,p,A⟩:=rd_arr (cs:=cs) hie rfl he ih m 0 fun j _ hj=>by
      have q:=hx j (by omega);rw [List.getElem?_eq_getElem (by omega)] at q;exact ⟨_,q⟩
     simp only [Nat.zero_mul,List.drop_zero] at c;rw [List.take_of_length_le (by omega)] at c;refine ⟨.agg (ds.flatMap Kah),i,hi,by simp only [RepC];exact c,c,hl,by simp only [Kah];omega,?_⟩;unfold GoodT;exact ⟨i,hi,by rw [hd];exact ⟨ds,rfl,f1,A⟩⟩
    cases hsz
   cases hok
  cases hok
end
end
section
open Go
section
variable {P : Program} {tab : List (Option TI)} {n t : Nat} {i : TI} {d : D}
theorem good_int {k:IntKind}(hi:ti tab t=some i)(hd:i.d=.int k)(g:GoodT tab n t d):∃ m,d=.v (.int k m)∧(Lit.int k m).wf=true:=by
 cases n with
 | zero=>simp [GoodT] at g
 |
  succ n=>
  unfold GoodT at g;obtain ⟨i',h1,h2⟩:=g;rw [hi] at h1;cases h1;rw [hd] at h2;exact h2
theorem good_str (hi:ti tab t=some i)(hd:i.d=.str)(g:GoodT tab n t d):∃ s:ByteArray,d=.v (.string s)∧s.size≤maxLen:=by
 cases n with
 | zero=>simp [GoodT] at g
 |
  succ n=>
  unfold GoodT at g;obtain ⟨i',h1,h2⟩:=g;rw [hi] at h1;cases h1;rw [hd] at h2;exact h2
theorem KkS {e:Nat}{ie:TI}(hi:ti tab t=some i)(hd:i.d=.slice e)(he:ti tab e=some ie)(g:GoodT tab n t d):∃ (n':Nat) (xs:List D),n=n'+1∧d=.lst ie.size xs .no∧xs.length≤maxLen∧∀ x∈xs,GoodT tab n' e x:=by
 cases n with
 | zero=>simp [GoodT] at g
 |
  succ n=>
  unfold GoodT at g;obtain ⟨i',h1,h2⟩:=g;rw [hi] at h1;cases h1;rw [hd] at h2;obtain ⟨ie',xs,a,b,c,f⟩:=h2;rw [he] at a;cases a;exact ⟨n,xs,rfl,b,c,f⟩
theorem Kl1 {fs:List (Nat×Nat)}(hi:ti tab t=some i)(hd:i.d=.struct fs)(g:GoodT tab n t d):∃ (n':Nat) (ds:List D),n=n'+1∧d=.agg (ds.flatMap Kah)∧ds.length=fs.length∧∀ (j:Nat) (f:Nat×Nat) (d0:D),fs[j]? = some f→ds[j]? = some d0→GoodT tab n' f.1 d0:=by
 cases n with
 | zero=>simp [GoodT] at g
 |
  succ n=>
  unfold GoodT at g;obtain ⟨i',h1,h2⟩:=g;rw [hi] at h1;cases h1;rw [hd] at h2;obtain ⟨ds,a,b,c⟩:=h2;exact ⟨n,ds,rfl,a,b,c⟩
theorem good_u8 (hi:ti tab t=some i)(hd:i.d=.int .u8)(g:GoodT tab n t d):∃ c:UInt8,d=byteD c:=by
 obtain ⟨m,rfl,h⟩:=good_int hi hd g;simp [Lit.wf,IntKind.min,IntKind.max,IntKind.signed,IntKind.bits] at h;refine ⟨UInt8.ofNat m.toNat,?_⟩;unfold byteD;have e:((UInt8.ofNat m.toNat).toNat:Int)=m:=by
  rw [UInt8.toNat_ofNat'];omega
 rw [e]
theorem KjL {α:Type}{f:α→D}{K:α→Prop}{p:D→Prop}(h:∀ x,p x→∃ y,x=f y∧K y):∀ (xs:List D),(∀ x∈xs,p x)→∃ ys:List α,xs=ys.map f∧∀ y∈ys,K y
 | [],_=>⟨[],rfl,by simp⟩
 |
  x::xs,hx=>by
  obtain ⟨y,rfl,hy⟩:=h x (hx x (by simp));obtain ⟨ys,rfl,hys⟩:=KjL h xs fun z hz=>hx z (by simp [hz])
  refine ⟨y::ys,rfl,fun z hz=>?_⟩;rcases List.mem_cons.1 hz with rfl|hz
  ·exact hy
  exact hys z hz
theorem shape_of {w:World}{r:Reach}{base:Nat}{v:Value}(hT:TabOK P tab)(hv:Value.okWide P w r base t v)(g:GoodT tab n t d):d.shape v=true:=by
 cases n with
 | zero=>simp [GoodT] at g
 |
  succ n=>
  unfold GoodT at g;obtain ⟨i,hi,g⟩:=g;obtain ⟨tf,z,dd,h1,h2,a,_⟩:=KfD (ti_ok hT hi);unfold Value.okWide at hv;rw [h2] at hv;split at g
  ·rename_i hd;have:=KjX (a.trans hd);subst this;obtain ⟨b,rfl⟩:=g;cases v<;>first|rfl|(simp [Cell.okWide,Cell.ok,h2] at hv)
  ·rename_i k hd;have:=KgR (a.trans hd);subst this;obtain ⟨b,rfl,_⟩:=g;cases v<;>first|rfl|(simp [Cell.okWide,Cell.ok,h2] at hv)
  ·rename_i hd;have:=Kf8 (a.trans hd);subst this;obtain ⟨b,rfl,_⟩:=g;cases v<;>first|rfl|(simp [Cell.okWide,Cell.ok,h2] at hv)
  ·rename_i e hd;have:=KbY (a.trans hd);subst this;obtain ⟨ie,xs,_,rfl,_⟩:=g;cases v<;>first|rfl|(simp [Cell.okWide,Cell.ok,h2] at hv)
  ·rename_i fs hd;obtain ⟨gs,rfl,_⟩:=KfN (a.trans hd);obtain ⟨ds,rfl,_⟩:=g;simp only at hv;obtain ⟨cs,rfl,_⟩:=hv;rfl
  ·rename_i m e hd;have:=Ki0 (a.trans hd);subst this;obtain ⟨ds,rfl,_⟩:=g;simp only at hv;obtain ⟨cs,rfl,_⟩:=hv;rfl
  exact g.elim
theorem rd_arg {H:Type}{enc:TypeId×Value→H}{w:World}{base:Nat}{spare:Nat→Bool}{held:Bool}{v:Value}{x:DataW H}{ps:List MemPlace}{r:Reach}{b:Nat}(hT:TabOK P tab)(ts:List Nat)(hc:closedT tab ts=true)(ht:ts.contains t=true)
  (hv:Value.okWide P w r b t v) (h:DataW.Trod enc P w base spare held t v x ps):∃ n d,GoodT tab n t d∧Rep (allOf w) d v:=by
 obtain ⟨n,hn⟩:=h;obtain ⟨d,i,h1,h2,c,e,f,a⟩:=rd hT hc n t _ _ ht hn;exact ⟨n,d,a,h2,shape_of hT hv a⟩
end
end
end Go.Proofs.YtbbeiinofainlaaGreatDoor.Ab
namespace Go.Proofs.YtbbeiinofainlaaGreatDoor
open Go.ChangeShapes Go.WideShapes Go.ChangeAt Go.RowKit Go.Joins
theorem own:ownKnob Tryz.prog.godebug=none:=by kernel_rfl
theorem laidOut':laidOutB Tryz.prog=true:=by kernel_rfl
theorem Klz {H:Type}{enc:TypeId×Value→H}{P:Program}{W:World}(hl:laidOutB P=true):∀ {ts:List TypeId} {vs:List Value} {ds:List (DataW H)} {ps:List MemPlace},
  (ts.all fun t=>P.readableRec t && decide (t < P.types.size))=true→DataW.TrodAll enc P W 0 (fun _=>true) true ts vs ds ps→(∀ x∈ps,x.block < W.heap.size)→∀ W',Below W.heap.size W W' →
  ∀ sp:Nat→Bool,(∀ x∈ps,sp x.block=true)→DataW.TrodAll enc P W' 0 sp true ts vs ds ps
 |
  [],vs,ds,ps,_,h,_,W',hb,sp,hsp=>by
  obtain ⟨rfl,rfl,rfl⟩:=trodAll_nil h;exact trodAll_mk0
 |
  t::ts,vs,ds,ps,hr,h,hlt,W',hb,sp,hsp=>by
  obtain ⟨v,vs',d,ds',p,q,rfl,rfl,rfl,h0,h1⟩:=trodAll_cons h;simp only [List.all_cons,Bool.and_eq_true,decide_eq_true_eq] at hr;exact trodAll_cons_mk (WideElems.Trod_stays hl hr.1.1 hr.1.2 h0 (fun x hx=>hb.same (hlt x (by simp [hx]))) (fun x hx=>hsp x (by simp [hx])))
   (Klz hl hr.2 h1 (fun x hx=>hlt x (by simp [hx])) W' hb sp (fun x hx=>hsp x (by simp [hx])))
end Go.Proofs.YtbbeiinofainlaaGreatDoor
namespace Go.Proofs.YtbbeiinofainlaaGreatDoor.Ab
section
open Go
section
variable {H : Type} {enc : TypeId × Value → H} {P : Program} {w : World} {base : Nat} {spare : Nat → Bool} {held : Bool} {tab : List (Option TI)} {ts : List Nat}
end
end
section
open Go
section
variable {α β : Type} [DecidableEq α]
def mget:List (α×β)→α→Option β
 | [],_=>none
 | (a,b)::l,k=>if a=k then some b else mget l k
def mput:List (α×β)→α→β→List (α×β)
 | [],k,v=>[(k,v)]
 | (a,b)::l,k,v=>if a=k then (k,v)::l else (a,b)::mput l k v
def mgetD (l:List (α×β))(k:α)(z:β):β:=(mget l k).getD z
def ffind:List α→α→List MapEntry→Nat→Option (Nat×Value)
 | a::ks,k,e::me,i=>if a=k then some (i,e.val) else ffind ks k me (i+1)
 | _,_,_,_=>none
end
structure KeyOK (P:Program) (kt:TypeId) {α:Type} [DecidableEq α] (f:α→Value):Prop where
 find:∀ (w:World) (k:α) (me:List MapEntry) (ks:List α),me.map (·.key)=ks.map f→(Instr.findKey kt (f k) me).run P w=.ok (ffind ks k me 0) w
 check:∀ (w:World) (e:Bool) (k:α),(Instr.checkKey e 10000 kt (f k)).run P w=.ok () w
 stays:∀ (w:World) (k:α),(Instr.keyThatStays (f k) (f k)).run P w=.ok (f k) w
theorem str_key {P:Program}{kt:TypeId}(h:P.underlying kt=some .string):KeyOK P kt (fun s:ByteArray=>Value.string s) where
 find w k me ks e:=by
  refine MapKept.run_findKey h ?_;have:∀ (ks:List ByteArray) (me:List MapEntry) (i:Nat),me.map (·.key)=ks.map (fun s=>Value.string s)→Instr.findNow .string (.string k) me i=some (ffind ks k me i):=by
   intro ks;induction ks with
   | nil=>intro me i e;simp at e;subst e;rfl
   |
    cons a ks ih=>
    intro me i e;cases me with
    | nil=>cases e
    |
     cons m me=>
     simp only [List.map_cons,List.cons.injEq] at e;have hb:(k==a)=decide (a=k):=by
      by_cases q:a=k
      ·subst q;rw [decide_eq_true rfl];exact (MapKept.bytes_beq _ _).2 rfl
      rw [decide_eq_false q];cases hq:k==a with
      | false=>rfl
      | true=>exact absurd ((MapKept.bytes_beq _ _).1 hq).symm q
     unfold Instr.findNow ffind;rw [e.1];simp only [Instr.sameNow,hb];by_cases q:a=k
     ·rw [decide_eq_true q,if_pos q]
     rw [decide_eq_false q,if_neg q];exact ih me (i+1) e.2
  exact this ks me 0 e
 check w e k:=by
  have:=MapKept.run_checkKey (w:=w) h (k:=.string k) (by simp [MapKept.IsKey]) e 9999;exact this
 stays w k:=MapKept.run_keyThatStays (d:=.string) (by simp [MapKept.IsKey])
section
variable {α β : Type} [DecidableEq α] {f : α → Value} {e : β → D} {H : Hp}
theorem KjM:∀ {l:List (α×β)} {me:List MapEntry},MapR H (l.map fun p=>(f p.1,e p.2)) me→me.map (·.key)=(l.map (·.1)).map f
 | [],me,h=>by simp [MapR] at h;subst h;rfl
 |
  p::l,me,h=>by
  simp only [List.map_cons,MapR] at h;obtain ⟨m,me',rfl,h1,_,h2⟩:=h;simp only [List.map_cons,h1,KjM h2]
theorem KjN (k:α):∀ {l:List (α×β)} {me:List MapEntry} (i:Nat),MapR H (l.map fun p=>(f p.1,e p.2)) me →
  (mget l k=none∧ffind (l.map (·.1)) k me i=none∧∀ (v:β) (y:Value) (b:Nat),Rep H (e v) y→MapR H ((mput l k v).map fun p=>(f p.1,e p.2)) (me++[⟨f k,y,b⟩])) ∨
  ∃ j b m,mget l k=some b∧ffind (l.map (·.1)) k me i=some (i+j,m.val)∧Rep H (e b) m.val∧me[j]? = some m∧m.key=f k∧∀ (v:β) (y:Value),Rep H (e v) y→MapR H ((mput l k v).map fun p=>(f p.1,e p.2)) (me.modify j fun x=>{ x with key:=f k,val:=y })
 |
  [],me,i,h=>by
  simp [MapR] at h;subst h;refine .inl ⟨rfl,rfl,fun v y b hy=>?_⟩;simp only [mput,List.map_cons,List.map_nil,MapR,List.nil_append];exact ⟨_,_,rfl,rfl,hy,rfl⟩
 |
  p::l,me,i,h=>by
  simp only [List.map_cons,MapR] at h;obtain ⟨m,me',rfl,h1,h2,d⟩:=h;by_cases q:p.1=k
  ·refine .inr ⟨0,p.2,m,by unfold mget;rw [if_pos q],by simp only [List.map_cons,ffind];rw [if_pos q];rfl,h2,rfl,by rw [h1,q],fun v y hy=>?_⟩;simp only [mput,if_pos q,List.map_cons,MapR,List.modify_zero_cons];exact ⟨_,_,rfl,rfl,hy,d⟩
  rcases KjN k (i+1) d with ⟨g1,a,c⟩|⟨j,b,m',g1,a,c,g,n,r⟩
  ·refine .inl ⟨by unfold mget;rw [if_neg q];exact g1,by simp only [List.map_cons,ffind];rw [if_neg q];exact a,fun v y b hy=>?_⟩;simp only [mput,if_neg q,List.map_cons,MapR,List.cons_append];exact ⟨_,_,rfl,h1,h2,c v y b hy⟩
  refine .inr ⟨j+1,b,m',by unfold mget;rw [if_neg q];exact g1,by simp only [List.map_cons,ffind];rw [if_neg q,a];congr 2;omega,c,by simpa using g,n,fun v y hy=>?_⟩;simp only [mput,if_neg q,List.map_cons,MapR,List.modify_succ_cons];exact ⟨_,_,rfl,h1,h2,r v y hy⟩
end
theorem Core.allocMap {C:Ctx}{H:Hp}{h:List (Nat×Blk)}{k:List (Nat×Value)}{w:World}(c:Core C H h k w) :
  Core C H ((w.heap.size,.mp [])::h) k (w.alloc (.map #[] 0)):=by
 have c0:Core ⟨H,w,[]⟩ H [(w.heap.size,.mp [])] [] (w.alloc (.map #[] 0)):=by
  refine ⟨c.ag.alloc _,Hp.le_refl H,fun _ _ x=>.inl x,fun b hb _=>?_,?_,?_,by simp,?_,?_,⟨rfl,rfl,rfl,Nat.le_refl _⟩⟩
  ·rw [Kbz,if_neg (by exact Nat.ne_of_lt hb)]
  ·rw [Kf9];exact Nat.le_succ _
  ·intro p hp;simp only [List.mem_singleton] at hp;subst hp;refine ⟨#[],0,by rw [Kbz,if_pos rfl],rfl,fun o=>?_⟩;cases e:H ⟨w.heap.size,o,none⟩ with
   | none=>rfl
   | some v=>exact absurd (c.ag.lt e) (Nat.lt_irrefl _)
  ·simp [KP,K0]
  intro b hb;simp [KP,K0] at hb;subst hb;exact .inr (Nat.le_refl _)
 exact Core.call (h1:=[]) (k1:=[]) (h2:=h) (k2:=k) c c0
theorem Core.setMap {C:Ctx}{H:Hp}{h:List (Nat×Blk)}{k:List (Nat×Value)}{w:World}(c:Core C H h k w){j b:Nat}{es es':List (Value×D)}{me:Array MapEntry}{ck:Nat}(hj:h[j]? = some (b,.mp es))
  (hr:MapR H es' me.toList):Core C H (h.set j (b,.mp es')) k { w with heap:=w.heap.setIfInBounds b (.map me ck) }:=by
 have hlt:j < h.length:=(List.getElem?_eq_some_iff.1 hj).1;have l:h.Perm ([(b,.mp es)]++h.eraseIdx j):=KZ hj;have c1:=c.perm l (List.Perm.refl k);obtain ⟨q,r,h1,h2,d⟩:=c.blks _ (List.mem_of_getElem? hj);have hs:=MapKept.heap_set (w:=w) (o':=.map me ck) h1;have c2:Core ⟨H,w,KP [(b,Blk.mp es)] []⟩ H [(b,.mp es')] [] { w with heap:=w.heap.setIfInBounds b (.map me ck) }:=by
  refine ⟨⟨fun a v e=>?_,c.ag.gg.own d hs.2⟩,Hp.le_refl H,fun _ _ x=>.inl x,fun i _ m=>hs.2 i (by simpa [KP,K0] using m),by simp,?_,by simp,by simp [KP,K0],?_,⟨rfl,rfl,rfl,Nat.le_refl _⟩⟩
  ·have hne:a.block ≠ b:=fun g=>by
    obtain ⟨ab,ao,n⟩:=a;simp only at g;subst g;have hc:=c.ag _ _ e;cases n with
    | none=>rw [d] at e;cases e
    | some s=>simp [World.cell?,h1] at hc
   have:=c.ag a v e;simp only [World.cell?] at this ⊢;rw [hs.2 _ hne];exact this
  ·intro p hp;simp only [List.mem_singleton] at hp;subst hp;exact ⟨me,ck,hs.1,hr,d⟩
  intro x hx;exact .inl (by simpa [KP,K0] using hx)
 have c3:=Core.call (h1:=[(b,.mp es)]) (k1:=[]) (h2:=h.eraseIdx j) (k2:=k) (by simpa using c1) c2;refine c3.perm ?_ (by simp);have p2:(h.set j (b,Blk.mp es'))[j]? = some (b,Blk.mp es'):=by rw [List.getElem?_set_self hlt]
 have p3:=KZ p2;rw [List.eraseIdx_set_eq] at p3;exact p3.symm
section
variable {P : Program} {C : Ctx} {N : Nat} {ops rest : List Oper} {o : Oper} {t : List (Nat × D)} {h : List (Nat × Blk)} {k : List (Nat × Value)} {Q : Exit → S → Prop} {tab : List (Option TI)}
theorem KlA {i:Nat}{T:TypeId}(ho:o.op=.makeMap T none)(hw:wantD ops t o=some true)(hd:o.dst=some i)(hi:Nat.blt i N=true)
  (g:∀ b:Nat,opsD P C N ops rest ⟨(i,.v (.map (some b)))::t,(b,.mp [])::h,k⟩ Q):opsD P C N ops (o::rest) ⟨t,h,k⟩ Q:=
 Kb4 (s:=⟨t,h,k⟩) hw hd hi fun H a w c kt=>by
  refine ⟨.map (some w.heap.size),_,H,.v (.map (some w.heap.size)),_,k,?_,Hp.le_refl H,c.allocMap,rep_v rfl,g w.heap.size⟩;unfold execOp;rw [ho];refine Kbb ?_;rfl
theorem run_zv {w:World}{t:TypeId}{z:Value}(h:(P.info? t).bind (·.zero)=some z):(Go.zeroValue t).run P w=.ok z w:=by
 cases hi:P.info? t with
 | none=>rw [hi] at h;cases h
 |
  some i=>
  rw [hi] at h;have ht:(Go.typeInfo t).run P w=.ok i w:=by
   unfold Go.typeInfo Go.program;rw [Kw (a:=P) rfl,hi];rfl
  unfold Go.zeroValue;rw [Kw ht];simp only [Option.bind_some] at h;rw [h];rfl
section
variable {α β : Type} [DecidableEq α] {f : α → Value} {e : β → D}
theorem KgE {i b kt et:Nat}{T:TypeId}{x ix:Operand}{l:List (α×β)}{es:List (Value×D)}{kk:α}{dk dr:D}{z:β}{zv:Value}{q:TI}(j:Nat)(hT:TabOK P tab)(ho:o.op=.lookup T x ix false)(hw:wantD ops t o=some true)(hd:o.dst=some i)(hi:Nat.blt i N=true)
  (hx:opD t x=some (.v (.map (some b)))) (hj:h[j]? = some (b,.mp es)) (hes:es=l.map fun p=>(f p.1,e p.2)) (hix:opD t ix=some dk) (hti:ti tab T=some q) (hs:q.d=.map kt et) (K:KeyOK P kt f) (hk:∀ H v,Rep H dk v→v=f kk)
  (hz:(P.info? et).bind (·.zero)=some zv) (hzr:∀ H,Rep H (e z) zv) (hr:dr=e (mgetD l kk z))
  (g:opsD P C N ops rest ⟨(i,dr)::t,h,k⟩ Q):opsD P C N ops (o::rest) ⟨t,h,k⟩ Q:=
 Kb4 (s:=⟨t,h,k⟩) hw hd hi fun H a w core kt'=>by
  subst hes;subst hr;obtain ⟨dd,h1,h2⟩:=Kak (w:=w) (ti_ok hT hti);have:=td_map (h2.trans hs);subst this;obtain ⟨me,ck,g1,r,B⟩:=core.blks _ (List.mem_of_getElem? hj);have hkv:=hk H _ (Kae kt' hix);have hfk:=K.find w kk me.toList (l.map (·.1)) (KjM r);have key:∃ v,(Instr.lookup T (a.eval x) (a.eval ix) false).run P w=.ok v w∧Rep H (e (mgetD l kk z)) v:=by
   rw [hkv,KW (Kae kt' hx)];unfold Instr.lookup mgetD;rcases KjN kk 0 r with ⟨c,n,_⟩|⟨j',b',m,c,n,u,_⟩
   ·refine ⟨zv,?_,by rw [c];exact hzr H⟩;rw [n] at hfk;simp only [Kcz,h1,Result.andThen,MapKept.run_getObj_map g1,KcG,K.check,hfk,run_zv hz];simp
   refine ⟨m.val,?_,by rw [c];exact u⟩;rw [n] at hfk;simp only [Kcz,h1,Result.andThen,MapKept.run_getObj_map g1,KcG,K.check,hfk];simp
  obtain ⟨v,y,A⟩:=key;refine ⟨v,w,H,_,h,k,?_,Hp.le_refl H,core,A,g⟩;unfold execOp;rw [ho];exact Kbb y
theorem Kia {b kt et:Nat}{T:TypeId}{x ix y:Operand}{l:List (α×β)}{es:List (Value×D)}{h':List (Nat×Blk)}{kk:α}{vv:β}{dk dv:D}{i:TI}(j:Nat)(hT:TabOK P tab)(ho:o.op=.mapUpdate T x ix y)(hw:wantD ops t o=some true)(hd:o.dst=none)
  (hx:opD t x=some (.v (.map (some b)))) (hj:h[j]? = some (b,.mp es)) (hes:es=l.map fun p=>(f p.1,e p.2)) (hix:opD t ix=some dk) (hy:opD t y=some dv) (hti:ti tab T=some i) (hs:i.d=.map kt et) (K:KeyOK P kt f) (hk:∀ H v,Rep H dk v→v=f kk) (hv:Wk dv (e vv))
  (he:h.set j (b,.mp ((mput l kk vv).map fun p=>(f p.1,e p.2)))=h')
  (g:opsD P C N ops rest ⟨t,h',k⟩ Q):opsD P C N ops (o::rest) ⟨t,h,k⟩ Q:=
 Kko (s:=⟨t,h,k⟩) hw hd fun H a w core kt'=>by
  subst hes;subst he;obtain ⟨dd,h1,h2⟩:=Kak (w:=w) (ti_ok hT hti);have:=td_map (h2.trans hs);subst this;obtain ⟨me,ck,g1,n,G⟩:=core.blks _ (List.mem_of_getElem? hj);have hkv:=hk H _ (Kae kt' hix);have hfk:=K.find w kk me.toList (l.map (·.1)) (KjM n);have hyv:Rep H (e vv) (a.eval y):=hv H _ (Kae kt' hy);have key:∃ me' ck',(Instr.mapUpdate T (a.eval x) (a.eval ix) (a.eval y)).run P w=.ok () { w with heap:=w.heap.setIfInBounds b (.map me' ck') }∧MapR H ((mput l kk vv).map fun p=>(f p.1,e p.2)) me'.toList:=by
   rw [hkv,KW (Kae kt' hx)];unfold Instr.mapUpdate;rcases KjN kk 0 n with ⟨r,c,q⟩|⟨j',b',m,r,c,q,u,z,A⟩
   ·refine ⟨me.push ⟨f kk,a.eval y,ck⟩,ck+1,?_,by rw [Array.toList_push];exact q vv _ ck hyv⟩;rw [c] at hfk;simp only [Kcz,h1,Result.andThen,MapKept.run_getObj_map g1,KcG,K.check,hfk,MapKept.run_setObj_map _ g1]
   refine ⟨me.modify j' fun x=>{ x with key:=f kk,val:=a.eval y },ck,?_,by rw [Array.toList_modify];exact A vv _ hyv⟩;rw [c] at hfk;have B:me[j']? = some m:=by rw [← Array.getElem?_toList];exact u
   rw [Nat.zero_add] at hfk;simp only [Kcz,h1,Result.andThen,MapKept.run_getObj_map g1,KcG,K.check,hfk,B,Option.map_some,Option.getD_some,z,K.stays,MapKept.run_setObj_map _ g1]
  obtain ⟨me',ck',E,F⟩:=key;refine ⟨_,H,_,k,?_,Hp.le_refl H,core.setMap (ck:=ck') hj F,g⟩;unfold execOp;rw [ho];show ((Instr.mapUpdate T (a.eval x) (a.eval ix) (a.eval y)) >>= fun _=>pure Next.skip).run P w=_
  rw [Kw E];rfl
end
end
end
section
open Go Go.RowKit Go.Proofs
def zc (pe:Int×Int):List PanicEntry:=[{ v:=.iface 147 (.agg #[.int .i64 pe.1,.int .i64 pe.2]),recovered:=false }]
def KbL (a0 a:Int):Option ((Int×Int)⊕Unit):=some (.inl (a0,a))
theorem Za {G:Prop}(k:G:=by exact ⟨rfl,rfl,rfl⟩):G:=k
theorem Kbn (a0 a:Int)(r:(Int×Int)⊕Unit)(h0:KbL a0 a=some r):KbV zc Tryz.prog 102 [.v (.int .i64 a0),.v (.int .i64 a)] [] [] r (fun r d h k=>d=.tup []∧h=[]∧k=[]):=by
 cases h0;refine ⟨⟨_,Tryz.func102,rfl,rfl⟩,fun H w vs hv hA _ _ _=>?_⟩;simp only [RepsV] at hv;obtain ⟨c,_,rfl,g1,f,_,rfl,b,rfl⟩:=hv;obtain rfl:=KW g1;obtain rfl:=KW b;suffices hs:Calls Tryz.prog 102 #[.int .i64 a0,.int .i64 a] w fun e w'=>e=.panicked (zc (a0,a))∧w'=w from
  hs.mono fun e w' ⟨he,hb⟩=>⟨he,H,by subst hb;exact KeR hA (Below.refl _ _)⟩
 go_enter Tryz.func102,Tryz.ntmps102
 go_wp2_with fail
 exact Za
end
end Go.Proofs.YtbbeiinofainlaaGreatDoor.Ab
namespace Go.Proofs.YtbbeiinofainlaaGreatDoor.Jz
open Go Jx
def Gives (Zp:List PanicEntry→World→Prop)(P:Program)(o:Oper)(a:Act)(w:World)(K:Value→World→Prop):Prop:=
 match (execOp a.eval o).run P w with
 | .ok (.value v) w'=>K v w'
 | .ok .skip w'=>K undef w'
 | .ok (.enter f args) w'=>Calls P f args w' fun e w''=>(∃ v,e=.returned v∧K v w'')∨∃ c,e=.panicked c∧Zp c w''
 | _=>False
theorem Gives.mono {Zp:List PanicEntry→World→Prop}{P:Program}{o:Oper}{a:Act}{w:World}{K K':Value→World→Prop}(hk:∀ v w',K v w'→K' v w')(h:Gives Zp P o a w K):Gives Zp P o a w K':=by
 unfold Gives at *;split at h
 ·exact hk _ _ h
 ·exact hk _ _ h
 ·exact h.mono fun e w'' hh=>hh.imp (fun ⟨v,he,hv⟩=>⟨v,he,hk _ _ hv⟩) id
 exact h.elim
theorem Gives.wp {Zp:List PanicEntry→World→Prop}{P:Program}{o:Oper}{a:Act}{w:World}{K:Act→World→Prop}{Q:Exit→Act→World→Prop}(hZ:∀ c w,Zp c w→Q (.panic c) a w)(h:Gives Zp P o a w fun v w'=>K (a.put o.dst v) w'):o.wp P a w K Q:=by
 unfold Gives at h;unfold Oper.wp;generalize (execOp a.eval o).run P w=r at *;cases r with
 |
  ok n w'=>
  cases n<;>simp only [Oper.upon] at h ⊢;case value u=>exact h
  case skip=>exact h
  case enter f args=>exact h.mono fun e w'' hh=>by rcases hh with ⟨v,he,hv⟩|⟨c,he,hz⟩<;>subst he<;>first|exact hv|exact hZ _ _ hz
 | halt x w'=>simp only at h
theorem Gives.congr {Zp:List PanicEntry→World→Prop}{P:Program}{o:Oper}{a a':Act}{w:World}{K:Value→World→Prop}(he:execOp a'.eval o=execOp a.eval o)(h:Gives Zp P o a w K):Gives Zp P o a' w K:=by
 unfold Gives at *;rw [he];exact h
theorem Gives.of {Zp:List PanicEntry→World→Prop}{P:Program}{o:Oper}{a:Act}{w:World}{K:Value→World→Prop}(h:Jx.Gives P o a w K):Gives Zp P o a w K:=by
 unfold Jx.Gives at h;unfold Gives;split at h
 ·simp only [*]
 ·simp only [*]
 ·rename_i hr;rw [hr];exact h.mono fun e w'' hh=>.inl hh
 exact h.elim
section
variable (Zp : List PanicEntry → World → Prop) (P : Program) (ops : Array Oper) (C : (Nat → Bool) → (Nat → Value) → World → Prop) (pre : Nat → List Nat) (ev : Nat → Bool)
def OK (vals:Nat→Value)(i:Nat)(o:Oper)(a:Act)(out:Value):Prop:=
 if Region.wanted o (yielded ops a.tmps)=true then
  if ev i=true then out=vals i∧∀ S w,C S vals w→S i=false→(∀ k∈pre i,S k=true)→Gives Zp P o a w fun v w'=>C (upd S i true) (upd vals i v) w'
  else ∀ S w,C S vals w→(∀ k∈pre i,S k=true)→(execOp a.eval o).run P w=.ok (.value out) w
 else out=undef∧(ev i=true→∀ S w,C S vals w→S i=false→C (upd S i true) (upd vals i undef) w)
def Lx (vals:Nat→Value)(fin:Act→Prop):Nat→List Oper→Act→Prop
 | _,[],a=>fin a
 | i,o::rest,a=>∃ out,OK Zp P ops C pre ev vals i o a out∧Lx vals fin (i+1) rest (a.put o.dst out)
end
theorem KkA {ops:Array Oper}{a0:Act}{out:Nat→Value}{S:Nat→Bool}:∀ k,(frS ops a0 out S k).tmps.size=a0.tmps.size∧(frS ops a0 out S k).defers=a0.defers
 | 0=>⟨rfl,rfl⟩
 |
  k+1=>by
  have ih:=KkA (ops:=ops) (a0:=a0) (out:=out) (S:=S) k;simp only [frS];split
  ·split
   ·rename_i o _ _;cases hd:o.dst with
    | none=>exact ih
    | some d=>exact ⟨by simp only [Act.put,Array.size_setIfInBounds];exact ih.1,ih.2⟩
   exact ih
  exact ih
section
variable {Zp : List PanicEntry → World → Prop} {P : Program} {ops : Array Oper} {Q : Exit → Act → World → Prop} {C : (Nat → Bool) → (Nat → Value) → World → Prop} {pre : Nat → List Nat} {ev : Nat → Bool} {a0 : Act}
theorem lx_good {vals:Nat→Value}{fin:Act→Prop}{l1:List Oper}{m:Nat}(c:∀ j,j < m→l1[j]? = ops[j]?)(d:l1.length=m)(h:Lx Zp P ops C pre ev vals fin 0 l1 a0) :
  ∃ out,(∀ j o,j < m→ops[j]? = some o→OK Zp P ops C pre ev vals j o (fr ops a0 out j) (out j))∧fin (fr ops a0 out m):=by
 have key:∀ (l:List Oper) (i:Nat) (a:Nat→Value),(∀ j,i+j < i+l.length→l[j]? = ops[i+j]?)→Lx Zp P ops C pre ev vals fin i l (fr ops a0 a i) →
   ∃ out,(∀ k,k < i→out k=a k)∧(∀ j o,i≤j→j < i+l.length→ops[j]? = some o→OK Zp P ops C pre ev vals j o (fr ops a0 out j) (out j))∧fin (fr ops a0 out (i+l.length)):=by
  intro l;induction l with
  | nil=>intro i a _ h;exact ⟨a,fun _ _=>rfl,fun j o hj hj' _=>by simp at hj';omega,h⟩
  |
   cons o l ih=>
   intro i a hl h;obtain ⟨v,hv,hr⟩:=h;have h0:ops[i]? = some o:=by simpa using (hl 0 (by simp)).symm
   have e:fr ops a0 (upd a i v) i=fr ops a0 a i:=Khk i fun j hj=>upd_ne _ _ (by omega)
   have f:fr ops a0 (upd a i v) (i+1)=(fr ops a0 a i).put o.dst v:=by simp only [fr,h0];rw [e,upd_same]
   obtain ⟨out,g1,g,n⟩:=ih (i+1) (upd a i v) (fun j hj=>by have:=hl (j+1) (by simp;omega);simpa [Nat.add_assoc,Nat.add_comm 1 j] using this) (by rw [f];exact hr);refine ⟨out,fun k hk=>by rw [g1 k (by omega),upd_ne _ _ (by omega)],fun j o' hj hj' ho'=>?_,?_⟩
   ·by_cases hji:j=i
    ·subst hji;rw [h0] at ho';cases ho';have p:fr ops a0 out j=fr ops a0 a j:=Khk j fun k hk=>by rw [g1 k (by omega),upd_ne _ _ (by omega)]
     rw [p,g1 j (by omega),upd_same];exact hv
    exact g j o' (by omega) (by simp at hj';omega) ho'
   rw [show i+(o::l).length=i+1+l.length from by simp;omega];exact n
 obtain ⟨out,_,h2,b⟩:=key l1 0 (fun _=>undef) (fun j hj=>by rw [Nat.zero_add];exact c j (by omega)) h;rw [Nat.zero_add,d] at b;exact ⟨out,fun j o hj ho=>h2 j o (Nat.zero_le _) (by omega) ho,b⟩
theorem out_same (hsl:slotsB ops=true)(hp:preB ops pre=true){S:Nat→Bool}(hc:Key ops S){T:Nat→Bool}(hT:∀ k,T k=(S k && ev k))(hpe:∀ i,∀ k∈pre i,ev k=true)
  {vals vals' out out':Nat→Value} {w:World}
  {m:Nat} (ok:∀ j o,j < m→ops[j]? = some o→OK Zp P ops C pre ev vals j o (fr ops a0 out j) (out j)) (ok':∀ j o,j < m→ops[j]? = some o→OK Zp P ops C pre ev vals' j o (fr ops a0 out' j) (out' j))
  (hv:∀ e,T e=true→vals e=vals' e) (hC:C T vals w) (hC':C T vals' w):∀ k,k < m→∀ o,ops[k]? = some o→S k=true→out k=out' k:=by
 intro k;induction k using Nat.strongRecOn with
 |
  _ k ih=>
  intro hkm o ho hk;have hal:∀ m,m≤k→∀ t∈o.looksAt ops,(fr ops a0 out m).tmps[t]? = (fr ops a0 out' m).tmps[t]?:=by
   intro m;induction m with
   | zero=>intro _ t _;rfl
   |
    succ m ihm=>
    intro c t ht;have ih':=ihm (by omega) t ht;simp only [fr];cases hom:ops[m]? with
    | none=>exact ih'
    |
     some om=>
     simp only;by_cases hd:om.dst=some t
     ·rcases Kf6 hsl ho hom (by omega) with ⟨e,he,hb,hon⟩|hap
      ·have hSm:S m=true:=hon ▸ hc k o ho hk e he hb;rw [ih m (by omega) (by omega) om hom hSm];exact Kg0 _ _ _ _ _ ih'
      rw [KeY hd ht] at hap;cases hap
     rw [KfK _ _ _ _ hd,KfK _ _ _ _ hd];exact ih'
  have hal':alike ops o (fr ops a0 out k) (fr ops a0 out' k):=hal k (Nat.le_refl _);have h1:=ok k o hkm ho;have h2:=ok' k o hkm ho;have hns:∀ cs x,o.op ≠ .select cs x:=by
   simp only [slotsB,Bool.and_eq_true] at hsl;exact fun cs x=>Region.noSelect_spec hsl.1 k o cs x ho
  unfold OK at h1 h2;rw [← Kex hal'] at h2;by_cases hw:Region.wanted o (yielded ops (fr ops a0 out k).tmps)=true
  ·rw [if_pos hw] at h1 h2;by_cases he:ev k=true
   ·rw [if_pos he] at h1 h2;rw [h1.1,h2.1];exact hv k (by rw [hT,hk,he];rfl)
   rw [if_neg he] at h1 h2;have hpk:∀ x∈pre k,T x=true:=fun x hx=>by
    rw [hT,Kf7 hp hsl hc k o ho (fun e he' hb=>hc k o ho hk e he' hb) x hx,hpe k x hx];rfl
   have b:=h1 T w hC hpk;have a:=h2 T w hC' hpk;rw [← Kff hns hal'] at a;rw [b] at a;simpa using a
  rw [if_neg hw] at h1 h2;rw [h1.1,h2.1]
theorem any_all (hZ:∀ c a w,a.tmps.size=a0.tmps.size→a.defers=a0.defers→Zp c w→Q (.panic c) a w)(hsl:slotsB ops=true)(hp:preB ops pre=true)(hpe:∀ i,∀ k∈pre i,ev k=true){tp:List (List Nat)}{m:Nat}{l1 l2:List Oper}(hops:ops.toList=l1++l2)(f:l1.length=m)(hevm:∀ i,ev i=true→i < m)(hsuf:sufB ops tp m=true)
  (hloc:∀ S vals vals' w,(∀ e,S e=true→vals e=vals' e)→C S vals w→C S vals' w)
  (hwalk:∀ vals,Lx Zp P ops C pre ev vals (fun a=>∀ S w,(∀ i,ev i=true→S i=true)→C S vals w→wpList P ops Q l2 a w) 0 l1 a0) :
  ∀
   (fuel:Nat) (listed:Array Bool) (w:World) (vals out:Nat→Value),listed.size=ops.size →
   (∀ j o,j < m→ops[j]? = some o→OK Zp P ops C pre ev vals j o (fr ops a0 out j) (out j)) →
   (∀ S w,(∀ i,ev i=true→S i=true)→C S vals w→wpList P ops Q l2 (fr ops a0 out m) w) →
   (∀ j,m≤j→listed.getD j false=false)→Key ops (fun i=>listed.getD i false) →
   C (fun i=>listed.getD i false && ev i) vals w →
   (listed.toList.countP (fun b=>!b))≤fuel →
   wpAny P .any ops Q fuel listed (frS ops a0 out (fun i=>listed.getD i false) m) w:=by
 intro fuel;have r:∀ j,j < m→l1[j]? = ops[j]?:=fun j hj=>by
  rw [← Array.getElem?_toList,hops,List.getElem?_append_left (by omega)]
 have s:∀ j,l2[j]? = ops[m+j]?:=fun j=>by
  rw [← Array.getElem?_toList,hops,List.getElem?_append_right (by omega),f];congr 1;omega
 have hmn:m+l2.length=ops.size:=by rw [← Array.length_toList,hops,List.length_append,f]
 have fin:∀ (fuel:Nat) (listed:Array Bool) (w:World) (vals out:Nat→Value),listed.size=ops.size →
   (∀ S w,(∀ i,ev i=true→S i=true)→C S vals w→wpList P ops Q l2 (fr ops a0 out m) w) →
   C (fun i=>listed.getD i false && ev i) vals w→(∀ j,j < m→listed.getD j false=true)→(∀ j,m≤j→listed.getD j false=false)→Key ops (fun i=>listed.getD i false)→l2.length≤fuel →
   wpAny P .any ops Q fuel listed (frS ops a0 out (fun i=>listed.getD i false) m) w:=by
  intro fuel listed w vals out hsz hfin hC hlo hhi hcl hf;rw [frS_all m hlo];exact seq_any hsl hsuf l2 m fuel listed _ w (Nat.le_refl _) hsz s (fun j hj _=>hlo j hj) hhi hcl hf (hfin _ w (fun i he=>by rw [hlo i (hevm i he),he];rfl) hC)
 have hcnt:∀ (listed:Array Bool),listed.size=ops.size→(∀ j,m≤j→listed.getD j false=false)→l2.length≤listed.toList.countP (fun b=>!b):=by
  intro listed hsz hhi;have h1:listed.toList=listed.toList.take m++listed.toList.drop m:=(List.take_append_drop m _).symm;rw [h1,List.countP_append];have h2:(listed.toList.drop m).countP (fun b=>!b)=(listed.toList.drop m).length:=by
   rw [List.countP_eq_length];intro b hb;obtain ⟨k,hk,rfl⟩:=List.mem_iff_getElem.1 hb;have:=hhi (m+k) (by omega);have hk':m+k < listed.size:=by simp at hk;omega
   simp [hk'] at this;simp [this]
  rw [h2];simp;omega
 induction fuel with
 |
  zero=>
  intro listed w vals out hsz hok hfin hhi hcl hC hcount;have B:=hcnt listed hsz hhi;refine fin 0 listed w vals out hsz hfin hC (fun j hj=>?_) hhi hcl (by omega);have h1:listed.toList.countP (fun b=>!b)=0:=by omega
  rw [List.countP_eq_zero] at h1;have h':j < listed.size:=by omega
  have:=h1 listed[j] (by simp);simp [h'];simpa using this
 |
  succ fuel ih=>
  intro listed w vals out hsz hok hfin hhi hcl hC hcount;by_cases hall:∀ j,j < m→listed.getD j false=true
  ·exact fin (fuel+1) listed w vals out hsz hfin hC hall hhi hcl (by have:=hcnt listed hsz hhi;omega)
  refine ⟨fun hr=>absurd (fun j hj=>KjE hsl hsz hr j (by omega)) hall,fun i hi=>?_⟩;obtain ⟨hun,o,ho,hdeps⟩:=mem_ready.1 hi;have him:i < m:=by
   rcases Nat.lt_or_ge i m with h|h
   ·exact h
   exact absurd (fun j hj=>Kkn hsl hsuf hcl ho h hdeps j (by omega)) hall
  have hhi':∀ j,m≤j→(listed.setIfInBounds i true).getD j false=false:=fun j hj=>by rw [getD_set_ne false (by omega)];exact hhi j hj
  have hil:i < listed.size:=by rw [hsz];exact (Array.getElem?_eq_some_iff.1 ho).1
  have hun':listed.getD i false=false:=by simp [hil] at hun ⊢;exact hun
  have hal:=KeQ (a0:=a0) (out:=out) hsl hcl ho hun' hdeps m (by omega);have hns:∀ cs x,o.op ≠ .select cs x:=by
   have:=hsl;simp only [slotsB,Bool.and_eq_true] at this;exact fun cs x=>Region.noSelect_spec this.1 i o cs x ho
  have hcl':Key ops (fun j=>(listed.setIfInBounds i true).getD j false):=by
   have hpt:∀ j,(listed.setIfInBounds i true).getD j false=upd (fun j=>listed.getD j false) i true j:=fun j=>congrFun (KfC hil) j
   intro j oj hoj hj e he hb;show (listed.setIfInBounds i true).getD e.on false=true
   have hj':(listed.setIfInBounds i true).getD j false=true:=hj;rw [hpt] at hj' ⊢;by_cases hei:e.on=i
   ·rw [hei,upd_same]
   rw [upd_ne _ _ hei];by_cases hji:j=i
   ·subst hji;rw [ho] at hoj;cases hoj;exact hdeps e he hb
   rw [upd_ne _ _ hji] at hj';exact hcl j oj hoj hj' e he hb
  have hcount':(listed.setIfInBounds i true).toList.countP (fun b=>!b)≤fuel:=by
   have h1:(listed.setIfInBounds i true).toList=listed.toList.set i true:=by simp
   have h2:listed[i]=false:=by simp [hil] at hun;exact hun
   have g:i < listed.toList.length:=by simpa using hil
   have l:listed.toList[i]=false:=by simpa using h2
   have D:0 < listed.toList.countP (fun b=>!b):=List.countP_pos_iff.2 ⟨false,by rw [← l];exact List.getElem_mem g,rfl⟩;have n:=List.countP_set (p:=fun b=>!b) (a:=true) g;simp only [l,Bool.not_false,Bool.not_true,if_true,Bool.false_eq_true,if_false] at n;rw [h1,n];omega
  have hpre:=Kf7 hp hsl hcl i o ho hdeps;have hpre':∀ k∈pre i,(listed.getD k false && ev k)=true:=fun k hk=>by rw [hpre k hk,hpe i k hk];rfl
  have hput:∀ out',(∀ j,j < m→listed.getD j false=true→out j=out' j)→(frS ops a0 out (fun j=>listed.getD j false) m).put o.dst (out' i)=frS ops a0 out' (fun j=>(listed.setIfInBounds i true).getD j false) m:=by
   intro out' hout;rw [KfC hil,Klf hsl hcl ho hun' m,if_pos him,KgQ m hout]
  have hT:(fun j=>(listed.setIfInBounds i true).getD j false && ev j)=if ev i=true then upd (fun j=>listed.getD j false && ev j) i true else (fun j=>listed.getD j false && ev j):=by
   funext j;rw [show (listed.setIfInBounds i true).getD j false=upd (fun j=>listed.getD j false) i true j from congrFun (KfC hil) j];by_cases he:ev i=true
   ·rw [if_pos he];by_cases hji:j=i
    ·subst hji;simp [upd,he]
    rw [upd_ne _ _ hji,upd_ne _ _ hji]
   rw [if_neg he];by_cases hji:j=i
   ·subst hji;simp [he]
   rw [upd_ne _ _ hji]
  have hoki:=hok i o him ho;have again:∀ (v:Value) (w':World),ev i=true→C (upd (fun j=>listed.getD j false && ev j) i true) (upd vals i v) w'→(Region.wanted o (yielded ops (fr ops a0 out i).tmps)=true∨v=undef)→C (fun j=>listed.getD j false && ev j) vals w →
    wpAny P .any ops Q fuel (listed.setIfInBounds i true) ((frS ops a0 out (fun j=>listed.getD j false) m).put o.dst v) w':=by
   intro v w' he hC' hwv q;obtain ⟨out',hok',hfin'⟩:=lx_good r f (hwalk (upd vals i v));have hok'':=hok';have hsame:∀ e,(listed.getD e false && ev e)=true→vals e=upd vals i v e:=fun e h=>by
    rw [upd_ne];intro u;subst u;rw [hun'] at h;cases h
   have y:=hloc _ vals (upd vals i v) w hsame q;have houts:=out_same hsl hp hcl (T:=fun j=>listed.getD j false && ev j) (fun _=>rfl) hpe hok hok'' hsame q y;have houts':∀ j,j < m→listed.getD j false=true→out j=out' j:=fun j hj h=>houts j hj ops[j] (Array.getElem?_eq_getElem (by omega)) h
   have z:alike ops o (fr ops a0 out i) (fr ops a0 out' i):=by
    have h1:=KeQ (a0:=a0) (out:=out) hsl hcl ho hun' hdeps m (by omega);have h2:=KeQ (a0:=a0) (out:=out') hsl hcl ho hun' hdeps m (by omega);rw [KgQ m houts'] at h1;exact fun t ht=>(h1 t ht).symm.trans (h2 t ht)
   have d:=hok'' i o him ho;have houti:out' i=v:=by
    unfold OK at d;rw [← Kex z] at d;by_cases hw:Region.wanted o (yielded ops (fr ops a0 out i).tmps)=true
    ·rw [if_pos hw,if_pos he] at d;rw [d.1,upd_same]
    rw [if_neg hw] at d;rw [d.1];rcases hwv with h|h
    ·exact absurd h hw
    exact h.symm
   have hh:=ih (listed.setIfInBounds i true) w' (upd vals i v) out' (by simpa using hsz) hok'' hfin' hhi' hcl' (by rw [hT,if_pos he];exact hC') hcount';rw [← hput out' houts',houti] at hh;exact hh
  unfold wpOp;simp only [ho];rw [Kex hal];unfold OK at hoki;by_cases hw:Region.wanted o (yielded ops (fr ops a0 out i).tmps)=true
  ·rw [if_pos hw];rw [if_pos hw] at hoki;refine .inl ?_;by_cases he:ev i=true
   ·rw [if_pos he] at hoki;have hg:=hoki.2 _ w hC (by simp [hun']) hpre';have A:Gives Zp P o (frS ops a0 out (fun j=>listed.getD j false) m) w _:=Gives.congr (Kff hns hal) hg;exact Gives.wp (fun c w' hz=>hZ c _ w' (KkA m).1 (KkA m).2 hz) (A.mono fun v w' hC'=>again v w' he hC' (.inl hw) hC)
   rw [if_neg he] at hoki;have hr:=hoki _ w hC hpre';rw [← Kff hns hal] at hr;have hh:=ih (listed.setIfInBounds i true) w vals out (by simpa using hsz) hok hfin hhi' hcl' (by rw [hT,if_neg he];exact hC) hcount';rw [← hput out (fun _ _ _=>rfl)] at hh;unfold Oper.wp;rw [hr];exact hh
  rw [if_neg hw];rw [if_neg hw] at hoki;by_cases he:ev i=true
  ·have hC':=hoki.2 he _ w hC (by simp [hun']);exact again undef w he hC' (.inr rfl) hC
  have hh:=ih (listed.setIfInBounds i true) w vals out (by simpa using hsz) hok hfin hhi' hcl' (by rw [hT,if_neg he];exact hC) hcount';rw [← hput out (fun _ _ _=>rfl),hoki.1] at hh;exact hh
theorem region_any {id:Nat}{w:World}{l1 l2:List Oper}(C:(Nat→Bool)→(Nat→Value)→World→Prop)(pre:Nat→List Nat)(ev:Nat→Bool)(tp:List (List Nat))(hZ:∀ c a w,a.tmps.size=a0.tmps.size→a.defers=a0.defers→Zp c w→Q (.panic c) a w)(hfo:P.follows .mixedOrders=true)
  (hsl:slotsB (l1++l2).toArray=true) (hp:preB (l1++l2).toArray pre=true) (hpe:∀ i,∀ k∈pre i,ev k=true) (hevm:∀ i,ev i=true→i < l1.length) (hsuf:sufB (l1++l2).toArray tp l1.length=true)
  (hloc:∀ S vals vals' w,(∀ e,S e=true→vals e=vals' e)→C S vals w→C S vals' w)
  (h0:∀ vals,C (fun _=>false) vals { w with drawn:=w.drawn+1 })
  (hwalk:∀ vals,Lx Zp P (l1++l2).toArray C pre ev vals (fun a=>∀ S w,(∀ i,ev i=true→S i=true)→C S vals w→wpList P (l1++l2).toArray Q l2 a w) 0 l1 a0) :
  (Code.region id (l1++l2).toArray true).wp P Q a0 w:=by
 refine wp_region_any hfo ?_;have f:∀ j,j < l1.length→l1[j]? = (l1++l2).toArray[j]?:=fun j hj=>by simp [List.getElem?_append_left hj]
 obtain ⟨out,hok,hfin⟩:=lx_good f rfl (hwalk (fun _=>undef));generalize hN:(l1++l2).toArray.size=N;have hrep:(fun j=>(Array.replicate N false).getD j false)=fun _=>false:=by
  funext j;by_cases hj:j < N<;>simp [hj]
 have hrj:∀ j,(Array.replicate N false).getD j false=false:=fun j=>congrFun hrep j
 have h:=any_all (Q:=Q) (a0:=a0) hZ hsl hp hpe (by simp) rfl hevm hsuf hloc hwalk N (Array.replicate N false) { w with drawn:=w.drawn+1 } (fun _=>undef) out (by simp [← hN])
  hok hfin (fun j _=>hrj j) (by intro j o _ hj;have d:(Array.replicate N false).getD j false=true:=hj;rw [hrj] at d;cases d)
  (by
   have:(fun i=>(Array.replicate N false).getD i false && ev i)=fun _=>false:=by
    funext j;rw [hrj];rfl
   rw [this];exact h0 _)
  (by have:=List.countP_le_length (p:=fun b=>!b) (l:=(Array.replicate N false).toList);simpa using this)
 rw [hrep,Kkm _ (fun _ _=>rfl)] at h;exact h
end
end Go.Proofs.YtbbeiinofainlaaGreatDoor.Jz
namespace Go.Proofs.YtbbeiinofainlaaGreatDoor.Ab.Az
open Go Ab
section
variable {X : Type} (Zp : List PanicEntry → World → Prop) (P : Program) (C : Ctx) (N : Nat) (l : List Oper) (m : Nat) (De : Nat → D) (al : AL) (pre : List (List Nat)) (ev : List Nat) (v : Hx X) (h : List (Nat × Blk)) (k : List (Nat × Value)) (Q : Exit → S → Prop)
def Zx (bs:Nat→Nat)(i:Nat)(rest:List Oper)(te:TE):Prop:=
 ∀
  H0 vals a,(∀ e,bs e=blk (vals e))→TOKz De al ev H0 bs vals te a→a.tmps.size=N→a.defers=[] →
  Jz.Lx Zp P l.toArray (Cx C De al pre ev v h k H0) (fun i=>pre.getD i []) (fun i=>ev.contains i) vals (finX P C N l m De al pre ev v h k Q H0 vals) i rest a
end
section
variable {X : Type} {Zp : List PanicEntry → World → Prop} {P : Program} {C : Ctx} {N : Nat} {l : List Oper} {m : Nat} {De : Nat → D} {al : AL} {pre : List (List Nat)} {ev : List Nat} {v : Hx X} {h : List (Nat × Blk)} {k : List (Nat × Value)} {Q : Exit → S → Prop} {tab : List (Option TI)} {bs : Nat → Nat} {i : Nat} {o : Oper} {rest : List Oper} {te : TE}
theorem zx_nil {t':List (Nat×D)}(b:vis ev te=t')(hv:ev.contains v.e=true)(hal:∀ e,isAl al e=true→ev.contains e=true)(g:∀ x:X,v.G x→opsD P C N l (l.drop m) ⟨t',v.h1 x++al.map (fun x=>(bs x.1,Blk.cells x.2.1 x.2.2)),v.k1 x⟩ Q):Zx Zp P C N l m De al pre ev v h k Q bs i [] te:=by
 intro H0 vals a hbs kt hN hdf S w hS hC;obtain ⟨H,x,hG,hle,_,c,hev⟩:=hC;subst b;have hse:=hS _ hv;rw [hse] at c;simp only [cond_true] at c;refine g x (hG hse) a w ⟨H,?_,Kca hbs kt hle fun e _ he=>hev e (hS e he) he,hN,hdf⟩;rw [Kei fun e he=>hS e (hal e he)] at c;have:(fun x:Nat×List D×TypeId=>(bs x.1,Blk.cells x.2.1 x.2.2))=fun x=>(blk (vals x.1),Blk.cells x.2.1 x.2.2):=by funext x;rw [hbs]
 rw [this];exact c
theorem zx_q {j:Nat}{x:Value}{p:List Nat}{t:List (Nat×D)}(hp:pre.getD i []=p)(ht:vis p te=t)(hx:Ex P o t (.v x))(hw:wantD l (vis [] te) o=some true)(hd:o.dst=some j)(hi:Nat.blt j N=true)(hne:ev.contains i=false)(hone:one x=true)(_hpe:p.all ev.contains=true)
  (g:Zx Zp P C N l m De al pre ev v h k Q bs (i+1) rest ((j,.v x,none)::te)):Zx Zp P C N l m De al pre ev v h k Q bs i (o::rest) te:=by
 intro H0 vals a hbs kt hN hdf;refine ⟨x,?_,?_⟩
 ·unfold Jz.OK;rw [Ka2 (KcX hbs kt) hw,if_pos rfl,if_neg (by show ¬ ev.contains i=true;rw [hne];exact Bool.false_ne_true)];rintro S w ⟨H,x,hG,hle,_,c,hev⟩ hpS;replace hpS:∀ k∈pre.getD i [],S k=true:=hpS;rw [hp] at hpS;obtain ⟨r,h1,h2⟩:=hx H a w (ht ▸ Kca hbs kt hle fun e he b=>hev e (hpS e (by simpa using he)) b);rw [KW h2] at h1;exact h1
 rw [hd];refine g H0 vals _ hbs (kt.put (by rw [hN];simpa using hi) (fun _ H _=>rep_v hone) (fun e he=>by cases he)) ?_ hdf;simp only [Act.put,Array.size_setIfInBounds];exact hN
theorem zx_event {j:Nat}{p:List Nat}{t:List (Nat×D)}{d:D}(hp:pre.getD i []=p)(ht:vis p te=t)
  (b:p.contains v.e=false→∀ hh H a w,Core C H (h++hh) k w→TOK H t a→Jz.Gives Zp P o a w fun r w'=>∃ H',Core ⟨H,w,[]⟩ H' [] [] w'∧Rep H' d r)
  (f:(pre.getD v.e []).contains i=false→∀ (x:X),v.G x→∀ hh H a w,Core C H (v.h1 x++hh) (v.k1 x) w→TOK H t a→Jz.Gives Zp P o a w fun r w'=>∃ H',Core ⟨H,w,[]⟩ H' [] [] w'∧Rep H' d r)
  (hw:wantD l (vis [] te) o=some true) (hd:o.dst=some j) (hi:Nat.blt j N=true) (he:ev.contains i=true) (n:ev.contains v.e=true) (hna:isAl al i=false) (hnv:Nat.beq i v.e=false) (hDe:De i=d)
  (g:Zx Zp P C N l m De al pre ev v h k Q bs (i+1) rest ((j,d,some i)::te)):Zx Zp P C N l m De al pre ev v h k Q bs i (o::rest) te:=by
 intro H0 vals a hbs kt hN hdf;subst hDe;have hne:i ≠ v.e:=Nat.ne_of_beq_eq_false hnv;refine ⟨vals i,?_,?_⟩
 ·unfold Jz.OK;rw [Ka2 (KcX hbs kt) hw,if_pos rfl,if_pos he];refine ⟨rfl,?_⟩;rintro S w ⟨H,x,hG,hle,hdn,c,hev⟩ hSi hpS;replace hpS:∀ k∈pre.getD i [],S k=true:=hpS;have hpS':=hpS;rw [hp] at hpS;have htok:=ht ▸ Kca hbs kt hle fun e he s=>hev e (hpS e (by simpa using he)) s
  have key:Jz.Gives Zp P o a w fun r w'=>∃ H',Core ⟨H,w,[]⟩ H' [] [] w'∧Rep H' (De i) r:=by
   cases hs:S v.e with
   |
    false=>
    rw [hs] at c;refine b ?_ _ H a w c htok;cases hc:p.contains v.e with
    | false=>rfl
    | true=>rw [hpS v.e (by simpa using hc)] at hs;cases hs
   |
    true=>
    rw [hs] at c;refine f ?_ x (hG hs) _ H a w c htok;cases hc:(pre.getD v.e []).contains i with
    | false=>rfl
    |
     true=>
     have u:i∈pre.getD v.e []:=by
      rw [List.contains_iff_exists_mem_beq] at hc;obtain ⟨z,hz,hb⟩:=hc;have:i=z:=by simpa using hb
      rw [this];exact hz
     rw [hdn v.e hs n i u] at hSi;cases hSi
  refine key.mono ?_;rintro r w' ⟨H',c',hr⟩;have hal:Kap al (Jx.upd S i true) (Jx.upd vals i r)=Kap al S vals:=KaV fun e hea=>by
   have:e ≠ i:=fun q=>by rw [q,hna] at hea;cases hea
   exact ⟨Jx.upd_ne _ _ this,fun _=>Jx.upd_ne _ _ this⟩
  refine ⟨H',x,fun q=>hG (by rwa [Jx.upd_ne _ _ (Ne.symm hne)] at q),Hp.le_trans hle c'.le,Kep hdn hpS',?_,fun e hes hee=>?_⟩
  ·rw [hal,Jx.upd_ne _ _ (Ne.symm hne)];have:=Core.call (h1:=[]) (k1:=[]) c c';exact this
  by_cases hei:e=i
  ·subst hei;rw [Jx.upd_same];exact ⟨fun q=>(by rw [hna] at q;cases q),fun _=>hr⟩
  rw [Jx.upd_ne _ _ hei] at hes ⊢;exact ⟨(hev e hes hee).1,fun q=>((hev e hes hee).2 q).mono c'.le⟩
 rw [hd];refine g H0 vals _ hbs (kt.put (by rw [hN];simpa using hi) (fun q=>by cases q) (fun e q=>?_)) ?_ hdf
 ·cases q;exact ⟨rfl,by unfold dE;rw [hna];rfl,he⟩
 simp only [Act.put,Array.size_setIfInBounds];exact hN
theorem zx_e {j:Nat}{p:List Nat}{t:List (Nat×D)}{d:D}(hp:pre.getD i []=p)(ht:vis p te=t)(hx:Ex P o t d)(hw:wantD l (vis [] te) o=some true)(hd:o.dst=some j)(hi:Nat.blt j N=true)(he:ev.contains i=true)(b:ev.contains v.e=true)(hna:isAl al i=false)(hnv:Nat.beq i v.e=false)(hDe:De i=d)
  (g:Zx Zp P C N l m De al pre ev v h k Q bs (i+1) rest ((j,d,some i)::te)):Zx Zp P C N l m De al pre ev v h k Q bs i (o::rest) te:=
 zx_event hp ht (fun _ _ H a w c kt=>let ⟨_,h1,h2⟩:=hx H a w kt;.of <| Kcb h1 ⟨H,Core.here c.ag,h2⟩) (fun _ _ _ _ H a w c kt=>let ⟨_,h1,h2⟩:=hx H a w kt;.of <| Kcb h1 ⟨H,Core.here c.ag,h2⟩) hw hd hi he b hna hnv hDe g
theorem zx_E {j:Nat}{p:List Nat}{t:List (Nat×D)}{d:D}(hp:pre.getD i []=p)(ht:vis p te=t)(hx:ExE P o t d)(hw:wantD l (vis [] te) o=some true)(hd:o.dst=some j)(hi:Nat.blt j N=true)(he:ev.contains i=true)(f:ev.contains v.e=true)(hna:isAl al i=false)(hnv:Nat.beq i v.e=false)(hDe:De i=d)
  (g:Zx Zp P C N l m De al pre ev v h k Q bs (i+1) rest ((j,d,some i)::te)):Zx Zp P C N l m De al pre ev v h k Q bs i (o::rest) te:=
 zx_event hp ht (fun _ _ H a w c kt=>let ⟨_,_,H',h1,h2,b⟩:=hx H a w c.ag kt;.of <| Kcb h1 ⟨H',h2,b⟩) (fun _ _ _ _ H a w c kt=>let ⟨_,_,H',h1,h2,b⟩:=hx H a w c.ag kt;.of <| Kcb h1 ⟨H',h2,b⟩) hw hd hi he f hna hnv hDe g
theorem zx_M {j:Nat}{p:List Nat}{t:List (Nat×D)}{d:D}(hp:pre.getD i []=p)(ht:vis p te=t)(b:p.contains v.e=false→ExM P C h k o t d)(f:(pre.getD v.e []).contains i=false→∀ x:X,v.G x→ExM P C (v.h1 x) (v.k1 x) o t d)(hw:wantD l (vis [] te) o=some true)(hd:o.dst=some j)(hi:Nat.blt j N=true)(he:ev.contains i=true)(n:ev.contains v.e=true)(hna:isAl al i=false)(hnv:Nat.beq i v.e=false)(hDe:De i=d)
  (g:Zx Zp P C N l m De al pre ev v h k Q bs (i+1) rest ((j,d,some i)::te)):Zx Zp P C N l m De al pre ev v h k Q bs i (o::rest) te:=
 zx_event hp ht (fun q hh H a w c kt=>let ⟨_,h1,h2⟩:=b q hh H a w c kt;.of <| Kcb h1 ⟨H,Core.here c.ag,h2⟩) (fun q x hg hh H a w c kt=>let ⟨_,h1,h2⟩:=f q x hg hh H a w c kt;.of <| Kcb h1 ⟨H,Core.here c.ag,h2⟩) hw hd hi he n hna hnv hDe g
theorem zx_heavy {p:List Nat}{t:List (Nat×D)}(hp:pre.getD i []=p)(ht:vis p te=t)(hiv:i=v.e)
  (hx:∀ hh H a w,Core C H (h++hh) k w→TOK H t a→Jz.Gives Zp P o a w fun r w'=>∃ H',∃ x:X,v.G x∧H.le H'∧Core C H' (v.h1 x++hh) (v.k1 x) w'∧Rep H' (De v.e) r)
  (hw:wantD l (vis [] te) o=some true) (he:ev.contains i=true) (hna:isAl al i=false) {te':TE} (hd:(∃ j,o.dst=some j∧Nat.blt j N=true∧te'=(j,De v.e,some i)::te)∨(o.dst=none∧te'=te))
  (g:Zx Zp P C N l m De al pre ev v h k Q bs (i+1) rest te'):Zx Zp P C N l m De al pre ev v h k Q bs i (o::rest) te:=by
 subst hiv;intro H0 vals a hbs kt hN hdf;refine ⟨vals v.e,?_,?_⟩
 ·unfold Jz.OK;rw [Ka2 (KcX hbs kt) hw,if_pos rfl,if_pos he];refine ⟨rfl,?_⟩;rintro S w ⟨H,x,hG,hle,hdn,c,hev⟩ hSi hpS;replace hpS:∀ k∈pre.getD v.e [],S k=true:=hpS;have hpS':=hpS;rw [hp] at hpS;have htok:=ht ▸ Kca hbs kt hle fun e he b=>hev e (hpS e (by simpa using he)) b
  rw [hSi] at c;refine (hx _ H a w c htok).mono ?_;rintro r w' ⟨H',x',hG',hle',c',hr⟩;have hal:Kap al (Jx.upd S v.e true) (Jx.upd vals v.e r)=Kap al S vals:=KaV fun e hea=>by
   have:e ≠ v.e:=fun q=>by rw [q,hna] at hea;cases hea
   exact ⟨Jx.upd_ne _ _ this,fun _=>Jx.upd_ne _ _ this⟩
  refine ⟨H',x',fun _=>hG',Hp.le_trans hle hle',Kep hdn hpS',?_,fun e hes hee=>?_⟩
  ·rw [hal,Jx.upd_same];exact c'
  by_cases hei:e=v.e
  ·subst hei;rw [Jx.upd_same];exact ⟨fun q=>(by rw [hna] at q;cases q),fun _=>hr⟩
  rw [Jx.upd_ne _ _ hei] at hes ⊢;exact ⟨(hev e hes hee).1,fun q=>((hev e hes hee).2 q).mono hle'⟩
 rcases hd with ⟨j,hd,hi,rfl⟩|⟨hd,rfl⟩
 ·rw [hd];refine g H0 vals _ hbs (kt.put (by rw [hN];simpa using hi) (fun q=>by cases q) (fun e q=>?_)) ?_ hdf
  ·cases q;exact ⟨rfl,by unfold dE;rw [hna];rfl,he⟩
  simp only [Act.put,Array.size_setIfInBounds];exact hN
 rw [hd];exact g H0 vals _ hbs kt hN hdf
def ZpD (Zc:Int×Int→List PanicEntry)(C:Ctx)(pe:Int×Int)(c:List PanicEntry)(w:World):Prop:=c=Zc pe∧∃ H',Core C H' [] [] w
theorem zx_nil0 {v:Hx X}(hG:∀ x,¬ v.G x)(hv:ev.contains v.e=true):Zx Zp P C N l m De al pre ev v h k Q bs i [] te:=by
 intro H0 vals a hbs kt hN hdf S w hS hC;obtain ⟨H,x,hg,_⟩:=hC;exact (hG x (hg (hS _ hv))).elim
theorem zx_callE {Zc:Int×Int→List PanicEntry}{ρ:Type}{pe:Int×Int}{f:FuncId}{args:List Operand}{ts:Array TypeId}{j:Nat}{p:List Nat}{t:List (Nat×D)}{ds ds':List D}{h1 h2:List (Nat×Blk)}{k1 k2:List (Nat×Value)}{R:ρ→D→List (Nat×Blk)→List (Nat×Value)→Prop}
  (hp:pre.getD i []=p) (ht:vis p te=t) (hiv:i=v.e) (hc:KbV Zc P f ds' h1 k1 (.inl pe) R) (ho:o.op=.call ⟨.value (.func f),args.toArray,ts⟩) (ha:Kb3 args (opD t)=some ds) (hwk:WkL ds ds')
  (hh:h.Perm (h1++h2)) (hk:k.Perm (k1++k2)) {d:D} (hDe:De v.e=d)
  (hw:wantD l (vis [] te) o=some true) (he:ev.contains i=true) (hna:isAl al i=false) (hd:o.dst=some j) (hi:Nat.blt j N=true)
  (g:Zx (ZpD Zc C pe) P C N l m De al pre ev v h k Q bs (i+1) rest ((j,d,some i)::te)):Zx (ZpD Zc C pe) P C N l m De al pre ev v h k Q bs i (o::rest) te:=by
 subst hDe;refine zx_heavy hp ht hiv (fun hh' H a w c kt=>?_) hw he hna (.inl ⟨j,hd,hi,rfl⟩) g;obtain ⟨hg,hc⟩:=hc;unfold Jz.Gives;rw [Kd1 ho hg];simp only [];have hv:=hwk H _ (Kco kt ha);rw [List.map_toArray];have c1:Core C H (h1++(h2++hh')) (k1++k2) w:=c.perm (by rw [← List.append_assoc];exact hh.append_right hh') hk;have nd:=(KbM h1 (h2++hh') k1 k2).nodup_iff.1 c1.nd;rw [List.nodup_append] at nd;refine (hc H w _ hv c.ag (fun q hq=>c1.blks q (List.mem_append_left _ hq)) (fun q hq=>c1.toks q (List.mem_append_left _ hq)) nd.1).mono ?_;rintro e w' ⟨rfl,H',hcore⟩;refine .inr ⟨_,rfl,rfl,H',?_⟩
 have:=Core.call (h1':=[]) (k1':=[]) c1 hcore;exact this.drop (List.nil_sublist _) (List.nil_sublist _)
theorem wpD_heavyZ {Zc:Int×Int→List PanicEntry}{pe:Int×Int}{id:Nat}{t:List (Nat×D)}(m:Nat)(al:AL)(pre:List (List Nat))(ev:List Nat)(tp:List (List Nat))(v:Hx X)(x0:X)(gQ:Q (.panic (Zc pe)) ⟨[],[],[]⟩)(hfo:P.follows .mixedOrders=true)(hsl:Jx.slotsB l.toArray=true)
  (hp:Jx.preB l.toArray (fun i=>pre.getD i [])=true) (hpe:pre.all (·.all ev.contains)=true) (hev:ev.all (· < (l.take m).length)=true) (hsuf:Jx.sufB l.toArray tp (l.take m).length=true)
  (hwalk:ExDs ev fun De=>∀ bs,Zx (ZpD Zc C pe) P C N l m De al pre ev v h k Q bs 0 (l.take m) (KdL t)):wpD P C N (.region id l.toArray true) ⟨t,h,k⟩ Q:=by
 obtain ⟨De,hwalk⟩:=KfO hwalk;rintro a w ⟨H,c,kt,hN,hdf⟩;have key:=Jz.region_any (Zp:=ZpD Zc C pe) (P:=P) (Q:=QD C N Q) (id:=id) (w:=w) (a0:=a) (l1:=l.take m) (l2:=l.drop m) (Cx C De al pre ev v h k H) (fun i=>pre.getD i []) (fun i=>ev.contains i) tp ?_ hfo (by rw [List.take_append_drop];exact hsl) (by rw [List.take_append_drop];exact hp) ?_ ?_
  (by rw [List.take_append_drop];exact hsuf) ?_ ?_ ?_
 ·rw [List.take_append_drop] at key;exact key
 ·rintro c a' w' b f ⟨rfl,H',c'⟩;exact ⟨⟨[],[],[]⟩,⟨H',c',fun i d e=>by simp [look] at e,by rw [b];exact hN,by rw [f];exact hdf⟩,gQ⟩
 ·intro i k hk;rw [List.all_eq_true] at hpe;by_cases hi:i < pre.length
  ·have e:pre.getD i []=pre[i]:=by simp [hi]
   rw [e] at hk;exact List.all_eq_true.1 (hpe _ (List.getElem_mem hi)) k hk
  have e:pre.getD i []=[]:=by simp [Nat.le_of_not_lt hi]
  rw [e] at hk;cases hk
 ·intro i hi;rw [List.all_eq_true] at hev;simpa using hev i (by simpa using hi)
 ·rintro S vals vals' w hv ⟨H',x,hG,hle,hdn,c',hr⟩;refine ⟨H',x,hG,hle,hdn,?_,fun e hes hee=>?_⟩
  ·rw [← KaV (S:=S) (S':=S) (vals:=vals) (vals':=vals') fun e _=>⟨rfl,hv e⟩];exact c'
  rw [← hv e hes];exact hr e hes hee
 ·intro vals;refine ⟨H,x0,(fun q=>by cases q),Hp.le_refl H,(fun e he=>by cases he),?_,fun e he=>by cases he⟩;rw [KdT,List.append_nil];exact c.drew
 intro vals;rw [List.take_append_drop];exact hwalk (fun e=>blk (vals e)) H vals a (fun _=>rfl) (fun j d o e=>by
  obtain ⟨h1,h2⟩:=Kej e;obtain ⟨r,g,n⟩:=kt j d h1;exact ⟨r,g,fun _ H' hle=>n.mono hle,fun e he=>by rw [h2] at he;cases he⟩) hN hdf
end
end Go.Proofs.YtbbeiinofainlaaGreatDoor.Ab.Az
end
