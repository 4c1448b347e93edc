/- The texts that storePrintsCard_holds leans on, part 1. -/
import Derived.Lib.ItoaNum
import Derived.Orders
import Derived.Still
import Derived.KernelRfl
import Derived.Tactics
import Derived.Scope
import Derived.WalkSmall
import Derived.Below
import Derived.Laws.Strings
import Derived.LoopN
import Derived.Laws.Sem
import Derived.Laws.StructEq
import Derived.Laws.BytesString
import Derived.Test.YtbbeiinofainlaaGreatDoorProg
import Derived.Test.YtbbeiinofainlaaGreatDoorVg90
import Derived.Lib.AppendStr
import Derived.Lib.Builder
import Derived.Sort.Grow
import Derived.ProofKit
import Derived.OpenShut
import Derived.Test.YtbbeiinofainlaaGreatDoorRows
import Derived.WalkKit
import Derived.Lib.SmallJoins
import Derived.MapKept
import Derived.WideKeyRuns
import Derived.Defers
import Derived.Recover
import Derived.JoinedCond
import Derived.Lib.LaidIn
import Derived.Lib.LaidTab
import Derived.Deep.DeepHandedRow
import Derived.Deep.DeepWitnessRowRef
import Derived.SevenTiedAt
import Derived.Test.YtbbeiinofainlaaGreatDoorTie
import Derived.Test.YtbbeiinofainlaaGreatDoorCards
set_option linter.all false
set_option maxRecDepth 100000
set_option maxHeartbeats 80000000
noncomputable section
namespace Go.Proofs.YtbbeiinofainlaaGreatDoor.Ab
def nlD : List (List Nat) → List (Nat × List Nat) → List (List Nat)
 | _, [] => []
 | a, x :: l => (a.getD (a.length - x.1) [] ++ x.2) :: nlD ((a.getD (a.length - x.1) [] ++ x.2) :: a) l
end Go.Proofs.YtbbeiinofainlaaGreatDoor.Ab
namespace Go.Proofs.YtbbeiinofainlaaGreatDoor.Jx
open Go
def Gives (P:Program)(o:Oper)(a:Act)(w:World)(K:Value→World→Prop):Prop:=
 match (execOp a.eval o).run P w with
 | .ok (.value v) w'=>K v w'
 | .ok .skip w'=>K undef w'
 | .ok (.enter f args) w'=>Calls P f args w' fun e w''=>∃ v,e=.returned v∧K v w''
 | _=>False
theorem Gives.mono {P:Program}{o:Oper}{a:Act}{w:World}{K K':Value→World→Prop}(hk:∀ v w',K v w'→K' v w')(h:Gives P o a w K):Gives P o a w K':=by
 unfold Gives at *;split at h
 ·exact hk _ _ h
 ·exact hk _ _ h
 ·exact h.mono fun e w'' ⟨v,he,hv⟩=>⟨v,he,hk _ _ hv⟩
 exact h.elim
theorem Gives.wp {P:Program}{o:Oper}{a:Act}{w:World}{K:Act→World→Prop}{Q:Exit→Act→World→Prop}(h:Gives P o a w fun v w'=>K (a.put o.dst v) w'):o.wp P a w K Q:=by
 unfold Gives at h;unfold Oper.wp;generalize (execOp a.eval o).run P w=r at *;cases r with
 |
  ok n w'=>
  cases n<;>simp only [Oper.upon] at h ⊢;case value u=>exact h
  case skip=>exact h
  case enter f args=>exact h.mono fun e w'' ⟨v,he,hv⟩=>by subst he;exact hv
 | halt x w'=>simp only at h
theorem Gives.congr {P:Program}{o:Oper}{a a':Act}{w:World}{K:Value→World→Prop}(he:execOp a'.eval o=execOp a.eval o)(h:Gives P o a w K):Gives P o a' w K:=by
 unfold Gives at *;rw [he];exact h
def upd {α:Type}(f:Nat→α)(i:Nat)(v:α):Nat→α:=fun j=>if j=i then v else f j
theorem upd_same {α:Type}(f:Nat→α)(i:Nat)(v:α):upd f i v i=v:=by simp [upd]
theorem upd_ne {α:Type}(f:Nat→α){i j:Nat}(v:α)(h:j ≠ i):upd f i v j=f j:=by simp [upd,h]
section
variable (P : Program) (ops : Array Oper) (C : (Nat → Bool) → (Nat → Value) → World → Prop) (pre : Nat → List Nat) (ev : Nat → Bool)
def OK (vals:Nat→Value)(i:Nat)(o:Oper)(a:Act)(out:Value):Prop:=
 if Region.wanted o (yielded ops a.tmps)=true then
  if ev i=true then out=vals i∧∀ S w,C S vals w→S i=false→(∀ k∈pre i,S k=true)→Gives P o a w fun v w'=>C (upd S i true) (upd vals i v) w'
  else ∀ S w,C S vals w→(∀ k∈pre i,S k=true)→(execOp a.eval o).run P w=.ok (.value out) w
 else out=undef∧(ev i=true→∀ S w,C S vals w→S i=false→C (upd S i true) (upd vals i undef) w)
def Lx (vals:Nat→Value)(fin:Act→Prop):Nat→List Oper→Act→Prop
 | _,[],a=>fin a
 | i,o::rest,a=>∃ out,OK P ops C pre ev vals i o a out∧Lx vals fin (i+1) rest (a.put o.dst out)
end
def fr (ops:Array Oper)(a0:Act)(out:Nat→Value):Nat→Act
 | 0=>a0
 |
  k+1=>match ops[k]? with
  | some o=>(fr ops a0 out k).put o.dst (out k)
  | none=>fr ops a0 out k
def frS (ops:Array Oper)(a0:Act)(out:Nat→Value)(S:Nat→Bool):Nat→Act
 | 0=>a0
 |
  k+1=>match ops[k]? with
  | some o=>if S k=true then (frS ops a0 out S k).put o.dst (out k) else frS ops a0 out S k
  | none=>frS ops a0 out S k
theorem Khk {ops:Array Oper}{a0:Act}{out out':Nat→Value}:∀ k,(∀ j,j < k→out j=out' j)→fr ops a0 out k=fr ops a0 out' k
 | 0,_=>rfl
 |
  k+1,h=>by
  have ih:=Khk (ops:=ops) (a0:=a0) k (fun j hj=>h j (by omega));simp only [fr];rw [ih,h k (by omega)]
theorem KgQ {ops:Array Oper}{a0:Act}{out out':Nat→Value}{S:Nat→Bool}:∀ k,(∀ j,j < k→S j=true→out j=out' j)→frS ops a0 out S k=frS ops a0 out' S k
 | 0,_=>rfl
 |
  k+1,h=>by
  have ih:=KgQ (ops:=ops) (a0:=a0) (S:=S) k (fun j hj=>h j (by omega));simp only [frS];rw [ih];split
  ·split
   ·rename_i hs;rw [h k (by omega) hs]
   rfl
  rfl
theorem Kkm {ops:Array Oper}{a0:Act}{out:Nat→Value}{S:Nat→Bool}:∀ k,(∀ j,j < k→S j=false)→frS ops a0 out S k=a0
 | 0,_=>rfl
 |
  k+1,h=>by
  simp only [frS];rw [Kkm k (fun j hj=>h j (by omega)),h k (by omega)];split<;>simp
theorem frS_all {ops:Array Oper}{a0:Act}{out:Nat→Value}{S:Nat→Bool}:∀ k,(∀ j,j < k→S j=true)→frS ops a0 out S k=fr ops a0 out k
 | 0,_=>rfl
 |
  k+1,h=>by
  simp only [frS,fr];rw [frS_all k (fun j hj=>h j (by omega)),h k (by omega)];simp
def alike (ops:Array Oper)(o:Oper)(a b:Act):Prop:=∀ t∈o.looksAt ops,a.tmps[t]? = b.tmps[t]?
theorem Kff {ops:Array Oper}{o:Oper}{a b:Act}(hs:∀ cs x,o.op ≠ .select cs x)(h:alike ops o a b):execOp a.eval o=execOp b.eval o:=
 execOp_congr o hs fun x hx=>by
  cases x with
  |
   tmp t=>
   have:=h t (List.mem_append_left _ (List.mem_filterMap.2 ⟨.tmp t,by simpa using hx,rfl⟩));simp [Act.eval,this]
  | _=>rfl
theorem Kex {ops:Array Oper}{o:Oper}{a b:Act}(h:alike ops o a b):Region.wanted o (yielded ops a.tmps)=Region.wanted o (yielded ops b.tmps):=by
 unfold Region.wanted;cases hg:o.guard with
 | none=>rfl
 |
  some gw=>
  obtain ⟨g,want⟩:=gw;have hy:yielded ops a.tmps g=yielded ops b.tmps g:=by
   unfold yielded;cases ht:(ops[g]?).bind (·.dst) with
   | none=>rfl
   |
    some t=>
    have:=h t (by simp [Oper.looksAt,hg,ht]);simp [this]
  simp only [hy]
theorem KfK (a:Act)(d:Option Tmp)(v:Value)(t:Nat)(h:d ≠ some t):(a.put d v).tmps[t]? = a.tmps[t]?:=by
 cases d with
 | none=>rfl
 | some d=>exact Array.getElem?_setIfInBounds_ne (by intro e;exact h (by rw [e]))
theorem Kg0 (a b:Act)(d:Option Tmp)(v:Value)(t:Nat)(h:a.tmps[t]? = b.tmps[t]?):(a.put d v).tmps[t]? = (b.put d v).tmps[t]?:=by
 cases d with
 | none=>exact h
 |
  some d=>
  by_cases e:d=t
  ·subst e;simp only [Act.put,Array.getElem?_setIfInBounds];have hs:d < a.tmps.size↔d < b.tmps.size:=by
    constructor
    ·intro hd;rw [Array.getElem?_eq_getElem hd] at h;exact (Array.getElem?_eq_some_iff.1 h.symm).1
    intro hd;rw [Array.getElem?_eq_getElem hd] at h;exact (Array.getElem?_eq_some_iff.1 h).1
   by_cases hd:d < a.tmps.size
   ·simp [hd,hs.1 hd]
   have:¬ d < b.tmps.size:=fun x=>hd (hs.2 x)
   simp [hd,this]
  rw [KfK a _ v t (by simpa using e),KfK b _ v t (by simpa using e)];exact h
def slotsB (ops:Array Oper):Bool:=
 Region.noSelect ops && (List.range ops.size).all fun i=>match ops[i]? with
  | none=>true
  |
   some oi=>(oi.after.all fun e=>!Region.binds .any e || decide (e.on < i)) &&
   (List.range i).all fun j=>match ops[j]? with
   | none=>true
   | some oj=>oi.after.any (fun e=>Region.binds .any e && e.on==j) || oj.apart ops oi
def preB (ops:Array Oper)(pre:Nat→List Nat):Bool:=
 (List.range ops.size).all fun i=>match ops[i]? with
  | none=>true
  | some oi=>(pre i).all fun k=>oi.after.any fun e=>Region.binds .any e && (e.on==k || (pre e.on).contains k)
theorem Kf6 {ops:Array Oper}(h:slotsB ops=true){i j:Nat}{oi oj:Oper}(hi:ops[i]? = some oi)(hj:ops[j]? = some oj)(hji:j < i) :
  (∃ e∈oi.after,Region.binds .any e=true∧e.on=j)∨oj.apart ops oi=true:=by
 simp only [slotsB,Bool.and_eq_true,List.all_eq_true,List.mem_range] at h;have h1:=h.2 i (Array.getElem?_eq_some_iff.1 hi).1;simp only [hi,Bool.and_eq_true,List.all_eq_true,List.mem_range] at h1;have h2:=h1.2 j hji;simp only [hj,Bool.or_eq_true] at h2;rcases h2 with h2|h2
 ·obtain ⟨e,he,hb⟩:=Array.any_eq_true'.1 h2;simp only [Bool.and_eq_true,beq_iff_eq] at hb;exact .inl ⟨e,he,hb.1,hb.2⟩
 exact .inr h2
section
variable {P : Program} {ops : Array Oper} {Q : Exit → Act → World → Prop} {C : (Nat → Bool) → (Nat → Value) → World → Prop} {pre : Nat → List Nat} {ev : Nat → Bool} {a0 : Act}
theorem lx_good {vals:Nat→Value}{fin:Act→Prop}{l1:List Oper}{m:Nat}(c:∀ j,j < m→l1[j]? = ops[j]?)(d:l1.length=m)(h:Lx P ops C pre ev vals fin 0 l1 a0) :
  ∃ out,(∀ j o,j < m→ops[j]? = some o→OK P ops C pre ev vals j o (fr ops a0 out j) (out j))∧fin (fr ops a0 out m):=by
 have key:∀ (l:List Oper) (i:Nat) (a:Nat→Value),(∀ j,i+j < i+l.length→l[j]? = ops[i+j]?)→Lx P ops C pre ev vals fin i l (fr ops a0 a i) →
   ∃ out,(∀ k,k < i→out k=a k)∧(∀ j o,i≤j→j < i+l.length→ops[j]? = some o→OK P ops C pre ev vals j o (fr ops a0 out j) (out j))∧fin (fr ops a0 out (i+l.length)):=by
  intro l;induction l with
  | nil=>intro i a _ h;exact ⟨a,fun _ _=>rfl,fun j o hj hj' _=>by simp at hj';omega,h⟩
  |
   cons o l ih=>
   intro i a hl h;obtain ⟨v,hv,hr⟩:=h;have h0:ops[i]? = some o:=by simpa using (hl 0 (by simp)).symm
   have e:fr ops a0 (upd a i v) i=fr ops a0 a i:=Khk i fun j hj=>upd_ne _ _ (by omega)
   have f:fr ops a0 (upd a i v) (i+1)=(fr ops a0 a i).put o.dst v:=by simp only [fr,h0];rw [e,upd_same]
   obtain ⟨out,g1,g,n⟩:=ih (i+1) (upd a i v) (fun j hj=>by have:=hl (j+1) (by simp;omega);simpa [Nat.add_assoc,Nat.add_comm 1 j] using this) (by rw [f];exact hr);refine ⟨out,fun k hk=>by rw [g1 k (by omega),upd_ne _ _ (by omega)],fun j o' hj hj' ho'=>?_,?_⟩
   ·by_cases hji:j=i
    ·subst hji;rw [h0] at ho';cases ho';have p:fr ops a0 out j=fr ops a0 a j:=Khk j fun k hk=>by rw [g1 k (by omega),upd_ne _ _ (by omega)]
     rw [p,g1 j (by omega),upd_same];exact hv
    exact g j o' (by omega) (by simp at hj';omega) ho'
   rw [show i+(o::l).length=i+1+l.length from by simp;omega];exact n
 obtain ⟨out,_,h2,b⟩:=key l1 0 (fun _=>undef) (fun j hj=>by rw [Nat.zero_add];exact c j (by omega)) h;rw [Nat.zero_add,d] at b;exact ⟨out,fun j o hj ho=>h2 j o (Nat.zero_le _) (by omega) ho,b⟩
def Key (ops:Array Oper)(S:Nat→Bool):Prop:=∀ i o,ops[i]? = some o→S i=true→∀ e∈o.after,Region.binds .any e=true→S e.on=true
theorem Kf7 (hp:preB ops pre=true)(hsl:slotsB ops=true){S:Nat→Bool}(hc:Key ops S):∀ i o,ops[i]? = some o→(∀ e∈o.after,Region.binds .any e=true→S e.on=true)→∀ k∈pre i,S k=true:=by
 intro i;induction i using Nat.strongRecOn with
 |
  _ i ih=>
  intro o ho hd k hk;have d:=hp;simp only [preB,List.all_eq_true,List.mem_range] at hp;have h1:=hp i (Array.getElem?_eq_some_iff.1 ho).1;simp only [ho,List.all_eq_true] at h1;obtain ⟨e,he,hb⟩:=Array.any_eq_true'.1 (h1 k hk);simp only [Bool.and_eq_true,Bool.or_eq_true,beq_iff_eq,List.contains_iff_mem] at hb;rcases hb.2 with a|a
  ·rw [← a];exact hd e he hb.1
  have hlt:e.on < i:=by
   simp only [slotsB,Bool.and_eq_true,List.all_eq_true,List.mem_range] at hsl;have b:=hsl.2 i (Array.getElem?_eq_some_iff.1 ho).1;simp only [ho,Bool.and_eq_true] at b;have c:=(Array.all_eq_true_iff_forall_mem.1 b.1) e he;simpa [hb.1] using c
  have hson:=hd e he hb.1;cases hoe:ops[e.on]? with
  |
   none=>
   exfalso;have:=(Array.getElem?_eq_some_iff.1 ho).1;simp at hoe;omega
  | some oe=>exact ih e.on hlt oe hoe (fun e' he' hb'=>hc _ _ hoe hson e' he' hb') k a
theorem KeY {oj oi:Oper}{t:Nat}(hd:oj.dst=some t)(ht:t∈oi.looksAt ops):oj.apart ops oi=false:=by
 unfold Oper.apart;simp [hd,ht]
theorem KeQ (hsl:slotsB ops=true){S:Nat→Bool}(hc:Key ops S){out:Nat→Value}{i:Nat}{o:Oper}(ho:ops[i]? = some o)(hi:S i=false)
  (hd:∀ e∈o.after,Region.binds .any e=true→S e.on=true):∀ n,i≤n→alike ops o (frS ops a0 out S n) (fr ops a0 out i):=by
 have base:∀ k,k≤i→∀ t∈o.looksAt ops,(frS ops a0 out S k).tmps[t]? = (fr ops a0 out k).tmps[t]?:=by
  intro k;induction k with
  | zero=>intro _ t _;rfl
  |
   succ k ih=>
   intro hk t ht;have ih':=ih (by omega) t ht;simp only [frS,fr];cases hok:ops[k]? with
   | none=>exact ih'
   |
    some ok=>
    simp only;by_cases hS:S k=true
    ·rw [if_pos hS];exact Kg0 _ _ _ _ _ ih'
    rw [if_neg hS];rw [KfK]
    ·exact ih'
    intro hdt;rcases Kf6 hsl ho hok (by omega) with ⟨e,he,hb,hon⟩|hap
    ·exact hS (hon ▸ hd e he hb)
    rw [KeY hdt ht] at hap;cases hap
 intro n hn;induction n with
 | zero=>
      intro t ht;have:i=0:=by omega
      subst this;exact base 0 (by omega) t ht
 |
  succ n ih=>
  by_cases hin:i=n+1
  ·subst hin;intro t ht;exact base _ (by omega) t ht
  intro t ht;have ih':=ih (by omega) t ht;simp only [frS];cases hok:ops[n]? with
  | none=>exact ih'
  |
   some ok=>
   simp only;by_cases hS:S n=true
   ·rw [if_pos hS,KfK]
    ·exact ih'
    intro hdt;have hne:i ≠ n:=fun e=>by subst e;rw [hi] at hS;cases hS
    rcases Kf6 hsl hok ho (by omega) with ⟨e,he,hb,hon⟩|hap
    ·have:=hc n ok hok hS e he hb;rw [hon,hi] at this;cases this
    unfold Oper.apart at hap;simp [hdt,ht] at hap
   rw [if_neg hS];exact ih'
theorem Klf (hsl:slotsB ops=true){S:Nat→Bool}(hc:Key ops S){out:Nat→Value}{i:Nat}{o:Oper}(ho:ops[i]? = some o)(hi:S i=false) :
  ∀ n,frS ops a0 out (upd S i true) n=if i < n then (frS ops a0 out S n).put o.dst (out i) else frS ops a0 out S n:=by
 intro n;induction n with
 | zero=>simp [frS]
 |
  succ n ih=>
  simp only [frS];cases hok:ops[n]? with
  |
   none=>
   simp only;have:i ≠ n:=fun e=>by subst e;rw [ho] at hok;cases hok
   rw [ih];by_cases h1:i < n
   ·rw [if_pos h1,if_pos (by omega)]
   rw [if_neg h1,if_neg (by omega)]
  |
   some ok=>
   simp only;by_cases hin:i=n
   ·subst hin;rw [ho] at hok;cases hok;rw [ih,if_neg (Nat.lt_irrefl i),upd_same,if_pos rfl,hi,if_pos (Nat.lt_succ_self i)];simp
   rw [upd_ne _ _ (fun e=>hin e.symm),ih];by_cases h1:i < n
   ·rw [if_pos h1,if_pos (Nat.lt_succ_of_lt h1)];by_cases hS:S n=true
    ·simp only [hS,if_true];refine Act.put_comm _ _ _ fun d hd=>?_
     intro hd';rcases Kf6 hsl hok ho h1 with ⟨e,he,hb,hon⟩|hap
     ·have:=hc n ok hok hS e he hb;rw [hon,hi] at this;cases this
     have:=(Oper.apart_spec hap).2.1 d hd;exact this hd'
    simp only [hS,Bool.false_eq_true,if_false]
   have h2:¬ i < n+1:=fun h=>hin (by omega)
   rw [if_neg h1,if_neg h2]
theorem out_same (hsl:slotsB ops=true)(hp:preB ops pre=true){S:Nat→Bool}(hc:Key ops S){T:Nat→Bool}(hT:∀ k,T k=(S k && ev k))(hpe:∀ i,∀ k∈pre i,ev k=true)
  {vals vals' out out':Nat→Value} {w:World}
  {m:Nat} (ok:∀ j o,j < m→ops[j]? = some o→OK P ops C pre ev vals j o (fr ops a0 out j) (out j)) (ok':∀ j o,j < m→ops[j]? = some o→OK P ops C pre ev vals' j o (fr ops a0 out' j) (out' j))
  (hv:∀ e,T e=true→vals e=vals' e) (hC:C T vals w) (hC':C T vals' w):∀ k,k < m→∀ o,ops[k]? = some o→S k=true→out k=out' k:=by
 intro k;induction k using Nat.strongRecOn with
 |
  _ k ih=>
  intro hkm o ho hk;have hal:∀ m,m≤k→∀ t∈o.looksAt ops,(fr ops a0 out m).tmps[t]? = (fr ops a0 out' m).tmps[t]?:=by
   intro m;induction m with
   | zero=>intro _ t _;rfl
   |
    succ m ihm=>
    intro c t ht;have ih':=ihm (by omega) t ht;simp only [fr];cases hom:ops[m]? with
    | none=>exact ih'
    |
     some om=>
     simp only;by_cases hd:om.dst=some t
     ·rcases Kf6 hsl ho hom (by omega) with ⟨e,he,hb,hon⟩|hap
      ·have hSm:S m=true:=hon ▸ hc k o ho hk e he hb;rw [ih m (by omega) (by omega) om hom hSm];exact Kg0 _ _ _ _ _ ih'
      rw [KeY hd ht] at hap;cases hap
     rw [KfK _ _ _ _ hd,KfK _ _ _ _ hd];exact ih'
  have hal':alike ops o (fr ops a0 out k) (fr ops a0 out' k):=hal k (Nat.le_refl _);have h1:=ok k o hkm ho;have h2:=ok' k o hkm ho;have hns:∀ cs x,o.op ≠ .select cs x:=by
   simp only [slotsB,Bool.and_eq_true] at hsl;exact fun cs x=>Region.noSelect_spec hsl.1 k o cs x ho
  unfold OK at h1 h2;rw [← Kex hal'] at h2;by_cases hw:Region.wanted o (yielded ops (fr ops a0 out k).tmps)=true
  ·rw [if_pos hw] at h1 h2;by_cases he:ev k=true
   ·rw [if_pos he] at h1 h2;rw [h1.1,h2.1];exact hv k (by rw [hT,hk,he];rfl)
   rw [if_neg he] at h1 h2;have hpk:∀ x∈pre k,T x=true:=fun x hx=>by
    rw [hT,Kf7 hp hsl hc k o ho (fun e he' hb=>hc k o ho hk e he' hb) x hx,hpe k x hx];rfl
   have b:=h1 T w hC hpk;have a:=h2 T w hC' hpk;rw [← Kff hns hal'] at a;rw [b] at a;simpa using a
  rw [if_neg hw] at h1 h2;rw [h1.1,h2.1]
theorem KjE (hsl:slotsB ops=true){listed:Array Bool}(hsz:listed.size=ops.size)(h:Region.ready .any ops listed=[]):∀ i,i < ops.size→listed.getD i false=true:=by
 intro i;induction i using Nat.strongRecOn with
 |
  _ i ih=>
  intro hi;cases hb:listed.getD i false with
  | true=>rfl
  |
   false=>
   exfalso;have hmem:i∈Region.ready .any ops listed:=by
    rw [mem_ready];have ho:ops[i]? = some ops[i]:=Array.getElem?_eq_getElem hi;refine ⟨?_,ops[i],ho,fun e he hbi=>?_⟩
    ·have hl:i < listed.size:=by omega
     simpa [hl] using hb
    simp only [slotsB,Bool.and_eq_true,List.all_eq_true,List.mem_range] at hsl;have a:=hsl.2 i hi;simp only [ho,Bool.and_eq_true] at a;have b:=(Array.all_eq_true_iff_forall_mem.1 a.1) e he;have hlt:e.on < i:=by simpa [hbi] using b
    exact ih e.on hlt (by omega)
   rw [h] at hmem;cases hmem
theorem KfC {listed:Array Bool}{i:Nat}(hi:i < listed.size):(fun j=>(listed.setIfInBounds i true).getD j false)=upd (fun j=>listed.getD j false) i true:=by
 funext j;by_cases h:j=i
 ·subst h;simp [upd,hi]
 rw [upd_ne _ _ h,getD_set_ne false (fun e=>h e.symm)]
def sufB (ops:Array Oper)(tp:List (List Nat))(m:Nat):Bool:=
 preB ops (fun i=>tp.getD i []) && (List.range ops.size).all fun i=>decide (i < m) || (List.range i).all fun j=>(tp.getD i []).contains j
theorem Kkn (hsl:slotsB ops=true){tp:List (List Nat)}{m:Nat}(h:sufB ops tp m=true){S:Nat→Bool}(hc:Key ops S){i:Nat}{o:Oper}(ho:ops[i]? = some o)(him:m≤i)
  (hd:∀ e∈o.after,Region.binds .any e=true→S e.on=true):∀ j,j < i→S j=true:=by
 simp only [sufB,Bool.and_eq_true,List.all_eq_true,List.mem_range,Bool.or_eq_true,decide_eq_true_eq] at h;intro j hj;have h2:=(h.2 i (Array.getElem?_eq_some_iff.1 ho).1).resolve_left (by omega) j hj;exact Kf7 h.1 hsl hc i o ho hd j (List.contains_iff_mem.1 h2)
theorem seq_any (hsl:slotsB ops=true){tp:List (List Nat)}{m:Nat}(hsuf:sufB ops tp m=true):∀ (l2:List Oper) (k fuel:Nat) (listed:Array Bool) (a:Act) (w:World),m≤k→listed.size=ops.size →
  (∀ j,l2[j]? = ops[k+j]?)→(∀ j,j < k→j < ops.size→listed.getD j false=true)→(∀ j,k≤j→listed.getD j false=false)→Key ops (fun i=>listed.getD i false)→l2.length≤fuel →
  wpList P ops Q l2 a w→wpAny P .any ops Q fuel listed a w
 |
  [],k,fuel,listed,a,w,_,hsz,hl,hlo,_,_,_,h=>by
  have hk:ops.size≤k:=by have:=hl 0;simp at this;simpa using this
  refine wpAny_done ?_ h fuel;rw [List.eq_nil_iff_forall_not_mem];intro i hi;have h0:=(mem_ready.1 hi).1;obtain ⟨o,ho,_⟩:=(mem_ready.1 hi).2;have hlt:=(Array.getElem?_eq_some_iff.1 ho).1;have h1:=hlo i (by omega) hlt;have:i < listed.size:=by omega
  simp [this] at h0 h1;rw [h0] at h1;cases h1
 | o::l2,k,0,listed,a,w,_,hsz,hl,hlo,hhi,hcl,hf,h=>by simp at hf
 |
  o::l2,k,fuel+1,listed,a,w,hmk,hsz,hl,hlo,hhi,hcl,hf,h=>by
  have h0:ops[k]? = some o:=by simpa using (hl 0).symm
  have hkn:=(Array.getElem?_eq_some_iff.1 h0).1;refine ⟨fun hr=>?_,fun i hi=>?_⟩
  ·have:=KjE hsl hsz hr k hkn;rw [hhi k (Nat.le_refl _)] at this;cases this
  obtain ⟨hun,oi,hoi,hdeps⟩:=mem_ready.1 hi;have hik:i=k:=by
   have hil:=(Array.getElem?_eq_some_iff.1 hoi).1;rcases Nat.lt_trichotomy i k with h1|h1|h1
   ·have h2:=hlo i h1 hil;have:i < listed.size:=by omega
    simp [this] at hun h2;rw [hun] at h2;cases h2
   ·exact h1
   have hx:listed.getD k false=true:=Kkn hsl hsuf hcl hoi (by omega) hdeps k h1;rw [hhi k (Nat.le_refl _)] at hx;cases hx
  subst hik;have hkl:i < listed.size:=by omega
  have hpt:∀ j,(listed.setIfInBounds i true).getD j false=upd (fun j=>listed.getD j false) i true j:=fun j=>congrFun (KfC hkl) j
  have hrec:∀ a w,wpList P ops Q l2 a w→wpAny P .any ops Q fuel (listed.setIfInBounds i true) a w:=fun a w hh=>by
   refine seq_any hsl hsuf l2 (i+1) fuel _ a w (by omega) (by simpa using hsz) (fun j=>by have:=hl (j+1);simpa [Nat.add_assoc,Nat.add_comm 1 j] using this) ?_ ?_ ?_ (by simpa using hf) hh
   ·intro j hj hjn;rw [hpt];by_cases hji:j=i
    ·subst hji;exact upd_same _ _ _
    rw [upd_ne _ _ hji];exact hlo j (by omega) hjn
   ·intro j hj;rw [hpt,upd_ne _ _ (by omega)];exact hhi j (by omega)
   intro j oj hoj hj e he hb;show (listed.setIfInBounds i true).getD e.on false=true
   have hj':(listed.setIfInBounds i true).getD j false=true:=hj;rw [hpt] at hj' ⊢;by_cases hei:e.on=i
   ·rw [hei,upd_same]
   rw [upd_ne _ _ hei];by_cases hji:j=i
   ·subst hji;rw [h0] at hoj;cases hoj;rw [h0] at hoi;cases hoi;exact hdeps e he hb
   rw [upd_ne _ _ hji] at hj';exact hcl j oj hoj hj' e he hb
  unfold wpOp;simp only [h0];unfold wpList at h;split
  ·rename_i hw;rw [if_pos hw] at h;exact h.imp (Oper.wp_mono hrec) id
  rename_i hw;rw [if_neg hw] at h;exact hrec _ _ h
theorem any_all (hsl:slotsB ops=true)(hp:preB ops pre=true)(hpe:∀ i,∀ k∈pre i,ev k=true){tp:List (List Nat)}{m:Nat}{l1 l2:List Oper}(hops:ops.toList=l1++l2)(d:l1.length=m)(hevm:∀ i,ev i=true→i < m)(hsuf:sufB ops tp m=true)
  (hloc:∀ S vals vals' w,(∀ e,S e=true→vals e=vals' e)→C S vals w→C S vals' w)
  (hwalk:∀ vals,Lx P ops C pre ev vals (fun a=>∀ S w,(∀ i,ev i=true→S i=true)→C S vals w→wpList P ops Q l2 a w) 0 l1 a0) :
  ∀
   (fuel:Nat) (listed:Array Bool) (w:World) (vals out:Nat→Value),listed.size=ops.size →
   (∀ j o,j < m→ops[j]? = some o→OK P ops C pre ev vals j o (fr ops a0 out j) (out j)) →
   (∀ S w,(∀ i,ev i=true→S i=true)→C S vals w→wpList P ops Q l2 (fr ops a0 out m) w) →
   (∀ j,m≤j→listed.getD j false=false)→Key ops (fun i=>listed.getD i false) →
   C (fun i=>listed.getD i false && ev i) vals w →
   (listed.toList.countP (fun b=>!b))≤fuel →
   wpAny P .any ops Q fuel listed (frS ops a0 out (fun i=>listed.getD i false) m) w:=by
 intro fuel;have q:∀ j,j < m→l1[j]? = ops[j]?:=fun j hj=>by
  rw [← Array.getElem?_toList,hops,List.getElem?_append_left (by omega)]
 have r:∀ j,l2[j]? = ops[m+j]?:=fun j=>by
  rw [← Array.getElem?_toList,hops,List.getElem?_append_right (by omega),d];congr 1;omega
 have hmn:m+l2.length=ops.size:=by rw [← Array.length_toList,hops,List.length_append,d]
 have fin:∀ (fuel:Nat) (listed:Array Bool) (w:World) (vals out:Nat→Value),listed.size=ops.size →
   (∀ S w,(∀ i,ev i=true→S i=true)→C S vals w→wpList P ops Q l2 (fr ops a0 out m) w) →
   C (fun i=>listed.getD i false && ev i) vals w→(∀ j,j < m→listed.getD j false=true)→(∀ j,m≤j→listed.getD j false=false)→Key ops (fun i=>listed.getD i false)→l2.length≤fuel →
   wpAny P .any ops Q fuel listed (frS ops a0 out (fun i=>listed.getD i false) m) w:=by
  intro fuel listed w vals out hsz hfin hC hlo hhi hcl hf;rw [frS_all m hlo];exact seq_any hsl hsuf l2 m fuel listed _ w (Nat.le_refl _) hsz r (fun j hj _=>hlo j hj) hhi hcl hf (hfin _ w (fun i he=>by rw [hlo i (hevm i he),he];rfl) hC)
 have hcnt:∀ (listed:Array Bool),listed.size=ops.size→(∀ j,m≤j→listed.getD j false=false)→l2.length≤listed.toList.countP (fun b=>!b):=by
  intro listed hsz hhi;have h1:listed.toList=listed.toList.take m++listed.toList.drop m:=(List.take_append_drop m _).symm;rw [h1,List.countP_append];have h2:(listed.toList.drop m).countP (fun b=>!b)=(listed.toList.drop m).length:=by
   rw [List.countP_eq_length];intro b hb;obtain ⟨k,hk,rfl⟩:=List.mem_iff_getElem.1 hb;have:=hhi (m+k) (by omega);have hk':m+k < listed.size:=by simp at hk;omega
   simp [hk'] at this;simp [this]
  rw [h2];simp;omega
 induction fuel with
 |
  zero=>
  intro listed w vals out hsz hok hfin hhi hcl hC hcount;have B:=hcnt listed hsz hhi;refine fin 0 listed w vals out hsz hfin hC (fun j hj=>?_) hhi hcl (by omega);have h1:listed.toList.countP (fun b=>!b)=0:=by omega
  rw [List.countP_eq_zero] at h1;have h':j < listed.size:=by omega
  have:=h1 listed[j] (by simp);simp [h'];simpa using this
 |
  succ fuel ih=>
  intro listed w vals out hsz hok hfin hhi hcl hC hcount;by_cases hall:∀ j,j < m→listed.getD j false=true
  ·exact fin (fuel+1) listed w vals out hsz hfin hC hall hhi hcl (by have:=hcnt listed hsz hhi;omega)
  refine ⟨fun hr=>absurd (fun j hj=>KjE hsl hsz hr j (by omega)) hall,fun i hi=>?_⟩;obtain ⟨hun,o,ho,hdeps⟩:=mem_ready.1 hi;have him:i < m:=by
   rcases Nat.lt_or_ge i m with h|h
   ·exact h
   exact absurd (fun j hj=>Kkn hsl hsuf hcl ho h hdeps j (by omega)) hall
  have hhi':∀ j,m≤j→(listed.setIfInBounds i true).getD j false=false:=fun j hj=>by rw [getD_set_ne false (by omega)];exact hhi j hj
  have hil:i < listed.size:=by rw [hsz];exact (Array.getElem?_eq_some_iff.1 ho).1
  have hun':listed.getD i false=false:=by simp [hil] at hun ⊢;exact hun
  have hal:=KeQ (a0:=a0) (out:=out) hsl hcl ho hun' hdeps m (by omega);have hns:∀ cs x,o.op ≠ .select cs x:=by
   have:=hsl;simp only [slotsB,Bool.and_eq_true] at this;exact fun cs x=>Region.noSelect_spec this.1 i o cs x ho
  have hcl':Key ops (fun j=>(listed.setIfInBounds i true).getD j false):=by
   have hpt:∀ j,(listed.setIfInBounds i true).getD j false=upd (fun j=>listed.getD j false) i true j:=fun j=>congrFun (KfC hil) j
   intro j oj hoj hj e he hb;show (listed.setIfInBounds i true).getD e.on false=true
   have hj':(listed.setIfInBounds i true).getD j false=true:=hj;rw [hpt] at hj' ⊢;by_cases hei:e.on=i
   ·rw [hei,upd_same]
   rw [upd_ne _ _ hei];by_cases hji:j=i
   ·subst hji;rw [ho] at hoj;cases hoj;exact hdeps e he hb
   rw [upd_ne _ _ hji] at hj';exact hcl j oj hoj hj' e he hb
  have hcount':(listed.setIfInBounds i true).toList.countP (fun b=>!b)≤fuel:=by
   have h1:(listed.setIfInBounds i true).toList=listed.toList.set i true:=by simp
   have h2:listed[i]=false:=by simp [hil] at hun;exact hun
   have f:i < listed.toList.length:=by simpa using hil
   have g:listed.toList[i]=false:=by simpa using h2
   have E:0 < listed.toList.countP (fun b=>!b):=List.countP_pos_iff.2 ⟨false,by rw [← g];exact List.getElem_mem f,rfl⟩;have l:=List.countP_set (p:=fun b=>!b) (a:=true) f;simp only [g,Bool.not_false,Bool.not_true,if_true,Bool.false_eq_true,if_false] at l;rw [h1,l];omega
  have hpre:=Kf7 hp hsl hcl i o ho hdeps;have hpre':∀ k∈pre i,(listed.getD k false && ev k)=true:=fun k hk=>by rw [hpre k hk,hpe i k hk];rfl
  have hput:∀ out',(∀ j,j < m→listed.getD j false=true→out j=out' j)→(frS ops a0 out (fun j=>listed.getD j false) m).put o.dst (out' i)=frS ops a0 out' (fun j=>(listed.setIfInBounds i true).getD j false) m:=by
   intro out' hout;rw [KfC hil,Klf hsl hcl ho hun' m,if_pos him,KgQ m hout]
  have hT:(fun j=>(listed.setIfInBounds i true).getD j false && ev j)=if ev i=true then upd (fun j=>listed.getD j false && ev j) i true else (fun j=>listed.getD j false && ev j):=by
   funext j;rw [show (listed.setIfInBounds i true).getD j false=upd (fun j=>listed.getD j false) i true j from congrFun (KfC hil) j];by_cases he:ev i=true
   ·rw [if_pos he];by_cases hji:j=i
    ·subst hji;simp [upd,he]
    rw [upd_ne _ _ hji,upd_ne _ _ hji]
   rw [if_neg he];by_cases hji:j=i
   ·subst hji;simp [he]
   rw [upd_ne _ _ hji]
  have hoki:=hok i o him ho;have again:∀ (v:Value) (w':World),ev i=true→C (upd (fun j=>listed.getD j false && ev j) i true) (upd vals i v) w'→(Region.wanted o (yielded ops (fr ops a0 out i).tmps)=true∨v=undef)→C (fun j=>listed.getD j false && ev j) vals w →
    wpAny P .any ops Q fuel (listed.setIfInBounds i true) ((frS ops a0 out (fun j=>listed.getD j false) m).put o.dst v) w':=by
   intro v w' he hC' hwv n;obtain ⟨out',hok',hfin'⟩:=lx_good q d (hwalk (upd vals i v));have hok'':=hok';have hsame:∀ e,(listed.getD e false && ev e)=true→vals e=upd vals i v e:=fun e h=>by
    rw [upd_ne];intro u;subst u;rw [hun'] at h;cases h
   have y:=hloc _ vals (upd vals i v) w hsame n;have houts:=out_same hsl hp hcl (T:=fun j=>listed.getD j false && ev j) (fun _=>rfl) hpe hok hok'' hsame n y;have houts':∀ j,j < m→listed.getD j false=true→out j=out' j:=fun j hj h=>houts j hj ops[j] (Array.getElem?_eq_getElem (by omega)) h
   have z:alike ops o (fr ops a0 out i) (fr ops a0 out' i):=by
    have h1:=KeQ (a0:=a0) (out:=out) hsl hcl ho hun' hdeps m (by omega);have h2:=KeQ (a0:=a0) (out:=out') hsl hcl ho hun' hdeps m (by omega);rw [KgQ m houts'] at h1;exact fun t ht=>(h1 t ht).symm.trans (h2 t ht)
   have c:=hok'' i o him ho;have houti:out' i=v:=by
    unfold OK at c;rw [← Kex z] at c;by_cases hw:Region.wanted o (yielded ops (fr ops a0 out i).tmps)=true
    ·rw [if_pos hw,if_pos he] at c;rw [c.1,upd_same]
    rw [if_neg hw] at c;rw [c.1];rcases hwv with h|h
    ·exact absurd h hw
    exact h.symm
   have hh:=ih (listed.setIfInBounds i true) w' (upd vals i v) out' (by simpa using hsz) hok'' hfin' hhi' hcl' (by rw [hT,if_pos he];exact hC') hcount';rw [← hput out' houts',houti] at hh;exact hh
  unfold wpOp;simp only [ho];rw [Kex hal];unfold OK at hoki;by_cases hw:Region.wanted o (yielded ops (fr ops a0 out i).tmps)=true
  ·rw [if_pos hw];rw [if_pos hw] at hoki;refine .inl ?_;by_cases he:ev i=true
   ·rw [if_pos he] at hoki;have hg:=hoki.2 _ w hC (by simp [hun']) hpre';have A:Gives P o (frS ops a0 out (fun j=>listed.getD j false) m) w _:=Gives.congr (Kff hns hal) hg;exact Gives.wp (A.mono fun v w' hC'=>again v w' he hC' (.inl hw) hC)
   rw [if_neg he] at hoki;have hr:=hoki _ w hC hpre';rw [← Kff hns hal] at hr;have hh:=ih (listed.setIfInBounds i true) w vals out (by simpa using hsz) hok hfin hhi' hcl' (by rw [hT,if_neg he];exact hC) hcount';rw [← hput out (fun _ _ _=>rfl)] at hh;unfold Oper.wp;rw [hr];exact hh
  rw [if_neg hw];rw [if_neg hw] at hoki;by_cases he:ev i=true
  ·have hC':=hoki.2 he _ w hC (by simp [hun']);exact again undef w he hC' (.inr rfl) hC
  have hh:=ih (listed.setIfInBounds i true) w vals out (by simpa using hsz) hok hfin hhi' hcl' (by rw [hT,if_neg he];exact hC) hcount';rw [← hput out (fun _ _ _=>rfl),hoki.1] at hh;exact hh
theorem region_any {id:Nat}{w:World}{l1 l2:List Oper}(C:(Nat→Bool)→(Nat→Value)→World→Prop)(pre:Nat→List Nat)(ev:Nat→Bool)(tp:List (List Nat))(hfo:P.follows .mixedOrders=true)
  (hsl:slotsB (l1++l2).toArray=true) (hp:preB (l1++l2).toArray pre=true) (hpe:∀ i,∀ k∈pre i,ev k=true) (hevm:∀ i,ev i=true→i < l1.length) (hsuf:sufB (l1++l2).toArray tp l1.length=true)
  (hloc:∀ S vals vals' w,(∀ e,S e=true→vals e=vals' e)→C S vals w→C S vals' w)
  (h0:∀ vals,C (fun _=>false) vals { w with drawn:=w.drawn+1 })
  (hwalk:∀ vals,Lx P (l1++l2).toArray C pre ev vals (fun a=>∀ S w,(∀ i,ev i=true→S i=true)→C S vals w→wpList P (l1++l2).toArray Q l2 a w) 0 l1 a0) :
  (Code.region id (l1++l2).toArray true).wp P Q a0 w:=by
 refine wp_region_any hfo ?_;have d:∀ j,j < l1.length→l1[j]? = (l1++l2).toArray[j]?:=fun j hj=>by simp [List.getElem?_append_left hj]
 obtain ⟨out,hok,hfin⟩:=lx_good d rfl (hwalk (fun _=>undef));generalize hN:(l1++l2).toArray.size=N;have hrep:(fun j=>(Array.replicate N false).getD j false)=fun _=>false:=by
  funext j;by_cases hj:j < N<;>simp [hj]
 have hrj:∀ j,(Array.replicate N false).getD j false=false:=fun j=>congrFun hrep j
 have h:=any_all (Q:=Q) (a0:=a0) hsl hp hpe (by simp) rfl hevm hsuf hloc hwalk N (Array.replicate N false) { w with drawn:=w.drawn+1 } (fun _=>undef) out (by simp [← hN])
  hok hfin (fun j _=>hrj j) (by intro j o _ hj;have c:(Array.replicate N false).getD j false=true:=hj;rw [hrj] at c;cases c)
  (by
   have:(fun i=>(Array.replicate N false).getD i false && ev i)=fun _=>false:=by
    funext j;rw [hrj];rfl
   rw [this];exact h0 _)
  (by have:=List.countP_le_length (p:=fun b=>!b) (l:=(Array.replicate N false).toList);simpa using this)
 rw [hrep,Kkm _ (fun _ _=>rfl)] at h;exact h
end
end Go.Proofs.YtbbeiinofainlaaGreatDoor.Jx
namespace Go.Proofs.YtbbeiinofainlaaGreatDoor.Ab
section
open Go
abbrev Hp:=Addr→Option Value
def Hp.le (H H':Hp):Prop:=∀ a v,H a=some v→H' a=some v
theorem Hp.le_refl (H:Hp):H.le H:=fun _ _ h=>h
theorem Hp.le_trans {H H' H'':Hp}(h:H.le H')(k:H'.le H''):H.le H'':=fun a v x=>k a v (h a v x)
def tabG:Nat:=1
def tabC:List Value:=Lib.pow10Tab.map fun z=>Value.int .u64 z
def GG (H:Hp)(w:World):Prop:=(∃ v,H ⟨tabG,0,none⟩=some v)∧(∃ v,H ⟨tabG,19,none⟩=some v)∧∃ T fz,w.heap[tabG]? = some (.cells tabC.toArray T fz)
theorem GG.step {H H':Hp}{w w':World}(g:GG H w)(hl:H.le H')(hs:w'.heap[tabG]? = w.heap[tabG]?):GG H' w':=by
 obtain ⟨⟨v,h1⟩,⟨v',h2⟩,T,fz,a⟩:=g;exact ⟨⟨v,hl _ _ h1⟩,⟨v',hl _ _ h2⟩,T,fz,by rw [hs];exact a⟩
theorem GG.own {H:Hp}{w w':World}{b:Nat}(g:GG H w)(h:∀ o,H ⟨b,o,none⟩=none)(hs:∀ i,i ≠ b→w'.heap[i]? = w.heap[i]?):GG H w':=by
 refine g.step (Hp.le_refl H) (hs _ fun q=>?_);obtain ⟨⟨v,h1⟩,_⟩:=g;rw [q,h] at h1;cases h1
theorem GG.lt {H:Hp}{w:World}(g:GG H w):tabG < w.heap.size:=by
 obtain ⟨_,_,T,fz,a⟩:=g;rcases Nat.lt_or_ge tabG w.heap.size with hl|hl
 ·exact hl
 rw [Array.getElem?_eq_none hl] at a;cases a
structure Ag (H:Hp) (w:World):Prop where
 cells:∀ a v,H a=some v→w.cell? a=some v
 gg:GG H w
instance {H : Hp} {w : World} : CoeFun (Ag H w) fun _ => ∀ a v, H a = some v → w.cell? a = some v := ⟨Ag.cells⟩
def Told (H:Hp)(b off:Nat)(us:List Value):Prop:=∀ j u,us[j]? = some u→H ⟨b,off+j,none⟩=some u
theorem cell_lt {w:World}{a:Addr}{v:Value}(h:w.cell? a=some v):a.block < w.heap.size:=by
 unfold World.cell? at h;rcases Nat.lt_or_ge a.block w.heap.size with hl|hl
 ·exact hl
 rw [Array.getElem?_eq_none hl] at h;cases h
theorem Ag.lt {H:Hp}{w:World}(h:Ag H w){a:Addr}{v:Value}(ha:H a=some v):a.block < w.heap.size:=cell_lt (h a v ha)
inductive Cap where
 | no|full|cur (y:Value)
inductive D where
 | any
 | v (x:Value)
 | agg (l:List D)
 | lst (k:Nat) (xs:List D) (c:Cap)
 | el (d:D)
 | ptr (b o:Nat)
 | slf (b:Nat)
 | fn (f:Fn) (first captured:List D)
 | tup (l:List D)
def CapOK (c:Cap)(y:Value):Prop:=
 match c with
 | .no=>True
 | .full=>match y with|.slice _ n m=>m=n|_=>False
 | .cur z=>y=z
def D.shape (d:D)(y:Value):Bool:=
 match d,y with
 | .any,_=>true
 | .agg _,.agg _=>true
 | .agg _,_=>false
 | _,.agg _=>false
 | _,_=>true
def one:Value→Bool
 | .agg _=>false
 | .tuple _=>false
 | _=>true
def D.flat:D→Bool
 | .agg _=>false
 | _=>true
mutual
def RepC (H:Hp):D→List Value→Prop
 | .any,_=>True
 | .v x,us=>us=[x]
 | .agg l,us=>Reps H l us
 | .lst k xs c,us=>∃ y,us=[y]∧CapOK c y∧((xs=[]∧∃ a m,y=.slice a 0 m∧(a=none→m=0))∨∃ b off m,y=.slice (some ⟨b,off,none⟩) xs.length m∧xs.length≤m∧Els H k b off xs)
 | .el d,us=>∃ b off vs,us=[.pointer (some ⟨b,off,none⟩)]∧RepC H d vs∧Told H b off vs∧∀ u∈vs,one u=true
 | .ptr b o,us=>us=[.pointer (some ⟨b,o,none⟩)]
 | .slf b,us=>us=[.pointer none]∨us=[.pointer (some ⟨b,0,none⟩)]
 | .fn f as_ cs,us=>∃ vs ws,us=[.func f vs.toArray ws.toArray]∧RepsV H as_ vs∧RepsV H cs ws
 | .tup l,us=>∃ vs,us=[.tuple vs.toArray]∧RepsV H l vs
def Reps (H:Hp):List D→List Value→Prop
 | [],us=>us=[]
 | d::l,us=>∃ u us',us=u::us'∧(RepC H d [u]∧one u=true∧d.flat=true)∧Reps H l us'
def Els (H:Hp) (k b:Nat) (off:Nat):List D→Prop
 | []=>True
 | x::xs=>(∃ us,us.length=k∧RepC H x us∧Told H b off us∧∀ u∈us,one u=true)∧Els H k b (off+k) xs
def RepsV (H:Hp):List D→List Value→Prop
 | [],vs=>vs=[]
 | d::l,vs=>∃ u us',vs=u::us'∧(RepC H d u.cells.toList∧d.shape u=true)∧RepsV H l us'
end
def Rep (H:Hp)(d:D)(y:Value):Prop:=RepC H d y.cells.toList∧d.shape y=true
theorem Told.mono {H H':Hp}(h:H.le H'){b off:Nat}{us:List Value}(k:Told H b off us):Told H' b off us:=fun j u hj=>h _ _ (k j u hj)
mutual
theorem RepC.mono {H H':Hp}(h:H.le H'):∀ (d:D) (us:List Value),RepC H d us→RepC H' d us
 | .any,_,_=>by simp only [RepC]
 | .v x,us,k=>by simp only [RepC] at k ⊢;exact k
 | .agg l,us,k=>by simp only [RepC] at k ⊢;exact Reps.mono h l us k
 |
  .lst kk xs c,us,k=>by
  simp only [RepC] at k ⊢;obtain ⟨y,e,hc,hk⟩:=k;refine ⟨y,e,hc,?_⟩;rcases hk with hk|⟨b,off,m,g,j,n⟩
  ·exact .inl hk
  exact .inr ⟨b,off,m,g,j,Els.mono h kk b off xs n⟩
 |
  .el d,us,k=>by
  simp only [RepC] at k ⊢;obtain ⟨b,off,vs,e,h1,h2,a⟩:=k;exact ⟨b,off,vs,e,RepC.mono h d vs h1,h2.mono h,a⟩
 | .ptr b o,us,k=>by simp only [RepC] at k ⊢;exact k
 | .slf b,us,k=>by simp only [RepC] at k ⊢;exact k
 |
  .fn f as_ cs,us,k=>by
  simp only [RepC] at k ⊢;obtain ⟨vs,ws,e,h1,h2⟩:=k;exact ⟨vs,ws,e,RepsV.mono h as_ vs h1,RepsV.mono h cs ws h2⟩
 |
  .tup l,us,k=>by
  simp only [RepC] at k ⊢;obtain ⟨vs,e,h1⟩:=k;exact ⟨vs,e,RepsV.mono h l vs h1⟩
theorem Reps.mono {H H':Hp} (h:H.le H'):∀ (l:List D) (us:List Value),Reps H l us→Reps H' l us
 | [],us,k=>by simp only [Reps] at k ⊢;exact k
 |
  d::l,us,k=>by
  simp only [Reps] at k ⊢;obtain ⟨u,us',e,⟨h1,h0⟩,h2⟩:=k;exact ⟨u,us',e,⟨RepC.mono h d _ h1,h0⟩,Reps.mono h l _ h2⟩
theorem Els.mono {H H':Hp} (h:H.le H') (k b off:Nat):∀ (l:List D),Els H k b off l→Els H' k b off l
 | [],_=>by simp only [Els]
 |
  x::xs,q=>by
  simp only [Els] at q ⊢;obtain ⟨⟨us,e,h1,h2,h0⟩,a⟩:=q;exact ⟨⟨us,e,RepC.mono h x us h1,h2.mono h,h0⟩,Els.mono h k b (off+k) xs a⟩
theorem RepsV.mono {H H':Hp} (h:H.le H'):∀ (l:List D) (us:List Value),RepsV H l us→RepsV H' l us
 | [],us,k=>by simp only [RepsV] at k ⊢;exact k
 |
  d::l,us,k=>by
  simp only [RepsV] at k ⊢;obtain ⟨u,us',e,h1,h2⟩:=k;exact ⟨u,us',e,⟨RepC.mono h d _ h1.1,h1.2⟩,RepsV.mono h l _ h2⟩
end
theorem Rep.mono {H H':Hp}(h:H.le H'){d:D}{y:Value}(k:Rep H d y):Rep H' d y:=⟨RepC.mono h d _ k.1,k.2⟩
structure Opq where
 cl:List Nat
 Q:Hp→World→Prop
 lt:∀ H w,Q H w→∀ b∈cl,b < w.heap.size
 later:∀ H H' w w',Q H w→H.le H'→(∀ b∈cl,w'.heap[b]? = w.heap[b]?)→(∀ b∈cl,(∀ o,H ⟨b,o,none⟩=none)→∀ o,H' ⟨b,o,none⟩=none)→Q H' w'
inductive Blk where
 | cells (ds:List D) (T:TypeId)
 | row (k:Nat) (xs:List D) (y:Value)
 | told (k:Nat) (xs:List D) (y:Value)
 | mp (es:List (Value×D))
 | opq (o:Opq)
def MapR (H:Hp):List (Value×D)→List MapEntry→Prop
 | [],me=>me=[]
 | x::es,me=>∃ e me',me=e::me'∧e.key=x.1∧Rep H x.2 e.val∧MapR H es me'
theorem MapR.mono {H H':Hp}(h:H.le H'):∀ {es:List (Value×D)} {me:List MapEntry},MapR H es me→MapR H' es me
 | [],me,q=>q
 |
  x::es,me,q=>by
  obtain ⟨e,me',a,b,c,d⟩:=q;exact ⟨e,me',a,b,c.mono h,d.mono h⟩
def FlatR (H:Hp)(k:Nat):List D→List Value→Prop
 | [],us=>us=[]
 | x::xs,us=>∃ a b,us=a++b∧a.length=k∧(RepC H x a∧∀ u∈a,one u=true)∧FlatR H k xs b
theorem FlatR.mono {H H':Hp}(h:H.le H'){k:Nat}:∀ {xs:List D} {us:List Value},FlatR H k xs us→FlatR H' k xs us
 | [],us,q=>q
 |
  x::xs,us,q=>by
  obtain ⟨a,b,e,hl,⟨h1,h2⟩,c⟩:=q;exact ⟨a,b,e,hl,⟨RepC.mono h x a h1,h2⟩,c.mono h⟩
def Kau:Value→List Nat
 | .slice (some a) _ m=>if 0 < m then [a.block] else []
 | _=>[]
def BlkOK (H:Hp)(w:World):Nat×Blk→Prop
 | (b,.cells ds T)=>∃ us:List Value,w.heap[b]? = some (.cells us.toArray T (0,0))∧Reps H ds us∧(∀ o,H ⟨b,o,none⟩=none)
 | (_,.row k xs y)=>(∃ a,y=.slice a 0 0∧xs=[])∨∃ (b m:Nat) (us rest:List Value) (T:TypeId),y=.slice (some ⟨b,0,none⟩) xs.length m∧xs.length≤m∧0 < m∧w.heap[b]? = some (.cells (us++rest).toArray T (0,0))∧FlatR H k xs us∧m*k≤(us++rest).length∧∀ o,H ⟨b,o,none⟩=none
 | (_,.told k xs y)=>RepC H (.lst k xs (.cur y)) [y]
 | (b,.mp es)=>∃ me ck,w.heap[b]? = some (.map me ck)∧MapR H es me.toList∧(∀ o,H ⟨b,o,none⟩=none)
 | (_,.opq o)=>o.Q H w
def K0:Nat×Blk→List Nat
 | (b,.cells _ _)=>[b]
 | (_,.row _ _ y)=>Kau y
 | (_,.told _ _ _)=>[]
 | (b,.mp _)=>[b]
 | (_,.opq o)=>o.cl
def TokOK (H:Hp)(w:World):Nat×Value→Prop
 |
  (k,y)=>∀ a n m,y=.slice (some a) n m→n < m →
  ∃ cs T,w.heap[a.block]? = some (.cells cs T (0,0))∧a.spot=none∧a.off+m*k≤cs.size∧∀ o,a.off+n*k≤o→H ⟨a.block,o,none⟩=none
def Kcn:Nat×Value→List Nat
 | (_,.slice (some a) n m)=>if n < m then [a.block] else []
 | _=>[]
def KP (h:List (Nat×Blk))(k:List (Nat×Value)):List Nat:=h.flatMap K0++k.flatMap Kcn
structure Ctx where
 H:Hp
 w:World
 M:List Nat
abbrev drw (_:World):Nat:=0
def Env (a b:World):Prop:=b.os=a.os∧b.tape=a.tape∧b.output=a.output∧drw a≤drw b
theorem Env.refl (w:World):Env w w:=⟨rfl,rfl,rfl,Nat.le_refl _⟩
theorem Env.trans {a b c:World}(h:Env a b)(k:Env b c):Env a c:=⟨k.1.trans h.1,k.2.1.trans h.2.1,k.2.2.1.trans h.2.2.1,Nat.le_trans h.2.2.2 k.2.2.2⟩
structure Core (C:Ctx) (H:Hp) (h:List (Nat×Blk)) (k:List (Nat×Value)) (w:World):Prop where
 ag:Ag H w
 le:C.H.le H
 new:∀ a v,H a=some v→C.H a=some v∨C.w.heap.size≤a.block∨a.block∈C.M
 same:∀ b,b < C.w.heap.size→b ∉ C.M→w.heap[b]? = C.w.heap[b]?
 size:C.w.heap.size≤w.heap.size
 blks:∀ p∈h,BlkOK H w p
 toks:∀ p∈k,TokOK H w p
 nd:(KP h k).Nodup
 own:∀ b∈KP h k,b∈C.M∨C.w.heap.size≤b
 env:Env C.w w
theorem KjF {H:Hp}{h:List (Nat×Blk)}{k:List (Nat×Value)}{w:World}(hb:∀ p∈h,BlkOK H w p)(ht:∀ p∈k,TokOK H w p):∀ b∈KP h k,b < w.heap.size:=by
 intro b hc;simp only [KP,List.mem_append,List.mem_flatMap] at hc;rcases hc with ⟨⟨b',bl⟩,hp,hq⟩|⟨⟨kk,y⟩,hp,hy⟩
 ·cases bl with
  |
   cells ds T=>
   simp only [K0,List.mem_singleton] at hq;subst hq;obtain ⟨us,h1,_⟩:=hb _ hp;exact (Array.getElem?_eq_some_iff.1 h1).1
  |
   row kk xs y=>
   rcases hb _ hp with ⟨a,e,_⟩|⟨f,m,us,rest,T,e,_,c,h1,_⟩
   ·subst e;cases a<;>simp [K0,Kau] at hq
   subst e;simp only [K0,Kau,if_pos c,List.mem_singleton] at hq;subst hq;exact (Array.getElem?_eq_some_iff.1 h1).1
  | told kk xs y=>simp [K0] at hq
  |
   mp es=>
   simp only [K0,List.mem_singleton] at hq;subst hq;obtain ⟨me,ck,h1,_⟩:=hb _ hp;exact (Array.getElem?_eq_some_iff.1 h1).1
  | opq o=>exact o.lt _ _ (hb _ hp) _ hq
 have:=ht _ hp;unfold Kcn at hy;split at hy
 ·rename_i g a n m e;split at hy
  ·rename_i hlt;simp only [Prod.mk.injEq] at e;obtain ⟨j,d⟩:=e;subst d;obtain ⟨cs,T,h1,_⟩:=this a n m rfl hlt;simp only [List.mem_singleton] at hy;subst hy;exact (Array.getElem?_eq_some_iff.1 h1).1
  cases hy
 cases hy
theorem Core.lt {C:Ctx}{H:Hp}{h:List (Nat×Blk)}{k:List (Nat×Value)}{w:World}(c:Core C H h k w):∀ b∈KP h k,b < w.heap.size:=KjF c.blks c.toks
theorem KiX {H H':Hp}{w w':World}{M:List Nat}{h':List (Nat×Blk)}{k':List (Nat×Value)}(c:Core ⟨H,w,M⟩ H' h' k' w'){b:Nat}(hlt:b < w.heap.size)(a:b ∉ M)(d:∀ o,H ⟨b,o,none⟩=none)(o:Nat):H' ⟨b,o,none⟩=none:=by
 cases e:H' ⟨b,o,none⟩ with
 | none=>rfl
 |
  some v=>
  rcases c.new _ v e with x|x|x
  ·have x':H ⟨b,o,none⟩=some v:=x;rw [d] at x';cases x'
  ·exact absurd x (by show ¬ w.heap.size≤b;omega)
  exact absurd x a
theorem BlkOK.later {H H':Hp}{w w':World}{M:List Nat}{h':List (Nat×Blk)}{k':List (Nat×Value)}(c:Core ⟨H,w,M⟩ H' h' k' w'){p:Nat×Blk}(h:BlkOK H w p)(a:∀ b∈K0 p,b ∉ M):BlkOK H' w' p:=by
 obtain ⟨b,bl⟩:=p;cases bl with
 |
  cells ds T=>
  obtain ⟨us,h1,h2,d⟩:=h;have hlt:=(Array.getElem?_eq_some_iff.1 h1).1;have hm':=a b (by simp [K0]);exact ⟨us,by rw [c.same b hlt hm'];exact h1,Reps.mono c.le _ _ h2,KiX c hlt hm' d⟩
 |
  row kk xs y=>
  rcases h with h|⟨f,m,us,rest,T,e,h0,hmp,h1,h2,d,g⟩
  ·exact .inl h
  have hlt:=(Array.getElem?_eq_some_iff.1 h1).1;have hm':=a f (by subst e;simp [K0,Kau,hmp]);exact .inr ⟨f,m,us,rest,T,e,h0,hmp,by rw [c.same f hlt hm'];exact h1,h2.mono c.le,d,KiX c hlt hm' g⟩
 | told kk xs y=>exact RepC.mono c.le _ _ h
 |
  mp es=>
  obtain ⟨me,ck,h1,h2,d⟩:=h;have hlt:=(Array.getElem?_eq_some_iff.1 h1).1;have hm':=a b (by simp [K0]);exact ⟨me,ck,by rw [c.same b hlt hm'];exact h1,h2.mono c.le,KiX c hlt hm' d⟩
 | opq o=>exact o.later H H' w w' h c.le (fun b hb=>c.same b (o.lt _ _ h b hb) (a b hb)) (fun b hb hn=>KiX c (o.lt _ _ h b hb) (a b hb) hn)
theorem TokOK.later {H H':Hp}{w w':World}{M:List Nat}{h':List (Nat×Blk)}{k':List (Nat×Value)}(c:Core ⟨H,w,M⟩ H' h' k' w'){p:Nat×Value}(h:TokOK H w p)(d:∀ b∈Kcn p,b ∉ M):TokOK H' w' p:=by
 obtain ⟨kk,y⟩:=p;intro a n m e hlt;subst e;obtain ⟨cs,T,h1,h2,f,g⟩:=h a n m rfl hlt;have hl:=(Array.getElem?_eq_some_iff.1 h1).1;have hm':=d a.block (by simp [Kcn,hlt]);refine ⟨cs,T,by rw [c.same _ hl hm'];exact h1,h2,f,fun o ho=>?_⟩;cases e:H' ⟨a.block,o,none⟩ with
 | none=>rfl
 |
  some v=>
  rcases c.new _ v e with x|x|x
  ·have x':H ⟨a.block,o,none⟩=some v:=x;rw [g o ho] at x';cases x'
  ·exact absurd x (by show ¬ w.heap.size≤a.block;omega)
  exact absurd x hm'
theorem KbM (h1 h2:List (Nat×Blk))(k1 k2:List (Nat×Value)):(KP (h1++h2) (k1++k2)).Perm (KP h1 k1++KP h2 k2):=by
 unfold KP;rw [List.flatMap_append,List.flatMap_append];generalize List.flatMap K0 h1=a;generalize List.flatMap K0 h2=b;generalize List.flatMap Kcn k1=c;generalize List.flatMap Kcn k2=d;have:(a++b++(c++d)).Perm (a++c++(b++d)):=by
  rw [List.append_assoc,List.append_assoc];refine List.Perm.append_left a ?_;rw [← List.append_assoc,← List.append_assoc];exact List.Perm.append_right d List.perm_append_comm
 exact this
theorem Core.call {C:Ctx}{H H':Hp}{h1 h2 h1':List (Nat×Blk)}{k1 k2 k1':List (Nat×Value)}{w w':World}(c:Core C H (h1++h2) (k1++k2) w)(c':Core ⟨H,w,KP h1 k1⟩ H' h1' k1' w') :
  Core C H' (h1'++h2) (k1'++k2) w':=by
 have hp:=KbM h1 h2 k1 k2;have hp':=KbM h1' h2 k1' k2;have nd:=hp.nodup_iff.1 c.nd;rw [List.nodup_append] at nd;obtain ⟨n,m,f⟩:=nd;have hlt:=c.lt;have j:∀ p∈h2,BlkOK H w p:=fun p hp=>c.blks p (List.mem_append_right _ hp)
 have l:∀ p∈k2,TokOK H w p:=fun p hp=>c.toks p (List.mem_append_right _ hp)
 refine ⟨c'.ag,Hp.le_trans c.le c'.le,?_,?_,Nat.le_trans c.size c'.size,?_,?_,?_,?_,c.env.trans c'.env⟩
 ·intro a v hv;rcases c'.new a v hv with x|x|x
  ·exact c.new a v x
  ·exact .inr (.inl (Nat.le_trans c.size x))
  rcases c.own a.block (hp.mem_iff.2 (List.mem_append_left _ x)) with y|y
  ·exact .inr (.inr y)
  exact .inr (.inl y)
 ·intro b hb d;rw [c'.same b (Nat.lt_of_lt_of_le hb c.size) ?_,c.same b hb d];intro x;rcases c.own b (hp.mem_iff.2 (List.mem_append_left _ x)) with y|y
  ·exact d y
  omega
 ·intro p g;rcases List.mem_append.1 g with x|x
  ·exact c'.blks p x
  refine (j p x).later c' fun b hb d=>?_
  exact f _ d _ (by simp only [KP,List.mem_append,List.mem_flatMap];exact .inl ⟨p,x,hb⟩) rfl
 ·intro p g;rcases List.mem_append.1 g with x|x
  ·exact c'.toks p x
  refine (l p x).later c' fun b hb d=>?_
  exact f _ d _ (by simp only [KP,List.mem_append,List.mem_flatMap];exact .inr ⟨p,x,hb⟩) rfl
 ·rw [hp'.nodup_iff,List.nodup_append];refine ⟨c'.nd,m,fun a ha b hb e=>?_⟩;subst e;rcases c'.own a ha with x|x
  ·exact f a x a hb rfl
  have:=KjF j l a hb;exact absurd x (by show ¬ w.heap.size≤a;omega)
 intro b hb;rcases List.mem_append.1 (hp'.mem_iff.1 hb) with x|x
 ·rcases c'.own b x with y|y
  ·exact c.own b (hp.mem_iff.2 (List.mem_append_left _ y))
  exact .inr (Nat.le_trans c.size y)
 exact c.own b (hp.mem_iff.2 (List.mem_append_right _ x))
theorem Kkb {h h':List (Nat×Blk)}{k k':List (Nat×Value)}(hh:h.Perm h')(hk:k.Perm k'):(KP h k).Perm (KP h' k'):=
 List.Perm.append (hh.flatMap_right _) (hk.flatMap_right _)
theorem Core.perm {C:Ctx}{H:Hp}{h h':List (Nat×Blk)}{k k':List (Nat×Value)}{w:World}(c:Core C H h k w)(hh:h.Perm h')(hk:k.Perm k'):Core C H h' k' w:=
 ⟨c.ag,c.le,c.new,c.same,c.size,fun p hp=>c.blks p (hh.mem_iff.2 hp),fun p hp=>c.toks p (hk.mem_iff.2 hp),(Kkb hh hk).nodup_iff.1 c.nd,fun b hb=>c.own b ((Kkb hh hk).mem_iff.2 hb),c.env⟩
theorem Kkc {α β:Type}{f:α→List β}{k k':List α}(hk:k'.Sublist k):(k'.flatMap f).Sublist (k.flatMap f):=by
 induction hk with
 | slnil=>exact List.Sublist.refl _
 | cons a _ ih=>simp only [List.flatMap_cons];exact ih.trans (List.sublist_append_right _ _)
 | cons_cons a _ ih=>simp only [List.flatMap_cons];exact List.Sublist.append (List.Sublist.refl _) ih
theorem KkK {h h':List (Nat×Blk)}{k k':List (Nat×Value)}(hh:h'.Sublist h)(hk:k'.Sublist k):(KP h' k').Sublist (KP h k):=
 List.Sublist.append (Kkc hh) (Kkc hk)
theorem KiY {h:List (Nat×Blk)}{k:List (Nat×Value)}{j:Nat}{x y:Nat×Blk}(hj:h[j]? = some x)(e:K0 y=K0 x):KP (h.set j y) k=KP h k:=by
 unfold KP;congr 1;induction h generalizing j with
 | nil=>simp at hj
 |
  cons a h ih=>
  cases j with
  | zero=>simp at hj;subst hj;simp only [List.set_cons_zero,List.flatMap_cons,e]
  | succ j=>simp at hj;simp only [List.set_cons_succ,List.flatMap_cons,ih hj]
theorem Core.drop {C:Ctx}{H:Hp}{h h':List (Nat×Blk)}{k k':List (Nat×Value)}{w:World}(c:Core C H h k w)(hh:h'.Sublist h)(hk:k'.Sublist k):Core C H h' k' w:=
 ⟨c.ag,c.le,c.new,c.same,c.size,fun p hp=>c.blks p (hh.subset hp),fun p hp=>c.toks p (hk.subset hp),(KkK hh hk).nodup c.nd,fun b hb=>c.own b ((KkK hh hk).subset hb),c.env⟩
end
section
open Go
theorem Kdl {u:Value}(h:one u=true):u.cells.toList=[u]:=by cases u<;>simp_all [one,Value.cells]
theorem Kbi {H:Hp}{d:D}{u:Value}(h:RepC H d [u])(h1:one u=true)(h2:d.flat=true):Rep H d u:=by
 refine ⟨by rw [Kdl h1];exact h,?_⟩;cases d<;>cases u<;>simp_all [D.shape,D.flat,one]
theorem Kip {H:Hp}{l:List D}{us:List Value}(h:Reps H l us):Rep H (.agg l) (.agg us.toArray):=⟨by simp only [Value.cells,RepC];exact h,rfl⟩
theorem KdR {H:Hp}{l:List D}{y:Value}(h:Rep H (.agg l) y):∃ us,y=.agg us.toArray∧Reps H l us:=by
 obtain ⟨h1,h2⟩:=h;cases y<;>simp [D.shape] at h2;rename_i cs;exact ⟨cs.toList,by simp,by simpa [RepC,Value.cells] using h1⟩
theorem KW {H:Hp}{x y:Value}(h:Rep H (.v x) y):y=x:=by
 obtain ⟨h1,h2⟩:=h;cases y<;>simp [D.shape] at h2<;>simp [RepC,Value.cells] at h1<;>simp [h1]
theorem rep_v {H:Hp}{x:Value}(h:one x=true):Rep H (.v x) x:=Kbi (by simp [RepC]) h rfl
theorem Kcu {H:Hp}:∀ {l:List D} {us:List Value},Reps H l us→us.length=l.length
 | [],us,h=>by simp only [Reps] at h;subst h;rfl
 |
  d::l,us,h=>by
  simp only [Reps] at h;obtain ⟨u,us',rfl,_,h2⟩:=h;simp [Kcu h2]
theorem Khl {H:Hp}:∀ {l:List D} {us:List Value},Reps H l us→∀ {i:Nat} {d:D},l[i]? = some d→∃ u,us[i]? = some u∧RepC H d [u]∧one u=true∧d.flat=true
 | [],us,h,i,d,e=>by simp at e
 |
  d0::l,us,h,i,d,e=>by
  simp only [Reps] at h;obtain ⟨u,us',rfl,h1,h2⟩:=h;cases i with
  | zero=>simp at e;subst e;exact ⟨u,by simp,h1⟩
  | succ i=>simp at e;simpa using Khl h2 e
theorem KfL {H:Hp}:∀ (n:Nat) {l:List D} {us:List Value},Reps H l us→Reps H (l.drop n) (us.drop n)
 | 0,_,_,h=>by simpa using h
 | n+1,[],us,h=>by simp only [Reps] at h;subst h;simp [Reps]
 |
  n+1,d::l,us,h=>by
  simp only [Reps] at h;obtain ⟨u,us',rfl,_,h2⟩:=h;simpa using KfL n h2
theorem KfM {H:Hp}:∀ (n:Nat) {l:List D} {us:List Value},Reps H l us→Reps H (l.take n) (us.take n)
 | 0,_,_,h=>by simp [Reps]
 | n+1,[],us,h=>by simp only [Reps] at h;subst h;simp [Reps]
 |
  n+1,d::l,us,h=>by
  simp only [Reps] at h;obtain ⟨u,us',rfl,h1,h2⟩:=h;simp only [List.take_succ_cons,Reps];exact ⟨u,_,rfl,h1,KfM n h2⟩
theorem Kfq {H:Hp}:∀ {l m:List D} {us vs:List Value},Reps H l us→Reps H m vs→Reps H (l++m) (us++vs)
 | [],m,us,vs,h,k=>by simp only [Reps] at h;subst h;simpa using k
 |
  d::l,m,us,vs,h,k=>by
  simp only [Reps] at h;obtain ⟨u,us',rfl,h1,h2⟩:=h;simp only [List.cons_append,Reps];exact ⟨u,_,rfl,h1,Kfq h2 k⟩
theorem KeZ {H:Hp}:∀ {l:List D} {us:List Value},Reps H l us→∀ u∈us,one u=true
 | [],us,h,u,hu=>by simp only [Reps] at h;subst h;cases hu
 |
  d::l,us,h,u,hu=>by
  simp only [Reps] at h;obtain ⟨u',us',rfl,h1,h2⟩:=h;rcases List.mem_cons.1 hu with rfl|a
  ·exact h1.2.1
  exact KeZ h2 u a
theorem Klg {H:Hp}:∀ (l:List Value),(∀ u∈l,one u=true)→Reps H (l.map .v) l
 | [],_=>by simp [Reps]
 |
  u::l,h=>by
  simp only [List.map_cons,Reps];exact ⟨u,l,rfl,⟨by simp [RepC],h u (by simp),rfl⟩,Klg l fun x hx=>h x (by simp [hx])⟩
inductive TD where
 | bool|str|other
 | int (k:IntKind)
 | slice (e:Nat)
 | ptr (e:Nat)
 | array (n e:Nat)
 | map (k e:Nat)
 | struct (fs:List (Nat×Nat))
def tdOf:TypeDesc→TD
 | .bool=>.bool
 | .string=>.str
 | .int k=>.int k
 | .slice e=>.slice e
 | .pointer e=>.ptr e
 | .array n e=>.array n e
 | .map k e=>.map k e
 | .struct fs=>.struct (fs.toList.map fun f=>(f.type,f.offset))
 | _=>.other
structure TI where
 d:TD
 size:Nat
 bytes:Nat
 zero:List Value
def tiOf (P:Program)(t:TypeId):Option TI:=
 match P.info? t,P.underlying t with
 |
  some i,some d=>match i.zero with
  | some z=>some ⟨tdOf d,i.size,i.bytes,z.cells.toList⟩
  | none=>none
 | _,_=>none
def TabOK (P:Program)(tab:List (Option TI)):Prop:=∀ t i,tab[t]? = some (some i)→tiOf P t=some i
def fillT (P:Program):Nat→List (Option TI)→List (Option TI)
 | _,[]=>[]
 | t,none::l=>none::fillT P (t+1) l
 | t,some _::l=>tiOf P t::fillT P (t+1) l
theorem KjG {P:Program}:∀ (l:List (Option TI)) (j t:Nat) (i:TI),(fillT P j l)[t]? = some (some i)→tiOf P (j+t)=some i
 | [],j,t,i,h=>by simp [fillT] at h
 | none::l,j,0,i,h=>by simp [fillT] at h
 |
  none::l,j,t+1,i,h=>by
  simp only [fillT,List.getElem?_cons_succ] at h;have:=KjG l (j+1) t i h;rwa [show j+(t+1)=j+1+t by omega]
 | some _::l,j,0,i,h=>by simpa [fillT] using h
 |
  some _::l,j,t+1,i,h=>by
  simp only [fillT,List.getElem?_cons_succ] at h;have:=KjG l (j+1) t i h;rwa [show j+(t+1)=j+1+t by omega]
theorem tab_ok {P:Program}{tab:List (Option TI)}(h:fillT P 0 tab=tab):TabOK P tab:=by
 intro t i e;rw [← h] at e;have:=KjG tab 0 t i e;rwa [Nat.zero_add] at this
theorem KfD {P:Program}{t:TypeId}{i:TI}(h:tiOf P t=some i):∃ ti z d,P.info? t=some ti∧P.underlying t=some d∧tdOf d=i.d∧ti.size=i.size∧ti.bytes=i.bytes∧ti.zero=some z∧z.cells.toList=i.zero:=by
 unfold tiOf at h;split at h
 ·rename_i ti d h1 h2;split at h
  ·rename_i z hz;simp only [Option.some.injEq] at h;subst h;exact ⟨ti,z,d,h1,h2,rfl,rfl,rfl,hz,rfl⟩
  cases h
 cases h
def TI.agg (i:TI):Bool:=
 match i.d with
 | .struct _=>true
 | .array _ _=>true
 | _=>false
def ti (tab:List (Option TI))(t:TypeId):Option TI:=(tab[t]?).join
theorem ti_ok {P:Program}{tab:List (Option TI)}(h:TabOK P tab){t:TypeId}{i:TI}(e:ti tab t=some i):tiOf P t=some i:=by
 unfold ti at e;cases h0:tab[t]? with
 | none=>rw [h0] at e;cases e
 | some o=>rw [h0] at e;simp at e;subst e;exact h t i h0
section
variable {P : Program} {w : World} {t : TypeId} {i : TI}
theorem KcG {α:Type}(x:α):(Pure.pure x:Sem α).run P w=.ok x w:=rfl
theorem Kcz {α β:Type}(x:Sem α)(f:α→Sem β):(x >>= f).run P w=match x.run P w with|.ok a w'=>(f a).run P w'|.halt h w'=>.halt h w':=by
 show (x.bind f).run P w=_
 induction x generalizing w with
 | pure a=>rfl
 | load m a k ih=>simp only [Sem.bind,Sem.run];(repeat' split)<;>simp_all
 | store m a v k ih=>cases v<;>simp only [Sem.bind,Sem.run]<;>(try (repeat' split))<;>simp_all
 | new o k ih=>simp only [Sem.bind,Sem.run];exact ih _
 | shape r k ih=>simp only [Sem.bind,Sem.run];exact ih _
 | freeze a n k ih=>simp only [Sem.bind,Sem.run];exact ih
 | frozen a k ih=>simp only [Sem.bind,Sem.run];exact ih _
 | getObj r k ih=>simp only [Sem.bind,Sem.run];split<;>simp_all
 | setObj r o k ih=>simp only [Sem.bind,Sem.run];split<;>simp_all
 | choose q k ih=>simp only [Sem.bind,Sem.run];split<;>simp_all
 | sys c k ih=>simp only [Sem.bind,Sem.run];exact ih _
 | program k ih=>simp only [Sem.bind,Sem.run];exact ih _
 | mark m k ih=>simp only [Sem.bind,Sem.run];exact ih
 | halt h=>rfl
theorem Kw {α β:Type}{x:Sem α}{f:α→Sem β}{a:α}{w':World}(h:x.run P w=.ok a w'):(x >>= f).run P w=(f a).run P w':=by rw [Kcz,h]
theorem Kak (h:tiOf P t=some i):∃ d,(Go.underlying t).run P w=.ok d w∧tdOf d=i.d:=by
 obtain ⟨ti,z,d,h1,h2,b,_⟩:=KfD h;refine ⟨d,?_,b⟩;unfold Go.underlying Go.program;rw [Kw (a:=P) rfl,h2];rfl
theorem Kd0 (h:tiOf P t=some i):∃ ti z,(Go.typeInfo t).run P w=.ok ti w∧ti.size=i.size∧ti.bytes=i.bytes∧ti.zero=some z∧z.cells.toList=i.zero:=by
 obtain ⟨ti,z,d,h1,h2,_,b,c,e,f⟩:=KfD h;refine ⟨ti,z,?_,b,c,e,f⟩;unfold Go.typeInfo Go.program;rw [Kw (a:=P) rfl,h1];rfl
theorem Kby (h:tiOf P t=some i):(Go.sizeOf t).run P w=.ok i.size w:=by
 obtain ⟨ti,z,h1,h2,_⟩:=Kd0 (w:=w) h;unfold Go.sizeOf;rw [Kw h1,h2];rfl
theorem Kcr (h:tiOf P t=some i):∃ z,(Go.zeroValue t).run P w=.ok z w∧z.cells.toList=i.zero:=by
 obtain ⟨ti,z,h1,h2,c,a,b⟩:=Kd0 (w:=w) h;refine ⟨z,?_,b⟩;unfold Go.zeroValue;rw [Kw h1,a];rfl
theorem Klh (h:tiOf P t=some i):(Go.isAgg t).run P w=.ok i.agg w:=by
 obtain ⟨d,h1,h2⟩:=Kak (w:=w) h;unfold Go.isAgg;rw [Kw h1];unfold TI.agg;rw [← h2];cases d<;>first|rfl|trivial
end
def partD (i:TI)(ds:List D)(off:Nat):Option D:=
 bif i.agg then (bif Nat.ble (off+i.size) ds.length then some (.agg ((ds.drop off).take i.size)) else none) else ds[off]?
theorem KiZ {P:Program}{w:World}{t:TypeId}{i:TI}{H:Hp}{ds:List D}{us:List Value}{off:Nat}{d:D}(hi:tiOf P t=some i)(h:Reps H ds us)(e:partD i ds off=some d) :
  ∃ v,(Go.part t us.toArray off).run P w=.ok v w∧Rep H d v:=by
 unfold Go.part;rw [Kw (Klh hi)];unfold partD at e;cases hg:i.agg with
 |
  true=>
  rw [hg] at e;simp only [cond_true] at e;cases hb:Nat.ble (off+i.size) ds.length with
  | false=>rw [hb] at e;cases e
  |
   true=>
   rw [hb] at e;simp only [cond_true,Option.some.injEq] at e;subst e;refine ⟨.agg ((us.drop off).take i.size).toArray,?_,Kip (KfM _ (KfL _ h))⟩;simp only [if_true];rw [Kw (Kby hi)];show Result.ok (Value.agg (us.toArray.extract off (off+i.size))) w=_
   rw [List.extract_toArray,List.extract_eq_take_drop];simp
 |
  false=>
  rw [hg] at e;simp only [cond_false] at e;obtain ⟨u,h1,h2,a,b⟩:=Khl h e;refine ⟨u,?_,Kbi h2 a b⟩;simp [h1];first|rfl|done
def look:List (Nat×D)→Nat→Option D
 | [],_=>none
 | (j,d)::t,i=>bif Nat.beq j i then some d else look t i
def TOK (H:Hp)(t:List (Nat×D))(a:Act):Prop:=∀ i d,look t i=some d→∃ v,a.tmps[i]? = some v∧Rep H d v
theorem TOK.mono {H H':Hp}(h:H.le H'){t:List (Nat×D)}{a:Act}(k:TOK H t a):TOK H' t a:=fun i d e=>let ⟨v,h1,h2⟩:=k i d e;⟨v,h1,h2.mono h⟩
theorem TOK.put {H:Hp}{t:List (Nat×D)}{a:Act}(k:TOK H t a){i:Nat}{d:D}{v:Value}(hi:i < a.tmps.size)(hv:Rep H d v):TOK H ((i,d)::t) (a.put (some i) v):=by
 intro j d' e;simp only [look] at e;simp only [Act.put];cases hb:Nat.beq i j with
 |
  true=>
  rw [hb] at e;simp at e;subst e;have:=Nat.eq_of_beq_eq_true hb;subst this;exact ⟨v,by simp [hi],hv⟩
 |
  false=>
  rw [hb] at e;simp at e;have:i ≠ j:=Nat.ne_of_beq_eq_false hb;obtain ⟨u,h1,h2⟩:=k j d' e;exact ⟨u,by rw [Array.getElem?_setIfInBounds_ne this];exact h1,h2⟩
def ofVal:Value→D
 | .agg cs=>.agg (cs.toList.map .v)
 | .slice none 0 0=>.lst 1 [] .full
 | x=>.v x
def valOK:Value→Bool
 | .agg cs=>cs.toList.all one
 | .tuple _=>false
 | _=>true
def opD (t:List (Nat×D)):Operand→Option D
 | .tmp i=>look t i
 | .const v=>bif valOK v then some (ofVal v) else none
 | .func f=>some (.fn (.func f) [] [])
 | .global g=>some (.v (.pointer (some ⟨g,0,none⟩)))
theorem rep_ofVal {H:Hp}{v:Value}(h:valOK v=true):Rep H (ofVal v) v:=by
 unfold ofVal;split
 ·rename_i cs;have:=Klg (H:=H) cs.toList (by simp only [valOK,List.all_eq_true] at h;exact h);exact ⟨by simp only [Value.cells,RepC];exact this,rfl⟩
 ·exact Kbi (by simp only [RepC,CapOK];exact ⟨_,rfl,by trivial,.inl ⟨by trivial,none,0,rfl,fun _=>rfl⟩⟩) rfl rfl
 rename_i h1 h2;exact rep_v (by cases v<;>simp_all [valOK,one])
theorem Kae {H:Hp}{t:List (Nat×D)}{a:Act}(k:TOK H t a){x:Operand}{d:D}(e:opD t x=some d):Rep H d (a.eval x):=by
 cases x with
 |
  tmp i=>
  obtain ⟨v,h1,h2⟩:=k i d e;simp only [Act.eval];rw [Array.getD_eq_getD_getElem?,h1];exact h2
 |
  const v=>
  simp only [opD] at e;cases hb:valOK v with
  | false=>rw [hb] at e;cases e
  | true=>rw [hb] at e;simp at e;subst e;exact rep_ofVal hb
 |
  func f=>
  simp only [opD,Option.some.injEq] at e;subst e;exact Kbi (by simp only [RepC];exact ⟨[],[],rfl,by simp [RepsV],by simp [RepsV]⟩) rfl rfl
 |
  global g=>
  simp only [opD,Option.some.injEq] at e;subst e;exact rep_v rfl
theorem Kcv {H:Hp}{b o:Nat}{y:Value}(h:Rep H (.ptr b o) y):y=.pointer (some ⟨b,o,none⟩):=by
 obtain ⟨h1,h2⟩:=h;cases y<;>simp [D.shape] at h2<;>simp [RepC,Value.cells] at h1<;>simp [h1]
theorem Kg8 {H:Hp}{d:D}{y:Value}(h:Rep H (.el d) y):∃ b off vs,y=.pointer (some ⟨b,off,none⟩)∧RepC H d vs∧Told H b off vs∧∀ u∈vs,one u=true:=by
 obtain ⟨h1,h2⟩:=h;cases y<;>simp [D.shape] at h2<;>simp [RepC,Value.cells] at h1<;>simp [h1]
theorem KlV {H:Hp}{l:List D}{y:Value}(h:Rep H (.tup l) y):∃ vs,y=.tuple vs.toArray∧RepsV H l vs:=by
 obtain ⟨h1,h2⟩:=h;cases y<;>simp [D.shape] at h2<;>simp [RepC,Value.cells] at h1<;>simp [h1]
theorem KbK {H:Hp}{k:Nat}{xs:List D}{c:Cap}{y:Value}(h:Rep H (.lst k xs c) y):CapOK c y∧((xs=[]∧∃ a m,y=.slice a 0 m∧(a=none→m=0))∨∃ b off m,y=.slice (some ⟨b,off,none⟩) xs.length m∧xs.length≤m∧Els H k b off xs):=by
 obtain ⟨h1,h2⟩:=h;cases y<;>simp [D.shape] at h2<;>(simp only [RepC,Value.cells] at h1;obtain ⟨y,e,h⟩:=h1;simp at e;subst e;exact h)
theorem KhY {H:Hp}:∀ {l:List D} {us:List Value},RepsV H l us→∀ {i:Nat} {d:D},l[i]? = some d→∃ u,us[i]? = some u∧Rep H d u
 | [],us,h,i,d,e=>by simp at e
 |
  d0::l,us,h,i,d,e=>by
  simp only [RepsV] at h;obtain ⟨u,us',rfl,h1,h2⟩:=h;cases i with
  | zero=>simp at e;subst e;exact ⟨u,by simp,h1⟩
  | succ i=>simp at e;simpa using KhY h2 e
end
section
open Go
def keq:IntKind→IntKind→Bool
 | .i8,.i8=>true|.i16,.i16=>true|.i32,.i32=>true|.i64,.i64=>true
 | .u8,.u8=>true|.u16,.u16=>true|.u32,.u32=>true|.u64,.u64=>true
 | _,_=>false
theorem keq_eq {k k':IntKind}(h:keq k k'=true):k=k':=by cases k<;>cases k'<;>first|rfl|cases h
theorem KkL (a b:ByteArray):(a.toList==b.toList)=decide (a=b):=by
 rw [ByteArray.toList_eq,ByteArray.toList_eq,Bool.eq_iff_iff,beq_iff_eq,decide_eq_true_iff];constructor
 ·intro h;exact ByteArray.ext (Array.toList_inj.1 h)
 intro h;rw [h]
def intV (op:BinOp)(k:IntKind)(a b:Int):Option Value:=
 match op with
 | .add=>some (.int k (k.wrap (a+b)))
 | .sub=>some (.int k (k.wrap (a - b)))
 | .mul=>some (.int k (k.wrap (a*b)))
 | .eql=>some (.bool (a==b))
 | .neq=>some (.bool (a != b))
 | .lss=>some (.bool (decide (a < b)))
 | .leq=>some (.bool (decide (a≤b)))
 | .gtr=>some (.bool (decide (b < a)))
 | .geq=>some (.bool (decide (b≤a)))
 | _=>none
def strV (op:BinOp)(a b:ByteArray):Option Value:=
 match op with
 | .eql=>some (.bool (decide (a=b)))
 | .neq=>some (.bool (!decide (a=b)))
 | _=>none
def binV (op:BinOp)(x y:Value):Option Value:=
 match x,y with
 | .int k a,.int k' b=>bif keq k k' then intV op k a b else none
 | .string a,.string b=>strV op a b
 | _,_=>none
theorem binV_ok {P:Program}{w:World}{op:BinOp}{x y r:Value}(t:TypeId)(X Y:Operand)(e:binV op x y=some r) :
  (do eqGuard op t X Y x y;binOp op t x y:Sem Value).run P w=.ok r w:=by
 unfold binV at e;split at e
 ·rename_i k a k' b;cases hk:keq k k' with
  | false=>rw [hk] at e;cases e
  |
   true=>
   have:=keq_eq hk;subst this;rw [hk] at e;simp only [cond_true] at e;cases op<;>simp [intV] at e<;>subst e<;>simp [eqGuard,binOp,Op.intArith,Op.intCmp]<;>rfl
 ·rename_i a b;cases op<;>simp [strV] at e<;>subst e<;>simp [eqGuard,binOp,Op.stringOp,KkL]<;>rfl
 cases e
theorem binV_one {op:BinOp}{x y r:Value}(e:binV op x y=some r):one r=true:=by
 unfold binV at e;split at e
 ·rename_i k a k' b;cases hk:keq k k' with
  | false=>rw [hk] at e;cases e
  |
   true=>
   rw [hk] at e;simp only [cond_true] at e;cases op<;>simp [intV] at e<;>subst e<;>rfl
 ·cases op<;>simp [strV] at e<;>subst e<;>rfl
 cases e
theorem KjX {d:TypeDesc}(h:tdOf d=.bool):d=.bool:=by cases d<;>simp [tdOf] at h<;>rfl
theorem Kf8 {d:TypeDesc}(h:tdOf d=.str):d=.string:=by cases d<;>simp [tdOf] at h<;>rfl
theorem KgR {d:TypeDesc}{k:IntKind}(h:tdOf d=.int k):d=.int k:=by cases d<;>simp [tdOf] at h;subst h;rfl
theorem KbY {d:TypeDesc}{e:Nat}(h:tdOf d=.slice e):d=.slice e:=by cases d<;>simp [tdOf] at h;subst h;rfl
theorem td_ptr {d:TypeDesc}{e:Nat}(h:tdOf d=.ptr e):d=.pointer e:=by cases d<;>simp [tdOf] at h;subst h;rfl
theorem Ki0 {d:TypeDesc}{n e:Nat}(h:tdOf d=.array n e):d=.array n e:=by cases d<;>simp [tdOf] at h;obtain ⟨rfl,rfl⟩:=h;rfl
theorem td_map {d:TypeDesc}{n e:Nat}(h:tdOf d=.map n e):d=.map n e:=by cases d<;>simp [tdOf] at h;obtain ⟨rfl,rfl⟩:=h;rfl
theorem KfN {d:TypeDesc}{fs:List (Nat×Nat)}(h:tdOf d=.struct fs):∃ gs,d=.struct gs∧gs.toList.map (fun f=>(f.type,f.offset))=fs:=by cases d<;>simp [tdOf] at h;exact ⟨_,rfl,h⟩
def boolV (op:BinOp)(a b:Bool):Option Value:=
 match op with
 | .eql=>some (.bool (a==b))
 | .neq=>some (.bool (!(a==b)))
 | _=>none
theorem boolV_ok {P:Program}{w:World}{op:BinOp}{a b:Bool}{r:Value}{t:TypeId}{i:TI}(X Y:Operand)(hi:tiOf P t=some i)(hd:i.d=.bool)(e:boolV op a b=some r) :
  (do eqGuard op t X Y (.bool a) (.bool b);binOp op t (.bool a) (.bool b):Sem Value).run P w=.ok r w:=by
 have hq:(Op.equal t (.bool a) (.bool b)).run P w=.ok (a==b) w:=by
  unfold Op.equal Op.maxDepth;show (Op.equalIn (9999+1) t _ _).run P w=_
  obtain ⟨d,h1,h2⟩:=Kak (w:=w) hi;have:=KjX (h2.trans hd);subst this;rw [Op.equalIn,Kw h1];rfl
 cases op<;>simp [boolV] at e
 ·subst e;have hg:(eqGuard .eql t X Y (.bool a) (.bool b)).run P w=.ok () w:=by simp [eqGuard]<;>rfl
  rw [Kw hg];show (do pure (.bool (← Op.equal t (.bool a) (.bool b))):Sem Value).run P w=_
  rw [Kw hq];rfl
 subst e;have hg:(eqGuard .neq t X Y (.bool a) (.bool b)).run P w=.ok () w:=by simp [eqGuard]<;>rfl
 rw [Kw hg];show (do pure (.bool (!(← Op.equal t (.bool a) (.bool b)))):Sem Value).run P w=_
 rw [Kw hq];cases a<;>cases b<;>rfl
def unV (op:UnOp)(x:Value):Option Value:=
 match op,x with
 | .neg,.int k n=>some (.int k (k.wrap (0 - n)))
 | .not,.bool b=>some (.bool (!b))
 | _,_=>none
theorem unV_ok {P:Program}{w:World}{op:UnOp}{x r:Value}(e:unV op x=some r):(Op.unary op x).run P w=.ok r w:=by
 unfold unV at e;split at e
 ·simp only [Option.some.injEq] at e;subst e;rfl
 ·simp only [Option.some.injEq] at e;subst e;rfl
 cases e
def isB:TD→Bool
 | .bool=>true
 | _=>false
theorem isB_eq {d:TD}(h:isB d=true):d=.bool:=by cases d<;>first|rfl|cases h
def convV (s d:TD)(x:Value):Option Value:=
 match s,d,x with
 | .int _,.int k,.int _ n=>some (.int k (k.wrap n))
 | .str,.str,.string s=>some (.string s)
 | _,_,_=>none
theorem convV_ok {P:Program}{w:World}{s d:TypeId}{i j:TI}{x r:Value}(hi:tiOf P s=some i)(hj:tiOf P d=some j)(e:convV i.d j.d x=some r):(convert s d x).run P w=.ok r w:=by
 obtain ⟨ds,h1,h2⟩:=Kak (w:=w) hi;obtain ⟨dd,f,c⟩:=Kak (w:=w) hj;unfold convert;rw [Kw h1,Kw f];unfold convV at e;split at e
 ·rename_i a b;have:=KgR (h2.trans a);have:=KgR (c.trans b);subst ds;subst dd
  simp only [Option.some.injEq] at e;subst e;rfl
 ·rename_i a b;have:=Kf8 (h2.trans a);have:=Kf8 (c.trans b);subst ds;subst dd
  simp only [Option.some.injEq] at e;subst e;rfl
 cases e
def KjY (i:TI)(f:Nat):Option (Nat×Nat):=
 match i.d with
 | .struct fs=>fs[f]?
 | _=>none
theorem Kkd {i:TI}{d:TypeDesc}(hd:tdOf d=i.d){f:Nat}{fl:Nat×Nat}(h:KjY i f=some fl):∃ fs x,d=.struct fs∧fs[f]? = some x∧x.type=fl.1∧x.offset=fl.2:=by
 unfold KjY at h;split at h
 ·rename_i fs e;obtain ⟨gs,rfl,h1⟩:=KfN (hd.trans e);rw [← h1,List.getElem?_map,Option.map_eq_some_iff] at h;obtain ⟨x,h2,a⟩:=h;exact ⟨gs,x,rfl,by simpa using h2,by rw [← a],by rw [← a]⟩
 cases h
def Kb3 (l:List Operand)(f:Operand→Option D):Option (List D):=
 match l with
 | []=>some []
 |
  x::l=>match f x,Kb3 l f with
  | some d,some ds=>some (d::ds)
  | _,_=>none
theorem Kco {H:Hp}{t:List (Nat×D)}{a:Act}(k:TOK H t a):∀ {l:List Operand} {ds:List D},Kb3 l (opD t)=some ds→RepsV H ds (l.map a.eval)
 | [],ds,e=>by simp [Kb3] at e;subst e;simp [RepsV]
 |
  x::l,ds,e=>by
  simp only [Kb3] at e;split at e
  ·rename_i d ds' h1 h2;simp only [Option.some.injEq] at e;subst e;simp only [List.map_cons,RepsV];exact ⟨_,_,rfl,Kae k h1,Kco k h2⟩
  cases e
def D.cnt:D→Nat
 | .agg l=>l.length
 | _=>1
def evP (tab:List (Option TI))(t:List (Nat×D))(o:Op):Option D:=
 match o with
 | .move x=>opD t x
 | .assign x=>opD t x
 |
  .pick c a b=>match opD t c with
  |
   some (.v (.bool c))=>match opD t a,opD t b with
   | some (.v (.bool a)),some (.v (.bool b))=>some (.v (.bool (bif c then a else b)))
   | _,_=>none
  | _=>none
 |
  .binOp op xt x y _=>match opD t x,opD t y with
  |
   some (.v (.bool x)),some (.v (.bool y))=>match ti tab xt with
   | some i=>bif isB i.d then (match boolV op x y with|some r=>some (.v r)|none=>none) else none
   | none=>none
  |
   some (.v x),some (.v y)=>match binV op x y with
   | some r=>some (.v r)
   | none=>none
  | _,_=>none
 |
  .unOp op _ x=>match opD t x with
  |
   some (.v x)=>match unV op x with
   | some r=>some (.v r)
   | none=>none
  | _=>none
 |
  .convert s d x=>match opD t x,ti tab s,ti tab d with
  |
   some (.v x),some i,some j=>match convV i.d j.d x with
   | some r=>some (.v r)
   | none=>none
  | _,_,_=>none
 |
  .field xt x f=>match opD t x,ti tab xt with
  |
   some (.agg ds),some i=>match KjY i f with
   |
    some fl=>match ti tab fl.1 with
    | some j=>partD j ds fl.2
    | none=>none
   | none=>none
  | _,_=>none
 |
  .fieldAddr xt x f=>match ti tab xt with
  |
   some i=>match KjY i f with
   |
    some fl=>match ti tab fl.1 with
    |
     some j=>bif Nat.beq j.size 0 then none else match opD t x with
     | some (.ptr b o)=>some (.ptr b (o+fl.2))
     |
      some (.el (.agg ds))=>match partD j ds fl.2 with
      | some d=>some (.el d)
      | none=>none
     | _=>none
    | none=>none
   | none=>none
  | none=>none
 |
  .extract x i=>match opD t x with
  | some (.tup l)=>l[i]?
  | _=>none
 |
  .nilCheck x=>match opD t x with
  | some (.ptr b o)=>some (.ptr b o)
  | some (.el d)=>some (.el d)
  | _=>none
 |
  .makeFunc f as_ cs=>match Kb3 as_.toList (opD t),Kb3 cs.toList (opD t) with
  | some as_,some cs=>some (.fn f as_ cs)
  | _,_=>none
 | _=>none
theorem KcT (b o n:Nat):(⟨b,o,none⟩:Addr).add n=⟨b,o+n,none⟩:=by
 unfold Addr.add;split
 ·rename_i h;subst h;rfl
 rfl
theorem Kbb {P:Program}{w w':World}{s:Sem Value}{v:Value}(h:s.run P w=.ok v w'):(do pure (.value (← s)):Sem Next).run P w=.ok (.value v) w':=by
 rw [Kw h];rfl
theorem Kli {H:Hp}{b off:Nat}{us:List Value}(h:Told H b off us)(n:Nat):Told H b (off+n) (us.drop n):=fun j u e=>by
 rw [List.getElem?_drop] at e;have:=h _ _ e;rwa [← Nat.add_assoc] at this
theorem Klj {H:Hp}{b off:Nat}{us:List Value}(h:Told H b off us)(n:Nat):Told H b off (us.take n):=fun j u e=>by
 rw [List.getElem?_take] at e;split at e
 ·exact h _ _ e
 cases e
theorem KlW {H:Hp}{j:TI}{ds:List D}{off n b:Nat}{d:D}{vs:List Value}(hr:Reps H ds vs)(ht:Told H b off vs)(e:partD j ds n=some d) :
  Rep H (.el d) (.pointer (some ⟨b,off+n,none⟩)):=by
 unfold partD at e;cases hg:j.agg with
 |
  true=>
  rw [hg] at e;simp only [cond_true] at e;cases hb:Nat.ble (n+j.size) ds.length with
  | false=>rw [hb] at e;cases e
  |
   true=>
   rw [hb] at e;simp only [cond_true,Option.some.injEq] at e;subst e;have h1:=KfM j.size (KfL n hr);refine Kbi ?_ rfl rfl;simp only [RepC];exact ⟨b,off+n,_,rfl,h1,Klj (Kli ht n) _,KeZ h1⟩
 |
  false=>
  rw [hg] at e;simp only [cond_false] at e;obtain ⟨u,h1,h2,a,c⟩:=Khl hr e;refine Kbi ?_ rfl rfl;simp only [RepC];refine ⟨b,off+n,[u],rfl,h2,fun i x hx=>?_,by simpa using a⟩;cases i with
  | zero=>simp at hx;subst hx;exact ht n u h1
  | succ i=>simp at hx
theorem evP_ok {P:Program}{tab:List (Option TI)}(ht:TabOK P tab){H:Hp}{t:List (Nat×D)}{a:Act}{o:Oper}{d:D}{w:World}(k:TOK H t a)(e:evP tab t o.op=some d) :
  ∃ v,(execOp a.eval o).run P w=.ok (.value v) w∧Rep H d v:=by
 unfold execOp;generalize o.op=op at e;cases op with
 | move x=>exact ⟨_,rfl,Kae k e⟩
 | assign x=>exact ⟨_,rfl,Kae k e⟩
 |
  pick c x y=>
  simp only [evP] at e;split at e
  ·rename_i c0 hc;split at e
   ·rename_i x0 q hx hy;simp only [Option.some.injEq] at e;subst e;have h1:=KW (Kae k hc);have h2:=KW (Kae k hx);have g:=KW (Kae k hy)
    refine ⟨.bool (bif c0 then x0 else q),?_,rep_v rfl⟩;simp only [h1,h2,g];cases c0<;>rfl
   cases e
  cases e
 |
  binOp op xt x y yt=>
  simp only [evP] at e;split at e
  ·rename_i x0 q hx hy;split at e
   ·rename_i i hi;cases hb:isB i.d with
    | false=>rw [hb] at e;cases e
    |
     true=>
     rw [hb] at e;simp only [cond_true] at e;split at e
     ·rename_i r hr;simp only [Option.some.injEq] at e;subst e;refine ⟨r,Kbb ?_,rep_v ?_⟩
      ·rw [KW (Kae k hx),KW (Kae k hy)];exact boolV_ok x y (ti_ok ht hi) (isB_eq hb) hr
      cases op<;>simp [boolV] at hr<;>subst hr<;>rfl
     cases e
   cases e
  ·rename_i x0 q _ hx hy;split at e
   ·rename_i r hr;simp only [Option.some.injEq] at e;subst e;refine ⟨r,Kbb ?_,rep_v ?_⟩
    ·rw [KW (Kae k hx),KW (Kae k hy)];exact binV_ok xt x y hr
    exact binV_one hr
   cases e
  cases e
 |
  unOp op xt x=>
  simp only [evP] at e;split at e
  ·rename_i x0 hx;split at e
   ·rename_i r hr;simp only [Option.some.injEq] at e;subst e;refine ⟨r,Kbb ?_,rep_v ?_⟩
    ·rw [KW (Kae k hx)];exact unV_ok hr
    unfold unV at hr;split at hr<;>simp at hr<;>subst hr<;>rfl
   cases e
  cases e
 |
  convert s d' x=>
  simp only [evP] at e;split at e
  ·rename_i x0 i j hx hi hj;split at e
   ·rename_i r hr;simp only [Option.some.injEq] at e;subst e;refine ⟨r,Kbb ?_,rep_v ?_⟩
    ·rw [KW (Kae k hx)];exact convV_ok (ti_ok ht hi) (ti_ok ht hj) hr
    unfold convV at hr;split at hr<;>simp at hr<;>subst hr<;>rfl
   cases e
  cases e
 |
  field xt x f=>
  simp only [evP] at e;split at e
  ·rename_i ds i hx hi;split at e
   ·rename_i fl hf;split at e
    ·rename_i j hj;obtain ⟨dd,h0,z⟩:=Kak (w:=w) (ti_ok ht hi);obtain ⟨fs,x0,rfl,h2,p,A⟩:=Kkd z hf;obtain ⟨us,hy,hr⟩:=KdR (Kae k hx);obtain ⟨v,g,m⟩:=KiZ (P:=P) (w:=w) (t:=fl.1) (ti_ok ht hj) hr e;refine ⟨v,Kbb ?_,m⟩;unfold Instr.field;rw [Kw h0];simp only [h2,hy];rw [Kw (a:=us.toArray) rfl,p,A];exact g
    cases e
   cases e
  cases e
 |
  fieldAddr xt x f=>
  simp only [evP] at e;split at e
  ·rename_i i hi;split at e
   ·rename_i fl hf;split at e
    ·rename_i j hj;obtain ⟨dd,h0,z⟩:=Kak (w:=w) (ti_ok ht hi);obtain ⟨fs,x0,rfl,h2,B,E⟩:=Kkd z hf;have hrun:∀ b o,(Instr.fieldAt xt (.pointer (some ⟨b,o,none⟩)) f).run P w=if j.size=0 then (do pure (.pointer (some (← fieldPlace ⟨b,o,none⟩ x0))):Sem Value).run P w else .ok (.pointer (some ⟨b,o+fl.2,none⟩)) w:=by
      intro b o;unfold Instr.fieldAt;rw [Kw h0];simp only [h2];rw [Kw (a:=(⟨b,o,none⟩:Addr)) rfl];split
      ·rfl
      rename_i hz;unfold fieldPlace;rw [Kw (a:=(⟨b,o+fl.2,none⟩:Addr)) ?_]
      ·rfl
      rw [B,Kw (Kby (ti_ok ht hj)),if_neg hz,KcT,E];rfl
     cases hz:Nat.beq j.size 0 with
     | true=>rw [hz] at e;cases e
     |
      false=>
      rw [hz] at e;simp only [cond_false] at e;have hz':¬ j.size=0:=Nat.ne_of_beq_eq_false hz;split at e
      ·rename_i b o hx;simp only [Option.some.injEq] at e;subst e;refine ⟨.pointer (some ⟨b,o+fl.2,none⟩),Kbb ?_,Kbi (by simp [RepC]) rfl rfl⟩;rw [Kcv (Kae k hx),hrun,if_neg hz']
      ·rename_i ds hx;split at e
       ·rename_i d0 hd;simp only [Option.some.injEq] at e;subst e;obtain ⟨b,off,vs,g,m,p,A⟩:=Kg8 (Kae k hx);simp only [RepC] at m;refine ⟨.pointer (some ⟨b,off+fl.2,none⟩),Kbb ?_,KlW m p hd⟩;rw [g,hrun,if_neg hz']
       cases e
      cases e
    cases e
   cases e
  cases e
 |
  extract x n=>
  simp only [evP] at e;split at e
  ·rename_i l hx;obtain ⟨vs,h1,h2⟩:=KlV (Kae k hx);obtain ⟨u,g,m⟩:=KhY h2 e;refine ⟨u,Kbb ?_,m⟩;unfold Instr.extract;simp [h1,g]<;>rfl
  cases e
 |
  nilCheck x=>
  simp only [evP] at e;split at e
  ·rename_i b o hx;simp only [Option.some.injEq] at e;subst e;exact ⟨.pointer (some ⟨b,o,none⟩),by simp only [Kcv (Kae k hx)];rfl,Kbi (by simp [RepC]) rfl rfl⟩
  ·rename_i d0 hx;simp only [Option.some.injEq] at e;subst e;obtain ⟨b,off,vs,g,m,p,A⟩:=Kg8 (Kae k hx);exact ⟨.pointer (some ⟨b,off,none⟩),by simp only [g];rfl,g ▸ Kae k hx⟩
  cases e
 |
  makeFunc f as_ cs=>
  simp only [evP] at e;split at e
  ·rename_i as' cs' h1 h2;simp only [Option.some.injEq] at e;subst e;refine ⟨.func f (as_.map a.eval) (cs.map a.eval),Kbb rfl,Kbi ?_ rfl rfl⟩;simp only [RepC];exact ⟨as_.toList.map a.eval,cs.toList.map a.eval,by rw [← Array.toList_map,← Array.toList_map],Kco k h1,Kco k h2⟩
  cases e
 | _=>simp [evP] at e
end
section
open Go
structure S where
 t:List (Nat×D)
 h:List (Nat×Blk)
 k:List (Nat×Value)
def Rel (C:Ctx)(N:Nat)(s:S)(a:Act)(w:World):Prop:=∃ H,Core C H s.h s.k w∧TOK H s.t a∧a.tmps.size=N∧a.defers=[]
def QD (C:Ctx)(N:Nat)(Q:Exit→S→Prop):Exit→Act→World→Prop:=fun x a w=>∃ s,Rel C N s a w∧Q x s
def wpD (P:Program)(C:Ctx)(N:Nat)(c:Code)(s:S)(Q:Exit→S→Prop):Prop:=∀ a w,Rel C N s a w→c.wp P (QD C N Q) a w
def opsD (P:Program)(C:Ctx)(N:Nat)(ops:List Oper)(l:List Oper)(s:S)(Q:Exit→S→Prop):Prop:=∀ a w,Rel C N s a w→wpList P ops.toArray (QD C N Q) l a w
def wantD (ops:List Oper)(t:List (Nat×D))(o:Oper):Option Bool:=
 match o.guard with
 | none=>some true
 |
  some (j,want)=>match ops[j]? with
  |
   some p=>match p.dst with
   |
    some i=>match look t i with
    | some (.v (.bool b))=>some (bif b then want else !want)
    | some (.v (.tuple _))=>some false
    | _=>none
   | none=>none
  | none=>none
theorem Ka2 {ops:List Oper}{H:Hp}{t:List (Nat×D)}{o:Oper}{a:Act}{b:Bool}(k:TOK H t a)(e:wantD ops t o=some b):Region.wanted o (yielded ops.toArray a.tmps)=b:=by
 unfold wantD at e;unfold Region.wanted;split at e
 ·rename_i hg;rw [hg];simp at e;subst e;rfl
 rename_i j want hg;rw [hg];split at e
 ·rename_i p hp;split at e
  ·rename_i i hi;split at e
   ·rename_i c hl;obtain ⟨v,h1,h2⟩:=k i _ hl;have:=KW h2;subst this;simp only [Option.some.injEq] at e;subst e;simp only [yielded,List.getElem?_toArray,hp,Option.bind_some,hi,h1];cases c<;>cases want<;>rfl
   ·rename_i vs hl;obtain ⟨v,h1,h2⟩:=k i _ hl;have:=KW h2;subst this;simp only [Option.some.injEq] at e;subst e;simp only [yielded,List.getElem?_toArray,hp,Option.bind_some,hi,h1];cases want<;>rfl
   cases e
  cases e
 cases e
section
variable {P : Program} {C : Ctx} {N : Nat} {ops rest : List Oper} {o : Oper} {s : S} {Q : Exit → S → Prop} {tab : List (Option TI)}
theorem KC (h:Q .normal s):opsD P C N ops [] s Q:=fun _ _ r=>⟨s,r,h⟩
theorem Kb4 {i:Nat}(hw:wantD ops s.t o=some true)(hd:o.dst=some i)(hi:Nat.blt i N=true)
  (h:∀ H a w,Core C H s.h s.k w→TOK H s.t a→∃ v w' H' d h' k',(execOp a.eval o).run P w=.ok (.value v) w'∧H.le H'∧Core C H' h' k' w'∧Rep H' d v∧opsD P C N ops rest ⟨(i,d)::s.t,h',k'⟩ Q) :
  opsD P C N ops (o::rest) s Q:=by
 rintro a w ⟨H,c,k,hN,hdf⟩;unfold wpList;rw [Ka2 k hw,if_pos rfl];obtain ⟨v,w',H',d,h',k',hr,hle,c',hv,hrest⟩:=h H a w c k;refine .inl ?_;unfold Oper.wp;rw [hr,Oper.upon_value,hd];refine hrest _ _ ⟨H',c',TOK.put (k.mono hle) (by rw [hN];simpa using hi) hv,?_,?_⟩
 ·simp only [Act.put,Array.size_setIfInBounds];exact hN
 exact hdf
theorem Kko (hw:wantD ops s.t o=some true)(hd:o.dst=none)
  (h:∀ H a w,Core C H s.h s.k w→TOK H s.t a→∃ w' H' h' k',(execOp a.eval o).run P w=.ok .skip w'∧H.le H'∧Core C H' h' k' w'∧opsD P C N ops rest ⟨s.t,h',k'⟩ Q) :
  opsD P C N ops (o::rest) s Q:=by
 rintro a w ⟨H,c,k,hN,hdf⟩;unfold wpList;rw [Ka2 k hw,if_pos rfl];obtain ⟨w',H',h',k',hr,hle,c',hrest⟩:=h H a w c k;refine .inl ?_;unfold Oper.wp;rw [hr,Oper.upon_skip,hd];exact hrest _ _ ⟨H',c',k.mono hle,hN,hdf⟩
theorem ops_skip {i:Nat}(hw:wantD ops s.t o=some false)(hd:o.dst=some i)(hi:Nat.blt i N=true)(h:opsD P C N ops rest ⟨(i,.v (.tuple #[]))::s.t,s.h,s.k⟩ Q):opsD P C N ops (o::rest) s Q:=by
 rintro a w ⟨H,c,k,hN,hdf⟩;unfold wpList;rw [Ka2 k hw,if_neg (by simp),hd];refine h _ _ ⟨H,c,TOK.put k (by rw [hN];simpa using hi) ⟨by simp [RepC,undef,Value.cells],rfl⟩,?_,hdf⟩;simp only [Act.put,Array.size_setIfInBounds];exact hN
theorem ops_pure {i:Nat}{d:D}(ht:TabOK P tab)(hw:wantD ops s.t o=some true)(hd:o.dst=some i)(hi:Nat.blt i N=true)(e:evP tab s.t o.op=some d)
  (h:opsD P C N ops rest ⟨(i,d)::s.t,s.h,s.k⟩ Q):opsD P C N ops (o::rest) s Q:=
 Kb4 hw hd hi fun H a w c k=>by
  obtain ⟨v,h1,h2⟩:=evP_ok ht (w:=w) k e;exact ⟨v,w,H,d,s.h,s.k,h1,Hp.le_refl H,c,h2,h⟩
theorem Kdi {i:Nat}{d:D}(hw:wantD ops s.t o=some true)(hd:o.dst=some i)(hi:Nat.blt i N=true)(e:∀ H a w,TOK H s.t a→∃ v,(execOp a.eval o).run P w=.ok (.value v) w∧Rep H d v)
  (h:opsD P C N ops rest ⟨(i,d)::s.t,s.h,s.k⟩ Q):opsD P C N ops (o::rest) s Q:=
 Kb4 hw hd hi fun H a w c k=>by
  obtain ⟨v,h1,h2⟩:=e H a w k;exact ⟨v,w,H,d,s.h,s.k,h1,Hp.le_refl H,c,h2,h⟩
theorem ops_wk {s':S}(hs:∀ H a w,Core C H s.h s.k w→TOK H s.t a→∃ H',H.le H'∧Core C H' s'.h s'.k w∧TOK H' s'.t a)(h:opsD P C N ops rest s' Q):opsD P C N ops rest s Q:=by
 rintro a w ⟨H,c,k,hN,hdf⟩;obtain ⟨H',hle,c',k'⟩:=hs H a w c k;exact h a w ⟨H',c',k',hN,hdf⟩
end
def RowAt (w:World)(b off:Nat)(us:List Value):Prop:=∀ j u,us[j]? = some u→w.cell? ⟨b,off+j,none⟩=some u
theorem Told.row {H:Hp}{w:World}(h:Ag H w){b off:Nat}{us:List Value}(k:Told H b off us):RowAt w b off us:=fun j u e=>h _ _ (k j u e)
theorem KgS {w:World}{b:Nat}{us:List Value}{T:TypeId}(h:w.heap[b]? = some (.cells us.toArray T (0,0))):RowAt w b 0 us:=fun j u e=>by
 simp only [World.cell?,h,Nat.zero_add];simpa using e
theorem RowAt.drop {w:World}{b off:Nat}{us:List Value}(h:RowAt w b off us)(n:Nat):RowAt w b (off+n) (us.drop n):=fun j u e=>by
 rw [List.getElem?_drop] at e;have:=h _ _ e;rwa [← Nat.add_assoc] at this
theorem Kg6 {P:Program}{w:World}{b off:Nat}:∀ (n i:Nat) {us:List Value} (acc:Array Value),RowAt w b (off+i) us→n≤us.length →
  (loadCellsFrom ⟨b,off,none⟩ i n acc).run P w=.ok (acc++(us.take n).toArray) w
 | 0,i,us,acc,_,_=>by simp [loadCellsFrom]<;>rfl
 | n+1,i,[],acc,_,h=>by simp at h
 |
  n+1,i,u::us,acc,hr,h=>by
  unfold loadCellsFrom;have h0:w.cell? ((⟨b,off,none⟩:Addr).add i)=some u:=by rw [KcT];simpa using hr 0 u (by simp)
  have hl:(load ((⟨b,off,none⟩:Addr).add i)).run P w=.ok u w:=by simp only [load,Sem.run,h0]
  rw [Kw hl];have:=Kg6 (P:=P) n (i+1) (us:=us) (acc.push u) (by have:=hr.drop 1;simpa [Nat.add_assoc] using this) (by simpa using h);rw [this];simp [List.take_succ_cons]
theorem KeK {P:Program}{w:World}{b off:Nat}{us:List Value}(n:Nat)(hr:RowAt w b off us)(h:n≤us.length):(loadCells ⟨b,off,none⟩ n).run P w=.ok (us.take n).toArray w:=by
 unfold loadCells;rw [Kg6 n 0 #[] (by simpa using hr) h];simp
theorem Kfg {P:Program}{w:World}{T:TypeId}{i:TI}{H:Hp}{ds:List D}{us:List Value}{b off n:Nat}{d:D}(hi:tiOf P T=some i)(hr:RowAt w b off us)(h:Reps H ds us)(e:partD i ds n=some d) :
  ∃ v,(Instr.loadAt T (.pointer (some ⟨b,off+n,none⟩))).run P w=.ok v w∧Rep H d v:=by
 unfold Instr.loadAt;rw [Kw (a:=(⟨b,off+n,none⟩:Addr)) rfl];unfold loadVar;rw [Kw (Klh hi)];unfold partD at e;cases hg:i.agg with
 |
  true=>
  rw [hg] at e;simp only [cond_true] at e;cases hb:Nat.ble (n+i.size) ds.length with
  | false=>rw [hb] at e;cases e
  |
   true=>
   rw [hb] at e;simp only [cond_true,Option.some.injEq] at e;subst e;have hlen:=Kcu h;have hle:=Nat.le_of_ble_eq_true hb;refine ⟨.agg ((us.drop n).take i.size).toArray,?_,Kip (KfM _ (KfL _ h))⟩;simp only [if_true];rw [Kw (Kby hi),Kw (KeK i.size (hr.drop n) (by simp;omega))];first|done|rfl
 |
  false=>
  rw [hg] at e;simp only [cond_false] at e;obtain ⟨u,h1,h2,c,f⟩:=Khl h e;refine ⟨u,?_,Kbi h2 c f⟩;have:=hr n u h1;simp only [Bool.false_eq_true,if_false,load,Sem.run,this]
def Kah:D→List D
 | .agg l=>l
 | .any=>[]
 | d=>[d]
theorem Ki1 {H:Hp}{d:D}{us:List Value}(hd:Kah d ≠ [])(h:RepC H d us)(h1:∀ u∈us,one u=true):Reps H (Kah d) us:=by
 cases d with
 | any=>exact absurd rfl hd
 | agg l=>simpa [Kah,RepC] using h
 | v x=>simp only [RepC] at h;subst h;simp only [Kah,Reps];exact ⟨x,[],rfl,⟨by simp [RepC],h1 x (by simp),rfl⟩,rfl⟩
 |
  lst k xs c=>
  have h0:=h;simp only [RepC] at h;obtain ⟨y,e,_⟩:=h;subst e;simp only [Kah,Reps];exact ⟨y,[],rfl,⟨h0,h1 y (by simp),rfl⟩,rfl⟩
 |
  el d=>
  have h0:=h;simp only [RepC] at h;obtain ⟨b,off,vs,e,_⟩:=h;subst e;simp only [Kah,Reps];exact ⟨_,[],rfl,⟨h0,h1 _ (by simp),rfl⟩,rfl⟩
 |
  slf b=>
  have h0:=h;simp only [RepC] at h;rcases h with h|h<;>(subst h;simp only [Kah,Reps];exact ⟨_,[],rfl,⟨h0,h1 _ (by simp),rfl⟩,rfl⟩)
 |
  ptr b o=>
  have h0:=h;simp only [RepC] at h;subst h;simp only [Kah,Reps];exact ⟨_,[],rfl,⟨h0,h1 _ (by simp),rfl⟩,rfl⟩
 |
  fn f as_ cs=>
  have h0:=h;simp only [RepC] at h;obtain ⟨vs,ws,e,_⟩:=h;subst e;simp only [Kah,Reps];exact ⟨_,[],rfl,⟨h0,h1 _ (by simp),rfl⟩,rfl⟩
 |
  tup l=>
  simp only [RepC] at h;obtain ⟨vs,e,_⟩:=h;subst e;have:=h1 _ (List.mem_singleton.2 rfl);cases this
section
variable {P : Program} {C : Ctx} {N : Nat} {ops rest : List Oper} {o : Oper} {s : S} {Q : Exit → S → Prop} {tab : List (Option TI)}
theorem ops_load {i b off:Nat}{T T':TypeId}{x:Operand}{ds:List D}{f:TI}{d:D}(j:Nat)(ht:TabOK P tab)(ho:o.op=.load T x)(hw:wantD ops s.t o=some true)(hd:o.dst=some i)(hi:Nat.blt i N=true)
  (hx:opD s.t x=some (.ptr b off)) (hb:s.h[j]? = some (b,.cells ds T')) (hT:ti tab T=some f) (e:partD f ds off=some d)
  (h:opsD P C N ops rest ⟨(i,d)::s.t,s.h,s.k⟩ Q):opsD P C N ops (o::rest) s Q:=
 Kb4 hw hd hi fun H a w c k=>by
  obtain ⟨us,h1,h2,m⟩:=c.blks _ (List.mem_of_getElem? hb);obtain ⟨v,g,l⟩:=Kfg (P:=P) (T:=T) (n:=off) (ti_ok ht hT) (KgS h1) h2 e;refine ⟨v,w,H,d,s.h,s.k,?_,Hp.le_refl H,c,l,h⟩;unfold execOp;rw [ho];refine Kbb ?_;rw [Kcv (Kae k hx)];rwa [Nat.zero_add] at g
theorem ops_loadEl {i:Nat}{T:TypeId}{x:Operand}{d0 d:D}{f:TI}(ht:TabOK P tab)(ho:o.op=.load T x)(hw:wantD ops s.t o=some true)(hd:o.dst=some i)(hi:Nat.blt i N=true)
  (hx:opD s.t x=some (.el d0)) (hT:ti tab T=some f) (e:partD f (Kah d0) 0=some d) (hne:Kah d0 ≠ [])
  (h:opsD P C N ops rest ⟨(i,d)::s.t,s.h,s.k⟩ Q):opsD P C N ops (o::rest) s Q:=
 Kb4 hw hd hi fun H a w c k=>by
  obtain ⟨b,off,vs,h1,h2,g,j⟩:=Kg8 (Kae k hx);obtain ⟨v,l,m⟩:=Kfg (P:=P) (T:=T) (n:=0) (ti_ok ht hT) (g.row c.ag) (Ki1 hne h2 j) e;refine ⟨v,w,H,d,s.h,s.k,?_,Hp.le_refl H,c,m,h⟩;unfold execOp;rw [ho];exact Kbb (by rw [h1];exact l)
end
theorem Core.here {H:Hp}{w:World}(h:Ag H w):Core ⟨H,w,[]⟩ H [] [] w:=
 ⟨h,Hp.le_refl H,fun _ _ x=>.inl x,fun _ _ _=>rfl,Nat.le_refl _,(by simp),(by simp),(by simp [KP,K0]),(by simp [KP,K0]),Env.refl w⟩
theorem Kbz (w:World)(o:Obj)(k:Nat):(w.alloc o).heap[k]? = if k=w.heap.size then some o else w.heap[k]?:=by
 show (w.heap.push o)[k]? = _
 rw [Array.getElem?_push]
theorem Kf9 (w:World)(o:Obj):(w.alloc o).heap.size=w.heap.size+1:=by show (w.heap.push o).size=_;simp
theorem KkM {w:World}{a:Addr}{v:Value}(o:Obj)(h:w.cell? a=some v):(w.alloc o).cell? a=some v:=by
 have hl:=cell_lt h;unfold World.cell? at h ⊢;rw [Kbz,if_neg (by omega)];exact h
theorem Ag.alloc {H:Hp}{w:World}(h:Ag H w)(o:Obj):Ag H (w.alloc o):=
 ⟨fun a v e=>KkM _ (h a v e),h.gg.step (Hp.le_refl H) (by rw [Kbz,if_neg (Nat.ne_of_lt h.gg.lt)])⟩
theorem Core.alloc {C:Ctx}{H:Hp}{h:List (Nat×Blk)}{k:List (Nat×Value)}{w:World}(c:Core C H h k w){ds:List D}{us:List Value}(T:TypeId)(hr:Reps H ds us) :
  Core C H (h++[(w.heap.size,.cells ds T)]) k (w.alloc (.cells us.toArray T)):=by
 have c0:Core ⟨H,w,[]⟩ H [(w.heap.size,.cells ds T)] [] (w.alloc (.cells us.toArray T)):=by
  refine ⟨c.ag.alloc _,Hp.le_refl H,fun _ _ x=>.inl x,fun b hb _=>?_,?_,?_,by simp,?_,?_,⟨rfl,rfl,rfl,Nat.le_refl _⟩⟩
  ·rw [Kbz,if_neg (by exact Nat.ne_of_lt hb)]
  ·rw [Kf9];exact Nat.le_succ _
  ·intro p hp;simp only [List.mem_singleton] at hp;subst hp;refine ⟨us,by rw [Kbz,if_pos rfl],hr,fun o=>?_⟩;cases e:H ⟨w.heap.size,o,none⟩ with
   | none=>rfl
   | some v=>exact absurd (c.ag.lt e) (Nat.lt_irrefl _)
  ·simp [KP,K0]
  intro b hb;simp [KP,K0] at hb;subst hb;exact .inr (Nat.le_refl _)
 have:=Core.call (h1:=[]) (k1:=[]) (h2:=h) (k2:=k) c c0;exact this.perm (by simpa using (List.perm_append_singleton _ _).symm) (List.Perm.refl _)
def tell (H:Hp)(b:Nat)(us:List Value):Hp:=fun a=>if a.block=b∧a.spot=none then us[a.off]? else H a
theorem Core.allocTold {C:Ctx}{H:Hp}{h:List (Nat×Blk)}{k:List (Nat×Value)}{w:World}(c:Core C H h k w){us vs:List Value}(T:TypeId)(hp:∀ (j:Nat) (u:Value),us[j]? = some u→vs[j]? = some u) :
  H.le (tell H w.heap.size us)∧Core C (tell H w.heap.size us) h k (w.alloc (.cells vs.toArray T))∧Told (tell H w.heap.size us) w.heap.size 0 us:=by
 have hle:H.le (tell H w.heap.size us):=fun a v e=>by
  have:=c.ag.lt e;unfold tell;rw [if_neg (by rintro ⟨h1,_⟩;omega)];exact e
 have c0:Core ⟨H,w,[]⟩ (tell H w.heap.size us) [] [] (w.alloc (.cells vs.toArray T)):=by
  refine ⟨⟨fun a v e=>?_,(c.ag.alloc _).gg.step hle rfl⟩,hle,fun a v e=>?_,fun b hb _=>?_,?_,by simp,by simp,by simp [KP,K0],by simp [KP,K0],⟨rfl,rfl,rfl,Nat.le_refl _⟩⟩
  ·unfold tell at e;split at e
   ·rename_i hb;obtain ⟨ab,ao,as_⟩:=a;simp only at hb e;obtain ⟨rfl,rfl⟩:=hb;have:=hp _ _ e;show (match (w.alloc (.cells vs.toArray T)).heap[w.heap.size]? with|some (.cells c _ _)=>if (none:Option Nat).isSome then none else c[ao]?|_=>none)=some v
    rw [Kbz,if_pos rfl];simpa using this
   exact KkM _ (c.ag a v e)
  ·unfold tell at e;split at e
   ·rename_i hb;exact .inr (.inl (by rw [hb.1];exact Nat.le_refl _))
   exact .inl e
  ·rw [Kbz,if_neg (by exact Nat.ne_of_lt hb)]
  rw [Kf9];exact Nat.le_succ _
 refine ⟨hle,by simpa using Core.call (h1:=[]) (k1:=[]) (h2:=h) (k2:=k) c c0,fun j u e=>?_⟩;simp [tell,e]
section
variable {P : Program} {C : Ctx} {N : Nat} {ops rest : List Oper} {o : Oper} {s : S} {Q : Exit → S → Prop} {tab : List (Option TI)}
theorem Kga {w:World}{T:TypeId}{v:Value}:(newVar T v).run P w=.ok (⟨w.heap.size,0,none⟩:Addr) (w.alloc (.cells v.cells T)):=rfl
def dOf:Value→D
 | .slice none 0 0=>.lst 1 [] .full
 | x=>.v x
theorem Kgb (H:Hp)(z:Value):RepC H (dOf z) [z]∧(dOf z).flat=true:=by
 unfold dOf;split
 ·exact ⟨by simp only [RepC,CapOK];exact ⟨_,rfl,by trivial,.inl ⟨by trivial,none,0,rfl,fun _=>rfl⟩⟩,rfl⟩
 exact ⟨by simp [RepC],rfl⟩
theorem ops_alloc {i:Nat}{T:TypeId}{d:TI}(ht:TabOK P tab)(ho:o.op=.alloc T)(hw:wantD ops s.t o=some true)(hd:o.dst=some i)(hi:Nat.blt i N=true)(hT:ti tab T=some d)(hz:d.zero.all one=true)
  (h:∀ b,opsD P C N ops rest ⟨(i,.ptr b 0)::s.t,s.h++[(b,.cells (d.zero.map dOf) T)],s.k⟩ Q):opsD P C N ops (o::rest) s Q:=by
 refine Kb4 hw hd hi fun H a w c k=>?_
 obtain ⟨z,h1,h2⟩:=Kcr (w:=w) (ti_ok ht hT);have hr:Reps H (d.zero.map dOf) z.cells.toList:=by
  rw [h2];rw [List.all_eq_true] at hz;revert hz;generalize d.zero=l;intro hz;induction l with
  | nil=>simp [Reps]
  |
   cons u l ih=>
   simp only [List.map_cons,Reps];refine ⟨u,l,rfl,⟨(Kgb H u).1,hz u (by simp),(Kgb H u).2⟩,ih (fun x hx=>hz x (by simp [hx]))⟩
 refine ⟨.pointer (some ⟨w.heap.size,0,none⟩),_,H,.ptr w.heap.size 0,_,s.k,?_,Hp.le_refl H,c.alloc T hr,Kbi (by simp [RepC]) rfl rfl,h w.heap.size⟩;unfold execOp;rw [ho];refine Kbb ?_;unfold Instr.alloc;rw [Kw h1];simp only [];rw [Kw Kga];simp;first|done|rfl
end
end
section
open Go
def stor:D→Bool
 | .any=>false
 | .tup _=>false
 | .v x=>one x
 | _=>true
theorem Kfh {H:Hp}{d:D}{v:Value}(hs:stor d=true)(h:Rep H d v):Reps H (Kah d) v.cells.toList:=by
 cases d with
 | any=>cases hs
 | tup l=>cases hs
 | agg l=>obtain ⟨us,rfl,hr⟩:=KdR h;simpa [Kah,Value.cells] using hr
 |
  v x=>
  have:=KW h;subst this;have h1:one v=true:=hs;rw [Kdl h1];simp only [Kah,Reps];exact ⟨v,[],rfl,⟨by simp [RepC],h1,rfl⟩,rfl⟩
 |
  lst k xs c=>
  obtain ⟨h1,h2⟩:=h;have a:one v=true:=by cases v<;>simp_all [D.shape,RepC,Value.cells,one]
  rw [Kdl a] at h1 ⊢;simp only [Kah,Reps];exact ⟨v,[],rfl,⟨h1,a,rfl⟩,rfl⟩
 |
  el d=>
  obtain ⟨h1,h2⟩:=h;have a:one v=true:=by cases v<;>simp_all [D.shape,RepC,Value.cells,one]
  rw [Kdl a] at h1 ⊢;simp only [Kah,Reps];exact ⟨v,[],rfl,⟨h1,a,rfl⟩,rfl⟩
 |
  slf b=>
  obtain ⟨h1,h2⟩:=h;have a:one v=true:=by cases v<;>simp_all [D.shape,RepC,Value.cells,one]
  rw [Kdl a] at h1 ⊢;simp only [Kah,Reps];exact ⟨v,[],rfl,⟨h1,a,rfl⟩,rfl⟩
 |
  ptr b o=>
  obtain ⟨h1,h2⟩:=h;have a:one v=true:=by cases v<;>simp_all [D.shape,RepC,Value.cells,one]
  rw [Kdl a] at h1 ⊢;simp only [Kah,Reps];exact ⟨v,[],rfl,⟨h1,a,rfl⟩,rfl⟩
 |
  fn f as_ cs=>
  obtain ⟨h1,h2⟩:=h;have a:one v=true:=by cases v<;>simp_all [D.shape,RepC,Value.cells,one]
  rw [Kdl a] at h1 ⊢;simp only [Kah,Reps];exact ⟨v,[],rfl,⟨h1,a,rfl⟩,rfl⟩
def lay (ds:List D)(off:Nat)(es:List D):List D:=ds.take off++(es++ds.drop (off+es.length))
theorem heap_set {w:World}{b o k:Nat}{v:Value}:(w.setCell ⟨b,o,none⟩ v).heap[k]? = if b=k then (w.heap[k]?).map (fun|.cells c e f=>.cells (c.setIfInBounds o v) e f|x=>x) else w.heap[k]?:=by
 simp only [World.setCell,Array.getElem?_modify];by_cases h:b=k
 ·rw [if_pos h,if_pos h];cases w.heap[k]? with
  | none=>rfl
  | some x=>cases x<;>rfl
 rw [if_neg h,if_neg h]
theorem Kkp {w:World}{a:Addr}{v:Value}:(w.setCell a v).heap.size=w.heap.size:=by simp [World.setCell]
theorem KcL {P:Program}{b off:Nat}{T:TypeId}:∀ (vs:List Value) (i:Nat) (w:World) (us:List Value),w.heap[b]? = some (.cells us.toArray T (0,0))→off+i+vs.length≤us.length→(∀ v∈vs,one v=true) →
  ∃ w',(storeCells ⟨b,off,none⟩ vs i).run P w=.ok () w'∧Env w w'∧w'.heap.size=w.heap.size∧(∀ k,k ≠ b→w'.heap[k]? = w.heap[k]?)∧w'.heap[b]? = some (.cells (us.take (off+i)++(vs++us.drop (off+i+vs.length))).toArray T (0,0))
 | [],i,w,us,h,hl,_=>⟨w,by simp [storeCells]<;>rfl,Env.refl w,rfl,fun _ _=>rfl,by simpa using h⟩
 |
  v::vs,i,w,us,h,hl,h1=>by
  simp only [List.length_cons] at hl;have hlt:off+i < us.length:=by omega
  have hcell:w.cell? ((⟨b,off,none⟩:Addr).add i)=some us[off+i]:=by rw [KcT];simp [World.cell?,h,hlt]
  have hfr:w.frozen? ((⟨b,off,none⟩:Addr).add i)=false:=by rw [KcT];simp [World.frozen?,h]
  have hst:(store ((⟨b,off,none⟩:Addr).add i) v).run P w=.ok () (w.setCell ⟨b,off+i,none⟩ v):=by
   have hv:=h1 v (by simp);cases v<;>first|(simp [one] at hv;done)|(simp only [store,Sem.run,hcell,hfr];rw [KcT];simp)
  have hb:(w.setCell ⟨b,off+i,none⟩ v).heap[b]? = some (.cells (us.set (off+i) v).toArray T (0,0)):=by
   rw [heap_set,if_pos rfl,h];simp
  obtain ⟨w',h2,henv,a,c,d⟩:=KcL (P:=P) (b:=b) (off:=off) (T:=T) vs (i+1) (w.setCell ⟨b,off+i,none⟩ v) (us.set (off+i) v) hb (by simp;omega) (fun x hx=>h1 x (by simp [hx]));refine ⟨w',?_,Env.trans (b:=w.setCell ⟨b,off+i,none⟩ v) ⟨rfl,rfl,rfl,Nat.le_refl _⟩ henv,by rw [a,Kkp],fun k hk=>by rw [c k hk,heap_set,if_neg (Ne.symm hk)],?_⟩
  ·unfold storeCells;rw [Kw hst];exact h2
  rw [d];congr 2;rw [show off+(i+1)=off+i+1 by omega];have e:(us.set (off+i) v).take (off+i+1)=us.take (off+i)++[v]:=by
   rw [List.take_succ_eq_append_getElem (by simpa using hlt)];simp [List.take_set];exact List.set_eq_of_length_le (List.length_take_le _ _)
  have f:(us.set (off+i) v).drop (off+i+1+vs.length)=us.drop (off+i+(v::vs).length):=by
   rw [List.drop_set,if_pos (by omega)];congr 1;simp;omega
  rw [e,f];simp
theorem Ki2 {H:Hp}{ds es:List D}{us vs:List Value}(h:Reps H ds us)(k:Reps H es vs)(off:Nat):Reps H (lay ds off es) (us.take off++(vs++us.drop (off+vs.length))):=by
 unfold lay;have:=Kcu k;exact Kfq (KfM _ h) (Kfq k (by rw [this];exact KfL _ h))
theorem KZ {α:Type}:∀ {l:List α} {j:Nat} {x:α},l[j]? = some x→l.Perm (x::l.eraseIdx j)
 | [],j,x,h=>by simp at h
 | y::l,0,x,h=>by simp at h;subst h;exact List.Perm.refl _
 |
  y::l,j+1,x,h=>by
  simp at h;simp only [List.eraseIdx_cons_succ];exact ((KZ h).cons y).trans (List.Perm.swap x y _)
theorem Core.write {C:Ctx}{H:Hp}{h:List (Nat×Blk)}{k:List (Nat×Value)}{w w':World}(c:Core C H h k w){j b:Nat}{ds ds':List D}{us':List Value}{T:TypeId}(hj:h[j]? = some (b,.cells ds T))
  (henv:Env w w') (hsz:w'.heap.size=w.heap.size) (hsame:∀ i,i ≠ b→w'.heap[i]? = w.heap[i]?) (hb:w'.heap[b]? = some (.cells us'.toArray T (0,0))) (hr:Reps H ds' us'):Core C H (h.set j (b,.cells ds' T)) k w':=by
 have hlt:j < h.length:=(List.getElem?_eq_some_iff.1 hj).1;have g:h.Perm ([(b,.cells ds T)]++h.eraseIdx j):=KZ hj;have c1:=c.perm g (List.Perm.refl k);obtain ⟨us,h1,h2,d⟩:=c.blks _ (List.mem_of_getElem? hj);have c2:Core ⟨H,w,KP [(b,Blk.cells ds T)] []⟩ H [(b,.cells ds' T)] [] w':=by
  refine ⟨⟨fun a v e=>?_,c.ag.gg.own d hsame⟩,Hp.le_refl H,fun _ _ x=>.inl x,fun i _ l=>hsame i (by simpa [KP,K0] using l),by show w.heap.size≤w'.heap.size;omega,?_,by simp,by simp [KP,K0],?_,?_⟩
  ·have hne:a.block ≠ b:=fun f=>by
    obtain ⟨ab,ao,as_⟩:=a;simp only at f;subst f;have hc:=c.ag _ _ e;cases as_ with
    | none=>rw [d] at e;cases e
    | some s=>simp [World.cell?,h1] at hc
   have:=c.ag a v e;simp only [World.cell?] at this ⊢;rw [hsame _ hne];exact this
  ·intro p hp;simp only [List.mem_singleton] at hp;subst hp;exact ⟨us',hb,hr,d⟩
  ·intro x hx;exact .inl (by simpa [KP,K0] using hx)
  exact henv
 have c3:=Core.call (h1:=[(b,.cells ds T)]) (k1:=[]) (h2:=h.eraseIdx j) (k2:=k) (by simpa using c1) c2;refine c3.perm ?_ (by simp);have p2:(h.set j (b,Blk.cells ds' T))[j]? = some (b,Blk.cells ds' T):=by rw [List.getElem?_set_self hlt]
 have p3:=KZ p2;rw [List.eraseIdx_set_eq] at p3;exact p3.symm
section
variable {P : Program} {C : Ctx} {N : Nat} {ops rest : List Oper} {o : Oper} {s : S} {Q : Exit → S → Prop} {tab : List (Option TI)}
theorem ops_store {b off:Nat}{T T':TypeId}{x y:Operand}{ds:List D}{e:TI}{d:D}(j:Nat)(ht:TabOK P tab)(ho:o.op=.store T x y)(hw:wantD ops s.t o=some true)(hd:o.dst=none)
  (hx:opD s.t x=some (.ptr b off)) (hb:s.h[j]? = some (b,.cells ds T')) (hT:ti tab T=some e) (hy:opD s.t y=some d) (hs:stor d=true) (hsz:Nat.beq (Kah d).length e.size=true) (hle:Nat.ble (off+e.size) ds.length=true)
  (h:opsD P C N ops rest ⟨s.t,s.h.set j (b,.cells (lay ds off (Kah d)) T'),s.k⟩ Q):opsD P C N ops (o::rest) s Q:=
 Kko hw hd fun H a w c k=>by
  obtain ⟨us,h1,h2,n⟩:=c.blks _ (List.mem_of_getElem? hb);have hv:=Kfh hs (Kae k hy);have hlen:=Kcu hv;have p:=Kcu h2;have q:=Nat.eq_of_beq_eq_true hsz;have r:=Nat.le_of_ble_eq_true hle;obtain ⟨w',f,henv,g,l,m⟩:=KcL (P:=P) (b:=b) (off:=off) (a.eval y).cells.toList 0 w us h1 (by omega) (KeZ hv);refine ⟨w',H,_,s.k,?_,Hp.le_refl H,c.write hb henv g l m (by simpa using Ki2 h2 hv off),h⟩;unfold execOp;rw [ho];have hrun:(Instr.storeAt T (a.eval x) (a.eval y)).run P w=.ok () w':=by
   rw [Kcv (Kae k hx)];unfold Instr.storeAt;rw [Kw (a:=(⟨b,off,none⟩:Addr)) rfl];unfold storeVar;rw [Kw (Kby (ti_ok ht hT)),if_neg (by simp only [Array.length_toList] at hlen;omega)];exact f
  show ((Instr.storeAt T (a.eval x) (a.eval y)) >>= fun _=>pure Next.skip).run P w=_
  rw [Kw hrun];rfl
theorem ops_box {i:Nat}{T:TypeId}{x:Operand}{d:D}(ho:o.op=.box T x)(hw:wantD ops s.t o=some true)(hd:o.dst=some i)(hi:Nat.blt i N=true)(hx:opD s.t x=some d)(hs:stor d=true)
  (h:∀ b,opsD P C N ops rest ⟨(i,.ptr b 0)::s.t,s.h++[(b,.cells (Kah d) T)],s.k⟩ Q):opsD P C N ops (o::rest) s Q:=by
 refine Kb4 hw hd hi fun H a w c k=>?_
 have hv:=Kfh hs (Kae k hx);refine ⟨.pointer (some ⟨w.heap.size,0,none⟩),_,H,.ptr w.heap.size 0,_,s.k,?_,Hp.le_refl H,c.alloc T hv,Kbi (by simp [RepC]) rfl rfl,h w.heap.size⟩;unfold execOp;rw [ho];refine Kbb ?_;unfold Instr.box;rw [Kw Kga];simp;first|done|rfl
end
def Goes (P : Program)(f : FuncId) : Prop := ∃ fn, P.funcs[f]? = some fn ∧ (fn.name == "runtime.NumGoroutine") = false ∧ fn.body.isNone = false
def CallsD (P:Program)(f:FuncId)(ds:List D)(h:List (Nat×Blk))(k:List (Nat×Value))(R:D→List (Nat×Blk)→List (Nat×Value)→Prop):Prop:=
 Goes P f∧∀ H w vs,RepsV H ds vs→Ag H w→(∀ p∈h,BlkOK H w p)→(∀ p∈k,TokOK H w p)→(KP h k).Nodup →
  Calls P f vs.toArray w fun e w'=>∃ v H' d h' k',e=.returned v∧Rep H' d v∧Core ⟨H,w,KP h k⟩ H' h' k' w'∧R d h' k'
theorem CallsD.mono {P:Program}{f:FuncId}{ds:List D}{h:List (Nat×Blk)}{k:List (Nat×Value)}{R R':D→List (Nat×Blk)→List (Nat×Value)→Prop}(c:CallsD P f ds h k R)(hr:∀ d h k,R d h k→R' d h k):CallsD P f ds h k R':=
 ⟨c.1,fun H w vs h1 h2 g j l=>(c.2 H w vs h1 h2 g j l).mono fun _ _ ⟨v,H',d,h',k',e,a,b,r⟩=>⟨v,H',d,h',k',e,a,b,hr _ _ _ r⟩⟩
def Wk (d d':D):Prop:=∀ H y,Rep H d y→Rep H d' y
def WkL (ds ds':List D):Prop:=∀ H vs,RepsV H ds vs→RepsV H ds' vs
theorem Wk.refl (d:D):Wk d d:=fun _ _ h=>h
theorem WkL.refl (ds:List D):WkL ds ds:=fun _ _ h=>h
theorem WkL.cons {d d':D}{ds ds':List D}(h:Wk d d')(k:WkL ds ds'):WkL (d::ds) (d'::ds'):=fun H vs x=>by
 simp only [RepsV] at x ⊢;obtain ⟨u,us,rfl,h1,h2⟩:=x;exact ⟨u,us,rfl,h H u h1,k H us h2⟩
theorem Wk.any (d:D):Wk d .any:=fun _ y _=>⟨by simp [RepC],rfl⟩
theorem Wk.no {k:Nat}{xs:List D}{c:Cap}:Wk (.lst k xs c) (.lst k xs .no):=fun H y h=>by
 obtain ⟨h1,h2⟩:=h;refine ⟨?_,by cases y<;>simp_all [D.shape]⟩;simp only [RepC] at h1 ⊢;obtain ⟨z,e,_,a⟩:=h1;exact ⟨z,e,trivial,a⟩
theorem Wk.nil {k k':Nat}:Wk (.lst k [] .full) (.lst k' [] .full):=fun H y h=>by
 obtain ⟨h1,h2⟩:=h;refine ⟨?_,by cases y<;>simp_all [D.shape]⟩;simp only [RepC,Els] at h1 ⊢;exact h1
theorem KjH {P:Program}{f:FuncId}{w:World}{vs:Array Value}(h:Goes P f):(callFunc f vs).run P w=.ok (.enter f vs) w:=by
 obtain ⟨fn,h1,h2,b⟩:=h;unfold callFunc Go.program;rw [Kw (a:=P) rfl,h1];simp only [h2,b,Bool.false_eq_true,if_false];rfl
section
variable {P : Program} {C : Ctx} {N : Nat} {ops rest : List Oper} {o : Oper} {s : S} {Q : Exit → S → Prop} {tab : List (Option TI)}
theorem Kd1 {f:FuncId}{args:Array Operand}{ts:Array TypeId}{a:Act}{w:World}(ho:o.op=.call ⟨.value (.func f),args,ts⟩)(h:Goes P f):(execOp a.eval o).run P w=.ok (.enter f (args.map a.eval)) w:=by
 unfold execOp;rw [ho];simp only [];have:(resolve a.eval ⟨.value (.func f),args,ts⟩ o.type).run P w=.ok ⟨.fn (.func f) #[],args.map a.eval⟩ w:=by
  simp [resolve,Deferred.ofValue,Act.eval];first|done|rfl
 rw [Kw this];show (callFunc f (args.map a.eval++#[])).run P w=_
 rw [Array.append_empty];exact KjH h
theorem ops_call {f:FuncId}{args:List Operand}{ts:Array TypeId}{i:Nat}{ds ds':List D}{h1 h2:List (Nat×Blk)}{k1 k2:List (Nat×Value)}{R:D→List (Nat×Blk)→List (Nat×Value)→Prop}
  (hc:CallsD P f ds' h1 k1 R) (ho:o.op=.call ⟨.value (.func f),args.toArray,ts⟩) (hw:wantD ops s.t o=some true) (hd:o.dst=some i) (hi:Nat.blt i N=true) (ha:Kb3 args (opD s.t)=some ds) (hwk:WkL ds ds')
  (hh:s.h.Perm (h1++h2)) (hk:s.k.Perm (k1++k2)) (h:∀ d h' k',R d h' k'→opsD P C N ops rest ⟨(i,d)::s.t,h'++h2,k'++k2⟩ Q):opsD P C N ops (o::rest) s Q:=by
 rintro a w ⟨H,c,k,hN,hdf⟩;unfold wpList;rw [Ka2 k hw,if_pos rfl];refine .inl ?_;unfold Oper.wp;rw [Kd1 ho hc.1,Oper.upon_enter];have c0:=c.perm hh hk;have nd:=(KbM h1 h2 k1 k2).nodup_iff.1 c0.nd;rw [List.nodup_append] at nd;have hv:=hwk H _ (Kco k ha);have:=hc.2 H w _ hv c.ag (fun p hp=>c0.blks p (List.mem_append_left _ hp)) (fun p hp=>c0.toks p (List.mem_append_left _ hp)) nd.1;rw [List.map_toArray];refine this.mono ?_;rintro e w' ⟨v,H',d,h',k',rfl,hr,hcore,hR⟩;simp only [];rw [hd];refine h d h' k' hR _ _ ⟨H',Core.call c0 hcore,TOK.put (k.mono hcore.le) (by rw [hN];simpa using hi) hr,?_,hdf⟩
 simp only [Act.put,Array.size_setIfInBounds];exact hN
def thenD (next:S→Prop)(Q:Exit→S→Prop):Exit→S→Prop
 | .normal,s=>next s
 | x,s=>Q x s
def Khm (id:Nat)(Q:Exit→S→Prop):Exit→S→Prop
 | .exit j,s=>bif Nat.beq j id then Q .normal s else Q (.exit j) s
 | x,s=>Q x s
theorem Kz {id:Nat}{ops:List Oper}(h:opsD P C N ops ops s Q):wpD P C N (.region id ops.toArray false) s Q:=fun a w r=>wp_region_lit (h a w r)
theorem Km {x y:Code}(h:wpD P C N x s (thenD (fun s'=>wpD P C N y s' Q) Q)):wpD P C N (.seq x y) s Q:=fun a w r=>by
 refine wp_seq (wp_mono (h a w r) ?_);rintro e a' w' ⟨s',r',q⟩;cases e<;>first|exact q a' w' r'|exact ⟨s',r',q⟩
theorem Kx (h:Q .normal s):wpD P C N .skip s Q:=fun _ _ r=>wp_skip ⟨s,r,h⟩
theorem Kr (h:Q .ret s):wpD P C N .ret s Q:=fun _ _ r=>wp_ret ⟨s,r,h⟩
theorem Kas {id:Nat}(h:Q (.exit id) s):wpD P C N (.exit id) s Q:=fun _ _ r=>wp_exit ⟨s,r,h⟩
theorem KfE {c:Operand}{x y:Code}{b:Bool}(hc:opD s.t c=some (.v (.bool b)))(ht:b=true→wpD P C N x s Q)(hf:b=false→wpD P C N y s Q):wpD P C N (.cond c x y) s Q:=fun a w r=>by
 have d:=r;obtain ⟨H,_,k,_⟩:=d;exact wp_cond_split (t:=b) (KW (Kae k hc)) (fun e=>ht e a w r) (fun e=>hf e a w r)
theorem wpD_true {c:Operand}{x y:Code}(hc:opD s.t c=some (.v (.bool true)))(h:wpD P C N x s Q):wpD P C N (.cond c x y) s Q:=KfE hc (fun _=>h) (fun e=>by cases e)
theorem KdS {c:Operand}{x y:Code}(hc:opD s.t c=some (.v (.bool false)))(h:wpD P C N y s Q):wpD P C N (.cond c x y) s Q:=KfE hc (fun e=>by cases e) (fun _=>h)
theorem KJ {id:Nat}{c:Code}(h:wpD P C N c s (Khm id Q)):wpD P C N (.block id c) s Q:=fun a w r=>by
 refine wp_block (wp_mono (h a w r) ?_);rintro e a' w' ⟨s',r',q⟩;cases e with
 |
  exit j=>
  simp only [Khm] at q;simp only [Exit.inBlock];cases hb:Nat.beq j id with
  | true=>rw [hb] at q;rw [if_pos (Nat.eq_of_beq_eq_true hb)];exact ⟨s',r',q⟩
  | false=>rw [hb] at q;rw [if_neg (Nat.ne_of_beq_eq_false hb)];exact ⟨s',r',q⟩
 | _=>exact ⟨s',r',q⟩
theorem Kkq {c:Code}{Q':Exit→S→Prop}(h:wpD P C N c s Q)(hq:∀ x s,Q x s→Q' x s):wpD P C N c s Q':=fun a w r=>wp_mono (h a w r) fun _ _ _ ⟨s',r',q⟩=>⟨s',r',hq _ _ q⟩
def KjZ (P:Program)(C:Ctx)(N:Nat)(c:Code)(Q:Exit→S→Prop)(n:Nat)(s:S):Prop:=∀ a w,Rel C N s a w→Code.rounds P c (QD C N Q) n a w
theorem wpD_loop {c:Code}(n:Nat)(h:KjZ P C N c Q n s):wpD P C N (.loop c) s Q:=fun a w r=>wp_loop_rounds n (h a w r)
theorem KlQ {c:Code}{n:Nat}(h:wpD P C N c s (thenD (KjZ P C N c Q n) Q)):KjZ P C N c Q (n+1) s:=fun a w r=>by
 rw [rounds_succ];refine wp_mono (h a w r) ?_;rintro e a' w' ⟨s',r',q⟩;cases e<;>first|exact q a' w' r'|exact ⟨s',r',q⟩
end
end
section
open Go
def argT:Nat→List D→List (Nat×D)
 | _,[]=>[]
 | i,d::ds=>(i,d)::argT (i+1) ds
theorem KjI:∀ (ds:List D) (i j:Nat) (d:D),look (argT i ds) j=some d→∃ n,j=i+n∧ds[n]? = some d
 | [],i,j,d,h=>by simp [argT,look] at h
 |
  d0::ds,i,j,d,h=>by
  simp only [argT,look] at h;cases hb:Nat.beq i j with
  |
   true=>
   rw [hb] at h;simp at h;exact ⟨0,(Nat.eq_of_beq_eq_true hb).symm,by simp [h]⟩
  |
   false=>
   rw [hb] at h;simp at h;obtain ⟨n,h1,h2⟩:=KjI ds (i+1) j d h;exact ⟨n+1,by omega,by simpa using h2⟩
theorem Kgc {H:Hp}:∀ {l:List D} {us:List Value},RepsV H l us→us.length=l.length
 | [],us,h=>by simp only [RepsV] at h;subst h;rfl
 |
  d::l,us,h=>by
  simp only [RepsV] at h;obtain ⟨u,us',rfl,_,h2⟩:=h;simp [Kgc h2]
def Khn (tab:List (Option TI))(s:S):ResultVar→D→Prop
 | .tmp t,d=>look s.t t=some d
 | .cell a T,d=>∃ (j b off:Nat) (ds:List D) (T':TypeId) (i:TI),look s.t a=some (.ptr b off)∧s.h[j]? = some (b,Blk.cells ds T')∧ti tab T=some i∧partD i ds off=some d
def resL (tab:List (Option TI))(s:S):List ResultVar→List D→Prop
 | [],ds=>ds=[]
 | r::rs,ds=>∃ d ds',ds=d::ds'∧Khn tab s r d∧resL tab s rs ds'
def wrapD:List D→D
 | [d]=>d
 | l=>.tup l
def retD (tab:List (Option TI))(rs:List ResultVar)(R:D→List (Nat×Blk)→List (Nat×Value)→Prop):Exit→S→Prop:=fun x s=>
 (x=.ret∨x=.normal)∧∃ ds hh kk,resL tab s rs ds∧hh.Sublist s.h∧kk.Sublist s.k∧R (wrapD ds) hh kk
def resF (tmps:Array Value):ResultVar→Sem Value
 | .tmp t=>pure (tmps.getD t undef)
 | .cell a t=>do loadVar t (← asAddr (tmps.getD a undef))
theorem Klk {H:Hp}{t:List (Nat×D)}{a:Act}(k:TOK H t a){i:Nat}{d:D}(h:look t i=some d):Rep H d (a.tmps.getD i undef):=by
 obtain ⟨v,h1,h2⟩:=k i d h;rw [Array.getD_eq_getD_getElem?,h1];exact h2
theorem resOne_run {P:Program}{tab:List (Option TI)}(ht:TabOK P tab){C:Ctx}{H:Hp}{s:S}{a:Act}{w:World}(c:Core C H s.h s.k w)(k:TOK H s.t a){r:ResultVar}{d:D}(h:Khn tab s r d) :
  ∃ v,(resF a.tmps r).run P w=.ok v w∧Rep H d v:=by
 cases r with
 | tmp t=>simp only [Khn] at h;exact ⟨_,rfl,Klk k h⟩
 |
  cell x T=>
  simp only [Khn] at h;obtain ⟨j,b,off,ds,T',i,h1,h2,f,g⟩:=h;obtain ⟨us,l,m,q⟩:=c.blks _ (List.mem_of_getElem? h2);obtain ⟨v,e,p⟩:=Kfg (P:=P) (T:=T) (n:=off) (ti_ok ht f) (KgS l) m g;refine ⟨v,?_,p⟩;have:=Kcv (Klk k h1);simp only [resF,this];rw [Kw (a:=(⟨b,off,none⟩:Addr)) rfl];unfold Instr.loadAt at e;rw [Kw (a:=(⟨b,0+off,none⟩:Addr)) rfl,Nat.zero_add] at e;exact e
theorem resL_run {P:Program}{tab:List (Option TI)}(ht:TabOK P tab){C:Ctx}{H:Hp}{s:S}{a:Act}{w:World}(c:Core C H s.h s.k w)(k:TOK H s.t a):∀ {rs:List ResultVar} {ds:List D},resL tab s rs ds →
  ∃ vs,(rs.mapM (resF a.tmps)).run P w=.ok vs w∧RepsV H ds vs
 | [],ds,h=>by simp only [resL] at h;subst h;exact ⟨[],rfl,by simp [RepsV]⟩
 |
  r::rs,ds,h=>by
  simp only [resL] at h;obtain ⟨d,ds',rfl,h1,h2⟩:=h;obtain ⟨v,b,e⟩:=resOne_run ht c k h1;obtain ⟨vs,f,g⟩:=resL_run ht c k h2;refine ⟨v::vs,?_,?_⟩
  ·rw [List.mapM_cons,Kw b,Kw f];rfl
  simp only [RepsV];exact ⟨v,vs,rfl,e,g⟩
theorem Kll {H:Hp}{l:List D}{vs:List Value}(h:RepC H (.tup l) [.tuple vs.toArray]):Rep H (.tup l) (.tuple vs.toArray):=⟨h,rfl⟩
theorem KlX {P:Program}{tab:List (Option TI)}(ht:TabOK P tab){C:Ctx}{H:Hp}{s:S}{a:Act}{w:World}(c:Core C H s.h s.k w)(k:TOK H s.t a){fn:Func}{ds:List D}(h:resL tab s fn.results.toList ds) :
  ∃ v,(results fn a.tmps).run P w=.ok v w∧Rep H (wrapD ds) v:=by
 obtain ⟨vs,h1,h2⟩:=resL_run ht c k h;have b:(fn.results.mapM (resF a.tmps)).run P w=.ok vs.toArray w:=by
  rw [Array.mapM_eq_mapM_toList];rw [map_eq_pure_bind,Kw h1];rfl
 have e:results fn a.tmps=(do let vs ← fn.results.mapM (resF a.tmps);pure (if h:vs.size=1 then vs[0] else .tuple vs)):=rfl;rw [e,Kw b];refine ⟨_,rfl,?_⟩;match ds,h2 with
 | [],h2=>simp only [RepsV] at h2;subst h2;exact Kll (vs:=[]) (by simp [RepC,RepsV])
 |
  [d],h2=>
  simp only [RepsV] at h2;obtain ⟨u,us',rfl,f,rfl⟩:=h2;exact f
 |
  d::d'::ds,h2=>
  have hl:=Kgc h2;rw [dif_neg (by simp [hl])];exact Kll (by simp only [RepC];exact ⟨vs,rfl,h2⟩)
theorem enter {P:Program}{tab:List (Option TI)}(ht:TabOK P tab){f:FuncId}{fn:Func}{c:Code}{ds:List D}{h:List (Nat×Blk)}{k:List (Nat×Value)}{R:D→List (Nat×Blk)→List (Nat×Value)→Prop}{rs:List ResultVar}
  (hf : P.funcs[f]? = some fn) (hb : fn.body = some c) (hn : (fn.name == "runtime.NumGoroutine") = false) {N : Nat} (hN : fn.ntmps = N) (hl : Nat.ble ds.length N = true) (hrs : fn.results.toList = rs)
  (hw:∀ C,wpD P C N c ⟨argT 0 ds,h,k⟩ (retD tab rs R)):CallsD P f ds h k R:=by
 subst hN;subst hrs;refine ⟨⟨fn,hf,hn,by simp [hb]⟩,fun H w vs h1 h2 j l m=>?_⟩;have hlen:=Kgc h1;have hle:=Nat.le_of_ble_eq_true hl;refine calls_of_wp hf hb (wp_mono (hw ⟨H,w,KP h k⟩ _ _ ⟨H,?_,?_,?_,rfl⟩) ?_)
 ·exact ⟨h2,Hp.le_refl H,fun _ _ x=>.inl x,fun _ _ _=>rfl,Nat.le_refl _,j,l,m,fun b hb=>.inl hb,Env.refl w⟩
 ·intro i d e;obtain ⟨n,rfl,hn⟩:=KjI ds 0 i d e;obtain ⟨u,a,g⟩:=KhY h1 hn;refine ⟨u,?_,g⟩;have hlt:n < vs.length:=(List.getElem?_eq_some_iff.1 a).1;simp only [Nat.zero_add];rw [Array.getElem?_append_left (by simpa using hlt)];simpa using a
 ·simp;omega
 rintro e a' w' ⟨s',⟨H',c',k',hN,hdf⟩,hx,ds',hh,kk,hr,p,q,hR⟩;obtain ⟨v,a,g⟩:=KlX ht c' k' hr;have:a'.defers=[]∧∃ v,(results fn a'.tmps).run P w'=.ok v w'∧∃ v',∃ H' d h' k',Ending.returned v=.returned v'∧Rep H' d v'∧Core ⟨H,w,KP h k⟩ H' h' k' w'∧R d h' k':=
  ⟨hdf,v,a,v,H',wrapD ds',hh,kk,rfl,g,c'.drop p q,hR⟩
 rcases hx with rfl|rfl<;>exact this
end
section
open Go
section
variable {P : Program} {C : Ctx} {N : Nat} {ops rest : List Oper} {o : Oper} {t : List (Nat × D)} {h : List (Nat × Blk)} {k : List (Nat × Value)} {Q : Exit → S → Prop} {tab : List (Option TI)}
theorem Kc0 {i:Nat}{d:D}(ht:TabOK P tab)(hw:wantD ops t o=some true)(hd:o.dst=some i)(hi:Nat.blt i N=true)(e:evP tab t o.op=some d)
 (g:opsD P C N ops rest ⟨(i,d)::t,h,k⟩ Q):opsD P C N ops (o::rest) ⟨t,h,k⟩ Q:=ops_pure (s:=⟨t,h,k⟩) ht hw hd hi e g
theorem p_skip {i:Nat}(hw:wantD ops t o=some false)(hd:o.dst=some i)(hi:Nat.blt i N=true)(g:opsD P C N ops rest ⟨(i,.v (.tuple #[]))::t,h,k⟩ Q):opsD P C N ops (o::rest) ⟨t,h,k⟩ Q:=ops_skip (s:=⟨t,h,k⟩) hw hd hi g
theorem Kaa {i b off:Nat}{T T':TypeId}{x:Operand}{ds:List D}{a:TI}{d:D}(j:Nat)(ht:TabOK P tab)(ho:o.op=.load T x)(hw:wantD ops t o=some true)(hd:o.dst=some i)(hi:Nat.blt i N=true)
 (hx:opD t x=some (.ptr b off)) (hb:h[j]? = some (b,.cells ds T')) (hT:ti tab T=some a) (e:partD a ds off=some d)
 (g:opsD P C N ops rest ⟨(i,d)::t,h,k⟩ Q):opsD P C N ops (o::rest) ⟨t,h,k⟩ Q:=ops_load (s:=⟨t,h,k⟩) j ht ho hw hd hi hx hb hT e g
theorem KaK {i:Nat}{T:TypeId}{x:Operand}{d0 d:D}{a:TI}(ht:TabOK P tab)(ho:o.op=.load T x)(hw:wantD ops t o=some true)(hd:o.dst=some i)(hi:Nat.blt i N=true)
 (hx:opD t x=some (.el d0)) (hT:ti tab T=some a) (e:partD a (Kah d0) 0=some d) (hne:(Kah d0).isEmpty=false)
 (g:opsD P C N ops rest ⟨(i,d)::t,h,k⟩ Q):opsD P C N ops (o::rest) ⟨t,h,k⟩ Q:=ops_loadEl (s:=⟨t,h,k⟩) ht ho hw hd hi hx hT e (by intro e;rw [e] at hne;cases hne) g
theorem Kai {i:Nat}{T:TypeId}{a:TI}{zs:List D}(ht:TabOK P tab)(ho:o.op=.alloc T)(hw:wantD ops t o=some true)(hd:o.dst=some i)(hi:Nat.blt i N=true)(hT:ti tab T=some a)(hz:a.zero.all one=true)(e:a.zero.map dOf=zs)
 (g:∀ b,opsD P C N ops rest ⟨(i,.ptr b 0)::t,h++[(b,.cells zs T)],k⟩ Q):opsD P C N ops (o::rest) ⟨t,h,k⟩ Q:=ops_alloc (s:=⟨t,h,k⟩) ht ho hw hd hi hT hz (by rw [e];exact g)
theorem Kiq {b off:Nat}{T T':TypeId}{x y:Operand}{ds ds':List D}{a:TI}{d:D}{h':List (Nat×Blk)}(j:Nat)(ht:TabOK P tab)(ho:o.op=.store T x y)(hw:wantD ops t o=some true)(hd:o.dst=none)
  (hx:opD t x=some (.ptr b off)) (hb:h[j]? = some (b,.cells ds T')) (hT:ti tab T=some a) (hy:opD t y=some d) (hs:stor d=true) (hsz:Nat.beq (Kah d).length a.size=true) (hle:Nat.ble (off+a.size) ds.length=true)
  (e:lay ds off (Kah d)=ds') (e':h.set j (b,.cells ds' T')=h') (g:opsD P C N ops rest ⟨t,h',k⟩ Q):opsD P C N ops (o::rest) ⟨t,h,k⟩ Q:=
 ops_store (s:=⟨t,h,k⟩) j ht ho hw hd hx hb hT hy hs hsz hle (by rw [e,e'];exact g)
theorem p_box {i:Nat}{T:TypeId}{x:Operand}{d:D}{ds:List D}(ho:o.op=.box T x)(hw:wantD ops t o=some true)(hd:o.dst=some i)(hi:Nat.blt i N=true)(hx:opD t x=some d)(hs:stor d=true)(e:Kah d=ds)
 (g:∀ b,opsD P C N ops rest ⟨(i,.ptr b 0)::t,h++[(b,.cells ds T)],k⟩ Q):opsD P C N ops (o::rest) ⟨t,h,k⟩ Q:=ops_box (s:=⟨t,h,k⟩) ho hw hd hi hx hs (by rw [e];exact g)
theorem p_call {f:FuncId}{args:List Operand}{ts:Array TypeId}{i:Nat}{ds ds':List D}{R:D→List (Nat×Blk)→List (Nat×Value)→Prop}
  (hc:CallsD P f ds' [] [] R) (ho:o.op=.call ⟨.value (.func f),args.toArray,ts⟩) (hw:wantD ops t o=some true) (hd:o.dst=some i) (hi:Nat.blt i N=true) (ha:Kb3 args (opD t)=some ds) (hwk:WkL ds ds')
  (g:∀ d h' k',R d h' k'→opsD P C N ops rest ⟨(i,d)::t,h'++h,k'++k⟩ Q):opsD P C N ops (o::rest) ⟨t,h,k⟩ Q:=
 ops_call (s:=⟨t,h,k⟩) hc ho hw hd hi ha hwk (List.Perm.refl _) (List.Perm.refl _) g
theorem K5 {f:FuncId}{args:List Operand}{ts:Array TypeId}{i:Nat}{ds ds':List D}{R:D→Prop}
  (hc:CallsD P f ds' [] [] (fun d h k=>R d∧h=[]∧k=[])) (ho:o.op=.call ⟨.value (.func f),args.toArray,ts⟩) (hw:wantD ops t o=some true) (hd:o.dst=some i) (hi:Nat.blt i N=true) (ha:Kb3 args (opD t)=some ds) (hwk:WkL ds ds')
  (g:∀ d,R d→opsD P C N ops rest ⟨(i,d)::t,h,k⟩ Q):opsD P C N ops (o::rest) ⟨t,h,k⟩ Q:=
 p_call hc ho hw hd hi ha hwk fun d h' k' ⟨hR,a,b⟩=>by subst a;subst b;exact g d hR
theorem KaR {c x y:Operand}{d:D}(ho:o.op=.pick c x y)(hc:opD t c=some (.v (.bool true)))(hx:opD t x=some d):∀ H a w,TOK H t a→∃ v,(execOp a.eval o).run P w=.ok (.value v) w∧Rep H d v:=
 fun H a w k=>⟨a.eval x,by unfold execOp;rw [ho];simp only [KW (Kae k hc)];rfl,Kae k hx⟩
theorem Kay {c x y:Operand}{d:D}(ho:o.op=.pick c x y)(hc:opD t c=some (.v (.bool false)))(hx:opD t y=some d):∀ H a w,TOK H t a→∃ v,(execOp a.eval o).run P w=.ok (.value v) w∧Rep H d v:=
 fun H a w k=>⟨a.eval y,by unfold execOp;rw [ho];simp only [KW (Kae k hc)];rfl,Kae k hx⟩
theorem Kal {i:Nat}{c x y:Operand}{d:D}(ho:o.op=.pick c x y)(hw:wantD ops t o=some true)(hd:o.dst=some i)(hi:Nat.blt i N=true)(hc:opD t c=some (.v (.bool true)))(hx:opD t x=some d)
  (g:opsD P C N ops rest ⟨(i,d)::t,h,k⟩ Q):opsD P C N ops (o::rest) ⟨t,h,k⟩ Q:=
 Kdi (s:=⟨t,h,k⟩) hw hd hi (fun H a w k=>⟨a.eval x,by unfold execOp;rw [ho];simp only [KW (Kae k hc)];rfl,Kae k hx⟩) g
theorem Kac {i:Nat}{c x y:Operand}{d:D}(ho:o.op=.pick c x y)(hw:wantD ops t o=some true)(hd:o.dst=some i)(hi:Nat.blt i N=true)(hc:opD t c=some (.v (.bool false)))(hx:opD t y=some d)
  (g:opsD P C N ops rest ⟨(i,d)::t,h,k⟩ Q):opsD P C N ops (o::rest) ⟨t,h,k⟩ Q:=
 Kdi (s:=⟨t,h,k⟩) hw hd hi (fun H a w k=>⟨a.eval y,by unfold execOp;rw [ho];simp only [KW (Kae k hc)];rfl,Kae k hx⟩) g
theorem KaH {i:Nat}{b:Bool}(hx:look t i=some (.v (.bool b)))(g1:b=true→opsD P C N ops rest ⟨(i,.v (.bool true))::t,h,k⟩ Q)(f:b=false→opsD P C N ops rest ⟨(i,.v (.bool false))::t,h,k⟩ Q):opsD P C N ops rest ⟨t,h,k⟩ Q:=by
 have key:∀ b',b=b'→opsD P C N ops rest ⟨(i,.v (.bool b'))::t,h,k⟩ Q→opsD P C N ops rest ⟨t,h,k⟩ Q:=by
  intro b' e g;subst e;refine ops_wk (s':=⟨(i,.v (.bool b))::t,h,k⟩) (fun H a w c k'=>⟨H,Hp.le_refl H,c,fun j d hj=>?_⟩) g;simp only [look] at hj;cases hb:Nat.beq i j with
  |
   true=>
   rw [hb] at hj;simp at hj;subst hj;have:=Nat.eq_of_beq_eq_true hb;subst this;exact k' i _ hx
  | false=>rw [hb] at hj;exact k' j d hj
 cases b
 ·exact key false rfl (f rfl)
 exact key true rfl (g1 rfl)
theorem p_eq {i:Nat}{d d':D}(hx:look t i=some d)(e:Wk d d')(g:opsD P C N ops rest ⟨(i,d')::t,h,k⟩ Q):opsD P C N ops rest ⟨t,h,k⟩ Q:=by
 refine ops_wk (s':=⟨(i,d')::t,h,k⟩) (fun H a w c k'=>⟨H,Hp.le_refl H,c,fun j d0 hj=>?_⟩) g;simp only [look] at hj;cases hb:Nat.beq i j with
 |
  true=>
  rw [hb] at hj;simp at hj;subst hj;have:=Nat.eq_of_beq_eq_true hb;subst this;obtain ⟨v,h1,h2⟩:=k' i _ hx;exact ⟨v,h1,e _ _ h2⟩
 | false=>rw [hb] at hj;exact k' j d0 hj
def keepT (l:List Nat)(t:List (Nat×D)):List (Nat×D):=
 match l with
 | []=>[]
 |
  i::l=>match look t i with
  | some d=>(i,d)::keepT l t
  | none=>keepT l t
theorem Kkr {H:Hp}{a:Act}{t:List (Nat×D)}(k:TOK H t a):∀ l,TOK H (keepT l t) a
 | [],i,d,e=>by simp [keepT,look] at e
 |
  j::l,i,d,e=>by
  unfold keepT at e;split at e
  ·rename_i d0 h0;simp only [look] at e;cases hb:Nat.beq j i with
   |
    true=>
    rw [hb] at e;simp at e;subst e;have:=Nat.eq_of_beq_eq_true hb;subst this;exact k j _ h0
   | false=>rw [hb] at e;exact Kkr k l i d e
  exact Kkr k l i d e
theorem Kc {next:S→Prop}{s:S}(g:next s):thenD next Q .normal s:=g
theorem Ky {next:S→Prop}{s:S}(g:Q .ret s):thenD next Q .ret s:=g
theorem KM {next:S→Prop}{s:S}{j:Nat}(g:Q (.exit j) s):thenD next Q (.exit j) s:=g
theorem KK {s:S}{j:Nat}(g:Q .normal s):Khm j Q .normal s:=g
theorem KI {s:S}{j:Nat}(g:Q .ret s):Khm j Q .ret s:=g
theorem Kan {s:S}{j:Nat}(g:Q .normal s):Khm j Q (.exit j) s:=by
 show (bif Nat.beq j j then Q .normal s else Q (.exit j) s)
 rw [Nat.beq_refl];exact g
theorem Kgd {s:S}{j i:Nat}(hb:Nat.beq i j=false)(g:Q (.exit i) s):Khm j Q (.exit i) s:=by
 show (bif Nat.beq i j then Q .normal s else Q (.exit i) s)
 rw [hb];exact g
end
end
section
open Go Go.RowKit
section
variable {P : Program} {C : Ctx} {N : Nat} {ops rest : List Oper} {o : Oper} {t : List (Nat × D)} {h : List (Nat × Blk)} {k : List (Nat × Value)} {Q : Exit → S → Prop} {tab : List (Option TI)}
def divV (op:BinOp)(k:IntKind)(a b:Int):Option Value:=
 match op with
 | .quo=>some (.int k (k.wrap (a.tdiv b)))
 | .rem=>some (.int k (a.tmod b))
 | _=>none
theorem x_div {op:BinOp}{xt yt:TypeId}{x y:Operand}{kk:IntKind}{a b:Int}{r:Value}(ho:o.op=.binOp op xt x y yt)(hx:opD t x=some (.v (.int kk a)))(hy:opD t y=some (.v (.int kk b)))(e:divV op kk a b=some r)(hb:b ≠ 0):∀ H a w,TOK H t a→∃ v,(execOp a.eval o).run P w=.ok (.value v) w∧Rep H (.v r) v:=
 fun H ac w kt=>by
  refine ⟨r,?_,rep_v ?_⟩
  ·unfold execOp;rw [ho];refine Kbb ?_;rw [KW (Kae kt hx),KW (Kae kt hy)];cases op<;>simp [divV] at e<;>subst e<;>simp [eqGuard,binOp,Op.intDiv,hb]<;>rfl
  cases op<;>simp [divV] at e<;>subst e<;>rfl
theorem p_div {i:Nat}{op:BinOp}{xt yt:TypeId}{x y:Operand}{kk:IntKind}{a b:Int}{r:Value}(ho:o.op=.binOp op xt x y yt)(hw:wantD ops t o=some true)(hd:o.dst=some i)(hi:Nat.blt i N=true)
 (hx:opD t x=some (.v (.int kk a))) (hy:opD t y=some (.v (.int kk b))) (e:divV op kk a b=some r) (hb:b ≠ 0)
 (g:opsD P C N ops rest ⟨(i,.v r)::t,h,k⟩ Q):opsD P C N ops (o::rest) ⟨t,h,k⟩ Q:=Kdi (s:=⟨t,h,k⟩) hw hd hi (x_div ho hx hy e hb) g
theorem Klm:∀ (cs:List Value) (off j:Nat) (us:List Value),off+j+cs.length≤us.length →
  (cs.zipIdx j).foldl (fun (a:Array Value) (x:Value×Nat)=>a.setIfInBounds (off+x.2) x.1) us.toArray=(us.take (off+j)++(cs++us.drop (off+j+cs.length))).toArray
 | [],off,j,us,_=>by simp
 |
  c::cs,off,j,us,hl=>by
  simp only [List.length_cons] at hl;rw [List.zipIdx_cons,List.foldl_cons];simp only [List.setIfInBounds_toArray];rw [Klm cs off (j+1) (us.set (off+j) c) (by simp;omega)];congr 1;rw [show off+(j+1)=off+j+1 by omega];have hlt:off+j < us.length:=by omega
  have b:(us.set (off+j) c).take (off+j+1)=us.take (off+j)++[c]:=by
   rw [List.take_succ_eq_append_getElem (by simpa using hlt)];simp [List.take_set];exact List.set_eq_of_length_le (List.length_take_le _ _)
  have d:(us.set (off+j) c).drop (off+j+1+cs.length)=us.drop (off+j+(c::cs).length):=by
   rw [List.drop_set,if_pos (by omega)];congr 1;simp;omega
  rw [b,d];simp
def Kdx (tab:List (Option TI))(fs:List (Nat×Nat))(t:List (Nat×D)):List (Nat×Operand)→List D→Option (List D)
 | [],cs=>some cs
 |
  (f,x)::ps,cs=>match fs[f]? with
  |
   some fl=>match ti tab fl.1,opD t x with
   | some j,some d=>bif stor d && Nat.beq (Kah d).length j.size && Nat.ble (fl.2+j.size) cs.length then Kdx tab fs t ps (lay cs fl.2 (Kah d)) else none
   | _,_=>none
  | none=>none
theorem lay_length {ds es:List D}{off:Nat}(h:off+es.length≤ds.length):(lay ds off es).length=ds.length:=by
 unfold lay;simp;omega
theorem Kj0 {H:Hp}{a:Act}(hT:TabOK P tab)(kt:TOK H t a){fs:List (Nat×Nat)}{place:Nat→Option (Nat×Nat)}(hp:∀ f fl j,fs[f]? = some fl→ti tab fl.1=some j→place f=some (fl.2,j.size)) :
  ∀ (ps:List (Nat×Operand)) (cs:List D) (us:List Value) (r:List D),Reps H cs us→Kdx tab fs t ps cs=some r→∃ vs,Instr.fill place us.toArray (ps.map fun p=>(p.1,a.eval p.2))=some vs.toArray∧Reps H r vs
 |
  [],cs,us,r,hr,e=>by
  simp only [Kdx,Option.some.injEq] at e;subst e;exact ⟨us,by simp [Instr.fill],hr⟩
 |
  (f,x)::ps,cs,us,r,hr,e=>by
  simp only [Kdx] at e;split at e
  ·rename_i fl hf;split at e
   ·rename_i j d hj hx;cases hb:(stor d && Nat.beq (Kah d).length j.size && Nat.ble (fl.2+j.size) cs.length) with
    | false=>rw [hb] at e;cases e
    |
     true=>
     rw [hb] at e;simp only [cond_true] at e;simp only [Bool.and_eq_true] at hb;obtain ⟨⟨h1,h2⟩,b⟩:=hb;have h2:=Nat.eq_of_beq_eq_true h2;have b:=Nat.le_of_ble_eq_true b;have hv:=Kfh h1 (Kae kt hx);have c:=Kcu hv;have m:=Kcu hr;have hl:=Ki2 hr hv fl.2;obtain ⟨vs,g,l⟩:=Kj0 hT kt hp ps _ _ r hl e;refine ⟨vs,?_,l⟩;simp only [List.map_cons,Instr.fill,hp f fl j hf hj];simp only [Array.length_toList] at c;rw [if_neg]
     ·have:=Klm (a.eval x).cells.toList fl.2 0 us (by simp;omega);simp only [Nat.add_zero] at this;rw [← g];congr 1;rw [← this];rw [← Array.foldl_toList];congr 1;simp
     simp;omega
   cases e
  cases e
theorem x_buildF {df:Value→D}(hdf:∀ (H:Hp) (z:Value),RepC H (df z) [z]∧(df z).flat=true){T:TypeId}{ps:Array (Nat×Operand)}{b:TI}{fs:List (Nat×Nat)}{r:List D}(hT:TabOK P tab)(ho:o.op=.build T ps)(hti:ti tab T=some b)(hfs:b.d=.struct fs)(hall:fs.all (fun f=>(ti tab f.1).isSome)=true)(hz:b.zero.all one=true)(e:Kdx tab fs t ps.toList (b.zero.map df)=some r):∀ H a w,TOK H t a→∃ v,(execOp a.eval o).run P w=.ok (.value v) w∧Rep H (.agg r) v:=
 fun H a w kt=>by
 obtain ⟨z,h1,h2⟩:=Kcr (w:=w) (ti_ok hT hti);obtain ⟨d,g,m⟩:=Kak (w:=w) (ti_ok hT hti);obtain ⟨gs,rfl,c⟩:=KfN (m.trans hfs);have hr:Reps H (b.zero.map df) z.cells.toList:=by
  rw [h2];rw [List.all_eq_true] at hz;revert hz;generalize b.zero=l;intro hz;induction l with
  | nil=>simp [Reps]
  |
   cons u l ih=>
   simp only [List.map_cons,Reps];exact ⟨u,l,rfl,⟨(hdf H u).1,hz u (by simp),(hdf H u).2⟩,ih (fun x hx=>hz x (by simp [hx]))⟩
 have hpl:∀ (l:List Field),(∀ f∈l,(ti tab f.type).isSome=true)→(l.mapM (fun f=>do pure (f.offset,← Go.sizeOf f.type):Field→Sem (Nat×Nat))).run P w=.ok (l.map fun f=>(f.offset,((ti tab f.type).map (·.size)).getD 0)) w:=by
  intro l;induction l with
  | nil=>intro _;rfl
  |
   cons f l ih=>
   intro hl;have hf:=hl f (by simp);obtain ⟨j,hj⟩:=Option.isSome_iff_exists.1 hf;rw [List.mapM_cons,Kw (a:=(f.offset,j.size)) ?_,Kw (ih fun x hx=>hl x (by simp [hx]))]
   ·simp [hj]
   rw [Kw (Kby (ti_ok hT hj))];rfl
 have hgs:∀ f∈gs.toList,(ti tab f.type).isSome=true:=by
  intro f hf;rw [List.all_eq_true] at hall;have:=hall (f.type,f.offset) (by rw [← c];exact List.mem_map.2 ⟨f,hf,rfl⟩);exact this
 have n:(gs.mapM (fun f=>do pure (f.offset,← Go.sizeOf f.type):Field→Sem (Nat×Nat))).run P w=.ok (gs.toList.map fun f=>(f.offset,((ti tab f.type).map (·.size)).getD 0)).toArray w:=by
  rw [Array.mapM_eq_mapM_toList,map_eq_pure_bind,Kw (hpl gs.toList hgs)];rfl
 obtain ⟨vs,q,y⟩:=Kj0 (P:=P) (place:=fun f=>(gs.toList.map fun f=>(f.offset,((ti tab f.type).map (·.size)).getD 0)).toArray[f]?) hT kt (fs:=fs) (by
  intro f fl j hf hj;rw [← c,List.getElem?_map,Option.map_eq_some_iff] at hf;obtain ⟨x,A,B⟩:=hf;subst B;simp at hj;simp only [List.getElem?_toArray,List.getElem?_map,A,Option.map_some,hj,Option.getD_some]) ps.toList _ _ r hr e
 refine ⟨.agg vs.toArray,?_,Kip y⟩;unfold execOp;rw [ho];refine Kbb ?_;unfold Instr.build;rw [Kw h1];simp only [];rw [Kw g];simp only [];rw [Kw n];have E:(ps.map fun x=>(x.1,a.eval x.2)).toList=ps.toList.map fun p=>(p.1,a.eval p.2):=by simp
 rw [E];have F:z.cells=z.cells.toList.toArray:=by simp
 rw [F];simp only [q];rfl
theorem Kfi {T:TypeId}{ps:Array (Nat×Operand)}{b:TI}{fs:List (Nat×Nat)}{r:List D}(hT:TabOK P tab)(ho:o.op=.build T ps)(hti:ti tab T=some b)(hfs:b.d=.struct fs)(hall:fs.all (fun f=>(ti tab f.1).isSome)=true)(hz:b.zero.all one=true)(e:Kdx tab fs t ps.toList (b.zero.map dOf)=some r):∀ H a w,TOK H t a→∃ v,(execOp a.eval o).run P w=.ok (.value v) w∧Rep H (.agg r) v:=x_buildF Kgb hT ho hti hfs hall hz e
theorem KbC {i:Nat}{T:TypeId}{ps:Array (Nat×Operand)}{a:TI}{fs:List (Nat×Nat)}{r:List D}(hT:TabOK P tab)(ho:o.op=.build T ps)(hw:wantD ops t o=some true)(hd:o.dst=some i)(hi:Nat.blt i N=true)
 (hti:ti tab T=some a) (hfs:a.d=.struct fs) (hall:fs.all (fun f=>(ti tab f.1).isSome)=true) (hz:a.zero.all one=true) (e:Kdx tab fs t ps.toList (a.zero.map dOf)=some r)
 (g:opsD P C N ops rest ⟨(i,.agg r)::t,h,k⟩ Q):opsD P C N ops (o::rest) ⟨t,h,k⟩ Q:=Kdi (s:=⟨t,h,k⟩) hw hd hi (Kfi hT ho hti hfs hall hz e) g
end
def dvals:List D→Option (List Value)
 | []=>some []
 | .v x::l=>(dvals l).map (x::·)
 | _=>none
def dval:D→Option Value
 | .v x=>some x
 | .agg l=>(dvals l).map fun us=>.agg us.toArray
 | _=>none
theorem dvals_ok {H:Hp}:∀ {l:List D} {us vs:List Value},dvals l=some us→Reps H l vs→vs=us
 | [],us,vs,e,h=>by simp [dvals] at e;simp only [Reps] at h;rw [h,← e]
 |
  .v x::l,us,vs,e,h=>by
  simp only [dvals,Option.map_eq_some_iff] at e;obtain ⟨us',h1,h2⟩:=e;simp only [Reps] at h;obtain ⟨u,vs',rfl,⟨a,_⟩,b⟩:=h;simp only [RepC,List.cons.injEq,and_true] at a;rw [a,dvals_ok h1 b,h2]
 | .any::l,us,vs,e,h=>by simp [dvals] at e
 | .agg _::l,us,vs,e,h=>by simp [dvals] at e
 | .lst _ _ _::l,us,vs,e,h=>by simp [dvals] at e
 | .el _::l,us,vs,e,h=>by simp [dvals] at e
 | .ptr _ _::l,us,vs,e,h=>by simp [dvals] at e
 | .slf _::l,us,vs,e,h=>by simp [dvals] at e
 | .fn _ _ _::l,us,vs,e,h=>by simp [dvals] at e
 | .tup _::l,us,vs,e,h=>by simp [dvals] at e
theorem dval_ok {H:Hp}{d:D}{x y:Value}(e:dval d=some x)(h:Rep H d y):y=x:=by
 cases d with
 | v z=>simp [dval] at e;rw [← e];exact KW h
 |
  agg l=>
  simp only [dval,Option.map_eq_some_iff] at e;obtain ⟨us,h1,h2⟩:=e;obtain ⟨vs,rfl,a⟩:=KdR h;rw [dvals_ok h1 a,h2]
 | _=>simp [dval] at e
def dvalL:List D→Option (List Value)
 | []=>some []
 |
  d::l=>match dval d,dvalL l with
  | some x,some xs=>some (x::xs)
  | _,_=>none
theorem dvalL_ok {H:Hp}:∀ {l:List D} {us vs:List Value},dvalL l=some us→RepsV H l vs→vs=us
 | [],us,vs,e,h=>by simp [dvalL] at e;simp only [RepsV] at h;rw [h,← e]
 |
  d::l,us,vs,e,h=>by
  simp only [dvalL] at e;split at e
  ·rename_i x xs h1 h2;simp only [Option.some.injEq] at e;subst e;simp only [RepsV] at h;obtain ⟨u,vs',rfl,a,b⟩:=h;rw [dval_ok h1 a,dvalL_ok h2 b]
  cases e
theorem core_below {H:Hp}{w w':World}(hA:Ag H w)(hb:Below w.heap.size w w')(hd:w.drawn≤w'.drawn):Core ⟨H,w,[]⟩ H [] [] w':=
 ⟨⟨fun a v e=>by rw [hb.cell (p:=a) (hA.lt e)];exact hA a v e,hA.gg.step (Hp.le_refl H) (hb.block _ hA.gg.lt)⟩,Hp.le_refl H,fun _ _ x=>.inl x,fun b h _=>hb.block b h,hb.size,(by simp),(by simp),(by simp [KP,K0]),(by simp [KP,K0]),⟨hb.os,hb.tape,hb.output,Nat.le_refl _⟩⟩
theorem KeR {H:Hp}{w w':World}(hA:Ag H w)(hb:Below w.heap.size w w'):Core ⟨H,w,[]⟩ H [] [] w':=
 ⟨⟨fun a v e=>by rw [hb.cell (p:=a) (hA.lt e)];exact hA a v e,hA.gg.step (Hp.le_refl H) (hb.block _ hA.gg.lt)⟩,Hp.le_refl H,fun _ _ x=>.inl x,fun b h _=>hb.block b h,hb.size,(by simp),(by simp),(by simp [KP,K0]),(by simp [KP,K0]),⟨hb.os,hb.tape,hb.output,Nat.le_refl _⟩⟩
theorem of_calls {P:Program}{f:FuncId}{ds:List D}{us:Array Value}{d:D}{v:Value}(hg:Goes P f)(h1:dvalL ds=some us.toList)(h2:∀ H,Rep H d v)
  (c:∀ w,Calls P f us w fun e w'=>e=.returned v∧Below w.heap.size w w'∧w.drawn≤w'.drawn):CallsD P f ds [] [] (fun d' h k=>d'=d∧h=[]∧k=[]):=by
 refine ⟨hg,fun H w vs hv hA _ _ _=>?_⟩;have e:=dvalL_ok h1 hv;subst e;refine (c w).mono fun e w' ⟨he,hb,hd⟩=>⟨v,H,d,[],[],he,h2 H,core_below hA hb hd,rfl,rfl,rfl⟩
theorem to_calls {P:Program}{f:FuncId}{ds:List D}{us:Array Value}{x:Value}(c:CallsD P f ds [] [] (fun d' h k=>d'=.v x∧h=[]∧k=[])){H:Hp}{w:World}(hA:Ag H w)(h1:RepsV H ds us.toList) :
  Calls P f us w fun e w'=>e=.returned x∧Below w.heap.size w w':=by
 have:=c.2 H w us.toList h1 hA (by simp) (by simp) (by simp [KP,K0]);refine this.mono fun e w' ⟨v,H',d,h',k',he,hr,hc,h2,_,_⟩=>?_
 subst h2;have:=KW hr;subst this;exact ⟨he,⟨hc.env.1,hc.env.2.1,hc.env.2.2.1,hc.size,fun k hk=>hc.same k hk (by simp [KP,K0])⟩⟩
end
section
open Go
structure EqT (P:Program) (t:TypeId):Prop where
 guard:P.eqGuardType P.depth t=false
 stood:P.stoodInHeld t=false
 names : (P.fieldsOf t).toList.all (fun f => f.name != "_") = true
def eqV (d:TD)(x y:Value):Option Bool:=
 match d,x,y with
 | .int _,.int k a,.int k' b=>bif keq k k' then some (a==b) else none
 | .bool,.bool a,.bool b=>some (a==b)
 | .str,.string a,.string b=>some (decide (a=b))
 | _,_,_=>none
theorem eqV_ok {P:Program}{w:World}{t:TypeId}{i:TI}(hi:tiOf P t=some i){x y:Value}{b:Bool}(d:Nat)(e:eqV i.d x y=some b):(Op.equalIn (d+1) t x y).run P w=.ok b w:=by
 obtain ⟨dd,h1,h2⟩:=Kak (w:=w) hi;obtain ⟨ti,z,dd',j,f,g,_⟩:=KfD hi;unfold eqV at e;split at e
 ·rename_i k k1 a k2 c hd;cases hk:keq k1 k2 with
  | false=>rw [hk] at e;cases e
  |
   true=>
   have:=keq_eq hk;subst this;rw [hk] at e;simp only [cond_true,Option.some.injEq] at e;subst e;exact run_equalIn_int w d t k1 k a c (by rw [f,KgR (g.trans hd)])
 ·rename_i a c hd;simp only [Option.some.injEq] at e;subst e;exact run_equalIn_bool' w d t a c (by rw [f,KjX (g.trans hd)])
 ·rename_i a c hd;simp only [Option.some.injEq] at e;subst e;rw [← KkL];exact run_equalIn_string w d t a c (by rw [f,Kf8 (g.trans hd)])
 cases e
def eqL (tab:List (Option TI)):List (Nat×Nat)→List D→List D→Option Bool
 | [],_,_=>some true
 |
  f::fs,ds,es=>match ti tab f.1,ds[f.2]?,es[f.2]? with
  |
   some i,some (.v x),some (.v y)=>match eqV i.d x y,eqL tab fs ds es with
   | some b,some r=>some (b && r)
   | _,_=>none
  | _,_,_=>none
theorem eqV_flat {i:TI}{x y:Value}{b:Bool}(e:eqV i.d x y=some b):i.agg=false:=by
 unfold eqV at e;unfold TI.agg;split at e
 ·rename_i h;rw [h]
 ·rename_i h;rw [h]
 ·rename_i h;rw [h]
 cases e
theorem eqL_ok {P:Program}{w:World}{tab:List (Option TI)}(hT:TabOK P tab){H:Hp}{ds es:List D}{us vs:List Value}(h1:Reps H ds us)(h2:Reps H es vs)(d:Nat) :
  ∀ (gs : List Field) (fs : List (Nat × Nat)) (b : Bool), gs.map (fun f => (f.type, f.offset)) = fs → gs.all (fun f => f.name != "_") = true → eqL tab fs ds es = some b → (Op.eqFields (d + 1) us.toArray vs.toArray gs).run P w = .ok b w
 |
  [],fs,b,e,hn,h=>by
  simp at e;subst e;simp [eqL] at h;subst h;rfl
 |
  g::gs,fs,b,e,hn,h=>by
  simp only [List.map_cons] at e;subst e;simp only [List.all_cons,Bool.and_eq_true,bne_iff_ne] at hn;simp only [eqL] at h;split at h
  ·rename_i i x y hi hx hy;split at h
   ·rename_i a c hb hr;simp only [Option.some.injEq] at h;have ih:=eqL_ok (w:=w) hT h1 h2 d gs _ c rfl hn.2 hr;have hag:=eqV_flat hb;obtain ⟨v1,j,l⟩:=KiZ (P:=P) (w:=w) (ti_ok hT hi) h1 (d:=.v x) (off:=g.offset) (by simp [partD,hag,hx]);obtain ⟨v2,p2,m⟩:=KiZ (P:=P) (w:=w) (ti_ok hT hi) h2 (d:=.v y) (off:=g.offset) (by simp [partD,hag,hy]);obtain rfl:=KW l;obtain rfl:=KW m;unfold Op.eqFields;rw [if_pos hn.1,Kw j,Kw p2,Kw (eqV_ok (w:=w) (ti_ok hT hi) d hb)];cases a with
    | false=>simp at h;subst h;rfl
    | true=>simp at h;subst h;simpa using ih
   cases h
  cases h
section
variable {P : Program} {C : Ctx} {N : Nat} {ops rest : List Oper} {o : Oper} {t : List (Nat × D)} {h : List (Nat × Blk)} {k : List (Nat × Value)} {Q : Exit → S → Prop} {tab : List (Option TI)}
def isNeq:BinOp→Option Bool
 | .eql=>some false
 | .neq=>some true
 | _=>none
theorem x_eqS {op:BinOp}{neg:Bool}{xt yt:TypeId}{x y:Operand}{c:TI}{fs:List (Nat×Nat)}{ds es:List D}{b:Bool}(hT:TabOK P tab)(ho:o.op=.binOp op xt x y yt)
  (hop:isNeq op=some neg) (hE:EqT P xt) (hx:opD t x=some (.agg ds)) (hy:opD t y=some (.agg es)) (hti:ti tab xt=some c) (hfs:c.d=.struct fs) (e:eqL tab fs ds es=some b):∀ H a w,TOK H t a→∃ v,(execOp a.eval o).run P w=.ok (.value v) w∧Rep H (.v (.bool (bif neg then !b else b))) v:=
 fun H a w kt=>by
  refine ⟨.bool (bif neg then !b else b),?_,rep_v rfl⟩;obtain ⟨us,h1,h2⟩:=KdR (Kae kt hx);obtain ⟨vs,g,j⟩:=KdR (Kae kt hy);obtain ⟨ti',z,dd',n,f,l,_⟩:=KfD (ti_ok hT hti);obtain ⟨gs,rfl,m⟩:=KfN (l.trans hfs);have hf:P.fieldsOf xt=gs:=by unfold Program.fieldsOf;rw [f]
  have hq:(Op.equalIn 10000 xt (.agg us.toArray) (.agg vs.toArray)).run P w=.ok b w:=by
   show (Op.equalIn (9999+1) xt _ _).run P w=_
   rw [run_equalIn_struct w 9999 xt _ _ (by rw [f,hf]) hE.stood];have hn:=hE.names;rw [hf] at hn ⊢;exact eqL_ok hT h2 j 9998 gs.toList fs b m hn e
  unfold execOp;rw [ho];refine Kbb ?_;rw [h1,g];rw [Kw (run_eqGuard_agg w op xt x y _ _ hE.guard)];cases op<;>simp [isNeq] at hop<;>subst hop
  ·rw [run_eql_struct,hq];rfl
  rw [run_neq_struct,hq];rfl
theorem p_eqS {i:Nat}{op:BinOp}{neg:Bool}{xt yt:TypeId}{x y:Operand}{a:TI}{fs:List (Nat×Nat)}{ds es:List D}{b:Bool}(hT:TabOK P tab)(ho:o.op=.binOp op xt x y yt)(hw:wantD ops t o=some true)(hd:o.dst=some i)(hi:Nat.blt i N=true)
  (hop:isNeq op=some neg) (hE:EqT P xt) (hx:opD t x=some (.agg ds)) (hy:opD t y=some (.agg es)) (hti:ti tab xt=some a) (hfs:a.d=.struct fs) (e:eqL tab fs ds es=some b)
  (g:opsD P C N ops rest ⟨(i,.v (.bool (bif neg then !b else b)))::t,h,k⟩ Q):opsD P C N ops (o::rest) ⟨t,h,k⟩ Q:=
 Kdi (s:=⟨t,h,k⟩) hw hd hi (x_eqS hT ho hop hE hx hy hti hfs e) g
end
end
end Go.Proofs.YtbbeiinofainlaaGreatDoor.Ab
end
