/- The texts that storeEditsCard_holds leans on, part 1. -/
import Derived.Lib.ItoaNum
import Derived.Orders
import Derived.Still
import Derived.KernelRfl
import Derived.Tactics
import Derived.Scope
import Derived.WalkSmall
import Derived.Below
import Derived.Laws.Strings
import Derived.LoopN
import Derived.Laws.Sem
import Derived.Laws.StructEq
import Derived.Laws.BytesString
import Derived.Test.YticifeeokcgfkaaGreatDoorProg
import Derived.Test.YticifeeokcgfkaaGreatDoorWx0
import Derived.Lib.AppendStr
import Derived.Lib.Builder
import Derived.Sort.Grow
import Derived.ProofKit
import Derived.OpenShut
import Derived.Test.YticifeeokcgfkaaGreatDoorRows
import Derived.WalkKit
import Derived.Lib.SmallJoins
import Derived.MapKept
import Derived.WideKeyRuns
import Derived.Defers
import Derived.Recover
import Derived.JoinedCond
import Derived.Lib.LaidIn
import Derived.Lib.LaidTab
import Derived.Deep.DeepHandedRow
import Derived.Deep.DeepWitnessRowRef
import Derived.SevenTiedAt
import Derived.Test.YticifeeokcgfkaaGreatDoorTie
import Derived.Test.YticifeeokcgfkaaGreatDoorCards
set_option linter.all false
set_option maxRecDepth 100000
set_option maxHeartbeats 80000000
noncomputable section
open Array renaming getElem?_eq_some_iff→a5,getElem?_setIfInBounds_ne→f0,length_toList→b9,size_setIfInBounds→fA
open Bool renaming and_eq_true→aR,false_eq_true→cP,not_false→a3,true_and→eS
open ByteArray renaming empty→ε,mk→ν
open Go renaming Exit→dH,IntKind→fP,Oper→bG,Operand→aH,Program→aJ,ResultVar→dM,TypeId→aD,Value→ω,World→aL,execOp→bL,typeInfo→eR,zeroValue→ry
open Go.Act renaming eval→RH,put→io
open Go.Builtin renaming append_→dZ,firstCells→bW,lenOf→zi,len_→iO,nextslicecap→eU,zeroCells→d9
open Go.Extern.AbiNoEscape renaming same→RG
open Go.Instr renaming storeAt→iq
open Go.IntKind renaming i64→ζ,wrap_i64→b1
open Go.Obj.cells renaming injEq→mC
open Go.Op renaming equal→AA,equalIn→oQ
open Go.Oper renaming upon_value→fT,wp→ku
open Go.Region renaming binds→im,wanted→fo
open Go.Result renaming andThen→fE
open Go.Sem renaming bind→jA,run→gX
open Go.Value renaming cells→cT,int→g7
open Go.Value.slice renaming injEq→bP
open Go.World renaming cell?→aO,frozen?→jp
open List renaming all_eq_true→bY,append_assoc→aS,append_nil→aN,cons_append→bK,drop_of_length_le→rx,drop_zero→DL,eq_nil_of_length_eq_zero→fd,flatMap_cons→cA,flatMap_nil→gT,getD_eq_getElem?_getD→fx,getElem?_append_left→cI,getElem?_append_right→mM,getElem?_cons_succ→fY,getElem?_cons_zero→dB,getElem?_eq_none→jq,getElem?_eq_some_iff→aP,getElem?_map→f9,getElem?_toArray→cR,length→fc,length_append→υ,length_cons→Ψ,length_drop→eD,length_map→b6,length_nil→aB,length_take→kX,map_cons→a7,map_nil→fg,mem_append→dC,mem_append_left→cF,mem_cons→cX,mem_cons_self→fV,mem_of_getElem?→a4,mem_singleton→aT,nil_append→a8,nil_sublist→eC,nodup_append→zh,perm_append_comm→sR,range→ff,replicate→aV,takeWhile_cons→wE,take_of_length_le→cV
open List.Perm renaming append_left→fZ,append_right→mE,cons→χ,refl→aM
open List.Sublist renaming refl→bT
open List.cons renaming injEq→fW
open Nat renaming add_assoc→RK,add_mul→cC,add_zero→gY,beq→bM,ble→cK,blt→aZ,eq_of_beq_eq_true→aX,eq_zero_or_pos→lh,le_of_ble_eq_true→bS,le_refl→Φ,le_succ→CU,le_trans→eJ,lt_irrefl→RJ,lt_or_ge→fU,mul_le_mul_right→dF,ne_of_beq_eq_false→fw,zero_add→cH,zero_mul→mD
open Option renaming bind→κ,bind_some→δ,isSome_none→lG,map_eq_some_iff→fF,map_none→oE,map_some→dQ
open Option.some renaming injEq→aA
open Or renaming inl→fi,inr→fh
open Prod.mk renaming injEq→fb
open Sum renaming elim→Ω
open UInt8 renaming ofNat→il
namespace Go.Proofs.YticifeeokcgfkaaGreatDoor
abbrev η:=ByteArray
def θ.{u}:=@cond_false.{u}
def ξ.{u}:=@cond_true.{u}
def Δ:=@decide_eq_false
def Ξ:=@decide_eq_true
abbrev aC:=UInt8
def aF.{u}:=@if_neg.{u}
def aG.{u}:=@beq_self_eq_true.{u}
def aQ.{u}:=@if_pos.{u}
def aY:=@of_decide_eq_true
def a6.{u,v}:=@congrArg.{u,v}
def a9:=@of_decide_eq_false
def bE.{u}:=@if_false.{u}
def bH.{u}:=@absurd.{u}
def bJ:=@decide_eq_true_eq
def bR.{u}:=@if_true.{u}
def b3.{u}:=@bne_self_eq_false.{u}
def cW:=@decide_false
def eF:=@decide_true
def ft.{u}:=@dif_pos.{u}
def ia.{u}:=@dif_neg.{u}
def sS:=@not_false_eq_true
end Go.Proofs.YticifeeokcgfkaaGreatDoor
namespace Go.Proofs.YticifeeokcgfkaaGreatDoor.Ab
def oH : List (List Nat) → List (Nat × List Nat) → List (List Nat)
 | _, [] => []
 | a, x :: l => (a.getD (a.length-x.1) [] ++ x.2) :: oH ((a.getD (a.length-x.1) [] ++ x.2) :: a) l
end Go.Proofs.YticifeeokcgfkaaGreatDoor.Ab
namespace Go.Proofs.YticifeeokcgfkaaGreatDoor.Jx
open Go
def Gives (P:aJ)(o:bG)(a:Act)(w:aL)(K:ω→aL→Prop):Prop:=
 match (bL a.eval o).run P w with
 | .ok (.value v) w'=>K v w'
 | .ok .skip w'=>K undef w'
 | .ok (.enter f args) w'=>Calls P f args w' fun e w''=>∃ v,e=.returned v∧K v w''
 | _=>False
def Gives.mono {P:aJ}{o:bG}{a:Act}{w:aL}{K K':ω→aL→Prop}(hk:∀ v w',K v w'→K' v w')(h:Gives P o a w K):Gives P o a w K':=by
 unfold Gives at *;split at h;exact hk _ _ h;exact hk _ _ h;exact h.mono fun e w'' ⟨v,he,hv⟩=>⟨v,he,hk _ _ hv⟩;exact h.elim
def Gives.wp {P:aJ}{o:bG}{a:Act}{w:aL}{K:Act→aL→Prop}{Q:dH→Act→aL→Prop}(h:Gives P o a w fun v w'=>K (a.put o.dst v) w'):o.wp P a w K Q:=by
 unfold Gives at h;unfold ku;generalize (bL a.eval o).run P w=r at *;cases r with
 |
  ok n w'=>
  cases n<;>simp only [Oper.upon] at h ⊢;case value u=>exact h
  case skip=>exact h
  case enter f args=>exact h.mono fun e w'' ⟨v,he,hv⟩=>by subst he;exact hv
 | halt x w'=>simp only at h
def Gives.congr {P:aJ}{o:bG}{a a':Act}{w:aL}{K:ω→aL→Prop}(he:bL a'.eval o=bL a.eval o)(h:Gives P o a w K):Gives P o a' w K:=by
 unfold Gives at *;rw [he];exact h
def upd {α:Type}(f:Nat→α)(i:Nat)(v:α):Nat→α:=fun j=>if j=i then v else f j
def upd_same {α:Type}(f:Nat→α)(i:Nat)(v:α):upd f i v i=v:=by simp [upd]
def upd_ne {α:Type}(f:Nat→α){i j:Nat}(v:α)(h:j≠i):upd f i v j=f j:=by simp [upd,h]
section
variable (P:aJ)(ops:Array bG)(C:(Nat→Bool)→(Nat→ω)→aL→Prop)(pre:Nat→List Nat)(ev:Nat→Bool)
def OK (vals:Nat→ω)(i:Nat)(o:bG)(a:Act)(out:ω):Prop:=
 if fo o (yielded ops a.tmps)=true then
  if ev i=true then out=vals i∧∀ S w,C S vals w→S i=false→(∀ k∈pre i,S k=true)→Gives P o a w fun v w'=>C (upd S i true) (upd vals i v) w'
  else ∀ S w,C S vals w→(∀ k∈pre i,S k=true)→(bL a.eval o).run P w=.ok (.value out) w
 else out=undef∧(ev i=true→∀ S w,C S vals w→S i=false→C (upd S i true) (upd vals i undef) w)
def Lx (vals:Nat→ω)(fin:Act→Prop):Nat→List bG→Act→Prop
 | _,[],a=>fin a
 | i,o::rest,a=>∃ out,OK P ops C pre ev vals i o a out∧Lx vals fin (i+1) rest (a.put o.dst out)
end
def fr (ops:Array bG)(a0:Act)(out:Nat→ω):Nat→Act
 | 0=>a0
 |
  k+1=>match ops[k]? with
  | some o=>(fr ops a0 out k).put o.dst (out k)
  | none=>fr ops a0 out k
def preB (ops:Array bG)(pre:Nat→List Nat):Bool:=
 (ff ops.size).all fun i=>match ops[i]? with
  | none=>true
  | some oi=>(pre i).all fun k=>oi.after.any fun e=>im .any e && (e.on==k || (pre e.on).contains k)
section
variable {P:aJ}{ops:Array bG}{Q:dH→Act→aL→Prop}{C:(Nat→Bool)→(Nat→ω)→aL→Prop}{pre:Nat→List Nat}{ev:Nat→Bool}{a0:Act}
end
end Go.Proofs.YticifeeokcgfkaaGreatDoor.Jx
namespace Go.Proofs.YticifeeokcgfkaaGreatDoor.Ab
section
open Go
abbrev Hp:=Addr→Option ω
def Hp.le (H H':Hp):Prop:=∀ a v,H a=some v→H' a=some v
def Hp.le_refl (H:Hp):H.le H:=fun _ _ h=>h
def Hp.le_trans {H H' H'':Hp}(h:H.le H')(k:H'.le H''):H.le H'':=fun a v x=>k a v (h a v x)
def tabG:Nat:=0
def tabC:List ω:=Lib.pow10Tab.map fun z=>g7 .u64 z
def GG (H:Hp)(w:aL):Prop:=(∃ v,H ⟨tabG,0,none⟩=some v)∧(∃ v,H ⟨tabG,19,none⟩=some v)∧∃ T fz,w.heap[tabG]? = some (.cells tabC.toArray T fz)
def GG.step {H H':Hp}{w w':aL}(g:GG H w)(hl:H.le H')(hs:w'.heap[tabG]? = w.heap[tabG]?):GG H' w':=by
 obtain ⟨⟨v,h1⟩,⟨v',h2⟩,T,fz,a⟩:=g;exact ⟨⟨v,hl _ _ h1⟩,⟨v',hl _ _ h2⟩,T,fz,by rw [hs];exact a⟩
def GG.own {H:Hp}{w w':aL}{b:Nat}(g:GG H w)(h:∀ o,H ⟨b,o,none⟩=none)(hs:∀ i,i≠b→w'.heap[i]? = w.heap[i]?):GG H w':=by
 refine g.step (Hp.le_refl H) (hs _ fun q=>?_);obtain ⟨⟨v,h1⟩,_⟩:=g;rw [q,h] at h1;cases h1
def GG.lt {H:Hp}{w:aL}(g:GG H w):tabG<w.heap.size:=by
 obtain ⟨_,_,T,fz,a⟩:=g;rcases fU tabG w.heap.size with hl|hl;exact hl;rw [Array.getElem?_eq_none hl] at a;cases a
structure Ag (H:Hp) (w:aL):Prop where
 cells:∀ a v,H a=some v→w.cell? a=some v
 gg:GG H w
instance {H : Hp} {w : aL} : CoeFun (Ag H w) fun _ => ∀ a v, H a = some v → w.cell? a = some v := ⟨Ag.cells⟩
def Told (H:Hp)(b off:Nat)(us:List ω):Prop:=∀ j u,us[j]? = some u→H ⟨b,off+j,none⟩=some u
def cell_lt {w:aL}{a:Addr}{v:ω}(h:w.cell? a=some v):a.block<w.heap.size:=by
 unfold aO at h;rcases fU a.block w.heap.size with hl|hl;exact hl;rw [Array.getElem?_eq_none hl] at h;cases h
def Ag.lt {H:Hp}{w:aL}(h:Ag H w){a:Addr}{v:ω}(ha:H a=some v):a.block<w.heap.size:=cell_lt (h a v ha)
inductive Cap where
 | no|full|cur (y:ω)
inductive D where
 | any
 | v (x:ω)
 | agg (l:List D)
 | lst (k:Nat) (xs:List D) (c:Cap)
 | el (d:D)
 | ptr (b o:Nat)
 | slf (b:Nat)
 | fn (f:Fn) (first captured:List D)
 | tup (l:List D)
def eA (c:Cap)(y:ω):Prop:=
 match c with
 | .no=>True
 | .full=>match y with|.slice _ n m=>m=n|_=>False
 | .cur z=>y=z
def D.shape (d:D)(y:ω):Bool:=
 match d,y with
 | .any,_=>true
 | .agg _,.agg _=>true
 | .agg _,_=>false
 | _,.agg _=>false
 | _,_=>true
def one:ω→Bool
 | .agg _=>false
 | .tuple _=>false
 | _=>true
def D.flat:D→Bool
 | .agg _=>false
 | _=>true
mutual
def RepC (H:Hp):D→List ω→Prop
 | .any,_=>True
 | .v x,us=>us=[x]
 | .agg l,us=>Reps H l us
 | .lst k xs c,us=>∃ y,us=[y]∧eA c y∧((xs=[]∧∃ a m,y=.slice a 0 m∧(a=none→m=0))∨∃ b off m,y=.slice (some ⟨b,off,none⟩) xs.length m∧xs.length≤m∧Els H k b off xs)
 | .el d,us=>∃ b off vs,us=[.pointer (some ⟨b,off,none⟩)]∧RepC H d vs∧Told H b off vs∧∀ u∈vs,one u=true
 | .ptr b o,us=>us=[.pointer (some ⟨b,o,none⟩)]
 | .slf b,us=>us=[.pointer none]∨us=[.pointer (some ⟨b,0,none⟩)]
 | .fn f as_ cs,us=>∃ vs ws,us=[.func f vs.toArray ws.toArray]∧RepsV H as_ vs∧RepsV H cs ws
 | .tup l,us=>∃ vs,us=[.tuple vs.toArray]∧RepsV H l vs
def Reps (H:Hp):List D→List ω→Prop
 | [],us=>us=[]
 | d::l,us=>∃ u us',us=u::us'∧(RepC H d [u]∧one u=true∧d.flat=true)∧Reps H l us'
def Els (H:Hp) (k b:Nat) (off:Nat):List D→Prop
 | []=>True
 | x::xs=>(∃ us,us.length=k∧RepC H x us∧Told H b off us∧∀ u∈us,one u=true)∧Els H k b (off+k) xs
def RepsV (H:Hp):List D→List ω→Prop
 | [],vs=>vs=[]
 | d::l,vs=>∃ u us',vs=u::us'∧(RepC H d u.cells.toList∧d.shape u=true)∧RepsV H l us'
end
def Rep (H:Hp)(d:D)(y:ω):Prop:=RepC H d y.cells.toList∧d.shape y=true
def Told.mono {H H':Hp}(h:H.le H'){b off:Nat}{us:List ω}(k:Told H b off us):Told H' b off us:=fun j u hj=>h _ _ (k j u hj)
mutual
def RepC.mono {H H':Hp}(h:H.le H'):∀ (d:D) (us:List ω),RepC H d us→RepC H' d us
 | .any,_,_=>by simp only [RepC]
 | .v x,us,k=>by simp only [RepC] at k ⊢;exact k
 | .agg l,us,k=>by simp only [RepC] at k ⊢;exact Reps.mono h l us k
 |
  .lst kk xs c,us,k=>by
  simp only [RepC] at k ⊢;obtain ⟨y,e,hc,hk⟩:=k;refine ⟨y,e,hc,?_⟩;rcases hk with hk|⟨b,off,m,j,n,p⟩
  ·exact .inl hk
  exact .inr ⟨b,off,m,j,n,Els.mono h kk b off xs p⟩
 |
  .el d,us,k=>by
  simp only [RepC] at k ⊢;obtain ⟨b,off,vs,e,h1,h2,a⟩:=k;exact ⟨b,off,vs,e,RepC.mono h d vs h1,h2.mono h,a⟩
 | .ptr b o,us,k=>by simp only [RepC] at k ⊢;exact k
 | .slf b,us,k=>by simp only [RepC] at k ⊢;exact k
 |
  .fn f as_ cs,us,k=>by
  simp only [RepC] at k ⊢;obtain ⟨vs,ws,e,h1,h2⟩:=k;exact ⟨vs,ws,e,RepsV.mono h as_ vs h1,RepsV.mono h cs ws h2⟩
 |
  .tup l,us,k=>by
  simp only [RepC] at k ⊢;obtain ⟨vs,e,h1⟩:=k;exact ⟨vs,e,RepsV.mono h l vs h1⟩
def Reps.mono {H H':Hp} (h:H.le H'):∀ (l:List D) (us:List ω),Reps H l us→Reps H' l us
 | [],us,k=>by simp only [Reps] at k ⊢;exact k
 |
  d::l,us,k=>by
  simp only [Reps] at k ⊢;obtain ⟨u,us',e,⟨h1,g⟩,h2⟩:=k;exact ⟨u,us',e,⟨RepC.mono h d _ h1,g⟩,Reps.mono h l _ h2⟩
def Els.mono {H H':Hp} (h:H.le H') (k b off:Nat):∀ (l:List D),Els H k b off l→Els H' k b off l
 | [],_=>by simp only [Els]
 |
  x::xs,q=>by
  simp only [Els] at q ⊢;obtain ⟨⟨us,e,h1,h2,g⟩,a⟩:=q;exact ⟨⟨us,e,RepC.mono h x us h1,h2.mono h,g⟩,Els.mono h k b (off+k) xs a⟩
def RepsV.mono {H H':Hp} (h:H.le H'):∀ (l:List D) (us:List ω),RepsV H l us→RepsV H' l us
 | [],us,k=>by simp only [RepsV] at k ⊢;exact k
 |
  d::l,us,k=>by
  simp only [RepsV] at k ⊢;obtain ⟨u,us',e,h1,h2⟩:=k;exact ⟨u,us',e,⟨RepC.mono h d _ h1.1,h1.2⟩,RepsV.mono h l _ h2⟩
end
def Rep.mono {H H':Hp}(h:H.le H'){d:D}{y:ω}(k:Rep H d y):Rep H' d y:=⟨RepC.mono h d _ k.1,k.2⟩
structure Opq where
 cl:List Nat
 Q:Hp→aL→Prop
 lt:∀ H w,Q H w→∀ b∈cl,b<w.heap.size
 later:∀ H H' w w',Q H w→H.le H'→(∀ b∈cl,w'.heap[b]? = w.heap[b]?)→(∀ b∈cl,(∀ o,H ⟨b,o,none⟩=none)→∀ o,H' ⟨b,o,none⟩=none)→Q H' w'
inductive Blk where
 | cells (ds:List D) (T:aD)
 | row (k:Nat) (xs:List D) (y:ω)
 | told (k:Nat) (xs:List D) (y:ω)
 | mp (es:List (ω×D))
 | opq (o:Opq)
def MapR (H:Hp):List (ω×D)→List MapEntry→Prop
 | [],me=>me=[]
 | x::es,me=>∃ e me',me=e::me'∧e.key=x.1∧Rep H x.2 e.val∧MapR H es me'
def MapR.mono {H H':Hp}(h:H.le H'):∀ {es:List (ω×D)} {me:List MapEntry},MapR H es me→MapR H' es me
 | [],me,q=>q
 |
  x::es,me,q=>by
  obtain ⟨e,me',a,b,c,d⟩:=q;exact ⟨e,me',a,b,c.mono h,d.mono h⟩
def FlatR (H:Hp)(k:Nat):List D→List ω→Prop
 | [],us=>us=[]
 | x::xs,us=>∃ a b,us=a++b∧a.length=k∧(RepC H x a∧∀ u∈a,one u=true)∧FlatR H k xs b
def FlatR.mono {H H':Hp}(h:H.le H'){k:Nat}:∀ {xs:List D} {us:List ω},FlatR H k xs us→FlatR H' k xs us
 | [],us,q=>q
 |
  x::xs,us,q=>by
  obtain ⟨a,b,e,hl,⟨h1,h2⟩,c⟩:=q;exact ⟨a,b,e,hl,⟨RepC.mono h x a h1,h2⟩,c.mono h⟩
def ii:ω→List Nat
 | .slice (some a) _ m=>if 0<m then [a.block] else []
 | _=>[]
def BlkOK (H:Hp)(w:aL):Nat×Blk→Prop
 | (b,.cells ds T)=>∃ us:List ω,w.heap[b]? = some (.cells us.toArray T (0,0))∧Reps H ds us∧(∀ o,H ⟨b,o,none⟩=none)
 | (_,.row k xs y)=>(∃ a,y=.slice a 0 0∧xs=[])∨∃ (b m:Nat) (us rest:List ω) (T:aD),y=.slice (some ⟨b,0,none⟩) xs.length m∧xs.length≤m∧0<m∧w.heap[b]? = some (.cells (us++rest).toArray T (0,0))∧FlatR H k xs us∧m*k≤(us++rest).length∧∀ o,H ⟨b,o,none⟩=none
 | (_,.told k xs y)=>RepC H (.lst k xs (.cur y)) [y]
 | (b,.mp es)=>∃ me ck,w.heap[b]? = some (.map me ck)∧MapR H es me.toList∧(∀ o,H ⟨b,o,none⟩=none)
 | (_,.opq o)=>o.Q H w
def eQ:Nat×Blk→List Nat
 | (b,.cells _ _)=>[b]
 | (_,.row _ _ y)=>ii y
 | (_,.told _ _ _)=>[]
 | (b,.mp _)=>[b]
 | (_,.opq o)=>o.cl
def TokOK (H:Hp)(w:aL):Nat×ω→Prop
 |
  (k,y)=>∀ a n m,y=.slice (some a) n m→n<m →
  ∃ cs T,w.heap[a.block]? = some (.cells cs T (0,0))∧a.spot=none∧a.off+m*k≤cs.size∧∀ o,a.off+n*k≤o→H ⟨a.block,o,none⟩=none
def my:Nat×ω→List Nat
 | (_,.slice (some a) n m)=>if n<m then [a.block] else []
 | _=>[]
def K4 (h:List (Nat×Blk))(k:List (Nat×ω)):List Nat:=h.flatMap eQ++k.flatMap my
structure Ctx where
 H:Hp
 w:aL
 M:List Nat
abbrev Lo (_:aL):Nat:=0
def Env (a b:aL):Prop:=b.os=a.os∧b.tape=a.tape∧b.output=a.output∧Lo a≤Lo b
def Env.refl (w:aL):Env w w:=⟨rfl,rfl,rfl,Φ _⟩
def Env.trans {a b c:aL}(h:Env a b)(k:Env b c):Env a c:=⟨k.1.trans h.1,k.2.1.trans h.2.1,k.2.2.1.trans h.2.2.1,eJ h.2.2.2 k.2.2.2⟩
structure Core (C:Ctx) (H:Hp) (h:List (Nat×Blk)) (k:List (Nat×ω)) (w:aL):Prop where
 ag:Ag H w
 le:C.H.le H
 new:∀ a v,H a=some v→C.H a=some v∨C.w.heap.size≤a.block∨a.block∈C.M
 same:∀ b,b<C.w.heap.size→b ∉ C.M→w.heap[b]? = C.w.heap[b]?
 size:C.w.heap.size≤w.heap.size
 blks:∀ p∈h,BlkOK H w p
 toks:∀ p∈k,TokOK H w p
 nd:(K4 h k).Nodup
 own:∀ b∈K4 h k,b∈C.M∨C.w.heap.size≤b
 env:Env C.w w
def I7 {H:Hp}{h:List (Nat×Blk)}{k:List (Nat×ω)}{w:aL}(hb:∀ p∈h,BlkOK H w p)(ht:∀ p∈k,TokOK H w p):∀ b∈K4 h k,b<w.heap.size:=by
 intro b hc;simp only [K4,dC,List.mem_flatMap] at hc;rcases hc with ⟨⟨b',bl⟩,hp,hq⟩|⟨⟨kk,y⟩,hp,hy⟩
 ·cases bl with
  |
   cells ds T=>
   simp only [eQ,aT] at hq;subst hq;obtain ⟨us,h1,_⟩:=hb _ hp;exact (a5.1 h1).1
  |
   row kk xs y=>
   rcases hb _ hp with ⟨a,e,_⟩|⟨f,m,us,rest,T,e,_,c,h1,_⟩
   ·subst e;cases a<;>simp [eQ,ii] at hq
   subst e;simp only [eQ,ii,aQ c,aT] at hq;subst hq;exact (a5.1 h1).1
  | told kk xs y=>simp [eQ] at hq
  |
   mp es=>
   simp only [eQ,aT] at hq;subst hq;obtain ⟨me,ck,h1,_⟩:=hb _ hp;exact (a5.1 h1).1
  | opq o=>exact o.lt _ _ (hb _ hp) _ hq
 have:=ht _ hp;unfold my at hy;split at hy;rename_i g a n m e;split at hy;rename_i hlt;simp only [fb] at e;obtain ⟨j,d⟩:=e;subst d;obtain ⟨cs,T,h1,_⟩:=this a n m rfl hlt;simp only [aT] at hy;subst hy;exact (a5.1 h1).1;cases hy;cases hy
def Core.lt {C:Ctx}{H:Hp}{h:List (Nat×Blk)}{k:List (Nat×ω)}{w:aL}(c:Core C H h k w):∀ b∈K4 h k,b<w.heap.size:=I7 c.blks c.toks
def GP {H H':Hp}{w w':aL}{M:List Nat}{h':List (Nat×Blk)}{k':List (Nat×ω)}(c:Core ⟨H,w,M⟩ H' h' k' w'){b:Nat}(hlt:b<w.heap.size)(a:b ∉ M)(d:∀ o,H ⟨b,o,none⟩=none)(o:Nat):H' ⟨b,o,none⟩=none:=by
 cases e:H' ⟨b,o,none⟩ with
 | none=>rfl
 |
  some v=>
  rcases c.new _ v e with x|x|x
  ·have x':H ⟨b,o,none⟩=some v:=x;rw [d] at x';cases x'
  ·exact bH x (by show ¬ w.heap.size≤b;omega)
  exact bH x a
def BlkOK.later {H H':Hp}{w w':aL}{M:List Nat}{h':List (Nat×Blk)}{k':List (Nat×ω)}(c:Core ⟨H,w,M⟩ H' h' k' w'){p:Nat×Blk}(h:BlkOK H w p)(a:∀ b∈eQ p,b ∉ M):BlkOK H' w' p:=by
 obtain ⟨b,bl⟩:=p;cases bl with
 |
  cells ds T=>
  obtain ⟨us,h1,h2,d⟩:=h;have hlt:=(a5.1 h1).1;have hm':=a b (by simp [eQ]);exact ⟨us,by rw [c.same b hlt hm'];exact h1,Reps.mono c.le _ _ h2,GP c hlt hm' d⟩
 |
  row kk xs y=>
  rcases h with h|⟨f,m,us,rest,T,e,g,hmp,h1,h2,d,j⟩
  ·exact .inl h
  have hlt:=(a5.1 h1).1;have hm':=a f (by subst e;simp [eQ,ii,hmp]);exact .inr ⟨f,m,us,rest,T,e,g,hmp,by rw [c.same f hlt hm'];exact h1,h2.mono c.le,d,GP c hlt hm' j⟩
 | told kk xs y=>exact RepC.mono c.le _ _ h
 |
  mp es=>
  obtain ⟨me,ck,h1,h2,d⟩:=h;have hlt:=(a5.1 h1).1;have hm':=a b (by simp [eQ]);exact ⟨me,ck,by rw [c.same b hlt hm'];exact h1,h2.mono c.le,GP c hlt hm' d⟩
 | opq o=>exact o.later H H' w w' h c.le (fun b hb=>c.same b (o.lt _ _ h b hb) (a b hb)) (fun b hb hn=>GP c (o.lt _ _ h b hb) (a b hb) hn)
def TokOK.later {H H':Hp}{w w':aL}{M:List Nat}{h':List (Nat×Blk)}{k':List (Nat×ω)}(c:Core ⟨H,w,M⟩ H' h' k' w'){p:Nat×ω}(h:TokOK H w p)(d:∀ b∈my p,b ∉ M):TokOK H' w' p:=by
 obtain ⟨kk,y⟩:=p;intro a n m e hlt;subst e;obtain ⟨cs,T,h1,h2,f,g⟩:=h a n m rfl hlt;have hl:=(a5.1 h1).1;have hm':=d a.block (by simp [my,hlt]);refine ⟨cs,T,by rw [c.same _ hl hm'];exact h1,h2,f,fun o ho=>?_⟩;cases e:H' ⟨a.block,o,none⟩ with
 | none=>rfl
 |
  some v=>
  rcases c.new _ v e with x|x|x
  ·have x':H ⟨a.block,o,none⟩=some v:=x;rw [g o ho] at x';cases x'
  ·exact bH x (by show ¬ w.heap.size≤a.block;omega)
  exact bH x hm'
def y0 (h1 h2:List (Nat×Blk))(k1 k2:List (Nat×ω)):(K4 (h1++h2) (k1++k2)).Perm (K4 h1 k1++K4 h2 k2):=by
 unfold K4;rw [List.flatMap_append,List.flatMap_append];generalize List.flatMap eQ h1=a;generalize List.flatMap eQ h2=b;generalize List.flatMap my k1=c;generalize List.flatMap my k2=d;have:(a++b++(c++d)).Perm (a++c++(b++d)):=by rw [aS,aS];refine fZ a ?_;rw [← aS,← aS];exact mE d sR
 exact this
def Core.call {C:Ctx}{H H':Hp}{h1 h2 h1':List (Nat×Blk)}{k1 k2 k1':List (Nat×ω)}{w w':aL}(c:Core C H (h1++h2) (k1++k2) w)(c':Core ⟨H,w,K4 h1 k1⟩ H' h1' k1' w') :
  Core C H' (h1'++h2) (k1'++k2) w':=by
 have hp:=y0 h1 h2 k1 k2;have hp':=y0 h1' h2 k1' k2;have nd:=hp.nodup_iff.1 c.nd;rw [zh] at nd;obtain ⟨n,m,f⟩:=nd;have hlt:=c.lt;have j:∀ p∈h2,BlkOK H w p:=fun p hp=>c.blks p (List.mem_append_right _ hp);have l:∀ p∈k2,TokOK H w p:=fun p hp=>c.toks p (List.mem_append_right _ hp);refine ⟨c'.ag,Hp.le_trans c.le c'.le,?_,?_,eJ c.size c'.size,?_,?_,?_,?_,c.env.trans c'.env⟩;intro a v hv;rcases c'.new a v hv with x|x|x;exact c.new a v x;exact .inr (.inl (eJ c.size x));rcases c.own a.block (hp.mem_iff.2 (cF _ x)) with y|y;exact .inr (.inr y);exact .inr (.inl y);intro b hb d;rw [c'.same b (Nat.lt_of_lt_of_le hb c.size) ?_,c.same b hb d];intro x;rcases c.own b (hp.mem_iff.2 (cF _ x)) with y|y;exact d y;omega;intro p g;rcases dC.1 g with x|x;exact c'.blks p x;refine (j p x).later c' fun b hb d=>?_;exact f _ d _ (by simp only [K4,dC,List.mem_flatMap];exact .inl ⟨p,x,hb⟩) rfl;intro p g;rcases dC.1 g with x|x;exact c'.toks p x;refine (l p x).later c' fun b hb d=>?_;exact f _ d _ (by simp only [K4,dC,List.mem_flatMap];exact .inr ⟨p,x,hb⟩) rfl;rw [hp'.nodup_iff,zh];refine ⟨c'.nd,m,fun a ha b hb e=>?_⟩;subst e;rcases c'.own a ha with x|x;exact f a x a hb rfl;have:=I7 j l a hb;exact bH x (by show ¬ w.heap.size≤a;omega);intro b hb;rcases dC.1 (hp'.mem_iff.1 hb) with x|x;rcases c'.own b x with y|y;exact c.own b (hp.mem_iff.2 (cF _ y));exact .inr (eJ c.size y);exact c.own b (hp.mem_iff.2 (List.mem_append_right _ x))
def Mp {h h':List (Nat×Blk)}{k k':List (Nat×ω)}(hh:h.Perm h')(hk:k.Perm k'):(K4 h k).Perm (K4 h' k'):=
 List.Perm.append (hh.flatMap_right _) (hk.flatMap_right _)
def Core.perm {C:Ctx}{H:Hp}{h h':List (Nat×Blk)}{k k':List (Nat×ω)}{w:aL}(c:Core C H h k w)(hh:h.Perm h')(hk:k.Perm k'):Core C H h' k' w:=
 ⟨c.ag,c.le,c.new,c.same,c.size,fun p hp=>c.blks p (hh.mem_iff.2 hp),fun p hp=>c.toks p (hk.mem_iff.2 hp),(Mp hh hk).nodup_iff.1 c.nd,fun b hb=>c.own b ((Mp hh hk).mem_iff.2 hb),c.env⟩
def Mo {α β:Type}{f:α→List β}{k k':List α}(hk:k'.Sublist k):(k'.flatMap f).Sublist (k.flatMap f):=by
 induction hk with
 | slnil=>exact bT _
 | cons a _ ih=>simp only [cA];exact ih.trans (List.sublist_append_right _ _)
 | cons_cons a _ ih=>simp only [cA];exact List.Sublist.append (bT _) ih
def Mq {h h':List (Nat×Blk)}{k k':List (Nat×ω)}(hh:h'.Sublist h)(hk:k'.Sublist k):(K4 h' k').Sublist (K4 h k):=
 List.Sublist.append (Mo hh) (Mo hk)
def Jr {h:List (Nat×Blk)}{k:List (Nat×ω)}{j:Nat}{x y:Nat×Blk}(hj:h[j]? = some x)(e:eQ y=eQ x):K4 (h.set j y) k=K4 h k:=by
 unfold K4;congr 1;induction h generalizing j with
 | nil=>simp at hj
 |
  cons a h ih=>
  cases j with
  | zero=>simp at hj;subst hj;simp only [List.set_cons_zero,cA,e]
  | succ j=>simp at hj;simp only [List.set_cons_succ,cA,ih hj]
def Core.drop {C:Ctx}{H:Hp}{h h':List (Nat×Blk)}{k k':List (Nat×ω)}{w:aL}(c:Core C H h k w)(hh:h'.Sublist h)(hk:k'.Sublist k):Core C H h' k' w:=
 ⟨c.ag,c.le,c.new,c.same,c.size,fun p hp=>c.blks p (hh.subset hp),fun p hp=>c.toks p (hk.subset hp),(Mq hh hk).nodup c.nd,fun b hb=>c.own b ((Mq hh hk).subset hb),c.env⟩
end
section
open Go
def Ar {u:ω}(h:one u=true):u.cells.toList=[u]:=by cases u<;>simp_all [one,cT]
def j6 {H:Hp}{d:D}{u:ω}(h:RepC H d [u])(h1:one u=true)(h2:d.flat=true):Rep H d u:=by
 refine ⟨by rw [Ar h1];exact h,?_⟩;cases d<;>cases u<;>simp_all [D.shape,D.flat,one]
def E5 {H:Hp}{l:List D}{us:List ω}(h:Reps H l us):Rep H (.agg l) (.agg us.toArray):=⟨by simp only [cT,RepC];exact h,rfl⟩
def Ak {H:Hp}{l:List D}{y:ω}(h:Rep H (.agg l) y):∃ us,y=.agg us.toArray∧Reps H l us:=by
 obtain ⟨h1,h2⟩:=h;cases y<;>simp [D.shape] at h2;rename_i cs;exact ⟨cs.toList,by simp,by simpa [RepC,cT] using h1⟩
def eW {H:Hp}{x y:ω}(h:Rep H (.v x) y):y=x:=by
 obtain ⟨h1,h2⟩:=h;cases y<;>simp [D.shape] at h2<;>simp [RepC,cT] at h1<;>simp [h1]
def dA {H:Hp}{x:ω}(h:one x=true):Rep H (.v x) x:=j6 (by simp [RepC]) h rfl
def wh {H:Hp}:∀ {l:List D} {us:List ω},Reps H l us→us.length=l.length
 | [],us,h=>by simp only [Reps] at h;subst h;rfl
 |
  d::l,us,h=>by
  simp only [Reps] at h;obtain ⟨u,us',rfl,_,h2⟩:=h;simp [wh h2]
def E7 {H:Hp}:∀ {l:List D} {us:List ω},Reps H l us→∀ {i:Nat} {d:D},l[i]? = some d→∃ u,us[i]? = some u∧RepC H d [u]∧one u=true∧d.flat=true
 | [],us,h,i,d,e=>by simp at e
 |
  d0::l,us,h,i,d,e=>by
  simp only [Reps] at h;obtain ⟨u,us',rfl,h1,h2⟩:=h;cases i with
  | zero=>simp at e;subst e;exact ⟨u,by simp,h1⟩
  | succ i=>simp at e;simpa using E7 h2 e
def Db {H:Hp}:∀ (n:Nat) {l:List D} {us:List ω},Reps H l us→Reps H (l.drop n) (us.drop n)
 | 0,_,_,h=>by simpa using h
 | n+1,[],us,h=>by simp only [Reps] at h;subst h;simp [Reps]
 |
  n+1,d::l,us,h=>by
  simp only [Reps] at h;obtain ⟨u,us',rfl,_,h2⟩:=h;simpa using Db n h2
def Da {H:Hp}:∀ (n:Nat) {l:List D} {us:List ω},Reps H l us→Reps H (l.take n) (us.take n)
 | 0,_,_,h=>by simp [Reps]
 | n+1,[],us,h=>by simp only [Reps] at h;subst h;simp [Reps]
 |
  n+1,d::l,us,h=>by
  simp only [Reps] at h;obtain ⟨u,us',rfl,h1,h2⟩:=h;simp only [List.take_succ_cons,Reps];exact ⟨u,_,rfl,h1,Da n h2⟩
def Fx {H:Hp}:∀ {l m:List D} {us vs:List ω},Reps H l us→Reps H m vs→Reps H (l++m) (us++vs)
 | [],m,us,vs,h,k=>by simp only [Reps] at h;subst h;simpa using k
 |
  d::l,m,us,vs,h,k=>by
  simp only [Reps] at h;obtain ⟨u,us',rfl,h1,h2⟩:=h;simp only [bK,Reps];exact ⟨u,_,rfl,h1,Fx h2 k⟩
def BV {H:Hp}:∀ {l:List D} {us:List ω},Reps H l us→∀ u∈us,one u=true
 | [],us,h,u,hu=>by simp only [Reps] at h;subst h;cases hu
 |
  d::l,us,h,u,hu=>by
  simp only [Reps] at h;obtain ⟨u',us',rfl,h1,h2⟩:=h;rcases cX.1 hu with rfl|a
  ·exact h1.2.1
  exact BV h2 u a
def L1 {H:Hp}:∀ (l:List ω),(∀ u∈l,one u=true)→Reps H (l.map .v) l
 | [],_=>by simp [Reps]
 |
  u::l,h=>by
  simp only [a7,Reps];exact ⟨u,l,rfl,⟨by simp [RepC],h u (by simp),rfl⟩,L1 l fun x hx=>h x (by simp [hx])⟩
inductive TD where
 | bool|str|other
 | int (k:fP)
 | slice (e:Nat)
 | ptr (e:Nat)
 | array (n e:Nat)
 | map (k e:Nat)
 | struct (fs:List (Nat×Nat))
def iu:TypeDesc→TD
 | .bool=>.bool
 | .string=>.str
 | .int k=>.int k
 | .slice e=>.slice e
 | .pointer e=>.ptr e
 | .array n e=>.array n e
 | .map k e=>.map k e
 | .struct fs=>.struct (fs.toList.map fun f=>(f.type,f.offset))
 | _=>.other
structure TI where
 d:TD
 size:Nat
 bytes:Nat
 zero:List ω
def iH (P:aJ)(t:aD):Option TI:=
 match P.info? t,P.underlying t with
 |
  some i,some d=>match i.zero with
  | some z=>some ⟨iu d,i.size,i.bytes,z.cells.toList⟩
  | none=>none
 | _,_=>none
def bO (P:aJ)(tab:List (Option TI)):Prop:=∀ t i,tab[t]? = some (some i)→iH P t=some i
def jO (P:aJ):Nat→List (Option TI)→List (Option TI)
 | _,[]=>[]
 | t,none::l=>none::jO P (t+1) l
 | t,some _::l=>iH P t::jO P (t+1) l
def I6 {P:aJ}:∀ (l:List (Option TI)) (j t:Nat) (i:TI),(jO P j l)[t]? = some (some i)→iH P (j+t)=some i
 | [],j,t,i,h=>by simp [jO] at h
 | none::l,j,0,i,h=>by simp [jO] at h
 |
  none::l,j,t+1,i,h=>by
  simp only [jO,fY] at h;have:=I6 l (j+1) t i h;rwa [show j+(t+1)=j+1+t by omega]
 | some _::l,j,0,i,h=>by simpa [jO] using h
 |
  some _::l,j,t+1,i,h=>by
  simp only [jO,fY] at h;have:=I6 l (j+1) t i h;rwa [show j+(t+1)=j+1+t by omega]
def AQ {P:aJ}{tab:List (Option TI)}(h:jO P 0 tab=tab):bO P tab:=by
 intro t i e;rw [← h] at e;have:=I6 tab 0 t i e;rwa [cH] at this
def BU {P:aJ}{t:aD}{i:TI}(h:iH P t=some i):∃ ti z d,P.info? t=some ti∧P.underlying t=some d∧iu d=i.d∧ti.size=i.size∧ti.bytes=i.bytes∧ti.zero=some z∧z.cells.toList=i.zero:=by
 unfold iH at h;split at h;rename_i ti d h1 h2;split at h;rename_i z hz;simp only [aA] at h;subst h;exact ⟨ti,z,d,h1,h2,rfl,rfl,rfl,hz,rfl⟩;cases h;cases h
def TI.agg (i:TI):Bool:=
 match i.d with
 | .struct _=>true
 | .array _ _=>true
 | _=>false
def ti (tab:List (Option TI))(t:aD):Option TI:=(tab[t]?).join
def b4 {P:aJ}{tab:List (Option TI)}(h:bO P tab){t:aD}{i:TI}(e:ti tab t=some i):iH P t=some i:=by
 unfold ti at e;cases a:tab[t]? with
 | none=>rw [a] at e;cases e
 | some o=>rw [a] at e;simp at e;subst e;exact h t i a
section
variable {P:aJ}{w:aL}{t:aD}{i:TI}
def mJ {α:Type}(x:α):(Pure.pure x:Sem α).run P w=.ok x w:=rfl
def mw {α β:Type}(x:Sem α)(f:α→Sem β):(x >>= f).run P w=match x.run P w with|.ok a w'=>(f a).run P w'|.halt h w'=>.halt h w':=by
 show (x.bind f).run P w=_;induction x generalizing w with
 | pure a=>rfl
 | load m a k ih=>simp only [jA,gX];(repeat' split)<;>simp_all
 | store m a v k ih=>cases v<;>simp only [jA,gX]<;>(try (repeat' split))<;>simp_all
 | new o k ih=>simp only [jA,gX];exact ih _
 | shape r k ih=>simp only [jA,gX];exact ih _
 | freeze a n k ih=>simp only [jA,gX];exact ih
 | frozen a k ih=>simp only [jA,gX];exact ih _
 | getObj r k ih=>simp only [jA,gX];split<;>simp_all
 | setObj r o k ih=>simp only [jA,gX];split<;>simp_all
 | choose q k ih=>simp only [jA,gX];split<;>simp_all
 | sys c k ih=>simp only [jA,gX];exact ih _
 | program k ih=>simp only [jA,gX];exact ih _
 | mark m k ih=>simp only [jA,gX];exact ih
 | halt h=>rfl
def KL {α β:Type}{x:Sem α}{f:α→Sem β}{a:α}{w':aL}(h:x.run P w=.ok a w'):(x >>= f).run P w=(f a).run P w':=by rw [mw,h]
def iY (h:iH P t=some i):∃ d,(Go.underlying t).run P w=.ok d w∧iu d=i.d:=by
 obtain ⟨ti,z,d,h1,h2,b,_⟩:=BU h;refine ⟨d,?_,b⟩;unfold Go.underlying Go.program;rw [KL (a:=P) rfl,h2];rfl
def Co (h:iH P t=some i):∃ ti z,(eR t).run P w=.ok ti w∧ti.size=i.size∧ti.bytes=i.bytes∧ti.zero=some z∧z.cells.toList=i.zero:=by
 obtain ⟨ti,z,d,h1,h2,_,b,c,e,f⟩:=BU h;refine ⟨ti,z,?_,b,c,e,f⟩;unfold eR Go.program;rw [KL (a:=P) rfl,h1];rfl
def lD (h:iH P t=some i):(Go.sizeOf t).run P w=.ok i.size w:=by
 obtain ⟨ti,z,h1,h2,_⟩:=Co (w:=w) h;unfold Go.sizeOf;rw [KL h1,h2];rfl
def wZ (h:iH P t=some i):∃ z,(ry t).run P w=.ok z w∧z.cells.toList=i.zero:=by
 obtain ⟨ti,z,h1,h2,c,a,b⟩:=Co (w:=w) h;refine ⟨z,?_,b⟩;unfold ry;rw [KL h1,a];rfl
def L0 (h:iH P t=some i):(Go.isAgg t).run P w=.ok i.agg w:=by
 obtain ⟨d,h1,h2⟩:=iY (w:=w) h;unfold Go.isAgg;rw [KL h1];unfold TI.agg;rw [← h2];cases d<;>first|rfl|trivial
end
def eZ (i:TI)(ds:List D)(off:Nat):Option D:=
 bif i.agg then bif cK (off+i.size) ds.length then some (.agg ((ds.drop off).take i.size)) else none else ds[off]?
def GO {P:aJ}{w:aL}{t:aD}{i:TI}{H:Hp}{ds:List D}{us:List ω}{off:Nat}{d:D}(hi:iH P t=some i)(h:Reps H ds us)(e:eZ i ds off=some d) :
  ∃ v,(Go.part t us.toArray off).run P w=.ok v w∧Rep H d v:=by
 unfold Go.part;rw [KL (L0 hi)];unfold eZ at e;cases hg:i.agg with
 |
  true=>
  rw [hg] at e;simp only [ξ] at e;cases hb:cK (off+i.size) ds.length with
  | false=>rw [hb] at e;cases e
  |
   true=>
   rw [hb] at e;simp only [ξ,aA] at e;subst e;refine ⟨.agg ((us.drop off).take i.size).toArray,?_,E5 (Da _ (Db _ h))⟩;simp only [bR];rw [KL (lD hi)];show Result.ok (Value.agg (us.toArray.extract off (off+i.size))) w=_
   rw [List.extract_toArray,List.extract_eq_take_drop];simp
 |
  false=>
  rw [hg] at e;simp only [θ] at e;obtain ⟨u,h1,h2,a,b⟩:=E7 h e;refine ⟨u,?_,j6 h2 a b⟩;simp [h1];first|rfl|done
def dL:List (Nat×D)→Nat→Option D
 | [],_=>none
 | (j,d)::t,i=>bif bM j i then some d else dL t i
def TOK (H:Hp)(t:List (Nat×D))(a:Act):Prop:=∀ i d,dL t i=some d→∃ v,a.tmps[i]? = some v∧Rep H d v
def TOK.mono {H H':Hp}(h:H.le H'){t:List (Nat×D)}{a:Act}(k:TOK H t a):TOK H' t a:=fun i d e=>let ⟨v,h1,h2⟩:=k i d e;⟨v,h1,h2.mono h⟩
def TOK.put {H:Hp}{t:List (Nat×D)}{a:Act}(k:TOK H t a){i:Nat}{d:D}{v:ω}(hi:i<a.tmps.size)(hv:Rep H d v):TOK H ((i,d)::t) (a.put (some i) v):=by
 intro j d' e;simp only [dL] at e;simp only [io];cases hb:bM i j with
 |
  true=>
  rw [hb] at e;simp at e;subst e;have:=aX hb;subst this;exact ⟨v,by simp [hi],hv⟩
 |
  false=>
  rw [hb] at e;simp at e;have:i≠j:=fw hb;obtain ⟨u,h1,h2⟩:=k j d' e;exact ⟨u,by rw [f0 this];exact h1,h2⟩
def uP:ω→D
 | .agg cs=>.agg (cs.toList.map .v)
 | .slice none 0 0=>.lst 1 [] .full
 | x=>.v x
def mR:ω→Bool
 | .agg cs=>cs.toList.all one
 | .tuple _=>false
 | _=>true
def cS (t:List (Nat×D)):aH→Option D
 | .tmp i=>dL t i
 | .const v=>bif mR v then some (uP v) else none
 | .func f=>some (.fn (.func f) [] [])
 | .global g=>some (.v (.pointer (some ⟨g,0,none⟩)))
def rU {H:Hp}{v:ω}(h:mR v=true):Rep H (uP v) v:=by
 unfold uP;split;rename_i cs;have:=L1 (H:=H) cs.toList (by simp only [mR,bY] at h;exact h);exact ⟨by simp only [cT,RepC];exact this,rfl⟩;exact j6 (by simp only [RepC,eA];exact ⟨_,rfl,by trivial,.inl ⟨by trivial,none,0,rfl,fun _=>rfl⟩⟩) rfl rfl;rename_i h1 h2;exact dA (by cases v<;>simp_all [mR,one])
def eh {H:Hp}{t:List (Nat×D)}{a:Act}(k:TOK H t a){x:aH}{d:D}(e:cS t x=some d):Rep H d (a.eval x):=by
 cases x with
 |
  tmp i=>
  obtain ⟨v,h1,h2⟩:=k i d e;simp only [RH];rw [Array.getD_eq_getD_getElem?,h1];exact h2
 |
  const v=>
  simp only [cS] at e;cases hb:mR v with
  | false=>rw [hb] at e;cases e
  | true=>rw [hb] at e;simp at e;subst e;exact rU hb
 |
  func f=>
  simp only [cS,aA] at e;subst e;exact j6 (by simp only [RepC];exact ⟨[],[],rfl,by simp [RepsV],by simp [RepsV]⟩) rfl rfl
 |
  global g=>
  simp only [cS,aA] at e;subst e;exact dA rfl
def s8 {H:Hp}{b o:Nat}{y:ω}(h:Rep H (.ptr b o) y):y=.pointer (some ⟨b,o,none⟩):=by
 obtain ⟨h1,h2⟩:=h;cases y<;>simp [D.shape] at h2<;>simp [RepC,cT] at h1<;>simp [h1]
def Hm {H:Hp}{d:D}{y:ω}(h:Rep H (.el d) y):∃ b off vs,y=.pointer (some ⟨b,off,none⟩)∧RepC H d vs∧Told H b off vs∧∀ u∈vs,one u=true:=by
 obtain ⟨h1,h2⟩:=h;cases y<;>simp [D.shape] at h2<;>simp [RepC,cT] at h1<;>simp [h1]
def O3 {H:Hp}{l:List D}{y:ω}(h:Rep H (.tup l) y):∃ vs,y=.tuple vs.toArray∧RepsV H l vs:=by
 obtain ⟨h1,h2⟩:=h;cases y<;>simp [D.shape] at h2<;>simp [RepC,cT] at h1<;>simp [h1]
def oL {H:Hp}{k:Nat}{xs:List D}{c:Cap}{y:ω}(h:Rep H (.lst k xs c) y):eA c y∧((xs=[]∧∃ a m,y=.slice a 0 m∧(a=none→m=0))∨∃ b off m,y=.slice (some ⟨b,off,none⟩) xs.length m∧xs.length≤m∧Els H k b off xs):=by
 obtain ⟨h1,h2⟩:=h;cases y<;>simp [D.shape] at h2<;>(simp only [RepC,cT] at h1;obtain ⟨y,e,h⟩:=h1;simp at e;subst e;exact h)
def Hd {H:Hp}:∀ {l:List D} {us:List ω},RepsV H l us→∀ {i:Nat} {d:D},l[i]? = some d→∃ u,us[i]? = some u∧Rep H d u
 | [],us,h,i,d,e=>by simp at e
 |
  d0::l,us,h,i,d,e=>by
  simp only [RepsV] at h;obtain ⟨u,us',rfl,h1,h2⟩:=h;cases i with
  | zero=>simp at e;subst e;exact ⟨u,by simp,h1⟩
  | succ i=>simp at e;simpa using Hd h2 e
end
section
open Go
def CV:fP→fP→Bool
 | .i8,.i8=>true|.i16,.i16=>true|.i32,.i32=>true|.i64,.i64=>true
 | .u8,.u8=>true|.u16,.u16=>true|.u32,.u32=>true|.u64,.u64=>true
 | _,_=>false
def vd {k k':fP}(h:CV k k'=true):k=k':=by cases k<;>cases k'<;>first|rfl|cases h
def My (a b:η):(a.toList==b.toList)=decide (a=b):=by
 rw [ByteArray.toList_eq,ByteArray.toList_eq,Bool.eq_iff_iff,beq_iff_eq,decide_eq_true_iff];constructor;intro h;exact ByteArray.ext (Array.toList_inj.1 h);intro h;rw [h]
def Bp (op:BinOp)(k:fP)(a b:Int):Option ω:=
 match op with
 | .add=>some (.int k (k.wrap (a+b)))
 | .sub=>some (.int k (k.wrap (a-b)))
 | .mul=>some (.int k (k.wrap (a*b)))
 | .eql=>some (.bool (a==b))
 | .neq=>some (.bool (a != b))
 | .lss=>some (.bool (decide (a<b)))
 | .leq=>some (.bool (decide (a≤b)))
 | .gtr=>some (.bool (decide (b<a)))
 | .geq=>some (.bool (decide (b≤a)))
 | _=>none
def AT (op:BinOp)(a b:η):Option ω:=
 match op with
 | .eql=>some (.bool (decide (a=b)))
 | .neq=>some (.bool (!decide (a=b)))
 | _=>none
def vZ (op:BinOp)(x y:ω):Option ω:=
 match x,y with
 | .int k a,.int k' b=>bif CV k k' then Bp op k a b else none
 | .string a,.string b=>AT op a b
 | _,_=>none
def yH {P:aJ}{w:aL}{op:BinOp}{x y r:ω}(t:aD)(X Y:aH)(e:vZ op x y=some r) :
  (do eqGuard op t X Y x y;binOp op t x y:Sem ω).run P w=.ok r w:=by
 unfold vZ at e;split at e
 ·rename_i k a k' b;cases hk:CV k k' with
  | false=>rw [hk] at e;cases e
  |
   true=>
   have:=vd hk;subst this;rw [hk] at e;simp only [ξ] at e;cases op<;>simp [Bp] at e<;>subst e<;>simp [eqGuard,binOp,Op.intArith,Op.intCmp]<;>rfl
 rename_i a b;cases op<;>simp [AT] at e<;>subst e<;>simp [eqGuard,binOp,Op.stringOp,My]<;>rfl;cases e
def vY {op:BinOp}{x y r:ω}(e:vZ op x y=some r):one r=true:=by
 unfold vZ at e;split at e
 ·rename_i k a k' b;cases hk:CV k k' with
  | false=>rw [hk] at e;cases e
  |
   true=>
   rw [hk] at e;simp only [ξ] at e;cases op<;>simp [Bp] at e<;>subst e<;>rfl
 cases op<;>simp [AT] at e<;>subst e<;>rfl;cases e
def Gv {d:TypeDesc}(h:iu d=.bool):d=.bool:=by cases d<;>simp [iu] at h<;>rfl
def wI {d:TypeDesc}(h:iu d=.str):d=.string:=by cases d<;>simp [iu] at h<;>rfl
def BN {d:TypeDesc}{k:fP}(h:iu d=.int k):d=.int k:=by cases d<;>simp [iu] at h;subst h;rfl
def lB {d:TypeDesc}{e:Nat}(h:iu d=.slice e):d=.slice e:=by cases d<;>simp [iu] at h;subst h;rfl
def AP {d:TypeDesc}{e:Nat}(h:iu d=.ptr e):d=.pointer e:=by cases d<;>simp [iu] at h;subst h;rfl
def GN {d:TypeDesc}{n e:Nat}(h:iu d=.array n e):d=.array n e:=by cases d<;>simp [iu] at h;obtain ⟨rfl,rfl⟩:=h;rfl
def tS {d:TypeDesc}{n e:Nat}(h:iu d=.map n e):d=.map n e:=by cases d<;>simp [iu] at h;obtain ⟨rfl,rfl⟩:=h;rfl
def C9 {d:TypeDesc}{fs:List (Nat×Nat)}(h:iu d=.struct fs):∃ gs,d=.struct gs∧gs.toList.map (fun f=>(f.type,f.offset))=fs:=by cases d<;>simp [iu] at h;exact ⟨_,rfl,h⟩
def q8 (op:BinOp)(a b:Bool):Option ω:=
 match op with
 | .eql=>some (.bool (a==b))
 | .neq=>some (.bool (!(a==b)))
 | _=>none
def vU {P:aJ}{w:aL}{op:BinOp}{a b:Bool}{r:ω}{t:aD}{i:TI}(X Y:aH)(hi:iH P t=some i)(hd:i.d=.bool)(e:q8 op a b=some r) :
  (do eqGuard op t X Y (.bool a) (.bool b);binOp op t (.bool a) (.bool b):Sem ω).run P w=.ok r w:=by
 have hq:(AA t (.bool a) (.bool b)).run P w=.ok (a==b) w:=by unfold AA Op.maxDepth;show (oQ (9999+1) t _ _).run P w=_;obtain ⟨d,h1,h2⟩:=iY (w:=w) hi;have:=Gv (h2.trans hd);subst this;rw [oQ,KL h1];rfl
 cases op<;>simp [q8] at e;subst e;have hg:(eqGuard .eql t X Y (.bool a) (.bool b)).run P w=.ok () w:=by simp [eqGuard]<;>rfl
 rw [KL hg];show (do pure (.bool (← AA t (.bool a) (.bool b))):Sem ω).run P w=_;rw [KL hq];rfl;subst e;have hg:(eqGuard .neq t X Y (.bool a) (.bool b)).run P w=.ok () w:=by simp [eqGuard]<;>rfl
 rw [KL hg];show (do pure (.bool (!(← AA t (.bool a) (.bool b)))):Sem ω).run P w=_;rw [KL hq];cases a<;>cases b<;>rfl
def Gh (op:UnOp)(x:ω):Option ω:=
 match op,x with
 | .neg,.int k n=>some (.int k (k.wrap (0-n)))
 | .not,.bool b=>some (.bool (!b))
 | _,_=>none
def AJ {P:aJ}{w:aL}{op:UnOp}{x r:ω}(e:Gh op x=some r):(Op.unary op x).run P w=.ok r w:=by
 unfold Gh at e;split at e;simp only [aA] at e;subst e;rfl;simp only [aA] at e;subst e;rfl;cases e
def Is:TD→Bool
 | .bool=>true
 | _=>false
def Bn {d:TD}(h:Is d=true):d=.bool:=by cases d<;>first|rfl|cases h
def q3 (s d:TD)(x:ω):Option ω:=
 match s,d,x with
 | .int _,.int k,.int _ n=>some (.int k (k.wrap n))
 | .str,.str,.string s=>some (.string s)
 | _,_,_=>none
def vN {P:aJ}{w:aL}{s d:aD}{i j:TI}{x r:ω}(hi:iH P s=some i)(hj:iH P d=some j)(e:q3 i.d j.d x=some r):(convert s d x).run P w=.ok r w:=by
 obtain ⟨ds,h1,h2⟩:=iY (w:=w) hi;obtain ⟨dd,f,c⟩:=iY (w:=w) hj;unfold convert;rw [KL h1,KL f];unfold q3 at e;split at e;rename_i a b;have:=BN (h2.trans a);have:=BN (c.trans b);subst ds;subst dd;simp only [aA] at e;subst e;rfl;rename_i a b;have:=wI (h2.trans a);have:=wI (c.trans b);subst ds;subst dd;simp only [aA] at e;subst e;rfl;cases e
def Gu (i:TI)(f:Nat):Option (Nat×Nat):=
 match i.d with
 | .struct fs=>fs[f]?
 | _=>none
def Mn {i:TI}{d:TypeDesc}(hd:iu d=i.d){f:Nat}{fl:Nat×Nat}(h:Gu i f=some fl):∃ fs x,d=.struct fs∧fs[f]? = some x∧x.type=fl.1∧x.offset=fl.2:=by
 unfold Gu at h;split at h;rename_i fs e;obtain ⟨gs,rfl,h1⟩:=C9 (hd.trans e);rw [← h1,f9,fF] at h;obtain ⟨x,h2,a⟩:=h;exact ⟨gs,x,rfl,by simpa using h2,by rw [← a],by rw [← a]⟩;cases h
def kp (l:List aH)(f:aH→Option D):Option (List D):=
 match l with
 | []=>some []
 |
  x::l=>match f x,kp l f with
  | some d,some ds=>some (d::ds)
  | _,_=>none
def An {H:Hp}{t:List (Nat×D)}{a:Act}(k:TOK H t a):∀ {l:List aH} {ds:List D},kp l (cS t)=some ds→RepsV H ds (l.map a.eval)
 | [],ds,e=>by simp [kp] at e;subst e;simp [RepsV]
 |
  x::l,ds,e=>by
  simp only [kp] at e;split at e
  ·rename_i d ds' h1 h2;simp only [aA] at e;subst e;simp only [a7,RepsV];exact ⟨_,_,rfl,eh k h1,An k h2⟩
  cases e
def D.cnt:D→Nat
 | .agg l=>l.length
 | _=>1
def nW (tab:List (Option TI))(t:List (Nat×D))(o:Op):Option D:=
 match o with
 | .move x=>cS t x
 | .assign x=>cS t x
 |
  .pick c a b=>match cS t c with
  |
   some (.v (.bool c))=>match cS t a,cS t b with
   | some (.v (.bool a)),some (.v (.bool b))=>some (.v (.bool (bif c then a else b)))
   | _,_=>none
  | _=>none
 |
  .binOp op xt x y _=>match cS t x,cS t y with
  |
   some (.v (.bool x)),some (.v (.bool y))=>match ti tab xt with
   | some i=>bif Is i.d then (match q8 op x y with|some r=>some (.v r)|none=>none) else none
   | none=>none
  |
   some (.v x),some (.v y)=>match vZ op x y with
   | some r=>some (.v r)
   | none=>none
  | _,_=>none
 |
  .unOp op _ x=>match cS t x with
  |
   some (.v x)=>match Gh op x with
   | some r=>some (.v r)
   | none=>none
  | _=>none
 |
  .convert s d x=>match cS t x,ti tab s,ti tab d with
  |
   some (.v x),some i,some j=>match q3 i.d j.d x with
   | some r=>some (.v r)
   | none=>none
  | _,_,_=>none
 |
  .field xt x f=>match cS t x,ti tab xt with
  |
   some (.agg ds),some i=>match Gu i f with
   |
    some fl=>match ti tab fl.1 with
    | some j=>eZ j ds fl.2
    | none=>none
   | none=>none
  | _,_=>none
 |
  .fieldAddr xt x f=>match ti tab xt with
  |
   some i=>match Gu i f with
   |
    some fl=>match ti tab fl.1 with
    |
     some j=>bif bM j.size 0 then none else match cS t x with
     | some (.ptr b o)=>some (.ptr b (o+fl.2))
     |
      some (.el (.agg ds))=>match eZ j ds fl.2 with
      | some d=>some (.el d)
      | none=>none
     | _=>none
    | none=>none
   | none=>none
  | none=>none
 |
  .extract x i=>match cS t x with
  | some (.tup l)=>l[i]?
  | _=>none
 |
  .nilCheck x=>match cS t x with
  | some (.ptr b o)=>some (.ptr b o)
  | some (.el d)=>some (.el d)
  | _=>none
 |
  .makeFunc f as_ cs=>match kp as_.toList (cS t),kp cs.toList (cS t) with
  | some as_,some cs=>some (.fn f as_ cs)
  | _,_=>none
 | _=>none
def oJ (b o n:Nat):(⟨b,o,none⟩:Addr).add n=⟨b,o+n,none⟩:=by
 unfold Addr.add;split;rename_i h;subst h;rfl;rfl
def iC {P:aJ}{w w':aL}{s:Sem ω}{v:ω}(h:s.run P w=.ok v w'):(do pure (.value (← s)):Sem Next).run P w=.ok (.value v) w':=by
 rw [KL h];rfl
def LZ {H:Hp}{b off:Nat}{us:List ω}(h:Told H b off us)(n:Nat):Told H b (off+n) (us.drop n):=fun j u e=>by
 rw [List.getElem?_drop] at e;have:=h _ _ e;rwa [← RK] at this
def LY {H:Hp}{b off:Nat}{us:List ω}(h:Told H b off us)(n:Nat):Told H b off (us.take n):=fun j u e=>by
 rw [List.getElem?_take] at e;split at e
 ·exact h _ _ e
 cases e
def O2 {H:Hp}{j:TI}{ds:List D}{off n b:Nat}{d:D}{vs:List ω}(hr:Reps H ds vs)(ht:Told H b off vs)(e:eZ j ds n=some d) :
  Rep H (.el d) (.pointer (some ⟨b,off+n,none⟩)):=by
 unfold eZ at e;cases hg:j.agg with
 |
  true=>
  rw [hg] at e;simp only [ξ] at e;cases hb:cK (n+j.size) ds.length with
  | false=>rw [hb] at e;cases e
  |
   true=>
   rw [hb] at e;simp only [ξ,aA] at e;subst e;have h1:=Da j.size (Db n hr);refine j6 ?_ rfl rfl;simp only [RepC];exact ⟨b,off+n,_,rfl,h1,LY (LZ ht n) _,BV h1⟩
 |
  false=>
  rw [hg] at e;simp only [θ] at e;obtain ⟨u,h1,h2,a,c⟩:=E7 hr e;refine j6 ?_ rfl rfl;simp only [RepC];refine ⟨b,off+n,[u],rfl,h2,fun i x hx=>?_,by simpa using a⟩;cases i with
  | zero=>simp at hx;subst hx;exact ht n u h1
  | succ i=>simp at hx
def vz {P:aJ}{tab:List (Option TI)}(ht:bO P tab){H:Hp}{t:List (Nat×D)}{a:Act}{o:bG}{d:D}{w:aL}(k:TOK H t a)(e:nW tab t o.op=some d) :
  ∃ v,(bL a.eval o).run P w=.ok (.value v) w∧Rep H d v:=by
 unfold bL;generalize o.op=op at e;cases op with
 | move x=>exact ⟨_,rfl,eh k e⟩
 | assign x=>exact ⟨_,rfl,eh k e⟩
 |
  pick c x y=>
  simp only [nW] at e;split at e
  ·rename_i c0 hc;split at e
   ·rename_i x0 q hx hy;simp only [aA] at e;subst e;have h1:=eW (eh k hc);have h2:=eW (eh k hx);have g:=eW (eh k hy)
    refine ⟨.bool (bif c0 then x0 else q),?_,dA rfl⟩;simp only [h1,h2,g];cases c0<;>rfl
   cases e
  cases e
 |
  binOp op xt x y yt=>
  simp only [nW] at e;split at e
  ·rename_i x0 q hx hy;split at e
   ·rename_i i hi;cases hb:Is i.d with
    | false=>rw [hb] at e;cases e
    |
     true=>
     rw [hb] at e;simp only [ξ] at e;split at e
     ·rename_i r hr;simp only [aA] at e;subst e;refine ⟨r,iC ?_,dA ?_⟩
      ·rw [eW (eh k hx),eW (eh k hy)];exact vU x y (b4 ht hi) (Bn hb) hr
      cases op<;>simp [q8] at hr<;>subst hr<;>rfl
     cases e
   cases e
  ·rename_i x0 q _ hx hy;split at e
   ·rename_i r hr;simp only [aA] at e;subst e;refine ⟨r,iC ?_,dA ?_⟩
    ·rw [eW (eh k hx),eW (eh k hy)];exact yH xt x y hr
    exact vY hr
   cases e
  cases e
 |
  unOp op xt x=>
  simp only [nW] at e;split at e
  ·rename_i x0 hx;split at e
   ·rename_i r hr;simp only [aA] at e;subst e;refine ⟨r,iC ?_,dA ?_⟩
    ·rw [eW (eh k hx)];exact AJ hr
    unfold Gh at hr;split at hr<;>simp at hr<;>subst hr<;>rfl
   cases e
  cases e
 |
  convert s d' x=>
  simp only [nW] at e;split at e
  ·rename_i x0 i j hx hi hj;split at e
   ·rename_i r hr;simp only [aA] at e;subst e;refine ⟨r,iC ?_,dA ?_⟩
    ·rw [eW (eh k hx)];exact vN (b4 ht hi) (b4 ht hj) hr
    unfold q3 at hr;split at hr<;>simp at hr<;>subst hr<;>rfl
   cases e
  cases e
 |
  field xt x f=>
  simp only [nW] at e;split at e
  ·rename_i ds i hx hi;split at e
   ·rename_i fl hf;split at e
    ·rename_i j hj;obtain ⟨dd,z,A⟩:=iY (w:=w) (b4 ht hi);obtain ⟨fs,x0,rfl,h2,p,B⟩:=Mn A hf;obtain ⟨us,hy,hr⟩:=Ak (eh k hx);obtain ⟨v,g,m⟩:=GO (P:=P) (w:=w) (t:=fl.1) (b4 ht hj) hr e;refine ⟨v,iC ?_,m⟩;unfold Instr.field;rw [KL z];simp only [h2,hy];rw [KL (a:=us.toArray) rfl,p,B];exact g
    cases e
   cases e
  cases e
 |
  fieldAddr xt x f=>
  simp only [nW] at e;split at e
  ·rename_i i hi;split at e
   ·rename_i fl hf;split at e
    ·rename_i j hj;obtain ⟨dd,z,A⟩:=iY (w:=w) (b4 ht hi);obtain ⟨fs,x0,rfl,h2,F,G⟩:=Mn A hf;have hrun:∀ b o,(Instr.fieldAt xt (.pointer (some ⟨b,o,none⟩)) f).run P w=if j.size=0 then (do pure (.pointer (some (← fieldPlace ⟨b,o,none⟩ x0))):Sem ω).run P w else .ok (.pointer (some ⟨b,o+fl.2,none⟩)) w:=by
      intro b o;unfold Instr.fieldAt;rw [KL z];simp only [h2];rw [KL (a:=(⟨b,o,none⟩:Addr)) rfl];split
      ·rfl
      rename_i hz;unfold fieldPlace;rw [KL (a:=(⟨b,o+fl.2,none⟩:Addr)) ?_]
      ·rfl
      rw [F,KL (lD (b4 ht hj)),aF hz,oJ,G];rfl
     cases hz:bM j.size 0 with
     | true=>rw [hz] at e;cases e
     |
      false=>
      rw [hz] at e;simp only [θ] at e;have hz':¬ j.size=0:=fw hz;split at e
      ·rename_i b o hx;simp only [aA] at e;subst e;refine ⟨.pointer (some ⟨b,o+fl.2,none⟩),iC ?_,j6 (by simp [RepC]) rfl rfl⟩;rw [s8 (eh k hx),hrun,aF hz']
      ·rename_i ds hx;split at e
       ·rename_i d0 hd;simp only [aA] at e;subst e;obtain ⟨b,off,vs,g,m,p,B⟩:=Hm (eh k hx);simp only [RepC] at m;refine ⟨.pointer (some ⟨b,off+fl.2,none⟩),iC ?_,O2 m p hd⟩;rw [g,hrun,aF hz']
       cases e
      cases e
    cases e
   cases e
  cases e
 |
  extract x n=>
  simp only [nW] at e;split at e
  ·rename_i l hx;obtain ⟨vs,h1,h2⟩:=O3 (eh k hx);obtain ⟨u,g,m⟩:=Hd h2 e;refine ⟨u,iC ?_,m⟩;unfold Instr.extract;simp [h1,g]<;>rfl
  cases e
 |
  nilCheck x=>
  simp only [nW] at e;split at e
  ·rename_i b o hx;simp only [aA] at e;subst e;exact ⟨.pointer (some ⟨b,o,none⟩),by simp only [s8 (eh k hx)];rfl,j6 (by simp [RepC]) rfl rfl⟩
  ·rename_i d0 hx;simp only [aA] at e;subst e;obtain ⟨b,off,vs,g,m,p,B⟩:=Hm (eh k hx);exact ⟨.pointer (some ⟨b,off,none⟩),by simp only [g];rfl,g ▸ eh k hx⟩
  cases e
 |
  makeFunc f as_ cs=>
  simp only [nW] at e;split at e
  ·rename_i as' cs' h1 h2;simp only [aA] at e;subst e;refine ⟨.func f (as_.map a.eval) (cs.map a.eval),iC rfl,j6 ?_ rfl rfl⟩;simp only [RepC];exact ⟨as_.toList.map a.eval,cs.toList.map a.eval,by rw [← Array.toList_map,← Array.toList_map],An k h1,An k h2⟩
  cases e
 | _=>simp [nW] at e
end
section
open Go
structure S where
 t:List (Nat×D)
 h:List (Nat×Blk)
 k:List (Nat×ω)
def Gp (C:Ctx)(N:Nat)(s:S)(a:Act)(w:aL):Prop:=∃ H,Core C H s.h s.k w∧TOK H s.t a∧a.tmps.size=N∧a.defers=[]
def QD (C:Ctx)(N:Nat)(Q:dH→S→Prop):dH→Act→aL→Prop:=fun x a w=>∃ s,Gp C N s a w∧Q x s
def h8 (P:aJ)(C:Ctx)(N:Nat)(c:Code)(s:S)(Q:dH→S→Prop):Prop:=∀ a w,Gp C N s a w→c.wp P (QD C N Q) a w
def a1 (P:aJ)(C:Ctx)(N:Nat)(ops:List bG)(l:List bG)(s:S)(Q:dH→S→Prop):Prop:=∀ a w,Gp C N s a w→wpList P ops.toArray (QD C N Q) l a w
def bC (ops:List bG)(t:List (Nat×D))(o:bG):Option Bool:=
 match o.guard with
 | none=>some true
 |
  some (j,want)=>match ops[j]? with
  |
   some p=>match p.dst with
   |
    some i=>match dL t i with
    | some (.v (.bool b))=>some (bif b then want else !want)
    | some (.v (.tuple _))=>some false
    | _=>none
   | none=>none
  | none=>none
def sZ {ops:List bG}{H:Hp}{t:List (Nat×D)}{o:bG}{a:Act}{b:Bool}(k:TOK H t a)(e:bC ops t o=some b):fo o (yielded ops.toArray a.tmps)=b:=by
 unfold bC at e;unfold fo;split at e;rename_i hg;rw [hg];simp at e;subst e;rfl;rename_i j want hg;rw [hg];split at e;rename_i p hp;split at e;rename_i i hi;split at e;rename_i c hl;obtain ⟨v,h1,h2⟩:=k i _ hl;have:=eW h2;subst this;simp only [aA] at e;subst e;simp only [yielded,cR,hp,δ,hi,h1];cases c<;>cases want<;>rfl;rename_i vs hl;obtain ⟨v,h1,h2⟩:=k i _ hl;have:=eW h2;subst this;simp only [aA] at e;subst e;simp only [yielded,cR,hp,δ,hi,h1];cases want<;>rfl;cases e;cases e;cases e
section
variable {P:aJ}{C:Ctx}{N:Nat}{ops rest:List bG}{o:bG}{s:S}{Q:dH→S→Prop}{tab:List (Option TI)}
def Kw (h:Q .normal s):a1 P C N ops [] s Q:=fun _ _ r=>⟨s,r,h⟩
def ko {i:Nat}(hw:bC ops s.t o=some true)(hd:o.dst=some i)(hi:aZ i N=true)
  (h:∀ H a w,Core C H s.h s.k w→TOK H s.t a→∃ v w' H' d h' k',(bL a.eval o).run P w=.ok (.value v) w'∧H.le H'∧Core C H' h' k' w'∧Rep H' d v∧a1 P C N ops rest ⟨(i,d)::s.t,h',k'⟩ Q) :
  a1 P C N ops (o::rest) s Q:=by
 rintro a w ⟨H,c,k,hN,hdf⟩;unfold wpList;rw [sZ k hw,aQ rfl];obtain ⟨v,w',H',d,h',k',hr,hle,c',hv,hrest⟩:=h H a w c k;refine .inl ?_;unfold ku;rw [hr,fT,hd];refine hrest _ _ ⟨H',c',TOK.put (k.mono hle) (by rw [hN];simpa using hi) hv,?_,?_⟩;simp only [io,fA];exact hN;exact hdf
def IL (hw:bC ops s.t o=some true)(hd:o.dst=none)
  (h:∀ H a w,Core C H s.h s.k w→TOK H s.t a→∃ w' H' h' k',(bL a.eval o).run P w=.ok .skip w'∧H.le H'∧Core C H' h' k' w'∧a1 P C N ops rest ⟨s.t,h',k'⟩ Q) :
  a1 P C N ops (o::rest) s Q:=by
 rintro a w ⟨H,c,k,hN,hdf⟩;unfold wpList;rw [sZ k hw,aQ rfl];obtain ⟨w',H',h',k',hr,hle,c',hrest⟩:=h H a w c k;refine .inl ?_;unfold ku;rw [hr,Oper.upon_skip,hd];exact hrest _ _ ⟨H',c',k.mono hle,hN,hdf⟩
def uL {i:Nat}(hw:bC ops s.t o=some false)(hd:o.dst=some i)(hi:aZ i N=true)(h:a1 P C N ops rest ⟨(i,.v (.tuple #[]))::s.t,s.h,s.k⟩ Q):a1 P C N ops (o::rest) s Q:=by
 rintro a w ⟨H,c,k,hN,hdf⟩;unfold wpList;rw [sZ k hw,aF (by simp),hd];refine h _ _ ⟨H,c,TOK.put k (by rw [hN];simpa using hi) ⟨by simp [RepC,undef,cT],rfl⟩,?_,hdf⟩;simp only [io,fA];exact hN
def uM {i:Nat}{d:D}(ht:bO P tab)(hw:bC ops s.t o=some true)(hd:o.dst=some i)(hi:aZ i N=true)(e:nW tab s.t o.op=some d)
  (h:a1 P C N ops rest ⟨(i,d)::s.t,s.h,s.k⟩ Q):a1 P C N ops (o::rest) s Q:=
 ko hw hd hi fun H a w c k=>by
  obtain ⟨v,h1,h2⟩:=vz ht (w:=w) k e;exact ⟨v,w,H,d,s.h,s.k,h1,Hp.le_refl H,c,h2,h⟩
def mH {i:Nat}{d:D}(hw:bC ops s.t o=some true)(hd:o.dst=some i)(hi:aZ i N=true)(e:∀ H a w,TOK H s.t a→∃ v,(bL a.eval o).run P w=.ok (.value v) w∧Rep H d v)
  (h:a1 P C N ops rest ⟨(i,d)::s.t,s.h,s.k⟩ Q):a1 P C N ops (o::rest) s Q:=
 ko hw hd hi fun H a w c k=>by
  obtain ⟨v,h1,h2⟩:=e H a w k;exact ⟨v,w,H,d,s.h,s.k,h1,Hp.le_refl H,c,h2,h⟩
def px {s':S}(hs:∀ H a w,Core C H s.h s.k w→TOK H s.t a→∃ H',H.le H'∧Core C H' s'.h s'.k w∧TOK H' s'.t a)(h:a1 P C N ops rest s' Q):a1 P C N ops rest s Q:=by
 rintro a w ⟨H,c,k,hN,hdf⟩;obtain ⟨H',hle,c',k'⟩:=hs H a w c k;exact h a w ⟨H',c',k',hN,hdf⟩
end
def RowAt (w:aL)(b off:Nat)(us:List ω):Prop:=∀ j u,us[j]? = some u→w.cell? ⟨b,off+j,none⟩=some u
def Told.row {H:Hp}{w:aL}(h:Ag H w){b off:Nat}{us:List ω}(k:Told H b off us):RowAt w b off us:=fun j u e=>h _ _ (k j u e)
def Fu {w:aL}{b:Nat}{us:List ω}{T:aD}(h:w.heap[b]? = some (.cells us.toArray T (0,0))):RowAt w b 0 us:=fun j u e=>by
 simp only [aO,h,cH];simpa using e
def RowAt.drop {w:aL}{b off:Nat}{us:List ω}(h:RowAt w b off us)(n:Nat):RowAt w b (off+n) (us.drop n):=fun j u e=>by
 rw [List.getElem?_drop] at e;have:=h _ _ e;rwa [← RK] at this
def Nj {P:aJ}{w:aL}{b off:Nat}:∀ (n i:Nat) {us:List ω} (acc:Array ω),RowAt w b (off+i) us→n≤us.length →
  (loadCellsFrom ⟨b,off,none⟩ i n acc).run P w=.ok (acc++(us.take n).toArray) w
 | 0,i,us,acc,_,_=>by simp [loadCellsFrom]<;>rfl
 | n+1,i,[],acc,_,h=>by simp at h
 |
  n+1,i,u::us,acc,hr,h=>by
  unfold loadCellsFrom;have a:w.cell? ((⟨b,off,none⟩:Addr).add i)=some u:=by rw [oJ];simpa using hr 0 u (by simp)
  have hl:(load ((⟨b,off,none⟩:Addr).add i)).run P w=.ok u w:=by simp only [load,gX,a]
  rw [KL hl];have:=Nj (P:=P) n (i+1) (us:=us) (acc.push u) (by have:=hr.drop 1;simpa [RK] using this) (by simpa using h);rw [this];simp [List.take_succ_cons]
def FI {P:aJ}{w:aL}{b off:Nat}{us:List ω}(n:Nat)(hr:RowAt w b off us)(h:n≤us.length):(loadCells ⟨b,off,none⟩ n).run P w=.ok (us.take n).toArray w:=by
 unfold loadCells;rw [Nj n 0 #[] (by simpa using hr) h];simp
def Ds {P:aJ}{w:aL}{T:aD}{i:TI}{H:Hp}{ds:List D}{us:List ω}{b off n:Nat}{d:D}(hi:iH P T=some i)(hr:RowAt w b off us)(h:Reps H ds us)(e:eZ i ds n=some d) :
  ∃ v,(Instr.loadAt T (.pointer (some ⟨b,off+n,none⟩))).run P w=.ok v w∧Rep H d v:=by
 unfold Instr.loadAt;rw [KL (a:=(⟨b,off+n,none⟩:Addr)) rfl];unfold loadVar;rw [KL (L0 hi)];unfold eZ at e;cases hg:i.agg with
 |
  true=>
  rw [hg] at e;simp only [ξ] at e;cases hb:cK (n+i.size) ds.length with
  | false=>rw [hb] at e;cases e
  |
   true=>
   rw [hb] at e;simp only [ξ,aA] at e;subst e;have hlen:=wh h;have hle:=bS hb;refine ⟨.agg ((us.drop n).take i.size).toArray,?_,E5 (Da _ (Db _ h))⟩;simp only [bR];rw [KL (lD hi),KL (FI i.size (hr.drop n) (by simp;omega))];first|done|rfl
 |
  false=>
  rw [hg] at e;simp only [θ] at e;obtain ⟨u,h1,h2,c,f⟩:=E7 h e;refine ⟨u,?_,j6 h2 c f⟩;have:=hr n u h1;simp only [cP,bE,load,gX,this]
def eK:D→List D
 | .agg l=>l
 | .any=>[]
 | d=>[d]
def Jq {H:Hp}{d:D}{us:List ω}(hd:eK d≠[])(h:RepC H d us)(h1:∀ u∈us,one u=true):Reps H (eK d) us:=by
 cases d with
 | any=>exact bH rfl hd
 | agg l=>simpa [eK,RepC] using h
 | v x=>simp only [RepC] at h;subst h;simp only [eK,Reps];exact ⟨x,[],rfl,⟨by simp [RepC],h1 x (by simp),rfl⟩,rfl⟩
 |
  lst k xs c=>
  have a:=h;simp only [RepC] at h;obtain ⟨y,e,_⟩:=h;subst e;simp only [eK,Reps];exact ⟨y,[],rfl,⟨a,h1 y (by simp),rfl⟩,rfl⟩
 |
  el d=>
  have a:=h;simp only [RepC] at h;obtain ⟨b,off,vs,e,_⟩:=h;subst e;simp only [eK,Reps];exact ⟨_,[],rfl,⟨a,h1 _ (by simp),rfl⟩,rfl⟩
 |
  slf b=>
  have a:=h;simp only [RepC] at h;rcases h with h|h<;>(subst h;simp only [eK,Reps];exact ⟨_,[],rfl,⟨a,h1 _ (by simp),rfl⟩,rfl⟩)
 |
  ptr b o=>
  have a:=h;simp only [RepC] at h;subst h;simp only [eK,Reps];exact ⟨_,[],rfl,⟨a,h1 _ (by simp),rfl⟩,rfl⟩
 |
  fn f as_ cs=>
  have a:=h;simp only [RepC] at h;obtain ⟨vs,ws,e,_⟩:=h;subst e;simp only [eK,Reps];exact ⟨_,[],rfl,⟨a,h1 _ (by simp),rfl⟩,rfl⟩
 |
  tup l=>
  simp only [RepC] at h;obtain ⟨vs,e,_⟩:=h;subst e;have:=h1 _ (aT.2 rfl);cases this
section
variable {P:aJ}{C:Ctx}{N:Nat}{ops rest:List bG}{o:bG}{s:S}{Q:dH→S→Prop}{tab:List (Option TI)}
def uN {i b off:Nat}{T T':aD}{x:aH}{ds:List D}{f:TI}{d:D}(j:Nat)(ht:bO P tab)(ho:o.op=.load T x)(hw:bC ops s.t o=some true)(hd:o.dst=some i)(hi:aZ i N=true)
  (hx:cS s.t x=some (.ptr b off)) (hb:s.h[j]? = some (b,.cells ds T')) (hT:ti tab T=some f) (e:eZ f ds off=some d)
  (h:a1 P C N ops rest ⟨(i,d)::s.t,s.h,s.k⟩ Q):a1 P C N ops (o::rest) s Q:=
 ko hw hd hi fun H a w c k=>by
  obtain ⟨us,h1,h2,m⟩:=c.blks _ (a4 hb);obtain ⟨v,g,l⟩:=Ds (P:=P) (T:=T) (n:=off) (b4 ht hT) (Fu h1) h2 e;refine ⟨v,w,H,d,s.h,s.k,?_,Hp.le_refl H,c,l,h⟩;unfold bL;rw [ho];refine iC ?_;rw [s8 (eh k hx)];rwa [cH] at g
def py {i:Nat}{T:aD}{x:aH}{d0 d:D}{f:TI}(ht:bO P tab)(ho:o.op=.load T x)(hw:bC ops s.t o=some true)(hd:o.dst=some i)(hi:aZ i N=true)
  (hx:cS s.t x=some (.el d0)) (hT:ti tab T=some f) (e:eZ f (eK d0) 0=some d) (hne:eK d0≠[])
  (h:a1 P C N ops rest ⟨(i,d)::s.t,s.h,s.k⟩ Q):a1 P C N ops (o::rest) s Q:=
 ko hw hd hi fun H a w c k=>by
  obtain ⟨b,off,vs,h1,h2,g,j⟩:=Hm (eh k hx);obtain ⟨v,l,m⟩:=Ds (P:=P) (T:=T) (n:=0) (b4 ht hT) (g.row c.ag) (Jq hne h2 j) e;refine ⟨v,w,H,d,s.h,s.k,?_,Hp.le_refl H,c,m,h⟩;unfold bL;rw [ho];exact iC (by rw [h1];exact l)
end
def Core.here {H:Hp}{w:aL}(h:Ag H w):Core ⟨H,w,[]⟩ H [] [] w:=
 ⟨h,Hp.le_refl H,fun _ _ x=>.inl x,fun _ _ _=>rfl,Φ _,(by simp),(by simp),(by simp [K4,eQ]),(by simp [K4,eQ]),Env.refl w⟩
def ld (w:aL)(o:Obj)(k:Nat):(w.alloc o).heap[k]? = if k=w.heap.size then some o else w.heap[k]?:=by
 show (w.heap.push o)[k]? = _;rw [Array.getElem?_push]
def FF (w:aL)(o:Obj):(w.alloc o).heap.size=w.heap.size+1:=by show (w.heap.push o).size=_;simp
def Mx {w:aL}{a:Addr}{v:ω}(o:Obj)(h:w.cell? a=some v):(w.alloc o).cell? a=some v:=by
 have hl:=cell_lt h;unfold aO at h ⊢;rw [ld,aF (by omega)];exact h
def Ag.alloc {H:Hp}{w:aL}(h:Ag H w)(o:Obj):Ag H (w.alloc o):=
 ⟨fun a v e=>Mx _ (h a v e),h.gg.step (Hp.le_refl H) (by rw [ld,aF (Nat.ne_of_lt h.gg.lt)])⟩
def Core.alloc {C:Ctx}{H:Hp}{h:List (Nat×Blk)}{k:List (Nat×ω)}{w:aL}(c:Core C H h k w){ds:List D}{us:List ω}(T:aD)(hr:Reps H ds us) :
  Core C H (h++[(w.heap.size,.cells ds T)]) k (w.alloc (.cells us.toArray T)):=by
 have c0:Core ⟨H,w,[]⟩ H [(w.heap.size,.cells ds T)] [] (w.alloc (.cells us.toArray T)):=by
  refine ⟨c.ag.alloc _,Hp.le_refl H,fun _ _ x=>.inl x,fun b hb _=>?_,?_,?_,by simp,?_,?_,⟨rfl,rfl,rfl,Φ _⟩⟩;rw [ld,aF (by exact Nat.ne_of_lt hb)];rw [FF];exact CU _
  ·intro p hp;simp only [aT] at hp;subst hp;refine ⟨us,by rw [ld,aQ rfl],hr,fun o=>?_⟩;cases e:H ⟨w.heap.size,o,none⟩ with
   | none=>rfl
   | some v=>exact bH (c.ag.lt e) (RJ _)
  simp [K4,eQ];intro b hb;simp [K4,eQ] at hb;subst hb;exact .inr (Φ _)
 have:=Core.call (h1:=[]) (k1:=[]) (h2:=h) (k2:=k) c c0;exact this.perm (by simpa using (List.perm_append_singleton _ _).symm) (aM _)
def jW (H:Hp)(b:Nat)(us:List ω):Hp:=fun a=>if a.block=b∧a.spot=none then us[a.off]? else H a
def Core.allocTold {C:Ctx}{H:Hp}{h:List (Nat×Blk)}{k:List (Nat×ω)}{w:aL}(c:Core C H h k w){us vs:List ω}(T:aD)(hp:∀ (j:Nat) (u:ω),us[j]? = some u→vs[j]? = some u) :
  H.le (jW H w.heap.size us)∧Core C (jW H w.heap.size us) h k (w.alloc (.cells vs.toArray T))∧Told (jW H w.heap.size us) w.heap.size 0 us:=by
 have hle:H.le (jW H w.heap.size us):=fun a v e=>by have:=c.ag.lt e;unfold jW;rw [aF (by rintro ⟨h1,_⟩;omega)];exact e
 have c0:Core ⟨H,w,[]⟩ (jW H w.heap.size us) [] [] (w.alloc (.cells vs.toArray T)):=by refine ⟨⟨fun a v e=>?_,(c.ag.alloc _).gg.step hle rfl⟩,hle,fun a v e=>?_,fun b hb _=>?_,?_,by simp,by simp,by simp [K4,eQ],by simp [K4,eQ],⟨rfl,rfl,rfl,Φ _⟩⟩;unfold jW at e;split at e;rename_i hb;obtain ⟨ab,ao,as_⟩:=a;simp only at hb e;obtain ⟨rfl,rfl⟩:=hb;have:=hp _ _ e;show (match (w.alloc (.cells vs.toArray T)).heap[w.heap.size]? with|some (.cells c _ _)=>if (none:Option Nat).isSome then none else c[ao]?|_=>none)=some v;rw [ld,aQ rfl];simpa using this;exact Mx _ (c.ag a v e);unfold jW at e;split at e;rename_i hb;exact .inr (.inl (by rw [hb.1];exact Φ _));exact .inl e;rw [ld,aF (by exact Nat.ne_of_lt hb)];rw [FF];exact CU _
 refine ⟨hle,by simpa using Core.call (h1:=[]) (k1:=[]) (h2:=h) (k2:=k) c c0,fun j u e=>?_⟩;simp [jW,e]
section
variable {P:aJ}{C:Ctx}{N:Nat}{ops rest:List bG}{o:bG}{s:S}{Q:dH→S→Prop}{tab:List (Option TI)}
def Hl {w:aL}{T:aD}{v:ω}:(newVar T v).run P w=.ok (⟨w.heap.size,0,none⟩:Addr) (w.alloc (.cells v.cells T)):=rfl
def sr:ω→D
 | .slice none 0 0=>.lst 1 [] .full
 | x=>.v x
def BM (H:Hp)(z:ω):RepC H (sr z) [z]∧(sr z).flat=true:=by
 unfold sr;split;exact ⟨by simp only [RepC,eA];exact ⟨_,rfl,by trivial,.inl ⟨by trivial,none,0,rfl,fun _=>rfl⟩⟩,rfl⟩;exact ⟨by simp [RepC],rfl⟩
def r4 {i:Nat}{T:aD}{d:TI}(ht:bO P tab)(ho:o.op=.alloc T)(hw:bC ops s.t o=some true)(hd:o.dst=some i)(hi:aZ i N=true)(hT:ti tab T=some d)(hz:d.zero.all one=true)
  (h:∀ b,a1 P C N ops rest ⟨(i,.ptr b 0)::s.t,s.h++[(b,.cells (d.zero.map sr) T)],s.k⟩ Q):a1 P C N ops (o::rest) s Q:=by
 refine ko hw hd hi fun H a w c k=>?_;obtain ⟨z,h1,h2⟩:=wZ (w:=w) (b4 ht hT);have hr:Reps H (d.zero.map sr) z.cells.toList:=by
  rw [h2];rw [bY] at hz;revert hz;generalize d.zero=l;intro hz;induction l with
  | nil=>simp [Reps]
  |
   cons u l ih=>
   simp only [a7,Reps];refine ⟨u,l,rfl,⟨(BM H u).1,hz u (by simp),(BM H u).2⟩,ih (fun x hx=>hz x (by simp [hx]))⟩
 refine ⟨.pointer (some ⟨w.heap.size,0,none⟩),_,H,.ptr w.heap.size 0,_,s.k,?_,Hp.le_refl H,c.alloc T hr,j6 (by simp [RepC]) rfl rfl,h w.heap.size⟩;unfold bL;rw [ho];refine iC ?_;unfold Instr.alloc;rw [KL h1];simp only [];rw [KL Hl];simp;first|done|rfl
end
end
section
open Go
def iv:D→Bool
 | .any=>false
 | .tup _=>false
 | .v x=>one x
 | _=>true
def FE {H:Hp}{d:D}{v:ω}(hs:iv d=true)(h:Rep H d v):Reps H (eK d) v.cells.toList:=by
 cases d with
 | any=>cases hs
 | tup l=>cases hs
 | agg l=>obtain ⟨us,rfl,hr⟩:=Ak h;simpa [eK,cT] using hr
 |
  v x=>
  have:=eW h;subst this;have h1:one v=true:=hs;rw [Ar h1];simp only [eK,Reps];exact ⟨v,[],rfl,⟨by simp [RepC],h1,rfl⟩,rfl⟩
 |
  lst k xs c=>
  obtain ⟨h1,h2⟩:=h;have a:one v=true:=by cases v<;>simp_all [D.shape,RepC,cT,one]
  rw [Ar a] at h1 ⊢;simp only [eK,Reps];exact ⟨v,[],rfl,⟨h1,a,rfl⟩,rfl⟩
 |
  el d=>
  obtain ⟨h1,h2⟩:=h;have a:one v=true:=by cases v<;>simp_all [D.shape,RepC,cT,one]
  rw [Ar a] at h1 ⊢;simp only [eK,Reps];exact ⟨v,[],rfl,⟨h1,a,rfl⟩,rfl⟩
 |
  slf b=>
  obtain ⟨h1,h2⟩:=h;have a:one v=true:=by cases v<;>simp_all [D.shape,RepC,cT,one]
  rw [Ar a] at h1 ⊢;simp only [eK,Reps];exact ⟨v,[],rfl,⟨h1,a,rfl⟩,rfl⟩
 |
  ptr b o=>
  obtain ⟨h1,h2⟩:=h;have a:one v=true:=by cases v<;>simp_all [D.shape,RepC,cT,one]
  rw [Ar a] at h1 ⊢;simp only [eK,Reps];exact ⟨v,[],rfl,⟨h1,a,rfl⟩,rfl⟩
 |
  fn f as_ cs=>
  obtain ⟨h1,h2⟩:=h;have a:one v=true:=by cases v<;>simp_all [D.shape,RepC,cT,one]
  rw [Ar a] at h1 ⊢;simp only [eK,Reps];exact ⟨v,[],rfl,⟨h1,a,rfl⟩,rfl⟩
def mF (ds:List D)(off:Nat)(es:List D):List D:=ds.take off++(es++ds.drop (off+es.length))
def heap_set {w:aL}{b o k:Nat}{v:ω}:(w.setCell ⟨b,o,none⟩ v).heap[k]? = if b=k then (w.heap[k]?).map (fun|.cells c e f=>.cells (c.setIfInBounds o v) e f|x=>x) else w.heap[k]?:=by
 simp only [World.setCell,Array.getElem?_modify];by_cases h:b=k
 ·rw [aQ h,aQ h];cases w.heap[k]? with
  | none=>rfl
  | some x=>cases x<;>rfl
 rw [aF h,aF h]
def IK {w:aL}{a:Addr}{v:ω}:(w.setCell a v).heap.size=w.heap.size:=by simp [World.setCell]
def Ao {P:aJ}{b off:Nat}{T:aD}:∀ (vs:List ω) (i:Nat) (w:aL) (us:List ω),w.heap[b]? = some (.cells us.toArray T (0,0))→off+i+vs.length≤us.length→(∀ v∈vs,one v=true) →
  ∃ w',(storeCells ⟨b,off,none⟩ vs i).run P w=.ok () w'∧Env w w'∧w'.heap.size=w.heap.size∧(∀ k,k≠b→w'.heap[k]? = w.heap[k]?)∧w'.heap[b]? = some (.cells (us.take (off+i)++(vs++us.drop (off+i+vs.length))).toArray T (0,0))
 | [],i,w,us,h,hl,_=>⟨w,by simp [storeCells]<;>rfl,Env.refl w,rfl,fun _ _=>rfl,by simpa using h⟩
 |
  v::vs,i,w,us,h,hl,h1=>by
  simp only [Ψ] at hl;have hlt:off+i<us.length:=by omega
  have hcell:w.cell? ((⟨b,off,none⟩:Addr).add i)=some us[off+i]:=by rw [oJ];simp [aO,h,hlt]
  have hfr:w.frozen? ((⟨b,off,none⟩:Addr).add i)=false:=by rw [oJ];simp [jp,h]
  have hst:(store ((⟨b,off,none⟩:Addr).add i) v).run P w=.ok () (w.setCell ⟨b,off+i,none⟩ v):=by
   have hv:=h1 v (by simp);cases v<;>first|(simp [one] at hv;done)|(simp only [store,gX,hcell,hfr];rw [oJ];simp)
  have hb:(w.setCell ⟨b,off+i,none⟩ v).heap[b]? = some (.cells (us.set (off+i) v).toArray T (0,0)):=by
   rw [heap_set,aQ rfl,h];simp
  obtain ⟨w',h2,henv,a,c,d⟩:=Ao (P:=P) (b:=b) (off:=off) (T:=T) vs (i+1) (w.setCell ⟨b,off+i,none⟩ v) (us.set (off+i) v) hb (by simp;omega) (fun x hx=>h1 x (by simp [hx]));refine ⟨w',?_,Env.trans (b:=w.setCell ⟨b,off+i,none⟩ v) ⟨rfl,rfl,rfl,Φ _⟩ henv,by rw [a,IK],fun k hk=>by rw [c k hk,heap_set,aF (Ne.symm hk)],?_⟩
  ·unfold storeCells;rw [KL hst];exact h2
  rw [d];congr 2;rw [show off+(i+1)=off+i+1 by omega];have e:(us.set (off+i) v).take (off+i+1)=us.take (off+i)++[v]:=by
   rw [List.take_succ_eq_append_getElem (by simpa using hlt)];simp [List.take_set];exact List.set_eq_of_length_le (List.length_take_le _ _)
  have f:(us.set (off+i) v).drop (off+i+1+vs.length)=us.drop (off+i+(v::vs).length):=by
   rw [List.drop_set,aQ (by omega)];congr 1;simp;omega
  rw [e,f];simp
def IJ {H:Hp}{ds es:List D}{us vs:List ω}(h:Reps H ds us)(k:Reps H es vs)(off:Nat):Reps H (mF ds off es) (us.take off++(vs++us.drop (off+vs.length))):=by
 unfold mF;have:=wh k;exact Fx (Da _ h) (Fx k (by rw [this];exact Db _ h))
def KO {α:Type}:∀ {l:List α} {j:Nat} {x:α},l[j]? = some x→l.Perm (x::l.eraseIdx j)
 | [],j,x,h=>by simp at h
 | y::l,0,x,h=>by simp at h;subst h;exact aM _
 |
  y::l,j+1,x,h=>by
  simp at h;simp only [List.eraseIdx_cons_succ];exact ((KO h).cons y).trans (List.Perm.swap x y _)
def Core.write {C:Ctx}{H:Hp}{h:List (Nat×Blk)}{k:List (Nat×ω)}{w w':aL}(c:Core C H h k w){j b:Nat}{ds ds':List D}{us':List ω}{T:aD}(hj:h[j]? = some (b,.cells ds T))
  (henv:Env w w') (hsz:w'.heap.size=w.heap.size) (hsame:∀ i,i≠b→w'.heap[i]? = w.heap[i]?) (hb:w'.heap[b]? = some (.cells us'.toArray T (0,0))) (hr:Reps H ds' us'):Core C H (h.set j (b,.cells ds' T)) k w':=by
 have hlt:j<h.length:=(aP.1 hj).1;have g:h.Perm ([(b,.cells ds T)]++h.eraseIdx j):=KO hj;have c1:=c.perm g (aM k);obtain ⟨us,h1,h2,d⟩:=c.blks _ (a4 hj);have c2:Core ⟨H,w,K4 [(b,Blk.cells ds T)] []⟩ H [(b,.cells ds' T)] [] w':=by
  refine ⟨⟨fun a v e=>?_,c.ag.gg.own d hsame⟩,Hp.le_refl H,fun _ _ x=>.inl x,fun i _ l=>hsame i (by simpa [K4,eQ] using l),by show w.heap.size≤w'.heap.size;omega,?_,by simp,by simp [K4,eQ],?_,?_⟩;have hne:a.block≠b:=fun f=>by
   obtain ⟨ab,ao,as_⟩:=a;simp only at f;subst f;have hc:=c.ag _ _ e;cases as_ with
   | none=>rw [d] at e;cases e
   | some s=>simp [aO,h1] at hc
  have:=c.ag a v e;simp only [aO] at this ⊢;rw [hsame _ hne];exact this;intro p hp;simp only [aT] at hp;subst hp;exact ⟨us',hb,hr,d⟩;intro x hx;exact .inl (by simpa [K4,eQ] using hx);exact henv
 have c3:=Core.call (h1:=[(b,.cells ds T)]) (k1:=[]) (h2:=h.eraseIdx j) (k2:=k) (by simpa using c1) c2;refine c3.perm ?_ (by simp);have p2:(h.set j (b,Blk.cells ds' T))[j]? = some (b,Blk.cells ds' T):=by rw [List.getElem?_set_self hlt]
 have p3:=KO p2;rw [List.eraseIdx_set_eq] at p3;exact p3.symm
section
variable {P:aJ}{C:Ctx}{N:Nat}{ops rest:List bG}{o:bG}{s:S}{Q:dH→S→Prop}{tab:List (Option TI)}
def r3 {b off:Nat}{T T':aD}{x y:aH}{ds:List D}{e:TI}{d:D}(j:Nat)(ht:bO P tab)(ho:o.op=.store T x y)(hw:bC ops s.t o=some true)(hd:o.dst=none)
  (hx:cS s.t x=some (.ptr b off)) (hb:s.h[j]? = some (b,.cells ds T')) (hT:ti tab T=some e) (hy:cS s.t y=some d) (hs:iv d=true) (hsz:bM (eK d).length e.size=true) (hle:cK (off+e.size) ds.length=true)
  (h:a1 P C N ops rest ⟨s.t,s.h.set j (b,.cells (mF ds off (eK d)) T'),s.k⟩ Q):a1 P C N ops (o::rest) s Q:=
 IL hw hd fun H a w c k=>by
  obtain ⟨us,h1,h2,n⟩:=c.blks _ (a4 hb);have hv:=FE hs (eh k hy);have hlen:=wh hv;have p:=wh h2;have q:=aX hsz;have r:=bS hle;obtain ⟨w',f,henv,g,l,m⟩:=Ao (P:=P) (b:=b) (off:=off) (a.eval y).cells.toList 0 w us h1 (by omega) (BV hv);refine ⟨w',H,_,s.k,?_,Hp.le_refl H,c.write hb henv g l m (by simpa using IJ h2 hv off),h⟩;unfold bL;rw [ho];have hrun:(iq T (a.eval x) (a.eval y)).run P w=.ok () w':=by
   rw [s8 (eh k hx)];unfold iq;rw [KL (a:=(⟨b,off,none⟩:Addr)) rfl];unfold storeVar;rw [KL (lD (b4 ht hT)),aF (by simp only [b9] at hlen;omega)];exact f
  show ((iq T (a.eval x) (a.eval y)) >>= fun _=>pure Next.skip).run P w=_
  rw [KL hrun];rfl
def x2 {i:Nat}{T:aD}{x:aH}{d:D}(ho:o.op=.box T x)(hw:bC ops s.t o=some true)(hd:o.dst=some i)(hi:aZ i N=true)(hx:cS s.t x=some d)(hs:iv d=true)
  (h:∀ b,a1 P C N ops rest ⟨(i,.ptr b 0)::s.t,s.h++[(b,.cells (eK d) T)],s.k⟩ Q):a1 P C N ops (o::rest) s Q:=by
 refine ko hw hd hi fun H a w c k=>?_;have hv:=FE hs (eh k hx);refine ⟨.pointer (some ⟨w.heap.size,0,none⟩),_,H,.ptr w.heap.size 0,_,s.k,?_,Hp.le_refl H,c.alloc T hv,j6 (by simp [RepC]) rfl rfl,h w.heap.size⟩;unfold bL;rw [ho];refine iC ?_;unfold Instr.box;rw [KL Hl];simp;first|done|rfl
end
def sQ (P : aJ)(f : FuncId) : Prop := ∃ fn, P.funcs[f]? = some fn ∧ (fn.name == "runtime.NumGoroutine") = false ∧ fn.body.isNone = false
def CallsD (P:aJ)(f:FuncId)(ds:List D)(h:List (Nat×Blk))(k:List (Nat×ω))(R:D→List (Nat×Blk)→List (Nat×ω)→Prop):Prop:=
 sQ P f∧∀ H w vs,RepsV H ds vs→Ag H w→(∀ p∈h,BlkOK H w p)→(∀ p∈k,TokOK H w p)→(K4 h k).Nodup →
  Calls P f vs.toArray w fun e w'=>∃ v H' d h' k',e=.returned v∧Rep H' d v∧Core ⟨H,w,K4 h k⟩ H' h' k' w'∧R d h' k'
def CallsD.mono {P:aJ}{f:FuncId}{ds:List D}{h:List (Nat×Blk)}{k:List (Nat×ω)}{R R':D→List (Nat×Blk)→List (Nat×ω)→Prop}(c:CallsD P f ds h k R)(hr:∀ d h k,R d h k→R' d h k):CallsD P f ds h k R':=
 ⟨c.1,fun H w vs h1 h2 g j l=>(c.2 H w vs h1 h2 g j l).mono fun _ _ ⟨v,H',d,h',k',e,a,b,r⟩=>⟨v,H',d,h',k',e,a,b,hr _ _ _ r⟩⟩
def Wk (d d':D):Prop:=∀ H y,Rep H d y→Rep H d' y
def WkL (ds ds':List D):Prop:=∀ H vs,RepsV H ds vs→RepsV H ds' vs
def Wk.refl (d:D):Wk d d:=fun _ _ h=>h
def WkL.refl (ds:List D):WkL ds ds:=fun _ _ h=>h
def WkL.cons {d d':D}{ds ds':List D}(h:Wk d d')(k:WkL ds ds'):WkL (d::ds) (d'::ds'):=fun H vs x=>by
 simp only [RepsV] at x ⊢;obtain ⟨u,us,rfl,h1,h2⟩:=x;exact ⟨u,us,rfl,h H u h1,k H us h2⟩
def Wk.any (d:D):Wk d .any:=fun _ y _=>⟨by simp [RepC],rfl⟩
def Wk.no {k:Nat}{xs:List D}{c:Cap}:Wk (.lst k xs c) (.lst k xs .no):=fun H y h=>by
 obtain ⟨h1,h2⟩:=h;refine ⟨?_,by cases y<;>simp_all [D.shape]⟩;simp only [RepC] at h1 ⊢;obtain ⟨z,e,_,a⟩:=h1;exact ⟨z,e,trivial,a⟩
def Wk.nil {k k':Nat}:Wk (.lst k [] .full) (.lst k' [] .full):=fun H y h=>by
 obtain ⟨h1,h2⟩:=h;refine ⟨?_,by cases y<;>simp_all [D.shape]⟩;simp only [RepC,Els] at h1 ⊢;exact h1
def Mz {P:aJ}{f:FuncId}{w:aL}{vs:Array ω}(h:sQ P f):(callFunc f vs).run P w=.ok (.enter f vs) w:=by
 obtain ⟨fn,h1,h2,b⟩:=h;unfold callFunc Go.program;rw [KL (a:=P) rfl,h1];simp only [h2,b,cP,bE];rfl
section
variable {P:aJ}{C:Ctx}{N:Nat}{ops rest:List bG}{o:bG}{s:S}{Q:dH→S→Prop}{tab:List (Option TI)}
def GM {f:FuncId}{args:Array aH}{ts:Array aD}{a:Act}{w:aL}(ho:o.op=.call ⟨.value (.func f),args,ts⟩)(h:sQ P f):(bL a.eval o).run P w=.ok (.enter f (args.map a.eval)) w:=by
 unfold bL;rw [ho];simp only [];have:(resolve a.eval ⟨.value (.func f),args,ts⟩ o.type).run P w=.ok ⟨.fn (.func f) #[],args.map a.eval⟩ w:=by simp [resolve,Deferred.ofValue,RH];first|done|rfl
 rw [KL this];show (callFunc f (args.map a.eval++#[])).run P w=_;rw [Array.append_empty];exact Mz h
def nH {f:FuncId}{args:List aH}{ts:Array aD}{i:Nat}{ds ds':List D}{h1 h2:List (Nat×Blk)}{k1 k2:List (Nat×ω)}{R:D→List (Nat×Blk)→List (Nat×ω)→Prop}
  (hc:CallsD P f ds' h1 k1 R) (ho:o.op=.call ⟨.value (.func f),args.toArray,ts⟩) (hw:bC ops s.t o=some true) (hd:o.dst=some i) (hi:aZ i N=true) (ha:kp args (cS s.t)=some ds) (hwk:WkL ds ds')
  (hh:s.h.Perm (h1++h2)) (hk:s.k.Perm (k1++k2)) (h:∀ d h' k',R d h' k'→a1 P C N ops rest ⟨(i,d)::s.t,h'++h2,k'++k2⟩ Q):a1 P C N ops (o::rest) s Q:=by
 rintro a w ⟨H,c,k,hN,hdf⟩;unfold wpList;rw [sZ k hw,aQ rfl];refine .inl ?_;unfold ku;rw [GM ho hc.1,Oper.upon_enter];have c0:=c.perm hh hk;have nd:=(y0 h1 h2 k1 k2).nodup_iff.1 c0.nd;rw [zh] at nd;have hv:=hwk H _ (An k ha);have:=hc.2 H w _ hv c.ag (fun p hp=>c0.blks p (cF _ hp)) (fun p hp=>c0.toks p (cF _ hp)) nd.1;rw [List.map_toArray];refine this.mono ?_;rintro e w' ⟨v,H',d,h',k',rfl,hr,hcore,hR⟩;simp only [];rw [hd];refine h d h' k' hR _ _ ⟨H',Core.call c0 hcore,TOK.put (k.mono hcore.le) (by rw [hN];simpa using hi) hr,?_,hdf⟩;simp only [io,fA];exact hN
def i6 (next:S→Prop)(Q:dH→S→Prop):dH→S→Prop
 | .normal,s=>next s
 | x,s=>Q x s
def BL (id:Nat)(Q:dH→S→Prop):dH→S→Prop
 | .exit j,s=>bif bM j id then Q .normal s else Q (.exit j) s
 | x,s=>Q x s
def Kt {id:Nat}{ops:List bG}(h:a1 P C N ops ops s Q):h8 P C N (.region id ops.toArray false) s Q:=fun a w r=>wp_region_lit (h a w r)
def Kj {x y:Code}(h:h8 P C N x s (i6 (fun s'=>h8 P C N y s' Q) Q)):h8 P C N (.seq x y) s Q:=fun a w r=>by
 refine wp_seq (wp_mono (h a w r) ?_);rintro e a' w' ⟨s',r',q⟩;cases e<;>first|exact q a' w' r'|exact ⟨s',r',q⟩
def Kp (h:Q .normal s):h8 P C N .skip s Q:=fun _ _ r=>wp_skip ⟨s,r,h⟩
def Ko (h:Q .ret s):h8 P C N .ret s Q:=fun _ _ r=>wp_ret ⟨s,r,h⟩
def K3 {id:Nat}(h:Q (.exit id) s):h8 P C N (.exit id) s Q:=fun _ _ r=>wp_exit ⟨s,r,h⟩
def B4 {c:aH}{x y:Code}{b:Bool}(hc:cS s.t c=some (.v (.bool b)))(ht:b=true→h8 P C N x s Q)(hf:b=false→h8 P C N y s Q):h8 P C N (.cond c x y) s Q:=fun a w r=>by
 have d:=r;obtain ⟨H,_,k,_⟩:=d;exact wp_cond_split (t:=b) (eW (eh k hc)) (fun e=>ht e a w r) (fun e=>hf e a w r)
def II {c:aH}{x y:Code}(hc:cS s.t c=some (.v (.bool true)))(h:h8 P C N x s Q):h8 P C N (.cond c x y) s Q:=B4 hc (fun _=>h) (fun e=>by cases e)
def FV {c:aH}{x y:Code}(hc:cS s.t c=some (.v (.bool false)))(h:h8 P C N y s Q):h8 P C N (.cond c x y) s Q:=B4 hc (fun e=>by cases e) (fun _=>h)
def KD {id:Nat}{c:Code}(h:h8 P C N c s (BL id Q)):h8 P C N (.block id c) s Q:=fun a w r=>by
 refine wp_block (wp_mono (h a w r) ?_);rintro e a' w' ⟨s',r',q⟩;cases e with
 |
  exit j=>
  simp only [BL] at q;simp only [Exit.inBlock];cases hb:bM j id with
  | true=>rw [hb] at q;rw [aQ (aX hb)];exact ⟨s',r',q⟩
  | false=>rw [hb] at q;rw [aF (fw hb)];exact ⟨s',r',q⟩
 | _=>exact ⟨s',r',q⟩
def IH {c:Code}{Q':dH→S→Prop}(h:h8 P C N c s Q)(hq:∀ x s,Q x s→Q' x s):h8 P C N c s Q':=fun a w r=>wp_mono (h a w r) fun _ _ _ ⟨s',r',q⟩=>⟨s',r',hq _ _ q⟩
def Gt (P:aJ)(C:Ctx)(N:Nat)(c:Code)(Q:dH→S→Prop)(n:Nat)(s:S):Prop:=∀ a w,Gp C N s a w→Code.rounds P c (QD C N Q) n a w
def tx {c:Code}(n:Nat)(h:Gt P C N c Q n s):h8 P C N (.loop c) s Q:=fun a w r=>wp_loop_rounds n (h a w r)
def Po {c:Code}{n:Nat}(h:h8 P C N c s (i6 (Gt P C N c Q n) Q)):Gt P C N c Q (n+1) s:=fun a w r=>by
 rw [rounds_succ];refine wp_mono (h a w r) ?_;rintro e a' w' ⟨s',r',q⟩;cases e<;>first|exact q a' w' r'|exact ⟨s',r',q⟩
end
end
section
open Go
def pZ:Nat→List D→List (Nat×D)
 | _,[]=>[]
 | i,d::ds=>(i,d)::pZ (i+1) ds
def Ji:∀ (ds:List D) (i j:Nat) (d:D),dL (pZ i ds) j=some d→∃ n,j=i+n∧ds[n]? = some d
 | [],i,j,d,h=>by simp [pZ,dL] at h
 |
  d0::ds,i,j,d,h=>by
  simp only [pZ,dL] at h;cases hb:bM i j with
  |
   true=>
   rw [hb] at h;simp at h;exact ⟨0,(aX hb).symm,by simp [h]⟩
  |
   false=>
   rw [hb] at h;simp at h;obtain ⟨n,h1,h2⟩:=Ji ds (i+1) j d h;exact ⟨n+1,by omega,by simpa using h2⟩
def HO {H:Hp}:∀ {l:List D} {us:List ω},RepsV H l us→us.length=l.length
 | [],us,h=>by simp only [RepsV] at h;subst h;rfl
 |
  d::l,us,h=>by
  simp only [RepsV] at h;obtain ⟨u,us',rfl,_,h2⟩:=h;simp [HO h2]
def BJ (tab:List (Option TI))(s:S):dM→D→Prop
 | .tmp t,d=>dL s.t t=some d
 | .cell a T,d=>∃ (j b off:Nat) (ds:List D) (T':aD) (i:TI),dL s.t a=some (.ptr b off)∧s.h[j]? = some (b,Blk.cells ds T')∧ti tab T=some i∧eZ i ds off=some d
def jd (tab:List (Option TI))(s:S):List dM→List D→Prop
 | [],ds=>ds=[]
 | r::rs,ds=>∃ d ds',ds=d::ds'∧BJ tab s r d∧jd tab s rs ds'
def jC:List D→D
 | [d]=>d
 | l=>.tup l
def xO (tab:List (Option TI))(rs:List dM)(R:D→List (Nat×Blk)→List (Nat×ω)→Prop):dH→S→Prop:=fun x s=>
 (x=.ret∨x=.normal)∧∃ ds hh kk,jd tab s rs ds∧hh.Sublist s.h∧kk.Sublist s.k∧R (jC ds) hh kk
def uo (tmps:Array ω):dM→Sem ω
 | .tmp t=>pure (tmps.getD t undef)
 | .cell a t=>do loadVar t (← asAddr (tmps.getD a undef))
def LX {H:Hp}{t:List (Nat×D)}{a:Act}(k:TOK H t a){i:Nat}{d:D}(h:dL t i=some d):Rep H d (a.tmps.getD i undef):=by
 obtain ⟨v,h1,h2⟩:=k i d h;rw [Array.getD_eq_getD_getElem?,h1];exact h2
def pf {P:aJ}{tab:List (Option TI)}(ht:bO P tab){C:Ctx}{H:Hp}{s:S}{a:Act}{w:aL}(c:Core C H s.h s.k w)(k:TOK H s.t a){r:dM}{d:D}(h:BJ tab s r d) :
  ∃ v,(uo a.tmps r).run P w=.ok v w∧Rep H d v:=by
 cases r with
 | tmp t=>simp only [BJ] at h;exact ⟨_,rfl,LX k h⟩
 |
  cell x T=>
  simp only [BJ] at h;obtain ⟨j,b,off,ds,T',i,h1,h2,f,g⟩:=h;obtain ⟨us,l,m,q⟩:=c.blks _ (a4 h2);obtain ⟨v,e,p⟩:=Ds (P:=P) (T:=T) (n:=off) (b4 ht f) (Fu l) m g;refine ⟨v,?_,p⟩;have:=s8 (LX k h1);simp only [uo,this];rw [KL (a:=(⟨b,off,none⟩:Addr)) rfl];unfold Instr.loadAt at e;rw [KL (a:=(⟨b,0+off,none⟩:Addr)) rfl,cH] at e;exact e
def nh {P:aJ}{tab:List (Option TI)}(ht:bO P tab){C:Ctx}{H:Hp}{s:S}{a:Act}{w:aL}(c:Core C H s.h s.k w)(k:TOK H s.t a):∀ {rs:List dM} {ds:List D},jd tab s rs ds →
  ∃ vs,(rs.mapM (uo a.tmps)).run P w=.ok vs w∧RepsV H ds vs
 | [],ds,h=>by simp only [jd] at h;subst h;exact ⟨[],rfl,by simp [RepsV]⟩
 |
  r::rs,ds,h=>by
  simp only [jd] at h;obtain ⟨d,ds',rfl,h1,h2⟩:=h;obtain ⟨v,b,e⟩:=pf ht c k h1;obtain ⟨vs,f,g⟩:=nh ht c k h2;refine ⟨v::vs,?_,?_⟩
  ·rw [List.mapM_cons,KL b,KL f];rfl
  simp only [RepsV];exact ⟨v,vs,rfl,e,g⟩
def LW {H:Hp}{l:List D}{vs:List ω}(h:RepC H (.tup l) [.tuple vs.toArray]):Rep H (.tup l) (.tuple vs.toArray):=⟨h,rfl⟩
def O1 {P:aJ}{tab:List (Option TI)}(ht:bO P tab){C:Ctx}{H:Hp}{s:S}{a:Act}{w:aL}(c:Core C H s.h s.k w)(k:TOK H s.t a){fn:Func}{ds:List D}(h:jd tab s fn.results.toList ds) :
  ∃ v,(results fn a.tmps).run P w=.ok v w∧Rep H (jC ds) v:=by
 obtain ⟨vs,h1,h2⟩:=nh ht c k h;have b:(fn.results.mapM (uo a.tmps)).run P w=.ok vs.toArray w:=by rw [Array.mapM_eq_mapM_toList];rw [map_eq_pure_bind,KL h1];rfl
 have e:results fn a.tmps=(do let vs ← fn.results.mapM (uo a.tmps);pure (if h:vs.size=1 then vs[0] else .tuple vs)):=rfl;rw [e,KL b];refine ⟨_,rfl,?_⟩;match ds,h2 with
 | [],h2=>simp only [RepsV] at h2;subst h2;exact LW (vs:=[]) (by simp [RepC,RepsV])
 |
  [d],h2=>
  simp only [RepsV] at h2;obtain ⟨u,us',rfl,f,rfl⟩:=h2;exact f
 |
  d::d'::ds,h2=>
  have hl:=HO h2;rw [ia (by simp [hl])];exact LW (by simp only [RepC];exact ⟨vs,rfl,h2⟩)
def enter {P:aJ}{tab:List (Option TI)}(ht:bO P tab){f:FuncId}{fn:Func}{c:Code}{ds:List D}{h:List (Nat×Blk)}{k:List (Nat×ω)}{R:D→List (Nat×Blk)→List (Nat×ω)→Prop}{rs:List dM}
  (hf : P.funcs[f]? = some fn) (hb : fn.body = some c) (hn : (fn.name == "runtime.NumGoroutine") = false) {N : Nat} (hN : fn.ntmps = N) (hl : cK ds.length N = true) (hrs : fn.results.toList = rs)
  (hw:∀ C,h8 P C N c ⟨pZ 0 ds,h,k⟩ (xO tab rs R)):CallsD P f ds h k R:=by
 subst hN;subst hrs;refine ⟨⟨fn,hf,hn,by simp [hb]⟩,fun H w vs h1 h2 j l m=>?_⟩;have hlen:=HO h1;have hle:=bS hl;refine calls_of_wp hf hb (wp_mono (hw ⟨H,w,K4 h k⟩ _ _ ⟨H,?_,?_,?_,rfl⟩) ?_);exact ⟨h2,Hp.le_refl H,fun _ _ x=>.inl x,fun _ _ _=>rfl,Φ _,j,l,m,fun b hb=>.inl hb,Env.refl w⟩;intro i d e;obtain ⟨n,rfl,hn⟩:=Ji ds 0 i d e;obtain ⟨u,a,g⟩:=Hd h1 hn;refine ⟨u,?_,g⟩;have hlt:n<vs.length:=(aP.1 a).1;simp only [cH];rw [Array.getElem?_append_left (by simpa using hlt)];simpa using a;simp;omega;rintro e a' w' ⟨s',⟨H',c',k',hN,hdf⟩,hx,ds',hh,kk,hr,p,q,hR⟩;obtain ⟨v,a,g⟩:=O1 ht c' k' hr;have:a'.defers=[]∧∃ v,(results fn a'.tmps).run P w'=.ok v w'∧∃ v',∃ H' d h' k',Ending.returned v=.returned v'∧Rep H' d v'∧Core ⟨H,w,K4 h k⟩ H' h' k' w'∧R d h' k':=
  ⟨hdf,v,a,v,H',jC ds',hh,kk,rfl,g,c'.drop p q,hR⟩
 rcases hx with rfl|rfl<;>exact this
end
section
open Go
section
variable {P:aJ}{C:Ctx}{N:Nat}{ops rest:List bG}{o:bG}{t:List (Nat × D)}{h:List (Nat × Blk)}{k:List (Nat × ω)}{Q:dH→S→Prop}{tab:List (Option TI)}
def H4 {i:Nat}{d:D}(ht:bO P tab)(hw:bC ops t o=some true)(hd:o.dst=some i)(hi:aZ i N=true)(e:nW tab t o.op=some d)
 (g:a1 P C N ops rest ⟨(i,d)::t,h,k⟩ Q):a1 P C N ops (o::rest) ⟨t,h,k⟩ Q:=uM (s:=⟨t,h,k⟩) ht hw hd hi e g
def A6 {i:Nat}(hw:bC ops t o=some false)(hd:o.dst=some i)(hi:aZ i N=true)(g:a1 P C N ops rest ⟨(i,.v (.tuple #[]))::t,h,k⟩ Q):a1 P C N ops (o::rest) ⟨t,h,k⟩ Q:=uL (s:=⟨t,h,k⟩) hw hd hi g
def KY {i b off:Nat}{T T':aD}{x:aH}{ds:List D}{a:TI}{d:D}(j:Nat)(ht:bO P tab)(ho:o.op=.load T x)(hw:bC ops t o=some true)(hd:o.dst=some i)(hi:aZ i N=true)
 (hx:cS t x=some (.ptr b off)) (hb:h[j]? = some (b,.cells ds T')) (hT:ti tab T=some a) (e:eZ a ds off=some d)
 (g:a1 P C N ops rest ⟨(i,d)::t,h,k⟩ Q):a1 P C N ops (o::rest) ⟨t,h,k⟩ Q:=uN (s:=⟨t,h,k⟩) j ht ho hw hd hi hx hb hT e g
def Az {i:Nat}{T:aD}{x:aH}{d0 d:D}{a:TI}(ht:bO P tab)(ho:o.op=.load T x)(hw:bC ops t o=some true)(hd:o.dst=some i)(hi:aZ i N=true)
 (hx:cS t x=some (.el d0)) (hT:ti tab T=some a) (e:eZ a (eK d0) 0=some d) (hne:(eK d0).isEmpty=false)
 (g:a1 P C N ops rest ⟨(i,d)::t,h,k⟩ Q):a1 P C N ops (o::rest) ⟨t,h,k⟩ Q:=py (s:=⟨t,h,k⟩) ht ho hw hd hi hx hT e (by intro e;rw [e] at hne;cases hne) g
def K2 {i:Nat}{T:aD}{a:TI}{zs:List D}(ht:bO P tab)(ho:o.op=.alloc T)(hw:bC ops t o=some true)(hd:o.dst=some i)(hi:aZ i N=true)(hT:ti tab T=some a)(hz:a.zero.all one=true)(e:a.zero.map sr=zs)
 (g:∀ b,a1 P C N ops rest ⟨(i,.ptr b 0)::t,h++[(b,.cells zs T)],k⟩ Q):a1 P C N ops (o::rest) ⟨t,h,k⟩ Q:=r4 (s:=⟨t,h,k⟩) ht ho hw hd hi hT hz (by rw [e];exact g)
def E4 {b off:Nat}{T T':aD}{x y:aH}{ds ds':List D}{a:TI}{d:D}{h':List (Nat×Blk)}(j:Nat)(ht:bO P tab)(ho:o.op=.store T x y)(hw:bC ops t o=some true)(hd:o.dst=none)
  (hx:cS t x=some (.ptr b off)) (hb:h[j]? = some (b,.cells ds T')) (hT:ti tab T=some a) (hy:cS t y=some d) (hs:iv d=true) (hsz:bM (eK d).length a.size=true) (hle:cK (off+a.size) ds.length=true)
  (e:mF ds off (eK d)=ds') (e':h.set j (b,.cells ds' T')=h') (g:a1 P C N ops rest ⟨t,h',k⟩ Q):a1 P C N ops (o::rest) ⟨t,h,k⟩ Q:=
 r3 (s:=⟨t,h,k⟩) j ht ho hw hd hx hb hT hy hs hsz hle (by rw [e,e'];exact g)
def zQ {i:Nat}{T:aD}{x:aH}{d:D}{ds:List D}(ho:o.op=.box T x)(hw:bC ops t o=some true)(hd:o.dst=some i)(hi:aZ i N=true)(hx:cS t x=some d)(hs:iv d=true)(e:eK d=ds)
 (g:∀ b,a1 P C N ops rest ⟨(i,.ptr b 0)::t,h++[(b,.cells ds T)],k⟩ Q):a1 P C N ops (o::rest) ⟨t,h,k⟩ Q:=x2 (s:=⟨t,h,k⟩) ho hw hd hi hx hs (by rw [e];exact g)
def Ba {f:FuncId}{args:List aH}{ts:Array aD}{i:Nat}{ds ds':List D}{R:D→List (Nat×Blk)→List (Nat×ω)→Prop}
  (hc:CallsD P f ds' [] [] R) (ho:o.op=.call ⟨.value (.func f),args.toArray,ts⟩) (hw:bC ops t o=some true) (hd:o.dst=some i) (hi:aZ i N=true) (ha:kp args (cS t)=some ds) (hwk:WkL ds ds')
  (g:∀ d h' k',R d h' k'→a1 P C N ops rest ⟨(i,d)::t,h'++h,k'++k⟩ Q):a1 P C N ops (o::rest) ⟨t,h,k⟩ Q:=
 nH (s:=⟨t,h,k⟩) hc ho hw hd hi ha hwk (aM _) (aM _) g
def KX {f:FuncId}{args:List aH}{ts:Array aD}{i:Nat}{ds ds':List D}{R:D→Prop}
  (hc:CallsD P f ds' [] [] (fun d h k=>R d∧h=[]∧k=[])) (ho:o.op=.call ⟨.value (.func f),args.toArray,ts⟩) (hw:bC ops t o=some true) (hd:o.dst=some i) (hi:aZ i N=true) (ha:kp args (cS t)=some ds) (hwk:WkL ds ds')
  (g:∀ d,R d→a1 P C N ops rest ⟨(i,d)::t,h,k⟩ Q):a1 P C N ops (o::rest) ⟨t,h,k⟩ Q:=
 Ba hc ho hw hd hi ha hwk fun d h' k' ⟨hR,a,b⟩=>by subst a;subst b;exact g d hR
def lH {c x y:aH}{d:D}(ho:o.op=.pick c x y)(hc:cS t c=some (.v (.bool true)))(hx:cS t x=some d):∀ H a w,TOK H t a→∃ v,(bL a.eval o).run P w=.ok (.value v) w∧Rep H d v:=
 fun H a w k=>⟨a.eval x,by unfold bL;rw [ho];simp only [eW (eh k hc)];rfl,eh k hx⟩
def Rq {c x y:aH}{d:D}(ho:o.op=.pick c x y)(hc:cS t c=some (.v (.bool false)))(hx:cS t y=some d):∀ H a w,TOK H t a→∃ v,(bL a.eval o).run P w=.ok (.value v) w∧Rep H d v:=
 fun H a w k=>⟨a.eval y,by unfold bL;rw [ho];simp only [eW (eh k hc)];rfl,eh k hx⟩
def K7 {i:Nat}{c x y:aH}{d:D}(ho:o.op=.pick c x y)(hw:bC ops t o=some true)(hd:o.dst=some i)(hi:aZ i N=true)(hc:cS t c=some (.v (.bool true)))(hx:cS t x=some d)
  (g:a1 P C N ops rest ⟨(i,d)::t,h,k⟩ Q):a1 P C N ops (o::rest) ⟨t,h,k⟩ Q:=
 mH (s:=⟨t,h,k⟩) hw hd hi (fun H a w k=>⟨a.eval x,by unfold bL;rw [ho];simp only [eW (eh k hc)];rfl,eh k hx⟩) g
def K1 {i:Nat}{c x y:aH}{d:D}(ho:o.op=.pick c x y)(hw:bC ops t o=some true)(hd:o.dst=some i)(hi:aZ i N=true)(hc:cS t c=some (.v (.bool false)))(hx:cS t y=some d)
  (g:a1 P C N ops rest ⟨(i,d)::t,h,k⟩ Q):a1 P C N ops (o::rest) ⟨t,h,k⟩ Q:=
 mH (s:=⟨t,h,k⟩) hw hd hi (fun H a w k=>⟨a.eval y,by unfold bL;rw [ho];simp only [eW (eh k hc)];rfl,eh k hx⟩) g
def gW {i:Nat}{b:Bool}(hx:dL t i=some (.v (.bool b)))(g1:b=true→a1 P C N ops rest ⟨(i,.v (.bool true))::t,h,k⟩ Q)(f:b=false→a1 P C N ops rest ⟨(i,.v (.bool false))::t,h,k⟩ Q):a1 P C N ops rest ⟨t,h,k⟩ Q:=by
 have key:∀ b',b=b'→a1 P C N ops rest ⟨(i,.v (.bool b'))::t,h,k⟩ Q→a1 P C N ops rest ⟨t,h,k⟩ Q:=by
  intro b' e g;subst e;refine px (s':=⟨(i,.v (.bool b))::t,h,k⟩) (fun H a w c k'=>⟨H,Hp.le_refl H,c,fun j d hj=>?_⟩) g;simp only [dL] at hj;cases hb:bM i j with
  |
   true=>
   rw [hb] at hj;simp at hj;subst hj;have:=aX hb;subst this;exact k' i _ hx
  | false=>rw [hb] at hj;exact k' j d hj
 cases b;exact key false rfl (f rfl);exact key true rfl (g1 rfl)
def bA {i:Nat}{d d':D}(hx:dL t i=some d)(e:Wk d d')(g:a1 P C N ops rest ⟨(i,d')::t,h,k⟩ Q):a1 P C N ops rest ⟨t,h,k⟩ Q:=by
 refine px (s':=⟨(i,d')::t,h,k⟩) (fun H a w c k'=>⟨H,Hp.le_refl H,c,fun j d0 hj=>?_⟩) g;simp only [dL] at hj;cases hb:bM i j with
 |
  true=>
  rw [hb] at hj;simp at hj;subst hj;have:=aX hb;subst this;obtain ⟨v,h1,h2⟩:=k' i _ hx;exact ⟨v,h1,e _ _ h2⟩
 | false=>rw [hb] at hj;exact k' j d0 hj
def Kb {next:S→Prop}{s:S}(g:next s):i6 next Q .normal s:=g
def Ks {next:S→Prop}{s:S}(g:Q .ret s):i6 next Q .ret s:=g
def KH {next:S→Prop}{s:S}{j:Nat}(g:Q (.exit j) s):i6 next Q (.exit j) s:=g
def KF {s:S}{j:Nat}(g:Q .normal s):BL j Q .normal s:=g
def KI {s:S}{j:Nat}(g:Q .ret s):BL j Q .ret s:=g
def KW {s:S}{j:Nat}(g:Q .normal s):BL j Q (.exit j) s:=by
 show (bif bM j j then Q .normal s else Q (.exit j) s);rw [Nat.beq_refl];exact g
def JV {s:S}{j i:Nat}(hb:bM i j=false)(g:Q (.exit i) s):BL j Q (.exit i) s:=by
 show (bif bM i j then Q .normal s else Q (.exit i) s);rw [hb];exact g
end
end
section
open Go Go.RowKit
section
variable {P:aJ}{C:Ctx}{N:Nat}{ops rest:List bG}{o:bG}{t:List (Nat × D)}{h:List (Nat × Blk)}{k:List (Nat × ω)}{Q:dH→S→Prop}{tab:List (Option TI)}
def yA (op:BinOp)(k:fP)(a b:Int):Option ω:=
 match op with
 | .quo=>some (.int k (k.wrap (a.tdiv b)))
 | .rem=>some (.int k (a.tmod b))
 | _=>none
def DR {op:BinOp}{xt yt:aD}{x y:aH}{kk:fP}{a b:Int}{r:ω}(ho:o.op=.binOp op xt x y yt)(hx:cS t x=some (.v (.int kk a)))(hy:cS t y=some (.v (.int kk b)))(e:yA op kk a b=some r)(hb:b≠0):∀ H a w,TOK H t a→∃ v,(bL a.eval o).run P w=.ok (.value v) w∧Rep H (.v r) v:=
 fun H ac w kt=>by
  refine ⟨r,?_,dA ?_⟩
  ·unfold bL;rw [ho];refine iC ?_;rw [eW (eh kt hx),eW (eh kt hy)];cases op<;>simp [yA] at e<;>subst e<;>simp [eqGuard,binOp,Op.intDiv,hb]<;>rfl
  cases op<;>simp [yA] at e<;>subst e<;>rfl
def uA {i:Nat}{op:BinOp}{xt yt:aD}{x y:aH}{kk:fP}{a b:Int}{r:ω}(ho:o.op=.binOp op xt x y yt)(hw:bC ops t o=some true)(hd:o.dst=some i)(hi:aZ i N=true)
 (hx:cS t x=some (.v (.int kk a))) (hy:cS t y=some (.v (.int kk b))) (e:yA op kk a b=some r) (hb:b≠0)
 (g:a1 P C N ops rest ⟨(i,.v r)::t,h,k⟩ Q):a1 P C N ops (o::rest) ⟨t,h,k⟩ Q:=mH (s:=⟨t,h,k⟩) hw hd hi (DR ho hx hy e hb) g
def LV:∀ (cs:List ω) (off j:Nat) (us:List ω),off+j+cs.length≤us.length →
  (cs.zipIdx j).foldl (fun (a:Array ω) (x:ω×Nat)=>a.setIfInBounds (off+x.2) x.1) us.toArray=(us.take (off+j)++(cs++us.drop (off+j+cs.length))).toArray
 | [],off,j,us,_=>by simp
 |
  c::cs,off,j,us,hl=>by
  simp only [Ψ] at hl;rw [List.zipIdx_cons,List.foldl_cons];simp only [List.setIfInBounds_toArray];rw [LV cs off (j+1) (us.set (off+j) c) (by simp;omega)];congr 1;rw [show off+(j+1)=off+j+1 by omega];have hlt:off+j<us.length:=by omega
  have b:(us.set (off+j) c).take (off+j+1)=us.take (off+j)++[c]:=by
   rw [List.take_succ_eq_append_getElem (by simpa using hlt)];simp [List.take_set];exact List.set_eq_of_length_le (List.length_take_le _ _)
  have d:(us.set (off+j) c).drop (off+j+1+cs.length)=us.drop (off+j+(c::cs).length):=by
   rw [List.drop_set,aQ (by omega)];congr 1;simp;omega
  rw [b,d];simp
def oz (tab:List (Option TI))(fs:List (Nat×Nat))(t:List (Nat×D)):List (Nat×aH)→List D→Option (List D)
 | [],cs=>some cs
 |
  (f,x)::ps,cs=>match fs[f]? with
  |
   some fl=>match ti tab fl.1,cS t x with
   | some j,some d=>bif iv d && bM (eK d).length j.size && cK (fl.2+j.size) cs.length then oz tab fs t ps (mF cs fl.2 (eK d)) else none
   | _,_=>none
  | none=>none
def pC {ds es:List D}{off:Nat}(h:off+es.length≤ds.length):(mF ds off es).length=ds.length:=by
 unfold mF;simp;omega
def GF {H:Hp}{a:Act}(hT:bO P tab)(kt:TOK H t a){fs:List (Nat×Nat)}{place:Nat→Option (Nat×Nat)}(hp:∀ f fl j,fs[f]? = some fl→ti tab fl.1=some j→place f=some (fl.2,j.size)) :
  ∀ (ps:List (Nat×aH)) (cs:List D) (us:List ω) (r:List D),Reps H cs us→oz tab fs t ps cs=some r→∃ vs,Instr.fill place us.toArray (ps.map fun p=>(p.1,a.eval p.2))=some vs.toArray∧Reps H r vs
 |
  [],cs,us,r,hr,e=>by
  simp only [oz,aA] at e;subst e;exact ⟨us,by simp [Instr.fill],hr⟩
 |
  (f,x)::ps,cs,us,r,hr,e=>by
  simp only [oz] at e;split at e
  ·rename_i fl hf;split at e
   ·rename_i j d hj hx;cases hb:(iv d && bM (eK d).length j.size && cK (fl.2+j.size) cs.length) with
    | false=>rw [hb] at e;cases e
    |
     true=>
     rw [hb] at e;simp only [ξ] at e;simp only [aR] at hb;obtain ⟨⟨h1,h2⟩,b⟩:=hb;have h2:=aX h2;have b:=bS b;have hv:=FE h1 (eh kt hx);have c:=wh hv;have m:=wh hr;have hl:=IJ hr hv fl.2;obtain ⟨vs,g,l⟩:=GF hT kt hp ps _ _ r hl e;refine ⟨vs,?_,l⟩;simp only [a7,Instr.fill,hp f fl j hf hj];simp only [b9] at c;rw [aF]
     ·have:=LV (a.eval x).cells.toList fl.2 0 us (by simp;omega);simp only [gY] at this;rw [← g];congr 1;rw [← this];rw [← Array.foldl_toList];congr 1;simp
     simp;omega
   cases e
  cases e
def mO {df:ω→D}(hdf:∀ (H:Hp) (z:ω),RepC H (df z) [z]∧(df z).flat=true){T:aD}{ps:Array (Nat×aH)}{b:TI}{fs:List (Nat×Nat)}{r:List D}(hT:bO P tab)(ho:o.op=.build T ps)(hti:ti tab T=some b)(hfs:b.d=.struct fs)(hall:fs.all (fun f=>(ti tab f.1).isSome)=true)(hz:b.zero.all one=true)(e:oz tab fs t ps.toList (b.zero.map df)=some r):∀ H a w,TOK H t a→∃ v,(bL a.eval o).run P w=.ok (.value v) w∧Rep H (.agg r) v:=
 fun H a w kt=>by
 obtain ⟨z,h1,h2⟩:=wZ (w:=w) (b4 hT hti);obtain ⟨d,g,m⟩:=iY (w:=w) (b4 hT hti);obtain ⟨gs,rfl,c⟩:=C9 (m.trans hfs);have hr:Reps H (b.zero.map df) z.cells.toList:=by
  rw [h2];rw [bY] at hz;revert hz;generalize b.zero=l;intro hz;induction l with
  | nil=>simp [Reps]
  |
   cons u l ih=>
   simp only [a7,Reps];exact ⟨u,l,rfl,⟨(hdf H u).1,hz u (by simp),(hdf H u).2⟩,ih (fun x hx=>hz x (by simp [hx]))⟩
 have hpl:∀ (l:List Field),(∀ f∈l,(ti tab f.type).isSome=true)→(l.mapM (fun f=>do pure (f.offset,← Go.sizeOf f.type):Field→Sem (Nat×Nat))).run P w=.ok (l.map fun f=>(f.offset,((ti tab f.type).map (·.size)).getD 0)) w:=by
  intro l;induction l with
  | nil=>intro _;rfl
  |
   cons f l ih=>
   intro hl;have hf:=hl f (by simp);obtain ⟨j,hj⟩:=Option.isSome_iff_exists.1 hf;rw [List.mapM_cons,KL (a:=(f.offset,j.size)) ?_,KL (ih fun x hx=>hl x (by simp [hx]))]
   ·simp [hj]
   rw [KL (lD (b4 hT hj))];rfl
 have hgs:∀ f∈gs.toList,(ti tab f.type).isSome=true:=by
  intro f hf;rw [bY] at hall;have:=hall (f.type,f.offset) (by rw [← c];exact List.mem_map.2 ⟨f,hf,rfl⟩);exact this
 have n:(gs.mapM (fun f=>do pure (f.offset,← Go.sizeOf f.type):Field→Sem (Nat×Nat))).run P w=.ok (gs.toList.map fun f=>(f.offset,((ti tab f.type).map (·.size)).getD 0)).toArray w:=by
  rw [Array.mapM_eq_mapM_toList,map_eq_pure_bind,KL (hpl gs.toList hgs)];rfl
 obtain ⟨vs,q,y⟩:=GF (P:=P) (place:=fun f=>(gs.toList.map fun f=>(f.offset,((ti tab f.type).map (·.size)).getD 0)).toArray[f]?) hT kt (fs:=fs) (by
  intro f fl j hf hj;rw [← c,f9,fF] at hf;obtain ⟨x,A,B⟩:=hf;subst B;simp at hj;simp only [cR,f9,A,dQ,hj,Option.getD_some]) ps.toList _ _ r hr e
 refine ⟨.agg vs.toArray,?_,E5 y⟩;unfold bL;rw [ho];refine iC ?_;unfold Instr.build;rw [KL h1];simp only [];rw [KL g];simp only [];rw [KL n];have F:(ps.map fun x=>(x.1,a.eval x.2)).toList=ps.toList.map fun p=>(p.1,a.eval p.2):=by simp
 rw [F];have G:z.cells=z.cells.toList.toArray:=by simp
 rw [G];simp only [q];rfl
def s0 {T:aD}{ps:Array (Nat×aH)}{b:TI}{fs:List (Nat×Nat)}{r:List D}(hT:bO P tab)(ho:o.op=.build T ps)(hti:ti tab T=some b)(hfs:b.d=.struct fs)(hall:fs.all (fun f=>(ti tab f.1).isSome)=true)(hz:b.zero.all one=true)(e:oz tab fs t ps.toList (b.zero.map sr)=some r):∀ H a w,TOK H t a→∃ v,(bL a.eval o).run P w=.ok (.value v) w∧Rep H (.agg r) v:=mO BM hT ho hti hfs hall hz e
def h7 {i:Nat}{T:aD}{ps:Array (Nat×aH)}{a:TI}{fs:List (Nat×Nat)}{r:List D}(hT:bO P tab)(ho:o.op=.build T ps)(hw:bC ops t o=some true)(hd:o.dst=some i)(hi:aZ i N=true)
 (hti:ti tab T=some a) (hfs:a.d=.struct fs) (hall:fs.all (fun f=>(ti tab f.1).isSome)=true) (hz:a.zero.all one=true) (e:oz tab fs t ps.toList (a.zero.map sr)=some r)
 (g:a1 P C N ops rest ⟨(i,.agg r)::t,h,k⟩ Q):a1 P C N ops (o::rest) ⟨t,h,k⟩ Q:=mH (s:=⟨t,h,k⟩) hw hd hi (s0 hT ho hti hfs hall hz e) g
end
def iy:List D→Option (List ω)
 | []=>some []
 | .v x::l=>(iy l).map (x::·)
 | _=>none
def vE:D→Option ω
 | .v x=>some x
 | .agg l=>(iy l).map fun us=>.agg us.toArray
 | _=>none
def n1 {H:Hp}:∀ {l:List D} {us vs:List ω},iy l=some us→Reps H l vs→vs=us
 | [],us,vs,e,h=>by simp [iy] at e;simp only [Reps] at h;rw [h,← e]
 |
  .v x::l,us,vs,e,h=>by
  simp only [iy,fF] at e;obtain ⟨us',h1,h2⟩:=e;simp only [Reps] at h;obtain ⟨u,vs',rfl,⟨a,_⟩,b⟩:=h;simp only [RepC,fW,and_true] at a;rw [a,n1 h1 b,h2]
 | .any::l,us,vs,e,h=>by simp [iy] at e
 | .agg _::l,us,vs,e,h=>by simp [iy] at e
 | .lst _ _ _::l,us,vs,e,h=>by simp [iy] at e
 | .el _::l,us,vs,e,h=>by simp [iy] at e
 | .ptr _ _::l,us,vs,e,h=>by simp [iy] at e
 | .slf _::l,us,vs,e,h=>by simp [iy] at e
 | .fn _ _ _::l,us,vs,e,h=>by simp [iy] at e
 | .tup _::l,us,vs,e,h=>by simp [iy] at e
def yy {H:Hp}{d:D}{x y:ω}(e:vE d=some x)(h:Rep H d y):y=x:=by
 cases d with
 | v z=>simp [vE] at e;rw [← e];exact eW h
 |
  agg l=>
  simp only [vE,fF] at e;obtain ⟨us,h1,h2⟩:=e;obtain ⟨vs,rfl,a⟩:=Ak h;rw [n1 h1 a,h2]
 | _=>simp [vE] at e
def ob:List D→Option (List ω)
 | []=>some []
 |
  d::l=>match vE d,ob l with
  | some x,some xs=>some (x::xs)
  | _,_=>none
def n3 {H:Hp}:∀ {l:List D} {us vs:List ω},ob l=some us→RepsV H l vs→vs=us
 | [],us,vs,e,h=>by simp [ob] at e;simp only [RepsV] at h;rw [h,← e]
 |
  d::l,us,vs,e,h=>by
  simp only [ob] at e;split at e
  ·rename_i x xs h1 h2;simp only [aA] at e;subst e;simp only [RepsV] at h;obtain ⟨u,vs',rfl,a,b⟩:=h;rw [yy h1 a,n3 h2 b]
  cases e
def pT {H:Hp}{w w':aL}(hA:Ag H w)(hb:Below w.heap.size w w')(hd:w.drawn≤w'.drawn):Core ⟨H,w,[]⟩ H [] [] w':=
 ⟨⟨fun a v e=>by rw [hb.cell (p:=a) (hA.lt e)];exact hA a v e,hA.gg.step (Hp.le_refl H) (hb.block _ hA.gg.lt)⟩,Hp.le_refl H,fun _ _ x=>.inl x,fun b h _=>hb.block b h,hb.size,(by simp),(by simp),(by simp [K4,eQ]),(by simp [K4,eQ]),⟨hb.os,hb.tape,hb.output,Φ _⟩⟩
def Dl {H:Hp}{w w':aL}(hA:Ag H w)(hb:Below w.heap.size w w'):Core ⟨H,w,[]⟩ H [] [] w':=
 ⟨⟨fun a v e=>by rw [hb.cell (p:=a) (hA.lt e)];exact hA a v e,hA.gg.step (Hp.le_refl H) (hb.block _ hA.gg.lt)⟩,Hp.le_refl H,fun _ _ x=>.inl x,fun b h _=>hb.block b h,hb.size,(by simp),(by simp),(by simp [K4,eQ]),(by simp [K4,eQ]),⟨hb.os,hb.tape,hb.output,Φ _⟩⟩
def uO {P:aJ}{f:FuncId}{ds:List D}{us:Array ω}{d:D}{v:ω}(hg:sQ P f)(h1:ob ds=some us.toList)(h2:∀ H,Rep H d v)
  (c:∀ w,Calls P f us w fun e w'=>e=.returned v∧Below w.heap.size w w'∧w.drawn≤w'.drawn):CallsD P f ds [] [] (fun d' h k=>d'=d∧h=[]∧k=[]):=by
 refine ⟨hg,fun H w vs hv hA _ _ _=>?_⟩;have e:=n3 h1 hv;subst e;refine (c w).mono fun e w' ⟨he,hb,hd⟩=>⟨v,H,d,[],[],he,h2 H,pT hA hb hd,rfl,rfl,rfl⟩
def to_calls {P:aJ}{f:FuncId}{ds:List D}{us:Array ω}{x:ω}(c:CallsD P f ds [] [] (fun d' h k=>d'=.v x∧h=[]∧k=[])){H:Hp}{w:aL}(hA:Ag H w)(h1:RepsV H ds us.toList) :
  Calls P f us w fun e w'=>e=.returned x∧Below w.heap.size w w':=by
 have:=c.2 H w us.toList h1 hA (by simp) (by simp) (by simp [K4,eQ]);refine this.mono fun e w' ⟨v,H',d,h',k',he,hr,hc,h2,_,_⟩=>?_;subst h2;have:=eW hr;subst this;exact ⟨he,⟨hc.env.1,hc.env.2.1,hc.env.2.2.1,hc.size,fun k hk=>hc.same k hk (by simp [K4,eQ])⟩⟩
end
section
open Go
structure EqT (P:aJ) (t:aD):Prop where
 guard:P.eqGuardType P.depth t=false
 stood:P.stoodInHeld t=false
 names : (P.fieldsOf t).toList.all (fun f => f.name != "_") = true
def EJ (d:TD)(x y:ω):Option Bool:=
 match d,x,y with
 | .int _,.int k a,.int k' b=>bif CV k k' then some (a==b) else none
 | .bool,.bool a,.bool b=>some (a==b)
 | .str,.string a,.string b=>some (decide (a=b))
 | _,_,_=>none
def By {P:aJ}{w:aL}{t:aD}{i:TI}(hi:iH P t=some i){x y:ω}{b:Bool}(d:Nat)(e:EJ i.d x y=some b):(oQ (d+1) t x y).run P w=.ok b w:=by
 obtain ⟨dd,h1,h2⟩:=iY (w:=w) hi;obtain ⟨ti,z,dd',j,f,g,_⟩:=BU hi;unfold EJ at e;split at e
 ·rename_i k k1 a k2 c hd;cases hk:CV k1 k2 with
  | false=>rw [hk] at e;cases e
  |
   true=>
   have:=vd hk;subst this;rw [hk] at e;simp only [ξ,aA] at e;subst e;exact run_equalIn_int w d t k1 k a c (by rw [f,BN (g.trans hd)])
 rename_i a c hd;simp only [aA] at e;subst e;exact run_equalIn_bool' w d t a c (by rw [f,Gv (g.trans hd)]);rename_i a c hd;simp only [aA] at e;subst e;rw [← My];exact run_equalIn_string w d t a c (by rw [f,wI (g.trans hd)]);cases e
def CX (tab:List (Option TI)):List (Nat×Nat)→List D→List D→Option Bool
 | [],_,_=>some true
 |
  f::fs,ds,es=>match ti tab f.1,ds[f.2]?,es[f.2]? with
  |
   some i,some (.v x),some (.v y)=>match EJ i.d x y,CX tab fs ds es with
   | some b,some r=>some (b && r)
   | _,_=>none
  | _,_,_=>none
def vA {i:TI}{x y:ω}{b:Bool}(e:EJ i.d x y=some b):i.agg=false:=by
 unfold EJ at e;unfold TI.agg;split at e;rename_i h;rw [h];rename_i h;rw [h];rename_i h;rw [h];cases e
def vB {P:aJ}{w:aL}{tab:List (Option TI)}(hT:bO P tab){H:Hp}{ds es:List D}{us vs:List ω}(h1:Reps H ds us)(h2:Reps H es vs)(d:Nat) :
  ∀ (gs : List Field) (fs : List (Nat × Nat)) (b : Bool), gs.map (fun f => (f.type, f.offset)) = fs → gs.all (fun f => f.name != "_") = true → CX tab fs ds es = some b → (Op.eqFields (d + 1) us.toArray vs.toArray gs).run P w = .ok b w
 |
  [],fs,b,e,hn,h=>by
  simp at e;subst e;simp [CX] at h;subst h;rfl
 |
  g::gs,fs,b,e,hn,h=>by
  simp only [a7] at e;subst e;simp only [List.all_cons,aR,bne_iff_ne] at hn;simp only [CX] at h;split at h
  ·rename_i i x y hi hx hy;split at h
   ·rename_i a c hb hr;simp only [aA] at h;have ih:=vB (w:=w) hT h1 h2 d gs _ c rfl hn.2 hr;have hag:=vA hb;obtain ⟨v1,j,l⟩:=GO (P:=P) (w:=w) (b4 hT hi) h1 (d:=.v x) (off:=g.offset) (by simp [eZ,hag,hx]);obtain ⟨v2,p2,m⟩:=GO (P:=P) (w:=w) (b4 hT hi) h2 (d:=.v y) (off:=g.offset) (by simp [eZ,hag,hy]);obtain rfl:=eW l;obtain rfl:=eW m;unfold Op.eqFields;rw [aQ hn.1,KL j,KL p2,KL (By (w:=w) (b4 hT hi) d hb)];cases a with
    | false=>simp at h;subst h;rfl
    | true=>simp at h;subst h;simpa using ih
   cases h
  cases h
section
variable {P:aJ}{C:Ctx}{N:Nat}{ops rest:List bG}{o:bG}{t:List (Nat × D)}{h:List (Nat × Blk)}{k:List (Nat × ω)}{Q:dH→S→Prop}{tab:List (Option TI)}
def lr:BinOp→Option Bool
 | .eql=>some false
 | .neq=>some true
 | _=>none
def DP {op:BinOp}{neg:Bool}{xt yt:aD}{x y:aH}{c:TI}{fs:List (Nat×Nat)}{ds es:List D}{b:Bool}(hT:bO P tab)(ho:o.op=.binOp op xt x y yt)
  (hop:lr op=some neg) (hE:EqT P xt) (hx:cS t x=some (.agg ds)) (hy:cS t y=some (.agg es)) (hti:ti tab xt=some c) (hfs:c.d=.struct fs) (e:CX tab fs ds es=some b):∀ H a w,TOK H t a→∃ v,(bL a.eval o).run P w=.ok (.value v) w∧Rep H (.v (.bool (bif neg then !b else b))) v:=
 fun H a w kt=>by
  refine ⟨.bool (bif neg then !b else b),?_,dA rfl⟩;obtain ⟨us,h1,h2⟩:=Ak (eh kt hx);obtain ⟨vs,g,j⟩:=Ak (eh kt hy);obtain ⟨ti',z,dd',n,f,l,_⟩:=BU (b4 hT hti);obtain ⟨gs,rfl,m⟩:=C9 (l.trans hfs);have hf:P.fieldsOf xt=gs:=by unfold Program.fieldsOf;rw [f]
  have hq:(oQ 10000 xt (.agg us.toArray) (.agg vs.toArray)).run P w=.ok b w:=by
   show (oQ (9999+1) xt _ _).run P w=_
   rw [run_equalIn_struct w 9999 xt _ _ (by rw [f,hf]) hE.stood];have hn:=hE.names;rw [hf] at hn ⊢;exact vB hT h2 j 9998 gs.toList fs b m hn e
  unfold bL;rw [ho];refine iC ?_;rw [h1,g];rw [KL (run_eqGuard_agg w op xt x y _ _ hE.guard)];cases op<;>simp [lr] at hop<;>subst hop
  ·rw [run_eql_struct,hq];rfl
  rw [run_neq_struct,hq];rfl
def Ey {i:Nat}{op:BinOp}{neg:Bool}{xt yt:aD}{x y:aH}{a:TI}{fs:List (Nat×Nat)}{ds es:List D}{b:Bool}(hT:bO P tab)(ho:o.op=.binOp op xt x y yt)(hw:bC ops t o=some true)(hd:o.dst=some i)(hi:aZ i N=true)
  (hop:lr op=some neg) (hE:EqT P xt) (hx:cS t x=some (.agg ds)) (hy:cS t y=some (.agg es)) (hti:ti tab xt=some a) (hfs:a.d=.struct fs) (e:CX tab fs ds es=some b)
  (g:a1 P C N ops rest ⟨(i,.v (.bool (bif neg then !b else b)))::t,h,k⟩ Q):a1 P C N ops (o::rest) ⟨t,h,k⟩ Q:=
 mH (s:=⟨t,h,k⟩) hw hd hi (DP hT ho hop hE hx hy hti hfs e) g
end
end
section
open Go
def qP {H:Hp}{k b:Nat}:∀ {xs:List D} {off i:Nat} {x:D},Els H k b off xs→xs[i]? = some x→∃ us,us.length=k∧RepC H x us∧Told H b (off+i*k) us∧∀ u∈us,one u=true
 | [],off,i,x,h,e=>by simp at e
 |
  y::ys,off,0,x,h,e=>by
  simp only [Els] at h;simp at e;subst e;simpa using h.1
 |
  y::ys,off,i+1,x,h,e=>by
  simp only [Els] at h;simp at e;obtain ⟨us,h1,h2,a,c⟩:=qP h.2 e;exact ⟨us,h1,h2,by rw [show off+(i+1)*k=off+k+i*k by rw [cC];omega];exact a,c⟩
def nZ {H:Hp}{k b:Nat}:∀ (n:Nat) {xs:List D} {off:Nat},Els H k b off xs→Els H k b (off+n*k) (xs.drop n)
 | 0,xs,off,h=>by simpa using h
 | n+1,[],off,h=>by simp [Els]
 |
  n+1,x::xs,off,h=>by
  simp only [Els] at h;have:=nZ n h.2;rw [show off+k+n*k=off+(n+1)*k by rw [cC];omega] at this;simpa using this
def nX {H:Hp}{k b:Nat}:∀ (n:Nat) {xs:List D} {off:Nat},Els H k b off xs→Els H k b off (xs.take n)
 | 0,xs,off,h=>by simp [Els]
 | n+1,[],off,h=>by simp [Els]
 |
  n+1,x::xs,off,h=>by
  simp only [Els] at h;simp only [List.take_succ_cons,Els];exact ⟨h.1,nX n h.2⟩
def Jp {H:Hp}{k b:Nat}:∀ {xs ys:List D} {off:Nat},Els H k b off xs→Els H k b (off+xs.length*k) ys→Els H k b off (xs++ys)
 | [],ys,off,_,h=>by simpa using h
 |
  x::xs,ys,off,h,g=>by
  simp only [Els] at h;simp only [bK,Els];refine ⟨h.1,Jp h.2 ?_⟩;rw [show off+k+xs.length*k=off+(x::xs).length*k by simp [cC];omega];exact g
section
variable {P:aJ}{C:Ctx}{N:Nat}{ops rest:List bG}{o:bG}{t:List (Nat × D)}{h:List (Nat × Blk)}{k:List (Nat × ω)}{Q:dH→S→Prop}{tab:List (Option TI)}
def Cj {H:Hp}{kk:Nat}{xs:List D}{c:Cap}{y:ω}(hr:Rep H (.lst kk xs c) y):∃ a m,y=.slice a xs.length m:=by
 obtain ⟨_,h2⟩:=oL hr;rcases h2 with ⟨rfl,a,m,rfl,_⟩|⟨b,off,m,rfl,_⟩;exact ⟨a,m,rfl⟩;exact ⟨_,m,rfl⟩
def JM {w:aL}{T e:aD}{i:TI}{a:Option Addr}{n m:Nat}{ty:aD}(hi:iH P T=some i)(hd:i.d=.slice e):(iO #[T] ty #[.slice a n m]).run P w=.ok (.int .i64 n) w:=by
 obtain ⟨d,h1,h2⟩:=iY (w:=w) hi;have:=lB (h2.trans hd);subst this;unfold iO;simp only [cR,dB];rw [KL h1];rfl
def PS {w:aL}{T:aD}{i:TI}{s:η}{ty:aD}(hi:iH P T=some i)(hd:i.d=.str):(iO #[T] ty #[.string s]).run P w=.ok (.int .i64 s.size) w:=by
 obtain ⟨d,h1,h2⟩:=iY (w:=w) hi;have:=wI (h2.trans hd);subst this;unfold iO;simp only [cR,dB];rw [KL h1];rfl
def sI {b:Builtin}{args:List aH}{ts:Array aD}{a:Act}{w w':aL}{v:ω}{s:Array aD→aD→Array ω→Sem ω}(ho:o.op=.call ⟨.builtin b,args.toArray,ts⟩)
  (hb:∀ c vs,builtin b ts o.type c vs=(do pure (.value (← s ts o.type vs)))) (hr:(s ts o.type (args.map a.eval).toArray).run P w=.ok v w'):(bL a.eval o).run P w=.ok (.value v) w':=by
 unfold bL;rw [ho];simp only [resolve];rw [KL (a:=(⟨.builtin b ts o.type _,(args.map a.eval).toArray⟩:Deferred)) (w':=w) (by rw [← List.map_toArray];rfl)];simp only [invoke,hb];exact iC hr
def NX {n kk:Nat}{T e:aD}{x:aH}{xs:List D}{c:Cap}{b:TI}(hT:bO P tab)(ho:o.op=.call ⟨.builtin .len,[x].toArray,#[T]⟩)(hx:cS t x=some (.lst kk xs c))(hti:ti tab T=some b)(hs:b.d=.slice e)(hn:xs.length=n):∀ H a w,TOK H t a→∃ v,(bL a.eval o).run P w=.ok (.value v) w∧Rep H (.v (.int .i64 n)) v:=
 fun H a w kt=>by
  obtain ⟨ad,m,hy⟩:=Cj (eh kt hx);refine ⟨.int .i64 n,sI (s:=iO) ho (fun _ _=>rfl) ?_,dA rfl⟩;simp only [a7,fg,hy,hn];exact JM (b4 hT hti) hs
def RF {i n kk:Nat}{T e:aD}{x:aH}{xs:List D}{c:Cap}{a:TI}(hT:bO P tab)(ho:o.op=.call ⟨.builtin .len,[x].toArray,#[T]⟩)(hw:bC ops t o=some true)(hd:o.dst=some i)(hi:aZ i N=true)
 (hx:cS t x=some (.lst kk xs c)) (hti:ti tab T=some a) (hs:a.d=.slice e) (hn:xs.length=n) (g:a1 P C N ops rest ⟨(i,.v (.int .i64 n))::t,h,k⟩ Q):a1 P C N ops (o::rest) ⟨t,h,k⟩ Q:=mH (s:=⟨t,h,k⟩) hw hd hi (NX hT ho hx hti hs hn) g
def oR {n:Nat}{T:aD}{x:aH}{s:η}{b:TI}(hT:bO P tab)(ho:o.op=.call ⟨.builtin .len,[x].toArray,#[T]⟩)(hx:cS t x=some (.v (.string s)))(hti:ti tab T=some b)(hs:b.d=.str)(hn:s.size=n):∀ H a w,TOK H t a→∃ v,(bL a.eval o).run P w=.ok (.value v) w∧Rep H (.v (.int .i64 n)) v:=
 fun H a w kt=>by
  refine ⟨.int .i64 n,sI (s:=iO) ho (fun _ _=>rfl) ?_,dA rfl⟩;simp only [a7,fg,eW (eh kt hx),← hn];exact PS (b4 hT hti) hs
def Rl {i n:Nat}{T:aD}{x:aH}{s:η}{a:TI}(hT:bO P tab)(ho:o.op=.call ⟨.builtin .len,[x].toArray,#[T]⟩)(hw:bC ops t o=some true)(hd:o.dst=some i)(hi:aZ i N=true)
 (hx:cS t x=some (.v (.string s))) (hti:ti tab T=some a) (hs:a.d=.str) (hn:s.size=n) (g:a1 P C N ops rest ⟨(i,.v (.int .i64 n))::t,h,k⟩ Q):a1 P C N ops (o::rest) ⟨t,h,k⟩ Q:=mH (s:=⟨t,h,k⟩) hw hd hi (oR hT ho hx hti hs hn) g
def AE {T:aD}{x ix:aH}{s:η}{kk:fP}{j:Int}{b:aC}{c:TI}(hT:bO P tab)(ho:o.op=.index T x ix)(hx:cS t x=some (.v (.string s)))(hix:cS t ix=some (.v (.int kk j)))(hti:ti tab T=some c)(hs:c.d=.str)(e:0≤j)(hb:s.data.toList[j.toNat]? = some b):∀ H a w,TOK H t a→∃ v,(bL a.eval o).run P w=.ok (.value v) w∧Rep H (.v (.int .u8 b.toNat)) v:=
 fun H a w kt=>by
  obtain ⟨d,h1,h2⟩:=iY (w:=w) (b4 hT hti);have:=wI (h2.trans hs);subst this;refine ⟨.int .u8 b.toNat,?_,dA rfl⟩;unfold bL;rw [ho];refine iC ?_;rw [eW (eh kt hx),eW (eh kt hix)];unfold Instr.index;rw [KL (a:=(kk,j)) rfl];simp only [];rw [KL h1];have hb':s[j.toNat]? = some b:=by
   obtain ⟨hlt,hv⟩:=aP.1 hb;have hlt':j.toNat<s.size:=by simpa using hlt
   rw [getElem?_pos s j.toNat hlt'];congr 1
  simp only [aQ e,hb'];rfl
def Ro {i:Nat}{T:aD}{x ix:aH}{s:η}{kk:fP}{j:Int}{b:aC}{a:TI}(hT:bO P tab)(ho:o.op=.index T x ix)(hw:bC ops t o=some true)(hd:o.dst=some i)(hi:aZ i N=true)
 (hx:cS t x=some (.v (.string s))) (hix:cS t ix=some (.v (.int kk j))) (hti:ti tab T=some a) (hs:a.d=.str) (c:0≤j) (hb:s.data.toList[j.toNat]? = some b)
 (g:a1 P C N ops rest ⟨(i,.v (.int .u8 b.toNat))::t,h,k⟩ Q):a1 P C N ops (o::rest) ⟨t,h,k⟩ Q:=mH (s:=⟨t,h,k⟩) hw hd hi (AE hT ho hx hix hti hs c hb) g
def Ay {kk:Nat}{T e:aD}{x ix:aH}{xs:List D}{c:Cap}{ik:fP}{j:Int}{d:D}{f tie:TI}(hT:bO P tab)(ho:o.op=.indexAddr T x ix)(hx:cS t x=some (.lst kk xs c))(hix:cS t ix=some (.v (.int ik j)))(hti:ti tab T=some f)(hs:f.d=.slice e)(hte:ti tab e=some tie)(hk:tie.size=kk)(g:0≤j)(hb:xs[j.toNat]? = some d):∀ H a w,TOK H t a→∃ v,(bL a.eval o).run P w=.ok (.value v) w∧Rep H (.el d) v:=
 fun H a w kt=>by
  obtain ⟨dd,h1,h2⟩:=iY (w:=w) (b4 hT hti);have:=lB (h2.trans hs);subst this;obtain ⟨hlt,_⟩:=aP.1 hb;obtain ⟨_,n⟩:=oL (eh kt hx);rcases n with ⟨rfl,_⟩|⟨b,off,m,hy,_,hE⟩
  ·simp at hb
  obtain ⟨us,u,p,q,r⟩:=qP hE hb;refine ⟨.pointer (some ⟨b,off+j.toNat*kk,none⟩),?_,j6 (by simp only [RepC];exact ⟨b,_,us,rfl,p,q,r⟩) rfl rfl⟩;unfold bL;rw [ho];refine iC ?_;rw [hy,eW (eh kt hix)];unfold Instr.indexAt;rw [KL (a:=(ik,j)) rfl];simp only [];have s:j<(xs.length:Int):=by omega
  simp only [mw,h1,mJ,lD (b4 hT hte),hk,aQ (show 0≤j∧j<(xs.length:Int) from ⟨g,s⟩),oJ]
def RE {i kk:Nat}{T e:aD}{x ix:aH}{xs:List D}{c:Cap}{ik:fP}{j:Int}{d:D}{a tie:TI}(hT:bO P tab)(ho:o.op=.indexAddr T x ix)(hw:bC ops t o=some true)(hd:o.dst=some i)(hi:aZ i N=true)
 (hx:cS t x=some (.lst kk xs c)) (hix:cS t ix=some (.v (.int ik j))) (hti:ti tab T=some a) (hs:a.d=.slice e) (hte:ti tab e=some tie) (hk:tie.size=kk) (b:0≤j) (hb:xs[j.toNat]? = some d)
 (g:a1 P C N ops rest ⟨(i,.el d)::t,h,k⟩ Q):a1 P C N ops (o::rest) ⟨t,h,k⟩ Q:=mH (s:=⟨t,h,k⟩) hw hd hi (Ay hT ho hx hix hti hs hte hk b hb) g
end
def gU (t:List (Nat×D)):Option aH→Option (Option Int)
 | none=>some none
 |
  some x=>match cS t x with
  | some (.v (.int _ n))=>some (some n)
  | _=>none
def yW {P:aJ}{w:aL}{kk:fP}{n:Int}{y:Nat}{code:BoundsCode}(b:0≤n)(h1:n≤y):(Instr.sliceBound (.int kk n) y code).run P w=.ok n.toNat w:=by
 unfold Instr.sliceBound;rw [KL (a:=(kk,n)) rfl];simp only [aQ (show 0≤n∧n≤(y:Int) from ⟨b,h1⟩)];rfl
def Kmw {H:Hp}{t:List (Nat×D)}{a:Act}(kt:TOK H t a){x:Option aH}{r:Option Int}(e:gU t x=some r):(x=none∧r=none)∨∃ y kk n,x=some y∧r=some n∧a.eval y=.int kk n:=by
 cases x with
 | none=>simp [gU] at e;exact .inl ⟨rfl,e.symm⟩
 |
  some y=>
  simp only [gU] at e;split at e
  ·rename_i kk n hy;simp only [aA] at e;exact .inr ⟨y,kk,n,rfl,e.symm,eW (eh kt hy)⟩
  cases e
def Hk {P:aJ}{w:aL}{H:Hp}{t:List (Nat×D)}{a:Act}(kt:TOK H t a){isS:Bool}{len cap l n m:Nat}{lo hi mx:Option aH}{l' n' m':Option Int}(e:gU t lo=some l')(f:gU t hi=some n')(g:gU t mx=some m')
  (h1:l'.getD 0=l) (h2:n'.getD len=n) (q:m'.getD cap=m) (j:m' ≠ none→n' ≠ none) (r:l≤n) (s:n≤m) (u:m≤cap) :
  (Instr.sliceBounds isS len cap (lo.map a.eval) (hi.map a.eval) (mx.map a.eval)).run P w=.ok (l,n,m) w:=by
 unfold Instr.sliceBounds;rcases Kmw kt e with ⟨rfl,rfl⟩|⟨x,k1,b,rfl,rfl,v1⟩<;>rcases Kmw kt f with ⟨rfl,rfl⟩|⟨z,k2,n2,rfl,rfl,v2⟩<;>rcases Kmw kt g with ⟨rfl,rfl⟩|⟨A,B,c,rfl,rfl,d⟩ <;>
  simp only [Option.getD_none,Option.getD_some,oE,dQ] at*<;>
  first
  | (
   have hl:l=0:=by omega
   have hn:n=len:=by omega
   have p:m=cap:=by omega
   subst hl;subst hn;subst p;simp only [mw,mJ];done)
  | (
   simp only [mw,mJ,v1,v2,d,yW (show (0:Int)≤c by omega) (show c≤(cap:Int) by omega),yW (show (0:Int)≤n2 by omega) (show n2≤((c.toNat:Nat):Int) by omega),yW (show (0:Int)≤b by omega) (show b≤((n2.toNat:Nat):Int) by omega)];congr 1;simp only [fb];omega)
  | (
   simp only [mw,mJ,v2,d,yW (show (0:Int)≤c by omega) (show c≤(cap:Int) by omega),yW (show (0:Int)≤n2 by omega) (show n2≤((c.toNat:Nat):Int) by omega)];congr 1;simp only [fb];omega)
  | (
   simp only [mw,mJ,v1,v2,yW (show (0:Int)≤n2 by omega) (show n2≤(cap:Int) by omega),yW (show (0:Int)≤b by omega) (show b≤((n2.toNat:Nat):Int) by omega)];congr 1;simp only [fb];omega)
  | (
   simp only [mw,mJ,v2,yW (show (0:Int)≤n2 by omega) (show n2≤(cap:Int) by omega)];congr 1;simp only [fb];omega)
  | (
   simp only [mw,mJ,v1,yW (show (0:Int)≤b by omega) (show b≤(len:Int) by omega)];congr 1;simp only [fb];omega)
  | (exfalso;revert j;simp;done)
section
variable {P:aJ}{C:Ctx}{N:Nat}{ops rest:List bG}{o:bG}{t:List (Nat × D)}{h:List (Nat × Blk)}{k:List (Nat × ω)}{Q:dH→S→Prop}{tab:List (Option TI)}
def zk {l n:Nat}{T:aD}{x:aH}{lo hi:Option aH}{l' n':Option Int}{s:η}{b:TI}(hT:bO P tab)(ho:o.op=.slice T x lo hi none)
 (hx:cS t x=some (.v (.string s))) (e:gU t lo=some l') (f:gU t hi=some n') (hti:ti tab T=some b) (hs:b.d=.str) (h1:l'.getD 0=(l:Int)) (h2:n'.getD s.size=(n:Int)) (g:l≤n) (j:n≤s.size):∀ H a w,TOK H t a→∃ v,(bL a.eval o).run P w=.ok (.value v) w∧Rep H (.v (.string (s.extract l n))) v:=fun H a w kt=>by
 obtain ⟨d,c,p⟩:=iY (w:=w) (b4 hT hti);have:=wI (p.trans hs);subst this;refine ⟨.string (s.extract l n),?_,dA rfl⟩;unfold bL;rw [ho];refine iC ?_;rw [eW (eh kt hx)];unfold Instr.sliceAt;rw [KL c];simp only [Instr.slice];rw [KL c];have:=Hk (P:=P) (w:=w) kt (isS:=false) (cap:=s.size) (mx:=none) (m':=none) (m:=s.size) e f rfl h1 h2 rfl (fun x=>bH rfl x) g j (Φ _);simp only [oE,lG,cP,bE] at this ⊢;simp only [mw,mJ,this]
def Ep {i l n:Nat}{T:aD}{x:aH}{lo hi:Option aH}{l' n':Option Int}{s:η}{a:TI}(hT:bO P tab)(ho:o.op=.slice T x lo hi none)(hw:bC ops t o=some true)(hd:o.dst=some i)(b:aZ i N=true)
 (hx:cS t x=some (.v (.string s))) (c:gU t lo=some l') (e:gU t hi=some n') (hti:ti tab T=some a) (hs:a.d=.str) (h1:l'.getD 0=(l:Int)) (h2:n'.getD s.size=(n:Int)) (f:l≤n) (j:n≤s.size)
 (g:a1 P C N ops rest ⟨(i,.v (.string (s.extract l n)))::t,h,k⟩ Q):a1 P C N ops (o::rest) ⟨t,h,k⟩ Q:=mH (s:=⟨t,h,k⟩) hw hd b (zk hT ho hx c e hti hs h1 h2 f j) g
def tr {l n kk:Nat}{T e:aD}{x:aH}{lo hi:Option aH}{l' n':Option Int}{xs:List D}{c:Cap}{f tie:TI}(hT:bO P tab)(ho:o.op=.slice T x lo hi none)
 (hx:cS t x=some (.lst kk xs c)) (p:gU t lo=some l') (r:gU t hi=some n') (hti:ti tab T=some f) (hs:f.d=.slice e) (hte:ti tab e=some tie) (hk:tie.size=kk) (h1:l'.getD 0=(l:Int)) (h2:n'.getD xs.length=(n:Int)) (s:l≤n) (u:n≤xs.length):∀ H a w,TOK H t a→∃ v,(bL a.eval o).run P w=.ok (.value v) w∧Rep H (.lst kk ((xs.drop l).take (n-l)) .no) v:=fun H a w kt=>by
 obtain ⟨d,g,z⟩:=iY (w:=w) (b4 hT hti);have:=lB (z.trans hs);subst this;have hlen:((xs.drop l).take (n-l)).length=n-l:=by simp;omega
 obtain ⟨hc,hr⟩:=oL (eh kt hx);have key:∀ ad m,a.eval x=.slice ad xs.length m→xs.length≤m→(bL a.eval o).run P w=.ok (.value (.slice (if m=l then ad else ad.map (·.add (l*kk))) (n-l) (m-l))) w:=by
  intro ad m hy j;unfold bL;rw [ho];refine iC ?_;rw [hy];unfold Instr.sliceAt;rw [KL g];simp only [Instr.slice];rw [KL g];have:=Hk (P:=P) (w:=w) kt (isS:=true) (cap:=m) (mx:=none) (m':=none) (m:=m) p r rfl h1 h2 rfl (fun x=>bH rfl x) s (by omega) (Φ _);simp only [oE] at this ⊢;simp only [mw,mJ,this,lD (b4 hT hte),hk]
 rcases hr with ⟨rfl,a0,A,hy,B⟩|⟨b,off,m,hy,j,hE⟩
 ·refine ⟨_,key a0 A hy (by simp),?_⟩;simp only [aB] at u;have hn:n=0:=by omega
  have hl:l=0:=by omega
  subst hn;subst hl;refine j6 ?_ rfl rfl;simp only [RepC,eA,true_and];refine ⟨_,rfl,.inl ⟨by simp,_,_,rfl,fun q=>?_⟩⟩;split at q
  ·rename_i F;rw [F]
  cases a0 with
  | none=>rw [B rfl]
  | some _=>cases q
 refine ⟨_,key _ m hy j,?_⟩;by_cases hml:m=l
 ·rw [aQ hml];have hn:n=l:=by omega
  subst hn;refine j6 ?_ rfl rfl;simp only [RepC,eA,true_and];refine ⟨_,rfl,.inr ⟨b,off,m-n,by simp,by simp,by simp [Els]⟩⟩
 rw [aF hml];refine j6 ?_ rfl rfl;simp only [RepC,eA,true_and];refine ⟨_,rfl,.inr ⟨b,off+l*kk,m-l,by simp [oJ,hlen],by rw [hlen];omega,nX _ (nZ l hE)⟩⟩
def A7 {i l n kk:Nat}{T e:aD}{x:aH}{lo hi:Option aH}{l' n':Option Int}{xs:List D}{c:Cap}{a tie:TI}(hT:bO P tab)(ho:o.op=.slice T x lo hi none)(hw:bC ops t o=some true)(hd:o.dst=some i)(b:aZ i N=true)
 (hx:cS t x=some (.lst kk xs c)) (f:gU t lo=some l') (j:gU t hi=some n') (hti:ti tab T=some a) (hs:a.d=.slice e) (hte:ti tab e=some tie) (hk:tie.size=kk) (h1:l'.getD 0=(l:Int)) (h2:n'.getD xs.length=(n:Int)) (p:l≤n) (q:n≤xs.length)
 (g:a1 P C N ops rest ⟨(i,.lst kk ((xs.drop l).take (n-l)) .no)::t,h,k⟩ Q):a1 P C N ops (o::rest) ⟨t,h,k⟩ Q:=mH (s:=⟨t,h,k⟩) hw hd b (tr hT ho hx f j hti hs hte hk h1 h2 p q) g
end
end
section
open Go
def nY {H:Hp}{k b:Nat}:∀ {xs:List D} {off:Nat},Els H k b off xs→∃ us:List ω,us.length=xs.length*k∧Told H b off us∧(∀ u∈us,one u=true)∧∀ H' b' off',H.le H'→Told H' b' off' us→Els H' k b' off' xs
 | [],off,_=>⟨[],by simp,fun j u e=>by simp at e,by simp,fun _ _ _ _ _=>by simp [Els]⟩
 |
  x::xs,off,h=>by
  simp only [Els] at h;obtain ⟨⟨us,h1,h2,c,a⟩,d⟩:=h;obtain ⟨vs,g1,f,g,n⟩:=nY d;refine ⟨us++vs,by simp [h1,g1,cC];omega,fun j u e=>?_,fun u hu=>?_,fun H' b' off' hle ht=>?_⟩
  ·rw [List.getElem?_append] at e;split at e
   ·exact c j u e
   have:=f _ _ e;rw [show off+k+(j-us.length)=off+j by omega] at this;exact this
  ·rcases dC.1 hu with x|x
   ·exact a u x
   exact g u x
  simp only [Els];refine ⟨⟨us,h1,RepC.mono hle x us h2,fun j u e=>ht j u (by rw [cI (aP.1 e).1];exact e),a⟩,n H' b' (off'+k) hle fun j u e=>?_⟩;have:=ht (us.length+j) u (by rw [mM (by omega)];simpa using e);rw [show off'+(us.length+j)=off'+k+j by omega] at this;exact this
def qC {need cap:Nat}(h:cap<need):eU need cap≤2*need:=by
 unfold eU;split;omega;split;omega;have key:∀ r c,c≤2*need→256≤c→Builtin.growBy need r c≤2*need:=by
  intro r;induction r with
  | zero=>intro c hc _;simpa [Builtin.growBy] using hc
  |
   succ r ih=>
   intro c hc h2;unfold Builtin.growBy;split
   ·exact hc
   exact ih _ (by omega) (by omega)
 exact key 4 cap (by omega) (by omega)
def Jz {P:aJ}{w:aL}{n:Nat}:(askRoom n).run P w=.ok () w:=by unfold askRoom;split<;>rfl
def eX (w:aL):aL:={ w with drawn:=w.drawn+1 }
def Core.drew {C:Ctx}{H:Hp}{h:List (Nat×Blk)}{k:List (Nat×ω)}{w:aL}(c:Core C H h k w):Core C H h k (eX w):=
 ⟨⟨
  fun a v e=>c.ag a v e,c.ag.gg.step (Hp.le_refl H) rfl⟩,c.le,c.new,c.same,c.size,fun p hp=>by
  have:=c.blks p hp;obtain ⟨b,bl⟩:=p;cases bl<;>first|exact this|exact Opq.later _ H H w (eX w) this (Hp.le_refl H) (fun _ _=>rfl) (fun _ _ q=>q),fun p hp=>by
  have:=c.toks p hp;obtain ⟨b,y⟩:=p;exact this,c.nd,c.own,c.env.trans ⟨rfl,rfl,rfl,Φ _⟩⟩
def HJ {P:aJ}{w:aL}{H:Hp}(hA:Ag H w){kk:Nat}{xs:List D}{c:Cap}{v:ω}(hr:Rep H (.lst kk xs c) v) :
  ∃ us:List ω,us.length=xs.length*kk∧(∀ u∈us,one u=true)∧(bW kk xs.length v).run P w=.ok us.toArray w∧∀ H' b' off',H.le H'→Told H' b' off' us→Els H' kk b' off' xs:=by
 obtain ⟨_,h⟩:=oL hr;rcases h with ⟨rfl,a,m,rfl,_⟩|⟨b,off,m,rfl,f,hE⟩
 ·refine ⟨[],by simp,by simp,?_,fun _ _ _ _ _=>by simp [Els]⟩;cases a with
  | none=>rfl
  | some a=>simp only [bW,aB,mD];rfl
 obtain ⟨us,h1,h2,d,e⟩:=nY hE;refine ⟨us,h1,d,?_,e⟩;have:=FI (P:=P) (xs.length*kk) (h2.row hA) (by omega);rw [← h1,List.take_length] at this;simp only [bW];rw [← h1];exact this
def rf {P:aJ}{tab:List (Option TI)}(hT:bO P tab){C:Ctx}{H:Hp}{h:List (Nat×Blk)}{k1 k2:List (Nat×ω)}{w:aL}{kk bb:Nat}{T T' e e':aD}{ty:aD}{Z i1 ie:TI}{xs ys:List D}{c c':Cap}{v1 v2:ω}
  (core:Core C H h (k1++k2) w) (U:(k1=[]∧c=.full)∨(k1=[(kk,v1)]∧c=.cur v1)) (hx:Rep H (.lst kk xs c) v1) (hy:Rep H (.lst kk ys c') v2)
  (ae:ti tab T=some Z) (af:Z.d=.slice e) (ah:ti tab T'=some i1) (ai:i1.d=.slice e') (hie:ti tab e=some ie) (hks:ie.size=kk) (hbb:ie.bytes=bb) (hz:ie.zero.length=kk) (aj:1≤bb) (hbound:(xs.length+ys.length)*bb≤140737488355328) :
  ∃ v w' H',(dZ #[T,T'] ty #[v1,v2]).run P w=.ok v w'∧H.le H'∧Core C H' h ((kk,v)::k2) w'∧Rep H' (.lst kk (xs++ys) (.cur v)) v:=by
 subst hks;subst hbb;have hTe:=b4 hT hie;obtain ⟨d0,u0,u1⟩:=iY (w:=w) (b4 hT ae);obtain rfl:=lB (u1.trans af);obtain ⟨d1,u2,u3⟩:=iY (w:=w) (b4 hT ah);obtain rfl:=lB (u3.trans ai);obtain ⟨tif,z,t1,t2,t3,t4,t5⟩:=Co (w:=w) hTe;obtain ⟨bv,f1,f2,f3,f4⟩:=HJ (P:=P) core.ag hx;obtain ⟨f,g1,g2,g3,g4⟩:=HJ (P:=P) core.ag hy;obtain ⟨a2,m2,ey⟩:=Cj hy;have aw:(zi v2).run P w=.ok ys.length w:=by rw [ey];rfl
 obtain ⟨hc,hxr⟩:=oL hx;have hneed:xs.length+ys.length≤140737488355328:=eJ (Nat.le_mul_of_pos_right _ aj) hbound;have start:∀ base cap,v1=.slice base xs.length cap→(dZ #[T,T'] ty #[v1,v2]).run P w =
   (
    if
      xs.length+ys.length≤cap then (do
      let new ← bW ie.size ys.length v2
      if let some a:=base then storeCells (a.add (xs.length*ie.size)) new.toList
      pure (.slice base (xs.length+ys.length) cap):Sem ω)
    else (do
      if ((xs.length + ys.length : Nat) : Int)>ζ.max ∧ ((false = true) ∨ (← eR e).bytes = 0) then runtimePanic (.error "growslice: len out of range")
      if eU (xs.length + ys.length) cap * (← eR e).bytes>2 ^ 48 then (if false then runtimePanic (.error "growslice: len out of range") else do
       if !(← Builtin.mayShare ie.size xs.length ys.length base v2) then mark .noRoom
       unsupported (.resourceLimit "append: a slice or a string whose bytes no memory bears"))
      let newCap ← choose (.appendCap (xs.length+ys.length) cap e)
      askRoom (newCap*(← eR e).bytes)
      let old ← bW ie.size xs.length v1
      let new ← bW ie.size ys.length v2
      let rest:=d9 (← ry e).cells (newCap-(xs.length+ys.length));pure (.slice (some (← newRow e (old++new++rest))) (xs.length+ys.length) newCap):Sem ω)).run P w:=by
  intro base cap hv;subst hv;unfold dZ;simp only [cR,dB,fY];rw [KL u0];simp only [];rw [KL (lD hTe)];rw [KL u2];simp only [];rw [KL (a:=false) (w':=w) rfl];simp only [cP,bE];rw [KL aw];simp only [a3,bR];rfl
 by_cases hA:∃ base cap,v1=.slice base xs.length cap∧xs.length+ys.length≤cap
 ·obtain ⟨base,cap,hv,hle⟩:=hA;rw [start base cap hv,aQ hle];rw [KL g3];by_cases J:ys=[]
  ·
   subst J;have ax:f=[]:=fd (by simpa using g1);subst ax;refine ⟨v1,w,H,?_,Hp.le_refl H,?_,?_⟩
   · rw [hv];cases base with
     | none=>rfl
     | some a=>simp only [storeCells];rfl
   · rcases U with ⟨rfl,rfl⟩|⟨rfl,rfl⟩
     ·
      have hcl:my (ie.size,v1)=[]:=by
       rw [hv] at hc ⊢;simp only [eA] at hc;subst hc;cases base<;>simp [my]
      have ht:TokOK H w (ie.size,v1):=by
       intro a n m ev hlt;rw [hv] at hc ev;simp only [eA] at hc;simp only [bP] at ev;obtain ⟨_,rfl,rfl⟩:=ev;omega
      refine ⟨core.ag,core.le,core.new,core.same,core.size,core.blks,?_,?_,?_,core.env⟩
      ·intro p hp;rcases cX.1 hp with rfl|hp
       ·exact ht
       exact core.toks p hp
      ·have:K4 h ((ie.size,v1)::k2)=K4 h k2:=by simp [K4,eQ,hcl]
       rw [this];exact core.nd
      have:K4 h ((ie.size,v1)::k2)=K4 h k2:=by simp [K4,eQ,hcl]
      rw [this];exact core.own
     exact core
   refine j6 ?_ (by rw [hv];rfl) rfl;simp only [RepC,eA,aN];exact ⟨v1,rfl,rfl,hxr⟩
  ·
   have hpos:0<ys.length:=List.length_pos_iff.2 J;rcases U with ⟨rfl,rfl⟩|⟨rfl,rfl⟩
   · rw [hv] at hc;simp only [eA] at hc;omega
   obtain ⟨b,off,hbase,hE⟩:∃ b off,base=some ⟨b,off,none⟩∧Els H ie.size b off xs:=by
     rcases hxr with ⟨hnil,a,m,hs,ay⟩|⟨b,off,m,hs,hmle,hE⟩
     ·rw [hv] at hs;simp only [bP] at hs;obtain ⟨rfl,h1,rfl⟩:=hs;cases base with
      | none=>have:=ay rfl;omega
      |
       some a=>
       obtain ⟨cs,TT,_,hspot,_⟩:=core.toks (ie.size,v1) (by simp) a xs.length cap hv (by omega);obtain ⟨ab,ao,as_⟩:=a;simp only at hspot;subst hspot;exact ⟨ab,ao,rfl,by rw [hnil];simp [Els]⟩
     rw [hv] at hs;simp only [bP] at hs;exact ⟨b,off,hs.1,hE⟩
   subst hbase;obtain ⟨cs,TT,h1,_,h3,B⟩:=core.toks (ie.size,v1) (by simp) ⟨b,off,none⟩ xs.length cap hv (by omega);simp only at h1 h3 B;have hsz:off+xs.length*ie.size+f.length≤cs.toList.length:=by
     rw [g1];have:(xs.length+ys.length)*ie.size≤cap*ie.size:=dF _ hle;rw [cC] at this;simp only [b9];omega
   have cb:off+xs.length*ie.size+f.length≤cs.size:=by rw [← b9];exact hsz
   obtain ⟨w',s1,s2,s3,V,F⟩:=Ao (P:=P) (b:=b) (off:=off+xs.length*ie.size) (T:=TT) f 0 w cs.toList (by simpa using h1) (by omega) g2;simp only [gY] at F;let H':Hp:=fun a=>if a.block=b∧a.spot=none∧off+xs.length*ie.size≤a.off∧a.off<off+xs.length*ie.size+f.length then f[a.off-(off+xs.length*ie.size)]? else H a
   have hle':H.le H':=fun a A ea=>by
     show (if a.block=b∧a.spot=none∧off+xs.length*ie.size≤a.off∧a.off<off+xs.length*ie.size+f.length then f[a.off-(off+xs.length*ie.size)]? else H a)=some A
     rw [aF]
     ·exact ea
     rintro ⟨K,L,G,I⟩;obtain ⟨ab,ao,as_⟩:=a;simp only at K L G I;subst K;subst L;rw [B ao G] at ea;cases ea
   have hnew:∀ j u,f[j]? = some u→H' ⟨b,off+xs.length*ie.size+j,none⟩=some u:=fun j u ej=>by
     have hj:=(aP.1 ej).1;show (if b=b∧(none:Option Nat)=none∧off+xs.length*ie.size≤off+xs.length*ie.size+j∧off+xs.length*ie.size+j<off+xs.length*ie.size+f.length then f[off+xs.length*ie.size+j-(off+xs.length*ie.size)]? else H _)=some u
     rw [aQ ⟨rfl,rfl,by omega,by omega⟩,Nat.add_sub_cancel_left];exact ej
   have hclaim:K4 [] [(ie.size,v1)]=[b]:=by
     rw [hv];simp only [K4,my,fg,cA,gT,a8,aN];rw [aQ (by omega)]
   have bd:GG H' w':=by
     refine core.ag.gg.step hle' ?_;by_cases q:tabG=b
     ·obtain ⟨_,⟨v',W⟩,T2,ce,M⟩:=core.ag.gg;rw [q] at W M ⊢;have hlt:19<off+xs.length*ie.size:=by
       rcases fU 19 (off+xs.length*ie.size) with x|x
       ·exact x
       rw [B 19 x] at W;cases W
      have ec:cs=tabC.toArray:=by
       rw [h1] at M;simp only [aA,mC] at M;exact M.1
      have hcl:cs.toList.length=20:=by rw [ec];simp [tabC,Lib.pow10Tab]
      have hu:f=[]:=fd (by omega);have hcs:cs.size=20:=by simpa using hcl
      rw [F,h1,hu,cV (by omega),a8,aB,gY,rx (by omega),aN]
     exact V _ q
   have local1:Core ⟨H,w,K4 [] [(ie.size,v1)]⟩ H' [] [(ie.size,.slice (some ⟨b,off,none⟩) (xs.length+ys.length) cap)] w':=by
     rw [hclaim];refine ⟨⟨fun a A ea=>?_,bd⟩,hle',fun a A ea=>?_,fun i _ J=>V i (by simpa using J),by show w.heap.size≤w'.heap.size;omega,by simp,?_,?_,?_,s2⟩
     ·by_cases q:a.block=b∧a.spot=none∧off+xs.length*ie.size≤a.off∧a.off<off+xs.length*ie.size+f.length
      ·have ea':f[a.off-(off+xs.length*ie.size)]? = some A:=by
        have:H' a=f[a.off-(off+xs.length*ie.size)]?:=aQ q;rw [this] at ea;exact ea
       obtain ⟨K,L,G,I⟩:=q;simp only [aO,K,F,L,lG,cP,bE,cR];rw [mM (by simp;omega),cI (by simp;omega)];rw [show a.off-(cs.toList.take (off+xs.length*ie.size)).length=a.off-(off+xs.length*ie.size) by simp;omega];exact ea'
      have ea':H a=some A:=by
       have:H' a=H a:=aF q;rw [this] at ea;exact ea
      have hcell:=core.ag a A ea';by_cases qb:a.block=b
      ·obtain ⟨ab,ao,as_⟩:=a;simp only at qb;subst qb;cases as_ with
       | some sp=>simp [aO,h1] at hcell
       |
        none=>
        have hlt:ao<off+xs.length*ie.size:=by
         rcases fU ao (off+xs.length*ie.size) with x|x
         ·exact x
         rw [B ao x] at ea';cases ea'
        simp only [aO,h1,F,lG,cP,bE,cR] at hcell ⊢;rw [cI (by simp;omega),List.getElem?_take,aQ hlt];simpa using hcell
      simp only [aO] at hcell ⊢;rw [V _ qb];exact hcell
     ·by_cases q:a.block=b∧a.spot=none∧off+xs.length*ie.size≤a.off∧a.off<off+xs.length*ie.size+f.length
      ·exact .inr (.inr (by simp [q.1]))
      have:H' a=H a:=aF q;rw [this] at ea;exact .inl ea
     ·intro p hp;simp only [aT] at hp;subst hp;intro a n m ev hlt;simp only [bP,aA] at ev;obtain ⟨rfl,rfl,rfl⟩:=ev;refine ⟨_,TT,F,rfl,?_,fun o ho=>?_⟩
      ·simp only [List.size_toArray,υ,kX,eD,b9] at hsz ⊢;omega
      simp only at ho ⊢;have:H' ⟨b,o,none⟩=H ⟨b,o,none⟩:=aF (by rintro ⟨_,_,G,I⟩;simp only at G I;rw [g1] at I;rw [cC] at ho;omega);rw [this];exact B o (by rw [cC] at ho;omega)
     ·simp only [K4,my,fg,cA,gT,a8,aN];split<;>simp
     intro x hx';simp only [K4,my,fg,cA,gT,a8,aN] at hx';split at hx'
     ·exact .inl (by simpa using hx')
     cases hx'
   have:=Core.call (h1:=[]) (k1:=[(ie.size,v1)]) (h2:=h) (k2:=k2) (by simpa using core) local1;refine ⟨.slice (some ⟨b,off,none⟩) (xs.length+ys.length) cap,w',H',?_,hle',by simpa using this,?_⟩
   · simp only [oJ];rw [KL s1];rfl
   refine j6 ?_ rfl rfl;simp only [RepC,eA];refine ⟨_,rfl,rfl,.inr ⟨b,off,cap,by simp,by simpa using hle,?_⟩⟩;exact Jp (Els.mono hle' _ _ _ _ hE) (g4 H' b _ hle' hnew)
 ·
  have hv:∃ base cap,v1=.slice base xs.length cap:=Cj hx;obtain ⟨base,cap,hv⟩:=hv;have hgt:¬ xs.length+ys.length≤cap:=fun x=>hA ⟨base,cap,hv,x⟩
  rw [start base cap hv,aF hgt];have hti:(eR e).run P w=.ok tif w:=t1;have hbytes:tif.bytes=ie.bytes:=t3;have be:¬ (((xs.length+ys.length:Nat):Int)>ζ.max∧((false=true)∨tif.bytes=0)):=by
   rintro ⟨_,q|q⟩
   · cases q
   omega
  have bf:¬ (eU (xs.length+ys.length) cap*tif.bytes>2 ^ 48):=by
   have h5:=qC (Nat.lt_of_not_le hgt);have h6:eU (xs.length+ys.length) cap*ie.bytes≤2*(xs.length+ys.length)*ie.bytes:=dF _ h5;rw [Nat.mul_assoc] at h6;rw [hbytes];omega
  have hforced:∀ need,(Question.appendCap need cap e).forced=false:=fun _=>rfl
  obtain ⟨newCap,hcap,hchoose⟩:∃ newCap,xs.length+ys.length≤newCap∧(choose (.appendCap (xs.length+ys.length) cap e)).run P w=.ok newCap (eX w):=by
   refine ⟨_,?_,by simp only [choose,gX,hforced];rfl⟩;simp only [Question.cut];omega
  have hzv:∃ z,(ry e).run P (eX w)=.ok z (eX w)∧z.cells.toList=ie.zero:=wZ hTe;obtain ⟨zz,bi,bj⟩:=hzv;have Y:∃ O,(eR e).run P (eX w)=.ok O (eX w):=by
   obtain ⟨O,_,q,_⟩:=Co (w:=eX w) hTe;exact ⟨O,q⟩
  obtain ⟨O,Y⟩:=Y;have R:=core.drew;obtain ⟨g,bk,cf,bl,bm⟩:=HJ (P:=P) R.ag hx;obtain ⟨r,bn,cg,bo,bp⟩:=HJ (P:=P) R.ag hy;let restA:=d9 zz.cells (newCap-(xs.length+ys.length));have hrest:restA.size=(newCap-(xs.length+ys.length))*ie.size:=by
   show (d9 zz.cells _).size=_
   unfold d9;simp only [Array.size_map,Array.size_range];have:zz.cells.size=ie.size:=by rw [← b9,bj,hz]
   rw [this]
  have hrun:((do
      if ((xs.length + ys.length : Nat) : Int)>ζ.max ∧ ((false = true) ∨ (← eR e).bytes = 0) then runtimePanic (.error "growslice: len out of range")
      if eU (xs.length + ys.length) cap * (← eR e).bytes>2 ^ 48 then (if false then runtimePanic (.error "growslice: len out of range") else do
       if !(← Builtin.mayShare ie.size xs.length ys.length base v2) then mark .noRoom
       unsupported (.resourceLimit "append: a slice or a string whose bytes no memory bears"))
      let newCap ← choose (.appendCap (xs.length+ys.length) cap e)
      askRoom (newCap*(← eR e).bytes)
      let old ← bW ie.size xs.length v1
      let new ← bW ie.size ys.length v2
      let rest:=d9 (← ry e).cells (newCap-(xs.length+ys.length));pure (.slice (some (← newRow e (old++new++rest))) (xs.length+ys.length) newCap):Sem ω)).run P w =
     .ok (.slice (some ⟨w.heap.size,0,none⟩) (xs.length+ys.length) newCap) ((eX w).alloc (.cells (g.toArray++r.toArray++restA) e)):=by
   rw [KL hti];rw [aF be];rw [KL hti];rw [aF bf];rw [KL hchoose,KL Y,KL Jz,KL bl,KL bo,KL bi];rfl
  rw [hrun];have ac:g.length=xs.length*ie.size:=bk;have ad:r.length=ys.length*ie.size:=bn;have earr:g.toArray++r.toArray++restA=((g++r)++restA.toList).toArray:=by simp
  rw [earr];have hsizew:(eX w).heap.size=w.heap.size:=rfl;obtain ⟨hle',s,told⟩:=Core.allocTold (Core.here R.ag) (us:=g++r) (vs:=(g++r)++restA.toList) e (fun j u ej=>by rw [cI (aP.1 ej).1];exact ej);rw [hsizew] at hle' s told;have hcells:((eX w).alloc (.cells ((g++r)++restA.toList).toArray e)).heap[w.heap.size]? = some (.cells ((g++r)++restA.toList).toArray e (0,0)):=by
   rw [ld,hsizew,aQ rfl]
  have local1:Core ⟨H,eX w,[]⟩ (jW H w.heap.size (g++r)) [] [(ie.size,.slice (some ⟨w.heap.size,0,none⟩) (xs.length+ys.length) newCap)] ((eX w).alloc (.cells ((g++r)++restA.toList).toArray e)):=by
   refine ⟨s.ag,s.le,s.new,s.same,s.size,by simp,?_,?_,?_,s.env⟩
   · intro p hp;simp only [aT] at hp;subst hp;intro a n m ev hlt;simp only [bP,aA] at ev;obtain ⟨rfl,rfl,rfl⟩:=ev;refine ⟨_,e,hcells,rfl,?_,fun o ho=>?_⟩
     ·simp only [List.size_toArray,υ,b9,hrest,ac,ad,cH];rw [← cC,← cC];exact dF _ (by omega)
     simp only [cH] at ho;show jW H w.heap.size (g++r) ⟨w.heap.size,o,none⟩=none
     unfold jW;rw [aQ ⟨rfl,rfl⟩];rw [jq];simp only [υ,ac,ad,← cC];exact ho
   · simp only [K4,my,fg,cA,gT,a8,aN];split<;>simp
   intro x hx';simp only [K4,my,fg,cA,gT,a8,aN] at hx';split at hx'
   ·simp at hx';subst hx';exact .inr (Φ _)
   cases hx'
  have coreD:=R.drop (h':=h) (k':=k2) (bT _) (by
   rcases U with ⟨rfl,_⟩|⟨rfl,_⟩
   · exact bT _
   exact List.sublist_append_right _ _)
  have:=Core.call (h1:=[]) (k1:=[]) (h2:=h) (k2:=k2) (by simpa using coreD) local1;refine ⟨_,_,_,rfl,hle',by simpa using this,?_⟩;refine j6 ?_ rfl rfl;simp only [RepC,eA];refine ⟨_,rfl,rfl,.inr ⟨w.heap.size,0,newCap,by simp,by simpa using hcap,?_⟩⟩;refine Jp (bm _ _ _ hle' fun j u ej=>?_) (bp _ _ _ hle' fun j u ej=>?_)
  ·exact told j u (by rw [cI (aP.1 ej).1];exact ej)
  have:=told (g.length+j) u (by rw [mM (by omega)];simpa using ej);rw [show 0+xs.length*ie.size+j=0+(g.length+j) by omega];exact this
end
section
open Go
section
variable {P:aJ}{C:Ctx}{N:Nat}{ops rest:List bG}{o:bG}{t:List (Nat × D)}{h:List (Nat × Blk)}{k:List (Nat × ω)}{Q:dH→S→Prop}{tab:List (Option TI)}
def IG {i kk bb:Nat}{T T' e e':aD}{x y:aH}{xs ys:List D}{c c':Cap}{b f ie:TI}{k1 k2:List (Nat×ω)}(hT:bO P tab)(ho:o.op=.call ⟨.builtin .append,[x,y].toArray,#[T,T']⟩)(hw:bC ops t o=some true)(hd:o.dst=some i)(hi:aZ i N=true)
  (hx:∀ H a,TOK H t a→Rep H (.lst kk xs c) (a.eval x)) (hy:cS t y=some (.lst kk ys c')) (j:∀ H a,TOK H t a→(k1=[]∧c=.full)∨(k1=[(kk,a.eval x)]∧c=.cur (a.eval x))) (hkk:k.Perm (k1++k2))
  (n:ti tab T=some b) (p:b.d=.slice e) (q:ti tab T'=some f) (r:f.d=.slice e') (hie:ti tab e=some ie) (hks:ie.size=kk) (hbb:ie.bytes=bb) (hz:ie.zero.length=kk) (u:1≤bb) (hbound:(xs.length+ys.length)*bb≤140737488355328)
  (g:∀ v,a1 P C N ops rest ⟨(i,.lst kk (xs++ys) (.cur v))::t,h,(kk,v)::k2⟩ Q):a1 P C N ops (o::rest) ⟨t,h,k⟩ Q:=
 ko (s:=⟨t,h,k⟩) hw hd hi fun H a w core kt=>by
  obtain ⟨v,w',H',h1,h2,z,A⟩:=rf (P:=P) (ty:=o.type) hT (core.perm (aM _) hkk) (j H a kt) (hx H a kt) (eh kt hy) n p q r hie hks hbb hz u hbound;exact ⟨v,w',H',_,h,(kk,v)::k2,sI (s:=dZ) ho (fun _ _=>rfl) (by simpa using h1),h2,z,A,g v⟩
def uF {i kk bb:Nat}{T T' e e':aD}{x y:aH}{xs ys:List D}{c':Cap}{a b ie:TI}(hT:bO P tab)(ho:o.op=.call ⟨.builtin .append,[x,y].toArray,#[T,T']⟩)(hw:bC ops t o=some true)(hd:o.dst=some i)(hi:aZ i N=true)
  (hx:cS t x=some (.lst kk xs .full)) (hy:cS t y=some (.lst kk ys c'))
  (c:ti tab T=some a) (f:a.d=.slice e) (j:ti tab T'=some b) (n:b.d=.slice e') (hie:ti tab e=some ie) (hks:ie.size=kk) (hbb:ie.bytes=bb) (hz:ie.zero.length=kk) (p:cK 1 bb=true) (hbound:(xs.length+ys.length)*bb≤140737488355328)
  (g:∀ v,a1 P C N ops rest ⟨(i,.lst kk (xs++ys) (.cur v))::t,h,(kk,v)::k⟩ Q):a1 P C N ops (o::rest) ⟨t,h,k⟩ Q:=
 IG (k1:=[]) hT ho hw hd hi (fun _ _ kt=>eh kt hx) hy (fun _ _ _=>.inl ⟨rfl,rfl⟩) (aM _) c f j n hie hks hbb hz (bS p) hbound g
def ma {i kk f bb:Nat}{T T' e e':aD}{x y:aH}{ys:List D}{c':Cap}{b c ie:TI}(hT:bO P tab)(ho:o.op=.call ⟨.builtin .append,[x,y].toArray,#[T,T']⟩)(hw:bC ops t o=some true)(hd:o.dst=some i)(hi:aZ i N=true)
  (hx:cS t x=some (.lst f [] .full)) (hy:cS t y=some (.lst kk ys c'))
  (j:ti tab T=some b) (n:b.d=.slice e) (p:ti tab T'=some c) (q:c.d=.slice e') (hie:ti tab e=some ie) (hks:ie.size=kk) (hbb:ie.bytes=bb) (hz:ie.zero.length=kk) (r:cK 1 bb=true) (hbound:ys.length*bb≤140737488355328)
  (g:∀ v,a1 P C N ops rest ⟨(i,.lst kk ys (.cur v))::t,h,(kk,v)::k⟩ Q):a1 P C N ops (o::rest) ⟨t,h,k⟩ Q:=
 IG (k1:=[]) (xs:=[]) hT ho hw hd hi (fun H a kt=>Wk.nil H _ (eh kt hx)) hy (fun _ _ _=>.inl ⟨rfl,rfl⟩) (aM _) j n p q hie hks hbb hz (bS r) (by simpa using hbound) g
def N0 {i kk bb:Nat}{T T' e e':aD}{x y:aH}{xs ys:List D}{c':Cap}{b:ω}{c f ie:TI}{k2:List (Nat×ω)}(j:Nat)(hT:bO P tab)(ho:o.op=.call ⟨.builtin .append,[x,y].toArray,#[T,T']⟩)(hw:bC ops t o=some true)(hd:o.dst=some i)(hi:aZ i N=true)
  (hx:cS t x=some (.lst kk xs (.cur b))) (hy:cS t y=some (.lst kk ys c')) (hj:k[j]? = some (kk,b)) (he:k.eraseIdx j=k2)
  (n:ti tab T=some c) (p:c.d=.slice e) (q:ti tab T'=some f) (r:f.d=.slice e') (hie:ti tab e=some ie) (hks:ie.size=kk) (hbb:ie.bytes=bb) (hz:ie.zero.length=kk) (s:cK 1 bb=true) (hbound:(xs.length+ys.length)*bb≤140737488355328)
  (g:∀ v,a1 P C N ops rest ⟨(i,.lst kk (xs++ys) (.cur v))::t,h,(kk,v)::k2⟩ Q):a1 P C N ops (o::rest) ⟨t,h,k⟩ Q:=
 IG (k1:=[(kk,b)]) hT ho hw hd hi (fun _ _ kt=>eh kt hx) hy (fun H a kt=>by
  have:=(oL (eh kt hx)).1;simp only [eA] at this;rw [this];exact .inr ⟨rfl,rfl⟩) (he ▸ KO hj) n p q r hie hks hbb hz (bS s) hbound g
end
def rh (agg:Bool)(k:Nat):Nat→List D→List D
 | 0,_=>[]
 | n+1,r=>(bif agg then .agg (r.take k) else r.headD .any)::rh agg k n (r.drop k)
def LU {H:Hp}{k b:Nat}{agg:Bool}(hk:agg=false→k=1):∀ (n:Nat) {r:List D} {us:List ω} {off:Nat},Reps H r us→r.length=n*k→Told H b off us→Els H k b off (rh agg k n r)
 | 0,r,us,off,_,_,_=>by simp [rh,Els]
 |
  n+1,r,us,off,hr,hl,ht=>by
  have hul:=wh hr;have hkl:k≤r.length:=by rw [hl,cC];omega
  simp only [rh,Els];refine ⟨⟨us.take k,by simp;omega,?_,LY ht k,fun u hu=>BV hr u (List.mem_of_mem_take hu)⟩,?_⟩
  ·cases agg with
   | true=>simp only [ξ,RepC];exact Da k hr
   |
    false=>
    have:=hk rfl;subst this;simp only [θ];cases r with
    | nil=>simp at hkl
    |
     cons d r=>
     simp only [Reps] at hr;obtain ⟨u,us',rfl,h1,_⟩:=hr;simpa using h1.1
  exact LU hk n (Db k hr) (by simp [hl,cC]) (LZ ht k)
def JQ {agg:Bool}{k:Nat}:∀ (n:Nat) (r:List D),(rh agg k n r).length=n
 | 0,_=>rfl
 | n+1,r=>by simp [rh,JQ n]
def MP {tab:List (Option TI)}{fs:List (Nat×Nat)}{t:List (Nat×D)}:∀ {ps:List (Nat×aH)} {cs r:List D},oz tab fs t ps cs=some r→r.length=cs.length
 | [],cs,r,e=>by simp [oz] at e;rw [e]
 |
  (f,x)::ps,cs,r,e=>by
  simp only [oz] at e;split at e
  ·split at e
   ·rename_i fl _ _ _ j d _ _;cases hb:(iv d && bM (eK d).length j.size && cK (fl.2+j.size) cs.length) with
    | false=>rw [hb] at e;cases e
    |
     true=>
     rw [hb] at e;simp only [ξ] at e;simp only [aR] at hb;have h2:=aX hb.1.2;have a:=bS hb.2;rw [MP e,pC (by omega)]
   cases e
  cases e
section
variable {P:aJ}{C:Ctx}{N:Nat}{ops rest:List bG}{o:bG}{t:List (Nat × D)}{h:List (Nat × Blk)}{k:List (Nat × ω)}{Q:dH→S→Prop}{tab:List (Option TI)}
abbrev ExE (P:aJ)(o:bG)(t:List (Nat×D))(d:D):Prop:=∀ H a w,Ag H w→TOK H t a→∃ v w' H',(bL a.eval o).run P w=.ok (.value v) w'∧Core ⟨H,w,[]⟩ H' [] [] w'∧Rep H' d v
def Ll {i:Nat}{d:D}(hx:ExE P o t d)(hw:bC ops t o=some true)(hd:o.dst=some i)(hi:aZ i N=true)(g:a1 P C N ops rest ⟨(i,d)::t,h,k⟩ Q):a1 P C N ops (o::rest) ⟨t,h,k⟩ Q:=
 ko (s:=⟨t,h,k⟩) hw hd hi fun H a w core kt=>by
  obtain ⟨v,w',H',h1,h2,b⟩:=hx H a w core.ag kt;exact ⟨v,w',H',_,h,k,h1,h2.le,by simpa using Core.call (h1:=[]) (k1:=[]) (h2:=h) (k2:=k) core h2,b,g⟩
def tt {n kk:Nat}{T e:aD}{ps:Array (Nat×aH)}{b ie:TI}{r:List D}(hT:bO P tab)(ho:o.op=.buildSlice T n ps)
 (q:ti tab T=some b) (s:b.d=.slice e) (hie:ti tab e=some ie) (hks:ie.size=kk) (hz:ie.zero.all one=true) (hzl:bM ie.zero.length kk=true) (hpos:cK 1 (n*kk)=true) (hmax:cK (n*kk) 16777216=true) (hag:(ie.agg || bM kk 1)=true)
 (er:oz tab ((ff n).map fun j=>(e,j*kk)) t ps.toList (aV (n*kk) .any)=some r):∀ H a w,Ag H w→TOK H t a→∃ w' H',(bL a.eval o).run P w=.ok (.value (.slice (some ⟨w.heap.size,0,none⟩) n n)) w'∧Core ⟨H,w,[]⟩ H' [] [] w'∧Rep H' (.lst kk (rh ie.agg kk n r) .full) (.slice (some ⟨w.heap.size,0,none⟩) n n):=fun H a w hA kt=>by
 have core:Core ⟨H,w,[]⟩ H [] [] w:=Core.here hA;subst hks;obtain ⟨d0,A,B⟩:=iY (w:=w) (b4 hT q);obtain rfl:=lB (B.trans s);obtain ⟨z,F,c⟩:=wZ (w:=w) (b4 hT hie);have hpos:=bS hpos;have hmax:=bS hmax;have hzl:=aX hzl;have hzs:z.cells.size=ie.size:=by rw [← b9,c,hzl]
 have hkp:0<ie.size:=by
  rcases lh ie.size with x|x
  ·rw [x] at hpos;omega
  exact x
 let init:List ω:=((Array.range (n*ie.size)).map fun j=>z.cells[j%z.cells.size]!).toList;have hil:init.length=n*ie.size:=by simp [init]
 have G:∀ u∈init,one u=true:=by
  intro u hu;simp only [init,Array.toList_map,List.mem_map] at hu;obtain ⟨j,_,rfl⟩:=hu;rw [bY] at hz;have hlt:j%z.cells.size<z.cells.size:=Nat.mod_lt _ (by omega);rw [getElem!_pos z.cells _ hlt];apply hz;rw [← c];exact Array.getElem_mem_toList hlt
 have hany:∀ (us:List ω),(∀ u∈us,one u=true)→Reps H (aV us.length .any) us:=by
  intro us;induction us with
  | nil=>intro _;simp [Reps]
  |
   cons u us ih=>
   intro hu;simp only [Ψ,List.replicate_succ,Reps];exact ⟨u,us,rfl,⟨by simp [RepC],hu u (by simp),rfl⟩,ih fun x hx=>hu x (by simp [hx])⟩
 have g:=hany init G;rw [hil] at g;obtain ⟨vs,f1,I⟩:=GF (P:=P) (place:=fun j=>some (j*ie.size,ie.size)) hT kt (fs:=(ff n).map fun j=>(e,j*ie.size)) (by
  intro f fl j hf hj;rw [f9,fF] at hf;obtain ⟨x,J,K⟩:=hf;have hx:=(aP.1 J).2;simp at hx;subst hx;subst K;simp only at hj;rw [hie] at hj;cases hj;rfl) ps.toList _ _ r g er
 have hrl:=MP er;simp only [List.length_replicate] at hrl;obtain ⟨hle,core',told⟩:=core.allocTold (us:=vs) (vs:=vs) e (fun _ _ x=>x);refine ⟨_,_,?_,core',?_⟩
 ·unfold bL;rw [ho];refine iC ?_;unfold Instr.buildSlice;rw [KL A];simp only [];rw [KL (lD (b4 hT hie))];rw [aF (by omega)];rw [aF (show ¬ n*ie.size=0 by omega),KL F];rw [KL (a:=z.cells) (w':=w) rfl];have L:(ps.map fun x=>(x.1,a.eval x.2)).toList=ps.toList.map fun p=>(p.1,a.eval p.2):=by simp
  have M:(Array.range (n*ie.size)).map (fun j=>z.cells[j%z.cells.size]!)=init.toArray:=(Array.toArray_toList).symm;rw [L,M];simp only [f1];rfl
 refine j6 ?_ rfl rfl;simp only [RepC,eA];refine ⟨_,rfl,rfl,.inr ⟨w.heap.size,0,n,by rw [JQ],by rw [JQ];exact Φ _,?_⟩⟩;refine LU ?_ n (Reps.mono hle _ _ I) hrl told;intro hf;rw [hf] at hag;simpa using hag
def iP {n kk:Nat}{T e:aD}{ps:Array (Nat×aH)}{b ie:TI}{r:List D}(hT:bO P tab)(ho:o.op=.buildSlice T n ps)
 (c:ti tab T=some b) (f:b.d=.slice e) (hie:ti tab e=some ie) (hks:ie.size=kk) (hz:ie.zero.all one=true) (hzl:bM ie.zero.length kk=true) (hpos:cK 1 (n*kk)=true) (hmax:cK (n*kk) 16777216=true) (hag:(ie.agg || bM kk 1)=true)
 (er:oz tab ((ff n).map fun j=>(e,j*kk)) t ps.toList (aV (n*kk) .any)=some r):ExE P o t (.lst kk (rh ie.agg kk n r) .full):=fun H a w hA kt=>let ⟨w',H',h1,h2,g⟩:=tt hT ho c f hie hks hz hzl hpos hmax hag er H a w hA kt;⟨_,w',H',h1,h2,g⟩
def Ew {i n kk:Nat}{T e:aD}{ps:Array (Nat×aH)}{a ie:TI}{r:List D}(hT:bO P tab)(ho:o.op=.buildSlice T n ps)(hw:bC ops t o=some true)(hd:o.dst=some i)(hi:aZ i N=true)
  (b:ti tab T=some a) (c:a.d=.slice e) (hie:ti tab e=some ie) (hks:ie.size=kk) (hz:ie.zero.all one=true) (hzl:bM ie.zero.length kk=true) (hpos:cK 1 (n*kk)=true) (hmax:cK (n*kk) 16777216=true) (hag:(ie.agg || bM kk 1)=true)
  (er:oz tab ((ff n).map fun j=>(e,j*kk)) t ps.toList (aV (n*kk) .any)=some r) (g:a1 P C N ops rest ⟨(i,.lst kk (rh ie.agg kk n r) .full)::t,h,k⟩ Q):a1 P C N ops (o::rest) ⟨t,h,k⟩ Q:=
 Ll (iP hT ho b c hie hks hz hzl hpos hmax hag er) hw hd hi g
def A9 {i kk:Nat}{T e:aD}{b ie:TI}(hT:bO P tab)(ho:o.op=.buildSlice T 0 #[])(hw:bC ops t o=some true)(hd:o.dst=some i)(hi:aZ i N=true)
  (c:ti tab T=some b) (f:b.d=.slice e) (hie:ti tab e=some ie) (_hks:ie.size=kk) (g:a1 P C N ops rest ⟨(i,.lst kk [] .full)::t,h,k⟩ Q):a1 P C N ops (o::rest) ⟨t,h,k⟩ Q:=
 ko (s:=⟨t,h,k⟩) hw hd hi fun H a w core kt=>by
  obtain ⟨d0,j,n⟩:=iY (w:=w) (b4 hT c);obtain rfl:=lB (n.trans f);obtain ⟨hle,core',told⟩:=core.allocTold (us:=[]) (vs:=[]) e (fun _ _ x=>x);refine ⟨.slice (some ⟨w.heap.size,0,none⟩) 0 0,_,_,_,h,k,?_,hle,core',?_,g⟩
  ·unfold bL;rw [ho];refine iC ?_;unfold Instr.buildSlice;rw [KL j];simp only [];rw [KL (lD (b4 hT hie))];simp only [mD];rw [aF (by decide),aQ trivial,KL (a:=#[]) (w':=w) rfl];have p:Array.map (fun x=>(#[]:Array ω)[x%(#[]:Array ω).size]!) (Array.range 0)=#[]:=by simp
   have r:(Array.map (fun x:Nat×aH=>(x.1,a.eval x.2)) #[]).toList=[]:=by simp
   rw [p,r];rfl
  refine j6 ?_ rfl rfl;simp only [RepC,eA];exact ⟨_,rfl,by trivial,.inl ⟨by trivial,_,_,rfl,fun q=>by cases q⟩⟩
def dW (b:aC):D:=.v (.int .u8 b.toNat)
abbrev c7 (x:List aC):D:=.lst 1 (x.map dW) .no
def LT {H:Hp}{w:aL}(hA:Ag H w){b:Nat}:∀ (bs:List aC) (off:Nat),Els H 1 b off (bs.map dW)→RowAt w b off (bs.map fun c=>.int .u8 c.toNat)
 | [],off,_=>fun j u e=>by simp at e
 |
  c::bs,off,h=>by
  simp only [a7,Els,dW] at h;obtain ⟨⟨us,h1,h2,a,_⟩,d⟩:=h;simp only [RepC] at h2;subst h2;have ih:=LT hA bs (off+1) d;intro j u e;cases j with
  | zero=>simp at e;subst e;exact hA _ _ (a 0 _ (by simp))
  |
   succ j=>
   have:=ih j u (by simpa using e);rwa [show off+1+j=off+(j+1) by omega] at this
def qc {T T' e:aD}{x:aH}{bs:List aC}{c:Cap}{g j ie:TI}(hT:bO P tab)(ho:o.op=.convert T T' x)
 (hx:cS t x=some (.lst 1 (bs.map dW) c)) (p:ti tab T=some g) (q:g.d=.slice e) (r:ti tab T'=some j) (u:j.d=.str) (hie:ti tab e=some ie) (hde:ie.d=.int .u8):ExE P o t (.v (.string ⟨bs.toArray⟩)):=fun H a w hA kt=>by
 have core:Core ⟨H,w,[]⟩ H [] [] w:=Core.here hA;obtain ⟨d0,z,A⟩:=iY (w:=w) (b4 hT p);obtain rfl:=lB (A.trans q);obtain ⟨I,B,F⟩:=iY (w:=w) (b4 hT r);obtain rfl:=wI (F.trans u);obtain ⟨J,n,G⟩:=iY (w:=w) (b4 hT hie);obtain rfl:=BN (G.trans hde);refine ⟨.string ⟨bs.toArray⟩,w,H,?_,core,dA rfl⟩;unfold bL;rw [ho];refine iC ?_;obtain ⟨_,hr⟩:=oL (eh kt hx);unfold convert;rw [KL z,KL B];rcases hr with ⟨hn,a0,K,hy,_⟩|⟨b,off,m,hy,L,hE⟩
 ·have:bs=[]:=by simpa using hn
  subst this;rw [hy];simp only [];rw [KL n];cases a0<;>rfl
 rw [hy];simp only [];rw [KL n];have hrow:=LT core.ag bs off hE;have hload:=FI (P:=P) bs.length hrow (by simp);simp only [b6];unfold Conv.bytesToString;simp only [];rw [KL hload];have:((bs.map fun c=>g7 .u8 c.toNat).take bs.length)=bs.map fun c=>g7 .u8 c.toNat:=by rw [cV (by simp)]
 rw [this];have key:∀ (f:ω→η→Sem (ForInStep η)),(∀ (c:aC) (s:η),f (.int .u8 c.toNat) s=pure (ForInStep.yield (s.push (il (Int.toNat (c.toNat:Int)))))) →
   ∀ (l:List aC) (s:η),(forIn (l.map fun c=>g7 .u8 c.toNat) s f:Sem η).run P w=.ok ⟨s.data++l.toArray⟩ w:=by
  intro f hf l;induction l with
  | nil=>intro s;simp
  |
   cons c l ih=>
   intro s;rw [a7,List.forIn_cons,hf];rw [KL (a:=ForInStep.yield (s.push (il (Int.toNat (c.toNat:Int))))) rfl];simp only [];rw [ih];congr 2;simp
 rw [← Array.forIn_toList];simp only [];rw [KL (key _ (fun _ _=>rfl) bs ε)];simp
def GE {i:Nat}{T T' e:aD}{x:aH}{bs:List aC}{c:Cap}{a b ie:TI}(hT:bO P tab)(ho:o.op=.convert T T' x)(hw:bC ops t o=some true)(hd:o.dst=some i)(hi:aZ i N=true)
  (hx:cS t x=some (.lst 1 (bs.map dW) c)) (f:ti tab T=some a) (j:a.d=.slice e) (n:ti tab T'=some b) (p:b.d=.str) (hie:ti tab e=some ie) (hde:ie.d=.int .u8)
  (g:a1 P C N ops rest ⟨(i,.v (.string ⟨bs.toArray⟩))::t,h,k⟩ Q):a1 P C N ops (o::rest) ⟨t,h,k⟩ Q:=
 Ll (qc hT ho hx f j n p hie hde) hw hd hi g
end
end
section
open Go
def blk:ω→Nat
 | .pointer (some a)=>a.block
 | _=>0
abbrev AL:=List (Nat×List D×aD)
abbrev TE:=List (Nat×D×Option Nat)
def yk (al:AL)(e:Nat):Bool:=al.any fun x=>x.1==e
section
variable (P:aJ)(C:Ctx)(N:Nat)(l:List bG)(m:Nat)(De:Nat→D)(al:AL)(pre:List (List Nat))(ev:List Nat)(h:List (Nat × Blk))(k:List (Nat × ω))(Q:dH→S→Prop)
def dE (bs:Nat→Nat)(e:Nat):D:=bif yk al e then .ptr (bs e) 0 else De e
def fQ:TE→Nat→Option (D×Option Nat)
 | [],_=>none
 | (j,d,o)::te,i=>bif bM j i then some (d,o) else fQ te i
def fN (p:List Nat):TE→List (Nat×D)
 | []=>[]
 | (j,d,none)::te=>(j,d)::fN p te
 | (j,d,some e)::te=>(j,bif p.contains e then d else .any)::fN p te
def TOKz (H0:Hp)(bs:Nat→Nat)(vals:Nat→ω)(te:TE)(a:Act):Prop:=
 ∀ j d o,fQ te j=some (d,o)→∃ v,a.tmps[j]? = some v∧(o=none→∀ H,H0.le H→Rep H d v)∧∀ e,o=some e→v=vals e∧d=dE De al bs e∧ev.contains e=true
end
section
variable {P:aJ}{C:Ctx}{N:Nat}{l:List bG}{m:Nat}{De:Nat→D}{al:AL}{pre:List (List Nat)}{ev:List Nat}{h:List (Nat × Blk)}{k:List (Nat × ω)}{Q:dH→S→Prop}{tab:List (Option TI)}{bs:Nat→Nat}{i:Nat}{o:bG}{rest:List bG}{te:TE}
def IF {p:List Nat}:∀ {te:TE} {j:Nat} {d:D},dL (fN p te) j=some d→∃ d' o,fQ te j=some (d',o)∧((o=none∧d=d')∨(∃ e,o=some e∧p.contains e=true∧d=d')∨d=.any)
 | [],j,d,e=>by simp [fN,dL] at e
 |
  (a,d0,none)::te,j,d,e=>by
  simp only [fN,dL,fQ] at e ⊢;cases hb:bM a j with
  | true=>rw [hb] at e;simp at e;exact ⟨d0,none,by simp,.inl ⟨rfl,e.symm⟩⟩
  | false=>rw [hb] at e;simpa using IF e
 |
  (a,d0,some b)::te,j,d,e=>by
  simp only [fN,dL,fQ] at e ⊢;cases hb:bM a j with
  |
   true=>
   rw [hb] at e;simp only [ξ,aA] at e;refine ⟨d0,some b,by simp,?_⟩;cases hp:p.contains b with
   | true=>rw [hp] at e;exact .inr (.inl ⟨b,rfl,hp,e.symm⟩)
   | false=>rw [hp] at e;exact .inr (.inr e.symm)
  | false=>rw [hb] at e;simpa using IF e
def TOKz.put {H0:Hp}{vals:Nat→ω}{a:Act}(kt:TOKz De al ev H0 bs vals te a){j:Nat}{d:D}{o:Option Nat}{v:ω}(hj:j<a.tmps.size)(h1:o=none→∀ H,H0.le H→Rep H d v)(h2:∀ e,o=some e→v=vals e∧d=dE De al bs e∧ev.contains e=true) :
  TOKz De al ev H0 bs vals ((j,d,o)::te) (a.put (some j) v):=by
 intro j' d' o' e;simp only [fQ] at e;simp only [io];cases hb:bM j j' with
 |
  true=>
  rw [hb] at e;simp at e;obtain ⟨rfl,rfl⟩:=e;have:=aX hb;subst this;exact ⟨v,by simp [hj],h1,h2⟩
 |
  false=>
  rw [hb] at e;simp at e;have hne:j≠j':=fw hb;obtain ⟨u,b,c⟩:=kt j' d' o' e;exact ⟨u,by rw [f0 hne];exact b,c⟩
def BI:List (Nat×D)→TE
 | []=>[]
 | (j,d)::t=>(j,d,none)::BI t
def Mw:∀ {t:List (Nat×D)} {j:Nat} {d:D} {o:Option Nat},fQ (BI t) j=some (d,o)→dL t j=some d∧o=none
 | [],j,d,o,e=>by simp [BI,fQ] at e
 |
  (a,d0)::t,j,d,o,e=>by
  simp only [BI,fQ,dL] at e ⊢;cases hb:bM a j with
  | true=>rw [hb] at e;simp at e;exact ⟨by simp [e.1],e.2.symm⟩
  | false=>rw [hb] at e;simpa using Mw e
end
end
section
open Go
def iz {p:Prop}(b:Bool)(h1:b=true→p)(h2:b=false→p):p:=by
 cases b;exact h2 rfl;exact h1 rfl
section
variable {P:aJ}{C:Ctx}{N:Nat}{l:List bG}{m:Nat}{De:Nat→D}{al:AL}{pre:List (List Nat)}{ev:List Nat}{h:List (Nat × Blk)}{k:List (Nat × ω)}{Q:dH→S→Prop}{tab:List (Option TI)}{bs:Nat→Nat}{i:Nat}{o:bG}{rest:List bG}{te:TE}
abbrev Ex (P:aJ)(o:bG)(t:List (Nat×D))(d:D):Prop:=∀ H a w,TOK H t a→∃ v,(bL a.eval o).run P w=.ok (.value v) w∧Rep H d v
def mj {t:List (Nat×D)}{d:D}(hT:bO P tab)(e:nW tab t o.op=some d):Ex P o t d:=fun _ _ _ kt=>vz hT kt e
abbrev Gg (P:aJ)(C:Ctx)(h:List (Nat×Blk))(k:List (Nat×ω))(o:bG)(t:List (Nat×D))(d:D):Prop:=∀ hh H a w,Core C H (h++hh) k w→TOK H t a→∃ v,(bL a.eval o).run P w=.ok (.value v) w∧Rep H d v
def KN {b off:Nat}{T T':aD}{x:aH}{t:List (Nat×D)}{ds:List D}{f:TI}{d:D}(j:Nat)(hT:bO P tab)(ho:o.op=.load T x)(hx:cS t x=some (.ptr b off))(hb:h[j]? = some (b,.cells ds T'))(hTi:ti tab T=some f)(e:eZ f ds off=some d):Gg P C h k o t d:=
 fun hh H a w c kt=>by
  obtain ⟨us,h1,h2,q⟩:=c.blks _ (cF _ (a4 hb));obtain ⟨v,g,p⟩:=Ds (P:=P) (T:=T) (n:=off) (b4 hT hTi) (Fu h1) h2 e;refine ⟨v,?_,p⟩;unfold bL;rw [ho];refine iC ?_;rw [s8 (eh kt hx)];rwa [cH] at g
def zf {T:aD}{x:aH}{t:List (Nat×D)}{d0 d:D}{f:TI}(hT:bO P tab)(ho:o.op=.load T x)(hx:cS t x=some (.el d0))(hTi:ti tab T=some f)(e:eZ f (eK d0) 0=some d)(hne:(eK d0).isEmpty=false):Gg P C h k o t d:=
 fun hh H a w c kt=>by
  obtain ⟨b,off,vs,h1,h2,g,j⟩:=Hm (eh kt hx);obtain ⟨v,p,q⟩:=Ds (P:=P) (T:=T) (n:=0) (b4 hT hTi) (g.row c.ag) (Jq (by intro e;rw [e] at hne;cases hne) h2 j) e;refine ⟨v,?_,q⟩;unfold bL;rw [ho];exact iC (by rw [h1];exact p)
end
end
section
open Go
def WkS (C:Ctx)(s s':S):Prop:=∀ H a w,Core C H s.h s.k w→TOK H s.t a→∃ H',H.le H'∧Core C H' s'.h s'.k w∧TOK H' s'.t a
def r6 {t:List (Nat×D)}{j i:Nat}{d0 d:D}{p:Prop}(h:dL ((j,d0)::t) i=some d)(h1:i=j→d=d0→p)(h2:dL t i=some d→p):p:=by
 simp only [dL] at h;cases hb:bM j i with
 | true=>rw [hb] at h;simp at h;exact h1 (aX hb).symm h.symm
 | false=>rw [hb] at h;exact h2 (by simpa using h)
def WkS.nil {t:List (Nat×D)}:∀ i d,dL [] i=some d→∃ d0,dL t i=some d0∧Wk d0 d:=fun i d h=>by simp [dL] at h
def WkS.cons {t t':List (Nat×D)}{j:Nat}{d0 a:D}(b:dL t j=some d0)(hw:Wk d0 a)(g:∀ i d,dL t' i=some d→∃ d0,dL t i=some d0∧Wk d0 d):∀ i d,dL ((j,a)::t') i=some d→∃ d0,dL t i=some d0∧Wk d0 d:=
 fun i d h=>r6 h (fun c e=>⟨d0,c ▸ b,e ▸ hw⟩) (g i d)
def Wk.of_eq {d d':D}(h:d=d'):Wk d d':=h ▸ Wk.refl d
section
variable {P:aJ}{C:Ctx}{N:Nat}{ops rest:List bG}{o:bG}{t:List (Nat × D)}{h:List (Nat × Blk)}{k:List (Nat × ω)}{Q:dH→S→Prop}{tab:List (Option TI)}
end
end
section
open Go
structure Hv where
 e:Nat
 h1:ω→List (Nat×Blk)
 k1:ω→List (Nat×ω)
 d:ω→D
section
variable (P:aJ)(C:Ctx)(N:Nat)(l:List bG)(m:Nat)(De:Nat→D)(al:AL)(pre:List (List Nat))(ev:List Nat)(v:Hv)(h:List (Nat × Blk))(k:List (Nat × ω))(Q:dH→S→Prop)
end
section
variable {P:aJ}{C:Ctx}{N:Nat}{l:List bG}{m:Nat}{De:Nat→D}{al:AL}{pre:List (List Nat)}{ev:List Nat}{v:Hv}{h:List (Nat × Blk)}{k:List (Nat × ω)}{Q:dH→S→Prop}{tab:List (Option TI)}{bs:Nat→Nat}{y:ω}{i:Nat}{o:bG}{rest:List bG}{te:TE}
end
end
section
open Go
section
variable {P:aJ}{C:Ctx}{N:Nat}{l ops rest:List bG}{m:Nat}{De:Nat→D}{al:AL}{pre:List (List Nat)}{ev:List Nat}{h:List (Nat × Blk)}{k:List (Nat × ω)}{Q:dH→S→Prop}{tab:List (Option TI)}{bs:Nat→Nat}{y:ω}{i:Nat}{o:bG}{te:TE}{t:List (Nat × D)}
def BG {x:aH}{kk:Nat}{xs:List D}{b:ω}(hx:cS t x=some (.lst kk xs (.cur b))):∀ H a,TOK H t a→([(kk,b)]=([]:List (Nat×ω))∧Cap.cur b=.full)∨([(kk,b)]=[(kk,a.eval x)]∧Cap.cur b=.cur (a.eval x)):=fun H a kt=>by
 have:=(oL (eh kt hx)).1;simp only [eA] at this;rw [this];exact .inr ⟨rfl,rfl⟩
end
section
variable {P:aJ}{C:Ctx}{N:Nat}{l:List bG}{m:Nat}{De:Nat→D}{al:AL}{pre:List (List Nat)}{ev:List Nat}{h:List (Nat × Blk)}{k:List (Nat × ω)}{Q:dH→S→Prop}{bs:Nat→Nat}{i:Nat}{o:bG}{rest:List bG}{te:TE}
end
section
variable {P:aJ}{C:Ctx}{N:Nat}{l:List bG}{m:Nat}{De:Nat→D}{al:AL}{pre:List (List Nat)}{ev:List Nat}{h:List (Nat × Blk)}{k:List (Nat × ω)}{Q:dH→S→Prop}{bs:Nat→Nat}{i:Nat}{o:bG}{rest:List bG}{te:TE}
end
def ni {H:Hp}{d:D}:∀ {ds:List D} {us:List ω} (off:Nat) {u:ω},Reps H ds us→us[off]? = some u→(RepC H d [u]∧d.flat=true)→Reps H (ds.set off d) us
 | [],us,off,u,h,e,_=>by simp only [Reps] at h;subst h;simp at e
 |
  d0::ds,us,off,u,h,e,hd=>by
  simp only [Reps] at h;obtain ⟨a,us',rfl,h1,h2⟩:=h;cases off with
  |
   zero=>
   simp only [dB,aA] at e;subst e;simp only [List.set_cons_zero,Reps];exact ⟨a,us',rfl,⟨hd.1,h1.2.1,hd.2⟩,h2⟩
  |
   succ off=>
   simp only [fY] at e;simp only [List.set_cons_succ,Reps];exact ⟨a,us',rfl,h1,ni off h2 e hd⟩
section
variable {P:aJ}{C:Ctx}{N:Nat}{ops rest:List bG}{o:bG}{h:List (Nat × Blk)}{k:List (Nat × ω)}{Q:dH→S→Prop}{tab:List (Option TI)}{t:List (Nat × D)}
end
end
section
open Go
abbrev FL:=List (Nat×Nat×List D)
section
variable (P:aJ)(C:Ctx)(N:Nat)(l:List bG)(m:Nat)(De:Nat→D)(al:AL)(fl:FL)(pre:List (List Nat))(ev:List Nat)(h:List (Nat × Blk))(k:List (Nat × ω))(Q:dH→S→Prop)
end
section
variable {P:aJ}{C:Ctx}{N:Nat}{l:List bG}{m:Nat}{De:Nat→D}{al:AL}{fl:FL}{pre:List (List Nat)}{ev:List Nat}{h:List (Nat × Blk)}{k:List (Nat × ω)}{Q:dH→S→Prop}{tab:List (Option TI)}{bs:Nat→Nat}{i:Nat}{o:bG}{rest:List bG}{te:TE}
end
end
section
open Go
section
variable {P:aJ}{C:Ctx}{N:Nat}{l:List bG}{m:Nat}{De:Nat→D}{al:AL}{fl:FL}{pre:List (List Nat)}{ev:List Nat}{h:List (Nat × Blk)}{k:List (Nat × ω)}{Q:dH→S→Prop}{tab:List (Option TI)}{bs:Nat→Nat}{i:Nat}{o:bG}{rest:List bG}{te:TE}
end
end
section
open Go
structure Hx (X:Type) where
 e:Nat
 h1:X→List (Nat×Blk)
 k1:X→List (Nat×ω)
 G:X→Prop
section
variable {X:Type}(P:aJ)(C:Ctx)(N:Nat)(l:List bG)(m:Nat)(De:Nat→D)(al:AL)(pre:List (List Nat))(ev:List Nat)(v:Hx X)(h:List (Nat × Blk))(k:List (Nat × ω))(Q:dH→S→Prop)
end
section
variable {X:Type}{P:aJ}{C:Ctx}{N:Nat}{l:List bG}{m:Nat}{De:Nat→D}{al:AL}{pre:List (List Nat)}{ev:List Nat}{v:Hx X}{h:List (Nat × Blk)}{k:List (Nat × ω)}{Q:dH→S→Prop}{tab:List (Option TI)}{bs:Nat→Nat}{i:Nat}{o:bG}{rest:List bG}{te:TE}
abbrev BK:=List (Nat×Blk)×List (Nat×ω)
end
end
section
open Go
abbrev TL:=List (Nat×Nat)
def Og (tl:TL)(e:Nat):Bool:=tl.any fun x=>x.1==e
def toks (tl:TL)(S:Nat→Bool)(vals:Nat→ω):List (Nat×ω):=
 match tl with
 | []=>[]
 | (e,kk)::tl=>bif S e then (kk,vals e)::toks tl S vals else toks tl S vals
def Io (d:D)(v:ω):D:=
 match d with
 | .lst k xs _=>.lst k xs (.cur v)
 | d=>d
def dT (tl:TL)(e:Nat)(d:D)(v:ω):D:=bif Og tl e then Io d v else d
section
variable (P:aJ)(C:Ctx)(N:Nat)(l:List bG)(m:Nat)(De:Nat→D)(al:AL)(tl:TL)(pre:List (List Nat))(ev:List Nat)(h:List (Nat × Blk))(k:List (Nat × ω))(Q:dH→S→Prop)
def Lq (bs:Nat→ω)(e:Nat):D:=bif yk al e then .ptr (blk (bs e)) 0 else dT tl e (De e) (bs e)
def TOKt (H0:Hp)(bs:Nat→ω)(vals:Nat→ω)(te:TE)(a:Act):Prop:=
 ∀ j d o,fQ te j=some (d,o)→∃ v,a.tmps[j]? = some v∧(o=none→∀ H,H0.le H→Rep H d v)∧∀ e,o=some e→v=vals e∧d=Lq De al tl bs e∧ev.contains e=true
end
section
variable {P:aJ}{C:Ctx}{N:Nat}{l:List bG}{m:Nat}{De:Nat→D}{al:AL}{tl:TL}{pre:List (List Nat)}{ev:List Nat}{h:List (Nat × Blk)}{k:List (Nat × ω)}{Q:dH→S→Prop}{tab:List (Option TI)}{bs:Nat→ω}{i:Nat}{o:bG}{rest:List bG}{te:TE}
def TOKt.put {H0:Hp}{vals:Nat→ω}{a:Act}(kt:TOKt De al tl ev H0 bs vals te a){j:Nat}{d:D}{o:Option Nat}{v:ω}(hj:j<a.tmps.size)(h1:o=none→∀ H,H0.le H→Rep H d v)(h2:∀ e,o=some e→v=vals e∧d=Lq De al tl bs e∧ev.contains e=true) :
  TOKt De al tl ev H0 bs vals ((j,d,o)::te) (a.put (some j) v):=by
 intro j' d' o' e;simp only [fQ] at e;simp only [io];cases hb:bM j j' with
 |
  true=>
  rw [hb] at e;simp at e;obtain ⟨rfl,rfl⟩:=e;have:=aX hb;subst this;exact ⟨v,by simp [hj],h1,h2⟩
 |
  false=>
  rw [hb] at e;simp at e;have hne:j≠j':=fw hb;obtain ⟨u,b,c⟩:=kt j' d' o' e;exact ⟨u,by rw [f0 hne];exact b,c⟩
end
section
variable {P:aJ}{C:Ctx}{N:Nat}{l:List bG}{m:Nat}{De:Nat→D}{al:AL}{tl:TL}{pre:List (List Nat)}{ev:List Nat}{h:List (Nat × Blk)}{k:List (Nat × ω)}{Q:dH→S→Prop}{tab:List (Option TI)}{bs:Nat→ω}{i:Nat}{o:bG}{rest:List bG}{te:TE}
end
end
section
open Go
abbrev oT:Option TI:=some ⟨.other,1,8,[.nilFunc]⟩
def tab:List (Option TI):=[none,
 oT,
 some ⟨.int .i64,1,8,[.int .i64 0]⟩,
 some ⟨.int .i64,1,8,[.int .i64 0]⟩,
 some ⟨.bool,1,1,[.bool false]⟩,
 some ⟨.int .u8,1,1,[.int .u8 0]⟩,
 some ⟨.int .u8,1,1,[.int .u8 0]⟩,
 some ⟨.struct [(2,0),(3,1),(4,2),(6,3)],4,24,[.int .i64 0,.int .i64 0,.bool false,.int .u8 0]⟩,
 some ⟨.struct [(2,0),(3,1),(4,2),(6,3)],4,24,[.int .i64 0,.int .i64 0,.bool false,.int .u8 0]⟩,
 some ⟨.str,1,16,[.string ε]⟩,
 some ⟨.str,1,16,[.string ε]⟩,
 some ⟨.str,1,16,[.string ε]⟩,
 some ⟨.int .u64,1,8,[.int .u64 0]⟩,
 some ⟨.struct [(9,0),(12,1)],2,24,[.string ε,.int .u64 0]⟩,
 some ⟨.struct [(9,0),(12,1)],2,24,[.string ε,.int .u64 0]⟩,
 some ⟨.ptr 271,1,8,[.pointer none]⟩,
 some ⟨.ptr 274,1,8,[.pointer none]⟩,
 some ⟨.ptr 281,1,8,[.pointer none]⟩,
 some ⟨.struct [(17,0)],1,8,[.pointer none]⟩,
 some ⟨.struct [(17,0)],1,8,[.pointer none]⟩,
 none,
 some ⟨.int .i32,1,4,[.int .i32 0]⟩,
 some ⟨.slice 34,1,24,[.slice none 0 0]⟩,
 some ⟨.ptr 46,1,8,[.pointer none]⟩,
 oT,
 some ⟨.slice 58,1,24,[.slice none 0 0]⟩,
 some ⟨.slice 52,1,24,[.slice none 0 0]⟩,
 some ⟨.struct [(25,0),(26,1)],2,48,[.slice none 0 0,.slice none 0 0]⟩,
 some ⟨.struct [(25,0),(26,1)],2,48,[.slice none 0 0,.slice none 0 0]⟩,
 some ⟨.int .i64,1,8,[.int .i64 0]⟩,
 none,
 oT,
 some ⟨.slice 5,1,24,[.slice none 0 0]⟩,
 some ⟨.struct [(3,0),(32,1),(9,2)],3,48,[.int .i64 0,.slice none 0 0,.string ε]⟩,
 some ⟨.struct [(3,0),(32,1),(9,2)],3,48,[.int .i64 0,.slice none 0 0,.string ε]⟩,
 none,
 oT,
 none,
 oT,
 oT,
 oT,
 oT,
 oT,
 oT,
 oT,
 some ⟨.struct [(28,0)],2,48,[.slice none 0 0,.slice none 0 0]⟩,
 some ⟨.struct [(28,0)],2,48,[.slice none 0 0,.slice none 0 0]⟩,
 oT,
 oT,
 some ⟨.slice 101,1,24,[.slice none 0 0]⟩,
 some ⟨.slice 105,1,24,[.slice none 0 0]⟩,
 some ⟨.struct [(9,0),(49,1),(49,2),(50,3),(3,4)],5,96,[.string ε,.slice none 0 0,.slice none 0 0,.slice none 0 0,.int .i64 0]⟩,
 some ⟨.struct [(9,0),(49,1),(49,2),(50,3),(3,4)],5,96,[.string ε,.slice none 0 0,.slice none 0 0,.slice none 0 0,.int .i64 0]⟩,
 none,
 oT,
 oT,
 oT,
 some ⟨.struct [(9,0),(4,1),(3,2),(3,3)],4,40,[.string ε,.bool false,.int .i64 0,.int .i64 0]⟩,
 some ⟨.struct [(9,0),(4,1),(3,2),(3,3)],4,40,[.string ε,.bool false,.int .i64 0,.int .i64 0]⟩,
 none,
 oT,
 oT,
 oT,
 some ⟨.ptr 65,1,8,[.pointer none]⟩,
 some ⟨.struct [(63,0),(32,1)],2,32,[.pointer none,.slice none 0 0]⟩,
 some ⟨.struct [(63,0),(32,1)],2,32,[.pointer none,.slice none 0 0]⟩,
 none,
 none,
 none,
 oT,
 oT,
 oT,
 none,
 oT,
 none,
 oT,
 oT,
 oT,
 none,
 oT,
 none,
 oT,
 oT,
 oT,
 oT,
 oT,
 oT,
 some ⟨.slice 127,1,24,[.slice none 0 0]⟩,
 none,
 oT,
 oT,
 none,
 oT,
 none,
 oT,
 oT,
 oT,
 oT,
 oT,
 oT,
 some ⟨.struct [(9,0),(4,1)],2,24,[.string ε,.bool false]⟩,
 some ⟨.struct [(9,0),(4,1)],2,24,[.string ε,.bool false]⟩,
 oT,
 some ⟨.slice 149,1,24,[.slice none 0 0]⟩,
 some ⟨.struct [(3,0),(9,1),(9,2),(103,3),(50,4),(50,5),(3,6)],7,120,[.int .i64 0,.string ε,.string ε,.slice none 0 0,.slice none 0 0,.slice none 0 0,.int .i64 0]⟩,
 some ⟨.struct [(3,0),(9,1),(9,2),(103,3),(50,4),(50,5),(3,6)],7,120,[.int .i64 0,.string ε,.string ε,.slice none 0 0,.slice none 0 0,.slice none 0 0,.int .i64 0]⟩,
 oT,
 oT,
 oT,
 some ⟨.ptr 111,1,8,[.pointer none]⟩,
 some ⟨.struct [(65,0),(3,2)],3,40,[.pointer none,.slice none 0 0,.int .i64 0]⟩,
 some ⟨.struct [(65,0),(3,2)],3,40,[.pointer none,.slice none 0 0,.int .i64 0]⟩,
 oT,
 oT,
 oT,
 oT,
 some ⟨.ptr 5,1,8,[.pointer none]⟩,
 oT,
 oT,
 oT,
 oT,
 none,
 oT,
 oT,
 oT,
 oT,
 some ⟨.struct [(3,0),(9,1),(3,2),(3,3)],4,40,[.int .i64 0,.string ε,.int .i64 0,.int .i64 0]⟩,
 some ⟨.struct [(3,0),(9,1),(3,2),(3,3)],4,40,[.int .i64 0,.string ε,.int .i64 0,.int .i64 0]⟩,
 none,
 oT,
 some ⟨.ptr 132,1,8,[.pointer none]⟩,
 some ⟨.struct [(87,0),(3,1),(3,2)],3,40,[.slice none 0 0,.int .i64 0,.int .i64 0]⟩,
 some ⟨.struct [(87,0),(3,1),(3,2)],3,40,[.slice none 0 0,.int .i64 0,.int .i64 0]⟩,
 oT,
 oT,
 oT,
 oT,
 oT,
 oT,
 oT,
 oT,
 oT,
 oT,
 oT,
 some ⟨.slice 9,1,24,[.slice none 0 0]⟩,
 oT,
 oT,
 oT,
 some ⟨.struct [(3,0),(3,1),(9,2),(103,3),(3,4)],5,64,[.int .i64 0,.int .i64 0,.string ε,.slice none 0 0,.int .i64 0]⟩,
 some ⟨.struct [(3,0),(3,1),(9,2),(103,3),(3,4)],5,64,[.int .i64 0,.int .i64 0,.string ε,.slice none 0 0,.int .i64 0]⟩,
 oT,
 none,
 oT,
 oT,
 oT,
 oT,
 oT,
 oT,
 none,
 oT,
 some ⟨.ptr 165,1,8,[.pointer none]⟩,
 none,
 oT,
 oT,
 some ⟨.struct [(87,0),(3,1),(29,2),(3,3),(3,4)],5,56,[.slice none 0 0,.int .i64 0,.int .i64 0,.int .i64 0,.int .i64 0]⟩,
 some ⟨.struct [(87,0),(3,1),(29,2),(3,3),(3,4)],5,56,[.slice none 0 0,.int .i64 0,.int .i64 0,.int .i64 0,.int .i64 0]⟩,
 oT,
 oT,
 oT,
 oT,
 oT,
 oT,
 oT,
 oT,
 oT,
 oT,
 oT,
 none,
 oT,
 oT,
 oT,
 some ⟨.ptr 183,1,8,[.pointer none]⟩,
 some ⟨.struct [(32,0),(3,1),(87,2)],3,56,[.slice none 0 0,.int .i64 0,.slice none 0 0]⟩,
 some ⟨.struct [(32,0),(3,1),(87,2)],3,56,[.slice none 0 0,.int .i64 0,.slice none 0 0]⟩,
 oT,
 oT,
 oT,
 oT,
 oT,
 oT,
 oT,
 oT,
 oT,
 some ⟨.map 9 3,1,8,[.map none]⟩,
 some ⟨.struct [(3,0),(29,1)],2,16,[.int .i64 0,.int .i64 0]⟩,
 some ⟨.struct [(3,0),(29,1)],2,16,[.int .i64 0,.int .i64 0]⟩,
 oT,
 some ⟨.struct [(28,0),(52,2)],7,144,[.slice none 0 0,.slice none 0 0,.string ε,.slice none 0 0,.slice none 0 0,.slice none 0 0,.int .i64 0]⟩,
 some ⟨.struct [(28,0),(52,2)],7,144,[.slice none 0 0,.slice none 0 0,.string ε,.slice none 0 0,.slice none 0 0,.slice none 0 0,.int .i64 0]⟩,
 oT,
 some ⟨.int .u64,1,8,[.int .u64 0]⟩,
 oT,
 oT,
 oT,
 oT,
 some ⟨.array 24 5,24,24,[.int .u8 0,.int .u8 0,.int .u8 0,.int .u8 0,.int .u8 0,.int .u8 0,.int .u8 0,.int .u8 0,.int .u8 0,.int .u8 0,.int .u8 0,.int .u8 0,.int .u8 0,.int .u8 0,.int .u8 0,.int .u8 0,.int .u8 0,.int .u8 0,.int .u8 0,.int .u8 0,.int .u8 0,.int .u8 0,.int .u8 0,.int .u8 0]⟩,
 oT,
 oT,
 none,
 oT,
 oT,
 none,
 oT,
 some ⟨.slice 3,1,24,[.slice none 0 0]⟩,
 oT,
 oT,
 oT,
 oT,
 oT,
 none,
 some ⟨.array 2 49,2,48,[.slice none 0 0,.slice none 0 0]⟩,
 oT,
 oT,
 oT,
 oT,
 oT,
 oT,
 oT,
 oT,
 oT,
 some ⟨.array 20 200,20,160,[.int .u64 0,.int .u64 0,.int .u64 0,.int .u64 0,.int .u64 0,.int .u64 0,.int .u64 0,.int .u64 0,.int .u64 0,.int .u64 0,.int .u64 0,.int .u64 0,.int .u64 0,.int .u64 0,.int .u64 0,.int .u64 0,.int .u64 0,.int .u64 0,.int .u64 0,.int .u64 0]⟩,
 some ⟨.int .u32,1,4,[.int .u32 0]⟩,
 some ⟨.array 65 5,65,65,[.int .u8 0,.int .u8 0,.int .u8 0,.int .u8 0,.int .u8 0,.int .u8 0,.int .u8 0,.int .u8 0,.int .u8 0,.int .u8 0,.int .u8 0,.int .u8 0,.int .u8 0,.int .u8 0,.int .u8 0,.int .u8 0,.int .u8 0,.int .u8 0,.int .u8 0,.int .u8 0,.int .u8 0,.int .u8 0,.int .u8 0,.int .u8 0,.int .u8 0,.int .u8 0,.int .u8 0,.int .u8 0,.int .u8 0,.int .u8 0,.int .u8 0,.int .u8 0,.int .u8 0,.int .u8 0,.int .u8 0,.int .u8 0,.int .u8 0,.int .u8 0,.int .u8 0,.int .u8 0,.int .u8 0,.int .u8 0,.int .u8 0,.int .u8 0,.int .u8 0,.int .u8 0,.int .u8 0,.int .u8 0,.int .u8 0,.int .u8 0,.int .u8 0,.int .u8 0,.int .u8 0,.int .u8 0,.int .u8 0,.int .u8 0,.int .u8 0,.int .u8 0,.int .u8 0,.int .u8 0,.int .u8 0,.int .u8 0,.int .u8 0,.int .u8 0,.int .u8 0]⟩,
 oT,
 some ⟨.int .u64,1,8,[.int .u64 0]⟩,
 oT,
 oT,
 oT,
 oT,
 oT,
 oT,
 oT,
 oT,
 oT,
 oT,
 oT,
 oT,
 oT,
 oT,
 none,
 oT,
 oT,
 oT,
 some ⟨.slice 144,1,24,[.slice none 0 0]⟩,
 some ⟨.slice 213,1,24,[.slice none 0 0]⟩,
 some ⟨.array 32 5,32,32,[.int .u8 0,.int .u8 0,.int .u8 0,.int .u8 0,.int .u8 0,.int .u8 0,.int .u8 0,.int .u8 0,.int .u8 0,.int .u8 0,.int .u8 0,.int .u8 0,.int .u8 0,.int .u8 0,.int .u8 0,.int .u8 0,.int .u8 0,.int .u8 0,.int .u8 0,.int .u8 0,.int .u8 0,.int .u8 0,.int .u8 0,.int .u8 0,.int .u8 0,.int .u8 0,.int .u8 0,.int .u8 0,.int .u8 0,.int .u8 0,.int .u8 0,.int .u8 0]⟩,
 some ⟨.array 64 5,64,64,[.int .u8 0,.int .u8 0,.int .u8 0,.int .u8 0,.int .u8 0,.int .u8 0,.int .u8 0,.int .u8 0,.int .u8 0,.int .u8 0,.int .u8 0,.int .u8 0,.int .u8 0,.int .u8 0,.int .u8 0,.int .u8 0,.int .u8 0,.int .u8 0,.int .u8 0,.int .u8 0,.int .u8 0,.int .u8 0,.int .u8 0,.int .u8 0,.int .u8 0,.int .u8 0,.int .u8 0,.int .u8 0,.int .u8 0,.int .u8 0,.int .u8 0,.int .u8 0,.int .u8 0,.int .u8 0,.int .u8 0,.int .u8 0,.int .u8 0,.int .u8 0,.int .u8 0,.int .u8 0,.int .u8 0,.int .u8 0,.int .u8 0,.int .u8 0,.int .u8 0,.int .u8 0,.int .u8 0,.int .u8 0,.int .u8 0,.int .u8 0,.int .u8 0,.int .u8 0,.int .u8 0,.int .u8 0,.int .u8 0,.int .u8 0,.int .u8 0,.int .u8 0,.int .u8 0,.int .u8 0,.int .u8 0,.int .u8 0,.int .u8 0,.int .u8 0]⟩,
 oT,
 some ⟨.ptr 260,1,8,[.pointer none]⟩,
 some ⟨.struct [(87,0),(3,1),(29,2)],3,40,[.slice none 0 0,.int .i64 0,.int .i64 0]⟩,
 some ⟨.struct [(87,0),(3,1),(29,2)],3,40,[.slice none 0 0,.int .i64 0,.int .i64 0]⟩,
 oT,
 oT,
 oT,
 oT,
 oT,
 oT,
 oT,
 oT,
 oT,
 some ⟨.struct [(17,0),(17,1),(17,2),(9,3)],4,40,[.pointer none,.pointer none,.pointer none,.string ε]⟩,
 some ⟨.struct [(17,0),(17,1),(17,2),(9,3)],4,40,[.pointer none,.pointer none,.pointer none,.string ε]⟩,
 some ⟨.array 0 16,0,0,[]⟩,
 some ⟨.struct [(272,0)],0,0,[]⟩,
 some ⟨.struct [(272,0)],0,0,[]⟩,
 some ⟨.int .u8,1,1,[.int .u8 0]⟩,
 some ⟨.int .u8,1,1,[.int .u8 0]⟩,
 oT,
 some ⟨.int .i32,1,4,[.int .i32 0]⟩,
 some ⟨.int .i32,1,4,[.int .i32 0]⟩,
 some ⟨.struct [(12,0),(12,1),(231,2),(275,3),(5,4),(5,5),(276,6),(277,7),(116,8),(278,9),(279,10)],11,48,[.int .u64 0,.int .u64 0,.int .u32 0,.int .u8 0,.int .u8 0,.int .u8 0,.int .u8 0,.nilFunc,.pointer none,.int .i32 0,.int .i32 0]⟩,
 some ⟨.struct [(12,0),(12,1),(231,2),(275,3),(5,4),(5,5),(276,6),(277,7),(116,8),(278,9),(279,10)],11,48,[.int .u64 0,.int .u64 0,.int .u32 0,.int .u8 0,.int .u8 0,.int .u8 0,.int .u8 0,.nilFunc,.pointer none,.int .i32 0,.int .i32 0]⟩]
def htab:bO Tryz.prog tab:=AQ (P:=Tryz.prog) (by kernel_rfl)
def Bx:EqT Tryz.prog 101:=⟨by kernel_rfl,by kernel_rfl,by kernel_rfl⟩
def Oc:ti tab 3=some ⟨.int .i64,1,8,[.int .i64 0]⟩:=rfl
def Ld:ti tab 5=some ⟨.int .u8,1,1,[.int .u8 0]⟩:=rfl
def Ob:ti tab 9=some ⟨.str,1,16,[.string ε]⟩:=rfl
def In:ti tab 22=some ⟨.slice 34,1,24,[.slice none 0 0]⟩:=rfl
def Im:ti tab 32=some ⟨.slice 5,1,24,[.slice none 0 0]⟩:=rfl
def Eb:ti tab 34=some ⟨.struct [(3,0),(32,1),(9,2)],3,48,[.int .i64 0,.slice none 0 0,.string ε]⟩:=rfl
end
end Go.Proofs.YticifeeokcgfkaaGreatDoor.Ab
namespace Go.Proofs.YticifeeokcgfkaaGreatDoor.Ab
section
open Go
inductive Step (σ τ:Type) where
 | next (s:σ)
 | done (t:τ)
def fe {σ τ:Type}(f:σ→Option (Step σ τ)):Nat→σ→Option τ
 | 0,_=>none
 |
  n+1,s=>match f s with
  | none=>none
  | some (.next s')=>fe f n s'
  | some (.done t)=>some t
def LS {σ τ:Type}{f:σ→Option (Step σ τ)}:∀ {n m:Nat} {s:σ} {t t':τ},fe f n s=some t→fe f m s=some t'→t=t'
 | 0,_,_,_,_,h,_=>by simp [fe] at h
 | _+1,0,_,_,_,_,h=>by simp [fe] at h
 |
  n+1,m+1,s,t,t',h,k=>by
  simp only [fe] at h k;cases hf:f s with
  | none=>rw [hf] at h;cases h
  |
   some x=>
   rw [hf] at h k;cases x with
   | next s'=>exact LS h k
   | done u=>simp at h k;rw [← h,← k]
open Classical in
def aE {σ τ:Type}(f:σ→Option (Step σ τ))(s:σ):Option τ:=if h:∃ n t,fe f n s=some t then some h.choose_spec.choose else none
def GK {σ τ:Type}{f:σ→Option (Step σ τ)}{n:Nat}{s:σ}{t:τ}(h:fe f n s=some t):aE f s=some t:=by
 have hx:∃ n t,fe f n s=some t:=⟨n,t,h⟩;unfold aE;rw [ft hx];exact a6 some (LS hx.choose_spec.choose_spec h)
def Ft {σ τ:Type}{f:σ→Option (Step σ τ)}{s:σ}{t:τ}(h:aE f s=some t):∃ n,fe f n s=some t:=by
 unfold aE at h;split at h;rename_i hx;simp only [aA] at h;exact ⟨_,h ▸ hx.choose_spec.choose_spec⟩;cases h
def K0 {σ τ:Type}{f:σ→Option (Step σ τ)}{s:σ}{t:τ}(h:f s=some (.done t)):aE f s=some t:=GK (n:=1) (by simp [fe,h])
def ig {σ τ:Type}{f:σ→Option (Step σ τ)}{s s':σ}(h:f s=some (.next s')):aE f s=aE f s':=by
 cases e:aE f s' with
 |
  some t=>
  obtain ⟨n,hn⟩:=Ft e;exact GK (n:=n+1) (by simp [fe,h,hn])
 |
  none=>
  cases a:aE f s with
  | none=>rfl
  |
   some t=>
   obtain ⟨n,hn⟩:=Ft a;cases n with
   | zero=>simp [fe] at hn
   |
    succ n=>
    simp only [fe,h] at hn;rw [GK hn] at e;cases e
def jT {α:Type}(m:Option α)(φ:α→Prop):Prop:=∃ x,m=some x∧φ x
section
variable {α β:Type}{φ:α→Prop}{ψ:β→Prop}
def Ka {m:Option α}{f:α→Option β}(h:jT (m.bind f) ψ):∃ a,m=some a∧jT (f a) ψ:=by
 obtain ⟨x,h1,h2⟩:=h;rw [Option.bind_eq_some_iff] at h1;obtain ⟨a,b,c⟩:=h1;exact ⟨a,b,x,c,h2⟩
def cD {c:Bool}{a b:Option α}(hc:c=true)(h:jT (bif c then a else b) φ):jT a φ:=by subst hc;exact h
def cE {c:Bool}{a b:Option α}(hc:c=false)(h:jT (bif c then a else b) φ):jT b φ:=by subst hc;exact h
def Kx {m:Option α}{r:α}(h:m=some r):jT m (fun x=>x=r):=⟨r,h,rfl⟩
def Ke {a r:α}(h:jT (some a) (fun x=>x=r)):a=r:=by obtain ⟨x,h1,h2⟩:=h;cases h1;exact h2
def DM {m:Option α}(h:jT m φ):∃ a,m=some a∧jT (some a) φ:=by
 obtain ⟨x,h1,h2⟩:=h;exact ⟨x,h1,x,rfl,h2⟩
def RD (h:jT none φ):False:=by obtain ⟨x,h1,_⟩:=h;cases h1
def need (p:Bool):Option Unit:=bif p then some () else none
def ro {p:Bool}{u:Unit}(h:need p=some u):p=true:=by
 cases p with
 | true=>rfl
 | false=>cases h
def idx (xs:List α)(i:Int):Option α:=bif decide (0≤i) then xs[i.toNat]? else none
def z6 {xs:List α}{i:Int}{x:α}(h:idx xs i=some x):0≤i∧xs[i.toNat]? = some x:=by
 unfold idx at h;by_cases hi:0≤i;rw [Ξ hi] at h;exact ⟨hi,h⟩;rw [Δ hi] at h;cases h
def KG {xs:List α}{i:Int}{x:α}(h:idx xs i=some x):0≤i:=(z6 h).1
def KQ {xs:List α}{i:Int}{x:α}{e:α→D}(h:idx xs i=some x):(xs.map e)[i.toNat]? = some (e x):=by
 rw [f9,(z6 h).2];rfl
def lb (xs:List α)(n:Nat):idx xs (n:Int)=xs[n]?:=by simp [idx]
def oh (s:η)(i:Int):Option aC:=idx s.data.toList i
def Rn {s:η}{i:Int}{x:aC}(h:oh s i=some x):s.data.toList[i.toNat]? = some x:=(z6 h).2
def Rz {s:η}{i:Int}{x:aC}(h:oh s i=some x):0≤i:=(z6 h).1
def eP (xs:List α)(l h:Int):Option (List α):=bif decide (0≤l) && decide (l≤h) && decide (h≤(xs.length:Int)) then some ((xs.drop l.toNat).take (h.toNat-l.toNat)) else none
def E3 {xs ys:List α}{l h:Int}(e:eP xs l h=some ys):ys=(xs.drop l.toNat).take (h.toNat-l.toNat)∧l=(l.toNat:Int)∧h=(h.toNat:Int)∧l.toNat≤h.toNat∧h.toNat≤xs.length:=by
 unfold eP at e;cases hc:decide (0≤l) && decide (l≤h) && decide (h≤(xs.length:Int)) with
 | false=>rw [hc] at e;cases e
 |
  true=>
  rw [hc] at e;simp only [aR,bJ] at hc;obtain ⟨⟨h1,h2⟩,a⟩:=hc;simp only [ξ,aA] at e;exact ⟨e.symm,by omega,by omega,by omega,by omega⟩
def IE {xs:List α}{l h:Nat}(h1:l≤h)(h2:h≤xs.length):eP xs (l:Int) (h:Int)=some ((xs.drop l).take (h-l)):=by
 unfold eP;rw [show (decide ((0:Int)≤(l:Int)) && decide ((l:Int)≤(h:Int)) && decide ((h:Int)≤(xs.length:Int)))=true by simp;omega];simp
def i7 (s:η)(l h:Int):Option η:=bif decide (0≤l) && decide (l≤h) && decide (h≤(s.size:Int)) then some (s.extract l.toNat h.toNat) else none
def qY {s r:η}{l h:Int}(e:i7 s l h=some r):r=s.extract l.toNat h.toNat∧l=(l.toNat:Int)∧h=(h.toNat:Int)∧l.toNat≤h.toNat∧h.toNat≤s.size:=by
 unfold i7 at e;cases hc:decide (0≤l) && decide (l≤h) && decide (h≤(s.size:Int)) with
 | false=>rw [hc] at e;cases e
 |
  true=>
  rw [hc] at e;simp only [aR,bJ] at hc;obtain ⟨⟨h1,h2⟩,a⟩:=hc;simp only [ξ,aA] at e;exact ⟨e.symm,by omega,by omega,by omega,by omega⟩
def app (bb:Nat)(xs ys:List α):Option (List α):=bif decide ((xs.length+ys.length)*bb≤140737488355328) then some (xs++ys) else none
def sF {bb:Nat}{xs ys zs:List α}(h:app bb xs ys=some zs):zs=xs++ys∧(xs.length+ys.length)*bb≤140737488355328:=by
 unfold app at h;cases hc:decide ((xs.length+ys.length)*bb≤140737488355328) with
 | false=>rw [hc] at h;cases h
 |
  true=>
  rw [hc] at h;simp only [ξ,aA] at h;exact ⟨h.symm,aY hc⟩
def C1 {bb:Nat}{xs ys:List α}(h:(xs.length+ys.length)*bb≤140737488355328):app bb xs ys=some (xs++ys):=by
 unfold app;rw [Ξ h];rfl
def tg {bb:Nat}{xs ys zs:List α}{e:α→D}(h:app bb xs ys=some zs):((xs.map e).length+(ys.map e).length)*bb≤140737488355328:=by
 simpa using (sF h).2
def E2 {bb:Nat}{xs ys zs:List α}{e:α→D}(h:app bb xs ys=some zs):xs.map e++ys.map e=zs.map e:=by
 rw [(sF h).1,List.map_append]
def KT {xs:List α}{e:α→D}:(xs.map e).length=xs.length:=b6 _
end
def WkC (d d':D):Prop:=∀ H us,RepC H d us→RepC H d' us
def WkR (ds ds':List D):Prop:=∀ H us,Reps H ds us→Reps H ds' us
def WkC.refl (d:D):WkC d d:=fun _ _ h=>h
def WkC.no {k:Nat}{xs:List D}{c:Cap}:WkC (.lst k xs c) (.lst k xs .no):=fun H us h=>by
 simp only [RepC] at h ⊢;obtain ⟨y,e,_,h⟩:=h;exact ⟨y,e,trivial,h⟩
def WkC.nil {k k':Nat}{c:Cap}:WkC (.lst k [] c) (.lst k' [] .no):=fun H us h=>by
 simp only [RepC] at h ⊢;obtain ⟨y,e,_,h⟩:=h;rcases h with ⟨_,h⟩|⟨b,off,m,a,d,f⟩
 ·exact ⟨y,e,trivial,.inl ⟨by trivial,h⟩⟩
 exact ⟨y,e,trivial,.inr ⟨b,off,m,a,d,by simp [Els]⟩⟩
def WkC.nilF {k k':Nat}:WkC (.lst k [] .full) (.lst k' [] .full):=fun H us h=>by
 simp only [RepC] at h ⊢;obtain ⟨y,e,a,h⟩:=h;rcases h with ⟨_,h⟩|⟨b,off,m,c,d,f⟩
 ·exact ⟨y,e,a,.inl ⟨by trivial,h⟩⟩
 exact ⟨y,e,a,.inr ⟨b,off,m,c,d,by simp [Els]⟩⟩
def WkC.agg {ds ds':List D}(h:WkR ds ds'):WkC (.agg ds) (.agg ds'):=fun H us k=>by
 simp only [RepC] at k ⊢;exact h H us k
def WkC.of_eq {d d':D}(h:d=d'):WkC d d':=h ▸ WkC.refl d
def WkR.refl (ds:List D):WkR ds ds:=fun _ _ h=>h
def WkR.nil:WkR [] []:=WkR.refl _
def WkR.cons {d d':D}{ds ds':List D}(h:WkC d d')(hf:d'.flat=d.flat)(k:WkR ds ds'):WkR (d::ds) (d'::ds'):=fun H us q=>by
 simp only [Reps] at q ⊢;obtain ⟨u,us',e,⟨h1,h2,a⟩,b⟩:=q;exact ⟨u,us',e,⟨h H _ h1,h2,hf.trans a⟩,k H _ b⟩
inductive WkE:List D→List D→Prop
 | nil:WkE [] []
 | cons {d d':D} {ds ds':List D} (h:WkC d d') (k:WkE ds ds'):WkE (d::ds) (d'::ds')
def WkE.refl:∀ ds:List D,WkE ds ds
 | []=>.nil
 | _::ds=>.cons (WkC.refl _) (WkE.refl ds)
def WkE.els {H:Hp}{k b:Nat}:∀ {ds ds':List D} {off:Nat},WkE ds ds'→Els H k b off ds→Els H k b off ds'
 | _,_,_,.nil,h=>h
 |
  _,_,_,.cons h1 h2,h=>by
  simp only [Els] at h ⊢;obtain ⟨⟨us,a,c,d⟩,e⟩:=h;exact ⟨⟨us,a,h1 H us c,d⟩,h2.els e⟩
def WkE.length {ds ds':List D}(h:WkE ds ds'):ds.length=ds'.length:=by
 induction h with
 | nil=>rfl
 | cons _ _ ih=>simp [ih]
def WkE.append {ds ds' es es':List D}(h:WkE ds ds')(k:WkE es es'):WkE (ds++es) (ds'++es'):=by
 induction h with
 | nil=>exact k
 | cons h1 _ ih=>exact .cons h1 ih
def WkC.lst {k:Nat}{xs ys:List D}{c:Cap}(h:WkE xs ys):WkC (.lst k xs c) (.lst k ys c):=fun H us q=>by
 simp only [RepC] at q ⊢;obtain ⟨y,e,hc,q⟩:=q;refine ⟨y,e,hc,?_⟩;rcases q with ⟨a,d⟩|⟨b,off,m,f,g,j⟩
 ·subst a;cases h;exact .inl ⟨rfl,d⟩
 exact .inr ⟨b,off,m,by rw [← h.length];exact f,by rw [← h.length];exact g,h.els j⟩
def WkC.trans {a b c:D}(h:WkC a b)(k:WkC b c):WkC a c:=fun H us q=>k H us (h H us q)
def WkC.wk {d d':D}(h:WkC d d')(hs:∀ y,d.shape y=true→d'.shape y=true):Wk d d':=fun H y q=>⟨h H _ q.1,hs y q.2⟩
def rL {l l':List D}:∀ y,(D.agg l).shape y=true→(D.agg l').shape y=true:=fun y h=>by cases y<;>first|rfl|cases h
def LR {k k':Nat}{l l':List D}{c c':Cap}:∀ y,(D.lst k l c).shape y=true→(D.lst k' l' c').shape y=true:=fun y h=>by cases y<;>first|rfl|cases h
def Wk.agg {ds ds':List D}(h:WkR ds ds'):Wk (.agg ds) (.agg ds'):=(WkC.agg h).wk rL
def Wk.lst0 {k:Nat}{xs ys:List D}{c:Cap}(h:WkE xs ys):Wk (.lst k xs c) (.lst k ys c):=(WkC.lst h).wk LR
def Wk.lst {k:Nat}{xs ys:List D}{c:Cap}(h:WkE xs ys):Wk (.lst k xs c) (.lst k ys .no):=((WkC.lst h).trans WkC.no).wk LR
def Wk.trans {a b c:D}(h:Wk a b)(k:Wk b c):Wk a c:=fun H y q=>k H y (h H y q)
def WkS.trans {C:Ctx}{a b c:S}(h:WkS C a b)(k:WkS C b c):WkS C a c:=fun H x w c1 d=>by
 obtain ⟨H1,l1,c2,e⟩:=h H x w c1 d;obtain ⟨H2,l2,c3,f⟩:=k H1 x w c2 e;exact ⟨H2,Hp.le_trans l1 l2,c3,f⟩
def WkS.refl {C:Ctx}(s:S):WkS C s s:=fun H _ _ c t=>⟨H,Hp.le_refl H,c,t⟩
def WkS.blk {C:Ctx}{t:List (Nat×D)}{h h':List (Nat×Blk)}{k:List (Nat×ω)}{b:Nat}{ds ds':List D}{T:aD}(j:Nat)(hb:h[j]? = some (b,.cells ds T))(hw:WkR ds ds')(e:h.set j (b,.cells ds' T)=h'):WkS C ⟨t,h,k⟩ ⟨t,h',k⟩:=fun H a w c kt=>by
 subst e;refine ⟨H,Hp.le_refl H,?_,kt⟩;obtain ⟨us,h1,h2,d⟩:=c.blks _ (a4 hb);have hlt:=(aP.1 hb).1;have hget:=(aP.1 hb).2;have hcl:K4 (h.set j (b,Blk.cells ds' T)) k=K4 h k:=by
  exact Jr hb rfl
 refine ⟨c.ag,c.le,c.new,c.same,c.size,?_,c.toks,by rw [hcl];exact c.nd,by rw [hcl];exact c.own,c.env⟩;intro p hp;rcases List.mem_or_eq_of_mem_set hp with hp|hp
 ·exact c.blks p hp
 subst hp;exact ⟨us,h1,hw H us h2,d⟩
def TokOK.full {H:Hp}{w:aL}{k:Nat}{y:ω}(h:eA .full y):TokOK H w (k,y):=fun a n m e hlt=>by
 subst e;simp only [eA] at h;omega
def OY {k:Nat}{y:ω}(h:eA .full y):my (k,y)=[]:=by
 unfold my;split;rename_i b a n m e;simp only [fb] at e;obtain ⟨_,e⟩:=e;subst e;simp only [eA] at h;rw [aF (by omega)];rfl
def Core.tokFull {C:Ctx}{H:Hp}{h:List (Nat×Blk)}{k:List (Nat×ω)}{w:aL}(c:Core C H h k w)(kk:Nat){y:ω}(hy:eA .full y):Core C H h ((kk,y)::k) w:=by
 have hcl:K4 h ((kk,y)::k)=K4 h k:=by unfold K4;rw [cA,OY hy];rfl
 refine ⟨c.ag,c.le,c.new,c.same,c.size,c.blks,?_,by rw [hcl];exact c.nd,by rw [hcl];exact c.own,c.env⟩;intro p hp;rcases cX.1 hp with rfl|hp;exact TokOK.full hy;exact c.toks p hp
def E6 {H:Hp}{k:Nat}{xs:List D}{y:ω}(h:Rep H (.lst k xs .full) y):eA .full y∧Rep H (.lst k xs (.cur y)) y:=by
 obtain ⟨hc,hr⟩:=oL h;refine ⟨hc,?_,by have:=h.2;cases y<;>first|rfl|cases this⟩;have h1:=h.1;simp only [RepC] at h1 ⊢;obtain ⟨y',e,_,a⟩:=h1;have:y'=y:=by have hs:=h.2;cases y<;>simp [D.shape] at hs<;>simp [cT] at e<;>exact e.symm
 subst this;exact ⟨y',e,rfl,a⟩
section
variable {P:aJ}{C:Ctx}{N:Nat}{ops rest:List bG}{o:bG}{t:List (Nat × D)}{h:List (Nat × Blk)}{k:List (Nat × ω)}{Q:dH→S→Prop}{tab:List (Option TI)}
def WkX {Y:Type}(C:Ctx)(s:S)(S1:Y→S):Prop:=∀ H a w,Core C H s.h s.k w→TOK H s.t a→∃ y H',H.le H'∧Core C H' (S1 y).h (S1 y).k w∧TOK H' (S1 y).t a
def WkX.of {Y:Type}{s:S}{S1:Y→S}(y:Y)(h:WkS C s (S1 y)):WkX C s S1:=fun H a w c t=>by
 obtain ⟨H',h1,h2,b⟩:=h H a w c t;exact ⟨y,H',h1,h2,b⟩
def WkX.wk {Y:Type}{s s':S}{S1:Y→S}(h:WkS C s s')(g:WkX C s' S1):WkX C s S1:=fun H a w c t=>by
 obtain ⟨H',h1,h2,b⟩:=h H a w c t;obtain ⟨y,H2,g1,d,e⟩:=g H' a w h2 b;exact ⟨y,H2,Hp.le_trans h1 g1,d,e⟩
def Ae {t:List (Nat×D)}{H:Hp}{a:Act}(kt:TOK H t a){i:Nat}{d:D}{v:ω}(h1:a.tmps[i]? = some v)(h2:Rep H d v):TOK H ((i,d)::t) a:=by
 intro j d' e;simp only [dL] at e;cases hb:bM i j with
 |
  true=>
  rw [hb] at e;simp at e;subst e;have:=aX hb;subst this;exact ⟨v,h1,h2⟩
 | false=>rw [hb] at e;exact kt j d' (by simpa using e)
def WkX.tokF {Y:Type}{S1:Y→S}{i kk:Nat}{xs:List D}(hx:dL t i=some (.lst kk xs .full))(g:∀ y,WkX C ⟨(i,.lst kk xs (.cur y))::t,h,(kk,y)::k⟩ S1):WkX C ⟨t,h,k⟩ S1:=fun H a w c kt=>by
 obtain ⟨v,h1,h2⟩:=kt i _ hx;obtain ⟨b,d⟩:=E6 h2;exact g v H a w (c.tokFull kk b) (Ae kt h1 d)
def l4 {H:Hp}{k k':Nat}{c:Cap}{y:ω}(h:Rep H (.lst k [] c) y)(hc:eA c y):Rep H (.lst k' [] c) y:=by
 obtain ⟨h1,h2⟩:=h;refine ⟨?_,by cases y<;>first|rfl|cases h2⟩;simp only [RepC] at h1 ⊢;obtain ⟨z,e,d,a⟩:=h1;refine ⟨z,e,d,?_⟩;rcases a with ⟨_,a⟩|⟨b,off,m,f,g,j⟩;exact .inl ⟨by trivial,a⟩;exact .inr ⟨b,off,m,f,g,by simp [Els]⟩
def WkX.tokN {Y:Type}{S1:Y→S}{i b:Nat}(kk:Nat)(hx:dL t i=some (.lst b [] .full))(g:∀ y,WkX C ⟨(i,.lst kk [] (.cur y))::t,h,(kk,y)::k⟩ S1):WkX C ⟨t,h,k⟩ S1:=fun H a w c kt=>by
 obtain ⟨v,h1,h2⟩:=kt i _ hx;have d:=l4 (k':=kk) h2 (oL h2).1;obtain ⟨e,f⟩:=E6 d;exact g v H a w (c.tokFull kk e) (Ae kt h1 f)
def Jo {H:Hp}{w:aL}{b off a:Nat}{ds:List D}{T:aD}{xs:List D}(kk j:Nat)(hb:h[j]? = some (b,.cells ds T))(hd:ds[off]? = some (.lst a xs .full))(hk:a=kk∨xs=[])(c:Core C H h k w):∃ y,Core C H (h.set j (b,.cells (ds.set off (.lst kk xs (.cur y))) T)) ((kk,y)::k) w:=by
 obtain ⟨us,h1,h2,f⟩:=c.blks _ (a4 hb);obtain ⟨u,g,n,d,q⟩:=E7 h2 hd;have hr:Rep H (.lst a xs .full) u:=j6 n d q;have hr':Rep H (.lst kk xs .full) u:=by rcases hk with rfl|rfl;exact hr;exact l4 hr (oL hr).1
 obtain ⟨r,s⟩:=E6 hr';refine ⟨u,?_⟩;have c1:=c.tokFull kk r;have hcl:K4 (h.set j (b,Blk.cells (ds.set off (.lst kk xs (.cur u))) T)) ((kk,u)::k)=K4 h ((kk,u)::k):=by exact Jr hb rfl
 refine ⟨c1.ag,c1.le,c1.new,c1.same,c1.size,?_,c1.toks,by rw [hcl];exact c1.nd,by rw [hcl];exact c1.own,c1.env⟩;intro p hp;rcases List.mem_or_eq_of_mem_set hp with hp|hp;exact c1.blks p hp;subst hp;have e:=s.1;rw [Ar d] at e;exact ⟨us,h1,ni off h2 g ⟨e,rfl⟩,f⟩
def WkX.cellF {Y:Type}{S1:Y→S}{b off d:Nat}{ds:List D}{T:aD}{xs:List D}(kk j:Nat)(hb:h[j]? = some (b,.cells ds T))(hd:ds[off]? = some (.lst d xs .full))(hk:d=kk∨xs=[])(g:∀ y,WkX C ⟨t,h.set j (b,.cells (ds.set off (.lst kk xs (.cur y))) T),(kk,y)::k⟩ S1):WkX C ⟨t,h,k⟩ S1:=fun H a w c kt=>by
 obtain ⟨y,c'⟩:=Jo kk j hb hd hk c;exact g y H a w c' kt
def WkS.perm {t t':List (Nat×D)}{h' hj:List (Nat×Blk)}{k' kj:List (Nat×ω)}(e:∀ i d,dL t' i=some d→∃ d0,dL t i=some d0∧Wk d0 d)(hh:h.Perm (h'++hj))(kk:k.Perm (k'++kj)):WkS C ⟨t,h,k⟩ ⟨t',h',k'⟩:=fun H a w c kt=>by
 refine ⟨H,Hp.le_refl H,(c.perm hh kk).drop (List.sublist_append_left _ _) (List.sublist_append_left _ _),?_⟩;intro i d hd;obtain ⟨d0,h1,h2⟩:=e i d hd;obtain ⟨v,b,f⟩:=kt i d0 h1;exact ⟨v,b,h2 H v f⟩
def KP {Y:Type}{c:Code}{s:S}{S1:Y→S}(hs:WkX C s S1)(g:∀ y,h8 P C N c (S1 y) Q):h8 P C N c s Q:=by
 rintro a w ⟨H,c0,kt,hN,hdf⟩;obtain ⟨y,H',hle,c',kt'⟩:=hs H a w c0 kt;exact g y a w ⟨H',c',kt',hN,hdf⟩
def KS {Y:Type}{c:Code}{s:S}(S1:Y→S)(h1:h8 P C N c s (fun x s'=>x=.normal∧WkX C s' S1))(h2:∀ s',WkX C s' S1→Q .normal s'):h8 P C N c s Q:=
 IH h1 fun _ s' ⟨e,hw⟩=>by subst e;exact h2 s' hw
def x7 {τ ρ Y:Type}(C:Ctx)(S1:τ→Y→S)(Q:dH→S→Prop)(x:τ⊕ρ):dH→S→Prop:=fun e s=>
 match x with
 | .inl v=>e=.normal∧WkX C s (S1 v)
 | .inr _=>Q e s
def fI {τ ρ Y:Type}{c:Code}{s:S}(S1:τ→Y→S)(x:τ⊕ρ)(h1:h8 P C N c s (x7 C S1 Q x))(h2:∀ v s',x=.inl v→WkX C s' (S1 v)→Q .normal s'):h8 P C N c s Q:=by
 refine IH h1 fun e s' a=>?_;cases x with
 |
  inl v=>
  obtain ⟨b,hw⟩:=a;subst b;exact h2 v s' rfl hw
 | inr r=>exact a
def WkX.trans {Y Z:Type}{s:S}{S1:Y→S}{S2:Z→S}(h:WkX C s S1)(g:∀ y,WkX C (S1 y) S2):WkX C s S2:=fun H a w c kt=>by
 obtain ⟨y,H1,l1,c1,b⟩:=h H a w c kt;obtain ⟨z,H2,l2,c2,d⟩:=g y H1 a w c1 b;exact ⟨z,H2,Hp.le_trans l1 l2,c2,d⟩
def LP {σ τ:Type}(t:τ)(G:σ→Prop):Step σ τ→Prop
 | .next s=>G s
 | .done u=>u=t
def zg {σ τ:Type}{t:τ}{G:σ→Prop}{s:σ}(h:jT (some (Step.next s)) (LP t G)):G s:=by obtain ⟨x,h1,h2⟩:=h;cases h1;exact h2
def KU {σ τ:Type}{t u:τ}{G:σ→Prop}(h:jT (some (Step.done (σ:=σ) u)) (LP t G)):u=t:=by obtain ⟨x,h1,h2⟩:=h;cases h1;exact h2
def tq {σ τ:Type}{f:σ→Option (Step σ τ)}{t:τ}{n:Nat}{x:σ}(h:fe f (n+1) x=some t):jT (f x) (LP t fun x'=>fe f n x'=some t):=by
 simp only [fe] at h;cases e:f x with
 | none=>rw [e] at h;cases h
 |
  some st=>
  rw [e] at h;cases st with
  | next s'=>exact ⟨_,rfl,h⟩
  | done u=>exact ⟨_,rfl,by simpa [LP] using h⟩
def d7 {σ τ Y:Type}{f:σ→Option (Step σ τ)}{x0:σ}{u:τ}{s:S}{c:Code}(hl:aE f x0=some u)(St:σ→Y→S)(hw:WkX C s (St x0))
  (hb:∀ (G:σ→Prop) x y,jT (f x) (LP u G)→h8 P C N c (St x y) (i6 (fun s'=>∃ x',G x'∧WkX C s' (St x')) Q)):h8 P C N (.loop c) s Q:=by
 obtain ⟨n,hn⟩:=Ft hl;have key:∀ n x y,fe f n x=some u→Gt P C N c Q n (St x y):=by
  intro n;induction n with
  | zero=>intro x y h;simp [fe] at h
  |
   succ n ih=>
   intro x y h;refine Po (IH (hb _ x y (tq h)) ?_);intro e s' q;cases e with
   |
    normal=>
    obtain ⟨x',h1,h2⟩:=q;rintro a w ⟨H,c0,kt,hN,hdf⟩;obtain ⟨y',H',hle,c',kt'⟩:=h2 H a w c0 kt;exact ih x' y' h1 a w ⟨H',c',kt',hN,hdf⟩
   | _=>exact q
 exact KP hw (fun y=>tx n (key n x0 y hn))
def retX (C:Ctx)(tab:List (Option TI))(rs:List dM)(R:D→List (Nat×Blk)→List (Nat×ω)→Prop)(x:dH)(s:S):Prop:=∀ H a w,Core C H s.h s.k w→TOK H s.t a→∃ s' H',H.le H'∧Core C H' s'.h s'.k w∧TOK H' s'.t a∧xO tab rs R x s'
def retX.of {rs:List dM}{R:D→List (Nat×Blk)→List (Nat×ω)→Prop}{x:dH}{s s':S}(h:WkS C s s')(g:xO tab rs R x s'):retX C tab rs R x s:=fun H a w c kt=>by
 obtain ⟨H',h1,h2,b⟩:=h H a w c kt;exact ⟨s',H',h1,h2,b,g⟩
def retX.wk {rs:List dM}{R:D→List (Nat×Blk)→List (Nat×ω)→Prop}{x:dH}{s s':S}(h:WkS C s s')(g:retX C tab rs R x s'):retX C tab rs R x s:=fun H a w c kt=>by
 obtain ⟨H',h1,h2,b⟩:=h H a w c kt;obtain ⟨d,H2,g1,e⟩:=g H' a w h2 b;exact ⟨d,H2,Hp.le_trans h1 g1,e⟩
def retX.wkX {Y:Type}{S1:Y→S}{rs:List dM}{R:D→List (Nat×Blk)→List (Nat×ω)→Prop}{x:dH}{s:S}(h:WkX C s S1)(g:∀ y,retX C tab rs R x (S1 y)):retX C tab rs R x s:=fun H a w c kt=>by
 obtain ⟨y,H',h1,h2,b⟩:=h H a w c kt;obtain ⟨d,H2,g1,e⟩:=g y H' a w h2 b;exact ⟨d,H2,Hp.le_trans h1 g1,e⟩
def retX.tokF {rs:List dM}{R:D→List (Nat×Blk)→List (Nat×ω)→Prop}{x:dH}{i kk:Nat}{xs:List D}(hx:dL t i=some (.lst kk xs .full))(g:∀ y,retX C tab rs R x ⟨(i,.lst kk xs (.cur y))::t,h,(kk,y)::k⟩):retX C tab rs R x ⟨t,h,k⟩:=fun H a w c kt=>by
 obtain ⟨v,h1,h2⟩:=kt i _ hx;obtain ⟨b,d⟩:=E6 h2;exact g v H a w (c.tokFull kk b) (Ae kt h1 d)
def retX.tokN {rs:List dM}{R:D→List (Nat×Blk)→List (Nat×ω)→Prop}{x:dH}{i b:Nat}(kk:Nat)(hx:dL t i=some (.lst b [] .full))(g:∀ y,retX C tab rs R x ⟨(i,.lst kk [] (.cur y))::t,h,(kk,y)::k⟩):retX C tab rs R x ⟨t,h,k⟩:=fun H a w c kt=>by
 obtain ⟨v,h1,h2⟩:=kt i _ hx;have d:=l4 (k':=kk) h2 (oL h2).1;obtain ⟨e,f⟩:=E6 d;exact g v H a w (c.tokFull kk e) (Ae kt h1 f)
def retX.cellF {rs:List dM}{R:D→List (Nat×Blk)→List (Nat×ω)→Prop}{x:dH}{b off d:Nat}{ds:List D}{T:aD}{xs:List D}(kk j:Nat)(hb:h[j]? = some (b,.cells ds T))(hd:ds[off]? = some (.lst d xs .full))(hk:d=kk∨xs=[])(g:∀ y,retX C tab rs R x ⟨t,h.set j (b,.cells (ds.set off (.lst kk xs (.cur y))) T),(kk,y)::k⟩):retX C tab rs R x ⟨t,h,k⟩:=fun H a w c kt=>by
 obtain ⟨y,c'⟩:=Jo kk j hb hd hk c;exact g y H a w c' kt
def KV {f:FuncId}{fn:Func}{c:Code}{ds:List D}{R:D→List (Nat×Blk)→List (Nat×ω)→Prop}{rs:List dM}(ht:bO P tab)
  (hf : P.funcs[f]? = some fn) (hb : fn.body = some c) (hn : (fn.name == "runtime.NumGoroutine") = false) {N : Nat} (hN : fn.ntmps = N) (hl : cK ds.length N = true) (hrs : fn.results.toList = rs)
  (hw:∀ C,h8 P C N c ⟨pZ 0 ds,h,k⟩ (retX C tab rs R)):CallsD P f ds h k R:=by
 refine enter ht hf hb hn hN hl hrs fun C=>?_;intro a w r;refine wp_mono (hw C a w r) ?_;rintro x a' w' ⟨s,⟨H,c0,kt,hN,hdf⟩,hk⟩;obtain ⟨s',H',hle,c',kt',hr⟩:=hk H a' w' c0 kt;exact ⟨s',⟨H',c',kt',hN,hdf⟩,hr⟩
def Ad {s:S}:jd tab s [] []:=rfl
def wS {s:S}{r:dM}{rs:List dM}{d:D}{ds:List D}(h1:BJ tab s r d)(h2:jd tab s rs ds):jd tab s (r::rs) (d::ds):=⟨d,ds,rfl,h1,h2⟩
def yV {s:S}{i:Nat}{d:D}(h1:dL s.t i=some d):BJ tab s (.tmp i) d:=h1
def O0 {s:S}{a b off:Nat}{T T':aD}{ds:List D}{i:TI}{d:D}(j:Nat)(h1:dL s.t a=some (.ptr b off))(h2:s.h[j]? = some (b,Blk.cells ds T'))(c:ti tab T=some i)(e:eZ i ds off=some d):BJ tab s (.cell a T) d:=⟨j,b,off,ds,T',i,h1,h2,c,e⟩
def yR {R:D→List (Nat×Blk)→List (Nat×ω)→Prop}{rs:List dM}{x:dH}{s:S}{ds:List D}{hh:List (Nat×Blk)}{kk:List (Nat×ω)}(hx:x=.ret∨x=.normal)(hr:jd tab s rs ds)(hs:hh.Sublist s.h)(ks:kk.Sublist s.k)(g:R (jC ds) hh kk):xO tab rs R x s:=⟨hx,ds,hh,kk,hr,hs,ks,g⟩
def zm {α:Type}{a:α→D}{kk:Nat}{T e:aD}{x:aH}{lo hi:Option aH}{l' n':Option Int}{xs ys:List α}{l n:Int}{c:Cap}{b tie:TI}(q:eP xs l n=some ys)(hT:bO P tab)(ho:o.op=.slice T x lo hi none)
  (hx:cS t x=some (.lst kk (xs.map a) c)) (f:gU t lo=some l') (g:gU t hi=some n') (hti:ti tab T=some b) (hs:b.d=.slice e) (hte:ti tab e=some tie) (hk:tie.size=kk) (h1:l'.getD 0=l) (h2:n'.getD xs.length=n):Ex P o t (.lst kk (ys.map a) .no):=by
 obtain ⟨j,p,r,s,u⟩:=E3 q;have:=tr hT ho hx f g hti hs hte hk (h1.trans p) (by rw [KT];exact h2.trans r) s (by rw [KT];exact u);rw [j,List.map_take,List.map_drop];exact this
def AD {T:aD}{x:aH}{lo hi:Option aH}{l' n':Option Int}{s r:η}{l n:Int}{a:TI}(q:i7 s l n=some r)(hT:bO P tab)(ho:o.op=.slice T x lo hi none)
  (hx:cS t x=some (.v (.string s))) (b:gU t lo=some l') (c:gU t hi=some n') (hti:ti tab T=some a) (hs:a.d=.str) (h1:l'.getD 0=l) (h2:n'.getD s.size=n):Ex P o t (.v (.string r)):=by
 obtain ⟨e,f,g,j,p⟩:=qY q;have:=zk hT ho hx b c hti hs (h1.trans f) (h2.trans g) j p;rw [e];exact this
def uC {α:Type}{a:α→D}{i kk:Nat}{T e:aD}{x:aH}{lo hi:Option aH}{l' n':Option Int}{xs ys:List α}{l n:Int}{c:Cap}{b tie:TI}(q:eP xs l n=some ys)(hT:bO P tab)(ho:o.op=.slice T x lo hi none)(hw:bC ops t o=some true)(hd:o.dst=some i)(f:aZ i N=true)
  (hx:cS t x=some (.lst kk (xs.map a) c)) (j:gU t lo=some l') (p:gU t hi=some n') (hti:ti tab T=some b) (hs:b.d=.slice e) (hte:ti tab e=some tie) (hk:tie.size=kk) (h1:l'.getD 0=l) (h2:n'.getD xs.length=n)
  (g:a1 P C N ops rest ⟨(i,.lst kk (ys.map a) .no)::t,h,k⟩ Q):a1 P C N ops (o::rest) ⟨t,h,k⟩ Q:=by
 obtain ⟨r,s,u,v,w⟩:=E3 q;refine A7 hT ho hw hd f hx j p hti hs hte hk (h1.trans s) (by rw [KT];exact h2.trans u) v (by rw [KT];exact w) ?_;rw [r,List.map_take,List.map_drop] at g;exact g
def Q6 {i:Nat}{T:aD}{x:aH}{lo hi:Option aH}{l' n':Option Int}{s r:η}{l n:Int}{a:TI}(q:i7 s l n=some r)(hT:bO P tab)(ho:o.op=.slice T x lo hi none)(hw:bC ops t o=some true)(hd:o.dst=some i)(b:aZ i N=true)
  (hx:cS t x=some (.v (.string s))) (c:gU t lo=some l') (e:gU t hi=some n') (hti:ti tab T=some a) (hs:a.d=.str) (h1:l'.getD 0=l) (h2:n'.getD s.size=n)
  (g:a1 P C N ops rest ⟨(i,.v (.string r))::t,h,k⟩ Q):a1 P C N ops (o::rest) ⟨t,h,k⟩ Q:=by
 obtain ⟨f,j,p,u,w⟩:=qY q;refine Ep hT ho hw hd b hx c e hti hs (h1.trans j) (h2.trans p) u w ?_;rw [f] at g;exact g
def jo {α:Type}{a:α→D}{i kk:Nat}{xs ys zs:List α}{bb:Nat}{c:Cap}(q:app bb xs ys=some zs)(hx:dL t i=some (.lst kk (xs.map a++ys.map a) c))(g:a1 P C N ops rest ⟨(i,.lst kk (zs.map a) c)::t,h,k⟩ Q):a1 P C N ops rest ⟨t,h,k⟩ Q:=
 bA hx (Wk.of_eq (by rw [E2 q])) g
def GD {α:Type}{a:α→D}{i kk:Nat}{ys zs:List α}{bb:Nat}{c:Cap}(q:app bb [] ys=some zs)(hx:dL t i=some (.lst kk (ys.map a) c))(g:a1 P C N ops rest ⟨(i,.lst kk (zs.map a) c)::t,h,k⟩ Q):a1 P C N ops rest ⟨t,h,k⟩ Q:=
 bA hx (Wk.of_eq (by rw [(sF q).1];simp)) g
def B3 {α:Type}:∀ {l:List α} {j:Nat} {x y:α},l[j]? = some x→(y::l.eraseIdx j).Perm (l.set j y)
 | [],j,x,y,h=>by simp at h
 | a::l,0,x,y,h=>by simp
 |
  a::l,j+1,x,y,h=>by
  simp at h;simp only [List.eraseIdx_cons_succ,List.set_cons_succ];exact (List.Perm.swap a y _).trans ((B3 h).cons a)
end
section
variable {P:aJ}{C:Ctx}{N:Nat}{ops rest:List bG}{o:bG}{t:List (Nat × D)}{h:List (Nat × Blk)}{k:List (Nat × ω)}{Q:dH→S→Prop}{tab:List (Option TI)}
def ze {τ ρ Y:Type}{S1:τ→Y→S}{s:S}{v:τ}(g:WkX C s (S1 v)):x7 (ρ:=ρ) C S1 Q (.inl v) .normal s:=⟨rfl,g⟩
def fH {τ ρ Y:Type}{S1:τ→Y→S}{s:S}{r:ρ}(g:Q .ret s):x7 C S1 Q (.inr r) .ret s:=g
def CallsD.drop {f:FuncId}{ds:List D}{R:D→List (Nat×Blk)→List (Nat×ω)→Prop}{a:D}(c:CallsD P f ds h k R)(hr:∀ d h k,R d h k→Wk d a):CallsD P f ds h k (fun d h k=>d=a∧h=[]∧k=[]):=by
 refine ⟨c.1,fun H w vs h1 h2 b g j=>(c.2 H w vs h1 h2 b g j).mono ?_⟩;rintro e w' ⟨v,H',d,h',k',n,p,q,r⟩;exact ⟨v,H',a,[],[],n,hr d h' k' r H' v p,q.drop (eC _) (eC _),rfl,rfl,rfl⟩
def Ex.wk {d d':D}(h:Ex P o t d)(k:Wk d d'):Ex P o t d':=fun H a w kt=>let ⟨v,h1,h2⟩:=h H a w kt;⟨v,h1,k H v h2⟩
def ExE.wk {d d':D}(h:ExE P o t d)(k:Wk d d'):ExE P o t d':=fun H a w hA kt=>let ⟨v,w',H',h1,h2,b⟩:=h H a w hA kt;⟨v,w',H',h1,h2,k H' v b⟩
def xW {b off c:Nat}{ds:List D}{T:aD}{xs:List D}(kk j:Nat)(hb:h[j]? = some (b,.cells ds T))(hd:ds[off]? = some (.lst c xs .full))(hk:c=kk∨xs=[])(g:∀ y,a1 P C N ops rest ⟨t,h.set j (b,.cells (ds.set off (.lst kk xs (.cur y))) T),(kk,y)::k⟩ Q):a1 P C N ops rest ⟨t,h,k⟩ Q:=by
 rintro a w ⟨H,c0,kt,hN,hdf⟩;obtain ⟨y,c'⟩:=Jo kk j hb hd hk c0;exact g y a w ⟨H,c',kt,hN,hdf⟩
def uS {b:Nat}{ds ds':List D}{T:aD}{h':List (Nat×Blk)}(j:Nat)(hb:h[j]? = some (b,.cells ds T))(hw:WkR ds ds')(e:h.set j (b,.cells ds' T)=h')(g:a1 P C N ops rest ⟨t,h',k⟩ Q):a1 P C N ops rest ⟨t,h,k⟩ Q:=
 px (s:=⟨t,h,k⟩) (s':=⟨t,h',k⟩) (WkS.blk j hb hw e) g
def kz {c:Code}{i:Nat}{d d':D}(hx:dL t i=some d)(e:Wk d d')(g:h8 P C N c ⟨(i,d')::t,h,k⟩ Q):h8 P C N c ⟨t,h,k⟩ Q:=by
 rintro a w ⟨H,c0,kt,hN,hdf⟩;obtain ⟨v,h1,h2⟩:=kt i _ hx;exact g a w ⟨H,c0,Ae kt h1 (e H v h2),hN,hdf⟩
end
def f7 (n:Int):D:=.v (.int .i64 n)
abbrev fB (x:List Int):D:=.lst 1 (x.map f7) .no
abbrev dO (x:List Int):D:=.lst 1 (x.map f7) .full
abbrev eI (x:List Int)(c:ω):D:=.lst 1 (x.map f7) (.cur c)
def vD (s:η):D:=.v (.string s)
abbrev fS (x:List η)(c:ω):D:=.lst 1 (x.map vD) (.cur c)
abbrev cG (x:List η):D:=.lst 1 (x.map vD) .full
abbrev iM (x:List η):D:=.lst 1 (x.map vD) .no
def ly {α:Type}(k:Nat)(e:α→D)(l:List α):D:=.lst k (l.map e) .no
end
section
open Go
def Le {α:Type}(m m':Option α):Prop:=∀ r,m=some r→m'=some r
def Le.refl {α:Type}(m:Option α):Le m m:=fun _ h=>h
def Le.none {α:Type}(m:Option α):Le Option.none m:=fun _ h=>by cases h
def Le.bind {α β:Type}{m m':Option α}{f f':α→Option β}(h:Le m m')(k:∀ x,Le (f x) (f' x)):Le (m.bind f) (m'.bind f'):=fun r e=>by
 rw [Option.bind_eq_some_iff] at e ⊢;obtain ⟨a,h1,h2⟩:=e;exact ⟨a,h a h1,k a r h2⟩
def Le.cond {α:Type}{c:Bool}{m m' n n':Option α}(h:Le m m')(k:Le n n'):Le (bif c then m else n) (bif c then m' else n'):=by
 cases c;exact k;exact h
def Le.elim {α β γ:Type}{f f':α→Option γ}{g g':β→Option γ}{x:α⊕β}(h:∀ a,Le (f a) (f' a))(k:∀ b,Le (g b) (g' b)):Le (Ω f g x) (Ω f' g' x):=by
 cases x;exact h _;exact k _
def Le.loop {σ τ:Type}{f f':σ→Option (Step σ τ)}{s:σ}(h:∀ s,Le (f s) (f' s)):Le (aE f s) (aE f' s):=fun r e=>by
 obtain ⟨n,hn⟩:=Ft e;have key:∀ n s,fe f n s=some r→fe f' n s=some r:=by
  intro n;induction n with
  | zero=>intro s h;simp [fe] at h
  |
   succ n ih=>
   intro s e;simp only [fe] at e ⊢;cases hf:f s with
   | none=>rw [hf] at e;cases e
   |
    some x=>
    rw [hf] at e;rw [h s x hf];cases x with
    | next s'=>exact ih s' e
    | done t=>exact e
 exact GK (key n s hn)
open Classical in
def gK {α:Type}(f:Nat→Option α):Option α:=if h:∃ n r,f n=some r then some h.choose_spec.choose else Option.none
def kq {α:Type}{f:Nat→Option α}{r:α}(h:gK f=some r):∃ n,f n=some r:=by
 unfold gK at h;split at h;rename_i hx;simp only [aA] at h;exact ⟨_,h ▸ hx.choose_spec.choose_spec⟩;cases h
def kU {α:Type}{f:Nat→Option α}(hle:∀ n,Le (f n) (f (n+1))){r:α}{n:Nat}(h:f n=some r):gK f=some r:=by
 have up:∀ (k n:Nat) (r:α),f n=some r→f (n+k)=some r:=by
  intro k;induction k with
  | zero=>intro n r e;exact e
  | succ k ih=>intro n r e;exact hle _ _ (ih n r e)
 have hx:∃ n r,f n=some r:=⟨n,r,h⟩;unfold gK;rw [ft hx];have h1:=hx.choose_spec.choose_spec;have h2:=up n _ _ h1;have a:=up hx.choose _ _ h;rw [Nat.add_comm] at a;exact h2.symm.trans a
def bD (a b:η):Option η:=bif decide (((a.size+b.size:Nat):Int)≤ζ.max) then some (a++b) else none
def yD {a b r:η}(h:bD a b=some r):r=a++b∧((a.size+b.size:Nat):Int)≤ζ.max:=by
 unfold bD at h;by_cases hc:((a.size+b.size:Nat):Int)≤ζ.max;rw [Ξ hc] at h;simp only [ξ,aA] at h;exact ⟨h.symm,hc⟩;rw [Δ hc] at h;cases h
def Bq:ζ.max=9223372036854775807:=by decide
def yE {a b:η}(h:a.size+b.size≤9223372036854775807):bD a b=some (a++b):=by
 unfold bD;rw [Ξ (by rw [Bq];omega)];rfl
section
variable {P:aJ}{C:Ctx}{N:Nat}{ops rest:List bG}{o:bG}{t:List (Nat × D)}{h:List (Nat × Blk)}{k:List (Nat × ω)}{Q:dH→S→Prop}{tab:List (Option TI)}
def zn {xt yt:aD}{x y:aH}{a b r:η}(q:bD a b=some r)(ho:o.op=.binOp .add xt x y yt)(hx:cS t x=some (.v (.string a)))(hy:cS t y=some (.v (.string b))):Ex P o t (.v (.string r)):=fun H ac w kt=>by
 obtain ⟨rfl,hl⟩:=yD q;refine ⟨.string (a++b),?_,dA rfl⟩;unfold bL;rw [ho];refine iC ?_;rw [eW (eh kt hx),eW (eh kt hy)];have hn:¬ ζ.max<((a.size+b.size:Nat):Int):=by omega
 have h2:binOp .add xt (.string a) (.string b)=pure (.string (a++b)):=by
  unfold binOp Op.stringOp;simp only [gt_iff_lt];rw [aF hn]
 have h1:(eqGuard .add xt x y (.string a) (.string b)).run P w=.ok () w:=by simp [eqGuard]<;>rfl
 rw [KL h1,h2];rfl
def EA {i:Nat}{xt yt:aD}{x y:aH}{a b r:η}(q:bD a b=some r)(ho:o.op=.binOp .add xt x y yt)(hw:bC ops t o=some true)(hd:o.dst=some i)(hi:aZ i N=true)(hx:cS t x=some (.v (.string a)))(hy:cS t y=some (.v (.string b)))
 (g:a1 P C N ops rest ⟨(i,.v (.string r))::t,h,k⟩ Q):a1 P C N ops (o::rest) ⟨t,h,k⟩ Q:=mH (s:=⟨t,h,k⟩) hw hd hi (zn q ho hx hy) g
def DO {T T':aD}{x y:aH}{kk:fP}{a b:Int}(ho:o.op=.call ⟨.builtin .max,[x,y].toArray,#[T,T']⟩)(hx:cS t x=some (.v (.int kk a)))(hy:cS t y=some (.v (.int kk b))):Ex P o t (.v (.int kk (max a b))):=fun H ac w kt=>by
 refine ⟨.int kk (max a b),sI (s:=Builtin.max_) ho (fun _ _=>rfl) ?_,dA rfl⟩;simp only [a7,fg,eW (eh kt hx),eW (eh kt hy)];show (pure (.int kk (if b>a then b else a)):Sem ω).run P w=_
 have:max a b=if b>a then b else a:=by split<;>omega
 rw [this];rfl
def zP {i:Nat}{T T':aD}{x y:aH}{kk:fP}{a b:Int}(ho:o.op=.call ⟨.builtin .max,[x,y].toArray,#[T,T']⟩)(hw:bC ops t o=some true)(hd:o.dst=some i)(hi:aZ i N=true)(hx:cS t x=some (.v (.int kk a)))(hy:cS t y=some (.v (.int kk b)))
 (g:a1 P C N ops rest ⟨(i,.v (.int kk (max a b)))::t,h,k⟩ Q):a1 P C N ops (o::rest) ⟨t,h,k⟩ Q:=mH (s:=⟨t,h,k⟩) hw hd hi (DO ho hx hy) g
def zl {T T':aD}{x y:aH}{kk:fP}{a b:Int}(ho:o.op=.call ⟨.builtin .min,[x,y].toArray,#[T,T']⟩)(hx:cS t x=some (.v (.int kk a)))(hy:cS t y=some (.v (.int kk b))):Ex P o t (.v (.int kk (min a b))):=fun H ac w kt=>by
 refine ⟨.int kk (min a b),sI (s:=Builtin.min_) ho (fun _ _=>rfl) ?_,dA rfl⟩;simp only [a7,fg,eW (eh kt hx),eW (eh kt hy)];show (pure (.int kk (if b<a then b else a)):Sem ω).run P w=_
 have:min a b=if b<a then b else a:=by split<;>omega
 rw [this];rfl
def zO {i:Nat}{T T':aD}{x y:aH}{kk:fP}{a b:Int}(ho:o.op=.call ⟨.builtin .min,[x,y].toArray,#[T,T']⟩)(hw:bC ops t o=some true)(hd:o.dst=some i)(hi:aZ i N=true)(hx:cS t x=some (.v (.int kk a)))(hy:cS t y=some (.v (.int kk b)))
 (g:a1 P C N ops rest ⟨(i,.v (.int kk (min a b)))::t,h,k⟩ Q):a1 P C N ops (o::rest) ⟨t,h,k⟩ Q:=mH (s:=⟨t,h,k⟩) hw hd hi (zl ho hx hy) g
def GC {i kk:Nat}{xt yt e:Nat}{x:aH}{xs:List D}{c:Cap}{f:TI}(hT:bO P tab)(ho:o.op=.binOp .eql xt x (.const (.slice none 0 0)) yt)(hw:bC ops t o=some true)(hd:o.dst=some i)(hi:aZ i N=true)(hx:cS t x=some (.lst kk xs c))(j:ti tab xt=some f)(p:f.d=.slice e)
  (g:∀ b,(b=true→xs=[])→a1 P C N ops rest ⟨(i,.v (.bool b))::t,h,k⟩ Q):a1 P C N ops (o::rest) ⟨t,h,k⟩ Q:=by
 refine ko (s:=⟨t,h,k⟩) hw hd hi fun H a w cc kt=>?_;obtain ⟨d0,r,u⟩:=iY (w:=w) (b4 hT j);obtain rfl:=lB (u.trans p);have hr:=eh kt hx;obtain ⟨_,y⟩:=oL hr;have key:∀ (ad:Option Addr) (n m:Nat),a.eval x=.slice ad n m→(bL a.eval o).run P w=.ok (.value (.bool ad.isNone)) w:=by
  intro ad n m hv;unfold bL;rw [ho];refine iC ?_;rw [hv];have h1:(eqGuard .eql xt x (.const (.slice none 0 0)) (.slice ad n m) (a.eval (.const (.slice none 0 0)))).run P w=.ok () w:=by simp [eqGuard,RH]<;>rfl
  rw [KL h1];show (do pure (.bool (← AA xt (.slice ad n m) (.slice none 0 0))):Sem ω).run P w=_;have h2:(AA xt (.slice ad n m) (.slice none 0 0)).run P w=.ok ad.isNone w:=by show (oQ (9999+1) xt _ _).run P w=_;rw [oQ,KL r];cases ad<;>rfl
  rw [KL h2];rfl
 rcases y with ⟨rfl,ad,m,hv,_⟩|⟨b,off,m,hv,_,hE⟩;exact ⟨.bool ad.isNone,w,H,.v (.bool ad.isNone),h,k,key _ _ _ hv,Hp.le_refl H,cc,dA rfl,g _ fun _=>rfl⟩;exact ⟨.bool false,w,H,.v (.bool false),h,k,key _ _ _ hv,Hp.le_refl H,cc,dA rfl,g _ fun q=>by cases q⟩
def JP {H:Hp}:∀ {l m:List D} {us vs:List ω},RepsV H l us→RepsV H m vs→RepsV H (l++m) (us++vs)
 | [],m,us,vs,h,k=>by simp only [RepsV] at h;subst h;simpa using k
 |
  d::l,m,us,vs,h,k=>by
  simp only [RepsV] at h;obtain ⟨u,us',rfl,h1,h2⟩:=h;simp only [bK,RepsV];exact ⟨u,_,rfl,h1,JP h2 k⟩
def ph {H:Hp}{f:Fn}{as_ cs:List D}{y:ω}(h:Rep H (.fn f as_ cs) y):∃ vs ws,y=.func f vs.toArray ws.toArray∧RepsV H as_ vs∧RepsV H cs ws:=by
 obtain ⟨h1,h2⟩:=h;cases y<;>simp [D.shape] at h2<;>simp [RepC,cT] at h1<;>simp [h1]
def sA {f:FuncId}{args:List aH}{ts:Array aD}{x:aH}{a:Act}{w:aL}{vs ws:List ω}(ho:o.op=.call ⟨.value x,args.toArray,ts⟩)(hx:a.eval x=.func (.func f) vs.toArray ws.toArray)(h:sQ P f):(bL a.eval o).run P w=.ok (.enter f (vs++args.map a.eval++ws).toArray) w:=by
 unfold bL;rw [ho];simp only [];have:(resolve a.eval ⟨.value x,args.toArray,ts⟩ o.type).run P w=.ok ⟨.fn (.func f) ws.toArray,vs.toArray++(args.map a.eval).toArray⟩ w:=by simp [resolve,Deferred.ofValue,hx];first|done|rfl
 rw [KL this];show (callFunc f (vs.toArray++(args.map a.eval).toArray++ws.toArray)).run P w=_;rw [Mz h];simp
def rk {f:FuncId}{x:aH}{args:List aH}{ts:Array aD}{i:Nat}{as_ cs ds da ds':List D}{h1 h2:List (Nat×Blk)}{k1 k2:List (Nat×ω)}{R:D→List (Nat×Blk)→List (Nat×ω)→Prop}
  (hc:CallsD P f ds' h1 k1 R) (hx:cS t x=some (.fn (.func f) as_ cs)) (ho:o.op=.call ⟨.value x,args.toArray,ts⟩) (hw:bC ops t o=some true) (hd:o.dst=some i) (hi:aZ i N=true) (ha:kp args (cS t)=some ds) (hda:as_++ds++cs=da) (hwk:WkL da ds')
  (hh:h.Perm (h1++h2)) (hk:k.Perm (k1++k2)) (g:∀ d h' k',R d h' k'→a1 P C N ops rest ⟨(i,d)::t,h'++h2,k'++k2⟩ Q):a1 P C N ops (o::rest) ⟨t,h,k⟩ Q:=by
 subst hda;rintro a w ⟨H,c,kt,hN,hdf⟩;obtain ⟨vs,ws,ex,b,j⟩:=ph (eh kt hx);unfold wpList;rw [sZ kt hw,aQ rfl];refine .inl ?_;unfold ku;rw [sA ho ex hc.1,Oper.upon_enter];have c0:=c.perm hh hk;have nd:=(y0 h1 h2 k1 k2).nodup_iff.1 c0.nd;rw [zh] at nd;have hv:=hwk H _ (JP (JP b (An kt ha)) j);have:=hc.2 H w _ hv c.ag (fun p hp=>c0.blks p (cF _ hp)) (fun p hp=>c0.toks p (cF _ hp)) nd.1;refine this.mono ?_;rintro e w' ⟨v,H',d,h',k',rfl,hr,hcore,hR⟩;simp only [];rw [hd];refine g d h' k' hR _ _ ⟨H',Core.call c0 hcore,TOK.put (kt.mono hcore.le) (by rw [hN];simpa using hi) hr,?_,hdf⟩;simp only [io,fA];exact hN
def B2 {f:FuncId}{x:aH}{args:List aH}{ts:Array aD}{i:Nat}{as_ cs ds da ds':List D}{R:D→Prop}
  (hc:CallsD P f ds' [] [] (fun d h k=>R d∧h=[]∧k=[])) (hx:cS t x=some (.fn (.func f) as_ cs)) (ho:o.op=.call ⟨.value x,args.toArray,ts⟩) (hw:bC ops t o=some true) (hd:o.dst=some i) (hi:aZ i N=true) (ha:kp args (cS t)=some ds) (hda:as_++ds++cs=da) (hwk:WkL da ds')
  (g:∀ d,R d→a1 P C N ops rest ⟨(i,d)::t,h,k⟩ Q):a1 P C N ops (o::rest) ⟨t,h,k⟩ Q:=
 rk (h1:=[]) (k1:=[]) (h2:=h) (k2:=k) hc hx ho hw hd hi ha hda hwk (aM _) (aM _) fun d h' k' ⟨r,a,b⟩=>by subst a;subst b;exact g d r
end
end
section
open Go
def Kgm {w:aL}{a:Addr}{n k:Nat}:(w.freeze a n).heap[k]? = w.heap[k]?∨(a.block=k∧∃ c e f g,w.heap[k]? = some (.cells c e f)∧(w.freeze a n).heap[k]? = some (.cells c e g)):=by
 unfold World.freeze;split;exact .inl rfl;by_cases hk:a.block=k
 ·subst hk;simp only [Array.getElem?_modify,bR];cases h:w.heap[a.block]? with
  | none=>exact .inl rfl
  |
   some o=>
   cases o<;>first|exact .inl rfl|(rename_i c e f;exact .inr ⟨trivial,c,e,f,_,rfl,rfl⟩)
 left;simp [Array.getElem?_modify,hk]
def Jw {w:aL}{a x:Addr}{n:Nat}:(w.freeze a n).cell? x=w.cell? x:=by
 unfold aO;rcases Kgm (w:=w) (a:=a) (n:=n) (k:=x.block) with h|⟨_,c,e,f,g,h1,h2⟩;rw [h];rw [h1,h2]
def Jn (w:aL)(a:Addr)(n:Nat):Env w (w.freeze a n)∧(w.freeze a n).heap.size=w.heap.size:=by
 unfold World.freeze;split;exact ⟨Env.refl w,rfl⟩;exact ⟨⟨rfl,rfl,rfl,Φ _⟩,by simp⟩
def Jh {H:Hp}{w:aL}{a:Addr}{n:Nat}(g:GG H w):GG H (w.freeze a n):=by
 obtain ⟨h1,h2,T,fz,b⟩:=g;refine ⟨h1,h2,?_⟩;rcases Kgm (w:=w) (a:=a) (n:=n) (k:=tabG) with h|⟨_,c,e,f,f',d,j⟩;exact ⟨T,fz,by rw [h];exact b⟩;rw [d] at b;simp only [aA,mC] at b;exact ⟨_,_,by rw [j,b.1]⟩
def Core.freezeNew {H H':Hp}{w w':aL}{b off n:Nat}(c:Core ⟨H,w,[]⟩ H' [] [] w')(hb:w.heap.size≤b):Core ⟨H,w,[]⟩ H' [] [] (w'.freeze ⟨b,off,none⟩ n):=by
 obtain ⟨he,hs⟩:=Jn w' ⟨b,off,none⟩ n;refine ⟨⟨fun a v e=>by rw [Jw];exact c.ag a v e,Jh c.ag.gg⟩,c.le,c.new,fun k hk d=>?_,by rw [hs];exact c.size,by simp,by simp,by simp [K4],by simp [K4],c.env.trans he⟩;have hk':k<w.heap.size:=hk;rcases Kgm (w:=w') (a:=⟨b,off,none⟩) (n:=n) (k:=k) with h|⟨h1,_⟩;rw [h];exact c.same k hk d;simp only at h1;omega
def ua {P:aJ}{w:aL}{b off:Nat}:∃ w',(markStringish ⟨b,off,none⟩).run P w=.ok () w'∧(w'=w∨∃ o n,w'=w.freeze ⟨b,o,none⟩ n):=by
 unfold markStringish;have h:(shape b).run P w=.ok (w.shape? b) w:=rfl;rw [KL h];cases w.shape? b with
 | none=>exact ⟨w,rfl,.inl rfl⟩
 | some p=>exact ⟨w.freeze ⟨b,p.2,none⟩ 1,rfl,.inr ⟨p.2,1,rfl⟩⟩
section
variable {P:aJ}{C:Ctx}{N:Nat}{ops rest:List bG}{o:bG}{t:List (Nat × D)}{h:List (Nat × Blk)}{k:List (Nat × ω)}{Q:dH→S→Prop}{tab:List (Option TI)}
def A8 {f u n kk:Nat}{p:bG}{T e:aD}{ps:Array (Nat×aH)}{x ie:TI}{r:List D}(hT:bO P tab)(ho:o.op=.buildSlice T n ps)(hw:bC ops t o=some true)(hd:o.dst=some f)(hi:aZ f N=true)
  (G:p.op=.convert T T (.tmp f)) (I:bC ops ((f,.lst kk (rh ie.agg kk n r) .no)::t) p=some true) (J:p.dst=some u) (K:aZ u N=true)
  (y:ti tab T=some x) (z:x.d=.slice e) (hie:ti tab e=some ie) (hde:ie.d=.int .u8) (hks:ie.size=kk) (hz:ie.zero.all one=true) (hzl:bM ie.zero.length kk=true) (hpos:cK 1 (n*kk)=true) (hmax:cK (n*kk) 16777216=true) (hag:(ie.agg || bM kk 1)=true)
  (er:oz tab ((ff n).map fun j=>(e,j*kk)) t ps.toList (aV (n*kk) .any)=some r)
  (g:a1 P C N ops rest ⟨(u,.lst kk (rh ie.agg kk n r) .no)::(f,.lst kk (rh ie.agg kk n r) .no)::t,h,k⟩ Q):a1 P C N ops (o::p::rest) ⟨t,h,k⟩ Q:=by
 rintro a w ⟨H,c,kt,hN,hdf⟩;obtain ⟨s,H1,L,c1,M⟩:=tt hT ho y z hie hks hz hzl hpos hmax hag er H a w c.ag kt;have A:Rep H1 (.lst kk (rh ie.agg kk n r) .no) (.slice (some ⟨w.heap.size,0,none⟩) n n):=Wk.no H1 _ M;obtain ⟨v,O,R⟩:=ua (P:=P) (w:=s) (b:=w.heap.size) (off:=0);have c2:Core ⟨H,w,[]⟩ H1 [] [] v:=by rcases R with rfl|⟨q,m,rfl⟩;exact c1;exact c1.freezeNew (Φ _)
 have c3:Core C H1 h k v:=by have:=Core.call (h1:=[]) (k1:=[]) (h2:=h) (k2:=k) (by simpa using c) c2;simpa using this
 have B:TOK H1 ((f,.lst kk (rh ie.agg kk n r) .no)::t) (a.put (some f) (.slice (some ⟨w.heap.size,0,none⟩) n n)):=TOK.put (kt.mono c1.le) (by rw [hN];simpa using hi) A;have U:(a.put (some f) (.slice (some ⟨w.heap.size,0,none⟩) n n)).tmps.size=N:=by simp only [io,fA];exact hN
 unfold wpList;rw [sZ kt hw,aQ rfl];refine .inl ?_;unfold ku;rw [L,fT,hd];unfold wpList;rw [sZ B I,aQ rfl];refine .inl ?_;unfold ku;have hev:(a.put (some f) (Value.slice (some ⟨w.heap.size,0,none⟩) n n)).eval (.tmp f)=.slice (some ⟨w.heap.size,0,none⟩) n n:=by simp only [RH,io];rw [Array.getD_eq_getD_getElem?,Array.getElem?_setIfInBounds_self_of_lt (by rw [hN];simpa using hi)];rfl
 have V:(bL (a.put (some f) (Value.slice (some ⟨w.heap.size,0,none⟩) n n)).eval p).run P s=.ok (.value (.slice (some ⟨w.heap.size,0,none⟩) n n)) v:=by unfold bL;rw [G];refine iC ?_;rw [hev];obtain ⟨d0,F,W⟩:=iY (w:=s) (b4 hT y);obtain rfl:=lB (W.trans z);obtain ⟨Z,X,Y⟩:=iY (w:=s) (b4 hT hie);obtain rfl:=BN (Y.trans hde);unfold convert;rw [KL F,KL F];simp only [];rw [KL X];simp only [aG];rw [KL O];rfl
 rw [V,fT,J];refine g _ _ ⟨H1,c3,TOK.put B (by rw [U];simpa using K) A,?_,hdf⟩;simp only [io,fA];exact hN
end
end
section
open Go
def vn {α:Type}{xs:List α}{j:Int}{x:α}(h:idx xs j=some x):j.toNat<xs.length:=(aP.1 (z6 h).2).1
def qI {α:Type}{xs:List α}{j:Int}{x:α}{n:Nat}(h:idx xs j=some x)(hn:xs.length=n):j<(n:Int):=by
 have:=vn h;have:=KG h;omega
def nC {α:Type}{i:TI}{e:α→D}{xs:List α}{j:Int}{x:α}(hg:i.agg=false)(h:idx xs j=some x):eZ i (xs.map e) (j.toNat*1)=some (e x):=by
 unfold eZ;rw [hg,θ,Nat.mul_one,f9,(z6 h).2];rfl
section
variable {P:aJ}{C:Ctx}{N:Nat}{ops rest:List bG}{o:bG}{t:List (Nat × D)}{h:List (Nat × Blk)}{k:List (Nat × ω)}{Q:dH→S→Prop}{tab:List (Option TI)}
def AC {n:Nat}{T e:aD}{x ix:aH}{ik:fP}{j:Int}{ds:List D}{d:D}{b tie:TI}(hT:bO P tab)(ho:o.op=.index T x ix)(hx:cS t x=some (.agg ds))(hix:cS t ix=some (.v (.int ik j)))
  (hti:ti tab T=some b) (hs:b.d=.array n e) (hte:ti tab e=some tie) (c:0≤j) (hb:j<n) (hp:eZ tie ds (j.toNat*tie.size)=some d):Ex P o t d:=fun H a w kt=>by
 obtain ⟨dd,h1,h2⟩:=iY (w:=w) (b4 hT hti);have:=GN (h2.trans hs);subst this;obtain ⟨us,f,g⟩:=Ak (eh kt hx);obtain ⟨v,p,q⟩:=GO (w:=w) (b4 hT hte) g hp;refine ⟨v,?_,q⟩;unfold bL;rw [ho];refine iC ?_;rw [f,eW (eh kt hix)];unfold Instr.index;rw [KL (a:=(ik,j)) rfl];simp only [];rw [KL h1];simp only [aQ (show 0≤j∧j<(n:Int) from ⟨c,hb⟩)];rw [KL (lD (b4 hT hte))];exact p
def uz {i n:Nat}{T e:aD}{x ix:aH}{ik:fP}{j:Int}{ds:List D}{d:D}{a tie:TI}(hT:bO P tab)(ho:o.op=.index T x ix)(hw:bC ops t o=some true)(hd:o.dst=some i)(hi:aZ i N=true)(hx:cS t x=some (.agg ds))(hix:cS t ix=some (.v (.int ik j)))
 (hti:ti tab T=some a) (hs:a.d=.array n e) (hte:ti tab e=some tie) (b:0≤j) (hb:j<n) (hp:eZ tie ds (j.toNat*tie.size)=some d)
 (g:a1 P C N ops rest ⟨(i,d)::t,h,k⟩ Q):a1 P C N ops (o::rest) ⟨t,h,k⟩ Q:=mH (s:=⟨t,h,k⟩) hw hd hi (AC hT ho hx hix hti hs hte b hb hp) g
end
end
section
open Go
section
variable {P:aJ}{C:Ctx}{N:Nat}{l:List bG}{m:Nat}{De:Nat→D}{al:AL}{pre:List (List Nat)}{ev:List Nat}{h:List (Nat × Blk)}{k:List (Nat × ω)}{Q:dH→S→Prop}{bs:Nat→Nat}{i:Nat}{o:bG}{rest:List bG}{te:TE}
end
end
section
open Go
section
variable {P:aJ}{C:Ctx}{N:Nat}{ops rest:List bG}{o:bG}{t:List (Nat × D)}{h:List (Nat × Blk)}{k:List (Nat × ω)}{Q:dH→S→Prop}{tab:List (Option TI)}
def Mv {H:Hp}:∀ {l:List ω},l.all one=true→Reps H (l.map sr) l
 | [],_=>by simp [Reps]
 |
  u::l,hz=>by
  simp only [List.all_cons,aR] at hz;simp only [a7,Reps];exact ⟨u,l,rfl,⟨(BM H u).1,hz.1,(BM H u).2⟩,Mv hz.2⟩
def tu {T:aD}{ps:Array (Nat×aH)}{b j:TI}{n e:Nat}{r:List D}(hT:bO P tab)(ho:o.op=.build T ps)(hti:ti tab T=some b)(hfs:b.d=.array n e)(hj:ti tab e=some j)(hz:b.zero.all one=true)(eb:oz tab ((ff n).map fun i=>(e,i*j.size)) t ps.toList (b.zero.map sr)=some r):∀ H a w,TOK H t a→∃ v,(bL a.eval o).run P w=.ok (.value v) w∧Rep H (.agg r) v:=
 fun H a w kt=>by
 obtain ⟨z,h1,h2⟩:=wZ (w:=w) (b4 hT hti);obtain ⟨d,g,q⟩:=iY (w:=w) (b4 hT hti);obtain rfl:=GN (q.trans hfs);have hr:Reps H (b.zero.map sr) z.cells.toList:=by rw [h2];exact Mv hz
 obtain ⟨vs,s,u⟩:=GF (P:=P) (place:=fun i=>some (i*j.size,j.size)) hT kt (fs:=(ff n).map fun i=>(e,i*j.size)) (by
  intro f fl j' hf hj';rw [f9,fF] at hf;obtain ⟨x,y,A⟩:=hf;have:=aP.1 y;obtain ⟨G,c⟩:=this;simp only [List.getElem_range] at c;subst A;subst c;simp only [] at hj';rw [hj] at hj';cases hj';rfl) ps.toList _ _ r hr eb
 refine ⟨.agg vs.toArray,?_,E5 u⟩;unfold bL;rw [ho];refine iC ?_;unfold Instr.build;rw [KL h1];simp only [];rw [KL g];simp only [];rw [KL (lD (b4 hT hj))];have B:(ps.map fun x=>(x.1,a.eval x.2)).toList=ps.toList.map fun p=>(p.1,a.eval p.2):=by simp
 rw [B];have F:z.cells=z.cells.toList.toArray:=by simp
 rw [F];simp only [s];rfl
def nF {i:Nat}{T:aD}{ps:Array (Nat×aH)}{a j:TI}{n e:Nat}{r:List D}(hT:bO P tab)(ho:o.op=.build T ps)(hw:bC ops t o=some true)(hd:o.dst=some i)(hi:aZ i N=true)
 (hti:ti tab T=some a) (hfs:a.d=.array n e) (hj:ti tab e=some j) (hz:a.zero.all one=true) (eb:oz tab ((ff n).map fun i=>(e,i*j.size)) t ps.toList (a.zero.map sr)=some r)
 (g:a1 P C N ops rest ⟨(i,.agg r)::t,h,k⟩ Q):a1 P C N ops (o::rest) ⟨t,h,k⟩ Q:=mH (s:=⟨t,h,k⟩) hw hd hi (tu hT ho hti hfs hj hz eb) g
end
end
section
open Go
abbrev SL (z:Option Addr×Nat×Nat):ω:=.slice z.1 z.2.1 z.2.2
abbrev Z3:=Option Addr×Nat×Nat
def nT {H H':Hp}{k b:Nat}:∀ {xs:List D} {us:List ω} {off:Nat},H.le H'→FlatR H k xs us→Told H' b off us→Els H' k b off xs
 | [],us,off,_,_,_=>by simp [Els]
 |
  x::xs,us,off,hle,h,ht=>by
  obtain ⟨a,d,rfl,hl,⟨h1,h2⟩,c⟩:=h;simp only [Els];refine ⟨⟨a,hl,RepC.mono hle x a h1,fun j u e=>ht j u (by rw [cI (aP.1 e).1];exact e),h2⟩,nT hle c fun j u e=>?_⟩;have:=ht (k+j) u (by rw [mM (by omega)];rw [hl];simpa using e);rw [show off+k+j=off+(k+j) by omega];exact this
def yU {H:Hp}{k:Nat}:∀ {xs:List D} {us:List ω},FlatR H k xs us→us.length=xs.length*k
 |
  [],us,h=>by
  have:us=[]:=h;subst this;simp
 |
  x::xs,us,h=>by
  obtain ⟨b,c,rfl,hl,_,a⟩:=h;simp [hl,yU a,cC];omega
def I5 {H:Hp}{k:Nat}:∀ {xs:List D} {us:List ω},FlatR H k xs us→∀ u∈us,one u=true
 |
  [],us,h,u,hu=>by
  have:us=[]:=h;subst this;cases hu
 |
  x::xs,us,h,u,hu=>by
  obtain ⟨b,c,rfl,hl,⟨_,h2⟩,a⟩:=h;rcases dC.1 hu with x|x
  ·exact h2 u x
  exact I5 a u x
def HI {H:Hp}{k:Nat}:∀ {xs ys:List D} {us vs:List ω},FlatR H k xs us→FlatR H k ys vs→FlatR H k (xs++ys) (us++vs)
 |
  [],ys,us,vs,h,g=>by
  have:us=[]:=h;subst this;simpa using g
 |
  x::xs,ys,us,vs,h,g=>by
  obtain ⟨a,b,rfl,hl,h1,c⟩:=h;exact ⟨a,b++vs,by simp,hl,h1,HI c g⟩
def LQ {H:Hp}{k b:Nat}:∀ {xs:List D} {off:Nat},Els H k b off xs→∃ us:List ω,us.length=xs.length*k∧Told H b off us∧FlatR H k xs us
 | [],off,_=>⟨[],by simp,fun j u e=>by simp at e,rfl⟩
 |
  x::xs,off,h=>by
  simp only [Els] at h;obtain ⟨⟨us,h1,h2,a,c⟩,d⟩:=h;obtain ⟨vs,g1,f,g⟩:=LQ d;refine ⟨us++vs,by simp [h1,g1,cC];omega,fun j u e=>?_,us,vs,rfl,h1,⟨h2,c⟩,g⟩;rw [List.getElem?_append] at e;split at e
  ·exact a j u e
  have:=f _ _ e;rw [show off+k+(j-us.length)=off+j by omega] at this;exact this
def xn {H:Hp}{k:Nat}{xs:List D}{y:ω}(h:RepC H (.lst k xs (.cur y)) [y]):Rep H (.lst k xs (.cur y)) y:=by
 have c:=h;simp only [RepC] at h;obtain ⟨z,e,_,h⟩:=h;simp at e;subst e;have h1:one y=true:=by rcases h with ⟨_,a,m,rfl,_⟩|⟨b,off,m,rfl,_⟩<;>rfl
 exact j6 c h1 rfl
section
variable {C:Ctx}{t:List (Nat × D)}{h:List (Nat × Blk)}{k:List (Nat × ω)}
def ud {H:Hp}{w:aL}{r kk:Nat}{xs:List D}{y:ω}(hA:Ag H w)(hb:BlkOK H w (r,.row kk xs y)) :
  ∃ H',H.le H'∧Core ⟨H,w,K4 [(r,.row kk xs y)] []⟩ H' [(r,.told kk xs y)] [(kk,y)] w:=by
 rcases hb with ⟨a,rfl,rfl⟩|⟨b,m,us,rest,T,rfl,f,g,h1,h2,s,z⟩;refine ⟨H,Hp.le_refl H,hA,Hp.le_refl H,fun _ _ x=>.inl x,fun _ _ _=>rfl,Φ _,?_,?_,?_,?_,Env.refl w⟩;intro p hp;simp only [aT] at hp;subst hp;show RepC H _ _;simp only [RepC,eA];exact ⟨_,rfl,by trivial,.inl ⟨by trivial,a,0,rfl,fun _=>rfl⟩⟩;intro p hp;simp only [aT] at hp;subst hp;intro a n m e hlt;simp only [bP] at e;omega;cases a<;>simp [K4,eQ,my];cases a<;>simp [K4,eQ,my];have hl:=yU h2;let H':Hp:=jW H b us;have hle:H.le H':=fun a v e=>by show (if a.block=b∧a.spot=none then us[a.off]? else H a)=some v;rw [aF];exact e;rintro ⟨c,d⟩;obtain ⟨ab,ao,as_⟩:=a;simp only at c d;subst c;subst d;rw [z ao] at e;cases e
 have htold:Told H' b 0 us:=fun j u e=>by show (if b=b∧(none:Option Nat)=none then us[0+j]? else H _)=some u;rw [aQ ⟨rfl,rfl⟩,cH];exact e
 have hcl:K4 [(r,Blk.row kk xs (.slice (some ⟨b,0,none⟩) xs.length m))] []=[b]:=by simp [K4,eQ,ii,g]
 refine ⟨H',hle,?_⟩;rw [hcl];refine ⟨⟨fun a v e=>?_,hA.gg.step hle rfl⟩,hle,fun a v e=>?_,fun _ _ _=>rfl,Φ _,?_,?_,?_,?_,Env.refl w⟩;by_cases q:a.block=b∧a.spot=none;have:H' a=us[a.off]?:=aQ q;rw [this] at e;obtain ⟨ab,ao,as_⟩:=a;simp only at q e;obtain ⟨rfl,rfl⟩:=q;simp only [aO,h1,lG,cP,bE,cR];rw [cI (aP.1 e).1];exact e;have:H' a=H a:=aF q;rw [this] at e;exact hA a v e;by_cases q:a.block=b∧a.spot=none;exact .inr (.inr (by simp [q.1]));have:H' a=H a:=aF q;rw [this] at e;exact .inl e;intro p hp;simp only [aT] at hp;subst hp;show RepC H' _ _;simp only [RepC,eA];exact ⟨_,rfl,by trivial,.inr ⟨b,0,m,rfl,f,nT hle h2 htold⟩⟩;intro p hp;simp only [aT] at hp;subst hp;intro a n m' e hlt;simp only [bP,aA] at e;obtain ⟨rfl,rfl,rfl⟩:=e;refine ⟨_,T,h1,rfl,by simpa using s,fun o ho=>?_⟩;show (if b=b∧(none:Option Nat)=none then us[o]? else H _)=none;rw [aQ ⟨rfl,rfl⟩,jq];simp only at ho;omega;simp only [K4,eQ,my,cA,gT,aN,a8];split<;>simp;intro x hx;simp only [K4,eQ,my,cA,gT,aN,a8] at hx;split at hx;exact .inl (by simpa using hx);cases hx
def WkS.frz {h':List (Nat×Blk)}{r kk:Nat}{xs:List D}{y:ω}(j:Nat)(hj:h[j]? = some (r,.row kk xs y))(e:h.set j (r,.told kk xs y)=h'):WkS C ⟨t,h,k⟩ ⟨t,h',(kk,y)::k⟩:=fun H a w c kt=>by
 subst e;have hb:=c.blks _ (a4 hj);obtain ⟨H',hle,c'⟩:=ud c.ag hb;have c1:Core C H ([(r,.row kk xs y)]++h.eraseIdx j) ([]++k) w:=c.perm (KO hj) (aM _);exact ⟨H',hle,(Core.call c1 c').perm (B3 hj) (aM _),kt.mono hle⟩
def WkS.tld {r kk:Nat}{xs:List D}{y:ω}(i j:Nat)(hx:dL t i=some (.v y))(hj:h[j]? = some (r,.told kk xs y)):WkS C ⟨t,h,k⟩ ⟨(i,.lst kk xs (.cur y))::t,h,k⟩:=fun H a w c kt=>by
 have hb:=xn (c.blks _ (a4 hj));obtain ⟨v,h1,h2⟩:=kt i _ hx;rw [eW h2] at h1;exact ⟨H,Hp.le_refl H,c,Ae kt h1 hb⟩
def WkS.drop {h':List (Nat×Blk)}(j:Nat)(e:h.eraseIdx j=h'):WkS C ⟨t,h,k⟩ ⟨t,h',k⟩:=fun H a w c kt=>by
 subst e;exact ⟨H,Hp.le_refl H,c.drop (List.eraseIdx_sublist _ _) (bT _),kt⟩
def lX {H:Hp}{w:aL}{d kk:Nat}{v:ω}(c:Core C H h k w)(hr:Rep H (.lst d [] .full) v):∃ z:Z3,v=SL z∧Core C H ((0,.row kk [] (SL z))::h) k w:=by
 obtain ⟨hc,hx⟩:=oL hr;have:∃ a,v=.slice a 0 0:=by rcases hx with ⟨_,a,m,rfl,_⟩|⟨b,off,m,rfl,e,_⟩;simp only [eA] at hc;subst hc;exact ⟨a,rfl⟩;simp only [eA,aB] at hc;subst hc;exact ⟨_,rfl⟩
 obtain ⟨a,rfl⟩:=this;refine ⟨(a,0,0),rfl,c.ag,c.le,c.new,c.same,c.size,?_,c.toks,?_,?_,c.env⟩;intro p hp;rcases cX.1 hp with rfl|hp;exact .inl ⟨a,rfl,rfl⟩;exact c.blks p hp;have:K4 ((0,Blk.row kk [] (SL (a,0,0)))::h) k=K4 h k:=by cases a<;>simp [K4,eQ,ii]
 rw [this];exact c.nd;have:K4 ((0,Blk.row kk [] (SL (a,0,0)))::h) k=K4 h k:=by cases a<;>simp [K4,eQ,ii]
 rw [this];exact c.own
def WkX.rowN {Y:Type}{S1:Y→S}{i b:Nat}(kk:Nat)(hx:dL t i=some (.lst b [] .full))(g:∀ z:Z3,WkX C ⟨(i,.v (SL z))::t,(0,.row kk [] (SL z))::h,k⟩ S1):WkX C ⟨t,h,k⟩ S1:=fun H a w c kt=>by
 obtain ⟨v,h1,h2⟩:=kt i _ hx;obtain ⟨z,rfl,c'⟩:=lX (kk:=kk) c h2;exact g z H a w c' (Ae kt h1 (dA rfl))
end
section
variable {P:aJ}{C:Ctx}{N:Nat}{ops rest:List bG}{o:bG}{t:List (Nat × D)}{h:List (Nat × Blk)}{k:List (Nat × ω)}{Q:dH→S→Prop}{tab:List (Option TI)}
def retX.rowN {rs:List dM}{R:D→List (Nat×Blk)→List (Nat×ω)→Prop}{x:dH}{i b:Nat}(kk:Nat)(hx:dL t i=some (.lst b [] .full))(g:∀ z:Z3,retX C tab rs R x ⟨(i,.v (SL z))::t,(0,.row kk [] (SL z))::h,k⟩):retX C tab rs R x ⟨t,h,k⟩:=fun H a w c kt=>by
 obtain ⟨v,h1,h2⟩:=kt i _ hx;obtain ⟨z,rfl,c'⟩:=lX (kk:=kk) c h2;exact g z H a w c' (Ae kt h1 (dA rfl))
def lY {H:Hp}{w:aL}{r kk:Nat}{xs:List D}{y:ω}(h:BlkOK H w (r,.row kk xs y)):∃ a m,y=.slice a xs.length m:=by
 rcases h with ⟨a,rfl,rfl⟩|⟨b,m,us,rest,T,rfl,_⟩;exact ⟨a,0,rfl⟩;exact ⟨_,m,rfl⟩
def Nr {i r kk:Nat}{T e:aD}{x:aH}{xs:List D}{z:Z3}{b:TI}(j:Nat)(hT:bO P tab)(ho:o.op=.call ⟨.builtin .len,[x].toArray,#[T]⟩)(hw:bC ops t o=some true)(hd:o.dst=some i)(hi:aZ i N=true)
  (hx:cS t x=some (.v (SL z))) (hj:h[j]? = some (r,.row kk xs (SL z))) (hti:ti tab T=some b) (hs:b.d=.slice e) {n:Nat} (hn:xs.length=n) (g:a1 P C N ops rest ⟨(i,.v (.int .i64 n))::t,h,k⟩ Q):a1 P C N ops (o::rest) ⟨t,h,k⟩ Q:=
 ko (s:=⟨t,h,k⟩) hw hd hi fun H a w core kt=>by
  obtain ⟨ad,m,hy⟩:=lY (core.blks _ (a4 hj));refine ⟨.int .i64 n,w,H,.v (.int .i64 n),h,k,sI (s:=iO) ho (fun _ _=>rfl) ?_,Hp.le_refl H,core,dA rfl,g⟩;have e:=eW (eh kt hx);simp only [a7,fg,e,hy,hn];exact JM (b4 hT hti) hs
end
end
section
open Go
def sf {P:aJ}{w:aL}{H:Hp}{r kk:Nat}{xs:List D}{y:ω}(hb:BlkOK H w (r,.row kk xs y)) :
  ∃ us:List ω,us.length=xs.length*kk∧FlatR H kk xs us∧(bW kk xs.length y).run P w=.ok us.toArray w:=by
 rcases hb with ⟨a,rfl,rfl⟩|⟨b,m,us,rest,T,rfl,c,d,h1,h2,f,g⟩
 ·refine ⟨[],by simp,rfl,?_⟩;cases a with
  | none=>rfl
  | some a=>simp only [bW,aB,mD];rfl
 have hl:=yU h2;refine ⟨us,hl,h2,?_⟩;have hr:RowAt w b 0 us:=fun j u e=>by have:=Fu h1 j u (by rw [cI (aP.1 e).1];exact e);exact this
 have:=FI (P:=P) (xs.length*kk) hr (by omega);rw [← hl,List.take_length] at this;simp only [bW];rw [← hl];exact this
def Hj {P:aJ}{w:aL}{H:Hp}(hA:Ag H w){kk:Nat}{xs:List D}{c:Cap}{v:ω}(hr:Rep H (.lst kk xs c) v) :
  ∃ us:List ω,us.length=xs.length*kk∧FlatR H kk xs us∧(bW kk xs.length v).run P w=.ok us.toArray w:=by
 obtain ⟨_,h⟩:=oL hr;rcases h with ⟨rfl,a,m,rfl,_⟩|⟨b,off,m,rfl,e,hE⟩
 ·refine ⟨[],by simp,rfl,?_⟩;cases a with
  | none=>rfl
  | some a=>simp only [bW,aB,mD];rfl
 obtain ⟨us,h1,h2,d⟩:=LQ hE;refine ⟨us,h1,d,?_⟩;have:=FI (P:=P) (xs.length*kk) (h2.row hA) (by omega);rw [← h1,List.take_length] at this;simp only [bW];rw [← h1];exact this
def Core.drew' {H:Hp}{w:aL}(hA:Ag H w):Ag H (eX w):=⟨fun a v e=>hA a v e,hA.gg.step (Hp.le_refl H) rfl⟩
def vV {H:Hp}{w:aL}{p:Nat×Blk}(h:BlkOK H w p):BlkOK H (eX w) p:=by
 obtain ⟨b,bl⟩:=p;cases bl<;>first|exact h|exact Opq.later _ H H w (eX w) h (Hp.le_refl H) (fun _ _=>rfl) (fun _ _ q=>q)
def ug (w:aL)(v:ω)(T:aD):Prop:=∀ a n m,v=.slice (some a) n m→0<m∧∃ cs,w.heap[a.block]? = some (.cells cs T (0,0))
def LO {P:aJ}{tab:List (Option TI)}(hT:bO P tab){H:Hp}{w:aL}{r kk bb:Nat}{T T' e e':aD}{ty:aD}{I y ie:TI}{xs ys:List D}{v1 v2:ω}
  (hA:Ag H w) (hrow:BlkOK H w (r,.row kk xs v1)) (hown:∀ b∈K4 [(r,.row kk xs v1)] [],b<w.heap.size)
  (M:(zi v2).run P w=.ok ys.length w) (J:∀ w',(∀ b,b<w.heap.size→w'.heap[b]? = w.heap[b]?)→∃ us:List ω,us.length=ys.length*kk∧FlatR H kk ys us∧(bW kk ys.length v2).run P w'=.ok us.toArray w')
  (O:ti tab T=some I) (R:I.d=.slice e) (U:ti tab T'=some y) (V:y.d=.slice e'∨y.d=.str) (hie:ti tab e=some ie) (hks:ie.size=kk) (hbb:ie.bytes=bb) (hz:ie.zero.length=kk) (W:1≤bb) (hbound:(xs.length+ys.length)*bb≤140737488355328) :
  ∃ (z:Z3) (w':aL),(dZ #[T,T'] ty #[v1,v2]).run P w=.ok (SL z) w'∧(ug w v1 e→ug w' (SL z) e)∧Core ⟨H,w,K4 [(r,.row kk xs v1)] []⟩ H [(0,.row kk (xs++ys) (SL z))] [] w':=by
 subst hks;subst hbb;have hTe:=b4 hT hie;obtain ⟨d0,X,Y⟩:=iY (w:=w) (b4 hT O);obtain rfl:=lB (Y.trans R);obtain ⟨K,Z,L⟩:=iY (w:=w) (b4 hT U);have f:K=.slice e'∨K=.string:=V.imp (fun q=>lB (L.trans q)) (fun q=>wI (L.trans q));obtain ⟨tif,z,t1,t2,t3,t4,t5⟩:=Co (w:=w) hTe;have hneed:xs.length+ys.length≤140737488355328:=eJ (Nat.le_mul_of_pos_right _ W) hbound;have start:∀ base cap,v1=.slice base xs.length cap→(dZ #[T,T'] ty #[v1,v2]).run P w =
   (
    if
      xs.length+ys.length≤cap then (do
      let new ← bW ie.size ys.length v2
      if let some a:=base then storeCells (a.add (xs.length*ie.size)) new.toList
      pure (.slice base (xs.length+ys.length) cap):Sem ω)
    else (do
      if ((xs.length + ys.length : Nat) : Int)>ζ.max ∧ ((false = true) ∨ (← eR e).bytes = 0) then runtimePanic (.error "growslice: len out of range")
      if eU (xs.length + ys.length) cap * (← eR e).bytes>2 ^ 48 then (if false then runtimePanic (.error "growslice: len out of range") else do
       if !(← Builtin.mayShare ie.size xs.length ys.length base v2) then mark .noRoom
       unsupported (.resourceLimit "append: a slice or a string whose bytes no memory bears"))
      let newCap ← choose (.appendCap (xs.length+ys.length) cap e)
      askRoom (newCap*(← eR e).bytes)
      let old ← bW ie.size xs.length v1
      let new ← bW ie.size ys.length v2
      let rest:=d9 (← ry e).cells (newCap-(xs.length+ys.length));pure (.slice (some (← newRow e (old++new++rest))) (xs.length+ys.length) newCap):Sem ω)).run P w:=by
  intro base cap hv;subst hv;rcases f with rfl|rfl;all_goals (
   unfold dZ;simp only [cR,dB,fY];rw [KL X];simp only [];rw [KL (lD hTe)];rw [KL Z];simp only [];rw [KL (a:=false) (w':=w) rfl];simp only [cP,bE];rw [KL M];simp only [a3,bR];rfl)
 obtain ⟨base,cap,hv⟩:=lY hrow;by_cases hle:xs.length+ys.length≤cap
 ·obtain ⟨c,g1,s,A⟩:=J w (fun _ _=>rfl);rw [start base cap hv,aQ hle,KL A];rcases hrow with ⟨a,f,e2⟩|⟨b,m,us,rest,TT,f,h0,g,h1,h2,h3,B⟩
  ·
   rw [hv] at f;simp only [bP] at f;obtain ⟨rfl,e3,rfl⟩:=f;have hy:ys=[]:=fd (by omega);subst hy;subst e2;have af:c=[]:=fd (by simpa using g1);subst af;refine ⟨(base,0,0),w,?_,fun hy a n m q=>by simp only [SL,bP] at q;have:=(hy a _ _ (by rw [hv,q.1])).1;omega,hA,Hp.le_refl H,fun _ _ x=>.inl x,fun _ _ _=>rfl,Φ _,?_,by simp,?_,?_,Env.refl w⟩
   · cases base with
     | none=>rfl
     | some a=>simp only [storeCells];rfl
   · intro p hp;simp only [aT] at hp;subst hp;exact .inl ⟨base,rfl,rfl⟩
   · cases base<;>simp [K4,eQ,ii]
   cases base<;>simp [K4,eQ,ii]
  rw [hv] at f;simp only [bP] at f;obtain ⟨rfl,_,rfl⟩:=f;have hul:=yU h2;have hclaim:K4 [(r,Blk.row ie.size xs v1)] []=[b]:=by rw [hv];simp [K4,eQ,ii,g]
  have hmk:(xs.length+ys.length)*ie.size≤cap*ie.size:=dF _ hle;rw [cC] at hmk;have hsz:0+xs.length*ie.size+c.length≤(us++rest).length:=by rw [g1];omega
  obtain ⟨w',s1,s2,s3,F,u⟩:=Ao (P:=P) (b:=b) (off:=xs.length*ie.size) (T:=TT) c 0 w (us++rest) h1 (by omega) (I5 s);simp only [gY] at u;have ecells:(us++rest).take (xs.length*ie.size)++(c++(us++rest).drop (xs.length*ie.size+c.length))=(us++c)++rest.drop c.length:=by
    rw [List.take_append_of_le_length (by omega),cV (by omega),List.drop_append,rx (by omega),a8,aS];congr 3;omega
  rw [ecells] at u;refine ⟨(some ⟨b,0,none⟩,xs.length+ys.length,cap),w',?_,fun hy a n m q=>?_,?_⟩;rotate_left
  · obtain ⟨_,cs,hcs⟩:=hy ⟨b,0,none⟩ _ _ hv;simp only [SL,bP,aA] at q;obtain ⟨rfl,_,rfl⟩:=q;rw [h1] at hcs;simp only [aA,mC] at hcs;exact ⟨g,_,by rw [← hcs.2.1];exact u⟩
  rotate_left
  · simp only [oJ,cH];rw [KL s1];rfl
  rw [hclaim];refine ⟨⟨fun a v0 ea=>?_,hA.gg.own B F⟩,Hp.le_refl H,fun _ _ x=>.inl x,fun i _ g=>F i (by simpa using g),by show w.heap.size≤w'.heap.size;omega,?_,by simp,?_,?_,s2⟩
  ·have hcell:=hA a v0 ea;by_cases qb:a.block=b
   ·obtain ⟨ab,ao,as_⟩:=a;simp only at qb;subst qb;cases as_ with
    | some sp=>simp [aO,h1] at hcell
    | none=>rw [B ao] at ea;cases ea
   simp only [aO] at hcell ⊢;rw [F _ qb];exact hcell
  ·intro p hp;simp only [aT] at hp;subst hp;refine .inr ⟨b,cap,us++c,rest.drop c.length,TT,by simp [SL],by simpa using hle,g,by simpa using u,HI h2 s,?_,B⟩;have:=a6 fc ecells;simp only [υ,kX,eD] at this h3 ⊢;omega
  ·simp [K4,eQ,ii,g]
  intro x hx;simp [K4,eQ,ii,g] at hx;subst hx;exact .inl (by simp)
 have hgt:¬ xs.length+ys.length≤cap:=hle;rw [start base cap hv,aF hgt];have hti:(eR e).run P w=.ok tif w:=t1;have hbytes:tif.bytes=ie.bytes:=t3;have aj:¬ (((xs.length+ys.length:Nat):Int)>ζ.max∧((false=true)∨tif.bytes=0)):=by
  rintro ⟨_,q|q⟩
  · cases q
  omega
 have ak:¬ (eU (xs.length+ys.length) cap*tif.bytes>2 ^ 48):=by
  have h5:=qC (Nat.lt_of_not_le hgt);have h6:eU (xs.length+ys.length) cap*ie.bytes≤2*(xs.length+ys.length)*ie.bytes:=dF _ h5;rw [Nat.mul_assoc] at h6;rw [hbytes];omega
 have hforced:∀ need,(Question.appendCap need cap e).forced=false:=fun _=>rfl
 obtain ⟨newCap,hcap,hchoose⟩:∃ newCap,xs.length+ys.length≤newCap∧(choose (.appendCap (xs.length+ys.length) cap e)).run P w=.ok newCap (eX w):=by
  refine ⟨_,?_,by simp only [choose,gX,hforced];rfl⟩;simp only [Question.cut];omega
 obtain ⟨zz,an,ap⟩:=wZ (w:=eX w) hTe;obtain ⟨bc,_,aq,_⟩:=Co (w:=eX w) hTe;obtain ⟨j,f1,f2,f3⟩:=sf (P:=P) (vV hrow);obtain ⟨c,g1,s,A⟩:=J (eX w) (fun _ _=>rfl);let restA:=d9 zz.cells (newCap-(xs.length+ys.length));have hrest:restA.size=(newCap-(xs.length+ys.length))*ie.size:=by
  show (d9 zz.cells _).size=_
  unfold d9;simp only [Array.size_map,Array.size_range];have:zz.cells.size=ie.size:=by rw [← b9,ap,hz]
  rw [this]
 refine ⟨(some ⟨w.heap.size,0,none⟩,xs.length+ys.length,newCap),(eX w).alloc (.cells (j.toArray++c.toArray++restA) e),?_,fun _ a n m q=>?_,?_⟩;rotate_left
 ·simp only [SL,bP,aA] at q;obtain ⟨rfl,_,rfl⟩:=q;exact ⟨by omega,_,by show ((eX w).alloc _).heap[(eX w).heap.size]? = _;rw [ld,aQ rfl]⟩
 rotate_left
 ·rw [KL hti];rw [aF aj];rw [KL hti];rw [aF ak];rw [KL hchoose,KL aq,KL Jz,KL f3,KL A,KL an];rfl
 have earr:j.toArray++c.toArray++restA=((j++c)++restA.toList).toArray:=by simp
 rw [earr];have hsizew:(eX w).heap.size=w.heap.size:=rfl;have hcells:((eX w).alloc (.cells ((j++c)++restA.toList).toArray e)).heap[w.heap.size]? = some (.cells ((j++c)++restA.toList).toArray e (0,0)):=by
   rw [ld,hsizew,aQ rfl]
 have G:0<newCap:=by omega
 refine ⟨(Core.drew' hA).alloc _,Hp.le_refl H,fun _ _ x=>.inl x,fun b hb _=>?_,?_,?_,by simp,?_,?_,⟨rfl,rfl,rfl,Φ _⟩⟩
 · rw [ld,hsizew,aF (by exact Nat.ne_of_lt hb)];rfl
 · rw [FF,hsizew];exact CU _
 · intro p hp;simp only [aT] at hp;subst hp;refine .inr ⟨w.heap.size,newCap,j++c,restA.toList,e,by simp [SL],by simpa using hcap,G,hcells,HI f2 s,?_,fun o=>?_⟩
   ·simp only [υ,b9,hrest,f1,g1];rw [← cC,← cC];exact dF _ (by omega)
   cases q:H ⟨w.heap.size,o,none⟩ with
   | none=>rfl
   | some v=>exact bH (hA.lt q) (RJ _)
 · simp [K4,eQ,ii,G]
 intro x hx;simp [K4,eQ,ii,G] at hx;subst hx;exact .inr (Φ _)
def oq {P:aJ}{tab:List (Option TI)}(hT:bO P tab){H:Hp}{w:aL}{r kk bb:Nat}{T T' e e':aD}{ty:aD}{c a ie:TI}{xs ys:List D}{v1 v2:ω}
  (hA:Ag H w) (hrow:BlkOK H w (r,.row kk xs v1)) (hown:∀ b∈K4 [(r,.row kk xs v1)] [],b<w.heap.size)
  (f:(zi v2).run P w=.ok ys.length w) (g:∀ w',(∀ b,b<w.heap.size→w'.heap[b]? = w.heap[b]?)→∃ us:List ω,us.length=ys.length*kk∧FlatR H kk ys us∧(bW kk ys.length v2).run P w'=.ok us.toArray w')
  (j:ti tab T=some c) (n:c.d=.slice e) (p:ti tab T'=some a) (q:a.d=.slice e'∨a.d=.str) (hie:ti tab e=some ie) (hks:ie.size=kk) (hbb:ie.bytes=bb) (hz:ie.zero.length=kk) (s:1≤bb) (hbound:(xs.length+ys.length)*bb≤140737488355328) :
  ∃ (z:Z3) (w':aL),(dZ #[T,T'] ty #[v1,v2]).run P w=.ok (SL z) w'∧Core ⟨H,w,K4 [(r,.row kk xs v1)] []⟩ H [(0,.row kk (xs++ys) (SL z))] [] w':=by
 obtain ⟨z,w',h1,_,h2⟩:=LO (ty:=ty) hT hA hrow hown f g j n p q hie hks hbb hz s hbound;exact ⟨z,w',h1,h2⟩
section
variable {P:aJ}{C:Ctx}{N:Nat}{ops rest:List bG}{o:bG}{t:List (Nat × D)}{h:List (Nat × Blk)}{k:List (Nat × ω)}{Q:dH→S→Prop}{tab:List (Option TI)}
def Bb {i r kk bb:Nat}{T T' e e':aD}{x y:aH}{xs ys:List D}{c':Cap}{z:Z3}{c f ie:TI}(j:Nat)(hT:bO P tab)(ho:o.op=.call ⟨.builtin .append,[x,y].toArray,#[T,T']⟩)(hw:bC ops t o=some true)(hd:o.dst=some i)(hi:aZ i N=true)
  (hx:cS t x=some (.v (SL z))) (hj:h[j]? = some (r,.row kk xs (SL z))) (hy:cS t y=some (.lst kk ys c'))
  (p:ti tab T=some c) (q:c.d=.slice e) (u:ti tab T'=some f) (A:f.d=.slice e') (hie:ti tab e=some ie) (hks:ie.size=kk) (hbb:ie.bytes=bb) (hz:ie.zero.length=kk) (B:cK 1 bb=true) (hbound:(xs.length+ys.length)*bb≤140737488355328)
  (g:∀ z':Z3,a1 P C N ops rest ⟨(i,.v (SL z'))::t,h.set j (0,.row kk (xs++ys) (SL z')),k⟩ Q):a1 P C N ops (o::rest) ⟨t,h,k⟩ Q:=
 ko (s:=⟨t,h,k⟩) hw hd hi fun H a w core kt=>by
  have hry:=eh kt hy;obtain ⟨F,m2,ey⟩:=Cj hry;have c1:Core C H ([(r,.row kk xs (SL z))]++h.eraseIdx j) ([]++k) w:=core.perm (KO hj) (aM _);have hbl:=core.blks _ (a4 hj);obtain ⟨z',w',h1,h2⟩:=oq (P:=P) (ty:=o.type) (v1:=SL z) (v2:=a.eval y) hT core.ag hbl (fun b hb=>c1.lt b (by
   have:=(y0 [(r,Blk.row kk xs (SL z))] (h.eraseIdx j) [] k).mem_iff (a:=b);exact this.2 (cF _ hb))) (by rw [ey];rfl) (fun G n=>Hj ⟨fun a' v e'=>by
    have:=core.ag a' v e';have hlt:=core.ag.lt e';unfold aO at this ⊢;rw [n _ hlt];exact this,core.ag.gg.step (Hp.le_refl H) (n _ core.ag.gg.lt)⟩ hry) p q u (.inl A) hie hks hbb hz (bS B) hbound
  have c2:=Core.call c1 h2;refine ⟨SL z',w',H,.v (SL z'),h.set j (0,.row kk (xs++ys) (SL z')),k,sI (s:=dZ) ho (fun _ _=>rfl) ?_,Hp.le_refl H,c2.perm (B3 hj) (aM _),dA rfl,g z'⟩;have e:=eW (eh kt hx);simpa [e] using h1
end
end
section
open Go
section
variable {P:aJ}{C:Ctx}{N:Nat}{ops rest:List bG}{o:bG}{t:List (Nat × D)}{h:List (Nat × Blk)}{k:List (Nat × ω)}{Q:dH→S→Prop}{tab:List (Option TI)}
def qy {i r kk bb:Nat}{T T' e e':aD}{x y:aH}{xs ys zs:List D}{c':Cap}{z:Z3}{a b ie:TI}(j:Nat)(hT:bO P tab)(ho:o.op=.call ⟨.builtin .append,[x,y].toArray,#[T,T']⟩)(hw:bC ops t o=some true)(hd:o.dst=some i)(hi:aZ i N=true)
  (hx:cS t x=some (.v (SL z))) (hj:h[j]? = some (r,.row kk xs (SL z))) (hy:cS t y=some (.lst kk ys c'))
  (c:ti tab T=some a) (f:a.d=.slice e) (n:ti tab T'=some b) (p:b.d=.slice e') (hie:ti tab e=some ie) (hks:ie.size=kk) (hbb:ie.bytes=bb) (hz:ie.zero.length=kk) (q:cK 1 bb=true) (hbound:(xs.length+ys.length)*bb≤140737488355328) (em:xs++ys=zs)
  (g:∀ z':Z3,a1 P C N ops rest ⟨(i,.v (SL z'))::t,h.set j (0,.row kk zs (SL z')),k⟩ Q):a1 P C N ops (o::rest) ⟨t,h,k⟩ Q:=by
 subst em;exact Bb j hT ho hw hd hi hx hj hy c f n p hie hks hbb hz q hbound g
def qz {i n kk bb:Nat}{T T' e e':aD}{x y:aH}{ys zs:List D}{c':Cap}{c f ie:TI}(hT:bO P tab)(ho:o.op=.call ⟨.builtin .append,[x,y].toArray,#[T,T']⟩)(hw:bC ops t o=some true)(hd:o.dst=some i)(hi:aZ i N=true)
  (hx:cS t x=some (.lst n [] .full)) (hy:cS t y=some (.lst kk ys c'))
  (p:ti tab T=some c) (q:c.d=.slice e) (r:ti tab T'=some f) (u:f.d=.slice e') (hie:ti tab e=some ie) (hks:ie.size=kk) (hbb:ie.bytes=bb) (hz:ie.zero.length=kk) (A:cK 1 bb=true) (hbound:ys.length*bb≤140737488355328) (em:ys=zs)
  (g:∀ z':Z3,a1 P C N ops rest ⟨(i,.v (SL z'))::t,(0,.row kk zs (SL z'))::h,k⟩ Q):a1 P C N ops (o::rest) ⟨t,h,k⟩ Q:=by
 subst em;refine ko (s:=⟨t,h,k⟩) hw hd hi fun H a w core kt=>?_;have hry:=eh kt hy;obtain ⟨B,m2,ey⟩:=Cj hry;obtain ⟨z,ez,c1⟩:=lX (kk:=kk) core (eh kt hx);have hbl:=c1.blks _ (fV ..);obtain ⟨z',w',h1,h2⟩:=oq (P:=P) (ty:=o.type) (v1:=SL z) (v2:=a.eval y) (xs:=[]) (ys:=ys) hT c1.ag hbl (fun b hb=>c1.lt b (by
   have:=(y0 [(0,Blk.row kk [] (SL z))] h [] k).mem_iff (a:=b);exact this.2 (cF _ hb))) (by rw [ey];rfl) (fun F j=>Hj ⟨fun a' v e'=>by
    have:=core.ag a' v e';have hlt:=core.ag.lt e';unfold aO at this ⊢;rw [j _ hlt];exact this,core.ag.gg.step (Hp.le_refl H) (j _ core.ag.gg.lt)⟩ hry) p q r (.inl u) hie hks hbb hz (bS A) (by simpa using hbound)
 have c2:=Core.call (h1:=[(0,.row kk [] (SL z))]) (k1:=[]) (h2:=h) (k2:=k) c1 h2;refine ⟨SL z',w',H,.v (SL z'),(0,.row kk ys (SL z'))::h,k,sI (s:=dZ) ho (fun _ _=>rfl) ?_,Hp.le_refl H,c2,dA rfl,g z'⟩;simpa [ez] using h1
def lE {f:FuncId}{args:List aH}{ts:Array aD}{i:Nat}{ds ds':List D}{h1 h2:List (Nat×Blk)}{k1 k2:List (Nat×ω)}{R:D→List (Nat×Blk)→List (Nat×ω)→Prop}
  (hc:CallsD P f ds' h1 k1 R) (ho:o.op=.call ⟨.value (.func f),args.toArray,ts⟩) (hw:bC ops t o=some true) (hd:o.dst=some i) (hi:aZ i N=true) (ha:kp args (cS t)=some ds) (hwk:WkL ds ds')
  (hh:h.Perm (h1++h2)) (hk:k.Perm (k1++k2)) (g:∀ d h' k',R d h' k'→a1 P C N ops rest ⟨(i,d)::t,h'++h2,k'++k2⟩ Q):a1 P C N ops (o::rest) ⟨t,h,k⟩ Q:=
 nH (s:=⟨t,h,k⟩) hc ho hw hd hi ha hwk hh hk g
def WkC.any {d:D}:WkC d .any:=fun _ _ _=>by simp only [RepC]
end
end
section
open Go
abbrev PE (z:Z3)(o:Nat):ω:=.pointer (z.1.map (·.add o))
def mf (bb:Nat)(n c:Int):Bool:=decide (0≤n) && decide (n≤c) && decide (c*bb≤140737488355328)
def x5 {bb:Nat}{n c:Int}(h:mf bb n c=true):0≤n∧n≤c∧c*bb≤140737488355328:=by
 simp only [mf,aR,bJ] at h;exact ⟨h.1.1,h.1.2,h.2⟩
def I4 {H:Hp}{kk:Nat}{x:D}{us:List ω}(hl:us.length=kk)(h:RepC H x us)(h1:∀ u∈us,one u=true):∀ n,FlatR H kk (aV n x) (aV n us).flatten
 | 0=>rfl
 |
  n+1=>by
  simp only [List.replicate_succ,List.flatten_cons];exact ⟨us,_,rfl,hl,⟨h,h1⟩,I4 hl h h1 n⟩
def qK {H:Hp}{kk:Nat}:∀ {xs:List D} {us:List ω} {j:Nat} {x:D},FlatR H kk xs us→xs[j]? = some x→∃ vs,vs.length=kk∧RepC H x vs∧(∀ u∈vs,one u=true)∧(us.drop (j*kk)).take kk=vs∧j*kk+kk≤us.length
 | [],us,j,x,_,e=>by simp at e
 |
  y::xs,us,0,x,h,e=>by
  obtain ⟨a,c,rfl,hl,⟨h1,h2⟩,b⟩:=h;simp only [dB,aA] at e;subst e;refine ⟨a,hl,h1,h2,?_,by simp [hl]⟩;rw [mD,DL,List.take_append_of_le_length (by omega),cV (by omega)]
 |
  y::xs,us,j+1,x,h,e=>by
  obtain ⟨a,c,rfl,hl,⟨h1,h2⟩,b⟩:=h;simp only [fY] at e;obtain ⟨vs,g1,d,f,g,n⟩:=qK b e;refine ⟨vs,g1,d,f,?_,by simp only [υ,hl,cC];omega⟩;rw [show (j+1)*kk=a.length+j*kk by rw [hl,cC];omega,List.drop_append,rx (by omega),a8,Nat.add_sub_cancel_left];exact g
def nS {H:Hp}{kk:Nat}{x:D}{vs:List ω}(hl:vs.length=kk)(hx:RepC H x vs)(h1:∀ u∈vs,one u=true):∀ {xs:List D} {us:List ω} {j:Nat},FlatR H kk xs us→j<xs.length→FlatR H kk (xs.set j x) (us.take (j*kk)++(vs++us.drop (j*kk+kk)))
 | [],us,j,_,e=>by simp at e
 |
  y::xs,us,0,h,e=>by
  obtain ⟨a,c,rfl,hl',⟨h2,d⟩,b⟩:=h;simp only [List.set_cons_zero,mD,List.take_zero,a8,cH];refine ⟨vs,c,?_,hl,⟨hx,h1⟩,b⟩;rw [List.drop_append,rx (by omega),a8,hl',Nat.sub_self,DL]
 |
  y::xs,us,j+1,h,e=>by
  obtain ⟨a,c,rfl,hl',⟨h2,d⟩,b⟩:=h;simp only [List.set_cons_succ];refine ⟨a,_,?_,hl',⟨h2,d⟩,nS hl hx h1 b (by simpa using e)⟩;have q:(j+1)*kk=a.length+j*kk:=by rw [hl',cC];omega
  rw [q,List.take_append,cV (by omega),Nat.add_sub_cancel_left,aS,List.drop_append,rx (by omega),a8];congr 4;omega
def Core.newRow {C:Ctx}{H:Hp}{h:List (Nat×Blk)}{k:List (Nat×ω)}{w:aL}(c:Core C H h k w){xs:List D}{us rest:List ω}{kk m:Nat}{T:aD}(hf:FlatR H kk xs us)(a:xs.length≤m)(hl:m*kk≤(us++rest).length)(z:m=0→xs=[]) :
  Core C H ((0,.row kk xs (SL (some ⟨w.heap.size,0,none⟩,xs.length,m)))::h) k (w.alloc (.cells (us++rest).toArray T)):=by
 have c0:Core ⟨H,w,[]⟩ H [(0,.row kk xs (SL (some ⟨w.heap.size,0,none⟩,xs.length,m)))] [] (w.alloc (.cells (us++rest).toArray T)):=by
  refine ⟨c.ag.alloc _,Hp.le_refl H,fun _ _ x=>.inl x,fun b hb _=>?_,?_,?_,by simp,?_,?_,⟨rfl,rfl,rfl,Φ _⟩⟩;rw [ld,aF (by exact Nat.ne_of_lt hb)];rw [FF];exact CU _
  ·intro p hp;simp only [aT] at hp;subst hp;by_cases q:m=0
   ·subst q;have:=z rfl;subst this;exact .inl ⟨_,rfl,rfl⟩
   refine .inr ⟨w.heap.size,m,us,rest,T,rfl,a,by omega,by rw [ld,aQ rfl],hf,hl,fun o=>?_⟩;cases e:H ⟨w.heap.size,o,none⟩ with
   | none=>rfl
   | some v=>exact bH (c.ag.lt e) (RJ _)
  simp only [K4,eQ,ii,cA,gT,aN];split<;>simp;intro b hb;simp only [K4,eQ,ii,cA,gT,aN] at hb;split at hb;simp at hb;subst hb;exact .inr (Φ _);cases hb
 have:=Core.call (h1:=[]) (k1:=[]) (h2:=h) (k2:=k) c c0;simpa using this
def Fl {z:List ω}{kk:Nat}(hz:z.length=kk):∀ n,((aV n z).flatten).length=n*kk
 | 0=>by simp
 | n+1=>by simp [List.replicate_succ,Fl hz n,hz,cC];omega
def l0 {z:List ω}:∀ (n i:Nat),i<n*z.length→(aV n z).flatten[i]? = z[i%z.length]?
 | 0,i,h=>by simp at h
 |
  n+1,i,h=>by
  simp only [List.replicate_succ,List.flatten_cons];rw [List.getElem?_append];split
  ·rename_i hlt;rw [Nat.mod_eq_of_lt hlt]
  rename_i hge;rw [l0 n (i-z.length) (by rw [cC,Nat.one_mul] at h;omega)];rw [Nat.mod_eq_sub_mod (a:=i) (by omega)]
section
variable {P:aJ}{C:Ctx}{N:Nat}{ops rest:List bG}{o:bG}{t:List (Nat × D)}{h:List (Nat × Blk)}{k:List (Nat × ω)}{Q:dH→S→Prop}{tab:List (Option TI)}
def xV {i kk bb:Nat}{T e:aD}{x y:aH}{k1 k2:fP}{n c:Int}{x0:D}{b ie:TI}(hT:bO P tab)(ho:o.op=.makeSlice T x y)(hw:bC ops t o=some true)(hd:o.dst=some i)(hi:aZ i N=true)
  (hx:cS t x=some (.v (.int k1 n))) (hy:cS t y=some (.v (.int k2 c))) (hti:ti tab T=some b) (hs:b.d=.slice e) (hie:ti tab e=some ie) (hks:ie.size=kk) (hbb:ie.bytes=bb) (hz:ie.zero.length=kk) (f:cK 1 bb=true) (j:cK 1 kk=true) (h1z:ie.zero.all one=true)
  (hok:mf bb n c=true) (p:∀ H,RepC H x0 ie.zero)
  (g:∀ z:Z3,a1 P C N ops rest ⟨(i,.v (SL z))::t,(0,.row kk (aV n.toNat x0) (SL z))::h,k⟩ Q):a1 P C N ops (o::rest) ⟨t,h,k⟩ Q:=
 ko (s:=⟨t,h,k⟩) hw hd hi fun H a w core kt=>by
  subst hks;subst hbb;obtain ⟨L,hnc,hcb⟩:=x5 hok;have M:=bS f;have O:=bS j;obtain ⟨d0,r,A⟩:=iY (w:=w) (b4 hT hti);obtain rfl:=lB (A.trans hs);have hTe:=b4 hT hie;obtain ⟨tif,zz,B,R,F,U,V⟩:=Co (w:=w) hTe;obtain ⟨zv,G,I⟩:=wZ (w:=w) hTe;have hone:∀ u∈ie.zero,one u=true:=by simpa [bY] using h1z
  have hc:c≤140737488355328:=by
   have:c*1≤c*(ie.bytes:Int):=Int.mul_le_mul_of_nonneg_left (by omega) (by omega);omega
  have wl:ζ.wrap n=n:=by rw [b1];omega
  have wc:ζ.wrap c=c:=by rw [b1];omega
  let xs:=aV n.toNat x0;have hxl:xs.length=n.toNat:=by simp [xs]
  refine ⟨SL (some ⟨w.heap.size,0,none⟩,n.toNat,c.toNat),w.alloc (.cells ((aV n.toNat ie.zero).flatten++(aV (c.toNat-n.toNat) ie.zero).flatten).toArray e),H,.v (SL (some ⟨w.heap.size,0,none⟩,n.toNat,c.toNat)),(0,.row ie.size xs (SL (some ⟨w.heap.size,0,none⟩,n.toNat,c.toNat)))::h,k,?_,Hp.le_refl H,?_,dA rfl,g _⟩
  ·unfold bL;rw [ho];refine iC ?_;rw [eW (eh kt hx),eW (eh kt hy)];unfold Instr.makeSlice;rw [KL r];simp only [];rw [KL (a:=n) rfl,KL (a:=c) rfl,KL B];simp only [wl,wc,F];rw [aF (by
    simp only [Bool.or_eq_true,bJ,not_or,Int.not_lt,Int.not_le];refine ⟨⟨⟨by omega,?_⟩,by omega⟩,by omega⟩;have:(ie.bytes:Int)*c≤140737488355328:=by rw [Int.mul_comm];exact hcb
    show (ie.bytes:Int)*c≤2 ^ 48
    omega)]
   rw [KL Jz,KL (lD hTe)];have hcell:∀ zr:Array ω,(c.toNat*ie.size=0∨zr.toList=ie.zero)→(Array.range (c.toNat*ie.size)).map (zr[· % zr.size]!)=((aV n.toNat ie.zero).flatten++(aV (c.toNat-n.toNat) ie.zero).flatten).toArray:=by
    intro zr hzr;apply Array.ext';have J:(aV n.toNat ie.zero).flatten++(aV (c.toNat-n.toNat) ie.zero).flatten=(aV c.toNat ie.zero).flatten:=by
     rw [← List.flatten_append,List.replicate_append_replicate,show n.toNat+(c.toNat-n.toNat)=c.toNat by omega]
    rw [J];apply List.ext_getElem?;intro i;simp only [Array.toList_map,Array.toList_range,f9];rcases hzr with q|q
    ·have K:c.toNat=0:=by
      rcases Nat.mul_eq_zero.1 q with q|q
      ·exact q
      omega
     rw [K];simp
    have hsz:zr.size=ie.size:=by rw [← b9,q,hz]
    by_cases hlt:i<c.toNat*ie.size
    ·rw [List.getElem?_range hlt,l0 c.toNat i (by rw [hz];exact hlt)];simp only [dQ];have hml:i%zr.size<zr.size:=Nat.mod_lt _ (by omega);rw [← q,b9,Array.getElem?_toList,getElem!_pos zr _ hml,getElem?_pos zr _ hml]
    rw [jq (by simpa using hlt),jq (by rw [Fl hz];omega)];rfl
   by_cases q:c.toNat*ie.size=0
   ·rw [aQ q,KL (a:=(#[]:Array ω)) rfl,hcell #[] (.inl q)];rfl
   rw [aF q];simp only [mw,G,mJ];rw [hcell zv.cells (.inr I)];rfl
  have:=core.newRow (xs:=xs) (us:=(aV n.toNat ie.zero).flatten) (rest:=(aV (c.toNat-n.toNat) ie.zero).flatten) (kk:=ie.size) (m:=c.toNat) (T:=e)
   (I4 hz (p H) hone n.toNat) (by omega) (by simp only [υ,Fl hz];rw [← cC];exact dF _ (by omega)) (fun q=>by
    have:n.toNat=0:=by omega
    simp [xs,this])
  rw [hxl] at this;exact this
def I3 {i kk bb:Nat}{T e:aD}{x y:aH}{k1 k2:fP}{n c:Int}{x0:D}{zs:List D}{a ie:TI}(hT:bO P tab)(ho:o.op=.makeSlice T x y)(hw:bC ops t o=some true)(hd:o.dst=some i)(hi:aZ i N=true)
  (hx:cS t x=some (.v (.int k1 n))) (hy:cS t y=some (.v (.int k2 c))) (hti:ti tab T=some a) (hs:a.d=.slice e) (hie:ti tab e=some ie) (hks:ie.size=kk) (hbb:ie.bytes=bb) (hz:ie.zero.length=kk) (b:cK 1 bb=true) (f:cK 1 kk=true) (h1z:ie.zero.all one=true)
  (hok:mf bb n c=true) (j:∀ H,RepC H x0 ie.zero) (em:aV n.toNat x0=zs)
  (g:∀ z:Z3,a1 P C N ops rest ⟨(i,.v (SL z))::t,(0,.row kk zs (SL z))::h,k⟩ Q):a1 P C N ops (o::rest) ⟨t,h,k⟩ Q:=by
 subst em;exact xV hT ho hw hd hi hx hy hti hs hie hks hbb hz b f h1z hok j g
def BT {α:Type}{e:α→D}{xs:List α}{j:Nat}{v:α}:(xs.map e).set j (e v)=(xs.set j v).map e:=List.map_set.symm
def BS {α:Type}{e:α→D}{xs:List α}{j:Int}{x:α}(h:idx xs j=some x):j.toNat<(xs.map e).length:=by simpa using vn h
def NZ {i r kk:Nat}{T e:aD}{x ix:aH}{xs:List D}{z:Z3}{ik:fP}{jx:Int}{d:D}{c tie:TI}(j:Nat)(hT:bO P tab)(ho:o.op=.indexAddr T x ix)(hw:bC ops t o=some true)(hd:o.dst=some i)(hi:aZ i N=true)
  (hx:cS t x=some (.v (SL z))) (hj:h[j]? = some (r,.row kk xs (SL z))) (hix:cS t ix=some (.v (.int ik jx))) (hti:ti tab T=some c) (hs:c.d=.slice e) (hte:ti tab e=some tie) (hk:tie.size=kk) (n:0≤jx) (hb:xs[jx.toNat]? = some d)
  (g:a1 P C N ops rest ⟨(i,.v (PE z (jx.toNat*kk)))::t,h,k⟩ Q):a1 P C N ops (o::rest) ⟨t,h,k⟩ Q:=
 ko (s:=⟨t,h,k⟩) hw hd hi fun H a w core kt=>by
  obtain ⟨dd,h1,h2⟩:=iY (w:=w) (b4 hT hti);have:=lB (h2.trans hs);subst this;obtain ⟨hlt,_⟩:=aP.1 hb;rcases core.blks _ (a4 hj) with ⟨ad,_,p⟩|⟨b,m,us,rest',TT,f,g0,u,g1,y,A,B⟩
  ·subst p;simp at hb
  refine ⟨PE z (jx.toNat*kk),w,H,_,h,k,?_,Hp.le_refl H,core,dA rfl,g⟩;unfold bL;rw [ho];refine iC ?_;rw [eW (eh kt hx),eW (eh kt hix)];obtain ⟨z1,F,G⟩:=z;simp only [SL,bP] at f;obtain ⟨rfl,rfl,rfl⟩:=f;unfold Instr.indexAt;rw [KL (a:=(ik,jx)) rfl];simp only [];have q:jx<(xs.length:Int):=by omega
  simp only [SL,PE,mw,h1,mJ,lD (b4 hT hte),hk,aQ (show 0≤jx∧jx<(xs.length:Int) from ⟨n,q⟩),oJ,dQ]
def FC {i r kk jn:Nat}{T:aD}{x:aH}{xs:List D}{z:Z3}{d0 d:D}{c:TI}(j:Nat)(hT:bO P tab)(ho:o.op=.load T x)(hw:bC ops t o=some true)(hd:o.dst=some i)(hi:aZ i N=true)
  (hx:cS t x=some (.v (PE z (jn*kk)))) (hj:h[j]? = some (r,.row kk xs (SL z))) (hti:ti tab T=some c) (hb:xs[jn]? = some d0) (e:eZ c (eK d0) 0=some d) (hne:eK d0≠[])
  (g:a1 P C N ops rest ⟨(i,d)::t,h,k⟩ Q):a1 P C N ops (o::rest) ⟨t,h,k⟩ Q:=
 ko (s:=⟨t,h,k⟩) hw hd hi fun H a w core kt=>by
  rcases core.blks _ (a4 hj) with ⟨ad,_,p⟩|⟨b,m,us,rest',TT,f,g0,J,g1,y,K,L⟩
  ·subst p;simp at hb
  obtain ⟨vs,f1,A,B,F,M⟩:=qK y hb;have hrow:RowAt w b (jn*kk) vs:=fun q u eq=>by
   have:=(Fu g1).drop (jn*kk);rw [cH] at this;refine this q u ?_;rw [List.drop_append_of_le_length (by omega)];have hq:=(aP.1 eq).1;rw [← F,List.getElem?_take,aQ (by omega)] at eq;rw [cI (by rw [eD];omega)];exact eq
  obtain ⟨v,G,I⟩:=Ds (P:=P) (T:=T) (n:=0) (b4 hT hti) hrow (Jq hne A B) e;refine ⟨v,w,H,d,h,k,?_,Hp.le_refl H,core,I,g⟩;unfold bL;rw [ho];refine iC ?_;rw [eW (eh kt hx)];obtain ⟨z1,O,R⟩:=z;simp only [SL,bP] at f;obtain ⟨rfl,rfl,rfl⟩:=f;simpa [PE,oJ] using G
def B1 {r kk jn:Nat}{T:aD}{x y:aH}{xs xs':List D}{z:Z3}{d:D}{u:TI}(j:Nat)(hT:bO P tab)(ho:o.op=.store T x y)(hw:bC ops t o=some true)(hd:o.dst=none)
  (hx:cS t x=some (.v (PE z (jn*kk)))) (hj:h[j]? = some (r,.row kk xs (SL z))) (hti:ti tab T=some u) (hy:cS t y=some d) (hs:iv d=true) (hsz:u.size=kk) (hdl:bM (eK d).length kk=true) (hlt:jn<xs.length) (em:xs.set jn d=xs')
  (g:a1 P C N ops rest ⟨t,h.set j (r,.row kk xs' (SL z)),k⟩ Q):a1 P C N ops (o::rest) ⟨t,h,k⟩ Q:=
 IL (s:=⟨t,h,k⟩) hw hd fun H a w core kt=>by
  subst em;have hbl:=core.blks _ (a4 hj);rcases hbl with ⟨ad,_,F⟩|⟨b,m,us,rest',TT,A,g0,c,g1,B,G,f⟩
  ·subst F;simp at hlt
  have hry:=eh kt hy;have hv:=FE hs hry;have hlen:=wh hv;have hkl:=aX hdl;have hul:=yU B;have hvl:(a.eval y).cells.toList.length=kk:=by omega
  obtain ⟨z1,L,e⟩:=z;simp only [SL,bP] at A;obtain ⟨rfl,rfl,rfl⟩:=A;have hjm:jn*kk+kk≤us.length:=by
   rw [hul];have:=dF kk (show jn+1≤xs.length from hlt);rw [cC] at this;omega
  have hone:=BV hv;obtain ⟨w',I,J,M,n,q⟩:=Ao (P:=P) (b:=b) (off:=jn*kk) (T:=TT) (a.eval y).cells.toList 0 w (us++rest') g1 (by rw [hvl,υ];omega) hone;rw [gY,hvl] at q;have ecells:(us++rest').take (jn*kk)++((a.eval y).cells.toList++(us++rest').drop (jn*kk+kk))=(us.take (jn*kk)++((a.eval y).cells.toList++us.drop (jn*kk+kk)))++rest':=by
   rw [List.take_append_of_le_length (by omega),List.drop_append_of_le_length (by omega)];simp
  rw [ecells] at q;have hrc:RepC H d (a.eval y).cells.toList:=hry.1;have c1:Core C H ([(r,.row kk xs (.slice (some ⟨b,0,none⟩) xs.length e))]++h.eraseIdx j) ([]++k) w:=core.perm (KO hj) (aM _);have hclaim:K4 [(r,Blk.row kk xs (.slice (some ⟨b,0,none⟩) xs.length e))] []=[b]:=by simp [K4,eQ,ii,c]
  have c2:Core ⟨H,w,K4 [(r,Blk.row kk xs (.slice (some ⟨b,0,none⟩) xs.length e))] []⟩ H [(r,.row kk (xs.set jn d) (.slice (some ⟨b,0,none⟩) xs.length e))] [] w':=by
   rw [hclaim];refine ⟨⟨fun a K ea=>?_,core.ag.gg.own f n⟩,Hp.le_refl H,fun _ _ x=>.inl x,fun i _ c=>n i (by simpa using c),by show w.heap.size≤w'.heap.size;omega,?_,by simp,?_,?_,J⟩
   ·have hcell:=core.ag a K ea;by_cases qb:a.block=b
    ·obtain ⟨ab,ao,as_⟩:=a;simp only at qb;subst qb;cases as_ with
     | some sp=>simp [aO,g1] at hcell
     | none=>rw [f ao] at ea;cases ea
    simp only [aO] at hcell ⊢;rw [n _ qb];exact hcell
   ·intro p hp;simp only [aT] at hp;subst hp;refine .inr ⟨b,e,_,rest',TT,by simp,by simpa using g0,c,q,nS hvl hrc hone B hlt,?_,f⟩;have:=a6 fc ecells;simp only [υ,kX,eD] at this G ⊢;omega
   ·simp [K4,eQ,ii,c]
   intro x hx;simp [K4,eQ,ii,c] at hx;subst hx;exact .inl (by simp)
  refine ⟨w',H,h.set j (r,.row kk (xs.set jn d) (.slice (some ⟨b,0,none⟩) xs.length e)),k,?_,Hp.le_refl H,(Core.call c1 c2).perm (B3 hj) (aM _),g⟩;unfold bL;rw [ho];have hrun:(iq T (a.eval x) (a.eval y)).run P w=.ok () w':=by
   rw [eW (eh kt hx)];unfold iq;simp only [PE,dQ,oJ,cH];rw [KL (a:=(⟨b,jn*kk,none⟩:Addr)) rfl];unfold storeVar;rw [KL (lD (b4 hT hti)),aF (by rw [← b9,hvl,hsz];simp)];exact I
  show ((iq T (a.eval x) (a.eval y)) >>= fun _=>pure Next.skip).run P w=_
  rw [KL hrun];rfl
end
end
section
open Go
def I2 {σ τ α β:Type}{f:σ→Option (Step σ τ)}(l:List β)(g:List β→α)(st:α→Nat→σ)(fin:α→τ)
  (h1:∀ pre x post,l=pre++x::post→f (st (g pre) pre.length)=some (.next (st (g (pre++[x])) (pre.length+1))))
  (h2:f (st (g l) l.length)=some (.done (fin (g l)))):aE f (st (g []) 0)=some (fin (g l)):=by
 have key:∀ (post pre:List β),l=pre++post→aE f (st (g pre) pre.length)=some (fin (g l)):=by
  intro post;induction post with
  | nil=>intro pre h;rw [aN] at h;subst h;exact K0 h2
  |
   cons x post ih=>
   intro pre h;rw [ig (h1 pre x post h)];have:=ih (pre++[x]) (by simp [h]);simpa using this
 simpa using key l [] rfl
def wR {σ τ α β ρ:Type}{f:σ→Option (Step σ τ)}{a:σ}{k:τ→Option ρ}{r:Option ρ}(l:List β)(g:List β→α)(st:α→Nat→σ)(fin:α→τ)(b:st (g []) 0=a)
  (h1:∀ pre x post,l=pre++x::post→f (st (g pre) pre.length)=some (.next (st (g (pre++[x])) (pre.length+1))))
  (h2:f (st (g l) l.length)=some (.done (fin (g l)))) (hk:k (fin (g l))=r):κ (aE f a) k=r:=by
 subst b;rw [I2 l g st fin h1 h2];exact hk
def iX {β:Type}(pre:List β)(x:β)(post:List β):idx (pre++x::post) (pre.length:Int)=some x:=by
 rw [lb];simp
def fL {β:Type}{l pre:List β}{x:β}{post:List β}(h:l=pre++x::post):decide ((pre.length:Int)<(l.length:Int))=true:=by
 subst h;simp;omega
def jR {β:Type}(l:List β):decide ((l.length:Int)<(l.length:Int))=false:=by simp
def fK {β:Type}{l pre:List β}{x:β}{post:List β}(h:l=pre++x::post)(hb:l.length≤4611686018427387904):ζ.wrap ((pre.length:Int)+1)=((pre.length+1:Nat):Int):=by
 have:pre.length<l.length:=by subst h;simp
 rw [b1];omega
def kR {n:Int}(h:-9223372036854775808≤n)(k:n<9223372036854775808):ζ.wrap n=n:=by rw [b1];omega
def iW {β:Type}{l pre:List β}{x:β}{post:List β}(h:l=pre++x::post):x∈l:=by subst h;simp
def h9 {β:Type}{bb:Nat}{xs ys:List β}(hb:bb≤4096)(h:xs.length+ys.length≤8388608):app bb xs ys=some (xs++ys):=by
 refine C1 ?_;have:=Nat.mul_le_mul h hb;omega
def sY {β:Type}{m p:List β}{x:β}{q:List β}{n:Nat}(h:m=p++x::q)(hn:n=p.length):idx m (n:Int)=some x:=by
 subst h hn;exact iX _ _ _
end
section
open Go
def Le.of {α:Type}{m m':Option α}{r:α}(h:Le m m')(e:m=some r):m'=some r:=h r e
end
section
open Go
abbrev RL:=List (Nat×Nat×List D)
def Oh (rl:RL)(e:Nat):Bool:=rl.any fun x=>x.1==e
def dR (rl:RL)(e:Nat)(d:D)(v:ω):D:=bif Oh rl e then .v v else d
section
variable (P:aJ)(C:Ctx)(N:Nat)(l:List bG)(m:Nat)(De:Nat→D)(al:AL)(rl:RL)(pre:List (List Nat))(ev:List Nat)(h:List (Nat × Blk))(k:List (Nat × ω))(Q:dH→S→Prop)
def Lr (bs:Nat→ω)(e:Nat):D:=bif yk al e then .ptr (blk (bs e)) 0 else dR rl e (De e) (bs e)
def TOKr (H0:Hp)(bs:Nat→ω)(vals:Nat→ω)(te:TE)(a:Act):Prop:=
 ∀ j d o,fQ te j=some (d,o)→∃ v,a.tmps[j]? = some v∧(o=none→∀ H,H0.le H→Rep H d v)∧∀ e,o=some e→v=vals e∧d=Lr De al rl bs e∧ev.contains e=true
end
section
variable {P:aJ}{C:Ctx}{N:Nat}{l:List bG}{m:Nat}{De:Nat→D}{al:AL}{rl:RL}{pre:List (List Nat)}{ev:List Nat}{h:List (Nat × Blk)}{k:List (Nat × ω)}{Q:dH→S→Prop}{tab:List (Option TI)}{bs:Nat→ω}{i:Nat}{o:bG}{rest:List bG}{te:TE}
def TOKr.put {H0:Hp}{vals:Nat→ω}{a:Act}(kt:TOKr De al rl ev H0 bs vals te a){j:Nat}{d:D}{o:Option Nat}{v:ω}(hj:j<a.tmps.size)(h1:o=none→∀ H,H0.le H→Rep H d v)(h2:∀ e,o=some e→v=vals e∧d=Lr De al rl bs e∧ev.contains e=true) :
  TOKr De al rl ev H0 bs vals ((j,d,o)::te) (a.put (some j) v):=by
 intro j' d' o' e;simp only [fQ] at e;simp only [io];cases hb:bM j j' with
 |
  true=>
  rw [hb] at e;simp at e;obtain ⟨rfl,rfl⟩:=e;have:=aX hb;subst this;exact ⟨v,by simp [hj],h1,h2⟩
 |
  false=>
  rw [hb] at e;simp at e;have hne:j≠j':=fw hb;obtain ⟨u,b,c⟩:=kt j' d' o' e;exact ⟨u,by rw [f0 hne];exact b,c⟩
end
section
variable {P:aJ}{C:Ctx}{N:Nat}{l:List bG}{m:Nat}{De:Nat→D}{al:AL}{rl:RL}{pre:List (List Nat)}{ev:List Nat}{h:List (Nat × Blk)}{k:List (Nat × ω)}{Q:dH→S→Prop}{tab:List (Option TI)}{bs:Nat→ω}{i:Nat}{o:bG}{rest:List bG}{te:TE}
end
end
section
open Go
def oy (s:η)(c:Int):Int:=Lib.indexByte s.data.toList c.toNat.toUInt8
def r8 (s c):CallsD Tryz.prog 177 [.v (.string s),.v (.int .u8 c)] [] [] (fun d h k=>d=.v (.int .i64 (oy s c))∧h=[]∧k=[]):=
 uO (us:=#[.string s,.int .u8 c]) ⟨_,Tryz.func177,rfl,rfl⟩ rfl (fun _=>dA rfl) fun w=>(Tryz.strings_IndexByte s c w).mono fun _ w' ⟨h1,h2⟩=>⟨h1,by subst h2;exact ⟨⟨rfl,rfl,rfl,Φ _,fun _ _=>rfl⟩,Φ _⟩⟩
end
section
open Go
section
variable {P:aJ}{C:Ctx}{N:Nat}{ops rest:List bG}{o:bG}{t:List (Nat × D)}{h:List (Nat × Blk)}{k:List (Nat × ω)}{Q:dH→S→Prop}
def Kd {id:Nat}{ops:List bG}{y:Code}{s:S}(g:a1 P C N ops ops s (i6 (fun s'=>h8 P C N y s' Q) Q)):h8 P C N (.seq (.region id ops.toArray false) y) s Q:=Kj (Kt g)
def Kc {next:S→Prop}{s:S}(g:next s):a1 P C N ops [] s (i6 next Q):=Kw (Kb g)
def KE {id:Nat}{a:List bG}{y:Code}{s:S}{Q':dH→S→Prop}(g:a1 P C N a a s (i6 (fun s'=>h8 P C N y s' Q) Q)):a1 P C N ops [] s (i6 (fun s'=>h8 P C N (.seq (.region id a.toArray false) y) s' Q) Q'):=Kc (Kd g)
abbrev Cd:=CallsD Tryz.prog
abbrev dJ (e:D):D→List (Nat×Blk)→List (Nat×ω)→Prop:=fun d h k=>d=e∧h=[]∧k=[]
abbrev eN (e:D)(o:Nat)(x:List D)(T:aD):D→List (Nat×Blk)→List (Nat×ω)→Prop:=fun d h k=>d=e∧h=[(o,Blk.cells x T)]∧k=[]
abbrev kJ (n:Nat)(e:ω→D):D→List (Nat×Blk)→List (Nat×ω)→Prop:=fun d h k=>∃ y,d=e y∧h=[]∧k=[(n,y)]
abbrev oF (n o:Nat)(x:List D)(T:aD)(e:ω→D):D→List (Nat×Blk)→List (Nat×ω)→Prop:=fun d h k=>∃ y,d=e y∧h=[(o,Blk.cells x T)]∧k=[(n,y)]
def pu {i:Nat}{d:D}(g:a1 Tryz.prog C N ops rest ⟨(i,d)::t,h,k⟩ Q)(hw:bC ops t o=some true:=by rfl)(hd:o.dst=some i:=by rfl)(hi:aZ i N=true:=by rfl)(e:nW tab t o.op=some d:=by rfl):a1 Tryz.prog C N ops (o::rest) ⟨t,h,k⟩ Q:=H4 htab hw hd hi e g
def Ev {hr:List (Nat×Blk)}{b off:Nat}{T T':aD}{x y:aH}{ds ds':List D}{a:TI}{d:D}(ho:o.op=.store T x y)(hw:bC ops t o=some true)(hd:o.dst=none)(hx:cS t x=some (.ptr b off))(hT:ti tab T=some a)(hy:cS t y=some d)(hs:iv d=true)(hsz:bM (eK d).length a.size=true)(hle:cK (off+a.size) ds.length=true)(e:mF ds off (eK d)=ds')(g:a1 Tryz.prog C N ops rest ⟨t,(b,.cells ds' T')::hr,k⟩ Q):a1 Tryz.prog C N ops (o::rest) ⟨t,(b,.cells ds T')::hr,k⟩ Q:=E4 0 htab ho hw hd hx rfl hT hy hs hsz hle e rfl g
def WkS.bl0 {hr:List (Nat×Blk)}{b:Nat}{ds ds':List D}{T:aD}(hw:WkR ds ds'):WkS C ⟨t,(b,.cells ds T)::hr,k⟩ ⟨t,(b,.cells ds' T)::hr,k⟩:=WkS.blk 0 rfl hw rfl
def Eu {a0:Nat×Blk}{hr:List (Nat×Blk)}{b off:Nat}{T T':aD}{x y:aH}{ds ds':List D}{a:TI}{d:D}(ho:o.op=.store T x y)(hw:bC ops t o=some true)(hd:o.dst=none)(hx:cS t x=some (.ptr b off))(hT:ti tab T=some a)(hy:cS t y=some d)(hs:iv d=true)(hsz:bM (eK d).length a.size=true)(hle:cK (off+a.size) ds.length=true)(e:mF ds off (eK d)=ds')(g:a1 Tryz.prog C N ops rest ⟨t,a0::(b,.cells ds' T')::hr,k⟩ Q):a1 Tryz.prog C N ops (o::rest) ⟨t,a0::(b,.cells ds T')::hr,k⟩ Q:=E4 1 htab ho hw hd hx rfl hT hy hs hsz hle e rfl g
def WkS.bl1 {a0:Nat×Blk}{hr:List (Nat×Blk)}{b:Nat}{ds ds':List D}{T:aD}(hw:WkR ds ds'):WkS C ⟨t,a0::(b,.cells ds T)::hr,k⟩ ⟨t,a0::(b,.cells ds' T)::hr,k⟩:=WkS.blk 1 rfl hw rfl
def Et {a0 c:Nat×Blk}{hr:List (Nat×Blk)}{b off:Nat}{T T':aD}{x y:aH}{ds ds':List D}{a:TI}{d:D}(ho:o.op=.store T x y)(hw:bC ops t o=some true)(hd:o.dst=none)(hx:cS t x=some (.ptr b off))(hT:ti tab T=some a)(hy:cS t y=some d)(hs:iv d=true)(hsz:bM (eK d).length a.size=true)(hle:cK (off+a.size) ds.length=true)(e:mF ds off (eK d)=ds')(g:a1 Tryz.prog C N ops rest ⟨t,a0::c::(b,.cells ds' T')::hr,k⟩ Q):a1 Tryz.prog C N ops (o::rest) ⟨t,a0::c::(b,.cells ds T')::hr,k⟩ Q:=E4 2 htab ho hw hd hx rfl hT hy hs hsz hle e rfl g
def WkS.bl2 {a0 a:Nat×Blk}{hr:List (Nat×Blk)}{b:Nat}{ds ds':List D}{T:aD}(hw:WkR ds ds'):WkS C ⟨t,a0::a::(b,.cells ds T)::hr,k⟩ ⟨t,a0::a::(b,.cells ds' T)::hr,k⟩:=WkS.blk 2 rfl hw rfl
def Es {a0 c f:Nat×Blk}{hr:List (Nat×Blk)}{b off:Nat}{T T':aD}{x y:aH}{ds ds':List D}{a:TI}{d:D}(ho:o.op=.store T x y)(hw:bC ops t o=some true)(hd:o.dst=none)(hx:cS t x=some (.ptr b off))(hT:ti tab T=some a)(hy:cS t y=some d)(hs:iv d=true)(hsz:bM (eK d).length a.size=true)(hle:cK (off+a.size) ds.length=true)(e:mF ds off (eK d)=ds')(g:a1 Tryz.prog C N ops rest ⟨t,a0::c::f::(b,.cells ds' T')::hr,k⟩ Q):a1 Tryz.prog C N ops (o::rest) ⟨t,a0::c::f::(b,.cells ds T')::hr,k⟩ Q:=E4 3 htab ho hw hd hx rfl hT hy hs hsz hle e rfl g
def Er {a0 c f j:Nat×Blk}{hr:List (Nat×Blk)}{b off:Nat}{T T':aD}{x y:aH}{ds ds':List D}{a:TI}{d:D}(ho:o.op=.store T x y)(hw:bC ops t o=some true)(hd:o.dst=none)(hx:cS t x=some (.ptr b off))(hT:ti tab T=some a)(hy:cS t y=some d)(hs:iv d=true)(hsz:bM (eK d).length a.size=true)(hle:cK (off+a.size) ds.length=true)(e:mF ds off (eK d)=ds')(g:a1 Tryz.prog C N ops rest ⟨t,a0::c::f::j::(b,.cells ds' T')::hr,k⟩ Q):a1 Tryz.prog C N ops (o::rest) ⟨t,a0::c::f::j::(b,.cells ds T')::hr,k⟩ Q:=E4 4 htab ho hw hd hx rfl hT hy hs hsz hle e rfl g
end
section
variable {P:aJ}{C:Ctx}{N:Nat}{l:List bG}{m:Nat}{De:Nat→D}{al:AL}{pre:List (List Nat)}{ev:List Nat}{h:List (Nat × Blk)}{k:List (Nat × ω)}{Q:dH→S→Prop}{bs:Nat→Nat}{i:Nat}{o:bG}{rest:List bG}{te:TE}
end
def jM {α:Type}:List Nat→List α→List α
 | [],_=>[]
 |
  j::js,l=>match l[j]? with
  | some x=>x::jM js (l.eraseIdx j)
  | none=>[]
def um {α:Type}:List Nat→List α→List α
 | [],l=>l
 |
  j::js,l=>match l[j]? with
  | some _=>um js (l.eraseIdx j)
  | none=>l
def Jm {α:Type}:∀ (js:List Nat) (l:List α),l.Perm (jM js l++um js l)
 | [],l=>aM _
 |
  j::js,l=>by
  unfold jM um;cases h:l[j]? with
  | none=>exact aM _
  | some x=>exact (KO h).trans ((Jm js (l.eraseIdx j)).cons x)
section
variable {P:aJ}{C:Ctx}{N:Nat}{ops rest:List bG}{o:bG}{t:List (Nat × D)}{h:List (Nat × Blk)}{k:List (Nat × ω)}{Q:dH→S→Prop}
def rP {rs:List dM}{R:D→List (Nat×Blk)→List (Nat×ω)→Prop}{x:dH}{t':List (Nat×D)}{ds:List D}(js ks:List Nat)(n:Nat)(e:∀ i d,dL t' i=some d→∃ d0,dL t i=some d0∧Wk d0 d)(hr:jd tab ⟨t',jM js h,jM ks k⟩ rs ds)(g:R (jC ds) ((jM js h).take n) (jM ks k))(hx:x=.ret∨x=.normal:=by first|exact .inl rfl|exact .inr rfl):retX C tab rs R x ⟨t,h,k⟩:=
 retX.of (s':=⟨t',jM js h,jM ks k⟩) (WkS.perm e (Jm js h) (Jm ks k)) (yR hx hr (List.take_sublist n _) (bT _) g)
def wC {t t':List (Nat×D)}{j:Nat}{d0:D}(g:∀ i d,dL t' i=some d→∃ a,dL t i=some a∧Wk a d)(b:dL t j=some d0:=by rfl):∀ i d,dL ((j,d0)::t') i=some d→∃ a,dL t i=some a∧Wk a d:=WkS.cons b (Wk.refl _) g
def wN {t:List (Nat×D)}:∀ i d,dL [] i=some d→∃ d0,dL t i=some d0∧Wk d0 d:=WkS.nil
def lN {s:S}:jd tab s [] []:=rfl
def lT {s:S}{i:Nat}{rs:List dM}{d:D}{ds:List D}(h2:jd tab s rs ds)(h1:dL s.t i=some d:=by rfl):jd tab s (.tmp i::rs) (d::ds):=wS (yV h1) h2
def lC {s:S}{a b off:Nat}{T T':aD}{ds:List D}{i:TI}{d:D}{rs:List dM}{ds':List D}(j:Nat)(hr:jd tab s rs ds')(h1:dL s.t a=some (.ptr b off):=by rfl)(h2:s.h[j]? = some (b,Blk.cells ds T'):=by rfl)(c:ti tab T=some i:=by rfl)(e:eZ i ds off=some d:=by rfl):jd tab s (.cell a T::rs) (d::ds'):=wS (O0 j h1 h2 c e) hr
def rC {d:D}{ds ds':List D}(g:WkR ds ds'):WkR (d::ds) (d::ds'):=WkR.cons (WkC.refl _) rfl g
def rO {ds ds':List D}{kk:Nat}{xs:List D}{c:Cap}(g:WkR ds ds'):WkR (.lst kk xs c::ds) (.lst kk xs .no::ds'):=WkR.cons WkC.no rfl g
def aU {P:Prop}(h:P:=by repeat first|exact wN|exact Wl|exact WkR.nil|exact WkE.nil|refine wC ?_|exact Wk.refl _|exact Wk.no|exact Wk.nil|refine Wk.lst0 ?_|refine WkE.cons ?_ ?_|refine WkL.cons ?_ ?_|exact WkC.refl _|exact WkC.no|exact WkC.nil|exact WkC.nilF|exact WkC.slf0|refine rC ?_|refine rO ?_|refine WkR.cons WkC.nil rfl ?_|refine WkR.cons WkC.nilF rfl ?_|refine WkR.cons WkC.slf0 rfl ?_|exact Wk.trans (Wk.agg (WkR.refl _)) (Wk.of_eq (Kn _).symm)|exact Wk.trans (Wk.agg (WkR.refl _)) (Wk.of_eq (KM _).symm)|exact WkC.trans (WkC.agg (WkR.refl _)) (WkC.of_eq (Kn _).symm)|exact WkC.trans (WkC.agg (WkR.refl _)) (WkC.of_eq (KM _).symm)):P:=h
def kx {P:Prop}(h:P:=by repeat first|exact wN|exact Wl|exact WkR.nil|exact WkE.nil|exact Wk.refl _|exact Wk.no|refine Wk.lst0 ?_|refine WkE.cons ?_ ?_|refine WkL.cons ?_ ?_|exact WkC.refl _|exact WkR.refl _|refine Wk.trans (Wk.agg ?_) (Wk.of_eq (Kn _).symm)|refine Wk.trans (Wk.agg ?_) (Wk.of_eq (KM _).symm)|refine WkC.trans (WkC.agg ?_) (WkC.of_eq (Kn _).symm)|refine WkC.trans (WkC.agg ?_) (WkC.of_eq (KM _).symm)|refine Wk.agg ?_|refine rC ?_|refine rO ?_|refine WkR.cons WkC.nil rfl ?_|refine WkR.cons WkC.nilF rfl ?_|refine WkR.cons WkC.slf0 rfl ?_):P:=h
def bU {P:Prop}(h:P:=by first|exact lN|exact lT lN|exact lC 0 lN|exact lC 1 lN|exact lT (lT lN)|exact lC 0 (lT lN)|exact lT (lT (lT lN))|exact lC 0 (lT (lT lN))):P:=h
def Pf {α:Type}{l:List α}:l.Perm l:=aM l
def Wl {ds:List D}:WkL ds ds:=WkL.refl ds
def pL {i b off:Nat}{T T':aD}{x:aH}{ds:List D}{a:TI}{d:D}(j:Nat)(g:a1 Tryz.prog C N ops rest ⟨(i,d)::t,h,k⟩ Q)(ho:o.op=.load T x:=by rfl)(hw:bC ops t o=some true:=by rfl)(hd:o.dst=some i:=by rfl)(hi:aZ i N=true:=by rfl)(hx:cS t x=some (.ptr b off):=by rfl)(hb:h[j]? = some (b,.cells ds T'):=by rfl)(hT:ti tab T=some a:=by rfl)(e:eZ a ds off=some d:=by rfl):a1 Tryz.prog C N ops (o::rest) ⟨t,h,k⟩ Q:=KY j htab ho hw hd hi hx hb hT e g
def pG {f args ts i ds ds' h1 h2 k1 k2}{R:D→List (Nat×Blk)→List (Nat×ω)→Prop}(hc:CallsD Tryz.prog f ds' h1 k1 R)(hwk:WkL ds ds')(hh:h.Perm (h1++h2))(hk:k.Perm (k1++k2))(g:∀ d h' k',R d h' k'→a1 Tryz.prog C N ops rest ⟨(i,d)::t,h'++h2,k'++k2⟩ Q)(ho:o.op=.call ⟨.value (.func f),args.toArray,ts⟩:=by rfl)(hw:bC ops t o=some true:=by rfl)(hd:o.dst=some i:=by rfl)(hi:aZ i N=true:=by rfl)(ha:kp args (cS t)=some ds:=by rfl):a1 Tryz.prog C N ops (o::rest) ⟨t,h,k⟩ Q:=lE hc ho hw hd hi ha hwk hh hk g
def fy {α β:Type}{m}{b:α→Option β}{φ:β→Prop}{f args ts i ds ds' h1 h2 k1 k2}{R:α→D→List (Nat×Blk)→List (Nat×ω)→Prop}(a:jT (m.bind b) φ)(hc:∀ x,m=some x→CallsD Tryz.prog f ds' h1 k1 (R x))(g:∀ x,jT (b x) φ→∀ d h' k',R x d h' k'→a1 Tryz.prog C N ops rest ⟨(i,d)::t,h'++h2,k'++k2⟩ Q)(ho:o.op=.call ⟨.value (.func f),args.toArray,ts⟩:=by rfl)(hw:bC ops t o=some true:=by rfl)(hd:o.dst=some i:=by rfl)(hi:aZ i N=true:=by rfl)(ha:kp args (cS t)=some ds:=by rfl)(hwk:WkL ds ds':=by exact aU)(hh:h.Perm (h1++h2):=by exact Pf)(hk:k.Perm (k1++k2):=by exact Pf):a1 Tryz.prog C N ops (o::rest) ⟨t,h,k⟩ Q:=let ⟨x,q,y⟩:=Ka a;pG (hc x q) hwk hh hk (g x y) ho hw hd hi ha
def bN {α β:Type}{m}{b:α→Option β}{φ:β→Prop}{f args ts i ds ds' h1 h2 k1 k2}{E:α→D}{Hh:α→List (Nat×Blk)}{Kk:α→List (Nat×ω)}(a:jT (m.bind b) φ)(hc:∀ x,m=some x→CallsD Tryz.prog f ds' h1 k1 (fun d h k=>d=E x∧h=Hh x∧k=Kk x))(g:∀ x,jT (b x) φ→a1 Tryz.prog C N ops rest ⟨(i,E x)::t,Hh x++h2,Kk x++k2⟩ Q)(ho:o.op=.call ⟨.value (.func f),args.toArray,ts⟩:=by rfl)(hw:bC ops t o=some true:=by rfl)(hd:o.dst=some i:=by rfl)(hi:aZ i N=true:=by rfl)(ha:kp args (cS t)=some ds:=by rfl)(hwk:WkL ds ds':=by exact aU)(hh:h.Perm (h1++h2):=by exact Pf)(hk:k.Perm (k1++k2):=by exact Pf):a1 Tryz.prog C N ops (o::rest) ⟨t,h,k⟩ Q:=fy a hc (fun x y d h' k' ⟨p,q,r⟩=>by subst p q r;exact g x y) ho hw hd hi ha hwk hh hk
def pK {i:Nat}(g:a1 Tryz.prog C N ops rest ⟨(i,.v (.tuple #[]))::t,h,k⟩ Q)(hw:bC ops t o=some false:=by rfl)(hd:o.dst=some i:=by rfl)(hi:aZ i N=true:=by rfl):a1 Tryz.prog C N ops (o::rest) ⟨t,h,k⟩ Q:=A6 hw hd hi g
def eG {hr:List (Nat×Blk)}{b off:Nat}{T T':aD}{x y:aH}{ds ds':List D}{a:TI}{d:D}(g:a1 Tryz.prog C N ops rest ⟨t,(b,.cells ds' T')::hr,k⟩ Q)(ho:o.op=.store T x y:=by rfl)(hw:bC ops t o=some true:=by rfl)(hd:o.dst=none:=by rfl)(hx:cS t x=some (.ptr b off):=by rfl)(hT:ti tab T=some a:=by rfl)(hy:cS t y=some d:=by rfl)(hs:iv d=true:=by rfl)(hsz:bM (eK d).length a.size=true:=by rfl)(hle:cK (off+a.size) ds.length=true:=by rfl)(e:mF ds off (eK d)=ds':=by rfl):a1 Tryz.prog C N ops (o::rest) ⟨t,(b,.cells ds T')::hr,k⟩ Q:=Ev ho hw hd hx hT hy hs hsz hle e g
def dV {a0:Nat×Blk}{hr:List (Nat×Blk)}{b off:Nat}{T T':aD}{x y:aH}{ds ds':List D}{a:TI}{d:D}(g:a1 Tryz.prog C N ops rest ⟨t,a0::(b,.cells ds' T')::hr,k⟩ Q)(ho:o.op=.store T x y:=by rfl)(hw:bC ops t o=some true:=by rfl)(hd:o.dst=none:=by rfl)(hx:cS t x=some (.ptr b off):=by rfl)(hT:ti tab T=some a:=by rfl)(hy:cS t y=some d:=by rfl)(hs:iv d=true:=by rfl)(hsz:bM (eK d).length a.size=true:=by rfl)(hle:cK (off+a.size) ds.length=true:=by rfl)(e:mF ds off (eK d)=ds':=by rfl):a1 Tryz.prog C N ops (o::rest) ⟨t,a0::(b,.cells ds T')::hr,k⟩ Q:=Eu ho hw hd hx hT hy hs hsz hle e g
def eL {a0 c:Nat×Blk}{hr:List (Nat×Blk)}{b off:Nat}{T T':aD}{x y:aH}{ds ds':List D}{a:TI}{d:D}(g:a1 Tryz.prog C N ops rest ⟨t,a0::c::(b,.cells ds' T')::hr,k⟩ Q)(ho:o.op=.store T x y:=by rfl)(hw:bC ops t o=some true:=by rfl)(hd:o.dst=none:=by rfl)(hx:cS t x=some (.ptr b off):=by rfl)(hT:ti tab T=some a:=by rfl)(hy:cS t y=some d:=by rfl)(hs:iv d=true:=by rfl)(hsz:bM (eK d).length a.size=true:=by rfl)(hle:cK (off+a.size) ds.length=true:=by rfl)(e:mF ds off (eK d)=ds':=by rfl):a1 Tryz.prog C N ops (o::rest) ⟨t,a0::c::(b,.cells ds T')::hr,k⟩ Q:=Et ho hw hd hx hT hy hs hsz hle e g
def ib {a0 c f:Nat×Blk}{hr:List (Nat×Blk)}{b off:Nat}{T T':aD}{x y:aH}{ds ds':List D}{a:TI}{d:D}(g:a1 Tryz.prog C N ops rest ⟨t,a0::c::f::(b,.cells ds' T')::hr,k⟩ Q)(ho:o.op=.store T x y:=by rfl)(hw:bC ops t o=some true:=by rfl)(hd:o.dst=none:=by rfl)(hx:cS t x=some (.ptr b off):=by rfl)(hT:ti tab T=some a:=by rfl)(hy:cS t y=some d:=by rfl)(hs:iv d=true:=by rfl)(hsz:bM (eK d).length a.size=true:=by rfl)(hle:cK (off+a.size) ds.length=true:=by rfl)(e:mF ds off (eK d)=ds':=by rfl):a1 Tryz.prog C N ops (o::rest) ⟨t,a0::c::f::(b,.cells ds T')::hr,k⟩ Q:=Es ho hw hd hx hT hy hs hsz hle e g
def Ir {a0 c f j:Nat×Blk}{hr:List (Nat×Blk)}{b off:Nat}{T T':aD}{x y:aH}{ds ds':List D}{a:TI}{d:D}(g:a1 Tryz.prog C N ops rest ⟨t,a0::c::f::j::(b,.cells ds' T')::hr,k⟩ Q)(ho:o.op=.store T x y:=by rfl)(hw:bC ops t o=some true:=by rfl)(hd:o.dst=none:=by rfl)(hx:cS t x=some (.ptr b off):=by rfl)(hT:ti tab T=some a:=by rfl)(hy:cS t y=some d:=by rfl)(hs:iv d=true:=by rfl)(hsz:bM (eK d).length a.size=true:=by rfl)(hle:cK (off+a.size) ds.length=true:=by rfl)(e:mF ds off (eK d)=ds':=by rfl):a1 Tryz.prog C N ops (o::rest) ⟨t,a0::c::f::j::(b,.cells ds T')::hr,k⟩ Q:=Er ho hw hd hx hT hy hs hsz hle e g
end
section
variable {P:aJ}{C:Ctx}{N:Nat}{l:List bG}{m:Nat}{De:Nat→D}{al:AL}{pre:List (List Nat)}{ev:List Nat}{h:List (Nat × Blk)}{k:List (Nat × ω)}{Q:dH→S→Prop}{bs:Nat→Nat}{i:Nat}{o:bG}{rest:List bG}{te:TE}
end
def DU {P:aJ}{C:Ctx}{N:Nat}{s:S}{Q:dH→S→Prop}{α:Type}{φ:α→Prop}{m1 m2:Option α}{c:aH}{x y:Code}{b:Bool}(a:jT (bif b then m1 else m2) φ)(hc:cS s.t c=some (.v (.bool b)))(ht:jT m1 φ→h8 P C N x s Q)(hf:jT m2 φ→h8 P C N y s Q):h8 P C N (.cond c x y) s Q:=
 B4 hc (fun h=>ht (cD h a)) (fun h=>hf (cE h a))
def cY {P:aJ}{C:Ctx}{N:Nat}{s:S}{Q:dH→S→Prop}{α:Type}{φ:α→Prop}{m1 m2:Option α}{c:aH}{x y:Code}{b:Bool}(d:jT (bif b then m1 else m2) φ)(ht:jT m1 φ→h8 P C N x s Q)(hf:jT m2 φ→h8 P C N y s Q)(hc:cS s.t c=some (.v (.bool b)):=by rfl):h8 P C N (.cond c x y) s Q:=DU d hc ht hf
def g6 {P:aJ}{C:Ctx}{N:Nat}{ops rest:List bG}{t:List (Nat×D)}{h:List (Nat×Blk)}{k:List (Nat×ω)}{Q:dH→S→Prop}{α:Type}{φ:α→Prop}{m1 m2:Option α}{i:Nat}{b:Bool}(a:jT (bif b then m1 else m2) φ)(g1:jT m1 φ→a1 P C N ops rest ⟨(i,.v (.bool true))::t,h,k⟩ Q)(f:jT m2 φ→a1 P C N ops rest ⟨(i,.v (.bool false))::t,h,k⟩ Q)(hx:dL t i=some (.v (.bool b)):=by rfl):a1 P C N ops rest ⟨t,h,k⟩ Q:=gW hx (fun e=>g1 (cD e a)) (fun e=>f (cE e a))
def N8 {α:Type}{m:Option α}{r:α}(h:m=some r):=DM (Kx h)
def wO {C:Ctx}{s:S}{S1:Unit→S}(h:WkS C s (S1 ())):WkX C s S1:=WkX.of () h
def wP {C:Ctx}{t t':List (Nat×D)}{h h' hj:List (Nat×Blk)}{k k' kj:List (Nat×ω)}(e:∀ i d,dL t' i=some d→∃ d0,dL t i=some d0∧Wk d0 d)(hh:h.Perm (h'++hj):=by exact Pf)(hk:k.Perm (k'++kj):=by exact Pf):WkS C ⟨t,h,k⟩ ⟨t',h',k'⟩:=WkS.perm e hh hk
end
section
open Go Go.RowKit
set_option maxHeartbeats 4000000
set_option maxRecDepth 100000
def mr:∃ j,Tryz.prog.info? 65=some j∧j.size=2:=by
 have h:(Tryz.prog.info? 65).map (·.size)=some 2:=by kernel_rfl
 exact fF.1 h
def LN (b:Nat)(w:aL)(a:w.cell? ⟨b,0,none⟩=some (.pointer (some ⟨b,0,none⟩))) :
  Calls Tryz.prog 55 #[.pointer (some ⟨b,0,none⟩)] w fun e w'=>e=.returned (.tuple #[])∧w'=w:=by
 obtain ⟨j,hj,_⟩:=mr;go_enter Tryz.func55,Tryz.ntmps55;go_wp2;rw [Lib.run_neq_ptr_same w _ (by kernel_rfl) hj];go_wp2;go_end0;exact ⟨rfl,rfl⟩
def pU (b:Nat)(w:aL)(a:w.cell? ⟨b,0,none⟩=some (.pointer none))(hsh:w.shape? b=some (111,3))(hfz:w.frozen? ⟨b,0,none⟩=false) :
  Calls Tryz.prog 55 #[.pointer (some ⟨b,0,none⟩)] w fun e w'=>e=.returned (.tuple #[])∧w'=w.setCell ⟨b,0,none⟩ (.pointer (some ⟨b,0,none⟩)):=by
 obtain ⟨j,hj,hjs⟩:=mr;go_enter Tryz.func55,Tryz.ntmps55;go_wp2;rw [Lib.run_to_unsafe w ⟨b,0,none⟩ (by kernel_rfl) (by kernel_rfl) hj (by rw [hjs];decide) hsh (Nat.zero_lt_succ 2)];simp only [fE];rw [fT];go_wp2;rw [run_callFunc_extern Tryz.func88 (by kernel_rfl) (by kernel_rfl) (by kernel_rfl) (e:=RG) (by kernel_rfl)];rw [Lib.run_noEscape];simp only [fE];rw [fT];go_wp2;rw [Lib.run_from_unsafe w ⟨b,0,none⟩ (by kernel_rfl) (by kernel_rfl) hj hsh (by kernel_rfl)];simp only [fE];rw [fT];go_wp2;go_end0;exact ⟨rfl,rfl⟩
end
section
open Go
def sB {H H':Hp}{w w':aL}{xs:List D}{z:Z3}(hq:BlkOK H w (0,.row 1 xs (SL z)))(hl:H.le H')(hw:∀ b∈ii (SL z),w'.heap[b]? = w.heap[b]?)(hn:∀ b∈ii (SL z),(∀ o,H ⟨b,o,none⟩=none)→∀ o,H' ⟨b,o,none⟩=none):BlkOK H' w' (0,.row 1 xs (SL z)):=by
 rcases hq with h|⟨b,m,us,rest,T,e,c,a,h1,h2,d,f⟩;exact .inl h;have hb:b∈ii (SL z):=by rw [e];simp [ii,a]
 exact .inr ⟨b,m,us,rest,T,e,c,a,by rw [hw b hb];exact h1,h2.mono hl,d,hn b hb f⟩
def c8 (T:aD)(l:List aC)(z:Z3):Opq where
 cl:=ii (SL z)
 Q:=fun H w=>BlkOK H w (0,.row 1 (l.map dW) (SL z))∧ug w (SL z) T
 lt:=fun H w q b hb=>I7 (h:=[(0,.row 1 (l.map dW) (SL z))]) (k:=[]) (by simpa using q.1) (by simp) b (by simpa [K4,eQ] using hb)
 later:=fun H H' w w' q hl hw hn=>⟨sB q.1 hl hw hn,fun a n m e=>by
  obtain ⟨c,hc⟩:=q.2 a n m e;have hb:a.block∈ii (SL z):=by rw [e];simp [ii,c]
  rw [hw _ hb];exact ⟨c,hc⟩⟩
def Core.swap {C:Ctx}{H:Hp}{h h':List (Nat×Blk)}{k:List (Nat×ω)}{w:aL}(c:Core C H h k w)(hc:K4 h' k=K4 h k)(hb:∀ p∈h',BlkOK H w p):Core C H h' k w:=
 ⟨c.ag,c.le,c.new,c.same,c.size,hb,c.toks,by rw [hc];exact c.nd,by rw [hc];exact c.own,c.env⟩
def WkC.slf0 {b:Nat}:WkC (.v (.pointer none)) (.slf b):=fun H us h=>by
 simp only [RepC] at h ⊢;exact .inl h
def v5 {k:Nat}{α:Type}{xs ys zs:List α}(h:app k xs ys=some zs):xs++ys=zs:=(sF h).1.symm
def mW (x:Int):Bool:=decide (0≤x) && decide (x<256)
def zA {x:Int}(h:mW x=true):D.v (.int .u8 x)=dW x.toNat.toUInt8:=by
 simp only [mW,aR,bJ] at h;have:((x.toNat.toUInt8).toNat:Int)=x:=by rw [show (x.toNat.toUInt8).toNat=x.toNat%256 from UInt8.toNat_ofNat'];omega
 unfold dW;rw [this]
section
variable {P:aJ}{C:Ctx}{N:Nat}{ops rest:List bG}{o:bG}{t:List (Nat × D)}{h:List (Nat × Blk)}{k:List (Nat × ω)}{Q:dH→S→Prop}{tab:List (Option TI)}
def q6 {i r bb:Nat}{T T' e:aD}{x y:aH}{l:List aC}{ys:List D}{zs:List aC}{z:Z3}{f c ie:TI}(j:Nat)(hT:bO P tab)(ho:o.op=.call ⟨.builtin .append,[x,y].toArray,#[T,T']⟩)(hw:bC ops t o=some true)(hd:o.dst=some i)(hi:aZ i N=true)
  (hx:cS t x=some (.v (SL z))) (hj:h[j]? = some (r,.opq (c8 e l z)))
  (m:∀ H a w,Core C H h k w→TOK H t a→(zi (a.eval y)).run P w=.ok ys.length w∧∀ w',(∀ b,b<w.heap.size→w'.heap[b]? = w.heap[b]?)→∃ us:List ω,us.length=ys.length*1∧FlatR H 1 ys us∧(bW 1 ys.length (a.eval y)).run P w'=.ok us.toArray w')
  (n:ti tab T=some f) (q:f.d=.slice e) (u:ti tab T'=some c) (A:c.d=.slice e∨c.d=.str) (hie:ti tab e=some ie) (hks:ie.size=1) (hbb:ie.bytes=bb) (hz:ie.zero.length=1) (B:cK 1 bb=true) (hbound:(l.length+ys.length)*bb≤140737488355328) (em:l.map dW++ys=zs.map dW)
  (g:∀ z':Z3,a1 P C N ops rest ⟨(i,.v (SL z'))::t,h.set j (0,.opq (c8 e zs z')),k⟩ Q):a1 P C N ops (o::rest) ⟨t,h,k⟩ Q:=
 ko (s:=⟨t,h,k⟩) hw hd hi fun H a w core kt=>by
  obtain ⟨F,G⟩:=m H a w core kt;have c1:Core C H ([(r,.opq (c8 e l z))]++h.eraseIdx j) ([]++k) w:=core.perm (KO hj) (aM _);have hbl:(c8 e l z).Q H w:=core.blks _ (a4 hj);obtain ⟨z',w',h1,hty,h2⟩:=LO (P:=P) (ty:=o.type) (v1:=SL z) (v2:=a.eval y) (r:=0) hT core.ag hbl.1 (fun b hb=>c1.lt b (by
   have:=(y0 [(r,Blk.opq (c8 e l z))] (h.eraseIdx j) [] k).mem_iff (a:=b);exact this.2 (cF _ (by simpa [K4,eQ,c8] using hb)))) F G n q u A hie hks hbb hz (bS B) (by rw [b6];exact hbound)
  have hM:K4 [(r,Blk.opq (c8 e l z))] []=K4 [(0,Blk.row 1 (l.map dW) (SL z))] []:=rfl;rw [← hM,em] at h2;have I:Core ⟨H,w,K4 [(r,Blk.opq (c8 e l z))] []⟩ H [(0,.opq (c8 e zs z'))] [] w':=h2.swap rfl fun p hp=>by
   simp only [aT] at hp;subst hp;exact ⟨h2.blks _ (by simp),hty hbl.2⟩
  have c2:=Core.call c1 I;refine ⟨SL z',w',H,.v (SL z'),h.set j (0,.opq (c8 e zs z')),k,sI (s:=dZ) ho (fun _ _=>rfl) ?_,Hp.le_refl H,c2.perm (B3 hj) (aM _),dA rfl,g z'⟩;have J:=eW (eh kt hx);simpa [J] using h1
def Bc {i r bb:Nat}{T T' e:aD}{x y:aH}{l zs:List aC}{ys:List D}{c':Cap}{z:Z3}{b c ie:TI}(j:Nat)(hT:bO P tab)(ho:o.op=.call ⟨.builtin .append,[x,y].toArray,#[T,T']⟩)(hw:bC ops t o=some true)(hd:o.dst=some i)(hi:aZ i N=true)
  (hx:cS t x=some (.v (SL z))) (hj:h[j]? = some (r,.opq (c8 e l z))) (hy:cS t y=some (.lst 1 ys c'))
  (m:ti tab T=some b) (n:b.d=.slice e) (p:ti tab T'=some c) (q:c.d=.slice e) (hie:ti tab e=some ie) (hks:ie.size=1) (hbb:ie.bytes=bb) (hz:ie.zero.length=1) (s:cK 1 bb=true) (hbound:(l.length+ys.length)*bb≤140737488355328) (em:l.map dW++ys=zs.map dW)
  (g:∀ z':Z3,a1 P C N ops rest ⟨(i,.v (SL z'))::t,h.set j (0,.opq (c8 e zs z')),k⟩ Q):a1 P C N ops (o::rest) ⟨t,h,k⟩ Q:=
 q6 j hT ho hw hd hi hx hj (fun H a w core kt=>by
  have hry:=eh kt hy;obtain ⟨u,m2,ey⟩:=Cj hry;refine ⟨by rw [ey];rfl,fun A f=>Hj ⟨fun a' v e'=>?_,core.ag.gg.step (Hp.le_refl H) (f _ core.ag.gg.lt)⟩ hry⟩;have:=core.ag a' v e';have hlt:=core.ag.lt e';unfold aO at this ⊢;rw [f _ hlt];exact this) m n p (.inl q) hie hks hbb hz s hbound em g
def nR {H:Hp}:∀ l:List aC,FlatR H 1 (l.map dW) (l.map fun b=>g7 .u8 b.toNat)
 | []=>rfl
 | b::l=>⟨[.int .u8 b.toNat],l.map fun b=>g7 .u8 b.toNat,rfl,rfl,⟨by simp [dW,RepC],by simp [one]⟩,nR l⟩
def uE {i r bb:Nat}{T T' e:aD}{x y:aH}{l zs:List aC}{s:η}{z:Z3}{b c ie:TI}(j:Nat)(hT:bO P tab)(ho:o.op=.call ⟨.builtin .append,[x,y].toArray,#[T,T']⟩)(hw:bC ops t o=some true)(hd:o.dst=some i)(hi:aZ i N=true)
  (hx:cS t x=some (.v (SL z))) (hj:h[j]? = some (r,.opq (c8 e l z))) (hy:cS t y=some (.v (.string s)))
  (f:ti tab T=some b) (m:b.d=.slice e) (n:ti tab T'=some c) (p:c.d=.str) (hie:ti tab e=some ie) (hks:ie.size=1) (hbb:ie.bytes=bb) (hz:ie.zero.length=1) (q:cK 1 bb=true) (hbound:(l.length+s.data.toList.length)*bb≤140737488355328) (em:l++s.data.toList=zs)
  (g:∀ z':Z3,a1 P C N ops rest ⟨(i,.v (SL z'))::t,h.set j (0,.opq (c8 e zs z')),k⟩ Q):a1 P C N ops (o::rest) ⟨t,h,k⟩ Q:=
 q6 (ys:=s.data.toList.map dW) j hT ho hw hd hi hx hj (fun H a w core kt=>by
  have u:=eW (eh kt hy);have hs:(s.data.toList.map dW).length=s.size:=by rw [b6,b9];rfl
  rw [u,hs];refine ⟨rfl,fun w' _=>⟨Lib.strCells s,by rw [Lib.strCells_length];omega,nR _,Lib.run_firstCells_string w' 1 s⟩⟩) f m n (.inr p) hie hks hbb hz q (by rw [b6];exact hbound) (by rw [← em,List.map_append]) g
def uG {i:Nat}{T:aD}{d:TI}{zs:List D}(ht:bO P tab)(ho:o.op=.alloc T)(hw:bC ops t o=some true)(hd:o.dst=some i)(hi:aZ i N=true)(hT:ti tab T=some d)(hz:d.zero.all one=true)(e:d.zero.map D.v=zs)
  (g:∀ b,a1 P C N ops rest ⟨(i,.ptr b 0)::t,h++[(b,.cells zs T)],k⟩ Q):a1 P C N ops (o::rest) ⟨t,h,k⟩ Q:=by
 refine ko (s:=⟨t,h,k⟩) hw hd hi fun H a w c kt=>?_;obtain ⟨z,h1,h2⟩:=wZ (w:=w) (b4 ht hT);have hr:Reps H zs z.cells.toList:=by
  rw [h2,← e];rw [bY] at hz;revert hz;generalize d.zero=l;intro hz;induction l with
  | nil=>simp [Reps]
  |
   cons u l ih=>
   simp only [a7,Reps];exact ⟨u,l,rfl,⟨by simp [RepC],hz u (by simp),rfl⟩,ih (fun x hx=>hz x (by simp [hx]))⟩
 refine ⟨.pointer (some ⟨w.heap.size,0,none⟩),_,H,.ptr w.heap.size 0,_,k,?_,Hp.le_refl H,c.alloc T hr,j6 (by simp [RepC]) rfl rfl,g w.heap.size⟩;unfold bL;rw [ho];refine iC ?_;unfold Instr.alloc;rw [KL h1];simp only [];rw [KL Hl];simp;first|done|rfl
def uD {i:Nat}{T:aD}{ps:Array (Nat×aH)}{a:TI}{fs:List (Nat×Nat)}{r:List D}(hT:bO P tab)(ho:o.op=.build T ps)(hw:bC ops t o=some true)(hd:o.dst=some i)(hi:aZ i N=true)
 (hti:ti tab T=some a) (hfs:a.d=.struct fs) (hall:fs.all (fun f=>(ti tab f.1).isSome)=true) (hz:a.zero.all one=true) (e:oz tab fs t ps.toList (a.zero.map D.v)=some r)
 (g:a1 P C N ops rest ⟨(i,.agg r)::t,h,k⟩ Q):a1 P C N ops (o::rest) ⟨t,h,k⟩ Q:=mH (s:=⟨t,h,k⟩) hw hd hi (mO (fun _ _=>⟨by simp [RepC],rfl⟩) hT ho hti hfs hall hz e) g
def uR {b' off:Nat}{ds:List D}{T':aD}(e:aD)(j:Nat)(hb:h[j]? = some (b',.cells ds T'))(hd:ds[off]? = some (.v (.slice none 0 0)))(g:a1 P C N ops rest ⟨t,(0,.opq (c8 e [] (none,0,0)))::h,k⟩ Q):a1 P C N ops rest ⟨t,h,k⟩ Q:=fun a w ⟨H,c,kt,hn,hd'⟩=>by
 refine g a w ⟨H,c.swap rfl ?_,kt,hn,hd'⟩;intro p hp;rcases cX.1 hp with rfl|hp
 ·exact ⟨.inl ⟨none,rfl,rfl⟩,fun a n m q=>by cases q⟩
 exact c.blks _ hp
end
end
section
open Go Go.RowKit
set_option maxHeartbeats 4000000
set_option maxRecDepth 100000
structure Kal where
 gz:List aC
structure Ky where
 gB:Kal
 gD:Int
abbrev Gl (a:Ky)(b:Nat)(z:Z3):List (Nat×Blk):=[(b,Blk.cells [.slf b,.v (SL z),.v (.int .i64 a.gD)] 111),(0,Blk.opq (c8 5 a.gB.gz z))]
def qZ {H:Hp}{w:aL}{h:List (Nat×Blk)}{k:List (Nat×ω)}(hA:Ag H w)(hb:∀ p∈h,BlkOK H w p)(ht:∀ p∈k,TokOK H w p)(hnd:(K4 h k).Nodup):Core ⟨H,w,K4 h k⟩ H h k w:=
 ⟨hA,Hp.le_refl H,fun _ _ x=>.inl x,fun _ _ _=>rfl,Φ _,hb,ht,hnd,fun b hb=>.inl hb,Env.refl w⟩
def zJ {H:Hp}{d0 d e:D}{us:List ω}(h:Reps H [d0,d,e] us):∃ a b c,us=[a,b,c]∧(RepC H d0 [a]∧one a=true∧d0.flat=true)∧(RepC H d [b]∧one b=true∧d.flat=true)∧(RepC H e [c]∧one c=true∧e.flat=true):=by
 simp only [Reps] at h;obtain ⟨a,_,rfl,f,b,_,rfl,h1,c,_,rfl,h2,rfl⟩:=h;exact ⟨a,b,c,rfl,f,h1,h2⟩
def q0 (b a z):Cd 55 [.ptr a 0] (Gl b a z) [] (fun d h k=>d=.tup []∧h=Gl b a z∧k=[]):=by
 refine ⟨⟨_,Tryz.func55,rfl,rfl⟩,fun H w vs hv hA hb ht hnd=>?_⟩;simp only [RepsV] at hv;obtain ⟨u,us,rfl,hu,rfl⟩:=hv;have:=s8 hu;subst this;have c:=qZ hA hb ht hnd;obtain ⟨us,h1,h2,o⟩:=hb _ (fV ..);obtain ⟨p,f,g,rfl,l,m,n⟩:=zJ h2;have htup:Rep H (.tup []) (.tuple #[]):=⟨⟨[],rfl,rfl⟩,rfl⟩;have q:=l.1;simp only [RepC,fW,and_true] at q;rcases q with rfl|rfl;refine (pU a w (by simp [aO,h1]) (by simp [World.shape?,h1]) (by simp [jp,h1])).mono fun e w' ⟨he,hw⟩=>?_;subst hw;refine ⟨_,H,.tup [],_,[],he,htup,?_,rfl,rfl,rfl⟩;have:=c.write (w':=w.setCell ⟨a,0,none⟩ (.pointer (some ⟨a,0,none⟩))) (j:=0) (us':=[.pointer (some ⟨a,0,none⟩),f,g]) (ds':=[.slf a,.v (SL z),.v (.int .i64 b.gD)]) rfl ⟨rfl,rfl,rfl,Φ _⟩ IK (fun i hi=>by rw [heap_set,aF (fun q=>hi q.symm)]) (by rw [heap_set,aQ rfl,h1];rfl)
  ⟨_,_,rfl,⟨by simp [RepC],rfl,rfl⟩,_,_,rfl,m,_,_,rfl,n,rfl⟩
 exact this;refine (LN a w (by simp [aO,h1])).mono fun e w' ⟨he,hw⟩=>?_;subst hw;exact ⟨_,H,.tup [],_,[],he,htup,c,rfl,rfl,rfl⟩
def OZ (b g cap:Nat)(a c:ω)(cs:Array ω)(l:List aC)(w:aL)(d:l≠[])(hbk:w.heap[b]? = some (.cells #[a,.slice (some ⟨g,0,none⟩) l.length cap,c] 111 (0,0)))(hbg:w.heap[g]? = some (.cells cs 5 (0,0)))(hcap:l.length≤cap)(hlen:l.length≤cs.size)(hmax:l.length≤9223372036854775807)(hcell:∀ (j:Nat) x,l[j]? = some x→w.cell? ⟨g,j,none⟩=some (.int .u8 x.toNat)) :
  Calls Tryz.prog 27 #[.pointer (some ⟨b,0,none⟩)] w fun e w'=>e=.returned (.string ⟨l.toArray⟩)∧w'=w.drew.freeze ⟨g,0,none⟩ l.length:=by
 have f:l.length≠0:=by simpa using d
 have c1:w.drew.cell? ⟨b,1,none⟩=some (.slice (some ⟨g,0,none⟩) l.length cap):=by have:w.drew.heap[b]? = some (.cells #[a,.slice (some ⟨g,0,none⟩) l.length cap,c] 111 (0,0)):=hbk;rw [Lib.cell_of_heap this];rfl
 have hSD:(Builtin.unsafeSliceData_ #[32] 116 #[.slice (some ⟨g,0,none⟩) l.length cap]).run Tryz.prog w.drew=.ok (.pointer (some ⟨g,0,none⟩)) w.drew:=
  Lib.run_unsafeSliceData_row _ _ _ _ _ _ (by omega)
 have hUS:(Builtin.unsafeString_ #[116,3] 9 #[.pointer (some ⟨g,0,none⟩),.int .i64 l.length]).run Tryz.prog w.drew=.ok (.string ⟨l.toArray⟩) (w.drew.freeze ⟨g,0,none⟩ l.length):=
  Lib.run_unsafeString_row w.drew 116 3 9 5 (by kernel_rfl) (by kernel_rfl) g cs.size (by have hg':w.drew.heap[g]? = some (.cells cs 5 (0,0)):=hbg;simp [World.shape?,hg']) l d (by omega) (by omega) (fun j x hx=>by have:=hcell j x hx;simp only [Addr.add_lit,cH];exact this)
 go_enter Tryz.func27,Tryz.ntmps27;go_wp2;go_region;all_goals (go_wp2;go_ret;exact ⟨rfl,rfl⟩)
def xw (m:Ky):η×Ky:=(⟨m.gB.gz.toArray⟩,m)
def mY (m:Ky):Bool:=!m.gB.gz.isEmpty && decide (m.gB.gz.length≤9223372036854775807)
def Jl {H:Hp}:∀ {l:List aC} {us:List ω},FlatR H 1 (l.map dW) us→us=l.map fun b=>g7 .u8 b.toNat
 | [],us,h=>h
 |
  b::l,us,h=>by
  obtain ⟨a,c,rfl,hl,⟨hr,_⟩,h2⟩:=h;simp only [dW,RepC] at hr;subst hr;rw [Jl h2];rfl
def xv (c d z)(i:mY c=true):Cd 27 [.ptr d 0] (Gl c d z) [] (eN (.v (.string (xw c).1)) d [.slf d,.any,.v (.int .i64 (xw c).2.gD)] 111):=by
 refine ⟨⟨_,Tryz.func27,rfl,rfl⟩,fun H w vs hv hA hb ht hnd=>?_⟩;simp only [mY,aR,Bool.not_eq_true',List.isEmpty_eq_false_iff,bJ] at i;simp only [RepsV] at hv;obtain ⟨u,us,rfl,hu,rfl⟩:=hv;have:=s8 hu;subst this;obtain ⟨us,h1,h2,s⟩:=hb _ (fV ..);obtain ⟨l,G,o,rfl,t,y,A⟩:=zJ h2;have q:=y.1;simp only [RepC,fW,and_true] at q;subst q;have hq:(c8 5 c.gB.gz z).Q H w:=hb _ (List.mem_cons_of_mem _ (fV ..));obtain ⟨hrow,hty⟩:=hq;rcases hrow with ⟨a,_,e⟩|⟨g,m,us,rest,T,e,r,B,k1,k2,I,J⟩;exact bH (by simpa using e) i.1;obtain ⟨_,cs,hcs⟩:=hty _ _ _ e;rw [k1] at hcs;simp only [aA,mC,and_true] at hcs;obtain ⟨hcs,rfl⟩:=hcs;rw [b6] at e r;have hus:=Jl k2;rw [e] at h1;have hM:K4 (Gl c d z) []=[d,g]:=by
  have:ii (SL z)=[g]:=by rw [e];simp [ii,B]
  simp [K4,eQ,c8,this]
 rw [hM] at hnd;have hne:d≠g:=by simpa using hnd
 refine (OZ d g m l o _ c.gB.gz w i.1 h1 k1 r (by rw [← b6 (f:=fun b:aC=>g7 .u8 b.toNat),← hus];simp) i.2 (fun j x hx=>?_)).mono fun e' w' ⟨he,hw⟩=>?_;have:us[j]? = some (.int .u8 x.toNat):=by rw [hus];simp [hx]
 simp only [aO,k1,lG,cP,bE,cR];rw [cI (aP.1 this).1];exact this;subst hw;obtain ⟨f1,C⟩:=Jn w.drew ⟨g,0,none⟩ c.gB.gz.length;have hdr:∀ k,k≠g→(w.drew.freeze ⟨g,0,none⟩ c.gB.gz.length).heap[k]? = w.heap[k]?:=fun k hk=>by rcases Kgm (w:=w.drew) (a:=⟨g,0,none⟩) (n:=c.gB.gz.length) (k:=k) with h|⟨h,_⟩;rw [h];rfl;exact bH h.symm (by simpa using hk)
 rw [hM];refine ⟨_,H,_,_,[],he,dA rfl,⟨⟨fun a v F=>by rw [Jw];exact hA a v F,Jh (hA.gg.step (Hp.le_refl H) rfl)⟩,Hp.le_refl H,fun _ _ x=>.inl x,fun k _ hk=>hdr k (fun q=>hk (by simp [q])),by rw [C];exact Φ _,?_,by simp,by simp [K4,eQ],by simp [K4,eQ],Env.trans (b:=w.drew) ⟨rfl,rfl,rfl,Φ _⟩ f1⟩,rfl,rfl,rfl⟩;intro p hp;simp only [aT] at hp;subst hp;exact ⟨[l,.slice (some ⟨g,0,none⟩) c.gB.gz.length m,o],by rw [hdr _ hne];exact h1,⟨_,_,rfl,t,_,_,rfl,⟨by simp [RepC],rfl,rfl⟩,_,_,rfl,A,rfl⟩,s⟩
end
end Go.Proofs.YticifeeokcgfkaaGreatDoor.Ab