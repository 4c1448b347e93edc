/- The texts that storePrintsCard_holds leans on, part 5. -/
import Derived.Test.YtbbeiinofainlaaGreatDoorVg94
set_option linter.all false
set_option maxRecDepth 100000
set_option maxHeartbeats 80000000
noncomputable section
namespace Go.Proofs.YtbbeiinofainlaaGreatDoor.Ab
section
open Go
set_option maxRecDepth 100000
def KdN (a0:Int):Option (Int):=
 (Option.bind (α:=Bool) (bif (a0==(32:Int)) then some true else (bif (a0==(9:Int)) then some true else (bif (a0==(10:Int)) then some true else some (a0==(13:Int))))) fun a=>(bif a then some (1:Int) else (Option.bind (α:=Bool) (bif (decide ((97:Int)≤a0)) then (bif (decide (a0≤(122:Int))) then some true else (bif (decide ((65:Int)≤a0)) then (bif (decide (a0≤(90:Int))) then some true else some (a0==(95:Int))) else some (a0==(95:Int)))) else (bif (decide ((65:Int)≤a0)) then (bif (decide (a0≤(90:Int))) then some true else some (a0==(95:Int))) else some (a0==(95:Int)))) fun b=>(bif b then some (2:Int) else (bif (decide ((48:Int)≤a0)) then (bif (decide (a0≤(57:Int))) then some (3:Int) else some (0:Int)) else some (0:Int))))))
theorem XT {A0 G:Prop}(a0:A0)(k:A0→G:=by intro _a;refine Yp ?_;refine Yj ?_;exact Z2 _a):G:=k a0
theorem Kjw (a0 r)(h0:KdN a0=some r):CallsD Tryz.prog 92 [.v (.int .i32 a0)] [] [] (fun d h k=>d=iD r∧h=[]∧k=[]):=by
 refine PZ1 h0 Tryz.func92 fun C a=>?_;refine Zn ?_;refine KJ ?_;refine ZA a fun u p q=>?_;refine Kaf (Y:=Unit) (fun w=>(⟨[(0,.v (.int .i32 a0)),(3,.v (.bool u))],[],[]⟩:S)) ?_ ?_
 ·clear a;have a:=KE p;refine ZW ?_
  refine KaH (i:=6) rfl (fun b=>?_) (fun b=>?_)
  ·replace a:=yes_t b a;refine Yp ?_;refine Yj ?_;refine Yp ?_;refine Yj ?_;exact XT a
  replace a:=yes_f b a;refine Zl ?_;refine Z5 ?_;refine KaH (i:=10) rfl (fun c=>?_) (fun c=>?_)
  ·replace a:=yes_t c a;refine Yp ?_;refine Yj ?_;exact XT a
  replace a:=yes_f c a;refine Zl ?_;refine Z5 ?_;refine KaH (i:=14) rfl (fun e=>?_) (fun e=>?_)
  ·replace a:=yes_t e a;exact XT a
  replace a:=yes_f e a;refine Zl ?_;refine Z5 ?_;exact Z2 a
 intro B x;have a:=q;clear p q;refine Zb x fun w=>?_;refine cY a (fun a=>?_) fun a=>?_
 ·exact Xe a
 refine ZA a fun y s t=>?_;refine Kaf (Y:=Unit) (fun z=>(⟨[(0,.v (.int .i32 a0)),(18,.v (.bool y))],[],[]⟩:S)) ?_ ?_
 ·clear a;have a:=KE s;refine ZW ?_
  refine KaH (i:=21) rfl (fun f=>?_) (fun f=>?_)
  ·replace a:=yes_t f a;refine Zl ?_;refine Yj ?_;refine KaH (i:=25) rfl (fun g=>?_) (fun g=>?_)
   ·replace a:=yes_t g a;iterate 6 refine pK ?_
    refine Yj ?_;exact XT a
   replace a:=yes_f g a;iterate 3 refine pu ?_
   refine KaH (i:=28) rfl (fun j=>?_) (fun j=>?_)
   ·replace a:=yes_t j a;refine Zl ?_;refine ZB ?_;refine Z5 ?_;refine KaH (i:=33) rfl (fun l=>?_) (fun l=>?_)
    ·replace a:=yes_t l a;exact XT a
    replace a:=yes_f l a;refine Zl ?_;refine Z5 ?_;exact Z2 a
   replace a:=yes_f j a;refine Yp ?_;refine ZE ?_;refine ZE ?_;iterate 3 refine pu ?_
   refine Z5 ?_;exact Z2 a
  replace a:=yes_f f a;refine Yp ?_;refine ZE ?_;iterate 4 refine pu ?_
  refine KaH (i:=28) rfl (fun m=>?_) (fun m=>?_)
  ·replace a:=yes_t m a;refine Zl ?_;refine ZB ?_;refine Z5 ?_;refine KaH (i:=33) rfl (fun n=>?_) (fun n=>?_)
   ·replace a:=yes_t n a;exact XT a
   replace a:=yes_f n a;refine Zl ?_;refine Z5 ?_;exact Z2 a
  replace a:=yes_f m a;refine Yp ?_;refine ZE ?_;refine ZE ?_;iterate 3 refine pu ?_
  refine Z5 ?_;exact Z2 a
 intro D A;have a:=t;clear s t;refine Zb A fun z=>?_;refine cY a (fun a=>?_) fun a=>?_
 ·refine Yg ?_;exact XI a
 refine ZS ?_
 refine KaH (i:=40) rfl (fun o=>?_) (fun o=>?_)
 ·replace a:=yes_t o a;refine Zl ?_;refine ZB ?_;refine Zv ?_;refine cY a (fun a=>?_) fun a=>?_
  ·refine Yg ?_;obtain rfl:=Kf a;refine rP (t':=[(2,iD (3:Int))]) [] [] 0 (wC wN) (lT lN) ?_;exact Za
  refine ZK ?_;refine ZY ?_;exact XJ a
 replace a:=yes_f o a;refine Yp ?_;refine ZE ?_;refine Zv ?_;refine KdS rfl ?_;refine ZK ?_;refine ZY ?_;exact XJ a
structure KB where
 gt:Int
 gr:ByteArray
 gN:Int
 gb:Int
abbrev CZ5 (x:KB):List D:=[iD x.gt,tD x.gr,iD x.gN,iD x.gb]
def Kl (x:KB):D:=.agg (CZ5 x)
structure K4 where
 gB:List UInt8
 gb:Int
 gL:List KB
abbrev nlVg1_1:List (List Nat):=nlD [] [(0,[]),(0,[0]),(2,[1]),(3,[2]),(0,[]),(0,[4]),(6,[5]),(7,[6]),(0,[]),(8,[7,8]),(4,[3,4,5,6,7,8,9]),(11,[10]),(12,[11]),(13,[12]),(14,[13])]
def KbR (b:K4)(d:Bool):Option (Int):=
 (Option.bind (α:=Int) (loopM (fun (a:Int)=>(bif (decide ((IntKind.i64.wrap (b.gb+a)) < (b.gB.length:Int))) then ((idx b.gB (IntKind.i64.wrap (b.gb+a))).bind fun e=>((KdN (IntKind.i32.wrap (e.toNat:Int))).bind fun c=>(bif (c != (3:Int)) then (bif (c != (2:Int)) then some (.done a) else (bif (!d) then some (.done a) else some (.next (IntKind.i64.wrap (a+(1:Int)))))) else some (.next (IntKind.i64.wrap (a+(1:Int))))))) else some (.done a))) (0:Int)) fun f=>some f)
theorem Y0 {A0 G:Prop}(a0:A0)(k:A0→G:=by intro _a;refine KM ?_;refine Kan ?_;obtain rfl:=Kf _a;refine ⟨rfl,?_⟩;exact wO (wP (wC wN))):G:=k a0
theorem Xm {R G:Prop}(h:R)(k:R→G:=by intro h;(iterate 3 refine zep ?_);refine Xz ?_;(iterate 3 refine zep ?_);refine Xk ?_;exact h):G:=k h
theorem Xa {A0 R G:Prop}(a0:A0)(h:R)(k:A0→R→G:=by intro _a h;refine KK ?_;refine Kc ⟨_,Kaw _a,?_⟩;exact h):G:=k a0 h
theorem W6 {R G:Prop}(h:R)(k:R→G:=by intro h;(iterate 3 refine zep ?_);refine Xz ?_;refine X7 ?_;refine ZC ?_;refine Zv ?_;exact h):G:=k h
abbrev CZ6 (x:K4)(c0 c1:Cap):List D:=[.lst 1 (x.gB.map byteD) c0,iD x.gb,.lst 4 (x.gL.map Kl) c1]
theorem KdO (c j b e f g r)(h0:KbR c j=some r):CallsD Tryz.prog 106 [.ptr b 0,.v (.bool j)] [(b,Blk.cells (CZ6 c f g) e)] [] (fun d h k=>d=iD r∧h=[(b,Blk.cells (CZ6 c f g) e)]∧k=[]):=by
 refine PZ1 h0 Tryz.func106 fun C a=>?_;refine Zd ?_;refine KH ?_;refine Zz ?_;obtain ⟨o,p,q⟩:=Ka a;refine Kaf (Y:=Unit) (fun t=>(⟨[(5,iD o)],[(b,Blk.cells (CZ6 c f g) e)],[]⟩:S)) ?_ ?_
 ·clear a;have a:=KE p;refine Zy a fun E u l=>?_;refine KaO (Y:=Unit) u (fun s w=>(⟨[(0,.ptr b 0),(1,.v (.bool j)),(5,iD s)],[(b,Blk.cells (CZ6 c f g) e)],[]⟩:S)) ?_ ?_
  ·skip
   exact Y2
  intro G24 s w a;refine Km ?_;refine Km ?_;refine Kaj 11 [] [[],[0],[0,1],[0,1,2],[],[0,1,2],[],[6],[6,7],[6,7,8],[6,7,8,9]] [0,1,2,6,7,8,9] [[],[0],[0,1],[0,1,2],[],[0,1,2,3,4],[],[6],[6,7],[6,7,8],[6,7,8,9],[0,1,2,3,4,5,6,7,8,9,10]] (by kernel_rfl) (by kernel_rfl) (by kernel_rfl) (by rfl) (by rfl) (by kernel_rfl) ?_;iterate 7 apply Exists.intro
  intro bs;iterate 3 refine zep ?_
  refine Xk ?_;refine Yb ?_;refine W6 ?_
  refine cY a (fun a=>?_) fun a=>?_
  ·refine Zm ?_;refine KJ ?_;refine Km ?_;refine Kaj 10 [] [[],[0],[0,1],[0,1,2],[],[4],[4,5],[4,5,6],[],[4,5,6]] [0,1,2,3,4,5,6] nlVg1_1 (by kernel_rfl) (by kernel_rfl) (by kernel_rfl) (by rfl) (by rfl) (by kernel_rfl) ?_;iterate 7 apply Exists.intro
   intro bs;refine Xm ?_
   refine Yb ?_;refine ZC ?_;refine ZX a fun y F a=>?_;refine YU ?_;refine pu ?_;obtain ⟨z,A,a⟩:=Ka a;refine K5 (Kjw (IntKind.i32.wrap (y.toNat:Int)) z A) rfl rfl rfl rfl rfl Wl ?_;rintro _ rfl;refine Zz ?_;refine ZS ?_
   refine KaH (i:=35) rfl (fun m=>?_) (fun m=>?_)
   ·replace a:=yes_t m a;iterate 3 refine pu ?_
    refine KaH (i:=38) rfl (fun n=>?_) (fun n=>?_)
    ·replace a:=yes_t n a;refine Yp ?_;refine ZB ?_;refine ZB ?_;refine Kb ?_;refine wpD_true rfl ?_;refine Zs ?_;refine Kgd rfl ?_;obtain rfl:=K6 a;have a:=l
     exact Y0 a
    replace a:=yes_f n a;refine Zl ?_;refine ZE ?_;refine ZB ?_;refine Kb ?_;refine cY a (fun a=>?_) fun a=>?_
    ·refine Zs ?_;refine Kgd rfl ?_;obtain rfl:=K6 a;have a:=l
     exact Y0 a
    refine Zm ?_;refine ZW ?_
    refine KC ?_;refine Xa a ?_;exact Y2
   replace a:=yes_f m a;iterate 6 refine pK ?_
   refine ZE ?_;refine Kb ?_;refine KdS rfl ?_;refine Zm ?_;refine ZW ?_
   refine KC ?_;refine Xa a ?_;exact Y2
  refine Zs ?_;obtain rfl:=K6 a;have a:=l
  exact Y0 a
 intro H B;have a:=q;clear p q;refine Zb B fun t=>?_;refine Yz ?_;obtain rfl:=Kf a;refine rP (t':=[(4,iD o)]) [0] [] 1 (wC wN) (lT lN) ?_;exact Za
def Kcs (a0:List ByteArray)(b:ByteArray):Option (Int):=
 (Option.bind (α:=(Unit)⊕(Int)) (loopM (fun (a:Int)=>(bif (decide (a < (a0.length:Int))) then ((idx a0 a).bind fun c=>(bif (decide (b=c)) then some (.done (.inr a)) else some (.next (IntKind.i64.wrap (a+(1:Int)))))) else some (.done (.inl ())))) (0:Int)) (Sum.elim (fun d=>some (-1:Int)) (fun r=>some r)))
theorem Wb {R G:Prop}(h:R)(k:R→G:=by intro h;refine Z0 ?_;refine ZM ?_;refine Yt ?_;exact h):G:=k h
theorem Kgt (a0 b r)(h0:Kcs a0 b=some r):CallsD Tryz.prog 124 [.lst 1 (a0.map eStr) .no,tD b] [] [] (fun d h k=>d=iD r∧h=[]∧k=[]):=by
 refine PZ1 h0 Tryz.func124 fun C a=>?_;refine Zn ?_;refine Zd ?_;refine ZF ?_;obtain ⟨i,e,c⟩:=Ka a;refine KaG (τ:=Unit) (Y:=Unit) (fun j l=>(⟨[],[],[]⟩:S)) i ?_ ?_
 ·clear a;have a:=KE e;refine Zy a fun q m f=>?_;refine KaO (Y:=Unit) m (fun g n=>(⟨[(0,.lst 1 (a0.map eStr) .no),(1,tD b),(7,iD (a0.length:Int)),(8,iD g)],[],[]⟩:S)) ?_ ?_
  ·skip
   exact ZI
  intro G15 g n a;refine Zn ?_;refine cY a (fun a=>?_) fun a=>?_
  ·refine Wb ?_
   refine ZX a fun s t a=>?_;refine YU ?_;refine Zv ?_;refine cY a (fun a=>?_) fun a=>?_
   ·refine Zd ?_;refine ZT ?_;obtain rfl:=K6 a;have a:=f
    refine ZQ ?_;obtain rfl:=Kf a;refine Ka4 ?_;have a:=c;refine Z1 a fun a=>?_
    obtain rfl:=Kf a;exact XZ
   exact Xt a
  refine Zs ?_;obtain rfl:=K6 a;have a:=f
  exact Yn a
 intro j u o p;subst o;have a:=c;refine Zj a fun a=>?_;clear e c;refine Zb p fun l=>?_;refine ZY ?_;obtain rfl:=Kf a;refine rP (t':=[(4,iD (-1:Int))]) [] [] 0 (wC wN) (lT lN) ?_;exact Za
def KaS (a0:List ByteArray)(a:ByteArray):Option (Bool):=
 ((Kcs a0 a).bind fun b=>some (decide ((0:Int)≤b)))
theorem Kd4 (a0 a r)(h0:KaS a0 a=some r):CallsD Tryz.prog 108 [.lst 1 (a0.map eStr) .no,tD a] [] [] (fun d h k=>d=.v (.bool r)∧h=[]∧k=[]):=by
 refine PZ1 h0 Tryz.func108 fun C b=>?_;refine Zd ?_;refine ZV ?_;obtain ⟨c,e,b⟩:=Ka b;refine K5 (Kgt a0 a c e) rfl rfl rfl rfl rfl Wl ?_;rintro _ rfl;refine Z8 ?_;obtain rfl:=Kf b;refine rP (t':=[(4,.v (.bool (decide ((0:Int)≤c))))]) [] [] 0 (wC wN) (lT lN) ?_;exact Za
abbrev qZ5:List ByteArray:=[(ByteArray.mk #[105,110,116]),(ByteArray.mk #[105,102]),(ByteArray.mk #[101,108,115,101]),(ByteArray.mk #[119,104,105,108,101]),(ByteArray.mk #[114,101,116,117,114,110]),(ByteArray.mk #[97,115,115,101,114,116]),(ByteArray.mk #[105,110,112,117,116]),(ByteArray.mk #[110,117,108,108])]
def Kdv (a0:ByteArray):Option (Bool):=
 ((KaS qZ5 a0).bind fun a=>some a)
theorem KlN (a0 r)(h0:Kdv a0=some r):CallsD Tryz.prog 107 [tD a0] [] [] (fun d h k=>d=.v (.bool r)∧h=[]∧k=[]):=by
 refine PZ1 h0 Tryz.func107 fun C a=>?_;refine Zd ?_;refine KH ?_;refine ZJ ?_
 refine p_eq (i:=3) (d':=.lst 1 (qZ5.map eStr) .full) rfl (Wk.lst0 (.cons (WkC.refl _) (.cons (WkC.refl _) (.cons (WkC.refl _) (.cons (WkC.refl _) (.cons (WkC.refl _) (.cons (WkC.refl _) (.cons (WkC.refl _) (.cons (WkC.refl _) (.nil)))))))))) ?_;refine pu ?_;obtain ⟨b,c,a⟩:=Ka a
 refine K5 (Kd4 qZ5 a0 b c) rfl rfl rfl rfl rfl (WkL.cons (Wk.no) (WkL.cons (Wk.refl _) Wl)) ?_;rintro _ rfl;refine Zu ?_;obtain rfl:=Kf a;refine rP (t':=[(2,.v (.bool b))]) [] [] 0 (wC wN) (lT lN) ?_;exact Za
abbrev nlVg1_2:List (List Nat):=nlD [] [(0,[]),(0,[]),(0,[1]),(3,[2]),(4,[3]),(0,[]),(0,[]),(0,[6]),(8,[7]),(9,[8]),(0,[]),(0,[10]),(12,[11]),(13,[12]),(0,[]),(0,[14]),(16,[15]),(17,[16]),(0,[]),(18,[17]),(10,[9,10,11,12,13,14,15,16,17]),(21,[20]),(0,[]),(0,[]),(0,[23]),(25,[24]),(26,[25]),(22,[21,23,24,25,26]),(28,[27]),(5,[4,6,7,8,9,10,11,12,13,14,15,16,17,20,21,23,24,25,26,27,28])]
abbrev nlVg1_3:List (List Nat):=nlD [] [(0,[]),(0,[]),(0,[1]),(3,[2]),(4,[3]),(0,[]),(0,[]),(0,[6]),(8,[7]),(9,[8]),(0,[]),(0,[10]),(12,[11]),(13,[12]),(0,[]),(0,[14]),(16,[15]),(17,[16]),(0,[]),(18,[17,18]),(10,[9,10,11,12,13,14,15,16,17,18,19]),(21,[20]),(0,[]),(0,[]),(0,[23]),(25,[24]),(26,[25]),(0,[5,6,7,8,9,10,11,12,13,14,15,16,17,18,19,20,21,22,23,24,25,26]),(28,[27]),(5,[4,5,6,7,8,9,10,11,12,13,14,15,16,17,18,19,20,21,22,23,24,25,26,27,28]),(0,[0,1,2,3,4,5,6,7,8,9,10,11,12,13,14,15,16,17,18,19,20,21,22,23,24,25,26,27,28,29]),(31,[30]),(32,[31])]
def KbG (a:K4)(c:Int)(b:Int)(d:Int):Option (Int×K4):=
 (bif (decide ((4000:Int)≤(a.gL.length:Int))) then some ((6:Int),a) else ((cutL a.gB a.gb (IntKind.i64.wrap (a.gb+b))).bind fun e=>((app 40 a.gL ([(⟨c,(ByteArray.mk e.toArray),d,a.gb⟩:KB)]:List KB)).bind fun f=>some ((0:Int),(⟨a.gB,(IntKind.i64.wrap (a.gb+b)),f⟩:K4)))))
theorem WA {R G:Prop}(h:R)(k:R→G:=by intro h;(iterate 3 refine zh_e rfl rfl (Kam htab rfl) rfl rfl rfl rfl rfl rfl rfl rfl ?_);refine zh_M rfl rfl (fun _=>KN 0 htab rfl rfl rfl rfl rfl) (offB rfl) rfl rfl rfl rfl rfl rfl rfl rfl ?_;exact h):G:=k h
theorem Xn {R G:Prop}(h:R)(k:R→G:=by intro h;refine zh_q rfl rfl (Kam htab rfl) rfl rfl rfl rfl rfl rfl ?_;exact h):G:=k h
theorem Wc {R G:Prop}(h:R)(k:R→G:=by intro h;refine Ke0 rfl rfl rfl rfl (fun e he=>by simp [isAl] at he) ?_;exact h):G:=k h
theorem Kd7 (b c i f l o g m r)(h0:KbG b c i f=some r):CallsD Tryz.prog 96 [.ptr l 0,iD c,iD i,iD f] [(l,Blk.cells (CZ6 b g (.cur m)) o)] [(4,m)] (fun d h k=>∃ p,d=iD r.1∧h=[(l,Blk.cells (CZ6 r.2 g (.cur p)) o)]∧k=[(4,p)]):=by
 refine PZ1 h0 Tryz.func96 fun C a=>?_;refine Zn ?_;refine XA ?_
 refine ZF ?_;refine cY a (fun a=>?_) fun a=>?_
 ·refine Ye ?_;obtain rfl:=Kf a;refine rP (t':=[(8,iD (6:Int))]) [0] [0] 1 (wC wN) (lT lN) ?_;exact ⟨m,rfl,rfl,rfl⟩
 refine ZO ?_;obtain ⟨q,u,a⟩:=Ka a;obtain ⟨s,t,a⟩:=Ka a;refine wpD_app 30 [] nlVg1_2 [0,1,2,3,4,6,7,8,9,10,11,12,13,14,15,16,17,20,21,23,24,25,26,27,28,29] nlVg1_3 29 4 0 (by kernel_rfl) (by kernel_rfl) (by kernel_rfl) (by rfl) (by rfl) (by kernel_rfl) rfl ?_;iterate 26 apply Exists.intro
 refine ⟨.any,?_⟩;intro bs n;iterate 4 refine zh_e rfl rfl (Kam htab rfl) rfl rfl rfl rfl rfl rfl rfl rfl ?_
 refine zh_M rfl rfl (fun _=>KN 0 htab rfl rfl rfl rfl rfl) (offB rfl) rfl rfl rfl rfl rfl rfl rfl rfl ?_;refine Xn ?_;refine WA ?_
 refine WA ?_
 refine WA ?_
 refine Xn ?_;refine Xn ?_;refine zh_e rfl rfl (x_cut u htab rfl rfl rfl rfl rfl rfl rfl rfl rfl rfl) rfl rfl rfl rfl rfl rfl rfl rfl ?_;refine zh_E rfl rfl (x_toStr htab rfl rfl rfl rfl rfl rfl rfl rfl) rfl rfl rfl rfl rfl rfl rfl rfl ?_;refine Xn ?_;refine WA ?_
 refine zh_e rfl rfl (Kfi (r:=[iD c,tD (ByteArray.mk q.toArray),iD f,iD b.gb]) htab rfl rfl rfl rfl rfl rfl) rfl rfl rfl rfl rfl rfl rfl rfl ?_;refine zh_E rfl rfl (ExE.wk (x_lit htab rfl rfl rfl rfl rfl rfl rfl rfl rfl rfl rfl) (show Wk _ (.lst 4 (([(⟨c,(ByteArray.mk q.toArray),f,b.gb⟩:KB)]:List KB).map Kl) .full) from Wk.lst0 (.cons (WkC.refl _) (.nil)))) rfl rfl rfl rfl rfl rfl rfl rfl ?_
 refine zh_app htab rfl rfl rfl rfl rfl rfl rfl rfl (rep_of rfl) rfl (app_kC rfl) (KZ (j:=0) rfl) rfl rfl rfl rfl rfl rfl rfl rfl rfl (KcH t) (Kiv t) ?_;refine Wc ?_;refine Zl ?_;refine pS0 (ds':=[.lst 1 (b.gB.map byteD) g,iD b.gb,.lst 4 (s.map Kl) (.cur n)]) ?_;refine Yt ?_
 refine pL 0 ?_;iterate 4 refine pu ?_
 refine pS0 (ds':=[.lst 1 (b.gB.map byteD) g,iD (IntKind.i64.wrap (b.gb+i)),.lst 4 (s.map Kl) (.cur n)]) ?_;refine KH ?_;refine Zu ?_;obtain rfl:=Kf a;refine rP (t':=[(8,iD (0:Int))]) [0] [0] 1 (wC wN) (lT lN) ?_;exact ⟨n,rfl,rfl,rfl⟩
abbrev nlVg1_4:List (List Nat):=nlD [] [(0,[]),(0,[0]),(2,[1]),(3,[2]),(0,[]),(0,[4]),(6,[5]),(7,[6]),(0,[]),(0,[8]),(10,[9]),(11,[10]),(0,[]),(12,[11,12]),(4,[3,4,5,6,7,8,9,10,11,12,13]),(15,[14]),(16,[15])]
def KbS (a:K4):Option (Int×K4):=
 ((KbR a true).bind fun b=>((cutL a.gB a.gb (IntKind.i64.wrap (a.gb+b))).bind fun e=>(bif (decide ((20:Int) < b)) then some ((6:Int),a) else ((Kdv (ByteArray.mk e.toArray)).bind fun f=>(bif f then ((KbG a (3:Int) b (0:Int)).bind fun c=>some (c.1,c.2)) else ((KbG a (1:Int) b (0:Int)).bind fun d=>some (d.1,d.2)))))))
theorem Kji (e b f g c r)(h0:KbS e=some r):CallsD Tryz.prog 93 [.ptr b 0] [(b,Blk.cells (CZ6 e g (.cur c)) f)] [(4,c)] (fun d h k=>∃ j,d=iD r.1∧h=[(b,Blk.cells (CZ6 r.2 g (.cur j)) f)]∧k=[(4,j)]):=by
 refine PZ1 h0 Tryz.func93 fun C a=>?_;refine Zd ?_;refine Zo ?_;obtain ⟨i,n,a⟩:=Ka a;refine pG (KdO e true b f g (.cur c) i n) Wl Pf Pf ?_;refine Zi ?_;refine Zz ?_;refine Kaj 14 [] [[],[0],[0,1],[0,1,2],[],[4],[4,5],[4,5,6],[],[8],[8,9],[8,9,10],[],[8,9,10]] [0,1,2,3,4,5,6,8,9,10] nlVg1_4 (by kernel_rfl) (by kernel_rfl) (by kernel_rfl) (by rfl) (by rfl) (by kernel_rfl) ?_;iterate 10 apply Exists.intro
 intro bs;refine Xm ?_
 iterate 3 refine zep ?_
 refine Xk ?_;refine Yb ?_;refine ZC ?_;obtain ⟨o,p,a⟩:=Ka a;refine p_cut p htab rfl rfl rfl rfl rfl rfl rfl rfl rfl rfl rfl rfl rfl ?_;refine p_toStr htab rfl rfl rfl rfl rfl rfl rfl rfl rfl rfl rfl ?_;refine Zz ?_;refine KJ ?_;refine ZS ?_
 refine Kb ?_;refine cY a (fun a=>?_) fun a=>?_
 ·refine Yg ?_;obtain rfl:=Kf a;refine rP (t':=[(2,iD (6:Int))]) [0] [0] 1 (wC wN) (lT lN) ?_;exact ⟨c,rfl,rfl,rfl⟩
 refine ZD a fun q s a=>?_;refine K5 (KlN (ByteArray.mk o.toArray) q s) rfl rfl rfl rfl rfl Wl ?_;rintro _ rfl;refine Zv ?_;refine cY a (fun a=>?_) fun a=>?_
 ·refine ZM ?_;obtain ⟨l,t,a⟩:=Ka a;refine pG (Kd7 e (3:Int) i (0:Int) b f g c l t) Wl Pf Pf ?_;refine ZL fun u=>?_;refine ZT ?_;obtain rfl:=Kf a;refine rP (t':=[(2,iD l.1)]) [0] [0] 1 (wC wN) (lT lN) ?_;exact ⟨u,rfl,rfl,rfl⟩
 refine ZK ?_;refine ZM ?_;obtain ⟨m,v,a⟩:=Ka a;refine pG (Kd7 e (1:Int) i (0:Int) b f g c m v) Wl Pf Pf ?_;refine ZL fun w=>?_;refine Zu ?_;obtain rfl:=Kf a;refine rP (t':=[(2,iD m.1)]) [0] [0] 1 (wC wN) (lT lN) ?_;exact ⟨w,rfl,rfl,rfl⟩
abbrev nlVg1_5:List (List Nat):=nlD [] [(0,[]),(0,[0]),(0,[]),(2,[1,2]),(4,[3]),(5,[4]),(6,[5]),(7,[6]),(8,[7]),(6,[]),(6,[9]),(11,[10]),(12,[11]),(9,[8,9,10,11,12]),(14,[13]),(15,[14]),(16,[15]),(17,[16]),(18,[17]),(19,[18]),(20,[19])]
def KbE (a:K4):Option (Int×K4):=
 (bif (decide ((4000:Int)≤(a.gL.length:Int))) then some ((6:Int),a) else ((KbR a false).bind fun c=>(Option.bind (α:=Bool) ((KbR a true).bind fun g=>(bif (decide (c < g)) then some true else ((idx a.gB a.gb).bind fun h=>(bif ((h.toNat:Int)==(48:Int)) then some (decide ((1:Int) < c)) else some false)))) fun i=>(bif i then some ((3:Int),a) else ((cutL a.gB a.gb (IntKind.i64.wrap (a.gb+c))).bind fun d=>(Option.bind (α:=(Int)⊕(Int×K4)) (loopM (fun (b:Int×Int)=>(bif (decide (b.2 < (d.length:Int))) then ((idx d b.2).bind fun e=>(bif (decide ((IntKind.u64.wrap ((IntKind.u64.wrap ((9223372036854775807:Int) - (IntKind.u64.wrap (IntKind.u8.wrap ((e.toNat:Int) - (48:Int)))))).tdiv (10:Int))) < b.1)) then some (.done (.inr ((4:Int),a))) else some (.next ((IntKind.u64.wrap ((IntKind.u64.wrap ((10:Int)*b.1))+(IntKind.u64.wrap (IntKind.u8.wrap ((e.toNat:Int) - (48:Int)))))),(IntKind.i64.wrap (b.2+(1:Int))))))) else some (.done (.inl b.1)))) ((0:Int),(0:Int))) (Sum.elim (fun j=>((KbG a (2:Int) c (IntKind.i64.wrap j)).bind fun f=>some (f.1,f.2))) (fun r=>some r))))))))
theorem Kid (e c f g b r)(h0:KbE e=some r):CallsD Tryz.prog 94 [.ptr c 0] [(c,Blk.cells (CZ6 e g (.cur b)) f)] [(4,b)] (fun d h k=>∃ t,d=iD r.1∧h=[(c,Blk.cells (CZ6 r.2 g (.cur t)) f)]∧k=[(4,t)]):=by
 refine PZ1 h0 Tryz.func94 fun C a=>?_;refine Zn ?_;refine XA ?_
 refine ZF ?_;refine cY a (fun a=>?_) fun a=>?_
 ·refine Ye ?_;obtain rfl:=Kf a;refine rP (t':=[(2,iD (6:Int))]) [0] [0] 1 (wC wN) (lT lN) ?_;exact ⟨b,rfl,rfl,rfl⟩
 refine Zm ?_;refine ZD a fun l D a=>?_;refine pG (KdO e false c f g (.cur b) l D) Wl Pf Pf ?_;refine Zi ?_;refine Zz ?_;refine ZA a fun E u w=>?_;refine Kaf (Y:=Unit) (fun F=>(⟨[(0,.ptr c 0),(3,iD l),(36,.v (.bool E))],[(c,Blk.cells (CZ6 e g (.cur b)) f)],[(4,b)]⟩:S)) ?_ ?_
 ·clear a;have a:=KE u;obtain ⟨n,x,a⟩:=Ka a;refine bycB (decide (l < n)) (fun m=>?_) (fun m=>?_)
  ·replace a:=yes_t m a;refine Kaj 13 [] [[],[0],[],[0,1],[0,1],[0,1],[0,1],[0,1],[0,1],[0,1],[0,1],[0,1],[0,1]] [0,1] nlVg1_5 (by kernel_rfl) (by kernel_rfl) (by kernel_rfl) (by rfl) (by rfl) (by kernel_rfl) ?_;apply Exists.intro;apply Exists.intro;intro bs;refine zep ?_;refine Kfj 0 rfl rfl (KdO e true c f g (.cur b) n x) rfl rfl Wl rfl rfl rfl rfl rfl rfl rfl ?_;iterate 3 refine zqp ?_
   refine K1 (j:=20) (b':=true) rfl m ?_;iterate 8 refine zK ?_
   refine ZC ?_;iterate 7 refine pK ?_
   refine ZB ?_;exact Yy a
  replace a:=yes_f m a;refine Kaj 13 [] [[],[0],[],[0,1],[0,1],[0,1],[0,1,5],[0,1,5,6],[0,1,5,6,7],[0,1],[0,1,9],[0,1,9,10],[0,1,9,10,11]] [0,1,5,6,7,8,9,10,11] nlVg1_5 (by kernel_rfl) (by kernel_rfl) (by kernel_rfl) (by rfl) (by rfl) (by kernel_rfl) ?_;iterate 9 apply Exists.intro
  intro bs;refine zep ?_;refine Kfj 0 rfl rfl (KdO e true c f g (.cur b) n x) rfl rfl Wl rfl rfl rfl rfl rfl rfl rfl ?_;iterate 3 refine zqp ?_
  refine K1 (j:=20) (b':=false) rfl m ?_;refine Xm ?_
  refine ZC ?_;refine ZX a fun Q R a=>?_;refine YU ?_;refine Zl ?_;refine KaH (i:=32) rfl (fun o=>?_) (fun o=>?_)
  ·replace a:=yes_t o a;refine Zl ?_;refine ZB ?_;exact Xf a
  replace a:=yes_f o a;refine Yp ?_;refine ZE ?_;exact Xf a
 intro T G;have a:=w;clear u w;refine Zb G fun F=>?_;refine cY a (fun a=>?_) fun a=>?_
 ·refine Ye ?_;obtain rfl:=Kf a;refine rP (t':=[(2,iD (3:Int))]) [0] [0] 1 (wC wN) (lT lN) ?_;exact ⟨b,rfl,rfl,rfl⟩
 refine Zm ?_;refine Zn ?_;refine ZA a fun y H a=>?_;refine Kaj 17 [] [[],[0],[0,1],[0,1,2],[],[4],[4,5],[4,5,6],[],[8],[8,9],[8,9,10],[],[8,9,10],[0,1,2,3,4,5,6,8,9,10],[0,1,2,3,4,5,6,8,9,10,14],[]] [0,1,2,3,4,5,6,8,9,10,14] [[],[0],[0,1],[0,1,2],[],[4],[4,5],[4,5,6],[],[8],[8,9],[8,9,10],[],[8,9,10,11,12],[0,1,2,3,4,5,6,7,8,9,10,11,12,13],[0,1,2,3,4,5,6,7,8,9,10,11,12,13,14],[]] (by kernel_rfl) (by kernel_rfl) (by kernel_rfl) (by rfl) (by rfl) (by kernel_rfl) ?_;iterate 11 apply Exists.intro
 intro bs;refine Xm ?_
 iterate 3 refine zep ?_
 refine Xk ?_;refine Yb ?_;refine z_e rfl rfl (x_cut H htab rfl rfl rfl rfl rfl rfl rfl rfl rfl rfl) rfl rfl rfl rfl rfl rfl ?_;refine X7 ?_;refine zqp ?_;refine ZC ?_;refine Kb ?_;obtain ⟨I,z,p⟩:=Ka a
 refine KaG (τ:=Int) (Y:=Unit) (fun q J=>(⟨[(0,.ptr c 0),(3,iD l),(4,.v (.int .u64 q))],[(c,Blk.cells (CZ6 e g (.cur b)) f)],[(4,b)]⟩:S)) I ?_ ?_
 ·clear a;have a:=KE z;refine Zy a fun U K A=>?_;refine KaO (Y:=Unit) K (fun s L=>(⟨[(0,.ptr c 0),(3,iD l),(4,.v (.int .u64 s.1)),(51,.lst 1 (y.map byteD) .no),(52,iD (y.length:Int)),(53,iD s.2)],[(c,Blk.cells (CZ6 e g (.cur b)) f)],[(4,b)]⟩:S)) ?_ ?_
  ·skip
   exact YB
  intro G33 s L a;refine Zn ?_;refine cY a (fun a=>?_) fun a=>?_
  ·refine Z7 a fun V W a=>?_;refine YU ?_;refine YI ?_;iterate 4 refine pu ?_
   refine Zr ?_;refine ZS ?_
   refine p_div rfl rfl rfl rfl rfl rfl rfl (by decide) ?_;refine Zv ?_;refine cY a (fun a=>?_) fun a=>?_
   ·refine ZY ?_;refine ZQ ?_;refine Ky ?_;obtain rfl:=K6 a;have a:=A
    refine ZQ ?_;obtain rfl:=Kf a;refine Ka4 ?_;have a:=p;refine Z1 a fun a=>?_
    obtain rfl:=Kf a;refine rP (t':=[(2,iD (4:Int))]) [0] [0] 1 (wC wN) (lT lN) ?_;exact ⟨b,rfl,rfl,rfl⟩
   refine Zm ?_;refine Kz ?_;iterate 5 refine pu ?_
   refine Yf a ?_;exact YB
  refine Zs ?_;obtain rfl:=K6 a;have a:=A
  refine Z9 ?_;exact XY a
 intro q X M N;subst M;have a:=p;refine Zj a fun a=>?_;clear z p;refine Zb N fun J=>?_;refine YA ?_
 obtain ⟨B,O,a⟩:=Ka a;refine pG (Kd7 e (2:Int) l (IntKind.i64.wrap q) c f g b B O) Wl Pf Pf ?_;refine ZL fun P=>?_;refine Zu ?_;obtain rfl:=Kf a;refine rP (t':=[(2,iD B.1)]) [0] [0] 1 (wC wN) (lT lN) ?_;exact ⟨P,rfl,rfl,rfl⟩
abbrev qZ9:List ByteArray:=[(ByteArray.mk #[61,61]),(ByteArray.mk #[33,61]),(ByteArray.mk #[60,61]),(ByteArray.mk #[38,38]),(ByteArray.mk #[124,124])]
def Kbv (a:K4):Option (Int):=
 ((cutL a.gB a.gb ((a.gB).length:Int)).bind fun b=>(Option.bind (α:=Bool) (bif (decide ((1:Int) < (b.length:Int))) then ((cutL b (0:Int) (2:Int)).bind fun c=>((KaS qZ9 (ByteArray.mk c.toArray)).bind fun d=>some d)) else some false) fun e=>(bif e then some (2:Int) else ((idx b (0:Int)).bind fun f=>(bif (decide ((0:Int)≤(Khr (ByteArray.mk #[40,41,123,125,91,93,59,44,61,60,43,45,42,47,37,33,38]) (f.toNat:Int)))) then some (1:Int) else some (0:Int))))))
theorem Kjj (b c e f g r)(h0:Kbv b=some r):CallsD Tryz.prog 95 [.ptr c 0] [(c,Blk.cells (CZ6 b f g) e)] [] (fun d h k=>d=iD r∧h=[(c,Blk.cells (CZ6 b f g) e)]∧k=[]):=by
 refine PZ1 h0 Tryz.func95 fun C a=>?_;refine Zn ?_;refine Kaj 8 [] [[],[0],[0,1],[0,1,2],[],[4],[4,5],[4,5,6]] [0,1,2,3,4,5,6] [[],[0],[0,1],[0,1,2],[],[4],[4,5],[4,5,6],[0,1,2,3,4,5,6,7],[0,1,2,3,4,5,6,7,8]] (by kernel_rfl) (by kernel_rfl) (by kernel_rfl) (by rfl) (by rfl) (by kernel_rfl) ?_;iterate 7 apply Exists.intro
 intro bs;refine Xm ?_
 refine ZC ?_;obtain ⟨n,o,a⟩:=Ka a;refine p_cut o htab rfl rfl rfl rfl rfl rfl rfl rfl rfl rfl rfl rfl rfl ?_;refine Zz ?_;refine ZA a fun p l m=>?_;refine Kaf (Y:=Unit) (fun q=>(⟨[(3,.lst 1 (n.map byteD) .no),(22,.v (.bool p))],[(c,Blk.cells (CZ6 b f g) e)],[]⟩:S)) ?_ ?_
 ·clear a;have a:=KE l;refine ZN ?_;refine Yk ?_;refine Zl ?_;refine KaH (i:=16) rfl (fun j=>?_) (fun j=>?_)
  ·replace a:=yes_t j a;refine ZJ ?_;refine p_eq (i:=17) (d':=.lst 1 (qZ9.map eStr) .full) rfl (Wk.lst0 (.cons (WkC.refl _) (.cons (WkC.refl _) (.cons (WkC.refl _) (.cons (WkC.refl _) (.cons (WkC.refl _) (.nil))))))) ?_;refine pu ?_;obtain ⟨s,t,a⟩:=Ka a;refine p_cut t htab rfl rfl rfl rfl rfl rfl rfl rfl rfl rfl rfl rfl rfl ?_;refine p_toStr htab rfl rfl rfl rfl rfl rfl rfl rfl rfl rfl rfl ?_;obtain ⟨u,w,a⟩:=Ka a
   refine K5 (Kd4 qZ9 (ByteArray.mk s.toArray) u w) rfl rfl rfl rfl rfl (WkL.cons (Wk.no) (WkL.cons (Wk.refl _) Wl)) ?_;rintro _ rfl;refine ZB ?_;exact Z2 a
  replace a:=yes_f j a;iterate 5 refine pK ?_
  refine ZE ?_;exact Z2 a
 intro z x;have a:=m;clear l m;refine Zb x fun q=>?_;refine cY a (fun a=>?_) fun a=>?_
 ·refine Ye ?_;obtain rfl:=Kf a;refine rP (t':=[(2,iD (2:Int))]) [0] [] 1 (wC wN) (lT lN) ?_;exact Za
 refine ZO ?_;refine Zd ?_;refine ZX a fun y A a=>?_;refine YU ?_;refine K5 (indexB_ok (ByteArray.mk #[40,41,123,125,91,93,59,44,61,60,43,45,42,47,37,33,38]) (y.toNat:Int)) rfl rfl rfl rfl rfl Wl ?_;rintro _ rfl;refine Zv ?_;refine cY a (fun a=>?_) fun a=>?_
 ·refine Ye ?_;obtain rfl:=Kf a;refine rP (t':=[(2,iD (1:Int))]) [0] [] 1 (wC wN) (lT lN) ?_;exact Za
 refine Zm ?_;refine ZY ?_;obtain rfl:=Kf a;refine rP (t':=[(2,iD (0:Int))]) [0] [] 1 (wC wN) (lT lN) ?_;exact Za
def KbT (a:K4):Option (Int×K4):=
 ((idx a.gB a.gb).bind fun g=>((KdN (IntKind.i32.wrap (g.toNat:Int))).bind fun b=>(bif (b==(1:Int)) then some ((0:Int),(⟨a.gB,(IntKind.i64.wrap (a.gb+(1:Int))),a.gL⟩:K4)) else (bif (b==(2:Int)) then ((KbS a).bind fun c=>some (c.1,c.2)) else (bif (b==(3:Int)) then ((KbE a).bind fun d=>some (d.1,d.2)) else ((Kbv a).bind fun e=>(bif (e==(0:Int)) then some ((3:Int),a) else ((KbG a (3:Int) e (0:Int)).bind fun f=>some (f.1,f.2)))))))))
theorem Kjk (b e g f c r)(h0:KbT b=some r):CallsD Tryz.prog 68 [.ptr e 0] [(e,Blk.cells (CZ6 b f (.cur c)) g)] [(4,c)] (fun d h k=>∃ i,d=iD r.1∧h=[(e,Blk.cells (CZ6 r.2 f (.cur i)) g)]∧k=[(4,i)]):=by
 refine PZ1 h0 Tryz.func68 fun C a=>?_;refine Zn ?_;refine Km ?_;refine Kaj 8 [] [[],[0],[0,1],[0,1,2],[],[4],[4,5],[4,5,6]] [0,1,2,3,4,5,6] [[],[0],[0,1],[0,1,2],[],[4],[4,5],[4,5,6],[0,1,2,3,4,5,6,7],[0,1,2,3,4,5,6,7,8],[0,1,2,3,4,5,6,7,8,9],[0,1,2,3,4,5,6,7,8,9,10]] (by kernel_rfl) (by kernel_rfl) (by kernel_rfl) (by rfl) (by rfl) (by kernel_rfl) ?_;iterate 7 apply Exists.intro
 intro bs;refine Xm ?_
 refine ZC ?_;refine ZX a fun o z a=>?_;refine YU ?_;refine pu ?_;obtain ⟨p,q,a⟩:=Ka a;refine K5 (Kjw (IntKind.i32.wrap (o.toNat:Int)) p q) rfl rfl rfl rfl rfl Wl ?_;rintro _ rfl;refine XM ?_;refine cY a (fun a=>?_) fun a=>?_
 ·refine YE ?_
  refine pS0 (ds':=[.lst 1 (b.gB.map byteD) f,iD (IntKind.i64.wrap (b.gb+(1:Int))),.lst 4 (b.gL.map Kl) (.cur c)]) ?_;refine KH ?_;refine ZT ?_;obtain rfl:=Kf a;refine rP (t':=[(2,iD (0:Int))]) [0] [0] 1 (wC wN) (lT lN) ?_;exact ⟨c,rfl,rfl,rfl⟩
 refine Ze ?_;refine cY a (fun a=>?_) fun a=>?_
 ·refine ZD a fun j s a=>?_;refine pG (Kji b e g f c j s) Wl Pf Pf ?_;refine ZL fun t=>?_;refine ZT ?_;obtain rfl:=Kf a;refine rP (t':=[(2,iD j.1)]) [0] [0] 1 (wC wN) (lT lN) ?_;exact ⟨t,rfl,rfl,rfl⟩
 refine Ze ?_;refine cY a (fun a=>?_) fun a=>?_
 ·refine ZD a fun l u a=>?_;refine pG (Kid b e g f c l u) Wl Pf Pf ?_;refine ZL fun v=>?_;refine ZT ?_;obtain rfl:=Kf a;refine rP (t':=[(2,iD l.1)]) [0] [0] 1 (wC wN) (lT lN) ?_;exact ⟨v,rfl,rfl,rfl⟩
 refine ZK ?_;refine ZD a fun m w a=>?_;refine pG (Kjj b e g f (.cur c) m w) Wl Pf Pf ?_;refine Zi ?_;refine Y3 ?_;refine cY a (fun a=>?_) fun a=>?_
 ·refine Ye ?_;obtain rfl:=Kf a;refine rP (t':=[(2,iD (3:Int))]) [0] [0] 1 (wC wN) (lT lN) ?_;exact ⟨c,rfl,rfl,rfl⟩
 refine Zm ?_;refine ZM ?_;obtain ⟨n,x,a⟩:=Ka a;refine pG (Kd7 b (3:Int) m (0:Int) e g f c n x) Wl Pf Pf ?_;refine ZL fun y=>?_;refine Zu ?_;obtain rfl:=Kf a;refine rP (t':=[(2,iD n.1)]) [0] [0] 1 (wC wN) (lT lN) ?_;exact ⟨y,rfl,rfl,rfl⟩
def Kc2 (a0:List UInt8):Option (List KB×Int×Int):=
 (bif (decide ((20000:Int) < (a0.length:Int))) then some (([]:List KB),(0:Int),(6:Int)) else (Option.bind (α:=(List UInt8×Int×List KB)⊕(List KB×Int×Int)) (loopM (fun (a:List UInt8×Int×List KB)=>(bif (decide (a.2.1 < (a0.length:Int))) then ((KbT (⟨a.1,a.2.1,a.2.2⟩:K4)).bind fun b=>(bif (b.1 != (0:Int)) then some (.done (.inr (([]:List KB),b.2.gb,b.1))) else some (.next (b.2.gB,b.2.gb,b.2.gL)))) else some (.done (.inl (a.1,a.2.1,a.2.2))))) (a0,(0:Int),([]:List KB))) (Sum.elim (fun c=>((app 40 c.2.2 ([(⟨(0:Int),ByteArray.empty,(0:Int),(a0.length:Int)⟩:KB)]:List KB)).bind fun d=>some (d,(0:Int),(0:Int)))) (fun r=>some r))))
theorem XB {G:Prop}(k:G:=by exact WkX.of _ (wP (wC (wC wN)))):G:=k
theorem Kjx (a0 r)(h0:Kc2 a0=some r):CallsD Tryz.prog 50 [.lst 1 (a0.map byteD) .no] [] [] (fun d h k=>∃ m,d=.tup [.lst 4 (r.1.map Kl) (.cur m),iD r.2.1,iD r.2.2]∧h=[]∧k=[(4,m)]):=by
 refine PZ1 h0 Tryz.func50 fun C a=>?_;refine ZS ?_
 refine Zr ?_;refine Zd ?_;refine ZF ?_;refine cY a (fun a=>?_) fun a=>?_
 ·refine ZS ?_
  refine Yi ?_;obtain rfl:=Kf a;refine retX.tokN (i:=2) 4 rfl (fun n=>?_);refine rP (t':=[(2,.lst 4 (([]:List KB).map Kl) (.cur n)),(3,iD (0:Int)),(4,iD (6:Int))]) [] [0] 0 (wC (wC (wC wN))) (lT (lT (lT lN))) ?_;exact ⟨n,rfl,rfl,rfl⟩
 refine Zm ?_;refine Zd ?_;refine KbC (r:=[.lst 1 (a0.map byteD) .no,iD (0:Int),.lst 1 [] .full]) htab rfl rfl rfl rfl rfl rfl rfl rfl rfl ?_;refine YJ fun c=>?_;refine Zz ?_;obtain ⟨t,o,g⟩:=Ka a;refine KaG (τ:=List UInt8×Int×List KB) (Y:=Value) (fun e j=>(⟨[(0,.lst 1 (a0.map byteD) .no),(5,.ptr c 0)],[(c,Blk.cells [.lst 1 (e.1.map byteD) .no,iD e.2.1,.lst 4 (e.2.2.map Kl) (.cur j)] 135)],[(4,j)]⟩:S)) t ?_ ?_
 ·clear a;have a:=KE o;refine Zy a fun A u p=>?_;refine KaO (Y:=Value) u (fun b f=>(⟨[(0,.lst 1 (a0.map byteD) .no),(5,.ptr c 0)],[(c,Blk.cells [.lst 1 (b.1.map byteD) .no,iD b.2.1,.lst 4 (b.2.2.map Kl) (.cur f)] 135)],[(4,f)]⟩:S)) ?_ ?_
  ·skip
   refine WkX.cellF (off:=2) 4 0 rfl rfl (by first|exact Or.inl rfl|exact Or.inr rfl) (fun B=>?_);exact XB
  intro G25 b f a;refine Km ?_;refine XA ?_
  refine pu ?_;refine ZF ?_;refine cY a (fun a=>?_) fun a=>?_
  ·refine Zm ?_;refine KJ ?_;refine ZD a fun l v a=>?_;refine pG (Kjk (⟨b.1,b.2.1,b.2.2⟩:K4) c 135 .no f l v) Wl Pf Pf ?_;refine ZL fun D=>?_;refine Yo ?_;refine Zv ?_;refine cY a (fun a=>?_) fun a=>?_
   ·refine Km ?_;refine Kaj 7 [] [[],[0],[0,1],[0,1,2],[],[],[0,1,2,5]] [0,1,2,5] [[],[0],[0,1],[0,1,2],[],[],[0,1,2,3,5],[0,1,2,3,4,5,6]] (by kernel_rfl) (by kernel_rfl) (by kernel_rfl) (by rfl) (by rfl) (by kernel_rfl) ?_;iterate 4 apply Exists.intro
    intro bs;iterate 3 refine zep ?_
    refine Xk ?_;refine zqp ?_;refine zep ?_;refine zqp ?_;refine ZC ?_;refine Zu ?_;refine KI ?_;obtain rfl:=K6 a;have a:=p
    refine ZQ ?_;obtain rfl:=Kf a;refine Ka4 ?_;have a:=g;refine Z1 a fun a=>?_
    obtain rfl:=Kf a;refine retX.tokN (i:=2) 4 rfl (fun q=>?_);refine rP (t':=[(2,.lst 4 (([]:List KB).map Kl) (.cur q)),(3,iD l.2.gb),(4,iD l.1)]) [] [0] 0 (wC (wC (wC wN))) (lT (lT (lT lN))) ?_;exact ⟨q,rfl,rfl,rfl⟩
   refine Kx ?_;refine Xa a ?_;exact XB
  refine Zs ?_;obtain rfl:=K6 a;have a:=p
  refine Z9 ?_;obtain rfl:=Kf a;refine Kat ?_;exact XB
 intro e E w x;subst w;have a:=g;refine Zj a fun a=>?_;clear o g;refine Zb x fun j=>?_;refine XA ?_
 refine pu ?_;refine Yk ?_;refine KbC (r:=[iD (0:Int),tD ByteArray.empty,iD (0:Int),iD (a0.length:Int)]) htab rfl rfl rfl rfl rfl rfl rfl rfl rfl ?_;refine ZJ ?_;refine p_eq (i:=36) (d':=.lst 4 (([(⟨(0:Int),ByteArray.empty,(0:Int),(a0.length:Int)⟩:KB)]:List KB).map Kl) .full) rfl (Wk.lst0 (.cons (WkC.refl _) (.nil))) ?_;refine Xv a fun y z a s=>?_
 refine Kgf (i:=37) z rfl ?_;iterate 3 refine pu ?_
 refine ZG ?_;obtain rfl:=Kf a;refine rP (t':=[(2,.lst 4 (y.map Kl) (.cur s)),(3,iD (0:Int)),(4,iD (0:Int))]) [] [0] 0 (wC (wC (wC wN))) (lT (lT (lT lN))) ?_;exact ⟨s,rfl,rfl,rfl⟩
structure Kg where
 gL:List KB
 gb:Int
 gE:Int
 gn:Int
 gm:Int
def Kc3 (a0:List KB)(a:Int):Option (Kg×Bool):=
 (bif (decide ((0:Int)≤a)) then some ((⟨a0,a,(0:Int),(0:Int),(0:Int)⟩:Kg),(decide (a≤(a0.length:Int)))) else some ((⟨a0,a,(0:Int),(0:Int),(0:Int)⟩:Kg),false))
abbrev CZ7 (x:Kg)(c0:Cap):List D:=[.lst 4 (x.gL.map Kl) c0,iD x.gb,iD x.gE,iD x.gn,iD x.gm]
theorem Khz (a0 b r)(h0:Kc3 a0 b=some r):CallsD Tryz.prog 51 [.lst 4 (a0.map Kl) .no,iD b] [] [] (fun d h k=>∃ f,d=.tup [.ptr f 0,.v (.bool r.2)]∧h=[(f,Blk.cells (CZ7 r.1 .no) 116)]∧k=[]):=by
 refine PZ1 h0 Tryz.func51 fun C a=>?_;refine ZM ?_;refine ZV ?_;refine KbC (r:=[.lst 4 (a0.map Kl) .no,iD b,iD (0:Int),iD (0:Int),iD (0:Int)]) htab rfl rfl rfl rfl rfl rfl rfl rfl rfl ?_;refine YJ fun c=>?_;iterate 3 refine pu ?_
 refine KaH (i:=12) rfl (fun e=>?_) (fun e=>?_)
 ·replace a:=yes_t e a;refine Zl ?_;refine YL ?_;refine Yj ?_;refine Zu ?_;obtain rfl:=Kf a;refine rP (t':=[(4,.ptr c 0),(5,.v (.bool (decide (b≤(a0.length:Int)))))]) [0] [] 1 (wC (wC wN)) (lT (lT lN)) ?_;exact ⟨c,rfl,rfl,rfl⟩
 replace a:=yes_f e a;iterate 4 refine pK ?_
 refine Z5 ?_;refine Zu ?_;obtain rfl:=Kf a;refine rP (t':=[(4,.ptr c 0),(5,.v (.bool false))]) [0] [] 1 (wC (wC wN)) (lT (lT lN)) ?_;exact ⟨c,rfl,rfl,rfl⟩
def Kav (a:Kg)(b:Int):Option (KB):=
 (bif (decide ((a.gL.length:Int)≤(IntKind.i64.wrap (a.gb+b)))) then some (⟨(0:Int),ByteArray.empty,(0:Int),(0:Int)⟩:KB) else ((idx a.gL (IntKind.i64.wrap (a.gb+b))).bind fun c=>some c))
theorem Yl {G:Prop}{b:Sort _}{R:(u:b)→Prop}(h:∀ u,R u)(k:(∀ u,R u)→G:=by intro h;refine Kd ?_;refine Zq fun _l=>?_;exact h _l):G:=k h
theorem WB {R G:Prop}(h:R)(k:R→G:=by intro h;refine KaK (d:=Kl _) htab rfl rfl rfl rfl rfl rfl rfl rfl ?_;exact h):G:=k h
abbrev qZ7:List D:=[iD (0:Int),tD ByteArray.empty,iD (0:Int),iD (0:Int)]
theorem Kb0 (c f e b g r)(h0:Kav c f=some r):CallsD Tryz.prog 69 [.ptr e 0,iD f] [(e,Blk.cells (CZ7 c g) b)] [] (fun d h k=>d=Kl r∧h=[(e,Blk.cells (CZ7 c g) b)]∧k=[]):=by
 refine PZ1 h0 Tryz.func69 fun C a=>?_;refine Yl fun i=>?_;refine Zr ?_;refine Km ?_;refine Kaj 11 [] [[],[0],[0,1],[0,1,2],[],[0,1,2],[],[6],[6,7],[6,7,8],[6,7,8,9]] [0,1,2,6,7,8,9] [[],[0],[0,1],[0,1,2],[],[0,1,2,3,4],[],[6],[6,7],[6,7,8],[6,7,8,9],[0,1,2,3,4,5,6,7,8,9,10]] (by kernel_rfl) (by kernel_rfl) (by kernel_rfl) (by rfl) (by rfl) (by kernel_rfl) ?_;iterate 7 apply Exists.intro
 intro bs;iterate 3 refine zep ?_
 refine Xk ?_;refine Yb ?_;refine W6 ?_
 refine cY a (fun a=>?_) fun a=>?_
 ·refine Kd ?_;refine KbC (r:=qZ7) htab rfl rfl rfl rfl rfl rfl rfl rfl rfl ?_;refine pS1 (ds':=qZ7) ?_;refine Yi ?_;obtain rfl:=Kf a;refine rP (t':=[(4,.ptr i 0)]) [0,0] [] 1 (wC wN) (lC 1 lN) ?_;exact Za
 refine ZO ?_;refine Kaj 10 [] [[],[0],[0,1],[0,1,2],[],[4],[4,5],[4,5,6],[],[4,5,6]] [0,1,2,3,4,5,6] [[],[0],[0,1],[0,1,2],[],[4],[4,5],[4,5,6],[],[4,5,6,7,8],[0,1,2,3,4,5,6,7,8,9],[0,1,2,3,4,5,6,7,8,9,10],[0,1,2,3,4,5,6,7,8,9,10,11]] (by kernel_rfl) (by kernel_rfl) (by kernel_rfl) (by rfl) (by rfl) (by kernel_rfl) ?_;iterate 7 apply Exists.intro
 intro bs;refine Xm ?_
 refine Yb ?_;refine ZC ?_;refine ZX a fun j l a=>?_;refine WB ?_;refine pS1 (ds':=(CZ5 j)) ?_;refine ZG ?_;obtain rfl:=Kf a;refine rP (t':=[(4,.ptr i 0)]) [0,0] [] 1 (wC wN) (lC 1 lN) ?_;exact Za
def KaD (b:Kg)(c:Int)(d:ByteArray):Option (Bool):=
 ((Kav b c).bind fun a=>(bif (a.gt==(3:Int)) then some (decide (a.gr=d)) else some false))
theorem Kdf (b e f c g j r)(h0:KaD b e f=some r):CallsD Tryz.prog 76 [.ptr c 0,iD e,tD f] [(c,Blk.cells (CZ7 b j) g)] [] (fun d h k=>d=.v (.bool r)∧h=[(c,Blk.cells (CZ7 b j) g)]∧k=[]):=by
 refine PZ1 h0 Tryz.func76 fun C a=>?_;refine Zd ?_;refine ZV ?_;obtain ⟨l,n,a⟩:=Ka a;refine pG (Kb0 b e c g j l n) Wl Pf Pf ?_;refine Zi ?_;refine Zq fun o=>?_;refine pS1 (ds':=(CZ5 l)) ?_;refine Zo ?_;refine pL 1 ?_;refine Zl ?_;refine KaH (i:=14) rfl (fun m=>?_) (fun m=>?_)
 ·replace a:=yes_t m a;refine ZP ?_;refine Zl ?_;refine ZB ?_;refine Zu ?_;obtain rfl:=Kf a;refine rP (t':=[(6,.v (.bool (decide (l.gr=f))))]) [0] [] 1 (wC wN) (lT lN) ?_;exact Za
 replace a:=yes_f m a;iterate 4 refine pK ?_
 refine ZE ?_;refine Zu ?_;obtain rfl:=Kf a;refine rP (t':=[(6,.v (.bool false))]) [0] [] 1 (wC wN) (lT lN) ?_;exact Za
def Kaz (a:Kg)(b:Int)(c:Int):Option (Kg):=
 (bif (a.gE==(0:Int)) then some (⟨a.gL,b,c,a.gn,a.gm⟩:Kg) else some a)
theorem Xb {A0 G:Prop}(a0:A0)(k:A0→G:=by intro _a;obtain rfl:=Kf _a;refine rP (t':=[]) [0] [] 1 wN lN ?_;exact Za):G:=k a0
theorem Kbh (a c f g i e r)(h0:Kaz a c f=some r):CallsD Tryz.prog 78 [.ptr g 0,iD c,iD f] [(g,Blk.cells (CZ7 a e) i)] [] (fun d h k=>d=.tup []∧h=[(g,Blk.cells (CZ7 r e) i)]∧k=[]):=by
 refine PZ1 h0 Tryz.func78 fun C b=>?_;refine Yq ?_
 refine cY b (fun b=>?_) fun b=>?_
 ·refine Kz ?_;iterate 6 refine pu ?_
  refine pS0 (ds':=[.lst 4 (a.gL.map Kl) e,iD c,iD a.gE,iD a.gn,iD a.gm]) ?_;refine Zl ?_;refine pS0 (ds':=[.lst 4 (a.gL.map Kl) e,iD c,iD f,iD a.gn,iD a.gm]) ?_;refine KC ?_;exact Xb b
 refine Kx ?_;exact Xb b
def KQ (a:Kg)(c:List ByteArray):Option (Kg):=
 (Option.bind (α:=(Int)⊕(Kg)) (loopM (fun (b:Int×Int)=>(bif (decide (b.1 < (c.length:Int))) then ((idx c b.1).bind fun d=>(bif (a.gE != (0:Int)) then some (.done (.inr (⟨a.gL,b.2,a.gE,a.gn,a.gm⟩:Kg))) else ((KaD (⟨a.gL,b.2,a.gE,a.gn,a.gm⟩:Kg) (0:Int) d).bind fun e=>(bif (!e) then ((Kaz (⟨a.gL,b.2,a.gE,a.gn,a.gm⟩:Kg) b.2 (3:Int)).bind fun f=>some (.done (.inr f))) else some (.next ((IntKind.i64.wrap (b.1+(1:Int))),(IntKind.i64.wrap (b.2+(1:Int))))))))) else some (.done (.inl b.2)))) ((0:Int),a.gb)) (Sum.elim (fun g=>some (⟨a.gL,g,a.gE,a.gn,a.gm⟩:Kg)) (fun r=>some r)))
theorem Ys {R G:Prop}(h:R)(k:R→G:=by intro h;refine Zi ?_;refine pu ?_;exact h):G:=k h
theorem Kao (b i c g e r)(h0:KQ b i=some r):CallsD Tryz.prog 70 [.ptr c 0,.lst 1 (i.map eStr) .no] [(c,Blk.cells (CZ7 b e) g)] [] (fun d h k=>d=.tup []∧h=[(c,Blk.cells (CZ7 r e) g)]∧k=[]):=by
 refine PZ1 h0 Tryz.func70 fun C a=>?_;refine Zd ?_;refine ZF ?_;obtain ⟨o,m,j⟩:=Ka a;refine KaG (τ:=Int) (Y:=Unit) (fun n p=>(⟨[],[(c,Blk.cells [.lst 4 (b.gL.map Kl) e,iD n,iD b.gE,iD b.gn,iD b.gm] g)],[]⟩:S)) o ?_ ?_
 ·clear a;have a:=KE m;refine Zy a fun A q l=>?_;refine KaO (Y:=Unit) q (fun f s=>(⟨[(0,.ptr c 0),(6,.lst 1 (i.map eStr) .no),(7,iD (i.length:Int)),(8,iD f.1)],[(c,Blk.cells [.lst 4 (b.gL.map Kl) e,iD f.2,iD b.gE,iD b.gn,iD b.gm] g)],[]⟩:S)) ?_ ?_
  ·skip
   exact ZI
  intro G34 f s a;refine Zn ?_;refine cY a (fun a=>?_) fun a=>?_
  ·refine Z7 a fun t B a=>?_;refine YU ?_;refine Zz ?_;refine KJ ?_;refine XA ?_
   refine pu ?_;refine Zv ?_;refine cY a (fun a=>?_) fun a=>?_
   ·refine Kr ?_;refine KI ?_;refine ZQ ?_;refine Ky ?_;obtain rfl:=K6 a;have a:=l
    refine ZQ ?_;obtain rfl:=Kf a;refine Ka4 ?_;have a:=j;refine Zk a fun a=>?_
    exact Xb a
   refine ZM ?_;obtain ⟨u,v,a⟩:=Ka a;refine pG (Kdf (⟨b.gL,f.2,b.gE,b.gn,b.gm⟩:Kg) (0:Int) t c g e u v) Wl Pf Pf ?_;refine Ys ?_;refine Zv ?_;refine cY a (fun a=>?_) fun a=>?_
   ·refine YA ?_
    refine pL 0 ?_;obtain ⟨w,x,a⟩:=Ka a;refine pG (Kbh (⟨b.gL,f.2,b.gE,b.gn,b.gm⟩:Kg) f.2 (3:Int) c g e w x) Wl Pf Pf ?_;refine Zi ?_;refine Yh ?_;refine KI ?_;refine Ky ?_;obtain rfl:=K6 a;have a:=l
    refine ZQ ?_;obtain rfl:=Kf a;refine Ka4 ?_;have a:=j;refine Zk a fun a=>?_
    exact Xb a
   refine ZK ?_;refine X9 ?_
   refine pS0 (ds':=[.lst 4 (b.gL.map Kl) e,iD (IntKind.i64.wrap (f.2+(1:Int))),iD b.gE,iD b.gn,iD b.gm]) ?_;refine Yf a ?_;exact ZI
  refine Zs ?_;obtain rfl:=K6 a;have a:=l
  exact Yn a
 intro n D y z;subst y;have a:=j;refine Zj a fun a=>?_;clear m j;refine retX.wkX z (fun p=>?_);exact Xb a
def KaQ (a:Kg):Option (ByteArray×Kg):=
 (bif (a.gE != (0:Int)) then some ((ByteArray.mk #[]),a) else ((Kav a (0:Int)).bind fun b=>(bif (b.gt != (1:Int)) then ((Kaz a a.gb (3:Int)).bind fun c=>some ((ByteArray.mk #[]),c)) else some (b.gr,(⟨a.gL,(IntKind.i64.wrap (a.gb+(1:Int))),a.gE,a.gn,a.gm⟩:Kg)))))
theorem W7 {A0 G:Prop}(a0:A0)(k:A0→G:=by intro _a;obtain rfl:=Kf _a;refine rP (t':=[(2,tD (ByteArray.mk #[]))]) [0] [] 1 (wC wN) (lT lN) ?_;exact Za):G:=k a0
theorem Kcx (b c f e r)(h0:KaQ b=some r):CallsD Tryz.prog 71 [.ptr c 0] [(c,Blk.cells (CZ7 b e) f)] [] (fun d h k=>d=tD r.1∧h=[(c,Blk.cells (CZ7 r.2 e) f)]∧k=[]):=by
 refine PZ1 h0 Tryz.func71 fun C a=>?_;refine Zn ?_;refine Yq ?_
 refine cY a (fun a=>?_) fun a=>?_
 ·refine Ye ?_;exact W7 a
 refine Zm ?_;refine ZD a fun g i a=>?_;refine pG (Kb0 b (0:Int) c f e g i) Wl Pf Pf ?_;refine Zi ?_;refine Zq fun m=>?_;refine pS1 (ds':=(CZ5 g)) ?_;refine Zr ?_;refine Yw ?_;refine Zv ?_;refine cY a (fun a=>?_) fun a=>?_
 ·refine YA ?_
  refine pL 0 ?_;obtain ⟨j,l,a⟩:=Ka a;refine pG (Kbh b b.gb (3:Int) c f e j l) Wl Pf Pf ?_;refine Yc ?_;refine Zu ?_;refine Ky ?_;exact W7 a
 refine Zm ?_;refine YE ?_
 refine pS0 (ds':=[.lst 4 (b.gL.map Kl) e,iD (IntKind.i64.wrap (b.gb+(1:Int))),iD b.gE,iD b.gn,iD b.gm]) ?_;refine Zo ?_;refine pL 1 ?_;refine Zu ?_;obtain rfl:=Kf a;refine rP (t':=[(2,tD g.gr)]) [0] [] 1 (wC wN) (lT lN) ?_;exact Za
def KY (a:Kg)(b:ByteArray):Option (Bool×Kg):=
 (Option.bind (α:=Bool) (bif (a.gE != (0:Int)) then some true else ((KaD a (0:Int) b).bind fun c=>some (!c))) fun d=>(bif d then some (false,a) else some (true,(⟨a.gL,(IntKind.i64.wrap (a.gb+(1:Int))),a.gE,a.gn,a.gm⟩:Kg))))
theorem KaB (b g c f e r)(h0:KY b g=some r):CallsD Tryz.prog 97 [.ptr c 0,tD g] [(c,Blk.cells (CZ7 b e) f)] [] (fun d h k=>d=.v (.bool r.1)∧h=[(c,Blk.cells (CZ7 r.2 e) f)]∧k=[]):=by
 refine PZ1 h0 Tryz.func97 fun C a=>?_;refine Zn ?_;refine ZA a fun n l m=>?_;refine Kaf (Y:=Unit) (fun o=>(⟨[(0,.ptr c 0),(15,.v (.bool n))],[(c,Blk.cells (CZ7 b e) f)],[]⟩:S)) ?_ ?_
 ·clear a;have a:=KE l;refine ZW ?_
  refine pL 0 ?_;refine Zl ?_;refine KaH (i:=10) rfl (fun j=>?_) (fun j=>?_)
  ·replace a:=yes_t j a;iterate 4 refine pK ?_
   refine ZB ?_;exact Z2 a
  replace a:=yes_f j a;refine Zl ?_;obtain ⟨p,q,a⟩:=Ka a;refine pG (Kdf b (0:Int) g c f e p q) Wl Pf Pf ?_;refine Ys ?_;refine ZE ?_;exact Z2 a
 intro t s;have a:=m;clear l m;refine Zb s fun o=>?_;refine cY a (fun a=>?_) fun a=>?_
 ·refine Ye ?_;obtain rfl:=Kf a;refine rP (t':=[(4,.v (.bool false))]) [0] [] 1 (wC wN) (lT lN) ?_;exact Za
 refine Zm ?_;refine YE ?_
 refine pS0 (ds':=[.lst 4 (b.gL.map Kl) e,iD (IntKind.i64.wrap (b.gb+(1:Int))),iD b.gE,iD b.gn,iD b.gm]) ?_;refine KH ?_;refine Zu ?_;obtain rfl:=Kf a;refine rP (t':=[(4,.v (.bool true))]) [0] [] 1 (wC wN) (lT lN) ?_;exact Za
abbrev qZ12:List ByteArray:=[(ByteArray.mk #[105,110,116])]
def KaW (c:Kg):Option (K3×Kg):=
 ((KQ c qZ12).bind fun d=>((KY d qZ16).bind fun b=>((KaQ b.2).bind fun a=>(bif (decide ((16:Int) < (IntKind.i64.wrap (a.2.gn+(1:Int))))) then ((Kaz (⟨a.2.gL,a.2.gb,a.2.gE,(IntKind.i64.wrap (a.2.gn+(1:Int))),a.2.gm⟩:Kg) b.2.gb (6:Int)).bind fun e=>some ((⟨a.1,b.1⟩:K3),e)) else some ((⟨a.1,b.1⟩:K3),(⟨a.2.gL,a.2.gb,a.2.gE,(IntKind.i64.wrap (a.2.gn+(1:Int))),a.2.gm⟩:Kg))))))
theorem Wd {R G:Prop}(h:R)(k:R→G:=by intro h;refine rP (t':=[(2,.ptr _ 0)]) [0,0] [] 1 (wC wN) (lC 1 lN) ?_;exact h):G:=k h
theorem YO {R G:Prop}(h:R)(k:R→G:=by intro h;refine Zo ?_;refine ZJ ?_;exact h):G:=k h
theorem W8 {A0 R G:Prop}(a0:A0)(h:R)(k:A0→R→G:=by intro _a h;refine Ka6 (Kao _ qZ12 _ _ _ _ _a) rfl rfl rfl rfl rfl (WkL.cons (Wk.refl _) (WkL.cons (Wk.no) Wl)) Pf Pf ?_;exact h):G:=k a0 h
theorem WC {A0 G:Prop}(a0:A0)(k:A0→G:=by intro _a;refine ZG ?_;obtain rfl:=Kf _a;refine Wd ?_;exact Za):G:=k a0
theorem KeM (j e g f r)(h0:KaW j=some r):CallsD Tryz.prog 73 [.ptr e 0] [(e,Blk.cells (CZ7 j f) g)] [] (fun d h k=>d=Ku r.1∧h=[(e,Blk.cells (CZ7 r.2 f) g)]∧k=[]):=by
 refine PZ1 h0 Tryz.func73 fun C b=>?_;refine Yl fun s=>?_;refine YO ?_;refine p_eq (i:=6) (d':=.lst 1 (qZ12.map eStr) .full) rfl (Wk.lst0 (.cons (WkC.refl _) (.nil))) ?_;obtain ⟨l,m,b⟩:=Ka b;refine W8 m ?_
 refine Zi ?_;refine Zo ?_;obtain ⟨c,n,b⟩:=Ka b;refine pG (KaB l qZ16 e g f c n) Wl Pf Pf ?_;refine Zi ?_;refine KbC (r:=[tD ByteArray.empty,.v (.bool c.1)]) htab rfl rfl rfl rfl rfl rfl rfl rfl rfl ?_;refine Zq fun t=>?_;refine pS2 (ds':=[tD ByteArray.empty,.v (.bool c.1)]) ?_;refine Yt ?_
 refine pL 0 ?_;refine Yo ?_;obtain ⟨a,o,b⟩:=Ka b;refine pG (Kcx c.2 e g f a o) Wl Pf Pf ?_;refine Ys ?_;refine pS2 (ds':=[tD a.1,.v (.bool c.1)]) ?_;refine Zr ?_;refine YE ?_
 refine pS0 (ds':=[.lst 4 (a.2.gL.map Kl) f,iD a.2.gb,iD a.2.gE,iD (IntKind.i64.wrap (a.2.gn+(1:Int))),iD a.2.gm]) ?_;refine Yt ?_
 refine pL 0 ?_;refine Zv ?_;refine cY b (fun b=>?_) fun b=>?_
 ·refine ZU ?_;obtain ⟨p,q,b⟩:=Ka b;refine pG (Kbh (⟨a.2.gL,a.2.gb,a.2.gE,(IntKind.i64.wrap (a.2.gn+(1:Int))),a.2.gm⟩:Kg) c.2.gb (6:Int) e g f p q) Wl Pf Pf ?_;refine Yc ?_;refine Kaa (d:=Ku (⟨a.1,c.1⟩:K3)) 2 htab rfl rfl rfl rfl rfl rfl rfl rfl ?_;refine pS1 (ds':=[tD a.1,.v (.bool c.1)]) ?_;exact WC b
 refine Zm ?_;refine Kd ?_;refine Kaa (d:=Ku (⟨a.1,c.1⟩:K3)) 2 htab rfl rfl rfl rfl rfl rfl rfl rfl ?_;refine pS1 (ds':=[tD a.1,.v (.bool c.1)]) ?_;exact WC b
def KbI (g:Kg):Option (List K3×Kg):=
 ((KQ g ([qZ8]:List ByteArray)).bind fun h=>((KY h qZ10).bind fun c=>(bif c.1 then some (([]:List K3),c.2) else (Option.bind (α:=List K3×List KB×Int×Int×Int×Int) (loopM (fun (a:List K3×List KB×Int×Int×Int×Int)=>(bif (a.2.2.2.1==(0:Int)) then ((KaW (⟨a.2.1,a.2.2.1,a.2.2.2.1,a.2.2.2.2.1,a.2.2.2.2.2⟩:Kg)).bind fun e=>((app 24 a.1 ([e.1]:List K3)).bind fun f=>((KY e.2 (ByteArray.mk #[44])).bind fun b=>(bif (!b.1) then some (.done (f,b.2.gL,b.2.gb,b.2.gE,b.2.gn,b.2.gm)) else some (.next (f,b.2.gL,b.2.gb,b.2.gE,b.2.gn,b.2.gm)))))) else some (.done (a.1,a.2.1,a.2.2.1,a.2.2.2.1,a.2.2.2.2.1,a.2.2.2.2.2)))) (([]:List K3),c.2.gL,c.2.gb,c.2.gE,c.2.gn,c.2.gm)) fun d=>((KQ (⟨d.2.1,d.2.2.1,d.2.2.2.1,d.2.2.2.2.1,d.2.2.2.2.2⟩:Kg) ([qZ10]:List ByteArray)).bind fun i=>some (d.1,i))))))
theorem Ua {A0 R G:Prop}(a0:A0)(h:R)(k:A0→R→G:=by intro _a h;refine Ka6 (Kao _ ([qZ8]:List ByteArray) _ _ _ _ _a) rfl rfl rfl rfl rfl (WkL.cons (Wk.refl _) (WkL.cons (Wk.no) Wl)) Pf Pf ?_;refine Zi ?_;exact h):G:=k a0 h
theorem YS {R G:Prop}(h:R)(k:R→G:=by intro h;refine Zi ?_;refine Zv ?_;exact h):G:=k h
theorem KhT (n b f o r)(h0:KbI n=some r):CallsD Tryz.prog 72 [.ptr b 0,.fn (.func 73) [.ptr b 0] []] [(b,Blk.cells (CZ7 n o) f)] [] (fun d h k=>∃ p,d=.lst 2 (r.1.map Ku) (.cur p)∧h=[(b,Blk.cells (CZ7 r.2 .no) f)]∧k=[(2,p)]):=by
 refine PZ1 h0 Tryz.func72 fun C a=>?_;refine Zd ?_;refine Zo ?_;refine YO ?_;refine p_eq (i:=7) (d':=.lst 1 (([qZ8]:List ByteArray).map eStr) .full) rfl (Wk.lst0 (.cons (WkC.refl _) (.nil))) ?_;obtain ⟨v,w,a⟩:=Ka a;refine Ua w ?_;refine Zr ?_
 refine ZD a fun j x a=>?_;refine pG (KaB v qZ10 b f o j x) Wl Pf Pf ?_;refine Zi ?_;refine Kb ?_;refine cY a (fun a=>?_) fun a=>?_
 ·refine Yz ?_;refine Ky ?_;obtain rfl:=Kf a;refine retX.tokN (i:=4) 2 rfl (fun q=>?_);refine retX.wk (WkS.bl0 (ds':=(CZ7 j.2 .no)) (rO (rC (rC (rC (rC WkR.nil)))))) ?_;refine rP (t':=[(4,.lst 2 (([]:List K3).map Ku) (.cur q))]) [0] [0] 1 (wC wN) (lT lN) ?_;exact ⟨q,rfl,rfl,rfl⟩
 refine ZO ?_;obtain ⟨c,s,t⟩:=Ka a;refine Kaf (Y:=Value) (fun g=>(⟨[(0,.ptr b 0),(5,.lst 2 (c.1.map Ku) (.cur g))],[(b,Blk.cells [.lst 4 (c.2.1.map Kl) .no,iD c.2.2.1,iD c.2.2.2.1,iD c.2.2.2.2.1,iD c.2.2.2.2.2] f)],[(2,g)]⟩:S)) ?_ ?_
 ·clear a;have a:=KE s;refine Zy a fun K y u=>?_;refine KaO (Y:=Value) y (fun e l=>(⟨[(0,.ptr b 0),(1,.fn (.func 73) [.ptr b 0] []),(5,.lst 2 (e.1.map Ku) (.cur l))],[(b,Blk.cells [.lst 4 (e.2.1.map Kl) .no,iD e.2.2.1,iD e.2.2.2.1,iD e.2.2.2.2.1,iD e.2.2.2.2.2] f)],[(2,l)]⟩:S)) ?_ ?_
  ·skip
   refine WkX.tokN (i:=5) 2 rfl (fun z=>?_);refine WkX.wk (WkS.bl0 (ds':=(CZ7 j.2 .no)) (rO (rC (rC (rC (rC WkR.nil)))))) ?_;exact WkX.of z (wP (wC (wC (wC wN))))
  intro G28 e l a;refine Km ?_;refine Yq ?_
  refine cY a (fun a=>?_) fun a=>?_
  ·refine Zm ?_;refine KJ ?_;refine ZM ?_;obtain ⟨m,A,a⟩:=Ka a;refine KdG (KeM (⟨e.2.1,e.2.2.1,e.2.2.2.1,e.2.2.2.2.1,e.2.2.2.2.2⟩:Kg) b f .no m A) rfl rfl rfl rfl rfl rfl rfl Wl Pf Pf ?_;refine Zi ?_;refine ZJ ?_;refine p_eq (i:=20) (d':=.lst 2 (([m.1]:List K3).map Ku) .full) rfl (Wk.lst0 (.cons (WkC.refl _) (.nil))) ?_;refine Xv a fun L B a D=>?_
   refine Kgf (i:=21) B rfl ?_;refine Yo ?_;obtain ⟨E,F,a⟩:=Ka a;refine pG (KaB m.2 (ByteArray.mk #[44]) b f .no E F) Wl Pf Pf ?_;refine YS ?_;refine cY a (fun a=>?_) fun a=>?_
   ·refine Kas ?_;refine Kgd rfl ?_;obtain rfl:=K6 a;have a:=u
    exact Y9 a
   refine Kx ?_;refine Xa a ?_;exact WkX.of D (wP (wC (wC (wC wN))))
  refine Zs ?_;obtain rfl:=K6 a;have a:=u
  exact Y9 a
 intro M H;have a:=t;clear s t;refine Zb H fun g=>?_;refine Zd ?_;refine ZJ ?_;refine p_eq (i:=26) (d':=.lst 1 (([qZ10]:List ByteArray).map eStr) .full) rfl (Wk.lst0 (.cons (WkC.refl _) (.nil))) ?_;obtain ⟨I,J,a⟩:=Ka a;refine Ka6 (Kao (⟨c.2.1,c.2.2.1,c.2.2.2.1,c.2.2.2.2.1,c.2.2.2.2.2⟩:Kg) ([qZ10]:List ByteArray) b f .no I J) rfl rfl rfl rfl rfl (WkL.cons (Wk.refl _) (WkL.cons (Wk.no) Wl)) Pf Pf ?_;refine Zi ?_
 refine Zo ?_;refine Zu ?_;obtain rfl:=Kf a;refine rP (t':=[(4,.lst 2 (c.1.map Ku) (.cur g))]) [0] [0] 1 (wC wN) (lT lN) ?_;exact ⟨g,rfl,rfl,rfl⟩
abbrev qZ3:List ByteArray:=[(ByteArray.mk #[59])]
def Kbc (m2:KG)(m1:Kg):Option (Kg×KG):=
 (Option.bind (α:=List KB×Int×Int×Int×Int×List K3) (loopM (fun (a:List KB×Int×Int×Int×Int×List K3)=>(Option.bind (α:=Bool) (bif (a.2.2.1==(0:Int)) then ((KaD (⟨a.1,a.2.1,a.2.2.1,a.2.2.2.1,a.2.2.2.2.1⟩:Kg) (0:Int) (ByteArray.mk #[105,110,116])).bind fun e=>some e) else some false) fun f=>(bif f then ((KaW (⟨a.1,a.2.1,a.2.2.1,a.2.2.2.1,a.2.2.2.2.1⟩:Kg)).bind fun d=>((app 24 a.2.2.2.2.2 ([d.1]:List K3)).bind fun g=>((KQ d.2 qZ3).bind fun c=>some (.next (c.gL,c.gb,c.gE,c.gn,c.gm,g))))) else some (.done (a.1,a.2.1,a.2.2.1,a.2.2.2.1,a.2.2.2.2.1,a.2.2.2.2.2))))) (m1.gL,m1.gb,m1.gE,m1.gn,m1.gm,m2.gh)) fun b=>some ((⟨b.1,b.2.1,b.2.2.1,b.2.2.2.1,b.2.2.2.2.1⟩:Kg),(⟨m2.ga,m2.gf,b.2.2.2.2.2,m2.gp,m2.gb⟩:KG)))
theorem YT {R G:Prop}(h:R)(k:R→G:=by intro h;refine zx_e rfl rfl (Kam htab rfl) rfl rfl rfl rfl rfl rfl rfl rfl ?_;exact h):G:=k h
theorem Ub {R G:Prop}(h:R)(k:R→G:=by intro h;refine zx_M rfl rfl (fun _=>KN 0 htab rfl rfl rfl rfl rfl) (offB rfl) rfl rfl rfl rfl rfl rfl rfl rfl ?_;exact h):G:=k h
theorem KgG (m2 m1 f p c l J g q m A n r)(h0:Kbc m2 m1=some r):CallsD Tryz.prog 75 [.ptr f 0,.ptr g 0] [(f,Blk.cells [.ptr c 0] p),(c,Blk.cells (CZ7 m1 J) l),(g,Blk.cells (CZ3 m2 m (.cur A) n) q)] [(2,A)] (fun d h k=>∃ B,d=.tup []∧h=[(f,Blk.cells [.ptr c 0] p),(c,Blk.cells (CZ7 r.1 .no) l),(g,Blk.cells (CZ3 r.2 m (.cur B) n) q)]∧k=[(2,B)]):=by
 refine PZ1 h0 Tryz.func75 fun C a=>?_;obtain ⟨s,D,E⟩:=Ka a;refine Kaf (Y:=Value) (fun u=>(⟨[],[(f,Blk.cells [.ptr c 0] p),(c,Blk.cells [.lst 4 (s.1.map Kl) .no,iD s.2.1,iD s.2.2.1,iD s.2.2.2.1,iD s.2.2.2.2.1] l),(g,Blk.cells [tD m2.ga,.lst 2 (m2.gf.map Ku) m,.lst 2 (s.2.2.2.2.2.map Ku) (.cur u),.lst 7 (m2.gp.map Kh) n,iD m2.gb] q)],[(2,u)]⟩:S)) ?_ ?_
 ·clear a;have a:=KE D;refine Zy a fun ac K L=>?_;refine KaO (Y:=Value) K (fun b o=>(⟨[(0,.ptr f 0),(1,.ptr g 0)],[(f,Blk.cells [.ptr c 0] p),(c,Blk.cells [.lst 4 (b.1.map Kl) .no,iD b.2.1,iD b.2.2.1,iD b.2.2.2.1,iD b.2.2.2.2.1] l),(g,Blk.cells [tD m2.ga,.lst 2 (m2.gf.map Ku) m,.lst 2 (b.2.2.2.2.2.map Ku) (.cur o),.lst 7 (m2.gp.map Kh) n,iD m2.gb] q)],[(2,o)]⟩:S)) ?_ ?_
  ·skip
   refine WkX.wk (WkS.bl1 (ds':=(CZ7 m1 .no)) (rO (rC (rC (rC (rC WkR.nil)))))) ?_;exact XB
  intro G33 b o a;refine Km ?_;refine ZA a fun M F H=>?_;refine Kaf (Y:=Unit) (fun N=>(⟨[(0,.ptr f 0),(1,.ptr g 0),(10,.v (.bool M))],[(f,Blk.cells [.ptr c 0] p),(c,Blk.cells [.lst 4 (b.1.map Kl) .no,iD b.2.1,iD b.2.2.1,iD b.2.2.2.1,iD b.2.2.2.2.1] l),(g,Blk.cells [tD m2.ga,.lst 2 (m2.gf.map Ku) m,.lst 2 (b.2.2.2.2.2.map Ku) (.cur o),.lst 7 (m2.gp.map Kh) n,iD m2.gb] q)],[(2,o)]⟩:S)) ?_ ?_
  ·clear a;have a:=KE F;refine Kz ?_;refine pL 0 ?_;refine Zl ?_;refine pL 1 ?_;refine Zl ?_;refine KaH (i:=7) rfl (fun w=>?_) (fun w=>?_)
   ·replace a:=yes_t w a;refine pL 0 ?_;obtain ⟨O,P,a⟩:=Ka a;refine pG (Kdf (⟨b.1,b.2.1,b.2.2.1,b.2.2.2.1,b.2.2.2.2.1⟩:Kg) (0:Int) (ByteArray.mk #[105,110,116]) c l .no O P) Wl ((KZ (j:=1) rfl).trans (List.Perm.cons _ Pf)) Pf ?_;refine Zi ?_;refine ZB ?_;refine KC ?_;obtain rfl:=Kf a;refine ⟨rfl,?_⟩;exact wO (WkS.perm (wC (wC (wC wN))) ((KZ (j:=1) rfl).trans (List.Perm.cons _ ((KZ (j:=0) rfl).trans (List.Perm.cons _ ((KZ (j:=0) rfl).trans (List.Perm.cons _ Pf)))))) Pf)
   replace a:=yes_f w a;refine Yp ?_;exact Xf a
  intro ad Q;have a:=H;clear F H;refine Zb Q fun N=>?_;refine cY a (fun a=>?_) fun a=>?_
  ·refine Zm ?_;refine KJ ?_;refine ZA a fun t T a=>?_
   refine Kfk (X:=BK) 5 [] [[],[0],[],[2],[2,3]] [0,1,2,3,4] [[],[0],[],[2],[2,3],[0,1,2,3,4],[0,1,2,3,4,5],[0,1,2,3,4,5,6]] ⟨3,fun x=>x.1++[(f,Blk.cells [.ptr c 0] p),(g,Blk.cells [tD m2.ga,.lst 2 (m2.gf.map Ku) m,.lst 2 (b.2.2.2.2.2.map Ku) (.cur o),.lst 7 (m2.gp.map Kh) n,iD m2.gb] q)],fun x=>x.2++[(2,o)],fun x=>x.1=[(c,Blk.cells (CZ7 t.2 .no) l)]∧x.2=[]⟩ ([],[]) (by kernel_rfl) (by kernel_rfl) (by kernel_rfl) (by rfl) (by rfl) (by kernel_rfl) ?_;iterate 5 apply Exists.intro
   intro bs;refine YT ?_;refine zx_M rfl rfl (fun _=>KN 2 htab rfl rfl rfl rfl rfl) (fun _ ⟨x1,x2⟩ ⟨y,z⟩=>by cases y;cases z;exact KN 2 htab rfl rfl rfl rfl rfl) rfl rfl rfl rfl rfl rfl rfl rfl ?_;refine Ub ?_
   refine KgB (h1:=[(c,Blk.cells [.lst 4 (b.1.map Kl) .no,iD b.2.1,iD b.2.2.1,iD b.2.2.2.1,iD b.2.2.2.2.1] l)]) (k1:=[]) (d:=Ku t.1) rfl rfl rfl (KeM (⟨b.1,b.2.1,b.2.2.1,b.2.2.2.1,b.2.2.2.2.1⟩:Kg) c l .no t T) rfl rfl Wl ((KZ (j:=1) rfl).trans (List.Perm.cons _ Pf)) Pf (fun _=>rfl) (fun _=>rfl) (fun d' h' k' ⟨y,z,U⟩=>⟨⟨z,U⟩,by subst y;exact Wk.refl _⟩) rfl rfl rfl rfl rfl rfl ?_
   refine zx_E rfl rfl (ExE.wk (x_lit htab rfl rfl rfl rfl rfl rfl rfl rfl rfl rfl rfl) (show Wk _ (.lst 2 (([t.1]:List K3).map Ku) .full) from Wk.lst0 (.cons (WkC.refl _) (.nil)))) rfl rfl rfl rfl rfl rfl rfl rfl ?_
   refine Khe (h2:=[(f,Blk.cells [.ptr c 0] p),(g,Blk.cells [tD m2.ga,.lst 2 (m2.gf.map Ku) m,.lst 2 (b.2.2.2.2.2.map Ku) (.cur o),.lst 7 (m2.gp.map Kh) n,iD m2.gb] q)]) (hz:=[(f,Blk.cells [.ptr c 0] p),(g,Blk.cells [tD m2.ga,.lst 2 (m2.gf.map Ku) m,.lst 2 (b.2.2.2.2.2.map Ku) (.cur o),.lst 7 (m2.gp.map Kh) n,iD m2.gb] q)]) rfl rfl (fun _=>rfl) (fun _=>rfl) rfl (fun e he=>by simp [isAl] at he) ?_;rintro _ _ ⟨rfl,rfl⟩;refine Xv a fun V W a I=>?_
   refine Kgf (i:=16) W rfl ?_;refine pu ?_;refine pS2 (ds':=[tD m2.ga,.lst 2 (m2.gf.map Ku) m,.lst 2 (V.map Ku) (.cur I),.lst 7 (m2.gp.map Kh) n,iD m2.gb]) ?_;refine Kb ?_;refine Kz ?_;refine pL 1 ?_;refine ZJ ?_;refine p_eq (i:=19) (d':=.lst 1 (qZ3.map eStr) .full) rfl (Wk.lst0 (.cons (WkC.refl _) (.nil))) ?_;obtain ⟨Z,aa,a⟩:=Ka a
   refine Ka6 (Kao t.2 qZ3 c l .no Z aa) rfl rfl rfl rfl rfl (WkL.cons (Wk.refl _) (WkL.cons (Wk.no) Wl)) Pf Pf ?_;refine Zi ?_;refine KC ?_;refine Xa a ?_;exact WkX.of I (WkS.perm (wC (wC wN)) ((KZ (j:=1) rfl).trans (List.Perm.cons _ ((KZ (j:=0) rfl).trans (List.Perm.cons _ ((KZ (j:=0) rfl).trans (List.Perm.cons _ Pf)))))) Pf)
  refine Zs ?_;obtain rfl:=K6 a;have a:=L
  exact W4 a
 intro ag ab;have a:=E;clear D E;refine retX.wkX ab (fun u=>?_);obtain rfl:=Kf a;refine rP (t':=[]) [0,0,0] [0] 3 wN lN ?_;exact ⟨u,rfl,rfl,rfl⟩
structure Ki where
 gL:List KB
 gb:Int
 gE:Int
def Ka8 (a:Ki):Option (KB):=
 (bif (decide ((a.gL.length:Int)≤a.gb)) then some (⟨(0:Int),ByteArray.empty,(0:Int),(0:Int)⟩:KB) else ((idx a.gL a.gb).bind fun b=>some b))
abbrev CZ8 (x:Ki)(c0:Cap):List D:=[.lst 4 (x.gL.map Kl) c0,iD x.gb,iD x.gE]
theorem KdP (b c e f r)(h0:Ka8 b=some r):CallsD Tryz.prog 145 [.ptr c 0] [(c,Blk.cells (CZ8 b f) e)] [] (fun d h k=>d=Kl r∧h=[(c,Blk.cells (CZ8 b f) e)]∧k=[]):=by
 refine PZ1 h0 Tryz.func145 fun C a=>?_;refine Yl fun i=>?_;refine Zr ?_;refine Km ?_;refine Kaj 9 [] [[],[0],[0,1],[0,1,2],[],[4],[4,5],[4,5,6],[4,5,6,7]] [0,1,2,4,5,6,7] [[],[0],[0,1],[0,1,2],[],[4],[4,5],[4,5,6],[4,5,6,7],[0,1,2,3,4,5,6,7,8]] (by kernel_rfl) (by kernel_rfl) (by kernel_rfl) (by rfl) (by rfl) (by kernel_rfl) ?_;iterate 7 apply Exists.intro
 intro bs;iterate 3 refine zep ?_
 refine Xk ?_;refine W6 ?_
 refine cY a (fun a=>?_) fun a=>?_
 ·refine Kd ?_;refine KbC (r:=qZ7) htab rfl rfl rfl rfl rfl rfl rfl rfl rfl ?_;refine pS1 (ds':=qZ7) ?_;refine Yi ?_;obtain rfl:=Kf a;refine Wd ?_;exact Za
 refine ZO ?_;refine Kaj 8 [] [[],[0],[0,1],[0,1,2],[],[4],[4,5],[4,5,6]] [0,1,2,3,4,5,6] [[],[0],[0,1],[0,1,2],[],[4],[4,5],[4,5,6],[0,1,2,3,4,5,6,7],[0,1,2,3,4,5,6,7,8],[0,1,2,3,4,5,6,7,8,9]] (by kernel_rfl) (by kernel_rfl) (by kernel_rfl) (by rfl) (by rfl) (by kernel_rfl) ?_;iterate 7 apply Exists.intro
 intro bs;refine Xm ?_
 refine ZC ?_;refine ZX a fun g j a=>?_;refine WB ?_;refine pS1 (ds':=(CZ5 g)) ?_;exact WC a
def Kce (b:Ki)(c:ByteArray):Option (Bool):=
 ((Ka8 b).bind fun a=>(bif (a.gt==(3:Int)) then some (decide (a.gr=c)) else some false))
theorem KgV (b e c f g r)(h0:Kce b e=some r):CallsD Tryz.prog 153 [.ptr c 0,tD e] [(c,Blk.cells (CZ8 b g) f)] [] (fun d h k=>d=.v (.bool r)∧h=[(c,Blk.cells (CZ8 b g) f)]∧k=[]):=by
 refine PZ1 h0 Tryz.func153 fun C a=>?_;refine Zd ?_;refine Zo ?_;obtain ⟨j,m,a⟩:=Ka a;refine pG (KdP b c f g j m) Wl Pf Pf ?_;refine Zi ?_;refine Zq fun n=>?_;refine pS1 (ds':=(CZ5 j)) ?_;refine Zo ?_;refine pL 1 ?_;refine Zl ?_;refine KaH (i:=11) rfl (fun l=>?_) (fun l=>?_)
 ·replace a:=yes_t l a;refine ZP ?_;refine Zl ?_;refine ZB ?_;refine Zu ?_;obtain rfl:=Kf a;refine rP (t':=[(4,.v (.bool (decide (j.gr=e))))]) [0] [] 1 (wC wN) (lT lN) ?_;exact Za
 replace a:=yes_f l a;iterate 4 refine pK ?_
 refine ZE ?_;refine Zu ?_;obtain rfl:=Kf a;refine rP (t':=[(4,.v (.bool false))]) [0] [] 1 (wC wN) (lT lN) ?_;exact Za
def Ka9 (a:Ki)(b:Int)(c:Int):Option (Ki):=
 (bif (a.gE==(0:Int)) then some (⟨a.gL,b,c⟩:Ki) else some a)
theorem Kdg (a c f g i e r)(h0:Ka9 a c f=some r):CallsD Tryz.prog 150 [.ptr g 0,iD c,iD f] [(g,Blk.cells (CZ8 a e) i)] [] (fun d h k=>d=.tup []∧h=[(g,Blk.cells (CZ8 r e) i)]∧k=[]):=by
 refine PZ1 h0 Tryz.func150 fun C b=>?_;refine Yq ?_
 refine cY b (fun b=>?_) fun b=>?_
 ·refine Kz ?_;iterate 6 refine pu ?_
  refine pS0 (ds':=[.lst 4 (a.gL.map Kl) e,iD c,iD a.gE]) ?_;refine Zl ?_;refine pS0 (ds':=[.lst 4 (a.gL.map Kl) e,iD c,iD f]) ?_;refine KC ?_;exact Xb b
 refine Kx ?_;exact Xb b
def Kcp (a:Ki)(b:ByteArray):Option (Ki):=
 ((Kce a b).bind fun c=>(bif (!c) then ((Ka9 a a.gb (3:Int)).bind fun d=>some d) else some (⟨a.gL,(IntKind.i64.wrap (a.gb+(1:Int))),a.gE⟩:Ki)))
theorem KjC (b g c f e r)(h0:Kcp b g=some r):CallsD Tryz.prog 156 [.ptr c 0,tD g] [(c,Blk.cells (CZ8 b e) f)] [] (fun d h k=>d=.tup []∧h=[(c,Blk.cells (CZ8 r e) f)]∧k=[]):=by
 refine PZ1 h0 Tryz.func156 fun C a=>?_;refine YX ?_;obtain ⟨i,j,a⟩:=Ka a;refine pG (KgV b g c f e i j) Wl Pf Pf ?_;refine YS ?_;refine cY a (fun a=>?_) fun a=>?_
 ·refine YA ?_
  refine pL 0 ?_;obtain ⟨l,m,a⟩:=Ka a;refine pG (Kdg b b.gb (3:Int) c f e l m) Wl Pf Pf ?_;refine Zi ?_;refine Yi ?_;exact Xb a
 refine Zm ?_;refine X9 ?_
 refine pS0 (ds':=[.lst 4 (b.gL.map Kl) e,iD (IntKind.i64.wrap (b.gb+(1:Int))),iD b.gE]) ?_;refine KC ?_;exact Xb a
def Kda (g0:(Ke)→Option (Int))(a0:Ke):Option (Int):=
 (Option.bind (α:=Int) (loopM (fun (a:Int×Int)=>(bif (decide (a.2 < (a0.gc.length:Int))) then ((idx a0.gc a.2).bind fun b=>((g0 b).bind fun c=>some (.next ((max a.1 c),(IntKind.i64.wrap (a.2+(1:Int))))))) else some (.done a.1))) ((0:Int),(0:Int))) fun d=>some (IntKind.i64.wrap (d+(1:Int))))
theorem Uc {G:Prop}{g:Sort _}{R:(u:g)→Prop}(h:∀ u,R u)(k:(∀ u,R u)→G:=by intro h;refine Y5 ?_;refine Zq fun _l=>?_;refine pS0 (ds':=(CZ0 _ .no)) ?_;refine Kb ?_;refine ZN ?_;refine Kaa (d:=.agg (CZ0 _ .no)) 0 htab rfl rfl rfl rfl rfl rfl rfl rfl ?_;exact h _l):G:=k h
theorem Kld (g0:(Ke)→Option (Int))(j:∀ (a0:Ke) (r:Int) (h0:g0 a0=some r),CallsD Tryz.prog 152 [Kk a0] [] [] (fun d h k=>d=iD r∧h=[]∧k=[]))(a0 r)(h0:Kda g0 a0=some r):CallsD Tryz.prog 152 [Kk a0] [] [] (fun d h k=>d=iD r∧h=[]∧k=[]):=by
 refine PZ1 h0 Tryz.func152 fun C a=>?_;refine XH fun t=>?_;refine YI ?_;refine Zz ?_;refine ZR ?_;refine ZF ?_;obtain ⟨c,e,f⟩:=Ka a;refine Kaf (Y:=Unit) (fun l=>(⟨[(3,iD c)],[],[]⟩:S)) ?_ ?_
 ·clear a;have a:=KE e;refine Zy a fun v m n=>?_;refine KaO (Y:=Unit) m (fun b o=>(⟨[(3,iD b.1),(7,.lst 5 (a0.gc.map Kk) .no),(8,iD (a0.gc.length:Int)),(9,iD b.2)],[],[]⟩:S)) ?_ ?_
  ·skip
   exact ZI
  intro G19 b o a;refine Zn ?_;refine cY a (fun a=>?_) fun a=>?_
  ·refine Z7 a fun p w a=>?_;refine p_eq (i:=11) rfl (Wk.of_eq (congrArg D.el (Ko p))) ?_;refine Uc fun x=>?_
   obtain ⟨y,q,a⟩:=Ka a;refine W0 j q ?_;refine p_max rfl rfl rfl rfl rfl rfl ?_;refine pu ?_;refine Yf a ?_;exact ZI
  refine Zs ?_;obtain rfl:=K6 a;have a:=n
  exact Y0 a
 intro z s;have a:=f;clear e f;refine Zb s fun l=>?_;refine ZS ?_
 refine ZG ?_;obtain rfl:=Kf a;refine rP (t':=[(2,iD (IntKind.i64.wrap (c+(1:Int))))]) [] [] 0 (wC wN) (lT lN) ?_;exact Za
def Kb1:Nat→((Ke)→Option (Int))
 | 0=>(fun _=>none)
 | n+1=>(Kda ((Kb1 n)))
theorem KiE:∀ n,(∀ (a0:Ke) (r:Int) (h0:(Kb1 n) a0=some r),CallsD Tryz.prog 152 [Kk a0] [] [] (fun d h k=>d=iD r∧h=[]∧k=[]))
 | 0=>fun _ _ h0=>by cases h0
 |
  n+1=>by
  have ih:=KiE n;exact Kld (Kb1 n) ih
theorem KiF:∀ n,(∀ (a0:Ke),Le ((Kb1 n) a0) ((Kb1 (n+1)) a0))
 | 0=>fun _=>Le.none _
 |
  n+1=>by
  have ih:=KiF n;exact fun a0=>by show Le (Kda ((Kb1 n)) a0) (Kda ((Kb1 (n+1))) a0);revert ih;generalize Kb1 n=G0;generalize Kb1 (n+1)=G1;intro ih;unfold Kda;repeat (first|with_reducible exact Le.refl _|with_reducible exact ih _|with_reducible assumption|(refine Le.bind ?_ (fun _=>?_))|(refine Le.cond ?_ ?_)|(refine Le.loop (fun _=>?_))|(refine Le.elim (fun _=>?_) (fun _=>?_)))
def KfT (a0:Ke):Option (Int):=anyN fun n=>(Kb1 n) a0
theorem KjP (a0:Ke){r:Int}(n:Nat)(h:(Kb1 n) a0=some r):KfT a0=some r:=KdY (fun m=>(KiF m) a0) h
theorem KlS (a0 r)(h0:KfT a0=some r):CallsD Tryz.prog 152 [Kk a0] [] [] (fun d h k=>d=iD r∧h=[]∧k=[]):=
 let ⟨n,hn⟩:=Kc4 h0;(KiE n) a0 r hn
abbrev qZ4:Ke:=⟨(0:Int),(0:Int),ByteArray.empty,[],(0:Int)⟩
def KaY (a:Ki)(b:Ke)(c:Int):Option (Ke×Ki):=
 (bif (a.gE != (0:Int)) then some (qZ4,a) else ((KfT b).bind fun d=>(bif (decide ((24:Int) < d)) then ((Ka9 a c (5:Int)).bind fun e=>some (qZ4,e)) else some (b,a))))
theorem Xc {G:Prop}(k:G:=by refine rP (t':=[(6,.ptr _ 0)]) [0,1] [] 1 (wC wN) (lC 1 lN) ?_;exact WRZ):G:=k
theorem Xo {R G:Prop}(h:R)(k:R→G:=by intro h;refine KbC (r:=qZ0) htab rfl rfl rfl rfl rfl rfl rfl rfl rfl ?_;exact h):G:=k h
theorem Ud {R G:Prop}(h:R)(k:R→G:=by intro h;refine retX.wk (WkS.bl2 (ds':=[iD (0:Int),iD (0:Int),tD ByteArray.empty,.lst 5 (([]:List Ke).map Kk) .no,iD (0:Int)]) (rC (rC (rC (WkR.cons (WkC.nil) rfl (rC WkR.nil)))))) ?_;exact h):G:=k h
theorem WRZ {a b c:Prop}(h:a:=by first|rfl|(simp only [wrapD,Ko];done)|(simp only [wrapD,Ko];rfl))(h2:b:=by rfl)(o:c:=by rfl):a∧b∧c:=⟨h,h2,o⟩
abbrev qZ0:List D:=[iD (0:Int),iD (0:Int),tD ByteArray.empty,.lst 1 [] .full,iD (0:Int)]
theorem KeC (j f l g m n r)(h0:KaY j f l=some r):CallsD Tryz.prog 147 [.ptr g 0,Kk f,iD l] [(g,Blk.cells (CZ8 j n) m)] [] (fun d h k=>d=Kk r.1∧h=[(g,Blk.cells (CZ8 r.2 n) m)]∧k=[]):=by
 refine PZ1 h0 Tryz.func147 fun C e=>?_;refine w_eq (i:=1) rfl (Wk.of_eq (Ko f)) ?_;refine ZH fun u=>?_;refine Zq fun v=>?_;refine Zr ?_;refine Yq ?_
 refine cY e (fun e=>?_) fun e=>?_
 ·refine Kd ?_;refine Xo ?_;refine pS2 (ds':=qZ0) ?_;refine Yi ?_;obtain rfl:=Kf e;refine Ud ?_;exact Xc
 refine ZO ?_;refine Kd ?_;refine Xw ?_;obtain ⟨p,q,e⟩:=Ka e;refine K5 (KlS f p q) rfl rfl rfl rfl rfl (WkL.cons (Wk.trans (Wk.agg (WkR.refl _)) (Wk.of_eq (Ko f).symm)) Wl) ?_;rintro _ rfl;refine Zv ?_;refine cY e (fun e=>?_) fun e=>?_
 ·refine ZM ?_;obtain ⟨s,t,e⟩:=Ka e;refine pG (Kdg j l (5:Int) g m n s t) Wl Pf Pf ?_;refine Yc ?_;refine Xo ?_;refine pS2 (ds':=qZ0) ?_;refine Yi ?_;obtain rfl:=Kf e
  refine Ud ?_;exact Xc
 refine Zm ?_;refine Kd ?_;refine Xw ?_;refine pS2 (ds':=(CZ0 f .no)) ?_;refine ZG ?_;obtain rfl:=Kf e;exact Xc
def KcC (a0:ByteArray)(a:ByteArray)(b:Int)(c:ByteArray)(d:Int):Option (Int):=
 (bif (decide (a0=a)) then some b else (bif (decide (a0=c)) then some d else some (0:Int)))
theorem KeN (a0 e b f c r)(h0:KcC a0 e b f c=some r):CallsD Tryz.prog 151 [tD a0,tD e,iD b,tD f,iD c] [] [] (fun d h k=>d=iD r∧h=[]∧k=[]):=by
 refine PZ1 h0 Tryz.func151 fun C a=>?_;refine Zn ?_;refine Yx ?_;refine KJ ?_;refine ZS ?_
 refine Kb ?_;refine cY a (fun a=>?_) fun a=>?_
 ·refine Zd ?_;refine ZT ?_;obtain rfl:=Kf a;refine rP (t':=[(10,iD b)]) [] [] 0 (wC wN) (lT lN) ?_;exact Za
 refine ZS ?_
 refine Kb ?_;refine cY a (fun a=>?_) fun a=>?_
 ·refine Zd ?_;refine ZT ?_;obtain rfl:=Kf a;refine rP (t':=[(10,iD c)]) [] [] 0 (wC wN) (lT lN) ?_;exact Za
 refine ZK ?_;refine ZY ?_;obtain rfl:=Kf a;refine rP (t':=[(10,iD (0:Int))]) [] [] 0 (wC wN) (lT lN) ?_;exact Za
def Kbw (a:Ki):Option (ByteArray×Ki):=
 ((Ka8 a).bind fun b=>(bif (b.gt != (1:Int)) then ((Ka9 a a.gb (3:Int)).bind fun c=>some ((ByteArray.mk #[]),c)) else some (b.gr,(⟨a.gL,(IntKind.i64.wrap (a.gb+(1:Int))),a.gE⟩:Ki))))
theorem Kgq (b c f e r)(h0:Kbw b=some r):CallsD Tryz.prog 155 [.ptr c 0] [(c,Blk.cells (CZ8 b e) f)] [] (fun d h k=>d=tD r.1∧h=[(c,Blk.cells (CZ8 r.2 e) f)]∧k=[]):=by
 refine PZ1 h0 Tryz.func155 fun C a=>?_;refine Zd ?_;refine Zo ?_;obtain ⟨g,i,a⟩:=Ka a;refine pG (KdP b c f e g i) Wl Pf Pf ?_;refine Zi ?_;refine Zq fun m=>?_;refine pS1 (ds':=(CZ5 g)) ?_;refine Zr ?_;refine Yw ?_;refine Zv ?_;refine cY a (fun a=>?_) fun a=>?_
 ·refine YA ?_
  refine pL 0 ?_;obtain ⟨j,l,a⟩:=Ka a;refine pG (Kdg b b.gb (3:Int) c f e j l) Wl Pf Pf ?_;refine Yc ?_;refine Zu ?_;refine Ky ?_;exact W7 a
 refine Zm ?_;refine YE ?_
 refine pS0 (ds':=[.lst 4 (b.gL.map Kl) e,iD (IntKind.i64.wrap (b.gb+(1:Int))),iD b.gE]) ?_;refine Zo ?_;refine pL 1 ?_;refine Zu ?_;obtain rfl:=Kf a;refine rP (t':=[(2,tD g.gr)]) [0] [] 1 (wC wN) (lT lN) ?_;exact Za
end
section
open Go
set_option maxRecDepth 100000
def Ka5 (a0:Int)(a:ByteArray):Option (Int):=
 (bif (a0==(0:Int)) then (bif (decide (a=(ByteArray.mk #[124,124]))) then some (17:Int) else some (0:Int)) else (bif (a0==(1:Int)) then (bif (decide (a=(ByteArray.mk #[38,38]))) then some (16:Int) else some (0:Int)) else (bif (a0==(2:Int)) then ((KcC a (ByteArray.mk #[61,61]) (14:Int) (ByteArray.mk #[33,61]) (15:Int)).bind fun b=>some b) else (bif (a0==(3:Int)) then ((KcC a (ByteArray.mk #[60]) (12:Int) (ByteArray.mk #[60,61]) (13:Int)).bind fun c=>some c) else (bif (a0==(4:Int)) then ((KcC a (ByteArray.mk #[43]) (10:Int) qZ19 (11:Int)).bind fun d=>some d) else (bif (a0==(5:Int)) then (bif (decide (a=(ByteArray.mk #[37]))) then some (9:Int) else ((KcC a qZ16 (7:Int) (ByteArray.mk #[47]) (8:Int)).bind fun e=>some e)) else some (0:Int)))))))
theorem WD {A0 G:Prop}(a0:A0)(k:A0→G:=by intro _a;rintro _ rfl;refine ZT ?_;obtain rfl:=Kf _a;exact XZ):G:=k a0
theorem KkC (a0 b r)(h0:Ka5 a0 b=some r):CallsD Tryz.prog 146 [iD a0,tD b] [] [] (fun d h k=>d=iD r∧h=[]∧k=[]):=by
 refine PZ1 h0 Tryz.func146 fun C a=>?_;refine Zn ?_;refine Yx ?_;refine KJ ?_;refine Ze ?_;refine cY a (fun a=>?_) fun a=>?_
 ·refine Ze ?_;refine cY a (fun a=>?_) fun a=>?_
  ·refine Yg ?_;obtain rfl:=Kf a;refine rP (t':=[(4,iD (17:Int))]) [] [] 0 (wC wN) (lT lN) ?_;exact Za
  refine ZK ?_;exact X0 a
 refine Ze ?_;refine cY a (fun a=>?_) fun a=>?_
 ·refine Ze ?_;refine cY a (fun a=>?_) fun a=>?_
  ·refine Yg ?_;obtain rfl:=Kf a;refine rP (t':=[(4,iD (16:Int))]) [] [] 0 (wC wN) (lT lN) ?_;exact Za
  refine ZK ?_;exact X0 a
 refine Ze ?_;refine cY a (fun a=>?_) fun a=>?_
 ·refine ZD a fun c e a=>?_;refine K5 (KeN b (ByteArray.mk #[61,61]) (14:Int) (ByteArray.mk #[33,61]) (15:Int) c e) rfl rfl rfl rfl rfl Wl ?_;exact WD a
 refine Ze ?_;refine cY a (fun a=>?_) fun a=>?_
 ·refine ZD a fun f g a=>?_;refine K5 (KeN b (ByteArray.mk #[60]) (12:Int) (ByteArray.mk #[60,61]) (13:Int) f g) rfl rfl rfl rfl rfl Wl ?_;exact WD a
 refine Ze ?_;refine cY a (fun a=>?_) fun a=>?_
 ·refine ZD a fun i j a=>?_;refine K5 (KeN b (ByteArray.mk #[43]) (10:Int) qZ19 (11:Int) i j) rfl rfl rfl rfl rfl Wl ?_;exact WD a
 refine Ze ?_;refine cY a (fun a=>?_) fun a=>?_
 ·refine Km ?_;refine Ze ?_;refine cY a (fun a=>?_) fun a=>?_
  ·refine ZY ?_;refine ZQ ?_;refine Ky ?_;obtain rfl:=Kf a;refine rP (t':=[(4,iD (9:Int))]) [] [] 0 (wC wN) (lT lN) ?_;exact Za
  refine Zm ?_;refine ZD a fun l m a=>?_;refine K5 (KeN b qZ16 (7:Int) (ByteArray.mk #[47]) (8:Int) l m) rfl rfl rfl rfl rfl Wl ?_;exact WD a
 refine ZK ?_;exact X0 a
def Kbk (g0:(Ki)→(Int)→Option (Ke×Ki))(g1:(Ki)→Option (Ke×Ki))(l:(Ki)→(Ke)→(Int)→(Int)→Option (Ke×Ki))(m:(Ki)→(ByteArray)→Option (Ke×Ki))(n:(Ki)→(KB)→(Int)→Option (Ke×Ki))(g:Ki)(e:Int):Option (Ke×Ki):=
 (bif (e==(6:Int)) then ((g1 g).bind fun h=>some (h.1,h.2)) else ((g0 g (IntKind.i64.wrap (e+(1:Int)))).bind fun b=>(Option.bind (α:=List KB×Int×Int×Int×Int×ByteArray×List Ke×Int) (loopM (fun (a:List KB×Int×Int×Int×Int×ByteArray×List Ke×Int)=>(bif (a.2.2.1==(0:Int)) then ((Ka8 (⟨a.1,a.2.1,a.2.2.1⟩:Ki)).bind fun f=>(Option.bind (α:=Int) (bif (f.gt==(3:Int)) then ((Ka5 e f.gr).bind fun k=>some k) else some (0:Int)) fun i=>(bif (i==(0:Int)) then some (.done (a.1,a.2.1,a.2.2.1,a.2.2.2.1,a.2.2.2.2.1,a.2.2.2.2.2.1,a.2.2.2.2.2.2.1,a.2.2.2.2.2.2.2)) else ((g0 (⟨a.1,(IntKind.i64.wrap (a.2.1+(1:Int))),a.2.2.1⟩:Ki) (IntKind.i64.wrap (e+(1:Int)))).bind fun j=>((KaY j.2 (⟨i,(0:Int),ByteArray.empty,([(⟨a.2.2.2.1,a.2.2.2.2.1,a.2.2.2.2.2.1,a.2.2.2.2.2.2.1,a.2.2.2.2.2.2.2⟩:Ke),j.1]:List Ke),f.gb⟩:Ke) a.2.1).bind fun c=>some (.next (c.2.gL,c.2.gb,c.2.gE,c.1.gj,c.1.gN,c.1.ga,c.1.gc,c.1.gb))))))) else some (.done (a.1,a.2.1,a.2.2.1,a.2.2.2.1,a.2.2.2.2.1,a.2.2.2.2.2.1,a.2.2.2.2.2.2.1,a.2.2.2.2.2.2.2)))) (b.2.gL,b.2.gb,b.2.gE,b.1.gj,b.1.gN,b.1.ga,b.1.gc,b.1.gb)) fun d=>some ((⟨d.2.2.2.1,d.2.2.2.2.1,d.2.2.2.2.2.1,d.2.2.2.2.2.2.1,d.2.2.2.2.2.2.2⟩:Ke),(⟨d.1,d.2.1,d.2.2.1⟩:Ki)))))
theorem Ue {R G:Prop}(h:R)(k:R→G:=by intro h;(iterate 3 refine zf_e rfl rfl (Kam htab rfl) rfl rfl rfl rfl rfl rfl rfl ?_);refine zf_qM rfl rfl (KN 0 htab rfl rfl rfl rfl rfl) rfl rfl rfl rfl rfl rfl ?_;refine KgA rfl htab rfl rfl rfl rfl rfl rfl rfl rfl rfl rfl (by simp [dOf,eI64]) (by simp) ?_;refine Kir (e:=6) (zs:=qZ7) (T':=110) (ds':=(CZ5 _)) htab rfl rfl rfl rfl rfl rfl rfl rfl rfl (by simp) (by simp) rfl rfl rfl rfl rfl rfl rfl rfl rfl ?_;exact h):G:=k h
theorem WE {A0 G:Prop}(a0:A0)(k:A0→G:=by intro _a;obtain rfl:=Kf _a;refine rP (t':=[(4,.ptr _ 0)]) [0,0] [] 1 (wC wN) (lC 1 lN) ?_;exact WRZ):G:=k a0
def HZ9 (g:(Ki)→(Int)→Option (Ke×Ki)):Prop:=∀ (l:Ki) (m:Int) (f:Nat) (j:TypeId) (o:Cap) (r:Ke×Ki) (h0:g l m=some r),CallsD Tryz.prog 139 [.ptr f 0,iD m] [(f,Blk.cells (CZ8 l o) j)] [] (fun d h k=>d=Kk r.1∧h=[(f,Blk.cells (CZ8 r.2 .no) j)]∧k=[])
def HZ10 (g:(Ki)→Option (Ke×Ki)):Prop:=∀ (l:Ki) (f:Nat) (j:TypeId) (o:Cap) (r:Ke×Ki) (h0:g l=some r),CallsD Tryz.prog 144 [.ptr f 0] [(f,Blk.cells (CZ8 l o) j)] [] (fun d h k=>d=Kk r.1∧h=[(f,Blk.cells (CZ8 r.2 .no) j)]∧k=[])
def HZ11 (g:(Ki)→(Ke)→(Int)→(Int)→Option (Ke×Ki)):Prop:=∀ (l:Ki) (m:Ke) (u:Int) (z:Int) (f:Nat) (j:TypeId) (o:Cap) (r:Ke×Ki) (h0:g l m u z=some r),CallsD Tryz.prog 148 [.ptr f 0,Kk m,iD u,iD z] [(f,Blk.cells (CZ8 l o) j)] [] (fun d h k=>d=Kk r.1∧h=[(f,Blk.cells (CZ8 r.2 .no) j)]∧k=[])
def HZ12 (g:(Ki)→(ByteArray)→Option (Ke×Ki)):Prop:=∀ (l:Ki) (m:ByteArray) (f:Nat) (j:TypeId) (o:Cap) (r:Ke×Ki) (h0:g l m=some r),CallsD Tryz.prog 154 [.ptr f 0,tD m] [(f,Blk.cells (CZ8 l o) j)] [] (fun d h k=>d=Kk r.1∧h=[(f,Blk.cells (CZ8 r.2 .no) j)]∧k=[])
def HZ13 (g:(Ki)→(KB)→(Int)→Option (Ke×Ki)):Prop:=∀ (l:Ki) (m:KB) (u:Int) (f:Nat) (j:TypeId) (o:Cap) (r:Ke×Ki) (h0:g l m u=some r),CallsD Tryz.prog 149 [.ptr f 0,Kl m,iD u] [(f,Blk.cells (CZ8 l o) j)] [] (fun d h k=>d=Kk r.1∧h=[(f,Blk.cells (CZ8 r.2 .no) j)]∧k=[])
theorem KiG (g0:(Ki)→(Int)→Option (Ke×Ki))(g1:(Ki)→Option (Ke×Ki))(A:(Ki)→(Ke)→(Int)→(Int)→Option (Ke×Ki))(B:(Ki)→(ByteArray)→Option (Ke×Ki))(D:(Ki)→(KB)→(Int)→Option (Ke×Ki))(E:HZ9 g0)(N:HZ10 g1)(ae:HZ11 A)(af:HZ12 B)(ag:HZ13 D)(l m f j o r)(h0:Kbk g0 g1 A B D l m=some r):CallsD Tryz.prog 139 [.ptr f 0,iD m] [(f,Blk.cells (CZ8 l o) j)] [] (fun d h k=>d=Kk r.1∧h=[(f,Blk.cells (CZ8 r.2 .no) j)]∧k=[]):=by
 refine PZ1 h0 Tryz.func139 fun C c=>?_;refine Yl fun s=>?_;refine Zr ?_;refine Ze ?_;refine cY c (fun c=>?_) fun c=>?_
 ·refine ZD c fun w O c=>?_;refine pG (N l f j o w O) Wl Pf Pf ?_;refine Zi ?_;refine p_eq (i:=13) rfl (Wk.of_eq (Ko w.1)) ?_;refine pS1 (ds':=(CZ0 w.1 .no)) ?_;refine Yi ?_;exact WE c
 refine Zm ?_;refine ZS ?_
 obtain ⟨x,P,c⟩:=Ka c;refine pG (E l (IntKind.i64.wrap (m+(1:Int))) f j o x P) Wl Pf Pf ?_;refine Zi ?_;refine p_eq (i:=17) rfl (Wk.of_eq (Ko x.1)) ?_;refine Zq fun t=>?_;refine pS2 (ds':=(CZ0 x.1 .no)) ?_;refine Zr ?_;obtain ⟨n,F,H⟩:=Ka c
 refine Kaf (Y:=Unit) (fun Q=>(⟨[(4,.ptr s 0),(5,.ptr t 0)],[(f,Blk.cells [.lst 4 (n.1.map Kl) .no,iD n.2.1,iD n.2.2.1] j),(s,Blk.cells qZ0 127),(t,Blk.cells [iD n.2.2.2.1,iD n.2.2.2.2.1,tD n.2.2.2.2.2.1,.lst 5 (n.2.2.2.2.2.2.1.map Kk) .no,iD n.2.2.2.2.2.2.2] 127)],[]⟩:S)) ?_ ?_
 ·clear c;have c:=KE F;refine Zy c fun ah T I=>?_;refine KaO (Y:=Unit) T (fun a U=>(⟨[(0,.ptr f 0),(1,iD m),(4,.ptr s 0),(5,.ptr t 0)],[(f,Blk.cells [.lst 4 (a.1.map Kl) .no,iD a.2.1,iD a.2.2.1] j),(s,Blk.cells qZ0 127),(t,Blk.cells [iD a.2.2.2.1,iD a.2.2.2.2.1,tD a.2.2.2.2.2.1,.lst 5 (a.2.2.2.2.2.2.1.map Kk) .no,iD a.2.2.2.2.2.2.2] 127)],[]⟩:S)) ?_ ?_
  ·skip
   exact ZI
  intro G51 a U c;refine Km ?_;refine Yq ?_
  refine cY c (fun c=>?_) fun c=>?_
  ·refine Zm ?_;refine KJ ?_;refine ZA c fun q V c=>?_;refine KgT 8 [(6,qZ7,110)] [(6,7,(CZ5 q))] [[],[0],[],[2],[2,3],[2,3,4],[],[0,1,6]] [0,1,2,3,4,6,7] [[],[0],[],[2],[2,3],[2,3,4],[],[0,1,6],[0,1,2,3,4,5,6,7]] (by kernel_rfl) (by kernel_rfl) (by kernel_rfl) (by rfl) (by rfl) (by kernel_rfl) ?_;iterate 5 apply Exists.intro
   refine ⟨.any,?_⟩;refine ⟨.any,?_⟩;intro bs;refine XR ?_;refine Kkv 0 rfl rfl (KdP (⟨a.1,a.2.1,a.2.2.1⟩:Ki) f j .no q V) rfl rfl Wl rfl rfl rfl rfl rfl rfl rfl rfl ?_;refine Ue ?_
   refine zf_nil (h':=[(f,Blk.cells [.lst 4 (a.1.map Kl) .no,iD a.2.1,iD a.2.2.1] j),(s,Blk.cells qZ0 127),(t,Blk.cells [iD a.2.2.2.1,iD a.2.2.2.2.1,tD a.2.2.2.2.2.1,.lst 5 (a.2.2.2.2.2.2.1.map Kk) .no,iD a.2.2.2.2.2.2.2] 127),(bs 6,Blk.cells (CZ5 q) 110)]) rfl rfl rfl (fun e he=>by simp [isAl] at he;subst he;rfl) ?_;obtain ⟨J,K⟩:∃ b,bs 6=b:=⟨_,rfl⟩;simp only [K];clear K;refine YI ?_;refine Zz ?_;refine Zd ?_;refine pL 3 ?_
   refine Zv ?_;obtain ⟨v,L,M⟩:=Ka c;refine Kaf (Y:=Unit) (fun W=>(⟨[(0,.ptr f 0),(1,iD m),(4,.ptr s 0),(5,.ptr t 0),(6,.ptr J 0),(7,iD a.2.1),(8,iD v)],[(f,Blk.cells [.lst 4 (a.1.map Kl) .no,iD a.2.1,iD a.2.2.1] j),(s,Blk.cells qZ0 127),(t,Blk.cells [iD a.2.2.2.1,iD a.2.2.2.2.1,tD a.2.2.2.2.2.1,.lst 5 (a.2.2.2.2.2.2.1.map Kk) .no,iD a.2.2.2.2.2.2.2] 127),(J,Blk.cells (CZ5 q) 110)],[]⟩:S)) ?_ ?_
   ·clear c;have c:=KE L;refine cY c (fun c=>?_) fun c=>?_
    ·refine ZU ?_;refine pL 3 ?_;obtain ⟨X,Z,c⟩:=Ka c;refine K5 (KkC m q.gr X Z) rfl rfl rfl rfl rfl Wl ?_;rintro _ rfl;refine pu ?_;refine KC ?_;obtain rfl:=Kf c;refine ⟨rfl,?_⟩;exact Xu
    refine Kx ?_;obtain rfl:=Kf c;refine ⟨rfl,?_⟩;exact Xu
   intro ai aa;have c:=M;clear L M;refine Zb aa fun W=>?_;refine Km ?_;refine Ze ?_;refine cY c (fun c=>?_) fun c=>?_
   ·refine Zs ?_;refine Kgd rfl ?_;obtain rfl:=K6 c;have c:=I
    refine Z9 ?_;exact YC c
   refine Zm ?_;refine YE ?_
   refine pS0 (ds':=[.lst 4 (a.1.map Kl) .no,iD (IntKind.i64.wrap (a.2.1+(1:Int))),iD a.2.2.1]) ?_;refine Yt ?_
   obtain ⟨p,ab,c⟩:=Ka c;refine pG (E (⟨a.1,(IntKind.i64.wrap (a.2.1+(1:Int))),a.2.2.1⟩:Ki) (IntKind.i64.wrap (m+(1:Int))) f j .no p ab) Wl Pf Pf ?_;refine Zi ?_;refine p_eq (i:=48) rfl (Wk.of_eq (Ko p.1)) ?_;refine Zq fun aj=>?_;refine pS4 (ds':=(CZ0 p.1 .no)) ?_;refine Kb ?_;refine ZU ?_
   refine Kaa (d:=.agg [iD a.2.2.2.1,iD a.2.2.2.2.1,tD a.2.2.2.2.2.1,.lst 5 (a.2.2.2.2.2.2.1.map Kk) .no,iD a.2.2.2.2.2.2.2]) 2 htab rfl rfl rfl rfl rfl rfl rfl rfl ?_;refine Kaa (d:=.agg (CZ0 p.1 .no)) 4 htab rfl rfl rfl rfl rfl rfl rfl rfl ?_;refine ZJ ?_
   refine p_eq (i:=53) (d':=.lst 5 (([(⟨a.2.2.2.1,a.2.2.2.2.1,a.2.2.2.2.2.1,a.2.2.2.2.2.2.1,a.2.2.2.2.2.2.2⟩:Ke),p.1]:List Ke).map Kk) .full) rfl (Wk.lst0 (.cons (WkC.trans (WkC.agg (WkR.refl _)) (WkC.of_eq (Ko (⟨a.2.2.2.1,a.2.2.2.2.1,a.2.2.2.2.2.1,a.2.2.2.2.2.2.1,a.2.2.2.2.2.2.2⟩:Ke)).symm)) (.cons (WkC.trans (WkC.agg (WkR.refl _)) (WkC.of_eq (Ko p.1).symm)) (.nil)))) ?_;refine pu ?_;refine pL 3 ?_
   refine KbC (r:=[iD v,iD (0:Int),tD ByteArray.empty,.lst 5 (([(⟨a.2.2.2.1,a.2.2.2.2.1,a.2.2.2.2.2.1,a.2.2.2.2.2.2.1,a.2.2.2.2.2.2.2⟩:Ke),p.1]:List Ke).map Kk) .full,iD q.gb]) htab rfl rfl rfl rfl rfl rfl rfl rfl rfl ?_;refine pu ?_;obtain ⟨y,ac,c⟩:=Ka c
   refine Ka6 (KeC p.2 (⟨v,(0:Int),ByteArray.empty,([(⟨a.2.2.2.1,a.2.2.2.2.1,a.2.2.2.2.2.1,a.2.2.2.2.2.2.1,a.2.2.2.2.2.2.2⟩:Ke),p.1]:List Ke),q.gb⟩:Ke) a.2.1 f j .no y ac) rfl rfl rfl rfl rfl (WkL.cons (Wk.refl _) (WkL.cons (Wk.trans (Wk.agg (rC (rC (rC (rO (rC WkR.nil)))))) (Wk.of_eq (Ko (⟨v,(0:Int),ByteArray.empty,([(⟨a.2.2.2.1,a.2.2.2.2.1,a.2.2.2.2.2.1,a.2.2.2.2.2.2.1,a.2.2.2.2.2.2.2⟩:Ke),p.1]:List Ke),q.gb⟩:Ke)).symm)) (WkL.cons (Wk.refl _) Wl))) Pf Pf ?_;refine Zi ?_
   refine p_eq (i:=58) rfl (Wk.of_eq (Ko y.1)) ?_;refine pS2 (ds':=(CZ0 y.1 .no)) ?_;refine KC ?_;refine Xa c ?_;exact ZI
  refine Zs ?_;obtain rfl:=K6 c;have c:=I
  refine Z9 ?_;exact YC c
 intro ak ad;have c:=H;clear F H;refine Zb ad fun Q=>?_;refine Kd ?_;refine Kaa (d:=.agg [iD n.2.2.2.1,iD n.2.2.2.2.1,tD n.2.2.2.2.2.1,.lst 5 (n.2.2.2.2.2.2.1.map Kk) .no,iD n.2.2.2.2.2.2.2]) 2 htab rfl rfl rfl rfl rfl rfl rfl rfl ?_;refine pS1 (ds':=[iD n.2.2.2.1,iD n.2.2.2.2.1,tD n.2.2.2.2.2.1,.lst 5 (n.2.2.2.2.2.2.1.map Kk) .no,iD n.2.2.2.2.2.2.2]) ?_;refine ZG ?_;exact WE c
def Kbd (g0:(Ki)→(Int)→Option (Ke×Ki))(g1:(Ki)→Option (Ke×Ki))(e:(Ki)→(Ke)→(Int)→(Int)→Option (Ke×Ki))(h:(Ki)→(ByteArray)→Option (Ke×Ki))(f:(Ki)→(KB)→(Int)→Option (Ke×Ki))(a:Ki):Option (Ke×Ki):=
 ((Ka8 a).bind fun b=>(bif (a.gE != (0:Int)) then some (qZ4,a) else (bif (b.gt==(2:Int)) then some ((⟨(1:Int),b.gN,ByteArray.empty,[],b.gb⟩:Ke),(⟨a.gL,(IntKind.i64.wrap (a.gb+(1:Int))),a.gE⟩:Ki)) else (bif (b.gt==(1:Int)) then ((e (⟨a.gL,(IntKind.i64.wrap (a.gb+(1:Int))),a.gE⟩:Ki) (⟨(2:Int),(0:Int),b.gr,[],b.gb⟩:Ke) (3:Int) a.gb).bind fun c=>some (c.1,c.2)) else (bif (b.gt==(3:Int)) then ((f (⟨a.gL,(IntKind.i64.wrap (a.gb+(1:Int))),a.gE⟩:Ki) b a.gb).bind fun d=>some (d.1,d.2)) else ((Ka9 (⟨a.gL,(IntKind.i64.wrap (a.gb+(1:Int))),a.gE⟩:Ki) a.gb (3:Int)).bind fun g=>some (qZ4,g)))))))
theorem We {R G:Prop}(h:R)(k:R→G:=by intro h;refine retX.wk (WkS.bl1 (ds':=[iD (0:Int),iD (0:Int),tD ByteArray.empty,.lst 5 (([]:List Ke).map Kk) .no,iD (0:Int)]) (rC (rC (rC (WkR.cons (WkC.nil) rfl (rC WkR.nil)))))) ?_;exact h):G:=k h
theorem Wf {R G:Prop}(h:R)(k:R→G:=by intro h;refine retX.wk (WkS.bl0 (ds':=(CZ8 _ .no)) (rO (rC (rC WkR.nil)))) ?_;exact h):G:=k h
theorem Xp {G:Prop}(k:G:=by refine Wd ?_;exact WRZ):G:=k
theorem Kie (g0:(Ki)→(Int)→Option (Ke×Ki))(g1:(Ki)→Option (Ke×Ki))(o:(Ki)→(Ke)→(Int)→(Int)→Option (Ke×Ki))(p:(Ki)→(ByteArray)→Option (Ke×Ki))(q:(Ki)→(KB)→(Int)→Option (Ke×Ki))(B:HZ9 g0)(D:HZ10 g1)(t:HZ11 o)(E:HZ12 p)(u:HZ13 q)(c g j l r)(h0:Kbd g0 g1 o p q c=some r):CallsD Tryz.prog 144 [.ptr g 0] [(g,Blk.cells (CZ8 c l) j)] [] (fun d h k=>d=Kk r.1∧h=[(g,Blk.cells (CZ8 r.2 .no) j)]∧k=[]):=by
 refine PZ1 h0 Tryz.func144 fun C a=>?_;refine Yl fun v=>?_;refine Zr ?_;obtain ⟨f,w,a⟩:=Ka a;refine KgT 8 [(6,qZ7,110)] [(6,7,(CZ5 f))] [[],[0],[],[2],[2,3],[2,3,4],[],[0,1,6]] [0,1,2,3,4,6,7] [[],[0],[],[2],[2,3],[2,3,4],[],[0,1,6],[0,1,2,3,4,5,6,7]] (by kernel_rfl) (by kernel_rfl) (by kernel_rfl) (by rfl) (by rfl) (by kernel_rfl) ?_;iterate 5 apply Exists.intro
 refine ⟨.any,?_⟩;refine ⟨.any,?_⟩;intro bs;refine XR ?_;refine Kkv 0 rfl rfl (KdP c g j l f w) rfl rfl Wl rfl rfl rfl rfl rfl rfl rfl rfl ?_;refine Ue ?_
 refine zf_nil (h':=[(g,Blk.cells (CZ8 c l) j),(v,Blk.cells qZ0 127),(bs 6,Blk.cells (CZ5 f) 110)]) rfl rfl rfl (fun e he=>by simp [isAl] at he;subst he;rfl) ?_;obtain ⟨F,s⟩:∃ b,bs 6=b:=⟨_,rfl⟩;simp only [s];clear s;refine Zz ?_;refine Yq ?_
 refine cY a (fun a=>?_) fun a=>?_
 ·refine Kd ?_;refine Xo ?_;refine pS1 (ds':=qZ0) ?_;refine Yi ?_;obtain rfl:=Kf a;refine We ?_;refine Wf ?_
  exact Xp
 refine Zm ?_;refine YE ?_
 refine pS0 (ds':=[.lst 4 (c.gL.map Kl) l,iD (IntKind.i64.wrap (c.gb+(1:Int))),iD c.gE]) ?_;refine Zr ?_;refine Zd ?_;refine pL 2 ?_;refine XM ?_;refine cY a (fun a=>?_) fun a=>?_
 ·refine Zd ?_;refine pL 2 ?_;refine pu ?_;refine pL 2 ?_;refine KbC (r:=[iD (1:Int),iD f.gN,tD ByteArray.empty,.lst 1 [] .full,iD f.gb]) htab rfl rfl rfl rfl rfl rfl rfl rfl rfl ?_;refine pS1 (ds':=[iD (1:Int),iD f.gN,tD ByteArray.empty,.lst 1 [] .full,iD f.gb]) ?_;refine Yh ?_;obtain rfl:=Kf a;refine retX.wk (WkS.bl1 (ds':=[iD (1:Int),iD f.gN,tD ByteArray.empty,.lst 5 (([]:List Ke).map Kk) .no,iD f.gb]) (rC (rC (rC (WkR.cons (WkC.nil) rfl (rC WkR.nil)))))) ?_
  refine retX.wk (WkS.bl0 (ds':=[.lst 4 (c.gL.map Kl) .no,iD (IntKind.i64.wrap (c.gb+(1:Int))),iD c.gE]) (rO (rC (rC WkR.nil)))) ?_;exact Xp
 refine Ze ?_;refine cY a (fun a=>?_) fun a=>?_
 ·refine ZM ?_;refine pL 2 ?_;refine pu ?_;refine pL 2 ?_;refine KbC (r:=[iD (2:Int),iD (0:Int),tD f.gr,.lst 1 [] .full,iD f.gb]) htab rfl rfl rfl rfl rfl rfl rfl rfl rfl ?_;refine pu ?_;obtain ⟨m,x,a⟩:=Ka a
  refine Ka6 (t (⟨c.gL,(IntKind.i64.wrap (c.gb+(1:Int))),c.gE⟩:Ki) (⟨(2:Int),(0:Int),f.gr,[],f.gb⟩:Ke) (3:Int) c.gb g j l m x) rfl rfl rfl rfl rfl (WkL.cons (Wk.refl _) (WkL.cons (Wk.trans (Wk.agg (rC (rC (rC (WkR.cons (WkC.nil) rfl (rC WkR.nil)))))) (Wk.of_eq (Ko (⟨(2:Int),(0:Int),f.gr,[],f.gb⟩:Ke)).symm)) (WkL.cons (Wk.refl _) (WkL.cons (Wk.refl _) Wl)))) Pf Pf ?_;refine Zi ?_;refine p_eq (i:=42) rfl (Wk.of_eq (Ko m.1)) ?_;refine pS1 (ds':=(CZ0 m.1 .no)) ?_;refine Yh ?_
  obtain rfl:=Kf a;exact Xp
 refine Ze ?_;refine cY a (fun a=>?_) fun a=>?_
 ·refine Zd ?_;refine Kaa (d:=Kl f) 2 htab rfl rfl rfl rfl rfl rfl rfl rfl ?_;refine pu ?_;obtain ⟨n,y,a⟩:=Ka a;refine pG (u (⟨c.gL,(IntKind.i64.wrap (c.gb+(1:Int))),c.gE⟩:Ki) f c.gb g j l n y) Wl Pf Pf ?_;refine Zi ?_;refine p_eq (i:=48) rfl (Wk.of_eq (Ko n.1)) ?_;refine pS1 (ds':=(CZ0 n.1 .no)) ?_;refine Yh ?_;obtain rfl:=Kf a;exact Xp
 refine ZK ?_;refine ZM ?_;obtain ⟨z,A,a⟩:=Ka a;refine pG (Kdg (⟨c.gL,(IntKind.i64.wrap (c.gb+(1:Int))),c.gE⟩:Ki) c.gb (3:Int) g j l z A) Wl Pf Pf ?_;refine Yc ?_;refine Xo ?_;refine pS1 (ds':=qZ0) ?_;refine ZG ?_;obtain rfl:=Kf a
 refine We ?_;refine Wf ?_;exact Xp
def KaN (g0:(Ki)→(Int)→Option (Ke×Ki))(g1:(Ki)→Option (Ke×Ki))(j:(Ki)→(Ke)→(Int)→(Int)→Option (Ke×Ki))(e:(Ki)→(ByteArray)→Option (Ke×Ki))(k:(Ki)→(KB)→(Int)→Option (Ke×Ki))(a:Ki)(b:Ke)(f:Int)(g:Int):Option (Ke×Ki):=
 (Option.bind (α:=Bool) (bif (a.gE != (0:Int)) then some true else ((Kce a qZ20).bind fun h=>some (!h))) fun i=>(bif i then some (b,a) else ((e (⟨a.gL,(IntKind.i64.wrap (a.gb+(1:Int))),a.gE⟩:Ki) qZ21).bind fun c=>((KaY c.2 (⟨f,b.gN,b.ga,([c.1]:List Ke),b.gb⟩:Ke) g).bind fun d=>some (d.1,d.2)))))
theorem Wg {A0 G:Prop}(a0:A0)(k:A0→G:=by intro _a;refine KC ?_;obtain rfl:=Kf _a;refine ⟨rfl,?_⟩;exact YB):G:=k a0
theorem Khb (g0:(Ki)→(Int)→Option (Ke×Ki))(g1:(Ki)→Option (Ke×Ki))(q:(Ki)→(Ke)→(Int)→(Int)→Option (Ke×Ki))(s:(Ki)→(ByteArray)→Option (Ke×Ki))(t:(Ki)→(KB)→(Int)→Option (Ke×Ki))(I:HZ9 g0)(J:HZ10 g1)(K:HZ11 q)(y:HZ12 s)(L:HZ13 t)(c a f m g j l r)(h0:KaN g0 g1 q s t c a f m=some r):CallsD Tryz.prog 148 [.ptr g 0,Kk a,iD f,iD m] [(g,Blk.cells (CZ8 c l) j)] [] (fun d h k=>d=Kk r.1∧h=[(g,Blk.cells (CZ8 r.2 .no) j)]∧k=[]):=by
 refine PZ1 h0 Tryz.func148 fun C b=>?_;refine w_eq (i:=1) rfl (Wk.of_eq (Ko a)) ?_;refine ZH fun u=>?_;refine Zq fun n=>?_;refine Zr ?_;refine ZA b fun z w x=>?_
 refine Kaf (Y:=Unit) (fun A=>(⟨[(0,.ptr g 0),(2,iD f),(3,iD m),(5,.ptr u 0),(8,.ptr n 0),(18,.v (.bool z))],[(g,Blk.cells (CZ8 c l) j),(u,Blk.cells (CZ0 a .no) 127),(n,Blk.cells qZ0 127)],[]⟩:S)) ?_ ?_
 ·clear b;have b:=KE w;refine ZW ?_
  refine pL 0 ?_;refine Zl ?_;refine KaH (i:=14) rfl (fun o=>?_) (fun o=>?_)
  ·replace b:=yes_t o b;iterate 3 refine pK ?_
   refine ZB ?_;exact Wg b
  replace b:=yes_f o b;refine pu ?_;obtain ⟨B,D,b⟩:=Ka b;refine pG (KgV c qZ20 g j l B D) Wl Pf Pf ?_;refine Ys ?_;refine ZE ?_;exact Wg b
 intro M E;have b:=x;clear w x;refine Zb E fun A=>?_;refine cY b (fun b=>?_) fun b=>?_
 ·refine Kd ?_;refine Xw ?_;refine pS2 (ds':=(CZ0 a .no)) ?_;refine Yi ?_;obtain rfl:=Kf b;refine Wf ?_;refine rP (t':=[(8,.ptr n 0)]) [0,1] [] 1 (wC wN) (lC 1 lN) ?_;exact WRZ
 refine Zm ?_;refine YE ?_
 refine pS0 (ds':=[.lst 4 (c.gL.map Kl) l,iD (IntKind.i64.wrap (c.gb+(1:Int))),iD c.gE]) ?_;refine ZV ?_;refine pS1 (ds':=[iD f,iD a.gN,tD a.ga,.lst 5 (a.gc.map Kk) .no,iD a.gb]) ?_;refine Zo ?_;obtain ⟨e,F,b⟩:=Ka b;refine pG (y (⟨c.gL,(IntKind.i64.wrap (c.gb+(1:Int))),c.gE⟩:Ki) qZ21 g j l e F) Wl Pf Pf ?_;refine Zi ?_;refine p_eq (i:=30) rfl (Wk.of_eq (Ko e.1)) ?_;refine ZJ ?_
 refine p_eq (i:=31) (d':=.lst 5 (([e.1]:List Ke).map Kk) .full) rfl (Wk.lst0 (.cons (WkC.trans (WkC.agg (WkR.refl _)) (WkC.of_eq (Ko e.1).symm)) (.nil))) ?_;refine pu ?_;refine pS1 (ds':=[iD f,iD a.gN,tD a.ga,.lst 5 (([e.1]:List Ke).map Kk) .full,iD a.gb]) ?_;refine Zo ?_;refine Kaa (d:=.agg [iD f,iD a.gN,tD a.ga,.lst 5 (([e.1]:List Ke).map Kk) .full,iD a.gb]) 1 htab rfl rfl rfl rfl rfl rfl rfl rfl ?_;refine pu ?_;obtain ⟨p,H,b⟩:=Ka b
 refine Ka6 (KeC e.2 (⟨f,a.gN,a.ga,([e.1]:List Ke),a.gb⟩:Ke) m g j .no p H) rfl rfl rfl rfl rfl (WkL.cons (Wk.refl _) (WkL.cons (Wk.trans (Wk.agg (rC (rC (rC (rO (rC WkR.nil)))))) (Wk.of_eq (Ko (⟨f,a.gN,a.ga,([e.1]:List Ke),a.gb⟩:Ke)).symm)) (WkL.cons (Wk.refl _) Wl))) Pf Pf ?_;refine Zi ?_;refine p_eq (i:=36) rfl (Wk.of_eq (Ko p.1)) ?_;refine pS2 (ds':=(CZ0 p.1 .no)) ?_;refine ZG ?_;obtain rfl:=Kf b
 refine rP (t':=[(8,.ptr n 0)]) [0,1] [] 1 (wC wN) (lC 1 lN) ?_;exact WRZ
def Kbl (g0:(Ki)→(Int)→Option (Ke×Ki))(g1:(Ki)→Option (Ke×Ki))(e:(Ki)→(Ke)→(Int)→(Int)→Option (Ke×Ki))(f:(Ki)→(ByteArray)→Option (Ke×Ki))(g:(Ki)→(KB)→(Int)→Option (Ke×Ki))(b:Ki)(c:ByteArray):Option (Ke×Ki):=
 ((g0 b (0:Int)).bind fun a=>(bif (a.2.gE==(0:Int)) then ((Kcp a.2 c).bind fun d=>some (a.1,d)) else some (a.1,a.2)))
theorem KiH (g0:(Ki)→(Int)→Option (Ke×Ki))(g1:(Ki)→Option (Ke×Ki))(j:(Ki)→(Ke)→(Int)→(Int)→Option (Ke×Ki))(l:(Ki)→(ByteArray)→Option (Ke×Ki))(m:(Ki)→(KB)→(Int)→Option (Ke×Ki))(o:HZ9 g0)(t:HZ10 g1)(u:HZ11 j)(v:HZ12 l)(w:HZ13 m)(f g c e n r)(h0:Kbl g0 g1 j l m f g=some r):CallsD Tryz.prog 154 [.ptr c 0,tD g] [(c,Blk.cells (CZ8 f n) e)] [] (fun d h k=>d=Kk r.1∧h=[(c,Blk.cells (CZ8 r.2 .no) e)]∧k=[]):=by
 refine PZ1 h0 Tryz.func154 fun C a=>?_;refine Yl fun x=>?_;refine Zo ?_;obtain ⟨b,p,a⟩:=Ka a;refine pG (o f (0:Int) c e n b p) Wl Pf Pf ?_;refine Zi ?_;refine p_eq (i:=7) rfl (Wk.of_eq (Ko b.1)) ?_;refine Zq fun y=>?_;refine pS2 (ds':=(CZ0 b.1 .no)) ?_;refine Zr ?_;refine Yq ?_
 refine cY a (fun a=>?_) fun a=>?_
 ·refine ZU ?_;obtain ⟨q,s,a⟩:=Ka a;refine pG (KjC b.2 g c e .no q s) Wl Pf Pf ?_;refine Yc ?_;refine Kaa (d:=.agg (CZ0 b.1 .no)) 2 htab rfl rfl rfl rfl rfl rfl rfl rfl ?_;refine pS1 (ds':=(CZ0 b.1 .no)) ?_;refine ZG ?_;exact WE a
 refine Zm ?_;refine Kd ?_;refine Kaa (d:=.agg (CZ0 b.1 .no)) 2 htab rfl rfl rfl rfl rfl rfl rfl rfl ?_;refine pS1 (ds':=(CZ0 b.1 .no)) ?_;refine ZG ?_;exact WE a
def Kbe (g0:(Ki)→(Int)→Option (Ke×Ki))(g1:(Ki)→Option (Ke×Ki))(j:(Ki)→(Ke)→(Int)→(Int)→Option (Ke×Ki))(k:(Ki)→(ByteArray)→Option (Ke×Ki))(o:(Ki)→(KB)→(Int)→Option (Ke×Ki))(b:Ki)(a:KB)(c:Int):Option (Ke×Ki):=
 (Option.bind (α:=Bool) (bif (decide (a.gr=qZ19)) then some (decide (a.gr=qZ19)) else some (decide (a.gr=qZ25))) fun l=>(bif l then ((KcC a.gr qZ19 (5:Int) qZ25 (6:Int)).bind fun m=>((g1 b).bind fun d=>((KaY d.2 (⟨m,(0:Int),ByteArray.empty,([d.1]:List Ke),a.gb⟩:Ke) c).bind fun e=>some (e.1,e.2)))) else (bif (decide (a.gr=qZ16)) then ((Kbw b).bind fun f=>some ((⟨(4:Int),(0:Int),f.1,[],a.gb⟩:Ke),f.2)) else (bif (decide (a.gr=(ByteArray.mk #[38]))) then ((Kbw b).bind fun g=>((j g.2 (⟨(19:Int),(0:Int),g.1,[],a.gb⟩:Ke) (20:Int) c).bind fun h=>some (h.1,h.2))) else (bif (decide (a.gr=(ByteArray.mk #[110,117,108,108]))) then some ((⟨(18:Int),(0:Int),ByteArray.empty,[],a.gb⟩:Ke),b) else (bif (decide (a.gr=qZ8)) then ((k b qZ10).bind fun i=>some (i.1,i.2)) else ((Ka9 b c (3:Int)).bind fun n=>some (qZ4,n))))))))
theorem XC {R G:Prop}(h:R)(k:R→G:=by intro h;refine zx_q rfl rfl (Kam htab rfl) rfl rfl rfl rfl rfl rfl ?_;exact h):G:=k h
theorem Kif (g0:(Ki)→(Int)→Option (Ke×Ki))(g1:(Ki)→Option (Ke×Ki))(B:(Ki)→(Ke)→(Int)→(Int)→Option (Ke×Ki))(D:(Ki)→(ByteArray)→Option (Ke×Ki))(E:(Ki)→(KB)→(Int)→Option (Ke×Ki))(ad:HZ9 g0)(K:HZ10 g1)(L:HZ11 B)(M:HZ12 D)(ae:HZ13 E)(j b t c f g r)(h0:Kbe g0 g1 B D E j b t=some r):CallsD Tryz.prog 149 [.ptr c 0,Kl b,iD t] [(c,Blk.cells (CZ8 j g) f)] [] (fun d h k=>d=Kk r.1∧h=[(c,Blk.cells (CZ8 r.2 .no) f)]∧k=[]):=by
 refine PZ1 h0 Tryz.func149 fun C a=>?_;refine ZH fun l=>?_;refine Zq fun m=>?_;refine Zr ?_;refine Yw ?_;refine Kb ?_;refine KJ ?_;refine Km ?_;refine Ze ?_;obtain ⟨N,F,H⟩:=Ka a
 refine Kaf (Y:=Unit) (fun O=>(⟨[(0,.ptr c 0),(2,iD t),(4,.ptr l 0),(6,.ptr m 0),(9,tD b.gr),(10,.v (.bool N))],[(c,Blk.cells (CZ8 j g) f),(l,Blk.cells (CZ5 b) 110),(m,Blk.cells qZ0 127)],[]⟩:S)) ?_ ?_
 ·clear a;have a:=KE F;refine cY a (fun a=>?_) fun a=>?_
  ·refine Kx ?_;obtain rfl:=Kf a;refine ⟨rfl,?_⟩;exact YB
  refine ZU ?_;exact Wg a
 intro af P;have a:=H;clear F H;refine Zb P fun O=>?_;refine cY a (fun a=>?_) fun a=>?_
 ·refine Yw ?_;obtain ⟨w,Q,a⟩:=Ka a;refine K5 (KeN b.gr qZ19 (5:Int) qZ25 (6:Int) w Q) rfl rfl rfl rfl rfl Wl ?_;rintro _ rfl;refine Zz ?_;obtain ⟨p,T,a⟩:=Ka a
  refine Kfk (X:=BK) 9 [] [[],[],[],[2],[2,3],[],[5],[2,3,4,5,6],[]] [0,2,3,4,5,6,7] [[],[],[],[2],[2,3],[],[5],[1,2,3,4,5,6],[],[0,1,2,3,4,5,6,7,8],[0,1,2,3,4,5,6,7,8,9]] ⟨3,fun x=>x.1++[(l,Blk.cells (CZ5 b) 110),(m,Blk.cells qZ0 127)],fun x=>x.2++[],fun x=>x.1=[(c,Blk.cells (CZ8 p.2 .no) f)]∧x.2=[]⟩ ([],[]) (by kernel_rfl) (by kernel_rfl) (by kernel_rfl) (by rfl) (by rfl) (by kernel_rfl) ?_;iterate 7 apply Exists.intro
  intro bs;refine YT ?_;refine XC ?_;refine YT ?_;refine KgB (h1:=[(c,Blk.cells (CZ8 j g) f)]) (k1:=[]) (d:=.agg (CZ0 p.1 .no)) rfl rfl rfl (K j c f g p T) rfl rfl Wl Pf Pf (fun _=>rfl) (fun _=>rfl) (fun d' h' k' ⟨n,o,u⟩=>⟨⟨o,u⟩,by subst n;exact Wk.of_eq (Ko p.1)⟩) rfl rfl rfl rfl rfl rfl ?_
  refine zx_E rfl rfl (ExE.wk (x_lit htab rfl rfl rfl rfl rfl rfl rfl rfl rfl rfl rfl) (show Wk _ (.lst 5 (([p.1]:List Ke).map Kk) .full) from Wk.lst0 (.cons (WkC.trans (WkC.agg (WkR.refl _)) (WkC.of_eq (Ko p.1).symm)) (.nil)))) rfl rfl rfl rfl rfl rfl rfl rfl ?_;refine YT ?_;refine zx_M rfl rfl (fun _=>KN 1 htab rfl rfl rfl rfl rfl) (fun _ ⟨I,J⟩ ⟨n,o⟩=>by cases n;cases o;exact KN 1 htab rfl rfl rfl rfl rfl) rfl rfl rfl rfl rfl rfl rfl rfl ?_
  refine zx_e rfl rfl (Kfi (r:=[iD w,iD (0:Int),tD ByteArray.empty,.lst 5 (([p.1]:List Ke).map Kk) .full,iD b.gb]) htab rfl rfl rfl rfl rfl rfl) rfl rfl rfl rfl rfl rfl rfl rfl ?_;refine XC ?_
  refine Khe (h2:=[(l,Blk.cells (CZ5 b) 110),(m,Blk.cells qZ0 127)]) (hz:=[(l,Blk.cells (CZ5 b) 110),(m,Blk.cells qZ0 127)]) rfl rfl (fun _=>rfl) (fun _=>rfl) rfl (fun e he=>by simp [isAl] at he) ?_;rintro _ _ ⟨rfl,rfl⟩;obtain ⟨y,U,a⟩:=Ka a
  refine Ka6 (KeC p.2 (⟨w,(0:Int),ByteArray.empty,([p.1]:List Ke),b.gb⟩:Ke) t c f .no y U) rfl rfl rfl rfl rfl (WkL.cons (Wk.refl _) (WkL.cons (Wk.trans (Wk.agg (rC (rC (rC (rO (rC WkR.nil)))))) (Wk.of_eq (Ko (⟨w,(0:Int),ByteArray.empty,([p.1]:List Ke),b.gb⟩:Ke)).symm)) (WkL.cons (Wk.refl _) Wl))) Pf Pf ?_;refine Zi ?_;refine p_eq (i:=25) rfl (Wk.of_eq (Ko y.1)) ?_;refine pS2 (ds':=(CZ0 y.1 .no)) ?_;refine Yh ?_
  obtain rfl:=Kf a;exact Xc
 refine Ze ?_;refine cY a (fun a=>?_) fun a=>?_
 ·refine ZA a fun q V a=>?_;refine Kfk (X:=BK) 4 [] [[],[0],[],[2]] [0,1,2,3] [[],[0],[],[2],[0,1,2,3],[0,1,2,3,4]] ⟨1,fun x=>x.1++[(l,Blk.cells (CZ5 b) 110),(m,Blk.cells qZ0 127)],fun x=>x.2++[],fun x=>x.1=[(c,Blk.cells (CZ8 q.2 g) f)]∧x.2=[]⟩ ([],[]) (by kernel_rfl) (by kernel_rfl) (by kernel_rfl) (by rfl) (by rfl) (by kernel_rfl) ?_;iterate 4 apply Exists.intro
  intro bs;refine YT ?_;refine KgB (h1:=[(c,Blk.cells (CZ8 j g) f)]) (k1:=[]) (d:=tD q.1) rfl rfl rfl (Kgq j c f g q V) rfl rfl Wl Pf Pf (fun _=>rfl) (fun _=>rfl) (fun d' h' k' ⟨n,o,u⟩=>⟨⟨o,u⟩,by subst n;exact Wk.refl _⟩) rfl rfl rfl rfl rfl rfl ?_;refine YT ?_;refine zx_M rfl rfl (fun _=>KN 1 htab rfl rfl rfl rfl rfl) (fun _ ⟨I,J⟩ ⟨n,o⟩=>by cases n;cases o;exact KN 1 htab rfl rfl rfl rfl rfl) rfl rfl rfl rfl rfl rfl rfl rfl ?_
  refine Khe (h2:=[(l,Blk.cells (CZ5 b) 110),(m,Blk.cells qZ0 127)]) (hz:=[(l,Blk.cells (CZ5 b) 110),(m,Blk.cells qZ0 127)]) rfl rfl (fun _=>rfl) (fun _=>rfl) rfl (fun e he=>by simp [isAl] at he) ?_;rintro _ _ ⟨rfl,rfl⟩;refine KbC (r:=[iD (4:Int),iD (0:Int),tD q.1,.lst 1 [] .full,iD b.gb]) htab rfl rfl rfl rfl rfl rfl rfl rfl rfl ?_
  refine pS2 (ds':=[iD (4:Int),iD (0:Int),tD q.1,.lst 1 [] .full,iD b.gb]) ?_;refine Yh ?_;obtain rfl:=Kf a;refine retX.wk (WkS.bl2 (ds':=[iD (4:Int),iD (0:Int),tD q.1,.lst 5 (([]:List Ke).map Kk) .no,iD b.gb]) (rC (rC (rC (WkR.cons (WkC.nil) rfl (rC WkR.nil)))))) ?_;refine retX.wk (WkS.bl0 (ds':=(CZ8 q.2 .no)) (rO (rC (rC WkR.nil)))) ?_;exact Xc
 refine Ze ?_;refine cY a (fun a=>?_) fun a=>?_
 ·refine ZA a fun s W a=>?_;refine Kfk (X:=BK) 7 [] [[],[],[1],[],[3],[1,2,3,4],[]] [0,1,2,3,4,5] [[],[],[1],[],[3],[1,2,3,4],[],[0,1,2,3,4,5,6],[0,1,2,3,4,5,6,7]] ⟨2,fun x=>x.1++[(l,Blk.cells (CZ5 b) 110),(m,Blk.cells qZ0 127)],fun x=>x.2++[],fun x=>x.1=[(c,Blk.cells (CZ8 s.2 g) f)]∧x.2=[]⟩ ([],[]) (by kernel_rfl) (by kernel_rfl) (by kernel_rfl) (by rfl) (by rfl) (by kernel_rfl) ?_;iterate 6 apply Exists.intro
  intro bs;refine YT ?_;refine YT ?_;refine KgB (h1:=[(c,Blk.cells (CZ8 j g) f)]) (k1:=[]) (d:=tD s.1) rfl rfl rfl (Kgq j c f g s W) rfl rfl Wl Pf Pf (fun _=>rfl) (fun _=>rfl) (fun d' h' k' ⟨n,o,u⟩=>⟨⟨o,u⟩,by subst n;exact Wk.refl _⟩) rfl rfl rfl rfl rfl rfl ?_;refine YT ?_
  refine zx_M rfl rfl (fun _=>KN 1 htab rfl rfl rfl rfl rfl) (fun _ ⟨I,J⟩ ⟨n,o⟩=>by cases n;cases o;exact KN 1 htab rfl rfl rfl rfl rfl) rfl rfl rfl rfl rfl rfl rfl rfl ?_;refine zx_e rfl rfl (Kfi (r:=[iD (19:Int),iD (0:Int),tD s.1,.lst 1 [] .full,iD b.gb]) htab rfl rfl rfl rfl rfl rfl) rfl rfl rfl rfl rfl rfl rfl rfl ?_;refine XC ?_
  refine Khe (h2:=[(l,Blk.cells (CZ5 b) 110),(m,Blk.cells qZ0 127)]) (hz:=[(l,Blk.cells (CZ5 b) 110),(m,Blk.cells qZ0 127)]) rfl rfl (fun _=>rfl) (fun _=>rfl) rfl (fun e he=>by simp [isAl] at he) ?_;rintro _ _ ⟨rfl,rfl⟩;obtain ⟨z,Z,a⟩:=Ka a
  refine Ka6 (L s.2 (⟨(19:Int),(0:Int),s.1,[],b.gb⟩:Ke) (20:Int) t c f g z Z) rfl rfl rfl rfl rfl (WkL.cons (Wk.refl _) (WkL.cons (Wk.trans (Wk.agg (rC (rC (rC (WkR.cons (WkC.nil) rfl (rC WkR.nil)))))) (Wk.of_eq (Ko (⟨(19:Int),(0:Int),s.1,[],b.gb⟩:Ke)).symm)) (WkL.cons (Wk.refl _) (WkL.cons (Wk.refl _) Wl)))) Pf Pf ?_;refine Zi ?_;refine p_eq (i:=42) rfl (Wk.of_eq (Ko z.1)) ?_;refine pS2 (ds':=(CZ0 z.1 .no)) ?_;refine Yh ?_
  obtain rfl:=Kf a;exact Xc
 refine Ze ?_;refine cY a (fun a=>?_) fun a=>?_
 ·refine Yw ?_;refine KbC (r:=[iD (18:Int),iD (0:Int),tD ByteArray.empty,.lst 1 [] .full,iD b.gb]) htab rfl rfl rfl rfl rfl rfl rfl rfl rfl ?_;refine pS2 (ds':=[iD (18:Int),iD (0:Int),tD ByteArray.empty,.lst 1 [] .full,iD b.gb]) ?_;refine Yh ?_;obtain rfl:=Kf a;refine retX.wk (WkS.bl2 (ds':=[iD (18:Int),iD (0:Int),tD ByteArray.empty,.lst 5 (([]:List Ke).map Kk) .no,iD b.gb]) (rC (rC (rC (WkR.cons (WkC.nil) rfl (rC WkR.nil)))))) ?_
  refine Wf ?_;exact Xc
 refine Ze ?_;refine cY a (fun a=>?_) fun a=>?_
 ·refine ZD a fun A aa a=>?_;refine pG (M j qZ10 c f g A aa) Wl Pf Pf ?_;refine Zi ?_;refine p_eq (i:=51) rfl (Wk.of_eq (Ko A.1)) ?_;refine pS2 (ds':=(CZ0 A.1 .no)) ?_;refine Yh ?_;obtain rfl:=Kf a;exact Xc
 refine ZK ?_;refine ZM ?_;obtain ⟨ab,ac,a⟩:=Ka a;refine pG (Kdg j t (3:Int) c f g ab ac) Wl Pf Pf ?_;refine Yc ?_;refine Xo ?_;refine pS2 (ds':=qZ0) ?_;refine ZG ?_;obtain rfl:=Kf a
 refine Ud ?_;refine Wf ?_;exact Xc
def Kq:Nat→((Ki)→(Int)→Option (Ke×Ki))×((Ki)→Option (Ke×Ki))×((Ki)→(Ke)→(Int)→(Int)→Option (Ke×Ki))×((Ki)→(ByteArray)→Option (Ke×Ki))×((Ki)→(KB)→(Int)→Option (Ke×Ki))
 | 0=>(fun _ _=>none,fun _=>none,fun _ _ _ _=>none,fun _ _=>none,fun _ _ _=>none)
 | n+1=>(Kbk ((Kq n).1) ((Kq n).2.1) ((Kq n).2.2.1) ((Kq n).2.2.2.1) ((Kq n).2.2.2.2),Kbd ((Kq n).1) ((Kq n).2.1) ((Kq n).2.2.1) ((Kq n).2.2.2.1) ((Kq n).2.2.2.2),KaN ((Kq n).1) ((Kq n).2.1) ((Kq n).2.2.1) ((Kq n).2.2.2.1) ((Kq n).2.2.2.2),Kbl ((Kq n).1) ((Kq n).2.1) ((Kq n).2.2.1) ((Kq n).2.2.2.1) ((Kq n).2.2.2.2),Kbe ((Kq n).1) ((Kq n).2.1) ((Kq n).2.2.1) ((Kq n).2.2.2.1) ((Kq n).2.2.2.2))
theorem KfU:∀ n,(∀ (b:Ki) (e:Int) (a:Nat) (c:TypeId) (f:Cap) (r:Ke×Ki) (h0:(Kq n).1 b e=some r),CallsD Tryz.prog 139 [.ptr a 0,iD e] [(a,Blk.cells (CZ8 b f) c)] [] (fun d h k=>d=Kk r.1∧h=[(a,Blk.cells (CZ8 r.2 .no) c)]∧k=[]))∧(∀ (b:Ki) (a:Nat) (c:TypeId) (f:Cap) (r:Ke×Ki) (h0:(Kq n).2.1 b=some r),CallsD Tryz.prog 144 [.ptr a 0] [(a,Blk.cells (CZ8 b f) c)] [] (fun d h k=>d=Kk r.1∧h=[(a,Blk.cells (CZ8 r.2 .no) c)]∧k=[]))∧(∀ (b:Ki) (e:Ke) (g:Int) (i:Int) (a:Nat) (c:TypeId) (f:Cap) (r:Ke×Ki) (h0:(Kq n).2.2.1 b e g i=some r),CallsD Tryz.prog 148 [.ptr a 0,Kk e,iD g,iD i] [(a,Blk.cells (CZ8 b f) c)] [] (fun d h k=>d=Kk r.1∧h=[(a,Blk.cells (CZ8 r.2 .no) c)]∧k=[]))∧(∀ (b:Ki) (e:ByteArray) (a:Nat) (c:TypeId) (f:Cap) (r:Ke×Ki) (h0:(Kq n).2.2.2.1 b e=some r),CallsD Tryz.prog 154 [.ptr a 0,tD e] [(a,Blk.cells (CZ8 b f) c)] [] (fun d h k=>d=Kk r.1∧h=[(a,Blk.cells (CZ8 r.2 .no) c)]∧k=[]))∧(∀ (b:Ki) (e:KB) (g:Int) (a:Nat) (c:TypeId) (f:Cap) (r:Ke×Ki) (h0:(Kq n).2.2.2.2 b e g=some r),CallsD Tryz.prog 149 [.ptr a 0,Kl e,iD g] [(a,Blk.cells (CZ8 b f) c)] [] (fun d h k=>d=Kk r.1∧h=[(a,Blk.cells (CZ8 r.2 .no) c)]∧k=[]))
 | 0=>⟨(fun _ _ _ _ _ _ h0=>by cases h0),(fun _ _ _ _ _ h0=>by cases h0),(fun _ _ _ _ _ _ _ _ h0=>by cases h0),(fun _ _ _ _ _ _ h0=>by cases h0),(fun _ _ _ _ _ _ _ h0=>by cases h0)⟩
 |
  n+1=>by
  have ih:=KfU n
  exact ⟨KiG ((Kq n).1) ((Kq n).2.1) ((Kq n).2.2.1) ((Kq n).2.2.2.1) ((Kq n).2.2.2.2) (ih.1) (ih.2.1) (ih.2.2.1) (ih.2.2.2.1) (ih.2.2.2.2),Kie ((Kq n).1) ((Kq n).2.1) ((Kq n).2.2.1) ((Kq n).2.2.2.1) ((Kq n).2.2.2.2) (ih.1) (ih.2.1) (ih.2.2.1) (ih.2.2.2.1) (ih.2.2.2.2),Khb ((Kq n).1) ((Kq n).2.1) ((Kq n).2.2.1) ((Kq n).2.2.2.1) ((Kq n).2.2.2.2) (ih.1) (ih.2.1) (ih.2.2.1) (ih.2.2.2.1) (ih.2.2.2.2),KiH ((Kq n).1) ((Kq n).2.1) ((Kq n).2.2.1) ((Kq n).2.2.2.1) ((Kq n).2.2.2.2) (ih.1) (ih.2.1) (ih.2.2.1) (ih.2.2.2.1) (ih.2.2.2.2),Kif ((Kq n).1) ((Kq n).2.1) ((Kq n).2.2.1) ((Kq n).2.2.2.1) ((Kq n).2.2.2.2) (ih.1) (ih.2.1) (ih.2.2.1) (ih.2.2.2.1) (ih.2.2.2.2)⟩
theorem KfV:∀ n,(∀ (a:Ki) (b:Int),Le ((Kq n).1 a b) ((Kq (n+1)).1 a b))∧(∀ (a:Ki),Le ((Kq n).2.1 a) ((Kq (n+1)).2.1 a))∧(∀ (a:Ki) (b:Ke) (c:Int) (d:Int),Le ((Kq n).2.2.1 a b c d) ((Kq (n+1)).2.2.1 a b c d))∧(∀ (a:Ki) (b:ByteArray),Le ((Kq n).2.2.2.1 a b) ((Kq (n+1)).2.2.2.1 a b))∧(∀ (a:Ki) (b:KB) (c:Int),Le ((Kq n).2.2.2.2 a b c) ((Kq (n+1)).2.2.2.2 a b c))
 | 0=>⟨fun _ _=>Le.none _,fun _=>Le.none _,fun _ _ _ _=>Le.none _,fun _ _=>Le.none _,fun _ _ _=>Le.none _⟩
 |
  n+1=>by
  have ih:=KfV n
  exact ⟨fun a b=>by show Le (Kbk ((Kq n).1) ((Kq n).2.1) ((Kq n).2.2.1) ((Kq n).2.2.2.1) ((Kq n).2.2.2.2) a b) (Kbk ((Kq (n+1)).1) ((Kq (n+1)).2.1) ((Kq (n+1)).2.2.1) ((Kq (n+1)).2.2.2.1) ((Kq (n+1)).2.2.2.2) a b);revert ih;generalize Kq n=G0;generalize Kq (n+1)=G1;intro ih;unfold Kbk;repeat (first|with_reducible exact Le.refl _|with_reducible exact ih.1 _ _|with_reducible exact ih.2.1 _|with_reducible exact ih.2.2.1 _ _ _ _|with_reducible exact ih.2.2.2.1 _ _|with_reducible exact ih.2.2.2.2 _ _ _|with_reducible assumption|(refine Le.bind ?_ (fun _=>?_))|(refine Le.cond ?_ ?_)|(refine Le.loop (fun _=>?_))|(refine Le.elim (fun _=>?_) (fun _=>?_))),fun a=>by show Le (Kbd ((Kq n).1) ((Kq n).2.1) ((Kq n).2.2.1) ((Kq n).2.2.2.1) ((Kq n).2.2.2.2) a) (Kbd ((Kq (n+1)).1) ((Kq (n+1)).2.1) ((Kq (n+1)).2.2.1) ((Kq (n+1)).2.2.2.1) ((Kq (n+1)).2.2.2.2) a);revert ih;generalize Kq n=G0;generalize Kq (n+1)=G1;intro ih;unfold Kbd;repeat (first|with_reducible exact Le.refl _|with_reducible exact ih.1 _ _|with_reducible exact ih.2.1 _|with_reducible exact ih.2.2.1 _ _ _ _|with_reducible exact ih.2.2.2.1 _ _|with_reducible exact ih.2.2.2.2 _ _ _|with_reducible assumption|(refine Le.bind ?_ (fun _=>?_))|(refine Le.cond ?_ ?_)|(refine Le.loop (fun _=>?_))|(refine Le.elim (fun _=>?_) (fun _=>?_))),fun a b c d=>by show Le (KaN ((Kq n).1) ((Kq n).2.1) ((Kq n).2.2.1) ((Kq n).2.2.2.1) ((Kq n).2.2.2.2) a b c d) (KaN ((Kq (n+1)).1) ((Kq (n+1)).2.1) ((Kq (n+1)).2.2.1) ((Kq (n+1)).2.2.2.1) ((Kq (n+1)).2.2.2.2) a b c d);revert ih;generalize Kq n=G0;generalize Kq (n+1)=G1;intro ih;unfold KaN;repeat (first|with_reducible exact Le.refl _|with_reducible exact ih.1 _ _|with_reducible exact ih.2.1 _|with_reducible exact ih.2.2.1 _ _ _ _|with_reducible exact ih.2.2.2.1 _ _|with_reducible exact ih.2.2.2.2 _ _ _|with_reducible assumption|(refine Le.bind ?_ (fun _=>?_))|(refine Le.cond ?_ ?_)|(refine Le.loop (fun _=>?_))|(refine Le.elim (fun _=>?_) (fun _=>?_))),fun a b=>by show Le (Kbl ((Kq n).1) ((Kq n).2.1) ((Kq n).2.2.1) ((Kq n).2.2.2.1) ((Kq n).2.2.2.2) a b) (Kbl ((Kq (n+1)).1) ((Kq (n+1)).2.1) ((Kq (n+1)).2.2.1) ((Kq (n+1)).2.2.2.1) ((Kq (n+1)).2.2.2.2) a b);revert ih;generalize Kq n=G0;generalize Kq (n+1)=G1;intro ih;unfold Kbl;repeat (first|with_reducible exact Le.refl _|with_reducible exact ih.1 _ _|with_reducible exact ih.2.1 _|with_reducible exact ih.2.2.1 _ _ _ _|with_reducible exact ih.2.2.2.1 _ _|with_reducible exact ih.2.2.2.2 _ _ _|with_reducible assumption|(refine Le.bind ?_ (fun _=>?_))|(refine Le.cond ?_ ?_)|(refine Le.loop (fun _=>?_))|(refine Le.elim (fun _=>?_) (fun _=>?_))),fun a b c=>by show Le (Kbe ((Kq n).1) ((Kq n).2.1) ((Kq n).2.2.1) ((Kq n).2.2.2.1) ((Kq n).2.2.2.2) a b c) (Kbe ((Kq (n+1)).1) ((Kq (n+1)).2.1) ((Kq (n+1)).2.2.1) ((Kq (n+1)).2.2.2.1) ((Kq (n+1)).2.2.2.2) a b c);revert ih;generalize Kq n=G0;generalize Kq (n+1)=G1;intro ih;unfold Kbe;repeat (first|with_reducible exact Le.refl _|with_reducible exact ih.1 _ _|with_reducible exact ih.2.1 _|with_reducible exact ih.2.2.1 _ _ _ _|with_reducible exact ih.2.2.2.1 _ _|with_reducible exact ih.2.2.2.2 _ _ _|with_reducible assumption|(refine Le.bind ?_ (fun _=>?_))|(refine Le.cond ?_ ?_)|(refine Le.loop (fun _=>?_))|(refine Le.elim (fun _=>?_) (fun _=>?_)))⟩
def Kd5 (a:Ki)(b:Int):Option (Ke×Ki):=anyN fun n=>(Kq n).1 a b
theorem Kgw (a:Ki)(b:Int){r:Ke×Ki}(n:Nat)(h:(Kq n).1 a b=some r):Kd5 a b=some r:=KdY (fun m=>(KfV m).1 a b) h
theorem KjD (b c a e f r)(h0:Kd5 b c=some r):CallsD Tryz.prog 139 [.ptr a 0,iD c] [(a,Blk.cells (CZ8 b f) e)] [] (fun d h k=>d=Kk r.1∧h=[(a,Blk.cells (CZ8 r.2 .no) e)]∧k=[]):=
 let ⟨n,hn⟩:=Kc4 h0;(KfU n).1 b c a e f r hn
def Kdw (a0:List KB)(b:Int):Option (Ke×Int×Int):=
 (Option.bind (α:=Bool) (bif (decide (b < (0:Int))) then some true else some (decide ((a0.length:Int) < b))) fun c=>(bif c then some (qZ4,(0:Int),(2:Int)) else ((Kd5 (⟨a0,b,(0:Int)⟩:Ki) (0:Int)).bind fun a=>(bif (a.2.gE != (0:Int)) then some (qZ4,a.2.gb,a.2.gE) else some (a.1,a.2.gb,(0:Int))))))
theorem Uf {R G:Prop}(h:R)(k:R→G:=by intro h;(iterate 3 refine zh_e rfl rfl (Kam htab rfl) rfl rfl rfl rfl rfl rfl rfl rfl ?_);refine zh_M rfl rfl (fun _=>KN 0 htab rfl rfl rfl rfl rfl) (fun _=>KN 0 htab rfl rfl rfl rfl rfl) rfl rfl rfl rfl rfl rfl rfl rfl ?_;exact h):G:=k h
theorem Ug {R G:Prop}(h:R)(k:R→G:=by intro h;refine Uf ?_;refine Uf ?_;refine Keq 1 htab rfl rfl rfl rfl rfl rfl rfl rfl rfl rfl rfl rfl rfl rfl rfl rfl ?_;refine zh_q rfl rfl (Kam htab rfl) rfl rfl rfl rfl rfl rfl ?_;refine Ke0 rfl rfl rfl rfl (fun e he=>by simp [isAl] at he) ?_;refine Zu ?_;refine Ky ?_;exact h):G:=k h
theorem Uh {R G:Prop}(h:R)(k:R→G:=by intro h;refine Uf ?_;refine Keq 1 htab rfl rfl rfl rfl rfl rfl rfl rfl rfl rfl rfl rfl rfl rfl rfl rfl ?_;refine Ke0 rfl rfl rfl rfl (fun e he=>by simp [isAl] at he) ?_;refine pu ?_;refine Zu ?_;exact h):G:=k h
theorem KlO (a0 f r)(h0:Kdw a0 f=some r):CallsD Tryz.prog 128 [.lst 4 (a0.map Kl) .no,iD f] [] [] (fun d h k=>d=.tup [Kk r.1,iD r.2.1,iD r.2.2]∧h=[]∧k=[]):=by
 refine PZ1 h0 Tryz.func128 fun C a=>?_;refine Yl fun c=>?_;refine pu ?_;refine Zz ?_;refine ZA a fun p m n=>?_;refine Kaf (Y:=Unit) (fun q=>(⟨[(0,.lst 4 (a0.map Kl) .no),(1,iD f),(4,.ptr c 0),(17,.v (.bool p))],[(c,Blk.cells qZ0 127)],[]⟩:S)) ?_ ?_
 ·clear a;have a:=KE m;refine ZW ?_
  refine KaH (i:=12) rfl (fun g=>?_) (fun g=>?_)
  ·replace a:=yes_t g a;iterate 4 refine pK ?_
   refine ZB ?_;exact YK a
  replace a:=yes_f g a;refine Zl ?_;refine YL ?_;refine ZE ?_;exact YK a
 intro u s;have a:=n;clear m n;refine Zb s fun q=>?_;refine cY a (fun a=>?_) fun a=>?_
 ·refine Kd ?_;refine Xo ?_;refine pS0 (ds':=qZ0) ?_;refine Z8 ?_;refine Ky ?_;obtain rfl:=Kf a;refine retX.wk (WkS.bl0 (ds':=[iD (0:Int),iD (0:Int),tD ByteArray.empty,.lst 5 (([]:List Ke).map Kk) .no,iD (0:Int)]) (rC (rC (rC (WkR.cons (WkC.nil) rfl (rC WkR.nil)))))) ?_
  refine rP (t':=[(4,.ptr c 0),(5,iD (0:Int)),(6,iD (2:Int))]) [0] [] 0 (wC (wC (wC wN))) (lC 0 (lT (lT lN))) ?_;exact WRZ
 refine Zm ?_;refine ZM ?_;refine KbC (r:=[.lst 4 (a0.map Kl) .no,iD f,iD (0:Int)]) htab rfl rfl rfl rfl rfl rfl rfl rfl rfl ?_;refine YJ fun l=>?_;refine Yo ?_;refine ZV ?_;obtain ⟨b,t,a⟩:=Ka a;refine KdG (KjD (⟨a0,f,(0:Int)⟩:Ki) (0:Int) l 200 .no b t) rfl rfl rfl rfl rfl rfl rfl Wl ((KZ (j:=1) rfl).trans (List.Perm.cons _ Pf)) Pf ?_;refine Zi ?_;refine p_eq (i:=25) rfl (Wk.of_eq (Ko b.1)) ?_
 refine Zq fun o=>?_;refine pS2 (ds':=(CZ0 b.1 .no)) ?_;refine Zr ?_;refine Yq ?_
 refine cY a (fun a=>?_) fun a=>?_
 ·refine Km ?_;refine KdU 11 [] [[],[],[1],[1,2],[1,2,3],[],[5],[5,6],[5,6,7],[0],[0,1,2,3,4,9]] [0,1,2,3,4,5,6,7,8,9] [[],[],[1],[1,2],[1,2,3],[],[5],[5,6],[5,6,7],[0],[0,1,2,3,4,9],[0,1,2,3,4,5,6,7,8,9,10]] 9 (by kernel_rfl) (by kernel_rfl) (by kernel_rfl) (by rfl) (by rfl) (by kernel_rfl) ?_;refine ⟨[(l,Blk.cells (CZ8 b.2 .no) 200),(c,Blk.cells qZ0 127),(o,Blk.cells (CZ0 b.1 .no) 127)],?_⟩;iterate 9 apply Exists.intro
  refine ⟨.any,?_⟩;intro bs w;refine zh_e rfl rfl (Kfi (r:=qZ0) htab rfl rfl rfl rfl rfl rfl) rfl rfl rfl rfl rfl rfl rfl rfl ?_;refine Ug ?_
  obtain rfl:=Kf a;refine We ?_
  refine rP (t':=[(4,.ptr c 0),(5,iD b.2.gb),(6,iD b.2.gE)]) [1] [] 0 (wC (wC (wC wN))) (lC 0 (lT (lT lN))) ?_;exact WRZ
 refine ZO ?_;refine KdU 6 [] [[],[],[1],[1,2],[1,2,3],[0]] [0,1,2,3,4,5] [[],[],[1],[1,2],[1,2,3],[0],[0,1,2,3,4,5],[0,1,2,3,4,5,6]] 5 (by kernel_rfl) (by kernel_rfl) (by kernel_rfl) (by rfl) (by rfl) (by kernel_rfl) ?_;refine ⟨[(l,Blk.cells (CZ8 b.2 .no) 200),(c,Blk.cells (CZ0 b.1 .no) 127),(o,Blk.cells (CZ0 b.1 .no) 127)],?_⟩;iterate 5 apply Exists.intro
 refine ⟨.any,?_⟩;intro bs x;refine zh_M rfl rfl (fun _=>KN (d:=.agg (CZ0 b.1 .no)) 2 htab rfl rfl rfl rfl rfl) (offB rfl) rfl rfl rfl rfl rfl rfl rfl rfl ?_;refine Uh ?_
 obtain rfl:=Kf a;refine rP (t':=[(4,.ptr c 0),(5,iD b.2.gb),(6,iD (0:Int))]) [1] [] 0 (wC (wC (wC wN))) (lC 0 (lT (lT lN))) ?_;exact WRZ
abbrev nlVg1_6:List (List Nat):=nlD [] [(0,[]),(0,[0]),(2,[1]),(3,[2]),(0,[]),(0,[4]),(6,[5]),(7,[6]),(0,[]),(0,[8]),(10,[9]),(11,[10]),(12,[11]),(8,[8,9,10,11]),(4,[3,4,5,6,8,9,10,11]),(15,[14]),(16,[15]),(17,[]),(17,[]),(0,[]),(17,[16,19]),(21,[20])]
abbrev nlVg1_7:List (List Nat):=nlD [] [(0,[]),(0,[0]),(2,[1]),(3,[2]),(0,[]),(0,[4]),(6,[5]),(7,[6]),(0,[]),(0,[8]),(10,[9]),(11,[10]),(12,[11]),(8,[7,8,9,10,11,12]),(4,[3,4,5,6,7,8,9,10,11,12,13]),(15,[14]),(16,[15]),(17,[]),(17,[]),(0,[]),(17,[16,19]),(17,[16,17,19,20]),(17,[16,17,18,19,20,21])]
def KaA (a:Kg):Option (Ke×Kg):=
 (bif (a.gE != (0:Int)) then some (qZ4,a) else ((Kdw a.gL (min a.gb (a.gL.length:Int))).bind fun b=>(bif (b.2.2 != (0:Int)) then ((Kaz a b.2.1 b.2.2).bind fun c=>some (qZ4,c)) else some (b.1,(⟨a.gL,b.2.1,a.gE,a.gn,a.gm⟩:Kg)))))
theorem Kb2 (c g j i r)(h0:KaA c=some r):CallsD Tryz.prog 111 [.ptr g 0] [(g,Blk.cells (CZ7 c i) j)] [] (fun d h k=>d=Kk r.1∧h=[(g,Blk.cells (CZ7 r.2 i) j)]∧k=[]):=by
 refine PZ1 h0 Tryz.func111 fun C a=>?_;refine Yl fun m=>?_;refine Zr ?_;refine Yq ?_
 refine cY a (fun a=>?_) fun a=>?_
 ·refine Kd ?_;refine Xo ?_;refine pS1 (ds':=qZ0) ?_;refine Yi ?_;obtain rfl:=Kf a;refine We ?_;exact Xp
 refine ZO ?_;obtain ⟨f,n,a⟩:=Ka a;refine KgT 22 [(19,qZ0,127)] [(19,20,(CZ0 f.1 .no))] nlVg1_6 [0,1,2,3,4,5,6,8,9,10,11,14,15,16,19,20] nlVg1_7 (by kernel_rfl) (by kernel_rfl) (by kernel_rfl) (by rfl) (by rfl) (by kernel_rfl) ?_;iterate 14 apply Exists.intro
 refine ⟨.any,?_⟩;refine ⟨.any,?_⟩;intro bs;iterate 3 refine zf_e rfl rfl (Kam htab rfl) rfl rfl rfl rfl rfl rfl rfl ?_
 refine WY ?_;iterate 3 refine zf_e rfl rfl (Kam htab rfl) rfl rfl rfl rfl rfl rfl rfl ?_
 refine zf_qM rfl rfl (KN 0 htab rfl rfl rfl rfl rfl) rfl rfl rfl rfl rfl rfl ?_;iterate 3 refine zf_e rfl rfl (Kam htab rfl) rfl rfl rfl rfl rfl rfl rfl ?_
 refine WY ?_;refine zf_q rfl rfl (Kef htab rfl rfl rfl rfl (by first|exact K2|rfl)) rfl rfl rfl rfl rfl rfl ?_;refine zf_q rfl rfl (x_min rfl rfl rfl) rfl rfl rfl rfl rfl rfl ?_;refine zf_call rfl rfl (KlO c.gL (min c.gb (c.gL.length:Int)) f n) rfl rfl (WkL.cons (Wk.no) (WkL.cons (Wk.refl _) Wl)) rfl rfl rfl rfl rfl rfl rfl ?_;refine XR ?_;refine zf_e rfl rfl (Ex.wk (Kam htab rfl) (Wk.of_eq (Ko f.1))) rfl rfl rfl rfl rfl rfl rfl ?_;refine X6 ?_
 refine X6 ?_;refine WW ?_;refine Kir (e:=19) (zs:=qZ0) (T':=127) (ds':=(CZ0 f.1 .no)) htab rfl rfl rfl rfl rfl rfl rfl rfl rfl (by simp) (by simp) rfl rfl rfl rfl rfl rfl rfl rfl rfl ?_;refine X6 ?_
 refine zf_nil (h':=[(g,Blk.cells (CZ7 c i) j),(m,Blk.cells qZ0 127),(bs 19,Blk.cells (CZ0 f.1 .no) 127)]) rfl rfl rfl (fun e he=>by simp [isAl] at he;subst he;rfl) ?_;obtain ⟨q,l⟩:∃ b,bs 19=b:=⟨_,rfl⟩;simp only [l];clear l;refine Y3 ?_;refine cY a (fun a=>?_) fun a=>?_
 ·refine ZS ?_
  obtain ⟨o,p,a⟩:=Ka a;refine pG (Kbh c f.2.1 f.2.2 g j i o p) Wl Pf Pf ?_;refine Yc ?_;refine Xo ?_;refine pS1 (ds':=qZ0) ?_;refine Yi ?_;obtain rfl:=Kf a
  refine We ?_;exact Xp
 refine Zm ?_;refine YA ?_
 refine pS0 (ds':=[.lst 4 (c.gL.map Kl) i,iD f.2.1,iD c.gE,iD c.gn,iD c.gm]) ?_;refine KH ?_;refine Kaa (d:=.agg (CZ0 f.1 .no)) 2 htab rfl rfl rfl rfl rfl rfl rfl rfl ?_;refine pS1 (ds':=(CZ0 f.1 .no)) ?_;refine ZG ?_;obtain rfl:=Kf a;exact Xp
def KbD (g:Kg):Option (List Ke×Kg):=
 ((KQ g ([qZ8]:List ByteArray)).bind fun h=>((KY h qZ10).bind fun c=>(bif c.1 then some (([]:List Ke),c.2) else (Option.bind (α:=List Ke×List KB×Int×Int×Int×Int) (loopM (fun (a:List Ke×List KB×Int×Int×Int×Int)=>(bif (a.2.2.2.1==(0:Int)) then ((KaA (⟨a.2.1,a.2.2.1,a.2.2.2.1,a.2.2.2.2.1,a.2.2.2.2.2⟩:Kg)).bind fun e=>((app 64 a.1 ([e.1]:List Ke)).bind fun f=>((KY e.2 (ByteArray.mk #[44])).bind fun b=>(bif (!b.1) then some (.done (f,b.2.gL,b.2.gb,b.2.gE,b.2.gn,b.2.gm)) else some (.next (f,b.2.gL,b.2.gb,b.2.gE,b.2.gn,b.2.gm)))))) else some (.done (a.1,a.2.1,a.2.2.1,a.2.2.2.1,a.2.2.2.2.1,a.2.2.2.2.2)))) (([]:List Ke),c.2.gL,c.2.gb,c.2.gE,c.2.gn,c.2.gm)) fun d=>((KQ (⟨d.2.1,d.2.2.1,d.2.2.2.1,d.2.2.2.2.1,d.2.2.2.2.2⟩:Kg) ([qZ10]:List ByteArray)).bind fun i=>some (d.1,i))))))
theorem KhA (n b f o r)(h0:KbD n=some r):CallsD Tryz.prog 138 [.ptr b 0,.fn (.func 111) [.ptr b 0] []] [(b,Blk.cells (CZ7 n o) f)] [] (fun d h k=>∃ p,d=.lst 5 (r.1.map Kk) (.cur p)∧h=[(b,Blk.cells (CZ7 r.2 .no) f)]∧k=[(5,p)]):=by
 refine PZ1 h0 Tryz.func138 fun C a=>?_;refine Zd ?_;refine Zo ?_;refine YO ?_;refine p_eq (i:=7) (d':=.lst 1 (([qZ8]:List ByteArray).map eStr) .full) rfl (Wk.lst0 (.cons (WkC.refl _) (.nil))) ?_;obtain ⟨v,w,a⟩:=Ka a;refine Ua w ?_;refine Zr ?_
 refine ZD a fun l x a=>?_;refine pG (KaB v qZ10 b f o l x) Wl Pf Pf ?_;refine Zi ?_;refine Kb ?_;refine cY a (fun a=>?_) fun a=>?_
 ·refine Yz ?_;refine Ky ?_;obtain rfl:=Kf a;refine retX.tokN (i:=4) 5 rfl (fun q=>?_);refine retX.wk (WkS.bl0 (ds':=(CZ7 l.2 .no)) (rO (rC (rC (rC (rC WkR.nil)))))) ?_;refine rP (t':=[(4,.lst 5 (([]:List Ke).map Kk) (.cur q))]) [0] [0] 1 (wC wN) (lT lN) ?_;exact ⟨q,rfl,rfl,rfl⟩
 refine ZO ?_;obtain ⟨c,s,t⟩:=Ka a;refine Kaf (Y:=Value) (fun g=>(⟨[(0,.ptr b 0),(5,.lst 5 (c.1.map Kk) (.cur g))],[(b,Blk.cells [.lst 4 (c.2.1.map Kl) .no,iD c.2.2.1,iD c.2.2.2.1,iD c.2.2.2.2.1,iD c.2.2.2.2.2] f)],[(5,g)]⟩:S)) ?_ ?_
 ·clear a;have a:=KE s;refine Zy a fun J y u=>?_;refine KaO (Y:=Value) y (fun e m=>(⟨[(0,.ptr b 0),(1,.fn (.func 111) [.ptr b 0] []),(5,.lst 5 (e.1.map Kk) (.cur m))],[(b,Blk.cells [.lst 4 (e.2.1.map Kl) .no,iD e.2.2.1,iD e.2.2.2.1,iD e.2.2.2.2.1,iD e.2.2.2.2.2] f)],[(5,m)]⟩:S)) ?_ ?_
  ·skip
   refine WkX.tokN (i:=5) 5 rfl (fun z=>?_);refine WkX.wk (WkS.bl0 (ds':=(CZ7 l.2 .no)) (rO (rC (rC (rC (rC WkR.nil)))))) ?_;exact WkX.of z (wP (wC (wC (wC wN))))
  intro G28 e m a;refine Km ?_;refine Yq ?_
  refine cY a (fun a=>?_) fun a=>?_
  ·refine Zm ?_;refine KJ ?_;refine ZM ?_;obtain ⟨j,A,a⟩:=Ka a;refine KdG (Kb2 (⟨e.2.1,e.2.2.1,e.2.2.2.1,e.2.2.2.2.1,e.2.2.2.2.2⟩:Kg) b f .no j A) rfl rfl rfl rfl rfl rfl rfl Wl Pf Pf ?_;refine Zi ?_;refine p_eq (i:=19) rfl (Wk.of_eq (Ko j.1)) ?_;refine ZJ ?_;refine p_eq (i:=20) (d':=.lst 5 (([j.1]:List Ke).map Kk) .full) rfl (Wk.lst0 (.cons (WkC.trans (WkC.agg (WkR.refl _)) (WkC.of_eq (Ko j.1).symm)) (.nil))) ?_
   refine Xv a fun K B a D=>?_;refine Kgf (i:=21) B rfl ?_;refine Yo ?_;obtain ⟨E,F,a⟩:=Ka a;refine pG (KaB j.2 (ByteArray.mk #[44]) b f .no E F) Wl Pf Pf ?_;refine YS ?_;refine cY a (fun a=>?_) fun a=>?_
   ·refine Kas ?_;refine Kgd rfl ?_;obtain rfl:=K6 a;have a:=u
    exact Y9 a
   refine Kx ?_;refine Xa a ?_;exact WkX.of D (wP (wC (wC (wC wN))))
  refine Zs ?_;obtain rfl:=K6 a;have a:=u
  exact Y9 a
 intro L G;have a:=t;clear s t;refine Zb G fun g=>?_;refine Zd ?_;refine ZJ ?_;refine p_eq (i:=26) (d':=.lst 1 (([qZ10]:List ByteArray).map eStr) .full) rfl (Wk.lst0 (.cons (WkC.refl _) (.nil))) ?_;obtain ⟨H,I,a⟩:=Ka a;refine Ka6 (Kao (⟨c.2.1,c.2.2.1,c.2.2.2.1,c.2.2.2.2.1,c.2.2.2.2.2⟩:Kg) ([qZ10]:List ByteArray) b f .no H I) rfl rfl rfl rfl rfl (WkL.cons (Wk.refl _) (WkL.cons (Wk.no) Wl)) Pf Pf ?_;refine Zi ?_
 refine Zo ?_;refine Zu ?_;obtain rfl:=Kf a;refine rP (t':=[(4,.lst 5 (c.1.map Kk) (.cur g))]) [0] [0] 1 (wC wN) (lT lN) ?_;exact ⟨g,rfl,rfl,rfl⟩
def Kbp (d:Kg)(a:Kj):Option (Kj×Kg):=
 ((KaQ d).bind fun b=>((KbD b.2).bind fun c=>((KQ c.2 qZ3).bind fun e=>some ((⟨(4:Int),a.ga,b.1,c.1,a.gc,a.gq,a.gb⟩:Kj),e))))
theorem Ui {G:Prop}(k:G:=by exact ⟨by first|rfl|(simp only [wrapD,Kv];done)|(simp only [wrapD,Kv];rfl),rfl,rfl⟩):G:=k
theorem XD {G:Prop}(k:G:=by refine rP (t':=[(4,.ptr _ 0)]) [0,1] [] 1 (wC wN) (lC 1 lN) ?_;exact Ui):G:=k
theorem Ym {G:Prop}{b:Sort _}{R:(u:b)→Prop}(h:∀ u,R u)(k:(∀ u,R u)→G:=by intro h;refine ZL fun _l=>?_;refine pu ?_;exact h _l):G:=k h
theorem Kfw (j a f b l r)(h0:Kbp j a=some r):CallsD Tryz.prog 126 [.ptr f 0,Kh a] [(f,Blk.cells (CZ7 j l) b)] [] (fun d h k=>d=Kh r.1∧h=[(f,Blk.cells (CZ7 r.2 .no) b)]∧k=[]):=by
 refine PZ1 h0 Tryz.func126 fun C c=>?_;refine XN fun s=>?_;refine Zq fun t=>?_;refine Zo ?_;refine pS1 (ds':=[iD (4:Int),tD a.ga,tD a.gu,.lst 5 (a.go.map Kk) .no,.lst 7 (a.gc.map Kh) .no,.lst 7 (a.gq.map Kh) .no,iD a.gb]) ?_;refine Zo ?_;obtain ⟨e,n,c⟩:=Ka c;refine pG (Kcx j f b l e n) Wl Pf Pf ?_;refine Ys ?_
 refine pS1 (ds':=[iD (4:Int),tD a.ga,tD e.1,.lst 5 (a.go.map Kk) .no,.lst 7 (a.gc.map Kh) .no,.lst 7 (a.gq.map Kh) .no,iD a.gb]) ?_;refine Yt ?_
 obtain ⟨g,o,c⟩:=Ka c;refine pG (KhA e.2 f b l g o) Wl Pf Pf ?_;refine Ym fun m=>?_;refine pS1 (ds':=[iD (4:Int),tD a.ga,tD e.1,.lst 5 (g.1.map Kk) (.cur m),.lst 7 (a.gc.map Kh) .no,.lst 7 (a.gq.map Kh) .no,iD a.gb]) ?_;refine YO ?_;refine p_eq (i:=15) (d':=.lst 1 (qZ3.map eStr) .full) rfl (Wk.lst0 (.cons (WkC.refl _) (.nil))) ?_;obtain ⟨p,q,c⟩:=Ka c
 refine Ka6 (Kao g.2 qZ3 f b .no p q) rfl rfl rfl rfl rfl (WkL.cons (Wk.refl _) (WkL.cons (Wk.no) Wl)) Pf Pf ?_;refine Yc ?_;refine Kaa (d:=.agg [iD (4:Int),tD a.ga,tD e.1,.lst 5 (g.1.map Kk) (.cur m),.lst 7 (a.gc.map Kh) .no,.lst 7 (a.gq.map Kh) .no,iD a.gb]) 1 htab rfl rfl rfl rfl rfl rfl rfl rfl ?_;refine pS2 (ds':=[iD (4:Int),tD a.ga,tD e.1,.lst 5 (g.1.map Kk) (.cur m),.lst 7 (a.gc.map Kh) .no,.lst 7 (a.gq.map Kh) .no,iD a.gb]) ?_;refine ZG ?_
 obtain rfl:=Kf c;refine retX.wk (WkS.bl2 (ds':=[iD (4:Int),tD a.ga,tD e.1,.lst 5 (g.1.map Kk) .no,.lst 7 (a.gc.map Kh) .no,.lst 7 (a.gq.map Kh) .no,iD a.gb]) (rC (rC (rC (rO (rC (rC (rC WkR.nil)))))))) ?_;exact XD
def KaT (e:Kg)(a:Kj):Option (Kj×Kg):=
 ((KY e (ByteArray.mk #[105,110,112,117,116])).bind fun b=>(bif b.1 then ((KQ b.2 ([qZ8,qZ10,qZ22]:List ByteArray)).bind fun f=>some ((⟨(5:Int),a.ga,a.gu,a.go,a.gc,a.gq,a.gb⟩:Kj),f)) else (Option.bind (α:=Bool) ((Kav b.2 (0:Int)).bind fun g=>(bif (g.gt==(1:Int)) then ((KaD b.2 (1:Int) qZ8).bind fun h=>some h) else some false)) fun i=>(bif i then ((Kbp b.2 a).bind fun c=>some (c.1,c.2)) else ((KaA b.2).bind fun d=>((KQ d.2 qZ3).bind fun j=>some ((⟨(1:Int),a.ga,a.gu,([d.1]:List Ke),a.gc,a.gq,a.gb⟩:Kj),j)))))))
theorem XE {R G:Prop}(h:R)(k:R→G:=by intro h;refine retX.wk (WkS.bl0 (ds':=(CZ7 _ .no)) (rO (rC (rC (rC (rC WkR.nil)))))) ?_;exact h):G:=k h
abbrev qZ13:List D:=[iD (0:Int),tD ByteArray.empty,tD ByteArray.empty,.lst 1 [] .full,.lst 1 [] .full,.lst 1 [] .full,iD (0:Int)]
theorem KhB (l a c e f r)(h0:KaT l a=some r):CallsD Tryz.prog 127 [.ptr c 0,Kh a] [(c,Blk.cells (CZ7 l f) e)] [] (fun d h k=>d=Kh r.1∧h=[(c,Blk.cells (CZ7 r.2 .no) e)]∧k=[]):=by
 refine PZ1 h0 Tryz.func127 fun C b=>?_;refine XN fun o=>?_;refine Zq fun p=>?_;refine Zr ?_;refine KJ ?_;refine ZD b fun j t b=>?_;refine pG (KaB l (ByteArray.mk #[105,110,112,117,116]) c e f j t) Wl Pf Pf ?_;refine YS ?_;refine cY b (fun b=>?_) fun b=>?_
 ·refine Zd ?_;refine pS1 (ds':=[iD (5:Int),tD a.ga,tD a.gu,.lst 5 (a.go.map Kk) .no,.lst 7 (a.gc.map Kh) .no,.lst 7 (a.gq.map Kh) .no,iD a.gb]) ?_;refine YO ?_;refine p_eq (i:=10) (d':=.lst 1 (([qZ8,qZ10,qZ22]:List ByteArray).map eStr) .full) rfl (Wk.lst0 (.cons (WkC.refl _) (.cons (WkC.refl _) (.cons (WkC.refl _) (.nil))))) ?_;obtain ⟨u,w,b⟩:=Ka b
  refine Ka6 (Kao j.2 ([qZ8,qZ10,qZ22]:List ByteArray) c e f u w) rfl rfl rfl rfl rfl (WkL.cons (Wk.refl _) (WkL.cons (Wk.no) Wl)) Pf Pf ?_;refine Yc ?_;refine Kaa (d:=.agg [iD (5:Int),tD a.ga,tD a.gu,.lst 5 (a.go.map Kk) .no,.lst 7 (a.gc.map Kh) .no,.lst 7 (a.gq.map Kh) .no,iD a.gb]) 1 htab rfl rfl rfl rfl rfl rfl rfl rfl ?_;refine pS2 (ds':=[iD (5:Int),tD a.ga,tD a.gu,.lst 5 (a.go.map Kk) .no,.lst 7 (a.gc.map Kh) .no,.lst 7 (a.gq.map Kh) .no,iD a.gb]) ?_
  refine Yh ?_;obtain rfl:=Kf b;refine XE ?_;exact XD
 refine ZA b fun x q s=>?_;refine Kaf (Y:=Unit) (fun y=>(⟨[(0,.ptr c 0),(3,.ptr o 0),(4,.ptr p 0),(13,.v (.bool x))],[(c,Blk.cells (CZ7 j.2 f) e),(o,Blk.cells (CZ2 a .no .no .no) 98),(p,Blk.cells qZ13 98)],[]⟩:S)) ?_ ?_
 ·clear b;have b:=KE q;refine ZN ?_;obtain ⟨z,A,b⟩:=Ka b;refine pG (Kb0 j.2 (0:Int) c e f z A) Wl Pf Pf ?_;refine Zi ?_;iterate 3 refine pu ?_
  refine KaH (i:=18) rfl (fun m=>?_) (fun m=>?_)
  ·replace b:=yes_t m b;refine pu ?_;obtain ⟨B,E,b⟩:=Ka b;refine pG (Kdf j.2 (1:Int) qZ8 c e f B E) Wl Pf Pf ?_;refine Zi ?_;refine Yj ?_;exact YK b
  replace b:=yes_f m b;refine Yp ?_;refine Z5 ?_;exact YK b
 intro L F;have b:=s;clear q s;refine Zb F fun y=>?_;refine cY b (fun b=>?_) fun b=>?_
 ·refine Zd ?_;refine XO ?_;obtain ⟨n,H,b⟩:=Ka b;refine Ka6 (Kfw j.2 a c e f n H) rfl rfl rfl rfl rfl (WkL.cons (Wk.refl _) (WkL.cons (Wk.trans (Wk.agg (WkR.refl _)) (Wk.of_eq (Kv a).symm)) Wl)) Pf Pf ?_;refine Zi ?_;refine p_eq (i:=24) rfl (Wk.of_eq (Kv n.1)) ?_
  refine pS2 (ds':=(CZ2 n.1 .no .no .no)) ?_;refine Yh ?_;obtain rfl:=Kf b;exact XD
 refine ZK ?_;refine Zd ?_;refine pS1 (ds':=[iD (1:Int),tD a.ga,tD a.gu,.lst 5 (a.go.map Kk) .no,.lst 7 (a.gc.map Kh) .no,.lst 7 (a.gq.map Kh) .no,iD a.gb]) ?_;refine Zo ?_;obtain ⟨g,I,b⟩:=Ka b;refine pG (Kb2 j.2 c e f g I) Wl Pf Pf ?_;refine Zi ?_;refine p_eq (i:=27) rfl (Wk.of_eq (Ko g.1)) ?_;refine ZJ ?_
 refine p_eq (i:=28) (d':=.lst 5 (([g.1]:List Ke).map Kk) .full) rfl (Wk.lst0 (.cons (WkC.trans (WkC.agg (WkR.refl _)) (WkC.of_eq (Ko g.1).symm)) (.nil))) ?_;refine pu ?_;refine pS1 (ds':=[iD (1:Int),tD a.ga,tD a.gu,.lst 5 (([g.1]:List Ke).map Kk) .full,.lst 7 (a.gc.map Kh) .no,.lst 7 (a.gq.map Kh) .no,iD a.gb]) ?_;refine YO ?_;refine p_eq (i:=31) (d':=.lst 1 (qZ3.map eStr) .full) rfl (Wk.lst0 (.cons (WkC.refl _) (.nil))) ?_;obtain ⟨J,K,b⟩:=Ka b
 refine Ka6 (Kao g.2 qZ3 c e f J K) rfl rfl rfl rfl rfl (WkL.cons (Wk.refl _) (WkL.cons (Wk.no) Wl)) Pf Pf ?_;refine Yc ?_;refine Kaa (d:=.agg [iD (1:Int),tD a.ga,tD a.gu,.lst 5 (([g.1]:List Ke).map Kk) .full,.lst 7 (a.gc.map Kh) .no,.lst 7 (a.gq.map Kh) .no,iD a.gb]) 1 htab rfl rfl rfl rfl rfl rfl rfl rfl ?_;refine pS2 (ds':=[iD (1:Int),tD a.ga,tD a.gu,.lst 5 (([g.1]:List Ke).map Kk) .full,.lst 7 (a.gc.map Kh) .no,.lst 7 (a.gq.map Kh) .no,iD a.gb]) ?_;refine ZG ?_
 obtain rfl:=Kf b;refine retX.wk (WkS.bl2 (ds':=[iD (1:Int),tD a.ga,tD a.gu,.lst 5 (([g.1]:List Ke).map Kk) .no,.lst 7 (a.gc.map Kh) .no,.lst 7 (a.gq.map Kh) .no,iD a.gb]) (rC (rC (rC (rO (rC (rC (rC WkR.nil)))))))) ?_;refine XE ?_;exact XD
end
section
open Go
set_option maxRecDepth 100000
abbrev qZ24:List ByteArray:=[(ByteArray.mk #[61])]
def KaZ (b:Kg)(a:Kj):Option (Kj×Kg):=
 ((KaD b (1:Int) qZ8).bind fun i=>(bif i then ((Kbp b a).bind fun e=>some (e.1,e.2)) else ((KaQ b).bind fun c=>((KY c.2 qZ20).bind fun d=>(bif d.1 then ((KaA d.2).bind fun f=>((KQ f.2 ([qZ21,(ByteArray.mk #[61])]:List ByteArray)).bind fun j=>((KaA j).bind fun g=>((KQ g.2 qZ3).bind fun k=>some ((⟨(2:Int),c.1,a.gu,([f.1,g.1]:List Ke),a.gc,a.gq,a.gb⟩:Kj),k))))) else ((KQ d.2 qZ24).bind fun l=>((KaT l (⟨a.gj,c.1,a.gu,a.go,a.gc,a.gq,a.gb⟩:Kj)).bind fun h=>some (h.1,h.2))))))))
theorem KhU (n a c g l r)(h0:KaZ n a=some r):CallsD Tryz.prog 110 [.ptr c 0,Kh a] [(c,Blk.cells (CZ7 n l) g)] [] (fun d h k=>d=Kh r.1∧h=[(c,Blk.cells (CZ7 r.2 .no) g)]∧k=[]):=by
 refine PZ1 h0 Tryz.func110 fun C b=>?_;refine XN fun o=>?_;refine Zq fun p=>?_;refine Zr ?_;refine ZD b fun A B b=>?_;refine pG (Kdf n (1:Int) qZ8 c g l A B) Wl Pf Pf ?_;refine Zi ?_;refine Kb ?_;refine cY b (fun b=>?_) fun b=>?_
 ·refine Zd ?_;refine XO ?_;obtain ⟨q,D,b⟩:=Ka b;refine Ka6 (Kfw n a c g l q D) rfl rfl rfl rfl rfl (WkL.cons (Wk.refl _) (WkL.cons (Wk.trans (Wk.agg (WkR.refl _)) (Wk.of_eq (Kv a).symm)) Wl)) Pf Pf ?_;refine Zi ?_;refine p_eq (i:=10) rfl (Wk.of_eq (Kv q.1)) ?_
  refine pS2 (ds':=(CZ2 q.1 .no .no .no)) ?_;refine Yi ?_;obtain rfl:=Kf b;exact XD
 refine Zm ?_;refine ZD b fun j E b=>?_;refine pG (Kcx n c g l j E) Wl Pf Pf ?_;refine Ys ?_;refine pS1 (ds':=[iD a.gj,tD j.1,tD a.gu,.lst 5 (a.go.map Kk) .no,.lst 7 (a.gc.map Kh) .no,.lst 7 (a.gq.map Kh) .no,iD a.gb]) ?_;refine Zr ?_;refine ZD b fun s F b=>?_;refine pG (KaB j.2 qZ20 c g l s F) Wl Pf Pf ?_;refine Zi ?_;refine Kb ?_;refine cY b (fun b=>?_) fun b=>?_
 ·refine Zd ?_;refine pS1 (ds':=[iD (2:Int),tD j.1,tD a.gu,.lst 5 (a.go.map Kk) .no,.lst 7 (a.gc.map Kh) .no,.lst 7 (a.gq.map Kh) .no,iD a.gb]) ?_;refine Zo ?_;obtain ⟨f,G,b⟩:=Ka b;refine pG (Kb2 s.2 c g l f G) Wl Pf Pf ?_;refine Zi ?_;refine p_eq (i:=18) rfl (Wk.of_eq (Ko f.1)) ?_;refine Zq fun t=>?_;refine pS3 (ds':=(CZ0 f.1 .no)) ?_;refine YO ?_
  refine p_eq (i:=20) (d':=.lst 1 (([qZ21,(ByteArray.mk #[61])]:List ByteArray).map eStr) .full) rfl (Wk.lst0 (.cons (WkC.refl _) (.cons (WkC.refl _) (.nil)))) ?_;obtain ⟨u,H,b⟩:=Ka b;refine Ka6 (Kao f.2 ([qZ21,(ByteArray.mk #[61])]:List ByteArray) c g l u H) rfl rfl rfl rfl rfl (WkL.cons (Wk.refl _) (WkL.cons (Wk.no) Wl)) Pf Pf ?_;refine Zi ?_;refine Zr ?_;obtain ⟨m,I,b⟩:=Ka b
  refine Kfk (X:=BK) 3 [] [[],[],[1]] [0,1,2] [[],[],[1],[0,1,2],[0,1,2,3],[0,1,2,3,4]] ⟨2,fun x=>x.1++[(o,Blk.cells [iD (2:Int),tD j.1,tD a.gu,.lst 5 (a.go.map Kk) .no,.lst 7 (a.gc.map Kh) .no,.lst 7 (a.gq.map Kh) .no,iD a.gb] 98),(p,Blk.cells qZ13 98),(t,Blk.cells (CZ0 f.1 .no) 127)],fun x=>x.2++[],fun x=>x.1=[(c,Blk.cells (CZ7 m.2 l) g)]∧x.2=[]⟩ ([],[]) (by kernel_rfl) (by kernel_rfl) (by kernel_rfl) (by rfl) (by rfl) (by kernel_rfl) ?_
  iterate 3 apply Exists.intro
  intro bs;refine zx_M rfl rfl (fun _=>KN (d:=.agg (CZ0 f.1 .no)) 3 htab rfl rfl rfl rfl rfl) (fun _ ⟨O,P⟩ ⟨v,w⟩=>by cases v;cases w;exact KN (d:=.agg (CZ0 f.1 .no)) 3 htab rfl rfl rfl rfl rfl) rfl rfl rfl rfl rfl rfl rfl rfl ?_;refine YT ?_
  refine KgB (h1:=[(c,Blk.cells (CZ7 u l) g)]) (k1:=[]) (d:=.agg (CZ0 m.1 .no)) rfl rfl rfl (Kb2 u c g l m I) rfl rfl Wl Pf Pf (fun _=>rfl) (fun _=>rfl) (fun d' h' k' ⟨v,w,J⟩=>⟨⟨w,J⟩,by subst v;exact Wk.of_eq (Ko m.1)⟩) rfl rfl rfl rfl rfl rfl ?_
  refine Khe (h2:=[(o,Blk.cells [iD (2:Int),tD j.1,tD a.gu,.lst 5 (a.go.map Kk) .no,.lst 7 (a.gc.map Kh) .no,.lst 7 (a.gq.map Kh) .no,iD a.gb] 98),(p,Blk.cells qZ13 98),(t,Blk.cells (CZ0 f.1 .no) 127)]) (hz:=[(o,Blk.cells [iD (2:Int),tD j.1,tD a.gu,.lst 5 (a.go.map Kk) .no,.lst 7 (a.gc.map Kh) .no,.lst 7 (a.gq.map Kh) .no,iD a.gb] 98),(p,Blk.cells qZ13 98),(t,Blk.cells (CZ0 f.1 .no) 127)]) rfl rfl (fun _=>rfl) (fun _=>rfl) rfl (fun e he=>by simp [isAl] at he) ?_
  rintro _ _ ⟨rfl,rfl⟩;refine ZJ ?_;refine p_eq (i:=25) (d':=.lst 5 (([f.1,m.1]:List Ke).map Kk) .full) rfl (Wk.lst0 (.cons (WkC.trans (WkC.agg (WkR.refl _)) (WkC.of_eq (Ko f.1).symm)) (.cons (WkC.trans (WkC.agg (WkR.refl _)) (WkC.of_eq (Ko m.1).symm)) (.nil)))) ?_;refine pu ?_;refine pS1 (ds':=[iD (2:Int),tD j.1,tD a.gu,.lst 5 (([f.1,m.1]:List Ke).map Kk) .full,.lst 7 (a.gc.map Kh) .no,.lst 7 (a.gq.map Kh) .no,iD a.gb]) ?_;refine YO ?_
  refine p_eq (i:=28) (d':=.lst 1 (qZ3.map eStr) .full) rfl (Wk.lst0 (.cons (WkC.refl _) (.nil))) ?_;obtain ⟨K,L,b⟩:=Ka b;refine Ka6 (Kao m.2 qZ3 c g l K L) rfl rfl rfl rfl rfl (WkL.cons (Wk.refl _) (WkL.cons (Wk.no) Wl)) Pf Pf ?_;refine Yc ?_
  refine Kaa (d:=.agg [iD (2:Int),tD j.1,tD a.gu,.lst 5 (([f.1,m.1]:List Ke).map Kk) .full,.lst 7 (a.gc.map Kh) .no,.lst 7 (a.gq.map Kh) .no,iD a.gb]) 1 htab rfl rfl rfl rfl rfl rfl rfl rfl ?_;refine pS2 (ds':=[iD (2:Int),tD j.1,tD a.gu,.lst 5 (([f.1,m.1]:List Ke).map Kk) .full,.lst 7 (a.gc.map Kh) .no,.lst 7 (a.gq.map Kh) .no,iD a.gb]) ?_;refine Yi ?_;obtain rfl:=Kf b
  refine retX.wk (WkS.bl2 (ds':=[iD (2:Int),tD j.1,tD a.gu,.lst 5 (([f.1,m.1]:List Ke).map Kk) .no,.lst 7 (a.gc.map Kh) .no,.lst 7 (a.gq.map Kh) .no,iD a.gb]) (rC (rC (rC (rO (rC (rC (rC WkR.nil)))))))) ?_;refine XE ?_;exact XD
 refine Zm ?_;refine Zd ?_;refine ZJ ?_;refine p_eq (i:=32) (d':=.lst 1 (qZ24.map eStr) .full) rfl (Wk.lst0 (.cons (WkC.refl _) (.nil))) ?_;obtain ⟨z,M,b⟩:=Ka b;refine Ka6 (Kao s.2 qZ24 c g l z M) rfl rfl rfl rfl rfl (WkL.cons (Wk.refl _) (WkL.cons (Wk.no) Wl)) Pf Pf ?_;refine Zi ?_;refine Zo ?_
 refine Kaa (d:=.agg [iD a.gj,tD j.1,tD a.gu,.lst 5 (a.go.map Kk) .no,.lst 7 (a.gc.map Kh) .no,.lst 7 (a.gq.map Kh) .no,iD a.gb]) 1 htab rfl rfl rfl rfl rfl rfl rfl rfl ?_;obtain ⟨y,N,b⟩:=Ka b;refine Ka6 (KhB z (⟨a.gj,j.1,a.gu,a.go,a.gc,a.gq,a.gb⟩:Kj) c g l y N) rfl rfl rfl rfl rfl (WkL.cons (Wk.refl _) (WkL.cons (Wk.trans (Wk.agg (WkR.refl _)) (Wk.of_eq (Kv (⟨a.gj,j.1,a.gu,a.go,a.gc,a.gq,a.gb⟩:Kj)).symm)) Wl)) Pf Pf ?_;refine Zi ?_;refine p_eq (i:=36) rfl (Wk.of_eq (Kv y.1)) ?_
 refine pS2 (ds':=(CZ2 y.1 .no .no .no)) ?_;refine ZG ?_;obtain rfl:=Kf b;exact XD
def Kbq (b:Kg):Option (List Ke×Kg):=
 ((KQ b ([qZ8]:List ByteArray)).bind fun c=>((KaA c).bind fun a=>((KQ a.2 ([qZ10]:List ByteArray)).bind fun d=>some (([a.1]:List Ke),d))))
theorem Ker (g c e f r)(h0:Kbq g=some r):CallsD Tryz.prog 112 [.ptr c 0] [(c,Blk.cells (CZ7 g f) e)] [] (fun d h k=>∃ j,d=.lst 5 (r.1.map Kk) (.cur j)∧h=[(c,Blk.cells (CZ7 r.2 f) e)]∧k=[(5,j)]):=by
 refine PZ1 h0 Tryz.func112 fun C b=>?_;refine Zd ?_;refine YO ?_;refine p_eq (i:=5) (d':=.lst 1 (([qZ8]:List ByteArray).map eStr) .full) rfl (Wk.lst0 (.cons (WkC.refl _) (.nil))) ?_;obtain ⟨m,n,b⟩:=Ka b;refine Ua n ?_;refine Zo ?_
 obtain ⟨a,o,b⟩:=Ka b;refine pG (Kb2 m c e f a o) Wl Pf Pf ?_;refine Zi ?_;refine p_eq (i:=8) rfl (Wk.of_eq (Ko a.1)) ?_;refine Zq fun s=>?_;refine pS1 (ds':=(CZ0 a.1 .no)) ?_;refine YO ?_;refine p_eq (i:=10) (d':=.lst 1 (([qZ10]:List ByteArray).map eStr) .full) rfl (Wk.lst0 (.cons (WkC.refl _) (.nil))) ?_;obtain ⟨p,q,b⟩:=Ka b
 refine Ka6 (Kao a.2 ([qZ10]:List ByteArray) c e f p q) rfl rfl rfl rfl rfl (WkL.cons (Wk.refl _) (WkL.cons (Wk.no) Wl)) Pf Pf ?_;refine Yc ?_;refine Kaa (d:=.agg (CZ0 a.1 .no)) 1 htab rfl rfl rfl rfl rfl rfl rfl rfl ?_;refine ZJ ?_;refine p_eq (i:=13) (d':=.lst 5 (([a.1]:List Ke).map Kk) .full) rfl (Wk.lst0 (.cons (WkC.trans (WkC.agg (WkR.refl _)) (WkC.of_eq (Ko a.1).symm)) (.nil))) ?_;refine Zu ?_
 obtain rfl:=Kf b;refine retX.tokF (i:=2) rfl (fun l=>?_);refine rP (t':=[(2,.lst 5 (([a.1]:List Ke).map Kk) (.cur l))]) [0] [0] 1 (wC wN) (lT lN) ?_;exact ⟨l,rfl,rfl,rfl⟩
def grammar_nothing:Option (Unit):=
 some ()
theorem KjQ (r)(h0:grammar_nothing=some r):CallsD Tryz.prog 113 [] [] [] (fun d h k=>d=.tup []∧h=[]∧k=[]):=by
 refine PZ1 h0 Tryz.func113 fun C a=>?_;refine Kx ?_;first|(have b:=Kf a;subst b)|skip
 refine rP (t':=[]) [] [] 0 wN lN ?_;exact Za
def Ka1 (g0:(Kg)→Option (Kj×Kg))(g1:(Kg)→Option (List Kj×Kg))(c:Kg):Option (Kj×Kg):=
 ((Kav c (0:Int)).bind fun a=>(bif (a.gt==(1:Int)) then ((KaZ c (⟨(0:Int),ByteArray.empty,ByteArray.empty,[],[],[],a.gb⟩:Kj)).bind fun k=>some (k.1,k.2)) else ((KY c qZ16).bind fun d=>(bif d.1 then ((KaQ d.2).bind fun l=>((KQ l.2 qZ24).bind fun s=>((KaA s).bind fun m=>((KQ m.2 qZ3).bind fun t=>some ((⟨(3:Int),l.1,ByteArray.empty,([m.1]:List Ke),[],[],a.gb⟩:Kj),t))))) else ((KY d.2 (ByteArray.mk #[105,102])).bind fun e=>(bif e.1 then ((Kbq e.2).bind fun f=>((g1 f.2).bind fun g=>((KY g.2 (ByteArray.mk #[101,108,115,101])).bind fun h=>(bif h.1 then ((g1 h.2).bind fun n=>some ((⟨(6:Int),ByteArray.empty,ByteArray.empty,f.1,g.1,n.1,a.gb⟩:Kj),n.2)) else some ((⟨(6:Int),ByteArray.empty,ByteArray.empty,f.1,g.1,[],a.gb⟩:Kj),h.2))))) else ((KY e.2 (ByteArray.mk #[119,104,105,108,101])).bind fun i=>(bif i.1 then ((Kbq i.2).bind fun o=>((g1 o.2).bind fun p=>some ((⟨(7:Int),ByteArray.empty,ByteArray.empty,o.1,p.1,[],a.gb⟩:Kj),p.2))) else ((KY i.2 (ByteArray.mk #[114,101,116,117,114,110])).bind fun j=>(bif j.1 then ((KaA j.2).bind fun q=>((KQ q.2 qZ3).bind fun u=>some ((⟨(8:Int),ByteArray.empty,ByteArray.empty,([q.1]:List Ke),[],[],a.gb⟩:Kj),u))) else ((KY j.2 (ByteArray.mk #[97,115,115,101,114,116])).bind fun b=>(bif b.1 then ((Kbq b.2).bind fun r=>((KQ r.2 qZ3).bind fun v=>some ((⟨(9:Int),ByteArray.empty,ByteArray.empty,r.1,[],[],a.gb⟩:Kj),v))) else ((Kaz b.2 b.2.gb (3:Int)).bind fun w=>some ((⟨(0:Int),ByteArray.empty,ByteArray.empty,[],[],[],a.gb⟩:Kj),w))))))))))))))
theorem Xq {G:Prop}(k:G:=by refine Wd ?_;exact Ui):G:=k
def HZ14 (g:(Kg)→Option (Kj×Kg)):Prop:=∀ (j:Kg) (c:Nat) (e:TypeId) (f:Cap) (r:Kj×Kg) (h0:g j=some r),CallsD Tryz.prog 98 [.ptr c 0] [(c,Blk.cells (CZ7 j f) e)] [] (fun d h k=>d=Kh r.1∧h=[(c,Blk.cells (CZ7 r.2 .no) e)]∧k=[])
def HZ15 (g:(Kg)→Option (List Kj×Kg)):Prop:=∀ (j:Kg) (c:Nat) (e:TypeId) (f:Cap) (r:List Kj×Kg) (h0:g j=some r),CallsD Tryz.prog 74 [.ptr c 0,.fn (.func 113) [] []] [(c,Blk.cells (CZ7 j f) e)] [] (fun d h k=>∃ K,d=.lst 7 (r.1.map Kh) (.cur K)∧h=[(c,Blk.cells (CZ7 r.2 .no) e)]∧k=[(7,K)])
theorem KhC (g0:(Kg)→Option (Kj×Kg))(g1:(Kg)→Option (List Kj×Kg))(an:HZ14 g0)(z:HZ15 g1)(j c e f r)(h0:Ka1 g0 g1 j=some r):CallsD Tryz.prog 98 [.ptr c 0] [(c,Blk.cells (CZ7 j f) e)] [] (fun d h k=>d=Kh r.1∧h=[(c,Blk.cells (CZ7 r.2 .no) e)]∧k=[]):=by
 refine PZ1 h0 Tryz.func98 fun C a=>?_;refine Yl fun b1=>?_;refine Zo ?_;obtain ⟨b,N,a⟩:=Ka a;refine pG (Kb0 j (0:Int) c e f b N) Wl Pf Pf ?_;refine Zi ?_;refine Zq fun b3=>?_;refine pS2 (ds':=(CZ5 b)) ?_;refine Zo ?_;refine pL 2 ?_
 refine KbC (r:=[iD (0:Int),tD ByteArray.empty,tD ByteArray.empty,.lst 1 [] .full,.lst 1 [] .full,.lst 1 [] .full,iD b.gb]) htab rfl rfl rfl rfl rfl rfl rfl rfl rfl ?_;refine Zq fun b4=>?_;refine pS3 (ds':=[iD (0:Int),tD ByteArray.empty,tD ByteArray.empty,.lst 1 [] .full,.lst 1 [] .full,.lst 1 [] .full,iD b.gb]) ?_;refine Zr ?_;refine KJ ?_;refine Zd ?_;refine pL 2 ?_;refine pu ?_;refine Zv ?_;refine cY a (fun a=>?_) fun a=>?_
 ·refine Zd ?_;refine Kaa (d:=.agg [iD (0:Int),tD ByteArray.empty,tD ByteArray.empty,.lst 1 [] .full,.lst 1 [] .full,.lst 1 [] .full,iD b.gb]) 3 htab rfl rfl rfl rfl rfl rfl rfl rfl ?_;obtain ⟨A,O,a⟩:=Ka a;refine Ka6 (KhU j (⟨(0:Int),ByteArray.empty,ByteArray.empty,[],[],[],b.gb⟩:Kj) c e f A O) rfl rfl rfl rfl rfl (WkL.cons (Wk.refl _) (WkL.cons (Wk.trans (Wk.agg (rC (rC (rC (WkR.cons (WkC.nil) rfl (WkR.cons (WkC.nil) rfl (WkR.cons (WkC.nil) rfl (rC WkR.nil)))))))) (Wk.of_eq (Kv (⟨(0:Int),ByteArray.empty,ByteArray.empty,[],[],[],b.gb⟩:Kj)).symm)) Wl)) Pf Pf ?_
  refine Zi ?_;refine p_eq (i:=22) rfl (Wk.of_eq (Kv A.1)) ?_;refine pS1 (ds':=(CZ2 A.1 .no .no .no)) ?_;refine Yh ?_;obtain rfl:=Kf a;exact Xq
 refine ZD a fun B P a=>?_;refine pG (KaB j qZ16 c e f B P) Wl Pf Pf ?_;refine YS ?_;refine cY a (fun a=>?_) fun a=>?_
 ·refine ZD a fun p Q a=>?_;refine pG (Kcx B.2 c e f p Q) Wl Pf Pf ?_;refine Ys ?_;refine pS3 (ds':=[iD (3:Int),tD ByteArray.empty,tD ByteArray.empty,.lst 1 [] .full,.lst 1 [] .full,.lst 1 [] .full,iD b.gb]) ?_;refine pu ?_;refine pS3 (ds':=[iD (3:Int),tD p.1,tD ByteArray.empty,.lst 1 [] .full,.lst 1 [] .full,.lst 1 [] .full,iD b.gb]) ?_;refine YO ?_
  refine p_eq (i:=31) (d':=.lst 1 (qZ24.map eStr) .full) rfl (Wk.lst0 (.cons (WkC.refl _) (.nil))) ?_;obtain ⟨L,R,a⟩:=Ka a;refine Ka6 (Kao p.2 qZ24 c e f L R) rfl rfl rfl rfl rfl (WkL.cons (Wk.refl _) (WkL.cons (Wk.no) Wl)) Pf Pf ?_;refine Zi ?_;refine Zo ?_;obtain ⟨n,S,a⟩:=Ka a;refine pG (Kb2 L c e f n S) Wl Pf Pf ?_;refine Zi ?_;refine p_eq (i:=34) rfl (Wk.of_eq (Ko n.1)) ?_;refine ZJ ?_
  refine p_eq (i:=35) (d':=.lst 5 (([n.1]:List Ke).map Kk) .full) rfl (Wk.lst0 (.cons (WkC.trans (WkC.agg (WkR.refl _)) (WkC.of_eq (Ko n.1).symm)) (.nil))) ?_;refine pu ?_;refine pS3 (ds':=[iD (3:Int),tD p.1,tD ByteArray.empty,.lst 5 (([n.1]:List Ke).map Kk) .full,.lst 1 [] .full,.lst 1 [] .full,iD b.gb]) ?_;refine Kb ?_;refine ZN ?_;refine ZJ ?_;refine p_eq (i:=38) (d':=.lst 1 (qZ3.map eStr) .full) rfl (Wk.lst0 (.cons (WkC.refl _) (.nil))) ?_;obtain ⟨T,U,a⟩:=Ka a
  refine Ka6 (Kao n.2 qZ3 c e f T U) rfl rfl rfl rfl rfl (WkL.cons (Wk.refl _) (WkL.cons (Wk.no) Wl)) Pf Pf ?_;refine Zi ?_;refine YQ ?_;refine Kd ?_;refine Kaa (d:=.agg [iD (3:Int),tD p.1,tD ByteArray.empty,.lst 5 (([n.1]:List Ke).map Kk) .full,.lst 1 [] .full,.lst 1 [] .full,iD b.gb]) 3 htab rfl rfl rfl rfl rfl rfl rfl rfl ?_;refine pS1 (ds':=[iD (3:Int),tD p.1,tD ByteArray.empty,.lst 5 (([n.1]:List Ke).map Kk) .full,.lst 1 [] .full,.lst 1 [] .full,iD b.gb]) ?_;refine ZG ?_
  obtain rfl:=Kf a;refine retX.wk (WkS.bl1 (ds':=[iD (3:Int),tD p.1,tD ByteArray.empty,.lst 5 (([n.1]:List Ke).map Kk) .no,.lst 7 (([]:List Kj).map Kh) .no,.lst 7 (([]:List Kj).map Kh) .no,iD b.gb]) (rC (rC (rC (rO (WkR.cons (WkC.nil) rfl (WkR.cons (WkC.nil) rfl (rC WkR.nil)))))))) ?_;refine XE ?_;exact Xq
 refine ZD a fun D V a=>?_;refine pG (KaB B.2 (ByteArray.mk #[105,102]) c e f D V) Wl Pf Pf ?_;refine YS ?_;refine cY a (fun a=>?_) fun a=>?_
 ·refine ZD a fun l W a=>?_;refine pG (Ker D.2 c e f l W) Wl Pf Pf ?_;refine Ym fun q=>?_;refine pS3 (ds':=[iD (6:Int),tD ByteArray.empty,tD ByteArray.empty,.lst 1 [] .full,.lst 1 [] .full,.lst 1 [] .full,iD b.gb]) ?_;refine pu ?_;refine pS3 (ds':=[iD (6:Int),tD ByteArray.empty,tD ByteArray.empty,.lst 5 (l.1.map Kk) (.cur q),.lst 1 [] .full,.lst 1 [] .full,iD b.gb]) ?_;refine Zo ?_;obtain ⟨m,X,a⟩:=Ka a;refine pG (z l.2 c e f m X) Wl Pf Pf ?_;refine Ym fun t=>?_
  refine pS3 (ds':=[iD (6:Int),tD ByteArray.empty,tD ByteArray.empty,.lst 5 (l.1.map Kk) (.cur q),.lst 7 (m.1.map Kh) (.cur t),.lst 1 [] .full,iD b.gb]) ?_;refine Zo ?_;obtain ⟨M,Y,a⟩:=Ka a;refine pG (KaB m.2 (ByteArray.mk #[101,108,115,101]) c e .no M Y) Wl Pf Pf ?_;refine Zi ?_;refine Kb ?_;refine cY a (fun a=>?_) fun a=>?_
  ·refine ZN ?_;obtain ⟨v,Z,a⟩:=Ka a;refine pG (z M.2 c e .no v Z) Wl Pf Pf ?_;refine Ym fun E=>?_;refine pS3 (ds':=[iD (6:Int),tD ByteArray.empty,tD ByteArray.empty,.lst 5 (l.1.map Kk) (.cur q),.lst 7 (m.1.map Kh) (.cur t),.lst 7 (v.1.map Kh) (.cur E),iD b.gb]) ?_;refine YQ ?_;refine Kd ?_
   refine Kaa (d:=.agg [iD (6:Int),tD ByteArray.empty,tD ByteArray.empty,.lst 5 (l.1.map Kk) (.cur q),.lst 7 (m.1.map Kh) (.cur t),.lst 7 (v.1.map Kh) (.cur E),iD b.gb]) 3 htab rfl rfl rfl rfl rfl rfl rfl rfl ?_;refine pS1 (ds':=[iD (6:Int),tD ByteArray.empty,tD ByteArray.empty,.lst 5 (l.1.map Kk) (.cur q),.lst 7 (m.1.map Kh) (.cur t),.lst 7 (v.1.map Kh) (.cur E),iD b.gb]) ?_;refine ZG ?_;obtain rfl:=Kf a
   refine retX.wk (WkS.bl1 (ds':=[iD (6:Int),tD ByteArray.empty,tD ByteArray.empty,.lst 5 (l.1.map Kk) .no,.lst 7 (m.1.map Kh) .no,.lst 7 (v.1.map Kh) .no,iD b.gb]) (rC (rC (rC (rO (rO (rO (rC WkR.nil)))))))) ?_;exact Xq
  refine ZK ?_;refine Kd ?_;refine Kaa (d:=.agg [iD (6:Int),tD ByteArray.empty,tD ByteArray.empty,.lst 5 (l.1.map Kk) (.cur q),.lst 7 (m.1.map Kh) (.cur t),.lst 1 [] .full,iD b.gb]) 3 htab rfl rfl rfl rfl rfl rfl rfl rfl ?_;refine pS1 (ds':=[iD (6:Int),tD ByteArray.empty,tD ByteArray.empty,.lst 5 (l.1.map Kk) (.cur q),.lst 7 (m.1.map Kh) (.cur t),.lst 1 [] .full,iD b.gb]) ?_;refine ZG ?_;obtain rfl:=Kf a
  refine retX.wk (WkS.bl1 (ds':=[iD (6:Int),tD ByteArray.empty,tD ByteArray.empty,.lst 5 (l.1.map Kk) .no,.lst 7 (m.1.map Kh) .no,.lst 7 (([]:List Kj).map Kh) .no,iD b.gb]) (rC (rC (rC (rO (rO (WkR.cons (WkC.nil) rfl (rC WkR.nil)))))))) ?_;exact Xq
 refine ZD a fun F aa a=>?_;refine pG (KaB D.2 (ByteArray.mk #[119,104,105,108,101]) c e f F aa) Wl Pf Pf ?_;refine YS ?_;refine cY a (fun a=>?_) fun a=>?_
 ·refine ZD a fun s ab a=>?_;refine pG (Ker F.2 c e f s ab) Wl Pf Pf ?_;refine Ym fun x=>?_;refine pS3 (ds':=[iD (7:Int),tD ByteArray.empty,tD ByteArray.empty,.lst 1 [] .full,.lst 1 [] .full,.lst 1 [] .full,iD b.gb]) ?_;refine pu ?_;refine pS3 (ds':=[iD (7:Int),tD ByteArray.empty,tD ByteArray.empty,.lst 5 (s.1.map Kk) (.cur x),.lst 1 [] .full,.lst 1 [] .full,iD b.gb]) ?_;refine Kb ?_;refine ZN ?_;obtain ⟨w,ac,a⟩:=Ka a;refine pG (z s.2 c e f w ac) Wl Pf Pf ?_;refine Ym fun H=>?_
  refine pS3 (ds':=[iD (7:Int),tD ByteArray.empty,tD ByteArray.empty,.lst 5 (s.1.map Kk) (.cur x),.lst 7 (w.1.map Kh) (.cur H),.lst 1 [] .full,iD b.gb]) ?_;refine YQ ?_;refine Kd ?_;refine Kaa (d:=.agg [iD (7:Int),tD ByteArray.empty,tD ByteArray.empty,.lst 5 (s.1.map Kk) (.cur x),.lst 7 (w.1.map Kh) (.cur H),.lst 1 [] .full,iD b.gb]) 3 htab rfl rfl rfl rfl rfl rfl rfl rfl ?_;refine pS1 (ds':=[iD (7:Int),tD ByteArray.empty,tD ByteArray.empty,.lst 5 (s.1.map Kk) (.cur x),.lst 7 (w.1.map Kh) (.cur H),.lst 1 [] .full,iD b.gb]) ?_
  refine ZG ?_;obtain rfl:=Kf a;refine retX.wk (WkS.bl1 (ds':=[iD (7:Int),tD ByteArray.empty,tD ByteArray.empty,.lst 5 (s.1.map Kk) .no,.lst 7 (w.1.map Kh) .no,.lst 7 (([]:List Kj).map Kh) .no,iD b.gb]) (rC (rC (rC (rO (rO (WkR.cons (WkC.nil) rfl (rC WkR.nil)))))))) ?_;exact Xq
 refine ZD a fun I ad a=>?_;refine pG (KaB F.2 (ByteArray.mk #[114,101,116,117,114,110]) c e f I ad) Wl Pf Pf ?_;refine YS ?_;refine cY a (fun a=>?_) fun a=>?_
 ·refine ZD a fun o ae a=>?_;refine pG (Kb2 I.2 c e f o ae) Wl Pf Pf ?_;refine Zi ?_;refine p_eq (i:=69) rfl (Wk.of_eq (Ko o.1)) ?_;refine ZJ ?_;refine p_eq (i:=70) (d':=.lst 5 (([o.1]:List Ke).map Kk) .full) rfl (Wk.lst0 (.cons (WkC.trans (WkC.agg (WkR.refl _)) (WkC.of_eq (Ko o.1).symm)) (.nil))) ?_;refine pu ?_;refine pS3 (ds':=[iD (8:Int),tD ByteArray.empty,tD ByteArray.empty,.lst 1 [] .full,.lst 1 [] .full,.lst 1 [] .full,iD b.gb]) ?_;refine pu ?_
  refine pS3 (ds':=[iD (8:Int),tD ByteArray.empty,tD ByteArray.empty,.lst 5 (([o.1]:List Ke).map Kk) .full,.lst 1 [] .full,.lst 1 [] .full,iD b.gb]) ?_;refine Kb ?_;refine ZN ?_;refine ZJ ?_;refine p_eq (i:=74) (d':=.lst 1 (qZ3.map eStr) .full) rfl (Wk.lst0 (.cons (WkC.refl _) (.nil))) ?_;obtain ⟨af,ag,a⟩:=Ka a;refine Ka6 (Kao o.2 qZ3 c e f af ag) rfl rfl rfl rfl rfl (WkL.cons (Wk.refl _) (WkL.cons (Wk.no) Wl)) Pf Pf ?_;refine Zi ?_
  refine YQ ?_;refine Kd ?_;refine Kaa (d:=.agg [iD (8:Int),tD ByteArray.empty,tD ByteArray.empty,.lst 5 (([o.1]:List Ke).map Kk) .full,.lst 1 [] .full,.lst 1 [] .full,iD b.gb]) 3 htab rfl rfl rfl rfl rfl rfl rfl rfl ?_;refine pS1 (ds':=[iD (8:Int),tD ByteArray.empty,tD ByteArray.empty,.lst 5 (([o.1]:List Ke).map Kk) .full,.lst 1 [] .full,.lst 1 [] .full,iD b.gb]) ?_;refine ZG ?_;obtain rfl:=Kf a
  refine retX.wk (WkS.bl1 (ds':=[iD (8:Int),tD ByteArray.empty,tD ByteArray.empty,.lst 5 (([o.1]:List Ke).map Kk) .no,.lst 7 (([]:List Kj).map Kh) .no,.lst 7 (([]:List Kj).map Kh) .no,iD b.gb]) (rC (rC (rC (rO (WkR.cons (WkC.nil) rfl (WkR.cons (WkC.nil) rfl (rC WkR.nil)))))))) ?_;refine XE ?_;exact Xq
 refine ZD a fun y ah a=>?_;refine pG (KaB I.2 (ByteArray.mk #[97,115,115,101,114,116]) c e f y ah) Wl Pf Pf ?_;refine YS ?_;refine cY a (fun a=>?_) fun a=>?_
 ·refine ZD a fun u ai a=>?_;refine pG (Ker y.2 c e f u ai) Wl Pf Pf ?_;refine Ym fun J=>?_;refine pS3 (ds':=[iD (9:Int),tD ByteArray.empty,tD ByteArray.empty,.lst 1 [] .full,.lst 1 [] .full,.lst 1 [] .full,iD b.gb]) ?_;refine pu ?_;refine pS3 (ds':=[iD (9:Int),tD ByteArray.empty,tD ByteArray.empty,.lst 5 (u.1.map Kk) (.cur J),.lst 1 [] .full,.lst 1 [] .full,iD b.gb]) ?_;refine Kb ?_;refine ZN ?_;refine ZJ ?_
  refine p_eq (i:=84) (d':=.lst 1 (qZ3.map eStr) .full) rfl (Wk.lst0 (.cons (WkC.refl _) (.nil))) ?_;obtain ⟨aj,ak,a⟩:=Ka a;refine Ka6 (Kao u.2 qZ3 c e f aj ak) rfl rfl rfl rfl rfl (WkL.cons (Wk.refl _) (WkL.cons (Wk.no) Wl)) Pf Pf ?_;refine Zi ?_;refine YQ ?_;refine Kd ?_;refine Kaa (d:=.agg [iD (9:Int),tD ByteArray.empty,tD ByteArray.empty,.lst 5 (u.1.map Kk) (.cur J),.lst 1 [] .full,.lst 1 [] .full,iD b.gb]) 3 htab rfl rfl rfl rfl rfl rfl rfl rfl ?_
  refine pS1 (ds':=[iD (9:Int),tD ByteArray.empty,tD ByteArray.empty,.lst 5 (u.1.map Kk) (.cur J),.lst 1 [] .full,.lst 1 [] .full,iD b.gb]) ?_;refine ZG ?_;obtain rfl:=Kf a;refine retX.wk (WkS.bl1 (ds':=[iD (9:Int),tD ByteArray.empty,tD ByteArray.empty,.lst 5 (u.1.map Kk) .no,.lst 7 (([]:List Kj).map Kh) .no,.lst 7 (([]:List Kj).map Kh) .no,iD b.gb]) (rC (rC (rC (rO (WkR.cons (WkC.nil) rfl (WkR.cons (WkC.nil) rfl (rC WkR.nil)))))))) ?_
  refine XE ?_;exact Xq
 refine Kz ?_;iterate 4 refine pu ?_
 refine pL 0 ?_;obtain ⟨al,am,a⟩:=Ka a;refine pG (Kbh y.2 y.2.gb (3:Int) c e f al am) Wl Pf Pf ?_;refine Zi ?_;refine YQ ?_;refine Kd ?_;refine Kaa (d:=.agg [iD (0:Int),tD ByteArray.empty,tD ByteArray.empty,.lst 1 [] .full,.lst 1 [] .full,.lst 1 [] .full,iD b.gb]) 3 htab rfl rfl rfl rfl rfl rfl rfl rfl ?_;refine pS1 (ds':=[iD (0:Int),tD ByteArray.empty,tD ByteArray.empty,.lst 1 [] .full,.lst 1 [] .full,.lst 1 [] .full,iD b.gb]) ?_;refine ZG ?_;obtain rfl:=Kf a
 refine retX.wk (WkS.bl1 (ds':=[iD (0:Int),tD ByteArray.empty,tD ByteArray.empty,.lst 5 (([]:List Ke).map Kk) .no,.lst 7 (([]:List Kj).map Kh) .no,.lst 7 (([]:List Kj).map Kh) .no,iD b.gb]) (rC (rC (rC (WkR.cons (WkC.nil) rfl (WkR.cons (WkC.nil) rfl (WkR.cons (WkC.nil) rfl (rC WkR.nil)))))))) ?_;refine XE ?_;exact Xq
abbrev qZ14:List ByteArray:=[(ByteArray.mk #[123])]
def KaX (g0:(Kg)→Option (Kj×Kg))(g1:(Kg)→Option (List Kj×Kg))(i:Kg):Option (List Kj×Kg):=
 ((KQ i qZ14).bind fun c=>(Option.bind (α:=List KB×Int×Int×Int×Int) (bif (decide ((24:Int)≤c.gm)) then ((Kaz c i.gb (5:Int)).bind fun g=>some (g.gL,g.gb,g.gE,g.gn,g.gm)) else some (c.gL,c.gb,c.gE,c.gn,c.gm)) fun h=>(grammar_nothing.bind fun k=>(Option.bind (α:=List Kj×List KB×Int×Int×Int×Int) (loopM (fun (a:List Kj×List KB×Int×Int×Int×Int)=>(Option.bind (α:=Bool×List KB×Int×Int×Int×Int) (bif (a.2.2.2.1==(0:Int)) then ((KY (⟨a.2.1,a.2.2.1,a.2.2.2.1,a.2.2.2.2.1,a.2.2.2.2.2⟩:Kg) qZ17).bind fun d=>some ((!d.1),d.2.gL,d.2.gb,d.2.gE,d.2.gn,d.2.gm)) else some (false,a.2.1,a.2.2.1,a.2.2.2.1,a.2.2.2.2.1,a.2.2.2.2.2)) fun b=>(bif b.1 then ((g0 (⟨b.2.1,b.2.2.1,b.2.2.2.1,b.2.2.2.2.1,b.2.2.2.2.2⟩:Kg)).bind fun e=>((app 120 a.1 ([e.1]:List Kj)).bind fun j=>some (.next (j,e.2.gL,e.2.gb,e.2.gE,e.2.gn,e.2.gm)))) else some (.done (a.1,b.2.1,b.2.2.1,b.2.2.2.1,b.2.2.2.2.1,b.2.2.2.2.2))))) (([]:List Kj),h.1,h.2.1,h.2.2.1,h.2.2.2.1,(IntKind.i64.wrap (h.2.2.2.2+(1:Int))))) fun f=>some (f.1,(⟨f.2.1,f.2.2.1,f.2.2.2.1,f.2.2.2.2.1,(IntKind.i64.wrap (f.2.2.2.2.2 - (1:Int)))⟩:Kg))))))
theorem WF {A0 G:Prop}(a0:A0)(k:A0→G:=by intro _a;obtain rfl:=Kf _a;refine ⟨rfl,?_⟩;refine WkX.wk (WkS.bl0 (ds':=(CZ7 _ .no)) (rO (rC (rC (rC (rC WkR.nil)))))) ?_;exact wO (wP (wC (wC wN)))):G:=k a0
theorem Kg3 (g0:(Kg)→Option (Kj×Kg))(g1:(Kg)→Option (List Kj×Kg))(B:HZ14 g0)(V:HZ15 g1)(n b g p r)(h0:KaX g0 g1 n=some r):CallsD Tryz.prog 74 [.ptr b 0,.fn (.func 113) [] []] [(b,Blk.cells (CZ7 n p) g)] [] (fun d h k=>∃ s,d=.lst 7 (r.1.map Kh) (.cur s)∧h=[(b,Blk.cells (CZ7 r.2 .no) g)]∧k=[(7,s)]):=by
 refine PZ1 h0 Tryz.func74 fun C a=>?_;refine Zd ?_;refine Yt ?_
 refine pL 0 ?_;refine Yo ?_;refine ZJ ?_;refine p_eq (i:=12) (d':=.lst 1 (qZ14.map eStr) .full) rfl (Wk.lst0 (.cons (WkC.refl _) (.nil))) ?_;obtain ⟨t,D,a⟩:=Ka a;refine Ka6 (Kao n qZ14 b g p t D) rfl rfl rfl rfl rfl (WkL.cons (Wk.refl _) (WkL.cons (Wk.no) Wl)) Pf Pf ?_;refine Zi ?_;refine Zr ?_;refine Yq ?_
 obtain ⟨j,u,w⟩:=Ka a;refine Kaf (Y:=Unit) (fun E=>(⟨[(0,.ptr b 0),(1,.fn (.func 113) [] [])],[(b,Blk.cells [.lst 4 (j.1.map Kl) .no,iD j.2.1,iD j.2.2.1,iD j.2.2.2.1,iD j.2.2.2.2] g)],[]⟩:S)) ?_ ?_
 ·clear a;have a:=KE u;refine cY a (fun a=>?_) fun a=>?_
  ·refine ZU ?_;obtain ⟨F,H,a⟩:=Ka a;refine pG (Kbh t n.gb (5:Int) b g p F H) Wl Pf Pf ?_;refine Zi ?_;refine KC ?_;exact WF a
  refine Kx ?_;exact WF a
 intro W I;have a:=w;clear u w;refine Zb I fun E=>?_;refine YE ?_
 refine pS0 (ds':=[.lst 4 (j.1.map Kl) .no,iD j.2.1,iD j.2.2.1,iD j.2.2.2.1,iD (IntKind.i64.wrap (j.2.2.2.2+(1:Int)))]) ?_;refine Zo ?_;obtain ⟨J,K,a⟩:=Ka a;refine KfG (KjQ J K) rfl rfl rfl rfl rfl rfl rfl Wl ?_;rintro _ rfl;refine KH ?_;refine Zz ?_;obtain ⟨e,x,y⟩:=Ka a;refine Kaf (Y:=Value) (fun l=>(⟨[(0,.ptr b 0),(6,.lst 7 (e.1.map Kh) (.cur l))],[(b,Blk.cells [.lst 4 (e.2.1.map Kl) .no,iD e.2.2.1,iD e.2.2.2.1,iD e.2.2.2.2.1,iD e.2.2.2.2.2] g)],[(7,l)]⟩:S)) ?_ ?_
 ·clear a;have a:=KE x;refine Zy a fun X L M=>?_;refine KaO (Y:=Value) L (fun c m=>(⟨[(0,.ptr b 0),(6,.lst 7 (c.1.map Kh) (.cur m))],[(b,Blk.cells [.lst 4 (c.2.1.map Kl) .no,iD c.2.2.1,iD c.2.2.2.1,iD c.2.2.2.2.1,iD c.2.2.2.2.2] g)],[(7,m)]⟩:S)) ?_ ?_
  ·skip
   refine WkX.tokN (i:=6) 7 rfl (fun Z=>?_);exact XB
  intro G38 c m a;refine Km ?_;refine ZA a fun f z A=>?_;refine Kaf (Y:=Unit) (fun N=>(⟨[(0,.ptr b 0),(6,.lst 7 (c.1.map Kh) (.cur m)),(40,.v (.bool f.1))],[(b,Blk.cells [.lst 4 (f.2.1.map Kl) .no,iD f.2.2.1,iD f.2.2.2.1,iD f.2.2.2.2.1,iD f.2.2.2.2.2] g)],[(7,m)]⟩:S)) ?_ ?_
  ·clear a;have a:=KE z;refine ZW ?_
   refine pL 0 ?_;refine Zl ?_;refine KaH (i:=36) rfl (fun q=>?_) (fun q=>?_)
   ·replace a:=yes_t q a;refine pu ?_;obtain ⟨O,P,a⟩:=Ka a;refine pG (KaB (⟨c.2.1,c.2.2.1,c.2.2.2.1,c.2.2.2.2.1,c.2.2.2.2.2⟩:Kg) qZ17 b g .no O P) Wl Pf Pf ?_;refine Ys ?_;refine ZB ?_;exact Yy a
   replace a:=yes_f q a;iterate 3 refine pK ?_
   exact Xf a
  intro aa Q;have a:=A;clear z A;refine Zb Q fun N=>?_;refine cY a (fun a=>?_) fun a=>?_
  ·refine Zm ?_;refine KJ ?_;refine ZU ?_;obtain ⟨o,R,a⟩:=Ka a;refine pG (B (⟨f.2.1,f.2.2.1,f.2.2.2.1,f.2.2.2.2.1,f.2.2.2.2.2⟩:Kg) b g .no o R) Wl Pf Pf ?_;refine Zi ?_;refine p_eq (i:=43) rfl (Wk.of_eq (Kv o.1)) ?_;refine ZJ ?_;refine p_eq (i:=44) (d':=.lst 7 (([o.1]:List Kj).map Kh) .full) rfl (Wk.lst0 (.cons (WkC.trans (WkC.agg (WkR.refl _)) (WkC.of_eq (Kv o.1).symm)) (.nil))) ?_;refine Xv a fun ab T a ac=>?_
   refine Kgf (i:=45) T rfl ?_;refine pu ?_;refine KC ?_;refine Xa a ?_;exact XB
  refine Zs ?_;obtain rfl:=K6 a;have a:=M
  exact Y9 a
 intro ad U;have a:=y;clear x y;refine Zb U fun l=>?_;refine YE ?_
 refine pS0 (ds':=[.lst 4 (e.2.1.map Kl) .no,iD e.2.2.1,iD e.2.2.2.1,iD e.2.2.2.2.1,iD (IntKind.i64.wrap (e.2.2.2.2.2 - (1:Int)))]) ?_;refine Zo ?_;refine Zu ?_;obtain rfl:=Kf a;refine rP (t':=[(4,.lst 7 (e.1.map Kh) (.cur l))]) [0] [0] 1 (wC wN) (lT lN) ?_;exact ⟨l,rfl,rfl,rfl⟩
def K7:Nat→((Kg)→Option (Kj×Kg))×((Kg)→Option (List Kj×Kg))
 | 0=>(fun _=>none,fun _=>none)
 | n+1=>(Ka1 ((K7 n).1) ((K7 n).2),KaX ((K7 n).1) ((K7 n).2))
theorem Ke5:∀ n,(∀ (b:Kg) (a:Nat) (c:TypeId) (e:Cap) (r:Kj×Kg) (h0:(K7 n).1 b=some r),CallsD Tryz.prog 98 [.ptr a 0] [(a,Blk.cells (CZ7 b e) c)] [] (fun d h k=>d=Kh r.1∧h=[(a,Blk.cells (CZ7 r.2 .no) c)]∧k=[]))∧(∀ (b:Kg) (a:Nat) (c:TypeId) (e:Cap) (r:List Kj×Kg) (h0:(K7 n).2 b=some r),CallsD Tryz.prog 74 [.ptr a 0,.fn (.func 113) [] []] [(a,Blk.cells (CZ7 b e) c)] [] (fun d h k=>∃ f,d=.lst 7 (r.1.map Kh) (.cur f)∧h=[(a,Blk.cells (CZ7 r.2 .no) c)]∧k=[(7,f)]))
 | 0=>⟨(fun _ _ _ _ _ h0=>by cases h0),(fun _ _ _ _ _ h0=>by cases h0)⟩
 |
  n+1=>by
  have ih:=Ke5 n;exact ⟨KhC ((K7 n).1) ((K7 n).2) (ih.1) (ih.2),Kg3 ((K7 n).1) ((K7 n).2) (ih.1) (ih.2)⟩
theorem Ke6:∀ n,(∀ (a:Kg),Le ((K7 n).1 a) ((K7 (n+1)).1 a))∧(∀ (a:Kg),Le ((K7 n).2 a) ((K7 (n+1)).2 a))
 | 0=>⟨fun _=>Le.none _,fun _=>Le.none _⟩
 |
  n+1=>by
  have ih:=Ke6 n
  exact ⟨fun a=>by show Le (Ka1 ((K7 n).1) ((K7 n).2) a) (Ka1 ((K7 (n+1)).1) ((K7 (n+1)).2) a);revert ih;generalize K7 n=G0;generalize K7 (n+1)=G1;intro ih;unfold Ka1;repeat (first|with_reducible exact Le.refl _|with_reducible exact ih.1 _|with_reducible exact ih.2 _|with_reducible assumption|(refine Le.bind ?_ (fun _=>?_))|(refine Le.cond ?_ ?_)|(refine Le.loop (fun _=>?_))|(refine Le.elim (fun _=>?_) (fun _=>?_))),fun a=>by show Le (KaX ((K7 n).1) ((K7 n).2) a) (KaX ((K7 (n+1)).1) ((K7 (n+1)).2) a);revert ih;generalize K7 n=G0;generalize K7 (n+1)=G1;intro ih;unfold KaX;repeat (first|with_reducible exact Le.refl _|with_reducible exact ih.1 _|with_reducible exact ih.2 _|with_reducible assumption|(refine Le.bind ?_ (fun _=>?_))|(refine Le.cond ?_ ?_)|(refine Le.loop (fun _=>?_))|(refine Le.elim (fun _=>?_) (fun _=>?_)))⟩
def KcZ (a:Kg):Option (Kj×Kg):=anyN fun n=>(K7 n).1 a
theorem Kfx (a:Kg){r:Kj×Kg}(n:Nat)(h:(K7 n).1 a=some r):KcZ a=some r:=KdY (fun m=>(Ke6 m).1 a) h
theorem Kig (b a c e r)(h0:KcZ b=some r):CallsD Tryz.prog 98 [.ptr a 0] [(a,Blk.cells (CZ7 b e) c)] [] (fun d h k=>d=Kh r.1∧h=[(a,Blk.cells (CZ7 r.2 .no) c)]∧k=[]):=
 let ⟨n,hn⟩:=Kc4 h0;(Ke5 n).1 b a c e r hn
def Kcq (j:Kg)(m2:KG):Option (List Kj×Kg×KG):=
 ((KQ j qZ14).bind fun c=>(Option.bind (α:=List KB×Int×Int×Int×Int) (bif (decide ((24:Int)≤c.gm)) then ((Kaz c j.gb (5:Int)).bind fun h=>some (h.gL,h.gb,h.gE,h.gn,h.gm)) else some (c.gL,c.gb,c.gE,c.gn,c.gm)) fun i=>((Kbc m2 (⟨i.1,i.2.1,i.2.2.1,i.2.2.2.1,(IntKind.i64.wrap (i.2.2.2.2+(1:Int)))⟩:Kg)).bind fun d=>(Option.bind (α:=List Kj×List KB×Int×Int×Int×Int) (loopM (fun (a:List Kj×List KB×Int×Int×Int×Int)=>(Option.bind (α:=Bool×List KB×Int×Int×Int×Int) (bif (a.2.2.2.1==(0:Int)) then ((KY (⟨a.2.1,a.2.2.1,a.2.2.2.1,a.2.2.2.2.1,a.2.2.2.2.2⟩:Kg) qZ17).bind fun e=>some ((!e.1),e.2.gL,e.2.gb,e.2.gE,e.2.gn,e.2.gm)) else some (false,a.2.1,a.2.2.1,a.2.2.2.1,a.2.2.2.2.1,a.2.2.2.2.2)) fun b=>(bif b.1 then ((KcZ (⟨b.2.1,b.2.2.1,b.2.2.2.1,b.2.2.2.2.1,b.2.2.2.2.2⟩:Kg)).bind fun f=>((app 120 a.1 ([f.1]:List Kj)).bind fun k=>some (.next (k,f.2.gL,f.2.gb,f.2.gE,f.2.gn,f.2.gm)))) else some (.done (a.1,b.2.1,b.2.2.1,b.2.2.2.1,b.2.2.2.2.1,b.2.2.2.2.2))))) (([]:List Kj),d.1.gL,d.1.gb,d.1.gE,d.1.gn,d.1.gm)) fun g=>some (g.1,(⟨g.2.1,g.2.2.1,g.2.2.2.1,g.2.2.2.2.1,(IntKind.i64.wrap (g.2.2.2.2.2 - (1:Int)))⟩:Kg),d.2)))))
theorem KhV (y m2 b g B m o n p q u s r)(h0:Kcq y m2=some r):CallsD Tryz.prog 74 [.ptr b 0,.fn (.func 75) [] [.ptr m 0,.ptr n 0]] [(b,Blk.cells (CZ7 y B) g),(m,Blk.cells [.ptr b 0] o),(n,Blk.cells (CZ3 m2 q (.cur u) s) p)] [(2,u)] (fun d h k=>∃ E F,d=.lst 7 (r.1.map Kh) (.cur E)∧h=[(b,Blk.cells (CZ7 r.2.1 .no) g),(m,Blk.cells [.ptr b 0] o),(n,Blk.cells (CZ3 r.2.2 q (.cur F) s) p)]∧k=[(7,E),(2,F)]):=by
 refine PZ1 h0 Tryz.func74 fun C a=>?_;refine Zd ?_;refine Yt ?_
 refine pL 0 ?_;refine Yo ?_;refine ZJ ?_;refine p_eq (i:=12) (d':=.lst 1 (qZ14.map eStr) .full) rfl (Wk.lst0 (.cons (WkC.refl _) (.nil))) ?_;obtain ⟨G,N,a⟩:=Ka a;refine Ka6 (Kao y qZ14 b g B G N) rfl rfl rfl rfl rfl (WkL.cons (Wk.refl _) (WkL.cons (Wk.no) Wl)) Pf Pf ?_;refine Zi ?_;refine Zr ?_;refine Yq ?_
 obtain ⟨c,H,I⟩:=Ka a;refine Kaf (Y:=Unit) (fun O=>(⟨[(0,.ptr b 0),(1,.fn (.func 75) [] [.ptr m 0,.ptr n 0])],[(b,Blk.cells [.lst 4 (c.1.map Kl) .no,iD c.2.1,iD c.2.2.1,iD c.2.2.2.1,iD c.2.2.2.2] g),(m,Blk.cells [.ptr b 0] o),(n,Blk.cells (CZ3 m2 q (.cur u) s) p)],[(2,u)]⟩:S)) ?_ ?_
 ·clear a;have a:=KE H;refine cY a (fun a=>?_) fun a=>?_
  ·refine ZU ?_;obtain ⟨P,Q,a⟩:=Ka a;refine pG (Kbh G y.gb (5:Int) b g B P Q) Wl Pf Pf ?_;refine Zi ?_;refine KC ?_;exact WF a
  refine Kx ?_;exact WF a
 intro s4 R;have a:=I;clear H I;refine Zb R fun O=>?_;refine YE ?_
 refine pS0 (ds':=[.lst 4 (c.1.map Kl) .no,iD c.2.1,iD c.2.2.1,iD c.2.2.2.1,iD (IntKind.i64.wrap (c.2.2.2.2+(1:Int)))]) ?_;refine Zo ?_;obtain ⟨z,T,a⟩:=Ka a;refine KdG (KgG m2 (⟨c.1,c.2.1,c.2.2.1,c.2.2.2.1,(IntKind.i64.wrap (c.2.2.2.2+(1:Int)))⟩:Kg) m o b g .no n p q u s z T) rfl rfl rfl rfl rfl rfl rfl Wl ((KZ (j:=1) rfl).trans (List.Perm.cons _ ((KZ (j:=0) rfl).trans (List.Perm.cons _ ((KZ (j:=0) rfl).trans (List.Perm.cons _ Pf)))))) Pf ?_;refine ZL fun t=>?_;refine KH ?_;refine Zz ?_
 obtain ⟨f,J,K⟩:=Ka a;refine Kaf (Y:=Value) (fun w=>(⟨[(0,.ptr b 0),(6,.lst 7 (f.1.map Kh) (.cur w))],[(m,Blk.cells [.ptr b 0] o),(b,Blk.cells [.lst 4 (f.2.1.map Kl) .no,iD f.2.2.1,iD f.2.2.2.1,iD f.2.2.2.2.1,iD f.2.2.2.2.2] g),(n,Blk.cells (CZ3 z.2 q (.cur t) s) p)],[(7,w),(2,t)]⟩:S)) ?_ ?_
 ·clear a;have a:=KE J;refine Zy a fun ag U V=>?_;refine KaO (Y:=Value) U (fun e x=>(⟨[(0,.ptr b 0),(6,.lst 7 (e.1.map Kh) (.cur x))],[(m,Blk.cells [.ptr b 0] o),(b,Blk.cells [.lst 4 (e.2.1.map Kl) .no,iD e.2.2.1,iD e.2.2.2.1,iD e.2.2.2.2.1,iD e.2.2.2.2.2] g),(n,Blk.cells (CZ3 z.2 q (.cur t) s) p)],[(7,x),(2,t)]⟩:S)) ?_ ?_
  ·skip
   refine WkX.tokN (i:=6) 7 rfl (fun ah=>?_);exact XB
  intro G39 e x a;refine Km ?_;refine ZA a fun l L M=>?_;refine Kaf (Y:=Unit) (fun W=>(⟨[(0,.ptr b 0),(6,.lst 7 (e.1.map Kh) (.cur x)),(40,.v (.bool l.1))],[(m,Blk.cells [.ptr b 0] o),(b,Blk.cells [.lst 4 (l.2.1.map Kl) .no,iD l.2.2.1,iD l.2.2.2.1,iD l.2.2.2.2.1,iD l.2.2.2.2.2] g),(n,Blk.cells (CZ3 z.2 q (.cur t) s) p)],[(7,x),(2,t)]⟩:S)) ?_ ?_
  ·clear a;have a:=KE L;refine ZW ?_
   refine pL 1 ?_;refine Zl ?_;refine KaH (i:=36) rfl (fun D=>?_) (fun D=>?_)
   ·replace a:=yes_t D a;refine pu ?_;obtain ⟨X,Z,a⟩:=Ka a;refine pG (KaB (⟨e.2.1,e.2.2.1,e.2.2.2.1,e.2.2.2.2.1,e.2.2.2.2.2⟩:Kg) qZ17 b g .no X Z) Wl ((KZ (j:=1) rfl).trans (List.Perm.cons _ Pf)) Pf ?_;refine Ys ?_;refine ZB ?_;refine KC ?_;obtain rfl:=Kf a;refine ⟨rfl,?_⟩;exact wO (WkS.perm (wC (wC (wC wN))) ((KZ (j:=1) rfl).trans (List.Perm.cons _ ((KZ (j:=0) rfl).trans (List.Perm.cons _ ((KZ (j:=0) rfl).trans (List.Perm.cons _ Pf)))))) Pf)
   replace a:=yes_f D a;iterate 3 refine pK ?_
   exact Xf a
  intro ai aa;have a:=M;clear L M;refine Zb aa fun W=>?_;refine cY a (fun a=>?_) fun a=>?_
  ·refine Zm ?_;refine KJ ?_;refine ZU ?_;obtain ⟨A,ab,a⟩:=Ka a;refine pG (Kig (⟨l.2.1,l.2.2.1,l.2.2.2.1,l.2.2.2.2.1,l.2.2.2.2.2⟩:Kg) b g .no A ab) Wl ((KZ (j:=1) rfl).trans (List.Perm.cons _ Pf)) Pf ?_;refine Zi ?_;refine p_eq (i:=43) rfl (Wk.of_eq (Kv A.1)) ?_;refine ZJ ?_
   refine p_eq (i:=44) (d':=.lst 7 (([A.1]:List Kj).map Kh) .full) rfl (Wk.lst0 (.cons (WkC.trans (WkC.agg (WkR.refl _)) (WkC.of_eq (Kv A.1).symm)) (.nil))) ?_;refine Xv a fun aj ac a ad=>?_;refine Kgf (i:=45) ac rfl ?_;refine pu ?_;refine KC ?_;refine Xa a ?_;exact WkX.of ad (WkS.perm (wC (wC wN)) ((KZ (j:=1) rfl).trans (List.Perm.cons _ ((KZ (j:=0) rfl).trans (List.Perm.cons _ ((KZ (j:=0) rfl).trans (List.Perm.cons _ Pf)))))) Pf)
  refine Zs ?_;obtain rfl:=K6 a;have a:=V
  exact Y9 a
 intro ak ae;have a:=K;clear J K;refine Zb ae fun w=>?_;refine ZS ?_
 refine pL 1 ?_;iterate 3 refine pu ?_
 refine pS1 (ds':=[.lst 4 (f.2.1.map Kl) .no,iD f.2.2.1,iD f.2.2.2.1,iD f.2.2.2.2.1,iD (IntKind.i64.wrap (f.2.2.2.2.2 - (1:Int)))]) ?_;refine Zo ?_;refine Zu ?_;obtain rfl:=Kf a;refine rP (t':=[(4,.lst 7 (f.1.map Kh) (.cur w))]) [1,0,0] [0,0] 3 (wC wN) (lT lN) ?_;exact ⟨w,t,rfl,rfl,rfl⟩
def Kdb (g0:(Ke)→Option (Int))(a0:Ke):Option (Int):=
 (Option.bind (α:=Int) (loopM (fun (a:Int×Int)=>(bif (decide (a.2 < (a0.gc.length:Int))) then ((idx a0.gc a.2).bind fun b=>((g0 b).bind fun c=>some (.next ((IntKind.i64.wrap (a.1+c)),(IntKind.i64.wrap (a.2+(1:Int))))))) else some (.done a.1))) ((1:Int),(0:Int))) fun d=>some d)
theorem Kle (g0:(Ke)→Option (Int))(g:∀ (a0:Ke) (r:Int) (h0:g0 a0=some r),CallsD Tryz.prog 99 [Kk a0] [] [] (fun d h k=>d=iD r∧h=[]∧k=[]))(a0 r)(h0:Kdb g0 a0=some r):CallsD Tryz.prog 99 [Kk a0] [] [] (fun d h k=>d=iD r∧h=[]∧k=[]):=by
 refine PZ1 h0 Tryz.func99 fun C a=>?_;refine XH fun s=>?_;refine YI ?_;refine Zz ?_;refine ZR ?_;refine ZF ?_;obtain ⟨c,e,f⟩:=Ka a;refine Kaf (Y:=Unit) (fun j=>(⟨[(3,iD c)],[],[]⟩:S)) ?_ ?_
 ·clear a;have a:=KE e;refine Zy a fun t l m=>?_;refine KaO (Y:=Unit) l (fun b n=>(⟨[(3,iD b.1),(7,.lst 5 (a0.gc.map Kk) .no),(8,iD (a0.gc.length:Int)),(9,iD b.2)],[],[]⟩:S)) ?_ ?_
  ·skip
   exact ZI
  intro G19 b n a;refine Zn ?_;refine cY a (fun a=>?_) fun a=>?_
  ·refine Z7 a fun o u a=>?_;refine p_eq (i:=11) rfl (Wk.of_eq (congrArg D.el (Ko o))) ?_;refine Uc fun v=>?_
   obtain ⟨w,p,a⟩:=Ka a;refine W0 g p ?_;refine Zl ?_;refine Yf a ?_;exact ZI
  refine Zs ?_;obtain rfl:=K6 a;have a:=m
  exact Y0 a
 intro x q;have a:=f;clear e f;refine Zb q fun j=>?_;refine Yz ?_;obtain rfl:=Kf a;refine rP (t':=[(2,iD c)]) [] [] 0 (wC wN) (lT lN) ?_;exact Za
def Kcf:Nat→((Ke)→Option (Int))
 | 0=>(fun _=>none)
 | n+1=>(Kdb ((Kcf n)))
theorem KiI:∀ n,(∀ (a0:Ke) (r:Int) (h0:(Kcf n) a0=some r),CallsD Tryz.prog 99 [Kk a0] [] [] (fun d h k=>d=iD r∧h=[]∧k=[]))
 | 0=>fun _ _ h0=>by cases h0
 |
  n+1=>by
  have ih:=KiI n;exact Kle (Kcf n) ih
theorem KiJ:∀ n,(∀ (a0:Ke),Le ((Kcf n) a0) ((Kcf (n+1)) a0))
 | 0=>fun _=>Le.none _
 |
  n+1=>by
  have ih:=KiJ n;exact fun a0=>by show Le (Kdb ((Kcf n)) a0) (Kdb ((Kcf (n+1))) a0);revert ih;generalize Kcf n=G0;generalize Kcf (n+1)=G1;intro ih;unfold Kdb;repeat (first|with_reducible exact Le.refl _|with_reducible exact ih _|with_reducible assumption|(refine Le.bind ?_ (fun _=>?_))|(refine Le.cond ?_ ?_)|(refine Le.loop (fun _=>?_))|(refine Le.elim (fun _=>?_) (fun _=>?_)))
def KfW (a0:Ke):Option (Int):=anyN fun n=>(Kcf n) a0
theorem KjR (a0:Ke){r:Int}(n:Nat)(h:(Kcf n) a0=some r):KfW a0=some r:=KdY (fun m=>(KiJ m) a0) h
theorem KlT (a0 r)(h0:KfW a0=some r):CallsD Tryz.prog 99 [Kk a0] [] [] (fun d h k=>d=iD r∧h=[]∧k=[]):=
 let ⟨n,hn⟩:=Kc4 h0;(KiI n) a0 r hn
def Kct (g0:(List Kj)→Option (Int))(a0:List Kj):Option (Int):=
 (Option.bind (α:=Int) (loopM (fun (a:Int×Int)=>(bif (decide (a.2 < (a0.length:Int))) then ((idx a0 a.2).bind fun c=>((g0 c.gc).bind fun d=>((g0 c.gq).bind fun e=>(Option.bind (α:=Int) (loopM (fun (b:Int×Int)=>(bif (decide (b.2 < (c.go.length:Int))) then ((idx c.go b.2).bind fun f=>((KfW f).bind fun g=>some (.next ((IntKind.i64.wrap (b.1+g)),(IntKind.i64.wrap (b.2+(1:Int))))))) else some (.done b.1))) ((IntKind.i64.wrap (a.1+(IntKind.i64.wrap ((IntKind.i64.wrap ((1:Int)+d))+e)))),(0:Int))) fun h=>some (.next (h,(IntKind.i64.wrap (a.2+(1:Int))))))))) else some (.done a.1))) ((0:Int),(0:Int))) fun i=>some i)
theorem KkX (g0:(List Kj)→Option (Int))(g:∀ (a0:List Kj) (r:Int) (h0:g0 a0=some r),CallsD Tryz.prog 77 [.lst 7 (a0.map Kh) .no] [] [] (fun d h k=>d=iD r∧h=[]∧k=[]))(a0 r)(h0:Kct g0 a0=some r):CallsD Tryz.prog 77 [.lst 7 (a0.map Kh) .no] [] [] (fun d h k=>d=iD r∧h=[]∧k=[]):=by
 refine PZ1 h0 Tryz.func77 fun C a=>?_;refine Zd ?_;refine KH ?_;refine Zz ?_;refine Zd ?_;refine ZF ?_;obtain ⟨j,l,m⟩:=Ka a;refine Kaf (Y:=Unit) (fun p=>(⟨[(3,iD j)],[],[]⟩:S)) ?_ ?_
 ·clear a;have a:=KE l;refine Zy a fun J q s=>?_;refine KaO (Y:=Unit) q (fun c t=>(⟨[(3,iD c.1),(8,.lst 7 (a0.map Kh) .no),(9,iD (a0.length:Int)),(10,iD c.2)],[],[]⟩:S)) ?_ ?_
  ·skip
   exact ZI
  intro G115 c t a;refine Zn ?_;refine cY a (fun a=>?_) fun a=>?_
  ·refine Z7 a fun b K a=>?_;refine p_eq (i:=12) rfl (Wk.of_eq (congrArg D.el (Kv b))) ?_;refine Wo ?_;refine Zq fun L=>?_
   refine pS0 (ds':=(CZ2 b .no .no .no)) ?_;refine Zr ?_;obtain ⟨u,v,a⟩:=Ka a;obtain ⟨w,x,a⟩:=Ka a;refine Kaj 9 [] [[],[],[1],[1,2],[1,2,3],[],[5],[1,2,3,5,6],[1,2,3,5,6,7]] [1,2,3,5,6,7] [[],[],[1],[1,2],[1,2,3],[],[5],[1,2,3,5,6],[1,2,3,4,5,6,7],[0,1,2,3,4,5,6,7,8],[0,1,2,3,4,5,6,7,8,9]] (by kernel_rfl) (by kernel_rfl) (by kernel_rfl) (by rfl) (by rfl) (by kernel_rfl) ?_;iterate 6 apply Exists.intro
   intro bs;refine zqp ?_;refine YY ?_;refine Kcg rfl rfl (g b.gc u v) rfl rfl Wl rfl rfl rfl rfl rfl rfl ?_;refine zqp ?_;refine YY ?_;refine Kcg rfl rfl (g b.gq w x) rfl rfl Wl rfl rfl rfl rfl rfl rfl ?_;refine zqp ?_;refine ZC ?_;refine Zl ?_;refine YP ?_;refine ZF ?_
   obtain ⟨y,n,o⟩:=Ka a;refine Kaf (Y:=Unit) (fun z=>(⟨[(3,iD y),(8,.lst 7 (a0.map Kh) .no),(9,iD (a0.length:Int)),(10,iD c.2)],[],[]⟩:S)) ?_ ?_
   ·clear a;have a:=KE n;refine Zy a fun M A B=>?_;refine KaO (Y:=Unit) A (fun e E=>(⟨[(3,iD e.1),(8,.lst 7 (a0.map Kh) .no),(9,iD (a0.length:Int)),(10,iD c.2),(25,.lst 5 (b.go.map Kk) .no),(26,iD (b.go.length:Int)),(27,iD e.2)],[],[]⟩:S)) ?_ ?_
    ·skip
     exact Xu
    intro G211 e E a;refine Zn ?_;refine cY a (fun a=>?_) fun a=>?_
    ·refine Z7 a fun f N a=>?_;refine p_eq (i:=29) rfl (Wk.of_eq (congrArg D.el (Ko f))) ?_;refine Uc fun O=>?_
     obtain ⟨F,G,a⟩:=Ka a;refine K5 (KlT f F G) rfl rfl rfl rfl rfl (WkL.cons (Wk.trans (Wk.agg (WkR.refl _)) (Wk.of_eq (Ko f).symm)) Wl) ?_;rintro _ rfl;refine Zl ?_;refine Yf a ?_;exact Xu
    refine Zs ?_;obtain rfl:=K6 a;have a:=B
    refine Z9 ?_;obtain rfl:=Kf a;refine ⟨rfl,?_⟩;exact ZI
   intro P H;have a:=o;clear n o;refine KK ?_;refine Zb H fun z=>?_;refine ZU ?_;refine KC ?_;refine Kc ⟨_,Kaw a,?_⟩;exact ZI
  refine Zs ?_;obtain rfl:=K6 a;have a:=s
  exact Y0 a
 intro Q I;have a:=m;clear l m;refine Zb I fun p=>?_;refine Yz ?_;obtain rfl:=Kf a;refine rP (t':=[(2,iD j)]) [] [] 0 (wC wN) (lT lN) ?_;exact Za
def Kbr:Nat→((List Kj)→Option (Int))
 | 0=>(fun _=>none)
 | n+1=>(Kct ((Kbr n)))
theorem Kh3:∀ n,(∀ (a0:List Kj) (r:Int) (h0:(Kbr n) a0=some r),CallsD Tryz.prog 77 [.lst 7 (a0.map Kh) .no] [] [] (fun d h k=>d=iD r∧h=[]∧k=[]))
 | 0=>fun _ _ h0=>by cases h0
 |
  n+1=>by
  have ih:=Kh3 n;exact KkX (Kbr n) ih
theorem Kh4:∀ n,(∀ (a0:List Kj),Le ((Kbr n) a0) ((Kbr (n+1)) a0))
 | 0=>fun _=>Le.none _
 |
  n+1=>by
  have ih:=Kh4 n;exact fun a0=>by show Le (Kct ((Kbr n)) a0) (Kct ((Kbr (n+1))) a0);revert ih;generalize Kbr n=G0;generalize Kbr (n+1)=G1;intro ih;unfold Kct;repeat (first|with_reducible exact Le.refl _|with_reducible exact ih _|with_reducible assumption|(refine Le.bind ?_ (fun _=>?_))|(refine Le.cond ?_ ?_)|(refine Le.loop (fun _=>?_))|(refine Le.elim (fun _=>?_) (fun _=>?_)))
def Kfp (a0:List Kj):Option (Int):=anyN fun n=>(Kbr n) a0
theorem Kjy (a0:List Kj){r:Int}(n:Nat)(h:(Kbr n) a0=some r):Kfp a0=some r:=KdY (fun m=>(Kh4 m) a0) h
theorem KlP (a0 r)(h0:Kfp a0=some r):CallsD Tryz.prog 77 [.lst 7 (a0.map Kh) .no] [] [] (fun d h k=>d=iD r∧h=[]∧k=[]):=
 let ⟨n,hn⟩:=Kc4 h0;(Kh3 n) a0 r hn
def Kba (b:Kg):Option (KG×Kg):=
 ((Kav b (0:Int)).bind fun f=>((KQ b qZ12).bind fun c=>((KaQ c).bind fun d=>((KbI d.2).bind fun e=>((Kcq e.2 (⟨d.1,e.1,[],[],f.gb⟩:KG)).bind fun a=>(Option.bind (α:=Bool) (bif (a.2.1.gE==(0:Int)) then ((Kfp a.1).bind fun g=>some (decide ((800:Int) < g))) else some false) fun h=>(bif h then ((Kaz a.2.1 c.gb (6:Int)).bind fun i=>some ((⟨a.2.2.ga,a.2.2.gf,a.2.2.gh,a.1,a.2.2.gb⟩:KG),i)) else some ((⟨a.2.2.ga,a.2.2.gf,a.2.2.gh,a.1,a.2.2.gb⟩:KG),a.2.1))))))))
abbrev qZ2:List D:=[tD ByteArray.empty,.lst 1 [] .full,.lst 1 [] .full,.lst 1 [] .full,iD (0:Int)]
theorem Kg4 (s e l p r)(h0:Kba s=some r):CallsD Tryz.prog 52 [.ptr e 0] [(e,Blk.cells (CZ7 s p) l)] [] (fun d h k=>∃ y z A,d=.agg (CZ3 r.1 (.cur y) (.cur z) (.cur A))∧h=[(e,Blk.cells (CZ7 r.2 .no) l)]∧k=[(2,y),(2,z),(7,A)]):=by
 refine PZ1 h0 Tryz.func52 fun C b=>?_;refine ZH fun t=>?_;refine Zq fun q=>?_;refine KH ?_;refine pL 1 ?_;obtain ⟨m,G,b⟩:=Ka b;refine pG (Kb0 s (0:Int) e l p m G) Wl Pf Pf ?_;refine Ys ?_;refine KbC (r:=[tD ByteArray.empty,.lst 1 [] .full,.lst 1 [] .full,.lst 1 [] .full,iD m.gb]) htab rfl rfl rfl rfl rfl rfl rfl rfl rfl ?_;refine Zq fun u=>?_
 refine pS3 (ds':=[tD ByteArray.empty,.lst 1 [] .full,.lst 1 [] .full,.lst 1 [] .full,iD m.gb]) ?_;refine KH ?_;refine pL 1 ?_;refine ZJ ?_;refine p_eq (i:=10) (d':=.lst 1 (qZ12.map eStr) .full) rfl (Wk.lst0 (.cons (WkC.refl _) (.nil))) ?_;obtain ⟨w,H,b⟩:=Ka b;refine W8 H ?_;refine Yc ?_;refine pL 1 ?_;refine Zl ?_;refine pL 0 ?_
 refine YI ?_;refine pL 1 ?_;obtain ⟨n,I,b⟩:=Ka b;refine pG (Kcx w e l p n I) Wl Pf Pf ?_;refine Ys ?_;refine pS3 (ds':=[tD n.1,.lst 1 [] .full,.lst 1 [] .full,.lst 1 [] .full,iD m.gb]) ?_;refine KH ?_;refine pL 1 ?_;refine pL 1 ?_;refine pu ?_;obtain ⟨o,J,b⟩:=Ka b;refine pG (KhT n.2 e l p o J) Wl Pf Pf ?_;refine Ym fun c=>?_;refine pS3 (ds':=[tD n.1,.lst 2 (o.1.map Ku) (.cur c),.lst 1 [] .full,.lst 1 [] .full,iD m.gb]) ?_;refine KH ?_;refine pL 1 ?_;refine pu ?_
 refine p_cellF (off:=2) 2 3 rfl rfl (by first|exact Or.inl rfl|exact Or.inr rfl) (fun B=>?_);refine o_blk 3 rfl (ds':=[tD n.1,.lst 2 (o.1.map Ku) (.cur c),.lst 2 (([]:List K3).map Ku) (.cur B),.lst 7 (([]:List Kj).map Kh) .full,iD m.gb]) (rC (rC (rC (WkR.cons (WkC.nilF) rfl (rC WkR.nil))))) rfl ?_;obtain ⟨a,K,b⟩:=Ka b;refine pG (KhV o.2 (⟨n.1,o.1,[],[],m.gb⟩:KG) e l .no t 111 u 40 (.cur c) B .full a K) Wl ((KZ (j:=0) rfl).trans (List.Perm.cons _ ((KZ (j:=0) rfl).trans (List.Perm.cons _ ((KZ (j:=1) rfl).trans (List.Perm.cons _ Pf)))))) Pf ?_
 rintro _ _ _ ⟨f,g,rfl,rfl,rfl⟩;refine pu ?_;refine pS2 (ds':=[tD a.2.2.ga,.lst 2 (a.2.2.gf.map Ku) (.cur c),.lst 2 (a.2.2.gh.map Ku) (.cur g),.lst 7 (a.1.map Kh) (.cur f),iD a.2.2.gb]) ?_;refine Zr ?_;refine ZA b fun L E F=>?_
 refine Kaf (Y:=Unit) (fun M=>(⟨[(1,.ptr t 0),(2,.ptr q 0),(3,.ptr u 0),(4,iD w.gb),(38,.v (.bool L))],[(e,Blk.cells (CZ7 a.2.1 .no) l),(t,Blk.cells [.ptr e 0] 111),(u,Blk.cells [tD a.2.2.ga,.lst 2 (a.2.2.gf.map Ku) (.cur c),.lst 2 (a.2.2.gh.map Ku) (.cur g),.lst 7 (a.1.map Kh) (.cur f),iD a.2.2.gb] 40),(q,Blk.cells qZ2 40)],[(7,f),(2,g),(2,c)]⟩:S)) ?_ ?_
 ·clear b;have b:=KE E;refine Kz ?_;refine pL 1 ?_;refine Zl ?_;refine pL 0 ?_;refine Zl ?_;refine KaH (i:=33) rfl (fun x=>?_) (fun x=>?_)
  ·replace b:=yes_t x b;refine pu ?_;refine pL 2 ?_;obtain ⟨N,O,b⟩:=Ka b;refine K5 (KlP a.1 N O) rfl rfl rfl rfl rfl (WkL.cons (Wk.no) Wl) ?_;rintro _ rfl;refine pu ?_;refine ZB ?_;exact Xh b
  replace b:=yes_f x b;iterate 4 refine pK ?_
  refine ZE ?_;exact Xh b
 intro T P;have b:=F;clear E F;refine Zb P fun M=>?_;refine cY b (fun b=>?_) fun b=>?_
 ·refine Kz ?_;refine pL 1 ?_;refine pu ?_;obtain ⟨Q,R,b⟩:=Ka b;refine pG (Kbh a.2.1 w.gb (6:Int) e l .no Q R) Wl Pf Pf ?_;refine Yc ?_;refine Kaa (d:=.agg [tD a.2.2.ga,.lst 2 (a.2.2.gf.map Ku) (.cur c),.lst 2 (a.2.2.gh.map Ku) (.cur g),.lst 7 (a.1.map Kh) (.cur f),iD a.2.2.gb]) 2 htab rfl rfl rfl rfl rfl rfl rfl rfl ?_;refine pS3 (ds':=[tD a.2.2.ga,.lst 2 (a.2.2.gf.map Ku) (.cur c),.lst 2 (a.2.2.gh.map Ku) (.cur g),.lst 7 (a.1.map Kh) (.cur f),iD a.2.2.gb]) ?_;refine ZG ?_
  obtain rfl:=Kf b;refine rP (t':=[(2,.ptr q 0)]) [0,2] [2,1,0] 1 (wC wN) (lC 1 lN) ?_;exact ⟨c,g,f,rfl,rfl,rfl⟩
 refine Zm ?_;refine Kd ?_;refine Kaa (d:=.agg [tD a.2.2.ga,.lst 2 (a.2.2.gf.map Ku) (.cur c),.lst 2 (a.2.2.gh.map Ku) (.cur g),.lst 7 (a.1.map Kh) (.cur f),iD a.2.2.gb]) 2 htab rfl rfl rfl rfl rfl rfl rfl rfl ?_;refine pS3 (ds':=[tD a.2.2.ga,.lst 2 (a.2.2.gf.map Ku) (.cur c),.lst 2 (a.2.2.gh.map Ku) (.cur g),.lst 7 (a.1.map Kh) (.cur f),iD a.2.2.gb]) ?_;refine ZG ?_;obtain rfl:=Kf b;refine rP (t':=[(2,.ptr q 0)]) [0,2] [2,1,0] 1 (wC wN) (lC 1 lN) ?_;exact ⟨c,g,f,rfl,rfl,rfl⟩
abbrev qZ15:KG:=⟨ByteArray.empty,[],[],[],(0:Int)⟩
def KeD (a0:List KB)(c:Int):Option (KG×Int×Int):=
 ((Kc3 a0 c).bind fun b=>(bif (!b.2) then some (qZ15,(0:Int),(2:Int)) else ((Kba b.1).bind fun a=>(bif (a.2.gE != (0:Int)) then some (qZ15,a.2.gb,a.2.gE) else some (a.1,a.2.gb,(0:Int))))))
theorem KkY (a0 i r)(h0:KeD a0 i=some r):CallsD Tryz.prog 24 [.lst 4 (a0.map Kl) .no,iD i] [] [] (fun d h k=>∃ l m n,d=.tup [.agg (CZ3 r.1 (.cur l) (.cur m) (.cur n)),iD r.2.1,iD r.2.2]∧h=[]∧k=[(2,l),(2,m),(7,n)]):=by
 refine PZ1 h0 Tryz.func24 fun C a=>?_;refine Yl fun g=>?_;refine Zl ?_;refine ZV ?_;obtain ⟨o,q,a⟩:=Ka a;refine pG (Khz a0 i o q) Wl Pf Pf ?_;refine ZL fun j=>?_;iterate 5 refine pu ?_
 refine Zr ?_;refine Ze ?_;refine cY a (fun a=>?_) fun a=>?_
 ·refine Kd ?_;refine KbC (r:=qZ2) htab rfl rfl rfl rfl rfl rfl rfl rfl rfl ?_;refine pS1 (ds':=qZ2) ?_;refine Z8 ?_;refine Ky ?_;obtain rfl:=Kf a;refine retX.cellF (off:=1) 2 1 rfl rfl (by first|exact Or.inl rfl|exact Or.inr rfl) (fun s=>?_);refine retX.cellF (off:=2) 2 1 rfl rfl (by first|exact Or.inl rfl|exact Or.inr rfl) (fun t=>?_)
  refine retX.cellF (off:=3) 7 1 rfl rfl (by first|exact Or.inl rfl|exact Or.inr rfl) (fun u=>?_);refine rP (t':=[(4,.ptr g 0),(5,iD (0:Int)),(6,iD (2:Int))]) [1] [2,1,0] 0 (wC (wC (wC wN))) (lC 0 (lT (lT lN))) ?_;exact ⟨s,t,u,rfl,rfl,rfl⟩
 refine Zm ?_;refine ZD a fun b v a=>?_;refine pG (Kg4 o.1 j 116 .no b v) Wl Pf Pf ?_;rintro _ _ _ ⟨c,e,f,rfl,rfl,rfl⟩;refine Zq fun p=>?_;refine pS2 (ds':=(CZ3 b.1 (.cur c) (.cur e) (.cur f))) ?_;refine Zr ?_;refine Yq ?_
 refine cY a (fun a=>?_) fun a=>?_
 ·refine Km ?_;refine KdU 11 [] [[],[],[1],[1,2],[1,2,3],[],[5],[5,6],[5,6,7],[0],[0,1,2,3,4,9]] [0,1,2,3,4,5,6,7,8,9] [[],[],[1],[1,2],[1,2,3],[],[5],[5,6],[5,6,7],[0],[0,1,2,3,4,9],[0,1,2,3,4,5,6,7,8,9,10]] 9 (by kernel_rfl) (by kernel_rfl) (by kernel_rfl) (by rfl) (by rfl) (by kernel_rfl) ?_
  refine ⟨[(j,Blk.cells (CZ7 b.2 .no) 116),(g,Blk.cells qZ2 40),(p,Blk.cells (CZ3 b.1 (.cur c) (.cur e) (.cur f)) 40)],?_⟩;iterate 9 apply Exists.intro
  refine ⟨.any,?_⟩;intro bs z;refine zh_e rfl rfl (Kfi (r:=qZ2) htab rfl rfl rfl rfl rfl rfl) rfl rfl rfl rfl rfl rfl rfl rfl ?_;refine Ug ?_
  obtain rfl:=Kf a;refine retX.cellF (off:=1) 2 1 rfl rfl (by first|exact Or.inl rfl|exact Or.inr rfl) (fun w=>?_);refine retX.cellF (off:=2) 2 1 rfl rfl (by first|exact Or.inl rfl|exact Or.inr rfl) (fun x=>?_)
  refine retX.cellF (off:=3) 7 1 rfl rfl (by first|exact Or.inl rfl|exact Or.inr rfl) (fun y=>?_);refine rP (t':=[(4,.ptr g 0),(5,iD b.2.gb),(6,iD b.2.gE)]) [1] [2,1,0] 0 (wC (wC (wC wN))) (lC 0 (lT (lT lN))) ?_;exact ⟨w,x,y,rfl,rfl,rfl⟩
 refine ZO ?_;refine KdU 6 [] [[],[],[1],[1,2],[1,2,3],[0]] [0,1,2,3,4,5] [[],[],[1],[1,2],[1,2,3],[0],[0,1,2,3,4,5],[0,1,2,3,4,5,6]] 5 (by kernel_rfl) (by kernel_rfl) (by kernel_rfl) (by rfl) (by rfl) (by kernel_rfl) ?_
 refine ⟨[(j,Blk.cells (CZ7 b.2 .no) 116),(g,Blk.cells (CZ3 b.1 (.cur c) (.cur e) (.cur f)) 40),(p,Blk.cells (CZ3 b.1 (.cur c) (.cur e) (.cur f)) 40)],?_⟩;iterate 5 apply Exists.intro
 refine ⟨.any,?_⟩;intro bs A;refine zh_M rfl rfl (fun _=>KN (d:=.agg (CZ3 b.1 (.cur c) (.cur e) (.cur f))) 2 htab rfl rfl rfl rfl rfl) (offB rfl) rfl rfl rfl rfl rfl rfl rfl rfl ?_;refine Uh ?_
 obtain rfl:=Kf a;refine rP (t':=[(4,.ptr g 0),(5,iD b.2.gb),(6,iD (0:Int))]) [1] [0,0,0] 0 (wC (wC (wC wN))) (lC 0 (lT (lT lN))) ?_;exact ⟨c,e,f,rfl,rfl,rfl⟩
def KcF (a0:List UInt8):Option (KG×Int×Int):=
 ((Kc2 a0).bind fun a=>(bif (a.2.2 != (0:Int)) then some (qZ15,a.2.1,a.2.2) else ((KeD a.1 (0:Int)).bind fun b=>((idx a.1 (min b.2.1 (IntKind.i64.wrap ((a.1.length:Int) - (1:Int))))).bind fun c=>(bif (b.2.2 != (0:Int)) then some (qZ15,c.gb,b.2.2) else (bif (c.gt != (0:Int)) then some (qZ15,c.gb,(3:Int)) else some (b.1,(0:Int),(0:Int))))))))
theorem WG {R G:Prop}(h:R)(k:R→G:=by intro h;refine zh_e rfl rfl (Kam htab rfl) rfl rfl rfl rfl rfl rfl rfl rfl ?_;refine zh_M rfl rfl (fun _=>KN 3 htab rfl rfl rfl rfl rfl) (fun _=>KN 3 htab rfl rfl rfl rfl rfl) rfl rfl rfl rfl rfl rfl rfl rfl ?_;exact h):G:=k h
theorem Uj {G:Prop}{l:Sort _}{m:(u:l)→Sort _}{w:(u:l)→(v:m u)→Sort _}{R:(u:l)→(v:m u)→(x:w u v)→Prop}(h:∀ u v x,R u v x)(k:(∀ u v x,R u v x)→G:=by intro h;refine retX.cellF (off:=1) 2 0 rfl rfl (by first|exact Or.inl rfl|exact Or.inr rfl) (fun _l=>?_);refine retX.cellF (off:=2) 2 0 rfl rfl (by first|exact Or.inl rfl|exact Or.inr rfl) (fun _m=>?_);refine retX.cellF (off:=3) 7 0 rfl rfl (by first|exact Or.inl rfl|exact Or.inr rfl) (fun _n=>?_);exact h _l _m _n):G:=k h
theorem WH {R G:Prop}(h:R)(k:R→G:=by intro h;refine Keq 0 htab rfl rfl rfl rfl rfl rfl rfl rfl rfl rfl rfl rfl rfl rfl rfl rfl ?_;exact h):G:=k h
theorem KhD (a0 r)(h0:KcF a0=some r):CallsD Tryz.prog 23 [.lst 1 (a0.map byteD) .no,.fn (.func 24) [] []] [] [] (fun d h k=>∃ n o p,d=.tup [.agg (CZ3 r.1 (.cur n) (.cur o) (.cur p)),iD r.2.1,iD r.2.2]∧h=[]∧k=[(2,n),(2,o),(7,p)]):=by
 refine PZ1 h0 Tryz.func23 fun C a=>?_;refine Yl fun c=>?_;refine Zl ?_;refine KH ?_;refine Zq fun q=>?_;refine Zo ?_;obtain ⟨j,y,a⟩:=Ka a;refine pG (Kjx a0 j y) Wl Pf Pf ?_;refine ZL fun L=>?_;iterate 7 refine pu ?_
 refine Zr ?_;refine Ze ?_;refine cY a (fun a=>?_) fun a=>?_
 ·refine Kd ?_;refine Kaa (d:=.agg qZ2) 1 htab rfl rfl rfl rfl rfl rfl rfl rfl ?_;refine Zl ?_;refine pS0 (ds':=qZ2) ?_;refine Z8 ?_;refine Ky ?_;obtain rfl:=Kf a;refine Uj fun z A B=>?_
  refine rP (t':=[(4,.ptr c 0),(5,iD j.2.1),(6,iD j.2.2)]) [0] [2,1,0] 0 (wC (wC (wC wN))) (lC 0 (lT (lT lN))) ?_;exact ⟨z,A,B,rfl,rfl,rfl⟩
 refine Zm ?_;refine ZM ?_;obtain ⟨b,D,a⟩:=Ka a;refine KdG (KkY j.1 (0:Int) b D) rfl rfl rfl rfl rfl rfl rfl (WkL.cons (Wk.no) (WkL.cons (Wk.refl _) Wl)) Pf Pf ?_;rintro _ _ _ ⟨e,f,g,rfl,rfl,rfl⟩;iterate 4 refine pu ?_
 refine Zq fun s=>?_;refine pS2 (ds':=(CZ3 b.1 (.cur e) (.cur f) (.cur g))) ?_;refine Zl ?_;refine Yt ?_
 refine YL ?_;refine p_min rfl rfl rfl rfl rfl rfl ?_;refine ZX a fun i M a=>?_;refine WB ?_;refine Zq fun t=>?_;refine pS3 (ds':=(CZ5 i)) ?_;refine Zr ?_;refine KJ ?_;refine ZS ?_
 refine Kb ?_;refine cY a (fun a=>?_) fun a=>?_
 ·refine Km ?_;refine KdU 6 [] [[],[],[1],[],[0],[0,1,2,4]] [0,1,2,4] [[],[],[1],[],[0],[0,1,2,4],[0,1,2,3,4,5]] 4 (by kernel_rfl) (by kernel_rfl) (by kernel_rfl) (by rfl) (by rfl) (by kernel_rfl) ?_
  refine ⟨[(c,Blk.cells qZ2 40),(q,Blk.cells qZ2 40),(s,Blk.cells (CZ3 b.1 (.cur e) (.cur f) (.cur g)) 40),(t,Blk.cells (CZ5 i) 110)],?_⟩;iterate 3 apply Exists.intro
  refine ⟨.any,?_⟩;intro bs N;refine zh_M rfl rfl (fun _=>KN (d:=.agg qZ2) 1 htab rfl rfl rfl rfl rfl) (offB rfl) rfl rfl rfl rfl rfl rfl rfl rfl ?_;refine WG ?_;refine Xn ?_;refine WH ?_;refine Xn ?_
  refine Wc ?_;refine ZT ?_;obtain rfl:=Kf a;refine Uj fun E F H=>?_;refine rP (t':=[(4,.ptr c 0),(5,iD i.gb),(6,iD b.2.2)]) [0] [2,1,0] 0 (wC (wC (wC wN))) (lC 0 (lT (lT lN))) ?_;exact ⟨E,F,H,rfl,rfl,rfl⟩
 refine Zd ?_;refine pL 3 ?_;refine pu ?_;refine Zv ?_;refine cY a (fun a=>?_) fun a=>?_
 ·refine Km ?_;refine KdU 4 [] [[],[],[1],[0]] [0,1,2,3] [[],[],[1],[0],[0,1,2,3],[0,1,2,3,4]] 3 (by kernel_rfl) (by kernel_rfl) (by kernel_rfl) (by rfl) (by rfl) (by kernel_rfl) ?_;refine ⟨[(c,Blk.cells qZ2 40),(q,Blk.cells qZ2 40),(s,Blk.cells (CZ3 b.1 (.cur e) (.cur f) (.cur g)) 40),(t,Blk.cells (CZ5 i) 110)],?_⟩
  iterate 3 apply Exists.intro
  refine ⟨.any,?_⟩;intro bs O;refine zh_M rfl rfl (fun _=>KN (d:=.agg qZ2) 1 htab rfl rfl rfl rfl rfl) (offB rfl) rfl rfl rfl rfl rfl rfl rfl rfl ?_;refine WG ?_;refine WH ?_;refine Wc ?_;refine pu ?_;refine ZT ?_
  obtain rfl:=Kf a;refine Uj fun I J K=>?_;refine rP (t':=[(4,.ptr c 0),(5,iD i.gb),(6,iD (3:Int))]) [0] [2,1,0] 0 (wC (wC (wC wN))) (lC 0 (lT (lT lN))) ?_;exact ⟨I,J,K,rfl,rfl,rfl⟩
 refine ZK ?_;refine Kd ?_;refine Kaa (d:=.agg (CZ3 b.1 (.cur e) (.cur f) (.cur g))) 2 htab rfl rfl rfl rfl rfl rfl rfl rfl ?_;refine pS0 (ds':=(CZ3 b.1 (.cur e) (.cur f) (.cur g))) ?_;refine Z8 ?_;obtain rfl:=Kf a
 refine rP (t':=[(4,.ptr c 0),(5,iD (0:Int)),(6,iD (0:Int))]) [0] [0,0,0] 0 (wC (wC (wC wN))) (lC 0 (lT (lT lN))) ?_;exact ⟨e,f,g,rfl,rfl,rfl⟩
def Kbs (a0:List UInt8):Option (KG×Int×Int):=
 ((KcF a0).bind fun a=>some (a.1,a.2.1,a.2.2))
theorem Kgx (a0 r)(h0:Kbs a0=some r):CallsD Tryz.prog 8 [.lst 1 (a0.map byteD) .no] [] [] (fun d h k=>∃ c e f,d=.tup [.agg (CZ3 r.1 (.cur c) (.cur e) (.cur f)),iD r.2.1,iD r.2.2]∧h=[]∧k=[(2,c),(2,e),(7,f)]):=by
 refine PZ1 h0 Tryz.func8 fun C b=>?_;refine Yl fun l=>?_;refine Zl ?_;refine Zo ?_;obtain ⟨a,m,b⟩:=Ka b;refine pG (KhD a0 a m) Wl Pf Pf ?_;rintro _ _ _ ⟨g,i,j,rfl,rfl,rfl⟩;iterate 3 refine pu ?_
 refine pS0 (ds':=(CZ3 a.1 (.cur g) (.cur i) (.cur j))) ?_;refine Z8 ?_;obtain rfl:=Kf b;refine rP (t':=[(2,.ptr l 0),(3,iD a.2.1),(4,iD a.2.2)]) [0] [0,0,0] 0 (wC (wC (wC wN))) (lC 0 (lT (lT lN))) ?_;exact ⟨g,i,j,rfl,rfl,rfl⟩
def Kcd (m:Kg):Option (KT×Kg):=
 ((Kav m (0:Int)).bind fun n=>((KQ m qZ12).bind fun o=>((KY o qZ16).bind fun l=>((KaQ l.2).bind fun b=>(Option.bind (α:=Bool×List KB×Int×Int×Int×Int) (bif (!l.1) then ((KY b.2 qZ20).bind fun c=>some (c.1,c.2.gL,c.2.gb,c.2.gE,c.2.gn,c.2.gm)) else some (false,b.2.gL,b.2.gb,b.2.gE,b.2.gn,b.2.gm)) fun a=>(Option.bind (α:=List KB×Int×Int×Int×Int×Int) (bif a.1 then ((Kav (⟨a.2.1,a.2.2.1,a.2.2.2.1,a.2.2.2.2.1,a.2.2.2.2.2⟩:Kg) (0:Int)).bind fun k=>(Option.bind (α:=List KB×Int×Int×Int×Int×Int) (Option.bind (α:=List KB×Int×Int×Int×Int×Int) (bif (k.gt != (2:Int)) then ((Kaz (⟨a.2.1,a.2.2.1,a.2.2.2.1,a.2.2.2.2.1,a.2.2.2.2.2⟩:Kg) a.2.2.1 (3:Int)).bind fun h=>some (h.gL,h.gb,h.gE,h.gn,h.gm,(0:Int))) else (Option.bind (α:=Bool) (bif (decide (k.gN < (1:Int))) then some true else some (decide ((1000:Int) < k.gN))) fun p=>(Option.bind (α:=List KB×Int×Int×Int×Int×Int) (bif p then ((Kaz (⟨a.2.1,a.2.2.1,a.2.2.2.1,a.2.2.2.2.1,a.2.2.2.2.2⟩:Kg) a.2.2.1 (4:Int)).bind fun i=>some (i.gL,i.gb,i.gE,i.gn,i.gm,(0:Int))) else some (a.2.1,(IntKind.i64.wrap (a.2.2.1+(1:Int))),a.2.2.2.1,a.2.2.2.2.1,a.2.2.2.2.2,k.gN)) fun d=>some (d.1,d.2.1,d.2.2.1,d.2.2.2.1,d.2.2.2.2.1,d.2.2.2.2.2)))) fun e=>some (e.1,e.2.1,e.2.2.1,e.2.2.2.1,e.2.2.2.2.1,e.2.2.2.2.2)) fun f=>((KQ (⟨f.1,f.2.1,f.2.2.1,f.2.2.2.1,f.2.2.2.2.1⟩:Kg) ([qZ21]:List ByteArray)).bind fun j=>some (j.gL,j.gb,j.gE,j.gn,j.gm,f.2.2.2.2.2)))) else some (a.2.1,a.2.2.1,a.2.2.2.1,a.2.2.2.2.1,a.2.2.2.2.2,(0:Int))) fun g=>((KQ (⟨g.1,g.2.1,g.2.2.1,g.2.2.2.1,g.2.2.2.2.1⟩:Kg) qZ3).bind fun q=>some ((⟨b.1,l.1,g.2.2.2.2.2,n.gb⟩:KT),q))))))))
theorem KhE (x f g u r)(h0:Kcd x=some r):CallsD Tryz.prog 85 [.ptr f 0] [(f,Blk.cells (CZ7 x u) g)] [] (fun d h k=>d=Kt r.1∧h=[(f,Blk.cells (CZ7 r.2 .no) g)]∧k=[]):=by
 refine PZ1 h0 Tryz.func85 fun C a=>?_;refine Yl fun n=>?_;refine Zo ?_;obtain ⟨j,Q,a⟩:=Ka a;refine pG (Kb0 x (0:Int) f g u j Q) Wl Pf Pf ?_;refine Ys ?_;refine KbC (r:=[tD ByteArray.empty,.v (.bool false),iD (0:Int),iD j.gb]) htab rfl rfl rfl rfl rfl rfl rfl rfl rfl ?_;refine Zq fun o=>?_;refine pS2 (ds':=[tD ByteArray.empty,.v (.bool false),iD (0:Int),iD j.gb]) ?_;refine YO ?_
 refine p_eq (i:=11) (d':=.lst 1 (qZ12.map eStr) .full) rfl (Wk.lst0 (.cons (WkC.refl _) (.nil))) ?_;obtain ⟨R,T,a⟩:=Ka a;refine W8 T ?_;refine Zi ?_;refine Zo ?_;obtain ⟨l,U,a⟩:=Ka a;refine pG (KaB R qZ16 f g u l U) Wl Pf Pf ?_;refine Ys ?_
 refine pS2 (ds':=[tD ByteArray.empty,.v (.bool l.1),iD (0:Int),iD j.gb]) ?_;refine Zo ?_;obtain ⟨m,V,a⟩:=Ka a;refine pG (Kcx l.2 f g u m V) Wl Pf Pf ?_;refine Ys ?_;refine pS2 (ds':=[tD m.1,.v (.bool l.1),iD (0:Int),iD j.gb]) ?_;refine Zr ?_;refine ZA a fun c A B=>?_
 refine Kaf (Y:=Unit) (fun W=>(⟨[(0,.ptr f 0),(2,.ptr n 0),(3,.ptr o 0),(25,.v (.bool c.1))],[(f,Blk.cells [.lst 4 (c.2.1.map Kl) .no,iD c.2.2.1,iD c.2.2.2.1,iD c.2.2.2.2.1,iD c.2.2.2.2.2] g),(n,Blk.cells qZ1 74),(o,Blk.cells [tD m.1,.v (.bool l.1),iD (0:Int),iD j.gb] 74)],[]⟩:S)) ?_ ?_
 ·clear a;have a:=KE A;refine ZN ?_;refine pL 2 ?_;refine Zl ?_;refine KaH (i:=22) rfl (fun y=>?_) (fun y=>?_)
  ·replace a:=yes_t y a;refine pu ?_;obtain ⟨D,X,a⟩:=Ka a;refine pG (KaB m.2 qZ20 f g u D X) Wl Pf Pf ?_;refine Zi ?_;refine ZB ?_;refine KC ?_;obtain rfl:=Kf a;refine ⟨rfl,?_⟩;refine WkX.wk (WkS.bl0 (ds':=(CZ7 D.2 .no)) (rO (rC (rC (rC (rC WkR.nil)))))) ?_;exact ZI
  replace a:=yes_f y a;refine Yp ?_;refine ZE ?_;refine KC ?_;obtain rfl:=Kf a;refine ⟨rfl,?_⟩;refine WkX.wk (WkS.bl0 (ds':=(CZ7 m.2 .no)) (rO (rC (rC (rC (rC WkR.nil)))))) ?_;exact ZI
 intro s9 Z;have a:=B;clear A B;refine Zb Z fun W=>?_;obtain ⟨p,E,F⟩:=Ka a;refine Kaf (Y:=Unit) (fun aa=>(⟨[(0,.ptr f 0),(2,.ptr n 0),(3,.ptr o 0)],[(f,Blk.cells [.lst 4 (p.1.map Kl) .no,iD p.2.1,iD p.2.2.1,iD p.2.2.2.1,iD p.2.2.2.2.1] g),(n,Blk.cells qZ1 74),(o,Blk.cells [tD m.1,.v (.bool l.1),iD p.2.2.2.2.2,iD j.gb] 74)],[]⟩:S)) ?_ ?_
 ·clear a;have a:=KE E;refine cY a (fun a=>?_) fun a=>?_
  ·refine ZA a fun w ab a=>?_;refine KgT 8 [(6,qZ7,110)] [(6,7,(CZ5 w))] [[],[0],[],[2],[2,3],[2,3,4],[],[0,1,6]] [0,1,2,3,4,6,7] [[],[0],[],[2],[2,3],[2,3,4],[],[0,1,6],[0,1,2,3,4,5,6,7]] (by kernel_rfl) (by kernel_rfl) (by kernel_rfl) (by rfl) (by rfl) (by kernel_rfl) ?_;iterate 5 apply Exists.intro
   refine ⟨.any,?_⟩;refine ⟨.any,?_⟩;intro bs;refine XR ?_;refine Kkv 0 rfl rfl (Kb0 (⟨c.2.1,c.2.2.1,c.2.2.2.1,c.2.2.2.2.1,c.2.2.2.2.2⟩:Kg) (0:Int) f g .no w ab) rfl rfl Wl rfl rfl rfl rfl rfl rfl rfl rfl ?_;refine Ue ?_
   refine zf_nil (h':=[(f,Blk.cells [.lst 4 (c.2.1.map Kl) .no,iD c.2.2.1,iD c.2.2.2.1,iD c.2.2.2.2.1,iD c.2.2.2.2.2] g),(n,Blk.cells qZ1 74),(o,Blk.cells [tD m.1,.v (.bool l.1),iD (0:Int),iD j.gb] 74),(bs 6,Blk.cells (CZ5 w) 110)]) rfl rfl rfl (fun e he=>by simp [isAl] at he;subst he;rfl) ?_;obtain ⟨G,H⟩:∃ b,bs 6=b:=⟨_,rfl⟩;simp only [H];clear H;refine Zz ?_;obtain ⟨q,I,J⟩:=Ka a
   refine Kaf (Y:=Unit) (fun ac=>(⟨[(0,.ptr f 0),(2,.ptr n 0),(3,.ptr o 0)],[(f,Blk.cells [.lst 4 (q.1.map Kl) .no,iD q.2.1,iD q.2.2.1,iD q.2.2.2.1,iD q.2.2.2.2.1] g),(n,Blk.cells qZ1 74),(o,Blk.cells [tD m.1,.v (.bool l.1),iD q.2.2.2.2.2,iD j.gb] 74)],[]⟩:S)) ?_ ?_
   ·clear a;have a:=KE I;refine KJ ?_;refine Zd ?_;refine pL 3 ?_;refine pu ?_;refine Zv ?_;obtain ⟨s,K,L⟩:=Ka a;refine Kaf (Y:=Unit) (fun av=>(⟨[(0,.ptr f 0),(2,.ptr n 0),(3,.ptr o 0)],[(f,Blk.cells [.lst 4 (s.1.map Kl) .no,iD s.2.1,iD s.2.2.1,iD s.2.2.2.1,iD s.2.2.2.2.1] g),(n,Blk.cells qZ1 74),(o,Blk.cells [tD m.1,.v (.bool l.1),iD s.2.2.2.2.2,iD j.gb] 74)],[]⟩:S)) ?_ ?_
    ·clear a;have a:=KE K;refine cY a (fun a=>?_) fun a=>?_
     ·refine ZU ?_;obtain ⟨ad,ae,a⟩:=Ka a;refine pG (Kbh (⟨c.2.1,c.2.2.1,c.2.2.2.1,c.2.2.2.2.1,c.2.2.2.2.2⟩:Kg) c.2.2.1 (3:Int) f g .no ad ae) Wl Pf Pf ?_;refine Zi ?_;exact Yy a
     refine ZA a fun af M N=>?_;refine Kaf (Y:=Unit) (fun ag=>(⟨[(0,.ptr f 0),(2,.ptr n 0),(3,.ptr o 0),(4,.ptr G 0),(5,iD c.2.2.1),(49,.v (.bool af))],[(f,Blk.cells [.lst 4 (c.2.1.map Kl) .no,iD c.2.2.1,iD c.2.2.2.1,iD c.2.2.2.2.1,iD c.2.2.2.2.2] g),(n,Blk.cells qZ1 74),(o,Blk.cells [tD m.1,.v (.bool l.1),iD (0:Int),iD j.gb] 74),(G,Blk.cells (CZ5 w) 110)],[]⟩:S)) ?_ ?_
     ·clear a;have a:=KE M;refine ZN ?_;refine pL 3 ?_;refine Zl ?_;refine KaH (i:=53) rfl (fun z=>?_) (fun z=>?_)
      ·replace a:=yes_t z a;iterate 3 refine pK ?_
       refine Yj ?_;exact Wg a
      replace a:=yes_f z a;refine pu ?_;refine pL 3 ?_;refine pu ?_;refine Z5 ?_;exact Wg a
     intro aw ah;have a:=N;clear M N;refine Zb ah fun ag=>?_;obtain ⟨t,O,P⟩:=Ka a;refine Kaf (Y:=Unit) (fun ax=>(⟨[(0,.ptr f 0),(2,.ptr n 0),(3,.ptr o 0)],[(f,Blk.cells [.lst 4 (t.1.map Kl) .no,iD t.2.1,iD t.2.2.1,iD t.2.2.2.1,iD t.2.2.2.2.1] g),(n,Blk.cells qZ1 74),(o,Blk.cells [tD m.1,.v (.bool l.1),iD t.2.2.2.2.2,iD j.gb] 74)],[]⟩:S)) ?_ ?_
     ·clear a;have a:=KE O;refine cY a (fun a=>?_) fun a=>?_
      ·refine ZU ?_;obtain ⟨ai,aj,a⟩:=Ka a;refine pG (Kbh (⟨c.2.1,c.2.2.1,c.2.2.2.1,c.2.2.2.2.1,c.2.2.2.2.2⟩:Kg) c.2.2.1 (4:Int) f g .no ai aj) Wl Pf Pf ?_;refine Zi ?_;exact Yy a
      refine Zd ?_;refine pL 3 ?_;refine pu ?_;refine pS2 (ds':=[tD m.1,.v (.bool l.1),iD w.gN,iD j.gb]) ?_;refine Kb ?_;refine X9 ?_
      refine pS0 (ds':=[.lst 4 (c.2.1.map Kl) .no,iD (IntKind.i64.wrap (c.2.2.1+(1:Int))),iD c.2.2.2.1,iD c.2.2.2.2.1,iD c.2.2.2.2.2]) ?_;exact Yy a
     intro ay ak;have a:=P;clear O P;exact Y4 a ak
    intro az al;have a:=L;clear K L;refine KK ?_;exact Y4 a al
   intro ba am;have a:=J;clear I J;refine Zb am fun ac=>?_;refine ZN ?_;refine ZJ ?_;refine p_eq (i:=62) (d':=.lst 1 (([qZ21]:List ByteArray).map eStr) .full) rfl (Wk.lst0 (.cons (WkC.refl _) (.nil))) ?_;obtain ⟨an,ao,a⟩:=Ka a;refine Ka6 (Kao (⟨q.1,q.2.1,q.2.2.1,q.2.2.2.1,q.2.2.2.2.1⟩:Kg) ([qZ21]:List ByteArray) f g .no an ao) rfl rfl rfl rfl rfl (WkL.cons (Wk.refl _) (WkL.cons (Wk.no) Wl)) Pf Pf ?_;refine Zi ?_
   exact Yy a
  exact YH a
 intro bb ap;have a:=F;clear E F;refine Zb ap fun aa=>?_;refine Zd ?_;refine ZJ ?_;refine p_eq (i:=65) (d':=.lst 1 (qZ3.map eStr) .full) rfl (Wk.lst0 (.cons (WkC.refl _) (.nil))) ?_;obtain ⟨aq,ar,a⟩:=Ka a;refine Ka6 (Kao (⟨p.1,p.2.1,p.2.2.1,p.2.2.2.1,p.2.2.2.2.1⟩:Kg) qZ3 f g .no aq ar) rfl rfl rfl rfl rfl (WkL.cons (Wk.refl _) (WkL.cons (Wk.no) Wl)) Pf Pf ?_;refine Yc ?_
 refine Kaa (d:=Kt (⟨m.1,l.1,p.2.2.2.2.2,j.gb⟩:KT)) 2 htab rfl rfl rfl rfl rfl rfl rfl rfl ?_;refine pS1 (ds':=[tD m.1,.v (.bool l.1),iD p.2.2.2.2.2,iD j.gb]) ?_;exact WC a
abbrev qZ11:KT:=⟨ByteArray.empty,false,(0:Int),(0:Int)⟩
def KeE (a0:List KB)(c:Int):Option (KT×Int×Int):=
 ((Kc3 a0 c).bind fun b=>(bif (!b.2) then some (qZ11,(0:Int),(2:Int)) else ((Kcd b.1).bind fun a=>(bif (a.2.gE != (0:Int)) then some (qZ11,a.2.gb,a.2.gE) else some (a.1,a.2.gb,(0:Int))))))
theorem Kj8 (a0 e r)(h0:KeE a0 e=some r):CallsD Tryz.prog 60 [.lst 4 (a0.map Kl) .no,iD e] [] [] (fun d h k=>d=.tup [Kt r.1,iD r.2.1,iD r.2.2]∧h=[]∧k=[]):=by
 refine PZ1 h0 Tryz.func60 fun C a=>?_;refine Yl fun c=>?_;refine Zl ?_;refine ZV ?_;obtain ⟨g,j,a⟩:=Ka a;refine pG (Khz a0 e g j) Wl Pf Pf ?_;refine ZL fun f=>?_;iterate 5 refine pu ?_
 refine Zr ?_;refine Ze ?_;refine cY a (fun a=>?_) fun a=>?_
 ·refine Kd ?_;refine KbC (r:=qZ1) htab rfl rfl rfl rfl rfl rfl rfl rfl rfl ?_;refine pS1 (ds':=qZ1) ?_;refine Z8 ?_;refine Ky ?_;obtain rfl:=Kf a;refine rP (t':=[(4,.ptr c 0),(5,iD (0:Int)),(6,iD (2:Int))]) [1] [] 0 (wC (wC (wC wN))) (lC 0 (lT (lT lN))) ?_;exact Za
 refine Zm ?_;refine ZD a fun b l a=>?_;refine pG (KhE g.1 f 116 .no b l) Wl Pf Pf ?_;refine Zi ?_;refine Zq fun i=>?_;refine pS2 (ds':=(CZ1 b.1)) ?_;refine Zr ?_;refine Yq ?_
 refine cY a (fun a=>?_) fun a=>?_
 ·refine Km ?_;refine KdU 11 [] [[],[],[1],[1,2],[1,2,3],[],[5],[5,6],[5,6,7],[0],[0,1,2,3,4,9]] [0,1,2,3,4,5,6,7,8,9] [[],[],[1],[1,2],[1,2,3],[],[5],[5,6],[5,6,7],[0],[0,1,2,3,4,9],[0,1,2,3,4,5,6,7,8,9,10]] 9 (by kernel_rfl) (by kernel_rfl) (by kernel_rfl) (by rfl) (by rfl) (by kernel_rfl) ?_;refine ⟨[(f,Blk.cells (CZ7 b.2 .no) 116),(c,Blk.cells qZ1 74),(i,Blk.cells (CZ1 b.1) 74)],?_⟩;iterate 9 apply Exists.intro
  refine ⟨.any,?_⟩;intro bs m;refine zh_e rfl rfl (Kfi (r:=qZ1) htab rfl rfl rfl rfl rfl rfl) rfl rfl rfl rfl rfl rfl rfl rfl ?_;refine Ug ?_
  obtain rfl:=Kf a;refine rP (t':=[(4,.ptr c 0),(5,iD b.2.gb),(6,iD b.2.gE)]) [1] [] 0 (wC (wC (wC wN))) (lC 0 (lT (lT lN))) ?_;exact Za
 refine ZO ?_;refine KdU 6 [] [[],[],[1],[1,2],[1,2,3],[0]] [0,1,2,3,4,5] [[],[],[1],[1,2],[1,2,3],[0],[0,1,2,3,4,5],[0,1,2,3,4,5,6]] 5 (by kernel_rfl) (by kernel_rfl) (by kernel_rfl) (by rfl) (by rfl) (by kernel_rfl) ?_;refine ⟨[(f,Blk.cells (CZ7 b.2 .no) 116),(c,Blk.cells (CZ1 b.1) 74),(i,Blk.cells (CZ1 b.1) 74)],?_⟩;iterate 5 apply Exists.intro
 refine ⟨.any,?_⟩;intro bs n;refine zh_M rfl rfl (fun _=>KN (d:=Kt b.1) 2 htab rfl rfl rfl rfl rfl) (offB rfl) rfl rfl rfl rfl rfl rfl rfl rfl ?_;refine Uh ?_
 obtain rfl:=Kf a;refine rP (t':=[(4,.ptr c 0),(5,iD b.2.gb),(6,iD (0:Int))]) [1] [] 0 (wC (wC (wC wN))) (lC 0 (lT (lT lN))) ?_;exact Za
end
section
open Go
set_option maxRecDepth 100000
def KcS (a0:List UInt8):Option (KT×Int×Int):=
 ((Kc2 a0).bind fun a=>(bif (a.2.2 != (0:Int)) then some (qZ11,a.2.1,a.2.2) else ((KeE a.1 (0:Int)).bind fun b=>((idx a.1 (min b.2.1 (IntKind.i64.wrap ((a.1.length:Int) - (1:Int))))).bind fun c=>(bif (b.2.2 != (0:Int)) then some (qZ11,c.gb,b.2.2) else (bif (c.gt != (0:Int)) then some (qZ11,c.gb,(3:Int)) else some (b.1,(0:Int),(0:Int))))))))
theorem Kg5 (a0 r)(h0:KcS a0=some r):CallsD Tryz.prog 59 [.lst 1 (a0.map byteD) .no,.fn (.func 60) [] []] [] [] (fun d h k=>d=.tup [Kt r.1,iD r.2.1,iD r.2.2]∧h=[]∧k=[]):=by
 refine PZ1 h0 Tryz.func59 fun C a=>?_;refine Yl fun c=>?_;refine Zl ?_;refine KH ?_;refine Zq fun g=>?_;refine Zo ?_;obtain ⟨f,l,a⟩:=Ka a;refine pG (Kjx a0 f l) Wl Pf Pf ?_;refine ZL fun n=>?_;iterate 7 refine pu ?_
 refine Zr ?_;refine Ze ?_;refine cY a (fun a=>?_) fun a=>?_
 ·refine Kd ?_;refine Kaa (d:=Kt qZ11) 1 htab rfl rfl rfl rfl rfl rfl rfl rfl ?_;refine Zl ?_;refine pS0 (ds':=qZ1) ?_;refine Z8 ?_;refine Ky ?_;obtain rfl:=Kf a;refine rP (t':=[(4,.ptr c 0),(5,iD f.2.1),(6,iD f.2.2)]) [0] [] 0 (wC (wC (wC wN))) (lC 0 (lT (lT lN))) ?_;exact Za
 refine Zm ?_;refine ZM ?_;obtain ⟨b,m,a⟩:=Ka a;refine KfG (Kj8 f.1 (0:Int) b m) rfl rfl rfl rfl rfl rfl rfl (WkL.cons (Wk.no) (WkL.cons (Wk.refl _) Wl)) ?_;rintro _ rfl;iterate 4 refine pu ?_
 refine Zq fun i=>?_;refine pS2 (ds':=(CZ1 b.1)) ?_;refine Zl ?_;refine Yt ?_
 refine YL ?_;refine p_min rfl rfl rfl rfl rfl rfl ?_;refine ZX a fun e o a=>?_;refine WB ?_;refine Zq fun j=>?_;refine pS3 (ds':=(CZ5 e)) ?_;refine Zr ?_;refine KJ ?_;refine ZS ?_
 refine Kb ?_;refine cY a (fun a=>?_) fun a=>?_
 ·refine Km ?_;refine KdU 6 [] [[],[],[1],[],[0],[0,1,2,4]] [0,1,2,4] [[],[],[1],[],[0],[0,1,2,4],[0,1,2,3,4,5]] 4 (by kernel_rfl) (by kernel_rfl) (by kernel_rfl) (by rfl) (by rfl) (by kernel_rfl) ?_;refine ⟨[(c,Blk.cells qZ1 74),(g,Blk.cells qZ1 74),(i,Blk.cells (CZ1 b.1) 74),(j,Blk.cells (CZ5 e) 110)],?_⟩;iterate 3 apply Exists.intro
  refine ⟨.any,?_⟩;intro bs p;refine zh_M rfl rfl (fun _=>KN (d:=Kt qZ11) 1 htab rfl rfl rfl rfl rfl) (offB rfl) rfl rfl rfl rfl rfl rfl rfl rfl ?_;refine WG ?_;refine Xn ?_;refine WH ?_;refine Xn ?_
  refine Wc ?_;refine ZT ?_;obtain rfl:=Kf a;refine rP (t':=[(4,.ptr c 0),(5,iD e.gb),(6,iD b.2.2)]) [0] [] 0 (wC (wC (wC wN))) (lC 0 (lT (lT lN))) ?_;exact Za
 refine Zd ?_;refine pL 3 ?_;refine pu ?_;refine Zv ?_;refine cY a (fun a=>?_) fun a=>?_
 ·refine Km ?_;refine KdU 4 [] [[],[],[1],[0]] [0,1,2,3] [[],[],[1],[0],[0,1,2,3],[0,1,2,3,4]] 3 (by kernel_rfl) (by kernel_rfl) (by kernel_rfl) (by rfl) (by rfl) (by kernel_rfl) ?_;refine ⟨[(c,Blk.cells qZ1 74),(g,Blk.cells qZ1 74),(i,Blk.cells (CZ1 b.1) 74),(j,Blk.cells (CZ5 e) 110)],?_⟩;iterate 3 apply Exists.intro
  refine ⟨.any,?_⟩;intro bs q;refine zh_M rfl rfl (fun _=>KN (d:=Kt qZ11) 1 htab rfl rfl rfl rfl rfl) (offB rfl) rfl rfl rfl rfl rfl rfl rfl rfl ?_;refine WG ?_;refine WH ?_;refine Wc ?_;refine pu ?_;refine ZT ?_
  obtain rfl:=Kf a;refine rP (t':=[(4,.ptr c 0),(5,iD e.gb),(6,iD (3:Int))]) [0] [] 0 (wC (wC (wC wN))) (lC 0 (lT (lT lN))) ?_;exact Za
 refine ZK ?_;refine Kd ?_;refine Kaa (d:=Kt b.1) 2 htab rfl rfl rfl rfl rfl rfl rfl rfl ?_;refine pS0 (ds':=(CZ1 b.1)) ?_;refine Z8 ?_;obtain rfl:=Kf a;refine rP (t':=[(4,.ptr c 0),(5,iD (0:Int)),(6,iD (0:Int))]) [0] [] 0 (wC (wC (wC wN))) (lC 0 (lT (lT lN))) ?_;exact Za
def KbX (a0:List UInt8):Option (KT×Int×Int):=
 ((KcS a0).bind fun a=>some (a.1,a.2.1,a.2.2))
theorem KiK (a0 r)(h0:KbX a0=some r):CallsD Tryz.prog 33 [.lst 1 (a0.map byteD) .no] [] [] (fun d h k=>d=.tup [Kt r.1,iD r.2.1,iD r.2.2]∧h=[]∧k=[]):=by
 refine PZ1 h0 Tryz.func33 fun C b=>?_;refine Yl fun c=>?_;refine Zl ?_;refine Zo ?_;obtain ⟨a,e,b⟩:=Ka b;refine K5 (Kg5 a0 a e) rfl rfl rfl rfl rfl Wl ?_;rintro _ rfl;iterate 3 refine pu ?_
 refine pS0 (ds':=(CZ1 a.1)) ?_;refine Z8 ?_;obtain rfl:=Kf b;refine rP (t':=[(2,.ptr c 0),(3,iD a.2.1),(4,iD a.2.2)]) [0] [] 0 (wC (wC (wC wN))) (lC 0 (lT (lT lN))) ?_;exact Za
end
section
open Go
theorem rz_nil {H:Hp}:Reps H [] []:=by simp only [Reps]
theorem KbP {H:Hp}{d:D}{u:Value}{l:List D}{us:List Value}(h:RepC H d [u])(o:one u=true)(f:d.flat=true)(r:Reps H l us):Reps H (d::l) (u::us):=by
 simp only [Reps];exact ⟨u,us,rfl,⟨h,o,f⟩,r⟩
theorem rz_v {H:Hp}{x:Value}:RepC H (.v x) [x]:=by simp only [RepC]
theorem rz_l {H:Hp}{k:Nat}:RepC H (.lst k [] .no) [.slice none 0 0]:=by
 simp only [RepC];exact ⟨_,rfl,trivial,.inl ⟨(by first|exact trivial|rfl),none,0,rfl,fun _=>rfl⟩⟩
theorem rz_agg {H:Hp}{l:List D}{us:List Value}(h:Reps H l us):RepC H (.agg l) us:=by simpa only [RepC] using h
theorem copy_runR {P:Program}{tab:List (Option TI)}(hT:TabOK P tab){H:Hp}{w:World}{r kk:Nat}{T T' e:TypeId}{ty:TypeId}{v ie:TI}{xs ys:List D}{z:Z3}{v2:Value}{c:List Value}
  (hA:Ag H w) (hrow:BlkOK H w (r,.row kk xs (SL z))) (E:(Builtin.lenOf v2).run P w=.ok ys.length w) (g1:c.length=ys.length*kk) (y:FlatR H kk ys c) (F:(Builtin.firstCells kk ys.length v2).run P w=.ok c.toArray w)
  (G:ti tab T=some v) (I:v.d=.slice e) (hie:ti tab e=some ie) (hks:ie.size=kk) (hlen:ys.length=xs.length) :
  ∃ w':World,(Builtin.copy_ #[T,T'] ty #[SL z,v2]).run P w=.ok (goInt ys.length) w'∧Core ⟨H,w,KP [(r,.row kk xs (SL z))] []⟩ H [(0,.row kk ys (SL z))] [] w':=by
 subst hks;have hTe:=ti_ok hT hie;obtain ⟨d0,J,K⟩:=Kak (w:=w) (ti_ok hT G);obtain rfl:=KbY (K.trans I);obtain ⟨f,A,l⟩:=z;have start:∀ (n:Nat),A=n→n=ys.length→(Builtin.copy_ #[T,T'] ty #[SL (f,A,l),v2]).run P w=(do
   if let some a:=f then storeCells a c
   pure (goInt ys.length):Sem Value).run P w:=by
  intro n hz hn;subst hz;subst hn;unfold Builtin.copy_ SL;simp only [List.getElem?_toArray,List.getElem?_cons_zero,List.getElem?_cons_succ];rw [Kw J];simp only [];rw [Kw E];rw [Kw (Kby hTe)];simp only [Nat.min_self];rw [Kw F];cases f<;>rfl
 rcases hrow with ⟨a,j,B⟩|⟨b,m,us,rest,TT,j,h0,g,h1,h2,L,q⟩
 ·simp only [SL,Value.slice.injEq] at j;obtain ⟨rfl,rfl,rfl⟩:=j;have hy:ys=[]:=List.eq_nil_of_length_eq_zero (by rw [hlen,B];rfl);subst hy;subst B;have M:c=[]:=List.eq_nil_of_length_eq_zero (by simpa using g1);subst M;refine ⟨w,?_,hA,Hp.le_refl H,fun _ _ x=>.inl x,fun _ _ _=>rfl,Nat.le_refl _,?_,by simp,?_,?_,Env.refl w⟩
  ·rw [start 0 rfl rfl];cases f with
   | none=>rfl
   | some a=>simp only [storeCells];rfl
  ·intro p hp;simp only [List.mem_singleton] at hp;subst hp;exact .inl ⟨f,rfl,rfl⟩
  ·cases f<;>simp [KP,K0,Kau,SL]
  cases f<;>simp [KP,K0,Kau,SL]
 simp only [SL,Value.slice.injEq] at j;obtain ⟨rfl,rfl,rfl⟩:=j;have hul:=KeG h2;have hclaim:KP [(r,Blk.row ie.size xs (SL (some ⟨b,0,none⟩,xs.length,l)))] []=[b]:=by simp [KP,K0,Kau,SL,g]
 have O:c.length=us.length:=by rw [g1,hul,hlen]
 obtain ⟨w',R,U,W,s,u⟩:=KcL (P:=P) (b:=b) (off:=0) (T:=TT) c 0 w (us++rest) h1 (by simp only [List.length_append];omega) (Kkw y);simp only [Nat.add_zero] at u;have ecells:(us++rest).take 0++(c++(us++rest).drop (0+c.length))=c++rest:=by
  rw [List.take_zero,List.nil_append,Nat.zero_add,O,List.drop_left]
 rw [ecells] at u;refine ⟨w',?_,?_⟩
 ·rw [start xs.length rfl hlen.symm];simp only [];rw [Kw R];rfl
 rw [hclaim];refine ⟨⟨fun a V ea=>?_,hA.gg.own q s⟩,Hp.le_refl H,fun _ _ x=>.inl x,fun i _ g=>s i (by simpa using g),by show w.heap.size≤w'.heap.size;omega,?_,by simp,?_,?_,U⟩
 ·have hcell:=hA a V ea;by_cases qb:a.block=b
  ·obtain ⟨ab,ao,aq⟩:=a;simp only at qb;subst qb;cases aq with
   | some sp=>simp [World.cell?,h1] at hcell
   | none=>rw [q ao] at ea;cases ea
  simp only [World.cell?] at hcell ⊢;rw [s _ qb];exact hcell
 ·intro p hp;simp only [List.mem_singleton] at hp;subst hp;refine .inr ⟨b,l,c,rest,TT,by simp [SL,hlen],by omega,g,by simpa using u,y,?_,q⟩;simp only [List.length_append] at L ⊢;omega
 ·simp [KP,K0,Kau,SL,g]
 intro b' hb';simp [KP,K0,Kau,SL,g] at hb' ⊢;first|exact .inl hb'|simpa using hb'
section
variable {P : Program} {C : Ctx} {N : Nat} {ops rest : List Oper} {o : Oper} {t : List (Nat × D)} {h : List (Nat × Blk)} {k : List (Nat × Value)} {Q : Exit → S → Prop} {tab : List (Option TI)}
theorem p_copyR {i r kk:Nat}{T T' e:TypeId}{x y:Operand}{xs ys zs:List D}{c':Cap}{z:Z3}{b ie:TI}(j:Nat)(hT:TabOK P tab)(ho:o.op=.call ⟨.builtin .copy,[x,y].toArray,#[T,T']⟩)(hw:wantD ops t o=some true)(hd:o.dst=some i)(hi:Nat.blt i N=true)
  (hx:opD t x=some (.v (SL z))) (hj:h[j]? = some (r,.row kk xs (SL z))) (hy:opD t y=some (.lst kk ys c'))
  (c:ti tab T=some b) (f:b.d=.slice e) (hie:ti tab e=some ie) (hks:ie.size=kk) (hlen:ys.length=xs.length) (em:ys=zs)
  (g:opsD P C N ops rest ⟨(i,.v (goInt ys.length))::t,h.set j (0,.row kk zs (SL z)),k⟩ Q):opsD P C N ops (o::rest) ⟨t,h,k⟩ Q:=by
 subst em;refine Kb4 (s:=⟨t,h,k⟩) hw hd hi fun H a w core kt=>?_
 have hry:=Kae kt hy;obtain ⟨n,m2,ey⟩:=KdK hry;have c1:Core C H ([(r,.row kk xs (SL z))]++h.eraseIdx j) ([]++k) w:=core.perm (KZ hj) (List.Perm.refl _);have hbl:=core.blks _ (List.mem_of_getElem? hj);obtain ⟨p,g1,l,m⟩:=Kha core.ag hry;obtain ⟨w',h1,h2⟩:=copy_runR (P:=P) (ty:=o.type) (T':=T') (v2:=a.eval y) hT core.ag hbl (by rw [ey];rfl) g1 l m c f hie hks hlen;have c2:=Core.call c1 h2;refine ⟨goInt ys.length,w',H,.v (goInt ys.length),h.set j (0,.row kk ys (SL z)),k,Kb9 (s:=Builtin.copy_) ho (fun _ _=>rfl) ?_,Hp.le_refl H,c2.perm (KfF hj) (List.Perm.refl _),rep_v rfl,g⟩
 have e:=KW (Kae kt hx);simpa [e] using h1
end
end
section
open Go
set_option maxRecDepth 100000
def KaL (a0:List KT):Option (List KT):=app 40 a0 []
theorem Wh {R G:Prop}(h:R)(k:R→G:=by intro h;refine Km ?_;refine Kz ?_;refine Kc0 htab rfl rfl rfl rfl ?_;exact h):G:=k h
theorem WI {R G:Prop}(h:R)(k:R→G:=by intro h;refine ZO ?_;refine Kz ?_;refine p_lit0 htab rfl rfl rfl rfl rfl rfl rfl rfl ?_;refine Kc0 htab rfl rfl rfl rfl ?_;exact h):G:=k h
theorem Xr {R G:Prop}(h:R)(k:R→G:=by intro h;refine Wh ?_;refine KC ?_;refine Kc ?_;exact h):G:=k h
theorem WJ {R G:Prop}(h:R)(k:R→G:=by intro h;refine Kc0 htab rfl rfl rfl rfl ?_;refine KC ?_;refine Kc ?_;refine Kr ?_;exact h):G:=k h
theorem KeX (a0 r)(h0:KaL a0=some r):CallsD Tryz.prog 37 [.lst 4 (a0.map Kt) .no] [] [] (fun d h k=>∃ a,d=.lst 4 (r.map Kt) (.cur a)∧h=[]∧k=[(4,a)]):=by
 obtain ⟨hr,hb⟩:=KeL h0;simp only [List.append_nil] at hr;subst hr;have q:app 40 ([]:List KT) r=some r:=Kiu (by simp only [List.length_nil,Nat.zero_add];simpa using hb);refine KV htab Tryz.func37 rfl rfl rfl rfl rfl (fun C=>?_);refine Xr ?_;refine Km ?_;refine Wh ?_;refine Kj2 htab rfl rfl rfl rfl rfl rfl rfl (fun b hn=>?_);refine KC ?_;refine Kc ?_;refine KfE rfl (fun hc=>?_) (fun hc=>?_)
 ·have hnil:=hn hc;simp only [List.map_eq_nil_iff] at hnil;subst hnil;refine Xr ?_;refine Kr ?_;refine Ky ?_;refine retX.tokN (i:=2) 4 rfl (fun y=>?_);refine retX.of (s':=⟨[(2,.lst 4 (([]:List KT).map Kt) (.cur y))],[],[(4,y)]⟩) (WkS.perm (wC wN) (List.Perm.refl _) (List.Perm.refl _)) (Kfl (hh:=[]) (.inl rfl) (KdV (KdM rfl) (Ke2)) (List.nil_sublist _) (List.Sublist.refl _) ?_);exact ⟨y,rfl,rfl,rfl⟩
 refine WI ?_;refine p_appF htab rfl rfl rfl rfl rfl rfl rfl rfl rfl rfl rfl rfl rfl rfl rfl (by simpa using hb) (fun v=>?_);refine WJ ?_;refine retX.of (s':=⟨[(2,.lst 4 (r.map Kt) (.cur v))],[],[(4,v)]⟩) (WkS.perm (wC wN) (List.Perm.refl _) (List.Perm.refl _)) (Kfl (hh:=[]) (.inl rfl) (KdV (KdM rfl) (Ke2)) (List.nil_sublist _) (List.Sublist.refl _) ?_);exact ⟨v,rfl,rfl,rfl⟩
theorem Kc9 (a0 r)(h0:KaL a0=some r):CallsD Tryz.prog 37 [.lst 4 (a0.map Kt) .no] [] [] (fun d h k=>∃ a,d=.v (SL a)∧h=[(0,Blk.row 4 (r.map Kt) (SL a))]∧k=[]):=by
 obtain ⟨hr,hb⟩:=KeL h0;simp only [List.append_nil] at hr;subst hr;have q:app 40 ([]:List KT) r=some r:=Kiu (by simp only [List.length_nil,Nat.zero_add];simpa using hb);refine KV htab Tryz.func37 rfl rfl rfl rfl rfl (fun C=>?_);refine Xr ?_;refine Km ?_;refine Wh ?_;refine Kj2 htab rfl rfl rfl rfl rfl rfl rfl (fun b hn=>?_);refine KC ?_;refine Kc ?_;refine KfE rfl (fun hc=>?_) (fun hc=>?_)
 ·have hnil:=hn hc;simp only [List.map_eq_nil_iff] at hnil;subst hnil;refine Xr ?_;refine Kr ?_;refine Ky ?_;refine retX.rowN (i:=2) 4 rfl (fun y=>?_);refine retX.of (s':=⟨[(2,.v (SL y))],[(0,Blk.row 4 (([]:List KT).map Kt) (SL y))],[]⟩) (WkS.perm (wC wN) (List.Perm.refl _) (List.Perm.refl _)) (Kfl (hh:=[_]) (.inl rfl) (KdV (KdM rfl) (Ke2)) (List.Sublist.refl _) (List.Sublist.refl _) ?_);exact ⟨y,rfl,rfl,rfl⟩
 refine WI ?_;refine p_app0R htab rfl rfl rfl rfl rfl rfl rfl rfl rfl rfl rfl rfl rfl rfl rfl (by simpa using hb) rfl (fun v=>?_);refine WJ ?_;refine retX.of (s':=⟨[(2,.v (SL v))],[(0,Blk.row 4 (r.map Kt) (SL v))],[]⟩) (WkS.perm (wC wN) (List.Perm.refl _) (List.Perm.refl _)) (Kfl (hh:=[_]) (.inl rfl) (KdV (KdM rfl) (Ke2)) (List.Sublist.refl _) (List.Sublist.refl _) ?_);exact ⟨v,rfl,rfl,rfl⟩
def KcR (a0:List K3):Option (List K3):=app 24 a0 []
theorem Keb (a0 r)(h0:KcR a0=some r):CallsD Tryz.prog 44 [.lst 2 (a0.map Ku) .no] [] [] (fun d h k=>∃ a,d=.lst 2 (r.map Ku) (.cur a)∧h=[]∧k=[(2,a)]):=by
 obtain ⟨hr,hb⟩:=KeL h0;simp only [List.append_nil] at hr;subst hr;have q:app 24 ([]:List K3) r=some r:=Kiu (by simp only [List.length_nil,Nat.zero_add];simpa using hb);refine KV htab Tryz.func44 rfl rfl rfl rfl rfl (fun C=>?_);refine Xr ?_;refine Km ?_;refine Wh ?_;refine Kj2 htab rfl rfl rfl rfl rfl rfl rfl (fun b hn=>?_);refine KC ?_;refine Kc ?_;refine KfE rfl (fun hc=>?_) (fun hc=>?_)
 ·have hnil:=hn hc;simp only [List.map_eq_nil_iff] at hnil;subst hnil;refine Xr ?_;refine Kr ?_;refine Ky ?_;refine retX.tokN (i:=2) 2 rfl (fun y=>?_);refine retX.of (s':=⟨[(2,.lst 2 (([]:List K3).map Ku) (.cur y))],[],[(2,y)]⟩) (WkS.perm (wC wN) (List.Perm.refl _) (List.Perm.refl _)) (Kfl (hh:=[]) (.inl rfl) (KdV (KdM rfl) (Ke2)) (List.nil_sublist _) (List.Sublist.refl _) ?_);exact ⟨y,rfl,rfl,rfl⟩
 refine WI ?_;refine p_appF htab rfl rfl rfl rfl rfl rfl rfl rfl rfl rfl rfl rfl rfl rfl rfl (by simpa using hb) (fun v=>?_);refine WJ ?_;refine retX.of (s':=⟨[(2,.lst 2 (r.map Ku) (.cur v))],[],[(2,v)]⟩) (WkS.perm (wC wN) (List.Perm.refl _) (List.Perm.refl _)) (Kfl (hh:=[]) (.inl rfl) (KdV (KdM rfl) (Ke2)) (List.nil_sublist _) (List.Sublist.refl _) ?_);exact ⟨v,rfl,rfl,rfl⟩
def Kbm (g0:(List Ke)→Option (List Ke))(g1:(Ke)→Option (Ke))(a0:List Ke):Option (List Ke):=
 ((need (mkOK 64 (a0.length:Int) (a0.length:Int))).bind fun e=>((need (decide (a0.length=(List.replicate (a0.length:Int).toNat qZ4).length))).bind fun f=>(Option.bind (α:=List Ke) (loopM (fun (a:Int×List Ke)=>(bif (decide (a.1 < (a0.length:Int))) then ((idx a.2 a.1).bind fun b=>((g1 b).bind fun c=>((idx a.2 a.1).bind fun g=>some (.next ((IntKind.i64.wrap (a.1+(1:Int))),(a.2.set a.1.toNat c)))))) else some (.done a.2))) ((0:Int),a0)) fun d=>some d)))
theorem Uk {R G:Prop}(h:R)(k:R→G:=by intro h;refine retX.wk (WkS.frz 0 rfl rfl) ?_;refine retX.wk (WkS.tld 4 0 rfl rfl) ?_;refine retX.wk (WkS.tld 5 0 rfl rfl) ?_;refine retX.wk (WkS.tld 28 0 rfl rfl) ?_;refine retX.wk (WkS.drop 0 rfl) ?_;exact h):G:=k h
theorem XU {A0 R G:Prop}(a0:A0)(h:R)(k:A0→R→G:=by intro _a h;refine Kdj 0 htab rfl rfl rfl rfl rfl rfl rfl rfl rfl rfl rfl (Ks _a) (KD _a) ?_;exact h):G:=k a0 h
theorem Ul {R G:Prop}(h:R)(k:R→G:=by intro h;refine Zr ?_;refine Zd ?_;refine Kgg 0 htab rfl rfl rfl rfl rfl rfl rfl rfl (by first|exact K2|rfl) ?_;refine Zv ?_;exact h):G:=k h
def HZ16 (g:(List Ke)→Option (List Ke)):Prop:=∀ (a0:List Ke) (r:List Ke) (h0:g a0=some r),CallsD Tryz.prog 62 [.lst 5 (a0.map Kk) .no,.fn (.func 63) [] []] [] [] (fun d h k=>∃ c,d=.lst 5 (r.map Kk) (.cur c)∧h=[]∧k=[(5,c)])
def HZ17 (g:(Ke)→Option (Ke)):Prop:=∀ (a0:Ke) (r:Ke) (h0:g a0=some r),CallsD Tryz.prog 63 [Kk a0] [] [] (fun d h k=>d=Kk r∧h=[]∧k=[])
theorem KhF (g0:(List Ke)→Option (List Ke))(g1:(Ke)→Option (Ke))(D:HZ16 g0)(s:HZ17 g1)(a0 r)(h0:Kbm g0 g1 a0=some r):CallsD Tryz.prog 62 [.lst 5 (a0.map Kk) .no,.fn (.func 63) [] []] [] [] (fun d h k=>∃ c,d=.lst 5 (r.map Kk) (.cur c)∧h=[]∧k=[(5,c)]):=by
 refine PZ1 h0 Tryz.func62 fun C a=>?_;refine Zd ?_;refine Zo ?_;refine Yk ?_;obtain ⟨E,t,a⟩:=Ka a
 refine Kky (x0:=Kk qZ4) htab rfl rfl rfl rfl rfl rfl rfl rfl rfl rfl rfl rfl rfl rfl rfl (KdX t) (fun H=>by rw [Ko];exact rz_agg (KbP rz_v rfl rfl (KbP rz_v rfl rfl (KbP rz_v rfl rfl (KbP rz_l rfl rfl (KbP rz_v rfl rfl rz_nil)))))) (List.map_replicate (f:=Kk)).symm (fun v1=>?_);refine pu ?_;refine ZV ?_;obtain ⟨F,u,a⟩:=Ka a;refine p_copyR 0 htab rfl rfl rfl rfl rfl rfl rfl rfl rfl rfl rfl (by simpa using of_decide_eq_true (KdX u)) rfl ?_;refine Ul ?_
 obtain ⟨m,n,o⟩:=Ka a;refine Kaf (Y:=Unit) (fun w=>(⟨[(5,.v (SL v1))],[(0,Blk.row 5 (m.map Kk) (SL v1))],[]⟩:S)) ?_ ?_
 ·clear a;have a:=KE n;refine Zy a fun I x y=>?_;refine KaO (Y:=Unit) x (fun l z=>(⟨[(1,.fn (.func 63) [] []),(5,.v (SL v1)),(14,.v (SL v1)),(15,iD (a0.length:Int)),(16,iD l.1)],[(0,Blk.row 5 (l.2.map Kk) (SL v1))],[]⟩:S)) ?_ ?_
  ·skip
   exact YF
  intro G29 l z a;refine Zn ?_;refine cY a (fun a=>?_) fun a=>?_
  ·refine Z0 ?_;refine ZD a fun b p a=>?_;refine XU p ?_;refine Kfm (d:=.agg (CZ0 b .no)) (d0:=.agg (CZ0 b .no)) 0 htab rfl rfl rfl rfl rfl rfl rfl ((KD p).trans (congrArg some (Ko b))) rfl (by simp [Kah]) ?_;refine Zq fun J=>?_;refine pu ?_
   refine pS1 (ds':=(CZ0 b .no)) ?_;refine Kb ?_;refine ZW ?_
   refine Xw ?_;obtain ⟨j,A,a⟩:=Ka a;refine KfG (s b j A) rfl rfl rfl rfl rfl rfl rfl (WkL.cons (Wk.trans (Wk.agg (WkR.refl _)) (Wk.of_eq (Ko b).symm)) Wl) ?_;rintro _ rfl;refine p_eq (i:=25) rfl (Wk.of_eq (Ko j)) ?_;obtain ⟨K,q,a⟩:=Ka a;refine XU q ?_
   refine KfH (d:=.agg (CZ0 j .no)) 0 htab rfl rfl rfl rfl rfl rfl rfl rfl rfl rfl (KgD q) ((congrArg (List.set _ _) (Ko j).symm).trans (KgC (e:=Kk))) ?_;refine Yf a ?_;exact YF
  refine Zs ?_;obtain rfl:=K6 a;have a:=y
  exact Y0 a
 intro L B;have a:=o;clear n o;refine Zb B fun w=>?_;refine Yz ?_;obtain rfl:=Kf a;refine Uk ?_;refine rP (t':=[(4,.lst 5 (m.map Kk) (.cur (SL v1)))]) [] [0] 0 (wC wN) (lT lN) ?_;exact ⟨(SL v1),rfl,rfl,rfl⟩
def KdB (g0:(List Ke)→Option (List Ke))(g1:(Ke)→Option (Ke))(a0:Ke):Option (Ke):=
 ((g0 a0.gc).bind fun a=>some (⟨a0.gj,a0.gN,a0.ga,a,a0.gb⟩:Ke))
theorem KkZ (g0:(List Ke)→Option (List Ke))(g1:(Ke)→Option (Ke))(e:HZ16 g0)(i:HZ17 g1)(a0 r)(h0:KdB g0 g1 a0=some r):CallsD Tryz.prog 63 [Kk a0] [] [] (fun d h k=>d=Kk r∧h=[]∧k=[]):=by
 refine PZ1 h0 Tryz.func63 fun C b=>?_;refine XH fun j=>?_;refine Zq fun f=>?_;refine YP ?_;obtain ⟨a,g,b⟩:=Ka b;refine pG (e a0.gc a g) Wl Pf Pf ?_;refine Ym fun c=>?_;refine pS0 (ds':=[iD a0.gj,iD a0.gN,tD a0.ga,.lst 5 (a.map Kk) (.cur c),iD a0.gb]) ?_;refine KH ?_
 refine Kaa (d:=.agg [iD a0.gj,iD a0.gN,tD a0.ga,.lst 5 (a.map Kk) (.cur c),iD a0.gb]) 0 htab rfl rfl rfl rfl rfl rfl rfl rfl ?_;refine pS1 (ds':=[iD a0.gj,iD a0.gN,tD a0.ga,.lst 5 (a.map Kk) (.cur c),iD a0.gb]) ?_;refine ZG ?_;obtain rfl:=Kf b;refine retX.wk (WkS.bl1 (ds':=[iD a0.gj,iD a0.gN,tD a0.ga,.lst 5 (a.map Kk) .no,iD a0.gb]) (rC (rC (rC (rO (rC WkR.nil)))))) ?_;refine rP (t':=[(2,.ptr f 0)]) [1] [] 0 (wC wN) (lC 0 lN) ?_;exact WRZ
def KR:Nat→((List Ke)→Option (List Ke))×((Ke)→Option (Ke))
 | 0=>(fun _=>none,fun _=>none)
 | n+1=>(Kbm ((KR n).1) ((KR n).2),KdB ((KR n).1) ((KR n).2))
theorem Ke7:∀ n,(∀ (a0:List Ke) (r:List Ke) (h0:(KR n).1 a0=some r),CallsD Tryz.prog 62 [.lst 5 (a0.map Kk) .no,.fn (.func 63) [] []] [] [] (fun d h k=>∃ a,d=.lst 5 (r.map Kk) (.cur a)∧h=[]∧k=[(5,a)]))∧(∀ (a0:Ke) (r:Ke) (h0:(KR n).2 a0=some r),CallsD Tryz.prog 63 [Kk a0] [] [] (fun d h k=>d=Kk r∧h=[]∧k=[]))
 | 0=>⟨(fun _ _ h0=>by cases h0),(fun _ _ h0=>by cases h0)⟩
 |
  n+1=>by
  have ih:=Ke7 n;exact ⟨KhF ((KR n).1) ((KR n).2) (ih.1) (ih.2),KkZ ((KR n).1) ((KR n).2) (ih.1) (ih.2)⟩
theorem Ke8:∀ n,(∀ (a0:List Ke),Le ((KR n).1 a0) ((KR (n+1)).1 a0))∧(∀ (a0:Ke),Le ((KR n).2 a0) ((KR (n+1)).2 a0))
 | 0=>⟨fun _=>Le.none _,fun _=>Le.none _⟩
 |
  n+1=>by
  have ih:=Ke8 n
  exact ⟨fun a0=>by show Le (Kbm ((KR n).1) ((KR n).2) a0) (Kbm ((KR (n+1)).1) ((KR (n+1)).2) a0);revert ih;generalize KR n=G0;generalize KR (n+1)=G1;intro ih;unfold Kbm;repeat (first|with_reducible exact Le.refl _|with_reducible exact ih.1 _|with_reducible exact ih.2 _|with_reducible assumption|(refine Le.bind ?_ (fun _=>?_))|(refine Le.cond ?_ ?_)|(refine Le.loop (fun _=>?_))|(refine Le.elim (fun _=>?_) (fun _=>?_))),fun a0=>by show Le (KdB ((KR n).1) ((KR n).2) a0) (KdB ((KR (n+1)).1) ((KR (n+1)).2) a0);revert ih;generalize KR n=G0;generalize KR (n+1)=G1;intro ih;unfold KdB;repeat (first|with_reducible exact Le.refl _|with_reducible exact ih.1 _|with_reducible exact ih.2 _|with_reducible assumption|(refine Le.bind ?_ (fun _=>?_))|(refine Le.cond ?_ ?_)|(refine Le.loop (fun _=>?_))|(refine Le.elim (fun _=>?_) (fun _=>?_)))⟩
def Kd8 (a0:List Ke):Option (List Ke):=anyN fun n=>(KR n).1 a0
theorem Kih (a0:List Ke){r:List Ke}(n:Nat)(h:(KR n).1 a0=some r):Kd8 a0=some r:=KdY (fun m=>(Ke8 m).1 a0) h
theorem Kii (a0 r)(h0:Kd8 a0=some r):CallsD Tryz.prog 62 [.lst 5 (a0.map Kk) .no,.fn (.func 63) [] []] [] [] (fun d h k=>∃ a,d=.lst 5 (r.map Kk) (.cur a)∧h=[]∧k=[(5,a)]):=
 let ⟨n,hn⟩:=Kc4 h0;(Ke7 n).1 a0 r hn
def KbQ (g0:(List Kj)→Option (List Kj))(g1:(Kj)→Option (Kj))(a0:List Kj):Option (List Kj):=
 ((need (mkOK 120 (a0.length:Int) (a0.length:Int))).bind fun e=>((need (decide (a0.length=(List.replicate (a0.length:Int).toNat (⟨(0:Int),ByteArray.empty,ByteArray.empty,[],[],[],(0:Int)⟩:Kj)).length))).bind fun f=>(Option.bind (α:=List Kj) (loopM (fun (a:Int×List Kj)=>(bif (decide (a.1 < (a0.length:Int))) then ((idx a.2 a.1).bind fun b=>((g1 b).bind fun c=>((idx a.2 a.1).bind fun g=>some (.next ((IntKind.i64.wrap (a.1+(1:Int))),(a.2.set a.1.toNat c)))))) else some (.done a.2))) ((0:Int),a0)) fun d=>some d)))
def HZ18 (g:(List Kj)→Option (List Kj)):Prop:=∀ (a0:List Kj) (r:List Kj) (h0:g a0=some r),CallsD Tryz.prog 45 [.lst 7 (a0.map Kh) .no,.fn (.func 46) [] []] [] [] (fun d h k=>∃ c,d=.lst 7 (r.map Kh) (.cur c)∧h=[]∧k=[(7,c)])
def HZ19 (g:(Kj)→Option (Kj)):Prop:=∀ (a0:Kj) (r:Kj) (h0:g a0=some r),CallsD Tryz.prog 46 [Kh a0] [] [] (fun d h k=>d=Kh r∧h=[]∧k=[])
theorem KhG (g0:(List Kj)→Option (List Kj))(g1:(Kj)→Option (Kj))(D:HZ18 g0)(s:HZ19 g1)(a0 r)(h0:KbQ g0 g1 a0=some r):CallsD Tryz.prog 45 [.lst 7 (a0.map Kh) .no,.fn (.func 46) [] []] [] [] (fun d h k=>∃ c,d=.lst 7 (r.map Kh) (.cur c)∧h=[]∧k=[(7,c)]):=by
 refine PZ1 h0 Tryz.func45 fun C a=>?_;refine Zd ?_;refine Zo ?_;refine Yk ?_;obtain ⟨E,t,a⟩:=Ka a
 refine Kky (x0:=Kh (⟨(0:Int),ByteArray.empty,ByteArray.empty,[],[],[],(0:Int)⟩:Kj)) htab rfl rfl rfl rfl rfl rfl rfl rfl rfl rfl rfl rfl rfl rfl rfl (KdX t) (fun H=>by rw [Kv];exact rz_agg (KbP rz_v rfl rfl (KbP rz_v rfl rfl (KbP rz_v rfl rfl (KbP rz_l rfl rfl (KbP rz_l rfl rfl (KbP rz_l rfl rfl (KbP rz_v rfl rfl rz_nil)))))))) (List.map_replicate (f:=Kh)).symm (fun v1=>?_);refine pu ?_;refine ZV ?_;obtain ⟨F,u,a⟩:=Ka a;refine p_copyR 0 htab rfl rfl rfl rfl rfl rfl rfl rfl rfl rfl rfl (by simpa using of_decide_eq_true (KdX u)) rfl ?_;refine Ul ?_
 obtain ⟨m,n,o⟩:=Ka a;refine Kaf (Y:=Unit) (fun w=>(⟨[(5,.v (SL v1))],[(0,Blk.row 7 (m.map Kh) (SL v1))],[]⟩:S)) ?_ ?_
 ·clear a;have a:=KE n;refine Zy a fun G x y=>?_;refine KaO (Y:=Unit) x (fun l z=>(⟨[(1,.fn (.func 46) [] []),(5,.v (SL v1)),(14,.v (SL v1)),(15,iD (a0.length:Int)),(16,iD l.1)],[(0,Blk.row 7 (l.2.map Kh) (SL v1))],[]⟩:S)) ?_ ?_
  ·skip
   exact YF
  intro G29 l z a;refine Zn ?_;refine cY a (fun a=>?_) fun a=>?_
  ·refine Z0 ?_;refine ZD a fun b p a=>?_;refine XU p ?_
   refine Kfm (d:=.agg (CZ2 b .no .no .no)) (d0:=.agg (CZ2 b .no .no .no)) 0 htab rfl rfl rfl rfl rfl rfl rfl ((KD p).trans (congrArg some (Kv b))) rfl (by simp [Kah]) ?_;refine Zq fun I=>?_;refine pu ?_
   refine pS1 (ds':=(CZ2 b .no .no .no)) ?_;refine Kb ?_;refine ZW ?_
   refine XO ?_;obtain ⟨j,A,a⟩:=Ka a;refine KfG (s b j A) rfl rfl rfl rfl rfl rfl rfl (WkL.cons (Wk.trans (Wk.agg (WkR.refl _)) (Wk.of_eq (Kv b).symm)) Wl) ?_;rintro _ rfl;refine p_eq (i:=25) rfl (Wk.of_eq (Kv j)) ?_;obtain ⟨J,q,a⟩:=Ka a;refine XU q ?_
   refine KfH (d:=.agg (CZ2 j .no .no .no)) 0 htab rfl rfl rfl rfl rfl rfl rfl rfl rfl rfl (KgD q) ((congrArg (List.set _ _) (Kv j).symm).trans (KgC (e:=Kh))) ?_;refine Yf a ?_;exact YF
  refine Zs ?_;obtain rfl:=K6 a;have a:=y
  exact Y0 a
 intro K B;have a:=o;clear n o;refine Zb B fun w=>?_;refine Yz ?_;obtain rfl:=Kf a;refine Uk ?_;refine rP (t':=[(4,.lst 7 (m.map Kh) (.cur (SL v1)))]) [] [0] 0 (wC wN) (lT lN) ?_;exact ⟨(SL v1),rfl,rfl,rfl⟩
def KdC (g0:(List Kj)→Option (List Kj))(g1:(Kj)→Option (Kj))(a0:Kj):Option (Kj):=
 ((Kd8 a0.go).bind fun a=>((g0 a0.gc).bind fun b=>((g0 a0.gq).bind fun c=>some (⟨a0.gj,a0.ga,a0.gu,a,b,c,a0.gb⟩:Kj))))
theorem Kk0 (g0:(List Kj)→Option (List Kj))(g1:(Kj)→Option (Kj))(l:HZ18 g0)(q:HZ19 g1)(a0 r)(h0:KdC g0 g1 a0=some r):CallsD Tryz.prog 46 [Kh a0] [] [] (fun d h k=>d=Kh r∧h=[]∧k=[]):=by
 refine PZ1 h0 Tryz.func46 fun C a=>?_;refine w_eq (i:=0) rfl (Wk.of_eq (Kv a0)) ?_;refine ZH fun s=>?_;refine Zq fun m=>?_;refine YP ?_;obtain ⟨b,n,a⟩:=Ka a;refine pG (Kii a0.go b n) Wl Pf Pf ?_;refine Ym fun e=>?_;refine pS0 (ds':=[iD a0.gj,tD a0.ga,tD a0.gu,.lst 5 (b.map Kk) (.cur e),.lst 7 (a0.gc.map Kh) .no,.lst 7 (a0.gq.map Kh) .no,iD a0.gb]) ?_
 refine YP ?_;obtain ⟨c,o,a⟩:=Ka a;refine pG (l a0.gc c o) Wl Pf Pf ?_;refine Ym fun g=>?_;refine pS0 (ds':=[iD a0.gj,tD a0.ga,tD a0.gu,.lst 5 (b.map Kk) (.cur e),.lst 7 (c.map Kh) (.cur g),.lst 7 (a0.gq.map Kh) .no,iD a0.gb]) ?_;refine YP ?_;obtain ⟨f,p,a⟩:=Ka a;refine pG (l a0.gq f p) Wl Pf Pf ?_;refine Ym fun j=>?_
 refine pS0 (ds':=[iD a0.gj,tD a0.ga,tD a0.gu,.lst 5 (b.map Kk) (.cur e),.lst 7 (c.map Kh) (.cur g),.lst 7 (f.map Kh) (.cur j),iD a0.gb]) ?_;refine KH ?_;refine Kaa (d:=.agg [iD a0.gj,tD a0.ga,tD a0.gu,.lst 5 (b.map Kk) (.cur e),.lst 7 (c.map Kh) (.cur g),.lst 7 (f.map Kh) (.cur j),iD a0.gb]) 0 htab rfl rfl rfl rfl rfl rfl rfl rfl ?_;refine pS1 (ds':=[iD a0.gj,tD a0.ga,tD a0.gu,.lst 5 (b.map Kk) (.cur e),.lst 7 (c.map Kh) (.cur g),.lst 7 (f.map Kh) (.cur j),iD a0.gb]) ?_;refine ZG ?_;obtain rfl:=Kf a
 refine retX.wk (WkS.bl1 (ds':=[iD a0.gj,tD a0.ga,tD a0.gu,.lst 5 (b.map Kk) .no,.lst 7 (c.map Kh) .no,.lst 7 (f.map Kh) .no,iD a0.gb]) (rC (rC (rC (rO (rO (rO (rC WkR.nil)))))))) ?_;refine rP (t':=[(2,.ptr m 0)]) [1] [] 0 (wC wN) (lC 0 lN) ?_;exact Ui
def KU:Nat→((List Kj)→Option (List Kj))×((Kj)→Option (Kj))
 | 0=>(fun _=>none,fun _=>none)
 | n+1=>(KbQ ((KU n).1) ((KU n).2),KdC ((KU n).1) ((KU n).2))
theorem Ke9:∀ n,(∀ (a0:List Kj) (r:List Kj) (h0:(KU n).1 a0=some r),CallsD Tryz.prog 45 [.lst 7 (a0.map Kh) .no,.fn (.func 46) [] []] [] [] (fun d h k=>∃ a,d=.lst 7 (r.map Kh) (.cur a)∧h=[]∧k=[(7,a)]))∧(∀ (a0:Kj) (r:Kj) (h0:(KU n).2 a0=some r),CallsD Tryz.prog 46 [Kh a0] [] [] (fun d h k=>d=Kh r∧h=[]∧k=[]))
 | 0=>⟨(fun _ _ h0=>by cases h0),(fun _ _ h0=>by cases h0)⟩
 |
  n+1=>by
  have ih:=Ke9 n;exact ⟨KhG ((KU n).1) ((KU n).2) (ih.1) (ih.2),Kk0 ((KU n).1) ((KU n).2) (ih.1) (ih.2)⟩
theorem Kfa:∀ n,(∀ (a0:List Kj),Le ((KU n).1 a0) ((KU (n+1)).1 a0))∧(∀ (a0:Kj),Le ((KU n).2 a0) ((KU (n+1)).2 a0))
 | 0=>⟨fun _=>Le.none _,fun _=>Le.none _⟩
 |
  n+1=>by
  have ih:=Kfa n
  exact ⟨fun a0=>by show Le (KbQ ((KU n).1) ((KU n).2) a0) (KbQ ((KU (n+1)).1) ((KU (n+1)).2) a0);revert ih;generalize KU n=G0;generalize KU (n+1)=G1;intro ih;unfold KbQ;repeat (first|with_reducible exact Le.refl _|with_reducible exact ih.1 _|with_reducible exact ih.2 _|with_reducible assumption|(refine Le.bind ?_ (fun _=>?_))|(refine Le.cond ?_ ?_)|(refine Le.loop (fun _=>?_))|(refine Le.elim (fun _=>?_) (fun _=>?_))),fun a0=>by show Le (KdC ((KU n).1) ((KU n).2) a0) (KdC ((KU (n+1)).1) ((KU (n+1)).2) a0);revert ih;generalize KU n=G0;generalize KU (n+1)=G1;intro ih;unfold KdC;repeat (first|with_reducible exact Le.refl _|with_reducible exact ih.1 _|with_reducible exact ih.2 _|with_reducible assumption|(refine Le.bind ?_ (fun _=>?_))|(refine Le.cond ?_ ?_)|(refine Le.loop (fun _=>?_))|(refine Le.elim (fun _=>?_) (fun _=>?_)))⟩
def Kd9 (a0:List Kj):Option (List Kj):=anyN fun n=>(KU n).1 a0
theorem Kij (a0:List Kj){r:List Kj}(n:Nat)(h:(KU n).1 a0=some r):Kd9 a0=some r:=KdY (fun m=>(Kfa m).1 a0) h
theorem Kik (a0 r)(h0:Kd9 a0=some r):CallsD Tryz.prog 45 [.lst 7 (a0.map Kh) .no,.fn (.func 46) [] []] [] [] (fun d h k=>∃ a,d=.lst 7 (r.map Kh) (.cur a)∧h=[]∧k=[(7,a)]):=
 let ⟨n,hn⟩:=Kc4 h0;(Ke9 n).1 a0 r hn
def KdH (a0:KG):Option (KG):=
 ((KcR a0.gf).bind fun a=>((KcR a0.gh).bind fun b=>((Kd9 a0.gp).bind fun c=>some (⟨a0.ga,a,b,c,a0.gb⟩:KG))))
theorem KjS (a0 r)(h0:KdH a0=some r):CallsD Tryz.prog 43 [KA a0] [] [] (fun d h k=>d=KA r∧h=[]∧k=[]):=by
 refine PZ1 h0 Tryz.func43 fun C a=>?_;refine ZH fun o=>?_;refine Zq fun j=>?_;refine YP ?_;obtain ⟨b,l,a⟩:=Ka a;refine pG (Keb a0.gf b l) Wl Pf Pf ?_;refine Ym fun e=>?_;refine pS0 (ds':=[tD a0.ga,.lst 2 (b.map Ku) (.cur e),.lst 2 (a0.gh.map Ku) .no,.lst 7 (a0.gp.map Kh) .no,iD a0.gb]) ?_;refine YP ?_;obtain ⟨c,m,a⟩:=Ka a
 refine pG (Keb a0.gh c m) Wl Pf Pf ?_;refine Ym fun g=>?_;refine pS0 (ds':=[tD a0.ga,.lst 2 (b.map Ku) (.cur e),.lst 2 (c.map Ku) (.cur g),.lst 7 (a0.gp.map Kh) .no,iD a0.gb]) ?_;refine YP ?_;obtain ⟨f,n,a⟩:=Ka a;refine pG (Kik a0.gp f n) Wl Pf Pf ?_;refine Ym fun i=>?_;refine pS0 (ds':=[tD a0.ga,.lst 2 (b.map Ku) (.cur e),.lst 2 (c.map Ku) (.cur g),.lst 7 (f.map Kh) (.cur i),iD a0.gb]) ?_;refine KH ?_
 refine Kaa (d:=.agg [tD a0.ga,.lst 2 (b.map Ku) (.cur e),.lst 2 (c.map Ku) (.cur g),.lst 7 (f.map Kh) (.cur i),iD a0.gb]) 0 htab rfl rfl rfl rfl rfl rfl rfl rfl ?_;refine pS1 (ds':=[tD a0.ga,.lst 2 (b.map Ku) (.cur e),.lst 2 (c.map Ku) (.cur g),.lst 7 (f.map Kh) (.cur i),iD a0.gb]) ?_;refine ZG ?_;obtain rfl:=Kf a;refine retX.wk (WkS.bl1 (ds':=[tD a0.ga,.lst 2 (b.map Ku) .no,.lst 2 (c.map Ku) .no,.lst 7 (f.map Kh) .no,iD a0.gb]) (rC (rO (rO (rO (rC WkR.nil)))))) ?_;refine rP (t':=[(2,.ptr j 0)]) [1] [] 0 (wC wN) (lC 0 lN) ?_
 exact Za
def Kea (a0:List KG):Option (List KG):=
 ((need (mkOK 96 (a0.length:Int) (a0.length:Int))).bind fun e=>((need (decide (a0.length=(List.replicate (a0.length:Int).toNat qZ15).length))).bind fun f=>(Option.bind (α:=List KG) (loopM (fun (a:Int×List KG)=>(bif (decide (a.1 < (a0.length:Int))) then ((idx a.2 a.1).bind fun b=>((KdH b).bind fun c=>((idx a.2 a.1).bind fun g=>some (.next ((IntKind.i64.wrap (a.1+(1:Int))),(a.2.set a.1.toNat c)))))) else some (.done a.2))) ((0:Int),a0)) fun d=>some d)))
theorem Kil (a0 r)(h0:Kea a0=some r):CallsD Tryz.prog 42 [.lst 5 (a0.map KA) .no,.fn (.func 43) [] []] [] [] (fun d h k=>∃ g,d=.lst 5 (r.map KA) (.cur g)∧h=[]∧k=[(5,g)]):=by
 refine PZ1 h0 Tryz.func42 fun C a=>?_;refine Zd ?_;refine Zo ?_;refine Yk ?_;obtain ⟨z,p,a⟩:=Ka a;refine Kky (x0:=KA qZ15) htab rfl rfl rfl rfl rfl rfl rfl rfl rfl rfl rfl rfl rfl rfl rfl (KdX p) (fun H=>by exact rz_agg (KbP rz_v rfl rfl (KbP rz_l rfl rfl (KbP rz_l rfl rfl (KbP rz_l rfl rfl (KbP rz_v rfl rfl rz_nil)))))) (List.map_replicate (f:=KA)).symm (fun v1=>?_);refine pu ?_
 refine ZV ?_;obtain ⟨A,q,a⟩:=Ka a;refine p_copyR 0 htab rfl rfl rfl rfl rfl rfl rfl rfl rfl rfl rfl (by simpa using of_decide_eq_true (KdX q)) rfl ?_;refine Ul ?_;obtain ⟨i,j,l⟩:=Ka a;refine Kaf (Y:=Unit) (fun s=>(⟨[(5,.v (SL v1))],[(0,Blk.row 5 (i.map KA) (SL v1))],[]⟩:S)) ?_ ?_
 ·clear a;have a:=KE j;refine Zy a fun B t u=>?_;refine KaO (Y:=Unit) t (fun c w=>(⟨[(1,.fn (.func 43) [] []),(5,.v (SL v1)),(14,.v (SL v1)),(15,iD (a0.length:Int)),(16,iD c.1)],[(0,Blk.row 5 (c.2.map KA) (SL v1))],[]⟩:S)) ?_ ?_
  ·skip
   exact YF
  intro G29 c w a;refine Zn ?_;refine cY a (fun a=>?_) fun a=>?_
  ·refine Z0 ?_;refine ZD a fun b m a=>?_;refine XU m ?_;refine Kfm (d:=KA b) (d0:=KA b) 0 htab rfl rfl rfl rfl rfl rfl rfl (KD m) rfl (by simp [Kah,KA]) ?_;refine Zq fun D=>?_;refine pu ?_;refine pS1 (ds':=(CZ3 b .no .no .no)) ?_;refine Kb ?_;refine ZW ?_
   refine Kaa (d:=KA b) 1 htab rfl rfl rfl rfl rfl rfl rfl rfl ?_;obtain ⟨n,x,a⟩:=Ka a;refine KfG (KjS b n x) rfl rfl rfl rfl rfl rfl rfl Wl ?_;rintro _ rfl;obtain ⟨E,o,a⟩:=Ka a;refine XU o ?_;refine KfH (d:=KA n) 0 htab rfl rfl rfl rfl rfl rfl rfl rfl rfl rfl (KgD o) (KgC (e:=KA)) ?_;refine Yf a ?_;exact YF
  refine Zs ?_;obtain rfl:=K6 a;have a:=u
  exact Y0 a
 intro F y;have a:=l;clear j l;refine Zb y fun s=>?_;refine Yz ?_;obtain rfl:=Kf a;refine Uk ?_;refine rP (t':=[(4,.lst 5 (i.map KA) (.cur (SL v1)))]) [] [0] 0 (wC wN) (lT lN) ?_;exact ⟨(SL v1),rfl,rfl,rfl⟩
def Ked (a0:KL):Option (KL):=
 ((KaL a0.gd).bind fun a=>((Kea a0.gi).bind fun b=>some (⟨a,b⟩:KL)))
theorem KhH (a0 r)(h0:Ked a0=some r):CallsD Tryz.prog 17 [Kbo a0] [] [] (fun d h k=>∃ i j,d=.agg (CZ4 r (.cur i) (.cur j))∧h=[]∧k=[(4,i),(5,j)]):=by
 refine PZ1 h0 Tryz.func17 fun C a=>?_;refine ZH fun p=>?_;refine Zq fun m=>?_;refine Zr ?_;obtain ⟨b,n,a⟩:=Ka a;refine wpD_drawsT 5 [] [(2,4)] [[],[0],[0,1],[],[3]] [0,1,2,3,4] [[],[0],[0,1],[],[3],[0,1,2,3,4],[0,1,2,3,4,5],[0,1,2,3,4,5,6]] (by kernel_rfl) (by kernel_rfl) (by kernel_rfl) (by rfl) (by rfl) (by kernel_rfl) ?_;iterate 5 apply Exists.intro
 intro bs;refine zt_e rfl rfl (Kam htab rfl) rfl rfl rfl rfl rfl rfl rfl ?_;refine zt_eM rfl rfl (KN 0 htab rfl rfl rfl rfl rfl) rfl rfl rfl rfl rfl rfl rfl ?_;refine zt_callT rfl rfl (KeX a0.gd b n) rfl rfl Wl rfl rfl rfl rfl rfl (by simp) (by decide) rfl ?_;refine zt_e rfl rfl (Kam htab rfl) rfl rfl rfl rfl rfl rfl rfl ?_;refine zt_eM rfl rfl (KN 0 htab rfl rfl rfl rfl rfl) rfl rfl rfl rfl rfl rfl rfl ?_;refine zt_nil (k':=[(4,(bs 2))]) rfl (fun e he=>by simp [isT] at he;subst he;rfl) rfl rfl (fun e he=>by simp [isAl] at he) ?_;obtain ⟨c,l⟩:∃ y,bs 2=y:=⟨_,rfl⟩;simp only [l];clear l
 obtain ⟨f,o,a⟩:=Ka a;refine pG (Kil a0.gi f o) Wl Pf Pf ?_;refine ZL fun g=>?_;refine KbC (r:=[.lst 4 (b.map Kt) (.cur c),.lst 5 (f.map KA) (.cur g)]) htab rfl rfl rfl rfl rfl rfl rfl rfl rfl ?_;refine pS1 (ds':=[.lst 4 (b.map Kt) (.cur c),.lst 5 (f.map KA) (.cur g)]) ?_;refine ZG ?_;obtain rfl:=Kf a;refine rP (t':=[(2,.ptr m 0)]) [1] [1,0] 0 (wC wN) (lC 0 lN) ?_;exact ⟨c,g,rfl,rfl,rfl⟩
end
section
open Go
abbrev RwT (z:Z3)(L kk:Nat):Value:=.slice (if z.2.2=L then z.1 else z.1.map (·.add (L*kk))) (z.2.1 - L) (z.2.2 - L)
def clrL {α:Type}(xs:List α)(L:Nat)(x0:α):List α:=xs.take L++List.replicate (xs.length - L) x0
theorem clr_map {α:Type}{f:α→D}{xs:List α}{L:Nat}{x0:α}:(xs.map f).take L++List.replicate ((xs.map f).length - L) (f x0)=(clrL xs L x0).map f:=by
 simp [clrL,List.map_take]
theorem clr_le {α:Type}{f:α→D}{xs ys:List α}{l n:Int}(q:cutL xs l n=some ys):l.toNat≤(xs.map f).length:=by
 obtain ⟨a,b,c,d,e⟩:=Kit q;rw [List.length_map];omega
theorem zero_flat {z:Array Value}{zs:List Value}(hz:z.toList=zs)(h0:0 < zs.length)(n:Nat):(Builtin.zeroCells z n).toList=(List.replicate n zs).flatten:=by
 have hsz:z.size=zs.length:=by rw [← hz,Array.length_toList]
 unfold Builtin.zeroCells;apply List.ext_getElem?;intro i;simp only [Array.toList_map,Array.toList_range,List.getElem?_map];by_cases hlt:i < n*z.size
 ·rw [List.getElem?_range hlt,repl_at n i (by rw [← hsz];exact hlt)];simp only [Option.map_some];have hml:i % z.size < z.size:=Nat.mod_lt _ (by omega);rw [← hsz,← hz,Array.getElem?_toList,getElem!_pos z _ hml,getElem?_pos z _ hml]
 rw [List.getElem?_eq_none (by simpa using hlt),List.getElem?_eq_none (by rw [Kgh hsz.symm];omega)];rfl
theorem clear_runR {P:Program}{tab:List (Option TI)}(hT:TabOK P tab){H:Hp}{w:World}{r kk L:Nat}{T e:TypeId}{ty:TypeId}{F ie:TI}{xs:List D}{x0:D}{z:Z3}
  (hA:Ag H w) (hrow:BlkOK H w (r,.row kk xs (SL z))) (M:ti tab T=some F) (O:F.d=.slice e) (hie:ti tab e=some ie) (hks:ie.size=kk) (hz:ie.zero.length=kk) (ae:1≤kk) (h1z:ie.zero.all one=true) (R:∀ H,RepC H x0 ie.zero) (hL:L≤xs.length) :
  ∃ w':World,(Builtin.clear_ #[T] ty #[RwT z L kk]).run P w=.ok (.tuple #[]) w'∧Core ⟨H,w,KP [(r,.row kk xs (SL z))] []⟩ H [(0,.row kk (xs.take L++List.replicate (xs.length - L) x0) (SL z))] [] w':=by
 subst hks;have hTe:=ti_ok hT hie;obtain ⟨d0,G,c⟩:=Kak (w:=w) (ti_ok hT M);obtain rfl:=KbY (c.trans O);obtain ⟨zv,U,V⟩:=Kcr (w:=w) hTe;have hone:∀ u∈ie.zero,one u=true:=by simpa [List.all_eq_true] using h1z
 obtain ⟨y,I,g⟩:=z;have same:xs.length - L=0→Core ⟨H,w,KP [(r,.row ie.size xs (SL (y,I,g)))] []⟩ H [(0,.row ie.size (xs.take L++List.replicate (xs.length - L) x0) (SL (y,I,g)))] [] w:=by
  intro q;rw [q,List.replicate_zero,List.append_nil,List.take_of_length_le (by omega)];refine ⟨hA,Hp.le_refl H,fun _ _ x=>.inl x,fun _ _ _=>rfl,Nat.le_refl _,?_,by simp,?_,?_,Env.refl w⟩
  ·intro p hp;simp only [List.mem_singleton] at hp;subst hp;exact hrow
  ·cases y<;>simp [KP,K0,Kau,SL];split<;>simp
  cases y<;>simp [KP,K0,Kau,SL];intro h;exact .inl h
 have stop:∀ a m,(Builtin.clear_ #[T] ty #[Value.slice a 0 m]).run P w=.ok (.tuple #[]) w:=by
  intro a m;unfold Builtin.clear_;simp only [List.getElem?_toArray,List.getElem?_cons_zero];rw [Kw G];cases a<;>rfl
 rcases hrow with ⟨a,j,W⟩|⟨b,m,us,rest,TT,j,h0,f,h1,h2,X,A⟩
 ·simp only [SL,Value.slice.injEq] at j;obtain ⟨rfl,rfl,rfl⟩:=j;refine ⟨w,?_,same (by rw [W];simp)⟩;simp only [RwT,Nat.zero_sub];exact stop _ _
 simp only [SL,Value.slice.injEq] at j;obtain ⟨rfl,rfl,rfl⟩:=j;by_cases q:xs.length - L=0
 ·refine ⟨w,?_,same q⟩;simp only [RwT,q];exact stop _ _
 obtain ⟨n,hn⟩:∃ n,xs.length - L=n+1:=⟨xs.length - L - 1,by omega⟩;have hul:=KeG h2;have hclaim:KP [(r,Blk.row ie.size xs (SL (some ⟨b,0,none⟩,xs.length,g)))] []=[b]:=by simp [KP,K0,Kau,SL,f]
 have hZ:=zero_flat V (by omega) (xs.length - L);have hZl:(List.replicate (xs.length - L) ie.zero).flatten.length=(xs.length - L)*ie.size:=Kgh hz _;have hmul:L*ie.size+(xs.length - L)*ie.size=xs.length*ie.size:=by rw [← Nat.add_mul];congr 1;omega
 obtain ⟨w',J,Y,s3,B,E⟩:=KcL (P:=P) (b:=b) (off:=L*ie.size) (T:=TT) (List.replicate (xs.length - L) ie.zero).flatten 0 w (us++rest) h1 (by rw [hZl,List.length_append];omega) (fun v hv=>by
  obtain ⟨l,hl,hv⟩:=List.mem_flatten.1 hv;rw [(List.mem_replicate.1 hl).2] at hv;exact hone v hv)
 simp only [Nat.add_zero] at E;obtain ⟨c,s,rfl,K,Z⟩:=Kjd L h2;have aa:c.length=L*ie.size:=by rw [KeG K,List.length_take];congr 1;omega
 have ac:s.length=(xs.length - L)*ie.size:=by rw [KeG Z,List.length_drop]
 have ecells:(c++s++rest).take (L*ie.size)++((List.replicate (xs.length - L) ie.zero).flatten++(c++s++rest).drop (L*ie.size+(List.replicate (xs.length - L) ie.zero).flatten.length))=(c++(List.replicate (xs.length - L) ie.zero).flatten)++rest:=by
  rw [hZl,← ac,← aa,List.append_assoc c s rest,List.take_left,← List.append_assoc c s rest,← List.length_append,List.drop_left,List.append_assoc]
 rw [ecells] at E;refine ⟨w',?_,?_⟩
 ·have hne:g ≠ L:=by omega
  simp only [RwT,if_neg hne,Option.map_some,KcT,hn];unfold Builtin.clear_;simp only [List.getElem?_toArray,List.getElem?_cons_zero];rw [Kw G];simp only [Nat.zero_add];rw [hn] at hZ J;simp only [Kcz,U,KcG,hZ,J]
 rw [hclaim];refine ⟨⟨fun a v0 ea=>?_,hA.gg.own A B⟩,Hp.le_refl H,fun _ _ x=>.inl x,fun i _ f=>B i (by simpa using f),by show w.heap.size≤w'.heap.size;omega,?_,by simp,?_,?_,Y⟩
 ·have hcell:=hA a v0 ea;by_cases qb:a.block=b
  ·obtain ⟨ab,ao,aq⟩:=a;simp only at qb;subst qb;cases aq with
   | some sp=>simp [World.cell?,h1] at hcell
   | none=>rw [A ao] at ea;cases ea
  simp only [World.cell?] at hcell ⊢;rw [B _ qb];exact hcell
 ·intro p hp;simp only [List.mem_singleton] at hp;subst hp;refine .inr ⟨b,g,c++(List.replicate (xs.length - L) ie.zero).flatten,rest,TT,by simp [SL];omega,by simp;omega,f,E,KgO K (Kkx hz (R H) hone _),?_,A⟩;simp only [List.length_append] at X ⊢;omega
 ·simp [KP,K0,Kau,SL,f]
 intro b' hb';simp [KP,K0,Kau,SL,f] at hb' ⊢;first|exact .inl hb'|simpa using hb'
section
variable {P : Program} {C : Ctx} {N : Nat} {ops rest : List Oper} {o : Oper} {t : List (Nat × D)} {h : List (Nat × Blk)} {k : List (Nat × Value)} {Q : Exit → S → Prop} {tab : List (Option TI)}
theorem ops_val0 {s:S}(hw:wantD ops s.t o=some true)(hd:o.dst=none)
  (h:∀ H a w,Core C H s.h s.k w→TOK H s.t a→∃ v w' H' h' k',(execOp a.eval o).run P w=.ok (.value v) w'∧H.le H'∧Core C H' h' k' w'∧opsD P C N ops rest ⟨s.t,h',k'⟩ Q) :
  opsD P C N ops (o::rest) s Q:=by
 rintro a w ⟨H,c,k,hN,hdf⟩;unfold wpList;rw [Ka2 k hw,if_pos rfl];obtain ⟨v,w',H',h',k',hr,hle,c',hrest⟩:=h H a w c k;refine .inl ?_;unfold Oper.wp;rw [hr,Oper.upon_value,hd];exact hrest _ _ ⟨H',c',k.mono hle,hN,hdf⟩
theorem p_clearR {r kk L:Nat}{T e:TypeId}{x:Operand}{xs zs:List D}{x0:D}{z:Z3}{b ie:TI}(j:Nat)(hT:TabOK P tab)(ho:o.op=.call ⟨.builtin .clear,[x].toArray,#[T]⟩)(hw:wantD ops t o=some true)(hd:o.dst=none)
  (hx:opD t x=some (.v (RwT z L kk))) (hj:h[j]? = some (r,.row kk xs (SL z)))
  (c:ti tab T=some b) (f:b.d=.slice e) (hie:ti tab e=some ie) (hks:ie.size=kk) (hz:ie.zero.length=kk) (i:Nat.ble 1 kk=true) (h1z:ie.zero.all one=true) (l:∀ H,RepC H x0 ie.zero) (hL:L≤xs.length) (em:xs.take L++List.replicate (xs.length - L) x0=zs)
  (g:opsD P C N ops rest ⟨t,h.set j (0,.row kk zs (SL z)),k⟩ Q):opsD P C N ops (o::rest) ⟨t,h,k⟩ Q:=by
 subst em;refine ops_val0 (s:=⟨t,h,k⟩) hw hd fun H a w core kt=>?_
 have c1:Core C H ([(r,.row kk xs (SL z))]++h.eraseIdx j) ([]++k) w:=core.perm (KZ hj) (List.Perm.refl _);have hbl:=core.blks _ (List.mem_of_getElem? hj);obtain ⟨w',h1,h2⟩:=clear_runR (P:=P) (ty:=o.type) hT core.ag hbl c f hie hks hz (Nat.le_of_ble_eq_true i) h1z l hL;have c2:=Core.call c1 h2;refine ⟨.tuple #[],w',H,_,k,Kb9 (s:=Builtin.clear_) ho (fun _ _=>rfl) ?_,Hp.le_refl H,c2.perm (KfF hj) (List.Perm.refl _),g⟩;have e:=KW (Kae kt hx);simpa [e] using h1
theorem p_tailR {α:Type}{y:α→D}{i kk r:Nat}{T e:TypeId}{x:Operand}{lo:Option Operand}{l':Option Int}{xs ys:List α}{l n:Int}{z:Z3}{f tie:TI}(j:Nat)(q:cutL xs l n=some ys)(hT:TabOK P tab)(ho:o.op=.slice T x lo none none)(hw:wantD ops t o=some true)(hd:o.dst=some i)(A:Nat.blt i N=true)
  (hx:opD t x=some (.v (SL z))) (hj:h[j]? = some (r,.row kk (xs.map y) (SL z))) (B:optI t lo=some l') (hti:ti tab T=some f) (hs:f.d=.slice e) (hte:ti tab e=some tie) (hk:tie.size=kk) (h1:l'.getD 0=l) (h2:(xs.length:Int)=n)
  (g:opsD P C N ops rest ⟨(i,.v (RwT z l.toNat kk))::t,h,k⟩ Q):opsD P C N ops (o::rest) ⟨t,h,k⟩ Q:=by
 obtain ⟨O,E,R,U,V⟩:=Kit q;generalize hl:l.toNat=L at *;generalize hn:n.toNat=M at *;subst E;have hM:M=xs.length:=by omega
 refine Kb4 (s:=⟨t,h,k⟩) hw hd A fun H a w c kt=>?_
 obtain ⟨d,p,F⟩:=Kak (w:=w) (ti_ok hT hti);have:=KbY (F.trans hs);subst this;have hb:=c.blks _ (List.mem_of_getElem? hj);have hxv:=KW (Kae kt hx);have key:∀ ad m,SL z=.slice ad xs.length m→xs.length≤m→(execOp a.eval o).run P w=.ok (.value (.slice (if m=L then ad else ad.map (·.add (L*kk))) (xs.length - L) (m - L))) w:=by
  intro ad m hy G;unfold execOp;rw [ho];refine Kbb ?_;rw [hxv,hy];unfold Instr.sliceAt;rw [Kw p];simp only [Instr.slice];rw [Kw p];have:=Ki4 (P:=P) (w:=w) kt (isS:=true) (cap:=m) (mx:=none) (m':=none) (m:=m) (hi:=none) B rfl rfl h1 (by simp only [Option.getD_none];rfl) rfl (fun x=>absurd rfl x) (show L≤xs.length by omega) (by omega) (Nat.le_refl _);simp only [Option.map_none] at this ⊢;simp only [Kcz,KcG,this,Kby (ti_ok hT hte),hk]
 obtain ⟨I,J,u⟩:=z;have fin:J=xs.length∧xs.length≤u:=by
  rcases hb with ⟨a0,hy,hnil⟩|⟨b,m,us,rs,T',hy,h0,G,_⟩
  ·have hxs:xs=[]:=by simpa using hnil
   simp only [SL,Value.slice.injEq] at hy;obtain ⟨_,rfl,rfl⟩:=hy;simp [hxs]
  simp only [SL,Value.slice.injEq,List.length_map] at hy h0;obtain ⟨_,rfl,rfl⟩:=hy;exact ⟨rfl,h0⟩
 obtain ⟨rfl,K⟩:=fin;exact ⟨_,_,H,_,_,_,key I u rfl K,Hp.le_refl H,c,rep_v rfl,g⟩
theorem o_lenZ {r kk:Nat}{xs:List D}{z:Z3}(j:Nat)(hj:h[j]? = some (r,.row kk xs (SL z)))(g:z.2.1=xs.length→opsD P C N ops rest ⟨t,h,k⟩ Q):opsD P C N ops rest ⟨t,h,k⟩ Q:=fun a w ⟨H,c,kt,hn,hd⟩=>by
 obtain ⟨ad,m,hy⟩:=row_len (c.blks _ (List.mem_of_getElem? hj));refine g ?_ a w ⟨H,c,kt,hn,hd⟩;obtain ⟨b,d,e⟩:=z;simp only [SL,Value.slice.injEq] at hy;exact hy.2.1
theorem p_lenZ {i:Nat}{T e:TypeId}{x:Operand}{z:Z3}{n0:Nat}{b:TI}(hz:z.2.1=n0)(hT:TabOK P tab)(ho:o.op=.call ⟨.builtin .len,[x].toArray,#[T]⟩)(hw:wantD ops t o=some true)(hd:o.dst=some i)(hi:Nat.blt i N=true)
  (hx:opD t x=some (.v (SL z))) (hti:ti tab T=some b) (hs:b.d=.slice e) {n:Nat} (hn:n0=n) (g:opsD P C N ops rest ⟨(i,.v (.int .i64 n))::t,h,k⟩ Q):opsD P C N ops (o::rest) ⟨t,h,k⟩ Q:=
 Kb4 (s:=⟨t,h,k⟩) hw hd hi fun H a w core kt=>by
  refine ⟨.int .i64 n,w,H,.v (.int .i64 n),h,k,Kb9 (s:=Builtin.len_) ho (fun _ _=>rfl) ?_,Hp.le_refl H,core,rep_v rfl,g⟩;have e:=KW (Kae kt hx);obtain ⟨c,f,j⟩:=z;simp only at hz;subst hz;subst hn;simp only [List.map_cons,List.map_nil,e];exact Kg1 (ti_ok hT hti) hs
end
end
end Go.Proofs.YtbbeiinofainlaaGreatDoor.Ab
end
