/- The texts that storeEditsCard_holds leans on, part 4. -/
import Derived.Test.YticifeeokcgfkaaGreatDoorWx3
set_option linter.all false
set_option maxRecDepth 100000
set_option maxHeartbeats 80000000
noncomputable section
open Array renaming length_toList→b9
open Bool renaming false_eq_true→cP,not_false→a3,not_true→bI,true_and→eS
open ByteArray renaming empty→ε,mk→ν
open Exists renaming intro→Θ
open Go renaming Exit→dH,IntKind→fP,Oper→bG,Operand→aH,Program→aJ,ResultVar→dM,TypeId→aD,Value→ω,World→aL,execOp→bL
open Go.IntKind renaming i32→eT,i64→ζ,u64→bB,u8→dU,wrap_i64→b1
open Go.Value renaming cells→cT
open Int renaming toNat_natCast→cL
open List renaming append_assoc→aS,append_nil→aN,cons_append→bK,eq_nil_of_length_eq_zero→fd,flatMap_cons→cA,getD_eq_getElem?_getD→fx,getElem?_eq_getElem→bF,getElem?_eq_none→jq,getElem?_eq_some_iff→aP,length_append→υ,length_cons→Ψ,length_map→b6,length_nil→aB,length_singleton→aW,map_cons→a7,mem_append→dC,mem_cons→cX,mem_singleton→aT,nil_append→a8,replicate→aV,takeWhile_cons→wE
open List.Perm renaming cons→χ
open List.Sublist renaming refl→bT
open Nat renaming add_zero→gY,beq→bM,ble→cK,blt→aZ,eq_zero_or_pos→lh,le_refl→Φ,le_trans→eJ,zero_le→fM
open Option renaming bind→κ,bind_some→δ,map_none→oE,map_some→dQ
open Option.some renaming injEq→aA
open Or renaming inl→fi,inr→fh
open Prod renaming snd→RI
open Sum renaming elim→Ω,elim_inl→Γ,elim_inr→ς,inl→c5,inr→bZ
open Sum.inl renaming injEq→bX
open Sum.inr renaming injEq→fD
open UInt8 renaming ofNat→il
namespace Go.Proofs.YticifeeokcgfkaaGreatDoor.Ab
section
open Go
set_option maxRecDepth 100000
def F3 (b:Kal)(a:η):Option (Int×Unit×Kal):=
 (app 1 b.gz a.data.toList).bind fun c=>some ((a.size:Int),(),(⟨c⟩:Kal))
def NU (b c a f r)(l:F3 b c=some r):Cd 24 [.ptr a 0,tD c] [(a,Blk.cells [.slf a,.v (SL f)] 65),(0,Blk.opq (c8 5 b.gz f))] [] (fun d h k=>∃ i,d=.tup [iD r.1,.v .nilIface]∧h=[(a,Blk.cells [.slf a,.v (SL i)] 65),(0,Blk.opq (c8 5 r.2.2.gz i))]∧k=[]):=by
 refine cQ l Tryz.func24 fun C g=>?_;refine ZR ?_;refine Zf ?_;refine pG (vM b a f) Wl Pf Pf ?_;refine ZP ?_;refine KE ?_;iterate 4 refine pu ?_
 refine Yi ?_;obtain ⟨m,j,g⟩:=Ka g;refine uE 1 htab rfl rfl rfl rfl rfl rfl rfl rfl rfl rfl rfl rfl rfl rfl rfl rfl (by simpa using tg (e:=dW) j) (v5 j) fun v1=>?_;refine Zg ?_;refine eG (ds':=[.slf a,.v (SL v1)]) ?_;refine Zf ?_;refine XO ?_;refine YE ?_;obtain rfl:=Ke g;refine rP (t':=[(4,iD (c.size:Int)),(5,.v .nilIface)]) [0,0] [] 2 aU bU ?_;exact ⟨v1,rfl,rfl,rfl⟩
def FT (c:KaJ):Option (η):=
 κ (α:=List aC) (aE (fun (a:Int×List aC)=>bif decide (a.1<c.gP.gc.length) then (idx c.gP.gc a.1).bind fun e=>(HT e).bind fun f=>(F3 (⟨a.2⟩:Kal) f).bind fun g=>some (.next ((ζ.wrap (a.1+1)),g.2.2.gz)) else some (.done a.2)) (0,([]:List aC))) fun h=>κ (α:=List aC) (aE (fun (b:Int×List aC)=>bif decide (b.1<c.gP.gf.length) then (idx c.gP.gf b.1).bind fun i=>(HA i).bind fun j=>(F3 (⟨b.2⟩:Kal) j).bind fun k=>some (.next ((ζ.wrap (b.1+1)),k.2.2.gz)) else some (.done b.2)) (0,h)) fun d=>(need (qj (⟨d⟩:Kal))).bind fun l=>some (xu (⟨d⟩:Kal)).1
def Qr (c e h f g r)(t:FT c=some r):Cd 11 [.ptr e 0] [(e,Blk.cells (dD c.gP f g) h)] [] (eN (tD r) e (dD c.gP f g) h):=by
 refine cQ t Tryz.func11 fun C a=>?_;refine ZQ ?_;refine X9 ?_;refine Kd (uG htab rfl rfl rfl rfl rfl rfl rfl (fun b=>?_));refine uS 1 rfl (ds':=[.slf b,.v (.slice none 0 0)]) aU rfl (uR (off:=1) 5 1 rfl rfl (Kc (Kj (Yl ?_))));refine pL 1 ?_;refine ZL ?_;obtain ⟨u,w,x⟩:=Ka a;refine KS (Y:=Z3) (fun o=>⟨[(0,.ptr e 0),(3,.ptr b 0)],[(0,Blk.opq (c8 5 u o)),(e,Blk.cells (dD c.gP f g) h),(b,Blk.cells [.slf b,.v (SL o)] 65)],[]⟩) ?_ ?_;refine Zk w fun U y z=>?_;refine d7 (Y:=Z3) y (fun i k=>⟨[(0,.ptr e 0),(3,.ptr b 0),(14,.lst 4 (c.gP.gc.map Kq) f),(15,iD (c.gP.gc.length:Int)),(16,iD i.1)],[(0,Blk.opq (c8 5 i.2 k)),(e,Blk.cells (dD c.gP f g) h),(b,Blk.cells [.slf b,.v (SL k)] 65)],[]⟩) ?_ ?_;exact WkX.of (none,0,0) (wP aU);intro G32 i k a;refine Zz ?_;refine cY a ?_ ?_<;>intro a;refine Yz a fun p V a=>?_;refine Wx ?_;refine Zj fun W=>?_;refine ib (ds':=(iF p)) ?_;refine Kc (Kt (pL (d:=Kq p) 3 ?_));refine bN a (P0 p) fun A a=>?_;obtain ⟨B,F,a⟩:=Ka a;refine pG (NU (⟨i.2⟩:Kal) A b k B F) Wl ((KO (j:=2) rfl).trans (χ _ ((KO (j:=0) rfl).trans (χ _ Pf)))) Pf ?_;refine ZJ fun G=>?_;refine Kw (XP a ?_);exact WkX.of G (WkS.perm aU ((KO (j:=1) rfl).trans (χ _ ((KO (j:=1) rfl).trans (χ _ ((KO (j:=0) rfl).trans (χ _ Pf)))))) Pf);exact Yf a z;intro X H;refine Zb H fun o=>?_;refine Kj (Yl ?_);refine pL 1 ?_;refine ZL ?_;obtain ⟨q,I,J⟩:=Ka x;refine KS (Y:=Z3) (fun l=>⟨[(3,.ptr b 0)],[(0,Blk.opq (c8 5 q l)),(e,Blk.cells (dD c.gP f g) h),(b,Blk.cells [.slf b,.v (SL l)] 65)],[]⟩) ?_ ?_;refine Zk I fun Z K L=>?_;refine d7 (Y:=Z3) K (fun m n=>⟨[(3,.ptr b 0),(28,.lst 5 (c.gP.gf.map Kv) g),(29,iD (c.gP.gf.length:Int)),(30,iD m.1)],[(0,Blk.opq (c8 5 m.2 n)),(e,Blk.cells (dD c.gP f g) h),(b,Blk.cells [.slf b,.v (SL n)] 65)],[]⟩) ?_ ?_;exact ZG;intro G90 m n a;refine Zz ?_;refine cY a ?_ ?_<;>intro a;refine Yz a fun s aa a=>?_;refine WA ?_;refine Zj fun ac=>?_;refine ib (ds':=(eE s .no .no .no)) ?_;refine Kc (Kt (pL (d:=Kv s) 3 ?_));refine bN a (OR s) fun M a=>?_;obtain ⟨N,O,a⟩:=Ka a;refine pG (NU (⟨m.2⟩:Kal) M b n N O) Wl ((KO (j:=2) rfl).trans (χ _ ((KO (j:=0) rfl).trans (χ _ Pf)))) Pf ?_;refine ZJ fun P=>?_;refine Kw (XP a ?_);exact WkX.of P (WkS.perm aU ((KO (j:=1) rfl).trans (χ _ ((KO (j:=1) rfl).trans (χ _ ((KO (j:=0) rfl).trans (χ _ Pf)))))) Pf);exact Yf a L;intro ad Q;refine Zb Q fun l=>?_;refine Kd ?_;obtain ⟨ae,R,a⟩:=Ka J;refine pG (tV (⟨q⟩:Kal) b l (ro R)) Wl ((KO (j:=2) rfl).trans (χ _ ((KO (j:=0) rfl).trans (χ _ Pf)))) Pf ?_;refine ZP ?_;refine Zi ?_;obtain rfl:=Ke a;exact rP (t':=[(2,tD ((xu (⟨q⟩:Kal)).1))]) [1] [] 1 aU bU Za
end
section
open Go
set_option maxRecDepth 100000
def Al (a0:Int):Option (Bool):=
 bif decide (97≤a0) then bif decide (a0≤122) then some true else (bif decide (65≤a0) then bif decide (a0≤90) then some true else some (a0==95) else some (a0==95)) else bif decide (65≤a0) then bif decide (a0≤90) then some true else some (a0==95) else some (a0==95)
def Uu {A0 G:Prop}(a0:A0)(k:A0→G:=by intro _a;refine YG ?_;refine ZU ?_;refine Zi ?_;obtain rfl:=Ke _a;refine rP (t':=[(2,.v (.bool true))]) [] [] 0 aU bU ?_;exact Za):G:=k a0
def JJ (a0 r)(b:Al a0=some r):Cd 102 [.v (.int .u8 a0)] [] [] (dJ (.v (.bool r))):=by
 refine cQ b Tryz.func102 fun C a=>?_;refine Ze ?_;refine ZZ ?_;refine g6 (i:=5) a ?_ ?_<;>intro a;refine Zg ?_;refine YF ?_;refine g6 (i:=9) a ?_ ?_<;>intro a;iterate 6 refine pK ?_
 refine YF ?_;exact Uu a;iterate 3 refine pu ?_
 refine g6 (i:=12) a ?_ ?_<;>intro a;refine Zg ?_;refine ZU ?_;refine Z2 ?_;refine g6 (i:=17) a ?_ ?_<;>intro a;exact Uu a;refine Zg ?_;refine Z0 ?_;refine Zi ?_;obtain rfl:=Ke a;exact rP (t':=[(2,.v (.bool (a0==95)))]) [] [] 0 aU bU Za;refine Xr ?_;refine Z0 ?_;iterate 3 refine pu ?_
 refine Z0 ?_;refine Zi ?_;obtain rfl:=Ke a;exact rP (t':=[(2,.v (.bool (a0==95)))]) [] [] 0 aU bU Za;refine Xr ?_;iterate 4 refine pu ?_
 refine g6 (i:=12) a ?_ ?_<;>intro a;refine Zg ?_;refine ZU ?_;refine Z2 ?_;refine g6 (i:=17) a ?_ ?_<;>intro a;exact Uu a;refine Zg ?_;refine Z0 ?_;refine Zi ?_;obtain rfl:=Ke a;exact rP (t':=[(2,.v (.bool (a0==95)))]) [] [] 0 aU bU Za;refine Xr ?_;refine Z0 ?_;iterate 3 refine pu ?_
 refine Z0 ?_;refine Zi ?_;obtain rfl:=Ke a;exact rP (t':=[(2,.v (.bool (a0==95)))]) [] [] 0 aU bU Za
def Dp (a0:Int):Option (Bool):=
 bif decide (48≤a0) then some (decide (a0≤57)) else some false
def MW (a0 r)(b:Dp a0=some r):Cd 103 [.v (.int .u8 a0)] [] [] (dJ (.v (.bool r))):=by
 refine cQ b Tryz.func103 fun C a=>?_;refine Ze ?_;refine ZZ ?_;refine g6 (i:=5) a ?_ ?_<;>intro a;refine Zg ?_;refine ZU ?_;refine Zi ?_;obtain rfl:=Ke a;exact rP (t':=[(2,.v (.bool (decide (a0≤57))))]) [] [] 0 aU bU Za;refine Xr ?_;refine Zi ?_;obtain rfl:=Ke a;exact rP (t':=[(2,.v (.bool false))]) [] [] 0 aU bU Za
def l7 (a0:List η)(b:η):Option (Bool):=
 κ (α:=(Unit)⊕(Bool)) (aE (fun (a:Int)=>bif decide (a<a0.length) then (idx a0 a).bind fun c=>bif decide (c=b) then some (.done (.inr true)) else some (.next (ζ.wrap (a+1))) else some (.done (.inl ()))) 0) (Ω (fun d=>some false) (fun r=>some r))
def rV (a0 c r)(f:l7 a0 c=some r):Cd 133 [iM a0,tD c] [] [] (dJ (.v (.bool r))):=by
 refine cQ f Tryz.func133 fun C a=>?_;refine ZQ ?_;refine ZI a fun g h b=>?_;refine fI (τ:=Unit) (Y:=Unit) (fun i j=>⟨[],[],[]⟩) g ?_ ?_;refine Zk h fun o k d=>?_;refine d7 (Y:=Unit) k (fun e l=>⟨[(0,iM a0),(1,tD c),(5,iD e)],[],[]⟩) ?_ ?_;exact Zn;intro G15 e l a;refine YT ?_;refine cY a ?_ ?_<;>intro a;refine Y1 ?_;refine Zq a fun p q a=>?_;refine Yh ?_;refine Z7 ?_;refine cY a ?_ ?_<;>intro a;refine Yq ?_;obtain rfl:=KU a;refine Zt ?_;obtain rfl:=Ke d;refine fH ?_;simp only [ς] at b;refine Ks ?_;obtain rfl:=Ke b;exact rP (t':=[(4,.v (.bool true))]) [] [] 0 aU bU Za;exact Ym a;exact YA a d;intro i s m n;subst m;simp only [Γ] at b;refine Zb n fun j=>?_;refine Kd (Zi ?_);obtain rfl:=Ke b;exact rP (t':=[(4,.v (.bool false))]) [] [] 0 aU bU Za
def Hq (a0:η):Option (Bool):=
 (l7 ([k4,kI,kZ,ke,iG,jf,k5,k3]:List η) a0).bind fun a=>some a
def OC (a0 r)(b:Hq a0=some r):Cd 104 [tD a0] [] [] (dJ (.v (.bool r))):=by
 refine cQ b Tryz.func104 fun C a=>?_;refine Ze ?_;refine KE (Zo ?_);refine bA (i:=3) (d':=cG [k4,kI,kZ,ke,iG,jf,k5,k3]) rfl aU (pu ?_);refine bN a (rV ([k4,kI,kZ,ke,iG,jf,k5,k3]:List η) a0) fun c a=>?_;exact Uo a
def Fz (a0:η):Option (Int×Int):=
 κ (α:=Bool) ((oh a0 0).bind fun c=>bif (c.toNat:Int)==48 then some (decide (1<(a0.size:Int))) else some false) fun d=>bif d then some (0,3) else κ (α:=(Int)⊕(Int×Int)) (aE (fun (a:Int×Int)=>bif decide (a.2<(a0.size:Int)) then bif decide (19<(a0.size:Int)) then some (.done (.inr (0,4))) else ((oh a0 a.2).bind fun e=>some (.next ((bB.wrap ((bB.wrap (a.1*10))+(bB.wrap (dU.wrap ((e.toNat:Int)-48))))),(ζ.wrap (a.2+1))))) else some (.done (.inl a.1))) (0,0)) (Ω (fun b=>bif decide (9223372036854775807<b) then some (0,4) else some ((ζ.wrap b),0)) (fun r=>some r))
def XY {A0 R G:Prop}(a0:A0)(h:R)(k:A0→R→G:=by intro _a h;refine Ro htab rfl rfl rfl rfl rfl rfl rfl rfl (Rz _a) (Rn _a) ?_;exact h):G:=k a0 h
def OM (a0 r)(f:Fz a0=some r):Cd 105 [tD a0] [] [] (dJ (.tup [iD r.1,iD r.2])):=by
 refine cQ f Tryz.func105 fun C a=>?_;refine Zh ?_;refine ZC a fun g j l=>?_;refine KS (Y:=Unit) (fun m=>⟨[(0,tD a0),(13,.v (.bool g))],[],[]⟩) ?_ ?_;refine Zs ?_;obtain ⟨z,n,a⟩:=Ka (Kx j);refine XY n ?_;refine Zg ?_;refine g6 (i:=9) a ?_ ?_<;>intro a;refine pu ?_;refine XO ?_;refine pu ?_;exact ZA a;exact Y4 a;intro A o;refine Zb o fun m=>?_;refine cY l ?_ ?_<;>intro a;refine Ze ?_;refine ZS ?_;obtain rfl:=Ke a;exact rP (t':=[(2,iD 0),(3,iD 3)]) [] [] 0 aU bU Za;refine Zm ?_;refine ZQ ?_;refine ZI a fun p q b=>?_;refine fI (τ:=Int) (Y:=Unit) (fun c s=>⟨[(4,.v (.int .u64 c))],[],[]⟩) p ?_ ?_;refine Zk q fun B t e=>?_;refine d7 (Y:=Unit) t (fun d u=>⟨[(0,tD a0),(4,.v (.int .u64 d.1)),(5,iD d.2)],[],[]⟩) ?_ ?_;exact Zn;intro G24 d u a;refine Zx ?_;refine pu ?_;refine XO ?_;refine Zd ?_;refine cY a ?_ ?_<;>intro a;refine ZE ?_;refine Zx ?_;refine XO ?_;refine Zd ?_;refine cY a ?_ ?_<;>intro a;refine Ze ?_;refine ZS ?_;refine YN ?_;obtain rfl:=KU a;refine Zt ?_;obtain rfl:=Ke e;refine fH ?_;simp only [ς] at b;refine Ks ?_;obtain rfl:=Ke b;exact rP (t':=[(2,iD 0),(3,iD 4)]) [] [] 0 aU bU Za;refine Zm ?_;refine Kt ?_;iterate 4 refine pu ?_
 obtain ⟨F,w,a⟩:=Ka a;refine XY w ?_;iterate 4 refine pu ?_
 refine Kw (XE a ?_);exact Zn;exact YI a e;intro c H x y;subst x;simp only [Γ] at b;refine Zb y fun s=>?_;refine ZM ?_;refine cY b ?_ ?_<;>intro a;refine Ze ?_;refine ZS ?_;obtain rfl:=Ke a;exact rP (t':=[(2,iD 0),(3,iD 4)]) [] [] 0 aU bU Za;refine Zm ?_;refine Yl ?_;refine Zr ?_;obtain rfl:=Ke a;exact rP (t':=[(2,iD (ζ.wrap c)),(3,iD 0)]) [] [] 0 aU bU Za
abbrev qZ2:List η:=[(ν #[61,61]),(ν #[33,61]),(ν #[60,61]),(ν #[38,38]),(ν #[124,124]),(ν #[40]),(ν #[41]),(ν #[123]),(ν #[125]),(ν #[91]),(ν #[93]),(ν #[59]),(ν #[44]),(ν #[61]),(ν #[60]),(ν #[43]),(ν #[45]),(ν #[42]),(ν #[47]),(ν #[37]),(ν #[33]),(ν #[38])]
def BW (a0:η)(d:Bool):Option (KJ×Int):=
 κ (α:=Int) (aE (fun (a:Int)=>bif decide (a<(a0.size:Int)) then (oh a0 a).bind fun h=>(Al (h.toNat:Int)).bind fun i=>bif i then some (.next (ζ.wrap (a+1))) else ((oh a0 a).bind fun j=>(Dp (j.toNat:Int)).bind fun k=>bif k then some (.next (ζ.wrap (a+1))) else some (.done a)) else some (.done a)) 0) fun b=>(oh a0 0).bind fun l=>(Al (l.toNat:Int)).bind fun m=>bif m then κ (α:=Bool) (bif decide (20<b) then some true else some d) fun n=>bif n then some (kf,6) else ((i7 a0 0 b).bind fun o=>(Hq o).bind fun p=>bif p then (i7 a0 0 b).bind fun q=>some ((⟨3,q,0,0⟩:KJ),0) else (i7 a0 0 b).bind fun s=>some ((⟨1,s,0,0⟩:KJ),0)) else (oh a0 0).bind fun t=>(Dp (t.toNat:Int)).bind fun u=>bif u then bif d then some (kf,6) else (κ (α:=(Unit)⊕(KJ×Int)) (aE (fun (e:Int)=>bif decide (e<b) then (oh a0 e).bind fun v=>(Al (v.toNat:Int)).bind fun w=>bif w then some (.done (.inr (kf,3))) else some (.next (ζ.wrap (e+1))) else some (.done (.inl ()))) 0) (Ω (fun F=>(i7 a0 0 b).bind fun x=>(Fz x).bind fun f=>bif f.2 != 0 then some (kf,f.2) else (i7 a0 0 b).bind fun y=>some ((⟨2,y,f.1,0⟩:KJ),0)) (fun r=>some r))) else κ (α:=(Unit)⊕(KJ×Int)) (aE (fun (c:Int)=>bif decide (c<qZ2.length) then (idx qZ2 c).bind fun g=>κ (α:=Bool) (bif decide ((g.size:Int)≤(a0.size:Int)) then (i7 a0 0 (g.size:Int)).bind fun z=>(idx qZ2 c).bind fun A=>some (decide (z=A)) else some false) fun B=>bif B then bif d then some (.done (.inr (kf,6))) else ((idx qZ2 c).bind fun C=>some (.done (.inr ((⟨3,C,0,0⟩:KJ),0)))) else some (.next (ζ.wrap (c+1))) else some (.done (.inl ()))) 0) (Ω (fun G=>some (kf,3)) (fun r=>some r))
def Ub {A0 G:Prop}(a0:A0)(k:A0→G:=by intro _a;obtain rfl:=Ke _a;refine rP (t':=[(4,.ptr _ 0),(5,iD 0)]) [0] [] 0 aU bU ?_;exact Za):G:=k a0
def Wv {A0 R G:Prop}(a0:A0)(h:R)(k:A0→R→G:=by intro _a h;refine Q6 _a htab rfl rfl rfl rfl rfl rfl rfl rfl rfl rfl rfl ?_;exact h):G:=k a0 h
def Uv {A0 G:Prop}(a0:A0)(k:A0→G:=by intro _a;refine Ks ?_;obtain rfl:=Ke _a;refine rP (t':=[(4,.ptr _ 0),(5,iD 6)]) [0] [] 0 aU bU ?_;exact Za):G:=k a0
def pp (a0 c r)(B:BW a0 c=some r):Cd 71 [tD a0,.v (.bool c)] [] [] (dJ (.tup [Ki r.1,iD r.2])):=by
 refine cQ B Tryz.func71 fun C a=>?_;refine Z5 fun b=>?_;refine pu ?_;refine Yk ?_;refine Zl a fun f F H=>?_;refine KS (Y:=Unit) (fun I=>⟨[(0,tD a0),(1,.v (.bool c)),(4,.ptr b 0),(6,iD f)],[(b,Blk.cells km 127)],[]⟩) ?_ ?_;refine Zk F fun bl J p=>?_;refine d7 (Y:=Unit) J (fun q K=>⟨[(0,tD a0),(1,.v (.bool c)),(4,.ptr b 0),(6,iD q)],[(b,Blk.cells km 127)],[]⟩) ?_ ?_;exact Zn;intro G27 q K a;refine Zx ?_;refine pu ?_;refine XO ?_;refine Zg ?_;refine g6 (i:=17) a ?_ ?_<;>intro a;refine Zg ?_;obtain ⟨L,M,a⟩:=Ka a;refine XY M ?_;refine bN a (JJ (L.toNat:Int)) fun bm a=>?_;refine pu ?_;refine g6 (i:=22) a ?_ ?_<;>intro a;iterate 4 refine pK ?_
 refine ZU ?_;refine ZU ?_;refine Kc (II rfl (YV ?_));refine Zw ?_;refine Y9 a ?_;exact Zn;refine Zg ?_;obtain ⟨N,O,a⟩:=Ka a;refine XY O ?_;refine bN a (MW (N.toNat:Int)) fun bn a=>?_;refine Z0 ?_;refine ZU ?_;refine Kc ?_;refine cY a ?_ ?_<;>intro a;refine YV ?_;refine Zw ?_;refine Y9 a ?_;exact Zn;exact Yg a p;iterate 10 refine pK ?_
 refine Z0 ?_;exact Kc (FV rfl (Yg a p));intro bo P;refine Zb P fun I=>?_;refine Zx ?_;obtain ⟨Q,U,a⟩:=Ka H;refine XY U ?_;refine bN a (JJ (Q.toNat:Int)) fun bp a=>?_;refine Kc ?_;refine cY a ?_ ?_<;>intro a;refine ZC a fun V s W=>?_;refine KS (Y:=Unit) (fun X=>⟨[(0,tD a0),(4,.ptr b 0),(6,iD f),(38,.v (.bool V))],[(b,Blk.cells km 127)],[]⟩) ?_ ?_;refine Zw ?_;refine gW (i:=36) rfl (fun l=>?_) fun l=>?_;have a:=cD l (Kx s);refine pK ?_;exact ZA a;have a:=cE l (Kx s);refine pu ?_;exact ZF a;intro bq Z;refine Zb Z fun X=>?_;refine cY W ?_ ?_<;>intro a;refine XI ?_;refine eG (ds':=km) ?_;refine ZS ?_;exact Uv a;refine Zm ?_;refine Zx ?_;refine pu ?_;obtain ⟨aa,ac,a⟩:=Ka a;refine Wv ac ?_;refine bN a (OC aa) fun br a=>?_;refine Kc ?_;refine cY a ?_ ?_<;>intro a;refine ZR ?_;obtain ⟨t,ad,a⟩:=Ka a;refine Wv ad ?_;refine h7 (r:=[iD 3,tD t,iD 0,iD 0]) htab rfl rfl rfl rfl rfl rfl rfl rfl rfl (eG (ds':=[iD 3,tD t,iD 0,iD 0]) ?_);refine ZS ?_;exact Ks (Ub a);refine YW ?_;obtain ⟨u,ae,a⟩:=Ka a;refine Wv ae ?_;refine h7 (r:=[iD 1,tD u,iD 0,iD 0]) htab rfl rfl rfl rfl rfl rfl rfl rfl rfl (eG (ds':=[iD 1,tD u,iD 0,iD 0]) ?_);refine ZS ?_;exact Ub a;refine Zm ?_;refine Zx ?_;obtain ⟨af,ag,a⟩:=Ka a;refine XY ag ?_;refine bN a (MW (af.toNat:Int)) fun bu a=>?_;refine Kc ?_;refine cY a ?_ ?_<;>intro a;refine Kj (ZQ ?_);refine cY a ?_ ?_<;>intro a;refine XI ?_;refine eG (ds':=km) ?_;refine ZS ?_;exact Uv a;refine Zm ?_;refine ZI a fun ah ai g=>?_;refine fI (τ:=Unit) (Y:=Unit) (fun aj ak=>⟨[(0,tD a0),(4,.ptr b 0),(6,iD f)],[(b,Blk.cells km 127)],[]⟩) ah ?_ ?_;refine Zk ai fun bv al w=>?_;refine d7 (Y:=Unit) al (fun x am=>⟨[(0,tD a0),(4,.ptr b 0),(6,iD f),(7,iD x)],[(b,Blk.cells km 127)],[]⟩) ?_ ?_;exact Zn;intro G140 x am a;refine Kj (YP ?_);refine cY a ?_ ?_<;>intro a;refine Y1 ?_;obtain ⟨an,ao,a⟩:=Ka a;refine XY ao ?_;refine bN a (JJ (an.toNat:Int)) fun bw a=>?_;refine Kc ?_;refine cY a ?_ ?_<;>intro a;refine XI ?_;refine eG (ds':=km) ?_;refine Zy ?_;obtain rfl:=KU a;refine Zt ?_;obtain rfl:=Ke w;refine fH ?_;simp only [ς] at g;refine Ks (Ks ?_);obtain rfl:=Ke g;exact rP (t':=[(4,.ptr b 0),(5,iD 3)]) [0] [] 0 aU bU Za;exact Ym a;exact YI a w;intro aj bx ap aq;subst ap;simp only [Γ] at g;refine Zb aq fun ak=>?_;refine ZR ?_;obtain ⟨ar,au,a⟩:=Ka g;refine Wv au ?_;refine bN a (OM ar) fun m a=>?_;iterate 5 refine pu ?_
 refine Xe ?_;refine cY a ?_ ?_<;>intro a;refine XI ?_;refine pu ?_;refine eG (ds':=km) ?_;refine ZS ?_;refine Ks ?_;obtain rfl:=Ke a;exact rP (t':=[(4,.ptr b 0),(5,iD m.2)]) [0] [] 0 aU bU Za;refine YW ?_;obtain ⟨y,av,a⟩:=Ka a;refine Wv av ?_;refine pu ?_;refine h7 (r:=[iD 2,tD y,iD m.1,iD 0]) htab rfl rfl rfl rfl rfl rfl rfl rfl rfl (eG (ds':=[iD 2,tD y,iD m.1,iD 0]) ?_);refine ZS ?_;exact Ub a;refine Yc ?_;refine Zo ?_;refine bA (i:=83) (d':=cG qZ2) rfl aU (Zd ?_);refine ZI a fun aw ax d=>?_;refine fI (τ:=Unit) (Y:=Unit) (fun ay az=>⟨[(4,.ptr b 0)],[(b,Blk.cells km 127)],[]⟩) aw ?_ ?_;refine Zk ax fun bz ba n=>?_;refine d7 (Y:=Unit) ba (fun o bb=>⟨[(0,tD a0),(1,.v (.bool c)),(4,.ptr b 0),(10,cG qZ2),(11,iD o)],[(b,Blk.cells km 127)],[]⟩) ?_ ?_;exact Zn;intro G204 o bb a;refine YT ?_;refine cY a ?_ ?_<;>intro a;refine Y1 ?_;refine Zq a fun bc ca a=>?_;refine Yh ?_;refine XO ?_;refine Zd ?_;refine Zl a fun bd z be=>?_;refine KS (Y:=Unit) (fun bf=>⟨[(0,tD a0),(1,.v (.bool c)),(4,.ptr b 0),(10,cG qZ2),(11,iD o),(108,.v (.bool bd))],[(b,Blk.cells km 127)],[]⟩) ?_ ?_;refine iz (decide ((bc.size:Int)≤(a0.size:Int))) (fun e=>?_) fun e=>?_;have a:=cD e (Kx z);obtain ⟨cb,bg,a⟩:=Ka a;obtain ⟨cc,bh,a⟩:=Ka a;refine b5 12 [[],[],[],[],[],[],[],[],[],[],[8],[8,10]] [8,10] ?_;apply Θ;apply Θ;intro bs;refine uq ?_;refine tJ (oR htab rfl rfl rfl rfl rfl) ?_;iterate 3 refine uq ?_
 refine jQ (j:=99) (b':=true) e ?_;refine ZX ?_;refine tJ (AD bg htab rfl rfl rfl rfl rfl rfl rfl rfl) ?_;refine Y0 bh ?_;refine YB ?_;refine fj rfl (pu ?_);exact ZA a;have a:=cE e (Kx z);refine b5 12 [[],[],[],[],[],[],[],[],[],[],[],[]] [] ?_;intro bs;refine uq ?_;refine tJ (oR htab rfl rfl rfl rfl rfl) ?_;iterate 3 refine uq ?_
 refine jQ (j:=99) (b':=false) e ?_;iterate 7 refine yN ?_
 refine fj rfl (pK ?_);exact ZF a;intro cd bi;refine Zb bi fun bf=>?_;refine cY be ?_ ?_<;>intro a;refine Kj (ZQ ?_);refine cY a ?_ ?_<;>intro a;refine XI ?_;refine eG (ds':=km) ?_;refine ZS ?_;refine YN ?_;obtain rfl:=KU a;refine Zt ?_;obtain rfl:=Ke n;refine fH ?_;simp only [ς] at d;exact Uv d;refine YW ?_;refine Zq a fun A ce a=>?_;refine Yh ?_;refine h7 (r:=[iD 3,tD A,iD 0,iD 0]) htab rfl rfl rfl rfl rfl rfl rfl rfl rfl (eG (ds':=[iD 3,tD A,iD 0,iD 0]) ?_);refine Zy ?_;obtain rfl:=KU a;refine Zt ?_;obtain rfl:=Ke n;refine fH ?_;simp only [ς] at d;exact Ks (Ub d);exact Ym a;exact YI a n;intro ay cf bj bk;subst bj;simp only [Γ] at d;refine Zb bk fun az=>?_;refine XI ?_;refine eG (ds':=km) ?_;refine Zi ?_;obtain rfl:=Ke d;exact rP (t':=[(4,.ptr b 0),(5,iD 3)]) [0] [] 0 aU bU Za
def Df (a0:List aC):Option (List KJ×Int×Int):=
 bif decide (20000<(a0.length:Int)) then some (([]:List KJ),0,6) else κ (α:=(List KJ)⊕(List KJ×Int×Int)) (aE (fun (a:List KJ×Int)=>bif decide (a.2<((ν a0.toArray).size:Int)) then (oh (ν a0.toArray) a.2).bind fun c=>κ (α:=Bool) (bif (c.toNat:Int)==32 then some true else bif (c.toNat:Int)==9 then some true else bif (c.toNat:Int)==10 then some true else some ((c.toNat:Int)==13)) fun d=>bif d then some (.next (a.1,(ζ.wrap (a.2+1)))) else ((i7 (ν a0.toArray) a.2 (((ν a0.toArray)).size:Int)).bind fun e=>(BW e (decide (4000≤(a.1.length:Int)))).bind fun b=>bif b.2 != 0 then some (.done (.inr (([]:List KJ),a.2,b.2))) else (app 40 a.1 ([(⟨b.1.gp,b.1.gq,b.1.gN,a.2⟩:KJ)]:List KJ)).bind fun f=>some (.next (f,(ζ.wrap (a.2+(b.1.gq.size:Int)))))) else some (.done (.inl a.1))) (([]:List KJ),0)) (Ω (fun g=>(app 40 g ([(⟨0,ε,0,(a0.length:Int)⟩:KJ)]:List KJ)).bind fun h=>some (h,0,0)) (fun r=>some r))
def Ml (a0 r)(p:Df a0=some r):Cd 43 [c7 a0] [] [] (kJ 4 fun q=>.tup [gS r.1 q,iD r.2.1,iD r.2.2]):=by
 refine cQ p Tryz.func43 fun C a=>?_;refine ZK ?_;refine Yt ?_;refine ZL ?_;refine cY a ?_ ?_<;>intro a;refine ZK ?_;refine Z4 ?_;obtain rfl:=Ke a;refine retX.tokN (i:=2) 4 rfl fun j=>?_;refine rP (t':=[(2,gS [] j),(3,iD 0),(4,iD 6)]) [] [0] 0 aU bU ?_;exact ⟨j,rfl,rfl,rfl⟩;refine Yv ?_;refine GE htab rfl rfl rfl rfl rfl rfl rfl rfl rfl rfl rfl (YK ?_);refine Yk ?_;refine Zl a fun s t f=>?_;refine fI (τ:=List KJ) (fun k g=>⟨[(0,c7 a0),(6,gS k g)],[],[(4,g)]⟩) s ?_ ?_;refine Zk t fun L u l=>?_;refine d7 u (fun c e=>⟨[(0,c7 a0),(5,tD (ν a0.toArray)),(6,gS c.1 e),(7,iD c.2)],[],[(4,e)]⟩) ?_ ?_;refine WkX.tokN (i:=6) 4 rfl fun M=>?_;exact ZG;intro G58 c e a;refine Zx ?_;refine pu ?_;refine XO ?_;refine Zd ?_;refine cY a ?_ ?_<;>intro a;refine YV ?_;refine ZR ?_;obtain ⟨N,w,a⟩:=Ka a;refine XY w ?_;refine Zd ?_;refine ZC a fun x m y=>?_;refine KS (Y:=Unit) (fun z=>⟨[(0,c7 a0),(5,tD (ν a0.toArray)),(6,gS c.1 e),(7,iD c.2),(36,.v (.bool x))],[],[(4,e)]⟩) ?_ ?_;refine Zw ?_;refine gW (i:=25) rfl (fun h=>?_) fun h=>?_;have a:=cD h (Kx m);refine Xn ?_;refine Xn ?_;refine YG ?_;exact ZA a;have a:=cE h (Kx m);refine Zg ?_;refine Z2 ?_;refine g6 (i:=29) a ?_ ?_<;>intro a;refine Xn ?_;refine YG ?_;exact ZA a;refine Zg ?_;refine Z2 ?_;refine g6 (i:=33) a ?_ ?_<;>intro a;refine YG ?_;exact ZA a;refine Zg ?_;exact ZF a;intro O A;refine Zb A fun z=>?_;refine cY y ?_ ?_<;>intro a;refine YP ?_;refine K3 (KH (KW (Kb ⟨_,zg a,?_⟩)));exact ZG;refine YW ?_;obtain ⟨B,F,a⟩:=Ka a;refine Wv F ?_;refine pu ?_;refine Ye ?_;refine bN a (pp B (decide (4000≤(c.1.length:Int)))) fun b a=>?_;iterate 3 refine pu ?_
 refine Zj fun P=>?_;refine eG (ds':=(gR b.1)) ?_;refine Zd ?_;refine ZM ?_;refine cY a ?_ ?_<;>intro a;refine Kd ?_;iterate 5 refine pu ?_
 refine Zr ?_;refine Zt ?_;obtain rfl:=KU a;refine Zt ?_;obtain rfl:=Ke l;refine fH ?_;simp only [ς] at f;refine Ks ?_;obtain rfl:=Ke f;refine retX.tokN (i:=2) 4 rfl fun n=>?_;refine rP (t':=[(2,gS [] n),(3,iD c.2),(4,iD b.2)]) [] [0] 0 aU bU ?_;exact ⟨n,rfl,rfl,rfl⟩;refine YW ?_;refine eG (ds':=[iD b.1.gp,tD b.1.gq,iD b.1.gN,iD c.2]) ?_;refine Zf ?_;refine pL (d:=Ki (⟨b.1.gp,b.1.gq,b.1.gN,c.2⟩:KJ)) 0 ?_;refine Zo ?_;refine bA (i:=57) (d':=.lst 4 (([(⟨b.1.gp,b.1.gq,b.1.gN,c.2⟩:KJ)]:List KJ).map Ki) .full) rfl aU (Z6 a fun Q G a R=>?_);refine jo (i:=58) G rfl (Zd ?_);refine ZH ?_;refine pL 0 ?_;refine XO ?_;refine Zg ?_;refine Y9 a ?_;exact ZG;exact Wz a l;intro k U H I;subst H;simp only [Γ] at f;refine Zb I fun g=>?_;refine ZR ?_;refine Z8 ?_;refine h7 (r:=[iD 0,tD ε,iD 0,iD (a0.length:Int)]) htab rfl rfl rfl rfl rfl rfl rfl rfl rfl (Zo ?_);refine bA (i:=68) (d':=.lst 4 (([(⟨0,ε,0,(a0.length:Int)⟩:KJ)]:List KJ).map Ki) .full) rfl aU (Z6 f fun J K a o=>?_);refine jo (i:=69) K rfl ?_;iterate 3 refine pu ?_
 refine Zr ?_;obtain rfl:=Ke a;refine rP (t':=[(2,gS J o),(3,iD 0),(4,iD 0)]) [] [0] 0 aU bU ?_;exact ⟨o,rfl,rfl,rfl⟩
structure Kl where
 gL:List KJ
 ga:Int
 gE:Int
def lf (a:Kl):Option (KJ):=
 bif decide (a.ga<a.gL.length) then (idx a.gL a.ga).bind fun b=>some b else some kf
abbrev eB (x:Kl)(c0:Cap):List D:=[dY x.gL c0,iD x.ga,iD x.gE]
def s6 (b c d e r)(f:lf b=some r):Cd 72 [.ptr c 0] [(c,Blk.cells (eB b e) d)] [] (eN (Ki r) c (eB b e) d):=by
 refine cQ f Tryz.func72 fun C a=>?_;refine Z5 fun h=>?_;refine Kc (Kj (Kj (b5 9 [[],[0],[0,1],[0,1,2],[],[4],[4,5],[4,5,6],[4,5,6,7]] [0,1,2,4,5,6,7] ?_)));iterate 7 apply Θ
 intro bs;refine Xo ?_;refine Yb ?_;refine Yu ?_;refine YL ?_;refine cY a ?_ ?_<;>intro a;refine Kj (WT ?_);iterate 7 apply Θ
 intro bs;refine XA ?_;refine fj rfl (Zq a fun g i a=>?_);refine Wp ?_;refine dV (ds':=(gR g)) ?_;refine Z4 ?_;exact X6 a;refine Zm ?_;refine XI ?_;refine dV (ds':=km) ?_;refine Zr ?_;exact X6 a
def wJ (a:Kl)(b:η):Option (Bool):=
 (lf a).bind fun c=>bif c.gp==(3:Int) then (lf a).bind fun d=>some (decide (d.gq=b)) else some false
def G8 (b f c d e r)(g:wJ b f=some r):Cd 77 [.ptr c 0,tD f] [(c,Blk.cells (eB b e) d)] [] (eN (.v (.bool r)) c (eB b e) d):=by
 refine cQ g Tryz.func77 fun C a=>?_;refine Y2 ?_;refine bN a (s6 b c d e) fun j a=>?_;iterate 3 refine pu ?_
 refine g6 (i:=9) a ?_ ?_<;>intro a;refine pu ?_;refine bN a (s6 b c d e) fun h a=>?_;iterate 3 refine pu ?_
 refine ZU ?_;refine Zi ?_;obtain rfl:=Ke a;exact rP (t':=[(4,.v (.bool (decide (h.gq=f))))]) [0] [] 1 aU bU Za;iterate 5 refine pK ?_
 refine Z0 ?_;refine Zi ?_;exact WU a
def mv (a:Kl)(b:Int)(c:Int):Option (Kl):=
 bif a.gE==0 then some (⟨a.gL,b,c⟩:Kl) else some a
def wT (a e b f g c r)(h:mv a e b=some r):Cd 82 [.ptr f 0,iD e,iD b] [(f,Blk.cells (eB a c) g)] [] (eN (.tup []) f (eB r c) g):=by
 refine cQ h Tryz.func82 fun C d=>?_;refine ZK ?_;refine pL 0 ?_;refine Zd ?_;refine cY d ?_ ?_<;>intro d;refine Yl ?_;refine eG (ds':=[dY a.gL c,iD a.ga,iD b]) ?_;refine Kc (Kt ?_);iterate 4 refine pu ?_
 refine eG (ds':=[dY a.gL c,iD e,iD b]) ?_;exact Kw (YX d);exact Kp (YX d)
def KaR (a:Kl)(b:η):Option (Kl):=
 bif a.gE != 0 then some a else (wJ a b).bind fun c=>bif c then some (⟨a.gL,(ζ.wrap (a.ga+1)),a.gE⟩:Kl) else (mv a a.ga 3).bind fun d=>some d
def jV (b f c e d r)(g:KaR b f=some r):Cd 73 [.ptr c 0,tD f] [(c,Blk.cells (eB b d) e)] [] (eN (.tup []) c (eB r d) e):=by
 refine cQ g Tryz.func73 fun C a=>?_;refine Yx ?_;refine cY a ?_ ?_<;>intro a;exact Ko (Ks (YX a));refine YW ?_;refine bN a (G8 b f c e d) fun h a=>?_;refine Kc ?_;refine cY a ?_ ?_<;>intro a;refine Zw ?_;refine Xz ?_;refine eG (ds':=[dY b.gL d,iD (ζ.wrap (b.ga+1)),iD b.gE]) ?_;exact Kw (YX a);refine Kt ?_;iterate 4 refine pu ?_
 refine pL 0 ?_;refine bN a (wT b b.ga 3 c e d) fun i a=>?_;exact Kw (YX a)
def Kcv (a:Kl):Option (η×Kl):=
 bif a.gE != 0 then some ((ν #[]),a) else (lf a).bind fun b=>bif b.gp != 1 then (mv a a.ga 3).bind fun c=>some ((ν #[]),c) else some (b.gq,(⟨a.gL,(ζ.wrap (a.ga+1)),a.gE⟩:Kl))
def Aj (b c e d r)(g:Kcv b=some r):Cd 74 [.ptr c 0] [(c,Blk.cells (eB b d) e)] [] (eN (tD r.1) c (eB r.2 d) e):=by
 refine cQ g Tryz.func74 fun C a=>?_;refine ZQ ?_;refine Yx ?_;refine cY a ?_ ?_<;>intro a;refine ZT ?_;exact WG a;refine Yv ?_;refine bN a (s6 b c e d) fun f a=>?_;refine Zj fun h=>?_;refine dV (ds':=(gR f)) ?_;refine Yt ?_;refine pL 1 ?_;refine Zd ?_;refine cY a ?_ ?_<;>intro a;refine Yl ?_;refine pL 0 ?_;refine bN a (wT b b.ga 3 c e d) fun i a=>?_;refine KE (ZS ?_);exact WG a;refine Zm ?_;refine Yy ?_;refine eG (ds':=[dY b.gL d,iD (ζ.wrap (b.ga+1)),iD b.gE]) ?_;refine Zf ?_;refine pL 1 ?_;refine Zi ?_;obtain rfl:=Ke a;exact rP (t':=[(2,tD f.gq)]) [0] [] 1 aU bU Za
def lc (a:Kl)(b:η):Option (Bool×Kl):=
 κ (α:=Bool) (bif a.gE==0 then (wJ a b).bind fun c=>some c else some false) fun d=>bif d then some (true,(⟨a.gL,(ζ.wrap (a.ga+1)),a.gE⟩:Kl)) else some (false,a)
def wi (b f c e d r)(j:lc b f=some r):Cd 84 [.ptr c 0,tD f] [(c,Blk.cells (eB b d) e)] [] (eN (.v (.bool r.1)) c (eB r.2 d) e):=by
 refine cQ j Tryz.func84 fun C a=>?_;refine Zz ?_;refine Zl a fun k h l=>?_;refine KS (Y:=Unit) (fun m=>⟨[(0,.ptr c 0),(14,.v (.bool k))],[(c,Blk.cells (eB b d) e)],[]⟩) ?_ ?_;refine Zw ?_;refine YJ ?_;refine gW (i:=10) rfl (fun g=>?_) fun g=>?_;have a:=cD g (Kx h);refine Zg ?_;refine bN a (G8 b f c e d) fun o a=>?_;exact ZA a;have a:=cE g (Kx h);exact Y4 a;intro p n;refine Zb n fun m=>?_;refine cY l ?_ ?_<;>intro a;refine Yy ?_;refine eG (ds':=[dY b.gL d,iD (ζ.wrap (b.ga+1)),iD b.gE]) ?_;refine KE (ZS ?_);obtain rfl:=Ke a;exact rP (t':=[(4,.v (.bool true))]) [0] [] 1 aU bU Za;refine Yc ?_;refine Zi ?_;exact WU a
def wY (c:Kl)(d:Int):Option (KZ×Kl):=
 (KaR c iG).bind fun e=>(lc e gZ).bind fun a=>(Kcv a.2).bind fun b=>bif decide ((16:Int)≤d) then (mv b.2 a.2.ga (6:Int)).bind fun f=>some ((⟨b.1,a.1⟩:KZ),f) else some ((⟨b.1,a.1⟩:KZ),b.2)
def JT (h i c e f r)(j:wY h i=some r):Cd 78 [.ptr c 0,iD i] [(c,Blk.cells (eB h f) e)] [] (eN (Ku r.1) c (eB r.2 f) e):=by
 refine cQ j Tryz.func78 fun C a=>?_;refine Z5 fun l=>?_;refine Zf ?_;refine bN a (jV h iG c e f) fun k a=>?_;refine Zf ?_;refine bN a (wi k gZ c e f) fun b a=>?_;refine h7 (r:=[tD ε,.v (.bool b.1)]) htab rfl rfl rfl rfl rfl rfl rfl rfl rfl (Zj fun m=>?_);refine eL (ds':=[tD ε,.v (.bool b.1)]) ?_;refine ZZ ?_;refine Yi ?_;refine Zf ?_;refine bN a (Aj b.2 c e f) fun g a=>?_;refine pu ?_;refine eL (ds':=[tD g.1,.v (.bool b.1)]) ?_;refine Xe ?_;refine cY a ?_ ?_<;>intro a;refine ZH ?_;refine bN a (wT g.2 b.2.ga 6 c e f) fun n a=>?_;refine KE (pL (d:=Ku (⟨g.1,b.1⟩:KZ)) 2 ?_);refine dV (ds':=[tD g.1,.v (.bool b.1)]) ?_;refine Zr ?_;exact Wq a;refine Yc ?_;refine pL (d:=Ku (⟨g.1,b.1⟩:KZ)) 2 ?_;refine dV (ds':=[tD g.1,.v (.bool b.1)]) ?_;refine Zr ?_;exact Wq a
def wU (g:Kl):Option (List KZ×Kl):=
 (KaR g fJ).bind fun h=>(lc h fO).bind fun f=>bif f.1 then some (([]:List KZ),f.2) else (wY f.2 0).bind fun c=>(app 24 ([]:List KZ) ([c.1]:List KZ)).bind fun i=>κ (α:=List KZ×List KJ×Int×Int) (aE (fun (a:List KZ×List KJ×Int×Int)=>(lc (⟨a.2.1,a.2.2.1,a.2.2.2⟩:Kl) i3).bind fun b=>bif b.1 then (wY b.2 (a.1.length:Int)).bind fun d=>(app 24 a.1 ([d.1]:List KZ)).bind fun j=>some (.next (j,d.2.gL,d.2.ga,d.2.gE)) else some (.done (a.1,b.2.gL,b.2.ga,b.2.gE))) (i,c.2.gL,c.2.ga,c.2.gE)) fun e=>(KaR (⟨e.2.1,e.2.2.1,e.2.2.2⟩:Kl) fO).bind fun k=>some (e.1,k)
def OL (j b c h r)(p:wU j=some r):Cd 75 [.ptr b 0] [(b,Blk.cells (eB j h) c)] [] (oF 2 b (eB r.2 .no) c fun q=>b0 r.1 q):=by
 refine cQ p Tryz.func75 fun C a=>?_;refine Y2 ?_;refine Zf ?_;refine bN a (jV j fJ b c h) fun s a=>?_;refine Yt ?_;refine bN a (wi s fO b c h) fun l a=>?_;refine Kc ?_;refine cY a ?_ ?_<;>intro a;refine ZT ?_;obtain rfl:=Ke a;refine retX.tokN (i:=2) 2 rfl fun m=>?_;refine retX.wk (WkS.bl0 (ds':=(eB l.2 .no)) aU) (rP (t':=[(2,b0 [] m)]) [0] [0] 1 aU bU ?_);exact ⟨m,rfl,rfl,rfl⟩;refine YW ?_;refine bN a (JT l.2 0 b c h) fun n a=>?_;refine Zo ?_;refine bA (i:=11) (d':=ov [n.1]) rfl aU ?_;obtain ⟨B,o,a⟩:=Ka a;refine ma htab rfl rfl rfl rfl rfl rfl rfl rfl rfl rfl rfl rfl rfl rfl rfl (by simpa using tg (e:=Ku) o) fun F=>?_;refine GD (i:=12) o rfl (Zd ?_);refine Zl a fun f t u=>?_;refine KS (fun g=>⟨[(0,.ptr b 0),(3,b0 f.1 g)],[(b,Blk.cells [b2 f.2.1,iD f.2.2.1,iD f.2.2.2] c)],[(2,g)]⟩) ?_ ?_;refine Zk t fun G v w=>?_;refine d7 v (fun d k=>⟨[(0,.ptr b 0),(3,b0 d.1 k)],[(b,Blk.cells [b2 d.2.1,iD d.2.2.1,iD d.2.2.2] c)],[(2,k)]⟩) ?_ ?_;exact WkX.wk (WkS.bl0 (ds':=(eB n.2 .no)) aU) ZG;intro G26 d k a;refine Zx ?_;refine bN a (wi (⟨d.2.1,d.2.2.1,d.2.2.2⟩:Kl) i3 b c .no) fun x a=>?_;refine Kc ?_;refine cY a ?_ ?_<;>intro a;refine YV ?_;refine Zw ?_;refine Z8 ?_;refine bN a (JT x.2 (d.1.length:Int) b c .no) fun y a=>?_;refine Zo ?_;refine bA (i:=20) (d':=ov [y.1]) rfl aU (Z6 a fun H z a I=>?_);refine jo (i:=21) z rfl (pu ?_);refine Y9 a ?_;exact ZG;exact Yf a w;intro J A;refine Z9 A fun g=>?_;refine bN u (jV (⟨f.2.1,f.2.2.1,f.2.2.2⟩:Kl) fO b c .no) fun K a=>?_;refine Zf ?_;refine Zi ?_;obtain rfl:=Ke a;refine rP (t':=[(2,b0 f.1 g)]) [0] [0] 1 aU bU ?_;exact ⟨g,rfl,rfl,rfl⟩
def Am (a:Kl)(c:Int):Option (Kl):=
 (KaR a jv).bind fun b=>bif decide ((24:Int)≤c) then (mv b a.ga (5:Int)).bind fun d=>some d else some b
def MV (c f b d e r)(g:Am c f=some r):Cd 76 [.ptr b 0,iD f] [(b,Blk.cells (eB c e) d)] [] (eN (.tup []) b (eB r e) d):=by
 refine cQ g Tryz.func76 fun C a=>?_;refine ZK ?_;refine Yi ?_;refine Zf ?_;refine bN a (jV c jv b d e) fun h a=>?_;refine Zf ?_;refine Zd ?_;refine cY a ?_ ?_<;>intro a;refine ZH ?_;refine bN a (wT h c.ga 5 b d e) fun i a=>?_;exact Kw (YX a);exact Kp (YX a)
def Do (a:Kl)(b:Int):Option (KJ):=
 bif decide ((ζ.wrap (a.ga+b))<a.gL.length) then (idx a.gL (ζ.wrap (a.ga+b))).bind fun c=>some c else some kf
def MU (b d c e f r)(g:Do b d=some r):Cd 160 [.ptr c 0,iD d] [(c,Blk.cells (eB b f) e)] [] (eN (Ki r) c (eB b f) e):=by
 refine cQ g Tryz.func160 fun C a=>?_;refine Z5 fun i=>?_;refine Kc (Uj ?_);iterate 7 apply Θ
 intro bs;refine Xo ?_;refine ZX ?_;refine Yb ?_;refine Yu ?_;refine YL ?_;refine cY a ?_ ?_<;>intro a;refine Uk ?_;iterate 7 apply Θ
 intro bs;refine XA ?_;refine ZX ?_;refine fj rfl (Zq a fun h j a=>?_);refine Wp ?_;refine dV (ds':=(gR h)) ?_;refine Z4 ?_;exact Wq a;refine Zm ?_;refine XI ?_;refine dV (ds':=km) ?_;refine Zr ?_;exact Wq a
def Cl (g0:(Kf)→Option (Int))(a0:Kf):Option (Int):=
 κ (α:=Int) (aE (fun (a:Int×Int)=>bif decide (a.2<a0.gd.length) then (idx a0.gd a.2).bind fun b=>(g0 b).bind fun c=>some (.next ((max a.1 c),(ζ.wrap (a.2+1)))) else some (.done a.1)) (0,0)) fun d=>some (ζ.wrap (1+d))
def OJ (g0:(Kf)→Option (Int))(g:∀ (a0:Kf) (r:Int) (c:g0 a0=some r),Cd 205 [Kh a0] [] [] (dJ (iD r)))(a0 r)(c:Cl g0 a0=some r):Cd 205 [Kh a0] [] [] (dJ (iD r)):=by
 refine cQ c Tryz.func205 fun C a=>?_;refine XB fun d=>?_;refine pu ?_;refine Yk ?_;refine ZI a fun e h j=>?_;refine KS (Y:=Unit) (fun k=>⟨[(3,iD e)],[],[]⟩) ?_ ?_;refine Zk h fun p l m=>?_;refine d7 (Y:=Unit) l (fun b n=>⟨[(1,.ptr d 0),(3,iD b.1),(4,iD b.2)],[(d,Blk.cells (dP a0 .no) 149)],[]⟩) ?_ ?_;exact Zn;intro G16 b n a;refine Yo ?_;refine cY a ?_ ?_<;>intro a;refine X4 ?_;refine Zq a fun f q a=>?_;refine bA (i:=16) rfl (Wk.of_eq (a6 D.el (Kn f))) (YQ ?_);refine bN a (g f) fun s a=>?_;refine zP rfl rfl rfl rfl rfl rfl (pu ?_);refine Kw (XE a ?_);exact Zn;exact Yg a m;intro t o;refine Zb o fun k=>?_;refine ZK ?_;refine Zr ?_;obtain rfl:=Ke j;exact rP (t':=[(2,iD (ζ.wrap (1+e)))]) [] [] 0 aU bU Za
def Kc9:Nat→((Kf)→Option (Int))
 | 0=>(fun _=>none)
 | n+1=>(Cl ((Kc9 n)))
def MF:∀ n,(∀ (a0:Kf) (r:Int) (a:(Kc9 n) a0=some r),Cd 205 [Kh a0] [] [] (dJ (iD r)))
 | 0=>fun _ _ a=>by cases a
 |
  n+1=>by
  have ih:=MF n;exact OJ (Kc9 n) ih
def ME:∀ n,(∀ (a0:Kf),Le ((Kc9 n) a0) ((Kc9 (n+1)) a0))
 | 0=>fun _=>Le.none _
 |
  n+1=>by
  have ih:=ME n;exact fun a0=>by show Le (Cl ((Kc9 n)) a0) (Cl ((Kc9 (n+1))) a0);revert ih;generalize Kc9 n=G0;generalize Kc9 (n+1)=G1;intro ih;unfold Cl;repeat (first|with_reducible exact Le.refl _|with_reducible exact ih _|with_reducible assumption|(refine Le.bind ?_ (fun _=>?_))|(refine Le.cond ?_ ?_)|(refine Le.loop (fun _=>?_))|(refine Le.elim (fun _=>?_) (fun _=>?_)))
def GY (a0:Kf):Option (Int):=gK fun n=>(Kc9 n) a0
def OB (a0:Kf){r:Int}(n:Nat)(h:(Kc9 n) a0=some r):GY a0=some r:=kU (fun m=>(ME m) a0) h
def OA (a0 r)(a:GY a0=some r):Cd 205 [Kh a0] [] [] (dJ (iD r)):=
 let ⟨n,hn⟩:=kq a;(MF n) a0 r hn
def Kde (a:Kl)(b:Kf)(c:Int):Option (Kf×Kl):=
 κ (α:=Bool) (bif a.gE==0 then (GY b).bind fun d=>some (decide (24<d)) else some false) fun e=>bif e then (mv a c 5).bind fun f=>some (b,f) else some (b,a)
def HG (c d e b f g r)(m:Kde c d e=some r):Cd 191 [.ptr b 0,Kh d,iD e] [(b,Blk.cells (eB c g) f)] [] (eN (Kh r.1) b (eB r.2 g) f):=by
 refine cQ m Tryz.func191 fun C a=>?_;refine We fun j=>?_;refine Zj fun k=>?_;refine Kc (ZC a fun n l o=>?_);refine KS (Y:=Unit) (fun p=>⟨[(0,.ptr b 0),(2,iD e),(4,.ptr j 0),(6,.ptr k 0),(16,.v (.bool n))],[(b,Blk.cells (eB c g) f),(j,Blk.cells (dP d .no) 149),(k,Blk.cells hJ 149)],[]⟩) ?_ ?_;refine Zw ?_;refine YJ ?_;refine gW (i:=12) rfl (fun h=>?_) fun h=>?_;have a:=cD h (Kx l);refine XM ?_;refine bN a (OA d) fun s a=>?_;refine pu ?_;exact ZA a;have a:=cE h (Kx l);exact Y4 a;intro t q;refine Zb q fun p=>?_;refine cY o ?_ ?_<;>intro a;refine ZH ?_;refine bN a (wT c e 5 b f g) fun u a=>?_;exact KE (Up a);refine Yc ?_;exact Up a
abbrev rX:List η:=[(ν #[61,61]),(ν #[33,61])]
abbrev rW:List η:=[(ν #[60]),(ν #[60,61])]
abbrev ux:List Int:=[(7:Int),(8:Int),(9:Int)]
def z4 (a0:Int)(b:η):Option (Int):=
 κ (α:=(Unit)⊕(Int)) (aE (fun (a:Int)=>(idx ([([jZ]:List η),([jY]:List η),rX,rW,([jH,f6]:List η),([gZ,jI,jX]:List η)]:List (List η)) a0).bind fun c=>bif decide (a<c.length) then (idx ([([jZ]:List η),([jY]:List η),rX,rW,([jH,f6]:List η),([gZ,jI,jX]:List η)]:List (List η)) a0).bind fun d=>(idx d a).bind fun e=>bif decide (e=b) then (idx ([([17]:List Int),([16]:List Int),([14,15]:List Int),([12,13]:List Int),([10,11]:List Int),ux]:List (List Int)) a0).bind fun f=>(idx f a).bind fun g=>some (.done (.inr g)) else some (.next (ζ.wrap (a+1))) else some (.done (.inl ()))) 0) (Ω (fun h=>some 0) (fun r=>some r))
def LH (a0 c r)(f:z4 a0 c=some r):Cd 190 [iD a0,tD c] [] [] (dJ (iD r)):=by
 refine cQ f Tryz.func190 fun C a=>?_;refine Ze ?_;refine KE (Zo ?_);refine bA (i:=8) (d':=cG [jZ]) rfl aU (Zo ?_);refine bA (i:=9) (d':=cG [jY]) rfl aU (Zo ?_);refine bA (i:=10) (d':=cG rX) rfl aU (Zo ?_);refine bA (i:=11) (d':=cG rW) rfl aU (Zo ?_);refine bA (i:=12) (d':=cG [jH,f6]) rfl aU (Zo ?_);refine bA (i:=13) (d':=cG [gZ,jI,jX]) rfl aU (Zo ?_);refine bA (i:=14) (d':=.lst 1 (([([jZ]:List η),([jY]:List η),rX,rW,([jH,f6]:List η),([gZ,jI,jX]:List η)]:List (List η)).map (ly 1 vD)) .full) rfl aU (pu ?_);refine KE (Zo ?_);refine bA (i:=15) (d':=dO [17]) rfl aU (Zo ?_);refine bA (i:=16) (d':=dO [16]) rfl aU (Zo ?_);refine bA (i:=17) (d':=dO [14,15]) rfl aU (Zo ?_);refine bA (i:=18) (d':=dO [12,13]) rfl aU (Zo ?_);refine bA (i:=19) (d':=dO [10,11]) rfl aU (Zo ?_);refine bA (i:=20) (d':=dO ux) rfl aU (Zo ?_);refine bA (i:=21) (d':=.lst 1 (([([17]:List Int),([16]:List Int),([14,15]:List Int),([12,13]:List Int),([10,11]:List Int),ux]:List (List Int)).map (ly 1 f7)) .full) rfl aU (Zd ?_);refine ZI a fun g h b=>?_;refine fI (τ:=Unit) (Y:=Unit) (fun j k=>⟨[],[],[]⟩) g ?_ ?_;refine Zk h fun p l d=>?_;refine d7 (Y:=Unit) l (fun e m=>⟨[(0,iD a0),(1,tD c),(5,.lst 1 (([([jZ]:List η),([jY]:List η),rX,rW,([jH,f6]:List η),([gZ,jI,jX]:List η)]:List (List η)).map (ly 1 vD)) .full),(6,.lst 1 (([([17]:List Int),([16]:List Int),([14,15]:List Int),([12,13]:List Int),([10,11]:List Int),ux]:List (List Int)).map (ly 1 f7)) .full),(7,iD e)],[],[]⟩) ?_ ?_;exact Zn;intro G27 e m a;refine Kj (ZK ?_);refine Zq a fun q s a=>?_;refine Yh ?_;refine ZL ?_;refine cY a ?_ ?_<;>intro a;refine Y1 ?_;refine Zq a fun t u a=>?_;refine Yh ?_;refine pu ?_;refine Zq a fun v w a=>?_;refine Yh ?_;refine Z7 ?_;refine cY a ?_ ?_<;>intro a;refine ZR ?_;refine Zq a fun x y a=>?_;refine Yh ?_;refine pu ?_;refine Zq a fun z A a=>?_;refine Yh ?_;refine Zy ?_;obtain rfl:=KU a;refine Zt ?_;obtain rfl:=Ke d;refine fH ?_;simp only [ς] at b;refine Ks ?_;obtain rfl:=Ke b;exact Xb;exact Ym a;exact YA a d;intro j B n o;subst n;simp only [Γ] at b;refine Zb o fun k=>?_;exact Kd (XQ b)
end
section
open Go
set_option maxRecDepth 100000
def yY (g0:(Kl)→(Int)→Option (Kf×Kl))(g1:(Kl)→Option (Kf×Kl))(o:(Kl)→(Kf)→(Int)→(Int)→Option (Kf×Kl))(f:Kl)(e:Int):Option (Kf×Kl):=
 bif e==6 then (g1 f).bind fun g=>some (g.1,g.2) else (g0 f (ζ.wrap (e+1))).bind fun b=>κ (α:=List KJ×Int×Int×Int×Int×η×List Kf×Int) (aE (fun (a:List KJ×Int×Int×Int×Int×η×List Kf×Int)=>κ (α:=Bool) (bif a.2.2.1==0 then (lf (⟨a.1,a.2.1,a.2.2.1⟩:Kl)).bind fun j=>bif j.gp==3 then (lf (⟨a.1,a.2.1,a.2.2.1⟩:Kl)).bind fun k=>(z4 e k.gq).bind fun l=>some (l != 0) else some false else some false) fun m=>bif m then (lf (⟨a.1,a.2.1,a.2.2.1⟩:Kl)).bind fun h=>(g0 (⟨a.1,(ζ.wrap (a.2.1+1)),a.2.2.1⟩:Kl) (ζ.wrap (e+1))).bind fun i=>(z4 e h.gq).bind fun n=>(Kde i.2 (⟨n,0,ε,([(⟨a.2.2.2.1,a.2.2.2.2.1,a.2.2.2.2.2.1,a.2.2.2.2.2.2.1,a.2.2.2.2.2.2.2⟩:Kf),i.1]:List Kf),h.ga⟩:Kf) a.2.1).bind fun c=>some (.next (c.2.gL,c.2.ga,c.2.gE,c.1.gj,c.1.gN,c.1.gb,c.1.gd,c.1.ga)) else some (.done (a.1,a.2.1,a.2.2.1,a.2.2.2.1,a.2.2.2.2.1,a.2.2.2.2.2.1,a.2.2.2.2.2.2.1,a.2.2.2.2.2.2.2))) (b.2.gL,b.2.ga,b.2.gE,b.1.gj,b.1.gN,b.1.gb,b.1.gd,b.1.ga)) fun d=>some ((⟨d.2.2.2.1,d.2.2.2.2.1,d.2.2.2.2.2.1,d.2.2.2.2.2.2.1,d.2.2.2.2.2.2.2⟩:Kf),(⟨d.1,d.2.1,d.2.2.1⟩:Kl))
def CT (g:(Kl)→(Int)→Option (Kf×Kl)):Prop:=∀ (m:Kl) (l:Int) (e:Nat) (f:aD) (n:Cap) (r:Kf×Kl) (t:g m l=some r),Cd 162 [.ptr e 0,iD l] [(e,Blk.cells (eB m n) f)] [] (eN (Kh r.1) e (eB r.2 .no) f)
def CS (g:(Kl)→Option (Kf×Kl)):Prop:=∀ (m:Kl) (e:Nat) (f:aD) (n:Cap) (r:Kf×Kl) (t:g m=some r),Cd 189 [.ptr e 0] [(e,Blk.cells (eB m n) f)] [] (eN (Kh r.1) e (eB r.2 .no) f)
def CR (g:(Kl)→(Kf)→(Int)→(Int)→Option (Kf×Kl)):Prop:=∀ (m:Kl) (l:Kf) (y:Int) (z:Int) (e:Nat) (f:aD) (n:Cap) (r:Kf×Kl) (t:g m l y z=some r),Cd 204 [.ptr e 0,Kh l,iD y,iD z] [(e,Blk.cells (eB m n) f)] [] (eN (Kh r.1) e (eB r.2 .no) f)
def P6 (g0:(Kl)→(Int)→Option (Kf×Kl))(g1:(Kl)→Option (Kf×Kl))(A:(Kl)→(Kf)→(Int)→(Int)→Option (Kf×Kl))(B:CT g0)(I:CS g1)(ad:CR A)(m l e f n r)(t:yY g0 g1 A m l=some r):Cd 162 [.ptr e 0,iD l] [(e,Blk.cells (eB m n) f)] [] (eN (Kh r.1) e (eB r.2 .no) f):=by
 refine cQ t Tryz.func162 fun C c=>?_;refine Z5 fun o=>?_;refine Xe ?_;refine cY c ?_ ?_<;>intro c;refine Ze ?_;refine bN c (I m e f n) fun F c=>?_;refine bA (i:=12) rfl (Wk.of_eq (Kn F.1)) (dV (ds':=(dP F.1 .no)) ?_);refine Z4 ?_;exact Wr c;refine Zm ?_;refine ZK ?_;refine bN c (B m (ζ.wrap (l+1)) e f n) fun G c=>?_;refine bA (i:=16) rfl (Wk.of_eq (Kn G.1)) (Zj fun p=>?_);refine eL (ds':=(dP G.1 .no)) ?_;refine Kc (Zl c fun j J K=>?_);refine KS (Y:=Unit) (fun L=>⟨[(4,.ptr o 0),(5,.ptr p 0)],[(e,Blk.cells [b2 j.1,iD j.2.1,iD j.2.2.1] f),(o,Blk.cells hJ 149),(p,Blk.cells [iD j.2.2.2.1,iD j.2.2.2.2.1,tD j.2.2.2.2.2.1,bQ j.2.2.2.2.2.2.1,iD j.2.2.2.2.2.2.2] 149)],[]⟩) ?_ ?_;refine Zk J fun ae M N=>?_;refine d7 (Y:=Unit) M (fun a O=>⟨[(0,.ptr e 0),(1,iD l),(4,.ptr o 0),(5,.ptr p 0)],[(e,Blk.cells [b2 a.1,iD a.2.1,iD a.2.2.1] f),(o,Blk.cells hJ 149),(p,Blk.cells [iD a.2.2.2.1,iD a.2.2.2.2.1,tD a.2.2.2.2.2.1,bQ a.2.2.2.2.2.2.1,iD a.2.2.2.2.2.2.2] 149)],[]⟩) ?_ ?_;exact Zn;intro G68 a O c;refine ZC c fun P H Q=>?_;refine KS (Y:=Unit) (fun R=>⟨[(0,.ptr e 0),(1,iD l),(4,.ptr o 0),(5,.ptr p 0),(35,.v (.bool P))],[(e,Blk.cells [b2 a.1,iD a.2.1,iD a.2.2.1] f),(o,Blk.cells hJ 149),(p,Blk.cells [iD a.2.2.2.1,iD a.2.2.2.2.1,tD a.2.2.2.2.2.1,bQ a.2.2.2.2.2.2.1,iD a.2.2.2.2.2.2.2] 149)],[]⟩) ?_ ?_;refine Zw ?_;refine YJ ?_;refine gW (i:=22) rfl (fun u=>?_) fun u=>?_;have c:=cD u (Kx H);refine pu ?_;refine bN c (s6 (⟨a.1,a.2.1,a.2.2.1⟩:Kl) e f .no) fun af c=>?_;refine Zg ?_;refine YF ?_;refine g6 (i:=28) c ?_ ?_<;>intro c;refine Zg ?_;refine bN c (s6 (⟨a.1,a.2.1,a.2.2.1⟩:Kl) e f .no) fun U c=>?_;refine pu ?_;refine bN c (LH l U.gq) fun ag c=>?_;refine pu ?_;exact ZA c;iterate 6 refine pK ?_
 exact ZF c;have c:=cE u (Kx H);iterate 4 refine pK ?_
 refine Z2 ?_;iterate 6 refine pK ?_
 exact ZF c;intro ah V;refine Zb V fun R=>?_;refine cY Q ?_ ?_<;>intro c;refine YV ?_;refine Zl c fun s W c=>?_;refine i5 (Zp:=fun _ _=>False) (h:=[(e,Blk.cells [b2 a.1,iD a.2.1,iD a.2.2.1] f),(o,Blk.cells hJ 149),(p,Blk.cells [iD a.2.2.2.1,iD a.2.2.2.2.1,tD a.2.2.2.2.2.1,bQ a.2.2.2.2.2.2.1,iD a.2.2.2.2.2.2.2] 149)]) (k:=[]) [.on 7 6 (fun v _=>([(blk v,Blk.cells (gR s) 127)],[])) (.on 6 6 (fun v _=>([(blk v,Blk.cells km 127)],[])) (.fix ([],[])))] (fun _ _ _=>True) 8 [[],[0],[],[2],[2,3],[2,3,4],[],[0,1,6]] [0,1,2,3,4,6,7] (fun _ _ h=>h.elim) Pf Pf ?_;iterate 7 apply Θ
 intro bs;refine ue ?_;refine kC 0 (s6 (⟨a.1,a.2.1,a.2.2.1⟩:Kl) e f .no s W) Wl ?_;refine WH ?_;refine gI [(e,Blk.cells [b2 a.1,iD a.2.1,iD a.2.2.1] f),(o,Blk.cells hJ 149),(p,Blk.cells [iD a.2.2.2.1,iD a.2.2.2.2.1,tD a.2.2.2.2.2.1,bQ a.2.2.2.2.2.2.1,iD a.2.2.2.2.2.2.2] 149),(blk (bs 6),Blk.cells (gR s) 127)] [] ?_;obtain ⟨ai,X⟩:∃ b,blk (bs 6)=b:=⟨_,rfl⟩;simp only [X];refine pu ?_;refine ZZ ?_;refine Xz ?_;refine eG (ds':=[b2 a.1,iD (ζ.wrap (a.2.1+1)),iD a.2.2.1]) ?_;refine ZZ ?_;refine bN c (B (⟨a.1,(ζ.wrap (a.2.1+1)),a.2.2.1⟩:Kl) (ζ.wrap (l+1)) e f .no) fun q c=>?_;refine bA (i:=52) rfl (Wk.of_eq (Kn q.1)) (Zj fun aj=>?_);refine Ir (ds':=(dP q.1 .no)) ?_;refine Kc ?_;obtain ⟨w,Z,c⟩:=Ka c;refine b5 12 [[],[],[],[2],[2],[],[],[5,6],[],[8],[2,4,5,6,7,8],[]] [0,2,4,5,6,7,8,10] ?_;iterate 8 apply Θ
 intro bs;refine YC ?_;refine ue ?_;refine zy (KN 3 htab rfl rfl rfl rfl rfl) ?_;refine f8 (LH l s.gq w Z) Wl ?_;refine e9 (KN (d:=.agg [iD a.2.2.2.1,iD a.2.2.2.2.1,tD a.2.2.2.2.2.1,bQ a.2.2.2.2.2.2.1,iD a.2.2.2.2.2.2.2]) 2 htab rfl rfl rfl rfl rfl) ?_;refine e9 (KN (d:=.agg (dP q.1 .no)) 4 htab rfl rfl rfl rfl rfl) ?_;refine sT (ExE.wk (iP htab rfl rfl rfl rfl rfl rfl rfl rfl rfl rfl rfl) (show Wk _ (c6 [(⟨a.2.2.2.1,a.2.2.2.2.1,a.2.2.2.2.2.1,a.2.2.2.2.2.2.1,a.2.2.2.2.2.2.2⟩:Kf),q.1]) from Wk.lst0 (.cons (WkC.trans (WkC.agg (WkR.refl _)) (WkC.of_eq (Kn (⟨a.2.2.2.1,a.2.2.2.2.1,a.2.2.2.2.2.1,a.2.2.2.2.2.2.1,a.2.2.2.2.2.2.2⟩:Kf)).symm)) (.cons (WkC.trans (WkC.agg (WkR.refl _)) (WkC.of_eq (Kn q.1).symm)) (.nil))))) ?_;refine ue ?_;refine zy (KN 3 htab rfl rfl rfl rfl rfl) ?_;refine kT (s0 (r:=[iD w,iD 0,tD ε,c6 [(⟨a.2.2.2.1,a.2.2.2.2.1,a.2.2.2.2.2.1,a.2.2.2.2.2.2.1,a.2.2.2.2.2.2.2⟩:Kf),q.1],iD s.ga]) htab rfl rfl rfl rfl rfl rfl) ?_;refine uq ?_;refine fj rfl ?_;obtain ⟨x,aa,c⟩:=Ka c;refine lE (HG q.2 (⟨w,0,ε,([(⟨a.2.2.2.1,a.2.2.2.2.1,a.2.2.2.2.2.1,a.2.2.2.2.2.2.1,a.2.2.2.2.2.2.2⟩:Kf),q.1]:List Kf),s.ga⟩:Kf) a.2.1 e f .no x aa) rfl rfl rfl rfl rfl kx Pf Pf (ZP ?_);refine bA (i:=65) rfl (Wk.of_eq (Kn x.1)) (eL (ds':=(dP x.1 .no)) ?_);refine Y9 c ?_;exact Zn;exact Yg c N;intro ak ac;refine Zb ac fun L=>?_;refine Kd (pL (d:=.agg [iD j.2.2.2.1,iD j.2.2.2.2.1,tD j.2.2.2.2.2.1,bQ j.2.2.2.2.2.2.1,iD j.2.2.2.2.2.2.2]) 2 ?_);refine dV (ds':=[iD j.2.2.2.1,iD j.2.2.2.2.1,tD j.2.2.2.2.2.1,bQ j.2.2.2.2.2.2.1,iD j.2.2.2.2.2.2.2]) ?_;refine Zr ?_;exact Wr K
def Ck (g0:(Kl)→(Int)→Option (Kf×Kl))(g1:(Kl)→Option (Kf×Kl))(c:(Kl)→(Kf)→(Int)→(Int)→Option (Kf×Kl))(a:Kl):Option (Kf×Kl):=
 bif a.gE != 0 then some (jK,a) else (lf a).bind fun b=>bif b.gp==2 then some ((⟨1,b.gN,ε,[],b.ga⟩:Kf),(⟨a.gL,(ζ.wrap (a.ga+1)),a.gE⟩:Kl)) else bif b.gp==1 then (c (⟨a.gL,(ζ.wrap (a.ga+1)),a.gE⟩:Kl) (⟨2,0,b.gq,[],b.ga⟩:Kf) 3 a.ga).bind fun d=>some (d.1,d.2) else κ (α:=(Unit)⊕(Kf×Kl)) (bif b.gp==3 then bif decide (b.gq=f6) then (g1 (⟨a.gL,(ζ.wrap (a.ga+1)),a.gE⟩:Kl)).bind fun e=>(Kde e.2 (⟨5,0,ε,([e.1]:List Kf),b.ga⟩:Kf) a.ga).bind fun f=>some (.inr (f.1,f.2)) else (bif decide (b.gq=kc) then (g1 (⟨a.gL,(ζ.wrap (a.ga+1)),a.gE⟩:Kl)).bind fun g=>(Kde g.2 (⟨6,0,ε,([g.1]:List Kf),b.ga⟩:Kf) a.ga).bind fun h=>some (.inr (h.1,h.2)) else bif decide (b.gq=gZ) then (Kcv (⟨a.gL,(ζ.wrap (a.ga+1)),a.gE⟩:Kl)).bind fun i=>some (.inr ((⟨4,0,i.1,[],b.ga⟩:Kf),i.2)) else bif decide (b.gq=jG) then (Kcv (⟨a.gL,(ζ.wrap (a.ga+1)),a.gE⟩:Kl)).bind fun j=>(c j.2 (⟨19,0,j.1,[],b.ga⟩:Kf) 20 a.ga).bind fun k=>some (.inr (k.1,k.2)) else bif decide (b.gq=jf) then some (.inr ((⟨18,0,ε,[],b.ga⟩:Kf),(⟨a.gL,(ζ.wrap (a.ga+1)),a.gE⟩:Kl))) else bif decide (b.gq=fJ) then (g0 (⟨a.gL,(ζ.wrap (a.ga+1)),a.gE⟩:Kl) 0).bind fun l=>(KaR l.2 fO).bind fun m=>some (.inr (l.1,m)) else some (.inl ())) else some (.inl ())) (Ω (fun o=>(mv (⟨a.gL,(ζ.wrap (a.ga+1)),a.gE⟩:Kl) a.ga 3).bind fun n=>some (jK,n)) (fun r=>some r))
def Ww {R G:Prop}(h:R)(k:R→G:=by intro h;refine retX.wk (WkS.bl0 (ds':=(eB _ .no)) aU) ?_;exact h):G:=k h
def OI (g0:(Kl)→(Int)→Option (Kf×Kl))(g1:(Kl)→Option (Kf×Kl))(B:(Kl)→(Kf)→(Int)→(Int)→Option (Kf×Kl))(J:CT g0)(F:CS g1)(H:CR B)(c g l m r)(K:Ck g0 g1 B c=some r):Cd 189 [.ptr g 0] [(g,Blk.cells (eB c m) l)] [] (eN (Kh r.1) g (eB r.2 .no) l):=by
 refine cQ K Tryz.func189 fun C a=>?_;refine Z5 fun o=>?_;refine Kc (Yx ?_);refine cY a ?_ ?_<;>intro a;refine Kd (X7 ?_);refine Ks ?_;obtain rfl:=Ke a;refine X8 ?_;refine Ww ?_;exact YH;refine Zm ?_;refine Zl a fun f L a=>?_;refine i5 (Zp:=fun _ _=>False) (h:=[(g,Blk.cells (eB c m) l),(o,Blk.cells hJ 149)]) (k:=[]) [.on 7 6 (fun v _=>([(blk v,Blk.cells (gR f) 127)],[])) (.on 6 6 (fun v _=>([(blk v,Blk.cells km 127)],[])) (.fix ([],[])))] (fun _ _ _=>True) 8 [[],[0],[],[2],[2,3],[2,3,4],[],[0,1,6]] [0,1,2,3,4,6,7] (fun _ _ h=>h.elim) Pf Pf ?_;iterate 7 apply Θ
 intro bs;refine ue ?_;refine kC 0 (s6 c g l m f L) Wl ?_;refine WH ?_;refine gI [(g,Blk.cells (eB c m) l),(o,Blk.cells hJ 149),(blk (bs 6),Blk.cells (gR f) 127)] [] ?_;obtain ⟨I,M⟩:∃ b,blk (bs 6)=b:=⟨_,rfl⟩;simp only [M];refine pu ?_;refine ZZ ?_;refine Xz ?_;refine eG (ds':=[dY c.gL m,iD (ζ.wrap (c.ga+1)),iD c.gE]) ?_;refine Yt ?_;refine pL 2 ?_;refine Zd ?_;refine cY a ?_ ?_<;>intro a;refine Ze ?_;refine pL 2 ?_;refine Ys ?_;refine h7 (r:=[iD 1,iD f.gN,tD ε,.lst 1 [] .full,iD f.ga]) htab rfl rfl rfl rfl rfl rfl rfl rfl rfl (dV (ds':=[iD 1,iD f.gN,tD ε,.lst 1 [] .full,iD f.ga]) ?_);refine Z4 ?_;obtain rfl:=Ke a;exact retX.wk (WkS.bl1 (ds':=[iD 1,iD f.gN,tD ε,bQ [],iD f.ga]) aU) (retX.wk (WkS.bl0 (ds':=[b2 c.gL,iD (ζ.wrap (c.ga+1)),iD c.gE]) aU) YH);refine Zm ?_;refine Zx ?_;refine pL 2 ?_;refine Zd ?_;refine cY a ?_ ?_<;>intro a;refine ZR ?_;refine pL 2 ?_;refine Ys ?_;refine h7 (r:=[iD 2,iD 0,tD f.gq,.lst 1 [] .full,iD f.ga]) htab rfl rfl rfl rfl rfl rfl rfl rfl rfl (pu ?_);obtain ⟨u,N,a⟩:=Ka a;refine lE (H (⟨c.gL,(ζ.wrap (c.ga+1)),c.gE⟩:Kl) (⟨2,0,f.gq,[],f.ga⟩:Kf) 3 c.ga g l m u N) rfl rfl rfl rfl rfl kx Pf Pf (ZP ?_);refine bA (i:=46) rfl (Wk.of_eq (Kn u.1)) (dV (ds':=(dP u.1 .no)) ?_);refine Z4 ?_;obtain rfl:=Ke a;exact YH;refine Zm ?_;refine Zx ?_;refine pL 2 ?_;refine Zd ?_;obtain ⟨O,P,n⟩:=Ka a;refine fI (τ:=Unit) (Y:=Unit) (fun Q U=>⟨[(0,.ptr g 0),(2,.ptr o 0),(4,iD c.ga)],[(g,Blk.cells [dY c.gL m,iD (ζ.wrap (c.ga+1)),iD c.gE] l),(o,Blk.cells hJ 149)],[]⟩) O ?_ ?_;refine cY (Kx P) (fun a=>?_) fun a=>?_;refine Ze ?_;refine pL 2 ?_;refine Xs ?_;refine cY a ?_ ?_<;>intro a;refine Ze ?_;refine bN a (F (⟨c.gL,(ζ.wrap (c.ga+1)),c.gE⟩:Kl) g l m) fun p a=>?_;refine bA (i:=55) rfl (Wk.of_eq (Kn p.1)) (Zj fun ag=>?_);refine ib (ds':=(dP p.1 .no)) ?_;refine Zf ?_;refine pL (d:=.agg (dP p.1 .no)) 3 ?_;refine Zo ?_;refine bA (i:=58) (d':=c6 [p.1]) rfl aU (Ys ?_);refine h7 (r:=[iD 5,iD 0,tD ε,c6 [p.1],iD f.ga]) htab rfl rfl rfl rfl rfl rfl rfl rfl rfl (pu ?_);obtain ⟨w,V,a⟩:=Ka a;refine lE (HG p.2 (⟨5,0,ε,([p.1]:List Kf),f.ga⟩:Kf) c.ga g l .no w V) rfl rfl rfl rfl rfl kx Pf Pf (ZP ?_);refine bA (i:=63) rfl (Wk.of_eq (Kn w.1)) (dV (ds':=(dP w.1 .no)) ?_);refine Zr ?_;refine KI ?_;obtain rfl:=Ke a;refine fH ?_;simp only [ς] at n;refine Ks ?_;obtain rfl:=Ke n;exact YH;refine Zh ?_;refine cY a ?_ ?_<;>intro a;refine Ze ?_;refine bN a (F (⟨c.gL,(ζ.wrap (c.ga+1)),c.gE⟩:Kl) g l m) fun q a=>?_;refine bA (i:=67) rfl (Wk.of_eq (Kn q.1)) (Zj fun ah=>?_);refine ib (ds':=(dP q.1 .no)) ?_;refine Zf ?_;refine pL (d:=.agg (dP q.1 .no)) 3 ?_;refine Zo ?_;refine bA (i:=70) (d':=c6 [q.1]) rfl aU (Ys ?_);refine h7 (r:=[iD 6,iD 0,tD ε,c6 [q.1],iD f.ga]) htab rfl rfl rfl rfl rfl rfl rfl rfl rfl (pu ?_);obtain ⟨y,W,a⟩:=Ka a;refine lE (HG q.2 (⟨6,0,ε,([q.1]:List Kf),f.ga⟩:Kf) c.ga g l .no y W) rfl rfl rfl rfl rfl kx Pf Pf (ZP ?_);refine bA (i:=75) rfl (Wk.of_eq (Kn y.1)) (dV (ds':=(dP y.1 .no)) ?_);refine Zr ?_;refine KI ?_;obtain rfl:=Ke a;refine fH ?_;simp only [ς] at n;refine Ks ?_;obtain rfl:=Ke n;exact YH;refine Zh ?_;refine cY a ?_ ?_<;>intro a;refine Zl a fun s X a=>?_;refine i5 (Zp:=fun _ _=>False) (h:=[(o,Blk.cells hJ 149),(I,Blk.cells (gR f) 127)]) (k:=[]) [.on 1 1 (fun _ b=>b) (.fix ([(g,Blk.cells [dY c.gL m,iD (ζ.wrap (c.ga+1)),iD c.gE] l)],[]))] (fun e _ x=>match e with|1=>x.1=[(g,Blk.cells (eB s.2 m) l)]∧x.2=[]|_=>True) 4 [[],[0],[],[2]] [0,1,2,3] (fun _ _ h=>h.elim) ((KO (j:=1) rfl).trans (χ _ ((KO (j:=1) rfl).trans (χ _ ((KO (j:=0) rfl).trans (χ _ Pf)))))) Pf ?_;iterate 4 apply Θ
 intro bs;refine ue ?_;refine mU (d:=tD s.1) 0 (Aj (⟨c.gL,(ζ.wrap (c.ga+1)),c.gE⟩:Kl) g l m s X) Wl (fun d' h' k' _ ⟨Z,e2,e3⟩=>⟨by subst Z;exact Wk.refl _,⟨e2,e3⟩⟩) ?_;refine Xc ?_;refine mT 1 (fun b=>[(o,Blk.cells hJ 149),(I,Blk.cells (gR f) 127)]++(b.1++[])) (fun b=>[]++(b.2++[])) ?_;rintro ⟨_,_⟩ ⟨rfl,rfl⟩;simp only [a8,aN,bK];refine h7 (r:=[iD 4,iD 0,tD s.1,.lst 1 [] .full,iD f.ga]) htab rfl rfl rfl rfl rfl rfl rfl rfl rfl (eG (ds':=[iD 4,iD 0,tD s.1,.lst 1 [] .full,iD f.ga]) ?_);refine Zr ?_;refine KI ?_;obtain rfl:=Ke a;refine fH ?_;simp only [ς] at n;refine Ks ?_;obtain rfl:=Ke n;exact retX.wk (WkS.bl0 (ds':=[iD 4,iD 0,tD s.1,bQ [],iD f.ga]) aU) (retX.wk (WkS.bl2 (ds':=(eB s.2 .no)) aU) (rP (t':=[(2,.ptr o 0)]) [2,0] [] 1 aU bU wF));refine Zh ?_;refine cY a ?_ ?_<;>intro a;refine Ze ?_;refine bN a (Aj (⟨c.gL,(ζ.wrap (c.ga+1)),c.gE⟩:Kl) g l m) fun z a=>?_;refine pu ?_;refine ZZ ?_;refine pL 2 ?_;refine h7 (r:=[iD 19,iD 0,tD z.1,.lst 1 [] .full,iD f.ga]) htab rfl rfl rfl rfl rfl rfl rfl rfl rfl (pu ?_);obtain ⟨A,ad,a⟩:=Ka a;refine lE (H z.2 (⟨19,0,z.1,[],f.ga⟩:Kf) 20 c.ga g l m A ad) rfl rfl rfl rfl rfl kx Pf Pf (ZP ?_);refine bA (i:=93) rfl (Wk.of_eq (Kn A.1)) (dV (ds':=(dP A.1 .no)) ?_);refine Zr ?_;refine KI ?_;obtain rfl:=Ke a;refine fH ?_;simp only [ς] at n;refine Ks ?_;obtain rfl:=Ke n;exact YH;refine Zh ?_;refine cY a ?_ ?_<;>intro a;refine Ze ?_;refine pL 2 ?_;refine h7 (r:=[iD 18,iD 0,tD ε,.lst 1 [] .full,iD f.ga]) htab rfl rfl rfl rfl rfl rfl rfl rfl rfl (dV (ds':=[iD 18,iD 0,tD ε,.lst 1 [] .full,iD f.ga]) ?_);refine Zr ?_;refine KI ?_;obtain rfl:=Ke a;refine fH ?_;simp only [ς] at n;refine Ks ?_;obtain rfl:=Ke n;exact retX.wk (WkS.bl1 (ds':=[iD 18,iD 0,tD ε,bQ [],iD f.ga]) aU) (retX.wk (WkS.bl0 (ds':=[b2 c.gL,iD (ζ.wrap (c.ga+1)),iD c.gE]) aU) YH);refine Zh ?_;refine cY a ?_ ?_<;>intro a;refine Ze ?_;refine bN a (J (⟨c.gL,(ζ.wrap (c.ga+1)),c.gE⟩:Kl) 0 g l m) fun t a=>?_;refine bA (i:=102) rfl (Wk.of_eq (Kn t.1)) (Zj fun ai=>?_);refine ib (ds':=(dP t.1 .no)) ?_;refine Zf ?_;refine bN a (jV t.2 fO g l .no) fun aj a=>?_;refine KE (pL (d:=.agg (dP t.1 .no)) 3 ?_);refine dV (ds':=(dP t.1 .no)) ?_;refine Zr ?_;refine KI ?_;obtain rfl:=Ke a;refine fH ?_;simp only [ς] at n;refine Ks ?_;obtain rfl:=Ke n;exact YH;exact Kp (KF (XC a));exact Kp (XC a);intro Q ak ae af;subst ae;simp only [Γ] at n;refine Zb af fun U=>?_;refine ZR ?_;refine bN n (wT (⟨c.gL,(ζ.wrap (c.ga+1)),c.gE⟩:Kl) c.ga 3 g l m) fun al a=>?_;refine KE (X7 ?_);obtain rfl:=Ke a;refine X8 ?_;refine Ww ?_;exact YH
def y2 (g0:(Kl)→(Int)→Option (Kf×Kl))(g1:(Kl)→Option (Kf×Kl))(j:(Kl)→(Kf)→(Int)→(Int)→Option (Kf×Kl))(a:Kl)(b:Kf)(e:Int)(f:Int):Option (Kf×Kl):=
 κ (α:=Bool) (bif a.gE != 0 then some true else (wJ a eH).bind fun g=>some (!g)) fun h=>bif h then some (b,a) else (g0 (⟨a.gL,(ζ.wrap (a.ga+1)),a.gE⟩:Kl) 0).bind fun c=>(KaR c.2 eO).bind fun i=>(Kde i (⟨e,0,b.gb,([c.1]:List Kf),b.ga⟩:Kf) f).bind fun d=>some (d.1,d.2)
def P5 (g0:(Kl)→(Int)→Option (Kf×Kl))(g1:(Kl)→Option (Kf×Kl))(n:(Kl)→(Kf)→(Int)→(Int)→Option (Kf×Kl))(s:CT g0)(B:CS g1)(F:CR n)(b e h k c f j r)(t:y2 g0 g1 n b e h k=some r):Cd 204 [.ptr c 0,Kh e,iD h,iD k] [(c,Blk.cells (eB b j) f)] [] (eN (Kh r.1) c (eB r.2 .no) f):=by
 refine cQ t Tryz.func204 fun C a=>?_;refine We fun o=>?_;refine Zj fun p=>?_;refine Kc (ZC a fun u q w=>?_);refine KS (Y:=Unit) (fun x=>⟨[(0,.ptr c 0),(2,iD h),(3,iD k),(5,.ptr o 0),(8,.ptr p 0),(19,.v (.bool u))],[(c,Blk.cells (eB b j) f),(o,Blk.cells (dP e .no) 149),(p,Blk.cells hJ 149)],[]⟩) ?_ ?_;refine Zw ?_;refine YJ ?_;refine gW (i:=15) rfl (fun l=>?_) fun l=>?_;have a:=cD l (Kx q);iterate 3 refine pK ?_
 exact ZA a;have a:=cE l (Kx q);refine pu ?_;refine bN a (G8 b eH c f j) fun G a=>?_;refine pu ?_;exact ZF a;intro H y;refine Zb y fun x=>?_;refine cY w ?_ ?_<;>intro a;refine Kd (XM ?_);refine eL (ds':=(dP e .no)) ?_;refine Z4 ?_;obtain rfl:=Ke a;refine Ww ?_;exact WW;refine Zm ?_;refine Yy ?_;refine eG (ds':=[dY b.gL j,iD (ζ.wrap (b.ga+1)),iD b.gE]) ?_;refine Zf ?_;refine bN a (s (⟨b.gL,(ζ.wrap (b.ga+1)),b.gE⟩:Kl) 0 c f j) fun g a=>?_;refine bA (i:=29) rfl (Wk.of_eq (Kn g.1)) (Zj fun I=>?_);refine ib (ds':=(dP g.1 .no)) ?_;refine Zf ?_;refine bN a (jV g.2 eO c f .no) fun z a=>?_;refine ZZ ?_;refine pL 1 ?_;refine pL (d:=.agg (dP g.1 .no)) 3 ?_;refine Zo ?_;refine bA (i:=37) (d':=c6 [g.1]) rfl aU (YY ?_);refine h7 (r:=[iD h,iD 0,tD e.gb,c6 [g.1],iD e.ga]) htab rfl rfl rfl rfl rfl rfl rfl rfl rfl (pu ?_);obtain ⟨m,A,a⟩:=Ka a;refine lE (HG z (⟨h,0,e.gb,([g.1]:List Kf),e.ga⟩:Kf) k c f .no m A) rfl rfl rfl rfl rfl kx Pf Pf (ZP ?_);refine bA (i:=42) rfl (Wk.of_eq (Kn m.1)) (eL (ds':=(dP m.1 .no)) ?_);refine Zr ?_;obtain rfl:=Ke a;exact WW
def Kao:Nat→((Kl)→(Int)→Option (Kf×Kl))×((Kl)→Option (Kf×Kl))×((Kl)→(Kf)→(Int)→(Int)→Option (Kf×Kl))
 | 0=>(fun _ _=>none,fun _=>none,fun _ _ _ _=>none)
 | n+1=>(yY ((Kao n).1) ((Kao n).2.1) ((Kao n).2.2),Ck ((Kao n).1) ((Kao n).2.1) ((Kao n).2.2),y2 ((Kao n).1) ((Kao n).2.1) ((Kao n).2.2))
def M4:∀ n,(∀ (b:Kl) (e:Int) (a:Nat) (c:aD) (f:Cap) (r:Kf×Kl) (d:(Kao n).1 b e=some r),Cd 162 [.ptr a 0,iD e] [(a,Blk.cells (eB b f) c)] [] (eN (Kh r.1) a (eB r.2 .no) c))∧(∀ (b:Kl) (a:Nat) (c:aD) (f:Cap) (r:Kf×Kl) (d:(Kao n).2.1 b=some r),Cd 189 [.ptr a 0] [(a,Blk.cells (eB b f) c)] [] (eN (Kh r.1) a (eB r.2 .no) c))∧(∀ (b:Kl) (e:Kf) (g:Int) (h:Int) (a:Nat) (c:aD) (f:Cap) (r:Kf×Kl) (d:(Kao n).2.2 b e g h=some r),Cd 204 [.ptr a 0,Kh e,iD g,iD h] [(a,Blk.cells (eB b f) c)] [] (eN (Kh r.1) a (eB r.2 .no) c))
 | 0=>⟨(fun _ _ _ _ _ _ d=>by cases d),(fun _ _ _ _ _ d=>by cases d),(fun _ _ _ _ _ _ _ _ d=>by cases d)⟩
 |
  n+1=>by
  have ih:=M4 n;exact ⟨P6 ((Kao n).1) ((Kao n).2.1) ((Kao n).2.2) (ih.1) (ih.2.1) (ih.2.2),OI ((Kao n).1) ((Kao n).2.1) ((Kao n).2.2) (ih.1) (ih.2.1) (ih.2.2),P5 ((Kao n).1) ((Kao n).2.1) ((Kao n).2.2) (ih.1) (ih.2.1) (ih.2.2)⟩
def M3:∀ n,(∀ (a:Kl) (b:Int),Le ((Kao n).1 a b) ((Kao (n+1)).1 a b))∧(∀ (a:Kl),Le ((Kao n).2.1 a) ((Kao (n+1)).2.1 a))∧(∀ (a:Kl) (b:Kf) (c:Int) (d:Int),Le ((Kao n).2.2 a b c d) ((Kao (n+1)).2.2 a b c d))
 | 0=>⟨fun _ _=>Le.none _,fun _=>Le.none _,fun _ _ _ _=>Le.none _⟩
 |
  n+1=>by
  have ih:=M3 n
  exact ⟨fun a b=>by show Le (yY ((Kao n).1) ((Kao n).2.1) ((Kao n).2.2) a b) (yY ((Kao (n+1)).1) ((Kao (n+1)).2.1) ((Kao (n+1)).2.2) a b);revert ih;generalize Kao n=G0;generalize Kao (n+1)=G1;intro ih;unfold yY;repeat (first|with_reducible exact Le.refl _|with_reducible exact ih.1 _ _|with_reducible exact ih.2.1 _|with_reducible exact ih.2.2 _ _ _ _|with_reducible assumption|(refine Le.bind ?_ (fun _=>?_))|(refine Le.cond ?_ ?_)|(refine Le.loop (fun _=>?_))|(refine Le.elim (fun _=>?_) (fun _=>?_))),fun a=>by show Le (Ck ((Kao n).1) ((Kao n).2.1) ((Kao n).2.2) a) (Ck ((Kao (n+1)).1) ((Kao (n+1)).2.1) ((Kao (n+1)).2.2) a);revert ih;generalize Kao n=G0;generalize Kao (n+1)=G1;intro ih;unfold Ck;repeat (first|with_reducible exact Le.refl _|with_reducible exact ih.1 _ _|with_reducible exact ih.2.1 _|with_reducible exact ih.2.2 _ _ _ _|with_reducible assumption|(refine Le.bind ?_ (fun _=>?_))|(refine Le.cond ?_ ?_)|(refine Le.loop (fun _=>?_))|(refine Le.elim (fun _=>?_) (fun _=>?_))),fun a b c d=>by show Le (y2 ((Kao n).1) ((Kao n).2.1) ((Kao n).2.2) a b c d) (y2 ((Kao (n+1)).1) ((Kao (n+1)).2.1) ((Kao (n+1)).2.2) a b c d);revert ih;generalize Kao n=G0;generalize Kao (n+1)=G1;intro ih;unfold y2;repeat (first|with_reducible exact Le.refl _|with_reducible exact ih.1 _ _|with_reducible exact ih.2.1 _|with_reducible exact ih.2.2 _ _ _ _|with_reducible assumption|(refine Le.bind ?_ (fun _=>?_))|(refine Le.cond ?_ ?_)|(refine Le.loop (fun _=>?_))|(refine Le.elim (fun _=>?_) (fun _=>?_)))⟩
def G7 (a:Kl)(b:Int):Option (Kf×Kl):=gK fun n=>(Kao n).1 a b
def Ph (a:Kl)(b:Int){r:Kf×Kl}(n:Nat)(h:(Kao n).1 a b=some r):G7 a b=some r:=kU (fun m=>(M3 m).1 a b) h
def Pe (b c a d e r)(f:G7 b c=some r):Cd 162 [.ptr a 0,iD c] [(a,Blk.cells (eB b e) d)] [] (eN (Kh r.1) a (eB r.2 .no) d):=
 let ⟨n,hn⟩:=kq f;(M4 n).1 b c a d e r hn
def Kbr (a:Kl):Option (Kf×Kl):=
 bif a.gE != 0 then some (jK,a) else (G7 a 0).bind fun b=>some (b.1,b.2)
def Ai (c b d e r)(g:Kbr c=some r):Cd 135 [.ptr b 0] [(b,Blk.cells (eB c e) d)] [] (eN (Kh r.1) b (eB r.2 .no) d):=by
 refine cQ g Tryz.func135 fun C a=>?_;refine Z5 fun h=>?_;refine Kc (Yx ?_);refine cY a ?_ ?_<;>intro a;refine Kd (X7 ?_);refine Ks ?_;obtain rfl:=Ke a;refine X8 ?_;refine Ww ?_;exact YH;refine Yv ?_;refine bN a (Pe c 0 b d e) fun f a=>?_;refine bA (i:=10) rfl (Wk.of_eq (Kn f.1)) (dV (ds':=(dP f.1 .no)) ?_);refine Zr ?_;obtain rfl:=Ke a;exact YH
def Dn (g:Kl):Option (List Kf×Kl):=
 (KaR g fJ).bind fun h=>(lc h fO).bind fun f=>bif f.1 then some (([]:List Kf),f.2) else (Kbr f.2).bind fun c=>(app 64 ([]:List Kf) ([c.1]:List Kf)).bind fun i=>κ (α:=List Kf×List KJ×Int×Int) (aE (fun (a:List Kf×List KJ×Int×Int)=>(lc (⟨a.2.1,a.2.2.1,a.2.2.2⟩:Kl) i3).bind fun b=>bif b.1 then (Kbr b.2).bind fun d=>(app 64 a.1 ([d.1]:List Kf)).bind fun j=>some (.next (j,d.2.gL,d.2.ga,d.2.gE)) else some (.done (a.1,b.2.gL,b.2.ga,b.2.gE))) (i,c.2.gL,c.2.ga,c.2.gE)) fun e=>(KaR (⟨e.2.1,e.2.2.1,e.2.2.2⟩:Kl) fO).bind fun k=>some (e.1,k)
def Pd (j b c h r)(q:Dn j=some r):Cd 188 [.ptr b 0] [(b,Blk.cells (eB j h) c)] [] (oF 5 b (eB r.2 .no) c fun s=>b8 r.1 s):=by
 refine cQ q Tryz.func188 fun C a=>?_;refine Y2 ?_;refine Zf ?_;refine bN a (jV j fJ b c h) fun t a=>?_;refine Yt ?_;refine bN a (wi t fO b c h) fun l a=>?_;refine Kc ?_;refine cY a ?_ ?_<;>intro a;refine ZT ?_;obtain rfl:=Ke a;refine retX.tokN (i:=2) 5 rfl fun m=>?_;refine retX.wk (WkS.bl0 (ds':=(eB l.2 .no)) aU) (rP (t':=[(2,b8 [] m)]) [0] [0] 1 aU bU ?_);exact ⟨m,rfl,rfl,rfl⟩;refine YW ?_;refine bN a (Ai l.2 b c h) fun n a=>?_;refine bA (i:=10) rfl (Wk.of_eq (Kn n.1)) (Zo ?_);refine bA (i:=11) (d':=c6 [n.1]) rfl aU ?_;obtain ⟨B,o,a⟩:=Ka a;refine ma htab rfl rfl rfl rfl rfl rfl rfl rfl rfl rfl rfl rfl rfl rfl rfl (by simpa using tg (e:=Kh) o) fun F=>?_;refine GD (i:=12) o rfl (Zd ?_);refine Zl a fun d u v=>?_;refine KS (fun g=>⟨[(0,.ptr b 0),(3,b8 d.1 g)],[(b,Blk.cells [b2 d.2.1,iD d.2.2.1,iD d.2.2.2] c)],[(5,g)]⟩) ?_ ?_;refine Zk u fun G w x=>?_;refine d7 w (fun f k=>⟨[(0,.ptr b 0),(3,b8 f.1 k)],[(b,Blk.cells [b2 f.2.1,iD f.2.2.1,iD f.2.2.2] c)],[(5,k)]⟩) ?_ ?_;exact ZG;intro G26 f k a;refine Zx ?_;refine bN a (wi (⟨f.2.1,f.2.2.1,f.2.2.2⟩:Kl) i3 b c .no) fun y a=>?_;refine Kc ?_;refine cY a ?_ ?_<;>intro a;refine YV ?_;refine ZH ?_;refine bN a (Ai y.2 b c .no) fun p a=>?_;refine bA (i:=17) rfl (Wk.of_eq (Kn p.1)) (Zo ?_);refine bA (i:=18) (d':=c6 [p.1]) rfl aU (Z6 a fun H z a I=>?_);refine jo (i:=19) z rfl (pu ?_);refine Y9 a ?_;exact ZG;exact Yf a x;intro J A;refine Z9 A fun g=>?_;refine bN v (jV (⟨d.2.1,d.2.2.1,d.2.2.2⟩:Kl) fO b c .no) fun K a=>?_;refine Zf ?_;refine Zi ?_;obtain rfl:=Ke a;refine rP (t':=[(2,b8 d.1 g)]) [0] [0] 1 aU bU ?_;exact ⟨g,rfl,rfl,rfl⟩
def yX (d:Kl)(a:Kk):Option (Kk×Kl):=
 (Kcv d).bind fun b=>(Dn b.2).bind fun c=>(KaR c.2 eM).bind fun e=>some ((⟨(4:Int),a.gb,b.1,c.1,a.gd,a.gr,a.ga⟩:Kk),e)
def Mk (h a c f i r)(k:yX h a=some r):Cd 161 [.ptr c 0,Kg a] [(c,Blk.cells (eB h i) f)] [] (eN (Kg r.1) c (eB r.2 .no) f):=by
 refine cQ k Tryz.func161 fun C b=>?_;refine XR fun l=>?_;refine Zj fun m=>?_;refine Zf ?_;refine dV (ds':=[iD 4,tD a.gb,tD a.gy,bQ a.gn,aI a.gd,aI a.gr,iD a.ga]) ?_;refine Zf ?_;refine bN b (Aj h c f i) fun e b=>?_;refine pu ?_;refine dV (ds':=[iD 4,tD a.gb,tD e.1,bQ a.gn,aI a.gd,aI a.gr,iD a.ga]) ?_;refine Zf ?_;refine fy b (Pd e.2 c f i) fun g b=>?_;refine Ya fun j=>?_;refine dV (ds':=[iD 4,tD a.gb,tD e.1,b8 g.1 j,aI a.gd,aI a.gr,iD a.ga]) ?_;refine Zf ?_;refine bN b (jV g.2 eM c f .no) fun n b=>?_;refine KE (pL (d:=.agg [iD 4,tD a.gb,tD e.1,b8 g.1 j,aI a.gd,aI a.gr,iD a.ga]) 1 ?_);refine eL (ds':=[iD 4,tD a.gb,tD e.1,b8 g.1 j,aI a.gd,aI a.gr,iD a.ga]) ?_;refine Zr ?_;obtain rfl:=Ke b;exact retX.wk (WkS.bl2 (ds':=[iD 4,tD a.gb,tD e.1,bQ g.1,aI a.gd,aI a.gr,iD a.ga]) aU) Xf
def FD (d:Kl)(a:Kk):Option (Kk×Kl):=
 (Do d (1:Int)).bind fun f=>κ (α:=Bool) (bif f.gp==(3:Int) then some (decide (f.gq=fJ)) else some false) fun m=>bif m then (yX d a).bind fun g=>some (g.1,g.2) else (Kcv d).bind fun c=>(lc c.2 eH).bind fun e=>bif e.1 then (Kbr e.2).bind fun h=>(KaR h.2 eO).bind fun n=>(KaR n gJ).bind fun o=>(Kbr o).bind fun i=>(KaR i.2 eM).bind fun p=>some ((⟨(2:Int),c.1,a.gy,([h.1,i.1]:List Kf),a.gd,a.gr,a.ga⟩:Kk),p) else (KaR e.2 gJ).bind fun q=>(lc q ke).bind fun b=>bif b.1 then (KaR b.2 fJ).bind fun r=>(KaR r fO).bind fun s=>(KaR s eM).bind fun t=>some ((⟨(5:Int),c.1,a.gy,a.gn,a.gd,a.gr,a.ga⟩:Kk),t) else (Do b.2 (1:Int)).bind fun j=>κ (α:=Bool) ((lf b.2).bind fun u=>bif u.gp==(1:Int) then bif j.gp==(3:Int) then some (decide (j.gq=fJ)) else some false else some false) fun v=>bif v then (yX b.2 (⟨a.gj,c.1,a.gy,a.gn,a.gd,a.gr,a.ga⟩:Kk)).bind fun k=>some (k.1,k.2) else (Kbr b.2).bind fun l=>(KaR l.2 eM).bind fun w=>some ((⟨(1:Int),c.1,a.gy,([l.1]:List Kf),a.gd,a.gr,a.ga⟩:Kk),w)
def Pb (l a c e g r)(w:FD l a=some r):Cd 134 [.ptr c 0,Kg a] [(c,Blk.cells (eB l g) e)] [] (eN (Kg r.1) c (eB r.2 .no) e):=by
 refine cQ w Tryz.func134 fun C b=>?_;refine XR fun n=>?_;refine Zj fun o=>?_;refine Zf ?_;refine bN b (MU l 1 c e g) fun x b=>?_;refine Zj fun R=>?_;refine ib (ds':=(gR x)) ?_;refine Kc (ZC b fun y s z=>?_);refine KS (Y:=Unit) (fun A=>⟨[(0,.ptr c 0),(3,.ptr n 0),(4,.ptr o 0),(18,.v (.bool y))],[(c,Blk.cells (eB l g) e),(n,Blk.cells (fv a .no .no .no) 105),(o,Blk.cells rY 105)],[]⟩) ?_ ?_;refine Zs ?_;refine pL 3 ?_;refine Zg ?_;refine gW (i:=14) rfl (fun p=>?_) fun p=>?_;have b:=cD p (Kx s);refine XS ?_;exact ZA b;have b:=cE p (Kx s);exact Y4 b;intro U B;refine Zb B fun A=>?_;refine cY z ?_ ?_<;>intro b;refine Ze ?_;refine X1 ?_;refine bN b (Mk l a c e g) fun t b=>?_;refine bA (i:=21) rfl (Wk.of_eq (KM t.1)) (eL (ds':=(fv t.1 .no .no .no)) ?_);refine Z4 ?_;obtain rfl:=Ke b;exact Xf;refine Yv ?_;refine bN b (Aj l c e g) fun f b=>?_;refine pu ?_;refine dV (ds':=[iD a.gj,tD f.1,tD a.gy,bQ a.gn,aI a.gd,aI a.gr,iD a.ga]) ?_;refine Yt ?_;refine bN b (wi f.2 eH c e g) fun u b=>?_;refine Kc ?_;refine cY b ?_ ?_<;>intro b;refine Ze ?_;refine dV (ds':=[iD 2,tD f.1,tD a.gy,bQ a.gn,aI a.gd,aI a.gr,iD a.ga]) ?_;refine Zf ?_;refine bN b (Ai u.2 c e g) fun h b=>?_;refine bA (i:=29) rfl (Wk.of_eq (Kn h.1)) (Zj fun V=>?_);refine ib (ds':=(dP h.1 .no)) ?_;refine Zf ?_;refine bN b (jV h.2 eO c e .no) fun F b=>?_;refine Zf ?_;refine bN b (jV F gJ c e .no) fun G b=>?_;refine Zf ?_;refine bN b (Ai G c e .no) fun j b=>?_;refine bA (i:=35) rfl (Wk.of_eq (Kn j.1)) (Zj fun W=>?_);refine Ir (ds':=(dP j.1 .no)) ?_;refine KE (pL (d:=.agg (dP h.1 .no)) 3 ?_);refine pL (d:=.agg (dP j.1 .no)) 4 ?_;refine Zo ?_;refine bA (i:=38) (d':=c6 [h.1,j.1]) rfl aU (pu ?_);refine dV (ds':=[iD 2,tD f.1,tD a.gy,c6 [h.1,j.1],aI a.gd,aI a.gr,iD a.ga]) ?_;refine Zf ?_;refine bN b (jV j.2 eM c e .no) fun X b=>?_;refine KE (pL (d:=.agg [iD 2,tD f.1,tD a.gy,c6 [h.1,j.1],aI a.gd,aI a.gr,iD a.ga]) 1 ?_);refine eL (ds':=[iD 2,tD f.1,tD a.gy,c6 [h.1,j.1],aI a.gd,aI a.gr,iD a.ga]) ?_;refine Z4 ?_;obtain rfl:=Ke b;exact retX.wk (WkS.bl2 (ds':=[iD 2,tD f.1,tD a.gy,bQ [h.1,j.1],aI a.gd,aI a.gr,iD a.ga]) aU) Xf;refine Yv ?_;refine bN b (jV u.2 gJ c e g) fun H b=>?_;refine Yt ?_;refine bN b (wi H ke c e g) fun m b=>?_;refine Kc ?_;refine cY b ?_ ?_<;>intro b;refine Ze ?_;refine dV (ds':=[iD 5,tD f.1,tD a.gy,bQ a.gn,aI a.gd,aI a.gr,iD a.ga]) ?_;refine Zf ?_;refine bN b (jV m.2 fJ c e g) fun I b=>?_;refine Zf ?_;refine bN b (jV I fO c e g) fun J b=>?_;refine Zf ?_;refine bN b (jV J eM c e g) fun Z b=>?_;refine KE (pL (d:=.agg [iD 5,tD f.1,tD a.gy,bQ a.gn,aI a.gd,aI a.gr,iD a.ga]) 1 ?_);refine eL (ds':=[iD 5,tD f.1,tD a.gy,bQ a.gn,aI a.gd,aI a.gr,iD a.ga]) ?_;refine Z4 ?_;obtain rfl:=Ke b;refine Ww ?_;exact Xf;refine Yv ?_;refine bN b (MU m.2 1 c e g) fun K b=>?_;refine Zj fun aa=>?_;refine ib (ds':=(gR K)) ?_;refine Kc (ZC b fun L M N=>?_);refine KS (Y:=Unit) (fun O=>⟨[(0,.ptr c 0),(3,.ptr n 0),(4,.ptr o 0),(70,.v (.bool L))],[(c,Blk.cells (eB m.2 g) e),(n,Blk.cells [iD a.gj,tD f.1,tD a.gy,bQ a.gn,aI a.gd,aI a.gr,iD a.ga] 105),(o,Blk.cells rY 105)],[]⟩) ?_ ?_;refine Zs ?_;refine bN (Kx M) (s6 m.2 c e g) fun ac b=>?_;iterate 3 refine pu ?_
 refine g6 (i:=61) b ?_ ?_<;>intro b;refine XS ?_;refine YF ?_;refine g6 (i:=66) b ?_ ?_<;>intro b;refine XS ?_;exact ZA b;exact Y4 b;iterate 3 refine pK ?_
 refine Z2 ?_;exact Y4 b;intro ad P;refine Zb P fun O=>?_;refine cY N ?_ ?_<;>intro b;refine Ze ?_;refine pL (d:=.agg [iD a.gj,tD f.1,tD a.gy,bQ a.gn,aI a.gd,aI a.gr,iD a.ga]) 1 ?_;obtain ⟨q,Q,b⟩:=Ka b;refine lE (Mk m.2 (⟨a.gj,f.1,a.gy,a.gn,a.gd,a.gr,a.ga⟩:Kk) c e g q Q) rfl rfl rfl rfl rfl kx Pf Pf (ZP ?_);refine bA (i:=73) rfl (Wk.of_eq (KM q.1)) (eL (ds':=(fv q.1 .no .no .no)) ?_);refine Z4 ?_;obtain rfl:=Ke b;exact Xf;refine Yv ?_;refine dV (ds':=[iD 1,tD f.1,tD a.gy,bQ a.gn,aI a.gd,aI a.gr,iD a.ga]) ?_;refine Zf ?_;refine bN b (Ai m.2 c e g) fun k b=>?_;refine bA (i:=76) rfl (Wk.of_eq (Kn k.1)) (Zo ?_);refine bA (i:=77) (d':=c6 [k.1]) rfl aU (pu ?_);refine dV (ds':=[iD 1,tD f.1,tD a.gy,c6 [k.1],aI a.gd,aI a.gr,iD a.ga]) ?_;refine Zf ?_;refine bN b (jV k.2 eM c e .no) fun ae b=>?_;refine KE (pL (d:=.agg [iD 1,tD f.1,tD a.gy,c6 [k.1],aI a.gd,aI a.gr,iD a.ga]) 1 ?_);refine eL (ds':=[iD 1,tD f.1,tD a.gy,c6 [k.1],aI a.gd,aI a.gr,iD a.ga]) ?_;refine Zr ?_;obtain rfl:=Ke b;exact retX.wk (WkS.bl2 (ds':=[iD 1,tD f.1,tD a.gy,bQ [k.1],aI a.gd,aI a.gr,iD a.ga]) aU) Xf
def Dd (b:Kl):Option (List Kf×Kl):=
 (KaR b fJ).bind fun c=>(Kbr c).bind fun a=>(KaR a.2 fO).bind fun d=>some (([a.1]:List Kf),d)
def JD (f b e g r)(j:Dd f=some r):Cd 136 [.ptr b 0] [(b,Blk.cells (eB f g) e)] [] (oF 5 b (eB r.2 .no) e fun k=>b8 r.1 k):=by
 refine cQ j Tryz.func136 fun C a=>?_;refine Y2 ?_;refine bN a (jV f fJ b e g) fun l a=>?_;refine Zf ?_;refine bN a (Ai l b e g) fun c a=>?_;refine bA (i:=7) rfl (Wk.of_eq (Kn c.1)) (Zj fun m=>?_);refine dV (ds':=(dP c.1 .no)) ?_;refine Zf ?_;refine bN a (jV c.2 fO b e .no) fun n a=>?_;refine KE (pL (d:=.agg (dP c.1 .no)) 1 ?_);refine Zo ?_;refine bA (i:=11) (d':=c6 [c.1]) rfl aU (Zi ?_);obtain rfl:=Ke a;refine retX.tokF (i:=2) rfl fun h=>?_;refine rP (t':=[(2,b8 [c.1] h)]) [0] [0] 1 aU bU ?_;exact ⟨h,rfl,rfl,rfl⟩
end
section
open Go
set_option maxRecDepth 100000
def Fy (g0:(Kl)→(Int)→Option (List Kk×Kl))(g1:(Kl)→(Int)→Option (Kk×Kl))(i:(Kl)→(Int)→Option (List Kk×Kl))(f:Kl)(g:Int):Option (List Kk×Kl):=
 κ (α:=List Kk×List KJ×Int×Int) (aE (fun (a:List Kk×List KJ×Int×Int)=>κ (α:=Bool×List KJ×Int×Int) (bif a.2.2.2==0 then (lc (⟨a.2.1,a.2.2.1,a.2.2.2⟩:Kl) iw).bind fun c=>some ((!c.1),c.2.gL,c.2.ga,c.2.gE) else some (false,a.2.1,a.2.2.1,a.2.2.2)) fun b=>bif b.1 then (g1 (⟨b.2.1,b.2.2.1,b.2.2.2⟩:Kl) g).bind fun d=>(app 120 a.1 ([d.1]:List Kk)).bind fun h=>some (.next (h,d.2.gL,d.2.ga,d.2.gE)) else some (.done (a.1,b.2.1,b.2.2.1,b.2.2.2))) (([]:List Kk),f.gL,f.ga,f.gE)) fun e=>some (e.1,(⟨e.2.1,e.2.2.1,e.2.2.2⟩:Kl))
def CQ (g:(Kl)→(Int)→Option (List Kk×Kl)):Prop:=∀ (e:Kl) (d:Int) (a:Nat) (b:aD) (h:Cap) (r:List Kk×Kl) (o:g e d=some r),Cd 79 [.ptr a 0,iD d] [(a,Blk.cells (eB e h) b)] [] (oF 7 a (eB r.2 .no) b fun k=>bV r.1 k)
def CP (g:(Kl)→(Int)→Option (Kk×Kl)):Prop:=∀ (e:Kl) (d:Int) (a:Nat) (b:aD) (h:Cap) (r:Kk×Kl) (o:g e d=some r),Cd 106 [.ptr a 0,iD d] [(a,Blk.cells (eB e h) b)] [] (eN (Kg r.1) a (eB r.2 .no) b)
def CO (g:(Kl)→(Int)→Option (List Kk×Kl)):Prop:=∀ (e:Kl) (d:Int) (a:Nat) (b:aD) (h:Cap) (r:List Kk×Kl) (o:g e d=some r),Cd 137 [.ptr a 0,iD d] [(a,Blk.cells (eB e h) b)] [] (oF 7 a (eB r.2 .no) b fun k=>bV r.1 k)
def OH (g0:(Kl)→(Int)→Option (List Kk×Kl))(g1:(Kl)→(Int)→Option (Kk×Kl))(q:(Kl)→(Int)→Option (List Kk×Kl))(I:CQ g0)(u:CP g1)(J:CO q)(e d a b h r)(o:Fy g0 g1 q e d=some r):Cd 79 [.ptr a 0,iD d] [(a,Blk.cells (eB e h) b)] [] (oF 7 a (eB r.2 .no) b fun k=>bV r.1 k):=by
 refine cQ o Tryz.func79 fun C c=>?_;refine Ze ?_;refine Yk ?_;refine Zl c fun l w x=>?_;refine KS (fun m=>⟨[(5,bV l.1 m)],[(a,Blk.cells [b2 l.2.1,iD l.2.2.1,iD l.2.2.2] b)],[(7,m)]⟩) ?_ ?_;refine Zk w fun K y z=>?_;refine d7 y (fun f n=>⟨[(0,.ptr a 0),(1,iD d),(5,bV f.1 n)],[(a,Blk.cells [b2 f.2.1,iD f.2.2.1,iD f.2.2.2] b)],[(7,n)]⟩) ?_ ?_;refine WkX.tokN (i:=5) 7 rfl fun L=>?_;exact WkX.wk (WkS.bl0 (ds':=(eB e .no)) aU) ZG;intro G31 f n c;refine ZC c fun j s A=>?_;refine KS (Y:=Unit) (fun B=>⟨[(0,.ptr a 0),(1,iD d),(5,bV f.1 n),(15,.v (.bool j.1))],[(a,Blk.cells [b2 j.2.1,iD j.2.2.1,iD j.2.2.2] b)],[(7,n)]⟩) ?_ ?_;refine Zw ?_;refine YJ ?_;refine gW (i:=11) rfl (fun p=>?_) fun p=>?_;have c:=cD p (Kx s);refine pu ?_;refine bN c (wi (⟨f.2.1,f.2.2.1,f.2.2.2⟩:Kl) iw a b .no) fun M c=>?_;refine pu ?_;exact ZA c;have c:=cE p (Kx s);exact Y4 c;intro N F;refine Zb F fun B=>?_;refine cY A ?_ ?_<;>intro c;refine YV ?_;refine Zw ?_;refine bN c (u (⟨j.2.1,j.2.2.1,j.2.2.2⟩:Kl) d a b .no) fun t c=>?_;refine bA (i:=19) rfl (Wk.of_eq (KM t.1)) (Zo ?_);refine bA (i:=20) (d':=ox [t.1]) rfl aU (Z6 c fun O G c P=>?_);refine jo (i:=21) G rfl (pu ?_);refine Y9 c ?_;exact ZG;exact Yf c z;intro Q H;refine Z9 H fun m=>?_;refine Zi ?_;obtain rfl:=Ke x;refine rP (t':=[(4,bV l.1 m)]) [0] [0] 1 aU bU ?_;exact ⟨m,rfl,rfl,rfl⟩
def y1 (g0:(Kl)→(Int)→Option (List Kk×Kl))(g1:(Kl)→(Int)→Option (Kk×Kl))(d:(Kl)→(Int)→Option (List Kk×Kl))(a:Kl)(e:Int):Option (Kk×Kl):=
 (lf a).bind fun b=>bif b.gp==(1:Int) then (FD a (⟨(0:Int),ε,ε,[],[],[],b.ga⟩:Kk)).bind fun i=>some (i.1,i.2) else κ (α:=η) (bif b.gp==(3:Int) then some b.gq else some (ν #[])) fun c=>bif decide (c=gZ) then (Kcv (⟨a.gL,(ζ.wrap (a.ga+(1:Int))),a.gE⟩:Kl)).bind fun j=>(KaR j.2 gJ).bind fun q=>(Kbr q).bind fun k=>(KaR k.2 eM).bind fun r=>some ((⟨(3:Int),j.1,ε,([k.1]:List Kf),[],[],b.ga⟩:Kk),r) else bif decide (c=kZ) then (Dd (⟨a.gL,(ζ.wrap (a.ga+(1:Int))),a.gE⟩:Kl)).bind fun f=>(d f.2 e).bind fun g=>(lc g.2 kI).bind fun h=>bif h.1 then (d h.2 e).bind fun l=>some ((⟨(6:Int),ε,ε,f.1,g.1,l.1,b.ga⟩:Kk),l.2) else some ((⟨(6:Int),ε,ε,f.1,g.1,[],b.ga⟩:Kk),h.2) else bif decide (c=k3) then (Dd (⟨a.gL,(ζ.wrap (a.ga+(1:Int))),a.gE⟩:Kl)).bind fun m=>(d m.2 e).bind fun n=>some ((⟨(7:Int),ε,ε,m.1,n.1,[],b.ga⟩:Kk),n.2) else bif decide (c=k5) then (Kbr (⟨a.gL,(ζ.wrap (a.ga+(1:Int))),a.gE⟩:Kl)).bind fun o=>(KaR o.2 eM).bind fun s=>some ((⟨(8:Int),ε,ε,([o.1]:List Kf),[],[],b.ga⟩:Kk),s) else bif decide (c=k4) then (Dd (⟨a.gL,(ζ.wrap (a.ga+(1:Int))),a.gE⟩:Kl)).bind fun p=>(KaR p.2 eM).bind fun t=>some ((⟨(9:Int),ε,ε,p.1,[],[],b.ga⟩:Kk),t) else (mv a a.ga (3:Int)).bind fun u=>some ((⟨(0:Int),ε,ε,[],[],[],b.ga⟩:Kk),u)
def OG (g0:(Kl)→(Int)→Option (List Kk×Kl))(g1:(Kl)→(Int)→Option (Kk×Kl))(F:(Kl)→(Int)→Option (List Kk×Kl))(R:CQ g0)(U:CP g1)(x:CO F)(c o e f g r)(I:y1 g0 g1 F c o=some r):Cd 106 [.ptr e 0,iD o] [(e,Blk.cells (eB c g) f)] [] (eN (Kg r.1) e (eB r.2 .no) f):=by
 refine cQ I Tryz.func106 fun C a=>?_;refine Z5 fun G=>?_;refine Zf ?_;refine bN a (s6 c e f g) fun b a=>?_;refine Zj fun V=>?_;refine eL (ds':=(gR b)) ?_;refine Zf ?_;refine pL 2 ?_;refine h7 (r:=[iD 0,tD ε,tD ε,.lst 1 [] .full,.lst 1 [] .full,.lst 1 [] .full,iD b.ga]) htab rfl rfl rfl rfl rfl rfl rfl rfl rfl (Zj fun H=>?_);refine ib (ds':=[iD 0,tD ε,tD ε,.lst 1 [] .full,.lst 1 [] .full,.lst 1 [] .full,iD b.ga]) ?_;refine Yt ?_;refine pL 2 ?_;refine Zd ?_;refine cY a ?_ ?_<;>intro a;refine Ze ?_;refine pL (d:=.agg [iD 0,tD ε,tD ε,.lst 1 [] .full,.lst 1 [] .full,.lst 1 [] .full,iD b.ga]) 3 ?_;obtain ⟨y,J,a⟩:=Ka a;refine lE (Pb c (⟨0,ε,ε,[],[],[],b.ga⟩:Kk) e f g y J) rfl rfl rfl rfl rfl kx Pf Pf (ZP ?_);refine bA (i:=18) rfl (Wk.of_eq (KM y.1)) (dV (ds':=(fv y.1 .no .no .no)) ?_);refine Z4 ?_;obtain rfl:=Ke a;refine XH ?_;exact Y3;refine Zm ?_;refine ZQ ?_;refine Zx ?_;refine pL 2 ?_;refine Zd ?_;obtain ⟨K,L,M⟩:=Ka a;refine KS (Y:=Unit) (fun N=>⟨[(0,.ptr e 0),(1,iD o),(4,.ptr G 0),(6,.ptr H 0),(7,tD K)],[(e,Blk.cells (eB c g) f),(G,Blk.cells rY 105),(H,Blk.cells [iD 0,tD ε,tD ε,.lst 1 [] .full,.lst 1 [] .full,.lst 1 [] .full,iD b.ga] 105)],[]⟩) ?_ ?_;refine cY (Kx L) (fun a=>?_) fun a=>?_;refine Zs ?_;refine pL 2 ?_;refine pu ?_;refine Kw ?_;obtain rfl:=Ke a;refine ⟨rfl,?_⟩;exact wO (WkS.perm aU ((KO (j:=0) rfl).trans (χ _ ((KO (j:=0) rfl).trans (χ _ ((KO (j:=1) rfl).trans (χ _ Pf)))))) Pf);refine Kp ?_;obtain rfl:=Ke a;refine ⟨rfl,?_⟩;exact wO (WkS.perm aU ((KO (j:=0) rfl).trans (χ _ ((KO (j:=0) rfl).trans (χ _ ((KO (j:=1) rfl).trans (χ _ Pf)))))) Pf);intro W O;refine Zb O fun N=>?_;refine Kj (ZQ ?_);refine KD (Zh ?_);refine cY M ?_ ?_<;>intro a;refine Yy ?_;refine eG (ds':=[dY c.gL g,iD (ζ.wrap (c.ga+1)),iD c.gE]) ?_;refine Zf ?_;refine eL (ds':=[iD 3,tD ε,tD ε,.lst 1 [] .full,.lst 1 [] .full,.lst 1 [] .full,iD b.ga]) ?_;refine Zf ?_;refine bN a (Aj (⟨c.gL,(ζ.wrap (c.ga+1)),c.gE⟩:Kl) e f g) fun p a=>?_;refine pu ?_;refine eL (ds':=[iD 3,tD p.1,tD ε,.lst 1 [] .full,.lst 1 [] .full,.lst 1 [] .full,iD b.ga]) ?_;refine Zf ?_;refine bN a (jV p.2 gJ e f g) fun P a=>?_;refine Zf ?_;refine bN a (Ai P e f g) fun l a=>?_;refine bA (i:=47) rfl (Wk.of_eq (Kn l.1)) (Zo ?_);refine bA (i:=48) (d':=c6 [l.1]) rfl aU (pu ?_);refine eL (ds':=[iD 3,tD p.1,tD ε,c6 [l.1],.lst 1 [] .full,.lst 1 [] .full,iD b.ga]) ?_;refine YR ?_;refine bN a (jV l.2 eM e f .no) fun X a=>?_;refine Y7 ?_;refine pL (d:=.agg [iD 3,tD p.1,tD ε,c6 [l.1],.lst 1 [] .full,.lst 1 [] .full,iD b.ga]) 2 ?_;refine dV (ds':=[iD 3,tD p.1,tD ε,c6 [l.1],.lst 1 [] .full,.lst 1 [] .full,iD b.ga]) ?_;refine Zr ?_;obtain rfl:=Ke a;refine retX.wk (WkS.bl1 (ds':=[iD 3,tD p.1,tD ε,bQ [l.1],aI [],aI [],iD b.ga]) aU) (XH ?_);exact Y3;refine Zh ?_;refine cY a ?_ ?_<;>intro a;refine Yy ?_;refine eG (ds':=[dY c.gL g,iD (ζ.wrap (c.ga+1)),iD c.gE]) ?_;refine Zf ?_;refine eL (ds':=[iD 6,tD ε,tD ε,.lst 1 [] .full,.lst 1 [] .full,.lst 1 [] .full,iD b.ga]) ?_;refine Zf ?_;refine fy a (JD (⟨c.gL,(ζ.wrap (c.ga+1)),c.gE⟩:Kl) e f g) fun h a=>?_;refine Ya fun m=>?_;refine eL (ds':=[iD 6,tD ε,tD ε,b8 h.1 m,.lst 1 [] .full,.lst 1 [] .full,iD b.ga]) ?_;refine ZW ?_;refine fy a (x h.2 o e f .no) fun k a=>?_;refine Ya fun q=>?_;refine eL (ds':=[iD 6,tD ε,tD ε,b8 h.1 m,bV k.1 q,.lst 1 [] .full,iD b.ga]) ?_;refine Zf ?_;refine bN a (wi k.2 kI e f .no) fun Q a=>?_;refine Kc ?_;refine cY a ?_ ?_<;>intro a;refine ZH ?_;refine fy a (x Q.2 o e f .no) fun u a=>?_;refine Ya fun z=>?_;refine eL (ds':=[iD 6,tD ε,tD ε,b8 h.1 m,bV k.1 q,bV u.1 z,iD b.ga]) ?_;refine Y7 ?_;refine pL (d:=.agg [iD 6,tD ε,tD ε,b8 h.1 m,bV k.1 q,bV u.1 z,iD b.ga]) 2 ?_;refine dV (ds':=[iD 6,tD ε,tD ε,b8 h.1 m,bV k.1 q,bV u.1 z,iD b.ga]) ?_;refine Zr ?_;obtain rfl:=Ke a;refine retX.wk (WkS.bl1 (ds':=[iD 6,tD ε,tD ε,bQ h.1,aI k.1,aI u.1,iD b.ga]) aU) (XH ?_);exact Y3;refine Kp (XK ?_);refine pL (d:=.agg [iD 6,tD ε,tD ε,b8 h.1 m,bV k.1 q,.lst 1 [] .full,iD b.ga]) 2 ?_;refine dV (ds':=[iD 6,tD ε,tD ε,b8 h.1 m,bV k.1 q,.lst 1 [] .full,iD b.ga]) ?_;refine Zr ?_;obtain rfl:=Ke a;refine retX.wk (WkS.bl1 (ds':=[iD 6,tD ε,tD ε,bQ h.1,aI k.1,aI [],iD b.ga]) aU) (XH ?_);exact Y3;refine Zh ?_;refine cY a ?_ ?_<;>intro a;refine Yy ?_;refine eG (ds':=[dY c.gL g,iD (ζ.wrap (c.ga+1)),iD c.gE]) ?_;refine Zf ?_;refine eL (ds':=[iD 7,tD ε,tD ε,.lst 1 [] .full,.lst 1 [] .full,.lst 1 [] .full,iD b.ga]) ?_;refine Zf ?_;refine fy a (JD (⟨c.gL,(ζ.wrap (c.ga+1)),c.gE⟩:Kl) e f g) fun s a=>?_;refine Ya fun v=>?_;refine eL (ds':=[iD 7,tD ε,tD ε,b8 s.1 v,.lst 1 [] .full,.lst 1 [] .full,iD b.ga]) ?_;refine Kc (ZH ?_);refine fy a (x s.2 o e f .no) fun w a=>?_;refine Ya fun A=>?_;refine eL (ds':=[iD 7,tD ε,tD ε,b8 s.1 v,bV w.1 A,.lst 1 [] .full,iD b.ga]) ?_;refine Y7 ?_;refine pL (d:=.agg [iD 7,tD ε,tD ε,b8 s.1 v,bV w.1 A,.lst 1 [] .full,iD b.ga]) 2 ?_;refine dV (ds':=[iD 7,tD ε,tD ε,b8 s.1 v,bV w.1 A,.lst 1 [] .full,iD b.ga]) ?_;refine Zr ?_;obtain rfl:=Ke a;refine retX.wk (WkS.bl1 (ds':=[iD 7,tD ε,tD ε,bQ s.1,aI w.1,aI [],iD b.ga]) aU) (XH ?_);exact Y3;refine Zh ?_;refine cY a ?_ ?_<;>intro a;refine Yy ?_;refine eG (ds':=[dY c.gL g,iD (ζ.wrap (c.ga+1)),iD c.gE]) ?_;refine Zf ?_;refine eL (ds':=[iD 8,tD ε,tD ε,.lst 1 [] .full,.lst 1 [] .full,.lst 1 [] .full,iD b.ga]) ?_;refine Zf ?_;refine bN a (Ai (⟨c.gL,(ζ.wrap (c.ga+1)),c.gE⟩:Kl) e f g) fun n a=>?_;refine bA (i:=103) rfl (Wk.of_eq (Kn n.1)) (Zo ?_);refine bA (i:=104) (d':=c6 [n.1]) rfl aU (pu ?_);refine eL (ds':=[iD 8,tD ε,tD ε,c6 [n.1],.lst 1 [] .full,.lst 1 [] .full,iD b.ga]) ?_;refine YR ?_;refine bN a (jV n.2 eM e f .no) fun Z a=>?_;refine Y7 ?_;refine pL (d:=.agg [iD 8,tD ε,tD ε,c6 [n.1],.lst 1 [] .full,.lst 1 [] .full,iD b.ga]) 2 ?_;refine dV (ds':=[iD 8,tD ε,tD ε,c6 [n.1],.lst 1 [] .full,.lst 1 [] .full,iD b.ga]) ?_;refine Zr ?_;obtain rfl:=Ke a;refine retX.wk (WkS.bl1 (ds':=[iD 8,tD ε,tD ε,bQ [n.1],aI [],aI [],iD b.ga]) aU) (XH ?_);exact Y3;refine Zh ?_;refine cY a ?_ ?_<;>intro a;refine Yy ?_;refine eG (ds':=[dY c.gL g,iD (ζ.wrap (c.ga+1)),iD c.gE]) ?_;refine Zf ?_;refine eL (ds':=[iD 9,tD ε,tD ε,.lst 1 [] .full,.lst 1 [] .full,.lst 1 [] .full,iD b.ga]) ?_;refine Zf ?_;refine fy a (JD (⟨c.gL,(ζ.wrap (c.ga+1)),c.gE⟩:Kl) e f g) fun t a=>?_;refine Ya fun B=>?_;refine eL (ds':=[iD 9,tD ε,tD ε,b8 t.1 B,.lst 1 [] .full,.lst 1 [] .full,iD b.ga]) ?_;refine YR ?_;refine bN a (jV t.2 eM e f .no) fun aa a=>?_;refine Y7 ?_;refine pL (d:=.agg [iD 9,tD ε,tD ε,b8 t.1 B,.lst 1 [] .full,.lst 1 [] .full,iD b.ga]) 2 ?_;refine dV (ds':=[iD 9,tD ε,tD ε,b8 t.1 B,.lst 1 [] .full,.lst 1 [] .full,iD b.ga]) ?_;refine Zr ?_;obtain rfl:=Ke a;refine retX.wk (WkS.bl1 (ds':=[iD 9,tD ε,tD ε,bQ t.1,aI [],aI [],iD b.ga]) aU) (XH ?_);exact Y3;refine Kt ?_;iterate 4 refine pu ?_
 refine pL 0 ?_;refine bN a (wT c c.ga 3 e f g) fun ac a=>?_;refine Y7 ?_;refine pL (d:=.agg [iD 0,tD ε,tD ε,.lst 1 [] .full,.lst 1 [] .full,.lst 1 [] .full,iD b.ga]) 2 ?_;refine dV (ds':=[iD 0,tD ε,tD ε,.lst 1 [] .full,.lst 1 [] .full,.lst 1 [] .full,iD b.ga]) ?_;refine Zr ?_;obtain rfl:=Ke a;refine retX.wk (WkS.bl1 (ds':=[iD 0,tD ε,tD ε,bQ [],aI [],aI [],iD b.ga]) aU) (Ww ?_);refine XH ?_;exact Y3
def Cf (g0:(Kl)→(Int)→Option (List Kk×Kl))(g1:(Kl)→(Int)→Option (Kk×Kl))(e:(Kl)→(Int)→Option (List Kk×Kl))(c:Kl)(a:Int):Option (List Kk×Kl):=
 (Am c a).bind fun d=>(g0 d (ζ.wrap (a+(1:Int)))).bind fun b=>some (b.1,b.2)
def P4 (g0:(Kl)→(Int)→Option (List Kk×Kl))(g1:(Kl)→(Int)→Option (Kk×Kl))(g:(Kl)→(Int)→Option (List Kk×Kl))(i:CQ g0)(n:CP g1)(o:CO g)(e c a d f r)(j:Cf g0 g1 g e c=some r):Cd 137 [.ptr a 0,iD c] [(a,Blk.cells (eB e f) d)] [] (oF 7 a (eB r.2 .no) d fun k=>bV r.1 k):=by
 refine cQ j Tryz.func137 fun C b=>?_;refine Ze ?_;refine ZW ?_;refine bN b (MV e c a d f) fun l b=>?_;refine ZZ ?_;refine fy b (i l (ζ.wrap (c+1)) a d f) fun m b=>?_;refine ZJ fun h=>?_;refine Zi ?_;obtain rfl:=Ke b;refine rP (t':=[(4,bV m.1 h)]) [0] [0] 1 aU bU ?_;exact ⟨h,rfl,rfl,rfl⟩
def Kaw:Nat→((Kl)→(Int)→Option (List Kk×Kl))×((Kl)→(Int)→Option (Kk×Kl))×((Kl)→(Int)→Option (List Kk×Kl))
 | 0=>(fun _ _=>none,fun _ _=>none,fun _ _=>none)
 | n+1=>(Fy ((Kaw n).1) ((Kaw n).2.1) ((Kaw n).2.2),y1 ((Kaw n).1) ((Kaw n).2.1) ((Kaw n).2.2),Cf ((Kaw n).1) ((Kaw n).2.1) ((Kaw n).2.2))
def MD:∀ n,(∀ (b:Kl) (c:Int) (a:Nat) (d:aD) (f:Cap) (r:List Kk×Kl) (e:(Kaw n).1 b c=some r),Cd 79 [.ptr a 0,iD c] [(a,Blk.cells (eB b f) d)] [] (oF 7 a (eB r.2 .no) d fun g=>bV r.1 g))∧(∀ (b:Kl) (c:Int) (a:Nat) (d:aD) (f:Cap) (r:Kk×Kl) (e:(Kaw n).2.1 b c=some r),Cd 106 [.ptr a 0,iD c] [(a,Blk.cells (eB b f) d)] [] (eN (Kg r.1) a (eB r.2 .no) d))∧(∀ (b:Kl) (c:Int) (a:Nat) (d:aD) (f:Cap) (r:List Kk×Kl) (e:(Kaw n).2.2 b c=some r),Cd 137 [.ptr a 0,iD c] [(a,Blk.cells (eB b f) d)] [] (oF 7 a (eB r.2 .no) d fun g=>bV r.1 g))
 | 0=>⟨(fun _ _ _ _ _ _ e=>by cases e),(fun _ _ _ _ _ _ e=>by cases e),(fun _ _ _ _ _ _ e=>by cases e)⟩
 |
  n+1=>by
  have ih:=MD n;exact ⟨OH ((Kaw n).1) ((Kaw n).2.1) ((Kaw n).2.2) (ih.1) (ih.2.1) (ih.2.2),OG ((Kaw n).1) ((Kaw n).2.1) ((Kaw n).2.2) (ih.1) (ih.2.1) (ih.2.2),P4 ((Kaw n).1) ((Kaw n).2.1) ((Kaw n).2.2) (ih.1) (ih.2.1) (ih.2.2)⟩
def MC:∀ n,(∀ (a:Kl) (b:Int),Le ((Kaw n).1 a b) ((Kaw (n+1)).1 a b))∧(∀ (a:Kl) (b:Int),Le ((Kaw n).2.1 a b) ((Kaw (n+1)).2.1 a b))∧(∀ (a:Kl) (b:Int),Le ((Kaw n).2.2 a b) ((Kaw (n+1)).2.2 a b))
 | 0=>⟨fun _ _=>Le.none _,fun _ _=>Le.none _,fun _ _=>Le.none _⟩
 |
  n+1=>by
  have ih:=MC n
  exact ⟨fun a b=>by show Le (Fy ((Kaw n).1) ((Kaw n).2.1) ((Kaw n).2.2) a b) (Fy ((Kaw (n+1)).1) ((Kaw (n+1)).2.1) ((Kaw (n+1)).2.2) a b);revert ih;generalize Kaw n=G0;generalize Kaw (n+1)=G1;intro ih;unfold Fy;repeat (first|with_reducible exact Le.refl _|with_reducible exact ih.1 _ _|with_reducible exact ih.2.1 _ _|with_reducible exact ih.2.2 _ _|with_reducible assumption|(refine Le.bind ?_ (fun _=>?_))|(refine Le.cond ?_ ?_)|(refine Le.loop (fun _=>?_))|(refine Le.elim (fun _=>?_) (fun _=>?_))),fun a b=>by show Le (y1 ((Kaw n).1) ((Kaw n).2.1) ((Kaw n).2.2) a b) (y1 ((Kaw (n+1)).1) ((Kaw (n+1)).2.1) ((Kaw (n+1)).2.2) a b);revert ih;generalize Kaw n=G0;generalize Kaw (n+1)=G1;intro ih;unfold y1;repeat (first|with_reducible exact Le.refl _|with_reducible exact ih.1 _ _|with_reducible exact ih.2.1 _ _|with_reducible exact ih.2.2 _ _|with_reducible assumption|(refine Le.bind ?_ (fun _=>?_))|(refine Le.cond ?_ ?_)|(refine Le.loop (fun _=>?_))|(refine Le.elim (fun _=>?_) (fun _=>?_))),fun a b=>by show Le (Cf ((Kaw n).1) ((Kaw n).2.1) ((Kaw n).2.2) a b) (Cf ((Kaw (n+1)).1) ((Kaw (n+1)).2.1) ((Kaw (n+1)).2.2) a b);revert ih;generalize Kaw n=G0;generalize Kaw (n+1)=G1;intro ih;unfold Cf;repeat (first|with_reducible exact Le.refl _|with_reducible exact ih.1 _ _|with_reducible exact ih.2.1 _ _|with_reducible exact ih.2.2 _ _|with_reducible assumption|(refine Le.bind ?_ (fun _=>?_))|(refine Le.cond ?_ ?_)|(refine Le.loop (fun _=>?_))|(refine Le.elim (fun _=>?_) (fun _=>?_)))⟩
def Ah (a:Kl)(b:Int):Option (List Kk×Kl):=gK fun n=>(Kaw n).1 a b
def Mj (a:Kl)(b:Int){r:List Kk×Kl}(n:Nat)(h:(Kaw n).1 a b=some r):Ah a b=some r:=kU (fun m=>(MC m).1 a b) h
def Oz (b c a d e r)(f:Ah b c=some r):Cd 79 [.ptr a 0,iD c] [(a,Blk.cells (eB b e) d)] [] (oF 7 a (eB r.2 .no) d fun g=>bV r.1 g):=
 let ⟨n,hn⟩:=kq f;(MD n).1 b c a d e r hn
def Ce (g0:(List Kk)→Option (List Kk))(a0:List Kk):Option (List Kk):=
 κ (α:=List Kk) (aE (fun (a:List Kk×Int)=>bif decide (a.2<a0.length) then (idx a0 a.2).bind fun b=>(app 120 a.1 ([b]:List Kk)).bind fun c=>(idx a0 a.2).bind fun d=>(g0 d.gd).bind fun e=>(app 120 c e).bind fun f=>(idx a0 a.2).bind fun g=>(g0 g.gr).bind fun h=>(app 120 f h).bind fun i=>some (.next (i,(ζ.wrap (a.2+1)))) else some (.done a.1)) (([]:List Kk),0)) fun j=>some j
def Uc {A0 G:Prop}{q:Sort _}{R:(u:q)→Prop}(a0:A0)(h:∀ u,R u)(k:A0→(∀ u,R u)→G:=by intro _a h;refine N0 1 htab rfl rfl rfl rfl rfl rfl rfl rfl rfl rfl rfl rfl rfl rfl rfl rfl rfl (tg _a) (fun _l=>?_);exact h _l):G:=k a0 h
def P2 (g0:(List Kk)→Option (List Kk))(f:∀ (a0:List Kk) (r:List Kk) (g:g0 a0=some r),Cd 80 [aI a0] [] [] (kJ 7 fun c=>bV r c))(a0 r)(g:Ce g0 a0=some r):Cd 80 [aI a0] [] [] (kJ 7 fun c=>bV r c):=by
 refine cQ g Tryz.func80 fun C a=>?_;refine Ze ?_;refine Yk ?_;refine ZI a fun j s t=>?_;refine KS (fun b=>⟨[(3,bV j b)],[],[(7,b)]⟩) ?_ ?_;refine Zk s fun z v w=>?_;refine d7 v (fun d e=>⟨[(0,aI a0),(3,bV d.1 e),(4,iD d.2)],[],[(7,e)]⟩) ?_ ?_;refine WkX.tokN (i:=3) 7 rfl fun A=>?_;exact ZG;intro G40 d e a;refine YT ?_;refine cY a ?_ ?_<;>intro a;refine ZE ?_;refine ZK ?_;refine Zq a fun l B a=>?_;refine bA (i:=14) rfl (Wk.of_eq (a6 D.el (KM l))) (Wi ?_);refine Zo ?_;refine bA (i:=16) (d':=ox [l]) rfl aU (Z6 a fun F x a H=>?_);refine jo (i:=17) x rfl (pu ?_);refine ZZ ?_;refine Zq a fun m I a=>?_;refine bA (i:=21) rfl (Wk.of_eq (a6 D.el (KM m))) (YD ?_);refine fy a (f m.gd) fun J a=>?_;refine ZJ fun K=>?_;obtain ⟨L,n,a⟩:=Ka a;refine Uc n fun M=>?_;refine jo (i:=25) n rfl (Zd ?_);refine Zw ?_;refine Zq a fun o N a=>?_;refine bA (i:=29) rfl (Wk.of_eq (a6 D.el (KM o))) (YD ?_);refine fy a (f o.gr) fun O a=>?_;refine ZJ fun P=>?_;obtain ⟨Q,p,a⟩:=Ka a;refine Uc p fun U=>?_;refine jo (i:=33) p rfl (pu ?_);exact Xk a;exact Yf a w;intro V y;refine Z9 y fun b=>?_;refine Zi ?_;obtain rfl:=Ke t;refine rP (t':=[(2,bV j b)]) [] [0] 0 aU bU ?_;exact ⟨b,rfl,rfl,rfl⟩
def KcO:Nat→((List Kk)→Option (List Kk))
 | 0=>(fun _=>none)
 | n+1=>(Ce ((KcO n)))
def M2:∀ n,(∀ (a0:List Kk) (r:List Kk) (a:(KcO n) a0=some r),Cd 80 [aI a0] [] [] (kJ 7 fun b=>bV r b))
 | 0=>fun _ _ a=>by cases a
 |
  n+1=>by
  have ih:=M2 n;exact P2 (KcO n) ih
def M1:∀ n,(∀ (a0:List Kk),Le ((KcO n) a0) ((KcO (n+1)) a0))
 | 0=>fun _=>Le.none _
 |
  n+1=>by
  have ih:=M1 n;exact fun a0=>by show Le (Ce ((KcO n)) a0) (Ce ((KcO (n+1))) a0);revert ih;generalize KcO n=G0;generalize KcO (n+1)=G1;intro ih;unfold Ce;repeat (first|with_reducible exact Le.refl _|with_reducible exact ih _|with_reducible assumption|(refine Le.bind ?_ (fun _=>?_))|(refine Le.cond ?_ ?_)|(refine Le.loop (fun _=>?_))|(refine Le.elim (fun _=>?_) (fun _=>?_)))
def Cb (a0:List Kk):Option (List Kk):=gK fun n=>(KcO n) a0
def O9 (a0:List Kk){r:List Kk}(n:Nat)(h:(KcO n) a0=some r):Cb a0=some r:=kU (fun m=>(M1 m) a0) h
def MT (a0 r)(a:Cb a0=some r):Cd 80 [aI a0] [] [] (kJ 7 fun b=>bV r b):=
 let ⟨n,hn⟩:=kq a;(M2 n) a0 r hn
def OF (a0 r)(a:Cb a0=some r):Cd 80 [aI a0] [] [] (dJ (aI r)):=
 (MT a0 r a).drop fun d h k ⟨b,e,_,_⟩=>by subst e;exact Wk.no
def B6 (g0:(Kf)→Option (List Kf))(a0:Kf):Option (List Kf):=
 κ (α:=List Kf) (aE (fun (a:List Kf×Int)=>bif decide (a.2<a0.gd.length) then (idx a0.gd a.2).bind fun b=>(g0 b).bind fun c=>(app 64 a.1 c).bind fun d=>some (.next (d,(ζ.wrap (a.2+1)))) else some (.done a.1)) (([a0]:List Kf),0)) fun e=>some e
def O8 (g0:(Kf)→Option (List Kf))(l:∀ (a0:Kf) (r:List Kf) (f:g0 a0=some r),Cd 107 [Kh a0] [] [] (kJ 5 fun c=>b8 r c))(a0 r)(f:B6 g0 a0=some r):Cd 107 [Kh a0] [] [] (kJ 5 fun c=>b8 r c):=by
 refine cQ f Tryz.func107 fun C a=>?_;refine XB fun g=>?_;refine pu ?_;refine KE (XT ?_);refine Zo ?_;refine bA (i:=6) (d':=c6 [a0]) rfl aU (Zd ?_);refine ZI a fun h m n=>?_;refine KS (fun b=>⟨[(3,b8 h b)],[],[(5,b)]⟩) ?_ ?_;refine Zk m fun s o p=>?_;refine d7 o (fun d e=>⟨[(1,.ptr g 0),(3,b8 d.1 e),(4,iD d.2)],[(g,Blk.cells (dP a0 .no) 149)],[(5,e)]⟩) ?_ ?_;refine WkX.tokF (i:=3) rfl fun t=>?_;exact ZG;intro G23 d e a;refine Yo ?_;refine cY a ?_ ?_<;>intro a;refine X4 ?_;refine Zq a fun j u a=>?_;refine bA (i:=18) rfl (Wk.of_eq (a6 D.el (Kn j))) (YQ ?_);refine fy a (l j) fun v a=>?_;refine ZJ fun w=>?_;obtain ⟨x,k,a⟩:=Ka a;refine Uc k fun y=>?_;refine jo (i:=21) k rfl (pu ?_);exact Xk a;exact Yf a p;intro z q;refine Z9 q fun b=>?_;refine Zi ?_;obtain rfl:=Ke n;refine rP (t':=[(2,b8 h b)]) [] [0] 0 aU bU ?_;exact ⟨b,rfl,rfl,rfl⟩
def Kdv:Nat→((Kf)→Option (List Kf))
 | 0=>(fun _=>none)
 | n+1=>(B6 ((Kdv n)))
def MS:∀ n,(∀ (a0:Kf) (r:List Kf) (a:(Kdv n) a0=some r),Cd 107 [Kh a0] [] [] (kJ 5 fun b=>b8 r b))
 | 0=>fun _ _ a=>by cases a
 |
  n+1=>by
  have ih:=MS n;exact O8 (Kdv n) ih
def MR:∀ n,(∀ (a0:Kf),Le ((Kdv n) a0) ((Kdv (n+1)) a0))
 | 0=>fun _=>Le.none _
 |
  n+1=>by
  have ih:=MR n;exact fun a0=>by show Le (B6 ((Kdv n)) a0) (B6 ((Kdv (n+1))) a0);revert ih;generalize Kdv n=G0;generalize Kdv (n+1)=G1;intro ih;unfold B6;repeat (first|with_reducible exact Le.refl _|with_reducible exact ih _|with_reducible assumption|(refine Le.bind ?_ (fun _=>?_))|(refine Le.cond ?_ ?_)|(refine Le.loop (fun _=>?_))|(refine Le.elim (fun _=>?_) (fun _=>?_)))
def GB (a0:Kf):Option (List Kf):=gK fun n=>(Kdv n) a0
def po (a0:Kf){r:List Kf}(n:Nat)(h:(Kdv n) a0=some r):GB a0=some r:=kU (fun m=>(MR m) a0) h
def pl (a0 r)(a:GB a0=some r):Cd 107 [Kh a0] [] [] (kJ 5 fun b=>b8 r b):=
 let ⟨n,hn⟩:=kq a;(MS n) a0 r hn
def Dt (a0:List Kk):Option (List Kf):=
 (Cb a0).bind fun c=>κ (α:=List Kf) (aE (fun (a:List Kf×Int)=>bif decide (a.2<c.length) then κ (α:=List Kf) (aE (fun (b:List Kf×Int)=>(idx c a.2).bind fun d=>bif decide (b.2<d.gn.length) then (idx c a.2).bind fun e=>(idx e.gn b.2).bind fun f=>(GB f).bind fun g=>(app 64 b.1 g).bind fun h=>some (.next (h,(ζ.wrap (b.2+1)))) else some (.done b.1)) (a.1,0)) fun i=>some (.next (i,(ζ.wrap (a.2+1)))) else some (.done a.1)) (([]:List Kf),0)) fun j=>some j
def O7 (a0 r)(o:Dt a0=some r):Cd 81 [aI a0] [] [] (kJ 5 fun p=>b8 r p):=by
 refine cQ o Tryz.func81 fun C a=>?_;refine Y2 ?_;refine Zf ?_;refine fy a (MT a0) fun e a=>?_;refine ZJ fun b=>?_;refine Zd ?_;refine ZI a fun l q s=>?_;refine KS (fun c=>⟨[(3,b8 l c)],[],[(5,c)]⟩) ?_ ?_;refine Zk q fun I t u=>?_;refine d7 t (fun d f=>⟨[(3,b8 d.1 f),(4,bV e b),(5,iD d.2)],[],[(5,f),(7,b)]⟩) ?_ ?_;refine WkX.tokN (i:=3) 5 rfl fun J=>?_;exact ZG;intro G162 d f a;refine YT ?_;refine cY a ?_ ?_<;>intro a;refine ZE ?_;refine ZQ ?_;obtain ⟨v,w,x⟩:=Ka a;refine KS (fun g=>⟨[(3,b8 v g),(4,bV e b),(5,iD d.2)],[],[(5,g),(7,b)]⟩) ?_ ?_;refine Zk w fun K y z=>?_;refine d7 y (fun h k=>⟨[(3,b8 h.1 k),(4,bV e b),(5,iD d.2),(6,iD h.2)],[],[(5,k),(7,b)]⟩) ?_ ?_;exact ZG;intro G294 h k a;refine Kj (ZK ?_);refine Zq a fun A L a=>?_;refine bA (i:=18) rfl (Wk.of_eq (a6 D.el (KM A))) (YD ?_);refine ZL ?_;refine cY a ?_ ?_<;>intro a;refine ZE ?_;refine Zw ?_;refine Zq a fun B M a=>?_;refine bA (i:=28) rfl (Wk.of_eq (a6 D.el (KM B))) (YD ?_);refine pu ?_;refine Zq a fun m N a=>?_;refine bA (i:=32) rfl (Wk.of_eq (a6 D.el (Kn m))) (YQ ?_);refine fy a (pl m) fun O a=>?_;refine ZJ fun P=>?_;obtain ⟨Q,n,a⟩:=Ka a;refine Uc n fun F=>?_;refine jo (i:=35) n rfl (pu ?_);refine Kw (XE a ?_);exact WkX.of F (WkS.perm aU Pf ((KO (j:=0) rfl).trans (χ _ ((KO (j:=1) rfl).trans (χ _ Pf)))));exact Yf a z;intro R G;refine KF (Zb G fun g=>?_);refine Zw ?_;refine Kw (Kb ⟨_,zg x,?_⟩);exact ZG;exact Yf a u;intro U H;refine Z9 H fun c=>?_;refine Zi ?_;obtain rfl:=Ke s;refine rP (t':=[(2,b8 l c)]) [] [0] 0 aU bU ?_;exact ⟨c,rfl,rfl,rfl⟩
def OE (a0 r)(a:Dt a0=some r):Cd 81 [aI a0] [] [] (dJ (bQ r)):=
 (O7 a0 r a).drop fun d h k ⟨b,e,_,_⟩=>by subst e;exact Wk.no
def Ca (a0:List KJ)(c:Int):Option (KC×Int×Int):=
 κ (α:=Bool) (bif decide (c<0) then some true else some (decide ((a0.length:Int)<c))) fun m=>bif m then some (j0,0,2) else (lf (⟨a0,c,0⟩:Kl)).bind fun n=>(KaR (⟨a0,c,0⟩:Kl) iG).bind fun j=>(Kcv j).bind fun k=>(wU k.2).bind fun f=>(Am f.2 0).bind fun g=>κ (α:=List KJ×Int×Int×List KZ) (aE (fun (a:List KJ×Int×Int×List KZ)=>κ (α:=Bool) (bif a.2.2.1==0 then (wJ (⟨a.1,a.2.1,a.2.2.1⟩:Kl) iG).bind fun o=>some o else some false) fun p=>bif p then (wY (⟨a.1,a.2.1,a.2.2.1⟩:Kl) (ζ.wrap ((f.1.length:Int)+(a.2.2.2.length:Int)))).bind fun l=>(app 24 a.2.2.2 ([l.1]:List KZ)).bind fun q=>(KaR l.2 eM).bind fun h=>some (.next (h.gL,h.ga,h.gE,q)) else some (.done (a.1,a.2.1,a.2.2.1,a.2.2.2))) (g.gL,g.ga,g.gE,([]:List KZ))) fun d=>(Ah (⟨d.1,d.2.1,d.2.2.1⟩:Kl) 1).bind fun b=>κ (α:=Bool) (bif b.2.gE==0 then (Cb b.1).bind fun r=>(Dt b.1).bind fun s=>some (decide (800<(ζ.wrap ((r.length:Int)+(s.length:Int))))) else some false) fun t=>κ (α:=List KJ×Int×Int) (bif t then (mv b.2 j.ga 6).bind fun i=>some (i.gL,i.ga,i.gE) else some (b.2.gL,b.2.ga,b.2.gE)) fun e=>bif e.2.2 != 0 then some (j0,e.2.1,e.2.2) else some ((⟨k.1,f.1,d.2.2.2,b.1,n.ga⟩:KC),e.2.1,0)
def Oy (a0 z r)(O:Ca a0 z=some r):Cd 44 [b2 a0,iD z] [] [] (fun d h k=>∃ I J K,d=.tup [.agg (eE r.1 (.cur I) (.cur J) (.cur K)),iD r.2.1,iD r.2.2]∧h=[]∧k=[(2,I),(2,J),(7,K)]):=by
 refine cQ O Tryz.func44 fun C a=>?_;refine Z5 fun g=>?_;refine Z7 ?_;refine ZC a fun P L Q=>?_;refine KS (Y:=Unit) (fun R=>⟨[(0,b2 a0),(1,iD z),(4,.ptr g 0),(17,.v (.bool P))],[(g,Blk.cells ir 52)],[]⟩) ?_ ?_;refine Zw ?_;refine gW (i:=12) rfl (fun G=>?_) fun G=>?_;have a:=cD G (Kx L);exact X3 a;have a:=cE G (Kx L);refine Zg ?_;refine Ye ?_;exact ZF a;intro s3 U;refine Zb U fun R=>?_;refine cY Q ?_ ?_<;>intro a;refine WZ ?_;refine eG (ds':=ir) ?_;refine Yn ?_;obtain rfl:=Ke a;refine W0 fun w8 V W=>?_;refine rP (t':=[(4,.ptr g 0),(5,iD 0),(6,iD 2)]) [0] [2,1,0] 0 aU bU ?_;exact ⟨w8,V,W,rfl,rfl,rfl⟩;refine YW ?_;refine h7 (r:=[b2 a0,iD z,iD 0]) htab rfl rfl rfl rfl rfl rfl rfl rfl rfl (Yj fun f=>?_);refine YK ?_;obtain ⟨l,X,a⟩:=Ka a;refine pG (s6 (⟨a0,z,0⟩:Kl) f 132 .no l X) Wl ((KO (j:=1) rfl).trans (χ _ Pf)) Pf ?_;refine ZP ?_;refine pu ?_;refine h7 (r:=[tD ε,.lst 1 [] .full,.lst 1 [] .full,.lst 1 [] .full,iD l.ga]) htab rfl rfl rfl rfl rfl rfl rfl rfl rfl (Zj fun u=>?_);refine eL (ds':=[tD ε,.lst 1 [] .full,.lst 1 [] .full,.lst 1 [] .full,iD l.ga]) ?_;refine Zf ?_;refine bN a (jV (⟨a0,z,0⟩:Kl) iG f 132 .no) fun A a=>?_;refine ZZ ?_;refine Yi ?_;refine Zf ?_;refine bN a (Aj A f 132 .no) fun o a=>?_;refine pu ?_;refine eL (ds':=[tD o.1,.lst 1 [] .full,.lst 1 [] .full,.lst 1 [] .full,iD l.ga]) ?_;refine Zf ?_;refine fy a (OL o.2 f 132 .no) fun p a=>?_;refine Ya fun c=>?_;refine eL (ds':=[tD o.1,b0 p.1 c,.lst 1 [] .full,.lst 1 [] .full,iD l.ga]) ?_;refine Zf ?_;refine bN a (MV p.2 0 f 132 .no) fun bk a=>?_;refine Kc (Zl a fun q Z aa=>?_);refine KS (fun m=>⟨[(4,.ptr g 0),(7,.ptr f 0),(8,.ptr u 0),(9,iD A.ga)],[(f,Blk.cells [b2 q.1,iD q.2.1,iD q.2.2.1] 132),(g,Blk.cells ir 52),(u,Blk.cells [tD o.1,b0 p.1 c,b0 q.2.2.2 m,.lst 1 [] .full,iD l.ga] 52)],[(2,m),(2,c)]⟩) ?_ ?_;refine Zk Z fun bl ac ad=>?_;refine d7 ac (fun n y=>⟨[(4,.ptr g 0),(7,.ptr f 0),(8,.ptr u 0),(9,iD A.ga)],[(f,Blk.cells [b2 n.1,iD n.2.1,iD n.2.2.1] 132),(g,Blk.cells ir 52),(u,Blk.cells [tD o.1,b0 p.1 c,b0 n.2.2.2 y,.lst 1 [] .full,iD l.ga] 52)],[(2,y),(2,c)]⟩) ?_ ?_;refine WkX.cellF (off:=2) 2 2 rfl rfl (by first|exact fi rfl|exact fh rfl) fun bm=>?_;exact ZG;intro G52 n y a;refine ZC a fun ae M af=>?_;refine KS (Y:=Unit) (fun ag=>⟨[(4,.ptr g 0),(7,.ptr f 0),(8,.ptr u 0),(9,iD A.ga),(49,.v (.bool ae))],[(f,Blk.cells [b2 n.1,iD n.2.1,iD n.2.2.1] 132),(g,Blk.cells ir 52),(u,Blk.cells [tD o.1,b0 p.1 c,b0 n.2.2.2 y,.lst 1 [] .full,iD l.ga] 52)],[(2,y),(2,c)]⟩) ?_ ?_;refine Zw ?_;refine YJ ?_;refine gW (i:=46) rfl (fun H=>?_) fun H=>?_;have a:=cD H (Kx M);refine pu ?_;refine bN a (G8 (⟨n.1,n.2.1,n.2.2.1⟩:Kl) iG f 132 .no) fun bn a=>?_;exact ZA a;have a:=cE H (Kx M);refine YG ?_;exact ZF a;intro bo ah;refine Zb ah fun ag=>?_;refine cY af ?_ ?_<;>intro a;refine YV ?_;refine Zl a fun B ai a=>?_;refine i5 (Zp:=fun _ _=>False) (h:=[(g,Blk.cells ir 52),(u,Blk.cells [tD o.1,b0 p.1 c,b0 n.2.2.2 y,.lst 1 [] .full,iD l.ga] 52)]) (k:=[(2,y),(2,c)]) [.on 10 10 (fun _ b=>b) (.fix ([(f,Blk.cells [b2 n.1,iD n.2.1,iD n.2.2.1] 132)],[]))] (fun e _ x=>match e with|10=>x.1=[(f,Blk.cells (eB B.2 .no) 132)]∧x.2=[]|_=>True) 12 [[],[0],[],[],[3],[3,4],[],[6],[6,7],[3,4,6,7],[2,3,4,6,7],[2,3,4,6,7,10]] [0,1,2,3,4,6,7,10,11] (fun _ _ h=>h.elim) ((KO (j:=1) rfl).trans (χ _ ((KO (j:=1) rfl).trans (χ _ ((KO (j:=0) rfl).trans (χ _ Pf)))))) Pf ?_;iterate 9 apply Θ
 intro bs;refine Xc ?_;refine ue ?_;refine Xc ?_;refine Yu ?_;refine Xc ?_;refine Yu ?_;refine uq ?_;refine mU (d:=Ku B.1) 0 (JT (⟨n.1,n.2.1,n.2.2.1⟩:Kl) (ζ.wrap ((p.1.length:Int)+(n.2.2.2.length:Int))) f 132 .no B ai) Wl (fun d' h' k' _ ⟨e1,e2,e3⟩=>⟨by subst e1;exact Wk.refl _,⟨e2,e3⟩⟩) ?_;refine sT (ExE.wk (iP htab rfl rfl rfl rfl rfl rfl rfl rfl rfl rfl rfl) (show Wk _ (ov [B.1]) from Wk.lst0 (.cons (WkC.refl _) (.nil)))) ?_;refine mT 10 (fun b=>[(g,Blk.cells ir 52),(u,Blk.cells [tD o.1,b0 p.1 c,b0 n.2.2.2 y,.lst 1 [] .full,iD l.ga] 52)]++(b.1++[])) (fun b=>[(2,y),(2,c)]++(b.2++[])) ?_;rintro ⟨_,_⟩ ⟨rfl,rfl⟩;simp only [a8,aN,bK];refine Z6 a fun am an a ao=>?_;refine jo (i:=62) an rfl (pu ?_);refine dV (ds':=[tD o.1,b0 p.1 c,b0 am ao,.lst 1 [] .full,iD l.ga]) ?_;refine YR ?_;obtain ⟨ap,aq,a⟩:=Ka a;refine pG (jV B.2 eM f 132 .no ap aq) Wl ((KO (j:=2) rfl).trans (χ _ Pf)) Pf ?_;refine ZP ?_;refine Y9 a ?_;exact ZG;exact Yf a ad;intro bp ar;refine Z9 ar fun m=>?_;refine fy aa (Oz (⟨q.1,q.2.1,q.2.2.1⟩:Kl) 1 f 132 .no) fun w a=>?_;refine Ya fun s=>?_;refine eL (ds':=[tD o.1,b0 p.1 c,b0 q.2.2.2 m,bV w.1 s,iD l.ga]) ?_;refine Kc (ZC a fun au N av=>?_);refine KS (Y:=Unit) (fun aw=>⟨[(4,.ptr g 0),(7,.ptr f 0),(8,.ptr u 0),(9,iD A.ga),(85,.v (.bool au))],[(f,Blk.cells (eB w.2 .no) 132),(g,Blk.cells ir 52),(u,Blk.cells [tD o.1,b0 p.1 c,b0 q.2.2.2 m,bV w.1 s,iD l.ga] 52)],[(7,s),(2,m),(2,c)]⟩) ?_ ?_;refine iz (w.2.gE==0) (fun F=>?_) fun F=>?_;have a:=cD F (Kx N);obtain ⟨ax,ay,a⟩:=Ka a;obtain ⟨az,ba,a⟩:=Ka a;refine b5 14 (oH [] [(0,[]),(0,[0]),(2,[1]),(3,[2]),(4,[]),(4,[]),(4,[]),(4,[6]),(8,[7]),(9,[8]),(4,[]),(4,[10]),(10,[10,11]),(13,[12])]) [0,1,2,6,7,8,10,11,12] ?_;iterate 9 apply Θ
 intro bs;refine Xo ?_;refine ZX ?_;refine jQ (j:=74) (b':=true) F ?_;refine YO ?_;refine f8 (OF w.1 ax ay) (WkL.cons (Wk.no) Wl) ?_;refine Yu ?_;refine YO ?_;refine f8 (OE w.1 az ba) (WkL.cons (Wk.no) Wl) ?_;refine Yu ?_;refine fj rfl (Zg ?_);exact ZA a;have a:=cE F (Kx N);refine b5 14 [[],[0],[0,1],[0,1,2],[0,1,2],[0,1,2],[0,1,2],[0,1,2],[0,1,2],[0,1,2],[0,1,2],[0,1,2],[0,1,2],[0,1,2]] [0,1,2] ?_;iterate 3 apply Θ
 intro bs;refine Xo ?_;refine ZX ?_;refine jQ (j:=74) (b':=false) F ?_;iterate 8 refine yN ?_
 refine fj rfl (YG ?_);exact ZF a;intro bq bb;refine Zb bb fun aw=>?_;obtain ⟨t,bc,bd⟩:=Ka av;refine KS (Y:=Unit) (fun be=>⟨[(4,.ptr g 0),(7,.ptr f 0),(8,.ptr u 0)],[(f,Blk.cells [b2 t.1,iD t.2.1,iD t.2.2] 132),(g,Blk.cells ir 52),(u,Blk.cells [tD o.1,b0 p.1 c,b0 q.2.2.2 m,bV w.1 s,iD l.ga] 52)],[(7,s),(2,m),(2,c)]⟩) ?_ ?_;refine cY (Kx bc) (fun a=>?_) fun a=>?_;refine ZH ?_;refine bN a (wT w.2 A.ga 6 f 132 .no) fun br a=>?_;exact ZN a;exact ZO a;intro bu bf;refine Zb bf fun be=>?_;refine Yx ?_;refine cY bd ?_ ?_<;>intro a;refine Kj (i5 (Zp:=fun _ _=>False) (h:=[(f,Blk.cells [b2 t.1,iD t.2.1,iD t.2.2] 132),(u,Blk.cells [tD o.1,b0 p.1 c,b0 q.2.2.2 m,bV w.1 s,iD l.ga] 52)]) (k:=[(7,s),(2,m),(2,c)]) [.on 9 9 (fun _ _=>([(g,Blk.cells ir 52)],[])) (.fix ([(g,Blk.cells ir 52)],[]))] (fun _ _ _=>True) 11 [[],[],[1],[1,2],[1,2,3],[],[5],[5,6],[5,6,7],[0],[0,1,2,3,4,9]] [0,1,2,3,4,5,6,7,8,9] (fun _ _ h=>h.elim) ((KO (j:=0) rfl).trans (χ _ ((KO (j:=1) rfl).trans (χ _ ((KO (j:=0) rfl).trans (χ _ Pf)))))) Pf ?_);iterate 10 apply Θ
 intro bs;refine kT (s0 (r:=ir) htab rfl rfl rfl rfl rfl rfl) ?_;refine Yb ?_;refine Yb ?_;refine it ir 0 ?_;refine uq ?_;refine gI [(f,Blk.cells [b2 t.1,iD t.2.1,iD t.2.2] 132),(u,Blk.cells [tD o.1,b0 p.1 c,b0 q.2.2.2 m,bV w.1 s,iD l.ga] 52),(g,Blk.cells ir 52)] [(7,s),(2,m),(2,c)] ?_;refine ZS ?_;obtain rfl:=Ke a;refine retX.cellF (off:=1) 2 2 rfl rfl (by first|exact fi rfl|exact fh rfl) fun bg=>?_;refine retX.cellF (off:=2) 2 2 rfl rfl (by first|exact fi rfl|exact fh rfl) fun bh=>?_;refine retX.cellF (off:=3) 7 2 rfl rfl (by first|exact fi rfl|exact fh rfl) fun bi=>?_;refine rP (t':=[(4,.ptr g 0),(5,iD t.2.1),(6,iD t.2.2)]) [2] [2,1,0] 0 aU bU ?_;exact ⟨bg,bh,bi,rfl,rfl,rfl⟩;refine Xj ?_;refine i5 (Zp:=fun _ _=>False) (h:=[(f,Blk.cells [b2 t.1,iD t.2.1,iD t.2.2] 132),(u,Blk.cells [tD o.1,b0 p.1 c,b0 q.2.2.2 m,bV w.1 s,iD l.ga] 52)]) (k:=[(7,s),(2,m),(2,c)]) [.on 5 5 (fun _ _=>([(g,Blk.cells [tD o.1,b0 p.1 c,b0 q.2.2.2 m,bV w.1 s,iD l.ga] 52)],[])) (.fix ([(g,Blk.cells ir 52)],[]))] (fun _ _ _=>True) 6 [[],[],[1],[1,2],[1,2,3],[0]] [0,1,2,3,4,5] (fun _ _ h=>h.elim) ((KO (j:=0) rfl).trans (χ _ ((KO (j:=1) rfl).trans (χ _ ((KO (j:=0) rfl).trans (χ _ Pf)))))) Pf ?_;iterate 6 apply Θ
 intro bs;refine e9 (KN (d:=.agg [tD o.1,b0 p.1 c,b0 q.2.2.2 m,bV w.1 s,iD l.ga]) 1 htab rfl rfl rfl rfl rfl) ?_;refine Yb ?_;refine it [tD o.1,b0 p.1 c,b0 q.2.2.2 m,bV w.1 s,iD l.ga] 0 ?_;refine gI [(f,Blk.cells [b2 t.1,iD t.2.1,iD t.2.2] 132),(u,Blk.cells [tD o.1,b0 p.1 c,b0 q.2.2.2 m,bV w.1 s,iD l.ga] 52),(g,Blk.cells [tD o.1,b0 p.1 c,b0 q.2.2.2 m,bV w.1 s,iD l.ga] 52)] [(7,s),(2,m),(2,c)] ?_;refine YE ?_;obtain rfl:=Ke a;refine rP (t':=[(4,.ptr g 0),(5,iD t.2.1),(6,iD 0)]) [2] [2,1,0] 0 aU bU ?_;exact ⟨c,m,s,rfl,rfl,rfl⟩
def FG (a0:List KJ)(e:List aC)(a:Int)(b:Int):Option (Int×Int):=
 κ (α:=Int×Int) (bif decide (a<a0.length) then (idx a0 a).bind fun f=>(idx a0 a).bind fun g=>some (f.ga,g.gp) else some ((e.length:Int),0)) fun c=>κ (α:=Bool) (bif b==0 then some (c.2 != 0) else some false) fun h=>κ (α:=Int) (bif h then some 3 else some b) fun d=>κ (α:=Int) (bif d==0 then some 0 else some c.1) fun i=>some (i,d)
def MQ (a0 f g b r)(k:FG a0 f g b=some r):Cd 45 [b2 a0,c7 f,iD g,iD b] [] [] (dJ (.tup [iD r.1,iD r.2])):=by
 refine cQ k Tryz.func45 fun C a=>?_;refine ZR ?_;refine Zf ?_;refine Z8 ?_;refine Z7 ?_;refine YT ?_;obtain ⟨c,l,m⟩:=Ka a;refine KS (Y:=Unit) (fun n=>⟨[(3,iD b),(10,iD c.1),(11,iD c.2)],[],[]⟩) ?_ ?_;refine cY (Kx l) (fun a=>?_) fun a=>?_;refine ZR ?_;refine Zq a fun G H a=>?_;refine YD ?_;refine Zd ?_;refine ZH ?_;refine Zq a fun I J a=>?_;refine YD ?_;exact Y5 a;exact ZO a;intro K o;refine Zb o fun n=>?_;refine ZC m fun p h q=>?_;refine KS (Y:=Unit) (fun s=>⟨[(3,iD b),(10,iD c.1),(33,.v (.bool p))],[],[]⟩) ?_ ?_;refine Zw ?_;refine gW (i:=30) rfl (fun d=>?_) fun d=>?_;have a:=cD d (Kx h);refine Zg ?_;exact ZA a;have a:=cE d (Kx h);refine YG ?_;exact ZF a;intro L t;refine Zb t fun s=>?_;obtain ⟨e,u,w⟩:=Ka q;refine KS (Y:=Unit) (fun x=>⟨[(3,iD e),(10,iD c.1)],[],[]⟩) ?_ ?_;refine cY (Kx u) (fun a=>?_) fun a=>?_;refine Zs ?_;exact ZN a;exact ZO a;intro M y;refine Zb y fun x=>?_;refine ZM ?_;obtain ⟨j,z,A⟩:=Ka w;refine KS (Y:=Unit) (fun B=>⟨[(3,iD e),(10,iD j)],[],[]⟩) ?_ ?_;refine cY (Kx z) (fun a=>?_) fun a=>?_;refine Zs ?_;exact ZN a;exact ZO a;intro N F;refine Zb F fun B=>?_;refine Yl ?_;refine Zr ?_;obtain rfl:=Ke A;exact rP (t':=[(8,iD j),(9,iD e)]) [] [] 0 aU bU Za
def FK (a0:List aC):Option (KC×Int×Int):=
 (Df a0).bind fun a=>bif a.2.2 != (0:Int) then some (j0,a.2.1,a.2.2) else (Ca a.1 (0:Int)).bind fun b=>(FG a.1 a0 b.2.1 b.2.2).bind fun c=>bif c.2 != (0:Int) then some (j0,c.1,c.2) else some (b.1,(0:Int),(0:Int))
def PU (a0 r)(o:FK a0=some r):Cd 17 [c7 a0] [] [] (fun d h k=>∃ j l m,d=.tup [.agg (eE r.1 (.cur j) (.cur l) (.cur m)),iD r.2.1,iD r.2.2]∧h=[]∧k=[(2,j),(2,l),(7,m)]):=by
 refine cQ o Tryz.func17 fun C a=>?_;refine Z5 fun i=>?_;refine Xx ?_;refine fy a (Ml a0) fun c a=>?_;refine ZJ fun v=>?_;iterate 7 refine pu ?_
 refine Xe ?_;refine cY a ?_ ?_<;>intro a;refine WZ ?_;refine Zg ?_;refine eG (ds':=ir) ?_;refine Yn ?_;obtain rfl:=Ke a;refine W0 fun p w8 q=>?_;refine rP (t':=[(2,.ptr i 0),(3,iD c.2.1),(4,iD c.2.2)]) [0] [2,1,0] 0 aU bU ?_;exact ⟨p,w8,q,rfl,rfl,rfl⟩;refine Yv ?_;refine fy a (Oy c.1 0) fun b a=>?_;rintro _ _ _ ⟨e,f,g,rfl,rfl,rfl⟩;iterate 4 refine pu ?_
 refine Zj fun w=>?_;refine dV (ds':=(eE b.1 (.cur e) (.cur f) (.cur g))) ?_;refine Zg ?_;refine KE ?_;iterate 4 refine pu ?_
 refine bN a (MQ c.1 a0 b.2.1 b.2.2) fun n a=>?_;iterate 5 refine pu ?_
 refine Xe ?_;refine cY a ?_ ?_<;>intro a;refine WZ ?_;refine Zg ?_;refine eG (ds':=ir) ?_;refine Yn ?_;obtain rfl:=Ke a;refine W0 fun s t u=>?_;refine rP (t':=[(2,.ptr i 0),(3,iD n.1),(4,iD n.2)]) [0] [2,1,0] 0 aU bU ?_;exact ⟨s,t,u,rfl,rfl,rfl⟩;refine Yc ?_;refine pL (d:=.agg (eE b.1 (.cur e) (.cur f) (.cur g))) 1 ?_;refine eG (ds':=(eE b.1 (.cur e) (.cur f) (.cur g))) ?_;refine YE ?_;obtain rfl:=Ke a;refine rP (t':=[(2,.ptr i 0),(3,iD 0),(4,iD 0)]) [0] [0,0,0] 0 aU bU ?_;exact ⟨e,f,g,rfl,rfl,rfl⟩
def Cr (a0:List KJ)(d:Int):Option (KR×Int×Int):=
 κ (α:=Bool) (bif decide (d<0) then some true else some (decide ((a0.length:Int)<d))) fun o=>bif o then some (jJ,0,2) else (lf (⟨a0,d,0⟩:Kl)).bind fun p=>(KaR (⟨a0,d,0⟩:Kl) iG).bind fun q=>(lc q gZ).bind fun i=>(Kcv i.2).bind fun b=>κ (α:=Bool×List KJ×Int×Int) (bif !i.1 then (lc b.2 eH).bind fun e=>some (e.1,e.2.gL,e.2.ga,e.2.gE) else some (false,b.2.gL,b.2.ga,b.2.gE)) fun a=>κ (α:=List KJ×Int×Int×Int) (bif a.1 then (lf (⟨a.2.1,a.2.2.1,a.2.2.2⟩:Kl)).bind fun f=>κ (α:=List KJ×Int×Int) (bif f.gp != 2 then (mv (⟨a.2.1,a.2.2.1,a.2.2.2⟩:Kl) a.2.2.1 3).bind fun j=>some (j.gL,j.ga,j.gE) else κ (α:=Bool) (bif decide (f.gN<1) then some true else some (decide (1000<f.gN))) fun r=>κ (α:=List KJ×Int×Int) (bif r then (mv (⟨a.2.1,a.2.2.1,a.2.2.2⟩:Kl) a.2.2.1 4).bind fun k=>some (k.gL,k.ga,k.gE) else some (a.2.1,a.2.2.1,a.2.2.2)) fun l=>some (l.1,l.2.1,l.2.2)) fun c=>κ (α:=Int×Int) (bif c.2.2==0 then some ((ζ.wrap (c.2.1+1)),f.gN) else some (c.2.1,0)) fun n=>(KaR (⟨c.1,n.1,c.2.2⟩:Kl) eO).bind fun m=>some (m.gL,m.ga,m.gE,n.2) else some (a.2.1,a.2.2.1,a.2.2.2,0)) fun g=>(KaR (⟨g.1,g.2.1,g.2.2.1⟩:Kl) eM).bind fun h=>bif h.gE != 0 then some (jJ,h.ga,h.gE) else some ((⟨b.1,i.1,g.2.2.2,p.ga⟩:KR),h.ga,0)
def OD (a0 q r)(G:Cr a0 q=some r):Cd 47 [b2 a0,iD q] [] [] (dJ (.tup [Kq r.1,iD r.2.1,iD r.2.2])):=by
 refine cQ G Tryz.func47 fun C a=>?_;refine Z5 fun c=>?_;refine Z7 ?_;refine ZC a fun H A I=>?_;refine KS (Y:=Unit) (fun J=>⟨[(0,b2 a0),(1,iD q),(4,.ptr c 0),(17,.v (.bool H))],[(c,Blk.cells g5 58)],[]⟩) ?_ ?_;refine Zw ?_;refine gW (i:=12) rfl (fun u=>?_) fun u=>?_;have a:=cD u (Kx A);exact X3 a;have a:=cE u (Kx A);refine Zg ?_;refine Ye ?_;exact ZF a;intro s3 K;refine Zb K fun J=>?_;refine cY I ?_ ?_<;>intro a;refine W3 ?_;refine eG (ds':=g5) ?_;refine Yn ?_;obtain rfl:=Ke a;exact rP (t':=[(4,.ptr c 0),(5,iD 0),(6,iD 2)]) [0] [] 0 aU bU Za;refine YW ?_;refine h7 (r:=[b2 a0,iD q,iD 0]) htab rfl rfl rfl rfl rfl rfl rfl rfl rfl (Yj fun b=>?_);refine YK ?_;obtain ⟨e,L,a⟩:=Ka a;refine pG (s6 (⟨a0,q,0⟩:Kl) b 132 .no e L) Wl ((KO (j:=1) rfl).trans (χ _ Pf)) Pf ?_;refine ZP ?_;refine pu ?_;refine h7 (r:=[tD ε,.v (.bool false),iD 0,iD e.ga]) htab rfl rfl rfl rfl rfl rfl rfl rfl rfl (Zj fun m=>?_);refine eL (ds':=[tD ε,.v (.bool false),iD 0,iD e.ga]) ?_;refine Zf ?_;refine bN a (jV (⟨a0,q,0⟩:Kl) iG b 132 .no) fun M a=>?_;refine Zf ?_;refine bN a (wi M gZ b 132 .no) fun f a=>?_;refine pu ?_;refine eL (ds':=[tD ε,.v (.bool f.1),iD 0,iD e.ga]) ?_;refine Zf ?_;refine bN a (Aj f.2 b 132 .no) fun l a=>?_;refine pu ?_;refine eL (ds':=[tD l.1,.v (.bool f.1),iD 0,iD e.ga]) ?_;refine Kc (ZC a fun g B N=>?_);refine KS (Y:=Unit) (fun O=>⟨[(4,.ptr c 0),(7,.ptr b 0),(8,.ptr m 0),(41,.v (.bool g.1))],[(b,Blk.cells [b2 g.2.1,iD g.2.2.1,iD g.2.2.2] 132),(c,Blk.cells g5 58),(m,Blk.cells [tD l.1,.v (.bool f.1),iD 0,iD e.ga] 58)],[]⟩) ?_ ?_;refine Zs ?_;refine pL 2 ?_;refine Zg ?_;refine gW (i:=38) rfl (fun w=>?_) fun w=>?_;have a:=cD w (Kx B);refine pu ?_;refine bN a (wi l.2 eH b 132 .no) fun ao a=>?_;exact ZA a;have a:=cE w (Kx B);refine YG ?_;exact ZF a;intro ap P;refine Zb P fun O=>?_;obtain ⟨n,Q,R⟩:=Ka N;refine KS (Y:=Unit) (fun U=>⟨[(4,.ptr c 0),(7,.ptr b 0),(8,.ptr m 0)],[(b,Blk.cells [b2 n.1,iD n.2.1,iD n.2.2.1] 132),(c,Blk.cells g5 58),(m,Blk.cells [tD l.1,.v (.bool f.1),iD n.2.2.2,iD e.ga] 58)],[]⟩) ?_ ?_;refine cY (Kx Q) (fun a=>?_) fun a=>?_;refine Ze ?_;refine bN a (s6 (⟨g.2.1,g.2.2.1,g.2.2.2⟩:Kl) b 132 .no) fun t a=>?_;refine Zj fun s=>?_;refine ib (ds':=(gR t)) ?_;refine Yt ?_;refine pL 3 ?_;refine Zd ?_;obtain ⟨o,V,W⟩:=Ka a;refine KS (Y:=Unit) (fun X=>⟨[(4,.ptr c 0),(7,.ptr b 0),(8,.ptr m 0),(9,.ptr s 0)],[(b,Blk.cells [b2 o.1,iD o.2.1,iD o.2.2] 132),(c,Blk.cells g5 58),(m,Blk.cells [tD l.1,.v (.bool f.1),iD 0,iD e.ga] 58),(s,Blk.cells (gR t) 127)],[]⟩) ?_ ?_;refine cY (Kx V) (fun a=>?_) fun a=>?_;refine Kt ?_;iterate 4 refine pu ?_
 refine pL 0 ?_;refine bN a (wT (⟨g.2.1,g.2.2.1,g.2.2.2⟩:Kl) g.2.2.1 3 b 132 .no) fun aq a=>?_;exact ZN a;refine Zl a fun Z F aa=>?_;refine KS (Y:=Unit) (fun ac=>⟨[(4,.ptr c 0),(7,.ptr b 0),(8,.ptr m 0),(9,.ptr s 0),(60,.v (.bool Z))],[(b,Blk.cells [b2 g.2.1,iD g.2.2.1,iD g.2.2.2] 132),(c,Blk.cells g5 58),(m,Blk.cells [tD l.1,.v (.bool f.1),iD 0,iD e.ga] 58),(s,Blk.cells (gR t) 127)],[]⟩) ?_ ?_;refine Zs ?_;refine pL 3 ?_;refine Zg ?_;refine gW (i:=56) rfl (fun x=>?_) fun x=>?_;have a:=cD x (Kx F);iterate 3 refine pK ?_
 exact ZA a;have a:=cE x (Kx F);refine XS ?_;exact ZF a;intro ar ad;refine Zb ad fun ac=>?_;obtain ⟨y,ae,af⟩:=Ka aa;refine KS (Y:=Unit) (fun au=>⟨[(4,.ptr c 0),(7,.ptr b 0),(8,.ptr m 0),(9,.ptr s 0)],[(b,Blk.cells [b2 y.1,iD y.2.1,iD y.2.2] 132),(c,Blk.cells g5 58),(m,Blk.cells [tD l.1,.v (.bool f.1),iD 0,iD e.ga] 58),(s,Blk.cells (gR t) 127)],[]⟩) ?_ ?_;refine cY (Kx ae) (fun a=>?_) fun a=>?_;refine Kt ?_;iterate 4 refine pu ?_
 refine pL 0 ?_;refine bN a (wT (⟨g.2.1,g.2.2.1,g.2.2.2⟩:Kl) g.2.2.1 4 b 132 .no) fun av a=>?_;exact ZN a;exact ZO a;intro aw ag;exact Yp af ag;intro ax ah;refine Zb ah fun X=>?_;refine Yx ?_;obtain ⟨z,ai,aj⟩:=Ka W;refine KS (Y:=Unit) (fun ak=>⟨[(4,.ptr c 0),(7,.ptr b 0),(8,.ptr m 0)],[(b,Blk.cells [b2 o.1,iD z.1,iD o.2.2] 132),(c,Blk.cells g5 58),(m,Blk.cells [tD l.1,.v (.bool f.1),iD z.2,iD e.ga] 58)],[]⟩) ?_ ?_;refine cY (Kx ai) (fun a=>?_) fun a=>?_;refine Ze ?_;refine pL 3 ?_;refine pu ?_;refine eL (ds':=[tD l.1,.v (.bool f.1),iD t.gN,iD e.ga]) ?_;refine Kc (Zw ?_);refine Xz ?_;refine eG (ds':=[b2 o.1,iD (ζ.wrap (o.2.1+1)),iD o.2.2]) ?_;exact ZN a;exact ZO a;intro ay al;refine Zb al fun ak=>?_;refine Zs ?_;refine bN aj (jV (⟨o.1,z.1,o.2.2⟩:Kl) eO b 132 .no) fun az a=>?_;exact ZN a;exact ZO a;intro ba am;refine Z9 am fun U=>?_;refine bN R (jV (⟨n.1,n.2.1,n.2.2.1⟩:Kl) eM b 132 .no) fun p a=>?_;refine Kc (Yx ?_);refine cY a ?_ ?_<;>intro a;refine Kj (i5 (Zp:=fun _ _=>False) (h:=[(b,Blk.cells (eB p .no) 132),(m,Blk.cells [tD l.1,.v (.bool f.1),iD n.2.2.2,iD e.ga] 58)]) (k:=[]) [.on 9 9 (fun _ _=>([(c,Blk.cells g5 58)],[])) (.fix ([(c,Blk.cells g5 58)],[]))] (fun _ _ _=>True) 11 [[],[],[1],[1,2],[1,2,3],[],[5],[5,6],[5,6,7],[0],[0,1,2,3,4,9]] [0,1,2,3,4,5,6,7,8,9] (fun _ _ h=>h.elim) ((KO (j:=0) rfl).trans (χ _ ((KO (j:=1) rfl).trans (χ _ ((KO (j:=0) rfl).trans (χ _ Pf)))))) Pf ?_);iterate 10 apply Θ
 intro bs;refine kT (s0 (r:=g5) htab rfl rfl rfl rfl rfl rfl) ?_;refine Yb ?_;refine Yb ?_;refine it g5 0 ?_;refine uq ?_;refine gI [(b,Blk.cells (eB p .no) 132),(m,Blk.cells [tD l.1,.v (.bool f.1),iD n.2.2.2,iD e.ga] 58),(c,Blk.cells g5 58)] [] ?_;refine ZS ?_;obtain rfl:=Ke a;exact rP (t':=[(4,.ptr c 0),(5,iD p.ga),(6,iD p.gE)]) [2] [] 0 aU bU Za;refine Xj ?_;refine i5 (Zp:=fun _ _=>False) (h:=[(b,Blk.cells (eB p .no) 132),(m,Blk.cells [tD l.1,.v (.bool f.1),iD n.2.2.2,iD e.ga] 58)]) (k:=[]) [.on 5 5 (fun _ _=>([(c,Blk.cells [tD l.1,.v (.bool f.1),iD n.2.2.2,iD e.ga] 58)],[])) (.fix ([(c,Blk.cells g5 58)],[]))] (fun _ _ _=>True) 6 [[],[],[1],[1,2],[1,2,3],[0]] [0,1,2,3,4,5] (fun _ _ h=>h.elim) ((KO (j:=0) rfl).trans (χ _ ((KO (j:=1) rfl).trans (χ _ ((KO (j:=0) rfl).trans (χ _ Pf)))))) Pf ?_;iterate 6 apply Θ
 intro bs;refine e9 (KN (d:=Kq (⟨l.1,f.1,n.2.2.2,e.ga⟩:KR)) 1 htab rfl rfl rfl rfl rfl) ?_;refine Yb ?_;refine it [tD l.1,.v (.bool f.1),iD n.2.2.2,iD e.ga] 0 ?_;refine gI [(b,Blk.cells (eB p .no) 132),(m,Blk.cells [tD l.1,.v (.bool f.1),iD n.2.2.2,iD e.ga] 58),(c,Blk.cells [tD l.1,.v (.bool f.1),iD n.2.2.2,iD e.ga] 58)] [] ?_;refine YE ?_;obtain rfl:=Ke a;exact rP (t':=[(4,.ptr c 0),(5,iD p.ga),(6,iD 0)]) [2] [] 0 aU bU Za
def FN (a0:List aC):Option (KR×Int×Int):=
 (Df a0).bind fun a=>bif a.2.2 != (0:Int) then some (jJ,a.2.1,a.2.2) else (Cr a.1 (0:Int)).bind fun b=>(FG a.1 a0 b.2.1 b.2.2).bind fun c=>bif c.2 != (0:Int) then some (jJ,c.1,c.2) else some (b.1,(0:Int),(0:Int))
def P8 (a0 r)(g:FN a0=some r):Cd 20 [c7 a0] [] [] (dJ (.tup [Kq r.1,iD r.2.1,iD r.2.2])):=by
 refine cQ g Tryz.func20 fun C a=>?_;refine Z5 fun e=>?_;refine Xx ?_;refine fy a (Ml a0) fun c a=>?_;refine ZJ fun h=>?_;iterate 7 refine pu ?_
 refine Xe ?_;refine cY a ?_ ?_<;>intro a;refine W3 ?_;refine Zg ?_;refine eG (ds':=g5) ?_;refine Yn ?_;obtain rfl:=Ke a;exact rP (t':=[(2,.ptr e 0),(3,iD c.2.1),(4,iD c.2.2)]) [0] [] 0 aU bU Za;refine Yv ?_;refine bN a (OD c.1 0) fun b a=>?_;iterate 4 refine pu ?_
 refine Zj fun i=>?_;refine dV (ds':=(iF b.1)) ?_;refine Zg ?_;refine KE ?_;iterate 4 refine pu ?_
 refine bN a (MQ c.1 a0 b.2.1 b.2.2) fun f a=>?_;iterate 5 refine pu ?_
 refine Xe ?_;refine cY a ?_ ?_<;>intro a;refine W3 ?_;refine Zg ?_;refine eG (ds':=g5) ?_;refine Yn ?_;obtain rfl:=Ke a;exact rP (t':=[(2,.ptr e 0),(3,iD f.1),(4,iD f.2)]) [0] [] 0 aU bU Za;refine Yc ?_;refine pL (d:=Kq b.1) 1 ?_;refine eG (ds':=(iF b.1)) ?_;refine YE ?_;obtain rfl:=Ke a;exact rP (t':=[(2,.ptr e 0),(3,iD 0),(4,iD 0)]) [0] [] 0 aU bU Za
end
section
open Go
set_option maxRecDepth 100000
def FJ (a0:KZ):Option (η):=
 bif a0.gA then (bD (ν #[105,110,116,32,42]) a0.gb).bind fun a=>some a else (bD nz a0.gb).bind fun b=>some b
def M9 (a0 r)(b:FJ a0=some r):Cd 62 [Ku a0] [] [] (dJ (tD r)):=by
 refine cQ b Tryz.func62 fun C a=>?_;refine Zv fun c=>?_;refine Zd ?_;refine Yd ?_;refine Kc ?_;refine cY a ?_ ?_<;>intro a;refine ZB ?_;exact XN a;refine Zm ?_;refine ZB ?_;exact WD a
def B9 (a0:Int):Option (η):=
 κ (α:=η) (aE (fun (a:η×Int)=>bif decide (a.2<a0) then (bD a.1 (ν #[9])).bind fun b=>some (.next (b,(ζ.wrap (a.2+1)))) else some (.done a.1)) ((ν #[]),0)) fun c=>some c
def Wb {A0 G:Prop}(a0:A0)(k:A0→G:=by intro _a;refine ZD _a fun _l _m _n=>?_;refine pu ?_;refine Kw ?_;refine XE _n ?_;exact Zn):G:=k a0
def HF (a0 r)(c:B9 a0=some r):Cd 93 [iD a0] [] [] (dJ (tD r)):=by
 refine cQ c Tryz.func93 fun C a=>?_;refine Ze ?_;refine Yk ?_;refine ZI a fun d e f=>?_;refine KS (Y:=Unit) (fun g=>⟨[(3,tD d)],[],[]⟩) ?_ ?_;refine Zk e fun m h i=>?_;refine d7 (Y:=Unit) h (fun b j=>⟨[(0,iD a0),(3,tD b.1),(4,iD b.2)],[],[]⟩) ?_ ?_;exact Zn;intro G12 b j a;refine Kj (YP ?_);refine cY a ?_ ?_<;>intro a;refine ZE ?_;refine Zs ?_;exact Wb a;exact Yg a i;intro n l;refine Z9 l fun g=>?_;refine Zi ?_;exact X5 f
def z7 (a0:Int):Option (Int):=
 κ (α:=Bool) (bif decide (a0<7) then some true else some (decide (17<a0))) fun a=>bif a then some 6 else (idx ([5,5,5,4,4,3,3,2,2,1,0]:List Int) (ζ.wrap (a0-7))).bind fun b=>some b
def Jv (a0 r)(d:z7 a0=some r):Cd 116 [iD a0] [] [] (dJ (iD r)):=by
 refine cQ d Tryz.func116 fun C a=>?_;refine Zz ?_;refine Zl a fun e c f=>?_;refine KS (Y:=Unit) (fun g=>⟨[(0,iD a0),(8,.v (.bool e))],[],[]⟩) ?_ ?_;refine Zw ?_;refine gW (i:=5) rfl (fun b=>?_) fun b=>?_;have a:=cD b (Kx c);refine YG ?_;exact ZA a;have a:=cE b (Kx c);refine Zg ?_;exact ZF a;intro j h;refine Zb h fun g=>?_;refine cY f ?_ ?_<;>intro a;refine ZT ?_;obtain rfl:=Ke a;exact rP (t':=[(2,iD 6)]) [] [] 0 aU bU Za;refine Yc ?_;refine Zo ?_;refine bA (i:=9) (d':=dO [5,5,5,4,4,3,3,2,2,1,0]) rfl aU (Zg ?_);refine Zq a fun k l a=>?_;refine Yh ?_;exact WB a
def C6 (a0:Int):Option (η):=
 bif a0==0 then some (ν #[48]) else κ (α:=η) (aE (fun (a:η×Int)=>bif a.2 != 0 then κ (α:=Int) (bif decide ((a.2.tmod 10)<0) then some (ζ.wrap (0-(a.2.tmod 10))) else some (a.2.tmod 10)) fun b=>(need (mW (dU.wrap (ζ.wrap (48+b))))).bind fun f=>(bD (ν ([(dU.wrap (ζ.wrap (48+b))).toNat.toUInt8]:List aC).toArray) a.1).bind fun d=>some (.next (d,(ζ.wrap (a.2.tdiv 10)))) else some (.done a.1)) ((ν #[]),a0)) fun c=>bif decide (a0<0) then (bD f6 c).bind fun e=>some e else some c
def LG (a0 r)(d:C6 a0=some r):Cd 61 [iD a0] [] [] (dJ (tD r)):=by
 refine cQ d Tryz.func61 fun C a=>?_;refine ZQ ?_;refine ZM ?_;refine cY a ?_ ?_<;>intro a;refine ZT ?_;obtain rfl:=Ke a;exact rP (t':=[(2,tD (ν #[48]))]) [] [] 0 aU bU Za;refine Zm ?_;refine ZQ ?_;refine ZM ?_;obtain ⟨e,f,g⟩:=Ka a;refine KS (Y:=Unit) (fun h=>⟨[(0,iD a0),(3,tD e)],[],[]⟩) ?_ ?_;refine Zk f fun t j k=>?_;refine d7 (Y:=Unit) j (fun b l=>⟨[(0,iD a0),(3,tD b.1),(4,iD b.2)],[],[]⟩) ?_ ?_;exact Zn;intro G27 b l a;refine ZM ?_;refine cY a ?_ ?_<;>intro a;refine ZE ?_;refine Ze ?_;refine uA rfl rfl rfl rfl rfl rfl rfl (by decide) ?_;refine Zd ?_;refine ZM ?_;obtain ⟨c,m,n⟩:=Ka a;refine KS (Y:=Unit) (fun o=>⟨[(0,iD a0),(3,tD b.1),(4,iD b.2),(5,iD c)],[],[]⟩) ?_ ?_;refine cY (Kx m) (fun a=>?_) fun a=>?_;refine Zw ?_;exact ZN a;exact ZO a;intro u p;refine Zb p fun o=>?_;refine Zw ?_;refine Zo ?_;obtain ⟨v,q,a⟩:=Ka n;refine bA (i:=22) (d':=.lst 1 (([(dU.wrap (ζ.wrap (48+c))).toNat.toUInt8]:List aC).map dW) .full) rfl (Wk.lst0 (.cons (WkC.of_eq (zA (ro q))) .nil)) (GE htab rfl rfl rfl rfl rfl rfl rfl rfl rfl rfl rfl (pu ?_));refine ZD a fun w x a=>?_;refine pu ?_;refine Kw (KF (Kb (Zs ?_)));refine uA rfl rfl rfl rfl rfl rfl rfl (by decide) ?_;refine pu ?_;exact XJ a;exact Yg a k;intro y s;refine Zb s fun h=>?_;refine ZM ?_;refine cY g ?_ ?_<;>intro a;refine Ze ?_;exact XN a;refine Yv ?_;refine Zi ?_;exact X5 a
def Cq (g0:(Kf)→Option (η))(g1:(Kf)→(Int)→Option (η))(a0:Kf):Option (η):=
 κ (α:=Bool) (bif decide (7≤a0.gj) then some (decide (a0.gj≤17)) else some false) fun b=>bif b then bif decide ((a0.gd.length:Int)<2) then some pq else ((idx ([gZ,jI,jX,jH,f6,nk,nu,nt,nr,jY,jZ]:List η) (ζ.wrap (a0.gj-7))).bind fun c=>(idx a0.gd 0).bind fun d=>(z7 a0.gj).bind fun e=>(g1 d e).bind fun f=>(bD f (ν #[32])).bind fun g=>(bD g c).bind fun h=>(bD h (ν #[32])).bind fun i=>(idx a0.gd 1).bind fun j=>(z7 a0.gj).bind fun k=>(g1 j (ζ.wrap (k+1))).bind fun l=>(bD i l).bind fun m=>some m) else κ (α:=η) (bif decide (0<(a0.gd.length:Int)) then (idx a0.gd 0).bind fun n=>(g0 n).bind fun o=>some o else some pq) fun a=>bif a0.gj==1 then (C6 a0.gN).bind fun p=>some p else bif a0.gj==2 then some a0.gb else bif a0.gj==4 then (bD gZ a0.gb).bind fun q=>some q else bif a0.gj==18 then some jf else bif a0.gj==19 then (bD jG a0.gb).bind fun r=>some r else bif (a0.gd.length:Int)==0 then some pq else bif a0.gj==3 then (bD a0.gb eH).bind fun s=>(bD s a).bind fun t=>(bD t eO).bind fun u=>some u else bif a0.gj==20 then (bD jG a0.gb).bind fun v=>(bD v eH).bind fun w=>(bD w a).bind fun x=>(bD x eO).bind fun y=>some y else bif a0.gj==5 then (idx a0.gd 0).bind fun z=>(g1 z 6).bind fun A=>(bD f6 A).bind fun B=>some B else bif a0.gj==6 then (idx a0.gd 0).bind fun C=>(g1 C 6).bind fun F=>(bD kc F).bind fun G=>some G else some pq
def F7 (g:(Kf)→Option (η)):Prop:=∀ (a0:Kf) (r:η) (d:g a0=some r),Cd 95 [Kh a0] [] [] (dJ (tD r))
def F6 (g:(Kf)→(Int)→Option (η)):Prop:=∀ (a0:Kf) (f:Int) (r:η) (d:g a0 f=some r),Cd 115 [Kh a0,iD f] [] [] (dJ (tD r))
def Pu (g0:(Kf)→Option (η))(g1:(Kf)→(Int)→Option (η))(o:F7 g0)(b:F6 g1)(a0 r)(d:Cq g0 g1 a0=some r):Cd 95 [Kh a0] [] [] (dJ (tD r)):=by
 refine cQ d Tryz.func95 fun C a=>?_;refine XB fun c=>?_;refine Zd ?_;refine ZC a fun p h q=>?_;refine KS (Y:=Unit) (fun s=>⟨[(1,.ptr c 0),(12,.v (.bool p))],[(c,Blk.cells (dP a0 .no) 149)],[]⟩) ?_ ?_;refine Zs ?_;refine YJ ?_;refine gW (i:=8) rfl (fun e=>?_) fun e=>?_;have a:=cD e (Kx h);refine Xg ?_;exact ZA a;have a:=cE e (Kx h);exact Y4 a;intro Q t;refine Zb t fun s=>?_;refine cY q ?_ ?_<;>intro a;refine Yd ?_;refine ZL ?_;refine cY a ?_ ?_<;>intro a;refine ZT ?_;exact Ks (WE a);refine Yc ?_;refine Zo ?_;refine bA (i:=17) (d':=cG [gZ,jI,jX,jH,f6,nk,nu,nt,nr,jY,jZ]) rfl aU (Xg ?_);refine Zq a fun R U a=>?_;refine Yh ?_;refine Zd ?_;refine Zl a fun j u a=>?_;obtain ⟨k,w,a⟩:=Ka a;obtain ⟨x,y,a⟩:=Ka a;obtain ⟨V,z,a⟩:=Ka a;obtain ⟨W,A,a⟩:=Ka a;obtain ⟨X,B,a⟩:=Ka a;obtain ⟨l,F,a⟩:=Ka a;obtain ⟨m,G,a⟩:=Ka a;obtain ⟨H,I,a⟩:=Ka a;refine b5 21 [[],[0],[0,1],[0,1,2],[],[4],[4],[0,1,2,3,4,6],[0,1,2,3,4,6,7],[],[0,1,2,3,4,6,7],[0,1,2,3,4,6,7],[],[12],[12,13],[12,13,14],[],[16],[0,1,2,3,4,6,7,16],[0,1,2,3,4,6,7,16,18],[0,1,2,3,4,6,7,12,13,14,15,16,18]] [0,1,2,3,4,6,7,12,13,14,15,16,18,20] ?_;iterate 14 apply Θ
 intro bs;refine Z1 ?_;refine YS u ?_;refine YM ?_;refine f8 (Jv a0.gj k w) Wl ?_;refine f8 (b j k x y) (WkL.cons (Wk.trans (Wk.agg (WkR.refl _)) (Wk.of_eq (Kn j).symm)) (WkL.cons (Wk.refl _) Wl)) ?_;refine ZV z ?_;refine uq ?_;refine ZV A ?_;refine ZV B ?_;refine Z1 ?_;refine YS F ?_;refine YM ?_;refine f8 (Jv a0.gj m G) Wl ?_;refine uq ?_;refine f8 (b l (ζ.wrap (m+1)) H I) (WkL.cons (Wk.trans (Wk.agg (WkR.refl _)) (Wk.of_eq (Kn l).symm)) (WkL.cons (Wk.refl _) Wl)) ?_;exact fj rfl (XN a);refine Zm ?_;refine ZQ ?_;refine Yd ?_;refine ZL ?_;obtain ⟨J,K,L⟩:=Ka a;refine KS (Y:=Unit) (fun M=>⟨[(1,.ptr c 0),(4,tD J)],[(c,Blk.cells (dP a0 .no) 149)],[]⟩) ?_ ?_;refine cY (Kx K) (fun a=>?_) fun a=>?_;refine Zs ?_;refine pL 0 ?_;refine Zq a fun n Z a=>?_;refine bA (i:=51) rfl (Wk.of_eq (a6 D.el (Kn n))) (YQ ?_);refine bN a (o n) fun aa a=>?_;exact Y5 a;exact ZO a;intro ac N;refine Zb N fun M=>?_;refine Yd ?_;refine Xs ?_;refine cY L ?_ ?_<;>intro a;refine ZB ?_;refine bN a (LG a0.gN) fun ad a=>?_;refine Zy ?_;exact X5 a;refine Zh ?_;refine cY a ?_ ?_<;>intro a;refine ZB ?_;refine Zy ?_;obtain rfl:=Ke a;exact rP (t':=[(2,tD a0.gb)]) [] [] 0 aU bU Za;refine Zh ?_;refine cY a ?_ ?_<;>intro a;refine ZB ?_;exact Wo a;refine Zh ?_;refine cY a ?_ ?_<;>intro a;refine Yq ?_;obtain rfl:=Ke a;exact rP (t':=[(2,tD jf)]) [] [] 0 aU bU Za;refine Zh ?_;refine cY a ?_ ?_<;>intro a;refine ZB ?_;exact Wo a;refine Xl ?_;refine Yd ?_;refine ZL ?_;refine cY a ?_ ?_<;>intro a;refine ZT ?_;exact WE a;refine Zm ?_;refine Yd ?_;refine Xs ?_;refine cY a ?_ ?_<;>intro a;refine ZB ?_;refine ZD a fun ae af a=>?_;refine pu ?_;exact Xy a;refine Zh ?_;refine cY a ?_ ?_<;>intro a;refine ZB ?_;refine ZD a fun ag ah a=>?_;refine ZD a fun ai aj a=>?_;refine pu ?_;exact Xy a;refine Zh ?_;refine cY a ?_ ?_<;>intro a;refine ZB ?_;refine Zq a fun O ak a=>?_;exact bA (i:=104) rfl (Wk.of_eq (a6 D.el (Kn O))) (WQ a b);refine Zh ?_;refine cY a ?_ ?_<;>intro a;refine ZB ?_;refine Zq a fun P al a=>?_;exact bA (i:=112) rfl (Wk.of_eq (a6 D.el (Kn P))) (WQ a b);refine Y6 ?_;exact WE a
def B8 (g0:(Kf)→Option (η))(g1:(Kf)→(Int)→Option (η))(a0:Kf)(a:Int):Option (η):=
 (z7 a0.gj).bind fun b=>bif decide (b<a) then (g0 a0).bind fun c=>(bD fJ c).bind fun d=>(bD d fO).bind fun e=>some e else (g0 a0).bind fun f=>some f
def Ox (g0:(Kf)→Option (η))(g1:(Kf)→(Int)→Option (η))(b:F7 g0)(e:F6 g1)(a0 c r)(d:B8 g0 g1 a0 c=some r):Cd 115 [Kh a0,iD c] [] [] (dJ (tD r)):=by
 refine cQ d Tryz.func115 fun C a=>?_;refine XB fun f=>?_;refine Zd ?_;refine Yd ?_;refine bN a (Jv a0.gj) fun g a=>?_;refine Z7 ?_;refine cY a ?_ ?_<;>intro a;refine Kd (XT ?_);refine bN a (b a0) fun h a=>?_;refine ZD a fun i j a=>?_;refine ZD a fun k l a=>?_;refine ZS ?_;exact WF a;refine Yc ?_;refine XT ?_;refine bN a (b a0) fun m a=>?_;refine Zi ?_;exact WF a
def Ka2:Nat→((Kf)→Option (η))×((Kf)→(Int)→Option (η))
 | 0=>(fun _=>none,fun _ _=>none)
 | n+1=>(Cq ((Ka2 n).1) ((Ka2 n).2),B8 ((Ka2 n).1) ((Ka2 n).2))
def MB:∀ n,(∀ (a0:Kf) (r:η) (a:(Ka2 n).1 a0=some r),Cd 95 [Kh a0] [] [] (dJ (tD r)))∧(∀ (a0:Kf) (b:Int) (r:η) (a:(Ka2 n).2 a0 b=some r),Cd 115 [Kh a0,iD b] [] [] (dJ (tD r)))
 | 0=>⟨(fun _ _ a=>by cases a),(fun _ _ _ a=>by cases a)⟩
 |
  n+1=>by
  have ih:=MB n;exact ⟨Pu ((Ka2 n).1) ((Ka2 n).2) (ih.1) (ih.2),Ox ((Ka2 n).1) ((Ka2 n).2) (ih.1) (ih.2)⟩
def MA:∀ n,(∀ (a0:Kf),Le ((Ka2 n).1 a0) ((Ka2 (n+1)).1 a0))∧(∀ (a0:Kf) (a:Int),Le ((Ka2 n).2 a0 a) ((Ka2 (n+1)).2 a0 a))
 | 0=>⟨fun _=>Le.none _,fun _ _=>Le.none _⟩
 |
  n+1=>by
  have ih:=MA n
  exact ⟨fun a0=>by show Le (Cq ((Ka2 n).1) ((Ka2 n).2) a0) (Cq ((Ka2 (n+1)).1) ((Ka2 (n+1)).2) a0);revert ih;generalize Ka2 n=G0;generalize Ka2 (n+1)=G1;intro ih;unfold Cq;repeat (first|with_reducible exact Le.refl _|with_reducible exact ih.1 _|with_reducible exact ih.2 _ _|with_reducible assumption|(refine Le.bind ?_ (fun _=>?_))|(refine Le.cond ?_ ?_)|(refine Le.loop (fun _=>?_))|(refine Le.elim (fun _=>?_) (fun _=>?_))),fun a0 a=>by show Le (B8 ((Ka2 n).1) ((Ka2 n).2) a0 a) (B8 ((Ka2 (n+1)).1) ((Ka2 (n+1)).2) a0 a);revert ih;generalize Ka2 n=G0;generalize Ka2 (n+1)=G1;intro ih;unfold B8;repeat (first|with_reducible exact Le.refl _|with_reducible exact ih.1 _|with_reducible exact ih.2 _ _|with_reducible assumption|(refine Le.bind ?_ (fun _=>?_))|(refine Le.cond ?_ ?_)|(refine Le.loop (fun _=>?_))|(refine Le.elim (fun _=>?_) (fun _=>?_)))⟩
def B0 (a0:Kf):Option (η):=gK fun n=>(Ka2 n).1 a0
def Ow (a0:Kf){r:η}(n:Nat)(h:(Ka2 n).1 a0=some r):B0 a0=some r:=kU (fun m=>(MA m).1 a0) h
def HE (a0 r)(a:B0 a0=some r):Cd 95 [Kh a0] [] [] (dJ (tD r)):=
 let ⟨n,hn⟩:=kq a;(MB n).1 a0 r hn
def Ho (a0:Kk):Option (η):=
 bif a0.gj==4 then (bD a0.gy fJ).bind fun d=>κ (α:=η) (aE (fun (a:η×Int)=>bif decide (a.2<a0.gn.length) then κ (α:=η) (bif decide (0<a.2) then (bD a.1 je).bind fun e=>some e else some a.1) fun f=>(idx a0.gn a.2).bind fun g=>(B0 g).bind fun h=>(bD f h).bind fun i=>some (.next (i,(ζ.wrap (a.2+1)))) else some (.done a.1)) (d,0)) fun c=>κ (α:=η) (bif !decide (a0.gb=(ν #[])) then (bD a0.gb ny).bind fun j=>(bD j c).bind fun k=>some k else some c) fun l=>(bD l (ν #[41,59])).bind fun m=>some m else bif a0.gj==5 then (bD a0.gb (ν #[32,61,32,105,110,112,117,116,40,41,59])).bind fun n=>some n else κ (α:=Bool) (bif (a0.gn.length:Int)==0 then some true else bif a0.gj==2 then some (decide ((a0.gn.length:Int)<2)) else some false) fun o=>bif o then some (ν #[63,59]) else (idx a0.gn 0).bind fun p=>(B0 p).bind fun b=>bif a0.gj==1 then (bD a0.gb ny).bind fun q=>(bD q b).bind fun r=>(bD r eM).bind fun s=>some s else bif a0.gj==2 then (bD a0.gb eH).bind fun t=>(bD t b).bind fun u=>(bD u (ν #[93,32,61,32])).bind fun v=>(idx a0.gn 1).bind fun w=>(B0 w).bind fun x=>(bD v x).bind fun y=>(bD y eM).bind fun z=>some z else bif a0.gj==3 then (bD gZ a0.gb).bind fun A=>(bD A ny).bind fun B=>(bD B b).bind fun C=>(bD C eM).bind fun F=>some F else bif a0.gj==8 then (bD (ν #[114,101,116,117,114,110,32]) b).bind fun G=>(bD G eM).bind fun H=>some H else bif a0.gj==9 then (bD (ν #[97,115,115,101,114,116,40]) b).bind fun I=>(bD I (ν #[41,59])).bind fun J=>some J else some (ν #[63,59])
def Ov (a0 r)(j:Ho a0=some r):Cd 94 [Kg a0] [] [] (dJ (tD r)):=by
 refine cQ j Tryz.func94 fun C a=>?_;refine kz (i:=0) rfl (Wk.of_eq (KM a0)) (Zv fun b=>?_);refine Zd ?_;refine Yd ?_;refine Zd ?_;refine cY a ?_ ?_<;>intro a;refine ZB ?_;refine ZD a fun R U a=>?_;refine Zd ?_;refine ZI a fun k l m=>?_;refine KS (Y:=Unit) (fun n=>⟨[(1,.ptr b 0),(3,tD k)],[(b,Blk.cells (fv a0 .no .no .no) 105)],[]⟩) ?_ ?_;refine Zk l fun V o p=>?_;refine d7 (Y:=Unit) o (fun c q=>⟨[(1,.ptr b 0),(3,tD c.1),(4,iD c.2)],[(b,Blk.cells (fv a0 .no .no .no) 105)],[]⟩) ?_ ?_;exact Zn;intro G104 c q a;refine Yo ?_;refine cY a ?_ ?_<;>intro a;refine ZE ?_;refine ZM ?_;obtain ⟨s,t,u⟩:=Ka a;refine KS (Y:=Unit) (fun w=>⟨[(1,.ptr b 0),(3,tD s),(4,iD c.2)],[(b,Blk.cells (fv a0 .no .no .no) 105)],[]⟩) ?_ ?_;refine cY (Kx t) (fun a=>?_) fun a=>?_;refine Zs ?_;refine ZD a fun W X a=>?_;exact Y5 a;exact ZO a;intro Z x;refine Zb x fun w=>?_;refine ZH ?_;refine Yi ?_;refine Zq u fun e aa a=>?_;refine bA (i:=27) rfl (Wk.of_eq (a6 D.el (Kn e))) (YQ ?_);refine bN a (HE e) fun ac a=>?_;exact Wb a;exact Yg a p;intro ad y;refine Zb y fun n=>?_;refine Yd ?_;refine Zd ?_;obtain ⟨z,A,B⟩:=Ka m;refine KS (Y:=Unit) (fun F=>⟨[(3,tD z)],[],[]⟩) ?_ ?_;refine cY (Kx A) (fun a=>?_) fun a=>?_;refine Zs ?_;refine pL 0 ?_;refine ZD a fun ae af a=>?_;refine pu ?_;refine ZD a fun ag ah a=>?_;exact Y5 a;exact ZO a;intro ai G;refine Z9 G fun F=>?_;exact XN B;refine Zm ?_;refine Yd ?_;refine Zd ?_;refine cY a ?_ ?_<;>intro a;refine ZB ?_;exact XN a;refine Zm ?_;refine ZC a fun H f I=>?_;refine KS (Y:=Unit) (fun J=>⟨[(1,.ptr b 0),(61,.v (.bool H))],[(b,Blk.cells (fv a0 .no .no .no) 105)],[]⟩) ?_ ?_;refine Zs ?_;refine pL 0 ?_;refine Z8 ?_;refine Zg ?_;refine gW (i:=51) rfl (fun d=>?_) fun d=>?_;have a:=cD d (Kx f);iterate 9 refine pK ?_
 exact ZA a;have a:=cE d (Kx f);refine pu ?_;refine YJ ?_;refine g6 (i:=55) a ?_ ?_<;>intro a;refine pu ?_;refine pL 0 ?_;refine Ye ?_;refine ZU ?_;exact ZF a;iterate 4 refine pK ?_
 refine Z0 ?_;exact ZF a;intro aj K;refine Zb K fun J=>?_;refine cY I ?_ ?_<;>intro a;refine ZT ?_;obtain rfl:=Ke a;exact rP (t':=[(2,tD (ν #[63,59]))]) [] [] 0 aU bU Za;refine Zm ?_;refine ZB ?_;refine Zq a fun g ak a=>?_;refine bA (i:=64) rfl (Wk.of_eq (a6 D.el (Kn g))) (YQ ?_);refine bN a (HE g) fun al a=>?_;refine Zd ?_;refine Yd ?_;refine Xs ?_;refine cY a ?_ ?_<;>intro a;refine ZB ?_;refine ZD a fun am an a=>?_;refine pu ?_;exact Xy a;refine Zh ?_;refine cY a ?_ ?_<;>intro a;refine Zl a fun ao L a=>?_;obtain ⟨ap,M,a⟩:=Ka a;obtain ⟨aq,N,a⟩:=Ka a;obtain ⟨h,O,a⟩:=Ka a;obtain ⟨P,Q,a⟩:=Ka a;refine b5 11 [[],[0],[0],[],[0],[0],[],[6],[6,7],[6,7,8],[6,7,8,9]] [0,6,7,8,9,10] ?_;iterate 6 apply Θ
 intro bs;refine YM ?_;refine ZV L ?_;refine uq ?_;refine ZV M ?_;refine ZV N ?_;refine Z1 ?_;refine YS O ?_;refine f8 (HE h P Q) (WkL.cons (Wk.trans (Wk.agg (WkR.refl _)) (Wk.of_eq (Kn h).symm)) Wl) ?_;exact fj rfl (Xy a);refine Zh ?_;refine cY a ?_ ?_<;>intro a;refine ZB ?_;refine ZD a fun ar au a=>?_;refine ZD a fun av aw a=>?_;refine pu ?_;exact Xy a;refine Zh ?_;refine cY a ?_ ?_<;>intro a;refine Ze ?_;exact Xy a;refine Zh ?_;refine cY a ?_ ?_<;>intro a;refine Ze ?_;exact Xy a;refine Y6 ?_;obtain rfl:=Ke a;exact rP (t':=[(2,tD (ν #[63,59]))]) [] [] 0 aU bU Za
def Cc (g0:(List Kk)→(Int)→Option (η))(a0:List Kk)(c:Int):Option (η):=
 κ (α:=η) (aE (fun (b:η×Int)=>bif decide (b.2<a0.length) then (idx a0 b.2).bind fun a=>κ (α:=Bool) (bif a.gj != 6 then bif a.gj != 7 then some true else some ((a.gn.length:Int)==0) else some ((a.gn.length:Int)==0)) fun e=>bif e then (B9 c).bind fun f=>(Ho a).bind fun g=>(bD f g).bind fun h=>(bD h (ν #[10])).bind fun i=>(bD b.1 i).bind fun j=>some (.next (j,(ζ.wrap (b.2+1)))) else (κ (α:=η) (bif a.gj==6 then some (ν #[105,102,32,40]) else some (ν #[119,104,105,108,101,32,40])) fun k=>(B9 c).bind fun l=>(bD l k).bind fun m=>(idx a.gn 0).bind fun n=>(B0 n).bind fun o=>(bD m o).bind fun p=>(bD p (ν #[41,32,123,10])).bind fun q=>(g0 a.gd (ζ.wrap (c+1))).bind fun r=>(bD q r).bind fun s=>(bD b.1 s).bind fun d=>κ (α:=Bool) (bif a.gj==6 then some (decide (0<(a.gr.length:Int))) else some false) fun t=>κ (α:=η) (bif t then (B9 c).bind fun u=>(bD u (ν #[125,32,101,108,115,101,32,123,10])).bind fun v=>(g0 a.gr (ζ.wrap (c+1))).bind fun w=>(bD v w).bind fun x=>(bD d x).bind fun y=>some y else some d) fun z=>(B9 c).bind fun A=>(bD A (ν #[125,10])).bind fun B=>(bD z B).bind fun C=>some (.next (C,(ζ.wrap (b.2+1))))) else some (.done b.1)) ((ν #[]),0)) fun F=>some F
def P1 (g0:(List Kk)→(Int)→Option (η))(j:∀ (a0:List Kk) (b:Int) (r:η) (k:g0 a0 b=some r),Cd 63 [aI a0,iD b] [] [] (dJ (tD r)))(a0 b r)(k:Cc g0 a0 b=some r):Cd 63 [aI a0,iD b] [] [] (dJ (tD r)):=by
 refine cQ k Tryz.func63 fun C a=>?_;refine Ze ?_;refine Yk ?_;refine ZI a fun o p q=>?_;refine KS (Y:=Unit) (fun s=>⟨[(5,tD o)],[],[]⟩) ?_ ?_;refine Zk p fun ax t u=>?_;refine d7 (Y:=Unit) t (fun e w=>⟨[(0,aI a0),(1,iD b),(5,tD e.1),(6,iD e.2)],[],[]⟩) ?_ ?_;exact Zn;intro G147 e w a;refine YT ?_;refine cY a ?_ ?_<;>intro a;refine Y1 ?_;refine Zq a fun c ay a=>?_;refine bA (i:=17) rfl (Wk.of_eq (a6 D.el (KM c))) (Wi ?_);refine Zj fun f=>?_;refine eG (ds':=(fv c .no .no .no)) ?_;refine Kc (ZC a fun x l y=>?_);refine KS (Y:=Unit) (fun z=>⟨[(0,aI a0),(1,iD b),(5,tD e.1),(6,iD e.2),(7,.ptr f 0),(32,.v (.bool x))],[(f,Blk.cells (fv c .no .no .no) 105)],[]⟩) ?_ ?_;refine Zs ?_;refine YJ ?_;refine gW (i:=22) rfl (fun g=>?_) fun g=>?_;have a:=cD g (Kx l);refine Xg ?_;refine YF ?_;refine g6 (i:=27) a ?_ ?_<;>intro a;exact X3 a;refine pu ?_;refine pL 0 ?_;refine Ye ?_;exact ZF a;have a:=cE g (Kx l);iterate 3 refine pK ?_
 refine Z0 ?_;refine Zg ?_;refine pL 0 ?_;refine Ye ?_;exact ZF a;intro az A;refine Zb A fun z=>?_;refine cY y ?_ ?_<;>intro a;refine Zl a fun B F a=>?_;obtain ⟨G,H,a⟩:=Ka a;obtain ⟨ba,I,a⟩:=Ka a;obtain ⟨bb,J,a⟩:=Ka a;refine b5 7 [[],[],[],[],[2,3],[2,3,4],[2,3,4]] [2,3,4] ?_;iterate 3 apply Θ
 intro bs;refine ZX ?_;refine f8 (HF b B F) Wl ?_;refine e9 (KN (d:=.agg (fv c .no .no .no)) 0 htab rfl rfl rfl rfl rfl) ?_;refine f8 (Ov c G H) (WkL.cons (Wk.trans (Wk.agg (WkR.refl _)) (Wk.of_eq (KM c).symm)) Wl) ?_;refine ZV I ?_;refine ZV J ?_;refine fj rfl (ZD a fun bc bd a=>?_);refine Zd ?_;refine K3 (KH (KW (Kb (Zw ?_))));exact XJ a;refine Zm ?_;refine ZQ ?_;refine Yd ?_;refine Zd ?_;obtain ⟨K,L,M⟩:=Ka a;refine KS (Y:=Unit) (fun N=>⟨[(0,aI a0),(1,iD b),(5,tD e.1),(6,iD e.2),(7,.ptr f 0),(8,tD K)],[(f,Blk.cells (fv c .no .no .no) 105)],[]⟩) ?_ ?_;refine cY (Kx L) (fun a=>?_) fun a=>?_;refine Zs ?_;exact ZN a;exact ZO a;intro be O;refine Zb O fun N=>?_;refine Zl M fun P Q a=>?_;obtain ⟨bf,R,a⟩:=Ka a;obtain ⟨m,U,a⟩:=Ka a;obtain ⟨V,W,a⟩:=Ka a;obtain ⟨bg,X,a⟩:=Ka a;obtain ⟨bh,Z,a⟩:=Ka a;obtain ⟨aa,ac,a⟩:=Ka a;obtain ⟨bi,ad,a⟩:=Ka a;refine b5 18 [[],[],[],[],[2],[],[5],[5,6],[5,6,7],[2,5,6,7,8],[2,5,6,7,8,9],[2,5,6,7,8,9],[],[12],[],[],[2,5,6,7,8,9,12,13],[2,5,6,7,8,9,12,13,16]] [2,5,6,7,8,9,12,13,16] ?_;iterate 9 apply Θ
 intro bs;refine ZX ?_;refine f8 (HF b P Q) Wl ?_;refine uq ?_;refine ZV R ?_;refine Z1 ?_;refine YS U ?_;refine f8 (HE m V W) (WkL.cons (Wk.trans (Wk.agg (WkR.refl _)) (Wk.of_eq (Kn m).symm)) Wl) ?_;refine ZV X ?_;refine ZV Z ?_;refine Z1 ?_;refine ZX ?_;refine f8 (j c.gd (ζ.wrap (b+1)) aa ac) Wl ?_;refine ZV ad ?_;refine fj rfl (ZD a fun ae bj a=>?_);refine Zd ?_;refine ZC a fun af n ag=>?_;refine KS (Y:=Unit) (fun ah=>⟨[(0,aI a0),(1,iD b),(5,tD ae),(6,iD e.2),(7,.ptr f 0),(71,.v (.bool af))],[(f,Blk.cells (fv c .no .no .no) 105)],[]⟩) ?_ ?_;refine Zs ?_;refine YJ ?_;refine gW (i:=66) rfl (fun h=>?_) fun h=>?_;have a:=cD h (Kx n);refine pu ?_;refine pL 0 ?_;refine Ye ?_;exact ZA a;have a:=cE h (Kx n);iterate 4 refine pK ?_
 exact ZF a;intro bk ai;refine Zb ai fun ah=>?_;obtain ⟨aj,ak,al⟩:=Ka ag;refine KS (Y:=Unit) (fun am=>⟨[(0,aI a0),(1,iD b),(5,tD aj),(6,iD e.2)],[],[]⟩) ?_ ?_;refine cY (Kx ak) (fun a=>?_) fun a=>?_;obtain ⟨an,ao,a⟩:=Ka a;obtain ⟨bl,ap,a⟩:=Ka a;obtain ⟨aq,ar,a⟩:=Ka a;obtain ⟨bm,au,a⟩:=Ka a;refine b5 10 [[],[],[],[2],[],[4],[],[],[2,4,5],[2,4,5,8]] [2,4,5,8] ?_;iterate 4 apply Θ
 intro bs;refine ZX ?_;refine f8 (HF b an ao) Wl ?_;refine ZV ap ?_;refine Z1 ?_;refine ZX ?_;refine f8 (j c.gr (ζ.wrap (b+1)) aq ar) Wl ?_;refine ZV au ?_;refine fj rfl (ZD a fun bn bo a=>?_);exact Y5 a;exact ZO a;intro bp av;refine Zb av fun am=>?_;refine ZH ?_;refine bN al (HF b) fun bq a=>?_;refine ZD a fun br bu a=>?_;exact Wb a;exact Yg a u;intro bv aw;refine Z9 aw fun s=>?_;refine Zi ?_;exact WF q
def Kc3:Nat→((List Kk)→(Int)→Option (η))
 | 0=>(fun _ _=>none)
 | n+1=>(Cc ((Kc3 n)))
def M0:∀ n,(∀ (a0:List Kk) (a:Int) (r:η) (b:(Kc3 n) a0 a=some r),Cd 63 [aI a0,iD a] [] [] (dJ (tD r)))
 | 0=>fun _ _ _ b=>by cases b
 |
  n+1=>by
  have ih:=M0 n;exact P1 (Kc3 n) ih
def MZ:∀ n,(∀ (a0:List Kk) (a:Int),Le ((Kc3 n) a0 a) ((Kc3 (n+1)) a0 a))
 | 0=>fun _ _=>Le.none _
 |
  n+1=>by
  have ih:=MZ n;exact fun a0 a=>by show Le (Cc ((Kc3 n)) a0 a) (Cc ((Kc3 (n+1))) a0 a);revert ih;generalize Kc3 n=G0;generalize Kc3 (n+1)=G1;intro ih;unfold Cc;repeat (first|with_reducible exact Le.refl _|with_reducible exact ih _ _|with_reducible assumption|(refine Le.bind ?_ (fun _=>?_))|(refine Le.cond ?_ ?_)|(refine Le.loop (fun _=>?_))|(refine Le.elim (fun _=>?_) (fun _=>?_)))
def G6 (a0:List Kk)(a:Int):Option (η):=gK fun n=>(Kc3 n) a0 a
def O6 (a0:List Kk)(a:Int){r:η}(n:Nat)(h:(Kc3 n) a0 a=some r):G6 a0 a=some r:=kU (fun m=>(MZ m) a0 a) h
def O5 (a0 a r)(b:G6 a0 a=some r):Cd 63 [aI a0,iD a] [] [] (dJ (tD r)):=
 let ⟨n,hn⟩:=kq b;(M0 n) a0 a r hn
def Hn (a0:KC):Option (η):=
 (bD nz a0.gb).bind fun c=>(bD c fJ).bind fun d=>κ (α:=η) (aE (fun (a:η×Int)=>bif decide (a.2<a0.gh.length) then κ (α:=η) (bif decide (0<a.2) then (bD a.1 je).bind fun e=>some e else some a.1) fun f=>(idx a0.gh a.2).bind fun g=>(FJ g).bind fun h=>(bD f h).bind fun i=>some (.next (i,(ζ.wrap (a.2+1)))) else some (.done a.1)) (d,0)) fun j=>(bD j (ν #[41,32,123,10])).bind fun k=>κ (α:=η) (aE (fun (b:η×Int)=>bif decide (b.2<a0.gi.length) then (idx a0.gi b.2).bind fun l=>(FJ l).bind fun m=>(bD (ν #[9]) m).bind fun n=>(bD n (ν #[59,10])).bind fun o=>(bD b.1 o).bind fun p=>some (.next (p,(ζ.wrap (b.2+1)))) else some (.done b.1)) (k,0)) fun q=>(G6 a0.gx 1).bind fun r=>(bD q r).bind fun s=>(bD s (ν #[125,10])).bind fun t=>some t
def Ou (a0 r)(e:Hn a0=some r):Cd 29 [Kv a0] [] [] (dJ (tD r)):=by
 refine cQ e Tryz.func29 fun C a=>?_;refine Zv fun b=>?_;refine YK ?_;refine pL 0 ?_;refine ZD a fun G H a=>?_;refine ZD a fun I J a=>?_;refine Zd ?_;refine ZI a fun f g h=>?_;refine KS (Y:=Unit) (fun i=>⟨[(1,.ptr b 0),(3,tD f)],[(b,Blk.cells (eE a0 .no .no .no) 52)],[]⟩) ?_ ?_;refine Zk g fun K j k=>?_;refine d7 (Y:=Unit) j (fun c l=>⟨[(1,.ptr b 0),(3,tD c.1),(4,iD c.2)],[(b,Blk.cells (eE a0 .no .no .no) 52)],[]⟩) ?_ ?_;exact Zn;intro G36 c l a;refine Yo ?_;refine cY a ?_ ?_<;>intro a;refine ZE ?_;refine ZM ?_;obtain ⟨m,n,o⟩:=Ka a;refine KS (Y:=Unit) (fun p=>⟨[(1,.ptr b 0),(3,tD m),(4,iD c.2)],[(b,Blk.cells (eE a0 .no .no .no) 52)],[]⟩) ?_ ?_;refine cY (Kx n) (fun a=>?_) fun a=>?_;refine Zs ?_;refine ZD a fun L M a=>?_;exact Y5 a;exact ZO a;intro N q;refine Zb q fun p=>?_;refine ZH ?_;refine Yi ?_;refine Zq o fun s O a=>?_;refine XZ ?_;refine bN a (M9 s) fun P a=>?_;exact Wb a;exact Yg a k;intro Q t;refine Z9 t fun i=>?_;refine ZD h fun R U a=>?_;refine Zd ?_;refine ZI a fun u v w=>?_;refine KS (Y:=Unit) (fun x=>⟨[(1,.ptr b 0),(3,tD u)],[(b,Blk.cells (eE a0 .no .no .no) 52)],[]⟩) ?_ ?_;refine Zk v fun V y z=>?_;refine d7 (Y:=Unit) y (fun d A=>⟨[(1,.ptr b 0),(3,tD d.1),(5,iD d.2)],[(b,Blk.cells (eE a0 .no .no .no) 52)],[]⟩) ?_ ?_;exact Zn;intro G90 d A a;refine Yo ?_;refine cY a ?_ ?_<;>intro a;refine X4 ?_;refine Zq a fun B W a=>?_;refine XZ ?_;refine bN a (M9 B) fun X a=>?_;refine ZD a fun Z aa a=>?_;refine ZD a fun ac ad a=>?_;exact Wb a;exact Yg a z;intro ae F;refine Zb F fun x=>?_;refine ZR ?_;refine pL 0 ?_;refine bN w (O5 a0.gx 1) fun af a=>?_;refine ZD a fun ag ah a=>?_;exact WD a
def Hz (a0:KR):Option (η):=
 bif a0.gA then (bD (ν #[105,110,116,32,42]) a0.gb).bind fun a=>(bD a (ν #[59,10])).bind fun b=>some b else bif decide (0<a0.gC) then (bD nz a0.gb).bind fun c=>(bD c eH).bind fun d=>(C6 a0.gC).bind fun e=>(bD d e).bind fun f=>(bD f (ν #[93,59,10])).bind fun g=>some g else (bD nz a0.gb).bind fun h=>(bD h (ν #[59,10])).bind fun i=>some i
def Ps (a0 r)(b:Hz a0=some r):Cd 28 [Kq a0] [] [] (dJ (tD r)):=by
 refine cQ b Tryz.func28 fun C a=>?_;refine Zv fun g=>?_;refine Zd ?_;refine Yd ?_;refine Kc ?_;refine cY a ?_ ?_<;>intro a;refine ZB ?_;refine ZD a fun h i a=>?_;exact XN a;refine Zm ?_;refine Yd ?_;refine Zd ?_;refine cY a ?_ ?_<;>intro a;refine Zl a fun j c a=>?_;obtain ⟨k,d,a⟩:=Ka a;obtain ⟨e,f,a⟩:=Ka a;refine b5 7 [[],[0],[0],[0],[],[4],[4]] [0,4,6] ?_;iterate 3 apply Θ
 intro bs;refine YM ?_;refine ZV c ?_;refine ZV d ?_;refine YM ?_;refine f8 (LG a0.gC e f) Wl ?_;refine fj rfl (ZD a fun l m a=>?_);exact XN a;refine Zm ?_;refine ZB ?_;refine ZD a fun n o a=>?_;exact WD a
end
section
open Go
set_option maxRecDepth 100000
structure Kbz where
 gp:Int
 gq:List aC
 gb:η
def DH (x:Kbz):D:=.agg [iD x.gp,.lst 1 (x.gq.map dW) .no,tD x.gb]
abbrev j2 (x:List Kbz):D:=.lst 3 (x.map DH) .no
def pD (b:KaJ)(a:Kbz):Option (Int×Int×KaJ):=
 bif a.gp==0 then (Dw b a.gq).bind fun c=>some (c.1,c.2.1,c.2.2) else bif a.gp==1 then (Id b a.gq).bind fun d=>some (d.1,d.2.1,d.2.2) else (Dv b a.gb).bind fun e=>some (0,e.1,e.2)
def r7 (c d b e f g r)(j:pD c d=some r):Cd 5 [.ptr b 0,DH d] [(b,Blk.cells (dD c.gP f g) e)] [] (eN (.tup [iD r.1,iD r.2.1]) b (dD r.2.2.gP .no .no) e):=by
 refine cQ j Tryz.func5 fun C a=>?_;refine Zv fun l=>?_;refine Z7 ?_;refine Xu ?_;refine Xs ?_;refine cY a ?_ ?_<;>intro a;refine ZR ?_;refine pL 1 ?_;refine bN a (Nt c d.gq b e f g) fun h a=>?_;iterate 4 refine pu ?_
 refine Yr ?_;obtain rfl:=Ke a;exact rP (t':=[(4,iD h.1),(5,iD h.2.1)]) [0] [] 1 aU bU Za;refine Zh ?_;refine cY a ?_ ?_<;>intro a;refine ZR ?_;refine pL 1 ?_;refine bN a (Qu c d.gq b e f g) fun i a=>?_;iterate 4 refine pu ?_
 refine Yr ?_;obtain rfl:=Ke a;exact rP (t':=[(4,iD i.1),(5,iD i.2.1)]) [0] [] 1 aU bU Za;refine Xl ?_;refine ZR ?_;refine pL 1 ?_;refine bN a (Ns c d.gb b e f g) fun k a=>?_;refine YE ?_;obtain rfl:=Ke a;exact rP (t':=[(4,iD 0),(5,iD k.1)]) [0] [] 1 aU bU Za
def Hu (a0:KB)(b:η):Option (Int):=
 κ (α:=(Unit)⊕(Int)) (aE (fun (a:Int)=>bif decide (a<a0.gf.length) then (idx a0.gf a).bind fun c=>bif decide (c.gb=b) then some (.done (.inr a)) else some (.next (ζ.wrap (a+1))) else some (.done (.inl ()))) 0) (Ω (fun d=>some (-1)) (fun r=>some r))
def Ot (a0 c r)(g:Hu a0 c=some r):Cd 18 [K5 a0,tD c] [] [] (dJ (iD r)):=by
 refine cQ g Tryz.func18 fun C a=>?_;refine Zv fun d=>?_;refine Zd ?_;refine ZI a fun h i b=>?_;refine fI (τ:=Unit) (Y:=Unit) (fun j o=>⟨[],[],[]⟩) h ?_ ?_;refine Zk i fun p k e=>?_;refine d7 (Y:=Unit) k (fun f l=>⟨[(1,tD c),(2,.ptr d 0),(5,iD f)],[(d,Blk.cells (dD a0 .no .no) 28)],[]⟩) ?_ ?_;exact Zn;intro G16 f l a;refine Yo ?_;refine cY a ?_ ?_<;>intro a;refine ZE ?_;refine ZB ?_;refine pu ?_;refine Zq a fun q s a=>?_;refine YD ?_;refine Z7 ?_;refine cY a ?_ ?_<;>intro a;refine Ze ?_;refine Zy ?_;obtain rfl:=KU a;refine Zt ?_;obtain rfl:=Ke e;refine fH ?_;simp only [ς] at b;refine Ks ?_;obtain rfl:=Ke b;exact Xb;exact Ym a;exact YA a e;intro j t m n;subst m;simp only [Γ] at b;exact Um n b
def Dc (a0:KB)(b:KB)(c:Int):Option (KB×Int×Int):=
 (HN b).bind fun a=>bif a.2.2==(0:Int) then some (b,(0:Int),(0:Int)) else κ (α:=Int) (bif a.1 != c then some (0:Int) else some a.2.1) fun d=>some (a0,d,a.2.2)
def JC (a0 b e r)(i:Dc a0 b e=some r):Cd 19 [K5 a0,K5 b,iD e] [] [] (dJ (.tup [K5 r.1,iD r.2.1,iD r.2.2])):=by
 refine cQ i Tryz.func19 fun C a=>?_;refine Zv fun f=>?_;refine Yj fun n=>?_;refine Zj fun c=>?_;refine Zg ?_;refine KE (pL (d:=K5 b) 1 ?_);refine bN a (PN b) fun g a=>?_;iterate 7 refine pu ?_
 refine Xe ?_;refine cY a ?_ ?_<;>intro a;refine Kd (pL (d:=K5 b) 1 ?_);refine eL (ds':=(dD b .no .no)) ?_;refine Yn ?_;obtain rfl:=Ke a;exact rP (t':=[(6,.ptr c 0),(7,iD 0),(8,iD 0)]) [2] [] 0 aU bU Za;refine Xj ?_;refine YP ?_;obtain ⟨h,j,k⟩:=Ka a;refine KS (Y:=Unit) (fun l=>⟨[(3,.ptr f 0),(6,.ptr c 0),(10,iD h),(11,iD g.2.2)],[(f,Blk.cells (dD a0 .no .no) 28),(c,Blk.cells [.lst 1 [] .full,.lst 1 [] .full] 28)],[]⟩) ?_ ?_;refine cY (Kx j) (fun a=>?_) fun a=>?_;refine Zs ?_;exact Kw (Ua a);exact Kp (Ua a);intro o m;refine Zb m fun l=>?_;refine Xw ?_;refine Zg ?_;refine dV (ds':=(dD a0 .no .no)) ?_;refine YE ?_;obtain rfl:=Ke k;exact rP (t':=[(6,.ptr c 0),(7,iD h),(8,iD g.2.2)]) [1] [] 0 aU bU Za
def Ht (a0:KB)(g:List aC):Option (KB×Int×Int):=
 (FK g).bind fun b=>bif b.2.2 != 0 then some (a0,b.2.1,b.2.2) else (Hu a0 b.1.gb).bind fun c=>κ (α:=List KC) (aE (fun (a:Int×List KC)=>bif decide (a.1<a0.gf.length) then bif a.1==c then (app 96 a.2 ([b.1]:List KC)).bind fun h=>some (.next ((ζ.wrap (a.1+1)),h)) else ((idx a0.gf a.1).bind fun i=>(app 96 a.2 ([i]:List KC)).bind fun j=>some (.next ((ζ.wrap (a.1+1)),j))) else some (.done a.2)) (0,([]:List KC))) fun d=>κ (α:=Int×List KC) (bif decide (c<0) then (app 96 d ([b.1]:List KC)).bind fun k=>some ((d.length:Int),k) else some (c,d)) fun f=>(Dc a0 (⟨a0.gc,f.2⟩:KB) (ζ.wrap ((a0.gc.length:Int)+f.1))).bind fun e=>some (e.1,e.2.1,e.2.2)
def Ud {A0 G:Prop}(a0:A0)(k:A0→G:=by intro _a;obtain rfl:=Ke _a;refine ⟨rfl,?_⟩;exact WkX.of _ (WkS.perm aU ((KO (j:=0) rfl).trans (χ _ ((KO (j:=0) rfl).trans (χ _ ((KO (j:=1) rfl).trans (χ _ Pf)))))) Pf)):G:=k a0
def Ue {R G:Prop}(h:R)(k:R→G:=by intro h;refine b5 8 [[],[0],[],[2],[],[2,3],[2,3,5],[2,3,5,6]] [0,1,2,3,5,6,7] ?_;exact h):G:=k h
def Oq (a0 s r)(x:Ht a0 s=some r):Cd 6 [K5 a0,c7 s] [] [] (dJ (.tup [K5 r.1,iD r.2.1,iD r.2.2])):=by
 refine cQ x Tryz.func6 fun C a=>?_;refine Zv fun l=>?_;refine Zj fun c=>?_;refine Xx ?_;refine fy a (PU s) fun b a=>?_;rintro _ _ _ ⟨e,f,g,rfl,rfl,rfl⟩;iterate 4 refine pu ?_
 refine Zj fun o=>?_;refine eL (ds':=(eE b.1 (.cur e) (.cur f) (.cur g))) ?_;refine Z7 ?_;refine ZM ?_;refine cY a ?_ ?_<;>intro a;refine Xw ?_;refine Zg ?_;refine dV (ds':=(dD a0 .no .no)) ?_;refine Yn ?_;obtain rfl:=Ke a;exact rP (t':=[(4,.ptr c 0),(5,iD b.2.1),(6,iD b.2.2)]) [1] [] 0 aU bU Za;refine Zm ?_;refine ZB ?_;refine h7 (r:=[cJ a0.gc,.lst 1 [] .full]) htab rfl rfl rfl rfl rfl rfl rfl rfl rfl (Zj fun m=>?_);refine ib (ds':=[cJ a0.gc,.lst 1 [] .full]) ?_;refine KE (pL (d:=K5 a0) 0 ?_);refine Ys ?_;refine bN a (Ot a0 b.1.gb) fun w a=>?_;refine Zd ?_;refine ZI a fun y z A=>?_;refine KS (fun t=>⟨[(2,.ptr l 0),(4,.ptr c 0),(7,.ptr o 0),(10,.ptr m 0),(11,iD w)],[(l,Blk.cells (dD a0 .no .no) 28),(c,Blk.cells [.lst 1 [] .full,.lst 1 [] .full] 28),(o,Blk.cells (eE b.1 (.cur e) (.cur f) (.cur g)) 52),(m,Blk.cells [cJ a0.gc,hY y t] 28)],[(5,t),(2,e),(2,f),(7,g)]⟩) ?_ ?_;refine Zk z fun aa B F=>?_;refine d7 B (fun u v=>⟨[(2,.ptr l 0),(4,.ptr c 0),(7,.ptr o 0),(10,.ptr m 0),(11,iD w),(12,iD u.1)],[(l,Blk.cells (dD a0 .no .no) 28),(c,Blk.cells [.lst 1 [] .full,.lst 1 [] .full] 28),(o,Blk.cells (eE b.1 (.cur e) (.cur f) (.cur g)) 52),(m,Blk.cells [cJ a0.gc,hY u.2 v] 28)],[(5,v),(2,e),(2,f),(7,g)]⟩) ?_ ?_;refine WkX.cellF (off:=1) 5 3 rfl rfl (by first|exact fi rfl|exact fh rfl) fun ac=>?_;exact ZG;intro G34 u v a;refine Yo ?_;refine cY a ?_ ?_<;>intro a;refine ZE ?_;refine YP ?_;refine cY a ?_ ?_<;>intro a;refine Zs ?_;refine pL 3 ?_;refine pL (d:=.agg (eE b.1 (.cur e) (.cur f) (.cur g))) 2 ?_;refine Zo ?_;refine bA (i:=44) (d':=ou [b.1]) rfl kx (Z6 a fun H I a J=>?_);refine jo (i:=45) I rfl (pu ?_);refine ib (ds':=[cJ a0.gc,hY H J]) ?_;exact Xk a;obtain ⟨K,L,a⟩:=Ka a;refine Ue ?_;iterate 7 apply Θ
 intro bs;refine ue ?_;refine e9 (KN 3 htab rfl rfl rfl rfl rfl) ?_;refine Z1 ?_;refine WC L ?_;refine sT (ExE.wk (iP htab rfl rfl rfl rfl rfl rfl rfl rfl rfl rfl rfl) (show Wk _ (ou [K]) from Wk.lst0 (.cons (WkC.refl _) (.nil)))) ?_;refine fj rfl (Z6 a fun M N a O=>?_);refine jo (i:=55) N rfl (pu ?_);refine ib (ds':=[cJ a0.gc,hY M O]) ?_;exact Xk a;exact Yf a F;intro ad P;refine Zb P fun t=>?_;refine ZM ?_;obtain ⟨n,Q,U⟩:=Ka A;refine KS (fun p=>⟨[(2,.ptr l 0),(4,.ptr c 0),(10,.ptr m 0),(11,iD n.1)],[(l,Blk.cells (dD a0 .no .no) 28),(c,Blk.cells [.lst 1 [] .full,.lst 1 [] .full] 28),(m,Blk.cells [cJ a0.gc,hY n.2 p] 28)],[(5,p)]⟩) ?_ ?_;refine cY (Kx Q) (fun a=>?_) fun a=>?_;refine Ze ?_;refine pL 3 ?_;refine ZL ?_;refine Zs ?_;refine pL 3 ?_;refine pL (d:=.agg (eE b.1 (.cur e) (.cur f) (.cur g))) 2 ?_;refine Zo ?_;refine bA (i:=65) (d':=ou [b.1]) rfl kx (Z6 a fun V W a X=>?_);refine jo (i:=66) W rfl (pu ?_);refine ib (ds':=[cJ a0.gc,hY V X]) ?_;exact Kw (Ud a);exact Kp (Ud a);intro ae Y;refine Zb Y fun p=>?_;refine Xw ?_;refine pL (d:=.agg [cJ a0.gc,hY n.2 p]) 2 ?_;refine pu ?_;refine pL 0 ?_;refine Z8 ?_;refine Zg ?_;obtain ⟨q,Z,a⟩:=Ka U;refine KX (JC a0 (⟨a0.gc,n.2⟩:KB) (ζ.wrap ((a0.gc.length:Int)+n.1)) q Z) rfl rfl rfl rfl rfl kx ?_;rintro _ rfl;iterate 3 refine pu ?_
 refine dV (ds':=(dD q.1 .no .no)) ?_;refine YE ?_;obtain rfl:=Ke a;exact rP (t':=[(4,.ptr c 0),(5,iD q.2.1),(6,iD q.2.2)]) [1] [] 0 aU bU Za
def Hy (a0:KB)(b:η):Option (Int):=
 κ (α:=(Unit)⊕(Int)) (aE (fun (a:Int)=>bif decide (a<a0.gc.length) then (idx a0.gc a).bind fun c=>bif decide (c.gb=b) then some (.done (.inr a)) else some (.next (ζ.wrap (a+1))) else some (.done (.inl ()))) 0) (Ω (fun d=>some (-1)) (fun r=>some r))
def Pr (a0 c r)(g:Hy a0 c=some r):Cd 21 [K5 a0,tD c] [] [] (dJ (iD r)):=by
 refine cQ g Tryz.func21 fun C a=>?_;refine Zv fun d=>?_;refine Zd ?_;refine ZI a fun h i b=>?_;refine fI (τ:=Unit) (Y:=Unit) (fun j o=>⟨[],[],[]⟩) h ?_ ?_;refine Zk i fun p k e=>?_;refine d7 (Y:=Unit) k (fun f l=>⟨[(1,tD c),(2,.ptr d 0),(5,iD f)],[(d,Blk.cells (dD a0 .no .no) 28)],[]⟩) ?_ ?_;exact Zn;intro G16 f l a;refine Yo ?_;refine cY a ?_ ?_<;>intro a;refine ZE ?_;refine ZB ?_;refine pu ?_;refine Zq a fun q s a=>?_;refine YD ?_;refine Z7 ?_;refine cY a ?_ ?_<;>intro a;refine Ze ?_;refine Zy ?_;obtain rfl:=KU a;refine Zt ?_;obtain rfl:=Ke e;refine fH ?_;simp only [ς] at b;refine Ks ?_;obtain rfl:=Ke b;exact Xb;exact Ym a;exact YA a e;intro j t m n;subst m;simp only [Γ] at b;exact Um n b
def Hw (a0:KB)(f:List aC):Option (KB×Int×Int):=
 (FN f).bind fun b=>bif b.2.2 != 0 then some (a0,b.2.1,b.2.2) else (Hy a0 b.1.gb).bind fun d=>κ (α:=List KR) (aE (fun (a:Int×List KR)=>bif decide (a.1<a0.gc.length) then bif a.1==d then (app 40 a.2 ([b.1]:List KR)).bind fun g=>some (.next ((ζ.wrap (a.1+1)),g)) else ((idx a0.gc a.1).bind fun h=>(app 40 a.2 ([h]:List KR)).bind fun i=>some (.next ((ζ.wrap (a.1+1)),i))) else some (.done a.2)) (0,([]:List KR))) fun e=>κ (α:=List KR) (bif decide (d<0) then (app 40 e ([b.1]:List KR)).bind fun j=>some j else some e) fun k=>(Dc a0 (⟨k,a0.gf⟩:KB) (-1)).bind fun c=>some (c.1,c.2.1,c.2.2)
def Pp (a0 k r)(q:Hw a0 k=some r):Cd 7 [K5 a0,c7 k] [] [] (dJ (.tup [K5 r.1,iD r.2.1,iD r.2.2])):=by
 refine cQ q Tryz.func7 fun C a=>?_;refine Zv fun e=>?_;refine Zj fun c=>?_;refine Xx ?_;refine bN a (P8 k) fun b a=>?_;iterate 4 refine pu ?_
 refine Zj fun g=>?_;refine eL (ds':=(iF b.1)) ?_;refine Z7 ?_;refine ZM ?_;refine cY a ?_ ?_<;>intro a;refine Xw ?_;refine Zg ?_;refine dV (ds':=(dD a0 .no .no)) ?_;refine Yn ?_;obtain rfl:=Ke a;exact rP (t':=[(4,.ptr c 0),(5,iD b.2.1),(6,iD b.2.2)]) [1] [] 0 aU bU Za;refine Zm ?_;refine ZB ?_;refine h7 (r:=[.lst 1 [] .full,cO a0.gf]) htab rfl rfl rfl rfl rfl rfl rfl rfl rfl (Zj fun f=>?_);refine ib (ds':=[.lst 1 [] .full,cO a0.gf]) ?_;refine KE (pL (d:=K5 a0) 0 ?_);refine Ys ?_;refine bN a (Pr a0 b.1.gb) fun p a=>?_;refine Zd ?_;refine ZI a fun s t u=>?_;refine KS (fun l=>⟨[(2,.ptr e 0),(4,.ptr c 0),(7,.ptr g 0),(10,.ptr f 0),(11,iD p)],[(e,Blk.cells (dD a0 .no .no) 28),(c,Blk.cells [.lst 1 [] .full,.lst 1 [] .full] 28),(g,Blk.cells (iF b.1) 58),(f,Blk.cells [gM s l,cO a0.gf] 28)],[(4,l)]⟩) ?_ ?_;refine Zk t fun Q v w=>?_;refine d7 v (fun m n=>⟨[(2,.ptr e 0),(4,.ptr c 0),(7,.ptr g 0),(10,.ptr f 0),(11,iD p),(12,iD m.1)],[(e,Blk.cells (dD a0 .no .no) 28),(c,Blk.cells [.lst 1 [] .full,.lst 1 [] .full] 28),(g,Blk.cells (iF b.1) 58),(f,Blk.cells [gM m.2 n,cO a0.gf] 28)],[(4,n)]⟩) ?_ ?_;refine WkX.cellF (off:=0) 4 3 rfl rfl (by first|exact fi rfl|exact fh rfl) fun R=>?_;exact ZG;intro G31 m n a;refine Yo ?_;refine cY a ?_ ?_<;>intro a;refine ZE ?_;refine YP ?_;refine cY a ?_ ?_<;>intro a;refine Zs ?_;refine pL 3 ?_;refine pL (d:=Kq b.1) 2 ?_;refine Zo ?_;refine bA (i:=44) (d':=ow [b.1]) rfl aU (Z6 a fun x y a z=>?_);refine jo (i:=45) y rfl (pu ?_);refine ib (ds':=[gM x z,cO a0.gf]) ?_;exact Xk a;obtain ⟨A,B,a⟩:=Ka a;refine Ue ?_;iterate 7 apply Θ
 intro bs;refine ue ?_;refine e9 (KN 3 htab rfl rfl rfl rfl rfl) ?_;refine Z1 ?_;refine WP B ?_;refine sT (ExE.wk (iP htab rfl rfl rfl rfl rfl rfl rfl rfl rfl rfl rfl) (show Wk _ (ow [A]) from Wk.lst0 (.cons (WkC.refl _) (.nil)))) ?_;refine fj rfl (Z6 a fun F G a H=>?_);refine jo (i:=55) G rfl (pu ?_);refine ib (ds':=[gM F H,cO a0.gf]) ?_;exact Xk a;exact Yf a w;intro U I;refine Zb I fun l=>?_;refine ZM ?_;obtain ⟨o,J,K⟩:=Ka u;refine KS (fun h=>⟨[(2,.ptr e 0),(4,.ptr c 0),(10,.ptr f 0)],[(e,Blk.cells (dD a0 .no .no) 28),(c,Blk.cells [.lst 1 [] .full,.lst 1 [] .full] 28),(f,Blk.cells [gM o h,cO a0.gf] 28)],[(4,h)]⟩) ?_ ?_;refine cY (Kx J) (fun a=>?_) fun a=>?_;refine Zs ?_;refine pL 3 ?_;refine pL (d:=Kq b.1) 2 ?_;refine Zo ?_;refine bA (i:=62) (d':=ow [b.1]) rfl aU (Z6 a fun L M a N=>?_);refine jo (i:=63) M rfl (pu ?_);refine ib (ds':=[gM L N,cO a0.gf]) ?_;exact Kw (Ud a);exact Kp (Ud a);intro V O;refine Zb O fun h=>?_;refine Xw ?_;refine pL (d:=.agg [gM o h,cO a0.gf]) 2 ?_;obtain ⟨j,P,a⟩:=Ka K;refine KX (JC a0 (⟨o,a0.gf⟩:KB) (-1) j P) rfl rfl rfl rfl rfl kx ?_;rintro _ rfl;iterate 3 refine pu ?_
 refine dV (ds':=(dD j.1 .no .no)) ?_;refine YE ?_;obtain rfl:=Ke a;exact rP (t':=[(4,.ptr c 0),(5,iD j.2.1),(6,iD j.2.2)]) [1] [] 0 aU bU Za
def Hs (a0:KB)(c:η):Option (KB×Int):=
 κ (α:=List KR) (aE (fun (a:Int×List KR)=>bif decide (a.1<a0.gc.length) then (idx a0.gc a.1).bind fun g=>bif !decide (g.gb=c) then (idx a0.gc a.1).bind fun h=>(app 40 a.2 ([h]:List KR)).bind fun i=>some (.next ((ζ.wrap (a.1+1)),i)) else some (.next ((ζ.wrap (a.1+1)),a.2)) else some (.done a.2)) (0,([]:List KR))) fun d=>κ (α:=List KC) (aE (fun (b:Int×List KC)=>bif decide (b.1<a0.gf.length) then (idx a0.gf b.1).bind fun j=>bif !decide (j.gb=c) then (idx a0.gf b.1).bind fun k=>(app 96 b.2 ([k]:List KC)).bind fun l=>some (.next ((ζ.wrap (b.1+1)),l)) else some (.next ((ζ.wrap (b.1+1)),b.2)) else some (.done b.2)) (0,([]:List KC))) fun e=>bif (ζ.wrap ((d.length:Int)+(e.length:Int)))==(ζ.wrap ((a0.gc.length:Int)+(a0.gf.length:Int))) then some (a0,7) else (Dc a0 (⟨d,e⟩:KB) (-1)).bind fun f=>some (f.1,f.2.2)
def Oo (a0 h r)(q:Hs a0 h=some r):Cd 8 [K5 a0,tD h] [] [] (dJ (.tup [K5 r.1,iD r.2])):=by
 refine cQ q Tryz.func8 fun C a=>?_;refine Zv fun e=>?_;refine Zj fun b=>?_;refine pu ?_;refine KE (h7 (r:=[.lst 1 [] .full,.lst 1 [] .full]) htab rfl rfl rfl rfl rfl rfl rfl rfl rfl (Zj fun f=>?_));refine eL (ds':=[.lst 1 [] .full,.lst 1 [] .full]) ?_;refine Kc (ZI a fun g s t=>?_);refine KS (fun c=>⟨[(1,tD h),(2,.ptr e 0),(4,.ptr b 0),(6,.ptr f 0)],[(e,Blk.cells (dD a0 .no .no) 28),(b,Blk.cells [.lst 1 [] .full,.lst 1 [] .full] 28),(f,Blk.cells [gM g c,.lst 1 [] .full] 28)],[(4,c)]⟩) ?_ ?_;refine Zk s fun Q u v=>?_;refine d7 u (fun l m=>⟨[(1,tD h),(2,.ptr e 0),(4,.ptr b 0),(6,.ptr f 0),(7,iD l.1)],[(e,Blk.cells (dD a0 .no .no) 28),(b,Blk.cells [.lst 1 [] .full,.lst 1 [] .full] 28),(f,Blk.cells [gM l.2 m,.lst 1 [] .full] 28)],[(4,m)]⟩) ?_ ?_;refine WkX.cellF (off:=0) 4 2 rfl rfl (by first|exact fi rfl|exact fh rfl) fun R=>?_;exact ZG;intro G25 l m a;refine Yo ?_;refine cY a ?_ ?_<;>intro a;refine ZE ?_;refine ZB ?_;refine pu ?_;refine Zq a fun U V a=>?_;refine YD ?_;refine Z7 ?_;refine cY a ?_ ?_<;>intro a;obtain ⟨w,x,a⟩:=Ka a;refine Ue ?_;iterate 7 apply Θ
 intro bs;refine YO ?_;refine Z1 ?_;refine WP x ?_;refine sT (ExE.wk (iP htab rfl rfl rfl rfl rfl rfl rfl rfl rfl rfl rfl) (show Wk _ (ow [w]) from Wk.lst0 (.cons (WkC.refl _) (.nil)))) ?_;refine fj rfl (Z6 a fun y z a A=>?_);refine jo (i:=35) z rfl (pu ?_);refine eL (ds':=[gM y A,.lst 1 [] .full]) ?_;exact Xk a;refine Kp (XE a ?_);exact ZG;exact Yf a v;intro W B;refine Zb B fun c=>?_;refine ZI t fun n F G=>?_;refine KS (fun k=>⟨[(2,.ptr e 0),(4,.ptr b 0),(6,.ptr f 0)],[(e,Blk.cells (dD a0 .no .no) 28),(b,Blk.cells [.lst 1 [] .full,.lst 1 [] .full] 28),(f,Blk.cells [gM g c,hY n k] 28)],[(5,k),(4,c)]⟩) ?_ ?_;refine Zk F fun X H I=>?_;refine d7 H (fun o p=>⟨[(1,tD h),(2,.ptr e 0),(4,.ptr b 0),(6,.ptr f 0),(8,iD o.1)],[(e,Blk.cells (dD a0 .no .no) 28),(b,Blk.cells [.lst 1 [] .full,.lst 1 [] .full] 28),(f,Blk.cells [gM g c,hY o.2 p] 28)],[(5,p),(4,c)]⟩) ?_ ?_;refine WkX.cellF (off:=1) 5 2 rfl rfl (by first|exact fi rfl|exact fh rfl) fun Y=>?_;exact ZG;intro G65 o p a;refine Yo ?_;refine cY a ?_ ?_<;>intro a;refine ZE ?_;refine ZB ?_;refine pu ?_;refine Zq a fun Z aa a=>?_;refine YD ?_;refine Z7 ?_;refine cY a ?_ ?_<;>intro a;obtain ⟨J,K,a⟩:=Ka a;refine Ue ?_;iterate 7 apply Θ
 intro bs;refine YO ?_;refine Z1 ?_;refine WC K ?_;refine sT (ExE.wk (iP htab rfl rfl rfl rfl rfl rfl rfl rfl rfl rfl rfl) (show Wk _ (ou [J]) from Wk.lst0 (.cons (WkC.refl _) (.nil)))) ?_;refine fj rfl (Z6 a fun L M a N=>?_);refine jo (i:=60) M rfl (pu ?_);refine eL (ds':=[gM g c,hY L N]) ?_;exact Xk a;refine Kp (XE a ?_);exact ZG;exact Yf a I;intro ac O;refine Zb O fun k=>?_;refine Zx ?_;refine pL 2 ?_;refine Ye ?_;refine pL 2 ?_;refine Z8 ?_;refine Zg ?_;refine pL 0 ?_;refine Ye ?_;refine pL 0 ?_;refine Z8 ?_;refine Z7 ?_;refine cY G ?_ ?_<;>intro a;refine Xw ?_;refine dV (ds':=(dD a0 .no .no)) ?_;refine ZS ?_;obtain rfl:=Ke a;exact rP (t':=[(4,.ptr b 0),(5,iD 7)]) [1] [] 0 aU bU Za;refine Yc ?_;refine pL (d:=K5 a0) 0 ?_;refine pL (d:=.agg [gM g c,hY n k]) 2 ?_;obtain ⟨j,P,a⟩:=Ka a;refine KX (JC a0 (⟨g,n⟩:KB) (-1) j P) rfl rfl rfl rfl rfl kx ?_;rintro _ rfl;iterate 4 refine pu ?_
 refine eL (ds':=(dD j.1 .no .no)) ?_;refine Zg ?_;refine KE (pL (d:=K5 j.1) 2 ?_);refine pu ?_;refine dV (ds':=(dD j.1 .no .no)) ?_;refine Zi ?_;obtain rfl:=Ke a;exact rP (t':=[(4,.ptr b 0),(5,iD j.2.2)]) [1] [] 0 aU bU Za
def Fm (a0:KB):Option (η):=
 κ (α:=η) (aE (fun (a:η×Int)=>bif decide (a.2<a0.gc.length) then (idx a0.gc a.2).bind fun c=>(Hz c).bind fun d=>(bD a.1 d).bind fun e=>some (.next (e,(ζ.wrap (a.2+1)))) else some (.done a.1)) ((ν #[]),0)) fun f=>κ (α:=η) (aE (fun (b:η×Int)=>bif decide (b.2<a0.gf.length) then (idx a0.gf b.2).bind fun g=>(Hn g).bind fun h=>(bD b.1 h).bind fun i=>some (.next (i,(ζ.wrap (b.2+1)))) else some (.done b.1)) (f,0)) fun j=>some j
def On (a0 r)(e:Fm a0=some r):Cd 12 [K5 a0] [] [] (dJ (tD r)):=by
 refine cQ e Tryz.func12 fun C a=>?_;refine Zv fun b=>?_;refine pu ?_;refine Yk ?_;refine ZI a fun f g h=>?_;refine KS (Y:=Unit) (fun i=>⟨[(1,.ptr b 0),(3,tD f)],[(b,Blk.cells (dD a0 .no .no) 28)],[]⟩) ?_ ?_;refine Zk g fun y j k=>?_;refine d7 (Y:=Unit) j (fun c l=>⟨[(1,.ptr b 0),(3,tD c.1),(4,iD c.2)],[(b,Blk.cells (dD a0 .no .no) 28)],[]⟩) ?_ ?_;exact Zn;intro G19 c l a;refine Yo ?_;refine cY a ?_ ?_<;>intro a;refine X4 ?_;refine Zq a fun m z a=>?_;refine Wx ?_;refine bN a (Ps m) fun A a=>?_;exact Wb a;exact Yg a k;intro B n;refine Zb n fun i=>?_;refine ZI h fun o p q=>?_;refine KS (Y:=Unit) (fun s=>⟨[(3,tD o)],[],[]⟩) ?_ ?_;refine Zk p fun F t u=>?_;refine d7 (Y:=Unit) t (fun d v=>⟨[(1,.ptr b 0),(3,tD d.1),(5,iD d.2)],[(b,Blk.cells (dD a0 .no .no) 28)],[]⟩) ?_ ?_;exact Zn;intro G51 d v a;refine Yo ?_;refine cY a ?_ ?_<;>intro a;refine X4 ?_;refine Zq a fun w G a=>?_;refine WA ?_;refine bN a (Ou w) fun H a=>?_;exact Wb a;exact Yg a u;intro I x;refine Z9 x fun s=>?_;refine Zi ?_;exact X5 q
abbrev A5:List aC:=[(105:aC),(110:aC),(116:aC),(32:aC),(109:aC),(97:aC),(105:aC),(110:aC),(40:aC),(41:aC),(32:aC),(123:aC),(32:aC),(114:aC),(101:aC),(116:aC),(117:aC),(114:aC),(110:aC),(32:aC),(51:aC),(59:aC),(32:aC),(125:aC)]
def l36_lives:Option (Bool):=
 store_New.bind fun b=>(Dw b A5).bind fun a=>bif a.1==(0:Int) then bif a.2.1==(0:Int) then (DC a.2.2).bind fun c=>bif (c.gf.length:Int)==(1:Int) then (Dv a.2.2 (ν #[102])).bind fun d=>some (d.1==(7:Int)) else some false else some false else some false
def Uw {A0 G:Prop}(a0:A0)(k:A0→G:=by intro _a;(iterate 3 refine pK ?_);refine Z0 ?_;refine Zi ?_;obtain rfl:=Ke _a;refine rP (t':=[(0,.v (.bool false))]) [] [] 0 aU bU ?_;exact Za):G:=k a0
def O4 (r)(d:l36_lives=some r):Cd 13 [] [] [] (dJ (.v (.bool r))):=by
 refine cQ d Tryz.func13 fun C a=>?_;refine Ze ?_;refine KE (fy a MX (fun e a=>?_));rintro _ _ _ ⟨b,f,g,rfl,rfl,rfl⟩;refine Zd ?_;refine X9 ?_;refine Ze ?_;refine A8 htab rfl rfl rfl rfl rfl rfl rfl rfl rfl rfl rfl rfl rfl rfl rfl rfl rfl rfl rfl (bA (i:=10) (d':=c7 A5) rfl aU (bN a (Nt e A5 b 46 (.cur f) (.cur g)) (fun c a=>?_)));iterate 5 refine pu ?_
 refine ZZ ?_;refine g6 (i:=16) a ?_ ?_<;>intro a;refine Zg ?_;refine YF ?_;refine g6 (i:=20) a ?_ ?_<;>intro a;refine pu ?_;refine bN a (Ny c.2.2 b 46 .no .no) fun j a=>?_;refine pu ?_;refine Ye ?_;refine YF ?_;refine g6 (i:=27) a ?_ ?_<;>intro a;refine pu ?_;refine bN a (Ns c.2.2 (ν #[102]) b 46 .no .no) fun h a=>?_;refine pu ?_;refine ZU ?_;refine Zi ?_;obtain rfl:=Ke a;exact rP (t':=[(0,.v (.bool (h.1==7)))]) [] [] 0 aU bU Za;exact Uw a;iterate 5 refine pK ?_
 refine Z2 ?_;exact Uw a;refine YG ?_;refine Z2 ?_;iterate 5 refine pK ?_
 refine Z2 ?_;exact Uw a
def Dy (a0:List Kbz):Option (Bool):=
 store_New.bind fun j=>κ (α:=(List KR×List KC×List KR×List KC)⊕(Bool)) (aE (fun (a:Int×List KR×List KC×List KR×List KC)=>bif decide (a.1<a0.length) then (idx a0 a.1).bind fun l=>(pD (⟨(⟨a.2.1,a.2.2.1⟩:KB)⟩:KaJ) l).bind fun c=>(idx a0 a.1).bind fun k=>κ (α:=Int×Int×List KR×List KC) (κ (α:=Int×Int×List KR×List KC) (bif k.gp==0 then (idx a0 a.1).bind fun m=>(Ht (⟨a.2.2.2.1,a.2.2.2.2⟩:KB) m.gq).bind fun d=>some (d.2.1,d.2.2,d.1.gc,d.1.gf) else κ (α:=Int×Int×List KR×List KC) (bif k.gp==1 then (idx a0 a.1).bind fun n=>(Hw (⟨a.2.2.2.1,a.2.2.2.2⟩:KB) n.gq).bind fun e=>some (e.2.1,e.2.2,e.1.gc,e.1.gf) else (idx a0 a.1).bind fun o=>(Hs (⟨a.2.2.2.1,a.2.2.2.2⟩:KB) o.gb).bind fun i=>some (0,i.2,i.1.gc,i.1.gf)) fun f=>some (f.1,f.2.1,f.2.2.1,f.2.2.2)) fun g=>some (g.1,g.2.1,g.2.2.1,g.2.2.2)) fun b=>κ (α:=Bool) (bif c.1 != b.1 then some true else bif c.2.1 != b.2.1 then some true else (DC c.2.2).bind fun p=>(Fo p (⟨b.2.2.1,b.2.2.2⟩:KB) true).bind fun q=>some (!q)) fun s=>bif s then some (.done (.inr false)) else some (.next ((ζ.wrap (a.1+1)),c.2.2.gP.gc,c.2.2.gP.gf,b.2.2.1,b.2.2.2)) else some (.done (.inl (a.2.1,a.2.2.1,a.2.2.2.1,a.2.2.2.2)))) (0,j.gP.gc,j.gP.gf,([]:List KR),([]:List KC))) (Ω (fun h=>(FT (⟨(⟨h.1,h.2.1⟩:KB)⟩:KaJ)).bind fun t=>(Fm (⟨h.2.2.1,h.2.2.2⟩:KB)).bind fun u=>bif decide (t=u) then l36_lives.bind fun v=>some v else some false) (fun r=>some r))
def l36_StoreEdits_ok (a0 r)(A:Dy a0=some r):Cd 3 [j2 a0] [] [] (dJ (.v (.bool r))):=by
 refine cQ A Tryz.func3 fun C a=>?_;refine Ze ?_;refine KE (fy a MX (fun B a=>?_));rintro _ _ _ ⟨c,w2,w3,rfl,rfl,rfl⟩;refine Zd ?_;refine X9 ?_;refine Kd (h7 (r:=[.lst 1 [] .full,.lst 1 [] .full]) htab rfl rfl rfl rfl rfl rfl rfl rfl rfl (Zj fun e=>?_));refine dV (ds':=[.lst 1 [] .full,.lst 1 [] .full]) ?_;refine Kc (ZI a fun F G o=>?_);refine fI (τ:=List KR×List KC×List KR×List KC) (Y:=Unit) (fun l H=>⟨[(3,.ptr c 0),(4,.ptr e 0)],[(c,Blk.cells [cJ l.1,cO l.2.1] 46),(e,Blk.cells [cJ l.2.2.1,cO l.2.2.2] 28)],[]⟩) F ?_ ?_;refine Zk G fun au I w=>?_;refine d7 (Y:=Unit) I (fun b J=>⟨[(0,j2 a0),(3,.ptr c 0),(4,.ptr e 0),(5,iD b.1)],[(c,Blk.cells [cJ b.2.1,cO b.2.2.1] 46),(e,Blk.cells [cJ b.2.2.2.1,cO b.2.2.2.2] 28)],[]⟩) ?_ ?_;exact WkX.wk (WkS.bl0 (ds':=(dD B.gP .no .no)) aU) (WkX.wk (WkS.bl1 (ds':=[cJ [],cO []]) aU) Zn);intro G149 b J a;refine YT ?_;refine cY a ?_ ?_<;>intro a;refine ZE ?_;refine ZK ?_;refine Zq a fun x av a=>?_;refine Az (d:=DH x) htab rfl rfl rfl rfl rfl rfl rfl rfl (bN a (r7 (⟨(⟨b.2.1,b.2.2.1⟩:KB)⟩:KaJ) x c 46 .no .no) (fun f a=>?_));iterate 5 refine pu ?_
 refine Zf ?_;refine Zd ?_;refine Zx ?_;refine pu ?_;refine Zq a fun aw ax a=>?_;refine YD ?_;refine Kc ?_;obtain ⟨g,K,L⟩:=Ka a;refine KS (Y:=Unit) (fun M=>⟨[(0,j2 a0),(3,.ptr c 0),(4,.ptr e 0),(5,iD b.1),(6,iD f.1),(7,iD f.2.1),(8,iD g.1),(9,iD g.2.1)],[(c,Blk.cells (dD f.2.2.gP .no .no) 46),(e,Blk.cells [cJ g.2.2.1,cO g.2.2.2] 28)],[]⟩) ?_ ?_;refine KD (Zh ?_);obtain ⟨p,N,O⟩:=Ka (Kx K);refine KS (Y:=Unit) (fun ay=>⟨[(0,j2 a0),(3,.ptr c 0),(4,.ptr e 0),(5,iD b.1),(6,iD f.1),(7,iD f.2.1),(8,iD p.1),(9,iD p.2.1)],[(c,Blk.cells (dD f.2.2.gP .no .no) 46),(e,Blk.cells [cJ p.2.2.1,cO p.2.2.2] 28)],[]⟩) ?_ ?_;refine cY (Kx N) (fun a=>?_) fun a=>?_;obtain ⟨P,Q,a⟩:=Ka a;obtain ⟨q,R,a⟩:=Ka a;refine i5 (Zp:=fun _ _=>False) (h:=[(c,Blk.cells (dD f.2.2.gP .no .no) 46)]) (k:=[]) [.on 11 11 (fun _ _=>([(e,Blk.cells (dD q.1 .no .no) 28)],[])) (.fix ([(e,Blk.cells [cJ b.2.2.2.1,cO b.2.2.2.2] 28)],[]))] (fun _ _ _=>True) 13 (oH [] [(0,[]),(0,[]),(0,[]),(0,[1]),(4,[3]),(5,[4]),(0,[0,1,3,4,5]),(7,[6]),(8,[7]),(9,[]),(9,[]),(9,[8]),(12,[11])]) [0,1,3,4,5,6,7,8,11] (fun _ _ h=>h.elim) Pf Pf ?_;iterate 9 apply Θ
 intro bs;refine tI 0 rfl rfl (fun _ _=>rfl) (KN (d:=K5 (⟨b.2.2.2.1,b.2.2.2.2⟩:KB)) 0 htab rfl rfl rfl rfl rfl) ?_;refine Y0 Q ?_;refine ue ?_;refine Y8 ?_;refine f8 (Oq (⟨b.2.2.2.1,b.2.2.2.2⟩:KB) P.gq q R) Wl ?_;refine ue ?_;refine YC ?_;refine uq ?_;refine it (dD q.1 .no .no) 0 ?_;refine uq ?_;refine gI [(c,Blk.cells (dD f.2.2.gP .no .no) 46),(e,Blk.cells (dD q.1 .no .no) 28)] [] ?_;exact Y5 a;refine Zh ?_;obtain ⟨s,U,V⟩:=Ka a;refine KS (Y:=Unit) (fun az=>⟨[(0,j2 a0),(3,.ptr c 0),(4,.ptr e 0),(5,iD b.1),(6,iD f.1),(7,iD f.2.1),(8,iD s.1),(9,iD s.2.1)],[(c,Blk.cells (dD f.2.2.gP .no .no) 46),(e,Blk.cells [cJ s.2.2.1,cO s.2.2.2] 28)],[]⟩) ?_ ?_;refine cY (Kx U) (fun a=>?_) fun a=>?_;obtain ⟨W,X,a⟩:=Ka a;obtain ⟨t,Z,a⟩:=Ka a;refine i5 (Zp:=fun _ _=>False) (h:=[(c,Blk.cells (dD f.2.2.gP .no .no) 46)]) (k:=[]) [.on 11 11 (fun _ _=>([(e,Blk.cells (dD t.1 .no .no) 28)],[])) (.fix ([(e,Blk.cells [cJ b.2.2.2.1,cO b.2.2.2.2] 28)],[]))] (fun _ _ _=>True) 13 (oH [] [(0,[]),(0,[]),(0,[]),(0,[1]),(4,[3]),(5,[4]),(0,[0,1,3,4,5]),(7,[6]),(8,[7]),(9,[]),(9,[]),(9,[8]),(12,[11])]) [0,1,3,4,5,6,7,8,11] (fun _ _ h=>h.elim) Pf Pf ?_;iterate 9 apply Θ
 intro bs;refine tI 0 rfl rfl (fun _ _=>rfl) (KN (d:=K5 (⟨b.2.2.2.1,b.2.2.2.2⟩:KB)) 0 htab rfl rfl rfl rfl rfl) ?_;refine Y0 X ?_;refine ue ?_;refine Y8 ?_;refine f8 (Pp (⟨b.2.2.2.1,b.2.2.2.2⟩:KB) W.gq t Z) Wl ?_;refine ue ?_;refine YC ?_;refine uq ?_;refine it (dD t.1 .no .no) 0 ?_;refine uq ?_;refine gI [(c,Blk.cells (dD f.2.2.gP .no .no) 46),(e,Blk.cells (dD t.1 .no .no) 28)] [] ?_;exact Y5 a;obtain ⟨aa,ac,a⟩:=Ka a;obtain ⟨u,ad,a⟩:=Ka a;refine i5 (Zp:=fun _ _=>False) (h:=[(c,Blk.cells (dD f.2.2.gP .no .no) 46)]) (k:=[]) [.on 10 10 (fun _ _=>([(e,Blk.cells (dD u.1 .no .no) 28)],[])) (.fix ([(e,Blk.cells [cJ b.2.2.2.1,cO b.2.2.2.2] 28)],[]))] (fun _ _ _=>True) 11 [[],[],[],[1],[1,3],[1,3,4],[0,1,3,4,5],[0,1,3,4,5,6],[0,1,3,4,5,6,7],[0,1,3,4,5,6,7],[0,1,3,4,5,6,7,8]] [0,1,3,4,5,6,7,8,10] (fun _ _ h=>h.elim) Pf Pf ?_;iterate 9 apply Θ
 intro bs;refine tI 0 rfl rfl (fun _ _=>rfl) (KN (d:=K5 (⟨b.2.2.2.1,b.2.2.2.2⟩:KB)) 0 htab rfl rfl rfl rfl rfl) ?_;refine Y0 ac ?_;refine ue ?_;refine Y8 ?_;refine f8 (Oo (⟨b.2.2.2.1,b.2.2.2.2⟩:KB) aa.gb u ad) Wl ?_;refine ue ?_;refine YC ?_;refine it (dD u.1 .no .no) 0 ?_;refine gI [(c,Blk.cells (dD f.2.2.gP .no .no) 46),(e,Blk.cells (dD u.1 .no .no) 28)] [] ?_;exact Y5 a;intro ba ae;exact Yp V ae;intro bb af;exact KF (Yp O af);intro bc ag;refine Zb ag fun M=>?_;refine Zl L fun ah y ai=>?_;refine KS (Y:=Unit) (fun aj=>⟨[(0,j2 a0),(3,.ptr c 0),(4,.ptr e 0),(5,iD b.1),(84,.v (.bool ah))],[(c,Blk.cells (dD f.2.2.gP .no .no) 46),(e,Blk.cells [cJ g.2.2.1,cO g.2.2.2] 28)],[]⟩) ?_ ?_;refine iz (f.1 != g.1) (fun m=>?_) fun m=>?_;have a:=cD m (Kx y);refine b5 12 [[],[],[],[],[],[],[],[],[],[],[],[]] [] ?_;intro bs;iterate 4 refine uq ?_
 refine jQ (j:=73) (b':=true) m ?_;iterate 3 refine yN ?_
 refine tJ (lH rfl rfl rfl) ?_;refine uq ?_;iterate 3 refine yN ?_
 refine fj rfl (YG ?_);exact ZA a;have a:=cE m (Kx y);refine iz (f.2.1 != g.2.1) (fun n=>?_) fun n=>?_;replace a:=cD n a;refine b5 12 [[],[],[],[],[],[],[],[],[],[],[],[]] [] ?_;intro bs;iterate 4 refine uq ?_
 refine jQ (j:=73) (b':=false) m ?_;iterate 3 refine uq ?_
 refine XG ?_;refine jQ (j:=78) (b':=true) n ?_;iterate 3 refine yN ?_
 refine fj rfl (YG ?_);exact ZA a;replace a:=cE n a;obtain ⟨z,ak,a⟩:=Ka a;refine b5 12 [[],[],[],[],[],[],[],[],[],[],[9],[]] [9,10,11] ?_;iterate 3 apply Θ
 intro bs;iterate 4 refine uq ?_
 refine jQ (j:=73) (b':=false) m ?_;iterate 3 refine uq ?_
 refine XG ?_;refine jQ (j:=78) (b':=false) n ?_;refine ue ?_;refine kC 0 (Ny f.2.2 c 46 .no .no z ak) Wl ?_;refine e9 (KN (d:=K5 (⟨g.2.2.1,g.2.2.2⟩:KB)) 1 htab rfl rfl rfl rfl rfl) ?_;refine fj rfl (bN a (Pv z (⟨g.2.2.1,g.2.2.2⟩:KB) true) (fun bd a=>?_));refine pu ?_;exact ZF a;intro be al;refine Zb al fun aj=>?_;refine cY ai ?_ ?_<;>intro a;refine Yq ?_;obtain rfl:=KU a;refine Zt ?_;obtain rfl:=Ke w;refine fH ?_;simp only [ς] at o;refine Ks ?_;obtain rfl:=Ke o;exact rP (t':=[(2,.v (.bool false))]) [] [] 0 aU bU Za;exact Ym a;exact YI a w;intro l bf am an;subst am;simp only [Γ] at o;refine Zb an fun H=>?_;refine Zl o fun ao ap a=>?_;refine b5 3 [[],[0],[]] [0,1,2] ?_;iterate 3 apply Θ
 intro bs;refine ue ?_;refine kC 0 (Qr (⟨(⟨l.1,l.2.1⟩:KB)⟩:KaJ) c 46 .no .no ao ap) Wl ?_;refine e9 (KN (d:=K5 (⟨l.2.2.1,l.2.2.2⟩:KB)) 1 htab rfl rfl rfl rfl rfl) ?_;refine fj rfl (bN a (On (⟨l.2.2.1,l.2.2.2⟩:KB)) (fun bg a=>?_));refine Zg ?_;refine g6 (i:=90) a ?_ ?_<;>intro a;refine bN a O4 fun bh a=>?_;refine ZU ?_;exact Uo a;refine pK ?_;refine Z0 ?_;refine Zi ?_;obtain rfl:=Ke a;exact rP (t':=[(2,.v (.bool false))]) [] [] 0 aU bU Za
end
section
open Go
mutual
def szE:Kf→Nat
 | ⟨_,_,_,ks,_⟩=>1+b7 ks
def b7:List Kf→Nat
 | []=>0
 | e::l=>szE e+b7 l
end
mutual
def dpE:Kf→Nat
 | ⟨_,_,_,ks,_⟩=>1+dS ks
def dS:List Kf→Nat
 | []=>0
 | e::l=>max (dpE e) (dS l)
end
def la (e:Kf):szE e=1+b7 e.gd:=by cases e;simp only [szE]
def kS (e:Kf):dpE e=1+dS e.gd:=by cases e;simp only [dpE]
def Fv:∀ l m,b7 (l++m)=b7 l+b7 m
 | [],m=>by simp [b7]
 | e::l,m=>by simp only [bK,b7,Fv l m];omega
def HD:∀ l m,dS (l++m)=max (dS l) (dS m)
 | [],m=>by simp [dS]
 | e::l,m=>by simp only [bK,dS,HD l m];omega
def Ac:∀ {l:List Kf} {e:Kf},e∈l→dpE e≤dS l
 |
  x::l,e,h=>by
  simp only [dS];rcases cX.1 h with rfl|h
  ·omega
  have:=Ac h;omega
def wM:∀ {l:List Kf} {e:Kf},e∈l→szE e≤b7 l
 |
  x::l,e,h=>by
  simp only [b7];rcases cX.1 h with rfl|h
  ·omega
  have:=wM h;omega
mutual
def pO:∀ e,dpE e≤szE e
 |
  ⟨a,b,c,ks,d⟩=>by
  have:=qT ks;simp only [szE,dpE];omega
def qT:∀ l,dS l≤b7 l
 | []=>by simp [b7,dS]
 |
  e::l=>by
  have h1:=pO e;have h2:=qT l;simp only [b7,dS];omega
end
def p5:∀ l,l.length≤b7 l
 | []=>by simp
 |
  e::l=>by
  have:=p5 l;have h:=la e;simp only [b7,Ψ];omega
def GX {e k:Kf}(h:k∈e.gd):dpE k<dpE e∧szE k<szE e:=by
 have h1:=Ac h;have h2:=wM h;rw [kS e,la e];omega
def GU {l pre:List Kf}{x:Kf}{post:List Kf}(h:l=pre++x::post):b7 pre+szE x≤b7 l:=by
 subst h;rw [Fv];simp only [b7];omega
end
section
open Go
def scan {α β τ:Type}(step:α→β→α⊕τ)(fin:α→τ):α→List β→τ
 | a,[]=>fin a
 | a,x::l=>match step a x with|.inl a'=>scan step fin a' l|.inr t=>t
def Fa {σ τ α β:Type}{f:σ→Option (Step σ τ)}(l:List β)(step:α→β→α⊕τ)(fin:α→τ)(st:α→Nat→σ)(I:List β→α→Prop)(a0:α)(b:I [] a0)
  (hI:∀ pre x post a a',l=pre++x::post→I pre a→step a x=.inl a'→I (pre++[x]) a')
  (h1:∀ pre x post a,l=pre++x::post→I pre a→f (st a pre.length)=some (Ω (fun a'=>.next (st a' (pre.length+1))) .done (step a x)))
  (h2:∀ a,I l a→f (st a l.length)=some (.done (fin a))):aE f (st a0 0)=some (scan step fin a0 l):=by
 have key:∀ (post pre:List β) (a:α),l=pre++post→I pre a→aE f (st a pre.length)=some (scan step fin a post):=by
  intro post;induction post with
  | nil=>intro pre a h hi;rw [aN] at h;subst h;exact K0 (h2 a hi)
  |
   cons x post ih=>
   intro pre a h hi;have h1':=h1 pre x post a h hi;have hI':=hI pre x post a;simp only [scan];cases hs:step a x with
   |
    inl a'=>
    rw [hs,Γ] at h1';rw [ig h1'];have:=ih (pre++[x]) a' (by simp [h]) (hI' a' h hi hs);simpa using this
   | inr t=>rw [hs,ς] at h1';exact K0 h1'
 exact key l [] a0 rfl b
def oA {τ β:Type}{f:Int→Option (Step Int τ)}(l:List β)(step:Unit→β→Unit⊕τ)(z:τ)
  (h1:∀ pre x post,l=pre++x::post→f (pre.length:Int)=some (Ω (fun _=>.next ((pre.length+1:Nat):Int)) .done (step () x)))
  (h2:f (l.length:Int)=some (.done z)):aE f (0:Int)=some (scan step (fun _=>z) () l):=
 Fa l step (fun _=>z) (fun _ k=>(k:Int)) (fun _ _=>True) () trivial (fun _ _ _ _ _ _ _ _=>trivial) (fun pre x post _ h _=>h1 pre x post h) (fun _ _=>h2)
def Ju {α τ β:Type}{f:α×Int→Option (Step (α×Int) τ)}(l:List β)(step:α→β→α⊕τ)(fin:α→τ)(I:List β→α→Prop)(a0:α)(b:I [] a0)
  (hI:∀ pre x post a a',l=pre++x::post→I pre a→step a x=.inl a'→I (pre++[x]) a')
  (h1:∀ pre x post a,l=pre++x::post→I pre a→f (a,(pre.length:Int))=some (Ω (fun a'=>.next (a',((pre.length+1:Nat):Int))) .done (step a x)))
  (h2:∀ a,I l a→f (a,(l.length:Int))=some (.done (fin a))):aE f (a0,(0:Int))=some (scan step fin a0 l):=
 Fa l step fin (fun a k=>(a,(k:Int))) I a0 b hI h1 h2
def vk (n:η):List KZ→Int
 | []=>0
 | v::l=>if v.gb=n then bif v.gA then 2 else 1 else vk n l
def gk (n:η):List KR→Int
 | []=>0
 | g::l=>if g.gb=n then bif g.gA then 2 else bif decide (0<g.gC) then 3 else 1 else gk n l
def Mc (n:η):∀ l m,vk n (l++m)=if vk n l=0 then vk n m else vk n l
 | [],m=>by simp [vk]
 |
  v::l,m=>by
  simp only [bK,vk,Mc n l m];by_cases h:v.gb=n
  ·simp only [h,bR];cases v.gA<;>simp
  simp only [h,bE]
def lU {ρ:Type}(n:η)(c:Int→ρ)(z:ρ):∀ l:List KZ,scan (fun (_:Unit) v=>if v.gb=n then .inr (c (bif v.gA then 2 else 1)) else .inl ()) (fun _=>z) () l=if vk n l=0 then z else c (vk n l)
 | []=>by simp [scan,vk]
 |
  v::l=>by
  simp only [scan,vk];by_cases h:v.gb=n
  ·simp only [h,bR];cases v.gA<;>simp
  simp only [h,bE];exact lU n c z l
def lV {ρ:Type}(n:η)(c:Int→ρ)(z:ρ):∀ l:List KR,scan (fun (_:Unit) g=>if g.gb=n then .inr (c (bif g.gA then 2 else bif decide (0<g.gC) then 3 else 1)) else .inl ()) (fun _=>z) () l=if gk n l=0 then z else c (gk n l)
 | []=>by simp [scan,gk]
 |
  v::l=>by
  simp only [scan,gk];by_cases h:v.gb=n
  ·simp only [h,bR];cases v.gA<;>simp;by_cases h2:0<v.gC<;>simp [h2]
  simp only [h,bE];exact lV n c z l
def Jb (b:Bool):Ct b=some (bif b then 2 else 1):=by unfold Ct;cases b<;>rfl
def Jt {s:K8}{n:η}(hb:s.gP.gc.length≤4611686018427387904):Au s n=some (gk n s.gP.gc):=by
 unfold Au;rw [oA s.gP.gc (fun (_:Unit) g=>if g.gb=n then .inr (bZ (bif g.gA then 2 else bif decide (0<g.gC) then 3 else 1)) else .inl ()) (.inl ())
  (fun pre x post h=>by
   simp only [fL h,ξ];rw [h,iX,δ];by_cases hn:x.gb=n
   ·simp only [hn,eF,ξ,bR,Jb];by_cases h2:0<x.gC<;>cases x.gA<;>simp [h2]
   simp only [hn,cW,θ,bE,fK h hb];rfl) (by simp)]
 rw [δ,lV n bZ (c5 ())];split;rename_i h;simp [h];simp
def LF {p:KB}{n:η}(hb:p.gc.length≤4611686018427387904):FA p n=some (gk n p.gc):=by
 unfold FA;rw [oA p.gc (fun (_:Unit) g=>if g.gb=n then .inr (bZ (bif g.gA then 2 else bif decide (0<g.gC) then 3 else 1)) else .inl ()) (.inl ())
  (fun pre x post h=>by
   simp only [fL h,ξ];rw [h,iX,δ];by_cases hn:x.gb=n
   ·simp only [hn,eF,ξ,bR];by_cases h2:0<x.gC<;>cases x.gA<;>simp [h2]
   simp only [hn,cW,θ,bE,fK h hb];rfl) (by simp)]
 rw [δ,lV n bZ (c5 ())];split;rename_i h;simp [h];simp
end
end Go.Proofs.YticifeeokcgfkaaGreatDoor.Ab
namespace Go.Proofs.YticifeeokcgfkaaGreatDoor.Ab
section
open Go
def Mb {s:K8}{n:η}(h1:s.gF.gh.length≤4611686018427387904)(h2:s.gF.gi.length≤4611686018427387904):FW s n=some (vk n (s.gF.gh++s.gF.gi)):=by
 unfold FW;have inner:∀ x:List KZ,x.length≤4611686018427387904→aE (fun (a:Int)=>(bif (decide (a<(x.length:Int))) then ((idx x a).bind fun b=>(bif (decide (b.gb=n)) then ((Ct b.gA).bind fun c=>some (Step.done (τ:=Unit⊕Int) (.inr c))) else some (.next (ζ.wrap (a+(1:Int)))))) else some (.done (.inl ())))) (0:Int)=some (if vk n x=0 then .inl () else .inr (vk n x)):=by
  intro x hb;rw [oA x (fun (_:Unit) v=>if v.gb=n then .inr (bZ (bif v.gA then 2 else 1)) else .inl ()) (.inl ())
   (fun pre x post h=>by
    simp only [fL h,ξ];rw [h,iX,δ];by_cases hn:x.gb=n
    ·simp only [hn,eF,ξ,bR,Jb];rfl
    simp only [hn,cW,θ,bE,fK h hb];rfl) (by simp),lU n bZ (c5 ())]
 rw [oA [s.gF.gh,s.gF.gi] (fun (_:Unit) x=>if vk n x=0 then .inl () else .inr (bZ (vk n x))) (.inl ())
  (fun pre x post h=>by
   have hlt:decide ((pre.length:Int)<2)=true:=by simpa using fL h
   simp only [hlt,ξ];have hx:x.length≤4611686018427387904:=by
    have:=iW h;simp only [cX,List.not_mem_nil,or_false] at this;rcases this with rfl|rfl<;>assumption
   rw [h,iX,δ,inner x hx,δ];have hi:=fK h (by simp);by_cases hn:vk n x=0
   ·simp only [hn,bR,Γ,hi]
   simp only [hn,bE,ς]) (by simp)]
 rw [δ,Mc];simp only [scan];by_cases h1:vk n s.gF.gh=0;simp only [h1,bR];by_cases h2:vk n s.gF.gi=0;simp [h2];simp [h2];simp [h1]
def Ma {f:KC}{n:η}(hb:f.gh.length+f.gi.length≤8388608):Dq f n=some (vk n (f.gh++f.gi)):=by
 unfold Dq;rw [h9 (by omega) (by simp;omega),δ,a8,h9 (by omega) (by omega),δ];rw [oA (f.gh++f.gi) (fun (_:Unit) v=>if v.gb=n then .inr (bZ (bif v.gA then 2 else 1)) else .inl ()) (.inl ())
  (fun pre x post h=>by
   simp only [fL h,ξ];rw [h,iX,δ,δ];by_cases hn:x.gb=n
   ·simp only [hn,eF,ξ,bR];cases x.gA<;>rfl
   simp only [hn,cW,θ,bE,fK h (by simp;omega)];rfl) (by simp),δ,lU n bZ (c5 ())]
 split;rename_i h;simp [h];simp
def kd (p:KB)(f:KC)(n:η):Int:=if vk n (f.gh++f.gi)=0 then gk n p.gc else vk n (f.gh++f.gi)
structure Fit (p:KB) (f:KC):Prop where
 gl:p.gc.length≤1048576
 fu:p.gf.length≤1048576
 pa:∀ g∈p.gf,g.gh.length≤1048576
 fp:f.gh.length≤1048576
 fl:f.gi.length≤1048576
def I0 {p:KB}{f:KC}{n:η}(hf:Fit p f):Dh p f n=some (kd p f n):=by
 have:=hf.gl;have:=hf.fp;have:=hf.fl;unfold Dh;rw [Ma (by omega),LF (by omega)];simp only [δ];unfold kd;by_cases h:vk n (f.gh++f.gi)=0;simp [h];have h':(vk n (f.gh++f.gi) != 0)=true:=by simpa using h
 simp only [h',ξ,h,bE]
def mus (k at_:Int)(ks:List Int):(Int×Int)⊕Int:=if k=0 then .inl (at_,7) else if k∈ks then .inr k else .inl (at_,9)
def L9 (k:Int){τ:Type}(y z:τ):∀ ks:List Int,scan (fun (_:Unit) x=>bif x==k then .inr y else .inl ()) (fun _=>z) () ks=if k∈ks then y else z
 | []=>by simp [scan]
 |
  x::l=>by
  simp only [scan,cX];by_cases h:x=k
  ·subst h;simp
  have h':¬ k=x:=fun e=>h e.symm
  have hb:(x==k)=false:=by simpa using h
  simp only [hb,θ,h',false_or];exact L9 k y z l
def GA {k at_:Int}{ks:List Int}(hb:ks.length≤4611686018427387904):FB k at_ ks=some (mus k at_ ks):=by
 unfold FB mus;by_cases hk:k=0;subst hk;simp [j3];have hk':(k==0)=false:=by simpa using hk
 simp only [hk',θ,δ,Γ,hk,bE];rw [oA ks (fun (_:Unit) x=>bif x==k then .inr (bZ (bZ k)) else .inl ()) (.inl ())
  (fun pre x post h=>by
   simp only [fL h,ξ];rw [h,iX,δ];by_cases hn:x==k
   ·simp [hn]
   rw [Bool.not_eq_true] at hn;simp only [hn,θ,fK h hb];rfl) (by simp),δ,L9 k]
 by_cases h:k∈ks;simp [h];simp [h,j3]
def name_eq {p:KB}{f:KC}{n:η}{at_:Int}{ks:List Int}(hf:Fit p f)(hb:ks.length≤4611686018427387904):wu ⟨p,f⟩ n at_ ks=some (mus (kd p f n) at_ ks):=by
 have:=hf.gl;have:=hf.fp;have:=hf.fl;unfold wu;rw [Mb (by simp only;omega) (by simp only;omega),Jt (by simp only;omega)];simp only [δ];unfold kd;by_cases h:vk n (f.gh++f.gi)=0;simp only [h,aG,ξ,δ,bR,GA hb];cases mus (gk n p.gc) at_ ks<;>rfl;have h':(vk n (f.gh++f.gi)==0)=false:=by simpa using h
 simp only [h',θ,δ,h,bE,GA hb];cases mus (vk n (f.gh++f.gi)) at_ ks<;>rfl
def LE {p:KB}{f:KC}{e:Kf}{w:Int}(hf:Fit p f):FU ⟨p,f⟩ e w=some (Ω .inl (fun _=>.inr 2) (mus (if vk e.gb (f.gh++f.gi)=0 then gk e.gb p.gc else 2) e.ga [w])):=by
 have:=hf.gl;have:=hf.fp;have:=hf.fl;unfold FU;rw [Mb (by simp only;omega) (by simp only;omega),Jt (by simp only;omega)];simp only [δ];by_cases h:vk e.gb (f.gh++f.gi)=0;simp only [h,b3,θ,δ,bR,GA (show [w].length≤4611686018427387904 by simp)];cases mus (gk e.gb p.gc) e.ga [w]<;>rfl;have h':(vk e.gb (f.gh++f.gi) != 0)=true:=by simpa using h
 simp only [h',ξ,δ,h,bE,GA (show [w].length≤4611686018427387904 by simp)];cases mus 2 e.ga [w]<;>rfl
def is_eq (k a b:Int):sH k a b=some (if k=0 then 7 else if k=a∨k=b then 0 else 9):=by
 unfold sH;by_cases c:k=0;subst c;simp;have d:(k==0)=false:=by simpa using c
 simp only [d,θ,c,bE];by_cases ha:k=a;subst ha;simp;have ea:(k==a)=false:=by simpa using ha
 simp only [ea,θ,ha,false_or];by_cases hb:k=b;subst hb;simp;have eb:(k==b)=false:=by simpa using hb
 simp only [eb,θ,hb,bE]
def kn (op:Int):Int:=if op=1∨op=2∨op=4∨op=18∨op=19 then 0 else if op=3∨op=20∨op=5∨op=6 then 1 else if 7≤op∧op≤17 then 2 else -1
def vP (op:Int):HB op=some (kn op):=by
 unfold HB kn;by_cases h1:op=1;subst h1;rfl;by_cases h2:op=2;subst h2;rfl;by_cases a:op=4;subst a;rfl;by_cases b:op=18;subst b;rfl;by_cases c:op=19;subst c;rfl;by_cases d:op=3;subst d;rfl;by_cases e:op=20;subst e;rfl;by_cases f:op=5;subst f;rfl;by_cases g:op=6;subst g;rfl;simp only [beq_eq_false_iff_ne.2 h1,beq_eq_false_iff_ne.2 h2,beq_eq_false_iff_ne.2 a,beq_eq_false_iff_ne.2 b,beq_eq_false_iff_ne.2 c,beq_eq_false_iff_ne.2 d,beq_eq_false_iff_ne.2 e,beq_eq_false_iff_ne.2 f,beq_eq_false_iff_ne.2 g,θ,δ,Γ,h1,h2,a,b,c,d,e,f,g,false_or,bE];by_cases ha:7≤op<;>by_cases hb:op≤17<;>simp [ha,hb]
def ui (op:Int):Fq op=some (kn op):=by
 by_cases h:op<1∨20<op;unfold Fq kn;have e:(if op=1∨op=2∨op=4∨op=18∨op=19 then (0:Int) else if op=3∨op=20∨op=5∨op=6 then 1 else if 7≤op∧op≤17 then 2 else -1)=-1:=by rw [aF (by omega),aF (by omega),aF (by omega)]
 rw [e];rcases h with h|h;simp [h];by_cases h2:op<1<;>simp [h,h2];have hc:op=1∨op=2∨op=3∨op=4∨op=5∨op=6∨op=7∨op=8∨op=9∨op=10∨op=11∨op=12∨op=13∨op=14∨op=15∨op=16∨op=17∨op=18∨op=19∨op=20:=by omega
 rcases hc with rfl|rfl|rfl|rfl|rfl|rfl|rfl|rfl|rfl|rfl|rfl|rfl|rfl|rfl|rfl|rfl|rfl|rfl|rfl|rfl<;>rfl
end
section
open Go
def fn1:List (Kf×Int)→Option Int
 | []=>none
 | (e,t)::l=>if t=1 then fn1 l else some e.ga
def AM (p:KB)(f:KC)(op:Int)(name:η)(at_:Int)(ks:List Kf)(ts:List Int):(Int×Int)⊕Int:=
 if op=14∨op=15 then
  match ks,ts with
  | [_,b],[x,y]=>if x=y then .inr 1 else .inl (b.ga,9)
  | _,_=>.inr 1
 else match fn1 (ks.zip ts) with
  | some a=>.inl (a,9)
  |
   none=>
   if op=2 then mus (kd p f name) at_ [1,2]
   else if op=3 then Ω .inl (fun _=>.inr 1) (mus (kd p f name) at_ [3])
   else if op=4 then Ω .inl (fun _=>.inr 1) (mus (kd p f name) at_ [2])
   else if op=18 then .inr 2
   else if op=19 then Ω .inl (fun _=>.inr 2) (mus (if vk name (f.gh++f.gi)=0 then gk name p.gc else 2) at_ [1])
   else if op=20 then Ω .inl (fun _=>.inr 2) (mus (if vk name (f.gh++f.gi)=0 then gk name p.gc else 2) at_ [3])
   else .inr 1
mutual
def j8 (p:KB)(f:KC):Kf→(Int×Int)⊕Int
 | ⟨op,_,name,ks,at_⟩=>if kn op<0∨(ks.length:Int)≠kn op then .inl (at_,2) else Ω .inl (fun ts=>AM p f op name at_ ks ts) (tyL p f ks)
def tyL (p:KB) (f:KC):List Kf→(Int×Int)⊕List Int
 | []=>.inr []
 | e::l=>Ω .inl (fun t=>Ω .inl (fun ts=>.inr (t::ts)) (tyL p f l)) (j8 p f e)
end
def oX (p:KB)(f:KC)(e:Kf):j8 p f e=if kn e.gj<0∨(e.gd.length:Int)≠kn e.gj then .inl (e.ga,2) else Ω .inl (fun ts=>AM p f e.gj e.gb e.ga e.gd ts) (tyL p f e.gd):=by cases e;simp only [j8]
def EZ {p:KB}{f:KC}:∀ {l:List Kf} {ts:List Int},tyL p f l=.inr ts→ts.length=l.length
 | [],ts,h=>by simp only [tyL,fD] at h;subst h;rfl
 |
  e::l,ts,h=>by
  simp only [tyL] at h;cases h1:j8 p f e with
  | inl pe=>rw [h1] at h;cases h
  |
   inr t=>
   rw [h1] at h;cases h2:tyL p f l with
   | inl pe=>rw [h2] at h;cases h
   |
    inr ts'=>
    rw [h2] at h;simp only [ς,fD] at h;subst h;simp [EZ h2]
def Dk:∀ l:List Kf,l.length≤b7 l
 | []=>by simp [b7]
 |
  e::l=>by
  have:=Dk l;have:=la e;simp only [b7,Ψ];omega
def kv {β γ:Type}{l:List β}{m:List γ}(hl:l.length=m.length){pre post:List (β×γ)}{x:β}{y:γ}(h:l.zip m=pre++(x,y)::post):idx l (pre.length:Int)=some x∧idx m (pre.length:Int)=some y:=by
 have h1:l=pre.map Prod.fst++x::post.map Prod.fst:=by have:=a6 (List.map Prod.fst) h;rw [List.map_fst_zip (by omega)] at this;simpa using this
 have h2:m=pre.map RI++y::post.map RI:=by have:=a6 (List.map RI) h;rw [List.map_snd_zip (by omega)] at this;simpa using this
 exact ⟨sY h1 (by simp),sY h2 (by simp)⟩
def Hi (e:Kf)(t:Int):Ap e t=some (if t=1 then .inr () else .inl (e.ga,9)):=by
 unfold Ap;by_cases h:t=1;subst h;rfl;have h':(t != 1)=true:=by simpa using h
 simp [h',h,j3]
def GT {τ:Type}(c:Int→τ)(z:τ):∀ l:List (Kf×Int),scan (fun (_:Unit) (x:Kf×Int)=>if x.2=1 then .inl () else .inr (c x.1.ga)) (fun _=>z) () l=match fn1 l with|some a=>c a|none=>z
 | []=>rfl
 |
  (e,t)::l=>by
  simp only [scan,fn1];by_cases h:t=1
  ·simp only [h,bR];exact GT c z l
  simp only [h,bE]
def IZ {p:KB}{f:KC}{ρ:Type}(c:Int×Int→ρ)(d:List Int→ρ):∀ (l:List Kf) (a:List Int),scan (fun (a:List Int) x=>Ω (fun pe=>.inr (c pe)) (fun t=>.inl (a++[t])) (j8 p f x)) d a l=Ω c (fun ts=>d (a++ts)) (tyL p f l)
 | [],a=>by simp [scan,tyL]
 |
  e::l,a=>by
  simp only [scan,tyL];cases h1:j8 p f e with
  | inl pe=>rfl
  |
   inr t=>
   simp only [ς];rw [IZ c d l (a++[t])];cases tyL p f l with
   | inl pe=>rfl
   | inr ts=>simp
def Bo {p:KB}{f:KC}{g0:K8→List Kf→Option ((Int×Int)⊕List Int)}{g1:K8→Kf→Option ((Int×Int)⊕Int)}{l:List Kf}(hb:l.length≤1048576)
  (h:∀ e∈l,g1 ⟨p,f⟩ e=some (j8 p f e)):CD g0 g1 ⟨p,f⟩ l=some (tyL p f l):=by
 unfold CD;rw [Ju l (fun (a:List Int) x=>Ω (fun pe=>.inr (bZ (c5 pe))) (fun t=>.inl (a++[t])) (j8 p f x)) (fun a=>.inl a) (fun pre a=>a.length=pre.length) [] rfl
  (fun pre x post a a' _ hi hs=>by
   cases ht:j8 p f x with
   | inl pe=>rw [ht] at hs;cases hs
   | inr t=>rw [ht] at hs;simp only [ς,bX] at hs;subst hs;simp [hi])
  (fun pre x post a e hi=>by
   have hx:=iW e;have hlen:pre.length<l.length:=by rw [e];simp
   simp only [fL e,ξ];rw [e,iX,δ,h x hx,δ];cases ht:j8 p f x with
   | inl pe=>rfl
   |
    inr t=>
    simp only [ς,Γ];rw [h9 (by omega) (by simp;omega),δ,fK e (by omega)])
  (fun a hi=>by simp),δ,IZ (fun pe=>bZ (c5 pe)) (fun a=>c5 a) l []]
 cases tyL p f l<;>rfl
def mus_e {k a:Int}{ks:List Int}{pe:Int×Int}(h:mus k a ks=.inl pe):pe=(a,7)∨pe=(a,9):=by
 unfold mus at h;split at h;simp only [bX] at h;exact .inl h.symm;split at h;cases h;simp only [bX] at h;exact .inr h.symm
def Bw {p:KB}{f:KC}(hf:Fit p f){g0:K8→List Kf→Option ((Int×Int)⊕List Int)}{g1:K8→Kf→Option ((Int×Int)⊕Int)}{e:Kf}(hb:e.gd.length≤1048576)
  (h:g0 ⟨p,f⟩ e.gd=some (tyL p f e.gd)):CB g0 g1 ⟨p,f⟩ e=some (j8 p f e):=by
 unfold CB;rw [vP,δ,oX];by_cases hk:kn e.gj<0;simp [hk,j3];by_cases hl:(e.gd.length:Int)=kn e.gj;case neg=>
  have hl':((e.gd.length:Int) != kn e.gj)=true:=by simpa using hl
  simp only [hk,cW,θ,δ,hl',ξ,j3,Γ,ς,false_or,ne_eq,hl,sS,bR]
 have hl':((e.gd.length:Int) != kn e.gj)=false:=by simpa using hl
 rw [aF (show ¬(kn e.gj<0∨(e.gd.length:Int)≠kn e.gj) by omega)];simp only [hk,cW,θ,δ,hl',Γ,h];cases ht:tyL p f e.gd with
 | inl pe=>rfl
 |
  inr ts=>
  have hlen:=EZ ht;simp only [ς];unfold AM;by_cases c:e.gj=14∨e.gj=15
  ·have hc:(bif (e.gj==(14:Int)) then some true else some (e.gj==(15:Int)))=some true:=by
    rcases c with h|h<;>simp [h]
   rw [hc];simp only [δ,ξ,c,bR];have h2:kn e.gj=2:=by rcases c with h|h<;>rw [h]<;>rfl
   have m:e.gd.length=2:=by omega
   match hK:e.gd,hT:ts,m,hlen with
   |
    [a,b],[x,y],_,_=>
    show (some x).bind _=_
    simp only [δ];show (some y).bind _=_
    simp only [δ];by_cases hxy:x=y
    ·subst hxy;simp
    have:(x != y)=true:=by simpa using hxy
    simp only [this,ξ,hxy,bE];show κ ((some b).bind _) _=_
    simp [j3]
  have hc:(bif (e.gj==(14:Int)) then some true else some (e.gj==(15:Int)))=some false:=by
   have h1:(e.gj==(14:Int))=false:=by simp;omega
   have h2:(e.gj==(15:Int))=false:=by simp;omega
   rw [h1,h2];rfl
  rw [hc];simp only [δ,θ,c,bE];have hz:(e.gd.zip ts).length=e.gd.length:=by simp [hlen]
  rw [oA (e.gd.zip ts) (fun (_:Unit) (x:Kf×Int)=>if x.2=1 then .inl () else .inr (bZ (c5 (x.1.ga,9)))) (.inl ())
   (fun pre x post hh=>by
    obtain ⟨x,t⟩:=x;obtain ⟨n,o⟩:=kv hlen.symm hh;have hlt:=fL hh;rw [hz] at hlt;simp only [hlt,ξ,n,o,δ,Hi];by_cases h1:t=1
    ·simp only [h1,bR,ς,Γ,fK hh (by omega)]
    simp only [h1,bE,Γ,ς])
   (by rw [hz];simp),δ,GT (fun a=>bZ (c5 (a,9))) (c5 ())]
  cases hfn:fn1 (e.gd.zip ts) with
  | some a=>rfl
  |
   none=>
   simp only [Γ];by_cases d:e.gj=2
   ·simp only [d,aG,ξ,bR,name_eq hf (show [(1:Int),2].length≤4611686018427387904 by simp),δ];cases mus (kd p f e.gb) e.ga [1,2]<;>rfl
   by_cases g:e.gj=3
   ·simp only [g,name_eq hf (show [(3:Int)].length≤4611686018427387904 by simp),δ];cases mus (kd p f e.gb) e.ga [3]<;>rfl
   by_cases i:e.gj=4
   ·simp only [i,name_eq hf (show [(2:Int)].length≤4611686018427387904 by simp),δ];cases mus (kd p f e.gb) e.ga [2]<;>rfl
   by_cases j:e.gj=18
   ·simp only [j];rfl
   by_cases k:e.gj=19
   ·simp only [k,LE hf,δ];cases mus (if vk e.gb (f.gh++f.gi)=0 then gk e.gb p.gc else 2) e.ga [1]<;>rfl
   by_cases l:e.gj=20
   ·simp only [l,LE hf,δ];cases mus (if vk e.gb (f.gh++f.gi)=0 then gk e.gb p.gc else 2) e.ga [3]<;>rfl
   simp only [beq_eq_false_iff_ne.2 d,beq_eq_false_iff_ne.2 g,beq_eq_false_iff_ne.2 i,beq_eq_false_iff_ne.2 j,beq_eq_false_iff_ne.2 k,beq_eq_false_iff_ne.2 l,θ,d,g,i,j,k,l,bE]
def qM {p:KB}{f:KC}(hf:Fit p f):∀ n:Nat,(∀ l,2*dS l+1≤n→b7 l≤1048576→(Kas n).1 ⟨p,f⟩ l=some (tyL p f l))∧(∀ e,2*dpE e≤n→szE e≤1048576→(Kas n).2 ⟨p,f⟩ e=some (j8 p f e))
 | 0=>⟨fun l h=>by omega,fun e h _=>by rw [kS] at h;omega⟩
 |
  n+1=>by
  obtain ⟨h2,h1⟩:=qM hf n;refine ⟨fun l h hb=>?_,fun e h hb=>?_⟩
  ·have hl:=Dk l;exact Bo (g0:=(Kas n).1) (by omega) fun e he=>h1 e (by have:=Ac he;omega) (by have:=wM he;omega)
  have he:=kS e;have hs:=la e;have hl:=Dk e.gd;exact Bw hf (g1:=(Kas n).2) (by omega) (h2 _ (by omega) (by omega))
def yl {p:KB}{f:KC}(hf:Fit p f){l:List Kf}(hb:b7 l≤1048576):HR ⟨p,f⟩ l=some (tyL p f l):=Qo _ _ (2*dS l+1) ((qM hf _).1 l (Φ _) hb)
end
section
open Go
def rv (r:(Int×Int)⊕Int):Int×Int×Int:=Ω (fun pe=>(0,pe.1,pe.2)) (fun t=>(t,0,0)) r
def D6 {p:KB}{f:KC}{op:Int}{name:η}{at_:Int}{ks:List Kf}{ts:List Int}{pe:Int×Int}(h:AM p f op name at_ ks ts=.inl pe):pe.2≠0:=by
 have b:∀ {k a:Int} {ls:List Int} {pe:Int×Int},mus k a ls=.inl pe→pe.2≠0:=fun h=>by rcases mus_e h with rfl|rfl<;>simp
 have he:∀ {k a:Int} {ls:List Int} {u:Int} {pe:Int×Int},Ω (γ:=(Int×Int)⊕Int) .inl (fun _=>.inr u) (mus k a ls)=.inl pe→pe.2≠0:=fun {k a ls u pe} h=>by
  cases hc:mus k a ls with
  | inl q=>rw [hc] at h;simp only [Γ,bX] at h;subst h;exact b hc
  | inr q=>rw [hc] at h;cases h
 unfold AM at h;split at h;split at h;split at h;cases h;simp only [bX] at h;subst h;simp;cases h;split at h;simp only [bX] at h;subst h;simp;split at h;exact b h;split at h;exact he h;split at h;exact he h;split at h;cases h;split at h;exact he h;split at h;exact he h;cases h
mutual
def zB {p:KB}{f:KC}:∀ {e:Kf} {pe:Int×Int},j8 p f e=.inl pe→pe.2≠0
 |
  ⟨op,n,name,ks,at_⟩,pe,h=>by
  simp only [j8] at h;split at h
  ·simp only [bX] at h;subst h;simp
  cases ht:tyL p f ks with
  | inl q=>rw [ht] at h;simp only [Γ,bX] at h;subst h;exact tM ht
  | inr ts=>rw [ht] at h;exact D6 h
def tM {p:KB} {f:KC}:∀ {l:List Kf} {pe:Int×Int},tyL p f l=.inl pe→pe.2≠0
 | [],pe,h=>by simp only [tyL] at h;cases h
 |
  e::l,pe,h=>by
  simp only [tyL] at h;cases h1:j8 p f e with
  | inl q=>rw [h1] at h;simp only [Γ,bX] at h;subst h;exact zB h1
  |
   inr t=>
   rw [h1] at h;cases h2:tyL p f l with
   | inl q=>rw [h2] at h;simp only [Γ,ς,bX] at h;subst h;exact tM h2
   | inr ts=>rw [h2] at h;cases h
end
def L8 {p:KB}{f:KC}{τ:Type}{g0:KB→KC→Kf→Option (Int×Int×Int)}{l:List Kf}(hb:l.length≤1048576)(h:∀ x∈l,g0 p f x=some (rv (j8 p f x)))(c:Int×Int→τ)(d:List Int→τ)
  {F:List Int×Int→Option (Step (List Int×Int) τ)}
  (hF:∀ s,F s=(bif (decide (s.2<(l.length:Int))) then ((idx l s.2).bind fun g=>((g0 p f g).bind fun b=>(bif (b.2.2 != (0:Int)) then some (.done (c (b.2.1,b.2.2))) else ((app 8 s.1 ([b.1]:List Int)).bind fun i=>some (.next (i,(ζ.wrap (s.2+(1:Int))))))))) else some (.done (d s.1)))) :
  aE F (([]:List Int),(0:Int))=some (Ω c d (tyL p f l)):=by
 rw [Ju l (fun (a:List Int) x=>Ω (fun pe=>.inr (c pe)) (fun t=>.inl (a++[t])) (j8 p f x)) d (fun pre a=>a.length=pre.length) [] rfl
  (fun pre x post a a' _ hi hs=>by
   cases ht:j8 p f x with
   | inl pe=>rw [ht] at hs;cases hs
   | inr t=>rw [ht] at hs;simp only [ς,bX] at hs;subst hs;simp [hi])
  (fun pre x post a e hi=>by
   have hx:=iW e;have hlen:pre.length<l.length:=by rw [e];simp
   rw [hF];simp only [fL e,ξ];have hix:idx l (pre.length:Int)=some x:=by rw [e];exact iX _ _ _
   rw [hix,δ,h x hx,δ];cases ht:j8 p f x with
   |
    inl pe=>
    have j:(pe.2 != 0)=true:=by simpa using zB ht
    simp only [rv,Γ,j,ξ,ς]
   |
    inr t=>
    simp only [rv,ς,b3,θ,Γ];rw [h9 (by omega) (by simp;omega),δ,fK e (by omega)])
  (fun a hi=>by rw [hF];simp),IZ c d l []]
 cases tyL p f l<;>simp
def pI (k a:Int)(x y u:Int)(r:Int×Int×Int)(hr:r=rv (Ω .inl (fun _=>.inr u) (mus k a [x,y]))):(bif ((if k=0 then (7:Int) else if k=x∨k=y then 0 else 9) != 0) then ((0:Int),a,(if k=0 then (7:Int) else if k=x∨k=y then 0 else 9)) else (u,(0:Int),(0:Int)))=r:=by
 subst hr;unfold mus rv;by_cases b:k=0;simp [b];by_cases h1:k=x∨k=y;simp [b,h1];simp [b,h1]
def Fg (k a x:Int):mus k a [x,x]=mus k a [x]:=by unfold mus;simp
def uZ {k a:Int}{ls:List Int}:Ω (γ:=(Int×Int)⊕Int) .inl (fun _=>.inr k) (mus k a ls)=mus k a ls:=by
 unfold mus;split;rfl;split<;>rfl
def xI {p:KB}{f:KC}(hf:Fit p f){g0:KB→KC→Kf→Option (Int×Int×Int)}{e:Kf}(hb:e.gd.length≤1048576)
  (h:∀ x∈e.gd,g0 p f x=some (rv (j8 p f x))):Cn g0 p f e=some (rv (j8 p f e)):=by
 have:=hf.fp;have:=hf.fl;unfold Cn;rw [ui,δ,oX];by_cases hk:kn e.gj<0;simp [hk,rv];by_cases hl:(e.gd.length:Int)=kn e.gj;case neg=>
  have hl':(kn e.gj != (e.gd.length:Int))=true:=by simpa using fun h=>hl h.symm
  rw [aQ (by omega)];simp only [hk,cW,θ,δ,hl',ξ];rfl
 have hl':(kn e.gj != (e.gd.length:Int))=false:=by simpa using hl.symm
 rw [aF (show ¬(kn e.gj<0∨(e.gd.length:Int)≠kn e.gj) by omega)];simp only [hk,cW,θ,δ,hl'];rw [L8 (τ:=List Int⊕(Int×Int×Int)) hb h (fun pe=>.inr ((0:Int),pe.1,pe.2)) (fun a=>.inl a) (fun s=>rfl),δ];cases ht:tyL p f e.gd with
 | inl pe=>rfl
 |
  inr ts=>
  have hlen:=EZ ht;simp only [ς,Γ];unfold AM;by_cases c:e.gj=14∨e.gj=15
  ·have hc:(bif (e.gj==(14:Int)) then some true else some (e.gj==(15:Int)))=some true:=by
    rcases c with h|h<;>simp [h]
   rw [hc];simp only [δ,ξ,c,bR];have h2:kn e.gj=2:=by rcases c with h|h<;>rw [h]<;>rfl
   have n:e.gd.length=2:=by omega
   match hK:e.gd,hT:ts,n,hlen with
   |
    [a,b],[x,y],_,_=>
    show (some x).bind _=_
    simp only [δ];show (some y).bind _=_
    simp only [δ];by_cases hxy:x=y
    ·subst hxy;simp [rv]
    have:(x != y)=true:=by simpa using hxy
    simp only [this,ξ,hxy,bE];show ((some b).bind _)=_
    simp [rv]
  have hc:(bif (e.gj==(14:Int)) then some true else some (e.gj==(15:Int)))=some false:=by
   have h1:(e.gj==(14:Int))=false:=by simp;omega
   have h2:(e.gj==(15:Int))=false:=by simp;omega
   rw [h1,h2];rfl
  rw [hc];simp only [δ,θ,c,bE];have hz:(e.gd.zip ts).length=ts.length:=by simp [hlen]
  rw [oA (e.gd.zip ts) (fun (_:Unit) (x:Kf×Int)=>if x.2=1 then .inl () else .inr (bZ ((0:Int),x.1.ga,(9:Int)))) (.inl ())
   (fun pre x post hh=>by
    obtain ⟨x,t⟩:=x;obtain ⟨o,u⟩:=kv hlen.symm hh;have hlt:=fL hh;rw [hz] at hlt;simp only [hlt,ξ,o,u,δ];by_cases h1:t=1
    ·simp only [h1,b3,θ,bR,Γ,fK hh (by omega)]
    have h1':(t != 1)=true:=by simpa using h1
    simp only [h1',ξ,h1,bE,ς])
   (by rw [hz];simp),δ,GT (fun a=>bZ ((0:Int),a,(9:Int))) (c5 ())]
  cases hfn:fn1 (e.gd.zip ts) with
  | some a=>rfl
  |
   none=>
   simp only [Γ,I0 hf,Ma (show f.gh.length+f.gi.length≤8388608 by omega),is_eq,δ];by_cases d:e.gj=2
   ·simp only [d,aG,ξ,bR,δ];have:=pI (kd p f e.gb) e.ga 1 2 (kd p f e.gb) _ rfl;rw [uZ] at this;rw [← this];cases ((if kd p f e.gb=0 then (7:Int) else if kd p f e.gb=1∨kd p f e.gb=2 then 0 else 9) != 0)<;>rfl
   by_cases g:e.gj=3
   ·simp only [g];have:=pI (kd p f e.gb) e.ga 3 3 1 _ rfl;rw [Fg] at this;refine Eq.trans ?_ (a6 some this);show (bif _ then _ else _)=some (bif _ then _ else _)
    cases ((if kd p f e.gb=0 then (7:Int) else if kd p f e.gb=3∨kd p f e.gb=3 then 0 else 9) != 0)<;>rfl
   by_cases i:e.gj=4
   ·simp only [i];have:=pI (kd p f e.gb) e.ga 2 2 1 _ rfl;rw [Fg] at this;refine Eq.trans ?_ (a6 some this);show (bif _ then _ else _)=some (bif _ then _ else _)
    cases ((if kd p f e.gb=0 then (7:Int) else if kd p f e.gb=2∨kd p f e.gb=2 then 0 else 9) != 0)<;>rfl
   by_cases j:e.gj=18
   ·simp only [j];rfl
   have adr:∀ w:Int,w≠2→w≠0→∀ r:Option (Int×Int×Int),(r=(bif ((bif (vk e.gb (f.gh++f.gi) != 0) then (9:Int) else (if kd p f e.gb=0 then (7:Int) else if kd p f e.gb=w∨kd p f e.gb=w then 0 else 9)) != 0) then some ((0:Int),e.ga,(bif (vk e.gb (f.gh++f.gi) != 0) then (9:Int) else (if kd p f e.gb=0 then (7:Int) else if kd p f e.gb=w∨kd p f e.gb=w then 0 else 9))) else some ((2:Int),(0:Int),(0:Int))))→r=some (rv (Ω .inl (fun _=>.inr 2) (mus (if vk e.gb (f.gh++f.gi)=0 then gk e.gb p.gc else 2) e.ga [w]))):=by
    intro w hw v r hr;rw [hr];by_cases hv:vk e.gb (f.gh++f.gi)=0
    ·have hkd:kd p f e.gb=gk e.gb p.gc:=by unfold kd;rw [aQ hv]
     simp only [hv,b3,θ,bR,hkd];unfold mus rv;by_cases m:gk e.gb p.gc=0
     ·simp [m]
     by_cases h1:gk e.gb p.gc=w
     ·simp [h1,v]
     simp [m,h1]
    have hv':(vk e.gb (f.gh++f.gi) != 0)=true:=by simpa using hv
    have h2w:¬ (2:Int)=w:=fun q=>hw q.symm
    simp [hv',hv,mus,rv,h2w]
   by_cases k:e.gj=19
   ·simp only [k];refine adr 1 (by decide) (by decide) _ ?_;cases (vk e.gb (f.gh++f.gi) != 0)<;>rfl
   by_cases l:e.gj=20
   ·simp only [l];refine adr 3 (by decide) (by decide) _ ?_;cases (vk e.gb (f.gh++f.gi) != 0)<;>rfl
   simp only [beq_eq_false_iff_ne.2 d,beq_eq_false_iff_ne.2 g,beq_eq_false_iff_ne.2 i,beq_eq_false_iff_ne.2 j,beq_eq_false_iff_ne.2 k,beq_eq_false_iff_ne.2 l,θ,d,g,i,j,k,l,bE];rfl
def qr {p:KB}{f:KC}(hf:Fit p f):∀ (n:Nat) (e:Kf),dpE e≤n→szE e≤1048576→Kdo n p f e=some (rv (j8 p f e))
 | 0,e,h,_=>by rw [kS] at h;omega
 |
  n+1,e,h,hb=>by
  have he:=kS e;have hs:=la e;have hl:=Dk e.gd;exact xI hf (by omega) fun x hx=>qr hf n x (by have:=Ac hx;omega) (by have:=wM hx;omega)
def ub {p:KB}{f:KC}(hf:Fit p f){e:Kf}(hb:szE e≤1048576):Fc p f e=some (rv (j8 p f e)):=PB _ _ _ (dpE e) (qr hf _ e (Φ _) hb)
end
section
open Go
def fn2:List (KZ×Int×Kf)→Option Int
 | []=>none
 | (v,t,e)::l=>if (bif v.gA then (2:Int) else 1)=t then fn2 l else some e.ga
def zZ (p:KB)(f:KC)(s:Kk)(ts:List Int)(v:List KZ):(Int×Int)⊕Unit:=
 if v.length≠ts.length then .inl (s.ga,2) else
 match fn2 (v.zip (ts.zip s.gn)) with
 | some a=>.inl (a,9)
 | none=>if s.gb=ν #[] then .inr () else Ω .inl (fun _=>.inr ()) (mus (kd p f s.gb) s.ga [1])
def fpar (n:η):List KC→Option (List KZ)
 | []=>none
 | g::l=>if g.gb=n then some g.gh else fpar n l
def caS (p:KB)(f:KC)(s:Kk)(ts:List Int):(Int×Int)⊕Unit:=
 match fpar s.gy p.gf with
 | some v=>zZ p f s ts v
 | none=>.inl (s.ga,7)
def Ja {τ:Type}(c:List KZ→τ)(z:τ)(n:η):∀ l:List KC,scan (fun (_:Unit) (g:KC)=>if g.gb=n then .inr (c g.gh) else .inl ()) (fun _=>z) () l=match fpar n l with|some v=>c v|none=>z
 | []=>rfl
 |
  g::l=>by
  simp only [scan,fpar];by_cases h:g.gb=n
  ·simp only [h,bR]
  simp only [h,bE];exact Ja c z n l
def IY {τ:Type}(c:Int→τ)(z:τ):∀ l:List (KZ×Int×Kf),scan (fun (_:Unit) (x:KZ×Int×Kf)=>if (bif x.1.gA then (2:Int) else 1)=x.2.1 then .inl () else .inr (c x.2.2.ga)) (fun _=>z) () l=match fn2 l with|some a=>c a|none=>z
 | []=>rfl
 |
  (v,t,e)::l=>by
  simp only [scan,fn2];by_cases h:(bif v.gA then (2:Int) else 1)=t
  ·simp only [h,bR];exact IY c z l
  simp only [h,bE]
def p9 {l:List KZ}{m:List Int}{k:List Kf}(h1:l.length=m.length)(h2:m.length=k.length){pre post:List (KZ×Int×Kf)}{v:KZ}{t:Int}{e:Kf}(h:l.zip (m.zip k)=pre++(v,t,e)::post) :
  idx l (pre.length:Int)=some v∧idx m (pre.length:Int)=some t∧idx k (pre.length:Int)=some e:=by
 have hz:(m.zip k).length=m.length:=by simp [h2]
 obtain ⟨c,_⟩:=kv (h1.trans hz.symm) h;have d:m.zip k=pre.map RI++(t,e)::post.map RI:=by have:=a6 (List.map RI) h;rw [List.map_snd_zip (by omega)] at this;simpa using this
 obtain ⟨a,b⟩:=kv h2 d;simp only [b6] at a b;exact ⟨c,a,b⟩
def vT {p:KB}{f:KC}(hf:Fit p f){s:Kk}{ts:List Int}(hl:ts.length=s.gn.length)(ht:∀ t∈ts,t=1∨t=2):H3 ⟨p,f⟩ s ts=some (caS p f s ts):=by
 have hfu:=hf.fu;unfold H3;rw [oA p.gf (fun (_:Unit) (g:KC)=>if g.gb=s.gy then .inr (bZ (zZ p f s ts g.gh)) else .inl ()) (.inl ())
  (fun pre g post h=>by
   simp only [fL h,ξ];have hix:idx p.gf (pre.length:Int)=some g:=by rw [h];exact iX _ _ _
   rw [hix,δ];have hg:=hf.pa g (iW h);by_cases hn:g.gb=s.gy
   ·simp only [hn,eF,bI,θ,bR,ς];unfold zZ;by_cases hle:g.gh.length=ts.length;case neg=>
     have h':((g.gh.length:Int) != (ts.length:Int))=true:=by simp;omega
     simp only [h',ξ,hle,ne_eq,sS,bR];simp [j3]
    have h':((g.gh.length:Int) != (ts.length:Int))=false:=by simp;omega
    rw [aF (show ¬ g.gh.length≠ts.length by omega)];simp only [h',θ,δ,Γ];have hz:(g.gh.zip (ts.zip s.gn)).length=g.gh.length:=by simp;omega
    have i:(g.gh.zip (ts.zip s.gn)).length=ts.length:=by omega
    rw [oA (g.gh.zip (ts.zip s.gn)) (fun (_:Unit) (x:KZ×Int×Kf)=>if (bif x.1.gA then (2:Int) else 1)=x.2.1 then .inl () else .inr (bZ (c5 (x.2.2.ga,9)))) (.inl ())
     (fun j x k h2=>by
      obtain ⟨v,t,e⟩:=x;obtain ⟨b,c,d⟩:=p9 hle hl h2;have hlt:=fL h2;rw [hz] at hlt;simp only [hlt,ξ,b,c,d,δ,Jb];by_cases hk:(bif v.gA then (2:Int) else 1)=t
      ·have hk':((bif v.gA then (2:Int) else 1) != t)=false:=by simpa using hk
       rw [hk',aQ hk];simp only [θ,Γ];rw [fK h2 (by omega)]
      have hk':((bif v.gA then (2:Int) else 1) != t)=true:=by simpa using hk
      rw [hk',aF hk];simp only [ξ,ς,j3,δ,Γ])
     (by rw [hz];simp),δ,IY (fun a=>bZ (c5 (a,9))) (c5 ())]
    cases fn2 (g.gh.zip (ts.zip s.gn)) with
    | some a=>rfl
    |
     none=>
     simp only [Γ];by_cases he:s.gb=ν #[]
     ·simp [he]
     simp only [he,cW,a3,ξ,bE,name_eq hf (show [(1:Int)].length≤4611686018427387904 by simp),δ];cases mus (kd p f s.gb) s.ga [1]<;>rfl
   simp only [hn,cW,a3,ξ,bE,Γ,fK h (by omega)]) (by simp),δ,Ja (fun v=>bZ (zZ p f s ts v)) (c5 ())]
 unfold caS;cases fpar s.gy p.gf with
 | some v=>rfl
 | none=>rfl
def uv {p:KB}{f:KC}(hf:Fit p f){s:Kk}{ts:List Int}(hl:ts.length=s.gn.length)(ht:∀ t∈ts,t=1∨t=2):Hr p f s ts=some (Ω id (fun _=>(if s.gb=ν #[] then 0 else s.ga,0)) (caS p f s ts)):=by
 have hfu:=hf.fu;unfold Hr;rw [oA p.gf (fun (_:Unit) (g:KC)=>if g.gb=s.gy then .inr (bZ (Ω id (fun _=>(if s.gb=ν #[] then 0 else s.ga,0)) (zZ p f s ts g.gh))) else .inl ()) (.inl ())
  (fun pre g post h=>by
   simp only [fL h,ξ];have hix:idx p.gf (pre.length:Int)=some g:=by rw [h];exact iX _ _ _
   simp only [hix,δ];have hg:=hf.pa g (iW h);by_cases hn:g.gb=s.gy
   ·simp only [hn,eF,bI,θ,bR,ς];unfold zZ;by_cases hle:g.gh.length=ts.length;case neg=>
     have h':((g.gh.length:Int) != (ts.length:Int))=true:=by simp;omega
     simp only [h',ξ,hle,ne_eq,sS,bR];rfl
    have h':((g.gh.length:Int) != (ts.length:Int))=false:=by simp;omega
    rw [aF (show ¬ g.gh.length≠ts.length by omega)];simp only [h',θ];have hz:(g.gh.zip (ts.zip s.gn)).length=g.gh.length:=by simp;omega
    have k:(g.gh.zip (ts.zip s.gn)).length=ts.length:=by omega
    rw [oA (g.gh.zip (ts.zip s.gn)) (fun (_:Unit) (x:KZ×Int×Kf)=>if (bif x.1.gA then (2:Int) else 1)=x.2.1 then .inl () else .inr (bZ (x.2.2.ga,(9:Int)))) (.inl ())
     (fun l x m h2=>by
      obtain ⟨v,t,e⟩:=x;obtain ⟨c,d,i⟩:=p9 hle hl h2;have hlt:=fL h2;rw [hz] at hlt;have htm:t=1∨t=2:=by
       have j:=iW h2;exact ht t ((List.of_mem_zip ((List.of_mem_zip j).2)).1)
      simp only [hlt,ξ,c,d,i,δ];rcases htm with rfl|rfl<;>cases v.gA
      ·simp only [θ,bR,Γ];rw [fK h2 (by omega)];rfl
      ·simp only [ξ];rfl
      ·simp only [θ];rfl
      simp only [ξ,bR,Γ];rw [fK h2 (by omega)];rfl)
     (by rw [hz];simp),δ,IY (fun a=>bZ (a,(9:Int))) (c5 ())]
    cases fn2 (g.gh.zip (ts.zip s.gn)) with
    | some a=>rfl
    |
     none=>
     simp only [Γ];by_cases he:s.gb=ν #[]
     ·simp [he]
     simp only [he,cW,a3,ξ,bE,I0 hf,is_eq,δ];unfold mus;by_cases b:kd p f s.gb=0
     ·simp [b]
     by_cases h1:kd p f s.gb=1
     ·simp [h1]
     simp [b,h1]
   simp only [hn,cW,a3,ξ,bE,Γ,fK h (by omega)]) (by simp),δ,Ja (fun v=>bZ (Ω id (fun _=>(if s.gb=ν #[] then 0 else s.ga,0)) (zZ p f s ts v))) (c5 ())]
 unfold caS;cases fpar s.gy p.gf with
 | some v=>rfl
 | none=>rfl
end
section
open Go
mutual
def p4:Kf→List Kf
 | ⟨a,b,c,ks,d⟩=>⟨a,b,c,ks,d⟩::f5 ks
def f5:List Kf→List Kf
 | []=>[]
 | e::l=>p4 e++f5 l
end
def yJ (e:Kf):p4 e=e::f5 e.gd:=by cases e;simp only [p4]
def JS:∀ l m,f5 (l++m)=f5 l++f5 m
 | [],m=>by simp [f5]
 | e::l,m=>by simp only [bK,f5,JS l m,aS]
mutual
def IX:∀ e,(p4 e).length=szE e
 | ⟨_,_,_,ks,_⟩=>by simp only [p4,szE,Ψ,Dj ks];omega
def Dj:∀ l,(f5 l).length=b7 l
 | []=>rfl
 | e::l=>by simp only [f5,b7,υ,IX e,Dj l]
end
mutual
def CW:Kk→List Kk
 | ⟨a,b,c,es,ks,ls,d⟩=>⟨a,b,c,es,ks,ls,d⟩::(flSs ks++flSs ls)
def flSs:List Kk→List Kk
 | []=>[]
 | s::l=>CW s++flSs l
end
mutual
def jt:Kk→Nat
 | ⟨_,_,_,es,ks,ls,_⟩=>1+szSs ks+szSs ls+b7 es
def szSs:List Kk→Nat
 | []=>0
 | s::l=>jt s+szSs l
end
mutual
def hS:Kk→Nat
 | ⟨_,_,_,_,ks,ls,_⟩=>1+max (ki ks) (ki ls)
def ki:List Kk→Nat
 | []=>1
 | s::l=>max (hS s) (ki l)
end
def jz (l:List Kk):List Kf:=l.flatMap fun s=>f5 s.gn
def Bv (s:Kk):CW s=s::(flSs s.gd++flSs s.gr):=by cases s;simp only [CW]
def oI (s:Kk):jt s=1+szSs s.gd+szSs s.gr+b7 s.gn:=by cases s;simp only [jt]
def lu (s:Kk):hS s=1+max (ki s.gd) (ki s.gr):=by cases s;simp only [hS]
def Mi:∀ l m,flSs (l++m)=flSs l++flSs m
 | [],m=>by simp [flSs]
 | e::l,m=>by simp only [bK,flSs,Mi l m,aS]
def HL:∀ l m,szSs (l++m)=szSs l+szSs m
 | [],m=>by simp [szSs]
 | e::l,m=>by simp only [bK,szSs,HL l m];omega
def Mh (l m:List Kk):jz (l++m)=jz l++jz m:=by simp [jz]
def kL:∀ {l:List Kk} {s:Kk},s∈l→hS s≤ki l
 |
  x::l,e,h=>by
  simp only [ki];rcases cX.1 h with rfl|h
  ·omega
  have:=kL h;omega
def EY:∀ {l:List Kk} {s:Kk},s∈l→jt s≤szSs l
 |
  x::l,e,h=>by
  simp only [szSs];rcases cX.1 h with rfl|h
  ·omega
  have:=EY h;omega
def BR:∀ l,1≤ki l
 | []=>by simp [ki]
 | s::l=>by have:=BR l;simp only [ki];omega
mutual
def AS:∀ s,jt s=(CW s).length+(jz (CW s)).length
 |
  ⟨a,b,c,es,ks,ls,d⟩=>by
  have h1:=Aa ks;have h2:=Aa ls;simp only [jt,CW,Ψ,υ,jz,cA,List.flatMap_append,Dj] at h1 h2 ⊢;omega
def Aa:∀ l,szSs l=(flSs l).length+(jz (flSs l)).length
 | []=>rfl
 |
  s::l=>by
  have h1:=AS s;have h2:=Aa l;simp only [szSs,flSs,υ,Mh];omega
end
def we:∀ l,l.length≤szSs l
 | []=>by simp
 |
  e::l=>by
  have:=we l;have h:=oI e;simp only [szSs,Ψ];omega
def GS {l pre:List Kk}{x:Kk}{post:List Kk}(h:l=pre++x::post):szSs pre+jt x≤szSs l:=by
 subst h;rw [HL];simp only [szSs];omega
def fuel {l:List Kk}{n:Nat}{x:Kk}(h:ki l≤n+1)(hx:x∈l):ki x.gd≤n∧ki x.gr≤n:=by
 have h1:=kL hx;have h2:=lu x;omega
end
section
open Go
def en (s:Kk):Int:=if s.gj=1∨s.gj=3∨s.gj=6∨s.gj=7∨s.gj=8∨s.gj=9 then 1 else if s.gj=2 then 2 else if s.gj=4 then (s.gn.length:Int) else if s.gj=5 then 0 else -1
def vS (s:Kk):HC s=some (en s):=by
 unfold HC en;by_cases h1:s.gj=1;simp [h1];by_cases h2:s.gj=3;simp [h2];by_cases a:s.gj=6;simp [a];by_cases b:s.gj=7;simp [b];by_cases c:s.gj=8;simp [c];by_cases d:s.gj=9;simp [d];simp only [beq_eq_false_iff_ne.2 h1,beq_eq_false_iff_ne.2 h2,beq_eq_false_iff_ne.2 a,beq_eq_false_iff_ne.2 b,beq_eq_false_iff_ne.2 c,beq_eq_false_iff_ne.2 d,θ,δ,h1,h2,a,b,c,d,false_or,bE];by_cases e:s.gj=2;simp [e];by_cases f:s.gj=4;simp [f];by_cases g:s.gj=5;simp [g];simp only [beq_eq_false_iff_ne.2 e,beq_eq_false_iff_ne.2 f,beq_eq_false_iff_ne.2 g,θ,e,f,g,bE]
def ul (s:Kk):Fr s=some (en s):=by
 unfold Fr en;by_cases h:s.gj<1∨9<s.gj;have e:(if s.gj=1∨s.gj=3∨s.gj=6∨s.gj=7∨s.gj=8∨s.gj=9 then (1:Int) else if s.gj=2 then 2 else if s.gj=4 then (s.gn.length:Int) else if s.gj=5 then 0 else -1)=-1:=by rw [aF (by omega),aF (by omega),aF (by omega),aF (by omega)]
 rw [e];rcases h with h|h;simp [h];by_cases h2:s.gj<1<;>simp [h,h2];have hc:s.gj=1∨s.gj=2∨s.gj=3∨s.gj=4∨s.gj=5∨s.gj=6∨s.gj=7∨s.gj=8∨s.gj=9:=by omega
 rcases hc with h|h|h|h|h|h|h|h|h<;>rw [h]<;>rfl
def Un (r:(Int×Int)⊕Int):(Int×Int)⊕Unit:=Ω .inl (fun _=>.inr ()) r
def Gm (p:KB)(f:KC)(s:Kk)(ts:List Int):(Int×Int)⊕Unit:=
 if s.gj=1 then
  match ts with
  | [x]=>Ω .inl (fun k=>if k=x then .inr () else .inl (s.ga,9)) (mus (kd p f s.gb) s.ga [1,2])
  | _=>.inr ()
 else if s.gj=4 then caS p f s ts
 else match fn1 (s.gn.zip ts) with
  | some a=>.inl (a,9)
  |
   none=>
   if s.gj=2 then Un (mus (kd p f s.gb) s.ga [3])
   else if s.gj=3 then Un (mus (kd p f s.gb) s.ga [2])
   else if s.gj=5 then Un (mus (kd p f s.gb) s.ga [1])
   else .inr ()
def xY (p:KB)(f:KC)(s:Kk):(Int×Int)⊕Unit:=if en s<0∨(s.gn.length:Int)≠en s then .inl (s.ga,2) else Ω .inl (fun ts=>Gm p f s ts) (tyL p f s.gn)
mutual
def stS (p:KB)(f:KC):Kk→(Int×Int)⊕Unit
 | ⟨op,n,fn,es,ks,el,a⟩=>Ω .inl (fun _=>Ω .inl (fun _=>stL p f el) (stL p f ks)) (xY p f ⟨op,n,fn,es,ks,el,a⟩)
def stL (p:KB) (f:KC):List Kk→(Int×Int)⊕Unit
 | []=>.inr ()
 | s::l=>Ω .inl (fun _=>stL p f l) (stS p f s)
end
def tW (p:KB)(f:KC)(s:Kk):stS p f s=Ω .inl (fun _=>Ω .inl (fun _=>stL p f s.gr) (stL p f s.gd)) (xY p f s):=by cases s;simp only [stS]
def uH {X:Option (Unit⊕((Int×Int)⊕Unit))}{k1:Option ((Int×Int)⊕Unit)}{r R2:(Int×Int)⊕Unit}(h:X=some (Ω (fun pe=>.inr (.inl pe)) (fun _=>.inl ()) r))(hk:k1=some R2) :
  κ X (Ω (fun _=>k1) (fun r=>some r))=some (Ω .inl (fun _=>R2) r):=by
 subst h;subst hk;cases r<;>rfl
def AN {p:KB}{f:KC}{e:Kf}{t:Int}(h:j8 p f e=.inr t):t=1∨t=2:=by
 have hc:∀ {k a:Int} {ls:List Int} {u:Int},Ω (γ:=(Int×Int)⊕Int) .inl (fun _=>.inr u) (mus k a ls)=.inr t→t=u:=fun {k a ls u} h=>by
  cases b:mus k a ls with
  | inl q=>rw [b] at h;cases h
  | inr q=>rw [b] at h;simp only [ς,fD] at h;exact h.symm
 rw [oX] at h;split at h;cases h;cases ht:tyL p f e.gd with
 | inl q=>rw [ht] at h;cases h
 |
  inr ts=>
  rw [ht] at h;simp only [ς] at h;unfold AM at h;split at h
  ·split at h
   ·split at h
    ·simp only [fD] at h;exact .inl h.symm
    cases h
   simp only [fD] at h;exact .inl h.symm
  split at h
  ·cases h
  split at h
  ·unfold mus at h;split at h
   ·cases h
   split at h
   ·rename_i _ b;simp only [fD] at h;subst h;simpa using b
   cases h
  split at h
  ·exact .inl (hc h)
  split at h
  ·exact .inl (hc h)
  split at h
  ·simp only [fD] at h;exact .inr h.symm
  split at h
  ·exact .inr (hc h)
  split at h
  ·exact .inr (hc h)
  simp only [fD] at h;exact .inl h.symm
def oW {p:KB}{f:KC}:∀ {l:List Kf} {ts:List Int},tyL p f l=.inr ts→∀ t∈ts,t=1∨t=2
 | [],ts,h,t,ht=>by simp only [tyL,fD] at h;subst h;cases ht
 |
  e::l,ts,h,t,ht=>by
  simp only [tyL] at h;cases h1:j8 p f e with
  | inl pe=>rw [h1] at h;cases h
  |
   inr u=>
   rw [h1] at h;cases h2:tyL p f l with
   | inl pe=>rw [h2] at h;cases h
   |
    inr ts'=>
    rw [h2] at h;simp only [ς,fD] at h;subst h;rcases cX.1 ht with rfl|ht
    ·exact AN h1
    exact oW h2 t ht
def AU {p:KB}{f:KC}(hf:Fit p f){g0:K8→List Kk→Option ((Int×Int)⊕Unit)}{g1:K8→Kk→Option ((Int×Int)⊕Unit)}{s:Kk}(hb:b7 s.gn≤1048576)
  (hk:g0 ⟨p,f⟩ s.gd=some (stL p f s.gd)) (he:g0 ⟨p,f⟩ s.gr=some (stL p f s.gr)):CA g0 g1 ⟨p,f⟩ s=some (stS p f s):=by
 have B:=Dk s.gn;unfold CA;rw [vS,δ,tW];unfold xY;by_cases hn:en s<0;simp [hn,j3];by_cases hl:(s.gn.length:Int)=en s;case neg=>
  have hl':((s.gn.length:Int) != en s)=true:=by simpa using hl
  rw [aQ (by omega)];simp only [hn,cW,θ,δ,hl',ξ,j3,Γ,ς]
 have hl':((s.gn.length:Int) != en s)=false:=by simpa using hl
 rw [aF (show ¬(en s<0∨(s.gn.length:Int)≠en s) by omega)];simp only [hn,cW,θ,δ,hl',Γ,yl hf hb];cases ht:tyL p f s.gn with
 | inl pe=>rfl
 |
  inr ts=>
  have hlen:=EZ ht;simp only [ς];refine uH ?_ ?_;case refine_2=>
   rw [hk,δ];cases stL p f s.gd with
   | inl pe=>rfl
   |
    inr u=>
    simp only [ς,he,δ];cases stL p f s.gr<;>rfl
  have i:=fun (k:Int)=>name_eq (n:=s.gb) (at_:=s.ga) hf (show [k].length≤4611686018427387904 by simp)
  have n2:=name_eq (n:=s.gb) (at_:=s.ga) hf (show [(1:Int),2].length≤4611686018427387904 by simp);have hcall:=vT (s:=s) hf hlen (oW ht);have one:en s=1→∃ a x,s.gn=[a]∧ts=[x]:=fun h1=>by
   have l:s.gn.length=1:=by omega
   match hK:s.gn,hT:ts,l,hlen with
   | [a],[x],_,_=>exact ⟨a,x,rfl,rfl⟩
  unfold Gm;by_cases g:s.gj=1
  ·obtain ⟨a,x,hE,hT⟩:=one (by unfold en;simp [g]);subst hT;have c:idx [x] (0:Int)=some x:=rfl;simp only [g,n2,c,δ,bR,aG,ξ];cases mus (kd p f s.gb) s.ga [1,2] with
   | inl pe=>rfl
   |
    inr k=>
    simp only [ς];by_cases hkx:k=x
    ·subst hkx;simp
    have:(k != x)=true:=by simpa using hkx
    simp [this,hkx,j3]
  by_cases h:s.gj=4
  ·simp only [h,hcall,δ];cases caS p f s ts<;>rfl
  rw [aF g,aF h];have m:=beq_eq_false_iff_ne.2 g;have o:=beq_eq_false_iff_ne.2 h;by_cases d:s.gj=2
  ·have h2:en s=2:=by unfold en;simp [d]
   have q:s.gn.length=2:=by omega
   have:∃ a b x y,s.gn=[a,b]∧ts=[x,y]:=by
    match hK:s.gn,hT:ts,q,hlen with
    | [a,b],[x,y],_,_=>exact ⟨a,b,x,y,rfl,rfl⟩
   obtain ⟨a,b,x,y,hE,hT⟩:=this;subst hT;rw [hE];have c:∀ {β:Type} (u v:β),idx [u,v] (0:Int)=some u:=fun _ _=>rfl
   have r:∀ {β:Type} (u v:β),idx [u,v] (1:Int)=some v:=fun _ _=>rfl
   simp only [d,i,δ,c,r,Hi,List.zip_cons_cons,List.zip_nil_right,fn1];by_cases hx:x=1
   ·by_cases hy:y=1
    ·simp only [hx,hy,bR,ς];cases mus (kd p f s.gb) s.ga [3]<;>rfl
    simp only [hx,hy,bR,bE,ς];rfl
   simp only [hx,bE];rfl
  have t:=beq_eq_false_iff_ne.2 d;by_cases e:s.gj=5
  ·have C:en s=0:=by unfold en;simp [e]
   have w:s.gn=[]:=fd (by omega);rw [w];simp only [e,i,δ,List.zip_nil_left,fn1];cases mus (kd p f s.gb) s.ga [1]<;>rfl
  have z:=beq_eq_false_iff_ne.2 e;obtain ⟨a,x,hE,hT⟩:=one (by
   have:¬ en s<0:=hn;unfold en at this ⊢;split
   ·rfl
   rw [aF (by assumption),aF d,aF h,aF e] at this;omega)
  subst hT;rw [hE];have c:∀ {β:Type} (u:β),idx [u] (0:Int)=some u:=fun _=>rfl
  by_cases j:s.gj=3
  ·simp only [j,i,δ,c,Hi,List.zip_cons_cons,List.zip_nil_right,fn1];by_cases hx:x=1
   ·simp only [hx,bR,ς];cases mus (kd p f s.gb) s.ga [2]<;>rfl
   simp only [hx,bE];rfl
  have A:=beq_eq_false_iff_ne.2 j;simp only [m,t,A,o,z,θ,δ,c,Hi,List.zip_cons_cons,List.zip_nil_right,fn1,d,j,e,bE];by_cases hx:x=1
  ·simp only [hx,bR];rfl
  simp only [hx,bE];rfl
end
section
open Go
def IW {p:KB}{f:KC}{τ:Type}(c:Int×Int→τ)(z:τ):∀ l:List Kk,scan (fun (_:Unit) s=>Ω (fun pe=>.inr (c pe)) (fun _=>.inl ()) (stS p f s)) (fun _=>z) () l=Ω c (fun _=>z) (stL p f l)
 | []=>rfl
 |
  s::l=>by
  simp only [scan,stL];cases stS p f s with
  | inl pe=>rfl
  | inr u=>exact IW c z l
def xx {p:KB}{f:KC}{g0:K8→List Kk→Option ((Int×Int)⊕Unit)}{g1:K8→Kk→Option ((Int×Int)⊕Unit)}{l:List Kk}(hb:l.length≤1048576)
  (h:∀ s∈l,g1 ⟨p,f⟩ s=some (stS p f s)):CE g0 g1 ⟨p,f⟩ l=some (stL p f l):=by
 unfold CE;rw [oA l (fun (_:Unit) s=>Ω (fun pe=>.inr (bZ (c5 pe))) (fun _=>.inl ()) (stS p f s)) (.inl ())
  (fun pre x post e=>by
   simp only [fL e,ξ];have hix:idx l (pre.length:Int)=some x:=by rw [e];exact iX _ _ _
   rw [hix,δ,h x (iW e),δ];cases stS p f x with
   | inl pe=>rfl
   | inr u=>simp only [ς,Γ];rw [fK e (by omega)]) (by simp),δ,IW (fun pe=>bZ (c5 pe)) (c5 ())]
 cases stL p f l<;>rfl
def qk {p:KB}{f:KC}(hf:Fit p f):∀ n:Nat,(∀ l,2*ki l≤n→szSs l≤1048576→(Kam n).1 ⟨p,f⟩ l=some (stL p f l))∧(∀ s,2*hS s≤n+1→jt s≤1048576→(Kam n).2 ⟨p,f⟩ s=some (stS p f s))
 | 0=>⟨fun l h=>by have:=BR l;omega,fun s h _=>by rw [lu] at h;omega⟩
 |
  n+1=>by
  obtain ⟨h2,h1⟩:=qk hf n;refine ⟨fun l h hb=>?_,fun s h hb=>?_⟩
  ·have hl:=we l;exact xx (g0:=(Kam n).1) (by omega) fun s hs=>h1 s (by have:=kL hs;omega) (by have:=EY hs;omega)
  have he:=lu s;have hz:=oI s;exact AU hf (g1:=(Kam n).2) (by omega) (h2 _ (by omega) (by omega)) (h2 _ (by omega) (by omega))
def ss {p:KB}{f:KC}(hf:Fit p f){l:List Kk}(hb:szSs l≤1048576):HS ⟨p,f⟩ l=some (stL p f l):=QG _ _ (2*ki l) ((qk hf _).1 l (Φ _) hb)
def oa (s:Kk):Int:=if s.gj=1∨s.gj=2∨s.gj=3∨s.gj=5 then s.ga else if s.gj=4 then (if s.gb=ν #[] then 0 else s.ga) else 0
def ER {p:KB}{f:KC}{s:Kk}{ts:List Int}{pe:Int×Int}(h:caS p f s ts=.inl pe):pe.2≠0:=by
 unfold caS at h;split at h
 ·unfold zZ at h;split at h
  ·simp only [bX] at h;subst h;simp
  split at h
  ·simp only [bX] at h;subst h;simp
  split at h
  ·cases h
  cases a:mus (kd p f s.gb) s.ga [1] with
  | inl q=>rw [a] at h;simp only [Γ,bX] at h;subst h;rcases mus_e a with rfl|rfl<;>simp
  | inr q=>rw [a] at h;cases h
 simp only [bX] at h;subst h;simp
def uI {p:KB}{f:KC}{s:Kk}{pe:Int×Int}(h:xY p f s=.inl pe):pe.2≠0:=by
 have hU:∀ {k a:Int} {ls:List Int},Un (mus k a ls)=.inl pe→pe.2≠0:=fun {k a ls} h=>by
  cases b:mus k a ls with
  | inl q=>rw [b] at h;simp only [Un,Γ,bX] at h;subst h;rcases mus_e b with rfl|rfl<;>simp
  | inr q=>rw [b] at h;cases h
 unfold xY at h;split at h;simp only [bX] at h;subst h;simp;cases ht:tyL p f s.gn with
 | inl q=>rw [ht] at h;simp only [Γ,bX] at h;subst h;exact tM ht
 |
  inr ts=>
  rw [ht] at h;simp only [ς] at h;unfold Gm at h;split at h
  ·split at h
   ·cases b:mus (kd p f s.gb) s.ga [1,2] with
    | inl q=>rw [b] at h;simp only [Γ,bX] at h;subst h;rcases mus_e b with rfl|rfl<;>simp
    |
     inr q=>
     rw [b] at h;simp only [ς] at h;split at h
     ·cases h
     simp only [bX] at h;subst h;simp
   cases h
  split at h
  ·exact ER h
  split at h
  ·simp only [bX] at h;subst h;simp
  split at h
  ·exact hU h
  split at h
  ·exact hU h
  split at h
  ·exact hU h
  cases h
def vi (k a x y:Int):((a,if k=0 then (7:Int) else if k=x∨k=y then 0 else 9):Int×Int)=Ω id (fun _=>(a,0)) (Un (mus k a [x,y])):=by
 unfold mus Un;by_cases b:k=0;simp [b];by_cases h1:k=x∨k=y;simp [b,h1];simp [b,h1]
def xJ {p:KB}{f:KC}(hf:Fit p f){s:Kk}(hb:b7 s.gn≤1048576):He p f s=some (Ω id (fun _=>(oa s,0)) (xY p f s)):=by
 have m:=Dk s.gn;unfold He;rw [ul,δ];unfold xY;by_cases hn:en s<0;simp [hn];by_cases hl:(s.gn.length:Int)=en s;case neg=>
  have hl':(en s != (s.gn.length:Int))=true:=by simpa using fun h=>hl h.symm
  rw [aQ (by omega)];simp only [hn,cW,θ,δ,hl',ξ];rfl
 have hl':(en s != (s.gn.length:Int))=false:=by simpa using hl.symm
 rw [aF (show ¬(en s<0∨(s.gn.length:Int)≠en s) by omega)];simp only [hn,cW,θ,δ,hl'];rw [L8 (τ:=List Int⊕(Int×Int)) (p:=p) (f:=f) (g0:=Fc) (by omega) (fun x hx=>ub hf (by have:=wM hx;omega)) (fun pe=>.inr pe) (fun a=>.inl a) (fun s=>rfl),δ];cases ht:tyL p f s.gn with
 | inl pe=>rfl
 |
  inr ts=>
  have hlen:=EZ ht;simp only [ς,Γ,I0 hf,δ];unfold Gm;by_cases b:s.gj=1
  ·have h1:en s=1:=by unfold en;simp [b]
   have n:s.gn.length=1:=by omega
   have:∃ x,ts=[x]:=by
    match hT:ts,(show ts.length=1 by omega) with
    | [x],_=>exact ⟨x,rfl⟩
   obtain ⟨x,hT⟩:=this;subst hT;have j:idx [x] (0:Int)=some x:=rfl;unfold oa;rw [K0 (t:=c5 ()) (by simp [b])];simp only [b,j,is_eq,δ,Γ,aG,ξ,bR,true_or];unfold mus;by_cases i:kd p f s.gb=0
   ·simp [i]
   by_cases k1:kd p f s.gb=1
   ·by_cases hx:(1:Int)=x
    ·subst hx;simp [k1]
    simp [k1,hx]
   by_cases k2:kd p f s.gb=2
   ·by_cases hx:(2:Int)=x
    ·subst hx;simp [k2]
    simp [k2,hx]
   simp [i,k1,k2,beq_eq_false_iff_ne.2 k1,beq_eq_false_iff_ne.2 k2]
  by_cases c:s.gj=4
  ·unfold oa;rw [K0 (t:=c5 ()) (by simp [c])];simp only [c,uv (s:=s) hf hlen (oW ht),δ,Γ];rfl
  have c1:(s.gj != 1)=true:=by simpa using b
  have c4:(s.gj != 4)=true:=by simpa using c
  have hz:(s.gn.zip ts).length=ts.length:=by simp [hlen]
  rw [oA (s.gn.zip ts) (fun (_:Unit) (x:Kf×Int)=>if x.2=1 then .inl () else .inr (bZ (x.1.ga,(9:Int)))) (.inl ())
   (fun pre x post hh=>by
    obtain ⟨x,t⟩:=x;obtain ⟨k,l⟩:=kv hlen.symm hh;have hlt:=fL hh;rw [hz] at hlt;simp only [hlt,ξ,k,l,δ,c1,c4];by_cases h1:t=1
    ·simp only [h1,b3,θ,bR,Γ];rw [fK hh (by omega)]
    have h1':(t != 1)=true:=by simpa using h1
    simp only [h1',ξ,h1,bE,ς])
   (by rw [hz];simp),δ,GT (fun a=>bZ (a,(9:Int))) (c5 ())]
  rw [aF b,aF c];cases hfn:fn1 (s.gn.zip ts) with
  | some a=>rfl
  |
   none=>
   simp only [Γ,is_eq,δ];unfold oa;by_cases d:s.gj=2
   ·simp only [d];have:=vi (kd p f s.gb) s.ga 3 3;rw [Fg] at this;exact a6 some this
   by_cases e:s.gj=3
   ·simp only [e];have:=vi (kd p f s.gb) s.ga 2 2;rw [Fg] at this;exact a6 some this
   by_cases g:s.gj=5
   ·simp only [g];have:=vi (kd p f s.gb) s.ga 1 1;rw [Fg] at this;exact a6 some this
   simp only [beq_eq_false_iff_ne.2 b,beq_eq_false_iff_ne.2 d,beq_eq_false_iff_ne.2 e,beq_eq_false_iff_ne.2 c,beq_eq_false_iff_ne.2 g,θ,b,d,e,c,g,bE,false_or,ς]
mutual
def Ed {p:KB}{f:KC}:∀ {s:Kk} {pe:Int×Int},stS p f s=.inl pe→pe.2≠0
 |
  ⟨op,n,fn,es,ks,el,a⟩,pe,h=>by
  simp only [stS] at h;cases h1:xY p f ⟨op,n,fn,es,ks,el,a⟩ with
  | inl q=>rw [h1] at h;simp only [Γ,bX] at h;subst h;exact uI h1
  |
   inr u=>
   rw [h1] at h;simp only [ς] at h;cases h2:stL p f ks with
   | inl q=>rw [h2] at h;simp only [Γ,bX] at h;subst h;exact lj h2
   | inr u=>rw [h2] at h;exact lj h
def lj {p:KB} {f:KC}:∀ {l:List Kk} {pe:Int×Int},stL p f l=.inl pe→pe.2≠0
 | [],pe,h=>by simp only [stL] at h;cases h
 |
  s::l,pe,h=>by
  simp only [stL] at h;cases h1:stS p f s with
  | inl q=>rw [h1] at h;simp only [Γ,bX] at h;subst h;exact Ed h1
  | inr u=>rw [h1] at h;exact lj h
end
def IV {p:KB}{f:KC}(hf:Fit p f):∀ (n:Nat) (l:List Kk),ki l≤n→szSs l≤1048576→KcL n p f l=some (Ω id (fun _=>(0,0)) (stL p f l))
 | 0,l,h,_=>by have:=BR l;omega
 |
  n+1,l,h,hb=>by
  have hl:=we l;show Ci (KcL n) p f l=_
  unfold Ci;rw [oA l (fun (_:Unit) s=>Ω (fun pe=>.inr (bZ pe)) (fun _=>.inl ()) (stS p f s)) (.inl ())
   (fun pre x post e=>by
    have hx:=iW e;obtain ⟨f1,c⟩:=fuel h hx;have hz:=oI x;have hzm:=EY hx;simp only [fL e,ξ];have hix:idx l (pre.length:Int)=some x:=by rw [e];exact iX _ _ _
    simp only [hix,δ];rw [xJ hf (by omega),δ,IV hf n x.gd f1 (by omega),IV hf n x.gr c (by omega),tW];cases h1:xY p f x with
    |
     inl pe=>
     have b:=beq_eq_false_iff_ne.2 (uI h1);have a:(pe.2 != 0)=true:=by simpa using uI h1
     simp [b,a]
    |
     inr u=>
     simp only [ς,aG,ξ,δ];cases h2:stL p f x.gd with
     |
      inl pe=>
      have b:=beq_eq_false_iff_ne.2 (lj h2);have a:(pe.2 != 0)=true:=by simpa using lj h2
      simp [b,a]
     |
      inr u=>
      simp only [ς,aG,ξ,δ];cases d:stL p f x.gr with
      |
       inl pe=>
       have a:(pe.2 != 0)=true:=by simpa using lj d
       simp [a]
      |
       inr u=>
       simp only [ς,Γ,b3,θ];rw [fK e (by omega)]) (by simp),δ,IW (fun pe=>bZ pe) (c5 ())]
  cases stL p f l<;>rfl
def rR {p:KB}{f:KC}(hf:Fit p f){l:List Kk}(hb:szSs l≤1048576):Ha p f l=some (Ω id (fun _=>(0,0)) (stL p f l)):=Pm _ _ _ (ki l) (IV hf _ l (Φ _) hb)
end
section
open Go
def nI {α β:Type}[DecidableEq α](k:α)(v:β)(k':α):∀ l:List (α×β),jw (ei l k v) k'=if k=k' then some v else jw l k'
 | []=>by simp [ei,jw]
 |
  (a,b)::l=>by
  unfold ei;by_cases h:a=k
  ·subst h;rw [aQ rfl];by_cases h2:a=k'
   ·simp [jw,h2]
   simp [jw,h2]
  rw [aF h];simp only [jw];by_cases h2:a=k'
  ·subst h2;rw [aQ rfl,aF (fun e=>h e.symm),aQ rfl]
  rw [aF h2,aF h2,nI k v k' l]
def Di {α β:Type}[DecidableEq α](k:α)(v z:β)(k':α)(l:List (α×β)):cM (ei l k v) k' z=if k=k' then v else cM l k' z:=by
 unfold cM;rw [nI];by_cases h:k=k';rw [aQ h,aQ h];rfl;rw [aF h,aF h]
def nmG (p:KB):List KZ→List KZ→Bool
 | _,[]=>true
 | seen,v::l=>if gk v.gb p.gc≠0∨∃ y∈seen,y.gb=v.gb then false else nmG p (seen++[v]) l
def LD (p:KB):∀ (l m seen:List KZ),nmG p seen (l++m)=(nmG p seen l && nmG p (seen++l) m)
 | [],m,seen=>by simp [nmG]
 |
  v::l,m,seen=>by
  simp only [bK,nmG];split
  ·rfl
  rw [LD p l m (seen++[v])];simp
def qq {τ:Type}(n:η)(y z:τ):∀ l:List KZ,scan (fun (_:Unit) (x:KZ)=>if x.gb=n then .inr y else .inl ()) (fun _=>z) () l=if ∃ x∈l,x.gb=n then y else z
 | []=>by simp [scan]
 |
  x::l=>by
  simp only [scan];by_cases h:x.gb=n
  ·rw [aQ h,aQ ⟨x,by simp,h⟩]
  rw [aF h];show scan _ _ () l=_
  rw [qq n y z l];by_cases h2:∃ x∈l,x.gb=n
  ·rw [aQ h2,aQ];obtain ⟨q,a,b⟩:=h2;exact ⟨q,List.mem_cons_of_mem _ a,b⟩
  rw [aF h2,aF];rintro ⟨q,a,b⟩;rcases cX.1 a with rfl|a
  ·exact h b
  exact h2 ⟨q,a,b⟩
def pz {τ β:Type}{f:Int→Option (Step Int τ)}(l:List β)(step:List β→β→Bool)(t z:τ)
  (h1:∀ pre x post,l=pre++x::post→f (pre.length:Int)=if step pre x then some (.next ((pre.length+1:Nat):Int)) else some (.done t))
  (h2:f (l.length:Int)=some (.done z)):aE f (0:Int)=some (scan (fun (a:List β) x=>if step a x then .inl (a++[x]) else .inr t) (fun _=>z) [] l):=
 Fa l (fun (a:List β) x=>if step a x then .inl (a++[x]) else .inr t) (fun _=>z) (fun _ k=>(k:Int)) (fun pre a=>a=pre) [] rfl
  (fun pre x post a a' _ hi hs=>by
   subst hi;split at hs
   ·simp only [bX] at hs;exact hs.symm
   cases hs)
  (fun pre x post a h hi=>by
   subst hi;rw [h1 _ x post h];split<;>simp) (fun _ _=>h2)
def m9 {p:KB}{τ:Type}(t z:τ):∀ (l seen:List KZ),scan (fun (a:List KZ) v=>if decide (¬ (gk v.gb p.gc≠0∨∃ y∈a,y.gb=v.gb)) then .inl (a++[v]) else .inr t) (fun _=>z) seen l=if nmG p seen l then z else t
 | [],seen=>rfl
 |
  v::l,seen=>by
  simp only [scan,nmG];by_cases h:gk v.gb p.gc≠0∨∃ y∈seen,y.gb=v.gb
  ·simp only [h,not_true_eq_false,cW,cP,bE,bR]
  simp only [h,sS,eF,bR,bE];exact m9 t z l (seen++[v])
def fnS (p:KB)(f:KC):(Int×Int)⊕Unit:=if nmG p [] (f.gh++f.gi) then stL p f f.gx else .inl (f.ga,8)
def uk {p:KB}{f:KC}(hf:Fit p f)(hb:szSs f.gx≤1048576):Dg p f=some (Ω id (fun _=>(0,0)) (fnS p f)):=by
 have:=hf.gl;have:=hf.fp;have:=hf.fl;unfold Dg;rw [h9 (by omega) (by simp;omega),δ,a8,h9 (by omega) (by omega),δ];rw [pz (f.gh++f.gi) (fun a v=>decide (¬ (gk v.gb p.gc≠0∨∃ y∈a,y.gb=v.gb))) (bZ (f.ga,(8:Int))) (c5 ())
  (fun pre x post h=>by
   have hix:idx (f.gh++f.gi) (pre.length:Int)=some x:=by rw [h];exact iX _ _ _
   simp only [fL h,ξ,hix,δ,LF (show p.gc.length≤4611686018427387904 by omega)];have hlen:pre.length≤(f.gh++f.gi).length:=by rw [h];simp
   have c:(f.gh++f.gi).length=f.gh.length+f.gi.length:=by simp
   by_cases hg:gk x.gb p.gc=0;case neg=>
    have hg':(gk x.gb p.gc != 0)=true:=by simpa using hg
    simp [hg',hg]
   simp only [hg,b3,θ];rw [oA pre (fun (_:Unit) (y:KZ)=>if y.gb=x.gb then .inr (bZ (f.ga,(8:Int))) else .inl ()) (.inl ())
    (fun a y b h2=>by
     have hiy:idx (f.gh++f.gi) (a.length:Int)=some y:=by
      rw [h,h2,aS,bK];exact iX _ _ _
     simp only [fL h2,ξ,hiy,δ];by_cases hn:y.gb=x.gb
     ·simp only [hn,eF,ξ,bR,ς]
     simp only [hn,cW,θ,bE,Γ];rw [fK h2 (by omega)]) (by simp),δ,qq]
   by_cases he:∃ y∈pre,y.gb=x.gb
   ·rw [aQ he];simp [he]
   rw [aF he,Γ,fK h (by omega)];simp [he]) (by simp),δ,m9]
 unfold fnS;cases nmG p [] (f.gh++f.gi) with
 |
  true=>
  simp only [bR,Γ,rR hf hb,δ]
 | false=>rfl
def Cnt (seen:List KZ)(m:List (η×Int)):Prop:=∀ n,cM m n 0=if ∃ y∈seen,y.gb=n then 1 else 0
def Cnt.put {seen:List KZ}{m:List (η×Int)}(h:Cnt seen m){v:KZ}(hv:¬ ∃ y∈seen,y.gb=v.gb):Cnt (seen++[v]) (ei m v.gb (ζ.wrap (cM m v.gb 0+1))):=by
 intro n;have c:=h v.gb;rw [aF hv] at c;rw [Di,c];by_cases hn:v.gb=n;rw [aQ hn,aQ ⟨v,by simp,hn⟩];rfl;rw [aF hn,h n];by_cases he:∃ y∈seen,y.gb=n;rw [aQ he,aQ];obtain ⟨q,a,b⟩:=he;exact ⟨q,by simp [a],b⟩;rw [aF he,aF];rintro ⟨q,a,b⟩;simp only [dC,aT] at a;rcases a with a|rfl;exact he ⟨q,a,b⟩;exact hn b
def LC {p:KB}{f:KC}(hg:p.gc.length≤1048576){F:Int×List (η×Int)→Option (Step (Int×List (η×Int)) (List (η×Int)⊕((Int×Int)⊕Unit)))}{l:List KZ}(hb:l.length≤1048576)
  (hF:∀ s,F s=(bif (decide (s.1<(l.length:Int))) then ((idx l s.1).bind fun a=>(κ (α:=Bool) (bif (decide ((1:Int)<(cM (ei s.2 a.gb (ζ.wrap ((cM s.2 a.gb (0:Int))+(1:Int)))) a.gb (0:Int)))) then some true else ((Au ⟨p,f⟩ a.gb).bind fun d=>some (d != (0:Int)))) fun g=>(bif g then ((j3 f.ga (8:Int)).bind fun i=>Ω (fun j=>some (.done (.inr (.inl j)))) (fun k=>some (.next ((ζ.wrap (s.1+(1:Int))),(ei s.2 a.gb (ζ.wrap ((cM s.2 a.gb (0:Int))+(1:Int))))))) i) else some (.next ((ζ.wrap (s.1+(1:Int))),(ei s.2 a.gb (ζ.wrap ((cM s.2 a.gb (0:Int))+(1:Int))))))))) else some (.done (.inl s.2))))
  {seen:List KZ} {m:List (η×Int)} (hc:Cnt seen m):∃ m',(nmG p seen l=true→Cnt (seen++l) m')∧aE F ((0:Int),m)=some (if nmG p seen l then .inl m' else .inr (.inl (f.ga,8))):=by
 have key:∀ (post pre:List KZ) (m:List (η×Int)),l=pre++post→Cnt (seen++pre) m→∃ m',(nmG p (seen++pre) post=true→Cnt (seen++pre++post) m')∧aE F ((pre.length:Int),m)=some (if nmG p (seen++pre) post then .inl m' else .inr (.inl (f.ga,8))):=by
  intro post;induction post with
  |
   nil=>
   intro pre m h hc;rw [aN] at h;subst h;refine ⟨m,fun _=>by simpa using hc,?_⟩;rw [K0 (t:=c5 m) (by rw [hF];simp)];rfl
  |
   cons x post ih=>
   intro pre m h hc;have hix:idx l (pre.length:Int)=some x:=by rw [h];exact iX _ _ _
   have hx:=hc x.gb;have hstep:F ((pre.length:Int),m)=if gk x.gb p.gc≠0∨∃ y∈seen++pre,y.gb=x.gb then some (.done (.inr (.inl (f.ga,8)))) else some (.next (((pre.length+1:Nat):Int),ei m x.gb (ζ.wrap (cM m x.gb 0+1)))):=by
    rw [hF];simp only [fL h,ξ,hix,δ,Jt (s:=⟨p,f⟩) (n:=x.gb) (show p.gc.length≤4611686018427387904 by omega)];by_cases he:∃ y∈seen++pre,y.gb=x.gb
    ·rw [aQ he] at hx;have h2:decide ((1:Int)<cM (ei m x.gb (ζ.wrap (cM m x.gb 0+1))) x.gb 0)=true:=by
      rw [Di,aQ rfl,hx];rfl
     rw [aQ (.inr he)];simp [h2,j3]
    rw [aF he] at hx;have h2:decide ((1:Int)<cM (ei m x.gb (ζ.wrap (cM m x.gb 0+1))) x.gb 0)=false:=by
     rw [Di,aQ rfl,hx];rfl
    simp only [h2,θ,δ];by_cases hgk:gk x.gb p.gc=0
    ·rw [aF (by simp only [not_or];exact ⟨by simpa using hgk,he⟩)];simp only [hgk,b3,θ];rw [fK h (by omega)]
    rw [aQ (.inl hgk)];have:(gk x.gb p.gc != 0)=true:=by simpa using hgk
    simp [this,j3]
   by_cases hbad:gk x.gb p.gc≠0∨∃ y∈seen++pre,y.gb=x.gb
   ·rw [aQ hbad] at hstep;have e:nmG p (seen++pre) (x::post)=false:=by simp only [nmG];rw [aQ hbad]
    exact ⟨m,(fun q=>by rw [e] at q;cases q),by rw [K0 hstep];simp [e]⟩
   rw [aF hbad] at hstep;have e:nmG p (seen++pre) (x::post)=nmG p (seen++pre++[x]) post:=by simp only [nmG];rw [aF hbad]
   rw [ig hstep];have hne:¬ ∃ y∈seen++pre,y.gb=x.gb:=fun q=>hbad (.inr q)
   obtain ⟨m',b,c⟩:=ih (pre++[x]) _ (by simp [h]) (by rw [← aS];exact hc.put hne);refine ⟨m',fun q=>?_,?_⟩
   ·rw [e] at q;have:=b (by rw [← aS];exact q);simpa using this
   simp only [e];simpa using c
 obtain ⟨m',b,c⟩:=key l [] m rfl (by simpa using hc);exact ⟨m',fun q=>by simpa using b (by simpa using q),by simpa using c⟩
end
section
open Go
def Bi (p:KB)(f:KC)(l:List KZ):Int×List (η×Int)→Option (Step (Int×List (η×Int)) (List (η×Int)⊕((Int×Int)⊕Unit))):=fun s=>
 (bif decide (s.1<l.length) then (idx l s.1).bind fun a=>κ (α:=Bool) (bif decide (1<(cM (ei s.2 a.gb (ζ.wrap ((cM s.2 a.gb 0)+1))) a.gb 0)) then some true else (Au ⟨p,f⟩ a.gb).bind fun b=>some (b != 0)) fun c=>bif c then (j3 f.ga 8).bind fun d=>Ω (fun e=>some (.done (.inr (.inl e)))) (fun g=>some (.next ((ζ.wrap (s.1+1)),(ei s.2 a.gb (ζ.wrap ((cM s.2 a.gb 0)+1)))))) d else some (.next ((ζ.wrap (s.1+1)),(ei s.2 a.gb (ζ.wrap ((cM s.2 a.gb 0)+1))))) else some (.done (.inl s.2)))
def uV {p:KB}{f:KC}(hf:Fit p f):Dx ⟨p,f⟩=some (if nmG p [] (f.gh++f.gi) then .inr () else .inl (f.ga,8)):=by
 have hN:Dx ⟨p,f⟩=κ (aE (fun (a:Int×List (η×Int))=>(bif (decide (a.1<(2:Int))) then ((idx ([f.gh,f.gi]:List (List KZ)) a.1).bind fun d=>(κ (aE (Bi p f d) ((0:Int),a.2)) (Ω (fun e=>some (Step.next ((ζ.wrap (a.1+(1:Int))),e))) (fun r=>some (Step.done (bZ r)))))) else some (Step.done (c5 a.2)))) ((0:Int),([]:List (η×Int)))) (Ω (fun h=>some (bZ ())) (fun r=>some r)):=by unfold Dx;rfl
 rw [hN,LD,a8];have c0:Cnt [] []:=fun n=>by simp [cM,jw]
 obtain ⟨m1,g,b⟩:=LC (p:=p) (f:=f) hf.gl (F:=Bi p f f.gh) hf.fp (fun s=>rfl) c0;cases h1:nmG p [] f.gh with
 |
  false=>
  rw [h1] at b;rw [K0 (t:=bZ (c5 (f.ga,8))) (by
   show κ (aE (Bi p f f.gh) ((0:Int),[])) _=_
   rw [b];rfl)]
  rfl
 |
  true=>
  rw [h1] at b;rw [ig (s':=((1:Int),m1)) (by
   show κ (aE (Bi p f f.gh) ((0:Int),[])) _=_
   rw [b];rfl)]
  have c1:=g h1;rw [a8] at c1;obtain ⟨m2,i,c⟩:=LC (p:=p) (f:=f) hf.gl (F:=Bi p f f.gi) hf.fl (fun s=>rfl) c1;cases h2:nmG p f.gh f.gi with
  |
   false=>
   rw [h2] at c;rw [K0 (t:=bZ (c5 (f.ga,8))) (by
    show κ (aE (Bi p f f.gi) ((0:Int),m1)) _=_
    rw [c];rfl)]
   rfl
  |
   true=>
   rw [h2] at c;rw [ig (s':=((2:Int),m2)) (by
    show κ (aE (Bi p f f.gi) ((0:Int),m1)) _=_
    rw [c];rfl)]
   rw [K0 (t:=c5 m2) rfl];rfl
def sv {p:KB}{f:KC}(hf:Fit p f)(hb:szSs f.gx≤1048576):kN p f=some (fnS p f):=by
 unfold kN;rw [uV hf,δ,ss hf hb];unfold fnS;cases nmG p [] (f.gh++f.gi)<;>rfl
def sy {p:KB}{f:KC}(hf:Fit p f)(hb:szSs f.gx≤1048576):kO p f=some (wr (fnS p f)):=by
 unfold kO;rw [sv hf hb,δ]
def uj {p:KB}{f:KC}(hf:Fit p f)(hb:szSs f.gx≤1048576):Dg p f=some (wr (fnS p f)):=by
 rw [uk hf hb];cases fnS p f<;>rfl
end
section
open Go
open Classical
def dupN (seen:List η):List η→Option Nat
 | []=>none
 | n::l=>if n∈seen then some 0 else (dupN (seen++[n]) l).map (·+1)
def Mg:∀ (a b seen:List η),dupN seen (a++b)=match dupN seen a with|some i=>some i|none=>(dupN (seen++a) b).map (·+a.length)
 | [],b,seen=>by simp [dupN]
 |
  n::a,b,seen=>by
  simp only [bK,dupN];by_cases h:n∈seen
  ·simp only [h,bR]
  simp only [h,bE,Mg a b (seen++[n])];cases dupN (seen++[n]) a with
  | some i=>rfl
  |
   none=>
   simp only [oE,aS,bK,a8,Option.map_map];congr 1
def CntN (seen:List η)(m:List (η×Int)):Prop:=∀ n,cM m n 0=if n∈seen then 1 else 0
def CntN.put {seen:List η}{m:List (η×Int)}(h:CntN seen m){v:η}(hv:v ∉ seen):CntN (seen++[v]) (ei m v (ζ.wrap (cM m v 0+1))):=by
 intro n;have a:=h v;rw [aF hv] at a;rw [Di,a];by_cases hn:v=n;subst hn;rw [aQ rfl,aQ (by simp)];rfl;rw [aF hn,h n];by_cases he:n∈seen;rw [aQ he,aQ (by simp [he])];rw [aF he,aF (by simp only [dC,aT,not_or];exact ⟨he,fun q=>hn q.symm⟩)]
def LB {β ρ:Type}(nm:β→η)(R:Int→ρ){F:Int×List (η×Int)→Option (Step (Int×List (η×Int)) (List (η×Int)⊕ρ))}{l:List β}(hb:l.length≤1048576)
  (hF:∀ s,F s=(bif (decide (s.1<(l.length:Int))) then ((idx l s.1).bind fun x=>(bif (decide ((1:Int)<(cM (ei s.2 (nm x) (ζ.wrap ((cM s.2 (nm x) (0:Int))+(1:Int)))) (nm x) (0:Int)))) then some (.done (.inr (R s.1))) else some (.next ((ζ.wrap (s.1+(1:Int))),(ei s.2 (nm x) (ζ.wrap ((cM s.2 (nm x) (0:Int))+(1:Int)))))))) else some (.done (.inl s.2))))
  {seen:List η} {m:List (η×Int)} (hc:CntN seen m):∃ m',(dupN seen (l.map nm)=none→CntN (seen++l.map nm) m')∧aE F ((0:Int),m)=some (match dupN seen (l.map nm) with|some i=>.inr (R (i:Nat))|none=>.inl m'):=by
 have key:∀ (post pre:List β) (m:List (η×Int)),l=pre++post→CntN (seen++pre.map nm) m→∃ m',(dupN (seen++pre.map nm) (post.map nm)=none→CntN (seen++pre.map nm++post.map nm) m')∧aE F ((pre.length:Int),m)=some (match dupN (seen++pre.map nm) (post.map nm) with|some i=>.inr (R ((pre.length+i:Nat):Int))|none=>.inl m'):=by
  intro post;induction post with
  |
   nil=>
   intro pre m h hc;rw [aN] at h;subst h;refine ⟨m,fun _=>by simpa using hc,?_⟩;rw [K0 (t:=c5 m) (by rw [hF];simp)];rfl
  |
   cons x post ih=>
   intro pre m h hc;have hix:idx l (pre.length:Int)=some x:=by rw [h];exact iX _ _ _
   have hx:=hc (nm x);by_cases he:nm x∈seen++pre.map nm
   ·rw [aQ he] at hx;have h2:decide ((1:Int)<cM (ei m (nm x) (ζ.wrap (cM m (nm x) 0+1))) (nm x) 0)=true:=by
     rw [Di,aQ rfl,hx];rfl
    have e:dupN (seen++pre.map nm) ((x::post).map nm)=some 0:=by simp only [a7,dupN];rw [aQ he]
    refine ⟨m,(fun q=>by rw [e] at q;cases q),?_⟩;rw [K0 (t:=bZ (R (pre.length:Int))) (by rw [hF];simp only [fL h,ξ,hix,δ,h2])];rw [e];rfl
   rw [aF he] at hx;have h2:decide ((1:Int)<cM (ei m (nm x) (ζ.wrap (cM m (nm x) 0+1))) (nm x) 0)=false:=by
    rw [Di,aQ rfl,hx];rfl
   have e:dupN (seen++pre.map nm) ((x::post).map nm)=(dupN (seen++pre.map nm++[nm x]) (post.map nm)).map (·+1):=by simp only [a7,dupN];rw [aF he]
   rw [ig (s':=(((pre.length+1:Nat):Int),ei m (nm x) (ζ.wrap (cM m (nm x) 0+1)))) (by
    rw [hF];simp only [fL h,ξ,hix,δ,h2,θ];rw [fK h (by omega)])]
   have c:seen++(pre++[x]).map nm=seen++pre.map nm++[nm x]:=by simp
   obtain ⟨m',b,a⟩:=ih (pre++[x]) _ (by simp [h]) (by rw [c];exact hc.put he);rw [c] at b a;refine ⟨m',fun q=>?_,?_⟩
   ·rw [e] at q;have:=b (by simpa using q);simpa using this
   have hl:(pre++[x]).length=pre.length+1:=by simp
   rw [hl] at a;rw [a,e];cases dupN (seen++pre.map nm++[nm x]) (post.map nm) with
   | none=>rfl
   | some i=>simp only [dQ];rw [show pre.length+1+i=pre.length+(i+1) by omega]
 obtain ⟨m',b,a⟩:=key l [] m rfl (by simpa using hc);refine ⟨m',fun q=>by simpa using b (by simpa using q),?_⟩;have:aE F ((0:Int),m)=_:=a;rw [this];simp
def BP (p:KB):List η:=p.gc.map (·.gb)++p.gf.map (·.gb)
def Gi {β:Type}(nm:β→η)(R:Int→Int)(l:List β):Int×List (η×Int)→Option (Step (Int×List (η×Int)) (List (η×Int)⊕Int)):=fun s=>
 (bif decide (s.1<l.length) then (idx l s.1).bind fun x=>bif decide (1<(cM (ei s.2 (nm x) (ζ.wrap ((cM s.2 (nm x) 0)+1))) (nm x) 0)) then some (.done (.inr (R s.1))) else some (.next ((ζ.wrap (s.1+1)),(ei s.2 (nm x) (ζ.wrap ((cM s.2 (nm x) 0)+1))))) else some (.done (.inl s.2)))
def tN {p:KB}(hg:p.gc.length≤1048576)(hf:p.gf.length≤1048576):FM p=some (match dupN [] (BP p) with|some i=>(i:Int)|none=>-1):=by
 have hN:FM p=κ (aE (Gi (·.gb) (fun i=>i) p.gc) ((0:Int),([]:List (η×Int)))) (Ω (fun a=>κ (aE (Gi (·.gb) (fun i=>ζ.wrap ((p.gc.length:Int)+i)) p.gf) ((0:Int),a)) (Ω (fun e=>some (-1:Int)) (fun r=>some r))) (fun r=>some r)):=by unfold FM;rfl
 rw [hN];have c0:CntN [] []:=fun n=>by simp [cM,jw]
 obtain ⟨m1,b,c⟩:=LB (fun g:KR=>g.gb) (fun i=>i) (F:=Gi (·.gb) (fun i=>i) p.gc) hg (fun s=>rfl) c0;rw [c];unfold BP;rw [Mg];cases h1:dupN [] (p.gc.map (·.gb)) with
 | some i=>rfl
 |
  none=>
  simp only [δ,Γ];have c1:=b h1;obtain ⟨m2,f,d⟩:=LB (fun g:KC=>g.gb) (fun i=>ζ.wrap ((p.gc.length:Int)+i)) (F:=Gi (·.gb) (fun i=>ζ.wrap ((p.gc.length:Int)+i)) p.gf) hf (fun s=>rfl) c1;rw [d];have hle:∀ {l seen:List η} {i:Nat},dupN seen l=some i→i<l.length:=by
   intro l;induction l with
   | nil=>intro seen i h;cases h
   |
    cons n l ih=>
    intro seen i h;simp only [dupN] at h;split at h
    ·simp only [aA] at h;subst h;simp
    cases hd:dupN (seen++[n]) l with
    | none=>rw [hd] at h;cases h
    | some j=>rw [hd] at h;simp only [dQ,aA] at h;subst h;have:=ih hd;simp;omega
  cases h2:dupN ([]++p.gc.map (·.gb)) (p.gf.map (·.gb)) with
  | none=>rfl
  |
   some i=>
   have hi:=hle h2;simp only [b6] at hi;simp only [δ,ς,dQ,b6];rw [kR (by omega) (by omega)];simp [Int.natCast_add,Int.add_comm]
end
section
open Go
open Classical
structure PFit (p:KB):Prop where
 gl:p.gc.length≤1048576
 fu:p.gf.length≤1048576
 fn:∀ f∈p.gf,Fit p f∧szSs f.gx≤1048576
def j4 (p:KB)(a:List KC)(x:KC):List KC⊕(Unit⊕(Int×Int×Int)):=if (wr (fnS p x)).2=0 then .inl (a++[x]) else .inr (.inr (((p.gc.length+a.length:Nat):Int),(wr (fnS p x)).1,(wr (fnS p x)).2))
def LA {p:KB}(hp:PFit p){E:KC→Option (Int×Int)}(hE:∀ x∈p.gf,E x=some (wr (fnS p x))){F:Int→Option (Step Int (Unit⊕(Int×Int×Int)))}
  (hF:∀ s,F s=(bif (decide (s<(p.gf.length:Int))) then ((idx p.gf s).bind fun d=>((E d).bind fun b=>(bif (b.2 != (0:Int)) then some (.done (.inr ((ζ.wrap ((p.gc.length:Int)+s)),b.1,b.2))) else some (.next (ζ.wrap (s+(1:Int))))))) else some (.done (.inl ())))) :
  aE F (0:Int)=some (scan (j4 p) (fun _=>.inl ()) [] p.gf):=by
 have h1:=hp.gl;have h2:=hp.fu;refine Fa p.gf (j4 p) (fun _=>.inl ()) (fun _ k=>(k:Int)) (fun pre a=>a=pre) [] rfl (fun pre x post a a' _ hi hs=>?_) (fun pre x post a h hi=>?_) (fun a _=>by rw [hF];simp);subst hi;unfold j4 at hs;split at hs;simp only [bX] at hs;exact hs.symm;cases hs;subst hi;have hlen:a.length<p.gf.length:=by rw [h];simp
 have hix:idx p.gf (a.length:Int)=some x:=by rw [h];exact iX _ _ _
 rw [hF];simp only [fL h,ξ,hix,δ,hE x (iW h)];unfold j4;by_cases c:(wr (fnS p x)).2=0;simp only [c,b3,θ,bR,Γ];rw [fK h (by omega)];have e:((wr (fnS p x)).2 != 0)=true:=by simpa using c
 simp only [e,ξ,c,bE,ς];rw [kR (by omega) (by omega)];simp [Int.natCast_add]
def L7 {β:Type}(nm:β→η){l:List β}{a0:List η}(hb:a0.length+l.length≤8388608){F:List η×Int→Option (Step (List η×Int) (List η))}
  (hF:∀ s,F s=(bif (decide (s.2<(l.length:Int))) then ((idx l s.2).bind fun b=>((app 16 s.1 ([nm b]:List η)).bind fun c=>some (.next (c,(ζ.wrap (s.2+(1:Int))))))) else some (.done s.1))):aE F (a0,(0:Int))=some (a0++l.map nm):=by
 have hs:∀ (l:List β) (a:List η),scan (fun (a:List η) x=>(.inl (a++[nm x]):List η⊕List η)) (fun a=>a) a l=a++l.map nm:=by
  intro l;induction l with
  | nil=>intro a;simp [scan]
  | cons x l ih=>intro a;simp only [scan];rw [ih];simp
 rw [Ju l (fun (a:List η) x=>(.inl (a++[nm x]):List η⊕List η)) (fun a=>a) (fun pre a=>a.length=a0.length+pre.length) a0 (by simp)
  (fun pre x post a a' _ hi hs=>by simp only [bX] at hs;subst hs;simp [hi];omega)
  (fun pre x post a e hi=>by
   have hlen:pre.length<l.length:=by rw [e];simp
   have hix:idx l (pre.length:Int)=some x:=by rw [e];exact iX _ _ _
   rw [hF];simp only [fL e,ξ,hix,δ,Γ];rw [h9 (by omega) (by simp;omega),δ,fK e (by omega)])
  (fun a hi=>by rw [hF];simp),hs]
def nf {ρ:Type}(c:Int→ρ)(z:ρ):∀ (l a:List η),scan (fun (a:List η) x=>if x∈a then .inr (c (a.length:Int)) else .inl (a++[x])) (fun _=>z) a l=match dupN a l with|some i=>c ((a.length+i:Nat):Int)|none=>z
 | [],a=>rfl
 |
  x::l,a=>by
  simp only [scan,dupN];by_cases h:x∈a
  ·simp only [h,bR];rfl
  simp only [h,bE];rw [nf c z l (a++[x])];cases dupN (a++[x]) l with
  | none=>rfl
  | some i=>simp only [dQ,υ,aW];rw [show a.length+1+i=a.length+(i+1) by omega]
def nc {τ:Type}(n:η)(y z:τ):∀ l:List η,scan (fun (_:Unit) (x:η)=>if x=n then .inr y else .inl ()) (fun _=>z) () l=if n∈l then y else z
 | []=>by simp [scan]
 |
  x::l=>by
  simp only [scan];by_cases h:x=n
  ·subst h;simp
  rw [aF h];show scan _ _ () l=_
  rw [nc n y z l];have h':¬ n=x:=fun q=>h q.symm
  simp [h']
def vF {ns:List η}(hb:ns.length≤4194304){F:Int→Option (Step Int (Unit⊕(Int×Int×Int)))}
  (hF:∀ s,F s=(bif (decide (s<(ns.length:Int))) then (κ (α:=(Unit)⊕(Int×Int×Int)) (aE (fun (d:Int)=>(bif (decide (d<s)) then ((idx ns d).bind fun e=>((idx ns s).bind fun g=>(bif (decide (e=g)) then some (.done (.inr (s,(0:Int),(8:Int)))) else some (.next (ζ.wrap (d+(1:Int))))))) else some (.done (.inl ())))) (0:Int)) (Ω (fun j=>some (.next (ζ.wrap (s+(1:Int))))) (fun r=>some (.done (.inr r))))) else some (.done (.inl ())))) :
  aE F (0:Int)=some (match dupN [] ns with|some i=>.inr ((i:Nat),0,8)|none=>.inl ()):=by
 have h:=Fa (f:=F) ns (fun (a:List η) x=>if x∈a then .inr (bZ ((a.length:Int),(0:Int),(8:Int))) else .inl (a++[x])) (fun _=>.inl ()) (fun _ k=>(k:Int)) (fun pre a=>a=pre) [] rfl
  (fun pre x post a a' _ hi hs=>by
   subst hi;split at hs
   ·cases hs
   simp only [bX] at hs;exact hs.symm)
  (fun pre x post a h hi=>by
   subst hi;have hlen:a.length<ns.length:=by rw [h];simp
   have hix:idx ns (a.length:Int)=some x:=by rw [h];exact iX _ _ _
   rw [hF];simp only [fL h,ξ,hix,δ];rw [oA a (fun (_:Unit) (y:η)=>if y=x then .inr (bZ ((a.length:Int),(0:Int),(8:Int))) else .inl ()) (.inl ())
    (fun c y b h2=>by
     have hiy:idx ns (c.length:Int)=some y:=by
      rw [h,h2,aS,bK];exact iX _ _ _
     simp only [fL h2,ξ,hiy,δ];by_cases hn:y=x
     ·simp only [hn,eF,ξ,bR,ς]
     simp only [hn,cW,θ,bE,Γ];rw [fK h2 (by omega)]) (by simp),δ,nc]
   by_cases he:x∈a
   ·simp only [he,bR,ς]
   simp only [he,bE,Γ];rw [fK h (by omega)])
  (fun a _=>by rw [hF];simp)
 have h':aE F (0:Int)=_:=h;rw [h',nf (fun i=>bZ (i,(0:Int),(8:Int))) (c5 ())];simp
def pv (p:KB):Int×Int×Int:=
 if 24<p.gc.length∨24<p.gf.length then (0,0,6)
 else match dupN [] (BP p) with
  | some i=>((i:Nat),0,8)
  | none=>Ω (fun _=>(0,0,0)) id (scan (j4 p) (fun _=>.inl ()) [] p.gf)
def v3 (p:KB):(bif (decide ((24:Int)<(p.gc.length:Int))) then some true else some (decide ((24:Int)<(p.gf.length:Int))))=some (decide (24<p.gc.length∨24<p.gf.length)):=by
 by_cases h1:24<p.gc.length;have:(24:Int)<(p.gc.length:Int):=by omega
 simp [h1,this];have h1':¬ (24:Int)<(p.gc.length:Int):=by omega
 by_cases h2:24<p.gf.length;have:(24:Int)<(p.gf.length:Int):=by omega
 simp [h1,h1',h2,this];have:¬ (24:Int)<(p.gf.length:Int):=by omega
 simp [h1,h1',h2,this]
def og {p:KB}(hp:PFit p):FR p=some (pv p):=by
 unfold FR pv;rw [v3,δ];by_cases hb:24<p.gc.length∨24<p.gf.length;simp [hb];simp only [hb,cW,θ,bE];rw [tN hp.gl hp.fu,δ];cases dupN [] (BP p) with
 |
  some i=>
  have:decide ((0:Int)≤((i:Nat):Int))=true:=by simp
  simp only [this,ξ]
 |
  none=>
  have:decide ((0:Int)≤-1)=false:=by decide
  simp only [this,θ];rw [LA hp (fun x hx=>sy (hp.fn x hx).1 (hp.fn x hx).2) (fun s=>rfl),δ];cases scan (j4 p) (fun _=>.inl ()) [] p.gf<;>rfl
def uc {p:KB}(hp:PFit p):HN p=some (pv p):=by
 have h1:=hp.gl;have h2:=hp.fu;unfold HN pv;rw [v3,δ];by_cases hb:24<p.gc.length∨24<p.gf.length;simp [hb];simp only [hb,cW,θ,bE];rw [L7 (fun g:KR=>g.gb) (l:=p.gc) (by simp;omega) (fun s=>rfl),δ,a8,
  L7 (fun g:KC=>g.gb) (l:=p.gf) (by simp;omega) (fun s=>rfl),δ]
 show κ (aE _ _) _=_;rw [vF (ns:=p.gc.map (·.gb)++p.gf.map (·.gb)) (by simp;omega) (fun s=>rfl),δ];unfold BP;cases dupN [] (p.gc.map (·.gb)++p.gf.map (·.gb)) with
 | some i=>rfl
 |
  none=>
  simp only [Γ];rw [LA hp (E:=Dg p) (fun x hx=>uj (hp.fn x hx).1 (hp.fn x hx).2) (fun s=>rfl),δ];cases scan (j4 p) (fun _=>.inl ()) [] p.gf<;>rfl
end
section
open Go
def E9 {β:Type}{l:List β}{F:Int→Option (Step Int Unit)}(h1:∀ pre x post,l=pre++x::post→F (pre.length:Int)=some (.next ((pre.length+1:Nat):Int)))(h2:F (l.length:Int)=some (.done ())):aE F (0:Int)=some ():=
 I2 l (fun _=>()) (fun _ k=>(k:Int)) (fun _=>()) h1 h2
def L6 {l:List KZ}(hb:l.length≤1048576):Fp l l=some true:=by
 unfold Fp;simp only [b3,θ];rw [E9 (l:=l) (fun pre x post e=>?_) (by simp)];rfl;have hix:idx l (pre.length:Int)=some x:=by rw [e];exact iX _ _ _
 simp only [fL e,ξ,hix,δ,eF,aG,Bool.and_self,bI,θ];rw [fK e (by omega)]
def Mf:∀ (n:Nat) (l:List Kf),dS l+1≤n→b7 l≤1048576→Kc4 n l l true=some true
 | 0,l,h,_=>by omega
 |
  n+1,l,h,hb=>by
  show Cm (Kc4 n) l l true=_
  unfold Cm;have hl:=p5 l;simp only [b3,θ];rw [E9 (l:=l) (fun pre x post e=>?_) (by simp)]
  ·rfl
  have hix:idx l (pre.length:Int)=some x:=by rw [e];exact iX _ _ _
  have hd:=Ac (iW e);have hz:=wM (iW e);have:=kS x;have:=la x
  simp only [fL e,ξ,hix,δ,eF,b3,bI,θ,Mf n x.gd (by omega) (by omega)];rw [fK e (by omega)]
def si {l:List Kf}(h:b7 l≤1048576):GH l l true=some true:=Px l l true _ (Mf (dS l+1) l (Φ _) h)
def JR:∀ (n:Nat) (l:List Kk),ki l≤n→szSs l≤1048576→Kb6 n l l true=some true
 | 0,l,h,_=>by have:=BR l;omega
 |
  n+1,l,h,hb=>by
  show Cv (Kb6 n) l l true=_
  unfold Cv;have hl:=we l;simp only [b3,θ];rw [E9 (l:=l) (fun pre x post e=>?_) (by simp)]
  ·rfl
  have hix:idx l (pre.length:Int)=some x:=by rw [e];exact iX _ _ _
  have hd:=kL (iW e);have hz:=EY (iW e);have:=lu x;have:=oI x
  simp only [fL e,ξ,hix,δ,eF,b3,bI,θ,si (l:=x.gn) (by omega),JR n x.gd (by omega) (by omega),JR n x.gr (by omega) (by omega)];rw [fK e (by omega)]
def o6 {l:List Kk}(h:szSs l≤1048576):HH l l true=some true:=PM l l true _ (JR (ki l) l (Φ _) h)
def o8 {a:KC}(h1:a.gh.length≤1048576)(h2:a.gi.length≤1048576)(b:szSs a.gx≤1048576):HU a a true=some true:=by
 unfold HU;rw [L6 h1,L6 h2,o6 b];simp
def Ee {p:KB}(hp:PFit p):Fo p p true=some true:=by
 have h1:=hp.gl;have h2:=hp.fu;unfold Fo;simp only [b3,θ,δ];rw [E9 (l:=p.gc) (fun pre x post e=>?_) (by simp),δ,E9 (l:=p.gf) (fun pre x post e=>?_) (by simp),δ];have hix:idx p.gf (pre.length:Int)=some x:=by rw [e];exact iX _ _ _
 have hx:=hp.fn x (iW e);simp only [fL e,ξ,hix,δ,o8 hx.1.fp hx.1.fl hx.2,bI,θ];rw [fK e (by omega)];have hix:idx p.gc (pre.length:Int)=some x:=by rw [e];exact iX _ _ _
 simp only [fL e,ξ,hix,δ,eF,bI,aG,b3,θ];rw [fK e (by omega)]
end
section
open Go
def G5 {β:Type}{one:β→Option β}{l:List β}(hb:l.length≤1048576)(h:∀ x∈l,one x=some x){F:Int×List β→Option (Step (Int×List β) (List β))}
  (hF:∀ s,F s=(bif (decide (s.1<(l.length:Int))) then ((idx s.2 s.1).bind fun a=>((one a).bind fun b=>((idx s.2 s.1).bind fun c=>some (.next ((ζ.wrap (s.1+(1:Int))),(s.2.set s.1.toNat b)))))) else some (.done s.2))):aE F ((0:Int),l)=some l:=by
 refine I2 l (fun _=>()) (fun _ k=>((k:Int),l)) (fun _=>l) (fun pre x post e=>?_) ?_;have hset:l.set pre.length x=l:=by rw [e];simp [List.set_append]
 have hix:idx l (pre.length:Int)=some x:=by rw [e];exact iX _ _ _
 rw [hF];simp only [fL e,ξ,hix,δ,h x (iW e),cL,hset];rw [fK e (by omega)];rw [hF];simp
def qG {bb n:Nat}(hb:bb≤4096)(h:n≤1048576):need (mf bb (n:Int) (n:Int))=some ():=by
 have h1:(n:Int)*bb≤140737488355328:=by
  have:=Nat.mul_le_mul h hb;have:(n:Int)*(bb:Int)≤((1048576*4096:Nat):Int):=by exact_mod_cast this
  omega
 unfold need mf;simp [h1]
def md {β γ:Type}{l:List β}{z:γ}:need (decide (l.length=(aV (l.length:Int).toNat z).length))=some ():=by
 unfold need;simp
def yT {β:Type}{bb:Nat}{l:List β}(hb:bb≤4096)(h:l.length≤1048576):app bb l ([]:List β)=some l:=by
 rw [h9 hb (by simp;omega)];simp
def q2:∀ n,(∀ l,dS l≤n→b7 l≤1048576→(K6 (2*n+1)).1 l=some l)∧(∀ e,dpE e≤n→szE e≤1048576→(K6 (2*n)).2 e=some e)
 |
  0=>by
  refine ⟨fun l h hs=>?_,fun e h _=>by have:=kS e;omega⟩;cases l with
  |
   nil=>
   show y4 (K6 0).1 (K6 0).2 []=_
   unfold y4;rw [qG (by omega) (by simp),δ,md,δ,G5 (one:=(K6 0).2) (by simp) (by simp) (fun _=>rfl)];rfl
  | cons x l=>have:=Ac (l:=x::l) (e:=x) (by simp);have:=kS x;omega
 |
  n+1=>by
  have ih:=q2 n;have h2:∀ e,dpE e≤n+1→szE e≤1048576→(K6 (2*(n+1))).2 e=some e:=fun e h hs=>by
   show Cx (K6 (2*n+1)).1 (K6 (2*n+1)).2 e=_
   unfold Cx;have:=kS e;have:=la e
   rw [ih.1 e.gd (by omega) (by omega)];cases e;rfl
  refine ⟨fun l h hs=>?_,h2⟩;show y4 (K6 (2*(n+1))).1 (K6 (2*(n+1))).2 l=_
  unfold y4;have hl:=p5 l;rw [qG (by omega) (by omega),δ,md,δ,G5 (one:=(K6 (2*(n+1))).2) (by omega) (fun x hx=>h2 x (eJ (Ac hx) h) (eJ (wM hx) hs)) (fun _=>rfl)];rfl
def BE {l:List Kf}(h:b7 l≤1048576):HY l=some l:=QV l _ ((q2 (dS l)).1 l (Φ _) h)
def q1:∀ n,(∀ l,ki l≤n→szSs l≤1048576→(Kac (2*n+1)).1 l=some l)∧(∀ e,hS e≤n→jt e≤1048576→(Kac (2*n)).2 e=some e)
 | 0=>⟨fun l h hs=>by have:=BR l;omega,fun e h _=>by have:=lu e;omega⟩
 |
  n+1=>by
  have ih:=q1 n;have h2:∀ e,hS e≤n+1→jt e≤1048576→(Kac (2*(n+1))).2 e=some e:=fun e h hs=>by
   show Cw (Kac (2*n+1)).1 (Kac (2*n+1)).2 e=_
   unfold Cw;have:=lu e;have:=oI e
   rw [BE (by omega),δ,ih.1 e.gd (by omega) (by omega),δ,ih.1 e.gr (by omega) (by omega)];cases e;rfl
  refine ⟨fun l h hs=>?_,h2⟩;show CN (Kac (2*(n+1))).1 (Kac (2*(n+1))).2 l=_
  unfold CN;have hl:=we l;rw [qG (by omega) (by omega),δ,md,δ,G5 (one:=(Kac (2*(n+1))).2) (by omega) (fun x hx=>h2 x (eJ (kL hx) h) (eJ (EY hx) hs)) (fun _=>rfl)];rfl
def BD {l:List Kk}(h:szSs l≤1048576):HX l=some l:=QT l _ ((q1 (ki l)).1 l (Φ _) h)
def EQ {f:KC}(h1:f.gh.length≤1048576)(h2:f.gi.length≤1048576)(a:szSs f.gx≤1048576):FP f=some f:=by
 unfold FP Ie;rw [yT (by omega) h1,δ,yT (by omega) h2,δ,BD a];rfl
def EP {p:KB}(hp:PFit p):HP p=some p:=by
 have h1:=hp.gl;have h2:=hp.fu;unfold HP w5 J2;rw [yT (by omega) h1,δ,qG (by omega) h2,δ,md,δ,G5 (one:=FP) h2 (fun x hx=>EQ (hp.fn x hx).1.fp (hp.fn x hx).1.fl (hp.fn x hx).2) (fun _=>rfl)];rfl
end
section
open Go
def IU {σ τ:Type}{f:σ→Option (Step σ τ)}(I:σ→Prop)(μ:σ→Nat)(Post:τ→Prop)(h:∀ s,I s→(∃ s',f s=some (.next s')∧I s'∧μ s' < μ s)∨∃ r,f s=some (.done r)∧Post r):∀ {s},I s→∃ r,aE f s=some r∧Post r:=by
 have key:∀ n s,μ s<n→I s→∃ r,aE f s=some r∧Post r:=by
  intro n;induction n with
  | zero=>intro s h;omega
  |
   succ n ih=>
   intro s a hi;rcases h s hi with ⟨s',h1,h2,b⟩|⟨r,h1,h2⟩
   ·rw [ig h1];exact ih s' (by omega) h2
   exact ⟨r,K0 h1,h2⟩
 intro s hi;exact key _ s (Nat.lt_succ_self _) hi
def FS (f:KC):Prop:=f.gh.length≤1048576∧f.gi.length≤1048576∧szSs f.gx≤1048576
structure Big (p:KB):Prop where
 gl:p.gc.length≤25
 fu:p.gf.length≤25
 fs:∀ f∈p.gf,FS f
def Big.fit {p:KB}(h:Big p):PFit p:=by
 have h1:=h.gl;have h2:=h.fu;exact ⟨by omega,by omega,fun f hf=>⟨⟨by omega,by omega,fun g hg=>(h.fs g hg).1,(h.fs f hf).1,(h.fs f hf).2.1⟩,(h.fs f hf).2.2⟩⟩
def qw {p:KB}(h:(pv p).2.2=0):p.gc.length≤24∧p.gf.length≤24:=by
 unfold pv at h;by_cases h1:24<p.gc.length∨24<p.gf.length;rw [aQ h1] at h;simp at h;omega
structure Rt (p:KB):Prop where
 ok:(pv p).2.2=0
 fs:∀ f∈p.gf,FS f
def Rt.big {p:KB}(h:Rt p):Big p:=by
 have:=qw h.ok;exact ⟨by omega,by omega,h.fs⟩
def vj {β:Type}{l:List β}(t:β→Bool)(hb:l.length≤1048576){F:Int→Option (Step Int (Unit⊕Int))}(hF:∀ s,F s=(bif (decide (s<(l.length:Int))) then ((idx l s).bind fun x=>(bif (t x) then some (.done (.inr s)) else some (.next (ζ.wrap (s+(1:Int)))))) else some (.done (.inl ())))) :
  ∃ r,aE F (0:Int)=some r∧∀ i,r=.inr i→∃ k:Nat,i=(k:Int)∧k<l.length:=by
 refine IU (fun s=>∃ k:Nat,s=(k:Int)∧k≤l.length) (fun s=>l.length-s.toNat) (fun r=>∀ i,r=bZ i→∃ k:Nat,i=(k:Int)∧k<l.length) (fun s hs=>?_) ⟨0,rfl,fM _⟩;obtain ⟨k,rfl,hk⟩:=hs;rw [hF];by_cases h:k<l.length
 ·rw [Ξ (by omega),ξ,lb,bF h,δ];cases ht:t l[k] with
  | true=>exact .inr ⟨_,rfl,fun i e=>⟨k,by cases e;rfl,h⟩⟩
  |
   false=>
   have hw:ζ.wrap ((k:Int)+1)=((k+1:Nat):Int):=by rw [b1];omega
   refine .inl ⟨_,rfl,⟨k+1,hw,h⟩,?_⟩;rw [hw];simp only [cL];omega
 rw [Δ (by omega),θ];exact .inr ⟨_,rfl,fun i e=>by cases e⟩
end
section
open Go
def T {α:Type}(m:Option α)(P:α→Prop):Prop:=∃ r,m=some r∧P r
def T.bind {α β:Type}{m:Option α}{f:α→Option β}{P:α→Prop}{Q:β→Prop}(h:T m P)(g:∀ x,P x→T (f x) Q):T (m.bind f) Q:=by
 obtain ⟨x,rfl,hx⟩:=h;exact g x hx
def T.ret {α:Type}{x:α}{P:α→Prop}(h:P x):T (some x) P:=⟨x,rfl,h⟩
def T.cond {α:Type}{c:Bool}{a b:Option α}{P:α→Prop}(h1:c=true→T a P)(h2:c=false→T b P):T (bif c then a else b) P:=by
 cases c;exact h2 rfl;exact h1 rfl
def T.imp {α:Type}{m:Option α}{P Q:α→Prop}(h:T m P)(g:∀ x,P x→Q x):T m Q:=by
 obtain ⟨x,h1,h2⟩:=h;exact ⟨x,h1,g x h2⟩
def ot {σ τ:Type}(I:σ→Prop)(μ:σ→Nat)(n:Nat)(Post:τ→Prop):Step σ τ→Prop
 | .next s'=>I s'∧μ s' < n
 | .done r=>Post r
def T.loop {σ τ:Type}{f:σ→Option (Step σ τ)}(I:σ→Prop)(μ:σ→Nat){Post:τ→Prop}{s:σ}(hi:I s)(h:∀ s,I s→T (f s) (ot I μ (μ s) Post)):T (aE f s) Post:=by
 refine IU I μ Post (fun s hs=>?_) hi;obtain ⟨r,h1,h2⟩:=h s hs;cases r with
 | next s'=>exact .inl ⟨s',h1,h2.1,h2.2⟩
 | done r=>exact .inr ⟨r,h1,h2⟩
def T.idx {α:Type}{l:List α}{k:Nat}{P:α→Prop}(h:k<l.length)(g:∀ x,l[k]? = some x→P x):T (idx l (k:Int)) P:=by
 rw [lb];exact ⟨l[k],bF h,g _ (bF h)⟩
def T.cut {α:Type}{l:List α}{a b:Nat}{P:List α→Prop}(h1:a≤b)(h2:b≤l.length)(g:∀ x:List α,x.length=b-a→P x):T (eP l (a:Int) (b:Int)) P:=by
 unfold eP;rw [show (decide (0≤(a:Int)) && decide ((a:Int)≤(b:Int)) && decide ((b:Int)≤(l.length:Int)))=true by simp;omega,ξ];refine T.ret (g _ ?_);simp;omega
def wn {n:Nat}(h:n<1000000000):ζ.wrap ((n:Int)+1)=((n+1:Nat):Int):=by rw [b1];omega
def wa {n k:Nat}(h:n+k<1000000000):ζ.wrap ((n:Int)+(k:Int))=((n+k:Nat):Int):=by rw [b1];omega
def tR (c:Int):T (sJ c) fun _=>True:=by
 unfold sJ;repeat' (first|exact T.ret trivial|(refine T.cond (fun _=>?_) (fun _=>?_))|(refine T.bind (P:=fun _=>True) ?_ (fun _ _=>?_)))
def zE (l:List η)(s:η)(hl:l.length≤1000):T (wv l s) fun _=>True:=by
 unfold wv DE;refine T.bind (P:=fun _=>True) ?_ fun _ _=>T.ret trivial;obtain ⟨r,h1,_⟩:=vj (fun x=>decide (s=x)) (l:=l) (by omega) (fun _=>rfl);rw [h1];cases r<;>exact T.ret trivial
def D7 (s:η):T (rp s) fun _=>True:=by
 unfold rp;refine T.bind (zE _ _ ?_) fun _ _=>T.ret trivial;simp
structure TkI (m:Kaa) (a:Nat):Prop where
 at_:m.ga=(a:Int)
 le:a≤m.gB.length
 len:m.gB.length≤20000
 l:m.gL.length≤4000
def fk (m:Kaa)(a:Nat)(k:Int):Prop:=∃ c,m.gB[a]? = some c∧sJ (eT.wrap (c.toNat:Int))=some k
def tQ {m:Kaa}{a:Nat}(h:TkI m a)(b:Bool):T (wm m b) fun n=>∃ k:Nat,n=(k:Int)∧a+k≤m.gB.length∧(fk m a 3→1≤k)∧(b=true→fk m a 2→1≤k):=by
 have h1:=h.le;have h2:=h.len;unfold wm;refine T.bind (P:=fun n=>∃ k:Nat,n=(k:Int)∧a+k≤m.gB.length∧(fk m a 3→1≤k)∧(b=true→fk m a 2→1≤k)) ?_ fun x hx=>T.ret hx;refine T.loop (fun s=>∃ k:Nat,s=(k:Int)∧a+k≤m.gB.length) (fun s=>m.gB.length-(a+s.toNat)) ⟨0,rfl,by omega⟩ fun s hs=>?_;obtain ⟨k,rfl,hk⟩:=hs;rw [h.at_,wa (by omega)];refine T.cond (fun hc=>?_) (fun hc=>T.ret ⟨k,rfl,hk,fun ⟨c,e,_⟩=>?_,fun _ ⟨c,e,_⟩=>?_⟩);have hlt:a+k<m.gB.length:=by have:=aY hc;omega
 refine T.bind (P:=fun c=>m.gB[a+k]? = some c) (T.idx hlt fun x hx=>hx) fun c he=>?_;obtain ⟨kd,hkd,_⟩:=tR (eT.wrap (c.toNat:Int));rw [hkd,δ];have nx:ot (fun s=>∃ k:Nat,s=(k:Int)∧a+k≤m.gB.length) (fun s:Int=>m.gB.length-(a+s.toNat)) (m.gB.length-(a+((k:Int)).toNat)) (fun n=>∃ k:Nat,n=(k:Int)∧a+k≤m.gB.length∧(fk m a 3→1≤k)∧(b=true→fk m a 2→1≤k)) (.next (ζ.wrap ((k:Int)+1))):=by rw [wn (by omega)];exact ⟨⟨k+1,rfl,by omega⟩,by simp only [cL];omega⟩
 have key:∀ q,fk m a q→k=0→kd=q:=fun q ⟨c',j,l⟩ d=>by subst d;rw [gY,j] at he;cases he;rw [l] at hkd;cases hkd;rfl
 refine T.cond (fun f=>T.cond (fun g=>T.ret ⟨k,rfl,hk,fun hf=>?_,fun _ hf=>?_⟩) fun g=>T.cond (fun i=>T.ret ⟨k,rfl,hk,fun hf=>?_,fun hb hf=>?_⟩) fun _=>T.ret nx) fun _=>T.ret nx;rcases lh k with d|d;rw [key 3 hf d] at f;cases f;exact d;rcases lh k with d|d;rw [key 2 hf d] at g;cases g;exact d;rcases lh k with d|d;rw [key 3 hf d] at f;cases f;exact d;rw [hb] at i;cases i;rcases lh k with d|d;subst d;have:a<m.gB.length:=(aP.1 e).1;simp at hc;omega;exact d;rcases lh k with d|d;subst d;have:a<m.gB.length:=(aP.1 e).1;simp at hc;omega;exact d
def TP (m:Kaa)(a:Nat)(r:Int×Kaa):Prop:=r.1≠0∨∃ a',a<a'∧TkI r.2 a'∧r.2.gB=m.gB
def xp {m:Kaa}{a:Nat}(h:TkI m a){k:Nat}(h1:1≤k)(h2:a+k≤m.gB.length)(kd v:Int):T (sL m kd (k:Int) v) (TP m a):=by
 have c:=h.l;have b:=h.len;unfold sL;refine T.cond (fun _=>T.ret (.inl (by simp))) fun hc=>?_;have hl:m.gL.length<4000:=by have:=a9 hc;omega
 rw [h.at_,wa (by omega)];refine T.bind (P:=fun _=>True) (T.cut (by omega) h2 fun _ _=>trivial) fun x _=>?_;rw [h9 (by omega) (by simp;omega),δ];exact T.ret (.inr ⟨a+k,by omega,⟨rfl,h2,b,by simp;omega⟩,rfl⟩)
def Ea {m:Kaa}{a:Nat}(h:TkI m a)(hf:fk m a 2):T (tb m) (TP m a):=by
 have c:=h.len;have d:=h.le;unfold tb;refine T.bind (tQ h true) fun n hn=>?_;obtain ⟨k,rfl,k1,_,k2⟩:=hn;have b:=k2 rfl hf;rw [h.at_,wa (by omega)];refine T.bind (P:=fun _=>True) (T.cut (by omega) k1 fun _ _=>trivial) fun x _=>?_;refine T.cond (fun _=>T.ret (.inl (by simp))) fun _=>T.bind (D7 _) fun w _=>T.cond (fun _=>?_) fun _=>?_;exact T.bind (xp h b k1 3 0) fun x hx=>T.ret hx;exact T.bind (xp h b k1 1 0) fun x hx=>T.ret hx
def xo {m:Kaa}{a:Nat}(h:TkI m a)(hf:fk m a 3):T (tc m) (TP m a):=by
 have d:=h.len;have f:=h.le;unfold tc;refine T.cond (fun _=>T.ret (.inl (by simp))) fun _=>T.bind (tQ h false) fun n hn=>?_;obtain ⟨k,rfl,k1,k2,_⟩:=hn;have b:=k2 hf;refine T.bind (P:=fun _=>True) ?_ fun y _=>T.cond (fun _=>T.ret (.inl (by simp))) fun _=>?_;refine T.bind (tQ h true) fun n hn=>T.cond (fun _=>T.ret trivial) fun _=>?_;rw [h.at_];exact T.bind (P:=fun _=>True) (T.idx (by omega) fun _ _=>trivial) fun c _=>T.cond (fun _=>T.ret trivial) fun _=>T.ret trivial;rw [h.at_,wa (by omega)];refine T.bind (P:=fun x=>x.length=k) (T.cut (by omega) k1 fun _ e=>by omega) fun x hx=>?_;refine T.bind (P:=fun r=>∀ q,r=bZ q→q.1≠0) ?_ fun r hr=>?_;refine T.loop (fun s=>∃ j:Nat,s.2=(j:Int)∧j≤k) (fun s=>k-s.2.toNat) ⟨0,rfl,by omega⟩ fun s hs=>?_;obtain ⟨j,e,hj⟩:=hs;obtain ⟨g,i⟩:=s;simp only at e;subst e;refine T.cond (fun hc=>?_) fun _=>T.ret (fun q e=>by cases e);have hlt:j<x.length:=by simpa using hc
 refine T.bind (P:=fun _=>True) (T.idx hlt fun _ _=>trivial) fun c _=>T.cond (fun _=>T.ret (fun q e=>by cases e;simp)) fun _=>T.ret ?_;have:=wn (n:=j) (by omega);refine ⟨⟨j+1,this,by omega⟩,?_⟩;simp only [this,cL];omega;cases r with
 | inl v=>exact T.bind (xp h b k1 2 _) fun x hx=>T.ret hx
 | inr q=>exact T.ret (.inl (hr q rfl))
def zC {m:Kaa}{a:Nat}(h:TkI m a)(hlt:a<m.gB.length):T (sM m) fun n=>n=0∨∃ k:Nat,n=(k:Int)∧1≤k∧a+k≤m.gB.length:=by
 have d:=h.len;unfold sM;rw [h.at_];refine T.bind (P:=fun x=>x.length=m.gB.length-a) (T.cut (by omega) (Φ _) fun _ e=>e) fun x hx=>?_;refine T.bind (P:=fun y=>y=true→1<x.length) (T.cond (fun hc=>?_) fun _=>T.ret (by simp)) fun y hy=>T.cond (fun e=>T.ret (.inr ⟨2,rfl,by omega,by have:=hy e;omega⟩)) fun _=>?_;have hc':1<x.length:=by have:=aY hc;omega
 refine T.bind (P:=fun _=>True) (T.cut (a:=0) (b:=2) (by omega) (by omega) fun _ _=>trivial) fun z _=>?_;exact T.bind (zE _ _ (by simp)) fun b _=>T.ret fun _=>hc';refine T.bind (P:=fun _=>True) (T.idx (k:=0) (by omega) fun _ _=>trivial) fun c _=>T.cond (fun _=>T.ret (.inr ⟨1,rfl,by omega,by omega⟩)) fun _=>T.ret (.inl rfl)
def D9 {m:Kaa}{a:Nat}(h:TkI m a)(hlt:a<m.gB.length):T (p8 m) (TP m a):=by
 have b:=h.len;unfold p8;rw [h.at_];refine T.bind (P:=fun c=>m.gB[a]? = some c) (T.idx hlt fun _ e=>e) fun c hc=>?_;obtain ⟨kd,hk,_⟩:=tR (eT.wrap (c.toNat:Int));rw [hk,δ];refine T.cond (fun _=>T.ret (.inr ⟨a+1,by omega,⟨wn (by omega),Nat.succ_le_of_lt hlt,b,h.l⟩,rfl⟩)) fun _=>T.cond (fun e=>?_) fun _=>T.cond (fun e=>?_) fun _=>?_;have:kd=2:=by simpa using e
 subst this;exact T.bind (Ea h ⟨c,hc,hk⟩) fun x hx=>T.ret hx;have:kd=3:=by simpa using e
 subst this;exact T.bind (xo h ⟨c,hc,hk⟩) fun x hx=>T.ret hx;refine T.bind (zC h hlt) fun n hn=>T.cond (fun _=>T.ret (.inl (by simp))) fun e=>?_;rcases hn with rfl|⟨k,rfl,k1,k2⟩;cases e;exact T.bind (xp h k1 k2 3 0) fun x hx=>T.ret hx
end
section
open Go
def jL (m:Kr):Nat:=if m.gE=0 then m.gL.length+1-m.ga.toNat else 0
def qu {m:Kr}(h:m.gE=0):jL m=m.gL.length+1-m.ga.toNat:=aQ h
def nA {m:Kr}(h:m.gE≠0):jL m=0:=aF h
structure PI (m:Kr):Prop where
 lo:0≤m.ga
 hi:m.ga≤(m.gL.length:Int)
 len:m.gL.length≤5000
structure PQ (m:Kr) (c s:Nat) (r:Kr):Prop where
 l:r.gL=m.gL
 i:PI r
 le:jL r≤jL m
 sz:r.gE=0→s+jL r≤jL m+c
def PI.pos {m:Kr}(h:PI m)(e:m.gE=0):1≤jL m:=by
 have:=h.lo;have:=h.hi;rw [qu e];omega
def PI.le {m:Kr}(h:PI m):jL m≤5001:=by
 have:=h.len;by_cases e:m.gE=0;rw [qu e];omega;rw [nA e];omega
def DN (x:Kf):(⟨x.gj,x.gN,x.gb,x.gd,x.ga⟩:Kf)=x:=by cases x;rfl
def kD (a b:Int)(n:η)(ks:List Kf)(c:Int):szE ⟨a,b,n,ks,c⟩=1+b7 ks:=by simp only [szE]
def mX (a b:Int)(n:η)(c:Int):szE ⟨a,b,n,[],c⟩=1:=by simp [szE,b7]
abbrev PG (N:Nat):=Kz N
def PQ.trans {m r q:Kr}{c s s':Nat}(h1:PQ m c s r)(h2:PQ r 0 s' q){t:Nat}(ht:r.gE=0→q.gE=0→s+jL r≤jL m+c→s'+jL q≤jL r→t+jL q≤jL m+c):PQ m c t q:=by
 refine ⟨h2.l.trans h1.l,h2.i,eJ h2.le h1.le,fun e=>?_⟩;have:=h2.i.pos e;have a:r.gE=0:=by rcases Classical.em (r.gE=0) with a|a;exact a;have:=h2.le;rw [nA a] at this;omega
 exact ht a e (h1.sz a) (by have:=h2.sz e;omega)
end
section
open Go
def nO (m:Km):Nat:=if m.gE=0 then m.gL.length+1-m.ga.toNat else 0
def Gz {m:Km}(h:m.gE=0):nO m=m.gL.length+1-m.ga.toNat:=aQ h
def IT {m:Km}(h:m.gE≠0):nO m=0:=aF h
structure GI (m:Km):Prop where
 lo:0≤m.ga
 hi:m.ga≤(m.gL.length:Int)
 len:m.gL.length≤5000
structure GQ (m:Km) (c s:Nat) (r:Km):Prop where
 l:r.gL=m.gL
 i:GI r
 le:nO r≤nO m
 sz:r.gE=0→s+nO r≤nO m+c
def GI.pos {m:Km}(h:GI m)(e:m.gE=0):1≤nO m:=by
 have:=h.lo;have:=h.hi;rw [Gz e];omega
def GI.le {m:Km}(h:GI m):nO m≤5001:=by
 have:=h.len;by_cases e:m.gE=0;rw [Gz e];omega;rw [IT e];omega
def GQ.refl {m:Km}(h:GI m):GQ m 0 0 m:=⟨rfl,h,Φ _,fun _=>by omega⟩
def yo {m r:Km}{c s:Nat}(h1:r.gL=m.gL)(h2:GI r)(a:r.gE≠0):GQ m c s r:=⟨h1,h2,by rw [IT a];omega,fun e=>bH e a⟩
def GQ.trans {m r q:Km}{c s s' c' t:Nat}(h1:GQ m c s r)(h2:GQ r c' s' q)(ht:t+c'≤s+s'):GQ m c t q:=by
 refine ⟨h2.l.trans h1.l,h2.i,eJ h2.le h1.le,fun e=>?_⟩;have:=h2.i.pos e;have a:r.gE=0:=by rcases Classical.em (r.gE=0) with a|a;exact a;have:=h2.le;rw [IT a] at this;omega
 have:=h1.sz a;have:=h2.sz e;omega
def GQ.vo {m r:Km}{c s:Nat}(h:GQ m c s r)(v o:Int):GQ m c s ⟨r.gL,r.ga,r.gE,v,o⟩:=⟨h.l,⟨h.i.lo,h.i.hi,h.i.len⟩,h.le,h.sz⟩
def Bt {m:Km}(h:GI m)(hlt:m.ga<(m.gL.length:Int))(e:m.gE=0):GQ m 0 1 ⟨m.gL,ζ.wrap (m.ga+1),m.gE,m.gu,m.gt⟩:=by
 have h1:=h.lo;have h2:=h.len;have hw:ζ.wrap (m.ga+1)=m.ga+1:=by rw [b1];omega
 rw [hw];have k1:=Gz e;have k2:=Gz (m:=⟨m.gL,m.ga+1,m.gE,m.gu,m.gt⟩) e;simp only at k2;exact ⟨rfl,⟨by simp only;omega,by simp only;omega,h2⟩,by omega,fun _=>by omega⟩
def zW {m:Km}(h:GI m){a:Int}(ha:a=0∨a=1):T (oC m a) fun t=>a=0→t.gp≠0→m.ga<(m.gL.length:Int):=by
 have h1:=h.lo;have h2:=h.hi;have b:=h.len;have hw:ζ.wrap (m.ga+a)=m.ga+a:=by rw [b1];omega
 unfold oC;rw [hw];refine T.cond (fun _=>T.ret fun _ e=>bH rfl e) fun hc=>?_;have hc':m.ga+a<(m.gL.length:Int):=by have:=a9 hc;omega
 obtain ⟨k,hk⟩:=Int.eq_ofNat_of_zero_le (show 0≤m.ga+a by omega);rw [hk] at hc' ⊢;exact T.bind (P:=fun _=>True) (T.idx (by omega) fun _ _=>trivial) fun x _=>T.ret fun _ _=>by omega
def Ln {m:Km}(h:GI m){a:Int}(ha:a=0∨a=1)(s:η):T (mA m a s) fun b=>a=0→b=true→m.ga<(m.gL.length:Int):=by
 unfold mA;refine T.bind (zW h ha) fun t ht=>T.cond (fun e=>T.ret fun a0 _=>ht a0 ?_) fun _=>T.ret (by simp);have:t.gp=3:=by simpa using e
 rw [this];decide
def gfail {m:Km}(h:GI m){a e:Int}(h1:0≤a)(h2:a≤(m.gL.length:Int))(he:e≠0):T (lg m a e) fun r=>r.gL=m.gL∧GI r∧r.gE≠0:=by
 unfold lg;refine T.cond (fun _=>T.ret ⟨rfl,⟨h1,h2,h.len⟩,he⟩) fun e=>T.ret ⟨rfl,h,by simpa using e⟩
def geat {m:Km}(h:GI m)(l:List η)(hl:l.length≤1000):T (K9 m l) (GQ m 0 0):=by
 unfold K9;refine T.bind (P:=fun r=>(∀ p,r=c5 p→GQ m 0 0 ⟨m.gL,p,m.gE,m.gu,m.gt⟩)∧∀ q,r=bZ q→GQ m 0 0 q) ?_ fun r hr=>?_;refine T.loop (fun s=>(∃ k:Nat,s.1=(k:Int)∧k≤l.length)∧GQ m 0 0 ⟨m.gL,s.2,m.gE,m.gu,m.gt⟩) (fun s=>l.length-s.1.toNat) ⟨⟨0,rfl,by omega⟩,GQ.refl h⟩ fun s hs=>?_;obtain ⟨⟨k,hk,c⟩,hq⟩:=hs;obtain ⟨d,f⟩:=s;simp only at hk hq ⊢;subst hk;refine T.cond (fun hc=>?_) fun _=>T.ret ⟨fun p e=>(by cases e;exact hq),fun q e=>(by cases e)⟩;have hlt:k<l.length:=by have:=aY hc;omega
 refine T.bind (P:=fun _=>True) (T.idx hlt fun _ _=>trivial) fun x _=>T.cond (fun _=>T.ret ⟨fun p e=>(by cases e),fun q e=>(by cases e;exact hq)⟩) fun e=>?_;have a:m.gE=0:=by simpa using e
 refine T.bind (Ln hq.i (.inl rfl) x) fun b hb=>T.cond (fun _=>?_) fun e=>?_;exact T.bind (gfail hq.i hq.i.lo hq.i.hi (by decide)) fun r hr=>T.ret ⟨fun p e=>(by cases e),fun q e=>(by cases e;exact yo hr.1 hr.2.1 hr.2.2)⟩;have hadv:=hq.trans (Bt hq.i (hb rfl (by simpa using e)) a) (t:=0) (by omega);have hw:=wn (n:=k) (by omega);exact T.ret ⟨⟨⟨k+1,hw,hlt⟩,hadv⟩,by simp only [hw,cL];omega⟩;cases r with
 | inl p=>exact T.ret (hr.1 p rfl)
 | inr q=>exact T.ret (hr.2 q rfl)
def gmay {m:Km}(h:GI m)(s:η):T (i0 m s) fun r=>(r.1=true→m.gE=0∧r.2.gE=0∧GQ m 0 1 r.2)∧(r.1=false→r.2=m):=by
 unfold i0;refine T.bind (P:=fun b=>b=false→m.gE=0∧m.ga<(m.gL.length:Int)) (T.cond (fun _=>T.ret (by simp)) fun e=>?_) fun b hb=>T.cond (fun _=>T.ret ⟨fun h=>(by cases h),fun _=>rfl⟩) fun e=>?_;exact T.bind (Ln h (.inl rfl) s) fun b hb=>T.ret fun h=>⟨by simpa using e,hb rfl (by simpa using h)⟩;obtain ⟨a,hlt⟩:=hb e;exact T.ret ⟨fun _=>⟨a,a,Bt h hlt a⟩,fun h=>(by cases h)⟩
def EF {m:Km}(h:GI m)(s:η):T (i0 m s) fun r=>GQ m 0 0 r.2∧(r.1=true→m.gE=0∧r.2.gE=0∧GQ m 0 1 r.2)∧(r.1=false→r.2=m):=(gmay h s).imp fun r hr=>by
 refine ⟨?_,hr⟩;cases e:r.1 with
 | true=>exact (hr.1 e).2.2.trans (GQ.refl (hr.1 e).2.2.i) (by omega)
 | false=>rw [hr.2 e];exact GQ.refl h
def gname {m:Km}(h:GI m):T (oO m) fun r=>GQ m 0 1 r.2:=by
 unfold oO;refine T.cond (fun e=>T.ret (yo rfl h (by simpa using e))) fun e=>T.bind (zW h (.inl rfl)) fun t ht=>T.cond (fun _=>?_) fun k=>?_;exact T.bind (gfail h h.lo h.hi (by decide)) fun r hr=>T.ret (yo hr.1 hr.2.1 hr.2.2);have hk:t.gp=1:=by simpa using k
 exact T.ret (Bt h (ht rfl (by rw [hk];decide)) (by simpa using e))
def gvar {m:Km}(h:GI m):T (wy m) fun r=>GQ m 0 1 r.2:=by
 unfold wy;refine T.bind (geat h _ (by simp)) fun f h1=>T.bind (EF h1.i _) fun c h2=>T.bind (gname h2.1.i) fun b d=>?_;have q:GQ m 0 1 b.2:=(h1.trans h2.1 (by omega)).trans d (t:=1) (s:=0) (by omega);have q':=q.vo (ζ.wrap (b.2.gu+1)) b.2.gt;refine T.cond (fun _=>?_) fun _=>T.ret q';have e:b.2.gL=c.2.gL:=d.l;refine T.bind (gfail q'.i (a:=c.2.ga) h2.1.i.lo (by simp only;rw [e];exact h2.1.i.hi) (by decide)) fun r hr=>T.ret (yo (hr.1.trans q'.l) hr.2.1 hr.2.2)
def o3 (a:Int)(b c:η)(es:List Kf)(ks ls:List Kk)(d:Int):jt ⟨a,b,c,es,ks,ls,d⟩=1+szSs ks+szSs ls+b7 es:=by rw [oI]
abbrev SG (N:Nat):=Kai N
end
section
open Go
abbrev Tk:=Int×η×Int
inductive Pc where
 | tk (t:Tk)
 | sp (c:aC)
def Pc.txt:Pc→List aC
 | .tk t=>t.2.1.data.toList
 | .sp c=>[c]
def aK (l:List Pc):List aC:=l.flatMap Pc.txt
def oZ:List Pc→List Tk
 | []=>[]
 | .tk t::l=>t::oZ l
 | .sp _::l=>oZ l
abbrev mk (s:η):Pc:=.tk (3,s,0)
abbrev nm (s:η):Pc:=.tk (1,s,0)
abbrev nb (n:Int):Pc:=.tk (2,itoaB n,n)
def IS:aK []=[]:=rfl
def p6 (p:Pc)(l:List Pc):aK (p::l)=p.txt++aK l:=rfl
def mz (a b:List Pc):aK (a++b)=aK a++aK b:=by simp [aK]
def ck (c:aC):Int:=(sJ (eT.wrap (c.toNat:Int))).getD 0
def vQ (c:aC):sJ (eT.wrap (c.toNat:Int))=some (ck c):=by
 obtain ⟨k,h,_⟩:=tR (eT.wrap (c.toNat:Int));unfold ck;rw [h];rfl
structure Alp (b:List aC):Prop where
 hd:∃ c r,b=c::r∧ck c=2
 al:∀ c∈b,ck c=2∨ck c=3
 le:b.length≤20
structure NmOK (s:η):Prop where
 al:Alp s.data.toList
 nw:rp s=some false
structure WdOK (s:η):Prop where
 al:Alp s.data.toList
 w:rp s=some true
def lev (op:Int):Nat:=if op=7∨op=8∨op=9 then 5 else if op=10∨op=11 then 4 else if op=12∨op=13 then 3 else if op=14∨op=15 then 2 else if op=16 then 1 else if op=17 then 0 else 6
def xC (op:Int):η:=if op=7 then ⟨#[42]⟩ else if op=8 then ⟨#[47]⟩ else if op=9 then ⟨#[37]⟩ else if op=10 then ⟨#[43]⟩ else if op=11 then ⟨#[45]⟩ else if op=12 then ⟨#[60]⟩ else if op=13 then ⟨#[60,61]⟩ else if op=14 then ⟨#[61,61]⟩ else if op=15 then ⟨#[33,61]⟩ else if op=16 then ⟨#[38,38]⟩ else if op=17 then ⟨#[124,124]⟩ else ⟨#[]⟩
def Kid {op:Int}(h:lev op<6):op=7∨op=8∨op=9∨op=10∨op=11∨op=12∨op=13∨op=14∨op=15∨op=16∨op=17:=by
 unfold lev at h;repeat' split at h
 all_goals omega
def nL (row:Nat)(x:Nat×List Pc):List Pc:=if x.1<row then mk ⟨#[40]⟩::(x.2++[mk ⟨#[41]⟩]) else x.2
def rE (op n:Int)(s:η):List (Nat×List Pc)→List Pc
 | []=>if op=1 then [nb n] else if op=2 then [nm s] else if op=18 then [mk ⟨#[110,117,108,108]⟩] else if op=4 then [mk ⟨#[42]⟩,nm s] else [mk ⟨#[38]⟩,nm s]
 | [k]=>if op=3 then nm s::mk ⟨#[91]⟩::(k.2++[mk ⟨#[93]⟩]) else if op=20 then mk ⟨#[38]⟩::nm s::mk ⟨#[91]⟩::(k.2++[mk ⟨#[93]⟩]) else if op=5 then mk ⟨#[45]⟩::nL 6 k else mk ⟨#[33]⟩::nL 6 k
 | k::q::_=>nL (lev op) k++(.sp 32::mk (xC op)::.sp 32::nL (lev op+1) q)
mutual
def pE:Kf→List Pc
 | ⟨op,n,s,ks,_⟩=>rE op n s (k6 ks)
def k6:List Kf→List (Nat×List Pc)
 | []=>[]
 | e::l=>(lev e.gj,pE e)::k6 l
end
abbrev oG (row:Nat)(e:Kf):List Pc:=nL row (lev e.gj,pE e)
inductive VE:Kf→Prop
 | num (n a:Int):0≤n→n≤9223372036854775807→VE ⟨1,n,ε,[],a⟩
 | var (s a):NmOK s→VE ⟨2,0,s,[],a⟩
 | null (a):VE ⟨18,0,ε,[],a⟩
 | load (s a):NmOK s→VE ⟨4,0,s,[],a⟩
 | addr (s a):NmOK s→VE ⟨19,0,s,[],a⟩
 | index (s k a):NmOK s→VE k→VE ⟨3,0,s,[k],a⟩
 | addrAt (s k a):NmOK s→VE k→VE ⟨20,0,s,[k],a⟩
 | neg (k a):VE k→VE ⟨5,0,ε,[k],a⟩
 | not (k a):VE k→VE ⟨6,0,ε,[k],a⟩
 | bin (op l r a):lev op<6→VE l→VE r→VE ⟨op,0,ε,[l,r],a⟩
def pw {op:Int}(h:lev op<6)(n:Int)(s:η)(l r:Kf)(a:Int):pE ⟨op,n,s,[l,r],a⟩=oG (lev op) l++(.sp 32::mk (xC op)::.sp 32::oG (lev op+1) r):=by simp only [pE,k6,rE]
def u7 (e:Kf):lev e.gj≤6:=by
 unfold lev;repeat' split
 all_goals omega
def vh {k:Nat}{x:Nat×List Pc}(h:k≤x.1):nL k x=x.2:=by unfold nL;rw [aF (by omega)]
def zV {k:Nat}{x:Nat×List Pc}(h:x.1<k):nL k x=mk ⟨#[40]⟩::(x.2++[mk ⟨#[41]⟩]):=by unfold nL;rw [aQ h]
def VX (e:Kf):Prop:=VE e∧dpE e≤24
mutual
inductive VS:Nat→Kk→Prop
 | assign (d s e a):NmOK s→VX e→VS d ⟨1,s,ε,[e],[],[],a⟩
 | put (d s e f a):NmOK s→VX e→VX f→VS d ⟨2,s,ε,[e,f],[],[],a⟩
 | store (d s e a):NmOK s→VX e→VS d ⟨3,s,ε,[e],[],[],a⟩
 | call (d f es a):NmOK f→(∀ e∈es,VX e)→VS d ⟨4,ε,f,es,[],[],a⟩
 | callTo (d s f es a):NmOK s→NmOK f→(∀ e∈es,VX e)→VS d ⟨4,s,f,es,[],[],a⟩
 | input (d s a):NmOK s→VS d ⟨5,s,ε,[],[],[],a⟩
 | ret (d e a):VX e→VS d ⟨8,ε,ε,[e],[],[],a⟩
 | assert (d e a):VX e→VS d ⟨9,ε,ε,[e],[],[],a⟩
 | ite (d e ks ls a):VX e→VSs d ks→VSs d ls→VS (d+1) ⟨6,ε,ε,[e],ks,ls,a⟩
 | loop (d e ks a):VX e→VSs d ks→VS (d+1) ⟨7,ε,ε,[e],ks,[],a⟩
inductive VSs:Nat→List Kk→Prop
 | nil (d):VSs d []
 | cons (d s l):VS d s→VSs d l→VSs d (s::l)
end
def oS {d:Nat}{l:List Kk}{s:Kk}(h:VSs d l)(hs:VS d s):VSs d (l++[s]):=by
 induction l with
 | nil=>exact .cons _ _ _ hs (.nil _)
 |
  cons x l ih=>cases h with
  | cons _ _ _ h1 h2=>exact .cons _ _ _ h1 (ih h2)
structure VF (f:KC):Prop where
 nm:NmOK f.gb
 ps:∀ v∈f.gh,NmOK v.gb
 ls:∀ v∈f.gi,NmOK v.gb
 many:f.gh.length+f.gi.length≤16
 body:VSs 23 f.gx
 size:szSs f.gx≤1048576
structure VG (g:KR):Prop where
 nm:NmOK g.gb
 ptr:g.gA=true→g.gC=0
 lo:0≤g.gC
 hi:g.gC≤1000
def jm:List (List Pc)→List Pc
 | []=>[]
 | [x]=>x
 | x::y::l=>x++(mk ⟨#[44]⟩::.sp 32::jm (y::l))
def jy (d:Nat)(l:List Pc):List Pc:=aV d (.sp 9)++(l++[.sp 10])
def pF (op:Int)(s f:η)(es:List (List Pc)):List Pc:=
 if op=4 then (if s=ε then [] else [nm s,.sp 32,mk ⟨#[61]⟩,.sp 32])++(nm f::mk ⟨#[40]⟩::(jm es++[mk ⟨#[41]⟩,mk ⟨#[59]⟩]))
 else if op=5 then [nm s,.sp 32,mk ⟨#[61]⟩,.sp 32,mk ⟨#[105,110,112,117,116]⟩,mk ⟨#[40]⟩,mk ⟨#[41]⟩,mk ⟨#[59]⟩]
 else match es with
 | [x]=>if op=1 then nm s::.sp 32::mk ⟨#[61]⟩::.sp 32::(x++[mk ⟨#[59]⟩]) else if op=3 then mk ⟨#[42]⟩::nm s::.sp 32::mk ⟨#[61]⟩::.sp 32::(x++[mk ⟨#[59]⟩]) else if op=8 then mk ⟨#[114,101,116,117,114,110]⟩::.sp 32::(x++[mk ⟨#[59]⟩]) else mk ⟨#[97,115,115,101,114,116]⟩::mk ⟨#[40]⟩::(x++[mk ⟨#[41]⟩,mk ⟨#[59]⟩])
 | x::y::_=>nm s::mk ⟨#[91]⟩::(x++(mk ⟨#[93]⟩::.sp 32::mk ⟨#[61]⟩::.sp 32::(y++[mk ⟨#[59]⟩])))
 | []=>[]
def pH (op:Int)(es:List (List Pc)):List Pc:=(if op=6 then mk ⟨#[105,102]⟩ else mk ⟨#[119,104,105,108,101]⟩)::.sp 32::mk ⟨#[40]⟩::(es.headD []++[mk ⟨#[41]⟩,.sp 32,mk ⟨#[123]⟩])
mutual
def pS (d:Nat):Kk→List Pc
 | ⟨op,s,f,es,ks,ls,_⟩=>if op=6∨op=7 then jy d (pH op (es.map pE))++(ip (d+1) ks++((if ls.isEmpty then [] else jy d [mk ⟨#[125]⟩,.sp 32,mk ⟨#[101,108,115,101]⟩,.sp 32,mk ⟨#[123]⟩]++ip (d+1) ls)++jy d [mk ⟨#[125]⟩])) else jy d (pF op s f (es.map pE))
def ip (d:Nat):List Kk→List Pc
 | []=>[]
 | s::l=>pS d s++ip d l
end
def pV (v:KZ):List Pc:=mk ⟨#[105,110,116]⟩::.sp 32::(if v.gA then [mk ⟨#[42]⟩,nm v.gb] else [nm v.gb])
def j5 (l:List KZ):List Pc:=l.flatMap fun v=>jy 1 (pV v++[mk ⟨#[59]⟩])
def qB (f:KC):List Pc:=jy 0 (mk ⟨#[105,110,116]⟩::.sp 32::nm f.gb::mk ⟨#[40]⟩::(jm (f.gh.map pV)++[mk ⟨#[41]⟩,.sp 32,mk ⟨#[123]⟩]))++(j5 f.gi++(ip 1 f.gx++jy 0 [mk ⟨#[125]⟩]))
def r1 (g:KR):List Pc:=pV ⟨g.gb,g.gA⟩++(if g.gA=false∧0<g.gC then [mk ⟨#[91]⟩,nb g.gC,mk ⟨#[93]⟩,mk ⟨#[59]⟩,.sp 10] else [mk ⟨#[59]⟩,.sp 10])
end
end Go.Proofs.YticifeeokcgfkaaGreatDoor.Ab