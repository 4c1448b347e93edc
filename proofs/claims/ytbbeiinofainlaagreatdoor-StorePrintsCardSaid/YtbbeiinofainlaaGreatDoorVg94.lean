/- The texts that storePrintsCard_holds leans on, part 4. -/
import Derived.Test.YtbbeiinofainlaaGreatDoorVg93
set_option linter.all false
set_option maxRecDepth 100000
set_option maxHeartbeats 80000000
noncomputable section
namespace Go.Proofs.YtbbeiinofainlaaGreatDoor.Ab
section
open Go
set_option maxRecDepth 100000
abbrev iD (x:Int):D:=.v (.int .i64 x)
abbrev tD (x:ByteArray):D:=.v (.string x)
structure K3 where
 ga:ByteArray
 gz:Bool
def Ku (x:K3):D:=.agg [tD x.ga,.v (.bool x.gz)]
structure Ke where
 gj:Int
 gN:Int
 ga:ByteArray
 gc:List Ke
 gb:Int
mutual
def Kk:Ke→D
 | ⟨a,f1,b,c,d⟩=>.agg [iD a,iD f1,tD b,.lst 5 (Kft c) .no,iD d]
def Kft:List Ke→List D
 | []=>[]
 | x::l=>Kk x::Kft l
end
theorem Kjr:∀ l,Kft l=l.map Kk
 | []=>by simp [Kft]
 | x::l=>by simp only [Kft,List.map_cons,Kjr l]
abbrev CZ0 (x:Ke)(c0:Cap):List D:=[iD x.gj,iD x.gN,tD x.ga,.lst 5 (x.gc.map Kk) c0,iD x.gb]
theorem Ko (x:Ke):Kk x=.agg (CZ0 x .no):=by
 cases x;simp only [Kk,Kjr]
theorem mk145:KeyOK Tryz.prog 9 (fun s:ByteArray=>Value.string s):=str_key (by kernel_rfl)
theorem mz145:(Tryz.prog.info? 3).bind (·.zero)=some (.int .i64 (0:Int)):=by kernel_rfl
theorem mr145 (H:Hp):Rep H (eI64 (0:Int)) (.int .i64 (0:Int)):=rep_v rfl
def Kc1 (a0:Ke)(a:Int):Option ((Int×Int)⊕(Unit)):=
 (bif (a != (1:Int)) then ((KbL a0.gb (9:Int)).bind fun b=>Sum.elim (fun c=>some (.inl c)) (fun d=>some (.inr ())) b) else some (.inr ()))
theorem Zv {R G:Prop}(h:R)(k:R→G:=by intro h;refine pu ?_;refine Kb ?_;exact h):G:=k h
theorem ZH {G:Prop}{b:Sort _}{R:(u:b)→Prop}(h:∀ u,R u)(k:(∀ u,R u)→G:=by intro h;refine Kd ?_;refine p_box rfl rfl rfl rfl rfl rfl rfl (fun _l=>?_);exact h _l):G:=k h
theorem Zo {R G:Prop}(h:R)(k:R→G:=by intro h;refine KH ?_;refine pu ?_;exact h):G:=k h
theorem Zk {A0 G:Prop}{b:Sort _}{R:(u:b)→Prop}(a0:A0)(h:∀ u,R u)(k:A0→(∀ u,R u)→G:=by intro _a h;simp only [Sum.elim_inr] at _a;exact h _a):G:=k a0 h
theorem ZN {R G:Prop}(h:R)(k:R→G:=by intro h;refine Kz ?_;refine pu ?_;exact h):G:=k h
theorem Zj {A0 G:Prop}{b:Sort _}{R:(u:b)→Prop}(a0:A0)(h:∀ u,R u)(k:A0→(∀ u,R u)→G:=by intro _a h;simp only [Sum.elim_inl] at _a;exact h _a):G:=k a0 h
theorem XG {A0 G:Prop}(a0:A0)(k:A0→G:=by intro _a;obtain rfl:=Kf _a;refine Kcw ?_;refine rP (t':=[]) [] [] 0 wN lN ?_;exact Za):G:=k a0
theorem XH {G:Prop}{b:Sort _}{R:(u:b)→Prop}(h:∀ u,R u)(k:(∀ u,R u)→G:=by intro h;refine w_eq (i:=0) rfl (Wk.of_eq (Ko _)) ?_;refine ZH fun _l=>?_;exact h _l):G:=k h
theorem PZ0 {A0 A1 G:Prop}{S0:Sort _}{S1:(u:S0)→Sort _}{R:(u:S0)→(v:S1 u)→Prop}(a0:A0)(c:A1)(h:∀ u v,R u v)(k:A0→A1→(∀ u v,R u v)→G:=by intro w f h;have v:=KE w;refine Kfs htab f rfl rfl rfl rfl rfl (fun u=>?_);exact h u v):G:=k a0 c h
theorem KbZ (a0:Ke)(c:Int)(r:(Int×Int)⊕(Unit))(h0:Kc1 a0 c=some r):KbV zc Tryz.prog 118 [Kk a0,iD c] [] [] r (fun r d h k=>d=.tup []∧h=[]∧k=[]):=by
 refine PZ0 h0 Tryz.func118 fun C a=>?_;refine XH fun m=>?_;refine Zo ?_;refine Zv ?_;refine cY a (fun a=>?_) fun a=>?_
 ·refine ZN ?_;refine pL 0 ?_;obtain ⟨g,e,a⟩:=Ka a;rcases g with j|l
  ·refine Zj a fun a=>?_;refine Kbg (Kbn a0.gb (9:Int) (.inl j) e) rfl rfl rfl Wl Pf Pf ?_;obtain rfl:=Kf a;exact KaI
  refine Zk a fun a=>?_;refine K5 (Kbn a0.gb (9:Int) (.inr l) e) rfl rfl rfl rfl rfl Wl ?_;rintro _ rfl;refine KC ?_;exact XG a
 refine Kx ?_;exact XG a
def Kfn (a0:Int)(b:Int)(c:List Int):Option ((Int×Int)⊕(Int)):=
 (Option.bind (α:=(Unit)⊕((Int×Int)⊕(Int))) (bif (a0==(0:Int)) then ((KbL b (7:Int)).bind fun d=>Sum.elim (fun e=>some (.inr (.inl e))) (fun i=>some (.inl ())) d) else some (.inl ())) (Sum.elim (fun j=>(Option.bind (α:=(Unit)⊕((Int×Int)⊕(Int))) (loopM (fun (a:Int)=>(bif (decide (a < (c.length:Int))) then ((idx c a).bind fun f=>(bif (f==a0) then some (.done (.inr (.inr a0))) else some (.next (IntKind.i64.wrap (a+(1:Int)))))) else some (.done (.inl ())))) (0:Int)) (Sum.elim (fun k=>((KbL b (9:Int)).bind fun g=>Sum.elim (fun h=>some (.inl h)) (fun l=>some (.inr (0:Int))) g)) (fun r=>some r)))) (fun r=>some r)))
theorem Zd {R G:Prop}(h:R)(k:R→G:=by intro h;refine Kd ?_;refine pu ?_;exact h):G:=k h
theorem Yk {R G:Prop}(h:R)(k:R→G:=by intro h;refine Kax htab rfl rfl rfl rfl rfl rfl rfl (by first|exact K2|rfl) ?_;exact h):G:=k h
theorem Zu {R G:Prop}(h:R)(k:R→G:=by intro h;refine Zv ?_;refine Kr ?_;exact h):G:=k h
theorem Y1 {A0 R G:Prop}(a0:A0)(h:R)(k:A0→R→G:=by intro _a h;refine KK ?_;refine Kc ?_;refine Kz ?_;refine pu ?_;refine pu ?_;refine KC ?_;refine Kc ⟨_,Kaw _a,?_⟩;exact h):G:=k a0 h
theorem ZX {A0 G:Prop}{b:Sort _}{c:(u:b)→Sort _}{f:(u:b)→(v:c u)→Sort _}{R:(u:b)→(v:c u)→(x:f u v)→Prop}(a0:A0)(h:∀ u v x,R u v x)(k:A0→(∀ u v x,R u v x)→G:=by intro _a h;obtain ⟨_l,_m,_n⟩:=Ka _a;refine Ka3 htab rfl rfl rfl rfl rfl rfl rfl rfl rfl rfl (Ks _m) (KD _m) ?_;exact h _l _m _n):G:=k a0 h
theorem ZO {R G:Prop}(h:R)(k:R→G:=by intro h;refine Kx ?_;refine Kc ?_;refine Km ?_;exact h):G:=k h
theorem ZT {R G:Prop}(h:R)(k:R→G:=by intro h;refine Zu ?_;refine KI ?_;refine Ky ?_;exact h):G:=k h
theorem Zz {R G:Prop}(h:R)(k:R→G:=by intro h;refine Zv ?_;refine Km ?_;exact h):G:=k h
theorem Ze {R G:Prop}(h:R)(k:R→G:=by intro h;refine Zd ?_;refine Zv ?_;exact h):G:=k h
theorem Zb {A0 G:Prop}{b:Sort _}{R:(u:b)→Prop}(a0:A0)(h:∀ u,R u)(k:A0→(∀ u,R u)→G:=by intro _a h;refine Kc ?_;refine KX _a (fun _l=>?_);exact h _l):G:=k a0 h
theorem Yd {A0 G:Prop}(a0:A0)(k:A0→G:=by intro _a;simp only [Sum.elim_inr] at _a;refine Kab ?_;obtain rfl:=Kf _a;exact KaI):G:=k a0
theorem Zn {R G:Prop}(h:R)(k:R→G:=by intro h;refine Kd ?_;refine Zz ?_;exact h):G:=k h
theorem Zs {R G:Prop}(h:R)(k:R→G:=by intro h;refine Kas ?_;refine KM ?_;exact h):G:=k h
theorem Z0 {R G:Prop}(h:R)(k:R→G:=by intro h;refine ZO ?_;refine KJ ?_;exact h):G:=k h
theorem ZF {R G:Prop}(h:R)(k:R→G:=by intro h;refine Yk ?_;refine Zv ?_;exact h):G:=k h
theorem Zy {A0 G:Prop}{b:Sort _}{c:(u:b)→Sort _}{f:(u:b)→(v:c u)→Sort _}{R:(u:b)→(v:c u)→(x:f u v)→Prop}(a0:A0)(h:∀ u v x,R u v x)(k:A0→(∀ u v x,R u v x)→G:=by intro _a h;refine KJ ?_;obtain ⟨_l,_m,_n⟩:=yes_m _a;exact h _l _m _n):G:=k a0 h
theorem Yt {R G:Prop}(h:R)(k:R→G:=by intro h;refine KH ?_;(iterate 3 refine pu ?_);exact h):G:=k h
theorem YF {G:Prop}(k:G:=by exact wO (wP (wC (wC (wC (wC (wC wN))))))):G:=k
theorem Y2 {G:Prop}(k:G:=by exact wO (wP (wC (wC (wC wN))))):G:=k
theorem Z7 {A0 G:Prop}{b:Sort _}{c:(u:b)→Sort _}{f:(u:b)→(v:c u)→Sort _}{R:(u:b)→(v:c u)→(x:f u v)→Prop}(a0:A0)(h:∀ u v x,R u v x)(k:A0→(∀ u v x,R u v x)→G:=by intro _a h;refine Z0 ?_;refine Kd ?_;refine ZX _a fun _l _m _n=>?_;exact h _l _m _n):G:=k a0 h
theorem ZQ {R G:Prop}(h:R)(k:R→G:=by intro h;refine Ky ?_;refine KI ?_;exact h):G:=k h
theorem YG {A0 G:Prop}(a0:A0)(k:A0→G:=by intro _a;refine Kab ?_;obtain rfl:=Kf _a;exact KaI):G:=k a0
theorem YU {R G:Prop}(h:R)(k:R→G:=by intro h;refine KaK htab rfl rfl rfl rfl rfl rfl rfl rfl ?_;exact h):G:=k h
theorem Z9 {R G:Prop}(h:R)(k:R→G:=by intro h;refine KM ?_;refine Kan ?_;exact h):G:=k h
theorem ZD {A0 G:Prop}{b:Sort _}{c:(u:b)→Sort _}{f:(u:b)→(v:c u)→Sort _}{R:(u:b)→(v:c u)→(x:f u v)→Prop}(a0:A0)(h:∀ u v x,R u v x)(k:A0→(∀ u v x,R u v x)→G:=by intro _a h;refine Zd ?_;obtain ⟨_l,_m,_n⟩:=Ka _a;exact h _l _m _n):G:=k a0 h
theorem Z1 {A0 G:Prop}{b:Sort _}{R:(u:b)→Prop}(a0:A0)(h:∀ u,R u)(k:A0→(∀ u,R u)→G:=by intro _a h;refine Zk _a fun _l=>?_;refine Ky ?_;exact h _l):G:=k a0 h
theorem XY {A0 G:Prop}(a0:A0)(k:A0→G:=by intro _a;obtain rfl:=Kf _a;refine Kat ?_;exact Y2):G:=k a0
theorem KfB (a0:Int)(e:Int)(g:List Int)(r:(Int×Int)⊕(Int))(h0:Kfn a0 e g=some r):KbV zc Tryz.prog 131 [iD a0,iD e,.lst 1 (g.map eI64) .no] [] [] r (fun r d h k=>d=iD r∧h=[]∧k=[]):=by
 refine PZ0 h0 Tryz.func131 fun C a=>?_;refine Zn ?_;refine Ze ?_;obtain ⟨s,l,i⟩:=Ka a;refine KaG (τ:=Unit) (Y:=Unit) (fun t w=>(⟨[(0,iD a0),(1,iD e),(2,.lst 1 (g.map eI64) .no)],[],[]⟩:S)) s ?_ ?_
 ·clear a;have a:=KE l;refine cY a (fun a=>?_) fun a=>?_
  ·refine ZN ?_;obtain ⟨y,m,a⟩:=Ka a;rcases y with z|A
   ·refine Zj a fun a=>?_;refine Kbg (Kbn e (7:Int) (.inl z) m) rfl rfl rfl Wl Pf Pf ?_;obtain rfl:=Kf a;refine Kar ?_;have a:=i;exact Yd a
   refine Zk a fun a=>?_;refine K5 (Kbn e (7:Int) (.inr A) m) rfl rfl rfl rfl rfl Wl ?_;rintro _ rfl;refine KC ?_;exact XY a
  refine Kx ?_;exact XY a
 intro t P B D;subst B;have a:=i;refine Zj a fun a=>?_;clear l i;refine Zb D fun w=>?_;refine Km ?_;refine Zd ?_;refine ZF ?_;obtain ⟨E,n,j⟩:=Ka a;refine KaG (τ:=Unit) (Y:=Unit) (fun F H=>(⟨[(1,iD e)],[],[]⟩:S)) E ?_ ?_
 ·clear a;have a:=KE n;refine Zy a fun Q I o=>?_;refine KaO (Y:=Unit) I (fun p J=>(⟨[(0,iD a0),(1,iD e),(13,.lst 1 (g.map eI64) .no),(14,iD (g.length:Int)),(15,iD p)],[],[]⟩:S)) ?_ ?_
  ·skip
   exact YF
  intro G21 p J a;refine Zn ?_;refine cY a (fun a=>?_) fun a=>?_
  ·refine Z7 a fun T U a=>?_;refine YU ?_;refine pu ?_;refine Yt ?_
   refine Kb ?_;refine cY a (fun a=>?_) fun a=>?_
   ·refine Zd ?_;refine ZT ?_;obtain rfl:=K6 a;have a:=o
    refine ZQ ?_;obtain rfl:=Kf a;refine Ka4 ?_;have a:=j;refine Z1 a fun a=>?_
    obtain rfl:=Kf a;refine Kcw ?_;refine rP (t':=[(6,iD a0)]) [] [] 0 (wC wN) (lT lN) ?_;exact Za
   refine Kx ?_;refine Y1 a ?_;exact YF
  refine Zs ?_;obtain rfl:=K6 a;have a:=o
  refine Z9 ?_;obtain rfl:=Kf a;refine Kat ?_;exact wO (wP (wC wN))
 intro F V K L;subst K;have a:=j;refine Zj a fun a=>?_;clear n j;refine Zb L fun H=>?_;refine ZD a fun M q a=>?_;rcases M with N|O
 ·refine Zj a fun a=>?_;refine Kbg (Kbn e (9:Int) (.inl N) q) rfl rfl rfl Wl Pf Pf ?_;exact YG a
 refine Zk a fun a=>?_;refine K5 (Kbn e (9:Int) (.inr O) q) rfl rfl rfl rfl rfl Wl ?_;rintro _ rfl;refine KH ?_;refine Zu ?_;obtain rfl:=Kf a;refine Kcw ?_;refine rP (t':=[(6,iD (0:Int))]) [] [] 0 (wC wN) (lT lN) ?_;exact Za
def Kdy (a0:Bool):Option (Int):=
 (bif a0 then some (2:Int) else some (1:Int))
theorem Zm {R G:Prop}(h:R)(k:R→G:=by intro h;refine Kx ?_;refine Kc ?_;exact h):G:=k h
theorem Wi {A0 G:Prop}(a0:A0)(k:A0→G:=by intro _a;obtain rfl:=Kf _a;refine rP (t':=[(2,iD (1:Int))]) [] [] 0 (wC wN) (lT lN) ?_;exact Za):G:=k a0
theorem ZY {R G:Prop}(h:R)(k:R→G:=by intro h;refine Kd ?_;refine Zu ?_;exact h):G:=k h
theorem XI {A0 G:Prop}(a0:A0)(k:A0→G:=by intro _a;obtain rfl:=Kf _a;refine rP (t':=[(2,iD (2:Int))]) [] [] 0 (wC wN) (lT lN) ?_;exact Za):G:=k a0
theorem Ye {R G:Prop}(h:R)(k:R→G:=by intro h;refine ZY ?_;refine Ky ?_;exact h):G:=k h
theorem Yx {R G:Prop}(h:R)(k:R→G:=by intro h;refine Kd ?_;refine Zv ?_;exact h):G:=k h
theorem PZ1 {A0 A1 G:Prop}{S0:Sort _}{S1:(u:S0)→Sort _}{R:(u:S0)→(v:S1 u)→Prop}(a0:A0)(b:A1)(h:∀ u v,R u v)(k:A0→A1→(∀ u v,R u v)→G:=by intro w c h;have v:=KE w;refine KV htab c rfl rfl rfl rfl rfl (fun u=>?_);exact h u v):G:=k a0 b h
theorem Kgj (a0 r)(h0:Kdy a0=some r):CallsD Tryz.prog 114 [.v (.bool a0)] [] [] (fun d h k=>d=iD r∧h=[]∧k=[]):=by
 refine PZ1 h0 Tryz.func114 fun C a=>?_;refine Zn ?_;refine Yx ?_;refine cY a (fun a=>?_) fun a=>?_
 ·refine Ye ?_;exact XI a
 refine Zm ?_;refine ZY ?_;exact Wi a
structure Kfe where
 g0:List K3
 g1:List K3
def Ke3 (x:Kfe):D:=.agg [.lst 2 (x.g0.map Ku) .no,.lst 2 (x.g1.map Ku) .no]
structure KT where
 ga:ByteArray
 gz:Bool
 gA:Int
 gb:Int
abbrev CZ1 (x:KT):List D:=[tD x.ga,.v (.bool x.gz),iD x.gA,iD x.gb]
def Kt (x:KT):D:=.agg (CZ1 x)
structure Kj where
 gj:Int
 ga:ByteArray
 gu:ByteArray
 go:List Ke
 gc:List Kj
 gq:List Kj
 gb:Int
mutual
def Kh:Kj→D
 | ⟨a,f1,b,c,d,e,f⟩=>.agg [iD a,tD f1,tD b,.lst 5 (c.map Kk) .no,.lst 7 (KeS d) .no,.lst 7 (KeS e) .no,iD f]
def KeS:List Kj→List D
 | []=>[]
 | x::l=>Kh x::KeS l
end
theorem Kjs:∀ l,KeS l=l.map Kh
 | []=>by simp [KeS]
 | x::l=>by simp only [KeS,List.map_cons,Kjs l]
abbrev CZ2 (x:Kj)(c0 c1 c2:Cap):List D:=[iD x.gj,tD x.ga,tD x.gu,.lst 5 (x.go.map Kk) c0,.lst 7 (x.gc.map Kh) c1,.lst 7 (x.gq.map Kh) c2,iD x.gb]
theorem Kv (x:Kj):Kh x=.agg (CZ2 x .no .no .no):=by
 cases x;simp only [Kh,Kjs]
structure KG where
 ga:ByteArray
 gf:List K3
 gh:List K3
 gp:List Kj
 gb:Int
abbrev CZ3 (x:KG)(c0 c1 c2:Cap):List D:=[tD x.ga,.lst 2 (x.gf.map Ku) c0,.lst 2 (x.gh.map Ku) c1,.lst 7 (x.gp.map Kh) c2,iD x.gb]
def KA (x:KG):D:=.agg (CZ3 x .no .no .no)
structure KL where
 gd:List KT
 gi:List KG
abbrev CZ4 (x:KL)(c0 c1:Cap):List D:=[.lst 4 (x.gd.map Kt) c0,.lst 5 (x.gi.map KA) c1]
def Kbo (x:KL):D:=.agg (CZ4 x .no .no)
structure KS where
 gP:KL
 gF:KG
def Kag (x:KS):D:=.agg [.lst 4 (x.gP.gd.map Kt) .no,.lst 5 (x.gP.gi.map KA) .no,tD x.gF.ga,.lst 2 (x.gF.gf.map Ku) .no,.lst 2 (x.gF.gh.map Ku) .no,.lst 7 (x.gF.gp.map Kh) .no,iD x.gF.gb]
def Kdk (a0:KS)(e:ByteArray):Option (Int):=
 (Option.bind (α:=(Unit)⊕(Int)) (loopM (fun (a:Int)=>(bif (decide (a < (2:Int))) then ((idx ([a0.gF.gf,a0.gF.gh]:List (List K3)) a).bind fun c=>(Option.bind (α:=(Unit)⊕(Int)) (loopM (fun (b:Int)=>(bif (decide (b < (c.length:Int))) then ((idx c b).bind fun d=>(bif (decide (d.ga=e)) then ((Kdy d.gz).bind fun f=>some (.done (.inr f))) else some (.next (IntKind.i64.wrap (b+(1:Int)))))) else some (.done (.inl ())))) (0:Int)) (Sum.elim (fun g=>some (.next (IntKind.i64.wrap (a+(1:Int))))) (fun r=>some (.done (.inr r)))))) else some (.done (.inl ())))) (0:Int)) (Sum.elim (fun h=>some (0:Int)) (fun r=>some r)))
theorem Zq {G:Prop}{f:Sort _}{R:(u:f)→Prop}(h:∀ u,R u)(k:(∀ u,R u)→G:=by intro h;refine Kai htab rfl rfl rfl rfl rfl rfl rfl (fun _l=>?_);exact h _l):G:=k h
theorem Zl {R G:Prop}(h:R)(k:R→G:=by intro h;refine pu ?_;refine pu ?_;exact h):G:=k h
theorem Yn {A0 G:Prop}(a0:A0)(k:A0→G:=by intro _a;refine KM ?_;refine Kan ?_;obtain rfl:=Kf _a;refine Kat ?_;exact wO (wP wN)):G:=k a0
theorem ZM {R G:Prop}(h:R)(k:R→G:=by intro h;refine Zd ?_;refine pu ?_;exact h):G:=k h
theorem YB {G:Prop}(k:G:=by exact wO (wP (wC (wC (wC (wC (wC (wC wN)))))))):G:=k
theorem XZ {G:Prop}(k:G:=by refine rP (t':=[(4,iD _)]) [] [] 0 (wC wN) (lT lN) ?_;exact Za):G:=k
theorem ZR {R G:Prop}(h:R)(k:R→G:=by intro h;refine Zd ?_;refine pL 0 ?_;exact h):G:=k h
theorem X0 {A0 G:Prop}(a0:A0)(k:A0→G:=by intro _a;refine ZY ?_;obtain rfl:=Kf _a;refine rP (t':=[(4,iD (0:Int))]) [] [] 0 (wC wN) (lT lN) ?_;exact Za):G:=k a0
theorem ZU {R G:Prop}(h:R)(k:R→G:=by intro h;refine Kz ?_;refine Zl ?_;exact h):G:=k h
theorem Yo {R G:Prop}(h:R)(k:R→G:=by intro h;refine pu ?_;refine Zo ?_;exact h):G:=k h
theorem X1 {G:Prop}{f:Sort _}{R:(u:f)→Prop}(h:∀ u,R u)(k:(∀ u,R u)→G:=by intro h;refine KaK (d:=Ku _) htab rfl rfl rfl rfl rfl rfl rfl rfl ?_;refine Zq fun _l=>?_;exact h _l):G:=k h
theorem YP {R G:Prop}(h:R)(k:R→G:=by intro h;refine Zo ?_;refine pL 0 ?_;exact h):G:=k h
theorem Wj {A0 G:Prop}(a0:A0)(k:A0→G:=by intro _a;refine KC ?_;refine Kc ⟨_,Kaw _a,?_⟩;exact Y2):G:=k a0
theorem Kgk (a0 b r)(h0:Kdk a0 b=some r):CallsD Tryz.prog 130 [Kag a0,tD b] [] [] (fun d h k=>d=iD r∧h=[]∧k=[]):=by
 refine PZ1 h0 Tryz.func130 fun C a=>?_;refine ZH fun N=>?_;refine Zz ?_;refine ZM ?_;refine pL 0 ?_;refine Zl ?_;refine pL 0 ?_;refine p_buildA (r:=[.lst 2 (a0.gF.gf.map Ku) .no,.lst 2 (a0.gF.gh.map Ku) .no]) htab rfl rfl rfl rfl rfl rfl rfl rfl rfl ?_;refine Zv ?_;obtain ⟨t,n,g⟩:=Ka a;refine KaG (τ:=Unit) (Y:=Unit) (fun w x=>(⟨[],[],[]⟩:S)) t ?_ ?_
 ·clear a;have a:=KE n;refine Zy a fun O y o=>?_;refine KaO (Y:=Unit) y (fun c z=>(⟨[(1,tD b),(15,Ke3 (⟨a0.gF.gf,a0.gF.gh⟩:Kfe)),(16,iD c)],[],[]⟩:S)) ?_ ?_
  ·skip
   exact Y2
  intro G125 c z a;refine Zn ?_;refine cY a (fun a=>?_) fun a=>?_
  ·refine Z0 ?_;refine Kd ?_;obtain ⟨i,j,a⟩:=Ka a;refine p_idxA (d:=.lst 2 (i.map Ku) .no) htab rfl rfl rfl rfl rfl rfl rfl rfl rfl (Ks j) (idx_lt' j rfl) (part_at0 (e:=(eList 2 Ku)) (xs:=([a0.gF.gf,a0.gF.gh]:List (List K3))) rfl j) ?_;refine Yo ?_;refine ZF ?_;obtain ⟨A,p,l⟩:=Ka a
   refine KaG (τ:=Unit) (Y:=Unit) (fun B D=>(⟨[(1,tD b),(15,Ke3 (⟨a0.gF.gf,a0.gF.gh⟩:Kfe)),(16,iD c)],[],[]⟩:S)) A ?_ ?_
   ·clear a;have a:=KE p;refine Zy a fun P E q=>?_;refine KaO (Y:=Unit) E (fun s F=>(⟨[(1,tD b),(15,Ke3 (⟨a0.gF.gf,a0.gF.gh⟩:Kfe)),(16,iD c),(19,.lst 2 (i.map Ku) .no),(20,iD (i.length:Int)),(21,iD s)],[],[]⟩:S)) ?_ ?_
    ·skip
     exact YB
    intro G227 s F a;refine Zn ?_;refine cY a (fun a=>?_) fun a=>?_
    ·refine Z7 a fun m Q a=>?_;refine X1 fun T=>?_;refine pS0 (ds':=[tD m.ga,.v (.bool m.gz)]) ?_;refine YP ?_;refine pu ?_;refine Zv ?_;refine cY a (fun a=>?_) fun a=>?_
     ·refine ZR ?_;obtain ⟨H,I,a⟩:=Ka a;refine K5 (Kgj m.gz H I) rfl rfl rfl rfl rfl Wl ?_;rintro _ rfl;refine ZT ?_;obtain rfl:=K6 a;have a:=q
      refine ZQ ?_;obtain rfl:=Kf a;refine Ka4 ?_;have a:=l;refine Zk a fun a=>?_
      refine KI ?_;refine Ky ?_;obtain rfl:=K6 a;have a:=o
      refine ZQ ?_;obtain rfl:=Kf a;refine Ka4 ?_;have a:=g;refine Z1 a fun a=>?_
      obtain rfl:=Kf a;exact XZ
     refine Kx ?_;refine Y1 a ?_;exact YB
    refine Zs ?_;obtain rfl:=K6 a;have a:=q
    refine Z9 ?_;exact XY a
   intro B U J K;subst J;have a:=l;refine Zj a fun a=>?_;clear p l;refine KK ?_;refine Zb K fun D=>?_;refine ZU ?_;exact Wj a
  refine Zs ?_;obtain rfl:=K6 a;have a:=o
  exact Yn a
 intro w V L M;subst L;have a:=g;refine Zj a fun a=>?_;clear n g;refine Zb M fun x=>?_;exact X0 a
def KbW (a0:KS)(c:ByteArray):Option (Int):=
 (Option.bind (α:=(Unit)⊕(Int)) (loopM (fun (b:Int)=>(bif (decide (b < (a0.gP.gd.length:Int))) then ((idx a0.gP.gd b).bind fun a=>(bif (decide (a.ga=c)) then (Option.bind (α:=Bool) (bif (decide ((0:Int) < a.gA)) then some (!a.gz) else some false) fun d=>(bif d then some (.done (.inr (3:Int))) else ((Kdy a.gz).bind fun e=>some (.done (.inr e))))) else some (.next (IntKind.i64.wrap (b+(1:Int)))))) else some (.done (.inl ())))) (0:Int)) (Sum.elim (fun f=>some (0:Int)) (fun r=>some r)))
theorem ZE {R G:Prop}(h:R)(k:R→G:=by intro h;refine Kac rfl rfl rfl rfl rfl rfl ?_;exact h):G:=k h
theorem YC {A0 G:Prop}(a0:A0)(k:A0→G:=by intro _a;obtain rfl:=Kf _a;refine ⟨rfl,?_⟩;exact wO (wP (wC (wC wN)))):G:=k a0
theorem ZI {G:Prop}(k:G:=by exact wO (wP (wC (wC (wC (wC wN)))))):G:=k
theorem ZB {R G:Prop}(h:R)(k:R→G:=by intro h;refine Kal rfl rfl rfl rfl rfl rfl ?_;exact h):G:=k h
theorem Z2 {A0 G:Prop}(a0:A0)(k:A0→G:=by intro _a;refine KC ?_;exact YC _a):G:=k a0
theorem ZA {A0 G:Prop}{e:Sort _}{l:(u:e)→Sort _}{s:(u:e)→(v:l u)→Sort _}{R:(u:e)→(v:l u)→(x:s u v)→Prop}(a0:A0)(h:∀ u v x,R u v x)(k:A0→(∀ u v x,R u v x)→G:=by intro _a h;refine Km ?_;obtain ⟨_l,_m,_n⟩:=Ka _a;exact h _l _m _n):G:=k a0 h
theorem Xt {A0 G:Prop}(a0:A0)(k:A0→G:=by intro _a;refine Kx ?_;refine Y1 _a ?_;exact ZI):G:=k a0
theorem YV {R G:Prop}(h:R)(k:R→G:=by intro h;refine pu ?_;refine pL 0 ?_;exact h):G:=k h
theorem Kez (a0 f r)(h0:KbW a0 f=some r):CallsD Tryz.prog 101 [Kag a0,tD f] [] [] (fun d h k=>d=iD r∧h=[]∧k=[]):=by
 refine PZ1 h0 Tryz.func101 fun C a=>?_;refine ZH fun K=>?_;refine Zz ?_;refine ZM ?_;refine pL 0 ?_;refine ZF ?_;obtain ⟨t,m,b⟩:=Ka a;refine KaG (τ:=Unit) (Y:=Unit) (fun w y=>(⟨[],[],[]⟩:S)) t ?_ ?_
 ·clear a;have a:=KE m;refine Zy a fun L z g=>?_;refine KaO (Y:=Unit) z (fun n A=>(⟨[(1,tD f),(9,.lst 4 (a0.gP.gd.map Kt) .no),(10,iD (a0.gP.gd.length:Int)),(11,iD n)],[],[]⟩:S)) ?_ ?_
  ·skip
   exact ZI
  intro G35 n A a;refine Zn ?_;refine cY a (fun a=>?_) fun a=>?_
  ·refine Z7 a fun c M a=>?_;refine KaK (d:=Kt c) htab rfl rfl rfl rfl rfl rfl rfl rfl ?_;refine Zq fun o=>?_;refine pS0 (ds':=(CZ1 c)) ?_;refine YP ?_;refine pu ?_;refine Zv ?_;refine cY a (fun a=>?_) fun a=>?_
   ·refine Km ?_;refine ZA a fun B p q=>?_;refine Kaf (Y:=Unit) (fun D=>(⟨[(6,.ptr o 0),(26,.v (.bool B))],[(o,Blk.cells (CZ1 c) 74)],[]⟩:S)) ?_ ?_
    ·clear a;have a:=KE p;refine ZN ?_;refine pL 0 ?_;refine Zl ?_;refine KaH (i:=22) rfl (fun j=>?_) (fun j=>?_)
     ·replace a:=yes_t j a;refine YV ?_;refine pu ?_;refine ZB ?_;exact Z2 a
     replace a:=yes_f j a;iterate 3 refine pK ?_
     refine ZE ?_;exact Z2 a
    intro N E;have a:=q;clear p q;refine Zb E fun D=>?_;refine cY a (fun a=>?_) fun a=>?_
    ·refine ZY ?_;refine ZQ ?_;refine Ky ?_;obtain rfl:=K6 a;have a:=g
     refine ZQ ?_;obtain rfl:=Kf a;refine Ka4 ?_;have a:=b;refine Z1 a fun a=>?_
     obtain rfl:=Kf a;refine rP (t':=[(4,iD (3:Int))]) [] [] 0 (wC wN) (lT lN) ?_;exact Za
    refine Zm ?_;refine ZR ?_;obtain ⟨F,H,a⟩:=Ka a;refine K5 (Kgj c.gz F H) rfl rfl rfl rfl rfl Wl ?_;rintro _ rfl;refine ZT ?_;obtain rfl:=K6 a;have a:=g
    refine ZQ ?_;obtain rfl:=Kf a;refine Ka4 ?_;have a:=b;refine Z1 a fun a=>?_
    obtain rfl:=Kf a;exact XZ
   exact Xt a
  refine Zs ?_;obtain rfl:=K6 a;have a:=g
  exact Yn a
 intro w O I J;subst I;have a:=b;refine Zj a fun a=>?_;clear m b;refine Zb J fun y=>?_;exact X0 a
def KbF (a0:KS)(a:ByteArray)(c:Int)(d:List Int):Option ((Int×Int)⊕(Int)):=
 ((Kdk a0 a).bind fun b=>(Option.bind (α:=Int) (bif (b==(0:Int)) then ((KbW a0 a).bind fun e=>some e) else some b) fun f=>((Kfn f c d).bind fun g=>Sum.elim (fun h=>some (.inl h)) (fun i=>some (.inr i)) g)))
theorem Ut {A0 G:Prop}(a0:A0)(k:A0→G:=by intro _a;obtain rfl:=Kf _a;refine ⟨rfl,?_⟩;exact wO (wP (wC (wC (wC wN))))):G:=k a0
theorem ZS {R G:Prop}(h:R)(k:R→G:=by intro h;refine Kd ?_;(iterate 3 refine pu ?_);exact h):G:=k h
theorem Yu {R G:Prop}(h:R)(k:R→G:=by intro h;refine Kaa (d:=Kag _) 0 htab rfl rfl rfl rfl rfl rfl rfl rfl ?_;exact h):G:=k h
theorem Yy {A0 G:Prop}(a0:A0)(k:A0→G:=by intro _a;refine KC ?_;exact Ut _a):G:=k a0
theorem YH {A0 G:Prop}(a0:A0)(k:A0→G:=by intro _a;refine Kx ?_;exact Ut _a):G:=k a0
theorem YI {R G:Prop}(h:R)(k:R→G:=by intro h;refine pu ?_;refine KH ?_;exact h):G:=k h
theorem Y3 {R G:Prop}(h:R)(k:R→G:=by intro h;refine Zz ?_;refine Ze ?_;exact h):G:=k h
theorem KaP (a0:KS)(e:ByteArray)(b:Int)(c:List Int)(r:(Int×Int)⊕(Int))(h0:KbF a0 e b c=some r):KbV zc Tryz.prog 117 [Kag a0,tD e,iD b,.lst 1 (c.map eI64) .no] [] [] r (fun r d h k=>d=iD r∧h=[]∧k=[]):=by
 refine PZ0 h0 Tryz.func117 fun C a=>?_;refine ZH fun v=>?_;refine YI ?_;refine Yu ?_;refine pu ?_;obtain ⟨m,n,a⟩:=Ka a;refine K5 (Kgk a0 e m n) rfl rfl rfl rfl rfl Wl ?_;rintro _ rfl;refine Y3 ?_;obtain ⟨f,g,i⟩:=Ka a
 refine Kaf (Y:=Unit) (fun o=>(⟨[(2,iD b),(3,.lst 1 (c.map eI64) .no),(9,iD f)],[],[]⟩:S)) ?_ ?_
 ·clear a;have a:=KE g;refine cY a (fun a=>?_) fun a=>?_
  ·refine Kz ?_;refine Yu ?_;refine pu ?_;obtain ⟨p,q,a⟩:=Ka a;refine K5 (Kez a0 e p q) rfl rfl rfl rfl rfl Wl ?_;rintro _ rfl;refine pu ?_;exact Yy a
  exact YH a
 intro w s;have a:=i;clear g i;refine Zb s fun o=>?_;refine ZS ?_
 obtain ⟨t,j,a⟩:=Ka a;rcases t with u|l
 ·refine Zj a fun a=>?_;refine Kbg (KfB f b c (.inl u) j) rfl rfl rfl Wl Pf Pf ?_;exact YG a
 refine Zk a fun a=>?_;refine K5 (KfB f b c (.inr l) j) rfl rfl rfl rfl rfl Wl ?_;rintro _ rfl;refine Zu ?_;obtain rfl:=Kf a;refine Kcw ?_;refine rP (t':=[(8,iD l)]) [] [] 0 (wC wN) (lT lN) ?_;exact Za
def KcY (a0:KS)(a:Ke)(b:Int):Option ((Int×Int)⊕(Int)):=
 ((KbW a0 a.ga).bind fun c=>((Kdk a0 a.ga).bind fun d=>(Option.bind (α:=Int) (bif (d != (0:Int)) then some (2:Int) else some c) fun e=>((Kfn e a.gb ([b]:List Int)).bind fun f=>Sum.elim (fun g=>some (.inl g)) (fun h=>some (.inr (2:Int))) f))))
theorem ZJ {R G:Prop}(h:R)(k:R→G:=by intro h;refine p_lit htab rfl rfl rfl rfl rfl rfl rfl rfl rfl rfl rfl rfl rfl rfl ?_;exact h):G:=k h
theorem ZP {R G:Prop}(h:R)(k:R→G:=by intro h;refine pu ?_;refine pL 1 ?_;exact h):G:=k h
theorem YJ {G:Prop}{n:Sort _}{R:(u:n)→Prop}(h:∀ u,R u)(k:(∀ u,R u)→G:=by intro h;refine p_box rfl rfl rfl rfl rfl rfl rfl (fun _l=>?_);exact h _l):G:=k h
theorem Kdt (a0:KS)(b:Ke)(c:Int)(r:(Int×Int)⊕(Int))(h0:KcY a0 b c=some r):KbV zc Tryz.prog 141 [Kag a0,Kk b,iD c] [] [] r (fun r d h k=>d=iD r∧h=[]∧k=[]):=by
 refine PZ0 h0 Tryz.func141 fun C a=>?_;refine w_eq (i:=1) rfl (Wk.of_eq (Ko b)) ?_;refine ZH fun z=>?_;refine YJ fun f=>?_;refine YI ?_;refine Yu ?_;refine ZP ?_;obtain ⟨o,p,a⟩:=Ka a;refine K5 (Kez a0 b.ga o p) rfl rfl rfl rfl rfl Wl ?_;rintro _ rfl;refine Zz ?_;refine Kd ?_
 refine Yu ?_;refine ZP ?_;obtain ⟨q,s,a⟩:=Ka a;refine K5 (Kgk a0 b.ga q s) rfl rfl rfl rfl rfl Wl ?_;rintro _ rfl;refine Zv ?_;obtain ⟨e,g,l⟩:=Ka a;refine Kaf (Y:=Unit) (fun t=>(⟨[(2,iD c),(4,.ptr f 0),(7,iD e)],[(f,Blk.cells (CZ0 b .no) 127)],[]⟩:S)) ?_ ?_
 ·clear a;have a:=KE g;refine cY a (fun a=>?_) fun a=>?_
  ·refine ZN ?_;refine KC ?_;obtain rfl:=Kf a;refine ⟨rfl,?_⟩;exact wO (WkS.perm (wC (wC (wC wN))) ((KZ (j:=1) rfl).trans (List.Perm.cons _ Pf)) Pf)
  refine Kx ?_;obtain rfl:=Kf a;refine ⟨rfl,?_⟩;exact wO (WkS.perm (wC (wC (wC wN))) ((KZ (j:=1) rfl).trans (List.Perm.cons _ Pf)) Pf)
 intro A v;have a:=l;clear g l;refine Zb v fun t=>?_;refine ZM ?_;refine pL 0 ?_;refine pu ?_;refine ZJ ?_;refine p_eq (i:=21) (d':=.lst 1 (([c]:List Int).map eI64) .full) rfl (Wk.lst0 (.cons (WkC.refl _) (.nil))) ?_;obtain ⟨w,m,a⟩:=Ka a;rcases w with x|y
 ·refine Zj a fun a=>?_;refine Kbg (KfB e b.gb ([c]:List Int) (.inl x) m) rfl rfl rfl (WkL.cons (Wk.refl _) (WkL.cons (Wk.refl _) (WkL.cons (Wk.no) Wl))) Pf Pf ?_;exact YG a
 refine Zk a fun a=>?_;refine K5 (KfB e b.gb ([c]:List Int) (.inr y) m) rfl rfl rfl rfl rfl (WkL.cons (Wk.refl _) (WkL.cons (Wk.refl _) (WkL.cons (Wk.no) Wl))) ?_;rintro _ rfl;refine KH ?_;refine Zu ?_;obtain rfl:=Kf a;refine Kcw ?_;refine rP (t':=[(6,iD (2:Int))]) [] [] 0 (wC wN) (lT lN) ?_;exact Za
def KcU (a0:KS):Option ((Int×Int)⊕(Unit)):=
 (Option.bind (α:=(List (ByteArray×Int))⊕((Int×Int)⊕(Unit))) (loopM (fun (c:Int×List (ByteArray×Int))=>(bif (decide (c.1 < (2:Int))) then ((idx ([a0.gF.gf,a0.gF.gh]:List (List K3)) c.1).bind fun d=>(Option.bind (α:=(List (ByteArray×Int))⊕((Int×Int)⊕(Unit))) (loopM (fun (a:Int×List (ByteArray×Int))=>(bif (decide (a.1 < (d.length:Int))) then ((idx d a.1).bind fun b=>(Option.bind (α:=Bool) (bif (decide ((1:Int) < (mgetD (mput a.2 b.ga (IntKind.i64.wrap ((mgetD a.2 b.ga (0:Int))+(1:Int)))) b.ga (0:Int)))) then some true else ((KbW a0 b.ga).bind fun e=>some (e != (0:Int)))) fun f=>(bif f then ((KbL a0.gF.gb (8:Int)).bind fun g=>Sum.elim (fun h=>some (.done (.inr (.inl h)))) (fun j=>some (.next ((IntKind.i64.wrap (a.1+(1:Int))),(mput a.2 b.ga (IntKind.i64.wrap ((mgetD a.2 b.ga (0:Int))+(1:Int))))))) g) else some (.next ((IntKind.i64.wrap (a.1+(1:Int))),(mput a.2 b.ga (IntKind.i64.wrap ((mgetD a.2 b.ga (0:Int))+(1:Int))))))))) else some (.done (.inl a.2)))) ((0:Int),c.2)) (Sum.elim (fun i=>some (.next ((IntKind.i64.wrap (c.1+(1:Int))),i))) (fun r=>some (.done (.inr r)))))) else some (.done (.inl c.2)))) ((0:Int),([]:List (ByteArray×Int)))) (Sum.elim (fun k=>some (.inr ())) (fun r=>some r)))
theorem Zr {R G:Prop}(h:R)(k:R→G:=by intro h;refine Kb ?_;refine Km ?_;exact h):G:=k h
theorem ZV {R G:Prop}(h:R)(k:R→G:=by intro h;refine KH ?_;refine Zl ?_;exact h):G:=k h
theorem Xu {G:Prop}(k:G:=by exact wO (wP (wC (wC (wC (wC (wC (wC (wC wN))))))))):G:=k
theorem Yf {A0 R G:Prop}(a0:A0)(h:R)(k:A0→R→G:=by intro _a h;refine KC ?_;refine Y1 _a ?_;exact h):G:=k a0 h
theorem Yv {R G:Prop}(h:R)(k:R→G:=by intro h;refine Kab ?_;refine KaC ?_;exact h):G:=k h
theorem Kje (a0:KS)(r:(Int×Int)⊕(Unit))(h0:KcU a0=some r):KbV zc Tryz.prog 81 [Kag a0] [] [] r (fun r d h k=>d=.tup []∧h=[]∧k=[]):=by
 refine PZ0 h0 Tryz.func81 fun C a=>?_;refine ZH fun g=>?_;refine KH ?_;refine KlA rfl rfl rfl rfl (fun j=>?_);refine pu ?_;refine ZV ?_;refine pL 1 ?_;refine Zl ?_;refine pL 1 ?_;refine p_buildA (r:=[.lst 2 (a0.gF.gf.map Ku) .no,.lst 2 (a0.gF.gh.map Ku) .no]) htab rfl rfl rfl rfl rfl rfl rfl rfl rfl ?_;refine Zv ?_;obtain ⟨I,w,o⟩:=Ka a
 refine KaG (τ:=List (ByteArray×Int)) (Y:=Unit) (fun J K=>(⟨[],[],[]⟩:S)) I ?_ ?_
 ·clear a;have a:=KE w;refine Zy a fun ah L x=>?_;refine KaO (Y:=Unit) L (fun m M=>(⟨[(1,.ptr g 0),(2,.v (.map (some j))),(14,Ke3 (⟨a0.gF.gf,a0.gF.gh⟩:Kfe)),(15,iD m.1)],[(j,Blk.mp (m.2.map fun p=>((fun s:ByteArray=>Value.string s) p.1,eI64 p.2))),(g,Blk.cells [.lst 4 (a0.gP.gd.map Kt) .no,.lst 5 (a0.gP.gi.map KA) .no,tD a0.gF.ga,.lst 2 (a0.gF.gf.map Ku) .no,.lst 2 (a0.gF.gh.map Ku) .no,.lst 7 (a0.gF.gp.map Kh) .no,iD a0.gF.gb] 150)],[]⟩:S)) ?_ ?_
  ·skip
   exact ZI
  intro G374 m M a;refine Zn ?_;refine cY a (fun a=>?_) fun a=>?_
  ·refine Z0 ?_;refine Kd ?_;obtain ⟨n,q,a⟩:=Ka a;refine p_idxA (d:=.lst 2 (n.map Ku) .no) htab rfl rfl rfl rfl rfl rfl rfl rfl rfl (Ks q) (idx_lt' q rfl) (part_at0 (e:=(eList 2 Ku)) (xs:=([a0.gF.gf,a0.gF.gh]:List (List K3))) rfl q) ?_;refine Yo ?_;refine ZF ?_;obtain ⟨N,y,t⟩:=Ka a
   refine KaG (τ:=List (ByteArray×Int)) (Y:=Unit) (fun A O=>(⟨[(1,.ptr g 0),(2,.v (.map (some j))),(14,Ke3 (⟨a0.gF.gf,a0.gF.gh⟩:Kfe)),(15,iD m.1)],[(j,Blk.mp (A.map fun p=>((fun s:ByteArray=>Value.string s) p.1,eI64 p.2))),(g,Blk.cells [.lst 4 (a0.gP.gd.map Kt) .no,.lst 5 (a0.gP.gi.map KA) .no,tD a0.gF.ga,.lst 2 (a0.gF.gf.map Ku) .no,.lst 2 (a0.gF.gh.map Ku) .no,.lst 7 (a0.gF.gp.map Kh) .no,iD a0.gF.gb] 150)],[]⟩:S)) N ?_ ?_
   ·clear a;have a:=KE y;refine Zy a fun ai P B=>?_
    refine KaO (Y:=Unit) P (fun c Q=>(⟨[(1,.ptr g 0),(2,.v (.map (some j))),(14,Ke3 (⟨a0.gF.gf,a0.gF.gh⟩:Kfe)),(15,iD m.1),(18,.lst 2 (n.map Ku) .no),(19,iD (n.length:Int)),(20,iD c.1)],[(j,Blk.mp (c.2.map fun p=>((fun s:ByteArray=>Value.string s) p.1,eI64 p.2))),(g,Blk.cells [.lst 4 (a0.gP.gd.map Kt) .no,.lst 5 (a0.gP.gi.map KA) .no,tD a0.gF.ga,.lst 2 (a0.gF.gf.map Ku) .no,.lst 2 (a0.gF.gh.map Ku) .no,.lst 7 (a0.gF.gp.map Kh) .no,iD a0.gF.gb] 150)],[]⟩:S)) ?_ ?_
    ·skip
     exact Xu
    intro G698 c Q a;refine Zn ?_;refine cY a (fun a=>?_) fun a=>?_
    ·refine Z7 a fun b aj a=>?_;refine X1 fun T=>?_;refine pS2 (ds':=[tD b.ga,.v (.bool b.gz)]) ?_;refine ZV ?_;refine pL 2 ?_
     refine KgE (l:=c.2) (f:=(fun s:ByteArray=>Value.string s)) (e:=eI64) (kk:=b.ga) (z:=(0:Int)) (dr:=iD (mgetD c.2 b.ga (0:Int))) 0 htab rfl rfl rfl rfl rfl rfl rfl rfl rfl rfl mk145 (fun H v h=>KW h) mz145 mr145 rfl ?_;refine pu ?_
     refine Kia (l:=c.2) (f:=(fun s:ByteArray=>Value.string s)) (e:=eI64) (kk:=b.ga) (vv:=(IntKind.i64.wrap ((mgetD c.2 b.ga (0:Int))+(1:Int)))) (h':=[(j,Blk.mp ((mput c.2 b.ga (IntKind.i64.wrap ((mgetD c.2 b.ga (0:Int))+(1:Int)))).map fun p=>((fun s:ByteArray=>Value.string s) p.1,eI64 p.2))),(g,Blk.cells [.lst 4 (a0.gP.gd.map Kt) .no,.lst 5 (a0.gP.gi.map KA) .no,tD a0.gF.ga,.lst 2 (a0.gF.gf.map Ku) .no,.lst 2 (a0.gF.gh.map Ku) .no,.lst 7 (a0.gF.gp.map Kh) .no,iD a0.gF.gb] 150),(T,Blk.cells [tD b.ga,.v (.bool b.gz)] 64)]) 0 htab rfl rfl rfl rfl rfl rfl rfl rfl rfl rfl mk145 (fun H v h=>KW h) (Wk.refl _) rfl ?_
     refine Zr ?_;obtain ⟨U,D,E⟩:=Ka a
     refine Kaf (Y:=Unit) (fun V=>(⟨[(1,.ptr g 0),(2,.v (.map (some j))),(14,Ke3 (⟨a0.gF.gf,a0.gF.gh⟩:Kfe)),(15,iD m.1),(18,.lst 2 (n.map Ku) .no),(19,iD (n.length:Int)),(20,iD c.1),(40,.v (.bool U))],[(j,Blk.mp ((mput c.2 b.ga (IntKind.i64.wrap ((mgetD c.2 b.ga (0:Int))+(1:Int)))).map fun p=>((fun s:ByteArray=>Value.string s) p.1,eI64 p.2))),(g,Blk.cells [.lst 4 (a0.gP.gd.map Kt) .no,.lst 5 (a0.gP.gi.map KA) .no,tD a0.gF.ga,.lst 2 (a0.gF.gf.map Ku) .no,.lst 2 (a0.gF.gh.map Ku) .no,.lst 7 (a0.gF.gp.map Kh) .no,iD a0.gF.gb] 150)],[]⟩:S)) ?_ ?_
     ·clear a;have a:=KE D;refine ZU ?_;refine pL 2 ?_;refine KgE (l:=(mput c.2 b.ga (IntKind.i64.wrap ((mgetD c.2 b.ga (0:Int))+(1:Int))))) (f:=(fun s:ByteArray=>Value.string s)) (e:=eI64) (kk:=b.ga) (z:=(0:Int)) (dr:=iD (mgetD (mput c.2 b.ga (IntKind.i64.wrap ((mgetD c.2 b.ga (0:Int))+(1:Int)))) b.ga (0:Int))) 0 htab rfl rfl rfl rfl rfl rfl rfl rfl rfl rfl mk145 (fun H v h=>KW h) mz145 mr145 rfl ?_;refine Zl ?_;refine KaH (i:=34) rfl (fun u=>?_) (fun u=>?_)
      ·replace a:=yes_t u a;iterate 5 refine pK ?_
       refine ZB ?_;refine KC ?_;obtain rfl:=Kf a;refine ⟨rfl,?_⟩;exact wO (wP (wC (wC (wC (wC (wC (wC (wC (wC wN)))))))))
      replace a:=yes_f u a;refine Kaa (d:=Kag a0) 1 htab rfl rfl rfl rfl rfl rfl rfl rfl ?_;refine pu ?_;refine pL 2 ?_;obtain ⟨W,X,a⟩:=Ka a;refine K5 (Kez a0 b.ga W X) rfl rfl rfl rfl rfl Wl ?_;rintro _ rfl;refine pu ?_;refine ZE ?_;refine KC ?_;obtain rfl:=Kf a;refine ⟨rfl,?_⟩;exact wO (wP (wC (wC (wC (wC (wC (wC (wC (wC wN)))))))))
     intro ak Z;have a:=E;clear D E;refine Zb Z fun V=>?_;refine cY a (fun a=>?_) fun a=>?_
     ·refine ZU ?_;refine pL 1 ?_;obtain ⟨aa,F,a⟩:=Ka a;rcases aa with ab|ac
      ·refine Zj a fun a=>?_;refine Kbg (Kbn a0.gF.gb (8:Int) (.inl ab) F) rfl rfl rfl Wl Pf Pf ?_;refine KaC ?_;refine Kab ?_;obtain rfl:=K6 a;have a:=B
       refine Yv ?_;obtain rfl:=Kf a;refine Kar ?_;have a:=t;refine Zk a fun a=>?_
       refine KaC ?_;refine Kab ?_;obtain rfl:=K6 a;have a:=x
       refine Yv ?_;obtain rfl:=Kf a;refine Kar ?_;have a:=o;refine Zk a fun a=>?_
       obtain rfl:=Kf a;exact KaI
      refine Zk a fun a=>?_;refine K5 (Kbn a0.gF.gb (8:Int) (.inr ac) F) rfl rfl rfl rfl rfl Wl ?_;rintro _ rfl;refine Yf a ?_;exact Xu
     refine Kx ?_;refine Y1 a ?_;exact Xu
    refine Zs ?_;obtain rfl:=K6 a;have a:=B
    refine Z9 ?_;obtain rfl:=Kf a;refine Kat ?_;exact ZI
   intro A al ad ae;subst ad;have a:=t;refine Zj a fun a=>?_;clear y t;refine KK ?_;refine Zb ae fun O=>?_;refine ZU ?_;refine KC ?_;refine Kc ⟨_,Kaw a,?_⟩;exact ZI
  refine Zs ?_;obtain rfl:=K6 a;have a:=x
  exact Yn a
 intro J am af ag;subst af;have a:=o;refine Zj a fun a=>?_;clear w o;obtain rfl:=Kf a;refine Kcw ?_;refine retX.wkX ag (fun K=>?_);refine rP (t':=[]) [] [] 0 wN lN ?_;exact Za
def Kgl (a0:Kj):Option (Int):=
 (Option.bind (α:=Bool) (bif (a0.gj==(1:Int)) then some (a0.gj==(1:Int)) else (Option.bind (α:=Bool) (bif (a0.gj==(3:Int)) then some (a0.gj==(3:Int)) else (Option.bind (α:=Bool) (bif (a0.gj==(6:Int)) then some (a0.gj==(6:Int)) else (Option.bind (α:=Bool) (bif (a0.gj==(7:Int)) then some (a0.gj==(7:Int)) else (Option.bind (α:=Bool) (bif (a0.gj==(8:Int)) then some (a0.gj==(8:Int)) else some (a0.gj==(9:Int))) fun a=>some a)) fun b=>some b)) fun c=>some c)) fun d=>some d)) fun e=>(bif e then some (1:Int) else (bif (a0.gj==(2:Int)) then some (2:Int) else (bif (a0.gj==(4:Int)) then some (a0.go.length:Int) else (bif (a0.gj==(5:Int)) then some (0:Int) else some (-1:Int))))))
theorem YW {A0 G:Prop}(a0:A0)(k:A0→G:=by intro _a;refine Kd ?_;refine Zu ?_;obtain rfl:=Kf _a;refine rP (t':=[(2,iD (-1:Int))]) [] [] 0 (wC wN) (lT lN) ?_;exact Za):G:=k a0
theorem ZK {R G:Prop}(h:R)(k:R→G:=by intro h;refine Kx ?_;refine KK ?_;refine Kc ?_;exact h):G:=k h
theorem Y4 {A0 A1 G:Prop}(a0:A0)(q:A1)(k:A0→A1→G:=by intro _a _b;obtain rfl:=Kf _a;refine ⟨rfl,?_⟩;refine WkX.trans _b (fun _l=>?_);exact wO (wP (wC (wC (wC wN))))):G:=k a0 q
theorem XJ {A0 G:Prop}(a0:A0)(k:A0→G:=by intro _a;obtain rfl:=Kf _a;refine rP (t':=[(2,iD (0:Int))]) [] [] 0 (wC wN) (lT lN) ?_;exact Za):G:=k a0
theorem Yg {R G:Prop}(h:R)(k:R→G:=by intro h;refine Kd ?_;refine ZT ?_;exact h):G:=k h
theorem Xe {A0 G:Prop}(a0:A0)(k:A0→G:=by intro _a;refine Yg ?_;exact Wi _a):G:=k a0
theorem KlI (a0 r)(h0:Kgl a0=some r):CallsD Tryz.prog 115 [Kh a0] [] [] (fun d h k=>d=iD r∧h=[]∧k=[]):=by
 refine PZ1 h0 Tryz.func115 fun C a=>?_;refine w_eq (i:=0) rfl (Wk.of_eq (Kv a0)) ?_;refine ZH fun b=>?_;refine Zz ?_;refine ZR ?_;refine Kb ?_;refine KJ ?_;refine Km ?_;refine Ze ?_;obtain ⟨s,c,e⟩:=Ka a
 refine Kaf (Y:=Unit) (fun t=>(⟨[(1,.ptr b 0),(4,iD a0.gj),(5,.v (.bool s))],[(b,Blk.cells (CZ2 a0 .no .no .no) 98)],[]⟩:S)) ?_ ?_
 ·clear a;have a:=KE c;refine cY a (fun a=>?_) fun a=>?_
  ·exact YH a
  refine Ze ?_;obtain ⟨u,f,g⟩:=Ka a;refine Kaf (Y:=Unit) (fun F=>(⟨[(1,.ptr b 0),(4,iD a0.gj),(5,.v (.bool u))],[(b,Blk.cells (CZ2 a0 .no .no .no) 98)],[]⟩:S)) ?_ ?_
  ·clear a;have a:=KE f;refine cY a (fun a=>?_) fun a=>?_
   ·exact YH a
   refine Ze ?_;obtain ⟨w,j,l⟩:=Ka a;refine Kaf (Y:=Unit) (fun H=>(⟨[(1,.ptr b 0),(4,iD a0.gj),(5,.v (.bool w))],[(b,Blk.cells (CZ2 a0 .no .no .no) 98)],[]⟩:S)) ?_ ?_
   ·clear a;have a:=KE j;refine cY a (fun a=>?_) fun a=>?_
    ·exact YH a
    refine Ze ?_;obtain ⟨x,m,n⟩:=Ka a;refine Kaf (Y:=Unit) (fun I=>(⟨[(1,.ptr b 0),(4,iD a0.gj),(5,.v (.bool x))],[(b,Blk.cells (CZ2 a0 .no .no .no) 98)],[]⟩:S)) ?_ ?_
    ·clear a;have a:=KE m;refine cY a (fun a=>?_) fun a=>?_
     ·exact YH a
     refine Ze ?_;obtain ⟨y,o,p⟩:=Ka a;refine Kaf (Y:=Unit) (fun J=>(⟨[(1,.ptr b 0),(4,iD a0.gj),(5,.v (.bool y))],[(b,Blk.cells (CZ2 a0 .no .no .no) 98)],[]⟩:S)) ?_ ?_
     ·clear a;have a:=KE o;refine cY a (fun a=>?_) fun a=>?_
      ·exact YH a
      refine ZU ?_;exact Yy a
     intro K z;have a:=p;clear o p;exact Y4 a z
    intro L A;have a:=n;clear m n;exact Y4 a A
   intro M B;have a:=l;clear j l;exact Y4 a B
  intro N D;have a:=g;clear f g;exact Y4 a D
 intro O E;have a:=e;clear c e;refine Zb E fun t=>?_;refine cY a (fun a=>?_) fun a=>?_
 ·exact Xe a
 refine Ze ?_;refine cY a (fun a=>?_) fun a=>?_
 ·refine Yg ?_;exact XI a
 refine Ze ?_;refine cY a (fun a=>?_) fun a=>?_
 ·refine ZR ?_;refine Yk ?_;refine ZT ?_;obtain rfl:=Kf a;refine rP (t':=[(2,iD (a0.go.length:Int))]) [] [] 0 (wC wN) (lT lN) ?_;exact Za
 refine Ze ?_;refine cY a (fun a=>?_) fun a=>?_
 ·refine Yg ?_;exact XJ a
 refine ZK ?_;exact YW a
def Kgm (a0:Int):Option (Int):=
 (Option.bind (α:=(Unit)⊕(Int)) (Option.bind (α:=Bool) (bif (a0==(1:Int)) then some (a0==(1:Int)) else (Option.bind (α:=Bool) (bif (a0==(2:Int)) then some (a0==(2:Int)) else (Option.bind (α:=Bool) (bif (a0==(4:Int)) then some (a0==(4:Int)) else (Option.bind (α:=Bool) (bif (a0==(18:Int)) then some (a0==(18:Int)) else some (a0==(19:Int))) fun a=>some a)) fun b=>some b)) fun c=>some c)) fun d=>(Option.bind (α:=(Unit)⊕(Int)) (bif d then some (.inr (0:Int)) else (Option.bind (α:=Bool) (bif (a0==(3:Int)) then some (a0==(3:Int)) else (Option.bind (α:=Bool) (bif (a0==(20:Int)) then some (a0==(20:Int)) else (Option.bind (α:=Bool) (bif (a0==(5:Int)) then some (a0==(5:Int)) else some (a0==(6:Int))) fun e=>some e)) fun f=>some f)) fun g=>(bif g then some (.inr (1:Int)) else some (.inl ())))) (Sum.elim (fun h=>some (.inl ())) (fun r=>some (.inr r))))) (Sum.elim (fun i=>(bif (decide ((7:Int)≤a0)) then (bif (decide (a0≤(17:Int))) then some (2:Int) else some (-1:Int)) else some (-1:Int))) (fun r=>some r)))
theorem Yp {R G:Prop}(h:R)(k:R→G:=by intro h;refine pK ?_;refine pK ?_;exact h):G:=k h
theorem Wm {A0 A1 G:Prop}(a0:A0)(A:A1)(k:A0→A1→G:=by intro _a _b;obtain rfl:=Kf _a;refine ⟨rfl,?_⟩;refine WkX.trans _b (fun _l=>?_);exact wO (wP (wC (wC wN)))):G:=k a0 A
theorem KlJ (a0 r)(h0:Kgm a0=some r):CallsD Tryz.prog 140 [iD a0] [] [] (fun d h k=>d=iD r∧h=[]∧k=[]):=by
 refine PZ1 h0 Tryz.func140 fun C a=>?_;refine Zn ?_;refine Yx ?_;obtain ⟨B,f,b⟩:=Ka a;refine KaG (τ:=Unit) (Y:=Unit) (fun D E=>(⟨[(0,iD a0)],[],[]⟩:S)) B ?_ ?_
 ·clear a;have a:=KE f;refine KJ ?_;refine Km ?_;refine Ze ?_;obtain ⟨F,g,j⟩:=Ka a;refine Kaf (Y:=Unit) (fun H=>(⟨[(0,iD a0),(3,iD a0),(4,.v (.bool F))],[],[]⟩:S)) ?_ ?_
  ·clear a;have a:=KE g;refine cY a (fun a=>?_) fun a=>?_
   ·exact YH a
   refine Ze ?_;obtain ⟨I,l,m⟩:=Ka a;refine Kaf (Y:=Unit) (fun ag=>(⟨[(0,iD a0),(3,iD a0),(4,.v (.bool I))],[],[]⟩:S)) ?_ ?_
   ·clear a;have a:=KE l;refine cY a (fun a=>?_) fun a=>?_
    ·exact YH a
    refine Ze ?_;obtain ⟨J,n,o⟩:=Ka a;refine Kaf (Y:=Unit) (fun ah=>(⟨[(0,iD a0),(3,iD a0),(4,.v (.bool J))],[],[]⟩:S)) ?_ ?_
    ·clear a;have a:=KE n;refine cY a (fun a=>?_) fun a=>?_
     ·exact YH a
     refine Ze ?_;obtain ⟨K,p,q⟩:=Ka a;refine Kaf (Y:=Unit) (fun ai=>(⟨[(0,iD a0),(3,iD a0),(4,.v (.bool K))],[],[]⟩:S)) ?_ ?_
     ·clear a;have a:=KE p;refine cY a (fun a=>?_) fun a=>?_
      ·exact YH a
      refine ZU ?_;exact Yy a
     intro aj L;have a:=q;clear p q;exact Y4 a L
    intro ak M;have a:=o;clear n o;exact Y4 a M
   intro al N;have a:=m;clear l m;exact Y4 a N
  intro am O;have a:=j;clear g j;refine Zb O fun H=>?_;obtain ⟨P,s,c⟩:=Ka a;refine KaG (τ:=Unit) (Y:=Unit) (fun Q T=>(⟨[(0,iD a0)],[],[]⟩:S)) P ?_ ?_
  ·clear a;have a:=KE s;refine cY a (fun a=>?_) fun a=>?_
   ·refine ZY ?_;obtain rfl:=Kf a;refine Ka4 ?_;have a:=c;refine Zk a fun a=>?_
    refine KI ?_;obtain rfl:=Kf a;refine Ka4 ?_;have a:=b;refine Z1 a fun a=>?_
    exact XJ a
   refine Km ?_;refine Ze ?_;obtain ⟨U,t,u⟩:=Ka a;refine Kaf (Y:=Unit) (fun V=>(⟨[(0,iD a0),(10,.v (.bool U))],[],[]⟩:S)) ?_ ?_
   ·clear a;have a:=KE t;refine cY a (fun a=>?_) fun a=>?_
    ·refine Kx ?_;exact YC a
    refine Ze ?_;obtain ⟨W,w,x⟩:=Ka a;refine Kaf (Y:=Unit) (fun an=>(⟨[(0,iD a0),(10,.v (.bool W))],[],[]⟩:S)) ?_ ?_
    ·clear a;have a:=KE w;refine cY a (fun a=>?_) fun a=>?_
     ·refine Kx ?_;exact YC a
     refine Ze ?_;obtain ⟨X,y,z⟩:=Ka a;refine Kaf (Y:=Unit) (fun ao=>(⟨[(0,iD a0),(10,.v (.bool X))],[],[]⟩:S)) ?_ ?_
     ·clear a;have a:=KE y;refine cY a (fun a=>?_) fun a=>?_
      ·refine Kx ?_;exact YC a
      refine ZU ?_;exact Z2 a
     intro ap Z;have a:=z;clear y z;exact Wm a Z
    intro aq aa;have a:=x;clear w x;exact Wm a aa
   intro ar ab;have a:=u;clear t u;refine Zb ab fun V=>?_;refine cY a (fun a=>?_) fun a=>?_
   ·refine ZY ?_;obtain rfl:=Kf a;refine Ka4 ?_;have a:=c;refine Zk a fun a=>?_
    refine KI ?_;obtain rfl:=Kf a;refine Ka4 ?_;have a:=b;refine Z1 a fun a=>?_
    exact Wi a
   refine Kx ?_;obtain rfl:=Kf a;refine Kat ?_;exact wO (wP (wC wN))
  intro Q au ac ad;subst ac;have a:=c;refine Zj a fun a=>?_;clear s c;refine KK ?_;obtain rfl:=Kf a;refine Kat ?_;refine WkX.trans ad (fun T=>?_);exact wO (wP (wC wN))
 intro D av ae af;subst ae;have a:=b;refine Zj a fun a=>?_;clear f b;refine Zb af fun E=>?_;refine Km ?_;refine ZS ?_
 refine KaH (i:=17) rfl (fun e=>?_) (fun e=>?_)
 ·replace a:=yes_t e a;refine Zl ?_;refine ZB ?_;refine Kb ?_;refine cY a (fun a=>?_) fun a=>?_
  ·refine Ye ?_;exact XI a
  refine Zm ?_;exact YW a
 replace a:=yes_f e a;refine Yp ?_;refine ZE ?_;refine Kb ?_;refine KdS rfl ?_;refine Zm ?_;exact YW a
def Kch (g0:(KS)→(List Ke)→Option ((Int×Int)⊕(List Int)))(g1:(KS)→(Ke)→Option ((Int×Int)⊕(Int)))(a0:KS)(b:List Ke):Option ((Int×Int)⊕(List Int)):=
 (Option.bind (α:=(List Int)⊕((Int×Int)⊕(List Int))) (loopM (fun (a:List Int×Int)=>(bif (decide (a.2 < (b.length:Int))) then ((idx b a.2).bind fun c=>((g1 a0 c).bind fun d=>Sum.elim (fun e=>some (.done (.inr (.inl e)))) (fun f=>((app 8 a.1 ([f]:List Int)).bind fun g=>some (.next (g,(IntKind.i64.wrap (a.2+(1:Int))))))) d)) else some (.done (.inl a.1)))) (([]:List Int),(0:Int))) (Sum.elim (fun h=>some (.inr h)) (fun r=>some r)))
theorem Xv {A0 G:Prop}{j:Sort _}{m:(u:j)→Sort _}{q:(u:j)→(v:m u)→Sort _}{E:(u:j)→(v:m u)→(x:q u v)→Sort _}{R:(u:j)→(v:m u)→(x:q u v)→(y:E u v x)→Prop}(a0:A0)(h:∀ u v x y,R u v x y)(k:A0→(∀ u v x y,R u v x y)→G:=by intro _a h;obtain ⟨_l,_m,_n⟩:=Ka _a;refine Kge 0 htab rfl rfl rfl rfl rfl rfl rfl rfl rfl rfl rfl rfl rfl rfl rfl rfl rfl (KcH _m) (fun _o=>?_);exact h _l _m _n _o):G:=k a0 h
theorem Y5 {R G:Prop}(h:R)(k:R→G:=by intro h;refine KaK (d:=.agg (CZ0 _ .no)) htab rfl rfl rfl rfl rfl rfl rfl rfl ?_;exact h):G:=k h
theorem Xw {R G:Prop}(h:R)(k:R→G:=by intro h;refine Kaa (d:=.agg (CZ0 _ .no)) 1 htab rfl rfl rfl rfl rfl rfl rfl rfl ?_;exact h):G:=k h
theorem WQ {A0 G:Prop}(a0:A0)(k:A0→G:=by intro _a;refine Xv _a fun _l _m _n _o=>?_;refine Kgf (i:=19) _m rfl ?_;refine pu ?_;refine KC ?_;refine Y1 _n ?_;exact WkX.of _o (wP (wC (wC (wC (wC (wC wN))))))):G:=k a0
theorem WR {G:Prop}(k:G:=by refine WkX.tokN (i:=5) 1 rfl (fun _l=>?_);exact WkX.of _l (wP (wC (wC (wC (wC (wC wN))))))):G:=k
theorem Yz {R G:Prop}(h:R)(k:R→G:=by intro h;refine Zd ?_;refine Zu ?_;exact h):G:=k h
def HZ0 (g:(KS)→(List Ke)→Option ((Int×Int)⊕(List Int))):Prop:=∀ (a0:KS) (b:List Ke) (r:(Int×Int)⊕(List Int)) (h0:g a0 b=some r),KbV zc Tryz.prog 116 [Kag a0,.lst 5 (b.map Kk) .no] [] [] r (fun r d h k=>∃ e,d=.lst 1 (r.map eI64) (.cur e)∧h=[]∧k=[(1,e)])
def HZ1 (g:(KS)→(Ke)→Option ((Int×Int)⊕(Int))):Prop:=∀ (a0:KS) (b:Ke) (r:(Int×Int)⊕(Int)) (h0:g a0 b=some r),KbV zc Tryz.prog 129 [Kag a0,Kk b] [] [] r (fun r d h k=>d=iD r∧h=[]∧k=[])
theorem Kiy (g0:(KS)→(List Ke)→Option ((Int×Int)⊕(List Int)))(g1:(KS)→(Ke)→Option ((Int×Int)⊕(Int)))(M:HZ0 g0)(s:HZ1 g1)(a0:KS)(b:List Ke)(r:(Int×Int)⊕(List Int))(h0:Kch g0 g1 a0 b=some r):KbV zc Tryz.prog 116 [Kag a0,.lst 5 (b.map Kk) .no] [] [] r (fun r d h k=>∃ e,d=.lst 1 (r.map eI64) (.cur e)∧h=[]∧k=[(1,e)]):=by
 refine PZ0 h0 Tryz.func116 fun C a=>?_;refine ZH fun t=>?_;refine YI ?_;refine Zz ?_;refine Zd ?_;refine ZF ?_;obtain ⟨F,w,n⟩:=Ka a;refine KaG (τ:=List Int) (Y:=Value) (fun o f=>(⟨[(5,.lst 1 (o.map eI64) (.cur f))],[],[(1,f)]⟩:S)) F ?_ ?_
 ·clear a;have a:=KE w;refine Zy a fun N H z=>?_;refine KaO (Y:=Value) H (fun p l=>(⟨[(2,.ptr t 0),(5,.lst 1 (p.1.map eI64) (.cur l)),(8,.lst 5 (b.map Kk) .no),(9,iD (b.length:Int)),(10,iD p.2)],[(t,Blk.cells [.lst 4 (a0.gP.gd.map Kt) .no,.lst 5 (a0.gP.gi.map KA) .no,tD a0.gF.ga,.lst 2 (a0.gF.gf.map Ku) .no,.lst 2 (a0.gF.gh.map Ku) .no,.lst 7 (a0.gF.gp.map Kh) .no,iD a0.gF.gb] 150)],[(1,l)]⟩:S)) ?_ ?_
  ·skip
   exact WR
  intro G23 p l a;refine Zn ?_;refine cY a (fun a=>?_) fun a=>?_
  ·refine Z7 a fun c O a=>?_;refine p_eq (i:=12) rfl (Wk.of_eq (congrArg D.el (Ko c))) ?_;refine Y5 ?_;refine Zq fun P=>?_;refine pS1 (ds':=(CZ0 c .no)) ?_;refine Kb ?_;refine ZN ?_
   refine Yu ?_;refine Xw ?_;obtain ⟨I,A,a⟩:=Ka a;rcases I with J|B
   ·refine Zj a fun a=>?_;refine Kbg (s a0 c (.inl J) A) rfl rfl rfl (WkL.cons (Wk.refl _) (WkL.cons (Wk.trans (Wk.agg (WkR.refl _)) (Wk.of_eq (Ko c).symm)) Wl)) Pf Pf ?_;refine KaC ?_;refine Kab ?_;obtain rfl:=K6 a;have a:=z
    refine Yv ?_;obtain rfl:=Kf a;refine Kar ?_;have a:=n;exact Yd a
   refine Zk a fun a=>?_;refine K5 (s a0 c (.inr B) A) rfl rfl rfl rfl rfl (WkL.cons (Wk.refl _) (WkL.cons (Wk.trans (Wk.agg (WkR.refl _)) (Wk.of_eq (Ko c).symm)) Wl)) ?_;rintro _ rfl;refine ZJ ?_;refine p_eq (i:=18) (d':=.lst 1 (([B]:List Int).map eI64) .full) rfl (Wk.lst0 (.cons (WkC.refl _) (.nil))) ?_;exact WQ a
  refine Zs ?_;obtain rfl:=K6 a;have a:=z
  refine Z9 ?_;obtain rfl:=Kf a;refine Kat ?_;exact WkX.of l (wP (wC wN))
 intro o Q K L;subst K;have a:=n;refine Zj a fun a=>?_;clear w n;refine Zb L fun f=>?_;refine Yz ?_;obtain rfl:=Kf a;refine Kcw ?_;refine rP (t':=[(4,.lst 1 (o.map eI64) (.cur f))]) [] [0] 0 (wC wN) (lT lN) ?_;exact ⟨f,rfl,rfl,rfl⟩
abbrev qZ23:List Int:=[(1:Int),(2:Int)]
abbrev qZ26:List Int:=[(3:Int)]
abbrev qZ27:List Int:=[(2:Int)]
def Kci (g0:(KS)→(List Ke)→Option ((Int×Int)⊕(List Int)))(g1:(KS)→(Ke)→Option ((Int×Int)⊕(Int)))(a0:KS)(a:Ke):Option ((Int×Int)⊕(Int)):=
 ((Kgm a.gj).bind fun d=>(Option.bind (α:=Bool) (bif (decide (d < (0:Int))) then some true else some ((a.gc.length:Int) != d)) fun e=>(Option.bind (α:=(Unit)⊕((Int×Int)⊕(Int))) (bif e then ((KbL a.gb (2:Int)).bind fun f=>Sum.elim (fun g=>some (.inr (.inl g))) (fun H=>some (.inl ())) f) else some (.inl ())) (Sum.elim (fun I=>((g0 a0 a.gc).bind fun h=>Sum.elim (fun i=>some (.inl i)) (fun c=>(Option.bind (α:=Bool) (bif (a.gj==(14:Int)) then some true else some (a.gj==(15:Int))) fun j=>(bif j then ((idx c (0:Int)).bind fun k=>((idx c (1:Int)).bind fun l=>(Option.bind (α:=(Unit)⊕((Int×Int)⊕(Int))) (bif (k != l) then ((idx a.gc (1:Int)).bind fun m=>((KbL m.gb (9:Int)).bind fun n=>Sum.elim (fun o=>some (.inr (.inl o))) (fun J=>some (.inl ())) n)) else some (.inl ())) (Sum.elim (fun K=>some (.inr (1:Int))) (fun r=>some r))))) else (Option.bind (α:=(Unit)⊕((Int×Int)⊕(Int))) (loopM (fun (b:Int)=>(bif (decide (b < (a.gc.length:Int))) then ((idx a.gc b).bind fun p=>((idx c b).bind fun q=>((Kc1 p q).bind fun s=>Sum.elim (fun t=>some (.done (.inr (.inl t)))) (fun L=>some (.next (IntKind.i64.wrap (b+(1:Int))))) s))) else some (.done (.inl ())))) (0:Int)) (Sum.elim (fun M=>(bif (a.gj==(2:Int)) then ((KbF a0 a.ga a.gb qZ23).bind fun u=>Sum.elim (fun v=>some (.inl v)) (fun w=>some (.inr w)) u) else (bif (a.gj==(3:Int)) then ((KbF a0 a.ga a.gb qZ26).bind fun x=>Sum.elim (fun y=>some (.inl y)) (fun N=>some (.inr (1:Int))) x) else (bif (a.gj==(4:Int)) then ((KbF a0 a.ga a.gb qZ27).bind fun z=>Sum.elim (fun A=>some (.inl A)) (fun O=>some (.inr (1:Int))) z) else (bif (a.gj==(18:Int)) then some (.inr (2:Int)) else (bif (a.gj==(19:Int)) then ((KcY a0 a (1:Int)).bind fun B=>Sum.elim (fun C=>some (.inl C)) (fun D=>some (.inr D)) B) else (bif (a.gj==(20:Int)) then ((KcY a0 a (3:Int)).bind fun E=>Sum.elim (fun F=>some (.inl F)) (fun G=>some (.inr G)) E) else some (.inr (1:Int))))))))) (fun r=>some r)))))) h)) (fun r=>some r)))))
theorem ZC {R G:Prop}(h:R)(k:R→G:=by intro h;refine z_nil rfl rfl (fun e he=>by simp [isAl] at he) ?_;exact h):G:=k h
theorem XK {A0 R G:Prop}(a0:A0)(h:R)(k:A0→R→G:=by intro _a h;refine z_e rfl rfl (KO htab rfl rfl rfl rfl rfl rfl rfl (Ks _a) (KD _a)) rfl rfl rfl rfl rfl rfl ?_;refine z_qM rfl rfl (KF htab rfl rfl rfl rfl rfl) rfl rfl rfl rfl rfl rfl ?_;exact h):G:=k a0 h
theorem ZW {R G:Prop}(h:R)(k:R→G:=by intro h;refine Kz ?_;(iterate 3 refine pu ?_);exact h):G:=k h
theorem Y6 {A0 G:Prop}(a0:A0)(k:A0→G:=by intro _a;obtain rfl:=Kf _a;refine Kat ?_;exact wO (wP (wC (wC wN)))):G:=k a0
theorem X2 {A0 A1 G:Prop}{g:Sort _}{R:(u:g)→Prop}(a0:A0)(b:A1)(h:∀ u,R u)(k:A0→A1→(∀ u,R u)→G:=by intro _a _b h;simp only [Sum.elim_inr] at _a;refine K5 (KbZ _ _ (.inr _) _b) rfl rfl rfl rfl rfl (WkL.cons (Wk.trans (Wk.agg (WkR.refl _)) (Wk.of_eq (Ko _).symm)) (WkL.cons (Wk.refl _) Wl)) ?_;rintro _ rfl;exact h _a):G:=k a0 b h
theorem ZL {G:Prop}{g:Sort _}{R:(u:g)→Prop}(h:∀ u,R u)(k:(∀ u,R u)→G:=by intro h;rintro _ _ _ ⟨_l,rfl,rfl,rfl⟩;exact h _l):G:=k h
theorem YK {A0 G:Prop}(a0:A0)(k:A0→G:=by intro _a;refine KC ?_;obtain rfl:=Kf _a;refine ⟨rfl,?_⟩;exact ZI):G:=k a0
theorem X3 {A0 A1 G:Prop}{g:Sort _}{R:(u:g)→Prop}(a0:A0)(b:A1)(h:∀ u,R u)(k:A0→A1→(∀ u,R u)→G:=by intro _a _b h;simp only [Sum.elim_inl] at _a;refine Kbg (KbZ _ _ (.inl _) _b) rfl rfl rfl (WkL.cons (Wk.trans (Wk.agg (WkR.refl _)) (Wk.of_eq (Ko _).symm)) (WkL.cons (Wk.refl _) Wl)) Pf Pf ?_;exact h _a):G:=k a0 b h
theorem XL {R G:Prop}(h:R)(k:R→G:=by intro h;refine Kz ?_;refine Yu ?_;refine ZP ?_;refine ZP ?_;refine ZJ ?_;exact h):G:=k h
theorem Wn {A0 G:Prop}(a0:A0)(k:A0→G:=by intro _a;obtain rfl:=Kf _a;refine Kcw ?_;refine rP (t':=[(4,iD (1:Int))]) [] [] 0 (wC wN) (lT lN) ?_;exact Za):G:=k a0
theorem YQ {R G:Prop}(h:R)(k:R→G:=by intro h;refine KC ?_;refine KK ?_;refine Kc ?_;exact h):G:=k h
theorem Yw {R G:Prop}(h:R)(k:R→G:=by intro h;refine Zd ?_;refine pL 1 ?_;exact h):G:=k h
theorem Xx {A0 G:Prop}(a0:A0)(k:A0→G:=by intro _a;rintro _ rfl;refine KC ?_;exact Y6 _a):G:=k a0
theorem Xf {A0 G:Prop}(a0:A0)(k:A0→G:=by intro _a;refine ZE ?_;exact Yy _a):G:=k a0
theorem XM {R G:Prop}(h:R)(k:R→G:=by intro h;refine Kb ?_;refine KJ ?_;refine Ze ?_;exact h):G:=k h
theorem WS {A0 G:Prop}(a0:A0)(k:A0→G:=by intro _a;rintro _ rfl;refine ZT ?_;obtain rfl:=Kf _a;refine Kcw ?_;exact XZ):G:=k a0
theorem Kiz (g0:(KS)→(List Ke)→Option ((Int×Int)⊕(List Int)))(g1:(KS)→(Ke)→Option ((Int×Int)⊕(Int)))(w:HZ0 g0)(bz:HZ1 g1)(a0:KS)(b:Ke)(r:(Int×Int)⊕(Int))(h0:Kci g0 g1 a0 b=some r):KbV zc Tryz.prog 129 [Kag a0,Kk b] [] [] r (fun r d h k=>d=iD r∧h=[]∧k=[]):=by
 refine PZ0 h0 Tryz.func129 fun C a=>?_;refine w_eq (i:=1) rfl (Wk.of_eq (Ko b)) ?_;refine ZH fun c=>?_;refine YJ fun f=>?_;refine Zz ?_;refine Yw ?_;obtain ⟨U,V,a⟩:=Ka a;refine K5 (KlJ b.gj U V) rfl rfl rfl rfl rfl Wl ?_;rintro _ rfl;refine Zz ?_;obtain ⟨W,x,y⟩:=Ka a
 refine Kaf (Y:=Unit) (fun X=>(⟨[(2,.ptr c 0),(3,.ptr f 0),(20,.v (.bool W))],[(c,Blk.cells [.lst 4 (a0.gP.gd.map Kt) .no,.lst 5 (a0.gP.gi.map KA) .no,tD a0.gF.ga,.lst 2 (a0.gF.gf.map Ku) .no,.lst 2 (a0.gF.gh.map Ku) .no,.lst 7 (a0.gF.gp.map Kh) .no,iD a0.gF.gb] 150),(f,Blk.cells (CZ0 b .no) 127)],[]⟩:S)) ?_ ?_
 ·clear a;have a:=KE x;refine ZW ?_
  refine KaH (i:=14) rfl (fun l=>?_) (fun l=>?_)
  ·replace a:=yes_t l a;iterate 5 refine pK ?_
   refine ZB ?_;exact Yy a
  replace a:=yes_f l a;refine ZP ?_;refine Yk ?_;refine Zl ?_;exact Xf a
 intro s5 Z;have a:=y;clear x y;refine Zb Z fun X=>?_;obtain ⟨x9,z,m⟩:=Ka a;refine KaG (τ:=Unit) (Y:=Unit) (fun y9 z9=>(⟨[(2,.ptr c 0),(3,.ptr f 0)],[(c,Blk.cells [.lst 4 (a0.gP.gd.map Kt) .no,.lst 5 (a0.gP.gi.map KA) .no,tD a0.gF.ga,.lst 2 (a0.gF.gf.map Ku) .no,.lst 2 (a0.gF.gh.map Ku) .no,.lst 7 (a0.gF.gp.map Kh) .no,iD a0.gF.gb] 150),(f,Blk.cells (CZ0 b .no) 127)],[]⟩:S)) x9 ?_ ?_
 ·clear a;have a:=KE z;refine cY a (fun a=>?_) fun a=>?_
  ·refine Kz ?_;refine ZP ?_;obtain ⟨ad,A,a⟩:=Ka a;rcases ad with ae|af
   ·refine Zj a fun a=>?_;refine Kbg (Kbn b.gb (2:Int) (.inl ae) A) rfl rfl rfl Wl Pf Pf ?_;obtain rfl:=Kf a;refine Kar ?_;have a:=m;exact Yd a
   refine Zk a fun a=>?_;refine K5 (Kbn b.gb (2:Int) (.inr af) A) rfl rfl rfl rfl rfl Wl ?_;exact Xx a
  refine Kx ?_;exact Y6 a
 intro y9 s9 ag ah;subst ag;have a:=m;refine Zj a fun a=>?_;clear z m;refine Zb ah fun z9=>?_;refine Kd ?_;refine Yu ?_;refine ZP ?_;obtain ⟨ai,B,a⟩:=Ka a;rcases ai with aj|n
 ·refine Zj a fun a=>?_;refine Kbg (w a0 b.gc (.inl aj) B) rfl rfl rfl Wl Pf Pf ?_;exact YG a
 refine Zk a fun a=>?_;refine pG (w a0 b.gc (.inr n) B) Wl Pf Pf ?_;refine ZL fun j=>?_;refine Zz ?_;refine ZA a fun ak E F=>?_
 refine Kaf (Y:=Unit) (fun al=>(⟨[(2,.ptr c 0),(3,.ptr f 0),(6,.lst 1 (n.map eI64) (.cur j)),(35,.v (.bool ak))],[(c,Blk.cells [.lst 4 (a0.gP.gd.map Kt) .no,.lst 5 (a0.gP.gi.map KA) .no,tD a0.gF.ga,.lst 2 (a0.gF.gf.map Ku) .no,.lst 2 (a0.gF.gh.map Ku) .no,.lst 7 (a0.gF.gp.map Kh) .no,iD a0.gF.gb] 150),(f,Blk.cells (CZ0 b .no) 127)],[(1,j)]⟩:S)) ?_ ?_
 ·clear a;have a:=KE E;refine Kz ?_;refine ZP ?_;refine Zl ?_;refine KaH (i:=31) rfl (fun o=>?_) (fun o=>?_)
  ·replace a:=yes_t o a;iterate 3 refine pK ?_
   refine ZB ?_;exact YK a
  replace a:=yes_f o a;refine ZP ?_;refine pu ?_;refine ZE ?_;exact YK a
 intro cc am;have a:=F;clear E F;refine Zb am fun al=>?_;refine cY a (fun a=>?_) fun a=>?_
 ·refine Km ?_;refine ZA a fun cd an a=>?_;obtain ⟨ce,ao,a⟩:=Ka a;refine Kaj 6 [] [[],[0],[0,1],[],[3],[3,4]] [0,1,3,4] [[],[0],[0,1],[],[3],[3,4],[0,1,2,3,4,5]] (by kernel_rfl) (by kernel_rfl) (by kernel_rfl) (by rfl) (by rfl) (by kernel_rfl) ?_;iterate 4 apply Exists.intro
  intro bs;refine zep ?_;refine XK an ?_;refine zep ?_;refine XK ao ?_;refine ZC ?_;refine Zv ?_;obtain ⟨ap,H,p⟩:=Ka a;refine KaG (τ:=Unit) (Y:=Unit) (fun aq ar=>(⟨[],[],[]⟩:S)) ap ?_ ?_
  ·clear a;have a:=KE H;refine cY a (fun a=>?_) fun a=>?_
   ·refine Kz ?_;refine ZP ?_;refine ZX a fun q cf a=>?_;refine p_eq (i:=45) rfl (Wk.of_eq (congrArg D.el (Ko q))) ?_;refine pu ?_;refine YU ?_;obtain ⟨au,I,a⟩:=Ka a;rcases au with av|aw
    ·refine Zj a fun a=>?_;refine Kbg (Kbn q.gb (9:Int) (.inl av) I) rfl rfl rfl Wl Pf Pf ?_;obtain rfl:=Kf a;refine Kar ?_;have a:=p;refine Zk a fun a=>?_
     refine Kab ?_;exact YG a
    refine Zk a fun a=>?_;refine K5 (Kbn q.gb (9:Int) (.inr aw) I) rfl rfl rfl rfl rfl Wl ?_;rintro _ rfl;refine KC ?_;obtain rfl:=Kf a;refine Kat ?_;exact wO (wP wN)
   refine Kx ?_;obtain rfl:=Kf a;refine Kat ?_;exact wO (wP wN)
  intro aq cg ax ay;subst ax;have a:=p;refine Zj a fun a=>?_;clear H p;refine Zb ay fun ar=>?_;refine Ye ?_;exact Wn a
 refine ZO ?_;refine Yw ?_;refine ZF ?_;obtain ⟨az,J,s⟩:=Ka a
 refine KaG (τ:=Unit) (Y:=Unit) (fun ba bb=>(⟨[(2,.ptr c 0),(3,.ptr f 0)],[(c,Blk.cells [.lst 4 (a0.gP.gd.map Kt) .no,.lst 5 (a0.gP.gi.map KA) .no,tD a0.gF.ga,.lst 2 (a0.gF.gf.map Ku) .no,.lst 2 (a0.gF.gh.map Ku) .no,.lst 7 (a0.gF.gp.map Kh) .no,iD a0.gF.gb] 150),(f,Blk.cells (CZ0 b .no) 127)],[]⟩:S)) az ?_ ?_
 ·clear a;have a:=KE J;refine Zy a fun ch bc K=>?_;refine KaO (Y:=Unit) bc (fun L bd=>(⟨[(2,.ptr c 0),(3,.ptr f 0),(6,.lst 1 (n.map eI64) (.cur j)),(50,.lst 5 (b.gc.map Kk) .no),(51,iD (b.gc.length:Int)),(52,iD L)],[(c,Blk.cells [.lst 4 (a0.gP.gd.map Kt) .no,.lst 5 (a0.gP.gi.map KA) .no,tD a0.gF.ga,.lst 2 (a0.gF.gf.map Ku) .no,.lst 2 (a0.gF.gh.map Ku) .no,.lst 7 (a0.gF.gp.map Kh) .no,iD a0.gF.gb] 150),(f,Blk.cells (CZ0 b .no) 127)],[(1,j)]⟩:S)) ?_ ?_
  ·skip
   exact YB
  intro G57 L bd a;refine Zn ?_;refine cY a (fun a=>?_) fun a=>?_
  ·refine Z0 ?_;refine Zd ?_;refine ZX a fun t ci a=>?_;refine p_eq (i:=55) rfl (Wk.of_eq (congrArg D.el (Ko t))) ?_;refine Y5 ?_;refine Zq fun cj=>?_;refine pu ?_;refine pS2 (ds':=(CZ0 t .no)) ?_;refine Kb ?_
   obtain ⟨cl,be,a⟩:=Ka a;refine Kaj 5 [] [[],[],[],[1],[1,3]] [0,1,3] [[],[],[],[1,2],[1,2,3],[0,1,2,3,4]] (by kernel_rfl) (by kernel_rfl) (by kernel_rfl) (by rfl) (by rfl) (by kernel_rfl) ?_;iterate 3 apply Exists.intro
   intro bs;refine z_eM rfl rfl (KN (d:=.agg (CZ0 t .no)) 2 htab rfl rfl rfl rfl rfl) rfl rfl rfl rfl rfl rfl ?_;refine zep ?_;refine zqp ?_;refine XK be ?_;refine ZC ?_;obtain ⟨bf,M,a⟩:=Ka a;rcases bf with cm|cn
   ·refine X3 a M fun a=>?_;refine KaC ?_;refine Kab ?_;obtain rfl:=K6 a;have a:=K
    refine Yv ?_;obtain rfl:=Kf a;refine Kar ?_;have a:=s;exact Yd a
   refine X2 a M fun a=>?_;refine Yf a ?_;exact YB
  refine Zs ?_;obtain rfl:=K6 a;have a:=K
  refine Z9 ?_;exact Y6 a
 intro ba co bg bh;subst bg;have a:=s;refine Zj a fun a=>?_;clear J s;refine Zb bh fun bb=>?_;refine Km ?_;refine Yw ?_;refine XM ?_;refine cY a (fun a=>?_) fun a=>?_
 ·refine Kd ?_;refine Yu ?_;refine ZP ?_;refine ZP ?_;refine ZJ ?_;refine p_eq (i:=73) (d':=.lst 1 (qZ23.map eI64) .full) rfl (Wk.lst0 (.cons (WkC.refl _) (.cons (WkC.refl _) (.nil)))) ?_;obtain ⟨bi,N,a⟩:=Ka a;rcases bi with bj|bk
  ·refine Zj a fun a=>?_;refine Kbg (KaP a0 b.ga b.gb qZ23 (.inl bj) N) rfl rfl rfl (WkL.cons (Wk.refl _) (WkL.cons (Wk.refl _) (WkL.cons (Wk.refl _) (WkL.cons (Wk.no) Wl)))) Pf Pf ?_;refine Yv ?_;exact YG a
  refine Zk a fun a=>?_;refine K5 (KaP a0 b.ga b.gb qZ23 (.inr bk) N) rfl rfl rfl rfl rfl (WkL.cons (Wk.refl _) (WkL.cons (Wk.refl _) (WkL.cons (Wk.refl _) (WkL.cons (Wk.no) Wl)))) ?_;exact WS a
 refine Ze ?_;refine cY a (fun a=>?_) fun a=>?_
 ·refine XL ?_;refine p_eq (i:=82) (d':=.lst 1 (qZ26.map eI64) .full) rfl (Wk.lst0 (.cons (WkC.refl _) (.nil))) ?_;obtain ⟨bl,O,a⟩:=Ka a;rcases bl with bm|bn
  ·refine Zj a fun a=>?_;refine Kbg (KaP a0 b.ga b.gb qZ26 (.inl bm) O) rfl rfl rfl (WkL.cons (Wk.refl _) (WkL.cons (Wk.refl _) (WkL.cons (Wk.refl _) (WkL.cons (Wk.no) Wl)))) Pf Pf ?_;refine KaC ?_;exact YG a
  refine Zk a fun a=>?_;refine K5 (KaP a0 b.ga b.gb qZ26 (.inr bn) O) rfl rfl rfl rfl rfl (WkL.cons (Wk.refl _) (WkL.cons (Wk.refl _) (WkL.cons (Wk.refl _) (WkL.cons (Wk.no) Wl)))) ?_;rintro _ rfl;refine YQ ?_;refine ZY ?_;exact Wn a
 refine Ze ?_;refine cY a (fun a=>?_) fun a=>?_
 ·refine XL ?_;refine p_eq (i:=91) (d':=.lst 1 (qZ27.map eI64) .full) rfl (Wk.lst0 (.cons (WkC.refl _) (.nil))) ?_;obtain ⟨bo,P,a⟩:=Ka a;rcases bo with bp|bq
  ·refine Zj a fun a=>?_;refine Kbg (KaP a0 b.ga b.gb qZ27 (.inl bp) P) rfl rfl rfl (WkL.cons (Wk.refl _) (WkL.cons (Wk.refl _) (WkL.cons (Wk.refl _) (WkL.cons (Wk.no) Wl)))) Pf Pf ?_;refine KaC ?_;exact YG a
  refine Zk a fun a=>?_;refine K5 (KaP a0 b.ga b.gb qZ27 (.inr bq) P) rfl rfl rfl rfl rfl (WkL.cons (Wk.refl _) (WkL.cons (Wk.refl _) (WkL.cons (Wk.refl _) (WkL.cons (Wk.no) Wl)))) ?_;rintro _ rfl;refine YQ ?_;refine ZY ?_;exact Wn a
 refine Ze ?_;refine cY a (fun a=>?_) fun a=>?_
 ·refine Yg ?_;obtain rfl:=Kf a;refine Kcw ?_;refine rP (t':=[(4,iD (2:Int))]) [] [] 0 (wC wN) (lT lN) ?_;exact Za
 refine Ze ?_;refine cY a (fun a=>?_) fun a=>?_
 ·refine Kd ?_;refine Yu ?_;refine Xw ?_;obtain ⟨br,Q,a⟩:=Ka a;rcases br with bt|bu
  ·refine Zj a fun a=>?_;refine Kbg (Kdt a0 b (1:Int) (.inl bt) Q) rfl rfl rfl (WkL.cons (Wk.refl _) (WkL.cons (Wk.trans (Wk.agg (WkR.refl _)) (Wk.of_eq (Ko b).symm)) (WkL.cons (Wk.refl _) Wl))) Pf Pf ?_;refine Yv ?_;exact YG a
  refine Zk a fun a=>?_;refine K5 (Kdt a0 b (1:Int) (.inr bu) Q) rfl rfl rfl rfl rfl (WkL.cons (Wk.refl _) (WkL.cons (Wk.trans (Wk.agg (WkR.refl _)) (Wk.of_eq (Ko b).symm)) (WkL.cons (Wk.refl _) Wl))) ?_;exact WS a
 refine Ze ?_;refine cY a (fun a=>?_) fun a=>?_
 ·refine Kd ?_;refine Yu ?_;refine Xw ?_;obtain ⟨bv,T,a⟩:=Ka a;rcases bv with bw|bx
  ·refine Zj a fun a=>?_;refine Kbg (Kdt a0 b (3:Int) (.inl bw) T) rfl rfl rfl (WkL.cons (Wk.refl _) (WkL.cons (Wk.trans (Wk.agg (WkR.refl _)) (Wk.of_eq (Ko b).symm)) (WkL.cons (Wk.refl _) Wl))) Pf Pf ?_;refine Yv ?_;exact YG a
  refine Zk a fun a=>?_;refine K5 (Kdt a0 b (3:Int) (.inr bx) T) rfl rfl rfl rfl rfl (WkL.cons (Wk.refl _) (WkL.cons (Wk.trans (Wk.agg (WkR.refl _)) (Wk.of_eq (Ko b).symm)) (WkL.cons (Wk.refl _) Wl))) ?_;exact WS a
 refine ZK ?_;refine ZY ?_;exact Wn a
def Kad:Nat→((KS)→(List Ke)→Option ((Int×Int)⊕(List Int)))×((KS)→(Ke)→Option ((Int×Int)⊕(Int)))
 | 0=>(fun _ _=>none,fun _ _=>none)
 | n+1=>(Kch ((Kad n).1) ((Kad n).2),Kci ((Kad n).1) ((Kad n).2))
theorem KfP:∀ n,(∀ (a0:KS) (a:List Ke) (r:(Int×Int)⊕(List Int)) (h0:(Kad n).1 a0 a=some r),KbV zc Tryz.prog 116 [Kag a0,.lst 5 (a.map Kk) .no] [] [] r (fun r d h k=>∃ b,d=.lst 1 (r.map eI64) (.cur b)∧h=[]∧k=[(1,b)]))∧(∀ (a0:KS) (a:Ke) (r:(Int×Int)⊕(Int)) (h0:(Kad n).2 a0 a=some r),KbV zc Tryz.prog 129 [Kag a0,Kk a] [] [] r (fun r d h k=>d=iD r∧h=[]∧k=[]))
 | 0=>⟨(fun _ _ _ h0=>by cases h0),(fun _ _ _ h0=>by cases h0)⟩
 |
  n+1=>by
  have ih:=KfP n;exact ⟨Kiy ((Kad n).1) ((Kad n).2) (ih.1) (ih.2),Kiz ((Kad n).1) ((Kad n).2) (ih.1) (ih.2)⟩
theorem KfQ:∀ n,(∀ (a0:KS) (a:List Ke),Le ((Kad n).1 a0 a) ((Kad (n+1)).1 a0 a))∧(∀ (a0:KS) (a:Ke),Le ((Kad n).2 a0 a) ((Kad (n+1)).2 a0 a))
 | 0=>⟨fun _ _=>Le.none _,fun _ _=>Le.none _⟩
 |
  n+1=>by
  have ih:=KfQ n
  exact ⟨fun a0 a=>by show Le (Kch ((Kad n).1) ((Kad n).2) a0 a) (Kch ((Kad (n+1)).1) ((Kad (n+1)).2) a0 a);revert ih;generalize Kad n=G0;generalize Kad (n+1)=G1;intro ih;unfold Kch;repeat (first|with_reducible exact Le.refl _|with_reducible exact ih.1 _ _|with_reducible exact ih.2 _ _|with_reducible assumption|(refine Le.bind ?_ (fun _=>?_))|(refine Le.cond ?_ ?_)|(refine Le.loop (fun _=>?_))|(refine Le.elim (fun _=>?_) (fun _=>?_))),fun a0 a=>by show Le (Kci ((Kad n).1) ((Kad n).2) a0 a) (Kci ((Kad (n+1)).1) ((Kad (n+1)).2) a0 a);revert ih;generalize Kad n=G0;generalize Kad (n+1)=G1;intro ih;unfold Kci;repeat (first|with_reducible exact Le.refl _|with_reducible exact ih.1 _ _|with_reducible exact ih.2 _ _|with_reducible assumption|(refine Le.bind ?_ (fun _=>?_))|(refine Le.cond ?_ ?_)|(refine Le.loop (fun _=>?_))|(refine Le.elim (fun _=>?_) (fun _=>?_)))⟩
def KeH (a0:KS)(a:List Ke):Option ((Int×Int)⊕(List Int)):=anyN fun n=>(Kad n).1 a0 a
theorem Kjz (a0:KS)(a:List Ke){r:(Int×Int)⊕(List Int)}(n:Nat)(h:(Kad n).1 a0 a=some r):KeH a0 a=some r:=KdY (fun m=>(KfQ m).1 a0 a) h
theorem Kgu (a0:KS)(a:List Ke)(r:(Int×Int)⊕(List Int))(h0:KeH a0 a=some r):KbV zc Tryz.prog 116 [Kag a0,.lst 5 (a.map Kk) .no] [] [] r (fun r d h k=>∃ b,d=.lst 1 (r.map eI64) (.cur b)∧h=[]∧k=[(1,b)]):=
 let ⟨n,hn⟩:=Kc4 h0;(KfP n).1 a0 a r hn
abbrev qZ28:List Int:=[(1:Int)]
def Kd2 (a0:KS)(a:Kj)(e:List Int):Option ((Int×Int)⊕(Unit)):=
 (Option.bind (α:=(Unit)⊕((Int×Int)⊕(Unit))) (loopM (fun (d:Int)=>(bif (decide (d < (a0.gP.gi.length:Int))) then ((idx a0.gP.gi d).bind fun c=>(bif (!decide (c.ga=a.gu)) then some (.next (IntKind.i64.wrap (d+(1:Int)))) else (Option.bind (α:=(Unit)⊕((Int×Int)⊕(Unit))) (bif ((c.gf.length:Int) != (e.length:Int)) then ((KbL a.gb (2:Int)).bind fun f=>Sum.elim (fun g=>some (.inr (.inl g))) (fun s=>some (.inl ())) f) else some (.inl ())) (Sum.elim (fun t=>(Option.bind (α:=(Unit)⊕((Int×Int)⊕(Unit))) (loopM (fun (b:Int)=>(bif (decide (b < (c.gf.length:Int))) then ((idx c.gf b).bind fun h=>((Kdy h.gz).bind fun i=>((idx e b).bind fun j=>(bif (i != j) then ((idx a.go b).bind fun k=>((KbL k.gb (9:Int)).bind fun l=>Sum.elim (fun m=>some (.done (.inr (.inl m)))) (fun u=>some (.next (IntKind.i64.wrap (b+(1:Int))))) l)) else some (.next (IntKind.i64.wrap (b+(1:Int)))))))) else some (.done (.inl ())))) (0:Int)) (Sum.elim (fun v=>(bif (!decide (a.ga=(ByteArray.mk #[]))) then ((KbF a0 a.ga a.gb qZ28).bind fun n=>Sum.elim (fun o=>some (.done (.inr (.inl o)))) (fun w=>some (.done (.inr (.inr ())))) n) else some (.done (.inr (.inr ()))))) (fun r=>some (.done (.inr r)))))) (fun r=>some (.done (.inr r))))))) else some (.done (.inl ())))) (0:Int)) (Sum.elim (fun x=>((KbL a.gb (7:Int)).bind fun p=>Sum.elim (fun q=>some (.inl q)) (fun y=>some (.inr ())) p)) (fun r=>some r)))
theorem ZG {R G:Prop}(h:R)(k:R→G:=by intro h;refine Kb ?_;refine Kr ?_;exact h):G:=k h
theorem Yh {R G:Prop}(h:R)(k:R→G:=by intro h;refine ZG ?_;refine KI ?_;refine Ky ?_;exact h):G:=k h
theorem X4 {R G:Prop}(h:R)(k:R→G:=by intro h;refine KaK (d:=KA _) htab rfl rfl rfl rfl rfl rfl rfl rfl ?_;exact h):G:=k h
theorem XN {G:Prop}{I:Sort _}{R:(u:I)→Prop}(h:∀ u,R u)(k:(∀ u,R u)→G:=by intro h;refine w_eq (i:=1) rfl (Wk.of_eq (Kv _)) ?_;refine ZH fun _l=>?_;exact h _l):G:=k h
theorem YL {R G:Prop}(h:R)(k:R→G:=by intro h;refine Yk ?_;refine pu ?_;exact h):G:=k h
theorem Kgv (a0:KS)(b:Kj)(l:List Int)(r:(Int×Int)⊕(Unit))(h0:Kd2 a0 b l=some r):KbV zc Tryz.prog 119 [Kag a0,Kh b,.lst 1 (l.map eI64) .no] [] [] r (fun r d h k=>d=.tup []∧h=[]∧k=[]):=by
 refine PZ0 h0 Tryz.func119 fun C a=>?_;refine XN fun e=>?_;refine YJ fun c=>?_;refine Zr ?_;refine ZM ?_;refine pL 0 ?_;refine ZF ?_;obtain ⟨J,s,f⟩:=Ka a
 refine KaG (τ:=Unit) (Y:=Unit) (fun K L=>(⟨[(4,.ptr c 0)],[(c,Blk.cells (CZ2 b .no .no .no) 98)],[]⟩:S)) J ?_ ?_
 ·clear a;have a:=KE s;refine Zy a fun aw M g=>?_
  refine KaO (Y:=Unit) M (fun t N=>(⟨[(2,.lst 1 (l.map eI64) .no),(3,.ptr e 0),(4,.ptr c 0),(12,.lst 5 (a0.gP.gi.map KA) .no),(13,iD (a0.gP.gi.length:Int)),(14,iD t)],[(e,Blk.cells [.lst 4 (a0.gP.gd.map Kt) .no,.lst 5 (a0.gP.gi.map KA) .no,tD a0.gF.ga,.lst 2 (a0.gF.gf.map Ku) .no,.lst 2 (a0.gF.gh.map Ku) .no,.lst 7 (a0.gF.gp.map Kh) .no,iD a0.gF.gb] 150),(c,Blk.cells (CZ2 b .no .no .no) 98)],[]⟩:S)) ?_ ?_
  ·skip
   exact YB
  intro G208 t N a;refine Zn ?_;refine cY a (fun a=>?_) fun a=>?_
  ·refine Z7 a fun m ax a=>?_;refine X4 ?_;refine Zq fun w=>?_;refine pS2 (ds':=(CZ3 m .no .no .no)) ?_;refine Zr ?_;refine Zd ?_;refine pL 2 ?_;refine ZP ?_;refine Zv ?_
   refine cY a (fun a=>?_) fun a=>?_
   ·refine Zs ?_;refine Kan ?_;refine Kc ?_;refine ZU ?_;refine KC ?_;refine Kc ⟨_,Kaw a,?_⟩;exact YB
   refine ZO ?_;refine Zd ?_;refine pL 2 ?_;refine YL ?_;refine ZF ?_;obtain ⟨O,x,n⟩:=Ka a
   refine KaG (τ:=Unit) (Y:=Unit) (fun P Q=>(⟨[(2,.lst 1 (l.map eI64) .no),(3,.ptr e 0),(4,.ptr c 0),(7,.ptr w 0)],[(e,Blk.cells [.lst 4 (a0.gP.gd.map Kt) .no,.lst 5 (a0.gP.gi.map KA) .no,tD a0.gF.ga,.lst 2 (a0.gF.gf.map Ku) .no,.lst 2 (a0.gF.gh.map Ku) .no,.lst 7 (a0.gF.gp.map Kh) .no,iD a0.gF.gb] 150),(c,Blk.cells (CZ2 b .no .no .no) 98),(w,Blk.cells (CZ3 m .no .no .no) 40)],[]⟩:S)) O ?_ ?_
   ·clear a;have a:=KE x;refine cY a (fun a=>?_) fun a=>?_
    ·refine Kz ?_;refine ZP ?_;obtain ⟨T,y,a⟩:=Ka a;rcases T with U|V
     ·refine Zj a fun a=>?_;refine Kbg (Kbn b.gb (2:Int) (.inl U) y) rfl rfl rfl Wl Pf Pf ?_;obtain rfl:=Kf a;refine Kar ?_;have a:=n;refine Zk a fun a=>?_
      refine Yv ?_;refine Kab ?_;obtain rfl:=K6 a;have a:=g
      refine Yv ?_;obtain rfl:=Kf a;refine Kar ?_;have a:=f;exact Yd a
     refine Zk a fun a=>?_;refine K5 (Kbn b.gb (2:Int) (.inr V) y) rfl rfl rfl rfl rfl Wl ?_;rintro _ rfl;refine KC ?_;obtain rfl:=Kf a;refine Kat ?_;exact ZI
    refine Kx ?_;obtain rfl:=Kf a;refine Kat ?_;exact ZI
   intro P ay W X;subst W;have a:=n;refine Zj a fun a=>?_;clear x n;refine Zb X fun Q=>?_;refine Km ?_;refine Zd ?_;refine pL 2 ?_;refine ZF ?_;obtain ⟨Z,z,o⟩:=Ka a
   refine KaG (τ:=Unit) (Y:=Unit) (fun aa ab=>(⟨[(3,.ptr e 0),(4,.ptr c 0)],[(e,Blk.cells [.lst 4 (a0.gP.gd.map Kt) .no,.lst 5 (a0.gP.gi.map KA) .no,tD a0.gF.ga,.lst 2 (a0.gF.gf.map Ku) .no,.lst 2 (a0.gF.gh.map Ku) .no,.lst 7 (a0.gF.gp.map Kh) .no,iD a0.gF.gb] 150),(c,Blk.cells (CZ2 b .no .no .no) 98)],[]⟩:S)) Z ?_ ?_
   ·clear a;have a:=KE z;refine Zy a fun az ac A=>?_
    refine KaO (Y:=Unit) ac (fun B ad=>(⟨[(2,.lst 1 (l.map eI64) .no),(3,.ptr e 0),(4,.ptr c 0),(33,.lst 2 (m.gf.map Ku) .no),(34,iD (m.gf.length:Int)),(35,iD B)],[(e,Blk.cells [.lst 4 (a0.gP.gd.map Kt) .no,.lst 5 (a0.gP.gi.map KA) .no,tD a0.gF.ga,.lst 2 (a0.gF.gf.map Ku) .no,.lst 2 (a0.gF.gh.map Ku) .no,.lst 7 (a0.gF.gp.map Kh) .no,iD a0.gF.gb] 150),(c,Blk.cells (CZ2 b .no .no .no) 98)],[]⟩:S)) ?_ ?_
    ·skip
     exact YB
    intro G381 B ad a;refine Zn ?_;refine cY a (fun a=>?_) fun a=>?_
    ·refine Z0 ?_;refine Zd ?_;refine ZX a fun p ba a=>?_;refine X1 fun bb=>?_;refine pu ?_;refine pS2 (ds':=[tD p.ga,.v (.bool p.gz)]) ?_;refine Zr ?_;obtain ⟨ae,af,a⟩:=Ka a;obtain ⟨bc,ag,a⟩:=Ka a
     refine Kaj 7 [] [[],[0],[0],[],[],[3],[3,5]] [0,2,3,5] [[],[0],[0,1],[],[],[3,4],[3,4,5],[0,1,2,3,4,5,6]] (by kernel_rfl) (by kernel_rfl) (by kernel_rfl) (by rfl) (by rfl) (by kernel_rfl) ?_;iterate 4 apply Exists.intro
     intro bs;refine zep ?_;refine z_qM rfl rfl (KN 2 htab rfl rfl rfl rfl rfl) rfl rfl rfl rfl rfl rfl ?_;refine Kcg rfl rfl (Kgj p.gz ae af) rfl rfl Wl rfl rfl rfl rfl rfl rfl ?_;refine zep ?_;refine zqp ?_;refine XK ag ?_;refine ZC ?_;refine Zv ?_;refine cY a (fun a=>?_) fun a=>?_
     ·refine Kz ?_;refine ZP ?_;refine pu ?_;refine ZX a fun q bd a=>?_;refine p_eq (i:=51) rfl (Wk.of_eq (congrArg D.el (Ko q))) ?_;refine pu ?_;refine YU ?_;obtain ⟨ah,E,a⟩:=Ka a;rcases ah with ai|aj
      ·refine Zj a fun a=>?_;refine Kbg (Kbn q.gb (9:Int) (.inl ai) E) rfl rfl rfl Wl Pf Pf ?_;refine KaC ?_;refine Kab ?_;obtain rfl:=K6 a;have a:=A
       refine Yv ?_;obtain rfl:=Kf a;refine Kar ?_;have a:=o;refine Zk a fun a=>?_
       refine Yv ?_;refine Kab ?_;obtain rfl:=K6 a;have a:=g
       refine Yv ?_;obtain rfl:=Kf a;refine Kar ?_;have a:=f;exact Yd a
      refine Zk a fun a=>?_;refine K5 (Kbn q.gb (9:Int) (.inr aj) E) rfl rfl rfl rfl rfl Wl ?_;rintro _ rfl;refine Yf a ?_;exact YB
     refine Kx ?_;refine Y1 a ?_;exact YB
    refine Zs ?_;obtain rfl:=K6 a;have a:=A
    refine Z9 ?_;exact Y6 a
   intro aa be ak al;subst ak;have a:=o;refine Zj a fun a=>?_;clear z o;refine Zb al fun ab=>?_;refine Km ?_;refine Yw ?_;refine Zv ?_;refine cY a (fun a=>?_) fun a=>?_
   ·refine XL ?_;refine p_eq (i:=64) (d':=.lst 1 (qZ28.map eI64) .full) rfl (Wk.lst0 (.cons (WkC.refl _) (.nil))) ?_;obtain ⟨am,F,a⟩:=Ka a;rcases am with an|ao
    ·refine Zj a fun a=>?_;refine Kbg (KaP a0 b.ga b.gb qZ28 (.inl an) F) rfl rfl rfl (WkL.cons (Wk.refl _) (WkL.cons (Wk.refl _) (WkL.cons (Wk.refl _) (WkL.cons (Wk.no) Wl)))) Pf Pf ?_;refine Yv ?_;refine Kab ?_;obtain rfl:=K6 a;have a:=g
     refine Yv ?_;obtain rfl:=Kf a;refine Kar ?_;have a:=f;exact Yd a
    refine Zk a fun a=>?_;refine K5 (KaP a0 b.ga b.gb qZ28 (.inr ao) F) rfl rfl rfl rfl rfl (WkL.cons (Wk.refl _) (WkL.cons (Wk.refl _) (WkL.cons (Wk.refl _) (WkL.cons (Wk.no) Wl)))) ?_;rintro _ rfl;refine Yh ?_;obtain rfl:=K6 a;have a:=g
    refine ZQ ?_;obtain rfl:=Kf a;refine Ka4 ?_;have a:=f;refine Z1 a fun a=>?_
    exact XG a
   refine Zm ?_;refine Kr ?_;refine KI ?_;refine Ky ?_;obtain rfl:=K6 a;have a:=g
   refine ZQ ?_;obtain rfl:=Kf a;refine Ka4 ?_;have a:=f;refine Z1 a fun a=>?_
   exact XG a
  refine Zs ?_;obtain rfl:=K6 a;have a:=g
  refine Z9 ?_;obtain rfl:=Kf a;refine Kat ?_;exact wO (WkS.perm (wC wN) ((KZ (j:=1) rfl).trans (List.Perm.cons _ Pf)) Pf)
 intro K bf ap aq;subst ap;have a:=f;refine Zj a fun a=>?_;clear s f;refine Zb aq fun L=>?_;refine ZN ?_;refine pL 0 ?_;obtain ⟨ar,H,a⟩:=Ka a;rcases ar with au|av
 ·refine Zj a fun a=>?_;refine Kbg (Kbn b.gb (7:Int) (.inl au) H) rfl rfl rfl Wl Pf Pf ?_;obtain rfl:=Kf a;exact KaI
 refine Zk a fun a=>?_;refine K5 (Kbn b.gb (7:Int) (.inr av) H) rfl rfl rfl rfl rfl Wl ?_;rintro _ rfl;refine KC ?_;exact XG a
end
section
open Go
set_option maxRecDepth 100000
def Kb8 (g0:(KS)→(List Kj)→Option ((Int×Int)⊕(Unit)))(g1:(KS)→(Kj)→Option ((Int×Int)⊕(Unit)))(a0:KS)(b:List Kj):Option ((Int×Int)⊕(Unit)):=
 (Option.bind (α:=(Unit)⊕((Int×Int)⊕(Unit))) (loopM (fun (a:Int)=>(bif (decide (a < (b.length:Int))) then ((idx b a).bind fun c=>((g1 a0 c).bind fun d=>Sum.elim (fun e=>some (.done (.inr (.inl e)))) (fun f=>some (.next (IntKind.i64.wrap (a+(1:Int))))) d)) else some (.done (.inl ())))) (0:Int)) (Sum.elim (fun g=>some (.inr ())) (fun r=>some r)))
theorem XO {R G:Prop}(h:R)(k:R→G:=by intro h;refine Kaa (d:=.agg (CZ2 _ .no .no .no)) 1 htab rfl rfl rfl rfl rfl rfl rfl rfl ?_;exact h):G:=k h
theorem Wo {R G:Prop}(h:R)(k:R→G:=by intro h;refine KaK (d:=.agg (CZ2 _ .no .no .no)) htab rfl rfl rfl rfl rfl rfl rfl rfl ?_;exact h):G:=k h
def HZ2 (g:(KS)→(List Kj)→Option ((Int×Int)⊕(Unit))):Prop:=∀ (a0:KS) (b:List Kj) (r:(Int×Int)⊕(Unit)) (h0:g a0 b=some r),KbV zc Tryz.prog 82 [Kag a0,.lst 7 (b.map Kh) .no] [] [] r (fun r d h k=>d=.tup []∧h=[]∧k=[])
def HZ3 (g:(KS)→(Kj)→Option ((Int×Int)⊕(Unit))):Prop:=∀ (a0:KS) (b:Kj) (r:(Int×Int)⊕(Unit)) (h0:g a0 b=some r),KbV zc Tryz.prog 103 [Kag a0,Kh b] [] [] r (fun r d h k=>d=.tup []∧h=[]∧k=[])
theorem Kib (g0:(KS)→(List Kj)→Option ((Int×Int)⊕(Unit)))(g1:(KS)→(Kj)→Option ((Int×Int)⊕(Unit)))(A:HZ2 g0)(f:HZ3 g1)(a0:KS)(b:List Kj)(r:(Int×Int)⊕(Unit))(h0:Kb8 g0 g1 a0 b=some r):KbV zc Tryz.prog 82 [Kag a0,.lst 7 (b.map Kh) .no] [] [] r (fun r d h k=>d=.tup []∧h=[]∧k=[]):=by
 refine PZ0 h0 Tryz.func82 fun C a=>?_;refine ZH fun j=>?_;refine Zo ?_;refine ZF ?_;obtain ⟨p,l,e⟩:=Ka a;refine KaG (τ:=Unit) (Y:=Unit) (fun q s=>(⟨[],[],[]⟩:S)) p ?_ ?_
 ·clear a;have a:=KE l;refine Zy a fun B t m=>?_;refine KaO (Y:=Unit) t (fun n u=>(⟨[(2,.ptr j 0),(6,.lst 7 (b.map Kh) .no),(7,iD (b.length:Int)),(8,iD n)],[(j,Blk.cells [.lst 4 (a0.gP.gd.map Kt) .no,.lst 5 (a0.gP.gi.map KA) .no,tD a0.gF.ga,.lst 2 (a0.gF.gf.map Ku) .no,.lst 2 (a0.gF.gh.map Ku) .no,.lst 7 (a0.gF.gp.map Kh) .no,iD a0.gF.gb] 150)],[]⟩:S)) ?_ ?_
  ·skip
   exact ZI
  intro G19 n u a;refine Zn ?_;refine cY a (fun a=>?_) fun a=>?_
  ·refine Z7 a fun c E a=>?_;refine p_eq (i:=10) rfl (Wk.of_eq (congrArg D.el (Kv c))) ?_;refine Wo ?_;refine Zq fun F=>?_
   refine pS1 (ds':=(CZ2 c .no .no .no)) ?_;refine Kb ?_;refine Kz ?_;refine Yu ?_;refine XO ?_;obtain ⟨v,o,a⟩:=Ka a;rcases v with w|x
   ·refine Zj a fun a=>?_;refine Kbg (f a0 c (.inl w) o) rfl rfl rfl (WkL.cons (Wk.refl _) (WkL.cons (Wk.trans (Wk.agg (WkR.refl _)) (Wk.of_eq (Kv c).symm)) Wl)) Pf Pf ?_;refine KaC ?_;refine Kab ?_;obtain rfl:=K6 a;have a:=m
    refine Yv ?_;obtain rfl:=Kf a;refine Kar ?_;have a:=e;refine Zk a fun a=>?_
    obtain rfl:=Kf a;exact KaI
   refine Zk a fun a=>?_;refine K5 (f a0 c (.inr x) o) rfl rfl rfl rfl rfl (WkL.cons (Wk.refl _) (WkL.cons (Wk.trans (Wk.agg (WkR.refl _)) (Wk.of_eq (Kv c).symm)) Wl)) ?_;rintro _ rfl;refine Yf a ?_;exact ZI
  refine Zs ?_;obtain rfl:=K6 a;have a:=m
  exact Yn a
 intro q H y z;subst y;have a:=e;refine Zj a fun a=>?_;clear l e;obtain rfl:=Kf a;refine Kcw ?_;refine retX.wkX z (fun s=>?_);refine rP (t':=[]) [] [] 0 wN lN ?_;exact Za
def Kcj (g0:(KS)→(List Kj)→Option ((Int×Int)⊕(Unit)))(g1:(KS)→(Kj)→Option ((Int×Int)⊕(Unit)))(a0:KS)(a:Kj):Option ((Int×Int)⊕(Unit)):=
 ((Kgl a).bind fun c=>(Option.bind (α:=Bool) (bif (decide (c < (0:Int))) then some true else some ((a.go.length:Int) != c)) fun d=>(Option.bind (α:=(Unit)⊕((Int×Int)⊕(Unit))) (bif d then ((KbL a.gb (2:Int)).bind fun e=>Sum.elim (fun f=>some (.inr (.inl f))) (fun R=>some (.inl ())) e) else some (.inl ())) (Sum.elim (fun S=>((KeH a0 a.go).bind fun g=>Sum.elim (fun h=>some (.inl h)) (fun b=>(Option.bind (α:=(Unit)⊕((Int×Int)⊕(Unit))) (Option.bind (α:=(Unit)⊕((Int×Int)⊕(Unit))) (bif (a.gj==(1:Int)) then ((idx b (0:Int)).bind fun i=>((KbF a0 a.ga a.gb qZ23).bind fun j=>Sum.elim (fun k=>some (.inr (.inl k))) (fun l=>(Option.bind (α:=(Unit)⊕((Int×Int)⊕(Unit))) (bif (l != i) then ((KbL a.gb (9:Int)).bind fun m=>Sum.elim (fun n=>some (.inr (.inl n))) (fun T=>some (.inl ())) m) else some (.inl ())) (Sum.elim (fun U=>some (.inl ())) (fun r=>some (.inr r))))) j)) else (Option.bind (α:=(Unit)⊕((Int×Int)⊕(Unit))) (bif (a.gj==(2:Int)) then ((idx a.go (0:Int)).bind fun o=>((idx b (0:Int)).bind fun p=>((Kc1 o p).bind fun q=>Sum.elim (fun s=>some (.inr (.inl s))) (fun V=>((idx a.go (1:Int)).bind fun t=>((idx b (1:Int)).bind fun u=>((Kc1 t u).bind fun v=>Sum.elim (fun w=>some (.inr (.inl w))) (fun W=>((KbF a0 a.ga a.gb qZ26).bind fun x=>Sum.elim (fun y=>some (.inr (.inl y))) (fun X=>some (.inl ())) x)) v)))) q))) else (Option.bind (α:=(Unit)⊕((Int×Int)⊕(Unit))) (bif (a.gj==(3:Int)) then ((idx a.go (0:Int)).bind fun z=>((idx b (0:Int)).bind fun A=>((Kc1 z A).bind fun B=>Sum.elim (fun C=>some (.inr (.inl C))) (fun Y=>((KbF a0 a.ga a.gb qZ27).bind fun D=>Sum.elim (fun E=>some (.inr (.inl E))) (fun Z=>some (.inl ())) D)) B))) else (Option.bind (α:=(Unit)⊕((Int×Int)⊕(Unit))) (bif (a.gj==(4:Int)) then ((Kd2 a0 a b).bind fun F=>Sum.elim (fun G=>some (.inr (.inl G))) (fun aa=>some (.inl ())) F) else (Option.bind (α:=(Unit)⊕((Int×Int)⊕(Unit))) (bif (a.gj==(5:Int)) then ((KbF a0 a.ga a.gb qZ28).bind fun H=>Sum.elim (fun I=>some (.inr (.inl I))) (fun ab=>some (.inl ())) H) else ((idx a.go (0:Int)).bind fun J=>((idx b (0:Int)).bind fun K=>((Kc1 J K).bind fun L=>Sum.elim (fun M=>some (.inr (.inl M))) (fun ac=>some (.inl ())) L)))) (Sum.elim (fun ad=>some (.inl ())) (fun r=>some (.inr r))))) (Sum.elim (fun ae=>some (.inl ())) (fun r=>some (.inr r))))) (Sum.elim (fun af=>some (.inl ())) (fun r=>some (.inr r))))) (Sum.elim (fun ag=>some (.inl ())) (fun r=>some (.inr r))))) (Sum.elim (fun ah=>some (.inl ())) (fun r=>some (.inr r)))) (Sum.elim (fun ai=>((g0 a0 a.gc).bind fun N=>Sum.elim (fun O=>some (.inl O)) (fun aj=>((g0 a0 a.gq).bind fun P=>Sum.elim (fun Q=>some (.inl Q)) (fun ak=>some (.inr ())) P)) N)) (fun r=>some r)))) g)) (fun r=>some r)))))
theorem XP {A0 R G:Prop}(a0:A0)(h:R)(k:A0→R→G:=by intro _a h;refine z_e rfl rfl (Ex.wk (KO htab rfl rfl rfl rfl rfl rfl rfl (Ks _a) (KD _a)) (Wk.of_eq (congrArg D.el (Ko _)))) rfl rfl rfl rfl rfl rfl ?_;refine z_eM rfl rfl (KF (d:=.agg (CZ0 _ .no)) htab rfl rfl rfl rfl rfl) rfl rfl rfl rfl rfl rfl ?_;exact h):G:=k a0 h
theorem Xg {A0 A1 G:Prop}(a0:A0)(b:A1)(k:A0→A1→G:=by intro _a _b;obtain rfl:=Kf _a;refine Kat ?_;refine WkX.trans _b (fun _l=>?_);exact wO (wP (wC (wC wN)))):G:=k a0 b
theorem WT {R G:Prop}(h:R)(k:R→G:=by intro h;refine zep ?_;refine z_eM rfl rfl (KN 1 htab rfl rfl rfl rfl rfl) rfl rfl rfl rfl rfl rfl ?_;exact h):G:=k h
theorem Wp {A0 A1 R G:Prop}(a0:A0)(b:A1)(h:R)(k:A0→A1→R→G:=by intro _a _b h;refine WT ?_;refine XP _a ?_;refine zep ?_;refine XK _b ?_;refine ZC ?_;exact h):G:=k a0 b h
theorem KiA (g0:(KS)→(List Kj)→Option ((Int×Int)⊕(Unit)))(g1:(KS)→(Kj)→Option ((Int×Int)⊕(Unit)))(n:HZ2 g0)(di:HZ3 g1)(a0:KS)(b:Kj)(r:(Int×Int)⊕(Unit))(h0:Kcj g0 g1 a0 b=some r):KbV zc Tryz.prog 103 [Kag a0,Kh b] [] [] r (fun r d h k=>d=.tup []∧h=[]∧k=[]):=by
 refine PZ0 h0 Tryz.func103 fun C a=>?_;refine XN fun c=>?_;refine YJ fun e=>?_;refine Zr ?_;refine Kd ?_;refine XO ?_;obtain ⟨x3,q3,a⟩:=Ka a
 refine K5 (KlI b x3 q3) rfl rfl rfl rfl rfl (WkL.cons (Wk.trans (Wk.agg (WkR.refl _)) (Wk.of_eq (Kv b).symm)) Wl) ?_;rintro _ rfl;refine Zz ?_;obtain ⟨y5,w,x⟩:=Ka a
 refine Kaf (Y:=Unit) (fun z5=>(⟨[(2,.ptr c 0),(3,.ptr e 0),(16,.v (.bool y5))],[(c,Blk.cells [.lst 4 (a0.gP.gd.map Kt) .no,.lst 5 (a0.gP.gi.map KA) .no,tD a0.gF.ga,.lst 2 (a0.gF.gf.map Ku) .no,.lst 2 (a0.gF.gh.map Ku) .no,.lst 7 (a0.gF.gp.map Kh) .no,iD a0.gF.gb] 150),(e,Blk.cells (CZ2 b .no .no .no) 98)],[]⟩:S)) ?_ ?_
 ·clear a;have a:=KE w;refine ZW ?_
  refine KaH (i:=10) rfl (fun p=>?_) (fun p=>?_)
  ·replace a:=yes_t p a;iterate 5 refine pK ?_
   refine ZB ?_;exact Yy a
  replace a:=yes_f p a;refine ZP ?_;refine Yk ?_;refine Zl ?_;exact Xf a
 intro s5 ag;have a:=x;clear w x;refine Zb ag fun z5=>?_;obtain ⟨x9,y,q⟩:=Ka a;refine KaG (τ:=Unit) (Y:=Unit) (fun y9 z9=>(⟨[(2,.ptr c 0),(3,.ptr e 0)],[(c,Blk.cells [.lst 4 (a0.gP.gd.map Kt) .no,.lst 5 (a0.gP.gi.map KA) .no,tD a0.gF.ga,.lst 2 (a0.gF.gf.map Ku) .no,.lst 2 (a0.gF.gh.map Ku) .no,.lst 7 (a0.gF.gp.map Kh) .no,iD a0.gF.gb] 150),(e,Blk.cells (CZ2 b .no .no .no) 98)],[]⟩:S)) x9 ?_ ?_
 ·clear a;have a:=KE y;refine cY a (fun a=>?_) fun a=>?_
  ·refine Kz ?_;refine ZP ?_;obtain ⟨ak,z,a⟩:=Ka a;rcases ak with al|am
   ·refine Zj a fun a=>?_;refine Kbg (Kbn b.gb (2:Int) (.inl al) z) rfl rfl rfl Wl Pf Pf ?_;obtain rfl:=Kf a;refine Kar ?_;have a:=q;exact Yd a
   refine Zk a fun a=>?_;refine K5 (Kbn b.gb (2:Int) (.inr am) z) rfl rfl rfl rfl rfl Wl ?_;exact Xx a
  refine Kx ?_;exact Y6 a
 intro y9 s9 an ao;subst an;have a:=q;refine Zj a fun a=>?_;clear y q;refine Zb ao fun z9=>?_;refine Kd ?_;refine Yu ?_;refine ZP ?_;obtain ⟨ap,A,a⟩:=Ka a;rcases ap with aq|s
 ·refine Zj a fun a=>?_;refine Kbg (Kgu a0 b.go (.inl aq) A) rfl rfl rfl Wl Pf Pf ?_;exact YG a
 refine Zk a fun a=>?_;refine pG (Kgu a0 b.go (.inr s) A) Wl Pf Pf ?_;refine ZL fun dm=>?_;refine Zz ?_;refine Yw ?_;refine Kb ?_;obtain ⟨ar,B,f⟩:=Ka a
 refine KaG (τ:=Unit) (Y:=Unit) (fun au av=>(⟨[(2,.ptr c 0),(3,.ptr e 0)],[(c,Blk.cells [.lst 4 (a0.gP.gd.map Kt) .no,.lst 5 (a0.gP.gi.map KA) .no,tD a0.gF.ga,.lst 2 (a0.gF.gf.map Ku) .no,.lst 2 (a0.gF.gh.map Ku) .no,.lst 7 (a0.gF.gp.map Kh) .no,iD a0.gF.gb] 150),(e,Blk.cells (CZ2 b .no .no .no) 98)],[]⟩:S)) ar ?_ ?_
 ·clear a;have a:=KE B;refine KJ ?_;refine Ze ?_;obtain ⟨aw,E,g⟩:=Ka a
  refine KaG (τ:=Unit) (Y:=Unit) (fun ax dn=>(⟨[(2,.ptr c 0),(3,.ptr e 0)],[(c,Blk.cells [.lst 4 (a0.gP.gd.map Kt) .no,.lst 5 (a0.gP.gi.map KA) .no,tD a0.gF.ga,.lst 2 (a0.gF.gf.map Ku) .no,.lst 2 (a0.gF.gh.map Ku) .no,.lst 7 (a0.gF.gp.map Kh) .no,iD a0.gF.gb] 150),(e,Blk.cells (CZ2 b .no .no .no) 98)],[]⟩:S)) aw ?_ ?_
  ·clear a;have a:=KE E;refine cY a (fun a=>?_) fun a=>?_
   ·refine ZA a fun dp t a=>?_;obtain ⟨ay,F,a⟩:=Ka a;rcases ay with H|az
    ·refine Zj a fun a=>?_;refine Az.wpD_heavyZ (Zc:=zc) (pe:=H) (X:=Unit) 10 [] [[],[],[1],[],[3],[],[0,1,2,3,4,5],[],[7],[7,8]] [0,1,2,3,4,5,6,7,8,9] [[],[],[1],[],[3],[],[0,1,2,3,4,5],[],[7],[7,8],[0,1,2,3,4,5,6,7,8,9]] ⟨6,fun _=>[],fun _=>[],fun _=>False⟩ () ?_ (by kernel_rfl) (by kernel_rfl) (by kernel_rfl) (by rfl) (by rfl) (by kernel_rfl) ?_
     ·skip
      refine Kab ?_;obtain rfl:=Kf a;refine Kar ?_;have a:=g;refine Zk a fun a=>?_
      refine KaC ?_;obtain rfl:=Kf a;refine Kar ?_;have a:=f;exact Yd a
     iterate 10 apply Exists.intro
     intro bs;refine Az.zx_M rfl rfl (fun _=>KN (d:=Kag a0) 0 htab rfl rfl rfl rfl rfl) (fun _ _ hf=>hf.elim) rfl rfl rfl rfl rfl rfl rfl rfl ?_;refine Az.zx_e rfl rfl (Kam htab rfl) rfl rfl rfl rfl rfl rfl rfl rfl ?_;refine Az.zx_M rfl rfl (fun _=>KN 1 htab rfl rfl rfl rfl rfl) (fun _ _ hf=>hf.elim) rfl rfl rfl rfl rfl rfl rfl rfl ?_;refine Az.zx_e rfl rfl (Kam htab rfl) rfl rfl rfl rfl rfl rfl rfl rfl ?_;refine Az.zx_M rfl rfl (fun _=>KN 1 htab rfl rfl rfl rfl rfl) (fun _ _ hf=>hf.elim) rfl rfl rfl rfl rfl rfl rfl rfl ?_
     refine Az.zx_E rfl rfl (ExE.wk (x_lit htab rfl rfl rfl rfl rfl rfl rfl rfl rfl rfl rfl) (show Wk _ (.lst 1 (qZ23.map eI64) .full) from Wk.lst0 (.cons (WkC.refl _) (.cons (WkC.refl _) (.nil))))) rfl rfl rfl rfl rfl rfl rfl rfl ?_;refine Az.zx_callE (d:=iD (0:Int)) rfl rfl rfl (KaP a0 b.ga b.gb qZ23 (.inl H) F) rfl rfl (WkL.cons (Wk.refl _) (WkL.cons (Wk.refl _) (WkL.cons (Wk.refl _) (WkL.cons (Wk.no) Wl)))) Pf Pf rfl rfl rfl rfl rfl rfl ?_;refine Az.zx_e rfl rfl (Kam htab rfl) rfl rfl rfl rfl rfl rfl rfl rfl ?_
     refine Az.zx_e rfl rfl (KO htab rfl rfl rfl rfl rfl rfl rfl (Ks t) (KD t)) rfl rfl rfl rfl rfl rfl rfl rfl ?_;refine Az.zx_M rfl rfl (fun _=>KF htab rfl rfl rfl rfl rfl) (fun _ _ hf=>hf.elim) rfl rfl rfl rfl rfl rfl rfl rfl ?_;exact Az.zx_nil0 (fun _ h=>h) (by rfl)
    refine Zk a fun a=>?_;refine Kaj 10 [] [[],[],[1],[],[3],[],[0,1,3,5],[],[7],[7,8]] [0,1,3,5,6,7,8] [[],[],[1],[],[3],[],[0,1,2,3,4,5],[],[7],[7,8],[0,1,2,3,4,5,6,7,8,9]] (by kernel_rfl) (by kernel_rfl) (by kernel_rfl) (by rfl) (by rfl) (by kernel_rfl) ?_;iterate 7 apply Exists.intro
    intro bs;refine z_eM rfl rfl (KN (d:=Kag a0) 0 htab rfl rfl rfl rfl rfl) rfl rfl rfl rfl rfl rfl ?_;refine zep ?_;refine z_qM rfl rfl (KN 1 htab rfl rfl rfl rfl rfl) rfl rfl rfl rfl rfl rfl ?_;refine zep ?_;refine z_qM rfl rfl (KN 1 htab rfl rfl rfl rfl rfl) rfl rfl rfl rfl rfl rfl ?_;refine z_E rfl rfl (ExE.wk (x_lit htab rfl rfl rfl rfl rfl rfl rfl rfl rfl rfl rfl) (show Wk _ (.lst 1 (qZ23.map eI64) .full) from Wk.lst0 (.cons (WkC.refl _) (.cons (WkC.refl _) (.nil))))) rfl rfl rfl rfl rfl rfl ?_
    refine Kcg rfl rfl (KaP a0 b.ga b.gb qZ23 (.inr az) F) rfl rfl (WkL.cons (Wk.refl _) (WkL.cons (Wk.refl _) (WkL.cons (Wk.refl _) (WkL.cons (Wk.no) Wl)))) rfl rfl rfl rfl rfl rfl ?_;refine zep ?_;refine XK t ?_;refine ZC ?_;refine Zv ?_;obtain ⟨ba,I,u⟩:=Ka a
    refine KaG (τ:=Unit) (Y:=Unit) (fun bb dq=>(⟨[(2,.ptr c 0),(3,.ptr e 0)],[(c,Blk.cells [.lst 4 (a0.gP.gd.map Kt) .no,.lst 5 (a0.gP.gi.map KA) .no,tD a0.gF.ga,.lst 2 (a0.gF.gf.map Ku) .no,.lst 2 (a0.gF.gh.map Ku) .no,.lst 7 (a0.gF.gp.map Kh) .no,iD a0.gF.gb] 150),(e,Blk.cells (CZ2 b .no .no .no) 98)],[]⟩:S)) ba ?_ ?_
    ·clear a;have a:=KE I;refine cY a (fun a=>?_) fun a=>?_
     ·refine Kz ?_;refine ZP ?_;obtain ⟨bc,J,a⟩:=Ka a;rcases bc with bd|be
      ·refine Zj a fun a=>?_;refine Kbg (Kbn b.gb (9:Int) (.inl bd) J) rfl rfl rfl Wl Pf Pf ?_;obtain rfl:=Kf a;refine Kar ?_;have a:=u;refine Zk a fun a=>?_
       obtain rfl:=Kf a;refine Kar ?_;have a:=g;refine Zk a fun a=>?_
       refine KaC ?_;obtain rfl:=Kf a;refine Kar ?_;have a:=f;exact Yd a
      refine Zk a fun a=>?_;refine K5 (Kbn b.gb (9:Int) (.inr be) J) rfl rfl rfl rfl rfl Wl ?_;exact Xx a
     refine Kx ?_;exact Y6 a
    intro bb dr bf bg;subst bf;have a:=u;refine Zj a fun a=>?_;clear I u;exact Xg a bg
   refine Ze ?_;obtain ⟨bh,K,j⟩:=Ka a;refine KaG (τ:=Unit) (Y:=Unit) (fun bi ds=>(⟨[(2,.ptr c 0),(3,.ptr e 0)],[(c,Blk.cells [.lst 4 (a0.gP.gd.map Kt) .no,.lst 5 (a0.gP.gi.map KA) .no,tD a0.gF.ga,.lst 2 (a0.gF.gf.map Ku) .no,.lst 2 (a0.gF.gh.map Ku) .no,.lst 7 (a0.gF.gp.map Kh) .no,iD a0.gF.gb] 150),(e,Blk.cells (CZ2 b .no .no .no) 98)],[]⟩:S)) bh ?_ ?_
   ·clear a;have a:=KE K;refine cY a (fun a=>?_) fun a=>?_
    ·refine ZA a fun dt bj a=>?_;obtain ⟨du,bk,a⟩:=Ka a;refine Kaj 7 [] [[],[0],[0,1],[0,1,2],[],[4],[4,5]] [0,1,2,3,4,5] [[],[0],[0,1],[0,1,2],[],[4],[4,5],[0,1,2,3,4,5,6]] (by kernel_rfl) (by kernel_rfl) (by kernel_rfl) (by rfl) (by rfl) (by kernel_rfl) ?_;iterate 6 apply Exists.intro
     intro bs;refine Wp bj bk ?_
     obtain ⟨bl,L,a⟩:=Ka a;rcases bl with dv|dw
     ·refine X3 a L fun a=>?_;refine Kab ?_;obtain rfl:=Kf a;refine Kar ?_;have a:=j;refine Zk a fun a=>?_
      obtain rfl:=Kf a;refine Kar ?_;have a:=g;refine Zk a fun a=>?_
      refine KaC ?_;obtain rfl:=Kf a;refine Kar ?_;have a:=f;exact Yd a
     refine X2 a L fun a=>?_;refine Zr ?_;obtain ⟨dx,bm,a⟩:=Ka a;obtain ⟨dy,bn,a⟩:=Ka a;refine Kaj 7 [] [[],[0],[0,1],[0,1,2],[],[4],[4,5]] [0,1,2,3,4,5] [[],[0],[0,1],[0,1,2],[],[4],[4,5],[0,1,2,3,4,5,6]] (by kernel_rfl) (by kernel_rfl) (by kernel_rfl) (by rfl) (by rfl) (by kernel_rfl) ?_;iterate 6 apply Exists.intro
     intro bs;refine Wp bm bn ?_
     obtain ⟨bo,M,a⟩:=Ka a;rcases bo with dz|ea
     ·refine X3 a M fun a=>?_;refine Kab ?_;obtain rfl:=Kf a;refine Kar ?_;have a:=j;refine Zk a fun a=>?_
      obtain rfl:=Kf a;refine Kar ?_;have a:=g;refine Zk a fun a=>?_
      refine KaC ?_;obtain rfl:=Kf a;refine Kar ?_;have a:=f;exact Yd a
     refine X2 a M fun a=>?_;refine Kb ?_;refine XL ?_;refine p_eq (i:=73) (d':=.lst 1 (qZ26.map eI64) .full) rfl (Wk.lst0 (.cons (WkC.refl _) (.nil))) ?_;obtain ⟨bp,N,a⟩:=Ka a;rcases bp with bq|br
     ·refine Zj a fun a=>?_;refine Kbg (KaP a0 b.ga b.gb qZ26 (.inl bq) N) rfl rfl rfl (WkL.cons (Wk.refl _) (WkL.cons (Wk.refl _) (WkL.cons (Wk.refl _) (WkL.cons (Wk.no) Wl)))) Pf Pf ?_;obtain rfl:=Kf a;refine Kar ?_;have a:=j;refine Zk a fun a=>?_
      obtain rfl:=Kf a;refine Kar ?_;have a:=g;refine Zk a fun a=>?_
      refine KaC ?_;obtain rfl:=Kf a;refine Kar ?_;have a:=f;exact Yd a
     refine Zk a fun a=>?_;refine K5 (KaP a0 b.ga b.gb qZ26 (.inr br) N) rfl rfl rfl rfl rfl (WkL.cons (Wk.refl _) (WkL.cons (Wk.refl _) (WkL.cons (Wk.refl _) (WkL.cons (Wk.no) Wl)))) ?_;exact Xx a
    refine Ze ?_;obtain ⟨bt,O,l⟩:=Ka a;refine KaG (τ:=Unit) (Y:=Unit) (fun bu eb=>(⟨[(2,.ptr c 0),(3,.ptr e 0)],[(c,Blk.cells [.lst 4 (a0.gP.gd.map Kt) .no,.lst 5 (a0.gP.gi.map KA) .no,tD a0.gF.ga,.lst 2 (a0.gF.gf.map Ku) .no,.lst 2 (a0.gF.gh.map Ku) .no,.lst 7 (a0.gF.gp.map Kh) .no,iD a0.gF.gb] 150),(e,Blk.cells (CZ2 b .no .no .no) 98)],[]⟩:S)) bt ?_ ?_
    ·clear a;have a:=KE O;refine cY a (fun a=>?_) fun a=>?_
     ·refine ZA a fun ec bv a=>?_;obtain ⟨ed,bw,a⟩:=Ka a;refine Kaj 7 [] [[],[0],[0,1],[0,1,2],[],[4],[4,5]] [0,1,2,3,4,5] [[],[0],[0,1],[0,1,2],[],[4],[4,5],[0,1,2,3,4,5,6]] (by kernel_rfl) (by kernel_rfl) (by kernel_rfl) (by rfl) (by rfl) (by kernel_rfl) ?_;iterate 6 apply Exists.intro
      intro bs;refine Wp bv bw ?_
      obtain ⟨bx,P,a⟩:=Ka a;rcases bx with ee|ef
      ·refine X3 a P fun a=>?_;refine Kab ?_;obtain rfl:=Kf a;refine Kar ?_;have a:=l;refine Zk a fun a=>?_
       obtain rfl:=Kf a;refine Kar ?_;have a:=j;refine Zk a fun a=>?_
       obtain rfl:=Kf a;refine Kar ?_;have a:=g;refine Zk a fun a=>?_
       refine KaC ?_;obtain rfl:=Kf a;refine Kar ?_;have a:=f;exact Yd a
      refine X2 a P fun a=>?_;refine Kb ?_;refine XL ?_;refine p_eq (i:=90) (d':=.lst 1 (qZ27.map eI64) .full) rfl (Wk.lst0 (.cons (WkC.refl _) (.nil))) ?_;obtain ⟨bz,Q,a⟩:=Ka a;rcases bz with ca|cb
      ·refine Zj a fun a=>?_;refine Kbg (KaP a0 b.ga b.gb qZ27 (.inl ca) Q) rfl rfl rfl (WkL.cons (Wk.refl _) (WkL.cons (Wk.refl _) (WkL.cons (Wk.refl _) (WkL.cons (Wk.no) Wl)))) Pf Pf ?_;obtain rfl:=Kf a;refine Kar ?_;have a:=l;refine Zk a fun a=>?_
       obtain rfl:=Kf a;refine Kar ?_;have a:=j;refine Zk a fun a=>?_
       obtain rfl:=Kf a;refine Kar ?_;have a:=g;refine Zk a fun a=>?_
       refine KaC ?_;obtain rfl:=Kf a;refine Kar ?_;have a:=f;exact Yd a
      refine Zk a fun a=>?_;refine K5 (KaP a0 b.ga b.gb qZ27 (.inr cb) Q) rfl rfl rfl rfl rfl (WkL.cons (Wk.refl _) (WkL.cons (Wk.refl _) (WkL.cons (Wk.refl _) (WkL.cons (Wk.no) Wl)))) ?_;exact Xx a
     refine Ze ?_;obtain ⟨cc,T,m⟩:=Ka a;refine KaG (τ:=Unit) (Y:=Unit) (fun cd eg=>(⟨[(2,.ptr c 0),(3,.ptr e 0)],[(c,Blk.cells [.lst 4 (a0.gP.gd.map Kt) .no,.lst 5 (a0.gP.gi.map KA) .no,tD a0.gF.ga,.lst 2 (a0.gF.gf.map Ku) .no,.lst 2 (a0.gF.gh.map Ku) .no,.lst 7 (a0.gF.gp.map Kh) .no,iD a0.gF.gb] 150),(e,Blk.cells (CZ2 b .no .no .no) 98)],[]⟩:S)) cc ?_ ?_
     ·clear a;have a:=KE T;refine cY a (fun a=>?_) fun a=>?_
      ·refine Kz ?_;refine Yu ?_;refine XO ?_;refine pu ?_;obtain ⟨ce,U,a⟩:=Ka a;rcases ce with cf|cg
       ·refine Zj a fun a=>?_;refine Kbg (Kgv a0 b s (.inl cf) U) rfl rfl rfl (WkL.cons (Wk.refl _) (WkL.cons (Wk.trans (Wk.agg (WkR.refl _)) (Wk.of_eq (Kv b).symm)) (WkL.cons (Wk.no) Wl))) Pf Pf ?_;obtain rfl:=Kf a;refine Kar ?_;have a:=m;refine Zk a fun a=>?_
        obtain rfl:=Kf a;refine Kar ?_;have a:=l;refine Zk a fun a=>?_
        obtain rfl:=Kf a;refine Kar ?_;have a:=j;refine Zk a fun a=>?_
        obtain rfl:=Kf a;refine Kar ?_;have a:=g;refine Zk a fun a=>?_
        refine KaC ?_;obtain rfl:=Kf a;refine Kar ?_;have a:=f;exact Yd a
       refine Zk a fun a=>?_;refine K5 (Kgv a0 b s (.inr cg) U) rfl rfl rfl rfl rfl (WkL.cons (Wk.refl _) (WkL.cons (Wk.trans (Wk.agg (WkR.refl _)) (Wk.of_eq (Kv b).symm)) (WkL.cons (Wk.no) Wl))) ?_;exact Xx a
      refine Ze ?_;obtain ⟨ch,V,o⟩:=Ka a;refine KaG (τ:=Unit) (Y:=Unit) (fun ci eh=>(⟨[(2,.ptr c 0),(3,.ptr e 0)],[(c,Blk.cells [.lst 4 (a0.gP.gd.map Kt) .no,.lst 5 (a0.gP.gi.map KA) .no,tD a0.gF.ga,.lst 2 (a0.gF.gf.map Ku) .no,.lst 2 (a0.gF.gh.map Ku) .no,.lst 7 (a0.gF.gp.map Kh) .no,iD a0.gF.gb] 150),(e,Blk.cells (CZ2 b .no .no .no) 98)],[]⟩:S)) ch ?_ ?_
      ·clear a;have a:=KE V;refine cY a (fun a=>?_) fun a=>?_
       ·refine XL ?_;refine p_eq (i:=105) (d':=.lst 1 (qZ28.map eI64) .full) rfl (Wk.lst0 (.cons (WkC.refl _) (.nil))) ?_;obtain ⟨cj,W,a⟩:=Ka a;rcases cj with cl|cm
        ·refine Zj a fun a=>?_;refine Kbg (KaP a0 b.ga b.gb qZ28 (.inl cl) W) rfl rfl rfl (WkL.cons (Wk.refl _) (WkL.cons (Wk.refl _) (WkL.cons (Wk.refl _) (WkL.cons (Wk.no) Wl)))) Pf Pf ?_;obtain rfl:=Kf a;refine Kar ?_;have a:=o;refine Zk a fun a=>?_
         obtain rfl:=Kf a;refine Kar ?_;have a:=m;refine Zk a fun a=>?_
         obtain rfl:=Kf a;refine Kar ?_;have a:=l;refine Zk a fun a=>?_
         obtain rfl:=Kf a;refine Kar ?_;have a:=j;refine Zk a fun a=>?_
         obtain rfl:=Kf a;refine Kar ?_;have a:=g;refine Zk a fun a=>?_
         refine KaC ?_;obtain rfl:=Kf a;refine Kar ?_;have a:=f;exact Yd a
        refine Zk a fun a=>?_;refine K5 (KaP a0 b.ga b.gb qZ28 (.inr cm) W) rfl rfl rfl rfl rfl (WkL.cons (Wk.refl _) (WkL.cons (Wk.refl _) (WkL.cons (Wk.refl _) (WkL.cons (Wk.no) Wl)))) ?_;exact Xx a
       obtain ⟨ei,cn,a⟩:=Ka a;obtain ⟨ej,co,a⟩:=Ka a;refine Kaj 7 [] [[],[0],[0,1],[0,1,2],[],[4],[4,5]] [0,1,2,3,4,5] [[],[0],[0,1],[0,1,2],[],[4],[4,5],[0,1,2,3,4,5,6]] (by kernel_rfl) (by kernel_rfl) (by kernel_rfl) (by rfl) (by rfl) (by kernel_rfl) ?_;iterate 6 apply Exists.intro
       intro bs;refine Wp cn co ?_
       obtain ⟨cp,Z,a⟩:=Ka a;rcases cp with ek|em
       ·refine X3 a Z fun a=>?_;obtain rfl:=Kf a;refine Kar ?_;have a:=o;refine Zk a fun a=>?_
        obtain rfl:=Kf a;refine Kar ?_;have a:=m;refine Zk a fun a=>?_
        obtain rfl:=Kf a;refine Kar ?_;have a:=l;refine Zk a fun a=>?_
        obtain rfl:=Kf a;refine Kar ?_;have a:=j;refine Zk a fun a=>?_
        obtain rfl:=Kf a;refine Kar ?_;have a:=g;refine Zk a fun a=>?_
        refine KaC ?_;obtain rfl:=Kf a;refine Kar ?_;have a:=f;exact Yd a
       refine X2 a Z fun a=>?_;refine KC ?_;exact Y6 a
      intro ci eo cq cr;subst cq;have a:=o;refine Zj a fun a=>?_;clear V o;exact Xg a cr
     intro cd ep cs ct;subst cs;have a:=m;refine Zj a fun a=>?_;clear T m;exact Xg a ct
    intro bu eq cu cv;subst cu;have a:=l;refine Zj a fun a=>?_;clear O l;exact Xg a cv
   intro bi er cw cx;subst cw;have a:=j;refine Zj a fun a=>?_;clear K j;exact Xg a cx
  intro ax es cy cz;subst cy;have a:=g;refine Zj a fun a=>?_;clear E g;refine KK ?_;exact Xg a cz
 intro au et da db;subst da;have a:=f;refine Zj a fun a=>?_;clear B f;refine Zb db fun av=>?_;refine Kd ?_;refine Yu ?_;refine ZP ?_;obtain ⟨dc,aa,a⟩:=Ka a;rcases dc with dd|de
 ·refine Zj a fun a=>?_;refine Kbg (n a0 b.gc (.inl dd) aa) rfl rfl rfl Wl Pf Pf ?_;exact YG a
 refine Zk a fun a=>?_;refine K5 (n a0 b.gc (.inr de) aa) rfl rfl rfl rfl rfl Wl ?_;rintro _ rfl;refine Kb ?_;refine Kz ?_;refine Yu ?_;refine ZP ?_;obtain ⟨df,ab,a⟩:=Ka a;rcases df with dg|dh
 ·refine Zj a fun a=>?_;refine Kbg (n a0 b.gq (.inl dg) ab) rfl rfl rfl Wl Pf Pf ?_;obtain rfl:=Kf a;exact KaI
 refine Zk a fun a=>?_;refine K5 (n a0 b.gq (.inr dh) ab) rfl rfl rfl rfl rfl Wl ?_;rintro _ rfl;refine KC ?_;exact XG a
def K9:Nat→((KS)→(List Kj)→Option ((Int×Int)⊕(Unit)))×((KS)→(Kj)→Option ((Int×Int)⊕(Unit)))
 | 0=>(fun _ _=>none,fun _ _=>none)
 | n+1=>(Kb8 ((K9 n).1) ((K9 n).2),Kcj ((K9 n).1) ((K9 n).2))
theorem Kfu:∀ n,(∀ (a0:KS) (a:List Kj) (r:(Int×Int)⊕(Unit)) (h0:(K9 n).1 a0 a=some r),KbV zc Tryz.prog 82 [Kag a0,.lst 7 (a.map Kh) .no] [] [] r (fun r d h k=>d=.tup []∧h=[]∧k=[]))∧(∀ (a0:KS) (a:Kj) (r:(Int×Int)⊕(Unit)) (h0:(K9 n).2 a0 a=some r),KbV zc Tryz.prog 103 [Kag a0,Kh a] [] [] r (fun r d h k=>d=.tup []∧h=[]∧k=[]))
 | 0=>⟨(fun _ _ _ h0=>by cases h0),(fun _ _ _ h0=>by cases h0)⟩
 |
  n+1=>by
  have ih:=Kfu n;exact ⟨Kib ((K9 n).1) ((K9 n).2) (ih.1) (ih.2),KiA ((K9 n).1) ((K9 n).2) (ih.1) (ih.2)⟩
theorem Kfv:∀ n,(∀ (a0:KS) (a:List Kj),Le ((K9 n).1 a0 a) ((K9 (n+1)).1 a0 a))∧(∀ (a0:KS) (a:Kj),Le ((K9 n).2 a0 a) ((K9 (n+1)).2 a0 a))
 | 0=>⟨fun _ _=>Le.none _,fun _ _=>Le.none _⟩
 |
  n+1=>by
  have ih:=Kfv n
  exact ⟨fun a0 a=>by show Le (Kb8 ((K9 n).1) ((K9 n).2) a0 a) (Kb8 ((K9 (n+1)).1) ((K9 (n+1)).2) a0 a);revert ih;generalize K9 n=G0;generalize K9 (n+1)=G1;intro ih;unfold Kb8;repeat (first|with_reducible exact Le.refl _|with_reducible exact ih.1 _ _|with_reducible exact ih.2 _ _|with_reducible assumption|(refine Le.bind ?_ (fun _=>?_))|(refine Le.cond ?_ ?_)|(refine Le.loop (fun _=>?_))|(refine Le.elim (fun _=>?_) (fun _=>?_))),fun a0 a=>by show Le (Kcj ((K9 n).1) ((K9 n).2) a0 a) (Kcj ((K9 (n+1)).1) ((K9 (n+1)).2) a0 a);revert ih;generalize K9 n=G0;generalize K9 (n+1)=G1;intro ih;unfold Kcj;repeat (first|with_reducible exact Le.refl _|with_reducible exact ih.1 _ _|with_reducible exact ih.2 _ _|with_reducible assumption|(refine Le.bind ?_ (fun _=>?_))|(refine Le.cond ?_ ?_)|(refine Le.loop (fun _=>?_))|(refine Le.elim (fun _=>?_) (fun _=>?_)))⟩
def Kew (a0:KS)(a:List Kj):Option ((Int×Int)⊕(Unit)):=anyN fun n=>(K9 n).1 a0 a
theorem Kjf (a0:KS)(a:List Kj){r:(Int×Int)⊕(Unit)}(n:Nat)(h:(K9 n).1 a0 a=some r):Kew a0 a=some r:=KdY (fun m=>(Kfv m).1 a0 a) h
theorem Kjg (a0:KS)(a:List Kj)(r:(Int×Int)⊕(Unit))(h0:Kew a0 a=some r):KbV zc Tryz.prog 82 [Kag a0,.lst 7 (a.map Kh) .no] [] [] r (fun r d h k=>d=.tup []∧h=[]∧k=[]):=
 let ⟨n,hn⟩:=Kc4 h0;(Kfu n).1 a0 a r hn
def KeT (a0:KL):Option (Int):=
 (Option.bind (α:=(List (ByteArray×Int))⊕(Int)) (loopM (fun (a:Int×List (ByteArray×Int))=>(bif (decide (a.1 < (a0.gd.length:Int))) then ((idx a0.gd a.1).bind fun c=>(bif (decide ((1:Int) < (mgetD (mput a.2 c.ga (IntKind.i64.wrap ((mgetD a.2 c.ga (0:Int))+(1:Int)))) c.ga (0:Int)))) then some (.done (.inr a.1)) else some (.next ((IntKind.i64.wrap (a.1+(1:Int))),(mput a.2 c.ga (IntKind.i64.wrap ((mgetD a.2 c.ga (0:Int))+(1:Int)))))))) else some (.done (.inl a.2)))) ((0:Int),([]:List (ByteArray×Int)))) (Sum.elim (fun e=>(Option.bind (α:=(List (ByteArray×Int))⊕(Int)) (loopM (fun (b:Int×List (ByteArray×Int))=>(bif (decide (b.1 < (a0.gi.length:Int))) then ((idx a0.gi b.1).bind fun d=>(bif (decide ((1:Int) < (mgetD (mput b.2 d.ga (IntKind.i64.wrap ((mgetD b.2 d.ga (0:Int))+(1:Int)))) d.ga (0:Int)))) then some (.done (.inr (IntKind.i64.wrap ((a0.gd.length:Int)+b.1)))) else some (.next ((IntKind.i64.wrap (b.1+(1:Int))),(mput b.2 d.ga (IntKind.i64.wrap ((mgetD b.2 d.ga (0:Int))+(1:Int)))))))) else some (.done (.inl b.2)))) ((0:Int),e)) (Sum.elim (fun f=>some (-1:Int)) (fun r=>some r)))) (fun r=>some r)))
theorem Kk7 (a0 r)(h0:KeT a0=some r):CallsD Tryz.prog 54 [Kbo a0] [] [] (fun d h k=>d=iD r∧h=[]∧k=[]):=by
 refine PZ1 h0 Tryz.func54 fun C a=>?_;refine ZH fun j=>?_;refine YI ?_;refine KlA rfl rfl rfl rfl (fun m=>?_);refine Zz ?_;refine Yw ?_;refine ZF ?_;obtain ⟨y,q,n⟩:=Ka a
 refine KaG (τ:=List (ByteArray×Int)) (Y:=Unit) (fun t A=>(⟨[(1,.ptr j 0),(3,.v (.map (some m)))],[(m,Blk.mp (t.map fun p=>((fun s:ByteArray=>Value.string s) p.1,eI64 p.2))),(j,Blk.cells (CZ4 a0 .no .no) 34)],[]⟩:S)) y ?_ ?_
 ·clear a;have a:=KE q;refine Zy a fun Q B u=>?_;refine KaO (Y:=Unit) B (fun c D=>(⟨[(1,.ptr j 0),(3,.v (.map (some m))),(10,.lst 4 (a0.gd.map Kt) .no),(11,iD (a0.gd.length:Int)),(12,iD c.1)],[(m,Blk.mp (c.2.map fun p=>((fun s:ByteArray=>Value.string s) p.1,eI64 p.2))),(j,Blk.cells (CZ4 a0 .no .no) 34)],[]⟩:S)) ?_ ?_
  ·skip
   exact YF
  intro G25 c D a;refine Zn ?_;refine cY a (fun a=>?_) fun a=>?_
  ·refine Z0 ?_;refine Zd ?_;refine ZX a fun b R a=>?_;refine KaK (d:=Kt b) htab rfl rfl rfl rfl rfl rfl rfl rfl ?_;refine Zq fun E=>?_;refine pu ?_;refine pS2 (ds':=(CZ1 b)) ?_;refine ZV ?_;refine pL 2 ?_
   refine KgE (l:=c.2) (f:=(fun s:ByteArray=>Value.string s)) (e:=eI64) (kk:=b.ga) (z:=(0:Int)) (dr:=iD (mgetD c.2 b.ga (0:Int))) 0 htab rfl rfl rfl rfl rfl rfl rfl rfl rfl rfl mk145 (fun H v h=>KW h) mz145 mr145 rfl ?_;refine pu ?_
   refine Kia (l:=c.2) (f:=(fun s:ByteArray=>Value.string s)) (e:=eI64) (kk:=b.ga) (vv:=(IntKind.i64.wrap ((mgetD c.2 b.ga (0:Int))+(1:Int)))) (h':=[(m,Blk.mp ((mput c.2 b.ga (IntKind.i64.wrap ((mgetD c.2 b.ga (0:Int))+(1:Int)))).map fun p=>((fun s:ByteArray=>Value.string s) p.1,eI64 p.2))),(j,Blk.cells (CZ4 a0 .no .no) 34),(E,Blk.cells (CZ1 b) 74)]) 0 htab rfl rfl rfl rfl rfl rfl rfl rfl rfl rfl mk145 (fun H v h=>KW h) (Wk.refl _) rfl ?_;refine ZV ?_
   refine pL 2 ?_;refine KgE (l:=(mput c.2 b.ga (IntKind.i64.wrap ((mgetD c.2 b.ga (0:Int))+(1:Int))))) (f:=(fun s:ByteArray=>Value.string s)) (e:=eI64) (kk:=b.ga) (z:=(0:Int)) (dr:=iD (mgetD (mput c.2 b.ga (IntKind.i64.wrap ((mgetD c.2 b.ga (0:Int))+(1:Int)))) b.ga (0:Int))) 0 htab rfl rfl rfl rfl rfl rfl rfl rfl rfl rfl mk145 (fun H v h=>KW h) mz145 mr145 rfl ?_;refine Zv ?_;refine cY a (fun a=>?_) fun a=>?_
   ·refine Zd ?_;refine ZT ?_;obtain rfl:=K6 a;have a:=u
    refine ZQ ?_;obtain rfl:=Kf a;refine Ka4 ?_;have a:=n;refine Z1 a fun a=>?_
    obtain rfl:=Kf a;refine rP (t':=[(2,iD c.1)]) [] [] 0 (wC wN) (lT lN) ?_;exact Za
   refine Kx ?_;refine Y1 a ?_;exact YF
  refine Zs ?_;obtain rfl:=K6 a;have a:=u
  refine Z9 ?_;exact Y6 a
 intro t T F G;subst F;have a:=n;refine Zj a fun a=>?_;clear q n;refine Zb G fun A=>?_;refine Km ?_;refine Yw ?_;refine ZF ?_;obtain ⟨I,w,o⟩:=Ka a;refine KaG (τ:=List (ByteArray×Int)) (Y:=Unit) (fun J K=>(⟨[],[],[]⟩:S)) I ?_ ?_
 ·clear a;have a:=KE w;refine Zy a fun U L x=>?_;refine KaO (Y:=Unit) L (fun g M=>(⟨[(1,.ptr j 0),(3,.v (.map (some m))),(30,.lst 5 (a0.gi.map KA) .no),(31,iD (a0.gi.length:Int)),(32,iD g.1)],[(m,Blk.mp (g.2.map fun p=>((fun s:ByteArray=>Value.string s) p.1,eI64 p.2))),(j,Blk.cells (CZ4 a0 .no .no) 34)],[]⟩:S)) ?_ ?_
  ·skip
   exact YF
  intro G68 g M a;refine Zn ?_;refine cY a (fun a=>?_) fun a=>?_
  ·refine Z0 ?_;refine Zd ?_;refine ZX a fun i V a=>?_;refine X4 ?_;refine Zq fun N=>?_;refine pu ?_;refine pS2 (ds':=(CZ3 i .no .no .no)) ?_;refine ZV ?_;refine pL 2 ?_
   refine KgE (l:=g.2) (f:=(fun s:ByteArray=>Value.string s)) (e:=eI64) (kk:=i.ga) (z:=(0:Int)) (dr:=iD (mgetD g.2 i.ga (0:Int))) 0 htab rfl rfl rfl rfl rfl rfl rfl rfl rfl rfl mk145 (fun H v h=>KW h) mz145 mr145 rfl ?_;refine pu ?_
   refine Kia (l:=g.2) (f:=(fun s:ByteArray=>Value.string s)) (e:=eI64) (kk:=i.ga) (vv:=(IntKind.i64.wrap ((mgetD g.2 i.ga (0:Int))+(1:Int)))) (h':=[(m,Blk.mp ((mput g.2 i.ga (IntKind.i64.wrap ((mgetD g.2 i.ga (0:Int))+(1:Int)))).map fun p=>((fun s:ByteArray=>Value.string s) p.1,eI64 p.2))),(j,Blk.cells (CZ4 a0 .no .no) 34),(N,Blk.cells (CZ3 i .no .no .no) 40)]) 0 htab rfl rfl rfl rfl rfl rfl rfl rfl rfl rfl mk145 (fun H v h=>KW h) (Wk.refl _) rfl ?_
   refine ZV ?_;refine pL 2 ?_;refine KgE (l:=(mput g.2 i.ga (IntKind.i64.wrap ((mgetD g.2 i.ga (0:Int))+(1:Int))))) (f:=(fun s:ByteArray=>Value.string s)) (e:=eI64) (kk:=i.ga) (z:=(0:Int)) (dr:=iD (mgetD (mput g.2 i.ga (IntKind.i64.wrap ((mgetD g.2 i.ga (0:Int))+(1:Int)))) i.ga (0:Int))) 0 htab rfl rfl rfl rfl rfl rfl rfl rfl rfl rfl mk145 (fun H v h=>KW h) mz145 mr145 rfl ?_;refine Zv ?_;refine cY a (fun a=>?_) fun a=>?_
   ·refine Yw ?_;refine Yk ?_;iterate 3 refine pu ?_
    refine Yh ?_;obtain rfl:=K6 a;have a:=x
    refine ZQ ?_;obtain rfl:=Kf a;refine Ka4 ?_;have a:=o;refine Z1 a fun a=>?_
    obtain rfl:=Kf a;refine rP (t':=[(2,iD (IntKind.i64.wrap ((a0.gd.length:Int)+g.1)))]) [] [] 0 (wC wN) (lT lN) ?_;exact Za
   refine Kx ?_;refine Y1 a ?_;exact YF
  refine Zs ?_;obtain rfl:=K6 a;have a:=x
  exact Yn a
 intro J W O P;subst O;have a:=o;refine Zj a fun a=>?_;clear w o;refine Zb P fun K=>?_;exact YW a
end
end Go.Proofs.YtbbeiinofainlaaGreatDoor.Ab
namespace Go.Proofs.YtbbeiinofainlaaGreatDoor
open Go Go.RowKit
abbrev Hp:=Addr→Option Value
def Hp.le (H H':Hp):Prop:=∀ a v,H a=some v→H' a=some v
theorem Hp.le_refl (H:Hp):H.le H:=fun _ _ h=>h
theorem Hp.le_trans {H H' H'':Hp}(h:H.le H')(k:H'.le H''):H.le H'':=fun a v x=>k a v (h a v x)
def Ag (H:Hp)(w:World):Prop:=∀ a v,H a=some v→w.cell? a=some v
theorem cell_lt {w:World}{a:Addr}{v:Value}(h:w.cell? a=some v):a.block < w.heap.size:=by
 unfold World.cell? at h;rcases Nat.lt_or_ge a.block w.heap.size with hl|hl
 ·exact hl
 rw [Array.getElem?_eq_none hl] at h;cases h
theorem Ag.lt {H:Hp}{w:World}(h:Ag H w){a:Addr}{v:Value}(ha:H a=some v):a.block < w.heap.size:=cell_lt (h a v ha)
theorem Ag.below {H:Hp}{w w':World}(h:Ag H w)(hb:Below w.heap.size w w'):Ag H w':=fun a v ha=>by rw [hb.cell (p:=a) (h.lt ha)];exact h a v ha
theorem Ag.drew {H:Hp}{w:World}(h:Ag H w):Ag H w.drew:=h
theorem Ag.alloc {H:Hp}{w:World}(h:Ag H w)(o:Obj):Ag H (w.alloc o):=h.below ((Below.refl _ _).alloc (Nat.le_refl _) o)
structure Grow (H:Hp) (w:World) (H':Hp) (w':World):Prop where
 le:H.le H'
 new:∀ a v,H' a=some v→H a=some v∨w.heap.size≤a.block
 ag:Ag H' w'
 below:Below w.heap.size w w'
theorem Grow.refl {H:Hp}{w:World}(h:Ag H w):Grow H w H w:=⟨Hp.le_refl H,fun _ _ h=>.inl h,h,Below.refl _ _⟩
theorem Grow.trans {H H1 H2:Hp}{w b c:World}(h:Grow H w H1 b)(k:Grow H1 b H2 c):Grow H w H2 c:=
 ⟨Hp.le_trans h.le k.le,fun a v x=>by
  rcases k.new a v x with y|y
  ·exact h.new a v y
  exact .inr (Nat.le_trans h.below.size y),k.ag,h.below.trans (k.below.mono h.below.size)⟩
theorem Grow.drew {H H':Hp}{w w':World}(h:Grow H w H' w'):Grow H w H' w'.drew:=⟨h.le,h.new,h.ag,h.below.drew⟩
theorem Grow.cell {H H':Hp}{w w':World}(h:Grow H w H' w'):(∀ b o,b < w.heap.size→w'.cell? ⟨b,o,none⟩=w.cell? ⟨b,o,none⟩)∧(∀ b o,b < w.heap.size→w'.frozen? ⟨b,o,none⟩=w.frozen? ⟨b,o,none⟩):=
 ⟨fun b o hb=>h.below.cell (p:=⟨b,o,none⟩) hb,fun b o hb=>h.below.frozen (p:=⟨b,o,none⟩) hb⟩
def E:Hp:=fun _=>none
theorem hp_alloc (w:World)(o:Obj)(k:Nat):(w.alloc o).heap[k]? = if k=w.heap.size then some o else w.heap[k]?:=by
 show (w.heap.push o)[k]? = _
 rw [Array.getElem?_push]
def setO (off:Nat)(v:Value):Obj→Obj
 | .cells c e fr=>.cells (c.setIfInBounds off v) e fr
 | o=>o
theorem Kgn (w:World)(b o:Nat)(v:Value)(k:Nat):(w.setCell ⟨b,o,none⟩ v).heap[k]? = if b=k then (w.heap[k]?).map (setO o v) else w.heap[k]?:=by
 simp only [World.setCell,Array.getElem?_modify];by_cases h:b=k
 ·rw [if_pos h,if_pos h];cases w.heap[k]? with
  | none=>rfl
  | some x=>cases x<;>rfl
 rw [if_neg h,if_neg h]
def IsPtr (v:Value)(b:Nat):Prop:=v=.pointer (some ⟨b,0,none⟩)
theorem IsPtr.inj {v:Value}{b b':Nat}(h:IsPtr v b)(h':IsPtr v b'):b=b':=by
 unfold IsPtr at *;rw [h] at h';simpa using h'
structure Blk (H:Hp) (w:World) (n:Nat) (b:Nat) (c:Array Value) (T:TypeId):Prop where
 ge:n≤b
 at_:w.heap[b]? = some (.cells c T (0,0))
 out:∀ o,H ⟨b,o,none⟩=none
theorem Blk.lt {H:Hp}{w:World}{n b:Nat}{c:Array Value}{T:TypeId}(h:Blk H w n b c T):b < w.heap.size:=(Array.getElem?_eq_some_iff.1 h.at_).1
theorem Blk.grow {H H':Hp}{w w':World}{n b:Nat}{c:Array Value}{T:TypeId}(h:Blk H w n b c T)(hg:Grow H w H' w'):Blk H' w' n b c T:=
 ⟨h.ge,by rw [hg.below.block b h.lt];exact h.at_,fun o=>by
  cases e:H' ⟨b,o,none⟩ with
  | none=>rfl
  |
   some v=>
   rcases hg.new _ v e with x|x
   ·rw [h.out] at x;cases x
   have:=h.lt;exact absurd x (by show ¬ w.heap.size≤b;omega)⟩
theorem Blk.new {H:Hp}{w:World}(hA:Ag H w){n:Nat}(hn:n≤w.heap.size)(c:Array Value)(T:TypeId):Blk H (w.alloc (.cells c T)) n w.heap.size c T:=
 ⟨hn,by show (w.heap.push _)[w.heap.size]? = _;simp,fun o=>by
  cases e:H ⟨w.heap.size,o,none⟩ with
  | none=>rfl
  | some v=>exact absurd (hA.lt e) (Nat.lt_irrefl _)⟩
theorem Blk.alloc {H:Hp}{w:World}{n b:Nat}{c:Array Value}{T:TypeId}(h:Blk H w n b c T)(o:Obj):Blk H (w.alloc o) n b c T:=
 ⟨h.ge,by rw [hp_alloc,if_neg (by have:=h.lt;omega)];exact h.at_,h.out⟩
theorem Blk.drew {H:Hp}{w:World}{n b:Nat}{c:Array Value}{T:TypeId}(h:Blk H w n b c T):Blk H w.drew n b c T:=⟨h.ge,h.at_,h.out⟩
theorem Blk.drewN {H:Hp}{w:World}{n b:Nat}{c:Array Value}{T:TypeId}(h:Blk H w n b c T)(k:Nat):Blk H (w.drewN k) n b c T:=⟨h.ge,h.at_,h.out⟩
theorem Blk.set {H:Hp}{w:World}{n b:Nat}{c:Array Value}{T:TypeId}(h:Blk H w n b c T)(o:Nat)(v:Value):Blk H (w.setCell ⟨b,o,none⟩ v) n b (c.setIfInBounds o v) T:=
 ⟨h.ge,by rw [Kgn,if_pos rfl,h.at_];rfl,h.out⟩
theorem KhZ {B:Nat}{a w:World}{p:Addr}{u:Value}(hp:B≤p.block)(h:Below B a w):Below B a (w.setCell p u):=h.setCell hp u
theorem Kl2 {B:Nat}{a w:World}{o:Obj}(hB:B≤w.heap.size)(h:Below B a w):Below B a (w.alloc o):=h.alloc hB o
theorem Blk.below {H:Hp}{w w':World}{n b:Nat}{c:Array Value}{T:TypeId}(h:Blk H w n b c T)(hb:Below w.heap.size w w'):Blk H w' n b c T:=
 ⟨h.ge,by rw [hb.block b h.lt];exact h.at_,h.out⟩
theorem Blk.cell {H:Hp}{w:World}{n b:Nat}{c:Array Value}{T:TypeId}(h:Blk H w n b c T)(o:Nat):w.cell? ⟨b,o,none⟩=c[o]?:=by
 simp [World.cell?,h.at_]
theorem Blk.frozen {H:Hp}{w:World}{n b:Nat}{c:Array Value}{T:TypeId}(h:Blk H w n b c T)(o:Nat):w.frozen? ⟨b,o,none⟩=false:=by
 simp [World.frozen?,h.at_]
structure St where
 r:Hp→World→Value→Prop
 st:∀ H w H' w',Grow H w H' w'→∀ v,r H w v→r H' w' v
def St.var (n:Nat)(c:Array Value)(T:TypeId):St:=⟨fun H w v=>∃ b,v=.pointer (some ⟨b,0,none⟩)∧Blk H w n b c T,fun _ _ _ _ hg _ ⟨b,e,h⟩=>⟨b,e,h.grow hg⟩⟩
def St.hp (p:Hp→Value→Prop)(hp:∀ H H',Hp.le H H'→∀ v,p H v→p H' v):St:=⟨fun H _ v=>p H v,fun H _ H' _ hg v h=>hp H H' hg.le v h⟩
section
variable {P : Program} {ops : Array Oper} {Q : Exit → Act → World → Prop} {H0 : Hp} {w0 : World} {R : Nat → St} {pre : List (List Nat)} {ev al : List Nat} {l2 : List Oper} {vals : Nat → Value} {i : Nat} {o : Oper} {rest : List Oper} {a : Act}
end
end Go.Proofs.YtbbeiinofainlaaGreatDoor
namespace Go.Proofs.YtbbeiinofainlaaGreatDoor.Ab
section
open Go Go.RowKit Go.Proofs
theorem try1_idle (p:Addr)(w:World) :
  Go.CallsD Tryz.prog 100 #[.pointer (some p)] .returning w fun e u' w'=>e=.returned (.tuple #[])∧u'=.returning∧w'=w:=by
 refine callsD_of_wpS Tryz.func100 rfl fun c₀ cs hu=>?_
 apply wpS_seq;apply wpS_region;simp [wpOpsS,go_sem,recoverD,hu,Tryz.ntmps100,Exit.thenS];apply wpS_seq;apply wpS_region;simp [wpOpsS,go_sem,recoverD,hu,Tryz.ntmps100,Exit.thenS];refine wpS_cond (t:=false) (by simp [Act.eval,Array.replicate]) ?_;simp only [Bool.false_eq_true,if_false];refine wpS_of_wp (wp_skip ?_);cases c₀;simp_all [bodyPostS,results,Tryz.results100]
theorem KlR (v:Value)(t:TypeId)(w:World):(Instr.typeAssert (.iface 147 v) t 147 true).run Tryz.prog w=.ok (.tuple #[v,.bool true]) w:=by
 obtain ⟨d0,a,b⟩:=Kak (P:=Tryz.prog) (w:=w) (ti_ok htab (t:=147) rfl);obtain ⟨gs,rfl,_⟩:=KfN (b.trans rfl);unfold Instr.typeAssert;rw [Kw a];rfl
theorem Kk8 (b:Nat)(pe:Int×Int)(w:World)(hx:w.heap[b]? = some (.cells #[.int .i64 0,.int .i64 0] 147 (0,0))) :
  Go.CallsD Tryz.prog 100 #[.pointer (some ⟨b,0,none⟩)] (.panicking (zc pe)) w fun e u' w'=>
   e=.returned (.tuple #[])∧u'=.panicking [{ v:=.iface 147 (.agg #[.int .i64 pe.1,.int .i64 pe.2]),recovered:=true }]∧w'.heap[b]? = some (.cells #[.int .i64 pe.1,.int .i64 pe.2] 147 (0,0))∧Below b w w':=by
 have hlt:b < w.heap.size:=(Array.getElem?_eq_some_iff.1 hx).1;obtain ⟨W1,c⟩:∃ W1,W1=w.alloc (.cells #[.int .i64 pe.1,.int .i64 pe.2] 147):=⟨_,rfl⟩;have d:Below w.heap.size w W1:=by rw [c];exact (Below.refl _ w).alloc (Nat.le_refl _) _
 have k:=(d.block _ hlt).trans hx;have l:W1.heap[w.heap.size]? = some (.cells #[.int .i64 pe.1,.int .i64 pe.2] 147 (0,0)):=by rw [c,Kbz,if_pos rfl]
 refine callsD_of_wpS Tryz.func100 rfl fun c₀ cs hu=>?_
 apply wpS_seq;apply wpS_region;simp [wpOpsS,go_sem,recoverD,hu,zc,Tryz.ntmps100,Exit.thenS];apply wpS_seq;apply wpS_region;simp [wpOpsS,go_sem,recoverD,hu,Tryz.ntmps100,Exit.thenS];refine wpS_cond (t:=true) (by simp [Act.eval,Array.replicate]) ?_;simp only [if_true];refine wpS_of_wp ?_;change Code.wp _ _ _ { tmps:=#[.pointer (some ⟨b,0,none⟩),.iface 147 (.agg #[.int .i64 pe.1,.int .i64 pe.2]),undef,undef,.iface 147 (.agg #[.int .i64 pe.1,.int .i64 pe.2]),.iface 147 (.agg #[.int .i64 pe.1,.int .i64 pe.2]),.bool true,undef,undef,undef,undef,undef,undef,undef,undef,undef],defers:=[] } w;have hta:=KlR;have hne:¬ w.heap.size=b:=by omega
 have hne':¬ b=w.heap.size:=by omega
 have f:w.frozen? ⟨b,0,none⟩=false:=by simp [World.frozen?,hx]
 have g:w.frozen? ⟨b,1,none⟩=false:=by simp [World.frozen?,hx]
 have a0:w.cell? ⟨b,0,none⟩=some (.int .i64 0):=by simp [World.cell?,hx]
 have h:w.cell? ⟨b,1,none⟩=some (.int .i64 0):=by simp [World.cell?,hx]
 go_wp2_with fail
 obtain ⟨W9,a⟩:∃ W9,W9=((w.setCell ⟨b,0,none⟩ (.int .i64 pe.1)).setCell ⟨b,1,none⟩ (.int .i64 pe.2)).alloc (.cells #[.int .i64 pe.1,.int .i64 pe.2] 147):=⟨_,rfl⟩;rw [← a];have i:W9.heap[b]? = some (.cells #[.int .i64 pe.1,.int .i64 pe.2] 147 (0,0)):=by
  rw [a,Kbz,if_neg (by simp;omega),Kgn,if_pos rfl,Kgn,if_pos rfl,hx];rfl
 have j:Below b w W9:=by
  rw [a];have:=KhZ (p:=⟨b,1,none⟩) (u:=.int .i64 pe.2) (Nat.le_refl b) (KhZ (p:=⟨b,0,none⟩) (u:=.int .i64 pe.1) (Nat.le_refl b) (Below.refl b w));exact this.alloc (by simp;omega) _
 clear a f g a0 h hta;cases c₀;simp [bodyPostS,results,Tryz.results100,i,j]
def oc (pr:(Int×Int)⊕Unit):Ending:=match pr with|.inr _=>.returned (.tuple #[])|.inl pe=>.panicked (zc pe)
def wr (pr:(Int×Int)⊕Unit):Int×Int:=match pr with|.inr _=>(0,0)|.inl pe=>pe
theorem try_calls (cap:Array Value)(w:World)(pr:(Int×Int)⊕Unit)(hcl:Calls Tryz.prog 80 cap (w.alloc (.cells #[.int .i64 0,.int .i64 0] 147)) fun e w'=>e=oc pr∧Below (w.heap.size+1) (w.alloc (.cells #[.int .i64 0,.int .i64 0] 147)) w') :
  Calls Tryz.prog 79 #[.func (.func 80) #[] cap] w fun e w'=>e=.returned (.agg #[.int .i64 (wr pr).1,.int .i64 (wr pr).2])∧Below w.heap.size w w':=by
 have hmf:∀ (fn:Fn) (first cap:Array Value) (w:World),(Instr.makeFunc fn first cap).run Tryz.prog w=.ok (.func fn first cap) w:=fun _ _ _ _=>rfl
 go_enter_defers Tryz.func79,Tryz.ntmps79
 go_wp2_with fail
 refine hcl.mono ?_;rintro e a ⟨rfl,hb⟩;have hx:a.heap[w.heap.size]? = some (.cells #[.int .i64 0,.int .i64 0] 147 (0,0)):=by
  rw [hb.block _ (Nat.lt_succ_self _),Kbz,if_pos rfl]
 have hbw:Below w.heap.size w a:=((Below.refl _ w).alloc (Nat.le_refl _) _).trans (hb.mono (Nat.le_succ _));cases pr with
 |
  inl pe=>
  simp only [oc,wr];refine leaves_cons (f:=100) (args:=#[.pointer (some ⟨w.heap.size,0,none⟩)]) (by simp) (by simp [go_sem]) ?_;refine (Kk8 w.heap.size pe _ hx).mono ?_;rintro e u' i ⟨rfl,rfl,b,d⟩;have g:i.cell? ⟨w.heap.size,0,none⟩=some (.int .i64 pe.1):=by simp [World.cell?,b]
  have h:i.cell? ⟨w.heap.size,1,none⟩=some (.int .i64 pe.2):=by simp [World.cell?,b]
  simp [Leaves,settle,results,Tryz.results79,go_sem,g,h];exact ⟨⟨rfl,rfl⟩,hbw.trans d⟩
 |
  inr u=>
  simp only [oc,wr];have x0:a.cell? ⟨w.heap.size,0,none⟩=some (.int .i64 0):=by simp [World.cell?,hx]
  have j:a.cell? ⟨w.heap.size,1,none⟩=some (.int .i64 0):=by simp [World.cell?,hx]
  have k:a.frozen? ⟨w.heap.size,0,none⟩=false:=by simp [World.frozen?,hx]
  have l:a.frozen? ⟨w.heap.size,1,none⟩=false:=by simp [World.frozen?,hx]
  go_wp2_with fail
  obtain ⟨W9,c⟩:∃ W9,W9=(a.setCell ⟨w.heap.size,0,none⟩ (.int .i64 0)).setCell ⟨w.heap.size,1,none⟩ (.int .i64 0):=⟨_,rfl⟩;rw [← c];have b:W9.heap[w.heap.size]? = some (.cells #[.int .i64 0,.int .i64 0] 147 (0,0)):=by
   rw [c,Kgn,if_pos rfl,Kgn,if_pos rfl,hx];rfl
  have g:W9.cell? ⟨w.heap.size,0,none⟩=some (.int .i64 0):=by simp [World.cell?,b]
  have h:W9.cell? ⟨w.heap.size,1,none⟩=some (.int .i64 0):=by simp [World.cell?,b]
  have d:Below w.heap.size w W9:=by
   rw [c];exact KhZ (Nat.le_refl _) (KhZ (Nat.le_refl _) hbw)
  clear c b x0 j k l hx hcl;refine leaves_cons (f:=100) (args:=#[.pointer (some ⟨w.heap.size,0,none⟩)]) (by simp) (by simp [go_sem]) ?_;refine (try1_idle ⟨w.heap.size,0,none⟩ _).mono ?_;rintro e u' w'' ⟨rfl,rfl,rfl⟩;simp [Leaves,settle,results,Tryz.results79,go_sem,g,h];exact ⟨⟨rfl,rfl⟩,d⟩
end
section
open Go Go.RowKit Go.Proofs
def checkP (p:KL)(f:KG):Option ((Int×Int)⊕Unit):=(KcU ⟨p,f⟩).bind (Sum.elim (fun pe=>some (.inl pe)) fun _=>Kew ⟨p,f⟩ f.gp)
def checkF (p:KL)(f:KG):Option (Int×Int):=(checkP p f).bind fun pr=>some (wr pr)
theorem KkT {H H':Hp}{w w':World}{h:List (Nat×Blk)}{k:List (Nat×Value)}(c:Core ⟨H,w,[]⟩ H' h k w'):Below w.heap.size w w':=⟨c.env.1,c.env.2.1,c.env.2.2.1,c.size,fun j hj=>c.same j hj (by simp)⟩
theorem KjO {H:Hp}{w w':World}(h:Ag H w)(hb:Below w.heap.size w w'):Ag H w':=⟨fun a v e=>by rw [hb.cell (p:=a) (h.lt e)];exact h a v e,h.gg.step (Hp.le_refl H) (hb.block _ h.gg.lt)⟩
theorem u_callsP {f:FuncId}{ds:List D}{us:Array Value}{pr:(Int×Int)⊕Unit}(c:KbV zc Tryz.prog f ds [] [] pr (fun r d h k=>d=.tup []∧h=[]∧k=[])){H:Hp}{w:World}(hA:Ag H w)(hv:RepsV H ds us.toList) :
  Calls Tryz.prog f us w fun e w'=>e=oc pr∧Below w.heap.size w w':=by
 cases pr with
 | inl pe=>exact (c.2 H w us.toList hv hA (by simp) (by simp) (by simp [KP])).mono fun e w' ⟨he,H',hc⟩=>⟨he,KkT hc⟩
 |
  inr u=>
  refine (c.2 H w us.toList hv hA (by simp) (by simp) (by simp [KP])).mono fun e w' ⟨v,H',d,h',k',he,hr,hc,a,b,g⟩=>?_
  subst a;subst b;subst g;refine ⟨?_,KkT hc⟩;obtain ⟨i,j⟩:=hr;cases v<;>simp [D.shape,RepC,RepsV,Value.cells] at i j;rw [he];simp_all [oc]
theorem checkF_ok (p f r)(h0:checkF p f=some r):CallsD Tryz.prog 55 [Kbo p,KA f] [] [] (fun d h k=>d=.tup [.v (.int .i64 r.1),.v (.int .i64 r.2)]∧h=[]∧k=[]):=by
 unfold checkF at h0;cases hP:checkP p f with
 | none=>rw [hP] at h0;cases h0
 | some pr=>
 rw [hP,Option.bind_some] at h0;cases h0;unfold checkP at hP;cases hn:KcU ⟨p,f⟩ with
 | none=>rw [hn] at hP;cases hP
 | some z=>
 rw [hn,Option.bind_some] at hP;refine ⟨⟨_,Tryz.func55,rfl,rfl⟩,fun H w vs hv hA _ _ _=>?_⟩;simp only [RepsV] at hv;obtain ⟨J,_,rfl,g1,K,_,rfl,L,rfl⟩:=hv;obtain ⟨af,rfl,A⟩:=KdR g1;obtain ⟨ag,rfl,B⟩:=KdR L;simp only [Reps] at A B;obtain ⟨p0,_,rfl,t,p1,_,rfl,x,rfl⟩:=A;obtain ⟨M,_,rfl,C,f1,_,rfl,k1,f2,_,rfl,k2,f3,_,rfl,o,N,_,rfl,E,rfl⟩:=B;have i:∀ {kk:Nat} {xs:List D} {u:Value},RepC H (.lst kk xs .no) [u]→∃ a n m,u=.slice a n m:=fun {kk xs u} h=>by
  simp only [RepC] at h;obtain ⟨y,e,_,h⟩:=h;simp only [List.cons.injEq,and_true] at e;subst e;rcases h with ⟨_,a,m,e,_⟩|⟨b,off,m,e,_⟩
  ·exact ⟨_,_,_,e⟩
  exact ⟨_,_,_,e⟩
 obtain ⟨pa,pn,pm,rfl⟩:=i t.1;obtain ⟨qa,qn,qm,rfl⟩:=i x.1;obtain ⟨ra,rn,rm,rfl⟩:=i k1.1;obtain ⟨sa,sn,sm,rfl⟩:=i k2.1;obtain ⟨ta,tn,tm,rfl⟩:=i o.1;obtain rfl:M=.string f.ga:=by simpa [RepC] using C.1
 obtain rfl:N=.int .i64 f.gb:=by simpa [RepC] using E.1
 suffices hs:Calls Tryz.prog 55 #[.agg #[(.slice pa pn pm),(.slice qa qn qm)],.agg #[(.string f.ga),(.slice ra rn rm),(.slice sa sn sm),(.slice ta tn tm),(.int .i64 f.gb)]] w fun e w'=>e=.returned (.tuple #[.int .i64 (wr pr).1,.int .i64 (wr pr).2])∧Below w.heap.size w w' from
  hs.mono fun e w' ⟨he,hb⟩=>⟨_,H,.tup [.v (.int .i64 (wr pr).1),.v (.int .i64 (wr pr).2)],[],[],he,⟨by simp only [Value.cells,RepC];exact ⟨[.int .i64 (wr pr).1,.int .i64 (wr pr).2],rfl,by simp only [RepsV];exact ⟨_,_,rfl,rep_v rfl,_,_,rfl,rep_v rfl,rfl⟩⟩,rfl⟩,KeR hA hb,rfl,rfl,rfl⟩
 obtain ⟨W2,j⟩:∃ W2,W2=(w.alloc (.cells #[(.slice pa pn pm),(.slice qa qn qm)] 34)).alloc (.cells #[(.string f.ga),(.slice ra rn rm),(.slice sa sn sm),(.slice ta tn tm),(.int .i64 f.gb)] 40):=⟨_,rfl⟩;have q:Below w.heap.size w W2:=by rw [j];exact ((Below.refl _ w).alloc (Nat.le_refl _) _).alloc (by simp) _
 have al:W2.heap.size=w.heap.size+2:=by rw [j];simp
 have O:W2.heap[w.heap.size]? = some (.cells #[(.slice pa pn pm),(.slice qa qn qm)] 34 (0,0)):=by rw [j,Kbz,if_neg (by simp),Kbz,if_pos rfl]
 have P:W2.heap[w.heap.size+1]? = some (.cells #[(.string f.ga),(.slice ra rn rm),(.slice sa sn sm),(.slice ta tn tm),(.int .i64 f.gb)] 40 (0,0)):=by rw [j,Kbz,if_pos (by simp)]
 have o0:=t.2.1;have o1:=x.2.1;have sc:∀ {u:Value},one u=true→u.cells.toList=[u]:=fun {u} h=>by cases u<;>simp [one] at h<;>rfl
 have hrep:Rep H (Kag ⟨p,f⟩) (.agg #[(.slice pa pn pm),(.slice qa qn qm),(.string f.ga),(.slice ra rn rm),(.slice sa sn sm),(.slice ta tn tm),(.int .i64 f.gb)]):=Kip (us:=[(.slice pa pn pm),(.slice qa qn qm),(.string f.ga),(.slice ra rn rm),(.slice sa sn sm),(.slice ta tn tm),(.int .i64 f.gb)]) (by
  simp only [Reps];exact ⟨_,_,rfl,t,_,_,rfl,x,_,_,rfl,C,_,_,rfl,k1,_,_,rfl,k2,_,_,rfl,o,_,_,rfl,E,rfl⟩)
 have rb:Rep H (.lst 7 (f.gp.map Kh) .no) (.slice ta tn tm):=Kbi o.1 o.2.1 rfl;have fn1:∀ W:World,W2.heap.size≤W.heap.size→Below W2.heap.size W2 W→Calls Tryz.prog 80 #[.pointer (some ⟨w.heap.size,0,none⟩),.pointer (some ⟨w.heap.size+1,0,none⟩)] W fun e w'=>e=oc pr∧Below W.heap.size W w':=by
  intro W hsz hb;have F:=(hb.block _ (by omega)).trans O;have g:=(hb.block _ (by omega)).trans P;have x0:W.cell? ⟨w.heap.size,0,none⟩=some (.slice pa pn pm):=by simp [World.cell?,F]
  have Q:W.cell? ⟨w.heap.size,1,none⟩=some (.slice qa qn qm):=by simp [World.cell?,F]
  have R:W.cell? ⟨w.heap.size+1,0,none⟩=some (.string f.ga):=by simp [World.cell?,g]
  have S:W.cell? ⟨w.heap.size+1,1,none⟩=some (.slice ra rn rm):=by simp [World.cell?,g]
  have T:W.cell? ⟨w.heap.size+1,2,none⟩=some (.slice sa sn sm):=by simp [World.cell?,g]
  have U:W.cell? ⟨w.heap.size+1,3,none⟩=some (.slice ta tn tm):=by simp [World.cell?,g]
  have V:W.cell? ⟨w.heap.size+1,4,none⟩=some (.int .i64 f.gb):=by simp [World.cell?,g]
  go_enter Tryz.func80,Tryz.ntmps80
  have hAW:Ag H W:=KjO hA (q.trans (hb.mono q.size));generalize hWa:W.alloc (.cells #[.slice pa pn pm,.slice qa qn qm,.string f.ga,.slice ra rn rm,.slice sa sn sm,.slice ta tn tm,.int .i64 f.gb] 150)=Wa;have hba:Below W.heap.size W Wa:=by rw [← hWa];exact (Below.refl _ _).alloc (Nat.le_refl _) _
  have hsa:W.heap.size < Wa.heap.size:=by rw [← hWa];simp
  have hxa:Wa.heap[W.heap.size]? = some (.cells #[.slice pa pn pm,.slice qa qn qm,.string f.ga,.slice ra rn rm,.slice sa sn sm,.slice ta tn tm,.int .i64 f.gb] 150 (0,0)):=by rw [← hWa,Kbz,if_pos rfl]
  have hAa:Ag H Wa:=KjO hAW hba;have X:=u_callsP (us:=#[.agg #[.slice pa pn pm,.slice qa qn qm,.string f.ga,.slice ra rn rm,.slice sa sn sm,.slice ta tn tm,.int .i64 f.gb]]) (Kje ⟨p,f⟩ z hn) hAa (by simp only [RepsV];exact ⟨_,_,rfl,hrep,rfl⟩);have d0:Wa.cell? ⟨W.heap.size,0,none⟩=some (.slice pa pn pm):=by simp [World.cell?,hxa]
  have d1:Wa.cell? ⟨W.heap.size,1,none⟩=some (.slice qa qn qm):=by simp [World.cell?,hxa]
  have d2:Wa.cell? ⟨W.heap.size,2,none⟩=some (.string f.ga):=by simp [World.cell?,hxa]
  have Y:Wa.cell? ⟨W.heap.size,3,none⟩=some (.slice ra rn rm):=by simp [World.cell?,hxa]
  have Z:Wa.cell? ⟨W.heap.size,4,none⟩=some (.slice sa sn sm):=by simp [World.cell?,hxa]
  have d5:Wa.cell? ⟨W.heap.size,5,none⟩=some (.slice ta tn tm):=by simp [World.cell?,hxa]
  have d6:Wa.cell? ⟨W.heap.size,6,none⟩=some (.int .i64 f.gb):=by simp [World.cell?,hxa]
  go_wp2_with fail
  refine X.mono ?_;rintro e c ⟨rfl,s⟩;cases z with
  |
   inl pe=>
   simp only [Sum.elim_inl,Option.some.injEq] at hP;subst hP;exact ⟨rfl,rfl,hba.trans (s.mono hba.size)⟩
  | inr J=>
  simp only [Sum.elim_inr] at hP;simp only [oc];clear hWa x0 Q R S T U V d0 d1 d2 Y Z d5 d6;have hxb:=(s.block _ hsa).trans hxa;have l:Below W.heap.size W c:=hba.trans (s.mono hba.size);have hyc:=(l.block _ (by omega)).trans g;have e0:c.cell? ⟨W.heap.size,0,none⟩=some (.slice pa pn pm):=by simp [World.cell?,hxb]
  have e1:c.cell? ⟨W.heap.size,1,none⟩=some (.slice qa qn qm):=by simp [World.cell?,hxb]
  have e2:c.cell? ⟨W.heap.size,2,none⟩=some (.string f.ga):=by simp [World.cell?,hxb]
  have e3:c.cell? ⟨W.heap.size,3,none⟩=some (.slice ra rn rm):=by simp [World.cell?,hxb]
  have e4:c.cell? ⟨W.heap.size,4,none⟩=some (.slice sa sn sm):=by simp [World.cell?,hxb]
  have e5:c.cell? ⟨W.heap.size,5,none⟩=some (.slice ta tn tm):=by simp [World.cell?,hxb]
  have e6:c.cell? ⟨W.heap.size,6,none⟩=some (.int .i64 f.gb):=by simp [World.cell?,hxb]
  have e7:c.cell? ⟨w.heap.size+1,3,none⟩=some (.slice ta tn tm):=by simp [World.cell?,hyc]
  have ac:Ag H c:=KjO hAa s;have ad:=u_callsP (us:=#[.agg #[.slice pa pn pm,.slice qa qn qm,.string f.ga,.slice ra rn rm,.slice sa sn sm,.slice ta tn tm,.int .i64 f.gb],.slice ta tn tm]) (Kjg ⟨p,f⟩ f.gp pr hP) ac (by simp only [RepsV];exact ⟨_,_,rfl,hrep,_,_,rfl,rb,rfl⟩);go_wp2_with fail;refine ad.mono ?_;rintro e w6 ⟨rfl,G⟩;cases pr with
  | inl pe=>exact ⟨rfl,rfl,l.trans (G.mono l.size)⟩
  |
   inr K=>
   simp only [oc];go_wp2;go_end0;exact ⟨rfl,l.trans (G.mono l.size)⟩
 have hmf:∀ (fn:Fn) (first cap:Array Value) (w:World),(Instr.makeFunc fn first cap).run Tryz.prog w=.ok (.func fn first cap) w:=fun _ _ _ _=>rfl
 have htry:=try_calls #[.pointer (some ⟨w.heap.size,0,none⟩),.pointer (some ⟨w.heap.size+1,0,none⟩)] W2 pr (by
  have:=fn1 (W2.alloc (.cells #[.int .i64 0,.int .i64 0] 147)) (by simp) ((Below.refl _ _).alloc (Nat.le_refl _) _);simpa using this)
 go_enter Tryz.func55,Tryz.ntmps55
 go_wp2_with fail
 rw [← j];refine htry.mono ?_;rintro e w7 ⟨rfl,I⟩;go_wp2_with fail;go_region;all_goals
  go_wp2
  go_ret2
  exact ⟨rfl,q.trans ((I.trans (Kl2 I.size (Below.refl _ w7)).drew).mono q.size)⟩
end
section
open Go
set_option maxRecDepth 100000
def Kec (a0:KL):Option (Int×Int×Int):=
 (Option.bind (α:=Bool) (bif (decide ((24:Int) < (a0.gd.length:Int))) then some true else some (decide ((24:Int) < (a0.gi.length:Int)))) fun d=>(bif d then some ((0:Int),(0:Int),(6:Int)) else ((KeT a0).bind fun c=>(bif (decide ((0:Int)≤c)) then some (c,(0:Int),(8:Int)) else (Option.bind (α:=(Unit)⊕(Int×Int×Int)) (loopM (fun (a:Int)=>(bif (decide (a < (a0.gi.length:Int))) then ((idx a0.gi a).bind fun e=>((checkF a0 e).bind fun b=>(bif (b.2 != (0:Int)) then some (.done (.inr ((IntKind.i64.wrap ((a0.gd.length:Int)+a)),b.1,b.2))) else some (.next (IntKind.i64.wrap (a+(1:Int))))))) else some (.done (.inl ())))) (0:Int)) (Sum.elim (fun f=>some ((0:Int),(0:Int),(0:Int))) (fun r=>some r)))))))
theorem YA {R G:Prop}(h:R)(k:R→G:=by intro h;refine Kd ?_;(iterate 4 refine pu ?_);exact h):G:=k h
theorem Yi {R G:Prop}(h:R)(k:R→G:=by intro h;refine ZG ?_;refine Ky ?_;exact h):G:=k h
theorem Wq {R G:Prop}(h:R)(k:R→G:=by intro h;refine Kaa (d:=Kbo _) 0 htab rfl rfl rfl rfl rfl rfl rfl rfl ?_;exact h):G:=k h
theorem Kht (a0 r)(h0:Kec a0=some r):CallsD Tryz.prog 27 [Kbo a0] [] [] (fun d h k=>d=.tup [iD r.1,iD r.2.1,iD r.2.2]∧h=[]∧k=[]):=by
 refine PZ1 h0 Tryz.func27 fun C a=>?_;refine ZH fun b=>?_;iterate 3 refine pu ?_
 refine Zr ?_;refine ZA a fun q l m=>?_;refine Kaf (Y:=Unit) (fun s=>(⟨[(1,.ptr b 0),(19,.v (.bool q))],[(b,Blk.cells (CZ4 a0 .no .no) 34)],[]⟩:S)) ?_ ?_
 ·clear a;have a:=KE l;refine ZN ?_;refine pL 0 ?_;refine Yk ?_;refine Zl ?_;refine KaH (i:=14) rfl (fun c=>?_) (fun c=>?_)
  ·replace a:=yes_t c a;iterate 4 refine pK ?_
   refine ZB ?_;exact Z2 a
  replace a:=yes_f c a;refine YV ?_;refine YL ?_;refine ZE ?_;exact Z2 a
 intro F t;have a:=m;clear l m;refine Zb t fun s=>?_;refine cY a (fun a=>?_) fun a=>?_
 ·refine ZS ?_
  refine Yi ?_;obtain rfl:=Kf a;refine rP (t':=[(2,iD (0:Int)),(3,iD (0:Int)),(4,iD (6:Int))]) [] [] 0 (wC (wC (wC wN))) (lT (lT (lT lN))) ?_;exact Za
 refine ZO ?_;refine Kd ?_;refine Wq ?_;obtain ⟨n,u,a⟩:=Ka a;refine K5 (Kk7 a0 n u) rfl rfl rfl rfl rfl Wl ?_;rintro _ rfl;refine Yo ?_;refine Zv ?_;refine cY a (fun a=>?_) fun a=>?_
 ·refine YA ?_
  refine Yi ?_;obtain rfl:=Kf a;refine rP (t':=[(2,iD n),(3,iD (0:Int)),(4,iD (8:Int))]) [] [] 0 (wC (wC (wC wN))) (lT (lT (lT lN))) ?_;exact Za
 refine ZO ?_;refine ZR ?_;refine ZF ?_;obtain ⟨w,o,e⟩:=Ka a;refine KaG (τ:=Unit) (Y:=Unit) (fun x y=>(⟨[],[],[]⟩:S)) w ?_ ?_
 ·clear a;have a:=KE o;refine Zy a fun H z p=>?_;refine KaO (Y:=Unit) z (fun f A=>(⟨[(1,.ptr b 0),(26,.lst 5 (a0.gi.map KA) .no),(27,iD (a0.gi.length:Int)),(28,iD f)],[(b,Blk.cells (CZ4 a0 .no .no) 34)],[]⟩:S)) ?_ ?_
  ·skip
   exact ZI
  intro G32 f A a;refine Zn ?_;refine cY a (fun a=>?_) fun a=>?_
  ·refine Z0 ?_;refine Zd ?_;refine ZX a fun g I a=>?_;refine X4 ?_;refine Zq fun J=>?_;refine pu ?_;refine pS1 (ds':=(CZ3 g .no .no .no)) ?_;refine KH ?_;refine Wq ?_
   refine Kaa (d:=KA g) 1 htab rfl rfl rfl rfl rfl rfl rfl rfl ?_;obtain ⟨j,B,a⟩:=Ka a;refine K5 (checkF_ok a0 g j B) rfl rfl rfl rfl rfl Wl ?_;rintro _ rfl;iterate 5 refine pu ?_
   refine Zo ?_;refine Zv ?_;refine cY a (fun a=>?_) fun a=>?_
   ·refine ZR ?_;refine Yk ?_;iterate 7 refine pu ?_
    refine Yh ?_;obtain rfl:=K6 a;have a:=p
    refine ZQ ?_;obtain rfl:=Kf a;refine Ka4 ?_;have a:=e;refine Z1 a fun a=>?_
    obtain rfl:=Kf a;refine rP (t':=[(2,iD (IntKind.i64.wrap ((a0.gd.length:Int)+f))),(3,iD j.1),(4,iD j.2)]) [] [] 0 (wC (wC (wC wN))) (lT (lT (lT lN))) ?_;exact Za
   exact Xt a
  refine Zs ?_;obtain rfl:=K6 a;have a:=p
  exact Yn a
 intro x K D E;subst D;have a:=e;refine Zj a fun a=>?_;clear o e;refine Zb E fun y=>?_;refine ZS ?_
 refine ZG ?_;obtain rfl:=Kf a;refine rP (t':=[(2,iD (0:Int)),(3,iD (0:Int)),(4,iD (0:Int))]) [] [] 0 (wC (wC (wC wN))) (lT (lT (lT lN))) ?_;exact Za
end
section
open Go
set_option maxRecDepth 100000
def KgF (a0:List K3)(b:List K3):Option (Bool):=
 (bif ((a0.length:Int) != (b.length:Int)) then some false else (Option.bind (α:=(Unit)⊕(Bool)) (loopM (fun (a:Int)=>(bif (decide (a < (a0.length:Int))) then ((idx a0 a).bind fun c=>((idx b a).bind fun d=>(bif (!(decide (c.ga=d.ga) && (c.gz==d.gz && true))) then some (.done (.inr false)) else some (.next (IntKind.i64.wrap (a+(1:Int))))))) else some (.done (.inl ())))) (0:Int)) (Sum.elim (fun e=>some true) (fun r=>some r))))
theorem WU {A0 R G:Prop}(a0:A0)(h:R)(k:A0→R→G:=by intro _a h;refine zqp ?_;refine z_e rfl rfl (KO htab rfl rfl rfl rfl rfl rfl rfl (Ks _a) (KD _a)) rfl rfl rfl rfl rfl rfl ?_;exact h):G:=k a0 h
theorem YX {R G:Prop}(h:R)(k:R→G:=by intro h;refine Km ?_;refine ZM ?_;exact h):G:=k h
theorem Kkf (a0 b r)(h0:KgF a0 b=some r):CallsD Tryz.prog 25 [.lst 2 (a0.map Ku) .no,.lst 2 (b.map Ku) .no] [] [] (fun d h k=>d=.v (.bool r)∧h=[]∧k=[]):=by
 refine PZ1 h0 Tryz.func25 fun C a=>?_;refine Zn ?_;refine Zd ?_;refine YL ?_;refine ZF ?_;refine cY a (fun a=>?_) fun a=>?_
 ·refine Ye ?_;obtain rfl:=Kf a;refine rP (t':=[(4,.v (.bool false))]) [] [] 0 (wC wN) (lT lN) ?_;exact Za
 refine ZO ?_;refine Yx ?_;obtain ⟨i,e,c⟩:=Ka a;refine KaG (τ:=Unit) (Y:=Unit) (fun j l=>(⟨[],[],[]⟩:S)) i ?_ ?_
 ·clear a;have a:=KE e;refine Zy a fun w m f=>?_;refine KaO (Y:=Unit) m (fun g n=>(⟨[(0,.lst 2 (a0.map Ku) .no),(1,.lst 2 (b.map Ku) .no),(5,iD g)],[],[]⟩:S)) ?_ ?_
  ·skip
   exact Y2
  intro G21 g n a;refine YX ?_;refine ZF ?_;refine cY a (fun a=>?_) fun a=>?_
  ·refine Z0 ?_;refine ZA a fun o p a=>?_;obtain ⟨q,s,a⟩:=Ka a;refine Kaj 8 [] [[],[],[0],[0,2],[],[],[4],[4,6]] [0,2,3,4,6,7] [[],[],[0,1],[0,1,2],[],[],[4,5],[4,5,6],[0,1,2,3,4,5,6,7]] (by kernel_rfl) (by kernel_rfl) (by kernel_rfl) (by rfl) (by rfl) (by kernel_rfl) ?_;iterate 6 apply Exists.intro
   intro bs;refine zep ?_;refine WU p ?_;refine z_eM rfl rfl (KF (d:=Ku o) htab rfl rfl rfl rfl rfl) rfl rfl rfl rfl rfl rfl ?_;refine zep ?_;refine WU s ?_;refine z_eM rfl rfl (KF (d:=Ku q) htab rfl rfl rfl rfl rfl) rfl rfl rfl rfl rfl rfl ?_;refine ZC ?_;refine p_eqS htab rfl rfl rfl rfl rfl eqt64 rfl rfl rfl rfl rfl ?_;refine Kb ?_;refine cY a (fun a=>?_) fun a=>?_
   ·refine Yg ?_;obtain rfl:=K6 a;have a:=f
    refine ZQ ?_;obtain rfl:=Kf a;refine Ka4 ?_;have a:=c;refine Z1 a fun a=>?_
    obtain rfl:=Kf a;refine rP (t':=[(4,.v (.bool false))]) [] [] 0 (wC wN) (lT lN) ?_;exact Za
   refine ZK ?_;refine ZW ?_
   exact Wj a
  refine Zs ?_;obtain rfl:=K6 a;have a:=f
  exact Yn a
 intro j x t u;subst t;have a:=c;refine Zj a fun a=>?_;clear e c;refine Zb u fun l=>?_;refine ZY ?_;obtain rfl:=Kf a;refine rP (t':=[(4,.v (.bool true))]) [] [] 0 (wC wN) (lT lN) ?_;exact Za
abbrev nlVk3_1:List (List Nat):=nlD [] [(0,[]),(0,[]),(0,[0]),(3,[2]),(4,[3]),(0,[]),(0,[]),(0,[5]),(8,[7]),(9,[8]),(5,[5,7,8]),(11,[]),(11,[]),(11,[]),(11,[]),(11,[]),(11,[]),(11,[]),(11,[]),(11,[]),(11,[]),(11,[]),(11,[]),(11,[]),(11,[]),(11,[]),(11,[]),(11,[]),(11,[]),(11,[]),(11,[]),(11,[]),(11,[]),(11,[]),(11,[]),(11,[]),(11,[]),(11,[]),(11,[]),(11,[]),(11,[]),(11,[]),(11,[]),(11,[]),(11,[]),(11,[]),(11,[]),(11,[]),(11,[]),(11,[]),(11,[]),(11,[]),(11,[]),(11,[]),(11,[]),(11,[]),(11,[]),(11,[]),(11,[]),(11,[]),(11,[]),(11,[]),(11,[]),(11,[]),(11,[])]
abbrev Khf:List (List Nat):=nlD [] [(0,[]),(0,[]),(0,[0,1]),(3,[2]),(4,[3]),(0,[]),(0,[]),(0,[5,6]),(8,[7]),(9,[8]),(5,[4,5,6,7,8,9]),(11,[10]),(12,[11]),(13,[]),(13,[12,13]),(15,[14]),(16,[15]),(13,[]),(13,[]),(13,[17,18]),(20,[19]),(21,[20]),(17,[16,17,18,19,20,21]),(23,[22]),(24,[23]),(25,[24]),(26,[]),(26,[25,26]),(28,[27]),(29,[28]),(26,[]),(26,[]),(26,[30,31]),(33,[32]),(34,[33]),(30,[29,30,31,32,33,34]),(36,[35]),(37,[36]),(38,[37]),(39,[38]),(40,[39]),(41,[]),(41,[40,41]),(43,[42]),(44,[43]),(41,[]),(41,[]),(41,[45,46]),(48,[47]),(49,[48]),(45,[44,45,46,47,48,49]),(51,[50]),(52,[51]),(53,[52]),(54,[53]),(55,[]),(55,[54,55]),(57,[56]),(58,[57]),(55,[]),(55,[]),(55,[59,60]),(62,[61]),(63,[62]),(55,[]),(59,[58,59,60,61,62,63,64]),(66,[65]),(67,[66])]
abbrev nlVk3_3:List (List Nat):=nlD [] [(0,[]),(0,[]),(0,[0]),(3,[2]),(4,[3]),(0,[]),(0,[]),(0,[5]),(8,[7]),(9,[8]),(5,[5,7,8]),(11,[]),(11,[]),(11,[]),(11,[12]),(15,[14]),(16,[15]),(11,[]),(11,[]),(11,[17]),(20,[19]),(21,[20]),(17,[17,19,20]),(23,[]),(23,[]),(23,[]),(23,[]),(23,[]),(23,[]),(23,[]),(23,[]),(23,[]),(23,[]),(23,[]),(23,[]),(23,[]),(23,[]),(23,[]),(23,[]),(23,[]),(23,[]),(23,[]),(23,[]),(23,[]),(23,[]),(23,[]),(23,[]),(23,[]),(23,[]),(23,[]),(23,[]),(23,[]),(23,[]),(23,[]),(23,[]),(23,[]),(23,[]),(23,[]),(23,[]),(23,[]),(23,[]),(23,[]),(23,[]),(23,[]),(23,[])]
abbrev nlVk3_4:List (List Nat):=nlD [] [(0,[]),(0,[]),(0,[0]),(3,[2]),(4,[3]),(0,[]),(0,[]),(0,[5]),(8,[7]),(9,[8]),(5,[5,7,8]),(11,[]),(11,[]),(11,[]),(11,[12]),(15,[14]),(16,[15]),(11,[]),(11,[]),(11,[17]),(20,[19]),(21,[20]),(17,[17,19,20]),(23,[]),(23,[]),(23,[]),(23,[]),(23,[25]),(28,[27]),(29,[28]),(23,[]),(23,[]),(23,[30]),(33,[32]),(34,[33]),(30,[30,32,33]),(36,[]),(36,[]),(36,[]),(36,[]),(36,[]),(36,[]),(36,[]),(36,[]),(36,[]),(36,[]),(36,[]),(36,[]),(36,[]),(36,[]),(36,[]),(36,[]),(36,[]),(36,[]),(36,[]),(36,[]),(36,[]),(36,[]),(36,[]),(36,[]),(36,[]),(36,[]),(36,[]),(36,[]),(36,[])]
abbrev nlVk3_5:List (List Nat):=nlD [] [(0,[]),(0,[]),(0,[0]),(3,[2]),(4,[3]),(0,[]),(0,[]),(0,[5]),(8,[7]),(9,[8]),(5,[5,7,8]),(11,[]),(11,[]),(11,[]),(11,[12]),(15,[14]),(16,[15]),(11,[]),(11,[]),(11,[17]),(20,[19]),(21,[20]),(17,[17,19,20]),(23,[]),(23,[]),(23,[]),(23,[]),(23,[25]),(28,[27]),(29,[28]),(23,[]),(23,[]),(23,[30]),(33,[32]),(34,[33]),(30,[30,32,33]),(36,[]),(36,[]),(36,[]),(36,[]),(36,[]),(36,[]),(36,[40]),(43,[42]),(44,[43]),(36,[]),(36,[]),(36,[45]),(48,[47]),(49,[48]),(45,[45,47,48]),(51,[]),(51,[]),(51,[]),(51,[]),(51,[]),(51,[]),(51,[]),(51,[]),(51,[]),(51,[]),(51,[]),(51,[]),(51,[]),(51,[])]
abbrev nlVk3_6:List (List Nat):=nlD [] [(0,[]),(0,[]),(0,[0]),(3,[2]),(4,[3]),(0,[]),(0,[]),(0,[5]),(8,[7]),(9,[8]),(5,[5,7,8]),(11,[]),(11,[]),(11,[]),(11,[12]),(15,[14]),(16,[15]),(11,[]),(11,[]),(11,[17]),(20,[19]),(21,[20]),(17,[17,19,20]),(23,[]),(23,[]),(23,[]),(23,[]),(23,[25]),(28,[27]),(29,[28]),(23,[]),(23,[]),(23,[30]),(33,[32]),(34,[33]),(30,[30,32,33]),(36,[]),(36,[]),(36,[]),(36,[]),(36,[]),(36,[]),(36,[40]),(43,[42]),(44,[43]),(36,[]),(36,[]),(36,[45]),(48,[47]),(49,[48]),(45,[45,47,48]),(51,[]),(51,[]),(51,[]),(51,[]),(51,[]),(51,[54]),(57,[56]),(58,[57]),(51,[]),(51,[]),(51,[59]),(62,[61]),(63,[62]),(51,[])]
abbrev nlVk3_7:List (List Nat):=nlD [] [(0,[]),(0,[]),(0,[0]),(3,[2]),(4,[3]),(0,[]),(0,[]),(0,[5]),(8,[7]),(9,[8]),(5,[5,7,8]),(11,[]),(11,[]),(11,[]),(11,[12]),(15,[14]),(16,[15]),(11,[]),(11,[]),(11,[17]),(20,[19]),(21,[20]),(17,[17,19,20]),(23,[]),(23,[]),(23,[]),(23,[]),(23,[25]),(28,[27]),(29,[28]),(23,[]),(23,[]),(23,[30]),(33,[32]),(34,[33]),(30,[30,32,33]),(36,[]),(36,[]),(36,[]),(36,[]),(36,[]),(36,[]),(36,[]),(36,[]),(36,[]),(36,[]),(36,[]),(36,[]),(36,[]),(36,[]),(36,[]),(36,[]),(36,[]),(36,[]),(36,[]),(36,[]),(36,[54]),(57,[56]),(58,[57]),(36,[]),(36,[]),(36,[59]),(62,[61]),(63,[62]),(36,[])]
def Kek (g0:(List Ke)→(List Ke)→(Bool)→Option (Bool))(a0:List Ke)(b:List Ke)(c:Bool):Option (Bool):=
 (bif ((a0.length:Int) != (b.length:Int)) then some false else (Option.bind (α:=(Unit)⊕(Bool)) (loopM (fun (a:Int)=>(bif (decide (a < (a0.length:Int))) then (Option.bind (α:=Bool) ((idx a0 a).bind fun d=>((idx b a).bind fun e=>(bif (d.gj != e.gj) then some true else ((idx a0 a).bind fun f=>((idx b a).bind fun g=>(bif (f.gN != g.gN) then some true else ((idx a0 a).bind fun h=>((idx b a).bind fun i=>(bif (!decide (h.ga=i.ga)) then some true else (bif c then ((idx a0 a).bind fun j=>((idx b a).bind fun k=>(bif (j.gb != k.gb) then some true else ((idx a0 a).bind fun l=>((idx b a).bind fun m=>((g0 l.gc m.gc c).bind fun n=>some (!n))))))) else ((idx a0 a).bind fun o=>((idx b a).bind fun p=>((g0 o.gc p.gc c).bind fun q=>some (!q)))))))))))))) fun s=>(bif s then some (.done (.inr false)) else some (.next (IntKind.i64.wrap (a+(1:Int)))))) else some (.done (.inl ())))) (0:Int)) (Sum.elim (fun t=>some true) (fun r=>some r))))
theorem Z4 {A0 R G:Prop}(a0:A0)(h:R)(k:A0→R→G:=by intro _a h;refine zep ?_;refine zqp ?_;refine z_e rfl rfl (Ex.wk (KO htab rfl rfl rfl rfl rfl rfl rfl (Ks _a) (KD _a)) (Wk.of_eq (congrArg D.el (Ko _)))) rfl rfl rfl rfl rfl rfl ?_;refine zep ?_;refine z_qM rfl rfl (KF htab rfl rfl rfl rfl rfl) rfl rfl rfl rfl rfl rfl ?_;exact h):G:=k a0 h
theorem YR {R G:Prop}(h:R)(k:R→G:=by intro h;refine z_q rfl rfl (Kay rfl rfl rfl) rfl rfl rfl rfl rfl rfl ?_;refine zqp ?_;exact h):G:=k h
theorem Ya {R G:Prop}(h:R)(k:R→G:=by intro h;refine z_q rfl rfl (KaR rfl rfl rfl) rfl rfl rfl rfl rfl rfl ?_;refine zqp ?_;exact h):G:=k h
theorem Y7 {A0 G:Prop}(a0:A0)(k:A0→G:=by intro _a;(iterate 11 refine zK ?_);refine ZC ?_;refine pK ?_;refine pK ?_;refine Kal rfl rfl rfl rfl rfl rfl ?_;refine KC ?_;obtain rfl:=Kf _a;refine ⟨rfl,?_⟩;exact wO (wP (wC (wC (wC (wC (wC wN))))))):G:=k a0
theorem Y8 {A0 G:Prop}(a0:A0)(k:A0→G:=by intro _a;obtain rfl:=Kf _a;refine rP (t':=[(6,.v (.bool false))]) [] [] 0 (wC wN) (lT lN) ?_;exact Za):G:=k a0
theorem Xh {A0 G:Prop}(a0:A0)(k:A0→G:=by intro _a;refine KC ?_;obtain rfl:=Kf _a;refine ⟨rfl,?_⟩;exact wO (wP (wC (wC (wC (wC (wC wN))))))):G:=k a0
theorem Wr {A0 R G:Prop}(a0:A0)(h:R)(k:A0→R→G:=by intro _a h;refine zep ?_;refine zqp ?_;refine z_e rfl rfl (Ex.wk (KO htab rfl rfl rfl rfl rfl rfl rfl (Ks _a) (KD _a)) (Wk.of_eq (congrArg D.el (Ko _)))) rfl rfl rfl rfl rfl rfl ?_;refine zep ?_;refine z_eM rfl rfl (KF htab rfl rfl rfl rfl rfl) rfl rfl rfl rfl rfl rfl ?_;exact h):G:=k a0 h
theorem Xy {A0 R G:Prop}(a0:A0)(h:R)(k:A0→R→G:=by intro _a h;refine zqp ?_;refine YR ?_;refine K1 (j:=56) (b':=false) rfl _a ?_;refine zqp ?_;refine zqp ?_;exact h):G:=k a0 h
theorem Xi {A0 G:Prop}(a0:A0)(k:A0→G:=by intro _a;refine ZW ?_;refine KC ?_;refine Kc ⟨_,Kaw _a,?_⟩;exact ZI):G:=k a0
theorem XQ {R G:Prop}(h:R)(k:R→G:=by intro h;refine zqp ?_;refine z_q rfl rfl (KaR rfl rfl rfl) rfl rfl rfl rfl rfl rfl ?_;refine YR ?_;exact h):G:=k h
theorem Yb {R G:Prop}(h:R)(k:R→G:=by intro h;refine zqp ?_;refine zqp ?_;exact h):G:=k h
theorem Ws {A0 A1 R G:Prop}(a0:A0)(c:A1)(h:R)(k:A0→A1→R→G:=by intro _a _b h;refine Xy _a ?_;refine K1 (j:=58) (b':=false) rfl _b ?_;(iterate 11 refine zK ?_);refine z_q rfl rfl (Kay rfl rfl rfl) rfl rfl rfl rfl rfl rfl ?_;refine YR ?_;exact h):G:=k a0 c h
theorem X5 {A0 A1 A2 A3 R G:Prop}(a0:A0)(c:A1)(b:A2)(F:A3)(h:R)(k:A0→A1→A2→A3→R→G:=by intro _a _b _c _d h;refine Z4 _a ?_;refine Yb ?_;refine K1 (j:=30) (b':=false) rfl _b ?_;refine Z4 _c ?_;refine Z4 _d ?_;refine zqp ?_;refine YR ?_;exact h):G:=k a0 c b F h
theorem Wt {A0 G:Prop}(a0:A0)(k:A0→G:=by intro _a;obtain rfl:=Kf _a;refine rP (t':=[(6,.v (.bool true))]) [] [] 0 (wC wN) (lT lN) ?_;exact Za):G:=k a0
theorem Wu {R G:Prop}(h:R)(k:R→G:=by intro h;(iterate 11 refine zK ?_);refine Ya ?_;(iterate 14 refine zK ?_);refine Ya ?_;exact h):G:=k h
theorem YD {R G:Prop}(h:R)(k:R→G:=by intro h;refine zqp ?_;refine YR ?_;exact h):G:=k h
theorem Wv {A0 G:Prop}(a0:A0)(k:A0→G:=by intro _a;rintro _ rfl;refine pu ?_;refine ZE ?_;exact Xh _a):G:=k a0
theorem KlK (g0:(List Ke)→(List Ke)→(Bool)→Option (Bool))(w:∀ (a0:List Ke) (c:List Ke) (b:Bool) (r:Bool) (h0:g0 a0 c b=some r),CallsD Tryz.prog 53 [.lst 5 (a0.map Kk) .no,.lst 5 (c.map Kk) .no,.v (.bool b)] [] [] (fun d h k=>d=.v (.bool r)∧h=[]∧k=[]))(a0 c b r)(h0:Kek g0 a0 c b=some r):CallsD Tryz.prog 53 [.lst 5 (a0.map Kk) .no,.lst 5 (c.map Kk) .no,.v (.bool b)] [] [] (fun d h k=>d=.v (.bool r)∧h=[]∧k=[]):=by
 refine PZ1 h0 Tryz.func53 fun C a=>?_;refine Zn ?_;refine Zd ?_;refine YL ?_;refine ZF ?_;refine cY a (fun a=>?_) fun a=>?_
 ·refine Ye ?_;exact Y8 a
 refine ZO ?_;refine Yx ?_;obtain ⟨H,x,t⟩:=Ka a;refine KaG (τ:=Unit) (Y:=Unit) (fun I J=>(⟨[],[],[]⟩:S)) H ?_ ?_
 ·clear a;have a:=KE x;refine Zy a fun ao K y=>?_;refine KaO (Y:=Unit) K (fun u L=>(⟨[(0,.lst 5 (a0.map Kk) .no),(1,.lst 5 (c.map Kk) .no),(2,.v (.bool b)),(7,iD u)],[],[]⟩:S)) ?_ ?_
  ·skip
   exact ZI
  intro G132 u L a;refine YX ?_;refine ZF ?_;refine cY a (fun a=>?_) fun a=>?_
  ·refine Z0 ?_;refine ZA a fun M z A=>?_;refine Kaf (Y:=Unit) (fun N=>(⟨[(0,.lst 5 (a0.map Kk) .no),(1,.lst 5 (c.map Kk) .no),(2,.v (.bool b)),(7,iD u),(86,.v (.bool M))],[],[]⟩:S)) ?_ ?_
   ·clear a;have a:=KE z;obtain ⟨O,i,a⟩:=Ka a;obtain ⟨P,l,a⟩:=Ka a;refine bycB (O.gj != P.gj) (fun e=>?_) (fun e=>?_)
    ·replace a:=yes_t e a;refine Kaj 65 [] nlVk3_1 [0,2,3,5,7,8] Khf (by kernel_rfl) (by kernel_rfl) (by kernel_rfl) (by rfl) (by rfl) (by kernel_rfl) ?_;iterate 6 apply Exists.intro
     intro bs;refine Z4 i ?_;refine Z4 l ?_;refine Yb ?_
     refine K1 (j:=30) (b':=true) rfl e ?_;iterate 11 refine zK ?_
     refine Ya ?_;refine Wu ?_
     exact Y7 a
    replace a:=yes_f e a;obtain ⟨Q,n,a⟩:=Ka a;obtain ⟨T,o,a⟩:=Ka a;refine bycB (Q.gN != T.gN) (fun f=>?_) (fun f=>?_)
    ·replace a:=yes_t f a;refine Kaj 65 [] nlVk3_3 [0,2,3,5,7,8,12,14,15,17,19,20] Khf (by kernel_rfl) (by kernel_rfl) (by kernel_rfl) (by rfl) (by rfl) (by kernel_rfl) ?_;iterate 12 apply Exists.intro
     intro bs;refine Z4 i ?_;refine X5 l e n o ?_
     refine K1 (j:=43) (b':=true) rfl f ?_;refine Wu ?_
     exact Y7 a
    replace a:=yes_f f a;obtain ⟨U,q,a⟩:=Ka a;obtain ⟨V,s,a⟩:=Ka a;refine bycB (!decide (U.ga=V.ga)) (fun g=>?_) (fun g=>?_)
    ·replace a:=yes_t g a;refine Kaj 65 [] nlVk3_4 [0,2,3,5,7,8,12,14,15,17,19,20,25,27,28,30,32,33] Khf (by kernel_rfl) (by kernel_rfl) (by kernel_rfl) (by rfl) (by rfl) (by kernel_rfl) ?_;iterate 18 apply Exists.intro
     intro bs;refine Z4 i ?_;refine X5 l e n o ?_
     refine K1 (j:=43) (b':=false) rfl f ?_;refine Z4 q ?_;refine Z4 s ?_
     refine YD ?_;refine K1 (j:=56) (b':=true) rfl g ?_;iterate 14 refine zK ?_
     refine Ya ?_;exact Y7 a
    replace a:=yes_f g a;refine bycB b (fun m=>?_) (fun m=>?_)
    ·replace a:=yes_t m a;obtain ⟨W,B,a⟩:=Ka a;obtain ⟨X,E,a⟩:=Ka a;refine bycB (W.gb != X.gb) (fun p=>?_) (fun p=>?_)
     ·replace a:=yes_t p a;refine Kaj 65 [] nlVk3_5 [0,2,3,5,7,8,12,14,15,17,19,20,25,27,28,30,32,33,40,42,43,45,47,48] Khf (by kernel_rfl) (by kernel_rfl) (by kernel_rfl) (by rfl) (by rfl) (by kernel_rfl) ?_;iterate 24 apply Exists.intro
      intro bs;refine Z4 i ?_;refine X5 l e n o ?_
      refine K1 (j:=43) (b':=false) rfl f ?_;refine Z4 q ?_;refine Z4 s ?_
      refine Xy g ?_;refine K1 (j:=58) (b':=true) rfl m ?_;refine Z4 B ?_;refine Z4 E ?_
      refine XQ ?_;refine K1 (j:=72) (b':=true) rfl p ?_;exact Y7 a
     replace a:=yes_f p a;obtain ⟨Z,aa,a⟩:=Ka a;obtain ⟨ab,ac,a⟩:=Ka a;refine Kaj 65 [] nlVk3_6 [0,2,3,5,7,8,12,14,15,17,19,20,25,27,28,30,32,33,40,42,43,45,47,48,54,56,57,58,59,61,62,63] Khf (by kernel_rfl) (by kernel_rfl) (by kernel_rfl) (by rfl) (by rfl) (by kernel_rfl) ?_;iterate 32 apply Exists.intro
     intro bs;refine Z4 i ?_;refine X5 l e n o ?_
     refine K1 (j:=43) (b':=false) rfl f ?_;refine Z4 q ?_;refine Z4 s ?_
     refine Xy g ?_;refine K1 (j:=58) (b':=true) rfl m ?_;refine Z4 B ?_;refine Z4 E ?_
     refine XQ ?_;refine K1 (j:=72) (b':=false) rfl p ?_;refine Wr aa ?_
     refine Wr ac ?_;refine zqp ?_;refine ZC ?_;obtain ⟨ad,ae,a⟩:=Ka a
     refine K5 (w Z.gc ab.gc b ad ae) rfl rfl rfl rfl rfl Wl ?_;exact Wv a
    replace a:=yes_f m a;obtain ⟨af,ag,a⟩:=Ka a;obtain ⟨ah,ai,a⟩:=Ka a;refine Kaj 65 [] nlVk3_7 [0,2,3,5,7,8,12,14,15,17,19,20,25,27,28,30,32,33,54,56,57,58,59,61,62,63] Khf (by kernel_rfl) (by kernel_rfl) (by kernel_rfl) (by rfl) (by rfl) (by kernel_rfl) ?_;iterate 26 apply Exists.intro
    intro bs;refine Z4 i ?_;refine X5 l e n o ?_
    refine K1 (j:=43) (b':=false) rfl f ?_;refine Z4 q ?_;refine Z4 s ?_;refine Ws g m ?_
    refine Wr ag ?_;refine Wr ai ?_
    refine zqp ?_;refine ZC ?_;obtain ⟨aj,ak,a⟩:=Ka a;refine K5 (w af.gc ah.gc b aj ak) rfl rfl rfl rfl rfl Wl ?_;exact Wv a
   intro ap al;have a:=A;clear z A;refine Zb al fun N=>?_;refine cY a (fun a=>?_) fun a=>?_
   ·refine Yg ?_;obtain rfl:=K6 a;have a:=y
    refine ZQ ?_;obtain rfl:=Kf a;refine Ka4 ?_;have a:=t;refine Z1 a fun a=>?_
    exact Y8 a
   refine ZK ?_;exact Xi a
  refine Zs ?_;obtain rfl:=K6 a;have a:=y
  exact Yn a
 intro I aq am an;subst am;have a:=t;refine Zj a fun a=>?_;clear x t;refine Zb an fun J=>?_;refine ZY ?_;exact Wt a
def KcO:Nat→((List Ke)→(List Ke)→(Bool)→Option (Bool))
 | 0=>(fun _ _ _=>none)
 | n+1=>(Kek ((KcO n)))
theorem Kjt:∀ n,(∀ (a0:List Ke) (a:List Ke) (b:Bool) (r:Bool) (h0:(KcO n) a0 a b=some r),CallsD Tryz.prog 53 [.lst 5 (a0.map Kk) .no,.lst 5 (a.map Kk) .no,.v (.bool b)] [] [] (fun d h k=>d=.v (.bool r)∧h=[]∧k=[]))
 | 0=>fun _ _ _ _ h0=>by cases h0
 |
  n+1=>by
  have ih:=Kjt n;exact KlK (KcO n) ih
theorem Kju:∀ n,(∀ (a0:List Ke) (a:List Ke) (b:Bool),Le ((KcO n) a0 a b) ((KcO (n+1)) a0 a b))
 | 0=>fun _ _ _=>Le.none _
 |
  n+1=>by
  have ih:=Kju n;exact fun a0 a b=>by show Le (Kek ((KcO n)) a0 a b) (Kek ((KcO (n+1))) a0 a b);revert ih;generalize KcO n=G0;generalize KcO (n+1)=G1;intro ih;unfold Kek;repeat (first|with_reducible exact Le.refl _|with_reducible exact ih _ _ _|with_reducible assumption|(refine Le.bind ?_ (fun _=>?_))|(refine Le.cond ?_ ?_)|(refine Le.loop (fun _=>?_))|(refine Le.elim (fun _=>?_) (fun _=>?_)))
def Khu (a0:List Ke)(a:List Ke)(b:Bool):Option (Bool):=anyN fun n=>(KcO n) a0 a b
theorem Kl3 (a0:List Ke)(a:List Ke)(b:Bool){r:Bool}(n:Nat)(h:(KcO n) a0 a b=some r):Khu a0 a b=some r:=KdY (fun m=>(Kju m) a0 a b) h
theorem KeU (a0 a b r)(h0:Khu a0 a b=some r):CallsD Tryz.prog 53 [.lst 5 (a0.map Kk) .no,.lst 5 (a.map Kk) .no,.v (.bool b)] [] [] (fun d h k=>d=.v (.bool r)∧h=[]∧k=[]):=
 let ⟨n,hn⟩:=Kc4 h0;(Kjt n) a0 a b r hn
end
section
open Go
set_option maxRecDepth 100000
abbrev nlVk3_8:List (List Nat):=nlD [] [(0,[]),(0,[]),(0,[0]),(3,[2]),(4,[3]),(0,[]),(0,[]),(0,[5]),(8,[7]),(9,[8]),(5,[5,7,8]),(11,[]),(11,[]),(11,[]),(11,[]),(11,[]),(11,[]),(11,[]),(11,[]),(11,[]),(11,[]),(11,[]),(11,[]),(11,[]),(11,[]),(11,[]),(11,[]),(11,[]),(11,[]),(11,[]),(11,[]),(11,[]),(11,[]),(11,[]),(11,[]),(11,[]),(11,[]),(11,[]),(11,[]),(11,[]),(11,[]),(11,[]),(11,[]),(11,[]),(11,[]),(11,[]),(11,[]),(11,[]),(11,[]),(11,[]),(11,[]),(11,[]),(11,[]),(11,[]),(11,[]),(11,[]),(11,[]),(11,[]),(11,[]),(11,[]),(11,[]),(11,[]),(11,[]),(11,[]),(11,[]),(11,[]),(11,[]),(11,[]),(11,[]),(11,[]),(11,[]),(11,[]),(11,[]),(11,[]),(11,[]),(11,[]),(11,[]),(11,[]),(11,[]),(11,[]),(11,[]),(11,[]),(11,[]),(11,[]),(11,[]),(11,[]),(11,[]),(11,[]),(11,[]),(11,[]),(11,[]),(11,[]),(11,[]),(11,[]),(11,[])]
abbrev KeV:List (List Nat):=nlD [] [(0,[]),(0,[]),(0,[0,1]),(3,[2]),(4,[3]),(0,[]),(0,[]),(0,[5,6]),(8,[7]),(9,[8]),(5,[4,5,6,7,8,9]),(11,[10]),(12,[11]),(13,[]),(13,[12,13]),(15,[14]),(16,[15]),(13,[]),(13,[]),(13,[17,18]),(20,[19]),(21,[20]),(17,[16,17,18,19,20,21]),(23,[22]),(24,[23]),(25,[24]),(26,[]),(26,[25,26]),(28,[27]),(29,[28]),(26,[]),(26,[]),(26,[30,31]),(33,[32]),(34,[33]),(30,[29,30,31,32,33,34]),(36,[35]),(37,[36]),(38,[37]),(39,[38]),(40,[39]),(41,[]),(41,[40,41]),(43,[42]),(44,[43]),(41,[]),(41,[]),(41,[45,46]),(48,[47]),(49,[48]),(45,[44,45,46,47,48,49]),(51,[50]),(52,[51]),(53,[52]),(54,[53]),(55,[]),(55,[54,55]),(57,[56]),(58,[57]),(55,[]),(55,[]),(55,[59,60]),(62,[61]),(63,[62]),(55,[]),(59,[58,59,60,61,62,63,64]),(66,[65]),(67,[66]),(68,[67]),(69,[68]),(70,[]),(70,[69,70]),(72,[71]),(73,[72]),(70,[]),(70,[]),(70,[74,75]),(77,[76]),(78,[77]),(70,[]),(74,[73,74,75,76,77,78,79]),(81,[80]),(82,[81]),(83,[82]),(84,[83]),(85,[]),(85,[84,85]),(87,[86]),(88,[87]),(85,[]),(85,[]),(85,[89,90]),(92,[91]),(93,[92]),(85,[]),(89,[88,89,90,91,92,93,94]),(96,[95]),(97,[96])]
abbrev nlVk3_10:List (List Nat):=nlD [] [(0,[]),(0,[]),(0,[0]),(3,[2]),(4,[3]),(0,[]),(0,[]),(0,[5]),(8,[7]),(9,[8]),(5,[5,7,8]),(11,[]),(11,[]),(11,[]),(11,[12]),(15,[14]),(16,[15]),(11,[]),(11,[]),(11,[17]),(20,[19]),(21,[20]),(17,[17,19,20]),(23,[]),(23,[]),(23,[]),(23,[]),(23,[]),(23,[]),(23,[]),(23,[]),(23,[]),(23,[]),(23,[]),(23,[]),(23,[]),(23,[]),(23,[]),(23,[]),(23,[]),(23,[]),(23,[]),(23,[]),(23,[]),(23,[]),(23,[]),(23,[]),(23,[]),(23,[]),(23,[]),(23,[]),(23,[]),(23,[]),(23,[]),(23,[]),(23,[]),(23,[]),(23,[]),(23,[]),(23,[]),(23,[]),(23,[]),(23,[]),(23,[]),(23,[]),(23,[]),(23,[]),(23,[]),(23,[]),(23,[]),(23,[]),(23,[]),(23,[]),(23,[]),(23,[]),(23,[]),(23,[]),(23,[]),(23,[]),(23,[]),(23,[]),(23,[]),(23,[]),(23,[]),(23,[]),(23,[]),(23,[]),(23,[]),(23,[]),(23,[]),(23,[]),(23,[]),(23,[]),(23,[]),(23,[])]
abbrev nlVk3_11:List (List Nat):=nlD [] [(0,[]),(0,[]),(0,[0]),(3,[2]),(4,[3]),(0,[]),(0,[]),(0,[5]),(8,[7]),(9,[8]),(5,[5,7,8]),(11,[]),(11,[]),(11,[]),(11,[12]),(15,[14]),(16,[15]),(11,[]),(11,[]),(11,[17]),(20,[19]),(21,[20]),(17,[17,19,20]),(23,[]),(23,[]),(23,[]),(23,[]),(23,[25]),(28,[27]),(29,[28]),(23,[]),(23,[]),(23,[30]),(33,[32]),(34,[33]),(30,[30,32,33]),(36,[]),(36,[]),(36,[]),(36,[]),(36,[]),(36,[]),(36,[]),(36,[]),(36,[]),(36,[]),(36,[]),(36,[]),(36,[]),(36,[]),(36,[]),(36,[]),(36,[]),(36,[]),(36,[]),(36,[]),(36,[]),(36,[]),(36,[]),(36,[]),(36,[]),(36,[]),(36,[]),(36,[]),(36,[]),(36,[]),(36,[]),(36,[]),(36,[]),(36,[]),(36,[]),(36,[]),(36,[]),(36,[]),(36,[]),(36,[]),(36,[]),(36,[]),(36,[]),(36,[]),(36,[]),(36,[]),(36,[]),(36,[]),(36,[]),(36,[]),(36,[]),(36,[]),(36,[]),(36,[]),(36,[]),(36,[]),(36,[]),(36,[]),(36,[])]
abbrev nlVk3_12:List (List Nat):=nlD [] [(0,[]),(0,[]),(0,[0]),(3,[2]),(4,[3]),(0,[]),(0,[]),(0,[5]),(8,[7]),(9,[8]),(5,[5,7,8]),(11,[]),(11,[]),(11,[]),(11,[12]),(15,[14]),(16,[15]),(11,[]),(11,[]),(11,[17]),(20,[19]),(21,[20]),(17,[17,19,20]),(23,[]),(23,[]),(23,[]),(23,[]),(23,[25]),(28,[27]),(29,[28]),(23,[]),(23,[]),(23,[30]),(33,[32]),(34,[33]),(30,[30,32,33]),(36,[]),(36,[]),(36,[]),(36,[]),(36,[]),(36,[]),(36,[40]),(43,[42]),(44,[43]),(36,[]),(36,[]),(36,[45]),(48,[47]),(49,[48]),(45,[45,47,48]),(51,[]),(51,[]),(51,[]),(51,[]),(51,[]),(51,[]),(51,[]),(51,[]),(51,[]),(51,[]),(51,[]),(51,[]),(51,[]),(51,[]),(51,[]),(51,[]),(51,[]),(51,[]),(51,[]),(51,[]),(51,[]),(51,[]),(51,[]),(51,[]),(51,[]),(51,[]),(51,[]),(51,[]),(51,[]),(51,[]),(51,[]),(51,[]),(51,[]),(51,[]),(51,[]),(51,[]),(51,[]),(51,[]),(51,[]),(51,[]),(51,[]),(51,[]),(51,[]),(51,[])]
abbrev nlVk3_13:List (List Nat):=nlD [] [(0,[]),(0,[]),(0,[0]),(3,[2]),(4,[3]),(0,[]),(0,[]),(0,[5]),(8,[7]),(9,[8]),(5,[5,7,8]),(11,[]),(11,[]),(11,[]),(11,[12]),(15,[14]),(16,[15]),(11,[]),(11,[]),(11,[17]),(20,[19]),(21,[20]),(17,[17,19,20]),(23,[]),(23,[]),(23,[]),(23,[]),(23,[25]),(28,[27]),(29,[28]),(23,[]),(23,[]),(23,[30]),(33,[32]),(34,[33]),(30,[30,32,33]),(36,[]),(36,[]),(36,[]),(36,[]),(36,[]),(36,[]),(36,[40]),(43,[42]),(44,[43]),(36,[]),(36,[]),(36,[45]),(48,[47]),(49,[48]),(45,[45,47,48]),(51,[]),(51,[]),(51,[]),(51,[]),(51,[]),(51,[54]),(57,[56]),(58,[57]),(51,[]),(51,[]),(51,[59]),(62,[61]),(63,[62]),(51,[]),(59,[58,59,61,62,63]),(66,[65]),(67,[]),(67,[]),(67,[]),(67,[]),(67,[]),(67,[]),(67,[]),(67,[]),(67,[]),(67,[]),(67,[]),(67,[]),(67,[]),(67,[]),(67,[]),(67,[]),(67,[]),(67,[]),(67,[]),(67,[]),(67,[]),(67,[]),(67,[]),(67,[]),(67,[]),(67,[]),(67,[]),(67,[])]
abbrev nlVk3_14:List (List Nat):=nlD [] [(0,[]),(0,[]),(0,[0]),(3,[2]),(4,[3]),(0,[]),(0,[]),(0,[5]),(8,[7]),(9,[8]),(5,[5,7,8]),(11,[]),(11,[]),(11,[]),(11,[12]),(15,[14]),(16,[15]),(11,[]),(11,[]),(11,[17]),(20,[19]),(21,[20]),(17,[17,19,20]),(23,[]),(23,[]),(23,[]),(23,[]),(23,[25]),(28,[27]),(29,[28]),(23,[]),(23,[]),(23,[30]),(33,[32]),(34,[33]),(30,[30,32,33]),(36,[]),(36,[]),(36,[]),(36,[]),(36,[]),(36,[]),(36,[40]),(43,[42]),(44,[43]),(36,[]),(36,[]),(36,[45]),(48,[47]),(49,[48]),(45,[45,47,48]),(51,[]),(51,[]),(51,[]),(51,[]),(51,[]),(51,[54]),(57,[56]),(58,[57]),(51,[]),(51,[]),(51,[59]),(62,[61]),(63,[62]),(51,[]),(59,[58,59,61,62,63]),(66,[65]),(67,[]),(67,[]),(67,[]),(67,[]),(67,[69]),(72,[71]),(73,[72]),(67,[]),(67,[]),(67,[74]),(77,[76]),(78,[77]),(67,[]),(74,[73,74,76,77,78]),(81,[80]),(82,[]),(82,[]),(82,[]),(82,[]),(82,[]),(82,[]),(82,[]),(82,[]),(82,[]),(82,[]),(82,[]),(82,[]),(82,[])]
abbrev nlVk3_15:List (List Nat):=nlD [] [(0,[]),(0,[]),(0,[0]),(3,[2]),(4,[3]),(0,[]),(0,[]),(0,[5]),(8,[7]),(9,[8]),(5,[5,7,8]),(11,[]),(11,[]),(11,[]),(11,[12]),(15,[14]),(16,[15]),(11,[]),(11,[]),(11,[17]),(20,[19]),(21,[20]),(17,[17,19,20]),(23,[]),(23,[]),(23,[]),(23,[]),(23,[25]),(28,[27]),(29,[28]),(23,[]),(23,[]),(23,[30]),(33,[32]),(34,[33]),(30,[30,32,33]),(36,[]),(36,[]),(36,[]),(36,[]),(36,[]),(36,[]),(36,[40]),(43,[42]),(44,[43]),(36,[]),(36,[]),(36,[45]),(48,[47]),(49,[48]),(45,[45,47,48]),(51,[]),(51,[]),(51,[]),(51,[]),(51,[]),(51,[54]),(57,[56]),(58,[57]),(51,[]),(51,[]),(51,[59]),(62,[61]),(63,[62]),(51,[]),(59,[58,59,61,62,63]),(66,[65]),(67,[]),(67,[]),(67,[]),(67,[]),(67,[69]),(72,[71]),(73,[72]),(67,[]),(67,[]),(67,[74]),(77,[76]),(78,[77]),(67,[]),(74,[73,74,76,77,78]),(81,[80]),(82,[]),(82,[]),(82,[]),(82,[]),(82,[84]),(87,[86]),(88,[87]),(82,[]),(82,[]),(82,[89]),(92,[91]),(93,[92]),(82,[])]
abbrev nlVk3_16:List (List Nat):=nlD [] [(0,[]),(0,[]),(0,[0]),(3,[2]),(4,[3]),(0,[]),(0,[]),(0,[5]),(8,[7]),(9,[8]),(5,[5,7,8]),(11,[]),(11,[]),(11,[]),(11,[12]),(15,[14]),(16,[15]),(11,[]),(11,[]),(11,[17]),(20,[19]),(21,[20]),(17,[17,19,20]),(23,[]),(23,[]),(23,[]),(23,[]),(23,[25]),(28,[27]),(29,[28]),(23,[]),(23,[]),(23,[30]),(33,[32]),(34,[33]),(30,[30,32,33]),(36,[]),(36,[]),(36,[]),(36,[]),(36,[]),(36,[]),(36,[]),(36,[]),(36,[]),(36,[]),(36,[]),(36,[]),(36,[]),(36,[]),(36,[]),(36,[]),(36,[]),(36,[]),(36,[]),(36,[]),(36,[54]),(57,[56]),(58,[57]),(36,[]),(36,[]),(36,[59]),(62,[61]),(63,[62]),(36,[]),(59,[58,59,61,62,63]),(66,[65]),(67,[]),(67,[]),(67,[]),(67,[]),(67,[]),(67,[]),(67,[]),(67,[]),(67,[]),(67,[]),(67,[]),(67,[]),(67,[]),(67,[]),(67,[]),(67,[]),(67,[]),(67,[]),(67,[]),(67,[]),(67,[]),(67,[]),(67,[]),(67,[]),(67,[]),(67,[]),(67,[]),(67,[])]
abbrev nlVk3_17:List (List Nat):=nlD [] [(0,[]),(0,[]),(0,[0]),(3,[2]),(4,[3]),(0,[]),(0,[]),(0,[5]),(8,[7]),(9,[8]),(5,[5,7,8]),(11,[]),(11,[]),(11,[]),(11,[12]),(15,[14]),(16,[15]),(11,[]),(11,[]),(11,[17]),(20,[19]),(21,[20]),(17,[17,19,20]),(23,[]),(23,[]),(23,[]),(23,[]),(23,[25]),(28,[27]),(29,[28]),(23,[]),(23,[]),(23,[30]),(33,[32]),(34,[33]),(30,[30,32,33]),(36,[]),(36,[]),(36,[]),(36,[]),(36,[]),(36,[]),(36,[]),(36,[]),(36,[]),(36,[]),(36,[]),(36,[]),(36,[]),(36,[]),(36,[]),(36,[]),(36,[]),(36,[]),(36,[]),(36,[]),(36,[54]),(57,[56]),(58,[57]),(36,[]),(36,[]),(36,[59]),(62,[61]),(63,[62]),(36,[]),(59,[58,59,61,62,63]),(66,[65]),(67,[]),(67,[]),(67,[]),(67,[]),(67,[69]),(72,[71]),(73,[72]),(67,[]),(67,[]),(67,[74]),(77,[76]),(78,[77]),(67,[]),(74,[73,74,76,77,78]),(81,[80]),(82,[]),(82,[]),(82,[]),(82,[]),(82,[]),(82,[]),(82,[]),(82,[]),(82,[]),(82,[]),(82,[]),(82,[]),(82,[])]
abbrev nlVk3_18:List (List Nat):=nlD [] [(0,[]),(0,[]),(0,[0]),(3,[2]),(4,[3]),(0,[]),(0,[]),(0,[5]),(8,[7]),(9,[8]),(5,[5,7,8]),(11,[]),(11,[]),(11,[]),(11,[12]),(15,[14]),(16,[15]),(11,[]),(11,[]),(11,[17]),(20,[19]),(21,[20]),(17,[17,19,20]),(23,[]),(23,[]),(23,[]),(23,[]),(23,[25]),(28,[27]),(29,[28]),(23,[]),(23,[]),(23,[30]),(33,[32]),(34,[33]),(30,[30,32,33]),(36,[]),(36,[]),(36,[]),(36,[]),(36,[]),(36,[]),(36,[]),(36,[]),(36,[]),(36,[]),(36,[]),(36,[]),(36,[]),(36,[]),(36,[]),(36,[]),(36,[]),(36,[]),(36,[]),(36,[]),(36,[54]),(57,[56]),(58,[57]),(36,[]),(36,[]),(36,[59]),(62,[61]),(63,[62]),(36,[]),(59,[58,59,61,62,63]),(66,[65]),(67,[]),(67,[]),(67,[]),(67,[]),(67,[69]),(72,[71]),(73,[72]),(67,[]),(67,[]),(67,[74]),(77,[76]),(78,[77]),(67,[]),(74,[73,74,76,77,78]),(81,[80]),(82,[]),(82,[]),(82,[]),(82,[]),(82,[84]),(87,[86]),(88,[87]),(82,[]),(82,[]),(82,[89]),(92,[91]),(93,[92]),(82,[])]
def Kdm (g0:(List Kj)→(List Kj)→(Bool)→Option (Bool))(a0:List Kj)(b:List Kj)(c:Bool):Option (Bool):=
 (bif ((a0.length:Int) != (b.length:Int)) then some false else (Option.bind (α:=(Unit)⊕(Bool)) (loopM (fun (a:Int)=>(bif (decide (a < (a0.length:Int))) then (Option.bind (α:=Bool) ((idx a0 a).bind fun d=>((idx b a).bind fun e=>(bif (d.gj != e.gj) then some true else ((idx a0 a).bind fun f=>((idx b a).bind fun g=>(bif (!decide (f.ga=g.ga)) then some true else ((idx a0 a).bind fun h=>((idx b a).bind fun i=>(bif (!decide (h.gu=i.gu)) then some true else (bif c then ((idx a0 a).bind fun j=>((idx b a).bind fun k=>(bif (j.gb != k.gb) then some true else ((idx a0 a).bind fun l=>((idx b a).bind fun m=>((Khu l.go m.go c).bind fun n=>(bif (!n) then some true else ((idx a0 a).bind fun o=>((idx b a).bind fun p=>((g0 o.gc p.gc c).bind fun q=>(bif (!q) then some true else ((idx a0 a).bind fun s=>((idx b a).bind fun t=>((g0 s.gq t.gq c).bind fun u=>some (!u))))))))))))))) else ((idx a0 a).bind fun v=>((idx b a).bind fun w=>((Khu v.go w.go c).bind fun x=>(bif (!x) then some true else ((idx a0 a).bind fun y=>((idx b a).bind fun z=>((g0 y.gc z.gc c).bind fun A=>(bif (!A) then some true else ((idx a0 a).bind fun B=>((idx b a).bind fun C=>((g0 B.gq C.gq c).bind fun D=>some (!D)))))))))))))))))))))) fun E=>(bif E then some (.done (.inr false)) else some (.next (IntKind.i64.wrap (a+(1:Int)))))) else some (.done (.inl ())))) (0:Int)) (Sum.elim (fun F=>some true) (fun r=>some r))))
theorem Ww {A0 R G:Prop}(a0:A0)(h:R)(k:A0→R→G:=by intro _a h;refine zep ?_;refine zqp ?_;refine z_e rfl rfl (Ex.wk (KO htab rfl rfl rfl rfl rfl rfl rfl (Ks _a) (KD _a)) (Wk.of_eq (congrArg D.el (Kv _)))) rfl rfl rfl rfl rfl rfl ?_;refine zep ?_;refine z_qM rfl rfl (KF htab rfl rfl rfl rfl rfl) rfl rfl rfl rfl rfl rfl ?_;exact h):G:=k a0 h
theorem Uu {A0 R G:Prop}(a0:A0)(h:R)(k:A0→R→G:=by intro _a h;refine zep ?_;refine zqp ?_;refine z_e rfl rfl (Ex.wk (KO htab rfl rfl rfl rfl rfl rfl rfl (Ks _a) (KD _a)) (Wk.of_eq (congrArg D.el (Kv _)))) rfl rfl rfl rfl rfl rfl ?_;refine zep ?_;refine z_eM rfl rfl (KF htab rfl rfl rfl rfl rfl) rfl rfl rfl rfl rfl rfl ?_;exact h):G:=k a0 h
theorem Xj {A0 A1 A2 A3 R G:Prop}(a0:A0)(c:A1)(b:A2)(a3:A3)(h:R)(k:A0→A1→A2→A3→R→G:=by intro _a _b _c _d h;refine zqp ?_;refine zqp ?_;refine K1 (j:=30) (b':=false) rfl _a ?_;refine Ww _b ?_;refine Ww _c ?_;refine zqp ?_;refine YR ?_;refine K1 (j:=43) (b':=false) rfl _d ?_;exact h):G:=k a0 c b a3 h
theorem Wx {A0 G:Prop}(a0:A0)(k:A0→G:=by intro _a;(iterate 13 refine zK ?_);refine Ya ?_;(iterate 13 refine zK ?_);refine Ya ?_;exact Y7 _a):G:=k a0
theorem YM {A0 A1 R G:Prop}(a0:A0)(c:A1)(h:R)(k:A0→A1→R→G:=by intro _a _b h;refine Uu _a ?_;refine Uu _b ?_;refine zqp ?_;exact h):G:=k a0 c h
theorem ZZ {A0 A1 R G:Prop}(a0:A0)(c:A1)(h:R)(k:A0→A1→R→G:=by intro _a _b h;refine Ww _a ?_;refine Ww _b ?_;exact h):G:=k a0 c h
theorem KkB (g0:(List Kj)→(List Kj)→(Bool)→Option (Bool))(t:∀ (a0:List Kj) (c:List Kj) (b:Bool) (r:Bool) (h0:g0 a0 c b=some r),CallsD Tryz.prog 26 [.lst 7 (a0.map Kh) .no,.lst 7 (c.map Kh) .no,.v (.bool b)] [] [] (fun d h k=>d=.v (.bool r)∧h=[]∧k=[]))(a0 c b r)(h0:Kdm g0 a0 c b=some r):CallsD Tryz.prog 26 [.lst 7 (a0.map Kh) .no,.lst 7 (c.map Kh) .no,.v (.bool b)] [] [] (fun d h k=>d=.v (.bool r)∧h=[]∧k=[]):=by
 refine PZ1 h0 Tryz.func26 fun C a=>?_;refine Zn ?_;refine Zd ?_;refine YL ?_;refine ZF ?_;refine cY a (fun a=>?_) fun a=>?_
 ·refine Ye ?_;exact Y8 a
 refine ZO ?_;refine Yx ?_;obtain ⟨am,W,F⟩:=Ka a;refine KaG (τ:=Unit) (Y:=Unit) (fun an ao=>(⟨[],[],[]⟩:S)) am ?_ ?_
 ·clear a;have a:=KE W;refine Zy a fun bt ap X=>?_;refine KaO (Y:=Unit) ap (fun H aq=>(⟨[(0,.lst 7 (a0.map Kh) .no),(1,.lst 7 (c.map Kh) .no),(2,.v (.bool b)),(7,iD H)],[],[]⟩:S)) ?_ ?_
  ·skip
   exact ZI
  intro G228 H aq a;refine YX ?_;refine ZF ?_;refine cY a (fun a=>?_) fun a=>?_
  ·refine Z0 ?_;refine ZA a fun ar Z aa=>?_;refine Kaf (Y:=Unit) (fun au=>(⟨[(0,.lst 7 (a0.map Kh) .no),(1,.lst 7 (c.map Kh) .no),(2,.v (.bool b)),(7,iD H),(116,.v (.bool ar))],[],[]⟩:S)) ?_ ?_
   ·clear a;have a:=KE Z;obtain ⟨av,i,a⟩:=Ka a;obtain ⟨aw,l,a⟩:=Ka a;refine bycB (av.gj != aw.gj) (fun e=>?_) (fun e=>?_)
    ·replace a:=yes_t e a;refine Kaj 95 [] nlVk3_8 [0,2,3,5,7,8] KeV (by kernel_rfl) (by kernel_rfl) (by kernel_rfl) (by rfl) (by rfl) (by kernel_rfl) ?_;iterate 6 apply Exists.intro
     intro bs;refine ZZ i l ?_;refine Yb ?_
     refine K1 (j:=30) (b':=true) rfl e ?_;iterate 11 refine zK ?_
     refine Ya ?_;refine Wu ?_
     exact Wx a
    replace a:=yes_f e a;obtain ⟨ax,n,a⟩:=Ka a;obtain ⟨ay,o,a⟩:=Ka a;refine bycB (!decide (ax.ga=ay.ga)) (fun f=>?_) (fun f=>?_)
    ·replace a:=yes_t f a;refine Kaj 95 [] nlVk3_10 [0,2,3,5,7,8,12,14,15,17,19,20] KeV (by kernel_rfl) (by kernel_rfl) (by kernel_rfl) (by rfl) (by rfl) (by kernel_rfl) ?_;iterate 12 apply Exists.intro
     intro bs;refine ZZ i l ?_;refine Yb ?_
     refine K1 (j:=30) (b':=false) rfl e ?_;refine ZZ n o ?_;refine YD ?_
     refine K1 (j:=43) (b':=true) rfl f ?_;refine Wu ?_
     exact Wx a
    replace a:=yes_f f a;obtain ⟨az,p,a⟩:=Ka a;obtain ⟨ba,q,a⟩:=Ka a;refine bycB (!decide (az.gu=ba.gu)) (fun g=>?_) (fun g=>?_)
    ·replace a:=yes_t g a;refine Kaj 95 [] nlVk3_11 [0,2,3,5,7,8,12,14,15,17,19,20,25,27,28,30,32,33] KeV (by kernel_rfl) (by kernel_rfl) (by kernel_rfl) (by rfl) (by rfl) (by kernel_rfl) ?_;iterate 18 apply Exists.intro
     intro bs;refine ZZ i l ?_;refine Xj e n o f ?_
     refine ZZ p q ?_
     refine YD ?_;refine K1 (j:=56) (b':=true) rfl g ?_;iterate 14 refine zK ?_
     refine Ya ?_;exact Wx a
    replace a:=yes_f g a;refine bycB b (fun m=>?_) (fun m=>?_)
    ·replace a:=yes_t m a;obtain ⟨bb,z,a⟩:=Ka a;obtain ⟨bc,A,a⟩:=Ka a;refine bycB (bb.gb != bc.gb) (fun s=>?_) (fun s=>?_)
     ·replace a:=yes_t s a;refine Kaj 95 [] nlVk3_12 [0,2,3,5,7,8,12,14,15,17,19,20,25,27,28,30,32,33,40,42,43,45,47,48] KeV (by kernel_rfl) (by kernel_rfl) (by kernel_rfl) (by rfl) (by rfl) (by kernel_rfl) ?_;iterate 24 apply Exists.intro
      intro bs;refine ZZ i l ?_;refine Xj e n o f ?_
      refine ZZ p q ?_
      refine Xy g ?_;refine K1 (j:=58) (b':=true) rfl m ?_;refine ZZ z A ?_
      refine XQ ?_;refine K1 (j:=72) (b':=true) rfl s ?_;exact Wx a
     replace a:=yes_f s a;obtain ⟨I,J,a⟩:=Ka a;obtain ⟨K,L,a⟩:=Ka a;obtain ⟨B,M,a⟩:=Ka a;refine bycB (!B) (fun u=>?_) (fun u=>?_)
     ·replace a:=yes_t u a;refine Kaj 95 [] nlVk3_13 [0,2,3,5,7,8,12,14,15,17,19,20,25,27,28,30,32,33,40,42,43,45,47,48,54,56,57,58,59,61,62,63,65] KeV (by kernel_rfl) (by kernel_rfl) (by kernel_rfl) (by rfl) (by rfl) (by kernel_rfl) ?_;iterate 33 apply Exists.intro
      intro bs;refine ZZ i l ?_;refine Xj e n o f ?_
      refine ZZ p q ?_
      refine Xy g ?_;refine K1 (j:=58) (b':=true) rfl m ?_;refine ZZ z A ?_
      refine XQ ?_;refine K1 (j:=72) (b':=false) rfl s ?_;refine YM J L ?_
      refine Kcg rfl rfl (KeU I.go K.go b B M) rfl rfl Wl rfl rfl rfl rfl rfl rfl ?_;refine YD ?_;refine K1 (j:=87) (b':=true) rfl u ?_;iterate 13 refine zK ?_
      refine Ya ?_;exact Y7 a
     replace a:=yes_f u a;obtain ⟨ab,ac,a⟩:=Ka a;obtain ⟨ad,ae,a⟩:=Ka a;obtain ⟨N,af,a⟩:=Ka a;refine bycB (!N) (fun x=>?_) (fun x=>?_)
     ·replace a:=yes_t x a;refine Kaj 95 [] nlVk3_14 [0,2,3,5,7,8,12,14,15,17,19,20,25,27,28,30,32,33,40,42,43,45,47,48,54,56,57,58,59,61,62,63,65,69,71,72,73,74,76,77,78,80] KeV (by kernel_rfl) (by kernel_rfl) (by kernel_rfl) (by rfl) (by rfl) (by kernel_rfl) ?_;iterate 42 apply Exists.intro
      intro bs;refine ZZ i l ?_;refine Xj e n o f ?_
      refine ZZ p q ?_
      refine Xy g ?_;refine K1 (j:=58) (b':=true) rfl m ?_;refine ZZ z A ?_
      refine XQ ?_;refine K1 (j:=72) (b':=false) rfl s ?_;refine YM J L ?_
      refine Kcg rfl rfl (KeU I.go K.go b B M) rfl rfl Wl rfl rfl rfl rfl rfl rfl ?_;refine YD ?_;refine K1 (j:=87) (b':=false) rfl u ?_;refine YM ac ae ?_
      refine Kcg rfl rfl (t ab.gc ad.gc b N af) rfl rfl Wl rfl rfl rfl rfl rfl rfl ?_;refine YD ?_;refine K1 (j:=102) (b':=true) rfl x ?_;exact Y7 a
     replace a:=yes_f x a;obtain ⟨bd,be,a⟩:=Ka a;obtain ⟨bf,bg,a⟩:=Ka a;refine Kaj 95 [] nlVk3_15 [0,2,3,5,7,8,12,14,15,17,19,20,25,27,28,30,32,33,40,42,43,45,47,48,54,56,57,58,59,61,62,63,65,69,71,72,73,74,76,77,78,80,84,86,87,88,89,91,92,93] KeV (by kernel_rfl) (by kernel_rfl) (by kernel_rfl) (by rfl) (by rfl) (by kernel_rfl) ?_;iterate 50 apply Exists.intro
     intro bs;refine ZZ i l ?_;refine Xj e n o f ?_
     refine ZZ p q ?_
     refine Xy g ?_;refine K1 (j:=58) (b':=true) rfl m ?_;refine ZZ z A ?_
     refine XQ ?_;refine K1 (j:=72) (b':=false) rfl s ?_;refine YM J L ?_
     refine Kcg rfl rfl (KeU I.go K.go b B M) rfl rfl Wl rfl rfl rfl rfl rfl rfl ?_;refine YD ?_;refine K1 (j:=87) (b':=false) rfl u ?_;refine YM ac ae ?_
     refine Kcg rfl rfl (t ab.gc ad.gc b N af) rfl rfl Wl rfl rfl rfl rfl rfl rfl ?_;refine YD ?_;refine K1 (j:=102) (b':=false) rfl x ?_;refine YM be bg ?_
     refine ZC ?_;obtain ⟨bh,bi,a⟩:=Ka a
     refine K5 (t bd.gq bf.gq b bh bi) rfl rfl rfl rfl rfl Wl ?_;exact Wv a
    replace a:=yes_f m a;obtain ⟨O,P,a⟩:=Ka a;obtain ⟨Q,T,a⟩:=Ka a;obtain ⟨E,U,a⟩:=Ka a;refine bycB (!E) (fun w=>?_) (fun w=>?_)
    ·replace a:=yes_t w a;refine Kaj 95 [] nlVk3_16 [0,2,3,5,7,8,12,14,15,17,19,20,25,27,28,30,32,33,54,56,57,58,59,61,62,63,65] KeV (by kernel_rfl) (by kernel_rfl) (by kernel_rfl) (by rfl) (by rfl) (by kernel_rfl) ?_;iterate 27 apply Exists.intro
     intro bs;refine ZZ i l ?_;refine Xj e n o f ?_
     refine ZZ p q ?_
     refine Ws g m ?_
     refine YM P T ?_
     refine Kcg rfl rfl (KeU O.go Q.go b E U) rfl rfl Wl rfl rfl rfl rfl rfl rfl ?_;refine YD ?_;refine K1 (j:=87) (b':=true) rfl w ?_;iterate 13 refine zK ?_
     refine Ya ?_;exact Y7 a
    replace a:=yes_f w a;obtain ⟨ag,ah,a⟩:=Ka a;obtain ⟨ai,aj,a⟩:=Ka a;obtain ⟨V,ak,a⟩:=Ka a;refine bycB (!V) (fun y=>?_) (fun y=>?_)
    ·replace a:=yes_t y a;refine Kaj 95 [] nlVk3_17 [0,2,3,5,7,8,12,14,15,17,19,20,25,27,28,30,32,33,54,56,57,58,59,61,62,63,65,69,71,72,73,74,76,77,78,80] KeV (by kernel_rfl) (by kernel_rfl) (by kernel_rfl) (by rfl) (by rfl) (by kernel_rfl) ?_;iterate 36 apply Exists.intro
     intro bs;refine ZZ i l ?_;refine Xj e n o f ?_
     refine ZZ p q ?_
     refine Ws g m ?_
     refine YM P T ?_
     refine Kcg rfl rfl (KeU O.go Q.go b E U) rfl rfl Wl rfl rfl rfl rfl rfl rfl ?_;refine YD ?_;refine K1 (j:=87) (b':=false) rfl w ?_;refine YM ah aj ?_
     refine Kcg rfl rfl (t ag.gc ai.gc b V ak) rfl rfl Wl rfl rfl rfl rfl rfl rfl ?_;refine YD ?_;refine K1 (j:=102) (b':=true) rfl y ?_;exact Y7 a
    replace a:=yes_f y a;obtain ⟨bj,bk,a⟩:=Ka a;obtain ⟨bl,bm,a⟩:=Ka a;refine Kaj 95 [] nlVk3_18 [0,2,3,5,7,8,12,14,15,17,19,20,25,27,28,30,32,33,54,56,57,58,59,61,62,63,65,69,71,72,73,74,76,77,78,80,84,86,87,88,89,91,92,93] KeV (by kernel_rfl) (by kernel_rfl) (by kernel_rfl) (by rfl) (by rfl) (by kernel_rfl) ?_;iterate 44 apply Exists.intro
    intro bs;refine ZZ i l ?_;refine Xj e n o f ?_
    refine ZZ p q ?_;refine Ws g m ?_
    refine YM P T ?_
    refine Kcg rfl rfl (KeU O.go Q.go b E U) rfl rfl Wl rfl rfl rfl rfl rfl rfl ?_;refine YD ?_;refine K1 (j:=87) (b':=false) rfl w ?_;refine YM ah aj ?_
    refine Kcg rfl rfl (t ag.gc ai.gc b V ak) rfl rfl Wl rfl rfl rfl rfl rfl rfl ?_;refine YD ?_;refine K1 (j:=102) (b':=false) rfl y ?_;refine YM bk bm ?_
    refine ZC ?_;obtain ⟨bn,bo,a⟩:=Ka a
    refine K5 (t bj.gq bl.gq b bn bo) rfl rfl rfl rfl rfl Wl ?_;exact Wv a
   intro bu bp;have a:=aa;clear Z aa;refine Zb bp fun au=>?_;refine cY a (fun a=>?_) fun a=>?_
   ·refine Yg ?_;obtain rfl:=K6 a;have a:=X
    refine ZQ ?_;obtain rfl:=Kf a;refine Ka4 ?_;have a:=F;refine Z1 a fun a=>?_
    exact Y8 a
   refine ZK ?_;exact Xi a
  refine Zs ?_;obtain rfl:=K6 a;have a:=X
  exact Yn a
 intro an bv bq br;subst bq;have a:=F;refine Zj a fun a=>?_;clear W F;refine Zb br fun ao=>?_;refine ZY ?_;exact Wt a
def KbU:Nat→((List Kj)→(List Kj)→(Bool)→Option (Bool))
 | 0=>(fun _ _ _=>none)
 | n+1=>(Kdm ((KbU n)))
theorem Khv:∀ n,(∀ (a0:List Kj) (a:List Kj) (b:Bool) (r:Bool) (h0:(KbU n) a0 a b=some r),CallsD Tryz.prog 26 [.lst 7 (a0.map Kh) .no,.lst 7 (a.map Kh) .no,.v (.bool b)] [] [] (fun d h k=>d=.v (.bool r)∧h=[]∧k=[]))
 | 0=>fun _ _ _ _ h0=>by cases h0
 |
  n+1=>by
  have ih:=Khv n;exact KkB (KbU n) ih
theorem Khw:∀ n,(∀ (a0:List Kj) (a:List Kj) (b:Bool),Le ((KbU n) a0 a b) ((KbU (n+1)) a0 a b))
 | 0=>fun _ _ _=>Le.none _
 |
  n+1=>by
  have ih:=Khw n;exact fun a0 a b=>by show Le (Kdm ((KbU n)) a0 a b) (Kdm ((KbU (n+1))) a0 a b);revert ih;generalize KbU n=G0;generalize KbU (n+1)=G1;intro ih;unfold Kdm;repeat (first|with_reducible exact Le.refl _|with_reducible exact ih _ _ _|with_reducible assumption|(refine Le.bind ?_ (fun _=>?_))|(refine Le.cond ?_ ?_)|(refine Le.loop (fun _=>?_))|(refine Le.elim (fun _=>?_) (fun _=>?_)))
def KgP (a0:List Kj)(a:List Kj)(b:Bool):Option (Bool):=anyN fun n=>(KbU n) a0 a b
theorem Kk9 (a0:List Kj)(a:List Kj)(b:Bool){r:Bool}(n:Nat)(h:(KbU n) a0 a b=some r):KgP a0 a b=some r:=KdY (fun m=>(Khw m) a0 a b) h
theorem Kla (a0 a b r)(h0:KgP a0 a b=some r):CallsD Tryz.prog 26 [.lst 7 (a0.map Kh) .no,.lst 7 (a.map Kh) .no,.v (.bool b)] [] [] (fun d h k=>d=.v (.bool r)∧h=[]∧k=[]):=
 let ⟨n,hn⟩:=Kc4 h0;(Khv n) a0 a b r hn
def KeA (a0:KG)(a:KG)(b:Bool):Option (Bool):=
 (bif (decide (a0.ga=a.ga)) then ((KgF a0.gf a.gf).bind fun c=>(bif c then ((KgF a0.gh a.gh).bind fun d=>(bif d then ((KgP a0.gp a.gp b).bind fun e=>(bif e then (bif (!b) then some true else some (a0.gb==a.gb)) else some false)) else some false)) else some false)) else some false)
theorem Z5 {R G:Prop}(h:R)(k:R→G:=by intro h;refine ZE ?_;refine pu ?_;exact h):G:=k h
theorem Yj {R G:Prop}(h:R)(k:R→G:=by intro h;refine ZB ?_;refine pu ?_;exact h):G:=k h
theorem WV {A0 G:Prop}(a0:A0)(k:A0→G:=by intro _a;(iterate 6 refine pK ?_);refine Z5 ?_;(iterate 9 refine pK ?_);refine ZE ?_;refine Zu ?_;exact Y8 _a):G:=k a0
theorem Kh0 (a0 b c r)(h0:KeA a0 b c=some r):CallsD Tryz.prog 9 [KA a0,KA b,.v (.bool c)] [] [] (fun d h k=>d=.v (.bool r)∧h=[]∧k=[]):=by
 refine PZ1 h0 Tryz.func9 fun C a=>?_;refine ZH fun t=>?_;refine YJ fun u=>?_;refine Yo ?_;refine pL 0 ?_;refine ZP ?_;refine Zl ?_;refine KaH (i:=12) rfl (fun e=>?_) (fun e=>?_)
 ·replace a:=yes_t e a;refine YV ?_;refine ZP ?_;obtain ⟨m,n,a⟩:=Ka a;refine K5 (Kkf a0.gf b.gf m n) rfl rfl rfl rfl rfl Wl ?_;rintro _ rfl;refine Yj ?_;refine KaH (i:=19) rfl (fun f=>?_) (fun f=>?_)
  ·replace a:=yes_t f a;refine YV ?_;refine ZP ?_;obtain ⟨o,p,a⟩:=Ka a;refine K5 (Kkf a0.gh b.gh o p) rfl rfl rfl rfl rfl Wl ?_;rintro _ rfl;refine Yj ?_;refine KaH (i:=26) rfl (fun g=>?_) (fun g=>?_)
   ·replace a:=yes_t g a;refine YV ?_;refine ZP ?_;refine pu ?_;obtain ⟨q,s,a⟩:=Ka a;refine K5 (Kla a0.gp b.gp c q s) rfl rfl rfl rfl rfl Wl ?_;rintro _ rfl;refine Yj ?_;refine KaH (i:=34) rfl (fun j=>?_) (fun j=>?_)
    ·replace a:=yes_t j a;iterate 3 refine pu ?_
     refine KaH (i:=37) rfl (fun l=>?_) (fun l=>?_)
     ·replace a:=yes_t l a;iterate 5 refine pK ?_
      refine ZB ?_;refine ZB ?_;refine Zu ?_;exact Wt a
     replace a:=yes_f l a;refine YV ?_;refine ZP ?_;refine pu ?_;refine ZE ?_;refine ZB ?_;refine Zu ?_;obtain rfl:=Kf a;refine rP (t':=[(6,.v (.bool (a0.gb==b.gb)))]) [] [] 0 (wC wN) (lT lN) ?_;exact Za
    replace a:=yes_f j a;iterate 9 refine pK ?_
    refine ZE ?_;refine Zu ?_;exact Y8 a
   replace a:=yes_f g a;exact WV a
  replace a:=yes_f f a;iterate 5 refine pK ?_
  refine Z5 ?_;exact WV a
 replace a:=yes_f e a;iterate 5 refine pK ?_
 refine Z5 ?_;iterate 5 refine pK ?_
 refine Z5 ?_;exact WV a
def Khx (a0:KL)(a:KL)(f:Bool):Option (Bool):=
 (Option.bind (α:=Bool) (bif ((a0.gd.length:Int) != (a.gd.length:Int)) then some true else some ((a0.gi.length:Int) != (a.gi.length:Int))) fun g=>(bif g then some false else (Option.bind (α:=(Unit)⊕(Bool)) (loopM (fun (b:Int)=>(bif (decide (b < (a0.gd.length:Int))) then ((idx a0.gd b).bind fun c=>((idx a.gd b).bind fun d=>(Option.bind (α:=Bool) (bif (!decide (c.ga=d.ga)) then some true else (bif (!(c.gz==d.gz)) then some true else (bif (c.gA != d.gA) then some true else (bif f then some (c.gb != d.gb) else some false)))) fun h=>(bif h then some (.done (.inr false)) else some (.next (IntKind.i64.wrap (b+(1:Int)))))))) else some (.done (.inl ())))) (0:Int)) (Sum.elim (fun l=>(Option.bind (α:=(Unit)⊕(Bool)) (loopM (fun (e:Int)=>(bif (decide (e < (a0.gi.length:Int))) then ((idx a0.gi e).bind fun i=>((idx a.gi e).bind fun j=>((KeA i j f).bind fun k=>(bif (!k) then some (.done (.inr false)) else some (.next (IntKind.i64.wrap (e+(1:Int)))))))) else some (.done (.inl ())))) (0:Int)) (Sum.elim (fun m=>some true) (fun r=>some r)))) (fun r=>some r)))))
theorem Xz {R G:Prop}(h:R)(k:R→G:=by intro h;refine z_eM rfl rfl (KN 0 htab rfl rfl rfl rfl rfl) rfl rfl rfl rfl rfl rfl ?_;exact h):G:=k h
theorem XR {R G:Prop}(h:R)(k:R→G:=by intro h;refine zf_e rfl rfl (Kam htab rfl) rfl rfl rfl rfl rfl rfl rfl ?_;exact h):G:=k h
theorem X6 {R G:Prop}(h:R)(k:R→G:=by intro h;refine zf_q rfl rfl (Kam htab rfl) rfl rfl rfl rfl rfl rfl ?_;exact h):G:=k h
theorem WW {R G:Prop}(h:R)(k:R→G:=by intro h;refine KgA rfl htab rfl rfl rfl rfl rfl rfl rfl rfl rfl rfl (by simp [dOf,eI64]) (by simp) ?_;exact h):G:=k h
theorem WX {A0 R G:Prop}(a0:A0)(h:R)(k:A0→R→G:=by intro _a h;refine WU _a ?_;refine z_eM rfl rfl (KF (d:=KA _) htab rfl rfl rfl rfl rfl) rfl rfl rfl rfl rfl rfl ?_;exact h):G:=k a0 h
theorem YY {R G:Prop}(h:R)(k:R→G:=by intro h;refine zep ?_;refine Xz ?_;exact h):G:=k h
theorem WY {R G:Prop}(h:R)(k:R→G:=by intro h;refine zf_eM rfl rfl (KN 0 htab rfl rfl rfl rfl rfl) rfl rfl rfl rfl rfl rfl rfl ?_;exact h):G:=k h
abbrev qZ1:List D:=[tD ByteArray.empty,.v (.bool false),iD (0:Int),iD (0:Int)]
theorem Kl4 (a0 g j r)(h0:Khx a0 g j=some r):CallsD Tryz.prog 12 [Kbo a0,Kbo g,.v (.bool j)] [] [] (fun d h k=>d=.v (.bool r)∧h=[]∧k=[]):=by
 refine PZ1 h0 Tryz.func12 fun C a=>?_;refine ZH fun c=>?_;refine YJ fun f=>?_;refine Zz ?_;refine ZA a fun N w x=>?_;refine Kaf (Y:=Unit) (fun O=>(⟨[(2,.v (.bool j)),(3,.ptr c 0),(4,.ptr f 0),(26,.v (.bool N))],[(c,Blk.cells (CZ4 a0 .no .no) 34),(f,Blk.cells (CZ4 g .no .no) 34)],[]⟩:S)) ?_ ?_
 ·clear a;have a:=KE w;refine ZN ?_;refine pL 0 ?_;refine Yk ?_;refine ZP ?_;refine Yk ?_;refine Zl ?_;refine KaH (i:=18) rfl (fun m=>?_) (fun m=>?_)
  ·replace a:=yes_t m a;iterate 7 refine pK ?_
   refine ZB ?_;exact YK a
  replace a:=yes_f m a;refine YV ?_;refine Yk ?_;refine ZP ?_;refine YL ?_;refine ZE ?_;exact YK a
 intro s4 P;have a:=x;clear w x;refine Zb P fun O=>?_;refine cY a (fun a=>?_) fun a=>?_
 ·refine Ye ?_;exact Y8 a
 refine ZO ?_;refine Yx ?_;obtain ⟨Q,y,n⟩:=Ka a;refine KaG (τ:=Unit) (Y:=Unit) (fun T U=>(⟨[(2,.v (.bool j)),(3,.ptr c 0),(4,.ptr f 0)],[(c,Blk.cells (CZ4 a0 .no .no) 34),(f,Blk.cells (CZ4 g .no .no) 34)],[]⟩:S)) Q ?_ ?_
 ·clear a;have a:=KE y;refine Zy a fun ar V z=>?_;refine KaO (Y:=Unit) V (fun o W=>(⟨[(2,.v (.bool j)),(3,.ptr c 0),(4,.ptr f 0),(7,iD o)],[(c,Blk.cells (CZ4 a0 .no .no) 34),(f,Blk.cells (CZ4 g .no .no) 34)],[]⟩:S)) ?_ ?_
  ·skip
   exact ZI
  intro G59 o W a;refine YX ?_;refine pL 0 ?_;refine ZF ?_;refine cY a (fun a=>?_) fun a=>?_
  ·refine Z0 ?_;refine ZA a fun l A a=>?_;obtain ⟨B,E,a⟩:=Ka a
   refine KgT 13 [(10,qZ1,74),(11,qZ1,74)] [(10,12,(CZ1 l))] [[],[0],[],[0,1],[0,1,3],[],[5],[],[5,6],[5,6,8],[],[],[0,1,3,4,10,11]] [0,1,3,4,5,6,8,9,10,11,12] [[],[0],[],[0,1,2],[0,1,2,3],[],[5],[],[5,6,7],[5,6,7,8],[],[],[0,1,2,3,4,10,11],[0,1,2,3,4,5,6,7,8,9,10,11,12]] (by kernel_rfl) (by kernel_rfl) (by kernel_rfl) (by rfl) (by rfl) (by kernel_rfl) ?_;iterate 8 apply Exists.intro
   iterate 3 refine ⟨.any,?_⟩
   intro bs;refine XR ?_;refine WY ?_;refine X6 ?_;refine zf_e rfl rfl (KO htab rfl rfl rfl rfl rfl rfl rfl (Ks A) (KD A)) rfl rfl rfl rfl rfl rfl rfl ?_;refine zf_eM rfl rfl (KF (d:=Kt l) htab rfl rfl rfl rfl rfl) rfl rfl rfl rfl rfl rfl rfl ?_;refine XR ?_;refine zf_eM rfl rfl (KN 1 htab rfl rfl rfl rfl rfl) rfl rfl rfl rfl rfl rfl rfl ?_;refine X6 ?_
   refine zf_e rfl rfl (KO htab rfl rfl rfl rfl rfl rfl rfl (Ks E) (KD E)) rfl rfl rfl rfl rfl rfl rfl ?_;refine zf_eM rfl rfl (KF (d:=Kt B) htab rfl rfl rfl rfl rfl) rfl rfl rfl rfl rfl rfl rfl ?_;refine WW ?_;refine WW ?_
   refine Kir (e:=10) (zs:=qZ1) (T':=74) (ds':=(CZ1 l)) htab rfl rfl rfl rfl rfl rfl rfl rfl rfl (by simp) (by simp) rfl rfl rfl rfl rfl rfl rfl rfl rfl ?_
   refine zf_nil (h':=[(c,Blk.cells (CZ4 a0 .no .no) 34),(f,Blk.cells (CZ4 g .no .no) 34),(bs 10,Blk.cells (CZ1 l) 74),(bs 11,Blk.cells qZ1 74)]) rfl rfl rfl (fun e he=>by simp [isAl] at he;rcases he with rfl|rfl<;>rfl) ?_;obtain ⟨au,F⟩:∃ b,bs 10=b:=⟨_,rfl⟩;obtain ⟨av,H⟩:∃ b,bs 11=b:=⟨_,rfl⟩;simp only [F,H];clear F H
   refine pS3 (ds':=(CZ1 B)) ?_;refine Zr ?_;obtain ⟨X,I,J⟩:=Ka a;refine Kaf (Y:=Unit) (fun Z=>(⟨[(2,.v (.bool j)),(3,.ptr c 0),(4,.ptr f 0),(7,iD o),(72,.v (.bool X))],[(c,Blk.cells (CZ4 a0 .no .no) 34),(f,Blk.cells (CZ4 g .no .no) 34)],[]⟩:S)) ?_ ?_
   ·clear a;have a:=KE I;refine ZN ?_;refine pL 2 ?_;refine pu ?_;refine pL 3 ?_;refine Zl ?_;refine KaH (i:=49) rfl (fun p=>?_) (fun p=>?_)
    ·replace a:=yes_t p a;iterate 5 refine pK ?_
     refine Yj ?_;iterate 5 refine pK ?_
     refine Yj ?_;iterate 8 refine pK ?_
     refine ZB ?_;exact Xh a
    replace a:=yes_f p a;refine pu ?_;refine pL 2 ?_;refine pu ?_;refine pL 3 ?_;refine pu ?_;refine Z5 ?_;refine KaH (i:=56) rfl (fun q=>?_) (fun q=>?_)
    ·replace a:=yes_t q a;iterate 5 refine pK ?_
     refine Yj ?_;iterate 8 refine pK ?_
     refine ZB ?_;exact Xh a
    replace a:=yes_f q a;refine pu ?_;refine pL 2 ?_;refine pu ?_;refine pL 3 ?_;refine pu ?_;refine Z5 ?_;refine KaH (i:=63) rfl (fun s=>?_) (fun s=>?_)
    ·replace a:=yes_t s a;iterate 8 refine pK ?_
     refine ZB ?_;exact Xh a
    replace a:=yes_f s a;refine Zl ?_;refine KaH (i:=65) rfl (fun t=>?_) (fun t=>?_)
    ·replace a:=yes_t t a;refine pu ?_;refine pL 2 ?_;refine pu ?_;refine pL 3 ?_;refine pu ?_;refine ZB ?_;refine ZE ?_;exact Xh a
    replace a:=yes_f t a;iterate 5 refine pK ?_
    refine ZE ?_;refine ZE ?_;exact Xh a
   intro aw aa;have a:=J;clear I J;refine Zb aa fun Z=>?_;refine cY a (fun a=>?_) fun a=>?_
   ·refine Yg ?_;obtain rfl:=K6 a;have a:=z
    refine ZQ ?_;obtain rfl:=Kf a;refine Ka4 ?_;have a:=n;refine Z1 a fun a=>?_
    exact Y8 a
   refine ZK ?_;exact Xi a
  refine Zs ?_;obtain rfl:=K6 a;have a:=z
  refine Z9 ?_;exact XY a
 intro T ax ab ac;subst ab;have a:=n;refine Zj a fun a=>?_;clear y n;refine Zb ac fun U=>?_;refine Km ?_;refine Yx ?_;obtain ⟨ad,K,u⟩:=Ka a;refine KaG (τ:=Unit) (Y:=Unit) (fun ae af=>(⟨[],[],[]⟩:S)) ad ?_ ?_
 ·clear a;have a:=KE K;refine Zy a fun ay ag L=>?_;refine KaO (Y:=Unit) ag (fun M ah=>(⟨[(2,.v (.bool j)),(3,.ptr c 0),(4,.ptr f 0),(10,iD M)],[(c,Blk.cells (CZ4 a0 .no .no) 34),(f,Blk.cells (CZ4 g .no .no) 34)],[]⟩:S)) ?_ ?_
  ·skip
   exact ZI
  intro G128 M ah a;refine YX ?_;refine pL 0 ?_;refine ZF ?_;refine cY a (fun a=>?_) fun a=>?_
  ·refine Z0 ?_;refine ZA a fun ai aj a=>?_;obtain ⟨ak,al,a⟩:=Ka a;refine Kaj 11 [] [[],[0],[],[0,1],[0,1,3],[],[5],[],[5,6],[5,6,8],[]] [0,1,3,4,5,6,8,9] [[],[0],[],[0,1,2],[0,1,2,3],[],[5],[],[5,6,7],[5,6,7,8],[],[0,1,2,3,4,5,6,7,8,9,10],[0,1,2,3,4,5,6,7,8,9,10,11]] (by kernel_rfl) (by kernel_rfl) (by kernel_rfl) (by rfl) (by rfl) (by kernel_rfl) ?_;iterate 8 apply Exists.intro
   intro bs;refine YY ?_;refine WX aj ?_;refine WT ?_;refine WX al ?_
   refine zqp ?_;refine ZC ?_;obtain ⟨am,an,a⟩:=Ka a;refine K5 (Kh0 ai ak j am an) rfl rfl rfl rfl rfl Wl ?_;rintro _ rfl;refine Zv ?_;refine cY a (fun a=>?_) fun a=>?_
   ·refine Yg ?_;obtain rfl:=K6 a;have a:=L
    refine ZQ ?_;obtain rfl:=Kf a;refine Ka4 ?_;have a:=u;refine Z1 a fun a=>?_
    exact Y8 a
   refine ZK ?_;exact Xi a
  refine Zs ?_;obtain rfl:=K6 a;have a:=L
  exact Yn a
 intro ae az ao ap;subst ao;have a:=u;refine Zj a fun a=>?_;clear K u;refine Zb ap fun af=>?_;refine ZY ?_;exact Wt a
end
section
open Go Go.RowKit
def joinB (xs:List ByteArray)(s:ByteArray):ByteArray:=⟨(Lib.join (xs.map (·.data.toList)) s.data.toList).toArray⟩
def Khy (xs:List ByteArray)(s:ByteArray):Bool:=decide (xs.length≤140737488355328) && decide ((joinB xs s).size≤140737488355328)
theorem els_str {H:Hp}{b:Nat}:∀ {xs:List ByteArray} {off:Nat},Els H 1 b off (xs.map fun x=>D.v (.string x))→∀ (j:Nat) x,xs[j]? = some x→H ⟨b,off+j,none⟩=some (.string x)
 | [],off,_,j,x,e=>by simp at e
 |
  y::xs,off,h,0,x,e=>by
  simp only [List.map_cons,Els,RepC] at h;obtain ⟨⟨us,hl,rfl,ht,_⟩,_⟩:=h;simp only [List.getElem?_cons_zero,Option.some.injEq] at e;subst e;exact ht 0 _ rfl
 |
  y::xs,off,h,j+1,x,e=>by
  simp only [List.map_cons,Els] at h;have:=els_str h.2 j x (by simpa using e);rw [show off+(j+1)=off+1+j by omega];exact this
theorem joinB_ok (xs s)(h:Khy xs s=true):CallsD Tryz.prog 48 [.lst 1 (xs.map fun x=>D.v (.string x)) .no,.v (.string s)] [] [] (fun d h k=>d=.v (.string (joinB xs s))∧h=[]∧k=[]):=by
 refine ⟨⟨_,Tryz.func48,rfl,rfl⟩,fun H w vs hv hA _ _ _=>?_⟩;simp only [Khy,Bool.and_eq_true,decide_eq_true_eq] at h;simp only [RepsV] at hv;obtain ⟨u,us,rfl,hu,g,i,rfl,f,rfl⟩:=hv;have:=KW f;subst this;obtain ⟨_,hx⟩:=KbK hu;have hsz:(Lib.join (xs.map (·.data.toList)) s.data.toList).length≤140737488355328:=by
  have:=h.2;unfold joinB ByteArray.size at this;simpa using this
 rcases hx with ⟨h0,a,m,rfl,_⟩|⟨b,off,m,rfl,c,hE⟩
 ·have:xs=[]:=by simpa using h0
  subst this;refine (Tryz.strings_Join_none a m s w).mono fun e w' ⟨he,hw⟩=>?_
  subst hw;refine ⟨_,H,_,[],[],he,rep_v rfl,KeR hA (Below.refl _ _),rfl,rfl,rfl⟩
 have hc:=els_str hE;rw [List.length_map] at c;by_cases h0:xs=[]
 ·subst h0;refine (Tryz.strings_Join_none (some ⟨b,off,none⟩) m s w).mono fun e w' ⟨he,hw⟩=>?_
  subst hw;refine ⟨_,H,_,[],[],he,rep_v rfl,KeR hA (Below.refl _ _),rfl,rfl,rfl⟩
 obtain ⟨y,ys,rfl⟩:=List.exists_cons_of_ne_nil h0;have hb:b < w.heap.size:=hA.lt (hc 0 y rfl);have:=Tryz.strings_Join b off m (y::ys) s w (fun j x e=>hA _ _ (hc j x e)) hb h.1 c hsz;rw [List.length_map];refine this.mono fun e w' ⟨he,hw⟩=>?_
 exact ⟨_,H,_,[],[],he,rep_v rfl,KeR hA hw,rfl,rfl,rfl⟩
end
section
open Go Go.RowKit
def itoaB (x:Int):ByteArray:=⟨(Lib.itoa x).toArray⟩
def Kgo (x:Int):Bool:=decide (-9223372036854775808≤x) && decide (x≤9223372036854775807)
theorem below_gr (w:World)(n:Nat)(os:Array Obj):Below w.heap.size w (Sort.grow (w.drewN n) os):=
 ⟨rfl,rfl,rfl,by simp [Sort.grow,World.drewN],fun k hk=>by simp only [Sort.grow,World.drewN];rw [Array.getElem?_append_left hk]⟩
theorem itoaB_ok (x)(h:Kgo x=true):CallsD Tryz.prog 57 [.v (.int .i64 x)] [] [] (fun d h k=>d=.v (.string (itoaB x))∧h=[]∧k=[]):=by
 refine ⟨⟨_, Tryz.func57, rfl, rfl⟩, fun H w vs hv hA _ _ _ => ?_⟩;simp only [Kgo, Bool.and_eq_true, decide_eq_true_eq] at h;simp only [RepsV] at hv;obtain ⟨u, us, rfl, hu, rfl⟩ := hv;have := KW hu;subst this;have ht : Lib.TabIs Tryz.prog w "internal/strconv.uint64pow10" .u64 Lib.pow10Tab := by
  obtain ⟨_, _, T, fz, a⟩ := hA.gg;unfold Lib.TabIs World.var?;rw [show Tryz.prog.globalNamed "internal/strconv.uint64pow10" = some tabG by kernel_rfl, Option.bind_some, a];rfl
 refine (Tryz.strconv_Itoa x h.1 h.2 w ht).mono fun e w' ⟨he,k,os,hw⟩=>?_
 subst hw;exact ⟨_,H,_,[],[],he,rep_v rfl,KeR hA (below_gr w k os),rfl,rfl,rfl⟩
end
section
open Go
set_option maxRecDepth 100000
def KdZ (a0:K3):Option (ByteArray):=
 (bif a0.gz then ((catS (ByteArray.mk #[105,110,116,32,42]) a0.ga).bind fun a=>some a) else ((catS (ByteArray.mk #[105,110,116,32]) a0.ga).bind fun b=>some b))
theorem Z6 {A0 G:Prop}{b:Sort _}{c:(u:b)→Sort _}{e:(u:b)→(v:c u)→Sort _}{R:(u:b)→(v:c u)→(x:e u v)→Prop}(a0:A0)(h:∀ u v x,R u v x)(k:A0→(∀ u v x,R u v x)→G:=by intro _a h;obtain ⟨_l,_m,_n⟩:=Ka _a;refine p_cat _m rfl rfl rfl rfl rfl rfl ?_;exact h _l _m _n):G:=k a0 h
theorem Wy {A0 G:Prop}(a0:A0)(k:A0→G:=by intro _a;obtain rfl:=Kf _a;refine rP (t':=[(2,tD _)]) [] [] 0 (wC wN) (lT lN) ?_;exact Za):G:=k a0
theorem Kg7 (a0 r)(h0:KdZ a0=some r):CallsD Tryz.prog 20 [Ku a0] [] [] (fun d h k=>d=tD r∧h=[]∧k=[]):=by
 refine PZ1 h0 Tryz.func20 fun C a=>?_;refine ZH fun f=>?_;refine Zz ?_;refine ZR ?_;refine Kb ?_;refine cY a (fun a=>?_) fun a=>?_
 ·refine ZR ?_;refine Z6 a fun g i a=>?_;refine Zu ?_;refine Ky ?_;exact Wy a
 refine Zm ?_;refine ZR ?_;refine Z6 a fun j l a=>?_;refine Zu ?_;exact Wy a
abbrev qZ18:ByteArray:=(ByteArray.mk #[44,32])
def Kdz (a0:List K3):Option (ByteArray):=
 (Option.bind (α:=List ByteArray) (loopM (fun (a:List ByteArray×Int)=>(bif (decide (a.2 < (a0.length:Int))) then ((idx a0 a.2).bind fun c=>((KdZ c).bind fun d=>((app 16 a.1 ([d]:List ByteArray)).bind fun e=>some (.next (e,(IntKind.i64.wrap (a.2+(1:Int)))))))) else some (.done a.1))) (([]:List ByteArray),(0:Int))) fun b=>((need (Khy b qZ18)).bind fun f=>some (joinB b qZ18)))
theorem WZ {A0 G:Prop}(a0:A0)(k:A0→G:=by intro _a;refine Z9 ?_;obtain rfl:=Kf _a;refine ⟨rfl,?_⟩;exact WkX.of _ (wP (wC wN))):G:=k a0
theorem KiB (a0 r)(h0:Kdz a0=some r):CallsD Tryz.prog 19 [.lst 2 (a0.map Ku) .no,.fn (.func 20) [] []] [] [] (fun d h k=>d=tD r∧h=[]∧k=[]):=by
 refine PZ1 h0 Tryz.func19 fun C a=>?_;refine Zd ?_;refine KH ?_;refine Zz ?_;refine Zd ?_;refine ZF ?_;obtain ⟨c,j,l⟩:=Ka a;refine Kaf (Y:=Value) (fun e=>(⟨[(5,.lst 1 (c.map eStr) (.cur e))],[],[(1,e)]⟩:S)) ?_ ?_
 ·clear a;have a:=KE j;refine Zy a fun t n o=>?_;refine KaO (Y:=Value) n (fun f g=>(⟨[(1,.fn (.func 20) [] []),(5,.lst 1 (f.1.map eStr) (.cur g)),(8,.lst 2 (a0.map Ku) .no),(9,iD (a0.length:Int)),(10,iD f.2)],[],[(1,g)]⟩:S)) ?_ ?_
  ·skip
   exact WR
  intro G22 f g a;refine Zn ?_;refine cY a (fun a=>?_) fun a=>?_
  ·refine Z7 a fun b u a=>?_;refine X1 fun w=>?_;refine pS0 (ds':=[tD b.ga,.v (.bool b.gz)]) ?_;refine Kb ?_;refine ZU ?_;refine Kaa (d:=Ku b) 0 htab rfl rfl rfl rfl rfl rfl rfl rfl ?_;obtain ⟨m,p,a⟩:=Ka a;refine KfG (Kg7 b m p) rfl rfl rfl rfl rfl rfl rfl Wl ?_
   rintro _ rfl;refine ZJ ?_;refine p_eq (i:=18) (d':=.lst 1 (([m]:List ByteArray).map eStr) .full) rfl (Wk.lst0 (.cons (WkC.refl _) (.nil))) ?_;exact WQ a
  refine Zs ?_;obtain rfl:=K6 a;have a:=o
  exact WZ a
 intro x q;have a:=l;clear j l;refine Zb q fun e=>?_;refine ZD a fun y s a=>?_;refine K5 (joinB_ok c qZ18 (KdX s)) rfl rfl rfl rfl rfl (WkL.cons (Wk.no) (WkL.cons (Wk.refl _) Wl)) ?_;rintro _ rfl;refine Zu ?_;obtain rfl:=Kf a;refine rP (t':=[(4,tD (joinB c qZ18))]) [] [] 0 (wC wN) (lT lN) ?_;exact Za
def Kb5 (a:Kn)(b:Int):Option (Unit×Kn):=
 ((need (u8ok b)).bind fun d=>((app 1 a.gB.gx ([b.toNat.toUInt8]:List UInt8)).bind fun c=>some ((),(⟨(⟨c⟩:K8),a.gy⟩:Kn))))
theorem Zi {R G:Prop}(h:R)(k:R→G:=by intro h;rintro _ _ _ ⟨rfl,rfl,rfl⟩;exact h):G:=k h
theorem Yc {R G:Prop}(h:R)(k:R→G:=by intro h;refine Zi ?_;refine KH ?_;exact h):G:=k h
theorem KeB (b f a g r)(h0:Kb5 b f=some r):CallsD Tryz.prog 47 [.ptr a 0,.v (.int .u8 f)] [(a,Blk.cells [.slf a,.v (SL g),iD b.gy] 60),(0,Blk.opq (bufO 5 b.gB.gx g))] [] (fun d h k=>∃ j,d=.v .nilIface∧h=[(a,Blk.cells [.slf a,.v (SL j),iD r.2.gy] 60),(0,Blk.opq (bufO 5 r.2.gB.gx j))]∧k=[]):=by
 refine PZ1 h0 Tryz.func47 fun C c=>?_;refine Zd ?_;refine Zo ?_;refine pG (copy_ok b a g) Wl Pf Pf ?_;refine Yc ?_;iterate 4 refine pu ?_
 refine pL 0 ?_;refine pu ?_;refine ZJ ?_;obtain ⟨n,m,c⟩:=Ka c;refine p_eq (i:=13) (d':=.lst 1 (([f.toNat.toUInt8]:List UInt8).map byteD) .full) rfl (Wk.lst0 (.cons (WkC.of_eq (u8_eq (KdX m))) .nil)) ?_;obtain ⟨o,l,c⟩:=Ka c;refine p_appB 1 htab rfl rfl rfl rfl rfl rfl rfl rfl rfl rfl rfl rfl rfl rfl rfl rfl (by simpa using KcH (e:=byteD) l) (Kiv (e:=byteD) l) (fun v2=>?_);refine Zl ?_;refine pS0 (ds':=[.slf a,.v (SL v2),iD b.gy]) ?_;refine KH ?_;refine Zu ?_;obtain rfl:=Kf c
 refine rP (t':=[(4,.v .nilIface)]) [0,0] [] 2 (wC wN) (lT lN) ?_;exact ⟨v2,rfl,rfl,rfl⟩
def KcV (a:Kn)(b:ByteArray):Option (Int×Unit×Kn):=
 ((app 1 a.gB.gx b.data.toList).bind fun c=>some ((b.size:Int),(),(⟨(⟨c⟩:K8),a.gy⟩:Kn)))
theorem Z8 {R G:Prop}(h:R)(k:R→G:=by intro h;refine pu ?_;refine Zu ?_;exact h):G:=k h
theorem Kgp (b c a f r)(h0:KcV b c=some r):CallsD Tryz.prog 28 [.ptr a 0,tD c] [(a,Blk.cells [.slf a,.v (SL f),iD b.gy] 60),(0,Blk.opq (bufO 5 b.gB.gx f))] [] (fun d h k=>∃ i,d=.tup [iD r.1,.v .nilIface]∧h=[(a,Blk.cells [.slf a,.v (SL i),iD r.2.2.gy] 60),(0,Blk.opq (bufO 5 r.2.2.gB.gx i))]∧k=[]):=by
 refine PZ1 h0 Tryz.func28 fun C g=>?_;refine ZM ?_;refine Zo ?_;refine pG (copy_ok b a f) Wl Pf Pf ?_;refine Yc ?_;iterate 4 refine pu ?_
 refine pL 0 ?_;refine pu ?_;obtain ⟨l,j,g⟩:=Ka g;refine p_appS 1 htab rfl rfl rfl rfl rfl rfl rfl rfl rfl rfl rfl rfl rfl rfl rfl rfl (by simpa using KcH (e:=byteD) j) (app_zs j) (fun v1=>?_);refine Zl ?_;refine pS0 (ds':=[.slf a,.v (SL v1),iD b.gy]) ?_;refine Zo ?_;refine p_lenS htab rfl rfl rfl rfl rfl rfl rfl rfl ?_;refine Z8 ?_;obtain rfl:=Kf g;refine rP (t':=[(4,iD (c.size:Int)),(5,.v .nilIface)]) [0,0] [] 2 (wC (wC wN)) (lT (lT lN)) ?_;exact ⟨v1,rfl,rfl,rfl⟩
def Ka7 (b:Kn)(e:ByteArray):Option (Kn):=
 (Option.bind (α:=List UInt8×Int) (loopM (fun (a:Int×List UInt8×Int)=>(bif (decide (a.1 < b.gy)) then ((Kb5 (⟨(⟨a.2.1⟩:K8),a.2.2⟩:Kn) (9:Int)).bind fun c=>some (.next ((IntKind.i64.wrap (a.1+(1:Int))),c.2.gB.gx,c.2.gy))) else some (.done (a.2.1,a.2.2)))) ((0:Int),b.gB.gx,b.gy)) fun d=>((KcV (⟨(⟨d.1⟩:K8),d.2⟩:Kn) e).bind fun f=>((Kb5 f.2.2 (10:Int)).bind fun g=>some g.2)))
theorem Y9 {A0 G:Prop}(a0:A0)(k:A0→G:=by intro _a;refine KM ?_;refine Kan ?_;obtain rfl:=Kf _a;refine ⟨rfl,?_⟩;exact WkX.of _ (wP (wC (wC wN)))):G:=k a0
theorem XS {G:Prop}(k:G:=by exact WkX.of _ (WkS.perm (wC (wC (wC (wC wN)))) ((KZ (j:=1) rfl).trans (List.Perm.cons _ ((KZ (j:=0) rfl).trans (List.Perm.cons _ Pf)))) Pf)):G:=k
theorem XA {R G:Prop}(h:R)(k:R→G:=by intro h;refine ZS ?_;refine pL 0 ?_;exact h):G:=k h
theorem Yq {R G:Prop}(h:R)(k:R→G:=by intro h;refine XA ?_;refine Zv ?_;exact h):G:=k h
theorem Kck (f e b m r)(h0:Ka7 f e=some r):CallsD Tryz.prog 18 [.ptr b 0,tD e] [(b,Blk.cells [.slf b,.v (SL m),iD f.gy] 60),(0,Blk.opq (bufO 5 f.gB.gx m))] [] (fun d h k=>∃ n,d=.tup []∧h=[(b,Blk.cells [.slf b,.v (SL n),iD r.gy] 60),(0,Blk.opq (bufO 5 r.gB.gx n))]∧k=[]):=by
 refine PZ1 h0 Tryz.func18 fun C a=>?_;refine Km ?_;refine Yq ?_
 obtain ⟨g,o,p⟩:=Ka a;refine Kaf (Y:=Z3) (fun i=>(⟨[(0,.ptr b 0),(1,tD e)],[(0,Blk.opq (bufO 5 g.1 i)),(b,Blk.cells [.slf b,.v (SL i),iD g.2] 60)],[]⟩:S)) ?_ ?_
 ·clear a;have a:=KE o;refine Zy a fun E s t=>?_;refine KaO (Y:=Z3) s (fun c l=>(⟨[(0,.ptr b 0),(1,tD e),(7,iD f.gy),(8,iD c.1)],[(0,Blk.opq (bufO 5 c.2.1 l)),(b,Blk.cells [.slf b,.v (SL l),iD c.2.2] 60)],[]⟩:S)) ?_ ?_
  ·skip
   exact XS
  intro G19 c l a;refine Zn ?_;refine cY a (fun a=>?_) fun a=>?_
  ·refine Z0 ?_;refine ZW ?_
   obtain ⟨u,w,a⟩:=Ka a;refine pG (KeB (⟨(⟨c.2.1⟩:K8),c.2.2⟩:Kn) (9:Int) b l u w) Wl ((KZ (j:=1) rfl).trans (List.Perm.cons _ ((KZ (j:=0) rfl).trans (List.Perm.cons _ Pf)))) Pf ?_;refine ZL fun F=>?_;refine Yf a ?_;exact XS
  refine Zs ?_;obtain rfl:=K6 a;have a:=t
  exact Y9 a
 intro H x;have a:=p;clear o p;refine Zb x fun i=>?_;refine YA ?_
 obtain ⟨q,y,a⟩:=Ka a;refine pG (Kgp (⟨(⟨g.1⟩:K8),g.2⟩:Kn) e b i q y) Wl ((KZ (j:=1) rfl).trans (List.Perm.cons _ ((KZ (j:=0) rfl).trans (List.Perm.cons _ Pf)))) Pf ?_;refine ZL fun z=>?_;refine Kb ?_;refine ZW ?_
 obtain ⟨A,B,a⟩:=Ka a;refine pG (KeB q.2.2 (10:Int) b z A B) Wl Pf Pf ?_;refine ZL fun D=>?_;refine KC ?_;obtain rfl:=Kf a;refine rP (t':=[]) [0,0] [] 2 wN lN ?_;exact ⟨D,rfl,rfl,rfl⟩
def Kde (a0:Int):Option (Int):=
 (Option.bind (α:=Bool) (bif (a0==(4:Int)) then some (a0==(4:Int)) else some (a0==(5:Int))) fun a=>(bif a then some (0:Int) else (bif (a0==(2:Int)) then some (2:Int) else (bif (a0==(1:Int)) then (bif (a0==(1:Int)) then some (1:Int) else some (-1:Int)) else (bif (a0==(3:Int)) then (bif (a0==(3:Int)) then some (1:Int) else some (-1:Int)) else (bif (a0==(6:Int)) then (bif (a0==(6:Int)) then some (1:Int) else some (-1:Int)) else (bif (a0==(7:Int)) then (bif (a0==(7:Int)) then some (1:Int) else some (-1:Int)) else (bif (a0==(8:Int)) then (bif (a0==(8:Int)) then some (1:Int) else some (-1:Int)) else (bif (a0==(9:Int)) then some (1:Int) else some (-1:Int))))))))))
theorem KlL (a0 r)(h0:Kde a0=some r):CallsD Tryz.prog 87 [iD a0] [] [] (fun d h k=>d=iD r∧h=[]∧k=[]):=by
 refine PZ1 h0 Tryz.func87 fun C a=>?_;refine Zn ?_;refine Yx ?_;refine KJ ?_;refine Km ?_;refine Ze ?_;obtain ⟨e,b,c⟩:=Ka a;refine Kaf (Y:=Unit) (fun f=>(⟨[(3,iD a0),(4,.v (.bool e))],[],[]⟩:S)) ?_ ?_
 ·clear a;have a:=KE b;refine cY a (fun a=>?_) fun a=>?_
  ·refine Kx ?_;exact YC a
  refine ZU ?_;exact Z2 a
 intro i g;have a:=c;clear b c;refine Zb g fun f=>?_;refine cY a (fun a=>?_) fun a=>?_
 ·refine Yg ?_;exact XJ a
 refine Ze ?_;refine cY a (fun a=>?_) fun a=>?_
 ·refine Yg ?_;exact XI a
 refine Km ?_;refine Ze ?_;refine cY a (fun a=>?_) fun a=>?_
 ·refine Zm ?_;refine cY a (fun a=>?_) fun a=>?_
  ·exact Xe a
  refine ZK ?_;exact YW a
 refine Ze ?_;refine cY a (fun a=>?_) fun a=>?_
 ·refine Zm ?_;refine cY a (fun a=>?_) fun a=>?_
  ·exact Xe a
  refine ZK ?_;exact YW a
 refine Ze ?_;refine cY a (fun a=>?_) fun a=>?_
 ·refine Zm ?_;refine cY a (fun a=>?_) fun a=>?_
  ·exact Xe a
  refine ZK ?_;exact YW a
 refine Ze ?_;refine cY a (fun a=>?_) fun a=>?_
 ·refine Zm ?_;refine cY a (fun a=>?_) fun a=>?_
  ·exact Xe a
  refine ZK ?_;exact YW a
 refine Ze ?_;refine cY a (fun a=>?_) fun a=>?_
 ·refine Zm ?_;refine cY a (fun a=>?_) fun a=>?_
  ·exact Xe a
  refine ZK ?_;exact YW a
 refine ZN ?_;refine Zv ?_;refine cY a (fun a=>?_) fun a=>?_
 ·exact Xe a
 refine ZK ?_;exact YW a
abbrev qZ16:ByteArray:=(ByteArray.mk #[42])
abbrev qZ19:ByteArray:=(ByteArray.mk #[45])
def KcB (a0:Int):Option (ByteArray×Int×Bool):=
 (bif (a0==(7:Int)) then some (qZ16,(5:Int),true) else (bif (a0==(8:Int)) then some ((ByteArray.mk #[47]),(5:Int),true) else (bif (a0==(9:Int)) then some ((ByteArray.mk #[37]),(5:Int),true) else (bif (a0==(10:Int)) then some ((ByteArray.mk #[43]),(4:Int),true) else (bif (a0==(11:Int)) then some (qZ19,(4:Int),true) else (bif (a0==(12:Int)) then some ((ByteArray.mk #[60]),(3:Int),true) else (bif (a0==(13:Int)) then some ((ByteArray.mk #[60,61]),(3:Int),true) else (bif (a0==(14:Int)) then some ((ByteArray.mk #[61,61]),(2:Int),true) else (bif (a0==(15:Int)) then some ((ByteArray.mk #[33,61]),(2:Int),true) else (bif (a0==(16:Int)) then some ((ByteArray.mk #[38,38]),(1:Int),true) else (bif (a0==(17:Int)) then some ((ByteArray.mk #[124,124]),(0:Int),true) else some ((ByteArray.mk #[]),(6:Int),false))))))))))))
theorem YN {R G:Prop}(h:R)(k:R→G:=by intro h;refine ZS ?_;refine Yh ?_;exact h):G:=k h
theorem Kg2 (a0 r)(h0:KcB a0=some r):CallsD Tryz.prog 90 [iD a0] [] [] (fun d h k=>d=.tup [tD r.1,iD r.2.1,.v (.bool r.2.2)]∧h=[]∧k=[]):=by
 refine PZ1 h0 Tryz.func90 fun C a=>?_;refine ZS ?_
 refine Zr ?_;refine Yx ?_;refine KJ ?_;refine Ze ?_;refine cY a (fun a=>?_) fun a=>?_
 ·refine YN ?_
  obtain rfl:=Kf a;refine rP (t':=[(2,tD qZ16),(3,iD (5:Int)),(4,.v (.bool true))]) [] [] 0 (wC (wC (wC wN))) (lT (lT (lT lN))) ?_;exact Za
 refine Ze ?_;refine cY a (fun a=>?_) fun a=>?_
 ·refine YN ?_
  obtain rfl:=Kf a;refine rP (t':=[(2,tD (ByteArray.mk #[47])),(3,iD (5:Int)),(4,.v (.bool true))]) [] [] 0 (wC (wC (wC wN))) (lT (lT (lT lN))) ?_;exact Za
 refine Ze ?_;refine cY a (fun a=>?_) fun a=>?_
 ·refine YN ?_
  obtain rfl:=Kf a;refine rP (t':=[(2,tD (ByteArray.mk #[37])),(3,iD (5:Int)),(4,.v (.bool true))]) [] [] 0 (wC (wC (wC wN))) (lT (lT (lT lN))) ?_;exact Za
 refine Ze ?_;refine cY a (fun a=>?_) fun a=>?_
 ·refine YN ?_
  obtain rfl:=Kf a;refine rP (t':=[(2,tD (ByteArray.mk #[43])),(3,iD (4:Int)),(4,.v (.bool true))]) [] [] 0 (wC (wC (wC wN))) (lT (lT (lT lN))) ?_;exact Za
 refine Ze ?_;refine cY a (fun a=>?_) fun a=>?_
 ·refine YN ?_
  obtain rfl:=Kf a;refine rP (t':=[(2,tD qZ19),(3,iD (4:Int)),(4,.v (.bool true))]) [] [] 0 (wC (wC (wC wN))) (lT (lT (lT lN))) ?_;exact Za
 refine Ze ?_;refine cY a (fun a=>?_) fun a=>?_
 ·refine YN ?_
  obtain rfl:=Kf a;refine rP (t':=[(2,tD (ByteArray.mk #[60])),(3,iD (3:Int)),(4,.v (.bool true))]) [] [] 0 (wC (wC (wC wN))) (lT (lT (lT lN))) ?_;exact Za
 refine Ze ?_;refine cY a (fun a=>?_) fun a=>?_
 ·refine YN ?_
  obtain rfl:=Kf a;refine rP (t':=[(2,tD (ByteArray.mk #[60,61])),(3,iD (3:Int)),(4,.v (.bool true))]) [] [] 0 (wC (wC (wC wN))) (lT (lT (lT lN))) ?_;exact Za
 refine Ze ?_;refine cY a (fun a=>?_) fun a=>?_
 ·refine YN ?_
  obtain rfl:=Kf a;refine rP (t':=[(2,tD (ByteArray.mk #[61,61])),(3,iD (2:Int)),(4,.v (.bool true))]) [] [] 0 (wC (wC (wC wN))) (lT (lT (lT lN))) ?_;exact Za
 refine Ze ?_;refine cY a (fun a=>?_) fun a=>?_
 ·refine YN ?_
  obtain rfl:=Kf a;refine rP (t':=[(2,tD (ByteArray.mk #[33,61])),(3,iD (2:Int)),(4,.v (.bool true))]) [] [] 0 (wC (wC (wC wN))) (lT (lT (lT lN))) ?_;exact Za
 refine Ze ?_;refine cY a (fun a=>?_) fun a=>?_
 ·refine YN ?_
  obtain rfl:=Kf a;refine rP (t':=[(2,tD (ByteArray.mk #[38,38])),(3,iD (1:Int)),(4,.v (.bool true))]) [] [] 0 (wC (wC (wC wN))) (lT (lT (lT lN))) ?_;exact Za
 refine Ze ?_;refine cY a (fun a=>?_) fun a=>?_
 ·refine YN ?_
  obtain rfl:=Kf a;refine rP (t':=[(2,tD (ByteArray.mk #[124,124])),(3,iD (0:Int)),(4,.v (.bool true))]) [] [] 0 (wC (wC (wC wN))) (lT (lT (lT lN))) ?_;exact Za
 refine ZK ?_;refine ZS ?_
 refine ZG ?_;obtain rfl:=Kf a;refine rP (t':=[(2,tD (ByteArray.mk #[])),(3,iD (6:Int)),(4,.v (.bool false))]) [] [] 0 (wC (wC (wC wN))) (lT (lT (lT lN))) ?_;exact Za
def Kdu (a0:Int):Option (Int):=
 (Option.bind (α:=(Unit)⊕(Int)) (Option.bind (α:=Bool) (bif (a0==(3:Int)) then some (a0==(3:Int)) else (Option.bind (α:=Bool) (bif (a0==(20:Int)) then some (a0==(20:Int)) else (Option.bind (α:=Bool) (bif (a0==(5:Int)) then some (a0==(5:Int)) else some (a0==(6:Int))) fun a=>some a)) fun b=>some b)) fun c=>(bif c then some (.inr (1:Int)) else some (.inl ()))) (Sum.elim (fun e=>((KcB a0).bind fun d=>(bif d.2.2 then some (2:Int) else some (0:Int)))) (fun r=>some r)))
theorem Klb (a0 r)(h0:Kdu a0=some r):CallsD Tryz.prog 89 [iD a0] [] [] (fun d h k=>d=iD r∧h=[]∧k=[]):=by
 refine PZ1 h0 Tryz.func89 fun C a=>?_;refine Zn ?_;refine Yx ?_;obtain ⟨m,c,b⟩:=Ka a;refine KaG (τ:=Unit) (Y:=Unit) (fun n o=>(⟨[(0,iD a0)],[],[]⟩:S)) m ?_ ?_
 ·clear a;have a:=KE c;refine KJ ?_;refine Km ?_;refine Ze ?_;obtain ⟨p,e,f⟩:=Ka a;refine Kaf (Y:=Unit) (fun q=>(⟨[(0,iD a0),(7,.v (.bool p))],[],[]⟩:S)) ?_ ?_
  ·clear a;have a:=KE e;refine cY a (fun a=>?_) fun a=>?_
   ·refine Kx ?_;exact YC a
   refine Ze ?_;obtain ⟨s,g,i⟩:=Ka a;refine Kaf (Y:=Unit) (fun D=>(⟨[(0,iD a0),(7,.v (.bool s))],[],[]⟩:S)) ?_ ?_
   ·clear a;have a:=KE g;refine cY a (fun a=>?_) fun a=>?_
    ·refine Kx ?_;exact YC a
    refine Ze ?_;obtain ⟨t,j,l⟩:=Ka a;refine Kaf (Y:=Unit) (fun E=>(⟨[(0,iD a0),(7,.v (.bool t))],[],[]⟩:S)) ?_ ?_
    ·clear a;have a:=KE j;refine cY a (fun a=>?_) fun a=>?_
     ·refine Kx ?_;exact YC a
     refine ZU ?_;exact Z2 a
    intro F u;have a:=l;clear j l;exact Wm a u
   intro G w;have a:=i;clear g i;exact Wm a w
  intro H x;have a:=f;clear e f;refine Zb x fun q=>?_;refine cY a (fun a=>?_) fun a=>?_
  ·refine ZY ?_;refine KI ?_;obtain rfl:=Kf a;refine Ka4 ?_;have a:=b;refine Z1 a fun a=>?_
   exact Wi a
  refine Kx ?_;refine KK ?_;obtain rfl:=Kf a;refine Kat ?_;exact wO (wP (wC wN))
 intro n I y z;subst y;have a:=b;refine Zj a fun a=>?_;clear c b;refine Zb z fun o=>?_;refine Km ?_;refine ZD a fun A B a=>?_;refine K5 (Kg2 a0 A B) rfl rfl rfl rfl rfl Wl ?_;rintro _ rfl;iterate 7 refine pu ?_
 refine KH ?_;refine Zv ?_;refine cY a (fun a=>?_) fun a=>?_
 ·refine Ye ?_;exact XI a
 refine Zm ?_;refine ZY ?_;exact XJ a
abbrev nlVp1_1:List (List Nat):=nlD [] [(0,[]),(0,[0]),(2,[1]),(3,[2]),(0,[]),(4,[3,4]),(6,[5]),(0,[]),(7,[6,7]),(9,[8]),(0,[]),(0,[10]),(12,[11]),(13,[12]),(0,[]),(0,[14]),(7,[10,11,12,13,14,15]),(10,[9,10,11,12,13,14,15,16]),(18,[17])]
abbrev qZ20:ByteArray:=(ByteArray.mk #[91])
abbrev qZ21:ByteArray:=(ByteArray.mk #[93])
abbrev qZ25:ByteArray:=(ByteArray.mk #[33])
def KdA (g0:(Ke)→Option (ByteArray))(g1:(Ke)→(Int)→Option (ByteArray))(a0:Ke):Option (ByteArray):=
 ((Kdu a0.gj).bind fun b=>(bif (decide ((a0.gc.length:Int) < b)) then some (ByteArray.mk #[63]) else ((KcB a0.gj).bind fun a=>(bif a.2.2 then ((idx a0.gc (0:Int)).bind fun c=>((g1 c a.2.1).bind fun d=>((catS d (ByteArray.mk #[32])).bind fun e=>((catS e a.1).bind fun f=>((catS f (ByteArray.mk #[32])).bind fun g=>((idx a0.gc (1:Int)).bind fun h=>((g1 h (IntKind.i64.wrap (a.2.1+(1:Int)))).bind fun i=>((catS g i).bind fun j=>some j)))))))) else (bif (a0.gj==(1:Int)) then ((need (Kgo a0.gN)).bind fun D=>some (itoaB a0.gN)) else (bif (a0.gj==(2:Int)) then some a0.ga else (bif (a0.gj==(18:Int)) then some (ByteArray.mk #[110,117,108,108]) else (bif (a0.gj==(4:Int)) then ((catS qZ16 a0.ga).bind fun k=>some k) else (bif (a0.gj==(19:Int)) then ((catS (ByteArray.mk #[38]) a0.ga).bind fun l=>some l) else (bif (a0.gj==(3:Int)) then ((catS a0.ga qZ20).bind fun m=>((idx a0.gc (0:Int)).bind fun n=>((g0 n).bind fun o=>((catS m o).bind fun p=>((catS p qZ21).bind fun q=>some q))))) else (bif (a0.gj==(20:Int)) then ((catS (ByteArray.mk #[38]) a0.ga).bind fun r=>((catS r qZ20).bind fun s=>((idx a0.gc (0:Int)).bind fun t=>((g0 t).bind fun u=>((catS s u).bind fun v=>((catS v qZ21).bind fun w=>some w)))))) else (bif (a0.gj==(5:Int)) then ((idx a0.gc (0:Int)).bind fun x=>((g1 x (6:Int)).bind fun y=>((catS qZ19 y).bind fun z=>some z))) else (bif (a0.gj==(6:Int)) then ((idx a0.gc (0:Int)).bind fun A=>((g1 A (6:Int)).bind fun B=>((catS qZ25 B).bind fun C=>some C))) else some (ByteArray.mk #[63]))))))))))))))
theorem Xk {R G:Prop}(h:R)(k:R→G:=by intro h;refine z_qM rfl rfl (KN 0 htab rfl rfl rfl rfl rfl) rfl rfl rfl rfl rfl rfl ?_;exact h):G:=k h
theorem Yr {A0 R G:Prop}(a0:A0)(h:R)(k:A0→R→G:=by intro _a h;refine z_q rfl rfl (x_cat _a rfl rfl rfl) rfl rfl rfl rfl rfl rfl ?_;exact h):G:=k a0 h
theorem Xl {A0 G:Prop}(a0:A0)(k:A0→G:=by intro _a;refine Z6 _a fun _l _m _n=>?_;refine ZT ?_;obtain rfl:=Kf _n;refine rP (t':=[(2,tD _l)]) [] [] 0 (wC wN) (lT lN) ?_;exact Za):G:=k a0
theorem X7 {R G:Prop}(h:R)(k:R→G:=by intro h;refine z_q rfl rfl (Kef htab rfl rfl rfl rfl (by first|exact K2|rfl)) rfl rfl rfl rfl rfl rfl ?_;exact h):G:=k h
theorem YZ {R G:Prop}(h:R)(k:R→G:=by intro h;refine zep ?_;refine Xk ?_;exact h):G:=k h
def HZ4 (g:(Ke)→Option (ByteArray)):Prop:=∀ (a0:Ke) (r:ByteArray) (h0:g a0=some r),CallsD Tryz.prog 66 [Kk a0] [] [] (fun d h k=>d=tD r∧h=[]∧k=[])
def HZ5 (g:(Ke)→(Int)→Option (ByteArray)):Prop:=∀ (a0:Ke) (j:Int) (r:ByteArray) (h0:g a0 j=some r),CallsD Tryz.prog 91 [Kk a0,iD j] [] [] (fun d h k=>d=tD r∧h=[]∧k=[])
theorem KkU (g0:(Ke)→Option (ByteArray))(g1:(Ke)→(Int)→Option (ByteArray))(l:HZ4 g0)(b:HZ5 g1)(a0 r)(h0:KdA g0 g1 a0=some r):CallsD Tryz.prog 66 [Kk a0] [] [] (fun d h k=>d=tD r∧h=[]∧k=[]):=by
 refine PZ1 h0 Tryz.func66 fun C a=>?_;refine XH fun V=>?_;refine Zz ?_;refine ZA a fun q s a=>?_;refine Kaj 6 [] [[],[0],[0,1],[],[3],[3]] [0,1,3,5] [[],[0],[0,1],[],[3],[3,4],[0,1,2,3,4,5]] (by kernel_rfl) (by kernel_rfl) (by kernel_rfl) (by rfl) (by rfl) (by kernel_rfl) ?_;iterate 4 apply Exists.intro
 intro bs;refine YY ?_;refine X7 ?_;refine YZ ?_;refine Kcg rfl rfl (Klb a0.gj q s) rfl rfl Wl rfl rfl rfl rfl rfl rfl ?_;refine ZC ?_;refine Zv ?_;refine cY a (fun a=>?_) fun a=>?_
 ·refine Ye ?_;obtain rfl:=Kf a;refine rP (t':=[(2,tD (ByteArray.mk #[63]))]) [] [] 0 (wC wN) (lT lN) ?_;exact Za
 refine ZO ?_;refine ZR ?_;obtain ⟨c,t,a⟩:=Ka a;refine K5 (Kg2 a0.gj c t) rfl rfl rfl rfl rfl Wl ?_;rintro _ rfl;iterate 7 refine pu ?_
 refine KH ?_;refine Zv ?_;refine cY a (fun a=>?_) fun a=>?_
 ·refine ZA a fun m u a=>?_;obtain ⟨v,w,a⟩:=Ka a;obtain ⟨W,x,a⟩:=Ka a;obtain ⟨X,y,a⟩:=Ka a;obtain ⟨Y,z,a⟩:=Ka a;obtain ⟨n,A,a⟩:=Ka a;obtain ⟨B,E,a⟩:=Ka a;refine Kaj 17 [] [[],[0],[0,1],[0,1,2],[],[0,1,2,3],[0,1,2,3,5],[],[0,1,2,3,5],[0,1,2,3,5],[],[10],[10,11],[10,11,12],[],[],[0,1,2,3,5,10,11,12,13]] [0,1,2,3,5,10,11,12,13,16] nlVp1_1 (by kernel_rfl) (by kernel_rfl) (by kernel_rfl) (by rfl) (by rfl) (by kernel_rfl) ?_;iterate 10 apply Exists.intro
  intro bs;refine YY ?_;refine XP u ?_;refine zqp ?_;refine Kcg rfl rfl (b m c.2.1 v w) rfl rfl (WkL.cons (Wk.trans (Wk.agg (WkR.refl _)) (Wk.of_eq (Ko m).symm)) (WkL.cons (Wk.refl _) Wl)) rfl rfl rfl rfl rfl rfl ?_
  refine Yr x ?_;refine zqp ?_;refine Yr y ?_;refine Yr z ?_;refine YY ?_;refine XP A ?_;refine Yb ?_
  refine Kcg rfl rfl (b n (IntKind.i64.wrap (c.2.1+(1:Int))) B E) rfl rfl (WkL.cons (Wk.trans (Wk.agg (WkR.refl _)) (Wk.of_eq (Ko n).symm)) (WkL.cons (Wk.refl _) Wl)) rfl rfl rfl rfl rfl rfl ?_;refine ZC ?_;refine Z6 a fun Z aa a=>?_;refine Zu ?_;refine Ky ?_;exact Wy a
 refine ZO ?_;refine ZR ?_;refine XM ?_;refine cY a (fun a=>?_) fun a=>?_
 ·refine ZR ?_;obtain ⟨ab,F,a⟩:=Ka a;refine K5 (itoaB_ok a0.gN (KdX F)) rfl rfl rfl rfl rfl Wl ?_;rintro _ rfl;refine ZT ?_;obtain rfl:=Kf a;refine rP (t':=[(2,tD (itoaB a0.gN))]) [] [] 0 (wC wN) (lT lN) ?_;exact Za
 refine Ze ?_;refine cY a (fun a=>?_) fun a=>?_
 ·refine ZR ?_;refine ZT ?_;obtain rfl:=Kf a;refine rP (t':=[(2,tD a0.ga)]) [] [] 0 (wC wN) (lT lN) ?_;exact Za
 refine Ze ?_;refine cY a (fun a=>?_) fun a=>?_
 ·refine Yg ?_;obtain rfl:=Kf a;refine rP (t':=[(2,tD (ByteArray.mk #[110,117,108,108]))]) [] [] 0 (wC wN) (lT lN) ?_;exact Za
 refine Ze ?_;refine cY a (fun a=>?_) fun a=>?_
 ·refine ZR ?_;exact Xl a
 refine Ze ?_;refine cY a (fun a=>?_) fun a=>?_
 ·refine ZR ?_;exact Xl a
 refine Ze ?_;refine cY a (fun a=>?_) fun a=>?_
 ·refine ZA a fun ac H a=>?_;obtain ⟨o,I,a⟩:=Ka a;obtain ⟨J,K,a⟩:=Ka a;refine Kaj 8 [] [[],[0],[0],[],[3],[3,4],[3,4,5],[3,4,5,6]] [0,3,4,5,6,7] [[],[0],[0,1],[],[3],[3,4],[3,4,5],[3,4,5,6],[0,1,2,3,4,5,6,7],[0,1,2,3,4,5,6,7,8],[0,1,2,3,4,5,6,7,8,9]] (by kernel_rfl) (by kernel_rfl) (by kernel_rfl) (by rfl) (by rfl) (by kernel_rfl) ?_;iterate 6 apply Exists.intro
  intro bs;refine YZ ?_;refine Yr H ?_;refine YY ?_;refine XP I ?_
  refine Kcg rfl rfl (l o J K) rfl rfl (WkL.cons (Wk.trans (Wk.agg (WkR.refl _)) (Wk.of_eq (Ko o).symm)) Wl) rfl rfl rfl rfl rfl rfl ?_;refine ZC ?_;refine Z6 a fun ad ae a=>?_;exact Xl a
 refine Ze ?_;refine cY a (fun a=>?_) fun a=>?_
 ·refine ZA a fun af L a=>?_;obtain ⟨ag,M,a⟩:=Ka a;obtain ⟨p,N,a⟩:=Ka a;obtain ⟨O,P,a⟩:=Ka a;refine Kaj 9 [] [[],[0],[0],[0],[],[4],[4,5],[4,5,6],[4,5,6,7]] [0,4,5,6,7,8] [[],[0],[0,1],[0,1,2],[],[4],[4,5],[4,5,6],[4,5,6,7],[0,1,2,3,4,5,6,7,8],[0,1,2,3,4,5,6,7,8,9],[0,1,2,3,4,5,6,7,8,9,10]] (by kernel_rfl) (by kernel_rfl) (by kernel_rfl) (by rfl) (by rfl) (by kernel_rfl) ?_;iterate 6 apply Exists.intro
  intro bs;refine YZ ?_;refine Yr L ?_;refine Yr M ?_;refine YY ?_;refine XP N ?_
  refine Kcg rfl rfl (l p O P) rfl rfl (WkL.cons (Wk.trans (Wk.agg (WkR.refl _)) (Wk.of_eq (Ko p).symm)) Wl) rfl rfl rfl rfl rfl rfl ?_;refine ZC ?_;refine Z6 a fun ah ai a=>?_;exact Xl a
 refine Ze ?_;refine cY a (fun a=>?_) fun a=>?_
 ·refine ZR ?_;refine ZX a fun e aj a=>?_;refine p_eq (i:=91) rfl (Wk.of_eq (congrArg D.el (Ko e))) ?_;refine Y5 ?_;obtain ⟨Q,S,a⟩:=Ka a;refine K5 (b e (6:Int) Q S) rfl rfl rfl rfl rfl (WkL.cons (Wk.trans (Wk.agg (WkR.refl _)) (Wk.of_eq (Ko e).symm)) (WkL.cons (Wk.refl _) Wl)) ?_;rintro _ rfl;exact Xl a
 refine Ze ?_;refine cY a (fun a=>?_) fun a=>?_
 ·refine ZR ?_;refine ZX a fun f ak a=>?_;refine p_eq (i:=99) rfl (Wk.of_eq (congrArg D.el (Ko f))) ?_;refine Y5 ?_;obtain ⟨T,U,a⟩:=Ka a;refine K5 (b f (6:Int) T U) rfl rfl rfl rfl rfl (WkL.cons (Wk.trans (Wk.agg (WkR.refl _)) (Wk.of_eq (Ko f).symm)) (WkL.cons (Wk.refl _) Wl)) ?_;rintro _ rfl;exact Xl a
 refine ZK ?_;refine ZY ?_;obtain rfl:=Kf a;refine rP (t':=[(2,tD (ByteArray.mk #[63]))]) [] [] 0 (wC wN) (lT lN) ?_;exact Za
abbrev qZ8:ByteArray:=(ByteArray.mk #[40])
abbrev qZ10:ByteArray:=(ByteArray.mk #[41])
def KdW (g0:(Ke)→Option (ByteArray))(g1:(Ke)→(Int)→Option (ByteArray))(a0:Ke)(c:Int):Option (ByteArray):=
 ((g0 a0).bind fun a=>((KcB a0.gj).bind fun b=>(Option.bind (α:=Bool) (bif b.2.2 then some (decide (b.2.1 < c)) else some false) fun d=>(bif d then ((catS qZ8 a).bind fun e=>((catS e qZ10).bind fun f=>some f)) else some a))))
theorem W0 {A0 A1 R G:Prop}(a0:A0)(b:A1)(h:R)(k:A0→A1→R→G:=by intro _a _b h;refine K5 (_a _ _ _b) rfl rfl rfl rfl rfl (WkL.cons (Wk.trans (Wk.agg (WkR.refl _)) (Wk.of_eq (Ko _).symm)) Wl) ?_;rintro _ rfl;exact h):G:=k a0 b h
theorem Klc (g0:(Ke)→Option (ByteArray))(g1:(Ke)→(Int)→Option (ByteArray))(j:HZ4 g0)(t:HZ5 g1)(a0 b r)(h0:KdW g0 g1 a0 b=some r):CallsD Tryz.prog 91 [Kk a0,iD b] [] [] (fun d h k=>d=tD r∧h=[]∧k=[]):=by
 refine PZ1 h0 Tryz.func91 fun C a=>?_;refine XH fun u=>?_;refine YI ?_;refine Kaa (d:=.agg (CZ0 a0 .no)) 0 htab rfl rfl rfl rfl rfl rfl rfl rfl ?_;obtain ⟨e,l,a⟩:=Ka a;refine W0 j l ?_;refine Zz ?_;refine ZR ?_
 obtain ⟨m,n,a⟩:=Ka a;refine K5 (Kg2 a0.gj m n) rfl rfl rfl rfl rfl Wl ?_;rintro _ rfl;iterate 7 refine pu ?_
 refine Zr ?_;obtain ⟨o,f,g⟩:=Ka a;refine Kaf (Y:=Unit) (fun p=>(⟨[(5,tD e),(23,.v (.bool o))],[],[]⟩:S)) ?_ ?_
 ·clear a;have a:=KE f;refine ZU ?_;refine KaH (i:=19) rfl (fun c=>?_) (fun c=>?_)
  ·replace a:=yes_t c a;iterate 3 refine pu ?_
   refine ZB ?_;exact Z2 a
  replace a:=yes_f c a;iterate 3 refine pK ?_
  refine ZE ?_;exact Z2 a
 intro w q;have a:=g;clear f g;refine Zb q fun p=>?_;refine cY a (fun a=>?_) fun a=>?_
 ·refine Zd ?_;refine Z6 a fun x y a=>?_;refine Z6 a fun s z a=>?_;refine Zu ?_;refine Ky ?_;obtain rfl:=Kf a;refine rP (t':=[(4,tD s)]) [] [] 0 (wC wN) (lT lN) ?_;exact Za
 refine Zm ?_;refine Yz ?_;obtain rfl:=Kf a;refine rP (t':=[(4,tD e)]) [] [] 0 (wC wN) (lT lN) ?_;exact Za
def KaE:Nat→((Ke)→Option (ByteArray))×((Ke)→(Int)→Option (ByteArray))
 | 0=>(fun _=>none,fun _ _=>none)
 | n+1=>(KdA ((KaE n).1) ((KaE n).2),KdW ((KaE n).1) ((KaE n).2))
theorem Kh1:∀ n,(∀ (a0:Ke) (r:ByteArray) (h0:(KaE n).1 a0=some r),CallsD Tryz.prog 66 [Kk a0] [] [] (fun d h k=>d=tD r∧h=[]∧k=[]))∧(∀ (a0:Ke) (a:Int) (r:ByteArray) (h0:(KaE n).2 a0 a=some r),CallsD Tryz.prog 91 [Kk a0,iD a] [] [] (fun d h k=>d=tD r∧h=[]∧k=[]))
 | 0=>⟨(fun _ _ h0=>by cases h0),(fun _ _ _ h0=>by cases h0)⟩
 |
  n+1=>by
  have ih:=Kh1 n;exact ⟨KkU ((KaE n).1) ((KaE n).2) (ih.1) (ih.2),Klc ((KaE n).1) ((KaE n).2) (ih.1) (ih.2)⟩
theorem Kh2:∀ n,(∀ (a0:Ke),Le ((KaE n).1 a0) ((KaE (n+1)).1 a0))∧(∀ (a0:Ke) (a:Int),Le ((KaE n).2 a0 a) ((KaE (n+1)).2 a0 a))
 | 0=>⟨fun _=>Le.none _,fun _ _=>Le.none _⟩
 |
  n+1=>by
  have ih:=Kh2 n
  exact ⟨fun a0=>by show Le (KdA ((KaE n).1) ((KaE n).2) a0) (KdA ((KaE (n+1)).1) ((KaE (n+1)).2) a0);revert ih;generalize KaE n=G0;generalize KaE (n+1)=G1;intro ih;unfold KdA;repeat (first|with_reducible exact Le.refl _|with_reducible exact ih.1 _|with_reducible exact ih.2 _ _|with_reducible assumption|(refine Le.bind ?_ (fun _=>?_))|(refine Le.cond ?_ ?_)|(refine Le.loop (fun _=>?_))|(refine Le.elim (fun _=>?_) (fun _=>?_))),fun a0 a=>by show Le (KdW ((KaE n).1) ((KaE n).2) a0 a) (KdW ((KaE (n+1)).1) ((KaE (n+1)).2) a0 a);revert ih;generalize KaE n=G0;generalize KaE (n+1)=G1;intro ih;unfold KdW;repeat (first|with_reducible exact Le.refl _|with_reducible exact ih.1 _|with_reducible exact ih.2 _ _|with_reducible assumption|(refine Le.bind ?_ (fun _=>?_))|(refine Le.cond ?_ ?_)|(refine Le.loop (fun _=>?_))|(refine Le.elim (fun _=>?_) (fun _=>?_)))⟩
def KbN (a0:Ke):Option (ByteArray):=anyN fun n=>(KaE n).1 a0
theorem KlM (a0:Ke){r:ByteArray}(n:Nat)(h:(KaE n).1 a0=some r):KbN a0=some r:=KdY (fun m=>(Kh2 m).1 a0) h
theorem Kdn (a0 r)(h0:KbN a0=some r):CallsD Tryz.prog 66 [Kk a0] [] [] (fun d h k=>d=tD r∧h=[]∧k=[]):=
 let ⟨n,hn⟩:=Kc4 h0;(Kh1 n).1 a0 r hn
def Kdo (a0:List Ke):Option (ByteArray):=
 (Option.bind (α:=List ByteArray) (loopM (fun (a:List ByteArray×Int)=>(bif (decide (a.2 < (a0.length:Int))) then ((idx a0 a.2).bind fun c=>((KbN c).bind fun d=>((app 16 a.1 ([d]:List ByteArray)).bind fun e=>some (.next (e,(IntKind.i64.wrap (a.2+(1:Int)))))))) else some (.done a.1))) (([]:List ByteArray),(0:Int))) fun b=>((need (Khy b qZ18)).bind fun f=>some (joinB b qZ18)))
theorem Kic (a0 r)(h0:Kdo a0=some r):CallsD Tryz.prog 88 [.lst 5 (a0.map Kk) .no,.fn (.func 66) [] []] [] [] (fun d h k=>d=tD r∧h=[]∧k=[]):=by
 refine PZ1 h0 Tryz.func88 fun C a=>?_;refine Zd ?_;refine KH ?_;refine Zz ?_;refine Zd ?_;refine ZF ?_;obtain ⟨c,j,l⟩:=Ka a;refine Kaf (Y:=Value) (fun e=>(⟨[(5,.lst 1 (c.map eStr) (.cur e))],[],[(1,e)]⟩:S)) ?_ ?_
 ·clear a;have a:=KE j;refine Zy a fun t n o=>?_;refine KaO (Y:=Value) n (fun f g=>(⟨[(1,.fn (.func 66) [] []),(5,.lst 1 (f.1.map eStr) (.cur g)),(8,.lst 5 (a0.map Kk) .no),(9,iD (a0.length:Int)),(10,iD f.2)],[],[(1,g)]⟩:S)) ?_ ?_
  ·skip
   exact WR
  intro G22 f g a;refine Zn ?_;refine cY a (fun a=>?_) fun a=>?_
  ·refine Z7 a fun b u a=>?_;refine p_eq (i:=12) rfl (Wk.of_eq (congrArg D.el (Ko b))) ?_;refine Y5 ?_;refine Zq fun v=>?_;refine pS0 (ds':=(CZ0 b .no)) ?_;refine Kb ?_;refine ZU ?_
   refine Kaa (d:=.agg (CZ0 b .no)) 0 htab rfl rfl rfl rfl rfl rfl rfl rfl ?_;obtain ⟨m,p,a⟩:=Ka a;refine KfG (Kdn b m p) rfl rfl rfl rfl rfl rfl rfl (WkL.cons (Wk.trans (Wk.agg (WkR.refl _)) (Wk.of_eq (Ko b).symm)) Wl) ?_;rintro _ rfl;refine ZJ ?_;refine p_eq (i:=18) (d':=.lst 1 (([m]:List ByteArray).map eStr) .full) rfl (Wk.lst0 (.cons (WkC.refl _) (.nil))) ?_;exact WQ a
  refine Zs ?_;obtain rfl:=K6 a;have a:=o
  exact WZ a
 intro w q;have a:=l;clear j l;refine Zb q fun e=>?_;refine ZD a fun x s a=>?_;refine K5 (joinB_ok c qZ18 (KdX s)) rfl rfl rfl rfl rfl (WkL.cons (Wk.no) (WkL.cons (Wk.refl _) Wl)) ?_;rintro _ rfl;refine Zu ?_;obtain rfl:=Kf a;refine rP (t':=[(4,tD (joinB c qZ18))]) [] [] 0 (wC wN) (lT lN) ?_;exact Za
abbrev nlVp1_2:List (List Nat):=nlD [] [(0,[]),(0,[0]),(2,[1]),(0,[]),(0,[3]),(5,[4]),(6,[5]),(7,[6]),(3,[2,3,4,5,6,7]),(9,[8]),(0,[]),(0,[10]),(12,[11]),(13,[12]),(8,[7,10,11,12,13]),(10,[9,10,11,12,13,14]),(16,[15]),(17,[16]),(18,[17])]
abbrev qZ22:ByteArray:=(ByteArray.mk #[59])
def Kd3 (a0:Kj):Option (ByteArray×Bool):=
 ((Kde a0.gj).bind fun a=>(Option.bind (α:=Bool) (bif (decide (a < (0:Int))) then some true else some (decide ((a0.go.length:Int) < a))) fun c=>(bif c then some ((ByteArray.mk #[63,59]),true) else (bif (a0.gj==(1:Int)) then ((catS a0.ga (ByteArray.mk #[32,61,32])).bind fun d=>((idx a0.go (0:Int)).bind fun e=>((KbN e).bind fun f=>((catS d f).bind fun g=>((catS g qZ22).bind fun h=>some (h,true)))))) else (bif (a0.gj==(2:Int)) then ((catS a0.ga qZ20).bind fun i=>((idx a0.go (0:Int)).bind fun j=>((KbN j).bind fun k=>((catS i k).bind fun l=>((catS l (ByteArray.mk #[93,32,61,32])).bind fun m=>((idx a0.go (1:Int)).bind fun n=>((KbN n).bind fun o=>((catS m o).bind fun p=>((catS p qZ22).bind fun q=>some (q,true)))))))))) else (bif (a0.gj==(3:Int)) then ((catS qZ16 a0.ga).bind fun r=>((catS r (ByteArray.mk #[32,61,32])).bind fun s=>((idx a0.go (0:Int)).bind fun t=>((KbN t).bind fun u=>((catS s u).bind fun v=>((catS v qZ22).bind fun w=>some (w,true))))))) else (bif (a0.gj==(5:Int)) then ((catS a0.ga (ByteArray.mk #[32,61,32,105,110,112,117,116,40,41,59])).bind fun x=>some (x,true)) else (bif (a0.gj==(8:Int)) then ((idx a0.go (0:Int)).bind fun y=>((KbN y).bind fun z=>((catS (ByteArray.mk #[114,101,116,117,114,110,32]) z).bind fun A=>((catS A qZ22).bind fun B=>some (B,true))))) else (bif (a0.gj==(9:Int)) then ((idx a0.go (0:Int)).bind fun C=>((KbN C).bind fun D=>((catS (ByteArray.mk #[97,115,115,101,114,116,40]) D).bind fun E=>((catS E (ByteArray.mk #[41,59])).bind fun F=>some (F,true))))) else (bif (a0.gj==(4:Int)) then ((catS a0.gu qZ8).bind fun G=>((Kdo a0.go).bind fun H=>((catS G H).bind fun I=>((catS I (ByteArray.mk #[41,59])).bind fun b=>(Option.bind (α:=ByteArray) (bif (!decide (a0.ga=(ByteArray.mk #[]))) then ((catS a0.ga (ByteArray.mk #[32,61,32])).bind fun J=>((catS J b).bind fun K=>some K)) else some b) fun L=>some (L,true)))))) else some ((ByteArray.mk #[]),false)))))))))))
theorem Uv {A0 G:Prop}(a0:A0)(k:A0→G:=by intro _a;refine Z6 _a fun _l _m _n=>?_;refine pu ?_;refine ZT ?_;obtain rfl:=Kf _n;refine rP (t':=[(2,tD _l),(3,.v (.bool true))]) [] [] 0 (wC (wC wN)) (lT (lT lN)) ?_;exact Za):G:=k a0
theorem Wz {A0 A1 A2 R G:Prop}(a0:A0)(m:A1)(n:A2)(h:R)(k:A0→A1→A2→R→G:=by intro _a _b _c h;refine Yr _a ?_;refine zep ?_;refine Xz ?_;refine XP _b ?_;refine Kcg rfl rfl (Kdn _ _ _c) rfl rfl (WkL.cons (Wk.trans (Wk.agg (WkR.refl _)) (Wk.of_eq (Ko _).symm)) Wl) rfl rfl rfl rfl rfl rfl ?_;exact h):G:=k a0 m n h
theorem W3 {A0 R G:Prop}(a0:A0)(h:R)(k:A0→R→G:=by intro _a h;refine K5 (Kdn _ _ _a) rfl rfl rfl rfl rfl (WkL.cons (Wk.trans (Wk.agg (WkR.refl _)) (Wk.of_eq (Ko _).symm)) Wl) ?_;rintro _ rfl;exact h):G:=k a0 h
theorem X8 {A0 G:Prop}(a0:A0)(k:A0→G:=by intro _a;refine Z6 _a fun _l _m _n=>?_;exact Uv _n):G:=k a0
theorem KkV (a0 r)(h0:Kd3 a0=some r):CallsD Tryz.prog 65 [Kh a0] [] [] (fun d h k=>d=.tup [tD r.1,.v (.bool r.2)]∧h=[]∧k=[]):=by
 refine PZ1 h0 Tryz.func65 fun C a=>?_;refine w_eq (i:=0) rfl (Wk.of_eq (Kv a0)) ?_;refine ZH fun c=>?_;refine Zl ?_;refine YP ?_;obtain ⟨o,p,a⟩:=Ka a;refine K5 (KlL a0.gj o p) rfl rfl rfl rfl rfl Wl ?_;rintro _ rfl;refine Zz ?_;refine ZA a fun q e f=>?_
 refine Kaf (Y:=Unit) (fun s=>(⟨[(1,.ptr c 0),(17,.v (.bool q))],[(c,Blk.cells (CZ2 a0 .no .no .no) 98)],[]⟩:S)) ?_ ?_
 ·clear a;have a:=KE e;refine ZW ?_
  refine KaH (i:=11) rfl (fun b=>?_) (fun b=>?_)
  ·replace a:=yes_t b a;iterate 5 refine pK ?_
   refine ZB ?_;exact Z2 a
  replace a:=yes_f b a;refine YV ?_;refine Yk ?_;refine Zl ?_;refine ZE ?_;exact Z2 a
 intro X t;have a:=f;clear e f;refine Zb t fun s=>?_;refine cY a (fun a=>?_) fun a=>?_
 ·refine Yz ?_;refine Ky ?_;obtain rfl:=Kf a;refine rP (t':=[(2,tD (ByteArray.mk #[63,59])),(3,.v (.bool true))]) [] [] 0 (wC (wC wN)) (lT (lT lN)) ?_;exact Za
 refine ZO ?_;refine ZR ?_;refine XM ?_;refine cY a (fun a=>?_) fun a=>?_
 ·refine ZA a fun Z u a=>?_;obtain ⟨aa,w,a⟩:=Ka a;obtain ⟨ab,x,a⟩:=Ka a;refine Kaj 8 [] [[],[0],[0],[],[3],[3,4],[3,4,5],[3,4,5,6]] [0,3,4,5,6,7] [[],[0],[0,1],[],[3],[3,4],[3,4,5],[3,4,5,6],[0,1,2,3,4,5,6,7],[0,1,2,3,4,5,6,7,8],[0,1,2,3,4,5,6,7,8,9],[0,1,2,3,4,5,6,7,8,9,10]] (by kernel_rfl) (by kernel_rfl) (by kernel_rfl) (by rfl) (by rfl) (by kernel_rfl) ?_;iterate 6 apply Exists.intro
  intro bs;refine YZ ?_;refine Wz u w x ?_
  refine ZC ?_;exact X8 a
 refine Ze ?_;refine cY a (fun a=>?_) fun a=>?_
 ·refine ZA a fun ac y a=>?_;obtain ⟨ad,z,a⟩:=Ka a;obtain ⟨ae,A,a⟩:=Ka a;obtain ⟨af,B,a⟩:=Ka a;obtain ⟨ag,E,a⟩:=Ka a;obtain ⟨ah,F,a⟩:=Ka a;obtain ⟨ai,H,a⟩:=Ka a;refine Kaj 15 [] [[],[0],[0],[],[3],[3,4],[3,4,5],[3,4,5,6],[0,3,4,5,6,7],[0,3,4,5,6,7],[],[10],[10,11],[10,11,12],[3,4,5,6,7,10,11,12,13]] [0,3,4,5,6,7,10,11,12,13,14] nlVp1_2 (by kernel_rfl) (by kernel_rfl) (by kernel_rfl) (by rfl) (by rfl) (by kernel_rfl) ?_;iterate 11 apply Exists.intro
  intro bs;refine YZ ?_;refine Wz y z A ?_
  refine Yr B ?_;refine Wz E F H ?_
  refine ZC ?_;exact X8 a
 refine Ze ?_;refine cY a (fun a=>?_) fun a=>?_
 ·refine ZA a fun aj I a=>?_;obtain ⟨ak,J,a⟩:=Ka a;obtain ⟨al,K,a⟩:=Ka a;obtain ⟨am,L,a⟩:=Ka a;refine Kaj 9 [] [[],[0],[0],[0],[],[4],[4,5],[4,5,6],[4,5,6,7]] [0,4,5,6,7,8] [[],[0],[0,1],[0,1,2],[],[4],[4,5],[4,5,6],[4,5,6,7],[0,1,2,3,4,5,6,7,8],[0,1,2,3,4,5,6,7,8,9],[0,1,2,3,4,5,6,7,8,9,10],[0,1,2,3,4,5,6,7,8,9,10,11]] (by kernel_rfl) (by kernel_rfl) (by kernel_rfl) (by rfl) (by rfl) (by kernel_rfl) ?_;iterate 6 apply Exists.intro
  intro bs;refine YZ ?_;refine Yr I ?_;refine Wz J K L ?_
  refine ZC ?_;exact X8 a
 refine Ze ?_;refine cY a (fun a=>?_) fun a=>?_
 ·refine ZR ?_;exact Uv a
 refine Ze ?_;refine cY a (fun a=>?_) fun a=>?_
 ·refine ZR ?_;refine ZX a fun M an a=>?_;refine p_eq (i:=73) rfl (Wk.of_eq (congrArg D.el (Ko M))) ?_;refine Y5 ?_;obtain ⟨ao,N,a⟩:=Ka a;refine W3 N ?_;exact X8 a
 refine Ze ?_;refine cY a (fun a=>?_) fun a=>?_
 ·refine ZR ?_;refine ZX a fun O ap a=>?_;refine p_eq (i:=82) rfl (Wk.of_eq (congrArg D.el (Ko O))) ?_;refine Y5 ?_;obtain ⟨aq,P,a⟩:=Ka a;refine W3 P ?_;exact X8 a
 refine Ze ?_;refine cY a (fun a=>?_) fun a=>?_
 ·refine ZA a fun ar Q a=>?_;obtain ⟨T,U,a⟩:=Ka a;refine Kaj 6 [] [[],[0],[0],[],[3],[3,4]] [0,3,4,5] [[],[0],[0,1],[],[3],[3,4],[0,1,2,3,4,5],[0,1,2,3,4,5,6],[0,1,2,3,4,5,6,7]] (by kernel_rfl) (by kernel_rfl) (by kernel_rfl) (by rfl) (by rfl) (by kernel_rfl) ?_;iterate 4 apply Exists.intro
  intro bs;refine YZ ?_;refine Yr Q ?_;refine YY ?_;refine Kcg rfl rfl (Kic a0.go T U) rfl rfl Wl rfl rfl rfl rfl rfl rfl ?_;refine ZC ?_;refine Z6 a fun au av a=>?_;refine Z6 a fun aw ax a=>?_;refine Zz ?_;refine ZR ?_
  refine Zv ?_;obtain ⟨g,j,l⟩:=Ka a;refine Kaf (Y:=Unit) (fun V=>(⟨[(5,tD g)],[],[]⟩:S)) ?_ ?_
  ·clear a;have a:=KE j;refine cY a (fun a=>?_) fun a=>?_
   ·refine ZN ?_;refine pL 0 ?_;refine Z6 a fun ay az a=>?_;refine pu ?_;refine Z6 a fun ba bb a=>?_;refine pu ?_;refine KC ?_;obtain rfl:=Kf a;refine ⟨rfl,?_⟩;exact wO (wP (wC wN))
   refine Kx ?_;obtain rfl:=Kf a;refine ⟨rfl,?_⟩;exact wO (wP (wC wN))
  intro bc W;have a:=l;clear j l;refine Zb W fun V=>?_;refine YN ?_
  obtain rfl:=Kf a;refine rP (t':=[(2,tD g),(3,.v (.bool true))]) [] [] 0 (wC (wC wN)) (lT (lT lN)) ?_;exact Za
 refine ZK ?_;refine Yz ?_;obtain rfl:=Kf a;refine rP (t':=[(2,tD (ByteArray.mk #[])),(3,.v (.bool false))]) [] [] 0 (wC (wC wN)) (lT (lT lN)) ?_;exact Za
def Kcl (g0:(Kn)→(List Kj)→Option (Kn))(g1:(Kn)→(Kj)→Option (Kn))(g:(Kn)→(List Kj)→Option (Kn))(h:(Kn)→(List Kj)→Option (Kn))(i:(Kn)→(List Kj)→Option (Kn))(b:Kn)(c:List Kj):Option (Kn):=
 (Option.bind (α:=List UInt8×Int) (loopM (fun (a:Int×List UInt8×Int)=>(bif (decide (a.1 < (c.length:Int))) then ((idx c a.1).bind fun f=>((g1 (⟨(⟨a.2.1⟩:K8),a.2.2⟩:Kn) f).bind fun d=>some (.next ((IntKind.i64.wrap (a.1+(1:Int))),d.gB.gx,d.gy)))) else some (.done (a.2.1,a.2.2)))) ((0:Int),b.gB.gx,b.gy)) fun e=>some (⟨(⟨e.1⟩:K8),e.2⟩:Kn))
theorem W4 {A0 G:Prop}(a0:A0)(k:A0→G:=by intro _a;refine Z9 ?_;obtain rfl:=Kf _a;refine ⟨rfl,?_⟩;exact WkX.of _ (wP wN)):G:=k a0
theorem W5 {R G:Prop}(h:R)(k:R→G:=by intro h;refine Kaa (d:=.agg (CZ2 _ .no .no .no)) 2 htab rfl rfl rfl rfl rfl rfl rfl rfl ?_;exact h):G:=k h
def HZ6 (g:(Kn)→(List Kj)→Option (Kn)):Prop:=∀ (c:Kn) (e:List Kj) (a:Nat) (f:Z3) (r:Kn) (h0:g c e=some r),CallsD Tryz.prog 21 [.ptr a 0,.lst 7 (e.map Kh) .no] [(a,Blk.cells [.slf a,.v (SL f),iD c.gy] 60),(0,Blk.opq (bufO 5 c.gB.gx f))] [] (fun d h k=>∃ l,d=.tup []∧h=[(a,Blk.cells [.slf a,.v (SL l),iD r.gy] 60),(0,Blk.opq (bufO 5 r.gB.gx l))]∧k=[])
def HZ7 (g:(Kn)→(Kj)→Option (Kn)):Prop:=∀ (c:Kn) (e:Kj) (a:Nat) (f:Z3) (r:Kn) (h0:g c e=some r),CallsD Tryz.prog 49 [.ptr a 0,Kh e] [(a,Blk.cells [.slf a,.v (SL f),iD c.gy] 60),(0,Blk.opq (bufO 5 c.gB.gx f))] [] (fun d h k=>∃ l,d=.tup []∧h=[(a,Blk.cells [.slf a,.v (SL l),iD r.gy] 60),(0,Blk.opq (bufO 5 r.gB.gx l))]∧k=[])
def HZ8 (g:(Kn)→(List Kj)→Option (Kn)):Prop:=∀ (c:Kn) (e:List Kj) (a:Nat) (f:Z3) (r:Kn) (h0:g c e=some r),CallsD Tryz.prog 67 [.ptr a 0,.lst 7 (e.map Kh) .no] [(a,Blk.cells [.slf a,.v (SL f),iD c.gy] 60),(0,Blk.opq (bufO 5 c.gB.gx f))] [] (fun d h k=>∃ l,d=.tup []∧h=[(a,Blk.cells [.slf a,.v (SL l),iD r.gy] 60),(0,Blk.opq (bufO 5 r.gB.gx l))]∧k=[])
theorem KiC (g0:(Kn)→(List Kj)→Option (Kn))(g1:(Kn)→(Kj)→Option (Kn))(q:(Kn)→(List Kj)→Option (Kn))(s:(Kn)→(List Kj)→Option (Kn))(t:(Kn)→(List Kj)→Option (Kn))(H:HZ6 g0)(y:HZ7 g1)(I:HZ8 q)(J:HZ8 s)(K:HZ6 t)(c e a f r)(h0:Kcl g0 g1 q s t c e=some r):CallsD Tryz.prog 21 [.ptr a 0,.lst 7 (e.map Kh) .no] [(a,Blk.cells [.slf a,.v (SL f),iD c.gy] 60),(0,Blk.opq (bufO 5 c.gB.gx f))] [] (fun d h k=>∃ l,d=.tup []∧h=[(a,Blk.cells [.slf a,.v (SL l),iD r.gy] 60),(0,Blk.opq (bufO 5 r.gB.gx l))]∧k=[]):=by
 refine PZ1 h0 Tryz.func21 fun C b=>?_;refine ZS ?_
 refine Zo ?_;refine ZF ?_;obtain ⟨u,w,x⟩:=Ka b;refine Kaf (Y:=Z3) (fun n=>(⟨[],[(0,Blk.opq (bufO 5 u.1 n)),(a,Blk.cells [.slf a,.v (SL n),iD u.2] 60)],[]⟩:S)) ?_ ?_
 ·clear b;have b:=KE w;refine Zy b fun L z A=>?_;refine KaO (Y:=Z3) z (fun m o=>(⟨[(4,.fn (.func 49) [.ptr a 0] []),(9,.lst 7 (e.map Kh) .no),(10,iD (e.length:Int)),(11,iD m.1)],[(0,Blk.opq (bufO 5 m.2.1 o)),(a,Blk.cells [.slf a,.v (SL o),iD m.2.2] 60)],[]⟩:S)) ?_ ?_
  ·skip
   exact XS
  intro G27 m o b;refine Zn ?_;refine cY b (fun b=>?_) fun b=>?_
  ·refine Z7 b fun p M b=>?_;refine p_eq (i:=13) rfl (Wk.of_eq (congrArg D.el (Kv p))) ?_;refine Wo ?_;refine Zq fun N=>?_
   refine pS2 (ds':=(CZ2 p .no .no .no)) ?_;refine Kb ?_;refine ZN ?_;refine W5 ?_;obtain ⟨B,E,b⟩:=Ka b
   refine KdG (y (⟨(⟨m.2.1⟩:K8),m.2.2⟩:Kn) p a o B E) rfl rfl rfl rfl rfl rfl rfl (WkL.cons (Wk.refl _) (WkL.cons (Wk.trans (Wk.agg (WkR.refl _)) (Wk.of_eq (Kv p).symm)) Wl)) ((KZ (j:=1) rfl).trans (List.Perm.cons _ ((KZ (j:=0) rfl).trans (List.Perm.cons _ Pf)))) Pf ?_;refine ZL fun O=>?_;refine Yf b ?_
   exact XS
  refine Zs ?_;obtain rfl:=K6 b;have b:=A
  exact W4 b
 intro P F;have b:=x;clear w x;refine retX.wkX F (fun n=>?_);obtain rfl:=Kf b;refine rP (t':=[]) [1,0] [] 2 wN lN ?_;exact ⟨n,rfl,rfl,rfl⟩
abbrev qZ17:ByteArray:=(ByteArray.mk #[125])
def Kcy (g0:(Kn)→(List Kj)→Option (Kn))(g1:(Kn)→(Kj)→Option (Kn))(b:(Kn)→(List Kj)→Option (Kn))(r:(Kn)→(List Kj)→Option (Kn))(s:(Kn)→(List Kj)→Option (Kn))(c:Kn)(a:Kj):Option (Kn):=
 ((Kd3 a).bind fun d=>(bif d.2 then ((Ka7 c d.1).bind fun f=>some f) else (Option.bind (α:=ByteArray) (bif (a.gj==(6:Int)) then some (ByteArray.mk #[105,102,32,40]) else some (ByteArray.mk #[119,104,105,108,101,32,40])) fun g=>((idx a.go (0:Int)).bind fun h=>((KbN h).bind fun i=>((catS g i).bind fun j=>((catS j (ByteArray.mk #[41,32,123])).bind fun k=>((Ka7 c k).bind fun l=>((b l a.gc).bind fun e=>(Option.bind (α:=Bool) (bif (a.gj==(6:Int)) then some (decide ((0:Int) < (a.gq.length:Int))) else some false) fun m=>(bif m then ((Ka7 e (ByteArray.mk #[125,32,101,108,115,101,32,123])).bind fun n=>((b n a.gq).bind fun o=>((Ka7 o qZ17).bind fun p=>some p))) else ((Ka7 e qZ17).bind fun q=>some q))))))))))))
theorem Kjh (g0:(Kn)→(List Kj)→Option (Kn))(g1:(Kn)→(Kj)→Option (Kn))(n:(Kn)→(List Kj)→Option (Kn))(o:(Kn)→(List Kj)→Option (Kn))(p:(Kn)→(List Kj)→Option (Kn))(ag:HZ6 g0)(ah:HZ7 g1)(q:HZ8 n)(ai:HZ8 o)(aj:HZ6 p)(e c b f r)(h0:Kcy g0 g1 n o p e c=some r):CallsD Tryz.prog 49 [.ptr b 0,Kh c] [(b,Blk.cells [.slf b,.v (SL f),iD e.gy] 60),(0,Blk.opq (bufO 5 e.gB.gx f))] [] (fun d h k=>∃ s,d=.tup []∧h=[(b,Blk.cells [.slf b,.v (SL s),iD r.gy] 60),(0,Blk.opq (bufO 5 r.gB.gx s))]∧k=[]):=by
 refine PZ1 h0 Tryz.func49 fun C a=>?_;refine XN fun j=>?_;refine Zr ?_;refine Kd ?_;refine W5 ?_;obtain ⟨t,E,a⟩:=Ka a
 refine K5 (KkV c t E) rfl rfl rfl rfl rfl (WkL.cons (Wk.trans (Wk.agg (WkR.refl _)) (Wk.of_eq (Kv c).symm)) Wl) ?_;rintro _ rfl;iterate 5 refine pu ?_
 refine KH ?_;refine Zv ?_;refine cY a (fun a=>?_) fun a=>?_
 ·refine ZM ?_;obtain ⟨F,G,a⟩:=Ka a;refine pG (Kck e t.1 b f F G) Wl Pf Pf ?_;refine ZL fun H=>?_;refine Yi ?_;obtain rfl:=Kf a;refine rP (t':=[]) [0,0] [] 2 wN lN ?_;exact ⟨H,rfl,rfl,rfl⟩
 refine Zm ?_;refine Zn ?_;refine Zd ?_;refine pL 2 ?_;refine Zv ?_;obtain ⟨I,u,w⟩:=Ka a;refine Kaf (Y:=Unit) (fun J=>(⟨[(0,.ptr b 0),(3,.ptr j 0),(6,tD I)],[(b,Blk.cells [.slf b,.v (SL f),iD e.gy] 60),(0,Blk.opq (bufO 5 e.gB.gx f)),(j,Blk.cells (CZ2 c .no .no .no) 98)],[]⟩:S)) ?_ ?_
 ·clear a;have a:=KE u;refine cY a (fun a=>?_) fun a=>?_
  ·refine ZN ?_;exact Yy a
  exact YH a
 intro ak K;have a:=w;clear u w;refine Zb K fun J=>?_;refine ZS ?_
 refine pL 2 ?_;refine ZX a fun L al a=>?_;refine p_eq (i:=23) rfl (Wk.of_eq (congrArg D.el (Ko L))) ?_;refine Y5 ?_;obtain ⟨am,M,a⟩:=Ka a;refine W3 M ?_;refine Z6 a fun an ao a=>?_;refine Z6 a fun N ap a=>?_
 obtain ⟨x,O,a⟩:=Ka a;refine pG (Kck e N b f x O) Wl Pf Pf ?_;refine ZL fun P=>?_;refine ZV ?_;refine pL 2 ?_;obtain ⟨g,Q,a⟩:=Ka a;refine pG (q x c.gc b P g Q) Wl Pf Pf ?_;refine ZL fun l=>?_;refine Zr ?_;refine ZA a fun R y z=>?_
 refine Kaf (Y:=Unit) (fun T=>(⟨[(0,.ptr b 0),(3,.ptr j 0),(41,.v (.bool R))],[(b,Blk.cells [.slf b,.v (SL l),iD g.gy] 60),(0,Blk.opq (bufO 5 g.gB.gx l)),(j,Blk.cells (CZ2 c .no .no .no) 98)],[]⟩:S)) ?_ ?_
 ·clear a;have a:=KE y;refine ZN ?_;refine pL 2 ?_;refine Zl ?_;refine KaH (i:=36) rfl (fun m=>?_) (fun m=>?_)
  ·replace a:=yes_t m a;refine pu ?_;refine pL 2 ?_;refine YL ?_;refine ZB ?_;exact Yy a
  replace a:=yes_f m a;iterate 4 refine pK ?_
  exact Xf a
 intro aq U;have a:=z;clear y z;refine Zb U fun T=>?_;refine cY a (fun a=>?_) fun a=>?_
 ·refine ZD a fun A V a=>?_;refine pG (Kck g (ByteArray.mk #[125,32,101,108,115,101,32,123]) b l A V) Wl Pf Pf ?_;refine ZL fun W=>?_;refine Kb ?_;refine ZU ?_;refine pL 2 ?_;obtain ⟨B,X,a⟩:=Ka a;refine pG (q A c.gq b W B X) Wl Pf Pf ?_;refine ZL fun Z=>?_;refine Kb ?_;refine ZN ?_;obtain ⟨aa,ab,a⟩:=Ka a;refine pG (Kck B qZ17 b Z aa ab) Wl Pf Pf ?_;refine ZL fun ac=>?_;refine KC ?_;obtain rfl:=Kf a
  refine rP (t':=[]) [0,0] [] 2 wN lN ?_;exact ⟨ac,rfl,rfl,rfl⟩
 refine Zm ?_;refine ZN ?_;obtain ⟨ad,ae,a⟩:=Ka a;refine pG (Kck g qZ17 b l ad ae) Wl Pf Pf ?_;refine ZL fun af=>?_;refine KC ?_;obtain rfl:=Kf a;refine rP (t':=[]) [0,0] [] 2 wN lN ?_;exact ⟨af,rfl,rfl,rfl⟩
def Kcm (g0:(Kn)→(List Kj)→Option (Kn))(g1:(Kn)→(Kj)→Option (Kn))(d:(Kn)→(List Kj)→Option (Kn))(e:(Kn)→(List Kj)→Option (Kn))(f:(Kn)→(List Kj)→Option (Kn))(a:Kn)(c:List Kj):Option (Kn):=
 ((g0 (⟨a.gB,(IntKind.i64.wrap (a.gy+(1:Int)))⟩:Kn) c).bind fun b=>some (⟨b.gB,(IntKind.i64.wrap (b.gy - (1:Int)))⟩:Kn))
theorem YE {R G:Prop}(h:R)(k:R→G:=by intro h;refine XA ?_;(iterate 3 refine pu ?_);exact h):G:=k h
theorem X9 {R G:Prop}(h:R)(k:R→G:=by intro h;refine ZW ?_;refine pL 0 ?_;(iterate 3 refine pu ?_);exact h):G:=k h
theorem KiD (g0:(Kn)→(List Kj)→Option (Kn))(g1:(Kn)→(Kj)→Option (Kn))(g:(Kn)→(List Kj)→Option (Kn))(i:(Kn)→(List Kj)→Option (Kn))(j:(Kn)→(List Kj)→Option (Kn))(o:HZ6 g0)(q:HZ7 g1)(s:HZ8 g)(t:HZ8 i)(u:HZ6 j)(b e a c r)(h0:Kcm g0 g1 g i j b e=some r):CallsD Tryz.prog 67 [.ptr a 0,.lst 7 (e.map Kh) .no] [(a,Blk.cells [.slf a,.v (SL c),iD b.gy] 60),(0,Blk.opq (bufO 5 b.gB.gx c))] [] (fun d h k=>∃ l,d=.tup []∧h=[(a,Blk.cells [.slf a,.v (SL l),iD r.gy] 60),(0,Blk.opq (bufO 5 r.gB.gx l))]∧k=[]):=by
 refine PZ1 h0 Tryz.func67 fun C f=>?_;refine YE ?_
 refine pS0 (ds':=[.slf a,.v (SL c),iD (IntKind.i64.wrap (b.gy+(1:Int)))]) ?_;refine ZV ?_;obtain ⟨m,p,f⟩:=Ka f;refine pG (o (⟨b.gB,(IntKind.i64.wrap (b.gy+(1:Int)))⟩:Kn) e a c m p) Wl Pf Pf ?_;refine ZL fun n=>?_;refine Kb ?_;refine X9 ?_
 refine pS0 (ds':=[.slf a,.v (SL n),iD (IntKind.i64.wrap (m.gy - (1:Int)))]) ?_;refine KC ?_;obtain rfl:=Kf f;refine rP (t':=[]) [0,0] [] 2 wN lN ?_;exact ⟨n,rfl,rfl,rfl⟩
def KcP (g0:(Kn)→(List Kj)→Option (Kn))(g1:(Kn)→(Kj)→Option (Kn))(d:(Kn)→(List Kj)→Option (Kn))(e:(Kn)→(List Kj)→Option (Kn))(f:(Kn)→(List Kj)→Option (Kn))(a:Kn)(c:List Kj):Option (Kn):=
 ((g0 (⟨a.gB,(IntKind.i64.wrap (a.gy+(1:Int)))⟩:Kn) c).bind fun b=>some (⟨b.gB,(IntKind.i64.wrap (b.gy - (1:Int)))⟩:Kn))
theorem KhR (g0:(Kn)→(List Kj)→Option (Kn))(g1:(Kn)→(Kj)→Option (Kn))(g:(Kn)→(List Kj)→Option (Kn))(i:(Kn)→(List Kj)→Option (Kn))(j:(Kn)→(List Kj)→Option (Kn))(o:HZ6 g0)(q:HZ7 g1)(s:HZ8 g)(t:HZ8 i)(u:HZ6 j)(b e a c r)(h0:KcP g0 g1 g i j b e=some r):CallsD Tryz.prog 67 [.ptr a 0,.lst 7 (e.map Kh) .no] [(a,Blk.cells [.slf a,.v (SL c),iD b.gy] 60),(0,Blk.opq (bufO 5 b.gB.gx c))] [] (fun d h k=>∃ l,d=.tup []∧h=[(a,Blk.cells [.slf a,.v (SL l),iD r.gy] 60),(0,Blk.opq (bufO 5 r.gB.gx l))]∧k=[]):=by
 refine PZ1 h0 Tryz.func67 fun C f=>?_;refine YE ?_
 refine pS0 (ds':=[.slf a,.v (SL c),iD (IntKind.i64.wrap (b.gy+(1:Int)))]) ?_;refine ZV ?_;obtain ⟨m,p,f⟩:=Ka f;refine pG (o (⟨b.gB,(IntKind.i64.wrap (b.gy+(1:Int)))⟩:Kn) e a c m p) Wl Pf Pf ?_;refine ZL fun n=>?_;refine Kb ?_;refine X9 ?_
 refine pS0 (ds':=[.slf a,.v (SL n),iD (IntKind.i64.wrap (m.gy - (1:Int)))]) ?_;refine KC ?_;obtain rfl:=Kf f;refine rP (t':=[]) [0,0] [] 2 wN lN ?_;exact ⟨n,rfl,rfl,rfl⟩
def KcQ (g0:(Kn)→(List Kj)→Option (Kn))(g1:(Kn)→(Kj)→Option (Kn))(g:(Kn)→(List Kj)→Option (Kn))(h:(Kn)→(List Kj)→Option (Kn))(i:(Kn)→(List Kj)→Option (Kn))(b:Kn)(c:List Kj):Option (Kn):=
 (Option.bind (α:=List UInt8×Int) (loopM (fun (a:Int×List UInt8×Int)=>(bif (decide (a.1 < (c.length:Int))) then ((idx c a.1).bind fun f=>((g1 (⟨(⟨a.2.1⟩:K8),a.2.2⟩:Kn) f).bind fun d=>some (.next ((IntKind.i64.wrap (a.1+(1:Int))),d.gB.gx,d.gy)))) else some (.done (a.2.1,a.2.2)))) ((0:Int),b.gB.gx,b.gy)) fun e=>some (⟨(⟨e.1⟩:K8),e.2⟩:Kn))
theorem KhS (g0:(Kn)→(List Kj)→Option (Kn))(g1:(Kn)→(Kj)→Option (Kn))(n:(Kn)→(List Kj)→Option (Kn))(o:(Kn)→(List Kj)→Option (Kn))(p:(Kn)→(List Kj)→Option (Kn))(F:HZ6 g0)(x:HZ7 g1)(G:HZ8 n)(H:HZ8 o)(I:HZ6 p)(m e b q r)(h0:KcQ g0 g1 n o p m e=some r):CallsD Tryz.prog 21 [.ptr b 0,.lst 7 (e.map Kh) .no] [(b,Blk.cells [.slf b,.v (SL q),iD m.gy] 60),(0,Blk.opq (bufO 5 m.gB.gx q))] [] (fun d h k=>∃ s,d=.tup []∧h=[(b,Blk.cells [.slf b,.v (SL s),iD r.gy] 60),(0,Blk.opq (bufO 5 r.gB.gx s))]∧k=[]):=by
 refine PZ1 h0 Tryz.func21 fun C a=>?_;refine ZS ?_
 refine Zo ?_;refine ZF ?_;obtain ⟨t,u,w⟩:=Ka a;refine Kaf (Y:=Z3) (fun f=>(⟨[],[(0,Blk.opq (bufO 5 t.1 f)),(b,Blk.cells [.slf b,.v (SL f),iD t.2] 60)],[]⟩:S)) ?_ ?_
 ·clear a;have a:=KE u;refine Zy a fun J y z=>?_;refine KaO (Y:=Z3) y (fun c g=>(⟨[(4,.fn (.func 49) [.ptr b 0] []),(9,.lst 7 (e.map Kh) .no),(10,iD (e.length:Int)),(11,iD c.1)],[(0,Blk.opq (bufO 5 c.2.1 g)),(b,Blk.cells [.slf b,.v (SL g),iD c.2.2] 60)],[]⟩:S)) ?_ ?_
  ·skip
   exact XS
  intro G27 c g a;refine Zn ?_;refine cY a (fun a=>?_) fun a=>?_
  ·refine Z7 a fun l K a=>?_;refine p_eq (i:=13) rfl (Wk.of_eq (congrArg D.el (Kv l))) ?_;refine Wo ?_;refine Zq fun L=>?_
   refine pS2 (ds':=(CZ2 l .no .no .no)) ?_;refine Kb ?_;refine ZN ?_;refine W5 ?_;obtain ⟨A,B,a⟩:=Ka a
   refine KdG (x (⟨(⟨c.2.1⟩:K8),c.2.2⟩:Kn) l b g A B) rfl rfl rfl rfl rfl rfl rfl (WkL.cons (Wk.refl _) (WkL.cons (Wk.trans (Wk.agg (WkR.refl _)) (Wk.of_eq (Kv l).symm)) Wl)) ((KZ (j:=1) rfl).trans (List.Perm.cons _ ((KZ (j:=0) rfl).trans (List.Perm.cons _ Pf)))) Pf ?_;refine ZL fun M=>?_;refine Yf a ?_
   exact XS
  refine Zs ?_;obtain rfl:=K6 a;have a:=z
  exact W4 a
 intro N E;have a:=w;clear u w;refine retX.wkX E (fun f=>?_);obtain rfl:=Kf a;refine rP (t':=[]) [1,0] [] 2 wN lN ?_;exact ⟨f,rfl,rfl,rfl⟩
def Kp:Nat→((Kn)→(List Kj)→Option (Kn))×((Kn)→(Kj)→Option (Kn))×((Kn)→(List Kj)→Option (Kn))×((Kn)→(List Kj)→Option (Kn))×((Kn)→(List Kj)→Option (Kn))
 | 0=>(fun _ _=>none,fun _ _=>none,fun _ _=>none,fun _ _=>none,fun _ _=>none)
 | n+1=>(Kcl ((Kp n).1) ((Kp n).2.1) ((Kp n).2.2.1) ((Kp n).2.2.2.1) ((Kp n).2.2.2.2),Kcy ((Kp n).1) ((Kp n).2.1) ((Kp n).2.2.1) ((Kp n).2.2.2.1) ((Kp n).2.2.2.2),Kcm ((Kp n).1) ((Kp n).2.1) ((Kp n).2.2.1) ((Kp n).2.2.2.1) ((Kp n).2.2.2.2),KcP ((Kp n).1) ((Kp n).2.1) ((Kp n).2.2.1) ((Kp n).2.2.2.1) ((Kp n).2.2.2.2),KcQ ((Kp n).1) ((Kp n).2.1) ((Kp n).2.2.1) ((Kp n).2.2.2.1) ((Kp n).2.2.2.2))
theorem KfR:∀ n,(∀ (b:Kn) (c:List Kj) (a:Nat) (e:Z3) (r:Kn) (h0:(Kp n).1 b c=some r),CallsD Tryz.prog 21 [.ptr a 0,.lst 7 (c.map Kh) .no] [(a,Blk.cells [.slf a,.v (SL e),iD b.gy] 60),(0,Blk.opq (bufO 5 b.gB.gx e))] [] (fun d h k=>∃ f,d=.tup []∧h=[(a,Blk.cells [.slf a,.v (SL f),iD r.gy] 60),(0,Blk.opq (bufO 5 r.gB.gx f))]∧k=[]))∧(∀ (b:Kn) (c:Kj) (a:Nat) (e:Z3) (r:Kn) (h0:(Kp n).2.1 b c=some r),CallsD Tryz.prog 49 [.ptr a 0,Kh c] [(a,Blk.cells [.slf a,.v (SL e),iD b.gy] 60),(0,Blk.opq (bufO 5 b.gB.gx e))] [] (fun d h k=>∃ f,d=.tup []∧h=[(a,Blk.cells [.slf a,.v (SL f),iD r.gy] 60),(0,Blk.opq (bufO 5 r.gB.gx f))]∧k=[]))∧(∀ (b:Kn) (c:List Kj) (a:Nat) (e:Z3) (r:Kn) (h0:(Kp n).2.2.1 b c=some r),CallsD Tryz.prog 67 [.ptr a 0,.lst 7 (c.map Kh) .no] [(a,Blk.cells [.slf a,.v (SL e),iD b.gy] 60),(0,Blk.opq (bufO 5 b.gB.gx e))] [] (fun d h k=>∃ f,d=.tup []∧h=[(a,Blk.cells [.slf a,.v (SL f),iD r.gy] 60),(0,Blk.opq (bufO 5 r.gB.gx f))]∧k=[]))∧(∀ (b:Kn) (c:List Kj) (a:Nat) (e:Z3) (r:Kn) (h0:(Kp n).2.2.2.1 b c=some r),CallsD Tryz.prog 67 [.ptr a 0,.lst 7 (c.map Kh) .no] [(a,Blk.cells [.slf a,.v (SL e),iD b.gy] 60),(0,Blk.opq (bufO 5 b.gB.gx e))] [] (fun d h k=>∃ f,d=.tup []∧h=[(a,Blk.cells [.slf a,.v (SL f),iD r.gy] 60),(0,Blk.opq (bufO 5 r.gB.gx f))]∧k=[]))∧(∀ (b:Kn) (c:List Kj) (a:Nat) (e:Z3) (r:Kn) (h0:(Kp n).2.2.2.2 b c=some r),CallsD Tryz.prog 21 [.ptr a 0,.lst 7 (c.map Kh) .no] [(a,Blk.cells [.slf a,.v (SL e),iD b.gy] 60),(0,Blk.opq (bufO 5 b.gB.gx e))] [] (fun d h k=>∃ f,d=.tup []∧h=[(a,Blk.cells [.slf a,.v (SL f),iD r.gy] 60),(0,Blk.opq (bufO 5 r.gB.gx f))]∧k=[]))
 | 0=>⟨(fun _ _ _ _ _ h0=>by cases h0),(fun _ _ _ _ _ h0=>by cases h0),(fun _ _ _ _ _ h0=>by cases h0),(fun _ _ _ _ _ h0=>by cases h0),(fun _ _ _ _ _ h0=>by cases h0)⟩
 |
  n+1=>by
  have ih:=KfR n
  exact ⟨KiC ((Kp n).1) ((Kp n).2.1) ((Kp n).2.2.1) ((Kp n).2.2.2.1) ((Kp n).2.2.2.2) (ih.1) (ih.2.1) (ih.2.2.1) (ih.2.2.2.1) (ih.2.2.2.2),Kjh ((Kp n).1) ((Kp n).2.1) ((Kp n).2.2.1) ((Kp n).2.2.2.1) ((Kp n).2.2.2.2) (ih.1) (ih.2.1) (ih.2.2.1) (ih.2.2.2.1) (ih.2.2.2.2),KiD ((Kp n).1) ((Kp n).2.1) ((Kp n).2.2.1) ((Kp n).2.2.2.1) ((Kp n).2.2.2.2) (ih.1) (ih.2.1) (ih.2.2.1) (ih.2.2.2.1) (ih.2.2.2.2),KhR ((Kp n).1) ((Kp n).2.1) ((Kp n).2.2.1) ((Kp n).2.2.2.1) ((Kp n).2.2.2.2) (ih.1) (ih.2.1) (ih.2.2.1) (ih.2.2.2.1) (ih.2.2.2.2),KhS ((Kp n).1) ((Kp n).2.1) ((Kp n).2.2.1) ((Kp n).2.2.2.1) ((Kp n).2.2.2.2) (ih.1) (ih.2.1) (ih.2.2.1) (ih.2.2.2.1) (ih.2.2.2.2)⟩
theorem KfS:∀ n,(∀ (a:Kn) (b:List Kj),Le ((Kp n).1 a b) ((Kp (n+1)).1 a b))∧(∀ (a:Kn) (b:Kj),Le ((Kp n).2.1 a b) ((Kp (n+1)).2.1 a b))∧(∀ (a:Kn) (b:List Kj),Le ((Kp n).2.2.1 a b) ((Kp (n+1)).2.2.1 a b))∧(∀ (a:Kn) (b:List Kj),Le ((Kp n).2.2.2.1 a b) ((Kp (n+1)).2.2.2.1 a b))∧(∀ (a:Kn) (b:List Kj),Le ((Kp n).2.2.2.2 a b) ((Kp (n+1)).2.2.2.2 a b))
 | 0=>⟨fun _ _=>Le.none _,fun _ _=>Le.none _,fun _ _=>Le.none _,fun _ _=>Le.none _,fun _ _=>Le.none _⟩
 |
  n+1=>by
  have ih:=KfS n
  exact ⟨fun a b=>by show Le (Kcl ((Kp n).1) ((Kp n).2.1) ((Kp n).2.2.1) ((Kp n).2.2.2.1) ((Kp n).2.2.2.2) a b) (Kcl ((Kp (n+1)).1) ((Kp (n+1)).2.1) ((Kp (n+1)).2.2.1) ((Kp (n+1)).2.2.2.1) ((Kp (n+1)).2.2.2.2) a b);revert ih;generalize Kp n=G0;generalize Kp (n+1)=G1;intro ih;unfold Kcl;repeat (first|with_reducible exact Le.refl _|with_reducible exact ih.1 _ _|with_reducible exact ih.2.1 _ _|with_reducible exact ih.2.2.1 _ _|with_reducible exact ih.2.2.2.1 _ _|with_reducible exact ih.2.2.2.2 _ _|with_reducible assumption|(refine Le.bind ?_ (fun _=>?_))|(refine Le.cond ?_ ?_)|(refine Le.loop (fun _=>?_))|(refine Le.elim (fun _=>?_) (fun _=>?_))),fun a b=>by show Le (Kcy ((Kp n).1) ((Kp n).2.1) ((Kp n).2.2.1) ((Kp n).2.2.2.1) ((Kp n).2.2.2.2) a b) (Kcy ((Kp (n+1)).1) ((Kp (n+1)).2.1) ((Kp (n+1)).2.2.1) ((Kp (n+1)).2.2.2.1) ((Kp (n+1)).2.2.2.2) a b);revert ih;generalize Kp n=G0;generalize Kp (n+1)=G1;intro ih;unfold Kcy;repeat (first|with_reducible exact Le.refl _|with_reducible exact ih.1 _ _|with_reducible exact ih.2.1 _ _|with_reducible exact ih.2.2.1 _ _|with_reducible exact ih.2.2.2.1 _ _|with_reducible exact ih.2.2.2.2 _ _|with_reducible assumption|(refine Le.bind ?_ (fun _=>?_))|(refine Le.cond ?_ ?_)|(refine Le.loop (fun _=>?_))|(refine Le.elim (fun _=>?_) (fun _=>?_))),fun a b=>by show Le (Kcm ((Kp n).1) ((Kp n).2.1) ((Kp n).2.2.1) ((Kp n).2.2.2.1) ((Kp n).2.2.2.2) a b) (Kcm ((Kp (n+1)).1) ((Kp (n+1)).2.1) ((Kp (n+1)).2.2.1) ((Kp (n+1)).2.2.2.1) ((Kp (n+1)).2.2.2.2) a b);revert ih;generalize Kp n=G0;generalize Kp (n+1)=G1;intro ih;unfold Kcm;repeat (first|with_reducible exact Le.refl _|with_reducible exact ih.1 _ _|with_reducible exact ih.2.1 _ _|with_reducible exact ih.2.2.1 _ _|with_reducible exact ih.2.2.2.1 _ _|with_reducible exact ih.2.2.2.2 _ _|with_reducible assumption|(refine Le.bind ?_ (fun _=>?_))|(refine Le.cond ?_ ?_)|(refine Le.loop (fun _=>?_))|(refine Le.elim (fun _=>?_) (fun _=>?_))),fun a b=>by show Le (KcP ((Kp n).1) ((Kp n).2.1) ((Kp n).2.2.1) ((Kp n).2.2.2.1) ((Kp n).2.2.2.2) a b) (KcP ((Kp (n+1)).1) ((Kp (n+1)).2.1) ((Kp (n+1)).2.2.1) ((Kp (n+1)).2.2.2.1) ((Kp (n+1)).2.2.2.2) a b);revert ih;generalize Kp n=G0;generalize Kp (n+1)=G1;intro ih;unfold KcP;repeat (first|with_reducible exact Le.refl _|with_reducible exact ih.1 _ _|with_reducible exact ih.2.1 _ _|with_reducible exact ih.2.2.1 _ _|with_reducible exact ih.2.2.2.1 _ _|with_reducible exact ih.2.2.2.2 _ _|with_reducible assumption|(refine Le.bind ?_ (fun _=>?_))|(refine Le.cond ?_ ?_)|(refine Le.loop (fun _=>?_))|(refine Le.elim (fun _=>?_) (fun _=>?_))),fun a b=>by show Le (KcQ ((Kp n).1) ((Kp n).2.1) ((Kp n).2.2.1) ((Kp n).2.2.2.1) ((Kp n).2.2.2.2) a b) (KcQ ((Kp (n+1)).1) ((Kp (n+1)).2.1) ((Kp (n+1)).2.2.1) ((Kp (n+1)).2.2.2.1) ((Kp (n+1)).2.2.2.2) a b);revert ih;generalize Kp n=G0;generalize Kp (n+1)=G1;intro ih;unfold KcQ;repeat (first|with_reducible exact Le.refl _|with_reducible exact ih.1 _ _|with_reducible exact ih.2.1 _ _|with_reducible exact ih.2.2.1 _ _|with_reducible exact ih.2.2.2.1 _ _|with_reducible exact ih.2.2.2.2 _ _|with_reducible assumption|(refine Le.bind ?_ (fun _=>?_))|(refine Le.cond ?_ ?_)|(refine Le.loop (fun _=>?_))|(refine Le.elim (fun _=>?_) (fun _=>?_)))⟩
def KeI (a:Kn)(b:List Kj):Option (Kn):=anyN fun n=>(Kp n).1 a b
theorem KjA (a:Kn)(b:List Kj){r:Kn}(n:Nat)(h:(Kp n).1 a b=some r):KeI a b=some r:=KdY (fun m=>(KfS m).1 a b) h
theorem KjB (b c a e r)(h0:KeI b c=some r):CallsD Tryz.prog 21 [.ptr a 0,.lst 7 (c.map Kh) .no] [(a,Blk.cells [.slf a,.v (SL e),iD b.gy] 60),(0,Blk.opq (bufO 5 b.gB.gx e))] [] (fun d h k=>∃ f,d=.tup []∧h=[(a,Blk.cells [.slf a,.v (SL f),iD r.gy] 60),(0,Blk.opq (bufO 5 r.gB.gx f))]∧k=[]):=
 let ⟨n,hn⟩:=Kc4 h0;(KfR n).1 b c a e r hn
end
section
open Go
set_option maxRecDepth 100000
def Kfo (a0:KG):Option (ByteArray):=
 ((catS (ByteArray.mk #[105,110,116,32]) a0.ga).bind fun g=>((catS g qZ8).bind fun h=>((Kdz a0.gf).bind fun i=>((catS h i).bind fun j=>((catS j (ByteArray.mk #[41,32,123])).bind fun k=>((Ka7 (⟨(⟨[]⟩:K8),(0:Int)⟩:Kn) k).bind fun b=>(Option.bind (α:=List UInt8×Int) (loopM (fun (a:Int×List UInt8×Int)=>(bif (decide (a.1 < (a0.gh.length:Int))) then ((idx a0.gh a.1).bind fun l=>((KdZ l).bind fun m=>((catS m qZ22).bind fun n=>((Ka7 (⟨(⟨a.2.1⟩:K8),a.2.2⟩:Kn) n).bind fun c=>some (.next ((IntKind.i64.wrap (a.1+(1:Int))),c.gB.gx,c.gy)))))) else some (.done (a.2.1,a.2.2)))) ((0:Int),b.gB.gx,(IntKind.i64.wrap (b.gy+(1:Int))))) fun d=>((KeI (⟨(⟨d.1⟩:K8),d.2⟩:Kn) a0.gp).bind fun e=>((Ka7 (⟨e.gB,(IntKind.i64.wrap (e.gy - (1:Int)))⟩:Kn) qZ17).bind fun f=>((need (strOK f)).bind fun o=>some (strB f).1))))))))))
theorem Kjv (a0 r)(h0:Kfo a0=some r):CallsD Tryz.prog 7 [KA a0] [] [] (fun d h k=>d=tD r∧h=[]∧k=[]):=by
 refine PZ1 h0 Tryz.func7 fun C a=>?_;refine ZH fun e=>?_;refine YI ?_;refine p_buildV (r:=[.v (.pointer none),.v (.slice none 0 0),iD (0:Int)]) htab rfl rfl rfl rfl rfl rfl rfl rfl rfl ?_;refine YJ fun b=>?_;refine Zz ?_;obtain ⟨R,u,a⟩:=Ka a;obtain ⟨T,w,a⟩:=Ka a;obtain ⟨x,y,a⟩:=Ka a;obtain ⟨U,z,a⟩:=Ka a;obtain ⟨A,B,a⟩:=Ka a
 refine Kaj 10 [] [[],[],[1],[1],[1],[],[5],[5,6],[1,5,6,7],[1,5,6,7]] [0,1,5,6,7] [[],[],[1],[1,2],[1,2,3],[],[5],[5,6],[1,2,3,4,5,6,7],[1,2,3,4,5,6,7,8],[0,1,2,3,4,5,6,7,8,9]] (by kernel_rfl) (by kernel_rfl) (by kernel_rfl) (by rfl) (by rfl) (by kernel_rfl) ?_;iterate 5 apply Exists.intro
 intro bs;refine zep ?_;refine YZ ?_;refine Yr u ?_;refine Yr w ?_;refine YY ?_;refine Kcg rfl rfl (KiB a0.gf x y) rfl rfl Wl rfl rfl rfl rfl rfl rfl ?_;refine Yr z ?_;refine Yr B ?_;refine ZC ?_
 refine o_blk 1 rfl (ds':=[.slf b,.v (.slice none 0 0),iD (0:Int)]) (WkR.cons (WkC.slf0) rfl (rC (rC WkR.nil))) rfl ?_;refine o_bufN (off:=1) 5 1 rfl rfl ?_;obtain ⟨o,D,a⟩:=Ka a;refine pG (Kck (⟨(⟨[]⟩:K8),(0:Int)⟩:Kn) A b (none,0,0) o D) Wl ((KZ (j:=2) rfl).trans (List.Perm.cons _ ((KZ (j:=0) rfl).trans (List.Perm.cons _ Pf)))) Pf ?_;refine ZL fun p=>?_;refine Yt ?_
 refine pL 0 ?_;iterate 3 refine pu ?_
 refine pS0 (ds':=[.slf b,.v (SL p),iD (IntKind.i64.wrap (o.gy+(1:Int)))]) ?_;refine Zr ?_;refine Zd ?_;refine pL 2 ?_;refine ZF ?_;obtain ⟨f,q,s⟩:=Ka a;refine Kaf (Y:=Z3) (fun g=>(⟨[(1,.ptr e 0),(3,.ptr b 0)],[(0,Blk.opq (bufO 5 f.1 g)),(b,Blk.cells [.slf b,.v (SL g),iD f.2] 60),(e,Blk.cells (CZ3 a0 .no .no .no) 40)],[]⟩:S)) ?_ ?_
 ·clear a;have a:=KE q;refine Zy a fun V E F=>?_;refine KaO (Y:=Z3) E (fun c i=>(⟨[(1,.ptr e 0),(3,.ptr b 0),(27,.lst 2 (a0.gh.map Ku) .no),(28,iD (a0.gh.length:Int)),(29,iD c.1)],[(0,Blk.opq (bufO 5 c.2.1 i)),(b,Blk.cells [.slf b,.v (SL i),iD c.2.2] 60),(e,Blk.cells (CZ3 a0 .no .no .no) 40)],[]⟩:S)) ?_ ?_
  ·skip
   exact WkX.of p (WkS.perm (wC (wC (wC (wC (wC wN))))) ((KZ (j:=1) rfl).trans (List.Perm.cons _ ((KZ (j:=0) rfl).trans (List.Perm.cons _ ((KZ (j:=0) rfl).trans (List.Perm.cons _ Pf)))))) Pf)
  intro G45 c i a;refine Zn ?_;refine cY a (fun a=>?_) fun a=>?_
  ·refine Z7 a fun l W a=>?_;refine X1 fun X=>?_;refine pS3 (ds':=[tD l.ga,.v (.bool l.gz)]) ?_;refine Kb ?_;refine ZN ?_;refine Kaa (d:=Ku l) 3 htab rfl rfl rfl rfl rfl rfl rfl rfl ?_;obtain ⟨G,H,a⟩:=Ka a;refine K5 (Kg7 l G H) rfl rfl rfl rfl rfl Wl ?_;rintro _ rfl
   refine Z6 a fun I Z a=>?_;obtain ⟨J,K,a⟩:=Ka a;refine pG (Kck (⟨(⟨c.2.1⟩:K8),c.2.2⟩:Kn) I b i J K) Wl ((KZ (j:=1) rfl).trans (List.Perm.cons _ ((KZ (j:=0) rfl).trans (List.Perm.cons _ Pf)))) Pf ?_;refine ZL fun L=>?_;refine Yf a ?_
   exact WkX.of L (WkS.perm (wC (wC (wC (wC (wC wN))))) ((KZ (j:=1) rfl).trans (List.Perm.cons _ ((KZ (j:=0) rfl).trans (List.Perm.cons _ ((KZ (j:=0) rfl).trans (List.Perm.cons _ Pf)))))) Pf)
  refine Zs ?_;obtain rfl:=K6 a;have a:=F
  exact Y9 a
 intro aa M;have a:=s;clear q s;refine Zb M fun g=>?_;refine ZM ?_;refine pL 2 ?_;obtain ⟨m,N,a⟩:=Ka a;refine pG (KjB (⟨(⟨f.1⟩:K8),f.2⟩:Kn) a0.gp b g m N) Wl ((KZ (j:=1) rfl).trans (List.Perm.cons _ ((KZ (j:=0) rfl).trans (List.Perm.cons _ Pf)))) Pf ?_;refine ZL fun t=>?_;refine Yt ?_
 refine pL 0 ?_;iterate 3 refine pu ?_
 refine pS0 (ds':=[.slf b,.v (SL t),iD (IntKind.i64.wrap (m.gy - (1:Int)))]) ?_;refine Zo ?_;obtain ⟨n,O,a⟩:=Ka a;refine pG (Kck (⟨m.gB,(IntKind.i64.wrap (m.gy - (1:Int)))⟩:Kn) qZ17 b t n O) Wl Pf Pf ?_;refine ZL fun P=>?_;refine Yt ?_
 obtain ⟨ab,Q,a⟩:=Ka a;refine pG (strB_ok n b P (KdX Q)) Wl Pf Pf ?_;refine Zi ?_;refine Zu ?_;obtain rfl:=Kf a;refine rP (t':=[(2,tD ((strB n).1))]) [] [] 0 (wC wN) (lT lN) ?_;exact Za
def Ke4 (a0:KT):Option (ByteArray):=
 (bif a0.gz then ((catS (ByteArray.mk #[105,110,116,32,42]) a0.ga).bind fun a=>((catS a (ByteArray.mk #[59,10])).bind fun b=>some b)) else (bif (decide ((0:Int) < a0.gA)) then ((catS (ByteArray.mk #[105,110,116,32]) a0.ga).bind fun c=>((catS c qZ20).bind fun d=>((need (Kgo a0.gA)).bind fun i=>((catS d (itoaB a0.gA)).bind fun e=>((catS e (ByteArray.mk #[93,59,10])).bind fun f=>some f))))) else ((catS (ByteArray.mk #[105,110,116,32]) a0.ga).bind fun g=>((catS g (ByteArray.mk #[59,10])).bind fun h=>some h))))
theorem KkW (a0 r)(h0:Ke4 a0=some r):CallsD Tryz.prog 29 [Kt a0] [] [] (fun d h k=>d=tD r∧h=[]∧k=[]):=by
 refine PZ1 h0 Tryz.func29 fun C a=>?_;refine ZH fun f=>?_;refine Zz ?_;refine KJ ?_;refine ZR ?_;refine Zv ?_;refine cY a (fun a=>?_) fun a=>?_
 ·refine ZR ?_;refine Z6 a fun g i a=>?_;exact Xl a
 refine ZR ?_;refine pu ?_;refine Zv ?_;refine cY a (fun a=>?_) fun a=>?_
 ·refine ZA a fun j b a=>?_;obtain ⟨l,c,a⟩:=Ka a;obtain ⟨m,e,a⟩:=Ka a;refine Kaj 7 [] [[],[0],[0],[0],[],[4],[4]] [0,4,6] [[],[0],[0,1],[0,1,2],[],[4],[4,5],[0,1,2,3,4,5,6],[0,1,2,3,4,5,6,7],[0,1,2,3,4,5,6,7,8]] (by kernel_rfl) (by kernel_rfl) (by kernel_rfl) (by rfl) (by rfl) (by kernel_rfl) ?_;iterate 3 apply Exists.intro
  intro bs;refine YZ ?_;refine Yr b ?_;refine Yr c ?_;refine YZ ?_;refine Kcg rfl rfl (itoaB_ok a0.gA (KdX e)) rfl rfl Wl rfl rfl rfl rfl rfl rfl ?_;refine ZC ?_;refine Z6 a fun n o a=>?_;exact Xl a
 refine ZK ?_;refine ZR ?_;refine Z6 a fun p q a=>?_;refine Z6 a fun s t a=>?_;refine Zu ?_;exact Wy a
end
end Go.Proofs.YtbbeiinofainlaaGreatDoor.Ab
end
