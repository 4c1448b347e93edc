/- The texts that storePrintsCard_holds leans on, part 6. -/
import Derived.Test.YtbbeiinofainlaaGreatDoorVg95
set_option linter.all false
set_option maxRecDepth 100000
set_option maxHeartbeats 80000000
noncomputable section
namespace Go.Proofs.YtbbeiinofainlaaGreatDoor.Ab
section
open Go
abbrev GL:=List Nat
def isG (rl:GL)(e:Nat):Bool:=rl.contains e
def gvs {β:Type}(rl:GL)(S:Nat→Bool)(gs h0:Nat→List β):List β:=rl.flatMap fun e=>bif S e then gs e else h0 e
theorem KfX {β:Type}{S S':Nat→Bool}{gs gs' h0:Nat→List β}:∀ {rl:GL},(∀ e,isG rl e=true→S e=S' e∧(S e=true→gs e=gs' e))→gvs rl S gs h0=gvs rl S' gs' h0
 | [],_=>rfl
 |
  e::rl,h=>by
  have h1:=h e (by simp [isG]);have h2:=KfX (rl:=rl) (S:=S) (S':=S') (gs:=gs) (gs':=gs') (h0:=h0) fun x hx=>h x (by
   simp only [isG,List.contains_cons,Bool.or_eq_true] at hx ⊢;exact .inr hx)
  unfold gvs at h2 ⊢;simp only [List.flatMap_cons,h1.1,h2];cases hs:S' e with
  | true=>rw [h1.2 (h1.1.trans hs)]
  | false=>rfl
theorem gvs_none {β:Type}{gs h0:Nat→List β}{rl:GL}:gvs rl (fun _=>false) gs h0=rl.flatMap h0:=rfl
theorem gvs_all {β:Type}{S:Nat→Bool}{gs h0:Nat→List β}:∀ {rl:GL},(∀ e,isG rl e=true→S e=true)→gvs rl S gs h0=rl.flatMap gs
 | [],_=>rfl
 |
  e::rl,h=>by
  have h2:=gvs_all (rl:=rl) (S:=S) (gs:=gs) (h0:=h0) fun x hx=>h x (by simp only [isG,List.contains_cons,Bool.or_eq_true] at hx ⊢;exact .inr hx)
  unfold gvs at h2 ⊢;simp only [List.flatMap_cons,h2,h e (by simp [isG]),cond_true]
theorem XV {G:Prop}(k:G:=by exact List.Perm.append_right _ List.perm_append_comm):G:=k
theorem gvs_new {β:Type}{S:Nat→Bool}{gs h0:Nat→List β}{i:Nat}(hS:S i=false):∀ {rl:GL},i∈rl→rl.Nodup →
  ∃ R,(gvs rl S gs h0).Perm (h0 i++R)∧∀ x,(gvs rl (Jx.upd S i true) (fun e=>if e=i then x else gs e) h0).Perm (x++R)
 | [],h,_=>by cases h
 |
  e::rl,h,hn=>by
  rw [List.nodup_cons] at hn;by_cases he:e=i
  ·subst he;have hrest:∀ x,gvs rl (Jx.upd S e true) (fun e'=>if e'=e then x else gs e') h0=gvs rl S gs h0:=fun x=>KfX fun y hy=>by
    have:y ≠ e:=fun q=>by
     subst q;exact hn.1 (by simpa [isG] using hy)
    exact ⟨Jx.upd_ne _ _ this,fun _=>by rw [if_neg this]⟩
   refine ⟨gvs rl S gs h0,?_,fun x=>?_⟩
   ·unfold gvs;simp only [List.flatMap_cons,hS,cond_false];exact List.Perm.refl _
   have:=hrest x;unfold gvs at this ⊢;simp only [List.flatMap_cons,Jx.upd_same,cond_true,if_true];rw [this]
  obtain ⟨R,h1,h2⟩:=gvs_new (gs:=gs) (h0:=h0) hS (rl:=rl) (by
   rcases List.mem_cons.1 h with h1|h1
   ·exact absurd h1.symm he
   exact h1) hn.2
  refine ⟨(bif S e then gs e else h0 e)++R,?_,fun x=>?_⟩
  ·unfold gvs at h1 ⊢;simp only [List.flatMap_cons];refine (List.Perm.append_left _ h1).trans ?_;rw [← List.append_assoc,← List.append_assoc];exact XV
  have a:=h2 x;unfold gvs at a ⊢;simp only [List.flatMap_cons,Jx.upd_ne _ _ he,if_neg he];refine (List.Perm.append_left _ a).trans ?_;rw [← List.append_assoc,← List.append_assoc];exact XV
abbrev CL:=List (Nat×Nat)
def isC (cl:CL)(i:Nat):Bool:=cl.any fun p=>p.2==i
def gone (cl:CL)(S:Nat→Bool)(e:Nat):Bool:=cl.any fun p=>p.1==e && S p.2
theorem gone_upd {cl:CL}{S:Nat→Bool}{i e:Nat}(h:isC cl i=false):gone cl (Jx.upd S i true) e=gone cl S e:=by
 unfold gone isC at *;induction cl with
 | nil=>rfl
 |
  cons p cl ih=>
  simp only [List.any_cons,Bool.or_eq_false_iff,beq_eq_false_iff_ne] at h;simp only [List.any_cons,ih h.2,Jx.upd_ne _ _ h.1]
def CC (cl:CL)(S:Nat→Bool):Prop:=∀ p∈cl,S p.2=true→S p.1=true
theorem CC.up {cl:CL}{S:Nat→Bool}{i:Nat}(h:CC cl S)(hi:∀ p∈cl,p.2=i→S p.1=true):CC cl (Jx.upd S i true):=by
 intro p hp;have up:∀ j,S j=true→Jx.upd S i true j=true:=fun j hj=>by
  by_cases q:j=i
  ·subst q;exact Jx.upd_same _ _ _
  rw [Jx.upd_ne _ _ q];exact hj
 by_cases q:p.2=i
 ·exact fun _=>up _ (hi p hp q)
 rw [Jx.upd_ne _ _ q];exact fun h2=>up _ (h p hp h2)
theorem CC.keep {cl:CL}{S:Nat→Bool}{i:Nat}(h:CC cl S)(hi:isC cl i=false):CC cl (Jx.upd S i true):=h.up fun p hp q=>by
 unfold isC at hi;rw [List.any_eq_false] at hi;exact absurd (by simpa using q) (hi p hp)
theorem CC.last {cl:CL}{S:Nat→Bool}{i:Nat}(h:CC cl S)(hi:S i=false):gone cl S i=false:=by
 unfold gone;rw [List.any_eq_false];intro p hp;simp only [Bool.and_eq_true,beq_iff_eq,not_and,Bool.not_eq_true];intro q;cases e:S p.2 with
 | false=>rfl
 | true=>have:=h p hp e;rw [q,hi] at this;cases this
def GS (cl:CL)(G:Nat→Value→List (Nat×Blk)→List (Nat×Value)→Prop)(S:Nat→Bool)(e:Nat)(v:Value)(hb:List (Nat×Blk))(kb:List (Nat×Value)):Prop:=bif gone cl S e then hb=[]∧kb=[] else G e v hb kb
theorem GS.keep {cl:CL}{G:Nat→Value→List (Nat×Blk)→List (Nat×Value)→Prop}{S:Nat→Bool}{i e:Nat}{v:Value}{hb:List (Nat×Blk)}{kb:List (Nat×Value)}(h:isC cl i=false)(g:GS cl G S e v hb kb):GS cl G (Jx.upd S i true) e v hb kb:=by
 unfold GS at *;rw [gone_upd h];exact g
def dG (vl:GL)(e:Nat)(d:D)(v:Value):D:=bif isG vl e then .v v else d
theorem dG_no {vl:GL}{e:Nat}{d:D}{v:Value}(h:isG vl e=false):dG vl e d v=d:=by unfold dG;rw [h];rfl
theorem dG_yes {vl:GL}{e:Nat}{d:D}{v:Value}(h:isG vl e=true):dG vl e d v=.v v:=by unfold dG;rw [h];rfl
section
variable (P : Program) (C : Ctx) (N : Nat) (l : List Oper) (m : Nat) (De : Nat → D) (al : AL) (rl vl : GL) (cl : CL) (G : Nat → Value → List (Nat × Blk) → List (Nat × Value) → Prop) (h0 : Nat → List (Nat × Blk)) (k0 : Nat → List (Nat × Value)) (pre : List (List Nat)) (ev : List Nat) (h : List (Nat × Blk)) (k : List (Nat × Value)) (Q : Exit → S → Prop)
def Cg (H0:Hp)(S:Nat→Bool)(vals:Nat→Value)(w:World):Prop:=
 ∃ H gs ks,H0.le H∧Core C H (h++(Kap al S vals++gvs rl S gs h0)) (k++gvs rl S ks k0) w∧(∀ e,S e=true→isG rl e=true→GS cl G S e (vals e) (gs e) (ks e))∧(∀ e,S e=true→ev.contains e=true→(isAl al e=true→vals e=.pointer (some ⟨blk (vals e),0,none⟩))∧(isAl al e=false→Rep H (dG vl e (De e) (vals e)) (vals e)))∧CC cl S
def dEg (bs:Nat→Value)(e:Nat):D:=bif isAl al e then .ptr (blk (bs e)) 0 else dG vl e (De e) (bs e)
def TOKg (H0:Hp)(bs:Nat→Value)(vals:Nat→Value)(te:TE)(a:Act):Prop:=
 ∀ j d o,look3 te j=some (d,o)→∃ v,a.tmps[j]? = some v∧(o=none→∀ H,H0.le H→Rep H d v)∧∀ e,o=some e→v=vals e∧d=dEg De al vl bs e∧ev.contains e=true
def finG (H0:Hp)(vals:Nat→Value)(a:Act):Prop:=∀ S w,(∀ i,ev.contains i=true→S i=true)→Cg C De al rl vl cl G h0 k0 ev h k H0 S vals w→wpList P l.toArray (QD C N Q) (l.drop m) a w
def Zg (bs:Nat→Value)(i:Nat)(rest:List Oper)(te:TE):Prop:=
 ∀
  H0 vals a,(∀ e,bs e=vals e)→TOKg De al vl ev H0 bs vals te a→a.tmps.size=N→a.defers=[] →
  Jx.Lx P l.toArray (Cg C De al rl vl cl G h0 k0 ev h k H0) (fun i=>pre.getD i []) (fun i=>ev.contains i) vals (finG P C N l m De al rl vl cl G h0 k0 ev h k Q H0 vals) i rest a
end
section
variable {P : Program} {C : Ctx} {N : Nat} {l : List Oper} {m : Nat} {De : Nat → D} {al : AL} {rl vl : GL} {cl : CL} {G : Nat → Value → List (Nat × Blk) → List (Nat × Value) → Prop} {h0 : Nat → List (Nat × Blk)} {k0 : Nat → List (Nat × Value)} {pre : List (List Nat)} {ev : List Nat} {h : List (Nat × Blk)} {k : List (Nat × Value)} {Q : Exit → S → Prop} {tab : List (Option TI)} {bs : Nat → Value} {i : Nat} {o : Oper} {rest : List Oper} {te : TE}
theorem KgH {H0 H:Hp}{vals:Nat→Value}{a:Act}{p:List Nat}(hbs:∀ e,bs e=vals e)(kt:TOKg De al vl ev H0 bs vals te a)(hle:H0.le H)
  (hev:∀ e,p.contains e=true→ev.contains e=true→(isAl al e=true→vals e=.pointer (some ⟨blk (vals e),0,none⟩))∧(isAl al e=false→Rep H (dG vl e (De e) (vals e)) (vals e))):TOK H (vis p te) a:=by
 obtain rfl:bs=vals:=funext hbs;intro j d e;obtain ⟨d',o,h1,h2⟩:=Khp e;obtain ⟨v,f,g,n⟩:=kt j d' o h1;refine ⟨v,f,?_⟩;rcases h2 with ⟨rfl,rfl⟩|⟨b,rfl,hp,rfl⟩|rfl
 ·exact g rfl H hle
 ·obtain ⟨rfl,rfl,q⟩:=n b rfl;have c:=hev b hp q;unfold dEg;cases ha:isAl al b with
  | true=>simp only [cond_true];rw [c.1 ha];exact Kbi (by simp [RepC,blk]) rfl rfl
  | false=>simp only [cond_false];exact c.2 ha
 exact ⟨by simp [RepC],by cases v<;>rfl⟩
theorem TOKg.put {H0:Hp}{vals:Nat→Value}{a:Act}(kt:TOKg De al vl ev H0 bs vals te a){j:Nat}{d:D}{o:Option Nat}{v:Value}(hj:j < a.tmps.size)(h1:o=none→∀ H,H0.le H→Rep H d v)(h2:∀ e,o=some e→v=vals e∧d=dEg De al vl bs e∧ev.contains e=true) :
  TOKg De al vl ev H0 bs vals ((j,d,o)::te) (a.put (some j) v):=by
 intro j' d' o' e;simp only [look3] at e;simp only [Act.put];cases hb:Nat.beq j j' with
 |
  true=>
  rw [hb] at e;simp at e;obtain ⟨rfl,rfl⟩:=e;have:=Nat.eq_of_beq_eq_true hb;subst this;exact ⟨v,by simp [hj],h1,h2⟩
 |
  false=>
  rw [hb] at e;simp at e;have hne:j ≠ j':=Nat.ne_of_beq_eq_false hb;obtain ⟨u,b,c⟩:=kt j' d' o' e;exact ⟨u,by rw [Array.getElem?_setIfInBounds_ne hne];exact b,c⟩
theorem Kjl {H0:Hp}{vals:Nat→Value}{a:Act}(hbs:∀ e,bs e=vals e)(kt:TOKg De al vl ev H0 bs vals te a):TOK H0 (vis [] te) a:=KgH hbs kt (Hp.le_refl _) fun e he=>by simp at he
theorem zg_nil (htl:∀ e,isG rl e=true→ev.contains e=true)(hcl:cl.all (fun p=>ev.contains p.2)=true)(hal:∀ e,isAl al e=true→ev.contains e=true)
  (g:∀ gs ks,(∀ e,isG rl e=true→GS cl G (fun _=>true) e (bs e) (gs e) (ks e))→opsD P C N l (l.drop m) ⟨vis ev te,h++((al.map fun x=>(blk (bs x.1),Blk.cells x.2.1 x.2.2))++rl.flatMap gs),k++rl.flatMap ks⟩ Q):Zg P C N l m De al rl vl cl G h0 k0 pre ev h k Q bs i [] te:=by
 intro H0 vals a hbs kt hN hdf S w hS hC;obtain rfl:bs=vals:=funext hbs;obtain ⟨H,gs,ks,hle,c,hz,hev,hcc⟩:=hC;have hgo:∀ e,gone cl S e=gone cl (fun _=>true) e:=fun e=>by
  unfold gone;rw [Bool.eq_iff_iff,List.any_eq_true,List.any_eq_true];rw [List.all_eq_true] at hcl;exact ⟨fun ⟨p,h1,h2⟩=>⟨p,h1,by simp only [Bool.and_eq_true] at h2 ⊢;exact ⟨h2.1,trivial⟩⟩,fun ⟨p,h1,h2⟩=>⟨p,h1,by simp only [Bool.and_eq_true] at h2 ⊢;exact ⟨h2.1,hS _ (hcl p h1)⟩⟩⟩
 refine g gs ks (fun e he=>by have:=hz e (hS e (htl e he)) he;unfold GS at this ⊢;rw [hgo] at this;exact this) a w ⟨H,?_,KgH hbs kt hle fun e _ he=>hev e (hS e he) he,hN,hdf⟩;rw [Kei fun e he=>hS e (hal e he),gvs_all fun e he=>hS e (htl e he),gvs_all fun e he=>hS e (htl e he)] at c;exact c
theorem zg_event {j:Nat}{p:List Nat}{d:D}(hp:pre.getD i []=p)(hw:wantD l (vis [] te) o=some true)(hd:o.dst=some j)(hi:Nat.blt j N=true)(he:ev.contains i=true)(hna:isAl al i=false)(hnt:(isG rl i || (isG vl i || isC cl i))=false)(hDe:De i=d)
  (hx:∀ hh H a w,Core C H (h++hh) k w→TOK H (vis p te) a→Jx.Gives P o a w fun v w'=>∃ H',H.le H'∧Core ⟨H,w,[]⟩ H' [] [] w'∧Rep H' d v)
  (g:Zg P C N l m De al rl vl cl G h0 k0 pre ev h k Q bs (i+1) rest ((j,d,some i)::te)):Zg P C N l m De al rl vl cl G h0 k0 pre ev h k Q bs i (o::rest) te:=by
 intro H0 vals a hbs kt hN hdf;subst hDe;obtain ⟨hnt,hnv,hnc⟩:isG rl i=false∧isG vl i=false∧isC cl i=false:=by simpa using hnt
 refine ⟨vals i,?_,?_⟩
 ·unfold Jx.OK;rw [Ka2 (Kjl hbs kt) hw,if_pos rfl,if_pos he];refine ⟨rfl,?_⟩;rintro S w ⟨H,gs,ks,hle,c,hz,hev,hcc⟩ hSi hpS;replace hpS:∀ k∈pre.getD i [],S k=true:=hpS;rw [hp] at hpS;refine (hx _ H a w (c.drop (List.Sublist.refl _) (List.sublist_append_left _ _)) (KgH hbs kt hle fun e he b=>hev e (hpS e (by simpa using he)) b)).mono ?_;rintro v w' ⟨H',hle',c',hr⟩;have hal:Kap al (Jx.upd S i true) (Jx.upd vals i v)=Kap al S vals:=KaV fun e hea=>by
   have:e ≠ i:=fun q=>by rw [q,hna] at hea;cases hea
   exact ⟨Jx.upd_ne _ _ this,fun _=>Jx.upd_ne _ _ this⟩
  have htk:∀ {β:Type} (gs h0:Nat→List β),gvs rl (Jx.upd S i true) gs h0=gvs rl S gs h0:=fun gs h0=>KfX fun e hea=>by
   have:e ≠ i:=fun q=>by rw [q,hnt] at hea;cases hea
   exact ⟨Jx.upd_ne _ _ this,fun _=>rfl⟩
  refine ⟨H',gs,ks,Hp.le_trans hle hle',?_,fun e hes hee=>?_,fun e hes hee=>?_,hcc.keep hnc⟩
  ·rw [hal,htk,htk];have:=Core.call (h1:=[]) (k1:=[]) (h2:=h++(Kap al S vals++gvs rl S gs h0)) (k2:=k++gvs rl S ks k0) c c';simpa using this
  ·have hei:e ≠ i:=fun q=>by rw [q,hnt] at hee;cases hee
   rw [Jx.upd_ne _ _ hei] at hes ⊢;exact (hz e hes hee).keep hnc
  by_cases hei:e=i
  ·subst hei;rw [Jx.upd_same];exact ⟨fun q=>(by rw [hna] at q;cases q),fun _=>by rw [dG_no hnv];exact hr⟩
  rw [Jx.upd_ne _ _ hei] at hes ⊢;exact ⟨(hev e hes hee).1,fun q=>((hev e hes hee).2 q).mono hle'⟩
 rw [hd];refine g H0 vals _ hbs (kt.put (by rw [hN];simpa using hi) (fun q=>by cases q) (fun e q=>?_)) ?_ hdf
 ·cases q;exact ⟨rfl,by unfold dEg;rw [hna,dG_no hnv];rfl,he⟩
 simp only [Act.put,Array.size_setIfInBounds];exact hN
theorem zg_eventG {j:Nat}{p:List Nat}{d:D}(hp:pre.getD i []=p)(hw:wantD l (vis [] te) o=some true)(hd:o.dst=some j)(hi:Nat.blt j N=true)(he:ev.contains i=true)(hnac:(isAl al i || isC cl i)=false)(hit:i∈rl)(hnd:rl.Nodup)
  (hx:∀ hh kk H a w,Core C H (h0 i++hh) (k0 i++kk) w→TOK H (vis p te) a→Jx.Gives P o a w fun v w'=>∃ H' hb kb,H.le H'∧Core ⟨H,w,KP (h0 i) (k0 i)⟩ H' hb kb w'∧G i v hb kb∧Rep H' (dG vl i (De i) v) v) (hdd:dG vl i (De i) (bs i)=d)
  (g:Zg P C N l m De al rl vl cl G h0 k0 pre ev h k Q bs (i+1) rest ((j,d,some i)::te)):Zg P C N l m De al rl vl cl G h0 k0 pre ev h k Q bs i (o::rest) te:=by
 intro H0 vals a hbs kt hN hdf;obtain rfl:bs=vals:=funext hbs;obtain ⟨hna,hnc⟩:isAl al i=false∧isC cl i=false:=by simpa using hnac
 subst hdd;have hist:isG rl i=true:=by unfold isG;simpa using hit
 refine ⟨bs i,?_,?_⟩
 ·unfold Jx.OK;rw [Ka2 (Kjl hbs kt) hw,if_pos rfl,if_pos he];refine ⟨rfl,?_⟩;rintro S w ⟨H,gs,ks,hle,c,hz,hev,hcc⟩ hSi hpS;have hlast:gone cl (Jx.upd S i true) i=false:=by rw [gone_upd hnc];exact hcc.last hSi
  replace hpS:∀ k∈pre.getD i [],S k=true:=hpS;rw [hp] at hpS;obtain ⟨R,b,f⟩:=gvs_new (gs:=gs) (h0:=h0) hSi hit hnd;obtain ⟨R',n,r⟩:=gvs_new (gs:=ks) (h0:=k0) hSi hit hnd;have s:(h++(Kap al S bs++gvs rl S gs h0)).Perm (h0 i++(h++(Kap al S bs++R))):=by
   refine (List.Perm.append_left h (List.Perm.append_left _ b)).trans ?_;rw [← List.append_assoc,← List.append_assoc,← List.append_assoc];refine (List.Perm.append_right R List.perm_append_comm).trans ?_;simp only [List.append_assoc];exact List.Perm.refl _
  have t:(k++gvs rl S ks k0).Perm (k0 i++(k++R')):=by
   refine (List.Perm.append_left k n).trans ?_;rw [← List.append_assoc,← List.append_assoc];exact XV
  have c2:=c.perm s t;refine (hx _ _ H a w c2 (KgH hbs kt hle fun e he u=>hev e (hpS e (by simpa using he)) u)).mono ?_;rintro v w' ⟨H',hb,kb,hle',c',hG,hr⟩;have hal:Kap al (Jx.upd S i true) (Jx.upd bs i v)=Kap al S bs:=KaV fun e hea=>by
   have:e ≠ i:=fun q=>by rw [q,hna] at hea;cases hea
   exact ⟨Jx.upd_ne _ _ this,fun _=>Jx.upd_ne _ _ this⟩
  refine ⟨H',fun e=>if e=i then hb else gs e,fun e=>if e=i then kb else ks e,Hp.le_trans hle hle',?_,fun e hes hee=>?_,fun e hes hee=>?_,hcc.keep hnc⟩
  ·rw [hal];have:=Core.call (h1:=h0 i) (k1:=k0 i) (h2:=h++(Kap al S bs++R)) (k2:=k++R') c2 c';refine this.perm ?_ ?_
   ·refine List.Perm.trans ?_ (List.Perm.append_left h (List.Perm.append_left _ (f hb).symm));have x:hb++(h++(Kap al S bs++R))=(hb++(h++Kap al S bs))++R:=by simp only [List.append_assoc]
    have y:h++(Kap al S bs++(hb++R))=((h++Kap al S bs)++hb)++R:=by simp only [List.append_assoc]
    rw [x,y];exact List.Perm.append_right R List.perm_append_comm
   refine List.Perm.trans ?_ (List.Perm.append_left k (r kb).symm);rw [← List.append_assoc,← List.append_assoc];exact XV
  ·by_cases hei:e=i
   ·subst hei;rw [Jx.upd_same];simp only [if_true];unfold GS;rw [hlast];exact hG
   rw [Jx.upd_ne _ _ hei] at hes ⊢;simp only [if_neg hei];exact (hz e hes hee).keep hnc
  by_cases hei:e=i
  ·subst hei;rw [Jx.upd_same];exact ⟨fun q=>(by rw [hna] at q;cases q),fun _=>hr⟩
  rw [Jx.upd_ne _ _ hei] at hes ⊢;exact ⟨(hev e hes hee).1,fun q=>((hev e hes hee).2 q).mono hle'⟩
 rw [hd];refine g H0 bs _ hbs (kt.put (by rw [hN];simpa using hi) (fun q=>by cases q) (fun e q=>?_)) ?_ hdf
 ·cases q;exact ⟨rfl,by unfold dEg;rw [hna];rfl,he⟩
 simp only [Act.put,Array.size_setIfInBounds];exact hN
theorem zg_new {j:Nat}{p:List Nat}{ds:List D}{T:TypeId}(hp:pre.getD i []=p)(hw:wantD l (vis [] te) o=some true)(hd:o.dst=some j)(hi:Nat.blt j N=true)(he:ev.contains i=true)(hnt:(isG rl i || (isG vl i || isC cl i))=false)(hia:(i,ds,T)∈al)(hnd:(al.map (·.1)).Nodup)
  (hx:∀ hh H a w,Core C H (h++hh) k w→TOK H (vis p te) a→∃ us,(execOp a.eval o).run P w=.ok (.value (.pointer (some ⟨w.heap.size,0,none⟩))) (w.alloc (.cells (List.toArray us) T))∧Reps H ds us)
  (g:Zg P C N l m De al rl vl cl G h0 k0 pre ev h k Q bs (i+1) rest ((j,.ptr (blk (bs i)) 0,some i)::te)):Zg P C N l m De al rl vl cl G h0 k0 pre ev h k Q bs i (o::rest) te:=by
 intro H0 vals a hbs kt hN hdf;obtain ⟨hnt,hnv,hnc⟩:isG rl i=false∧isG vl i=false∧isC cl i=false:=by simpa using hnt
 have hisal:isAl al i=true:=List.any_eq_true.2 ⟨_,hia,by simp⟩;refine ⟨vals i,?_,?_⟩
 ·unfold Jx.OK;rw [Ka2 (Kjl hbs kt) hw,if_pos rfl,if_pos he];refine ⟨rfl,?_⟩;rintro S w ⟨H,gs,ks,hle,c,hz,hev,hcc⟩ hSi hpS;replace hpS:∀ k∈pre.getD i [],S k=true:=hpS;rw [hp] at hpS;obtain ⟨us,h1,h2⟩:=hx _ H a w (c.drop (List.Sublist.refl _) (List.sublist_append_left _ _)) (KgH hbs kt hle fun e he b=>hev e (hpS e (by simpa using he)) b);unfold Jx.Gives;rw [h1];refine ⟨H,gs,ks,hle,?_,fun e hes hee=>?_,fun e hes hee=>?_,hcc.keep hnc⟩
  ·have c':=c.alloc T h2;have htk:∀ {β:Type} (gs h0:Nat→List β),gvs rl (Jx.upd S i true) gs h0=gvs rl S gs h0:=fun gs h0=>KfX fun e hea=>by
    have:e ≠ i:=fun q=>by rw [q,hnt] at hea;cases hea
    exact ⟨Jx.upd_ne _ _ this,fun _=>rfl⟩
   rw [htk,htk];refine c'.perm ?_ (List.Perm.refl _);have hp:=Ki5 (v:=.pointer (some ⟨w.heap.size,0,none⟩)) (vals:=vals) hSi hia hnd;have hq:((h++(Kap al S vals++gvs rl S gs h0))++[(w.heap.size,Blk.cells ds T)]).Perm (h++((Kap al S vals++[(w.heap.size,Blk.cells ds T)])++gvs rl S gs h0)):=by
    rw [List.append_assoc,List.append_assoc,List.append_assoc];exact List.Perm.append_left h (List.Perm.append_left _ List.perm_append_comm)
   exact hq.trans (List.Perm.append_left h (List.Perm.append_right _ hp.symm))
  ·have hei:e ≠ i:=fun q=>by rw [q,hnt] at hee;cases hee
   rw [Jx.upd_ne _ _ hei] at hes ⊢;exact (hz e hes hee).keep hnc
  by_cases hei:e=i
  ·subst hei;rw [Jx.upd_same];exact ⟨fun _=>rfl,fun q=>(by rw [hisal] at q;cases q)⟩
  rw [Jx.upd_ne _ _ hei] at hes ⊢;exact hev e hes hee
 rw [hd];refine g H0 vals _ hbs (kt.put (by rw [hN];simpa using hi) (fun q=>by cases q) (fun e q=>?_)) ?_ hdf
 ·cases q;exact ⟨rfl,by unfold dEg;rw [hisal];rfl,he⟩
 simp only [Act.put,Array.size_setIfInBounds];exact hN
theorem wpD_drawnG {id:Nat}{t:List (Nat×D)}{hA:List (Nat×Blk)}{kA:List (Nat×Value)}(m:Nat)(De:Nat→D)(al:AL)(rl vl:GL)(cl:CL)(G:Nat→Value→List (Nat×Blk)→List (Nat×Value)→Prop)(h0:Nat→List (Nat×Blk))(k0:Nat→List (Nat×Value))(h:List (Nat×Blk))(k:List (Nat×Value))(hph:hA.Perm (h++rl.flatMap h0))(hpk:kA.Perm (k++rl.flatMap k0))(pre:List (List Nat))(ev:List Nat)(tp:List (List Nat))(hfo:P.follows .mixedOrders=true)(hsl:Jx.slotsB l.toArray=true)
  (hp:Jx.preB l.toArray (fun i=>pre.getD i [])=true) (hpe:pre.all (·.all ev.contains)=true) (hev:ev.all (· < (l.take m).length)=true) (hsuf:Jx.sufB l.toArray tp (l.take m).length=true)
  (hwalk:∀ bs,Zg P C N l m De al rl vl cl G h0 k0 pre ev h k Q bs 0 (l.take m) (KdL t)):wpD P C N (.region id l.toArray true) ⟨t,hA,kA⟩ Q:=by
 rintro a w ⟨H,c,kt,hN,hdf⟩;have key:=Jx.region_any (P:=P) (Q:=QD C N Q) (id:=id) (w:=w) (a0:=a) (l1:=l.take m) (l2:=l.drop m) (Cg C De al rl vl cl G h0 k0 ev h k H) (fun i=>pre.getD i []) (fun i=>ev.contains i) tp hfo (by rw [List.take_append_drop];exact hsl) (by rw [List.take_append_drop];exact hp) ?_ ?_
  (by rw [List.take_append_drop];exact hsuf) ?_ ?_ ?_
 ·rw [List.take_append_drop] at key;exact key
 ·intro i k hk;rw [List.all_eq_true] at hpe;by_cases hi:i < pre.length
  ·have e:pre.getD i []=pre[i]:=by simp [hi]
   rw [e] at hk;exact List.all_eq_true.1 (hpe _ (List.getElem_mem hi)) k hk
  have e:pre.getD i []=[]:=by simp [Nat.le_of_not_lt hi]
  rw [e] at hk;cases hk
 ·intro i hi;rw [List.all_eq_true] at hev;simpa using hev i (by simpa using hi)
 ·rintro S vals vals' w hv ⟨H',gs,ks,hle,c',hz,hr,hcc⟩;refine ⟨H',gs,ks,hle,?_,fun e hes hee=>by rw [← hv e hes];exact hz e hes hee,fun e hes hee=>?_,hcc⟩
  ·rw [← KaV (S:=S) (S':=S) (vals:=vals) (vals':=vals') fun e _=>⟨rfl,hv e⟩];exact c'
  rw [← hv e hes];exact hr e hes hee
 ·intro vals;refine ⟨H,fun _=>[],fun _=>[],Hp.le_refl H,?_,(fun e he=>by cases he),(fun e he=>by cases he),fun p _ he=>by cases he⟩;rw [KdT,gvs_none,gvs_none,List.nil_append];exact (c.perm hph hpk).drew
 intro vals;rw [List.take_append_drop];exact hwalk vals H vals a (fun _=>rfl) (fun j d o e=>by
  obtain ⟨h1,h2⟩:=Kej e;obtain ⟨v,b,f⟩:=kt j d h1;exact ⟨v,b,fun _ H' hle=>f.mono hle,fun e he=>by rw [h2] at he;cases he⟩) hN hdf
end
section
variable {P : Program} {C : Ctx} {N : Nat} {l : List Oper} {m : Nat} {De : Nat → D} {al : AL} {rl vl : GL} {cl : CL} {G : Nat → Value → List (Nat × Blk) → List (Nat × Value) → Prop} {h0 : Nat → List (Nat × Blk)} {k0 : Nat → List (Nat × Value)} {pre : List (List Nat)} {ev : List Nat} {h : List (Nat × Blk)} {k : List (Nat × Value)} {Q : Exit → S → Prop} {tab : List (Option TI)} {bs : Nat → Value} {i : Nat} {o : Oper} {rest : List Oper} {te : TE}
theorem wpD_drawsG {id:Nat}{t:List (Nat×D)}{hA:List (Nat×Blk)}{kA:List (Nat×Value)}(m:Nat)(al:AL)(rl vl:GL)(cl:CL)(G:Nat→Value→List (Nat×Blk)→List (Nat×Value)→Prop)(h0:Nat→List (Nat×Blk))(k0:Nat→List (Nat×Value))(h:List (Nat×Blk))(k:List (Nat×Value))(hph:hA.Perm (h++rl.flatMap h0))(hpk:kA.Perm (k++rl.flatMap k0))(pre:List (List Nat))(ev:List Nat)(tp:List (List Nat))(hfo:P.follows .mixedOrders=true)(hsl:Jx.slotsB l.toArray=true)
  (hp:Jx.preB l.toArray (fun i=>pre.getD i [])=true) (hpe:pre.all (·.all ev.contains)=true) (hev:ev.all (· < (l.take m).length)=true) (hsuf:Jx.sufB l.toArray tp (l.take m).length=true)
  (hwalk:ExDs ev fun De=>∀ bs,Zg P C N l m De al rl vl cl G h0 k0 pre ev h k Q bs 0 (l.take m) (KdL t)):wpD P C N (.region id l.toArray true) ⟨t,hA,kA⟩ Q:=by
 obtain ⟨De,hw⟩:=KfO hwalk;exact wpD_drawnG m De al rl vl cl G h0 k0 h k hph hpk pre ev tp hfo hsl hp hpe hev hsuf hw
theorem zg_e {j:Nat}{p:List Nat}{t:List (Nat×D)}{d:D}(hp:pre.getD i []=p)(ht:vis p te=t)(hx:Ex P o t d)(hw:wantD l (vis [] te) o=some true)(hd:o.dst=some j)(hi:Nat.blt j N=true)(he:ev.contains i=true)(hna:isAl al i=false)(hnt:(isG rl i || (isG vl i || isC cl i))=false)(hDe:De i=d)
  (g:Zg P C N l m De al rl vl cl G h0 k0 pre ev h k Q bs (i+1) rest ((j,d,some i)::te)):Zg P C N l m De al rl vl cl G h0 k0 pre ev h k Q bs i (o::rest) te:=
 zg_event hp hw hd hi he hna hnt hDe (fun _ H a w c kt=>by
  obtain ⟨v,h1,h2⟩:=hx H a w (ht ▸ kt);unfold Jx.Gives;rw [h1];exact ⟨H,Hp.le_refl H,Core.here c.ag,h2⟩) g
theorem zg_eM {j:Nat}{p:List Nat}{t:List (Nat×D)}{d:D}(hp:pre.getD i []=p)(ht:vis p te=t)(hx:ExM P C h k o t d)(hw:wantD l (vis [] te) o=some true)(hd:o.dst=some j)(hi:Nat.blt j N=true)(he:ev.contains i=true)(hna:isAl al i=false)(hnt:(isG rl i || (isG vl i || isC cl i))=false)(hDe:De i=d)
  (g:Zg P C N l m De al rl vl cl G h0 k0 pre ev h k Q bs (i+1) rest ((j,d,some i)::te)):Zg P C N l m De al rl vl cl G h0 k0 pre ev h k Q bs i (o::rest) te:=
 zg_event hp hw hd hi he hna hnt hDe (fun hh H a w c kt=>by
  obtain ⟨v,h1,h2⟩:=hx hh H a w c (ht ▸ kt);unfold Jx.Gives;rw [h1];exact ⟨H,Hp.le_refl H,Core.here c.ag,h2⟩) g
theorem zg_alloc {j:Nat}{p:List Nat}{T:TypeId}{b:TI}{zs:List D}(hp:pre.getD i []=p)(hT:TabOK P tab)(ho:o.op=.alloc T)(hw:wantD l (vis [] te) o=some true)(hd:o.dst=some j)(hi:Nat.blt j N=true)(he:ev.contains i=true)(hti:ti tab T=some b)(hz:b.zero.all one=true)(ez:b.zero.map dOf=zs)
  (hnt:(isG rl i || (isG vl i || isC cl i))=false) (hia:(i,zs,T)∈al) (hnd:(al.map (·.1)).Nodup) (g:Zg P C N l m De al rl vl cl G h0 k0 pre ev h k Q bs (i+1) rest ((j,.ptr (blk (bs i)) 0,some i)::te)):Zg P C N l m De al rl vl cl G h0 k0 pre ev h k Q bs i (o::rest) te:=
 zg_new hp hw hd hi he hnt hia hnd (fun hh H a w c kt=>by
  obtain ⟨z,h1,h2⟩:=Kcr (w:=w) (ti_ok hT hti);refine ⟨z.cells.toList,?_,?_⟩
  ·unfold execOp;rw [ho];refine Kbb ?_;unfold Instr.alloc;rw [Kw h1];simp only [];rw [Kw Kga];simp;first|done|rfl
  rw [h2,← ez];rw [List.all_eq_true] at hz;revert hz;generalize b.zero=d;intro hz;induction d with
  | nil=>simp [Reps]
  |
   cons u d ih=>
   simp only [List.map_cons,Reps];exact ⟨u,d,rfl,⟨(Kgb H u).1,hz u (by simp),(Kgb H u).2⟩,ih (fun x hx=>hz x (by simp [hx]))⟩) g
theorem zg_callG {f:FuncId}{args:List Operand}{ts:Array TypeId}{j:Nat}{p:List Nat}{t:List (Nat×D)}{ds ds':List D}{d:D}{hg:List (Nat×Blk)}{kg:List (Nat×Value)}{R:D→List (Nat×Blk)→List (Nat×Value)→Prop}(hp:pre.getD i []=p)(ht:vis p te=t)(hc:CallsD P f ds' hg kg R)(eh:h0 i=hg)(ek:k0 i=kg)(ho:o.op=.call ⟨.value (.func f),args.toArray,ts⟩)
  (ha:Kb3 args (opD t)=some ds) (hwk:WkL ds ds') (hw:wantD l (vis [] te) o=some true) (hd:o.dst=some j) (hi:Nat.blt j N=true) (he:ev.contains i=true) (hna:(isAl al i || isC cl i)=false) (hit:rl.contains i=true) (hnd:rl.Nodup)
  (hR:∀ H d' hb kb v,R d' hb kb→Rep H d' v→G i v hb kb∧Rep H (dG vl i (De i) v) v) (hdd:dG vl i (De i) (bs i)=d)
  (g:Zg P C N l m De al rl vl cl G h0 k0 pre ev h k Q bs (i+1) rest ((j,d,some i)::te)):Zg P C N l m De al rl vl cl G h0 k0 pre ev h k Q bs i (o::rest) te:=
 zg_eventG hp hw hd hi he hna (by simpa using hit) hnd (fun hh kk H a w c kt=>by
  subst ht;unfold Jx.Gives;rw [Kd1 ho hc.1];simp only [];have hv:=hwk H _ (Kco kt ha);rw [List.map_toArray];rw [eh,ek] at c ⊢;have nd:=((KbM hg hh kg kk).nodup_iff.1 c.nd);rw [List.nodup_append] at nd;refine (hc.2 H w _ hv c.ag (fun p hp=>c.blks p (List.mem_append_left _ hp)) (fun p hp=>c.toks p (List.mem_append_left _ hp)) nd.1).mono ?_;rintro e w' ⟨v,H',d',h',k',rfl,hr,hcore,hRR⟩;obtain ⟨h1,h2⟩:=hR H' d' h' k' v hRR hr;exact ⟨v,rfl,H',h',k',hcore.le,hcore,h1,h2⟩) hdd g
theorem zg_callV {f:FuncId}{args:List Operand}{ts:Array TypeId}{j:Nat}{p:List Nat}{t:List (Nat×D)}{ds ds':List D}{hg:List (Nat×Blk)}{kg:List (Nat×Value)}{R:D→List (Nat×Blk)→List (Nat×Value)→Prop}(hp:pre.getD i []=p)(ht:vis p te=t)(hc:CallsD P f ds' hg kg R)(eh:h0 i=hg)(ek:k0 i=kg)(ho:o.op=.call ⟨.value (.func f),args.toArray,ts⟩)
  (ha:Kb3 args (opD t)=some ds) (hwk:WkL ds ds') (hw:wantD l (vis [] te) o=some true) (hd:o.dst=some j) (hi:Nat.blt j N=true) (he:ev.contains i=true) (hna:(isAl al i || isC cl i)=false) (hit:rl.contains i=true) (hnd:rl.Nodup)
  (hv:isG vl i=true) (hR:∀ H d' hb kb v,R d' hb kb→Rep H d' v→G i v hb kb∧one v=true)
  (g:Zg P C N l m De al rl vl cl G h0 k0 pre ev h k Q bs (i+1) rest ((j,.v (bs i),some i)::te)):Zg P C N l m De al rl vl cl G h0 k0 pre ev h k Q bs i (o::rest) te:=
 zg_callG hp ht hc eh ek ho ha hwk hw hd hi he hna hit hnd (fun H d' hb kb v hRR hr=>by
  obtain ⟨h1,h2⟩:=hR H d' hb kb v hRR hr;refine ⟨h1,?_⟩;rw [dG_yes hv];exact rep_v h2) (by rw [dG_yes hv]) g
theorem gvs_take {β:Type}{S:Nat→Bool}{gs h0:Nat→List β}{a:Nat}(h1:S a=true):∀ {rl:GL},a∈rl→rl.Nodup →
  (gvs rl S gs h0).Perm (gs a++gvs rl S (fun e=>if e=a then [] else gs e) h0):=by
 intro rl;induction rl with
 | nil=>intro h _;cases h
 |
  cons e rl ih=>
  intro h hn;rw [List.nodup_cons] at hn;by_cases q:e=a
  ·subst q;have hr:gvs rl S (fun e'=>if e'=e then [] else gs e') h0=gvs rl S gs h0:=KfX fun y hy=>⟨rfl,fun _=>by
    have:y ≠ e:=fun q=>by subst q;exact hn.1 (by simpa [isG] using hy)
    rw [if_neg this]⟩
   unfold gvs at hr ⊢;simp only [List.flatMap_cons,h1,cond_true,if_true,List.nil_append];rw [hr]
  have h2:=ih ((List.mem_cons.1 h).resolve_left fun x=>q x.symm) hn.2;unfold gvs at h2 ⊢;simp only [List.flatMap_cons,if_neg q];refine (List.Perm.append_left _ h2).trans ?_;rw [← List.append_assoc,← List.append_assoc];exact XV
theorem zg_eventF {j:Nat}{p:List Nat}{b:Nat}{d:D}{hq hr:List (Nat×Blk)}(hp:pre.getD i []=p)(hw:wantD l (vis [] te) o=some true)(hd:o.dst=some j)(hi:Nat.blt j N=true)(he:ev.contains i=true)(hna:isAl al i=false)(hnt:(isG rl i || isG vl i)=false)(hDe:De i=d)(hnd:rl.Nodup)(u:p.contains b=true)(h1t:b∈rl)(hcl:∀ p∈cl,(p.2=i↔p.1=b))(hci:(b,i)∈cl)(hqr:h.Perm (hq++hr))
  (hx:∀ r s,G b (bs b) r s→∀ hh kk H a w,Core C H ((hq++r)++hh) (s++kk) w→TOK H (vis p te) a→Jx.Gives P o a w fun v w'=>∃ H',H.le H'∧Core ⟨H,w,KP (hq++r) s⟩ H' hq [] w'∧Rep H' d v)
  (g:Zg P C N l m De al rl vl cl G h0 k0 pre ev h k Q bs (i+1) rest ((j,d,some i)::te)):Zg P C N l m De al rl vl cl G h0 k0 pre ev h k Q bs i (o::rest) te:=by
 intro H0 vals a hbs kt hN hdf;obtain rfl:bs=vals:=funext hbs;subst hDe;obtain ⟨hnt,hnv⟩:isG rl i=false∧isG vl i=false:=by simpa using hnt
 refine ⟨bs i,?_,?_⟩
 ·unfold Jx.OK;rw [Ka2 (Kjl hbs kt) hw,if_pos rfl,if_pos he];refine ⟨rfl,?_⟩;rintro S w ⟨H,gs,ks,hle,c,hz,hev,hcc⟩ hSi hpS;replace hpS:∀ k∈pre.getD i [],S k=true:=hpS;rw [hp] at hpS;have f:S b=true:=hpS b (by simpa using u);have t:=hz b f (by unfold isG;simpa using h1t);have hgo:gone cl S b=false:=by
   unfold gone;rw [List.any_eq_false];intro p hp;simp only [Bool.and_eq_true,beq_iff_eq,not_and,Bool.not_eq_true];intro q;rw [(hcl p hp).2 q];exact hSi
  unfold GS at t;rw [hgo,cond_false] at t;have htk:∀ {β:Type} (gs h0:Nat→List β),gvs rl (Jx.upd S i true) gs h0=gvs rl S gs h0:=fun gs h0=>KfX fun e hea=>by
   have:e ≠ i:=fun q=>by rw [q,hnt] at hea;cases hea
   exact ⟨Jx.upd_ne _ _ this,fun _=>rfl⟩
  have mid:∀ x R:List (Nat×Blk),(h++(Kap al S bs++(x++R))).Perm ((hq++x)++(hr++(Kap al S bs++R))):=fun x R=>by
   refine (List.Perm.append_right _ hqr).trans ?_;simp only [List.append_assoc];refine List.Perm.append_left hq ?_;have b:hr++(Kap al S bs++(x++R))=((hr++Kap al S bs)++x)++R:=by simp only [List.append_assoc]
   have y:x++(hr++(Kap al S bs++R))=(x++(hr++Kap al S bs))++R:=by simp only [List.append_assoc]
   rw [b,y];exact List.Perm.append_right R List.perm_append_comm
  have z:=(List.Perm.append_left h (List.Perm.append_left (Kap al S bs) (gvs_take (gs:=gs) (h0:=h0) f h1t hnd))).trans (mid _ _);have A:(k++gvs rl S ks k0).Perm (ks b++(k++gvs rl S (fun e=>if e=b then [] else ks e) k0)):=by
   refine (List.Perm.append_left k (gvs_take f h1t hnd)).trans ?_;rw [← List.append_assoc,← List.append_assoc];exact XV
  have c2:=c.perm z A;refine (hx _ _ t _ _ H a w c2 (KgH hbs kt hle fun e he B=>hev e (hpS e (by simpa using he)) B)).mono ?_;rintro v w' ⟨H',hle',c',hrp⟩;have hal:Kap al (Jx.upd S i true) (Jx.upd bs i v)=Kap al S bs:=KaV fun e hea=>by
   have:e ≠ i:=fun q=>by rw [q,hna] at hea;cases hea
   exact ⟨Jx.upd_ne _ _ this,fun _=>Jx.upd_ne _ _ this⟩
  refine ⟨H',fun e=>if e=b then [] else gs e,fun e=>if e=b then [] else ks e,Hp.le_trans hle hle',?_,fun e hes hee=>?_,fun e hes hee=>?_,hcc.up fun p hp q=>?_⟩
  ·rw [hal,htk,htk];have:=Core.call (h1:=hq++gs b) (k1:=ks b) c2 c';refine this.perm ?_ (List.Perm.refl _);have m2:=mid [] (gvs rl S (fun e=>if e=b then [] else gs e) h0);simp only [List.append_nil,List.nil_append] at m2;exact m2.symm
  ·have hei:e ≠ i:=fun q=>by rw [q,hnt] at hee;cases hee
   rw [Jx.upd_ne _ _ hei] at hes ⊢;by_cases n:e=b
   ·subst n;simp only [if_true];have:gone cl (Jx.upd S i true) e=true:=by
     unfold gone;rw [List.any_eq_true];exact ⟨_,hci,by simp [Jx.upd_same]⟩
    unfold GS;rw [this];exact ⟨rfl,rfl⟩
   simp only [if_neg n];have:gone cl (Jx.upd S i true) e=gone cl S e:=by
    unfold gone;rw [Bool.eq_iff_iff,List.any_eq_true,List.any_eq_true];constructor<;>rintro ⟨p,hp,h2⟩<;>refine ⟨p,hp,?_⟩<;>simp only [Bool.and_eq_true,beq_iff_eq] at h2 ⊢<;>refine ⟨h2.1,?_⟩
    ·have:p.2 ≠ i:=fun q=>n (h2.1.symm.trans ((hcl p hp).1 q))
     rw [Jx.upd_ne _ _ this] at h2;exact h2.2
    have:p.2 ≠ i:=fun q=>n (h2.1.symm.trans ((hcl p hp).1 q))
    rw [Jx.upd_ne _ _ this];exact h2.2
   have hze:=hz e hes hee;unfold GS at hze ⊢;rw [this];exact hze
  ·by_cases hei:e=i
   ·subst hei;rw [Jx.upd_same];exact ⟨fun q=>(by rw [hna] at q;cases q),fun _=>by rw [dG_no hnv];exact hrp⟩
   rw [Jx.upd_ne _ _ hei] at hes ⊢;exact ⟨(hev e hes hee).1,fun q=>((hev e hes hee).2 q).mono hle'⟩
  rw [(hcl p hp).1 q];exact f
 rw [hd];refine g H0 bs _ hbs (kt.put (by rw [hN];simpa using hi) (fun q=>by cases q) (fun e q=>?_)) ?_ hdf
 ·cases q;exact ⟨rfl,by unfold dEg;rw [hna,dG_no hnv];rfl,he⟩
 simp only [Act.put,Array.size_setIfInBounds];exact hN
def chB (cl:CL)(a i:Nat):Bool:=(cl.all fun p=>(p.2==i)==(p.1==a)) && cl.contains (a,i)
theorem zg_callF {f:FuncId}{args:List Operand}{ts:Array TypeId}{j:Nat}{p:List Nat}{t:List (Nat×D)}{ds:List D}{d:D}(b:Nat)(hq hr:List (Nat×Blk))(hp:pre.getD i []=p)(ht:vis p te=t)(hgo:Goes P f)(ho:o.op=.call ⟨.value (.func f),args.toArray,ts⟩)
  (ha:Kb3 args (opD t)=some ds) (hw:wantD l (vis [] te) o=some true) (hd:o.dst=some j) (hi:Nat.blt j N=true) (he:ev.contains i=true) (hna:isAl al i=false) (hnt:(isG rl i || isG vl i)=false) (hDe:De i=d) (hnd:rl.Nodup) (r:p.contains b=true) (h1t:rl.contains b=true) (hch:chB cl b i=true) (hqr:h.Perm (hq++hr))
  (hc:∀ n q,G b (bs b) n q→CallsD P f ds (hq++n) q (fun d' h' k'=>d'=d∧h'=hq∧k'=[]))
  (g:Zg P C N l m De al rl vl cl G h0 k0 pre ev h k Q bs (i+1) rest ((j,d,some i)::te)):Zg P C N l m De al rl vl cl G h0 k0 pre ev h k Q bs i (o::rest) te:=by
 simp only [chB,Bool.and_eq_true,List.all_eq_true,beq_iff_eq,List.contains_eq_mem,decide_eq_true_eq] at hch;refine zg_eventF hp hw hd hi he hna hnt hDe hnd r (by simpa using h1t) (fun p hp=>?_) hch.2 hqr (fun n q hG hh kk H a w c kt=>?_) g
 ·have:=hch.1 p hp;rw [Bool.eq_iff_iff] at this;simpa using this
 have hcc:=hc n q hG;subst ht;unfold Jx.Gives;rw [Kd1 ho hgo];simp only [];have hv:=Kco kt ha;rw [List.map_toArray];have nd:=((KbM (hq++n) hh q kk).nodup_iff.1 c.nd);rw [List.nodup_append] at nd;refine (hcc.2 H w _ hv c.ag (fun p hp=>c.blks p (List.mem_append_left _ hp)) (fun p hp=>c.toks p (List.mem_append_left _ hp)) nd.1).mono ?_;rintro e w' ⟨v,H',d',h',k',rfl,hr,hcore,rfl,rfl,rfl⟩;exact ⟨v,rfl,H',hcore.le,hcore,hr⟩
end
end
section
open Go
set_option maxRecDepth 100000
def Kbj (a0:List KG):Option (List KG):=app 96 a0 []
theorem Kds (a0 r)(h0:Kbj a0=some r):CallsD Tryz.prog 40 [.lst 5 (a0.map KA) .no] [] [] (fun d h k=>∃ a,d=.v (SL a)∧h=[(0,Blk.row 5 (r.map KA) (SL a))]∧k=[]):=by
 obtain ⟨hr,hb⟩:=KeL h0;simp only [List.append_nil] at hr;subst hr;have q:app 96 ([]:List KG) r=some r:=Kiu (by simp only [List.length_nil,Nat.zero_add];simpa using hb);refine KV htab Tryz.func40 rfl rfl rfl rfl rfl (fun C=>?_);refine Xr ?_;refine Km ?_;refine Wh ?_;refine Kj2 htab rfl rfl rfl rfl rfl rfl rfl (fun b hn=>?_);refine KC ?_;refine Kc ?_;refine KfE rfl (fun hc=>?_) (fun hc=>?_)
 ·have hnil:=hn hc;simp only [List.map_eq_nil_iff] at hnil;subst hnil;refine Xr ?_;refine Kr ?_;refine Ky ?_;refine retX.rowN (i:=2) 5 rfl (fun y=>?_);refine retX.of (s':=⟨[(2,.v (SL y))],[(0,Blk.row 5 (([]:List KG).map KA) (SL y))],[]⟩) (WkS.perm (wC wN) (List.Perm.refl _) (List.Perm.refl _)) (Kfl (hh:=[_]) (.inl rfl) (KdV (KdM rfl) (Ke2)) (List.Sublist.refl _) (List.Sublist.refl _) ?_);exact ⟨y,rfl,rfl,rfl⟩
 refine WI ?_;refine p_app0R htab rfl rfl rfl rfl rfl rfl rfl rfl rfl rfl rfl rfl rfl rfl rfl (by simpa using hb) rfl (fun v=>?_);refine WJ ?_;refine retX.of (s':=⟨[(2,.v (SL v))],[(0,Blk.row 5 (r.map KA) (SL v))],[]⟩) (WkS.perm (wC wN) (List.Perm.refl _) (List.Perm.refl _)) (Kfl (hh:=[_]) (.inl rfl) (KdV (KdM rfl) (Ke2)) (List.Sublist.refl _) (List.Sublist.refl _) ?_);exact ⟨v,rfl,rfl,rfl⟩
structure Kaq where
 gP:KL
def KcD (c:Kaq)(b:KL)(d:Int):Option (Int×Int×Kaq):=
 ((Kec b).bind fun a=>(Option.bind (α:=(Int)⊕(Int×Int×Kaq)) (Option.bind (α:=(Int)⊕(Int×Int×Kaq)) (bif (a.2.2==(0:Int)) then some (.inr ((0:Int),(0:Int),(⟨b⟩:Kaq))) else (Option.bind (α:=Int) (bif (a.1 != d) then some (0:Int) else some a.2.1) fun e=>some (.inl e))) (Sum.elim (fun f=>some (.inl f)) (fun r=>some (.inr r)))) (Sum.elim (fun g=>some (g,a.2.2,c)) (fun r=>some r))))
theorem Kfb (b c o e f i j r)(h0:KcD b c o=some r):CallsD Tryz.prog 32 [.ptr e 0,Kbo c,iD o] [(e,Blk.cells (CZ4 b.gP i j) f)] [] (fun d h k=>d=.tup [iD r.1,iD r.2.1]∧h=[(e,Blk.cells (CZ4 r.2.2.gP .no .no) f)]∧k=[]):=by
 refine PZ1 h0 Tryz.func32 fun C a=>?_;refine ZH fun G=>?_;refine Zl ?_;refine KH ?_;refine Kaa (d:=Kbo c) 1 htab rfl rfl rfl rfl rfl rfl rfl rfl ?_;obtain ⟨g,v,a⟩:=Ka a;refine K5 (Kht c g v) rfl rfl rfl rfl rfl Wl ?_;rintro _ rfl;iterate 7 refine pu ?_
 refine Zr ?_;obtain ⟨w,p,l⟩:=Ka a;refine KaG (τ:=Int) (Y:=Unit) (fun m x=>(⟨[(9,iD m),(10,iD g.2.2)],[(e,Blk.cells (CZ4 b.gP i j) f)],[]⟩:S)) w ?_ ?_
 ·clear a;have a:=KE p;refine KJ ?_;refine ZS ?_
  refine Kb ?_;obtain ⟨y,q,n⟩:=Ka a;refine KaG (τ:=Int) (Y:=Unit) (fun s H=>(⟨[(9,iD s),(10,iD g.2.2)],[(e,Blk.cells (CZ4 b.gP i j) f)],[]⟩:S)) y ?_ ?_
  ·clear a;have a:=KE q;refine cY a (fun a=>?_) fun a=>?_
   ·refine Zd ?_;refine Kaa (d:=Kbo c) 1 htab rfl rfl rfl rfl rfl rfl rfl rfl ?_;refine Zl ?_;refine pS0 (ds':=(CZ4 c .no .no)) ?_;refine Zo ?_;refine Zu ?_;obtain rfl:=Kf a;refine Ka4 ?_;have a:=n;refine Zk a fun a=>?_
    refine KI ?_;obtain rfl:=Kf a;refine Ka4 ?_;have a:=l;refine Z1 a fun a=>?_
    obtain rfl:=Kf a;refine rP (t':=[(6,iD (0:Int)),(7,iD (0:Int))]) [0] [] 1 (wC (wC wN)) (lT (lT lN)) ?_;exact Za
   refine YA ?_
   refine Kb ?_;obtain ⟨z,t,u⟩:=Ka a;refine Kaf (Y:=Unit) (fun I=>(⟨[(9,iD z),(10,iD g.2.2)],[(e,Blk.cells (CZ4 b.gP i j) f)],[]⟩:S)) ?_ ?_
   ·clear a;have a:=KE t;refine cY a (fun a=>?_) fun a=>?_
    ·refine ZN ?_;exact Z2 a
    refine Kx ?_;exact YC a
   intro J A;have a:=u;clear t u;exact Xg a A
  intro s K B D;subst B;have a:=n;refine Zj a fun a=>?_;clear q n;refine KK ?_;exact Xg a D
 intro m L E F;subst E;have a:=l;refine Zj a fun a=>?_;clear p l;refine Zb F fun x=>?_;refine YA ?_
 refine ZG ?_;obtain rfl:=Kf a;refine retX.wk (WkS.bl0 (ds':=(CZ4 b.gP .no .no)) (rO (rO WkR.nil))) ?_;refine rP (t':=[(6,iD m),(7,iD g.2.2)]) [0] [] 1 (wC (wC wN)) (lT (lT lN)) ?_;exact Za
def KcA (a:Kaq):Option (KL):=
 ((Ked a.gP).bind fun b=>some b)
theorem XF {R G:Prop}(h:R)(k:R→G:=by intro h;refine Zd ?_;refine p_eqP htab rfl rfl rfl rfl rfl rfl rfl rfl rfl rfl ?_;refine Kb ?_;refine KdS rfl ?_;exact h):G:=k h
theorem Kes (a b i c e r)(h0:KcA a=some r):CallsD Tryz.prog 6 [.ptr b 0] [(b,Blk.cells (CZ4 a.gP c e) i)] [] (fun d h k=>d=Kbo r∧h=[(b,Blk.cells (CZ4 a.gP c e) i)]∧k=[]):=by
 refine PZ1 h0 Tryz.func6 fun C f=>?_;refine Yl fun n=>?_;refine Zr ?_;refine XF ?_;refine Zm ?_;refine ZS ?_
 refine Kaa (d:=.agg (CZ4 a.gP c e)) 0 htab rfl rfl rfl rfl rfl rfl rfl rfl ?_;obtain ⟨g,j,f⟩:=Ka f;refine Ka6 (KhH a.gP g j) rfl rfl rfl rfl rfl (WkL.cons (Wk.agg (rO (rO WkR.nil))) Wl) Pf Pf ?_;rintro _ _ _ ⟨l,m,rfl,rfl,rfl⟩;refine pS1 (ds':=(CZ4 g (.cur l) (.cur m))) ?_;refine ZG ?_;obtain rfl:=Kf f;refine retX.wk (WkS.bl1 (ds':=(CZ4 g .no .no)) (rO (rO WkR.nil))) ?_
 refine Wd ?_;exact Za
def store_New:Option (Kaq):=
 some (⟨(⟨[],[]⟩:KL)⟩:Kaq)
theorem KjT (r)(h0:store_New=some r):CallsD Tryz.prog 4 [] [] [] (fun d h k=>∃ a b c,d=.ptr a 0∧h=[(a,Blk.cells (CZ4 r.gP (.cur b) (.cur c)) 51)]∧k=[(4,b),(5,c)]):=by
 refine PZ1 h0 Tryz.func4 fun C f=>?_;refine Zd ?_;refine KH ?_;refine KbC (r:=[.lst 1 [] .full,.lst 1 [] .full]) htab rfl rfl rfl rfl rfl rfl rfl rfl rfl ?_;refine YJ fun e=>?_;refine Zu ?_;obtain rfl:=Kf f;refine retX.cellF (off:=0) 4 0 rfl rfl (by first|exact Or.inl rfl|exact Or.inr rfl) (fun g=>?_);refine retX.cellF (off:=1) 5 0 rfl rfl (by first|exact Or.inl rfl|exact Or.inr rfl) (fun i=>?_);refine rP (t':=[(0,.ptr e 0)]) [0] [1,0] 1 (wC wN) (lT lN) ?_
 exact ⟨e,g,i,rfl,rfl,rfl⟩
def KdQ (a0:KT)(a:KT):Option (Bool):=
 some (decide (a0.ga=a.ga))
theorem KhW (a0 a b c r)(h0:KdQ a0 a=some r):CallsD Tryz.prog 35 [Kt a0,.ptr b 0] [(b,Blk.cells (CZ1 a) c)] [] (fun d h k=>d=.v (.bool r)∧h=[(b,Blk.cells (CZ1 a) c)]∧k=[]):=by
 refine PZ1 h0 Tryz.func35 fun C e=>?_;refine ZH fun f=>?_;refine Yo ?_;refine pL 1 ?_;refine YV ?_;refine Z8 ?_;obtain rfl:=Kf e;refine rP (t':=[(3,.v (.bool (decide (a0.ga=a.ga))))]) [0] [] 1 (wC wN) (lT lN) ?_;exact Za
def KbJ (a0:List KT)(b:KT):Option (Int):=
 (Option.bind (α:=(Unit)⊕(Int)) (loopM (fun (a:Int)=>(bif (decide (a < (a0.length:Int))) then ((idx a0 a).bind fun c=>((KdQ c b).bind fun d=>(bif d then some (.done (.inr a)) else some (.next (IntKind.i64.wrap (a+(1:Int))))))) else some (.done (.inl ())))) (0:Int)) (Sum.elim (fun e=>some (-1:Int)) (fun r=>some r)))
theorem XW {A0 R G:Prop}(a0:A0)(h:R)(k:A0→R→G:=by intro _a h;refine Kdj 1 htab rfl rfl rfl rfl rfl rfl rfl rfl rfl rfl rfl (Ks _a) (KD _a) ?_;exact h):G:=k a0 h
theorem XX {R G:Prop}(h:R)(k:R→G:=by intro h;refine Kgg 1 htab rfl rfl rfl rfl rfl rfl rfl rfl (by first|exact K2|rfl) ?_;refine Zv ?_;exact h):G:=k h
theorem WK {A0 G:Prop}(a0:A0)(k:A0→G:=by intro _a;refine Zk _a fun _l=>?_;refine Ky ?_;obtain rfl:=Kf _l;refine rP (t':=[(4,iD _)]) [0,0] [] 2 (wC wN) (lT lN) ?_;exact Za):G:=k a0
theorem WL {A0 A1 G:Prop}(a0:A0)(m:A1)(k:A0→A1→G:=by intro _a _b;refine Zb _a fun _l=>?_;refine ZY ?_;obtain rfl:=Kf _b;refine rP (t':=[(4,iD (-1:Int))]) [0,0] [] 2 (wC wN) (lT lN) ?_;exact Za):G:=k a0 m
theorem Um {A0 R G:Prop}(a0:A0)(h:R)(k:A0→R→G:=by intro _a h;refine XW _a ?_;refine Kfm (d:=Kt _) (d0:=Kt _) 1 htab rfl rfl rfl rfl rfl rfl rfl (KD _a) rfl (by simp [Kah,Kt]) ?_;exact h):G:=k a0 h
theorem Kev (a0 c b f e r)(h0:KbJ a0 c=some r):CallsD Tryz.prog 61 [.v (SL e),.fn (.func 35) [] [.ptr b 0]] [(b,Blk.cells (CZ1 c) f),(0,Blk.row 4 (a0.map Kt) (SL e))] [] (fun d h k=>d=iD r∧h=[(b,Blk.cells (CZ1 c) f),(0,Blk.row 4 (a0.map Kt) (SL e))]∧k=[]):=by
 refine PZ1 h0 Tryz.func61 fun C a=>?_;refine Zn ?_;refine Zd ?_;refine XX ?_;obtain ⟨n,i,g⟩:=Ka a;refine KaG (τ:=Unit) (Y:=Unit) (fun o z=>(⟨[],[(b,Blk.cells (CZ1 c) f),(0,Blk.row 4 (a0.map Kt) (SL e))],[]⟩:S)) n ?_ ?_
 ·clear a;have a:=KE i;refine Zy a fun A p j=>?_;refine KaO (Y:=Unit) p (fun l q=>(⟨[(0,.v (SL e)),(1,.fn (.func 35) [] [.ptr b 0]),(7,iD (a0.length:Int)),(8,iD l)],[(b,Blk.cells (CZ1 c) f),(0,Blk.row 4 (a0.map Kt) (SL e))],[]⟩:S)) ?_ ?_
  ·skip
   exact ZI
  intro G23 l q a;refine Zn ?_;refine cY a (fun a=>?_) fun a=>?_
  ·refine Wb ?_
   obtain ⟨s,t,a⟩:=Ka a;refine Um t ?_;obtain ⟨u,w,a⟩:=Ka a;refine KdG (KhW s c b f u w) rfl rfl rfl rfl rfl rfl rfl Wl Pf Pf ?_;refine Zi ?_;refine Kb ?_;refine cY a (fun a=>?_) fun a=>?_
   ·refine Zd ?_;refine ZT ?_;obtain rfl:=K6 a;have a:=j
    refine ZQ ?_;obtain rfl:=Kf a;refine Ka4 ?_;have a:=g;exact WK a
   exact Xt a
  refine Zs ?_;obtain rfl:=K6 a;have a:=j
  exact Yn a
 intro o B x y;subst x;have a:=g;refine Zj a fun a=>?_;clear i g;exact WL y a
def Kdh (a0:List KT)(c:KT)(d:KT):Option (List KT×Int):=
 ((KaL a0).bind fun a=>((KbJ a d).bind fun b=>(bif (decide (b < (0:Int))) then ((app 40 a ([c]:List KT)).bind fun e=>some (e,(a.length:Int))) else ((idx a b).bind fun f=>some ((a.set b.toNat c),b)))))
theorem WM {R G:Prop}(h:R)(k:R→G:=by intro h;refine retX.wk (WkS.frz 1 rfl rfl) ?_;refine retX.wk (WkS.tld 6 1 rfl rfl) ?_;exact h):G:=k h
theorem Xs {R G:Prop}(h:R)(k:R→G:=by intro h;refine retX.wk (WkS.drop 1 rfl) ?_;exact h):G:=k h
theorem WN {R G:Prop}(h:R)(k:R→G:=by intro h;refine Kaa (d:=Kt _) 2 htab rfl rfl rfl rfl rfl rfl rfl rfl ?_;exact h):G:=k h
theorem KhX (a0 b c f l r)(h0:Kdh a0 b c=some r):CallsD Tryz.prog 34 [.lst 4 (a0.map Kt) .no,Kt b,.fn (.func 35) [] [.ptr f 0]] [(f,Blk.cells (CZ1 c) l)] [] (fun d h k=>d=.tup [.lst 4 (r.1.map Kt) .no,iD r.2]∧h=[(f,Blk.cells (CZ1 c) l)]∧k=[]):=by
 refine PZ1 h0 Tryz.func34 fun C a=>?_;refine ZH fun v=>?_;refine Zl ?_;refine Zo ?_;obtain ⟨g,p,a⟩:=Ka a;refine pG (Kc9 a0 g p) Wl Pf Pf ?_;refine Ym fun q=>?_;refine ZV ?_;obtain ⟨m,s,a⟩:=Ka a;refine pG (Kev g c f l q m s) Wl ((KZ (j:=1) rfl).trans (List.Perm.cons _ ((KZ (j:=0) rfl).trans (List.Perm.cons _ Pf)))) Pf ?_
 refine Zi ?_;refine Y3 ?_;refine cY a (fun a=>?_) fun a=>?_
 ·refine Zd ?_;refine WN ?_;refine ZJ ?_;refine p_eq (i:=19) (d':=.lst 4 (([b]:List KT).map Kt) .full) rfl (Wk.lst0 (.cons (WkC.refl _) (.nil))) ?_;obtain ⟨t,n,a⟩:=Ka a;refine o_lenZ 1 rfl (fun u=>?_);refine p_appR2 1 htab rfl rfl rfl rfl rfl rfl rfl rfl rfl rfl rfl rfl rfl rfl rfl rfl (KcH n) (Kiv n) (fun w=>?_);refine pu ?_;refine p_lenZ u htab rfl rfl rfl rfl rfl rfl rfl (by first|exact K2|rfl) ?_;refine Z8 ?_
  refine Ky ?_;obtain rfl:=Kf a;refine WM ?_;refine retX.wk (WkS.tld 20 1 rfl rfl) ?_;refine Xs ?_;refine rP (t':=[(6,.lst 4 (t.map Kt) .no),(7,iD (g.length:Int))]) [0] [] 1 (WkS.cons rfl (Wk.no) (wC wN)) (lT (lT lN)) ?_;exact Za
 refine Zm ?_;refine ZM ?_;refine WN ?_;obtain ⟨x,o,a⟩:=Ka a;refine XW o ?_;refine KfH (d:=Kt b) 1 htab rfl rfl rfl rfl rfl rfl rfl rfl rfl rfl (KgD o) (KgC (e:=Kt)) ?_;refine KH ?_;iterate 4 refine pu ?_
 refine ZG ?_;obtain rfl:=Kf a;refine WM ?_;refine retX.wk (WkS.tld 8 1 rfl rfl) ?_;refine retX.wk (WkS.tld 11 1 rfl rfl) ?_;refine retX.wk (WkS.tld 12 1 rfl rfl) ?_;refine retX.wk (WkS.tld 23 1 rfl rfl) ?_;refine retX.wk (WkS.tld 27 1 rfl rfl) ?_;refine Xs ?_;refine rP (t':=[(6,.lst 4 ((g.set m.toNat b).map Kt) .no),(7,iD m)]) [0] [] 1 (WkS.cons rfl (Wk.no) (wC wN)) (lT (lT lN)) ?_;exact Za
abbrev nlVs2_1:List (List Nat):=nlD [] [(0,[]),(0,[0]),(2,[1]),(3,[2]),(4,[3]),(0,[]),(0,[]),(5,[4,5,6]),(8,[7]),(9,[8]),(9,[8]),(10,[9]),(12,[10,11])]
def Kel (b:Kaq)(d:List UInt8):Option (Int×Int×Kaq):=
 ((KbX d).bind fun a=>(bif (a.2.2 != (0:Int)) then some (a.2.1,a.2.2,b) else ((Kdh b.gP.gd a.1 a.1).bind fun e=>((KcD b (⟨e.1,b.gP.gi⟩:KL) (-1:Int)).bind fun c=>some (c.1,c.2.1,c.2.2)))))
theorem KiL (b f e g m i r)(h0:Kel b f=some r):CallsD Tryz.prog 15 [.ptr e 0,.lst 1 (f.map byteD) .no] [(e,Blk.cells (CZ4 b.gP m i) g)] [] (fun d h k=>d=.tup [iD r.1,iD r.2.1]∧h=[(e,Blk.cells (CZ4 r.2.2.gP .no .no) g)]∧k=[]):=by
 refine PZ1 h0 Tryz.func15 fun C a=>?_;refine Zd ?_;refine Zz ?_;refine XF ?_;refine Zm ?_;refine ZD a fun c n a=>?_;refine K5 (KiK f c n) rfl rfl rfl rfl rfl Wl ?_;rintro _ rfl;iterate 4 refine pu ?_
 refine Zq fun o=>?_;refine pS1 (ds':=(CZ1 c.1)) ?_;refine pu ?_;refine Y3 ?_;refine cY a (fun a=>?_) fun a=>?_
 ·refine YA ?_
  refine Yi ?_;obtain rfl:=Kf a;refine retX.wk (WkS.bl0 (ds':=(CZ4 b.gP .no .no)) (rO (rO WkR.nil))) ?_;refine rP (t':=[(4,iD c.2.1),(5,iD c.2.2)]) [0] [] 1 (wC (wC wN)) (lT (lT lN)) ?_;exact Za
 refine ZO ?_;obtain ⟨j,p,a⟩:=Ka a;refine Kaj 12 [] [[],[0],[0,1],[0,1,2],[0,1,2,3],[],[],[0,1,2,3,4,5,6],[0,1,2,3,4,5,6,7],[0,1,2,3,4,5,6,7,8],[0,1,2,3,4,5,6,7,8],[0,1,2,3,4,5,6,7,8,9]] [0,1,2,3,4,5,6,7,8,9,11] nlVs2_1 (by kernel_rfl) (by kernel_rfl) (by kernel_rfl) (by rfl) (by rfl) (by kernel_rfl) ?_;iterate 11 apply Exists.intro
 intro bs;iterate 4 refine zep ?_
 refine Xz ?_;refine z_eM rfl rfl (KN (d:=Kt c.1) 1 htab rfl rfl rfl rfl rfl) rfl rfl rfl rfl rfl rfl ?_;refine zep ?_;refine Kfj 1 rfl rfl (KhX b.gP.gd c.1 c.1 o 74 j p) rfl rfl (WkL.cons (Wk.no) (WkL.cons (Wk.refl _) (WkL.cons (Wk.refl _) Wl))) rfl rfl rfl rfl rfl rfl rfl ?_;refine zep ?_;refine zep ?_;refine zqp ?_;refine zep ?_;refine ZC ?_;refine YI ?_;iterate 6 refine pu ?_
 refine pL 0 ?_;refine KbC (r:=[.lst 4 (j.1.map Kt) .no,.lst 5 (b.gP.gi.map KA) i]) htab rfl rfl rfl rfl rfl rfl rfl rfl rfl ?_;obtain ⟨l,q,a⟩:=Ka a;refine Ka6 (Kfb b (⟨j.1,b.gP.gi⟩:KL) (-1:Int) e g m i l q) rfl rfl rfl rfl rfl (WkL.cons (Wk.refl _) (WkL.cons (Wk.agg (rC (rO WkR.nil))) (WkL.cons (Wk.refl _) Wl))) Pf Pf ?_;refine Zi ?_;iterate 4 refine pu ?_
 refine ZG ?_;obtain rfl:=Kf a;refine rP (t':=[(4,iD l.1),(5,iD l.2.1)]) [0] [] 1 (wC (wC wN)) (lT (lT lN)) ?_;exact Za
def Kem (a0:KG)(a:KG):Option (Bool):=
 some (decide (a0.ga=a.ga))
theorem KiM (a0 a b c e f g r)(h0:Kem a0 a=some r):CallsD Tryz.prog 31 [KA a0,.ptr b 0] [(b,Blk.cells (CZ3 a e f g) c)] [] (fun d h k=>d=.v (.bool r)∧h=[(b,Blk.cells (CZ3 a e f g) c)]∧k=[]):=by
 refine PZ1 h0 Tryz.func31 fun C i=>?_;refine ZH fun j=>?_;refine Yo ?_;refine pL 1 ?_;refine YV ?_;refine Z8 ?_;obtain rfl:=Kf i;refine rP (t':=[(3,.v (.bool (decide (a0.ga=a.ga))))]) [0] [] 1 (wC wN) (lT lN) ?_;exact Za
def KbB (a0:List KG)(b:KG):Option (Int):=
 (Option.bind (α:=(Unit)⊕(Int)) (loopM (fun (a:Int)=>(bif (decide (a < (a0.length:Int))) then ((idx a0 a).bind fun c=>((Kem c b).bind fun d=>(bif d then some (.done (.inr a)) else some (.next (IntKind.i64.wrap (a+(1:Int))))))) else some (.done (.inl ())))) (0:Int)) (Sum.elim (fun e=>some (-1:Int)) (fun r=>some r)))
theorem Uo {A0 R G:Prop}(a0:A0)(h:R)(k:A0→R→G:=by intro _a h;refine XW _a ?_;refine Kfm (d:=KA _) (d0:=KA _) 1 htab rfl rfl rfl rfl rfl rfl rfl (KD _a) rfl (by simp [Kah,KA]) ?_;exact h):G:=k a0 h
theorem KeO (a0 c b f g i j e r)(h0:KbB a0 c=some r):CallsD Tryz.prog 58 [.v (SL e),.fn (.func 31) [] [.ptr b 0]] [(b,Blk.cells (CZ3 c g i j) f),(0,Blk.row 5 (a0.map KA) (SL e))] [] (fun d h k=>d=iD r∧h=[(b,Blk.cells (CZ3 c g i j) f),(0,Blk.row 5 (a0.map KA) (SL e))]∧k=[]):=by
 refine PZ1 h0 Tryz.func58 fun C a=>?_;refine Zn ?_;refine Zd ?_;refine XX ?_;obtain ⟨p,m,l⟩:=Ka a;refine KaG (τ:=Unit) (Y:=Unit) (fun q B=>(⟨[],[(b,Blk.cells (CZ3 c g i j) f),(0,Blk.row 5 (a0.map KA) (SL e))],[]⟩:S)) p ?_ ?_
 ·clear a;have a:=KE m;refine Zy a fun D s n=>?_;refine KaO (Y:=Unit) s (fun o t=>(⟨[(0,.v (SL e)),(1,.fn (.func 31) [] [.ptr b 0]),(7,iD (a0.length:Int)),(8,iD o)],[(b,Blk.cells (CZ3 c g i j) f),(0,Blk.row 5 (a0.map KA) (SL e))],[]⟩:S)) ?_ ?_
  ·skip
   exact ZI
  intro G23 o t a;refine Zn ?_;refine cY a (fun a=>?_) fun a=>?_
  ·refine Wb ?_
   obtain ⟨u,w,a⟩:=Ka a;refine Uo w ?_;obtain ⟨x,y,a⟩:=Ka a;refine KdG (KiM u c b f g i j x y) rfl rfl rfl rfl rfl rfl rfl Wl Pf Pf ?_;refine Zi ?_;refine Kb ?_;refine cY a (fun a=>?_) fun a=>?_
   ·refine Zd ?_;refine ZT ?_;obtain rfl:=K6 a;have a:=n
    refine ZQ ?_;obtain rfl:=Kf a;refine Ka4 ?_;have a:=l;exact WK a
   exact Xt a
  refine Zs ?_;obtain rfl:=K6 a;have a:=n
  exact Yn a
 intro q E z A;subst z;have a:=l;refine Zj a fun a=>?_;clear m l;exact WL A a
def KcI (a0:List KG)(c:KG)(d:KG):Option (List KG×Int):=
 ((Kbj a0).bind fun a=>((KbB a d).bind fun b=>(bif (decide (b < (0:Int))) then ((app 96 a ([c]:List KG)).bind fun e=>some (e,(a.length:Int))) else ((idx a b).bind fun f=>some ((a.set b.toNat c),b)))))
theorem WO {R G:Prop}(h:R)(k:R→G:=by intro h;refine Kaa (d:=KA _) 2 htab rfl rfl rfl rfl rfl rfl rfl rfl ?_;exact h):G:=k h
theorem KiN (a0 b c f l m n o r)(h0:KcI a0 b c=some r):CallsD Tryz.prog 30 [.lst 5 (a0.map KA) .no,KA b,.fn (.func 31) [] [.ptr f 0]] [(f,Blk.cells (CZ3 c m n o) l)] [] (fun d h k=>d=.tup [.lst 5 (r.1.map KA) .no,iD r.2]∧h=[(f,Blk.cells (CZ3 c m n o) l)]∧k=[]):=by
 refine PZ1 h0 Tryz.func30 fun C a=>?_;refine ZH fun y=>?_;refine Zl ?_;refine Zo ?_;obtain ⟨g,t,a⟩:=Ka a;refine pG (Kds a0 g t) Wl Pf Pf ?_;refine Ym fun u=>?_;refine ZV ?_;obtain ⟨p,v,a⟩:=Ka a;refine pG (KeO g c f l m n o u p v) Wl ((KZ (j:=1) rfl).trans (List.Perm.cons _ ((KZ (j:=0) rfl).trans (List.Perm.cons _ Pf)))) Pf ?_
 refine Zi ?_;refine Y3 ?_;refine cY a (fun a=>?_) fun a=>?_
 ·refine Zd ?_;refine WO ?_;refine ZJ ?_;refine p_eq (i:=19) (d':=.lst 5 (([b]:List KG).map KA) .full) rfl (Wk.lst0 (.cons (WkC.refl _) (.nil))) ?_;obtain ⟨w,q,a⟩:=Ka a;refine o_lenZ 1 rfl (fun x=>?_);refine p_appR2 1 htab rfl rfl rfl rfl rfl rfl rfl rfl rfl rfl rfl rfl rfl rfl rfl rfl (KcH q) (Kiv q) (fun z=>?_);refine pu ?_;refine p_lenZ x htab rfl rfl rfl rfl rfl rfl rfl (by first|exact K2|rfl) ?_;refine Z8 ?_;refine Ky ?_
  obtain rfl:=Kf a;refine WM ?_;refine retX.wk (WkS.tld 20 1 rfl rfl) ?_;refine Xs ?_;refine rP (t':=[(6,.lst 5 (w.map KA) .no),(7,iD (g.length:Int))]) [0] [] 1 (WkS.cons rfl (Wk.no) (wC wN)) (lT (lT lN)) ?_;exact Za
 refine Zm ?_;refine ZM ?_;refine WO ?_;obtain ⟨A,s,a⟩:=Ka a;refine XW s ?_;refine KfH (d:=KA b) 1 htab rfl rfl rfl rfl rfl rfl rfl rfl rfl rfl (KgD s) (KgC (e:=KA)) ?_;refine KH ?_;iterate 4 refine pu ?_
 refine ZG ?_;obtain rfl:=Kf a;refine WM ?_;refine retX.wk (WkS.tld 8 1 rfl rfl) ?_;refine retX.wk (WkS.tld 11 1 rfl rfl) ?_;refine retX.wk (WkS.tld 12 1 rfl rfl) ?_;refine retX.wk (WkS.tld 23 1 rfl rfl) ?_;refine retX.wk (WkS.tld 27 1 rfl rfl) ?_;refine Xs ?_;refine rP (t':=[(6,.lst 5 ((g.set p.toNat b).map KA) .no),(7,iD p)]) [0] [] 1 (WkS.cons rfl (Wk.no) (wC wN)) (lT (lT lN)) ?_;exact Za
abbrev nlVs2_2:List (List Nat):=nlD [] [(0,[]),(0,[0]),(2,[1]),(3,[2]),(4,[3]),(0,[]),(0,[]),(5,[4,5,6]),(8,[7]),(9,[8]),(9,[8]),(10,[9]),(12,[10,11])]
abbrev nlVs2_3:List (List Nat):=nlD [] [(0,[]),(0,[]),(0,[1]),(3,[2]),(4,[3]),(5,[4]),(0,[]),(6,[5,6]),(0,[]),(0,[8]),(10,[9]),(11,[10]),(12,[11]),(13,[12]),(0,[]),(14,[]),(0,[0,1,2,3,4,5,6,7,8,9,10,11,12]),(17,[16]),(18,[])]
abbrev nlVs2_4:List (List Nat):=nlD [] [(0,[]),(0,[]),(0,[1]),(3,[2]),(4,[3]),(5,[4]),(0,[]),(6,[5,6]),(0,[]),(0,[8]),(10,[9]),(11,[10]),(12,[11]),(13,[12]),(0,[]),(14,[13,14]),(0,[0,1,2,3,4,5,6,7,8,9,10,11,12,13,14,15]),(17,[16]),(18,[]),(18,[17,18]),(20,[19])]
def Kdr (a:Kaq)(e:List UInt8):Option (Int×Int×Kaq):=
 ((Kbs e).bind fun b=>(bif (b.2.2 != (0:Int)) then some (b.2.1,b.2.2,a) else ((KcI a.gP.gi b.1 b.1).bind fun d=>((KcD a (⟨a.gP.gd,d.1⟩:KL) (IntKind.i64.wrap ((a.gP.gd.length:Int)+d.2))).bind fun c=>some (c.1,c.2.1,c.2.2)))))
theorem Kgy (c q j m n s r)(h0:Kdr c q=some r):CallsD Tryz.prog 14 [.ptr j 0,.lst 1 (q.map byteD) .no] [(j,Blk.cells (CZ4 c.gP n s) m)] [] (fun d h k=>d=.tup [iD r.1,iD r.2.1]∧h=[(j,Blk.cells (CZ4 r.2.2.gP .no .no) m)]∧k=[]):=by
 refine PZ1 h0 Tryz.func14 fun C a=>?_;refine Zd ?_;refine Zz ?_;refine XF ?_;refine Zm ?_;refine ZD a fun b t a=>?_;refine pG (Kgx q b t) Wl Pf Pf ?_;rintro _ _ _ ⟨f,g,i,rfl,rfl,rfl⟩;iterate 4 refine pu ?_
 refine Zq fun o=>?_;refine pS1 (ds':=(CZ3 b.1 (.cur f) (.cur g) (.cur i))) ?_;refine pu ?_;refine Y3 ?_;refine cY a (fun a=>?_) fun a=>?_
 ·refine YA ?_
  refine Yi ?_;obtain rfl:=Kf a;refine retX.wk (WkS.bl0 (ds':=(CZ4 c.gP .no .no)) (rO (rO WkR.nil))) ?_;refine rP (t':=[(4,iD b.2.1),(5,iD b.2.2)]) [0] [] 1 (wC (wC wN)) (lT (lT lN)) ?_;exact Za
 refine ZO ?_;obtain ⟨p,u,a⟩:=Ka a;refine Kaj 12 [] [[],[0],[0,1],[0,1,2],[0,1,2,3],[],[],[0,1,2,3,4,5,6],[0,1,2,3,4,5,6,7],[0,1,2,3,4,5,6,7,8],[0,1,2,3,4,5,6,7,8],[0,1,2,3,4,5,6,7,8,9]] [0,1,2,3,4,5,6,7,8,9,11] nlVs2_2 (by kernel_rfl) (by kernel_rfl) (by kernel_rfl) (by rfl) (by rfl) (by kernel_rfl) ?_;iterate 11 apply Exists.intro
 intro bs;iterate 4 refine zep ?_
 refine Xz ?_;refine z_eM rfl rfl (KN (d:=.agg (CZ3 b.1 (.cur f) (.cur g) (.cur i))) 1 htab rfl rfl rfl rfl rfl) rfl rfl rfl rfl rfl rfl ?_;refine zep ?_;refine Kfj 1 rfl rfl (KiN c.gP.gi b.1 b.1 o 40 (.cur f) (.cur g) (.cur i) p u) rfl rfl (WkL.cons (Wk.no) (WkL.cons (Wk.agg (rC (rO (rO (rO (rC WkR.nil)))))) (WkL.cons (Wk.refl _) Wl))) rfl rfl rfl rfl rfl rfl rfl ?_;refine zep ?_;refine zep ?_;refine zqp ?_;refine zep ?_
 refine ZC ?_;refine Zz ?_;obtain ⟨l,v,a⟩:=Ka a
 refine Kfk (X:=BK) 19 [] nlVs2_3 [0,1,2,3,4,5,6,7,8,9,10,11,12,16] nlVs2_4 ⟨16,fun x=>x.1++[(o,Blk.cells (CZ3 b.1 (.cur f) (.cur g) (.cur i)) 40)],fun x=>x.2++[(2,f),(2,g),(7,i)],fun x=>x.1=[(j,Blk.cells (CZ4 l.2.2.gP .no .no) m)]∧x.2=[]⟩ ([],[]) (by kernel_rfl) (by kernel_rfl) (by kernel_rfl) (by rfl) (by rfl) (by kernel_rfl) ?_;iterate 14 apply Exists.intro
 intro bs;iterate 5 refine zx_e rfl rfl (Kam htab rfl) rfl rfl rfl rfl rfl rfl rfl rfl ?_
 refine Ub ?_;refine YT ?_;refine zx_e rfl rfl (Kfi (r:=[.lst 4 (c.gP.gd.map Kt) n,.lst 5 (p.1.map KA) .no]) htab rfl rfl rfl rfl rfl rfl) rfl rfl rfl rfl rfl rfl rfl rfl ?_;iterate 4 refine zx_e rfl rfl (Kam htab rfl) rfl rfl rfl rfl rfl rfl rfl rfl ?_
 refine Ub ?_;refine zx_q rfl rfl (Kef htab rfl rfl rfl rfl (by first|exact K2|rfl)) rfl rfl rfl rfl rfl rfl ?_;refine XC ?_;refine XC ?_
 refine KgB (h1:=[(j,Blk.cells (CZ4 c.gP n s) m)]) (k1:=[]) (d:=.tup [iD l.1,iD l.2.1]) rfl rfl rfl (Kfb c (⟨c.gP.gd,p.1⟩:KL) (IntKind.i64.wrap ((c.gP.gd.length:Int)+p.2)) j m n s l v) rfl rfl (WkL.cons (Wk.refl _) (WkL.cons (Wk.agg (rO (rC WkR.nil))) (WkL.cons (Wk.refl _) Wl))) Pf Pf (fun _=>rfl) (fun _=>rfl) (fun d' h' k' ⟨w,y,z⟩=>⟨⟨y,z⟩,by subst w;exact Wk.refl _⟩) rfl rfl rfl rfl rfl rfl ?_;refine XC ?_;refine XC ?_
 refine Khe (h2:=[(o,Blk.cells (CZ3 b.1 (.cur f) (.cur g) (.cur i)) 40)]) (hz:=[(o,Blk.cells (CZ3 b.1 (.cur f) (.cur g) (.cur i)) 40)]) rfl rfl (fun _=>rfl) (fun _=>rfl) rfl (fun e he=>by simp [isAl] at he) ?_;rintro _ _ ⟨rfl,rfl⟩;refine Z8 ?_;obtain rfl:=Kf a;refine rP (t':=[(4,iD l.1),(5,iD l.2.1)]) [0] [] 1 (wC (wC wN)) (lT (lT lN)) ?_
 exact Za
def KdD (a0:KT)(a:ByteArray):Option (Bool):=
 some (decide (a0.ga=a))
theorem KfY (a0 a b c r)(h0:KdD a0 a=some r):CallsD Tryz.prog 38 [Kt a0,.ptr b 0] [(b,Blk.cells [tD a] c)] [] (fun d h k=>d=.v (.bool r)∧h=[(b,Blk.cells [tD a] c)]∧k=[]):=by
 refine PZ1 h0 Tryz.func38 fun C e=>?_;refine ZH fun f=>?_;refine Yo ?_;refine pL 1 ?_;refine pL 0 ?_;refine Z8 ?_;obtain rfl:=Kf e;refine rP (t':=[(3,.v (.bool (decide (a0.ga=a))))]) [0] [] 1 (wC wN) (lT lN) ?_;exact Za
def Kbf (a0:List KT)(b:ByteArray):Option (Int):=
 (Option.bind (α:=(Unit)⊕(Int)) (loopM (fun (a:Int)=>(bif (decide (a < (a0.length:Int))) then ((idx a0 a).bind fun c=>((KdD c b).bind fun d=>(bif d then some (.done (.inr a)) else some (.next (IntKind.i64.wrap (a+(1:Int))))))) else some (.done (.inl ())))) (0:Int)) (Sum.elim (fun e=>some (-1:Int)) (fun r=>some r)))
theorem Ket (a0 c b f e r)(h0:Kbf a0 c=some r):CallsD Tryz.prog 61 [.v (SL e),.fn (.func 38) [] [.ptr b 0]] [(b,Blk.cells [tD c] f),(0,Blk.row 4 (a0.map Kt) (SL e))] [] (fun d h k=>d=iD r∧h=[(b,Blk.cells [tD c] f),(0,Blk.row 4 (a0.map Kt) (SL e))]∧k=[]):=by
 refine PZ1 h0 Tryz.func61 fun C a=>?_;refine Zn ?_;refine Zd ?_;refine XX ?_;obtain ⟨m,i,g⟩:=Ka a;refine KaG (τ:=Unit) (Y:=Unit) (fun n y=>(⟨[],[(b,Blk.cells [tD c] f),(0,Blk.row 4 (a0.map Kt) (SL e))],[]⟩:S)) m ?_ ?_
 ·clear a;have a:=KE i;refine Zy a fun z o j=>?_;refine KaO (Y:=Unit) o (fun l p=>(⟨[(0,.v (SL e)),(1,.fn (.func 38) [] [.ptr b 0]),(7,iD (a0.length:Int)),(8,iD l)],[(b,Blk.cells [tD c] f),(0,Blk.row 4 (a0.map Kt) (SL e))],[]⟩:S)) ?_ ?_
  ·skip
   exact ZI
  intro G23 l p a;refine Zn ?_;refine cY a (fun a=>?_) fun a=>?_
  ·refine Wb ?_
   obtain ⟨q,s,a⟩:=Ka a;refine Um s ?_;obtain ⟨t,u,a⟩:=Ka a;refine KdG (KfY q c b f t u) rfl rfl rfl rfl rfl rfl rfl Wl Pf Pf ?_;refine Zi ?_;refine Kb ?_;refine cY a (fun a=>?_) fun a=>?_
   ·refine Zd ?_;refine ZT ?_;obtain rfl:=K6 a;have a:=j
    refine ZQ ?_;obtain rfl:=Kf a;refine Ka4 ?_;have a:=g;exact WK a
   exact Xt a
  refine Zs ?_;obtain rfl:=K6 a;have a:=j
  exact Yn a
 intro n A w x;subst w;have a:=g;refine Zj a fun a=>?_;clear i g;exact WL x a
def KaU (a0:List KT)(d:ByteArray):Option (List KT):=
 ((Kbf a0 d).bind fun c=>(bif (c==(-1:Int)) then some a0 else (Option.bind (α:=Int×List KT) (loopM (fun (a:Int×Int×List KT)=>(bif (decide (a.2.1 < (a.2.2.length:Int))) then ((idx a.2.2 a.2.1).bind fun e=>((KdD e d).bind fun f=>(bif (!f) then ((idx a.2.2 a.1).bind fun h=>some (.next ((IntKind.i64.wrap (a.1+(1:Int))),(IntKind.i64.wrap (a.2.1+(1:Int))),(a.2.2.set a.1.toNat e)))) else some (.next (a.1,(IntKind.i64.wrap (a.2.1+(1:Int))),a.2.2))))) else some (.done (a.1,a.2.2)))) (c,(IntKind.i64.wrap (c+(1:Int))),a0)) fun b=>((cutL b.2 b.1 ((b.2).length:Int)).bind fun i=>((cutL (clrL b.2 b.1.toNat qZ11) (0:Int) b.1).bind fun g=>some g)))))
theorem Kc7 (a0 c b i g r)(h0:KaU a0 c=some r):CallsD Tryz.prog 36 [.v (SL g),.fn (.func 38) [] [.ptr b 0]] [(b,Blk.cells [tD c] i),(0,Blk.row 4 (a0.map Kt) (SL g))] [] (fun d h k=>d=.lst 4 (r.map Kt) .no∧h=[(b,Blk.cells [tD c] i)]∧k=[]):=by
 refine PZ1 h0 Tryz.func36 fun C a=>?_;refine Zd ?_;refine ZV ?_;obtain ⟨s,t,a⟩:=Ka a;refine pG (Ket a0 c b i g s t) Wl Pf Pf ?_;refine Zi ?_;refine Y3 ?_;refine cY a (fun a=>?_) fun a=>?_
 ·refine Yz ?_;refine Ky ?_;obtain rfl:=Kf a;refine retX.wk (WkS.frz 1 rfl rfl) ?_;refine retX.wk (WkS.tld 0 1 rfl rfl) ?_;refine retX.wk (WkS.tld 4 1 rfl rfl) ?_;refine retX.wk (WkS.tld 8 1 rfl rfl) ?_;refine retX.wk (WkS.tld 13 1 rfl rfl) ?_;refine Xs ?_;refine rP (t':=[(4,.lst 4 (a0.map Kt) .no)]) [0] [] 1 (WkS.cons rfl (Wk.no) wN) (lT lN) ?_;exact Za
 refine ZO ?_;refine ZS ?_
 refine Kb ?_;obtain ⟨m,n,o⟩:=Ka a;refine Kaf (Y:=Unit) (fun u=>(⟨[(0,.v (SL g)),(5,iD m.1)],[(b,Blk.cells [tD c] i),(0,Blk.row 4 (m.2.map Kt) (SL g))],[]⟩:S)) ?_ ?_
 ·clear a;have a:=KE n;refine Zy a fun G w x=>?_;refine KaO (Y:=Unit) w (fun j y=>(⟨[(0,.v (SL g)),(1,.fn (.func 38) [] [.ptr b 0]),(5,iD j.1),(6,iD j.2.1)],[(b,Blk.cells [tD c] i),(0,Blk.row 4 (j.2.2.map Kt) (SL g))],[]⟩:S)) ?_ ?_
  ·skip
   exact ZI
  intro G35 j y a;refine YX ?_;refine XX ?_;refine cY a (fun a=>?_) fun a=>?_
  ·refine Z0 ?_;refine ZM ?_;obtain ⟨l,z,a⟩:=Ka a;refine Um z ?_;refine Zq fun I=>?_;refine pS2 (ds':=(CZ1 l)) ?_;refine Zo ?_;refine WN ?_
   obtain ⟨A,B,a⟩:=Ka a;refine KdG (KfY l c b i A B) rfl rfl rfl rfl rfl rfl rfl Wl Pf Pf ?_;refine YS ?_;refine cY a (fun a=>?_) fun a=>?_
   ·refine ZM ?_;refine WN ?_;obtain ⟨J,p,a⟩:=Ka a;refine XW p ?_;refine KfH (d:=Kt l) 1 htab rfl rfl rfl rfl rfl rfl rfl rfl rfl rfl (KgD p) (KgC (e:=Kt)) ?_;refine Kb ?_;refine ZW ?_
    refine YQ ?_;exact Xi a
   refine ZK ?_;exact Xi a
  refine Zs ?_;obtain rfl:=K6 a;have a:=x
  refine Z9 ?_;exact YC a
 intro K D;have a:=o;clear n o;refine Zb D fun u=>?_;refine ZM ?_;obtain ⟨L,q,a⟩:=Ka a;refine p_tailR 1 q htab rfl rfl rfl rfl rfl rfl rfl rfl rfl rfl rfl rfl rfl ?_;refine p_clearR (x0:=Kt qZ11) 1 htab rfl rfl rfl rfl rfl rfl rfl rfl rfl rfl rfl rfl (fun H=>by exact rz_agg (KbP rz_v rfl rfl (KbP rz_v rfl rfl (KbP rz_v rfl rfl (KbP rz_v rfl rfl rz_nil))))) (clr_le q) (clr_map (f:=Kt)) ?_;refine ZV ?_;obtain ⟨E,F,a⟩:=Ka a
 refine p_cutR 1 F htab rfl rfl rfl rfl rfl rfl rfl rfl rfl rfl rfl rfl (fun M=>?_);refine Zu ?_;obtain rfl:=Kf a;refine retX.wk (WkS.frz 1 rfl rfl) ?_;refine retX.wk (WkS.tld 4 1 rfl rfl) ?_;refine retX.wk (WkS.tld 41 1 rfl rfl) ?_;refine Xs ?_;refine rP (t':=[(4,.lst 4 (E.map Kt) .no)]) [0] [] 1 (WkS.cons rfl (Wk.no) wN) (lT lN) ?_;exact Za
def KdE (a0:KG)(a:ByteArray):Option (Bool):=
 some (decide (a0.ga=a))
theorem KfZ (a0 a b c r)(h0:KdE a0 a=some r):CallsD Tryz.prog 41 [KA a0,.ptr b 0] [(b,Blk.cells [tD a] c)] [] (fun d h k=>d=.v (.bool r)∧h=[(b,Blk.cells [tD a] c)]∧k=[]):=by
 refine PZ1 h0 Tryz.func41 fun C e=>?_;refine ZH fun f=>?_;refine Yo ?_;refine pL 1 ?_;refine pL 0 ?_;refine Z8 ?_;obtain rfl:=Kf e;refine rP (t':=[(3,.v (.bool (decide (a0.ga=a))))]) [0] [] 1 (wC wN) (lT lN) ?_;exact Za
def Kbt (a0:List KG)(b:ByteArray):Option (Int):=
 (Option.bind (α:=(Unit)⊕(Int)) (loopM (fun (a:Int)=>(bif (decide (a < (a0.length:Int))) then ((idx a0 a).bind fun c=>((KdE c b).bind fun d=>(bif d then some (.done (.inr a)) else some (.next (IntKind.i64.wrap (a+(1:Int))))))) else some (.done (.inl ())))) (0:Int)) (Sum.elim (fun e=>some (-1:Int)) (fun r=>some r)))
theorem KeJ (a0 c b f e r)(h0:Kbt a0 c=some r):CallsD Tryz.prog 58 [.v (SL e),.fn (.func 41) [] [.ptr b 0]] [(b,Blk.cells [tD c] f),(0,Blk.row 5 (a0.map KA) (SL e))] [] (fun d h k=>d=iD r∧h=[(b,Blk.cells [tD c] f),(0,Blk.row 5 (a0.map KA) (SL e))]∧k=[]):=by
 refine PZ1 h0 Tryz.func58 fun C a=>?_;refine Zn ?_;refine Zd ?_;refine XX ?_;obtain ⟨m,i,g⟩:=Ka a;refine KaG (τ:=Unit) (Y:=Unit) (fun n y=>(⟨[],[(b,Blk.cells [tD c] f),(0,Blk.row 5 (a0.map KA) (SL e))],[]⟩:S)) m ?_ ?_
 ·clear a;have a:=KE i;refine Zy a fun z o j=>?_;refine KaO (Y:=Unit) o (fun l p=>(⟨[(0,.v (SL e)),(1,.fn (.func 41) [] [.ptr b 0]),(7,iD (a0.length:Int)),(8,iD l)],[(b,Blk.cells [tD c] f),(0,Blk.row 5 (a0.map KA) (SL e))],[]⟩:S)) ?_ ?_
  ·skip
   exact ZI
  intro G23 l p a;refine Zn ?_;refine cY a (fun a=>?_) fun a=>?_
  ·refine Wb ?_
   obtain ⟨q,s,a⟩:=Ka a;refine Uo s ?_;obtain ⟨t,u,a⟩:=Ka a;refine KdG (KfZ q c b f t u) rfl rfl rfl rfl rfl rfl rfl Wl Pf Pf ?_;refine Zi ?_;refine Kb ?_;refine cY a (fun a=>?_) fun a=>?_
   ·refine Zd ?_;refine ZT ?_;obtain rfl:=K6 a;have a:=j
    refine ZQ ?_;obtain rfl:=Kf a;refine Ka4 ?_;have a:=g;exact WK a
   exact Xt a
  refine Zs ?_;obtain rfl:=K6 a;have a:=j
  exact Yn a
 intro n A w x;subst w;have a:=g;refine Zj a fun a=>?_;clear i g;exact WL x a
def Ka0 (a0:List KG)(d:ByteArray):Option (List KG):=
 ((Kbt a0 d).bind fun c=>(bif (c==(-1:Int)) then some a0 else (Option.bind (α:=Int×List KG) (loopM (fun (a:Int×Int×List KG)=>(bif (decide (a.2.1 < (a.2.2.length:Int))) then ((idx a.2.2 a.2.1).bind fun e=>((KdE e d).bind fun f=>(bif (!f) then ((idx a.2.2 a.1).bind fun h=>some (.next ((IntKind.i64.wrap (a.1+(1:Int))),(IntKind.i64.wrap (a.2.1+(1:Int))),(a.2.2.set a.1.toNat e)))) else some (.next (a.1,(IntKind.i64.wrap (a.2.1+(1:Int))),a.2.2))))) else some (.done (a.1,a.2.2)))) (c,(IntKind.i64.wrap (c+(1:Int))),a0)) fun b=>((cutL b.2 b.1 ((b.2).length:Int)).bind fun i=>((cutL (clrL b.2 b.1.toNat qZ15) (0:Int) b.1).bind fun g=>some g)))))
theorem Kdp (a0 c b i g r)(h0:Ka0 a0 c=some r):CallsD Tryz.prog 39 [.v (SL g),.fn (.func 41) [] [.ptr b 0]] [(b,Blk.cells [tD c] i),(0,Blk.row 5 (a0.map KA) (SL g))] [] (fun d h k=>d=.lst 5 (r.map KA) .no∧h=[(b,Blk.cells [tD c] i)]∧k=[]):=by
 refine PZ1 h0 Tryz.func39 fun C a=>?_;refine Zd ?_;refine ZV ?_;obtain ⟨s,t,a⟩:=Ka a;refine pG (KeJ a0 c b i g s t) Wl Pf Pf ?_;refine Zi ?_;refine Y3 ?_;refine cY a (fun a=>?_) fun a=>?_
 ·refine Yz ?_;refine Ky ?_;obtain rfl:=Kf a;refine retX.wk (WkS.frz 1 rfl rfl) ?_;refine retX.wk (WkS.tld 0 1 rfl rfl) ?_;refine retX.wk (WkS.tld 4 1 rfl rfl) ?_;refine retX.wk (WkS.tld 8 1 rfl rfl) ?_;refine retX.wk (WkS.tld 13 1 rfl rfl) ?_;refine Xs ?_;refine rP (t':=[(4,.lst 5 (a0.map KA) .no)]) [0] [] 1 (WkS.cons rfl (Wk.no) wN) (lT lN) ?_;exact Za
 refine ZO ?_;refine ZS ?_
 refine Kb ?_;obtain ⟨m,n,o⟩:=Ka a;refine Kaf (Y:=Unit) (fun u=>(⟨[(0,.v (SL g)),(5,iD m.1)],[(b,Blk.cells [tD c] i),(0,Blk.row 5 (m.2.map KA) (SL g))],[]⟩:S)) ?_ ?_
 ·clear a;have a:=KE n;refine Zy a fun G w x=>?_;refine KaO (Y:=Unit) w (fun j y=>(⟨[(0,.v (SL g)),(1,.fn (.func 41) [] [.ptr b 0]),(5,iD j.1),(6,iD j.2.1)],[(b,Blk.cells [tD c] i),(0,Blk.row 5 (j.2.2.map KA) (SL g))],[]⟩:S)) ?_ ?_
  ·skip
   exact ZI
  intro G35 j y a;refine YX ?_;refine XX ?_;refine cY a (fun a=>?_) fun a=>?_
  ·refine Z0 ?_;refine ZM ?_;obtain ⟨l,z,a⟩:=Ka a;refine Uo z ?_;refine Zq fun I=>?_;refine pS2 (ds':=(CZ3 l .no .no .no)) ?_;refine Zo ?_
   refine WO ?_;obtain ⟨A,B,a⟩:=Ka a;refine KdG (KfZ l c b i A B) rfl rfl rfl rfl rfl rfl rfl Wl Pf Pf ?_;refine YS ?_;refine cY a (fun a=>?_) fun a=>?_
   ·refine ZM ?_;refine WO ?_;obtain ⟨J,p,a⟩:=Ka a;refine XW p ?_;refine KfH (d:=KA l) 1 htab rfl rfl rfl rfl rfl rfl rfl rfl rfl rfl (KgD p) (KgC (e:=KA)) ?_;refine Kb ?_;refine ZW ?_
    refine YQ ?_;exact Xi a
   refine ZK ?_;exact Xi a
  refine Zs ?_;obtain rfl:=K6 a;have a:=x
  refine Z9 ?_;exact YC a
 intro K D;have a:=o;clear n o;refine Zb D fun u=>?_;refine ZM ?_;obtain ⟨L,q,a⟩:=Ka a;refine p_tailR 1 q htab rfl rfl rfl rfl rfl rfl rfl rfl rfl rfl rfl rfl rfl ?_;refine p_clearR (x0:=KA qZ15) 1 htab rfl rfl rfl rfl rfl rfl rfl rfl rfl rfl rfl rfl (fun H=>by exact rz_agg (KbP rz_v rfl rfl (KbP rz_l rfl rfl (KbP rz_l rfl rfl (KbP rz_l rfl rfl (KbP rz_v rfl rfl rz_nil)))))) (clr_le q) (clr_map (f:=KA)) ?_;refine ZV ?_;obtain ⟨E,F,a⟩:=Ka a
 refine p_cutR 1 F htab rfl rfl rfl rfl rfl rfl rfl rfl rfl rfl rfl rfl (fun M=>?_);refine Zu ?_;obtain rfl:=Kf a;refine retX.wk (WkS.frz 1 rfl rfl) ?_;refine retX.wk (WkS.tld 4 1 rfl rfl) ?_;refine retX.wk (WkS.tld 41 1 rfl rfl) ?_;refine Xs ?_;refine rP (t':=[(4,.lst 5 (E.map KA) .no)]) [0] [] 1 (WkS.cons rfl (Wk.no) wN) (lT lN) ?_;exact Za
abbrev nlVs2_5:List (List Nat):=nlD [] [(0,[]),(0,[0]),(2,[1]),(3,[2]),(4,[3]),(5,[4]),(0,[]),(6,[5,6]),(0,[]),(0,[8]),(10,[9]),(11,[10]),(12,[11]),(8,[7,8,9,10,11,12]),(0,[]),(14,[13,14]),(16,[15]),(0,[])]
abbrev nlVs2_6:List (List Nat):=nlD [] [(0,[]),(0,[0]),(2,[1]),(3,[2]),(4,[3]),(5,[4]),(0,[]),(6,[5,6]),(0,[]),(0,[8]),(10,[9]),(11,[10]),(12,[11]),(8,[7,8,9,10,11,12]),(0,[]),(14,[13,14]),(16,[15]),(0,[]),(17,[16,17])]
abbrev nlVs2_7:List (List Nat):=nlD [] [(0,[]),(0,[0]),(2,[1]),(0,[]),(0,[3]),(5,[4]),(6,[5]),(7,[6]),(8,[7]),(3,[3,4,5,6,7]),(10,[]),(10,[]),(10,[11]),(13,[12]),(10,[]),(10,[14]),(16,[15]),(17,[16]),(18,[17]),(19,[18])]
abbrev nlVs2_8:List (List Nat):=nlD [] [(0,[]),(0,[0]),(2,[1]),(0,[]),(0,[3]),(5,[4]),(6,[5]),(7,[6]),(8,[7]),(3,[2,3,4,5,6,7,8]),(10,[9]),(11,[10]),(12,[11]),(13,[12]),(12,[]),(12,[14]),(16,[15]),(17,[16]),(18,[17]),(19,[18]),(14,[13,14,15,16,17,18,19]),(21,[20])]
abbrev nlVs2_9:List (List Nat):=nlD [] [(0,[]),(0,[0]),(2,[1]),(0,[]),(0,[3]),(5,[4]),(6,[5]),(7,[6]),(8,[7]),(3,[3,4,5,6,7]),(10,[]),(10,[]),(10,[]),(10,[]),(10,[]),(10,[]),(10,[]),(10,[]),(10,[]),(10,[])]
def Kc5 (a:Kaq)(b:ByteArray):Option (Int×Kaq):=
 ((KaL a.gP.gd).bind fun f=>((KaU f b).bind fun c=>((Kbj a.gP.gi).bind fun g=>((Ka0 g b).bind fun d=>(Option.bind (α:=Bool) (bif ((c.length:Int)==(a.gP.gd.length:Int)) then some ((d.length:Int)==(a.gP.gi.length:Int)) else some false) fun h=>(bif h then some ((7:Int),a) else ((KcD a (⟨c,d⟩:KL) (-1:Int)).bind fun e=>some (e.2.1,e.2.2))))))))
theorem Up {R G:Prop}(h:R)(k:R→G:=by intro h;refine zep ?_;refine z_eM rfl rfl (KN 2 htab rfl rfl rfl rfl rfl) rfl rfl rfl rfl rfl rfl ?_;refine X7 ?_;(iterate 4 refine zep ?_);refine Xz ?_;refine X7 ?_;exact h):G:=k h
theorem Kgz (f g m o u w r)(h0:Kc5 f g=some r):CallsD Tryz.prog 16 [.ptr m 0,tD g] [(m,Blk.cells (CZ4 f.gP u w) o)] [] (fun d h k=>d=iD r.1∧h=[(m,Blk.cells (CZ4 r.2.gP .no .no) o)]∧k=[]):=by
 refine PZ1 h0 Tryz.func16 fun C a=>?_;refine ZH fun n=>?_;refine Zz ?_;refine XF ?_;refine ZO ?_;obtain ⟨p,P,a⟩:=Ka a;obtain ⟨i,B,a⟩:=Ka a;obtain ⟨q,Q,a⟩:=Ka a;obtain ⟨l,D,a⟩:=Ka a
 refine wpD_drawsG (cl:=[(5,7),(13,15)]) 18 [(17,[.lst 1 [] .full,.lst 1 [] .full],34)] [5,13] [5,13] (fun e v hb kb=>match e with|5=>∃ c,v=(SL c)∧hb=[(0,Blk.row 4 (p.map Kt) (SL c))]∧kb=[]|13=>∃ c,v=(SL c)∧hb=[(0,Blk.row 5 (q.map KA) (SL c))]∧kb=[]|_=>False) (fun _=>[]) (fun _=>[]) [(m,Blk.cells (CZ4 f.gP u w) o),(n,Blk.cells [tD g] 9)] [] Pf Pf nlVs2_5 [0,1,2,3,4,5,6,7,8,9,10,11,12,13,14,15,16,17] nlVs2_6 (by kernel_rfl) (by kernel_rfl) (by kernel_rfl) (by rfl) (by rfl) (by kernel_rfl) ?_;iterate 5 apply Exists.intro
 refine ⟨.any,?_⟩;iterate 7 apply Exists.intro
 refine ⟨.any,?_⟩;iterate 3 apply Exists.intro
 refine ⟨.any,?_⟩;intro bs;iterate 4 refine zg_e rfl rfl (Kam htab rfl) rfl rfl rfl rfl rfl rfl rfl ?_
 refine zg_eM rfl rfl (KN 0 htab rfl rfl rfl rfl rfl) rfl rfl rfl rfl rfl rfl rfl ?_;refine zg_callV rfl rfl (Kc9 f.gP.gd p P) rfl rfl rfl rfl (WkL.cons (Wk.no) Wl) rfl rfl rfl rfl rfl rfl (by decide) rfl (fun H d hb kb v ⟨c,s,x,y⟩ hr=>⟨(show ∃ c,v=(SL c)∧hb=[(0,Blk.row 4 (p.map Kt) (SL c))]∧kb=[] from ⟨c,by subst s;exact KW hr,x,y⟩),by subst s;rw [KW hr];rfl⟩) ?_;refine zg_e rfl rfl (Kam htab rfl) rfl rfl rfl rfl rfl rfl rfl ?_
 refine zg_callF (d:=.lst 4 (i.map Kt) .no) 5 [(n,Blk.cells [tD g] 9)] _ rfl rfl (Kc7 p g n 9 (none,0,0) i B).1 rfl rfl rfl rfl rfl rfl rfl rfl rfl (by decide) rfl rfl rfl ((KZ (j:=1) rfl).trans (List.Perm.cons _ Pf)) (fun T U ⟨yc,f1,z,A⟩=>by rw [f1,z,A];exact Kc7 p g n 9 yc i B) ?_;iterate 4 refine zg_e rfl rfl (Kam htab rfl) rfl rfl rfl rfl rfl rfl rfl ?_
 refine zg_eM rfl rfl (KN 0 htab rfl rfl rfl rfl rfl) rfl rfl rfl rfl rfl rfl rfl ?_;refine zg_callV rfl rfl (Kds f.gP.gi q Q) rfl rfl rfl rfl (WkL.cons (Wk.no) Wl) rfl rfl rfl rfl rfl rfl (by decide) rfl (fun H d hb kb v ⟨c,s,x,y⟩ hr=>⟨(show ∃ c,v=(SL c)∧hb=[(0,Blk.row 5 (q.map KA) (SL c))]∧kb=[] from ⟨c,by subst s;exact KW hr,x,y⟩),by subst s;rw [KW hr];rfl⟩) ?_;refine zg_e rfl rfl (Kam htab rfl) rfl rfl rfl rfl rfl rfl rfl ?_
 refine zg_callF (d:=.lst 5 (l.map KA) .no) 13 [(n,Blk.cells [tD g] 9)] _ rfl rfl (Kdp q g n 9 (none,0,0) l D).1 rfl rfl rfl rfl rfl rfl rfl rfl rfl (by decide) rfl rfl rfl ((KZ (j:=1) rfl).trans (List.Perm.cons _ Pf)) (fun T U ⟨yc,f1,z,A⟩=>by rw [f1,z,A];exact Kdp q g n 9 yc l D) ?_;refine zg_e rfl rfl (Kfi (r:=[.lst 4 (i.map Kt) .no,.lst 5 (l.map KA) .no]) htab rfl rfl rfl rfl rfl rfl) rfl rfl rfl rfl rfl rfl rfl ?_;refine zg_alloc rfl htab rfl rfl rfl rfl rfl rfl rfl rfl rfl (by simp [dOf,eI64]) (by simp) ?_
 refine zg_nil (fun e he=>by simp [isG] at he;rcases he with rfl|rfl<;>rfl) (by decide) (fun e he=>by simp [isAl] at he;subst he;rfl) (fun gs ks hz=>?_);obtain ⟨E,F⟩:gs 5=[]∧ks 5=[]:=hz 5 rfl;obtain ⟨I,J⟩:gs 13=[]∧ks 13=[]:=hz 13 rfl;simp only [List.map_cons,List.map_nil,List.flatMap_cons,List.flatMap_nil,List.nil_append,List.append_nil,List.cons_append,E,F,I,J];clear hz E F I J;obtain ⟨K,L⟩:∃ b,blk (bs 17)=b:=⟨_,rfl⟩;simp only [L];clear L;refine pS2 (ds':=[.lst 4 (i.map Kt) .no,.lst 5 (l.map KA) .no]) ?_;refine Zr ?_;refine ZA a fun V M N=>?_
 refine Kaf (Y:=Unit) (fun W=>(⟨[(0,.ptr m 0),(5,.ptr K 0),(48,.v (.bool V))],[(m,Blk.cells (CZ4 f.gP u w) o),(K,Blk.cells [.lst 4 (i.map Kt) .no,.lst 5 (l.map KA) .no] 34)],[]⟩:S)) ?_ ?_
 ·clear a;have a:=KE M;refine bycB ((i.length:Int)==(f.gP.gd.length:Int)) (fun t=>?_) (fun t=>?_)
  ·replace a:=yes_t t a;refine Kaj 20 [] nlVs2_7 [0,1,3,4,5,6,7,11,12,14,15,16,17,18] nlVs2_8 (by kernel_rfl) (by kernel_rfl) (by kernel_rfl) (by rfl) (by rfl) (by kernel_rfl) ?_;iterate 14 apply Exists.intro
   intro bs;refine Up ?_
   refine Yb ?_;refine K1 (j:=37) (b':=true) rfl t ?_;refine Up ?_
   refine ZC ?_;refine pu ?_;refine ZB ?_;refine KC ?_;obtain rfl:=Kf a;refine ⟨rfl,?_⟩;exact wO (WkS.perm (wC (wC (wC wN))) ((KZ (j:=0) rfl).trans (List.Perm.cons _ ((KZ (j:=1) rfl).trans (List.Perm.cons _ Pf)))) Pf)
  replace a:=yes_f t a;refine Kaj 20 [] nlVs2_9 [0,1,3,4,5,6,7] nlVs2_8 (by kernel_rfl) (by kernel_rfl) (by kernel_rfl) (by rfl) (by rfl) (by kernel_rfl) ?_;iterate 7 apply Exists.intro
  intro bs;refine Up ?_
  refine Yb ?_;refine K1 (j:=37) (b':=false) rfl t ?_;iterate 9 refine zK ?_
  refine ZC ?_;refine pK ?_;refine ZE ?_;refine KC ?_;obtain rfl:=Kf a;refine ⟨rfl,?_⟩;exact wO (WkS.perm (wC (wC (wC wN))) ((KZ (j:=0) rfl).trans (List.Perm.cons _ ((KZ (j:=1) rfl).trans (List.Perm.cons _ Pf)))) Pf)
 intro aa X;have a:=N;clear M N;refine Zb X fun W=>?_;refine cY a (fun a=>?_) fun a=>?_
 ·refine Ye ?_;obtain rfl:=Kf a;refine retX.wk (WkS.bl0 (ds':=(CZ4 f.gP .no .no)) (rO (rO WkR.nil))) ?_;refine rP (t':=[(4,iD (7:Int))]) [0] [] 1 (wC wN) (lT lN) ?_;exact Za
 refine Zm ?_;refine Zd ?_;refine Kaa (d:=Kbo (⟨i,l⟩:KL)) 1 htab rfl rfl rfl rfl rfl rfl rfl rfl ?_;obtain ⟨O,Z,a⟩:=Ka a;refine pG (Kfb f (⟨i,l⟩:KL) (-1:Int) m o u w O Z) Wl Pf Pf ?_;refine Zi ?_;iterate 5 refine pu ?_
 refine Zo ?_;refine Zu ?_;obtain rfl:=Kf a;refine rP (t':=[(4,iD O.2.1)]) [0] [] 1 (wC wN) (lT lN) ?_;exact Za
end
section
open Go
set_option maxRecDepth 100000
def KbH (b:K8)(a:ByteArray):Option (Int×Unit×K8):=
 ((app 1 b.gx a.data.toList).bind fun c=>some ((a.size:Int),(),(⟨c⟩:K8)))
theorem Kd6 (b c a f r)(h0:KbH b c=some r):CallsD Tryz.prog 28 [.ptr a 0,tD c] [(a,Blk.cells [.slf a,.v (SL f)] 58),(0,Blk.opq (bufO 5 b.gx f))] [] (fun d h k=>∃ i,d=.tup [iD r.1,.v .nilIface]∧h=[(a,Blk.cells [.slf a,.v (SL i)] 58),(0,Blk.opq (bufO 5 r.2.2.gx i))]∧k=[]):=by
 refine PZ1 h0 Tryz.func28 fun C g=>?_;refine ZM ?_;refine Zo ?_;refine pG (copyT_ok b a f) Wl Pf Pf ?_;refine Yc ?_;iterate 4 refine pu ?_
 refine pL 0 ?_;refine pu ?_;obtain ⟨l,j,g⟩:=Ka g;refine p_appS 1 htab rfl rfl rfl rfl rfl rfl rfl rfl rfl rfl rfl rfl rfl rfl rfl rfl (by simpa using KcH (e:=byteD) j) (app_zs j) (fun v1=>?_);refine Zl ?_;refine pS0 (ds':=[.slf a,.v (SL v1)]) ?_;refine Zo ?_;refine p_lenS htab rfl rfl rfl rfl rfl rfl rfl rfl ?_;refine Z8 ?_;obtain rfl:=Kf g;refine rP (t':=[(4,iD (c.size:Int)),(5,.v .nilIface)]) [0,0] [] 2 (wC (wC wN)) (lT (lT lN)) ?_;exact ⟨v1,rfl,rfl,rfl⟩
def Kc8 (c:Kaq):Option (ByteArray):=
 (Option.bind (α:=List UInt8) (loopM (fun (a:Int×List UInt8)=>(bif (decide (a.1 < (c.gP.gd.length:Int))) then ((idx c.gP.gd a.1).bind fun e=>((Ke4 e).bind fun f=>((KbH (⟨a.2⟩:K8) f).bind fun g=>some (.next ((IntKind.i64.wrap (a.1+(1:Int))),g.2.2.gx))))) else some (.done a.2))) ((0:Int),([]:List UInt8))) fun h=>(Option.bind (α:=List UInt8) (loopM (fun (b:Int×List UInt8)=>(bif (decide (b.1 < (c.gP.gi.length:Int))) then ((idx c.gP.gi b.1).bind fun i=>((Kfo i).bind fun j=>((KbH (⟨b.2⟩:K8) j).bind fun k=>some (.next ((IntKind.i64.wrap (b.1+(1:Int))),k.2.2.gx))))) else some (.done b.2))) ((0:Int),h)) fun d=>((need (strTK (⟨d⟩:K8))).bind fun l=>some (strT (⟨d⟩:K8)).1)))
theorem KdI (c e i f g r)(h0:Kc8 c=some r):CallsD Tryz.prog 11 [.ptr e 0] [(e,Blk.cells (CZ4 c.gP f g) i)] [] (fun d h k=>d=tD r∧h=[(e,Blk.cells (CZ4 c.gP f g) i)]∧k=[]):=by
 refine PZ1 h0 Tryz.func11 fun C a=>?_;refine Zn ?_;refine XF ?_;refine Zm ?_;refine Kd ?_;refine p_allocV htab rfl rfl rfl rfl rfl rfl rfl (fun b=>?_);refine o_blk 1 rfl (ds':=[.slf b,.v (.slice none 0 0)]) (WkR.cons (WkC.slf0) rfl (rC WkR.nil)) rfl ?_;refine o_bufN (off:=1) 5 1 rfl rfl ?_;refine Zr ?_;refine YA ?_
 refine pL 1 ?_;refine ZF ?_;obtain ⟨D,w,x⟩:=Ka a;refine Kaf (Y:=Z3) (fun l=>(⟨[(0,.ptr e 0),(3,.ptr b 0)],[(0,Blk.opq (bufO 5 D l)),(e,Blk.cells (CZ4 c.gP f g) i),(b,Blk.cells [.slf b,.v (SL l)] 58)],[]⟩:S)) ?_ ?_
 ·clear a;have a:=KE w;refine Zy a fun U E F=>?_;refine KaO (Y:=Z3) E (fun m n=>(⟨[(0,.ptr e 0),(3,.ptr b 0),(14,.lst 4 (c.gP.gd.map Kt) f),(15,iD (c.gP.gd.length:Int)),(16,iD m.1)],[(0,Blk.opq (bufO 5 m.2 n)),(e,Blk.cells (CZ4 c.gP f g) i),(b,Blk.cells [.slf b,.v (SL n)] 58)],[]⟩:S)) ?_ ?_
  ·skip
   exact WkX.of (none,0,0) (wP (wC (wC (wC (wC (wC wN))))))
  intro G32 m n a;refine Zn ?_;refine cY a (fun a=>?_) fun a=>?_
  ·refine Z7 a fun o V a=>?_;refine KaK (d:=Kt o) htab rfl rfl rfl rfl rfl rfl rfl rfl ?_;refine Zq fun W=>?_;refine pS3 (ds':=(CZ1 o)) ?_;refine Kb ?_;refine Kz ?_;refine Kaa (d:=Kt o) 3 htab rfl rfl rfl rfl rfl rfl rfl rfl ?_;obtain ⟨y,G,a⟩:=Ka a;refine K5 (KkW o y G) rfl rfl rfl rfl rfl Wl ?_;rintro _ rfl
   obtain ⟨H,I,a⟩:=Ka a;refine pG (Kd6 (⟨m.2⟩:K8) y b n H I) Wl ((KZ (j:=2) rfl).trans (List.Perm.cons _ ((KZ (j:=0) rfl).trans (List.Perm.cons _ Pf)))) Pf ?_;refine ZL fun J=>?_;refine Yf a ?_;exact WkX.of J (WkS.perm (wC (wC (wC (wC (wC wN))))) ((KZ (j:=1) rfl).trans (List.Perm.cons _ ((KZ (j:=1) rfl).trans (List.Perm.cons _ ((KZ (j:=0) rfl).trans (List.Perm.cons _ Pf)))))) Pf)
  refine Zs ?_;obtain rfl:=K6 a;have a:=F
  exact Y9 a
 intro X K;have a:=x;clear w x;refine Zb K fun l=>?_;refine Km ?_;refine YA ?_
 refine pL 1 ?_;refine ZF ?_;obtain ⟨t,z,A⟩:=Ka a;refine Kaf (Y:=Z3) (fun p=>(⟨[(3,.ptr b 0)],[(0,Blk.opq (bufO 5 t p)),(e,Blk.cells (CZ4 c.gP f g) i),(b,Blk.cells [.slf b,.v (SL p)] 58)],[]⟩:S)) ?_ ?_
 ·clear a;have a:=KE z;refine Zy a fun Z L M=>?_;refine KaO (Y:=Z3) L (fun q s=>(⟨[(3,.ptr b 0),(28,.lst 5 (c.gP.gi.map KA) g),(29,iD (c.gP.gi.length:Int)),(30,iD q.1)],[(0,Blk.opq (bufO 5 q.2 s)),(e,Blk.cells (CZ4 c.gP f g) i),(b,Blk.cells [.slf b,.v (SL s)] 58)],[]⟩:S)) ?_ ?_
  ·skip
   exact WkX.of l (wP (wC (wC (wC (wC wN)))))
  intro G90 q s a;refine Zn ?_;refine cY a (fun a=>?_) fun a=>?_
  ·refine Z7 a fun u aa a=>?_;refine X4 ?_;refine Zq fun ab=>?_;refine pS3 (ds':=(CZ3 u .no .no .no)) ?_;refine Kb ?_;refine Kz ?_;refine Kaa (d:=KA u) 3 htab rfl rfl rfl rfl rfl rfl rfl rfl ?_
   obtain ⟨B,N,a⟩:=Ka a;refine K5 (Kjv u B N) rfl rfl rfl rfl rfl Wl ?_;rintro _ rfl;obtain ⟨O,P,a⟩:=Ka a;refine pG (Kd6 (⟨q.2⟩:K8) B b s O P) Wl ((KZ (j:=2) rfl).trans (List.Perm.cons _ ((KZ (j:=0) rfl).trans (List.Perm.cons _ Pf)))) Pf ?_;refine ZL fun Q=>?_;refine Yf a ?_
   exact WkX.of Q (WkS.perm (wC (wC (wC (wC wN)))) ((KZ (j:=1) rfl).trans (List.Perm.cons _ ((KZ (j:=1) rfl).trans (List.Perm.cons _ ((KZ (j:=0) rfl).trans (List.Perm.cons _ Pf)))))) Pf)
  refine Zs ?_;obtain rfl:=K6 a;have a:=M
  exact WZ a
 intro ac R;have a:=A;clear z A;refine Zb R fun p=>?_;refine Kd ?_;obtain ⟨ad,T,a⟩:=Ka a;refine pG (strTK_ok (⟨t⟩:K8) b p (KdX T)) Wl ((KZ (j:=2) rfl).trans (List.Perm.cons _ ((KZ (j:=0) rfl).trans (List.Perm.cons _ Pf)))) Pf ?_;refine Zi ?_;refine Zu ?_;obtain rfl:=Kf a;refine rP (t':=[(2,tD ((strT (⟨t⟩:K8)).1))]) [1] [] 1 (wC wN) (lT lN) ?_;exact Za
end
section
open Go
set_option maxRecDepth 100000
structure Kbx where
 gt:Int
 gr:List UInt8
 ga:ByteArray
def KcJ (x:Kbx):D:=.agg [iD x.gt,.lst 1 (x.gr.map byteD) .no,tD x.ga]
def l36_do (b:Kaq)(a:Kbx):Option (Int×Int×Kaq):=
 (bif (a.gt==(0:Int)) then ((Kdr b a.gr).bind fun c=>some (c.1,c.2.1,c.2.2)) else (bif (a.gt==(1:Int)) then ((Kel b a.gr).bind fun d=>some (d.1,d.2.1,d.2.2)) else ((Kc5 b a.ga).bind fun e=>some ((0:Int),e.1,e.2))))
theorem l36_do_ok (c e b f g i r)(h0:l36_do c e=some r):CallsD Tryz.prog 5 [.ptr b 0,KcJ e] [(b,Blk.cells (CZ4 c.gP g i) f)] [] (fun d h k=>d=.tup [iD r.1,iD r.2.1]∧h=[(b,Blk.cells (CZ4 r.2.2.gP .no .no) f)]∧k=[]):=by
 refine PZ1 h0 Tryz.func5 fun C a=>?_;refine ZH fun q=>?_;refine pu ?_;refine Zz ?_;refine Yw ?_;refine XM ?_;refine cY a (fun a=>?_) fun a=>?_
 ·refine ZM ?_;refine pL 1 ?_;obtain ⟨j,n,a⟩:=Ka a;refine pG (Kgy c e.gr b f g i j n) Wl Pf Pf ?_;refine Zi ?_;iterate 4 refine pu ?_
  refine Yh ?_;obtain rfl:=Kf a;refine rP (t':=[(4,iD j.1),(5,iD j.2.1)]) [0] [] 1 (wC (wC wN)) (lT (lT lN)) ?_;exact Za
 refine Ze ?_;refine cY a (fun a=>?_) fun a=>?_
 ·refine ZM ?_;refine pL 1 ?_;obtain ⟨l,o,a⟩:=Ka a;refine pG (KiL c e.gr b f g i l o) Wl Pf Pf ?_;refine Zi ?_;iterate 4 refine pu ?_
  refine Yh ?_;obtain rfl:=Kf a;refine rP (t':=[(4,iD l.1),(5,iD l.2.1)]) [0] [] 1 (wC (wC wN)) (lT (lT lN)) ?_;exact Za
 refine ZK ?_;refine ZM ?_;refine pL 1 ?_;obtain ⟨m,p,a⟩:=Ka a;refine pG (Kgz c e.ga b f g i m p) Wl Pf Pf ?_;refine Zi ?_;refine Z8 ?_;obtain rfl:=Kf a;refine rP (t':=[(4,iD (0:Int)),(5,iD m.1)]) [0] [] 1 (wC (wC wN)) (lT (lT lN)) ?_;exact Za
def KhI (a0:KL):Option (Kaq×Int×Int×Int):=
 ((Kec a0).bind fun a=>(bif (a.2.2 != (0:Int)) then none else ((Ked a0).bind fun b=>some ((⟨b⟩:Kaq),(0:Int),(0:Int),(0:Int)))))
theorem Kl5 (a0 r)(h0:KhI a0=some r):CallsD Tryz.prog 10 [Kbo a0] [] [] (fun d h k=>∃ b c e,d=.tup [.ptr b 0,iD r.2.1,iD r.2.2.1,iD r.2.2.2]∧h=[(b,Blk.cells (CZ4 r.1.gP (.cur c) (.cur e)) 51)]∧k=[(4,c),(5,e)]):=by
 refine PZ1 h0 Tryz.func10 fun C a=>?_;refine ZH fun o=>?_;iterate 4 refine pu ?_
 refine KH ?_;refine Wq ?_;obtain ⟨l,m,a⟩:=Ka a;refine K5 (Kht a0 l m) rfl rfl rfl rfl rfl Wl ?_;rintro _ rfl;iterate 7 refine pu ?_
 refine Zr ?_;refine Ze ?_;refine cY a (fun a=>?_) fun a=>?_
 ·refine Kd ?_;iterate 7 refine pu ?_
  exact (yes_none a).elim
 refine Zm ?_;refine Kd ?_;refine Wq ?_;obtain ⟨f,n,a⟩:=Ka a;refine pG (KhH a0 f n) Wl Pf Pf ?_;rintro _ _ _ ⟨g,i,rfl,rfl,rfl⟩;refine KbC (r:=(CZ4 f (.cur g) (.cur i))) htab rfl rfl rfl rfl rfl rfl rfl rfl rfl ?_;refine YJ fun j=>?_;iterate 4 refine pu ?_
 refine ZG ?_;obtain rfl:=Kf a;refine rP (t':=[(2,.ptr j 0),(3,iD (0:Int)),(4,iD (0:Int)),(5,iD (0:Int))]) [1] [0,0] 1 (wC (wC (wC (wC wN)))) (lT (lT (lT (lT lN)))) ?_;exact ⟨j,g,i,rfl,rfl,rfl⟩
abbrev qZ6:List UInt8:=[(105:UInt8),(110:UInt8),(116:UInt8),(32:UInt8),(109:UInt8),(97:UInt8),(105:UInt8),(110:UInt8),(40:UInt8),(41:UInt8),(32:UInt8),(123:UInt8),(32:UInt8),(114:UInt8),(101:UInt8),(116:UInt8),(117:UInt8),(114:UInt8),(110:UInt8),(32:UInt8),(51:UInt8),(59:UInt8),(32:UInt8),(125:UInt8)]
def l36_lives:Option (Bool):=
 (store_New.bind fun b=>((Kdr b qZ6).bind fun a=>(bif (a.1==(0:Int)) then (bif (a.2.1==(0:Int)) then ((KcA a.2.2).bind fun c=>(bif ((c.gi.length:Int)==(1:Int)) then ((Kc5 a.2.2 (ByteArray.mk #[102])).bind fun d=>some (d.1==(7:Int))) else some false)) else some false) else some false)))
theorem Uq {A0 G:Prop}(a0:A0)(k:A0→G:=by intro _a;(iterate 3 refine pK ?_);refine ZE ?_;refine Zu ?_;obtain rfl:=Kf _a;refine rP (t':=[(0,.v (.bool false))]) [] [] 0 (wC wN) (lT lN) ?_;exact Za):G:=k a0
theorem KlU (r)(h0:l36_lives=some r):CallsD Tryz.prog 13 [] [] [] (fun d h k=>d=.v (.bool r)∧h=[]∧k=[]):=by
 refine PZ1 h0 Tryz.func13 fun C a=>?_;refine Zd ?_;refine KH ?_;obtain ⟨j,m,a⟩:=Ka a;refine pG (KjT j m) Wl Pf Pf ?_;rintro _ _ _ ⟨b,n,o,rfl,rfl,rfl⟩;refine Zz ?_;refine XF ?_;refine Zm ?_;refine Zd ?_;refine p_litB htab rfl rfl rfl rfl rfl rfl rfl rfl rfl rfl rfl rfl rfl rfl rfl rfl rfl rfl rfl ?_
 refine p_eq (i:=10) (d':=.lst 1 (qZ6.map byteD) .no) rfl (Wk.lst0 (.cons (WkC.refl _) (.cons (WkC.refl _) (.cons (WkC.refl _) (.cons (WkC.refl _) (.cons (WkC.refl _) (.cons (WkC.refl _) (.cons (WkC.refl _) (.cons (WkC.refl _) (.cons (WkC.refl _) (.cons (WkC.refl _) (.cons (WkC.refl _) (.cons (WkC.refl _) (.cons (WkC.refl _) (.cons (WkC.refl _) (.cons (WkC.refl _) (.cons (WkC.refl _) (.cons (WkC.refl _) (.cons (WkC.refl _) (.cons (WkC.refl _) (.cons (WkC.refl _) (.cons (WkC.refl _) (.cons (WkC.refl _) (.cons (WkC.refl _) (.cons (WkC.refl _) (.nil)))))))))))))))))))))))))) ?_
 obtain ⟨c,p,a⟩:=Ka a;refine pG (Kgy j qZ6 b 51 (.cur n) (.cur o) c p) Wl Pf Pf ?_;refine Zi ?_;iterate 5 refine pu ?_
 refine Yt ?_
 refine KaH (i:=16) rfl (fun e=>?_) (fun e=>?_)
 ·replace a:=yes_t e a;refine Zl ?_;refine Yj ?_;refine KaH (i:=20) rfl (fun f=>?_) (fun f=>?_)
  ·replace a:=yes_t f a;refine pu ?_;obtain ⟨q,s,a⟩:=Ka a;refine pG (Kes c.2.2 b 51 .no .no q s) Wl Pf Pf ?_;refine Ys ?_;refine YL ?_;refine Yj ?_;refine KaH (i:=27) rfl (fun g=>?_) (fun g=>?_)
   ·replace a:=yes_t g a;refine pu ?_;obtain ⟨l,t,a⟩:=Ka a;refine pG (Kgz c.2.2 (ByteArray.mk #[102]) b 51 .no .no l t) Wl Pf Pf ?_;refine Ys ?_;refine ZB ?_;refine Zu ?_;obtain rfl:=Kf a;refine rP (t':=[(0,.v (.bool (l.1==(7:Int))))]) [] [] 0 (wC wN) (lT lN) ?_;exact Za
   replace a:=yes_f g a;exact Uq a
  replace a:=yes_f f a;iterate 5 refine pK ?_
  refine Z5 ?_;exact Uq a
 replace a:=yes_f e a;refine Yp ?_;refine Z5 ?_;iterate 5 refine pK ?_
 refine Z5 ?_;exact Uq a
abbrev Kj3:List (List Nat):=nlD [] [(0,[]),(0,[0]),(2,[1]),(3,[2]),(4,[3]),(5,[4]),(6,[5]),(7,[6]),(8,[7]),(9,[8]),(10,[9]),(11,[10]),(12,[]),(12,[12]),(12,[]),(14,[13,14]),(16,[15]),(12,[11,12,13,14,15,16]),(18,[17]),(19,[18]),(20,[19])]
abbrev nlVs4_2:List (List Nat):=nlD [] [(0,[]),(0,[0]),(0,[0]),(0,[0]),(0,[0]),(0,[0]),(0,[0]),(0,[0]),(0,[0]),(0,[0]),(0,[0]),(0,[0]),(0,[0]),(0,[0]),(0,[0]),(0,[0]),(2,[15]),(0,[0]),(17,[16,17]),(19,[18]),(20,[]),(20,[]),(20,[]),(20,[22]),(20,[])]
abbrev KiO:List (List Nat):=nlD [] [(0,[]),(0,[0]),(2,[1]),(3,[2]),(4,[3]),(5,[4]),(6,[5]),(7,[6]),(8,[7]),(9,[8]),(10,[9]),(11,[10]),(12,[11]),(13,[12]),(14,[13]),(15,[14]),(16,[15]),(16,[]),(17,[16,17]),(19,[18]),(20,[19]),(21,[20]),(22,[21]),(23,[22]),(23,[]),(24,[23,24]),(26,[25]),(27,[26]),(28,[27]),(29,[28]),(30,[29])]
abbrev nlVs4_4:List (List Nat):=nlD [] [(0,[]),(0,[0]),(0,[0]),(0,[0]),(0,[0]),(0,[0]),(0,[0]),(0,[0]),(0,[0]),(0,[0]),(0,[0]),(0,[0]),(0,[0]),(0,[0]),(0,[0]),(0,[0]),(2,[15]),(0,[0]),(17,[16,17]),(19,[18]),(20,[]),(20,[]),(20,[]),(20,[]),(20,[])]
def KdJ (a0:List Kbx):Option (Bool):=
 (store_New.bind fun g=>(Option.bind (α:=List KT×List KG) (loopM (fun (a:Int×List KT×List KG)=>(bif (decide (a.1 < (a0.length:Int))) then ((idx a0 a.1).bind fun j=>((l36_do (⟨(⟨a.2.1,a.2.2⟩:KL)⟩:Kaq) j).bind fun h=>some (.next ((IntKind.i64.wrap (a.1+(1:Int))),h.2.2.gP.gd,h.2.2.gP.gi)))) else some (.done (a.2.1,a.2.2)))) ((0:Int),g.gP.gd,g.gP.gi)) fun d=>((KcA (⟨(⟨d.1,d.2⟩:KL)⟩:Kaq)).bind fun b=>(Option.bind (α:=(Unit)⊕(Bool)) (loopM (fun (e:Int)=>(bif (decide (e < (b.gi.length:Int))) then ((idx b.gi e).bind fun k=>((Kfo k).bind fun i=>((Kbs i.data.toList).bind fun f=>(Option.bind (α:=Bool) (bif (decide ((i.size:Int)≤(20000:Int))) then (bif (f.2.2 != (6:Int)) then (bif (f.2.2 != (0:Int)) then some true else ((idx b.gi e).bind fun l=>((KeA f.1 l false).bind fun m=>some (!m)))) else some false) else some false) fun n=>(bif n then some (.done (.inr false)) else some (.next (IntKind.i64.wrap (e+(1:Int))))))))) else some (.done (.inl ())))) (0:Int)) (Sum.elim (fun u=>((KhI b).bind fun c=>(bif (c.2.1==(0:Int)) then (bif (c.2.2.1==(0:Int)) then (bif (c.2.2.2==(0:Int)) then ((Kc8 c.1).bind fun o=>((Kc8 (⟨(⟨d.1,d.2⟩:KL)⟩:Kaq)).bind fun p=>(bif (decide (o=p)) then ((KcA c.1).bind fun q=>((Khx q b true).bind fun s=>(bif s then (l36_lives.bind fun t=>some t) else some false))) else some false))) else some false) else some false) else some false))) (fun r=>some r))))))
theorem WP {A0 R G:Prop}(a0:A0)(h:R)(k:A0→R→G:=by intro _a h;refine zep ?_;refine z_q rfl rfl (x_eqP htab rfl rfl rfl rfl rfl rfl rfl) rfl rfl rfl rfl rfl rfl ?_;(iterate 3 refine zqp ?_);refine Ya ?_;refine K1 (j:=86) (b':=true) rfl _a ?_;refine zqp ?_;refine zqp ?_;refine Ya ?_;exact h):G:=k a0 h
theorem Uw {A0 G:Prop}(a0:A0)(k:A0→G:=by intro _a;refine ZC ?_;refine pK ?_;refine ZE ?_;refine pu ?_;refine pK ?_;refine ZE ?_;refine Zu ?_;obtain rfl:=Kf _a;refine rP (t':=[(2,.v (.bool false))]) [] [] 0 (wC wN) (lT lN) ?_;exact Za):G:=k a0
theorem Ur {A0 R G:Prop}(a0:A0)(h:R)(k:A0→R→G:=by intro _a h;refine zqp ?_;refine z_q rfl rfl (x_lenS htab rfl rfl rfl rfl rfl) rfl rfl rfl rfl rfl rfl ?_;refine Yb ?_;refine K1 (j:=55) (b':=true) rfl _a ?_;refine Yb ?_;refine Ya ?_;exact h):G:=k a0 h
theorem Us {A0 G:Prop}(a0:A0)(k:A0→G:=by intro _a;(iterate 5 refine zK ?_);refine YR ?_;(iterate 3 refine zK ?_);exact Uw _a):G:=k a0
theorem l36_StorePrints_ok (a0 r)(h0:KdJ a0=some r):CallsD Tryz.prog 3 [.lst 3 (a0.map KcJ) .no] [] [] (fun d h k=>d=.v (.bool r)∧h=[]∧k=[]):=by
 refine PZ1 h0 Tryz.func3 fun C a=>?_;refine Zd ?_;refine KH ?_;obtain ⟨H,Z,a⟩:=Ka a;refine pG (KjT H Z) Wl Pf Pf ?_;rintro _ _ _ ⟨b,w2,w3,rfl,rfl,rfl⟩;refine Zz ?_;refine XF ?_;refine ZO ?_;refine Yx ?_;obtain ⟨c,I,J⟩:=Ka a
 refine Kaf (Y:=Unit) (fun aa=>(⟨[(3,.ptr b 0)],[(b,Blk.cells [.lst 4 (c.1.map Kt) .no,.lst 5 (c.2.map KA) .no] 51)],[]⟩:S)) ?_ ?_
 ·clear a;have a:=KE I;refine Zy a fun bi ab ac=>?_;refine KaO (Y:=Unit) ab (fun n ad=>(⟨[(0,.lst 3 (a0.map KcJ) .no),(3,.ptr b 0),(4,iD n.1)],[(b,Blk.cells [.lst 4 (n.2.1.map Kt) .no,.lst 5 (n.2.2.map KA) .no] 51)],[]⟩:S)) ?_ ?_
  ·skip
   refine WkX.wk (WkS.bl0 (ds':=(CZ4 H.gP .no .no)) (rO (rO WkR.nil))) ?_;exact Y2
  intro G19 n ad a;refine YX ?_;refine ZF ?_;refine cY a (fun a=>?_) fun a=>?_
  ·refine Z0 ?_;refine ZW ?_
   refine ZX a fun K bj a=>?_;refine KaK (d:=KcJ K) htab rfl rfl rfl rfl rfl rfl rfl rfl ?_;obtain ⟨ae,af,a⟩:=Ka a;refine pG (l36_do_ok (⟨(⟨n.2.1,n.2.2⟩:KL)⟩:Kaq) K b 51 .no .no ae af) Wl Pf Pf ?_;refine Zi ?_;refine YQ ?_;refine ZW ?_
   exact Wj a
  refine Zs ?_;obtain rfl:=K6 a;have a:=ac
  exact Y0 a
 intro bk ag;have a:=J;clear I J;refine Zb ag fun aa=>?_;refine ZD a fun e ah a=>?_;refine pG (Kes (⟨(⟨c.1,c.2⟩:KL)⟩:Kaq) b 51 .no .no e ah) Wl Pf Pf ?_;refine Zi ?_;refine Zq fun o=>?_;refine pS1 (ds':=(CZ4 e .no .no)) ?_;refine Zr ?_;refine Yx ?_;obtain ⟨ai,L,w⟩:=Ka a
 refine KaG (τ:=Unit) (Y:=Unit) (fun aj ak=>(⟨[(3,.ptr b 0),(5,.ptr o 0)],[(b,Blk.cells [.lst 4 (c.1.map Kt) .no,.lst 5 (c.2.map KA) .no] 51),(o,Blk.cells (CZ4 e .no .no) 34)],[]⟩:S)) ai ?_ ?_
 ·clear a;have a:=KE L;refine Zy a fun bl al M=>?_;refine KaO (Y:=Unit) al (fun x am=>(⟨[(3,.ptr b 0),(5,.ptr o 0),(6,iD x)],[(b,Blk.cells [.lst 4 (c.1.map Kt) .no,.lst 5 (c.2.map KA) .no] 51),(o,Blk.cells (CZ4 e .no .no) 34)],[]⟩:S)) ?_ ?_
  ·skip
   exact Y2
  intro G98 x am a;refine YX ?_;refine pL 1 ?_;refine ZF ?_;refine cY a (fun a=>?_) fun a=>?_
  ·refine Z0 ?_;refine Yw ?_;refine pu ?_;refine ZX a fun an bm a=>?_;refine X4 ?_;obtain ⟨y,ao,a⟩:=Ka a;refine K5 (Kjv an y ao) rfl rfl rfl rfl rfl Wl ?_;rintro _ rfl;refine Yo ?_;refine p_ofStr htab rfl rfl rfl rfl rfl rfl rfl rfl rfl rfl rfl ?_;obtain ⟨p,ap,a⟩:=Ka a;refine pG (Kgx y.data.toList p ap) Wl Pf Pf ?_
   rintro _ _ _ ⟨N,O,P,rfl,rfl,rfl⟩;iterate 4 refine pu ?_
   refine Zq fun bn=>?_;refine pS2 (ds':=(CZ3 p.1 (.cur N) (.cur O) (.cur P))) ?_;refine pu ?_;refine Zz ?_;obtain ⟨aq,Q,T⟩:=Ka a
   refine Kaf (Y:=Unit) (fun ar=>(⟨[(3,.ptr b 0),(5,.ptr o 0),(6,iD x),(72,.v (.bool aq))],[(b,Blk.cells [.lst 4 (c.1.map Kt) .no,.lst 5 (c.2.map KA) .no] 51),(o,Blk.cells (CZ4 e .no .no) 34)],[]⟩:S)) ?_ ?_
   ·clear a;have a:=KE Q;refine bycB (decide ((y.size:Int)≤(20000:Int))) (fun g=>?_) (fun g=>?_)
    ·replace a:=yes_t g a;refine bycB (p.2.2 != (6:Int)) (fun q=>?_) (fun q=>?_)
     ·replace a:=yes_t q a;refine bycB (p.2.2 != (0:Int)) (fun t=>?_) (fun t=>?_)
      ·replace a:=yes_t t a;refine Kaj 17 [] [[],[],[],[],[],[],[],[],[],[],[],[],[],[],[],[],[]] [] Kj3 (by kernel_rfl) (by kernel_rfl) (by kernel_rfl) (by rfl) (by rfl) (by kernel_rfl) ?_;intro bs;refine Ur g ?_;refine K1 (j:=59) (b':=true) rfl q ?_;iterate 3 refine zqp ?_
       refine K1 (j:=62) (b':=true) rfl t ?_;iterate 6 refine zK ?_
       refine ZC ?_;refine Yp ?_;refine ZB ?_;refine ZB ?_;exact YK a
      replace a:=yes_f t a;obtain ⟨au,av,a⟩:=Ka a;refine Kaj 17 [] [[],[],[],[],[],[],[],[],[],[],[],[],[],[12],[],[12,13],[12,13,15]] [11,12,13,15,16] Kj3 (by kernel_rfl) (by kernel_rfl) (by kernel_rfl) (by rfl) (by rfl) (by kernel_rfl) ?_;iterate 5 apply Exists.intro
      intro bs;refine Ur g ?_;refine K1 (j:=59) (b':=true) rfl q ?_;iterate 3 refine zqp ?_
      refine K1 (j:=62) (b':=false) rfl t ?_;refine z_eM rfl rfl (KN (d:=.agg (CZ3 p.1 (.cur N) (.cur O) (.cur P))) 2 htab rfl rfl rfl rfl rfl) rfl rfl rfl rfl rfl rfl ?_;refine WT ?_;refine WX av ?_
      refine ZC ?_;obtain ⟨aw,ax,a⟩:=Ka a;refine K5 (Kh0 p.1 au false aw ax) rfl rfl rfl rfl rfl (WkL.cons (Wk.agg (rC (rO (rO (rO (rC WkR.nil)))))) (WkL.cons (Wk.refl _) (WkL.cons (Wk.refl _) Wl))) ?_;rintro _ rfl;refine pu ?_;refine ZE ?_;refine ZB ?_;exact YK a
     replace a:=yes_f q a;refine Kaj 17 [] [[],[],[],[],[],[],[],[],[],[],[],[],[],[],[],[],[]] [] Kj3 (by kernel_rfl) (by kernel_rfl) (by kernel_rfl) (by rfl) (by rfl) (by kernel_rfl) ?_;intro bs;refine Ur g ?_;refine K1 (j:=59) (b':=false) rfl q ?_;iterate 9 refine zK ?_
     refine ZC ?_;iterate 3 refine pK ?_
     refine ZE ?_;exact YK a
    replace a:=yes_f g a;refine Kaj 17 [] [[],[],[],[],[],[],[],[],[],[],[],[],[],[],[],[],[]] [] Kj3 (by kernel_rfl) (by kernel_rfl) (by kernel_rfl) (by rfl) (by rfl) (by kernel_rfl) ?_;intro bs;refine zqp ?_;refine z_q rfl rfl (x_lenS htab rfl rfl rfl rfl rfl) rfl rfl rfl rfl rfl rfl ?_;refine Yb ?_;refine K1 (j:=55) (b':=false) rfl g ?_;refine zK ?_;refine zK ?_;refine YR ?_;iterate 9 refine zK ?_
    refine ZC ?_;iterate 3 refine pK ?_
    refine ZE ?_;exact YK a
   intro bo ay;have a:=T;clear Q T;refine Zb ay fun ar=>?_;refine cY a (fun a=>?_) fun a=>?_
   ·refine Yg ?_;obtain rfl:=K6 a;have a:=M
    refine ZQ ?_;obtain rfl:=Kf a;refine Ka4 ?_;have a:=w;refine Z1 a fun a=>?_
    obtain rfl:=Kf a;refine rP (t':=[(2,.v (.bool false))]) [] [] 0 (wC wN) (lT lN) ?_;exact Za
   refine ZK ?_;refine ZW ?_
   exact Wj a
  refine Zs ?_;obtain rfl:=K6 a;have a:=M
  refine Z9 ?_;exact Y6 a
 intro aj bp az ba;subst az;have a:=w;refine Zj a fun a=>?_;clear L w;refine Zb ba fun ak=>?_;refine Kd ?_;refine Kaa (d:=Kbo e) 1 htab rfl rfl rfl rfl rfl rfl rfl rfl ?_;obtain ⟨l,bb,a⟩:=Ka a;refine pG (Kl5 e l bb) Wl Pf Pf ?_;rintro _ _ _ ⟨z,A,B,rfl,rfl,rfl⟩;iterate 9 refine pu ?_
 refine Zr ?_;refine bycB (l.2.1==(0:Int)) (fun f=>?_) (fun f=>?_)
 ·replace a:=yes_t f a;refine bycB (l.2.2.1==(0:Int)) (fun m=>?_) (fun m=>?_)
  ·replace a:=yes_t m a;refine bycB (l.2.2.2==(0:Int)) (fun s=>?_) (fun s=>?_)
   ·replace a:=yes_t s a;obtain ⟨D,U,a⟩:=Ka a;obtain ⟨E,V,a⟩:=Ka a;refine bycB (decide (D=E)) (fun u=>?_) (fun u=>?_)
    ·replace a:=yes_t u a;obtain ⟨W,bc,a⟩:=Ka a;refine Kaj 25 [] nlVs4_2 [0,15,16,17,18,22,23,24] KiO (by kernel_rfl) (by kernel_rfl) (by kernel_rfl) (by rfl) (by rfl) (by kernel_rfl) ?_;iterate 8 apply Exists.intro
     intro bs;refine WP f ?_
     refine K1 (j:=90) (b':=true) rfl m ?_;refine Yb ?_;refine Ya ?_;refine K1 (j:=94) (b':=true) rfl s ?_;refine zep ?_;refine Kfj 0 rfl rfl (KdI l.1 z 51 (.cur A) (.cur B) D U) rfl rfl Wl rfl rfl rfl rfl rfl rfl rfl ?_;refine zep ?_
     refine Kfj 1 rfl rfl (KdI (⟨(⟨c.1,c.2⟩:KL)⟩:Kaq) b 51 .no .no E V) rfl rfl Wl rfl rfl rfl rfl rfl rfl rfl ?_;refine zqp ?_;refine Ya ?_;refine K1 (j:=101) (b':=true) rfl u ?_;refine zep ?_;refine Kfj 0 rfl rfl (Kes l.1 z 51 (.cur A) (.cur B) W bc) rfl rfl Wl rfl rfl rfl rfl rfl rfl rfl ?_;refine z_eM rfl rfl (KN (d:=Kbo e) 2 htab rfl rfl rfl rfl rfl) rfl rfl rfl rfl rfl rfl ?_;refine ZC ?_;obtain ⟨bd,be,a⟩:=Ka a
     refine K5 (Kl4 W e true bd be) rfl rfl rfl rfl rfl Wl ?_;rintro _ rfl;refine Yj ?_;refine KaH (i:=107) rfl (fun F=>?_) (fun F=>?_)
     ·replace a:=yes_t F a;obtain ⟨X,bf,a⟩:=Ka a;refine K5 (KlU X bf) rfl rfl rfl rfl rfl Wl ?_;rintro _ rfl;refine ZB ?_;refine Zu ?_;obtain rfl:=Kf a;refine rP (t':=[(2,.v (.bool X))]) [] [] 0 (wC wN) (lT lN) ?_;exact Za
     replace a:=yes_f F a;refine pK ?_;refine ZE ?_;refine Zu ?_;obtain rfl:=Kf a;refine rP (t':=[(2,.v (.bool false))]) [] [] 0 (wC wN) (lT lN) ?_;exact Za
    replace a:=yes_f u a;refine Kaj 25 [] nlVs4_4 [0,15,16,17,18] KiO (by kernel_rfl) (by kernel_rfl) (by kernel_rfl) (by rfl) (by rfl) (by kernel_rfl) ?_;iterate 5 apply Exists.intro
    intro bs;refine WP f ?_
    refine K1 (j:=90) (b':=true) rfl m ?_;refine Yb ?_;refine Ya ?_;refine K1 (j:=94) (b':=true) rfl s ?_;refine zep ?_;refine Kfj 0 rfl rfl (KdI l.1 z 51 (.cur A) (.cur B) D U) rfl rfl Wl rfl rfl rfl rfl rfl rfl rfl ?_;refine zep ?_
    refine Kfj 1 rfl rfl (KdI (⟨(⟨c.1,c.2⟩:KL)⟩:Kaq) b 51 .no .no E V) rfl rfl Wl rfl rfl rfl rfl rfl rfl rfl ?_;refine zqp ?_;refine Ya ?_;refine K1 (j:=101) (b':=false) rfl u ?_;iterate 3 refine zK ?_
    exact Uw a
   replace a:=yes_f s a;refine Kaj 25 [] [[],[0],[0],[0],[0],[0],[0],[0],[0],[0],[0],[0],[0],[0],[0],[0],[0],[0],[0],[0],[0],[0],[0],[0],[0]] [0] KiO (by kernel_rfl) (by kernel_rfl) (by kernel_rfl) (by rfl) (by rfl) (by kernel_rfl) ?_;apply Exists.intro;intro bs;refine WP f ?_
   refine K1 (j:=90) (b':=true) rfl m ?_;refine Yb ?_;refine Ya ?_;refine K1 (j:=94) (b':=false) rfl s ?_;exact Us a
  replace a:=yes_f m a;refine Kaj 25 [] [[],[0],[0],[0],[0],[0],[0],[0],[0],[0],[0],[0],[0],[0],[0],[0],[0],[0],[0],[0],[0],[0],[0],[0],[0]] [0] KiO (by kernel_rfl) (by kernel_rfl) (by kernel_rfl) (by rfl) (by rfl) (by kernel_rfl) ?_;apply Exists.intro;intro bs;refine WP f ?_
  refine K1 (j:=90) (b':=false) rfl m ?_;refine zK ?_;refine zK ?_;refine YR ?_;exact Us a
 replace a:=yes_f f a;refine Kaj 25 [] [[],[0],[0],[0],[0],[0],[0],[0],[0],[0],[0],[0],[0],[0],[0],[0],[0],[0],[0],[0],[0],[0],[0],[0],[0]] [0] KiO (by kernel_rfl) (by kernel_rfl) (by kernel_rfl) (by rfl) (by rfl) (by kernel_rfl) ?_;apply Exists.intro;intro bs;refine zep ?_;refine z_q rfl rfl (x_eqP htab rfl rfl rfl rfl rfl rfl rfl) rfl rfl rfl rfl rfl rfl ?_;iterate 3 refine zqp ?_
 refine Ya ?_;refine K1 (j:=86) (b':=false) rfl f ?_;refine zK ?_;refine zK ?_;refine YR ?_;refine zK ?_;refine zK ?_;refine YR ?_;exact Us a
end
section
open Go
mutual
def szE:Ke→Nat
 | ⟨_,_,_,ks,_⟩=>1+szEs ks
def szEs:List Ke→Nat
 | []=>0
 | e::l=>szE e+szEs l
end
mutual
def dpE:Ke→Nat
 | ⟨_,_,_,ks,_⟩=>1+dpEs ks
def dpEs:List Ke→Nat
 | []=>0
 | e::l=>max (dpE e) (dpEs l)
end
theorem Kfy (e:Ke):szE e=1+szEs e.gc:=by cases e;simp only [szE]
theorem Ken (e:Ke):dpE e=1+dpEs e.gc:=by cases e;simp only [dpE]
theorem Kkg:∀ l m,szEs (l++m)=szEs l+szEs m
 | [],m=>by simp [szEs]
 | e::l,m=>by simp only [List.cons_append,szEs,Kkg l m];omega
theorem Kkh:∀ l m,dpEs (l++m)=max (dpEs l) (dpEs m)
 | [],m=>by simp [dpEs]
 | e::l,m=>by simp only [List.cons_append,dpEs,Kkh l m];omega
theorem Kf0:∀ {l:List Ke} {e:Ke},e∈l→dpE e≤dpEs l
 |
  x::l,e,h=>by
  simp only [dpEs];rcases List.mem_cons.1 h with rfl|h
  ·omega
  have:=Kf0 h;omega
theorem Kf1:∀ {l:List Ke} {e:Ke},e∈l→szE e≤szEs l
 |
  x::l,e,h=>by
  simp only [szEs];rcases List.mem_cons.1 h with rfl|h
  ·omega
  have:=Kf1 h;omega
theorem Kfc:∀ l,l.length≤szEs l
 | []=>by simp
 |
  e::l=>by
  have:=Kfc l;have h:=Kfy e;simp only [szEs,List.length_cons];omega
end
section
open Go
def scan {α β τ:Type}(step:α→β→α⊕τ)(fin:α→τ):α→List β→τ
 | a,[]=>fin a
 | a,x::l=>match step a x with|.inl a'=>scan step fin a' l|.inr t=>t
theorem KjU {σ τ α β:Type}{f:σ→Option (Step σ τ)}(l:List β)(step:α→β→α⊕τ)(fin:α→τ)(st:α→Nat→σ)(I:List β→α→Prop)(a0:α)(b:I [] a0)
  (hI:∀ pre x post a a',l=pre++x::post→I pre a→step a x=.inl a'→I (pre++[x]) a')
  (h1:∀ pre x post a,l=pre++x::post→I pre a→f (st a pre.length)=some (Sum.elim (fun a'=>.next (st a' (pre.length+1))) .done (step a x)))
  (h2:∀ a,I l a→f (st a l.length)=some (.done (fin a))):loopM f (st a0 0)=some (scan step fin a0 l):=by
 have key:∀ (post pre:List β) (a:α),l=pre++post→I pre a→loopM f (st a pre.length)=some (scan step fin a post):=by
  intro post;induction post with
  | nil=>intro pre a h hi;rw [List.append_nil] at h;subst h;exact KbA (h2 a hi)
  |
   cons x post ih=>
   intro pre a h hi;have h1':=h1 pre x post a h hi;have hI':=hI pre x post a;simp only [scan];cases hs:step a x with
   |
    inl a'=>
    rw [hs,Sum.elim_inl] at h1';rw [KcM h1'];have:=ih (pre++[x]) a' (by simp [h]) (hI' a' h hi hs);simpa using this
   | inr t=>rw [hs,Sum.elim_inr] at h1';exact KbA h1'
 exact key l [] a0 rfl b
theorem Keo {τ β:Type}{f:Int→Option (Step Int τ)}(l:List β)(step:Unit→β→Unit⊕τ)(z:τ)
  (h1:∀ pre x post,l=pre++x::post→f (pre.length:Int)=some (Sum.elim (fun _=>.next ((pre.length+1:Nat):Int)) .done (step () x)))
  (h2:f (l.length:Int)=some (.done z)):loopM f (0:Int)=some (scan step (fun _=>z) () l):=
 KjU l step (fun _=>z) (fun _ k=>(k:Int)) (fun _ _=>True) () trivial (fun _ _ _ _ _ _ _ _=>trivial) (fun pre x post _ h _=>h1 pre x post h) (fun _ _=>h2)
theorem loop_scanA {α τ β:Type}{f:α×Int→Option (Step (α×Int) τ)}(l:List β)(step:α→β→α⊕τ)(fin:α→τ)(I:List β→α→Prop)(a0:α)(b:I [] a0)
  (hI:∀ pre x post a a',l=pre++x::post→I pre a→step a x=.inl a'→I (pre++[x]) a')
  (h1:∀ pre x post a,l=pre++x::post→I pre a→f (a,(pre.length:Int))=some (Sum.elim (fun a'=>.next (a',((pre.length+1:Nat):Int))) .done (step a x)))
  (h2:∀ a,I l a→f (a,(l.length:Int))=some (.done (fin a))):loopM f (a0,(0:Int))=some (scan step fin a0 l):=
 KjU l step fin (fun a k=>(a,(k:Int))) I a0 b hI h1 h2
def vk (n:ByteArray):List K3→Int
 | []=>0
 | v::l=>if v.ga=n then (bif v.gz then 2 else 1) else vk n l
def gk (n:ByteArray):List KT→Int
 | []=>0
 | g::l=>if g.ga=n then (bif g.gz then 2 else bif decide (0 < g.gA) then 3 else 1) else gk n l
theorem KlB (n:ByteArray):∀ l m,vk n (l++m)=if vk n l=0 then vk n m else vk n l
 | [],m=>by simp [vk]
 |
  v::l,m=>by
  simp only [List.cons_append,vk,KlB n l m];by_cases h:v.ga=n
  ·simp only [h,if_true];cases v.gz<;>simp
  simp only [h,if_false]
theorem scan_vk {ρ:Type}(n:ByteArray)(c:Int→ρ)(z:ρ):∀ l:List K3,scan (fun (_:Unit) v=>if v.ga=n then .inr (c (bif v.gz then 2 else 1)) else .inl ()) (fun _=>z) () l=if vk n l=0 then z else c (vk n l)
 | []=>by simp [scan,vk]
 |
  v::l=>by
  simp only [scan,vk];by_cases h:v.ga=n
  ·simp only [h,if_true];cases v.gz<;>simp
  simp only [h,if_false];exact scan_vk n c z l
theorem scan_gk {ρ:Type}(n:ByteArray)(c:Int→ρ)(z:ρ):∀ l:List KT,scan (fun (_:Unit) g=>if g.ga=n then .inr (c (bif g.gz then 2 else bif decide (0 < g.gA) then 3 else 1)) else .inl ()) (fun _=>z) () l=if gk n l=0 then z else c (gk n l)
 | []=>by simp [scan,gk]
 |
  v::l=>by
  simp only [scan,gk];by_cases h:v.ga=n
  ·simp only [h,if_true];cases v.gz<;>simp;by_cases h2:0 < v.gA<;>simp [h2]
  simp only [h,if_false];exact scan_gk n c z l
theorem KjV (b:Bool):Kdy b=some (bif b then 2 else 1):=by unfold Kdy;cases b<;>rfl
theorem Kjm {s:KS}{n:ByteArray}(hb:s.gP.gd.length≤4611686018427387904):KbW s n=some (gk n s.gP.gd):=by
 unfold KbW;rw [Keo s.gP.gd (fun (_:Unit) g=>if g.ga=n then .inr (Sum.inr (bif g.gz then 2 else bif decide (0 < g.gA) then 3 else 1)) else .inl ()) (.inl ())
  (fun pre x post h=>by
   simp only [Kcc h,cond_true];rw [h,KcN,Option.bind_some];by_cases hn:x.ga=n
   ·simp only [hn,decide_true,cond_true,if_true,KjV];by_cases h2:0 < x.gA<;>cases x.gz<;>simp [h2]
   simp only [hn,decide_false,cond_false,if_false,KbO h hb];rfl) (by simp)]
 rw [Option.bind_some,scan_gk n Sum.inr (Sum.inl ())];split
 ·rename_i h;simp [h]
 simp
end
section
open Go
theorem KlC {s:KS}{n:ByteArray}(h1:s.gF.gf.length≤4611686018427387904)(h2:s.gF.gh.length≤4611686018427387904):Kdk s n=some (vk n (s.gF.gf++s.gF.gh)):=by
 unfold Kdk;have inner:∀ x:List K3,x.length≤4611686018427387904→loopM (fun (a:Int)=>(bif (decide (a < (x.length:Int))) then ((idx x a).bind fun b=>(bif (decide (b.ga=n)) then ((Kdy b.gz).bind fun c=>some (Step.done (τ:=Unit⊕Int) (.inr c))) else some (.next (IntKind.i64.wrap (a+(1:Int)))))) else some (.done (.inl ())))) (0:Int)=some (if vk n x=0 then .inl () else .inr (vk n x)):=by
  intro x hb;rw [Keo x (fun (_:Unit) v=>if v.ga=n then .inr (Sum.inr (bif v.gz then 2 else 1)) else .inl ()) (.inl ())
   (fun pre x post h=>by
    simp only [Kcc h,cond_true];rw [h,KcN,Option.bind_some];by_cases hn:x.ga=n
    ·simp only [hn,decide_true,cond_true,if_true,KjV];rfl
    simp only [hn,decide_false,cond_false,if_false,KbO h hb];rfl) (by simp),scan_vk n Sum.inr (Sum.inl ())]
 rw [Keo [s.gF.gf,s.gF.gh] (fun (_:Unit) x=>if vk n x=0 then .inl () else .inr (Sum.inr (vk n x))) (.inl ())
  (fun pre x post h=>by
   have hlt:decide ((pre.length:Int) < 2)=true:=by simpa using Kcc h
   simp only [hlt,cond_true];have hx:x.length≤4611686018427387904:=by
    have:=KcE h;simp only [List.mem_cons,List.not_mem_nil,or_false] at this;rcases this with rfl|rfl<;>assumption
   rw [h,KcN,Option.bind_some,inner x hx,Option.bind_some];have hi:=KbO h (by simp);by_cases hn:vk n x=0
   ·simp only [hn,if_true,Sum.elim_inl,hi]
   simp only [hn,if_false,Sum.elim_inr]) (by simp)]
 rw [Option.bind_some,KlB];simp only [scan];by_cases h1:vk n s.gF.gf=0
 ·simp only [h1,if_true];by_cases h2:vk n s.gF.gh=0
  ·simp [h2]
  simp [h2]
 simp [h1]
def kd (p:KL)(f:KG)(n:ByteArray):Int:=if vk n (f.gf++f.gh)=0 then gk n p.gd else vk n (f.gf++f.gh)
structure Fit (p:KL) (f:KG):Prop where
 gl:p.gd.length≤1048576
 fu:p.gi.length≤1048576
 pa:∀ g∈p.gi,g.gf.length≤1048576
 fp:f.gf.length≤1048576
 fl:f.gh.length≤1048576
def mus (k at_:Int)(ks:List Int):(Int×Int)⊕Int:=if k=0 then .inl (at_,7) else if k∈ks then .inr k else .inl (at_,9)
theorem KlD (k:Int){τ:Type}(y z:τ):∀ ks:List Int,scan (fun (_:Unit) x=>bif x==k then .inr y else .inl ()) (fun _=>z) () ks=if k∈ks then y else z
 | []=>by simp [scan]
 |
  x::l=>by
  simp only [scan,List.mem_cons];by_cases h:x=k
  ·subst h;simp
  have h':¬ k=x:=fun e=>h e.symm
  have hb:(x==k)=false:=by simpa using h
  simp only [hb,cond_false,h',false_or];exact KlD k y z l
theorem Kj4 {k at_:Int}{ks:List Int}(hb:ks.length≤4611686018427387904):Kfn k at_ ks=some (mus k at_ ks):=by
 unfold Kfn mus;by_cases hk:k=0
 ·subst hk;simp [KbL]
 have hk':(k==0)=false:=by simpa using hk
 simp only [hk',cond_false,Option.bind_some,Sum.elim_inl,hk,if_false];rw [Keo ks (fun (_:Unit) x=>bif x==k then .inr (Sum.inr (Sum.inr k)) else .inl ()) (.inl ())
  (fun pre x post h=>by
   simp only [Kcc h,cond_true];rw [h,KcN,Option.bind_some];by_cases hn:x==k
   ·simp [hn]
   rw [Bool.not_eq_true] at hn;simp only [hn,cond_false,KbO h hb];rfl) (by simp),Option.bind_some,KlD k]
 by_cases h:k∈ks
 ·simp [h]
 simp [h,KbL]
theorem Khg {p:KL}{f:KG}{n:ByteArray}{at_:Int}{ks:List Int}(hf:Fit p f)(hb:ks.length≤4611686018427387904):KbF ⟨p,f⟩ n at_ ks=some (mus (kd p f n) at_ ks):=by
 have:=hf.gl;have:=hf.fp;have:=hf.fl
 unfold KbF;rw [KlC (by simp only;omega) (by simp only;omega),Kjm (by simp only;omega)];simp only [Option.bind_some];unfold kd;by_cases h:vk n (f.gf++f.gh)=0
 ·simp only [h,beq_self_eq_true,cond_true,Option.bind_some,if_true,Kj4 hb];cases mus (gk n p.gd) at_ ks<;>rfl
 have h':(vk n (f.gf++f.gh)==0)=false:=by simpa using h
 simp only [h',cond_false,Option.bind_some,h,if_false,Kj4 hb];cases mus (vk n (f.gf++f.gh)) at_ ks<;>rfl
theorem Kk1 {p:KL}{f:KG}{e:Ke}{w:Int}(hf:Fit p f):KcY ⟨p,f⟩ e w=some (Sum.elim .inl (fun _=>.inr 2) (mus (if vk e.ga (f.gf++f.gh)=0 then gk e.ga p.gd else 2) e.gb [w])):=by
 have:=hf.gl;have:=hf.fp;have:=hf.fl
 unfold KcY;rw [KlC (by simp only;omega) (by simp only;omega),Kjm (by simp only;omega)];simp only [Option.bind_some];by_cases h:vk e.ga (f.gf++f.gh)=0
 ·simp only [h,bne_self_eq_false,cond_false,Option.bind_some,if_true,Kj4 (show [w].length≤4611686018427387904 by simp)];cases mus (gk e.ga p.gd) e.gb [w]<;>rfl
 have h':(vk e.ga (f.gf++f.gh) != 0)=true:=by simpa using h
 simp only [h',cond_true,Option.bind_some,h,if_false,Kj4 (show [w].length≤4611686018427387904 by simp)];cases mus 2 e.gb [w]<;>rfl
def kn (op:Int):Int:=if op=1∨op=2∨op=4∨op=18∨op=19 then 0 else if op=3∨op=20∨op=5∨op=6 then 1 else if 7≤op∧op≤17 then 2 else -1
theorem ckids_eq (op:Int):Kgm op=some (kn op):=by
 unfold Kgm kn;by_cases h1:op=1
 ·subst h1;rfl
 by_cases h2:op=2
 ·subst h2;rfl
 by_cases a:op=4
 ·subst a;rfl
 by_cases b:op=18
 ·subst b;rfl
 by_cases c:op=19
 ·subst c;rfl
 by_cases d:op=3
 ·subst d;rfl
 by_cases e:op=20
 ·subst e;rfl
 by_cases f:op=5
 ·subst f;rfl
 by_cases g:op=6
 ·subst g;rfl
 simp only [beq_eq_false_iff_ne.2 h1,beq_eq_false_iff_ne.2 h2,beq_eq_false_iff_ne.2 a,beq_eq_false_iff_ne.2 b,beq_eq_false_iff_ne.2 c,beq_eq_false_iff_ne.2 d,beq_eq_false_iff_ne.2 e,beq_eq_false_iff_ne.2 f,beq_eq_false_iff_ne.2 g,cond_false,Option.bind_some,Sum.elim_inl,h1,h2,a,b,c,d,e,f,g,false_or,if_false];by_cases ha:7≤op<;>by_cases hb:op≤17<;>simp [ha,hb]
end
section
open Go
def fn1:List (Ke×Int)→Option Int
 | []=>none
 | (e,t)::l=>if t=1 then fn1 l else some e.gb
def tyO (p:KL)(f:KG)(op:Int)(name:ByteArray)(at_:Int)(ks:List Ke)(ts:List Int):(Int×Int)⊕Int:=
 if op=14∨op=15 then
  match ks,ts with
  | [_,b],[x,y]=>if x=y then .inr 1 else .inl (b.gb,9)
  | _,_=>.inr 1
 else match fn1 (ks.zip ts) with
  | some a=>.inl (a,9)
  |
   none=>
   if op=2 then mus (kd p f name) at_ [1,2]
   else if op=3 then Sum.elim .inl (fun _=>.inr 1) (mus (kd p f name) at_ [3])
   else if op=4 then Sum.elim .inl (fun _=>.inr 1) (mus (kd p f name) at_ [2])
   else if op=18 then .inr 2
   else if op=19 then Sum.elim .inl (fun _=>.inr 2) (mus (if vk name (f.gf++f.gh)=0 then gk name p.gd else 2) at_ [1])
   else if op=20 then Sum.elim .inl (fun _=>.inr 2) (mus (if vk name (f.gf++f.gh)=0 then gk name p.gd else 2) at_ [3])
   else .inr 1
mutual
def tyE (p:KL)(f:KG):Ke→(Int×Int)⊕Int
 | ⟨op,_,name,ks,at_⟩=>if kn op < 0∨(ks.length:Int) ≠ kn op then .inl (at_,2) else Sum.elim .inl (fun ts=>tyO p f op name at_ ks ts) (tyL p f ks)
def tyL (p:KL) (f:KG):List Ke→(Int×Int)⊕List Int
 | []=>.inr []
 | e::l=>Sum.elim .inl (fun t=>Sum.elim .inl (fun ts=>.inr (t::ts)) (tyL p f l)) (tyE p f e)
end
theorem tyE_eq (p:KL)(f:KG)(e:Ke):tyE p f e=if kn e.gj < 0∨(e.gc.length:Int) ≠ kn e.gj then .inl (e.gb,2) else Sum.elim .inl (fun ts=>tyO p f e.gj e.ga e.gb e.gc ts) (tyL p f e.gc):=by cases e;simp only [tyE]
theorem tyL_len {p:KL}{f:KG}:∀ {l:List Ke} {ts:List Int},tyL p f l=.inr ts→ts.length=l.length
 | [],ts,h=>by simp only [tyL,Sum.inr.injEq] at h;subst h;rfl
 |
  e::l,ts,h=>by
  simp only [tyL] at h;cases h1:tyE p f e with
  | inl pe=>rw [h1] at h;cases h
  |
   inr t=>
   rw [h1] at h;cases h2:tyL p f l with
   | inl pe=>rw [h2] at h;cases h
   |
    inr ts'=>
    rw [h2] at h;simp only [Sum.elim_inr,Sum.inr.injEq] at h;subst h;simp [tyL_len h2]
theorem Kh5:∀ l:List Ke,l.length≤szEs l
 | []=>by simp [szEs]
 |
  e::l=>by
  have:=Kh5 l;have:=Kfy e;simp only [szEs,List.length_cons];omega
theorem zip_at {β γ:Type}{l:List β}{m:List γ}(hl:l.length=m.length){pre post:List (β×γ)}{x:β}{y:γ}(h:l.zip m=pre++(x,y)::post):idx l (pre.length:Int)=some x∧idx m (pre.length:Int)=some y:=by
 have h1:l=pre.map Prod.fst++x::post.map Prod.fst:=by
  have:=congrArg (List.map Prod.fst) h;rw [List.map_fst_zip (by omega)] at this;simpa using this
 have h2:m=pre.map Prod.snd++y::post.map Prod.snd:=by
  have:=congrArg (List.map Prod.snd) h;rw [List.map_snd_zip (by omega)] at this;simpa using this
 exact ⟨idx_pre2 h1 (by simp),idx_pre2 h2 (by simp)⟩
theorem Khc (e:Ke)(t:Int):Kc1 e t=some (if t=1 then .inr () else .inl (e.gb,9)):=by
 unfold Kc1;by_cases h:t=1
 ·subst h;rfl
 have h':(t != 1)=true:=by simpa using h
 simp [h',h,KbL]
theorem scan_fn1 {τ:Type}(c:Int→τ)(z:τ):∀ l:List (Ke×Int),scan (fun (_:Unit) (x:Ke×Int)=>if x.2=1 then .inl () else .inr (c x.1.gb)) (fun _=>z) () l=match fn1 l with|some a=>c a|none=>z
 | []=>rfl
 |
  (e,t)::l=>by
  simp only [scan,fn1];by_cases h:t=1
  ·simp only [h,if_true];exact scan_fn1 c z l
  simp only [h,if_false]
theorem scan_tyL {p:KL}{f:KG}{ρ:Type}(c:Int×Int→ρ)(d:List Int→ρ):∀ (l:List Ke) (a:List Int),scan (fun (a:List Int) x=>Sum.elim (fun pe=>.inr (c pe)) (fun t=>.inl (a++[t])) (tyE p f x)) d a l=Sum.elim c (fun ts=>d (a++ts)) (tyL p f l)
 | [],a=>by simp [scan,tyL]
 |
  e::l,a=>by
  simp only [scan,tyL];cases h1:tyE p f e with
  | inl pe=>rfl
  |
   inr t=>
   simp only [Sum.elim_inr];rw [scan_tyL c d l (a++[t])];cases tyL p f l with
   | inl pe=>rfl
   | inr ts=>simp
theorem ints_b {p:KL}{f:KG}{g0:KS→List Ke→Option ((Int×Int)⊕List Int)}{g1:KS→Ke→Option ((Int×Int)⊕Int)}{l:List Ke}(hb:l.length≤1048576)
  (h:∀ e∈l,g1 ⟨p,f⟩ e=some (tyE p f e)):Kch g0 g1 ⟨p,f⟩ l=some (tyL p f l):=by
 unfold Kch;rw [loop_scanA l (fun (a:List Int) x=>Sum.elim (fun pe=>.inr (Sum.inr (Sum.inl pe))) (fun t=>.inl (a++[t])) (tyE p f x)) (fun a=>.inl a) (fun pre a=>a.length=pre.length) [] rfl
  (fun pre x post a a' _ hi hs=>by
   cases ht:tyE p f x with
   | inl pe=>rw [ht] at hs;cases hs
   | inr t=>rw [ht] at hs;simp only [Sum.elim_inr,Sum.inl.injEq] at hs;subst hs;simp [hi])
  (fun pre x post a e hi=>by
   have hx:=KcE e;have hlen:pre.length < l.length:=by rw [e];simp
   simp only [Kcc e,cond_true];rw [e,KcN,Option.bind_some,h x hx,Option.bind_some];cases ht:tyE p f x with
   | inl pe=>rfl
   |
    inr t=>
    simp only [Sum.elim_inr,Sum.elim_inl];rw [Kc6 (by omega) (by simp;omega),Option.bind_some,KbO e (by omega)])
  (fun a hi=>by simp),Option.bind_some,scan_tyL (fun pe=>Sum.inr (Sum.inl pe)) (fun a=>Sum.inl a) l []]
 cases tyL p f l<;>rfl
theorem expr_b {p:KL}{f:KG}(hf:Fit p f){g0:KS→List Ke→Option ((Int×Int)⊕List Int)}{g1:KS→Ke→Option ((Int×Int)⊕Int)}{e:Ke}(hb:e.gc.length≤1048576)
  (h:g0 ⟨p,f⟩ e.gc=some (tyL p f e.gc)):Kci g0 g1 ⟨p,f⟩ e=some (tyE p f e):=by
 unfold Kci;rw [ckids_eq,Option.bind_some,tyE_eq];by_cases hk:kn e.gj < 0
 ·simp [hk,KbL]
 by_cases hl:(e.gc.length:Int)=kn e.gj;case neg=>
  have hl':((e.gc.length:Int) != kn e.gj)=true:=by simpa using hl
  simp only [hk,decide_false,cond_false,Option.bind_some,hl',cond_true,KbL,Sum.elim_inl,Sum.elim_inr,false_or,ne_eq,hl,not_false_eq_true,if_true]
 have hl':((e.gc.length:Int) != kn e.gj)=false:=by simpa using hl
 rw [if_neg (show ¬(kn e.gj < 0∨(e.gc.length:Int) ≠ kn e.gj) by omega)];simp only [hk,decide_false,cond_false,Option.bind_some,hl',Sum.elim_inl,h];cases ht:tyL p f e.gc with
 | inl pe=>rfl
 |
  inr ts=>
  have hlen:=tyL_len ht;simp only [Sum.elim_inr];unfold tyO;by_cases c:e.gj=14∨e.gj=15
  ·have hc:(bif (e.gj==(14:Int)) then some true else some (e.gj==(15:Int)))=some true:=by
    rcases c with h|h<;>simp [h]
   rw [hc];simp only [Option.bind_some,cond_true,c,if_true];have h2:kn e.gj=2:=by rcases c with h|h<;>rw [h]<;>rfl
   have m:e.gc.length=2:=by omega
   match hK:e.gc,hT:ts,m,hlen with
   |
    [a,b],[x,y],_,_=>
    show (some x).bind _=_
    simp only [Option.bind_some];show (some y).bind _=_
    simp only [Option.bind_some];by_cases hxy:x=y
    ·subst hxy;simp
    have:(x != y)=true:=by simpa using hxy
    simp only [this,cond_true,hxy,if_false];show Option.bind ((some b).bind _) _=_
    simp [KbL]
  have hc:(bif (e.gj==(14:Int)) then some true else some (e.gj==(15:Int)))=some false:=by
   have h1:(e.gj==(14:Int))=false:=by simp;omega
   have h2:(e.gj==(15:Int))=false:=by simp;omega
   rw [h1,h2];rfl
  rw [hc];simp only [Option.bind_some,cond_false,c,if_false];have hz:(e.gc.zip ts).length=e.gc.length:=by simp [hlen]
  rw [Keo (e.gc.zip ts) (fun (_:Unit) (x:Ke×Int)=>if x.2=1 then .inl () else .inr (Sum.inr (Sum.inl (x.1.gb,9)))) (.inl ())
   (fun pre x post hh=>by
    obtain ⟨x,t⟩:=x;obtain ⟨n,o⟩:=zip_at hlen.symm hh;have hlt:=Kcc hh;rw [hz] at hlt;simp only [hlt,cond_true,n,o,Option.bind_some,Khc];by_cases h1:t=1
    ·simp only [h1,if_true,Sum.elim_inr,Sum.elim_inl,KbO hh (by omega)]
    simp only [h1,if_false,Sum.elim_inl,Sum.elim_inr])
   (by rw [hz];simp),Option.bind_some,scan_fn1 (fun a=>Sum.inr (Sum.inl (a,9))) (Sum.inl ())]
  cases hfn:fn1 (e.gc.zip ts) with
  | some a=>rfl
  |
   none=>
   simp only [Sum.elim_inl];by_cases d:e.gj=2
   ·simp only [d,beq_self_eq_true,cond_true,if_true,Khg hf (show [(1:Int),2].length≤4611686018427387904 by simp),Option.bind_some];cases mus (kd p f e.ga) e.gb [1,2]<;>rfl
   by_cases g:e.gj=3
   ·simp only [g,Khg hf (show [(3:Int)].length≤4611686018427387904 by simp),Option.bind_some];cases mus (kd p f e.ga) e.gb [3]<;>rfl
   by_cases i:e.gj=4
   ·simp only [i,Khg hf (show [(2:Int)].length≤4611686018427387904 by simp),Option.bind_some];cases mus (kd p f e.ga) e.gb [2]<;>rfl
   by_cases j:e.gj=18
   ·simp only [j];rfl
   by_cases k:e.gj=19
   ·simp only [k,Kk1 hf,Option.bind_some];cases mus (if vk e.ga (f.gf++f.gh)=0 then gk e.ga p.gd else 2) e.gb [1]<;>rfl
   by_cases l:e.gj=20
   ·simp only [l,Kk1 hf,Option.bind_some];cases mus (if vk e.ga (f.gf++f.gh)=0 then gk e.ga p.gd else 2) e.gb [3]<;>rfl
   simp only [beq_eq_false_iff_ne.2 d,beq_eq_false_iff_ne.2 g,beq_eq_false_iff_ne.2 i,beq_eq_false_iff_ne.2 j,beq_eq_false_iff_ne.2 k,beq_eq_false_iff_ne.2 l,cond_false,d,g,i,j,k,l,if_false]
theorem exprs_g {p:KL}{f:KG}(hf:Fit p f):∀ n:Nat,(∀ l,2*dpEs l+1≤n→szEs l≤1048576→(Kad n).1 ⟨p,f⟩ l=some (tyL p f l))∧(∀ e,2*dpE e≤n→szE e≤1048576→(Kad n).2 ⟨p,f⟩ e=some (tyE p f e))
 | 0=>⟨fun l h=>by omega,fun e h _=>by rw [Ken] at h;omega⟩
 |
  n+1=>by
  obtain ⟨h2,h1⟩:=exprs_g hf n;refine ⟨fun l h hb=>?_,fun e h hb=>?_⟩
  ·have hl:=Kh5 l;exact ints_b (g0:=(Kad n).1) (by omega) fun e he=>h1 e (by have:=Kf0 he;omega) (by have:=Kf1 he;omega)
  have he:=Ken e;have hs:=Kfy e;have hl:=Kh5 e.gc;exact expr_b hf (g1:=(Kad n).2) (by omega) (h2 _ (by omega) (by omega))
theorem ints_eq {p:KL}{f:KG}(hf:Fit p f){l:List Ke}(hb:szEs l≤1048576):KeH ⟨p,f⟩ l=some (tyL p f l):=Kjz _ _ (2*dpEs l+1) ((exprs_g hf _).1 l (Nat.le_refl _) hb)
end
section
open Go
def fn2:List (K3×Int×Ke)→Option Int
 | []=>none
 | (v,t,e)::l=>if (bif v.gz then (2:Int) else 1)=t then fn2 l else some e.gb
def caO (p:KL)(f:KG)(s:Kj)(ts:List Int)(v:List K3):(Int×Int)⊕Unit:=
 if v.length ≠ ts.length then .inl (s.gb,2) else
 match fn2 (v.zip (ts.zip s.go)) with
 | some a=>.inl (a,9)
 | none=>if s.ga=ByteArray.mk #[] then .inr () else Sum.elim .inl (fun _=>.inr ()) (mus (kd p f s.ga) s.gb [1])
def fpar (n:ByteArray):List KG→Option (List K3)
 | []=>none
 | g::l=>if g.ga=n then some g.gf else fpar n l
def caS (p:KL)(f:KG)(s:Kj)(ts:List Int):(Int×Int)⊕Unit:=
 match fpar s.gu p.gi with
 | some v=>caO p f s ts v
 | none=>.inl (s.gb,7)
theorem KlE {τ:Type}(c:List K3→τ)(z:τ)(n:ByteArray):∀ l:List KG,scan (fun (_:Unit) (g:KG)=>if g.ga=n then .inr (c g.gf) else .inl ()) (fun _=>z) () l=match fpar n l with|some v=>c v|none=>z
 | []=>rfl
 |
  g::l=>by
  simp only [scan,fpar];by_cases h:g.ga=n
  ·simp only [h,if_true]
  simp only [h,if_false];exact KlE c z n l
theorem scan_fn2 {τ:Type}(c:Int→τ)(z:τ):∀ l:List (K3×Int×Ke),scan (fun (_:Unit) (x:K3×Int×Ke)=>if (bif x.1.gz then (2:Int) else 1)=x.2.1 then .inl () else .inr (c x.2.2.gb)) (fun _=>z) () l=match fn2 l with|some a=>c a|none=>z
 | []=>rfl
 |
  (v,t,e)::l=>by
  simp only [scan,fn2];by_cases h:(bif v.gz then (2:Int) else 1)=t
  ·simp only [h,if_true];exact scan_fn2 c z l
  simp only [h,if_false]
theorem zip3_at {l:List K3}{m:List Int}{k:List Ke}(h1:l.length=m.length)(h2:m.length=k.length){pre post:List (K3×Int×Ke)}{v:K3}{t:Int}{e:Ke}(h:l.zip (m.zip k)=pre++(v,t,e)::post) :
  idx l (pre.length:Int)=some v∧idx m (pre.length:Int)=some t∧idx k (pre.length:Int)=some e:=by
 have hz:(m.zip k).length=m.length:=by simp [h2]
 obtain ⟨c,_⟩:=zip_at (h1.trans hz.symm) h;have d:m.zip k=pre.map Prod.snd++(t,e)::post.map Prod.snd:=by
  have:=congrArg (List.map Prod.snd) h;rw [List.map_snd_zip (by omega)] at this;simpa using this
 obtain ⟨a,b⟩:=zip_at h2 d;simp only [List.length_map] at a b;exact ⟨c,a,b⟩
theorem ccall_eq {p:KL}{f:KG}(hf:Fit p f){s:Kj}{ts:List Int}(hl:ts.length=s.go.length)(ht:∀ t∈ts,t=1∨t=2):Kd2 ⟨p,f⟩ s ts=some (caS p f s ts):=by
 have hfu:=hf.fu;unfold Kd2;rw [Keo p.gi (fun (_:Unit) (g:KG)=>if g.ga=s.gu then .inr (Sum.inr (caO p f s ts g.gf)) else .inl ()) (.inl ())
  (fun pre g post h=>by
   simp only [Kcc h,cond_true];have hix:idx p.gi (pre.length:Int)=some g:=by rw [h];exact KcN _ _ _
   rw [hix,Option.bind_some];have hg:=hf.pa g (KcE h);by_cases hn:g.ga=s.gu
   ·simp only [hn,decide_true,Bool.not_true,cond_false,if_true,Sum.elim_inr];unfold caO;by_cases hle:g.gf.length=ts.length;case neg=>
     have h':((g.gf.length:Int) != (ts.length:Int))=true:=by simp;omega
     simp only [h',cond_true,hle,ne_eq,not_false_eq_true,if_true];simp [KbL]
    have h':((g.gf.length:Int) != (ts.length:Int))=false:=by simp;omega
    rw [if_neg (show ¬ g.gf.length ≠ ts.length by omega)];simp only [h',cond_false,Option.bind_some,Sum.elim_inl];have hz:(g.gf.zip (ts.zip s.go)).length=g.gf.length:=by simp;omega
    have i:(g.gf.zip (ts.zip s.go)).length=ts.length:=by omega
    rw [Keo (g.gf.zip (ts.zip s.go)) (fun (_:Unit) (x:K3×Int×Ke)=>if (bif x.1.gz then (2:Int) else 1)=x.2.1 then .inl () else .inr (Sum.inr (Sum.inl (x.2.2.gb,9)))) (.inl ())
     (fun j x k h2=>by
      obtain ⟨v,t,e⟩:=x;obtain ⟨b,c,d⟩:=zip3_at hle hl h2;have hlt:=Kcc h2;rw [hz] at hlt;simp only [hlt,cond_true,b,c,d,Option.bind_some,KjV];by_cases hk:(bif v.gz then (2:Int) else 1)=t
      ·have hk':((bif v.gz then (2:Int) else 1) != t)=false:=by simpa using hk
       rw [hk',if_pos hk];simp only [cond_false,Sum.elim_inl];rw [KbO h2 (by omega)]
      have hk':((bif v.gz then (2:Int) else 1) != t)=true:=by simpa using hk
      rw [hk',if_neg hk];simp only [cond_true,Sum.elim_inr,KbL,Option.bind_some,Sum.elim_inl])
     (by rw [hz];simp),Option.bind_some,scan_fn2 (fun a=>Sum.inr (Sum.inl (a,9))) (Sum.inl ())]
    cases fn2 (g.gf.zip (ts.zip s.go)) with
    | some a=>rfl
    |
     none=>
     simp only [Sum.elim_inl];by_cases he:s.ga=ByteArray.mk #[]
     ·simp [he]
     simp only [he,decide_false,Bool.not_false,cond_true,if_false,Khg hf (show [(1:Int)].length≤4611686018427387904 by simp),Option.bind_some];cases mus (kd p f s.ga) s.gb [1]<;>rfl
   simp only [hn,decide_false,Bool.not_false,cond_true,if_false,Sum.elim_inl,KbO h (by omega)]) (by simp),Option.bind_some,KlE (fun v=>Sum.inr (caO p f s ts v)) (Sum.inl ())]
 unfold caS;cases fpar s.gu p.gi with
 | some v=>rfl
 | none=>rfl
end
section
open Go
mutual
def szS:Kj→Nat
 | ⟨_,_,_,es,ks,ls,_⟩=>1+szSs ks+szSs ls+szEs es
def szSs:List Kj→Nat
 | []=>0
 | s::l=>szS s+szSs l
end
mutual
def hS:Kj→Nat
 | ⟨_,_,_,_,ks,ls,_⟩=>1+max (hSs ks) (hSs ls)
def hSs:List Kj→Nat
 | []=>1
 | s::l=>max (hS s) (hSs l)
end
theorem KgW (s:Kj):szS s=1+szSs s.gc+szSs s.gq+szEs s.go:=by cases s;simp only [szS]
theorem hS_eq (s:Kj):hS s=1+max (hSs s.gc) (hSs s.gq):=by cases s;simp only [hS]
theorem Kim:∀ l m,szSs (l++m)=szSs l+szSs m
 | [],m=>by simp [szSs]
 | e::l,m=>by simp only [List.cons_append,szSs,Kim l m];omega
theorem KiP:∀ {l:List Kj} {s:Kj},s∈l→hS s≤hSs l
 |
  x::l,e,h=>by
  simp only [hSs];rcases List.mem_cons.1 h with rfl|h
  ·omega
  have:=KiP h;omega
theorem KiQ:∀ {l:List Kj} {s:Kj},s∈l→szS s≤szSs l
 |
  x::l,e,h=>by
  simp only [szSs];rcases List.mem_cons.1 h with rfl|h
  ·omega
  have:=KiQ h;omega
theorem KiR:∀ l,1≤hSs l
 | []=>by simp [hSs]
 | s::l=>by have:=KiR l;simp only [hSs];omega
theorem KgI:∀ l,l.length≤szSs l
 | []=>by simp
 |
  e::l=>by
  have:=KgI l;have h:=KgW e;simp only [szSs,List.length_cons];omega
theorem szSs_pre {l pre:List Kj}{x:Kj}{post:List Kj}(h:l=pre++x::post):szSs pre+szS x≤szSs l:=by
 subst h;rw [Kim];simp only [szSs];omega
theorem fuel {l:List Kj}{n:Nat}{x:Kj}(h:hSs l≤n+1)(hx:x∈l):hSs x.gc≤n∧hSs x.gq≤n:=by
 have h1:=KiP hx;have h2:=hS_eq x;omega
end
section
open Go
def en (s:Kj):Int:=if s.gj=1∨s.gj=3∨s.gj=6∨s.gj=7∨s.gj=8∨s.gj=9 then 1 else if s.gj=2 then 2 else if s.gj=4 then (s.go.length:Int) else if s.gj=5 then 0 else -1
theorem cexps_eq (s:Kj):Kgl s=some (en s):=by
 unfold Kgl en;by_cases h1:s.gj=1
 ·simp [h1]
 by_cases h2:s.gj=3
 ·simp [h2]
 by_cases a:s.gj=6
 ·simp [a]
 by_cases b:s.gj=7
 ·simp [b]
 by_cases c:s.gj=8
 ·simp [c]
 by_cases d:s.gj=9
 ·simp [d]
 simp only [beq_eq_false_iff_ne.2 h1,beq_eq_false_iff_ne.2 h2,beq_eq_false_iff_ne.2 a,beq_eq_false_iff_ne.2 b,beq_eq_false_iff_ne.2 c,beq_eq_false_iff_ne.2 d,cond_false,Option.bind_some,h1,h2,a,b,c,d,false_or,if_false];by_cases e:s.gj=2
 ·simp [e]
 by_cases f:s.gj=4
 ·simp [f]
 by_cases g:s.gj=5
 ·simp [g]
 simp only [beq_eq_false_iff_ne.2 e,beq_eq_false_iff_ne.2 f,beq_eq_false_iff_ne.2 g,cond_false,e,f,g,if_false]
def Un (r:(Int×Int)⊕Int):(Int×Int)⊕Unit:=Sum.elim .inl (fun _=>.inr ()) r
def owO (p:KL)(f:KG)(s:Kj)(ts:List Int):(Int×Int)⊕Unit:=
 if s.gj=1 then
  match ts with
  | [x]=>Sum.elim .inl (fun k=>if k=x then .inr () else .inl (s.gb,9)) (mus (kd p f s.ga) s.gb [1,2])
  | _=>.inr ()
 else if s.gj=4 then caS p f s ts
 else match fn1 (s.go.zip ts) with
  | some a=>.inl (a,9)
  |
   none=>
   if s.gj=2 then Un (mus (kd p f s.ga) s.gb [3])
   else if s.gj=3 then Un (mus (kd p f s.ga) s.gb [2])
   else if s.gj=5 then Un (mus (kd p f s.ga) s.gb [1])
   else .inr ()
def owS (p:KL)(f:KG)(s:Kj):(Int×Int)⊕Unit:=if en s < 0∨(s.go.length:Int) ≠ en s then .inl (s.gb,2) else Sum.elim .inl (fun ts=>owO p f s ts) (tyL p f s.go)
mutual
def stS (p:KL)(f:KG):Kj→(Int×Int)⊕Unit
 | ⟨op,n,fn,es,ks,el,a⟩=>Sum.elim .inl (fun _=>Sum.elim .inl (fun _=>stL p f el) (stL p f ks)) (owS p f ⟨op,n,fn,es,ks,el,a⟩)
def stL (p:KL) (f:KG):List Kj→(Int×Int)⊕Unit
 | []=>.inr ()
 | s::l=>Sum.elim .inl (fun _=>stL p f l) (stS p f s)
end
theorem stS_eq (p:KL)(f:KG)(s:Kj):stS p f s=Sum.elim .inl (fun _=>Sum.elim .inl (fun _=>stL p f s.gq) (stL p f s.gc)) (owS p f s):=by cases s;simp only [stS]
theorem own_bind {X:Option (Unit⊕((Int×Int)⊕Unit))}{k1:Option ((Int×Int)⊕Unit)}{r R2:(Int×Int)⊕Unit}(h:X=some (Sum.elim (fun pe=>.inr (.inl pe)) (fun _=>.inl ()) r))(hk:k1=some R2) :
  Option.bind X (Sum.elim (fun _=>k1) (fun r=>some r))=some (Sum.elim .inl (fun _=>R2) r):=by
 subst h;subst hk;cases r<;>rfl
theorem tyE_12 {p:KL}{f:KG}{e:Ke}{t:Int}(h:tyE p f e=.inr t):t=1∨t=2:=by
 have hc:∀ {k a:Int} {ls:List Int} {u:Int},Sum.elim (γ:=(Int×Int)⊕Int) .inl (fun _=>.inr u) (mus k a ls)=.inr t→t=u:=fun {k a ls u} h=>by
  cases b:mus k a ls with
  | inl q=>rw [b] at h;cases h
  | inr q=>rw [b] at h;simp only [Sum.elim_inr,Sum.inr.injEq] at h;exact h.symm
 rw [tyE_eq] at h;split at h
 ·cases h
 cases ht:tyL p f e.gc with
 | inl q=>rw [ht] at h;cases h
 |
  inr ts=>
  rw [ht] at h;simp only [Sum.elim_inr] at h;unfold tyO at h;split at h
  ·split at h
   ·split at h
    ·simp only [Sum.inr.injEq] at h;exact .inl h.symm
    cases h
   simp only [Sum.inr.injEq] at h;exact .inl h.symm
  split at h
  ·cases h
  split at h
  ·unfold mus at h;split at h
   ·cases h
   split at h
   ·rename_i _ b;simp only [Sum.inr.injEq] at h;subst h;simpa using b
   cases h
  split at h
  ·exact .inl (hc h)
  split at h
  ·exact .inl (hc h)
  split at h
  ·simp only [Sum.inr.injEq] at h;exact .inr h.symm
  split at h
  ·exact .inr (hc h)
  split at h
  ·exact .inr (hc h)
  simp only [Sum.inr.injEq] at h;exact .inl h.symm
theorem tyL_12 {p:KL}{f:KG}:∀ {l:List Ke} {ts:List Int},tyL p f l=.inr ts→∀ t∈ts,t=1∨t=2
 | [],ts,h,t,ht=>by simp only [tyL,Sum.inr.injEq] at h;subst h;cases ht
 |
  e::l,ts,h,t,ht=>by
  simp only [tyL] at h;cases h1:tyE p f e with
  | inl pe=>rw [h1] at h;cases h
  |
   inr u=>
   rw [h1] at h;cases h2:tyL p f l with
   | inl pe=>rw [h2] at h;cases h
   |
    inr ts'=>
    rw [h2] at h;simp only [Sum.elim_inr,Sum.inr.injEq] at h;subst h;rcases List.mem_cons.1 ht with rfl|ht
    ·exact tyE_12 h1
    exact tyL_12 h2 t ht
theorem stmt_b {p:KL}{f:KG}(hf:Fit p f){g0:KS→List Kj→Option ((Int×Int)⊕Unit)}{g1:KS→Kj→Option ((Int×Int)⊕Unit)}{s:Kj}(hb:szEs s.go≤1048576)
  (hk:g0 ⟨p,f⟩ s.gc=some (stL p f s.gc)) (he:g0 ⟨p,f⟩ s.gq=some (stL p f s.gq)):Kcj g0 g1 ⟨p,f⟩ s=some (stS p f s):=by
 have B:=Kh5 s.go;unfold Kcj;rw [cexps_eq,Option.bind_some,stS_eq];unfold owS;by_cases hn:en s < 0
 ·simp [hn,KbL]
 by_cases hl:(s.go.length:Int)=en s;case neg=>
  have hl':((s.go.length:Int) != en s)=true:=by simpa using hl
  rw [if_pos (by omega)];simp only [hn,decide_false,cond_false,Option.bind_some,hl',cond_true,KbL,Sum.elim_inl,Sum.elim_inr]
 have hl':((s.go.length:Int) != en s)=false:=by simpa using hl
 rw [if_neg (show ¬(en s < 0∨(s.go.length:Int) ≠ en s) by omega)];simp only [hn,decide_false,cond_false,Option.bind_some,hl',Sum.elim_inl,ints_eq hf hb];cases ht:tyL p f s.go with
 | inl pe=>rfl
 |
  inr ts=>
  have hlen:=tyL_len ht;simp only [Sum.elim_inr];refine own_bind ?_ ?_;case refine_2=>
   rw [hk,Option.bind_some];cases stL p f s.gc with
   | inl pe=>rfl
   |
    inr u=>
    simp only [Sum.elim_inr,he,Option.bind_some];cases stL p f s.gq<;>rfl
  have i:=fun (k:Int)=>Khg (n:=s.ga) (at_:=s.gb) hf (show [k].length≤4611686018427387904 by simp)
  have n2:=Khg (n:=s.ga) (at_:=s.gb) hf (show [(1:Int),2].length≤4611686018427387904 by simp);have hcall:=ccall_eq (s:=s) hf hlen (tyL_12 ht);have one:en s=1→∃ a x,s.go=[a]∧ts=[x]:=fun h1=>by
   have l:s.go.length=1:=by omega
   match hK:s.go,hT:ts,l,hlen with
   | [a],[x],_,_=>exact ⟨a,x,rfl,rfl⟩
  unfold owO;by_cases g:s.gj=1
  ·obtain ⟨a,x,hE,hT⟩:=one (by unfold en;simp [g]);subst hT;have c:idx [x] (0:Int)=some x:=rfl;simp only [g,n2,c,Option.bind_some,if_true,beq_self_eq_true,cond_true];cases mus (kd p f s.ga) s.gb [1,2] with
   | inl pe=>rfl
   |
    inr k=>
    simp only [Sum.elim_inr];by_cases hkx:k=x
    ·subst hkx;simp
    have:(k != x)=true:=by simpa using hkx
    simp [this,hkx,KbL]
  by_cases h:s.gj=4
  ·simp only [h,hcall,Option.bind_some];cases caS p f s ts<;>rfl
  rw [if_neg g,if_neg h];have m:=beq_eq_false_iff_ne.2 g;have o:=beq_eq_false_iff_ne.2 h;by_cases d:s.gj=2
  ·have h2:en s=2:=by unfold en;simp [d]
   have q:s.go.length=2:=by omega
   have:∃ a b x y,s.go=[a,b]∧ts=[x,y]:=by
    match hK:s.go,hT:ts,q,hlen with
    | [a,b],[x,y],_,_=>exact ⟨a,b,x,y,rfl,rfl⟩
   obtain ⟨a,b,x,y,hE,hT⟩:=this;subst hT;rw [hE];have c:∀ {β:Type} (u v:β),idx [u,v] (0:Int)=some u:=fun _ _=>rfl
   have r:∀ {β:Type} (u v:β),idx [u,v] (1:Int)=some v:=fun _ _=>rfl
   simp only [d,i,Option.bind_some,c,r,Khc,List.zip_cons_cons,List.zip_nil_right,fn1];by_cases hx:x=1
   ·by_cases hy:y=1
    ·simp only [hx,hy,if_true,Sum.elim_inr];cases mus (kd p f s.ga) s.gb [3]<;>rfl
    simp only [hx,hy,if_true,if_false,Sum.elim_inr];rfl
   simp only [hx,if_false];rfl
  have t:=beq_eq_false_iff_ne.2 d;by_cases e:s.gj=5
  ·have C:en s=0:=by unfold en;simp [e]
   have w:s.go=[]:=List.eq_nil_of_length_eq_zero (by omega);rw [w];simp only [e,i,Option.bind_some,List.zip_nil_left,fn1];cases mus (kd p f s.ga) s.gb [1]<;>rfl
  have z:=beq_eq_false_iff_ne.2 e;obtain ⟨a,x,hE,hT⟩:=one (by
   have:¬ en s < 0:=hn;unfold en at this ⊢;split
   ·rfl
   rw [if_neg (by assumption),if_neg d,if_neg h,if_neg e] at this;omega)
  subst hT;rw [hE];have c:∀ {β:Type} (u:β),idx [u] (0:Int)=some u:=fun _=>rfl
  by_cases j:s.gj=3
  ·simp only [j,i,Option.bind_some,c,Khc,List.zip_cons_cons,List.zip_nil_right,fn1];by_cases hx:x=1
   ·simp only [hx,if_true,Sum.elim_inr];cases mus (kd p f s.ga) s.gb [2]<;>rfl
   simp only [hx,if_false];rfl
  have A:=beq_eq_false_iff_ne.2 j;simp only [m,t,A,o,z,cond_false,Option.bind_some,c,Khc,List.zip_cons_cons,List.zip_nil_right,fn1,d,j,e,if_false];by_cases hx:x=1
  ·simp only [hx,if_true];rfl
  simp only [hx,if_false];rfl
end
section
open Go
theorem scan_stL {p:KL}{f:KG}{τ:Type}(c:Int×Int→τ)(z:τ):∀ l:List Kj,scan (fun (_:Unit) s=>Sum.elim (fun pe=>.inr (c pe)) (fun _=>.inl ()) (stS p f s)) (fun _=>z) () l=Sum.elim c (fun _=>z) (stL p f l)
 | []=>rfl
 |
  s::l=>by
  simp only [scan,stL];cases stS p f s with
  | inl pe=>rfl
  | inr u=>exact scan_stL c z l
theorem stmts_b {p:KL}{f:KG}{g0:KS→List Kj→Option ((Int×Int)⊕Unit)}{g1:KS→Kj→Option ((Int×Int)⊕Unit)}{l:List Kj}(hb:l.length≤1048576)
  (h:∀ s∈l,g1 ⟨p,f⟩ s=some (stS p f s)):Kb8 g0 g1 ⟨p,f⟩ l=some (stL p f l):=by
 unfold Kb8;rw [Keo l (fun (_:Unit) s=>Sum.elim (fun pe=>.inr (Sum.inr (Sum.inl pe))) (fun _=>.inl ()) (stS p f s)) (.inl ())
  (fun pre x post e=>by
   simp only [Kcc e,cond_true];have hix:idx l (pre.length:Int)=some x:=by rw [e];exact KcN _ _ _
   rw [hix,Option.bind_some,h x (KcE e),Option.bind_some];cases stS p f x with
   | inl pe=>rfl
   | inr u=>simp only [Sum.elim_inr,Sum.elim_inl];rw [KbO e (by omega)]) (by simp),Option.bind_some,scan_stL (fun pe=>Sum.inr (Sum.inl pe)) (Sum.inl ())]
 cases stL p f l<;>rfl
theorem stmts_g {p:KL}{f:KG}(hf:Fit p f):∀ n:Nat,(∀ l,2*hSs l≤n→szSs l≤1048576→(K9 n).1 ⟨p,f⟩ l=some (stL p f l))∧(∀ s,2*hS s≤n+1→szS s≤1048576→(K9 n).2 ⟨p,f⟩ s=some (stS p f s))
 | 0=>⟨fun l h=>by have:=KiR l;omega,fun s h _=>by rw [hS_eq] at h;omega⟩
 |
  n+1=>by
  obtain ⟨h2,h1⟩:=stmts_g hf n;refine ⟨fun l h hb=>?_,fun s h hb=>?_⟩
  ·have hl:=KgI l;exact stmts_b (g0:=(K9 n).1) (by omega) fun s hs=>h1 s (by have:=KiP hs;omega) (by have:=KiQ hs;omega)
  have he:=hS_eq s;have hz:=KgW s;exact stmt_b hf (g1:=(K9 n).2) (by omega) (h2 _ (by omega) (by omega)) (h2 _ (by omega) (by omega))
theorem cstmts_eq {p:KL}{f:KG}(hf:Fit p f){l:List Kj}(hb:szSs l≤1048576):Kew ⟨p,f⟩ l=some (stL p f l):=Kjf _ _ (2*hSs l) ((stmts_g hf _).1 l (Nat.le_refl _) hb)
end
section
open Go
theorem mget_put {α β:Type}[DecidableEq α](k:α)(v:β)(k':α):∀ l:List (α×β),mget (mput l k v) k'=if k=k' then some v else mget l k'
 | []=>by simp [mput,mget]
 |
  (a,b)::l=>by
  unfold mput;by_cases h:a=k
  ·subst h;rw [if_pos rfl];by_cases h2:a=k'
   ·simp [mget,h2]
   simp [mget,h2]
  rw [if_neg h];simp only [mget];by_cases h2:a=k'
  ·subst h2;rw [if_pos rfl,if_neg (fun e=>h e.symm),if_pos rfl]
  rw [if_neg h2,if_neg h2,mget_put k v k' l]
theorem Kf2 {α β:Type}[DecidableEq α](k:α)(v z:β)(k':α)(l:List (α×β)):mgetD (mput l k v) k' z=if k=k' then v else mgetD l k' z:=by
 unfold mgetD;rw [mget_put];by_cases h:k=k'
 ·rw [if_pos h,if_pos h];rfl
 rw [if_neg h,if_neg h]
def nmG (p:KL):List K3→List K3→Bool
 | _,[]=>true
 | seen,v::l=>if gk v.ga p.gd ≠ 0∨∃ y∈seen,y.ga=v.ga then false else nmG p (seen++[v]) l
theorem Kk2 (p:KL):∀ (l m seen:List K3),nmG p seen (l++m)=(nmG p seen l && nmG p (seen++l) m)
 | [],m,seen=>by simp [nmG]
 |
  v::l,m,seen=>by
  simp only [List.cons_append,nmG];split
  ·rfl
  rw [Kk2 p l m (seen++[v])];simp
def fnS (p:KL)(f:KG):(Int×Int)⊕Unit:=if nmG p [] (f.gf++f.gh) then stL p f f.gp else .inl (f.gb,8)
def Cnt (seen:List K3)(m:List (ByteArray×Int)):Prop:=∀ n,mgetD m n 0=if ∃ y∈seen,y.ga=n then 1 else 0
theorem Cnt.put {seen:List K3}{m:List (ByteArray×Int)}(h:Cnt seen m){v:K3}(hv:¬ ∃ y∈seen,y.ga=v.ga):Cnt (seen++[v]) (mput m v.ga (IntKind.i64.wrap (mgetD m v.ga 0+1))):=by
 intro n;have h0:=h v.ga;rw [if_neg hv] at h0;rw [Kf2,h0];by_cases hn:v.ga=n
 ·rw [if_pos hn,if_pos ⟨v,by simp,hn⟩];rfl
 rw [if_neg hn,h n];by_cases he:∃ y∈seen,y.ga=n
 ·rw [if_pos he,if_pos];obtain ⟨q,a,b⟩:=he;exact ⟨q,by simp [a],b⟩
 rw [if_neg he,if_neg];rintro ⟨q,a,b⟩;simp only [List.mem_append,List.mem_singleton] at a;rcases a with a|rfl
 ·exact he ⟨q,a,b⟩
 exact hn b
theorem Kk3 {p:KL}{f:KG}(hg:p.gd.length≤1048576){F:Int×List (ByteArray×Int)→Option (Step (Int×List (ByteArray×Int)) (List (ByteArray×Int)⊕((Int×Int)⊕Unit)))}{l:List K3}(hb:l.length≤1048576)
  (hF:∀ s,F s=(bif (decide (s.1 < (l.length:Int))) then ((idx l s.1).bind fun a=>(Option.bind (α:=Bool) (bif (decide ((1:Int) < (mgetD (mput s.2 a.ga (IntKind.i64.wrap ((mgetD s.2 a.ga (0:Int))+(1:Int)))) a.ga (0:Int)))) then some true else ((KbW ⟨p,f⟩ a.ga).bind fun d=>some (d != (0:Int)))) fun g=>(bif g then ((KbL f.gb (8:Int)).bind fun i=>Sum.elim (fun j=>some (.done (.inr (.inl j)))) (fun k=>some (.next ((IntKind.i64.wrap (s.1+(1:Int))),(mput s.2 a.ga (IntKind.i64.wrap ((mgetD s.2 a.ga (0:Int))+(1:Int))))))) i) else some (.next ((IntKind.i64.wrap (s.1+(1:Int))),(mput s.2 a.ga (IntKind.i64.wrap ((mgetD s.2 a.ga (0:Int))+(1:Int))))))))) else some (.done (.inl s.2))))
  {seen:List K3} {m:List (ByteArray×Int)} (hc:Cnt seen m):∃ m',(nmG p seen l=true→Cnt (seen++l) m')∧loopM F ((0:Int),m)=some (if nmG p seen l then .inl m' else .inr (.inl (f.gb,8))):=by
 have key:∀ (post pre:List K3) (m:List (ByteArray×Int)),l=pre++post→Cnt (seen++pre) m→∃ m',(nmG p (seen++pre) post=true→Cnt (seen++pre++post) m')∧loopM F ((pre.length:Int),m)=some (if nmG p (seen++pre) post then .inl m' else .inr (.inl (f.gb,8))):=by
  intro post;induction post with
  |
   nil=>
   intro pre m h hc;rw [List.append_nil] at h;subst h;refine ⟨m,fun _=>by simpa using hc,?_⟩;rw [KbA (t:=Sum.inl m) (by rw [hF];simp)];rfl
  |
   cons x post ih=>
   intro pre m h hc;have hix:idx l (pre.length:Int)=some x:=by rw [h];exact KcN _ _ _
   have hx:=hc x.ga;have hstep:F ((pre.length:Int),m)=if gk x.ga p.gd ≠ 0∨∃ y∈seen++pre,y.ga=x.ga then some (.done (.inr (.inl (f.gb,8)))) else some (.next (((pre.length+1:Nat):Int),mput m x.ga (IntKind.i64.wrap (mgetD m x.ga 0+1)))):=by
    rw [hF];simp only [Kcc h,cond_true,hix,Option.bind_some,Kjm (s:=⟨p,f⟩) (n:=x.ga) (show p.gd.length≤4611686018427387904 by omega)];by_cases he:∃ y∈seen++pre,y.ga=x.ga
    ·rw [if_pos he] at hx;have h2:decide ((1:Int) < mgetD (mput m x.ga (IntKind.i64.wrap (mgetD m x.ga 0+1))) x.ga 0)=true:=by
      rw [Kf2,if_pos rfl,hx];rfl
     rw [if_pos (.inr he)];simp [h2,KbL]
    rw [if_neg he] at hx;have h2:decide ((1:Int) < mgetD (mput m x.ga (IntKind.i64.wrap (mgetD m x.ga 0+1))) x.ga 0)=false:=by
     rw [Kf2,if_pos rfl,hx];rfl
    simp only [h2,cond_false,Option.bind_some];by_cases hgk:gk x.ga p.gd=0
    ·rw [if_neg (by simp only [not_or];exact ⟨by simpa using hgk,he⟩)];simp only [hgk,bne_self_eq_false,cond_false];rw [KbO h (by omega)]
    rw [if_pos (.inl hgk)];have:(gk x.ga p.gd != 0)=true:=by simpa using hgk
    simp [this,KbL]
   by_cases hbad:gk x.ga p.gd ≠ 0∨∃ y∈seen++pre,y.ga=x.ga
   ·rw [if_pos hbad] at hstep;have e:nmG p (seen++pre) (x::post)=false:=by simp only [nmG];rw [if_pos hbad]
    exact ⟨m,(fun q=>by rw [e] at q;cases q),by rw [KbA hstep];simp [e]⟩
   rw [if_neg hbad] at hstep;have e:nmG p (seen++pre) (x::post)=nmG p (seen++pre++[x]) post:=by simp only [nmG];rw [if_neg hbad]
   rw [KcM hstep];have hne:¬ ∃ y∈seen++pre,y.ga=x.ga:=fun q=>hbad (.inr q)
   obtain ⟨m',b,c⟩:=ih (pre++[x]) _ (by simp [h]) (by rw [← List.append_assoc];exact hc.put hne);refine ⟨m',fun q=>?_,?_⟩
   ·rw [e] at q;have:=b (by rw [← List.append_assoc];exact q);simpa using this
   simp only [e];simpa using c
 obtain ⟨m',b,c⟩:=key l [] m rfl (by simpa using hc);exact ⟨m',fun q=>by simpa using b (by simpa using q),by simpa using c⟩
end
section
open Go
def nmF (p:KL)(f:KG)(l:List K3):Int×List (ByteArray×Int)→Option (Step (Int×List (ByteArray×Int)) (List (ByteArray×Int)⊕((Int×Int)⊕Unit))):=fun s=>
 (bif (decide (s.1 < (l.length:Int))) then ((idx l s.1).bind fun a=>(Option.bind (α:=Bool) (bif (decide ((1:Int) < (mgetD (mput s.2 a.ga (IntKind.i64.wrap ((mgetD s.2 a.ga (0:Int))+(1:Int)))) a.ga (0:Int)))) then some true else ((KbW ⟨p,f⟩ a.ga).bind fun b=>some (b != (0:Int)))) fun c=>(bif c then ((KbL f.gb (8:Int)).bind fun d=>Sum.elim (fun e=>some (.done (.inr (.inl e)))) (fun g=>some (.next ((IntKind.i64.wrap (s.1+(1:Int))),(mput s.2 a.ga (IntKind.i64.wrap ((mgetD s.2 a.ga (0:Int))+(1:Int))))))) d) else some (.next ((IntKind.i64.wrap (s.1+(1:Int))),(mput s.2 a.ga (IntKind.i64.wrap ((mgetD s.2 a.ga (0:Int))+(1:Int))))))))) else some (.done (.inl s.2)))
theorem names_eq {p:KL}{f:KG}(hf:Fit p f):KcU ⟨p,f⟩=some (if nmG p [] (f.gf++f.gh) then .inr () else .inl (f.gb,8)):=by
 have hN:KcU ⟨p,f⟩=Option.bind (loopM (fun (a:Int×List (ByteArray×Int))=>(bif (decide (a.1 < (2:Int))) then ((idx ([f.gf,f.gh]:List (List K3)) a.1).bind fun d=>(Option.bind (loopM (nmF p f d) ((0:Int),a.2)) (Sum.elim (fun e=>some (Step.next ((IntKind.i64.wrap (a.1+(1:Int))),e))) (fun r=>some (Step.done (Sum.inr r)))))) else some (Step.done (Sum.inl a.2)))) ((0:Int),([]:List (ByteArray×Int)))) (Sum.elim (fun h=>some (Sum.inr ())) (fun r=>some r)):=by
  unfold KcU;rfl
 rw [hN,Kk2,List.nil_append];have c0:Cnt [] []:=fun n=>by simp [mgetD,mget]
 obtain ⟨m1,g,b⟩:=Kk3 (p:=p) (f:=f) hf.gl (F:=nmF p f f.gf) hf.fp (fun s=>rfl) c0;cases h1:nmG p [] f.gf with
 |
  false=>
  rw [h1] at b;rw [KbA (t:=Sum.inr (Sum.inl (f.gb,8))) (by
   show Option.bind (loopM (nmF p f f.gf) ((0:Int),[])) _=_
   rw [b];rfl)]
  rfl
 |
  true=>
  rw [h1] at b;rw [KcM (s':=((1:Int),m1)) (by
   show Option.bind (loopM (nmF p f f.gf) ((0:Int),[])) _=_
   rw [b];rfl)]
  have c1:=g h1;rw [List.nil_append] at c1;obtain ⟨m2,i,c⟩:=Kk3 (p:=p) (f:=f) hf.gl (F:=nmF p f f.gh) hf.fl (fun s=>rfl) c1;cases h2:nmG p f.gf f.gh with
  |
   false=>
   rw [h2] at c;rw [KbA (t:=Sum.inr (Sum.inl (f.gb,8))) (by
    show Option.bind (loopM (nmF p f f.gh) ((0:Int),m1)) _=_
    rw [c];rfl)]
   rfl
  |
   true=>
   rw [h2] at c;rw [KcM (s':=((2:Int),m2)) (by
    show Option.bind (loopM (nmF p f f.gh) ((0:Int),m1)) _=_
    rw [c];rfl)]
   rw [KbA (t:=Sum.inl m2) rfl];rfl
theorem checkP_eq {p:KL}{f:KG}(hf:Fit p f)(hb:szSs f.gp≤1048576):checkP p f=some (fnS p f):=by
 unfold checkP;rw [names_eq hf,Option.bind_some,cstmts_eq hf hb];unfold fnS;cases nmG p [] (f.gf++f.gh)<;>rfl
theorem checkF_eq {p:KL}{f:KG}(hf:Fit p f)(hb:szSs f.gp≤1048576):checkF p f=some (wr (fnS p f)):=by
 unfold checkF;rw [checkP_eq hf hb,Option.bind_some]
end
section
open Go
open Classical
def dupN (seen:List ByteArray):List ByteArray→Option Nat
 | []=>none
 | n::l=>if n∈seen then some 0 else (dupN (seen++[n]) l).map (·+1)
theorem Kki:∀ (a b seen:List ByteArray),dupN seen (a++b)=match dupN seen a with|some i=>some i|none=>(dupN (seen++a) b).map (·+a.length)
 | [],b,seen=>by simp [dupN]
 |
  n::a,b,seen=>by
  simp only [List.cons_append,dupN];by_cases h:n∈seen
  ·simp only [h,if_true]
  simp only [h,if_false,Kki a b (seen++[n])];cases dupN (seen++[n]) a with
  | some i=>rfl
  |
   none=>
   simp only [Option.map_none,List.append_assoc,List.cons_append,List.nil_append,Option.map_map];congr 1
def CntN (seen:List ByteArray)(m:List (ByteArray×Int)):Prop:=∀ n,mgetD m n 0=if n∈seen then 1 else 0
theorem CntN.put {seen:List ByteArray}{m:List (ByteArray×Int)}(h:CntN seen m){v:ByteArray}(hv:v ∉ seen):CntN (seen++[v]) (mput m v (IntKind.i64.wrap (mgetD m v 0+1))):=by
 intro n;have h0:=h v;rw [if_neg hv] at h0;rw [Kf2,h0];by_cases hn:v=n
 ·subst hn;rw [if_pos rfl,if_pos (by simp)];rfl
 rw [if_neg hn,h n];by_cases he:n∈seen
 ·rw [if_pos he,if_pos (by simp [he])]
 rw [if_neg he,if_neg (by simp only [List.mem_append,List.mem_singleton,not_or];exact ⟨he,fun q=>hn q.symm⟩)]
theorem Kk4 {β ρ:Type}(nm:β→ByteArray)(R:Int→ρ){F:Int×List (ByteArray×Int)→Option (Step (Int×List (ByteArray×Int)) (List (ByteArray×Int)⊕ρ))}{l:List β}(hb:l.length≤1048576)
  (hF:∀ s,F s=(bif (decide (s.1 < (l.length:Int))) then ((idx l s.1).bind fun x=>(bif (decide ((1:Int) < (mgetD (mput s.2 (nm x) (IntKind.i64.wrap ((mgetD s.2 (nm x) (0:Int))+(1:Int)))) (nm x) (0:Int)))) then some (.done (.inr (R s.1))) else some (.next ((IntKind.i64.wrap (s.1+(1:Int))),(mput s.2 (nm x) (IntKind.i64.wrap ((mgetD s.2 (nm x) (0:Int))+(1:Int)))))))) else some (.done (.inl s.2))))
  {seen:List ByteArray} {m:List (ByteArray×Int)} (hc:CntN seen m):∃ m',(dupN seen (l.map nm)=none→CntN (seen++l.map nm) m')∧loopM F ((0:Int),m)=some (match dupN seen (l.map nm) with|some i=>.inr (R (i:Nat))|none=>.inl m'):=by
 have key:∀ (post pre:List β) (m:List (ByteArray×Int)),l=pre++post→CntN (seen++pre.map nm) m→∃ m',(dupN (seen++pre.map nm) (post.map nm)=none→CntN (seen++pre.map nm++post.map nm) m')∧loopM F ((pre.length:Int),m)=some (match dupN (seen++pre.map nm) (post.map nm) with|some i=>.inr (R ((pre.length+i:Nat):Int))|none=>.inl m'):=by
  intro post;induction post with
  |
   nil=>
   intro pre m h hc;rw [List.append_nil] at h;subst h;refine ⟨m,fun _=>by simpa using hc,?_⟩;rw [KbA (t:=Sum.inl m) (by rw [hF];simp)];rfl
  |
   cons x post ih=>
   intro pre m h hc;have hix:idx l (pre.length:Int)=some x:=by rw [h];exact KcN _ _ _
   have hx:=hc (nm x);by_cases he:nm x∈seen++pre.map nm
   ·rw [if_pos he] at hx;have h2:decide ((1:Int) < mgetD (mput m (nm x) (IntKind.i64.wrap (mgetD m (nm x) 0+1))) (nm x) 0)=true:=by
     rw [Kf2,if_pos rfl,hx];rfl
    have e:dupN (seen++pre.map nm) ((x::post).map nm)=some 0:=by simp only [List.map_cons,dupN];rw [if_pos he]
    refine ⟨m,(fun q=>by rw [e] at q;cases q),?_⟩;rw [KbA (t:=Sum.inr (R (pre.length:Int))) (by rw [hF];simp only [Kcc h,cond_true,hix,Option.bind_some,h2])];rw [e];rfl
   rw [if_neg he] at hx;have h2:decide ((1:Int) < mgetD (mput m (nm x) (IntKind.i64.wrap (mgetD m (nm x) 0+1))) (nm x) 0)=false:=by
    rw [Kf2,if_pos rfl,hx];rfl
   have e:dupN (seen++pre.map nm) ((x::post).map nm)=(dupN (seen++pre.map nm++[nm x]) (post.map nm)).map (·+1):=by simp only [List.map_cons,dupN];rw [if_neg he]
   rw [KcM (s':=(((pre.length+1:Nat):Int),mput m (nm x) (IntKind.i64.wrap (mgetD m (nm x) 0+1)))) (by
    rw [hF];simp only [Kcc h,cond_true,hix,Option.bind_some,h2,cond_false];rw [KbO h (by omega)])]
   have c:seen++(pre++[x]).map nm=seen++pre.map nm++[nm x]:=by simp
   obtain ⟨m',b,a⟩:=ih (pre++[x]) _ (by simp [h]) (by rw [c];exact hc.put he);rw [c] at b a;refine ⟨m',fun q=>?_,?_⟩
   ·rw [e] at q;have:=b (by simpa using q);simpa using this
   have hl:(pre++[x]).length=pre.length+1:=by simp
   rw [hl] at a;rw [a,e];cases dupN (seen++pre.map nm++[nm x]) (post.map nm) with
   | none=>rfl
   | some i=>simp only [Option.map_some];rw [show pre.length+1+i=pre.length+(i+1) by omega]
 obtain ⟨m',b,a⟩:=key l [] m rfl (by simpa using hc);refine ⟨m',fun q=>by simpa using b (by simpa using q),?_⟩;have:loopM F ((0:Int),m)=_:=a;rw [this];simp
def KhJ (p:KL):List ByteArray:=p.gd.map (·.ga)++p.gi.map (·.ga)
def twF {β:Type}(nm:β→ByteArray)(R:Int→Int)(l:List β):Int×List (ByteArray×Int)→Option (Step (Int×List (ByteArray×Int)) (List (ByteArray×Int)⊕Int)):=fun s=>
 (bif (decide (s.1 < (l.length:Int))) then ((idx l s.1).bind fun x=>(bif (decide ((1:Int) < (mgetD (mput s.2 (nm x) (IntKind.i64.wrap ((mgetD s.2 (nm x) (0:Int))+(1:Int)))) (nm x) (0:Int)))) then some (.done (.inr (R s.1))) else some (.next ((IntKind.i64.wrap (s.1+(1:Int))),(mput s.2 (nm x) (IntKind.i64.wrap ((mgetD s.2 (nm x) (0:Int))+(1:Int)))))))) else some (.done (.inl s.2)))
theorem twice_eq {p:KL}(hg:p.gd.length≤1048576)(hf:p.gi.length≤1048576):KeT p=some (match dupN [] (KhJ p) with|some i=>(i:Int)|none=>-1):=by
 have hN:KeT p=Option.bind (loopM (twF (·.ga) (fun i=>i) p.gd) ((0:Int),([]:List (ByteArray×Int)))) (Sum.elim (fun a=>Option.bind (loopM (twF (·.ga) (fun i=>IntKind.i64.wrap ((p.gd.length:Int)+i)) p.gi) ((0:Int),a)) (Sum.elim (fun e=>some (-1:Int)) (fun r=>some r))) (fun r=>some r)):=by
  unfold KeT;rfl
 rw [hN];have c0:CntN [] []:=fun n=>by simp [mgetD,mget]
 obtain ⟨m1,b,c⟩:=Kk4 (fun g:KT=>g.ga) (fun i=>i) (F:=twF (·.ga) (fun i=>i) p.gd) hg (fun s=>rfl) c0;rw [c];unfold KhJ;rw [Kki];cases h1:dupN [] (p.gd.map (·.ga)) with
 | some i=>rfl
 |
  none=>
  simp only [Option.bind_some,Sum.elim_inl];have c1:=b h1;obtain ⟨m2,f,d⟩:=Kk4 (fun g:KG=>g.ga) (fun i=>IntKind.i64.wrap ((p.gd.length:Int)+i)) (F:=twF (·.ga) (fun i=>IntKind.i64.wrap ((p.gd.length:Int)+i)) p.gi) hf (fun s=>rfl) c1;rw [d];have hle:∀ {l seen:List ByteArray} {i:Nat},dupN seen l=some i→i < l.length:=by
   intro l;induction l with
   | nil=>intro seen i h;cases h
   |
    cons n l ih=>
    intro seen i h;simp only [dupN] at h;split at h
    ·simp only [Option.some.injEq] at h;subst h;simp
    cases hd:dupN (seen++[n]) l with
    | none=>rw [hd] at h;cases h
    | some j=>rw [hd] at h;simp only [Option.map_some,Option.some.injEq] at h;subst h;have:=ih hd;simp;omega
  cases h2:dupN ([]++p.gd.map (·.ga)) (p.gi.map (·.ga)) with
  | none=>rfl
  |
   some i=>
   have hi:=hle h2;simp only [List.length_map] at hi;simp only [Option.bind_some,Sum.elim_inr,Option.map_some,List.length_map];rw [wrap_id (by omega) (by omega)];simp [Int.natCast_add,Int.add_comm]
end
section
open Go
open Classical
structure PFit (p:KL):Prop where
 gl:p.gd.length≤1048576
 fu:p.gi.length≤1048576
 fn:∀ f∈p.gi,Fit p f∧szSs f.gp≤1048576
def stepF (p:KL)(a:List KG)(x:KG):List KG⊕(Unit⊕(Int×Int×Int)):=if (wr (fnS p x)).2=0 then .inl (a++[x]) else .inr (.inr (((p.gd.length+a.length:Nat):Int),(wr (fnS p x)).1,(wr (fnS p x)).2))
theorem funcs_loop {p:KL}(hp:PFit p){E:KG→Option (Int×Int)}(hE:∀ x∈p.gi,E x=some (wr (fnS p x))){F:Int→Option (Step Int (Unit⊕(Int×Int×Int)))}
  (hF:∀ s,F s=(bif (decide (s < (p.gi.length:Int))) then ((idx p.gi s).bind fun c=>((E c).bind fun b=>(bif (b.2 != (0:Int)) then some (.done (.inr ((IntKind.i64.wrap ((p.gd.length:Int)+s)),b.1,b.2))) else some (.next (IntKind.i64.wrap (s+(1:Int))))))) else some (.done (.inl ())))) :
  loopM F (0:Int)=some (scan (stepF p) (fun _=>.inl ()) [] p.gi):=by
 have h1:=hp.gl;have h2:=hp.fu
 refine KjU p.gi (stepF p) (fun _=>.inl ()) (fun _ k=>(k:Int)) (fun pre a=>a=pre) [] rfl (fun pre x post a a' _ hi hs=>?_) (fun pre x post a h hi=>?_) (fun a _=>by rw [hF];simp)
 ·subst hi;unfold stepF at hs;split at hs
  ·simp only [Sum.inl.injEq] at hs;exact hs.symm
  cases hs
 subst hi;have hlen:a.length < p.gi.length:=by rw [h];simp
 have hix:idx p.gi (a.length:Int)=some x:=by rw [h];exact KcN _ _ _
 rw [hF];simp only [Kcc h,cond_true,hix,Option.bind_some,hE x (KcE h)];unfold stepF;by_cases h0:(wr (fnS p x)).2=0
 ·simp only [h0,bne_self_eq_false,cond_false,if_true,Sum.elim_inl];rw [KbO h (by omega)]
 have d:((wr (fnS p x)).2 != 0)=true:=by simpa using h0
 simp only [d,cond_true,h0,if_false,Sum.elim_inr];rw [wrap_id (by omega) (by omega)];simp [Int.natCast_add]
def prS (p:KL):Int×Int×Int:=
 if 24 < p.gd.length∨24 < p.gi.length then (0,0,6)
 else match dupN [] (KhJ p) with
  | some i=>((i:Nat),0,8)
  | none=>Sum.elim (fun _=>(0,0,0)) id (scan (stepF p) (fun _=>.inl ()) [] p.gi)
theorem big_eq (p:KL):(bif (decide ((24:Int) < (p.gd.length:Int))) then some true else some (decide ((24:Int) < (p.gi.length:Int))))=some (decide (24 < p.gd.length∨24 < p.gi.length)):=by
 by_cases h1:24 < p.gd.length
 ·have:(24:Int) < (p.gd.length:Int):=by omega
  simp [h1,this]
 have h1':¬ (24:Int) < (p.gd.length:Int):=by omega
 by_cases h2:24 < p.gi.length
 ·have:(24:Int) < (p.gi.length:Int):=by omega
  simp [h1,h1',h2,this]
 have:¬ (24:Int) < (p.gi.length:Int):=by omega
 simp [h1,h1',h2,this]
theorem KkD {p:KL}(hp:PFit p):Kec p=some (prS p):=by
 unfold Kec prS;rw [big_eq,Option.bind_some];by_cases hb:24 < p.gd.length∨24 < p.gi.length
 ·simp [hb]
 simp only [hb,decide_false,cond_false,if_false];rw [twice_eq hp.gl hp.fu,Option.bind_some];cases dupN [] (KhJ p) with
 |
  some i=>
  have:decide ((0:Int)≤((i:Nat):Int))=true:=by simp
  simp only [this,cond_true]
 |
  none=>
  have:decide ((0:Int)≤-1)=false:=by decide
  simp only [this,cond_false];rw [funcs_loop hp (fun x hx=>checkF_eq (hp.fn x hx).1 (hp.fn x hx).2) (fun s=>rfl),Option.bind_some];cases scan (stepF p) (fun _=>.inl ()) [] p.gi<;>rfl
end
section
open Go
theorem Kh6 {β:Type}{one:β→Option β}{l:List β}(hb:l.length≤1048576)(h:∀ x∈l,one x=some x){F:Int×List β→Option (Step (Int×List β) (List β))}
  (hF:∀ s,F s=(bif (decide (s.1 < (l.length:Int))) then ((idx s.2 s.1).bind fun a=>((one a).bind fun b=>((idx s.2 s.1).bind fun c=>some (.next ((IntKind.i64.wrap (s.1+(1:Int))),(s.2.set s.1.toNat b)))))) else some (.done s.2))):loopM F ((0:Int),l)=some l:=by
 refine Kkz l (fun _=>()) (fun _ k=>((k:Int),l)) (fun _=>l) (fun pre x post e=>?_) ?_
 ·have hset:l.set pre.length x=l:=by rw [e];simp [List.set_append]
  have hix:idx l (pre.length:Int)=some x:=by rw [e];exact KcN _ _ _
  rw [hF];simp only [Kcc e,cond_true,hix,Option.bind_some,h x (KcE e),Int.toNat_natCast,hset];rw [KbO e (by omega)]
 rw [hF];simp
theorem mk_ok {bb n:Nat}(hb:bb≤4096)(h:n≤1048576):need (mkOK bb (n:Int) (n:Int))=some ():=by
 have h1:(n:Int)*bb≤140737488355328:=by
  have:=Nat.mul_le_mul h hb;have:(n:Int)*(bb:Int)≤((1048576*4096:Nat):Int):=by exact_mod_cast this
  omega
 unfold need mkOK;simp [h1]
theorem mk_len {β γ:Type}{l:List β}{z:γ}:need (decide (l.length=(List.replicate (l.length:Int).toNat z).length))=some ():=by
 unfold need;simp
theorem Keu {β:Type}{bb:Nat}{l:List β}(hb:bb≤4096)(h:l.length≤1048576):app bb l ([]:List β)=some l:=by
 rw [Kc6 hb (by simp;omega)];simp
theorem copyE_g:∀ n,(∀ l,dpEs l≤n→szEs l≤1048576→(KR (2*n+1)).1 l=some l)∧(∀ e,dpE e≤n→szE e≤1048576→(KR (2*n)).2 e=some e)
 |
  0=>by
  refine ⟨fun l h hs=>?_,fun e h _=>by have:=Ken e;omega⟩;cases l with
  |
   nil=>
   show Kbm (KR 0).1 (KR 0).2 []=_
   unfold Kbm;rw [mk_ok (by omega) (by simp),Option.bind_some,mk_len,Option.bind_some,Kh6 (one:=(KR 0).2) (by simp) (by simp) (fun _=>rfl)];rfl
  | cons x l=>have:=Kf0 (l:=x::l) (e:=x) (by simp);have:=Ken x;omega
 |
  n+1=>by
  have ih:=copyE_g n;have h2:∀ e,dpE e≤n+1→szE e≤1048576→(KR (2*(n+1))).2 e=some e:=fun e h hs=>by
   show KdB (KR (2*n+1)).1 (KR (2*n+1)).2 e=_
   unfold KdB;have:=Ken e;have:=Kfy e
   rw [ih.1 e.gc (by omega) (by omega)];cases e;rfl
  refine ⟨fun l h hs=>?_,h2⟩;show Kbm (KR (2*(n+1))).1 (KR (2*(n+1))).2 l=_
  unfold Kbm;have hl:=Kfc l;rw [mk_ok (by omega) (by omega),Option.bind_some,mk_len,Option.bind_some,Kh6 (one:=(KR (2*(n+1))).2) (by omega) (fun x hx=>h2 x (Nat.le_trans (Kf0 hx) h) (Nat.le_trans (Kf1 hx) hs)) (fun _=>rfl)];rfl
theorem copyEs {l:List Ke}(h:szEs l≤1048576):Kd8 l=some l:=Kih l _ ((copyE_g (dpEs l)).1 l (Nat.le_refl _) h)
theorem copyS_g:∀ n,(∀ l,hSs l≤n→szSs l≤1048576→(KU (2*n+1)).1 l=some l)∧(∀ e,hS e≤n→szS e≤1048576→(KU (2*n)).2 e=some e)
 | 0=>⟨fun l h hs=>by have:=KiR l;omega,fun e h _=>by have:=hS_eq e;omega⟩
 |
  n+1=>by
  have ih:=copyS_g n;have h2:∀ e,hS e≤n+1→szS e≤1048576→(KU (2*(n+1))).2 e=some e:=fun e h hs=>by
   show KdC (KU (2*n+1)).1 (KU (2*n+1)).2 e=_
   unfold KdC;have:=hS_eq e;have:=KgW e
   rw [copyEs (by omega),Option.bind_some,ih.1 e.gc (by omega) (by omega),Option.bind_some,ih.1 e.gq (by omega) (by omega)];cases e;rfl
  refine ⟨fun l h hs=>?_,h2⟩;show KbQ (KU (2*(n+1))).1 (KU (2*(n+1))).2 l=_
  unfold KbQ;have hl:=KgI l;rw [mk_ok (by omega) (by omega),Option.bind_some,mk_len,Option.bind_some,Kh6 (one:=(KU (2*(n+1))).2) (by omega) (fun x hx=>h2 x (Nat.le_trans (KiP hx) h) (Nat.le_trans (KiQ hx) hs)) (fun _=>rfl)];rfl
theorem copySs {l:List Kj}(h:szSs l≤1048576):Kd9 l=some l:=Kij l _ ((copyS_g (hSs l)).1 l (Nat.le_refl _) h)
theorem copyF {f:KG}(h1:f.gf.length≤1048576)(h2:f.gh.length≤1048576)(a:szSs f.gp≤1048576):KdH f=some f:=by
 unfold KdH KcR;rw [Keu (by omega) h1,Option.bind_some,Keu (by omega) h2,Option.bind_some,copySs a];rfl
theorem copyP {p:KL}(hp:PFit p):Ked p=some p:=by
 have h1:=hp.gl;have h2:=hp.fu
 unfold Ked KaL Kea;rw [Keu (by omega) h1,Option.bind_some,mk_ok (by omega) h2,Option.bind_some,mk_len,Option.bind_some,Kh6 (one:=KdH) h2 (fun x hx=>copyF (hp.fn x hx).1.fp (hp.fn x hx).1.fl (hp.fn x hx).2) (fun _=>rfl)];rfl
end
section
open Go
theorem KkE {σ τ:Type}{f:σ→Option (Step σ τ)}(I:σ→Prop)(μ:σ→Nat)(Post:τ→Prop)(h:∀ s,I s→(∃ s',f s=some (.next s')∧I s'∧μ s' < μ s)∨∃ r,f s=some (.done r)∧Post r):∀ {s},I s→∃ r,loopM f s=some r∧Post r:=by
 have key:∀ n s,μ s < n→I s→∃ r,loopM f s=some r∧Post r:=by
  intro n;induction n with
  | zero=>intro s h;omega
  |
   succ n ih=>
   intro s a hi;rcases h s hi with ⟨s',h1,h2,b⟩|⟨r,h1,h2⟩
   ·rw [KcM h1];exact ih s' (by omega) h2
   exact ⟨r,KbA h1,h2⟩
 intro s hi;exact key _ s (Nat.lt_succ_self _) hi
def FS (f:KG):Prop:=f.gf.length≤1048576∧f.gh.length≤1048576∧szSs f.gp≤1048576
structure Big (p:KL):Prop where
 gl:p.gd.length≤25
 fu:p.gi.length≤25
 fs:∀ f∈p.gi,FS f
theorem Big.fit {p:KL}(h:Big p):PFit p:=by
 have h1:=h.gl;have h2:=h.fu
 exact ⟨by omega,by omega,fun f hf=>⟨⟨by omega,by omega,fun g hg=>(h.fs g hg).1,(h.fs f hf).1,(h.fs f hf).2.1⟩,(h.fs f hf).2.2⟩⟩
theorem Kj5 {p:KL}(h:(prS p).2.2=0):p.gd.length≤24∧p.gi.length≤24:=by
 unfold prS at h;by_cases h1:24 < p.gd.length∨24 < p.gi.length
 ·rw [if_pos h1] at h;simp at h
 omega
structure Rt (p:KL):Prop where
 ok:(prS p).2.2=0
 fs:∀ f∈p.gi,FS f
theorem Rt.big {p:KL}(h:Rt p):Big p:=by
 have:=Kj5 h.ok;exact ⟨by omega,by omega,h.fs⟩
theorem KhK {β:Type}{l:List β}(t:β→Bool)(hb:l.length≤1048576){F:Int→Option (Step Int (Unit⊕Int))}(hF:∀ s,F s=(bif (decide (s < (l.length:Int))) then ((idx l s).bind fun x=>(bif (t x) then some (.done (.inr s)) else some (.next (IntKind.i64.wrap (s+(1:Int)))))) else some (.done (.inl ())))) :
  ∃ r,loopM F (0:Int)=some r∧∀ i,r=.inr i→∃ k:Nat,i=(k:Int)∧k < l.length:=by
 refine KkE (fun s=>∃ k:Nat,s=(k:Int)∧k≤l.length) (fun s=>l.length - s.toNat) (fun r=>∀ i,r=Sum.inr i→∃ k:Nat,i=(k:Int)∧k < l.length) (fun s hs=>?_) ⟨0,rfl,Nat.zero_le _⟩;obtain ⟨k,rfl,hk⟩:=hs;rw [hF];by_cases h:k < l.length
 ·rw [decide_eq_true (by omega),cond_true,Kdq,List.getElem?_eq_getElem h,Option.bind_some];cases ht:t l[k] with
  | true=>exact .inr ⟨_,rfl,fun i e=>⟨k,by cases e;rfl,h⟩⟩
  |
   false=>
   have hw:IntKind.i64.wrap ((k:Int)+1)=((k+1:Nat):Int):=by rw [IntKind.wrap_i64];omega
   refine .inl ⟨_,rfl,⟨k+1,hw,h⟩,?_⟩;rw [hw];simp only [Int.toNat_natCast];omega
 rw [decide_eq_false (by omega),cond_false];exact .inr ⟨_,rfl,fun i e=>by cases e⟩
def Sub {β:Type}(l m:List β):Prop:=l.length≤m.length∧∀ x∈l,x∈m
theorem KlF {β:Type}{a:List β}{z:β}(t:β→Bool)(hb:a.length≤1048576){ix:Option Int}(hix:ix=some (-1)∨∃ k:Nat,ix=some (k:Int)∧k < a.length){F:Int×Int×List β→Option (Step (Int×Int×List β) (Int×List β))}
  (hF:∀ s,F s=(bif (decide (s.2.1 < (s.2.2.length:Int))) then ((idx s.2.2 s.2.1).bind fun g=>(bif (!(t g)) then ((idx s.2.2 s.1).bind fun n=>some (.next ((IntKind.i64.wrap (s.1+(1:Int))),(IntKind.i64.wrap (s.2.1+(1:Int))),(s.2.2.set s.1.toNat g)))) else some (.next (s.1,(IntKind.i64.wrap (s.2.1+(1:Int))),s.2.2)))) else some (.done (s.1,s.2.2)))) :
  ∃ l,(ix.bind fun e=>(bif (e==(-1:Int)) then some a else (Option.bind (loopM F (e,(IntKind.i64.wrap (e+(1:Int))),a)) fun b=>((cutL b.2 b.1 ((b.2).length:Int)).bind fun o=>((cutL (clrL b.2 b.1.toNat z) (0:Int) b.1).bind fun m=>some m)))))=some l∧Sub l a:=by
 rcases hix with rfl|⟨k,rfl,hk⟩
 ·exact ⟨a,rfl,Nat.le_refl _,fun x h=>h⟩
 rw [Option.bind_some,show ((k:Int)==-1)=false by simp,cond_false];have hw:∀ j:Nat,j < 1048577→IntKind.i64.wrap ((j:Int)+1)=((j+1:Nat):Int):=fun j h=>by rw [IntKind.wrap_i64];omega
 obtain ⟨r,h1,i,l,rfl,h2,d,c⟩:=KkE (f:=F) (fun s=>∃ (i j:Nat) (l:List β),s=((i:Int),(j:Int),l)∧i < j∧j≤a.length∧l.length=a.length∧∀ x∈l,x∈a) (fun s=>a.length - s.2.1.toNat) (fun r=>∃ (i:Nat) (l:List β),r=((i:Int),l)∧i≤a.length∧l.length=a.length∧∀ x∈l,x∈a) (fun s hs=>by
  obtain ⟨i,j,l,rfl,h1,h2,d,c⟩:=hs;rw [hF];simp only;by_cases h:j < a.length
  ·have hj:l[j]? = some l[j]:=List.getElem?_eq_getElem (by omega);have hi:l[i]? = some l[i]:=List.getElem?_eq_getElem (by omega);rw [decide_eq_true (by omega),cond_true,Kdq,hj,Option.bind_some,hw j (by omega),hw i (by omega)];cases t l[j] with
   | true=>exact .inl ⟨_,rfl,⟨i,j+1,l,rfl,by omega,by omega,d,c⟩,by simp only [Int.toNat_natCast];omega⟩
   |
    false=>
    rw [Bool.not_false,cond_true,Kdq,hi,Option.bind_some];refine .inl ⟨_,rfl,⟨i+1,j+1,l.set i l[j],by simp,by omega,by omega,by simpa using d,fun x hx=>?_⟩,by simp only [Int.toNat_natCast];omega⟩;rcases List.mem_or_eq_of_mem_set hx with hx|rfl
    ·exact c x hx
    exact c _ (List.getElem_mem _)
  rw [decide_eq_false (by omega),cond_false];exact .inr ⟨_,rfl,i,l,rfl,by omega,d,c⟩) (s:=((k:Int),IntKind.i64.wrap ((k:Int)+1),a)) ⟨k,k+1,a,by rw [hw k (by omega)],by omega,hk,rfl,fun x h=>h⟩
 rw [h1,Option.bind_some];simp only [Int.toNat_natCast];have c1:cutL l (i:Int) (l.length:Int)=some (l.drop i):=by
  unfold cutL;rw [show (decide (0≤(i:Int)) && decide ((i:Int)≤(l.length:Int)) && decide ((l.length:Int)≤(l.length:Int)))=true by simp;omega,cond_true];simp [List.take_of_length_le]
 have c2:cutL (clrL l i z) 0 (i:Int)=some (l.take i):=by
  have hlen:(clrL l i z).length=l.length:=by unfold clrL;simp;omega
  unfold cutL;rw [show (decide ((0:Int)≤0) && decide ((0:Int)≤(i:Int)) && decide ((i:Int)≤((clrL l i z).length:Int)))=true by rw [hlen];simp;omega,cond_true];simp only [Int.toNat_zero,List.drop_zero,Int.toNat_natCast,Nat.sub_zero];unfold clrL;rw [List.take_append_of_le_length (by simp;omega),List.take_take,Nat.min_self]
 rw [c1,Option.bind_some,c2,Option.bind_some];exact ⟨_,rfl,by simp;omega,fun x hx=>c x (List.mem_of_mem_take hx)⟩
theorem try_is {p q:KL}{own:Int}(hq:Big q):∃ at_ e r,KcD ⟨p⟩ q own=some (at_,e,⟨r⟩)∧((e=0∧r=q∧(prS q).2.2=0)∨(e ≠ 0∧r=p)):=by
 unfold KcD;rw [KkD hq.fit,Option.bind_some];by_cases h:(prS q).2.2=0
 ·rw [show ((prS q).2.2==0)=true by simp [h]];exact ⟨0,0,q,rfl,.inl ⟨rfl,rfl,h⟩⟩
 rw [show ((prS q).2.2==0)=false by simp [h]];cases h2:(prS q).1 != own with
 | true=>exact ⟨0,_,p,rfl,.inr ⟨h,rfl⟩⟩
 | false=>exact ⟨_,_,p,rfl,.inr ⟨h,rfl⟩⟩
theorem setF {l:List KG}(hl:l.length≤1000)(f:KG):∃ m i,KcI l f f=some (m,i)∧m.length≤l.length+1∧∀ g∈m,g∈l∨g=f:=by
 unfold KcI Kbj KbB Kem;rw [Keu (by omega) (by omega),Option.bind_some];simp only [Option.bind_some];obtain ⟨r,h1,h2⟩:=KhK (fun x:KG=>decide (x.ga=f.ga)) (l:=l) (by omega) (fun _=>rfl);rw [h1,Option.bind_some];cases r with
 |
  inl u=>
  rw [Sum.elim_inl,Option.bind_some,show decide ((-1:Int) < 0)=true from rfl,cond_true,Kc6 (by omega) (by simp;omega)];exact ⟨_,_,rfl,by simp,fun g hg=>by simpa using hg⟩
 |
  inr i=>
  obtain ⟨k,rfl,hk⟩:=h2 i rfl;rw [Sum.elim_inr,Option.bind_some,decide_eq_false (by omega),cond_false,Kdq,List.getElem?_eq_getElem hk,Option.bind_some];refine ⟨_,_,rfl,by simp,fun g hg=>?_⟩;exact List.mem_or_eq_of_mem_set hg
theorem setG {l:List KT}(hl:l.length≤1000)(f:KT):∃ m i,Kdh l f f=some (m,i)∧m.length≤l.length+1∧∀ g∈m,g∈l∨g=f:=by
 unfold Kdh KaL KbJ KdQ;rw [Keu (by omega) (by omega),Option.bind_some];simp only [Option.bind_some];obtain ⟨r,h1,h2⟩:=KhK (fun x:KT=>decide (x.ga=f.ga)) (l:=l) (by omega) (fun _=>rfl);rw [h1,Option.bind_some];cases r with
 |
  inl u=>
  rw [Sum.elim_inl,Option.bind_some,show decide ((-1:Int) < 0)=true from rfl,cond_true,Kc6 (by omega) (by simp;omega)];exact ⟨_,_,rfl,by simp,fun g hg=>by simpa using hg⟩
 |
  inr i=>
  obtain ⟨k,rfl,hk⟩:=h2 i rfl;rw [Sum.elim_inr,Option.bind_some,decide_eq_false (by omega),cond_false,Kdq,List.getElem?_eq_getElem hk,Option.bind_some];exact ⟨_,_,rfl,by simp,fun g hg=>List.mem_or_eq_of_mem_set hg⟩
theorem delF {l:List KG}(hl:l.length≤1000)(n:ByteArray):∃ m,Ka0 l n=some m∧Sub m l:=by
 unfold Ka0;refine KlF (fun x=>decide (x.ga=n)) (by omega) ?_ (fun _=>rfl);unfold Kbt KdE;simp only [Option.bind_some];obtain ⟨r,h1,h2⟩:=KhK (fun x:KG=>decide (x.ga=n)) (l:=l) (by omega) (fun _=>rfl);rw [h1,Option.bind_some];cases r with
 | inl u=>exact .inl rfl
 |
  inr i=>
  obtain ⟨k,rfl,hk⟩:=h2 i rfl;exact .inr ⟨k,rfl,hk⟩
theorem delG {l:List KT}(hl:l.length≤1000)(n:ByteArray):∃ m,KaU l n=some m∧Sub m l:=by
 unfold KaU;refine KlF (fun x=>decide (x.ga=n)) (by omega) ?_ (fun _=>rfl);unfold Kbf KdD;simp only [Option.bind_some];obtain ⟨r,h1,h2⟩:=KhK (fun x:KT=>decide (x.ga=n)) (l:=l) (by omega) (fun _=>rfl);rw [h1,Option.bind_some];cases r with
 | inl u=>exact .inl rfl
 |
  inr i=>
  obtain ⟨k,rfl,hk⟩:=h2 i rfl;exact .inr ⟨k,rfl,hk⟩
def ReadsF:Prop:=∀ b,∃ f at_ e,Kbs b=some (f,at_,e)∧(e=0→FS f)
def ReadsG:Prop:=∀ b,∃ (f:KT) (at_ e:Int),KbX b=some (f,at_,e)
theorem prS_zero {p:KL}(h:(prS p).2.2=0):prS p=(0,0,0):=by
 unfold prS at h ⊢;by_cases h1:24 < p.gd.length∨24 < p.gi.length
 ·rw [if_pos h1] at h;simp at h
 rw [if_neg h1] at h ⊢;cases h2:dupN [] (KhJ p) with
 | some i=>rw [h2] at h;simp at h
 |
  none=>
  rw [h2] at h;simp only at h ⊢;have key:∀ (l a:List KG),(Sum.elim (fun _=>((0,0,0):Int×Int×Int)) id (scan (stepF p) (fun _=>.inl ()) a l)).2.2=0→Sum.elim (fun _=>((0,0,0):Int×Int×Int)) id (scan (stepF p) (fun _=>.inl ()) a l)=(0,0,0):=by
   intro l;induction l with
   | nil=>intro a _;rfl
   |
    cons x l ih=>
    intro a h;simp only [scan] at h ⊢;unfold stepF at h ⊢;by_cases hz:(wr (fnS p x)).2=0
    ·simp only [hz,if_true] at h ⊢;exact ih _ h
    simp only [hz,if_false,Sum.elim_inr,id] at h
  exact key _ _ h
end
section
open Go
def T {α:Type}(m:Option α)(P:α→Prop):Prop:=∃ r,m=some r∧P r
theorem T.bind {α β:Type}{m:Option α}{f:α→Option β}{P:α→Prop}{Q:β→Prop}(h:T m P)(g:∀ x,P x→T (f x) Q):T (m.bind f) Q:=by
 obtain ⟨x,rfl,hx⟩:=h;exact g x hx
theorem T.ret {α:Type}{x:α}{P:α→Prop}(h:P x):T (some x) P:=⟨x,rfl,h⟩
theorem T.cond {α:Type}{c:Bool}{a b:Option α}{P:α→Prop}(h1:c=true→T a P)(h2:c=false→T b P):T (bif c then a else b) P:=by
 cases c
 ·exact h2 rfl
 exact h1 rfl
theorem T.imp {α:Type}{m:Option α}{P Q:α→Prop}(h:T m P)(g:∀ x,P x→Q x):T m Q:=by
 obtain ⟨x,h1,h2⟩:=h;exact ⟨x,h1,g x h2⟩
def StepP {σ τ:Type}(I:σ→Prop)(μ:σ→Nat)(n:Nat)(Post:τ→Prop):Step σ τ→Prop
 | .next s'=>I s'∧μ s' < n
 | .done r=>Post r
theorem T.loop {σ τ:Type}{f:σ→Option (Step σ τ)}(I:σ→Prop)(μ:σ→Nat){Post:τ→Prop}{s:σ}(hi:I s)(h:∀ s,I s→T (f s) (StepP I μ (μ s) Post)):T (loopM f s) Post:=by
 refine KkE I μ Post (fun s hs=>?_) hi;obtain ⟨r,h1,h2⟩:=h s hs;cases r with
 | next s'=>exact .inl ⟨s',h1,h2.1,h2.2⟩
 | done r=>exact .inr ⟨r,h1,h2⟩
theorem T.idx {α:Type}{l:List α}{k:Nat}{P:α→Prop}(h:k < l.length)(g:∀ x,l[k]? = some x→P x):T (idx l (k:Int)) P:=by
 rw [Kdq];exact ⟨l[k],List.getElem?_eq_getElem h,g _ (List.getElem?_eq_getElem h)⟩
theorem T.cut {α:Type}{l:List α}{a b:Nat}{P:List α→Prop}(h1:a≤b)(h2:b≤l.length)(g:∀ x:List α,x.length=b - a→P x):T (cutL l (a:Int) (b:Int)) P:=by
 unfold cutL;rw [show (decide (0≤(a:Int)) && decide ((a:Int)≤(b:Int)) && decide ((b:Int)≤(l.length:Int)))=true by simp;omega,cond_true];refine T.ret (g _ ?_);simp;omega
theorem wn {n:Nat}(h:n < 1000000000):IntKind.i64.wrap ((n:Int)+1)=((n+1:Nat):Int):=by rw [IntKind.wrap_i64];omega
theorem wa {n k:Nat}(h:n+k < 1000000000):IntKind.i64.wrap ((n:Int)+(k:Int))=((n+k:Nat):Int):=by rw [IntKind.wrap_i64];omega
theorem tkind (c:Int):T (KdN c) fun _=>True:=by
 unfold KdN;repeat' (first|exact T.ret trivial|(refine T.cond (fun _=>?_) (fun _=>?_))|(refine T.bind (P:=fun _=>True) ?_ (fun _ _=>?_)))
theorem tcont (l:List ByteArray)(s:ByteArray)(hl:l.length≤1000):T (KaS l s) fun _=>True:=by
 unfold KaS Kcs;refine T.bind (P:=fun _=>True) ?_ fun _ _=>T.ret trivial
 obtain ⟨r,h1,_⟩:=KhK (fun x=>decide (s=x)) (l:=l) (by omega) (fun _=>rfl);rw [h1];cases r<;>exact T.ret trivial
theorem tword (s:ByteArray):T (Kdv s) fun _=>True:=by
 unfold Kdv;refine T.bind (tcont _ _ ?_) fun _ _=>T.ret trivial
 simp
structure TkI (m:K4) (a:Nat):Prop where
 at_:m.gb=(a:Int)
 le:a≤m.gB.length
 len:m.gB.length≤20000
 l:m.gL.length≤4000
def fk (m:K4)(a:Nat)(k:Int):Prop:=∃ c,m.gB[a]? = some c∧KdN (IntKind.i32.wrap (c.toNat:Int))=some k
theorem tspan {m:K4}{a:Nat}(h:TkI m a)(b:Bool):T (KbR m b) fun n=>∃ k:Nat,n=(k:Int)∧a+k≤m.gB.length∧(fk m a 3→1≤k)∧(b=true→fk m a 2→1≤k):=by
 have h1:=h.le;have h2:=h.len
 unfold KbR;refine T.bind (P:=fun n=>∃ k:Nat,n=(k:Int)∧a+k≤m.gB.length∧(fk m a 3→1≤k)∧(b=true→fk m a 2→1≤k)) ?_ fun x hx=>T.ret hx
 refine T.loop (fun s=>∃ k:Nat,s=(k:Int)∧a+k≤m.gB.length) (fun s=>m.gB.length - (a+s.toNat)) ⟨0,rfl,by omega⟩ fun s hs=>?_
 obtain ⟨k,rfl,hk⟩:=hs;rw [h.at_,wa (by omega)];refine T.cond (fun hc=>?_) (fun hc=>T.ret ⟨k,rfl,hk,fun ⟨c,e,_⟩=>?_,fun _ ⟨c,e,_⟩=>?_⟩)
 ·have hlt:a+k < m.gB.length:=by have:=of_decide_eq_true hc;omega
  refine T.bind (P:=fun c=>m.gB[a+k]? = some c) (T.idx hlt fun x hx=>hx) fun c he=>?_
  obtain ⟨kd,hkd,_⟩:=tkind (IntKind.i32.wrap (c.toNat:Int));rw [hkd,Option.bind_some];have nx:StepP (fun s=>∃ k:Nat,s=(k:Int)∧a+k≤m.gB.length) (fun s:Int=>m.gB.length - (a+s.toNat)) (m.gB.length - (a+((k:Int)).toNat)) (fun n=>∃ k:Nat,n=(k:Int)∧a+k≤m.gB.length∧(fk m a 3→1≤k)∧(b=true→fk m a 2→1≤k)) (.next (IntKind.i64.wrap ((k:Int)+1))):=by
   rw [wn (by omega)];exact ⟨⟨k+1,rfl,by omega⟩,by simp only [Int.toNat_natCast];omega⟩
  have key:∀ q,fk m a q→k=0→kd=q:=fun q ⟨c',i,j⟩ h0=>by
   subst h0;rw [Nat.add_zero,i] at he;cases he;rw [j] at hkd;cases hkd;rfl
  refine T.cond (fun d=>T.cond (fun f=>T.ret ⟨k,rfl,hk,fun hf=>?_,fun _ hf=>?_⟩) fun f=>T.cond (fun g=>T.ret ⟨k,rfl,hk,fun hf=>?_,fun hb hf=>?_⟩) fun _=>T.ret nx) fun _=>T.ret nx
  ·rcases Nat.eq_zero_or_pos k with h0|h0
   ·rw [key 3 hf h0] at d;cases d
   exact h0
  ·rcases Nat.eq_zero_or_pos k with h0|h0
   ·rw [key 2 hf h0] at f;cases f
   exact h0
  ·rcases Nat.eq_zero_or_pos k with h0|h0
   ·rw [key 3 hf h0] at d;cases d
   exact h0
  rw [hb] at g;cases g
 ·rcases Nat.eq_zero_or_pos k with h0|h0
  ·subst h0;have:a < m.gB.length:=(List.getElem?_eq_some_iff.1 e).1;simp at hc;omega
  exact h0
 rcases Nat.eq_zero_or_pos k with h0|h0
 ·subst h0;have:a < m.gB.length:=(List.getElem?_eq_some_iff.1 e).1;simp at hc;omega
 exact h0
def TP (m:K4)(a:Nat)(r:Int×K4):Prop:=r.1 ≠ 0∨∃ a',a < a'∧TkI r.2 a'∧r.2.gB=m.gB
theorem tadd {m:K4}{a:Nat}(h:TkI m a){k:Nat}(h1:1≤k)(h2:a+k≤m.gB.length)(kd v:Int):T (KbG m kd (k:Int) v) (TP m a):=by
 have c:=h.l;have b:=h.len
 unfold KbG;refine T.cond (fun _=>T.ret (.inl (by simp))) fun hc=>?_
 have hl:m.gL.length < 4000:=by
  have:=of_decide_eq_false hc;omega
 rw [h.at_,wa (by omega)];refine T.bind (P:=fun _=>True) (T.cut (by omega) h2 fun _ _=>trivial) fun x _=>?_
 rw [Kc6 (by omega) (by simp;omega),Option.bind_some];exact T.ret (.inr ⟨a+k,by omega,⟨rfl,h2,b,by simp;omega⟩,rfl⟩)
theorem tname {m:K4}{a:Nat}(h:TkI m a)(hf:fk m a 2):T (KbS m) (TP m a):=by
 have c:=h.len;have d:=h.le
 unfold KbS;refine T.bind (tspan h true) fun n hn=>?_
 obtain ⟨k,rfl,k1,_,k2⟩:=hn;have b:=k2 rfl hf;rw [h.at_,wa (by omega)];refine T.bind (P:=fun _=>True) (T.cut (by omega) k1 fun _ _=>trivial) fun x _=>?_
 refine T.cond (fun _=>T.ret (.inl (by simp))) fun _=>T.bind (tword _) fun w _=>T.cond (fun _=>?_) fun _=>?_
 ·exact T.bind (tadd h b k1 3 0) fun x hx=>T.ret hx
 exact T.bind (tadd h b k1 1 0) fun x hx=>T.ret hx
theorem tnumber {m:K4}{a:Nat}(h:TkI m a)(hf:fk m a 3):T (KbE m) (TP m a):=by
 have d:=h.len;have f:=h.le
 unfold KbE;refine T.cond (fun _=>T.ret (.inl (by simp))) fun _=>T.bind (tspan h false) fun n hn=>?_
 obtain ⟨k,rfl,k1,k2,_⟩:=hn;have b:=k2 hf;refine T.bind (P:=fun _=>True) ?_ fun y _=>T.cond (fun _=>T.ret (.inl (by simp))) fun _=>?_
 ·refine T.bind (tspan h true) fun n hn=>T.cond (fun _=>T.ret trivial) fun _=>?_
  rw [h.at_];exact T.bind (P:=fun _=>True) (T.idx (by omega) fun _ _=>trivial) fun c _=>T.cond (fun _=>T.ret trivial) fun _=>T.ret trivial
 rw [h.at_,wa (by omega)];refine T.bind (P:=fun x=>x.length=k) (T.cut (by omega) k1 fun _ e=>by omega) fun x hx=>?_
 refine T.bind (P:=fun r=>∀ q,r=Sum.inr q→q.1 ≠ 0) ?_ fun r hr=>?_
 ·refine T.loop (fun s=>∃ j:Nat,s.2=(j:Int)∧j≤k) (fun s=>k - s.2.toNat) ⟨0,rfl,by omega⟩ fun s hs=>?_
  obtain ⟨j,e,hj⟩:=hs;obtain ⟨g,i⟩:=s;simp only at e;subst e;refine T.cond (fun hc=>?_) fun _=>T.ret (fun q e=>by cases e)
  have hlt:j < x.length:=by simpa using hc
  refine T.bind (P:=fun _=>True) (T.idx hlt fun _ _=>trivial) fun c _=>T.cond (fun _=>T.ret (fun q e=>by cases e;simp)) fun _=>T.ret ?_
  have:=wn (n:=j) (by omega);refine ⟨⟨j+1,this,by omega⟩,?_⟩;simp only [this,Int.toNat_natCast];omega
 cases r with
 | inl v=>exact T.bind (tadd h b k1 2 _) fun x hx=>T.ret hx
 | inr q=>exact T.ret (.inl (hr q rfl))
theorem tsign {m:K4}{a:Nat}(h:TkI m a)(hlt:a < m.gB.length):T (Kbv m) fun n=>n=0∨∃ k:Nat,n=(k:Int)∧1≤k∧a+k≤m.gB.length:=by
 have d:=h.len;unfold Kbv;rw [h.at_];refine T.bind (P:=fun x=>x.length=m.gB.length - a) (T.cut (by omega) (Nat.le_refl _) fun _ e=>e) fun x hx=>?_
 refine T.bind (P:=fun y=>y=true→1 < x.length) (T.cond (fun hc=>?_) fun _=>T.ret (by simp)) fun y hy=>T.cond (fun e=>T.ret (.inr ⟨2,rfl,by omega,by have:=hy e;omega⟩)) fun _=>?_
 ·have hc':1 < x.length:=by have:=of_decide_eq_true hc;omega
  refine T.bind (P:=fun _=>True) (T.cut (a:=0) (b:=2) (by omega) (by omega) fun _ _=>trivial) fun z _=>?_
  exact T.bind (tcont _ _ (by simp)) fun b _=>T.ret fun _=>hc'
 refine T.bind (P:=fun _=>True) (T.idx (k:=0) (by omega) fun _ _=>trivial) fun c _=>T.cond (fun _=>T.ret (.inr ⟨1,rfl,by omega,by omega⟩)) fun _=>T.ret (.inl rfl)
theorem tnext {m:K4}{a:Nat}(h:TkI m a)(hlt:a < m.gB.length):T (KbT m) (TP m a):=by
 have b:=h.len;unfold KbT;rw [h.at_];refine T.bind (P:=fun c=>m.gB[a]? = some c) (T.idx hlt fun _ e=>e) fun c hc=>?_
 obtain ⟨kd,hk,_⟩:=tkind (IntKind.i32.wrap (c.toNat:Int));rw [hk,Option.bind_some];refine T.cond (fun _=>T.ret (.inr ⟨a+1,by omega,⟨wn (by omega),Nat.succ_le_of_lt hlt,b,h.l⟩,rfl⟩)) fun _=>T.cond (fun e=>?_) fun _=>T.cond (fun e=>?_) fun _=>?_
 ·have:kd=2:=by simpa using e
  subst this;exact T.bind (tname h ⟨c,hc,hk⟩) fun x hx=>T.ret hx
 ·have:kd=3:=by simpa using e
  subst this;exact T.bind (tnumber h ⟨c,hc,hk⟩) fun x hx=>T.ret hx
 refine T.bind (tsign h hlt) fun n hn=>T.cond (fun _=>T.ret (.inl (by simp))) fun e=>?_
 rcases hn with rfl|⟨k,rfl,k1,k2⟩
 ·cases e
 exact T.bind (tadd h k1 k2 3 0) fun x hx=>T.ret hx
theorem tread (b:List UInt8):T (Kc2 b) fun r=>r.2.2=0→1≤r.1.length∧r.1.length≤4001:=by
 unfold Kc2;refine T.cond (fun _=>T.ret (by simp)) fun hc=>?_
 have hb:b.length≤20000:=by have:=of_decide_eq_false hc;omega
 refine T.bind (P:=fun r=>(∀ q,r=Sum.inl q→q.2.2.length≤4000)∧∀ q,r=Sum.inr q→q.2.2 ≠ 0) ?_ fun r hr=>?_
 ·refine T.loop (fun s=>∃ a,TkI ⟨s.1,s.2.1,s.2.2⟩ a∧s.1=b) (fun s=>b.length - s.2.1.toNat) ⟨0,⟨rfl,Nat.zero_le _,hb,by simp⟩,rfl⟩ fun s hs=>?_
  obtain ⟨a,ha,e⟩:=hs;obtain ⟨f,g,h⟩:=s;simp only at ha e;subst e;have:=ha.at_;simp only at this;subst this;refine T.cond (fun hc=>?_) fun _=>T.ret ⟨fun q e=>(by cases e;exact ha.l),fun q e=>(by cases e)⟩
  have hlt:a < f.length:=by simpa using hc
  refine T.bind (tnext ha hlt) fun r hr=>T.cond (fun e=>T.ret ⟨fun q e=>(by cases e),fun q e'=>(by cases e';simpa using e)⟩) fun e=>?_
  rcases hr with hr|⟨a',h1,h2,c⟩
  ·exact absurd (by simpa using e) hr
  refine T.ret ⟨⟨a',?_,c⟩,?_⟩
  ·exact ⟨h2.at_,h2.le,h2.len,h2.l⟩
  have d:=h2.le;rw [c] at d;simp only [h2.at_,Int.toNat_natCast];simp only at d;omega
 cases r with
 |
  inl q=>
  have:=hr.1 q rfl;rw [Sum.elim_inl,Kc6 (by omega) (by simp;omega),Option.bind_some];exact T.ret fun _=>⟨by simp,by simp;omega⟩
 | inr q=>exact T.ret fun e=>absurd e (hr.2 q rfl)
end
section
open Go
def prem (m:Ki):Nat:=if m.gE=0 then m.gL.length+1 - m.gb.toNat else 0
theorem Khh {m:Ki}(h:m.gE=0):prem m=m.gL.length+1 - m.gb.toNat:=if_pos h
theorem KhL {m:Ki}(h:m.gE ≠ 0):prem m=0:=if_neg h
structure PI (m:Ki):Prop where
 lo:0≤m.gb
 hi:m.gb≤(m.gL.length:Int)
 len:m.gL.length≤5000
structure PQ (m:Ki) (c s:Nat) (r:Ki):Prop where
 l:r.gL=m.gL
 i:PI r
 le:prem r≤prem m
 sz:r.gE=0→s+prem r≤prem m+c
theorem PI.pos {m:Ki}(h:PI m)(e:m.gE=0):1≤prem m:=by
 have:=h.lo;have:=h.hi
 rw [Khh e];omega
theorem PI.le {m:Ki}(h:PI m):prem m≤5001:=by
 have:=h.len;by_cases e:m.gE=0
 ·rw [Khh e];omega
 rw [KhL e];omega
theorem perr {m r:Ki}{c s:Nat}(h1:r.gL=m.gL)(h2:PI r)(a:r.gE ≠ 0):PQ m c s r:=⟨h1,h2,by rw [KhL a];omega,fun e=>absurd e a⟩
theorem padv {m:Ki}(h:PI m)(hlt:m.gb < (m.gL.length:Int)):PI ⟨m.gL,IntKind.i64.wrap (m.gb+1),m.gE⟩∧prem ⟨m.gL,IntKind.i64.wrap (m.gb+1),m.gE⟩≤prem m∧(m.gE=0→prem ⟨m.gL,IntKind.i64.wrap (m.gb+1),m.gE⟩+1=prem m):=by
 have h1:=h.lo;have h2:=h.len
 have hw:IntKind.i64.wrap (m.gb+1)=m.gb+1:=by rw [IntKind.wrap_i64];omega
 rw [hw];have key:m.gE=0→prem ⟨m.gL,m.gb+1,m.gE⟩+1=prem m:=fun e=>by
  rw [Khh e,Khh (m:=⟨m.gL,m.gb+1,m.gE⟩) e];simp only;omega
 refine ⟨⟨by simp only;omega,by simp only;omega,h2⟩,?_,key⟩;by_cases e:m.gE=0
 ·have:=key e;omega
 rw [KhL (m:=⟨m.gL,m.gb+1,m.gE⟩) e];omega
theorem plook {m:Ki}(h:PI m):T (Ka8 m) fun t=>t.gt ≠ 0→m.gb < (m.gL.length:Int):=by
 have h1:=h.lo;unfold Ka8;refine T.cond (fun _=>T.ret fun e=>absurd rfl e) fun hc=>?_
 have hc':m.gb < (m.gL.length:Int):=by have:=of_decide_eq_false hc;omega
 obtain ⟨k,hk⟩:=Int.eq_ofNat_of_zero_le h1;rw [hk] at hc' ⊢;exact T.bind (P:=fun _=>True) (T.idx (by omega) fun _ _=>trivial) fun x _=>T.ret fun _=>hc'
theorem pis {m:Ki}(h:PI m)(s:ByteArray):T (Kce m s) fun b=>b=true→m.gb < (m.gL.length:Int):=by
 unfold Kce;refine T.bind (plook h) fun t ht=>T.cond (fun e=>T.ret fun _=>ht ?_) fun _=>T.ret (by simp)
 have:t.gt=3:=by simpa using e
 rw [this];decide
theorem pfail {m:Ki}(h:PI m){a e:Int}(h1:0≤a)(h2:a≤(m.gL.length:Int))(he:e ≠ 0):T (Ka9 m a e) fun r=>r.gL=m.gL∧PI r∧r.gE ≠ 0:=by
 unfold Ka9;refine T.cond (fun _=>T.ret ⟨rfl,⟨h1,h2,h.len⟩,he⟩) fun e=>T.ret ⟨rfl,h,by simpa using e⟩
theorem peat {m:Ki}(h:PI m)(s:ByteArray):T (Kcp m s) (PQ m 0 1):=by
 unfold Kcp;refine T.bind (pis h s) fun b hb=>T.cond (fun _=>?_) fun e=>?_
 ·exact T.bind (pfail h h.lo h.hi (by decide)) fun r hr=>T.ret (perr hr.1 hr.2.1 hr.2.2)
 obtain ⟨a,c,d⟩:=padv h (hb (by simpa using e));exact T.ret ⟨rfl,a,c,fun e=>by have:=d e;omega⟩
theorem pname {m:Ki}(h:PI m):T (Kbw m) fun r=>PQ m 0 1 r.2:=by
 unfold Kbw;refine T.bind (plook h) fun t ht=>T.cond (fun _=>?_) fun e=>?_
 ·exact T.bind (pfail h h.lo h.hi (by decide)) fun r hr=>T.ret (perr hr.1 hr.2.1 hr.2.2)
 have:t.gt=1:=by simpa using e
 obtain ⟨a,b,c⟩:=padv h (ht (by rw [this];decide));exact T.ret ⟨rfl,a,b,fun e=>by have:=c e;simp only;omega⟩
theorem ppick (a b:ByteArray)(x:Int)(c:ByteArray)(y:Int):T (KcC a b x c y) fun _=>True:=by
 unfold KcC;repeat' (first|exact T.ret trivial|(refine T.cond (fun _=>?_) (fun _=>?_)))
theorem pbetween (a:Int)(s:ByteArray):T (Ka5 a s) fun _=>True:=by
 unfold Ka5;repeat' (first|exact T.ret trivial|exact ppick _ _ _ _ _|(refine T.cond (fun _=>?_) (fun _=>?_))|(refine T.bind (P:=fun _=>True) ?_ (fun _ _=>?_)))
theorem deep_g:∀ (n:Nat) (e:Ke),dpE e≤n→szE e≤1048576→T (Kb1 n e) fun _=>True
 | 0,e,h,_=>by have:=Ken e;omega
 |
  n+1,e,h,hs=>by
  show T (Kda (Kb1 n) e) _
  have h1:=Ken e;have h2:=Kfy e;have a:=Kfc e.gc
  unfold Kda;refine T.bind (P:=fun _=>True) (T.loop (fun s=>∃ k:Nat,s.2=(k:Int)∧k≤e.gc.length) (fun s=>e.gc.length - s.2.toNat) ⟨0,rfl,Nat.zero_le _⟩ fun s hs'=>?_) fun _ _=>T.ret trivial
  obtain ⟨k,hk,b⟩:=hs';obtain ⟨c,d⟩:=s;simp only at hk;subst hk;refine T.cond (fun hc=>?_) fun _=>T.ret trivial
  have hlt:k < e.gc.length:=by have:=of_decide_eq_true hc;simp only at this;omega
  refine T.bind (P:=fun x=>x∈e.gc) (T.idx hlt fun x hx=>List.mem_of_getElem? hx) fun x hx=>?_
  have:=Kf0 hx;have:=Kf1 hx
  refine T.bind (deep_g n x (by omega) (by omega)) fun _ _=>T.ret ?_
  have hw:=wn (n:=k) (by omega);exact ⟨⟨k+1,hw,hlt⟩,by simp only [hw,Int.toNat_natCast];omega⟩
theorem deep_t {e:Ke}(h:szE e≤1048576):T (KfT e) fun _=>True:=by
 obtain ⟨r,h1,_⟩:=deep_g (dpE e) e (Nat.le_refl _) h;exact ⟨r,KjP e _ h1,trivial⟩
theorem psound {m:Ki}(h:PI m){e:Ke}(hs:m.gE=0→szE e≤1048576){a:Int}(h1:0≤a)(h2:a≤(m.gL.length:Int)):T (KaY m e a) fun r=>r.2.gL=m.gL∧PI r.2∧(r.2.gE=0→m.gE=0∧r.1=e∧r.2=m):=by
 unfold KaY;refine T.cond (fun he=>T.ret ⟨rfl,h,fun b=>?_⟩) fun he=>?_
 ·simp at he;exact absurd b he
 have he':m.gE=0:=by simpa using he
 refine T.bind (deep_t (hs he')) fun d _=>T.cond (fun _=>?_) fun _=>T.ret ⟨rfl,h,fun _=>⟨he',rfl,rfl⟩⟩
 exact T.bind (pfail h h1 h2 (by decide)) fun r hr=>T.ret ⟨hr.1,hr.2.1,fun b=>absurd b hr.2.2⟩
theorem xeta (x:Ke):(⟨x.gj,x.gN,x.ga,x.gc,x.gb⟩:Ke)=x:=by cases x;rfl
theorem Kfd (a b:Int)(n:ByteArray)(ks:List Ke)(c:Int):szE ⟨a,b,n,ks,c⟩=1+szEs ks:=by simp only [szE]
theorem szE_1 (a b:Int)(n:ByteArray)(c:Int):szE ⟨a,b,n,[],c⟩=1:=by simp [szE,szEs]
abbrev PG (N:Nat):=Kq N
theorem PQ.trans {m r q:Ki}{c s s':Nat}(h1:PQ m c s r)(h2:PQ r 0 s' q){t:Nat}(ht:r.gE=0→q.gE=0→s+prem r≤prem m+c→s'+prem q≤prem r→t+prem q≤prem m+c):PQ m c t q:=by
 refine ⟨h2.l.trans h1.l,h2.i,Nat.le_trans h2.le h1.le,fun e=>?_⟩;have:=h2.i.pos e;have a:r.gE=0:=by
  rcases Classical.em (r.gE=0) with a|a
  ·exact a
  have:=h2.le;rw [KhL a] at this;omega
 exact ht a e (h1.sz a) (by have:=h2.sz e;omega)
theorem ptot:∀ N:Nat,
  (∀ (m:Ki) (a:Nat),PI m→a≤6→12*prem m+(8 - a)≤N→T ((PG N).1 m (a:Int)) fun r=>PQ m 0 (szE r.1) r.2) ∧
  (∀ m:Ki,PI m→12*prem m+1≤N→T ((PG N).2.1 m) fun r=>PQ m 0 (szE r.1) r.2) ∧
  (∀ (m:Ki) (x:Ke) (k at_:Int),PI m→x.gc=[]→0≤at_→at_≤(m.gL.length:Int)→12*prem m+1≤N→T ((PG N).2.2.1 m x k at_) fun r=>PQ m 1 (szE r.1) r.2) ∧
  (∀ (m:Ki) (s:ByteArray),PI m→12*prem m+9≤N→T ((PG N).2.2.2.1 m s) fun r=>PQ m 0 (szE r.1) r.2) ∧
  (∀ (m:Ki) (t:KB) (at_:Int),PI m→0≤at_→at_≤(m.gL.length:Int)→12*prem m+10≤N→T ((PG N).2.2.2.2 m t at_) fun r=>PQ m 1 (szE r.1) r.2)
 | 0=>⟨fun m a _ _ h=>by omega,fun m _ h=>by omega,fun m x k a _ _ _ _ h=>by omega,fun m s _ h=>by omega,fun m t a _ _ _ h=>by omega⟩
 |
  N+1=>by
  obtain ⟨iR,iU,iI,iA,iS⟩:=ptot N;refine ⟨fun m a c ha hN=>?_,fun m c hN=>?_,fun m x k at_ c hx h1 h2 hN=>?_,fun m s c hN=>?_,fun m t at_ c h1 h2 hN=>?_⟩
  ·show T (Kbk (PG N).1 (PG N).2.1 (PG N).2.2.1 (PG N).2.2.2.1 (PG N).2.2.2.2 m (a:Int)) _
   unfold Kbk;refine T.cond (fun e=>?_) fun e=>?_
   ·have:a=6:=by
         have:(a:Int)=6:=by simpa using e
         omega
    exact T.bind (iU m c (by omega)) fun r hr=>T.ret hr
   have ha':a < 6:=by
    have:¬ (a:Int)=6:=by simpa using e
    omega
   rw [wn (by omega)];refine T.bind (iR m (a+1) c ha' (by omega)) fun x hx=>?_
   refine T.bind (P:=fun s:List KB×Int×Int×Int×Int×ByteArray×List Ke×Int=>PQ m 0 (szE ⟨s.2.2.2.1,s.2.2.2.2.1,s.2.2.2.2.2.1,s.2.2.2.2.2.2.1,s.2.2.2.2.2.2.2⟩) ⟨s.1,s.2.1,s.2.2.1⟩) ?_ fun s hs=>T.ret hs
   refine T.loop (fun s:List KB×Int×Int×Int×Int×ByteArray×List Ke×Int=>PQ m 0 (szE ⟨s.2.2.2.1,s.2.2.2.2.1,s.2.2.2.2.2.1,s.2.2.2.2.2.2.1,s.2.2.2.2.2.2.2⟩) ⟨s.1,s.2.1,s.2.2.1⟩) (fun s=>prem ⟨s.1,s.2.1,s.2.2.1⟩) (by simp only;rw [xeta];exact hx) fun s hs=>?_
   obtain ⟨L,p,j,B,C,D,E,F⟩:=s;simp only at hs ⊢;refine T.cond (fun he=>?_) fun _=>T.ret hs
   have G:j=0:=by simpa using he
   refine T.bind (plook hs.i) fun t ht=>?_
   refine T.bind (P:=fun op=>op ≠ 0→p < (L.length:Int)) (T.cond (fun hk=>?_) fun _=>T.ret (by simp)) fun op hop=>T.cond (fun _=>T.ret hs) fun hne=>?_
   ·have hk':t.gt=3:=by simpa using hk
    exact T.bind (pbetween _ _) fun b _=>T.ret fun _=>ht (by rw [hk'];decide)
   have hlt:=hop (by simpa using hne);obtain ⟨d,g,n⟩:=padv hs.i hlt;have H:=n G;have hsz:=hs.sz G;have K:=hs.le;simp only at d g n H;refine T.bind (iR _ (a+1) d ha' (by omega)) fun r hr=>?_
   have hrl:r.2.gL=L:=hr.l;have I:=c.le;refine T.bind (psound (m:=r.2) hr.i (e:=⟨op,0,ByteArray.empty,[⟨B,C,D,E,F⟩,r.1],t.gb⟩) (fun e=>?_) (a:=p) hs.i.lo (by rw [hrl];exact hs.i.hi)) fun q hq=>T.ret ?_
   ·have:=hr.sz e;rw [Kfd];simp only [szEs];omega
   obtain ⟨u,v,w⟩:=hq;have hnode:szE ⟨op,0,ByteArray.empty,[⟨B,C,D,E,F⟩,r.1],t.gb⟩=1+(szE ⟨B,C,D,E,F⟩+szE r.1):=by rw [Kfd];simp [szEs]
   by_cases f:q.2.gE=0
   ·obtain ⟨y,z,o⟩:=w f;have:=hr.sz y;have:=hr.le;refine ⟨?_,?_⟩
    ·simp only;rw [xeta,z];show PQ m 0 _ q.2
     rw [o];exact ⟨hrl.trans hs.l,hr.i,by omega,fun _=>by rw [hnode];omega⟩
    show prem q.2 < _
    rw [o];omega
   refine ⟨perr (u.trans (hrl.trans hs.l)) v f,?_⟩;show prem q.2 < _
   rw [KhL f];omega
  ·show T (Kbd (PG N).1 (PG N).2.1 (PG N).2.2.1 (PG N).2.2.2.1 (PG N).2.2.2.2 m) _
   unfold Kbd;refine T.bind (plook c) fun t ht=>T.cond (fun e=>T.ret (perr rfl c (by simpa using e))) fun e=>?_
   have j:m.gE=0:=by simpa using e
   have hp:=c.pos j;have adv:t.gt ≠ 0→PI ⟨m.gL,IntKind.i64.wrap (m.gb+1),m.gE⟩∧prem ⟨m.gL,IntKind.i64.wrap (m.gb+1),m.gE⟩+1=prem m:=fun h=>by
    obtain ⟨d,g,n⟩:=padv c (ht h);exact ⟨d,n j⟩
   have fin:t.gt ≠ 0→∀ {x:Ke} {r:Ki},PQ ⟨m.gL,IntKind.i64.wrap (m.gb+1),m.gE⟩ 1 (szE x) r→PQ m 0 (szE x) r:=fun h x r hr=>by
    obtain ⟨d,g⟩:=adv h;exact ⟨hr.l,hr.i,by have:=hr.le;omega,fun e=>by have:=hr.sz e;omega⟩
   refine T.cond (fun k=>?_) fun _=>T.cond (fun k=>?_) fun _=>T.cond (fun k=>?_) fun k=>?_
   ·have hk:t.gt=2:=by simpa using k
    obtain ⟨d,g⟩:=adv (by rw [hk];decide);exact T.ret ⟨rfl,d,by simp only;omega,fun _=>by simp only;rw [szE_1];omega⟩
   ·have hk:t.gt=1:=by simpa using k
    have A:t.gt ≠ 0:=by rw [hk];decide
    obtain ⟨d,g⟩:=adv A;exact T.bind (iI _ _ _ _ d rfl c.lo c.hi (by omega)) fun r hr=>T.ret (fin A hr)
   ·have hk:t.gt=3:=by simpa using k
    have A:t.gt ≠ 0:=by rw [hk];decide
    obtain ⟨d,g⟩:=adv A;exact T.bind (iS _ _ _ d c.lo c.hi (by omega)) fun r hr=>T.ret (fin A hr)
   by_cases hlt:m.gb < (m.gL.length:Int)
   ·obtain ⟨d,g,n⟩:=padv c hlt;exact T.bind (pfail d c.lo c.hi (by decide)) fun r hr=>T.ret (perr hr.1 hr.2.1 hr.2.2)
   have h1:=c.lo;have h2:=c.hi;have J:=c.len
   unfold Ka9;rw [j];exact T.bind (P:=fun r=>r=⟨m.gL,m.gb,3⟩) (T.ret rfl) fun r hr=>by subst hr;exact T.ret (perr rfl ⟨h1,h2,J⟩ (by simp))
  ·show T (KaN (PG N).1 (PG N).2.1 (PG N).2.2.1 (PG N).2.2.2.1 (PG N).2.2.2.2 m x k at_) _
   unfold KaN;refine T.bind (P:=fun b=>b=false→m.gE=0∧m.gb < (m.gL.length:Int)) (T.cond (fun _=>T.ret (by simp)) fun e=>?_) fun b hb=>T.cond (fun _=>T.ret ?_) fun e=>?_
   ·exact T.bind (pis c _) fun b hb=>T.ret fun h=>⟨by simpa using e,hb (by simpa using h)⟩
   ·refine ⟨rfl,c,Nat.le_refl _,fun _=>?_⟩;have:szE x=1:=by rw [Kfy,hx];simp [szEs]
    simp only;omega
   obtain ⟨j,hlt⟩:=hb e;obtain ⟨d,g,n⟩:=padv c hlt;have H:=n j;have I:=c.le;refine T.bind (iA _ _ d (by omega)) fun r hr=>?_
   refine T.bind (psound (m:=r.2) hr.i (e:=⟨k,x.gN,x.ga,[r.1],x.gb⟩) (fun e=>?_) (a:=at_) h1 (by rw [hr.l];exact h2)) fun q hq=>T.ret ?_
   ·have:=hr.sz e;rw [Kfd];simp only [szEs];omega
   obtain ⟨u,v,w⟩:=hq;by_cases f:q.2.gE=0
   ·obtain ⟨y,z,o⟩:=w f;have:=hr.sz y;have:=hr.le
    rw [z,o];exact ⟨hr.l,hr.i,by omega,fun _=>by rw [Kfd];simp only [szEs];omega⟩
   exact perr (u.trans hr.l) v f
  ·show T (Kbl (PG N).1 (PG N).2.1 (PG N).2.2.1 (PG N).2.2.2.1 (PG N).2.2.2.2 m s) _
   unfold Kbl;refine T.bind (iR m 0 c (by omega) (by omega)) fun r hr=>T.cond (fun _=>?_) fun _=>T.ret hr
   exact T.bind (peat hr.i s) fun q hq=>T.ret (hr.trans hq fun _ _ h1 h2=>by simp only at *;omega)
  show T (Kbe (PG N).1 (PG N).2.1 (PG N).2.2.1 (PG N).2.2.2.1 (PG N).2.2.2.2 m t at_) _
  unfold Kbe;have I:=c.le;refine T.bind (P:=fun _=>True) (T.cond (fun _=>T.ret trivial) fun _=>T.ret trivial) fun b _=>T.cond (fun _=>?_) fun _=>T.cond (fun _=>?_) fun _=>T.cond (fun _=>?_) fun _=>T.cond (fun _=>?_) fun _=>T.cond (fun _=>?_) fun _=>?_
  ·refine T.bind (ppick _ _ _ _ _) fun op _=>T.bind (iU m c (by omega)) fun r hr=>?_
   refine T.bind (psound (m:=r.2) hr.i (e:=⟨op,0,ByteArray.empty,[r.1],t.gb⟩) (fun e=>?_) (a:=at_) h1 (by rw [hr.l];exact h2)) fun q hq=>T.ret ?_
   ·have:=hr.sz e;rw [Kfd];simp only [szEs];omega
   obtain ⟨u,v,w⟩:=hq;by_cases f:q.2.gE=0
   ·obtain ⟨y,z,o⟩:=w f;have:=hr.sz y;have:=hr.le
    rw [z,o];exact ⟨hr.l,hr.i,by omega,fun _=>by rw [Kfd];simp only [szEs];omega⟩
   exact perr (u.trans hr.l) v f
  ·exact T.bind (pname c) fun r hr=>T.ret ⟨hr.l,hr.i,hr.le,fun e=>by have:=hr.sz e;simp only;rw [szE_1];omega⟩
  ·refine T.bind (pname c) fun r hr=>?_
   have hle:=hr.le;refine T.bind (iI r.2 _ _ _ hr.i rfl h1 (by rw [hr.l];exact h2) (by omega)) fun q hq=>T.ret ?_
   refine ⟨hq.l.trans hr.l,hq.i,Nat.le_trans hq.le hr.le,fun e=>?_⟩;have:=hq.sz e;simp only;omega
  ·exact T.ret ⟨rfl,c,Nat.le_refl _,fun _=>by simp only;rw [szE_1];omega⟩
  ·exact T.bind (iA m _ c (by omega)) fun r hr=>T.ret ⟨hr.l,hr.i,hr.le,fun e=>by have:=hr.sz e;simp only;omega⟩
  exact T.bind (pfail c h1 h2 (by decide)) fun r hr=>T.ret (perr hr.1 hr.2.1 hr.2.2)
theorem pexpr {L:List KB}{a:Int}(h1:0≤a)(h2:a≤(L.length:Int))(hL:L.length≤5000):T (Kdw L a) fun r=>0≤r.2.1∧r.2.1≤(L.length:Int)∧(r.2.2=0→a≤r.2.1∧(szE r.1:Int)≤r.2.1 - a):=by
 have g:PI ⟨L,a,0⟩:=⟨h1,h2,hL⟩;have k:prem ⟨L,a,0⟩=L.length+1 - a.toNat:=Khh rfl;unfold Kdw;refine T.bind (P:=fun b=>b=false) (T.cond (fun e=>?_) fun _=>T.ret ?_) fun b hb=>?_
 ·have:=of_decide_eq_true e;omega
 ·simp;omega
 subst hb;rw [cond_false];obtain ⟨r,k1,k2⟩:=(ptot (12*prem ⟨L,a,0⟩+8)).1 ⟨L,a,0⟩ 0 g (by omega) (by omega);have k1':=Kgw _ _ _ k1;rw [show Kd5 (⟨L,a,0⟩:Ki) 0=_ from k1',Option.bind_some];have hl:r.2.gL=L:=k2.l;have d:=k2.i.lo;have c:=k2.i.hi
 rw [hl] at c;refine T.cond (fun _=>T.ret ⟨d,c,?_⟩) fun e=>T.ret ⟨d,c,fun _=>?_⟩
 ·rename_i e;intro h;simp at e;exact absurd h e
 have f:r.2.gE=0:=by simpa using e
 have:=k2.sz f;have j:=Khh f;rw [hl] at j;have:=Kfy r.1;simp only;omega
end
section
open Go
def grem (m:Kg):Nat:=if m.gE=0 then m.gL.length+1 - m.gb.toNat else 0
theorem Khi {m:Kg}(h:m.gE=0):grem m=m.gL.length+1 - m.gb.toNat:=if_pos h
theorem Kjn {m:Kg}(h:m.gE ≠ 0):grem m=0:=if_neg h
structure GI (m:Kg):Prop where
 lo:0≤m.gb
 hi:m.gb≤(m.gL.length:Int)
 len:m.gL.length≤5000
structure GQ (m:Kg) (c s:Nat) (r:Kg):Prop where
 l:r.gL=m.gL
 i:GI r
 le:grem r≤grem m
 sz:r.gE=0→s+grem r≤grem m+c
theorem GI.pos {m:Kg}(h:GI m)(e:m.gE=0):1≤grem m:=by
 have:=h.lo;have:=h.hi
 rw [Khi e];omega
theorem GI.le {m:Kg}(h:GI m):grem m≤5001:=by
 have:=h.len;by_cases e:m.gE=0
 ·rw [Khi e];omega
 rw [Kjn e];omega
theorem GQ.refl {m:Kg}(h:GI m):GQ m 0 0 m:=⟨rfl,h,Nat.le_refl _,fun _=>by omega⟩
theorem gerr {m r:Kg}{c s:Nat}(h1:r.gL=m.gL)(h2:GI r)(a:r.gE ≠ 0):GQ m c s r:=⟨h1,h2,by rw [Kjn a];omega,fun e=>absurd e a⟩
theorem GQ.trans {m r q:Kg}{c s s' c' t:Nat}(h1:GQ m c s r)(h2:GQ r c' s' q)(ht:t+c'≤s+s'):GQ m c t q:=by
 refine ⟨h2.l.trans h1.l,h2.i,Nat.le_trans h2.le h1.le,fun e=>?_⟩;have:=h2.i.pos e;have a:r.gE=0:=by
  rcases Classical.em (r.gE=0) with a|a
  ·exact a
  have:=h2.le;rw [Kjn a] at this;omega
 have:=h1.sz a;have:=h2.sz e
 omega
theorem GQ.vo {m r:Kg}{c s:Nat}(h:GQ m c s r)(v o:Int):GQ m c s ⟨r.gL,r.gb,r.gE,v,o⟩:=⟨h.l,⟨h.i.lo,h.i.hi,h.i.len⟩,h.le,h.sz⟩
theorem GQ.less {m r:Kg}{s:Nat}(h:GQ m 0 s r)(hs:1≤s)(b:GI m)(e:m.gE=0):grem r+1≤grem m:=by
 have:=b.pos e;by_cases a:r.gE=0
 ·have:=h.sz a;omega
 rw [Kjn a];omega
theorem gadv {m:Kg}(h:GI m)(hlt:m.gb < (m.gL.length:Int))(e:m.gE=0):GQ m 0 1 ⟨m.gL,IntKind.i64.wrap (m.gb+1),m.gE,m.gn,m.gm⟩:=by
 have h1:=h.lo;have h2:=h.len
 have hw:IntKind.i64.wrap (m.gb+1)=m.gb+1:=by rw [IntKind.wrap_i64];omega
 rw [hw];have k1:=Khi e;have k2:=Khi (m:=⟨m.gL,m.gb+1,m.gE,m.gn,m.gm⟩) e;simp only at k2;exact ⟨rfl,⟨by simp only;omega,by simp only;omega,h2⟩,by omega,fun _=>by omega⟩
theorem glook {m:Kg}(h:GI m){a:Int}(ha:a=0∨a=1):T (Kav m a) fun t=>a=0→t.gt ≠ 0→m.gb < (m.gL.length:Int):=by
 have h1:=h.lo;have h2:=h.hi;have b:=h.len
 have hw:IntKind.i64.wrap (m.gb+a)=m.gb+a:=by rw [IntKind.wrap_i64];omega
 unfold Kav;rw [hw];refine T.cond (fun _=>T.ret fun _ e=>absurd rfl e) fun hc=>?_
 have hc':m.gb+a < (m.gL.length:Int):=by have:=of_decide_eq_false hc;omega
 obtain ⟨k,hk⟩:=Int.eq_ofNat_of_zero_le (show 0≤m.gb+a by omega);rw [hk] at hc' ⊢;exact T.bind (P:=fun _=>True) (T.idx (by omega) fun _ _=>trivial) fun x _=>T.ret fun _ _=>by omega
theorem gis {m:Kg}(h:GI m){a:Int}(ha:a=0∨a=1)(s:ByteArray):T (KaD m a s) fun b=>a=0→b=true→m.gb < (m.gL.length:Int):=by
 unfold KaD;refine T.bind (glook h ha) fun t ht=>T.cond (fun e=>T.ret fun a0 _=>ht a0 ?_) fun _=>T.ret (by simp)
 have:t.gt=3:=by simpa using e
 rw [this];decide
theorem gfail {m:Kg}(h:GI m){a e:Int}(h1:0≤a)(h2:a≤(m.gL.length:Int))(he:e ≠ 0):T (Kaz m a e) fun r=>r.gL=m.gL∧GI r∧r.gE ≠ 0:=by
 unfold Kaz;refine T.cond (fun _=>T.ret ⟨rfl,⟨h1,h2,h.len⟩,he⟩) fun e=>T.ret ⟨rfl,h,by simpa using e⟩
theorem geat {m:Kg}(h:GI m)(l:List ByteArray)(hl:l.length≤1000):T (KQ m l) (GQ m 0 0):=by
 unfold KQ;refine T.bind (P:=fun r=>(∀ p,r=Sum.inl p→GQ m 0 0 ⟨m.gL,p,m.gE,m.gn,m.gm⟩)∧∀ q,r=Sum.inr q→GQ m 0 0 q) ?_ fun r hr=>?_
 ·refine T.loop (fun s=>(∃ k:Nat,s.1=(k:Int)∧k≤l.length)∧GQ m 0 0 ⟨m.gL,s.2,m.gE,m.gn,m.gm⟩) (fun s=>l.length - s.1.toNat) ⟨⟨0,rfl,by omega⟩,GQ.refl h⟩ fun s hs=>?_
  obtain ⟨⟨k,hk,c⟩,hq⟩:=hs;obtain ⟨d,f⟩:=s;simp only at hk hq ⊢;subst hk;refine T.cond (fun hc=>?_) fun _=>T.ret ⟨fun p e=>(by cases e;exact hq),fun q e=>(by cases e)⟩
  have hlt:k < l.length:=by have:=of_decide_eq_true hc;omega
  refine T.bind (P:=fun _=>True) (T.idx hlt fun _ _=>trivial) fun x _=>T.cond (fun _=>T.ret ⟨fun p e=>(by cases e),fun q e=>(by cases e;exact hq)⟩) fun e=>?_
  have a:m.gE=0:=by simpa using e
  refine T.bind (gis hq.i (.inl rfl) x) fun b hb=>T.cond (fun _=>?_) fun e=>?_
  ·exact T.bind (gfail hq.i hq.i.lo hq.i.hi (by decide)) fun r hr=>T.ret ⟨fun p e=>(by cases e),fun q e=>(by cases e;exact gerr hr.1 hr.2.1 hr.2.2)⟩
  have hadv:=hq.trans (gadv hq.i (hb rfl (by simpa using e)) a) (t:=0) (by omega);have hw:=wn (n:=k) (by omega);exact T.ret ⟨⟨⟨k+1,hw,hlt⟩,hadv⟩,by simp only [hw,Int.toNat_natCast];omega⟩
 cases r with
 | inl p=>exact T.ret (hr.1 p rfl)
 | inr q=>exact T.ret (hr.2 q rfl)
theorem gmay {m:Kg}(h:GI m)(s:ByteArray):T (KY m s) fun r=>(r.1=true→m.gE=0∧r.2.gE=0∧GQ m 0 1 r.2)∧(r.1=false→r.2=m):=by
 unfold KY;refine T.bind (P:=fun b=>b=false→m.gE=0∧m.gb < (m.gL.length:Int)) (T.cond (fun _=>T.ret (by simp)) fun e=>?_) fun b hb=>T.cond (fun _=>T.ret ⟨fun h=>(by cases h),fun _=>rfl⟩) fun e=>?_
 ·exact T.bind (gis h (.inl rfl) s) fun b hb=>T.ret fun h=>⟨by simpa using e,hb rfl (by simpa using h)⟩
 obtain ⟨a,hlt⟩:=hb e;exact T.ret ⟨fun _=>⟨a,a,gadv h hlt a⟩,fun h=>(by cases h)⟩
theorem gmayQ {m:Kg}(h:GI m)(s:ByteArray):T (KY m s) fun r=>GQ m 0 0 r.2∧(r.1=true→m.gE=0∧r.2.gE=0∧GQ m 0 1 r.2)∧(r.1=false→r.2=m):=(gmay h s).imp fun r hr=>by
 refine ⟨?_,hr⟩;cases e:r.1 with
 | true=>exact (hr.1 e).2.2.trans (GQ.refl (hr.1 e).2.2.i) (by omega)
 | false=>rw [hr.2 e];exact GQ.refl h
theorem gname {m:Kg}(h:GI m):T (KaQ m) fun r=>GQ m 0 1 r.2:=by
 unfold KaQ;refine T.cond (fun e=>T.ret (gerr rfl h (by simpa using e))) fun e=>T.bind (glook h (.inl rfl)) fun t ht=>T.cond (fun _=>?_) fun k=>?_
 ·exact T.bind (gfail h h.lo h.hi (by decide)) fun r hr=>T.ret (gerr hr.1 hr.2.1 hr.2.2)
 have hk:t.gt=1:=by simpa using k
 exact T.ret (gadv h (ht rfl (by rw [hk];decide)) (by simpa using e))
theorem gexpr {m:Kg}(h:GI m):T (KaA m) fun r=>GQ m 0 (szE r.1) r.2:=by
 have h1:=h.lo;have h2:=h.hi
 unfold KaA;refine T.cond (fun e=>T.ret (gerr rfl h (by simpa using e))) fun e=>?_
 have a:m.gE=0:=by simpa using e
 rw [show min m.gb (m.gL.length:Int)=m.gb by omega];refine T.bind (pexpr h1 h2 h.len) fun x hx=>T.cond (fun k=>?_) fun k=>T.ret ?_
 ·exact T.bind (gfail h hx.1 hx.2.1 (by simpa using k)) fun r hr=>T.ret (gerr hr.1 hr.2.1 hr.2.2)
 obtain ⟨k1,k2⟩:=hx.2.2 (by simpa using k);have c:=hx.2.1;have g1:=Khi a;have b:=Khi (m:=⟨m.gL,x.2.1,m.gE,m.gn,m.gm⟩) a;simp only at b;exact ⟨rfl,⟨hx.1,hx.2.1,h.len⟩,by simp only;omega,fun _=>by simp only;omega⟩
theorem gvar {m:Kg}(h:GI m):T (KaW m) fun r=>GQ m 0 1 r.2:=by
 unfold KaW;refine T.bind (geat h _ (by simp)) fun f h1=>T.bind (gmayQ h1.i _) fun c h2=>T.bind (gname h2.1.i) fun b d=>?_
 have q:GQ m 0 1 b.2:=(h1.trans h2.1 (by omega)).trans d (t:=1) (s:=0) (by omega);have q':=q.vo (IntKind.i64.wrap (b.2.gn+1)) b.2.gm;refine T.cond (fun _=>?_) fun _=>T.ret q'
 have e:b.2.gL=c.2.gL:=d.l;refine T.bind (gfail q'.i (a:=c.2.gb) h2.1.i.lo (by simp only;rw [e];exact h2.1.i.hi) (by decide)) fun r hr=>T.ret (gerr (hr.1.trans q'.l) hr.2.1 hr.2.2)
theorem glist {A:Type}{one:Kg→Option (A×Kg)}{sz:A→Nat}(hone:∀ {m},GI m→T (one m) fun r=>GQ m 0 (sz r.1) r.2)(szL:List A→Nat)(h0:szL []=0)(ha:∀ l x,szL (l++[x])=szL l+sz x){bb:Nat}(hbb:bb≤4096)
  {F:List A×List KB×Int×Int×Int×Int→Option (Step (List A×List KB×Int×Int×Int×Int) (List A×List KB×Int×Int×Int×Int))}
  (hF:∀ s,F s=(bif (s.2.2.2.1==(0:Int)) then ((one (⟨s.2.1,s.2.2.1,s.2.2.2.1,s.2.2.2.2.1,s.2.2.2.2.2⟩:Kg)).bind fun f=>((app bb s.1 ([f.1]:List A)).bind fun g=>((KY f.2 (ByteArray.mk #[44])).bind fun a=>(bif (!a.1) then some (.done (g,a.2.gL,a.2.gb,a.2.gE,a.2.gn,a.2.gm)) else some (.next (g,a.2.gL,a.2.gb,a.2.gE,a.2.gn,a.2.gm)))))) else some (.done (s.1,s.2.1,s.2.2.1,s.2.2.2.1,s.2.2.2.2.1,s.2.2.2.2.2))))
  {m:Kg} (h:GI m) :
  T ((KQ m ([qZ8]:List ByteArray)).bind fun j=>((KY j qZ10).bind fun b=>(bif b.1 then some (([]:List A),b.2) else (Option.bind (loopM F (([]:List A),b.2.gL,b.2.gb,b.2.gE,b.2.gn,b.2.gm)) fun c=>((KQ (⟨c.2.1,c.2.2.1,c.2.2.2.1,c.2.2.2.2.1,c.2.2.2.2.2⟩:Kg) ([qZ10]:List ByteArray)).bind fun q=>some (c.1,q)))))) fun r=>GQ m 0 (szL r.1) r.2∧r.1.length≤5002:=by
 refine T.bind (geat h _ (by simp)) fun j h1=>T.bind (gmayQ h1.i _) fun b h2=>?_
 have d:GQ m 0 0 b.2:=h1.trans h2.1 (by omega);refine T.cond (fun _=>T.ret ⟨by simp only;rw [h0];exact d,by simp⟩) fun _=>?_
 refine T.bind (P:=fun s:List A×List KB×Int×Int×Int×Int=>GQ m 0 (szL s.1) ⟨s.2.1,s.2.2.1,s.2.2.2.1,s.2.2.2.2.1,s.2.2.2.2.2⟩∧s.1.length≤5002) ?_ fun s hs=>T.bind (geat hs.1.i _ (by simp)) fun z u=>T.ret ⟨hs.1.trans u (by simp only;omega),hs.2⟩
 have B:=h.le;refine T.loop (fun s:List A×List KB×Int×Int×Int×Int=>GQ m 0 (szL s.1) ⟨s.2.1,s.2.2.1,s.2.2.2.1,s.2.2.2.2.1,s.2.2.2.2.2⟩∧s.1.length+grem ⟨s.2.1,s.2.2.1,s.2.2.2.1,s.2.2.2.2.1,s.2.2.2.2.2⟩≤grem m) (fun s=>grem ⟨s.2.1,s.2.2.1,s.2.2.2.1,s.2.2.2.2.1,s.2.2.2.2.2⟩) ⟨by simp only;rw [h0];exact d,by simp only [List.length_nil,Nat.zero_add];exact d.le⟩ fun s hs=>?_
 obtain ⟨acc,L,p,e,v,o⟩:=s;obtain ⟨hs,hl⟩:=hs;rw [hF];simp only at hs hl ⊢;refine T.cond (fun he=>?_) fun _=>T.ret ⟨hs,by simp only;omega⟩
 refine T.bind (hone hs.i) fun x hx=>?_
 rw [Kc6 hbb (by simp;omega),Option.bind_some];have hq:GQ m 0 (szL (acc++[x.1])) x.2:=hs.trans hx (by rw [ha];omega);refine T.bind (gmay hx.i _) fun y hy=>T.cond (fun k=>T.ret ?_) fun k=>T.ret ?_
 ·have:=hy.2 (by simpa using k);rw [this];exact ⟨hq,by simp;omega⟩
 obtain ⟨C,w,n⟩:=hy.1 (by simpa using k);have:=n.sz w;have:=hx.le;refine ⟨⟨(hq.trans n (t:=szL (acc++[x.1])) (by omega)).vo _ _,?_⟩,?_⟩
 ·show (acc++[x.1]).length+grem y.2≤_
  simp only [List.length_append,List.length_singleton];omega
 show grem y.2 < _
 omega
theorem glistE {m:Kg}(h:GI m):T (KbD m) fun r=>GQ m 0 (szEs r.1) r.2∧r.1.length≤5002:=by
 unfold KbD;exact glist (fun h=>gexpr h) szEs (by simp [szEs]) (fun l x=>by rw [Kkg];simp [szEs]) (by omega) (fun _=>rfl) h
theorem glistV {m:Kg}(h:GI m):T (KbI m) fun r=>GQ m 0 (r.1.length*1) r.2∧r.1.length≤5002:=by
 unfold KbI;exact glist (sz:=fun _=>1) (fun h=>gvar h) (fun l=>l.length*1) (by simp) (fun l x=>by simp) (by omega) (fun _=>rfl) h
theorem KeP (a:Int)(b c:ByteArray)(es:List Ke)(ks ls:List Kj)(d:Int):szS ⟨a,b,c,es,ks,ls,d⟩=1+szSs ks+szSs ls+szEs es:=by rw [KgW]
theorem Kfz:szSs []=0:=by simp [szSs]
theorem szEs_0:szEs []=0:=by simp [szEs]
theorem szEs_1 (x:Ke):szEs [x]=szE x:=by simp [szEs]
theorem szEs_2 (x y:Ke):szEs [x,y]=szE x+szE y:=by simp [szEs]
theorem gcall {m:Kg}(h:GI m){a:Kj}(hk:a.gc=[])(he:a.gq=[]):T (Kbp m a) fun r=>GQ m 0 (szS r.1) r.2:=by
 unfold Kbp;refine T.bind (gname h) fun d h1=>T.bind (glistE h1.i) fun b h2=>T.bind (geat h2.1.i _ (by simp)) fun e c=>T.ret ?_
 simp only;rw [KeP,hk,he,Kfz];exact (h1.trans h2.1 (t:=1+szEs b.1) (by omega)).trans c (by omega)
theorem gassign {m:Kg}(h:GI m){a:Kj}(hk:a.gc=[])(he:a.gq=[])(hx:a.go=[]):T (KaT m a) fun r=>GQ m 1 (szS r.1) r.2:=by
 have lift:∀ {s:Nat} {r:Kg},GQ m 0 s r→GQ m 1 (s+1) r:=fun q=>⟨q.l,q.i,q.le,fun e=>by have:=q.sz e;omega⟩
 have low:∀ {s:Nat} {r:Kg},GQ m 0 s r→GQ m 1 s r:=fun q=>⟨q.l,q.i,q.le,fun e=>by have:=q.sz e;omega⟩
 unfold KaT;refine T.bind (gmayQ h _) fun f h1=>T.cond (fun k=>?_) fun k=>?_
 ·refine T.bind (geat h1.1.i _ (by simp)) fun c h2=>T.ret ?_
  simp only;rw [KeP,hk,he,hx,Kfz,szEs_0];exact low ((h1.2.1 k).2.2.trans h2 (by omega))
 rw [h1.2.2 k];refine T.bind (P:=fun _=>True) (T.bind (glook h (.inl rfl)) fun t _=>T.cond (fun _=>T.bind (gis h (.inr rfl) _) fun _ _=>T.ret trivial) fun _=>T.ret trivial) fun b _=>T.cond (fun _=>?_) fun _=>?_
 ·exact T.bind (gcall h hk he) fun x hx=>T.ret (low hx)
 refine T.bind (gexpr h) fun c h2=>T.bind (geat h2.i _ (by simp)) fun g d=>T.ret ?_
 simp only;rw [KeP,hk,he,Kfz,szEs_1,show 1+0+0+szE c.1=szE c.1+1 by omega];exact lift (h2.trans d (by omega))
theorem gnamed {m:Kg}(h:GI m){a:Kj}(hk:a.gc=[])(he:a.gq=[])(hx:a.go=[]):T (KaZ m a) fun r=>GQ m 0 (szS r.1) r.2:=by
 unfold KaZ;refine T.bind (gis h (.inr rfl) _) fun b _=>T.cond (fun _=>T.bind (gcall h hk he) fun x hx=>T.ret hx) fun _=>?_
 refine T.bind (gname h) fun g h1=>T.bind (gmayQ h1.i _) fun o h2=>T.cond (fun k=>?_) fun k=>?_
 ·refine T.bind (gexpr h2.1.i) fun d c=>T.bind (geat c.i _ (by simp)) fun j e=>T.bind (gexpr e.i) fun l f=>T.bind (geat f.i _ (by simp)) fun p n=>T.ret ?_
  simp only;rw [KeP,hk,he,Kfz,szEs_2];exact ((((h1.trans h2.1 (t:=1) (by omega)).trans c (t:=1+szE d.1) (by omega)).trans e (t:=1+szE d.1) (by omega)).trans f (t:=1+szE d.1+szE l.1) (by omega)).trans n (by omega)
 refine T.bind (geat h2.1.i _ (by simp)) fun d c=>T.bind (gassign c.i (a:=⟨a.gj,g.1,a.gu,a.go,a.gc,a.gq,a.gb⟩) hk he hx) fun j e=>T.ret ?_
 exact ((h1.trans h2.1 (t:=1) (by omega)).trans c (t:=1) (by omega)).trans e (by simp only;omega)
theorem gtest {m:Kg}(h:GI m):T (Kbq m) fun r=>GQ m 0 (szEs r.1) r.2:=by
 unfold Kbq;refine T.bind (geat h _ (by simp)) fun c h1=>T.bind (gexpr h1.i) fun a h2=>T.bind (geat h2.i _ (by simp)) fun d b=>T.ret ?_
 simp only;rw [szEs_1];exact (h1.trans h2 (t:=szE a.1) (by omega)).trans b (by omega)
theorem gblk {one:Kg→Option (Kj×Kg)}{m:Kg}(h:GI m)(hone:∀ {r},GI r→grem r≤grem m→T (one r) fun q=>GQ r 0 (szS q.1) q.2){F:List Kj×List KB×Int×Int×Int×Int→Option (Step (List Kj×List KB×Int×Int×Int×Int) (List Kj×List KB×Int×Int×Int×Int))}
  (hF:∀ a,F a=(Option.bind (α:=Bool×List KB×Int×Int×Int×Int) (bif (a.2.2.2.1==(0:Int)) then ((KY (⟨a.2.1,a.2.2.1,a.2.2.2.1,a.2.2.2.2.1,a.2.2.2.2.2⟩:Kg) qZ17).bind fun c=>some ((!c.1),c.2.gL,c.2.gb,c.2.gE,c.2.gn,c.2.gm)) else some (false,a.2.1,a.2.2.1,a.2.2.2.1,a.2.2.2.2.1,a.2.2.2.2.2)) fun b=>(bif b.1 then ((one (⟨b.2.1,b.2.2.1,b.2.2.2.1,b.2.2.2.2.1,b.2.2.2.2.2⟩:Kg)).bind fun d=>((app 120 a.1 ([d.1]:List Kj)).bind fun f=>some (.next (f,d.2.gL,d.2.gb,d.2.gE,d.2.gn,d.2.gm)))) else some (.done (a.1,b.2.1,b.2.2.1,b.2.2.2.1,b.2.2.2.2.1,b.2.2.2.2.2))))) :
  T (loopM F (([]:List Kj),m.gL,m.gb,m.gE,m.gn,m.gm)) fun s=>GQ m 0 (szSs s.1) ⟨s.2.1,s.2.2.1,s.2.2.2.1,s.2.2.2.2.1,s.2.2.2.2.2⟩:=by
 have j:=h.le;refine T.loop (fun s:List Kj×List KB×Int×Int×Int×Int=>GQ m 0 (szSs s.1) ⟨s.2.1,s.2.2.1,s.2.2.2.1,s.2.2.2.2.1,s.2.2.2.2.2⟩∧s.1.length+grem ⟨s.2.1,s.2.2.1,s.2.2.2.1,s.2.2.2.2.1,s.2.2.2.2.2⟩≤grem m) (fun s=>grem ⟨s.2.1,s.2.2.1,s.2.2.2.1,s.2.2.2.2.1,s.2.2.2.2.2⟩) ⟨by simp only;rw [Kfz];exact GQ.refl h,by simp only [List.length_nil,Nat.zero_add];exact Nat.le_refl _⟩ fun s hs=>?_
 obtain ⟨acc,L,p,e,v,o⟩:=s;obtain ⟨hs,hl⟩:=hs;rw [hF];simp only at hs hl ⊢;refine T.bind (P:=fun y:Bool×List KB×Int×Int×Int×Int=>(y.1=true→e=0∧y.2=(L,p,e,v,o))∧GQ m 0 (szSs acc) ⟨y.2.1,y.2.2.1,y.2.2.2.1,y.2.2.2.2.1,y.2.2.2.2.2⟩) (T.cond (fun he=>?_) fun _=>T.ret ⟨fun h=>(by cases h),hs⟩) fun y hy=>T.cond (fun k=>?_) fun _=>T.ret hy.2
 ·refine T.bind (gmayQ hs.i _) fun x hx=>T.ret ⟨fun k=>?_,(hs.trans hx.1 (t:=szSs acc) (by omega)).vo _ _⟩
  have:=hx.2.2 (by simpa using k);rw [this];exact ⟨by simpa using he,rfl⟩
 obtain ⟨g,ey⟩:=hy.1 k;rw [ey];simp only;refine T.bind (hone hs.i hs.le) fun x hx=>?_
 rw [Kc6 (by omega) (by simp;omega),Option.bind_some];have h1:1≤szS x.1:=by rw [KgW];omega
 have h2:=hx.less h1 hs.i g;refine T.ret ⟨⟨(hs.trans hx (t:=szSs (acc++[x.1])) (by rw [Kim];simp only [szSs];omega)).vo _ _,?_⟩,?_⟩
 ·show (acc++[x.1]).length+grem x.2≤_
  simp only [List.length_append,List.length_singleton];omega
 show grem x.2 < _
 omega
theorem gopen {m:Kg}(h:GI m){β:Type}{f:List KB×Int×Int×Int×Int→Option β}{Q:β→Prop}(g:∀ y:List KB×Int×Int×Int×Int,GQ m 0 0 ⟨y.1,y.2.1,y.2.2.1,y.2.2.2.1,IntKind.i64.wrap (y.2.2.2.2+1)⟩→T (f y) Q) :
  T ((KQ m qZ14).bind fun b=>(Option.bind (α:=List KB×Int×Int×Int×Int) (bif (decide ((24:Int)≤b.gm)) then ((Kaz b m.gb (5:Int)).bind fun d=>some (d.gL,d.gb,d.gE,d.gn,d.gm)) else some (b.gL,b.gb,b.gE,b.gn,b.gm)) f)) Q:=by
 refine T.bind (geat h _ (by simp)) fun b h1=>T.bind (P:=fun y:List KB×Int×Int×Int×Int=>GQ m 0 0 ⟨y.1,y.2.1,y.2.2.1,y.2.2.2.1,IntKind.i64.wrap (y.2.2.2.2+1)⟩) (T.cond (fun _=>?_) fun _=>T.ret (h1.vo _ _)) fun y hy=>g y hy
 refine T.bind (gfail h1.i (a:=m.gb) h.lo (by rw [h1.l];exact h.hi) (by decide)) fun r hr=>T.ret ?_
 exact (gerr (m:=m) (c:=0) (s:=0) (hr.1.trans h1.l) hr.2.1 hr.2.2).vo _ _
abbrev SG (N:Nat):=K7 N
theorem stot:∀ N:Nat,(∀ m:Kg,GI m→2*grem m+1≤N→T ((SG N).1 m) fun r=>GQ m 0 (szS r.1) r.2)∧(∀ m:Kg,GI m→2*grem m+2≤N→T ((SG N).2 m) fun r=>GQ m 0 (szSs r.1) r.2)
 | 0=>⟨fun m _ h=>by omega,fun m _ h=>by omega⟩
 |
  N+1=>by
  obtain ⟨iS,iB⟩:=stot N;refine ⟨fun m b hN=>?_,fun m b hN=>?_⟩
  ·show T (Ka1 (SG N).1 (SG N).2 m) _
   unfold Ka1;refine T.bind (glook b (.inl rfl)) fun t _=>T.cond (fun _=>T.bind (gnamed b rfl rfl rfl) fun x hx=>T.ret hx) fun _=>?_
   refine T.bind (gmay b _) fun g h1=>T.cond (fun k=>?_) fun k=>?_
   ·obtain ⟨_,_,a⟩:=h1.1 k;refine T.bind (gname a.i) fun c h2=>T.bind (geat h2.i _ (by simp)) fun e d=>T.bind (gexpr d.i) fun j f=>T.bind (geat f.i _ (by simp)) fun o l=>T.ret ?_
    simp only;rw [KeP,Kfz,szEs_1];exact (((a.trans h2 (t:=1) (by omega)).trans d (t:=1) (by omega)).trans f (t:=1+szE j.1) (by omega)).trans l (by omega)
   rw [h1.2 k];refine T.bind (gmay b _) fun g h1=>T.cond (fun k=>?_) fun k=>?_
   ·obtain ⟨_,_,a⟩:=h1.1 k;have l1:=a.sz (h1.1 k).2.1;refine T.bind (gtest a.i) fun c h2=>?_
    have l2:=h2.le;refine T.bind (iB c.2 h2.i (by omega)) fun e d=>?_
    have l3:=d.le;refine T.bind (gmayQ d.i _) fun j f=>?_
    have p:=f.1.le;have n:GQ m 0 (1+szEs c.1+szSs e.1) j.2:=((a.trans h2 (t:=1+szEs c.1) (by omega)).trans d (t:=1+szEs c.1+szSs e.1) (by omega)).trans f.1 (by omega);refine T.cond (fun _=>T.bind (iB j.2 f.1.i (by omega)) fun o l=>T.ret ?_) fun _=>T.ret ?_
    ·simp only;rw [KeP];exact n.trans l (by omega)
    simp only;rw [KeP,Kfz];exact n.trans (GQ.refl n.i) (by omega)
   rw [h1.2 k];refine T.bind (gmay b _) fun g h1=>T.cond (fun k=>?_) fun k=>?_
   ·obtain ⟨_,_,a⟩:=h1.1 k;have l1:=a.sz (h1.1 k).2.1;refine T.bind (gtest a.i) fun c h2=>?_
    have l2:=h2.le;refine T.bind (iB c.2 h2.i (by omega)) fun e d=>T.ret ?_
    simp only;rw [KeP,Kfz];exact (a.trans h2 (t:=1+szEs c.1) (by omega)).trans d (by omega)
   rw [h1.2 k];refine T.bind (gmay b _) fun g h1=>T.cond (fun k=>?_) fun k=>?_
   ·obtain ⟨_,_,a⟩:=h1.1 k;refine T.bind (gexpr a.i) fun c h2=>T.bind (geat h2.i _ (by simp)) fun e d=>T.ret ?_
    simp only;rw [KeP,Kfz,szEs_1];exact (a.trans h2 (t:=1+szE c.1) (by omega)).trans d (by omega)
   rw [h1.2 k];refine T.bind (gmay b _) fun g h1=>T.cond (fun k=>?_) fun k=>?_
   ·obtain ⟨_,_,a⟩:=h1.1 k;refine T.bind (gtest a.i) fun c h2=>T.bind (geat h2.i _ (by simp)) fun e d=>T.ret ?_
    simp only;rw [KeP,Kfz];exact (a.trans h2 (t:=1+szEs c.1) (by omega)).trans d (by omega)
   rw [h1.2 k];exact T.bind (gfail b b.lo b.hi (by decide)) fun r hr=>T.ret (gerr hr.1 hr.2.1 hr.2.2)
  show T (KaX (SG N).1 (SG N).2 m) _
  unfold KaX grammar_nothing;refine gopen b fun y hy=>?_
  rw [Option.bind_some];have l1:=hy.le;refine T.bind (gblk (m:=⟨y.1,y.2.1,y.2.2.1,y.2.2.2.1,IntKind.i64.wrap (y.2.2.2.2+1)⟩) hy.i (fun hr hl=>iS _ hr (by omega)) (fun _=>rfl)) fun s hs=>T.ret ?_
  exact (hy.trans hs (by simp only;omega)).vo _ _
theorem gstmt {m:Kg}(h:GI m):T (KcZ m) fun r=>GQ m 0 (szS r.1) r.2:=by
 obtain ⟨r,h1,h2⟩:=(stot (2*grem m+1)).1 m h (Nat.le_refl _);exact ⟨r,Kfx m _ h1,h2⟩
theorem glocals {m:Kg}(h:GI m)(f:KG)(hf:f.gh=[]):T (Kbc f m) fun r=>GQ m 0 0 r.1∧r.2.gf=f.gf∧r.2.gh.length≤5001:=by
 have a:=h.le;unfold Kbc;refine T.bind (P:=fun s:List KB×Int×Int×Int×Int×List K3=>GQ m 0 0 ⟨s.1,s.2.1,s.2.2.1,s.2.2.2.1,s.2.2.2.2.1⟩∧s.2.2.2.2.2.length≤5001) ?_ fun s hs=>T.ret ⟨hs.1,rfl,hs.2⟩
 refine T.loop (fun s:List KB×Int×Int×Int×Int×List K3=>GQ m 0 0 ⟨s.1,s.2.1,s.2.2.1,s.2.2.2.1,s.2.2.2.2.1⟩∧s.2.2.2.2.2.length+grem ⟨s.1,s.2.1,s.2.2.1,s.2.2.2.1,s.2.2.2.2.1⟩≤grem m) (fun s=>grem ⟨s.1,s.2.1,s.2.2.1,s.2.2.2.1,s.2.2.2.2.1⟩) ⟨GQ.refl h,by simp only [hf,List.length_nil,Nat.zero_add];exact Nat.le_refl _⟩ fun s hs=>?_
 obtain ⟨L,p,e,v,o,acc⟩:=s;obtain ⟨hs,hl⟩:=hs;simp only at hs hl ⊢;refine T.bind (P:=fun b=>b=true→e=0) (T.cond (fun he=>T.bind (gis hs.i (.inl rfl) _) fun b _=>T.ret fun _=>by simpa using he) fun _=>T.ret (by simp)) fun b hb=>T.cond (fun k=>?_) fun _=>T.ret ⟨hs,by simp only;omega⟩
 refine T.bind (gvar hs.i) fun x hx=>?_
 have h2:=hx.less (Nat.le_refl _) hs.i (hb k);rw [Kc6 (by omega) (by simp;omega),Option.bind_some];refine T.bind (geat hx.i _ (by simp)) fun y hy=>T.ret ⟨⟨(hs.trans hx (t:=1) (by omega)).trans hy (by omega),?_⟩,?_⟩
 ·have:=hy.le;show (acc++[x.1]).length+grem y≤_
  simp only [List.length_append,List.length_singleton];omega
 have:=hy.le;show grem y < _
 omega
theorem gblock {m:Kg}(h:GI m)(f:KG)(hf:f.gh=[]):T (Kcq m f) fun r=>GQ m 0 (szSs r.1) r.2.1∧r.2.2.gf=f.gf∧r.2.2.gh.length≤5001:=by
 unfold Kcq;refine gopen h fun y hy=>T.bind (glocals hy.i f hf) fun x hx=>?_
 refine T.bind (gblk (m:=x.1) hx.1.i (fun hr _=>gstmt hr) (fun _=>rfl)) fun s hs=>T.ret ⟨?_,hx.2⟩
 exact ((hy.trans hx.1 (t:=0) (by omega)).trans hs (by simp only;omega)).vo _ _
theorem size_t':∀ (n:Nat) (e:Ke),dpE e≤n→szE e≤1048576→T (Kcf n e) fun _=>True
 | 0,e,h,_=>by have:=Ken e;omega
 |
  n+1,e,h,hs=>by
  show T (Kdb (Kcf n) e) _
  have h1:=Ken e;have h2:=Kfy e;have a:=Kfc e.gc
  unfold Kdb;refine T.bind (P:=fun _=>True) (T.loop (fun s=>∃ k:Nat,s.2=(k:Int)∧k≤e.gc.length) (fun s=>e.gc.length - s.2.toNat) ⟨0,rfl,Nat.zero_le _⟩ fun s hs'=>?_) fun _ _=>T.ret trivial
  obtain ⟨k,hk,b⟩:=hs';obtain ⟨c,d⟩:=s;simp only at hk;subst hk;refine T.cond (fun hc=>?_) fun _=>T.ret trivial
  have hlt:k < e.gc.length:=by have:=of_decide_eq_true hc;simp only at this;omega
  refine T.bind (P:=fun x=>x∈e.gc) (T.idx hlt fun x hx=>List.mem_of_getElem? hx) fun x hx=>?_
  have:=Kf0 hx;have:=Kf1 hx
  refine T.bind (size_t' n x (by omega) (by omega)) fun _ _=>T.ret ?_
  have hw:=wn (n:=k) (by omega);exact ⟨⟨k+1,hw,hlt⟩,by simp only [hw,Int.toNat_natCast];omega⟩
theorem size_t {e:Ke}(h:szE e≤1048576):T (KfW e) fun _=>True:=by
 obtain ⟨r,h1,_⟩:=size_t' (dpE e) e (Nat.le_refl _) h;exact ⟨r,KjR e _ h1,trivial⟩
theorem KkF:∀ (n:Nat) (l:List Kj),hSs l≤n→szSs l≤1048576→T (Kbr n l) fun _=>True
 | 0,l,h,_=>by have:=KiR l;omega
 |
  n+1,l,h,hs=>by
  show T (Kct (Kbr n) l) _
  have c:=KgI l;unfold Kct;refine T.bind (P:=fun _=>True) (T.loop (fun s=>∃ k:Nat,s.2=(k:Int)∧k≤l.length) (fun s=>l.length - s.2.toNat) ⟨0,rfl,Nat.zero_le _⟩ fun s hs'=>?_) fun _ _=>T.ret trivial
  obtain ⟨k,hk,d⟩:=hs';obtain ⟨a,b⟩:=s;simp only at hk;subst hk;refine T.cond (fun hc=>?_) fun _=>T.ret trivial
  have hlt:k < l.length:=by have:=of_decide_eq_true hc;simp only at this;omega
  refine T.bind (P:=fun x=>x∈l) (T.idx hlt fun x hx=>List.mem_of_getElem? hx) fun x hx=>?_
  have:=KiP hx;have:=KiQ hx;have:=hS_eq x;have:=KgW x;have e:=Kfc x.go
  refine T.bind (KkF n x.gc (by omega) (by omega)) fun _ _=>T.bind (KkF n x.gq (by omega) (by omega)) fun _ _=>?_
  refine T.bind (P:=fun _=>True) (T.loop (fun s=>∃ k:Nat,s.2=(k:Int)∧k≤x.go.length) (fun s=>x.go.length - s.2.toNat) ⟨0,rfl,Nat.zero_le _⟩ fun s hs'=>?_) fun _ _=>T.ret ?_
  ·obtain ⟨j,hj,f⟩:=hs';obtain ⟨a,b⟩:=s;simp only at hj;subst hj;refine T.cond (fun hc=>?_) fun _=>T.ret trivial
   have hlt:j < x.go.length:=by have:=of_decide_eq_true hc;simp only at this;omega
   refine T.bind (P:=fun y=>y∈x.go) (T.idx hlt fun y hy=>List.mem_of_getElem? hy) fun y hy=>?_
   have:=Kf1 hy;refine T.bind (size_t (by omega)) fun _ _=>T.ret ?_
   have hw:=wn (n:=j) (by omega);exact ⟨⟨j+1,hw,hlt⟩,by simp only [hw,Int.toNat_natCast];omega⟩
  have hw:=wn (n:=k) (by omega);exact ⟨⟨k+1,hw,hlt⟩,by simp only [hw,Int.toNat_natCast];omega⟩
theorem sizes_t {l:List Kj}(h:szSs l≤1048576):T (Kfp l) fun _=>True:=by
 obtain ⟨r,h1,_⟩:=KkF (hSs l) l (Nat.le_refl _) h;exact ⟨r,Kjy l _ h1,trivial⟩
theorem gfunction {m:Kg}(h:GI m):T (Kba m) fun r=>r.2.gL=m.gL∧GI r.2∧(r.2.gE=0→FS r.1):=by
 have n:=h.le;unfold Kba;refine T.bind (glook h (.inl rfl)) fun t _=>T.bind (geat h _ (by simp)) fun g h1=>T.bind (gname h1.i) fun j h2=>T.bind (glistV h2.i) fun k d=>?_
 refine T.bind (gblock d.1.i ⟨j.1,k.1,[],[],t.gb⟩ rfl) fun c f=>?_
 have q:GQ m 0 (szSs c.1) c.2.1:=((h1.trans h2 (t:=0) (by omega)).trans d.1 (t:=0) (by omega)).trans f.1 (by omega);have fs:c.2.1.gE=0→FS ⟨c.2.2.ga,c.2.2.gf,c.2.2.gh,c.1,c.2.2.gb⟩:=fun e=>by
  have:=q.sz e;refine ⟨?_,?_,?_⟩
  ·simp only;rw [f.2.1];have:=d.2;simp only;omega
  ·have:=f.2.2;simp only;omega
  simp only;omega
 refine T.bind (P:=fun _=>True) (T.cond (fun e=>?_) fun _=>T.ret trivial) fun b _=>T.cond (fun _=>?_) fun _=>T.ret ⟨q.l,q.i,fs⟩
 ·have:=q.sz (by simpa using e);exact T.bind (sizes_t (by omega)) fun _ _=>T.ret trivial
 exact T.bind (gfail q.i (a:=g.gb) h1.i.lo (by rw [q.l,← h1.l];exact h1.i.hi) (by decide)) fun r hr=>T.ret ⟨hr.1.trans q.l,hr.2.1,fun e=>absurd e hr.2.2⟩
theorem gtext {A:Type}{b:List UInt8}{none_:A}{at_:KB→Int}{of:List KB→Int→Option (A×Int×Int)}{P:A→Prop}(hof:∀ l:List KB,l.length≤5000→T (of l 0) fun r=>0≤r.2.1∧(r.2.2=0→P r.1)) :
  T ((Kc2 b).bind fun a=>(bif (a.2.2 != (0:Int)) then some (none_,a.2.1,a.2.2) else ((of a.1 (0:Int)).bind fun c=>((idx a.1 (min c.2.1 (IntKind.i64.wrap ((a.1.length:Int) - (1:Int))))).bind fun d=>(bif (c.2.2 != (0:Int)) then some (none_,d.gb,c.2.2) else (bif (d.gt != (0:Int)) then some (none_,d.gb,(3:Int)) else some (c.1,(0:Int),(0:Int)))))))) fun r=>r.2.2=0→P r.1:=by
 refine T.bind (tread b) fun x hx=>T.cond (fun e=>T.ret fun h=>?_) fun e=>?_
 ·simp at e;exact absurd h e
 obtain ⟨k1,k2⟩:=hx (by simpa using e);refine T.bind (hof x.1 (by omega)) fun y hy=>?_
 have hw:IntKind.i64.wrap ((x.1.length:Int) - 1)=(x.1.length:Int) - 1:=by rw [IntKind.wrap_i64];omega
 rw [hw];have h0:=hy.1;obtain ⟨k,hk⟩:=Int.eq_ofNat_of_zero_le (show 0≤min y.2.1 ((x.1.length:Int) - 1) by omega);rw [hk];refine T.bind (P:=fun _=>True) (T.idx (by omega) fun _ _=>trivial) fun t _=>T.cond (fun e=>T.ret fun h=>?_) fun e=>T.cond (fun _=>T.ret (by simp)) fun _=>T.ret fun _=>hy.2 (by simpa using e)
 simp at e;exact absurd h e
theorem readsF:ReadsF:=fun b=>by
 have key:T (Kbs b) fun r=>r.2.2=0→FS r.1:=by
  unfold Kbs KcF;refine T.bind (gtext (P:=FS) (at_:=fun t=>t.gb) fun l hl=>?_) fun x hx=>T.ret hx
  unfold KeD Kc3;refine T.bind (P:=fun r:Kg×Bool=>GI r.1) (T.cond (fun _=>T.ret ⟨by simp,by simp,hl⟩) fun _=>T.ret ⟨by simp,by simp,hl⟩) fun x hx=>T.cond (fun _=>T.ret (by simp)) fun _=>?_
  refine T.bind (gfunction hx) fun r hr=>T.cond (fun e=>T.ret ⟨hr.2.1.lo,fun h=>?_⟩) fun e=>T.ret ⟨hr.2.1.lo,fun _=>hr.2.2 (by simpa using e)⟩
  simp at e;exact absurd h e
 obtain ⟨⟨f,a,e⟩,h1,h2⟩:=key;exact ⟨f,a,e,h1,h2⟩
theorem gglobal {m:Kg}(h:GI m):T (Kcd m) fun r=>GI r.2:=by
 unfold Kcd;refine T.bind (glook h (.inl rfl)) fun t _=>T.bind (geat h _ (by simp)) fun c h1=>T.bind (gmayQ h1.i _) fun d h2=>T.bind (gname h2.1.i) fun e a=>?_
 refine T.bind (P:=fun y:Bool×List KB×Int×Int×Int×Int=>GI ⟨y.2.1,y.2.2.1,y.2.2.2.1,y.2.2.2.2.1,y.2.2.2.2.2⟩) (T.cond (fun _=>T.bind (gmayQ a.i _) fun x hx=>T.ret ⟨hx.1.i.lo,hx.1.i.hi,hx.1.i.len⟩) fun _=>T.ret ⟨a.i.lo,a.i.hi,a.i.len⟩) fun y hy=>?_
 refine T.bind (P:=fun y:List KB×Int×Int×Int×Int×Int=>GI ⟨y.1,y.2.1,y.2.2.1,y.2.2.2.1,y.2.2.2.2.1⟩) (T.cond (fun _=>?_) fun _=>T.ret hy) fun z hz=>T.bind (geat hz _ (by simp)) fun r hr=>T.ret hr.i
 refine T.bind (glook hy (.inl rfl)) fun t ht=>?_
 refine T.bind (P:=fun y:List KB×Int×Int×Int×Int×Int=>GI ⟨y.1,y.2.1,y.2.2.1,y.2.2.2.1,y.2.2.2.2.1⟩) ?_ fun z hz=>T.bind (geat hz _ (by simp)) fun r hr=>T.ret ⟨hr.i.lo,hr.i.hi,hr.i.len⟩
 refine T.bind (P:=fun y:List KB×Int×Int×Int×Int×Int=>GI ⟨y.1,y.2.1,y.2.2.1,y.2.2.2.1,y.2.2.2.2.1⟩) (T.cond (fun _=>?_) fun k=>?_) fun z hz=>T.ret hz
 ·exact T.bind (gfail hy hy.lo hy.hi (by decide)) fun r hr=>T.ret ⟨hr.2.1.lo,hr.2.1.hi,hr.2.1.len⟩
 have hk:t.gt=2:=by simpa using k
 have hlt:=ht rfl (by rw [hk];decide);refine T.bind (P:=fun _=>True) (T.cond (fun _=>T.ret trivial) fun _=>T.ret trivial) fun b _=>T.bind (P:=fun y:List KB×Int×Int×Int×Int×Int=>GI ⟨y.1,y.2.1,y.2.2.1,y.2.2.2.1,y.2.2.2.2.1⟩) (T.cond (fun _=>?_) fun _=>T.ret ?_) fun z hz=>T.ret hz
 ·exact T.bind (gfail hy hy.lo hy.hi (by decide)) fun r hr=>T.ret ⟨hr.2.1.lo,hr.2.1.hi,hr.2.1.len⟩
 have h1:=hy.lo;have h2:=hy.len
 simp only at hlt h1 h2;have hw:IntKind.i64.wrap (y.2.2.1+1)=y.2.2.1+1:=by rw [IntKind.wrap_i64];omega
 simp only;rw [hw];exact ⟨by simp only;omega,by simp only;omega,h2⟩
theorem readsG:ReadsG:=fun b=>by
 have key:T (KbX b) fun _=>True:=by
  unfold KbX KcS;refine T.bind ((gtext (P:=fun _=>True) (at_:=fun t=>t.gb) fun l hl=>?_)) fun x hx=>T.ret trivial
  unfold KeE Kc3;refine T.bind (P:=fun r:Kg×Bool=>GI r.1) (T.cond (fun _=>T.ret ⟨by simp,by simp,hl⟩) fun _=>T.ret ⟨by simp,by simp,hl⟩) fun x hx=>T.cond (fun _=>T.ret (by simp)) fun _=>?_
  exact T.bind (gglobal hx) fun r hr=>T.cond (fun e=>T.ret ⟨hr.lo,fun _=>trivial⟩) fun e=>T.ret ⟨hr.lo,fun _=>trivial⟩
 obtain ⟨⟨f,a,e⟩,h1,_⟩:=key;exact ⟨f,a,e,h1⟩
end
section
open Go
abbrev Tk:=Int×ByteArray×Int
inductive Pc where
 | tk (t:Tk)
 | sp (c:UInt8)
def Pc.txt:Pc→List UInt8
 | .tk t=>t.2.1.data.toList
 | .sp c=>[c]
def txts (l:List Pc):List UInt8:=l.flatMap Pc.txt
def tks:List Pc→List Tk
 | []=>[]
 | .tk t::l=>t::tks l
 | .sp _::l=>tks l
abbrev mk (s:ByteArray):Pc:=.tk (3,s,0)
abbrev nm (s:ByteArray):Pc:=.tk (1,s,0)
abbrev nb (n:Int):Pc:=.tk (2,itoaB n,n)
theorem txts_nil:txts []=[]:=rfl
theorem KcW (p:Pc)(l:List Pc):txts (p::l)=p.txt++txts l:=rfl
theorem Kdc (a b:List Pc):txts (a++b)=txts a++txts b:=by simp [txts]
theorem KaF:∀ a b:List Pc,tks (a++b)=tks a++tks b
 | [],b=>rfl
 | .tk t::a,b=>by simp only [List.cons_append,tks,KaF a b]
 | .sp c::a,b=>by simp only [List.cons_append,tks,KaF a b]
def ck (c:UInt8):Int:=(KdN (IntKind.i32.wrap (c.toNat:Int))).getD 0
theorem ck_is (c:UInt8):KdN (IntKind.i32.wrap (c.toNat:Int))=some (ck c):=by
 obtain ⟨k,h,_⟩:=tkind (IntKind.i32.wrap (c.toNat:Int));unfold ck;rw [h];rfl
structure Alp (b:List UInt8):Prop where
 hd:∃ c r,b=c::r∧ck c=2
 al:∀ c∈b,ck c=2∨ck c=3
 le:b.length≤20
structure NmOK (s:ByteArray):Prop where
 al:Alp s.data.toList
 nw:Kdv s=some false
structure WdOK (s:ByteArray):Prop where
 al:Alp s.data.toList
 w:Kdv s=some true
def lev (op:Int):Nat:=if op=7∨op=8∨op=9 then 5 else if op=10∨op=11 then 4 else if op=12∨op=13 then 3 else if op=14∨op=15 then 2 else if op=16 then 1 else if op=17 then 0 else 6
def sgn (op:Int):ByteArray:=if op=7 then ⟨#[42]⟩ else if op=8 then ⟨#[47]⟩ else if op=9 then ⟨#[37]⟩ else if op=10 then ⟨#[43]⟩ else if op=11 then ⟨#[45]⟩ else if op=12 then ⟨#[60]⟩ else if op=13 then ⟨#[60,61]⟩ else if op=14 then ⟨#[61,61]⟩ else if op=15 then ⟨#[33,61]⟩ else if op=16 then ⟨#[38,38]⟩ else if op=17 then ⟨#[124,124]⟩ else ⟨#[]⟩
theorem KgX {op:Int}(h:lev op < 6):op=7∨op=8∨op=9∨op=10∨op=11∨op=12∨op=13∨op=14∨op=15∨op=16∨op=17:=by
 unfold lev at h;repeat' split at h
 all_goals omega
def kdp (row:Nat)(x:Nat×List Pc):List Pc:=if x.1 < row then mk ⟨#[40]⟩::(x.2++[mk ⟨#[41]⟩]) else x.2
def rE (op n:Int)(s:ByteArray):List (Nat×List Pc)→List Pc
 | []=>if op=1 then [nb n] else if op=2 then [nm s] else if op=18 then [mk ⟨#[110,117,108,108]⟩] else if op=4 then [mk ⟨#[42]⟩,nm s] else [mk ⟨#[38]⟩,nm s]
 | [k]=>if op=3 then nm s::mk ⟨#[91]⟩::(k.2++[mk ⟨#[93]⟩]) else if op=20 then mk ⟨#[38]⟩::nm s::mk ⟨#[91]⟩::(k.2++[mk ⟨#[93]⟩]) else if op=5 then mk ⟨#[45]⟩::kdp 6 k else mk ⟨#[33]⟩::kdp 6 k
 | k::q::_=>kdp (lev op) k++(.sp 32::mk (sgn op)::.sp 32::kdp (lev op+1) q)
mutual
def pE:Ke→List Pc
 | ⟨op,n,s,ks,_⟩=>rE op n s (pKs ks)
def pKs:List Ke→List (Nat×List Pc)
 | []=>[]
 | e::l=>(lev e.gj,pE e)::pKs l
end
abbrev pKd (row:Nat)(e:Ke):List Pc:=kdp row (lev e.gj,pE e)
inductive VE:Ke→Prop
 | num (n a:Int):0≤n→n≤9223372036854775807→VE ⟨1,n,ByteArray.empty,[],a⟩
 | var (s a):NmOK s→VE ⟨2,0,s,[],a⟩
 | null (a):VE ⟨18,0,ByteArray.empty,[],a⟩
 | load (s a):NmOK s→VE ⟨4,0,s,[],a⟩
 | addr (s a):NmOK s→VE ⟨19,0,s,[],a⟩
 | index (s k a):NmOK s→VE k→VE ⟨3,0,s,[k],a⟩
 | addrAt (s k a):NmOK s→VE k→VE ⟨20,0,s,[k],a⟩
 | neg (k a):VE k→VE ⟨5,0,ByteArray.empty,[k],a⟩
 | not (k a):VE k→VE ⟨6,0,ByteArray.empty,[k],a⟩
 | bin (op l r a):lev op < 6→VE l→VE r→VE ⟨op,0,ByteArray.empty,[l,r],a⟩
theorem pE_bin {op:Int}(h:lev op < 6)(n:Int)(s:ByteArray)(l r:Ke)(a:Int):pE ⟨op,n,s,[l,r],a⟩=pKd (lev op) l++(.sp 32::mk (sgn op)::.sp 32::pKd (lev op+1) r):=by simp only [pE,pKs,rE]
theorem lev_lt (e:Ke):lev e.gj≤6:=by
 unfold lev;repeat' split
 all_goals omega
theorem kd_up {k:Nat}{x:Nat×List Pc}(h:x.1 ≠ k):kdp (k+1) x=kdp k x:=by
 unfold kdp;by_cases h1:x.1 < k
 ·rw [if_pos h1,if_pos (by omega)]
 rw [if_neg h1,if_neg (by omega)]
theorem kd_own {k:Nat}{x:Nat×List Pc}(h:k≤x.1):kdp k x=x.2:=by unfold kdp;rw [if_neg (by omega)]
theorem kd_in {k:Nat}{x:Nat×List Pc}(h:x.1 < k):kdp k x=mk ⟨#[40]⟩::(x.2++[mk ⟨#[41]⟩]):=by unfold kdp;rw [if_pos h]
def VX (e:Ke):Prop:=VE e∧dpE e≤24
mutual
inductive VS:Nat→Kj→Prop
 | assign (d s e a):NmOK s→VX e→VS d ⟨1,s,ByteArray.empty,[e],[],[],a⟩
 | put (d s e f a):NmOK s→VX e→VX f→VS d ⟨2,s,ByteArray.empty,[e,f],[],[],a⟩
 | store (d s e a):NmOK s→VX e→VS d ⟨3,s,ByteArray.empty,[e],[],[],a⟩
 | call (d f es a):NmOK f→(∀ e∈es,VX e)→VS d ⟨4,ByteArray.empty,f,es,[],[],a⟩
 | callTo (d s f es a):NmOK s→NmOK f→(∀ e∈es,VX e)→VS d ⟨4,s,f,es,[],[],a⟩
 | input (d s a):NmOK s→VS d ⟨5,s,ByteArray.empty,[],[],[],a⟩
 | ret (d e a):VX e→VS d ⟨8,ByteArray.empty,ByteArray.empty,[e],[],[],a⟩
 | assert (d e a):VX e→VS d ⟨9,ByteArray.empty,ByteArray.empty,[e],[],[],a⟩
 | ite (d e ks ls a):VX e→VSs d ks→VSs d ls→VS (d+1) ⟨6,ByteArray.empty,ByteArray.empty,[e],ks,ls,a⟩
 | loop (d e ks a):VX e→VSs d ks→VS (d+1) ⟨7,ByteArray.empty,ByteArray.empty,[e],ks,[],a⟩
inductive VSs:Nat→List Kj→Prop
 | nil (d):VSs d []
 | cons (d s l):VS d s→VSs d l→VSs d (s::l)
end
theorem vss_append {d:Nat}{l:List Kj}{s:Kj}(h:VSs d l)(hs:VS d s):VSs d (l++[s]):=by
 induction l with
 | nil=>exact .cons _ _ _ hs (.nil _)
 |
  cons x l ih=>cases h with
  | cons _ _ _ h1 h2=>exact .cons _ _ _ h1 (ih h2)
structure VF (f:KG):Prop where
 nm:NmOK f.ga
 ps:∀ v∈f.gf,NmOK v.ga
 ls:∀ v∈f.gh,NmOK v.ga
 many:f.gf.length+f.gh.length≤16
 body:VSs 23 f.gp
 size:szSs f.gp≤1048576
structure VG (g:KT):Prop where
 nm:NmOK g.ga
 ptr:g.gz=true→g.gA=0
 lo:0≤g.gA
 hi:g.gA≤1000
def KaM:List (List Pc)→List Pc
 | []=>[]
 | [x]=>x
 | x::y::l=>x++(mk ⟨#[44]⟩::.sp 32::KaM (y::l))
def ind (d:Nat)(l:List Pc):List Pc:=List.replicate d (.sp 9)++(l++[.sp 10])
def pF (op:Int)(s f:ByteArray)(es:List (List Pc)):List Pc:=
 if op=4 then (if s=ByteArray.empty then [] else [nm s,.sp 32,mk ⟨#[61]⟩,.sp 32])++(nm f::mk ⟨#[40]⟩::(KaM es++[mk ⟨#[41]⟩,mk ⟨#[59]⟩]))
 else if op=5 then [nm s,.sp 32,mk ⟨#[61]⟩,.sp 32,mk ⟨#[105,110,112,117,116]⟩,mk ⟨#[40]⟩,mk ⟨#[41]⟩,mk ⟨#[59]⟩]
 else match es with
 | [x]=>if op=1 then nm s::.sp 32::mk ⟨#[61]⟩::.sp 32::(x++[mk ⟨#[59]⟩]) else if op=3 then mk ⟨#[42]⟩::nm s::.sp 32::mk ⟨#[61]⟩::.sp 32::(x++[mk ⟨#[59]⟩]) else if op=8 then mk ⟨#[114,101,116,117,114,110]⟩::.sp 32::(x++[mk ⟨#[59]⟩]) else mk ⟨#[97,115,115,101,114,116]⟩::mk ⟨#[40]⟩::(x++[mk ⟨#[41]⟩,mk ⟨#[59]⟩])
 | x::y::_=>nm s::mk ⟨#[91]⟩::(x++(mk ⟨#[93]⟩::.sp 32::mk ⟨#[61]⟩::.sp 32::(y++[mk ⟨#[59]⟩])))
 | []=>[]
def pH (op:Int)(es:List (List Pc)):List Pc:=(if op=6 then mk ⟨#[105,102]⟩ else mk ⟨#[119,104,105,108,101]⟩)::.sp 32::mk ⟨#[40]⟩::(es.headD []++[mk ⟨#[41]⟩,.sp 32,mk ⟨#[123]⟩])
mutual
def pS (d:Nat):Kj→List Pc
 | ⟨op,s,f,es,ks,ls,_⟩=>if op=6∨op=7 then ind d (pH op (es.map pE))++(pSs (d+1) ks++((if ls.isEmpty then [] else ind d [mk ⟨#[125]⟩,.sp 32,mk ⟨#[101,108,115,101]⟩,.sp 32,mk ⟨#[123]⟩]++pSs (d+1) ls)++ind d [mk ⟨#[125]⟩])) else ind d (pF op s f (es.map pE))
def pSs (d:Nat):List Kj→List Pc
 | []=>[]
 | s::l=>pS d s++pSs d l
end
def pV (v:K3):List Pc:=mk ⟨#[105,110,116]⟩::.sp 32::(if v.gz then [mk ⟨#[42]⟩,nm v.ga] else [nm v.ga])
def pLs (l:List K3):List Pc:=l.flatMap fun v=>ind 1 (pV v++[mk ⟨#[59]⟩])
def pFn (f:KG):List Pc:=ind 0 (mk ⟨#[105,110,116]⟩::.sp 32::nm f.ga::mk ⟨#[40]⟩::(KaM (f.gf.map pV)++[mk ⟨#[41]⟩,.sp 32,mk ⟨#[123]⟩]))++(pLs f.gh++(pSs 1 f.gp++ind 0 [mk ⟨#[125]⟩]))
def pGl (g:KT):List Pc:=pV ⟨g.ga,g.gz⟩++(if g.gz=false∧0 < g.gA then [mk ⟨#[91]⟩,nb g.gA,mk ⟨#[93]⟩,mk ⟨#[59]⟩,.sp 10] else [mk ⟨#[59]⟩,.sp 10])
end
section
open Go
def sk (t:KB):Tk:=(t.gt,t.gr,t.gN)
def Pt {α:Type}(m:Option α)(P:α→Prop):Prop:=∀ r,m=some r→P r
theorem Pt.bind {α β:Type}{m:Option α}{f:α→Option β}{P:α→Prop}{Q:β→Prop}(h:Pt m P)(g:∀ x,P x→Pt (f x) Q):Pt (m.bind f) Q:=by
 intro r e;cases a:m with
 | none=>rw [a] at e;cases e
 | some x=>rw [a] at e;exact g x (h x a) r e
theorem Pt.ret {α:Type}{x:α}{P:α→Prop}(h:P x):Pt (some x) P:=fun r e=>by cases e;exact h
theorem Pt.cond {α:Type}{c:Bool}{a b:Option α}{P:α→Prop}(h1:c=true→Pt a P)(h2:c=false→Pt b P):Pt (bif c then a else b) P:=by
 cases c
 ·exact h2 rfl
 exact h1 rfl
theorem Pt.any {α:Type}{m:Option α}:Pt m fun _=>True:=fun _ _=>trivial
theorem Pt.eq {α:Type}{m:Option α}:Pt m fun x=>m=some x:=fun _ e=>e
theorem Pt.imp {α:Type}{m:Option α}{P Q:α→Prop}(h:Pt m P)(g:∀ x,P x→Q x):Pt m Q:=fun r e=>g r (h r e)
def StepQ {σ τ:Type}(I:σ→Prop)(Post:τ→Prop):Step σ τ→Prop
 | .next s'=>I s'
 | .done r=>Post r
theorem Pt.loop {σ τ:Type}{f:σ→Option (Step σ τ)}(I:σ→Prop){Post:τ→Prop}{s:σ}(hi:I s)(h:∀ s,I s→Pt (f s) (StepQ I Post)):Pt (loopM f s) Post:=by
 intro r e;obtain ⟨n,hn⟩:=KgU e;clear e;induction n generalizing s with
 | zero=>cases hn
 |
  succ n ih=>
  unfold loopN at hn;cases hf:f s with
  | none=>rw [hf] at hn;cases hn
  |
   some q=>
   have hq:=h s hi q hf;rw [hf] at hn;cases q with
   | next s'=>exact ih hq hn
   | done t=>cases hn;exact hq
theorem T.eq {α:Type}{m:Option α}{x:α}{P:α→Prop}(h:m=some x)(hp:P x):T m P:=⟨x,h,hp⟩
def memB (s:ByteArray)(l:List ByteArray):Bool:=l.any fun x=>decide (s=x)
theorem memB_iff {s:ByteArray}{l:List ByteArray}:memB s l=true↔s∈l:=by simp [memB]
theorem tcontI (l:List ByteArray)(s:ByteArray)(hl:l.length≤1000):KaS l s=some (memB s l):=by
 have key:T (KaS l s) fun b=>b=memB s l:=by
  unfold KaS Kcs;refine T.bind (P:=fun i=>(0≤i↔s∈l)) ?_ fun i hi=>T.ret (Bool.eq_iff_iff.2 (by rw [memB_iff,← hi];simp))
  refine T.bind (P:=fun r=>(∀ u,r=Sum.inl u→s ∉ l)∧∀ i,r=Sum.inr i→0≤i∧s∈l) (T.loop (fun j=>∃ k:Nat,j=(k:Int)∧k≤l.length∧s ∉ l.take k) (fun j=>l.length - j.toNat) ⟨0,rfl,by omega,by simp⟩ fun j hj=>?_) fun r hr=>?_
  ·obtain ⟨k,rfl,hk,hn⟩:=hj;refine T.cond (fun hc=>?_) fun hc=>T.ret ⟨fun u _=>?_,fun i e=>by cases e⟩
   ·have hlt:k < l.length:=by simpa using hc
    refine T.bind (P:=fun x=>l[k]? = some x) (T.idx hlt fun x hx=>hx) fun x hx=>T.cond (fun e=>T.ret ?_) fun e=>T.ret ?_
    ·have e':s=x:=of_decide_eq_true e;exact ⟨fun u e=>(by cases e),fun i e=>(by cases e;exact ⟨by omega,by rw [e'];exact List.mem_of_getElem? hx⟩)⟩
    have e':s ≠ x:=of_decide_eq_false e;rw [wn (by omega)];refine ⟨⟨k+1,rfl,hlt,?_⟩,by simp only [Int.toNat_natCast];omega⟩;rw [List.take_add_one,hx];simp [hn,e']
   have:l.length≤k:=by simpa using hc
   rwa [List.take_of_length_le this] at hn
  cases r with
  | inl u=>exact T.ret (by have:=hr.1 u rfl;simp [this])
  | inr i=>exact T.ret (by have:=hr.2 i rfl;simp [this])
 obtain ⟨b,h1,h2⟩:=key;rw [h1,h2]
abbrev two:List ByteArray:=[(ByteArray.mk #[61,61]),(ByteArray.mk #[33,61]),(ByteArray.mk #[60,61]),(ByteArray.mk #[38,38]),(ByteArray.mk #[124,124])]
abbrev ones:ByteArray:=ByteArray.mk #[40,41,123,125,91,93,59,44,61,60,43,45,42,47,37,33,38]
def vl (l:List UInt8)(v:Nat):Nat:=l.foldl (fun v c=>10*v+(c.toNat - 48)) v
theorem vl_ge:∀ (l:List UInt8) (v:Nat),v≤vl l v
 | [],v=>Nat.le_refl _
 |
  c::l,v=>by
  have:=vl_ge l (10*v+(c.toNat - 48));show v≤vl l (10*v+(c.toNat - 48))
  omega
theorem KjW (a b:List UInt8)(v:Nat):vl (a++b) v=vl b (vl a v):=by simp [vl]
theorem vl_le (l:List UInt8)(k:Nat)(v:Nat):vl (l.take k) v≤vl l v:=by
 conv=>rhs;rw [← List.take_append_drop k l]
 rw [KjW];exact vl_ge _ _
theorem u8n {n:Nat}(h:n < 256):(UInt8.ofNat n).toNat=n:=by rw [UInt8.toNat_ofNat'];omega
theorem dd_all (u:Nat):(∀ c∈Lib.decDigits u,48≤c.toNat∧c.toNat≤57)∧vl (Lib.decDigits u) 0=u∧∃ c r,Lib.decDigits u=c::r∧(c=48→u=0):=by
 induction u using Nat.strongRecOn with
 |
  _ u ih=>
  rw [Lib.decDigits];by_cases h:u < 10
  ·rw [dif_pos h];have e:=u8n (n:=48+u) (by omega);refine ⟨fun c hc=>?_,?_,_,_,rfl,fun e'=>?_⟩
   ·rw [List.mem_singleton.1 hc,e];omega
   ·show 10*0+((UInt8.ofNat (48+u)).toNat - 48)=u
    rw [e];omega
   rw [e'] at e;have:(48:UInt8).toNat=48:=rfl;omega
  rw [dif_neg h];obtain ⟨h1,h2,c,r,a,b⟩:=ih (u / 10) (by omega);have e:=u8n (n:=48+u % 10) (by omega);refine ⟨fun c hc=>?_,?_,c,r++[UInt8.ofNat (48+u % 10)],by rw [a];rfl,fun e'=>?_⟩
  ·rcases List.mem_append.1 hc with hc|hc
   ·exact h1 c hc
   rw [List.mem_singleton.1 hc,e];omega
  ·rw [KjW,h2];show 10*(u / 10)+((UInt8.ofNat (48+u % 10)).toNat - 48)=u
   rw [e];omega
  have:=b e';omega
theorem KhM {n:Int}(h:0≤n):(itoaB n).data.toList=Lib.decDigits n.toNat:=by
 unfold itoaB Lib.itoa;rw [if_neg (by omega)]
theorem ck_dig {c:UInt8}(h:48≤c.toNat∧c.toNat≤57):ck c=3:=by
 have key:∀ k:UInt8,c.toNat=k.toNat→ck k=3→ck c=3:=fun k e h=>by rw [UInt8.toNat_inj.1 e];exact h
 have:c.toNat=48∨c.toNat=49∨c.toNat=50∨c.toNat=51∨c.toNat=52∨c.toNat=53∨c.toNat=54∨c.toNat=55∨c.toNat=56∨c.toNat=57:=by omega
 rcases this with e|e|e|e|e|e|e|e|e|e
 ·exact key 48 e (by kernel_rfl)
 ·exact key 49 e (by kernel_rfl)
 ·exact key 50 e (by kernel_rfl)
 ·exact key 51 e (by kernel_rfl)
 ·exact key 52 e (by kernel_rfl)
 ·exact key 53 e (by kernel_rfl)
 ·exact key 54 e (by kernel_rfl)
 ·exact key 55 e (by kernel_rfl)
 ·exact key 56 e (by kernel_rfl)
 exact key 57 e (by kernel_rfl)
def cls (b:Bool)(c:UInt8):Bool:=decide (ck c=3) || (b && decide (ck c=2))
structure RA (m:K4) (a:Nat) (x:List UInt8):Prop where
 at_:m.gb=(a:Int)
 le:a≤m.gB.length
 len:m.gB.length≤20000
 dr:m.gB.drop a=x
theorem RA.lx {m:K4}{a:Nat}{x:List UInt8}(h:RA m a x):a+x.length=m.gB.length:=by
 have:=h.le;rw [← h.dr,List.length_drop];omega
theorem RA.nx {m:K4}{a:Nat}{x:List UInt8}(h:RA m a x)(k:Nat):m.gB[a+k]? = x[k]?:=by rw [← h.dr,List.getElem?_drop]
theorem tw_get {p:UInt8→Bool}:∀ {x:List UInt8} {k:Nat} {c:UInt8},x[k]? = some c→k≤(x.takeWhile p).length→(p c=true→k+1≤(x.takeWhile p).length)∧(p c=false→k=(x.takeWhile p).length)
 | [],k,c,h,_=>by simp at h
 |
  d::x,0,c,h,hk=>by
  simp only [List.getElem?_cons_zero,Option.some.injEq] at h;subst h;cases hp:p d<;>simp [List.takeWhile,hp]
 |
  d::x,k+1,c,h,hk=>by
  cases hp:p d with
  | false=>simp [List.takeWhile,hp] at hk
  |
   true=>
   simp only [List.takeWhile_cons,hp,if_true,List.length_cons] at hk ⊢;simp only [List.getElem?_cons_succ] at h;obtain ⟨h1,h2⟩:=tw_get (p:=p) h (by omega);exact ⟨fun e=>by have:=h1 e;omega,fun e=>by have:=h2 e;omega⟩
theorem tw_le {p:UInt8→Bool}:∀ x:List UInt8,(x.takeWhile p).length≤x.length
 | []=>by simp
 |
  c::x=>by
  have:=tw_le (p:=p) x;cases hp:p c<;>simp [List.takeWhile,hp];omega
theorem KiS {m:K4}{a:Nat}{x:List UInt8}(h:RA m a x)(b:Bool):KbR m b=some (((x.takeWhile (cls b)).length:Nat):Int):=by
 have hl:=h.lx;have hlen:=h.len
 have key:T (KbR m b) fun n=>n=(((x.takeWhile (cls b)).length:Nat):Int):=by
  unfold KbR;refine T.bind (P:=fun n=>n=(((x.takeWhile (cls b)).length:Nat):Int)) ?_ fun n hn=>T.ret hn
  refine T.loop (fun s=>∃ k:Nat,s=(k:Int)∧k≤(x.takeWhile (cls b)).length) (fun s=>x.length - s.toNat) ⟨0,rfl,by omega⟩ fun s hs=>?_
  obtain ⟨k,rfl,hk⟩:=hs;have htw:=tw_le (p:=cls b) x;rw [h.at_,wa (by omega)];refine T.cond (fun hc=>?_) fun hc=>T.ret ?_
  ·have hlt:a+k < m.gB.length:=by have:=of_decide_eq_true hc;omega
   refine T.bind (P:=fun c=>m.gB[a+k]? = some c) (T.idx hlt fun x hx=>hx) fun c he=>?_
   rw [h.nx] at he;obtain ⟨g1,f⟩:=tw_get (p:=cls b) he hk;rw [ck_is,Option.bind_some];have nx:cls b c=true→StepP (fun s=>∃ k:Nat,s=(k:Int)∧k≤(x.takeWhile (cls b)).length) (fun s:Int=>x.length - s.toNat) (x.length - ((k:Int)).toNat) (fun n:Int=>n=(((x.takeWhile (cls b)).length:Nat):Int)) (.next (IntKind.i64.wrap ((k:Int)+1))):=fun e=>by
    rw [wn (by omega)];exact ⟨⟨k+1,rfl,g1 e⟩,by simp only [Int.toNat_natCast];omega⟩
   have dn:cls b c=false→StepP (fun s=>∃ k:Nat,s=(k:Int)∧k≤(x.takeWhile (cls b)).length) (fun s:Int=>x.length - s.toNat) (x.length - ((k:Int)).toNat) (fun n:Int=>n=(((x.takeWhile (cls b)).length:Nat):Int)) (.done (k:Int)):=fun e=>by
    show (k:Int)=_
    rw [← f e]
   refine T.cond (fun d=>T.cond (fun h2=>T.ret (dn ?_)) fun h2=>T.cond (fun hb=>T.ret (dn ?_)) fun hb=>T.ret (nx ?_)) fun d=>T.ret (nx ?_)
   ·simp at d h2;simp [cls,d,h2]
   ·simp at d hb;simp [cls,d,hb]
   ·simp at h2 hb;simp [cls,h2,hb]
   simp at d;simp [cls,d]
  show (k:Int)=_
  have:x.length≤k:=by have:=of_decide_eq_false hc;omega
  omega
 obtain ⟨n,h1,h2⟩:=key;rw [h1,h2]
theorem KhN {m:K4}{a:Nat}{x y:List UInt8}(h:RA m a (x++y)):cutL m.gB (a:Int) ((a+x.length:Nat):Int)=some x:=by
 have hl:=h.lx;rw [List.length_append] at hl;unfold cutL;rw [show (decide (0≤(a:Int)) && decide ((a:Int)≤((a+x.length:Nat):Int)) && decide (((a+x.length:Nat):Int)≤(m.gB.length:Int)))=true by simp;omega,cond_true];simp only [Int.toNat_natCast];rw [h.dr,show a+x.length - a=x.length by omega,List.take_left'];rfl
theorem tw_all {p:UInt8→Bool}{y:List UInt8}:∀ {x:List UInt8},(∀ c∈x,p c=true)→(∀ c r,y=c::r→p c=false)→(x++y).takeWhile p=x
 |
  [],_,hy=>by
  cases y with
  | nil=>rfl
  | cons c r=>simp [List.takeWhile,hy c r rfl]
 |
  c::x,hx,hy=>by
  rw [List.cons_append,List.takeWhile_cons,hx c (by simp),if_pos rfl,tw_all (fun d hd=>hx d (by simp [hd])) hy]
def Nx (m:K4)(a n:Nat)(t:List Tk)(r:Int×K4):Prop:=(r.1=6∧4000≤m.gL.length)∨(r.1=0∧r.2.gB=m.gB∧r.2.gb=((a+n:Nat):Int)∧r.2.gL.map sk=m.gL.map sk++t∧r.2.gL.length≤4000)
theorem add_is {m:K4}{a:Nat}{x y:List UInt8}(h:RA m a (x++y))(k v:Int):T (KbG m k (x.length:Int) v) (Nx m a x.length [(k,ByteArray.mk x.toArray,v)]):=by
 have hl:=h.lx;have hlen:=h.len
 rw [List.length_append] at hl;unfold KbG;refine T.cond (fun hc=>T.ret (.inl ⟨rfl,by have:=of_decide_eq_true hc;omega⟩)) fun hc=>?_
 have hc':m.gL.length < 4000:=by have:=of_decide_eq_false hc;omega
 rw [h.at_,wa (by omega),KhN h,Option.bind_some,Kc6 (by omega) (by simp;omega),Option.bind_some];exact T.ret (.inr ⟨rfl,rfl,rfl,by simp [sk],by simp;omega⟩)
def na (b:List UInt8):Prop:=∀ c r,b=c::r→ck c ≠ 2∧ck c ≠ 3
theorem na_cls {b:List UInt8}(h:na b)(q:Bool):∀ c r,b=c::r→cls q c=false:=fun c r e=>by
 obtain ⟨h1,h2⟩:=h c r e;simp [cls,h1,h2]
theorem Alp.tw {x y:List UInt8}(h:Alp x)(hy:na y):(x++y).takeWhile (cls true)=x:=
 tw_all (fun c hc=>by rcases h.al c hc with e|e<;>simp [cls,e]) (na_cls hy _)
theorem name_is {m:K4}{a:Nat}{s:ByteArray}{y:List UInt8}(h:RA m a (s.data.toList++y))(hx:Alp s.data.toList)(hy:na y){w:Bool}(hw:Kdv s=some w):T (KbS m) (Nx m a s.data.toList.length [(bif w then 3 else 1,s,0)]):=by
 have hl:=h.lx;have hlen:=h.len;have hle:=hx.le
 rw [List.length_append] at hl;have es:(ByteArray.mk s.data.toList.toArray)=s:=by cases s;simp
 unfold KbS;rw [KiS h,hx.tw hy,Option.bind_some,h.at_,wa (by omega),KhN h,Option.bind_some];refine T.cond (fun hc=>?_) fun _=>?_
 ·have:=of_decide_eq_true hc;omega
 rw [es,hw,Option.bind_some];have hadd:=fun k=>add_is h k 0
 rw [es] at hadd;cases w
 ·exact T.bind (hadd 1) fun r hr=>T.ret hr
 exact T.bind (hadd 3) fun r hr=>T.ret hr
end
section
open Go
theorem u8c (c:UInt8)(h:48≤c.toNat):IntKind.u64.wrap (IntKind.u8.wrap ((c.toNat:Int) - (48:Int)))=((c.toNat - 48:Nat):Int):=by
 have:=c.toNat_lt;rw [IntKind.wrap_u8,IntKind.wrap_u64];omega
theorem num_is {m:K4}{a:Nat}{n:Int}{y:List UInt8}(h0:0≤n)(h1:n≤9223372036854775807)(h:RA m a ((itoaB n).data.toList++y))(hy:na y):T (KbE m) (Nx m a (itoaB n).data.toList.length [(2,itoaB n,n)]):=by
 obtain ⟨d1,d2,c,r,d,f⟩:=dd_all n.toNat;have hd:=KhM h0;have hl:=h.lx;have hlen:=h.len
 rw [List.length_append] at hl;have es:(ByteArray.mk (itoaB n).data.toList.toArray)=itoaB n:=by cases itoaB n;simp
 have tw:∀ q,((itoaB n).data.toList++y).takeWhile (cls q)=(itoaB n).data.toList:=fun q=>tw_all (fun c hc=>by
  rw [hd] at hc;simp [cls,ck_dig (d1 c hc)]) (na_cls hy _)
 unfold KbE;refine T.cond (fun hc=>T.ret (.inl ⟨rfl,by have:=of_decide_eq_true hc;omega⟩)) fun _=>?_
 rw [KiS h,tw,Option.bind_some,KiS h,tw,Option.bind_some];refine T.bind (P:=fun b=>b=false) (T.cond (fun hc=>?_) fun _=>?_) fun b hb=>?_
 ·have:=of_decide_eq_true hc;omega
 ·rw [h.at_];have o:1≤(itoaB n).data.toList.length:=by rw [hd,d];simp
  refine T.bind (P:=fun x=>x=c) (T.idx (by omega) fun x hx=>?_) fun x hx=>T.cond (fun e=>T.ret ?_) fun _=>T.ret rfl
  ·have:=h.nx 0;rw [Nat.add_zero,hx,hd,d] at this;simpa using this
  subst hx;have g:x=48:=by
   have:(x.toNat:Int)=48:=by simpa using e
   exact UInt8.toNat_inj.1 (by have:(48:UInt8).toNat=48:=rfl;omega)
  have hz:=f g;rw [hd,hz];rw [Lib.decDigits,dif_pos (by omega)];simp
 subst hb;rw [cond_false,h.at_,wa (by omega),KhN h,Option.bind_some];refine T.bind (P:=fun r=>r=Sum.inl n) ?_ fun r hr=>?_
 ·generalize hx:(itoaB n).data.toList=x at *;refine T.loop (fun s=>∃ j:Nat,s=(((vl (x.take j) 0:Nat):Int),(j:Int))∧j≤x.length) (fun s=>x.length - s.2.toNat) ⟨0,rfl,Nat.zero_le _⟩ fun s hs=>?_
  obtain ⟨j,rfl,hj⟩:=hs;simp only;refine T.cond (fun hc=>?_) fun hc=>T.ret ?_
  ·have hlt:j < x.length:=by have:=of_decide_eq_true hc;omega
   refine T.bind (P:=fun c=>x[j]? = some c) (T.idx hlt fun x hx=>hx) fun c hc=>?_
   obtain ⟨c1,c2⟩:=d1 c (by rw [← hd];exact List.mem_of_getElem? hc);have htake:x.take (j+1)=x.take j++[c]:=by rw [List.take_add_one,hc];rfl
   have hv:vl (x.take (j+1)) 0=10*vl (x.take j) 0+(c.toNat - 48):=by rw [htake,KjW];rfl
   have hle:=vl_le x (j+1) 0;rw [hd,d2,← hd,hv] at hle;rw [u8c c c1,wn (by omega)];generalize vl (x.take j) 0=v at *;have i:IntKind.u64.wrap ((9223372036854775807:Int) - ((c.toNat - 48:Nat):Int))=((9223372036854775807 - (c.toNat - 48):Nat):Int):=by rw [IntKind.wrap_u64];omega
   have k:IntKind.u64.wrap (((9223372036854775807 - (c.toNat - 48):Nat):Int).tdiv (10:Int))=(((9223372036854775807 - (c.toNat - 48)) / 10:Nat):Int):=by
    rw [show ((9223372036854775807 - (c.toNat - 48):Nat):Int).tdiv (10:Int)=(((9223372036854775807 - (c.toNat - 48)) / 10:Nat):Int) from rfl,IntKind.wrap_u64];omega
   have l:IntKind.u64.wrap (IntKind.u64.wrap ((10:Int)*(v:Int))+((c.toNat - 48:Nat):Int))=((10*v+(c.toNat - 48):Nat):Int):=by rw [IntKind.wrap_u64,IntKind.wrap_u64];omega
   rw [i,k,l];refine T.cond (fun e=>?_) fun _=>T.ret ⟨⟨j+1,by rw [hv],hlt⟩,by simp only [Int.toNat_natCast];omega⟩
   have:=of_decide_eq_true e;omega
  have:x.length≤j:=by simpa using hc
  show Sum.inl _=Sum.inl n
  rw [List.take_of_length_le this,hd,d2];congr 1;omega
 subst hr;rw [Sum.elim_inl,show IntKind.i64.wrap n=n by rw [IntKind.wrap_i64];omega];have hadd:=add_is h 2 n;rw [es] at hadd;exact T.bind hadd fun r hr=>T.ret hr
def n2 (c:UInt8)(b:List UInt8):Prop:=∀ d r,b=d::r→memB ⟨#[c,d]⟩ two=false
theorem sign1_is {m:K4}{a:Nat}{c:UInt8}{y:List UInt8}(h:RA m a (c::y))(hc:0≤Khr ones (c.toNat:Int))(hy:n2 c y):Kbv m=some 1:=by
 have hl:=h.lx;rw [List.length_cons] at hl;unfold Kbv;have hcut:cutL m.gB m.gb (m.gB.length:Int)=some (c::y):=by
  have:=KhN (x:=c::y) (y:=[]) (by rwa [List.append_nil]);rwa [show a+(c::y).length=m.gB.length from h.lx,← h.at_] at this
 rw [hcut,Option.bind_some];have key:(bif (decide ((1:Int) < ((c::y).length:Int))) then ((cutL (c::y) (0:Int) (2:Int)).bind fun b=>((KaS qZ9 (ByteArray.mk b.toArray)).bind fun e=>some e)) else some false)=some false:=by
  cases y with
  | nil=>rfl
  |
   cons d r=>
   rw [decide_eq_true (by simp only [List.length_cons];omega),cond_true];have f:cutL (c::d::r) 0 2=some [c,d]:=by
    unfold cutL;rw [show (decide ((0:Int)≤0) && decide ((0:Int)≤2) && decide ((2:Int)≤((c::d::r).length:Int)))=true by simp;omega];rfl
   rw [f,Option.bind_some,tcontI _ _ (by simp),Option.bind_some];exact congrArg some (hy d r rfl)
 rw [key,Option.bind_some,cond_false,show idx (c::y) (0:Int)=some c from rfl,Option.bind_some,decide_eq_true hc];rfl
theorem sign2_is {m:K4}{a:Nat}{c d:UInt8}{y:List UInt8}(h:RA m a (c::d::y))(b:memB ⟨#[c,d]⟩ two=true):Kbv m=some 2:=by
 unfold Kbv;have hcut:cutL m.gB m.gb (m.gB.length:Int)=some (c::d::y):=by
  have:=KhN (x:=c::d::y) (y:=[]) (by rwa [List.append_nil]);rwa [show a+(c::d::y).length=m.gB.length from h.lx,← h.at_] at this
 have e:cutL (c::d::y) 0 2=some [c,d]:=by
  unfold cutL;rw [show (decide ((0:Int)≤0) && decide ((0:Int)≤2) && decide ((2:Int)≤((c::d::y).length:Int)))=true by simp;omega];rfl
 rw [hcut,Option.bind_some,decide_eq_true (by simp only [List.length_cons];omega),cond_true,e,Option.bind_some,tcontI _ _ (by simp),Option.bind_some,Option.bind_some];show (bif memB ⟨#[c,d]⟩ two then some (2:Int) else _)=_
 rw [b];rfl
inductive Lx:List Pc→Prop
 | nil:Lx []
 | sp (c l):ck c=1→Lx l→Lx (.sp c::l)
 | nm (s l):NmOK s→na (txts l)→Lx l→Lx (nm s::l)
 | wd (s l):WdOK s→na (txts l)→Lx l→Lx (mk s::l)
 | nb (n l):0≤n→n≤9223372036854775807→na (txts l)→Lx l→Lx (nb n::l)
 | m1 (c l):ck c=0→0≤Khr ones (c.toNat:Int)→n2 c (txts l)→Lx l→Lx (mk ⟨#[c]⟩::l)
 | m2 (c d l):ck c=0→memB ⟨#[c,d]⟩ two=true→Lx l→Lx (mk ⟨#[c,d]⟩::l)
theorem next_is {m:K4}{a:Nat}{p:Pc}{l:List Pc}(h:RA m a (txts (p::l)))(hx:Lx (p::l))(k:m.gL.length≤4000):1≤p.txt.length∧Lx l∧T (KbT m) (Nx m a p.txt.length (tks [p])):=by
 have hl:=h.lx;have hlen:=h.len
 rw [KcW] at h;have o:∀ {c:UInt8} {r:List UInt8},p.txt=c::r→idx m.gB m.gb=some c:=fun {c r} e=>by
  have:=h.nx 0;rw [e] at this;rw [h.at_,Kdq];simpa using this
 have start:∀ {c:UInt8} {r:List UInt8},p.txt=c::r→∀ {Q:Int×K4→Prop},T ((bif (ck c==(1:Int)) then some ((0:Int),(⟨m.gB,(IntKind.i64.wrap (m.gb+(1:Int))),m.gL⟩:K4)) else (bif (ck c==(2:Int)) then ((KbS m).bind fun b=>some (b.1,b.2)) else (bif (ck c==(3:Int)) then ((KbE m).bind fun f=>some (f.1,f.2)) else ((Kbv m).bind fun g=>(bif (g==(0:Int)) then some ((3:Int),m) else ((KbG m (3:Int) g (0:Int)).bind fun i=>some (i.1,i.2)))))))) Q→T (KbT m) Q:=fun {c r} e {Q} hq=>by
  unfold KbT;rw [o e,Option.bind_some,ck_is,Option.bind_some];exact hq
 cases hx with
 |
  sp c l hc hl'=>
  refine ⟨Nat.le_refl _,hl',start (c:=c) (r:=[]) rfl ?_⟩;rw [hc];refine T.ret (.inr ⟨rfl,rfl,?_,by simp [tks],k⟩);show IntKind.i64.wrap (m.gb+1)=_
  rw [h.at_,wn (by have:=h.le;omega)];rfl
 |
  nm s l hs hn hl'=>
  obtain ⟨c,r,e,hc⟩:=hs.al.hd;refine ⟨by show 1≤s.data.toList.length;rw [e];simp,hl',start (c:=c) (r:=r) e ?_⟩;rw [hc];exact T.bind (name_is h hs.al hn hs.nw) fun x hx=>T.ret hx
 |
  wd s l hs hn hl'=>
  obtain ⟨c,r,e,hc⟩:=hs.al.hd;refine ⟨by show 1≤s.data.toList.length;rw [e];simp,hl',start (c:=c) (r:=r) e ?_⟩;rw [hc];exact T.bind (name_is h hs.al hn hs.w) fun x hx=>T.ret hx
 |
  nb n l h0 h1 hn hl'=>
  obtain ⟨d1,d2,c,r,j,q⟩:=dd_all n.toNat;have e:(itoaB n).data.toList=c::r:=by rw [KhM h0,j]
  refine ⟨by show 1≤(itoaB n).data.toList.length;rw [e];simp,hl',start (c:=c) (r:=r) e ?_⟩;rw [ck_dig (d1 c (by rw [j];simp))];exact T.bind (num_is h0 h1 h hn) fun x hx=>T.ret hx
 |
  m1 c l hc h1 hn hl'=>
  refine ⟨Nat.le_refl _,hl',start (c:=c) (r:=[]) rfl ?_⟩;rw [hc];show T ((Kbv m).bind _) _
  rw [sign1_is h h1 hn,Option.bind_some];exact T.bind (add_is (x:=[c]) h 3 0) fun x hx=>T.ret hx
 |
  m2 c d l hc h1 hl'=>
  refine ⟨by show 1≤2;omega,hl',start (c:=c) (r:=[d]) rfl ?_⟩;rw [hc];show T ((Kbv m).bind _) _
  rw [sign2_is h h1,Option.bind_some];exact T.bind (add_is (x:=[c,d]) h 3 0) fun x hx=>T.ret hx
theorem read_is {l:List Pc}(h:Lx l):T (Kc2 (txts l)) fun r=>(r.2.2=6∧(20000 < (txts l).length∨4000≤(tks l).length))∨(r.2.2=0∧(txts l).length≤20000∧r.1.map sk=tks l++[(0,ByteArray.empty,0)]∧r.1.length≤4001):=by
 unfold Kc2;refine T.cond (fun hc=>T.ret (.inl ⟨rfl,.inl (by have:=of_decide_eq_true hc;omega)⟩)) fun hc=>?_
 have hb:(txts l).length≤20000:=by have:=of_decide_eq_false hc;omega
 refine T.bind (P:=fun r=>(∀ q,r=Sum.inl q→q.2.2.length≤4000∧q.2.2.map sk=tks l)∧∀ q,r=Sum.inr q→q.2.2=6∧4000≤(tks l).length) ?_ fun r hr=>?_
 ·refine T.loop (fun s=>s.1=txts l∧∃ a l',RA ⟨s.1,s.2.1,s.2.2⟩ a (txts l')∧Lx l'∧s.2.2.map sk++tks l'=tks l∧s.2.2.length≤4000) (fun s=>(txts l).length - s.2.1.toNat) ⟨rfl,0,l,⟨rfl,Nat.zero_le _,hb,rfl⟩,h,rfl,by simp⟩ fun s hs=>?_
  obtain ⟨o,t,u⟩:=s;obtain ⟨e,a,l',ha,hl',ht,c⟩:=hs;simp only at e ha ht c;subst e;have:=ha.at_;simp only at this;subst this;have hlx:=ha.lx;simp only at hlx;refine T.cond (fun hc=>?_) fun hc=>T.ret ⟨fun q e=>?_,fun q e=>by cases e⟩
  ·cases l' with
   | nil=>rw [txts_nil] at hlx;simp at hlx;simp at hc;omega
   |
    cons p l'=>
    obtain ⟨d,n2,g⟩:=next_is ha hl' c;refine T.bind g fun r hr=>?_
    rcases hr with ⟨hr,i⟩|⟨j,b,f,k,m⟩
    ·rw [hr];have n:4000≤(tks l).length:=by rw [← ht,List.length_append,List.length_map];simp only at i;omega
     exact T.ret ⟨fun q e=>(by cases e),fun q e=>(by cases e;exact ⟨rfl,n⟩)⟩
    rw [j];have hdr:=ha.dr;simp only at b hdr;have hle:a+p.txt.length≤(txts l).length:=by rw [KcW,List.length_append] at hlx;omega
    refine T.ret ⟨⟨b,a+p.txt.length,l',⟨f,by simp only;rw [b];exact hle,by simp only;rw [b];exact hb,?_⟩,n2,?_,m⟩,?_⟩
    ·simp only;rw [b,← List.drop_drop,hdr,KcW,List.drop_left'];rfl
    ·show r.2.gL.map sk++tks l'=_
     rw [k,← ht];cases p<;>simp [tks]
    show (txts l).length - r.2.gb.toNat < _
    rw [f];simp only [Int.toNat_natCast];omega
  cases e;refine ⟨c,?_⟩;have h0:txts l'=[]:=by
   have:(txts l).length≤a:=by simpa using hc
   exact List.eq_nil_of_length_eq_zero (by omega)
  cases l' with
  | nil=>rw [← ht];simp [tks]
  |
   cons p l'=>
   obtain ⟨d,_,_⟩:=next_is ha hl' c;rw [KcW] at h0;have:=(List.append_eq_nil_iff.1 h0).1;rw [this] at d;simp at d
 cases r with
 |
  inl q=>
  obtain ⟨h1,h2⟩:=hr.1 q rfl;rw [Sum.elim_inl,Kc6 (by omega) (by simp;omega),Option.bind_some];exact T.ret (.inr ⟨rfl,hb,by rw [List.map_append,h2];rfl,by simp;omega⟩)
 | inr q=>exact T.ret (.inl ⟨(hr.2 q rfl).1,.inr (hr.2 q rfl).2⟩)
end
end Go.Proofs.YtbbeiinofainlaaGreatDoor.Ab
end
