/- The texts that storeEditsCard_holds leans on, part 2. -/
import Derived.Test.YticifeeokcgfkaaGreatDoorWx1
set_option linter.all false
set_option maxRecDepth 100000
set_option maxHeartbeats 80000000
noncomputable section
open Array renaming getElem?_eq_some_iff→a5,getElem?_setIfInBounds_ne→f0,length_toList→b9,replicate→i2,size_setIfInBounds→fA
open Bool renaming and_eq_true→aR,false_eq_true→cP,not_false→a3,not_true→bI,true_and→eS
open ByteArray renaming empty→ε,mk→ν
open Exists renaming intro→Θ
open Go renaming Exit→dH,IntKind→fP,Oper→bG,Operand→aH,PanicEntry→e8,Program→aJ,ResultVar→dM,TypeId→aD,Value→ω,World→aL,execOp→bL,typeInfo→eR,zeroValue→ry
open Go.Act renaming eval→RH,put→io
open Go.Builtin renaming append_→dZ
open Go.DataW renaming trod→jB
open Go.Extern.AbiNoEscape renaming same→RG
open Go.Instr renaming storeAt→iq
open Go.IntKind renaming i64→ζ,wrap_i64→b1
open Go.Obj.cells renaming injEq→mC
open Go.Op renaming equal→AA,equalIn→oQ
open Go.Oper renaming upon_value→fT,wp→ku
open Go.Region renaming binds→im,wanted→fo
open Go.Result renaming andThen→fE
open Go.Value renaming cells→cT,int→g7,string→cZ
open Go.World renaming cell?→aO,frozen?→jp
open List renaming all_eq_true→bY,append_assoc→aS,append_nil→aN,cons_append→bK,drop_zero→DL,flatMap_cons→cA,getD_eq_getElem?_getD→fx,getElem?_append_left→cI,getElem?_append_right→mM,getElem?_cons_zero→dB,getElem?_eq_getElem→bF,getElem?_eq_none→jq,getElem?_eq_some_iff→aP,getElem?_toArray→cR,length_append→υ,length_cons→Ψ,length_map→b6,length_nil→aB,map_cons→a7,map_nil→fg,mem_append_left→cF,mem_cons→cX,mem_cons_self→fV,mem_of_getElem?→a4,mem_range→DK,mem_singleton→aT,nil_append→a8,nil_sublist→eC,nodup_append→zh,perm_append_comm→sR,range→ff,takeWhile_cons→wE,take_append_drop→fq,take_of_length_le→cV
open List.Perm renaming append_left→fZ,append_right→mE,cons→χ,refl→aM
open List.Sublist renaming refl→bT
open List.cons renaming injEq→fW
open Nat renaming add_assoc→RK,add_mul→cC,add_zero→gY,beq→bM,ble→cK,blt→aZ,eq_of_beq_eq_true→aX,eq_zero_or_pos→lh,le_of_ble_eq_true→bS,le_refl→Φ,le_succ→CU,le_trans→eJ,lt_irrefl→RJ,lt_or_ge→fU,ne_of_beq_eq_false→fw,zero_add→cH,zero_le→fM,zero_mul→mD
open Option renaming bind→κ,bind_some→δ,isSome_none→lG,map_none→oE,map_some→dQ
open Option.some renaming injEq→aA
open Or renaming inl→fi,inr→fh
open Sum renaming elim→Ω,elim_inl→Γ,elim_inr→ς
open UInt8 renaming ofNat→il
namespace Go.Proofs.YticifeeokcgfkaaGreatDoor.Ab
section
open Go Go.RowKit
set_option maxHeartbeats 4000000
set_option maxRecDepth 100000
def PF (b:Nat)(w:aL)(a:w.cell? ⟨b,0,none⟩=some (.pointer none))(hsh:w.shape? b=some (65,2))(hfz:w.frozen? ⟨b,0,none⟩=false) :
  Calls Tryz.prog 55 #[.pointer (some ⟨b,0,none⟩)] w fun e w'=>e=.returned (.tuple #[])∧w'=w.setCell ⟨b,0,none⟩ (.pointer (some ⟨b,0,none⟩)):=by
 obtain ⟨j,hj,hjs⟩:=mr;go_enter Tryz.func55,Tryz.ntmps55;go_wp2;rw [Lib.run_to_unsafe w ⟨b,0,none⟩ (by kernel_rfl) (by kernel_rfl) hj (by rw [hjs];decide) hsh (Nat.zero_lt_succ 1)];simp only [fE];rw [fT];go_wp2;rw [run_callFunc_extern Tryz.func88 (by kernel_rfl) (by kernel_rfl) (by kernel_rfl) (e:=RG) (by kernel_rfl)];rw [Lib.run_noEscape];simp only [fE];rw [fT];go_wp2;rw [Lib.run_from_unsafe w ⟨b,0,none⟩ (by kernel_rfl) (by kernel_rfl) hj hsh (by kernel_rfl)];simp only [fE];rw [fT];go_wp2;go_end0;exact ⟨rfl,rfl⟩
def ur {H:Hp}{d0 c:D}{us:List ω}(h:Reps H [d0,c] us):∃ a b,us=[a,b]∧(RepC H d0 [a]∧one a=true∧d0.flat=true)∧(RepC H c [b]∧one b=true∧c.flat=true):=by
 simp only [Reps] at h;obtain ⟨a,_,rfl,d,b,_,rfl,h1,rfl⟩:=h;exact ⟨a,b,rfl,d,h1⟩
abbrev ES (b:Kal)(a:Nat)(z:Z3):List (Nat×Blk):=[(a,Blk.cells [.slf a,.v (SL z)] 65),(0,Blk.opq (c8 5 b.gz z))]
def vM (b a z):Cd 55 [.ptr a 0] (ES b a z) [] (fun d h k=>d=.tup []∧h=ES b a z∧k=[]):=by
 refine ⟨⟨_,Tryz.func55,rfl,rfl⟩,fun H w vs hv hA hb ht hnd=>?_⟩;simp only [RepsV] at hv;obtain ⟨u,us,rfl,hu,rfl⟩:=hv;have:=s8 hu;subst this;have c:=qZ hA hb ht hnd;obtain ⟨us,h1,h2,m⟩:=hb _ (fV ..);obtain ⟨n,f,rfl,g,l⟩:=ur h2;have htup:Rep H (.tup []) (.tuple #[]):=⟨⟨[],rfl,rfl⟩,rfl⟩;have q:=g.1;simp only [RepC,fW,and_true] at q;rcases q with rfl|rfl;refine (PF a w (by simp [aO,h1]) (by simp [World.shape?,h1]) (by simp [jp,h1])).mono fun e w' ⟨he,hw⟩=>?_;subst hw;refine ⟨_,H,.tup [],_,[],he,htup,?_,rfl,rfl,rfl⟩;have:=c.write (w':=w.setCell ⟨a,0,none⟩ (.pointer (some ⟨a,0,none⟩))) (j:=0) (us':=[.pointer (some ⟨a,0,none⟩),f]) (ds':=[.slf a,.v (SL z)]) rfl ⟨rfl,rfl,rfl,Φ _⟩ IK (fun i hi=>by rw [heap_set,aF (fun q=>hi q.symm)]) (by rw [heap_set,aQ rfl,h1];rfl)
  ⟨_,_,rfl,⟨by simp [RepC],rfl,rfl⟩,_,_,rfl,l,rfl⟩
 exact this;refine (LN a w (by simp [aO,h1])).mono fun e w' ⟨he,hw⟩=>?_;subst hw;exact ⟨_,H,.tup [],_,[],he,htup,c,rfl,rfl,rfl⟩
def sC (b g cap:Nat)(a:ω)(cs:Array ω)(l:List aC)(w:aL)(c:l≠[])(hbk:w.heap[b]? = some (.cells #[a,.slice (some ⟨g,0,none⟩) l.length cap] 65 (0,0)))(hbg:w.heap[g]? = some (.cells cs 5 (0,0)))(hcap:l.length≤cap)(hlen:l.length≤cs.size)(hmax:l.length≤9223372036854775807)(hcell:∀ (j:Nat) x,l[j]? = some x→w.cell? ⟨g,j,none⟩=some (.int .u8 x.toNat)) :
  Calls Tryz.prog 27 #[.pointer (some ⟨b,0,none⟩)] w fun e w'=>e=.returned (.string ⟨l.toArray⟩)∧w'=w.drew.freeze ⟨g,0,none⟩ l.length:=by
 have d:l.length≠0:=by simpa using c
 have c1:w.drew.cell? ⟨b,1,none⟩=some (.slice (some ⟨g,0,none⟩) l.length cap):=by have:w.drew.heap[b]? = some (.cells #[a,.slice (some ⟨g,0,none⟩) l.length cap] 65 (0,0)):=hbk;rw [Lib.cell_of_heap this];rfl
 have hSD:(Builtin.unsafeSliceData_ #[32] 116 #[.slice (some ⟨g,0,none⟩) l.length cap]).run Tryz.prog w.drew=.ok (.pointer (some ⟨g,0,none⟩)) w.drew:=
  Lib.run_unsafeSliceData_row _ _ _ _ _ _ (by omega)
 have hUS:(Builtin.unsafeString_ #[116,3] 9 #[.pointer (some ⟨g,0,none⟩),.int .i64 l.length]).run Tryz.prog w.drew=.ok (.string ⟨l.toArray⟩) (w.drew.freeze ⟨g,0,none⟩ l.length):=
  Lib.run_unsafeString_row w.drew 116 3 9 5 (by kernel_rfl) (by kernel_rfl) g cs.size (by have hg':w.drew.heap[g]? = some (.cells cs 5 (0,0)):=hbg;simp [World.shape?,hg']) l c (by omega) (by omega) (fun j x hx=>by have:=hcell j x hx;simp only [Addr.add_lit,cH];exact this)
 go_enter Tryz.func27,Tryz.ntmps27;go_wp2;go_region;all_goals (go_wp2;go_ret;exact ⟨rfl,rfl⟩)
def xu (m:Kal):η×Kal:=(⟨m.gz.toArray⟩,m)
def o5 (m:Kal):Bool:=!m.gz.isEmpty && decide (m.gz.length≤9223372036854775807)
def xr (c d z)(i:o5 c=true):Cd 27 [.ptr d 0] (ES c d z) [] (eN (.v (.string (xu c).1)) d [.slf d,.any] 65):=by
 refine ⟨⟨_,Tryz.func27,rfl,rfl⟩,fun H w vs hv hA hb ht hnd=>?_⟩;simp only [o5,aR,Bool.not_eq_true',List.isEmpty_eq_false_iff,bJ] at i;simp only [RepsV] at hv;obtain ⟨u,us,rfl,hu,rfl⟩:=hv;have:=s8 hu;subst this;obtain ⟨us,h1,h2,r⟩:=hb _ (fV ..);obtain ⟨l,C,rfl,s,t⟩:=ur h2;have q:=t.1;simp only [RepC,fW,and_true] at q;subst q;have hq:(c8 5 c.gz z).Q H w:=hb _ (List.mem_cons_of_mem _ (fV ..));obtain ⟨hrow,hty⟩:=hq;rcases hrow with ⟨a,_,e⟩|⟨g,m,us,rest,T,e,o,y,k1,k2,F,G⟩;exact bH (by simpa using e) i.1;obtain ⟨_,cs,hcs⟩:=hty _ _ _ e;rw [k1] at hcs;simp only [aA,mC,and_true] at hcs;obtain ⟨hcs,rfl⟩:=hcs;rw [b6] at e o;have hus:=Jl k2;rw [e] at h1;have hM:K4 (ES c d z) []=[d,g]:=by
  have:ii (SL z)=[g]:=by rw [e];simp [ii,y]
  simp [K4,eQ,c8,this]
 rw [hM] at hnd;have hne:d≠g:=by simpa using hnd
 refine (sC d g m l _ c.gz w i.1 h1 k1 o (by rw [← b6 (f:=fun b:aC=>g7 .u8 b.toNat),← hus];simp) i.2 (fun j x hx=>?_)).mono fun e' w' ⟨he,hw⟩=>?_;have:us[j]? = some (.int .u8 x.toNat):=by rw [hus];simp [hx]
 simp only [aO,k1,lG,cP,bE,cR];rw [cI (aP.1 this).1];exact this;subst hw;obtain ⟨f1,A⟩:=Jn w.drew ⟨g,0,none⟩ c.gz.length;have hdr:∀ k,k≠g→(w.drew.freeze ⟨g,0,none⟩ c.gz.length).heap[k]? = w.heap[k]?:=fun k hk=>by rcases Kgm (w:=w.drew) (a:=⟨g,0,none⟩) (n:=c.gz.length) (k:=k) with h|⟨h,_⟩;rw [h];rfl;exact bH h.symm (by simpa using hk)
 rw [hM];refine ⟨_,H,_,_,[],he,dA rfl,⟨⟨fun a v B=>by rw [Jw];exact hA a v B,Jh (hA.gg.step (Hp.le_refl H) rfl)⟩,Hp.le_refl H,fun _ _ x=>.inl x,fun k _ hk=>hdr k (fun q=>hk (by simp [q])),by rw [A];exact Φ _,?_,by simp,by simp [K4,eQ],by simp [K4,eQ],Env.trans (b:=w.drew) ⟨rfl,rfl,rfl,Φ _⟩ f1⟩,rfl,rfl,rfl⟩;intro p hp;simp only [aT] at hp;subst hp;exact ⟨[l,.slice (some ⟨g,0,none⟩) c.gz.length m],by rw [hdr _ hne];exact h1,⟨_,_,rfl,s,_,_,rfl,⟨by simp [RepC],rfl,rfl⟩,rfl⟩,r⟩
end
section
open Go Go.RowKit
set_option maxHeartbeats 4000000
set_option maxRecDepth 100000
def pX (b cap:Nat)(a:Option Addr)(ha:a=none∨cap≠0)(c:ω)(w:aL)(hbk:w.heap[b]? = some (.cells #[c,.slice a 0 cap] 65 (0,0))) :
  Calls Tryz.prog 27 #[.pointer (some ⟨b,0,none⟩)] w fun e w'=>e=.returned (.string ε)∧w'=w.drew:=by
 have c1:w.drew.cell? ⟨b,1,none⟩=some (.slice a 0 cap):=by have:w.drew.heap[b]? = some (.cells #[c,.slice a 0 cap] 65 (0,0)):=hbk;rw [Lib.cell_of_heap this];rfl
 have hSD:(Builtin.unsafeSliceData_ #[32] 116 #[.slice a 0 cap]).run Tryz.prog w.drew=.ok (.pointer a) w.drew:=by
  cases a with
  | none=>exact Lib.run_unsafeSliceData_nil _ _ _ _ _
  | some a=>exact Lib.run_unsafeSliceData_row _ _ _ _ _ _ (by rcases ha with h|h;cases h;exact h)
 have hUS:(Builtin.unsafeString_ #[116,3] 9 #[.pointer a,.int .i64 0]).run Tryz.prog w.drew=.ok (.string .empty) w.drew:=Lib.run_unsafeString_none _ _ _ _ _;go_enter Tryz.func27,Tryz.ntmps27;go_wp2;go_region;all_goals (go_wp2;go_ret;exact ⟨rfl,rfl⟩)
def qj (m:Kal):Bool:=decide (m.gz.length≤9223372036854775807)
def tV (d b z)(h:qj d=true):Cd 27 [.ptr b 0] (ES d b z) [] (eN (.v (.string (xu d).1)) b [.slf b,.any] 65):=by
 obtain ⟨l⟩:=d;cases l with
 | cons c l=>exact xr ⟨c::l⟩ b z (by simpa [o5,qj] using h)
 |
  nil=>
  refine ⟨⟨_,Tryz.func27,rfl,rfl⟩,fun H w vs hv hA hb ht hnd=>?_⟩;simp only [RepsV] at hv;obtain ⟨u,us,rfl,hu,rfl⟩:=hv;have:=s8 hu;subst this;have r:=hb;obtain ⟨us,h1,h2,i⟩:=hb _ (fV ..);obtain ⟨f,s,rfl,j,n⟩:=ur h2;have q:=n.1;simp only [RepC,fW,and_true] at q;subst q;have hq:(c8 5 ([]:List aC) z).Q H w:=hb _ (List.mem_cons_of_mem _ (fV ..));obtain ⟨hrow,hty⟩:=hq;have hz:∃ a cap,SL z=.slice a 0 cap∧(a=none∨cap≠0):=by
   rcases hrow with ⟨a,e,_⟩|⟨g,m,us,rest,T,e,t,y,_⟩
   ·refine ⟨a,0,e,?_⟩;cases a with
    | none=>exact .inl rfl
    | some a=>exact bH (hty _ _ _ e).1 (by decide)
   exact ⟨_,m,e,.inr (by omega)⟩
  obtain ⟨a,cap,e,ha⟩:=hz;rw [e] at h1;refine (pX b cap a ha f w h1).mono fun e' w' ⟨he,hw⟩=>?_
  subst hw;have hn:(K4 [(b,Blk.cells [.slf b,.any] 65)] []).Nodup:=by simp [K4,eQ]
  refine ⟨_,H,_,_,[],he,dA rfl,⟨⟨fun a v o=>hA a v o,hA.gg.step (Hp.le_refl H) rfl⟩,Hp.le_refl H,fun _ _ x=>.inl x,fun k _ hk=>rfl,Φ _,?_,by simp,hn,?_,⟨rfl,rfl,rfl,Φ _⟩⟩,rfl,rfl,rfl⟩
  ·intro p hp;simp only [aT] at hp;subst hp;exact ⟨[f,.slice a 0 cap],h1,⟨_,_,rfl,j,_,_,rfl,⟨by simp [RepC],rfl,rfl⟩,rfl⟩,i⟩
  intro x hx;simp [K4,eQ] at hx;subst hx;exact .inl (by simp [K4,eQ])
end
section
open Go
def kl (Zc:Int×Int→List e8){ρ:Type}(P:aJ)(f:FuncId)(ds:List D)(h:List (Nat×Blk))(k:List (Nat×ω))(pr:(Int×Int)⊕ρ)(R:ρ→D→List (Nat×Blk)→List (Nat×ω)→Prop):Prop:=
 match pr with
 | .inr r=>CallsD P f ds h k (R r)
 |
  .inl pe=>sQ P f∧∀ H w vs,RepsV H ds vs→Ag H w→(∀ p∈h,BlkOK H w p)→(∀ p∈k,TokOK H w p)→(K4 h k).Nodup →
  Calls P f vs.toArray w fun e w'=>e=.panicked (Zc pe)∧∃ H',Core ⟨H,w,K4 h k⟩ H' [] [] w'
def A4 (Zc:Int×Int→List e8){ρ:Type}(C:Ctx)(tab:List (Option TI))(rs:List dM)(R:ρ→D→List (Nat×Blk)→List (Nat×ω)→Prop)(pr:(Int×Int)⊕ρ)(x:dH)(s:S):Prop:=
 match pr with
 | .inr r=>retX C tab rs (R r) x s
 | .inl pe=>x=.panic (Zc pe)
section
variable {Zc:Int × Int→List e8}{ρ:Type}{P:aJ}{C:Ctx}{N:Nat}{tab:List (Option TI)}{ops rest:List bG}{o:bG}{t:List (Nat × D)}{h:List (Nat × Blk)}{k:List (Nat × ω)}{Q:dH→S→Prop}
def oK {R:ρ→D→List (Nat×Blk)→List (Nat×ω)→Prop}{rs:List dM}{r:ρ}{x:dH}{s:S}(g:retX C tab rs (R r) x s):A4 Zc C tab rs R (.inr r) x s:=g
def DI {R:ρ→D→List (Nat×Blk)→List (Nat×ω)→Prop}{rs:List dM}{pe:Int×Int}{s:S}:A4 Zc C tab rs R (.inl pe) (.panic (Zc pe)) s:=rfl
def oM {next:S→Prop}{s:S}{c:List e8}(g:Q (.panic c) s):i6 next Q (.panic c) s:=g
def mB {s:S}{j:Nat}{c:List e8}(g:Q (.panic c) s):BL j Q (.panic c) s:=g
def gO {τ ρ' Y:Type}{S1:τ→Y→S}{s:S}{r:ρ'}{c:List e8}(g:Q (.panic c) s):x7 C S1 Q (.inr r) (.panic c) s:=g
def Rp {R:ρ→D→List (Nat×Blk)→List (Nat×ω)→Prop}{pr:(Int×Int)⊕ρ}(ht:bO P tab){f:FuncId}{fn:Func}{c:Code}{ds:List D}{rs:List dM}
  (hf : P.funcs[f]? = some fn) (hb : fn.body = some c) (hn : (fn.name == "runtime.NumGoroutine") = false) {N : Nat} (hN : fn.ntmps = N) (hl : cK ds.length N = true) (hrs : fn.results.toList = rs)
  (hw:∀ C,h8 P C N c ⟨pZ 0 ds,h,k⟩ (A4 Zc C tab rs R pr)):kl Zc P f ds h k pr R:=by
 cases pr with
 | inr r=>exact KV ht hf hb hn hN hl hrs hw
 |
  inl pe=>
  subst hN;subst hrs;refine ⟨⟨fn,hf,hn,by simp [hb]⟩,fun H w vs h1 h2 g j l=>?_⟩;have hlen:=HO h1;have hle:=bS hl;refine calls_of_wp hf hb (wp_mono (hw ⟨H,w,K4 h k⟩ _ _ ⟨H,?_,?_,?_,rfl⟩) ?_)
  ·exact ⟨h2,Hp.le_refl H,fun _ _ x=>.inl x,fun _ _ _=>rfl,Φ _,g,j,l,fun b hb=>.inl hb,Env.refl w⟩
  ·intro i d e;obtain ⟨n,rfl,hn⟩:=Ji ds 0 i d e;obtain ⟨u,a,m⟩:=Hd h1 hn;refine ⟨u,?_,m⟩;have hlt:n<vs.length:=(aP.1 a).1;simp only [cH];rw [Array.getElem?_append_left (by simpa using hlt)];simpa using a
  ·simp;omega
  rintro e a' w' ⟨s',⟨H',c',k',hN,hdf⟩,hx⟩;have hx':e=.panic (Zc pe):=hx;subst hx';exact ⟨hdf,rfl,H',c'.drop (eC _) (eC _)⟩
def i9 {f:FuncId}{args:List aH}{ts:Array aD}{ds ds':List D}{h1 h2:List (Nat×Blk)}{k1 k2:List (Nat×ω)}{pe:Int×Int}{R:ρ→D→List (Nat×Blk)→List (Nat×ω)→Prop}
  (hc:kl Zc P f ds' h1 k1 (.inl pe) R) (ho:o.op=.call ⟨.value (.func f),args.toArray,ts⟩) (hw:bC ops t o=some true) (ha:kp args (cS t)=some ds) (hwk:WkL ds ds')
  (hh:h.Perm (h1++h2)) (hk:k.Perm (k1++k2)) (g:Q (.panic (Zc pe)) ⟨[],[],[]⟩):a1 P C N ops (o::rest) ⟨t,h,k⟩ Q:=by
 rintro a w ⟨H,c,kt,hN,hdf⟩;obtain ⟨hg,hc⟩:=hc;unfold wpList;rw [sZ kt hw,aQ rfl];refine .inl ?_;unfold ku;rw [GM ho hg,Oper.upon_enter];have c0:=c.perm hh hk;have nd:=(y0 h1 h2 k1 k2).nodup_iff.1 c0.nd;rw [zh] at nd;have hv:=hwk H _ (An kt ha);have:=hc H w _ hv c.ag (fun p hp=>c0.blks p (cF _ hp)) (fun p hp=>c0.toks p (cF _ hp)) nd.1;rw [List.map_toArray];refine this.mono ?_;rintro e w' ⟨rfl,H',hcore⟩;simp only [];refine ⟨⟨[],[],[]⟩,⟨H',?_,fun i d e=>by simp [dL] at e,hN,hdf⟩,g⟩;have:=Core.call (h1':=[]) (k1':=[]) c0 hcore;exact this.drop (eC _) (eC _)
end
end
section
open Go
def Jk {H:Hp}{k:Nat}:∀ (n:Nat) {xs:List D} {us:List ω},FlatR H k xs us→∃ a b,us=a++b∧FlatR H k (xs.take n) a∧FlatR H k (xs.drop n) b
 | 0,xs,us,h=>⟨[],us,rfl,rfl,h⟩
 |
  n+1,[],us,h=>by
  have:us=[]:=h;subst this;exact ⟨[],[],rfl,rfl,rfl⟩
 |
  n+1,x::xs,us,h=>by
  obtain ⟨v1,v2,rfl,hl,h1,c⟩:=h;obtain ⟨a,b,rfl,d,e⟩:=Jk n c;exact ⟨v1++a,b,by simp,⟨v1,a,rfl,hl,h1,d⟩,e⟩
section
variable {P:aJ}{C:Ctx}{N:Nat}{ops rest:List bG}{o:bG}{t:List (Nat × D)}{h:List (Nat × Blk)}{k:List (Nat × ω)}{Q:dH→S→Prop}{tab:List (Option TI)}
def Core.reblk {H:Hp}{w:aL}(c:Core C H h k w){j:Nat}{p q:Nat×Blk}(hj:h[j]? = some p)(hc:eQ q=eQ p)(hq:BlkOK H w q):Core C H (h.set j q) k w:=by
 have hcl:=Jr (k:=k) hj hc;refine ⟨c.ag,c.le,c.new,c.same,c.size,fun x hx=>?_,c.toks,by rw [hcl];exact c.nd,by rw [hcl];exact c.own,c.env⟩;rcases List.mem_or_eq_of_mem_set hx with hx|rfl;exact c.blks x hx;exact hq
def uB {α:Type}{f:α→D}{i kk r:Nat}{T e:aD}{x:aH}{hi:Option aH}{n':Option Int}{xs ys:List α}{n:Int}{z:Z3}{y tie:TI}(j:Nat)(q:eP xs 0 n=some ys)(hT:bO P tab)(ho:o.op=.slice T x none hi none)(hw:bC ops t o=some true)(hd:o.dst=some i)(G:aZ i N=true)
  (hx:cS t x=some (.v (SL z))) (hj:h[j]? = some (r,.row kk (xs.map f) (SL z))) (I:gU t hi=some n') (hti:ti tab T=some y) (hs:y.d=.slice e) (hte:ti tab e=some tie) (hk:tie.size=kk) (h2:n'.getD (xs.length:Int)=n)
  (g:∀ z':Z3,a1 P C N ops rest ⟨(i,.v (SL z'))::t,h.set j (0,.row kk (ys.map f) (SL z')),k⟩ Q):a1 P C N ops (o::rest) ⟨t,h,k⟩ Q:=by
 obtain ⟨p,W,J,K,L⟩:=E3 q;simp only [Int.toNat_zero,DL,Nat.sub_zero] at p K;generalize hn:n.toNat=M at *;subst J;refine ko (s:=⟨t,h,k⟩) hw hd G fun H a w c kt=>?_;obtain ⟨d,A,O⟩:=iY (w:=w) (b4 hT hti);have:=lB (O.trans hs);subst this;have hb:=c.blks _ (a4 hj);have hxv:=eW (eh kt hx);have key:∀ ad m,SL z=.slice ad xs.length m→xs.length≤m→(bL a.eval o).run P w=.ok (.value (.slice (if m=0 then ad else ad.map (·.add (0*kk))) (M-0) (m-0))) w:=by intro ad m hy B;unfold bL;rw [ho];refine iC ?_;rw [hxv,hy];unfold Instr.sliceAt;rw [KL A];simp only [Instr.slice];rw [KL A];have:=Hk (P:=P) (w:=w) kt (isS:=true) (len:=xs.length) (cap:=m) (lo:=none) (l:=0) (mx:=none) (m':=none) (m:=m) (l':=none) rfl I rfl rfl h2 rfl (fun x=>bH rfl x) (fM _) (by omega) (Φ _);simp only [oE] at this ⊢;simp only [mw,mJ,this,lD (b4 hT hte),hk]
 rcases hb with ⟨a0,hy,hnil⟩|⟨b,m,us,rs,T',hy,F,B,h1,hf,hr,hH⟩;have hxs:xs=[]:=by simpa using hnil
 subst hxs;simp only [aB] at L;have hM:M=0:=by omega
 subst hM;have hys:ys=[]:=by rw [p];rfl
 subst hys;have u:=key a0 0 hy (Φ _);refine ⟨_,_,H,_,_,_,u,Hp.le_refl H,?_,?_,g (a0,0,0)⟩;exact c.reblk hj (by rw [show eQ (0,Blk.row kk (([]:List α).map f) (SL (a0,0,0)))=ii (SL (a0,0,0)) from rfl,show eQ (r,Blk.row kk (([]:List α).map f) (SL z))=ii (SL z) from rfl,hy]) (.inl ⟨a0,rfl,rfl⟩);exact dA rfl;simp only [b6] at hy F;have u:=key _ m hy F;rw [aF (by omega)] at u;simp only [dQ,oJ,mD,gY,Nat.sub_zero] at u;obtain ⟨R,U,rfl,V,_⟩:=Jk M hf;refine ⟨_,_,H,_,_,_,u,Hp.le_refl H,?_,?_,g (some ⟨b,0,none⟩,M,m)⟩;refine c.reblk hj ?_ (.inr ⟨b,m,R,U++rs,T',?_,?_,B,by rw [← aS];exact h1,?_,by rw [← aS];exact hr,hH⟩);rw [show eQ (0,Blk.row kk (ys.map f) (SL (some ⟨b,0,none⟩,M,m)))=ii (SL (some ⟨b,0,none⟩,M,m)) from rfl,show eQ (r,Blk.row kk (xs.map f) (SL z))=ii (SL z) from rfl,hy];rfl;rw [p];simp [SL];omega;rw [p];simp;omega;rw [p,List.map_take];exact V;exact dA rfl
end
end
section
open Go
section
variable {P:aJ}{C:Ctx}{N:Nat}{ops rest:List bG}{o:bG}{t:List (Nat × D)}{h:List (Nat × Blk)}{k:List (Nat × ω)}{Q:dH→S→Prop}{tab:List (Option TI)}
end
def Bj:D→D→Option Bool
 | .ptr _ _,.v (.pointer none)=>some false
 | .v (.pointer none),.ptr _ _=>some false
 | .el _,.v (.pointer none)=>some false
 | .v (.pointer none),.el _=>some false
 | .v (.pointer none),.v (.pointer none)=>some true
 | _,_=>none
section
variable {P:aJ}{C:Ctx}{N:Nat}{ops rest:List bG}{o:bG}{t:List (Nat × D)}{h:List (Nat × Blk)}{k:List (Nat × ω)}{Q:dH→S→Prop}{tab:List (Option TI)}
def DQ {op:BinOp}{neg:Bool}{xt yt:aD}{x y:aH}{c:TI}{el:Nat}{dx dy:D}{b:Bool}(hT:bO P tab)(ho:o.op=.binOp op xt x y yt)
  (hop:lr op=some neg) (hx:cS t x=some dx) (hy:cS t y=some dy) (hti:ti tab xt=some c) (hs:c.d=.ptr el) (e:Bj dx dy=some b):∀ H a w,TOK H t a→∃ v,(bL a.eval o).run P w=.ok (.value v) w∧Rep H (.v (.bool (bif neg then !b else b))) v:=
 fun H a w kt=>by
  refine ⟨.bool (bif neg then !b else b),?_,dA rfl⟩;have hu:=eh kt hx;have hv:=eh kt hy;obtain ⟨dd,f,g⟩:=iY (w:=w) (b4 hT hti);have:=AP (g.trans hs);subst this;have key:∃ p q:Option Addr,a.eval x=.pointer p∧a.eval y=.pointer q∧((p=none∧b=q.isNone)∨(q=none∧b=p.isNone)):=by
   unfold Bj at e;split at e
   ·obtain ⟨h1,h2⟩:=hu;have:=eW hv;simp only [RepC] at h1;cases hq:a.eval x<;>rw [hq] at h1 h2<;>simp [D.shape,cT] at h1 h2;subst h1;simp only [aA] at e;subst e;exact ⟨_,_,rfl,this,.inr ⟨rfl,rfl⟩⟩
   ·obtain ⟨h1,h2⟩:=hv;have:=eW hu;simp only [RepC] at h1;cases hq:a.eval y<;>rw [hq] at h1 h2<;>simp [D.shape,cT] at h1 h2;subst h1;simp only [aA] at e;subst e;exact ⟨_,_,this,rfl,.inl ⟨rfl,rfl⟩⟩
   ·obtain ⟨h1,h2⟩:=hu;have:=eW hv;simp only [RepC] at h1;obtain ⟨_,_,_,h1,_⟩:=h1;cases hq:a.eval x<;>rw [hq] at h1 h2<;>simp [D.shape,cT] at h1 h2;subst h1;simp only [aA] at e;subst e;exact ⟨_,_,rfl,this,.inr ⟨rfl,rfl⟩⟩
   ·obtain ⟨h1,h2⟩:=hv;have:=eW hu;simp only [RepC] at h1;obtain ⟨_,_,_,h1,_⟩:=h1;cases hq:a.eval y<;>rw [hq] at h1 h2<;>simp [D.shape,cT] at h1 h2;subst h1;simp only [aA] at e;subst e;exact ⟨_,_,this,rfl,.inl ⟨rfl,rfl⟩⟩
   ·have h1:=eW hu;have h2:=eW hv;simp only [aA] at e;subst e;exact ⟨_,_,h1,h2,.inl ⟨rfl,rfl⟩⟩
   cases e
  obtain ⟨p,q,i,j,l⟩:=key;have hq:(AA xt (.pointer p) (.pointer q)).run P w=.ok b w:=by
   show (oQ (9999+1) xt _ _).run P w=_
   rw [oQ,KL f];rcases l with ⟨rfl,rfl⟩|⟨rfl,rfl⟩
   ·rfl
   cases p<;>rfl
  unfold bL;rw [ho];refine iC ?_;rw [i,j];have hg:(eqGuard op xt x y (.pointer p) (.pointer q)).run P w=.ok () w:=by
   cases op<;>simp [eqGuard]
  rw [KL hg];cases op<;>simp [lr] at hop<;>subst hop
  ·show (do pure (Value.bool (← AA xt _ _)):Sem ω).run P w=_
   rw [KL hq];rfl
  show (do pure (Value.bool (!(← AA xt _ _))):Sem ω).run P w=_
  rw [KL hq];rfl
def Ez {i:Nat}{op:BinOp}{neg:Bool}{xt yt:aD}{x y:aH}{a:TI}{el:Nat}{dx dy:D}{b:Bool}(hT:bO P tab)(ho:o.op=.binOp op xt x y yt)(hw:bC ops t o=some true)(hd:o.dst=some i)(hi:aZ i N=true)
  (hop:lr op=some neg) (hx:cS t x=some dx) (hy:cS t y=some dy) (hti:ti tab xt=some a) (hs:a.d=.ptr el) (e:Bj dx dy=some b)
  (g:a1 P C N ops rest ⟨(i,.v (.bool (bif neg then !b else b)))::t,h,k⟩ Q):a1 P C N ops (o::rest) ⟨t,h,k⟩ Q:=
 mH (s:=⟨t,h,k⟩) hw hd hi (DQ hT ho hop hx hy hti hs e) g
end
end
section
open Go
def Fd (tab:List (Option TI))(ts:List Nat):Nat→List (Nat×Nat)→Option Nat
 | off,[]=>some off
 |
  off,(ty,o)::fs=>match ti tab ty with
  | some i=>bif bM o off && ts.contains ty then Fd tab ts (off+i.size) fs else none
  | none=>none
def oV (tab:List (Option TI))(ts:List Nat)(t:Nat):Bool:=
 match ti tab t with
 |
  some i=>match i.d with
  | .bool=>bM i.size 1
  | .int _=>bM i.size 1
  | .str=>bM i.size 1
  | .slice e=>ts.contains e && bM i.size 1 && (match ti tab e with|some ie=>cK 1 ie.size|none=>false)
  |
   .struct fs=>match Fd tab ts 0 fs with
   | some n=>bM n i.size
   | none=>false
  | .array n e=>ts.contains e && (match ti tab e with|some ie=>bM i.size (n*ie.size)|none=>false)
  | _=>false
 | none=>false
def mq (tab:List (Option TI))(ts:List Nat):Bool:=ts.all (oV tab ts)
def dN (tab:List (Option TI)):Nat→Nat→D→Prop
 | 0,_,_=>False
 |
  n+1,t,d=>∃ i,ti tab t=some i∧match i.d with
  | .bool=>∃ b,d=.v (.bool b)
  | .int k=>∃ m,d=.v (.int k m)∧(Lit.int k m).wf=true
  | .str=>∃ s:η,d=.v (.string s)∧s.size≤maxLen
  | .slice e=>∃ ie xs,ti tab e=some ie∧d=.lst ie.size xs .no∧xs.length≤maxLen∧∀ x∈xs,dN tab n e x
  | .struct fs=>∃ ds:List D,d=.agg (ds.flatMap eK)∧ds.length=fs.length∧∀ (j:Nat) (f:Nat×Nat) (d0:D),fs[j]? = some f→ds[j]? = some d0→dN tab n f.1 d0
  | .array m e=>∃ ds:List D,d=.agg (ds.flatMap eK)∧ds.length=m∧∀ x∈ds,dN tab n e x
  | _=>False
section
variable {H:Type}{enc:aD × ω→H}{P:aJ}{w:aL}{base:Nat}{spare:Nat→Bool}{held:Bool}{tab:List (Option TI)}{ts:List Nat}
def Fk (hT:bO P tab){t:aD}{i:TI}(h:ti tab t=some i):P.cellsOf t=i.size:=by
 obtain ⟨tf,z,dd,h1,_,_,h2,_⟩:=BU (b4 hT h);simp [Program.cellsOf,h1,h2]
def allOf (w:aL):Hp:=fun a=>w.cell? a
def ag_all (w:aL)(g:GG (allOf w) w):Ag (allOf w) w:=⟨fun _ _ h=>h,g⟩
def Rd (tab:List (Option TI))(w:aL)(n t:Nat)(cs:List ω)(d:D):Prop:=
 ∃ i,ti tab t=some i∧RepC (allOf w) d cs∧Reps (allOf w) (eK d) cs∧cs.length=i.size∧(eK d).length=i.size∧dN tab n t d
def LM (hT:bO P tab){n:Nat}{cs:List ω}(ih:∀ t cs x,ts.contains t=true→jB enc P w base spare held n t cs=some x→∃ d,Rd tab w n t cs d) :
  ∀
   (gs:List Field) (off total:Nat),Fd tab ts off (gs.map fun f=>(f.type,f.offset))=some total→total≤cs.length→(∀ f∈gs,∃ y,jB enc P w base spare held n f.type ((cs.drop f.offset).take (P.cellsOf f.type))=some y) →
   off≤total∧∃ ds:List D,ds.length=gs.length∧Reps (allOf w) (ds.flatMap eK) ((cs.drop off).take (total-off))∧(ds.flatMap eK).length=total-off∧∀ (j:Nat) (f:Nat×Nat) (d0:D),(gs.map fun f=>(f.type,f.offset))[j]? = some f→ds[j]? = some d0→dN tab n f.1 d0
 |
  [],off,total,h,_,_=>by
  simp [Fd] at h;subst h;exact ⟨Φ _,[],rfl,by simp [Reps],by simp,fun j f d0 e=>by simp at e⟩
 |
  g::gs,off,total,h,hl,hy=>by
  simp only [a7,Fd] at h;split at h
  ·rename_i i hi;cases hb:(bM g.offset off && ts.contains g.type) with
   | false=>rw [hb] at h;cases h
   |
    true=>
    rw [hb] at h;simp only [ξ] at h;simp only [aR] at hb;have ho:=aX hb.1;obtain ⟨y,a⟩:=hy g (by simp);obtain ⟨d,i',hi',h1,h2,p,b,c⟩:=ih _ _ y hb.2 a;rw [hi] at hi';cases hi';obtain ⟨hle,ds,k,l,m,o⟩:=LM hT ih gs (off+i.size) total h hl fun f hf=>hy f (by simp [hf])
    rw [Fk hT hi,ho] at h2;refine ⟨by omega,d::ds,by simp [k],?_,by simp [b,m];omega,?_⟩
    ·simp only [cA];have:=Fx h2 l;have e:(cs.drop off).take i.size++(cs.drop (off+i.size)).take (total-(off+i.size))=(cs.drop off).take (total-off):=by
      rw [show total-off=i.size+(total-(off+i.size)) by omega,List.take_add,List.drop_drop]
     rwa [e] at this
    intro j f d0 hf hd;cases j with
    | zero=>simp at hf hd;subst hf;subst hd;exact c
    | succ j=>exact o j f d0 (by simpa using hf) (by simpa using hd)
  cases h
def nj {n e sz b off:Nat}{ie:TI}(hie:ti tab e=some ie)(hsz:ie.size=sz)(he:ts.contains e=true)(ih:∀ t cs x,ts.contains t=true→jB enc P w base spare held n t cs=some x→∃ d,Rd tab w n t cs d) :
  ∀
   (m a:Nat),(∀ i,a≤i→i<a+m→∃ cs y,w.cells? base ((⟨b,off,none⟩:Addr).add (i*sz)) sz=some cs∧jB enc P w base spare held n e cs=some y) →
   ∃ xs:List D,xs.length=m∧Els (allOf w) sz b (off+a*sz) xs∧∀ x∈xs,dN tab n e x
 | 0,a,_=>⟨[],rfl,by simp [Els],by simp⟩
 |
  m+1,a,h=>by
  obtain ⟨cs,y,h1,h2⟩:=h a (Φ _) (by omega);obtain ⟨d,i',hi',g1,c,f,o,g⟩:=ih e cs y he h2;rw [hie] at hi';cases hi';obtain ⟨xs,f1,k,l⟩:=nj hie hsz he ih m (a+1) fun i hi hi'=>h i (by omega) (by omega)
  refine ⟨d::xs,by simp [f1],?_,?_⟩
  ·simp only [Els];refine ⟨⟨cs,by rw [f,hsz],g1,fun j u hj=>?_,BV c⟩,?_⟩
   ·obtain ⟨_,hlen,hc⟩:=World.cells?_some h1;have hjl:j<sz:=by rw [← hlen];exact (aP.1 hj).1
    have:=hc j hjl;rw [oJ,oJ] at this;show w.cell? _=_
    rw [this];exact hj
   rw [show off+a*sz+sz=off+(a+1)*sz by rw [cC];omega];exact k
  intro x hx;rcases cX.1 hx with rfl|hx
  ·exact g
  exact l x hx
def uu {n e sz:Nat}{ie:TI}{cs:List ω}(hie:ti tab e=some ie)(hsz:ie.size=sz)(he:ts.contains e=true)(ih:∀ t cs x,ts.contains t=true→jB enc P w base spare held n t cs=some x→∃ d,Rd tab w n t cs d) :
  ∀
   (m a:Nat),(∀ i,a≤i→i<a+m→∃ y,jB enc P w base spare held n e ((cs.drop (i*sz)).take sz)=some y) →
   ∃ ds:List D,ds.length=m∧Reps (allOf w) (ds.flatMap eK) ((cs.drop (a*sz)).take (m*sz))∧(ds.flatMap eK).length=m*sz∧∀ x∈ds,dN tab n e x
 | 0,a,_=>⟨[],rfl,by simp [Reps],by simp,by simp⟩
 |
  m+1,a,h=>by
  obtain ⟨y,h2⟩:=h a (Φ _) (by omega);obtain ⟨d,i',hi',g1,b,o,c,f⟩:=ih e _ y he h2;rw [hie] at hi';cases hi';obtain ⟨ds,f1,g,j,k⟩:=uu hie hsz he ih m (a+1) fun i hi hi'=>h i (by omega) (by omega)
  refine ⟨d::ds,by simp [f1],?_,?_,?_⟩
  ·simp only [cA];have:=Fx b g;have l:(cs.drop (a*sz)).take sz++(cs.drop ((a+1)*sz)).take (m*sz)=(cs.drop (a*sz)).take ((m+1)*sz):=by
    rw [show (m+1)*sz=sz+m*sz by rw [cC];omega,List.take_add,List.drop_drop,show a*sz+sz=(a+1)*sz by rw [cC];omega]
   rwa [l] at this
  ·simp only [cA,υ,j,c,hsz];rw [cC];omega
  intro x hx;rcases cX.1 hx with rfl|hx
  ·exact f
  exact k x hx
def rd (hT:bO P tab)(hc:mq tab ts=true):∀ (n:Nat) (t:aD) (cs:List ω) (x:DataW H×List MemPlace),ts.contains t=true→jB enc P w base spare held n t cs=some x→∃ d,Rd tab w n t cs d:=by
 intro n;induction n with
 | zero=>intro t cs x _ h;simp [jB] at h
 |
  succ n ih=>
  intro t cs x ht h;have hok:oV tab ts t=true:=by
   unfold mq at hc;rw [bY] at hc;exact hc t (by simpa using ht)
  unfold oV at hok;split at hok
  ·rename_i i hi;obtain ⟨tf,z,dd,h1,h2,l,F,_⟩:=BU (b4 hT hi);split at hok
   ·rename_i hd;have hs:=aX hok;obtain ⟨b,rfl,_⟩:=DataW.trod_bool (by rw [h2,Gv (l.trans hd)]) h;refine ⟨.v (.bool b),i,hi,by simp [RepC],?_,by simp [hs],by simp [eK,hs],?_⟩
    ·simp only [eK,Reps];exact ⟨_,_,rfl,⟨by simp [RepC],rfl,rfl⟩,rfl⟩
    unfold dN;exact ⟨i,hi,by rw [hd];exact ⟨b,rfl⟩⟩
   ·rename_i k hd;have hs:=aX hok;obtain ⟨m,rfl,_,hwf⟩:=DataW.trod_int (by rw [h2,BN (l.trans hd)]) h;refine ⟨.v (.int k m),i,hi,by simp [RepC],?_,by simp [hs],by simp [eK,hs],?_⟩
    ·simp only [eK,Reps];exact ⟨_,_,rfl,⟨by simp [RepC],rfl,rfl⟩,rfl⟩
    unfold dN;exact ⟨i,hi,by rw [hd];exact ⟨m,rfl,hwf⟩⟩
   ·rename_i hd;have hs:=aX hok;obtain ⟨s,rfl,_,hwf⟩:=DataW.trod_string (by rw [h2,wI (l.trans hd)]) h;refine ⟨.v (.string s),i,hi,by simp [RepC],?_,by simp [hs],by simp [eK,hs],?_⟩
    ·simp only [eK,Reps];exact ⟨_,_,rfl,⟨by simp [RepC],rfl,rfl⟩,rfl⟩
    unfold dN;exact ⟨i,hi,by rw [hd];exact ⟨s,rfl,hwf⟩⟩
   ·rename_i e hd;simp only [aR] at hok;obtain ⟨⟨he,hs⟩,hsz⟩:=hok;have hs:=aX hs;split at hsz
    ·rename_i ie hie;have hsz:=bS hsz;rcases DataW.trod_slice (by rw [h2,lB (l.trans hd)]) h with ⟨rfl,_⟩|⟨a,len,cap,elems,rest,n',hf,rfl,_,hb,hlc,hcm,hel,hcells,_,_⟩
     ·have hr:RepC (allOf w) (.lst ie.size [] .no) [.slice none 0 0]:=by
       simp only [RepC,eA];exact ⟨_,rfl,trivial,.inl ⟨by trivial,none,0,rfl,fun _=>rfl⟩⟩
      refine ⟨.lst ie.size [] .no,i,hi,hr,?_,by simp [hs],by simp [eK,hs],?_⟩
      ·simp only [eK,Reps];exact ⟨_,_,rfl,⟨hr,rfl,rfl⟩,rfl⟩
      unfold dN;exact ⟨i,hi,by rw [hd];exact ⟨ie,[],hie,rfl,by simp,by simp⟩⟩
     have:n'=n:=by omega
     subst this;rw [Fk hT hie] at hcells;rcases lh len with hz|hpos
     ·subst hz;have hr:RepC (allOf w) (.lst ie.size [] .no) [.slice (some a) 0 cap]:=by
       simp only [RepC,eA];exact ⟨_,rfl,trivial,.inl ⟨by trivial,some a,cap,rfl,fun q=>by cases q⟩⟩
      refine ⟨.lst ie.size [] .no,i,hi,hr,?_,by simp [hs],by simp [eK,hs],?_⟩
      ·simp only [eK,Reps];exact ⟨_,_,rfl,⟨hr,rfl,rfl⟩,rfl⟩
      unfold dN;exact ⟨i,hi,by rw [hd];exact ⟨ie,[],hie,rfl,by simp,by simp⟩⟩
     have hsome:∀ j,j<len→∃ cs y,w.cells? base (a.add (j*ie.size)) ie.size=some cs∧jB enc P w base spare held n' e cs=some y:=by
      intro j hj;have r:=hcells j hj;rw [bF (by omega)] at r;rw [Option.bind_eq_some_iff] at r;obtain ⟨cs,o,g⟩:=r;exact ⟨cs,_,o,g⟩
     have hspot:a.spot=none:=by
      obtain ⟨cs,y,o,_⟩:=hsome 0 hpos;obtain ⟨_,hlen,hcc⟩:=World.cells?_some o;have g:=hcc 0 (by omega);rw [bF (by omega)] at g;have B:(a.add (0*ie.size)).add 0=a:=by simp [Addr.add]
      rw [B] at g;cases hsp:a.spot with
      | none=>rfl
      |
       some s=>
       unfold aO at g;split at g
       ·simp [hsp] at g
       cases g
     obtain ⟨b,off,sp⟩:=a;simp only at hspot;subst hspot;obtain ⟨xs,f1,c,p⟩:=nj (spare:=spare) (held:=held) (enc:=enc) (P:=P) (base:=base) hie rfl he ih len 0 fun j _ hj=>hsome j (by omega)
     have hr:RepC (allOf w) (.lst ie.size xs .no) [.slice (some ⟨b,off,none⟩) len cap]:=by
      simp only [RepC,eA];refine ⟨_,rfl,trivial,.inr ⟨b,off,cap,by rw [f1],by rw [f1];exact hlc,by simpa using c⟩⟩
     refine ⟨.lst ie.size xs .no,i,hi,hr,?_,by simp [hs],by simp [eK,hs],?_⟩
     ·simp only [eK,Reps];exact ⟨_,_,rfl,⟨hr,rfl,rfl⟩,rfl⟩
     unfold dN;exact ⟨i,hi,by rw [hd];exact ⟨ie,xs,hie,rfl,by rw [f1];omega,p⟩⟩
    cases hsz
   ·rename_i fs hd;split at hok
    ·rename_i tot hfo;have hs:=aX hok;obtain ⟨gs,C,u⟩:=C9 (l.trans hd);obtain ⟨xs,n',hf,_,hl,hxl,hx⟩:=DataW.trod_struct (by rw [h2,C]) h;have:n'=n:=by omega
     subst this;rw [Fk hT hi] at hl;obtain ⟨_,ds,f1,c,p,A⟩:=LM hT (cs:=cs) ih gs.toList 0 tot (by rw [u];exact hfo) (by omega) fun f hfm=>by
      obtain ⟨j,hj⟩:=List.getElem?_of_mem hfm;have hj':gs[j]? = some f:=by simpa using hj
      have q:=hx j f hj';have hjl:j<xs.length:=by rw [hxl];exact (a5.1 hj').1
      rw [bF hjl] at q;exact ⟨_,q⟩
     simp only [DL,Nat.sub_zero] at c p;rw [cV (by omega)] at c;refine ⟨.agg (ds.flatMap eK),i,hi,by simp only [RepC];exact c,c,hl,by simp only [eK];omega,?_⟩;unfold dN;exact ⟨i,hi,by rw [hd];exact ⟨ds,rfl,by rw [f1,← u];simp,fun j f d0 o g=>A j f d0 (by rw [u];exact o) g⟩⟩
    cases hok
   ·rename_i m e hd;simp only [aR] at hok;obtain ⟨he,hsz⟩:=hok;split at hsz
    ·rename_i ie hie;have hsz:=aX hsz;obtain ⟨xs,n',hf,_,hl,hxl,hx⟩:=DataW.trod_array (by rw [h2,GN (l.trans hd)]) h;have:n'=n:=by omega
     subst this;rw [Fk hT hi] at hl;rw [Fk hT hie] at hx;obtain ⟨ds,f1,c,p,A⟩:=uu (cs:=cs) hie rfl he ih m 0 fun j _ hj=>by
      have q:=hx j (by omega);rw [bF (by omega)] at q;exact ⟨_,q⟩
     simp only [mD,DL] at c;rw [cV (by omega)] at c;refine ⟨.agg (ds.flatMap eK),i,hi,by simp only [RepC];exact c,c,hl,by simp only [eK];omega,?_⟩;unfold dN;exact ⟨i,hi,by rw [hd];exact ⟨ds,rfl,f1,A⟩⟩
    cases hsz
   cases hok
  cases hok
end
end
section
open Go
section
variable {P:aJ}{tab:List (Option TI)}{n t:Nat}{i:TI}{d:D}
def nP {k:fP}(hi:ti tab t=some i)(hd:i.d=.int k)(g:dN tab n t d):∃ m,d=.v (.int k m)∧(Lit.int k m).wf=true:=by
 cases n with
 | zero=>simp [dN] at g
 |
  succ n=>
  unfold dN at g;obtain ⟨i',h1,h2⟩:=g;rw [hi] at h1;cases h1;rw [hd] at h2;exact h2
def vq (hi:ti tab t=some i)(hd:i.d=.str)(g:dN tab n t d):∃ s:η,d=.v (.string s)∧s.size≤maxLen:=by
 cases n with
 | zero=>simp [dN] at g
 |
  succ n=>
  unfold dN at g;obtain ⟨i',h1,h2⟩:=g;rw [hi] at h1;cases h1;rw [hd] at h2;exact h2
def Mu {e:Nat}{ie:TI}(hi:ti tab t=some i)(hd:i.d=.slice e)(he:ti tab e=some ie)(g:dN tab n t d):∃ (n':Nat) (xs:List D),n=n'+1∧d=.lst ie.size xs .no∧xs.length≤maxLen∧∀ x∈xs,dN tab n' e x:=by
 cases n with
 | zero=>simp [dN] at g
 |
  succ n=>
  unfold dN at g;obtain ⟨i',h1,h2⟩:=g;rw [hi] at h1;cases h1;rw [hd] at h2;obtain ⟨ie',xs,a,b,c,f⟩:=h2;rw [he] at a;cases a;exact ⟨n,xs,rfl,b,c,f⟩
def PD {fs:List (Nat×Nat)}(hi:ti tab t=some i)(hd:i.d=.struct fs)(g:dN tab n t d):∃ (n':Nat) (ds:List D),n=n'+1∧d=.agg (ds.flatMap eK)∧ds.length=fs.length∧∀ (j:Nat) (f:Nat×Nat) (d0:D),fs[j]? = some f→ds[j]? = some d0→dN tab n' f.1 d0:=by
 cases n with
 | zero=>simp [dN] at g
 |
  succ n=>
  unfold dN at g;obtain ⟨i',h1,h2⟩:=g;rw [hi] at h1;cases h1;rw [hd] at h2;obtain ⟨ds,a,b,c⟩:=h2;exact ⟨n,ds,rfl,a,b,c⟩
def ym (hi:ti tab t=some i)(hd:i.d=.int .u8)(g:dN tab n t d):∃ c:aC,d=dW c:=by
 obtain ⟨m,rfl,h⟩:=nP hi hd g;simp [Lit.wf,IntKind.min,IntKind.max,IntKind.signed,IntKind.bits] at h;refine ⟨il m.toNat,?_⟩;unfold dW;have e:((il m.toNat).toNat:Int)=m:=by rw [UInt8.toNat_ofNat'];omega
 rw [e]
def Jg {α:Type}{f:α→D}{K:α→Prop}{p:D→Prop}(h:∀ x,p x→∃ y,x=f y∧K y):∀ (xs:List D),(∀ x∈xs,p x)→∃ ys:List α,xs=ys.map f∧∀ y∈ys,K y
 | [],_=>⟨[],rfl,by simp⟩
 |
  x::xs,hx=>by
  obtain ⟨y,rfl,hy⟩:=h x (hx x (by simp));obtain ⟨ys,rfl,hys⟩:=Jg h xs fun z hz=>hx z (by simp [hz])
  refine ⟨y::ys,rfl,fun z hz=>?_⟩;rcases cX.1 hz with rfl|hz
  ·exact hy
  exact hys z hz
def t7 {w:aL}{r:Reach}{base:Nat}{v:ω}(hT:bO P tab)(hv:Value.okWide P w r base t v)(g:dN tab n t d):d.shape v=true:=by
 cases n with
 | zero=>simp [dN] at g
 |
  succ n=>
  unfold dN at g;obtain ⟨i,hi,g⟩:=g;obtain ⟨tf,z,dd,h1,h2,a,_⟩:=BU (b4 hT hi);unfold Value.okWide at hv;rw [h2] at hv;split at g
  ·rename_i hd;have:=Gv (a.trans hd);subst this;obtain ⟨b,rfl⟩:=g;cases v<;>first|rfl|(simp [Cell.okWide,Cell.ok,h2] at hv)
  ·rename_i k hd;have:=BN (a.trans hd);subst this;obtain ⟨b,rfl,_⟩:=g;cases v<;>first|rfl|(simp [Cell.okWide,Cell.ok,h2] at hv)
  ·rename_i hd;have:=wI (a.trans hd);subst this;obtain ⟨b,rfl,_⟩:=g;cases v<;>first|rfl|(simp [Cell.okWide,Cell.ok,h2] at hv)
  ·rename_i e hd;have:=lB (a.trans hd);subst this;obtain ⟨ie,xs,_,rfl,_⟩:=g;cases v<;>first|rfl|(simp [Cell.okWide,Cell.ok,h2] at hv)
  ·rename_i fs hd;obtain ⟨gs,rfl,_⟩:=C9 (a.trans hd);obtain ⟨ds,rfl,_⟩:=g;simp only at hv;obtain ⟨cs,rfl,_⟩:=hv;rfl
  ·rename_i m e hd;have:=GN (a.trans hd);subst this;obtain ⟨ds,rfl,_⟩:=g;simp only at hv;obtain ⟨cs,rfl,_⟩:=hv;rfl
  exact g.elim
def rd_arg {H:Type}{enc:aD×ω→H}{w:aL}{base:Nat}{spare:Nat→Bool}{held:Bool}{v:ω}{x:DataW H}{ps:List MemPlace}{r:Reach}{b:Nat}(hT:bO P tab)(ts:List Nat)(hc:mq tab ts=true)(ht:ts.contains t=true)
  (hv:Value.okWide P w r b t v) (h:DataW.Trod enc P w base spare held t v x ps):∃ n d,dN tab n t d∧Rep (allOf w) d v:=by
 obtain ⟨n,hn⟩:=h;obtain ⟨d,i,h1,h2,c,e,f,a⟩:=rd hT hc n t _ _ ht hn;exact ⟨n,d,a,h2,t7 hT hv a⟩
end
end
end Go.Proofs.YticifeeokcgfkaaGreatDoor.Ab
namespace Go.Proofs.YticifeeokcgfkaaGreatDoor
open Go.ChangeShapes Go.WideShapes Go.ChangeAt Go.RowKit Go.Joins
def own:ownKnob Tryz.prog.godebug=none:=by kernel_rfl
def vb:laidOutB Tryz.prog=true:=by kernel_rfl
def LL {H:Type}{enc:aD×ω→H}{P:aJ}{W:aL}(hl:laidOutB P=true):∀ {ts:List aD} {vs:List ω} {ds:List (DataW H)} {ps:List MemPlace},
  (ts.all fun t=>P.readableRec t && decide (t<P.types.size))=true→DataW.TrodAll enc P W 0 (fun _=>true) true ts vs ds ps→(∀ x∈ps,x.block<W.heap.size)→∀ W',Below W.heap.size W W' →
  ∀ sp:Nat→Bool,(∀ x∈ps,sp x.block=true)→DataW.TrodAll enc P W' 0 sp true ts vs ds ps
 |
  [],vs,ds,ps,_,h,_,W',hb,sp,hsp=>by
  obtain ⟨rfl,rfl,rfl⟩:=trodAll_nil h;exact trodAll_mk0
 |
  t::ts,vs,ds,ps,hr,h,hlt,W',hb,sp,hsp=>by
  obtain ⟨v,vs',d,ds',p,q,rfl,rfl,rfl,a,h1⟩:=trodAll_cons h;simp only [List.all_cons,aR,bJ] at hr;exact trodAll_cons_mk (WideElems.Trod_stays hl hr.1.1 hr.1.2 a (fun x hx=>hb.same (hlt x (by simp [hx]))) (fun x hx=>hsp x (by simp [hx])))
   (LL hl hr.2 h1 (fun x hx=>hlt x (by simp [hx])) W' hb sp (fun x hx=>hsp x (by simp [hx])))
end Go.Proofs.YticifeeokcgfkaaGreatDoor
namespace Go.Proofs.YticifeeokcgfkaaGreatDoor.Ab
section
open Go
section
variable {H:Type}{enc:aD × ω→H}{P:aJ}{w:aL}{base:Nat}{spare:Nat→Bool}{held:Bool}{tab:List (Option TI)}{ts:List Nat}
end
end
section
open Go
section
variable {α β:Type}[DecidableEq α]
def jw:List (α×β)→α→Option β
 | [],_=>none
 | (a,b)::l,k=>if a=k then some b else jw l k
def ei:List (α×β)→α→β→List (α×β)
 | [],k,v=>[(k,v)]
 | (a,b)::l,k,v=>if a=k then (k,v)::l else (a,b)::ei l k v
def cM (l:List (α×β))(k:α)(z:β):β:=(jw l k).getD z
def jP:List α→α→List MapEntry→Nat→Option (Nat×ω)
 | a::ks,k,e::me,i=>if a=k then some (i,e.val) else jP ks k me (i+1)
 | _,_,_,_=>none
end
structure KeyOK (P:aJ) (kt:aD) {α:Type} [DecidableEq α] (f:α→ω):Prop where
 find:∀ (w:aL) (k:α) (me:List MapEntry) (ks:List α),me.map (·.key)=ks.map f→(Instr.findKey kt (f k) me).run P w=.ok (jP ks k me 0) w
 check:∀ (w:aL) (e:Bool) (k:α),(Instr.checkKey e 10000 kt (f k)).run P w=.ok () w
 stays:∀ (w:aL) (k:α),(Instr.keyThatStays (f k) (f k)).run P w=.ok (f k) w
def xq {P:aJ}{kt:aD}(h:P.underlying kt=some .string):KeyOK P kt (fun s:η=>cZ s) where
 find w k me ks e:=by
  refine MapKept.run_findKey h ?_;have:∀ (ks:List η) (me:List MapEntry) (i:Nat),me.map (·.key)=ks.map (fun s=>cZ s)→Instr.findNow .string (.string k) me i=some (jP ks k me i):=by
   intro ks;induction ks with
   | nil=>intro me i e;simp at e;subst e;rfl
   |
    cons a ks ih=>
    intro me i e;cases me with
    | nil=>cases e
    |
     cons m me=>
     simp only [a7,fW] at e;have hb:(k==a)=decide (a=k):=by
      by_cases q:a=k
      ·subst q;rw [Ξ rfl];exact (MapKept.bytes_beq _ _).2 rfl
      rw [Δ q];cases hq:k==a with
      | false=>rfl
      | true=>exact bH ((MapKept.bytes_beq _ _).1 hq).symm q
     unfold Instr.findNow jP;rw [e.1];simp only [Instr.sameNow,hb];by_cases q:a=k
     ·rw [Ξ q,aQ q]
     rw [Δ q,aF q];exact ih me (i+1) e.2
  exact this ks me 0 e
 check w e k:=by
  have:=MapKept.run_checkKey (w:=w) h (k:=.string k) (by simp [MapKept.IsKey]) e 9999;exact this
 stays w k:=MapKept.run_keyThatStays (d:=.string) (by simp [MapKept.IsKey])
section
variable {α β:Type}[DecidableEq α]{f:α→ω}{e:β→D}{H:Hp}
def Jf:∀ {l:List (α×β)} {me:List MapEntry},MapR H (l.map fun p=>(f p.1,e p.2)) me→me.map (·.key)=(l.map (·.1)).map f
 | [],me,h=>by simp [MapR] at h;subst h;rfl
 |
  p::l,me,h=>by
  simp only [a7,MapR] at h;obtain ⟨m,me',rfl,h1,_,h2⟩:=h;simp only [a7,h1,Jf h2]
def KlE (k:α):∀ {l:List (α×β)} {me:List MapEntry} (i:Nat),MapR H (l.map fun p=>(f p.1,e p.2)) me →
  (jw l k=none∧jP (l.map (·.1)) k me i=none∧∀ (v:β) (y:ω) (b:Nat),Rep H (e v) y→MapR H ((ei l k v).map fun p=>(f p.1,e p.2)) (me++[⟨f k,y,b⟩])) ∨
  ∃ j b m,jw l k=some b∧jP (l.map (·.1)) k me i=some (i+j,m.val)∧Rep H (e b) m.val∧me[j]? = some m∧m.key=f k∧∀ (v:β) (y:ω),Rep H (e v) y→MapR H ((ei l k v).map fun p=>(f p.1,e p.2)) (me.modify j fun x=>{ x with key:=f k,val:=y })
 |
  [],me,i,h=>by
  simp [MapR] at h;subst h;refine .inl ⟨rfl,rfl,fun v y b hy=>?_⟩;simp only [ei,a7,fg,MapR,a8];exact ⟨_,_,rfl,rfl,hy,rfl⟩
 |
  p::l,me,i,h=>by
  simp only [a7,MapR] at h;obtain ⟨m,me',rfl,h1,h2,d⟩:=h;by_cases q:p.1=k
  ·refine .inr ⟨0,p.2,m,by unfold jw;rw [aQ q],by simp only [a7,jP];rw [aQ q];rfl,h2,rfl,by rw [h1,q],fun v y hy=>?_⟩;simp only [ei,aQ q,a7,MapR,List.modify_zero_cons];exact ⟨_,_,rfl,rfl,hy,d⟩
  rcases KlE k (i+1) d with ⟨g1,a,c⟩|⟨j,b,m',g1,a,c,g,n,r⟩
  ·refine .inl ⟨by unfold jw;rw [aF q];exact g1,by simp only [a7,jP];rw [aF q];exact a,fun v y b hy=>?_⟩;simp only [ei,aF q,a7,MapR,bK];exact ⟨_,_,rfl,h1,h2,c v y b hy⟩
  refine .inr ⟨j+1,b,m',by unfold jw;rw [aF q];exact g1,by simp only [a7,jP];rw [aF q,a];congr 2;omega,c,by simpa using g,n,fun v y hy=>?_⟩;simp only [ei,aF q,a7,MapR,List.modify_succ_cons];exact ⟨_,_,rfl,h1,h2,r v y hy⟩
end
def Core.allocMap {C:Ctx}{H:Hp}{h:List (Nat×Blk)}{k:List (Nat×ω)}{w:aL}(c:Core C H h k w) :
  Core C H ((w.heap.size,.mp [])::h) k (w.alloc (.map #[] 0)):=by
 have c0:Core ⟨H,w,[]⟩ H [(w.heap.size,.mp [])] [] (w.alloc (.map #[] 0)):=by
  refine ⟨c.ag.alloc _,Hp.le_refl H,fun _ _ x=>.inl x,fun b hb _=>?_,?_,?_,by simp,?_,?_,⟨rfl,rfl,rfl,Φ _⟩⟩;rw [ld,aF (by exact Nat.ne_of_lt hb)];rw [FF];exact CU _
  ·intro p hp;simp only [aT] at hp;subst hp;refine ⟨#[],0,by rw [ld,aQ rfl],rfl,fun o=>?_⟩;cases e:H ⟨w.heap.size,o,none⟩ with
   | none=>rfl
   | some v=>exact bH (c.ag.lt e) (RJ _)
  simp [K4,eQ];intro b hb;simp [K4,eQ] at hb;subst hb;exact .inr (Φ _)
 exact Core.call (h1:=[]) (k1:=[]) (h2:=h) (k2:=k) c c0
def Core.setMap {C:Ctx}{H:Hp}{h:List (Nat×Blk)}{k:List (Nat×ω)}{w:aL}(c:Core C H h k w){j b:Nat}{es es':List (ω×D)}{me:Array MapEntry}{ck:Nat}(hj:h[j]? = some (b,.mp es))
  (hr:MapR H es' me.toList):Core C H (h.set j (b,.mp es')) k { w with heap:=w.heap.setIfInBounds b (.map me ck) }:=by
 have hlt:j<h.length:=(aP.1 hj).1;have l:h.Perm ([(b,.mp es)]++h.eraseIdx j):=KO hj;have c1:=c.perm l (aM k);obtain ⟨q,r,h1,h2,d⟩:=c.blks _ (a4 hj);have hs:=MapKept.heap_set (w:=w) (o':=.map me ck) h1;have c2:Core ⟨H,w,K4 [(b,Blk.mp es)] []⟩ H [(b,.mp es')] [] { w with heap:=w.heap.setIfInBounds b (.map me ck) }:=by
  refine ⟨⟨fun a v e=>?_,c.ag.gg.own d hs.2⟩,Hp.le_refl H,fun _ _ x=>.inl x,fun i _ m=>hs.2 i (by simpa [K4,eQ] using m),by simp,?_,by simp,by simp [K4,eQ],?_,⟨rfl,rfl,rfl,Φ _⟩⟩;have hne:a.block≠b:=fun g=>by
   obtain ⟨ab,ao,n⟩:=a;simp only at g;subst g;have hc:=c.ag _ _ e;cases n with
   | none=>rw [d] at e;cases e
   | some s=>simp [aO,h1] at hc
  have:=c.ag a v e;simp only [aO] at this ⊢;rw [hs.2 _ hne];exact this;intro p hp;simp only [aT] at hp;subst hp;exact ⟨me,ck,hs.1,hr,d⟩;intro x hx;exact .inl (by simpa [K4,eQ] using hx)
 have c3:=Core.call (h1:=[(b,.mp es)]) (k1:=[]) (h2:=h.eraseIdx j) (k2:=k) (by simpa using c1) c2;refine c3.perm ?_ (by simp);have p2:(h.set j (b,Blk.mp es'))[j]? = some (b,Blk.mp es'):=by rw [List.getElem?_set_self hlt]
 have p3:=KO p2;rw [List.eraseIdx_set_eq] at p3;exact p3.symm
section
variable {P:aJ}{C:Ctx}{N:Nat}{ops rest:List bG}{o:bG}{t:List (Nat × D)}{h:List (Nat × Blk)}{k:List (Nat × ω)}{Q:dH→S→Prop}{tab:List (Option TI)}
def LK {i:Nat}{T:aD}(ho:o.op=.makeMap T none)(hw:bC ops t o=some true)(hd:o.dst=some i)(hi:aZ i N=true)
  (g:∀ b:Nat,a1 P C N ops rest ⟨(i,.v (.map (some b)))::t,(b,.mp [])::h,k⟩ Q):a1 P C N ops (o::rest) ⟨t,h,k⟩ Q:=
 ko (s:=⟨t,h,k⟩) hw hd hi fun H a w c kt=>by
  refine ⟨.map (some w.heap.size),_,H,.v (.map (some w.heap.size)),_,k,?_,Hp.le_refl H,c.allocMap,dA rfl,g w.heap.size⟩;unfold bL;rw [ho];refine iC ?_;rfl
def AW {w:aL}{t:aD}{z:ω}(h:(P.info? t).bind (·.zero)=some z):(ry t).run P w=.ok z w:=by
 cases hi:P.info? t with
 | none=>rw [hi] at h;cases h
 |
  some i=>
  rw [hi] at h;have ht:(eR t).run P w=.ok i w:=by
   unfold eR Go.program;rw [KL (a:=P) rfl,hi];rfl
  unfold ry;rw [KL ht];simp only [δ] at h;rw [h];rfl
section
variable {α β:Type}[DecidableEq α]{f:α→ω}{e:β→D}
def C8 {i b kt et:Nat}{T:aD}{x ix:aH}{l:List (α×β)}{es:List (ω×D)}{kk:α}{dk dr:D}{z:β}{zv:ω}{q:TI}(j:Nat)(hT:bO P tab)(ho:o.op=.lookup T x ix false)(hw:bC ops t o=some true)(hd:o.dst=some i)(hi:aZ i N=true)
  (hx:cS t x=some (.v (.map (some b)))) (hj:h[j]? = some (b,.mp es)) (hes:es=l.map fun p=>(f p.1,e p.2)) (hix:cS t ix=some dk) (hti:ti tab T=some q) (hs:q.d=.map kt et) (K:KeyOK P kt f) (hk:∀ H v,Rep H dk v→v=f kk)
  (hz:(P.info? et).bind (·.zero)=some zv) (hzr:∀ H,Rep H (e z) zv) (hr:dr=e (cM l kk z))
  (g:a1 P C N ops rest ⟨(i,dr)::t,h,k⟩ Q):a1 P C N ops (o::rest) ⟨t,h,k⟩ Q:=
 ko (s:=⟨t,h,k⟩) hw hd hi fun H a w core kt'=>by
  subst hes;subst hr;obtain ⟨dd,h1,h2⟩:=iY (w:=w) (b4 hT hti);have:=tS (h2.trans hs);subst this;obtain ⟨me,ck,g1,r,B⟩:=core.blks _ (a4 hj);have hkv:=hk H _ (eh kt' hix);have hfk:=K.find w kk me.toList (l.map (·.1)) (Jf r);have key:∃ v,(Instr.lookup T (a.eval x) (a.eval ix) false).run P w=.ok v w∧Rep H (e (cM l kk z)) v:=by
   rw [hkv,eW (eh kt' hx)];unfold Instr.lookup cM;rcases KlE kk 0 r with ⟨c,n,_⟩|⟨j',b',m,c,n,u,_⟩
   ·refine ⟨zv,?_,by rw [c];exact hzr H⟩;rw [n] at hfk;simp only [mw,h1,fE,MapKept.run_getObj_map g1,mJ,K.check,hfk,AW hz];simp
   refine ⟨m.val,?_,by rw [c];exact u⟩;rw [n] at hfk;simp only [mw,h1,fE,MapKept.run_getObj_map g1,mJ,K.check,hfk];simp
  obtain ⟨v,y,A⟩:=key;refine ⟨v,w,H,_,h,k,?_,Hp.le_refl H,core,A,g⟩;unfold bL;rw [ho];exact iC y
def JI {b kt et:Nat}{T:aD}{x ix y:aH}{l:List (α×β)}{es:List (ω×D)}{h':List (Nat×Blk)}{kk:α}{vv:β}{dk dv:D}{i:TI}(j:Nat)(hT:bO P tab)(ho:o.op=.mapUpdate T x ix y)(hw:bC ops t o=some true)(hd:o.dst=none)
  (hx:cS t x=some (.v (.map (some b)))) (hj:h[j]? = some (b,.mp es)) (hes:es=l.map fun p=>(f p.1,e p.2)) (hix:cS t ix=some dk) (hy:cS t y=some dv) (hti:ti tab T=some i) (hs:i.d=.map kt et) (K:KeyOK P kt f) (hk:∀ H v,Rep H dk v→v=f kk) (hv:Wk dv (e vv))
  (he:h.set j (b,.mp ((ei l kk vv).map fun p=>(f p.1,e p.2)))=h')
  (g:a1 P C N ops rest ⟨t,h',k⟩ Q):a1 P C N ops (o::rest) ⟨t,h,k⟩ Q:=
 IL (s:=⟨t,h,k⟩) hw hd fun H a w core kt'=>by
  subst hes;subst he;obtain ⟨dd,h1,h2⟩:=iY (w:=w) (b4 hT hti);have:=tS (h2.trans hs);subst this;obtain ⟨me,ck,g1,n,I⟩:=core.blks _ (a4 hj);have hkv:=hk H _ (eh kt' hix);have hfk:=K.find w kk me.toList (l.map (·.1)) (Jf n);have hyv:Rep H (e vv) (a.eval y):=hv H _ (eh kt' hy);have key:∃ me' ck',(Instr.mapUpdate T (a.eval x) (a.eval ix) (a.eval y)).run P w=.ok () { w with heap:=w.heap.setIfInBounds b (.map me' ck') }∧MapR H ((ei l kk vv).map fun p=>(f p.1,e p.2)) me'.toList:=by
   rw [hkv,eW (eh kt' hx)];unfold Instr.mapUpdate;rcases KlE kk 0 n with ⟨r,c,q⟩|⟨j',b',m,r,c,q,u,z,A⟩
   ·refine ⟨me.push ⟨f kk,a.eval y,ck⟩,ck+1,?_,by rw [Array.toList_push];exact q vv _ ck hyv⟩;rw [c] at hfk;simp only [mw,h1,fE,MapKept.run_getObj_map g1,mJ,K.check,hfk,MapKept.run_setObj_map _ g1]
   refine ⟨me.modify j' fun x=>{ x with key:=f kk,val:=a.eval y },ck,?_,by rw [Array.toList_modify];exact A vv _ hyv⟩;rw [c] at hfk;have B:me[j']? = some m:=by rw [← Array.getElem?_toList];exact u
   rw [cH] at hfk;simp only [mw,h1,fE,MapKept.run_getObj_map g1,mJ,K.check,hfk,B,dQ,Option.getD_some,z,K.stays,MapKept.run_setObj_map _ g1]
  obtain ⟨me',ck',F,G⟩:=key;refine ⟨_,H,_,k,?_,Hp.le_refl H,core.setMap (ck:=ck') hj G,g⟩;unfold bL;rw [ho];show ((Instr.mapUpdate T (a.eval x) (a.eval ix) (a.eval y)) >>= fun _=>pure Next.skip).run P w=_
  rw [KL F];rfl
end
end
end
section
open Go Go.RowKit Go.Proofs
def zc (pe:Int×Int):List e8:=[{ v:=.iface 195 (.agg #[.int .i64 pe.1,.int .i64 pe.2]),recovered:=false }]
def j3 (a0 a:Int):Option ((Int×Int)⊕Unit):=some (.inl (a0,a))
def Za {G:Prop}(k:G:=by exact ⟨rfl,rfl,rfl⟩):G:=k
def kV (a0 a:Int)(r:(Int×Int)⊕Unit)(b:j3 a0 a=some r):kl zc Tryz.prog 158 [.v (.int .i64 a0),.v (.int .i64 a)] [] [] r (fun r d h k=>d=.tup []∧h=[]∧k=[]):=by
 cases b;refine ⟨⟨_,Tryz.func158,rfl,rfl⟩,fun H w vs hv hA _ _ _=>?_⟩;simp only [RepsV] at hv;obtain ⟨f,_,rfl,g1,g,_,rfl,c,rfl⟩:=hv;obtain rfl:=eW g1;obtain rfl:=eW c;suffices hs:Calls Tryz.prog 158 #[.int .i64 a0,.int .i64 a] w fun e w'=>e=.panicked (zc (a0,a))∧w'=w from
  hs.mono fun e w' ⟨he,hb⟩=>⟨he,H,by subst hb;exact Dl hA (Below.refl _ _)⟩
 go_enter Tryz.func158,Tryz.ntmps158;go_wp2_with fail;exact Za
end
end Go.Proofs.YticifeeokcgfkaaGreatDoor.Ab
namespace Go.Proofs.YticifeeokcgfkaaGreatDoor.Jy
open Go
def GivesY (Zp:List e8→aL→Prop)(P:aJ)(o:bG)(a:Act)(w:aL)(K:ω→aL→Prop):Prop:=
 match (bL a.eval o).run P w with
 | .ok (.value v) w'=>K v w'
 | .ok .skip w'=>K undef w'
 | .ok (.enter f args) w'=>Calls P f args w' fun e w''=>(∃ v,e=.returned v∧K v w'')∨∃ c,e=.panicked c∧Zp c w''
 | _=>False
def GivesY.mono {Zp:List e8→aL→Prop}{P:aJ}{o:bG}{a:Act}{w:aL}{K K':ω→aL→Prop}(hk:∀ v w',K v w'→K' v w')(h:GivesY Zp P o a w K):GivesY Zp P o a w K':=by
 unfold GivesY at *;split at h;exact hk _ _ h;exact hk _ _ h;exact h.mono fun e w'' hh=>hh.imp (fun ⟨v,he,hv⟩=>⟨v,he,hk _ _ hv⟩) id;exact h.elim
def GivesY.wp {Zp:List e8→aL→Prop}{P:aJ}{o:bG}{a:Act}{w:aL}{K:Act→aL→Prop}{Q:dH→Act→aL→Prop}(hZ:∀ c w,Zp c w→Q (.panic c) a w)(h:GivesY Zp P o a w fun v w'=>K (a.put o.dst v) w'):o.wp P a w K Q:=by
 unfold GivesY at h;unfold ku;generalize (bL a.eval o).run P w=r at *;cases r with
 |
  ok n w'=>
  cases n<;>simp only [Oper.upon] at h ⊢;case value u=>exact h
  case skip=>exact h
  case enter f args=>exact h.mono fun e w'' hh=>by rcases hh with ⟨v,he,hv⟩|⟨c,he,hz⟩<;>subst he<;>first|exact hv|exact hZ _ _ hz
 | halt x w'=>simp only at h
def GivesY.congr {Zp:List e8→aL→Prop}{P:aJ}{o:bG}{a a':Act}{w:aL}{K:ω→aL→Prop}(he:bL a'.eval o=bL a.eval o)(h:GivesY Zp P o a w K):GivesY Zp P o a' w K:=by
 unfold GivesY at *;rw [he];exact h
def updY {α:Type}(f:Nat→α)(i:Nat)(v:α):Nat→α:=fun j=>if j=i then v else f j
def upd_sameY {α:Type}(f:Nat→α)(i:Nat)(v:α):updY f i v i=v:=by simp [updY]
def upd_neY {α:Type}(f:Nat→α){i j:Nat}(v:α)(h:j≠i):updY f i v j=f j:=by simp [updY,h]
section
variable (Zp:List e8→aL→Prop)(P:aJ)(ops:Array bG)(C:(Nat→Bool)→(Nat→ω)→aL→Prop)(pre:Nat→List Nat)(ev:Nat→Bool)
def OKY (vals:Nat→ω)(i:Nat)(o:bG)(a:Act)(out:ω):Prop:=
 if fo o (yielded ops a.tmps)=true then
  if ev i=true then out=vals i∧∀ S w,C S vals w→S i=false→(∀ k∈pre i,S k=true)→GivesY Zp P o a w fun v w'=>C (updY S i true) (updY vals i v) w'
  else ∀ S w,C S vals w→(∀ k∈pre i,S k=true)→(bL a.eval o).run P w=.ok (.value out) w
 else out=undef∧(ev i=true→∀ S w,C S vals w→S i=false→C (updY S i true) (updY vals i undef) w)
def LxY (vals:Nat→ω)(fin:Act→Prop):Nat→List bG→Act→Prop
 | _,[],a=>fin a
 | i,o::rest,a=>∃ out,OKY Zp P ops C pre ev vals i o a out∧LxY vals fin (i+1) rest (a.put o.dst out)
end
def iQ (ops:Array bG)(a0:Act)(out:Nat→ω):Nat→Act
 | 0=>a0
 |
  k+1=>match ops[k]? with
  | some o=>(iQ ops a0 out k).put o.dst (out k)
  | none=>iQ ops a0 out k
def fX (ops:Array bG)(a0:Act)(out:Nat→ω)(S:Nat→Bool):Nat→Act
 | 0=>a0
 |
  k+1=>match ops[k]? with
  | some o=>if S k=true then (fX ops a0 out S k).put o.dst (out k) else fX ops a0 out S k
  | none=>fX ops a0 out S k
def Je {ops:Array bG}{a0:Act}{out:Nat→ω}{S:Nat→Bool}:∀ k,(fX ops a0 out S k).tmps.size=a0.tmps.size∧(fX ops a0 out S k).defers=a0.defers
 | 0=>⟨rfl,rfl⟩
 |
  k+1=>by
  have ih:=Je (ops:=ops) (a0:=a0) (out:=out) (S:=S) k;simp only [fX];split
  ·split
   ·rename_i o _ _;cases hd:o.dst with
    | none=>exact ih
    | some d=>exact ⟨by simp only [io,fA];exact ih.1,ih.2⟩
   exact ih
  exact ih
def Jd {ops:Array bG}{a0:Act}{out out':Nat→ω}:∀ k,(∀ j,j<k→out j=out' j)→iQ ops a0 out k=iQ ops a0 out' k
 | 0,_=>rfl
 |
  k+1,h=>by
  have ih:=Jd (ops:=ops) (a0:=a0) k (fun j hj=>h j (by omega));simp only [iQ];rw [ih,h k (by omega)]
def Jj {ops:Array bG}{a0:Act}{out out':Nat→ω}{S:Nat→Bool}:∀ k,(∀ j,j<k→S j=true→out j=out' j)→fX ops a0 out S k=fX ops a0 out' S k
 | 0,_=>rfl
 |
  k+1,h=>by
  have ih:=Jj (ops:=ops) (a0:=a0) (S:=S) k (fun j hj=>h j (by omega));simp only [fX];rw [ih];split
  ·split
   ·rename_i hs;rw [h k (by omega) hs]
   rfl
  rfl
def LJ {ops:Array bG}{a0:Act}{out:Nat→ω}{S:Nat→Bool}:∀ k,(∀ j,j<k→S j=false)→fX ops a0 out S k=a0
 | 0,_=>rfl
 |
  k+1,h=>by
  simp only [fX];rw [LJ k (fun j hj=>h j (by omega)),h k (by omega)];split<;>simp
def nQ {ops:Array bG}{a0:Act}{out:Nat→ω}{S:Nat→Bool}:∀ k,(∀ j,j<k→S j=true)→fX ops a0 out S k=iQ ops a0 out k
 | 0,_=>rfl
 |
  k+1,h=>by
  simp only [fX,iQ];rw [nQ k (fun j hj=>h j (by omega)),h k (by omega)];simp
def kP (ops:Array bG)(o:bG)(a b:Act):Prop:=∀ t∈o.looksAt ops,a.tmps[t]? = b.tmps[t]?
def JH {ops:Array bG}{o:bG}{a b:Act}(hs:∀ cs x,o.op ≠ .select cs x)(h:kP ops o a b):bL a.eval o=bL b.eval o:=
 execOp_congr o hs fun x hx=>by
  cases x with
  |
   tmp t=>
   have:=h t (cF _ (List.mem_filterMap.2 ⟨.tmp t,by simpa using hx,rfl⟩));simp [RH,this]
  | _=>rfl
def JL {ops:Array bG}{o:bG}{a b:Act}(h:kP ops o a b):fo o (yielded ops a.tmps)=fo o (yielded ops b.tmps):=by
 unfold fo;cases hg:o.guard with
 | none=>rfl
 |
  some gw=>
  obtain ⟨g,want⟩:=gw;have hy:yielded ops a.tmps g=yielded ops b.tmps g:=by
   unfold yielded;cases ht:(ops[g]?).bind (·.dst) with
   | none=>rfl
   |
    some t=>
    have:=h t (by simp [Oper.looksAt,hg,ht]);simp [this]
  simp only [hy]
def C7 (a:Act)(d:Option Tmp)(v:ω)(t:Nat)(h:d≠some t):(a.put d v).tmps[t]? = a.tmps[t]?:=by
 cases d with
 | none=>rfl
 | some d=>exact f0 (by intro e;exact h (by rw [e]))
def Nh (a b:Act)(d:Option Tmp)(v:ω)(t:Nat)(h:a.tmps[t]? = b.tmps[t]?):(a.put d v).tmps[t]? = (b.put d v).tmps[t]?:=by
 cases d with
 | none=>exact h
 |
  some d=>
  by_cases e:d=t
  ·subst e;simp only [io,Array.getElem?_setIfInBounds];have hs:d<a.tmps.size↔d<b.tmps.size:=by
    constructor
    ·intro hd;rw [Array.getElem?_eq_getElem hd] at h;exact (a5.1 h.symm).1
    intro hd;rw [Array.getElem?_eq_getElem hd] at h;exact (a5.1 h).1
   by_cases hd:d<a.tmps.size
   ·simp [hd,hs.1 hd]
   have:¬ d<b.tmps.size:=fun x=>hd (hs.2 x)
   simp [hd,this]
  rw [C7 a _ v t (by simpa using e),C7 b _ v t (by simpa using e)];exact h
def slotsBY (ops:Array bG):Bool:=
 Region.noSelect ops && (ff ops.size).all fun i=>match ops[i]? with
  | none=>true
  |
   some oi=>(oi.after.all fun e=>!Region.binds .any e || decide (e.on<i)) &&
   (ff i).all fun j=>match ops[j]? with
   | none=>true
   | some oj=>oi.after.any (fun e=>im .any e && e.on==j) || oj.apart ops oi
def preBY (ops:Array bG)(pre:Nat→List Nat):Bool:=
 (ff ops.size).all fun i=>match ops[i]? with
  | none=>true
  | some oi=>(pre i).all fun k=>oi.after.any fun e=>im .any e && (e.on==k || (pre e.on).contains k)
def KhU {ops:Array bG}(h:slotsBY ops=true){i j:Nat}{oi oj:bG}(hi:ops[i]? = some oi)(hj:ops[j]? = some oj)(hji:j<i) :
  (∃ e∈oi.after,im .any e=true∧e.on=j)∨oj.apart ops oi=true:=by
 simp only [slotsBY,aR,bY,DK] at h;have h1:=h.2 i (a5.1 hi).1;simp only [hi,aR,bY,DK] at h1;have h2:=h1.2 j hji;simp only [hj,Bool.or_eq_true] at h2;rcases h2 with h2|h2;obtain ⟨e,he,hb⟩:=Array.any_eq_true'.1 h2;simp only [aR,beq_iff_eq] at hb;exact .inl ⟨e,he,hb.1,hb.2⟩;exact .inr h2
section
variable {Zp:List e8→aL→Prop}{P:aJ}{ops:Array bG}{Q:dH→Act→aL→Prop}{C:(Nat→Bool)→(Nat→ω)→aL→Prop}{pre:Nat→List Nat}{ev:Nat→Bool}{a0:Act}
def nK {vals:Nat→ω}{fin:Act→Prop}{l1:List bG}{m:Nat}(d:∀ j,j<m→l1[j]? = ops[j]?)(e:l1.length=m)(h:LxY Zp P ops C pre ev vals fin 0 l1 a0) :
  ∃ out,(∀ j o,j<m→ops[j]? = some o→OKY Zp P ops C pre ev vals j o (iQ ops a0 out j) (out j))∧fin (iQ ops a0 out m):=by
 have key:∀ (l:List bG) (i:Nat) (a:Nat→ω),(∀ j,i+j<i+l.length→l[j]? = ops[i+j]?)→LxY Zp P ops C pre ev vals fin i l (iQ ops a0 a i) →
   ∃ out,(∀ k,k<i→out k=a k)∧(∀ j o,i≤j→j<i+l.length→ops[j]? = some o→OKY Zp P ops C pre ev vals j o (iQ ops a0 out j) (out j))∧fin (iQ ops a0 out (i+l.length)):=by
  intro l;induction l with
  | nil=>intro i a _ h;exact ⟨a,fun _ _=>rfl,fun j o hj hj' _=>by simp at hj';omega,h⟩
  |
   cons o l ih=>
   intro i a hl h;obtain ⟨v,hv,hr⟩:=h;have b:ops[i]? = some o:=by simpa using (hl 0 (by simp)).symm
   have f:iQ ops a0 (updY a i v) i=iQ ops a0 a i:=Jd i fun j hj=>upd_neY _ _ (by omega)
   have g:iQ ops a0 (updY a i v) (i+1)=(iQ ops a0 a i).put o.dst v:=by simp only [iQ,b];rw [f,upd_sameY]
   obtain ⟨out,g1,n,p⟩:=ih (i+1) (updY a i v) (fun j hj=>by have:=hl (j+1) (by simp;omega);simpa [RK,Nat.add_comm 1 j] using this) (by rw [g];exact hr);refine ⟨out,fun k hk=>by rw [g1 k (by omega),upd_neY _ _ (by omega)],fun j o' hj hj' ho'=>?_,?_⟩
   ·by_cases hji:j=i
    ·subst hji;rw [b] at ho';cases ho';have q:iQ ops a0 out j=iQ ops a0 a j:=Jd j fun k hk=>by rw [g1 k (by omega),upd_neY _ _ (by omega)]
     rw [q,g1 j (by omega),upd_sameY];exact hv
    exact n j o' (by omega) (by simp at hj';omega) ho'
   rw [show i+(o::l).length=i+1+l.length from by simp;omega];exact p
 obtain ⟨out,_,h2,c⟩:=key l1 0 (fun _=>undef) (fun j hj=>by rw [cH];exact d j (by omega)) h;rw [cH,e] at c;exact ⟨out,fun j o hj ho=>h2 j o (fM _) (by omega) ho,c⟩
def yQ (ops:Array bG)(S:Nat→Bool):Prop:=∀ i o,ops[i]? = some o→S i=true→∀ e∈o.after,im .any e=true→S e.on=true
def JG (hp:preBY ops pre=true)(hsl:slotsBY ops=true){S:Nat→Bool}(hc:yQ ops S):∀ i o,ops[i]? = some o→(∀ e∈o.after,im .any e=true→S e.on=true)→∀ k∈pre i,S k=true:=by
 intro i;induction i using Nat.strongRecOn with
 |
  _ i ih=>
  intro o ho hd k hk;have d:=hp;simp only [preBY,bY,DK] at hp;have h1:=hp i (a5.1 ho).1;simp only [ho,bY] at h1;obtain ⟨e,he,hb⟩:=Array.any_eq_true'.1 (h1 k hk);simp only [aR,Bool.or_eq_true,beq_iff_eq,List.contains_iff_mem] at hb;rcases hb.2 with a|a
  ·rw [← a];exact hd e he hb.1
  have hlt:e.on<i:=by
   simp only [slotsBY,aR,bY,DK] at hsl;have b:=hsl.2 i (a5.1 ho).1;simp only [ho,aR] at b;have c:=(Array.all_eq_true_iff_forall_mem.1 b.1) e he;simpa [hb.1] using c
  have hson:=hd e he hb.1;cases hoe:ops[e.on]? with
  |
   none=>
   exfalso;have:=(a5.1 ho).1;simp at hoe;omega
  | some oe=>exact ih e.on hlt oe hoe (fun e' he' hb'=>hc _ _ hoe hson e' he' hb') k a
def No {oj oi:bG}{t:Nat}(hd:oj.dst=some t)(ht:t∈oi.looksAt ops):oj.apart ops oi=false:=by
 unfold Oper.apart;simp [hd,ht]
def JO (hsl:slotsBY ops=true){S:Nat→Bool}(hc:yQ ops S){out:Nat→ω}{i:Nat}{o:bG}(ho:ops[i]? = some o)(hi:S i=false)
  (hd:∀ e∈o.after,im .any e=true→S e.on=true):∀ n,i≤n→kP ops o (fX ops a0 out S n) (iQ ops a0 out i):=by
 have base:∀ k,k≤i→∀ t∈o.looksAt ops,(fX ops a0 out S k).tmps[t]? = (iQ ops a0 out k).tmps[t]?:=by
  intro k;induction k with
  | zero=>intro _ t _;rfl
  |
   succ k ih=>
   intro hk t ht;have ih':=ih (by omega) t ht;simp only [fX,iQ];cases hok:ops[k]? with
   | none=>exact ih'
   |
    some ok=>
    simp only;by_cases hS:S k=true
    ·rw [aQ hS];exact Nh _ _ _ _ _ ih'
    rw [aF hS];rw [C7]
    ·exact ih'
    intro hdt;rcases KhU hsl ho hok (by omega) with ⟨e,he,hb,hon⟩|hap
    ·exact hS (hon ▸ hd e he hb)
    rw [No hdt ht] at hap;cases hap
 intro n hn;induction n with
 | zero=>
      intro t ht;have:i=0:=by omega
      subst this;exact base 0 (by omega) t ht
 |
  succ n ih=>
  by_cases hin:i=n+1
  ·subst hin;intro t ht;exact base _ (by omega) t ht
  intro t ht;have ih':=ih (by omega) t ht;simp only [fX];cases hok:ops[n]? with
  | none=>exact ih'
  |
   some ok=>
   simp only;by_cases hS:S n=true
   ·rw [aQ hS,C7]
    ·exact ih'
    intro hdt;have hne:i≠n:=fun e=>by subst e;rw [hi] at hS;cases hS
    rcases KhU hsl hok ho (by omega) with ⟨e,he,hb,hon⟩|hap
    ·have:=hc n ok hok hS e he hb;rw [hon,hi] at this;cases this
    unfold Oper.apart at hap;simp [hdt,ht] at hap
   rw [aF hS];exact ih'
def pM (hsl:slotsBY ops=true){S:Nat→Bool}(hc:yQ ops S){out:Nat→ω}{i:Nat}{o:bG}(ho:ops[i]? = some o)(hi:S i=false) :
  ∀ n,fX ops a0 out (updY S i true) n=if i<n then (fX ops a0 out S n).put o.dst (out i) else fX ops a0 out S n:=by
 intro n;induction n with
 | zero=>simp [fX]
 |
  succ n ih=>
  simp only [fX];cases hok:ops[n]? with
  |
   none=>
   simp only;have:i≠n:=fun e=>by subst e;rw [ho] at hok;cases hok
   rw [ih];by_cases h1:i<n
   ·rw [aQ h1,aQ (by omega)]
   rw [aF h1,aF (by omega)]
  |
   some ok=>
   simp only;by_cases hin:i=n
   ·subst hin;rw [ho] at hok;cases hok;rw [ih,aF (RJ i),upd_sameY,aQ rfl,hi,aQ (Nat.lt_succ_self i)];simp
   rw [upd_neY _ _ (fun e=>hin e.symm),ih];by_cases h1:i<n
   ·rw [aQ h1,aQ (Nat.lt_succ_of_lt h1)];by_cases hS:S n=true
    ·simp only [hS,bR];refine Act.put_comm _ _ _ fun d hd=>?_
     intro hd';rcases KhU hsl hok ho h1 with ⟨e,he,hb,hon⟩|hap
     ·have:=hc n ok hok hS e he hb;rw [hon,hi] at this;cases this
     have:=(Oper.apart_spec hap).2.1 d hd;exact this hd'
    simp only [hS,cP,bE]
   have h2:¬ i<n+1:=fun h=>hin (by omega)
   rw [aF h1,aF h2]
def r2 (hsl:slotsBY ops=true)(hp:preBY ops pre=true){S:Nat→Bool}(hc:yQ ops S){T:Nat→Bool}(hT:∀ k,T k=(S k && ev k))(hpe:∀ i,∀ k∈pre i,ev k=true)
  {vals vals' out out':Nat→ω} {w:aL}
  {m:Nat} (ok:∀ j o,j<m→ops[j]? = some o→OKY Zp P ops C pre ev vals j o (iQ ops a0 out j) (out j)) (ok':∀ j o,j<m→ops[j]? = some o→OKY Zp P ops C pre ev vals' j o (iQ ops a0 out' j) (out' j))
  (hv:∀ e,T e=true→vals e=vals' e) (hC:C T vals w) (hC':C T vals' w):∀ k,k<m→∀ o,ops[k]? = some o→S k=true→out k=out' k:=by
 intro k;induction k using Nat.strongRecOn with
 |
  _ k ih=>
  intro hkm o ho hk;have hal:∀ m,m≤k→∀ t∈o.looksAt ops,(iQ ops a0 out m).tmps[t]? = (iQ ops a0 out' m).tmps[t]?:=by
   intro m;induction m with
   | zero=>intro _ t _;rfl
   |
    succ m ihm=>
    intro c t ht;have ih':=ihm (by omega) t ht;simp only [iQ];cases hom:ops[m]? with
    | none=>exact ih'
    |
     some om=>
     simp only;by_cases hd:om.dst=some t
     ·rcases KhU hsl ho hom (by omega) with ⟨e,he,hb,hon⟩|hap
      ·have hSm:S m=true:=hon ▸ hc k o ho hk e he hb;rw [ih m (by omega) (by omega) om hom hSm];exact Nh _ _ _ _ _ ih'
      rw [No hd ht] at hap;cases hap
     rw [C7 _ _ _ _ hd,C7 _ _ _ _ hd];exact ih'
  have hal':kP ops o (iQ ops a0 out k) (iQ ops a0 out' k):=hal k (Φ _);have h1:=ok k o hkm ho;have h2:=ok' k o hkm ho;have hns:∀ cs x,o.op ≠ .select cs x:=by
   simp only [slotsBY,aR] at hsl;exact fun cs x=>Region.noSelect_spec hsl.1 k o cs x ho
  unfold OKY at h1 h2;rw [← JL hal'] at h2;by_cases hw:fo o (yielded ops (iQ ops a0 out k).tmps)=true
  ·rw [aQ hw] at h1 h2;by_cases he:ev k=true
   ·rw [aQ he] at h1 h2;rw [h1.1,h2.1];exact hv k (by rw [hT,hk,he];rfl)
   rw [aF he] at h1 h2;have hpk:∀ x∈pre k,T x=true:=fun x hx=>by
    rw [hT,JG hp hsl hc k o ho (fun e he' hb=>hc k o ho hk e he' hb) x hx,hpe k x hx];rfl
   have b:=h1 T w hC hpk;have a:=h2 T w hC' hpk;rw [← JH hns hal'] at a;rw [b] at a;simpa using a
  rw [aF hw] at h1 h2;rw [h1.1,h2.1]
def Ms (hsl:slotsBY ops=true){listed:Array Bool}(hsz:listed.size=ops.size)(h:Region.ready .any ops listed=[]):∀ i,i<ops.size→listed.getD i false=true:=by
 intro i;induction i using Nat.strongRecOn with
 |
  _ i ih=>
  intro hi;cases hb:listed.getD i false with
  | true=>rfl
  |
   false=>
   exfalso;have hmem:i∈Region.ready .any ops listed:=by
    rw [mem_ready];have ho:ops[i]? = some ops[i]:=Array.getElem?_eq_getElem hi;refine ⟨?_,ops[i],ho,fun e he hbi=>?_⟩
    ·have hl:i<listed.size:=by omega
     simpa [hl] using hb
    simp only [slotsBY,aR,bY,DK] at hsl;have a:=hsl.2 i hi;simp only [ho,aR] at a;have b:=(Array.all_eq_true_iff_forall_mem.1 a.1) e he;have hlt:e.on<i:=by simpa [hbi] using b
    exact ih e.on hlt (by omega)
   rw [h] at hmem;cases hmem
def Hc {listed:Array Bool}{i:Nat}(hi:i<listed.size):(fun j=>(listed.setIfInBounds i true).getD j false)=updY (fun j=>listed.getD j false) i true:=by
 funext j;by_cases h:j=i;subst h;simp [updY,hi];rw [upd_neY _ _ h,getD_set_ne false (fun e=>h e.symm)]
def sufBY (ops:Array bG)(tp:List (List Nat))(m:Nat):Bool:=
 preBY ops (fun i=>tp.getD i []) && (ff ops.size).all fun i=>decide (i<m) || (ff i).all fun j=>(tp.getD i []).contains j
def LI (hsl:slotsBY ops=true){tp:List (List Nat)}{m:Nat}(h:sufBY ops tp m=true){S:Nat→Bool}(hc:yQ ops S){i:Nat}{o:bG}(ho:ops[i]? = some o)(him:m≤i)
  (hd:∀ e∈o.after,im .any e=true→S e.on=true):∀ j,j<i→S j=true:=by
 simp only [sufBY,aR,bY,DK,Bool.or_eq_true,bJ] at h;intro j hj;have h2:=(h.2 i (a5.1 ho).1).resolve_left (by omega) j hj;exact JG h.1 hsl hc i o ho hd j (List.contains_iff_mem.1 h2)
def m8 (hsl:slotsBY ops=true){tp:List (List Nat)}{m:Nat}(hsuf:sufBY ops tp m=true):∀ (l2:List bG) (k fuel:Nat) (listed:Array Bool) (a:Act) (w:aL),m≤k→listed.size=ops.size →
  (∀ j,l2[j]? = ops[k+j]?)→(∀ j,j<k→j<ops.size→listed.getD j false=true)→(∀ j,k≤j→listed.getD j false=false)→yQ ops (fun i=>listed.getD i false)→l2.length≤fuel →
  wpList P ops Q l2 a w→wpAny P .any ops Q fuel listed a w
 |
  [],k,fuel,listed,a,w,_,hsz,hl,hlo,_,_,_,h=>by
  have hk:ops.size≤k:=by have:=hl 0;simp at this;simpa using this
  refine wpAny_done ?_ h fuel;rw [List.eq_nil_iff_forall_not_mem];intro i hi;have b:=(mem_ready.1 hi).1;obtain ⟨o,ho,_⟩:=(mem_ready.1 hi).2;have hlt:=(a5.1 ho).1;have h1:=hlo i (by omega) hlt;have:i<listed.size:=by omega
  simp [this] at b h1;rw [b] at h1;cases h1
 | o::l2,k,0,listed,a,w,_,hsz,hl,hlo,hhi,hcl,hf,h=>by simp at hf
 |
  o::l2,k,fuel+1,listed,a,w,hmk,hsz,hl,hlo,hhi,hcl,hf,h=>by
  have b:ops[k]? = some o:=by simpa using (hl 0).symm
  have hkn:=(a5.1 b).1;refine ⟨fun hr=>?_,fun i hi=>?_⟩
  ·have:=Ms hsl hsz hr k hkn;rw [hhi k (Φ _)] at this;cases this
  obtain ⟨hun,oi,hoi,hdeps⟩:=mem_ready.1 hi;have hik:i=k:=by
   have hil:=(a5.1 hoi).1;rcases Nat.lt_trichotomy i k with h1|h1|h1
   ·have h2:=hlo i h1 hil;have:i<listed.size:=by omega
    simp [this] at hun h2;rw [hun] at h2;cases h2
   ·exact h1
   have hx:listed.getD k false=true:=LI hsl hsuf hcl hoi (by omega) hdeps k h1;rw [hhi k (Φ _)] at hx;cases hx
  subst hik;have hkl:i<listed.size:=by omega
  have hpt:∀ j,(listed.setIfInBounds i true).getD j false=updY (fun j=>listed.getD j false) i true j:=fun j=>congrFun (Hc hkl) j
  have hrec:∀ a w,wpList P ops Q l2 a w→wpAny P .any ops Q fuel (listed.setIfInBounds i true) a w:=fun a w hh=>by
   refine m8 hsl hsuf l2 (i+1) fuel _ a w (by omega) (by simpa using hsz) (fun j=>by have:=hl (j+1);simpa [RK,Nat.add_comm 1 j] using this) ?_ ?_ ?_ (by simpa using hf) hh
   ·intro j hj hjn;rw [hpt];by_cases hji:j=i
    ·subst hji;exact upd_sameY _ _ _
    rw [upd_neY _ _ hji];exact hlo j (by omega) hjn
   ·intro j hj;rw [hpt,upd_neY _ _ (by omega)];exact hhi j (by omega)
   intro j oj hoj hj e he hb;show (listed.setIfInBounds i true).getD e.on false=true
   have hj':(listed.setIfInBounds i true).getD j false=true:=hj;rw [hpt] at hj' ⊢;by_cases hei:e.on=i
   ·rw [hei,upd_sameY]
   rw [upd_neY _ _ hei];by_cases hji:j=i
   ·subst hji;rw [b] at hoj;cases hoj;rw [b] at hoi;cases hoi;exact hdeps e he hb
   rw [upd_neY _ _ hji] at hj';exact hcl j oj hoj hj' e he hb
  unfold wpOp;simp only [b];unfold wpList at h;split
  ·rename_i hw;rw [aQ hw] at h;exact h.imp (Oper.wp_mono hrec) id
  rename_i hw;rw [aF hw] at h;exact hrec _ _ h
def v6 (hZ:∀ c a w,a.tmps.size=a0.tmps.size→a.defers=a0.defers→Zp c w→Q (.panic c) a w)(hsl:slotsBY ops=true)(hp:preBY ops pre=true)(hpe:∀ i,∀ k∈pre i,ev k=true){tp:List (List Nat)}{m:Nat}{l1 l2:List bG}(hops:ops.toList=l1++l2)(f:l1.length=m)(hevm:∀ i,ev i=true→i<m)(hsuf:sufBY ops tp m=true)
  (hloc:∀ S vals vals' w,(∀ e,S e=true→vals e=vals' e)→C S vals w→C S vals' w)
  (hwalk:∀ vals,LxY Zp P ops C pre ev vals (fun a=>∀ S w,(∀ i,ev i=true→S i=true)→C S vals w→wpList P ops Q l2 a w) 0 l1 a0) :
  ∀
   (fuel:Nat) (listed:Array Bool) (w:aL) (vals out:Nat→ω),listed.size=ops.size →
   (∀ j o,j<m→ops[j]? = some o→OKY Zp P ops C pre ev vals j o (iQ ops a0 out j) (out j)) →
   (∀ S w,(∀ i,ev i=true→S i=true)→C S vals w→wpList P ops Q l2 (iQ ops a0 out m) w) →
   (∀ j,m≤j→listed.getD j false=false)→yQ ops (fun i=>listed.getD i false) →
   C (fun i=>listed.getD i false && ev i) vals w →
   (listed.toList.countP (fun b=>!b))≤fuel →
   wpAny P .any ops Q fuel listed (fX ops a0 out (fun i=>listed.getD i false) m) w:=by
 intro fuel;have r:∀ j,j<m→l1[j]? = ops[j]?:=fun j hj=>by rw [← Array.getElem?_toList,hops,cI (by omega)]
 have s:∀ j,l2[j]? = ops[m+j]?:=fun j=>by rw [← Array.getElem?_toList,hops,mM (by omega),f];congr 1;omega
 have hmn:m+l2.length=ops.size:=by rw [← b9,hops,υ,f]
 have fin:∀ (fuel:Nat) (listed:Array Bool) (w:aL) (vals out:Nat→ω),listed.size=ops.size →
   (∀ S w,(∀ i,ev i=true→S i=true)→C S vals w→wpList P ops Q l2 (iQ ops a0 out m) w) →
   C (fun i=>listed.getD i false && ev i) vals w→(∀ j,j<m→listed.getD j false=true)→(∀ j,m≤j→listed.getD j false=false)→yQ ops (fun i=>listed.getD i false)→l2.length≤fuel →
   wpAny P .any ops Q fuel listed (fX ops a0 out (fun i=>listed.getD i false) m) w:=by
  intro fuel listed w vals out hsz hfin hC hlo hhi hcl hf;rw [nQ m hlo];exact m8 hsl hsuf l2 m fuel listed _ w (Φ _) hsz s (fun j hj _=>hlo j hj) hhi hcl hf (hfin _ w (fun i he=>by rw [hlo i (hevm i he),he];rfl) hC)
 have hcnt:∀ (listed:Array Bool),listed.size=ops.size→(∀ j,m≤j→listed.getD j false=false)→l2.length≤listed.toList.countP (fun b=>!b):=by
  intro listed hsz hhi;have h1:listed.toList=listed.toList.take m++listed.toList.drop m:=(fq m _).symm;rw [h1,List.countP_append];have h2:(listed.toList.drop m).countP (fun b=>!b)=(listed.toList.drop m).length:=by
   rw [List.countP_eq_length];intro b hb;obtain ⟨k,hk,rfl⟩:=List.mem_iff_getElem.1 hb;have:=hhi (m+k) (by omega);have hk':m+k<listed.size:=by simp at hk;omega
   simp [hk'] at this;simp [this]
  rw [h2];simp;omega
 induction fuel with
 |
  zero=>
  intro listed w vals out hsz hok hfin hhi hcl hC hcount;have B:=hcnt listed hsz hhi;refine fin 0 listed w vals out hsz hfin hC (fun j hj=>?_) hhi hcl (by omega);have h1:listed.toList.countP (fun b=>!b)=0:=by omega
  rw [List.countP_eq_zero] at h1;have h':j<listed.size:=by omega
  have:=h1 listed[j] (by simp);simp [h'];simpa using this
 |
  succ fuel ih=>
  intro listed w vals out hsz hok hfin hhi hcl hC hcount;by_cases hall:∀ j,j<m→listed.getD j false=true
  ·exact fin (fuel+1) listed w vals out hsz hfin hC hall hhi hcl (by have:=hcnt listed hsz hhi;omega)
  refine ⟨fun hr=>bH (fun j hj=>Ms hsl hsz hr j (by omega)) hall,fun i hi=>?_⟩;obtain ⟨hun,o,ho,hdeps⟩:=mem_ready.1 hi;have him:i<m:=by
   rcases fU i m with h|h
   ·exact h
   exact bH (fun j hj=>LI hsl hsuf hcl ho h hdeps j (by omega)) hall
  have hhi':∀ j,m≤j→(listed.setIfInBounds i true).getD j false=false:=fun j hj=>by rw [getD_set_ne false (by omega)];exact hhi j hj
  have hil:i<listed.size:=by rw [hsz];exact (a5.1 ho).1
  have hun':listed.getD i false=false:=by simp [hil] at hun ⊢;exact hun
  have hal:=JO (a0:=a0) (out:=out) hsl hcl ho hun' hdeps m (by omega);have hns:∀ cs x,o.op ≠ .select cs x:=by
   have:=hsl;simp only [slotsBY,aR] at this;exact fun cs x=>Region.noSelect_spec this.1 i o cs x ho
  have hcl':yQ ops (fun j=>(listed.setIfInBounds i true).getD j false):=by
   have hpt:∀ j,(listed.setIfInBounds i true).getD j false=updY (fun j=>listed.getD j false) i true j:=fun j=>congrFun (Hc hil) j
   intro j oj hoj hj e he hb;show (listed.setIfInBounds i true).getD e.on false=true
   have hj':(listed.setIfInBounds i true).getD j false=true:=hj;rw [hpt] at hj' ⊢;by_cases hei:e.on=i
   ·rw [hei,upd_sameY]
   rw [upd_neY _ _ hei];by_cases hji:j=i
   ·subst hji;rw [ho] at hoj;cases hoj;exact hdeps e he hb
   rw [upd_neY _ _ hji] at hj';exact hcl j oj hoj hj' e he hb
  have hcount':(listed.setIfInBounds i true).toList.countP (fun b=>!b)≤fuel:=by
   have h1:(listed.setIfInBounds i true).toList=listed.toList.set i true:=by simp
   have h2:listed[i]=false:=by simp [hil] at hun;exact hun
   have g:i<listed.toList.length:=by simpa using hil
   have l:listed.toList[i]=false:=by simpa using h2
   have F:0<listed.toList.countP (fun b=>!b):=List.countP_pos_iff.2 ⟨false,by rw [← l];exact List.getElem_mem g,rfl⟩;have n:=List.countP_set (p:=fun b=>!b) (a:=true) g;simp only [l,a3,bI,bR,cP,bE] at n;rw [h1,n];omega
  have hpre:=JG hp hsl hcl i o ho hdeps;have hpre':∀ k∈pre i,(listed.getD k false && ev k)=true:=fun k hk=>by rw [hpre k hk,hpe i k hk];rfl
  have hput:∀ out',(∀ j,j<m→listed.getD j false=true→out j=out' j)→(fX ops a0 out (fun j=>listed.getD j false) m).put o.dst (out' i)=fX ops a0 out' (fun j=>(listed.setIfInBounds i true).getD j false) m:=by
   intro out' hout;rw [Hc hil,pM hsl hcl ho hun' m,aQ him,Jj m hout]
  have hT:(fun j=>(listed.setIfInBounds i true).getD j false && ev j)=if ev i=true then updY (fun j=>listed.getD j false && ev j) i true else (fun j=>listed.getD j false && ev j):=by
   funext j;rw [show (listed.setIfInBounds i true).getD j false=updY (fun j=>listed.getD j false) i true j from congrFun (Hc hil) j];by_cases he:ev i=true
   ·rw [aQ he];by_cases hji:j=i
    ·subst hji;simp [updY,he]
    rw [upd_neY _ _ hji,upd_neY _ _ hji]
   rw [aF he];by_cases hji:j=i
   ·subst hji;simp [he]
   rw [upd_neY _ _ hji]
  have hoki:=hok i o him ho;have again:∀ (v:ω) (w':aL),ev i=true→C (updY (fun j=>listed.getD j false && ev j) i true) (updY vals i v) w'→(fo o (yielded ops (iQ ops a0 out i).tmps)=true∨v=undef)→C (fun j=>listed.getD j false && ev j) vals w →
    wpAny P .any ops Q fuel (listed.setIfInBounds i true) ((fX ops a0 out (fun j=>listed.getD j false) m).put o.dst v) w':=by
   intro v w' he hC' hwv q;obtain ⟨out',hok',hfin'⟩:=nK r f (hwalk (updY vals i v));have hok'':=hok';have hsame:∀ e,(listed.getD e false && ev e)=true→vals e=updY vals i v e:=fun e h=>by
    rw [upd_neY];intro u;subst u;rw [hun'] at h;cases h
   have y:=hloc _ vals (updY vals i v) w hsame q;have houts:=r2 hsl hp hcl (T:=fun j=>listed.getD j false && ev j) (fun _=>rfl) hpe hok hok'' hsame q y;have houts':∀ j,j<m→listed.getD j false=true→out j=out' j:=fun j hj h=>houts j hj ops[j] (Array.getElem?_eq_getElem (by omega)) h
   have z:kP ops o (iQ ops a0 out i) (iQ ops a0 out' i):=by
    have h1:=JO (a0:=a0) (out:=out) hsl hcl ho hun' hdeps m (by omega);have h2:=JO (a0:=a0) (out:=out') hsl hcl ho hun' hdeps m (by omega);rw [Jj m houts'] at h1;exact fun t ht=>(h1 t ht).symm.trans (h2 t ht)
   have d:=hok'' i o him ho;have houti:out' i=v:=by
    unfold OKY at d;rw [← JL z] at d;by_cases hw:fo o (yielded ops (iQ ops a0 out i).tmps)=true
    ·rw [aQ hw,aQ he] at d;rw [d.1,upd_sameY]
    rw [aF hw] at d;rw [d.1];rcases hwv with h|h
    ·exact bH h hw
    exact h.symm
   have hh:=ih (listed.setIfInBounds i true) w' (updY vals i v) out' (by simpa using hsz) hok'' hfin' hhi' hcl' (by rw [hT,aQ he];exact hC') hcount';rw [← hput out' houts',houti] at hh;exact hh
  unfold wpOp;simp only [ho];rw [JL hal];unfold OKY at hoki;by_cases hw:fo o (yielded ops (iQ ops a0 out i).tmps)=true
  ·rw [aQ hw];rw [aQ hw] at hoki;refine .inl ?_;by_cases he:ev i=true
   ·rw [aQ he] at hoki;have hg:=hoki.2 _ w hC (by simp [hun']) hpre';have A:GivesY Zp P o (fX ops a0 out (fun j=>listed.getD j false) m) w _:=GivesY.congr (JH hns hal) hg;exact GivesY.wp (fun c w' hz=>hZ c _ w' (Je m).1 (Je m).2 hz) (A.mono fun v w' hC'=>again v w' he hC' (.inl hw) hC)
   rw [aF he] at hoki;have hr:=hoki _ w hC hpre';rw [← JH hns hal] at hr;have hh:=ih (listed.setIfInBounds i true) w vals out (by simpa using hsz) hok hfin hhi' hcl' (by rw [hT,aF he];exact hC) hcount';rw [← hput out (fun _ _ _=>rfl)] at hh;unfold ku;rw [hr];exact hh
  rw [aF hw];rw [aF hw] at hoki;by_cases he:ev i=true
  ·have hC':=hoki.2 he _ w hC (by simp [hun']);exact again undef w he hC' (.inr rfl) hC
  have hh:=ih (listed.setIfInBounds i true) w vals out (by simpa using hsz) hok hfin hhi' hcl' (by rw [hT,aF he];exact hC) hcount';rw [← hput out (fun _ _ _=>rfl),hoki.1] at hh;exact hh
def region_anyY {id:Nat}{w:aL}{l1 l2:List bG}(C:(Nat→Bool)→(Nat→ω)→aL→Prop)(pre:Nat→List Nat)(ev:Nat→Bool)(tp:List (List Nat))(hZ:∀ c a w,a.tmps.size=a0.tmps.size→a.defers=a0.defers→Zp c w→Q (.panic c) a w)(hfo:P.follows .mixedOrders=true)
  (hsl:slotsBY (l1++l2).toArray=true) (hp:preBY (l1++l2).toArray pre=true) (hpe:∀ i,∀ k∈pre i,ev k=true) (hevm:∀ i,ev i=true→i<l1.length) (hsuf:sufBY (l1++l2).toArray tp l1.length=true)
  (hloc:∀ S vals vals' w,(∀ e,S e=true→vals e=vals' e)→C S vals w→C S vals' w)
  (f:∀ vals,C (fun _=>false) vals { w with drawn:=w.drawn+1 })
  (hwalk:∀ vals,LxY Zp P (l1++l2).toArray C pre ev vals (fun a=>∀ S w,(∀ i,ev i=true→S i=true)→C S vals w→wpList P (l1++l2).toArray Q l2 a w) 0 l1 a0) :
  (Code.region id (l1++l2).toArray true).wp P Q a0 w:=by
 refine wp_region_any hfo ?_;have g:∀ j,j<l1.length→l1[j]? = (l1++l2).toArray[j]?:=fun j hj=>by simp [cI hj]
 obtain ⟨out,hok,hfin⟩:=nK g rfl (hwalk (fun _=>undef));generalize hN:(l1++l2).toArray.size=N;have hrep:(fun j=>(i2 N false).getD j false)=fun _=>false:=by funext j;by_cases hj:j<N<;>simp [hj]
 have hrj:∀ j,(i2 N false).getD j false=false:=fun j=>congrFun hrep j;have h:=v6 (Q:=Q) (a0:=a0) hZ hsl hp hpe (by simp) rfl hevm hsuf hloc hwalk N (i2 N false) { w with drawn:=w.drawn+1 } (fun _=>undef) out (by simp [← hN])
  hok hfin (fun j _=>hrj j) (by intro j o _ hj;have d:(i2 N false).getD j false=true:=hj;rw [hrj] at d;cases d)
  (by
   have:(fun i=>(i2 N false).getD i false && ev i)=fun _=>false:=by
    funext j;rw [hrj];rfl
   rw [this];exact f _)
  (by have:=List.countP_le_length (p:=fun b=>!b) (l:=(i2 N false).toList);simpa using this)
 rw [hrep,LJ _ (fun _ _=>rfl)] at h;exact h
end
end Go.Proofs.YticifeeokcgfkaaGreatDoor.Jy
namespace Go.Proofs.YticifeeokcgfkaaGreatDoor.Ab
section
open Go
inductive Pa where
 | fix (b:BK)
 | on (a e:Nat) (f:ω→BK→BK) (p:Pa)
def Pa.go (S:Nat→Bool)(vals:Nat→ω)(x:Nat→BK):Pa→BK
 | .fix b=>b
 | .on a e f p=>bif S a && S e then f (vals e) (x a) else p.go S vals x
def Pa.val (vals:Nat→ω)(x:Nat→BK):Pa→BK
 | .fix b=>b
 | .on a e f _=>f (vals e) (x a)
def Pa.no (i:Nat):Pa→Bool
 | .fix _=>true
 | .on a e _ p=>!(bM a i) && (!(bM e i) && p.no i)
def Pa.see (kn:Nat→Option Bool):Pa→Option Pa
 | .fix b=>some (.fix b)
 |
  .on a e f p=>match kn a with
  |
   some true=>match kn e with
   | some true=>some (.on a e f p)
   | _=>none
  | some false=>p.see kn
  | none=>none
def Pa.see_ok {kn:Nat→Option Bool}{S:Nat→Bool}{vals:Nat→ω}{x:Nat→BK}(hk:∀ e b,kn e=some b→S e=b):∀ {q q':Pa},q.see kn=some q'→q.go S vals x=q'.val vals x
 | .fix b,q',h=>by cases h;rfl
 |
  .on a e f p,q',h=>by
  unfold Pa.see at h;cases ha:kn a with
  | none=>rw [ha] at h;cases h
  |
   some b=>
   cases b with
   |
    true=>
    cases he:kn e with
    | none=>simp only [ha,he] at h;cases h
    |
     some b=>
     cases b with
     | true=>simp only [ha,he] at h;cases h;unfold Pa.go Pa.val;rw [hk a true ha,hk e true he];rfl
     | false=>simp only [ha,he] at h;cases h
   | false=>simp only [ha] at h;unfold Pa.go;rw [hk a false ha];exact Pa.see_ok hk h
def iJ (S:Nat→Bool)(vals:Nat→ω)(x:Nat→BK):List Pa→BK
 | []=>([],[])
 | q::l=>((q.go S vals x).1++(iJ S vals x l).1,(q.go S vals x).2++(iJ S vals x l).2)
section
variable {S S':Nat→Bool}{vals vals':Nat→ω}{x x':Nat→BK}
def Pa.go_eq:∀ {q:Pa} {K:Nat→Bool},(∀ e,K e=true→S e=S' e∧(S e=true→vals e=vals' e∧x e=x' e))→(∀ e,K e=false→q.no e=true)→q.go S vals x=q.go S' vals' x'
 | .fix b,K,_,_=>rfl
 |
  .on a e f p,K,h,hn=>by
  have hK:∀ z,(z=a∨z=e)→K z=true:=fun z hz=>by
   cases hk:K z with
   | true=>rfl
   |
    false=>
    have:=hn z hk;unfold Pa.no at this;rcases hz with rfl|rfl<;>simp at this
  obtain ⟨c,d⟩:=h a (hK a (.inl rfl));obtain ⟨g,j⟩:=h e (hK e (.inr rfl))
  unfold Pa.go;rw [← c,← g,Pa.go_eq (q:=p) h fun z hz=>by have:=hn z hz;unfold Pa.no at this;simp only [aR] at this;exact this.2.2];cases ha:S a with
  | false=>rfl
  |
   true=>
   cases he:S e with
   | false=>rfl
   | true=>rw [(j he).1,(d ha).2]
def kM {K:Nat→Bool}(h:∀ e,K e=true→S e=S' e∧(S e=true→vals e=vals' e∧x e=x' e)):∀ {l:List Pa},(∀ e,K e=false→l.all (Pa.no e)=true)→iJ S vals x l=iJ S' vals' x' l
 | [],_=>rfl
 |
  q::l,hn=>by
  unfold iJ;rw [Pa.go_eq (q:=q) h fun z hz=>by have:=hn z hz;simp only [List.all_cons,aR] at this;exact this.1,kM h (l:=l) fun z hz=>by have:=hn z hz;simp only [List.all_cons,aR] at this;exact this.2]
def C2:∀ {l:List Pa} {r:Nat} {q:Pa},l[r]? = some q→(iJ S vals x l).1.Perm ((q.go S vals x).1++(iJ S vals x (l.eraseIdx r)).1)∧(iJ S vals x l).2.Perm ((q.go S vals x).2++(iJ S vals x (l.eraseIdx r)).2)
 | [],r,q,h=>by simp at h
 | a::l,0,q,h=>by simp only [dB,aA] at h;subst h;exact ⟨aM _,aM _⟩
 |
  a::l,r+1,q,h=>by
  obtain ⟨h1,h2⟩:=C2 (l:=l) (r:=r) (q:=q) (by simpa using h);have sw:∀ {α:Type} {A B X R:List α},B.Perm (X++R)→(A++B).Perm (X++(A++R)):=fun {α A B X R} hb=>(fZ A hb).trans (by rw [← aS,← aS];exact mE R sR)
  exact ⟨sw h1,sw h2⟩
end
def kB (pre:List (List Nat))(ev:List Nat)(i e:Nat):Option Bool:=bif (pre.getD i []).contains e then some true else bif bM e i || (ev.contains e && (pre.getD e []).contains i) then some false else none
def kA (pre:List (List Nat))(ev:List Nat)(i e:Nat):Option Bool:=bif bM e i then some true else kB pre ev i e
def Gf:List Nat→((Nat→ω→D)→Prop)→Prop
 | [],K=>K fun _ _=>.any
 | e::l,K=>∃ d,Gf l fun f=>K fun i=>bif bM i e then d else f i
def vx:∀ {l:List Nat} {K:(Nat→ω→D)→Prop},Gf l K→∃ f,K f
 | [],_,h=>⟨_,h⟩
 |
  e::l,K,h=>by
  obtain ⟨d,h⟩:=h;obtain ⟨f,h⟩:=vx (l:=l) h;exact ⟨_,h⟩
section
variable (Zp:List e8→aL→Prop)(P:aJ)(C:Ctx)(N:Nat)(l:List bG)(m:Nat)(De:Nat→ω→D)(G:Nat→ω→BK→Prop)(ps:List Pa)(pre:List (List Nat))(ev:List Nat)(h:List (Nat × Blk))(k:List (Nat × ω))(Q:dH→S→Prop)
def Cu (H0:Hp)(S:Nat→Bool)(vals:Nat→ω)(w:aL):Prop:=
 ∃ H x,H0.le H∧Core C H (h++(iJ S vals x ps).1) (k++(iJ S vals x ps).2) w∧(∀ e,S e=true→ev.contains e=true→Rep H (De e (vals e)) (vals e)∧G e (vals e) (x e))∧∀ e,S e=true→ev.contains e=true→∀ q∈pre.getD e [],S q=true
def TOKu (H0:Hp)(bs:Nat→ω)(te:TE)(a:Act):Prop:=
 ∀ j d o,fQ te j=some (d,o)→∃ v,a.tmps[j]? = some v∧(o=none→∀ H,H0.le H→Rep H d v)∧∀ e,o=some e→v=bs e∧d=De e (bs e)∧ev.contains e=true
def Zu (bs:Nat→ω)(i:Nat)(rest:List bG)(te:TE):Prop:=
 ∀
  H0 a,TOKu De ev H0 bs te a→a.tmps.size=N→a.defers=[] →
  Jy.LxY Zp P l.toArray (Cu C De G ps pre ev h k H0) (fun i=>pre.getD i []) (fun i=>ev.contains i) bs (fun a=>∀ S w,(∀ i,ev.contains i=true→S i=true)→Cu C De G ps pre ev h k H0 S bs w→wpList P l.toArray (QD C N Q) (l.drop m) a w) i rest a
end
section
variable {Zp:List e8→aL→Prop}{P:aJ}{C:Ctx}{N:Nat}{l:List bG}{m:Nat}{De:Nat→ω→D}{G:Nat→ω→BK→Prop}{ps:List Pa}{pre:List (List Nat)}{ev:List Nat}{h:List (Nat × Blk)}{k:List (Nat × ω)}{Q:dH→S→Prop}{bs:Nat→ω}{i:Nat}{o:bG}{rest:List bG}{te:TE}{p:List Nat}
def GJ {H0 H:Hp}{a:Act}(kt:TOKu De ev H0 bs te a)(hle:H0.le H)(hev:∀ e,p.contains e=true→ev.contains e=true→Rep H (De e (bs e)) (bs e)):TOK H (fN p te) a:=by
 intro j d e;obtain ⟨d',o,h1,h2⟩:=IF e;obtain ⟨v,c,f,g⟩:=kt j d' o h1;refine ⟨v,c,?_⟩;rcases h2 with ⟨rfl,rfl⟩|⟨b,rfl,hp,rfl⟩|rfl;exact f rfl H hle;obtain ⟨rfl,rfl,n⟩:=g b rfl;exact hev b hp n;exact ⟨by simp [RepC],by cases v<;>rfl⟩
def I1 {H0:Hp}{a:Act}(kt:TOKu De ev H0 bs te a):TOK H0 (fN [] te) a:=GJ kt (Hp.le_refl _) fun e he=>by simp at he
def TOKu.putU {H0:Hp}{a:Act}(kt:TOKu De ev H0 bs te a){j:Nat}{d:D}{o:Option Nat}{v:ω}(hj:j<a.tmps.size)(h1:o=none→∀ H,H0.le H→Rep H d v)(h2:∀ e,o=some e→v=bs e∧d=De e (bs e)∧ev.contains e=true):TOKu De ev H0 bs ((j,d,o)::te) (a.put (some j) v):=by
 intro j' d' o' e;simp only [fQ] at e;simp only [io];cases hb:bM j j' with
 |
  true=>
  rw [hb] at e;simp at e;obtain ⟨rfl,rfl⟩:=e;have:=aX hb;subst this;exact ⟨v,by simp [hj],h1,h2⟩
 |
  false=>
  rw [hb] at e;simp at e;obtain ⟨u,b,c⟩:=kt j' d' o' e;exact ⟨u,by rw [f0 (fw hb)];exact b,c⟩
def qg {t':List (Nat×D)}(b:fN ev te=t')(hps:∀ e,ev.contains e=false→ps.all (Pa.no e)=true)(g:∀ x,(∀ e,ev.contains e=true→G e (bs e) (x e))→a1 P C N l (l.drop m) ⟨t',h++(iJ (fun _=>true) bs x ps).1,k++(iJ (fun _=>true) bs x ps).2⟩ Q):Zu Zp P C N l m De G ps pre ev h k Q bs i [] te:=by
 intro H0 a kt hN hdf S w hS ⟨H,x,hle,c,hev,_⟩;subst b;rw [kM (S:=S) (S':=fun _=>true) (vals':=bs) (x':=x) (K:=ev.contains) (fun e he=>⟨hS e he,fun _=>⟨rfl,rfl⟩⟩) hps] at c;exact g x (fun e he=>(hev e (hS e he) he).2) a w ⟨H,c,GJ kt hle fun e _ he=>(hev e (hS e he) he).1,hN,hdf⟩
def tK {v:ω}{d:D}{oo:Option Nat}{j:Nat}(hd:o.dst=some j)(hi:aZ j N=true)(h1:oo=none→∀ H,Rep H d v)(h2:∀ e,oo=some e→v=bs e∧d=De e (bs e)∧ev.contains e=true)(g:Zu Zp P C N l m De G ps pre ev h k Q bs (i+1) rest ((j,d,oo)::te)){H0:Hp}{a:Act}(kt:TOKu De ev H0 bs te a)(hN:a.tmps.size=N)(hdf:a.defers=[]) :
  Jy.LxY Zp P l.toArray (Cu C De G ps pre ev h k H0) (fun i=>pre.getD i []) (fun i=>ev.contains i) bs (fun a=>∀ S w,(∀ i,ev.contains i=true→S i=true)→Cu C De G ps pre ev h k H0 S bs w→wpList P l.toArray (QD C N Q) (l.drop m) a w) (i+1) rest (a.put o.dst v):=by
 rw [hd];refine g H0 _ (kt.putU (by rw [hN];simpa using hi) (fun e H _=>h1 e H) h2) ?_ hdf;simp only [io,fA];exact hN
def yN {j:Nat}(g:Zu Zp P C N l m De G ps pre ev h k Q bs (i+1) rest ((j,.v (.tuple #[]),none)::te))(hw:bC l (fN [] te) o=some false:=by rfl)(hd:o.dst=some j:=by rfl)(hi:aZ j N=true:=by rfl)(hne:ev.contains i=false:=by rfl):Zu Zp P C N l m De G ps pre ev h k Q bs i (o::rest) te:=by
 intro H0 a kt hN hdf;refine ⟨undef,?_,tK hd hi (fun _ H=>⟨by simp [RepC,undef,cT],rfl⟩) (fun e he=>by cases he) g kt hN hdf⟩;unfold Jy.OKY;rw [sZ (I1 kt) hw,aF (by simp)];exact ⟨rfl,fun he=>by have he':ev.contains i=true:=he;rw [hne] at he';cases he'⟩
def jQ {j:Nat}{b b':Bool}(e:b=b')(g:Zu Zp P C N l m De G ps pre ev h k Q bs i rest ((j,.v (.bool b'),none)::te))(hl:fQ te j=some (.v (.bool b),none):=by rfl):Zu Zp P C N l m De G ps pre ev h k Q bs i rest te:=by
 subst e;intro H0 a kt hN hdf;refine g H0 a (fun j' d o e=>?_) hN hdf;simp only [fQ] at e;cases hb:bM j j' with
 |
  true=>
  rw [hb] at e;simp at e;obtain ⟨rfl,rfl⟩:=e;have:=aX hb;subst this;exact kt _ _ _ hl
 | false=>rw [hb] at e;exact kt j' d o (by simpa using e)
def D2 {j:Nat}{x:ω}(hx:∀ hh kk H a w,Core C H (h++hh) (k++kk) w→TOK H (fN (pre.getD i []) te) a→∃ v,(bL a.eval o).run P w=.ok (.value v) w∧Rep H (.v x) v)(g:Zu Zp P C N l m De G ps pre ev h k Q bs (i+1) rest ((j,.v x,none)::te))(hw:bC l (fN [] te) o=some true:=by rfl)(hd:o.dst=some j:=by rfl)(hi:aZ j N=true:=by rfl)(hne:ev.contains i=false:=by rfl)(hone:one x=true:=by rfl):Zu Zp P C N l m De G ps pre ev h k Q bs i (o::rest) te:=by
 intro H0 a kt hN hdf;refine ⟨x,?_,tK hd hi (fun _ H=>dA hone) (fun e he=>by cases he) g kt hN hdf⟩;unfold Jy.OKY;rw [sZ (I1 kt) hw,aQ rfl,aF (by show ¬ ev.contains i=true;rw [hne];exact Bool.false_ne_true)];rintro S w ⟨H,y,hle,c,hev,_⟩ hpS;replace hpS:∀ k∈pre.getD i [],S k=true:=hpS;obtain ⟨v,h1,h2⟩:=hx _ _ H a w c (GJ kt hle fun e he b=>(hev e (hpS e (by simpa using he)) b).1);rw [eW h2] at h1;exact h1
def C4 {te':TE}(hx:∀ S x H a w,(∀ e b,kB pre ev i e=some b→S e=b)→(∀ e,(pre.getD i []).contains e=true→ev.contains e=true→G e (bs e) (x e))→Core C H (h++(iJ S bs x ps).1) (k++(iJ S bs x ps).2) w→TOK H (fN (pre.getD i []) te) a→Jy.GivesY Zp P o a w fun v w'=>∃ H' g,H.le H'∧Core C H' (h++(iJ (Jy.updY S i true) (Jy.updY bs i v) (Jy.updY x i g) ps).1) (k++(iJ (Jy.updY S i true) (Jy.updY bs i v) (Jy.updY x i g) ps).2) w'∧Rep H' (De i v) v∧G i v g)
  (hd:(∃ j,o.dst=some j∧aZ j N=true∧te'=(j,De i (bs i),some i)::te)∨(o.dst=none∧te'=te)) (g:Zu Zp P C N l m De G ps pre ev h k Q bs (i+1) rest te') (hw:bC l (fN [] te) o=some true) (he:ev.contains i=true):Zu Zp P C N l m De G ps pre ev h k Q bs i (o::rest) te:=by
 intro H0 a kt hN hdf;refine ⟨bs i,?_,?_⟩;unfold Jy.OKY;rw [sZ (I1 kt) hw,aQ rfl,aQ he];refine ⟨rfl,?_⟩;rintro S w ⟨H,x,hle,c,hev,hcl⟩ hSi hpS;replace hpS:∀ k∈pre.getD i [],S k=true:=hpS;have hk:∀ e b,kB pre ev i e=some b→S e=b:=fun e b hb=>by
  unfold kB at hb;cases h1:(pre.getD i []).contains e with
  | true=>rw [h1] at hb;cases hb;exact hpS e (by simpa using h1)
  |
   false=>
   rw [h1,θ] at hb;cases h2:bM e i with
   | true=>rw [h2] at hb;cases hb;rw [aX h2];exact hSi
   |
    false=>
    rw [h2,Bool.false_or] at hb;cases d:ev.contains e && (pre.getD e []).contains i with
    | false=>rw [d] at hb;cases hb
    |
     true=>
     rw [d] at hb;cases hb;simp only [aR] at d;cases hs:S e with
     | false=>rfl
     | true=>rw [hcl e hs d.1 i (by simpa using d.2)] at hSi;cases hSi
 refine (hx S x H a w hk (fun e h1 h2=>(hev e (hpS e (by simpa using h1)) h2).2) c (GJ kt hle fun e he f=>(hev e (hpS e (by simpa using he)) f).1)).mono ?_;rintro v w' ⟨H',g,hle',c',hr,hG⟩;refine ⟨H',Jy.updY x i g,Hp.le_trans hle hle',c',fun e hes hee=>?_,fun e hes hee q hq=>?_⟩;by_cases hei:e=i;subst hei;rw [Jy.upd_sameY,Jy.upd_sameY];exact ⟨hr,hG⟩;rw [Jy.upd_neY _ _ hei] at hes ⊢;rw [Jy.upd_neY _ _ hei];exact ⟨(hev e hes hee).1.mono hle',(hev e hes hee).2⟩;have hq':S q=true:=by by_cases hei:e=i;subst hei;exact hpS q hq;rw [Jy.upd_neY _ _ hei] at hes;exact hcl e hes hee q hq
 by_cases hqi:q=i;subst hqi;exact Jy.upd_sameY _ _ _;rw [Jy.upd_neY _ _ hqi];exact hq';rcases hd with ⟨j,hd,hi,rfl⟩|⟨hd,rfl⟩;exact tK hd hi (fun q=>by cases q) (fun e q=>by cases q;exact ⟨rfl,rfl,he⟩) g kt hN hdf;rw [hd];exact g H0 _ kt hN hdf
def Fs {S:Nat→Bool}{x:Nat→BK}{v:ω}{g:BK}{q:List Pa}(h:q.all (Pa.no i)=true):iJ (Jy.updY S i true) (Jy.updY bs i v) (Jy.updY x i g) q=iJ S bs x q:=
 kM (K:=fun e=>!(bM e i)) (fun e he=>by
  have hne:e≠i:=fun q=>by subst q;simp at he
  rw [Jy.upd_neY _ _ hne,Jy.upd_neY _ _ hne,Jy.upd_neY _ _ hne];exact ⟨rfl,fun _=>⟨rfl,rfl⟩⟩) fun e he=>by
  have:e=i:=aX (by simpa using he);subst this;exact h
def xj {j:Nat}{d:D}(hx:∀ hh kk H a w,Core C H (h++hh) (k++kk) w→TOK H (fN (pre.getD i []) te) a→Jy.GivesY Zp P o a w fun v w'=>∃ H',Core ⟨H,w,[]⟩ H' [] [] w'∧Rep H' d v)(g:Zu Zp P C N l m De G ps pre ev h k Q bs (i+1) rest ((j,d,some i)::te))(hw:bC l (fN [] te) o=some true:=by rfl)(hd:o.dst=some j:=by rfl)(hi:aZ j N=true:=by rfl)(he:ev.contains i=true:=by rfl)(hno:ps.all (Pa.no i)=true:=by rfl)(hDe:De i=(fun _=>d):=by rfl)(hG:G i=(fun _ _=>True):=by rfl):Zu Zp P C N l m De G ps pre ev h k Q bs i (o::rest) te:=by
 refine C4 (fun S x H a w _ _ c kt=>(hx _ _ H a w c kt).mono fun v w' ⟨H',c',hr⟩=>?_) (.inl ⟨j,hd,hi,rfl⟩) (by rw [hDe];exact g) hw he;refine ⟨H',([],[]),c'.le,?_,by rw [hDe];exact hr,by rw [hG];trivial⟩;rw [Fs hno];exact Core.call (h1:=[]) (k1:=[]) (h1':=[]) (k1':=[]) (h2:=h++(iJ S bs _ ps).1) (k2:=k++(iJ S bs _ ps).2) c c'
def D1 {j r:Nat}{d:D}{q b:Pa}(hr:ps[r]? = some q)(hx:∀ x,(∀ e,(pre.getD i []).contains e=true→ev.contains e=true→G e (bs e) (x e))→∀ hh kk H a w,Core C H ((b.val bs x).1++hh) ((b.val bs x).2++kk) w→TOK H (fN (pre.getD i []) te) a→Jy.GivesY Zp P o a w fun v w'=>∃ H',Core ⟨H,w,[]⟩ H' [] [] w'∧Rep H' d v)(g:Zu Zp P C N l m De G ps pre ev h k Q bs (i+1) rest ((j,d,some i)::te))(hq:q.see (kB pre ev i)=some b:=by rfl)(hw:bC l (fN [] te) o=some true:=by rfl)(hd:o.dst=some j:=by rfl)(hi:aZ j N=true:=by rfl)(he:ev.contains i=true:=by rfl)(hno:ps.all (Pa.no i)=true:=by rfl)(hDe:De i=(fun _=>d):=by rfl)(hG:G i=(fun _ _=>True):=by rfl):Zu Zp P C N l m De G ps pre ev h k Q bs i (o::rest) te:=by
 refine C4 (fun S x H a w hk hGx c kt=>?_) (.inl ⟨j,hd,hi,rfl⟩) (by rw [hDe];exact g) hw he;obtain ⟨f,p2⟩:=C2 (S:=S) (vals:=bs) (x:=x) hr;rw [Pa.see_ok hk hq] at f p2;have sw:∀ {α:Type} {A B X R:List α},B.Perm (X++R)→(A++B).Perm (X++(A++R)):=fun {α A B X R} hb=>(fZ A hb).trans (by rw [← aS,← aS];exact mE R sR);refine (hx x hGx _ _ H a w (c.perm (sw f) (sw p2)) kt).mono ?_;rintro v w' ⟨H',c',hr⟩;refine ⟨H',([],[]),c'.le,?_,by rw [hDe];exact hr,by rw [hG];trivial⟩;rw [Fs hno];exact Core.call (h1:=[]) (k1:=[]) (h1':=[]) (k1':=[]) (h2:=h++(iJ S bs _ ps).1) (k2:=k++(iJ S bs _ ps).2) c c'
def lL {r:Nat}{q d f:Pa}{te':TE}(hr:ps[r]? = some q)(hx:∀ x,(∀ e,(pre.getD i []).contains e=true→ev.contains e=true→G e (bs e) (x e))→∀ hh kk H a w,Core C H ((d.val bs x).1++hh) ((d.val bs x).2++kk) w→TOK H (fN (pre.getD i []) te) a→Jy.GivesY Zp P o a w fun v w'=>∃ H' g,H.le H'∧Core C H' ((f.val (Jy.updY bs i v) (Jy.updY x i g)).1++hh) ((f.val (Jy.updY bs i v) (Jy.updY x i g)).2++kk) w'∧Rep H' (De i v) v∧G i v g)
  (hd:(∃ j,o.dst=some j∧aZ j N=true∧te'=(j,De i (bs i),some i)::te)∨(o.dst=none∧te'=te)) (g:Zu Zp P C N l m De G ps pre ev h k Q bs (i+1) rest te') (hq:q.see (kB pre ev i)=some d) (u:q.see (kA pre ev i)=some f) (hw:bC l (fN [] te) o=some true) (he:ev.contains i=true) (hno:(ps.eraseIdx r).all (Pa.no i)=true):Zu Zp P C N l m De G ps pre ev h k Q bs i (o::rest) te:=by
 refine C4 (fun S x H a w hk hGx c kt=>?_) hd g hw he;obtain ⟨n,p2⟩:=C2 (S:=S) (vals:=bs) (x:=x) hr;rw [Pa.see_ok hk hq] at n p2;have sw:∀ {α:Type} {A B X R:List α},B.Perm (X++R)→(A++B).Perm (X++(A++R)):=fun {α A B X R} hb=>(fZ A hb).trans (by rw [← aS,← aS];exact mE R sR);refine (hx x hGx _ _ H a w (c.perm (sw n) (sw p2)) kt).mono ?_;rintro v w' ⟨H',g,hle,c',hr',hG⟩;refine ⟨H',g,hle,?_,hr',hG⟩;obtain ⟨s,t⟩:=C2 (S:=Jy.updY S i true) (vals:=Jy.updY bs i v) (x:=Jy.updY x i g) hr;have y:∀ e b,kA pre ev i e=some b→Jy.updY S i true e=b:=fun e b hb=>by
  unfold kA at hb;cases h2:bM e i with
  | true=>rw [h2] at hb;cases hb;rw [aX h2];exact Jy.upd_sameY _ _ _
  | false=>rw [h2] at hb;rw [Jy.upd_neY _ _ (fw h2)];exact hk e b hb
 rw [Pa.see_ok y u,Fs hno] at s t;exact c'.perm (sw s).symm (sw t).symm
def xm (l:List bG):List (List Nat):=l.foldl (fun acc o=>acc++[o.after.toList.foldl (fun a e=>bif im .any e then (e.on::acc.getD e.on []).foldl (fun a j=>bif a.contains j then a else j::a) a else a) []]) []
def i5 {id:Nat}{t:List (Nat×D)}{hA:List (Nat×Blk)}{kA:List (Nat×ω)}(ps:List Pa)(G:Nat→ω→BK→Prop)(m:Nat)(pre:List (List Nat))(ev:List Nat)(hQ:∀ c w,Zp c w→∃ s:S,(∃ H',Core C H' s.h s.k w)∧s.t=[]∧Q (.panic c) s)(hperm:hA.Perm (h++(iJ (fun _=>false) (fun _=>undef) (fun _=>([],[])) ps).1))(kperm:kA.Perm (k++(iJ (fun _=>false) (fun _=>undef) (fun _=>([],[])) ps).2))
  (hwalk:Gf ev fun De=>∀ bs,Zu Zp P C N l m De G ps pre ev h k Q bs 0 (l.take m) (BI t)) (hfo:P.follows .mixedOrders=true:=by kernel_rfl) (hsl:Jy.slotsBY l.toArray=true:=by kernel_rfl) (hp:Jy.preBY l.toArray (fun i=>pre.getD i [])=true:=by kernel_rfl) (hpe:pre.all (·.all ev.contains)=true:=by rfl) (hev:ev.all (· < (l.take m).length)=true:=by rfl) (hsuf:Jy.sufBY l.toArray (xm l) (l.take m).length=true:=by kernel_rfl):h8 P C N (.region id l.toArray true) ⟨t,hA,kA⟩ Q:=by
 obtain ⟨De,hwalk⟩:=vx hwalk;rintro a w ⟨H,c,kt,hN,hdf⟩;have key:=Jy.region_anyY (Zp:=Zp) (P:=P) (Q:=QD C N Q) (id:=id) (w:=w) (a0:=a) (l1:=l.take m) (l2:=l.drop m) (Cu C De G ps pre ev h k H) (fun i=>pre.getD i []) (fun i=>ev.contains i) (xm l) (fun c a' w' b f hz=>?_) hfo (by rw [fq];exact hsl) (by rw [fq];exact hp) (fun i j hj=>?_) (fun i hi=>?_)
  (by rw [fq];exact hsuf) (fun S vals vals' w hv ⟨H',x,hle,c',hr,hcl⟩=>⟨H',x,hle,?_,fun e hes hee=>by rw [← hv e hes];exact hr e hes hee,hcl⟩) (fun vals=>⟨H,fun _=>([],[]),Hp.le_refl H,?_,fun e (he:false=true)=>(by cases he),fun e (he:false=true)=>(by cases he)⟩) (fun vals=>?_)
 rw [fq] at key;exact key;obtain ⟨⟨u,g,n⟩,⟨H',c'⟩,rfl,hq⟩:=hQ c w' hz;exact ⟨⟨[],g,n⟩,⟨H',c',fun i d e=>by simp [dL] at e,by rw [b];exact hN,by rw [f];exact hdf⟩,hq⟩;rw [bY] at hpe;by_cases hi:i<pre.length;have e:pre.getD i []=pre[i]:=by simp [hi]
 rw [e] at hj;exact bY.1 (hpe _ (List.getElem_mem hi)) j hj;have e:pre.getD i []=[]:=by simp [Nat.le_of_not_lt hi]
 rw [e] at hj;cases hj;rw [bY] at hev;simpa using hev i (by simpa using hi);rw [← kM (S:=S) (S':=S) (vals:=vals) (vals':=vals') (x:=x) (x':=x) (K:=fun _=>true) (fun e _=>⟨rfl,fun hs=>⟨hv e hs,rfl⟩⟩) (fun e he=>by cases he)];exact c';rw [kM (S:=fun _=>false) (S':=fun _=>false) (vals:=vals) (vals':=fun _=>undef) (x':=fun _=>([],[])) (K:=fun _=>true) (fun e _=>⟨rfl,fun hs=>by cases hs⟩) (fun e he=>by cases he)];exact c.drew.perm hperm kperm;rw [fq];exact hwalk vals H a (fun j d o e=>by
  obtain ⟨h1,h2⟩:=Mw e;obtain ⟨v,q,r⟩:=kt j d h1;exact ⟨v,q,fun _ H' hle=>r.mono hle,fun e he=>by rw [h2] at he;cases he⟩) hN hdf
end
end
end Go.Proofs.YticifeeokcgfkaaGreatDoor.Ab
namespace Go.Proofs.YticifeeokcgfkaaGreatDoor.Ab
section
open Go
section
variable {Zp:List e8→aL→Prop}{C:Ctx}{N:Nat}{l:List bG}{m:Nat}{De:Nat→ω→D}{G:Nat→ω→BK→Prop}{ps:List Pa}{pre:List (List Nat)}{ev:List Nat}{h:List (Nat × Blk)}{k:List (Nat × ω)}{Q:dH→S→Prop}{bs:Nat→ω}{i:Nat}{o:bG}{rest:List bG}{te:TE}{j:Nat}{d:D}
def rD {a:Act}{w w':aL}{r:ω}{K:ω→aL→Prop}(h1:(bL a.eval o).run Tryz.prog w=.ok (.value r) w')(hk:K r w'):Jy.GivesY Zp Tryz.prog o a w K:=by
 unfold Jy.GivesY;rw [h1];exact hk
def tJ {x:ω}(hx:Ex Tryz.prog o (fN (pre.getD i []) te) (.v x))(g:Zu Zp Tryz.prog C N l m De G ps pre ev h k Q bs (i+1) rest ((j,.v x,none)::te))(hw:bC l (fN [] te) o=some true:=by rfl)(hd:o.dst=some j:=by rfl)(hi:aZ j N=true:=by rfl)(hne:ev.contains i=false:=by rfl)(hone:one x=true:=by rfl):Zu Zp Tryz.prog C N l m De G ps pre ev h k Q bs i (o::rest) te:=D2 (fun _ _ H a w _ kt=>hx H a w kt) g hw hd hi hne hone
def uq {x:ω}(g:Zu Zp Tryz.prog C N l m De G ps pre ev h k Q bs (i+1) rest ((j,.v x,none)::te))(hx:nW tab (fN (pre.getD i []) te) o.op=some (.v x):=by rfl)(hw:bC l (fN [] te) o=some true:=by rfl)(hd:o.dst=some j:=by rfl)(hi:aZ j N=true:=by rfl)(hne:ev.contains i=false:=by rfl)(hone:one x=true:=by rfl):Zu Zp Tryz.prog C N l m De G ps pre ev h k Q bs i (o::rest) te:=tJ (mj htab hx) g hw hd hi hne hone
def zy {x:ω}(hx:Gg Tryz.prog C h k o (fN (pre.getD i []) te) (.v x))(g:Zu Zp Tryz.prog C N l m De G ps pre ev h k Q bs (i+1) rest ((j,.v x,none)::te))(hw:bC l (fN [] te) o=some true:=by rfl)(hd:o.dst=some j:=by rfl)(hi:aZ j N=true:=by rfl)(hne:ev.contains i=false:=by rfl)(hone:one x=true:=by rfl):Zu Zp Tryz.prog C N l m De G ps pre ev h k Q bs i (o::rest) te:=D2 (fun _ _ H a w c kt=>hx _ H a w (c.drop (bT _) (List.sublist_append_left _ _)) kt) g hw hd hi hne hone
def kT (hx:Ex Tryz.prog o (fN (pre.getD i []) te) d)(g:Zu Zp Tryz.prog C N l m De G ps pre ev h k Q bs (i+1) rest ((j,d,some i)::te))(hw:bC l (fN [] te) o=some true:=by rfl)(hd:o.dst=some j:=by rfl)(hi:aZ j N=true:=by rfl)(he:ev.contains i=true:=by rfl)(hno:ps.all (Pa.no i)=true:=by rfl)(hDe:De i=(fun _=>d):=by rfl)(hG:G i=(fun _ _=>True):=by rfl):Zu Zp Tryz.prog C N l m De G ps pre ev h k Q bs i (o::rest) te:=xj (fun _ _ H a w c kt=>let ⟨_,h1,h2⟩:=hx H a w kt;rD h1 ⟨H,Core.here c.ag,h2⟩) g hw hd hi he hno hDe hG
def ue (g:Zu Zp Tryz.prog C N l m De G ps pre ev h k Q bs (i+1) rest ((j,d,some i)::te))(hx:nW tab (fN (pre.getD i []) te) o.op=some d:=by rfl)(hw:bC l (fN [] te) o=some true:=by rfl)(hd:o.dst=some j:=by rfl)(hi:aZ j N=true:=by rfl)(he:ev.contains i=true:=by rfl)(hno:ps.all (Pa.no i)=true:=by rfl)(hDe:De i=(fun _=>d):=by rfl)(hG:G i=(fun _ _=>True):=by rfl):Zu Zp Tryz.prog C N l m De G ps pre ev h k Q bs i (o::rest) te:=kT (mj htab hx) g hw hd hi he hno hDe hG
def e9 (hx:Gg Tryz.prog C h k o (fN (pre.getD i []) te) d)(g:Zu Zp Tryz.prog C N l m De G ps pre ev h k Q bs (i+1) rest ((j,d,some i)::te))(hw:bC l (fN [] te) o=some true:=by rfl)(hd:o.dst=some j:=by rfl)(hi:aZ j N=true:=by rfl)(he:ev.contains i=true:=by rfl)(hno:ps.all (Pa.no i)=true:=by rfl)(hDe:De i=(fun _=>d):=by rfl)(hG:G i=(fun _ _=>True):=by rfl):Zu Zp Tryz.prog C N l m De G ps pre ev h k Q bs i (o::rest) te:=xj (fun _ _ H a w c kt=>let ⟨_,h1,h2⟩:=hx _ H a w (c.drop (bT _) (List.sublist_append_left _ _)) kt;rD h1 ⟨H,Core.here c.ag,h2⟩) g hw hd hi he hno hDe hG
def sT (hx:ExE Tryz.prog o (fN (pre.getD i []) te) d)(g:Zu Zp Tryz.prog C N l m De G ps pre ev h k Q bs (i+1) rest ((j,d,some i)::te))(hw:bC l (fN [] te) o=some true:=by rfl)(hd:o.dst=some j:=by rfl)(hi:aZ j N=true:=by rfl)(he:ev.contains i=true:=by rfl)(hno:ps.all (Pa.no i)=true:=by rfl)(hDe:De i=(fun _=>d):=by rfl)(hG:G i=(fun _ _=>True):=by rfl):Zu Zp Tryz.prog C N l m De G ps pre ev h k Q bs i (o::rest) te:=xj (fun _ _ H a w c kt=>let ⟨_,_,H',h1,h2,b⟩:=hx H a w c.ag kt;rD h1 ⟨H',h2,b⟩) g hw hd hi he hno hDe hG
def tI {q b:Pa}(r:Nat){hb:List (Nat×Blk)}{kb:List (Nat×ω)}(hr:ps[r]? = some q)(hq:q.see (kB pre ev i)=some b)(hb':∀ x,(∀ e,(pre.getD i []).contains e=true→ev.contains e=true→G e (bs e) (x e))→b.val bs x=(hb,kb))(hx:Gg Tryz.prog C hb kb o (fN (pre.getD i []) te) d)(g:Zu Zp Tryz.prog C N l m De G ps pre ev h k Q bs (i+1) rest ((j,d,some i)::te))(hw:bC l (fN [] te) o=some true:=by rfl)(hd:o.dst=some j:=by rfl)(hi:aZ j N=true:=by rfl)(he:ev.contains i=true:=by rfl)(hno:ps.all (Pa.no i)=true:=by rfl)(hDe:De i=(fun _=>d):=by rfl)(hG:G i=(fun _ _=>True):=by rfl):Zu Zp Tryz.prog C N l m De G ps pre ev h k Q bs i (o::rest) te:=D1 hr (fun x hG hh kk H a w c kt=>let ⟨_,h1,h2⟩:=hx hh H a w (by rw [hb' x hG] at c;exact c.drop (bT _) (List.sublist_append_left _ _)) kt;rD h1 ⟨H,Core.here c.ag,h2⟩) g hq hw hd hi he hno hDe hG
def qf {f args ts t ds ds' hg kg}{R:D→List (Nat×Blk)→List (Nat×ω)→Prop}(hc:CallsD Tryz.prog f ds' hg kg R)(hwk:WkL ds ds')(ho:o.op=.call ⟨.value (.func f),args.toArray,ts⟩)(ha:kp args (cS t)=some ds){hh kk H a w}(c:Core C H (hg++hh) (kg++kk) w)(kt:TOK H t a) :
  Jy.GivesY Zp Tryz.prog o a w fun v w'=>∃ H' d' h' k',Core ⟨H,w,K4 hg kg⟩ H' h' k' w'∧H.le H'∧Core C H' (h'++hh) (k'++kk) w'∧Rep H' d' v∧R d' h' k':=by
 unfold Jy.GivesY;rw [GM ho hc.1];simp only [];have hv:=hwk H _ (An kt ha);rw [List.map_toArray];have nd:=(y0 hg hh kg kk).nodup_iff.1 c.nd;rw [zh] at nd;refine (hc.2 H w _ hv c.ag (fun q hq=>c.blks q (cF _ hq)) (fun q hq=>c.toks q (cF _ hq)) nd.1).mono ?_;rintro e w' ⟨v,H',d',h',k',rfl,hr,hcore,hR⟩;exact .inl ⟨v,rfl,H',d',h',k',hcore,hcore.le,Core.call (h1:=hg) (k1:=kg) (h2:=hh) (k2:=kk) c hcore,hr,hR⟩
def f8 {f args ts ds ds'}(hc:CallsD Tryz.prog f ds' [] [] (fun d' h k=>d'=d∧h=[]∧k=[]))(hwk:WkL ds ds')(g:Zu Zp Tryz.prog C N l m De G ps pre ev h k Q bs (i+1) rest ((j,d,some i)::te))(ho:o.op=.call ⟨.value (.func f),args.toArray,ts⟩:=by rfl)(ha:kp args (cS (fN (pre.getD i []) te))=some ds:=by rfl)(hw:bC l (fN [] te) o=some true:=by rfl)(hd:o.dst=some j:=by rfl)(hi:aZ j N=true:=by rfl)(he:ev.contains i=true:=by rfl)(hno:ps.all (Pa.no i)=true:=by rfl)(hDe:De i=(fun _=>d):=by rfl)(hG:G i=(fun _ _=>True):=by rfl):Zu Zp Tryz.prog C N l m De G ps pre ev h k Q bs i (o::rest) te:=
 xj (fun _ _ H a w c kt=>(qf hc hwk ho ha (hg:=[]) (kg:=[]) c kt).mono fun v w' ⟨H',d',h',k',hcore,_,_,hr,b,e,n⟩=>by subst b e n;exact ⟨H',hcore,hr⟩) g hw hd hi he hno hDe hG
def kC {f:FuncId}{args:List aH}{ts:Array aD}{ds ds':List D}{x:Nat×Blk}(b:Nat)(hc:CallsD Tryz.prog f ds' [x] [] (fun d' h k=>d'=d∧h=[x]∧k=[]))(hwk:WkL ds ds')(g:Zu Zp Tryz.prog C N l m De G ps pre ev h k Q bs (i+1) rest ((j,d,some i)::te))(hb:h[b]? = some x:=by rfl)(ho:o.op=.call ⟨.value (.func f),args.toArray,ts⟩:=by rfl)(ha:kp args (cS (fN (pre.getD i []) te))=some ds:=by rfl)(hw:bC l (fN [] te) o=some true:=by rfl)(hd:o.dst=some j:=by rfl)(hi:aZ j N=true:=by rfl)(he:ev.contains i=true:=by rfl)(hno:ps.all (Pa.no i)=true:=by rfl)(hDe:De i=(fun _=>d):=by rfl)(hG:G i=(fun _ _=>True):=by rfl):Zu Zp Tryz.prog C N l m De G ps pre ev h k Q bs i (o::rest) te:=by
 refine C4 (fun S y H a w _ _ c kt=>?_) (.inl ⟨j,hd,hi,rfl⟩) (by rw [hDe];exact g) hw he;have hbl:b<h.length:=(aP.1 hb).1;have hp:=KO (show (h++(iJ S bs y ps).1)[b]? = some x by rw [cI hbl];exact hb);refine (qf hc hwk ho ha (hg:=[x]) (kg:=[]) (c.perm hp (aM _)) kt).mono ?_;rintro v w' ⟨H',d',h',k',_,hle,hcore,hr,rfl,rfl,rfl⟩;refine ⟨H',([],[]),hle,?_,by rw [hDe];exact hr,by rw [hG];trivial⟩;rw [Fs hno];exact hcore.perm hp.symm (aM _)
def La {f}{args:List aH}{ts:Array aD}{ds ds' hg kg}{R:D→List (Nat×Blk)→List (Nat×ω)→Prop}{q e:Pa}{r:Nat}(hc:CallsD Tryz.prog f ds' hg kg R)(hwk:WkL ds ds')(hR:∀ H d' hb kb v,R d' hb kb→Rep H d' v→G i v (hb,kb)∧Rep H (De i v) v)
  (g:Zu Zp Tryz.prog C N l m De G ps pre ev h k Q bs (i+1) rest ((j,De i (bs i),some i)::te)) (hr:ps[r]? = some q) (hq:q.see (kB pre ev i)=some (.fix (hg,kg))) (n:q.see (kA pre ev i)=some e) (h2:∀ x v b,e.val (Jy.updY bs i v) (Jy.updY x i b)=b) (ho:o.op=.call ⟨.value (.func f),args.toArray,ts⟩) (ha:kp args (cS (fN (pre.getD i []) te))=some ds) (hw:bC l (fN [] te) o=some true) (hd:o.dst=some j) (hi:aZ j N=true) (he:ev.contains i=true) (hno:(ps.eraseIdx r).all (Pa.no i)=true):Zu Zp Tryz.prog C N l m De G ps pre ev h k Q bs i (o::rest) te:=by
 refine lL hr (fun x _ hh kk H a w c kt=>(qf hc hwk ho ha (hg:=hg) (kg:=kg) c kt).mono ?_) (.inl ⟨j,hd,hi,rfl⟩) g hq n hw he hno;rintro v w' ⟨H',d',h',k',_,hle,hcore,hr,hRR⟩;obtain ⟨h1,p⟩:=hR H' d' h' k' v hRR hr;refine ⟨H',(h',k'),hle,?_,p,h1⟩;rw [h2];exact hcore
def mU {f}{args:List aH}{ts:Array aD}{ds ds' hg kg}{R:D→List (Nat×Blk)→List (Nat×ω)→Prop}{q a:Pa}(r:Nat)(hc:CallsD Tryz.prog f ds' hg kg R)(hwk:WkL ds ds')(hR:∀ d' hb kb v,R d' hb kb→Wk d' d∧G i v (hb,kb))
  (g:Zu Zp Tryz.prog C N l m De G ps pre ev h k Q bs (i+1) rest ((j,d,some i)::te)) (hDe:De i=(fun _=>d):=by rfl) (hr:ps[r]? = some q:=by rfl) (hq:q.see (kB pre ev i)=some (.fix (hg,kg)):=by rfl) (c:q.see (kA pre ev i)=some a:=by rfl) (h2:∀ x v b,a.val (Jy.updY bs i v) (Jy.updY x i b)=b:=by intros;rfl) (ho:o.op=.call ⟨.value (.func f),args.toArray,ts⟩:=by rfl) (ha:kp args (cS (fN (pre.getD i []) te))=some ds:=by rfl) (hw:bC l (fN [] te) o=some true:=by rfl) (hd:o.dst=some j:=by rfl) (hi:aZ j N=true:=by rfl) (he:ev.contains i=true:=by rfl) (hno:(ps.eraseIdx r).all (Pa.no i)=true:=by rfl):Zu Zp Tryz.prog C N l m De G ps pre ev h k Q bs i (o::rest) te:=
 La hc hwk (fun H d' hb kb v hRR hr=>⟨(hR d' hb kb v hRR).2,by rw [hDe];exact (hR d' hb kb v hRR).1 H v hr⟩) (by rw [hDe];exact g) hr hq c h2 ho ha hw hd hi he hno
def D4 {f}{args:List aH}{ts:Array aD}{ds ds' hg kg}{R:D→List (Nat×Blk)→List (Nat×ω)→Prop}{q a:Pa}(r:Nat)(hc:CallsD Tryz.prog f ds' hg kg R)(hwk:WkL ds ds')(hR:∀ H d' hb kb v,R d' hb kb→Rep H d' v→G i v (hb,kb)∧one v=true)
  (g:Zu Zp Tryz.prog C N l m De G ps pre ev h k Q bs (i+1) rest ((j,.v (bs i),some i)::te)) (hDe:De i=(fun v=>.v v):=by rfl) (hr:ps[r]? = some q:=by rfl) (hq:q.see (kB pre ev i)=some (.fix (hg,kg)):=by rfl) (c:q.see (kA pre ev i)=some a:=by rfl) (h2:∀ x v b,a.val (Jy.updY bs i v) (Jy.updY x i b)=b:=by intros;rfl) (ho:o.op=.call ⟨.value (.func f),args.toArray,ts⟩:=by rfl) (ha:kp args (cS (fN (pre.getD i []) te))=some ds:=by rfl) (hw:bC l (fN [] te) o=some true:=by rfl) (hd:o.dst=some j:=by rfl) (hi:aZ j N=true:=by rfl) (he:ev.contains i=true:=by rfl) (hno:(ps.eraseIdx r).all (Pa.no i)=true:=by rfl):Zu Zp Tryz.prog C N l m De G ps pre ev h k Q bs i (o::rest) te:=
 La hc hwk (fun H d' hb kb v hRR hr=>⟨(hR H d' hb kb v hRR hr).1,by rw [hDe];exact dA (hR H d' hb kb v hRR hr).2⟩) (by rw [hDe];exact g) hr hq c h2 ho ha hw hd hi he hno
def D5 {f args ts ds}(e r:Nat)(hq){hr}(ho:o.op=.call ⟨.value (.func f),args.toArray,ts⟩)(ha:kp args (cS (fN (pre.getD i []) te))=some ds)(hqr:h.Perm (hq++hr))(hc:∀ b,G e (bs e) b→CallsD Tryz.prog f ds (hq++b.1) b.2 (fun d' h' k'=>d'=d∧h'=hq∧k'=[]))
  (g:Zu Zp Tryz.prog C N l m De G ps pre ev h k Q bs (i+1) rest ((j,d,some i)::te)) (hp:ps[r]? = some (.on i i (fun _ _=>([],[])) (.on e e (fun _ b=>b) (.fix ([],[])))):=by rfl) (s:(pre.getD i []).contains e=true:=by rfl) (t:ev.contains e=true:=by rfl) (hqs:Pa.see (kB pre ev i) (.on i i (fun _ _=>([],[])) (.on e e (fun _ b=>b) (.fix ([],[]))))=some (.on e e (fun _ b=>b) (.fix ([],[]))):=by rfl) (hw:bC l (fN [] te) o=some true:=by rfl) (hd:o.dst=some j:=by rfl) (hi:aZ j N=true:=by rfl) (he:ev.contains i=true:=by rfl) (hno:(ps.eraseIdx r).all (Pa.no i)=true:=by rfl) (hDe:De i=(fun _=>d):=by rfl) (hG:G i=(fun _ _=>True):=by rfl):Zu Zp Tryz.prog C N l m De G ps pre ev h k Q bs i (o::rest) te:=by
 refine C4 (fun S x H a w hk hGx c kt=>?_) (.inl ⟨j,hd,hi,rfl⟩) (by rw [hDe];exact g) hw he;obtain ⟨q,p2⟩:=C2 (S:=S) (vals:=bs) (x:=x) hp;rw [Pa.see_ok hk hqs] at q p2;have sw:∀ {α:Type} {A B X R:List α},B.Perm (X++R)→(A++B).Perm (X++(A++R)):=fun {α A B X R} hb=>(fZ A hb).trans (by rw [← aS,← aS];exact mE R sR);have u:(h++(iJ S bs x ps).1).Perm ((hq++(x e).1)++(hr++(iJ S bs x (ps.eraseIdx r)).1)):=(List.Perm.append hqr q).trans (by
  rw [aS,aS];exact fZ hq (sw (aM _)))
 refine (qf (hc _ (hGx e s t)) (WkL.refl _) ho ha (hg:=hq++(x e).1) (kg:=(x e).2) (c.perm u (sw p2)) kt).mono ?_;rintro v w' ⟨H',d',h',k',_,hle,hcore,hr',rfl,rfl,rfl⟩;refine ⟨H',([],[]),hle,?_,by rw [hDe];exact hr',by rw [hG];trivial⟩;obtain ⟨n,p⟩:=C2 (S:=Jy.updY S i true) (vals:=Jy.updY bs i v) (x:=Jy.updY x i ([],[])) hp;rw [Fs hno] at n p;simp only [Pa.go,Jy.upd_sameY,Bool.and_self,ξ,a8] at n p;refine hcore.perm ?_ (by simpa using fZ k p.symm);rw [← aS];exact List.Perm.append hqr.symm n.symm
def Il {kk bb:Nat}{T T' e e':aD}{x z:aH}{xs ys:List D}{zs:List D}{c':Cap}{b c ie:TI}{y:ω}{q f:Pa}(r:Nat)(hr:ps[r]? = some q)(hq:q.see (kB pre ev i)=some (.fix ([],[(kk,y)])))(n:q.see (kA pre ev i)=some f)(h2:∀ x v,f.val (Jy.updY bs i v) (Jy.updY x i ([],[]))=([],[(kk,v)]))(ho:o.op=.call ⟨.builtin .append,[x,z].toArray,#[T,T']⟩)(hx:cS (fN (pre.getD i []) te) x=some (.lst kk xs (.cur y)))(hy:cS (fN (pre.getD i []) te) z=some (.lst kk ys c'))(p:ti tab T=some b)(t:b.d=.slice e)(A:ti tab T'=some c)(B:c.d=.slice e')(hie:ti tab e=some ie)(hks:ie.size=kk)(hbb:ie.bytes=bb)(hz:ie.zero.length=kk)(F:cK 1 bb=true)(hw:bC l (fN [] te) o=some true)(hd:o.dst=some j)(hi:aZ j N=true)(he:ev.contains i=true)(hno:(ps.eraseIdx r).all (Pa.no i)=true)(hDe:De i=(fun v=>.lst kk zs (.cur v)))(hG:G i=(fun _ _=>True))(hbound:(xs.length+ys.length)*bb≤140737488355328)(hzs:xs++ys=zs)(g:Zu Zp Tryz.prog C N l m De G ps pre ev h k Q bs (i+1) rest ((j,.lst kk zs (.cur (bs i)),some i)::te)):Zu Zp Tryz.prog C N l m De G ps pre ev h k Q bs i (o::rest) te:=by
 subst hzs;refine lL hr (fun u _ hh kk' H a w core kt=>?_) (.inl ⟨j,hd,hi,rfl⟩) (by rw [hDe];exact g) hq n hw he hno;obtain ⟨v,w',H',k1,k2,I,J⟩:=rf (P:=Tryz.prog) (ty:=o.type) htab (core.perm (aM _) (aM _)) (BG hx H a kt) (eh kt hx) (eh kt hy) p t A B hie hks hbb hz (bS F) hbound;refine rD (sI (s:=dZ) ho (fun _ _=>rfl) (by simpa using k1)) ⟨H',([],[]),k2,?_,by rw [hDe];exact J,by rw [hG];trivial⟩;rw [h2];exact I
def it {b off:Nat}{T T':aD}{x z:aH}{ds:List D}{e:TI}{dd:D}{q f n:Pa}(ds':List D)(r:Nat)(g:Zu Zp Tryz.prog C N l m De G ps pre ev h k Q bs (i+1) rest te)(hr:ps[r]? = some q:=by rfl)(hq:q.see (kB pre ev i)=some f:=by rfl)(p:q.see (kA pre ev i)=some n:=by rfl)(h1:∀ x,f.val bs x=([(b,.cells ds T')],[]):=by intros;rfl)(h2:∀ x v,n.val (Jy.updY bs i v) (Jy.updY x i ([],[]))=([(b,.cells ds' T')],[]):=by intros;rfl)(ho:o.op=.store T x z:=by rfl)(hx:cS (fN (pre.getD i []) te) x=some (.ptr b off):=by rfl)(hti:ti tab T=some e:=by rfl)(hy:cS (fN (pre.getD i []) te) z=some dd:=by rfl)(hs:iv dd=true:=by rfl)(hsz:bM (eK dd).length e.size=true:=by rfl)(hle:cK (off+e.size) ds.length=true:=by rfl)(s:mF ds off (eK dd)=ds':=by rfl)(hw:bC l (fN [] te) o=some true:=by rfl)(hd:o.dst=none:=by rfl)(he:ev.contains i=true:=by rfl)(hno:(ps.eraseIdx r).all (Pa.no i)=true:=by rfl)(hDe:De i=(fun _=>.any):=by rfl)(hG:G i=(fun _ _=>True):=by rfl):Zu Zp Tryz.prog C N l m De G ps pre ev h k Q bs i (o::rest) te:=by
 subst s;refine lL hr (fun y _ hh kk H a w c kt=>?_) (.inr ⟨hd,rfl⟩) g hq p hw he hno;rw [h1] at c;obtain ⟨us,k1,k2,F⟩:=c.blks _ (cF _ (aT.2 rfl));have hv:=FE hs (eh kt hy);have hlen:=wh hv;have I:=wh k2;have f:=aX hsz;have n:=bS hle;obtain ⟨w',t,henv,u,A,B⟩:=Ao (P:=Tryz.prog) (b:=b) (off:=off) (a.eval z).cells.toList 0 w us k1 (by omega) (BV hv);have hrun:(iq T (a.eval x) (a.eval z)).run Tryz.prog w=.ok () w':=by rw [s8 (eh kt hx)];unfold iq;rw [KL (a:=(⟨b,off,none⟩:Addr)) rfl];unfold storeVar;rw [KL (lD (b4 htab hti)),aF (by simp only [b9] at hlen;omega)];exact t
 have hex:(bL a.eval o).run Tryz.prog w=.ok .skip w':=by unfold bL;rw [ho];show ((iq T (a.eval x) (a.eval z)) >>= fun _=>pure Next.skip).run Tryz.prog w=_;rw [KL hrun];rfl
 unfold Jy.GivesY;rw [hex];have cw:=c.write (j:=0) rfl henv u A B (by simpa using IJ k2 hv off);refine ⟨H,([],[]),Hp.le_refl H,?_,by rw [hDe];simp only [Rep,RepC];exact ⟨trivial,rfl⟩,by rw [hG];trivial⟩;rw [h2];exact cw
def tL {T:aD}{b:TI}{zs:List D}{q f:Pa}(r:Nat)(g:Zu Zp Tryz.prog C N l m De G ps pre ev h k Q bs (i+1) rest ((j,.ptr (blk (bs i)) 0,some i)::te))(hr:ps[r]? = some q:=by rfl)(hq:q.see (kB pre ev i)=some (.fix ([],[])):=by rfl)(n:q.see (kA pre ev i)=some f:=by rfl)(h2:∀ x v,f.val (Jy.updY bs i v) (Jy.updY x i ([],[]))=([(blk v,.cells zs T)],[]):=by intros;rfl)(ho:o.op=.alloc T:=by rfl)(hti:ti tab T=some b:=by rfl)(hz:b.zero.all one=true:=by rfl)(ez:b.zero.map sr=zs:=by rfl)(hw:bC l (fN [] te) o=some true:=by rfl)(hd:o.dst=some j:=by rfl)(hi:aZ j N=true:=by rfl)(he:ev.contains i=true:=by rfl)(hno:(ps.eraseIdx r).all (Pa.no i)=true:=by rfl)(hDe:De i=(fun v=>.ptr (blk v) 0):=by rfl)(hG:G i=(fun _ _=>True):=by rfl):Zu Zp Tryz.prog C N l m De G ps pre ev h k Q bs i (o::rest) te:=by
 refine lL hr (fun y _ hh kk H a w c kt=>?_) (.inl ⟨j,hd,hi,rfl⟩) (by rw [hDe];exact g) hq n hw he hno;replace c:Core C H hh kk w:=c;obtain ⟨z,k1,k2⟩:=wZ (w:=w) (b4 htab hti);have hrun:(bL a.eval o).run Tryz.prog w=.ok (.value (.pointer (some ⟨w.heap.size,0,none⟩))) (w.alloc (.cells z.cells T)):=by unfold bL;rw [ho];refine iC ?_;unfold Instr.alloc;rw [KL k1];simp only [];rw [KL Hl];simp;first|done|rfl
 have hrep:Reps H zs z.cells.toList:=by
  rw [k2,← ez];rw [bY] at hz;revert hz;generalize b.zero=e;intro hz;induction e with
  | nil=>simp [Reps]
  |
   cons u e ih=>
   simp only [a7,Reps];exact ⟨u,e,rfl,⟨(BM H u).1,hz u (by simp),(BM H u).2⟩,ih (fun x hx=>hz x (by simp [hx]))⟩
 have c':=c.alloc T hrep;refine rD hrun ⟨H,([],[]),Hp.le_refl H,?_,by rw [hDe];exact j6 (by simp [RepC,blk]) rfl rfl,by rw [hG];trivial⟩;rw [h2];exact Core.perm (h:=hh++[(w.heap.size,Blk.cells zs T)]) (k:=kk) (by simpa using c') sR (aM _)
def Pa.of (ev:List Nat):Pa→Bool
 | .fix _=>true
 | .on a e _ p=>ev.contains a && (ev.contains e && p.of ev)
def Pa.of_no {e:Nat}(he:ev.contains e=false):∀ {q:Pa},q.of ev=true→q.no e=true
 | .fix _,_=>rfl
 |
  .on a b f p,h=>by
  unfold Pa.of at h;simp only [aR] at h;unfold Pa.no;have ne:∀ {z:Nat},ev.contains z=true→bM z e=false:=fun {z} hz=>by
   cases hb:bM z e with
   | false=>rfl
   | true=>rw [aX hb,he] at hz;cases hz
  rw [ne h.1,ne h.2.1,Pa.of_no he h.2.2];rfl
def D3 (h:ps.all (Pa.of ev)=true)(e:Nat)(he:ev.contains e=false):ps.all (Pa.no e)=true:=by
 rw [bY] at h ⊢;exact fun q hq=>Pa.of_no he (h q hq)
def gI {t':List (Nat×D)}(h':List (Nat×Blk))(k':List (Nat×ω))(g:a1 Tryz.prog C N l (l.drop m) ⟨t',h',k'⟩ Q)(a:fN ev te=t':=by rfl)(b:∀ x,h++(iJ (fun _=>true) bs x ps).1=h':=by intros;rfl)(c:∀ x,k++(iJ (fun _=>true) bs x ps).2=k':=by intros;rfl)(e:ps.all (Pa.of ev)=true:=by rfl):Zu Zp Tryz.prog C N l m De G ps pre ev h k Q bs i [] te:=
 qg a (D3 e) fun x _=>by rw [b,c];exact g
def mT {t':List (Nat×D)}(e:Nat)(h':BK→List (Nat×Blk))(k':BK→List (Nat×ω))(g:∀ b,G e (bs e) b→a1 Tryz.prog C N l (l.drop m) ⟨t',h' b,k' b⟩ Q)(a:fN ev te=t':=by rfl)(c:∀ x,h++(iJ (fun _=>true) bs x ps).1=h' (x e):=by intros;rfl)(f:∀ x,k++(iJ (fun _=>true) bs x ps).2=k' (x e):=by intros;rfl)(n:ps.all (Pa.of ev)=true:=by rfl)(he:ev.contains e=true:=by rfl):Zu Zp Tryz.prog C N l m De G ps pre ev h k Q bs i [] te:=
 qg a (D3 n) fun x hx=>by rw [c,f];exact g _ (hx e he)
def fj {t':List (Nat×D)}(a:fN ev te=t')(g:a1 Tryz.prog C N l (l.drop m) ⟨t',h,k⟩ Q):Zu Zp Tryz.prog C N l m De G [] pre ev h k Q bs i [] te:=
 qg a (fun _ _=>rfl) fun x _=>by simpa only [iJ,aN] using g
def b5 {id:Nat}{t:List (Nat×D)}(m:Nat)(pre:List (List Nat))(ev:List Nat)(hwalk:Gf ev fun De=>∀ bs,Zu (fun _ _=>False) Tryz.prog C N l m De (fun _ _ _=>True) [] pre ev h k Q bs 0 (l.take m) (BI t))(hfo:Tryz.prog.follows .mixedOrders=true:=by kernel_rfl)(hsl:Jy.slotsBY l.toArray=true:=by kernel_rfl)(hp:Jy.preBY l.toArray (fun i=>pre.getD i [])=true:=by kernel_rfl)(hpe:pre.all (·.all ev.contains)=true:=by rfl)(hev:ev.all (· < (l.take m).length)=true:=by rfl)(hsuf:Jy.sufBY l.toArray (xm l) (l.take m).length=true:=by kernel_rfl):h8 Tryz.prog C N (.region id l.toArray true) ⟨t,h,k⟩ Q:=
 i5 [] (fun _ _ _=>True) m pre ev (fun _ _ hz=>hz.elim) (by simp [iJ]) (by simp [iJ]) hwalk hfo hsl hp hpe hev hsuf
def Iw (C:Ctx)(pe:Int×Int)(c:List e8)(w:aL):Prop:=c=zc pe∧∃ H',Core C H' [] [] w
def AK {pe:Int×Int}{id:Nat}{t:List (Nat×D)}(G:Nat→ω→BK→Prop)(m:Nat)(pre:List (List Nat))(ev:List Nat)(gQ:Q (.panic (zc pe)) ⟨[],[],[]⟩)(hwalk:Gf ev fun De=>∀ bs,Zu (Iw C pe) Tryz.prog C N l m De G [] pre ev h k Q bs 0 (l.take m) (BI t))(hfo:Tryz.prog.follows .mixedOrders=true:=by kernel_rfl)(hsl:Jy.slotsBY l.toArray=true:=by kernel_rfl)(hp:Jy.preBY l.toArray (fun i=>pre.getD i [])=true:=by kernel_rfl)(hpe:pre.all (·.all ev.contains)=true:=by rfl)(hev:ev.all (· < (l.take m).length)=true:=by rfl)(hsuf:Jy.sufBY l.toArray (xm l) (l.take m).length=true:=by kernel_rfl):h8 Tryz.prog C N (.region id l.toArray true) ⟨t,h,k⟩ Q:=
 i5 [] G m pre ev (fun c w ⟨e,H',hc⟩=>⟨⟨[],[],[]⟩,⟨H',hc⟩,rfl,by rw [e];exact gQ⟩) (by simp [iJ]) (by simp [iJ]) hwalk hfo hsl hp hpe hev hsuf
def Ik {ρ:Type}{pe:Int×Int}{f:FuncId}{args:List aH}{ts:Array aD}{ds ds':List D}{R:ρ→D→List (Nat×Blk)→List (Nat×ω)→Prop}(hc:kl zc Tryz.prog f ds' [] [] (.inl pe) R)(hwk:WkL ds ds')(g:Zu (Iw C pe) Tryz.prog C N l m De G ps pre ev h k Q bs (i+1) rest ((j,d,some i)::te))(ho:o.op=.call ⟨.value (.func f),args.toArray,ts⟩:=by rfl)(ha:kp args (cS (fN (pre.getD i []) te))=some ds:=by rfl)(hw:bC l (fN [] te) o=some true:=by rfl)(hd:o.dst=some j:=by rfl)(hi:aZ j N=true:=by rfl)(he:ev.contains i=true:=by rfl)(hDe:De i=(fun _=>d):=by rfl):Zu (Iw C pe) Tryz.prog C N l m De G ps pre ev h k Q bs i (o::rest) te:=by
 refine C4 (fun S x H a w _ _ c kt=>?_) (.inl ⟨j,hd,hi,rfl⟩) (by rw [hDe];exact g) hw he;obtain ⟨hg,hc⟩:=hc;unfold Jy.GivesY;rw [GM ho hg];simp only [];have hv:=hwk H _ (An kt ha);rw [List.map_toArray];refine (hc H w _ hv c.ag (by simp) (by simp) (by simp [K4,eQ])).mono ?_;rintro e w' ⟨rfl,H',hcore⟩;refine .inr ⟨_,rfl,rfl,H',?_⟩;have:=Core.call (h1:=[]) (k1:=[]) (h1':=[]) (k1':=[]) (h2:=h++(iJ S bs x ps).1) (k2:=k++(iJ S bs x ps).2) c hcore;exact this.drop (eC _) (eC _)
def Ij (e:Nat)(hG:∀ b,¬ G e (bs e) b)(he:ev.contains e=true:=by rfl):Zu Zp Tryz.prog C N l m De G [] pre ev h k Q bs i [] te:=qg rfl (fun _ _=>rfl) fun x hx=>(hG _ (hx e he)).elim
end
end
section
open Go
set_option maxRecDepth 100000
abbrev iD (x:Int):D:=.v (.int .i64 x)
abbrev tD (x:η):D:=.v (.string x)
structure KZ where
 gb:η
 gA:Bool
def Ku (x:KZ):D:=.agg [tD x.gb,.v (.bool x.gA)]
abbrev cB (x:List KZ):D:=.lst 2 (x.map Ku) .no
abbrev b0 (x:List KZ)(c:ω):D:=.lst 2 (x.map Ku) (.cur c)
abbrev ov (x:List KZ):D:=.lst 2 (x.map Ku) .full
abbrev lz (x:List KZ)(c:Cap):D:=.lst 2 (x.map Ku) c
structure Kf where
 gj:Int
 gN:Int
 gb:η
 gd:List Kf
 ga:Int
mutual
def Kh:Kf→D
 | ⟨a,f1,b,d,e⟩=>.agg [iD a,iD f1,tD b,.lst 5 (Fw d) .no,iD e]
def Fw:List Kf→List D
 | []=>[]
 | x::l=>Kh x::Fw l
end
abbrev bQ (x:List Kf):D:=.lst 5 (x.map Kh) .no
abbrev c6 (x:List Kf):D:=.lst 5 (x.map Kh) .full
abbrev b8 (x:List Kf)(c:ω):D:=.lst 5 (x.map Kh) (.cur c)
def MO:∀ l,Fw l=l.map Kh
 | []=>by simp [Fw]
 | x::l=>by simp only [Fw,a7,MO l]
abbrev dP (x:Kf)(c0:Cap):List D:=[iD x.gj,iD x.gN,tD x.gb,.lst 5 (x.gd.map Kh) c0,iD x.ga]
def Kn (x:Kf):Kh x=.agg (dP x .no):=by
 cases x;simp only [Kh,MO]
def jN:KeyOK Tryz.prog 9 (fun s:η=>cZ s):=xq (by kernel_rfl)
def ln:(Tryz.prog.info? 3).bind (·.zero)=some (.int .i64 (0:Int)):=by kernel_rfl
def lp (H:Hp):Rep H (f7 (0:Int)) (.int .i64 (0:Int)):=dA rfl
def Ap (a0:Kf)(a:Int):Option ((Int×Int)⊕(Unit)):=
 bif a != 1 then (j3 a0.ga 9).bind fun b=>Ω (fun c=>some (.inl c)) (fun d=>some (.inr ())) b else some (.inr ())
def Zd {R G:Prop}(h:R)(k:R→G:=by intro h;refine pu ?_;refine Kc ?_;exact h):G:=k h
def Zv {G:Prop}{c:Sort _}{R:(u:c)→Prop}(h:∀ u,R u)(k:(∀ u,R u)→G:=by intro h;refine Kd ?_;refine zQ rfl rfl rfl rfl rfl rfl rfl (fun _l=>?_);exact h _l):G:=k h
def Zf {R G:Prop}(h:R)(k:R→G:=by intro h;refine KE ?_;refine pu ?_;exact h):G:=k h
def Zs {R G:Prop}(h:R)(k:R→G:=by intro h;refine Kt ?_;refine pu ?_;exact h):G:=k h
def XB {G:Prop}{c:Sort _}{R:(u:c)→Prop}(h:∀ u,R u)(k:(∀ u,R u)→G:=by intro h;refine kz (i:=0) rfl (Wk.of_eq (Kn _)) ?_;refine Zv fun _l=>?_;exact h _l):G:=k h
def Wc {A0 G:Prop}(a0:A0)(k:A0→G:=by intro _a;obtain rfl:=Ke _a;refine oK ?_;refine rP (t':=[]) [] [] 0 wN lN ?_;exact Za):G:=k a0
def wG {A0 A1 G:Prop}{S0:Sort _}{S1:(u:S0)→Sort _}{R:(u:S0)→(v:S1 u)→Prop}(a0:A0)(b:A1)(h:∀ u v,R u v)(k:A0→A1→(∀ u v,R u v)→G:=by intro w f h;have v:=Kx w;refine Rp htab f rfl rfl rfl rfl rfl (fun u=>?_);exact h u v):G:=k a0 b h
def wX (a0:Kf)(b:Int)(r:(Int×Int)⊕(Unit))(g:Ap a0 b=some r):kl zc Tryz.prog 186 [Kh a0,iD b] [] [] r (fun r d h k=>d=.tup []∧h=[]∧k=[]):=by
 refine wG g Tryz.func186 fun C a=>?_;refine XB fun n=>?_;refine Zf ?_;refine Zd ?_;refine cY a ?_ ?_<;>intro a;refine Zs ?_;refine pL 0 ?_;obtain ⟨j,e,a⟩:=Ka a;rcases j with l|m;simp only [Γ] at a;refine i9 (kV a0.ga 9 (.inl l) e) rfl rfl rfl Wl Pf Pf ?_;obtain rfl:=Ke a;exact DI;simp only [ς] at a;refine KX (kV a0.ga 9 (.inr m) e) rfl rfl rfl rfl rfl Wl ?_;rintro _ rfl;exact Kw (Wc a);exact Kp (Wc a)
def FB (a0:Int)(b:Int)(c:List Int):Option ((Int×Int)⊕(Int)):=
 κ (α:=(Unit)⊕((Int×Int)⊕(Int))) (bif a0==0 then (j3 b 7).bind fun d=>Ω (fun e=>some (.inr (.inl e))) (fun i=>some (.inl ())) d else some (.inl ())) (Ω (fun j=>κ (α:=(Unit)⊕((Int×Int)⊕(Int))) (aE (fun (a:Int)=>bif decide (a<c.length) then (idx c a).bind fun f=>bif f==a0 then some (.done (.inr (.inr a0))) else some (.next (ζ.wrap (a+1))) else some (.done (.inl ()))) 0) (Ω (fun k=>(j3 b 9).bind fun g=>Ω (fun h=>some (.inl h)) (fun l=>some (.inr 0)) g) (fun r=>some r))) (fun r=>some r))
def Ze {R G:Prop}(h:R)(k:R→G:=by intro h;refine Kd ?_;refine pu ?_;exact h):G:=k h
def Z8 {R G:Prop}(h:R)(k:R→G:=by intro h;refine RF htab rfl rfl rfl rfl rfl rfl rfl (by first|exact KT|rfl) ?_;exact h):G:=k h
def Zq {A0 G:Prop}{b:Sort _}{e:(u:b)→Sort _}{f:(u:b)→(v:e u)→Sort _}{R:(u:b)→(v:e u)→(x:f u v)→Prop}(a0:A0)(h:∀ u v x,R u v x)(k:A0→(∀ u v x,R u v x)→G:=by intro _a h;obtain ⟨_l,_m,_n⟩:=Ka _a;refine RE htab rfl rfl rfl rfl rfl rfl rfl rfl rfl rfl (KG _m) (KQ _m) ?_;exact h _l _m _n):G:=k a0 h
def Zi {R G:Prop}(h:R)(k:R→G:=by intro h;refine Zd ?_;refine Ko ?_;exact h):G:=k h
def Zm {R G:Prop}(h:R)(k:R→G:=by intro h;refine Kp ?_;refine Kb ?_;exact h):G:=k h
def Zg {R G:Prop}(h:R)(k:R→G:=by intro h;refine pu ?_;refine pu ?_;exact h):G:=k h
def Zx {R G:Prop}(h:R)(k:R→G:=by intro h;refine Kj ?_;refine Ze ?_;exact h):G:=k h
def XP {A0 R G:Prop}(a0:A0)(h:R)(k:A0→R→G:=by intro _a h;refine KF ?_;refine Kb ?_;refine Kt ?_;refine Zg ?_;refine Kw ?_;refine Kb ⟨_,zg _a,?_⟩;exact h):G:=k a0 h
def Zb {A0 G:Prop}{b:Sort _}{R:(u:b)→Prop}(a0:A0)(h:∀ u,R u)(k:A0→(∀ u,R u)→G:=by intro _a h;refine Kb ?_;refine KP _a (fun _l=>?_);exact h _l):G:=k a0 h
def Zy {R G:Prop}(h:R)(k:R→G:=by intro h;refine Zi ?_;refine KI ?_;refine Ks ?_;exact h):G:=k h
def ZE {R G:Prop}(h:R)(k:R→G:=by intro h;refine Zm ?_;refine Kj ?_;refine KD ?_;exact h):G:=k h
def Zn {G:Prop}(k:G:=by exact wO (wP aU)):G:=k
def ZQ {R G:Prop}(h:R)(k:R→G:=by intro h;refine Kd ?_;refine Zd ?_;exact h):G:=k h
def YI {A0 A1 G:Prop}(a0:A0)(c:A1)(k:A0→A1→G:=by intro _a _b;refine K3 ?_;refine KH ?_;obtain rfl:=KU _a;refine KH ?_;refine KW ?_;obtain rfl:=Ke _b;refine ze ?_;exact Zn):G:=k a0 c
def Yh {R G:Prop}(h:R)(k:R→G:=by intro h;refine Az htab rfl rfl rfl rfl rfl rfl rfl rfl ?_;exact h):G:=k h
def ZY {A0 G:Prop}(a0:A0)(k:A0→G:=by intro _a;refine oM ?_;obtain rfl:=Ke _a;exact DI):G:=k a0
def ZL {R G:Prop}(h:R)(k:R→G:=by intro h;refine Z8 ?_;refine Zd ?_;exact h):G:=k h
def ZM {R G:Prop}(h:R)(k:R→G:=by intro h;refine Zx ?_;refine Zd ?_;exact h):G:=k h
def Zz {R G:Prop}(h:R)(k:R→G:=by intro h;refine ZQ ?_;refine Kj ?_;exact h):G:=k h
def Zk {A0 G:Prop}{b:Sort _}{e:(u:b)→Sort _}{f:(u:b)→(v:e u)→Sort _}{R:(u:b)→(v:e u)→(x:f u v)→Prop}(a0:A0)(h:∀ u v x,R u v x)(k:A0→(∀ u v x,R u v x)→G:=by intro _a h;refine KD ?_;obtain ⟨_l,_m,_n⟩:=N8 _a;exact h _l _m _n):G:=k a0 h
def Zt {R G:Prop}(h:R)(k:R→G:=by intro h;refine Ks ?_;refine KI ?_;exact h):G:=k h
def ZZ {R G:Prop}(h:R)(k:R→G:=by intro h;refine KE ?_;(iterate 3 refine pu ?_);exact h):G:=k h
def XC {A0 G:Prop}(a0:A0)(k:A0→G:=by intro _a;obtain rfl:=Ke _a;refine ze ?_;exact Zn):G:=k a0
def Ux {A0 G:Prop}(a0:A0)(k:A0→G:=by intro _a;refine XP _a ?_;exact Zn):G:=k a0
def Yz {A0 G:Prop}{b:Sort _}{e:(u:b)→Sort _}{f:(u:b)→(v:e u)→Sort _}{R:(u:b)→(v:e u)→(x:f u v)→Prop}(a0:A0)(h:∀ u v x,R u v x)(k:A0→(∀ u v x,R u v x)→G:=by intro _a h;refine ZE ?_;refine Kd ?_;refine Zq _a fun _l _m _n=>?_;exact h _l _m _n):G:=k a0 h
def Z9 {A0 G:Prop}{b:Sort _}{R:(u:b)→Prop}(a0:A0)(h:∀ u,R u)(k:A0→(∀ u,R u)→G:=by intro _a h;refine Zb _a fun _l=>?_;refine Ze ?_;exact h _l):G:=k a0 h
def XD {A0 G:Prop}(a0:A0)(k:A0→G:=by intro _a;rintro _ rfl;refine Kw ?_;exact XC _a):G:=k a0
def Xa {A0 G:Prop}(a0:A0)(k:A0→G:=by intro _a;refine Kp ?_;exact Ux _a):G:=k a0
def HM (a0:Int)(c:Int)(g:List Int)(r:(Int×Int)⊕(Int))(p:FB a0 c g=some r):kl zc Tryz.prog 203 [iD a0,iD c,fB g] [] [] r (fun r d h k=>d=iD r∧h=[]∧k=[]):=by
 refine wG p Tryz.func203 fun C a=>?_;refine ZQ ?_;refine ZM ?_;obtain ⟨q,s,i⟩:=Ka a;refine fI (τ:=Unit) (Y:=Unit) (fun t w=>⟨[(0,iD a0),(1,iD c),(2,fB g)],[],[]⟩) q ?_ ?_;refine cY (Kx s) (fun a=>?_) fun a=>?_;refine Zs ?_;obtain ⟨y,l,a⟩:=Ka a;rcases y with z|A;simp only [Γ] at a;refine i9 (kV c 7 (.inl z) l) rfl rfl rfl Wl Pf Pf ?_;obtain rfl:=Ke a;refine gO ?_;simp only [ς] at i;exact ZY i;simp only [ς] at a;exact KX (kV c 7 (.inr A) l) rfl rfl rfl rfl rfl Wl (XD a);exact Kp (XC a);intro t V B F;subst B;simp only [Γ] at i;refine Zb F fun w=>?_;refine Zx ?_;refine ZL ?_;obtain ⟨H,I,j⟩:=Ka i;refine fI (τ:=Unit) (Y:=Unit) (fun J K=>⟨[(1,iD c)],[],[]⟩) H ?_ ?_;refine Zk I fun W L m=>?_;refine d7 (Y:=Unit) L (fun n M=>⟨[(0,iD a0),(1,iD c),(13,fB g),(14,iD (g.length:Int)),(15,iD n)],[],[]⟩) ?_ ?_;exact Zn;intro G21 n M a;refine Zz ?_;refine cY a ?_ ?_<;>intro a;refine Yz a fun X Z a=>?_;refine Yh ?_;refine pu ?_;refine ZZ ?_;refine Kc ?_;refine cY a ?_ ?_<;>intro a;refine Ze ?_;refine Zy ?_;obtain rfl:=KU a;refine Zt ?_;obtain rfl:=Ke m;refine fH ?_;simp only [ς] at j;refine Ks ?_;obtain rfl:=Ke j;exact oK (rP (t':=[(6,iD a0)]) [] [] 0 aU bU Za);exact Xa a;exact YI a m;intro J aa N O;subst N;simp only [Γ] at j;refine Z9 O fun K=>?_;obtain ⟨P,o,a⟩:=Ka j;rcases P with Q|U;simp only [Γ] at a;exact i9 (kV c 9 (.inl Q) o) rfl rfl rfl Wl Pf Pf (ZY a);simp only [ς] at a;refine KX (kV c 9 (.inr U) o) rfl rfl rfl rfl rfl Wl ?_;rintro _ rfl;refine KE (Zi ?_);obtain rfl:=Ke a;exact oK (rP (t':=[(6,iD 0)]) [] [] 0 aU bU Za)
def Ct (a0:Bool):Option (Int):=
 bif a0 then some 2 else some 1
def ZS {R G:Prop}(h:R)(k:R→G:=by intro h;refine Zi ?_;refine Ks ?_;exact h):G:=k h
def Xq {A0 G:Prop}(a0:A0)(k:A0→G:=by intro _a;obtain rfl:=Ke _a;refine rP (t':=[(2,iD 1)]) [] [] 0 aU bU ?_;exact Za):G:=k a0
def ZT {R G:Prop}(h:R)(k:R→G:=by intro h;refine Kd ?_;refine ZS ?_;exact h):G:=k h
def Yc {R G:Prop}(h:R)(k:R→G:=by intro h;refine Zm ?_;refine Kd ?_;exact h):G:=k h
def Wd {A0 G:Prop}(a0:A0)(k:A0→G:=by intro _a;obtain rfl:=Ke _a;refine rP (t':=[(2,iD 2)]) [] [] 0 aU bU ?_;exact Za):G:=k a0
def cQ {A0 A1 G:Prop}{S0:Sort _}{S1:(u:S0)→Sort _}{R:(u:S0)→(v:S1 u)→Prop}(a0:A0)(b:A1)(h:∀ u v,R u v)(k:A0→A1→(∀ u v,R u v)→G:=by intro w c h;have v:=Kx w;refine KV htab c rfl rfl rfl rfl rfl (fun u=>?_);exact h u v):G:=k a0 b h
def JU (a0 r)(d:Ct a0=some r):Cd 182 [.v (.bool a0)] [] [] (dJ (iD r)):=by
 refine cQ d Tryz.func182 fun C a=>?_;refine Zz ?_;refine ZQ ?_;refine cY a ?_ ?_<;>intro a;refine ZT ?_;exact Wd a;refine Yc ?_;refine Zi ?_;exact Xq a
structure Kf8 where
 g0:List KZ
 g1:List KZ
def B7 (x:Kf8):D:=.agg [.lst 2 (x.g0.map Ku) .no,.lst 2 (x.g1.map Ku) .no]
structure KR where
 gb:η
 gA:Bool
 gC:Int
 ga:Int
abbrev iF (x:KR):List D:=[tD x.gb,.v (.bool x.gA),iD x.gC,iD x.ga]
def Kq (x:KR):D:=.agg (iF x)
abbrev cJ (x:List KR):D:=.lst 4 (x.map Kq) .no
abbrev gM (x:List KR)(c:ω):D:=.lst 4 (x.map Kq) (.cur c)
abbrev ow (x:List KR):D:=.lst 4 (x.map Kq) .full
structure Kk where
 gj:Int
 gb:η
 gy:η
 gn:List Kf
 gd:List Kk
 gr:List Kk
 ga:Int
mutual
def Kg:Kk→D
 | ⟨a,f1,b,d,e,f,g⟩=>.agg [iD a,tD f1,tD b,.lst 5 (d.map Kh) .no,.lst 7 (Dr e) .no,.lst 7 (Dr f) .no,iD g]
def Dr:List Kk→List D
 | []=>[]
 | x::l=>Kg x::Dr l
end
abbrev aI (x:List Kk):D:=.lst 7 (x.map Kg) .no
abbrev lA (x:List Kk)(c:Cap):D:=.lst 7 (x.map Kg) c
abbrev bV (x:List Kk)(c:ω):D:=.lst 7 (x.map Kg) (.cur c)
abbrev ox (x:List Kk):D:=.lst 7 (x.map Kg) .full
def MN:∀ l,Dr l=l.map Kg
 | []=>by simp [Dr]
 | x::l=>by simp only [Dr,a7,MN l]
abbrev fv (x:Kk)(c0 c1 c2:Cap):List D:=[iD x.gj,tD x.gb,tD x.gy,.lst 5 (x.gn.map Kh) c0,.lst 7 (x.gd.map Kg) c1,.lst 7 (x.gr.map Kg) c2,iD x.ga]
def KM (x:Kk):Kg x=.agg (fv x .no .no .no):=by
 cases x;simp only [Kg,MN]
structure KC where
 gb:η
 gh:List KZ
 gi:List KZ
 gx:List Kk
 ga:Int
abbrev eE (x:KC)(c0 c1 c2:Cap):List D:=[tD x.gb,.lst 2 (x.gh.map Ku) c0,.lst 2 (x.gi.map Ku) c1,.lst 7 (x.gx.map Kg) c2,iD x.ga]
def Kv (x:KC):D:=.agg (eE x .no .no .no)
abbrev cO (x:List KC):D:=.lst 5 (x.map Kv) .no
abbrev hY (x:List KC)(c:ω):D:=.lst 5 (x.map Kv) (.cur c)
abbrev ou (x:List KC):D:=.lst 5 (x.map Kv) .full
structure KB where
 gc:List KR
 gf:List KC
abbrev dD (x:KB)(c0 c1:Cap):List D:=[.lst 4 (x.gc.map Kq) c0,.lst 5 (x.gf.map Kv) c1]
def K5 (x:KB):D:=.agg (dD x .no .no)
structure K8 where
 gP:KB
 gF:KC
def iZ (x:K8):D:=.agg [.lst 4 (x.gP.gc.map Kq) .no,.lst 5 (x.gP.gf.map Kv) .no,tD x.gF.gb,.lst 2 (x.gF.gh.map Ku) .no,.lst 2 (x.gF.gi.map Ku) .no,.lst 7 (x.gF.gx.map Kg) .no,iD x.gF.ga]
def FW (a0:K8)(e:η):Option (Int):=
 κ (α:=(Unit)⊕(Int)) (aE (fun (a:Int)=>bif decide (a<2) then (idx ([a0.gF.gh,a0.gF.gi]:List (List KZ)) a).bind fun c=>κ (α:=(Unit)⊕(Int)) (aE (fun (b:Int)=>bif decide (b<c.length) then (idx c b).bind fun d=>bif decide (d.gb=e) then (Ct d.gA).bind fun f=>some (.done (.inr f)) else some (.next (ζ.wrap (b+1))) else some (.done (.inl ()))) 0) (Ω (fun g=>some (.next (ζ.wrap (a+1)))) (fun r=>some (.done (.inr r)))) else some (.done (.inl ()))) 0) (Ω (fun h=>some 0) (fun r=>some r))
def Zj {G:Prop}{p:Sort _}{R:(u:p)→Prop}(h:∀ u,R u)(k:(∀ u,R u)→G:=by intro h;refine K2 htab rfl rfl rfl rfl rfl rfl rfl (fun _l=>?_);exact h _l):G:=k h
def YA {A0 A1 G:Prop}(a0:A0)(b:A1)(k:A0→A1→G:=by intro _a _b;refine K3 ?_;refine KH ?_;obtain rfl:=KU _a;refine KH ?_;refine KW ?_;obtain rfl:=Ke _b;refine ze ?_;exact wO (wP wN)):G:=k a0 b
def ZB {R G:Prop}(h:R)(k:R→G:=by intro h;refine Ze ?_;refine pL 0 ?_;exact h):G:=k h
def ZH {R G:Prop}(h:R)(k:R→G:=by intro h;refine Kt ?_;refine Zg ?_;exact h):G:=k h
def Xb {G:Prop}(k:G:=by refine rP (t':=[(4,iD _)]) [] [] 0 aU bU ?_;exact Za):G:=k
def Yi {R G:Prop}(h:R)(k:R→G:=by intro h;refine pL 0 ?_;refine pu ?_;exact h):G:=k h
def XQ {A0 G:Prop}(a0:A0)(k:A0→G:=by intro _a;refine Zi ?_;obtain rfl:=Ke _a;refine rP (t':=[(4,iD 0)]) [] [] 0 aU bU ?_;exact Za):G:=k a0
def XJ {A0 G:Prop}(a0:A0)(k:A0→G:=by intro _a;refine Kw ?_;refine Kb ⟨_,zg _a,?_⟩;exact Zn):G:=k a0
def YJ {R G:Prop}(h:R)(k:R→G:=by intro h;refine pL 0 ?_;refine Zg ?_;exact h):G:=k h
def XZ {R G:Prop}(h:R)(k:R→G:=by intro h;refine Az (d:=Ku _) htab rfl rfl rfl rfl rfl rfl rfl rfl ?_;exact h):G:=k h
def YK {R G:Prop}(h:R)(k:R→G:=by intro h;refine pu ?_;refine Zf ?_;exact h):G:=k h
def YN {R G:Prop}(h:R)(k:R→G:=by intro h;refine KI ?_;refine Ks ?_;exact h):G:=k h
def Nq (a0 b r)(q:FW a0 b=some r):Cd 202 [iZ a0,tD b] [] [] (dJ (iD r)):=by
 refine cQ q Tryz.func202 fun C a=>?_;refine Zv fun O=>?_;refine Zd ?_;refine Zx ?_;refine pu ?_;refine YJ ?_;refine pL 0 ?_;refine nF (r:=[cB a0.gF.gh,cB a0.gF.gi]) htab rfl rfl rfl rfl rfl rfl rfl rfl rfl (Zd ?_);obtain ⟨s,t,c⟩:=Ka a;refine fI (τ:=Unit) (Y:=Unit) (fun w x=>⟨[],[],[]⟩) s ?_ ?_;refine Zk t fun P y m=>?_;refine d7 (Y:=Unit) y (fun f z=>⟨[(1,tD b),(15,B7 (⟨a0.gF.gh,a0.gF.gi⟩:Kf8)),(16,iD f)],[],[]⟩) ?_ ?_;exact Zn;intro G125 f z a;refine Zz ?_;refine cY a ?_ ?_<;>intro a;refine ZE ?_;refine Kd ?_;obtain ⟨i,j,a⟩:=Ka a;refine uz (d:=cB i) htab rfl rfl rfl rfl rfl rfl rfl rfl rfl (KG j) (qI j rfl) (nC (e:=(ly 2 Ku)) (xs:=([a0.gF.gh,a0.gF.gi]:List (List KZ))) rfl j) (YK ?_);refine ZL ?_;obtain ⟨A,B,g⟩:=Ka a;refine fI (τ:=Unit) (Y:=Unit) (fun F H=>⟨[(1,tD b),(15,B7 (⟨a0.gF.gh,a0.gF.gi⟩:Kf8)),(16,iD f)],[],[]⟩) A ?_ ?_;refine Zk B fun Q I n=>?_;refine d7 (Y:=Unit) I (fun o J=>⟨[(1,tD b),(15,B7 (⟨a0.gF.gh,a0.gF.gi⟩:Kf8)),(16,iD f),(19,cB i),(20,iD (i.length:Int)),(21,iD o)],[],[]⟩) ?_ ?_;exact Zn;intro G227 o J a;refine Zz ?_;refine cY a ?_ ?_<;>intro a;refine Yz a fun l U a=>?_;refine XZ ?_;refine Zj fun V=>?_;refine eG (ds':=[tD l.gb,.v (.bool l.gA)]) ?_;refine Zf ?_;refine Yi ?_;refine Zd ?_;refine cY a ?_ ?_<;>intro a;refine ZB ?_;refine bN a (JU l.gA) fun W a=>?_;refine Zy ?_;obtain rfl:=KU a;refine Zt ?_;obtain rfl:=Ke n;refine fH ?_;simp only [ς] at g;refine YN ?_;obtain rfl:=KU g;refine Zt ?_;obtain rfl:=Ke m;refine fH ?_;simp only [ς] at c;refine Ks ?_;obtain rfl:=Ke c;exact Xb;exact Xa a;exact YI a n;intro F X K L;subst K;simp only [Γ] at g;refine KF (Zb L fun H=>?_);refine ZH ?_;exact XJ g;exact YA a m;intro w Z M N;subst M;simp only [Γ] at c;refine Zb N fun x=>?_;exact Kd (XQ c)
def Au (a0:K8)(c:η):Option (Int):=
 κ (α:=(Unit)⊕(Int)) (aE (fun (b:Int)=>bif decide (b<a0.gP.gc.length) then (idx a0.gP.gc b).bind fun a=>bif decide (a.gb=c) then κ (α:=Bool) (bif decide (0<a.gC) then some (!a.gA) else some false) fun d=>bif d then some (.done (.inr 3)) else ((Ct a.gA).bind fun e=>some (.done (.inr e))) else some (.next (ζ.wrap (b+1))) else some (.done (.inl ()))) 0) (Ω (fun f=>some 0) (fun r=>some r))
def WJ {A0 G:Prop}(a0:A0)(k:A0→G:=by intro _a;obtain rfl:=Ke _a;refine ⟨rfl,?_⟩;exact wO (wP aU)):G:=k a0
def Z0 {R G:Prop}(h:R)(k:R→G:=by intro h;refine K1 rfl rfl rfl rfl rfl rfl ?_;exact h):G:=k h
def ZU {R G:Prop}(h:R)(k:R→G:=by intro h;refine K7 rfl rfl rfl rfl rfl rfl ?_;exact h):G:=k h
def ZN {A0 G:Prop}(a0:A0)(k:A0→G:=by intro _a;refine Kw ?_;exact WJ _a):G:=k a0
def Yo {R G:Prop}(h:R)(k:R→G:=by intro h;refine Zx ?_;refine pu ?_;refine pL 0 ?_;refine Z8 ?_;refine Zd ?_;exact h):G:=k h
def Zl {A0 G:Prop}{b:Sort _}{e:(u:b)→Sort _}{f:(u:b)→(v:e u)→Sort _}{R:(u:b)→(v:e u)→(x:f u v)→Prop}(a0:A0)(h:∀ u v x,R u v x)(k:A0→(∀ u v x,R u v x)→G:=by intro _a h;refine Kj ?_;obtain ⟨_l,_m,_n⟩:=Ka _a;exact h _l _m _n):G:=k a0 h
def ZF {A0 G:Prop}(a0:A0)(k:A0→G:=by intro _a;refine Z0 ?_;exact ZN _a):G:=k a0
def ZA {A0 G:Prop}(a0:A0)(k:A0→G:=by intro _a;refine ZU ?_;exact ZN _a):G:=k a0
def ZC {A0 G:Prop}{b:Sort _}{e:(u:b)→Sort _}{f:(u:b)→(v:e u)→Sort _}{R:(u:b)→(v:e u)→(x:f u v)→Prop}(a0:A0)(h:∀ u v x,R u v x)(k:A0→(∀ u v x,R u v x)→G:=by intro _a h;refine Kj ?_;refine Zl _a fun _l _m _n=>?_;exact h _l _m _n):G:=k a0 h
def Y4 {A0 G:Prop}(a0:A0)(k:A0→G:=by intro _a;(iterate 3 refine pK ?_);exact ZF _a):G:=k a0
def Wx {R G:Prop}(h:R)(k:R→G:=by intro h;refine Az (d:=Kq _) htab rfl rfl rfl rfl rfl rfl rfl rfl ?_;exact h):G:=k h
def Xg {R G:Prop}(h:R)(k:R→G:=by intro h;refine pu ?_;refine Yi ?_;exact h):G:=k h
def JX (a0 g r)(q:Au a0 g=some r):Cd 157 [iZ a0,tD g] [] [] (dJ (iD r)):=by
 refine cQ q Tryz.func157 fun C a=>?_;refine Zv fun L=>?_;refine Zd ?_;refine Yo ?_;obtain ⟨s,t,c⟩:=Ka a;refine fI (τ:=Unit) (Y:=Unit) (fun w y=>⟨[],[],[]⟩) s ?_ ?_;refine Zk t fun M z j=>?_;refine d7 (Y:=Unit) z (fun n A=>⟨[(1,tD g),(9,cJ a0.gP.gc),(10,iD (a0.gP.gc.length:Int)),(11,iD n)],[],[]⟩) ?_ ?_;exact Zn;intro G35 n A a;refine Zz ?_;refine cY a ?_ ?_<;>intro a;refine Yz a fun l N a=>?_;refine Wx ?_;refine Zj fun o=>?_;refine eG (ds':=(iF l)) ?_;refine Zf ?_;refine Yi ?_;refine Zd ?_;refine cY a ?_ ?_<;>intro a;refine ZC a fun B p F=>?_;refine KS (Y:=Unit) (fun H=>⟨[(6,.ptr o 0),(26,.v (.bool B))],[(o,Blk.cells (iF l) 58)],[]⟩) ?_ ?_;refine Zs ?_;refine YJ ?_;refine gW (i:=22) rfl (fun m=>?_) fun m=>?_;have a:=cD m (Kx p);refine Xg ?_;exact ZA a;have a:=cE m (Kx p);exact Y4 a;intro O I;refine Zb I fun H=>?_;refine cY F ?_ ?_<;>intro a;refine ZT ?_;refine YN ?_;obtain rfl:=KU a;refine Zt ?_;obtain rfl:=Ke j;refine fH ?_;simp only [ς] at c;refine Ks ?_;obtain rfl:=Ke c;exact rP (t':=[(4,iD 3)]) [] [] 0 aU bU Za;refine Zm ?_;refine ZB ?_;refine bN a (JU l.gA) fun P a=>?_;refine Zy ?_;obtain rfl:=KU a;refine Zt ?_;obtain rfl:=Ke j;refine fH ?_;simp only [ς] at c;refine Ks ?_;obtain rfl:=Ke c;exact Xb;exact Xa a;exact YA a j;intro w Q J K;subst J;simp only [Γ] at c;refine Zb K fun y=>?_;exact Kd (XQ c)
def wu (a0:K8)(a:η)(c:Int)(d:List Int):Option ((Int×Int)⊕(Int)):=
 (FW a0 a).bind fun b=>κ (α:=Int) (bif b==(0:Int) then (Au a0 a).bind fun e=>some e else some b) fun f=>(FB f c d).bind fun g=>Ω (fun h=>some (.inl h)) (fun i=>some (.inr i)) g
def ZK {R G:Prop}(h:R)(k:R→G:=by intro h;refine Kd ?_;(iterate 3 refine pu ?_);exact h):G:=k h
def ZO {A0 G:Prop}(a0:A0)(k:A0→G:=by intro _a;refine Kp ?_;exact WJ _a):G:=k a0
def Y5 {A0 G:Prop}(a0:A0)(k:A0→G:=by intro _a;refine pu ?_;exact ZN _a):G:=k a0
def oN (a0:K8)(e:η)(b:Int)(c:List Int)(r:(Int×Int)⊕(Int))(j:wu a0 e b c=some r):kl zc Tryz.prog 185 [iZ a0,tD e,iD b,fB c] [] [] r (fun r d h k=>d=iD r∧h=[]∧k=[]):=by
 refine wG j Tryz.func185 fun C a=>?_;refine Zv fun s=>?_;refine pu ?_;refine KE (pL (d:=iZ a0) 0 ?_);refine pu ?_;refine bN a (Nq a0 e) fun t a=>?_;refine Zd ?_;refine ZM ?_;obtain ⟨f,l,m⟩:=Ka a;refine KS (Y:=Unit) (fun n=>⟨[(2,iD b),(3,fB c),(9,iD f)],[],[]⟩) ?_ ?_;refine cY (Kx l) (fun a=>?_) fun a=>?_;refine Kt (pL (d:=iZ a0) 0 ?_);refine pu ?_;refine bN a (JX a0 e) fun u a=>?_;exact Y5 a;exact ZO a;intro v o;refine Zb o fun n=>?_;refine ZK ?_;obtain ⟨p,g,a⟩:=Ka m;rcases p with q|i;simp only [Γ] at a;exact i9 (HM f b c (.inl q) g) rfl rfl rfl Wl Pf Pf (ZY a);simp only [ς] at a;refine KX (HM f b c (.inr i) g) rfl rfl rfl rfl rfl Wl ?_;rintro _ rfl;refine Zi ?_;obtain rfl:=Ke a;exact oK (rP (t':=[(8,iD i)]) [] [] 0 aU bU Za)
def FU (a0:K8)(a:Kf)(b:Int):Option ((Int×Int)⊕(Int)):=
 (Au a0 a.gb).bind fun c=>(FW a0 a.gb).bind fun d=>κ (α:=Int) (bif d != (0:Int) then some (2:Int) else some c) fun e=>(FB e a.ga ([b]:List Int)).bind fun f=>Ω (fun g=>some (.inl g)) (fun h=>some (.inr (2:Int))) f
def Zo {R G:Prop}(h:R)(k:R→G:=by intro h;refine Ew htab rfl rfl rfl rfl rfl rfl rfl rfl rfl rfl rfl rfl rfl rfl ?_;exact h):G:=k h
def ZR {R G:Prop}(h:R)(k:R→G:=by intro h;refine Ze ?_;refine pu ?_;exact h):G:=k h
def Yj {G:Prop}{e:Sort _}{R:(u:e)→Prop}(h:∀ u,R u)(k:(∀ u,R u)→G:=by intro h;refine zQ rfl rfl rfl rfl rfl rfl rfl (fun _l=>?_);exact h _l):G:=k h
def Wy {A0 G:Prop}(a0:A0)(k:A0→G:=by intro _a;obtain rfl:=Ke _a;refine ⟨rfl,?_⟩;exact wO (WkS.perm aU ((KO (j:=1) rfl).trans (χ _ Pf)) Pf)):G:=k a0
def YY {R G:Prop}(h:R)(k:R→G:=by intro h;refine pu ?_;refine pL 1 ?_;exact h):G:=k h
def We {G:Prop}{e:Sort _}{R:(u:e)→Prop}(h:∀ u,R u)(k:(∀ u,R u)→G:=by intro h;refine kz (i:=1) rfl (Wk.of_eq (Kn _)) ?_;refine Zv fun _l=>?_;exact h _l):G:=k h
def H7 (a0:K8)(b:Kf)(c:Int)(r:(Int×Int)⊕(Int))(m:FU a0 b c=some r):kl zc Tryz.prog 210 [iZ a0,Kh b,iD c] [] [] r (fun r d h k=>d=iD r∧h=[]∧k=[]):=by
 refine wG m Tryz.func210 fun C a=>?_;refine We fun w=>?_;refine Yj fun g=>?_;refine pu ?_;refine KE (pL (d:=iZ a0) 0 ?_);refine YY ?_;refine bN a (JX a0 b.gb) fun x a=>?_;refine Zd ?_;refine Kj (Kd (pL (d:=iZ a0) 0 ?_));refine YY ?_;refine bN a (Nq a0 b.gb) fun y a=>?_;refine Zd ?_;obtain ⟨f,n,o⟩:=Ka a;refine KS (Y:=Unit) (fun p=>⟨[(2,iD c),(4,.ptr g 0),(7,iD f)],[(g,Blk.cells (dP b .no) 149)],[]⟩) ?_ ?_;refine cY (Kx n) (fun a=>?_) fun a=>?_;refine Zs ?_;exact Kw (Wy a);exact Kp (Wy a);intro z q;refine Zb q fun p=>?_;refine ZR ?_;refine Yi ?_;refine Zo ?_;refine bA (i:=21) (d':=dO [c]) rfl aU ?_;obtain ⟨s,l,a⟩:=Ka o;rcases s with t|v;simp only [Γ] at a;exact i9 (HM f b.ga ([c]:List Int) (.inl t) l) rfl rfl rfl aU Pf Pf (ZY a);simp only [ς] at a;refine KX (HM f b.ga ([c]:List Int) (.inr v) l) rfl rfl rfl rfl rfl aU ?_;rintro _ rfl;refine KE (Zi ?_);obtain rfl:=Ke a;exact oK (rP (t':=[(6,iD 2)]) [] [] 0 aU bU Za)
def Dx (a0:K8):Option ((Int×Int)⊕(Unit)):=
 κ (α:=(List (η×Int))⊕((Int×Int)⊕(Unit))) (aE (fun (c:Int×List (η×Int))=>bif decide (c.1<2) then (idx ([a0.gF.gh,a0.gF.gi]:List (List KZ)) c.1).bind fun d=>κ (α:=(List (η×Int))⊕((Int×Int)⊕(Unit))) (aE (fun (a:Int×List (η×Int))=>bif decide (a.1<d.length) then (idx d a.1).bind fun b=>κ (α:=Bool) (bif decide (1<(cM (ei a.2 b.gb (ζ.wrap ((cM a.2 b.gb 0)+1))) b.gb 0)) then some true else (Au a0 b.gb).bind fun e=>some (e != 0)) fun f=>bif f then (j3 a0.gF.ga 8).bind fun g=>Ω (fun h=>some (.done (.inr (.inl h)))) (fun j=>some (.next ((ζ.wrap (a.1+1)),(ei a.2 b.gb (ζ.wrap ((cM a.2 b.gb 0)+1)))))) g else some (.next ((ζ.wrap (a.1+1)),(ei a.2 b.gb (ζ.wrap ((cM a.2 b.gb 0)+1))))) else some (.done (.inl a.2))) (0,c.2)) (Ω (fun i=>some (.next ((ζ.wrap (c.1+1)),i))) (fun r=>some (.done (.inr r)))) else some (.done (.inl c.2))) (0,([]:List (η×Int)))) (Ω (fun k=>some (.inr ())) (fun r=>some r))
def ZW {R G:Prop}(h:R)(k:R→G:=by intro h;refine KE ?_;refine Zg ?_;exact h):G:=k h
def Ys {R G:Prop}(h:R)(k:R→G:=by intro h;refine pu ?_;refine pL 2 ?_;exact h):G:=k h
def YZ {R G:Prop}(h:R)(k:R→G:=by intro h;refine oM ?_;refine mB ?_;exact h):G:=k h
def Xh {A0 G:Prop}(a0:A0)(k:A0→G:=by intro _a;refine Kw ?_;exact Ux _a):G:=k a0
def QH (a0:K8)(r:(Int×Int)⊕(Unit))(F:Dx a0=some r):kl zc Tryz.prog 130 [iZ a0] [] [] r (fun r d h k=>d=.tup []∧h=[]∧k=[]):=by
 refine wG F Tryz.func130 fun C a=>?_;refine Zv fun g=>?_;refine KE (LK rfl rfl rfl rfl (fun j=>?_));refine pu ?_;refine ZW ?_;refine pL 1 ?_;refine Zg ?_;refine pL 1 ?_;refine nF (r:=[cB a0.gF.gh,cB a0.gF.gi]) htab rfl rfl rfl rfl rfl rfl rfl rfl rfl (Zd ?_);obtain ⟨I,J,o⟩:=Ka a;refine fI (τ:=List (η×Int)) (Y:=Unit) (fun K L=>⟨[],[],[]⟩) I ?_ ?_;refine Zk J fun ak M w=>?_;refine d7 (Y:=Unit) M (fun m N=>⟨[(1,.ptr g 0),(2,.v (.map (some j))),(14,B7 (⟨a0.gF.gh,a0.gF.gi⟩:Kf8)),(15,iD m.1)],[(j,Blk.mp (m.2.map fun p=>((fun s:η=>cZ s) p.1,f7 p.2))),(g,Blk.cells [cJ a0.gP.gc,cO a0.gP.gf,tD a0.gF.gb,cB a0.gF.gh,cB a0.gF.gi,aI a0.gF.gx,iD a0.gF.ga] 198)],[]⟩) ?_ ?_;exact Zn;intro G374 m N a;refine Zz ?_;refine cY a ?_ ?_<;>intro a;refine ZE ?_;refine Kd ?_;obtain ⟨n,t,a⟩:=Ka a;refine uz (d:=cB n) htab rfl rfl rfl rfl rfl rfl rfl rfl rfl (KG t) (qI t rfl) (nC (e:=(ly 2 Ku)) (xs:=([a0.gF.gh,a0.gF.gi]:List (List KZ))) rfl t) (YK ?_);refine ZL ?_;obtain ⟨O,P,q⟩:=Ka a;refine fI (τ:=List (η×Int)) (Y:=Unit) (fun x Q=>⟨[(1,.ptr g 0),(2,.v (.map (some j))),(14,B7 (⟨a0.gF.gh,a0.gF.gi⟩:Kf8)),(15,iD m.1)],[(j,Blk.mp (x.map fun p=>((fun s:η=>cZ s) p.1,f7 p.2))),(g,Blk.cells [cJ a0.gP.gc,cO a0.gP.gf,tD a0.gF.gb,cB a0.gF.gh,cB a0.gF.gi,aI a0.gF.gx,iD a0.gF.ga] 198)],[]⟩) O ?_ ?_;refine Zk P fun al U y=>?_;refine d7 (Y:=Unit) U (fun c V=>⟨[(1,.ptr g 0),(2,.v (.map (some j))),(14,B7 (⟨a0.gF.gh,a0.gF.gi⟩:Kf8)),(15,iD m.1),(18,cB n),(19,iD (n.length:Int)),(20,iD c.1)],[(j,Blk.mp (c.2.map fun p=>((fun s:η=>cZ s) p.1,f7 p.2))),(g,Blk.cells [cJ a0.gP.gc,cO a0.gP.gf,tD a0.gF.gb,cB a0.gF.gh,cB a0.gF.gi,aI a0.gF.gx,iD a0.gF.ga] 198)],[]⟩) ?_ ?_;exact Zn;intro G698 c V a;refine Zz ?_;refine cY a ?_ ?_<;>intro a;refine Yz a fun b am a=>?_;refine XZ ?_;refine Zj fun W=>?_;refine eL (ds':=[tD b.gb,.v (.bool b.gA)]) ?_;refine ZW ?_;refine pL 2 ?_;refine C8 (l:=c.2) (f:=(fun s:η=>cZ s)) (e:=f7) (kk:=b.gb) (z:=0) (dr:=iD (cM c.2 b.gb 0)) 0 htab rfl rfl rfl rfl rfl rfl rfl rfl rfl rfl jN (fun H v h=>eW h) ln lp rfl (pu ?_);refine JI (l:=c.2) (f:=(fun s:η=>cZ s)) (e:=f7) (kk:=b.gb) (vv:=(ζ.wrap ((cM c.2 b.gb 0)+1))) (h':=[(j,Blk.mp ((ei c.2 b.gb (ζ.wrap ((cM c.2 b.gb 0)+1))).map fun p=>((fun s:η=>cZ s) p.1,f7 p.2))),(g,Blk.cells [cJ a0.gP.gc,cO a0.gP.gf,tD a0.gF.gb,cB a0.gF.gh,cB a0.gF.gi,aI a0.gF.gx,iD a0.gF.ga] 198),(W,Blk.cells [tD b.gb,.v (.bool b.gA)] 101)]) 0 htab rfl rfl rfl rfl rfl rfl rfl rfl rfl rfl jN (fun H v h=>eW h) (Wk.refl _) rfl (Kc (Zl a fun X A Z=>?_));refine KS (Y:=Unit) (fun aa=>⟨[(1,.ptr g 0),(2,.v (.map (some j))),(14,B7 (⟨a0.gF.gh,a0.gF.gi⟩:Kf8)),(15,iD m.1),(18,cB n),(19,iD (n.length:Int)),(20,iD c.1),(40,.v (.bool X))],[(j,Blk.mp ((ei c.2 b.gb (ζ.wrap ((cM c.2 b.gb 0)+1))).map fun p=>((fun s:η=>cZ s) p.1,f7 p.2))),(g,Blk.cells [cJ a0.gP.gc,cO a0.gP.gf,tD a0.gF.gb,cB a0.gF.gh,cB a0.gF.gi,aI a0.gF.gx,iD a0.gF.ga] 198)],[]⟩) ?_ ?_;refine ZH ?_;refine pL 2 ?_;refine C8 (l:=(ei c.2 b.gb (ζ.wrap ((cM c.2 b.gb 0)+1)))) (f:=(fun s:η=>cZ s)) (e:=f7) (kk:=b.gb) (z:=0) (dr:=iD (cM (ei c.2 b.gb (ζ.wrap ((cM c.2 b.gb 0)+1))) b.gb 0)) 0 htab rfl rfl rfl rfl rfl rfl rfl rfl rfl rfl jN (fun H v h=>eW h) ln lp rfl (Zg ?_);refine gW (i:=34) rfl (fun u=>?_) fun u=>?_;have a:=cD u (Kx A);iterate 5 refine pK ?_
 exact ZA a;have a:=cE u (Kx A);refine pL (d:=iZ a0) 1 ?_;refine Ys ?_;refine bN a (JX a0 b.gb) fun an a=>?_;refine pu ?_;exact ZF a;intro ao ac;refine Zb ac fun aa=>?_;refine cY Z ?_ ?_<;>intro a;refine ZH ?_;refine pL 1 ?_;obtain ⟨ad,B,a⟩:=Ka a;rcases ad with ae|af;simp only [Γ] at a;refine i9 (kV a0.gF.ga 8 (.inl ae) B) rfl rfl rfl Wl Pf Pf (mB (oM ?_));obtain rfl:=KU a;refine YZ ?_;obtain rfl:=Ke y;refine gO ?_;simp only [ς] at q;refine mB (oM ?_);obtain rfl:=KU q;refine YZ ?_;obtain rfl:=Ke w;refine gO ?_;simp only [ς] at o;obtain rfl:=Ke o;exact DI;simp only [ς] at a;refine KX (kV a0.gF.ga 8 (.inr af) B) rfl rfl rfl rfl rfl Wl ?_;rintro _ rfl;exact Xh a;exact Xa a;exact YI a y;intro x ap ag ah;subst ag;simp only [Γ] at q;refine KF (Zb ah fun Q=>?_);refine ZH ?_;exact XJ q;exact YA a w;intro K aq ai aj;subst ai;simp only [Γ] at o;obtain rfl:=Ke o;refine oK (retX.wkX aj (fun L=>?_));exact rP (t':=[]) [] [] 0 wN lN Za
def HC (a0:Kk):Option (Int):=
 κ (α:=Bool) (bif a0.gj==1 then some (a0.gj==1) else κ (α:=Bool) (bif a0.gj==3 then some (a0.gj==3) else κ (α:=Bool) (bif a0.gj==6 then some (a0.gj==6) else κ (α:=Bool) (bif a0.gj==7 then some (a0.gj==7) else κ (α:=Bool) (bif a0.gj==8 then some (a0.gj==8) else some (a0.gj==9)) fun a=>some a) fun b=>some b) fun c=>some c) fun d=>some d) fun e=>bif e then some 1 else bif a0.gj==2 then some 2 else bif a0.gj==4 then some (a0.gn.length:Int) else bif a0.gj==5 then some 0 else some (-1)
def Zh {R G:Prop}(h:R)(k:R→G:=by intro h;refine Ze ?_;refine Zd ?_;exact h):G:=k h
def Yp {A0 A1 G:Prop}(a0:A0)(c:A1)(k:A0→A1→G:=by intro _a _b;obtain rfl:=Ke _a;refine ⟨rfl,?_⟩;refine WkX.trans _b (fun _l=>?_);exact Zn):G:=k a0 c
def XK {R G:Prop}(h:R)(k:R→G:=by intro h;refine KF ?_;refine Kb ?_;refine Kd ?_;exact h):G:=k h
def Xi {A0 G:Prop}(a0:A0)(k:A0→G:=by intro _a;obtain rfl:=Ke _a;refine rP (t':=[(2,iD (-1))]) [] [] 0 aU bU ?_;exact Za):G:=k a0
def Yd {R G:Prop}(h:R)(k:R→G:=by intro h;refine Zx ?_;refine pL 0 ?_;exact h):G:=k h
def Y6 {R G:Prop}(h:R)(k:R→G:=by intro h;refine Kp ?_;refine XK ?_;refine Zi ?_;exact h):G:=k h
def Wf {A0 G:Prop}(a0:A0)(k:A0→G:=by intro _a;obtain rfl:=Ke _a;refine rP (t':=[(2,iD 0)]) [] [] 0 aU bU ?_;exact Za):G:=k a0
def Yq {R G:Prop}(h:R)(k:R→G:=by intro h;refine Kd ?_;refine Zy ?_;exact h):G:=k h
def OX (a0 r)(d:HC a0=some r):Cd 183 [Kg a0] [] [] (dJ (iD r)):=by
 refine cQ d Tryz.func183 fun C a=>?_;refine kz (i:=0) rfl (Wk.of_eq (KM a0)) (Zv fun b=>?_);refine Zd ?_;refine Yd ?_;refine Kc (KD (ZM ?_));obtain ⟨e,f,g⟩:=Ka a;refine KS (Y:=Unit) (fun j=>⟨[(1,.ptr b 0),(4,iD a0.gj),(5,.v (.bool e))],[(b,Blk.cells (fv a0 .no .no .no) 105)],[]⟩) ?_ ?_;refine cY (Kx f) (fun a=>?_) fun a=>?_;exact ZO a;refine Zh ?_;obtain ⟨l,m,n⟩:=Ka a;refine KS (Y:=Unit) (fun I=>⟨[(1,.ptr b 0),(4,iD a0.gj),(5,.v (.bool l))],[(b,Blk.cells (fv a0 .no .no .no) 105)],[]⟩) ?_ ?_;refine cY (Kx m) (fun a=>?_) fun a=>?_;exact ZO a;refine Zh ?_;obtain ⟨o,p,q⟩:=Ka a;refine KS (Y:=Unit) (fun J=>⟨[(1,.ptr b 0),(4,iD a0.gj),(5,.v (.bool o))],[(b,Blk.cells (fv a0 .no .no .no) 105)],[]⟩) ?_ ?_;refine cY (Kx p) (fun a=>?_) fun a=>?_;exact ZO a;refine Zh ?_;obtain ⟨s,t,u⟩:=Ka a;refine KS (Y:=Unit) (fun K=>⟨[(1,.ptr b 0),(4,iD a0.gj),(5,.v (.bool s))],[(b,Blk.cells (fv a0 .no .no .no) 105)],[]⟩) ?_ ?_;refine cY (Kx t) (fun a=>?_) fun a=>?_;exact ZO a;refine Zh ?_;obtain ⟨w,x,y⟩:=Ka a;refine KS (Y:=Unit) (fun L=>⟨[(1,.ptr b 0),(4,iD a0.gj),(5,.v (.bool w))],[(b,Blk.cells (fv a0 .no .no .no) 105)],[]⟩) ?_ ?_;refine cY (Kx x) (fun a=>?_) fun a=>?_;exact ZO a;refine ZH ?_;exact ZN a;intro M z;exact Yp y z;intro N A;exact Yp u A;intro O B;exact Yp q B;intro P F;exact Yp n F;intro Q H;refine Zb H fun j=>?_;refine cY g ?_ ?_<;>intro a;refine Yq ?_;exact Xq a;refine Zh ?_;refine cY a ?_ ?_<;>intro a;refine Yq ?_;exact Wd a;refine Zh ?_;refine cY a ?_ ?_<;>intro a;refine ZB ?_;refine Z8 ?_;refine Zy ?_;obtain rfl:=Ke a;exact rP (t':=[(2,iD (a0.gn.length:Int))]) [] [] 0 aU bU Za;refine Zh ?_;refine cY a ?_ ?_<;>intro a;refine Yq ?_;exact Wf a;refine Y6 ?_;exact Xi a
def HB (a0:Int):Option (Int):=
 κ (α:=(Unit)⊕(Int)) (κ (α:=Bool) (bif a0==1 then some (a0==1) else κ (α:=Bool) (bif a0==2 then some (a0==2) else κ (α:=Bool) (bif a0==4 then some (a0==4) else κ (α:=Bool) (bif a0==18 then some (a0==18) else some (a0==19)) fun a=>some a) fun b=>some b) fun c=>some c) fun d=>κ (α:=(Unit)⊕(Int)) (bif d then some (.inr 0) else κ (α:=Bool) (bif a0==3 then some (a0==3) else κ (α:=Bool) (bif a0==20 then some (a0==20) else κ (α:=Bool) (bif a0==5 then some (a0==5) else some (a0==6)) fun e=>some e) fun f=>some f) fun g=>bif g then some (.inr 1) else some (.inl ())) (Ω (fun h=>some (.inl ())) (fun r=>some (.inr r)))) (Ω (fun i=>bif decide (7≤a0) then bif decide (a0≤17) then some 2 else some (-1) else some (-1)) (fun r=>some r))
def ZI {A0 G:Prop}{d:Sort _}{e:(u:d)→Sort _}{f:(u:d)→(v:e u)→Sort _}{R:(u:d)→(v:e u)→(x:f u v)→Prop}(a0:A0)(h:∀ u v x,R u v x)(k:A0→(∀ u v x,R u v x)→G:=by intro _a h;refine Kj ?_;refine ZQ ?_;obtain ⟨_l,_m,_n⟩:=Ka _a;exact h _l _m _n):G:=k a0 h
def YG {R G:Prop}(h:R)(k:R→G:=by intro h;refine pK ?_;refine pK ?_;exact h):G:=k h
def XL {A0 A1 G:Prop}(a0:A0)(g:A1)(k:A0→A1→G:=by intro _a _b;obtain rfl:=Ke _a;refine ze ?_;refine WkX.trans _b (fun _l=>?_);exact Zn):G:=k a0 g
def Xr {R G:Prop}(h:R)(k:R→G:=by intro h;refine YG ?_;refine Z0 ?_;exact h):G:=k h
def OW (a0 r)(j:HB a0=some r):Cd 209 [iD a0] [] [] (dJ (iD r)):=by
 refine cQ j Tryz.func209 fun C a=>?_;refine ZQ ?_;refine ZI a fun l m b=>?_;refine fI (τ:=Unit) (Y:=Unit) (fun n o=>⟨[(0,iD a0)],[],[]⟩) l ?_ ?_;refine KD (ZM ?_);obtain ⟨p,q,s⟩:=Ka (Kx m);refine KS (Y:=Unit) (fun t=>⟨[(0,iD a0),(3,iD a0),(4,.v (.bool p))],[],[]⟩) ?_ ?_;refine cY (Kx q) (fun a=>?_) fun a=>?_;exact ZO a;refine Zh ?_;obtain ⟨w,y,z⟩:=Ka a;refine KS (Y:=Unit) (fun an=>⟨[(0,iD a0),(3,iD a0),(4,.v (.bool w))],[],[]⟩) ?_ ?_;refine cY (Kx y) (fun a=>?_) fun a=>?_;exact ZO a;refine Zh ?_;obtain ⟨A,B,F⟩:=Ka a;refine KS (Y:=Unit) (fun ao=>⟨[(0,iD a0),(3,iD a0),(4,.v (.bool A))],[],[]⟩) ?_ ?_;refine cY (Kx B) (fun a=>?_) fun a=>?_;exact ZO a;refine Zh ?_;obtain ⟨H,I,J⟩:=Ka a;refine KS (Y:=Unit) (fun ap=>⟨[(0,iD a0),(3,iD a0),(4,.v (.bool H))],[],[]⟩) ?_ ?_;refine cY (Kx I) (fun a=>?_) fun a=>?_;exact ZO a;refine ZH ?_;exact ZN a;intro aq K;exact Yp J K;intro ar L;exact Yp F L;intro au M;exact Yp z M;intro av N;refine Zb N fun t=>?_;obtain ⟨O,P,c⟩:=Ka s;refine fI (τ:=Unit) (Y:=Unit) (fun Q aw=>⟨[(0,iD a0)],[],[]⟩) O ?_ ?_;refine cY (Kx P) (fun a=>?_) fun a=>?_;refine Kd (Zi ?_);obtain rfl:=Ke a;refine fH ?_;simp only [ς] at c;refine KI ?_;obtain rfl:=Ke c;refine fH ?_;simp only [ς] at b;exact Ks (Wf b);refine ZM ?_;obtain ⟨U,V,W⟩:=Ka a;refine KS (Y:=Unit) (fun X=>⟨[(0,iD a0),(10,.v (.bool U))],[],[]⟩) ?_ ?_;refine cY (Kx V) (fun a=>?_) fun a=>?_;exact ZO a;refine Zh ?_;obtain ⟨Z,aa,ac⟩:=Ka a;refine KS (Y:=Unit) (fun ax=>⟨[(0,iD a0),(10,.v (.bool Z))],[],[]⟩) ?_ ?_;refine cY (Kx aa) (fun a=>?_) fun a=>?_;exact ZO a;refine Zh ?_;obtain ⟨ad,ae,af⟩:=Ka a;refine KS (Y:=Unit) (fun ay=>⟨[(0,iD a0),(10,.v (.bool ad))],[],[]⟩) ?_ ?_;refine cY (Kx ae) (fun a=>?_) fun a=>?_;exact ZO a;refine ZH ?_;exact ZN a;intro az ag;exact Yp af ag;intro ba ah;exact Yp ac ah;intro bb ai;refine Zb ai fun X=>?_;refine cY W ?_ ?_<;>intro a;refine Kd (Zi ?_);obtain rfl:=Ke a;refine fH ?_;simp only [ς] at c;refine KI ?_;obtain rfl:=Ke c;refine fH ?_;simp only [ς] at b;exact Ks (Xq b);exact Kp (XC a);intro Q bc aj ak;subst aj;simp only [Γ] at c;exact KF (XL c ak);intro n bd al am;subst al;simp only [Γ] at b;refine Zb am fun o=>?_;refine Kj (ZK ?_);refine g6 (i:=17) b ?_ ?_<;>intro a;refine Zg ?_;refine ZU ?_;refine Kc ?_;refine cY a ?_ ?_<;>intro a;refine ZT ?_;exact Wd a;refine Yc ?_;refine Zi ?_;exact Xi a;refine Xr ?_;refine Kc (FV rfl (Yc ?_));refine Zi ?_;exact Xi a
def CD (g0:(K8)→(List Kf)→Option ((Int×Int)⊕(List Int)))(g1:(K8)→(Kf)→Option ((Int×Int)⊕(Int)))(a0:K8)(b:List Kf):Option ((Int×Int)⊕(List Int)):=
 κ (α:=(List Int)⊕((Int×Int)⊕(List Int))) (aE (fun (a:List Int×Int)=>bif decide (a.2<b.length) then (idx b a.2).bind fun c=>(g1 a0 c).bind fun d=>Ω (fun e=>some (.done (.inr (.inl e)))) (fun f=>(app 8 a.1 ([f]:List Int)).bind fun g=>some (.next (g,(ζ.wrap (a.2+1))))) d else some (.done (.inl a.1))) (([]:List Int),0)) (Ω (fun h=>some (.inr h)) (fun r=>some r))
def Z6 {A0 G:Prop}{f:Sort _}{m:(u:f)→Sort _}{s:(u:f)→(v:m u)→Sort _}{F:(u:f)→(v:m u)→(x:s u v)→Sort _}{R:(u:f)→(v:m u)→(x:s u v)→(y:F u v x)→Prop}(a0:A0)(h:∀ u v x y,R u v x y)(k:A0→(∀ u v x y,R u v x y)→G:=by intro _a h;obtain ⟨_l,_m,_n⟩:=Ka _a;refine N0 0 htab rfl rfl rfl rfl rfl rfl rfl rfl rfl rfl rfl rfl rfl rfl rfl rfl rfl (tg _m) (fun _o=>?_);exact h _l _m _n _o):G:=k a0 h
def YQ {R G:Prop}(h:R)(k:R→G:=by intro h;refine Az (d:=.agg (dP _ .no)) htab rfl rfl rfl rfl rfl rfl rfl rfl ?_;exact h):G:=k h
def ZG {G:Prop}(k:G:=by exact WkX.of _ (wP aU)):G:=k
def Wz {A0 A1 G:Prop}(a0:A0)(b:A1)(k:A0→A1→G:=by intro _a _b;refine K3 ?_;refine KH ?_;obtain rfl:=KU _a;refine KH ?_;refine KW ?_;obtain rfl:=Ke _b;refine ze ?_;exact ZG):G:=k a0 b
def Yk {R G:Prop}(h:R)(k:R→G:=by intro h;refine KE ?_;refine Zd ?_;exact h):G:=k h
def XM {R G:Prop}(h:R)(k:R→G:=by intro h;refine pL (d:=.agg (dP _ .no)) 1 ?_;exact h):G:=k h
def Uf {A0 G:Prop}(a0:A0)(k:A0→G:=by intro _a;refine Z6 _a fun _l _m _n _o=>?_;refine jo (i:=19) _m rfl ?_;refine pu ?_;refine Kw ?_;refine XP _n ?_;exact ZG):G:=k a0
def YR {R G:Prop}(h:R)(k:R→G:=by intro h;refine Kc ?_;refine Zs ?_;exact h):G:=k h
def N6 (g:(K8)→(List Kf)→Option ((Int×Int)⊕(List Int))):Prop:=∀ (a0:K8) (b:List Kf) (r:(Int×Int)⊕(List Int)) (n:g a0 b=some r),kl zc Tryz.prog 184 [iZ a0,bQ b] [] [] r (fun r d h k=>∃ c,d=eI r c∧h=[]∧k=[(1,c)])
def N5 (g:(K8)→(Kf)→Option ((Int×Int)⊕(Int))):Prop:=∀ (a0:K8) (b:Kf) (r:(Int×Int)⊕(Int)) (n:g a0 b=some r),kl zc Tryz.prog 201 [iZ a0,Kh b] [] [] r (fun r d h k=>d=iD r∧h=[]∧k=[])
def Q5 (g0:(K8)→(List Kf)→Option ((Int×Int)⊕(List Int)))(g1:(K8)→(Kf)→Option ((Int×Int)⊕(Int)))(O:N6 g0)(t:N5 g1)(a0:K8)(b:List Kf)(r:(Int×Int)⊕(List Int))(n:CD g0 g1 a0 b=some r):kl zc Tryz.prog 184 [iZ a0,bQ b] [] [] r (fun r d h k=>∃ c,d=eI r c∧h=[]∧k=[(1,c)]):=by
 refine wG n Tryz.func184 fun C a=>?_;refine Zv fun w=>?_;refine pu ?_;refine Yk ?_;refine Zx ?_;refine ZL ?_;obtain ⟨H,I,j⟩:=Ka a;refine fI (τ:=List Int) (fun o e=>⟨[(5,eI o e)],[],[(1,e)]⟩) H ?_ ?_;refine Zk I fun P J z=>?_;refine d7 J (fun p q=>⟨[(2,.ptr w 0),(5,eI p.1 q),(8,bQ b),(9,iD (b.length:Int)),(10,iD p.2)],[(w,Blk.cells [cJ a0.gP.gc,cO a0.gP.gf,tD a0.gF.gb,cB a0.gF.gh,cB a0.gF.gi,aI a0.gF.gx,iD a0.gF.ga] 198)],[(1,q)]⟩) ?_ ?_;refine WkX.tokN (i:=5) 1 rfl fun Q=>?_;exact ZG;intro G23 p q a;refine Zz ?_;refine cY a ?_ ?_<;>intro a;refine Yz a fun l U a=>?_;refine bA (i:=12) rfl (Wk.of_eq (a6 D.el (Kn l))) (YQ ?_);refine Zj fun V=>?_;refine dV (ds':=(dP l .no)) ?_;refine YR ?_;refine pL (d:=iZ a0) 0 ?_;refine XM ?_;obtain ⟨K,A,a⟩:=Ka a;rcases K with L|B;simp only [Γ] at a;refine i9 (t a0 l (.inl L) A) rfl rfl rfl aU Pf Pf (mB (oM ?_));obtain rfl:=KU a;refine YZ ?_;obtain rfl:=Ke z;refine gO ?_;simp only [ς] at j;exact ZY j;simp only [ς] at a;refine KX (t a0 l (.inr B) A) rfl rfl rfl rfl rfl aU ?_;rintro _ rfl;refine Zo ?_;exact bA (i:=18) (d':=dO [B]) rfl aU (Uf a);exact Wz a z;intro o W M N;subst M;simp only [Γ] at j;refine Z9 N fun e=>?_;refine Zi ?_;obtain rfl:=Ke j;refine oK (rP (t':=[(4,eI o e)]) [] [0] 0 aU bU ?_);exact ⟨e,rfl,rfl,rfl⟩
abbrev l8:List Int:=[(1:Int),(2:Int)]
abbrev nq:List Int:=[(3:Int)]
abbrev np:List Int:=[(2:Int)]
def CB (g0:(K8)→(List Kf)→Option ((Int×Int)⊕(List Int)))(g1:(K8)→(Kf)→Option ((Int×Int)⊕(Int)))(a0:K8)(a:Kf):Option ((Int×Int)⊕(Int)):=
 (HB a.gj).bind fun d=>κ (α:=Bool) (bif decide (d<0) then some true else some ((a.gd.length:Int) != d)) fun e=>κ (α:=(Unit)⊕((Int×Int)⊕(Int))) (bif e then (j3 a.ga 2).bind fun f=>Ω (fun g=>some (.inr (.inl g))) (fun J=>some (.inl ())) f else some (.inl ())) (Ω (fun K=>(g0 a0 a.gd).bind fun h=>Ω (fun i=>some (.inl i)) (fun c=>κ (α:=Bool) (bif a.gj==14 then some true else some (a.gj==15)) fun j=>bif j then (idx c 0).bind fun k=>(idx c 1).bind fun l=>κ (α:=(Unit)⊕((Int×Int)⊕(Int))) (bif k != l then (idx a.gd 1).bind fun m=>(j3 m.ga 9).bind fun n=>Ω (fun o=>some (.inr (.inl o))) (fun L=>some (.inl ())) n else some (.inl ())) (Ω (fun M=>some (.inr 1)) (fun r=>some r)) else κ (α:=(Unit)⊕((Int×Int)⊕(Int))) (aE (fun (b:Int)=>bif decide (b<a.gd.length) then (idx a.gd b).bind fun p=>(idx c b).bind fun q=>(Ap p q).bind fun s=>Ω (fun t=>some (.done (.inr (.inl t)))) (fun N=>some (.next (ζ.wrap (b+1)))) s else some (.done (.inl ()))) 0) (Ω (fun O=>bif a.gj==2 then (wu a0 a.gb a.ga l8).bind fun u=>Ω (fun v=>some (.inl v)) (fun w=>some (.inr w)) u else bif a.gj==3 then (wu a0 a.gb a.ga nq).bind fun x=>Ω (fun y=>some (.inl y)) (fun P=>some (.inr 1)) x else bif a.gj==4 then (wu a0 a.gb a.ga np).bind fun z=>Ω (fun A=>some (.inl A)) (fun Q=>some (.inr 1)) z else bif a.gj==18 then some (.inr 2) else bif a.gj==19 then (FU a0 a 1).bind fun B=>Ω (fun C=>some (.inl C)) (fun F=>some (.inr F)) B else bif a.gj==20 then (FU a0 a 3).bind fun G=>Ω (fun H=>some (.inl H)) (fun I=>some (.inr I)) G else some (.inr 1)) (fun r=>some r))) h) (fun r=>some r))
def Wg {A0 R G:Prop}(a0:A0)(h:R)(k:A0→R→G:=by intro _a h;refine kT (Ay htab rfl rfl rfl rfl rfl rfl rfl (KG _a) (KQ _a)) ?_;exact h):G:=k a0 h
def Zw {R G:Prop}(h:R)(k:R→G:=by intro h;refine Kt ?_;(iterate 3 refine pu ?_);exact h):G:=k h
def YB {R G:Prop}(h:R)(k:R→G:=by intro h;refine zy (zf htab rfl rfl rfl rfl rfl) ?_;exact h):G:=k h
def ZJ {G:Prop}{N:Sort _}{R:(u:N)→Prop}(h:∀ u,R u)(k:(∀ u,R u)→G:=by intro h;rintro _ _ _ ⟨_l,rfl,rfl,rfl⟩;exact h _l):G:=k h
def X0 {R G:Prop}(h:R)(k:R→G:=by intro h;refine pL (d:=iZ _) 0 ?_;refine pu ?_;refine pL 1 ?_;refine pu ?_;refine pL 1 ?_;refine Zo ?_;exact h):G:=k h
def YC {R G:Prop}(h:R)(k:R→G:=by intro h;refine ue ?_;refine uq ?_;exact h):G:=k h
def YL {R G:Prop}(h:R)(k:R→G:=by intro h;refine fj rfl ?_;refine Zd ?_;exact h):G:=k h
def Wh {G:Prop}(k:G:=by refine rP (t':=[(4,iD 1)]) [] [] 0 aU bU ?_;exact Za):G:=k
def YD {R G:Prop}(h:R)(k:R→G:=by intro h;refine pu ?_;refine Yh ?_;exact h):G:=k h
def Xs {R G:Prop}(h:R)(k:R→G:=by intro h;refine Kc ?_;refine KD ?_;refine Zh ?_;exact h):G:=k h
def Xt {A0 R G:Prop}(a0:A0)(h:R)(k:A0→R→G:=by intro _a h;refine ue ?_;refine Wg _a ?_;refine YB ?_;exact h):G:=k a0 h
def Y0 {A0 R G:Prop}(a0:A0)(h:R)(k:A0→R→G:=by intro _a h;refine YC ?_;refine Wg _a ?_;exact h):G:=k a0 h
def Y7 {R G:Prop}(h:R)(k:R→G:=by intro h;refine Kw ?_;refine XK ?_;exact h):G:=k h
def Xu {R G:Prop}(h:R)(k:R→G:=by intro h;refine Zx ?_;refine pL 1 ?_;exact h):G:=k h
def Q4 (g0:(K8)→(List Kf)→Option ((Int×Int)⊕(List Int)))(g1:(K8)→(Kf)→Option ((Int×Int)⊕(Int)))(s:N6 g0)(ce:N5 g1)(a0:K8)(b:Kf)(r:(Int×Int)⊕(Int))(O:CB g0 g1 a0 b=some r):kl zc Tryz.prog 201 [iZ a0,Kh b] [] [] r (fun r d h k=>d=iD r∧h=[]∧k=[]):=by
 refine wG O Tryz.func201 fun C a=>?_;refine We fun c=>?_;refine Yj fun e=>?_;refine Zd ?_;refine Xu ?_;refine bN a (OW b.gj) fun x3 a=>?_;refine Zd ?_;refine Zl a fun P t Q=>?_;refine KS (Y:=Unit) (fun U=>⟨[(2,.ptr c 0),(3,.ptr e 0),(20,.v (.bool P))],[(c,Blk.cells [cJ a0.gP.gc,cO a0.gP.gf,tD a0.gF.gb,cB a0.gF.gh,cB a0.gF.gi,aI a0.gF.gx,iD a0.gF.ga] 198),(e,Blk.cells (dP b .no) 149)],[]⟩) ?_ ?_;refine Zw ?_;refine gW (i:=14) rfl (fun n=>?_) fun n=>?_;have a:=cD n (Kx t);iterate 5 refine pK ?_
 exact ZA a;have a:=cE n (Kx t);refine YY ?_;refine Z8 ?_;refine Zg ?_;exact ZF a;intro s5 V;refine Zb V fun U=>?_;obtain ⟨W,X,g⟩:=Ka Q;refine fI (τ:=Unit) (Y:=Unit) (fun Z z9=>⟨[(2,.ptr c 0),(3,.ptr e 0)],[(c,Blk.cells [cJ a0.gP.gc,cO a0.gP.gf,tD a0.gF.gb,cB a0.gF.gh,cB a0.gF.gi,aI a0.gF.gx,iD a0.gF.ga] 198),(e,Blk.cells (dP b .no) 149)],[]⟩) W ?_ ?_;refine cY (Kx X) (fun a=>?_) fun a=>?_;refine Zs ?_;refine pL 1 ?_;obtain ⟨ac,w,a⟩:=Ka a;rcases ac with ad|ae;simp only [Γ] at a;refine i9 (kV b.ga 2 (.inl ad) w) rfl rfl rfl Wl Pf Pf ?_;obtain rfl:=Ke a;refine gO ?_;simp only [ς] at g;exact ZY g;simp only [ς] at a;exact KX (kV b.ga 2 (.inr ae) w) rfl rfl rfl rfl rfl Wl (XD a);exact Kp (XC a);intro Z s9 af ag;subst af;simp only [Γ] at g;refine Zb ag fun z9=>?_;refine Kd (pL (d:=iZ a0) 0 ?_);refine YY ?_;obtain ⟨ah,x,a⟩:=Ka g;rcases ah with ai|o;simp only [Γ] at a;exact i9 (s a0 b.gd (.inl ai) x) rfl rfl rfl Wl Pf Pf (ZY a);simp only [ς] at a;refine pG (s a0 b.gd (.inr o) x) Wl Pf Pf ?_;refine ZJ fun j=>?_;refine Zd ?_;refine ZC a fun aj y ak=>?_;refine KS (Y:=Unit) (fun al=>⟨[(2,.ptr c 0),(3,.ptr e 0),(6,eI o j),(35,.v (.bool aj))],[(c,Blk.cells [cJ a0.gP.gc,cO a0.gP.gf,tD a0.gF.gb,cB a0.gF.gh,cB a0.gF.gi,aI a0.gF.gx,iD a0.gF.ga] 198),(e,Blk.cells (dP b .no) 149)],[(1,j)]⟩) ?_ ?_;refine Zs ?_;refine pL 1 ?_;refine Zg ?_;refine gW (i:=31) rfl (fun p=>?_) fun p=>?_;have a:=cD p (Kx y);iterate 3 refine pK ?_
 exact ZA a;have a:=cE p (Kx y);refine YY ?_;refine pu ?_;exact ZF a;intro ci am;refine Zb am fun al=>?_;refine cY ak ?_ ?_<;>intro a;refine ZC a fun cj an a=>?_;obtain ⟨cl,ao,a⟩:=Ka a;refine b5 6 [[],[0],[0,1],[],[3],[3,4]] [0,1,3,4] ?_;iterate 4 apply Θ
 intro bs;refine Xt an ?_;refine Xt ao ?_;refine YL ?_;obtain ⟨ap,aq,l⟩:=Ka a;refine fI (τ:=Unit) (Y:=Unit) (fun ar au=>⟨[],[],[]⟩) ap ?_ ?_;refine cY (Kx aq) (fun a=>?_) fun a=>?_;refine Zs ?_;refine pL 1 ?_;refine Zq a fun q cm a=>?_;refine bA (i:=45) rfl (Wk.of_eq (a6 D.el (Kn q))) (YD ?_);obtain ⟨av,z,a⟩:=Ka a;rcases av with aw|ax;simp only [Γ] at a;refine i9 (kV q.ga 9 (.inl aw) z) rfl rfl rfl Wl Pf Pf ?_;obtain rfl:=Ke a;refine gO ?_;simp only [ς] at l;exact oM (ZY l);simp only [ς] at a;refine KX (kV q.ga 9 (.inr ax) z) rfl rfl rfl rfl rfl Wl ?_;rintro _ rfl;refine Kw ?_;obtain rfl:=Ke a;exact ze (wO (wP wN));refine Kp ?_;obtain rfl:=Ke a;exact ze (wO (wP wN));intro ar cn ay az;subst ay;simp only [Γ] at l;refine Zb az fun au=>?_;refine ZT ?_;obtain rfl:=Ke l;exact oK Wh;refine Zm ?_;refine Xu ?_;refine ZL ?_;obtain ⟨ba,bb,m⟩:=Ka a;refine fI (τ:=Unit) (Y:=Unit) (fun bc bd=>⟨[(2,.ptr c 0),(3,.ptr e 0)],[(c,Blk.cells [cJ a0.gP.gc,cO a0.gP.gf,tD a0.gF.gb,cB a0.gF.gh,cB a0.gF.gi,aI a0.gF.gx,iD a0.gF.ga] 198),(e,Blk.cells (dP b .no) 149)],[]⟩) ba ?_ ?_;refine Zk bb fun co be A=>?_;refine d7 (Y:=Unit) be (fun B bf=>⟨[(2,.ptr c 0),(3,.ptr e 0),(6,eI o j),(50,bQ b.gd),(51,iD (b.gd.length:Int)),(52,iD B)],[(c,Blk.cells [cJ a0.gP.gc,cO a0.gP.gf,tD a0.gF.gb,cB a0.gF.gh,cB a0.gF.gi,aI a0.gF.gx,iD a0.gF.ga] 198),(e,Blk.cells (dP b .no) 149)],[(1,j)]⟩) ?_ ?_;exact Zn;intro G57 B bf a;refine Zz ?_;refine cY a ?_ ?_<;>intro a;refine ZE ?_;refine Ze ?_;refine Zq a fun f cp a=>?_;refine bA (i:=55) rfl (Wk.of_eq (a6 D.el (Kn f))) (YQ ?_);refine Zj fun cq=>?_;refine pu ?_;refine eL (ds':=(dP f .no)) ?_;refine Kc ?_;obtain ⟨F,bg,a⟩:=Ka a;refine b5 5 [[],[],[],[1],[1,3]] [0,1,3] ?_;iterate 3 apply Θ
 intro bs;refine e9 (KN (d:=.agg (dP f .no)) 2 htab rfl rfl rfl rfl rfl) ?_;refine Y0 bg ?_;refine YB ?_;refine fj rfl ?_;obtain ⟨bh,H,a⟩:=Ka a;rcases bh with bi|bj;simp only [Γ] at a;refine i9 (wX f F (.inl bi) H) rfl rfl rfl aU Pf Pf (mB (oM ?_));obtain rfl:=KU a;refine YZ ?_;obtain rfl:=Ke A;refine gO ?_;simp only [ς] at m;exact ZY m;simp only [ς] at a;refine KX (wX f F (.inr bj) H) rfl rfl rfl rfl rfl aU ?_;rintro _ rfl;exact Xh a;exact YI a A;intro bc cr bk bl;subst bk;simp only [Γ] at m;refine Zb bl fun bd=>?_;refine Xu ?_;refine Xs ?_;refine cY m ?_ ?_<;>intro a;refine Kd (X0 ?_);refine bA (i:=73) (d':=dO l8) rfl aU ?_;obtain ⟨bm,I,a⟩:=Ka a;rcases bm with bn|bo;simp only [Γ] at a;refine i9 (oN a0 b.gb b.ga l8 (.inl bn) I) rfl rfl rfl aU Pf Pf (YZ ?_);exact ZY a;simp only [ς] at a;refine KX (oN a0 b.gb b.ga l8 (.inr bo) I) rfl rfl rfl rfl rfl aU ?_;rintro _ rfl;refine Zy ?_;obtain rfl:=Ke a;exact oK Xb;refine Zh ?_;refine cY a ?_ ?_<;>intro a;refine Kt (X0 ?_);refine bA (i:=82) (d':=dO nq) rfl aU ?_;obtain ⟨bp,J,a⟩:=Ka a;rcases bp with bq|br;simp only [Γ] at a;exact i9 (oN a0 b.gb b.ga nq (.inl bq) J) rfl rfl rfl aU Pf Pf (mB (ZY a));simp only [ς] at a;refine KX (oN a0 b.gb b.ga nq (.inr br) J) rfl rfl rfl rfl rfl aU ?_;rintro _ rfl;refine Y7 ?_;refine Zi ?_;obtain rfl:=Ke a;exact oK Wh;refine Zh ?_;refine cY a ?_ ?_<;>intro a;refine Kt (X0 ?_);refine bA (i:=91) (d':=dO np) rfl aU ?_;obtain ⟨bu,K,a⟩:=Ka a;rcases bu with bv|bw;simp only [Γ] at a;exact i9 (oN a0 b.gb b.ga np (.inl bv) K) rfl rfl rfl aU Pf Pf (mB (ZY a));simp only [ς] at a;refine KX (oN a0 b.gb b.ga np (.inr bw) K) rfl rfl rfl rfl rfl aU ?_;rintro _ rfl;refine Y7 ?_;refine Zi ?_;obtain rfl:=Ke a;exact oK Wh;refine Zh ?_;refine cY a ?_ ?_<;>intro a;refine Yq ?_;obtain rfl:=Ke a;exact oK (rP (t':=[(4,iD 2)]) [] [] 0 aU bU Za);refine Zh ?_;refine cY a ?_ ?_<;>intro a;refine Kd (pL (d:=iZ a0) 0 ?_);refine XM ?_;obtain ⟨bx,L,a⟩:=Ka a;rcases bx with bz|ca;simp only [Γ] at a;refine i9 (H7 a0 b 1 (.inl bz) L) rfl rfl rfl aU Pf Pf (YZ ?_);exact ZY a;simp only [ς] at a;refine KX (H7 a0 b 1 (.inr ca) L) rfl rfl rfl rfl rfl aU ?_;rintro _ rfl;refine Zy ?_;obtain rfl:=Ke a;exact oK Xb;refine Zh ?_;refine cY a ?_ ?_<;>intro a;refine Kd (pL (d:=iZ a0) 0 ?_);refine XM ?_;obtain ⟨cb,M,a⟩:=Ka a;rcases cb with cc|cd;simp only [Γ] at a;refine i9 (H7 a0 b 3 (.inl cc) M) rfl rfl rfl aU Pf Pf (YZ ?_);exact ZY a;simp only [ς] at a;refine KX (H7 a0 b 3 (.inr cd) M) rfl rfl rfl rfl rfl aU ?_;rintro _ rfl;refine Zy ?_;obtain rfl:=Ke a;exact oK Xb;refine Y6 ?_;obtain rfl:=Ke a;exact oK Wh
def Kas:Nat→((K8)→(List Kf)→Option ((Int×Int)⊕(List Int)))×((K8)→(Kf)→Option ((Int×Int)⊕(Int)))
 | 0=>(fun _ _=>none,fun _ _=>none)
 | n+1=>(CD ((Kas n).1) ((Kas n).2),CB ((Kas n).1) ((Kas n).2))
def NK:∀ n,(∀ (a0:K8) (a:List Kf) (r:(Int×Int)⊕(List Int)) (b:(Kas n).1 a0 a=some r),kl zc Tryz.prog 184 [iZ a0,.lst 5 (a.map Kh) .no] [] [] r (fun r d h k=>∃ c,d=.lst 1 (r.map f7) (.cur c)∧h=[]∧k=[(1,c)]))∧(∀ (a0:K8) (a:Kf) (r:(Int×Int)⊕(Int)) (b:(Kas n).2 a0 a=some r),kl zc Tryz.prog 201 [iZ a0,Kh a] [] [] r (fun r d h k=>d=iD r∧h=[]∧k=[]))
 | 0=>⟨(fun _ _ _ b=>by cases b),(fun _ _ _ b=>by cases b)⟩
 |
  n+1=>by
  have ih:=NK n;exact ⟨Q5 ((Kas n).1) ((Kas n).2) (ih.1) (ih.2),Q4 ((Kas n).1) ((Kas n).2) (ih.1) (ih.2)⟩
def NJ:∀ n,(∀ (a0:K8) (a:List Kf),Le ((Kas n).1 a0 a) ((Kas (n+1)).1 a0 a))∧(∀ (a0:K8) (a:Kf),Le ((Kas n).2 a0 a) ((Kas (n+1)).2 a0 a))
 | 0=>⟨fun _ _=>Le.none _,fun _ _=>Le.none _⟩
 |
  n+1=>by
  have ih:=NJ n
  exact ⟨fun a0 a=>by show Le (CD ((Kas n).1) ((Kas n).2) a0 a) (CD ((Kas (n+1)).1) ((Kas (n+1)).2) a0 a);revert ih;generalize Kas n=G0;generalize Kas (n+1)=G1;intro ih;unfold CD;repeat (first|with_reducible exact Le.refl _|with_reducible exact ih.1 _ _|with_reducible exact ih.2 _ _|with_reducible assumption|(refine Le.bind ?_ (fun _=>?_))|(refine Le.cond ?_ ?_)|(refine Le.loop (fun _=>?_))|(refine Le.elim (fun _=>?_) (fun _=>?_))),fun a0 a=>by show Le (CB ((Kas n).1) ((Kas n).2) a0 a) (CB ((Kas (n+1)).1) ((Kas (n+1)).2) a0 a);revert ih;generalize Kas n=G0;generalize Kas (n+1)=G1;intro ih;unfold CB;repeat (first|with_reducible exact Le.refl _|with_reducible exact ih.1 _ _|with_reducible exact ih.2 _ _|with_reducible assumption|(refine Le.bind ?_ (fun _=>?_))|(refine Le.cond ?_ ?_)|(refine Le.loop (fun _=>?_))|(refine Le.elim (fun _=>?_) (fun _=>?_)))⟩
def HR (a0:K8)(a:List Kf):Option ((Int×Int)⊕(List Int)):=gK fun n=>(Kas n).1 a0 a
def Qo (a0:K8)(a:List Kf){r:(Int×Int)⊕(List Int)}(n:Nat)(h:(Kas n).1 a0 a=some r):HR a0 a=some r:=kU (fun m=>(NJ m).1 a0 a) h
def Nn (a0:K8)(a:List Kf)(r:(Int×Int)⊕(List Int))(c:HR a0 a=some r):kl zc Tryz.prog 184 [iZ a0,.lst 5 (a.map Kh) .no] [] [] r (fun r d h k=>∃ b,d=.lst 1 (r.map f7) (.cur b)∧h=[]∧k=[(1,b)]):=
 let ⟨n,hn⟩:=kq c;(NK n).1 a0 a r hn
abbrev nl:List Int:=[(1:Int)]
def H3 (a0:K8)(a:Kk)(e:List Int):Option ((Int×Int)⊕(Unit)):=
 κ (α:=(Unit)⊕((Int×Int)⊕(Unit))) (aE (fun (d:Int)=>bif decide (d<a0.gP.gf.length) then (idx a0.gP.gf d).bind fun c=>bif !decide (c.gb=a.gy) then some (.next (ζ.wrap (d+1))) else (κ (α:=(Unit)⊕((Int×Int)⊕(Unit))) (bif (c.gh.length:Int) != e.length then (j3 a.ga 2).bind fun f=>Ω (fun g=>some (.inr (.inl g))) (fun s=>some (.inl ())) f else some (.inl ())) (Ω (fun t=>κ (α:=(Unit)⊕((Int×Int)⊕(Unit))) (aE (fun (b:Int)=>bif decide (b<c.gh.length) then (idx c.gh b).bind fun h=>(Ct h.gA).bind fun i=>(idx e b).bind fun j=>bif i != j then (idx a.gn b).bind fun k=>(j3 k.ga 9).bind fun l=>Ω (fun m=>some (.done (.inr (.inl m)))) (fun u=>some (.next (ζ.wrap (b+1)))) l else some (.next (ζ.wrap (b+1))) else some (.done (.inl ()))) 0) (Ω (fun v=>bif !decide (a.gb=(ν #[])) then (wu a0 a.gb a.ga nl).bind fun n=>Ω (fun o=>some (.done (.inr (.inl o)))) (fun w=>some (.done (.inr (.inr ())))) n else some (.done (.inr (.inr ())))) (fun r=>some (.done (.inr r))))) (fun r=>some (.done (.inr r))))) else some (.done (.inl ()))) 0) (Ω (fun x=>(j3 a.ga 7).bind fun p=>Ω (fun q=>some (.inl q)) (fun y=>some (.inr ())) p) (fun r=>some r))
def Zr {R G:Prop}(h:R)(k:R→G:=by intro h;refine Kc ?_;refine Ko ?_;exact h):G:=k h
def Yr {R G:Prop}(h:R)(k:R→G:=by intro h;refine Zr ?_;refine KI ?_;refine Ks ?_;exact h):G:=k h
def Xv {R G:Prop}(h:R)(k:R→G:=by intro h;refine ue ?_;refine zy (KN 2 htab rfl rfl rfl rfl rfl) ?_;exact h):G:=k h
def Ye {R G:Prop}(h:R)(k:R→G:=by intro h;refine Z8 ?_;refine pu ?_;exact h):G:=k h
def Yt {R G:Prop}(h:R)(k:R→G:=by intro h;refine Kc ?_;refine Zx ?_;exact h):G:=k h
def XR {G:Prop}{F:Sort _}{R:(u:F)→Prop}(h:∀ u,R u)(k:(∀ u,R u)→G:=by intro h;refine kz (i:=1) rfl (Wk.of_eq (KM _)) ?_;refine Zv fun _l=>?_;exact h _l):G:=k h
def WA {R G:Prop}(h:R)(k:R→G:=by intro h;refine Az (d:=Kv _) htab rfl rfl rfl rfl rfl rfl rfl rfl ?_;exact h):G:=k h
def Nv (a0:K8)(b:Kk)(l:List Int)(r:(Int×Int)⊕(Unit))(H:H3 a0 b l=some r):kl zc Tryz.prog 187 [iZ a0,Kg b,fB l] [] [] r (fun r d h k=>d=.tup []∧h=[]∧k=[]):=by
 refine wG H Tryz.func187 fun C a=>?_;refine XR fun f=>?_;refine Yj fun e=>?_;refine Kc (Yo ?_);obtain ⟨I,J,c⟩:=Ka a;refine fI (τ:=Unit) (Y:=Unit) (fun K L=>⟨[(4,.ptr e 0)],[(e,Blk.cells (fv b .no .no .no) 105)],[]⟩) I ?_ ?_;refine Zk J fun ba M g=>?_;refine d7 (Y:=Unit) M (fun s N=>⟨[(2,fB l),(3,.ptr f 0),(4,.ptr e 0),(12,cO a0.gP.gf),(13,iD (a0.gP.gf.length:Int)),(14,iD s)],[(f,Blk.cells [cJ a0.gP.gc,cO a0.gP.gf,tD a0.gF.gb,cB a0.gF.gh,cB a0.gF.gi,aI a0.gF.gx,iD a0.gF.ga] 198),(e,Blk.cells (fv b .no .no .no) 105)],[]⟩) ?_ ?_;exact Zn;intro G208 s N a;refine Zz ?_;refine cY a ?_ ?_<;>intro a;refine Yz a fun m bb a=>?_;refine WA ?_;refine Zj fun t=>?_;refine eL (ds':=(eE m .no .no .no)) ?_;refine Yt ?_;refine pL 2 ?_;refine YY ?_;refine Zd ?_;refine cY a ?_ ?_<;>intro a;refine K3 (KH (KW (Kb (ZH ?_))));exact XJ a;refine Zm ?_;refine Zx ?_;refine pL 2 ?_;refine Ye ?_;refine ZL ?_;obtain ⟨O,P,n⟩:=Ka a;refine fI (τ:=Unit) (Y:=Unit) (fun Q U=>⟨[(2,fB l),(3,.ptr f 0),(4,.ptr e 0),(7,.ptr t 0)],[(f,Blk.cells [cJ a0.gP.gc,cO a0.gP.gf,tD a0.gF.gb,cB a0.gF.gh,cB a0.gF.gi,aI a0.gF.gx,iD a0.gF.ga] 198),(e,Blk.cells (fv b .no .no .no) 105),(t,Blk.cells (eE m .no .no .no) 52)],[]⟩) O ?_ ?_;refine cY (Kx P) (fun a=>?_) fun a=>?_;refine Zs ?_;refine pL 1 ?_;obtain ⟨V,w,a⟩:=Ka a;rcases V with W|X;simp only [Γ] at a;refine i9 (kV b.ga 2 (.inl W) w) rfl rfl rfl Wl Pf Pf ?_;obtain rfl:=Ke a;refine gO ?_;simp only [ς] at n;refine YZ ?_;refine oM ?_;obtain rfl:=KU n;refine YZ ?_;obtain rfl:=Ke g;refine gO ?_;simp only [ς] at c;exact ZY c;simp only [ς] at a;exact KX (kV b.ga 2 (.inr X) w) rfl rfl rfl rfl rfl Wl (XD a);exact Kp (XC a);intro Q bc Z aa;subst Z;simp only [Γ] at n;refine Zb aa fun U=>?_;refine Zx ?_;refine pL 2 ?_;refine ZL ?_;obtain ⟨ac,ad,o⟩:=Ka n;refine fI (τ:=Unit) (Y:=Unit) (fun ae af=>⟨[(3,.ptr f 0),(4,.ptr e 0)],[(f,Blk.cells [cJ a0.gP.gc,cO a0.gP.gf,tD a0.gF.gb,cB a0.gF.gh,cB a0.gF.gi,aI a0.gF.gx,iD a0.gF.ga] 198),(e,Blk.cells (fv b .no .no .no) 105)],[]⟩) ac ?_ ?_;refine Zk ad fun bd ag x=>?_;refine d7 (Y:=Unit) ag (fun y ah=>⟨[(2,fB l),(3,.ptr f 0),(4,.ptr e 0),(33,cB m.gh),(34,iD (m.gh.length:Int)),(35,iD y)],[(f,Blk.cells [cJ a0.gP.gc,cO a0.gP.gf,tD a0.gF.gb,cB a0.gF.gh,cB a0.gF.gi,aI a0.gF.gx,iD a0.gF.ga] 198),(e,Blk.cells (fv b .no .no .no) 105)],[]⟩) ?_ ?_;exact Zn;intro G381 y ah a;refine Zz ?_;refine cY a ?_ ?_<;>intro a;refine ZE ?_;refine Ze ?_;refine Zq a fun p be a=>?_;refine XZ ?_;refine Zj fun bf=>?_;refine pu ?_;refine eL (ds':=[tD p.gb,.v (.bool p.gA)]) ?_;refine Kc (Zl a fun ai aj a=>?_);obtain ⟨bg,ak,a⟩:=Ka a;refine b5 7 [[],[0],[0],[],[],[3],[3,5]] [0,2,3,5] ?_;iterate 4 apply Θ
 intro bs;refine Xv ?_;refine f8 (JU p.gA ai aj) Wl ?_;refine Y0 ak ?_;refine YB ?_;refine YL ?_;refine cY a ?_ ?_<;>intro a;refine Zs ?_;refine pL 1 ?_;refine pu ?_;refine Zq a fun q bh a=>?_;refine bA (i:=51) rfl (Wk.of_eq (a6 D.el (Kn q))) (YD ?_);obtain ⟨al,z,a⟩:=Ka a;rcases al with am|an;simp only [Γ] at a;refine i9 (kV q.ga 9 (.inl am) z) rfl rfl rfl Wl Pf Pf (mB (oM ?_));obtain rfl:=KU a;refine YZ ?_;obtain rfl:=Ke x;refine gO ?_;simp only [ς] at o;refine YZ ?_;refine oM ?_;obtain rfl:=KU o;refine YZ ?_;obtain rfl:=Ke g;refine gO ?_;simp only [ς] at c;exact ZY c;simp only [ς] at a;refine KX (kV q.ga 9 (.inr an) z) rfl rfl rfl rfl rfl Wl ?_;rintro _ rfl;exact Xh a;exact Xa a;exact YI a x;intro ae bi ao ap;subst ao;simp only [Γ] at o;refine Zb ap fun af=>?_;refine Xu ?_;refine Zd ?_;refine cY o ?_ ?_<;>intro a;refine Kt (X0 ?_);refine bA (i:=64) (d':=dO nl) rfl aU ?_;obtain ⟨aq,A,a⟩:=Ka a;rcases aq with ar|au;simp only [Γ] at a;refine i9 (oN a0 b.gb b.ga nl (.inl ar) A) rfl rfl rfl aU Pf Pf (YZ ?_);refine oM ?_;obtain rfl:=KU a;refine YZ ?_;obtain rfl:=Ke g;refine gO ?_;simp only [ς] at c;exact ZY c;simp only [ς] at a;refine KX (oN a0 b.gb b.ga nl (.inr au) A) rfl rfl rfl rfl rfl aU ?_;rintro _ rfl;refine Yr ?_;obtain rfl:=KU a;refine Zt ?_;obtain rfl:=Ke g;refine fH ?_;simp only [ς] at c;exact Ks (Wc c);refine Zm ?_;refine Ko (YN ?_);obtain rfl:=KU a;refine Zt ?_;obtain rfl:=Ke g;refine fH ?_;simp only [ς] at c;exact Ks (Wc c);refine K3 (KH ?_);obtain rfl:=KU a;refine KH (KW ?_);obtain rfl:=Ke g;exact ze (wO (WkS.perm aU ((KO (j:=1) rfl).trans (χ _ Pf)) Pf));intro K bj av aw;subst av;simp only [Γ] at c;refine Zb aw fun L=>?_;refine Zs ?_;refine pL 0 ?_;obtain ⟨ax,B,a⟩:=Ka c;rcases ax with ay|az;simp only [Γ] at a;refine i9 (kV b.ga 7 (.inl ay) B) rfl rfl rfl Wl Pf Pf ?_;obtain rfl:=Ke a;exact DI;simp only [ς] at a;refine KX (kV b.ga 7 (.inr az) B) rfl rfl rfl rfl rfl Wl ?_;rintro _ rfl;exact Kw (Wc a)
end
section
open Go
set_option maxRecDepth 100000
def CE (g0:(K8)→(List Kk)→Option ((Int×Int)⊕(Unit)))(g1:(K8)→(Kk)→Option ((Int×Int)⊕(Unit)))(a0:K8)(b:List Kk):Option ((Int×Int)⊕(Unit)):=
 κ (α:=(Unit)⊕((Int×Int)⊕(Unit))) (aE (fun (a:Int)=>bif decide (a<b.length) then (idx b a).bind fun c=>(g1 a0 c).bind fun d=>Ω (fun e=>some (.done (.inr (.inl e)))) (fun f=>some (.next (ζ.wrap (a+1)))) d else some (.done (.inl ()))) 0) (Ω (fun g=>some (.inr ())) (fun r=>some r))
def Wi {R G:Prop}(h:R)(k:R→G:=by intro h;refine Az (d:=.agg (fv _ .no .no .no)) htab rfl rfl rfl rfl rfl rfl rfl rfl ?_;exact h):G:=k h
def X1 {R G:Prop}(h:R)(k:R→G:=by intro h;refine pL (d:=.agg (fv _ .no .no .no)) 1 ?_;exact h):G:=k h
def N4 (g:(K8)→(List Kk)→Option ((Int×Int)⊕(Unit))):Prop:=∀ (a0:K8) (b:List Kk) (r:(Int×Int)⊕(Unit)) (f:g a0 b=some r),kl zc Tryz.prog 131 [iZ a0,aI b] [] [] r (fun r d h k=>d=.tup []∧h=[]∧k=[])
def N3 (g:(K8)→(Kk)→Option ((Int×Int)⊕(Unit))):Prop:=∀ (a0:K8) (b:Kk) (r:(Int×Int)⊕(Unit)) (f:g a0 b=some r),kl zc Tryz.prog 159 [iZ a0,Kg b] [] [] r (fun r d h k=>d=.tup []∧h=[]∧k=[])
def Q2 (g0:(K8)→(List Kk)→Option ((Int×Int)⊕(Unit)))(g1:(K8)→(Kk)→Option ((Int×Int)⊕(Unit)))(B:N4 g0)(j:N3 g1)(a0:K8)(b:List Kk)(r:(Int×Int)⊕(Unit))(f:CE g0 g1 a0 b=some r):kl zc Tryz.prog 131 [iZ a0,aI b] [] [] r (fun r d h k=>d=.tup []∧h=[]∧k=[]):=by
 refine wG f Tryz.func131 fun C a=>?_;refine Zv fun l=>?_;refine Zf ?_;refine ZL ?_;obtain ⟨p,q,c⟩:=Ka a;refine fI (τ:=Unit) (Y:=Unit) (fun s t=>⟨[],[],[]⟩) p ?_ ?_;refine Zk q fun F u m=>?_;refine d7 (Y:=Unit) u (fun n v=>⟨[(2,.ptr l 0),(6,aI b),(7,iD (b.length:Int)),(8,iD n)],[(l,Blk.cells [cJ a0.gP.gc,cO a0.gP.gf,tD a0.gF.gb,cB a0.gF.gh,cB a0.gF.gi,aI a0.gF.gx,iD a0.gF.ga] 198)],[]⟩) ?_ ?_;exact Zn;intro G19 n v a;refine Zz ?_;refine cY a ?_ ?_<;>intro a;refine Yz a fun e H a=>?_;refine bA (i:=10) rfl (Wk.of_eq (a6 D.el (KM e))) (Wi ?_);refine Zj fun I=>?_;refine dV (ds':=(fv e .no .no .no)) ?_;refine Kc (Kt (pL (d:=iZ a0) 0 ?_));refine X1 ?_;obtain ⟨w,o,a⟩:=Ka a;rcases w with x|y;simp only [Γ] at a;refine i9 (j a0 e (.inl x) o) rfl rfl rfl aU Pf Pf (mB (oM ?_));obtain rfl:=KU a;refine YZ ?_;obtain rfl:=Ke m;refine gO ?_;simp only [ς] at c;obtain rfl:=Ke c;exact DI;simp only [ς] at a;refine KX (j a0 e (.inr y) o) rfl rfl rfl rfl rfl aU ?_;rintro _ rfl;exact Xh a;exact YA a m;intro s J z A;subst z;simp only [Γ] at c;obtain rfl:=Ke c;refine oK (retX.wkX A (fun t=>?_));exact rP (t':=[]) [] [] 0 wN lN Za
def CA (g0:(K8)→(List Kk)→Option ((Int×Int)⊕(Unit)))(g1:(K8)→(Kk)→Option ((Int×Int)⊕(Unit)))(a0:K8)(a:Kk):Option ((Int×Int)⊕(Unit)):=
 (HC a).bind fun c=>κ (α:=Bool) (bif decide (c<(0:Int)) then some true else some ((a.gn.length:Int) != c)) fun d=>κ (α:=(Unit)⊕((Int×Int)⊕(Unit))) (bif d then (j3 a.ga (2:Int)).bind fun e=>Ω (fun f=>some (.inr (.inl f))) (fun V=>some (.inl ())) e else some (.inl ())) (Ω (fun W=>(HR a0 a.gn).bind fun g=>Ω (fun h=>some (.inl h)) (fun b=>κ (α:=(Unit)⊕((Int×Int)⊕(Unit))) (κ (α:=(Unit)⊕((Int×Int)⊕(Unit))) (bif a.gj==(1:Int) then (idx b (0:Int)).bind fun i=>(wu a0 a.gb a.ga l8).bind fun j=>Ω (fun k=>some (.inr (.inl k))) (fun l=>κ (α:=(Unit)⊕((Int×Int)⊕(Unit))) (bif l != i then (j3 a.ga (9:Int)).bind fun m=>Ω (fun n=>some (.inr (.inl n))) (fun X=>some (.inl ())) m else some (.inl ())) (Ω (fun Y=>some (.inl ())) (fun r=>some (.inr r)))) j else κ (α:=(Unit)⊕((Int×Int)⊕(Unit))) (bif a.gj==(2:Int) then (idx a.gn (0:Int)).bind fun o=>(idx b (0:Int)).bind fun p=>(Ap o p).bind fun q=>Ω (fun s=>some (.inr (.inl s))) (fun Z=>(idx a.gn (1:Int)).bind fun t=>(idx b (1:Int)).bind fun u=>(Ap t u).bind fun v=>Ω (fun w=>some (.inr (.inl w))) (fun aa=>(wu a0 a.gb a.ga nq).bind fun x=>Ω (fun y=>some (.inr (.inl y))) (fun ac=>some (.inl ())) x) v) q else κ (α:=(Unit)⊕((Int×Int)⊕(Unit))) (bif a.gj==(3:Int) then (idx a.gn (0:Int)).bind fun z=>(idx b (0:Int)).bind fun A=>(Ap z A).bind fun B=>Ω (fun C=>some (.inr (.inl C))) (fun ad=>(wu a0 a.gb a.ga np).bind fun F=>Ω (fun G=>some (.inr (.inl G))) (fun ae=>some (.inl ())) F) B else κ (α:=(Unit)⊕((Int×Int)⊕(Unit))) (bif a.gj==(4:Int) then (H3 a0 a b).bind fun H=>Ω (fun I=>some (.inr (.inl I))) (fun af=>some (.inl ())) H else κ (α:=(Unit)⊕((Int×Int)⊕(Unit))) (bif a.gj==(5:Int) then (wu a0 a.gb a.ga nl).bind fun J=>Ω (fun K=>some (.inr (.inl K))) (fun ag=>some (.inl ())) J else (idx a.gn (0:Int)).bind fun L=>(idx b (0:Int)).bind fun M=>(Ap L M).bind fun N=>Ω (fun O=>some (.inr (.inl O))) (fun ah=>some (.inl ())) N) (Ω (fun ai=>some (.inl ())) (fun r=>some (.inr r)))) (Ω (fun aj=>some (.inl ())) (fun r=>some (.inr r)))) (Ω (fun ak=>some (.inl ())) (fun r=>some (.inr r)))) (Ω (fun al=>some (.inl ())) (fun r=>some (.inr r)))) (Ω (fun am=>some (.inl ())) (fun r=>some (.inr r)))) (Ω (fun an=>(g0 a0 a.gd).bind fun P=>Ω (fun Q=>some (.inl Q)) (fun ao=>(g0 a0 a.gr).bind fun R=>Ω (fun U=>some (.inl U)) (fun ap=>some (.inr ())) R) P) (fun r=>some r))) g) (fun r=>some r))
def YS {A0 R G:Prop}(a0:A0)(h:R)(k:A0→R→G:=by intro _a h;refine kT (Ex.wk (Ay htab rfl rfl rfl rfl rfl rfl rfl (KG _a) (KQ _a)) (Wk.of_eq (a6 D.el (Kn _)))) ?_;refine e9 (zf (d:=.agg (dP _ .no)) htab rfl rfl rfl rfl rfl) ?_;exact h):G:=k a0 h
def Xc {R G:Prop}(h:R)(k:R→G:=by intro h;refine ue ?_;refine e9 (KN 1 htab rfl rfl rfl rfl rfl) ?_;exact h):G:=k h
def Y8 {R G:Prop}(h:R)(k:R→G:=by intro h;refine e9 (zf htab rfl rfl rfl rfl rfl) ?_;exact h):G:=k h
def WK {R G:Prop}(h:R)(k:R→G:=by intro h;refine b5 7 [[],[0],[0,1],[0,1,2],[],[4],[4,5]] [0,1,2,3,4,5] ?_;exact h):G:=k h
def Q3 (g0:(K8)→(List Kk)→Option ((Int×Int)⊕(Unit)))(g1:(K8)→(Kk)→Option ((Int×Int)⊕(Unit)))(p:N4 g0)(eg:N3 g1)(a0:K8)(b:Kk)(r:(Int×Int)⊕(Unit))(h0:CA g0 g1 a0 b=some r):kl zc Tryz.prog 159 [iZ a0,Kg b] [] [] r (fun r d h k=>d=.tup []∧h=[]∧k=[]):=by
 refine wG h0 Tryz.func159 fun C a=>?_;refine XR fun g=>?_;refine Yj fun j=>?_;refine Kc (Kj (Kd (X1 ?_)));refine bN a (OX b) fun x3 a=>?_;refine Zd ?_;refine Zl a fun y5 w ag=>?_;refine KS (Y:=Unit) (fun z5=>⟨[(2,.ptr g 0),(3,.ptr j 0),(16,.v (.bool y5))],[(g,Blk.cells [cJ a0.gP.gc,cO a0.gP.gf,tD a0.gF.gb,cB a0.gF.gh,cB a0.gF.gi,aI a0.gF.gx,iD a0.gF.ga] 198),(j,Blk.cells (fv b .no .no .no) 105)],[]⟩) ?_ ?_;refine Zw ?_;refine gW (i:=10) rfl (fun t=>?_) fun t=>?_;have a:=cD t (Kx w);iterate 5 refine pK ?_
 exact ZA a;have a:=cE t (Kx w);refine YY ?_;refine Z8 ?_;refine Zg ?_;exact ZF a;intro s5 ai;refine Zb ai fun z5=>?_;obtain ⟨x9,q9,q⟩:=Ka ag;refine fI (τ:=Unit) (Y:=Unit) (fun y9 z9=>⟨[(2,.ptr g 0),(3,.ptr j 0)],[(g,Blk.cells [cJ a0.gP.gc,cO a0.gP.gf,tD a0.gF.gb,cB a0.gF.gh,cB a0.gF.gi,aI a0.gF.gx,iD a0.gF.ga] 198),(j,Blk.cells (fv b .no .no .no) 105)],[]⟩) x9 ?_ ?_;refine cY (Kx q9) (fun a=>?_) fun a=>?_;refine Zs ?_;refine pL 1 ?_;obtain ⟨an,x,a⟩:=Ka a;rcases an with ao|ap;simp only [Γ] at a;refine i9 (kV b.ga 2 (.inl ao) x) rfl rfl rfl Wl Pf Pf ?_;obtain rfl:=Ke a;refine gO ?_;simp only [ς] at q;exact ZY q;simp only [ς] at a;exact KX (kV b.ga 2 (.inr ap) x) rfl rfl rfl rfl rfl Wl (XD a);exact Kp (XC a);intro y9 s9 aq ar;subst aq;simp only [Γ] at q;refine Zb ar fun z9=>?_;refine Kd (pL (d:=iZ a0) 0 ?_);refine YY ?_;obtain ⟨au,y,a⟩:=Ka q;rcases au with av|u;simp only [Γ] at a;exact i9 (Nn a0 b.gn (.inl av) y) rfl rfl rfl Wl Pf Pf (ZY a);simp only [ς] at a;refine pG (Nn a0 b.gn (.inr u) y) Wl Pf Pf ?_;refine ZJ fun ek=>?_;refine Zd ?_;refine Xu ?_;refine Kc ?_;obtain ⟨aw,ax,c⟩:=Ka a;refine fI (τ:=Unit) (Y:=Unit) (fun ay az=>⟨[(2,.ptr g 0),(3,.ptr j 0)],[(g,Blk.cells [cJ a0.gP.gc,cO a0.gP.gf,tD a0.gF.gb,cB a0.gF.gh,cB a0.gF.gi,aI a0.gF.gx,iD a0.gF.ga] 198),(j,Blk.cells (fv b .no .no .no) 105)],[]⟩) aw ?_ ?_;refine KD (Zh ?_);obtain ⟨ba,bb,f⟩:=Ka (Kx ax);refine fI (τ:=Unit) (Y:=Unit) (fun bc em=>⟨[(2,.ptr g 0),(3,.ptr j 0)],[(g,Blk.cells [cJ a0.gP.gc,cO a0.gP.gf,tD a0.gF.gb,cB a0.gF.gh,cB a0.gF.gi,aI a0.gF.gx,iD a0.gF.ga] 198),(j,Blk.cells (fv b .no .no .no) 105)],[]⟩) ba ?_ ?_;refine cY (Kx bb) (fun a=>?_) fun a=>?_;refine Zl a fun eo z a=>?_;obtain ⟨bd,A,a⟩:=Ka a;rcases bd with B|be;simp only [Γ] at a;refine AK (pe:=B) (fun e _ _=>match e with|6=>False|_=>True) 10 [[],[],[1],[],[3],[],[0,1,2,3,4,5],[],[7],[7,8]] [0,1,2,3,4,5,6,7,8,9] ?_ ?_;refine oM ?_;obtain rfl:=Ke a;refine gO ?_;simp only [ς] at f;refine mB ?_;obtain rfl:=Ke f;refine gO ?_;simp only [ς] at c;exact ZY c;iterate 10 apply Θ
 intro bs;refine e9 (KN (d:=iZ a0) 0 htab rfl rfl rfl rfl rfl) ?_;refine Xc ?_;refine Xc ?_;refine sT (ExE.wk (iP htab rfl rfl rfl rfl rfl rfl rfl rfl rfl rfl rfl) (show Wk _ (dO l8) from Wk.lst0 (.cons (WkC.refl _) (.cons (WkC.refl _) (.nil))))) ?_;refine Ik (d:=iD 0) (oN a0 b.gb b.ga l8 (.inl B) A) (WkL.cons (Wk.refl _) (WkL.cons (Wk.refl _) (WkL.cons (Wk.refl _) (WkL.cons (Wk.no) Wl)))) ?_;refine ue ?_;refine Wg z ?_;refine Y8 ?_;exact Ij 6 (fun _ h=>h);simp only [ς] at a;refine b5 10 [[],[],[1],[],[3],[],[0,1,3,5],[],[7],[7,8]] [0,1,3,5,6,7,8] ?_;iterate 7 apply Θ
 intro bs;refine e9 (KN (d:=iZ a0) 0 htab rfl rfl rfl rfl rfl) ?_;refine ue ?_;refine zy (KN 1 htab rfl rfl rfl rfl rfl) ?_;refine ue ?_;refine zy (KN 1 htab rfl rfl rfl rfl rfl) ?_;refine sT (ExE.wk (iP htab rfl rfl rfl rfl rfl rfl rfl rfl rfl rfl rfl) (show Wk _ (dO l8) from Wk.lst0 (.cons (WkC.refl _) (.cons (WkC.refl _) (.nil))))) ?_;refine f8 (oN a0 b.gb b.ga l8 (.inr be) A) (WkL.cons (Wk.refl _) (WkL.cons (Wk.refl _) (WkL.cons (Wk.refl _) (WkL.cons (Wk.no) Wl)))) ?_;refine Xt z ?_;refine YL ?_;obtain ⟨bf,bg,s⟩:=Ka a;refine fI (τ:=Unit) (Y:=Unit) (fun bh ep=>⟨[(2,.ptr g 0),(3,.ptr j 0)],[(g,Blk.cells [cJ a0.gP.gc,cO a0.gP.gf,tD a0.gF.gb,cB a0.gF.gh,cB a0.gF.gi,aI a0.gF.gx,iD a0.gF.ga] 198),(j,Blk.cells (fv b .no .no .no) 105)],[]⟩) bf ?_ ?_;refine cY (Kx bg) (fun a=>?_) fun a=>?_;refine Zs ?_;refine pL 1 ?_;obtain ⟨bi,F,a⟩:=Ka a;rcases bi with bj|bk;simp only [Γ] at a;refine i9 (kV b.ga 9 (.inl bj) F) rfl rfl rfl Wl Pf Pf ?_;obtain rfl:=Ke a;refine gO ?_;simp only [ς] at s;obtain rfl:=Ke s;refine gO ?_;simp only [ς] at f;refine mB ?_;obtain rfl:=Ke f;refine gO ?_;simp only [ς] at c;exact ZY c;simp only [ς] at a;exact KX (kV b.ga 9 (.inr bk) F) rfl rfl rfl rfl rfl Wl (XD a);exact Kp (XC a);intro bh eq bl bm;subst bl;simp only [Γ] at s;exact XL s bm;refine Zh ?_;obtain ⟨bn,bo,l⟩:=Ka a;refine fI (τ:=Unit) (Y:=Unit) (fun bp er=>⟨[(2,.ptr g 0),(3,.ptr j 0)],[(g,Blk.cells [cJ a0.gP.gc,cO a0.gP.gf,tD a0.gF.gb,cB a0.gF.gh,cB a0.gF.gi,aI a0.gF.gx,iD a0.gF.ga] 198),(j,Blk.cells (fv b .no .no .no) 105)],[]⟩) bn ?_ ?_;refine cY (Kx bo) (fun a=>?_) fun a=>?_;refine Zl a fun H bq a=>?_;obtain ⟨I,br,a⟩:=Ka a;refine WK ?_;iterate 6 apply Θ
 intro bs;refine Xc ?_;refine YS bq ?_;refine Xt br ?_;refine fj rfl ?_;obtain ⟨bu,J,a⟩:=Ka a;rcases bu with bv|bw;simp only [Γ] at a;refine i9 (wX H I (.inl bv) J) rfl rfl rfl aU Pf Pf (oM ?_);obtain rfl:=Ke a;refine gO ?_;simp only [ς] at l;obtain rfl:=Ke l;refine gO ?_;simp only [ς] at f;refine mB ?_;obtain rfl:=Ke f;refine gO ?_;simp only [ς] at c;exact ZY c;simp only [ς] at a;refine KX (wX H I (.inr bw) J) rfl rfl rfl rfl rfl aU ?_;rintro _ rfl;refine Kc (Zl a fun K bx a=>?_);obtain ⟨L,bz,a⟩:=Ka a;refine WK ?_;iterate 6 apply Θ
 intro bs;refine Xc ?_;refine YS bx ?_;refine Xt bz ?_;refine fj rfl ?_;obtain ⟨ca,M,a⟩:=Ka a;rcases ca with cb|cc;simp only [Γ] at a;refine i9 (wX K L (.inl cb) M) rfl rfl rfl aU Pf Pf (oM ?_);obtain rfl:=Ke a;refine gO ?_;simp only [ς] at l;obtain rfl:=Ke l;refine gO ?_;simp only [ς] at f;refine mB ?_;obtain rfl:=Ke f;refine gO ?_;simp only [ς] at c;exact ZY c;simp only [ς] at a;refine KX (wX K L (.inr cc) M) rfl rfl rfl rfl rfl aU ?_;rintro _ rfl;refine Kc (Kt (X0 ?_));refine bA (i:=73) (d':=dO nq) rfl aU ?_;obtain ⟨cd,N,a⟩:=Ka a;rcases cd with ce|cf;simp only [Γ] at a;refine i9 (oN a0 b.gb b.ga nq (.inl ce) N) rfl rfl rfl aU Pf Pf ?_;obtain rfl:=Ke a;refine gO ?_;simp only [ς] at l;obtain rfl:=Ke l;refine gO ?_;simp only [ς] at f;refine mB ?_;obtain rfl:=Ke f;refine gO ?_;simp only [ς] at c;exact ZY c;simp only [ς] at a;exact KX (oN a0 b.gb b.ga nq (.inr cf) N) rfl rfl rfl rfl rfl aU (XD a);refine Zh ?_;obtain ⟨cg,ch,m⟩:=Ka a;refine fI (τ:=Unit) (Y:=Unit) (fun ci es=>⟨[(2,.ptr g 0),(3,.ptr j 0)],[(g,Blk.cells [cJ a0.gP.gc,cO a0.gP.gf,tD a0.gF.gb,cB a0.gF.gh,cB a0.gF.gi,aI a0.gF.gx,iD a0.gF.ga] 198),(j,Blk.cells (fv b .no .no .no) 105)],[]⟩) cg ?_ ?_;refine cY (Kx ch) (fun a=>?_) fun a=>?_;refine Zl a fun O cj a=>?_;obtain ⟨P,cl,a⟩:=Ka a;refine WK ?_;iterate 6 apply Θ
 intro bs;refine Xc ?_;refine YS cj ?_;refine Xt cl ?_;refine fj rfl ?_;obtain ⟨cm,Q,a⟩:=Ka a;rcases cm with cn|co;simp only [Γ] at a;refine i9 (wX O P (.inl cn) Q) rfl rfl rfl aU Pf Pf (oM ?_);obtain rfl:=Ke a;refine gO ?_;simp only [ς] at m;obtain rfl:=Ke m;refine gO ?_;simp only [ς] at l;obtain rfl:=Ke l;refine gO ?_;simp only [ς] at f;refine mB ?_;obtain rfl:=Ke f;refine gO ?_;simp only [ς] at c;exact ZY c;simp only [ς] at a;refine KX (wX O P (.inr co) Q) rfl rfl rfl rfl rfl aU ?_;rintro _ rfl;refine Kc (Kt (X0 ?_));refine bA (i:=90) (d':=dO np) rfl aU ?_;obtain ⟨cp,U,a⟩:=Ka a;rcases cp with cq|cr;simp only [Γ] at a;refine i9 (oN a0 b.gb b.ga np (.inl cq) U) rfl rfl rfl aU Pf Pf ?_;obtain rfl:=Ke a;refine gO ?_;simp only [ς] at m;obtain rfl:=Ke m;refine gO ?_;simp only [ς] at l;obtain rfl:=Ke l;refine gO ?_;simp only [ς] at f;refine mB ?_;obtain rfl:=Ke f;refine gO ?_;simp only [ς] at c;exact ZY c;simp only [ς] at a;exact KX (oN a0 b.gb b.ga np (.inr cr) U) rfl rfl rfl rfl rfl aU (XD a);refine Zh ?_;obtain ⟨cs,ct,n⟩:=Ka a;refine fI (τ:=Unit) (Y:=Unit) (fun cu et=>⟨[(2,.ptr g 0),(3,.ptr j 0)],[(g,Blk.cells [cJ a0.gP.gc,cO a0.gP.gf,tD a0.gF.gb,cB a0.gF.gh,cB a0.gF.gi,aI a0.gF.gx,iD a0.gF.ga] 198),(j,Blk.cells (fv b .no .no .no) 105)],[]⟩) cs ?_ ?_;refine cY (Kx ct) (fun a=>?_) fun a=>?_;refine Kt (pL (d:=iZ a0) 0 ?_);refine X1 ?_;refine pu ?_;obtain ⟨cv,V,a⟩:=Ka a;rcases cv with cw|cx;simp only [Γ] at a;refine i9 (Nv a0 b u (.inl cw) V) rfl rfl rfl aU Pf Pf ?_;obtain rfl:=Ke a;refine gO ?_;simp only [ς] at n;obtain rfl:=Ke n;refine gO ?_;simp only [ς] at m;obtain rfl:=Ke m;refine gO ?_;simp only [ς] at l;obtain rfl:=Ke l;refine gO ?_;simp only [ς] at f;refine mB ?_;obtain rfl:=Ke f;refine gO ?_;simp only [ς] at c;exact ZY c;simp only [ς] at a;exact KX (Nv a0 b u (.inr cx) V) rfl rfl rfl rfl rfl aU (XD a);refine Zh ?_;obtain ⟨cy,cz,o⟩:=Ka a;refine fI (τ:=Unit) (Y:=Unit) (fun da eu=>⟨[(2,.ptr g 0),(3,.ptr j 0)],[(g,Blk.cells [cJ a0.gP.gc,cO a0.gP.gf,tD a0.gF.gb,cB a0.gF.gh,cB a0.gF.gi,aI a0.gF.gx,iD a0.gF.ga] 198),(j,Blk.cells (fv b .no .no .no) 105)],[]⟩) cy ?_ ?_;refine cY (Kx cz) (fun a=>?_) fun a=>?_;refine Kt (X0 ?_);refine bA (i:=105) (d':=dO nl) rfl aU ?_;obtain ⟨db,W,a⟩:=Ka a;rcases db with dc|dd;simp only [Γ] at a;refine i9 (oN a0 b.gb b.ga nl (.inl dc) W) rfl rfl rfl aU Pf Pf ?_;obtain rfl:=Ke a;refine gO ?_;simp only [ς] at o;obtain rfl:=Ke o;refine gO ?_;simp only [ς] at n;obtain rfl:=Ke n;refine gO ?_;simp only [ς] at m;obtain rfl:=Ke m;refine gO ?_;simp only [ς] at l;obtain rfl:=Ke l;refine gO ?_;simp only [ς] at f;refine mB ?_;obtain rfl:=Ke f;refine gO ?_;simp only [ς] at c;exact ZY c;simp only [ς] at a;exact KX (oN a0 b.gb b.ga nl (.inr dd) W) rfl rfl rfl rfl rfl aU (XD a);obtain ⟨X,de,a⟩:=Ka a;obtain ⟨Z,df,a⟩:=Ka a;refine WK ?_;iterate 6 apply Θ
 intro bs;refine Xc ?_;refine YS de ?_;refine Xt df ?_;refine fj rfl ?_;obtain ⟨dh,aa,a⟩:=Ka a;rcases dh with di|dj;simp only [Γ] at a;refine i9 (wX X Z (.inl di) aa) rfl rfl rfl aU Pf Pf ?_;obtain rfl:=Ke a;refine gO ?_;simp only [ς] at o;obtain rfl:=Ke o;refine gO ?_;simp only [ς] at n;obtain rfl:=Ke n;refine gO ?_;simp only [ς] at m;obtain rfl:=Ke m;refine gO ?_;simp only [ς] at l;obtain rfl:=Ke l;refine gO ?_;simp only [ς] at f;refine mB ?_;obtain rfl:=Ke f;refine gO ?_;simp only [ς] at c;exact ZY c;simp only [ς] at a;exact KX (wX X Z (.inr dj) aa) rfl rfl rfl rfl rfl aU (XD a);intro da ev dk dm;subst dk;simp only [Γ] at o;exact XL o dm;intro cu ew dp dq;subst dp;simp only [Γ] at n;exact XL n dq;intro ci ex dr ds;subst dr;simp only [Γ] at m;exact XL m ds;intro bp ey dt du;subst dt;simp only [Γ] at l;exact XL l du;intro bc ez dw dx;subst dw;simp only [Γ] at f;exact KF (XL f dx);intro ay fa dy dz;subst dy;simp only [Γ] at c;refine Zb dz fun az=>?_;refine Kd (pL (d:=iZ a0) 0 ?_);refine YY ?_;obtain ⟨ea,ac,a⟩:=Ka c;rcases ea with eb|ec;simp only [Γ] at a;exact i9 (p a0 b.gd (.inl eb) ac) rfl rfl rfl Wl Pf Pf (ZY a);simp only [ς] at a;refine KX (p a0 b.gd (.inr ec) ac) rfl rfl rfl rfl rfl Wl ?_;rintro _ rfl;refine Kc (Kt (pL (d:=iZ a0) 0 ?_));refine YY ?_;obtain ⟨ed,ad,a⟩:=Ka a;rcases ed with ee|ef;simp only [Γ] at a;refine i9 (p a0 b.gr (.inl ee) ad) rfl rfl rfl Wl Pf Pf ?_;obtain rfl:=Ke a;exact DI;simp only [ς] at a;refine KX (p a0 b.gr (.inr ef) ad) rfl rfl rfl rfl rfl Wl ?_;rintro _ rfl;exact Kw (Wc a)
def Kam:Nat→((K8)→(List Kk)→Option ((Int×Int)⊕(Unit)))×((K8)→(Kk)→Option ((Int×Int)⊕(Unit)))
 | 0=>(fun _ _=>none,fun _ _=>none)
 | n+1=>(CE ((Kam n).1) ((Kam n).2),CA ((Kam n).1) ((Kam n).2))
def NC:∀ n,(∀ (a0:K8) (a:List Kk) (r:(Int×Int)⊕(Unit)) (b:(Kam n).1 a0 a=some r),kl zc Tryz.prog 131 [iZ a0,.lst 7 (a.map Kg) .no] [] [] r (fun r d h k=>d=.tup []∧h=[]∧k=[]))∧(∀ (a0:K8) (a:Kk) (r:(Int×Int)⊕(Unit)) (b:(Kam n).2 a0 a=some r),kl zc Tryz.prog 159 [iZ a0,Kg a] [] [] r (fun r d h k=>d=.tup []∧h=[]∧k=[]))
 | 0=>⟨(fun _ _ _ b=>by cases b),(fun _ _ _ b=>by cases b)⟩
 |
  n+1=>by
  have ih:=NC n;exact ⟨Q2 ((Kam n).1) ((Kam n).2) (ih.1) (ih.2),Q3 ((Kam n).1) ((Kam n).2) (ih.1) (ih.2)⟩
def NB:∀ n,(∀ (a0:K8) (a:List Kk),Le ((Kam n).1 a0 a) ((Kam (n+1)).1 a0 a))∧(∀ (a0:K8) (a:Kk),Le ((Kam n).2 a0 a) ((Kam (n+1)).2 a0 a))
 | 0=>⟨fun _ _=>Le.none _,fun _ _=>Le.none _⟩
 |
  n+1=>by
  have ih:=NB n
  exact ⟨fun a0 a=>by show Le (CE ((Kam n).1) ((Kam n).2) a0 a) (CE ((Kam (n+1)).1) ((Kam (n+1)).2) a0 a);revert ih;generalize Kam n=G0;generalize Kam (n+1)=G1;intro ih;unfold CE;repeat (first|with_reducible exact Le.refl _|with_reducible exact ih.1 _ _|with_reducible exact ih.2 _ _|with_reducible assumption|(refine Le.bind ?_ (fun _=>?_))|(refine Le.cond ?_ ?_)|(refine Le.loop (fun _=>?_))|(refine Le.elim (fun _=>?_) (fun _=>?_))),fun a0 a=>by show Le (CA ((Kam n).1) ((Kam n).2) a0 a) (CA ((Kam (n+1)).1) ((Kam (n+1)).2) a0 a);revert ih;generalize Kam n=G0;generalize Kam (n+1)=G1;intro ih;unfold CA;repeat (first|with_reducible exact Le.refl _|with_reducible exact ih.1 _ _|with_reducible exact ih.2 _ _|with_reducible assumption|(refine Le.bind ?_ (fun _=>?_))|(refine Le.cond ?_ ?_)|(refine Le.loop (fun _=>?_))|(refine Le.elim (fun _=>?_) (fun _=>?_)))⟩
def HS (a0:K8)(a:List Kk):Option ((Int×Int)⊕(Unit)):=gK fun n=>(Kam n).1 a0 a
def QG (a0:K8)(a:List Kk){r:(Int×Int)⊕(Unit)}(n:Nat)(h:(Kam n).1 a0 a=some r):HS a0 a=some r:=kU (fun m=>(NB m).1 a0 a) h
def QF (a0:K8)(a:List Kk)(r:(Int×Int)⊕(Unit))(b:HS a0 a=some r):kl zc Tryz.prog 131 [iZ a0,.lst 7 (a.map Kg) .no] [] [] r (fun r d h k=>d=.tup []∧h=[]∧k=[]):=
 let ⟨n,hn⟩:=kq b;(NC n).1 a0 a r hn
def FM (a0:KB):Option (Int):=
 κ (α:=(List (η×Int))⊕(Int)) (aE (fun (a:Int×List (η×Int))=>bif decide (a.1<a0.gc.length) then (idx a0.gc a.1).bind fun c=>bif decide (1<(cM (ei a.2 c.gb (ζ.wrap ((cM a.2 c.gb 0)+1))) c.gb 0)) then some (.done (.inr a.1)) else some (.next ((ζ.wrap (a.1+1)),(ei a.2 c.gb (ζ.wrap ((cM a.2 c.gb 0)+1))))) else some (.done (.inl a.2))) (0,([]:List (η×Int)))) (Ω (fun e=>κ (α:=(List (η×Int))⊕(Int)) (aE (fun (b:Int×List (η×Int))=>bif decide (b.1<a0.gf.length) then (idx a0.gf b.1).bind fun d=>bif decide (1<(cM (ei b.2 d.gb (ζ.wrap ((cM b.2 d.gb 0)+1))) d.gb 0)) then some (.done (.inr (ζ.wrap ((a0.gc.length:Int)+b.1)))) else some (.next ((ζ.wrap (b.1+1)),(ei b.2 d.gb (ζ.wrap ((cM b.2 d.gb 0)+1))))) else some (.done (.inl b.2))) (0,e)) (Ω (fun f=>some (-1)) (fun r=>some r))) (fun r=>some r))
def PR (a0 r)(t:FM a0=some r):Cd 99 [K5 a0] [] [] (dJ (iD r)):=by
 refine cQ t Tryz.func99 fun C a=>?_;refine Zv fun i=>?_;refine pu ?_;refine KE (LK rfl rfl rfl rfl (fun j=>?_));refine Zd ?_;refine Xu ?_;refine ZL ?_;obtain ⟨u,w,k⟩:=Ka a;refine fI (τ:=List (η×Int)) (Y:=Unit) (fun n x=>⟨[(1,.ptr i 0),(3,.v (.map (some j)))],[(j,Blk.mp (n.map fun p=>((fun s:η=>cZ s) p.1,f7 p.2))),(i,Blk.cells (dD a0 .no .no) 28)],[]⟩) u ?_ ?_;refine Zk w fun R y o=>?_;refine d7 (Y:=Unit) y (fun b A=>⟨[(1,.ptr i 0),(3,.v (.map (some j))),(10,cJ a0.gc),(11,iD (a0.gc.length:Int)),(12,iD b.1)],[(j,Blk.mp (b.2.map fun p=>((fun s:η=>cZ s) p.1,f7 p.2))),(i,Blk.cells (dD a0 .no .no) 28)],[]⟩) ?_ ?_;exact Zn;intro G25 b A a;refine Zz ?_;refine cY a ?_ ?_<;>intro a;refine ZE ?_;refine Ze ?_;refine Zq a fun c U a=>?_;refine Wx ?_;refine Zj fun B=>?_;refine pu ?_;refine eL (ds':=(iF c)) ?_;refine ZW ?_;refine pL 2 ?_;refine C8 (l:=b.2) (f:=(fun s:η=>cZ s)) (e:=f7) (kk:=c.gb) (z:=0) (dr:=iD (cM b.2 c.gb 0)) 0 htab rfl rfl rfl rfl rfl rfl rfl rfl rfl rfl jN (fun H v h=>eW h) ln lp rfl (pu ?_);refine JI (l:=b.2) (f:=(fun s:η=>cZ s)) (e:=f7) (kk:=c.gb) (vv:=(ζ.wrap ((cM b.2 c.gb 0)+1))) (h':=[(j,Blk.mp ((ei b.2 c.gb (ζ.wrap ((cM b.2 c.gb 0)+1))).map fun p=>((fun s:η=>cZ s) p.1,f7 p.2))),(i,Blk.cells (dD a0 .no .no) 28),(B,Blk.cells (iF c) 58)]) 0 htab rfl rfl rfl rfl rfl rfl rfl rfl rfl rfl jN (fun H v h=>eW h) (Wk.refl _) rfl (ZW ?_);refine pL 2 ?_;refine C8 (l:=(ei b.2 c.gb (ζ.wrap ((cM b.2 c.gb 0)+1)))) (f:=(fun s:η=>cZ s)) (e:=f7) (kk:=c.gb) (z:=0) (dr:=iD (cM (ei b.2 c.gb (ζ.wrap ((cM b.2 c.gb 0)+1))) c.gb 0)) 0 htab rfl rfl rfl rfl rfl rfl rfl rfl rfl rfl jN (fun H v h=>eW h) ln lp rfl (Zd ?_);refine cY a ?_ ?_<;>intro a;refine Ze ?_;refine Zy ?_;obtain rfl:=KU a;refine Zt ?_;obtain rfl:=Ke o;refine fH ?_;simp only [ς] at k;refine Ks ?_;obtain rfl:=Ke k;exact rP (t':=[(2,iD b.1)]) [] [] 0 aU bU Za;exact Xa a;exact YI a o;intro n V F G;subst F;simp only [Γ] at k;refine Zb G fun x=>?_;refine Xu ?_;refine ZL ?_;obtain ⟨I,J,m⟩:=Ka k;refine fI (τ:=List (η×Int)) (Y:=Unit) (fun K L=>⟨[],[],[]⟩) I ?_ ?_;refine Zk J fun W M q=>?_;refine d7 (Y:=Unit) M (fun d N=>⟨[(1,.ptr i 0),(3,.v (.map (some j))),(30,cO a0.gf),(31,iD (a0.gf.length:Int)),(32,iD d.1)],[(j,Blk.mp (d.2.map fun p=>((fun s:η=>cZ s) p.1,f7 p.2))),(i,Blk.cells (dD a0 .no .no) 28)],[]⟩) ?_ ?_;exact Zn;intro G68 d N a;refine Zz ?_;refine cY a ?_ ?_<;>intro a;refine ZE ?_;refine Ze ?_;refine Zq a fun g X a=>?_;refine WA ?_;refine Zj fun O=>?_;refine pu ?_;refine eL (ds':=(eE g .no .no .no)) ?_;refine ZW ?_;refine pL 2 ?_;refine C8 (l:=d.2) (f:=(fun s:η=>cZ s)) (e:=f7) (kk:=g.gb) (z:=0) (dr:=iD (cM d.2 g.gb 0)) 0 htab rfl rfl rfl rfl rfl rfl rfl rfl rfl rfl jN (fun H v h=>eW h) ln lp rfl (pu ?_);refine JI (l:=d.2) (f:=(fun s:η=>cZ s)) (e:=f7) (kk:=g.gb) (vv:=(ζ.wrap ((cM d.2 g.gb 0)+1))) (h':=[(j,Blk.mp ((ei d.2 g.gb (ζ.wrap ((cM d.2 g.gb 0)+1))).map fun p=>((fun s:η=>cZ s) p.1,f7 p.2))),(i,Blk.cells (dD a0 .no .no) 28),(O,Blk.cells (eE g .no .no .no) 52)]) 0 htab rfl rfl rfl rfl rfl rfl rfl rfl rfl rfl jN (fun H v h=>eW h) (Wk.refl _) rfl (ZW ?_);refine pL 2 ?_;refine C8 (l:=(ei d.2 g.gb (ζ.wrap ((cM d.2 g.gb 0)+1)))) (f:=(fun s:η=>cZ s)) (e:=f7) (kk:=g.gb) (z:=0) (dr:=iD (cM (ei d.2 g.gb (ζ.wrap ((cM d.2 g.gb 0)+1))) g.gb 0)) 0 htab rfl rfl rfl rfl rfl rfl rfl rfl rfl rfl jN (fun H v h=>eW h) ln lp rfl (Zd ?_);refine cY a ?_ ?_<;>intro a;refine Ze ?_;refine pL 1 ?_;refine Z8 ?_;iterate 3 refine pu ?_
 refine Yr ?_;obtain rfl:=KU a;refine Zt ?_;obtain rfl:=Ke q;refine fH ?_;simp only [ς] at m;refine Ks ?_;obtain rfl:=Ke m;exact rP (t':=[(2,iD (ζ.wrap ((a0.gc.length:Int)+d.1)))]) [] [] 0 aU bU Za;exact Xa a;exact YA a q;intro K Z P Q;subst P;simp only [Γ] at m;refine Zb Q fun L=>?_;refine Kd (Zi ?_);exact Xi m
end
end Go.Proofs.YticifeeokcgfkaaGreatDoor.Ab
namespace Go.Proofs.YticifeeokcgfkaaGreatDoor
open Go Go.RowKit
abbrev Hp:=Addr→Option ω
def Hp.le (H H':Hp):Prop:=∀ a v,H a=some v→H' a=some v
def Hp.le_refl (H:Hp):H.le H:=fun _ _ h=>h
def Hp.le_trans {H H' H'':Hp}(h:H.le H')(k:H'.le H''):H.le H'':=fun a v x=>k a v (h a v x)
def Ag (H:Hp)(w:aL):Prop:=∀ a v,H a=some v→w.cell? a=some v
def cell_lt {w:aL}{a:Addr}{v:ω}(h:w.cell? a=some v):a.block<w.heap.size:=by
 unfold aO at h;rcases fU a.block w.heap.size with hl|hl;exact hl;rw [Array.getElem?_eq_none hl] at h;cases h
def Ag.lt {H:Hp}{w:aL}(h:Ag H w){a:Addr}{v:ω}(ha:H a=some v):a.block<w.heap.size:=cell_lt (h a v ha)
def Ag.below {H:Hp}{w w':aL}(h:Ag H w)(hb:Below w.heap.size w w'):Ag H w':=fun a v ha=>by rw [hb.cell (p:=a) (h.lt ha)];exact h a v ha
def Ag.drew {H:Hp}{w:aL}(h:Ag H w):Ag H w.drew:=h
def Ag.alloc {H:Hp}{w:aL}(h:Ag H w)(o:Obj):Ag H (w.alloc o):=h.below ((Below.refl _ _).alloc (Φ _) o)
structure Grow (H:Hp) (w:aL) (H':Hp) (w':aL):Prop where
 le:H.le H'
 new:∀ a v,H' a=some v→H a=some v∨w.heap.size≤a.block
 ag:Ag H' w'
 below:Below w.heap.size w w'
def Grow.refl {H:Hp}{w:aL}(h:Ag H w):Grow H w H w:=⟨Hp.le_refl H,fun _ _ h=>.inl h,h,Below.refl _ _⟩
def Grow.trans {H H1 H2:Hp}{w b c:aL}(h:Grow H w H1 b)(k:Grow H1 b H2 c):Grow H w H2 c:=
 ⟨Hp.le_trans h.le k.le,fun a v x=>by
  rcases k.new a v x with y|y
  ·exact h.new a v y
  exact .inr (eJ h.below.size y),k.ag,h.below.trans (k.below.mono h.below.size)⟩
def Grow.drew {H H':Hp}{w w':aL}(h:Grow H w H' w'):Grow H w H' w'.drew:=⟨h.le,h.new,h.ag,h.below.drew⟩
def Grow.cell {H H':Hp}{w w':aL}(h:Grow H w H' w'):(∀ b o,b<w.heap.size→w'.cell? ⟨b,o,none⟩=w.cell? ⟨b,o,none⟩)∧(∀ b o,b<w.heap.size→w'.frozen? ⟨b,o,none⟩=w.frozen? ⟨b,o,none⟩):=
 ⟨fun b o hb=>h.below.cell (p:=⟨b,o,none⟩) hb,fun b o hb=>h.below.frozen (p:=⟨b,o,none⟩) hb⟩
def E:Hp:=fun _=>none
def vp (w:aL)(o:Obj)(k:Nat):(w.alloc o).heap[k]? = if k=w.heap.size then some o else w.heap[k]?:=by
 show (w.heap.push o)[k]? = _;rw [Array.getElem?_push]
def Ip (off:Nat)(v:ω):Obj→Obj
 | .cells c e fr=>.cells (c.setIfInBounds off v) e fr
 | o=>o
def Fj (w:aL)(b o:Nat)(v:ω)(k:Nat):(w.setCell ⟨b,o,none⟩ v).heap[k]? = if b=k then (w.heap[k]?).map (Ip o v) else w.heap[k]?:=by
 simp only [World.setCell,Array.getElem?_modify];by_cases h:b=k
 ·rw [aQ h,aQ h];cases w.heap[k]? with
  | none=>rfl
  | some x=>cases x<;>rfl
 rw [aF h,aF h]
def IsPtr (v:ω)(b:Nat):Prop:=v=.pointer (some ⟨b,0,none⟩)
def IsPtr.inj {v:ω}{b b':Nat}(h:IsPtr v b)(h':IsPtr v b'):b=b':=by
 unfold IsPtr at *;rw [h] at h';simpa using h'
structure Blk (H:Hp) (w:aL) (n:Nat) (b:Nat) (c:Array ω) (T:aD):Prop where
 ge:n≤b
 at_:w.heap[b]? = some (.cells c T (0,0))
 out:∀ o,H ⟨b,o,none⟩=none
def Blk.lt {H:Hp}{w:aL}{n b:Nat}{c:Array ω}{T:aD}(h:Blk H w n b c T):b<w.heap.size:=(a5.1 h.at_).1
def Blk.grow {H H':Hp}{w w':aL}{n b:Nat}{c:Array ω}{T:aD}(h:Blk H w n b c T)(hg:Grow H w H' w'):Blk H' w' n b c T:=
 ⟨h.ge,by rw [hg.below.block b h.lt];exact h.at_,fun o=>by
  cases e:H' ⟨b,o,none⟩ with
  | none=>rfl
  |
   some v=>
   rcases hg.new _ v e with x|x
   ·rw [h.out] at x;cases x
   have:=h.lt;exact bH x (by show ¬ w.heap.size≤b;omega)⟩
def Blk.new {H:Hp}{w:aL}(hA:Ag H w){n:Nat}(hn:n≤w.heap.size)(c:Array ω)(T:aD):Blk H (w.alloc (.cells c T)) n w.heap.size c T:=
 ⟨hn,by show (w.heap.push _)[w.heap.size]? = _;simp,fun o=>by
  cases e:H ⟨w.heap.size,o,none⟩ with
  | none=>rfl
  | some v=>exact bH (hA.lt e) (RJ _)⟩
def Blk.alloc {H:Hp}{w:aL}{n b:Nat}{c:Array ω}{T:aD}(h:Blk H w n b c T)(o:Obj):Blk H (w.alloc o) n b c T:=
 ⟨h.ge,by rw [vp,aF (by have:=h.lt;omega)];exact h.at_,h.out⟩
def Blk.drew {H:Hp}{w:aL}{n b:Nat}{c:Array ω}{T:aD}(h:Blk H w n b c T):Blk H w.drew n b c T:=⟨h.ge,h.at_,h.out⟩
def Blk.drewN {H:Hp}{w:aL}{n b:Nat}{c:Array ω}{T:aD}(h:Blk H w n b c T)(k:Nat):Blk H (w.drewN k) n b c T:=⟨h.ge,h.at_,h.out⟩
def Blk.set {H:Hp}{w:aL}{n b:Nat}{c:Array ω}{T:aD}(h:Blk H w n b c T)(o:Nat)(v:ω):Blk H (w.setCell ⟨b,o,none⟩ v) n b (c.setIfInBounds o v) T:=
 ⟨h.ge,by rw [Fj,aQ rfl,h.at_];rfl,h.out⟩
def Hb {B:Nat}{a w:aL}{p:Addr}{u:ω}(hp:B≤p.block)(h:Below B a w):Below B a (w.setCell p u):=h.setCell hp u
def PC {B:Nat}{a w:aL}{o:Obj}(hB:B≤w.heap.size)(h:Below B a w):Below B a (w.alloc o):=h.alloc hB o
def Blk.below {H:Hp}{w w':aL}{n b:Nat}{c:Array ω}{T:aD}(h:Blk H w n b c T)(hb:Below w.heap.size w w'):Blk H w' n b c T:=
 ⟨h.ge,by rw [hb.block b h.lt];exact h.at_,h.out⟩
def Blk.cell {H:Hp}{w:aL}{n b:Nat}{c:Array ω}{T:aD}(h:Blk H w n b c T)(o:Nat):w.cell? ⟨b,o,none⟩=c[o]?:=by
 simp [aO,h.at_]
def Blk.frozen {H:Hp}{w:aL}{n b:Nat}{c:Array ω}{T:aD}(h:Blk H w n b c T)(o:Nat):w.frozen? ⟨b,o,none⟩=false:=by
 simp [jp,h.at_]
structure St where
 r:Hp→aL→ω→Prop
 st:∀ H w H' w',Grow H w H' w'→∀ v,r H w v→r H' w' v
def St.var (n:Nat)(c:Array ω)(T:aD):St:=⟨fun H w v=>∃ b,v=.pointer (some ⟨b,0,none⟩)∧Blk H w n b c T,fun _ _ _ _ hg _ ⟨b,e,h⟩=>⟨b,e,h.grow hg⟩⟩
def St.hp (p:Hp→ω→Prop)(hp:∀ H H',Hp.le H H'→∀ v,p H v→p H' v):St:=⟨fun H _ v=>p H v,fun H _ H' _ hg v h=>hp H H' hg.le v h⟩
section
variable {P:aJ}{ops:Array bG}{Q:dH→Act→aL→Prop}{H0:Hp}{w0:aL}{R:Nat→St}{pre:List (List Nat)}{ev al:List Nat}{l2:List bG}{vals:Nat→ω}{i:Nat}{o:bG}{rest:List bG}{a:Act}
end
end Go.Proofs.YticifeeokcgfkaaGreatDoor
namespace Go.Proofs.YticifeeokcgfkaaGreatDoor.Ab
section
open Go Go.RowKit Go.Proofs
def rG (p:Addr)(w:aL) :
  Go.CallsD Tryz.prog 156 #[.pointer (some p)] .returning w fun e u' w'=>e=.returned (.tuple #[])∧u'=.returning∧w'=w:=by
 refine callsD_of_wpS Tryz.func156 rfl fun c₀ cs hu=>?_;apply wpS_seq;apply wpS_region;simp [wpOpsS,go_sem,recoverD,hu,Tryz.ntmps156,Exit.thenS];apply wpS_seq;apply wpS_region;simp [wpOpsS,go_sem,recoverD,hu,Tryz.ntmps156,Exit.thenS];refine wpS_cond (t:=false) (by simp [RH,i2]) ?_;simp only [cP,bE];refine wpS_of_wp (wp_skip ?_);cases c₀;simp_all [bodyPostS,results,Tryz.results156]
def Pn (v:ω)(t:aD)(w:aL):(Instr.typeAssert (.iface 195 v) t 195 true).run Tryz.prog w=.ok (.tuple #[v,.bool true]) w:=by
 obtain ⟨d0,a,b⟩:=iY (P:=Tryz.prog) (w:=w) (b4 htab (t:=195) rfl);obtain ⟨gs,rfl,_⟩:=C9 (b.trans rfl);unfold Instr.typeAssert;rw [KL a];rfl
def PP (b:Nat)(pe:Int×Int)(w:aL)(hx:w.heap[b]? = some (.cells #[.int .i64 0,.int .i64 0] 195 (0,0))) :
  Go.CallsD Tryz.prog 156 #[.pointer (some ⟨b,0,none⟩)] (.panicking (zc pe)) w fun e u' w'=>
   e=.returned (.tuple #[])∧u'=.panicking [{ v:=.iface 195 (.agg #[.int .i64 pe.1,.int .i64 pe.2]),recovered:=true }]∧w'.heap[b]? = some (.cells #[.int .i64 pe.1,.int .i64 pe.2] 195 (0,0))∧Below b w w':=by
 have hlt:b<w.heap.size:=(a5.1 hx).1;obtain ⟨W1,c⟩:∃ W1,W1=w.alloc (.cells #[.int .i64 pe.1,.int .i64 pe.2] 195):=⟨_,rfl⟩;have d:Below w.heap.size w W1:=by rw [c];exact (Below.refl _ w).alloc (Φ _) _
 have i:=(d.block _ hlt).trans hx;have j:W1.heap[w.heap.size]? = some (.cells #[.int .i64 pe.1,.int .i64 pe.2] 195 (0,0)):=by rw [c,ld,aQ rfl]
 refine callsD_of_wpS Tryz.func156 rfl fun c₀ cs hu=>?_;apply wpS_seq;apply wpS_region;simp [wpOpsS,go_sem,recoverD,hu,zc,Tryz.ntmps156,Exit.thenS];apply wpS_seq;apply wpS_region;simp [wpOpsS,go_sem,recoverD,hu,Tryz.ntmps156,Exit.thenS];refine wpS_cond (t:=true) (by simp [RH,i2]) ?_;simp only [bR];refine wpS_of_wp ?_;change Code.wp _ _ _ { tmps:=#[.pointer (some ⟨b,0,none⟩),.iface 195 (.agg #[.int .i64 pe.1,.int .i64 pe.2]),undef,undef,.iface 195 (.agg #[.int .i64 pe.1,.int .i64 pe.2]),.iface 195 (.agg #[.int .i64 pe.1,.int .i64 pe.2]),.bool true,undef,undef,undef,undef,undef,undef,undef,undef,undef],defers:=[] } w;have hta:=Pn;have hne:¬ w.heap.size=b:=by omega
 have hne':¬ b=w.heap.size:=by omega
 have z0:w.frozen? ⟨b,0,none⟩=false:=by simp [jp,hx]
 have z1:w.frozen? ⟨b,1,none⟩=false:=by simp [jp,hx]
 have a0:w.cell? ⟨b,0,none⟩=some (.int .i64 0):=by simp [aO,hx]
 have f:w.cell? ⟨b,1,none⟩=some (.int .i64 0):=by simp [aO,hx]
 go_wp2_with fail;obtain ⟨W9,a⟩:∃ W9,W9=((w.setCell ⟨b,0,none⟩ (.int .i64 pe.1)).setCell ⟨b,1,none⟩ (.int .i64 pe.2)).alloc (.cells #[.int .i64 pe.1,.int .i64 pe.2] 195):=⟨_,rfl⟩;rw [← a];have g:W9.heap[b]? = some (.cells #[.int .i64 pe.1,.int .i64 pe.2] 195 (0,0)):=by rw [a,ld,aF (by simp;omega),Fj,aQ rfl,Fj,aQ rfl,hx];rfl
 have h:Below b w W9:=by rw [a];have:=Hb (p:=⟨b,1,none⟩) (u:=.int .i64 pe.2) (Φ b) (Hb (p:=⟨b,0,none⟩) (u:=.int .i64 pe.1) (Φ b) (Below.refl b w));exact this.alloc (by simp;omega) _
 clear a z0 z1 a0 f hta;cases c₀;simp [bodyPostS,results,Tryz.results156,g,h]
def oc (pr:(Int×Int)⊕Unit):Ending:=match pr with|.inr _=>.returned (.tuple #[])|.inl pe=>.panicked (zc pe)
def wr (pr:(Int×Int)⊕Unit):Int×Int:=match pr with|.inr _=>(0,0)|.inl pe=>pe
def rF (cap:Array ω)(w:aL)(pr:(Int×Int)⊕Unit)(hcl:Calls Tryz.prog 129 cap (w.alloc (.cells #[.int .i64 0,.int .i64 0] 195)) fun e w'=>e=oc pr∧Below (w.heap.size+1) (w.alloc (.cells #[.int .i64 0,.int .i64 0] 195)) w') :
  Calls Tryz.prog 128 #[.func (.func 129) #[] cap] w fun e w'=>e=.returned (.agg #[.int .i64 (wr pr).1,.int .i64 (wr pr).2])∧Below w.heap.size w w':=by
 have hmf:∀ (fn:Fn) (first cap:Array ω) (w:aL),(Instr.makeFunc fn first cap).run Tryz.prog w=.ok (.func fn first cap) w:=fun _ _ _ _=>rfl;go_enter_defers Tryz.func128,Tryz.ntmps128;go_wp2_with fail;refine hcl.mono ?_;rintro e a ⟨rfl,hb⟩;have hx:a.heap[w.heap.size]? = some (.cells #[.int .i64 0,.int .i64 0] 195 (0,0)):=by rw [hb.block _ (Nat.lt_succ_self _),ld,aQ rfl]
 have hbw:Below w.heap.size w a:=((Below.refl _ w).alloc (Φ _) _).trans (hb.mono (CU _));cases pr with
 |
  inl pe=>
  simp only [oc,wr];refine leaves_cons (f:=156) (args:=#[.pointer (some ⟨w.heap.size,0,none⟩)]) (by simp) (by simp [go_sem]) ?_;refine (PP w.heap.size pe _ hx).mono ?_;rintro e u' i ⟨rfl,rfl,b,d⟩;have g:i.cell? ⟨w.heap.size,0,none⟩=some (.int .i64 pe.1):=by simp [aO,b]
  have h:i.cell? ⟨w.heap.size,1,none⟩=some (.int .i64 pe.2):=by simp [aO,b]
  simp [Leaves,settle,results,Tryz.results128,go_sem,g,h];exact ⟨⟨rfl,rfl⟩,hbw.trans d⟩
 |
  inr u=>
  simp only [oc,wr];have x0:a.cell? ⟨w.heap.size,0,none⟩=some (.int .i64 0):=by simp [aO,hx]
  have j:a.cell? ⟨w.heap.size,1,none⟩=some (.int .i64 0):=by simp [aO,hx]
  have z0:a.frozen? ⟨w.heap.size,0,none⟩=false:=by simp [jp,hx]
  have z1:a.frozen? ⟨w.heap.size,1,none⟩=false:=by simp [jp,hx]
  go_wp2_with fail
  obtain ⟨W9,c⟩:∃ W9,W9=(a.setCell ⟨w.heap.size,0,none⟩ (.int .i64 0)).setCell ⟨w.heap.size,1,none⟩ (.int .i64 0):=⟨_,rfl⟩;rw [← c];have b:W9.heap[w.heap.size]? = some (.cells #[.int .i64 0,.int .i64 0] 195 (0,0)):=by
   rw [c,Fj,aQ rfl,Fj,aQ rfl,hx];rfl
  have g:W9.cell? ⟨w.heap.size,0,none⟩=some (.int .i64 0):=by simp [aO,b]
  have h:W9.cell? ⟨w.heap.size,1,none⟩=some (.int .i64 0):=by simp [aO,b]
  have d:Below w.heap.size w W9:=by
   rw [c];exact Hb (Φ _) (Hb (Φ _) hbw)
  clear c b x0 j z0 z1 hx hcl;refine leaves_cons (f:=156) (args:=#[.pointer (some ⟨w.heap.size,0,none⟩)]) (by simp) (by simp [go_sem]) ?_;refine (rG ⟨w.heap.size,0,none⟩ _).mono ?_;rintro e u' w'' ⟨rfl,rfl,rfl⟩;simp [Leaves,settle,results,Tryz.results128,go_sem,g,h];exact ⟨⟨rfl,rfl⟩,d⟩
end
section
open Go Go.RowKit Go.Proofs
def kN (p:KB)(f:KC):Option ((Int×Int)⊕Unit):=(Dx ⟨p,f⟩).bind (Ω (fun pe=>some (.inl pe)) fun _=>HS ⟨p,f⟩ f.gx)
def kO (p:KB)(f:KC):Option (Int×Int):=(kN p f).bind fun pr=>some (wr pr)
def Mr {H H':Hp}{w w':aL}{h:List (Nat×Blk)}{k:List (Nat×ω)}(c:Core ⟨H,w,[]⟩ H' h k w'):Below w.heap.size w w':=⟨c.env.1,c.env.2.1,c.env.2.2.1,c.size,fun j hj=>c.same j hj (by simp)⟩
def Jc {H:Hp}{w w':aL}(h:Ag H w)(hb:Below w.heap.size w w'):Ag H w':=⟨fun a v e=>by rw [hb.cell (p:=a) (h.lt e)];exact h a v e,h.gg.step (Hp.le_refl H) (hb.block _ h.gg.lt)⟩
def mV {f:FuncId}{ds:List D}{us:Array ω}{pr:(Int×Int)⊕Unit}(c:kl zc Tryz.prog f ds [] [] pr (fun r d h k=>d=.tup []∧h=[]∧k=[])){H:Hp}{w:aL}(hA:Ag H w)(hv:RepsV H ds us.toList) :
  Calls Tryz.prog f us w fun e w'=>e=oc pr∧Below w.heap.size w w':=by
 cases pr with
 | inl pe=>exact (c.2 H w us.toList hv hA (by simp) (by simp) (by simp [K4])).mono fun e w' ⟨he,H',hc⟩=>⟨he,Mr hc⟩
 |
  inr u=>
  refine (c.2 H w us.toList hv hA (by simp) (by simp) (by simp [K4])).mono fun e w' ⟨v,H',d,h',k',he,hr,hc,a,b,g⟩=>?_
  subst a;subst b;subst g;refine ⟨?_,Mr hc⟩;obtain ⟨i,j⟩:=hr;cases v<;>simp [D.shape,RepC,RepsV,cT] at i j;rw [he];simp_all [oc]
def sx (p f r)(g:kO p f=some r):Cd 100 [K5 p,Kv f] [] [] (dJ (.tup [.v (.int .i64 r.1),.v (.int .i64 r.2)])):=by
 unfold kO at g;cases hP:kN p f with
 | none=>rw [hP] at g;cases g
 | some pr=>
 rw [hP,δ] at g;cases g;unfold kN at hP;cases hn:Dx ⟨p,f⟩ with
 | none=>rw [hn] at hP;cases hP
 | some x=>
 rw [hn,δ] at hP;refine ⟨⟨_,Tryz.func100,rfl,rfl⟩,fun H w vs hv hA _ _ _=>?_⟩;simp only [RepsV] at hv;obtain ⟨J,_,rfl,g1,K,_,rfl,L,rfl⟩:=hv;obtain ⟨ak,rfl,z⟩:=Ak g1;obtain ⟨al,rfl,A⟩:=Ak L;simp only [Reps] at z A;obtain ⟨p0,_,rfl,s,p1,_,rfl,t,rfl⟩:=z;obtain ⟨M,_,rfl,B,f1,_,rfl,k1,f2,_,rfl,k2,f3,_,rfl,l,N,_,rfl,C,rfl⟩:=A;have i:∀ {kk:Nat} {xs:List D} {u:ω},RepC H (.lst kk xs .no) [u]→∃ a n m,u=.slice a n m:=fun {kk xs u} h=>by simp only [RepC] at h;obtain ⟨y,e,_,h⟩:=h;simp only [fW,and_true] at e;subst e;rcases h with ⟨_,a,m,e,_⟩|⟨b,off,m,e,_⟩;exact ⟨_,_,_,e⟩;exact ⟨_,_,_,e⟩
 obtain ⟨pa,pn,pm,rfl⟩:=i s.1;obtain ⟨qa,qn,qm,rfl⟩:=i t.1;obtain ⟨ra,rn,rm,rfl⟩:=i k1.1;obtain ⟨sa,sn,sm,rfl⟩:=i k2.1;obtain ⟨ta,tn,tm,rfl⟩:=i l.1;obtain rfl:M=.string f.gb:=by simpa [RepC] using B.1
 obtain rfl:N=.int .i64 f.ga:=by simpa [RepC] using C.1
 suffices hs:Calls Tryz.prog 100 #[.agg #[(.slice pa pn pm),(.slice qa qn qm)],.agg #[(.string f.gb),(.slice ra rn rm),(.slice sa sn sm),(.slice ta tn tm),(.int .i64 f.ga)]] w fun e w'=>e=.returned (.tuple #[.int .i64 (wr pr).1,.int .i64 (wr pr).2])∧Below w.heap.size w w' from
  hs.mono fun e w' ⟨he,hb⟩=>⟨_,H,.tup [.v (.int .i64 (wr pr).1),.v (.int .i64 (wr pr).2)],[],[],he,⟨by simp only [cT,RepC];exact ⟨[.int .i64 (wr pr).1,.int .i64 (wr pr).2],rfl,by simp only [RepsV];exact ⟨_,_,rfl,dA rfl,_,_,rfl,dA rfl,rfl⟩⟩,rfl⟩,Dl hA hb,rfl,rfl,rfl⟩
 obtain ⟨W2,j⟩:∃ W2,W2=(w.alloc (.cells #[(.slice pa pn pm),(.slice qa qn qm)] 28)).alloc (.cells #[(.string f.gb),(.slice ra rn rm),(.slice sa sn sm),(.slice ta tn tm),(.int .i64 f.ga)] 52):=⟨_,rfl⟩;have o:Below w.heap.size w W2:=by rw [j];exact ((Below.refl _ w).alloc (Φ _) _).alloc (by simp) _
 have aq:W2.heap.size=w.heap.size+2:=by rw [j];simp
 have O:W2.heap[w.heap.size]? = some (.cells #[(.slice pa pn pm),(.slice qa qn qm)] 28 (0,0)):=by rw [j,ld,aF (by simp),ld,aQ rfl]
 have P:W2.heap[w.heap.size+1]? = some (.cells #[(.string f.gb),(.slice ra rn rm),(.slice sa sn sm),(.slice ta tn tm),(.int .i64 f.ga)] 52 (0,0)):=by rw [j,ld,aQ (by simp)]
 have o0:=s.2.1;have o1:=t.2.1;have sc:∀ {u:ω},one u=true→u.cells.toList=[u]:=fun {u} h=>by cases u<;>simp [one] at h<;>rfl
 have hrep:Rep H (iZ ⟨p,f⟩) (.agg #[(.slice pa pn pm),(.slice qa qn qm),(.string f.gb),(.slice ra rn rm),(.slice sa sn sm),(.slice ta tn tm),(.int .i64 f.ga)]):=E5 (us:=[(.slice pa pn pm),(.slice qa qn qm),(.string f.gb),(.slice ra rn rm),(.slice sa sn sm),(.slice ta tn tm),(.int .i64 f.ga)]) (by
  simp only [Reps];exact ⟨_,_,rfl,s,_,_,rfl,t,_,_,rfl,B,_,_,rfl,k1,_,_,rfl,k2,_,_,rfl,l,_,_,rfl,C,rfl⟩)
 have rb:Rep H (aI f.gx) (.slice ta tn tm):=j6 l.1 l.2.1 rfl;have fn1:∀ W:aL,W2.heap.size≤W.heap.size→Below W2.heap.size W2 W→Calls Tryz.prog 129 #[.pointer (some ⟨w.heap.size,0,none⟩),.pointer (some ⟨w.heap.size+1,0,none⟩)] W fun e w'=>e=oc pr∧Below W.heap.size W w':=by
  intro W hsz hb;have F:=(hb.block _ (by omega)).trans O;have d:=(hb.block _ (by omega)).trans P;have x0:W.cell? ⟨w.heap.size,0,none⟩=some (.slice pa pn pm):=by simp [aO,F]
  have Q:W.cell? ⟨w.heap.size,1,none⟩=some (.slice qa qn qm):=by simp [aO,F]
  have R:W.cell? ⟨w.heap.size+1,0,none⟩=some (.string f.gb):=by simp [aO,d]
  have U:W.cell? ⟨w.heap.size+1,1,none⟩=some (.slice ra rn rm):=by simp [aO,d]
  have V:W.cell? ⟨w.heap.size+1,2,none⟩=some (.slice sa sn sm):=by simp [aO,d]
  have X:W.cell? ⟨w.heap.size+1,3,none⟩=some (.slice ta tn tm):=by simp [aO,d]
  have Y:W.cell? ⟨w.heap.size+1,4,none⟩=some (.int .i64 f.ga):=by simp [aO,d]
  go_enter Tryz.func129,Tryz.ntmps129;have hAW:Ag H W:=Jc hA (o.trans (hb.mono o.size));generalize hWa:W.alloc (.cells #[.slice pa pn pm,.slice qa qn qm,.string f.gb,.slice ra rn rm,.slice sa sn sm,.slice ta tn tm,.int .i64 f.ga] 198)=Wa;have hba:Below W.heap.size W Wa:=by rw [← hWa];exact (Below.refl _ _).alloc (Φ _) _
  have hsa:W.heap.size<Wa.heap.size:=by rw [← hWa];simp
  have hxa:Wa.heap[W.heap.size]? = some (.cells #[.slice pa pn pm,.slice qa qn qm,.string f.gb,.slice ra rn rm,.slice sa sn sm,.slice ta tn tm,.int .i64 f.ga] 198 (0,0)):=by rw [← hWa,ld,aQ rfl]
  have hAa:Ag H Wa:=Jc hAW hba;have Z:=mV (us:=#[.agg #[.slice pa pn pm,.slice qa qn qm,.string f.gb,.slice ra rn rm,.slice sa sn sm,.slice ta tn tm,.int .i64 f.ga]]) (QH ⟨p,f⟩ x hn) hAa (by simp only [RepsV];exact ⟨_,_,rfl,hrep,rfl⟩);have d0:Wa.cell? ⟨W.heap.size,0,none⟩=some (.slice pa pn pm):=by simp [aO,hxa]
  have d1:Wa.cell? ⟨W.heap.size,1,none⟩=some (.slice qa qn qm):=by simp [aO,hxa]
  have d2:Wa.cell? ⟨W.heap.size,2,none⟩=some (.string f.gb):=by simp [aO,hxa]
  have d3:Wa.cell? ⟨W.heap.size,3,none⟩=some (.slice ra rn rm):=by simp [aO,hxa]
  have d4:Wa.cell? ⟨W.heap.size,4,none⟩=some (.slice sa sn sm):=by simp [aO,hxa]
  have d5:Wa.cell? ⟨W.heap.size,5,none⟩=some (.slice ta tn tm):=by simp [aO,hxa]
  have d6:Wa.cell? ⟨W.heap.size,6,none⟩=some (.int .i64 f.ga):=by simp [aO,hxa]
  go_wp2_with fail;refine Z.mono ?_;rintro e c ⟨rfl,q⟩;cases x with
  |
   inl pe=>
   simp only [Γ,aA] at hP;subst hP;exact ⟨rfl,rfl,hba.trans (q.mono hba.size)⟩
  | inr J=>
  simp only [ς] at hP;simp only [oc];clear hWa x0 Q R U V X Y d0 d1 d2 d3 d4 d5 d6;have hxb:=(q.block _ hsa).trans hxa;have k:Below W.heap.size W c:=hba.trans (q.mono hba.size);have hyc:=(k.block _ (by omega)).trans d;have e0:c.cell? ⟨W.heap.size,0,none⟩=some (.slice pa pn pm):=by simp [aO,hxb]
  have e1:c.cell? ⟨W.heap.size,1,none⟩=some (.slice qa qn qm):=by simp [aO,hxb]
  have e2:c.cell? ⟨W.heap.size,2,none⟩=some (.string f.gb):=by simp [aO,hxb]
  have e3:c.cell? ⟨W.heap.size,3,none⟩=some (.slice ra rn rm):=by simp [aO,hxb]
  have e4:c.cell? ⟨W.heap.size,4,none⟩=some (.slice sa sn sm):=by simp [aO,hxb]
  have e5:c.cell? ⟨W.heap.size,5,none⟩=some (.slice ta tn tm):=by simp [aO,hxb]
  have e6:c.cell? ⟨W.heap.size,6,none⟩=some (.int .i64 f.ga):=by simp [aO,hxb]
  have e7:c.cell? ⟨w.heap.size+1,3,none⟩=some (.slice ta tn tm):=by simp [aO,hyc]
  have ah:Ag H c:=Jc hAa q;have ai:=mV (us:=#[.agg #[.slice pa pn pm,.slice qa qn qm,.string f.gb,.slice ra rn rm,.slice sa sn sm,.slice ta tn tm,.int .i64 f.ga],.slice ta tn tm]) (QF ⟨p,f⟩ f.gx pr hP) ah (by simp only [RepsV];exact ⟨_,_,rfl,hrep,_,_,rfl,rb,rfl⟩);go_wp2_with fail;refine ai.mono ?_;rintro e w6 ⟨rfl,G⟩;cases pr with
  | inl pe=>exact ⟨rfl,rfl,k.trans (G.mono k.size)⟩
  |
   inr K=>
   simp only [oc];go_wp2;go_end0;exact ⟨rfl,k.trans (G.mono k.size)⟩
 have hmf:∀ (fn:Fn) (first cap:Array ω) (w:aL),(Instr.makeFunc fn first cap).run Tryz.prog w=.ok (.func fn first cap) w:=fun _ _ _ _=>rfl;have htry:=rF #[.pointer (some ⟨w.heap.size,0,none⟩),.pointer (some ⟨w.heap.size+1,0,none⟩)] W2 pr (by
  have:=fn1 (W2.alloc (.cells #[.int .i64 0,.int .i64 0] 195)) (by simp) ((Below.refl _ _).alloc (Φ _) _);simpa using this)
 go_enter Tryz.func100,Tryz.ntmps100;go_wp2_with fail;rw [← j];refine htry.mono ?_;rintro e w7 ⟨rfl,I⟩;go_wp2_with fail;go_region;all_goals
  go_wp2
  go_ret2
  exact ⟨rfl,o.trans ((I.trans (PC I.size (Below.refl _ w7)).drew).mono o.size)⟩
end
section
open Go
set_option maxRecDepth 100000
def FR (a0:KB):Option (Int×Int×Int):=
 κ (α:=Bool) (bif decide (24<(a0.gc.length:Int)) then some true else some (decide (24<(a0.gf.length:Int)))) fun d=>bif d then some (0,0,6) else (FM a0).bind fun c=>bif decide (0≤c) then some (c,0,8) else κ (α:=(Unit)⊕(Int×Int×Int)) (aE (fun (a:Int)=>bif decide (a<a0.gf.length) then (idx a0.gf a).bind fun e=>(kO a0 e).bind fun b=>bif b.2 != 0 then some (.done (.inr ((ζ.wrap ((a0.gc.length:Int)+a)),b.1,b.2))) else some (.next (ζ.wrap (a+1))) else some (.done (.inl ()))) 0) (Ω (fun f=>some (0,0,0)) (fun r=>some r))
def Yl {R G:Prop}(h:R)(k:R→G:=by intro h;refine Kd ?_;(iterate 4 refine pu ?_);exact h):G:=k h
def Z4 {R G:Prop}(h:R)(k:R→G:=by intro h;refine Zr ?_;refine Ks ?_;exact h):G:=k h
def Xw {R G:Prop}(h:R)(k:R→G:=by intro h;refine Kd ?_;refine pL (d:=K5 _) 0 ?_;exact h):G:=k h
def Xj {R G:Prop}(h:R)(k:R→G:=by intro h;refine Zm ?_;refine Kj ?_;exact h):G:=k h
def X3 {A0 G:Prop}(a0:A0)(k:A0→G:=by intro _a;(iterate 4 refine pK ?_);exact ZA _a):G:=k a0
def Qf (a0 r)(n:FR a0=some r):Cd 67 [K5 a0] [] [] (dJ (.tup [iD r.1,iD r.2.1,iD r.2.2])):=by
 refine cQ n Tryz.func67 fun C a=>?_;refine Zv fun b=>?_;iterate 3 refine pu ?_
 refine Kc (ZC a fun o j p=>?_);refine KS (Y:=Unit) (fun q=>⟨[(1,.ptr b 0),(19,.v (.bool o))],[(b,Blk.cells (dD a0 .no .no) 28)],[]⟩) ?_ ?_;refine Zs ?_;refine pL 0 ?_;refine Z8 ?_;refine Zg ?_;refine gW (i:=14) rfl (fun e=>?_) fun e=>?_;have a:=cD e (Kx j);exact X3 a;have a:=cE e (Kx j);refine pu ?_;refine pL 0 ?_;refine Ye ?_;exact ZF a;intro H s;refine Zb s fun q=>?_;refine cY p ?_ ?_<;>intro a;refine ZK ?_;refine Z4 ?_;obtain rfl:=Ke a;exact rP (t':=[(2,iD 0),(3,iD 0),(4,iD 6)]) [] [] 0 aU bU Za;refine Xj ?_;refine Xw ?_;refine bN a (PR a0) fun t a=>?_;refine YK ?_;refine Zd ?_;refine cY a ?_ ?_<;>intro a;refine Yl ?_;refine Z4 ?_;obtain rfl:=Ke a;exact rP (t':=[(2,iD t),(3,iD 0),(4,iD 8)]) [] [] 0 aU bU Za;refine Zm ?_;refine Yd ?_;refine ZL ?_;obtain ⟨u,w,c⟩:=Ka a;refine fI (τ:=Unit) (Y:=Unit) (fun x y=>⟨[],[],[]⟩) u ?_ ?_;refine Zk w fun I z l=>?_;refine d7 (Y:=Unit) z (fun f A=>⟨[(1,.ptr b 0),(26,cO a0.gf),(27,iD (a0.gf.length:Int)),(28,iD f)],[(b,Blk.cells (dD a0 .no .no) 28)],[]⟩) ?_ ?_;exact Zn;intro G32 f A a;refine Zz ?_;refine cY a ?_ ?_<;>intro a;refine ZE ?_;refine Ze ?_;refine Zq a fun g J a=>?_;refine WA ?_;refine Zj fun K=>?_;refine pu ?_;refine dV (ds':=(eE g .no .no .no)) ?_;refine KE (pL (d:=K5 a0) 0 ?_);refine pL (d:=Kv g) 1 ?_;refine bN a (sx a0 g) fun m a=>?_;iterate 5 refine pu ?_
 refine Zf ?_;refine Zd ?_;refine cY a ?_ ?_<;>intro a;refine ZB ?_;refine Z8 ?_;iterate 7 refine pu ?_
 refine Yr ?_;obtain rfl:=KU a;refine Zt ?_;obtain rfl:=Ke l;refine fH ?_;simp only [ς] at c;refine Ks ?_;obtain rfl:=Ke c;exact rP (t':=[(2,iD (ζ.wrap ((a0.gc.length:Int)+f))),(3,iD m.1),(4,iD m.2)]) [] [] 0 aU bU Za;exact Xa a;exact YA a l;intro x L B F;subst B;simp only [Γ] at c;refine Zb F fun y=>?_;refine ZK ?_;refine Zr ?_;obtain rfl:=Ke c;exact rP (t':=[(2,iD 0),(3,iD 0),(4,iD 0)]) [] [] 0 aU bU Za
def FA (a0:KB)(c:η):Option (Int):=
 κ (α:=(Unit)⊕(Int)) (aE (fun (a:Int)=>bif decide (a<a0.gc.length) then (idx a0.gc a).bind fun b=>bif decide (b.gb=c) then bif b.gA then some (.done (.inr 2)) else (bif decide (0<b.gC) then some (.done (.inr 3)) else some (.done (.inr 1))) else some (.next (ζ.wrap (a+1))) else some (.done (.inl ()))) 0) (Ω (fun d=>some 0) (fun r=>some r))
def XE {A0 R G:Prop}(a0:A0)(h:R)(k:A0→R→G:=by intro _a h;refine KF ?_;refine Kb ?_;refine Kt ?_;(iterate 3 refine pu ?_);refine Kw ?_;refine Kb ⟨_,zg _a,?_⟩;exact h):G:=k a0 h
def Ym {A0 G:Prop}(a0:A0)(k:A0→G:=by intro _a;refine Kp ?_;refine XE _a ?_;exact Zn):G:=k a0
def Z7 {R G:Prop}(h:R)(k:R→G:=by intro h;refine pu ?_;refine Zd ?_;exact h):G:=k h
def MM (a0 d r)(g:FA a0 d=some r):Cd 108 [K5 a0,tD d] [] [] (dJ (iD r)):=by
 refine cQ g Tryz.func108 fun C a=>?_;refine Zv fun e=>?_;refine Zd ?_;refine ZI a fun i j b=>?_;refine fI (τ:=Unit) (Y:=Unit) (fun l m=>⟨[],[],[]⟩) i ?_ ?_;refine Zk j fun t n c=>?_;refine d7 (Y:=Unit) n (fun f o=>⟨[(1,tD d),(2,.ptr e 0),(5,iD f)],[(e,Blk.cells (dD a0 .no .no) 28)],[]⟩) ?_ ?_;exact Zn;intro G27 f o a;refine Yo ?_;refine cY a ?_ ?_<;>intro a;refine ZE ?_;refine ZB ?_;refine pu ?_;refine Zq a fun p u a=>?_;refine Wx ?_;refine Zj fun v=>?_;refine dV (ds':=(iF p)) ?_;refine Zf ?_;refine pL 1 ?_;refine Z7 ?_;refine cY a ?_ ?_<;>intro a;refine Xu ?_;refine Kc ?_;refine cY a ?_ ?_<;>intro a;refine ZT ?_;refine YN ?_;obtain rfl:=KU a;refine Zt ?_;obtain rfl:=Ke c;refine fH ?_;simp only [ς] at b;refine Ks ?_;obtain rfl:=Ke b;exact rP (t':=[(4,iD 2)]) [] [] 0 aU bU Za;refine Zm ?_;refine Xu ?_;refine Zd ?_;refine cY a ?_ ?_<;>intro a;refine ZT ?_;refine YN ?_;obtain rfl:=KU a;refine Zt ?_;obtain rfl:=Ke c;refine fH ?_;simp only [ς] at b;refine Ks ?_;obtain rfl:=Ke b;exact rP (t':=[(4,iD 3)]) [] [] 0 aU bU Za;refine Yc ?_;refine Zy ?_;obtain rfl:=KU a;refine Zt ?_;obtain rfl:=Ke c;refine fH ?_;simp only [ς] at b;refine Ks ?_;obtain rfl:=Ke b;exact Wh;exact Ym a;exact YA a c;intro l w q s;subst q;simp only [Γ] at b;refine Zb s fun m=>?_;exact Kd (XQ b)
def Fr (a0:Kk):Option (Int):=
 κ (α:=Bool) (bif decide (a0.gj<1) then some true else some (decide (9<a0.gj))) fun a=>bif a then some (-1) else bif a0.gj==4 then some (a0.gn.length:Int) else (idx ([1,2,1,0,0,1,1,1,1]:List Int) (ζ.wrap (a0.gj-1))).bind fun b=>some b
def WB {A0 G:Prop}(a0:A0)(k:A0→G:=by intro _a;refine Zi ?_;obtain rfl:=Ke _a;refine rP (t':=[(2,iD _)]) [] [] 0 aU bU ?_;exact Za):G:=k a0
def Q1 (a0 r)(e:Fr a0=some r):Cd 163 [Kg a0] [] [] (dJ (iD r)):=by
 refine cQ e Tryz.func163 fun C a=>?_;refine kz (i:=0) rfl (Wk.of_eq (KM a0)) (Zv fun c=>?_);refine Zd ?_;refine ZC a fun f d g=>?_;refine KS (Y:=Unit) (fun h=>⟨[(1,.ptr c 0),(10,.v (.bool f))],[(c,Blk.cells (fv a0 .no .no .no) 105)],[]⟩) ?_ ?_;refine Zs ?_;refine YJ ?_;refine gW (i:=6) rfl (fun b=>?_) fun b=>?_;have a:=cD b (Kx d);iterate 3 refine pK ?_
 exact ZA a;have a:=cE b (Kx d);refine Xg ?_;exact ZF a;intro l j;refine Zb j fun h=>?_;refine cY g ?_ ?_<;>intro a;refine ZT ?_;exact Xi a;refine Zm ?_;refine Yd ?_;refine Zd ?_;refine cY a ?_ ?_<;>intro a;refine ZB ?_;refine Z8 ?_;refine ZS ?_;obtain rfl:=Ke a;exact rP (t':=[(2,iD (a0.gn.length:Int))]) [] [] 0 aU bU Za;refine Yc ?_;refine Zo ?_;refine bA (i:=17) (d':=dO [1,2,1,0,0,1,1,1,1]) rfl aU (Xg ?_);refine Zq a fun m n a=>?_;refine Yh ?_;exact WB a
def Fq (a0:Int):Option (Int):=
 κ (α:=Bool) (bif decide (a0<1) then some true else some (decide (20<a0))) fun a=>bif a then some (-1) else (idx ([0,0,1,0,1,1,2,2,2,2,2,2,2,2,2,2,2,0,0,1]:List Int) (ζ.wrap (a0-1))).bind fun b=>some b
def JF (a0 r)(d:Fq a0=some r):Cd 192 [iD a0] [] [] (dJ (iD r)):=by
 refine cQ d Tryz.func192 fun C a=>?_;refine Zz ?_;refine Zl a fun e c f=>?_;refine KS (Y:=Unit) (fun g=>⟨[(0,iD a0),(8,.v (.bool e))],[],[]⟩) ?_ ?_;refine Zw ?_;refine gW (i:=5) rfl (fun b=>?_) fun b=>?_;have a:=cD b (Kx c);refine YG ?_;exact ZA a;have a:=cE b (Kx c);refine Zg ?_;exact ZF a;intro j h;refine Zb h fun g=>?_;refine cY f ?_ ?_<;>intro a;refine ZT ?_;exact Xi a;refine Yc ?_;refine Zo ?_;refine bA (i:=9) (d':=dO [0,0,1,0,1,1,2,2,2,2,2,2,2,2,2,2,2,0,0,1]) rfl aU (Zg ?_);refine Zq a fun k l a=>?_;refine Yh ?_;exact WB a
def Dq (a0:KC)(c:η):Option (Int):=
 (app 24 ([]:List KZ) a0.gh).bind fun d=>(app 24 d a0.gi).bind fun b=>κ (α:=(Unit)⊕(Int)) (aE (fun (a:Int)=>bif decide (a<b.length) then (idx b a).bind fun e=>bif decide (e.gb=c) then (idx b a).bind fun f=>bif f.gA then some (.done (.inr 2)) else some (.done (.inr 1)) else some (.next (ζ.wrap (a+1))) else some (.done (.inl ()))) 0) (Ω (fun g=>some 0) (fun r=>some r))
def YT {R G:Prop}(h:R)(k:R→G:=by intro h;refine Zx ?_;refine pu ?_;refine ZL ?_;exact h):G:=k h
def Y1 {R G:Prop}(h:R)(k:R→G:=by intro h;refine ZE ?_;refine ZR ?_;exact h):G:=k h
def JN (a0 c r)(l:Dq a0 c=some r):Cd 193 [Kv a0,tD c] [] [] (dJ (iD r)):=by
 refine cQ l Tryz.func193 fun C a=>?_;refine Zv fun x=>?_;refine YK ?_;refine ZW ?_;refine pL 0 ?_;obtain ⟨y,f,a⟩:=Ka a;refine ma htab rfl rfl rfl rfl rfl rfl rfl rfl rfl rfl rfl rfl rfl rfl rfl (by simpa using tg (e:=Ku) f) fun v2=>?_;refine GD (i:=10) f rfl (pu ?_);refine ZW ?_;refine pL 0 ?_;refine Z6 a fun m n a g=>?_;refine jo (i:=14) n rfl (Zd ?_);refine ZI a fun o p b=>?_;refine fI (τ:=Unit) (Y:=Unit) (fun q s=>⟨[],[],[]⟩) o ?_ ?_;refine Zk p fun z t d=>?_;refine d7 (Y:=Unit) t (fun j u=>⟨[(1,tD c),(5,b0 m g),(6,iD j)],[],[(2,g)]⟩) ?_ ?_;exact Zn;intro G25 j u a;refine YT ?_;refine cY a ?_ ?_<;>intro a;refine Y1 ?_;refine Zq a fun A B a=>?_;refine YD ?_;refine Z7 ?_;refine cY a ?_ ?_<;>intro a;refine Zx ?_;refine pu ?_;refine Zq a fun F H a=>?_;refine YD ?_;refine Kc ?_;refine cY a ?_ ?_<;>intro a;refine ZT ?_;refine YN ?_;obtain rfl:=KU a;refine Zt ?_;obtain rfl:=Ke d;refine fH ?_;simp only [ς] at b;refine Ks ?_;obtain rfl:=Ke b;exact rP (t':=[(4,iD 2)]) [] [] 0 aU bU Za;refine Yc ?_;refine Zy ?_;obtain rfl:=KU a;refine Zt ?_;obtain rfl:=Ke d;refine fH ?_;simp only [ς] at b;refine Ks ?_;obtain rfl:=Ke b;exact Wh;exact Ym a;exact YA a d;intro q I v w;subst v;simp only [Γ] at b;refine Zb w fun s=>?_;exact Kd (XQ b)
def Dh (a0:KB)(b:KC)(a:η):Option (Int):=
 (Dq b a).bind fun c=>bif c != (0:Int) then (Dq b a).bind fun d=>some d else (FA a0 a).bind fun e=>some e
def JE (a0 b c r)(e:Dh a0 b c=some r):Cd 165 [K5 a0,Kv b,tD c] [] [] (dJ (iD r)):=by
 refine cQ e Tryz.func165 fun C a=>?_;refine Zv fun h=>?_;refine Yj fun i=>?_;refine Zd ?_;refine Kj (Kd (pL (d:=Kv b) 1 ?_));refine pu ?_;refine bN a (JN b c) fun j a=>?_;refine Zd ?_;refine cY a ?_ ?_<;>intro a;refine Kd (pL (d:=Kv b) 1 ?_);refine pu ?_;refine bN a (JN b c) fun f a=>?_;refine ZS ?_;obtain rfl:=Ke a;exact rP (t':=[(6,iD f)]) [] [] 0 aU bU Za;refine Yc ?_;refine pL (d:=K5 a0) 0 ?_;refine pu ?_;refine bN a (MM a0 c) fun g a=>?_;refine Zi ?_;obtain rfl:=Ke a;exact rP (t':=[(6,iD g)]) [] [] 0 aU bU Za
def sH (a0:Int)(a:Int)(b:Int):Option (Int):=
 bif a0==0 then some 7 else bif a0==a then some 0 else bif a0==b then some 0 else some 9
def wQ (a0 b c r)(d:sH a0 b c=some r):Cd 166 [iD a0,iD b,iD c] [] [] (dJ (iD r)):=by
 refine cQ d Tryz.func166 fun C a=>?_;refine ZQ ?_;refine ZM ?_;refine cY a ?_ ?_<;>intro a;refine ZT ?_;obtain rfl:=Ke a;exact rP (t':=[(6,iD 7)]) [] [] 0 aU bU Za;refine Xj ?_;refine Yl ?_;refine g6 (i:=12) a ?_ ?_<;>intro a;iterate 3 refine pK ?_
 refine ZU ?_;refine Kc (II rfl (ZT ?_));obtain rfl:=Ke a;exact rP (t':=[(6,iD 0)]) [] [] 0 aU bU Za;iterate 3 refine pu ?_
 refine Z0 ?_;refine Kc ?_;refine cY a ?_ ?_<;>intro a;refine ZT ?_;obtain rfl:=Ke a;exact rP (t':=[(6,iD 0)]) [] [] 0 aU bU Za;refine Yc ?_;refine Zi ?_;obtain rfl:=Ke a;exact rP (t':=[(6,iD 9)]) [] [] 0 aU bU Za
def Cn (g0:(KB)→(KC)→(Kf)→Option (Int×Int×Int))(a0:KB)(g:KC)(a:Kf):Option (Int×Int×Int):=
 κ (α:=Bool) ((Fq a.gj).bind fun o=>bif decide (o<0) then some true else (Fq a.gj).bind fun p=>some (p != a.gd.length)) fun q=>bif q then some (0,a.ga,2) else κ (α:=(List Int)⊕(Int×Int×Int)) (aE (fun (b:List Int×Int)=>bif decide (b.2<a.gd.length) then (idx a.gd b.2).bind fun s=>(g0 a0 g s).bind fun d=>bif d.2.2 != 0 then some (.done (.inr (0,d.2.1,d.2.2))) else ((app 8 b.1 ([d.1]:List Int)).bind fun t=>some (.next (t,(ζ.wrap (b.2+1))))) else some (.done (.inl b.1))) (([]:List Int),0)) (Ω (fun e=>κ (α:=Bool) (bif a.gj==14 then some true else some (a.gj==15)) fun u=>bif u then (idx e 0).bind fun v=>(idx e 1).bind fun w=>bif v != w then (idx a.gd 1).bind fun x=>some (0,x.ga,9) else some (1,0,0) else κ (α:=(Unit)⊕(Int×Int×Int)) (aE (fun (f:Int)=>bif decide (f<e.length) then (idx e f).bind fun y=>bif y != 1 then (idx a.gd f).bind fun z=>some (.done (.inr (0,z.ga,9))) else some (.next (ζ.wrap (f+1))) else some (.done (.inl ()))) 0) (Ω (fun J=>(Dh a0 g a.gb).bind fun c=>κ (α:=Int×Int) (κ (α:=Int×Int) (bif a.gj==2 then (sH c 1 2).bind fun A=>some (A,c) else κ (α:=Int×Int) (bif a.gj==3 then (sH c 3 3).bind fun B=>some (B,1) else κ (α:=Int×Int) (bif a.gj==4 then (sH c 2 2).bind fun C=>some (C,1) else κ (α:=Int×Int) (bif a.gj==18 then some (0,2) else κ (α:=Bool) (bif a.gj==19 then some (a.gj==19) else some (a.gj==20)) fun F=>κ (α:=Int×Int) (bif F then κ (α:=Int) (bif a.gj==20 then some 3 else some 1) fun i=>(sH c i i).bind fun G=>(Dq g a.gb).bind fun H=>κ (α:=Int) (bif H != 0 then some 9 else some G) fun I=>some (I,2) else some (0,1)) fun j=>some (j.1,j.2)) fun k=>some (k.1,k.2)) fun l=>some (l.1,l.2)) fun m=>some (m.1,m.2)) fun n=>some (n.1,n.2)) fun h=>bif h.1 != 0 then some (0,a.ga,h.1) else some (h.2,0,0)) (fun r=>some r))) (fun r=>some r))
def Uy {R G:Prop}(h:R)(k:R→G:=by intro h;refine zy (KN 0 htab rfl rfl rfl rfl rfl) ?_;exact h):G:=k h
def XF {A0 R G:Prop}(a0:A0)(h:R)(k:A0→R→G:=by intro _a h;refine kT (Ex.wk (Ay htab rfl rfl rfl rfl rfl rfl rfl (KG _a) (KQ _a)) (Wk.of_eq (a6 D.el (Kn _)))) ?_;refine ue ?_;refine zy (zf htab rfl rfl rfl rfl rfl) ?_;exact h):G:=k a0 h
def Yu {R G:Prop}(h:R)(k:R→G:=by intro h;refine tJ (NX htab rfl rfl rfl rfl (by first|exact KT|rfl)) ?_;exact h):G:=k h
def YO {R G:Prop}(h:R)(k:R→G:=by intro h;refine ue ?_;refine e9 (KN 2 htab rfl rfl rfl rfl rfl) ?_;exact h):G:=k h
def Wj {A0 G:Prop}(a0:A0)(k:A0→G:=by intro _a;refine Kw ?_;obtain rfl:=Ke _a;refine ⟨rfl,?_⟩;exact wO (WkS.perm aU ((KO (j:=2) rfl).trans (χ _ Pf)) Pf)):G:=k a0
def Wm {R G:Prop}(h:R)(k:R→G:=by intro h;refine e9 (KN (d:=K5 _) 0 htab rfl rfl rfl rfl rfl) ?_;refine e9 (KN (d:=Kv _) 1 htab rfl rfl rfl rfl rfl) ?_;exact h):G:=k h
def ZX {R G:Prop}(h:R)(k:R→G:=by intro h;refine uq ?_;refine uq ?_;exact h):G:=k h
def Xk {A0 G:Prop}(a0:A0)(k:A0→G:=by intro _a;refine Kw ?_;refine XE _a ?_;exact ZG):G:=k a0
def Yn {R G:Prop}(h:R)(k:R→G:=by intro h;refine pu ?_;refine ZS ?_;exact h):G:=k h
def YM {R G:Prop}(h:R)(k:R→G:=by intro h;refine ue ?_;refine Uy ?_;exact h):G:=k h
def OV (g0:(KB)→(KC)→(Kf)→Option (Int×Int×Int))(Q:∀ (a0:KB) (e:KC) (c:Kf) (r:Int×Int×Int) (A:g0 a0 e c=some r),Cd 164 [K5 a0,Kv e,Kh c] [] [] (dJ (.tup [iD r.1,iD r.2.1,iD r.2.2])))(a0 e c r)(A:Cn g0 a0 e c=some r):Cd 164 [K5 a0,Kv e,Kh c] [] [] (dJ (.tup [iD r.1,iD r.2.1,iD r.2.2])):=by
 refine cQ A Tryz.func164 fun C a=>?_;refine kz (i:=2) rfl (Wk.of_eq (Kn c)) (Zv fun g=>?_);refine Yj fun f=>?_;refine Yj fun b=>?_;iterate 3 refine pu ?_
 refine Kc (ZC a fun U V W=>?_);refine KS (Y:=Unit) (fun X=>⟨[(3,.ptr g 0),(4,.ptr f 0),(5,.ptr b 0),(31,.v (.bool U))],[(g,Blk.cells (dD a0 .no .no) 28),(f,Blk.cells (eE e .no .no .no) 52),(b,Blk.cells (dP c .no) 149)],[]⟩) ?_ ?_;obtain ⟨u,B,a⟩:=Ka (Kx V);refine iz (decide (u<0)) (fun n=>?_) fun n=>?_;replace a:=cD n a;refine b5 11 [[],[0],[0],[0,2],[0,2],[0,2],[0,2],[0,2],[0,2],[0,2],[0,2]] [0,2] ?_;apply Θ;apply Θ;intro bs;refine Xv ?_;refine f8 (JF c.gj u B) Wl ?_;refine ZX ?_;refine jQ (j:=23) (b':=true) n ?_;iterate 6 refine yN ?_
 refine fj rfl (pK ?_);exact ZA a;replace a:=cE n a;obtain ⟨Z,aa,a⟩:=Ka a;refine b5 11 [[],[0],[0],[0,2],[0,2],[0,2],[0,2,5],[0,2,5],[0,2],[0,2,8],[0,2,8,9]] [0,2,5,7,8,9] ?_;iterate 6 apply Θ
 intro bs;refine Xv ?_;refine f8 (JF c.gj u B) Wl ?_;refine ZX ?_;refine jQ (j:=23) (b':=false) n ?_;refine Xv ?_;refine f8 (JF c.gj Z aa) Wl ?_;refine YO ?_;refine Yu ?_;refine fj rfl (pu ?_);exact ZF a;intro s7 ac;refine Zb ac fun X=>?_;refine cY W ?_ ?_<;>intro a;refine Kj (b5 3 [[],[0],[]] [0] ?_);apply Θ;intro bs;refine Xv ?_;refine uq ?_;refine fj rfl (Yn ?_);obtain rfl:=Ke a;exact rP (t':=[(6,iD 0),(7,iD c.ga),(8,iD 2)]) [] [] 0 aU bU Za;refine Zm ?_;refine ZQ ?_;refine ZI a fun ad ae o=>?_;refine fI (τ:=List Int) (fun p l=>⟨[(3,.ptr g 0),(4,.ptr f 0),(5,.ptr b 0),(9,eI p l)],[(g,Blk.cells (dD a0 .no .no) 28),(f,Blk.cells (eE e .no .no .no) 52),(b,Blk.cells (dP c .no) 149)],[(1,l)]⟩) ad ?_ ?_;refine Zk ae fun cq af F=>?_;refine d7 af (fun w x=>⟨[(3,.ptr g 0),(4,.ptr f 0),(5,.ptr b 0),(9,eI w.1 x),(10,iD w.2)],[(g,Blk.cells (dD a0 .no .no) 28),(f,Blk.cells (eE e .no .no .no) 52),(b,Blk.cells (dP c .no) 149)],[(1,x)]⟩) ?_ ?_;refine WkX.tokN (i:=9) 1 rfl fun cr=>?_;exact ZG;intro G36 w x a;refine Zx ?_;refine Ys ?_;refine ZL ?_;refine cY a ?_ ?_<;>intro a;refine ZE ?_;refine Zl a fun H ag a=>?_;obtain ⟨q,ah,a⟩:=Ka a;refine b5 14 (oH [] [(0,[]),(0,[]),(0,[]),(0,[2]),(0,[]),(4,[3]),(6,[5]),(0,[0,1,2,3,5,6]),(8,[7]),(9,[8]),(9,[8]),(9,[8]),(9,[8]),(9,[8])]) [0,1,2,3,5,6,7,8] ?_;iterate 8 apply Θ
 intro bs;refine Wm ?_;refine YO ?_;refine uq ?_;refine YS ag ?_;refine f8 (Q a0 e H q ah) (WkL.cons (Wk.refl _) (WkL.cons (Wk.refl _) (WkL.cons (Wk.trans (Wk.agg (WkR.refl _)) (Wk.of_eq (Kn H).symm)) Wl))) ?_;refine ue ?_;iterate 5 refine uq ?_
 refine YL ?_;refine ZM ?_;refine cY a ?_ ?_<;>intro a;refine Kd ?_;iterate 5 refine pu ?_
 refine Zr ?_;refine Zt ?_;refine Ks ?_;obtain rfl:=KU a;refine Zt ?_;obtain rfl:=Ke F;refine fH ?_;simp only [ς] at o;refine Ks ?_;obtain rfl:=Ke o;exact rP (t':=[(6,iD 0),(7,iD q.2.1),(8,iD q.2.2)]) [] [] 0 aU bU Za;refine Zm ?_;refine ZH ?_;refine Zo ?_;refine bA (i:=59) (d':=dO [q.1]) rfl aU (Z6 a fun cs ai a ct=>?_);refine jo (i:=60) ai rfl (pu ?_);exact Xk a;exact Wz a F;intro p cu aj ak;subst aj;simp only [Γ] at o;refine Zb ak fun l=>?_;refine ZC o fun al I am=>?_;refine KS (Y:=Unit) (fun an=>⟨[(3,.ptr g 0),(4,.ptr f 0),(5,.ptr b 0),(9,eI p l),(68,.v (.bool al))],[(g,Blk.cells (dD a0 .no .no) 28),(f,Blk.cells (eE e .no .no .no) 52),(b,Blk.cells (dP c .no) 149)],[(1,l)]⟩) ?_ ?_;refine Zs ?_;refine pL 2 ?_;refine Zg ?_;refine gW (i:=64) rfl (fun y=>?_) fun y=>?_;have a:=cD y (Kx I);iterate 3 refine pK ?_
 exact ZA a;have a:=cE y (Kx I);refine Ys ?_;refine pu ?_;exact ZF a;intro cv ao;refine Zb ao fun an=>?_;refine cY am ?_ ?_<;>intro a;refine ZC a fun cw ap a=>?_;obtain ⟨cx,aq,a⟩:=Ka a;refine b5 6 [[],[0],[0,1],[],[3],[3,4]] [0,1,3,4] ?_;iterate 4 apply Θ
 intro bs;refine Xt ap ?_;refine Xt aq ?_;refine YL ?_;refine cY a ?_ ?_<;>intro a;refine Zl a fun ar au a=>?_;refine b5 6 [[],[0],[0,1],[0,1,2],[0,1,2,3],[]] [0,1,2,3] ?_;iterate 4 apply Θ
 intro bs;refine YO ?_;refine XF au ?_;refine uq ?_;refine fj rfl (Yn ?_);refine Ks ?_;obtain rfl:=Ke a;exact rP (t':=[(6,iD 0),(7,iD ar.ga),(8,iD 9)]) [] [] 0 aU bU Za;refine Zm ?_;refine ZK ?_;refine Z4 ?_;obtain rfl:=Ke a;exact rP (t':=[(6,iD 1),(7,iD 0),(8,iD 0)]) [] [] 0 aU bU Za;refine Zm ?_;refine ZI a fun av aw s=>?_;refine fI (τ:=Unit) (Y:=Unit) (fun ax ay=>⟨[(3,.ptr g 0),(4,.ptr f 0),(5,.ptr b 0)],[(g,Blk.cells (dD a0 .no .no) 28),(f,Blk.cells (eE e .no .no .no) 52),(b,Blk.cells (dP c .no) 149)],[]⟩) av ?_ ?_;refine Zk aw fun cy az J=>?_;refine d7 (Y:=Unit) az (fun K ba=>⟨[(3,.ptr g 0),(4,.ptr f 0),(5,.ptr b 0),(9,eI p l),(14,iD K)],[(g,Blk.cells (dD a0 .no .no) 28),(f,Blk.cells (eE e .no .no .no) 52),(b,Blk.cells (dP c .no) 149)],[(1,l)]⟩) ?_ ?_;exact Zn;intro G90 K ba a;refine YT ?_;refine cY a ?_ ?_<;>intro a;refine Y1 ?_;refine Zq a fun cz da a=>?_;refine Yh ?_;refine Zd ?_;refine cY a ?_ ?_<;>intro a;refine Zl a fun bb bc a=>?_;refine b5 7 [[],[0],[],[0,1],[0,1,3],[0,1,3,4],[]] [0,1,3,4] ?_;iterate 4 apply Θ
 intro bs;refine YO ?_;refine uq ?_;refine XF bc ?_;refine uq ?_;refine fj rfl (pu ?_);refine Zy ?_;obtain rfl:=KU a;refine Zt ?_;obtain rfl:=Ke J;refine fH ?_;simp only [ς] at s;refine Ks ?_;obtain rfl:=Ke s;exact rP (t':=[(6,iD 0),(7,iD bb.ga),(8,iD 9)]) [] [] 0 aU bU Za;exact Ym a;exact YI a J;intro ax db bd be;subst bd;simp only [Γ] at s;refine Zb be fun ay=>?_;refine Xw ?_;refine pL (d:=Kv e) 1 ?_;refine Ys ?_;refine bN s (JE a0 e c.gb) fun m a=>?_;refine YK ?_;refine Yk ?_;refine Zx ?_;refine pL 2 ?_;refine Kc ?_;obtain ⟨t,bf,bg⟩:=Ka a;refine KS (Y:=Unit) (fun bh=>⟨[(5,.ptr b 0),(16,iD t.1),(17,iD t.2)],[(b,Blk.cells (dP c .no) 149)],[]⟩) ?_ ?_;refine KD (Zh ?_);obtain ⟨L,bi,bj⟩:=Ka (Kx bf);refine KS (Y:=Unit) (fun dc=>⟨[(5,.ptr b 0),(16,iD L.1),(17,iD L.2)],[(b,Blk.cells (dP c .no) 149)],[]⟩) ?_ ?_;refine cY (Kx bi) (fun a=>?_) fun a=>?_;refine Ze ?_;refine bN a (wQ m 1 2) fun dd a=>?_;refine Zd ?_;refine ZH ?_;exact Wj a;refine Zh ?_;obtain ⟨M,bk,bl⟩:=Ka a;refine KS (Y:=Unit) (fun de=>⟨[(5,.ptr b 0),(16,iD M.1),(17,iD M.2)],[(b,Blk.cells (dP c .no) 149)],[]⟩) ?_ ?_;refine cY (Kx bk) (fun a=>?_) fun a=>?_;refine Zs ?_;refine bN a (wQ m 3 3) fun df a=>?_;refine pu ?_;exact Wj a;refine Zh ?_;obtain ⟨N,bm,bn⟩:=Ka a;refine KS (Y:=Unit) (fun dh=>⟨[(5,.ptr b 0),(16,iD N.1),(17,iD N.2)],[(b,Blk.cells (dP c .no) 149)],[]⟩) ?_ ?_;refine cY (Kx bm) (fun a=>?_) fun a=>?_;refine Zs ?_;refine bN a (wQ m 2 2) fun di a=>?_;refine pu ?_;exact Wj a;refine Zh ?_;obtain ⟨O,bo,bp⟩:=Ka a;refine KS (Y:=Unit) (fun dj=>⟨[(5,.ptr b 0),(16,iD O.1),(17,iD O.2)],[(b,Blk.cells (dP c .no) 149)],[]⟩) ?_ ?_;refine cY (Kx bo) (fun a=>?_) fun a=>?_;refine Zs ?_;exact Wj a;refine ZM ?_;obtain ⟨bq,br,bu⟩:=Ka a;refine KS (Y:=Unit) (fun bv=>⟨[(4,.ptr f 0),(5,.ptr b 0),(15,iD m),(16,iD 0),(17,iD 1),(120,.v (.bool bq))],[(f,Blk.cells (eE e .no .no .no) 52),(b,Blk.cells (dP c .no) 149)],[]⟩) ?_ ?_;refine cY (Kx br) (fun a=>?_) fun a=>?_;refine Kp ?_;obtain rfl:=Ke a;refine ⟨rfl,?_⟩;exact wO (WkS.perm aU ((KO (j:=1) rfl).trans (χ _ ((KO (j:=1) rfl).trans (χ _ Pf)))) Pf);refine ZH ?_;refine Kw ?_;obtain rfl:=Ke a;refine ⟨rfl,?_⟩;exact wO (WkS.perm aU ((KO (j:=1) rfl).trans (χ _ ((KO (j:=1) rfl).trans (χ _ Pf)))) Pf);intro dk bw;refine Zb bw fun bv=>?_;obtain ⟨P,bx,bz⟩:=Ka bu;refine KS (Y:=Unit) (fun dm=>⟨[(5,.ptr b 0),(16,iD P.1),(17,iD P.2)],[(b,Blk.cells (dP c .no) 149)],[]⟩) ?_ ?_;refine cY (Kx bx) (fun a=>?_) fun a=>?_;refine Ze ?_;refine Yk ?_;refine Xu ?_;refine Zd ?_;obtain ⟨z,ca,cb⟩:=Ka a;refine KS (Y:=Unit) (fun cc=>⟨[(4,.ptr f 0),(5,.ptr b 0),(15,iD m),(17,iD 2),(18,iD z)],[(f,Blk.cells (eE e .no .no .no) 52),(b,Blk.cells (dP c .no) 149)],[]⟩) ?_ ?_;refine cY (Kx ca) (fun a=>?_) fun a=>?_;refine Zs ?_;exact ZN a;exact ZO a;intro dp cd;refine Zb cd fun cc=>?_;refine ZK ?_;refine bN cb (wQ m z z) fun dq a=>?_;refine pu ?_;refine KE (pL (d:=Kv e) 0 ?_);refine YY ?_;refine bN a (JN e c.gb) fun dr a=>?_;refine Zd ?_;obtain ⟨ce,cf,cg⟩:=Ka a;refine KS (Y:=Unit) (fun ds=>⟨[(5,.ptr b 0),(16,iD ce),(17,iD 2)],[(b,Blk.cells (dP c .no) 149)],[]⟩) ?_ ?_;refine cY (Kx cf) (fun a=>?_) fun a=>?_;refine Zs ?_;exact Kw (Wy a);exact Kp (Wy a);intro dt ch;exact Yp cg ch;exact Kp (Wy a);intro du ci;exact Yp bz ci;intro dw cj;exact Yp bp cj;intro dx cl;exact Yp bn cl;intro dy cm;exact Yp bl cm;intro dz cn;exact KF (Yp bj cn);intro ea co;refine Zb co fun bh=>?_;refine ZM ?_;refine cY bg ?_ ?_<;>intro a;refine Kj (b5 5 [[],[0],[],[],[0]] [0] ?_);apply Θ;intro bs;refine YM ?_;iterate 3 refine uq ?_
 refine fj rfl (ZS ?_);obtain rfl:=Ke a;exact rP (t':=[(6,iD 0),(7,iD c.ga),(8,iD t.1)]) [] [] 0 aU bU Za;refine Zm ?_;refine Yl ?_;refine Zr ?_;obtain rfl:=Ke a;exact rP (t':=[(6,iD t.2),(7,iD 0),(8,iD 0)]) [] [] 0 aU bU Za
def Kdo:Nat→((KB)→(KC)→(Kf)→Option (Int×Int×Int))
 | 0=>(fun _ _ _=>none)
 | n+1=>(Cn ((Kdo n)))
def ML:∀ n,(∀ (a0:KB) (a:KC) (b:Kf) (r:Int×Int×Int) (c:(Kdo n) a0 a b=some r),Cd 164 [K5 a0,Kv a,Kh b] [] [] (dJ (.tup [iD r.1,iD r.2.1,iD r.2.2])))
 | 0=>fun _ _ _ _ c=>by cases c
 |
  n+1=>by
  have ih:=ML n;exact OV (Kdo n) ih
def MK:∀ n,(∀ (a0:KB) (a:KC) (b:Kf),Le ((Kdo n) a0 a b) ((Kdo (n+1)) a0 a b))
 | 0=>fun _ _ _=>Le.none _
 |
  n+1=>by
  have ih:=MK n;exact fun a0 a b=>by show Le (Cn ((Kdo n)) a0 a b) (Cn ((Kdo (n+1))) a0 a b);revert ih;generalize Kdo n=G0;generalize Kdo (n+1)=G1;intro ih;unfold Cn;repeat (first|with_reducible exact Le.refl _|with_reducible exact ih _ _ _|with_reducible assumption|(refine Le.bind ?_ (fun _=>?_))|(refine Le.cond ?_ ?_)|(refine Le.loop (fun _=>?_))|(refine Le.elim (fun _=>?_) (fun _=>?_)))
def Fc (a0:KB)(a:KC)(b:Kf):Option (Int×Int×Int):=gK fun n=>(Kdo n) a0 a b
def PB (a0:KB)(a:KC)(b:Kf){r:Int×Int×Int}(n:Nat)(h:(Kdo n) a0 a b=some r):Fc a0 a b=some r:=kU (fun m=>(MK m) a0 a b) h
def PA (a0 a b r)(c:Fc a0 a b=some r):Cd 164 [K5 a0,Kv a,Kh b] [] [] (dJ (.tup [iD r.1,iD r.2.1,iD r.2.2])):=
 let ⟨n,hn⟩:=kq c;(ML n) a0 a b r hn
def Hr (a0:KB)(f:KC)(a:Kk)(e:List Int):Option (Int×Int):=
 κ (α:=(Unit)⊕(Int×Int)) (aE (fun (c:Int)=>bif decide (c<a0.gf.length) then (idx a0.gf c).bind fun g=>bif !decide (g.gb=a.gy) then some (.next (ζ.wrap (c+1))) else ((idx a0.gf c).bind fun d=>bif (d.gh.length:Int) != e.length then some (.done (.inr (a.ga,2))) else κ (α:=(Unit)⊕(Int×Int)) (aE (fun (b:Int)=>bif decide (b<d.gh.length) then (idx d.gh b).bind fun h=>(idx e b).bind fun i=>bif !(h.gA==(i==2)) then (idx a.gn b).bind fun j=>some (.done (.inr (j.ga,9))) else some (.next (ζ.wrap (b+1))) else some (.done (.inl ()))) 0) (Ω (fun m=>bif !decide (a.gb=(ν #[])) then (Dh a0 f a.gb).bind fun k=>(sH k 1 1).bind fun l=>some (.done (.inr (a.ga,l))) else some (.done (.inr (0,0)))) (fun r=>some (.done (.inr r))))) else some (.done (.inl ()))) 0) (Ω (fun n=>some (a.ga,7)) (fun r=>some r))
def WL {R G:Prop}(h:R)(k:R→G:=by intro h;refine e9 (KN 0 htab rfl rfl rfl rfl rfl) ?_;exact h):G:=k h
def Z1 {R G:Prop}(h:R)(k:R→G:=by intro h;refine ue ?_;refine WL ?_;exact h):G:=k h
def Yv {R G:Prop}(h:R)(k:R→G:=by intro h;refine Zm ?_;refine Ze ?_;exact h):G:=k h
def YE {R G:Prop}(h:R)(k:R→G:=by intro h;refine pu ?_;refine Zi ?_;exact h):G:=k h
def Pz (a0 e b m r)(v:Hr a0 e b m=some r):Cd 167 [K5 a0,Kv e,Kg b,fB m] [] [] (dJ (.tup [iD r.1,iD r.2])):=by
 refine cQ v Tryz.func167 fun C a=>?_;refine kz (i:=2) rfl (Wk.of_eq (KM b)) (Zv fun f=>?_);refine Yj fun g=>?_;refine Yj fun d=>?_;refine Z7 ?_;refine ZI a fun w x c=>?_;refine fI (τ:=Unit) (Y:=Unit) (fun y z=>⟨[(6,.ptr d 0)],[(d,Blk.cells (fv b .no .no .no) 105)],[]⟩) w ?_ ?_;refine Zk x fun aa A l=>?_;refine d7 (Y:=Unit) A (fun o B=>⟨[(3,fB m),(4,.ptr f 0),(5,.ptr g 0),(6,.ptr d 0),(10,iD o)],[(f,Blk.cells (dD a0 .no .no) 28),(g,Blk.cells (eE e .no .no .no) 52),(d,Blk.cells (fv b .no .no .no) 105)],[]⟩) ?_ ?_;exact Zn;intro G150 o B a;refine Yo ?_;refine cY a ?_ ?_<;>intro a;refine ZE ?_;refine ZC a fun ac F a=>?_;refine b5 8 [[],[0],[],[0,1],[0,1,3],[0,1,3,4],[],[6]] [0,1,3,4,6] ?_;iterate 5 apply Θ
 intro bs;refine Z1 ?_;refine uq ?_;refine Wg F ?_;refine ue ?_;refine YB ?_;refine Xv ?_;refine YL ?_;refine cY a ?_ ?_<;>intro a;refine K3 (KH (KW (Kb (Zw ?_))));exact XJ a;refine Zm ?_;refine ZB ?_;refine pu ?_;refine Zq a fun H ad a=>?_;refine YD ?_;refine Zd ?_;refine Zx ?_;refine Ye ?_;refine ZL ?_;refine cY a ?_ ?_<;>intro a;refine Ze ?_;refine pL 2 ?_;refine Yn ?_;refine YN ?_;obtain rfl:=KU a;refine Zt ?_;obtain rfl:=Ke l;refine fH ?_;simp only [ς] at c;refine Ks ?_;obtain rfl:=Ke c;exact rP (t':=[(8,iD b.ga),(9,iD 2)]) [] [] 0 aU bU Za;refine Zm ?_;refine ZI a fun I J n=>?_;refine fI (τ:=Unit) (Y:=Unit) (fun K L=>⟨[(4,.ptr f 0),(5,.ptr g 0),(6,.ptr d 0)],[(f,Blk.cells (dD a0 .no .no) 28),(g,Blk.cells (eE e .no .no .no) 52),(d,Blk.cells (fv b .no .no .no) 105)],[]⟩) I ?_ ?_;refine Zk J fun ae M p=>?_;refine d7 (Y:=Unit) M (fun q N=>⟨[(3,fB m),(4,.ptr f 0),(5,.ptr g 0),(6,.ptr d 0),(11,cB H.gh),(12,iD q)],[(f,Blk.cells (dD a0 .no .no) 28),(g,Blk.cells (eE e .no .no .no) 52),(d,Blk.cells (fv b .no .no .no) 105)],[]⟩) ?_ ?_;exact Zn;intro G268 q N a;refine YT ?_;refine cY a ?_ ?_<;>intro a;refine ZE ?_;refine Zl a fun af O a=>?_;obtain ⟨ag,P,a⟩:=Ka a;refine b5 10 [[],[],[0],[0,2],[0,2,3],[],[],[5],[5,7],[5,7]] [0,2,3,5,7] ?_;iterate 5 apply Θ
 intro bs;refine Y0 O ?_;refine ue ?_;refine YB ?_;refine Y0 P ?_;refine YB ?_;refine uq ?_;refine YL ?_;refine cY a ?_ ?_<;>intro a;refine Ze ?_;refine pL 2 ?_;refine pu ?_;refine Zq a fun s ah a=>?_;refine bA (i:=62) rfl (Wk.of_eq (a6 D.el (Kn s))) (YD ?_);refine pu ?_;refine Zy ?_;obtain rfl:=KU a;refine Zt ?_;obtain rfl:=Ke p;refine fH ?_;simp only [ς] at n;refine Zt ?_;refine Ks ?_;obtain rfl:=KU n;refine Zt ?_;obtain rfl:=Ke l;refine fH ?_;simp only [ς] at c;refine Ks ?_;obtain rfl:=Ke c;exact rP (t':=[(8,iD s.ga),(9,iD 9)]) [] [] 0 aU bU Za;exact Ym a;exact YI a p;intro K ai Q U;subst Q;simp only [Γ] at n;refine Zb U fun L=>?_;refine Zx ?_;refine pL 2 ?_;refine Zd ?_;refine cY n ?_ ?_<;>intro a;refine Zl a fun t V a=>?_;obtain ⟨u,W,a⟩:=Ka a;refine b5 8 [[],[0],[],[],[],[4],[2,3,4],[2,3,4,6]] [0,2,3,4,6,7] ?_;iterate 6 apply Θ
 intro bs;refine Xv ?_;refine Wm ?_;refine Xv ?_;refine f8 (JE a0 e b.gb t V) Wl ?_;refine f8 (wQ t 1 1 u W) Wl ?_;refine fj rfl (Yn ?_);refine YN ?_;obtain rfl:=KU a;refine Zt ?_;obtain rfl:=Ke l;refine fH ?_;simp only [ς] at c;refine Ks ?_;obtain rfl:=Ke c;exact rP (t':=[(8,iD b.ga),(9,iD u)]) [] [] 0 aU bU Za;refine Yv ?_;refine Zy ?_;obtain rfl:=KU a;refine Zt ?_;obtain rfl:=Ke l;refine fH ?_;simp only [ς] at c;refine Ks ?_;obtain rfl:=Ke c;exact rP (t':=[(8,iD 0),(9,iD 0)]) [] [] 0 aU bU Za;refine K3 (KH ?_);obtain rfl:=KU a;refine KH (KW ?_);obtain rfl:=Ke l;exact ze (wO (WkS.perm aU ((KO (j:=2) rfl).trans (χ _ Pf)) Pf));intro y aj X Z;subst X;simp only [Γ] at c;refine Zb Z fun z=>?_;refine ZB ?_;refine YE ?_;obtain rfl:=Ke c;exact rP (t':=[(8,iD b.ga),(9,iD 7)]) [] [] 0 aU bU Za
def He (a0:KB)(g:KC)(a:Kk):Option (Int×Int):=
 κ (α:=Bool) ((Fr a).bind fun i=>bif decide (i<0) then some true else (Fr a).bind fun j=>some (j != a.gn.length)) fun k=>bif k then some (a.ga,2) else κ (α:=(List Int)⊕(Int×Int)) (aE (fun (c:List Int×Int)=>bif decide (c.2<a.gn.length) then (idx a.gn c.2).bind fun l=>(Fc a0 g l).bind fun e=>bif e.2.2 != 0 then some (.done (.inr (e.2.1,e.2.2))) else ((app 8 c.1 ([e.1]:List Int)).bind fun m=>some (.next (m,(ζ.wrap (c.2+1))))) else some (.done (.inl c.1))) (([]:List Int),0)) (Ω (fun d=>(Dh a0 g a.gb).bind fun b=>κ (α:=(Unit)⊕(Int×Int)) (aE (fun (f:Int)=>κ (α:=Bool) (bif decide (f<d.length) then bif a.gj != 1 then some (a.gj != 4) else some false else some false) fun n=>bif n then (idx d f).bind fun o=>bif o != 1 then (idx a.gn f).bind fun p=>some (.done (.inr (p.ga,9))) else some (.next (ζ.wrap (f+1))) else some (.done (.inl ()))) 0) (Ω (fun z=>bif a.gj==1 then κ (α:=Bool) (bif b==1 then some true else some (b==2)) fun q=>bif q then (idx d 0).bind fun s=>(idx d 0).bind fun t=>(sH b s t).bind fun u=>some (a.ga,u) else ((sH b 1 2).bind fun v=>some (a.ga,v)) else bif a.gj==2 then (sH b 3 3).bind fun w=>some (a.ga,w) else bif a.gj==3 then (sH b 2 2).bind fun x=>some (a.ga,x) else bif a.gj==4 then (Hr a0 g a d).bind fun h=>some (h.1,h.2) else bif a.gj==5 then (sH b 1 1).bind fun y=>some (a.ga,y) else some (0,0)) (fun r=>some r))) (fun r=>some r))
def YF {R G:Prop}(h:R)(k:R→G:=by intro h;refine ZU ?_;refine pu ?_;exact h):G:=k h
def Z2 {R G:Prop}(h:R)(k:R→G:=by intro h;refine Z0 ?_;refine pu ?_;exact h):G:=k h
def Ug {A0 R G:Prop}(a0:A0)(h:R)(k:A0→R→G:=by intro _a h;refine e9 (KN (d:=.agg (fv _ .no .no .no)) 2 htab rfl rfl rfl rfl rfl) ?_;refine f8 (Q1 _ _ _a) (WkL.cons (Wk.trans (Wk.agg (WkR.refl _)) (Wk.of_eq (KM _).symm)) Wl) ?_;exact h):G:=k a0 h
def Xl {R G:Prop}(h:R)(k:R→G:=by intro h;refine Kp ?_;refine KF ?_;refine Kb ?_;exact h):G:=k h
def pk (a0 e b r)(Q:He a0 e b=some r):Cd 138 [K5 a0,Kv e,Kg b] [] [] (dJ (.tup [iD r.1,iD r.2])):=by
 refine cQ Q Tryz.func138 fun C a=>?_;refine kz (i:=2) rfl (Wk.of_eq (KM b)) (Zv fun f=>?_);refine Yj fun g=>?_;refine Yj fun c=>?_;refine Z7 ?_;refine ZC a fun U V W=>?_;refine KS (Y:=Unit) (fun X=>⟨[(3,.ptr f 0),(4,.ptr g 0),(5,.ptr c 0),(25,.v (.bool U))],[(f,Blk.cells (dD a0 .no .no) 28),(g,Blk.cells (eE e .no .no .no) 52),(c,Blk.cells (fv b .no .no .no) 105)],[]⟩) ?_ ?_;obtain ⟨Z,z,a⟩:=Ka (Kx V);refine iz (decide (Z<0)) (fun o=>?_) fun o=>?_;replace a:=cD o a;refine b5 9 [[],[0],[0,1],[0,1],[0,1],[0,1],[0,1],[0,1],[0,1]] [0,1] ?_;apply Θ;apply Θ;intro bs;refine Ug z ?_;refine ZX ?_;refine jQ (j:=18) (b':=true) o ?_;iterate 5 refine yN ?_
 refine fj rfl (pK ?_);exact ZA a;replace a:=cE o a;obtain ⟨bm,aa,a⟩:=Ka a;refine b5 9 [[],[0],[0,1],[0,1],[0,1],[0,1,4],[0,1],[0,1,6],[0,1,6,7]] [0,1,4,5,6,7] ?_;iterate 6 apply Θ
 intro bs;refine Ug z ?_;refine ZX ?_;refine jQ (j:=18) (b':=false) o ?_;refine Ug aa ?_;refine YO ?_;refine Yu ?_;refine fj rfl (pu ?_);exact ZF a;intro s7 ac;refine Zb ac fun X=>?_;refine cY W ?_ ?_<;>intro a;refine Ze ?_;refine pL 2 ?_;refine Yn ?_;obtain rfl:=Ke a;exact rP (t':=[(6,iD b.ga),(7,iD 2)]) [] [] 0 aU bU Za;refine Zm ?_;refine ZQ ?_;refine ZI a fun ad ae p=>?_;refine fI (τ:=List Int) (fun n l=>⟨[(3,.ptr f 0),(4,.ptr g 0),(5,.ptr c 0),(8,eI n l)],[(f,Blk.cells (dD a0 .no .no) 28),(g,Blk.cells (eE e .no .no .no) 52),(c,Blk.cells (fv b .no .no .no) 105)],[(1,l)]⟩) ad ?_ ?_;refine Zk ae fun bo af A=>?_;refine d7 af (fun t u=>⟨[(3,.ptr f 0),(4,.ptr g 0),(5,.ptr c 0),(8,eI t.1 u),(9,iD t.2)],[(f,Blk.cells (dD a0 .no .no) 28),(g,Blk.cells (eE e .no .no .no) 52),(c,Blk.cells (fv b .no .no .no) 105)],[(1,u)]⟩) ?_ ?_;refine WkX.tokN (i:=8) 1 rfl fun bp=>?_;exact ZG;intro G36 t u a;refine Zx ?_;refine Ys ?_;refine ZL ?_;refine cY a ?_ ?_<;>intro a;refine ZE ?_;refine Zl a fun B ag a=>?_;obtain ⟨q,ah,a⟩:=Ka a;refine b5 14 (oH [] [(0,[]),(0,[]),(0,[]),(0,[2]),(0,[]),(4,[3]),(6,[5]),(0,[0,1,2,3,5,6]),(8,[7]),(9,[8]),(9,[8]),(9,[8]),(9,[8]),(9,[8])]) [0,1,2,3,5,6,7,8] ?_;iterate 8 apply Θ
 intro bs;refine Wm ?_;refine YO ?_;refine uq ?_;refine YS ag ?_;refine f8 (PA a0 e B q ah) (WkL.cons (Wk.refl _) (WkL.cons (Wk.refl _) (WkL.cons (Wk.trans (Wk.agg (WkR.refl _)) (Wk.of_eq (Kn B).symm)) Wl))) ?_;refine ue ?_;iterate 5 refine uq ?_
 refine YL ?_;refine ZM ?_;refine cY a ?_ ?_<;>intro a;refine Yl ?_;refine Zr ?_;refine Zt ?_;refine Ks ?_;obtain rfl:=KU a;refine Zt ?_;obtain rfl:=Ke A;refine fH ?_;simp only [ς] at p;refine Ks ?_;obtain rfl:=Ke p;exact rP (t':=[(6,iD q.2.1),(7,iD q.2.2)]) [] [] 0 aU bU Za;refine Zm ?_;refine ZH ?_;refine Zo ?_;refine bA (i:=53) (d':=dO [q.1]) rfl aU (Z6 a fun bq ai a br=>?_);refine jo (i:=54) ai rfl (pu ?_);exact Xk a;exact Wz a A;intro n bu aj ak;subst aj;simp only [Γ] at p;refine Zb ak fun l=>?_;refine Xw ?_;refine pL (d:=Kv e) 1 ?_;refine Ys ?_;refine bN p (JE a0 e b.gb) fun m a=>?_;refine Zd ?_;refine ZI a fun al am s=>?_;refine fI (τ:=Unit) (Y:=Unit) (fun an ao=>⟨[(3,.ptr f 0),(4,.ptr g 0),(5,.ptr c 0),(8,eI n l),(13,iD m)],[(f,Blk.cells (dD a0 .no .no) 28),(g,Blk.cells (eE e .no .no .no) 52),(c,Blk.cells (fv b .no .no .no) 105)],[(1,l)]⟩) al ?_ ?_;refine Zk am fun bv ap F=>?_;refine d7 (Y:=Unit) ap (fun w aq=>⟨[(3,.ptr f 0),(4,.ptr g 0),(5,.ptr c 0),(8,eI n l),(13,iD m),(14,iD w)],[(f,Blk.cells (dD a0 .no .no) 28),(g,Blk.cells (eE e .no .no .no) 52),(c,Blk.cells (fv b .no .no .no) 105)],[(1,l)]⟩) ?_ ?_;exact Zn;intro G89 w aq a;refine ZC a fun ar H au=>?_;refine KS (Y:=Unit) (fun av=>⟨[(3,.ptr f 0),(4,.ptr g 0),(5,.ptr c 0),(8,eI n l),(13,iD m),(14,iD w),(73,.v (.bool ar))],[(f,Blk.cells (dD a0 .no .no) 28),(g,Blk.cells (eE e .no .no .no) 52),(c,Blk.cells (fv b .no .no .no) 105)],[(1,l)]⟩) ?_ ?_;refine ZH ?_;refine Z8 ?_;refine Zg ?_;refine gW (i:=64) rfl (fun x=>?_) fun x=>?_;have a:=cD x (Kx H);refine Ys ?_;refine pu ?_;refine YF ?_;refine g6 (i:=69) a ?_ ?_<;>intro a;refine Ys ?_;refine pu ?_;exact ZA a;exact Y4 a;have a:=cE x (Kx H);iterate 3 refine pK ?_
 refine Z2 ?_;exact Y4 a;intro bw aw;refine Zb aw fun av=>?_;refine cY au ?_ ?_<;>intro a;refine Y1 ?_;refine Zq a fun bx bz a=>?_;refine Yh ?_;refine Zd ?_;refine cY a ?_ ?_<;>intro a;refine Ze ?_;refine pL 2 ?_;refine pu ?_;refine Zq a fun I ca a=>?_;refine bA (i:=84) rfl (Wk.of_eq (a6 D.el (Kn I))) (YD ?_);refine pu ?_;refine Zy ?_;obtain rfl:=KU a;refine Zt ?_;obtain rfl:=Ke F;refine fH ?_;simp only [ς] at s;refine Ks ?_;obtain rfl:=Ke s;exact rP (t':=[(6,iD I.ga),(7,iD 9)]) [] [] 0 aU bU Za;exact Ym a;exact YI a F;intro an cb ax ay;subst ax;simp only [Γ] at s;refine Zb ay fun ao=>?_;refine Zx ?_;refine pL 2 ?_;refine Xs ?_;refine cY s ?_ ?_<;>intro a;refine ZC a fun az J ba=>?_;refine KS (Y:=Unit) (fun bb=>⟨[(5,.ptr c 0),(8,eI n l),(13,iD m),(96,.v (.bool az))],[(c,Blk.cells (fv b .no .no .no) 105)],[(1,l)]⟩) ?_ ?_;refine Zw ?_;refine gW (i:=93) rfl (fun y=>?_) fun y=>?_;have a:=cD y (Kx J);refine YG ?_;refine ZU ?_;exact Wj a;have a:=cE y (Kx J);refine Zg ?_;refine Z0 ?_;exact Wj a;intro cc bc;refine Zb bc fun bb=>?_;refine cY ba ?_ ?_<;>intro a;refine Zl a fun bd be a=>?_;obtain ⟨bf,bg,a⟩:=Ka a;obtain ⟨K,bh,a⟩:=Ka a;refine b5 10 [[],[0],[],[],[3],[3,4],[],[6],[6,7],[3,4,6,7]] [0,3,4,6,7,9] ?_;iterate 6 apply Θ
 intro bs;refine YM ?_;refine uq ?_;refine Xt be ?_;refine Xt bg ?_;refine f8 (wQ m bd bf K bh) Wl ?_;refine fj rfl (Yn ?_);refine YN ?_;obtain rfl:=Ke a;exact rP (t':=[(6,iD b.ga),(7,iD K)]) [] [] 0 aU bU Za;refine Zm ?_;refine Zl a fun L bi a=>?_;refine b5 4 [[],[0],[],[]] [0,3] ?_;apply Θ;apply Θ;intro bs;refine YM ?_;refine uq ?_;refine f8 (wQ m 1 2 L bi) Wl ?_;refine fj rfl (pu ?_);refine Zy ?_;obtain rfl:=Ke a;exact rP (t':=[(6,iD b.ga),(7,iD L)]) [] [] 0 aU bU Za;refine Zh ?_;refine cY a ?_ ?_<;>intro a;refine Zl a fun M bj a=>?_;refine b5 4 [[],[0],[],[]] [0,3] ?_;apply Θ;apply Θ;intro bs;refine Xv ?_;refine uq ?_;refine f8 (wQ m 3 3 M bj) Wl ?_;refine fj rfl (pu ?_);refine Zy ?_;obtain rfl:=Ke a;exact rP (t':=[(6,iD b.ga),(7,iD M)]) [] [] 0 aU bU Za;refine Zh ?_;refine cY a ?_ ?_<;>intro a;refine Zl a fun N bk a=>?_;refine b5 4 [[],[0],[],[]] [0,3] ?_;apply Θ;apply Θ;intro bs;refine Xv ?_;refine uq ?_;refine f8 (wQ m 2 2 N bk) Wl ?_;refine fj rfl (pu ?_);refine Zy ?_;obtain rfl:=Ke a;exact rP (t':=[(6,iD b.ga),(7,iD N)]) [] [] 0 aU bU Za;refine Zh ?_;refine cY a ?_ ?_<;>intro a;refine Xw ?_;refine pL (d:=Kv e) 1 ?_;refine pL (d:=.agg (fv b .no .no .no)) 2 ?_;refine pu ?_;refine bN a (Pz a0 e b n) fun O a=>?_;iterate 4 refine pu ?_
 refine Yr ?_;obtain rfl:=Ke a;exact rP (t':=[(6,iD O.1),(7,iD O.2)]) [] [] 0 aU bU Za;refine Zh ?_;refine cY a ?_ ?_<;>intro a;refine Zl a fun P bl a=>?_;refine b5 4 [[],[0],[],[]] [0,3] ?_;apply Θ;apply Θ;intro bs;refine Xv ?_;refine uq ?_;refine f8 (wQ m 1 1 P bl) Wl ?_;refine fj rfl (pu ?_);refine Zy ?_;obtain rfl:=Ke a;exact rP (t':=[(6,iD b.ga),(7,iD P)]) [] [] 0 aU bU Za;refine Xl ?_;refine Ze ?_;refine Zi ?_;obtain rfl:=Ke a;exact rP (t':=[(6,iD 0),(7,iD 0)]) [] [] 0 aU bU Za
def Ci (g0:(KB)→(KC)→(List Kk)→Option (Int×Int))(a0:KB)(c:KC)(b:List Kk):Option (Int×Int):=
 κ (α:=(Unit)⊕(Int×Int)) (aE (fun (a:Int)=>bif decide (a<b.length) then (idx b a).bind fun i=>(He a0 c i).bind fun d=>κ (α:=Int×Int) (bif d.2==0 then (idx b a).bind fun j=>(g0 a0 c j.gd).bind fun g=>some (g.1,g.2) else some (d.1,d.2)) fun e=>κ (α:=Int×Int) (bif e.2==0 then (idx b a).bind fun k=>(g0 a0 c k.gr).bind fun h=>some (h.1,h.2) else some (e.1,e.2)) fun f=>bif f.2 != 0 then some (.done (.inr (f.1,f.2))) else some (.next (ζ.wrap (a+1))) else some (.done (.inl ()))) 0) (Ω (fun l=>some (0,0)) (fun r=>some r))
def YU {A0 R G:Prop}(a0:A0)(h:R)(k:A0→R→G:=by intro _a h;refine ue ?_;refine uq ?_;refine kT (Ex.wk (Ay htab rfl rfl rfl rfl rfl rfl rfl (KG _a) (KQ _a)) (Wk.of_eq (a6 D.el (KM _)))) ?_;refine ue ?_;exact h):G:=k a0 h
def PO (g0:(KB)→(KC)→(List Kk)→Option (Int×Int))(m:∀ (a0:KB) (b:KC) (c:List Kk) (r:Int×Int) (n:g0 a0 b c=some r),Cd 109 [K5 a0,Kv b,aI c] [] [] (dJ (.tup [iD r.1,iD r.2])))(a0 b c r)(n:Ci g0 a0 b c=some r):Cd 109 [K5 a0,Kv b,aI c] [] [] (dJ (.tup [iD r.1,iD r.2])):=by
 refine cQ n Tryz.func109 fun C a=>?_;refine Zv fun e=>?_;refine Yj fun f=>?_;refine Z7 ?_;refine ZI a fun s t g=>?_;refine fI (τ:=Unit) (Y:=Unit) (fun u v=>⟨[],[],[]⟩) s ?_ ?_;refine Zk t fun aa w o=>?_;refine d7 (Y:=Unit) w (fun i x=>⟨[(2,aI c),(3,.ptr e 0),(4,.ptr f 0),(8,iD i)],[(e,Blk.cells (dD a0 .no .no) 28),(f,Blk.cells (eE b .no .no .no) 52)],[]⟩) ?_ ?_;exact Zn;intro G62 i x a;refine YT ?_;refine cY a ?_ ?_<;>intro a;refine ZE ?_;refine Zl a fun j p a=>?_;obtain ⟨y,z,a⟩:=Ka a;refine b5 11 [[],[],[],[],[2],[2,4],[0,1,2,4,5],[0,1,2,4,5,6],[0,1,2,4,5,6,7],[0,1,2,4,5,6,7],[0,1,2,4,5,6,7]] [0,1,2,4,5,6,7] ?_;iterate 7 apply Θ
 intro bs;refine Wm ?_;refine YC ?_;refine kT (Ex.wk (Ay htab rfl rfl rfl rfl rfl rfl rfl (KG p) (KQ p)) (Wk.of_eq (a6 D.el (KM j)))) ?_;refine e9 (zf (d:=.agg (fv j .no .no .no)) htab rfl rfl rfl rfl rfl) ?_;refine f8 (pk a0 b j y z) (WkL.cons (Wk.refl _) (WkL.cons (Wk.refl _) (WkL.cons (Wk.trans (Wk.agg (WkR.refl _)) (Wk.of_eq (KM j).symm)) Wl))) ?_;refine ue ?_;iterate 3 refine uq ?_
 refine YL ?_;refine ZM ?_;obtain ⟨q,A,B⟩:=Ka a;refine KS (Y:=Unit) (fun F=>⟨[(2,aI c),(3,.ptr e 0),(4,.ptr f 0),(8,iD i),(9,iD q.1),(10,iD q.2)],[(e,Blk.cells (dD a0 .no .no) 28),(f,Blk.cells (eE b .no .no .no) 52)],[]⟩) ?_ ?_;refine cY (Kx A) (fun a=>?_) fun a=>?_;obtain ⟨H,I,a⟩:=Ka a;obtain ⟨J,K,a⟩:=Ka a;refine b5 12 [[],[],[],[],[2],[2,4],[2,4,5],[0,1,2,4,5,6],[0,1,2,4,5,6,7],[0,1,2,4,5,6,7,8],[0,1,2,4,5,6,7,8],[0,1,2,4,5,6,7,8]] [0,1,2,4,5,6,7,8] ?_;iterate 8 apply Θ
 intro bs;refine Wm ?_;refine YU I ?_;refine Y8 ?_;refine f8 (m a0 b H.gd J K) Wl ?_;refine ue ?_;iterate 3 refine uq ?_
 exact fj rfl (Y5 a);exact ZO a;intro ac L;refine Zb L fun F=>?_;refine ZM ?_;obtain ⟨l,M,N⟩:=Ka B;refine KS (Y:=Unit) (fun O=>⟨[(2,aI c),(3,.ptr e 0),(4,.ptr f 0),(8,iD i),(9,iD l.1),(10,iD l.2)],[(e,Blk.cells (dD a0 .no .no) 28),(f,Blk.cells (eE b .no .no .no) 52)],[]⟩) ?_ ?_;refine cY (Kx M) (fun a=>?_) fun a=>?_;obtain ⟨P,Q,a⟩:=Ka a;obtain ⟨U,V,a⟩:=Ka a;refine b5 12 [[],[],[],[],[2],[2,4],[2,4,5],[0,1,2,4,5,6],[0,1,2,4,5,6,7],[0,1,2,4,5,6,7,8],[0,1,2,4,5,6,7,8],[0,1,2,4,5,6,7,8]] [0,1,2,4,5,6,7,8] ?_;iterate 8 apply Θ
 intro bs;refine Wm ?_;refine YU Q ?_;refine Y8 ?_;refine f8 (m a0 b P.gr U V) Wl ?_;refine ue ?_;iterate 3 refine uq ?_
 exact fj rfl (Y5 a);exact ZO a;intro ad W;refine Zb W fun O=>?_;refine Zh ?_;refine cY N ?_ ?_<;>intro a;refine Yl ?_;refine Yr ?_;obtain rfl:=KU a;refine Zt ?_;obtain rfl:=Ke o;refine fH ?_;simp only [ς] at g;refine Ks ?_;obtain rfl:=Ke g;exact rP (t':=[(6,iD l.1),(7,iD l.2)]) [] [] 0 aU bU Za;exact Ym a;exact YA a o;intro u ae X Z;subst X;simp only [Γ] at g;refine Z9 Z fun v=>?_;refine Zi ?_;obtain rfl:=Ke g;exact rP (t':=[(6,iD 0),(7,iD 0)]) [] [] 0 aU bU Za
def KcL:Nat→((KB)→(KC)→(List Kk)→Option (Int×Int))
 | 0=>(fun _ _ _=>none)
 | n+1=>(Ci ((KcL n)))
def Ng:∀ n,(∀ (a0:KB) (a:KC) (b:List Kk) (r:Int×Int) (c:(KcL n) a0 a b=some r),Cd 109 [K5 a0,Kv a,aI b] [] [] (dJ (.tup [iD r.1,iD r.2])))
 | 0=>fun _ _ _ _ c=>by cases c
 |
  n+1=>by
  have ih:=Ng n;exact PO (KcL n) ih
def Nf:∀ n,(∀ (a0:KB) (a:KC) (b:List Kk),Le ((KcL n) a0 a b) ((KcL (n+1)) a0 a b))
 | 0=>fun _ _ _=>Le.none _
 |
  n+1=>by
  have ih:=Nf n;exact fun a0 a b=>by show Le (Ci ((KcL n)) a0 a b) (Ci ((KcL (n+1))) a0 a b);revert ih;generalize KcL n=G0;generalize KcL (n+1)=G1;intro ih;unfold Ci;repeat (first|with_reducible exact Le.refl _|with_reducible exact ih _ _ _|with_reducible assumption|(refine Le.bind ?_ (fun _=>?_))|(refine Le.cond ?_ ?_)|(refine Le.loop (fun _=>?_))|(refine Le.elim (fun _=>?_) (fun _=>?_)))
def Ha (a0:KB)(a:KC)(b:List Kk):Option (Int×Int):=gK fun n=>(KcL n) a0 a b
def Pm (a0:KB)(a:KC)(b:List Kk){r:Int×Int}(n:Nat)(h:(KcL n) a0 a b=some r):Ha a0 a b=some r:=kU (fun m=>(Nf m) a0 a b) h
def Pl (a0 a b r)(c:Ha a0 a b=some r):Cd 109 [K5 a0,Kv a,aI b] [] [] (dJ (.tup [iD r.1,iD r.2])):=
 let ⟨n,hn⟩:=kq c;(Ng n) a0 a b r hn
def Dg (a0:KB)(a:KC):Option (Int×Int):=
 (app 24 ([]:List KZ) a.gh).bind fun f=>(app 24 f a.gi).bind fun c=>κ (α:=(Unit)⊕(Int×Int)) (aE (fun (b:Int)=>bif decide (b<c.length) then (idx c b).bind fun g=>(FA a0 g.gb).bind fun h=>bif h != 0 then some (.done (.inr (a.ga,8))) else (κ (α:=(Unit)⊕(Int×Int)) (aE (fun (d:Int)=>bif decide (d<b) then (idx c d).bind fun i=>(idx c b).bind fun j=>bif decide (i.gb=j.gb) then some (.done (.inr (a.ga,8))) else some (.next (ζ.wrap (d+1))) else some (.done (.inl ()))) 0) (Ω (fun k=>some (.next (ζ.wrap (b+1)))) (fun r=>some (.done (.inr r))))) else some (.done (.inl ()))) 0) (Ω (fun l=>(Ha a0 a a.gx).bind fun e=>some (e.1,e.2)) (fun r=>some r))
def YP {R G:Prop}(h:R)(k:R→G:=by intro h;refine ZK ?_;refine Kc ?_;exact h):G:=k h
def Xx {R G:Prop}(h:R)(k:R→G:=by intro h;refine Zg ?_;refine Zf ?_;exact h):G:=k h
def Py (a0 b r)(u:Dg a0 b=some r):Cd 83 [K5 a0,Kv b] [] [] (dJ (.tup [iD r.1,iD r.2])):=by
 refine cQ u Tryz.func83 fun C a=>?_;refine Zv fun c=>?_;refine Yj fun f=>?_;refine Xx ?_;refine ZW ?_;refine pL 1 ?_;obtain ⟨X,p,a⟩:=Ka a;refine ma htab rfl rfl rfl rfl rfl rfl rfl rfl rfl rfl rfl rfl rfl rfl rfl (by simpa using tg (e:=Ku) p) fun Z=>?_;refine GD (i:=12) p rfl (pu ?_);refine ZW ?_;refine pL 1 ?_;refine Z6 a fun n v a g=>?_;refine jo (i:=16) v rfl (Zd ?_);refine ZI a fun w x j=>?_;refine fI (τ:=Unit) (Y:=Unit) (fun y z=>⟨[(2,.ptr c 0),(3,.ptr f 0)],[(c,Blk.cells (dD a0 .no .no) 28),(f,Blk.cells (eE b .no .no .no) 52)],[]⟩) w ?_ ?_;refine Zk x fun aa A o=>?_;refine d7 (Y:=Unit) A (fun l B=>⟨[(2,.ptr c 0),(3,.ptr f 0),(6,b0 n g),(7,iD l)],[(c,Blk.cells (dD a0 .no .no) 28),(f,Blk.cells (eE b .no .no .no) 52)],[(2,g)]⟩) ?_ ?_;exact Zn;intro G117 l B a;refine YT ?_;refine cY a ?_ ?_<;>intro a;refine ZE ?_;refine ZC a fun F H a=>?_;refine b5 6 [[],[],[],[1],[1,3],[1,3,4]] [0,1,3,4] ?_;iterate 4 apply Θ
 intro bs;refine e9 (KN (d:=K5 a0) 0 htab rfl rfl rfl rfl rfl) ?_;refine Y0 H ?_;refine ue ?_;refine YB ?_;refine fj rfl (bN a (MM a0 F.gb) (fun ac a=>?_));refine Zd ?_;refine cY a ?_ ?_<;>intro a;refine Ze ?_;refine pL 1 ?_;refine Yn ?_;refine YN ?_;obtain rfl:=KU a;refine Zt ?_;obtain rfl:=Ke o;refine fH ?_;simp only [ς] at j;refine Ks ?_;obtain rfl:=Ke j;exact rP (t':=[(4,iD b.ga),(5,iD 8)]) [] [] 0 aU bU Za;refine Zm ?_;refine ZQ ?_;obtain ⟨I,J,m⟩:=Ka a;refine fI (τ:=Unit) (Y:=Unit) (fun K L=>⟨[(2,.ptr c 0),(3,.ptr f 0),(6,b0 n g),(7,iD l)],[(c,Blk.cells (dD a0 .no .no) 28),(f,Blk.cells (eE b .no .no .no) 52)],[(2,g)]⟩) I ?_ ?_;refine Zk J fun ad M q=>?_;refine d7 (Y:=Unit) M (fun s N=>⟨[(2,.ptr c 0),(3,.ptr f 0),(6,b0 n g),(7,iD l),(8,iD s)],[(c,Blk.cells (dD a0 .no .no) 28),(f,Blk.cells (eE b .no .no .no) 52)],[(2,g)]⟩) ?_ ?_;exact Zn;intro G211 s N a;refine Kj (YP ?_);refine cY a ?_ ?_<;>intro a;refine ZE ?_;refine Zl a fun ae O a=>?_;obtain ⟨af,P,a⟩:=Ka a;refine b5 10 [[],[],[0],[0,2],[0,2,3],[],[],[5],[5,7],[5,7,8]] [0,2,3,5,7,8] ?_;iterate 6 apply Θ
 intro bs;refine Y0 O ?_;refine ue ?_;refine YB ?_;refine Y0 P ?_;refine ue ?_;refine YB ?_;refine YL ?_;refine cY a ?_ ?_<;>intro a;refine Ze ?_;refine pL 1 ?_;refine pu ?_;refine Zy ?_;obtain rfl:=KU a;refine Zt ?_;obtain rfl:=Ke q;refine fH ?_;simp only [ς] at m;refine YN ?_;obtain rfl:=KU m;refine Zt ?_;obtain rfl:=Ke o;refine fH ?_;simp only [ς] at j;refine Ks ?_;obtain rfl:=Ke j;exact rP (t':=[(4,iD b.ga),(5,iD 8)]) [] [] 0 aU bU Za;exact Ym a;exact YI a q;intro K ag Q U;subst Q;simp only [Γ] at m;refine KF (Zb U fun L=>?_);refine Zw ?_;exact XJ m;exact YI a o;intro y ah V W;subst V;simp only [Γ] at j;refine Zb W fun z=>?_;refine Xw ?_;refine pL (d:=Kv b) 1 ?_;refine YY ?_;refine bN j (Pl a0 b b.gx) fun t a=>?_;iterate 4 refine pu ?_
 refine Zr ?_;obtain rfl:=Ke a;exact rP (t':=[(4,iD t.1),(5,iD t.2)]) [] [] 0 aU bU Za
end
section
open Go
set_option maxRecDepth 100000
def HN (a0:KB):Option (Int×Int×Int):=
 κ (α:=Bool) (bif decide (24<(a0.gc.length:Int)) then some true else some (decide (24<(a0.gf.length:Int)))) fun h=>bif h then some (0,0,6) else κ (α:=List η) (aE (fun (a:List η×Int)=>bif decide (a.2<a0.gc.length) then (idx a0.gc a.2).bind fun i=>(app 16 a.1 ([i.gb]:List η)).bind fun j=>some (.next (j,(ζ.wrap (a.2+1)))) else some (.done a.1)) (([]:List η),0)) fun k=>κ (α:=List η) (aE (fun (b:List η×Int)=>bif decide (b.2<a0.gf.length) then (idx a0.gf b.2).bind fun l=>(app 16 b.1 ([l.gb]:List η)).bind fun m=>some (.next (m,(ζ.wrap (b.2+1)))) else some (.done b.1)) (k,0)) fun e=>κ (α:=(Unit)⊕(Int×Int×Int)) (aE (fun (c:Int)=>bif decide (c<e.length) then κ (α:=(Unit)⊕(Int×Int×Int)) (aE (fun (f:Int)=>bif decide (f<c) then (idx e f).bind fun n=>(idx e c).bind fun o=>bif decide (n=o) then some (.done (.inr (c,0,8))) else some (.next (ζ.wrap (f+1))) else some (.done (.inl ()))) 0) (Ω (fun q=>some (.next (ζ.wrap (c+1)))) (fun r=>some (.done (.inr r)))) else some (.done (.inl ()))) 0) (Ω (fun s=>κ (α:=(Unit)⊕(Int×Int×Int)) (aE (fun (d:Int)=>bif decide (d<a0.gf.length) then (idx a0.gf d).bind fun p=>(Dg a0 p).bind fun g=>bif g.2 != 0 then some (.done (.inr ((ζ.wrap ((a0.gc.length:Int)+d)),g.1,g.2))) else some (.next (ζ.wrap (d+1))) else some (.done (.inl ()))) 0) (Ω (fun t=>some (0,0,0)) (fun r=>some r))) (fun r=>some r))
def Yf {A0 A1 G:Prop}(a0:A0)(B:A1)(k:A0→A1→G:=by intro _a _b;refine K3 ?_;refine KH ?_;obtain rfl:=KU _a;refine KH ?_;refine KW ?_;obtain rfl:=Ke _b;refine ⟨rfl,?_⟩;exact WkX.of _ (wP aU)):G:=k a0 B
def WC {A0 R G:Prop}(a0:A0)(h:R)(k:A0→R→G:=by intro _a h;refine uq ?_;refine Wg _a ?_;refine e9 (zf (d:=Kv _) htab rfl rfl rfl rfl rfl) ?_;exact h):G:=k a0 h
def X4 {R G:Prop}(h:R)(k:R→G:=by intro h;refine ZE ?_;refine ZH ?_;refine Yi ?_;exact h):G:=k h
def PN (a0 r)(F:HN a0=some r):Cd 46 [K5 a0] [] [] (dJ (.tup [iD r.1,iD r.2.1,iD r.2.2])):=by
 refine cQ F Tryz.func46 fun C a=>?_;refine Zv fun b=>?_;iterate 3 refine pu ?_
 refine Kc (ZC a fun H w I=>?_);refine KS (Y:=Unit) (fun J=>⟨[(1,.ptr b 0),(22,.v (.bool H))],[(b,Blk.cells (dD a0 .no .no) 28)],[]⟩) ?_ ?_;refine Zs ?_;refine pL 0 ?_;refine Z8 ?_;refine Zg ?_;refine gW (i:=17) rfl (fun m=>?_) fun m=>?_;have a:=cD m (Kx w);exact X3 a;have a:=cE m (Kx w);refine pu ?_;refine pL 0 ?_;refine Ye ?_;exact ZF a;intro s3 K;refine Zb K fun J=>?_;refine cY I ?_ ?_<;>intro a;refine ZK ?_;refine Z4 ?_;obtain rfl:=Ke a;exact rP (t':=[(2,iD 0),(3,iD 0),(4,iD 6)]) [] [] 0 aU bU Za;refine Zm ?_;refine ZQ ?_;refine ZI a fun L M N=>?_;refine KS (fun n=>⟨[(1,.ptr b 0),(5,fS L n)],[(b,Blk.cells (dD a0 .no .no) 28)],[(1,n)]⟩) ?_ ?_;refine Zk M fun bl O P=>?_;refine d7 O (fun o p=>⟨[(1,.ptr b 0),(5,fS o.1 p),(6,iD o.2)],[(b,Blk.cells (dD a0 .no .no) 28)],[(1,p)]⟩) ?_ ?_;refine WkX.tokN (i:=5) 1 rfl fun bm=>?_;exact ZG;intro G23 o p a;refine Yo ?_;refine cY a ?_ ?_<;>intro a;refine X4 ?_;refine Zq a fun Q bn a=>?_;refine YD ?_;refine Zo ?_;refine bA (i:=37) (d':=cG [Q.gb]) rfl aU (Z6 a fun bo U a bp=>?_);refine jo (i:=38) U rfl (pu ?_);exact Xk a;exact Yf a P;intro bq V;refine Zb V fun n=>?_;refine ZI N fun f W X=>?_;refine KS (fun c=>⟨[(1,.ptr b 0),(5,fS f c)],[(b,Blk.cells (dD a0 .no .no) 28)],[(1,c)]⟩) ?_ ?_;refine Zk W fun br Z aa=>?_;refine d7 Z (fun q s=>⟨[(1,.ptr b 0),(5,fS q.1 s),(7,iD q.2)],[(b,Blk.cells (dD a0 .no .no) 28)],[(1,s)]⟩) ?_ ?_;exact ZG;intro G50 q s a;refine Yo ?_;refine cY a ?_ ?_<;>intro a;refine X4 ?_;refine Zq a fun ac bu a=>?_;refine YD ?_;refine Zo ?_;refine bA (i:=53) (d':=cG [ac.gb]) rfl aU (Z6 a fun bv ad a bw=>?_);refine jo (i:=54) ad rfl (pu ?_);exact Xk a;exact Yf a aa;intro bx ae;refine Zb ae fun c=>?_;refine ZI X fun af ag g=>?_;refine fI (τ:=Unit) (Y:=Unit) (fun ah ai=>⟨[(1,.ptr b 0)],[(b,Blk.cells (dD a0 .no .no) 28)],[]⟩) af ?_ ?_;refine Zk ag fun bz aj x=>?_;refine d7 (Y:=Unit) aj (fun e ak=>⟨[(1,.ptr b 0),(5,fS f c),(8,iD e)],[(b,Blk.cells (dD a0 .no .no) 28)],[(1,c)]⟩) ?_ ?_;exact Zn;intro G164 e ak a;refine YT ?_;refine cY a ?_ ?_<;>intro a;refine ZE ?_;refine ZQ ?_;obtain ⟨al,am,j⟩:=Ka a;refine fI (τ:=Unit) (Y:=Unit) (fun an ao=>⟨[(1,.ptr b 0),(5,fS f c),(8,iD e)],[(b,Blk.cells (dD a0 .no .no) 28)],[(1,c)]⟩) al ?_ ?_;refine Zk am fun ca ap y=>?_;refine d7 (Y:=Unit) ap (fun z aq=>⟨[(1,.ptr b 0),(5,fS f c),(8,iD e),(9,iD z)],[(b,Blk.cells (dD a0 .no .no) 28)],[(1,c)]⟩) ?_ ?_;exact Zn;intro G248 z aq a;refine Kj (YP ?_);refine cY a ?_ ?_<;>intro a;refine ZE ?_;refine Zl a fun cb ar a=>?_;obtain ⟨cc,au,a⟩:=Ka a;refine b5 8 [[],[],[0],[0,2],[],[],[4],[4,6]] [0,2,4,6] ?_;iterate 4 apply Θ
 intro bs;refine Y0 ar ?_;refine YB ?_;refine Y0 au ?_;refine YB ?_;refine YL ?_;refine cY a ?_ ?_<;>intro a;refine Yl ?_;refine Yr ?_;obtain rfl:=KU a;refine Zt ?_;obtain rfl:=Ke y;refine fH ?_;simp only [ς] at j;refine YN ?_;obtain rfl:=KU j;refine Zt ?_;obtain rfl:=Ke x;refine fH ?_;simp only [ς] at g;refine Ks ?_;obtain rfl:=Ke g;exact rP (t':=[(2,iD e),(3,iD 0),(4,iD 8)]) [] [] 0 aU bU Za;exact Ym a;exact YI a y;intro an cd av aw;subst av;simp only [Γ] at j;refine KF (Zb aw fun ao=>?_);refine Zw ?_;exact XJ j;exact YI a x;intro ah ce ax ay;subst ax;simp only [Γ] at g;refine Zb ay fun ai=>?_;refine ZI g fun az ba l=>?_;refine fI (τ:=Unit) (Y:=Unit) (fun bb bc=>⟨[],[],[]⟩) az ?_ ?_;refine Zk ba fun cf bd A=>?_;refine d7 (Y:=Unit) bd (fun t be=>⟨[(1,.ptr b 0),(10,iD t)],[(b,Blk.cells (dD a0 .no .no) 28)],[]⟩) ?_ ?_;exact Zn;intro G281 t be a;refine Yo ?_;refine cY a ?_ ?_<;>intro a;refine ZE ?_;refine Zl a fun bf bg a=>?_;obtain ⟨u,bh,a⟩:=Ka a;refine b5 11 [[],[],[1],[],[1,2],[1,2,4],[0,1,2,4,5],[0,1,2,4,5,6],[0,1,2,4,5,6,7],[0,1,2,4,5,6,7],[0,1,2,4,5,6,7]] [0,1,2,4,5,6,7] ?_;iterate 7 apply Θ
 intro bs;refine e9 (KN (d:=K5 a0) 0 htab rfl rfl rfl rfl rfl) ?_;refine Z1 ?_;refine WC bg ?_;refine f8 (Py a0 bf u bh) Wl ?_;refine ue ?_;iterate 3 refine uq ?_
 refine fj rfl (YK ?_);refine Zd ?_;refine cY a ?_ ?_<;>intro a;refine ZB ?_;refine Z8 ?_;iterate 7 refine pu ?_
 refine Yr ?_;obtain rfl:=KU a;refine Zt ?_;obtain rfl:=Ke A;refine fH ?_;simp only [ς] at l;refine Ks ?_;obtain rfl:=Ke l;exact rP (t':=[(2,iD (ζ.wrap ((a0.gc.length:Int)+t))),(3,iD u.1),(4,iD u.2)]) [] [] 0 aU bU Za;exact Ym a;exact YA a A;intro bb cg bi bj;subst bi;simp only [Γ] at l;refine Zb bj fun bc=>?_;refine ZK ?_;refine Zr ?_;obtain rfl:=Ke l;exact rP (t':=[(2,iD 0),(3,iD 0),(4,iD 0)]) [] [] 0 aU bU Za
end
end Go.Proofs.YticifeeokcgfkaaGreatDoor.Ab