/- The texts that storeRight_holds leans on, part 3. -/
import Derived.Test.YtipfljkjjddapaaGreatVb2
set_option maxRecDepth 100000
set_option maxHeartbeats 80000000
noncomputable section
namespace Go.Proofs.YtipfljkjjddapaaGreat.Ab
section
open Go
set_option linter.all false
section
variable {P : Program} {C : Ctx} {N : Nat} {ops rest : List Oper} {o : Oper} {t : List (Nat × D)} {h : List (Nat × Blk)} {k : List (Nat × Value)} {Q : Exit → S → Prop}
theorem Kg {id:Nat}{ops:List Oper}{y:Code}{s:S}(g:opsD P C N ops ops s (thenD (fun s'=>wpD P C N y s' Q) Q)):wpD P C N (.seq (.region id ops.toArray false) y) s Q:=Kk (Kx g)
theorem Ke {next:S→Prop}{s:S}(g:next s):opsD P C N ops [] s (thenD next Q):=Kz (Kd g)
theorem KH {id:Nat}{ops2:List Oper}{y:Code}{s:S}{Q':Exit→S→Prop}(g:opsD P C N ops2 ops2 s (thenD (fun s'=>wpD P C N y s' Q) Q)):opsD P C N ops [] s (thenD (fun s'=>wpD P C N (.seq (.region id ops2.toArray false) y) s' Q) Q'):=Ke (Kg g)
theorem pu {i:Nat}{d:D}(g:opsD Tryz.prog C N ops rest ⟨(i,d)::t,h,k⟩ Q)(hw:wantD ops t o=some true:=by rfl)(hd:o.dst=some i:=by rfl)(hi:Nat.blt i N=true:=by rfl)(e:evP tab t o.op=some d:=by rfl):opsD Tryz.prog C N ops (o::rest) ⟨t,h,k⟩ Q:=KcE htab hw hd hi e g
theorem p_st0 {hr:List (Nat×Blk)}{b off:Nat}{T T':TypeId}{x y:Operand}{ds ds':List D}{ti0:TI}{d:D}(ho:o.op=.store T x y)(hw:wantD ops t o=some true)(hd:o.dst=none)(hx:opD t x=some (.ptr b off))(hT:ti tab T=some ti0)(hy:opD t y=some d)(hs:stor d=true)(hsz:Nat.beq (K9 d).length ti0.size=true)(hle:Nat.ble (off+ti0.size) ds.length=true)(e:lay ds off (K9 d)=ds')(g:opsD Tryz.prog C N ops rest ⟨t,(b,.cells ds' T')::hr,k⟩ Q):opsD Tryz.prog C N ops (o::rest) ⟨t,(b,.cells ds T')::hr,k⟩ Q:=Kjx 0 htab ho hw hd hx rfl hT hy hs hsz hle e rfl g
theorem WkS.bl0 {hr:List (Nat×Blk)}{b:Nat}{ds ds':List D}{T:TypeId}(hw:WkR ds ds'):WkS C ⟨t,(b,.cells ds T)::hr,k⟩ ⟨t,(b,.cells ds' T)::hr,k⟩:=WkS.blk 0 rfl hw rfl
theorem p_st1 {a0:Nat×Blk}{hr:List (Nat×Blk)}{b off:Nat}{T T':TypeId}{x y:Operand}{ds ds':List D}{ti0:TI}{d:D}(ho:o.op=.store T x y)(hw:wantD ops t o=some true)(hd:o.dst=none)(hx:opD t x=some (.ptr b off))(hT:ti tab T=some ti0)(hy:opD t y=some d)(hs:stor d=true)(hsz:Nat.beq (K9 d).length ti0.size=true)(hle:Nat.ble (off+ti0.size) ds.length=true)(e:lay ds off (K9 d)=ds')(g:opsD Tryz.prog C N ops rest ⟨t,a0::(b,.cells ds' T')::hr,k⟩ Q):opsD Tryz.prog C N ops (o::rest) ⟨t,a0::(b,.cells ds T')::hr,k⟩ Q:=Kjx 1 htab ho hw hd hx rfl hT hy hs hsz hle e rfl g
theorem WkS.bl1 {a0:Nat×Blk}{hr:List (Nat×Blk)}{b:Nat}{ds ds':List D}{T:TypeId}(hw:WkR ds ds'):WkS C ⟨t,a0::(b,.cells ds T)::hr,k⟩ ⟨t,a0::(b,.cells ds' T)::hr,k⟩:=WkS.blk 1 rfl hw rfl
theorem p_st2 {a0 a1:Nat×Blk}{hr:List (Nat×Blk)}{b off:Nat}{T T':TypeId}{x y:Operand}{ds ds':List D}{ti0:TI}{d:D}(ho:o.op=.store T x y)(hw:wantD ops t o=some true)(hd:o.dst=none)(hx:opD t x=some (.ptr b off))(hT:ti tab T=some ti0)(hy:opD t y=some d)(hs:stor d=true)(hsz:Nat.beq (K9 d).length ti0.size=true)(hle:Nat.ble (off+ti0.size) ds.length=true)(e:lay ds off (K9 d)=ds')(g:opsD Tryz.prog C N ops rest ⟨t,a0::a1::(b,.cells ds' T')::hr,k⟩ Q):opsD Tryz.prog C N ops (o::rest) ⟨t,a0::a1::(b,.cells ds T')::hr,k⟩ Q:=Kjx 2 htab ho hw hd hx rfl hT hy hs hsz hle e rfl g
theorem WkS.bl2 {a0 a1:Nat×Blk}{hr:List (Nat×Blk)}{b:Nat}{ds ds':List D}{T:TypeId}(hw:WkR ds ds'):WkS C ⟨t,a0::a1::(b,.cells ds T)::hr,k⟩ ⟨t,a0::a1::(b,.cells ds' T)::hr,k⟩:=WkS.blk 2 rfl hw rfl
theorem p_st3 {a0 a1 a2:Nat×Blk}{hr:List (Nat×Blk)}{b off:Nat}{T T':TypeId}{x y:Operand}{ds ds':List D}{ti0:TI}{d:D}(ho:o.op=.store T x y)(hw:wantD ops t o=some true)(hd:o.dst=none)(hx:opD t x=some (.ptr b off))(hT:ti tab T=some ti0)(hy:opD t y=some d)(hs:stor d=true)(hsz:Nat.beq (K9 d).length ti0.size=true)(hle:Nat.ble (off+ti0.size) ds.length=true)(e:lay ds off (K9 d)=ds')(g:opsD Tryz.prog C N ops rest ⟨t,a0::a1::a2::(b,.cells ds' T')::hr,k⟩ Q):opsD Tryz.prog C N ops (o::rest) ⟨t,a0::a1::a2::(b,.cells ds T')::hr,k⟩ Q:=Kjx 3 htab ho hw hd hx rfl hT hy hs hsz hle e rfl g
theorem p_st4 {a0 a1 a2 a3:Nat×Blk}{hr:List (Nat×Blk)}{b off:Nat}{T T':TypeId}{x y:Operand}{ds ds':List D}{ti0:TI}{d:D}(ho:o.op=.store T x y)(hw:wantD ops t o=some true)(hd:o.dst=none)(hx:opD t x=some (.ptr b off))(hT:ti tab T=some ti0)(hy:opD t y=some d)(hs:stor d=true)(hsz:Nat.beq (K9 d).length ti0.size=true)(hle:Nat.ble (off+ti0.size) ds.length=true)(e:lay ds off (K9 d)=ds')(g:opsD Tryz.prog C N ops rest ⟨t,a0::a1::a2::a3::(b,.cells ds' T')::hr,k⟩ Q):opsD Tryz.prog C N ops (o::rest) ⟨t,a0::a1::a2::a3::(b,.cells ds T')::hr,k⟩ Q:=Kjx 4 htab ho hw hd hx rfl hT hy hs hsz hle e rfl g
end
section
variable {P : Program} {C : Ctx} {N : Nat} {l : List Oper} {m : Nat} {De : Nat → D} {al : AL} {pre : List (List Nat)} {ev : List Nat} {h : List (Nat × Blk)} {k : List (Nat × Value)} {Q : Exit → S → Prop} {bs : Nat → Nat} {i : Nat} {o : Oper} {rest : List Oper} {te : TE}
theorem zqp {j:Nat}{x:Value}{p:List Nat}{t:List (Nat×D)}(g:Zw Tryz.prog C N l m De al pre ev h k Q bs (i+1) rest ((j,.v x,none)::te))(hp:pre.getD i []=p:=by rfl)(ht:vis p te=t:=by rfl)(hx:evP tab t o.op=some (.v x):=by rfl)(hw:wantD l (vis [] te) o=some true:=by rfl)(hd:o.dst=some j:=by rfl)(hi:Nat.blt j N=true:=by rfl)(hne:ev.contains i=false:=by rfl)(hone:one x=true:=by rfl)(hpe:p.all ev.contains=true:=by rfl):Zw Tryz.prog C N l m De al pre ev h k Q bs i (o::rest) te:=
 z_q hp ht (Kad htab hx) hw hd hi hne hone hpe g
theorem zep {j:Nat}{p:List Nat}{t:List (Nat×D)}{d:D}(g:Zw Tryz.prog C N l m De al pre ev h k Q bs (i+1) rest ((j,d,some i)::te))(hp:pre.getD i []=p:=by rfl)(ht:vis p te=t:=by rfl)(hx:evP tab t o.op=some d:=by rfl)(hw:wantD l (vis [] te) o=some true:=by rfl)(hd:o.dst=some j:=by rfl)(hi:Nat.blt j N=true:=by rfl)(he:ev.contains i=true:=by rfl)(hna:isAl al i=false:=by rfl)(hDe:De i=d:=by rfl):Zw Tryz.prog C N l m De al pre ev h k Q bs i (o::rest) te:=
 z_e hp ht (Kad htab hx) hw hd hi he hna hDe g
end
def pickE {α:Type}:List Nat→List α→List α
 | [],_=>[]
 |
  j::js,l=>match l[j]? with
  | some x=>x::pickE js (l.eraseIdx j)
  | none=>[]
def restE {α:Type}:List Nat→List α→List α
 | [],l=>l
 |
  j::js,l=>match l[j]? with
  | some _=>restE js (l.eraseIdx j)
  | none=>l
theorem Kkf {α:Type}:∀ (js:List Nat) (l:List α),l.Perm (pickE js l++restE js l)
 | [],l=>List.Perm.refl _
 |
  j::js,l=>by
  unfold pickE restE;cases h:l[j]? with
  | none=>exact List.Perm.refl _
  | some x=>exact (Kaq h).trans ((Kkf js (l.eraseIdx j)).cons x)
section
variable {P : Program} {C : Ctx} {N : Nat} {ops rest : List Oper} {o : Oper} {t : List (Nat × D)} {h : List (Nat × Blk)} {k : List (Nat × Value)} {Q : Exit → S → Prop}
theorem rP {rs:List ResultVar}{R:D→List (Nat×Blk)→List (Nat×Value)→Prop}{x:Exit}{t':List (Nat×D)}{ds:List D}(js ks:List Nat)(n:Nat)(e:∀ i d,look t' i=some d→∃ d0,look t i=some d0∧Wk d0 d)(hr:resL tab ⟨t',pickE js h,pickE ks k⟩ rs ds)(g:R (wrapD ds) ((pickE js h).take n) (pickE ks k))(hx:x=.ret∨x=.normal:=by first|exact .inl rfl|exact .inr rfl):retX C tab rs R x ⟨t,h,k⟩:=
 retX.of (s':=⟨t',pickE js h,pickE ks k⟩) (WkS.perm e (Kkf js h) (Kkf ks k)) (KfK hx hr (List.take_sublist n _) (List.Sublist.refl _) g)
theorem wC {t t':List (Nat×D)}{j:Nat}{d0:D}(g:∀ i d,look t' i=some d→∃ d1,look t i=some d1∧Wk d1 d)(h0:look t j=some d0:=by rfl):∀ i d,look ((j,d0)::t') i=some d→∃ d1,look t i=some d1∧Wk d1 d:=WkS.cons h0 (Wk.refl _) g
theorem wN {t:List (Nat×D)}:∀ i d,look [] i=some d→∃ d0,look t i=some d0∧Wk d0 d:=WkS.nil
theorem lN {s:S}:resL tab s [] []:=rfl
theorem lT {s:S}{i:Nat}{rs:List ResultVar}{d:D}{ds:List D}(h2:resL tab s rs ds)(h1:look s.t i=some d:=by rfl):resL tab s (.tmp i::rs) (d::ds):=KdK (Kdy h1) h2
theorem lC {s:S}{a b off:Nat}{T T':TypeId}{ds:List D}{i:TI}{d:D}{rs:List ResultVar}{ds':List D}(j:Nat)(hr:resL tab s rs ds')(h1:look s.t a=some (.ptr b off):=by rfl)(h2:s.h[j]? = some (b,Blk.cells ds T'):=by rfl)(h3:ti tab T=some i:=by rfl)(h4:partD i ds off=some d:=by rfl):resL tab s (.cell a T::rs) (d::ds'):=KdK (Knr j h1 h2 h3 h4) hr
theorem rC {d:D}{ds ds':List D}(g:WkR ds ds'):WkR (d::ds) (d::ds'):=WkR.cons (WkC.refl _) rfl g
theorem rO {ds ds':List D}{kk:Nat}{xs:List D}{c:Cap}(g:WkR ds ds'):WkR (.lst kk xs c::ds) (.lst kk xs .no::ds'):=WkR.cons WkC.no rfl g
theorem Pf {α:Type}{l:List α}:l.Perm l:=List.Perm.refl l
theorem Wl {ds:List D}:WkL ds ds:=WkL.refl ds
theorem pL {i b off:Nat}{T T':TypeId}{x:Operand}{ds:List D}{ti0:TI}{d:D}(j:Nat)(g:opsD Tryz.prog C N ops rest ⟨(i,d)::t,h,k⟩ Q)(ho:o.op=.load T x:=by rfl)(hw:wantD ops t o=some true:=by rfl)(hd:o.dst=some i:=by rfl)(hi:Nat.blt i N=true:=by rfl)(hx:opD t x=some (.ptr b off):=by rfl)(hb:h[j]? = some (b,.cells ds T'):=by rfl)(hT:ti tab T=some ti0:=by rfl)(e:partD ti0 ds off=some d:=by rfl):opsD Tryz.prog C N ops (o::rest) ⟨t,h,k⟩ Q:=KX j htab ho hw hd hi hx hb hT e g
theorem pG {f:FuncId}{args:List Operand}{ts:Array TypeId}{i:Nat}{ds ds':List D}{h1 h2:List (Nat×Blk)}{k1 k2:List (Nat×Value)}{R:D→List (Nat×Blk)→List (Nat×Value)→Prop}(hc:CallsD Tryz.prog f ds' h1 k1 R)(hwk:WkL ds ds')(hh:h.Perm (h1++h2))(hk:k.Perm (k1++k2))(g:∀ d h' k',R d h' k'→opsD Tryz.prog C N ops rest ⟨(i,d)::t,h'++h2,k'++k2⟩ Q)(ho:o.op=.call ⟨.value (.func f),args.toArray,ts⟩:=by rfl)(hw:wantD ops t o=some true:=by rfl)(hd:o.dst=some i:=by rfl)(hi:Nat.blt i N=true:=by rfl)(ha:KbJ args (opD t)=some ds:=by rfl):opsD Tryz.prog C N ops (o::rest) ⟨t,h,k⟩ Q:=KaP hc ho hw hd hi ha hwk hh hk g
theorem pK {i:Nat}(g:opsD Tryz.prog C N ops rest ⟨(i,.v (.tuple #[]))::t,h,k⟩ Q)(hw:wantD ops t o=some false:=by rfl)(hd:o.dst=some i:=by rfl)(hi:Nat.blt i N=true:=by rfl):opsD Tryz.prog C N ops (o::rest) ⟨t,h,k⟩ Q:=p_skip hw hd hi g
theorem pS0 {hr:List (Nat×Blk)}{b off:Nat}{T T':TypeId}{x y:Operand}{ds ds':List D}{ti0:TI}{d:D}(g:opsD Tryz.prog C N ops rest ⟨t,(b,.cells ds' T')::hr,k⟩ Q)(ho:o.op=.store T x y:=by rfl)(hw:wantD ops t o=some true:=by rfl)(hd:o.dst=none:=by rfl)(hx:opD t x=some (.ptr b off):=by rfl)(hT:ti tab T=some ti0:=by rfl)(hy:opD t y=some d:=by rfl)(hs:stor d=true:=by rfl)(hsz:Nat.beq (K9 d).length ti0.size=true:=by rfl)(hle:Nat.ble (off+ti0.size) ds.length=true:=by rfl)(e:lay ds off (K9 d)=ds':=by rfl):opsD Tryz.prog C N ops (o::rest) ⟨t,(b,.cells ds T')::hr,k⟩ Q:=p_st0 ho hw hd hx hT hy hs hsz hle e g
theorem pS1 {a0:Nat×Blk}{hr:List (Nat×Blk)}{b off:Nat}{T T':TypeId}{x y:Operand}{ds ds':List D}{ti0:TI}{d:D}(g:opsD Tryz.prog C N ops rest ⟨t,a0::(b,.cells ds' T')::hr,k⟩ Q)(ho:o.op=.store T x y:=by rfl)(hw:wantD ops t o=some true:=by rfl)(hd:o.dst=none:=by rfl)(hx:opD t x=some (.ptr b off):=by rfl)(hT:ti tab T=some ti0:=by rfl)(hy:opD t y=some d:=by rfl)(hs:stor d=true:=by rfl)(hsz:Nat.beq (K9 d).length ti0.size=true:=by rfl)(hle:Nat.ble (off+ti0.size) ds.length=true:=by rfl)(e:lay ds off (K9 d)=ds':=by rfl):opsD Tryz.prog C N ops (o::rest) ⟨t,a0::(b,.cells ds T')::hr,k⟩ Q:=p_st1 ho hw hd hx hT hy hs hsz hle e g
theorem pS2 {a0 a1:Nat×Blk}{hr:List (Nat×Blk)}{b off:Nat}{T T':TypeId}{x y:Operand}{ds ds':List D}{ti0:TI}{d:D}(g:opsD Tryz.prog C N ops rest ⟨t,a0::a1::(b,.cells ds' T')::hr,k⟩ Q)(ho:o.op=.store T x y:=by rfl)(hw:wantD ops t o=some true:=by rfl)(hd:o.dst=none:=by rfl)(hx:opD t x=some (.ptr b off):=by rfl)(hT:ti tab T=some ti0:=by rfl)(hy:opD t y=some d:=by rfl)(hs:stor d=true:=by rfl)(hsz:Nat.beq (K9 d).length ti0.size=true:=by rfl)(hle:Nat.ble (off+ti0.size) ds.length=true:=by rfl)(e:lay ds off (K9 d)=ds':=by rfl):opsD Tryz.prog C N ops (o::rest) ⟨t,a0::a1::(b,.cells ds T')::hr,k⟩ Q:=p_st2 ho hw hd hx hT hy hs hsz hle e g
theorem pS3 {a0 a1 a2:Nat×Blk}{hr:List (Nat×Blk)}{b off:Nat}{T T':TypeId}{x y:Operand}{ds ds':List D}{ti0:TI}{d:D}(g:opsD Tryz.prog C N ops rest ⟨t,a0::a1::a2::(b,.cells ds' T')::hr,k⟩ Q)(ho:o.op=.store T x y:=by rfl)(hw:wantD ops t o=some true:=by rfl)(hd:o.dst=none:=by rfl)(hx:opD t x=some (.ptr b off):=by rfl)(hT:ti tab T=some ti0:=by rfl)(hy:opD t y=some d:=by rfl)(hs:stor d=true:=by rfl)(hsz:Nat.beq (K9 d).length ti0.size=true:=by rfl)(hle:Nat.ble (off+ti0.size) ds.length=true:=by rfl)(e:lay ds off (K9 d)=ds':=by rfl):opsD Tryz.prog C N ops (o::rest) ⟨t,a0::a1::a2::(b,.cells ds T')::hr,k⟩ Q:=p_st3 ho hw hd hx hT hy hs hsz hle e g
theorem pS4 {a0 a1 a2 a3:Nat×Blk}{hr:List (Nat×Blk)}{b off:Nat}{T T':TypeId}{x y:Operand}{ds ds':List D}{ti0:TI}{d:D}(g:opsD Tryz.prog C N ops rest ⟨t,a0::a1::a2::a3::(b,.cells ds' T')::hr,k⟩ Q)(ho:o.op=.store T x y:=by rfl)(hw:wantD ops t o=some true:=by rfl)(hd:o.dst=none:=by rfl)(hx:opD t x=some (.ptr b off):=by rfl)(hT:ti tab T=some ti0:=by rfl)(hy:opD t y=some d:=by rfl)(hs:stor d=true:=by rfl)(hsz:Nat.beq (K9 d).length ti0.size=true:=by rfl)(hle:Nat.ble (off+ti0.size) ds.length=true:=by rfl)(e:lay ds off (K9 d)=ds':=by rfl):opsD Tryz.prog C N ops (o::rest) ⟨t,a0::a1::a2::a3::(b,.cells ds T')::hr,k⟩ Q:=p_st4 ho hw hd hx hT hy hs hsz hle e g
end
section
variable {P : Program} {C : Ctx} {N : Nat} {l : List Oper} {m : Nat} {De : Nat → D} {al : AL} {pre : List (List Nat)} {ev : List Nat} {h : List (Nat × Blk)} {k : List (Nat × Value)} {Q : Exit → S → Prop} {bs : Nat → Nat} {i : Nat} {o : Oper} {rest : List Oper} {te : TE}
theorem zK {j:Nat}(g:Zw Tryz.prog C N l m De al pre ev h k Q bs (i+1) rest ((j,.v (.tuple #[]),none)::te))(hw:wantD l (vis [] te) o=some false:=by rfl)(hd:o.dst=some j:=by rfl)(hi:Nat.blt j N=true:=by rfl)(hne:ev.contains i=false:=by rfl):Zw Tryz.prog C N l m De al pre ev h k Q bs i (o::rest) te:=z_skip hw hd hi hne g
end
theorem wpDcY {P:Program}{C:Ctx}{N:Nat}{s:S}{Q:Exit→S→Prop}{α:Type}{φ:α→Prop}{m1 m2:Option α}{c:Operand}{x y:Code}{b:Bool}(hm:Yes (bif b then m1 else m2) φ)(hc:opD s.t c=some (.v (.bool b)))(ht:Yes m1 φ→wpD P C N x s Q)(hf:Yes m2 φ→wpD P C N y s Q):wpD P C N (.cond c x y) s Q:=
 Kgd hc (fun h=>ht (yes_t h hm)) (fun h=>hf (yes_f h hm))
theorem cY {P:Program}{C:Ctx}{N:Nat}{s:S}{Q:Exit→S→Prop}{α:Type}{φ:α→Prop}{m1 m2:Option α}{c:Operand}{x y:Code}{b:Bool}(hm:Yes (bif b then m1 else m2) φ)(ht:Yes m1 φ→wpD P C N x s Q)(hf:Yes m2 φ→wpD P C N y s Q)(hc:opD s.t c=some (.v (.bool b)):=by rfl):wpD P C N (.cond c x y) s Q:=wpDcY hm hc ht hf
theorem wO {C:Ctx}{s:S}{S1:Unit→S}(h:WkS C s (S1 ())):WkX C s S1:=WkX.of () h
theorem wP {C:Ctx}{t t':List (Nat×D)}{h h' hj:List (Nat×Blk)}{k k' kj:List (Nat×Value)}(e:∀ i d,look t' i=some d→∃ d0,look t i=some d0∧Wk d0 d)(hh:h.Perm (h'++hj):=by exact Pf)(hk:k.Perm (k'++kj):=by exact Pf):WkS C ⟨t,h,k⟩ ⟨t',h',k'⟩:=WkS.perm e hh hk
end
section
open Go
set_option linter.all false
def KbB (Zc:Int×Int→List PanicEntry){ρ:Type}(P:Program)(f:FuncId)(ds:List D)(h:List (Nat×Blk))(k:List (Nat×Value))(pr:(Int×Int)⊕ρ)(R:ρ→D→List (Nat×Blk)→List (Nat×Value)→Prop):Prop:=
 match pr with
 | .inr r=>CallsD P f ds h k (R r)
 |
  .inl pe=>Goes P f∧∀ H w vs,RepsV H ds vs→Ag H w→(∀ p∈h,BlkOK H w p)→(∀ p∈k,TokOK H w p)→(KR h k).Nodup →
  Calls P f vs.toArray w fun e w'=>e=.panicked (Zc pe)∧∃ H',Core ⟨H,w,KR h k⟩ H' [] [] w'
def retP (Zc:Int×Int→List PanicEntry){ρ:Type}(C:Ctx)(tab:List (Option TI))(rs:List ResultVar)(R:ρ→D→List (Nat×Blk)→List (Nat×Value)→Prop)(pr:(Int×Int)⊕ρ)(x:Exit)(s:S):Prop:=
 match pr with
 | .inr r=>retX C tab rs (R r) x s
 | .inl pe=>x=.panic (Zc pe)
section
variable {Zc : Int × Int → List PanicEntry} {ρ : Type} {P : Program} {C : Ctx} {N : Nat} {tab : List (Option TI)} {ops rest : List Oper} {o : Oper} {t : List (Nat × D)} {h : List (Nat × Blk)} {k : List (Nat × Value)} {Q : Exit → S → Prop}
theorem Kca {R:ρ→D→List (Nat×Blk)→List (Nat×Value)→Prop}{rs:List ResultVar}{r:ρ}{x:Exit}{s:S}(g:retX C tab rs (R r) x s):retP Zc C tab rs R (.inr r) x s:=g
theorem KaB {R:ρ→D→List (Nat×Blk)→List (Nat×Value)→Prop}{rs:List ResultVar}{pe:Int×Int}{s:S}:retP Zc C tab rs R (.inl pe) (.panic (Zc pe)) s:=rfl
theorem K3 {next:S→Prop}{s:S}{c:List PanicEntry}(g:Q (.panic c) s):thenD next Q (.panic c) s:=g
theorem Kay {s:S}{j:Nat}{c:List PanicEntry}(g:Q (.panic c) s):Kh9 j Q (.panic c) s:=g
theorem Kap {τ ρ' Y:Type}{S1:τ→Y→S}{s:S}{r:ρ'}{c:List PanicEntry}(g:Q (.panic c) s):midX C S1 Q (.inr r) (.panic c) s:=g
theorem KfX {R:ρ→D→List (Nat×Blk)→List (Nat×Value)→Prop}{pr:(Int×Int)⊕ρ}(ht:TabOK P tab){f:FuncId}{fn:Func}{c:Code}{ds:List D}{rs:List ResultVar}
  (hf : P.funcs[f]? = some fn) (hb : fn.body = some c) (hn : (fn.name == "runtime.NumGoroutine") = false) {N : Nat} (hN : fn.ntmps = N) (hl : Nat.ble ds.length N = true) (hrs : fn.results.toList = rs)
  (hw:∀ C,wpD P C N c ⟨argT 0 ds,h,k⟩ (retP Zc C tab rs R pr)):KbB Zc P f ds h k pr R:=by
 cases pr with
 | inr r=>exact KT ht hf hb hn hN hl hrs hw
 |
  inl pe=>
  subst hN;subst hrs;refine ⟨⟨fn,hf,hn,by simp [hb]⟩,fun H w vs h1 h2 h3 h4 h5=>?_⟩;have hlen:=KgH h1;have hle:=Nat.le_of_ble_eq_true hl;refine calls_of_wp hf hb (wp_mono (hw ⟨H,w,KR h k⟩ _ _ ⟨H,?_,?_,?_,rfl⟩) ?_)
  ·exact ⟨h2,Hp.le_refl H,fun _ _ x=>.inl x,fun _ _ _=>rfl,Nat.le_refl _,h3,h4,h5,fun b hb=>.inl hb,Env.refl w⟩
  ·intro i d e;obtain ⟨n,rfl,hn⟩:=KkT ds 0 i d e;obtain ⟨u,h6,h7⟩:=Ki0 h1 hn;refine ⟨u,?_,h7⟩;have hlt:n < vs.length:=(List.getElem?_eq_some_iff.1 h6).1;simp only [Nat.zero_add];rw [Array.getElem?_append_left (by simpa using hlt)];simpa using h6
  ·simp;omega
  rintro e a' w' ⟨s',⟨H',c',k',hN,hdf⟩,hx⟩;have hx':e=.panic (Zc pe):=hx;subst hx';exact ⟨hdf,rfl,H',c'.drop (List.nil_sublist _) (List.nil_sublist _)⟩
theorem KaV {f:FuncId}{args:List Operand}{ts:Array TypeId}{ds ds':List D}{h1 h2:List (Nat×Blk)}{k1 k2:List (Nat×Value)}{pe:Int×Int}{R:ρ→D→List (Nat×Blk)→List (Nat×Value)→Prop}
  (hc:KbB Zc P f ds' h1 k1 (.inl pe) R) (ho:o.op=.call ⟨.value (.func f),args.toArray,ts⟩) (hw:wantD ops t o=some true) (ha:KbJ args (opD t)=some ds) (hwk:WkL ds ds')
  (hh:h.Perm (h1++h2)) (hk:k.Perm (k1++k2)) (g:Q (.panic (Zc pe)) ⟨[],[],[]⟩):opsD P C N ops (o::rest) ⟨t,h,k⟩ Q:=by
 rintro a w ⟨H,c,kt,hN,hdf⟩;obtain ⟨hg,hc⟩:=hc;unfold wpList;rw [KaL kt hw,if_pos rfl];refine .inl ?_;unfold Oper.wp;rw [KdT ho hg,Oper.upon_enter];have c0:=c.perm hh hk;have nd:=(Kbz h1 h2 k1 k2).nodup_iff.1 c0.nd;rw [List.nodup_append] at nd;have hv:=hwk H _ (KbY kt ha);have:=hc H w _ hv c.ag (fun p hp=>c0.blks p (List.mem_append_left _ hp)) (fun p hp=>c0.toks p (List.mem_append_left _ hp)) nd.1;rw [List.map_toArray];refine this.mono ?_;rintro e w' ⟨rfl,H',hcore⟩;simp only [];refine ⟨⟨[],[],[]⟩,⟨H',?_,fun i d e=>by simp [look] at e,hN,hdf⟩,g⟩;have:=Core.call (h1':=[]) (k1':=[]) c0 hcore
 exact this.drop (List.nil_sublist _) (List.nil_sublist _)
end
end
section
open Go
set_option linter.all false
theorem Kkg {H:Hp}{k:Nat}:∀ (n:Nat) {xs:List D} {us:List Value},FlatR H k xs us→∃ u1 u2,us=u1++u2∧FlatR H k (xs.take n) u1∧FlatR H k (xs.drop n) u2
 | 0,xs,us,h=>⟨[],us,rfl,rfl,h⟩
 |
  n+1,[],us,h=>by
  have:us=[]:=h;subst this;exact ⟨[],[],rfl,rfl,rfl⟩
 |
  n+1,x::xs,us,h=>by
  obtain ⟨v1,v2,rfl,hl,h1,h3⟩:=h;obtain ⟨u1,u2,rfl,h4,h5⟩:=Kkg n h3;exact ⟨v1++u1,u2,by simp,⟨v1,u1,rfl,hl,h1,h4⟩,h5⟩
section
variable {P : Program} {C : Ctx} {N : Nat} {ops rest : List Oper} {o : Oper} {t : List (Nat × D)} {h : List (Nat × Blk)} {k : List (Nat × Value)} {Q : Exit → S → Prop} {tab : List (Option TI)}
theorem Core.reblk {H:Hp}{w:World}(c:Core C H h k w){j:Nat}{p q:Nat×Blk}(hj:h[j]? = some p)(hc:K2 q=K2 p)(hq:BlkOK H w q):Core C H (h.set j q) k w:=by
 have hcl:=Kj3 (k:=k) hj hc;refine ⟨c.ag,c.le,c.new,c.same,c.size,fun x hx=>?_,c.toks,by rw [hcl];exact c.nd,by rw [hcl];exact c.own,c.env⟩;rcases List.mem_or_eq_of_mem_set hx with hx|rfl
 ·exact c.blks x hx
 exact hq
theorem p_cutR {α:Type}{e0:α→D}{i kk r:Nat}{T e:TypeId}{x:Operand}{hi:Option Operand}{n':Option Int}{xs ys:List α}{n:Int}{z:Z3}{ti0 tie:TI}(j:Nat)(q:cutL xs 0 n=some ys)(hT:TabOK P tab)(ho:o.op=.slice T x none hi none)(hw:wantD ops t o=some true)(hd:o.dst=some i)(hi0:Nat.blt i N=true)
  (hx:opD t x=some (.v (SL z))) (hj:h[j]? = some (r,.row kk (xs.map e0) (SL z))) (e2:optI t hi=some n') (hti:ti tab T=some ti0) (hs:ti0.d=.slice e) (hte:ti tab e=some tie) (hk:tie.size=kk) (h2:n'.getD (xs.length:Int)=n)
  (g:∀ z':Z3,opsD P C N ops rest ⟨(i,.v (SL z'))::t,h.set j (0,.row kk (ys.map e0) (SL z')),k⟩ Q):opsD P C N ops (o::rest) ⟨t,h,k⟩ Q:=by
 obtain ⟨q1,q2,q3,q4,q5⟩:=Kjz q;simp only [Int.toNat_zero,List.drop_zero,Nat.sub_zero] at q1 q4;generalize hn:n.toNat=M at *;subst q3;refine KbV (s:=⟨t,h,k⟩) hw hd hi0 fun H a w c kt=>?_
 obtain ⟨d,h3,h4⟩:=Kal (w:=w) (ti_ok hT hti);have:=KbO (h4.trans hs);subst this;have hb:=c.blks _ (List.mem_of_getElem? hj);have hxv:=KV (Kae kt hx);have key:∀ ad m,SL z=.slice ad xs.length m→xs.length≤m→(execOp a.eval o).run P w=.ok (.value (.slice (if m=0 then ad else ad.map (·.add (0*kk))) (M - 0) (m - 0))) w:=by
  intro ad m hy hm;unfold execOp;rw [ho];refine Ka0 ?_;rw [hxv,hy];unfold Instr.sliceAt;rw [Ky h3];simp only [Instr.slice];rw [Ky h3];have:=Kj9 (P:=P) (w:=w) kt (isS:=true) (len:=xs.length) (cap:=m) (lo:=none) (l:=0) (mx:=none) (m':=none) (m:=m) (l':=none) rfl e2 rfl rfl h2 rfl (fun x=>absurd rfl x) (Nat.zero_le _) (by omega) (Nat.le_refl _);simp only [Option.map_none] at this ⊢;simp only [Kcc,Kck,this,Ka6 (ti_ok hT hte),hk]
 rcases hb with ⟨a0,hy,hnil⟩|⟨b,m,us,rs,T',hy,h0,hm,h1,hf,hr,hH⟩
 ·have hxs:xs=[]:=by simpa using hnil
  subst hxs;simp only [List.length_nil] at q5;have hM:M=0:=by omega
  subst hM;have hys:ys=[]:=by rw [q1];rfl
  subst hys;have hk0:=key a0 0 hy (Nat.le_refl _);refine ⟨_,_,H,_,_,_,hk0,Hp.le_refl H,?_,?_,g (a0,0,0)⟩
  ·exact c.reblk hj (by rw [show K2 (0,Blk.row kk (([]:List α).map e0) (SL (a0,0,0)))=KaD (SL (a0,0,0)) from rfl,show K2 (r,Blk.row kk (([]:List α).map e0) (SL z))=KaD (SL z) from rfl,hy]) (.inl ⟨a0,rfl,rfl⟩)
  exact rep_v rfl
 simp only [List.length_map] at hy h0;have hk0:=key _ m hy h0;rw [if_neg (by omega)] at hk0;simp only [Option.map_some,Kcu,Nat.zero_mul,Nat.add_zero,Nat.sub_zero] at hk0;obtain ⟨u1,u2,rfl,hf1,_⟩:=Kkg M hf;refine ⟨_,_,H,_,_,_,hk0,Hp.le_refl H,?_,?_,g (some ⟨b,0,none⟩,M,m)⟩
 ·refine c.reblk hj ?_ (.inr ⟨b,m,u1,u2++rs,T',?_,?_,hm,by rw [← List.append_assoc];exact h1,?_,by rw [← List.append_assoc];exact hr,hH⟩)
  ·rw [show K2 (0,Blk.row kk (ys.map e0) (SL (some ⟨b,0,none⟩,M,m)))=KaD (SL (some ⟨b,0,none⟩,M,m)) from rfl,show K2 (r,Blk.row kk (xs.map e0) (SL z))=KaD (SL z) from rfl,hy];rfl
  ·rw [q1];simp [SL];omega
  ·rw [q1];simp;omega
  rw [q1,List.map_take];exact hf1
 exact rep_v rfl
end
end
section
open Go
set_option linter.all false
section
variable {P : Program} {C : Ctx} {N : Nat} {ops rest : List Oper} {o : Oper} {t : List (Nat × D)} {h : List (Nat × Blk)} {k : List (Nat × Value)} {Q : Exit → S → Prop} {tab : List (Option TI)}
end
def nilB:D→D→Option Bool
 | .ptr _ _,.v (.pointer none)=>some false
 | .v (.pointer none),.ptr _ _=>some false
 | .el _,.v (.pointer none)=>some false
 | .v (.pointer none),.el _=>some false
 | .v (.pointer none),.v (.pointer none)=>some true
 | _,_=>none
section
variable {P : Program} {C : Ctx} {N : Nat} {ops rest : List Oper} {o : Oper} {t : List (Nat × D)} {h : List (Nat × Blk)} {k : List (Nat × Value)} {Q : Exit → S → Prop} {tab : List (Option TI)}
theorem x_eqP {op:BinOp}{neg:Bool}{xt yt:TypeId}{x y:Operand}{ti0:TI}{el:Nat}{dx dy:D}{b:Bool}(hT:TabOK P tab)(ho:o.op=.binOp op xt x y yt)
  (hop:isNeq op=some neg) (hx:opD t x=some dx) (hy:opD t y=some dy) (hti:ti tab xt=some ti0) (hs:ti0.d=.ptr el) (e:nilB dx dy=some b):∀ H a w,TOK H t a→∃ v,(execOp a.eval o).run P w=.ok (.value v) w∧Rep H (.v (.bool (bif neg then !b else b))) v:=
 fun H a w kt=>by
  refine ⟨.bool (bif neg then !b else b),?_,rep_v rfl⟩;have hu:=Kae kt hx;have hv:=Kae kt hy;obtain ⟨dd,h3,h4⟩:=Kal (w:=w) (ti_ok hT hti);have:=td_ptr (h4.trans hs);subst this;have key:∃ p q:Option Addr,a.eval x=.pointer p∧a.eval y=.pointer q∧((p=none∧b=q.isNone)∨(q=none∧b=p.isNone)):=by
   unfold nilB at e;split at e
   ·obtain ⟨h1,h2⟩:=hu;have:=KV hv;simp only [RepC] at h1;cases hq:a.eval x<;>rw [hq] at h1 h2<;>simp [D.shape,Value.cells] at h1 h2;subst h1;simp only [Option.some.injEq] at e;subst e;exact ⟨_,_,rfl,this,.inr ⟨rfl,rfl⟩⟩
   ·obtain ⟨h1,h2⟩:=hv;have:=KV hu;simp only [RepC] at h1;cases hq:a.eval y<;>rw [hq] at h1 h2<;>simp [D.shape,Value.cells] at h1 h2;subst h1;simp only [Option.some.injEq] at e;subst e;exact ⟨_,_,this,rfl,.inl ⟨rfl,rfl⟩⟩
   ·obtain ⟨h1,h2⟩:=hu;have:=KV hv;simp only [RepC] at h1;obtain ⟨_,_,_,h1,_⟩:=h1;cases hq:a.eval x<;>rw [hq] at h1 h2<;>simp [D.shape,Value.cells] at h1 h2;subst h1;simp only [Option.some.injEq] at e;subst e;exact ⟨_,_,rfl,this,.inr ⟨rfl,rfl⟩⟩
   ·obtain ⟨h1,h2⟩:=hv;have:=KV hu;simp only [RepC] at h1;obtain ⟨_,_,_,h1,_⟩:=h1;cases hq:a.eval y<;>rw [hq] at h1 h2<;>simp [D.shape,Value.cells] at h1 h2;subst h1;simp only [Option.some.injEq] at e;subst e;exact ⟨_,_,this,rfl,.inl ⟨rfl,rfl⟩⟩
   ·have h1:=KV hu;have h2:=KV hv;simp only [Option.some.injEq] at e;subst e;exact ⟨_,_,h1,h2,.inl ⟨rfl,rfl⟩⟩
   cases e
  obtain ⟨p,q,e1,e2,e3⟩:=key;have hq:(Op.equal xt (.pointer p) (.pointer q)).run P w=.ok b w:=by
   show (Op.equalIn (9999+1) xt _ _).run P w=_
   rw [Op.equalIn,Ky h3];rcases e3 with ⟨rfl,rfl⟩|⟨rfl,rfl⟩
   ·rfl
   cases p<;>rfl
  unfold execOp;rw [ho];refine Ka0 ?_;rw [e1,e2];have hg:(eqGuard op xt x y (.pointer p) (.pointer q)).run P w=.ok () w:=by
   cases op<;>simp [eqGuard]
  rw [Ky hg];cases op<;>simp [isNeq] at hop<;>subst hop
  ·show (do pure (Value.bool (← Op.equal xt _ _)):Sem Value).run P w=_
   rw [Ky hq];rfl
  show (do pure (Value.bool (!(← Op.equal xt _ _))):Sem Value).run P w=_
  rw [Ky hq];rfl
theorem p_eqP {i:Nat}{op:BinOp}{neg:Bool}{xt yt:TypeId}{x y:Operand}{ti0:TI}{el:Nat}{dx dy:D}{b:Bool}(hT:TabOK P tab)(ho:o.op=.binOp op xt x y yt)(hw:wantD ops t o=some true)(hd:o.dst=some i)(hi:Nat.blt i N=true)
  (hop:isNeq op=some neg) (hx:opD t x=some dx) (hy:opD t y=some dy) (hti:ti tab xt=some ti0) (hs:ti0.d=.ptr el) (e:nilB dx dy=some b)
  (g:opsD P C N ops rest ⟨(i,.v (.bool (bif neg then !b else b)))::t,h,k⟩ Q):opsD P C N ops (o::rest) ⟨t,h,k⟩ Q:=
 KdQ (s:=⟨t,h,k⟩) hw hd hi (x_eqP hT ho hop hx hy hti hs e) g
end
end
section
open Go
set_option linter.all false
def Kih (tab:List (Option TI))(ts:List Nat):Nat→List (Nat×Nat)→Option Nat
 | off,[]=>some off
 |
  off,(ty,o)::fs=>match ti tab ty with
  | some i=>bif Nat.beq o off && ts.contains ty then Kih tab ts (off+i.size) fs else none
  | none=>none
def typeOK (tab:List (Option TI))(ts:List Nat)(t:Nat):Bool:=
 match ti tab t with
 |
  some i=>match i.d with
  | .bool=>Nat.beq i.size 1
  | .int _=>Nat.beq i.size 1
  | .str=>Nat.beq i.size 1
  | .slice e=>ts.contains e && Nat.beq i.size 1 && (match ti tab e with|some ie=>Nat.ble 1 ie.size|none=>false)
  |
   .struct fs=>match Kih tab ts 0 fs with
   | some n=>Nat.beq n i.size
   | none=>false
  | .array n e=>ts.contains e && (match ti tab e with|some ie=>Nat.beq i.size (n*ie.size)|none=>false)
  | _=>false
 | none=>false
def closedT (tab:List (Option TI))(ts:List Nat):Bool:=ts.all (typeOK tab ts)
def GoodT (tab:List (Option TI)):Nat→Nat→D→Prop
 | 0,_,_=>False
 |
  n+1,t,d=>∃ i,ti tab t=some i∧match i.d with
  | .bool=>∃ b,d=.v (.bool b)
  | .int k=>∃ m,d=.v (.int k m)∧(Lit.int k m).wf=true
  | .str=>∃ s:ByteArray,d=.v (.string s)∧s.size≤maxLen
  | .slice e=>∃ ie xs,ti tab e=some ie∧d=.lst ie.size xs .no∧xs.length≤maxLen∧∀ x∈xs,GoodT tab n e x
  | .struct fs=>∃ ds:List D,d=.agg (ds.flatMap K9)∧ds.length=fs.length∧∀ (j:Nat) (f:Nat×Nat) (d0:D),fs[j]? = some f→ds[j]? = some d0→GoodT tab n f.1 d0
  | .array m e=>∃ ds:List D,d=.agg (ds.flatMap K9)∧ds.length=m∧∀ x∈ds,GoodT tab n e x
  | _=>False
section
variable {H : Type} {enc : TypeId × Value → H} {P : Program} {w : World} {base : Nat} {spare : Nat → Bool} {held : Bool} {tab : List (Option TI)} {ts : List Nat}
theorem KgL (hT:TabOK P tab){t:TypeId}{i:TI}(h:ti tab t=some i):P.cellsOf t=i.size:=by
 obtain ⟨tf,z,dd,h1,_,_,h2,_⟩:=Kgc (ti_ok hT h);simp [Program.cellsOf,h1,h2]
def allOf (w:World):Hp:=fun a=>w.cell? a
theorem ag_all (w:World):Ag (allOf w) w:=fun _ _ h=>h
def Rd (tab:List (Option TI))(w:World)(n t:Nat)(cs:List Value)(d:D):Prop:=
 ∃ i,ti tab t=some i∧RepC (allOf w) d cs∧Reps (allOf w) (K9 d) cs∧cs.length=i.size∧(K9 d).length=i.size∧GoodT tab n t d
theorem KmV (hT:TabOK P tab){n:Nat}{cs:List Value}(ih:∀ t cs x,ts.contains t=true→DataW.trod enc P w base spare held n t cs=some x→∃ d,Rd tab w n t cs d) :
  ∀
   (gs:List Field) (off total:Nat),Kih tab ts off (gs.map fun f=>(f.type,f.offset))=some total→total≤cs.length→(∀ f∈gs,∃ y,DataW.trod enc P w base spare held n f.type ((cs.drop f.offset).take (P.cellsOf f.type))=some y) →
   off≤total∧∃ ds:List D,ds.length=gs.length∧Reps (allOf w) (ds.flatMap K9) ((cs.drop off).take (total - off))∧(ds.flatMap K9).length=total - off∧∀ (j:Nat) (f:Nat×Nat) (d0:D),(gs.map fun f=>(f.type,f.offset))[j]? = some f→ds[j]? = some d0→GoodT tab n f.1 d0
 |
  [],off,total,h,_,_=>by
  simp [Kih] at h;subst h;exact ⟨Nat.le_refl _,[],rfl,by simp [Reps],by simp,fun j f d0 e=>by simp at e⟩
 |
  g::gs,off,total,h,hl,hy=>by
  simp only [List.map_cons,Kih] at h;split at h
  ·rename_i i hi;cases hb:(Nat.beq g.offset off && ts.contains g.type) with
   | false=>rw [hb] at h;cases h
   |
    true=>
    rw [hb] at h;simp only [cond_true] at h;simp only [Bool.and_eq_true] at hb;have ho:=Nat.eq_of_beq_eq_true hb.1;obtain ⟨y,hy0⟩:=hy g (by simp);obtain ⟨d,i',hi',h1,h2,h3,h4,h5⟩:=ih _ _ y hb.2 hy0;rw [hi] at hi';cases hi';obtain ⟨hle,ds,e1,e2,e3,e4⟩:=KmV hT ih gs (off+i.size) total h hl fun f hf=>hy f (by simp [hf])
    rw [KgL hT hi,ho] at h2;refine ⟨by omega,d::ds,by simp [e1],?_,by simp [h4,e3];omega,?_⟩
    ·simp only [List.flatMap_cons];have:=KfV h2 e2;have e:(cs.drop off).take i.size++(cs.drop (off+i.size)).take (total - (off+i.size))=(cs.drop off).take (total - off):=by
      rw [show total - off=i.size+(total - (off+i.size)) by omega,List.take_add,List.drop_drop]
     rwa [e] at this
    intro j f d0 hf hd;cases j with
    | zero=>simp at hf hd;subst hf;subst hd;exact h5
    | succ j=>exact e4 j f d0 (by simpa using hf) (by simpa using hd)
  cases h
theorem rd_elems {n e sz b off:Nat}{ie:TI}(hie:ti tab e=some ie)(hsz:ie.size=sz)(he:ts.contains e=true)(ih:∀ t cs x,ts.contains t=true→DataW.trod enc P w base spare held n t cs=some x→∃ d,Rd tab w n t cs d) :
  ∀
   (m i0:Nat),(∀ i,i0≤i→i < i0+m→∃ cs y,w.cells? base ((⟨b,off,none⟩:Addr).add (i*sz)) sz=some cs∧DataW.trod enc P w base spare held n e cs=some y) →
   ∃ xs:List D,xs.length=m∧Els (allOf w) sz b (off+i0*sz) xs∧∀ x∈xs,GoodT tab n e x
 | 0,i0,_=>⟨[],rfl,by simp [Els],by simp⟩
 |
  m+1,i0,h=>by
  obtain ⟨cs,y,h1,h2⟩:=h i0 (Nat.le_refl _) (by omega);obtain ⟨d,i',hi',g1,g2,g3,g4,g5⟩:=ih e cs y he h2;rw [hie] at hi';cases hi';obtain ⟨xs,f1,f2,f3⟩:=rd_elems hie hsz he ih m (i0+1) fun i hi hi'=>h i (by omega) (by omega)
  refine ⟨d::xs,by simp [f1],?_,?_⟩
  ·simp only [Els];refine ⟨⟨cs,by rw [g3,hsz],g1,fun j u hj=>?_,Kfn g2⟩,?_⟩
   ·obtain ⟨_,hlen,hc⟩:=World.cells?_some h1;have hjl:j < sz:=by rw [← hlen];exact (List.getElem?_eq_some_iff.1 hj).1
    have:=hc j hjl;rw [Kcu,Kcu] at this;show w.cell? _=_
    rw [this];exact hj
   rw [show off+i0*sz+sz=off+(i0+1)*sz by rw [Nat.add_mul];omega];exact f2
  intro x hx;rcases List.mem_cons.1 hx with rfl|hx
  ·exact g5
  exact f3 x hx
theorem rd_arr {n e sz:Nat}{ie:TI}{cs:List Value}(hie:ti tab e=some ie)(hsz:ie.size=sz)(he:ts.contains e=true)(ih:∀ t cs x,ts.contains t=true→DataW.trod enc P w base spare held n t cs=some x→∃ d,Rd tab w n t cs d) :
  ∀
   (m i0:Nat),(∀ i,i0≤i→i < i0+m→∃ y,DataW.trod enc P w base spare held n e ((cs.drop (i*sz)).take sz)=some y) →
   ∃ ds:List D,ds.length=m∧Reps (allOf w) (ds.flatMap K9) ((cs.drop (i0*sz)).take (m*sz))∧(ds.flatMap K9).length=m*sz∧∀ x∈ds,GoodT tab n e x
 | 0,i0,_=>⟨[],rfl,by simp [Reps],by simp,by simp⟩
 |
  m+1,i0,h=>by
  obtain ⟨y,h2⟩:=h i0 (Nat.le_refl _) (by omega);obtain ⟨d,i',hi',g1,g2,g3,g4,g5⟩:=ih e _ y he h2;rw [hie] at hi';cases hi';obtain ⟨ds,f1,f2,f3,f4⟩:=rd_arr hie hsz he ih m (i0+1) fun i hi hi'=>h i (by omega) (by omega)
  refine ⟨d::ds,by simp [f1],?_,?_,?_⟩
  ·simp only [List.flatMap_cons];have:=KfV g2 f2;have e2:(cs.drop (i0*sz)).take sz++(cs.drop ((i0+1)*sz)).take (m*sz)=(cs.drop (i0*sz)).take ((m+1)*sz):=by
    rw [show (m+1)*sz=sz+m*sz by rw [Nat.add_mul];omega,List.take_add,List.drop_drop,show i0*sz+sz=(i0+1)*sz by rw [Nat.add_mul];omega]
   rwa [e2] at this
  ·simp only [List.flatMap_cons,List.length_append,f3,g4,hsz];rw [Nat.add_mul];omega
  intro x hx;rcases List.mem_cons.1 hx with rfl|hx
  ·exact g5
  exact f4 x hx
theorem rd (hT:TabOK P tab)(hc:closedT tab ts=true):∀ (n:Nat) (t:TypeId) (cs:List Value) (x:DataW H×List MemPlace),ts.contains t=true→DataW.trod enc P w base spare held n t cs=some x→∃ d,Rd tab w n t cs d:=by
 intro n;induction n with
 | zero=>intro t cs x _ h;simp [DataW.trod] at h
 |
  succ n ih=>
  intro t cs x ht h;have hok:typeOK tab ts t=true:=by
   unfold closedT at hc;rw [List.all_eq_true] at hc;exact hc t (by simpa using ht)
  unfold typeOK at hok;split at hok
  ·rename_i i hi;obtain ⟨tf,z,dd,h1,h2,h3,h4,_⟩:=Kgc (ti_ok hT hi);split at hok
   ·rename_i hd;have hs:=Nat.eq_of_beq_eq_true hok;obtain ⟨b,rfl,_⟩:=DataW.trod_bool (by rw [h2,Kk5 (h3.trans hd)]) h;refine ⟨.v (.bool b),i,hi,by simp [RepC],?_,by simp [hs],by simp [K9,hs],?_⟩
    ·simp only [K9,Reps];exact ⟨_,_,rfl,⟨by simp [RepC],rfl,rfl⟩,rfl⟩
    unfold GoodT;exact ⟨i,hi,by rw [hd];exact ⟨b,rfl⟩⟩
   ·rename_i k hd;have hs:=Nat.eq_of_beq_eq_true hok;obtain ⟨m,rfl,_,hwf⟩:=DataW.trod_int (by rw [h2,Kh8 (h3.trans hd)]) h;refine ⟨.v (.int k m),i,hi,by simp [RepC],?_,by simp [hs],by simp [K9,hs],?_⟩
    ·simp only [K9,Reps];exact ⟨_,_,rfl,⟨by simp [RepC],rfl,rfl⟩,rfl⟩
    unfold GoodT;exact ⟨i,hi,by rw [hd];exact ⟨m,rfl,hwf⟩⟩
   ·rename_i hd;have hs:=Nat.eq_of_beq_eq_true hok;obtain ⟨s,rfl,_,hwf⟩:=DataW.trod_string (by rw [h2,Kjw (h3.trans hd)]) h;refine ⟨.v (.string s),i,hi,by simp [RepC],?_,by simp [hs],by simp [K9,hs],?_⟩
    ·simp only [K9,Reps];exact ⟨_,_,rfl,⟨by simp [RepC],rfl,rfl⟩,rfl⟩
    unfold GoodT;exact ⟨i,hi,by rw [hd];exact ⟨s,rfl,hwf⟩⟩
   ·rename_i e hd;simp only [Bool.and_eq_true] at hok;obtain ⟨⟨he,hs⟩,hsz⟩:=hok;have hs:=Nat.eq_of_beq_eq_true hs;split at hsz
    ·rename_i ie hie;have hsz:=Nat.le_of_ble_eq_true hsz;rcases DataW.trod_slice (by rw [h2,KbO (h3.trans hd)]) h with ⟨rfl,_⟩|⟨a,len,cap,elems,rest,n',hf,rfl,_,hb,hlc,hcm,hel,hcells,_,_⟩
     ·have hr:RepC (allOf w) (.lst ie.size [] .no) [.slice none 0 0]:=by
       simp only [RepC,CapOK];exact ⟨_,rfl,trivial,.inl ⟨by trivial,none,0,rfl,fun _=>rfl⟩⟩
      refine ⟨.lst ie.size [] .no,i,hi,hr,?_,by simp [hs],by simp [K9,hs],?_⟩
      ·simp only [K9,Reps];exact ⟨_,_,rfl,⟨hr,rfl,rfl⟩,rfl⟩
      unfold GoodT;exact ⟨i,hi,by rw [hd];exact ⟨ie,[],hie,rfl,by simp,by simp⟩⟩
     have:n'=n:=by omega
     subst this;rw [KgL hT hie] at hcells;rcases Nat.eq_zero_or_pos len with hz|hpos
     ·subst hz;have hr:RepC (allOf w) (.lst ie.size [] .no) [.slice (some a) 0 cap]:=by
       simp only [RepC,CapOK];exact ⟨_,rfl,trivial,.inl ⟨by trivial,some a,cap,rfl,fun q=>by cases q⟩⟩
      refine ⟨.lst ie.size [] .no,i,hi,hr,?_,by simp [hs],by simp [K9,hs],?_⟩
      ·simp only [K9,Reps];exact ⟨_,_,rfl,⟨hr,rfl,rfl⟩,rfl⟩
      unfold GoodT;exact ⟨i,hi,by rw [hd];exact ⟨ie,[],hie,rfl,by simp,by simp⟩⟩
     have hsome:∀ j,j < len→∃ cs y,w.cells? base (a.add (j*ie.size)) ie.size=some cs∧DataW.trod enc P w base spare held n' e cs=some y:=by
      intro j hj;have hj2:=hcells j hj;rw [List.getElem?_eq_getElem (by omega)] at hj2;rw [Option.bind_eq_some_iff] at hj2;obtain ⟨cs,q1,q2⟩:=hj2;exact ⟨cs,_,q1,q2⟩
     have hspot:a.spot=none:=by
      obtain ⟨cs,y,q1,_⟩:=hsome 0 hpos;obtain ⟨_,hlen,hcc⟩:=World.cells?_some q1;have q2:=hcc 0 (by omega);rw [List.getElem?_eq_getElem (by omega)] at q2;have q3:(a.add (0*ie.size)).add 0=a:=by simp [Addr.add]
      rw [q3] at q2;cases hsp:a.spot with
      | none=>rfl
      |
       some s=>
       unfold World.cell? at q2;split at q2
       ·simp [hsp] at q2
       cases q2
     obtain ⟨b,off,sp⟩:=a;simp only at hspot;subst hspot;obtain ⟨xs,f1,f2,f3⟩:=rd_elems (spare:=spare) (held:=held) (enc:=enc) (P:=P) (base:=base) hie rfl he ih len 0 fun j _ hj=>hsome j (by omega)
     have hr:RepC (allOf w) (.lst ie.size xs .no) [.slice (some ⟨b,off,none⟩) len cap]:=by
      simp only [RepC,CapOK];refine ⟨_,rfl,trivial,.inr ⟨b,off,cap,by rw [f1],by rw [f1];exact hlc,by simpa using f2⟩⟩
     refine ⟨.lst ie.size xs .no,i,hi,hr,?_,by simp [hs],by simp [K9,hs],?_⟩
     ·simp only [K9,Reps];exact ⟨_,_,rfl,⟨hr,rfl,rfl⟩,rfl⟩
     unfold GoodT;exact ⟨i,hi,by rw [hd];exact ⟨ie,xs,hie,rfl,by rw [f1];omega,f3⟩⟩
    cases hsz
   ·rename_i fs hd;split at hok
    ·rename_i tot hfo;have hs:=Nat.eq_of_beq_eq_true hok;obtain ⟨gs,e1,e2⟩:=Kgl (h3.trans hd);obtain ⟨xs,n',hf,_,hl,hxl,hx⟩:=DataW.trod_struct (by rw [h2,e1]) h;have:n'=n:=by omega
     subst this;rw [KgL hT hi] at hl;obtain ⟨_,ds,f1,f2,f3,f4⟩:=KmV hT (cs:=cs) ih gs.toList 0 tot (by rw [e2];exact hfo) (by omega) fun f hfm=>by
      obtain ⟨j,hj⟩:=List.getElem?_of_mem hfm;have hj':gs[j]? = some f:=by simpa using hj
      have q:=hx j f hj';have hjl:j < xs.length:=by rw [hxl];exact (Array.getElem?_eq_some_iff.1 hj').1
      rw [List.getElem?_eq_getElem hjl] at q;exact ⟨_,q⟩
     simp only [List.drop_zero,Nat.sub_zero] at f2 f3;rw [List.take_of_length_le (by omega)] at f2;refine ⟨.agg (ds.flatMap K9),i,hi,by simp only [RepC];exact f2,f2,hl,by simp only [K9];omega,?_⟩;unfold GoodT;exact ⟨i,hi,by rw [hd];exact ⟨ds,rfl,by rw [f1,← e2];simp,fun j f d0 q1 q2=>f4 j f d0 (by rw [e2];exact q1) q2⟩⟩
    cases hok
   ·rename_i m e hd;simp only [Bool.and_eq_true] at hok;obtain ⟨he,hsz⟩:=hok;split at hsz
    ·rename_i ie hie;have hsz:=Nat.eq_of_beq_eq_true hsz;obtain ⟨xs,n',hf,_,hl,hxl,hx⟩:=DataW.trod_array (by rw [h2,Kj5 (h3.trans hd)]) h;have:n'=n:=by omega
     subst this;rw [KgL hT hi] at hl;rw [KgL hT hie] at hx;obtain ⟨ds,f1,f2,f3,f4⟩:=rd_arr (cs:=cs) hie rfl he ih m 0 fun j _ hj=>by
      have q:=hx j (by omega);rw [List.getElem?_eq_getElem (by omega)] at q;exact ⟨_,q⟩
     simp only [Nat.zero_mul,List.drop_zero] at f2;rw [List.take_of_length_le (by omega)] at f2;refine ⟨.agg (ds.flatMap K9),i,hi,by simp only [RepC];exact f2,f2,hl,by simp only [K9];omega,?_⟩;unfold GoodT;exact ⟨i,hi,by rw [hd];exact ⟨ds,rfl,f1,f4⟩⟩
    cases hsz
   cases hok
  cases hok
end
end
section
open Go
set_option linter.all false
section
variable {P : Program} {tab : List (Option TI)} {n t : Nat} {i : TI} {d : D}
theorem good_int {k:IntKind}(hi:ti tab t=some i)(hd:i.d=.int k)(g:GoodT tab n t d):∃ m,d=.v (.int k m)∧(Lit.int k m).wf=true:=by
 cases n with
 | zero=>simp [GoodT] at g
 |
  succ n=>
  unfold GoodT at g;obtain ⟨i',h1,h2⟩:=g;rw [hi] at h1;cases h1;rw [hd] at h2;exact h2
theorem good_str (hi:ti tab t=some i)(hd:i.d=.str)(g:GoodT tab n t d):∃ s:ByteArray,d=.v (.string s)∧s.size≤maxLen:=by
 cases n with
 | zero=>simp [GoodT] at g
 |
  succ n=>
  unfold GoodT at g;obtain ⟨i',h1,h2⟩:=g;rw [hi] at h1;cases h1;rw [hd] at h2;exact h2
theorem Kl8 {e:Nat}{ie:TI}(hi:ti tab t=some i)(hd:i.d=.slice e)(he:ti tab e=some ie)(g:GoodT tab n t d):∃ (n':Nat) (xs:List D),n=n'+1∧d=.lst ie.size xs .no∧xs.length≤maxLen∧∀ x∈xs,GoodT tab n' e x:=by
 cases n with
 | zero=>simp [GoodT] at g
 |
  succ n=>
  unfold GoodT at g;obtain ⟨i',h1,h2⟩:=g;rw [hi] at h1;cases h1;rw [hd] at h2;obtain ⟨ie',xs,h3,h4,h5,h6⟩:=h2;rw [he] at h3;cases h3;exact ⟨n,xs,rfl,h4,h5,h6⟩
theorem Knt {fs:List (Nat×Nat)}(hi:ti tab t=some i)(hd:i.d=.struct fs)(g:GoodT tab n t d):∃ (n':Nat) (ds:List D),n=n'+1∧d=.agg (ds.flatMap K9)∧ds.length=fs.length∧∀ (j:Nat) (f:Nat×Nat) (d0:D),fs[j]? = some f→ds[j]? = some d0→GoodT tab n' f.1 d0:=by
 cases n with
 | zero=>simp [GoodT] at g
 |
  succ n=>
  unfold GoodT at g;obtain ⟨i',h1,h2⟩:=g;rw [hi] at h1;cases h1;rw [hd] at h2;obtain ⟨ds,h4,h5,h6⟩:=h2;exact ⟨n,ds,rfl,h4,h5,h6⟩
theorem good_u8 (hi:ti tab t=some i)(hd:i.d=.int .u8)(g:GoodT tab n t d):∃ c:UInt8,d=byteD c:=by
 obtain ⟨m,rfl,h⟩:=good_int hi hd g;simp [Lit.wf,IntKind.min,IntKind.max,IntKind.signed,IntKind.bits] at h;refine ⟨UInt8.ofNat m.toNat,?_⟩;unfold byteD;have e:((UInt8.ofNat m.toNat).toNat:Int)=m:=by
  rw [UInt8.toNat_ofNat'];omega
 rw [e]
theorem KkV {α:Type}{f:α→D}{K:α→Prop}{p:D→Prop}(h:∀ x,p x→∃ y,x=f y∧K y):∀ (xs:List D),(∀ x∈xs,p x)→∃ ys:List α,xs=ys.map f∧∀ y∈ys,K y
 | [],_=>⟨[],rfl,by simp⟩
 |
  x::xs,hx=>by
  obtain ⟨y,rfl,hy⟩:=h x (hx x (by simp));obtain ⟨ys,rfl,hys⟩:=KkV h xs fun z hz=>hx z (by simp [hz])
  refine ⟨y::ys,rfl,fun z hz=>?_⟩;rcases List.mem_cons.1 hz with rfl|hz
  ·exact hy
  exact hys z hz
theorem shape_of {w:World}{r:Reach}{base:Nat}{v:Value}(hT:TabOK P tab)(hv:Value.okWide P w r base t v)(g:GoodT tab n t d):d.shape v=true:=by
 cases n with
 | zero=>simp [GoodT] at g
 |
  succ n=>
  unfold GoodT at g;obtain ⟨i,hi,g⟩:=g;obtain ⟨tf,z,dd,h1,h2,h3,_⟩:=Kgc (ti_ok hT hi);unfold Value.okWide at hv;rw [h2] at hv;split at g
  ·rename_i hd;have:=Kk5 (h3.trans hd);subst this;obtain ⟨b,rfl⟩:=g;cases v<;>first|rfl|(simp [Cell.okWide,Cell.ok,h2] at hv)
  ·rename_i k hd;have:=Kh8 (h3.trans hd);subst this;obtain ⟨b,rfl,_⟩:=g;cases v<;>first|rfl|(simp [Cell.okWide,Cell.ok,h2] at hv)
  ·rename_i hd;have:=Kjw (h3.trans hd);subst this;obtain ⟨b,rfl,_⟩:=g;cases v<;>first|rfl|(simp [Cell.okWide,Cell.ok,h2] at hv)
  ·rename_i e hd;have:=KbO (h3.trans hd);subst this;obtain ⟨ie,xs,_,rfl,_⟩:=g;cases v<;>first|rfl|(simp [Cell.okWide,Cell.ok,h2] at hv)
  ·rename_i fs hd;obtain ⟨gs,rfl,_⟩:=Kgl (h3.trans hd);obtain ⟨ds,rfl,_⟩:=g;simp only at hv;obtain ⟨cs,rfl,_⟩:=hv;rfl
  ·rename_i m e hd;have:=Kj5 (h3.trans hd);subst this;obtain ⟨ds,rfl,_⟩:=g;simp only at hv;obtain ⟨cs,rfl,_⟩:=hv;rfl
  exact g.elim
theorem rd_arg {H:Type}{enc:TypeId×Value→H}{w:World}{base:Nat}{spare:Nat→Bool}{held:Bool}{v:Value}{x:DataW H}{ps:List MemPlace}{r:Reach}{b0:Nat}(hT:TabOK P tab)(ts:List Nat)(hc:closedT tab ts=true)(ht:ts.contains t=true)
  (hv:Value.okWide P w r b0 t v) (h:DataW.Trod enc P w base spare held t v x ps):∃ n d,GoodT tab n t d∧Rep (allOf w) d v:=by
 obtain ⟨n,hn⟩:=h;obtain ⟨d,i,h1,h2,h3,h4,h5,h6⟩:=rd hT hc n t _ _ ht hn;exact ⟨n,d,h6,h2,shape_of hT hv h6⟩
end
end
end Go.Proofs.YtipfljkjjddapaaGreat.Ab
namespace Go.Proofs.YtipfljkjjddapaaGreat
open Go.ChangeShapes Go.WideShapes Go.ChangeAt Go.RowKit Go.Joins
set_option linter.all false
theorem own:ownKnob Tryz.prog.godebug=none:=by kernel_rfl
theorem laidOut':laidOutB Tryz.prog=true:=by kernel_rfl
theorem KmW {H:Type}{enc:TypeId×Value→H}{P:Program}{W:World}(hl:laidOutB P=true):∀ {ts:List TypeId} {vs:List Value} {ds:List (DataW H)} {ps:List MemPlace},
  (ts.all fun t=>P.readableRec t && decide (t < P.types.size))=true→DataW.TrodAll enc P W 0 (fun _=>true) true ts vs ds ps→(∀ x∈ps,x.block < W.heap.size)→∀ W',Below W.heap.size W W' →
  ∀ sp:Nat→Bool,(∀ x∈ps,sp x.block=true)→DataW.TrodAll enc P W' 0 sp true ts vs ds ps
 |
  [],vs,ds,ps,_,h,_,W',hb,sp,hsp=>by
  obtain ⟨rfl,rfl,rfl⟩:=trodAll_nil h;exact trodAll_mk0
 |
  t::ts,vs,ds,ps,hr,h,hlt,W',hb,sp,hsp=>by
  obtain ⟨v,vs',d,ds',p,q,rfl,rfl,rfl,h0,h1⟩:=trodAll_cons h;simp only [List.all_cons,Bool.and_eq_true,decide_eq_true_eq] at hr;exact trodAll_cons_mk (WideElems.Trod_stays hl hr.1.1 hr.1.2 h0 (fun x hx=>hb.same (hlt x (by simp [hx]))) (fun x hx=>hsp x (by simp [hx])))
   (KmW hl hr.2 h1 (fun x hx=>hlt x (by simp [hx])) W' hb sp (fun x hx=>hsp x (by simp [hx])))
end Go.Proofs.YtipfljkjjddapaaGreat
namespace Go.Proofs.YtipfljkjjddapaaGreat.Ab
section
open Go
set_option linter.all false
section
variable {H : Type} {enc : TypeId × Value → H} {P : Program} {w : World} {base : Nat} {spare : Nat → Bool} {held : Bool} {tab : List (Option TI)} {ts : List Nat}
end
end
section
open Go
set_option linter.all false
section
variable {α β : Type} [DecidableEq α]
def mget:List (α×β)→α→Option β
 | [],_=>none
 | (a,b)::l,k=>if a=k then some b else mget l k
def mput:List (α×β)→α→β→List (α×β)
 | [],k,v=>[(k,v)]
 | (a,b)::l,k,v=>if a=k then (k,v)::l else (a,b)::mput l k v
def mgetD (l:List (α×β))(k:α)(z:β):β:=(mget l k).getD z
def ffind:List α→α→List MapEntry→Nat→Option (Nat×Value)
 | a::ks,k,e::me,i=>if a=k then some (i,e.val) else ffind ks k me (i+1)
 | _,_,_,_=>none
end
structure KeyOK (P:Program) (kt:TypeId) {α:Type} [DecidableEq α] (f:α→Value):Prop where
 find:∀ (w:World) (k:α) (me:List MapEntry) (ks:List α),me.map (·.key)=ks.map f→(Instr.findKey kt (f k) me).run P w=.ok (ffind ks k me 0) w
 check:∀ (w:World) (e:Bool) (k:α),(Instr.checkKey e 10000 kt (f k)).run P w=.ok () w
 stays:∀ (w:World) (k:α),(Instr.keyThatStays (f k) (f k)).run P w=.ok (f k) w
theorem str_key {P:Program}{kt:TypeId}(h:P.underlying kt=some .string):KeyOK P kt (fun s:ByteArray=>Value.string s) where
 find w k me ks e:=by
  refine MapKept.run_findKey h ?_;have:∀ (ks:List ByteArray) (me:List MapEntry) (i:Nat),me.map (·.key)=ks.map (fun s=>Value.string s)→Instr.findNow .string (.string k) me i=some (ffind ks k me i):=by
   intro ks;induction ks with
   | nil=>intro me i e;simp at e;subst e;rfl
   |
    cons a ks ih=>
    intro me i e;cases me with
    | nil=>cases e
    |
     cons m me=>
     simp only [List.map_cons,List.cons.injEq] at e;have hb:(k==a)=decide (a=k):=by
      by_cases q:a=k
      ·subst q;rw [decide_eq_true rfl];exact (MapKept.bytes_beq _ _).2 rfl
      rw [decide_eq_false q];cases hq:k==a with
      | false=>rfl
      | true=>exact absurd ((MapKept.bytes_beq _ _).1 hq).symm q
     unfold Instr.findNow ffind;rw [e.1];simp only [Instr.sameNow,hb];by_cases q:a=k
     ·rw [decide_eq_true q,if_pos q]
     rw [decide_eq_false q,if_neg q];exact ih me (i+1) e.2
  exact this ks me 0 e
 check w e k:=by
  have:=MapKept.run_checkKey (w:=w) h (k:=.string k) (by simp [MapKept.IsKey]) e 9999;exact this
 stays w k:=MapKept.run_keyThatStays (d:=.string) (by simp [MapKept.IsKey])
section
variable {α β : Type} [DecidableEq α] {f : α → Value} {e : β → D} {H : Hp}
theorem KkW:∀ {l:List (α×β)} {me:List MapEntry},MapR H (l.map fun p=>(f p.1,e p.2)) me→me.map (·.key)=(l.map (·.1)).map f
 | [],me,h=>by simp [MapR] at h;subst h;rfl
 |
  p::l,me,h=>by
  simp only [List.map_cons,MapR] at h;obtain ⟨m,me',rfl,h1,_,h2⟩:=h;simp only [List.map_cons,h1,KkW h2]
theorem KkX (k:α):∀ {l:List (α×β)} {me:List MapEntry} (i:Nat),MapR H (l.map fun p=>(f p.1,e p.2)) me →
  (mget l k=none∧ffind (l.map (·.1)) k me i=none∧∀ (v:β) (y:Value) (b:Nat),Rep H (e v) y→MapR H ((mput l k v).map fun p=>(f p.1,e p.2)) (me++[⟨f k,y,b⟩])) ∨
  ∃ j b m,mget l k=some b∧ffind (l.map (·.1)) k me i=some (i+j,m.val)∧Rep H (e b) m.val∧me[j]? = some m∧m.key=f k∧∀ (v:β) (y:Value),Rep H (e v) y→MapR H ((mput l k v).map fun p=>(f p.1,e p.2)) (me.modify j fun x=>{ x with key:=f k,val:=y })
 |
  [],me,i,h=>by
  simp [MapR] at h;subst h;refine .inl ⟨rfl,rfl,fun v y b hy=>?_⟩;simp only [mput,List.map_cons,List.map_nil,MapR,List.nil_append];exact ⟨_,_,rfl,rfl,hy,rfl⟩
 |
  p::l,me,i,h=>by
  simp only [List.map_cons,MapR] at h;obtain ⟨m,me',rfl,h1,h2,h3⟩:=h;by_cases q:p.1=k
  ·refine .inr ⟨0,p.2,m,by unfold mget;rw [if_pos q],by simp only [List.map_cons,ffind];rw [if_pos q];rfl,h2,rfl,by rw [h1,q],fun v y hy=>?_⟩;simp only [mput,if_pos q,List.map_cons,MapR,List.modify_zero_cons];exact ⟨_,_,rfl,rfl,hy,h3⟩
  rcases KkX k (i+1) h3 with ⟨g1,g2,g3⟩|⟨j,b,m',g1,g2,g3,g4,g5,g6⟩
  ·refine .inl ⟨by unfold mget;rw [if_neg q];exact g1,by simp only [List.map_cons,ffind];rw [if_neg q];exact g2,fun v y b hy=>?_⟩;simp only [mput,if_neg q,List.map_cons,MapR,List.cons_append];exact ⟨_,_,rfl,h1,h2,g3 v y b hy⟩
  refine .inr ⟨j+1,b,m',by unfold mget;rw [if_neg q];exact g1,by simp only [List.map_cons,ffind];rw [if_neg q,g2];congr 2;omega,g3,by simpa using g4,g5,fun v y hy=>?_⟩;simp only [mput,if_neg q,List.map_cons,MapR,List.modify_succ_cons];exact ⟨_,_,rfl,h1,h2,g6 v y hy⟩
end
theorem Core.allocMap {C:Ctx}{H:Hp}{h:List (Nat×Blk)}{k:List (Nat×Value)}{w:World}(c:Core C H h k w) :
  Core C H ((w.heap.size,.mp [])::h) k (w.alloc (.map #[] 0)):=by
 have c0:Core ⟨H,w,[]⟩ H [(w.heap.size,.mp [])] [] (w.alloc (.map #[] 0)):=by
  refine ⟨fun a v e=>KgG _ (c.ag a v e),Hp.le_refl H,fun _ _ x=>.inl x,fun b hb _=>?_,?_,?_,by simp,?_,?_,⟨rfl,rfl,rfl,Nat.le_refl _⟩⟩
  ·rw [Kbe,if_neg (by exact Nat.ne_of_lt hb)]
  ·rw [KgF];exact Nat.le_succ _
  ·intro p hp;simp only [List.mem_singleton] at hp;subst hp;refine ⟨#[],0,by rw [Kbe,if_pos rfl],rfl,fun o=>?_⟩;cases e:H ⟨w.heap.size,o,none⟩ with
   | none=>rfl
   | some v=>exact absurd (c.ag.lt e) (Nat.lt_irrefl _)
  ·simp [KR,K2]
  intro b hb;simp [KR,K2] at hb;subst hb;exact .inr (Nat.le_refl _)
 exact Core.call (h1:=[]) (k1:=[]) (h2:=h) (k2:=k) c c0
theorem Core.setMap {C:Ctx}{H:Hp}{h:List (Nat×Blk)}{k:List (Nat×Value)}{w:World}(c:Core C H h k w){j b:Nat}{es es':List (Value×D)}{me:Array MapEntry}{ck:Nat}(hj:h[j]? = some (b,.mp es))
  (hr:MapR H es' me.toList):Core C H (h.set j (b,.mp es')) k { w with heap:=w.heap.setIfInBounds b (.map me ck) }:=by
 have hlt:j < h.length:=(List.getElem?_eq_some_iff.1 hj).1;have p1:h.Perm ([(b,.mp es)]++h.eraseIdx j):=Kaq hj;have c1:=c.perm p1 (List.Perm.refl k);obtain ⟨me0,ck0,h1,h2,h3⟩:=c.blks _ (List.mem_of_getElem? hj);have hs:=MapKept.heap_set (w:=w) (o':=.map me ck) h1;have c2:Core ⟨H,w,KR [(b,Blk.mp es)] []⟩ H [(b,.mp es')] [] { w with heap:=w.heap.setIfInBounds b (.map me ck) }:=by
  refine ⟨fun a v e=>?_,Hp.le_refl H,fun _ _ x=>.inl x,fun i _ hm=>hs.2 i (by simpa [KR,K2] using hm),by simp,?_,by simp,by simp [KR,K2],?_,⟨rfl,rfl,rfl,Nat.le_refl _⟩⟩
  ·have hne:a.block ≠ b:=fun e2=>by
    obtain ⟨ab,ao,sp0⟩:=a;simp only at e2;subst e2;have hc:=c.ag _ _ e;cases sp0 with
    | none=>rw [h3] at e;cases e
    | some s=>simp [World.cell?,h1] at hc
   have:=c.ag a v e;simp only [World.cell?] at this ⊢;rw [hs.2 _ hne];exact this
  ·intro p hp;simp only [List.mem_singleton] at hp;subst hp;exact ⟨me,ck,hs.1,hr,h3⟩
  intro x hx;exact .inl (by simpa [KR,K2] using hx)
 have c3:=Core.call (h1:=[(b,.mp es)]) (k1:=[]) (h2:=h.eraseIdx j) (k2:=k) (by simpa using c1) c2;refine c3.perm ?_ (by simp);have p2:(h.set j (b,Blk.mp es'))[j]? = some (b,Blk.mp es'):=by rw [List.getElem?_set_self hlt]
 have p3:=Kaq p2;rw [List.eraseIdx_set_eq] at p3;exact p3.symm
section
variable {P : Program} {C : Ctx} {N : Nat} {ops rest : List Oper} {o : Oper} {t : List (Nat × D)} {h : List (Nat × Blk)} {k : List (Nat × Value)} {Q : Exit → S → Prop} {tab : List (Option TI)}
theorem KmX {i:Nat}{T:TypeId}(ho:o.op=.makeMap T none)(hw:wantD ops t o=some true)(hd:o.dst=some i)(hi:Nat.blt i N=true)
  (g:∀ b:Nat,opsD P C N ops rest ⟨(i,.v (.map (some b)))::t,(b,.mp [])::h,k⟩ Q):opsD P C N ops (o::rest) ⟨t,h,k⟩ Q:=
 KbV (s:=⟨t,h,k⟩) hw hd hi fun H a w c kt=>by
  refine ⟨.map (some w.heap.size),_,H,.v (.map (some w.heap.size)),_,k,?_,Hp.le_refl H,c.allocMap,rep_v rfl,g w.heap.size⟩;unfold execOp;rw [ho];refine Ka0 ?_;rfl
theorem run_zv {w:World}{t:TypeId}{z:Value}(h:(P.info? t).bind (·.zero)=some z):(Go.zeroValue t).run P w=.ok z w:=by
 cases hi:P.info? t with
 | none=>rw [hi] at h;cases h
 |
  some i=>
  rw [hi] at h;have ht:(Go.typeInfo t).run P w=.ok i w:=by
   unfold Go.typeInfo Go.program;rw [Ky (a:=P) rfl,hi];rfl
  unfold Go.zeroValue;rw [Ky ht];simp only [Option.bind_some] at h;rw [h];rfl
section
variable {α β : Type} [DecidableEq α] {f : α → Value} {e : β → D}
theorem Khd {i b kt et:Nat}{T:TypeId}{x ix:Operand}{l:List (α×β)}{es:List (Value×D)}{kk:α}{dk dr:D}{z:β}{zv:Value}{ti0:TI}(j:Nat)(hT:TabOK P tab)(ho:o.op=.lookup T x ix false)(hw:wantD ops t o=some true)(hd:o.dst=some i)(hi:Nat.blt i N=true)
  (hx:opD t x=some (.v (.map (some b)))) (hj:h[j]? = some (b,.mp es)) (hes:es=l.map fun p=>(f p.1,e p.2)) (hix:opD t ix=some dk) (hti:ti tab T=some ti0) (hs:ti0.d=.map kt et) (K:KeyOK P kt f) (hk:∀ H v,Rep H dk v→v=f kk)
  (hz:(P.info? et).bind (·.zero)=some zv) (hzr:∀ H,Rep H (e z) zv) (hr:dr=e (mgetD l kk z))
  (g:opsD P C N ops rest ⟨(i,dr)::t,h,k⟩ Q):opsD P C N ops (o::rest) ⟨t,h,k⟩ Q:=
 KbV (s:=⟨t,h,k⟩) hw hd hi fun H a w core kt'=>by
  subst hes;subst hr;obtain ⟨dd,h1,h2⟩:=Kal (w:=w) (ti_ok hT hti);have:=td_map (h2.trans hs);subst this;obtain ⟨me,ck,g1,g2,g3⟩:=core.blks _ (List.mem_of_getElem? hj);have hkv:=hk H _ (Kae kt' hix);have hfk:=K.find w kk me.toList (l.map (·.1)) (KkW g2);have key:∃ v,(Instr.lookup T (a.eval x) (a.eval ix) false).run P w=.ok v w∧Rep H (e (mgetD l kk z)) v:=by
   rw [hkv,KV (Kae kt' hx)];unfold Instr.lookup mgetD;rcases KkX kk 0 g2 with ⟨q1,q2,_⟩|⟨j',b',m,q1,q2,q3,_⟩
   ·refine ⟨zv,?_,by rw [q1];exact hzr H⟩;rw [q2] at hfk;simp only [Kcc,h1,Result.andThen,MapKept.run_getObj_map g1,Kck,K.check,hfk,run_zv hz];simp
   refine ⟨m.val,?_,by rw [q1];exact q3⟩;rw [q2] at hfk;simp only [Kcc,h1,Result.andThen,MapKept.run_getObj_map g1,Kck,K.check,hfk];simp
  obtain ⟨v,e1,e2⟩:=key;refine ⟨v,w,H,_,h,k,?_,Hp.le_refl H,core,e2,g⟩;unfold execOp;rw [ho];exact Ka0 e1
theorem Kja {b kt et:Nat}{T:TypeId}{x ix y:Operand}{l:List (α×β)}{es:List (Value×D)}{h':List (Nat×Blk)}{kk:α}{vv:β}{dk dv:D}{ti0:TI}(j:Nat)(hT:TabOK P tab)(ho:o.op=.mapUpdate T x ix y)(hw:wantD ops t o=some true)(hd:o.dst=none)
  (hx:opD t x=some (.v (.map (some b)))) (hj:h[j]? = some (b,.mp es)) (hes:es=l.map fun p=>(f p.1,e p.2)) (hix:opD t ix=some dk) (hy:opD t y=some dv) (hti:ti tab T=some ti0) (hs:ti0.d=.map kt et) (K:KeyOK P kt f) (hk:∀ H v,Rep H dk v→v=f kk) (hv:Wk dv (e vv))
  (he:h.set j (b,.mp ((mput l kk vv).map fun p=>(f p.1,e p.2)))=h')
  (g:opsD P C N ops rest ⟨t,h',k⟩ Q):opsD P C N ops (o::rest) ⟨t,h,k⟩ Q:=
 Kly (s:=⟨t,h,k⟩) hw hd fun H a w core kt'=>by
  subst hes;subst he;obtain ⟨dd,h1,h2⟩:=Kal (w:=w) (ti_ok hT hti);have:=td_map (h2.trans hs);subst this;obtain ⟨me,ck,g1,g2,g3⟩:=core.blks _ (List.mem_of_getElem? hj);have hkv:=hk H _ (Kae kt' hix);have hfk:=K.find w kk me.toList (l.map (·.1)) (KkW g2);have hyv:Rep H (e vv) (a.eval y):=hv H _ (Kae kt' hy);have key:∃ me' ck',(Instr.mapUpdate T (a.eval x) (a.eval ix) (a.eval y)).run P w=.ok () { w with heap:=w.heap.setIfInBounds b (.map me' ck') }∧MapR H ((mput l kk vv).map fun p=>(f p.1,e p.2)) me'.toList:=by
   rw [hkv,KV (Kae kt' hx)];unfold Instr.mapUpdate;rcases KkX kk 0 g2 with ⟨q1,q2,q3⟩|⟨j',b',m,q1,q2,q3,q4,q5,q6⟩
   ·refine ⟨me.push ⟨f kk,a.eval y,ck⟩,ck+1,?_,by rw [Array.toList_push];exact q3 vv _ ck hyv⟩;rw [q2] at hfk;simp only [Kcc,h1,Result.andThen,MapKept.run_getObj_map g1,Kck,K.check,hfk,MapKept.run_setObj_map _ g1]
   refine ⟨me.modify j' fun x=>{ x with key:=f kk,val:=a.eval y },ck,?_,by rw [Array.toList_modify];exact q6 vv _ hyv⟩;rw [q2] at hfk;have hm:me[j']? = some m:=by rw [← Array.getElem?_toList];exact q4
   rw [Nat.zero_add] at hfk;simp only [Kcc,h1,Result.andThen,MapKept.run_getObj_map g1,Kck,K.check,hfk,hm,Option.map_some,Option.getD_some,q5,K.stays,MapKept.run_setObj_map _ g1]
  obtain ⟨me',ck',e1,e2⟩:=key;refine ⟨_,H,_,k,?_,Hp.le_refl H,core.setMap (ck:=ck') hj e2,g⟩;unfold execOp;rw [ho];show ((Instr.mapUpdate T (a.eval x) (a.eval ix) (a.eval y)) >>= fun _=>pure Next.skip).run P w=_
  rw [Ky e1];rfl
end
end
end
section
open Go Go.RowKit Go.Proofs
set_option linter.all false
def zc (pe:Int×Int):List PanicEntry:=[{ v:=.iface 134 (.agg #[.int .i64 pe.1,.int .i64 pe.2]),recovered:=false }]
def Kbp (a0 a1:Int):Option ((Int×Int)⊕Unit):=some (.inl (a0,a1))
theorem Ka4 (a0 a1:Int)(r:(Int×Int)⊕Unit)(h0:Kbp a0 a1=some r):KbB zc Tryz.prog 87 [.v (.int .i64 a0),.v (.int .i64 a1)] [] [] r (fun r d h k=>d=.tup []∧h=[]∧k=[]):=by
 cases h0;refine ⟨⟨_,Tryz.func87,rfl,rfl⟩,fun H w vs hv hA _ _ _=>?_⟩;simp only [RepsV] at hv;obtain ⟨u1,_,rfl,g1,u2,_,rfl,g2,rfl⟩:=hv;obtain rfl:=KV g1;obtain rfl:=KV g2;suffices hs:Calls Tryz.prog 87 #[.int .i64 a0,.int .i64 a1] w fun e w'=>e=.panicked (zc (a0,a1))∧w'=w from
  hs.mono fun e w' ⟨he,hb⟩=>⟨he,H,by subst hb;exact Kln hA (Below.refl _ _)⟩
 go_enter Tryz.func87,Tryz.ntmps87
 go_wp2_with fail
 exact ⟨rfl,rfl,rfl⟩
end
end Go.Proofs.YtipfljkjjddapaaGreat.Ab
namespace Go.Proofs.YtipfljkjjddapaaGreat.Jz
open Go Jx
set_option linter.all false
def Gives (Zp:List PanicEntry→World→Prop)(P:Program)(o:Oper)(a:Act)(w:World)(K:Value→World→Prop):Prop:=
 match (execOp a.eval o).run P w with
 | .ok (.value v) w'=>K v w'
 | .ok .skip w'=>K undef w'
 | .ok (.enter f args) w'=>Calls P f args w' fun e w''=>(∃ v,e=.returned v∧K v w'')∨∃ c,e=.panicked c∧Zp c w''
 | _=>False
theorem Gives.mono {Zp:List PanicEntry→World→Prop}{P:Program}{o:Oper}{a:Act}{w:World}{K K':Value→World→Prop}(hk:∀ v w',K v w'→K' v w')(h:Gives Zp P o a w K):Gives Zp P o a w K':=by
 unfold Gives at *;split at h
 ·exact hk _ _ h
 ·exact hk _ _ h
 ·exact h.mono fun e w'' hh=>hh.imp (fun ⟨v,he,hv⟩=>⟨v,he,hk _ _ hv⟩) id
 exact h.elim
theorem Gives.wp {Zp:List PanicEntry→World→Prop}{P:Program}{o:Oper}{a:Act}{w:World}{K:Act→World→Prop}{Q:Exit→Act→World→Prop}(hZ:∀ c w,Zp c w→Q (.panic c) a w)(h:Gives Zp P o a w fun v w'=>K (a.put o.dst v) w'):o.wp P a w K Q:=by
 unfold Gives at h;unfold Oper.wp;generalize (execOp a.eval o).run P w=r at *;cases r with
 |
  ok n w'=>
  cases n<;>simp only [Oper.upon] at h ⊢;case value u=>exact h
  case skip=>exact h
  case enter f args=>exact h.mono fun e w'' hh=>by rcases hh with ⟨v,he,hv⟩|⟨c,he,hz⟩<;>subst he<;>first|exact hv|exact hZ _ _ hz
 | halt x w'=>simp only at h
theorem Gives.congr {Zp:List PanicEntry→World→Prop}{P:Program}{o:Oper}{a a':Act}{w:World}{K:Value→World→Prop}(he:execOp a'.eval o=execOp a.eval o)(h:Gives Zp P o a w K):Gives Zp P o a' w K:=by
 unfold Gives at *;rw [he];exact h
theorem Gives.of {Zp:List PanicEntry→World→Prop}{P:Program}{o:Oper}{a:Act}{w:World}{K:Value→World→Prop}(h:Jx.Gives P o a w K):Gives Zp P o a w K:=by
 unfold Jx.Gives at h;unfold Gives;split at h
 ·simp only [*]
 ·simp only [*]
 ·rename_i hr;rw [hr];exact h.mono fun e w'' hh=>.inl hh
 exact h.elim
section
variable (Zp : List PanicEntry → World → Prop) (P : Program) (ops : Array Oper) (C : (Nat → Bool) → (Nat → Value) → World → Prop) (pre : Nat → List Nat) (ev : Nat → Bool)
def OK (vals:Nat→Value)(i:Nat)(o:Oper)(a:Act)(out:Value):Prop:=
 if Region.wanted o (yielded ops a.tmps)=true then
  if ev i=true then out=vals i∧∀ S w,C S vals w→S i=false→(∀ k∈pre i,S k=true)→Gives Zp P o a w fun v w'=>C (upd S i true) (upd vals i v) w'
  else ∀ S w,C S vals w→(∀ k∈pre i,S k=true)→(execOp a.eval o).run P w=.ok (.value out) w
 else out=undef∧(ev i=true→∀ S w,C S vals w→S i=false→C (upd S i true) (upd vals i undef) w)
def Lx (vals:Nat→Value)(fin:Act→Prop):Nat→List Oper→Act→Prop
 | _,[],a=>fin a
 | i,o::rest,a=>∃ out,OK Zp P ops C pre ev vals i o a out∧Lx vals fin (i+1) rest (a.put o.dst out)
end
theorem KlJ {ops:Array Oper}{a0:Act}{out:Nat→Value}{S:Nat→Bool}:∀ k,(frS ops a0 out S k).tmps.size=a0.tmps.size∧(frS ops a0 out S k).defers=a0.defers
 | 0=>⟨rfl,rfl⟩
 |
  k+1=>by
  have ih:=KlJ (ops:=ops) (a0:=a0) (out:=out) (S:=S) k;simp only [frS];split
  ·split
   ·rename_i o _ _;cases hd:o.dst with
    | none=>exact ih
    | some d=>exact ⟨by simp only [Act.put,Array.size_setIfInBounds];exact ih.1,ih.2⟩
   exact ih
  exact ih
section
variable {Zp : List PanicEntry → World → Prop} {P : Program} {ops : Array Oper} {Q : Exit → Act → World → Prop} {C : (Nat → Bool) → (Nat → Value) → World → Prop} {pre : Nat → List Nat} {ev : Nat → Bool} {a0 : Act}
theorem lx_good {vals:Nat→Value}{fin:Act→Prop}{l1:List Oper}{m:Nat}(hl1:∀ j,j < m→l1[j]? = ops[j]?)(hm:l1.length=m)(h:Lx Zp P ops C pre ev vals fin 0 l1 a0) :
  ∃ out,(∀ j o,j < m→ops[j]? = some o→OK Zp P ops C pre ev vals j o (fr ops a0 out j) (out j))∧fin (fr ops a0 out m):=by
 have key:∀ (l:List Oper) (i:Nat) (out0:Nat→Value),(∀ j,i+j < i+l.length→l[j]? = ops[i+j]?)→Lx Zp P ops C pre ev vals fin i l (fr ops a0 out0 i) →
   ∃ out,(∀ k,k < i→out k=out0 k)∧(∀ j o,i≤j→j < i+l.length→ops[j]? = some o→OK Zp P ops C pre ev vals j o (fr ops a0 out j) (out j))∧fin (fr ops a0 out (i+l.length)):=by
  intro l;induction l with
  | nil=>intro i out0 _ h;exact ⟨out0,fun _ _=>rfl,fun j o hj hj' _=>by simp at hj';omega,h⟩
  |
   cons o l ih=>
   intro i out0 hl h;obtain ⟨v,hv,hr⟩:=h;have h0:ops[i]? = some o:=by simpa using (hl 0 (by simp)).symm
   have e1:fr ops a0 (upd out0 i v) i=fr ops a0 out0 i:=Kh6 i fun j hj=>upd_ne _ _ (by omega)
   have e2:fr ops a0 (upd out0 i v) (i+1)=(fr ops a0 out0 i).put o.dst v:=by simp only [fr,h0];rw [e1,upd_same]
   obtain ⟨out,g1,g2,g3⟩:=ih (i+1) (upd out0 i v) (fun j hj=>by have:=hl (j+1) (by simp;omega);simpa [Nat.add_assoc,Nat.add_comm 1 j] using this) (by rw [e2];exact hr);refine ⟨out,fun k hk=>by rw [g1 k (by omega),upd_ne _ _ (by omega)],fun j o' hj hj' ho'=>?_,?_⟩
   ·by_cases hji:j=i
    ·subst hji;rw [h0] at ho';cases ho';have e3:fr ops a0 out j=fr ops a0 out0 j:=Kh6 j fun k hk=>by rw [g1 k (by omega),upd_ne _ _ (by omega)]
     rw [e3,g1 j (by omega),upd_same];exact hv
    exact g2 j o' (by omega) (by simp at hj';omega) ho'
   rw [show i+(o::l).length=i+1+l.length from by simp;omega];exact g3
 obtain ⟨out,_,h2,h3⟩:=key l1 0 (fun _=>undef) (fun j hj=>by rw [Nat.zero_add];exact hl1 j (by omega)) h;rw [Nat.zero_add,hm] at h3;exact ⟨out,fun j o hj ho=>h2 j o (Nat.zero_le _) (by omega) ho,h3⟩
theorem out_same (hsl:slotsB ops=true)(hp:preB ops pre=true){S:Nat→Bool}(hc:Keu ops S){T:Nat→Bool}(hT:∀ k,T k=(S k && ev k))(hpe:∀ i,∀ k∈pre i,ev k=true)
  {vals vals' out out':Nat→Value} {w:World}
  {m:Nat} (ok:∀ j o,j < m→ops[j]? = some o→OK Zp P ops C pre ev vals j o (fr ops a0 out j) (out j)) (ok':∀ j o,j < m→ops[j]? = some o→OK Zp P ops C pre ev vals' j o (fr ops a0 out' j) (out' j))
  (hv:∀ e,T e=true→vals e=vals' e) (hC:C T vals w) (hC':C T vals' w):∀ k,k < m→∀ o,ops[k]? = some o→S k=true→out k=out' k:=by
 intro k;induction k using Nat.strongRecOn with
 |
  _ k ih=>
  intro hkm o ho hk;have hal:∀ m,m≤k→∀ t∈o.looksAt ops,(fr ops a0 out m).tmps[t]? = (fr ops a0 out' m).tmps[t]?:=by
   intro m;induction m with
   | zero=>intro _ t _;rfl
   |
    succ m ihm=>
    intro hm t ht;have ih':=ihm (by omega) t ht;simp only [fr];cases hom:ops[m]? with
    | none=>exact ih'
    |
     some om=>
     simp only;by_cases hd:om.dst=some t
     ·rcases KgD hsl ho hom (by omega) with ⟨e,he,hb,hon⟩|hap
      ·have hSm:S m=true:=hon ▸ hc k o ho hk e he hb;rw [ih m (by omega) (by omega) om hom hSm];exact KhG _ _ _ _ _ ih'
      rw [Kfm hd ht] at hap;cases hap
     rw [Kgi _ _ _ _ hd,Kgi _ _ _ _ hd];exact ih'
  have hal':alike ops o (fr ops a0 out k) (fr ops a0 out' k):=hal k (Nat.le_refl _);have h1:=ok k o hkm ho;have h2:=ok' k o hkm ho;have hns:∀ cs x,o.op ≠ .select cs x:=by
   simp only [slotsB,Bool.and_eq_true] at hsl;exact fun cs x=>Region.noSelect_spec hsl.1 k o cs x ho
  unfold OK at h1 h2;rw [← Ket hal'] at h2;by_cases hw:Region.wanted o (yielded ops (fr ops a0 out k).tmps)=true
  ·rw [if_pos hw] at h1 h2;by_cases he:ev k=true
   ·rw [if_pos he] at h1 h2;rw [h1.1,h2.1];exact hv k (by rw [hT,hk,he];rfl)
   rw [if_neg he] at h1 h2;have hpk:∀ x∈pre k,T x=true:=fun x hx=>by
    rw [hT,KgE hp hsl hc k o ho (fun e he' hb=>hc k o ho hk e he' hb) x hx,hpe k x hx];rfl
   have r1:=h1 T w hC hpk;have r2:=h2 T w hC' hpk;rw [← KfF hns hal'] at r2;rw [r1] at r2;simpa using r2
  rw [if_neg hw] at h1 h2;rw [h1.1,h2.1]
theorem any_all (hZ:∀ c a w,a.tmps.size=a0.tmps.size→a.defers=a0.defers→Zp c w→Q (.panic c) a w)(hsl:slotsB ops=true)(hp:preB ops pre=true)(hpe:∀ i,∀ k∈pre i,ev k=true){tp:List (List Nat)}{m:Nat}{l1 l2:List Oper}(hops:ops.toList=l1++l2)(hm:l1.length=m)(hevm:∀ i,ev i=true→i < m)(hsuf:sufB ops tp m=true)
  (hloc:∀ S vals vals' w,(∀ e,S e=true→vals e=vals' e)→C S vals w→C S vals' w)
  (hwalk:∀ vals,Lx Zp P ops C pre ev vals (fun a=>∀ S w,(∀ i,ev i=true→S i=true)→C S vals w→wpList P ops Q l2 a w) 0 l1 a0) :
  ∀
   (fuel:Nat) (listed:Array Bool) (w:World) (vals out:Nat→Value),listed.size=ops.size →
   (∀ j o,j < m→ops[j]? = some o→OK Zp P ops C pre ev vals j o (fr ops a0 out j) (out j)) →
   (∀ S w,(∀ i,ev i=true→S i=true)→C S vals w→wpList P ops Q l2 (fr ops a0 out m) w) →
   (∀ j,m≤j→listed.getD j false=false)→Keu ops (fun i=>listed.getD i false) →
   C (fun i=>listed.getD i false && ev i) vals w →
   (listed.toList.countP (fun b=>!b))≤fuel →
   wpAny P .any ops Q fuel listed (frS ops a0 out (fun i=>listed.getD i false) m) w:=by
 intro fuel;have hl1:∀ j,j < m→l1[j]? = ops[j]?:=fun j hj=>by
  rw [← Array.getElem?_toList,hops,List.getElem?_append_left (by omega)]
 have hl2:∀ j,l2[j]? = ops[m+j]?:=fun j=>by
  rw [← Array.getElem?_toList,hops,List.getElem?_append_right (by omega),hm];congr 1;omega
 have hmn:m+l2.length=ops.size:=by rw [← Array.length_toList,hops,List.length_append,hm]
 have fin:∀ (fuel:Nat) (listed:Array Bool) (w:World) (vals out:Nat→Value),listed.size=ops.size →
   (∀ S w,(∀ i,ev i=true→S i=true)→C S vals w→wpList P ops Q l2 (fr ops a0 out m) w) →
   C (fun i=>listed.getD i false && ev i) vals w→(∀ j,j < m→listed.getD j false=true)→(∀ j,m≤j→listed.getD j false=false)→Keu ops (fun i=>listed.getD i false)→l2.length≤fuel →
   wpAny P .any ops Q fuel listed (frS ops a0 out (fun i=>listed.getD i false) m) w:=by
  intro fuel listed w vals out hsz hfin hC hlo hhi hcl hf;rw [frS_all m hlo];exact seq_any hsl hsuf l2 m fuel listed _ w (Nat.le_refl _) hsz hl2 (fun j hj _=>hlo j hj) hhi hcl hf (hfin _ w (fun i he=>by rw [hlo i (hevm i he),he];rfl) hC)
 have hcnt:∀ (listed:Array Bool),listed.size=ops.size→(∀ j,m≤j→listed.getD j false=false)→l2.length≤listed.toList.countP (fun b=>!b):=by
  intro listed hsz hhi;have h1:listed.toList=listed.toList.take m++listed.toList.drop m:=(List.take_append_drop m _).symm;rw [h1,List.countP_append];have h2:(listed.toList.drop m).countP (fun b=>!b)=(listed.toList.drop m).length:=by
   rw [List.countP_eq_length];intro b hb;obtain ⟨k,hk,rfl⟩:=List.mem_iff_getElem.1 hb;have:=hhi (m+k) (by omega);have hk':m+k < listed.size:=by simp at hk;omega
   simp [hk'] at this;simp [this]
  rw [h2];simp;omega
 induction fuel with
 |
  zero=>
  intro listed w vals out hsz hok hfin hhi hcl hC hcount;have hc2:=hcnt listed hsz hhi;refine fin 0 listed w vals out hsz hfin hC (fun j hj=>?_) hhi hcl (by omega);have h1:listed.toList.countP (fun b=>!b)=0:=by omega
  rw [List.countP_eq_zero] at h1;have h':j < listed.size:=by omega
  have:=h1 listed[j] (by simp);simp [h'];simpa using this
 |
  succ fuel ih=>
  intro listed w vals out hsz hok hfin hhi hcl hC hcount;by_cases hall:∀ j,j < m→listed.getD j false=true
  ·exact fin (fuel+1) listed w vals out hsz hfin hC hall hhi hcl (by have:=hcnt listed hsz hhi;omega)
  refine ⟨fun hr=>absurd (fun j hj=>KkQ hsl hsz hr j (by omega)) hall,fun i hi=>?_⟩;obtain ⟨hun,o,ho,hdeps⟩:=mem_ready.1 hi;have him:i < m:=by
   rcases Nat.lt_or_ge i m with h|h
   ·exact h
   exact absurd (fun j hj=>Klx hsl hsuf hcl ho h hdeps j (by omega)) hall
  have hhi':∀ j,m≤j→(listed.setIfInBounds i true).getD j false=false:=fun j hj=>by rw [getD_set_ne false (by omega)];exact hhi j hj
  have hil:i < listed.size:=by rw [hsz];exact (Array.getElem?_eq_some_iff.1 ho).1
  have hun':listed.getD i false=false:=by simp [hil] at hun ⊢;exact hun
  have hal:=Kfa (a0:=a0) (out:=out) hsl hcl ho hun' hdeps m (by omega);have hns:∀ cs x,o.op ≠ .select cs x:=by
   have:=hsl;simp only [slotsB,Bool.and_eq_true] at this;exact fun cs x=>Region.noSelect_spec this.1 i o cs x ho
  have hcl':Keu ops (fun j=>(listed.setIfInBounds i true).getD j false):=by
   have hpt:∀ j,(listed.setIfInBounds i true).getD j false=upd (fun j=>listed.getD j false) i true j:=fun j=>congrFun (Kgb hil) j
   intro j oj hoj hj e he hb;show (listed.setIfInBounds i true).getD e.on false=true
   have hj':(listed.setIfInBounds i true).getD j false=true:=hj;rw [hpt] at hj' ⊢;by_cases hei:e.on=i
   ·rw [hei,upd_same]
   rw [upd_ne _ _ hei];by_cases hji:j=i
   ·subst hji;rw [ho] at hoj;cases hoj;exact hdeps e he hb
   rw [upd_ne _ _ hji] at hj';exact hcl j oj hoj hj' e he hb
  have hcount':(listed.setIfInBounds i true).toList.countP (fun b=>!b)≤fuel:=by
   have h1:(listed.setIfInBounds i true).toList=listed.toList.set i true:=by simp
   have h2:listed[i]=false:=by simp [hil] at hun;exact hun
   have h3:i < listed.toList.length:=by simpa using hil
   have h4:listed.toList[i]=false:=by simpa using h2
   have h5:0 < listed.toList.countP (fun b=>!b):=List.countP_pos_iff.2 ⟨false,by rw [← h4];exact List.getElem_mem h3,rfl⟩;have h6:=List.countP_set (p:=fun b=>!b) (a:=true) h3;simp only [h4,Bool.not_false,Bool.not_true,if_true,Bool.false_eq_true,if_false] at h6;rw [h1,h6];omega
  have hpre:=KgE hp hsl hcl i o ho hdeps;have hpre':∀ k∈pre i,(listed.getD k false && ev k)=true:=fun k hk=>by rw [hpre k hk,hpe i k hk];rfl
  have hput:∀ out',(∀ j,j < m→listed.getD j false=true→out j=out' j)→(frS ops a0 out (fun j=>listed.getD j false) m).put o.dst (out' i)=frS ops a0 out' (fun j=>(listed.setIfInBounds i true).getD j false) m:=by
   intro out' hout;rw [Kgb hil,KmD hsl hcl ho hun' m,if_pos him,Khu m hout]
  have hT:(fun j=>(listed.setIfInBounds i true).getD j false && ev j)=if ev i=true then upd (fun j=>listed.getD j false && ev j) i true else (fun j=>listed.getD j false && ev j):=by
   funext j;rw [show (listed.setIfInBounds i true).getD j false=upd (fun j=>listed.getD j false) i true j from congrFun (Kgb hil) j];by_cases he:ev i=true
   ·rw [if_pos he];by_cases hji:j=i
    ·subst hji;simp [upd,he]
    rw [upd_ne _ _ hji,upd_ne _ _ hji]
   rw [if_neg he];by_cases hji:j=i
   ·subst hji;simp [he]
   rw [upd_ne _ _ hji]
  have hoki:=hok i o him ho;have again:∀ (v:Value) (w':World),ev i=true→C (upd (fun j=>listed.getD j false && ev j) i true) (upd vals i v) w'→(Region.wanted o (yielded ops (fr ops a0 out i).tmps)=true∨v=undef)→C (fun j=>listed.getD j false && ev j) vals w →
    wpAny P .any ops Q fuel (listed.setIfInBounds i true) ((frS ops a0 out (fun j=>listed.getD j false) m).put o.dst v) w':=by
   intro v w' he hC' hwv hC0;obtain ⟨out',hok',hfin'⟩:=lx_good hl1 hm (hwalk (upd vals i v));have hok'':=hok';have hsame:∀ e,(listed.getD e false && ev e)=true→vals e=upd vals i v e:=fun e h=>by
    rw [upd_ne];intro e2;subst e2;rw [hun'] at h;cases h
   have hC1:=hloc _ vals (upd vals i v) w hsame hC0;have houts:=out_same hsl hp hcl (T:=fun j=>listed.getD j false && ev j) (fun _=>rfl) hpe hok hok'' hsame hC0 hC1;have houts':∀ j,j < m→listed.getD j false=true→out j=out' j:=fun j hj h=>houts j hj ops[j] (Array.getElem?_eq_getElem (by omega)) h
   have hal2:alike ops o (fr ops a0 out i) (fr ops a0 out' i):=by
    have h1:=Kfa (a0:=a0) (out:=out) hsl hcl ho hun' hdeps m (by omega);have h2:=Kfa (a0:=a0) (out:=out') hsl hcl ho hun' hdeps m (by omega);rw [Khu m houts'] at h1;exact fun t ht=>(h1 t ht).symm.trans (h2 t ht)
   have hi2:=hok'' i o him ho;have houti:out' i=v:=by
    unfold OK at hi2;rw [← Ket hal2] at hi2;by_cases hw:Region.wanted o (yielded ops (fr ops a0 out i).tmps)=true
    ·rw [if_pos hw,if_pos he] at hi2;rw [hi2.1,upd_same]
    rw [if_neg hw] at hi2;rw [hi2.1];rcases hwv with h|h
    ·exact absurd h hw
    exact h.symm
   have hh:=ih (listed.setIfInBounds i true) w' (upd vals i v) out' (by simpa using hsz) hok'' hfin' hhi' hcl' (by rw [hT,if_pos he];exact hC') hcount';rw [← hput out' houts',houti] at hh;exact hh
  unfold wpOp;simp only [ho];rw [Ket hal];unfold OK at hoki;by_cases hw:Region.wanted o (yielded ops (fr ops a0 out i).tmps)=true
  ·rw [if_pos hw];rw [if_pos hw] at hoki;refine .inl ?_;by_cases he:ev i=true
   ·rw [if_pos he] at hoki;have hg:=hoki.2 _ w hC (by simp [hun']) hpre';have hg2:Gives Zp P o (frS ops a0 out (fun j=>listed.getD j false) m) w _:=Gives.congr (KfF hns hal) hg;exact Gives.wp (fun c w' hz=>hZ c _ w' (KlJ m).1 (KlJ m).2 hz) (hg2.mono fun v w' hC'=>again v w' he hC' (.inl hw) hC)
   rw [if_neg he] at hoki;have hr:=hoki _ w hC hpre';rw [← KfF hns hal] at hr;have hh:=ih (listed.setIfInBounds i true) w vals out (by simpa using hsz) hok hfin hhi' hcl' (by rw [hT,if_neg he];exact hC) hcount';rw [← hput out (fun _ _ _=>rfl)] at hh;unfold Oper.wp;rw [hr];exact hh
  rw [if_neg hw];rw [if_neg hw] at hoki;by_cases he:ev i=true
  ·have hC':=hoki.2 he _ w hC (by simp [hun']);exact again undef w he hC' (.inr rfl) hC
  have hh:=ih (listed.setIfInBounds i true) w vals out (by simpa using hsz) hok hfin hhi' hcl' (by rw [hT,if_neg he];exact hC) hcount';rw [← hput out (fun _ _ _=>rfl),hoki.1] at hh;exact hh
theorem region_any {id:Nat}{w:World}{l1 l2:List Oper}(C:(Nat→Bool)→(Nat→Value)→World→Prop)(pre:Nat→List Nat)(ev:Nat→Bool)(tp:List (List Nat))(hZ:∀ c a w,a.tmps.size=a0.tmps.size→a.defers=a0.defers→Zp c w→Q (.panic c) a w)(hfo:P.follows .mixedOrders=true)
  (hsl:slotsB (l1++l2).toArray=true) (hp:preB (l1++l2).toArray pre=true) (hpe:∀ i,∀ k∈pre i,ev k=true) (hevm:∀ i,ev i=true→i < l1.length) (hsuf:sufB (l1++l2).toArray tp l1.length=true)
  (hloc:∀ S vals vals' w,(∀ e,S e=true→vals e=vals' e)→C S vals w→C S vals' w)
  (h0:∀ vals,C (fun _=>false) vals { w with drawn:=w.drawn+1 })
  (hwalk:∀ vals,Lx Zp P (l1++l2).toArray C pre ev vals (fun a=>∀ S w,(∀ i,ev i=true→S i=true)→C S vals w→wpList P (l1++l2).toArray Q l2 a w) 0 l1 a0) :
  (Code.region id (l1++l2).toArray true).wp P Q a0 w:=by
 refine wp_region_any hfo ?_;have hl1:∀ j,j < l1.length→l1[j]? = (l1++l2).toArray[j]?:=fun j hj=>by simp [List.getElem?_append_left hj]
 obtain ⟨out,hok,hfin⟩:=lx_good hl1 rfl (hwalk (fun _=>undef));generalize hN:(l1++l2).toArray.size=N;have hrep:(fun j=>(Array.replicate N false).getD j false)=fun _=>false:=by
  funext j;by_cases hj:j < N<;>simp [hj]
 have hrj:∀ j,(Array.replicate N false).getD j false=false:=fun j=>congrFun hrep j
 have h:=any_all (Q:=Q) (a0:=a0) hZ hsl hp hpe (by simp) rfl hevm hsuf hloc hwalk N (Array.replicate N false) { w with drawn:=w.drawn+1 } (fun _=>undef) out (by simp [← hN])
  hok hfin (fun j _=>hrj j) (by intro j o _ hj;have h3:(Array.replicate N false).getD j false=true:=hj;rw [hrj] at h3;cases h3)
  (by
   have:(fun i=>(Array.replicate N false).getD i false && ev i)=fun _=>false:=by
    funext j;rw [hrj];rfl
   rw [this];exact h0 _)
  (by have:=List.countP_le_length (p:=fun b=>!b) (l:=(Array.replicate N false).toList);simpa using this)
 rw [hrep,Klw _ (fun _ _=>rfl)] at h;exact h
end
end Go.Proofs.YtipfljkjjddapaaGreat.Jz
namespace Go.Proofs.YtipfljkjjddapaaGreat.Ab.Az
open Go Ab
set_option linter.all false
section
variable {X : Type} (Zp : List PanicEntry → World → Prop) (P : Program) (C : Ctx) (N : Nat) (l : List Oper) (m : Nat) (De : Nat → D) (al : AL) (pre : List (List Nat)) (ev : List Nat) (v : Hx X) (h : List (Nat × Blk)) (k : List (Nat × Value)) (Q : Exit → S → Prop)
def Zx (bs:Nat→Nat)(i:Nat)(rest:List Oper)(te:TE):Prop:=
 ∀
  H0 vals a,(∀ e,bs e=blk (vals e))→TOKz De al ev H0 bs vals te a→a.tmps.size=N→a.defers=[] →
  Jz.Lx Zp P l.toArray (Cx C De al pre ev v h k H0) (fun i=>pre.getD i []) (fun i=>ev.contains i) vals (finX P C N l m De al pre ev v h k Q H0 vals) i rest a
end
section
variable {X : Type} {Zp : List PanicEntry → World → Prop} {P : Program} {C : Ctx} {N : Nat} {l : List Oper} {m : Nat} {De : Nat → D} {al : AL} {pre : List (List Nat)} {ev : List Nat} {v : Hx X} {h : List (Nat × Blk)} {k : List (Nat × Value)} {Q : Exit → S → Prop} {tab : List (Option TI)} {bs : Nat → Nat} {i : Nat} {o : Oper} {rest : List Oper} {te : TE}
theorem zx_nil {t':List (Nat×D)}(e1:vis ev te=t')(hv:ev.contains v.e=true)(hal:∀ e,isAl al e=true→ev.contains e=true)(g:∀ x:X,v.G x→opsD P C N l (l.drop m) ⟨t',v.h1 x++al.map (fun x=>(bs x.1,Blk.cells x.2.1 x.2.2)),v.k1 x⟩ Q):Zx Zp P C N l m De al pre ev v h k Q bs i [] te:=by
 intro H0 vals a hbs kt hN hdf S w hS hC;obtain ⟨H,x,hG,hle,_,c,hev⟩:=hC;subst e1;have hse:=hS _ hv;rw [hse] at c;simp only [cond_true] at c;refine g x (hG hse) a w ⟨H,?_,KbP hbs kt hle fun e _ he=>hev e (hS e he) he,hN,hdf⟩;rw [Ked fun e he=>hS e (hal e he)] at c;have:(fun x:Nat×List D×TypeId=>(bs x.1,Blk.cells x.2.1 x.2.2))=fun x=>(blk (vals x.1),Blk.cells x.2.1 x.2.2):=by funext x;rw [hbs]
 rw [this];exact c
theorem zx_q {j:Nat}{x:Value}{p:List Nat}{t:List (Nat×D)}(hp:pre.getD i []=p)(ht:vis p te=t)(hx:Ex P o t (.v x))(hw:wantD l (vis [] te) o=some true)(hd:o.dst=some j)(hi:Nat.blt j N=true)(hne:ev.contains i=false)(hone:one x=true)(_hpe:p.all ev.contains=true)
  (g:Zx Zp P C N l m De al pre ev v h k Q bs (i+1) rest ((j,.v x,none)::te)):Zx Zp P C N l m De al pre ev v h k Q bs i (o::rest) te:=by
 intro H0 vals a hbs kt hN hdf;refine ⟨x,?_,?_⟩
 ·unfold Jz.OK;rw [KaL (KcA hbs kt) hw,if_pos rfl,if_neg (by show ¬ ev.contains i=true;rw [hne];exact Bool.false_ne_true)];rintro S w ⟨H,x,hG,hle,_,c,hev⟩ hpS;replace hpS:∀ k∈pre.getD i [],S k=true:=hpS;rw [hp] at hpS;obtain ⟨r,h1,h2⟩:=hx H a w (ht ▸ KbP hbs kt hle fun e he he2=>hev e (hpS e (by simpa using he)) he2);rw [KV h2] at h1;exact h1
 rw [hd];refine g H0 vals _ hbs (kt.put (by rw [hN];simpa using hi) (fun _ H _=>rep_v hone) (fun e he=>by cases he)) ?_ hdf;simp only [Act.put,Array.size_setIfInBounds];exact hN
theorem zx_event {j:Nat}{p:List Nat}{t:List (Nat×D)}{d:D}(hp:pre.getD i []=p)(ht:vis p te=t)
  (hx0:p.contains v.e=false→∀ hh H a w,Core C H (h++hh) k w→TOK H t a→Jz.Gives Zp P o a w fun r w'=>∃ H',Core ⟨H,w,[]⟩ H' [] [] w'∧Rep H' d r)
  (hx1:(pre.getD v.e []).contains i=false→∀ (x:X),v.G x→∀ hh H a w,Core C H (v.h1 x++hh) (v.k1 x) w→TOK H t a→Jz.Gives Zp P o a w fun r w'=>∃ H',Core ⟨H,w,[]⟩ H' [] [] w'∧Rep H' d r)
  (hw:wantD l (vis [] te) o=some true) (hd:o.dst=some j) (hi:Nat.blt j N=true) (he:ev.contains i=true) (hev0:ev.contains v.e=true) (hna:isAl al i=false) (hnv:Nat.beq i v.e=false) (hDe:De i=d)
  (g:Zx Zp P C N l m De al pre ev v h k Q bs (i+1) rest ((j,d,some i)::te)):Zx Zp P C N l m De al pre ev v h k Q bs i (o::rest) te:=by
 intro H0 vals a hbs kt hN hdf;subst hDe;have hne:i ≠ v.e:=Nat.ne_of_beq_eq_false hnv;refine ⟨vals i,?_,?_⟩
 ·unfold Jz.OK;rw [KaL (KcA hbs kt) hw,if_pos rfl,if_pos he];refine ⟨rfl,?_⟩;rintro S w ⟨H,x,hG,hle,hdn,c,hev⟩ hSi hpS;replace hpS:∀ k∈pre.getD i [],S k=true:=hpS;have hpS':=hpS;rw [hp] at hpS;have htok:=ht ▸ KbP hbs kt hle fun e he he2=>hev e (hpS e (by simpa using he)) he2
  have key:Jz.Gives Zp P o a w fun r w'=>∃ H',Core ⟨H,w,[]⟩ H' [] [] w'∧Rep H' (De i) r:=by
   cases hs:S v.e with
   |
    false=>
    rw [hs] at c;refine hx0 ?_ _ H a w c htok;cases hc:p.contains v.e with
    | false=>rfl
    | true=>rw [hpS v.e (by simpa using hc)] at hs;cases hs
   |
    true=>
    rw [hs] at c;refine hx1 ?_ x (hG hs) _ H a w c htok;cases hc:(pre.getD v.e []).contains i with
    | false=>rfl
    |
     true=>
     have hm:i∈pre.getD v.e []:=by
      rw [List.contains_iff_exists_mem_beq] at hc;obtain ⟨z,hz,hb⟩:=hc;have:i=z:=by simpa using hb
      rw [this];exact hz
     rw [hdn v.e hs hev0 i hm] at hSi;cases hSi
  refine key.mono ?_;rintro r w' ⟨H',c',hr⟩;have hal:Kan al (Jx.upd S i true) (Jx.upd vals i r)=Kan al S vals:=KaH fun e hea=>by
   have:e ≠ i:=fun q=>by rw [q,hna] at hea;cases hea
   exact ⟨Jx.upd_ne _ _ this,fun _=>Jx.upd_ne _ _ this⟩
  refine ⟨H',x,fun q=>hG (by rwa [Jx.upd_ne _ _ (Ne.symm hne)] at q),Hp.le_trans hle c'.le,Kek hdn hpS',?_,fun e hes hee=>?_⟩
  ·rw [hal,Jx.upd_ne _ _ (Ne.symm hne)];have:=Core.call (h1:=[]) (k1:=[]) c c';exact this
  by_cases hei:e=i
  ·subst hei;rw [Jx.upd_same];exact ⟨fun q=>(by rw [hna] at q;cases q),fun _=>hr⟩
  rw [Jx.upd_ne _ _ hei] at hes ⊢;exact ⟨(hev e hes hee).1,fun q=>((hev e hes hee).2 q).mono c'.le⟩
 rw [hd];refine g H0 vals _ hbs (kt.put (by rw [hN];simpa using hi) (fun q=>by cases q) (fun e q=>?_)) ?_ hdf
 ·cases q;exact ⟨rfl,by unfold dE;rw [hna];rfl,he⟩
 simp only [Act.put,Array.size_setIfInBounds];exact hN
theorem zx_e {j:Nat}{p:List Nat}{t:List (Nat×D)}{d:D}(hp:pre.getD i []=p)(ht:vis p te=t)(hx:Ex P o t d)(hw:wantD l (vis [] te) o=some true)(hd:o.dst=some j)(hi:Nat.blt j N=true)(he:ev.contains i=true)(hev0:ev.contains v.e=true)(hna:isAl al i=false)(hnv:Nat.beq i v.e=false)(hDe:De i=d)
  (g:Zx Zp P C N l m De al pre ev v h k Q bs (i+1) rest ((j,d,some i)::te)):Zx Zp P C N l m De al pre ev v h k Q bs i (o::rest) te:=
 zx_event hp ht (fun _ _ H a w c kt=>let ⟨_,h1,h2⟩:=hx H a w kt;.of <| KbQ h1 ⟨H,Core.here c.ag,h2⟩) (fun _ _ _ _ H a w c kt=>let ⟨_,h1,h2⟩:=hx H a w kt;.of <| KbQ h1 ⟨H,Core.here c.ag,h2⟩) hw hd hi he hev0 hna hnv hDe g
theorem zx_E {j:Nat}{p:List Nat}{t:List (Nat×D)}{d:D}(hp:pre.getD i []=p)(ht:vis p te=t)(hx:ExE P o t d)(hw:wantD l (vis [] te) o=some true)(hd:o.dst=some j)(hi:Nat.blt j N=true)(he:ev.contains i=true)(hev0:ev.contains v.e=true)(hna:isAl al i=false)(hnv:Nat.beq i v.e=false)(hDe:De i=d)
  (g:Zx Zp P C N l m De al pre ev v h k Q bs (i+1) rest ((j,d,some i)::te)):Zx Zp P C N l m De al pre ev v h k Q bs i (o::rest) te:=
 zx_event hp ht (fun _ _ H a w c kt=>let ⟨_,_,H',h1,h2,h3⟩:=hx H a w c.ag kt;.of <| KbQ h1 ⟨H',h2,h3⟩) (fun _ _ _ _ H a w c kt=>let ⟨_,_,H',h1,h2,h3⟩:=hx H a w c.ag kt;.of <| KbQ h1 ⟨H',h2,h3⟩) hw hd hi he hev0 hna hnv hDe g
theorem zx_M {j:Nat}{p:List Nat}{t:List (Nat×D)}{d:D}(hp:pre.getD i []=p)(ht:vis p te=t)(hx0:p.contains v.e=false→ExM P C h k o t d)(hx1:(pre.getD v.e []).contains i=false→∀ x:X,v.G x→ExM P C (v.h1 x) (v.k1 x) o t d)(hw:wantD l (vis [] te) o=some true)(hd:o.dst=some j)(hi:Nat.blt j N=true)(he:ev.contains i=true)(hev0:ev.contains v.e=true)(hna:isAl al i=false)(hnv:Nat.beq i v.e=false)(hDe:De i=d)
  (g:Zx Zp P C N l m De al pre ev v h k Q bs (i+1) rest ((j,d,some i)::te)):Zx Zp P C N l m De al pre ev v h k Q bs i (o::rest) te:=
 zx_event hp ht (fun q hh H a w c kt=>let ⟨_,h1,h2⟩:=hx0 q hh H a w c kt;.of <| KbQ h1 ⟨H,Core.here c.ag,h2⟩) (fun q x hg hh H a w c kt=>let ⟨_,h1,h2⟩:=hx1 q x hg hh H a w c kt;.of <| KbQ h1 ⟨H,Core.here c.ag,h2⟩) hw hd hi he hev0 hna hnv hDe g
theorem zx_heavy {p:List Nat}{t:List (Nat×D)}(hp:pre.getD i []=p)(ht:vis p te=t)(hiv:i=v.e)
  (hx:∀ hh H a w,Core C H (h++hh) k w→TOK H t a→Jz.Gives Zp P o a w fun r w'=>∃ H',∃ x:X,v.G x∧H.le H'∧Core C H' (v.h1 x++hh) (v.k1 x) w'∧Rep H' (De v.e) r)
  (hw:wantD l (vis [] te) o=some true) (he:ev.contains i=true) (hna:isAl al i=false) {te':TE} (hd:(∃ j,o.dst=some j∧Nat.blt j N=true∧te'=(j,De v.e,some i)::te)∨(o.dst=none∧te'=te))
  (g:Zx Zp P C N l m De al pre ev v h k Q bs (i+1) rest te'):Zx Zp P C N l m De al pre ev v h k Q bs i (o::rest) te:=by
 subst hiv;intro H0 vals a hbs kt hN hdf;refine ⟨vals v.e,?_,?_⟩
 ·unfold Jz.OK;rw [KaL (KcA hbs kt) hw,if_pos rfl,if_pos he];refine ⟨rfl,?_⟩;rintro S w ⟨H,x,hG,hle,hdn,c,hev⟩ hSi hpS;replace hpS:∀ k∈pre.getD v.e [],S k=true:=hpS;have hpS':=hpS;rw [hp] at hpS;have htok:=ht ▸ KbP hbs kt hle fun e he he2=>hev e (hpS e (by simpa using he)) he2
  rw [hSi] at c;refine (hx _ H a w c htok).mono ?_;rintro r w' ⟨H',x',hG',hle',c',hr⟩;have hal:Kan al (Jx.upd S v.e true) (Jx.upd vals v.e r)=Kan al S vals:=KaH fun e hea=>by
   have:e ≠ v.e:=fun q=>by rw [q,hna] at hea;cases hea
   exact ⟨Jx.upd_ne _ _ this,fun _=>Jx.upd_ne _ _ this⟩
  refine ⟨H',x',fun _=>hG',Hp.le_trans hle hle',Kek hdn hpS',?_,fun e hes hee=>?_⟩
  ·rw [hal,Jx.upd_same];exact c'
  by_cases hei:e=v.e
  ·subst hei;rw [Jx.upd_same];exact ⟨fun q=>(by rw [hna] at q;cases q),fun _=>hr⟩
  rw [Jx.upd_ne _ _ hei] at hes ⊢;exact ⟨(hev e hes hee).1,fun q=>((hev e hes hee).2 q).mono hle'⟩
 rcases hd with ⟨j,hd,hi,rfl⟩|⟨hd,rfl⟩
 ·rw [hd];refine g H0 vals _ hbs (kt.put (by rw [hN];simpa using hi) (fun q=>by cases q) (fun e q=>?_)) ?_ hdf
  ·cases q;exact ⟨rfl,by unfold dE;rw [hna];rfl,he⟩
  simp only [Act.put,Array.size_setIfInBounds];exact hN
 rw [hd];exact g H0 vals _ hbs kt hN hdf
def ZpD (Zc:Int×Int→List PanicEntry)(C:Ctx)(pe:Int×Int)(c:List PanicEntry)(w:World):Prop:=c=Zc pe∧∃ H',Core C H' [] [] w
theorem zx_nil0 {v:Hx X}(hG:∀ x,¬ v.G x)(hv:ev.contains v.e=true):Zx Zp P C N l m De al pre ev v h k Q bs i [] te:=by
 intro H0 vals a hbs kt hN hdf S w hS hC;obtain ⟨H,x,hg,_⟩:=hC;exact (hG x (hg (hS _ hv))).elim
theorem zx_callE {Zc:Int×Int→List PanicEntry}{ρ:Type}{pe:Int×Int}{f:FuncId}{args:List Operand}{ts:Array TypeId}{j:Nat}{p:List Nat}{t:List (Nat×D)}{ds ds':List D}{h1 h2:List (Nat×Blk)}{k1 k2:List (Nat×Value)}{R:ρ→D→List (Nat×Blk)→List (Nat×Value)→Prop}
  (hp:pre.getD i []=p) (ht:vis p te=t) (hiv:i=v.e) (hc:KbB Zc P f ds' h1 k1 (.inl pe) R) (ho:o.op=.call ⟨.value (.func f),args.toArray,ts⟩) (ha:KbJ args (opD t)=some ds) (hwk:WkL ds ds')
  (hh:h.Perm (h1++h2)) (hk:k.Perm (k1++k2)) {d:D} (hDe:De v.e=d)
  (hw:wantD l (vis [] te) o=some true) (he:ev.contains i=true) (hna:isAl al i=false) (hd:o.dst=some j) (hi:Nat.blt j N=true)
  (g:Zx (ZpD Zc C pe) P C N l m De al pre ev v h k Q bs (i+1) rest ((j,d,some i)::te)):Zx (ZpD Zc C pe) P C N l m De al pre ev v h k Q bs i (o::rest) te:=by
 subst hDe;refine zx_heavy hp ht hiv (fun hh' H a w c kt=>?_) hw he hna (.inl ⟨j,hd,hi,rfl⟩) g;obtain ⟨hg,hc⟩:=hc;unfold Jz.Gives;rw [KdT ho hg];simp only [];have hv:=hwk H _ (KbY kt ha);rw [List.map_toArray];have c1:Core C H (h1++(h2++hh')) (k1++k2) w:=c.perm (by rw [← List.append_assoc];exact hh.append_right hh') hk;have nd:=(Kbz h1 (h2++hh') k1 k2).nodup_iff.1 c1.nd;rw [List.nodup_append] at nd;refine (hc H w _ hv c.ag (fun q hq=>c1.blks q (List.mem_append_left _ hq)) (fun q hq=>c1.toks q (List.mem_append_left _ hq)) nd.1).mono ?_;rintro e w' ⟨rfl,H',hcore⟩;refine .inr ⟨_,rfl,rfl,H',?_⟩
 have:=Core.call (h1':=[]) (k1':=[]) c1 hcore;exact this.drop (List.nil_sublist _) (List.nil_sublist _)
theorem wpD_heavyZ {Zc:Int×Int→List PanicEntry}{pe:Int×Int}{id:Nat}{t:List (Nat×D)}(m:Nat)(al:AL)(pre:List (List Nat))(ev:List Nat)(tp:List (List Nat))(v:Hx X)(x0:X)(gQ:Q (.panic (Zc pe)) ⟨[],[],[]⟩)(hfo:P.follows .mixedOrders=true)(hsl:Jx.slotsB l.toArray=true)
  (hp:Jx.preB l.toArray (fun i=>pre.getD i [])=true) (hpe:pre.all (·.all ev.contains)=true) (hev:ev.all (· < (l.take m).length)=true) (hsuf:Jx.sufB l.toArray tp (l.take m).length=true)
  (hwalk:ExDs ev fun De=>∀ bs,Zx (ZpD Zc C pe) P C N l m De al pre ev v h k Q bs 0 (l.take m) (Kdw t)):wpD P C N (.region id l.toArray true) ⟨t,h,k⟩ Q:=by
 obtain ⟨De,hwalk⟩:=Kgn hwalk;rintro a w ⟨H,c,kt,hN,hdf⟩;have key:=Jz.region_any (Zp:=ZpD Zc C pe) (P:=P) (Q:=QD C N Q) (id:=id) (w:=w) (a0:=a) (l1:=l.take m) (l2:=l.drop m) (Cx C De al pre ev v h k H) (fun i=>pre.getD i []) (fun i=>ev.contains i) tp ?_ hfo (by rw [List.take_append_drop];exact hsl) (by rw [List.take_append_drop];exact hp) ?_ ?_
  (by rw [List.take_append_drop];exact hsuf) ?_ ?_ ?_
 ·rw [List.take_append_drop] at key;exact key
 ·rintro c a' w' e1 e2 ⟨rfl,H',c'⟩;exact ⟨⟨[],[],[]⟩,⟨H',c',fun i d e=>by simp [look] at e,by rw [e1];exact hN,by rw [e2];exact hdf⟩,gQ⟩
 ·intro i k hk;rw [List.all_eq_true] at hpe;by_cases hi:i < pre.length
  ·have e:pre.getD i []=pre[i]:=by simp [hi]
   rw [e] at hk;exact List.all_eq_true.1 (hpe _ (List.getElem_mem hi)) k hk
  have e:pre.getD i []=[]:=by simp [Nat.le_of_not_lt hi]
  rw [e] at hk;cases hk
 ·intro i hi;rw [List.all_eq_true] at hev;simpa using hev i (by simpa using hi)
 ·rintro S vals vals' w hv ⟨H',x,hG,hle,hdn,c',hr⟩;refine ⟨H',x,hG,hle,hdn,?_,fun e hes hee=>?_⟩
  ·rw [← KaH (S:=S) (S':=S) (vals:=vals) (vals':=vals') fun e _=>⟨rfl,hv e⟩];exact c'
  rw [← hv e hes];exact hr e hes hee
 ·intro vals;refine ⟨H,x0,(fun q=>by cases q),Hp.le_refl H,(fun e he=>by cases he),?_,fun e he=>by cases he⟩;rw [KdI,List.append_nil];exact c.drew
 intro vals;rw [List.take_append_drop];exact hwalk (fun e=>blk (vals e)) H vals a (fun _=>rfl) (fun j d o e=>by
  obtain ⟨h1,h2⟩:=Kee e;obtain ⟨r,h3,h4⟩:=kt j d h1;exact ⟨r,h3,fun _ H' hle=>h4.mono hle,fun e he=>by rw [h2] at he;cases he⟩) hN hdf
end
end Go.Proofs.YtipfljkjjddapaaGreat.Ab.Az
namespace Go.Proofs.YtipfljkjjddapaaGreat.Ab
section
open Go
set_option linter.all false
abbrev iD (x:Int):D:=.v (.int .i64 x)
abbrev tD (x:ByteArray):D:=.v (.string x)
structure Kab where
 gName:ByteArray
 gPtr:Bool
def Ko (x:Kab):D:=.agg [tD x.gName,.v (.bool x.gPtr)]
structure Kc where
 gOp:Int
 gN:Int
 gName:ByteArray
 gKids:List Kc
 gAt:Int
mutual
def Kj:Kc→D
 | ⟨f0,f1,f2,f3,f4⟩=>.agg [iD f0,iD f1,tD f2,.lst 5 (KfY f3) .no,iD f4]
def KfY:List Kc→List D
 | []=>[]
 | x::l=>Kj x::KfY l
end
theorem Kkz:∀ l,KfY l=l.map Kj
 | []=>by simp [KfY]
 | x::l=>by simp only [KfY,List.map_cons,Kkz l]
theorem Kv (x:Kc):Kj x=.agg [iD x.gOp,iD x.gN,tD x.gName,.lst 5 (x.gKids.map Kj) .no,iD x.gAt]:=by
 cases x;simp only [Kj,Kkz]
theorem mk132:KeyOK Tryz.prog 9 (fun s:ByteArray=>Value.string s):=str_key (by kernel_rfl)
theorem mz132:(Tryz.prog.info? 3).bind (·.zero)=some (.int .i64 (0:Int)):=by kernel_rfl
theorem mr132 (H:Hp):Rep H (eI64 (0:Int)) (.int .i64 (0:Int)):=rep_v rfl
def Kb4 (a0:Kc)(a1:Int):Option ((Int×Int)⊕(Unit)):=
 (bif (a1 != (1:Int)) then ((Kbp a0.gAt (9:Int)).bind fun x3=>Sum.elim (fun pe3=>some (.inl pe3)) (fun z3=>some (.inr ())) x3) else some (.inr ()))
theorem KbF (a0:Kc)(a1:Int)(r:(Int×Int)⊕(Unit))(h0:Kb4 a0 a1=some r):KbB zc Tryz.prog 101 [Kj a0,iD a1] [] [] r (fun r d h k=>d=.tup []∧h=[]∧k=[]):=by
 have hm:=KA h0;unfold Kb4 at hm;clear h0;refine KfX htab Tryz.func101 rfl rfl rfl rfl rfl (fun C=>?_);refine w_eq (i:=0) rfl (Wk.of_eq (Kv a0)) ?_;refine Kg ?_;refine p_box rfl rfl rfl rfl rfl rfl rfl (fun b1=>?_);refine KH ?_;refine pu ?_;refine pu ?_;refine Ke ?_;refine cY hm (fun hm=>?_) fun hm=>?_
 ·refine Kx ?_;refine pu ?_;refine pL 0 ?_;obtain ⟨x3,q3,hm⟩:=Kb hm;rcases x3 with pe3|z3
  ·simp only [Sum.elim_inl] at hm;refine KaV (Ka4 a0.gAt (9:Int) (.inl pe3) q3) rfl rfl rfl Wl Pf Pf ?_;have er4:=Kh hm;subst er4;exact KaB
  simp only [Sum.elim_inr] at hm;refine K1 (Ka4 a0.gAt (9:Int) (.inr z3) q3) rfl rfl rfl rfl rfl Wl ?_;rintro _ rfl;refine Kz ?_;have er5:=Kh hm;subst er5;refine Kca ?_;refine rP (t':=[]) [] [] 0 wN lN ?_;exact ⟨rfl,rfl,rfl⟩
 refine Ku ?_;have er6:=Kh hm;subst er6;refine Kca ?_;refine rP (t':=[]) [] [] 0 wN lN ?_;exact ⟨rfl,rfl,rfl⟩
def KfM (a0:Int)(a1:Int)(a2:List Int):Option ((Int×Int)⊕(Int)):=
 (Option.bind (α:=(Unit)⊕((Int×Int)⊕(Int))) (bif (a0==(0:Int)) then ((Kbp a1 (7:Int)).bind fun x5=>Sum.elim (fun pe5=>some (.inr (.inl pe5))) (fun z5=>some (.inl ())) x5) else some (.inl ())) (Sum.elim (fun y3=>(Option.bind (α:=(Unit)⊕((Int×Int)⊕(Int))) (loopM (fun (s21:Int)=>(bif (decide (s21 < (a2.length:Int))) then ((idx a2 s21).bind fun x31=>(bif (x31==a0) then some (.done (.inr (.inr a0))) else some (.next (IntKind.i64.wrap (s21+(1:Int)))))) else some (.done (.inl ())))) (0:Int)) (Sum.elim (fun y20=>((Kbp a1 (9:Int)).bind fun x34=>Sum.elim (fun pe34=>some (.inl pe34)) (fun z34=>some (.inr (0:Int))) x34)) (fun r=>some r)))) (fun r=>some r)))
theorem Kga (a0:Int)(a1:Int)(a2:List Int)(r:(Int×Int)⊕(Int))(h0:KfM a0 a1 a2=some r):KbB zc Tryz.prog 110 [iD a0,iD a1,.lst 1 (a2.map eI64) .no] [] [] r (fun r d h k=>d=iD r∧h=[]∧k=[]):=by
 have hm:=KA h0;unfold KfM at hm;clear h0;refine KfX htab Tryz.func110 rfl rfl rfl rfl rfl (fun C=>?_);refine Kg ?_;refine pu ?_;refine Ke ?_;refine Kk ?_;refine Kg ?_;refine pu ?_;refine pu ?_;refine Ke ?_;obtain ⟨x3,q3,ho3⟩:=Kb hm;refine Kat (τ:=Unit) (Y:=Unit) (fun y3 z3=>(⟨[(0,iD a0),(1,iD a1),(2,.lst 1 (a2.map eI64) .no)],[],[]⟩:S)) x3 ?_ ?_
 ·clear hm;have hm:=KA q3;refine cY hm (fun hm=>?_) fun hm=>?_
  ·refine Kx ?_;refine pu ?_;obtain ⟨x5,q5,hm⟩:=Kb hm;rcases x5 with pe5|z5
   ·simp only [Sum.elim_inl] at hm;refine KaV (Ka4 a1 (7:Int) (.inl pe5) q5) rfl rfl rfl Wl Pf Pf ?_;have e3:=Kh hm;subst e3;refine Kap ?_;clear hm;have hm:=ho3;simp only [Sum.elim_inr] at hm
    refine K3 ?_;have er6:=Kh hm;subst er6;exact KaB
   simp only [Sum.elim_inr] at hm;refine K1 (Ka4 a1 (7:Int) (.inr z5) q5) rfl rfl rfl rfl rfl Wl ?_;rintro _ rfl;refine Kz ?_;have e3:=Kh hm;subst e3;refine Kaj ?_;exact wO (wP (wC (wC (wC wN))))
  refine Ku ?_;have e3:=Kh hm;subst e3;refine Kaj ?_;exact wO (wP (wC (wC (wC wN))))
 intro y3 s3 hx3 hw3;subst hx3;clear hm;have hm:=ho3;simp only [Sum.elim_inl] at hm;clear q3 ho3;refine Kd ?_;refine KO hw3 (fun z3=>?_);refine Kk ?_;refine Kg ?_;refine pu ?_;refine Kar htab rfl rfl rfl rfl rfl rfl rfl (by first|exact KQ|rfl) ?_;refine pu ?_;refine Ke ?_;obtain ⟨x20,q20,ho20⟩:=Kb hm;refine Kat (τ:=Unit) (Y:=Unit) (fun y20 z20=>(⟨[(1,iD a1)],[],[]⟩:S)) x20 ?_ ?_
 ·clear hm;have hm:=KA q20;refine KC ?_;obtain ⟨u21,hl21,hq21⟩:=yes_m hm;refine KaA (Y:=Unit) hl21 (fun s21 z21=>(⟨[(0,iD a0),(1,iD a1),(13,.lst 1 (a2.map eI64) .no),(14,iD (a2.length:Int)),(15,iD s21)],[],[]⟩:S)) ?_ ?_
  ·skip
   exact wO (wP (wC (wC (wC (wC (wC wN))))))
  intro G21 s21 z21 hm;refine Kg ?_;refine pu ?_;refine Ke ?_;refine Kk ?_;refine cY hm (fun hm=>?_) fun hm=>?_
  ·refine Ku ?_;refine Kd ?_;refine Kk ?_;refine KC ?_;refine Kg ?_;obtain ⟨x31,q31,hm⟩:=Kb hm;refine KaR htab rfl rfl rfl rfl rfl rfl rfl rfl rfl rfl (KD q31) (KL q31) ?_;refine KaC htab rfl rfl rfl rfl rfl rfl rfl rfl ?_;refine pu ?_;refine KH ?_;iterate 3 refine pu ?_
   refine Ke ?_;refine cY hm (fun hm=>?_) fun hm=>?_
   ·refine Kg ?_;refine pu ?_;refine pu ?_;refine Ke ?_;refine Kr ?_;refine KF ?_;refine Kt ?_;have e21:=KN hm;subst e21;clear hm;have hm:=hq21
    refine Kt ?_;refine KF ?_;have e20:=Kh hm;subst e20;refine Kaw ?_;clear hm;have hm:=ho20;simp only [Sum.elim_inr] at hm
    refine Kt ?_;have er33:=Kh hm;subst er33;refine Kca ?_;refine rP (t':=[(6,iD a0)]) [] [] 0 (wC wN) (lT lN) ?_;exact ⟨rfl,rfl,rfl⟩
   refine Ku ?_;refine KI ?_;refine Kd ?_;refine Kx ?_;refine pu ?_;refine pu ?_;refine Kz ?_;refine Kd ⟨_,Kas hm,?_⟩;exact wO (wP (wC (wC (wC (wC (wC wN))))))
  refine Kaf ?_;refine KG ?_;have e21:=KN hm;subst e21;clear hm;have hm:=hq21
  refine KG ?_;refine KZ ?_;have e20:=Kh hm;subst e20;refine Kaj ?_;exact wO (wP (wC wN))
 intro y20 s20 hx20 hw20;subst hx20;clear hm;have hm:=ho20;simp only [Sum.elim_inl] at hm;clear q20 ho20;refine Kd ?_;refine KO hw20 (fun z20=>?_);refine Kg ?_;refine pu ?_;obtain ⟨x34,q34,hm⟩:=Kb hm;rcases x34 with pe34|z34
 ·simp only [Sum.elim_inl] at hm;refine KaV (Ka4 a1 (9:Int) (.inl pe34) q34) rfl rfl rfl Wl Pf Pf ?_;refine K3 ?_;have er35:=Kh hm;subst er35;exact KaB
 simp only [Sum.elim_inr] at hm;refine K1 (Ka4 a1 (9:Int) (.inr z34) q34) rfl rfl rfl rfl rfl Wl ?_;rintro _ rfl;refine KH ?_;refine pu ?_;refine Ke ?_;refine Kr ?_;have er36:=Kh hm;subst er36;refine Kca ?_;refine rP (t':=[(6,iD (0:Int))]) [] [] 0 (wC wN) (lT lN) ?_;exact ⟨rfl,rfl,rfl⟩
def Kdp (a0:Bool):Option (Int):=
 (bif a0 then some (2:Int) else some (1:Int))
theorem KgM (a0:Bool)(r:Int)(h0:Kdp a0=some r):CallsD Tryz.prog 97 [.v (.bool a0)] [] [] (fun d h k=>d=iD r∧h=[]∧k=[]):=by
 have hm:=KA h0;unfold Kdp at hm;clear h0;refine KT htab Tryz.func97 rfl rfl rfl rfl rfl (fun C=>?_);refine Kg ?_;refine pu ?_;refine Ke ?_;refine Kk ?_;refine Kg ?_;refine pu ?_;refine Ke ?_;refine cY hm (fun hm=>?_) fun hm=>?_
 ·refine Kg ?_;refine pu ?_;refine Ke ?_;refine Kr ?_;refine Kt ?_;have er2:=Kh hm;subst er2;refine rP (t':=[(2,iD (2:Int))]) [] [] 0 (wC wN) (lT lN) ?_;exact ⟨rfl,rfl,rfl⟩
 refine Ku ?_;refine Kd ?_;refine Kg ?_;refine pu ?_;refine Ke ?_;refine Kr ?_;have er3:=Kh hm;subst er3;refine rP (t':=[(2,iD (1:Int))]) [] [] 0 (wC wN) (lT lN) ?_;exact ⟨rfl,rfl,rfl⟩
structure KfE where
 g0:List Kab
 g1:List Kab
def Kfr (x:KfE):D:=.agg [.lst 2 (x.g0.map Ko) .no,.lst 2 (x.g1.map Ko) .no]
structure KM where
 gName:ByteArray
 gPtr:Bool
 gSize:Int
 gAt:Int
def Kp (x:KM):D:=.agg [tD x.gName,.v (.bool x.gPtr),iD x.gSize,iD x.gAt]
structure Km where
 gOp:Int
 gName:ByteArray
 gFunc:ByteArray
 gExps:List Kc
 gKids:List Km
 gElse:List Km
 gAt:Int
mutual
def Ki:Km→D
 | ⟨f0,f1,f2,f3,f4,f5,f6⟩=>.agg [iD f0,tD f1,tD f2,.lst 5 (f3.map Kj) .no,.lst 7 (Kfb f4) .no,.lst 7 (Kfb f5) .no,iD f6]
def Kfb:List Km→List D
 | []=>[]
 | x::l=>Ki x::Kfb l
end
theorem KkA:∀ l,Kfb l=l.map Ki
 | []=>by simp [Kfb]
 | x::l=>by simp only [Kfb,List.map_cons,KkA l]
theorem KK (x:Km):Ki x=.agg [iD x.gOp,tD x.gName,tD x.gFunc,.lst 5 (x.gExps.map Kj) .no,.lst 7 (x.gKids.map Ki) .no,.lst 7 (x.gElse.map Ki) .no,iD x.gAt]:=by
 cases x;simp only [Ki,KkA]
structure Kq where
 gName:ByteArray
 gParams:List Kab
 gLocals:List Kab
 gBody:List Km
 gAt:Int
def Ks (x:Kq):D:=.agg [tD x.gName,.lst 2 (x.gParams.map Ko) .no,.lst 2 (x.gLocals.map Ko) .no,.lst 7 (x.gBody.map Ki) .no,iD x.gAt]
structure Kw where
 gGlobals:List KM
 gFuncs:List Kq
def Kah (x:Kw):D:=.agg [.lst 4 (x.gGlobals.map Kp) .no,.lst 5 (x.gFuncs.map Ks) .no]
structure KE where
 gP:Kw
 gF:Kq
def K5 (x:KE):D:=.agg [.lst 4 (x.gP.gGlobals.map Kp) .no,.lst 5 (x.gP.gFuncs.map Ks) .no,tD x.gF.gName,.lst 2 (x.gF.gParams.map Ko) .no,.lst 2 (x.gF.gLocals.map Ko) .no,.lst 7 (x.gF.gBody.map Ki) .no,iD x.gF.gAt]
def Kc4 (a0:KE)(a1:ByteArray):Option (Int):=
 (Option.bind (α:=(Unit)⊕(Int)) (loopM (fun (s125:Int)=>(bif (decide (s125 < (2:Int))) then ((idx ([a0.gF.gParams,a0.gF.gLocals]:List (List Kab)) s125).bind fun x207=>(Option.bind (α:=(Unit)⊕(Int)) (loopM (fun (s227:Int)=>(bif (decide (s227 < (x207.length:Int))) then ((idx x207 s227).bind fun x241=>(bif (decide (x241.gName=a1)) then ((Kdp x241.gPtr).bind fun x244=>some (.done (.inr x244))) else some (.next (IntKind.i64.wrap (s227+(1:Int)))))) else some (.done (.inl ())))) (0:Int)) (Sum.elim (fun y226=>some (.next (IntKind.i64.wrap (s125+(1:Int))))) (fun r=>some (.done (.inr r)))))) else some (.done (.inl ())))) (0:Int)) (Sum.elim (fun y124=>some (0:Int)) (fun r=>some r)))
theorem KgN (a0:KE)(a1:ByteArray)(r:Int)(h0:Kc4 a0 a1=some r):CallsD Tryz.prog 109 [K5 a0,tD a1] [] [] (fun d h k=>d=iD r∧h=[]∧k=[]):=by
 have hm:=KA h0;unfold Kc4 at hm;clear h0;refine KT htab Tryz.func109 rfl rfl rfl rfl rfl (fun C=>?_);refine Kg ?_;refine p_box rfl rfl rfl rfl rfl rfl rfl (fun b1=>?_);refine pu ?_;refine Ke ?_;refine Kk ?_;refine Kg ?_;refine pu ?_;refine pu ?_;refine pL 0 ?_;refine pu ?_;refine pu ?_;refine pL 0 ?_;refine p_buildA (r:=[.lst 2 (a0.gF.gParams.map Ko) .no,.lst 2 (a0.gF.gLocals.map Ko) .no]) htab rfl rfl rfl rfl rfl rfl rfl rfl rfl ?_;refine pu ?_;refine Ke ?_;obtain ⟨x124,q124,ho124⟩:=Kb hm;refine Kat (τ:=Unit) (Y:=Unit) (fun y124 z124=>(⟨[],[],[]⟩:S)) x124 ?_ ?_
 ·clear hm;have hm:=KA q124;refine KC ?_;obtain ⟨u125,hl125,hq125⟩:=yes_m hm;refine KaA (Y:=Unit) hl125 (fun s125 z125=>(⟨[(1,tD a1),(15,Kfr (⟨a0.gF.gParams,a0.gF.gLocals⟩:KfE)),(16,iD s125)],[],[]⟩:S)) ?_ ?_
  ·skip
   exact wO (wP (wC (wC (wC wN))))
  intro G125 s125 z125 hm;refine Kg ?_;refine pu ?_;refine Ke ?_;refine Kk ?_;refine cY hm (fun hm=>?_) fun hm=>?_
  ·refine Ku ?_;refine Kd ?_;refine Kk ?_;refine KC ?_;refine Kg ?_;obtain ⟨x207,q207,hm⟩:=Kb hm;refine p_idxA (d:=.lst 2 (x207.map Ko) .no) htab rfl rfl rfl rfl rfl rfl rfl rfl rfl (KD q207) (idx_lt' q207 rfl) (part_at0 (e:=(eList 2 Ko)) (xs:=([a0.gF.gParams,a0.gF.gLocals]:List (List Kab))) rfl q207) ?_;refine pu ?_;refine KH ?_;refine pu ?_;refine Kar htab rfl rfl rfl rfl rfl rfl rfl (by first|exact KQ|rfl) ?_;refine pu ?_;refine Ke ?_;obtain ⟨x226,q226,ho226⟩:=Kb hm
   refine Kat (τ:=Unit) (Y:=Unit) (fun y226 z226=>(⟨[(1,tD a1),(15,Kfr (⟨a0.gF.gParams,a0.gF.gLocals⟩:KfE)),(16,iD s125)],[],[]⟩:S)) x226 ?_ ?_
   ·clear hm;have hm:=KA q226;refine KC ?_;obtain ⟨u227,hl227,hq227⟩:=yes_m hm;refine KaA (Y:=Unit) hl227 (fun s227 z227=>(⟨[(1,tD a1),(15,Kfr (⟨a0.gF.gParams,a0.gF.gLocals⟩:KfE)),(16,iD s125),(19,.lst 2 (x207.map Ko) .no),(20,iD (x207.length:Int)),(21,iD s227)],[],[]⟩:S)) ?_ ?_
    ·skip
     exact wO (wP (wC (wC (wC (wC (wC (wC wN)))))))
    intro G227 s227 z227 hm;refine Kg ?_;refine pu ?_;refine Ke ?_;refine Kk ?_;refine cY hm (fun hm=>?_) fun hm=>?_
    ·refine Ku ?_;refine Kd ?_;refine Kk ?_;refine KC ?_;refine Kg ?_;obtain ⟨x241,q241,hm⟩:=Kb hm;refine KaR htab rfl rfl rfl rfl rfl rfl rfl rfl rfl rfl (KD q241) (KL q241) ?_;refine KaC (d:=Ko x241) htab rfl rfl rfl rfl rfl rfl rfl rfl ?_;refine Kag htab rfl rfl rfl rfl rfl rfl rfl (fun b242=>?_);refine pS0 (ds':=[tD x241.gName,.v (.bool x241.gPtr)]) ?_;refine KH ?_;refine pu ?_;refine pL 0 ?_;refine pu ?_;refine pu ?_;refine Ke ?_;refine cY hm (fun hm=>?_) fun hm=>?_
     ·refine Kg ?_;refine pu ?_;refine pL 0 ?_;obtain ⟨x244,q244,hm⟩:=Kb hm;refine K1 (KgM x241.gPtr x244 q244) rfl rfl rfl rfl rfl Wl ?_;rintro _ rfl;refine pu ?_;refine Ke ?_;refine Kr ?_;refine KF ?_;refine Kt ?_;have e227:=KN hm;subst e227;clear hm;have hm:=hq227
      refine Kt ?_;refine KF ?_;have e226:=Kh hm;subst e226;refine Kaw ?_;clear hm;have hm:=ho226;simp only [Sum.elim_inr] at hm
      refine KF ?_;refine Kt ?_;have e125:=KN hm;subst e125;clear hm;have hm:=hq125
      refine Kt ?_;refine KF ?_;have e124:=Kh hm;subst e124;refine Kaw ?_;clear hm;have hm:=ho124;simp only [Sum.elim_inr] at hm
      refine Kt ?_;have er245:=Kh hm;subst er245;refine rP (t':=[(4,iD x244)]) [] [] 0 (wC wN) (lT lN) ?_;exact ⟨rfl,rfl,rfl⟩
     refine Ku ?_;refine KI ?_;refine Kd ?_;refine Kx ?_;refine pu ?_;refine pu ?_;refine Kz ?_;refine Kd ⟨_,Kas hm,?_⟩;exact wO (wP (wC (wC (wC (wC (wC (wC wN)))))))
    refine Kaf ?_;refine KG ?_;have e227:=KN hm;subst e227;clear hm;have hm:=hq227
    refine KG ?_;refine KZ ?_;have e226:=Kh hm;subst e226;refine Kaj ?_;exact wO (wP (wC (wC (wC wN))))
   intro y226 s226 hx226 hw226;subst hx226;clear hm;have hm:=ho226;simp only [Sum.elim_inl] at hm;clear q226 ho226;refine KI ?_;refine Kd ?_;refine KO hw226 (fun z226=>?_);refine Kx ?_;refine pu ?_;refine pu ?_;refine Kz ?_;refine Kd ⟨_,Kas hm,?_⟩;exact wO (wP (wC (wC (wC wN))))
  refine Kaf ?_;refine KG ?_;have e125:=KN hm;subst e125;clear hm;have hm:=hq125
  refine KG ?_;refine KZ ?_;have e124:=Kh hm;subst e124;refine Kaj ?_;exact wO (wP wN)
 intro y124 s124 hx124 hw124;subst hx124;clear hm;have hm:=ho124;simp only [Sum.elim_inl] at hm;clear q124 ho124;refine Kd ?_;refine KO hw124 (fun z124=>?_);refine Kg ?_;refine pu ?_;refine Ke ?_;refine Kr ?_;have er246:=Kh hm;subst er246;refine rP (t':=[(4,iD (0:Int))]) [] [] 0 (wC wN) (lT lN) ?_;exact ⟨rfl,rfl,rfl⟩
def KbC (a0:KE)(a1:ByteArray):Option (Int):=
 (Option.bind (α:=(Unit)⊕(Int)) (loopM (fun (s35:Int)=>(bif (decide (s35 < (a0.gP.gGlobals.length:Int))) then ((idx a0.gP.gGlobals s35).bind fun x57=>(bif (decide (x57.gName=a1)) then (Option.bind (α:=Bool) (bif (decide ((0:Int) < x57.gSize)) then some (!x57.gPtr) else some false) fun y61=>(bif y61 then some (.done (.inr (3:Int))) else ((Kdp x57.gPtr).bind fun x65=>some (.done (.inr x65))))) else some (.next (IntKind.i64.wrap (s35+(1:Int)))))) else some (.done (.inl ())))) (0:Int)) (Sum.elim (fun y34=>some (0:Int)) (fun r=>some r)))
theorem Kex (a0:KE)(a1:ByteArray)(r:Int)(h0:KbC a0 a1=some r):CallsD Tryz.prog 86 [K5 a0,tD a1] [] [] (fun d h k=>d=iD r∧h=[]∧k=[]):=by
 have hm:=KA h0;unfold KbC at hm;clear h0;refine KT htab Tryz.func86 rfl rfl rfl rfl rfl (fun C=>?_);refine Kg ?_;refine p_box rfl rfl rfl rfl rfl rfl rfl (fun b1=>?_);refine pu ?_;refine Ke ?_;refine Kk ?_;refine Kg ?_;refine pu ?_;refine pu ?_;refine pL 0 ?_;refine Kar htab rfl rfl rfl rfl rfl rfl rfl (by first|exact KQ|rfl) ?_;refine pu ?_;refine Ke ?_;obtain ⟨x34,q34,ho34⟩:=Kb hm;refine Kat (τ:=Unit) (Y:=Unit) (fun y34 z34=>(⟨[],[],[]⟩:S)) x34 ?_ ?_
 ·clear hm;have hm:=KA q34;refine KC ?_;obtain ⟨u35,hl35,hq35⟩:=yes_m hm;refine KaA (Y:=Unit) hl35 (fun s35 z35=>(⟨[(1,tD a1),(9,.lst 4 (a0.gP.gGlobals.map Kp) .no),(10,iD (a0.gP.gGlobals.length:Int)),(11,iD s35)],[],[]⟩:S)) ?_ ?_
  ·skip
   exact wO (wP (wC (wC (wC (wC wN)))))
  intro G35 s35 z35 hm;refine Kg ?_;refine pu ?_;refine Ke ?_;refine Kk ?_;refine cY hm (fun hm=>?_) fun hm=>?_
  ·refine Ku ?_;refine Kd ?_;refine Kk ?_;refine KC ?_;refine Kg ?_;obtain ⟨x57,q57,hm⟩:=Kb hm;refine KaR htab rfl rfl rfl rfl rfl rfl rfl rfl rfl rfl (KD q57) (KL q57) ?_;refine KaC (d:=Kp x57) htab rfl rfl rfl rfl rfl rfl rfl rfl ?_;refine Kag htab rfl rfl rfl rfl rfl rfl rfl (fun b58=>?_);refine pS0 (ds':=[tD x57.gName,.v (.bool x57.gPtr),iD x57.gSize,iD x57.gAt]) ?_;refine KH ?_;refine pu ?_;refine pL 0 ?_;refine pu ?_;refine pu ?_;refine Ke ?_;refine cY hm (fun hm=>?_) fun hm=>?_
   ·refine Kk ?_;refine Kk ?_;obtain ⟨y61,q61,ho61⟩:=Kb hm;refine KY (Y:=Unit) (fun z61=>(⟨[(6,.ptr b58 0),(26,.v (.bool y61))],[(b58,Blk.cells [tD x57.gName,.v (.bool x57.gPtr),iD x57.gSize,iD x57.gAt] 48)],[]⟩:S)) ?_ ?_
    ·clear hm;have hm:=KA q61;refine Kx ?_;refine pu ?_;refine pL 0 ?_;refine pu ?_;refine pu ?_;refine Kau (i:=22) rfl (fun hg62=>?_) (fun hg62=>?_)
     ·replace hm:=yes_t hg62 hm;refine pu ?_;refine pL 0 ?_;refine pu ?_;refine Kao rfl rfl rfl rfl rfl rfl ?_;refine Kz ?_;have e61:=Kh hm;subst e61;refine ⟨rfl,?_⟩;exact wO (wP (wC (wC wN)))
     replace hm:=yes_f hg62 hm;iterate 3 refine pK ?_
     refine K8 rfl rfl rfl rfl rfl rfl ?_;refine Kz ?_;have e61:=Kh hm;subst e61;refine ⟨rfl,?_⟩;exact wO (wP (wC (wC wN)))
    intro s61 hw61;clear hm;have hm:=ho61;clear q61 ho61;refine Kd ?_;refine KO hw61 (fun z61=>?_);refine cY hm (fun hm=>?_) fun hm=>?_
    ·refine Kg ?_;refine pu ?_;refine Ke ?_;refine Kr ?_;refine Kt ?_;refine KF ?_;refine Kt ?_;have e35:=KN hm;subst e35;clear hm;have hm:=hq35
     refine Kt ?_;refine KF ?_;have e34:=Kh hm;subst e34;refine Kaw ?_;clear hm;have hm:=ho34;simp only [Sum.elim_inr] at hm
     refine Kt ?_;have er64:=Kh hm;subst er64;refine rP (t':=[(4,iD (3:Int))]) [] [] 0 (wC wN) (lT lN) ?_;exact ⟨rfl,rfl,rfl⟩
    refine Ku ?_;refine Kd ?_;refine Kg ?_;refine pu ?_;refine pL 0 ?_;obtain ⟨x65,q65,hm⟩:=Kb hm;refine K1 (KgM x57.gPtr x65 q65) rfl rfl rfl rfl rfl Wl ?_;rintro _ rfl;refine pu ?_;refine Ke ?_;refine Kr ?_;refine KF ?_;refine Kt ?_;have e35:=KN hm;subst e35;clear hm;have hm:=hq35
    refine Kt ?_;refine KF ?_;have e34:=Kh hm;subst e34;refine Kaw ?_;clear hm;have hm:=ho34;simp only [Sum.elim_inr] at hm
    refine Kt ?_;have er66:=Kh hm;subst er66;refine rP (t':=[(4,iD x65)]) [] [] 0 (wC wN) (lT lN) ?_;exact ⟨rfl,rfl,rfl⟩
   refine Ku ?_;refine KI ?_;refine Kd ?_;refine Kx ?_;refine pu ?_;refine pu ?_;refine Kz ?_;refine Kd ⟨_,Kas hm,?_⟩;exact wO (wP (wC (wC (wC (wC wN)))))
  refine Kaf ?_;refine KG ?_;have e35:=KN hm;subst e35;clear hm;have hm:=hq35
  refine KG ?_;refine KZ ?_;have e34:=Kh hm;subst e34;refine Kaj ?_;exact wO (wP wN)
 intro y34 s34 hx34 hw34;subst hx34;clear hm;have hm:=ho34;simp only [Sum.elim_inl] at hm;clear q34 ho34;refine Kd ?_;refine KO hw34 (fun z34=>?_);refine Kg ?_;refine pu ?_;refine Ke ?_;refine Kr ?_;have er67:=Kh hm;subst er67;refine rP (t':=[(4,iD (0:Int))]) [] [] 0 (wC wN) (lT lN) ?_;exact ⟨rfl,rfl,rfl⟩
def Kbb (a0:KE)(a1:ByteArray)(a2:Int)(a3:List Int):Option ((Int×Int)⊕(Int)):=
 ((Kc4 a0 a1).bind fun x2=>(Option.bind (α:=Int) (bif (x2==(0:Int)) then ((KbC a0 a1).bind fun x7=>some x7) else some x2) fun y5=>((KfM y5 a2 a3).bind fun x8=>Sum.elim (fun pe8=>some (.inl pe8)) (fun z8=>some (.inr z8)) x8)))
theorem KaE (a0:KE)(a1:ByteArray)(a2:Int)(a3:List Int)(r:(Int×Int)⊕(Int))(h0:Kbb a0 a1 a2 a3=some r):KbB zc Tryz.prog 100 [K5 a0,tD a1,iD a2,.lst 1 (a3.map eI64) .no] [] [] r (fun r d h k=>d=iD r∧h=[]∧k=[]):=by
 have hm:=KA h0;unfold Kbb at hm;clear h0;refine KfX htab Tryz.func100 rfl rfl rfl rfl rfl (fun C=>?_);refine Kg ?_;refine p_box rfl rfl rfl rfl rfl rfl rfl (fun b1=>?_);refine pu ?_;refine KH ?_;refine KX (d:=K5 a0) 0 htab rfl rfl rfl rfl rfl rfl rfl rfl ?_;refine pu ?_;obtain ⟨x2,q2,hm⟩:=Kb hm;refine K1 (KgN a0 a1 x2 q2) rfl rfl rfl rfl rfl Wl ?_;rintro _ rfl;refine pu ?_;refine Ke ?_;refine Kk ?_;refine Kg ?_;refine pu ?_;refine pu ?_;refine Ke ?_;obtain ⟨y5,q5,ho5⟩:=Kb hm
 refine KY (Y:=Unit) (fun z5=>(⟨[(2,iD a2),(3,.lst 1 (a3.map eI64) .no),(9,iD y5)],[],[]⟩:S)) ?_ ?_
 ·clear hm;have hm:=KA q5;refine cY hm (fun hm=>?_) fun hm=>?_
  ·refine Kx ?_;refine KX (d:=K5 a0) 0 htab rfl rfl rfl rfl rfl rfl rfl rfl ?_;refine pu ?_;obtain ⟨x7,q7,hm⟩:=Kb hm;refine K1 (Kex a0 a1 x7 q7) rfl rfl rfl rfl rfl Wl ?_;rintro _ rfl;refine pu ?_;refine Kz ?_;have e5:=Kh hm;subst e5;refine ⟨rfl,?_⟩;exact wO (wP (wC (wC (wC wN))))
  refine Ku ?_;have e5:=Kh hm;subst e5;refine ⟨rfl,?_⟩;exact wO (wP (wC (wC (wC wN))))
 intro s5 hw5;clear hm;have hm:=ho5;clear q5 ho5;refine Kd ?_;refine KO hw5 (fun z5=>?_);refine Kg ?_;iterate 3 refine pu ?_
 obtain ⟨x8,q8,hm⟩:=Kb hm;rcases x8 with pe8|z8
 ·simp only [Sum.elim_inl] at hm;refine KaV (Kga y5 a2 a3 (.inl pe8) q8) rfl rfl rfl Wl Pf Pf ?_;refine K3 ?_;have er9:=Kh hm;subst er9;exact KaB
 simp only [Sum.elim_inr] at hm;refine K1 (Kga y5 a2 a3 (.inr z8) q8) rfl rfl rfl rfl rfl Wl ?_;rintro _ rfl;refine pu ?_;refine Ke ?_;refine Kr ?_;have er10:=Kh hm;subst er10;refine Kca ?_;refine rP (t':=[(8,iD z8)]) [] [] 0 (wC wN) (lT lN) ?_;exact ⟨rfl,rfl,rfl⟩
def KcB (a0:KE)(a1:Kc)(a2:Int):Option ((Int×Int)⊕(Int)):=
 ((KbC a0 a1.gName).bind fun x3=>((Kc4 a0 a1.gName).bind fun x4=>(Option.bind (α:=Int) (bif (x4 != (0:Int)) then some (2:Int) else some x3) fun y6=>((KfM y6 a1.gAt ([a2]:List Int)).bind fun x8=>Sum.elim (fun pe8=>some (.inl pe8)) (fun z8=>some (.inr (2:Int))) x8))))
theorem Kdm (a0:KE)(a1:Kc)(a2:Int)(r:(Int×Int)⊕(Int))(h0:KcB a0 a1 a2=some r):KbB zc Tryz.prog 115 [K5 a0,Kj a1,iD a2] [] [] r (fun r d h k=>d=iD r∧h=[]∧k=[]):=by
 have hm:=KA h0;unfold KcB at hm;clear h0;refine KfX htab Tryz.func115 rfl rfl rfl rfl rfl (fun C=>?_);refine w_eq (i:=1) rfl (Wk.of_eq (Kv a1)) ?_;refine Kg ?_;refine p_box rfl rfl rfl rfl rfl rfl rfl (fun b1=>?_);refine p_box rfl rfl rfl rfl rfl rfl rfl (fun b2=>?_);refine pu ?_;refine KH ?_;refine KX (d:=K5 a0) 0 htab rfl rfl rfl rfl rfl rfl rfl rfl ?_;refine pu ?_;refine pL 1 ?_;obtain ⟨x3,q3,hm⟩:=Kb hm;refine K1 (Kex a0 a1.gName x3 q3) rfl rfl rfl rfl rfl Wl ?_;rintro _ rfl;refine pu ?_;refine Ke ?_;refine Kk ?_;refine Kg ?_
 refine KX (d:=K5 a0) 0 htab rfl rfl rfl rfl rfl rfl rfl rfl ?_;refine pu ?_;refine pL 1 ?_;obtain ⟨x4,q4,hm⟩:=Kb hm;refine K1 (KgN a0 a1.gName x4 q4) rfl rfl rfl rfl rfl Wl ?_;rintro _ rfl;refine pu ?_;refine Ke ?_;obtain ⟨y6,q6,ho6⟩:=Kb hm;refine KY (Y:=Unit) (fun z6=>(⟨[(2,iD a2),(4,.ptr b2 0),(7,iD y6)],[(b2,Blk.cells [iD a1.gOp,iD a1.gN,tD a1.gName,.lst 5 (a1.gKids.map Kj) .no,iD a1.gAt] 87)],[]⟩:S)) ?_ ?_
 ·clear hm;have hm:=KA q6;refine cY hm (fun hm=>?_) fun hm=>?_
  ·refine Kx ?_;refine pu ?_;refine Kz ?_;have e6:=Kh hm;subst e6;refine ⟨rfl,?_⟩;exact wO (WkS.perm (wC (wC (wC wN))) ((Kaq (j:=1) rfl).trans (List.Perm.cons _ Pf)) Pf)
  refine Ku ?_;have e6:=Kh hm;subst e6;refine ⟨rfl,?_⟩;exact wO (WkS.perm (wC (wC (wC wN))) ((Kaq (j:=1) rfl).trans (List.Perm.cons _ Pf)) Pf)
 intro s6 hw6;clear hm;have hm:=ho6;clear q6 ho6;refine Kd ?_;refine KO hw6 (fun z6=>?_);refine Kg ?_;refine pu ?_;refine pu ?_;refine pL 0 ?_;refine pu ?_;refine p_lit htab rfl rfl rfl rfl rfl rfl rfl rfl rfl rfl rfl rfl rfl rfl ?_;refine p_eq (i:=21) (d':=.lst 1 (([a2]:List Int).map eI64) .full) rfl (Wk.lst0 (.cons (WkC.refl _) (.nil))) ?_;obtain ⟨x8,q8,hm⟩:=Kb hm;rcases x8 with pe8|z8
 ·simp only [Sum.elim_inl] at hm;refine KaV (Kga y6 a1.gAt ([a2]:List Int) (.inl pe8) q8) rfl rfl rfl (WkL.cons (Wk.refl _) (WkL.cons (Wk.refl _) (WkL.cons (Wk.no) Wl))) Pf Pf ?_;refine K3 ?_;have er9:=Kh hm;subst er9;exact KaB
 simp only [Sum.elim_inr] at hm;refine K1 (Kga y6 a1.gAt ([a2]:List Int) (.inr z8) q8) rfl rfl rfl rfl rfl (WkL.cons (Wk.refl _) (WkL.cons (Wk.refl _) (WkL.cons (Wk.no) Wl))) ?_;rintro _ rfl;refine KH ?_;refine pu ?_;refine Ke ?_;refine Kr ?_;have er10:=Kh hm;subst er10;refine Kca ?_;refine rP (t':=[(6,iD (2:Int))]) [] [] 0 (wC wN) (lT lN) ?_;exact ⟨rfl,rfl,rfl⟩
def KbM (a0:KE):Option ((Int×Int)⊕(Unit)):=
 (Option.bind (α:=(List (ByteArray×Int))⊕((Int×Int)⊕(Unit))) (loopM (fun (s374:Int×List (ByteArray×Int))=>(bif (decide (s374.1 < (2:Int))) then ((idx ([a0.gF.gParams,a0.gF.gLocals]:List (List Kab)) s374.1).bind fun x652=>(Option.bind (α:=(List (ByteArray×Int))⊕((Int×Int)⊕(Unit))) (loopM (fun (s698:Int×List (ByteArray×Int))=>(bif (decide (s698.1 < (x652.length:Int))) then ((idx x652 s698.1).bind fun x733=>(Option.bind (α:=Bool) (bif (decide ((1:Int) < (mgetD (mput s698.2 x733.gName (IntKind.i64.wrap ((mgetD s698.2 x733.gName (0:Int))+(1:Int)))) x733.gName (0:Int)))) then some true else ((KbC a0 x733.gName).bind fun x739=>some (x739 != (0:Int)))) fun y737=>(bif y737 then ((Kbp a0.gF.gAt (8:Int)).bind fun x741=>Sum.elim (fun pe741=>some (.done (.inr (.inl pe741)))) (fun z741=>some (.next ((IntKind.i64.wrap (s698.1+(1:Int))),(mput s698.2 x733.gName (IntKind.i64.wrap ((mgetD s698.2 x733.gName (0:Int))+(1:Int))))))) x741) else some (.next ((IntKind.i64.wrap (s698.1+(1:Int))),(mput s698.2 x733.gName (IntKind.i64.wrap ((mgetD s698.2 x733.gName (0:Int))+(1:Int))))))))) else some (.done (.inl s698.2)))) ((0:Int),s374.2)) (Sum.elim (fun y697=>some (.next ((IntKind.i64.wrap (s374.1+(1:Int))),y697))) (fun r=>some (.done (.inr r)))))) else some (.done (.inl s374.2)))) ((0:Int),([]:List (ByteArray×Int)))) (Sum.elim (fun y373=>some (.inr ())) (fun r=>some r)))
theorem Kkh (a0:KE)(r:(Int×Int)⊕(Unit))(h0:KbM a0=some r):KbB zc Tryz.prog 73 [K5 a0] [] [] r (fun r d h k=>d=.tup []∧h=[]∧k=[]):=by
 have hm:=KA h0;unfold KbM at hm;clear h0;refine KfX htab Tryz.func73 rfl rfl rfl rfl rfl (fun C=>?_);refine Kg ?_;refine p_box rfl rfl rfl rfl rfl rfl rfl (fun b1=>?_);refine KH ?_;refine KmX rfl rfl rfl rfl (fun b2=>?_);refine pu ?_;refine KH ?_;refine pu ?_;refine pu ?_;refine pL 1 ?_;refine pu ?_;refine pu ?_;refine pL 1 ?_;refine p_buildA (r:=[.lst 2 (a0.gF.gParams.map Ko) .no,.lst 2 (a0.gF.gLocals.map Ko) .no]) htab rfl rfl rfl rfl rfl rfl rfl rfl rfl ?_;refine pu ?_;refine Ke ?_;obtain ⟨x373,q373,ho373⟩:=Kb hm
 refine Kat (τ:=List (ByteArray×Int)) (Y:=Unit) (fun y373 z373=>(⟨[],[],[]⟩:S)) x373 ?_ ?_
 ·clear hm;have hm:=KA q373;refine KC ?_;obtain ⟨u374,hl374,hq374⟩:=yes_m hm;refine KaA (Y:=Unit) hl374 (fun s374 z374=>(⟨[(1,.ptr b1 0),(2,.v (.map (some b2))),(14,Kfr (⟨a0.gF.gParams,a0.gF.gLocals⟩:KfE)),(15,iD s374.1)],[(b2,Blk.mp (s374.2.map fun p=>((fun s:ByteArray=>Value.string s) p.1,eI64 p.2))),(b1,Blk.cells [.lst 4 (a0.gP.gGlobals.map Kp) .no,.lst 5 (a0.gP.gFuncs.map Ks) .no,tD a0.gF.gName,.lst 2 (a0.gF.gParams.map Ko) .no,.lst 2 (a0.gF.gLocals.map Ko) .no,.lst 7 (a0.gF.gBody.map Ki) .no,iD a0.gF.gAt] 137)],[]⟩:S)) ?_ ?_
  ·skip
   exact wO (wP (wC (wC (wC (wC wN)))))
  intro G374 s374 z374 hm;refine Kg ?_;refine pu ?_;refine Ke ?_;refine Kk ?_;refine cY hm (fun hm=>?_) fun hm=>?_
  ·refine Ku ?_;refine Kd ?_;refine Kk ?_;refine KC ?_;refine Kg ?_;obtain ⟨x652,q652,hm⟩:=Kb hm;refine p_idxA (d:=.lst 2 (x652.map Ko) .no) htab rfl rfl rfl rfl rfl rfl rfl rfl rfl (KD q652) (idx_lt' q652 rfl) (part_at0 (e:=(eList 2 Ko)) (xs:=([a0.gF.gParams,a0.gF.gLocals]:List (List Kab))) rfl q652) ?_;refine pu ?_;refine KH ?_;refine pu ?_;refine Kar htab rfl rfl rfl rfl rfl rfl rfl (by first|exact KQ|rfl) ?_;refine pu ?_;refine Ke ?_;obtain ⟨x697,q697,ho697⟩:=Kb hm
   refine Kat (τ:=List (ByteArray×Int)) (Y:=Unit) (fun y697 z697=>(⟨[(1,.ptr b1 0),(2,.v (.map (some b2))),(14,Kfr (⟨a0.gF.gParams,a0.gF.gLocals⟩:KfE)),(15,iD s374.1)],[(b2,Blk.mp (y697.map fun p=>((fun s:ByteArray=>Value.string s) p.1,eI64 p.2))),(b1,Blk.cells [.lst 4 (a0.gP.gGlobals.map Kp) .no,.lst 5 (a0.gP.gFuncs.map Ks) .no,tD a0.gF.gName,.lst 2 (a0.gF.gParams.map Ko) .no,.lst 2 (a0.gF.gLocals.map Ko) .no,.lst 7 (a0.gF.gBody.map Ki) .no,iD a0.gF.gAt] 137)],[]⟩:S)) x697 ?_ ?_
   ·clear hm;have hm:=KA q697;refine KC ?_;obtain ⟨u698,hl698,hq698⟩:=yes_m hm
    refine KaA (Y:=Unit) hl698 (fun s698 z698=>(⟨[(1,.ptr b1 0),(2,.v (.map (some b2))),(14,Kfr (⟨a0.gF.gParams,a0.gF.gLocals⟩:KfE)),(15,iD s374.1),(18,.lst 2 (x652.map Ko) .no),(19,iD (x652.length:Int)),(20,iD s698.1)],[(b2,Blk.mp (s698.2.map fun p=>((fun s:ByteArray=>Value.string s) p.1,eI64 p.2))),(b1,Blk.cells [.lst 4 (a0.gP.gGlobals.map Kp) .no,.lst 5 (a0.gP.gFuncs.map Ks) .no,tD a0.gF.gName,.lst 2 (a0.gF.gParams.map Ko) .no,.lst 2 (a0.gF.gLocals.map Ko) .no,.lst 7 (a0.gF.gBody.map Ki) .no,iD a0.gF.gAt] 137)],[]⟩:S)) ?_ ?_
    ·skip
     exact wO (wP (wC (wC (wC (wC (wC (wC (wC wN))))))))
    intro G698 s698 z698 hm;refine Kg ?_;refine pu ?_;refine Ke ?_;refine Kk ?_;refine cY hm (fun hm=>?_) fun hm=>?_
    ·refine Ku ?_;refine Kd ?_;refine Kk ?_;refine KC ?_;refine Kg ?_;obtain ⟨x733,q733,hm⟩:=Kb hm;refine KaR htab rfl rfl rfl rfl rfl rfl rfl rfl rfl rfl (KD q733) (KL q733) ?_;refine KaC (d:=Ko x733) htab rfl rfl rfl rfl rfl rfl rfl rfl ?_;refine Kag htab rfl rfl rfl rfl rfl rfl rfl (fun b734=>?_);refine pS2 (ds':=[tD x733.gName,.v (.bool x733.gPtr)]) ?_;refine KH ?_;refine pu ?_;refine pu ?_;refine pL 2 ?_
     refine Khd (l:=s698.2) (f:=(fun s:ByteArray=>Value.string s)) (e:=eI64) (kk:=x733.gName) (z:=(0:Int)) (dr:=iD (mgetD s698.2 x733.gName (0:Int))) 0 htab rfl rfl rfl rfl rfl rfl rfl rfl rfl rfl mk132 (fun H v h=>KV h) mz132 mr132 rfl ?_;refine pu ?_
     refine Kja (l:=s698.2) (f:=(fun s:ByteArray=>Value.string s)) (e:=eI64) (kk:=x733.gName) (vv:=(IntKind.i64.wrap ((mgetD s698.2 x733.gName (0:Int))+(1:Int)))) (h':=[(b2,Blk.mp ((mput s698.2 x733.gName (IntKind.i64.wrap ((mgetD s698.2 x733.gName (0:Int))+(1:Int)))).map fun p=>((fun s:ByteArray=>Value.string s) p.1,eI64 p.2))),(b1,Blk.cells [.lst 4 (a0.gP.gGlobals.map Kp) .no,.lst 5 (a0.gP.gFuncs.map Ks) .no,tD a0.gF.gName,.lst 2 (a0.gF.gParams.map Ko) .no,.lst 2 (a0.gF.gLocals.map Ko) .no,.lst 7 (a0.gF.gBody.map Ki) .no,iD a0.gF.gAt] 137),(b734,Blk.cells [tD x733.gName,.v (.bool x733.gPtr)] 60)]) 0 htab rfl rfl rfl rfl rfl rfl rfl rfl rfl rfl mk132 (fun H v h=>KV h) (Wk.refl _) rfl ?_
     refine Ke ?_;refine Kk ?_;obtain ⟨y737,q737,ho737⟩:=Kb hm
     refine KY (Y:=Unit) (fun z737=>(⟨[(1,.ptr b1 0),(2,.v (.map (some b2))),(14,Kfr (⟨a0.gF.gParams,a0.gF.gLocals⟩:KfE)),(15,iD s374.1),(18,.lst 2 (x652.map Ko) .no),(19,iD (x652.length:Int)),(20,iD s698.1),(40,.v (.bool y737))],[(b2,Blk.mp ((mput s698.2 x733.gName (IntKind.i64.wrap ((mgetD s698.2 x733.gName (0:Int))+(1:Int)))).map fun p=>((fun s:ByteArray=>Value.string s) p.1,eI64 p.2))),(b1,Blk.cells [.lst 4 (a0.gP.gGlobals.map Kp) .no,.lst 5 (a0.gP.gFuncs.map Ks) .no,tD a0.gF.gName,.lst 2 (a0.gF.gParams.map Ko) .no,.lst 2 (a0.gF.gLocals.map Ko) .no,.lst 7 (a0.gF.gBody.map Ki) .no,iD a0.gF.gAt] 137)],[]⟩:S)) ?_ ?_
     ·clear hm;have hm:=KA q737;refine Kx ?_;refine pu ?_;refine pu ?_;refine pL 2 ?_;refine Khd (l:=(mput s698.2 x733.gName (IntKind.i64.wrap ((mgetD s698.2 x733.gName (0:Int))+(1:Int))))) (f:=(fun s:ByteArray=>Value.string s)) (e:=eI64) (kk:=x733.gName) (z:=(0:Int)) (dr:=iD (mgetD (mput s698.2 x733.gName (IntKind.i64.wrap ((mgetD s698.2 x733.gName (0:Int))+(1:Int)))) x733.gName (0:Int))) 0 htab rfl rfl rfl rfl rfl rfl rfl rfl rfl rfl mk132 (fun H v h=>KV h) mz132 mr132 rfl ?_;refine pu ?_;refine pu ?_;refine Kau (i:=34) rfl (fun hg738=>?_) (fun hg738=>?_)
      ·replace hm:=yes_t hg738 hm;iterate 5 refine pK ?_
       refine Kao rfl rfl rfl rfl rfl rfl ?_;refine Kz ?_;have e737:=Kh hm;subst e737;refine ⟨rfl,?_⟩;exact wO (wP (wC (wC (wC (wC (wC (wC (wC (wC wN)))))))))
      replace hm:=yes_f hg738 hm;refine KX (d:=K5 a0) 1 htab rfl rfl rfl rfl rfl rfl rfl rfl ?_;refine pu ?_;refine pL 2 ?_;obtain ⟨x739,q739,hm⟩:=Kb hm;refine K1 (Kex a0 x733.gName x739 q739) rfl rfl rfl rfl rfl Wl ?_;rintro _ rfl;refine pu ?_;refine K8 rfl rfl rfl rfl rfl rfl ?_;refine Kz ?_;have e737:=Kh hm;subst e737;refine ⟨rfl,?_⟩;exact wO (wP (wC (wC (wC (wC (wC (wC (wC (wC wN)))))))))
     intro s737 hw737;clear hm;have hm:=ho737;clear q737 ho737;refine Kd ?_;refine KO hw737 (fun z737=>?_);refine cY hm (fun hm=>?_) fun hm=>?_
     ·refine Kx ?_;refine pu ?_;refine pu ?_;refine pL 1 ?_;obtain ⟨x741,q741,hm⟩:=Kb hm;rcases x741 with pe741|z741
      ·simp only [Sum.elim_inl] at hm;refine KaV (Ka4 a0.gF.gAt (8:Int) (.inl pe741) q741) rfl rfl rfl Wl Pf Pf ?_;refine Kay ?_;refine K3 ?_;have e698:=KN hm;subst e698;clear hm;have hm:=hq698
       refine K3 ?_;refine Kay ?_;have e697:=Kh hm;subst e697;refine Kap ?_;clear hm;have hm:=ho697;simp only [Sum.elim_inr] at hm
       refine Kay ?_;refine K3 ?_;have e374:=KN hm;subst e374;clear hm;have hm:=hq374
       refine K3 ?_;refine Kay ?_;have e373:=Kh hm;subst e373;refine Kap ?_;clear hm;have hm:=ho373;simp only [Sum.elim_inr] at hm
       have er742:=Kh hm;subst er742;exact KaB
      simp only [Sum.elim_inr] at hm;refine K1 (Ka4 a0.gF.gAt (8:Int) (.inr z741) q741) rfl rfl rfl rfl rfl Wl ?_;rintro _ rfl;refine Kz ?_;refine KI ?_;refine Kd ?_;refine Kx ?_;refine pu ?_;refine pu ?_;refine Kz ?_;refine Kd ⟨_,Kas hm,?_⟩;exact wO (wP (wC (wC (wC (wC (wC (wC (wC wN))))))))
     refine Ku ?_;refine KI ?_;refine Kd ?_;refine Kx ?_;refine pu ?_;refine pu ?_;refine Kz ?_;refine Kd ⟨_,Kas hm,?_⟩;exact wO (wP (wC (wC (wC (wC (wC (wC (wC wN))))))))
    refine Kaf ?_;refine KG ?_;have e698:=KN hm;subst e698;clear hm;have hm:=hq698
    refine KG ?_;refine KZ ?_;have e697:=Kh hm;subst e697;refine Kaj ?_;exact wO (wP (wC (wC (wC (wC wN)))))
   intro y697 s697 hx697 hw697;subst hx697;clear hm;have hm:=ho697;simp only [Sum.elim_inl] at hm;clear q697 ho697;refine KI ?_;refine Kd ?_;refine KO hw697 (fun z697=>?_);refine Kx ?_;refine pu ?_;refine pu ?_;refine Kz ?_;refine Kd ⟨_,Kas hm,?_⟩;exact wO (wP (wC (wC (wC (wC wN)))))
  refine Kaf ?_;refine KG ?_;have e374:=KN hm;subst e374;clear hm;have hm:=hq374
  refine KG ?_;refine KZ ?_;have e373:=Kh hm;subst e373;refine Kaj ?_;exact wO (wP wN)
 intro y373 s373 hx373 hw373;subst hx373;clear hm;have hm:=ho373;simp only [Sum.elim_inl] at hm;clear q373 ho373;have er743:=Kh hm;subst er743;refine Kca ?_;refine retX.wkX hw373 (fun z373=>?_);refine rP (t':=[]) [] [] 0 wN lN ?_;exact ⟨rfl,rfl,rfl⟩
def KeP (a0:Km):Option (Int):=
 (Option.bind (α:=Bool) (bif (a0.gOp==(1:Int)) then some (a0.gOp==(1:Int)) else (Option.bind (α:=Bool) (bif (a0.gOp==(3:Int)) then some (a0.gOp==(3:Int)) else (Option.bind (α:=Bool) (bif (a0.gOp==(6:Int)) then some (a0.gOp==(6:Int)) else (Option.bind (α:=Bool) (bif (a0.gOp==(7:Int)) then some (a0.gOp==(7:Int)) else (Option.bind (α:=Bool) (bif (a0.gOp==(8:Int)) then some (a0.gOp==(8:Int)) else some (a0.gOp==(9:Int))) fun y25=>some y25)) fun y22=>some y22)) fun y18=>some y18)) fun y13=>some y13)) fun y7=>(bif y7 then some (1:Int) else (bif (a0.gOp==(2:Int)) then some (2:Int) else (bif (a0.gOp==(4:Int)) then some (a0.gExps.length:Int) else (bif (a0.gOp==(5:Int)) then some (0:Int) else some (-1:Int))))))
theorem Km6 (a0:Km)(r:Int)(h0:KeP a0=some r):CallsD Tryz.prog 98 [Ki a0] [] [] (fun d h k=>d=iD r∧h=[]∧k=[]):=by
 have hm:=KA h0;unfold KeP at hm;clear h0;refine KT htab Tryz.func98 rfl rfl rfl rfl rfl (fun C=>?_);refine w_eq (i:=0) rfl (Wk.of_eq (KK a0)) ?_;refine Kg ?_;refine p_box rfl rfl rfl rfl rfl rfl rfl (fun b1=>?_);refine pu ?_;refine Ke ?_;refine Kk ?_;refine Kg ?_;refine pu ?_;refine pL 0 ?_;refine Ke ?_;refine KC ?_;refine Kk ?_;refine Kg ?_;refine pu ?_;refine pu ?_;refine Ke ?_;obtain ⟨y7,q7,ho7⟩:=Kb hm
 refine KY (Y:=Unit) (fun z7=>(⟨[(1,.ptr b1 0),(4,iD a0.gOp),(5,.v (.bool y7))],[(b1,Blk.cells [iD a0.gOp,tD a0.gName,tD a0.gFunc,.lst 5 (a0.gExps.map Kj) .no,.lst 7 (a0.gKids.map Ki) .no,.lst 7 (a0.gElse.map Ki) .no,iD a0.gAt] 64)],[]⟩:S)) ?_ ?_
 ·clear hm;have hm:=KA q7;refine cY hm (fun hm=>?_) fun hm=>?_
  ·refine Ku ?_;have e7:=Kh hm;subst e7;refine ⟨rfl,?_⟩;exact wO (wP (wC (wC (wC wN))))
  refine Kg ?_;refine pu ?_;refine pu ?_;refine Ke ?_;obtain ⟨y13,q13,ho13⟩:=Kb hm;refine KY (Y:=Unit) (fun z13=>(⟨[(1,.ptr b1 0),(4,iD a0.gOp),(5,.v (.bool y13))],[(b1,Blk.cells [iD a0.gOp,tD a0.gName,tD a0.gFunc,.lst 5 (a0.gExps.map Kj) .no,.lst 7 (a0.gKids.map Ki) .no,.lst 7 (a0.gElse.map Ki) .no,iD a0.gAt] 64)],[]⟩:S)) ?_ ?_
  ·clear hm;have hm:=KA q13;refine cY hm (fun hm=>?_) fun hm=>?_
   ·refine Ku ?_;have e13:=Kh hm;subst e13;refine ⟨rfl,?_⟩;exact wO (wP (wC (wC (wC wN))))
   refine Kg ?_;refine pu ?_;refine pu ?_;refine Ke ?_;obtain ⟨y18,q18,ho18⟩:=Kb hm;refine KY (Y:=Unit) (fun z18=>(⟨[(1,.ptr b1 0),(4,iD a0.gOp),(5,.v (.bool y18))],[(b1,Blk.cells [iD a0.gOp,tD a0.gName,tD a0.gFunc,.lst 5 (a0.gExps.map Kj) .no,.lst 7 (a0.gKids.map Ki) .no,.lst 7 (a0.gElse.map Ki) .no,iD a0.gAt] 64)],[]⟩:S)) ?_ ?_
   ·clear hm;have hm:=KA q18;refine cY hm (fun hm=>?_) fun hm=>?_
    ·refine Ku ?_;have e18:=Kh hm;subst e18;refine ⟨rfl,?_⟩;exact wO (wP (wC (wC (wC wN))))
    refine Kg ?_;refine pu ?_;refine pu ?_;refine Ke ?_;obtain ⟨y22,q22,ho22⟩:=Kb hm;refine KY (Y:=Unit) (fun z22=>(⟨[(1,.ptr b1 0),(4,iD a0.gOp),(5,.v (.bool y22))],[(b1,Blk.cells [iD a0.gOp,tD a0.gName,tD a0.gFunc,.lst 5 (a0.gExps.map Kj) .no,.lst 7 (a0.gKids.map Ki) .no,.lst 7 (a0.gElse.map Ki) .no,iD a0.gAt] 64)],[]⟩:S)) ?_ ?_
    ·clear hm;have hm:=KA q22;refine cY hm (fun hm=>?_) fun hm=>?_
     ·refine Ku ?_;have e22:=Kh hm;subst e22;refine ⟨rfl,?_⟩;exact wO (wP (wC (wC (wC wN))))
     refine Kg ?_;refine pu ?_;refine pu ?_;refine Ke ?_;obtain ⟨y25,q25,ho25⟩:=Kb hm;refine KY (Y:=Unit) (fun z25=>(⟨[(1,.ptr b1 0),(4,iD a0.gOp),(5,.v (.bool y25))],[(b1,Blk.cells [iD a0.gOp,tD a0.gName,tD a0.gFunc,.lst 5 (a0.gExps.map Kj) .no,.lst 7 (a0.gKids.map Ki) .no,.lst 7 (a0.gElse.map Ki) .no,iD a0.gAt] 64)],[]⟩:S)) ?_ ?_
     ·clear hm;have hm:=KA q25;refine cY hm (fun hm=>?_) fun hm=>?_
      ·refine Ku ?_;have e25:=Kh hm;subst e25;refine ⟨rfl,?_⟩;exact wO (wP (wC (wC (wC wN))))
      refine Kx ?_;refine pu ?_;refine pu ?_;refine Kz ?_;have e25:=Kh hm;subst e25;refine ⟨rfl,?_⟩;exact wO (wP (wC (wC (wC wN))))
     intro s25 hw25;clear hm;have hm:=ho25;clear q25 ho25;have e22:=Kh hm;subst e22;refine ⟨rfl,?_⟩;refine WkX.trans hw25 (fun z25=>?_);exact wO (wP (wC (wC (wC wN))))
    intro s22 hw22;clear hm;have hm:=ho22;clear q22 ho22;have e18:=Kh hm;subst e18;refine ⟨rfl,?_⟩;refine WkX.trans hw22 (fun z22=>?_);exact wO (wP (wC (wC (wC wN))))
   intro s18 hw18;clear hm;have hm:=ho18;clear q18 ho18;have e13:=Kh hm;subst e13;refine ⟨rfl,?_⟩;refine WkX.trans hw18 (fun z18=>?_);exact wO (wP (wC (wC (wC wN))))
  intro s13 hw13;clear hm;have hm:=ho13;clear q13 ho13;have e7:=Kh hm;subst e7;refine ⟨rfl,?_⟩;refine WkX.trans hw13 (fun z13=>?_);exact wO (wP (wC (wC (wC wN))))
 intro s7 hw7;clear hm;have hm:=ho7;clear q7 ho7;refine Kd ?_;refine KO hw7 (fun z7=>?_);refine cY hm (fun hm=>?_) fun hm=>?_
 ·refine Kg ?_;refine pu ?_;refine Ke ?_;refine Kr ?_;refine KF ?_;refine Kt ?_;have er28:=Kh hm;subst er28;refine rP (t':=[(2,iD (1:Int))]) [] [] 0 (wC wN) (lT lN) ?_;exact ⟨rfl,rfl,rfl⟩
 refine Kg ?_;refine pu ?_;refine pu ?_;refine Ke ?_;refine cY hm (fun hm=>?_) fun hm=>?_
 ·refine Kg ?_;refine pu ?_;refine Ke ?_;refine Kr ?_;refine KF ?_;refine Kt ?_;have er30:=Kh hm;subst er30;refine rP (t':=[(2,iD (2:Int))]) [] [] 0 (wC wN) (lT lN) ?_;exact ⟨rfl,rfl,rfl⟩
 refine Kg ?_;refine pu ?_;refine pu ?_;refine Ke ?_;refine cY hm (fun hm=>?_) fun hm=>?_
 ·refine Kg ?_;refine pu ?_;refine pL 0 ?_;refine Kar htab rfl rfl rfl rfl rfl rfl rfl (by first|exact KQ|rfl) ?_;refine pu ?_;refine Ke ?_;refine Kr ?_;refine KF ?_;refine Kt ?_;have er32:=Kh hm;subst er32;refine rP (t':=[(2,iD (a0.gExps.length:Int))]) [] [] 0 (wC wN) (lT lN) ?_;exact ⟨rfl,rfl,rfl⟩
 refine Kg ?_;refine pu ?_;refine pu ?_;refine Ke ?_;refine cY hm (fun hm=>?_) fun hm=>?_
 ·refine Kg ?_;refine pu ?_;refine Ke ?_;refine Kr ?_;refine KF ?_;refine Kt ?_;have er34:=Kh hm;subst er34;refine rP (t':=[(2,iD (0:Int))]) [] [] 0 (wC wN) (lT lN) ?_;exact ⟨rfl,rfl,rfl⟩
 refine Ku ?_;refine KI ?_;refine Kd ?_;refine Kg ?_;refine pu ?_;refine Ke ?_;refine Kr ?_;have er35:=Kh hm;subst er35;refine rP (t':=[(2,iD (-1:Int))]) [] [] 0 (wC wN) (lT lN) ?_;exact ⟨rfl,rfl,rfl⟩
def KeQ (a0:Int):Option (Int):=
 (Option.bind (α:=(Unit)⊕(Int)) (Option.bind (α:=Bool) (bif (a0==(1:Int)) then some (a0==(1:Int)) else (Option.bind (α:=Bool) (bif (a0==(2:Int)) then some (a0==(2:Int)) else (Option.bind (α:=Bool) (bif (a0==(4:Int)) then some (a0==(4:Int)) else (Option.bind (α:=Bool) (bif (a0==(18:Int)) then some (a0==(18:Int)) else some (a0==(19:Int))) fun y44=>some y44)) fun y41=>some y41)) fun y37=>some y37)) fun y32=>(Option.bind (α:=(Unit)⊕(Int)) (bif y32 then some (.inr (0:Int)) else (Option.bind (α:=Bool) (bif (a0==(3:Int)) then some (a0==(3:Int)) else (Option.bind (α:=Bool) (bif (a0==(20:Int)) then some (a0==(20:Int)) else (Option.bind (α:=Bool) (bif (a0==(5:Int)) then some (a0==(5:Int)) else some (a0==(6:Int))) fun y67=>some y67)) fun y64=>some y64)) fun y60=>(bif y60 then some (.inr (1:Int)) else some (.inl ())))) (Sum.elim (fun y54=>some (.inl ())) (fun r=>some (.inr r))))) (Sum.elim (fun y27=>(bif (decide ((7:Int)≤a0)) then (bif (decide (a0≤(17:Int))) then some (2:Int) else some (-1:Int)) else some (-1:Int))) (fun r=>some r)))
theorem Km7 (a0:Int)(r:Int)(h0:KeQ a0=some r):CallsD Tryz.prog 114 [iD a0] [] [] (fun d h k=>d=iD r∧h=[]∧k=[]):=by
 have hm:=KA h0;unfold KeQ at hm;clear h0;refine KT htab Tryz.func114 rfl rfl rfl rfl rfl (fun C=>?_);refine Kg ?_;refine pu ?_;refine Ke ?_;refine Kk ?_;refine Kg ?_;refine pu ?_;refine Ke ?_;obtain ⟨x27,q27,ho27⟩:=Kb hm;refine Kat (τ:=Unit) (Y:=Unit) (fun y27 z27=>(⟨[(0,iD a0)],[],[]⟩:S)) x27 ?_ ?_
 ·clear hm;have hm:=KA q27;refine KC ?_;refine Kk ?_;refine Kg ?_;refine pu ?_;refine pu ?_;refine Ke ?_;obtain ⟨y32,q32,ho32⟩:=Kb hm;refine KY (Y:=Unit) (fun z32=>(⟨[(0,iD a0),(3,iD a0),(4,.v (.bool y32))],[],[]⟩:S)) ?_ ?_
  ·clear hm;have hm:=KA q32;refine cY hm (fun hm=>?_) fun hm=>?_
   ·refine Ku ?_;have e32:=Kh hm;subst e32;refine ⟨rfl,?_⟩;exact wO (wP (wC (wC (wC wN))))
   refine Kg ?_;refine pu ?_;refine pu ?_;refine Ke ?_;obtain ⟨y37,q37,ho37⟩:=Kb hm;refine KY (Y:=Unit) (fun z37=>(⟨[(0,iD a0),(3,iD a0),(4,.v (.bool y37))],[],[]⟩:S)) ?_ ?_
   ·clear hm;have hm:=KA q37;refine cY hm (fun hm=>?_) fun hm=>?_
    ·refine Ku ?_;have e37:=Kh hm;subst e37;refine ⟨rfl,?_⟩;exact wO (wP (wC (wC (wC wN))))
    refine Kg ?_;refine pu ?_;refine pu ?_;refine Ke ?_;obtain ⟨y41,q41,ho41⟩:=Kb hm;refine KY (Y:=Unit) (fun z41=>(⟨[(0,iD a0),(3,iD a0),(4,.v (.bool y41))],[],[]⟩:S)) ?_ ?_
    ·clear hm;have hm:=KA q41;refine cY hm (fun hm=>?_) fun hm=>?_
     ·refine Ku ?_;have e41:=Kh hm;subst e41;refine ⟨rfl,?_⟩;exact wO (wP (wC (wC (wC wN))))
     refine Kg ?_;refine pu ?_;refine pu ?_;refine Ke ?_;obtain ⟨y44,q44,ho44⟩:=Kb hm;refine KY (Y:=Unit) (fun z44=>(⟨[(0,iD a0),(3,iD a0),(4,.v (.bool y44))],[],[]⟩:S)) ?_ ?_
     ·clear hm;have hm:=KA q44;refine cY hm (fun hm=>?_) fun hm=>?_
      ·refine Ku ?_;have e44:=Kh hm;subst e44;refine ⟨rfl,?_⟩;exact wO (wP (wC (wC (wC wN))))
      refine Kx ?_;refine pu ?_;refine pu ?_;refine Kz ?_;have e44:=Kh hm;subst e44;refine ⟨rfl,?_⟩;exact wO (wP (wC (wC (wC wN))))
     intro s44 hw44;clear hm;have hm:=ho44;clear q44 ho44;have e41:=Kh hm;subst e41;refine ⟨rfl,?_⟩;refine WkX.trans hw44 (fun z44=>?_);exact wO (wP (wC (wC (wC wN))))
    intro s41 hw41;clear hm;have hm:=ho41;clear q41 ho41;have e37:=Kh hm;subst e37;refine ⟨rfl,?_⟩;refine WkX.trans hw41 (fun z41=>?_);exact wO (wP (wC (wC (wC wN))))
   intro s37 hw37;clear hm;have hm:=ho37;clear q37 ho37;have e32:=Kh hm;subst e32;refine ⟨rfl,?_⟩;refine WkX.trans hw37 (fun z37=>?_);exact wO (wP (wC (wC (wC wN))))
  intro s32 hw32;clear hm;have hm:=ho32;clear q32 ho32;refine Kd ?_;refine KO hw32 (fun z32=>?_);obtain ⟨x54,q54,ho54⟩:=Kb hm;refine Kat (τ:=Unit) (Y:=Unit) (fun y54 z54=>(⟨[(0,iD a0)],[],[]⟩:S)) x54 ?_ ?_
  ·clear hm;have hm:=KA q54;refine cY hm (fun hm=>?_) fun hm=>?_
   ·refine Kg ?_;refine pu ?_;refine Ke ?_;refine Kr ?_;have e54:=Kh hm;subst e54;refine Kaw ?_;clear hm;have hm:=ho54;simp only [Sum.elim_inr] at hm
    refine KF ?_;have e27:=Kh hm;subst e27;refine Kaw ?_;clear hm;have hm:=ho27;simp only [Sum.elim_inr] at hm
    refine Kt ?_;have er56:=Kh hm;subst er56;refine rP (t':=[(2,iD (0:Int))]) [] [] 0 (wC wN) (lT lN) ?_;exact ⟨rfl,rfl,rfl⟩
   refine Kk ?_;refine Kg ?_;refine pu ?_;refine pu ?_;refine Ke ?_;obtain ⟨y60,q60,ho60⟩:=Kb hm;refine KY (Y:=Unit) (fun z60=>(⟨[(0,iD a0),(10,.v (.bool y60))],[],[]⟩:S)) ?_ ?_
   ·clear hm;have hm:=KA q60;refine cY hm (fun hm=>?_) fun hm=>?_
    ·refine Ku ?_;have e60:=Kh hm;subst e60;refine ⟨rfl,?_⟩;exact wO (wP (wC (wC wN)))
    refine Kg ?_;refine pu ?_;refine pu ?_;refine Ke ?_;obtain ⟨y64,q64,ho64⟩:=Kb hm;refine KY (Y:=Unit) (fun z64=>(⟨[(0,iD a0),(10,.v (.bool y64))],[],[]⟩:S)) ?_ ?_
    ·clear hm;have hm:=KA q64;refine cY hm (fun hm=>?_) fun hm=>?_
     ·refine Ku ?_;have e64:=Kh hm;subst e64;refine ⟨rfl,?_⟩;exact wO (wP (wC (wC wN)))
     refine Kg ?_;refine pu ?_;refine pu ?_;refine Ke ?_;obtain ⟨y67,q67,ho67⟩:=Kb hm;refine KY (Y:=Unit) (fun z67=>(⟨[(0,iD a0),(10,.v (.bool y67))],[],[]⟩:S)) ?_ ?_
     ·clear hm;have hm:=KA q67;refine cY hm (fun hm=>?_) fun hm=>?_
      ·refine Ku ?_;have e67:=Kh hm;subst e67;refine ⟨rfl,?_⟩;exact wO (wP (wC (wC wN)))
      refine Kx ?_;refine pu ?_;refine pu ?_;refine Kz ?_;have e67:=Kh hm;subst e67;refine ⟨rfl,?_⟩;exact wO (wP (wC (wC wN)))
     intro s67 hw67;clear hm;have hm:=ho67;clear q67 ho67;have e64:=Kh hm;subst e64;refine ⟨rfl,?_⟩;refine WkX.trans hw67 (fun z67=>?_);exact wO (wP (wC (wC wN)))
    intro s64 hw64;clear hm;have hm:=ho64;clear q64 ho64;have e60:=Kh hm;subst e60;refine ⟨rfl,?_⟩;refine WkX.trans hw64 (fun z64=>?_);exact wO (wP (wC (wC wN)))
   intro s60 hw60;clear hm;have hm:=ho60;clear q60 ho60;refine Kd ?_;refine KO hw60 (fun z60=>?_);refine cY hm (fun hm=>?_) fun hm=>?_
   ·refine Kg ?_;refine pu ?_;refine Ke ?_;refine Kr ?_;have e54:=Kh hm;subst e54;refine Kaw ?_;clear hm;have hm:=ho54;simp only [Sum.elim_inr] at hm
    refine KF ?_;have e27:=Kh hm;subst e27;refine Kaw ?_;clear hm;have hm:=ho27;simp only [Sum.elim_inr] at hm
    refine Kt ?_;have er71:=Kh hm;subst er71;refine rP (t':=[(2,iD (1:Int))]) [] [] 0 (wC wN) (lT lN) ?_;exact ⟨rfl,rfl,rfl⟩
   refine Ku ?_;have e54:=Kh hm;subst e54;refine Kaj ?_;exact wO (wP (wC wN))
  intro y54 s54 hx54 hw54;subst hx54;clear hm;have hm:=ho54;simp only [Sum.elim_inl] at hm;clear q54 ho54;refine KI ?_;have e27:=Kh hm;subst e27;refine Kaj ?_;refine WkX.trans hw54 (fun z54=>?_);exact wO (wP (wC wN))
 intro y27 s27 hx27 hw27;subst hx27;clear hm;have hm:=ho27;simp only [Sum.elim_inl] at hm;clear q27 ho27;refine Kd ?_;refine KO hw27 (fun z27=>?_);refine Kk ?_;refine Kg ?_;iterate 3 refine pu ?_
 refine Kau (i:=17) rfl (fun hg72=>?_) (fun hg72=>?_)
 ·replace hm:=yes_t hg72 hm;refine pu ?_;refine pu ?_;refine Kao rfl rfl rfl rfl rfl rfl ?_;refine Ke ?_;refine cY hm (fun hm=>?_) fun hm=>?_
  ·refine Kg ?_;refine pu ?_;refine Ke ?_;refine Kr ?_;refine Kt ?_;have er74:=Kh hm;subst er74;refine rP (t':=[(2,iD (2:Int))]) [] [] 0 (wC wN) (lT lN) ?_;exact ⟨rfl,rfl,rfl⟩
  refine Ku ?_;refine Kd ?_;refine Kg ?_;refine pu ?_;refine Ke ?_;refine Kr ?_;have er75:=Kh hm;subst er75;refine rP (t':=[(2,iD (-1:Int))]) [] [] 0 (wC wN) (lT lN) ?_;exact ⟨rfl,rfl,rfl⟩
 replace hm:=yes_f hg72 hm;refine pK ?_;refine pK ?_;refine K8 rfl rfl rfl rfl rfl rfl ?_;refine Ke ?_;refine Kea rfl ?_;refine Ku ?_;refine Kd ?_;refine Kg ?_;refine pu ?_;refine Ke ?_;refine Kr ?_;have er76:=Kh hm;subst er76;refine rP (t':=[(2,iD (-1:Int))]) [] [] 0 (wC wN) (lT lN) ?_;exact ⟨rfl,rfl,rfl⟩
def Kbj (g0:(KE)→(List Kc)→Option ((Int×Int)⊕(List Int)))(g1:(KE)→(Kc)→Option ((Int×Int)⊕(Int)))(a0:KE)(a1:List Kc):Option ((Int×Int)⊕(List Int)):=
 (Option.bind (α:=(List Int)⊕((Int×Int)⊕(List Int))) (loopM (fun (s23:List Int×Int)=>(bif (decide (s23.2 < (a1.length:Int))) then ((idx a1 s23.2).bind fun x38=>((g1 a0 x38).bind fun x40=>Sum.elim (fun pe40=>some (.done (.inr (.inl pe40)))) (fun z40=>((app 8 s23.1 ([z40]:List Int)).bind fun x42=>some (.next (x42,(IntKind.i64.wrap (s23.2+(1:Int))))))) x40)) else some (.done (.inl s23.1)))) (([]:List Int),(0:Int))) (Sum.elim (fun y22=>some (.inr y22)) (fun r=>some r)))
theorem KjB (g0:(KE)→(List Kc)→Option ((Int×Int)⊕(List Int)))(g1:(KE)→(Kc)→Option ((Int×Int)⊕(Int)))(hg0:∀ (a0:KE) (a1:List Kc) (r:(Int×Int)⊕(List Int)) (h0:g0 a0 a1=some r),KbB zc Tryz.prog 99 [K5 a0,.lst 5 (a1.map Kj) .no] [] [] r (fun r d h k=>∃ y0,d=.lst 1 (r.map eI64) (.cur y0)∧h=[]∧k=[(1,y0)]))(hg1:∀ (a0:KE) (a1:Kc) (r:(Int×Int)⊕(Int)) (h0:g1 a0 a1=some r),KbB zc Tryz.prog 108 [K5 a0,Kj a1] [] [] r (fun r d h k=>d=iD r∧h=[]∧k=[]))(a0:KE)(a1:List Kc)(r:(Int×Int)⊕(List Int))(h0:Kbj g0 g1 a0 a1=some r):KbB zc Tryz.prog 99 [K5 a0,.lst 5 (a1.map Kj) .no] [] [] r (fun r d h k=>∃ y0,d=.lst 1 (r.map eI64) (.cur y0)∧h=[]∧k=[(1,y0)]):=by
 have hm:=KA h0;unfold Kbj at hm;clear h0;refine KfX htab Tryz.func99 rfl rfl rfl rfl rfl (fun C=>?_);refine Kg ?_;refine p_box rfl rfl rfl rfl rfl rfl rfl (fun b1=>?_);refine pu ?_;refine KH ?_;refine pu ?_;refine Ke ?_;refine Kk ?_;refine Kg ?_;refine pu ?_;refine Kar htab rfl rfl rfl rfl rfl rfl rfl (by first|exact KQ|rfl) ?_;refine pu ?_;refine Ke ?_;obtain ⟨x22,q22,ho22⟩:=Kb hm;refine Kat (τ:=List Int) (Y:=Value) (fun y22 z22=>(⟨[(5,.lst 1 (y22.map eI64) (.cur z22))],[],[(1,z22)]⟩:S)) x22 ?_ ?_
 ·clear hm;have hm:=KA q22;refine KC ?_;obtain ⟨u23,hl23,hq23⟩:=yes_m hm;refine KaA (Y:=Value) hl23 (fun s23 z23=>(⟨[(2,.ptr b1 0),(5,.lst 1 (s23.1.map eI64) (.cur z23)),(8,.lst 5 (a1.map Kj) .no),(9,iD (a1.length:Int)),(10,iD s23.2)],[(b1,Blk.cells [.lst 4 (a0.gP.gGlobals.map Kp) .no,.lst 5 (a0.gP.gFuncs.map Ks) .no,tD a0.gF.gName,.lst 2 (a0.gF.gParams.map Ko) .no,.lst 2 (a0.gF.gLocals.map Ko) .no,.lst 7 (a0.gF.gBody.map Ki) .no,iD a0.gF.gAt] 137)],[(1,z23)]⟩:S)) ?_ ?_
  ·skip
   refine WkX.tokN (i:=5) 1 rfl (fun w36=>?_);exact WkX.of w36 (wP (wC (wC (wC (wC (wC wN))))))
  intro G23 s23 z23 hm;refine Kg ?_;refine pu ?_;refine Ke ?_;refine Kk ?_;refine cY hm (fun hm=>?_) fun hm=>?_
  ·refine Ku ?_;refine Kd ?_;refine Kk ?_;refine KC ?_;refine Kg ?_;obtain ⟨x38,q38,hm⟩:=Kb hm;refine KaR htab rfl rfl rfl rfl rfl rfl rfl rfl rfl rfl (KD q38) (KL q38) ?_;refine p_eq (i:=12) rfl (Wk.of_eq (congrArg D.el (Kv x38))) ?_;refine KaC (d:=.agg [iD x38.gOp,iD x38.gN,tD x38.gName,.lst 5 (x38.gKids.map Kj) .no,iD x38.gAt]) htab rfl rfl rfl rfl rfl rfl rfl rfl ?_;refine Kag htab rfl rfl rfl rfl rfl rfl rfl (fun b39=>?_);refine pS1 (ds':=[iD x38.gOp,iD x38.gN,tD x38.gName,.lst 5 (x38.gKids.map Kj) .no,iD x38.gAt]) ?_;refine Ke ?_;refine Kx ?_;refine pu ?_
   refine KX (d:=K5 a0) 0 htab rfl rfl rfl rfl rfl rfl rfl rfl ?_;refine KX (d:=.agg [iD x38.gOp,iD x38.gN,tD x38.gName,.lst 5 (x38.gKids.map Kj) .no,iD x38.gAt]) 1 htab rfl rfl rfl rfl rfl rfl rfl rfl ?_;obtain ⟨x40,q40,hm⟩:=Kb hm;rcases x40 with pe40|z40
   ·simp only [Sum.elim_inl] at hm;refine KaV (hg1 a0 x38 (.inl pe40) q40) rfl rfl rfl (WkL.cons (Wk.refl _) (WkL.cons (Wk.trans (Wk.agg (WkR.refl _)) (Wk.of_eq (Kv x38).symm)) Wl)) Pf Pf ?_;refine Kay ?_;refine K3 ?_;have e23:=KN hm;subst e23;clear hm;have hm:=hq23
    refine K3 ?_;refine Kay ?_;have e22:=Kh hm;subst e22;refine Kap ?_;clear hm;have hm:=ho22;simp only [Sum.elim_inr] at hm
    refine K3 ?_;have er41:=Kh hm;subst er41;exact KaB
   simp only [Sum.elim_inr] at hm;refine K1 (hg1 a0 x38 (.inr z40) q40) rfl rfl rfl rfl rfl (WkL.cons (Wk.refl _) (WkL.cons (Wk.trans (Wk.agg (WkR.refl _)) (Wk.of_eq (Kv x38).symm)) Wl)) ?_;rintro _ rfl;refine p_lit htab rfl rfl rfl rfl rfl rfl rfl rfl rfl rfl rfl rfl rfl rfl ?_;refine p_eq (i:=18) (d':=.lst 1 (([z40]:List Int).map eI64) .full) rfl (Wk.lst0 (.cons (WkC.refl _) (.nil))) ?_;obtain ⟨x42,q42,hm⟩:=Kb hm;refine Kev 0 htab rfl rfl rfl rfl rfl rfl rfl rfl rfl rfl rfl rfl rfl rfl rfl rfl rfl (KbL q42) (fun v42=>?_);refine Kew (i:=19) q42 rfl ?_;refine pu ?_;refine Kz ?_;refine KI ?_;refine Kd ?_
   refine Kx ?_;refine pu ?_;refine pu ?_;refine Kz ?_;refine Kd ⟨_,Kas hm,?_⟩;exact WkX.of v42 (wP (wC (wC (wC (wC (wC wN))))))
  refine Kaf ?_;refine KG ?_;have e23:=KN hm;subst e23;clear hm;have hm:=hq23
  refine KG ?_;refine KZ ?_;have e22:=Kh hm;subst e22;refine Kaj ?_;exact WkX.of z23 (wP (wC wN))
 intro y22 s22 hx22 hw22;subst hx22;clear hm;have hm:=ho22;simp only [Sum.elim_inl] at hm;clear q22 ho22;refine Kd ?_;refine KO hw22 (fun z22=>?_);refine Kg ?_;refine pu ?_;refine pu ?_;refine Ke ?_;refine Kr ?_;have er43:=Kh hm;subst er43;refine Kca ?_;refine rP (t':=[(4,.lst 1 (y22.map eI64) (.cur z22))]) [] [0] 0 (wC wN) (lT lN) ?_;exact ⟨z22,rfl,rfl,rfl⟩
abbrev qZ16:List Int:=[(1:Int),(2:Int)]
abbrev qZ21:List Int:=[(3:Int)]
abbrev qZ22:List Int:=[(2:Int)]
def Kbk (g0:(KE)→(List Kc)→Option ((Int×Int)⊕(List Int)))(g1:(KE)→(Kc)→Option ((Int×Int)⊕(Int)))(a0:KE)(a1:Kc):Option ((Int×Int)⊕(Int)):=
 ((KeQ a1.gOp).bind fun x3=>(Option.bind (α:=Bool) (bif (decide (x3 < (0:Int))) then some true else some ((a1.gKids.length:Int) != x3)) fun y5=>(Option.bind (α:=(Unit)⊕((Int×Int)⊕(Int))) (bif y5 then ((Kbp a1.gAt (2:Int)).bind fun x11=>Sum.elim (fun pe11=>some (.inr (.inl pe11))) (fun z11=>some (.inl ())) x11) else some (.inl ())) (Sum.elim (fun y9=>((g0 a0 a1.gKids).bind fun x14=>Sum.elim (fun pe14=>some (.inl pe14)) (fun z14=>(Option.bind (α:=Bool) (bif (a1.gOp==(14:Int)) then some true else some (a1.gOp==(15:Int))) fun y17=>(bif y17 then ((idx z14 (0:Int)).bind fun x26=>((idx z14 (1:Int)).bind fun x27=>(Option.bind (α:=(Unit)⊕((Int×Int)⊕(Int))) (bif (x26 != x27) then ((idx a1.gKids (1:Int)).bind fun x33=>((Kbp x33.gAt (9:Int)).bind fun x34=>Sum.elim (fun pe34=>some (.inr (.inl pe34))) (fun z34=>some (.inl ())) x34)) else some (.inl ())) (Sum.elim (fun y31=>some (.inr (1:Int))) (fun r=>some r))))) else (Option.bind (α:=(Unit)⊕((Int×Int)⊕(Int))) (loopM (fun (s57:Int)=>(bif (decide (s57 < (a1.gKids.length:Int))) then ((idx a1.gKids s57).bind fun x71=>((idx z14 s57).bind fun x73=>((Kb4 x71 x73).bind fun x74=>Sum.elim (fun pe74=>some (.done (.inr (.inl pe74)))) (fun z74=>some (.next (IntKind.i64.wrap (s57+(1:Int))))) x74))) else some (.done (.inl ())))) (0:Int)) (Sum.elim (fun y56=>(bif (a1.gOp==(2:Int)) then ((Kbb a0 a1.gName a1.gAt qZ16).bind fun x77=>Sum.elim (fun pe77=>some (.inl pe77)) (fun z77=>some (.inr z77)) x77) else (bif (a1.gOp==(3:Int)) then ((Kbb a0 a1.gName a1.gAt qZ21).bind fun x81=>Sum.elim (fun pe81=>some (.inl pe81)) (fun z81=>some (.inr (1:Int))) x81) else (bif (a1.gOp==(4:Int)) then ((Kbb a0 a1.gName a1.gAt qZ22).bind fun x85=>Sum.elim (fun pe85=>some (.inl pe85)) (fun z85=>some (.inr (1:Int))) x85) else (bif (a1.gOp==(18:Int)) then some (.inr (2:Int)) else (bif (a1.gOp==(19:Int)) then ((KcB a0 a1 (1:Int)).bind fun x91=>Sum.elim (fun pe91=>some (.inl pe91)) (fun z91=>some (.inr z91)) x91) else (bif (a1.gOp==(20:Int)) then ((KcB a0 a1 (3:Int)).bind fun x95=>Sum.elim (fun pe95=>some (.inl pe95)) (fun z95=>some (.inr z95)) x95) else some (.inr (1:Int))))))))) (fun r=>some r)))))) x14)) (fun r=>some r)))))
theorem KjC (g0:(KE)→(List Kc)→Option ((Int×Int)⊕(List Int)))(g1:(KE)→(Kc)→Option ((Int×Int)⊕(Int)))(hg0:∀ (a0:KE) (a1:List Kc) (r:(Int×Int)⊕(List Int)) (h0:g0 a0 a1=some r),KbB zc Tryz.prog 99 [K5 a0,.lst 5 (a1.map Kj) .no] [] [] r (fun r d h k=>∃ y0,d=.lst 1 (r.map eI64) (.cur y0)∧h=[]∧k=[(1,y0)]))(hg1:∀ (a0:KE) (a1:Kc) (r:(Int×Int)⊕(Int)) (h0:g1 a0 a1=some r),KbB zc Tryz.prog 108 [K5 a0,Kj a1] [] [] r (fun r d h k=>d=iD r∧h=[]∧k=[]))(a0:KE)(a1:Kc)(r:(Int×Int)⊕(Int))(h0:Kbk g0 g1 a0 a1=some r):KbB zc Tryz.prog 108 [K5 a0,Kj a1] [] [] r (fun r d h k=>d=iD r∧h=[]∧k=[]):=by
 have hm:=KA h0;unfold Kbk at hm;clear h0;refine KfX htab Tryz.func108 rfl rfl rfl rfl rfl (fun C=>?_);refine w_eq (i:=1) rfl (Wk.of_eq (Kv a1)) ?_;refine Kg ?_;refine p_box rfl rfl rfl rfl rfl rfl rfl (fun b1=>?_);refine p_box rfl rfl rfl rfl rfl rfl rfl (fun b2=>?_);refine pu ?_;refine Ke ?_;refine Kk ?_;refine Kg ?_;refine pu ?_;refine pL 1 ?_;obtain ⟨x3,q3,hm⟩:=Kb hm;refine K1 (Km7 a1.gOp x3 q3) rfl rfl rfl rfl rfl Wl ?_;rintro _ rfl;refine pu ?_;refine Ke ?_;refine Kk ?_;obtain ⟨y5,q5,ho5⟩:=Kb hm
 refine KY (Y:=Unit) (fun z5=>(⟨[(2,.ptr b1 0),(3,.ptr b2 0),(20,.v (.bool y5))],[(b1,Blk.cells [.lst 4 (a0.gP.gGlobals.map Kp) .no,.lst 5 (a0.gP.gFuncs.map Ks) .no,tD a0.gF.gName,.lst 2 (a0.gF.gParams.map Ko) .no,.lst 2 (a0.gF.gLocals.map Ko) .no,.lst 7 (a0.gF.gBody.map Ki) .no,iD a0.gF.gAt] 137),(b2,Blk.cells [iD a1.gOp,iD a1.gN,tD a1.gName,.lst 5 (a1.gKids.map Kj) .no,iD a1.gAt] 87)],[]⟩:S)) ?_ ?_
 ·clear hm;have hm:=KA q5;refine Kx ?_;iterate 3 refine pu ?_
  refine Kau (i:=14) rfl (fun hg6=>?_) (fun hg6=>?_)
  ·replace hm:=yes_t hg6 hm;iterate 5 refine pK ?_
   refine Kao rfl rfl rfl rfl rfl rfl ?_;refine Kz ?_;have e5:=Kh hm;subst e5;refine ⟨rfl,?_⟩;exact wO (wP (wC (wC (wC wN))))
  replace hm:=yes_f hg6 hm;refine pu ?_;refine pL 1 ?_;refine Kar htab rfl rfl rfl rfl rfl rfl rfl (by first|exact KQ|rfl) ?_;refine pu ?_;refine pu ?_;refine K8 rfl rfl rfl rfl rfl rfl ?_;refine Kz ?_;have e5:=Kh hm;subst e5;refine ⟨rfl,?_⟩;exact wO (wP (wC (wC (wC wN))))
 intro s5 hw5;clear hm;have hm:=ho5;clear q5 ho5;refine Kd ?_;refine KO hw5 (fun z5=>?_);obtain ⟨x9,q9,ho9⟩:=Kb hm;refine Kat (τ:=Unit) (Y:=Unit) (fun y9 z9=>(⟨[(2,.ptr b1 0),(3,.ptr b2 0)],[(b1,Blk.cells [.lst 4 (a0.gP.gGlobals.map Kp) .no,.lst 5 (a0.gP.gFuncs.map Ks) .no,tD a0.gF.gName,.lst 2 (a0.gF.gParams.map Ko) .no,.lst 2 (a0.gF.gLocals.map Ko) .no,.lst 7 (a0.gF.gBody.map Ki) .no,iD a0.gF.gAt] 137),(b2,Blk.cells [iD a1.gOp,iD a1.gN,tD a1.gName,.lst 5 (a1.gKids.map Kj) .no,iD a1.gAt] 87)],[]⟩:S)) x9 ?_ ?_
 ·clear hm;have hm:=KA q9;refine cY hm (fun hm=>?_) fun hm=>?_
  ·refine Kx ?_;refine pu ?_;refine pL 1 ?_;obtain ⟨x11,q11,hm⟩:=Kb hm;rcases x11 with pe11|z11
   ·simp only [Sum.elim_inl] at hm;refine KaV (Ka4 a1.gAt (2:Int) (.inl pe11) q11) rfl rfl rfl Wl Pf Pf ?_;have e9:=Kh hm;subst e9;refine Kap ?_;clear hm;have hm:=ho9;simp only [Sum.elim_inr] at hm
    refine K3 ?_;have er12:=Kh hm;subst er12;exact KaB
   simp only [Sum.elim_inr] at hm;refine K1 (Ka4 a1.gAt (2:Int) (.inr z11) q11) rfl rfl rfl rfl rfl Wl ?_;rintro _ rfl;refine Kz ?_;have e9:=Kh hm;subst e9;refine Kaj ?_;exact wO (wP (wC (wC wN)))
  refine Ku ?_;have e9:=Kh hm;subst e9;refine Kaj ?_;exact wO (wP (wC (wC wN)))
 intro y9 s9 hx9 hw9;subst hx9;clear hm;have hm:=ho9;simp only [Sum.elim_inl] at hm;clear q9 ho9;refine Kd ?_;refine KO hw9 (fun z9=>?_);refine Kg ?_;refine KX (d:=K5 a0) 0 htab rfl rfl rfl rfl rfl rfl rfl rfl ?_;refine pu ?_;refine pL 1 ?_;obtain ⟨x14,q14,hm⟩:=Kb hm;rcases x14 with pe14|z14
 ·simp only [Sum.elim_inl] at hm;refine KaV (hg0 a0 a1.gKids (.inl pe14) q14) rfl rfl rfl Wl Pf Pf ?_;refine K3 ?_;have er15:=Kh hm;subst er15;exact KaB
 simp only [Sum.elim_inr] at hm;refine pG (hg0 a0 a1.gKids (.inr z14) q14) Wl Pf Pf ?_;rintro _ _ _ ⟨w13,rfl,rfl,rfl⟩;refine pu ?_;refine Ke ?_;refine Kk ?_;refine Kk ?_;obtain ⟨y17,q17,ho17⟩:=Kb hm
 refine KY (Y:=Unit) (fun z17=>(⟨[(2,.ptr b1 0),(3,.ptr b2 0),(6,.lst 1 (z14.map eI64) (.cur w13)),(35,.v (.bool y17))],[(b1,Blk.cells [.lst 4 (a0.gP.gGlobals.map Kp) .no,.lst 5 (a0.gP.gFuncs.map Ks) .no,tD a0.gF.gName,.lst 2 (a0.gF.gParams.map Ko) .no,.lst 2 (a0.gF.gLocals.map Ko) .no,.lst 7 (a0.gF.gBody.map Ki) .no,iD a0.gF.gAt] 137),(b2,Blk.cells [iD a1.gOp,iD a1.gN,tD a1.gName,.lst 5 (a1.gKids.map Kj) .no,iD a1.gAt] 87)],[(1,w13)]⟩:S)) ?_ ?_
 ·clear hm;have hm:=KA q17;refine Kx ?_;refine pu ?_;refine pL 1 ?_;refine pu ?_;refine pu ?_;refine Kau (i:=31) rfl (fun hg18=>?_) (fun hg18=>?_)
  ·replace hm:=yes_t hg18 hm;iterate 3 refine pK ?_
   refine Kao rfl rfl rfl rfl rfl rfl ?_;refine Kz ?_;have e17:=Kh hm;subst e17;refine ⟨rfl,?_⟩;exact wO (wP (wC (wC (wC (wC wN)))))
  replace hm:=yes_f hg18 hm;refine pu ?_;refine pL 1 ?_;refine pu ?_;refine K8 rfl rfl rfl rfl rfl rfl ?_;refine Kz ?_;have e17:=Kh hm;subst e17;refine ⟨rfl,?_⟩;exact wO (wP (wC (wC (wC (wC wN)))))
 intro s17 hw17;clear hm;have hm:=ho17;clear q17 ho17;refine Kd ?_;refine KO hw17 (fun z17=>?_);refine cY hm (fun hm=>?_) fun hm=>?_
 ·refine Kk ?_;refine Kk ?_;obtain ⟨x26,q26,hm⟩:=Kb hm;obtain ⟨x27,q27,hm⟩:=Kb hm;refine Kak 6 [] [[],[0],[0,1],[],[3],[3,4]] [0,1,3,4] [[],[0],[0,1],[],[3],[3,4],[0,1,2,3,4,5]] (by kernel_rfl) (by kernel_rfl) (by kernel_rfl) (by rfl) (by rfl) (by kernel_rfl) ?_;iterate 4 apply Exists.intro
  intro bs;refine zep ?_;refine z_e rfl rfl (Kav htab rfl rfl rfl rfl rfl rfl rfl (KD q26) (KL q26)) rfl rfl rfl rfl rfl rfl ?_;refine z_qM rfl rfl (K7 htab rfl rfl rfl rfl rfl) rfl rfl rfl rfl rfl rfl ?_;refine zep ?_;refine z_e rfl rfl (Kav htab rfl rfl rfl rfl rfl rfl rfl (KD q27) (KL q27)) rfl rfl rfl rfl rfl rfl ?_;refine z_qM rfl rfl (K7 htab rfl rfl rfl rfl rfl) rfl rfl rfl rfl rfl rfl ?_;refine z_nil rfl rfl (fun e he=>by simp [isAl] at he) ?_;refine pu ?_;refine Ke ?_;obtain ⟨x31,q31,ho31⟩:=Kb hm;refine Kat (τ:=Unit) (Y:=Unit) (fun y31 z31=>(⟨[],[],[]⟩:S)) x31 ?_ ?_
  ·clear hm;have hm:=KA q31;refine cY hm (fun hm=>?_) fun hm=>?_
   ·refine Kx ?_;refine pu ?_;refine pL 1 ?_;obtain ⟨x33,q33,hm⟩:=Kb hm;refine KaR htab rfl rfl rfl rfl rfl rfl rfl rfl rfl rfl (KD q33) (KL q33) ?_;refine p_eq (i:=45) rfl (Wk.of_eq (congrArg D.el (Kv x33))) ?_;refine pu ?_;refine KaC htab rfl rfl rfl rfl rfl rfl rfl rfl ?_;obtain ⟨x34,q34,hm⟩:=Kb hm;rcases x34 with pe34|z34
    ·simp only [Sum.elim_inl] at hm;refine KaV (Ka4 x33.gAt (9:Int) (.inl pe34) q34) rfl rfl rfl Wl Pf Pf ?_;have e31:=Kh hm;subst e31;refine Kap ?_;clear hm;have hm:=ho31;simp only [Sum.elim_inr] at hm
     refine K3 ?_;refine K3 ?_;have er35:=Kh hm;subst er35;exact KaB
    simp only [Sum.elim_inr] at hm;refine K1 (Ka4 x33.gAt (9:Int) (.inr z34) q34) rfl rfl rfl rfl rfl Wl ?_;rintro _ rfl;refine Kz ?_;have e31:=Kh hm;subst e31;refine Kaj ?_;exact wO (wP wN)
   refine Ku ?_;have e31:=Kh hm;subst e31;refine Kaj ?_;exact wO (wP wN)
  intro y31 s31 hx31 hw31;subst hx31;clear hm;have hm:=ho31;simp only [Sum.elim_inl] at hm;clear q31 ho31;refine Kd ?_;refine KO hw31 (fun z31=>?_);refine Kg ?_;refine pu ?_;refine Ke ?_;refine Kr ?_;refine Kt ?_;have er36:=Kh hm;subst er36;refine Kca ?_;refine rP (t':=[(4,iD (1:Int))]) [] [] 0 (wC wN) (lT lN) ?_;exact ⟨rfl,rfl,rfl⟩
 refine Ku ?_;refine Kd ?_;refine Kk ?_;refine Kg ?_;refine pu ?_;refine pL 1 ?_;refine Kar htab rfl rfl rfl rfl rfl rfl rfl (by first|exact KQ|rfl) ?_;refine pu ?_;refine Ke ?_;obtain ⟨x56,q56,ho56⟩:=Kb hm
 refine Kat (τ:=Unit) (Y:=Unit) (fun y56 z56=>(⟨[(2,.ptr b1 0),(3,.ptr b2 0)],[(b1,Blk.cells [.lst 4 (a0.gP.gGlobals.map Kp) .no,.lst 5 (a0.gP.gFuncs.map Ks) .no,tD a0.gF.gName,.lst 2 (a0.gF.gParams.map Ko) .no,.lst 2 (a0.gF.gLocals.map Ko) .no,.lst 7 (a0.gF.gBody.map Ki) .no,iD a0.gF.gAt] 137),(b2,Blk.cells [iD a1.gOp,iD a1.gN,tD a1.gName,.lst 5 (a1.gKids.map Kj) .no,iD a1.gAt] 87)],[]⟩:S)) x56 ?_ ?_
 ·clear hm;have hm:=KA q56;refine KC ?_;obtain ⟨u57,hl57,hq57⟩:=yes_m hm;refine KaA (Y:=Unit) hl57 (fun s57 z57=>(⟨[(2,.ptr b1 0),(3,.ptr b2 0),(6,.lst 1 (z14.map eI64) (.cur w13)),(50,.lst 5 (a1.gKids.map Kj) .no),(51,iD (a1.gKids.length:Int)),(52,iD s57)],[(b1,Blk.cells [.lst 4 (a0.gP.gGlobals.map Kp) .no,.lst 5 (a0.gP.gFuncs.map Ks) .no,tD a0.gF.gName,.lst 2 (a0.gF.gParams.map Ko) .no,.lst 2 (a0.gF.gLocals.map Ko) .no,.lst 7 (a0.gF.gBody.map Ki) .no,iD a0.gF.gAt] 137),(b2,Blk.cells [iD a1.gOp,iD a1.gN,tD a1.gName,.lst 5 (a1.gKids.map Kj) .no,iD a1.gAt] 87)],[(1,w13)]⟩:S)) ?_ ?_
  ·skip
   exact wO (wP (wC (wC (wC (wC (wC (wC wN)))))))
  intro G57 s57 z57 hm;refine Kg ?_;refine pu ?_;refine Ke ?_;refine Kk ?_;refine cY hm (fun hm=>?_) fun hm=>?_
  ·refine Ku ?_;refine Kd ?_;refine Kk ?_;refine KC ?_;refine Kg ?_;refine pu ?_;obtain ⟨x71,q71,hm⟩:=Kb hm;refine KaR htab rfl rfl rfl rfl rfl rfl rfl rfl rfl rfl (KD q71) (KL q71) ?_;refine p_eq (i:=55) rfl (Wk.of_eq (congrArg D.el (Kv x71))) ?_;refine KaC (d:=.agg [iD x71.gOp,iD x71.gN,tD x71.gName,.lst 5 (x71.gKids.map Kj) .no,iD x71.gAt]) htab rfl rfl rfl rfl rfl rfl rfl rfl ?_;refine Kag htab rfl rfl rfl rfl rfl rfl rfl (fun b72=>?_);refine pu ?_;refine pS2 (ds':=[iD x71.gOp,iD x71.gN,tD x71.gName,.lst 5 (x71.gKids.map Kj) .no,iD x71.gAt]) ?_;refine Ke ?_
   obtain ⟨x73,q73,hm⟩:=Kb hm;refine Kak 5 [] [[],[],[],[1],[1,3]] [0,1,3] [[],[],[],[1,2],[1,2,3],[0,1,2,3,4]] (by kernel_rfl) (by kernel_rfl) (by kernel_rfl) (by rfl) (by rfl) (by kernel_rfl) ?_;iterate 3 apply Exists.intro
   intro bs;refine z_eM rfl rfl (KJ (d:=.agg [iD x71.gOp,iD x71.gN,tD x71.gName,.lst 5 (x71.gKids.map Kj) .no,iD x71.gAt]) 2 htab rfl rfl rfl rfl rfl) rfl rfl rfl rfl rfl rfl ?_;refine zep ?_;refine zqp ?_;refine z_e rfl rfl (Kav htab rfl rfl rfl rfl rfl rfl rfl (KD q73) (KL q73)) rfl rfl rfl rfl rfl rfl ?_;refine z_qM rfl rfl (K7 htab rfl rfl rfl rfl rfl) rfl rfl rfl rfl rfl rfl ?_;refine z_nil rfl rfl (fun e he=>by simp [isAl] at he) ?_;obtain ⟨x74,q74,hm⟩:=Kb hm;rcases x74 with pe74|z74
   ·simp only [Sum.elim_inl] at hm;refine KaV (KbF x71 x73 (.inl pe74) q74) rfl rfl rfl (WkL.cons (Wk.trans (Wk.agg (WkR.refl _)) (Wk.of_eq (Kv x71).symm)) (WkL.cons (Wk.refl _) Wl)) Pf Pf ?_;refine Kay ?_;refine K3 ?_;have e57:=KN hm;subst e57;clear hm;have hm:=hq57
    refine K3 ?_;refine Kay ?_;have e56:=Kh hm;subst e56;refine Kap ?_;clear hm;have hm:=ho56;simp only [Sum.elim_inr] at hm
    refine K3 ?_;have er75:=Kh hm;subst er75;exact KaB
   simp only [Sum.elim_inr] at hm;refine K1 (KbF x71 x73 (.inr z74) q74) rfl rfl rfl rfl rfl (WkL.cons (Wk.trans (Wk.agg (WkR.refl _)) (Wk.of_eq (Kv x71).symm)) (WkL.cons (Wk.refl _) Wl)) ?_;rintro _ rfl;refine Kz ?_;refine KI ?_;refine Kd ?_;refine Kx ?_;refine pu ?_;refine pu ?_;refine Kz ?_;refine Kd ⟨_,Kas hm,?_⟩;exact wO (wP (wC (wC (wC (wC (wC (wC wN)))))))
  refine Kaf ?_;refine KG ?_;have e57:=KN hm;subst e57;clear hm;have hm:=hq57
  refine KG ?_;refine KZ ?_;have e56:=Kh hm;subst e56;refine Kaj ?_;exact wO (wP (wC (wC wN)))
 intro y56 s56 hx56 hw56;subst hx56;clear hm;have hm:=ho56;simp only [Sum.elim_inl] at hm;clear q56 ho56;refine Kd ?_;refine KO hw56 (fun z56=>?_);refine Kk ?_;refine Kg ?_;refine pu ?_;refine pL 1 ?_;refine Ke ?_;refine KC ?_;refine Kg ?_;refine pu ?_;refine pu ?_;refine Ke ?_;refine cY hm (fun hm=>?_) fun hm=>?_
 ·refine Kg ?_;refine KX (d:=K5 a0) 0 htab rfl rfl rfl rfl rfl rfl rfl rfl ?_;refine pu ?_;refine pL 1 ?_;refine pu ?_;refine pL 1 ?_;refine p_lit htab rfl rfl rfl rfl rfl rfl rfl rfl rfl rfl rfl rfl rfl rfl ?_;refine p_eq (i:=73) (d':=.lst 1 (qZ16.map eI64) .full) rfl (Wk.lst0 (.cons (WkC.refl _) (.cons (WkC.refl _) (.nil)))) ?_;obtain ⟨x77,q77,hm⟩:=Kb hm;rcases x77 with pe77|z77
  ·simp only [Sum.elim_inl] at hm;refine KaV (KaE a0 a1.gName a1.gAt qZ16 (.inl pe77) q77) rfl rfl rfl (WkL.cons (Wk.refl _) (WkL.cons (Wk.refl _) (WkL.cons (Wk.refl _) (WkL.cons (Wk.no) Wl)))) Pf Pf ?_;refine K3 ?_;refine Kay ?_;refine K3 ?_;have er78:=Kh hm;subst er78;exact KaB
  simp only [Sum.elim_inr] at hm;refine K1 (KaE a0 a1.gName a1.gAt qZ16 (.inr z77) q77) rfl rfl rfl rfl rfl (WkL.cons (Wk.refl _) (WkL.cons (Wk.refl _) (WkL.cons (Wk.refl _) (WkL.cons (Wk.no) Wl)))) ?_;rintro _ rfl;refine pu ?_;refine Ke ?_;refine Kr ?_;refine KF ?_;refine Kt ?_;have er79:=Kh hm;subst er79;refine Kca ?_;refine rP (t':=[(4,iD z77)]) [] [] 0 (wC wN) (lT lN) ?_;exact ⟨rfl,rfl,rfl⟩
 refine Kg ?_;refine pu ?_;refine pu ?_;refine Ke ?_;refine cY hm (fun hm=>?_) fun hm=>?_
 ·refine Kx ?_;refine KX (d:=K5 a0) 0 htab rfl rfl rfl rfl rfl rfl rfl rfl ?_;refine pu ?_;refine pL 1 ?_;refine pu ?_;refine pL 1 ?_;refine p_lit htab rfl rfl rfl rfl rfl rfl rfl rfl rfl rfl rfl rfl rfl rfl ?_;refine p_eq (i:=82) (d':=.lst 1 (qZ21.map eI64) .full) rfl (Wk.lst0 (.cons (WkC.refl _) (.nil))) ?_;obtain ⟨x81,q81,hm⟩:=Kb hm;rcases x81 with pe81|z81
  ·simp only [Sum.elim_inl] at hm;refine KaV (KaE a0 a1.gName a1.gAt qZ21 (.inl pe81) q81) rfl rfl rfl (WkL.cons (Wk.refl _) (WkL.cons (Wk.refl _) (WkL.cons (Wk.refl _) (WkL.cons (Wk.no) Wl)))) Pf Pf ?_;refine Kay ?_;refine K3 ?_;have er82:=Kh hm;subst er82;exact KaB
  simp only [Sum.elim_inr] at hm;refine K1 (KaE a0 a1.gName a1.gAt qZ21 (.inr z81) q81) rfl rfl rfl rfl rfl (WkL.cons (Wk.refl _) (WkL.cons (Wk.refl _) (WkL.cons (Wk.refl _) (WkL.cons (Wk.no) Wl)))) ?_;rintro _ rfl;refine Kz ?_;refine KI ?_;refine Kd ?_;refine Kg ?_;refine pu ?_;refine Ke ?_;refine Kr ?_;have er83:=Kh hm;subst er83;refine Kca ?_;refine rP (t':=[(4,iD (1:Int))]) [] [] 0 (wC wN) (lT lN) ?_;exact ⟨rfl,rfl,rfl⟩
 refine Kg ?_;refine pu ?_;refine pu ?_;refine Ke ?_;refine cY hm (fun hm=>?_) fun hm=>?_
 ·refine Kx ?_;refine KX (d:=K5 a0) 0 htab rfl rfl rfl rfl rfl rfl rfl rfl ?_;refine pu ?_;refine pL 1 ?_;refine pu ?_;refine pL 1 ?_;refine p_lit htab rfl rfl rfl rfl rfl rfl rfl rfl rfl rfl rfl rfl rfl rfl ?_;refine p_eq (i:=91) (d':=.lst 1 (qZ22.map eI64) .full) rfl (Wk.lst0 (.cons (WkC.refl _) (.nil))) ?_;obtain ⟨x85,q85,hm⟩:=Kb hm;rcases x85 with pe85|z85
  ·simp only [Sum.elim_inl] at hm;refine KaV (KaE a0 a1.gName a1.gAt qZ22 (.inl pe85) q85) rfl rfl rfl (WkL.cons (Wk.refl _) (WkL.cons (Wk.refl _) (WkL.cons (Wk.refl _) (WkL.cons (Wk.no) Wl)))) Pf Pf ?_;refine Kay ?_;refine K3 ?_;have er86:=Kh hm;subst er86;exact KaB
  simp only [Sum.elim_inr] at hm;refine K1 (KaE a0 a1.gName a1.gAt qZ22 (.inr z85) q85) rfl rfl rfl rfl rfl (WkL.cons (Wk.refl _) (WkL.cons (Wk.refl _) (WkL.cons (Wk.refl _) (WkL.cons (Wk.no) Wl)))) ?_;rintro _ rfl;refine Kz ?_;refine KI ?_;refine Kd ?_;refine Kg ?_;refine pu ?_;refine Ke ?_;refine Kr ?_;have er87:=Kh hm;subst er87;refine Kca ?_;refine rP (t':=[(4,iD (1:Int))]) [] [] 0 (wC wN) (lT lN) ?_;exact ⟨rfl,rfl,rfl⟩
 refine Kg ?_;refine pu ?_;refine pu ?_;refine Ke ?_;refine cY hm (fun hm=>?_) fun hm=>?_
 ·refine Kg ?_;refine pu ?_;refine Ke ?_;refine Kr ?_;refine KF ?_;refine Kt ?_;have er89:=Kh hm;subst er89;refine Kca ?_;refine rP (t':=[(4,iD (2:Int))]) [] [] 0 (wC wN) (lT lN) ?_;exact ⟨rfl,rfl,rfl⟩
 refine Kg ?_;refine pu ?_;refine pu ?_;refine Ke ?_;refine cY hm (fun hm=>?_) fun hm=>?_
 ·refine Kg ?_;refine KX (d:=K5 a0) 0 htab rfl rfl rfl rfl rfl rfl rfl rfl ?_;refine KX (d:=.agg [iD a1.gOp,iD a1.gN,tD a1.gName,.lst 5 (a1.gKids.map Kj) .no,iD a1.gAt]) 1 htab rfl rfl rfl rfl rfl rfl rfl rfl ?_;obtain ⟨x91,q91,hm⟩:=Kb hm;rcases x91 with pe91|z91
  ·simp only [Sum.elim_inl] at hm;refine KaV (Kdm a0 a1 (1:Int) (.inl pe91) q91) rfl rfl rfl (WkL.cons (Wk.refl _) (WkL.cons (Wk.trans (Wk.agg (WkR.refl _)) (Wk.of_eq (Kv a1).symm)) (WkL.cons (Wk.refl _) Wl))) Pf Pf ?_;refine K3 ?_;refine Kay ?_;refine K3 ?_;have er92:=Kh hm;subst er92;exact KaB
  simp only [Sum.elim_inr] at hm;refine K1 (Kdm a0 a1 (1:Int) (.inr z91) q91) rfl rfl rfl rfl rfl (WkL.cons (Wk.refl _) (WkL.cons (Wk.trans (Wk.agg (WkR.refl _)) (Wk.of_eq (Kv a1).symm)) (WkL.cons (Wk.refl _) Wl))) ?_;rintro _ rfl;refine pu ?_;refine Ke ?_;refine Kr ?_;refine KF ?_;refine Kt ?_;have er93:=Kh hm;subst er93;refine Kca ?_;refine rP (t':=[(4,iD z91)]) [] [] 0 (wC wN) (lT lN) ?_;exact ⟨rfl,rfl,rfl⟩
 refine Kg ?_;refine pu ?_;refine pu ?_;refine Ke ?_;refine cY hm (fun hm=>?_) fun hm=>?_
 ·refine Kg ?_;refine KX (d:=K5 a0) 0 htab rfl rfl rfl rfl rfl rfl rfl rfl ?_;refine KX (d:=.agg [iD a1.gOp,iD a1.gN,tD a1.gName,.lst 5 (a1.gKids.map Kj) .no,iD a1.gAt]) 1 htab rfl rfl rfl rfl rfl rfl rfl rfl ?_;obtain ⟨x95,q95,hm⟩:=Kb hm;rcases x95 with pe95|z95
  ·simp only [Sum.elim_inl] at hm;refine KaV (Kdm a0 a1 (3:Int) (.inl pe95) q95) rfl rfl rfl (WkL.cons (Wk.refl _) (WkL.cons (Wk.trans (Wk.agg (WkR.refl _)) (Wk.of_eq (Kv a1).symm)) (WkL.cons (Wk.refl _) Wl))) Pf Pf ?_;refine K3 ?_;refine Kay ?_;refine K3 ?_;have er96:=Kh hm;subst er96;exact KaB
  simp only [Sum.elim_inr] at hm;refine K1 (Kdm a0 a1 (3:Int) (.inr z95) q95) rfl rfl rfl rfl rfl (WkL.cons (Wk.refl _) (WkL.cons (Wk.trans (Wk.agg (WkR.refl _)) (Wk.of_eq (Kv a1).symm)) (WkL.cons (Wk.refl _) Wl))) ?_;rintro _ rfl;refine pu ?_;refine Ke ?_;refine Kr ?_;refine KF ?_;refine Kt ?_;have er97:=Kh hm;subst er97;refine Kca ?_;refine rP (t':=[(4,iD z95)]) [] [] 0 (wC wN) (lT lN) ?_;exact ⟨rfl,rfl,rfl⟩
 refine Ku ?_;refine KI ?_;refine Kd ?_;refine Kg ?_;refine pu ?_;refine Ke ?_;refine Kr ?_;have er98:=Kh hm;subst er98;refine Kca ?_;refine rP (t':=[(4,iD (1:Int))]) [] [] 0 (wC wN) (lT lN) ?_;exact ⟨rfl,rfl,rfl⟩
def Kac:Nat→((KE)→(List Kc)→Option ((Int×Int)⊕(List Int)))×((KE)→(Kc)→Option ((Int×Int)⊕(Int)))
 | 0=>(fun _ _=>none,fun _ _=>none)
 | n+1=>(Kbj ((Kac n).1) ((Kac n).2),Kbk ((Kac n).1) ((Kac n).2))
theorem Kgp:∀ n,(∀ (a0:KE) (a1:List Kc) (r:(Int×Int)⊕(List Int)) (h0:(Kac n).1 a0 a1=some r),KbB zc Tryz.prog 99 [K5 a0,.lst 5 (a1.map Kj) .no] [] [] r (fun r d h k=>∃ y0,d=.lst 1 (r.map eI64) (.cur y0)∧h=[]∧k=[(1,y0)]))∧(∀ (a0:KE) (a1:Kc) (r:(Int×Int)⊕(Int)) (h0:(Kac n).2 a0 a1=some r),KbB zc Tryz.prog 108 [K5 a0,Kj a1] [] [] r (fun r d h k=>d=iD r∧h=[]∧k=[]))
 | 0=>⟨(fun _ _ _ h0=>by cases h0),(fun _ _ _ h0=>by cases h0)⟩
 |
  n+1=>by
  have ih:=Kgp n;exact ⟨KjB ((Kac n).1) ((Kac n).2) (ih.1) (ih.2),KjC ((Kac n).1) ((Kac n).2) (ih.1) (ih.2)⟩
theorem Kgq:∀ n,(∀ (a0:KE) (a1:List Kc),Le ((Kac n).1 a0 a1) ((Kac (n+1)).1 a0 a1))∧(∀ (a0:KE) (a1:Kc),Le ((Kac n).2 a0 a1) ((Kac (n+1)).2 a0 a1))
 | 0=>⟨fun _ _=>Le.none _,fun _ _=>Le.none _⟩
 |
  n+1=>by
  have ih:=Kgq n
  exact ⟨fun a0 a1=>by show Le (Kbj ((Kac n).1) ((Kac n).2) a0 a1) (Kbj ((Kac (n+1)).1) ((Kac (n+1)).2) a0 a1);unfold Kbj;repeat (first|exact Le.refl _|exact ih.1 _ _|exact ih.2 _ _|assumption|(refine Le.bind ?_ (fun _=>?_))|(refine Le.cond ?_ ?_)|(refine Le.loop (fun _=>?_))|(refine Le.elim (fun _=>?_) (fun _=>?_))),fun a0 a1=>by show Le (Kbk ((Kac n).1) ((Kac n).2) a0 a1) (Kbk ((Kac (n+1)).1) ((Kac (n+1)).2) a0 a1);unfold Kbk;repeat (first|exact Le.refl _|exact ih.1 _ _|exact ih.2 _ _|assumption|(refine Le.bind ?_ (fun _=>?_))|(refine Le.cond ?_ ?_)|(refine Le.loop (fun _=>?_))|(refine Le.elim (fun _=>?_) (fun _=>?_)))⟩
def KdW (a0:KE)(a1:List Kc):Option ((Int×Int)⊕(List Int)):=anyN fun n=>(Kac n).1 a0 a1
theorem Kg1 (a0:KE)(a1:List Kc){r:(Int×Int)⊕(List Int)}(n:Nat)(h:(Kac n).1 a0 a1=some r):KdW a0 a1=some r:=KdR (fun m=>(Kgq m).1 a0 a1) h
theorem Kg2 (a0:KE)(a1:List Kc)(r:(Int×Int)⊕(List Int))(h0:KdW a0 a1=some r):KbB zc Tryz.prog 99 [K5 a0,.lst 5 (a1.map Kj) .no] [] [] r (fun r d h k=>∃ y0,d=.lst 1 (r.map eI64) (.cur y0)∧h=[]∧k=[(1,y0)]):=
 let ⟨n,hn⟩:=Kdh h0;(Kgp n).1 a0 a1 r hn
abbrev qZ23:List Int:=[(1:Int)]
def KdX (a0:KE)(a1:Km)(a2:List Int):Option ((Int×Int)⊕(Unit)):=
 (Option.bind (α:=(Unit)⊕((Int×Int)⊕(Unit))) (loopM (fun (s208:Int)=>(bif (decide (s208 < (a0.gP.gFuncs.length:Int))) then ((idx a0.gP.gFuncs s208).bind fun x344=>(bif (!decide (x344.gName=a1.gFunc)) then some (.next (IntKind.i64.wrap (s208+(1:Int)))) else (Option.bind (α:=(Unit)⊕((Int×Int)⊕(Unit))) (bif ((x344.gParams.length:Int) != (a2.length:Int)) then ((Kbp a1.gAt (2:Int)).bind fun x351=>Sum.elim (fun pe351=>some (.inr (.inl pe351))) (fun z351=>some (.inl ())) x351) else some (.inl ())) (Sum.elim (fun y349=>(Option.bind (α:=(Unit)⊕((Int×Int)⊕(Unit))) (loopM (fun (s381:Int)=>(bif (decide (s381 < (x344.gParams.length:Int))) then ((idx x344.gParams s381).bind fun x401=>((Kdp x401.gPtr).bind fun x403=>((idx a2 s381).bind fun x404=>(bif (x403 != x404) then ((idx a1.gExps s381).bind fun x406=>((Kbp x406.gAt (9:Int)).bind fun x407=>Sum.elim (fun pe407=>some (.done (.inr (.inl pe407)))) (fun z407=>some (.next (IntKind.i64.wrap (s381+(1:Int))))) x407)) else some (.next (IntKind.i64.wrap (s381+(1:Int)))))))) else some (.done (.inl ())))) (0:Int)) (Sum.elim (fun y380=>(bif (!decide (a1.gName=(ByteArray.mk #[]))) then ((Kbb a0 a1.gName a1.gAt qZ23).bind fun x410=>Sum.elim (fun pe410=>some (.done (.inr (.inl pe410)))) (fun z410=>some (.done (.inr (.inr ())))) x410) else some (.done (.inr (.inr ()))))) (fun r=>some (.done (.inr r)))))) (fun r=>some (.done (.inr r))))))) else some (.done (.inl ())))) (0:Int)) (Sum.elim (fun y207=>((Kbp a1.gAt (7:Int)).bind fun x414=>Sum.elim (fun pe414=>some (.inl pe414)) (fun z414=>some (.inr ())) x414)) (fun r=>some r)))
theorem Kg3 (a0:KE)(a1:Km)(a2:List Int)(r:(Int×Int)⊕(Unit))(h0:KdX a0 a1 a2=some r):KbB zc Tryz.prog 102 [K5 a0,Ki a1,.lst 1 (a2.map eI64) .no] [] [] r (fun r d h k=>d=.tup []∧h=[]∧k=[]):=by
 have hm:=KA h0;unfold KdX at hm;clear h0;refine KfX htab Tryz.func102 rfl rfl rfl rfl rfl (fun C=>?_);refine w_eq (i:=1) rfl (Wk.of_eq (KK a1)) ?_;refine Kg ?_;refine p_box rfl rfl rfl rfl rfl rfl rfl (fun b1=>?_);refine p_box rfl rfl rfl rfl rfl rfl rfl (fun b2=>?_);refine Ke ?_;refine Kk ?_;refine Kg ?_;refine pu ?_;refine pu ?_;refine pL 0 ?_;refine Kar htab rfl rfl rfl rfl rfl rfl rfl (by first|exact KQ|rfl) ?_;refine pu ?_;refine Ke ?_;obtain ⟨x207,q207,ho207⟩:=Kb hm
 refine Kat (τ:=Unit) (Y:=Unit) (fun y207 z207=>(⟨[(4,.ptr b2 0)],[(b2,Blk.cells [iD a1.gOp,tD a1.gName,tD a1.gFunc,.lst 5 (a1.gExps.map Kj) .no,.lst 7 (a1.gKids.map Ki) .no,.lst 7 (a1.gElse.map Ki) .no,iD a1.gAt] 64)],[]⟩:S)) x207 ?_ ?_
 ·clear hm;have hm:=KA q207;refine KC ?_;obtain ⟨u208,hl208,hq208⟩:=yes_m hm
  refine KaA (Y:=Unit) hl208 (fun s208 z208=>(⟨[(2,.lst 1 (a2.map eI64) .no),(3,.ptr b1 0),(4,.ptr b2 0),(12,.lst 5 (a0.gP.gFuncs.map Ks) .no),(13,iD (a0.gP.gFuncs.length:Int)),(14,iD s208)],[(b1,Blk.cells [.lst 4 (a0.gP.gGlobals.map Kp) .no,.lst 5 (a0.gP.gFuncs.map Ks) .no,tD a0.gF.gName,.lst 2 (a0.gF.gParams.map Ko) .no,.lst 2 (a0.gF.gLocals.map Ko) .no,.lst 7 (a0.gF.gBody.map Ki) .no,iD a0.gF.gAt] 137),(b2,Blk.cells [iD a1.gOp,tD a1.gName,tD a1.gFunc,.lst 5 (a1.gExps.map Kj) .no,.lst 7 (a1.gKids.map Ki) .no,.lst 7 (a1.gElse.map Ki) .no,iD a1.gAt] 64)],[]⟩:S)) ?_ ?_
  ·skip
   exact wO (wP (wC (wC (wC (wC (wC (wC wN)))))))
  intro G208 s208 z208 hm;refine Kg ?_;refine pu ?_;refine Ke ?_;refine Kk ?_;refine cY hm (fun hm=>?_) fun hm=>?_
  ·refine Ku ?_;refine Kd ?_;refine Kk ?_;refine KC ?_;refine Kg ?_;obtain ⟨x344,q344,hm⟩:=Kb hm;refine KaR htab rfl rfl rfl rfl rfl rfl rfl rfl rfl rfl (KD q344) (KL q344) ?_;refine KaC (d:=Ks x344) htab rfl rfl rfl rfl rfl rfl rfl rfl ?_;refine Kag htab rfl rfl rfl rfl rfl rfl rfl (fun b345=>?_);refine pS2 (ds':=[tD x344.gName,.lst 2 (x344.gParams.map Ko) .no,.lst 2 (x344.gLocals.map Ko) .no,.lst 7 (x344.gBody.map Ki) .no,iD x344.gAt]) ?_;refine Ke ?_;refine Kk ?_;refine Kg ?_;refine pu ?_;refine pL 2 ?_;refine pu ?_;refine pL 1 ?_;refine pu ?_;refine Ke ?_
   refine cY hm (fun hm=>?_) fun hm=>?_
   ·refine Kaf ?_;refine KG ?_;refine KZ ?_;refine Kd ?_;refine Kx ?_;refine pu ?_;refine pu ?_;refine Kz ?_;refine Kd ⟨_,Kas hm,?_⟩;exact wO (wP (wC (wC (wC (wC (wC (wC wN)))))))
   refine Ku ?_;refine Kd ?_;refine Kk ?_;refine Kg ?_;refine pu ?_;refine pL 2 ?_;refine Kar htab rfl rfl rfl rfl rfl rfl rfl (by first|exact KQ|rfl) ?_;refine pu ?_;refine Kar htab rfl rfl rfl rfl rfl rfl rfl (by first|exact KQ|rfl) ?_;refine pu ?_;refine Ke ?_;obtain ⟨x349,q349,ho349⟩:=Kb hm
   refine Kat (τ:=Unit) (Y:=Unit) (fun y349 z349=>(⟨[(2,.lst 1 (a2.map eI64) .no),(3,.ptr b1 0),(4,.ptr b2 0),(7,.ptr b345 0)],[(b1,Blk.cells [.lst 4 (a0.gP.gGlobals.map Kp) .no,.lst 5 (a0.gP.gFuncs.map Ks) .no,tD a0.gF.gName,.lst 2 (a0.gF.gParams.map Ko) .no,.lst 2 (a0.gF.gLocals.map Ko) .no,.lst 7 (a0.gF.gBody.map Ki) .no,iD a0.gF.gAt] 137),(b2,Blk.cells [iD a1.gOp,tD a1.gName,tD a1.gFunc,.lst 5 (a1.gExps.map Kj) .no,.lst 7 (a1.gKids.map Ki) .no,.lst 7 (a1.gElse.map Ki) .no,iD a1.gAt] 64),(b345,Blk.cells [tD x344.gName,.lst 2 (x344.gParams.map Ko) .no,.lst 2 (x344.gLocals.map Ko) .no,.lst 7 (x344.gBody.map Ki) .no,iD x344.gAt] 52)],[]⟩:S)) x349 ?_ ?_
   ·clear hm;have hm:=KA q349;refine cY hm (fun hm=>?_) fun hm=>?_
    ·refine Kx ?_;refine pu ?_;refine pL 1 ?_;obtain ⟨x351,q351,hm⟩:=Kb hm;rcases x351 with pe351|z351
     ·simp only [Sum.elim_inl] at hm;refine KaV (Ka4 a1.gAt (2:Int) (.inl pe351) q351) rfl rfl rfl Wl Pf Pf ?_;have e349:=Kh hm;subst e349;refine Kap ?_;clear hm;have hm:=ho349;simp only [Sum.elim_inr] at hm
      refine K3 ?_;refine Kay ?_;refine K3 ?_;have e208:=KN hm;subst e208;clear hm;have hm:=hq208
      refine K3 ?_;refine Kay ?_;have e207:=Kh hm;subst e207;refine Kap ?_;clear hm;have hm:=ho207;simp only [Sum.elim_inr] at hm
      refine K3 ?_;have er352:=Kh hm;subst er352;exact KaB
     simp only [Sum.elim_inr] at hm;refine K1 (Ka4 a1.gAt (2:Int) (.inr z351) q351) rfl rfl rfl rfl rfl Wl ?_;rintro _ rfl;refine Kz ?_;have e349:=Kh hm;subst e349;refine Kaj ?_;exact wO (wP (wC (wC (wC (wC wN)))))
    refine Ku ?_;have e349:=Kh hm;subst e349;refine Kaj ?_;exact wO (wP (wC (wC (wC (wC wN)))))
   intro y349 s349 hx349 hw349;subst hx349;clear hm;have hm:=ho349;simp only [Sum.elim_inl] at hm;clear q349 ho349;refine Kd ?_;refine KO hw349 (fun z349=>?_);refine Kk ?_;refine Kg ?_;refine pu ?_;refine pL 2 ?_;refine Kar htab rfl rfl rfl rfl rfl rfl rfl (by first|exact KQ|rfl) ?_;refine pu ?_;refine Ke ?_;obtain ⟨x380,q380,ho380⟩:=Kb hm
   refine Kat (τ:=Unit) (Y:=Unit) (fun y380 z380=>(⟨[(3,.ptr b1 0),(4,.ptr b2 0)],[(b1,Blk.cells [.lst 4 (a0.gP.gGlobals.map Kp) .no,.lst 5 (a0.gP.gFuncs.map Ks) .no,tD a0.gF.gName,.lst 2 (a0.gF.gParams.map Ko) .no,.lst 2 (a0.gF.gLocals.map Ko) .no,.lst 7 (a0.gF.gBody.map Ki) .no,iD a0.gF.gAt] 137),(b2,Blk.cells [iD a1.gOp,tD a1.gName,tD a1.gFunc,.lst 5 (a1.gExps.map Kj) .no,.lst 7 (a1.gKids.map Ki) .no,.lst 7 (a1.gElse.map Ki) .no,iD a1.gAt] 64)],[]⟩:S)) x380 ?_ ?_
   ·clear hm;have hm:=KA q380;refine KC ?_;obtain ⟨u381,hl381,hq381⟩:=yes_m hm
    refine KaA (Y:=Unit) hl381 (fun s381 z381=>(⟨[(2,.lst 1 (a2.map eI64) .no),(3,.ptr b1 0),(4,.ptr b2 0),(33,.lst 2 (x344.gParams.map Ko) .no),(34,iD (x344.gParams.length:Int)),(35,iD s381)],[(b1,Blk.cells [.lst 4 (a0.gP.gGlobals.map Kp) .no,.lst 5 (a0.gP.gFuncs.map Ks) .no,tD a0.gF.gName,.lst 2 (a0.gF.gParams.map Ko) .no,.lst 2 (a0.gF.gLocals.map Ko) .no,.lst 7 (a0.gF.gBody.map Ki) .no,iD a0.gF.gAt] 137),(b2,Blk.cells [iD a1.gOp,tD a1.gName,tD a1.gFunc,.lst 5 (a1.gExps.map Kj) .no,.lst 7 (a1.gKids.map Ki) .no,.lst 7 (a1.gElse.map Ki) .no,iD a1.gAt] 64)],[]⟩:S)) ?_ ?_
    ·skip
     exact wO (wP (wC (wC (wC (wC (wC (wC wN)))))))
    intro G381 s381 z381 hm;refine Kg ?_;refine pu ?_;refine Ke ?_;refine Kk ?_;refine cY hm (fun hm=>?_) fun hm=>?_
    ·refine Ku ?_;refine Kd ?_;refine Kk ?_;refine KC ?_;refine Kg ?_;refine pu ?_;obtain ⟨x401,q401,hm⟩:=Kb hm;refine KaR htab rfl rfl rfl rfl rfl rfl rfl rfl rfl rfl (KD q401) (KL q401) ?_;refine KaC (d:=Ko x401) htab rfl rfl rfl rfl rfl rfl rfl rfl ?_;refine Kag htab rfl rfl rfl rfl rfl rfl rfl (fun b402=>?_);refine pu ?_;refine pS2 (ds':=[tD x401.gName,.v (.bool x401.gPtr)]) ?_;refine Ke ?_;refine Kk ?_;obtain ⟨x403,q403,hm⟩:=Kb hm;obtain ⟨x404,q404,hm⟩:=Kb hm
     refine Kak 7 [] [[],[0],[0],[],[],[3],[3,5]] [0,2,3,5] [[],[0],[0,1],[],[],[3,4],[3,4,5],[0,1,2,3,4,5,6]] (by kernel_rfl) (by kernel_rfl) (by kernel_rfl) (by rfl) (by rfl) (by kernel_rfl) ?_;iterate 4 apply Exists.intro
     intro bs;refine zep ?_;refine z_qM rfl rfl (KJ 2 htab rfl rfl rfl rfl rfl) rfl rfl rfl rfl rfl rfl ?_;refine Kb3 rfl rfl (KgM x401.gPtr x403 q403) rfl rfl Wl rfl rfl rfl rfl rfl rfl ?_;refine zep ?_;refine zqp ?_;refine z_e rfl rfl (Kav htab rfl rfl rfl rfl rfl rfl rfl (KD q404) (KL q404)) rfl rfl rfl rfl rfl rfl ?_;refine z_qM rfl rfl (K7 htab rfl rfl rfl rfl rfl) rfl rfl rfl rfl rfl rfl ?_;refine z_nil rfl rfl (fun e he=>by simp [isAl] at he) ?_;refine pu ?_;refine Ke ?_;refine cY hm (fun hm=>?_) fun hm=>?_
     ·refine Kx ?_;refine pu ?_;refine pL 1 ?_;refine pu ?_;obtain ⟨x406,q406,hm⟩:=Kb hm;refine KaR htab rfl rfl rfl rfl rfl rfl rfl rfl rfl rfl (KD q406) (KL q406) ?_;refine p_eq (i:=51) rfl (Wk.of_eq (congrArg D.el (Kv x406))) ?_;refine pu ?_;refine KaC htab rfl rfl rfl rfl rfl rfl rfl rfl ?_;obtain ⟨x407,q407,hm⟩:=Kb hm;rcases x407 with pe407|z407
      ·simp only [Sum.elim_inl] at hm;refine KaV (Ka4 x406.gAt (9:Int) (.inl pe407) q407) rfl rfl rfl Wl Pf Pf ?_;refine Kay ?_;refine K3 ?_;have e381:=KN hm;subst e381;clear hm;have hm:=hq381
       refine K3 ?_;refine Kay ?_;have e380:=Kh hm;subst e380;refine Kap ?_;clear hm;have hm:=ho380;simp only [Sum.elim_inr] at hm
       refine K3 ?_;refine Kay ?_;refine K3 ?_;have e208:=KN hm;subst e208;clear hm;have hm:=hq208
       refine K3 ?_;refine Kay ?_;have e207:=Kh hm;subst e207;refine Kap ?_;clear hm;have hm:=ho207;simp only [Sum.elim_inr] at hm
       refine K3 ?_;have er408:=Kh hm;subst er408;exact KaB
      simp only [Sum.elim_inr] at hm;refine K1 (Ka4 x406.gAt (9:Int) (.inr z407) q407) rfl rfl rfl rfl rfl Wl ?_;rintro _ rfl;refine Kz ?_;refine KI ?_;refine Kd ?_;refine Kx ?_;refine pu ?_;refine pu ?_;refine Kz ?_;refine Kd ⟨_,Kas hm,?_⟩;exact wO (wP (wC (wC (wC (wC (wC (wC wN)))))))
     refine Ku ?_;refine KI ?_;refine Kd ?_;refine Kx ?_;refine pu ?_;refine pu ?_;refine Kz ?_;refine Kd ⟨_,Kas hm,?_⟩;exact wO (wP (wC (wC (wC (wC (wC (wC wN)))))))
    refine Kaf ?_;refine KG ?_;have e381:=KN hm;subst e381;clear hm;have hm:=hq381
    refine KG ?_;refine KZ ?_;have e380:=Kh hm;subst e380;refine Kaj ?_;exact wO (wP (wC (wC wN)))
   intro y380 s380 hx380 hw380;subst hx380;clear hm;have hm:=ho380;simp only [Sum.elim_inl] at hm;clear q380 ho380;refine Kd ?_;refine KO hw380 (fun z380=>?_);refine Kk ?_;refine Kg ?_;refine pu ?_;refine pL 1 ?_;refine pu ?_;refine Ke ?_;refine cY hm (fun hm=>?_) fun hm=>?_
   ·refine Kx ?_;refine KX (d:=K5 a0) 0 htab rfl rfl rfl rfl rfl rfl rfl rfl ?_;refine pu ?_;refine pL 1 ?_;refine pu ?_;refine pL 1 ?_;refine p_lit htab rfl rfl rfl rfl rfl rfl rfl rfl rfl rfl rfl rfl rfl rfl ?_;refine p_eq (i:=64) (d':=.lst 1 (qZ23.map eI64) .full) rfl (Wk.lst0 (.cons (WkC.refl _) (.nil))) ?_;obtain ⟨x410,q410,hm⟩:=Kb hm;rcases x410 with pe410|z410
    ·simp only [Sum.elim_inl] at hm;refine KaV (KaE a0 a1.gName a1.gAt qZ23 (.inl pe410) q410) rfl rfl rfl (WkL.cons (Wk.refl _) (WkL.cons (Wk.refl _) (WkL.cons (Wk.refl _) (WkL.cons (Wk.no) Wl)))) Pf Pf ?_;refine K3 ?_;refine Kay ?_;refine K3 ?_;have e208:=KN hm;subst e208;clear hm;have hm:=hq208
     refine K3 ?_;refine Kay ?_;have e207:=Kh hm;subst e207;refine Kap ?_;clear hm;have hm:=ho207;simp only [Sum.elim_inr] at hm
     refine K3 ?_;have er411:=Kh hm;subst er411;exact KaB
    simp only [Sum.elim_inr] at hm;refine K1 (KaE a0 a1.gName a1.gAt qZ23 (.inr z410) q410) rfl rfl rfl rfl rfl (WkL.cons (Wk.refl _) (WkL.cons (Wk.refl _) (WkL.cons (Wk.refl _) (WkL.cons (Wk.no) Wl)))) ?_;rintro _ rfl;refine Ke ?_;refine Kr ?_;refine KF ?_;refine Kt ?_;have e208:=KN hm;subst e208;clear hm;have hm:=hq208
    refine Kt ?_;refine KF ?_;have e207:=Kh hm;subst e207;refine Kaw ?_;clear hm;have hm:=ho207;simp only [Sum.elim_inr] at hm
    refine Kt ?_;have er412:=Kh hm;subst er412;refine Kca ?_;refine rP (t':=[]) [] [] 0 wN lN ?_;exact ⟨rfl,rfl,rfl⟩
   refine Ku ?_;refine Kd ?_;refine Kr ?_;refine KF ?_;refine Kt ?_;have e208:=KN hm;subst e208;clear hm;have hm:=hq208
   refine Kt ?_;refine KF ?_;have e207:=Kh hm;subst e207;refine Kaw ?_;clear hm;have hm:=ho207;simp only [Sum.elim_inr] at hm
   refine Kt ?_;have er413:=Kh hm;subst er413;refine Kca ?_;refine rP (t':=[]) [] [] 0 wN lN ?_;exact ⟨rfl,rfl,rfl⟩
  refine Kaf ?_;refine KG ?_;have e208:=KN hm;subst e208;clear hm;have hm:=hq208
  refine KG ?_;refine KZ ?_;have e207:=Kh hm;subst e207;refine Kaj ?_;exact wO (WkS.perm (wC wN) ((Kaq (j:=1) rfl).trans (List.Perm.cons _ Pf)) Pf)
 intro y207 s207 hx207 hw207;subst hx207;clear hm;have hm:=ho207;simp only [Sum.elim_inl] at hm;clear q207 ho207;refine Kd ?_;refine KO hw207 (fun z207=>?_);refine Kx ?_;refine pu ?_;refine pL 0 ?_;obtain ⟨x414,q414,hm⟩:=Kb hm;rcases x414 with pe414|z414
 ·simp only [Sum.elim_inl] at hm;refine KaV (Ka4 a1.gAt (7:Int) (.inl pe414) q414) rfl rfl rfl Wl Pf Pf ?_;have er415:=Kh hm;subst er415;exact KaB
 simp only [Sum.elim_inr] at hm;refine K1 (Ka4 a1.gAt (7:Int) (.inr z414) q414) rfl rfl rfl rfl rfl Wl ?_;rintro _ rfl;refine Kz ?_;have er416:=Kh hm;subst er416;refine Kca ?_;refine rP (t':=[]) [] [] 0 wN lN ?_;exact ⟨rfl,rfl,rfl⟩
end
section
open Go
set_option linter.all false
def Ka7 (g0:(KE)→(List Km)→Option ((Int×Int)⊕(Unit)))(g1:(KE)→(Km)→Option ((Int×Int)⊕(Unit)))(a0:KE)(a1:List Km):Option ((Int×Int)⊕(Unit)):=
 (Option.bind (α:=(Unit)⊕((Int×Int)⊕(Unit))) (loopM (fun (s19:Int)=>(bif (decide (s19 < (a1.length:Int))) then ((idx a1 s19).bind fun x31=>((g1 a0 x31).bind fun x33=>Sum.elim (fun pe33=>some (.done (.inr (.inl pe33)))) (fun z33=>some (.next (IntKind.i64.wrap (s19+(1:Int))))) x33)) else some (.done (.inl ())))) (0:Int)) (Sum.elim (fun y18=>some (.inr ())) (fun r=>some r)))
theorem Kjb (g0:(KE)→(List Km)→Option ((Int×Int)⊕(Unit)))(g1:(KE)→(Km)→Option ((Int×Int)⊕(Unit)))(hg0:∀ (a0:KE) (a1:List Km) (r:(Int×Int)⊕(Unit)) (h0:g0 a0 a1=some r),KbB zc Tryz.prog 74 [K5 a0,.lst 7 (a1.map Ki) .no] [] [] r (fun r d h k=>d=.tup []∧h=[]∧k=[]))(hg1:∀ (a0:KE) (a1:Km) (r:(Int×Int)⊕(Unit)) (h0:g1 a0 a1=some r),KbB zc Tryz.prog 88 [K5 a0,Ki a1] [] [] r (fun r d h k=>d=.tup []∧h=[]∧k=[]))(a0:KE)(a1:List Km)(r:(Int×Int)⊕(Unit))(h0:Ka7 g0 g1 a0 a1=some r):KbB zc Tryz.prog 74 [K5 a0,.lst 7 (a1.map Ki) .no] [] [] r (fun r d h k=>d=.tup []∧h=[]∧k=[]):=by
 have hm:=KA h0;unfold Ka7 at hm;clear h0;refine KfX htab Tryz.func74 rfl rfl rfl rfl rfl (fun C=>?_);refine Kg ?_;refine p_box rfl rfl rfl rfl rfl rfl rfl (fun b1=>?_);refine KH ?_;refine pu ?_;refine Kar htab rfl rfl rfl rfl rfl rfl rfl (by first|exact KQ|rfl) ?_;refine pu ?_;refine Ke ?_;obtain ⟨x18,q18,ho18⟩:=Kb hm;refine Kat (τ:=Unit) (Y:=Unit) (fun y18 z18=>(⟨[],[],[]⟩:S)) x18 ?_ ?_
 ·clear hm;have hm:=KA q18;refine KC ?_;obtain ⟨u19,hl19,hq19⟩:=yes_m hm;refine KaA (Y:=Unit) hl19 (fun s19 z19=>(⟨[(2,.ptr b1 0),(6,.lst 7 (a1.map Ki) .no),(7,iD (a1.length:Int)),(8,iD s19)],[(b1,Blk.cells [.lst 4 (a0.gP.gGlobals.map Kp) .no,.lst 5 (a0.gP.gFuncs.map Ks) .no,tD a0.gF.gName,.lst 2 (a0.gF.gParams.map Ko) .no,.lst 2 (a0.gF.gLocals.map Ko) .no,.lst 7 (a0.gF.gBody.map Ki) .no,iD a0.gF.gAt] 137)],[]⟩:S)) ?_ ?_
  ·skip
   exact wO (wP (wC (wC (wC (wC wN)))))
  intro G19 s19 z19 hm;refine Kg ?_;refine pu ?_;refine Ke ?_;refine Kk ?_;refine cY hm (fun hm=>?_) fun hm=>?_
  ·refine Ku ?_;refine Kd ?_;refine Kk ?_;refine KC ?_;refine Kg ?_;obtain ⟨x31,q31,hm⟩:=Kb hm;refine KaR htab rfl rfl rfl rfl rfl rfl rfl rfl rfl rfl (KD q31) (KL q31) ?_;refine p_eq (i:=10) rfl (Wk.of_eq (congrArg D.el (KK x31))) ?_;refine KaC (d:=.agg [iD x31.gOp,tD x31.gName,tD x31.gFunc,.lst 5 (x31.gExps.map Kj) .no,.lst 7 (x31.gKids.map Ki) .no,.lst 7 (x31.gElse.map Ki) .no,iD x31.gAt]) htab rfl rfl rfl rfl rfl rfl rfl rfl ?_;refine Kag htab rfl rfl rfl rfl rfl rfl rfl (fun b32=>?_)
   refine pS1 (ds':=[iD x31.gOp,tD x31.gName,tD x31.gFunc,.lst 5 (x31.gExps.map Kj) .no,.lst 7 (x31.gKids.map Ki) .no,.lst 7 (x31.gElse.map Ki) .no,iD x31.gAt]) ?_;refine Ke ?_;refine Kx ?_;refine KX (d:=K5 a0) 0 htab rfl rfl rfl rfl rfl rfl rfl rfl ?_;refine KX (d:=.agg [iD x31.gOp,tD x31.gName,tD x31.gFunc,.lst 5 (x31.gExps.map Kj) .no,.lst 7 (x31.gKids.map Ki) .no,.lst 7 (x31.gElse.map Ki) .no,iD x31.gAt]) 1 htab rfl rfl rfl rfl rfl rfl rfl rfl ?_;obtain ⟨x33,q33,hm⟩:=Kb hm;rcases x33 with pe33|z33
   ·simp only [Sum.elim_inl] at hm;refine KaV (hg1 a0 x31 (.inl pe33) q33) rfl rfl rfl (WkL.cons (Wk.refl _) (WkL.cons (Wk.trans (Wk.agg (WkR.refl _)) (Wk.of_eq (KK x31).symm)) Wl)) Pf Pf ?_;refine Kay ?_;refine K3 ?_;have e19:=KN hm;subst e19;clear hm;have hm:=hq19
    refine K3 ?_;refine Kay ?_;have e18:=Kh hm;subst e18;refine Kap ?_;clear hm;have hm:=ho18;simp only [Sum.elim_inr] at hm
    have er34:=Kh hm;subst er34;exact KaB
   simp only [Sum.elim_inr] at hm;refine K1 (hg1 a0 x31 (.inr z33) q33) rfl rfl rfl rfl rfl (WkL.cons (Wk.refl _) (WkL.cons (Wk.trans (Wk.agg (WkR.refl _)) (Wk.of_eq (KK x31).symm)) Wl)) ?_;rintro _ rfl;refine Kz ?_;refine KI ?_;refine Kd ?_;refine Kx ?_;refine pu ?_;refine pu ?_;refine Kz ?_;refine Kd ⟨_,Kas hm,?_⟩;exact wO (wP (wC (wC (wC (wC wN)))))
  refine Kaf ?_;refine KG ?_;have e19:=KN hm;subst e19;clear hm;have hm:=hq19
  refine KG ?_;refine KZ ?_;have e18:=Kh hm;subst e18;refine Kaj ?_;exact wO (wP wN)
 intro y18 s18 hx18 hw18;subst hx18;clear hm;have hm:=ho18;simp only [Sum.elim_inl] at hm;clear q18 ho18;have er35:=Kh hm;subst er35;refine Kca ?_;refine retX.wkX hw18 (fun z18=>?_);refine rP (t':=[]) [] [] 0 wN lN ?_;exact ⟨rfl,rfl,rfl⟩
def Kbl (g0:(KE)→(List Km)→Option ((Int×Int)⊕(Unit)))(g1:(KE)→(Km)→Option ((Int×Int)⊕(Unit)))(a0:KE)(a1:Km):Option ((Int×Int)⊕(Unit)):=
 ((KeP a1).bind fun x3=>(Option.bind (α:=Bool) (bif (decide (x3 < (0:Int))) then some true else some ((a1.gExps.length:Int) != x3)) fun y5=>(Option.bind (α:=(Unit)⊕((Int×Int)⊕(Unit))) (bif y5 then ((Kbp a1.gAt (2:Int)).bind fun x11=>Sum.elim (fun pe11=>some (.inr (.inl pe11))) (fun z11=>some (.inl ())) x11) else some (.inl ())) (Sum.elim (fun y9=>((KdW a0 a1.gExps).bind fun x14=>Sum.elim (fun pe14=>some (.inl pe14)) (fun z14=>(Option.bind (α:=(Unit)⊕((Int×Int)⊕(Unit))) (Option.bind (α:=(Unit)⊕((Int×Int)⊕(Unit))) (bif (a1.gOp==(1:Int)) then ((idx z14 (0:Int)).bind fun x69=>((Kbb a0 a1.gName a1.gAt qZ16).bind fun x70=>Sum.elim (fun pe70=>some (.inr (.inl pe70))) (fun z70=>(Option.bind (α:=(Unit)⊕((Int×Int)⊕(Unit))) (bif (z70 != x69) then ((Kbp a1.gAt (9:Int)).bind fun x76=>Sum.elim (fun pe76=>some (.inr (.inl pe76))) (fun z76=>some (.inl ())) x76) else some (.inl ())) (Sum.elim (fun y74=>some (.inl ())) (fun r=>some (.inr r))))) x70)) else (Option.bind (α:=(Unit)⊕((Int×Int)⊕(Unit))) (bif (a1.gOp==(2:Int)) then ((idx a1.gExps (0:Int)).bind fun x100=>((idx z14 (0:Int)).bind fun x101=>((Kb4 x100 x101).bind fun x102=>Sum.elim (fun pe102=>some (.inr (.inl pe102))) (fun z102=>((idx a1.gExps (1:Int)).bind fun x104=>((idx z14 (1:Int)).bind fun x105=>((Kb4 x104 x105).bind fun x106=>Sum.elim (fun pe106=>some (.inr (.inl pe106))) (fun z106=>((Kbb a0 a1.gName a1.gAt qZ21).bind fun x108=>Sum.elim (fun pe108=>some (.inr (.inl pe108))) (fun z108=>some (.inl ())) x108)) x106)))) x102))) else (Option.bind (α:=(Unit)⊕((Int×Int)⊕(Unit))) (bif (a1.gOp==(3:Int)) then ((idx a1.gExps (0:Int)).bind fun x124=>((idx z14 (0:Int)).bind fun x125=>((Kb4 x124 x125).bind fun x126=>Sum.elim (fun pe126=>some (.inr (.inl pe126))) (fun z126=>((Kbb a0 a1.gName a1.gAt qZ22).bind fun x128=>Sum.elim (fun pe128=>some (.inr (.inl pe128))) (fun z128=>some (.inl ())) x128)) x126))) else (Option.bind (α:=(Unit)⊕((Int×Int)⊕(Unit))) (bif (a1.gOp==(4:Int)) then ((KdX a0 a1 z14).bind fun x139=>Sum.elim (fun pe139=>some (.inr (.inl pe139))) (fun z139=>some (.inl ())) x139) else (Option.bind (α:=(Unit)⊕((Int×Int)⊕(Unit))) (bif (a1.gOp==(5:Int)) then ((Kbb a0 a1.gName a1.gAt qZ23).bind fun x148=>Sum.elim (fun pe148=>some (.inr (.inl pe148))) (fun z148=>some (.inl ())) x148) else ((idx a1.gExps (0:Int)).bind fun x150=>((idx z14 (0:Int)).bind fun x151=>((Kb4 x150 x151).bind fun x152=>Sum.elim (fun pe152=>some (.inr (.inl pe152))) (fun z152=>some (.inl ())) x152)))) (Sum.elim (fun y146=>some (.inl ())) (fun r=>some (.inr r))))) (Sum.elim (fun y137=>some (.inl ())) (fun r=>some (.inr r))))) (Sum.elim (fun y122=>some (.inl ())) (fun r=>some (.inr r))))) (Sum.elim (fun y98=>some (.inl ())) (fun r=>some (.inr r))))) (Sum.elim (fun y67=>some (.inl ())) (fun r=>some (.inr r)))) (Sum.elim (fun y41=>((g0 a0 a1.gKids).bind fun x154=>Sum.elim (fun pe154=>some (.inl pe154)) (fun z154=>((g0 a0 a1.gElse).bind fun x156=>Sum.elim (fun pe156=>some (.inl pe156)) (fun z156=>some (.inr ())) x156)) x154)) (fun r=>some r)))) x14)) (fun r=>some r)))))
theorem KjD (g0:(KE)→(List Km)→Option ((Int×Int)⊕(Unit)))(g1:(KE)→(Km)→Option ((Int×Int)⊕(Unit)))(hg0:∀ (a0:KE) (a1:List Km) (r:(Int×Int)⊕(Unit)) (h0:g0 a0 a1=some r),KbB zc Tryz.prog 74 [K5 a0,.lst 7 (a1.map Ki) .no] [] [] r (fun r d h k=>d=.tup []∧h=[]∧k=[]))(hg1:∀ (a0:KE) (a1:Km) (r:(Int×Int)⊕(Unit)) (h0:g1 a0 a1=some r),KbB zc Tryz.prog 88 [K5 a0,Ki a1] [] [] r (fun r d h k=>d=.tup []∧h=[]∧k=[]))(a0:KE)(a1:Km)(r:(Int×Int)⊕(Unit))(h0:Kbl g0 g1 a0 a1=some r):KbB zc Tryz.prog 88 [K5 a0,Ki a1] [] [] r (fun r d h k=>d=.tup []∧h=[]∧k=[]):=by
 have hm:=KA h0;unfold Kbl at hm;clear h0;refine KfX htab Tryz.func88 rfl rfl rfl rfl rfl (fun C=>?_);refine w_eq (i:=1) rfl (Wk.of_eq (KK a1)) ?_;refine Kg ?_;refine p_box rfl rfl rfl rfl rfl rfl rfl (fun b1=>?_);refine p_box rfl rfl rfl rfl rfl rfl rfl (fun b2=>?_);refine Ke ?_;refine Kk ?_;refine Kg ?_;refine KX (d:=.agg [iD a1.gOp,tD a1.gName,tD a1.gFunc,.lst 5 (a1.gExps.map Kj) .no,.lst 7 (a1.gKids.map Ki) .no,.lst 7 (a1.gElse.map Ki) .no,iD a1.gAt]) 1 htab rfl rfl rfl rfl rfl rfl rfl rfl ?_;obtain ⟨x3,q3,hm⟩:=Kb hm
 refine K1 (Km6 a1 x3 q3) rfl rfl rfl rfl rfl (WkL.cons (Wk.trans (Wk.agg (WkR.refl _)) (Wk.of_eq (KK a1).symm)) Wl) ?_;rintro _ rfl;refine pu ?_;refine Ke ?_;refine Kk ?_;obtain ⟨y5,q5,ho5⟩:=Kb hm
 refine KY (Y:=Unit) (fun z5=>(⟨[(2,.ptr b1 0),(3,.ptr b2 0),(16,.v (.bool y5))],[(b1,Blk.cells [.lst 4 (a0.gP.gGlobals.map Kp) .no,.lst 5 (a0.gP.gFuncs.map Ks) .no,tD a0.gF.gName,.lst 2 (a0.gF.gParams.map Ko) .no,.lst 2 (a0.gF.gLocals.map Ko) .no,.lst 7 (a0.gF.gBody.map Ki) .no,iD a0.gF.gAt] 137),(b2,Blk.cells [iD a1.gOp,tD a1.gName,tD a1.gFunc,.lst 5 (a1.gExps.map Kj) .no,.lst 7 (a1.gKids.map Ki) .no,.lst 7 (a1.gElse.map Ki) .no,iD a1.gAt] 64)],[]⟩:S)) ?_ ?_
 ·clear hm;have hm:=KA q5;refine Kx ?_;iterate 3 refine pu ?_
  refine Kau (i:=10) rfl (fun hg6=>?_) (fun hg6=>?_)
  ·replace hm:=yes_t hg6 hm;iterate 5 refine pK ?_
   refine Kao rfl rfl rfl rfl rfl rfl ?_;refine Kz ?_;have e5:=Kh hm;subst e5;refine ⟨rfl,?_⟩;exact wO (wP (wC (wC (wC wN))))
  replace hm:=yes_f hg6 hm;refine pu ?_;refine pL 1 ?_;refine Kar htab rfl rfl rfl rfl rfl rfl rfl (by first|exact KQ|rfl) ?_;refine pu ?_;refine pu ?_;refine K8 rfl rfl rfl rfl rfl rfl ?_;refine Kz ?_;have e5:=Kh hm;subst e5;refine ⟨rfl,?_⟩;exact wO (wP (wC (wC (wC wN))))
 intro s5 hw5;clear hm;have hm:=ho5;clear q5 ho5;refine Kd ?_;refine KO hw5 (fun z5=>?_);obtain ⟨x9,q9,ho9⟩:=Kb hm;refine Kat (τ:=Unit) (Y:=Unit) (fun y9 z9=>(⟨[(2,.ptr b1 0),(3,.ptr b2 0)],[(b1,Blk.cells [.lst 4 (a0.gP.gGlobals.map Kp) .no,.lst 5 (a0.gP.gFuncs.map Ks) .no,tD a0.gF.gName,.lst 2 (a0.gF.gParams.map Ko) .no,.lst 2 (a0.gF.gLocals.map Ko) .no,.lst 7 (a0.gF.gBody.map Ki) .no,iD a0.gF.gAt] 137),(b2,Blk.cells [iD a1.gOp,tD a1.gName,tD a1.gFunc,.lst 5 (a1.gExps.map Kj) .no,.lst 7 (a1.gKids.map Ki) .no,.lst 7 (a1.gElse.map Ki) .no,iD a1.gAt] 64)],[]⟩:S)) x9 ?_ ?_
 ·clear hm;have hm:=KA q9;refine cY hm (fun hm=>?_) fun hm=>?_
  ·refine Kx ?_;refine pu ?_;refine pL 1 ?_;obtain ⟨x11,q11,hm⟩:=Kb hm;rcases x11 with pe11|z11
   ·simp only [Sum.elim_inl] at hm;refine KaV (Ka4 a1.gAt (2:Int) (.inl pe11) q11) rfl rfl rfl Wl Pf Pf ?_;have e9:=Kh hm;subst e9;refine Kap ?_;clear hm;have hm:=ho9;simp only [Sum.elim_inr] at hm
    refine K3 ?_;have er12:=Kh hm;subst er12;exact KaB
   simp only [Sum.elim_inr] at hm;refine K1 (Ka4 a1.gAt (2:Int) (.inr z11) q11) rfl rfl rfl rfl rfl Wl ?_;rintro _ rfl;refine Kz ?_;have e9:=Kh hm;subst e9;refine Kaj ?_;exact wO (wP (wC (wC wN)))
  refine Ku ?_;have e9:=Kh hm;subst e9;refine Kaj ?_;exact wO (wP (wC (wC wN)))
 intro y9 s9 hx9 hw9;subst hx9;clear hm;have hm:=ho9;simp only [Sum.elim_inl] at hm;clear q9 ho9;refine Kd ?_;refine KO hw9 (fun z9=>?_);refine Kg ?_;refine KX (d:=K5 a0) 0 htab rfl rfl rfl rfl rfl rfl rfl rfl ?_;refine pu ?_;refine pL 1 ?_;obtain ⟨x14,q14,hm⟩:=Kb hm;rcases x14 with pe14|z14
 ·simp only [Sum.elim_inl] at hm;refine KaV (Kg2 a0 a1.gExps (.inl pe14) q14) rfl rfl rfl Wl Pf Pf ?_;refine K3 ?_;have er15:=Kh hm;subst er15;exact KaB
 simp only [Sum.elim_inr] at hm;refine pG (Kg2 a0 a1.gExps (.inr z14) q14) Wl Pf Pf ?_;rintro _ _ _ ⟨w13,rfl,rfl,rfl⟩;refine pu ?_;refine Ke ?_;refine Kk ?_;refine Kg ?_;refine pu ?_;refine pL 1 ?_;refine Ke ?_;obtain ⟨x41,q41,ho41⟩:=Kb hm
 refine Kat (τ:=Unit) (Y:=Unit) (fun y41 z41=>(⟨[(2,.ptr b1 0),(3,.ptr b2 0)],[(b1,Blk.cells [.lst 4 (a0.gP.gGlobals.map Kp) .no,.lst 5 (a0.gP.gFuncs.map Ks) .no,tD a0.gF.gName,.lst 2 (a0.gF.gParams.map Ko) .no,.lst 2 (a0.gF.gLocals.map Ko) .no,.lst 7 (a0.gF.gBody.map Ki) .no,iD a0.gF.gAt] 137),(b2,Blk.cells [iD a1.gOp,tD a1.gName,tD a1.gFunc,.lst 5 (a1.gExps.map Kj) .no,.lst 7 (a1.gKids.map Ki) .no,.lst 7 (a1.gElse.map Ki) .no,iD a1.gAt] 64)],[]⟩:S)) x41 ?_ ?_
 ·clear hm;have hm:=KA q41;refine KC ?_;refine Kg ?_;refine pu ?_;refine pu ?_;refine Ke ?_;obtain ⟨x67,q67,ho67⟩:=Kb hm
  refine Kat (τ:=Unit) (Y:=Unit) (fun y67 z67=>(⟨[(2,.ptr b1 0),(3,.ptr b2 0)],[(b1,Blk.cells [.lst 4 (a0.gP.gGlobals.map Kp) .no,.lst 5 (a0.gP.gFuncs.map Ks) .no,tD a0.gF.gName,.lst 2 (a0.gF.gParams.map Ko) .no,.lst 2 (a0.gF.gLocals.map Ko) .no,.lst 7 (a0.gF.gBody.map Ki) .no,iD a0.gF.gAt] 137),(b2,Blk.cells [iD a1.gOp,tD a1.gName,tD a1.gFunc,.lst 5 (a1.gExps.map Kj) .no,.lst 7 (a1.gKids.map Ki) .no,.lst 7 (a1.gElse.map Ki) .no,iD a1.gAt] 64)],[]⟩:S)) x67 ?_ ?_
  ·clear hm;have hm:=KA q67;refine cY hm (fun hm=>?_) fun hm=>?_
   ·refine Kk ?_;obtain ⟨x69,q69,hm⟩:=Kb hm;obtain ⟨x70,q70,hm⟩:=Kb hm;rcases x70 with pe70|z70
    ·simp only [Sum.elim_inl] at hm;refine Az.wpD_heavyZ (Zc:=zc) (pe:=pe70) (X:=Unit) 10 [] [[],[],[1],[],[3],[],[0,1,2,3,4,5],[],[7],[7,8]] [0,1,2,3,4,5,6,7,8,9] [[],[],[1],[],[3],[],[0,1,2,3,4,5],[],[7],[7,8],[0,1,2,3,4,5,6,7,8,9]] ⟨6,fun _=>[],fun _=>[],fun _=>False⟩ () ?_ (by kernel_rfl) (by kernel_rfl) (by kernel_rfl) (by rfl) (by rfl) (by kernel_rfl) ?_
     ·skip
      refine K3 ?_;have e67:=Kh hm;subst e67;refine Kap ?_;clear hm;have hm:=ho67;simp only [Sum.elim_inr] at hm
      refine Kay ?_;have e41:=Kh hm;subst e41;refine Kap ?_;clear hm;have hm:=ho41;simp only [Sum.elim_inr] at hm
      refine K3 ?_;have er71:=Kh hm;subst er71;exact KaB
     iterate 10 apply Exists.intro
     intro bs;refine Az.zx_M rfl rfl (fun _=>KJ (d:=K5 a0) 0 htab rfl rfl rfl rfl rfl) (fun _ _ hf=>hf.elim) rfl rfl rfl rfl rfl rfl rfl rfl ?_;refine Az.zx_e rfl rfl (Kad htab rfl) rfl rfl rfl rfl rfl rfl rfl rfl ?_;refine Az.zx_M rfl rfl (fun _=>KJ 1 htab rfl rfl rfl rfl rfl) (fun _ _ hf=>hf.elim) rfl rfl rfl rfl rfl rfl rfl rfl ?_;refine Az.zx_e rfl rfl (Kad htab rfl) rfl rfl rfl rfl rfl rfl rfl rfl ?_;refine Az.zx_M rfl rfl (fun _=>KJ 1 htab rfl rfl rfl rfl rfl) (fun _ _ hf=>hf.elim) rfl rfl rfl rfl rfl rfl rfl rfl ?_
     refine Az.zx_E rfl rfl (ExE.wk (x_lit htab rfl rfl rfl rfl rfl rfl rfl rfl rfl rfl rfl) (show Wk _ (.lst 1 (qZ16.map eI64) .full) from Wk.lst0 (.cons (WkC.refl _) (.cons (WkC.refl _) (.nil))))) rfl rfl rfl rfl rfl rfl rfl rfl ?_;refine Az.zx_callE (d:=iD (0:Int)) rfl rfl rfl (KaE a0 a1.gName a1.gAt qZ16 (.inl pe70) q70) rfl rfl (WkL.cons (Wk.refl _) (WkL.cons (Wk.refl _) (WkL.cons (Wk.refl _) (WkL.cons (Wk.no) Wl)))) Pf Pf rfl rfl rfl rfl rfl rfl ?_;refine Az.zx_e rfl rfl (Kad htab rfl) rfl rfl rfl rfl rfl rfl rfl rfl ?_
     refine Az.zx_e rfl rfl (Kav htab rfl rfl rfl rfl rfl rfl rfl (KD q69) (KL q69)) rfl rfl rfl rfl rfl rfl rfl rfl ?_;refine Az.zx_M rfl rfl (fun _=>K7 htab rfl rfl rfl rfl rfl) (fun _ _ hf=>hf.elim) rfl rfl rfl rfl rfl rfl rfl rfl ?_;exact Az.zx_nil0 (fun _ h=>h) (by rfl)
    simp only [Sum.elim_inr] at hm;refine Kak 10 [] [[],[],[1],[],[3],[],[0,1,3,5],[],[7],[7,8]] [0,1,3,5,6,7,8] [[],[],[1],[],[3],[],[0,1,2,3,4,5],[],[7],[7,8],[0,1,2,3,4,5,6,7,8,9]] (by kernel_rfl) (by kernel_rfl) (by kernel_rfl) (by rfl) (by rfl) (by kernel_rfl) ?_;iterate 7 apply Exists.intro
    intro bs;refine z_eM rfl rfl (KJ (d:=K5 a0) 0 htab rfl rfl rfl rfl rfl) rfl rfl rfl rfl rfl rfl ?_;refine zep ?_;refine z_qM rfl rfl (KJ 1 htab rfl rfl rfl rfl rfl) rfl rfl rfl rfl rfl rfl ?_;refine zep ?_;refine z_qM rfl rfl (KJ 1 htab rfl rfl rfl rfl rfl) rfl rfl rfl rfl rfl rfl ?_;refine z_E rfl rfl (ExE.wk (x_lit htab rfl rfl rfl rfl rfl rfl rfl rfl rfl rfl rfl) (show Wk _ (.lst 1 (qZ16.map eI64) .full) from Wk.lst0 (.cons (WkC.refl _) (.cons (WkC.refl _) (.nil))))) rfl rfl rfl rfl rfl rfl ?_
    refine Kb3 rfl rfl (KaE a0 a1.gName a1.gAt qZ16 (.inr z70) q70) rfl rfl (WkL.cons (Wk.refl _) (WkL.cons (Wk.refl _) (WkL.cons (Wk.refl _) (WkL.cons (Wk.no) Wl)))) rfl rfl rfl rfl rfl rfl ?_;refine zep ?_;refine z_e rfl rfl (Kav htab rfl rfl rfl rfl rfl rfl rfl (KD q69) (KL q69)) rfl rfl rfl rfl rfl rfl ?_;refine z_qM rfl rfl (K7 htab rfl rfl rfl rfl rfl) rfl rfl rfl rfl rfl rfl ?_;refine z_nil rfl rfl (fun e he=>by simp [isAl] at he) ?_;refine pu ?_;refine Ke ?_;obtain ⟨x74,q74,ho74⟩:=Kb hm
    refine Kat (τ:=Unit) (Y:=Unit) (fun y74 z74=>(⟨[(2,.ptr b1 0),(3,.ptr b2 0)],[(b1,Blk.cells [.lst 4 (a0.gP.gGlobals.map Kp) .no,.lst 5 (a0.gP.gFuncs.map Ks) .no,tD a0.gF.gName,.lst 2 (a0.gF.gParams.map Ko) .no,.lst 2 (a0.gF.gLocals.map Ko) .no,.lst 7 (a0.gF.gBody.map Ki) .no,iD a0.gF.gAt] 137),(b2,Blk.cells [iD a1.gOp,tD a1.gName,tD a1.gFunc,.lst 5 (a1.gExps.map Kj) .no,.lst 7 (a1.gKids.map Ki) .no,.lst 7 (a1.gElse.map Ki) .no,iD a1.gAt] 64)],[]⟩:S)) x74 ?_ ?_
    ·clear hm;have hm:=KA q74;refine cY hm (fun hm=>?_) fun hm=>?_
     ·refine Kx ?_;refine pu ?_;refine pL 1 ?_;obtain ⟨x76,q76,hm⟩:=Kb hm;rcases x76 with pe76|z76
      ·simp only [Sum.elim_inl] at hm;refine KaV (Ka4 a1.gAt (9:Int) (.inl pe76) q76) rfl rfl rfl Wl Pf Pf ?_;have e74:=Kh hm;subst e74;refine Kap ?_;clear hm;have hm:=ho74;simp only [Sum.elim_inr] at hm
       have e67:=Kh hm;subst e67;refine Kap ?_;clear hm;have hm:=ho67;simp only [Sum.elim_inr] at hm
       refine Kay ?_;have e41:=Kh hm;subst e41;refine Kap ?_;clear hm;have hm:=ho41;simp only [Sum.elim_inr] at hm
       refine K3 ?_;have er77:=Kh hm;subst er77;exact KaB
      simp only [Sum.elim_inr] at hm;refine K1 (Ka4 a1.gAt (9:Int) (.inr z76) q76) rfl rfl rfl rfl rfl Wl ?_;rintro _ rfl;refine Kz ?_;have e74:=Kh hm;subst e74;refine Kaj ?_;exact wO (wP (wC (wC wN)))
     refine Ku ?_;have e74:=Kh hm;subst e74;refine Kaj ?_;exact wO (wP (wC (wC wN)))
    intro y74 s74 hx74 hw74;subst hx74;clear hm;have hm:=ho74;simp only [Sum.elim_inl] at hm;clear q74 ho74;have e67:=Kh hm;subst e67;refine Kaj ?_;refine WkX.trans hw74 (fun z74=>?_);exact wO (wP (wC (wC wN)))
   refine Kg ?_;refine pu ?_;refine pu ?_;refine Ke ?_;obtain ⟨x98,q98,ho98⟩:=Kb hm;refine Kat (τ:=Unit) (Y:=Unit) (fun y98 z98=>(⟨[(2,.ptr b1 0),(3,.ptr b2 0)],[(b1,Blk.cells [.lst 4 (a0.gP.gGlobals.map Kp) .no,.lst 5 (a0.gP.gFuncs.map Ks) .no,tD a0.gF.gName,.lst 2 (a0.gF.gParams.map Ko) .no,.lst 2 (a0.gF.gLocals.map Ko) .no,.lst 7 (a0.gF.gBody.map Ki) .no,iD a0.gF.gAt] 137),(b2,Blk.cells [iD a1.gOp,tD a1.gName,tD a1.gFunc,.lst 5 (a1.gExps.map Kj) .no,.lst 7 (a1.gKids.map Ki) .no,.lst 7 (a1.gElse.map Ki) .no,iD a1.gAt] 64)],[]⟩:S)) x98 ?_ ?_
   ·clear hm;have hm:=KA q98;refine cY hm (fun hm=>?_) fun hm=>?_
    ·refine Kk ?_;obtain ⟨x100,q100,hm⟩:=Kb hm;obtain ⟨x101,q101,hm⟩:=Kb hm;refine Kak 7 [] [[],[0],[0,1],[0,1,2],[],[4],[4,5]] [0,1,2,3,4,5] [[],[0],[0,1],[0,1,2],[],[4],[4,5],[0,1,2,3,4,5,6]] (by kernel_rfl) (by kernel_rfl) (by kernel_rfl) (by rfl) (by rfl) (by kernel_rfl) ?_;iterate 6 apply Exists.intro
     intro bs;refine zep ?_;refine z_eM rfl rfl (KJ 1 htab rfl rfl rfl rfl rfl) rfl rfl rfl rfl rfl rfl ?_;refine z_e rfl rfl (Ex.wk (Kav htab rfl rfl rfl rfl rfl rfl rfl (KD q100) (KL q100)) (Wk.of_eq (congrArg D.el (Kv x100)))) rfl rfl rfl rfl rfl rfl ?_;refine z_eM rfl rfl (K7 (d:=.agg [iD x100.gOp,iD x100.gN,tD x100.gName,.lst 5 (x100.gKids.map Kj) .no,iD x100.gAt]) htab rfl rfl rfl rfl rfl) rfl rfl rfl rfl rfl rfl ?_;refine zep ?_;refine z_e rfl rfl (Kav htab rfl rfl rfl rfl rfl rfl rfl (KD q101) (KL q101)) rfl rfl rfl rfl rfl rfl ?_;refine z_qM rfl rfl (K7 htab rfl rfl rfl rfl rfl) rfl rfl rfl rfl rfl rfl ?_
     refine z_nil rfl rfl (fun e he=>by simp [isAl] at he) ?_;obtain ⟨x102,q102,hm⟩:=Kb hm;rcases x102 with pe102|z102
     ·simp only [Sum.elim_inl] at hm;refine KaV (KbF x100 x101 (.inl pe102) q102) rfl rfl rfl (WkL.cons (Wk.trans (Wk.agg (WkR.refl _)) (Wk.of_eq (Kv x100).symm)) (WkL.cons (Wk.refl _) Wl)) Pf Pf ?_;refine K3 ?_;have e98:=Kh hm;subst e98;refine Kap ?_;clear hm;have hm:=ho98;simp only [Sum.elim_inr] at hm
      have e67:=Kh hm;subst e67;refine Kap ?_;clear hm;have hm:=ho67;simp only [Sum.elim_inr] at hm
      refine Kay ?_;have e41:=Kh hm;subst e41;refine Kap ?_;clear hm;have hm:=ho41;simp only [Sum.elim_inr] at hm
      refine K3 ?_;have er103:=Kh hm;subst er103;exact KaB
     simp only [Sum.elim_inr] at hm;refine K1 (KbF x100 x101 (.inr z102) q102) rfl rfl rfl rfl rfl (WkL.cons (Wk.trans (Wk.agg (WkR.refl _)) (Wk.of_eq (Kv x100).symm)) (WkL.cons (Wk.refl _) Wl)) ?_;rintro _ rfl;refine Ke ?_;refine Kk ?_;obtain ⟨x104,q104,hm⟩:=Kb hm;obtain ⟨x105,q105,hm⟩:=Kb hm;refine Kak 7 [] [[],[0],[0,1],[0,1,2],[],[4],[4,5]] [0,1,2,3,4,5] [[],[0],[0,1],[0,1,2],[],[4],[4,5],[0,1,2,3,4,5,6]] (by kernel_rfl) (by kernel_rfl) (by kernel_rfl) (by rfl) (by rfl) (by kernel_rfl) ?_;iterate 6 apply Exists.intro
     intro bs;refine zep ?_;refine z_eM rfl rfl (KJ 1 htab rfl rfl rfl rfl rfl) rfl rfl rfl rfl rfl rfl ?_;refine z_e rfl rfl (Ex.wk (Kav htab rfl rfl rfl rfl rfl rfl rfl (KD q104) (KL q104)) (Wk.of_eq (congrArg D.el (Kv x104)))) rfl rfl rfl rfl rfl rfl ?_;refine z_eM rfl rfl (K7 (d:=.agg [iD x104.gOp,iD x104.gN,tD x104.gName,.lst 5 (x104.gKids.map Kj) .no,iD x104.gAt]) htab rfl rfl rfl rfl rfl) rfl rfl rfl rfl rfl rfl ?_;refine zep ?_;refine z_e rfl rfl (Kav htab rfl rfl rfl rfl rfl rfl rfl (KD q105) (KL q105)) rfl rfl rfl rfl rfl rfl ?_;refine z_qM rfl rfl (K7 htab rfl rfl rfl rfl rfl) rfl rfl rfl rfl rfl rfl ?_
     refine z_nil rfl rfl (fun e he=>by simp [isAl] at he) ?_;obtain ⟨x106,q106,hm⟩:=Kb hm;rcases x106 with pe106|z106
     ·simp only [Sum.elim_inl] at hm;refine KaV (KbF x104 x105 (.inl pe106) q106) rfl rfl rfl (WkL.cons (Wk.trans (Wk.agg (WkR.refl _)) (Wk.of_eq (Kv x104).symm)) (WkL.cons (Wk.refl _) Wl)) Pf Pf ?_;refine K3 ?_;have e98:=Kh hm;subst e98;refine Kap ?_;clear hm;have hm:=ho98;simp only [Sum.elim_inr] at hm
      have e67:=Kh hm;subst e67;refine Kap ?_;clear hm;have hm:=ho67;simp only [Sum.elim_inr] at hm
      refine Kay ?_;have e41:=Kh hm;subst e41;refine Kap ?_;clear hm;have hm:=ho41;simp only [Sum.elim_inr] at hm
      refine K3 ?_;have er107:=Kh hm;subst er107;exact KaB
     simp only [Sum.elim_inr] at hm;refine K1 (KbF x104 x105 (.inr z106) q106) rfl rfl rfl rfl rfl (WkL.cons (Wk.trans (Wk.agg (WkR.refl _)) (Wk.of_eq (Kv x104).symm)) (WkL.cons (Wk.refl _) Wl)) ?_;rintro _ rfl;refine Ke ?_;refine Kx ?_;refine KX (d:=K5 a0) 0 htab rfl rfl rfl rfl rfl rfl rfl rfl ?_;refine pu ?_;refine pL 1 ?_;refine pu ?_;refine pL 1 ?_;refine p_lit htab rfl rfl rfl rfl rfl rfl rfl rfl rfl rfl rfl rfl rfl rfl ?_;refine p_eq (i:=73) (d':=.lst 1 (qZ21.map eI64) .full) rfl (Wk.lst0 (.cons (WkC.refl _) (.nil))) ?_;obtain ⟨x108,q108,hm⟩:=Kb hm;rcases x108 with pe108|z108
     ·simp only [Sum.elim_inl] at hm;refine KaV (KaE a0 a1.gName a1.gAt qZ21 (.inl pe108) q108) rfl rfl rfl (WkL.cons (Wk.refl _) (WkL.cons (Wk.refl _) (WkL.cons (Wk.refl _) (WkL.cons (Wk.no) Wl)))) Pf Pf ?_;have e98:=Kh hm;subst e98;refine Kap ?_;clear hm;have hm:=ho98;simp only [Sum.elim_inr] at hm
      have e67:=Kh hm;subst e67;refine Kap ?_;clear hm;have hm:=ho67;simp only [Sum.elim_inr] at hm
      refine Kay ?_;have e41:=Kh hm;subst e41;refine Kap ?_;clear hm;have hm:=ho41;simp only [Sum.elim_inr] at hm
      refine K3 ?_;have er109:=Kh hm;subst er109;exact KaB
     simp only [Sum.elim_inr] at hm;refine K1 (KaE a0 a1.gName a1.gAt qZ21 (.inr z108) q108) rfl rfl rfl rfl rfl (WkL.cons (Wk.refl _) (WkL.cons (Wk.refl _) (WkL.cons (Wk.refl _) (WkL.cons (Wk.no) Wl)))) ?_;rintro _ rfl;refine Kz ?_;have e98:=Kh hm;subst e98;refine Kaj ?_;exact wO (wP (wC (wC wN)))
    refine Kg ?_;refine pu ?_;refine pu ?_;refine Ke ?_;obtain ⟨x122,q122,ho122⟩:=Kb hm;refine Kat (τ:=Unit) (Y:=Unit) (fun y122 z122=>(⟨[(2,.ptr b1 0),(3,.ptr b2 0)],[(b1,Blk.cells [.lst 4 (a0.gP.gGlobals.map Kp) .no,.lst 5 (a0.gP.gFuncs.map Ks) .no,tD a0.gF.gName,.lst 2 (a0.gF.gParams.map Ko) .no,.lst 2 (a0.gF.gLocals.map Ko) .no,.lst 7 (a0.gF.gBody.map Ki) .no,iD a0.gF.gAt] 137),(b2,Blk.cells [iD a1.gOp,tD a1.gName,tD a1.gFunc,.lst 5 (a1.gExps.map Kj) .no,.lst 7 (a1.gKids.map Ki) .no,.lst 7 (a1.gElse.map Ki) .no,iD a1.gAt] 64)],[]⟩:S)) x122 ?_ ?_
    ·clear hm;have hm:=KA q122;refine cY hm (fun hm=>?_) fun hm=>?_
     ·refine Kk ?_;obtain ⟨x124,q124,hm⟩:=Kb hm;obtain ⟨x125,q125,hm⟩:=Kb hm;refine Kak 7 [] [[],[0],[0,1],[0,1,2],[],[4],[4,5]] [0,1,2,3,4,5] [[],[0],[0,1],[0,1,2],[],[4],[4,5],[0,1,2,3,4,5,6]] (by kernel_rfl) (by kernel_rfl) (by kernel_rfl) (by rfl) (by rfl) (by kernel_rfl) ?_;iterate 6 apply Exists.intro
      intro bs;refine zep ?_;refine z_eM rfl rfl (KJ 1 htab rfl rfl rfl rfl rfl) rfl rfl rfl rfl rfl rfl ?_;refine z_e rfl rfl (Ex.wk (Kav htab rfl rfl rfl rfl rfl rfl rfl (KD q124) (KL q124)) (Wk.of_eq (congrArg D.el (Kv x124)))) rfl rfl rfl rfl rfl rfl ?_;refine z_eM rfl rfl (K7 (d:=.agg [iD x124.gOp,iD x124.gN,tD x124.gName,.lst 5 (x124.gKids.map Kj) .no,iD x124.gAt]) htab rfl rfl rfl rfl rfl) rfl rfl rfl rfl rfl rfl ?_;refine zep ?_;refine z_e rfl rfl (Kav htab rfl rfl rfl rfl rfl rfl rfl (KD q125) (KL q125)) rfl rfl rfl rfl rfl rfl ?_
      refine z_qM rfl rfl (K7 htab rfl rfl rfl rfl rfl) rfl rfl rfl rfl rfl rfl ?_;refine z_nil rfl rfl (fun e he=>by simp [isAl] at he) ?_;obtain ⟨x126,q126,hm⟩:=Kb hm;rcases x126 with pe126|z126
      ·simp only [Sum.elim_inl] at hm;refine KaV (KbF x124 x125 (.inl pe126) q126) rfl rfl rfl (WkL.cons (Wk.trans (Wk.agg (WkR.refl _)) (Wk.of_eq (Kv x124).symm)) (WkL.cons (Wk.refl _) Wl)) Pf Pf ?_;refine K3 ?_;have e122:=Kh hm;subst e122;refine Kap ?_;clear hm;have hm:=ho122;simp only [Sum.elim_inr] at hm
       have e98:=Kh hm;subst e98;refine Kap ?_;clear hm;have hm:=ho98;simp only [Sum.elim_inr] at hm
       have e67:=Kh hm;subst e67;refine Kap ?_;clear hm;have hm:=ho67;simp only [Sum.elim_inr] at hm
       refine Kay ?_;have e41:=Kh hm;subst e41;refine Kap ?_;clear hm;have hm:=ho41;simp only [Sum.elim_inr] at hm
       refine K3 ?_;have er127:=Kh hm;subst er127;exact KaB
      simp only [Sum.elim_inr] at hm;refine K1 (KbF x124 x125 (.inr z126) q126) rfl rfl rfl rfl rfl (WkL.cons (Wk.trans (Wk.agg (WkR.refl _)) (Wk.of_eq (Kv x124).symm)) (WkL.cons (Wk.refl _) Wl)) ?_;rintro _ rfl;refine Ke ?_;refine Kx ?_;refine KX (d:=K5 a0) 0 htab rfl rfl rfl rfl rfl rfl rfl rfl ?_;refine pu ?_;refine pL 1 ?_;refine pu ?_;refine pL 1 ?_;refine p_lit htab rfl rfl rfl rfl rfl rfl rfl rfl rfl rfl rfl rfl rfl rfl ?_;refine p_eq (i:=90) (d':=.lst 1 (qZ22.map eI64) .full) rfl (Wk.lst0 (.cons (WkC.refl _) (.nil))) ?_;obtain ⟨x128,q128,hm⟩:=Kb hm;rcases x128 with pe128|z128
      ·simp only [Sum.elim_inl] at hm;refine KaV (KaE a0 a1.gName a1.gAt qZ22 (.inl pe128) q128) rfl rfl rfl (WkL.cons (Wk.refl _) (WkL.cons (Wk.refl _) (WkL.cons (Wk.refl _) (WkL.cons (Wk.no) Wl)))) Pf Pf ?_;have e122:=Kh hm;subst e122;refine Kap ?_;clear hm;have hm:=ho122;simp only [Sum.elim_inr] at hm
       have e98:=Kh hm;subst e98;refine Kap ?_;clear hm;have hm:=ho98;simp only [Sum.elim_inr] at hm
       have e67:=Kh hm;subst e67;refine Kap ?_;clear hm;have hm:=ho67;simp only [Sum.elim_inr] at hm
       refine Kay ?_;have e41:=Kh hm;subst e41;refine Kap ?_;clear hm;have hm:=ho41;simp only [Sum.elim_inr] at hm
       refine K3 ?_;have er129:=Kh hm;subst er129;exact KaB
      simp only [Sum.elim_inr] at hm;refine K1 (KaE a0 a1.gName a1.gAt qZ22 (.inr z128) q128) rfl rfl rfl rfl rfl (WkL.cons (Wk.refl _) (WkL.cons (Wk.refl _) (WkL.cons (Wk.refl _) (WkL.cons (Wk.no) Wl)))) ?_;rintro _ rfl;refine Kz ?_;have e122:=Kh hm;subst e122;refine Kaj ?_;exact wO (wP (wC (wC wN)))
     refine Kg ?_;refine pu ?_;refine pu ?_;refine Ke ?_;obtain ⟨x137,q137,ho137⟩:=Kb hm;refine Kat (τ:=Unit) (Y:=Unit) (fun y137 z137=>(⟨[(2,.ptr b1 0),(3,.ptr b2 0)],[(b1,Blk.cells [.lst 4 (a0.gP.gGlobals.map Kp) .no,.lst 5 (a0.gP.gFuncs.map Ks) .no,tD a0.gF.gName,.lst 2 (a0.gF.gParams.map Ko) .no,.lst 2 (a0.gF.gLocals.map Ko) .no,.lst 7 (a0.gF.gBody.map Ki) .no,iD a0.gF.gAt] 137),(b2,Blk.cells [iD a1.gOp,tD a1.gName,tD a1.gFunc,.lst 5 (a1.gExps.map Kj) .no,.lst 7 (a1.gKids.map Ki) .no,.lst 7 (a1.gElse.map Ki) .no,iD a1.gAt] 64)],[]⟩:S)) x137 ?_ ?_
     ·clear hm;have hm:=KA q137;refine cY hm (fun hm=>?_) fun hm=>?_
      ·refine Kx ?_;refine KX (d:=K5 a0) 0 htab rfl rfl rfl rfl rfl rfl rfl rfl ?_;refine KX (d:=.agg [iD a1.gOp,tD a1.gName,tD a1.gFunc,.lst 5 (a1.gExps.map Kj) .no,.lst 7 (a1.gKids.map Ki) .no,.lst 7 (a1.gElse.map Ki) .no,iD a1.gAt]) 1 htab rfl rfl rfl rfl rfl rfl rfl rfl ?_;refine pu ?_;obtain ⟨x139,q139,hm⟩:=Kb hm;rcases x139 with pe139|z139
       ·simp only [Sum.elim_inl] at hm;refine KaV (Kg3 a0 a1 z14 (.inl pe139) q139) rfl rfl rfl (WkL.cons (Wk.refl _) (WkL.cons (Wk.trans (Wk.agg (WkR.refl _)) (Wk.of_eq (KK a1).symm)) (WkL.cons (Wk.no) Wl))) Pf Pf ?_;have e137:=Kh hm;subst e137;refine Kap ?_;clear hm;have hm:=ho137;simp only [Sum.elim_inr] at hm
        have e122:=Kh hm;subst e122;refine Kap ?_;clear hm;have hm:=ho122;simp only [Sum.elim_inr] at hm
        have e98:=Kh hm;subst e98;refine Kap ?_;clear hm;have hm:=ho98;simp only [Sum.elim_inr] at hm
        have e67:=Kh hm;subst e67;refine Kap ?_;clear hm;have hm:=ho67;simp only [Sum.elim_inr] at hm
        refine Kay ?_;have e41:=Kh hm;subst e41;refine Kap ?_;clear hm;have hm:=ho41;simp only [Sum.elim_inr] at hm
        refine K3 ?_;have er140:=Kh hm;subst er140;exact KaB
       simp only [Sum.elim_inr] at hm;refine K1 (Kg3 a0 a1 z14 (.inr z139) q139) rfl rfl rfl rfl rfl (WkL.cons (Wk.refl _) (WkL.cons (Wk.trans (Wk.agg (WkR.refl _)) (Wk.of_eq (KK a1).symm)) (WkL.cons (Wk.no) Wl))) ?_;rintro _ rfl;refine Kz ?_;have e137:=Kh hm;subst e137;refine Kaj ?_;exact wO (wP (wC (wC wN)))
      refine Kg ?_;refine pu ?_;refine pu ?_;refine Ke ?_;obtain ⟨x146,q146,ho146⟩:=Kb hm;refine Kat (τ:=Unit) (Y:=Unit) (fun y146 z146=>(⟨[(2,.ptr b1 0),(3,.ptr b2 0)],[(b1,Blk.cells [.lst 4 (a0.gP.gGlobals.map Kp) .no,.lst 5 (a0.gP.gFuncs.map Ks) .no,tD a0.gF.gName,.lst 2 (a0.gF.gParams.map Ko) .no,.lst 2 (a0.gF.gLocals.map Ko) .no,.lst 7 (a0.gF.gBody.map Ki) .no,iD a0.gF.gAt] 137),(b2,Blk.cells [iD a1.gOp,tD a1.gName,tD a1.gFunc,.lst 5 (a1.gExps.map Kj) .no,.lst 7 (a1.gKids.map Ki) .no,.lst 7 (a1.gElse.map Ki) .no,iD a1.gAt] 64)],[]⟩:S)) x146 ?_ ?_
      ·clear hm;have hm:=KA q146;refine cY hm (fun hm=>?_) fun hm=>?_
       ·refine Kx ?_;refine KX (d:=K5 a0) 0 htab rfl rfl rfl rfl rfl rfl rfl rfl ?_;refine pu ?_;refine pL 1 ?_;refine pu ?_;refine pL 1 ?_;refine p_lit htab rfl rfl rfl rfl rfl rfl rfl rfl rfl rfl rfl rfl rfl rfl ?_;refine p_eq (i:=105) (d':=.lst 1 (qZ23.map eI64) .full) rfl (Wk.lst0 (.cons (WkC.refl _) (.nil))) ?_;obtain ⟨x148,q148,hm⟩:=Kb hm;rcases x148 with pe148|z148
        ·simp only [Sum.elim_inl] at hm;refine KaV (KaE a0 a1.gName a1.gAt qZ23 (.inl pe148) q148) rfl rfl rfl (WkL.cons (Wk.refl _) (WkL.cons (Wk.refl _) (WkL.cons (Wk.refl _) (WkL.cons (Wk.no) Wl)))) Pf Pf ?_;have e146:=Kh hm;subst e146;refine Kap ?_;clear hm;have hm:=ho146;simp only [Sum.elim_inr] at hm
         have e137:=Kh hm;subst e137;refine Kap ?_;clear hm;have hm:=ho137;simp only [Sum.elim_inr] at hm
         have e122:=Kh hm;subst e122;refine Kap ?_;clear hm;have hm:=ho122;simp only [Sum.elim_inr] at hm
         have e98:=Kh hm;subst e98;refine Kap ?_;clear hm;have hm:=ho98;simp only [Sum.elim_inr] at hm
         have e67:=Kh hm;subst e67;refine Kap ?_;clear hm;have hm:=ho67;simp only [Sum.elim_inr] at hm
         refine Kay ?_;have e41:=Kh hm;subst e41;refine Kap ?_;clear hm;have hm:=ho41;simp only [Sum.elim_inr] at hm
         refine K3 ?_;have er149:=Kh hm;subst er149;exact KaB
        simp only [Sum.elim_inr] at hm;refine K1 (KaE a0 a1.gName a1.gAt qZ23 (.inr z148) q148) rfl rfl rfl rfl rfl (WkL.cons (Wk.refl _) (WkL.cons (Wk.refl _) (WkL.cons (Wk.refl _) (WkL.cons (Wk.no) Wl)))) ?_;rintro _ rfl;refine Kz ?_;have e146:=Kh hm;subst e146;refine Kaj ?_;exact wO (wP (wC (wC wN)))
       obtain ⟨x150,q150,hm⟩:=Kb hm;obtain ⟨x151,q151,hm⟩:=Kb hm;refine Kak 7 [] [[],[0],[0,1],[0,1,2],[],[4],[4,5]] [0,1,2,3,4,5] [[],[0],[0,1],[0,1,2],[],[4],[4,5],[0,1,2,3,4,5,6]] (by kernel_rfl) (by kernel_rfl) (by kernel_rfl) (by rfl) (by rfl) (by kernel_rfl) ?_;iterate 6 apply Exists.intro
       intro bs;refine zep ?_;refine z_eM rfl rfl (KJ 1 htab rfl rfl rfl rfl rfl) rfl rfl rfl rfl rfl rfl ?_;refine z_e rfl rfl (Ex.wk (Kav htab rfl rfl rfl rfl rfl rfl rfl (KD q150) (KL q150)) (Wk.of_eq (congrArg D.el (Kv x150)))) rfl rfl rfl rfl rfl rfl ?_;refine z_eM rfl rfl (K7 (d:=.agg [iD x150.gOp,iD x150.gN,tD x150.gName,.lst 5 (x150.gKids.map Kj) .no,iD x150.gAt]) htab rfl rfl rfl rfl rfl) rfl rfl rfl rfl rfl rfl ?_;refine zep ?_;refine z_e rfl rfl (Kav htab rfl rfl rfl rfl rfl rfl rfl (KD q151) (KL q151)) rfl rfl rfl rfl rfl rfl ?_
       refine z_qM rfl rfl (K7 htab rfl rfl rfl rfl rfl) rfl rfl rfl rfl rfl rfl ?_;refine z_nil rfl rfl (fun e he=>by simp [isAl] at he) ?_;obtain ⟨x152,q152,hm⟩:=Kb hm;rcases x152 with pe152|z152
       ·simp only [Sum.elim_inl] at hm;refine KaV (KbF x150 x151 (.inl pe152) q152) rfl rfl rfl (WkL.cons (Wk.trans (Wk.agg (WkR.refl _)) (Wk.of_eq (Kv x150).symm)) (WkL.cons (Wk.refl _) Wl)) Pf Pf ?_;have e146:=Kh hm;subst e146;refine Kap ?_;clear hm;have hm:=ho146;simp only [Sum.elim_inr] at hm
        have e137:=Kh hm;subst e137;refine Kap ?_;clear hm;have hm:=ho137;simp only [Sum.elim_inr] at hm
        have e122:=Kh hm;subst e122;refine Kap ?_;clear hm;have hm:=ho122;simp only [Sum.elim_inr] at hm
        have e98:=Kh hm;subst e98;refine Kap ?_;clear hm;have hm:=ho98;simp only [Sum.elim_inr] at hm
        have e67:=Kh hm;subst e67;refine Kap ?_;clear hm;have hm:=ho67;simp only [Sum.elim_inr] at hm
        refine Kay ?_;have e41:=Kh hm;subst e41;refine Kap ?_;clear hm;have hm:=ho41;simp only [Sum.elim_inr] at hm
        refine K3 ?_;have er153:=Kh hm;subst er153;exact KaB
       simp only [Sum.elim_inr] at hm;refine K1 (KbF x150 x151 (.inr z152) q152) rfl rfl rfl rfl rfl (WkL.cons (Wk.trans (Wk.agg (WkR.refl _)) (Wk.of_eq (Kv x150).symm)) (WkL.cons (Wk.refl _) Wl)) ?_;rintro _ rfl;refine Kz ?_;have e146:=Kh hm;subst e146;refine Kaj ?_;exact wO (wP (wC (wC wN)))
      intro y146 s146 hx146 hw146;subst hx146;clear hm;have hm:=ho146;simp only [Sum.elim_inl] at hm;clear q146 ho146;have e137:=Kh hm;subst e137;refine Kaj ?_;refine WkX.trans hw146 (fun z146=>?_);exact wO (wP (wC (wC wN)))
     intro y137 s137 hx137 hw137;subst hx137;clear hm;have hm:=ho137;simp only [Sum.elim_inl] at hm;clear q137 ho137;have e122:=Kh hm;subst e122;refine Kaj ?_;refine WkX.trans hw137 (fun z137=>?_);exact wO (wP (wC (wC wN)))
    intro y122 s122 hx122 hw122;subst hx122;clear hm;have hm:=ho122;simp only [Sum.elim_inl] at hm;clear q122 ho122;have e98:=Kh hm;subst e98;refine Kaj ?_;refine WkX.trans hw122 (fun z122=>?_);exact wO (wP (wC (wC wN)))
   intro y98 s98 hx98 hw98;subst hx98;clear hm;have hm:=ho98;simp only [Sum.elim_inl] at hm;clear q98 ho98;have e67:=Kh hm;subst e67;refine Kaj ?_;refine WkX.trans hw98 (fun z98=>?_);exact wO (wP (wC (wC wN)))
  intro y67 s67 hx67 hw67;subst hx67;clear hm;have hm:=ho67;simp only [Sum.elim_inl] at hm;clear q67 ho67;refine KI ?_;have e41:=Kh hm;subst e41;refine Kaj ?_;refine WkX.trans hw67 (fun z67=>?_);exact wO (wP (wC (wC wN)))
 intro y41 s41 hx41 hw41;subst hx41;clear hm;have hm:=ho41;simp only [Sum.elim_inl] at hm;clear q41 ho41;refine Kd ?_;refine KO hw41 (fun z41=>?_);refine Kg ?_;refine KX (d:=K5 a0) 0 htab rfl rfl rfl rfl rfl rfl rfl rfl ?_;refine pu ?_;refine pL 1 ?_;obtain ⟨x154,q154,hm⟩:=Kb hm;rcases x154 with pe154|z154
 ·simp only [Sum.elim_inl] at hm;refine KaV (hg0 a0 a1.gKids (.inl pe154) q154) rfl rfl rfl Wl Pf Pf ?_;refine K3 ?_;have er155:=Kh hm;subst er155;exact KaB
 simp only [Sum.elim_inr] at hm;refine K1 (hg0 a0 a1.gKids (.inr z154) q154) rfl rfl rfl rfl rfl Wl ?_;rintro _ rfl;refine Ke ?_;refine Kx ?_;refine KX (d:=K5 a0) 0 htab rfl rfl rfl rfl rfl rfl rfl rfl ?_;refine pu ?_;refine pL 1 ?_;obtain ⟨x156,q156,hm⟩:=Kb hm;rcases x156 with pe156|z156
 ·simp only [Sum.elim_inl] at hm;refine KaV (hg0 a0 a1.gElse (.inl pe156) q156) rfl rfl rfl Wl Pf Pf ?_;have er157:=Kh hm;subst er157;exact KaB
 simp only [Sum.elim_inr] at hm;refine K1 (hg0 a0 a1.gElse (.inr z156) q156) rfl rfl rfl rfl rfl Wl ?_;rintro _ rfl;refine Kz ?_;have er158:=Kh hm;subst er158;refine Kca ?_;refine rP (t':=[]) [] [] 0 wN lN ?_;exact ⟨rfl,rfl,rfl⟩
def K4:Nat→((KE)→(List Km)→Option ((Int×Int)⊕(Unit)))×((KE)→(Km)→Option ((Int×Int)⊕(Unit)))
 | 0=>(fun _ _=>none,fun _ _=>none)
 | n+1=>(Ka7 ((K4 n).1) ((K4 n).2),Kbl ((K4 n).1) ((K4 n).2))
theorem KfZ:∀ n,(∀ (a0:KE) (a1:List Km) (r:(Int×Int)⊕(Unit)) (h0:(K4 n).1 a0 a1=some r),KbB zc Tryz.prog 74 [K5 a0,.lst 7 (a1.map Ki) .no] [] [] r (fun r d h k=>d=.tup []∧h=[]∧k=[]))∧(∀ (a0:KE) (a1:Km) (r:(Int×Int)⊕(Unit)) (h0:(K4 n).2 a0 a1=some r),KbB zc Tryz.prog 88 [K5 a0,Ki a1] [] [] r (fun r d h k=>d=.tup []∧h=[]∧k=[]))
 | 0=>⟨(fun _ _ _ h0=>by cases h0),(fun _ _ _ h0=>by cases h0)⟩
 |
  n+1=>by
  have ih:=KfZ n;exact ⟨Kjb ((K4 n).1) ((K4 n).2) (ih.1) (ih.2),KjD ((K4 n).1) ((K4 n).2) (ih.1) (ih.2)⟩
theorem Kf0:∀ n,(∀ (a0:KE) (a1:List Km),Le ((K4 n).1 a0 a1) ((K4 (n+1)).1 a0 a1))∧(∀ (a0:KE) (a1:Km),Le ((K4 n).2 a0 a1) ((K4 (n+1)).2 a0 a1))
 | 0=>⟨fun _ _=>Le.none _,fun _ _=>Le.none _⟩
 |
  n+1=>by
  have ih:=Kf0 n
  exact ⟨fun a0 a1=>by show Le (Ka7 ((K4 n).1) ((K4 n).2) a0 a1) (Ka7 ((K4 (n+1)).1) ((K4 (n+1)).2) a0 a1);unfold Ka7;repeat (first|exact Le.refl _|exact ih.1 _ _|exact ih.2 _ _|assumption|(refine Le.bind ?_ (fun _=>?_))|(refine Le.cond ?_ ?_)|(refine Le.loop (fun _=>?_))|(refine Le.elim (fun _=>?_) (fun _=>?_))),fun a0 a1=>by show Le (Kbl ((K4 n).1) ((K4 n).2) a0 a1) (Kbl ((K4 (n+1)).1) ((K4 (n+1)).2) a0 a1);unfold Kbl;repeat (first|exact Le.refl _|exact ih.1 _ _|exact ih.2 _ _|assumption|(refine Le.bind ?_ (fun _=>?_))|(refine Le.cond ?_ ?_)|(refine Le.loop (fun _=>?_))|(refine Le.elim (fun _=>?_) (fun _=>?_)))⟩
def Kdx (a0:KE)(a1:List Km):Option ((Int×Int)⊕(Unit)):=anyN fun n=>(K4 n).1 a0 a1
theorem KgO (a0:KE)(a1:List Km){r:(Int×Int)⊕(Unit)}(n:Nat)(h:(K4 n).1 a0 a1=some r):Kdx a0 a1=some r:=KdR (fun m=>(Kf0 m).1 a0 a1) h
theorem Kki (a0:KE)(a1:List Km)(r:(Int×Int)⊕(Unit))(h0:Kdx a0 a1=some r):KbB zc Tryz.prog 74 [K5 a0,.lst 7 (a1.map Ki) .no] [] [] r (fun r d h k=>d=.tup []∧h=[]∧k=[]):=
 let ⟨n,hn⟩:=Kdh h0;(KfZ n).1 a0 a1 r hn
def KdL (a0:Kw):Option (Int):=
 (Option.bind (α:=(List (ByteArray×Int))⊕(Int)) (loopM (fun (s25:Int×List (ByteArray×Int))=>(bif (decide (s25.1 < (a0.gGlobals.length:Int))) then ((idx a0.gGlobals s25.1).bind fun x42=>(bif (decide ((1:Int) < (mgetD (mput s25.2 x42.gName (IntKind.i64.wrap ((mgetD s25.2 x42.gName (0:Int))+(1:Int)))) x42.gName (0:Int)))) then some (.done (.inr s25.1)) else some (.next ((IntKind.i64.wrap (s25.1+(1:Int))),(mput s25.2 x42.gName (IntKind.i64.wrap ((mgetD s25.2 x42.gName (0:Int))+(1:Int)))))))) else some (.done (.inl s25.2)))) ((0:Int),([]:List (ByteArray×Int)))) (Sum.elim (fun y24=>(Option.bind (α:=(List (ByteArray×Int))⊕(Int)) (loopM (fun (s68:Int×List (ByteArray×Int))=>(bif (decide (s68.1 < (a0.gFuncs.length:Int))) then ((idx a0.gFuncs s68.1).bind fun x85=>(bif (decide ((1:Int) < (mgetD (mput s68.2 x85.gName (IntKind.i64.wrap ((mgetD s68.2 x85.gName (0:Int))+(1:Int)))) x85.gName (0:Int)))) then some (.done (.inr (IntKind.i64.wrap ((a0.gGlobals.length:Int)+s68.1)))) else some (.next ((IntKind.i64.wrap (s68.1+(1:Int))),(mput s68.2 x85.gName (IntKind.i64.wrap ((mgetD s68.2 x85.gName (0:Int))+(1:Int)))))))) else some (.done (.inl s68.2)))) ((0:Int),y24)) (Sum.elim (fun y67=>some (-1:Int)) (fun r=>some r)))) (fun r=>some r)))
theorem Kmn (a0:Kw)(r:Int)(h0:KdL a0=some r):CallsD Tryz.prog 52 [Kah a0] [] [] (fun d h k=>d=iD r∧h=[]∧k=[]):=by
 have hm:=KA h0;unfold KdL at hm;clear h0;refine KT htab Tryz.func52 rfl rfl rfl rfl rfl (fun C=>?_);refine Kg ?_;refine p_box rfl rfl rfl rfl rfl rfl rfl (fun b1=>?_);refine pu ?_;refine KH ?_;refine KmX rfl rfl rfl rfl (fun b2=>?_);refine pu ?_;refine Ke ?_;refine Kk ?_;refine Kg ?_;refine pu ?_;refine pL 1 ?_;refine Kar htab rfl rfl rfl rfl rfl rfl rfl (by first|exact KQ|rfl) ?_;refine pu ?_;refine Ke ?_;obtain ⟨x24,q24,ho24⟩:=Kb hm
 refine Kat (τ:=List (ByteArray×Int)) (Y:=Unit) (fun y24 z24=>(⟨[(1,.ptr b1 0),(3,.v (.map (some b2)))],[(b2,Blk.mp (y24.map fun p=>((fun s:ByteArray=>Value.string s) p.1,eI64 p.2))),(b1,Blk.cells [.lst 4 (a0.gGlobals.map Kp) .no,.lst 5 (a0.gFuncs.map Ks) .no] 28)],[]⟩:S)) x24 ?_ ?_
 ·clear hm;have hm:=KA q24;refine KC ?_;obtain ⟨u25,hl25,hq25⟩:=yes_m hm;refine KaA (Y:=Unit) hl25 (fun s25 z25=>(⟨[(1,.ptr b1 0),(3,.v (.map (some b2))),(10,.lst 4 (a0.gGlobals.map Kp) .no),(11,iD (a0.gGlobals.length:Int)),(12,iD s25.1)],[(b2,Blk.mp (s25.2.map fun p=>((fun s:ByteArray=>Value.string s) p.1,eI64 p.2))),(b1,Blk.cells [.lst 4 (a0.gGlobals.map Kp) .no,.lst 5 (a0.gFuncs.map Ks) .no] 28)],[]⟩:S)) ?_ ?_
  ·skip
   exact wO (wP (wC (wC (wC (wC (wC wN))))))
  intro G25 s25 z25 hm;refine Kg ?_;refine pu ?_;refine Ke ?_;refine Kk ?_;refine cY hm (fun hm=>?_) fun hm=>?_
  ·refine Ku ?_;refine Kd ?_;refine Kk ?_;refine KC ?_;refine Kg ?_;refine pu ?_;obtain ⟨x42,q42,hm⟩:=Kb hm;refine KaR htab rfl rfl rfl rfl rfl rfl rfl rfl rfl rfl (KD q42) (KL q42) ?_;refine KaC (d:=Kp x42) htab rfl rfl rfl rfl rfl rfl rfl rfl ?_;refine Kag htab rfl rfl rfl rfl rfl rfl rfl (fun b43=>?_);refine pu ?_;refine pS2 (ds':=[tD x42.gName,.v (.bool x42.gPtr),iD x42.gSize,iD x42.gAt]) ?_;refine KH ?_;refine pu ?_;refine pu ?_;refine pL 2 ?_
   refine Khd (l:=s25.2) (f:=(fun s:ByteArray=>Value.string s)) (e:=eI64) (kk:=x42.gName) (z:=(0:Int)) (dr:=iD (mgetD s25.2 x42.gName (0:Int))) 0 htab rfl rfl rfl rfl rfl rfl rfl rfl rfl rfl mk132 (fun H v h=>KV h) mz132 mr132 rfl ?_;refine pu ?_
   refine Kja (l:=s25.2) (f:=(fun s:ByteArray=>Value.string s)) (e:=eI64) (kk:=x42.gName) (vv:=(IntKind.i64.wrap ((mgetD s25.2 x42.gName (0:Int))+(1:Int)))) (h':=[(b2,Blk.mp ((mput s25.2 x42.gName (IntKind.i64.wrap ((mgetD s25.2 x42.gName (0:Int))+(1:Int)))).map fun p=>((fun s:ByteArray=>Value.string s) p.1,eI64 p.2))),(b1,Blk.cells [.lst 4 (a0.gGlobals.map Kp) .no,.lst 5 (a0.gFuncs.map Ks) .no] 28),(b43,Blk.cells [tD x42.gName,.v (.bool x42.gPtr),iD x42.gSize,iD x42.gAt] 48)]) 0 htab rfl rfl rfl rfl rfl rfl rfl rfl rfl rfl mk132 (fun H v h=>KV h) (Wk.refl _) rfl ?_;refine KH ?_;refine pu ?_;refine pu ?_
   refine pL 2 ?_;refine Khd (l:=(mput s25.2 x42.gName (IntKind.i64.wrap ((mgetD s25.2 x42.gName (0:Int))+(1:Int))))) (f:=(fun s:ByteArray=>Value.string s)) (e:=eI64) (kk:=x42.gName) (z:=(0:Int)) (dr:=iD (mgetD (mput s25.2 x42.gName (IntKind.i64.wrap ((mgetD s25.2 x42.gName (0:Int))+(1:Int)))) x42.gName (0:Int))) 0 htab rfl rfl rfl rfl rfl rfl rfl rfl rfl rfl mk132 (fun H v h=>KV h) mz132 mr132 rfl ?_;refine pu ?_;refine Ke ?_;refine cY hm (fun hm=>?_) fun hm=>?_
   ·refine Kg ?_;refine pu ?_;refine pu ?_;refine Ke ?_;refine Kr ?_;refine KF ?_;refine Kt ?_;have e25:=KN hm;subst e25;clear hm;have hm:=hq25
    refine Kt ?_;refine KF ?_;have e24:=Kh hm;subst e24;refine Kaw ?_;clear hm;have hm:=ho24;simp only [Sum.elim_inr] at hm
    refine Kt ?_;have er45:=Kh hm;subst er45;refine rP (t':=[(2,iD s25.1)]) [] [] 0 (wC wN) (lT lN) ?_;exact ⟨rfl,rfl,rfl⟩
   refine Ku ?_;refine KI ?_;refine Kd ?_;refine Kx ?_;refine pu ?_;refine pu ?_;refine Kz ?_;refine Kd ⟨_,Kas hm,?_⟩;exact wO (wP (wC (wC (wC (wC (wC wN))))))
  refine Kaf ?_;refine KG ?_;have e25:=KN hm;subst e25;clear hm;have hm:=hq25
  refine KG ?_;refine KZ ?_;have e24:=Kh hm;subst e24;refine Kaj ?_;exact wO (wP (wC (wC wN)))
 intro y24 s24 hx24 hw24;subst hx24;clear hm;have hm:=ho24;simp only [Sum.elim_inl] at hm;clear q24 ho24;refine Kd ?_;refine KO hw24 (fun z24=>?_);refine Kk ?_;refine Kg ?_;refine pu ?_;refine pL 1 ?_;refine Kar htab rfl rfl rfl rfl rfl rfl rfl (by first|exact KQ|rfl) ?_;refine pu ?_;refine Ke ?_;obtain ⟨x67,q67,ho67⟩:=Kb hm;refine Kat (τ:=List (ByteArray×Int)) (Y:=Unit) (fun y67 z67=>(⟨[],[],[]⟩:S)) x67 ?_ ?_
 ·clear hm;have hm:=KA q67;refine KC ?_;obtain ⟨u68,hl68,hq68⟩:=yes_m hm;refine KaA (Y:=Unit) hl68 (fun s68 z68=>(⟨[(1,.ptr b1 0),(3,.v (.map (some b2))),(30,.lst 5 (a0.gFuncs.map Ks) .no),(31,iD (a0.gFuncs.length:Int)),(32,iD s68.1)],[(b2,Blk.mp (s68.2.map fun p=>((fun s:ByteArray=>Value.string s) p.1,eI64 p.2))),(b1,Blk.cells [.lst 4 (a0.gGlobals.map Kp) .no,.lst 5 (a0.gFuncs.map Ks) .no] 28)],[]⟩:S)) ?_ ?_
  ·skip
   exact wO (wP (wC (wC (wC (wC (wC wN))))))
  intro G68 s68 z68 hm;refine Kg ?_;refine pu ?_;refine Ke ?_;refine Kk ?_;refine cY hm (fun hm=>?_) fun hm=>?_
  ·refine Ku ?_;refine Kd ?_;refine Kk ?_;refine KC ?_;refine Kg ?_;refine pu ?_;obtain ⟨x85,q85,hm⟩:=Kb hm;refine KaR htab rfl rfl rfl rfl rfl rfl rfl rfl rfl rfl (KD q85) (KL q85) ?_;refine KaC (d:=Ks x85) htab rfl rfl rfl rfl rfl rfl rfl rfl ?_;refine Kag htab rfl rfl rfl rfl rfl rfl rfl (fun b86=>?_);refine pu ?_;refine pS2 (ds':=[tD x85.gName,.lst 2 (x85.gParams.map Ko) .no,.lst 2 (x85.gLocals.map Ko) .no,.lst 7 (x85.gBody.map Ki) .no,iD x85.gAt]) ?_;refine KH ?_;refine pu ?_;refine pu ?_;refine pL 2 ?_
   refine Khd (l:=s68.2) (f:=(fun s:ByteArray=>Value.string s)) (e:=eI64) (kk:=x85.gName) (z:=(0:Int)) (dr:=iD (mgetD s68.2 x85.gName (0:Int))) 0 htab rfl rfl rfl rfl rfl rfl rfl rfl rfl rfl mk132 (fun H v h=>KV h) mz132 mr132 rfl ?_;refine pu ?_
   refine Kja (l:=s68.2) (f:=(fun s:ByteArray=>Value.string s)) (e:=eI64) (kk:=x85.gName) (vv:=(IntKind.i64.wrap ((mgetD s68.2 x85.gName (0:Int))+(1:Int)))) (h':=[(b2,Blk.mp ((mput s68.2 x85.gName (IntKind.i64.wrap ((mgetD s68.2 x85.gName (0:Int))+(1:Int)))).map fun p=>((fun s:ByteArray=>Value.string s) p.1,eI64 p.2))),(b1,Blk.cells [.lst 4 (a0.gGlobals.map Kp) .no,.lst 5 (a0.gFuncs.map Ks) .no] 28),(b86,Blk.cells [tD x85.gName,.lst 2 (x85.gParams.map Ko) .no,.lst 2 (x85.gLocals.map Ko) .no,.lst 7 (x85.gBody.map Ki) .no,iD x85.gAt] 52)]) 0 htab rfl rfl rfl rfl rfl rfl rfl rfl rfl rfl mk132 (fun H v h=>KV h) (Wk.refl _) rfl ?_
   refine KH ?_;refine pu ?_;refine pu ?_;refine pL 2 ?_;refine Khd (l:=(mput s68.2 x85.gName (IntKind.i64.wrap ((mgetD s68.2 x85.gName (0:Int))+(1:Int))))) (f:=(fun s:ByteArray=>Value.string s)) (e:=eI64) (kk:=x85.gName) (z:=(0:Int)) (dr:=iD (mgetD (mput s68.2 x85.gName (IntKind.i64.wrap ((mgetD s68.2 x85.gName (0:Int))+(1:Int)))) x85.gName (0:Int))) 0 htab rfl rfl rfl rfl rfl rfl rfl rfl rfl rfl mk132 (fun H v h=>KV h) mz132 mr132 rfl ?_;refine pu ?_;refine Ke ?_;refine cY hm (fun hm=>?_) fun hm=>?_
   ·refine Kg ?_;refine pu ?_;refine pL 1 ?_;refine Kar htab rfl rfl rfl rfl rfl rfl rfl (by first|exact KQ|rfl) ?_;iterate 3 refine pu ?_
    refine Ke ?_;refine Kr ?_;refine KF ?_;refine Kt ?_;have e68:=KN hm;subst e68;clear hm;have hm:=hq68
    refine Kt ?_;refine KF ?_;have e67:=Kh hm;subst e67;refine Kaw ?_;clear hm;have hm:=ho67;simp only [Sum.elim_inr] at hm
    refine Kt ?_;have er88:=Kh hm;subst er88;refine rP (t':=[(2,iD (IntKind.i64.wrap ((a0.gGlobals.length:Int)+s68.1)))]) [] [] 0 (wC wN) (lT lN) ?_;exact ⟨rfl,rfl,rfl⟩
   refine Ku ?_;refine KI ?_;refine Kd ?_;refine Kx ?_;refine pu ?_;refine pu ?_;refine Kz ?_;refine Kd ⟨_,Kas hm,?_⟩;exact wO (wP (wC (wC (wC (wC (wC wN))))))
  refine Kaf ?_;refine KG ?_;have e68:=KN hm;subst e68;clear hm;have hm:=hq68
  refine KG ?_;refine KZ ?_;have e67:=Kh hm;subst e67;refine Kaj ?_;exact wO (wP wN)
 intro y67 s67 hx67 hw67;subst hx67;clear hm;have hm:=ho67;simp only [Sum.elim_inl] at hm;clear q67 ho67;refine Kd ?_;refine KO hw67 (fun z67=>?_);refine Kg ?_;refine pu ?_;refine Ke ?_;refine Kr ?_;have er89:=Kh hm;subst er89;refine rP (t':=[(2,iD (-1:Int))]) [] [] 0 (wC wN) (lT lN) ?_;exact ⟨rfl,rfl,rfl⟩
end
end Go.Proofs.YtipfljkjjddapaaGreat.Ab
namespace Go.Proofs.YtipfljkjjddapaaGreat
open Go Go.RowKit
set_option linter.all false
abbrev Hp:=Addr→Option Value
def Hp.le (H H':Hp):Prop:=∀ a v,H a=some v→H' a=some v
theorem Hp.le_refl (H:Hp):H.le H:=fun _ _ h=>h
theorem Hp.le_trans {H H' H'':Hp}(h:H.le H')(k:H'.le H''):H.le H'':=fun a v x=>k a v (h a v x)
def Ag (H:Hp)(w:World):Prop:=∀ a v,H a=some v→w.cell? a=some v
theorem cell_lt {w:World}{a:Addr}{v:Value}(h:w.cell? a=some v):a.block < w.heap.size:=by
 unfold World.cell? at h;rcases Nat.lt_or_ge a.block w.heap.size with hl|hl
 ·exact hl
 rw [Array.getElem?_eq_none hl] at h;cases h
theorem Ag.lt {H:Hp}{w:World}(h:Ag H w){a:Addr}{v:Value}(ha:H a=some v):a.block < w.heap.size:=cell_lt (h a v ha)
theorem Ag.below {H:Hp}{w w':World}(h:Ag H w)(hb:Below w.heap.size w w'):Ag H w':=fun a v ha=>by rw [hb.cell (p:=a) (h.lt ha)];exact h a v ha
theorem Ag.drew {H:Hp}{w:World}(h:Ag H w):Ag H w.drew:=h
theorem Ag.alloc {H:Hp}{w:World}(h:Ag H w)(o:Obj):Ag H (w.alloc o):=h.below ((Below.refl _ _).alloc (Nat.le_refl _) o)
structure Grow (H:Hp) (w:World) (H':Hp) (w':World):Prop where
 le:H.le H'
 new:∀ a v,H' a=some v→H a=some v∨w.heap.size≤a.block
 ag:Ag H' w'
 below:Below w.heap.size w w'
theorem Grow.refl {H:Hp}{w:World}(h:Ag H w):Grow H w H w:=⟨Hp.le_refl H,fun _ _ h=>.inl h,h,Below.refl _ _⟩
theorem Grow.trans {H H1 H2:Hp}{w w1 w2:World}(h:Grow H w H1 w1)(k:Grow H1 w1 H2 w2):Grow H w H2 w2:=
 ⟨Hp.le_trans h.le k.le,fun a v x=>by
  rcases k.new a v x with y|y
  ·exact h.new a v y
  exact .inr (Nat.le_trans h.below.size y),k.ag,h.below.trans (k.below.mono h.below.size)⟩
theorem Grow.drew {H H':Hp}{w w':World}(h:Grow H w H' w'):Grow H w H' w'.drew:=⟨h.le,h.new,h.ag,h.below.drew⟩
theorem Grow.cell {H H':Hp}{w w':World}(h:Grow H w H' w'):(∀ b o,b < w.heap.size→w'.cell? ⟨b,o,none⟩=w.cell? ⟨b,o,none⟩)∧(∀ b o,b < w.heap.size→w'.frozen? ⟨b,o,none⟩=w.frozen? ⟨b,o,none⟩):=
 ⟨fun b o hb=>h.below.cell (p:=⟨b,o,none⟩) hb,fun b o hb=>h.below.frozen (p:=⟨b,o,none⟩) hb⟩
def E:Hp:=fun _=>none
theorem hp_alloc (w:World)(o:Obj)(k:Nat):(w.alloc o).heap[k]? = if k=w.heap.size then some o else w.heap[k]?:=by
 show (w.heap.push o)[k]? = _
 rw [Array.getElem?_push]
def setO (off:Nat)(v:Value):Obj→Obj
 | .cells c e fr=>.cells (c.setIfInBounds off v) e fr
 | o=>o
theorem KgP (w:World)(b o:Nat)(v:Value)(k:Nat):(w.setCell ⟨b,o,none⟩ v).heap[k]? = if b=k then (w.heap[k]?).map (setO o v) else w.heap[k]?:=by
 simp only [World.setCell,Array.getElem?_modify];by_cases h:b=k
 ·rw [if_pos h,if_pos h];cases w.heap[k]? with
  | none=>rfl
  | some x=>cases x<;>rfl
 rw [if_neg h,if_neg h]
structure Blk (H:Hp) (w:World) (n:Nat) (b:Nat) (c:Array Value) (T:TypeId):Prop where
 ge:n≤b
 at_:w.heap[b]? = some (.cells c T (0,0))
 out:∀ o,H ⟨b,o,none⟩=none
theorem Blk.lt {H:Hp}{w:World}{n b:Nat}{c:Array Value}{T:TypeId}(h:Blk H w n b c T):b < w.heap.size:=(Array.getElem?_eq_some_iff.1 h.at_).1
theorem Blk.new {H:Hp}{w:World}(hA:Ag H w){n:Nat}(hn:n≤w.heap.size)(c:Array Value)(T:TypeId):Blk H (w.alloc (.cells c T)) n w.heap.size c T:=
 ⟨hn,by show (w.heap.push _)[w.heap.size]? = _;simp,fun o=>by
  cases e:H ⟨w.heap.size,o,none⟩ with
  | none=>rfl
  | some v=>exact absurd (hA.lt e) (Nat.lt_irrefl _)⟩
theorem Blk.alloc {H:Hp}{w:World}{n b:Nat}{c:Array Value}{T:TypeId}(h:Blk H w n b c T)(o:Obj):Blk H (w.alloc o) n b c T:=
 ⟨h.ge,by rw [hp_alloc,if_neg (by have:=h.lt;omega)];exact h.at_,h.out⟩
theorem Blk.drew {H:Hp}{w:World}{n b:Nat}{c:Array Value}{T:TypeId}(h:Blk H w n b c T):Blk H w.drew n b c T:=⟨h.ge,h.at_,h.out⟩
theorem Blk.set {H:Hp}{w:World}{n b:Nat}{c:Array Value}{T:TypeId}(h:Blk H w n b c T)(o:Nat)(v:Value):Blk H (w.setCell ⟨b,o,none⟩ v) n b (c.setIfInBounds o v) T:=
 ⟨h.ge,by rw [KgP,if_pos rfl,h.at_];rfl,h.out⟩
theorem Ki2 {B:Nat}{a w:World}{p:Addr}{u:Value}(hp:B≤p.block)(h:Below B a w):Below B a (w.setCell p u):=h.setCell hp u
theorem Knu {B:Nat}{a w:World}{o:Obj}(hB:B≤w.heap.size)(h:Below B a w):Below B a (w.alloc o):=h.alloc hB o
theorem Blk.below {H:Hp}{w w':World}{n b:Nat}{c:Array Value}{T:TypeId}(h:Blk H w n b c T)(hb:Below w.heap.size w w'):Blk H w' n b c T:=
 ⟨h.ge,by rw [hb.block b h.lt];exact h.at_,h.out⟩
theorem Blk.cell {H:Hp}{w:World}{n b:Nat}{c:Array Value}{T:TypeId}(h:Blk H w n b c T)(o:Nat):w.cell? ⟨b,o,none⟩=c[o]?:=by
 simp [World.cell?,h.at_]
theorem Blk.frozen {H:Hp}{w:World}{n b:Nat}{c:Array Value}{T:TypeId}(h:Blk H w n b c T)(o:Nat):w.frozen? ⟨b,o,none⟩=false:=by
 simp [World.frozen?,h.at_]
structure St where
 r:Hp→World→Value→Prop
 st:∀ H w H' w',Grow H w H' w'→∀ v,r H w v→r H' w' v
def St.hp (p:Hp→Value→Prop)(hp:∀ H H',Hp.le H H'→∀ v,p H v→p H' v):St:=⟨fun H _ v=>p H v,fun H _ H' _ hg v h=>hp H H' hg.le v h⟩
section
variable {P : Program} {ops : Array Oper} {Q : Exit → Act → World → Prop} {H0 : Hp} {w0 : World} {R : Nat → St} {pre : List (List Nat)} {ev al : List Nat} {l2 : List Oper} {vals : Nat → Value} {i : Nat} {o : Oper} {rest : List Oper} {a : Act}
end
end Go.Proofs.YtipfljkjjddapaaGreat
namespace Go.Proofs.YtipfljkjjddapaaGreat.Ab
section
open Go Go.RowKit Go.Proofs
set_option linter.all false
theorem try1_idle (p:Addr)(w:World) :
  Go.CallsD Tryz.prog 85 #[.pointer (some p)] .returning w fun e u' w'=>e=.returned (.tuple #[])∧u'=.returning∧w'=w:=by
 refine callsD_of_wpS Tryz.func85 rfl fun c₀ cs hu=>?_
 apply wpS_seq;apply wpS_region;simp [wpOpsS,go_sem,recoverD,hu,Tryz.ntmps85,Exit.thenS];apply wpS_seq;apply wpS_region;simp [wpOpsS,go_sem,recoverD,hu,Tryz.ntmps85,Exit.thenS];refine wpS_cond (t:=false) (by simp [Act.eval,Array.replicate]) ?_;simp only [Bool.false_eq_true,if_false];refine wpS_of_wp (wp_skip ?_);cases c₀;simp_all [bodyPostS,results,Tryz.results85]
theorem Knh (v:Value)(t:TypeId)(w:World):(Instr.typeAssert (.iface 134 v) t 134 true).run Tryz.prog w=.ok (.tuple #[v,.bool true]) w:=by
 obtain ⟨d0,u0,u1⟩:=Kal (P:=Tryz.prog) (w:=w) (ti_ok htab (t:=134) rfl);obtain ⟨gs,rfl,_⟩:=Kgl (u1.trans rfl);unfold Instr.typeAssert;rw [Ky u0];rfl
theorem Kmo (b:Nat)(pe:Int×Int)(w:World)(hx:w.heap[b]? = some (.cells #[.int .i64 0,.int .i64 0] 134 (0,0))) :
  Go.CallsD Tryz.prog 85 #[.pointer (some ⟨b,0,none⟩)] (.panicking (zc pe)) w fun e u' w'=>
   e=.returned (.tuple #[])∧u'=.panicking [{ v:=.iface 134 (.agg #[.int .i64 pe.1,.int .i64 pe.2]),recovered:=true }]∧w'.heap[b]? = some (.cells #[.int .i64 pe.1,.int .i64 pe.2] 134 (0,0))∧Below b w w':=by
 have hlt:b < w.heap.size:=(Array.getElem?_eq_some_iff.1 hx).1;obtain ⟨W1,hW1⟩:∃ W1,W1=w.alloc (.cells #[.int .i64 pe.1,.int .i64 pe.2] 134):=⟨_,rfl⟩;have hb1:Below w.heap.size w W1:=by rw [hW1];exact (Below.refl _ w).alloc (Nat.le_refl _) _
 have hx1:=(hb1.block _ hlt).trans hx;have hy1:W1.heap[w.heap.size]? = some (.cells #[.int .i64 pe.1,.int .i64 pe.2] 134 (0,0)):=by rw [hW1,Kbe,if_pos rfl]
 refine callsD_of_wpS Tryz.func85 rfl fun c₀ cs hu=>?_
 apply wpS_seq;apply wpS_region;simp [wpOpsS,go_sem,recoverD,hu,zc,Tryz.ntmps85,Exit.thenS];apply wpS_seq;apply wpS_region;simp [wpOpsS,go_sem,recoverD,hu,Tryz.ntmps85,Exit.thenS];refine wpS_cond (t:=true) (by simp [Act.eval,Array.replicate]) ?_;simp only [if_true];refine wpS_of_wp ?_;change Code.wp _ _ _ { tmps:=#[.pointer (some ⟨b,0,none⟩),.iface 134 (.agg #[.int .i64 pe.1,.int .i64 pe.2]),undef,undef,.iface 134 (.agg #[.int .i64 pe.1,.int .i64 pe.2]),.iface 134 (.agg #[.int .i64 pe.1,.int .i64 pe.2]),.bool true,undef,undef,undef,undef,undef,undef,undef,undef,undef],defers:=[] } w;have hta:=Knh;have hne:¬ w.heap.size=b:=by omega
 have hne':¬ b=w.heap.size:=by omega
 have z0:w.frozen? ⟨b,0,none⟩=false:=by simp [World.frozen?,hx]
 have z1:w.frozen? ⟨b,1,none⟩=false:=by simp [World.frozen?,hx]
 have a0:w.cell? ⟨b,0,none⟩=some (.int .i64 0):=by simp [World.cell?,hx]
 have a1:w.cell? ⟨b,1,none⟩=some (.int .i64 0):=by simp [World.cell?,hx]
 go_wp2_with fail
 obtain ⟨W9,hW9⟩:∃ W9,W9=((w.setCell ⟨b,0,none⟩ (.int .i64 pe.1)).setCell ⟨b,1,none⟩ (.int .i64 pe.2)).alloc (.cells #[.int .i64 pe.1,.int .i64 pe.2] 134):=⟨_,rfl⟩;rw [← hW9];have hx9:W9.heap[b]? = some (.cells #[.int .i64 pe.1,.int .i64 pe.2] 134 (0,0)):=by
  rw [hW9,Kbe,if_neg (by simp;omega),KgP,if_pos rfl,KgP,if_pos rfl,hx];rfl
 have hb9:Below b w W9:=by
  rw [hW9];have:=Ki2 (p:=⟨b,1,none⟩) (u:=.int .i64 pe.2) (Nat.le_refl b) (Ki2 (p:=⟨b,0,none⟩) (u:=.int .i64 pe.1) (Nat.le_refl b) (Below.refl b w));exact this.alloc (by simp;omega) _
 clear hW9 z0 z1 a0 a1 hta;cases c₀;simp [bodyPostS,results,Tryz.results85,hx9,hb9]
def oc (pr:(Int×Int)⊕Unit):Ending:=match pr with|.inr _=>.returned (.tuple #[])|.inl pe=>.panicked (zc pe)
def wr (pr:(Int×Int)⊕Unit):Int×Int:=match pr with|.inr _=>(0,0)|.inl pe=>pe
theorem try_calls (cap:Array Value)(w:World)(pr:(Int×Int)⊕Unit)(hcl:Calls Tryz.prog 72 cap (w.alloc (.cells #[.int .i64 0,.int .i64 0] 134)) fun e w'=>e=oc pr∧Below (w.heap.size+1) (w.alloc (.cells #[.int .i64 0,.int .i64 0] 134)) w') :
  Calls Tryz.prog 71 #[.func (.func 72) #[] cap] w fun e w'=>e=.returned (.agg #[.int .i64 (wr pr).1,.int .i64 (wr pr).2])∧Below w.heap.size w w':=by
 have hmf:∀ (fn:Fn) (first cap:Array Value) (w:World),(Instr.makeFunc fn first cap).run Tryz.prog w=.ok (.func fn first cap) w:=fun _ _ _ _=>rfl
 go_enter_defers Tryz.func71,Tryz.ntmps71
 go_wp2_with fail
 refine hcl.mono ?_;rintro e w1 ⟨rfl,hb⟩;have hx:w1.heap[w.heap.size]? = some (.cells #[.int .i64 0,.int .i64 0] 134 (0,0)):=by
  rw [hb.block _ (Nat.lt_succ_self _),Kbe,if_pos rfl]
 have hbw:Below w.heap.size w w1:=((Below.refl _ w).alloc (Nat.le_refl _) _).trans (hb.mono (Nat.le_succ _));cases pr with
 |
  inl pe=>
  simp only [oc,wr];refine leaves_cons (f:=85) (args:=#[.pointer (some ⟨w.heap.size,0,none⟩)]) (by simp) (by simp [go_sem]) ?_;refine (Kmo w.heap.size pe _ hx).mono ?_;rintro e u' w9 ⟨rfl,rfl,hx9,hb9⟩;have y0:w9.cell? ⟨w.heap.size,0,none⟩=some (.int .i64 pe.1):=by simp [World.cell?,hx9]
  have y1:w9.cell? ⟨w.heap.size,1,none⟩=some (.int .i64 pe.2):=by simp [World.cell?,hx9]
  simp [Leaves,settle,results,Tryz.results71,go_sem,y0,y1];exact ⟨⟨rfl,rfl⟩,hbw.trans hb9⟩
 |
  inr u=>
  simp only [oc,wr];have x0:w1.cell? ⟨w.heap.size,0,none⟩=some (.int .i64 0):=by simp [World.cell?,hx]
  have x1:w1.cell? ⟨w.heap.size,1,none⟩=some (.int .i64 0):=by simp [World.cell?,hx]
  have z0:w1.frozen? ⟨w.heap.size,0,none⟩=false:=by simp [World.frozen?,hx]
  have z1:w1.frozen? ⟨w.heap.size,1,none⟩=false:=by simp [World.frozen?,hx]
  go_wp2_with fail
  obtain ⟨W9,hW9⟩:∃ W9,W9=(w1.setCell ⟨w.heap.size,0,none⟩ (.int .i64 0)).setCell ⟨w.heap.size,1,none⟩ (.int .i64 0):=⟨_,rfl⟩;rw [← hW9];have hx9:W9.heap[w.heap.size]? = some (.cells #[.int .i64 0,.int .i64 0] 134 (0,0)):=by
   rw [hW9,KgP,if_pos rfl,KgP,if_pos rfl,hx];rfl
  have y0:W9.cell? ⟨w.heap.size,0,none⟩=some (.int .i64 0):=by simp [World.cell?,hx9]
  have y1:W9.cell? ⟨w.heap.size,1,none⟩=some (.int .i64 0):=by simp [World.cell?,hx9]
  have hb9:Below w.heap.size w W9:=by
   rw [hW9];exact Ki2 (Nat.le_refl _) (Ki2 (Nat.le_refl _) hbw)
  clear hW9 hx9 x0 x1 z0 z1 hx hcl;refine leaves_cons (f:=85) (args:=#[.pointer (some ⟨w.heap.size,0,none⟩)]) (by simp) (by simp [go_sem]) ?_;refine (try1_idle ⟨w.heap.size,0,none⟩ _).mono ?_;rintro e u' w'' ⟨rfl,rfl,rfl⟩;simp [Leaves,settle,results,Tryz.results71,go_sem,y0,y1];exact ⟨⟨rfl,rfl⟩,hb9⟩
end
section
open Go Go.RowKit Go.Proofs
set_option linter.all false
def Kii (p:Kw)(f:Kq):Option ((Int×Int)⊕Unit):=(KbM ⟨p,f⟩).bind (Sum.elim (fun pe=>some (.inl pe)) fun _=>Kdx ⟨p,f⟩ f.gBody)
def Kij (p:Kw)(f:Kq):Option (Int×Int):=(Kii p f).bind fun pr=>some (wr pr)
theorem Kl9 {H H':Hp}{w w':World}{h:List (Nat×Blk)}{k:List (Nat×Value)}(c:Core ⟨H,w,[]⟩ H' h k w'):Below w.heap.size w w':=⟨c.env.1,c.env.2.1,c.env.2.2.1,c.size,fun j hj=>c.same j hj (by simp)⟩
theorem u_callsP {f:FuncId}{ds:List D}{us:Array Value}{pr:(Int×Int)⊕Unit}(c:KbB zc Tryz.prog f ds [] [] pr (fun r d h k=>d=.tup []∧h=[]∧k=[])){H:Hp}{w:World}(hA:Ag H w)(hv:RepsV H ds us.toList) :
  Calls Tryz.prog f us w fun e w'=>e=oc pr∧Below w.heap.size w w':=by
 cases pr with
 | inl pe=>exact (c.2 H w us.toList hv hA (by simp) (by simp) (by simp [KR])).mono fun e w' ⟨he,H',hc⟩=>⟨he,Kl9 hc⟩
 |
  inr u=>
  refine (c.2 H w us.toList hv hA (by simp) (by simp) (by simp [KR])).mono fun e w' ⟨v,H',d,h',k',he,hr,hc,e1,e2,e3⟩=>?_
  subst e1;subst e2;subst e3;refine ⟨?_,Kl9 hc⟩;obtain ⟨r1,r2⟩:=hr;cases v<;>simp [D.shape,RepC,RepsV,Value.cells] at r1 r2;rw [he];simp_all [oc]
theorem checkF_ok (p:Kw)(f:Kq)(r:Int×Int)(h0:Kij p f=some r):CallsD Tryz.prog 53 [Kah p,Ks f] [] [] (fun d h k=>d=.tup [.v (.int .i64 r.1),.v (.int .i64 r.2)]∧h=[]∧k=[]):=by
 unfold Kij at h0;cases hP:Kii p f with
 | none=>rw [hP] at h0;cases h0
 | some pr=>
 rw [hP,Option.bind_some] at h0;cases h0;unfold Kii at hP;cases hn:KbM ⟨p,f⟩ with
 | none=>rw [hn] at hP;cases hP
 | some pr1=>
 rw [hn,Option.bind_some] at hP;refine ⟨⟨_,Tryz.func53,rfl,rfl⟩,fun H w vs hv hA _ _ _=>?_⟩;simp only [RepsV] at hv;obtain ⟨u1,_,rfl,g1,u2,_,rfl,g2,rfl⟩:=hv;obtain ⟨us1,rfl,r1⟩:=KdG g1;obtain ⟨us2,rfl,r2⟩:=KdG g2;simp only [Reps] at r1 r2;obtain ⟨p0,_,rfl,q0,p1,_,rfl,q1,rfl⟩:=r1;obtain ⟨f0,_,rfl,k0,f1,_,rfl,k1,f2,_,rfl,k2,f3,_,rfl,k3,f4,_,rfl,k4,rfl⟩:=r2;have lst1:∀ {kk:Nat} {xs:List D} {u:Value},RepC H (.lst kk xs .no) [u]→∃ a n m,u=.slice a n m:=fun {kk xs u} h=>by
  simp only [RepC] at h;obtain ⟨y,e,_,h⟩:=h;simp only [List.cons.injEq,and_true] at e;subst e;rcases h with ⟨_,a,m,e,_⟩|⟨b,off,m,e,_⟩
  ·exact ⟨_,_,_,e⟩
  exact ⟨_,_,_,e⟩
 obtain ⟨pa,pn,pm,rfl⟩:=lst1 q0.1;obtain ⟨qa,qn,qm,rfl⟩:=lst1 q1.1;obtain ⟨ra,rn,rm,rfl⟩:=lst1 k1.1;obtain ⟨sa,sn,sm,rfl⟩:=lst1 k2.1;obtain ⟨ta,tn,tm,rfl⟩:=lst1 k3.1;obtain rfl:f0=.string f.gName:=by simpa [RepC] using k0.1
 obtain rfl:f4=.int .i64 f.gAt:=by simpa [RepC] using k4.1
 suffices hs:Calls Tryz.prog 53 #[.agg #[(.slice pa pn pm),(.slice qa qn qm)],.agg #[(.string f.gName),(.slice ra rn rm),(.slice sa sn sm),(.slice ta tn tm),(.int .i64 f.gAt)]] w fun e w'=>e=.returned (.tuple #[.int .i64 (wr pr).1,.int .i64 (wr pr).2])∧Below w.heap.size w w' from
  hs.mono fun e w' ⟨he,hb⟩=>⟨_,H,.tup [.v (.int .i64 (wr pr).1),.v (.int .i64 (wr pr).2)],[],[],he,⟨by simp only [Value.cells,RepC];exact ⟨[.int .i64 (wr pr).1,.int .i64 (wr pr).2],rfl,by simp only [RepsV];exact ⟨_,_,rfl,rep_v rfl,_,_,rfl,rep_v rfl,rfl⟩⟩,rfl⟩,Kln hA hb,rfl,rfl,rfl⟩
 obtain ⟨W2,hW2⟩:∃ W2,W2=(w.alloc (.cells #[(.slice pa pn pm),(.slice qa qn qm)] 28)).alloc (.cells #[(.string f.gName),(.slice ra rn rm),(.slice sa sn sm),(.slice ta tn tm),(.int .i64 f.gAt)] 52):=⟨_,rfl⟩;have hb2:Below w.heap.size w W2:=by rw [hW2];exact ((Below.refl _ w).alloc (Nat.le_refl _) _).alloc (by simp) _
 have hs2:W2.heap.size=w.heap.size+2:=by rw [hW2];simp
 have hx1:W2.heap[w.heap.size]? = some (.cells #[(.slice pa pn pm),(.slice qa qn qm)] 28 (0,0)):=by rw [hW2,Kbe,if_neg (by simp),Kbe,if_pos rfl]
 have hx2:W2.heap[w.heap.size+1]? = some (.cells #[(.string f.gName),(.slice ra rn rm),(.slice sa sn sm),(.slice ta tn tm),(.int .i64 f.gAt)] 52 (0,0)):=by rw [hW2,Kbe,if_pos (by simp)]
 have o0:=q0.2.1;have o1:=q1.2.1;have sc:∀ {u:Value},one u=true→u.cells.toList=[u]:=fun {u} h=>by cases u<;>simp [one] at h<;>rfl
 have hrep:Rep H (K5 ⟨p,f⟩) (.agg #[(.slice pa pn pm),(.slice qa qn qm),(.string f.gName),(.slice ra rn rm),(.slice sa sn sm),(.slice ta tn tm),(.int .i64 f.gAt)]):=Kjv (us:=[(.slice pa pn pm),(.slice qa qn qm),(.string f.gName),(.slice ra rn rm),(.slice sa sn sm),(.slice ta tn tm),(.int .i64 f.gAt)]) (by
  simp only [Reps];exact ⟨_,_,rfl,q0,_,_,rfl,q1,_,_,rfl,k0,_,_,rfl,k1,_,_,rfl,k2,_,_,rfl,k3,_,_,rfl,k4,rfl⟩)
 have rb:Rep H (.lst 7 (f.gBody.map Ki) .no) (.slice ta tn tm):=Ka5 k3.1 k3.2.1 rfl;have fn1:∀ W:World,W2.heap.size≤W.heap.size→Below W2.heap.size W2 W→Calls Tryz.prog 72 #[.pointer (some ⟨w.heap.size,0,none⟩),.pointer (some ⟨w.heap.size+1,0,none⟩)] W fun e w'=>e=oc pr∧Below W.heap.size W w':=by
  intro W hsz hb;have hy1:=(hb.block _ (by omega)).trans hx1;have hy2:=(hb.block _ (by omega)).trans hx2;have x0:W.cell? ⟨w.heap.size,0,none⟩=some (.slice pa pn pm):=by simp [World.cell?,hy1]
  have x1:W.cell? ⟨w.heap.size,1,none⟩=some (.slice qa qn qm):=by simp [World.cell?,hy1]
  have y0:W.cell? ⟨w.heap.size+1,0,none⟩=some (.string f.gName):=by simp [World.cell?,hy2]
  have y1:W.cell? ⟨w.heap.size+1,1,none⟩=some (.slice ra rn rm):=by simp [World.cell?,hy2]
  have y2:W.cell? ⟨w.heap.size+1,2,none⟩=some (.slice sa sn sm):=by simp [World.cell?,hy2]
  have y3:W.cell? ⟨w.heap.size+1,3,none⟩=some (.slice ta tn tm):=by simp [World.cell?,hy2]
  have y4:W.cell? ⟨w.heap.size+1,4,none⟩=some (.int .i64 f.gAt):=by simp [World.cell?,hy2]
  go_enter Tryz.func72,Tryz.ntmps72
  have hAW:Ag H W:=Go.Proofs.YtipfljkjjddapaaGreat.Ag.below hA (hb2.trans (hb.mono hb2.size));generalize hWa:W.alloc (.cells #[.slice pa pn pm,.slice qa qn qm,.string f.gName,.slice ra rn rm,.slice sa sn sm,.slice ta tn tm,.int .i64 f.gAt] 137)=Wa;have hba:Below W.heap.size W Wa:=by rw [← hWa];exact (Below.refl _ _).alloc (Nat.le_refl _) _
  have hsa:W.heap.size < Wa.heap.size:=by rw [← hWa];simp
  have hxa:Wa.heap[W.heap.size]? = some (.cells #[.slice pa pn pm,.slice qa qn qm,.string f.gName,.slice ra rn rm,.slice sa sn sm,.slice ta tn tm,.int .i64 f.gAt] 137 (0,0)):=by rw [← hWa,Kbe,if_pos rfl]
  have hAa:Ag H Wa:=Go.Proofs.YtipfljkjjddapaaGreat.Ag.below hAW hba;have hn1:=u_callsP (us:=#[.agg #[.slice pa pn pm,.slice qa qn qm,.string f.gName,.slice ra rn rm,.slice sa sn sm,.slice ta tn tm,.int .i64 f.gAt]]) (Kkh ⟨p,f⟩ pr1 hn) hAa (by simp only [RepsV];exact ⟨_,_,rfl,hrep,rfl⟩);have d0:Wa.cell? ⟨W.heap.size,0,none⟩=some (.slice pa pn pm):=by simp [World.cell?,hxa]
  have d1:Wa.cell? ⟨W.heap.size,1,none⟩=some (.slice qa qn qm):=by simp [World.cell?,hxa]
  have d2:Wa.cell? ⟨W.heap.size,2,none⟩=some (.string f.gName):=by simp [World.cell?,hxa]
  have d3:Wa.cell? ⟨W.heap.size,3,none⟩=some (.slice ra rn rm):=by simp [World.cell?,hxa]
  have d4:Wa.cell? ⟨W.heap.size,4,none⟩=some (.slice sa sn sm):=by simp [World.cell?,hxa]
  have d5:Wa.cell? ⟨W.heap.size,5,none⟩=some (.slice ta tn tm):=by simp [World.cell?,hxa]
  have d6:Wa.cell? ⟨W.heap.size,6,none⟩=some (.int .i64 f.gAt):=by simp [World.cell?,hxa]
  go_wp2_with fail
  refine hn1.mono ?_;rintro e w5 ⟨rfl,h5⟩;cases pr1 with
  |
   inl pe=>
   simp only [Sum.elim_inl,Option.some.injEq] at hP;subst hP;exact ⟨rfl,rfl,hba.trans (h5.mono hba.size)⟩
  | inr u1=>
  simp only [Sum.elim_inr] at hP;simp only [oc];clear hWa x0 x1 y0 y1 y2 y3 y4 d0 d1 d2 d3 d4 d5 d6;have hxb:=(h5.block _ hsa).trans hxa;have hba5:Below W.heap.size W w5:=hba.trans (h5.mono hba.size);have hyc:=(hba5.block _ (by omega)).trans hy2;have e0:w5.cell? ⟨W.heap.size,0,none⟩=some (.slice pa pn pm):=by simp [World.cell?,hxb]
  have e1:w5.cell? ⟨W.heap.size,1,none⟩=some (.slice qa qn qm):=by simp [World.cell?,hxb]
  have e2:w5.cell? ⟨W.heap.size,2,none⟩=some (.string f.gName):=by simp [World.cell?,hxb]
  have e3:w5.cell? ⟨W.heap.size,3,none⟩=some (.slice ra rn rm):=by simp [World.cell?,hxb]
  have e4:w5.cell? ⟨W.heap.size,4,none⟩=some (.slice sa sn sm):=by simp [World.cell?,hxb]
  have e5:w5.cell? ⟨W.heap.size,5,none⟩=some (.slice ta tn tm):=by simp [World.cell?,hxb]
  have e6:w5.cell? ⟨W.heap.size,6,none⟩=some (.int .i64 f.gAt):=by simp [World.cell?,hxb]
  have e7:w5.cell? ⟨w.heap.size+1,3,none⟩=some (.slice ta tn tm):=by simp [World.cell?,hyc]
  have hA5:Ag H w5:=Go.Proofs.YtipfljkjjddapaaGreat.Ag.below hAa h5;have hn2:=u_callsP (us:=#[.agg #[.slice pa pn pm,.slice qa qn qm,.string f.gName,.slice ra rn rm,.slice sa sn sm,.slice ta tn tm,.int .i64 f.gAt],.slice ta tn tm]) (Kki ⟨p,f⟩ f.gBody pr hP) hA5 (by simp only [RepsV];exact ⟨_,_,rfl,hrep,_,_,rfl,rb,rfl⟩);go_wp2_with fail;refine hn2.mono ?_;rintro e w6 ⟨rfl,h6⟩;cases pr with
  | inl pe=>exact ⟨rfl,rfl,hba5.trans (h6.mono hba5.size)⟩
  |
   inr u2=>
   simp only [oc];go_wp2;go_end0;exact ⟨rfl,hba5.trans (h6.mono hba5.size)⟩
 have hmf:∀ (fn:Fn) (first cap:Array Value) (w:World),(Instr.makeFunc fn first cap).run Tryz.prog w=.ok (.func fn first cap) w:=fun _ _ _ _=>rfl
 have htry:=try_calls #[.pointer (some ⟨w.heap.size,0,none⟩),.pointer (some ⟨w.heap.size+1,0,none⟩)] W2 pr (by
  have:=fn1 (W2.alloc (.cells #[.int .i64 0,.int .i64 0] 134)) (by simp) ((Below.refl _ _).alloc (Nat.le_refl _) _);simpa using this)
 go_enter Tryz.func53,Tryz.ntmps53
 go_wp2_with fail
 rw [← hW2];refine htry.mono ?_;rintro e w7 ⟨rfl,h7⟩;go_wp2_with fail;go_region;all_goals
  go_wp2
  go_ret2
  exact ⟨rfl,hb2.trans ((h7.trans (Knu h7.size (Below.refl _ w7)).drew).mono hb2.size)⟩
end
end Go.Proofs.YtipfljkjjddapaaGreat.Ab
end
