/- Plain facts on words and on numbers of two words. -/
import Derived.RowKit
import Derived.Below
import Derived.IntWalk
namespace Go.Proofs.Ytebnbajjenpldaa
open Go Go.RowKit
set_option linter.all false

/-- The number that two words stand for. -/
def V (h l : Int) : Int := h * 18446744073709551616 + l
/-- A number's upper and lower word. -/
def hiW (n : Int) : Int := wrap64 (n / 18446744073709551616)
def loW (n : Int) : Int := n % 18446744073709551616
/-- Two words. -/
def Ok2 (h l : Int) : Prop := -9223372036854775808 ≤ h ∧ h < 9223372036854775808 ∧ 0 ≤ l ∧ l < 18446744073709551616
def I64 (n : Int) : Prop := -9223372036854775808 ≤ n ∧ n < 9223372036854775808

theorem wrap64_def (n : Int) : wrap64 n = (n + 9223372036854775808) % 18446744073709551616 - 9223372036854775808 := by unfold wrap64; omega
theorem wrap64_range (n : Int) : -9223372036854775808 ≤ wrap64 n ∧ wrap64 n < 9223372036854775808 := by rw [wrap64_def]; omega
theorem wrap64_id {n : Int} (h : I64 n) : wrap64 n = n := by unfold I64 at h; rw [wrap64_def]; omega
theorem ok2 (n : Int) : Ok2 (hiW n) (loW n) := by
  unfold Ok2 hiW loW
  have := wrap64_range (n / 18446744073709551616)
  refine ⟨this.1, this.2, ?_, ?_⟩ <;> omega
theorem hiW_V {h l : Int} (k : Ok2 h l) : hiW (V h l) = h := by
  unfold Ok2 at k; unfold hiW V
  have e : (h * 18446744073709551616 + l) / 18446744073709551616 = h := by omega
  rw [e, wrap64_id ⟨k.1, k.2.1⟩]
theorem loW_V {h l : Int} (k : Ok2 h l) : loW (V h l) = l := by unfold Ok2 at k; unfold loW V; omega
/-- What the words of n stand for. -/
theorem V_W (n : Int) : V (hiW n) (loW n) = (n + 170141183460469231731687303715884105728) % 340282366920938463463374607431768211456 - 170141183460469231731687303715884105728 := by
  unfold V hiW loW; rw [wrap64_def]; omega
theorem V_W_id {n : Int} (h : -170141183460469231731687303715884105728 ≤ n) (h' : n < 170141183460469231731687303715884105728) : V (hiW n) (loW n) = n := by rw [V_W]; omega
theorem hiW_congr {n m : Int} (h : n % 340282366920938463463374607431768211456 = m % 340282366920938463463374607431768211456) : hiW n = hiW m := by
  unfold hiW; rw [wrap64_def, wrap64_def]; omega
theorem loW_congr {n m : Int} (h : n % 340282366920938463463374607431768211456 = m % 340282366920938463463374607431768211456) : loW n = loW m := by unfold loW; omega
theorem V_range {h l : Int} (k : Ok2 h l) : -170141183460469231731687303715884105728 ≤ V h l ∧ V h l < 170141183460469231731687303715884105728 := by unfold Ok2 at k; unfold V; omega
theorem V_inj {h l h' l' : Int} (k : Ok2 h l) (k' : Ok2 h' l') (e : V h l = V h' l') : h = h' ∧ l = l' := by
  unfold Ok2 at k k'; unfold V at e; omega
/-- An int's words. -/
theorem hiW_int {n : Int} (h : I64 n) : hiW n = if n < 0 then -1 else 0 := by
  unfold I64 at h; unfold hiW; rw [wrap64_def]; split <;> omega

/-- Digits of 16 bits. -/
def dv (a b c d : Int) : Int := ((d * 65536 + c) * 65536 + b) * 65536 + a
def Dig (x : Int) : Prop := 0 ≤ x ∧ x < 65536

/-- A sum, digit by digit. -/
theorem carry4 (x0 x1 x2 x3 y0 y1 y2 y3 c : Int) (hx0 : Dig x0) (hx1 : Dig x1) (hx2 : Dig x2) (hx3 : Dig x3) (hy0 : Dig y0) (hy1 : Dig y1) (hy2 : Dig y2) (hy3 : Dig y3) (hc : 0 ≤ c ∧ c ≤ 1)
    (c1 c2 c3 c4 : Int) (e1 : c1 = (x0 + y0 + c) / 65536) (e2 : c2 = (x1 + y1 + c1) / 65536) (e3 : c3 = (x2 + y2 + c2) / 65536) (e4 : c4 = (x3 + y3 + c3) / 65536) :
    dv ((x0 + y0 + c) % 65536) ((x1 + y1 + c1) % 65536) ((x2 + y2 + c2) % 65536) ((x3 + y3 + c3) % 65536) = (dv x0 x1 x2 x3 + dv y0 y1 y2 y3 + c) % 18446744073709551616 ∧ c4 = (dv x0 x1 x2 x3 + dv y0 y1 y2 y3 + c) / 18446744073709551616 ∧ 0 ≤ c4 ∧ c4 ≤ 1 := by
  unfold Dig at *
  have b1 : 0 ≤ c1 ∧ c1 ≤ 1 := by omega
  have b2 : 0 ≤ c2 ∧ c2 ≤ 1 := by omega
  have b3 : 0 ≤ c3 ∧ c3 ≤ 1 := by omega
  have b4 : 0 ≤ c4 ∧ c4 ≤ 1 := by omega
  have s1 : (x0 + y0 + c) % 65536 = x0 + y0 + c - 65536 * c1 := by omega
  have s2 : (x1 + y1 + c1) % 65536 = x1 + y1 + c1 - 65536 * c2 := by omega
  have s3 : (x2 + y2 + c2) % 65536 = x2 + y2 + c2 - 65536 * c3 := by omega
  have s4 : (x3 + y3 + c3) % 65536 = x3 + y3 + c3 - 65536 * c4 := by omega
  have r1 : 0 ≤ (x0 + y0 + c) % 65536 ∧ (x0 + y0 + c) % 65536 < 65536 := by omega
  have r2 : 0 ≤ (x1 + y1 + c1) % 65536 ∧ (x1 + y1 + c1) % 65536 < 65536 := by omega
  have r3 : 0 ≤ (x2 + y2 + c2) % 65536 ∧ (x2 + y2 + c2) % 65536 < 65536 := by omega
  have r4 : 0 ≤ (x3 + y3 + c3) % 65536 ∧ (x3 + y3 + c3) % 65536 < 65536 := by omega
  generalize (x0 + y0 + c) % 65536 = q1 at *
  generalize (x1 + y1 + c1) % 65536 = q2 at *
  generalize (x2 + y2 + c2) % 65536 = q3 at *
  generalize (x3 + y3 + c3) % 65536 = q4 at *
  clear e1 e2 e3 e4
  have key : dv x0 x1 x2 x3 + dv y0 y1 y2 y3 + c = dv q1 q2 q3 q4 + 18446744073709551616 * c4 := by unfold dv; omega
  have lo : 0 ≤ dv q1 q2 q3 q4 ∧ dv q1 q2 q3 q4 < 18446744073709551616 := by unfold dv; omega
  refine ⟨by omega, by omega, b4.1, b4.2⟩
theorem dv_digits (l : Int) (h0 : 0 ≤ l) (h1 : l < 18446744073709551616) : dv (l % 65536) (l / 65536 % 65536) (l / 65536 / 65536 % 65536) (l / 65536 / 65536 / 65536 % 65536) = l := by unfold dv; omega
end Go.Proofs.Ytebnbajjenpldaa
