/- Long multiplication, place by place: plain facts on lists. -/
import Derived.Test.YtmnabilgpndjmaaDoorMath
set_option linter.unusedVariables false
set_option linter.unusedSimpArgs false
namespace Go.Proofs.YtmnabilgpndjmaaDoor

theorem mul_bound {x z o c B : Int} (hB : B = 4294967296) (hx0 : 0 ≤ x) (hx1 : x < B) (hz0 : 0 ≤ z) (hz1 : z < B) (ho0 : 0 ≤ o) (ho1 : o < B) (hc0 : 0 ≤ c) (hc1 : c < B) :
    0 ≤ x * z ∧ x * z ≤ 18446744065119617025 ∧ 0 ≤ c + (x * z + o) ∧ c + (x * z + o) < 18446744073709551616 := by
  have h1 := Int.mul_nonneg hx0 hz0
  have h2 : x * z ≤ 4294967295 * 4294967295 := Int.mul_le_mul (by omega) (by omega) hz0 (by omega)
  omega

theorem mul_step (B : Int) (ys : List Int) (p : Nat) (hp : p < ys.length) (T c t : Int) (hT : T = c + (t + ys[p]?.getD 0)) :
    val B (ys.set p (T % B)) + (T / B) * B ^ (p + 1) = val B ys + c * B ^ p + t * B ^ p := by
  rw [val_set B ys p _ hp, Int.pow_succ]
  have h := Int.emod_add_mul_ediv T B
  generalize ys[p]?.getD 0 = o at *
  generalize T / B = q at *
  generalize T % B = r at *
  generalize B ^ p = P at *
  have : T = c + (t + o) := hT
  have e : r = c + t + o - B * q := by omega
  subst e
  grind

/-- The inner loop's sum after k places, and after one more. -/
theorem mul_inner (B V0 x : Int) (zs ys ys' : List Int) (i k : Nat) (hk : k < zs.length) (c c' : Int)
    (E : val B ys + c * B ^ (i + k) = V0 + x * B ^ i * val B (zs.take k))
    (S : val B ys' + c' * B ^ (i + k + 1) = val B ys + c * B ^ (i + k) + x * zs[k]?.getD 0 * B ^ (i + k)) :
    val B ys' + c' * B ^ (i + (k + 1)) = V0 + x * B ^ i * val B (zs.take (k + 1)) := by
  rw [val_take_succ B zs k hk, show i + (k + 1) = i + k + 1 from rfl, S, E, Int.pow_add]
  generalize zs[k]?.getD 0 = z
  generalize B ^ i = P
  generalize B ^ k = Q
  grind

theorem mul_outer (B : Int) (xs zs ys : List Int) (i n : Nat) (hi : i < xs.length) (hn : n = zs.length) (hp : i + n < ys.length) (c : Int) (ho : ys[i + n]?.getD 0 = 0)
    (E : val B ys + c * B ^ (i + n) = val B (xs.take i) * val B zs + xs[i]?.getD 0 * B ^ i * val B (zs.take n)) :
    val B (ys.set (i + n) c) = val B (xs.take (i + 1)) * val B zs := by
  rw [val_set B ys _ _ hp, ho, val_take_succ B xs i hi]
  rw [hn, List.take_length] at E
  rw [hn]
  generalize xs[i]?.getD 0 = x at *
  generalize val B (xs.take i) = X at *
  generalize val B zs = Z at *
  generalize B ^ i = P at *
  generalize B ^ (i + zs.length) = Q at *
  grind
end Go.Proofs.YtmnabilgpndjmaaDoor
