/- Contracts of functions, and plain facts, part 13. -/
import Derived.Test.YtgnophflogmmaaaDoorProg
import Derived.Test.YtgnophflogmmaaaDoorPk1
import Derived.Test.YtgnophflogmmaaaDoorPk2
import Derived.Test.YtgnophflogmmaaaDoorPk4
import Derived.Test.YtgnophflogmmaaaDoorPk12
set_option linter.unusedVariables false
set_option linter.unusedSimpArgs false
/- math/bits.Add32: the sum and what is carried. -/
namespace Go.Proofs.YtgnophflogmmaaaDoor
open Go.RowKit
theorem add32_calls (x y c : Int) (w : World) (hx : 0 ≤ x ∧ x < 4294967296) (hy : 0 ≤ y ∧ y < 4294967296) (hc : 0 ≤ c ∧ c < 4294967296) :
    Calls Tryd.prog 36 #[.int .u32 x, .int .u32 y, .int .u32 c] w fun e w' => e = .returned (.tuple #[.int .u32 ((x + y + c) % 4294967296), .int .u32 ((x + y + c) / 4294967296)]) ∧ w = w' := by
  obtain ⟨hx0, hx1⟩ := hx
  obtain ⟨hy0, hy1⟩ := hy
  obtain ⟨hc0, hc1⟩ := hc
  go_enter Tryd.func36, Tryd.ntmps36
  go_wp2
  go_ret2
  exact ⟨rfl, rfl⟩
end Go.Proofs.YtgnophflogmmaaaDoor

/- nat.Add: the sum. -/
namespace Go.Proofs.YtgnophflogmmaaaDoor
open Go.RowKit

def AddR (w : World) (xs zs : List Int) (n i : Nat) (c : Int) (wr : World) : Prop :=
  ∃ ys, Blk wr w.heap.size 32 .u32 ys ∧ ys.length = n + 1 ∧ Dig 4294967296 ys ∧ Below w.heap.size w wr ∧ 0 ≤ c ∧ c ≤ 1 ∧
    val 4294967296 (ys.take i) + c * 4294967296 ^ i = val 4294967296 (xs.take i) + val 4294967296 (zs.take i)

set_option maxHeartbeats 1000000 in
/-- The longer one may stand behind the shorter one. -/
theorem add_core (sw : Bool) (xd zd : Option Addr) (n m cx cz : Nat) (xs zs : List Int) (w : World) (hn : n ≤ 70368744177663) (hm : m ≤ n) (hsw : sw = true → m < n) (hxc : n ≤ cx) (hzc : m ≤ cz)
    (hx : Rds w .u32 xd n xs) (hz : Rds w .u32 zd m zs) (dx : Dig 4294967296 xs) (dz : Dig 4294967296 zs) :
    Calls Tryd.prog 18 (if sw then #[.slice zd m cz, .slice xd n cx] else #[.slice xd n cx, .slice zd m cz]) w (RetL 32 .u32 (dg 4294967296 (val 4294967296 xs + val 4294967296 zs)) w) := by
  have HX := Lib.hid hx.len
  have HZ := Lib.hid hz.len
  have hmk := make_rule (P := Tryd.prog) 23 32 .u32 4 Tryd.underlying23 info_limb (by omega) (n + 1) (by omega) ((n : Int) + 1) (by omega)
  have hr0 : AddR w xs zs n 0 0 (w.alloc (.cells (nums .u32 (List.replicate (n + 1) 0)).toArray 32)) :=
    ⟨_, Blk.made _ _ _ _ _ rfl, by simp, Dig.replicate _ (by omega) _, (Below.refl _ _).alloc (Nat.le_refl _) _, by omega, by omega, by simp [val]⟩
  cases sw
  all_goals
    have hlt := hsw
    clear hsw
    simp only [if_true, if_false, Bool.false_eq_true]
    first
      | (have hlt2 := hlt rfl; clear hlt)
      | (have hlt2 : ¬ n < m := by omega)
    go_enter Tryd.func18, Tryd.ntmps18
    go_wp2
    clear hmk
    go_loopw [22, 6] (fun i cy wr => ∃ k : Nat, ∃ c : Int, k ≤ n ∧ i = .int .i64 k ∧ cy = .int .u32 c ∧ AddR w xs zs n k c wr) (fun i _ _ => n - (intOf i).toNat)
    case atStart => exact ⟨0, 0, Nat.zero_le _, rfl, rfl, hr0⟩
    case round =>
      clear hr0
      obtain ⟨k, c, hk, rfl, rfl, ys, h1, h2, h3, h4, hc0, hc1, h5⟩ := hrel
      have H2 := Lib.hid h2
      have H5 := Lib.hid h5
      clear h2 h5
      by_cases hkn : k < n
      · obtain ⟨a, rfl, hxl⟩ := (hx.below h4 (Nat.le_refl _)).cell k hkn
        have hf := h1.free k
        have hy := h1.cell k (by rw [H2.out]; omega)
        have HS := Lib.hid (add_step 4294967296 xs zs ys k (by rw [H2.out]; omega) c _ rfl H5.out)
        clear H5
        have bx := dx.get (by omega) k
        have bz := dz.get (by omega) k
        by_cases hkm : k < m
        · obtain ⟨b, rfl, hzl⟩ := (hz.below h4 (Nat.le_refl _)).cell k hkm
          have ha := Lib.hid (add32_calls (xs[k]?.getD 0) (zs[k]?.getD 0) c wr bx bz (by omega))
          generalize xs[k]?.getD 0 = x at *
          generalize zs[k]?.getD 0 = z at *
          go_wp2_with fail
          refine (ha.out).mono ?_
          rintro e w' ⟨rfl, rfl⟩
          clear ha
          go_wp2
          go_roundw
          case rel => exact ⟨k + 1, _, by omega, by go_num, rfl, _, h1.set k _, by simp [H2.out], h3.set (by omega) (by omega) _, below_set h4 _ _ _ (Nat.le_refl _), by omega, by omega, HS.out⟩
          case measure => simp [intOf]; omega
        · have hz0 : zs[k]?.getD 0 = 0 := by rw [List.getElem?_eq_none (by rw [HZ.out]; omega)]; rfl
          have ha := Lib.hid (add32_calls (xs[k]?.getD 0) 0 c wr bx (by omega) (by omega))
          rw [hz0, Int.add_zero] at HS
          clear hz0 bz
          generalize xs[k]?.getD 0 = x at *
          go_wp2_with fail
          refine (ha.out).mono ?_
          rintro e w' ⟨rfl, rfl⟩
          clear ha
          go_wp2
          go_roundw
          case rel => exact ⟨k + 1, _, by omega, by go_num, rfl, _, h1.set k _, by simp [H2.out], h3.set (by omega) (by omega) _, below_set h4 _ _ _ (Nat.le_refl _), by omega, by omega, HS.out⟩
          case measure => simp [intOf]; omega
      · obtain rfl : k = n := by omega
        have hf := h1.free k
        have hy := h1.cell k (by rw [H2.out]; omega)
        have k2 := h1.set k c
        have b2 := below_set h4 w.heap.size k (.int .u32 c) (Nat.le_refl _)
        have d2 := h3.set hc0 (show c < 4294967296 by omega) k
        have HV := Lib.hid (add_end 4294967296 xs zs ys k HX.out (by rw [HZ.out]; exact hm) H2.out c H5.out)
        have hcut := Lib.hid (cut_calls (some ⟨w.heap.size, 0, none⟩) (k + 1) (k + 1) _ _ (by omega) (Nat.le_refl _) (by have := k2.rds; rwa [List.length_set, H2.out] at this))
        have R := Lib.hid (k2.ret (Nat.le_refl _) (by rw [List.length_set, H2.out]; omega) d2 _ HV.out b2)
        go_wp2_with fail
        refine (hcut.out).mono ?_
        rintro e w' ⟨rfl, rfl⟩
        go_wp2_with fail
        go_ret
        exact R.out

theorem add_calls (ad bd : Option Addr) (na nb ca cb : Nat) (la lb : List Int) (w : World) (hna : na ≤ 70368744177663) (hnb : nb ≤ 70368744177663) (hac : na ≤ ca) (hbc : nb ≤ cb)
    (ha : Rds w .u32 ad na la) (hb : Rds w .u32 bd nb lb) (da : Dig 4294967296 la) (db : Dig 4294967296 lb) :
    Calls Tryd.prog 18 #[.slice ad na ca, .slice bd nb cb] w (RetL 32 .u32 (dg 4294967296 (val 4294967296 la + val 4294967296 lb)) w) := by
  by_cases h : na < nb
  · rw [Int.add_comm]
    exact add_core true bd ad nb na cb ca lb la w hnb (by omega) (fun _ => h) hbc hac hb ha db da
  · exact add_core false ad bd na nb ca cb la lb w hna (by omega) (fun h => by cases h) hac hbc ha hb da db
end Go.Proofs.YtgnophflogmmaaaDoor

/- Add by worth alone. -/
namespace Go.Proofs.YtgnophflogmmaaaDoor
open Go.RowKit

theorem num_add (ad bd : Option Addr) (n m c d : Nat) (V U : Int) (w : World) (h : Num w ad n c V) (k : Num w bd m d U) (hn : n ≤ 70368744177663) (hm : m ≤ 70368744177663) :
    Calls Tryd.prog 18 #[.slice ad n c, .slice bd m d] w (RetC (V + U) w) := by
  obtain ⟨xs, h1, h2, rfl⟩ := h.row
  obtain ⟨zs, k1, k2, rfl⟩ := k.row
  exact (add_calls ad bd n m c d xs zs w (by omega) (by omega) h.le k.le h1 k1 h2 k2).mono fun e w' q => q.can
end Go.Proofs.YtgnophflogmmaaaDoor

/- The greatest common divisor: plain. -/
namespace Go.Proofs.YtgnophflogmmaaaDoor

theorem gcdI_pos (V U : Int) (hV : 0 ≤ V) (hU : 0 ≤ U) (h : V ≠ 0 ∨ U ≠ 0) : 0 < gcdI V U := by
  unfold gcdI
  have : 0 < Nat.gcd V.toNat U.toNat := by
    rcases h with h | h
    · exact Nat.gcd_pos_of_pos_left _ (by omega)
    · exact Nat.gcd_pos_of_pos_right _ (by omega)
  omega
theorem gcdI_comm (V U : Int) : gcdI V U = gcdI U V := by unfold gcdI; rw [Nat.gcd_comm]
theorem gcdI_dvd (V U : Int) (hV : 0 ≤ V) (hU : 0 ≤ U) : V % gcdI V U = 0 ∧ U % gcdI V U = 0 := by
  obtain ⟨v, rfl⟩ := Int.eq_ofNat_of_zero_le hV
  obtain ⟨u, rfl⟩ := Int.eq_ofNat_of_zero_le hU
  unfold gcdI
  rw [Int.toNat_natCast, Int.toNat_natCast]
  exact ⟨by rw [← Int.natCast_emod]; exact congrArg Nat.cast (Nat.mod_eq_zero_of_dvd (Nat.gcd_dvd_left v u)), by rw [← Int.natCast_emod]; exact congrArg Nat.cast (Nat.mod_eq_zero_of_dvd (Nat.gcd_dvd_right v u))⟩
theorem gcdI_one (V U : Int) (hV : 0 ≤ V) (hU : 0 ≤ U) (h : V ≠ 0 ∨ U ≠ 0) : gcdI (V / gcdI V U) (U / gcdI V U) = 1 := by
  have hp := gcdI_pos V U hV hU h
  obtain ⟨v, rfl⟩ := Int.eq_ofNat_of_zero_le hV
  obtain ⟨u, rfl⟩ := Int.eq_ofNat_of_zero_le hU
  unfold gcdI at *
  rw [Int.toNat_natCast, Int.toNat_natCast] at *
  have hg : 0 < Nat.gcd v u := by omega
  rw [← Int.natCast_ediv, ← Int.natCast_ediv, Int.toNat_natCast, Int.toNat_natCast, Nat.gcd_div (Nat.gcd_dvd_left v u) (Nat.gcd_dvd_right v u), Nat.div_self hg]
  rfl
theorem gcdI_mul (V U C : Int) (hV : 0 ≤ V) (hU : 0 ≤ U) (hC : 0 ≤ C) : gcdI (V * C) (U * C) = gcdI V U * C := by
  obtain ⟨v, rfl⟩ := Int.eq_ofNat_of_zero_le hV
  obtain ⟨u, rfl⟩ := Int.eq_ofNat_of_zero_le hU
  obtain ⟨c, rfl⟩ := Int.eq_ofNat_of_zero_le hC
  unfold gcdI
  rw [← Int.natCast_mul, ← Int.natCast_mul, Int.toNat_natCast, Int.toNat_natCast, Int.toNat_natCast, Int.toNat_natCast, Nat.gcd_mul_right]
  simp
theorem gcdI_greatest (V U C : Int) (hV : 0 ≤ V) (hU : 0 ≤ U) (hC : 0 < C) (h1 : V % C = 0) (h2 : U % C = 0) : gcdI V U % C = 0 := by
  obtain ⟨v, rfl⟩ := Int.eq_ofNat_of_zero_le hV
  obtain ⟨u, rfl⟩ := Int.eq_ofNat_of_zero_le hU
  obtain ⟨c, rfl⟩ := Int.eq_ofNat_of_zero_le (Int.le_of_lt hC)
  unfold gcdI
  rw [Int.toNat_natCast, Int.toNat_natCast]
  have e1 : v % c = 0 := by rw [← Int.natCast_emod] at h1; omega
  have e2 : u % c = 0 := by rw [← Int.natCast_emod] at h2; omega
  rw [← Int.natCast_emod]
  exact congrArg Nat.cast (Nat.mod_eq_zero_of_dvd (Nat.dvd_gcd (Nat.dvd_of_mod_eq_zero e1) (Nat.dvd_of_mod_eq_zero e2)))
theorem gcdI_le (V U : Int) (hV : 0 ≤ V) (hU : 0 ≤ U) : (V ≠ 0 → gcdI V U ≤ V) ∧ (U ≠ 0 → gcdI V U ≤ U) := by
  unfold gcdI
  constructor
  · intro h
    have := Nat.gcd_le_left U.toNat (show 0 < V.toNat by omega)
    omega
  · intro h
    have := Nat.gcd_le_right V.toNat (show 0 < U.toNat by omega)
    omega
theorem gcdI_lt (V U : Int) (hV : 0 ≤ V) (hU : 0 ≤ U) (B C : Int) (h1 : V < B) (h2 : U < C) (hB : 0 < B) (hC : 0 < C) : gcdI V U < B ∨ gcdI V U < C := by
  obtain ⟨k1, k2⟩ := gcdI_le V U hV hU
  by_cases h : V = 0
  · by_cases h' : U = 0
    · left
      rw [h, h', gcdI_zero 0 (by omega)]
      exact hB
    · right
      have := k2 h'
      omega
  · left
    have := k1 h
    omega
theorem bitsOf_zero : bitsOf 0 = 0 := rfl
theorem bitsOf_pos (V : Int) (h : 0 < V) : 0 < bitsOf V := by
  unfold bitsOf
  have := blen_pos V.toNat (by omega)
  omega
theorem back_sum (V U : Int) (hU : 0 < U) : V / U * U + remI V U = V := by
  rw [remI_eq _ _ (by omega)]
  have := Int.emod_add_mul_ediv V U
  rw [Int.mul_comm] at this
  omega
theorem back_again (C U R : Int) (hU : 0 < U) (h0 : 0 ≤ R) (h1 : R < U) : (C * U + R) / U = C ∧ remI (C * U + R) U = R := by
  rw [remI_eq _ _ (by omega), Int.add_comm, Int.add_mul_ediv_right _ _ (by omega), Int.ediv_eq_zero_of_lt h0 h1, Int.zero_add, Int.add_mul_emod_self_right, Int.emod_eq_of_lt h0 h1]
  exact ⟨rfl, rfl⟩
theorem back_lt (C U R : Int) (n m : Nat) (hC : 0 ≤ C) (hU : 0 ≤ U) (hC1 : C < 4294967296 ^ n) (hU1 : U < 4294967296 ^ m) (h1 : R < U) : C * U + R < 4294967296 ^ (n + m) := by
  have e : (C + 1) * U ≤ 4294967296 ^ n * U := Int.mul_le_mul_of_nonneg_right (by omega) hU
  have e2 : (4294967296 : Int) ^ n * U ≤ 4294967296 ^ n * 4294967296 ^ m := Int.mul_le_mul_of_nonneg_left (by omega) (Int.le_of_lt (Int.pow_pos (by omega)))
  rw [Int.add_mul, Int.one_mul] at e
  rw [Int.pow_add]
  omega
end Go.Proofs.YtgnophflogmmaaaDoor
