/- Contracts of functions, and plain facts, part 13. -/
import Derived.Test.YtgnophflogmmaaaDoorPk9
import Derived.Test.YtgnophflogmmaaaDoorPk12
set_option linter.unusedVariables false
set_option linter.unusedSimpArgs false
/- The greatest common divisor: plain. -/
namespace Go.Proofs.YtgnophflogmmaaaDoor

theorem gcdI_pos (V U : Int) (hV : 0 ≤ V) (hU : 0 ≤ U) (h : V ≠ 0 ∨ U ≠ 0) : 0 < gcdI V U := by
  unfold gcdI
  have : 0 < Nat.gcd V.toNat U.toNat := by
    rcases h with h | h
    · exact Nat.gcd_pos_of_pos_left _ (by omega)
    · exact Nat.gcd_pos_of_pos_right _ (by omega)
  omega
theorem gcdI_comm (V U : Int) : gcdI V U = gcdI U V := by unfold gcdI; rw [Nat.gcd_comm]
theorem gcdI_dvd (V U : Int) (hV : 0 ≤ V) (hU : 0 ≤ U) : V % gcdI V U = 0 ∧ U % gcdI V U = 0 := by
  obtain ⟨v, rfl⟩ := Int.eq_ofNat_of_zero_le hV
  obtain ⟨u, rfl⟩ := Int.eq_ofNat_of_zero_le hU
  unfold gcdI
  rw [Int.toNat_natCast, Int.toNat_natCast]
  exact ⟨by rw [← Int.natCast_emod]; exact congrArg Nat.cast (Nat.mod_eq_zero_of_dvd (Nat.gcd_dvd_left v u)), by rw [← Int.natCast_emod]; exact congrArg Nat.cast (Nat.mod_eq_zero_of_dvd (Nat.gcd_dvd_right v u))⟩
theorem gcdI_one (V U : Int) (hV : 0 ≤ V) (hU : 0 ≤ U) (h : V ≠ 0 ∨ U ≠ 0) : gcdI (V / gcdI V U) (U / gcdI V U) = 1 := by
  have hp := gcdI_pos V U hV hU h
  obtain ⟨v, rfl⟩ := Int.eq_ofNat_of_zero_le hV
  obtain ⟨u, rfl⟩ := Int.eq_ofNat_of_zero_le hU
  unfold gcdI at *
  rw [Int.toNat_natCast, Int.toNat_natCast] at *
  have hg : 0 < Nat.gcd v u := by omega
  rw [← Int.natCast_ediv, ← Int.natCast_ediv, Int.toNat_natCast, Int.toNat_natCast, Nat.gcd_div (Nat.gcd_dvd_left v u) (Nat.gcd_dvd_right v u), Nat.div_self hg]
  rfl
theorem gcdI_mul (V U C : Int) (hV : 0 ≤ V) (hU : 0 ≤ U) (hC : 0 ≤ C) : gcdI (V * C) (U * C) = gcdI V U * C := by
  obtain ⟨v, rfl⟩ := Int.eq_ofNat_of_zero_le hV
  obtain ⟨u, rfl⟩ := Int.eq_ofNat_of_zero_le hU
  obtain ⟨c, rfl⟩ := Int.eq_ofNat_of_zero_le hC
  unfold gcdI
  rw [← Int.natCast_mul, ← Int.natCast_mul, Int.toNat_natCast, Int.toNat_natCast, Int.toNat_natCast, Int.toNat_natCast, Nat.gcd_mul_right]
  simp
theorem gcdI_greatest (V U C : Int) (hV : 0 ≤ V) (hU : 0 ≤ U) (hC : 0 < C) (h1 : V % C = 0) (h2 : U % C = 0) : gcdI V U % C = 0 := by
  obtain ⟨v, rfl⟩ := Int.eq_ofNat_of_zero_le hV
  obtain ⟨u, rfl⟩ := Int.eq_ofNat_of_zero_le hU
  obtain ⟨c, rfl⟩ := Int.eq_ofNat_of_zero_le (Int.le_of_lt hC)
  unfold gcdI
  rw [Int.toNat_natCast, Int.toNat_natCast]
  have e1 : v % c = 0 := by rw [← Int.natCast_emod] at h1; omega
  have e2 : u % c = 0 := by rw [← Int.natCast_emod] at h2; omega
  rw [← Int.natCast_emod]
  exact congrArg Nat.cast (Nat.mod_eq_zero_of_dvd (Nat.dvd_gcd (Nat.dvd_of_mod_eq_zero e1) (Nat.dvd_of_mod_eq_zero e2)))
theorem gcdI_le (V U : Int) (hV : 0 ≤ V) (hU : 0 ≤ U) : (V ≠ 0 → gcdI V U ≤ V) ∧ (U ≠ 0 → gcdI V U ≤ U) := by
  unfold gcdI
  constructor
  · intro h
    have := Nat.gcd_le_left U.toNat (show 0 < V.toNat by omega)
    omega
  · intro h
    have := Nat.gcd_le_right V.toNat (show 0 < U.toNat by omega)
    omega
theorem gcdI_lt (V U : Int) (hV : 0 ≤ V) (hU : 0 ≤ U) (B C : Int) (h1 : V < B) (h2 : U < C) (hB : 0 < B) (hC : 0 < C) : gcdI V U < B ∨ gcdI V U < C := by
  obtain ⟨k1, k2⟩ := gcdI_le V U hV hU
  by_cases h : V = 0
  · by_cases h' : U = 0
    · left
      rw [h, h', gcdI_zero 0 (by omega)]
      exact hB
    · right
      have := k2 h'
      omega
  · left
    have := k1 h
    omega
theorem bitsOf_zero : bitsOf 0 = 0 := rfl
theorem bitsOf_pos (V : Int) (h : 0 < V) : 0 < bitsOf V := by
  unfold bitsOf
  have := blen_pos V.toNat (by omega)
  omega
theorem back_sum (V U : Int) (hU : 0 < U) : V / U * U + remI V U = V := by
  rw [remI_eq _ _ (by omega)]
  have := Int.emod_add_mul_ediv V U
  rw [Int.mul_comm] at this
  omega
theorem back_again (C U R : Int) (hU : 0 < U) (h0 : 0 ≤ R) (h1 : R < U) : (C * U + R) / U = C ∧ remI (C * U + R) U = R := by
  rw [remI_eq _ _ (by omega), Int.add_comm, Int.add_mul_ediv_right _ _ (by omega), Int.ediv_eq_zero_of_lt h0 h1, Int.zero_add, Int.add_mul_emod_self_right, Int.emod_eq_of_lt h0 h1]
  exact ⟨rfl, rfl⟩
theorem back_lt (C U R : Int) (n m : Nat) (hC : 0 ≤ C) (hU : 0 ≤ U) (hC1 : C < 4294967296 ^ n) (hU1 : U < 4294967296 ^ m) (h1 : R < U) : C * U + R < 4294967296 ^ (n + m) := by
  have e : (C + 1) * U ≤ 4294967296 ^ n * U := Int.mul_le_mul_of_nonneg_right (by omega) hU
  have e2 : (4294967296 : Int) ^ n * U ≤ 4294967296 ^ n * 4294967296 ^ m := Int.mul_le_mul_of_nonneg_left (by omega) (Int.le_of_lt (Int.pow_pos (by omega)))
  rw [Int.add_mul, Int.one_mul] at e
  rw [Int.pow_add]
  omega
end Go.Proofs.YtgnophflogmmaaaDoor

/- cruciblelaw02.lives: the chapter's first examples. (Printed by lives2.py.) -/
namespace Go.Proofs.YtgnophflogmmaaaDoor
open Go.RowKit

theorem gcd_lit : gcdI 12 18 = 6 := by decide
theorem pow_lit : powNum 10 3 = 1000 ∧ powOk 10 3 = true := by decide
theorem read_lit : readNum [52, 50, 57, 52, 57, 54, 55, 50, 57, 54] = 4294967296 ∧ readOk [52, 50, 57, 52, 57, 54, 55, 50, 57, 54] = true := by
  have hv : readV [52, 50, 57, 52, 57, 54, 55, 50, 57, 54] = 4294967296 := by decide
  have hok : readOk [52, 50, 57, 52, 57, 54, 55, 50, 57, 54] = true := by
    unfold readOk
    rw [hv]
    have hl : (dg 4294967296 4294967296).length ≤ 262144 := Nat.le_trans (dg_length_le 4294967296 (by omega) 2 _ (by decide)) (by omega)
    refine decide_eq_true ⟨by simp, by simp, fun c hc => ?_, hl⟩
    simp only [List.mem_cons, List.not_mem_nil, or_false] at hc
    omega
  unfold readNum
  rw [hok, if_pos rfl, hv]
  exact ⟨rfl, rfl⟩
theorem byte_lit : byteNum [0, 1, 0] = 256 ∧ byteOk [0, 1, 0] = true := by
  have hv : byteV [0, 1, 0] = 256 := by decide
  have hok : byteOk [0, 1, 0] = true := by
    unfold byteOk
    rw [hv]
    exact decide_eq_true (Nat.le_trans (dg_length_le 256 (by omega) 2 _ (by decide)) (by omega))
  unfold byteNum
  rw [hok, if_pos rfl, hv]
  exact ⟨rfl, rfl⟩
theorem dec_lit : strB (decL 7) = { data := #[55] } := by
  have : decL 7 = [55] := by
    unfold decL
    rw [if_neg (by omega), dg_pos 10 7 (by omega) (by omega), show (7 : Int) / ((10 : Nat) : Int) = 0 by decide, dg_zero]
    rfl
  rw [this]
  rfl
theorem byt_lit : strB (dg 256 65536).reverse = { data := #[1, 0, 0] } := by
  have : dg 256 65536 = [0, 0, 1] := by
    rw [dg_pos 256 65536 (by omega) (by omega), show (65536 : Int) / ((256 : Nat) : Int) = 256 by decide, dg_pos 256 256 (by omega) (by omega), show (256 : Int) / ((256 : Nat) : Int) = 1 by decide, dg_pos 256 1 (by omega) (by omega), show (1 : Int) / ((256 : Nat) : Int) = 0 by decide, dg_zero]
    rfl
  rw [this]
  rfl
theorem rb_read : bytesI { data := #[52, 50, 57, 52, 57, 54, 55, 50, 57, 54] } = [52, 50, 57, 52, 57, 54, 55, 50, 57, 54] := by rfl
theorem rb_byte : bytesI { data := #[0, 1, 0] } = [0, 1, 0] := by rfl

set_option maxHeartbeats 2000000 in
set_option maxRecDepth 20000 in
theorem lives2_calls (w : World) (hT : Tab32 w) : Calls Tryd.prog 11 #[] w (fun e w' => e = .returned (.bool true) ∧ Below w.heap.size w w') := by
  have bel := Below.refl w.heap.size w
  go_enter Tryd.func11, Tryd.ntmps11
  have x1 := num_cells w _ rfl [0, 0, 0, 1] 4 rfl (dig_lit _ (by decide)) #[.int .u32 0, .int .u32 0, .int .u32 0, .int .u32 1] rfl 79228162514264337593543950336 (by decide)
  have y1 := below_lit (w.alloc (.cells #[.int .u32 0, .int .u32 0, .int .u32 0, .int .u32 1] 32)) #[.int .u32 1, .int .u32 1] 32
  have x2 := num_cells (w.alloc (.cells #[.int .u32 0, .int .u32 0, .int .u32 0, .int .u32 1] 32)) (w.heap.size + 1) (by simp) [1, 1] 2 rfl (dig_lit _ (by decide)) #[.int .u32 1, .int .u32 1] rfl 4294967297 (by decide)
  have bl := below_trans (below_lit w #[.int .u32 0, .int .u32 0, .int .u32 0, .int .u32 1] 32) y1
  have x3 := x1.below y1 (Nat.le_refl _)
  clear y1
  have h := Lib.hid (num_div _ _ _ _ _ _ _ _ _ x3 x2 (by omega) (by omega))
  go_wp2_with fail
  with_reducible refine (h.out).mono ?_
  rintro e v1 ⟨qd, qn, qc, rd, rn, rc, rfl, fq, fr, b0⟩
  have b := below_trans bl b0
  clear b0
  clear h bl
  replace hT := hT.below b (Nat.le_refl _)
  replace bel := below_trans bel b
  clear b
  rw [show (79228162514264337593543950336 : Int) / 4294967297 = 18446744069414584320 by decide] at fq
  rw [show remI 79228162514264337593543950336 4294967297 = 4294967296 by decide] at fr
  clear x1 x2 x3
  have x1 := num_cells v1 _ rfl [7] 1 rfl (dig_lit _ (by decide)) #[.int .u32 7] rfl 7 (by decide)
  have bl := below_lit v1 #[.int .u32 7] 32
  have h := Lib.hid (num_div _ _ _ _ _ _ _ _ _ x1 (num_nil _) (by omega) (by omega))
  go_wp2_with fail
  with_reducible refine (h.out).mono ?_
  rintro e v2 ⟨ad1, n1, c1, ad2, n2, c2, rfl, f1, f2, b0⟩
  have b := below_trans bl b0
  clear b0
  clear h bl
  replace hT := hT.below b (Nat.le_refl _)
  replace fq := fq.below b (Nat.le_refl _)
  replace fr := fr.below b (Nat.le_refl _)
  replace bel := below_trans bel b
  clear b
  clear f1 f2 x1
  have bl := Below.refl v2.heap.size v2
  have h := Lib.hid ((pow_calls 10 3 v2 (by omega) (by omega) hT).mono fun e w' q => q.can)
  go_wp2_with fail
  with_reducible refine (h.out).mono ?_
  rintro e v3 ⟨pd, pn, pc, rfl, fp, b0⟩
  have b := below_trans bl b0
  clear b0
  clear h bl
  replace hT := hT.below b (Nat.le_refl _)
  replace fq := fq.below b (Nat.le_refl _)
  replace fr := fr.below b (Nat.le_refl _)
  replace bel := below_trans bel b
  clear b
  rw [pow_lit.1] at fp
  have bl := Below.refl v3.heap.size v3
  have h := Lib.hid (num_read { data := #[52, 50, 57, 52, 57, 54, 55, 50, 57, 54] } v3 (by decide))
  go_wp2_with fail
  with_reducible refine (h.out).mono ?_
  rintro e v4 ⟨nd, nn, nc, rfl, fn, b0⟩
  have b := below_trans bl b0
  clear b0
  clear h bl
  replace hT := hT.below b (Nat.le_refl _)
  replace fq := fq.below b (Nat.le_refl _)
  replace fr := fr.below b (Nat.le_refl _)
  replace fp := fp.below b (Nat.le_refl _)
  replace bel := below_trans bel b
  clear b
  rw [rb_read, read_lit.1] at fn
  have bl := Below.refl v4.heap.size v4
  have h := Lib.hid (num_fromb { data := #[0, 1, 0] } v4 (by decide))
  go_wp2_with fail
  with_reducible refine (h.out).mono ?_
  rintro e v5 ⟨md, mn, mc, rfl, fm, b0⟩
  have b := below_trans bl b0
  clear b0
  clear h bl
  replace hT := hT.below b (Nat.le_refl _)
  replace fq := fq.below b (Nat.le_refl _)
  replace fr := fr.below b (Nat.le_refl _)
  replace fp := fp.below b (Nat.le_refl _)
  replace fn := fn.below b (Nat.le_refl _)
  replace bel := below_trans bel b
  clear b
  rw [rb_byte, byte_lit.1] at fm
  have P1 := pow_lit.2
  have P2 : readOk (bytesI { data := #[52, 50, 57, 52, 57, 54, 55, 50, 57, 54] }) = true := by rw [rb_read]; exact read_lit.2
  have P3 : byteOk (bytesI { data := #[0, 1, 0] }) = true := by rw [rb_byte]; exact byte_lit.2
  have bl := below_lit v5 #[.int .u32 0, .int .u32 4294967295] 32
  have x1 := can_cells v5 _ rfl [0, 4294967295] 2 rfl (dig_lit _ (by decide)) #[.int .u32 0, .int .u32 4294967295] rfl 18446744069414584320 (by decide) (by decide)
  have x2 := fq.below bl (Nat.le_refl _)
  have h := Lib.hid (num_same_true _ _ _ _ _ _ _ _ _ x2 x1 rfl (by have := x2.len_le 2 (by decide); omega) (by omega))
  go_wp2_with fail
  with_reducible refine (h.out).mono ?_
  rintro e w' ⟨rfl, q, rfl⟩
  have b := below_trans bl (below_drewN (Below.refl _ _) q)
  generalize World.drewN (v5.alloc (.cells #[.int .u32 0, .int .u32 4294967295] 32)) q = v6 at *
  clear h bl
  replace hT := hT.below b (Nat.le_refl _)
  replace fq := fq.below b (Nat.le_refl _)
  replace fr := fr.below b (Nat.le_refl _)
  replace fp := fp.below b (Nat.le_refl _)
  replace fn := fn.below b (Nat.le_refl _)
  replace fm := fm.below b (Nat.le_refl _)
  replace bel := below_trans bel b
  clear b
  clear x1 x2 fq
  have bl := below_lit v6 #[.int .u32 0, .int .u32 1] 32
  have x1 := can_cells v6 _ rfl [0, 1] 2 rfl (dig_lit _ (by decide)) #[.int .u32 0, .int .u32 1] rfl 4294967296 (by decide) (by decide)
  have x2 := fr.below bl (Nat.le_refl _)
  have h := Lib.hid (num_same_true _ _ _ _ _ _ _ _ _ x2 x1 rfl (by have := x2.len_le 2 (by decide); omega) (by omega))
  go_wp2_with fail
  with_reducible refine (h.out).mono ?_
  rintro e w' ⟨rfl, q, rfl⟩
  have b := below_trans bl (below_drewN (Below.refl _ _) q)
  generalize World.drewN (v6.alloc (.cells #[.int .u32 0, .int .u32 1] 32)) q = v7 at *
  clear h bl
  replace hT := hT.below b (Nat.le_refl _)
  replace fr := fr.below b (Nat.le_refl _)
  replace fp := fp.below b (Nat.le_refl _)
  replace fn := fn.below b (Nat.le_refl _)
  replace fm := fm.below b (Nat.le_refl _)
  replace bel := below_trans bel b
  clear b
  clear x1 x2 fr
  have bl := below_lit v7 #[.int .u32 1000] 32
  have x1 := can_cells v7 _ rfl [1000] 1 rfl (dig_lit _ (by decide)) #[.int .u32 1000] rfl 1000 (by decide) (by decide)
  have x2 := fp.below bl (Nat.le_refl _)
  have h := Lib.hid (num_same_true _ _ _ _ _ _ _ _ _ x2 x1 rfl (by have := x2.len_le 1 (by decide); omega) (by omega))
  go_wp2_with fail
  with_reducible refine (h.out).mono ?_
  rintro e w' ⟨rfl, q, rfl⟩
  have b := below_trans bl (below_drewN (Below.refl _ _) q)
  generalize World.drewN (v7.alloc (.cells #[.int .u32 1000] 32)) q = v8 at *
  clear h bl
  replace hT := hT.below b (Nat.le_refl _)
  replace fp := fp.below b (Nat.le_refl _)
  replace fn := fn.below b (Nat.le_refl _)
  replace fm := fm.below b (Nat.le_refl _)
  replace bel := below_trans bel b
  clear b
  clear x1 x2 fp
  have bl := below_lit v8 #[.int .u32 0, .int .u32 1] 32
  have x1 := can_cells v8 _ rfl [0, 1] 2 rfl (dig_lit _ (by decide)) #[.int .u32 0, .int .u32 1] rfl 4294967296 (by decide) (by decide)
  have x2 := fn.below bl (Nat.le_refl _)
  have h := Lib.hid (num_same_true _ _ _ _ _ _ _ _ _ x2 x1 rfl (by have := x2.len_le 2 (by decide); omega) (by omega))
  go_wp2_with fail
  with_reducible refine (h.out).mono ?_
  rintro e w' ⟨rfl, q, rfl⟩
  have b := below_trans bl (below_drewN (Below.refl _ _) q)
  generalize World.drewN (v8.alloc (.cells #[.int .u32 0, .int .u32 1] 32)) q = v9 at *
  clear h bl
  replace hT := hT.below b (Nat.le_refl _)
  replace fn := fn.below b (Nat.le_refl _)
  replace fm := fm.below b (Nat.le_refl _)
  replace bel := below_trans bel b
  clear b
  clear x1 x2 fn
  have bl := below_lit v9 #[.int .u32 256] 32
  have x1 := can_cells v9 _ rfl [256] 1 rfl (dig_lit _ (by decide)) #[.int .u32 256] rfl 256 (by decide) (by decide)
  have x2 := fm.below bl (Nat.le_refl _)
  have h := Lib.hid (num_same_true _ _ _ _ _ _ _ _ _ x2 x1 rfl (by have := x2.len_le 1 (by decide); omega) (by omega))
  go_wp2_with fail
  with_reducible refine (h.out).mono ?_
  rintro e w' ⟨rfl, q, rfl⟩
  have b := below_trans bl (below_drewN (Below.refl _ _) q)
  generalize World.drewN (v9.alloc (.cells #[.int .u32 256] 32)) q = v10 at *
  clear h bl
  replace hT := hT.below b (Nat.le_refl _)
  replace fm := fm.below b (Nat.le_refl _)
  replace bel := below_trans bel b
  clear b
  clear x1 x2 fm
  have x1 := num_cells v10 _ rfl [7, 0] 2 rfl (dig_lit _ (by decide)) #[.int .u32 7, .int .u32 0] rfl 7 (by decide)
  have bl := below_lit v10 #[.int .u32 7, .int .u32 0] 32
  have h := Lib.hid (num_digits _ _ _ _ _ x1 (by omega))
  go_wp2_with fail
  with_reducible refine (h.out).mono ?_
  rintro e v11 ⟨rfl, b0⟩
  have b := below_trans bl b0
  clear b0
  clear h bl
  replace hT := hT.below b (Nat.le_refl _)
  replace bel := below_trans bel b
  clear b
  clear x1
  have D1 := dec_lit
  have x1 := num_cells v11 _ rfl [65536] 1 rfl (dig_lit _ (by decide)) #[.int .u32 65536] rfl 65536 (by decide)
  have bl := below_lit v11 #[.int .u32 65536] 32
  have h := Lib.hid (num_bytes _ _ _ _ _ x1 (by omega))
  go_wp2_with fail
  with_reducible refine (h.out).mono ?_
  rintro e v12 ⟨rfl, b0⟩
  have b := below_trans bl b0
  clear b0
  clear h bl
  replace hT := hT.below b (Nat.le_refl _)
  replace bel := below_trans bel b
  clear b
  clear x1
  have D2 := byt_lit
  have x1 := num_cells v12 _ rfl [12] 1 rfl (dig_lit _ (by decide)) #[.int .u32 12] rfl 12 (by decide)
  have y1 := below_lit (v12.alloc (.cells #[.int .u32 12] 32)) #[.int .u32 18] 32
  have x2 := num_cells (v12.alloc (.cells #[.int .u32 12] 32)) (v12.heap.size + 1) (by simp) [18] 1 rfl (dig_lit _ (by decide)) #[.int .u32 18] rfl 18 (by decide)
  have bl := below_trans (below_lit v12 #[.int .u32 12] 32) y1
  have x3 := x1.below y1 (Nat.le_refl _)
  clear y1
  have h := Lib.hid (num_gcd _ _ _ _ _ _ _ _ _ x3 x2 (by omega) (by omega))
  go_wp2_with fail
  with_reducible refine (h.out).mono ?_
  rintro e v13 ⟨gd, gn, gc, rfl, fg, b0⟩
  have b := below_trans bl b0
  clear b0
  clear h bl
  replace hT := hT.below b (Nat.le_refl _)
  replace bel := below_trans bel b
  clear b
  rw [gcd_lit] at fg
  clear x1 x2 x3
  have bl := below_lit v13 #[.int .u32 6] 32
  have x1 := can_cells v13 _ rfl [6] 1 rfl (dig_lit _ (by decide)) #[.int .u32 6] rfl 6 (by decide) (by decide)
  have x2 := fg.below bl (Nat.le_refl _)
  have h := Lib.hid (num_same_true _ _ _ _ _ _ _ _ _ x2 x1 rfl (by have := x2.len_le 1 (by decide); omega) (by omega))
  go_wp2_with fail
  with_reducible refine (h.out).mono ?_
  rintro e w' ⟨rfl, q, rfl⟩
  have b := below_trans bl (below_drewN (Below.refl _ _) q)
  generalize World.drewN (v13.alloc (.cells #[.int .u32 6] 32)) q = v14 at *
  clear h bl
  replace hT := hT.below b (Nat.le_refl _)
  replace fg := fg.below b (Nat.le_refl _)
  replace bel := below_trans bel b
  clear b
  clear x1 x2 fg
  go_wp2_with fail
  go_ret
  exact ⟨rfl, bel⟩
end Go.Proofs.YtgnophflogmmaaaDoor
