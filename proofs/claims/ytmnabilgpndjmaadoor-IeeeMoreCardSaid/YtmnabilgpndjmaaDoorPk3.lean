/- Contracts of functions, and plain facts, part 3. -/
import Derived.Test.YtmnabilgpndjmaaDoorProg
import Derived.Deep.QuietTactic
import Derived.BigQuiet
import Derived.BigRegion
import Derived.Test.YtmnabilgpndjmaaDoorPk1
import Derived.Test.YtmnabilgpndjmaaDoorPk2
set_option linter.unusedVariables false
set_option linter.unusedSimpArgs false
/- nat.Norm: the number without noughts at its end. -/
namespace Go.Proofs.YtmnabilgpndjmaaDoor
open Go.RowKit
theorem size_limb : (Tryd.prog.info? 76).map (·.size) = some 1 := by kernel_rfl

theorem norm_calls (ad : Option Addr) (n c : Nat) (xs : List Int) (w : World) (hn : n ≤ 70368744177664) (hnc : n ≤ c) (hr : Rds w .u32 ad n xs) (dx : Dig 4294967296 xs) :
    Calls Tryd.prog 162 #[.slice ad n c] w (RetL 76 .u32 (dg 4294967296 (val 4294967296 xs)) w) := by
  have hc := Lib.hid (cut_calls ad n c xs w (by omega) hnc hr)
  have rx := hr.norm
  have hl := norm_length_le xs
  rw [hr.len] at hl
  have E := Lib.hid (norm_eq 4294967296 (by omega) dx)
  clear hr
  generalize norm xs = ls at *
  obtain ⟨m, hm⟩ : ∃ m, ls.length = m := ⟨_, rfl⟩
  rw [hm] at hc rx hl
  have HM := Lib.hid hm
  clear hm
  have hmk := make_rule (P := Tryd.prog) 33 76 .u32 4 Tryd.underlying33 info_limb (by omega) m (by omega) (m : Int) rfl
  go_enter Tryd.func162, Tryd.ntmps162
  go_wp2_with fail
  refine (hc.out).mono ?_
  rintro e w' ⟨rfl, rfl⟩
  have b0 : Below w.heap.size w (w.alloc (.cells (nums .u32 (List.replicate m 0)).toArray 76)) := (Below.refl _ _).alloc (Nat.le_refl _) _
  have r0 := rx.below b0 (Nat.le_refl _)
  have k0 := Blk.made w 76 .u32 (List.replicate m 0) w.heap.size rfl
  go_wp2_with (refine copy_law w.heap.size rfl (.tmp 9) (.tmp 10) 33 33 rfl 76 Tryd.underlying33 size_limb (some ⟨w.heap.size, 0, none⟩) ad m m m m rfl rfl w.heap.size 0 .u32 (List.replicate m 0) ls k0 r0 (Nat.le_refl _) (fun _ => rfl) (by simp) b0 (Nat.le_refl _) ?_; intro w2 k2 b2)
  go_ret
  have k3 : Blk w2 w.heap.size 76 .u32 ls := by simpa [List.drop_of_length_le] using k2
  have O := k3.own (Nat.le_refl _) m (by rw [HM.out]; exact Nat.le_refl _) (by rw [HM.out]; omega)
  rw [← HM.out, List.take_length] at O
  rw [HM.out] at O
  refine ⟨_, _, _, rfl, ?_, b2⟩
  have E' : ls = dg 4294967296 (val 4294967296 xs) := E.out
  rw [← E']
  exact O
end Go.Proofs.YtmnabilgpndjmaaDoor

/- nat.From: a small number as a list. -/
namespace Go.Proofs.YtmnabilgpndjmaaDoor
open Go.RowKit
theorem from_calls (x : Int) (w : World) (h0 : 0 ≤ x) (h1 : x < 18446744073709551616) :
    Calls Tryd.prog 42 #[.int .u64 x] w (RetL 76 .u32 (dg 4294967296 x) w) := by
  have k0 : Blk (w.alloc (.cells #[.int .u32 (x % 4294967296), .int .u32 (x / 4294967296)] 76)) w.heap.size 76 .u32 [x % 4294967296, x / 4294967296] := Blk.made w 76 .u32 [x % 4294967296, x / 4294967296] _ rfl
  have b0 : Below w.heap.size w (w.alloc (.cells #[.int .u32 (x % 4294967296), .int .u32 (x / 4294967296)] 76)) := (Below.refl _ _).alloc (Nat.le_refl _) _
  have hd : Dig 4294967296 [x % 4294967296, x / 4294967296] := Dig.cons (by omega) (by omega) (Dig.cons (by omega) (by omega) (Dig.nil _))
  have hv : val 4294967296 [x % 4294967296, x / 4294967296] = x := by simp [val]; omega
  have hc := Lib.hid (cut_calls (some ⟨w.heap.size, 0, none⟩) 2 2 _ _ (by omega) (Nat.le_refl _) k0.rds)
  have R := Lib.hid (k0.ret (Nat.le_refl _) (by simp) hd _ hv b0)
  clear k0 b0 hd hv
  go_enter Tryd.func42, Tryd.ntmps42
  go_wp2_with fail
  refine (hc.out).mono ?_
  rintro e w' ⟨rfl, rfl⟩
  go_wp2_with fail
  go_ret
  exact R.out
end Go.Proofs.YtmnabilgpndjmaaDoor

/- crucibleref01: trim, bytes, limbs: what the calls answer. -/
namespace Go.Proofs.YtmnabilgpndjmaaDoor
open Go.RowKit

theorem info_int : (Tryd.prog.info? 3).map (fun i => (i.zero, i.size, i.bytes)) = some (some (.int .i64 0), 1, 8) := by kernel_rfl
theorem info_limb' : (Tryd.prog.info? 76).map (fun i => (i.zero, i.size, i.bytes)) = some (some (.int .u32 0), 1, 4) := by kernel_rfl

/-- trim: without noughts at the end. -/
theorem trim_calls (ad : Option Addr) (n c : Nat) (xs : List Int) (w : World) (hn : n ≤ 9223372036854775807) (hnc : n ≤ c) (hr : Rds w .i64 ad n xs) :
    Calls Tryd.prog 157 #[.slice ad n c] w fun e w' => e = .returned (.slice ad (norm xs).length c) ∧ w = w' := by
  have HL := Lib.hid hr.len
  go_enter Tryd.func157, Tryd.ntmps157
  go_wp2
  go_loop [0] (fun v => ∃ k : Nat, k ≤ n ∧ v = .slice ad k c ∧ Hid (∀ j, k ≤ j → xs[j]?.getD 0 = 0)) (fun v => match v with | .slice _ k _ => k | _ => 0)
  case atStart => exact ⟨n, Nat.le_refl _, rfl, fun j hj => by rw [List.getElem?_eq_none (by rw [HL.out]; exact hj)]; rfl⟩
  case round =>
    obtain ⟨k, hk, rfl, hz⟩ := hrel
    have hkc : k ≤ c := by omega
    by_cases h0 : 0 < k
    · obtain ⟨a, rfl, hcell⟩ := hr.cell (k - 1) (by omega)
      clear hr
      go_wp2
      · rename_i hb
        go_round
        case rel =>
          refine ⟨k - 1, by omega, rfl, fun j hj => ?_⟩
          by_cases e : j = k - 1
          · subst e; simpa using hb
          · exact hz.out j (by omega)
        case measure => simp; omega
      · have hb : (xs[k - 1]?.getD 0 == 0) = false := by assumption
        have e := norm_stop xs k (by rw [HL.out]; omega) hz.out (.inr (by simpa using hb))
        have e2 : (norm xs).length = k := by rw [e, List.length_take, HL.out]; omega
        go_ret
        rw [e2]
        exact ⟨rfl, rfl⟩
    · obtain rfl : k = 0 := by omega
      have E := Lib.hid (show (norm xs).length = 0 by rw [norm_stop xs 0 (Nat.zero_le _) hz.out (.inl rfl)]; rfl)
      go_wp2
      go_ret
      rw [E.out]
      exact ⟨rfl, rfl⟩

/-- bytes: behind i limbs. -/
def BytesR (w : World) (xs : List Int) (i : Nat) (v : Value) (wr : World) : Prop :=
  ∃ ad c ds, v = .slice ad (4 * i) c ∧ App w.heap.size wr 3 .i64 ad (4 * i) c ds ∧ Dig 256 ds ∧ Below w.heap.size w wr ∧ w.heap.size ≤ wr.heap.size ∧ val 256 ds = val 4294967296 (xs.take i)
/-- bytes: behind k bytes of a limb, x is left of it. -/
def BytesI (w : World) (xs : List Int) (i k : Nat) (x : Int) (v : Value) (wr : World) : Prop :=
  ∃ ad c ds, v = .slice ad (4 * i + k) c ∧ App w.heap.size wr 3 .i64 ad (4 * i + k) c ds ∧ Dig 256 ds ∧ Below w.heap.size w wr ∧ w.heap.size ≤ wr.heap.size ∧
    0 ≤ x ∧ x < 256 ^ (4 - k) ∧ val 256 ds + 256 ^ (4 * i + k) * x = val 4294967296 (xs.take (i + 1))

set_option maxHeartbeats 400000 in
/-- bytes: a number's bytes, the lowest first, none 0 at the end. -/
theorem bytes_calls (ad : Option Addr) (n c : Nat) (xs : List Int) (w : World) (hn : n ≤ 1099511627776) (hr : Rds w .u32 ad n xs) (dx : Dig 4294967296 xs) :
    Calls Tryd.prog 129 #[.slice ad n c] w (RetL 3 .i64 (dg 256 (val 4294967296 xs)) w) := by
  have HL := Lib.hid hr.len
  have hmk := make0_rule (P := Tryd.prog) 150 3 .i64 8 Tryd.underlying150 info_int (by omega) (4 * n) (by omega) (4 * (n : Int)) (by omega)
  go_enter Tryd.func129, Tryd.ntmps129
  go_wp2
  clear hmk
  have hr0 : BytesR w xs 0 (.slice (some ⟨w.heap.size, 0, none⟩) 0 (4 * n)) (w.alloc (.cells (madeCells #[.int .i64 0] (4 * n)) 3)) :=
    ⟨_, _, [], rfl, App.made _ _ _ _ _ (Nat.le_refl _) (by omega) _ rfl, Dig.nil _, (Below.refl _ _).alloc (Nat.le_refl _) _, by simp, by simp [val]⟩
  go_loopw [3, 4] (fun v i wr => ∃ k : Nat, k ≤ n ∧ i = .int .i64 k ∧ BytesR w xs k v wr) (fun _ i _ => n - (intOf i).toNat)
  case atStart => exact ⟨0, Nat.zero_le _, rfl, hr0⟩
  case round =>
    obtain ⟨i, hi, rfl, ad1, c1, ds, rfl, h1, h2, h3, h4, h5⟩ := hrel
    clear hr0
    have H5 := Lib.hid h5
    clear h5
    by_cases hin : i < n
    · obtain ⟨a, rfl, hx⟩ := hr.cell i hin
      have hxl : wr.cell? (a.add i) = some (.int .u32 (xs[i]?.getD 0)) := (h3.cell (by simpa [Addr.add] using World.block_lt_of_cell? w _ hx)).trans hx
      have bx := dx.get (by omega) i
      have hI0 : BytesI w xs i 0 (xs[i]?.getD 0) (.slice ad1 (4 * i) c1) wr :=
        ⟨ad1, c1, ds, rfl, h1, h2, h3, h4, bx.1, bx.2, by rw [H5.out, val_take_succ _ _ _ (by rw [HL.out]; exact hin), Nat.add_zero, pow4]⟩
      clear hx
      generalize xs[i]?.getD 0 = x0 at *
      go_wp2
      go_loopw [3, 5, 6] (fun v x j wr => ∃ k : Nat, ∃ q : Int, k ≤ 4 ∧ j = .int .i64 k ∧ x = .int .i64 q ∧ BytesI w xs i k q v wr) (fun _ _ j _ => 4 - (intOf j).toNat)
      case atStart => exact ⟨0, x0, by omega, rfl, rfl, hI0⟩
      case round =>
        clear hI0 h1 h2 h3 h4 hxl bx
        obtain ⟨k, x, hk, rfl, rfl, ad2, c2, es, rfl, g1, g2, g3, g4, g5, g6, g7⟩ := hrel
        have hlen := g1.len
        have HE := Lib.hid (bytes_step es _ hlen x _ g5 g7)
        have H7 := Lib.hid g7
        have gx : x < 4294967296 := Int.lt_of_lt_of_le g6 (pow_le (b := 256) (by omega) (show 4 - k ≤ 4 by omega))
        have H6 := Lib.hid g6
        clear hlen g7 g6
        by_cases hk4 : k < 4
        · go_wp2_with (at_builtin; refine app_one w.heap.size rfl (.tmp 26) (.tmp 29) 150 3 .i64 8 rfl Tryd.underlying150 info_int (by omega) ad2 (4 * i + k) c2 es (x % 256) rfl rfl g1 g3 g4 (by omega) ?_; intro ad3 c3 w3 k1 k2 k3)
          go_roundw
          case rel =>
            refine ⟨k + 1, _, by omega, by go_num, rfl, ad3, c3, es ++ [x % 256], rfl, k1, g2.append (Dig.cons (by omega) (by omega) (Dig.nil _)), k2, k3, by omega, ?_, HE.out⟩
            have := H6.out
            rw [show 4 - k = (4 - (k + 1)) + 1 by omega, Int.pow_succ] at this
            exact Int.ediv_lt_of_lt_mul (by omega) this
          case measure => simp [intOf]; omega
        · obtain rfl : k = 4 := by omega
          have hx0 : x = 0 := by have := H6.out; simp at this; omega
          have HV := Lib.hid (show val 256 es = val 4294967296 (xs.take (i + 1)) by have := H7.out; rw [hx0] at this; simpa using this)
          clear hx0
          go_wp2
          go_roundw
          case rel => exact ⟨i + 1, by omega, by go_num, ad2, c2, es, rfl, g1, g2, g3, g4, HV.out⟩
          case measure => simp [intOf]; omega
    · obtain rfl : i = n := by omega
      have hk := trim_calls ad1 (4 * i) c1 ds wr (by omega) h1.own.le h1.rds
      go_wp2_with fail
      refine hk.mono ?_
      rintro e w' ⟨rfl, rfl⟩
      go_wp2_with fail
      go_ret
      have O := h1.own
      have hl := norm_length_le ds
      rw [h1.len] at hl
      refine ⟨_, _, _, rfl, ?_, h3⟩
      have E := norm_eq 256 (by omega) h2
      have hv : val ((256 : Nat) : Int) ds = val 4294967296 xs := by rw [← HL.out, List.take_length] at H5; exact H5.out
      rw [hv] at E
      rw [← E]
      exact O.norm
def LimbR (w : World) (ls : List Int) (j : Nat) (wr : World) : Prop :=
  ∃ out, Blk wr w.heap.size 76 .u32 out ∧ LimbSt ls out j ∧ Below w.heap.size w wr

set_option maxHeartbeats 400000 in
/-- limbs: the list of a number by its bytes. -/
theorem limbs_calls (ad : Option Addr) (n c : Nat) (xs : List Int) (w : World) (hn : n ≤ 140737488355328) (hnc : n ≤ c) (hr : Rds w .i64 ad n xs) (dx : Dig 256 xs) :
    Calls Tryd.prog 132 #[.slice ad n c] w (RetL 76 .u32 (dg 4294967296 (val 256 xs)) w) := by
  have ht := Lib.hid (trim_calls ad n c xs w (by omega) hnc hr)
  have rx := hr.norm
  have dl := norm_dig dx
  have hl := norm_length_le xs
  rw [hr.len] at hl
  have HV := Lib.hid (val_norm 256 xs)
  have HNN := Lib.hid (norm_norm xs)
  clear hr
  generalize norm xs = ls at *
  obtain ⟨m, hm⟩ : ∃ m, ls.length = m := ⟨_, rfl⟩
  rw [hm] at ht rx hl
  have HM := Lib.hid hm
  have S0 := limb_start ls
  rw [hm] at S0
  clear hm
  have hmk := make_rule (P := Tryd.prog) 33 76 .u32 4 Tryd.underlying33 info_limb' (by omega) ((m + 3) / 4) (by omega) (((m : Int) + 3) / 4) (by omega)
  go_enter Tryd.func132, Tryd.ntmps132
  go_wp2_with fail
  refine (ht.out).mono ?_
  rintro e w' ⟨rfl, rfl⟩
  go_wp2_with fail
  clear hmk
  have hr0 : LimbR w ls m (w.alloc (.cells (nums .u32 (List.replicate ((m + 3) / 4) 0)).toArray 76)) :=
    ⟨_, Blk.made _ _ _ _ _ rfl, S0, (Below.refl _ _).alloc (Nat.le_refl _) _⟩
  go_loopw [4] (fun i wr => ∃ j : Nat, j ≤ m ∧ i = .int .i64 ((j : Int) - 1) ∧ LimbR w ls j wr) (fun i _ => ((intOf i) + 1).toNat)
  case atStart => exact ⟨m, Nat.le_refl _, rfl, hr0⟩
  case round =>
    obtain ⟨j, hj, rfl, out, h1, h2, h3⟩ := hrel
    clear hr0 S0
    by_cases hj0 : 0 < j
    · obtain ⟨j, rfl⟩ : ∃ i, j = i + 1 := ⟨j - 1, by omega⟩
      obtain ⟨a, rfl, hxl⟩ := (rx.below h3 (Nat.le_refl _)).cell j (by omega)
      obtain ⟨s1, s2, s3, s4⟩ := limb_step ls out j (by rw [HM.out]; omega) dl h2
      have hlen : out.length = (m + 3) / 4 := by rw [h2.2.1, HM.out]
      have hy := h1.cell (j / 4) s3
      have hf := h1.free (j / 4)
      have bx := dl.get (by omega) j
      have S4 := Lib.hid s4
      have bo := h2.1.get (by omega) (j / 4)
      have hq : j / 4 < (m + 3) / 4 := by omega
      have ej : (((j + 1 : Nat) : Int) - 1) = (j : Int) := by omega
      rw [ej]
      clear s4 h2 hlen ej
      generalize hgx : ls[j]?.getD 0 = x at *
      have HX := Lib.hid hgx
      clear hgx
      generalize hgy : out[j / 4]?.getD 0 = y at *
      have HY := Lib.hid hgy
      clear hgy
      have W1 : IntKind.i64.wrap ((j : Int).tdiv 4) = (j : Int) / 4 := IntWalk.i64_quo _ _ (by omega)
      have W2 : IntKind.u32.wrap (y * 256) = y * 256 := IntWalk.u32_in _ (by omega)
      have W3 : IntKind.u32.wrap (y * 256 + x) = y * 256 + x := IntWalk.u32_in _ (by omega)
      have W4 : IntKind.u32.wrap x = x := IntWalk.u32_in _ (by omega)
      have W5 : ((j : Int) / 4).toNat = j / 4 := by omega
      have W6 : (0 : Int) ≤ (j : Int) / 4 := by omega
      have W7 : (j : Int) / 4 < (((m + 3) / 4 : Nat) : Int) := by omega
      go_wp2_with fail
      go_region
      clear W1 W2 W3 W4 W5 W6 W7
      go_wp2
      go_roundw
      case rel => exact ⟨j, by omega, by go_num, _, (h1.set (j / 4) _).drew, S4.out, below_drew (below_set h3 _ _ _ (Nat.le_refl _))⟩
      case measure => simp [intOf]
    · obtain rfl : j = 0 := by omega
      go_wp2
      go_ret
      have E := limb_end ls out dl HNN.out h2
      have O := h1.own (B := w.heap.size) (Nat.le_refl _) out.length (Nat.le_refl _) (by rw [h2.2.1, HM.out]; omega)
      have hlen : out.length = (m + 3) / 4 := by rw [h2.2.1, HM.out]
      rw [List.take_length] at O
      refine ⟨_, _, _, rfl, ?_, h3⟩
      rw [← HV.out, ← E, ← hlen]
      exact O

theorem bytes_len {n : Nat} {xs : List Int} (hn : xs.length = n) (h : Dig 4294967296 xs) : (dg 256 (val 4294967296 xs)).length ≤ 4 * n := by
  refine dg_length_le 256 (by omega) _ _ ?_
  have := val_lt (by omega) h
  rw [hn, ← pow4] at this
  exact this

end Go.Proofs.YtmnabilgpndjmaaDoor

/- Patterns of bits as numbers: plain facts, no program. -/
namespace Go.Proofs.YtmnabilgpndjmaaDoor

/-- The size z of a pattern as a number of least steps (F digits of fraction). -/
def numN (F z : Nat) : Nat := if z < 2 ^ F then z else (2 ^ F + z % 2 ^ F) * 2 ^ (z / 2 ^ F - 1)

theorem numN_at (F d k : Nat) (h1 : d = 0 ∨ 2 ^ F ≤ k) (h2 : k ≤ 2 ^ (F + 1)) : numN F (d * 2 ^ F + k) = k * 2 ^ d := by
  have hP := Nat.two_pow_pos F
  rw [Nat.pow_succ] at h2
  unfold numN
  rcases Nat.lt_or_ge k (2 ^ F) with hk | hk
  · have hd : d = 0 := by omega
    subst hd
    rw [Nat.zero_mul, Nat.zero_add, if_pos hk]
    simp
  · rw [if_neg (by have := Nat.le_add_left k (d * 2 ^ F); omega)]
    rcases Nat.lt_or_ge k (2 ^ F * 2) with hk2 | hk2
    · have e : d * 2 ^ F + k = (k - 2 ^ F) + 2 ^ F * (d + 1) := by rw [Nat.mul_add, Nat.mul_comm d]; omega
      rw [e, Nat.add_mul_mod_self_left, Nat.add_mul_div_left _ _ hP, Nat.mod_eq_of_lt (by omega), Nat.div_eq_of_lt (by omega), Nat.zero_add, Nat.add_sub_cancel, Nat.add_sub_cancel' hk]
    · have hk3 : k = 2 ^ F * 2 := by omega
      have e : d * 2 ^ F + k = 0 + 2 ^ F * (d + 2) := by rw [Nat.mul_add, Nat.mul_comm d]; omega
      rw [e, Nat.add_mul_mod_self_left, Nat.add_mul_div_left _ _ hP, Nat.zero_mod, Nat.zero_div, Nat.zero_add, hk3, show d + 2 - 1 = d + 1 by omega, Nat.pow_succ, Nat.add_zero]
      rw [Nat.mul_assoc, Nat.mul_comm 2]

/-- Every size in that form. -/
theorem size_form (F z : Nat) : ∃ d k, z = d * 2 ^ F + k ∧ (d = 0 ∨ 2 ^ F ≤ k) ∧ k < 2 ^ (F + 1) := by
  have hP := Nat.two_pow_pos F
  rcases Nat.lt_or_ge z (2 ^ F) with h | h
  · exact ⟨0, z, by omega, .inl rfl, by rw [Nat.pow_succ]; omega⟩
  · refine ⟨z / 2 ^ F - 1, 2 ^ F + z % 2 ^ F, ?_, .inr (Nat.le_add_right _ _), ?_⟩
    · have h1 := Nat.div_add_mod z (2 ^ F)
      have h2 : 1 ≤ z / 2 ^ F := (Nat.le_div_iff_mul_le hP).2 (by omega)
      obtain ⟨q, hq⟩ : ∃ q, z / 2 ^ F = q + 1 := ⟨z / 2 ^ F - 1, by omega⟩
      rw [hq] at h1 ⊢
      rw [Nat.mul_add] at h1
      rw [Nat.add_sub_cancel, Nat.mul_comm q]
      omega
    · have := Nat.mod_lt z hP
      rw [Nat.pow_succ]
      omega

theorem numN_succ (F z : Nat) : ∃ d k, z = d * 2 ^ F + k ∧ (d = 0 ∨ 2 ^ F ≤ k) ∧ k < 2 ^ (F + 1) ∧ numN F z = k * 2 ^ d ∧ numN F (z + 1) = (k + 1) * 2 ^ d := by
  obtain ⟨d, k, rfl, h1, h2⟩ := size_form F z
  exact ⟨d, k, rfl, h1, h2, numN_at F d k h1 (by omega), by rw [Nat.add_assoc]; exact numN_at F d (k + 1) (by omega) (by omega)⟩

theorem numN_lt_succ (F z : Nat) : numN F z < numN F (z + 1) := by
  obtain ⟨d, k, -, -, -, e1, e2⟩ := numN_succ F z
  rw [e1, e2]
  exact Nat.mul_lt_mul_of_pos_right (by omega) (Nat.two_pow_pos d)

theorem numN_mono (F : Nat) {a b : Nat} (h : a ≤ b) : numN F a ≤ numN F b := by
  induction h with
  | refl => exact Nat.le_refl _
  | step _ ih => exact Nat.le_of_lt (Nat.lt_of_le_of_lt ih (numN_lt_succ F _))

/-- r is the size of the nearest pattern to X; U: the least step; I: the first size that is no finite one's. -/
def Nearest (F I U X r : Nat) : Prop :=
  ∃ low, low ≤ I ∧ numN F low * U ≤ X ∧ (low < I → X < numN F (low + 1) * U) ∧
    r = if low = I then I else if (numN F low + numN F (low + 1)) * U < 2 * X ∨ (2 * X = (numN F low + numN F (low + 1)) * U ∧ low % 2 = 1) then low + 1 else low

theorem low_unique (F I U X a b : Nat) (ha : a ≤ I) (hb : b ≤ I) (a1 : numN F a * U ≤ X) (a2 : a < I → X < numN F (a + 1) * U) (b1 : numN F b * U ≤ X) (b2 : b < I → X < numN F (b + 1) * U) : a = b := by
  rcases Nat.lt_trichotomy a b with h | h | h
  · exfalso
    have := a2 (by omega)
    have m := Nat.mul_le_mul_right U (numN_mono F (show a + 1 ≤ b from h))
    omega
  · exact h
  · exfalso
    have := b2 (by omega)
    have m := Nat.mul_le_mul_right U (numN_mono F (show b + 1 ≤ a from h))
    omega

theorem Nearest.unique {F I U X r s : Nat} (h : Nearest F I U X r) (k : Nearest F I U X s) : r = s := by
  obtain ⟨a, a0, a1, a2, rfl⟩ := h
  obtain ⟨b, b0, b1, b2, rfl⟩ := k
  obtain rfl := low_unique F I U X a b a0 b0 a1 a2 b1 b2
  rfl

/-- The same number in finer steps. -/
theorem Nearest.scale {F I U X r : Nat} (h : Nearest F I U X r) (c : Nat) (hc : 0 < c) : Nearest F I (U * c) (X * c) r := by
  obtain ⟨a, a0, a1, a2, e⟩ := h
  refine ⟨a, a0, by rw [← Nat.mul_assoc]; exact Nat.mul_le_mul_right c a1, fun h => by rw [← Nat.mul_assoc]; exact Nat.mul_lt_mul_of_pos_right (a2 h) hc, ?_⟩
  rw [e, ← Nat.mul_assoc, ← Nat.mul_assoc]
  have i1 : (numN F a + numN F (a + 1)) * U * c < 2 * X * c ↔ (numN F a + numN F (a + 1)) * U < 2 * X := Nat.mul_lt_mul_right hc
  have i2 : 2 * X * c = (numN F a + numN F (a + 1)) * U * c ↔ 2 * X = (numN F a + numN F (a + 1)) * U := Nat.mul_left_inj (by omega)
  simp only [i1, i2]

/-- Numbers that lie alike to all numbers of few digits round alike. -/
theorem Nearest.like {F I U X Y r : Nat} (h : Nearest F I U X r) (hl : ∀ k d, k ≤ 2 ^ (F + 2) → (k * 2 ^ d * U ≤ 2 * X ↔ k * 2 ^ d * U ≤ 2 * Y) ∧ (2 * X ≤ k * 2 ^ d * U ↔ 2 * Y ≤ k * 2 ^ d * U)) : Nearest F I U Y r := by
  obtain ⟨a, a0, a1, a2, e⟩ := h
  obtain ⟨d, k, -, -, hk, n1, n2⟩ := numN_succ F a
  have hp : 2 ^ (F + 2) = 2 * 2 ^ (F + 1) := by rw [Nat.pow_succ 2 (F + 1), Nat.mul_comm]
  have c1 := hl (2 * k) d (by omega)
  have c2 := hl (2 * (k + 1)) d (by omega)
  have c3 := hl (k + (k + 1)) d (by omega)
  rw [Nat.mul_assoc 2, Nat.mul_assoc 2, ← n1] at c1
  rw [Nat.mul_assoc 2, Nat.mul_assoc 2, ← n2] at c2
  rw [Nat.add_mul, ← n1, ← n2] at c3
  refine ⟨a, a0, by omega, fun h => by have := a2 h; omega, ?_⟩
  rw [e]
  have i1 : (numN F a + numN F (a + 1)) * U < 2 * X ↔ (numN F a + numN F (a + 1)) * U < 2 * Y := by omega
  have i2 : 2 * X = (numN F a + numN F (a + 1)) * U ↔ 2 * Y = (numN F a + numN F (a + 1)) * U := by omega
  simp only [i1, i2]

/-- The direct way: so many digits, cut, and rounded. W: 2^d steps. -/
theorem nearest_direct (F I U X d k : Nat) (hk : k = X / (2 ^ d * U)) (hU : 0 < U) (h1 : d = 0 ∨ 2 ^ F ≤ k) (h2 : k < 2 ^ (F + 1)) (hI : d * 2 ^ F + k < I) (hF : d = 0 ∨ 0 < F) :
    Nearest F I U X (d * 2 ^ F + (if 2 ^ d * U < 2 * (X % (2 ^ d * U)) ∨ (2 * (X % (2 ^ d * U)) = 2 ^ d * U ∧ k % 2 = 1) then k + 1 else k)) := by
  have hW : 0 < 2 ^ d * U := Nat.mul_pos (Nat.two_pow_pos d) hU
  have hX := Nat.div_add_mod X (2 ^ d * U)
  have hr := Nat.mod_lt X hW
  rw [← hk] at hX
  have n1 := numN_at F d k h1 (by omega)
  have n2 := numN_at F d (k + 1) (by omega) (by omega)
  have e1 : k * 2 ^ d * U = 2 ^ d * U * k := by rw [Nat.mul_assoc, Nat.mul_comm]
  have e2 : (k + 1) * 2 ^ d * U = 2 ^ d * U * k + 2 ^ d * U := by rw [Nat.mul_assoc, Nat.mul_comm, Nat.mul_add, Nat.mul_one]
  refine ⟨d * 2 ^ F + k, Nat.le_of_lt hI, by rw [n1, e1]; omega, fun _ => by rw [Nat.add_assoc, n2, e2]; omega, ?_⟩
  rw [if_neg (Nat.ne_of_lt hI), Nat.add_assoc (d * 2 ^ F), n1, n2, Nat.add_mul, e1, e2]
  have par : (d * 2 ^ F + k) % 2 = k % 2 := by
    rcases hF with h | h
    · subst h; simp
    · obtain ⟨f, rfl⟩ : ∃ f, F = f + 1 := ⟨F - 1, by omega⟩
      rw [Nat.pow_succ, ← Nat.mul_assoc]
      omega
  rw [par]
  have i1 : (2 ^ d * U * k + (2 ^ d * U * k + 2 ^ d * U) < 2 * X) ↔ 2 ^ d * U < 2 * (X % (2 ^ d * U)) := by omega
  have i2 : (2 * X = 2 ^ d * U * k + (2 ^ d * U * k + 2 ^ d * U)) ↔ 2 * (X % (2 ^ d * U)) = 2 ^ d * U := by omega
  simp only [i1, i2]
  split <;> rfl

/-- Too great. -/
theorem nearest_inf (F I U X : Nat) (h : numN F I * U ≤ X) : Nearest F I U X I := ⟨I, Nat.le_refl _, h, fun h => absurd h (Nat.lt_irrefl _), by rw [if_pos rfl]⟩

/-- Less than a half of the least step. -/
theorem nearest_zero (F I U X : Nat) (hI : 0 < I) (h : 2 * X < U) : Nearest F I U X 0 := by
  have n0 : numN F 0 = 0 := by
    unfold numN
    rw [if_pos (Nat.two_pow_pos F)]
  have n1 : numN F 1 = 1 := by
    have := numN_at F 0 1 (.inl rfl) (Nat.one_le_two_pow)
    simpa using this
  refine ⟨0, Nat.zero_le _, by rw [n0]; omega, fun _ => by rw [Nat.zero_add, n1]; omega, ?_⟩
  rw [if_neg (by omega), Nat.zero_add, n0, n1, if_neg (by omega)]
end Go.Proofs.YtmnabilgpndjmaaDoor

/- Numbers in memory, by their worth alone: for the walks of the laws of layer 1. -/
namespace Go.Proofs.YtmnabilgpndjmaaDoor
open Go.RowKit

/-- A list of limbs, of worth V. -/
structure Num (w : World) (ad : Option Addr) (n c : Nat) (V : Int) : Prop where
  le : n ≤ c
  row : ∃ xs, Rds w .u32 ad n xs ∧ Dig 4294967296 xs ∧ val 4294967296 xs = V

/-- The list of the number V. -/
structure Can (w : World) (ad : Option Addr) (n c : Nat) (V : Int) : Prop where
  le : n ≤ c
  rds : Rds w .u32 ad n (dg 4294967296 V)

/-- What was handed in. -/
structure Arg (w : World) (ad : Option Addr) (n c : Nat) (xs : List Int) : Prop where
  le : n ≤ c
  rds : Rds w .u32 ad n xs
  dig : Dig 4294967296 xs

/-- A copy of it, a mark behind it. -/
structure Tw (w : World) (b n : Nat) (xs : List Int) : Prop where
  len : xs.length = n
  blk : Blk w b 76 .u32 (xs ++ [2148261425])
  dig : Dig 4294967296 xs

theorem Num.below {w w1 : World} {ad : Option Addr} {n c : Nat} {V : Int} (h : Num w ad n c V) {B : Nat} (hb : Below B w w1) (hB : w.heap.size ≤ B) : Num w1 ad n c V := by
  obtain ⟨xs, h1, h2, h3⟩ := h.row
  exact ⟨h.le, xs, h1.below hb hB, h2, h3⟩
theorem Can.below {w w1 : World} {ad : Option Addr} {n c : Nat} {V : Int} (h : Can w ad n c V) {B : Nat} (hb : Below B w w1) (hB : w.heap.size ≤ B) : Can w1 ad n c V := ⟨h.le, h.rds.below hb hB⟩
theorem Arg.below {w w1 : World} {ad : Option Addr} {n c : Nat} {xs : List Int} (h : Arg w ad n c xs) {B : Nat} (hb : Below B w w1) (hB : w.heap.size ≤ B) : Arg w1 ad n c xs := ⟨h.le, h.rds.below hb hB, h.dig⟩
theorem Tw.below {w w1 : World} {b n : Nat} {xs : List Int} (h : Tw w b n xs) {B : Nat} (hb : Below B w w1) (hB : w.heap.size ≤ B) : Tw w1 b n xs :=
  ⟨h.len, h.blk.below hb (Nat.lt_of_lt_of_le h.blk.lt hB), h.dig⟩
theorem Arg.num {w : World} {ad : Option Addr} {n c : Nat} {xs : List Int} (h : Arg w ad n c xs) : Num w ad n c (val 4294967296 xs) := ⟨h.le, xs, h.rds, h.dig, rfl⟩
theorem Tw.num {w : World} {b n : Nat} {xs : List Int} (h : Tw w b n xs) : Num w (some ⟨b, 0, none⟩) n (n + 1) (val 4294967296 xs) := ⟨by omega, xs, twin_rds h.blk h.len, h.dig, rfl⟩
theorem Can.num {w : World} {ad : Option Addr} {n c : Nat} {V : Int} (h : Can w ad n c V) (hV : 0 ≤ V) : Num w ad n c V := ⟨h.le, _, h.rds, dg_dig 4294967296 (by omega) _, val_dg 4294967296 (by omega) V hV⟩
theorem Arg.nonneg {w : World} {ad : Option Addr} {n c : Nat} {xs : List Int} (h : Arg w ad n c xs) : 0 ≤ val 4294967296 xs := val_nonneg (by omega) h.dig
theorem Arg.lt {w : World} {ad : Option Addr} {n c : Nat} {xs : List Int} (h : Arg w ad n c xs) : val 4294967296 xs < 4294967296 ^ n := by
  have := val_lt (by omega) h.dig
  rwa [h.rds.len] at this
theorem Can.len_le {w : World} {ad : Option Addr} {n c : Nat} {V : Int} (h : Can w ad n c V) (L : Nat) (hV : V < 4294967296 ^ L) : n ≤ L := by
  rw [← h.rds.len]
  exact dg_length_le 4294967296 (by omega) L V hV
theorem num_nil (w : World) : Num w none 0 0 0 := ⟨Nat.le_refl _, [], Rds.nil _ _ _, Dig.nil _, rfl⟩
theorem Can.zero {w : World} {ad : Option Addr} {n c : Nat} (h : Can w ad n c 0) : n = 0 := by
  have := h.rds.len
  rw [dg_zero] at this
  exact this.symm
theorem Can.zero_iff {w : World} {ad : Option Addr} {n c : Nat} {V : Int} (h : Can w ad n c V) (hV : 0 ≤ V) : n = 0 ↔ V = 0 := by
  have h1 := h.rds.len
  have h2 := dg_nil 4294967296 V (by omega) hV
  constructor
  · intro e
    exact h2.1 (List.eq_nil_of_length_eq_zero (by omega))
  · intro e
    rw [h2.2 e] at h1
    exact h1.symm

theorem pow_add_lt (a b : Int) (n m : Nat) (ha : a < 4294967296 ^ n) (hb : b < 4294967296 ^ m) : a + b < 4294967296 ^ (n + m + 1) := by
  have h1 := pow_le (b := 4294967296) (by omega) (show n ≤ n + m by omega)
  have h2 := pow_le (b := 4294967296) (by omega) (show m ≤ n + m by omega)
  have h3 : (0 : Int) < 4294967296 ^ (n + m) := Int.pow_pos (by omega)
  rw [Int.pow_succ]
  omega

theorem pow_mul_lt (a b : Int) (n m : Nat) (ha0 : 0 ≤ a) (hb0 : 0 ≤ b) (ha : a < 4294967296 ^ n) (hb : b < 4294967296 ^ m) : a * b < 4294967296 ^ (n + m) := by
  rw [Int.pow_add]
  exact Int.lt_of_le_of_lt (Int.mul_le_mul_of_nonneg_left (Int.le_of_lt hb) ha0) (Int.mul_lt_mul_of_pos_right ha (Int.pow_pos (by omega)))

/-- A number's list is told. -/
def RetC (V : Int) (w : World) (e : Ending) (w' : World) : Prop :=
  ∃ ad n c, e = .returned (.slice ad n c) ∧ Can w' ad n c V ∧ Below w.heap.size w w'
def RetCB (V : Int) (ok : Bool) (w : World) (e : Ending) (w' : World) : Prop :=
  ∃ ad n c, e = .returned (.tuple #[.slice ad n c, .bool ok]) ∧ Can w' ad n c V ∧ Below w.heap.size w w'
def RetCNB (V : Int) (r : Int) (ok : Bool) (w : World) (e : Ending) (w' : World) : Prop :=
  ∃ ad n c, e = .returned (.tuple #[.slice ad n c, .int .u32 r, .bool ok]) ∧ Can w' ad n c V ∧ Below w.heap.size w w'
def RetCBB (V : Int) (b1 b2 : Bool) (w : World) (e : Ending) (w' : World) : Prop :=
  ∃ ad n c, e = .returned (.tuple #[.slice ad n c, .bool b1, .bool b2]) ∧ Can w' ad n c V ∧ Below w.heap.size w w'

theorem RetL.can {V : Int} {w : World} {e : Ending} {w' : World} (h : RetL 76 .u32 (dg 4294967296 V) w e w') : RetC V w e w' := by
  obtain ⟨ad, n, c, rfl, h1, h2⟩ := h
  exact ⟨ad, n, c, rfl, ⟨h1.le, h1.rds⟩, h2⟩
theorem RetLB.can {V : Int} {ok : Bool} {w : World} {e : Ending} {w' : World} (h : RetLB 76 .u32 (dg 4294967296 V) ok w e w') : RetCB V ok w e w' := by
  obtain ⟨ad, n, c, rfl, h1, h2⟩ := h
  exact ⟨ad, n, c, rfl, ⟨h1.le, h1.rds⟩, h2⟩
theorem RetLNB.can {V r : Int} {ok : Bool} {w : World} {e : Ending} {w' : World} (h : RetLNB 76 .u32 .u32 (dg 4294967296 V) r ok w e w') : RetCNB V r ok w e w' := by
  obtain ⟨ad, n, c, rfl, h1, h2⟩ := h
  exact ⟨ad, n, c, rfl, ⟨h1.le, h1.rds⟩, h2⟩
theorem RetLBB.can {V : Int} {b1 b2 : Bool} {w : World} {e : Ending} {w' : World} (h : RetLBB 76 .u32 (dg 4294967296 V) b1 b2 w e w') : RetCBB V b1 b2 w e w' := by
  obtain ⟨ad, n, c, rfl, h1, h2⟩ := h
  exact ⟨ad, n, c, rfl, ⟨h1.le, h1.rds⟩, h2⟩

/-- TwinNat, LeftNat, SameNat by worth. -/
theorem num_twin (ad : Option Addr) (n c : Nat) (xs : List Int) (w : World) (h : Arg w ad n c xs) (hn : n ≤ 70368744177663) :
    Calls Tryd.prog 23 #[.slice ad n c] w (fun e w' => ∃ b, e = .returned (.slice (some ⟨b, 0, none⟩) n (n + 1)) ∧ Tw w' b n xs ∧ Below w.heap.size w w') := by
  refine (twin_calls ad n c xs w hn h.rds).mono ?_
  rintro e w' ⟨rfl, h1, h2⟩
  exact ⟨_, by rw [h.rds.len], ⟨h.rds.len, h1, h.dig⟩, h2⟩

theorem num_left (b : Nat) (ld : Option Addr) (n c : Nat) (xs : List Int) (w : World) (ht : Tw w b n xs) (hl : Arg w ld n c xs) (hn : n ≤ 1000000000000) :
    Calls Tryd.prog 26 #[.slice (some ⟨b, 0, none⟩) n (n + 1), .slice ld n c] w (Same true w) := left_calls b ld n c xs w hn ht.blk hl.rds

theorem num_same (ad bd : Option Addr) (n m c d : Nat) (V U : Int) (w : World) (ha : Can w ad n c V) (hb : Can w bd m d U) (hV : 0 ≤ V) (hU : 0 ≤ U) (hn : n ≤ 1000000000000) (hm : m ≤ 1000000000000) :
    Calls Tryd.prog 76 #[.slice ad n c, .slice bd m d] w (Same (decide (V = U)) w) := by
  have h := same_calls ad bd n m c d _ _ w (by omega) (by omega) ha.rds hb.rds
  have e : (dg 4294967296 V = dg 4294967296 U) ↔ V = U := by
    constructor
    · intro e
      rw [← val_dg 4294967296 (by omega) V hV, e, val_dg 4294967296 (by omega) U hU]
    · intro e; rw [e]
  simpa only [e] using h

theorem num_same_true (ad bd : Option Addr) (n m c d : Nat) (V U : Int) (w : World) (ha : Can w ad n c V) (hb : Can w bd m d U) (h : V = U) (hn : n ≤ 1000000000000) (hm : m ≤ 1000000000000) :
    Calls Tryd.prog 76 #[.slice ad n c, .slice bd m d] w (Same true w) := by
  have h1 := same_calls ad bd n m c d _ _ w (by omega) (by omega) ha.rds hb.rds
  rwa [h, decide_eq_true rfl] at h1
end Go.Proofs.YtmnabilgpndjmaaDoor

/- nat.Len: how many bits it has. -/
namespace Go.Proofs.YtmnabilgpndjmaaDoor
open Go.RowKit

/-- How many bits a whole number not below 0 has, as an int. -/
def bitsOf (V : Int) : Int := blen V.toNat

theorem nlen_calls (ad : Option Addr) (n c : Nat) (la : List Int) (w : World) (hn : n ≤ 70368744177664) (hnc : n ≤ c) (hr : Rds w .u32 ad n la) (da : Dig 4294967296 la) :
    Calls Tryd.prog 38 #[.slice ad n c] w fun e w' => e = .returned (.int .i64 (bitsOf (val 4294967296 la))) ∧ w = w' := by
  have hc := Lib.hid (cut_calls ad n c la w (by omega) hnc hr)
  have rx := hr.norm
  have dx := norm_dig da
  have hN := norm_norm la
  have hma := norm_length_le la
  rw [hr.len] at hma
  rw [← val_norm 4294967296 la]
  clear hr da
  generalize norm la = xs at *
  obtain ⟨m, hm⟩ : ∃ m, xs.length = m := ⟨_, rfl⟩
  rw [hm] at hc rx hma
  by_cases h0 : m = 0
  · subst h0
    have HB := Lib.hid (show bitsOf (val 4294967296 xs) = 0 by rw [List.eq_nil_of_length_eq_zero hm]; rfl)
    clear hN hm
    go_enter Tryd.func38, Tryd.ntmps38
    go_wp2_with fail
    refine (hc.out).mono ?_
    rintro e w' ⟨rfl, rfl⟩
    go_wp2
    go_ret
    rw [HB.out]
    exact ⟨rfl, rfl⟩
  · obtain ⟨t, rfl⟩ : ∃ t, m = t + 1 := ⟨m - 1, by omega⟩
    have bx := dx.get (by omega) t
    have hl := len32_calls (xs[t]?.getD 0) w bx.1 (by omega)
    have hB := bitLen_blen (xs[t]?.getD 0).toNat (by omega)
    have hb2 := Lib.bitLen_le (xs[t]?.getD 0).toNat 32 (by omega) (by omega)
    have HB := Lib.hid (show bitsOf (val 4294967296 xs) = 32 * (t : Int) + (Lib.bitLen (xs[t]?.getD 0).toNat : Nat) by
      unfold bitsOf
      rw [blen_list 32 4294967296 (by decide) xs dx hN t hm, hB]
      simp)
    have hl' := Lib.hid hl
    clear hN hm hl hB h0
    obtain ⟨a, rfl, hxl⟩ := rx.cell t (by omega)
    generalize xs[t]?.getD 0 = x at *
    generalize Lib.bitLen x.toNat = q at *
    have hmm : ((((t + 1 : Nat) : Int)) == 0) = false := by simp; omega
    go_enter Tryd.func38, Tryd.ntmps38
    go_wp2_with fail
    refine (hc.out).mono ?_
    rintro e w' ⟨rfl, rfl⟩
    go_wp2_with fail
    refine (hl'.out).mono ?_
    rintro e w' ⟨rfl, rfl⟩
    go_wp2
    go_ret
    rw [HB.out]
    exact ⟨rfl, rfl⟩
end Go.Proofs.YtmnabilgpndjmaaDoor

/- Shifts of lists of digits, place by place: plain facts. -/
namespace Go.Proofs.YtmnabilgpndjmaaDoor

/-- Is there a number 2^n times V, as Shl counts? -/
def shlOk (V n : Int) : Bool := decide (0 ≤ n ∧ (V = 0 ∨ n ≤ 8388608 - (blen V.toNat : Nat)))
def shlNum (V n : Int) : Int := if shlOk V n then V * 2 ^ n.toNat else 0
/-- What Shr answers. -/
def shrNum (V n : Int) : Int := if 0 ≤ n then V / 2 ^ n.toNat else 0
def shrMore (V n : Int) : Bool := decide (0 ≤ n) && decide (V % 2 ^ n.toNat ≠ 0)

/-- What comes up from the place below. -/
def carryUp (b R : Int) (zs : List Int) (j : Nat) : Int := if j = 0 then 0 else zs[j - 1]?.getD 0 * R / b

theorem shl_step (b R : Int) (hb : 0 < b) (zs ys : List Int) (j : Nat) (hz : j < zs.length) (hy : j < ys.length)
    (E : val b (ys.drop (j + 1)) = R * val b (zs.drop (j + 1)) + carryUp b R zs (j + 1)) :
    val b ((ys.set j (zs[j]?.getD 0 * R % b + carryUp b R zs j)).drop j) = R * val b (zs.drop j) + carryUp b R zs j := by
  rw [val_drop b zs j hz, val_drop b (ys.set j _) j (by rw [List.length_set]; exact hy), List.getElem?_set_self hy, List.drop_set_of_lt (by omega), E]
  have e : carryUp b R zs (j + 1) = zs[j]?.getD 0 * R / b := by unfold carryUp; rw [if_neg (by omega)]; rfl
  rw [e]
  simp only [Option.getD_some]
  have h := Int.emod_add_mul_ediv (zs[j]?.getD 0 * R) b
  generalize zs[j]?.getD 0 * R / b = q at *
  generalize zs[j]?.getD 0 * R % b = r at *
  generalize hx : zs[j]?.getD 0 = x at *
  generalize val b (zs.drop (j + 1)) = Z at *
  generalize carryUp b R zs j = c at *
  have : r = x * R - b * q := by omega
  subst this
  grind

theorem shr_step (b R Q : Int) (hR : 0 < R) (hb : b = R * Q) (zs ys : List Int) (i : Nat) (hy : i < ys.length) (c0 : Int)
    (E : val b (ys.take i) * R + c0 = val b (zs.take i) + b ^ i * (zs[i]?.getD 0 % R)) :
    val b ((ys.set i (zs[i]?.getD 0 / R + zs[i + 1]?.getD 0 % R * Q)).take (i + 1)) * R + c0 = val b (zs.take (i + 1)) + b ^ (i + 1) * (zs[i + 1]?.getD 0 % R) := by
  rw [take_set_succ ys i _ hy, val_append, val_take_succ', Int.pow_succ, List.length_take, Nat.min_eq_left (by omega)]
  simp only [val, Int.mul_zero, Int.add_zero]
  have h := Int.emod_add_mul_ediv (zs[i]?.getD 0) R
  generalize zs[i]?.getD 0 = x at *
  generalize zs[i + 1]?.getD 0 % R = t at *
  generalize x / R = q at *
  generalize x % R = r at *
  generalize hP : b ^ i = P at *
  generalize val b (ys.take i) = Y at *
  generalize val b (zs.take i) = Z at *
  subst hb
  subst h
  grind
theorem split_div (lo P Z R : Int) (h0 : 0 ≤ lo) (h1 : lo < P) (hR : 0 < R) : (lo + P * Z) / (P * R) = Z / R ∧ (lo + P * Z) % (P * R) = lo + P * (Z % R) := by
  have hP : 0 < P := by omega
  have e : lo + P * Z = (lo + P * (Z % R)) + P * R * (Z / R) := by
    have := Int.emod_add_mul_ediv Z R
    generalize Z / R = q at *
    generalize Z % R = r at *
    subst this
    grind
  have b0 : 0 ≤ Z % R := Int.emod_nonneg _ (by omega)
  have b1 : Z % R + 1 ≤ R := Int.emod_lt_of_pos _ hR
  have c0 : 0 ≤ P * (Z % R) := Int.mul_nonneg (by omega) b0
  have c1 : P * (Z % R + 1) ≤ P * R := Int.mul_le_mul_of_nonneg_left b1 (by omega)
  rw [Int.mul_add] at c1
  have hPR : 0 < P * R := Int.mul_pos hP hR
  rw [e]
  constructor
  · rw [Int.add_mul_ediv_left _ _ (by omega), Int.ediv_eq_zero_of_lt (by omega) (by omega), Int.zero_add]
  · rw [Int.add_mul_emod_self_left, Int.emod_eq_of_lt (by omega) (by omega)]

theorem ne_parts (lo P t : Int) (h0 : 0 ≤ lo) (hP : 0 < P) (ht : 0 ≤ t) : decide (lo + P * t ≠ 0) = (decide (lo ≠ 0) || decide (t ≠ 0)) := by
  rw [Bool.eq_iff_iff]
  simp only [decide_eq_true_eq, Bool.or_eq_true]
  constructor
  · intro h
    by_cases hl : lo = 0
    · refine .inr fun ht => h ?_
      rw [hl, ht]
      simp
    · exact .inl hl
  · rintro (h | h)
    · have := Int.mul_nonneg (Int.le_of_lt hP) ht
      omega
    · have := Int.mul_pos hP (show 0 < t by omega)
      omega

theorem shr_snoc (b R Q : Int) (hR : 0 < R) (hb : b = R * Q) (zs ys : List Int) (i : Nat) (hy : ys.length = i) (c0 : Int)
    (E : val b ys * R + c0 = val b (zs.take i) + b ^ i * (zs[i]?.getD 0 % R)) :
    val b (ys ++ [zs[i]?.getD 0 / R + zs[i + 1]?.getD 0 % R * Q]) * R + c0 = val b (zs.take (i + 1)) + b ^ (i + 1) * (zs[i + 1]?.getD 0 % R) := by
  rw [val_append, val_take_succ', Int.pow_succ, hy]
  simp only [val, Int.mul_zero, Int.add_zero]
  have h := Int.emod_add_mul_ediv (zs[i]?.getD 0) R
  generalize zs[i]?.getD 0 = x at *
  generalize zs[i + 1]?.getD 0 % R = t at *
  generalize x / R = q at *
  generalize x % R = r at *
  generalize hP : b ^ i = P at *
  generalize val b ys = Y at *
  generalize val b (zs.take i) = Z at *
  subst hb
  subst h
  grind

/-- (x + b y) / R, cut to a digit. -/
theorem down_digit (b R Q x y : Int) (hR : 0 < R) (hQ : 0 < Q) (hb : b = R * Q) (hx : 0 ≤ x ∧ x < b) : (x + b * y) / R % b = x / R + y % R * Q := by
  have e : x + b * y = x + R * (Q * y) := by rw [hb, Int.mul_assoc]
  rw [e, Int.add_mul_ediv_left _ _ (by omega)]
  have h1 := Int.emod_add_mul_ediv y R
  have e2 : x / R + Q * y = (x / R + y % R * Q) + b * (y / R) := by
    generalize y / R = q at *
    generalize y % R = t at *
    subst h1 hb
    grind
  have k0 : 0 ≤ x / R := Int.ediv_nonneg hx.1 (by omega)
  have k1 : x / R + 1 ≤ Q := Int.ediv_lt_of_lt_mul hR (by rw [Int.mul_comm, ← hb]; exact hx.2)
  have t0 : 0 ≤ y % R := Int.emod_nonneg _ (by omega)
  have t1 : y % R + 1 ≤ R := Int.emod_lt_of_pos _ hR
  have t2 := Int.mul_nonneg t0 (Int.le_of_lt hQ)
  have t3 := Int.mul_le_mul_of_nonneg_right t1 (Int.le_of_lt hQ)
  rw [← hb, Int.add_mul] at t3
  rw [e2, Int.add_mul_emod_self_left, Int.emod_eq_of_lt (by omega) (by omega)]
end Go.Proofs.YtmnabilgpndjmaaDoor
