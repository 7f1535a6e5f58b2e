/- Contracts of functions, and plain facts, part 32. -/
import Derived.BigRegion
import Derived.Test.YtgnophflogmmaaaPk2
import Derived.Test.YtgnophflogmmaaaPk3
import Derived.Test.YtgnophflogmmaaaPk5
import Derived.Test.YtgnophflogmmaaaPk6
import Derived.Test.YtgnophflogmmaaaPk7
import Derived.Test.YtgnophflogmmaaaPk8
import Derived.Test.YtgnophflogmmaaaPk12
import Derived.Test.YtgnophflogmmaaaPk14
import Derived.Test.YtgnophflogmmaaaPk26
import Derived.Test.YtgnophflogmmaaaPk28
import Derived.Test.YtgnophflogmmaaaPk29
import Derived.Test.YtgnophflogmmaaaPk31
set_option linter.unusedVariables false
set_option linter.unusedSimpArgs false
/- crucibleref01.Small: divided by a small number. -/
namespace Go.Proofs.Ytgnophflogmmaaa
open Go.RowKit

def RSmallR (w : World) (xs : List Int) (d : Int) (n j : Nat) (r : Int) (wr : World) : Prop :=
  ∃ ys, Blk wr w.heap.size 3 .i64 ys ∧ ys.length = n ∧ Dig 256 ys ∧ Below w.heap.size w wr ∧ 0 ≤ r ∧ r < d ∧
    val 256 (xs.drop j) = val 256 (ys.drop j) * d + r

set_option maxHeartbeats 1000000 in
theorem rsmall_calls (ad : Option Addr) (n c : Nat) (la : List Int) (d : Int) (w : World) (hn : n ≤ 1099511627776) (hr : Rds w .u32 ad n la) (da : Dig 4294967296 la) (hd : 0 < d ∧ d < 4294967296) :
    Calls Try.prog 88 #[.slice ad n c, .int .u32 d] w (RetLNB 78 .u32 .u32 (dg 4294967296 (val 4294967296 la / d)) (val 4294967296 la % d) true w) := by
  obtain ⟨hd0, hd1⟩ := hd
  have hdd : (d == 0) = false := by simp; omega
  have l1 := bytes_len hr.len da
  have C1 := Lib.hid (bytes_calls ad n c la w (by omega) hr da)
  have vx := Lib.hid (val_dg 256 (by omega) (val 4294967296 la) (val_nonneg (by omega) da))
  have dx : Dig 256 (dg 256 (val 4294967296 la)) := dg_dig 256 (by omega) _
  clear hr
  generalize dg 256 (val 4294967296 la) = xs at *
  go_enter Try.func88, Try.ntmps88
  go_wp2_with fail
  refine (C1.out).mono ?_
  rintro e w1 ⟨xd, m, cx, rfl, ox, b1⟩
  have rx := ox.rds
  have HM := Lib.hid rx.len
  rw [HM.out] at l1
  clear C1 ox
  have hmk := make_rule (P := Try.prog) 94 3 .i64 8 Try.underlying94 info_int (by omega) m (by omega) (m : Int) rfl
  have hr0 : RSmallR w1 xs d m m 0 (w1.alloc (.cells (nums .i64 (List.replicate m 0)).toArray 3)) :=
    ⟨_, Blk.made _ _ _ _ _ rfl, by simp, Dig.replicate _ (by omega) _, (Below.refl _ _).alloc (Nat.le_refl _) _, by omega, by omega, by rw [List.drop_of_length_le (by rw [HM.out]; exact Nat.le_refl _), List.drop_of_length_le (by simp)]; simp [val]⟩
  go_wp2_with fail
  clear hmk
  go_loopw [10, 9] (fun i rr wr => ∃ j : Nat, ∃ r : Int, j ≤ m ∧ i = .int .i64 ((j : Int) - 1) ∧ rr = .int .i64 r ∧ RSmallR w1 xs d m j r wr) (fun i _ _ => (intOf i + 1).toNat)
  case atStart => exact ⟨m, 0, Nat.le_refl _, rfl, rfl, hr0⟩
  case round =>
    clear hr0
    obtain ⟨j, r, hj, rfl, rfl, ys, h1, h2, h3, h4, hr0, hr1, h5⟩ := hrel
    have H2 := Lib.hid h2
    have H5 := Lib.hid h5
    clear h2 h5
    by_cases hj0 : 0 < j
    · obtain ⟨j, rfl⟩ : ∃ i, j = i + 1 := ⟨j - 1, by omega⟩
      obtain ⟨a, rfl, hxl⟩ := (rx.below h4 (Nat.le_refl _)).cell j (by omega)
      have hf := h1.free j
      have hy := h1.cell j (by rw [H2.out]; omega)
      have bx := dx.get (by omega) j
      have Q1 : 0 ≤ (r * 256 + xs[j]?.getD 0) / d := Int.ediv_nonneg (by omega) (by omega)
      have Q2 : (r * 256 + xs[j]?.getD 0) / d < 256 := by
        refine Int.ediv_lt_of_lt_mul hd0 ?_
        have h2 : (r + 1) * 256 ≤ d * 256 := Int.mul_le_mul_of_nonneg_right (by omega) (by omega)
        rw [Int.mul_comm d] at h2
        omega
      have Q3 : 0 ≤ (r * 256 + xs[j]?.getD 0) % d := Int.emod_nonneg _ (by omega)
      have Q4 : (r * 256 + xs[j]?.getD 0) % d < d := Int.emod_lt_of_pos _ hd0
      have S := small_step 256 xs ys j (by rw [HM.out]; omega) (by rw [H2.out]; omega) d r _ ((r * 256 + xs[j]?.getD 0) / d) ((r * 256 + xs[j]?.getD 0) % d) rfl (by rw [Int.mul_ediv_add_emod]) H5.out
      have HS := Lib.hid S
      clear S H5
      have ej : (((j + 1 : Nat) : Int) - 1) = (j : Int) := by omega
      rw [ej]
      clear ej
      have T0 : 0 ≤ r * 256 + xs[j]?.getD 0 := by omega
      have T1 : r * 256 + xs[j]?.getD 0 ≤ 1099511627776 := by omega
      have T2 : 1 ≤ d := by omega
      have W2 := IntWalk.rem_in (r * 256 + xs[j]?.getD 0) d T0
      have W1 := IntWalk.i64_quo (r * 256 + xs[j]?.getD 0) d ⟨T0, by omega, T2⟩
      generalize xs[j]?.getD 0 = x at *
      go_wp2
      go_roundw
      case rel => exact ⟨j, _, by omega, rfl, rfl, _, h1.set j _, by simp [H2.out], h3.set Q1 Q2 _, below_set h4 _ _ _ (Nat.le_refl _), Q3, Q4, HS.out⟩
      case measure => simp [intOf]
    · obtain rfl : j = 0 := by omega
      have hv : val 256 xs = d * val 256 ys + r := by have := H5.out; simp at this; rw [Int.mul_comm] at this; exact this
      have e0 : val 256 xs = val 4294967296 la := vx.out
      rw [e0] at hv
      have E1 := Lib.hid (show val 256 ys = val 4294967296 la / d by rw [hv, Int.mul_add_ediv_left _ _ (by omega), Int.ediv_eq_zero_of_lt hr0 hr1, Int.add_zero])
      have E2 := Lib.hid (show r = val 4294967296 la % d by rw [hv, Int.mul_add_emod_self_left, Int.emod_eq_of_lt hr0 hr1])
      clear hv e0
      have hk := limbs_calls (some ⟨w1.heap.size, 0, none⟩) m m ys wr (by omega) (Nat.le_refl _) (by have := h1.rds; rwa [H2.out] at this) h3
      rw [E1.out] at hk
      go_wp2_with fail
      refine hk.mono ?_
      rintro e w' hr
      obtain ⟨rd, nr, cr, rfl, or, br⟩ := hr.after (below_trans b1 h4)
      go_wp2_with fail
      go_ret3
      refine ⟨rd, nr, cr, ?_, or, br⟩
      rw [← E2.out]
      rfl

theorem rsmall_none (ad : Option Addr) (n c : Nat) (w : World) :
    Calls Try.prog 88 #[.slice ad n c, .int .u32 0] w fun e w' => e = .returned (.tuple #[.slice none 0 0, .int .u32 0, .bool false]) ∧ w = w' := by
  go_enter Try.func88, Try.ntmps88
  go_wp2
  go_ret3
  exact ⟨rfl, rfl⟩
end Go.Proofs.Ytgnophflogmmaaa

/- crucibleref02.Digits: a number in decimal. -/
namespace Go.Proofs.Ytgnophflogmmaaa
open Go.RowKit

theorem dec_step1 (xs : List Int) (R V : Int) (h : val 10 xs + 10 ^ xs.length * R = V) : val 10 (xs ++ [R % 10]) + 10 ^ (xs ++ [R % 10]).length * (R / 10) = V := by
  rw [val_append, List.length_append, List.length_singleton, Int.pow_succ]
  have e : val 10 [R % 10] = R % 10 := by simp [val]
  rw [e, ← h]
  have h2 : (10 : Int) * (R / 10) + R % 10 = R := Int.mul_ediv_add_emod R 10
  generalize (10 : Int) ^ xs.length = P at *
  rw [Int.mul_assoc, Int.add_assoc, ← Int.mul_add, Int.add_comm (R % 10), h2]
set_option maxHeartbeats 1000000 in
set_option maxRecDepth 20000 in
theorem r2digits_calls (ad : Option Addr) (na ca : Nat) (V : Int) (w : World) (h : Num w ad na ca V) (hna : na ≤ 274877906944) :
    Calls Try.prog 60 #[.slice ad na ca] w (RetS (strB (decL V)) w) := by
  have V0 := h.nonneg
  have V1 := Lib.hid h.lt
  have N1 := Lib.hid (num_rnorm ad na ca V w h (by omega))
  obtain ⟨S, HS⟩ : ∃ S, Hid (S = strB (decL V)) := ⟨_, rfl⟩
  rw [← HS.out]
  clear h
  go_enter Try.func60, Try.ntmps60
  go_wp2_with fail
  with_reducible refine (N1.out).mono ?_
  rintro e w1 ⟨x0, n0, c0, rfl, f1, b1⟩
  clear N1
  have hz := f1.zero_iff V0
  by_cases hn0 : n0 = 0
  · have hS : Hid (S = { data := #[48] }) := Lib.hid (by rw [HS.out, hz.1 hn0]; rfl)
    subst hn0
    clear hz f1
    go_wp2_with fail
    go_ret
    rw [hS.out]
    exact ⟨rfl, b1⟩
  · have hVp : V ≠ 0 := fun e => hn0 (hz.2 e)
    have hS : Hid (S = strB (asc (dg 10 V)).reverse) := Lib.hid (by rw [HS.out]; unfold decL; rw [if_neg hVp])
    have hnn : ((n0 : Int) == 0) = false := by simpa using hn0
    have hs1 := b1.size
    have HF := Lib.hid f1
    clear hz HS f1
    go_wp2_with fail
    clear hnn hn0
    go_loopg [0, 3] V.toNat (fun g s0 s3 wr => ∃ (x : Option Addr) (n c : Nat) (R : Int) (bd : Option Addr) (bn bc : Nat) (xs : List Int), s0 = .slice x n c ∧ s3 = .slice bd bn bc ∧ Hid (Can wr x n c R) ∧ 0 ≤ R ∧ n ≤ c ∧ n ≤ 274877906944 ∧ App w1.heap.size wr 5 .u8 bd bn bc (asc xs) ∧ Dig 10 xs ∧ Hid (val 10 xs + 10 ^ xs.length * R = V) ∧ (R = 0 → Hid (norm xs = xs)) ∧ Hid (∀ b, 0 < n → blkOf x = some b → blkOf bd ≠ some b) ∧ Below w1.heap.size w1 wr ∧ w1.heap.size ≤ wr.heap.size ∧ Hid (g = R.toNat))
    case atStart => exact ⟨_, _, _, V, none, 0, 0, [], rfl, rfl, HF, V0, HF.out.le, by have := HF.out.len_le na V1.out; omega, App.nil _ _ _ _, Dig.nil _, Lib.hid (by simp [val]), fun _ => Lib.hid rfl, Lib.hid (fun b _ _ => by simp [blkOf]), Below.refl _ _, Nat.le_refl _, Lib.hid rfl⟩
    case round =>
      clear HF
      obtain ⟨x, n, c, R, bd, bn, bc, xs, rfl, rfl, hcan, hR0, hnc, hnl, happ, hdig, hv, hno, hsep, hbel, hsz, hme⟩ := hrel
      have lx : bn = xs.length := by have := happ.len; rw [asc_length] at this; exact this.symm
      by_cases hn : n = 0
      · have hR : R = 0 := (hcan.out.zero_iff hR0).1 hn
        subst hn hR
        have HX := Lib.hid (dec_end xs V hdig (hno rfl).out hv.out)
        have hbn : bn ≠ 0 := by
          intro hb
          have h1 := HX.out
          rw [List.length_eq_zero_iff.1 (show xs.length = 0 by omega)] at h1
          exact hVp ((dg_nil 10 V (by omega) V0).1 h1.symm)
        obtain ⟨g, rfl, hg, hrow⟩ := happ.own.rowAt (by omega)
        have hbc := happ.own.le
        obtain ⟨m0, rfl⟩ : ∃ m0, bn = m0 + 1 := ⟨bn - 1, by omega⟩
        have hal : (asc xs).length = m0 + 1 := by rw [asc_length]; exact lx.symm
        have HL := Lib.hid hal
        have HI := Lib.hid (rev_start (asc xs) (m0 + 1) hal)
        have HD := Lib.hid (asc_dig hdig).reverse
        have hbl := below_trans b1 hbel
        have hS2 : Hid (S = strB (asc xs).reverse) := Lib.hid (by rw [hS.out, ← HX.out])
        have hbound : m0 + 1 ≤ 9000000000000 := by
          have h1 := dg_length_le 10 (by omega) (10 * na + 1) V (by
            have := pow_tens na
            have h2 := V1.out
            rw [Int.pow_succ]
            have h3 : (0 : Int) < 10 ^ (10 * na) := Int.pow_pos (by omega)
            show V < (10 : Int) ^ (10 * na) * 10
            omega)
          rw [← HX.out] at h1
          omega
        clear HX hno hv hme hcan hsep happ hdig hbn hal lx hS
        go_wp2_with fail
        go_loopw [7] (fun i wq => ∃ k : Nat, ∃ X, i = .int .i64 k ∧ k ≤ m0 + 1 ∧ 2 * k ≤ m0 + 1 ∧ Hid (RevI (asc xs) X (m0 + 1) k) ∧ RowAt wq g 5 .u8 X ∧ Only g wr wq) (fun i _ => m0 + 1 - (intOf i).toNat)
        case atStart => exact ⟨0, _, rfl, by omega, by omega, HI, hrow, Only.refl _ _⟩
        case round =>
          clear HI hrow
          obtain ⟨k, X, rfl, hk, hk2, hX, hr, ho⟩ := hrel
          by_cases hlt : 2 * k + 2 ≤ m0 + 1
          · obtain ⟨m, hm⟩ : ∃ m, m0 + 1 - 1 - k = m := ⟨_, rfl⟩
            have hkm : k < m := by omega
            have hmi : ((m0 + 1 : Nat) : Int) - 1 - (k : Int) = (m : Int) := by omega
            have hmi2 : (m0 : Int) + 1 - 1 - (k : Int) = (m : Int) := by omega
            have hmi3 : (m0 : Int) - (k : Int) = (m : Int) := by omega
            have hmd : m < m0 + 1 := by omega
            have ck := hr.cell k (by rw [hX.out.1]; omega)
            have cm := hr.cell m (by rw [hX.out.1]; omega)
            have fk := hr.free k
            have fm := hr.free m
            have ST := Lib.hid (rev_step (asc xs) X (m0 + 1) k m hX.out hkm (by omega))
            have hne : k ≠ m := by omega
            generalize X[k]?.getD 0 = x at *
            generalize X[m]?.getD 0 = y at *
            have R1 := fun (q : Nat) => ((hr.drewN q).set k y).set m x
            have O1 := fun (q : Nat) => ((ho.drewN q).set k (.int .u8 y)).set m (.int .u8 x)
            clear hm
            go_wp2_with fail
            go_region
            go_wp2_with fail
            go_roundw
            case rel =>
              first
                | exact ⟨k + 1, _, by go_num, by omega, by omega, ST, R1 1, O1 1⟩
                | exact ⟨k + 1, _, by go_num, by omega, by omega, ST, R1 0, O1 0⟩
            case measure => simp [intOf]; omega
          · have hE := rev_end (asc xs) X (m0 + 1) k (m0 - k) HL.out hX.out (by omega) (by omega)
            subst hE
            have rd := hr.rds
            rw [List.length_reverse, HL.out] at rd
            have hcv := conv_str (P := Try.prog) 50 9 5 Try.underlying50 Try.underlying5 Try.underlying9 wr _ (m0 + 1) bc _ rd HD.out
            have hb4 := Only.below hbl (by omega) ho
            clear hr ho rd hX
            go_wp2_with fail
            go_ret
            rw [hS2.out]
            exact ⟨rfl, hb4⟩
      · have hRp : 0 < R := by
          rcases Int.lt_or_eq_of_le hR0 with h1 | h1
          · exact h1
          · exact absurd ((hcan.out.zero_iff hR0).2 h1.symm) hn
        have HT := Lib.hid (rsmall_calls x n c (dg 4294967296 R) 10 wr (by omega) hcan.out.rds (dg_dig 4294967296 (by omega) _) ⟨by omega, by omega⟩)
        have hvd : val 4294967296 (dg 4294967296 R) = R := val_dg 4294967296 (by omega) R hR0
        rw [hvd] at HT
        have ST := Lib.hid (dec_step1 xs R V hv.out)
        have hr0 := Int.emod_nonneg R (show (10 : Int) ≠ 0 by omega)
        have hr1 := Int.emod_lt_of_pos R (show (0 : Int) < 10 by omega)
        have hq0 : 0 ≤ R / 10 := Int.ediv_nonneg hR0 (by omega)
        have HQ := Lib.hid (show (R / 10).toNat < R.toNat by omega)
        have hnp : (0 : Int) < n := by omega
        have hlen := dec_len V _ _ xs.length na hv.out (val_nonneg (by omega) hdig) hRp V1.out
        have NO : R / 10 = 0 → Hid (norm (xs ++ [R % 10]) = xs ++ [R % 10]) := fun h1 => Lib.hid (norm_snoc xs _ (by omega))
        have HNO := Lib.hid NO
        have LT : Hid (∀ m : Nat, R / 10 < 4294967296 ^ m → (dg 4294967296 (R / 10)).length ≤ m) := Lib.hid fun m hm => dg_length_le 4294967296 (by omega) m _ hm
        have RV : Hid (R / 10 < 4294967296 ^ na) := Lib.hid (by
          have h1 := hv.out
          have h2 := val_nonneg (show (0 : Int) < 10 by omega) hdig
          have h3 : (1 : Int) ≤ 10 ^ xs.length := by have := Int.pow_pos (n := 10) (show (0 : Int) < 10 by omega) (m := xs.length); omega
          have h4 : R ≤ 10 ^ xs.length * R := by have := Int.mul_le_mul_of_nonneg_right h3 hR0; omega
          have h5 := V1.out
          omega)
        have hbd := Lib.hid (fun b hb => (happ.lt b hb).2)
        rw [← lx] at hlen
        clear hn hv hno NO hcan lx
        go_wp2_with fail
        with_reducible refine (HT.out).mono ?_
        rintro e w3 ⟨yd, m, d, rfl, o3, b3⟩
        have happ3 := happ.below b3 (Nat.le_refl _)
        have hbel3 := below_then hbel hsz b3
        have hsz3 := Nat.le_trans hsz b3.size
        have hml := Lib.hid (show m ≤ na by rw [← o3.len]; exact LT.out na RV.out)
        have hd10 : Dig 10 (xs ++ [R % 10]) := hdig.append (Dig.cons hr0 hr1 (Dig.nil _))
        have o3r := Lib.hid o3
        clear HT happ hbel hdig b3 o3 LT RV
        go_wp2_with (at_builtin; refine app_kept w1.heap.size rfl (.tmp 23) (.tmp 27) 50 5 .u8 1 rfl Try.underlying50 info_byte (by omega) bd bn bc (asc xs) (48 + R % 10) rfl rfl happ3 hbel3 hsz3 (by omega) ?_; intro ad3 c3 w5 k1 k2 k3 k4 k5)
        go_roundg (R / 10).toNat
        case measure => have h1 := hme.out; have h2 := HQ.out; omega
        case rel =>
          have hyb : ∀ b, 0 < m → blkOf yd = some b → wr.heap.size ≤ b ∧ b < w3.heap.size := by
            intro b hm hb
            have := o3r.out.le
            obtain ⟨g, cs, e1, e2, e3, _⟩ := o3r.out.row (by omega)
            rw [e1] at hb
            injection hb with hb
            subst hb
            exact ⟨e2, (Array.getElem?_eq_some_iff.1 e3).1⟩
          refine ⟨yd, m, d, R / 10, ad3, bn + 1, c3, xs ++ [R % 10], rfl, rfl, Lib.hid ?_, hq0, o3r.out.le, Nat.le_trans hml.out hna, ?_, hd10, ST, HNO.out, Lib.hid ?_, k2, Nat.le_trans hsz3 k3, Lib.hid rfl⟩
          · refine ⟨o3r.out.le, o3r.out.rds.kept fun hm b hb => ?_⟩
            obtain ⟨g1, g2⟩ := hyb b hm hb
            exact k4.out b g2 (fun e => by have := hbd.out b e; omega)
          · rw [asc_append]
            have e : asc [R % 10] = [48 + R % 10] := by simp [asc, Int.add_comm]
            rw [e]
            exact k1
          · intro b hm hb e
            obtain ⟨g1, g2⟩ := hyb b hm hb
            rcases k5.out b e with h1 | h1
            · have := hbd.out b h1; omega
            · omega
end Go.Proofs.Ytgnophflogmmaaa

/- Texts in the document's way: lists of one limb, lengths of lists; the contract of crucibleref02.Digits; what Read takes. -/
namespace Go.Proofs.Ytgnophflogmmaaa
open Go Go.RowKit

section
variable {need : List (Tmp × FD)} {d : Option Tmp} {ty : TypeId} {pos : String} {af : Array Edge} {g : Option (Nat × Bool)} {x : Operand}
set_option maxRecDepth 50000 in
theorem ok_nat1 {i : Int} (hi : 0 ≤ i ∧ i < 4294967296) (h : Opd need x (.val (Lit (.int .u32 i)))) : OpOk Try.prog ⟨d, .buildSlice 23 1 #[(0, x)], ty, pos, af, g⟩ need (.val (IsM i)) false := by
  intro Q K a w B hB hF hK
  have e : a.eval x = .int .u32 i := h a w B hF
  have hbel : Below w.heap.size w (w.alloc (.cells #[.int .u32 i] 78)) := (Below.refl _ _).alloc (Nat.le_refl _) _
  have hr : (execOp a.eval ⟨d, .buildSlice 23 1 #[(0, x)], ty, pos, af, g⟩).run Try.prog w = .ok (.value (.slice (some ⟨w.heap.size, 0, none⟩) 1 1)) (w.alloc (.cells #[.int .u32 i] 78)) := by
    simp only [execOp, e, List.map_toArray, List.map_cons, List.map_nil]
    go_simp
  unfold Oper.wp
  rw [hr]
  refine hK _ _ B ⟨_, 1, 1, rfl, ⟨by omega, [i], ⟨rfl, fun j hj => ⟨_, rfl, ?_⟩⟩, Dig.cons (by omega) (by omega) (Dig.nil _), by simp [val]⟩, by rw [lim_eq]; omega⟩ (Bl.of_below B hbel) hbel (fun k hk => Nat.lt_of_lt_of_le (hB k hk) hbel.size) (by simp)
  obtain rfl : j = 0 := by omega
  rw [plain_add, cell_row (heap_alloc_new w _)]
  rfl
theorem ok_lenC {V : Int} (h : Opd need x (.val (IsC V))) : OpOk Try.prog ⟨d, .call { callee := .builtin .len, args := #[x], argTypes := #[23] }, 3, pos, af, g⟩ need (.val (Lit (.int .i64 ((dg 4294967296 V).length : Int)))) false :=
  ok_via h fun ρ w B v ⟨ad, n, c, e, k, l, hV⟩ h1 => ⟨_, len_run ad n c ρ w (h1.trans e), by rw [show n = (dg 4294967296 V).length from k.rds.len.symm]; rfl⟩
end
theorem con_r2digits (V : Int) : Con Try.prog 60 [IsM V] (Lit (.string (strB (decL V)))) := by
  refine ⟨fun _ _ => by go_simp, fun vs w B hB hV => ?_⟩
  match vs, hV with
  | [v], ⟨h1, _⟩ =>
    obtain ⟨ad, n, c, rfl, k, l⟩ := h1
    exact (r2digits_calls ad n c V w k (by have := lim_eq; omega)).mono fun e w' h => ⟨_, h.1, rfl, h.2⟩

/-! ### Read -/
theorem bytes_at (s : ByteArray) (n : Nat) (hn : n < s.size) : s[n]?.map (fun b => (b.toNat : Int)) = some ((bytesI s)[n]?.getD 0) := by
  have h2 := bytesI_get s n hn
  rw [h2]
  simp [hn]
theorem fit_nat {V : Int} (h0 : 0 ≤ V) {k : Nat} (h : (dg 4294967296 V).length ≤ k) : FitK k V := fit_of_len h0 h
theorem readNum_no {cs : List Int} (h : readOk cs = false) : readNum cs = 0 := by unfold readNum; rw [h]; rfl
theorem readOk_nil : readOk [] = false := decide_eq_false fun h => h.1 rfl
theorem readOk_lead {cs : List Int} (h : cs[0]?.getD 0 = 48) (h1 : cs.length ≠ 1) : readOk cs = false := decide_eq_false fun hh => h1 (hh.2.1 h)
theorem readOk_not {cs : List Int} {i : Nat} (hi : i < cs.length) (h : cs[i]?.getD 0 < 48 ∨ 57 < cs[i]?.getD 0) : readOk cs = false := decide_eq_false fun hh => by
  have h2 : Decs cs := hh.2.2.1
  have := h2.get hi
  omega
theorem readOk_long {cs : List Int} (hd : Decs cs) (i : Nat) (h : 262144 < ((dg 4294967296 (readV (cs.take i))).length : Int)) : readOk cs = false := decide_eq_false fun hh => by
  have h2 := hh.2.2.2
  rcases Nat.lt_or_ge cs.length i with h3 | h3
  · rw [List.take_of_length_le (by omega)] at h; omega
  · have h4 := readV_mono cs hd i cs.length h3
    rw [readV_full] at h4
    have h5 := dg_mono _ _ (readV_nonneg cs hd i) h4
    omega
theorem readOk_yes {cs : List Int} (hd : Decs cs) (h0 : cs ≠ []) (h1 : cs[0]?.getD 0 = 48 → cs.length = 1) (h : (dg 4294967296 (readV cs)).length ≤ 262144) : readOk cs = true := decide_eq_true ⟨h0, h1, hd, h⟩
theorem readNum_yes {cs : List Int} (h : readOk cs = true) : readNum cs = readV cs := by unfold readNum; rw [h]; rfl
/-- The first i are digits. -/
def Dgs (cs : List Int) (i : Int) : Prop := ∀ j : Nat, (j : Int) < i → 48 ≤ cs[j]?.getD 0 ∧ cs[j]?.getD 0 ≤ 57
theorem dgs_zero (cs : List Int) : Dgs cs 0 := fun j hj => by omega
theorem dgs_step {cs : List Int} {i : Int} (h0 : 0 ≤ i) (h : Dgs cs i) (h1 : ¬ (cs[i.toNat]?.getD 0 < 48)) (h2 : ¬ (57 < cs[i.toNat]?.getD 0)) : Dgs cs (i + 1) := fun j hj => by
  rcases Int.lt_or_le (j : Int) i with h3 | h3
  · exact h j h3
  · obtain rfl : j = i.toNat := by omega
    omega
theorem dgs_all {cs : List Int} (h : Dgs cs cs.length) : Decs cs := fun c hc => by
  obtain ⟨j, hj, e⟩ := List.getElem_of_mem hc
  have := h j (by omega)
  rw [List.getElem?_eq_getElem hj, Option.getD_some, e] at this
  exact this
theorem readV_one {cs : List Int} {i : Int} (h0 : 0 ≤ i) (h : i < cs.length) : readV (cs.take i.toNat) * 10 + (cs[i.toNat]?.getD 0 - 48) = readV (cs.take (i + 1).toNat) := by
  rw [show (i + 1).toNat = i.toNat + 1 by omega, readV_take cs _ (by omega)]
theorem isC_eq {A N : Int} (e : A = N) {v : Value} {w : World} {B : Bx} (h : (IsC A).p v w B) : (IsC N).p v w B := e ▸ h
theorem isB_eq {A N : Bool} (e : A = N) {v : Value} {w : World} {B : Bx} (h : (IsB A).p v w B) : (IsB N).p v w B := e ▸ h
theorem str_eq {A N : ByteArray} (e : A = N) {v : Value} {w : World} {B : Bx} (h : (Lit (.string A)).p v w B) : (Lit (.string N)).p v w B := e ▸ h
/-- With a - ahead. -/
theorem wread_minus {cs : List Int} (h : 0 < cs.length) (h0 : cs[0]?.getD 0 = 45) : (readOk (cs.drop 1) = true → readNum (cs.drop 1) ≠ 0 → wreadOk cs = true ∧ wreadNum cs = -readNum (cs.drop 1)) ∧ ((readOk (cs.drop 1) = false ∨ readNum (cs.drop 1) = 0) → wreadOk cs = false ∧ wreadNum cs = 0) := by
  have hno : readOk cs = false := readOk_not h (by omega)
  have hd1 : (cs.drop 1)[0]?.getD 0 = cs[1]?.getD 0 := by rw [List.getElem?_drop]
  constructor
  · intro h1 h2
    have hl := lead_of h1
    have hp := readNum_nonneg (cs.drop 1)
    have hh := head_ne (readNum (cs.drop 1)) (by omega)
    rw [hl, hd1] at hh
    have hlen : 1 < cs.length := by
      have h3 := (of_decide_eq_true h1).1
      rcases Nat.lt_or_ge 1 cs.length with h4 | h4
      · exact h4
      · exact absurd (List.drop_eq_nil_of_le h4) h3
    have hdash : dash cs = true := decide_eq_true ⟨hlen, h0, hh⟩
    unfold wreadOk wreadNum
    rw [hdash, if_pos rfl, if_pos rfl]
    exact ⟨h1, rfl⟩
  · intro h1
    unfold wreadOk wreadNum
    cases hdash : dash cs with
    | false => exact ⟨hno, readNum_no hno⟩
    | true =>
      rw [if_pos rfl, if_pos rfl]
      cases hk : readOk (cs.drop 1) with
      | false => exact ⟨rfl, by rw [readNum_no hk]; rfl⟩
      | true =>
        exfalso
        have h2 : readNum (cs.drop 1) = 0 := h1.resolve_left (by rw [hk]; decide)
        have hl := lead_of hk
        rw [h2] at hl
        have h3 := (of_decide_eq_true hdash).2.2
        rw [← hd1, ← hl] at h3
        exact h3 rfl
theorem wread_plain {cs : List Int} (h : cs.length = 0 ∨ cs[0]?.getD 0 ≠ 45) : wreadOk cs = readOk cs ∧ wreadNum cs = readNum cs := by
  have hd : dash cs = false := decide_eq_false fun hh => by
    rcases h with h | h
    · omega
    · exact h hh.2.1
  unfold wreadOk wreadNum
  rw [hd]
  exact ⟨rfl, rfl⟩
theorem dg_len_zero {V : Int} (h : 0 ≤ V) : ((dg 4294967296 V).length : Int) = 0 ↔ V = 0 := by
  constructor
  · intro e
    have h2 : dg 4294967296 V = [] := List.length_eq_zero_iff.1 (by omega)
    have := val_dg 4294967296 (by omega) V h
    rw [h2] at this
    exact this.symm
  · rintro rfl; rw [dg_zero]; rfl
theorem three_ways (b : Bool) (V : Int) : b = false ∨ (b = true ∧ V = 0) ∨ (b = true ∧ ¬ V = 0) := by cases b <;> simp [Classical.em]
theorem drop_bytes (s : ByteArray) : bytesI (s.extract 1 s.size) = (bytesI s).drop 1 := bytesI_extract s
end Go.Proofs.Ytgnophflogmmaaa
