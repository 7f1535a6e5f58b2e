/- crucibleref01: trim, bytes, limbs: what the calls answer. -/
import Derived.Test.YtemllpbpnndgeaaProg
import Derived.Test.YtemllpbpnndgeaaBase
import Derived.Test.YtemllpbpnndgeaaRefMath
import Derived.Deep.QuietTactic
import Derived.BigQuiet
import Derived.BigRegion
set_option linter.unusedVariables false
set_option linter.unusedSimpArgs false
namespace Go.Proofs.Ytemllpbpnndgeaa
open Go.RowKit

theorem info_int : (Try.prog.info? 3).map (fun i => (i.zero, i.size, i.bytes)) = some (some (.int .i64 0), 1, 8) := by kernel_rfl
theorem info_limb' : (Try.prog.info? 28).map (fun i => (i.zero, i.size, i.bytes)) = some (some (.int .u32 0), 1, 4) := by kernel_rfl

/-- trim: without noughts at the end. -/
theorem trim_calls (ad : Option Addr) (n c : Nat) (xs : List Int) (w : World) (hn : n ≤ 9223372036854775807) (hnc : n ≤ c) (hr : Rds w .i64 ad n xs) :
    Calls Try.prog 53 #[.slice ad n c] w fun e w' => e = .returned (.slice ad (norm xs).length c) ∧ w = w' := by
  have HL := Lib.hid hr.len
  go_enter Try.func53, Try.ntmps53
  go_wp2
  go_loop [0] (fun v => ∃ k : Nat, k ≤ n ∧ v = .slice ad k c ∧ Hid (∀ j, k ≤ j → xs[j]?.getD 0 = 0)) (fun v => match v with | .slice _ k _ => k | _ => 0)
  case atStart => exact ⟨n, Nat.le_refl _, rfl, fun j hj => by rw [List.getElem?_eq_none (by rw [HL.out]; exact hj)]; rfl⟩
  case round =>
    obtain ⟨k, hk, rfl, hz⟩ := hrel
    have hkc : k ≤ c := by omega
    by_cases h0 : 0 < k
    · obtain ⟨a, rfl, hcell⟩ := hr.cell (k - 1) (by omega)
      clear hr
      go_wp2
      · rename_i hb
        go_round
        case rel =>
          refine ⟨k - 1, by omega, rfl, fun j hj => ?_⟩
          by_cases e : j = k - 1
          · subst e; simpa using hb
          · exact hz.out j (by omega)
        case measure => simp; omega
      · have hb : (xs[k - 1]?.getD 0 == 0) = false := by assumption
        have e := norm_stop xs k (by rw [HL.out]; omega) hz.out (.inr (by simpa using hb))
        have e2 : (norm xs).length = k := by rw [e, List.length_take, HL.out]; omega
        go_ret
        rw [e2]
        exact ⟨rfl, rfl⟩
    · obtain rfl : k = 0 := by omega
      have E := Lib.hid (show (norm xs).length = 0 by rw [norm_stop xs 0 (Nat.zero_le _) hz.out (.inl rfl)]; rfl)
      go_wp2
      go_ret
      rw [E.out]
      exact ⟨rfl, rfl⟩

/-- bytes: behind i limbs. -/
def BytesR (w : World) (xs : List Int) (i : Nat) (v : Value) (wr : World) : Prop :=
  ∃ ad c ds, v = .slice ad (4 * i) c ∧ App w.heap.size wr 3 .i64 ad (4 * i) c ds ∧ Dig 256 ds ∧ Below w.heap.size w wr ∧ w.heap.size ≤ wr.heap.size ∧ val 256 ds = val 4294967296 (xs.take i)
/-- bytes: behind k bytes of a limb, x is left of it. -/
def BytesI (w : World) (xs : List Int) (i k : Nat) (x : Int) (v : Value) (wr : World) : Prop :=
  ∃ ad c ds, v = .slice ad (4 * i + k) c ∧ App w.heap.size wr 3 .i64 ad (4 * i + k) c ds ∧ Dig 256 ds ∧ Below w.heap.size w wr ∧ w.heap.size ≤ wr.heap.size ∧
    0 ≤ x ∧ x < 256 ^ (4 - k) ∧ val 256 ds + 256 ^ (4 * i + k) * x = val 4294967296 (xs.take (i + 1))

set_option maxHeartbeats 400000 in
/-- bytes: a number's bytes, the lowest first, none 0 at the end. -/
theorem bytes_calls (ad : Option Addr) (n c : Nat) (xs : List Int) (w : World) (hn : n ≤ 1099511627776) (hr : Rds w .u32 ad n xs) (dx : Dig 4294967296 xs) :
    Calls Try.prog 42 #[.slice ad n c] w (RetL 3 .i64 (dg 256 (val 4294967296 xs)) w) := by
  have HL := Lib.hid hr.len
  have hmk := make0_rule (P := Try.prog) 53 3 .i64 8 Try.underlying53 info_int (by omega) (4 * n) (by omega) (4 * (n : Int)) (by omega)
  go_enter Try.func42, Try.ntmps42
  go_wp2
  clear hmk
  have hr0 : BytesR w xs 0 (.slice (some ⟨w.heap.size, 0, none⟩) 0 (4 * n)) (w.alloc (.cells (madeCells #[.int .i64 0] (4 * n)) 3)) :=
    ⟨_, _, [], rfl, App.made _ _ _ _ _ (Nat.le_refl _) (by omega) _ rfl, Dig.nil _, (Below.refl _ _).alloc (Nat.le_refl _) _, by simp, by simp [val]⟩
  go_loopw [3, 4] (fun v i wr => ∃ k : Nat, k ≤ n ∧ i = .int .i64 k ∧ BytesR w xs k v wr) (fun _ i _ => n - (intOf i).toNat)
  case atStart => exact ⟨0, Nat.zero_le _, rfl, hr0⟩
  case round =>
    obtain ⟨i, hi, rfl, ad1, c1, ds, rfl, h1, h2, h3, h4, h5⟩ := hrel
    clear hr0
    have H5 := Lib.hid h5
    clear h5
    by_cases hin : i < n
    · obtain ⟨a, rfl, hx⟩ := hr.cell i hin
      have hxl : wr.cell? (a.add i) = some (.int .u32 (xs[i]?.getD 0)) := (h3.cell (by simpa [Addr.add] using World.block_lt_of_cell? w _ hx)).trans hx
      have bx := dx.get (by omega) i
      have hI0 : BytesI w xs i 0 (xs[i]?.getD 0) (.slice ad1 (4 * i) c1) wr :=
        ⟨ad1, c1, ds, rfl, h1, h2, h3, h4, bx.1, bx.2, by rw [H5.out, val_take_succ _ _ _ (by rw [HL.out]; exact hin), Nat.add_zero, pow4]⟩
      clear hx
      generalize xs[i]?.getD 0 = x0 at *
      go_wp2
      go_loopw [3, 5, 6] (fun v x j wr => ∃ k : Nat, ∃ q : Int, k ≤ 4 ∧ j = .int .i64 k ∧ x = .int .i64 q ∧ BytesI w xs i k q v wr) (fun _ _ j _ => 4 - (intOf j).toNat)
      case atStart => exact ⟨0, x0, by omega, rfl, rfl, hI0⟩
      case round =>
        clear hI0 h1 h2 h3 h4 hxl bx
        obtain ⟨k, x, hk, rfl, rfl, ad2, c2, es, rfl, g1, g2, g3, g4, g5, g6, g7⟩ := hrel
        have hlen := g1.len
        have HE := Lib.hid (bytes_step es _ hlen x _ g5 g7)
        have H7 := Lib.hid g7
        have gx : x < 4294967296 := Int.lt_of_lt_of_le g6 (pow_le (b := 256) (by omega) (show 4 - k ≤ 4 by omega))
        have H6 := Lib.hid g6
        clear hlen g7 g6
        by_cases hk4 : k < 4
        · go_wp2_with (at_builtin; refine app_one w.heap.size rfl (.tmp 26) (.tmp 29) 53 3 .i64 8 rfl Try.underlying53 info_int (by omega) ad2 (4 * i + k) c2 es (x % 256) rfl rfl g1 g3 g4 (by omega) ?_; intro ad3 c3 w3 k1 k2 k3)
          go_roundw
          case rel =>
            refine ⟨k + 1, _, by omega, by go_num, rfl, ad3, c3, es ++ [x % 256], rfl, k1, g2.append (Dig.cons (by omega) (by omega) (Dig.nil _)), k2, k3, by omega, ?_, HE.out⟩
            have := H6.out
            rw [show 4 - k = (4 - (k + 1)) + 1 by omega, Int.pow_succ] at this
            exact Int.ediv_lt_of_lt_mul (by omega) this
          case measure => simp [intOf]; omega
        · obtain rfl : k = 4 := by omega
          have hx0 : x = 0 := by have := H6.out; simp at this; omega
          have HV := Lib.hid (show val 256 es = val 4294967296 (xs.take (i + 1)) by have := H7.out; rw [hx0] at this; simpa using this)
          clear hx0
          go_wp2
          go_roundw
          case rel => exact ⟨i + 1, by omega, by go_num, ad2, c2, es, rfl, g1, g2, g3, g4, HV.out⟩
          case measure => simp [intOf]; omega
    · obtain rfl : i = n := by omega
      have hk := trim_calls ad1 (4 * i) c1 ds wr (by omega) h1.own.le h1.rds
      go_wp2_with fail
      refine hk.mono ?_
      rintro e w' ⟨rfl, rfl⟩
      go_wp2_with fail
      go_ret
      have O := h1.own
      have hl := norm_length_le ds
      rw [h1.len] at hl
      refine ⟨_, _, _, rfl, ?_, h3⟩
      have E := norm_eq 256 (by omega) h2
      have hv : val ((256 : Nat) : Int) ds = val 4294967296 xs := by rw [← HL.out, List.take_length] at H5; exact H5.out
      rw [hv] at E
      rw [← E]
      exact O.norm
def LimbR (w : World) (ls : List Int) (j : Nat) (wr : World) : Prop :=
  ∃ out, Blk wr w.heap.size 28 .u32 out ∧ LimbSt ls out j ∧ Below w.heap.size w wr

set_option maxHeartbeats 400000 in
/-- limbs: the list of a number by its bytes. -/
theorem limbs_calls (ad : Option Addr) (n c : Nat) (xs : List Int) (w : World) (hn : n ≤ 140737488355328) (hnc : n ≤ c) (hr : Rds w .i64 ad n xs) (dx : Dig 256 xs) :
    Calls Try.prog 43 #[.slice ad n c] w (RetL 28 .u32 (dg 4294967296 (val 256 xs)) w) := by
  have ht := Lib.hid (trim_calls ad n c xs w (by omega) hnc hr)
  have rx := hr.norm
  have dl := norm_dig dx
  have hl := norm_length_le xs
  rw [hr.len] at hl
  have HV := Lib.hid (val_norm 256 xs)
  have HNN := Lib.hid (norm_norm xs)
  clear hr
  generalize norm xs = ls at *
  obtain ⟨m, hm⟩ : ∃ m, ls.length = m := ⟨_, rfl⟩
  rw [hm] at ht rx hl
  have HM := Lib.hid hm
  have S0 := limb_start ls
  rw [hm] at S0
  clear hm
  have hmk := make_rule (P := Try.prog) 23 28 .u32 4 Try.underlying23 info_limb' (by omega) ((m + 3) / 4) (by omega) (((m : Int) + 3) / 4) (by omega)
  go_enter Try.func43, Try.ntmps43
  go_wp2_with fail
  refine (ht.out).mono ?_
  rintro e w' ⟨rfl, rfl⟩
  go_wp2_with fail
  clear hmk
  have hr0 : LimbR w ls m (w.alloc (.cells (nums .u32 (List.replicate ((m + 3) / 4) 0)).toArray 28)) :=
    ⟨_, Blk.made _ _ _ _ _ rfl, S0, (Below.refl _ _).alloc (Nat.le_refl _) _⟩
  go_loopw [4] (fun i wr => ∃ j : Nat, j ≤ m ∧ i = .int .i64 ((j : Int) - 1) ∧ LimbR w ls j wr) (fun i _ => ((intOf i) + 1).toNat)
  case atStart => exact ⟨m, Nat.le_refl _, rfl, hr0⟩
  case round =>
    obtain ⟨j, hj, rfl, out, h1, h2, h3⟩ := hrel
    clear hr0 S0
    by_cases hj0 : 0 < j
    · obtain ⟨j, rfl⟩ : ∃ i, j = i + 1 := ⟨j - 1, by omega⟩
      obtain ⟨a, rfl, hxl⟩ := (rx.below h3 (Nat.le_refl _)).cell j (by omega)
      obtain ⟨s1, s2, s3, s4⟩ := limb_step ls out j (by rw [HM.out]; omega) dl h2
      have hlen : out.length = (m + 3) / 4 := by rw [h2.2.1, HM.out]
      have hy := h1.cell (j / 4) s3
      have hf := h1.free (j / 4)
      have bx := dl.get (by omega) j
      have S4 := Lib.hid s4
      have bo := h2.1.get (by omega) (j / 4)
      have hq : j / 4 < (m + 3) / 4 := by omega
      have ej : (((j + 1 : Nat) : Int) - 1) = (j : Int) := by omega
      rw [ej]
      clear s4 h2 hlen ej
      generalize hgx : ls[j]?.getD 0 = x at *
      have HX := Lib.hid hgx
      clear hgx
      generalize hgy : out[j / 4]?.getD 0 = y at *
      have HY := Lib.hid hgy
      clear hgy
      have W1 : IntKind.i64.wrap ((j : Int).tdiv 4) = (j : Int) / 4 := IntWalk.i64_quo _ _ (by omega)
      have W2 : IntKind.u32.wrap (y * 256) = y * 256 := IntWalk.u32_in _ (by omega)
      have W3 : IntKind.u32.wrap (y * 256 + x) = y * 256 + x := IntWalk.u32_in _ (by omega)
      have W4 : IntKind.u32.wrap x = x := IntWalk.u32_in _ (by omega)
      have W5 : ((j : Int) / 4).toNat = j / 4 := by omega
      have W6 : (0 : Int) ≤ (j : Int) / 4 := by omega
      have W7 : (j : Int) / 4 < (((m + 3) / 4 : Nat) : Int) := by omega
      go_wp2_with fail
      go_region
      clear W1 W2 W3 W4 W5 W6 W7
      go_wp2
      go_roundw
      case rel => exact ⟨j, by omega, by go_num, _, (h1.set (j / 4) _).drew, S4.out, below_drew (below_set h3 _ _ _ (Nat.le_refl _))⟩
      case measure => simp [intOf]
    · obtain rfl : j = 0 := by omega
      go_wp2
      go_ret
      have E := limb_end ls out dl HNN.out h2
      have O := h1.own (B := w.heap.size) (Nat.le_refl _) out.length (Nat.le_refl _) (by rw [h2.2.1, HM.out]; omega)
      have hlen : out.length = (m + 3) / 4 := by rw [h2.2.1, HM.out]
      rw [List.take_length] at O
      refine ⟨_, _, _, rfl, ?_, h3⟩
      rw [← HV.out, ← E, ← hlen]
      exact O

theorem bytes_len {n : Nat} {xs : List Int} (hn : xs.length = n) (h : Dig 4294967296 xs) : (dg 256 (val 4294967296 xs)).length ≤ 4 * n := by
  refine dg_length_le 256 (by omega) _ _ ?_
  have := val_lt (by omega) h
  rw [hn, ← pow4] at this
  exact this

end Go.Proofs.Ytemllpbpnndgeaa
