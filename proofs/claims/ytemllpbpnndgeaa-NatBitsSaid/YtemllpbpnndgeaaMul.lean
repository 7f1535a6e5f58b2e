/- nat.Mul: what the call answers. -/
import Derived.Test.YtemllpbpnndgeaaProg
import Derived.Test.YtemllpbpnndgeaaCut
import Derived.Test.YtemllpbpnndgeaaMulMath
import Derived.Deep.QuietTactic
import Derived.BigQuiet
set_option linter.unusedVariables false
set_option linter.unusedSimpArgs false
namespace Go.Proofs.Ytemllpbpnndgeaa
open Go.RowKit

/-- The row behind i places of the first number. -/
def MulR (w : World) (t : TypeId) (xs zs : List Int) (m n i : Nat) (wr : World) : Prop :=
  ∃ ys, Blk wr w.heap.size t .u32 ys ∧ ys.length = m + n ∧ Dig 4294967296 ys ∧ Below w.heap.size w wr ∧ val 4294967296 ys = val 4294967296 (xs.take i) * val 4294967296 zs ∧ ∀ j, i + n ≤ j → ys[j]?.getD 0 = 0
/-- The row behind k places of the second one, c carried. -/
def MulI (w : World) (t : TypeId) (xs zs : List Int) (m n i k : Nat) (c : Int) (wr : World) : Prop :=
  ∃ ys, Blk wr w.heap.size t .u32 ys ∧ ys.length = m + n ∧ Dig 4294967296 ys ∧ Below w.heap.size w wr ∧ 0 ≤ c ∧ c < 4294967296 ∧
    val 4294967296 ys + c * 4294967296 ^ (i + k) = val 4294967296 (xs.take i) * val 4294967296 zs + xs[i]?.getD 0 * 4294967296 ^ i * val 4294967296 (zs.take k) ∧ ∀ j, i + n ≤ j → ys[j]?.getD 0 = 0

/-- nat.Mul: the product. -/
theorem mul_calls (ad bd : Option Addr) (na nb ca cb : Nat) (la lb : List Int) (w : World) (hl : (na + nb) * 4 ≤ 281474976710656) (hac : na ≤ ca) (hbc : nb ≤ cb)
    (ha : Rds w .u32 ad na la) (hb : Rds w .u32 bd nb lb) (da : Dig 4294967296 la) (db : Dig 4294967296 lb) :
    Calls Try.prog 15 #[.slice ad na ca, .slice bd nb cb] w (RetL 28 .u32 (dg 4294967296 (val 4294967296 la * val 4294967296 lb)) w) := by
  have rx := ha.norm
  have rz := hb.norm
  have dx := norm_dig da
  have dz := norm_dig db
  have hma := norm_length_le la
  have hnb := norm_length_le lb
  rw [ha.len] at hma
  rw [hb.len] at hnb
  have HV : Hid (val 4294967296 (norm la) * val 4294967296 (norm lb) = val 4294967296 la * val 4294967296 lb) := by rw [val_norm, val_norm]; rfl
  have c1 := cut_calls ad na ca la w (by omega) hac ha
  have c2 := cut_calls bd nb cb lb w (by omega) hbc hb
  have C1 := Lib.hid c1
  have C2 := Lib.hid c2
  clear c1 c2 ha hb
  generalize norm la = xs at *
  generalize norm lb = zs at *
  obtain ⟨m, hm⟩ : ∃ m, xs.length = m := ⟨_, rfl⟩
  obtain ⟨n, hn⟩ : ∃ n, zs.length = n := ⟨_, rfl⟩
  rw [hm] at rx hma C1
  rw [hn] at rz hnb C2
  have HM := Lib.hid hm
  have HN := Lib.hid hn
  clear hm hn
  have hmk := make_rule (P := Try.prog) 23 28 .u32 4 Try.underlying23 info_limb (by omega) (m + n) (by omega) ((m : Int) + n) (by omega)
  go_enter Try.func15, Try.ntmps15
  go_wp2_with fail
  refine (C1.out).mono ?_
  rintro e w' ⟨rfl, rfl⟩
  go_wp2_with fail
  refine (C2.out).mono ?_
  rintro e w' ⟨rfl, rfl⟩
  go_wp2_with fail
  clear hmk
  have hr0 : MulR w 28 xs zs m n 0 (w.alloc (.cells (nums .u32 (List.replicate (m + n) 0)).toArray 28)) :=
    ⟨_, Blk.made _ _ _ _ _ rfl, by simp, Dig.replicate _ (by omega) _, (Below.refl _ _).alloc (Nat.le_refl _) _, by simp [val, val_replicate], fun j _ => by simp [List.getElem?_replicate]; split <;> rfl⟩
  go_loopw [21] (fun i wr => ∃ k : Nat, k ≤ m ∧ i = .int .i64 k ∧ MulR w 28 xs zs m n k wr) (fun i _ => m - (intOf i).toNat)
  case atStart => exact ⟨0, Nat.zero_le _, rfl, hr0⟩
  case round =>
    obtain ⟨i, hi, rfl, hR⟩ := hrel
    clear hr0
    by_cases him : i < m
    · have hI0 : MulI w 28 xs zs m n i 0 0 wr := by
        obtain ⟨ys, h1, h2, h3, h4, h5, h6⟩ := hR
        exact ⟨ys, h1, h2, h3, h4, by omega, by omega, by simp [h5, val], h6⟩
      clear hR
      go_wp2
      go_loopw [26, 7] (fun j cy wr => ∃ k : Nat, ∃ c : Int, k ≤ n ∧ j = .int .i64 k ∧ cy = .int .u64 c ∧ MulI w 28 xs zs m n i k c wr) (fun j _ _ => n - (intOf j).toNat)
      case atStart => exact ⟨0, 0, Nat.zero_le _, rfl, rfl, hI0⟩
      case round =>
        clear hI0
        obtain ⟨k, c, hk, rfl, rfl, ys, h1, h2, h3, h4, hc0, hc1, h5, h6⟩ := hrel
        have H2 := Lib.hid h2
        have H5 := Lib.hid h5
        have H6 := Lib.hid h6
        clear h2 h5 h6
        by_cases hkn : k < n
        · obtain ⟨a, rfl, hx⟩ := rx.cell i him
          obtain ⟨b, rfl, hz⟩ := rz.cell k hkn
          have hxl : wr.cell? (a.add i) = some (.int .u32 (xs[i]?.getD 0)) := (h4.cell (by simpa [Addr.add] using World.block_lt_of_cell? w _ hx)).trans hx
          have hzl : wr.cell? (b.add k) = some (.int .u32 (zs[k]?.getD 0)) := (h4.cell (by simpa [Addr.add] using World.block_lt_of_cell? w _ hz)).trans hz
          have hy := h1.cell (i + k) (by rw [H2.out]; omega)
          have hf := h1.free (i + k)
          clear hx hz
          have S := mul_step 4294967296 ys (i + k) (by rw [H2.out]; omega) _ c (xs[i]?.getD 0 * zs[k]?.getD 0) rfl
          have bx := dx.get (by omega) i
          have bz := dz.get (by omega) k
          have bo := h3.get (by omega) (i + k)
          have bb := mul_bound (o := ys[i + k]?.getD 0) rfl bx.1 bx.2 bz.1 bz.2 bo.1 bo.2 hc0 hc1
          have N := mul_inner 4294967296 _ _ zs ys _ i k (by rw [HN.out]; exact hkn) c _ H5.out S
          have HS := Lib.hid N
          clear S N H5
          generalize hgx : xs[i]?.getD 0 = x at *
          have HX := Lib.hid hgx
          clear hgx
          generalize zs[k]?.getD 0 = z at *
          generalize hgy : ys[i + k]?.getD 0 = y at *
          have HY := Lib.hid hgy
          clear hgy
          generalize ht : x * z = t at *
          have HT := Lib.hid ht
          clear ht
          obtain ⟨bt0, bt1, bs0, bs1⟩ := bb
          have W1 : IntKind.i64.wrap ((i : Int) + k) = (i : Int) + k := IntWalk.i64_in _ (by omega)
          have W2 : IntKind.u64.wrap (x * z) = t := by rw [HT.out]; exact IntWalk.u64_in _ (by omega)
          have W3 : IntKind.u64.wrap (t + y) = t + y := IntWalk.u64_in _ (by omega)
          have W4 : IntKind.u64.wrap (c + (t + y)) = c + (t + y) := IntWalk.u64_in _ (by omega)
          have W5 : ((i : Int) + k).toNat = i + k := by omega
          have W6 : (0 : Int) ≤ (i : Int) + k := by omega
          go_wp2_with fail
          go_quiet (fail)
          clear W1 W2 W3 W4 W5 W6
          go_wp2
          go_roundw
          case rel =>
            refine ⟨k + 1, _, by omega, by go_num, rfl, _, (h1.drewN nq).set (i + k) _, by simp [H2.out], h3.set (by omega) (by omega) _, below_set (below_drewN h4 nq) _ _ _ (Nat.le_refl _), by omega, by omega, by rw [HX.out]; exact HS.out, fun j hj => ?_⟩
            rw [List.getElem?_set_ne (by omega)]
            exact H6.out j (by omega)
          case measure => simp [intOf]; omega
        · obtain rfl : k = n := by omega
          have hy := h1.cell (i + k) (by rw [H2.out]; omega)
          have hf := h1.free (i + k)
          have bo := h3.get (by omega) (i + k)
          have E := mul_outer 4294967296 xs zs ys i k (by rw [HM.out]; exact him) HN.out.symm (by rw [H2.out]; omega) c (H6.out _ (Nat.le_refl _)) H5.out
          have HE := Lib.hid E
          clear E
          go_wp2
          go_roundw
          case rel =>
            refine ⟨i + 1, by omega, by go_num, _, h1.set (i + k) c, by simp [H2.out], h3.set hc0 hc1 _, below_set h4 _ _ _ (Nat.le_refl _), HE.out, fun j hj => ?_⟩
            rw [List.getElem?_set_ne (by omega)]
            exact H6.out j (by omega)
          case measure => simp [intOf]; omega
    · obtain rfl : i = m := by omega
      obtain ⟨ys, h1, h2, h3, h4, h5, h6⟩ := hR
      have H2 := Lib.hid h2
      have H5 := Lib.hid h5
      have H6 := Lib.hid h6
      clear h2 h5 h6
      have hk := cut_calls (some ⟨w.heap.size, 0, none⟩) (i + n) (i + n) ys wr (by omega) (Nat.le_refl _) (by have := h1.rds; rwa [H2.out] at this)
      go_wp2_with fail
      refine hk.mono ?_
      rintro e w' ⟨rfl, rfl⟩
      go_wp2_with fail
      go_ret
      refine h1.ret (Nat.le_refl _) (by rw [H2.out]; omega) h3 _ ?_ h4
      rw [← HV.out, H5.out, ← HM.out, List.take_length]
end Go.Proofs.Ytemllpbpnndgeaa
