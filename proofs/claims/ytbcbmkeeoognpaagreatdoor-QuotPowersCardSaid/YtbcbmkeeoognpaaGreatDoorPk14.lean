/- Contracts of functions, and plain facts, part 14. -/
import Derived.Deep.LoopGhost
import Derived.Deep.DeepCutAuto
import Derived.Deep.CutBlock
import Derived.Test.YtbcbmkeeoognpaaGreatDoorPk4
import Derived.Test.YtbcbmkeeoognpaaGreatDoorPk5
import Derived.Test.YtbcbmkeeoognpaaGreatDoorPk6
import Derived.Test.YtbcbmkeeoognpaaGreatDoorPk7
import Derived.Test.YtbcbmkeeoognpaaGreatDoorPk9
import Derived.Test.YtbcbmkeeoognpaaGreatDoorPk10
import Derived.Test.YtbcbmkeeoognpaaGreatDoorPk11
import Derived.Test.YtbcbmkeeoognpaaGreatDoorPk12
import Derived.Test.YtbcbmkeeoognpaaGreatDoorPk13
set_option linter.unusedVariables false
set_option linter.unusedSimpArgs false
/- Long division: how it begins and what it ends in, plain. -/
namespace Go.Proofs.YtbcbmkeeoognpaaGreatDoor

theorem long_top (lb ys : List Int) (n r : Nat) (hn : 2 ≤ n) (ll : lb.length = n) (dl : Dig 4294967296 lb) (top : Int) (ht : top = lb[n - 1]?.getD 0) (hr1 : 2147483648 ≤ top * 2 ^ r) (hr2 : (top + 1) * 2 ^ r ≤ 4294967296)
    (ly : ys.length = n + 1) (dy : Dig 4294967296 ys) (hy : val 4294967296 ys = val 4294967296 lb * 2 ^ r) :
    val 4294967296 (ys.take n) = val 4294967296 ys ∧ (4294967296 : Int) ≤ 2 * (ys.take n)[n - 1]?.getD 0 ∧ 2147483648 * 4294967296 ^ (n - 1) ≤ val 4294967296 ys ∧ val 4294967296 ys < 4294967296 ^ n := by
  have h1 := val_take_succ' 4294967296 lb (n - 1)
  rw [show n - 1 + 1 = n by omega, List.take_of_length_le (by omega), ← ht] at h1
  have h2 := val_take_succ' 4294967296 ys n
  rw [List.take_of_length_le (by omega)] at h2
  have h3 := val_take_succ' 4294967296 ys (n - 1)
  rw [show n - 1 + 1 = n by omega] at h3
  have p1 : (4294967296 : Int) ^ n = 4294967296 ^ (n - 1) * 4294967296 := by rw [← Int.pow_succ]; congr 1; omega
  have l1 := val_lt (show (0 : Int) < 4294967296 by omega) (dl.take (n - 1))
  have n1 := val_nonneg (show (0 : Int) < 4294967296 by omega) (dl.take (n - 1))
  rw [show (lb.take (n - 1)).length = n - 1 by simp; omega] at l1
  have l2 := val_lt (show (0 : Int) < 4294967296 by omega) (dy.take (n - 1))
  rw [show (ys.take (n - 1)).length = n - 1 by simp; omega] at l2
  have n2 := val_nonneg (show (0 : Int) < 4294967296 by omega) (dy.take n)
  have b1 := dy.get (by omega) n
  have g1 : (ys.take n)[n - 1]?.getD 0 = ys[n - 1]?.getD 0 := by rw [List.getElem?_take_of_lt (by omega)]
  rw [g1]
  have hP : (0 : Int) < 4294967296 ^ (n - 1) := Int.pow_pos (by omega)
  have hR : (0 : Int) < 2 ^ r := Int.pow_pos (by omega)
  rw [p1] at h2 ⊢
  clear p1 g1 ht
  generalize (4294967296 : Int) ^ (n - 1) = P at *
  generalize ys[n]?.getD 0 = yn at *
  generalize ys[n - 1]?.getD 0 = hi at *
  generalize val 4294967296 (ys.take n) = T at *
  generalize val 4294967296 (ys.take (n - 1)) = T1 at *
  generalize val 4294967296 ys = Y at *
  generalize val 4294967296 (lb.take (n - 1)) = L1 at *
  generalize val 4294967296 lb = L at *
  generalize (2 : Int) ^ r = R at *
  have k1 : Y < P * 4294967296 := by
    have e1 : L * R < (top + 1) * P * R := by
      refine Int.mul_lt_mul_of_pos_right ?_ hR
      rw [Int.add_mul, Int.one_mul, Int.mul_comm top]; omega
    have e2 : (top + 1) * R * P ≤ 4294967296 * P := Int.mul_le_mul_of_nonneg_right hr2 (by omega)
    have e3 : (top + 1) * P * R = (top + 1) * R * P := by grind
    omega
  have k2 : yn = 0 := by
    rcases Int.lt_or_eq_of_le b1.1 with h | h
    · have : P * 4294967296 * 1 ≤ P * 4294967296 * yn := Int.mul_le_mul_of_nonneg_left (by omega) (by omega)
      omega
    · exact h.symm
  rw [k2, Int.mul_zero, Int.add_zero] at h2
  have k3 : 2147483648 * P ≤ Y := by
    have e1 : 2147483648 * P ≤ top * R * P := Int.mul_le_mul_of_nonneg_right hr1 (by omega)
    have e2 : top * R * P = P * top * R := by grind
    have e3 : P * top * R ≤ L * R := Int.mul_le_mul_of_nonneg_right (by omega) (by omega)
    omega
  refine ⟨h2.symm, ?_, k3, k1⟩
  have e : 2147483648 * P < (hi + 1) * P := by rw [Int.add_mul, Int.one_mul, Int.mul_comm hi]; omega
  have := Int.lt_of_mul_lt_mul_right e (by omega)
  omega

theorem long_first (la xs : List Int) (n na r : Nat) (hr : (2 : Int) ^ r ≤ 2147483648) (hn : 2 ≤ n) (hna : n ≤ na) (ll : la.length = na) (dl : Dig 4294967296 la) (lx : xs.length = na + 1) (dx : Dig 4294967296 xs)
    (hx : val 4294967296 xs = val 4294967296 la * 2 ^ r) (Y : Int) (hY : 2147483648 * 4294967296 ^ (n - 1) ≤ Y) : val 4294967296 (xs.drop (na + 1 - n)) < Y := by
  have h1 := val_split 4294967296 xs (na + 1 - n) (by omega)
  have n1 := val_nonneg (show (0 : Int) < 4294967296 by omega) (dx.take (na + 1 - n))
  have l1 := val_lt (show (0 : Int) < 4294967296 by omega) dl
  have p1 : (4294967296 : Int) ^ na = 4294967296 ^ (na + 1 - n) * 4294967296 ^ (n - 1) := by rw [← Int.pow_add]; congr 1; omega
  rw [ll, p1] at l1
  have hP : (0 : Int) < 4294967296 ^ (na + 1 - n) := Int.pow_pos (by omega)
  have hQ : (0 : Int) < 4294967296 ^ (n - 1) := Int.pow_pos (by omega)
  have hR : (0 : Int) < 2 ^ r := Int.pow_pos (by omega)
  clear p1
  generalize val 4294967296 (xs.drop (na + 1 - n)) = D at *
  generalize val 4294967296 (xs.take (na + 1 - n)) = T at *
  generalize val 4294967296 xs = X at *
  generalize val 4294967296 la = A at *
  generalize (4294967296 : Int) ^ (na + 1 - n) = P at *
  generalize (4294967296 : Int) ^ (n - 1) = Q at *
  generalize (2 : Int) ^ r = R at *
  have k1 : A * R < P * Q * R := Int.mul_lt_mul_of_pos_right l1 hR
  have k2 : P * Q * R ≤ P * Q * 2147483648 := Int.mul_le_mul_of_nonneg_left hr (by have := Int.mul_pos hP hQ; omega)
  have k3 : P * (2147483648 * Q) ≤ P * Y := Int.mul_le_mul_of_nonneg_left hY (by omega)
  have k4 : P * (2147483648 * Q) = P * Q * 2147483648 := by grind
  have k5 : P * D < P * Y := by omega
  exact Int.lt_of_mul_lt_mul_left k5 (by omega)

theorem scale_mod (A Bv R : Int) (hR : 0 < R) (hB : 0 < Bv) : (A * R) % (Bv * R) = (A % Bv) * R := by
  have h1 := Int.emod_add_mul_ediv A Bv
  have h2 := Int.emod_nonneg A (show Bv ≠ 0 by omega)
  have h3 := Int.emod_lt_of_pos A hB
  have e : A * R = (A % Bv) * R + Bv * R * (A / Bv) := by
    generalize A / Bv = q at *
    generalize A % Bv = r at *
    subst h1
    grind
  rw [e, Int.add_mul_emod_self_left, Int.emod_eq_of_lt (Int.mul_nonneg h2 (by omega)) (Int.mul_lt_mul_of_pos_right h3 hR)]
theorem scale_div (A Bv R : Int) (hR : 0 < R) (hB : 0 < Bv) : (A * R) / (Bv * R) = A / Bv := by
  have h1 := Int.emod_add_mul_ediv A Bv
  have h2 := Int.emod_nonneg A (show Bv ≠ 0 by omega)
  have h3 := Int.emod_lt_of_pos A hB
  have e : A * R = (A % Bv) * R + Bv * R * (A / Bv) := by
    generalize A / Bv = q at *
    generalize A % Bv = r at *
    subst h1
    grind
  have hy := Int.mul_pos hB hR
  rw [e, Int.add_mul_ediv_left _ _ (by omega), Int.ediv_eq_zero_of_lt (Int.mul_nonneg h2 (by omega)) (Int.mul_lt_mul_of_pos_right h3 hR), Int.zero_add]

theorem long_last (X : List Int) (n : Nat) (A Bv R : Int) (hR : 0 < R) (hB : 0 < Bv) (dX : Dig 4294967296 X) (hn : n ≤ X.length) (hX : val 4294967296 X = (A * R) % (Bv * R)) (hlt : Bv * R < 4294967296 ^ n) :
    val 4294967296 (X.take n) / R = A % Bv := by
  have h1 := val_split 4294967296 X n hn
  have n1 := val_nonneg (show (0 : Int) < 4294967296 by omega) (dX.drop n)
  have n2 := val_nonneg (show (0 : Int) < 4294967296 by omega) (dX.take n)
  have hP : (0 : Int) < 4294967296 ^ n := Int.pow_pos (by omega)
  have hY : 0 < Bv * R := Int.mul_pos hB hR
  have h2 := Int.emod_lt_of_pos (A * R) hY
  have k : val 4294967296 (X.drop n) = 0 := by
    rcases Int.lt_or_eq_of_le n1 with h | h
    · have : 4294967296 ^ n * 1 ≤ 4294967296 ^ n * val 4294967296 (X.drop n) := Int.mul_le_mul_of_nonneg_left (by omega) (by omega)
      omega
    · exact h.symm
  rw [k, Int.mul_zero, Int.add_zero] at h1
  rw [← h1, hX, scale_mod A Bv R hR hB]
  exact Int.mul_ediv_cancel _ (by omega)

variable {b P high next ylow x0 x1 x2 wlow Y W : Int}
/-- What was taken off was not too much. -/
theorem Win.kept (h : Win b P high next ylow x0 x1 x2 wlow Y W) (g X R : Int) (h1 : W / Y ≤ g) (h2 : g ≤ W / Y + 1) (hX : 0 ≤ X) (e : X + Y * g = W + (if false = true then 1 else 0) * R) : g = W / Y ∧ X = W % Y := by
  rw [if_neg (by simp), Int.zero_mul, Int.add_zero] at e
  have hm := Int.mul_comm Y g
  obtain ⟨k1, k2⟩ := (h.digit g h1 h2).1 (by omega)
  exact ⟨k1, by omega⟩
/-- It was: the divisor is put on again. -/
theorem Win.mended (h : Win b P high next ylow x0 x1 x2 wlow Y W) (g X R X2 o : Int) (h1 : W / Y ≤ g) (h2 : g ≤ W / Y + 1) (hX : 0 ≤ X ∧ X < R) (e : X + Y * g = W + (if true = true then 1 else 0) * R)
    (hY : Y < R) (hX2 : 0 ≤ X2 ∧ X2 < R) (e2 : X2 + o * R = X + Y) : g - 1 = W / Y ∧ X2 = W % Y := by
  rw [if_pos rfl, Int.one_mul] at e
  have hm := Int.mul_comm Y g
  obtain ⟨k1, k2⟩ := (h.digit g h1 h2).2 (by omega)
  obtain ⟨p1, p2, p3⟩ := h.pos
  have r1 := Int.emod_nonneg W (show Y ≠ 0 by omega)
  have r2 := Int.emod_lt_of_pos W p1
  refine ⟨k1, ?_⟩
  have e3 : X2 + o * R = W % Y + R := by omega
  rcases Int.lt_or_le o 1 with ho | ho
  · have : o * R ≤ 0 * R := Int.mul_le_mul_of_nonneg_right (by omega) (by omega)
    omega
  · rcases Int.lt_or_le 1 o with ho2 | ho2
    · have : 2 * R ≤ o * R := Int.mul_le_mul_of_nonneg_right (by omega) (by omega)
      omega
    · obtain rfl : o = 1 := by omega
      omega
end Go.Proofs.YtbcbmkeeoognpaaGreatDoor


/- quot.Digits's closure: the lowest nine digits of a variable's number, which is divided. -/
namespace Go.Proofs.YtbcbmkeeoognpaaGreatDoor
open Go.RowKit

/-- The variable holds the quotient now; its list is new; nothing else has turned. -/
def TakeR (rb : Nat) (R : Int) (w : World) (e : Ending) (w' : World) : Prop :=
  ∃ ad n c, e = .returned (.int .u32 (R % 1000000000)) ∧ w'.heap[rb]? = some (.cells #[.slice ad n c] 23 (0, 0)) ∧ Own w.heap.size w' 44 .u32 ad n c (dg 4294967296 (R / 1000000000)) ∧
    (∀ b, blkOf ad = some b → 0 < c → w.heap.size ≤ b) ∧ (∀ i, i < w.heap.size → i ≠ rb → w'.heap[i]? = w.heap[i]?) ∧ w.heap.size ≤ w'.heap.size ∧ w'.os = w.os ∧ w'.tape = w.tape ∧ w'.output = w.output

theorem take_calls (rb : Nat) (ad : Option Addr) (n c : Nat) (R : Int) (w : World) (hn : n ≤ 70368744177664) (hR : 0 ≤ R) (hb : w.heap[rb]? = some (.cells #[.slice ad n c] 23 (0, 0)))
    (hr : Rds w .u32 ad n (dg 4294967296 R)) :
    Calls Tryz.prog 123 #[.pointer (some ⟨rb, 0, none⟩)] w (TakeR rb R w) := by
  have S := small_calls ad n c (dg 4294967296 R) 1000000000 w hn hr (dg_dig 4294967296 (by omega) _) (by omega)
  have eV := val_dg 4294967296 (by omega) R hR
  rw [show ((4294967296 : Nat) : Int) = 4294967296 from rfl] at eV
  rw [eV] at S
  have HS := Lib.hid S
  have hc := cell_of_one hb
  have hlt := lt_of_block hb
  clear S eV
  go_enter Tryz.func123, Tryz.ntmps123
  go_wp2_with fail
  with_reducible refine (HS.out).mono ?_
  rintro e w1 ⟨qd, qn, qc, rfl, oq, b1⟩
  have hb1 : w1.heap[rb]? = some (.cells #[.slice ad n c] 23 (0, 0)) := by rw [b1.block rb hlt]; exact hb
  have hc1 := cell_of_one hb1
  have hf1 := free_of_one hb1
  clear HS hc
  go_wp2_with fail
  go_ret
  have hO := (Only.refl rb w1).set 0 (.slice qd qn qc)
  refine ⟨qd, qn, qc, rfl, one_setCell hb1, ⟨oq.len, oq.le, oq.big, fun h0 => ?_⟩, fun b hb0 h0 => ?_, fun i hi hne => by rw [hO.rest i hne, b1.block i hi], by rw [hO.size]; exact b1.size, by rw [hO.os]; exact b1.os, by rw [hO.tape]; exact b1.tape, by rw [hO.output]; exact b1.output⟩
  · obtain ⟨g, cs, e1, e2, e3, e4⟩ := oq.row h0
    exact ⟨g, cs, e1, e2, by rw [hO.rest g (by omega)]; exact e3, e4⟩
  · obtain ⟨g, cs, e1, e2, _⟩ := oq.row h0
    rw [e1] at hb0
    injection hb0 with hb0
    subst hb0
    exact e2
end Go.Proofs.YtbcbmkeeoognpaaGreatDoor


/- quot.Read: the number that a text in decimal tells. -/
namespace Go.Proofs.YtbcbmkeeoognpaaGreatDoor
open Go.RowKit

theorem readOk_no {cs : List Int} (h : readOk cs = false) : dg 4294967296 (readNum cs) = [] := by
  unfold readNum
  rw [h]
  exact dg_zero _

theorem read_empty (s : ByteArray) (w : World) (h : s.size = 0) :
    Calls Tryz.prog 33 #[.string s] w (RetLB 44 .u32 [] false w) := by
  have he : s.toList.isEmpty = true := by rw [toList_nil, h]; rfl
  go_enter Tryz.func33, Tryz.ntmps33
  go_wp2_with fail
  go_ret2
  exact ⟨_, _, _, rfl, Own.nil _ _ _ _ _, Below.refl _ _⟩

theorem read_lead (s : ByteArray) (w : World) (hs : s.size ≤ 140737488351232) (h : 0 < s.size) (h0 : (bytesI s)[0]?.getD 0 = 48) (h1 : s.size ≠ 1) :
    Calls Tryz.prog 33 #[.string s] w (RetLB 44 .u32 [] false w) := by
  have he : s.toList.isEmpty = false := by rw [toList_nil]; exact decide_eq_false (by omega)
  have hq : (s.toList == [48]) = false := by
    rw [beq_eq_false_iff_ne]
    intro e
    have := (toList_eq_iff s [48]).1 e
    have h2 := bytesI_length s
    rw [this] at h2
    exact h1 (by simpa using h2.symm)
  have hx : (s[0].toNat : Int) = 48 := by rw [← bytesI_get s 0 h]; exact h0
  clear h0 h1
  go_enter Tryz.func33, Tryz.ntmps33
  go_wp2_with fail
  go_ret2
  exact ⟨_, _, _, rfl, Own.nil _ _ _ _ _, Below.refl _ _⟩

set_option maxHeartbeats 2000000 in
set_option maxRecDepth 20000 in
theorem read_main (s : ByteArray) (w : World) (hs : s.size ≤ 140737488351232) (hp : 0 < s.size) (h1 : (bytesI s)[0]?.getD 0 = 48 → s.size = 1) :
    Calls Tryz.prog 33 #[.string s] w (RetLB 44 .u32 (dg 4294967296 (readNum (bytesI s))) (readOk (bytesI s)) w) := by
  have he : s.toList.isEmpty = false := by rw [toList_nil]; exact decide_eq_false (by omega)
  have HG := Lib.hid (bytesI_get s)
  have HD := Lib.hid (bytesI_dig s)
  have HL := Lib.hid (bytesI_length s)
  have H1 := Lib.hid h1
  have hE := toList_eq_iff s [48]
  have HE := Lib.hid hE
  obtain ⟨zs, HZ⟩ : ∃ zs, Hid (zs = dg 4294967296 (readNum (bytesI s))) := ⟨_, rfl⟩
  obtain ⟨ok, HO⟩ : ∃ ok, Hid (ok = readOk (bytesI s)) := ⟨_, rfl⟩
  rw [← HZ.out, ← HO.out]
  clear h1 hE
  generalize bytesI s = cs at *
  have h00 := HG.out 0 hp
  have b00 := HD.out.get (by omega) 0
  have HNE : Hid (cs ≠ []) := Lib.hid (by
    intro e
    have := HL.out
    rw [e] at this
    simp at this
    omega)
  go_enter Tryz.func33, Tryz.ntmps33
  go_upto_region 1 with (fail)
  go_cut [21] (fun s21 wx => s21 = .bool false ∧ w = wx)
  case first =>
    by_cases hc : cs[0]?.getD 0 = 48
    · have hx : (s[0].toNat : Int) = 48 := by rw [← h00]; exact hc
      have hsz := H1.out hc
      have hq : (s.toList == [48]) = true := by
        rw [beq_iff_eq]
        refine HE.out.2 ?_
        have hl : cs.length = 1 := by rw [HL.out]; exact hsz
        obtain ⟨a, rfl⟩ := List.length_eq_one_iff.1 hl
        have : a = 48 := by simpa using hc
        rw [this]
        rfl
      clear hc h00 hsz
      go_wp2_with fail
      go_meet
      case rel => exact ⟨rfl, rfl⟩
    · obtain ⟨c, hcc⟩ : ∃ c, cs[0]?.getD 0 = c := ⟨_, rfl⟩
      rw [hcc] at h00 hc b00
      have hx : (s[0].toNat : Int) = c := h00.symm
      have hc2 : (c == 48) = false := by simpa using hc
      clear hcc h00 hc
      go_wp2_with fail
      go_meet
      case rel => exact ⟨rfl, rfl⟩
  case rest =>
    obtain ⟨rfl, rfl⟩ := hcut
    clear h00 b00
    go_wp2_with fail
    go_loop [24] (fun s24 => ∃ k : Nat, k ≤ s.size ∧ s24 = .int .i64 k ∧ Hid (∀ j, j < k → 48 ≤ cs[j]?.getD 0 ∧ cs[j]?.getD 0 ≤ 57)) (fun s24 => s.size - (intOf s24).toNat)
    case atStart => exact ⟨0, by omega, rfl, Lib.hid fun j hj => by omega⟩
    case round =>
      obtain ⟨k, hk, rfl, hd⟩ := hrel
      by_cases hlt : k < s.size
      · have hx := HG.out k hlt
        have bx := HD.out.get (by omega) k
        obtain ⟨c, hcc⟩ : ∃ c, cs[k]?.getD 0 = c := ⟨_, rfl⟩
        rw [hcc] at hx bx
        have hx2 : (s[k].toNat : Int) = c := hx.symm
        have HC := Lib.hid hcc
        clear hx hcc
        by_cases hbad : 48 ≤ c ∧ c ≤ 57
        · go_wp2_with fail
          go_round
          case rel => exact ⟨k + 1, by omega, by go_num, Lib.hid fun j hj => by
            rcases Nat.lt_or_ge j k with h2 | h2
            · exact hd.out j h2
            · obtain rfl : j = k := by omega
              rw [HC.out]; exact hbad⟩
          case measure => simp [intOf]; omega
        · have hno : Hid (ok = false) := Lib.hid (by
            rw [HO.out]
            unfold readOk
            refine decide_eq_false fun hh => hbad ?_
            have hk2 : k < cs.length := by rw [HL.out]; exact hlt
            have := (show Decs cs from hh.2.2.1).get hk2
            rw [HC.out] at this
            exact this)
          have hz0 : Hid (zs = []) := Lib.hid (by
            rw [HZ.out]; exact readOk_no (by rw [← HO.out]; exact hno.out))
          by_cases hlo : c < 48
          · go_wp2_with fail
            go_ret2
            rw [hno.out, hz0.out]
            exact ⟨_, _, _, rfl, Own.nil _ _ _ _ _, Below.refl _ _⟩
          · have hhi : 57 < c := by omega
            go_wp2_with fail
            go_ret2
            rw [hno.out, hz0.out]
            exact ⟨_, _, _, rfl, Own.nil _ _ _ _ _, Below.refl _ _⟩
      · have hdecs : Hid (Decs cs) := Lib.hid (by
          intro c hc
          obtain ⟨j, hj, e⟩ := List.getElem_of_mem hc
          have := hd.out j (by rw [HL.out] at hj; omega)
          rw [List.getElem?_eq_getElem hj, Option.getD_some, e] at this
          exact this)
        have hV0 : Hid (∀ i, 0 ≤ readV (cs.take i)) := Lib.hid fun i => readV_nonneg cs hdecs.out i
        clear hd
        go_wp2_with fail
        clear hlt hk
        go_loopg
 [5, 6] s.size (fun g s5 s6 wr => ∃ (ad : Option Addr) (an ac i : Nat), s5 = .slice ad an ac ∧ s6 = .int .i64 i ∧ i ≤ s.size ∧ an ≤ 262144 ∧ App w.heap.size wr 44 .u32 ad an ac (dg 4294967296 (readV (cs.take i))) ∧
          Below w.heap.size w wr ∧ w.heap.size ≤ wr.heap.size ∧ Hid (g = s.size - i))
        case atStart => exact ⟨_, _, _, 0, rfl, rfl, by omega, by omega, by rw [List.take_zero, show readV [] = 0 from rfl, dg_zero]; exact App.nil _ _ _ _, Below.refl _ _, Nat.le_refl _, Lib.hid rfl⟩
        case round =>
          obtain ⟨ad, an, ac, i, rfl, rfl, hi, han, happ, hbel, hsz, hme⟩ := hrel
          by_cases hin : i < s.size
          · obtain ⟨P, hP⟩ : ∃ P, readV (cs.take i) = P := ⟨_, rfl⟩
            have hP0 : 0 ≤ P := by rw [← hP]; exact hV0.out i
            rw [hP] at happ
            have HPE := Lib.hid hP
            clear hP
            go_upto_block 4 with fail
            go_cut [6, 7, 8] (fun s6 s7 s8 wx => ∃ (j : Nat) (n t : Int), s6 = .int .i64 j ∧ s7 = .int .u32 n ∧ s8 = .int .u32 t ∧ i < j ∧ j ≤ s.size ∧ 1 ≤ t ∧ t ≤ 1000000000 ∧ 0 ≤ n ∧ n < t ∧ Hid (readV (cs.take j) = P * t + n) ∧ wr = wx)
            case first =>
              go_wp2_with fail
              go_loop [6, 7, 8] (fun s6 s7 s8 => ∃ (j q : Nat) (n t : Int), s6 = .int .i64 j ∧ s7 = .int .u32 n ∧ s8 = .int .u32 t ∧ i ≤ j ∧ j ≤ s.size ∧ 1 ≤ t ∧ t ≤ 1000000000 ∧ 0 ≤ n ∧ n < t ∧ Hid (t = 10 ^ q) ∧ q ≤ 9 ∧ (q = 0 ∨ i < j) ∧ Hid (readV (cs.take j) = P * t + n)) (fun s6 _ _ => s.size - (intOf s6).toNat)
              case atStart => exact ⟨i, 0, 0, 1, rfl, rfl, rfl, Nat.le_refl _, hi, by omega, by omega, by omega, by omega, Lib.hid (by simp), by omega, .inl rfl, Lib.hid (by rw [HPE.out]; simp)⟩
              case round =>
                obtain ⟨j, q, n, t, rfl, rfl, rfl, hij, hj, ht1, ht2, hn0, hn1, htq, hq, hor, hval⟩ := hrel
                by_cases hgo : j < s.size ∧ q < 9
                · have hjs : j < s.size := hgo.1
                  have ht3 : t ≤ 100000000 := by
                    rw [htq.out]
                    have := pow_le (b := 10) (by omega) (show q ≤ 8 by omega)
                    rw [show (10 : Int) ^ 8 = 100000000 from by decide] at this
                    exact this
                  have hx := HG.out j hjs
                  have hcl : j < cs.length := by rw [HL.out]; exact hjs
                  have bx := hdecs.out.get hcl
                  have hst := readV_take cs j hcl
                  rw [hval.out] at hst
                  obtain ⟨c, hcc⟩ : ∃ c, cs[j]?.getD 0 = c := ⟨_, rfl⟩
                  rw [hcc] at hx bx hst
                  rw [chunk_step] at hst
                  have hx2 : (s[j].toNat : Int) = c := hx.symm
                  have HST := Lib.hid hst
                  have htq2 : Hid (t * 10 = 10 ^ (q + 1)) := Lib.hid (by rw [Int.pow_succ, htq.out])
                  have hq9 : q < 9 := hgo.2
                  clear hx hcc hst hgo hcl htq hor hval
                  go_wp2_with fail
                  go_round
                  case rel => exact ⟨j + 1, q + 1, _, t * 10, by go_num, rfl, rfl, by omega, by omega, by omega, by omega, by omega, by omega, htq2, by omega, .inr (by omega), HST⟩
                  case measure => simp [intOf]; omega
                · have hij2 : i < j := by
                    rcases hor with h2 | h2
                    · rcases Nat.lt_or_ge j s.size with h3 | h3
                      · exact absurd ⟨h3, by omega⟩ hgo
                      · omega
                    · exact h2
                  by_cases hjs : j < s.size
                  · have hq9 : q = 9 := by
                      rcases Nat.lt_or_ge q 9 with h3 | h3
                      · exact absurd ⟨hjs, h3⟩ hgo
                      · omega
                    have ht9 : ¬ t < 1000000000 := by rw [htq.out, hq9]; decide
                    clear hgo hor hq9 htq
                    go_wp2_with fail
                    go_meet
                    case rel => exact ⟨j, n, t, rfl, rfl, rfl, hij2, hj, ht1, ht2, hn0, hn1, hval, rfl⟩
                  · clear hgo hor htq
                    go_wp2_with fail
                    go_meet
                    case rel => exact ⟨j, n, t, rfl, rfl, rfl, hij2, hj, ht1, ht2, hn0, hn1, hval, rfl⟩
            case rest =>
              obtain ⟨j, n, t, rfl, rfl, rfl, hij, hj, ht1, ht2, hn0, hn1, hval, rfl⟩ := hcut
              clear hin hi
              have hlP := Lib.hid happ.len
              have hI : Hid (App w.heap.size wr 44 .u32 ad an ac (dg 4294967296 P) ∧ Dig 4294967296 (dg 4294967296 P) ∧ Below w.heap.size w wr ∧ w.heap.size ≤ wr.heap.size) := Lib.hid ⟨happ, dg_dig 4294967296 (by omega) _, hbel, hsz⟩
              clear happ hbel hsz
              go_wp2_with fail
              go_loopw [9, 66] (fun s9 s66 wz => ∃ (k : Nat) (c : Int) (ys : List Int), s9 = .int .u64 c ∧ s66 = .int .i64 k ∧ k ≤ an ∧ 0 ≤ c ∧ c ≤ 999999999 ∧ App w.heap.size wz 44 .u32 ad an ac ys ∧ Dig 4294967296 ys ∧ Below w.heap.size w wz ∧ w.heap.size ≤ wz.heap.size ∧ Hid (∀ q, k ≤ q → ys[q]?.getD 0 = (dg 4294967296 P)[q]?.getD 0) ∧
                Hid (val 4294967296 (ys.take k) + 4294967296 ^ k * c = val 4294967296 ((dg 4294967296 P).take k) * t + n)) (fun _ s66 _ => an - (intOf s66).toNat)
              case atStart => exact ⟨0, n, _, rfl, rfl, Nat.zero_le _, by omega, by omega, hI.out.1, hI.out.2.1, hI.out.2.2.1, hI.out.2.2.2, Lib.hid fun _ _ => rfl, Lib.hid (by simp [val])⟩
              case round =>
                clear hI
                obtain ⟨k, c, ys, rfl, rfl, hk, hc0, hc1, happ, dys, hbel, hsz, hsame, hsum⟩ := hrel
                by_cases hkn : k < an
                · obtain ⟨g, rfl, hg, hcell, hfree, hset, honly⟩ := happ.opened (by omega)
                  have ck := hcell k hkn
                  have fk := hfree k
                  have bx := dys.get (by omega) k
                  have hyl := happ.len
                  have hsm := hsame.out k (Nat.le_refl _)
                  obtain ⟨x, hx⟩ : ∃ x, ys[k]?.getD 0 = x := ⟨_, rfl⟩
                  rw [hx] at ck bx
                  have hm0 : 0 ≤ x * t := Int.mul_nonneg bx.1 (by omega)
                  have hm1 : x * t ≤ 4294967295 * 1000000000 := Int.mul_le_mul (by omega) ht2 (by omega) (by omega)
                  obtain ⟨m, hm⟩ : ∃ m, x * t = m := ⟨_, rfl⟩
                  rw [hm] at hm0 hm1
                  have W1 : IntKind.u64.wrap (x * t) = m := by rw [hm]; exact IntWalk.u64_in _ (by omega)
                  have hcar : (c + m) / 4294967296 ≤ 999999999 := by
                    have hxt : x * t + t ≤ 4294967296 * t := by
                      have := Int.mul_le_mul_of_nonneg_right (show x + 1 ≤ 4294967296 by omega) (show 0 ≤ t by omega)
                      rw [Int.add_mul, Int.one_mul] at this
                      exact this
                    omega
                  have ST := Lib.hid (times_step (dg 4294967296 P) ys k c t (c + m) n (by omega) hsm (by rw [← hsm, hx, hm]; omega) hsum.out)
                  have SM : Hid (∀ q, k + 1 ≤ q → (ys.set k ((c + m) % 4294967296))[q]?.getD 0 = (dg 4294967296 P)[q]?.getD 0) := Lib.hid fun q hq => by
                    rw [List.getElem?_set_ne (by omega)]; exact hsame.out q (by omega)
                  have A2 := Lib.hid (hset k ((c + m) % 4294967296) hkn)
                  have B2 := Lib.hid (Only.below hbel hg (honly k (.int .u32 ((c + m) % 4294967296))))
                  have S2 := Lib.hid (show w.heap.size ≤ (wr.setCell ⟨g, k, none⟩ (.int .u32 ((c + m) % 4294967296))).heap.size by rw [(honly k _).size]; exact hsz)
                  have D2 := Lib.hid (dys.set (show 0 ≤ (c + m) % 4294967296 by omega) (show (c + m) % 4294967296 < 4294967296 by omega) k)
                  clear hcell hfree hset honly hsm hx hm hyl happ hsame hsum hbel hsz
                  go_wp2_with fail
                  go_roundw
                  case rel => exact ⟨k + 1, _, _, rfl, by go_num, by omega, by omega, hcar, A2.out, D2.out, B2.out, S2.out, SM, ST⟩
                  case measure => simp [intOf]; omega
                · obtain rfl : k = an := by omega
                  have hyl := happ.len
                  have hS2 := hsum.out
                  rw [← hyl] at hS2
                  by_cases hcz : c = 0
                  · subst hcz
                    have hE := times_end0 P t n ys hP0 ht1 hn0 dys (by rw [hyl]; exact hlP.out.symm) hS2
                    rw [← hval.out] at hE
                    have HA : Hid (App w.heap.size wr 44 .u32 ad k ac (dg 4294967296 (readV (cs.take j)))) := Lib.hid (by rw [← hE]; exact happ)
                    clear hE happ dys hsame hsum hS2 hkn hyl
                    go_wp2_with fail
                    go_roundg (s.size - j)
                    case measure => have := hme.out; omega
                    case rel => exact ⟨_, _, _, j, rfl, rfl, hj, han, HA.out, hbel, hsz, Lib.hid rfl⟩
                  · have hcp : 0 < c := by omega
                    have hE := times_end1 P t n c ys hP0 ht1 hn0 dys (by rw [hyl]; exact hlP.out.symm) ⟨hcp, by omega⟩ hS2
                    rw [← hval.out] at hE
                    have HEE := Lib.hid hE
                    clear hE dys hsame hsum hS2 hkn hyl hcz
                    by_cases hbig : k + 1 ≤ 262144
                    · have hnb : ¬ (262144 : Int) < (k : Int) + 1 := by omega
                      go_wp2_with (at_builtin; refine app_one w.heap.size rfl (.tmp 89) (.tmp 92) 23 44 .u32 4 rfl Tryz.underlying23 info_limb (by omega) ad k ac ys c rfl rfl happ hbel hsz (by omega) ?_; intro ad3 c3 w5 k1 k2 k3)
                      go_roundg (s.size - j)
                      case measure => have := hme.out; omega
                      case rel => exact ⟨_, _, _, j, rfl, rfl, hj, hbig, by rw [← HEE.out]; exact k1, k2, k3, Lib.hid rfl⟩
                    · have hnb : (262144 : Int) < (k : Int) + 1 := by omega
                      have hno : Hid (ok = false) := Lib.hid (by
                        rw [HO.out]
                        unfold readOk
                        refine decide_eq_false fun hh => ?_
                        have h3 := hh.2.2.2
                        have h4 := dg_mono _ _ (hV0.out j) (readV_mono cs hdecs.out j s.size hj)
                        rw [← HEE.out, List.length_append, List.length_singleton, happ.len, ← HL.out, readV_full] at h4
                        omega)
                      have hz0 : Hid (zs = []) := Lib.hid (by
                        rw [HZ.out]; exact readOk_no (by rw [← HO.out]; exact hno.out))
                      go_wp2_with (at_builtin; refine app_one w.heap.size rfl (.tmp 89) (.tmp 92) 23 44 .u32 4 rfl Tryz.underlying23 info_limb (by omega) ad k ac ys c rfl rfl happ hbel hsz (by omega) ?_; intro ad3 c3 w5 k1 k2 k3)
                      go_ret2
                      rw [hno.out, hz0.out]
                      exact ⟨_, _, _, rfl, Own.nil _ _ _ _ _, k2⟩
          · obtain rfl : i = s.size := by omega
            have hfull : readV (cs.take s.size) = readV cs := by rw [← HL.out]; exact readV_full cs
            have hlen := happ.len
            rw [hfull] at happ hlen
            have hok : Hid (ok = true) := Lib.hid (by
              rw [HO.out]
              unfold readOk
              exact decide_eq_true ⟨HNE.out, fun h => by rw [HL.out]; exact H1.out h, hdecs.out, by omega⟩)
            have hzs : Hid (zs = dg 4294967296 (readV cs)) := Lib.hid (by
              rw [HZ.out]
              unfold readNum
              rw [if_pos (by rw [← HO.out]; exact hok.out)])
            have hn := norm_calls ad an ac (dg 4294967296 (readV cs)) wr (by omega) happ.own.le happ.rds (dg_dig 4294967296 (by omega) _)
            have eV := val_dg 4294967296 (by omega) (readV cs) (by rw [← hfull]; exact hV0.out _)
            rw [show ((4294967296 : Nat) : Int) = 4294967296 from rfl] at eV
            rw [eV] at hn
            have HN := Lib.hid hn
            clear hn eV hlen hfull happ hi hin
            go_wp2_with fail
            with_reducible refine (HN.out).mono ?_
            rintro e w5 ⟨rd, rn, rc, rfl, or, b5⟩
            go_wp2_with fail
            go_ret2
            rw [hok.out, hzs.out]
            exact ⟨_, _, _, rfl, or.mono hsz, below_then hbel hsz b5⟩

theorem read_calls (s : ByteArray) (w : World) (hs : s.size ≤ 140737488351232) :
    Calls Tryz.prog 33 #[.string s] w (RetLB 44 .u32 (dg 4294967296 (readNum (bytesI s))) (readOk (bytesI s)) w) := by
  by_cases h0 : s.size = 0
  · have e : bytesI s = [] := List.length_eq_zero_iff.1 (by rw [bytesI_length]; exact h0)
    have hok : readOk (bytesI s) = false := by rw [e]; rfl
    rw [hok, readOk_no hok]
    exact read_empty s w h0
  · by_cases h1 : (bytesI s)[0]?.getD 0 = 48 → s.size = 1
    · exact read_main s w hs (by omega) h1
    · have h2 : (bytesI s)[0]?.getD 0 = 48 ∧ s.size ≠ 1 := by
        rcases Classical.em ((bytesI s)[0]?.getD 0 = 48) with h2 | h2
        · exact ⟨h2, fun e => h1 fun _ => e⟩
        · exact absurd (fun h3 => absurd h3 h2) h1
      have hok : readOk (bytesI s) = false := by
        unfold readOk
        refine decide_eq_false fun hh => h2.2 ?_
        have := hh.2.1 h2.1
        rwa [bytesI_length] at this
      rw [hok, readOk_no hok]
      exact read_lead s w hs (by omega) h2.1 h2.2
end Go.Proofs.YtbcbmkeeoognpaaGreatDoor


/- Numbers as so many bytes in two's complement: plain. -/
namespace Go.Proofs.YtbcbmkeeoognpaaGreatDoor

end Go.Proofs.YtbcbmkeeoognpaaGreatDoor


/- RSub by worth alone. -/
namespace Go.Proofs.YtbcbmkeeoognpaaGreatDoor
open Go.RowKit

end Go.Proofs.YtbcbmkeeoognpaaGreatDoor


/- RShl by worth alone. -/
namespace Go.Proofs.YtbcbmkeeoognpaaGreatDoor
open Go.RowKit

end Go.Proofs.YtbcbmkeeoognpaaGreatDoor

