/- Contracts of functions, and plain facts, part 12. -/
import Derived.Test.YtgnophflogmmaaaDoorPk4
import Derived.Test.YtgnophflogmmaaaDoorPk7
import Derived.Test.YtgnophflogmmaaaDoorPk8
import Derived.Test.YtgnophflogmmaaaDoorPk9
import Derived.Test.YtgnophflogmmaaaDoorPk10
import Derived.Test.YtgnophflogmmaaaDoorPk11
set_option linter.unusedVariables false
set_option linter.unusedSimpArgs false
/- quot's calls by worth alone. -/
namespace Go.Proofs.YtgnophflogmmaaaDoor
open Go.RowKit

def RetCCB (V R : Int) (ok : Bool) (w : World) (e : Ending) (w' : World) : Prop :=
  ∃ ad n c ad2 n2 c2, e = .returned (.tuple #[.slice ad n c, .slice ad2 n2 c2, .bool ok]) ∧ Can w' ad n c V ∧ Can w' ad2 n2 c2 R ∧ Below w.heap.size w w'
theorem RetLLB.can {V R : Int} {ok : Bool} {w : World} {e : Ending} {w' : World} (h : RetLLB 32 .u32 (dg 4294967296 V) (dg 4294967296 R) ok w e w') : RetCCB V R ok w e w' := by
  obtain ⟨ad, n, c, ad2, n2, c2, e1, o1, o2, hb, _⟩ := h
  exact ⟨ad, n, c, ad2, n2, c2, e1, ⟨o1.le, o1.rds⟩, ⟨o2.le, o2.rds⟩, hb⟩

theorem num_div (ad bd : Option Addr) (n m c d : Nat) (V U : Int) (w : World) (h : Num w ad n c V) (k : Num w bd m d U) (hn : n ≤ 70368744177662) (hm : m ≤ 70368744177662) :
    Calls Tryd.prog 12 #[.slice ad n c, .slice bd m d] w (RetCCB (V / U) (remI V U) (decide (U ≠ 0)) w) := by
  obtain ⟨xs, h1, h2, rfl⟩ := h.row
  obtain ⟨zs, k1, k2, rfl⟩ := k.row
  exact (div_calls ad bd n m c d xs zs w (by omega) (by omega) h.le k.le h1 k1 h2 k2).mono fun e w' q => q.can
theorem num_gcd (ad bd : Option Addr) (n m c d : Nat) (V U : Int) (w : World) (h : Num w ad n c V) (k : Num w bd m d U) (hn : n ≤ 70368744177662) (hm : m ≤ 70368744177662) :
    Calls Tryd.prog 8 #[.slice ad n c, .slice bd m d] w (RetC (gcdI V U) w) := by
  obtain ⟨xs, h1, h2, rfl⟩ := h.row
  obtain ⟨zs, k1, k2, rfl⟩ := k.row
  exact (gcd_calls ad bd n m c d xs zs w (by omega) (by omega) h.le k.le h1 k1 h2 k2).mono fun e w' q => q.can
theorem num_digits (ad : Option Addr) (n c : Nat) (V : Int) (w : World) (h : Num w ad n c V) (hn : n ≤ 4398046511104) :
    Calls Tryd.prog 19 #[.slice ad n c] w (RetS (strB (decL V)) w) := by
  obtain ⟨xs, h1, h2, rfl⟩ := h.row
  exact digits_calls ad n c xs w (by omega) h.le h1 h2
theorem num_bytes (ad : Option Addr) (n c : Nat) (V : Int) (w : World) (h : Num w ad n c V) (hn : n ≤ 35184372088831) :
    Calls Tryd.prog 22 #[.slice ad n c] w (RetS (strB (dg 256 V).reverse) w) := by
  obtain ⟨xs, h1, h2, rfl⟩ := h.row
  exact bytes_calls ad n c xs w (by omega) h.le h1 h2
theorem num_read (s : ByteArray) (w : World) (hs : s.size ≤ 140737488351232) :
    Calls Tryd.prog 21 #[.string s] w (RetCB (readNum (bytesI s)) (readOk (bytesI s)) w) := (read_calls s w hs).mono fun e w' q => q.can
theorem num_fromb (s : ByteArray) (w : World) (hs : s.size ≤ 140737488351232) :
    Calls Tryd.prog 23 #[.string s] w (RetCB (byteNum (bytesI s)) (byteOk (bytesI s)) w) := (fromb_calls s w hs).mono fun e w' q => q.can

theorem gcdI_nonneg (V U : Int) : 0 ≤ gcdI V U := by unfold gcdI; omega
theorem remI_nonneg (V U : Int) (hV : 0 ≤ V) : 0 ≤ remI V U := by
  unfold remI
  split
  · omega
  · exact Int.emod_nonneg _ ‹_›
theorem remI_lt (V U : Int) (hU : 0 < U) : remI V U < U := by
  unfold remI
  rw [if_neg (by omega)]
  exact Int.emod_lt_of_pos _ hU
theorem remI_eq (V U : Int) (hU : U ≠ 0) : remI V U = V % U := by unfold remI; rw [if_neg hU]

/-- A list that is written out. -/
theorem num_cells (w : World) (b : Nat) (hb : w.heap.size = b) (ys : List Int) (n : Nat) (hn : ys.length = n) (hd : Dig 4294967296 ys) (cs : Array Value) (hcs : cs = (nums .u32 ys).toArray) (V : Int) (hV : val 4294967296 ys = V) :
    Num (w.alloc (.cells cs 32)) (some ⟨b, 0, none⟩) n n V := by
  subst hcs hn hb
  have k0 : Blk (w.alloc (.cells (nums .u32 ys).toArray 32)) w.heap.size 32 .u32 ys := Blk.made w 32 .u32 ys _ rfl
  exact ⟨Nat.le_refl _, ys, k0.rds, hd, hV⟩
theorem can_cells (w : World) (b : Nat) (hb : w.heap.size = b) (ys : List Int) (n : Nat) (hn : ys.length = n) (hd : Dig 4294967296 ys) (cs : Array Value) (hcs : cs = (nums .u32 ys).toArray) (V : Int) (hV : val 4294967296 ys = V) (hno : norm ys = ys) :
    Can (w.alloc (.cells cs 32)) (some ⟨b, 0, none⟩) n n V := by
  subst hcs hn hb
  have k0 : Blk (w.alloc (.cells (nums .u32 ys).toArray 32)) w.heap.size 32 .u32 ys := Blk.made w 32 .u32 ys _ rfl
  have e := norm_eq 4294967296 (by omega) hd
  rw [hno, show ((4294967296 : Nat) : Int) = 4294967296 from rfl, hV] at e
  refine ⟨Nat.le_refl _, ?_⟩
  rw [← e]
  exact k0.rds
theorem below_lit (w : World) (cs : Array Value) (t : TypeId) : Below w.heap.size w (w.alloc (.cells cs t)) := (Below.refl _ _).alloc (Nat.le_refl _) _
theorem dig_lit (ys : List Int) (h : ys.all (fun y => decide (0 ≤ y ∧ y < 4294967296)) = true) : Dig 4294967296 ys := fun y hy => by
  have := List.all_eq_true.1 h y hy
  simpa using this
end Go.Proofs.YtgnophflogmmaaaDoor

/- cruciblelaw02: tight, may. -/
namespace Go.Proofs.YtgnophflogmmaaaDoor
open Go.RowKit

theorem tight_calls (ad : Option Addr) (n c : Nat) (V : Int) (w : World) (h : Can w ad n c V) (hn : n ≤ 9223372036854775807) :
    Calls Tryd.prog 13 #[.slice ad n c] w (fun e w' => e = .returned (.bool true) ∧ w = w') := by
  have hl := h.rds.len
  by_cases h0 : n = 0
  · subst h0
    go_enter Tryd.func13, Tryd.ntmps13
    go_wp2
    go_ret
    exact ⟨rfl, rfl⟩
  · obtain ⟨k, rfl⟩ : ∃ k, n = k + 1 := ⟨n - 1, by omega⟩
    have hx := norm_last (b := 4294967296) (norm_dg 4294967296 (by omega) V) k hl
    obtain ⟨a, rfl, hc⟩ := h.rds.cell k (by omega)
    obtain ⟨x, hxx⟩ : ∃ x, (dg 4294967296 V)[k]?.getD 0 = x := ⟨_, rfl⟩
    rw [hxx] at hx hc
    have hx1 : (x != 0) = true := by simpa using hx
    have hk1 : ((k : Int) + 1 == 0) = false := by simp; omega
    have hk2 : ((k : Int) + 1 - 1) = (k : Int) := by omega
    clear hxx hx hl h0
    go_enter Tryd.func13, Tryd.ntmps13
    go_wp2
    go_ret
    exact ⟨rfl, rfl⟩

theorem powOk_mul (b n : Int) (hb : 2 ≤ b) (hn : 0 ≤ n) : powOk b n = decide (n * (blen b.toNat : Nat) ≤ 65536) := by
  unfold powOk
  have hp := blen_pos b.toNat (by omega)
  generalize blen b.toNat = l at *
  rw [decide_eq_decide]
  constructor
  · rintro ⟨_, h | h⟩
    · omega
    · exact (Int.le_ediv_iff_mul_le (by omega)).1 h
  · intro h
    exact ⟨hn, .inr ((Int.le_ediv_iff_mul_le (by omega)).2 h)⟩

theorem may_calls (b n : Int) (w : World) (hb : 0 ≤ b ∧ b < 4294967296) (hn : 0 ≤ n ∧ n ≤ 1000000) :
    Calls Tryd.prog 17 #[.int .u32 b, .int .i64 n] w (fun e w' => e = .returned (.bool (powOk b n)) ∧ Below w.heap.size w w') := by
  obtain ⟨p, hp⟩ : ∃ p, p = powOk b n := ⟨_, rfl⟩
  rw [← hp]
  by_cases hb2 : b < 2
  · have hpt : p = true := by rw [hp]; unfold powOk; exact decide_eq_true ⟨hn.1, .inl hb2⟩
    subst hpt
    clear hp
    go_enter Tryd.func17, Tryd.ntmps17
    go_wp2
    go_ret
    exact ⟨rfl, Below.refl _ _⟩
  · rw [powOk_mul b n (by omega) hn.1] at hp
    have x1 := num_cells w w.heap.size rfl [b] 1 rfl (fun y hy => by simp at hy; subst hy; exact hb) #[.int .u32 b] rfl b (by simp [val])
    have bl := below_lit w #[.int .u32 b] 32
    have h := num_len _ _ _ _ _ x1 (by omega)
    have hbits : bitsOf b = (blen b.toNat : Nat) := rfl
    rw [hbits] at h
    have hl0 := blen_pos b.toNat (by omega)
    have hl1 : blen b.toNat ≤ 32 := by
      have h1 := blen_ge b.toNat (by omega)
      have : blen b.toNat - 1 < 32 := (Nat.pow_lt_pow_iff_right (a := 2) (by omega)).1 (Nat.lt_of_le_of_lt h1 (by rw [show (2 : Nat) ^ 32 = 4294967296 from by decide]; omega))
      omega
    obtain ⟨l, hl⟩ : ∃ l : Int, (blen b.toNat : Int) = l := ⟨_, rfl⟩
    have hl0' : 0 < l := by omega
    have hl1' : l ≤ 32 := by omega
    rw [hl] at h hp
    have hm0 : 0 ≤ n * l := Int.mul_nonneg hn.1 (by omega)
    have hm1 : n * l ≤ 1000000 * 32 := Int.mul_le_mul hn.2 hl1' (by omega) (by omega)
    obtain ⟨m, hm⟩ : ∃ m, n * l = m := ⟨_, rfl⟩
    rw [hm] at hm0 hm1 hp
    have W1 : IntKind.i64.wrap (n * l) = m := by rw [hm]; exact IntWalk.i64_in _ (by omega)
    have HH := Lib.hid h
    have HP := Lib.hid hp
    clear h hbits hl hl0 hl1 hm x1 hp
    go_enter Tryd.func17, Tryd.ntmps17
    go_wp2_with fail
    with_reducible refine (HH.out).mono ?_
    rintro e w' ⟨rfl, rfl⟩
    clear HH
    go_wp2_with fail
    go_ret
    rw [HP.out]
    exact ⟨rfl, bl⟩

theorem powNum_lt (b n : Int) (hb : 0 ≤ b ∧ b < 4294967296) (L : Nat) (hL : L = 2048) : powNum b n < 4294967296 ^ L ∧ 0 ≤ powNum b n := by
  have hp : (1 : Int) < 4294967296 ^ L := by
    have := pow_le (b := 4294967296) (by omega) (show 1 ≤ L by omega)
    rw [Int.pow_succ, Int.pow_zero, Int.one_mul] at this
    omega
  unfold powNum
  split
  · rename_i h
    have h := of_decide_eq_true h
    by_cases hb2 : b < 2
    · rcases (show b = 0 ∨ b = 1 by omega) with rfl | rfl
      · rcases Nat.eq_zero_or_pos n.toNat with h0 | h0
        · rw [h0, Int.pow_zero]; exact ⟨hp, by omega⟩
        · rw [Int.zero_pow (by omega)]; exact ⟨by omega, by omega⟩
      · rw [Int.one_pow]; exact ⟨hp, by omega⟩
    · refine ⟨?_, Int.le_of_lt (Int.pow_pos (by omega))⟩
      have hn : n.toNat ≤ 65536 / blen b.toNat := by
        rcases h.2 with h2 | h2
        · omega
        · have : ((65536 / blen b.toNat : Nat) : Int) = 65536 / (blen b.toNat : Nat) := by simp
          omega
      obtain ⟨M, hM⟩ : ∃ M, M = 32 * L := ⟨_, rfl⟩
      have h1 := pow_bits b.toNat n.toNat M (by omega) (by omega) (by rw [hM, hL]; exact hn)
      rw [pow_limbs, ← hM]
      have e : b ^ n.toNat = ((b.toNat ^ n.toNat : Nat) : Int) := by
        rw [Int.natCast_pow, Int.toNat_of_nonneg hb.1]
      rw [e]
      exact Int.ofNat_lt.2 h1
  · exact ⟨by omega, by omega⟩
theorem pow_parts (b m n : Int) (hb : 0 ≤ b) (hm : 0 ≤ m) (hn : 0 ≤ n) (h : powOk b (m + n) = true) : powOk b m = true ∧ powOk b n = true ∧ powNum b m * powNum b n = powNum b (m + n) := by
  have h' := of_decide_eq_true h
  have h1 : powOk b m = true := decide_eq_true ⟨hm, by rcases h'.2 with h2 | h2
                                                       · exact .inl h2
                                                       · exact .inr (by omega)⟩
  have h2 : powOk b n = true := decide_eq_true ⟨hn, by rcases h'.2 with h2 | h2
                                                       · exact .inl h2
                                                       · exact .inr (by omega)⟩
  refine ⟨h1, h2, ?_⟩
  unfold powNum
  rw [if_pos h1, if_pos h2, if_pos h, ← Int.pow_add]
  congr 1
  omega
theorem pow_zero' (b : Int) : powOk b 0 = true ∧ powNum b 0 = 1 := by
  have h : powOk b 0 = true := by
    unfold powOk
    refine decide_eq_true ⟨by omega, .inr ?_⟩
    exact Int.ediv_nonneg (by omega) (by omega)
  refine ⟨h, ?_⟩
  unfold powNum
  rw [if_pos h]
  simp
end Go.Proofs.YtgnophflogmmaaaDoor

/- cruciblelaw02.lives: the chapter's first examples. (Printed by lives2.py.) -/
namespace Go.Proofs.YtgnophflogmmaaaDoor
open Go.RowKit

theorem gcd_lit : gcdI 12 18 = 6 := by decide
theorem pow_lit : powNum 10 3 = 1000 ∧ powOk 10 3 = true := by decide
theorem read_lit : readNum [52, 50, 57, 52, 57, 54, 55, 50, 57, 54] = 4294967296 ∧ readOk [52, 50, 57, 52, 57, 54, 55, 50, 57, 54] = true := by
  have hv : readV [52, 50, 57, 52, 57, 54, 55, 50, 57, 54] = 4294967296 := by decide
  have hok : readOk [52, 50, 57, 52, 57, 54, 55, 50, 57, 54] = true := by
    unfold readOk
    rw [hv]
    have hl : (dg 4294967296 4294967296).length ≤ 262144 := Nat.le_trans (dg_length_le 4294967296 (by omega) 2 _ (by decide)) (by omega)
    refine decide_eq_true ⟨by simp, by simp, fun c hc => ?_, hl⟩
    simp only [List.mem_cons, List.not_mem_nil, or_false] at hc
    omega
  unfold readNum
  rw [hok, if_pos rfl, hv]
  exact ⟨rfl, rfl⟩
theorem byte_lit : byteNum [0, 1, 0] = 256 ∧ byteOk [0, 1, 0] = true := by
  have hv : byteV [0, 1, 0] = 256 := by decide
  have hok : byteOk [0, 1, 0] = true := by
    unfold byteOk
    rw [hv]
    exact decide_eq_true (Nat.le_trans (dg_length_le 256 (by omega) 2 _ (by decide)) (by omega))
  unfold byteNum
  rw [hok, if_pos rfl, hv]
  exact ⟨rfl, rfl⟩
theorem dec_lit : strB (decL 7) = { data := #[55] } := by
  have : decL 7 = [55] := by
    unfold decL
    rw [if_neg (by omega), dg_pos 10 7 (by omega) (by omega), show (7 : Int) / ((10 : Nat) : Int) = 0 by decide, dg_zero]
    rfl
  rw [this]
  rfl
theorem byt_lit : strB (dg 256 65536).reverse = { data := #[1, 0, 0] } := by
  have : dg 256 65536 = [0, 0, 1] := by
    rw [dg_pos 256 65536 (by omega) (by omega), show (65536 : Int) / ((256 : Nat) : Int) = 256 by decide, dg_pos 256 256 (by omega) (by omega), show (256 : Int) / ((256 : Nat) : Int) = 1 by decide, dg_pos 256 1 (by omega) (by omega), show (1 : Int) / ((256 : Nat) : Int) = 0 by decide, dg_zero]
    rfl
  rw [this]
  rfl
theorem rb_read : bytesI { data := #[52, 50, 57, 52, 57, 54, 55, 50, 57, 54] } = [52, 50, 57, 52, 57, 54, 55, 50, 57, 54] := by rfl
theorem rb_byte : bytesI { data := #[0, 1, 0] } = [0, 1, 0] := by rfl

set_option maxHeartbeats 2000000 in
set_option maxRecDepth 20000 in
theorem lives2_calls (w : World) (hT : Tab32 w) : Calls Tryd.prog 11 #[] w (fun e w' => e = .returned (.bool true) ∧ Below w.heap.size w w') := by
  have bel := Below.refl w.heap.size w
  go_enter Tryd.func11, Tryd.ntmps11
  have x1 := num_cells w _ rfl [0, 0, 0, 1] 4 rfl (dig_lit _ (by decide)) #[.int .u32 0, .int .u32 0, .int .u32 0, .int .u32 1] rfl 79228162514264337593543950336 (by decide)
  have y1 := below_lit (w.alloc (.cells #[.int .u32 0, .int .u32 0, .int .u32 0, .int .u32 1] 32)) #[.int .u32 1, .int .u32 1] 32
  have x2 := num_cells (w.alloc (.cells #[.int .u32 0, .int .u32 0, .int .u32 0, .int .u32 1] 32)) (w.heap.size + 1) (by simp) [1, 1] 2 rfl (dig_lit _ (by decide)) #[.int .u32 1, .int .u32 1] rfl 4294967297 (by decide)
  have bl := below_trans (below_lit w #[.int .u32 0, .int .u32 0, .int .u32 0, .int .u32 1] 32) y1
  have x3 := x1.below y1 (Nat.le_refl _)
  clear y1
  have h := Lib.hid (num_div _ _ _ _ _ _ _ _ _ x3 x2 (by omega) (by omega))
  go_wp2_with fail
  with_reducible refine (h.out).mono ?_
  rintro e v1 ⟨qd, qn, qc, rd, rn, rc, rfl, fq, fr, b0⟩
  have b := below_trans bl b0
  clear b0
  clear h bl
  replace hT := hT.below b (Nat.le_refl _)
  replace bel := below_trans bel b
  clear b
  rw [show (79228162514264337593543950336 : Int) / 4294967297 = 18446744069414584320 by decide] at fq
  rw [show remI 79228162514264337593543950336 4294967297 = 4294967296 by decide] at fr
  clear x1 x2 x3
  have x1 := num_cells v1 _ rfl [7] 1 rfl (dig_lit _ (by decide)) #[.int .u32 7] rfl 7 (by decide)
  have bl := below_lit v1 #[.int .u32 7] 32
  have h := Lib.hid (num_div _ _ _ _ _ _ _ _ _ x1 (num_nil _) (by omega) (by omega))
  go_wp2_with fail
  with_reducible refine (h.out).mono ?_
  rintro e v2 ⟨ad1, n1, c1, ad2, n2, c2, rfl, f1, f2, b0⟩
  have b := below_trans bl b0
  clear b0
  clear h bl
  replace hT := hT.below b (Nat.le_refl _)
  replace fq := fq.below b (Nat.le_refl _)
  replace fr := fr.below b (Nat.le_refl _)
  replace bel := below_trans bel b
  clear b
  clear f1 f2 x1
  have bl := Below.refl v2.heap.size v2
  have h := Lib.hid ((pow_calls 10 3 v2 (by omega) (by omega) hT).mono fun e w' q => q.can)
  go_wp2_with fail
  with_reducible refine (h.out).mono ?_
  rintro e v3 ⟨pd, pn, pc, rfl, fp, b0⟩
  have b := below_trans bl b0
  clear b0
  clear h bl
  replace hT := hT.below b (Nat.le_refl _)
  replace fq := fq.below b (Nat.le_refl _)
  replace fr := fr.below b (Nat.le_refl _)
  replace bel := below_trans bel b
  clear b
  rw [pow_lit.1] at fp
  have bl := Below.refl v3.heap.size v3
  have h := Lib.hid (num_read { data := #[52, 50, 57, 52, 57, 54, 55, 50, 57, 54] } v3 (by decide))
  go_wp2_with fail
  with_reducible refine (h.out).mono ?_
  rintro e v4 ⟨nd, nn, nc, rfl, fn, b0⟩
  have b := below_trans bl b0
  clear b0
  clear h bl
  replace hT := hT.below b (Nat.le_refl _)
  replace fq := fq.below b (Nat.le_refl _)
  replace fr := fr.below b (Nat.le_refl _)
  replace fp := fp.below b (Nat.le_refl _)
  replace bel := below_trans bel b
  clear b
  rw [rb_read, read_lit.1] at fn
  have bl := Below.refl v4.heap.size v4
  have h := Lib.hid (num_fromb { data := #[0, 1, 0] } v4 (by decide))
  go_wp2_with fail
  with_reducible refine (h.out).mono ?_
  rintro e v5 ⟨md, mn, mc, rfl, fm, b0⟩
  have b := below_trans bl b0
  clear b0
  clear h bl
  replace hT := hT.below b (Nat.le_refl _)
  replace fq := fq.below b (Nat.le_refl _)
  replace fr := fr.below b (Nat.le_refl _)
  replace fp := fp.below b (Nat.le_refl _)
  replace fn := fn.below b (Nat.le_refl _)
  replace bel := below_trans bel b
  clear b
  rw [rb_byte, byte_lit.1] at fm
  have P1 := pow_lit.2
  have P2 : readOk (bytesI { data := #[52, 50, 57, 52, 57, 54, 55, 50, 57, 54] }) = true := by rw [rb_read]; exact read_lit.2
  have P3 : byteOk (bytesI { data := #[0, 1, 0] }) = true := by rw [rb_byte]; exact byte_lit.2
  have bl := below_lit v5 #[.int .u32 0, .int .u32 4294967295] 32
  have x1 := can_cells v5 _ rfl [0, 4294967295] 2 rfl (dig_lit _ (by decide)) #[.int .u32 0, .int .u32 4294967295] rfl 18446744069414584320 (by decide) (by decide)
  have x2 := fq.below bl (Nat.le_refl _)
  have h := Lib.hid (num_same_true _ _ _ _ _ _ _ _ _ x2 x1 rfl (by have := x2.len_le 2 (by decide); omega) (by omega))
  go_wp2_with fail
  with_reducible refine (h.out).mono ?_
  rintro e w' ⟨rfl, q, rfl⟩
  have b := below_trans bl (below_drewN (Below.refl _ _) q)
  generalize World.drewN (v5.alloc (.cells #[.int .u32 0, .int .u32 4294967295] 32)) q = v6 at *
  clear h bl
  replace hT := hT.below b (Nat.le_refl _)
  replace fq := fq.below b (Nat.le_refl _)
  replace fr := fr.below b (Nat.le_refl _)
  replace fp := fp.below b (Nat.le_refl _)
  replace fn := fn.below b (Nat.le_refl _)
  replace fm := fm.below b (Nat.le_refl _)
  replace bel := below_trans bel b
  clear b
  clear x1 x2 fq
  have bl := below_lit v6 #[.int .u32 0, .int .u32 1] 32
  have x1 := can_cells v6 _ rfl [0, 1] 2 rfl (dig_lit _ (by decide)) #[.int .u32 0, .int .u32 1] rfl 4294967296 (by decide) (by decide)
  have x2 := fr.below bl (Nat.le_refl _)
  have h := Lib.hid (num_same_true _ _ _ _ _ _ _ _ _ x2 x1 rfl (by have := x2.len_le 2 (by decide); omega) (by omega))
  go_wp2_with fail
  with_reducible refine (h.out).mono ?_
  rintro e w' ⟨rfl, q, rfl⟩
  have b := below_trans bl (below_drewN (Below.refl _ _) q)
  generalize World.drewN (v6.alloc (.cells #[.int .u32 0, .int .u32 1] 32)) q = v7 at *
  clear h bl
  replace hT := hT.below b (Nat.le_refl _)
  replace fr := fr.below b (Nat.le_refl _)
  replace fp := fp.below b (Nat.le_refl _)
  replace fn := fn.below b (Nat.le_refl _)
  replace fm := fm.below b (Nat.le_refl _)
  replace bel := below_trans bel b
  clear b
  clear x1 x2 fr
  have bl := below_lit v7 #[.int .u32 1000] 32
  have x1 := can_cells v7 _ rfl [1000] 1 rfl (dig_lit _ (by decide)) #[.int .u32 1000] rfl 1000 (by decide) (by decide)
  have x2 := fp.below bl (Nat.le_refl _)
  have h := Lib.hid (num_same_true _ _ _ _ _ _ _ _ _ x2 x1 rfl (by have := x2.len_le 1 (by decide); omega) (by omega))
  go_wp2_with fail
  with_reducible refine (h.out).mono ?_
  rintro e w' ⟨rfl, q, rfl⟩
  have b := below_trans bl (below_drewN (Below.refl _ _) q)
  generalize World.drewN (v7.alloc (.cells #[.int .u32 1000] 32)) q = v8 at *
  clear h bl
  replace hT := hT.below b (Nat.le_refl _)
  replace fp := fp.below b (Nat.le_refl _)
  replace fn := fn.below b (Nat.le_refl _)
  replace fm := fm.below b (Nat.le_refl _)
  replace bel := below_trans bel b
  clear b
  clear x1 x2 fp
  have bl := below_lit v8 #[.int .u32 0, .int .u32 1] 32
  have x1 := can_cells v8 _ rfl [0, 1] 2 rfl (dig_lit _ (by decide)) #[.int .u32 0, .int .u32 1] rfl 4294967296 (by decide) (by decide)
  have x2 := fn.below bl (Nat.le_refl _)
  have h := Lib.hid (num_same_true _ _ _ _ _ _ _ _ _ x2 x1 rfl (by have := x2.len_le 2 (by decide); omega) (by omega))
  go_wp2_with fail
  with_reducible refine (h.out).mono ?_
  rintro e w' ⟨rfl, q, rfl⟩
  have b := below_trans bl (below_drewN (Below.refl _ _) q)
  generalize World.drewN (v8.alloc (.cells #[.int .u32 0, .int .u32 1] 32)) q = v9 at *
  clear h bl
  replace hT := hT.below b (Nat.le_refl _)
  replace fn := fn.below b (Nat.le_refl _)
  replace fm := fm.below b (Nat.le_refl _)
  replace bel := below_trans bel b
  clear b
  clear x1 x2 fn
  have bl := below_lit v9 #[.int .u32 256] 32
  have x1 := can_cells v9 _ rfl [256] 1 rfl (dig_lit _ (by decide)) #[.int .u32 256] rfl 256 (by decide) (by decide)
  have x2 := fm.below bl (Nat.le_refl _)
  have h := Lib.hid (num_same_true _ _ _ _ _ _ _ _ _ x2 x1 rfl (by have := x2.len_le 1 (by decide); omega) (by omega))
  go_wp2_with fail
  with_reducible refine (h.out).mono ?_
  rintro e w' ⟨rfl, q, rfl⟩
  have b := below_trans bl (below_drewN (Below.refl _ _) q)
  generalize World.drewN (v9.alloc (.cells #[.int .u32 256] 32)) q = v10 at *
  clear h bl
  replace hT := hT.below b (Nat.le_refl _)
  replace fm := fm.below b (Nat.le_refl _)
  replace bel := below_trans bel b
  clear b
  clear x1 x2 fm
  have x1 := num_cells v10 _ rfl [7, 0] 2 rfl (dig_lit _ (by decide)) #[.int .u32 7, .int .u32 0] rfl 7 (by decide)
  have bl := below_lit v10 #[.int .u32 7, .int .u32 0] 32
  have h := Lib.hid (num_digits _ _ _ _ _ x1 (by omega))
  go_wp2_with fail
  with_reducible refine (h.out).mono ?_
  rintro e v11 ⟨rfl, b0⟩
  have b := below_trans bl b0
  clear b0
  clear h bl
  replace hT := hT.below b (Nat.le_refl _)
  replace bel := below_trans bel b
  clear b
  clear x1
  have D1 := dec_lit
  have x1 := num_cells v11 _ rfl [65536] 1 rfl (dig_lit _ (by decide)) #[.int .u32 65536] rfl 65536 (by decide)
  have bl := below_lit v11 #[.int .u32 65536] 32
  have h := Lib.hid (num_bytes _ _ _ _ _ x1 (by omega))
  go_wp2_with fail
  with_reducible refine (h.out).mono ?_
  rintro e v12 ⟨rfl, b0⟩
  have b := below_trans bl b0
  clear b0
  clear h bl
  replace hT := hT.below b (Nat.le_refl _)
  replace bel := below_trans bel b
  clear b
  clear x1
  have D2 := byt_lit
  have x1 := num_cells v12 _ rfl [12] 1 rfl (dig_lit _ (by decide)) #[.int .u32 12] rfl 12 (by decide)
  have y1 := below_lit (v12.alloc (.cells #[.int .u32 12] 32)) #[.int .u32 18] 32
  have x2 := num_cells (v12.alloc (.cells #[.int .u32 12] 32)) (v12.heap.size + 1) (by simp) [18] 1 rfl (dig_lit _ (by decide)) #[.int .u32 18] rfl 18 (by decide)
  have bl := below_trans (below_lit v12 #[.int .u32 12] 32) y1
  have x3 := x1.below y1 (Nat.le_refl _)
  clear y1
  have h := Lib.hid (num_gcd _ _ _ _ _ _ _ _ _ x3 x2 (by omega) (by omega))
  go_wp2_with fail
  with_reducible refine (h.out).mono ?_
  rintro e v13 ⟨gd, gn, gc, rfl, fg, b0⟩
  have b := below_trans bl b0
  clear b0
  clear h bl
  replace hT := hT.below b (Nat.le_refl _)
  replace bel := below_trans bel b
  clear b
  rw [gcd_lit] at fg
  clear x1 x2 x3
  have bl := below_lit v13 #[.int .u32 6] 32
  have x1 := can_cells v13 _ rfl [6] 1 rfl (dig_lit _ (by decide)) #[.int .u32 6] rfl 6 (by decide) (by decide)
  have x2 := fg.below bl (Nat.le_refl _)
  have h := Lib.hid (num_same_true _ _ _ _ _ _ _ _ _ x2 x1 rfl (by have := x2.len_le 1 (by decide); omega) (by omega))
  go_wp2_with fail
  with_reducible refine (h.out).mono ?_
  rintro e w' ⟨rfl, q, rfl⟩
  have b := below_trans bl (below_drewN (Below.refl _ _) q)
  generalize World.drewN (v13.alloc (.cells #[.int .u32 6] 32)) q = v14 at *
  clear h bl
  replace hT := hT.below b (Nat.le_refl _)
  replace fg := fg.below b (Nat.le_refl _)
  replace bel := below_trans bel b
  clear b
  clear x1 x2 fg
  go_wp2_with fail
  go_ret
  exact ⟨rfl, bel⟩
end Go.Proofs.YtgnophflogmmaaaDoor
