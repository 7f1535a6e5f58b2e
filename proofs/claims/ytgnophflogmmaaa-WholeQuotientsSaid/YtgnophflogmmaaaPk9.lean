/- Contracts of functions, and plain facts, part 9. -/
import Derived.Deep.RegionHeld3
import Derived.Test.YtgnophflogmmaaaPk2
import Derived.Test.YtgnophflogmmaaaPk5
import Derived.Test.YtgnophflogmmaaaPk6
import Derived.Test.YtgnophflogmmaaaPk7
import Derived.Test.YtgnophflogmmaaaPk8
set_option linter.unusedVariables false
set_option linter.unusedSimpArgs false
/- Whole numbers: Norm of the program. -/
namespace Go.Proofs.Ytgnophflogmmaaa
open Go.RowKit

theorem made_sign (N : Int) (V : Int) (hV : V = N.natAbs) : (decide (sgI N = -1) && decide (0 < V)) = decide (N < 0) := by
  unfold sgI
  by_cases h : N < 0
  · rw [if_pos h, decide_eq_true h]; simp; omega
  · rw [if_neg h, decide_eq_false h]
    split <;> simp

theorem wmade_as (s : Int) (ad : Option Addr) (n c : Nat) (V : Int) (r : Bool) (w : World) (h : Can w ad n c V) (hV : 0 ≤ V) (hs : (decide (s = -1) && decide (0 < V)) = r) :
    Calls Try.prog 52 #[.int .i8 s, .slice ad n c] w (fun e w' => e = .returned (.agg #[.bool r, .slice ad n c]) ∧ Below w.heap.size w w') := by
  have := wmade_calls s ad n c V w h hV
  rwa [hs] at this

theorem wnorm_calls (ng : Bool) (ad : Option Addr) (n c : Nat) (V : Int) (w : World) (h : Num w ad n c V) (hn : n ≤ 70368744177663) :
    Calls Try.prog 33 #[.agg #[.bool ng, .slice ad n c]] w (RetInt (sI ng V) w) := by
  have hV := h.nonneg
  have b1 : Below w.heap.size w (w.alloc (.cells #[.bool ng, .slice ad n c] 25)) := (Below.refl _ _).alloc (Nat.le_refl _) _
  have b2 : Below w.heap.size w ((w.alloc (.cells #[.bool ng, .slice ad n c] 25)).alloc (.cells #[.bool false, .slice none 0 0] 25)) := below_alloc b1 _
  have k1 : Cel ((w.alloc (.cells #[.bool ng, .slice ad n c] 25)).alloc (.cells #[.bool false, .slice none 0 0] 25)) (w.heap.size + 1) 25 [.bool false, .slice none 0 0] := Cel.made _ _ _ _ (by simp)
  have HS := Lib.hid (wsigned_calls ng ad n c V _ (h.below b2 (Nat.le_refl _)) hn)
  have HG := Lib.hid (made_sign (sI ng V) V (sI_abs ng V hV).symm)
  have HA := Lib.hid (sI_abs ng V hV)
  generalize sI ng V = N at *
  clear h b1
  go_enter Try.func33, Try.ntmps33
  go_wp2_with fail
  refine (HS.out).mono ?_
  rintro e w1 ⟨ad1, n1, d1, rfl, f1, b3⟩
  have k2 := k1.next b3
  have b4 := below_trans b2 b3
  clear k1 HS b2 b3
  have HM := Lib.hid (wmade_calls (sgI N) ad1 n1 d1 V w1 f1 hV)
  rw [HG.out] at HM
  generalize sgI N = s at *
  have hb0 : w.heap.size ≤ w.heap.size + 1 := Nat.le_succ _
  generalize w.heap.size + 1 = b at *
  go_wp2_with fail
  refine (HM.out).mono ?_
  rintro e w2 ⟨rfl, b5⟩
  have k3 := k2.next b5
  have c0 := k3.cell 0 _ rfl
  have c1 := k3.cell 1 _ rfl
  have g0 := k3.free 0
  have g1 := k3.free 1
  go_wp2
  refine bodyPost_ret (results_cell_row rfl _ _ b 25 #[.bool (decide (N < 0)), .slice ad1 n1 d1] (0, 0) _ rfl ((k3.set 0 _).set 1 _).row Try.underlying25 rfl size_int) rfl ?_
  refine ⟨_, _, _, rfl, ?_, below_set (below_set (below_trans b4 b5) _ _ _ hb0) _ _ _ hb0⟩
  rw [HA.out]
  exact (f1.below b5 (Nat.le_refl _)).poke2 k3 _ _

/-- As RetInt, sign and size by name. -/
def RetIntR (r : Bool) (A : Int) (w : World) (e : Ending) (w' : World) : Prop :=
  ∃ ad n c, e = .returned (.agg #[.bool r, .slice ad n c]) ∧ Can w' ad n c A ∧ Below w.heap.size w w'
theorem RetInt.named {N : Int} {r : Bool} {A : Int} (hr : decide (N < 0) = r) (hA : A = (N.natAbs : Int)) {w : World} {e : Ending} {w' : World} (h : RetInt N w e w') : RetIntR r A w e w' := by
  obtain ⟨ad, n, c, e1, h1, h2⟩ := h
  rw [hr] at e1
  rw [← hA] at h1
  exact ⟨ad, n, c, e1, h1, h2⟩
theorem sg_bd (N : Int) : -1 ≤ sgI N ∧ sgI N ≤ 1 := by unfold sgI; split <;> (try split) <;> omega
theorem sg_mul (N M : Int) : sgI N * sgI M = sgI (N * M) := by
  unfold sgI
  rcases Int.lt_trichotomy N 0 with h | h | h
  · rcases Int.lt_trichotomy M 0 with k | k | k
    · have := Int.mul_pos_of_neg_of_neg h k
      rw [if_pos h, if_pos k, if_neg (by omega), if_neg (by omega)]; rfl
    · subst k; rw [Int.mul_zero]; simp
    · have := Int.mul_neg_of_neg_of_pos h k
      rw [if_pos h, if_neg (by omega), if_neg (by omega), if_pos this]; rfl
  · subst h; rw [Int.zero_mul]; simp
  · rcases Int.lt_trichotomy M 0 with k | k | k
    · have := Int.mul_neg_of_pos_of_neg h k
      rw [if_neg (by omega), if_neg (by omega), if_pos k, if_pos this]; rfl
    · subst k; rw [Int.mul_zero]; simp
    · have := Int.mul_pos h k
      rw [if_neg (by omega), if_neg (by omega), if_neg (by omega), if_neg (by omega), if_neg (by omega), if_neg (by omega)]; rfl
theorem i8_sg (s t : Int) (hs : -1 ≤ s ∧ s ≤ 1) (ht : -1 ≤ t ∧ t ≤ 1) : IntKind.i8.wrap (s * t) = s * t := by
  rcases (show s = -1 ∨ s = 0 ∨ s = 1 by omega) with rfl | rfl | rfl <;> rcases (show t = -1 ∨ t = 0 ∨ t = 1 by omega) with rfl | rfl | rfl <;> decide
end Go.Proofs.Ytgnophflogmmaaa

/- TwinInt, SameInt, LeftInt of the statements. -/
namespace Go.Proofs.Ytgnophflogmmaaa
open Go.RowKit

theorem Tw.poke {w : World} {b n : Nat} {xs : List Int} (h : Tw w b n xs) {b2 : Nat} {t : TypeId} {b0 : Bool} {cs : List Value} (k : Cel w b2 t (.bool b0 :: cs)) (j : Nat) (v : Value) : Tw (w.setCell ⟨b2, j, none⟩ v) b n xs := by
  have hne : b2 ≠ b := by
    rintro rfl
    have h1 := h.blk.cell 0 (by simp)
    have h2 := k.cell 0 _ rfl
    rw [h1] at h2
    cases h2
  refine ⟨h.len, ?_, h.dig⟩
  have hb := h.blk
  unfold Blk at *
  simp only [World.setCell, Array.getElem?_modify, hb, if_neg hne]

set_option maxHeartbeats 2000000 in
theorem twinInt_calls (ng : Bool) (ad : Option Addr) (n c : Nat) (xs : List Int) (w : World) (h : Arg w ad n c xs) (hn : n ≤ 70368744177663) :
    Calls Try.prog 15 #[.agg #[.bool ng, .slice ad n c]] w (fun e w' => ∃ b, e = .returned (.agg #[.bool ng, .slice (some ⟨b, 0, none⟩) n (n + 1)]) ∧ Tw w' b n xs ∧ Below w.heap.size w w') := by
  have b1 : Below w.heap.size w (w.alloc (.cells #[.bool ng, .slice ad n c] 25)) := (Below.refl _ _).alloc (Nat.le_refl _) _
  have b2 : Below w.heap.size w ((w.alloc (.cells #[.bool ng, .slice ad n c] 25)).alloc (.cells #[.bool false, .slice none 0 0] 25)) := below_alloc b1 _
  have k0 : Cel ((w.alloc (.cells #[.bool ng, .slice ad n c] 25)).alloc (.cells #[.bool false, .slice none 0 0] 25)) w.heap.size 25 [.bool ng, .slice ad n c] := (Cel.made _ _ _ _ rfl : Cel (w.alloc (.cells #[.bool ng, .slice ad n c] 25)) w.heap.size 25 [.bool ng, .slice ad n c]).next ((Below.refl _ _).alloc (Nat.le_refl _) _)
  have k1 : Cel ((w.alloc (.cells #[.bool ng, .slice ad n c] 25)).alloc (.cells #[.bool false, .slice none 0 0] 25)) (w.heap.size + 1) 25 [.bool false, .slice none 0 0] := Cel.made _ _ _ _ (by simp)
  have h2 := h.below b2 (Nat.le_refl _)
  have hb0 : w.heap.size < w.heap.size + 1 := Nat.lt_succ_self _
  have HT : Hid (∀ w', Below w.heap.size w w' → Calls Try.prog 49 #[.slice ad n c] w' (fun e w'' => ∃ b, e = .returned (.slice (some ⟨b, 0, none⟩) n (n + 1)) ∧ Tw w'' b n xs ∧ Below w'.heap.size w' w'')) :=
    fun w' b => num_twin ad n c xs w' (h.below b (Nat.le_refl _)) hn
  clear h b1 h2
  go_enter Try.func15, Try.ntmps15
  go_wp2_with fail
  generalize (w.alloc (.cells #[.bool ng, .slice ad n c] 25)).alloc (.cells #[.bool false, .slice none 0 0] 25) = w0 at *
  generalize w.heap.size + 1 = g at *
  have c0 := k0.cell 0 _ rfl
  have c1 := k0.cell 1 _ rfl
  have d0 := k1.cell 0 _ rfl
  have d1 := k1.cell 1 _ rfl
  have f0 := k1.free 0
  have f1 := k1.free 1
  have bd : Below w.heap.size w w0.drew := below_drew b2
  go_region_held3 (fun w' => w'.cell? ⟨w.heap.size, 0, none⟩ = some (.bool ng) ∧ w'.cell? ⟨w.heap.size, 1, none⟩ = some (.slice ad n c)) (go_keep)
    (first
      | (go_at_call 49
         refine (HT.out _ bd).mono ?_
         rintro e w2 ⟨b, rfl, ht, hb⟩
         have bb : Below w0.heap.size w0 w2 := below_then (below_drew (Below.refl w0.heap.size w0)) (Nat.le_refl _) hb
         have e0 := below_cell bb (Nat.le_refl _) c0
         have e1 := below_cell bb (Nat.le_refl _) c1
         have k2 := k1.next bb
         have u0 := k2.cell 0 _ rfl
         have u1 := k2.cell 1 _ rfl
         have v0 := k2.free 0
         have v1 := k2.free 1
         have w0c : ((w2.setCell ⟨g, 0, none⟩ (.bool ng)).setCell ⟨g, 1, none⟩ (.slice (some ⟨b, 0, none⟩) n (n + 1))).cell? ⟨w.heap.size, 0, none⟩ = some (.bool ng) := by
           rw [World.cell?_setCell_other _ _ _ _ (by intro h; injection h; omega), World.cell?_setCell_other _ _ _ _ (by intro h; injection h; omega)]; exact e0
         have w1c : ((w2.setCell ⟨g, 0, none⟩ (.bool ng)).setCell ⟨g, 1, none⟩ (.slice (some ⟨b, 0, none⟩) n (n + 1))).cell? ⟨w.heap.size, 1, none⟩ = some (.slice ad n c) := by
           rw [World.cell?_setCell_other _ _ _ _ (by intro h; injection h; omega), World.cell?_setCell_other _ _ _ _ (by intro h; injection h; omega)]; exact e1))
  all_goals
    go_wp2
    refine bodyPost_ret (results_cell_row rfl _ _ g 25 #[.bool ng, .slice (some ⟨b, 0, none⟩) n (n + 1)] (0, 0) _ rfl ((k2.set 0 _).set 1 _).row Try.underlying25 rfl size_int) rfl ?_
    exact ⟨b, rfl, (ht.poke k2 0 _).poke (k2.set 0 _) 1 _, below_set (below_set (below_trans b2 bb) _ _ _ (Nat.le_of_lt hb0)) _ _ _ (Nat.le_of_lt hb0)⟩

/-- A bool is answered, nothing old has turned. -/
def RetBB (r : Bool) (w : World) (e : Ending) (w' : World) : Prop := e = .returned (.bool r) ∧ Below w.heap.size w w'

theorem sameInt_calls (ng mg : Bool) (ad bd : Option Addr) (n m c d : Nat) (V U : Int) (w : World) (ha : Can w ad n c V) (hb : Can w bd m d U) (hV : 0 ≤ V) (hU : 0 ≤ U) (hn : n ≤ 1000000000000) (hm : m ≤ 1000000000000) :
    Calls Try.prog 18 #[.agg #[.bool ng, .slice ad n c], .agg #[.bool mg, .slice bd m d]] w (RetBB (ng == mg && decide (V = U)) w) := by
  have b1 : Below w.heap.size w (w.alloc (.cells #[.bool ng, .slice ad n c] 25)) := (Below.refl _ _).alloc (Nat.le_refl _) _
  have b2 : Below w.heap.size w ((w.alloc (.cells #[.bool ng, .slice ad n c] 25)).alloc (.cells #[.bool mg, .slice bd m d] 25)) := below_alloc b1 _
  have k0 : Cel ((w.alloc (.cells #[.bool ng, .slice ad n c] 25)).alloc (.cells #[.bool mg, .slice bd m d] 25)) w.heap.size 25 [.bool ng, .slice ad n c] := (Cel.made _ _ _ _ rfl : Cel (w.alloc (.cells #[.bool ng, .slice ad n c] 25)) w.heap.size 25 [.bool ng, .slice ad n c]).next ((Below.refl _ _).alloc (Nat.le_refl _) _)
  have k1 : Cel ((w.alloc (.cells #[.bool ng, .slice ad n c] 25)).alloc (.cells #[.bool mg, .slice bd m d] 25)) (w.heap.size + 1) 25 [.bool mg, .slice bd m d] := Cel.made _ _ _ _ (by simp)
  have HS := Lib.hid (num_same ad bd n m c d V U _ (ha.below b2 (Nat.le_refl _)) (hb.below b2 (Nat.le_refl _)) hV hU hn hm)
  have c0 := k0.cell 0 _ rfl
  have c1 := k0.cell 1 _ rfl
  have d0 := k1.cell 0 _ rfl
  have d1 := k1.cell 1 _ rfl
  obtain ⟨r, hr⟩ : ∃ r, r = (ng == mg && decide (V = U)) := ⟨_, rfl⟩
  rw [← hr]
  have HR := Lib.hid hr
  clear ha hb b1 hr k0 k1
  generalize decide (V = U) = vu at *
  cases ng <;> cases mg
  · have HE := Lib.hid (show r = vu by rw [HR.out]; rfl)
    go_enter Try.func18, Try.ntmps18
    go_wp2_with fail
    refine (HS.out).mono ?_
    rintro e w' ⟨rfl, q, rfl⟩
    go_wp2
    go_ret
    rw [HE.out]
    exact ⟨rfl, below_drewN b2 _⟩
  · have HE := Lib.hid (show r = false by rw [HR.out]; rfl)
    go_enter Try.func18, Try.ntmps18
    go_wp2
    go_ret
    rw [HE.out]
    exact ⟨rfl, b2⟩
  · have HE := Lib.hid (show r = false by rw [HR.out]; rfl)
    go_enter Try.func18, Try.ntmps18
    go_wp2
    go_ret
    rw [HE.out]
    exact ⟨rfl, b2⟩
  · have HE := Lib.hid (show r = vu by rw [HR.out]; rfl)
    go_enter Try.func18, Try.ntmps18
    go_wp2_with fail
    refine (HS.out).mono ?_
    rintro e w' ⟨rfl, q, rfl⟩
    go_wp2
    go_ret
    rw [HE.out]
    exact ⟨rfl, below_drewN b2 _⟩

theorem leftInt_calls (ng : Bool) (b : Nat) (ld : Option Addr) (n c : Nat) (xs : List Int) (w : World) (ht : Tw w b n xs) (hl : Arg w ld n c xs) (hn : n ≤ 1000000000000) :
    Calls Try.prog 19 #[.agg #[.bool ng, .slice (some ⟨b, 0, none⟩) n (n + 1)], .agg #[.bool ng, .slice ld n c]] w (RetBB true w) := by
  have b1 : Below w.heap.size w (w.alloc (.cells #[.bool ng, .slice (some ⟨b, 0, none⟩) n (n + 1)] 25)) := (Below.refl _ _).alloc (Nat.le_refl _) _
  have b2 : Below w.heap.size w ((w.alloc (.cells #[.bool ng, .slice (some ⟨b, 0, none⟩) n (n + 1)] 25)).alloc (.cells #[.bool ng, .slice ld n c] 25)) := below_alloc b1 _
  have k0 : Cel ((w.alloc (.cells #[.bool ng, .slice (some ⟨b, 0, none⟩) n (n + 1)] 25)).alloc (.cells #[.bool ng, .slice ld n c] 25)) w.heap.size 25 [.bool ng, .slice (some ⟨b, 0, none⟩) n (n + 1)] := (Cel.made _ _ _ _ rfl : Cel (w.alloc (.cells #[.bool ng, .slice (some ⟨b, 0, none⟩) n (n + 1)] 25)) w.heap.size 25 [.bool ng, .slice (some ⟨b, 0, none⟩) n (n + 1)]).next ((Below.refl _ _).alloc (Nat.le_refl _) _)
  have k1 : Cel ((w.alloc (.cells #[.bool ng, .slice (some ⟨b, 0, none⟩) n (n + 1)] 25)).alloc (.cells #[.bool ng, .slice ld n c] 25)) (w.heap.size + 1) 25 [.bool ng, .slice ld n c] := Cel.made _ _ _ _ (by simp)
  have HS := Lib.hid (num_left b ld n c xs _ (ht.below b2 (Nat.le_refl _)) (hl.below b2 (Nat.le_refl _)) hn)
  have c0 := k0.cell 0 _ rfl
  have c1 := k0.cell 1 _ rfl
  have d0 := k1.cell 0 _ rfl
  have d1 := k1.cell 1 _ rfl
  clear ht hl b1 k0 k1
  go_enter Try.func19, Try.ntmps19
  go_wp2_with fail
  refine (HS.out).mono ?_
  rintro e w' ⟨rfl, q, rfl⟩
  go_wp2
  go_ret
  exact ⟨rfl, below_drewN b2 _⟩
end Go.Proofs.Ytgnophflogmmaaa

/- quot.moved: a number times 2 to the power of n, n below 32. -/
namespace Go.Proofs.Ytgnophflogmmaaa
open Go.RowKit

theorem or_moved (x c : Int) (r : Nat) (hr : r < 32) (hx : 0 ≤ x ∧ x < 4294967296) (hc : 0 ≤ c ∧ c < 2 ^ r) :
    bits .or .u64 (x * 2 ^ r) c = x * 2 ^ r + c ∧ 0 ≤ x * 2 ^ r + c ∧ x * 2 ^ r < 18446744073709551616 ∧ 0 ≤ x * 2 ^ r ∧ x * 2 ^ r + c < 18446744073709551616 ∧ (x * 2 ^ r + c) / 4294967296 < 2 ^ r ∧ c < 4294967296 := by
  obtain ⟨x, rfl⟩ := Int.eq_ofNat_of_zero_le hx.1
  obtain ⟨c, rfl⟩ := Int.eq_ofNat_of_zero_le hc.1
  have hp : (2 : Nat) ^ r ≤ 2147483648 := by
    have : ∀ r : Nat, r < 32 → 2 ^ r ≤ 2147483648 := by decide
    exact this r hr
  have e0 : ((2 : Int) ^ r) = ((2 ^ r : Nat) : Int) := by simp
  have e1 : (x : Int) * 2 ^ r = ((x * 2 ^ r : Nat) : Int) := by simp
  rw [e1, e0]
  rw [e0] at hc
  have hx2 : x * 2 ^ r ≤ 4294967295 * 2 ^ r := Nat.mul_le_mul_right _ (by omega)
  have hp0 := Nat.two_pow_pos r
  have hj := nat_join r (x * 2 ^ r) c (by rw [Nat.mul_mod_left]) (by omega)
  generalize 2 ^ r = R at *
  have e : bits .or .u64 ((x * R : Nat) : Int) (c : Int) = ((x * R ||| c : Nat) : Int) := Go.bits_or_u64_nat (x * R) c (by omega) (by omega)
  rw [e, hj]
  refine ⟨by simp, by omega, by omega, by omega, by omega, ?_, by omega⟩
  omega

def MovedI (w : World) (la : List Int) (n r m k : Nat) (c : Int) (wr : World) : Prop :=
  ∃ ds, App w.heap.size wr 78 .u32 (some ⟨w.heap.size, 0, none⟩) k (n + 1) ds ∧ Dig 4294967296 ds ∧ Below w.heap.size w wr ∧ w.heap.size ≤ wr.heap.size ∧ 0 ≤ c ∧ c < 2 ^ r ∧
    val 4294967296 ds + c * 4294967296 ^ k = val 4294967296 (la.take k) * 2 ^ r

/-- A list of one place more, worth the number times 2 to the power of r. -/
def MovedR (w : World) (la : List Int) (n r : Nat) (e : Ending) (w' : World) : Prop :=
  ∃ zs, zs.length = n + 1 ∧ Dig 4294967296 zs ∧ val 4294967296 zs = val 4294967296 la * 2 ^ r ∧ RetL 78 .u32 zs w e w'

theorem moved_calls (ad : Option Addr) (n c r : Nat) (la : List Int) (w : World) (hn : n ≤ 70368744177662) (hc : n ≤ c) (hr : r < 32) (ha : Rds w .u32 ad n la) (da : Dig 4294967296 la) :
    Calls Try.prog 101 #[.slice ad n c, .int .i64 r] w (MovedR w la n r) := by
  have HL := Lib.hid ha.len
  have hmk := make0_rule (P := Try.prog) 23 78 .u32 4 Try.underlying23 info_limb (by omega) (n + 1) (by omega) ((n : Int) + 1) (by omega)
  have hI : MovedI w la n r n 0 0 (w.alloc (.cells (madeCells #[.int .u32 0] (n + 1)) 78)) :=
    ⟨[], App.made _ _ _ _ _ (Nat.le_refl _) (by omega) _ rfl, Dig.nil _, (Below.refl _ _).alloc (Nat.le_refl _) _, by simp, by omega, Int.pow_pos (by omega), by simp [val]⟩
  go_enter Try.func101, Try.ntmps101
  go_wp2
  clear hmk
  go_loopw [16, 5, 6] (fun i v cy wr => ∃ k : Nat, ∃ c : Int, k ≤ n ∧ i = .int .i64 k ∧ cy = .int .u64 c ∧ v = .slice (some ⟨w.heap.size, 0, none⟩) k (n + 1) ∧ MovedI w la n r n k c wr) (fun i _ _ _ => n - (intOf i).toNat)
  case atStart => exact ⟨0, 0, Nat.zero_le _, rfl, rfl, rfl, hI⟩
  case round =>
    clear hI
    obtain ⟨k, cy, hk, rfl, rfl, rfl, ds, g1, g2, g3, g4, c0, c1, g5⟩ := hrel
    have H5 := Lib.hid g5
    clear g5
    by_cases hkn : k < n
    · obtain ⟨a, rfl, hx⟩ := (ha.below g3 (Nat.le_refl _)).cell k hkn
      have bx := da.get (by omega) k
      have ST := Lib.hid (moved_step 4294967296 (2 ^ r) la ds k g1.len cy _ rfl H5.out)
      clear H5
      generalize la[k]?.getD 0 = x at *
      obtain ⟨o1, o2, o3, o4, o5, o6, o7⟩ := or_moved x cy r hr bx ⟨c0, c1⟩
      have hmin : min r 64 = r := by omega
      generalize ht : x * 2 ^ r = T at *
      have HT := Lib.hid ht
      clear ht
      have W1 : IntKind.u64.wrap (x * 2 ^ r) = T := by rw [HT.out]; exact IntWalk.u64_in _ (by omega)
      go_wp2_with (at_builtin; refine app_room w.heap.size rfl (.tmp 26) (.tmp 29) 23 78 .u32 4 rfl Try.underlying23 info_limb w.heap.size k (n + 1) ds ((T + cy) % 4294967296) rfl rfl g1 g3 g4 (by omega) ?_; intro w3 k1 k2 k3)
      go_roundw
      case rel => exact ⟨k + 1, _, by omega, by go_num, rfl, rfl, _, k1, g2.append (Dig.cons (by omega) (by omega) (Dig.nil _)), k2, k3, by omega, o6, ST.out⟩
      case measure => simp [intOf]; omega
    · obtain rfl : k = n := by omega
      have hc4 : cy < 4294967296 := (or_moved 0 cy r hr (by omega) ⟨c0, c1⟩).2.2.2.2.2.2
      have hl := g1.len
      have HV : Hid (val 4294967296 (ds ++ [cy]) = val 4294967296 la * 2 ^ r) := by
        have := H5.out
        rw [List.take_of_length_le (by rw [HL.out]; exact Nat.le_refl _)] at this
        show _ = _
        rw [val_append, hl, ← this]
        simp only [val]
        rw [Int.mul_zero, Int.add_zero, Int.mul_comm]
      go_wp2_with (at_builtin; refine app_room w.heap.size rfl (.tmp 34) (.tmp 37) 23 78 .u32 4 rfl Try.underlying23 info_limb w.heap.size k (k + 1) ds cy rfl rfl g1 g3 g4 (by omega) ?_; intro w3 k1 k2 k3)
      go_ret
      exact ⟨_, by simp [hl], g2.append (Dig.cons c0 hc4 (Dig.nil _)), HV.out, _, _, _, rfl, k1.own, k2⟩
end Go.Proofs.Ytgnophflogmmaaa

/- Long division: how it begins and what it ends in, plain. -/
namespace Go.Proofs.Ytgnophflogmmaaa

theorem long_top (lb ys : List Int) (n r : Nat) (hn : 2 ≤ n) (ll : lb.length = n) (dl : Dig 4294967296 lb) (top : Int) (ht : top = lb[n - 1]?.getD 0) (hr1 : 2147483648 ≤ top * 2 ^ r) (hr2 : (top + 1) * 2 ^ r ≤ 4294967296)
    (ly : ys.length = n + 1) (dy : Dig 4294967296 ys) (hy : val 4294967296 ys = val 4294967296 lb * 2 ^ r) :
    val 4294967296 (ys.take n) = val 4294967296 ys ∧ (4294967296 : Int) ≤ 2 * (ys.take n)[n - 1]?.getD 0 ∧ 2147483648 * 4294967296 ^ (n - 1) ≤ val 4294967296 ys ∧ val 4294967296 ys < 4294967296 ^ n := by
  have h1 := val_take_succ' 4294967296 lb (n - 1)
  rw [show n - 1 + 1 = n by omega, List.take_of_length_le (by omega), ← ht] at h1
  have h2 := val_take_succ' 4294967296 ys n
  rw [List.take_of_length_le (by omega)] at h2
  have h3 := val_take_succ' 4294967296 ys (n - 1)
  rw [show n - 1 + 1 = n by omega] at h3
  have p1 : (4294967296 : Int) ^ n = 4294967296 ^ (n - 1) * 4294967296 := by rw [← Int.pow_succ]; congr 1; omega
  have l1 := val_lt (show (0 : Int) < 4294967296 by omega) (dl.take (n - 1))
  have n1 := val_nonneg (show (0 : Int) < 4294967296 by omega) (dl.take (n - 1))
  rw [show (lb.take (n - 1)).length = n - 1 by simp; omega] at l1
  have l2 := val_lt (show (0 : Int) < 4294967296 by omega) (dy.take (n - 1))
  rw [show (ys.take (n - 1)).length = n - 1 by simp; omega] at l2
  have n2 := val_nonneg (show (0 : Int) < 4294967296 by omega) (dy.take n)
  have b1 := dy.get (by omega) n
  have g1 : (ys.take n)[n - 1]?.getD 0 = ys[n - 1]?.getD 0 := by rw [List.getElem?_take_of_lt (by omega)]
  rw [g1]
  have hP : (0 : Int) < 4294967296 ^ (n - 1) := Int.pow_pos (by omega)
  have hR : (0 : Int) < 2 ^ r := Int.pow_pos (by omega)
  rw [p1] at h2 ⊢
  clear p1 g1 ht
  generalize (4294967296 : Int) ^ (n - 1) = P at *
  generalize ys[n]?.getD 0 = yn at *
  generalize ys[n - 1]?.getD 0 = hi at *
  generalize val 4294967296 (ys.take n) = T at *
  generalize val 4294967296 (ys.take (n - 1)) = T1 at *
  generalize val 4294967296 ys = Y at *
  generalize val 4294967296 (lb.take (n - 1)) = L1 at *
  generalize val 4294967296 lb = L at *
  generalize (2 : Int) ^ r = R at *
  have k1 : Y < P * 4294967296 := by
    have e1 : L * R < (top + 1) * P * R := by
      refine Int.mul_lt_mul_of_pos_right ?_ hR
      rw [Int.add_mul, Int.one_mul, Int.mul_comm top]; omega
    have e2 : (top + 1) * R * P ≤ 4294967296 * P := Int.mul_le_mul_of_nonneg_right hr2 (by omega)
    have e3 : (top + 1) * P * R = (top + 1) * R * P := by grind
    omega
  have k2 : yn = 0 := by
    rcases Int.lt_or_eq_of_le b1.1 with h | h
    · have : P * 4294967296 * 1 ≤ P * 4294967296 * yn := Int.mul_le_mul_of_nonneg_left (by omega) (by omega)
      omega
    · exact h.symm
  rw [k2, Int.mul_zero, Int.add_zero] at h2
  have k3 : 2147483648 * P ≤ Y := by
    have e1 : 2147483648 * P ≤ top * R * P := Int.mul_le_mul_of_nonneg_right hr1 (by omega)
    have e2 : top * R * P = P * top * R := by grind
    have e3 : P * top * R ≤ L * R := Int.mul_le_mul_of_nonneg_right (by omega) (by omega)
    omega
  refine ⟨h2.symm, ?_, k3, k1⟩
  have e : 2147483648 * P < (hi + 1) * P := by rw [Int.add_mul, Int.one_mul, Int.mul_comm hi]; omega
  have := Int.lt_of_mul_lt_mul_right e (by omega)
  omega

theorem long_first (la xs : List Int) (n na r : Nat) (hr : (2 : Int) ^ r ≤ 2147483648) (hn : 2 ≤ n) (hna : n ≤ na) (ll : la.length = na) (dl : Dig 4294967296 la) (lx : xs.length = na + 1) (dx : Dig 4294967296 xs)
    (hx : val 4294967296 xs = val 4294967296 la * 2 ^ r) (Y : Int) (hY : 2147483648 * 4294967296 ^ (n - 1) ≤ Y) : val 4294967296 (xs.drop (na + 1 - n)) < Y := by
  have h1 := val_split 4294967296 xs (na + 1 - n) (by omega)
  have n1 := val_nonneg (show (0 : Int) < 4294967296 by omega) (dx.take (na + 1 - n))
  have l1 := val_lt (show (0 : Int) < 4294967296 by omega) dl
  have p1 : (4294967296 : Int) ^ na = 4294967296 ^ (na + 1 - n) * 4294967296 ^ (n - 1) := by rw [← Int.pow_add]; congr 1; omega
  rw [ll, p1] at l1
  have hP : (0 : Int) < 4294967296 ^ (na + 1 - n) := Int.pow_pos (by omega)
  have hQ : (0 : Int) < 4294967296 ^ (n - 1) := Int.pow_pos (by omega)
  have hR : (0 : Int) < 2 ^ r := Int.pow_pos (by omega)
  clear p1
  generalize val 4294967296 (xs.drop (na + 1 - n)) = D at *
  generalize val 4294967296 (xs.take (na + 1 - n)) = T at *
  generalize val 4294967296 xs = X at *
  generalize val 4294967296 la = A at *
  generalize (4294967296 : Int) ^ (na + 1 - n) = P at *
  generalize (4294967296 : Int) ^ (n - 1) = Q at *
  generalize (2 : Int) ^ r = R at *
  have k1 : A * R < P * Q * R := Int.mul_lt_mul_of_pos_right l1 hR
  have k2 : P * Q * R ≤ P * Q * 2147483648 := Int.mul_le_mul_of_nonneg_left hr (by have := Int.mul_pos hP hQ; omega)
  have k3 : P * (2147483648 * Q) ≤ P * Y := Int.mul_le_mul_of_nonneg_left hY (by omega)
  have k4 : P * (2147483648 * Q) = P * Q * 2147483648 := by grind
  have k5 : P * D < P * Y := by omega
  exact Int.lt_of_mul_lt_mul_left k5 (by omega)

theorem scale_mod (A Bv R : Int) (hR : 0 < R) (hB : 0 < Bv) : (A * R) % (Bv * R) = (A % Bv) * R := by
  have h1 := Int.emod_add_mul_ediv A Bv
  have h2 := Int.emod_nonneg A (show Bv ≠ 0 by omega)
  have h3 := Int.emod_lt_of_pos A hB
  have e : A * R = (A % Bv) * R + Bv * R * (A / Bv) := by
    generalize A / Bv = q at *
    generalize A % Bv = r at *
    subst h1
    grind
  rw [e, Int.add_mul_emod_self_left, Int.emod_eq_of_lt (Int.mul_nonneg h2 (by omega)) (Int.mul_lt_mul_of_pos_right h3 hR)]
theorem scale_div (A Bv R : Int) (hR : 0 < R) (hB : 0 < Bv) : (A * R) / (Bv * R) = A / Bv := by
  have h1 := Int.emod_add_mul_ediv A Bv
  have h2 := Int.emod_nonneg A (show Bv ≠ 0 by omega)
  have h3 := Int.emod_lt_of_pos A hB
  have e : A * R = (A % Bv) * R + Bv * R * (A / Bv) := by
    generalize A / Bv = q at *
    generalize A % Bv = r at *
    subst h1
    grind
  have hy := Int.mul_pos hB hR
  rw [e, Int.add_mul_ediv_left _ _ (by omega), Int.ediv_eq_zero_of_lt (Int.mul_nonneg h2 (by omega)) (Int.mul_lt_mul_of_pos_right h3 hR), Int.zero_add]

theorem long_last (X : List Int) (n : Nat) (A Bv R : Int) (hR : 0 < R) (hB : 0 < Bv) (dX : Dig 4294967296 X) (hn : n ≤ X.length) (hX : val 4294967296 X = (A * R) % (Bv * R)) (hlt : Bv * R < 4294967296 ^ n) :
    val 4294967296 (X.take n) / R = A % Bv := by
  have h1 := val_split 4294967296 X n hn
  have n1 := val_nonneg (show (0 : Int) < 4294967296 by omega) (dX.drop n)
  have n2 := val_nonneg (show (0 : Int) < 4294967296 by omega) (dX.take n)
  have hP : (0 : Int) < 4294967296 ^ n := Int.pow_pos (by omega)
  have hY : 0 < Bv * R := Int.mul_pos hB hR
  have h2 := Int.emod_lt_of_pos (A * R) hY
  have k : val 4294967296 (X.drop n) = 0 := by
    rcases Int.lt_or_eq_of_le n1 with h | h
    · have : 4294967296 ^ n * 1 ≤ 4294967296 ^ n * val 4294967296 (X.drop n) := Int.mul_le_mul_of_nonneg_left (by omega) (by omega)
      omega
    · exact h.symm
  rw [k, Int.mul_zero, Int.add_zero] at h1
  rw [← h1, hX, scale_mod A Bv R hR hB]
  exact Int.mul_ediv_cancel _ (by omega)

variable {b P high next ylow x0 x1 x2 wlow Y W : Int}
/-- What was taken off was not too much. -/
theorem Win.kept (h : Win b P high next ylow x0 x1 x2 wlow Y W) (g X R : Int) (h1 : W / Y ≤ g) (h2 : g ≤ W / Y + 1) (hX : 0 ≤ X) (e : X + Y * g = W + (if false = true then 1 else 0) * R) : g = W / Y ∧ X = W % Y := by
  rw [if_neg (by simp), Int.zero_mul, Int.add_zero] at e
  have hm := Int.mul_comm Y g
  obtain ⟨k1, k2⟩ := (h.digit g h1 h2).1 (by omega)
  exact ⟨k1, by omega⟩
/-- It was: the divisor is put on again. -/
theorem Win.mended (h : Win b P high next ylow x0 x1 x2 wlow Y W) (g X R X2 o : Int) (h1 : W / Y ≤ g) (h2 : g ≤ W / Y + 1) (hX : 0 ≤ X ∧ X < R) (e : X + Y * g = W + (if true = true then 1 else 0) * R)
    (hY : Y < R) (hX2 : 0 ≤ X2 ∧ X2 < R) (e2 : X2 + o * R = X + Y) : g - 1 = W / Y ∧ X2 = W % Y := by
  rw [if_pos rfl, Int.one_mul] at e
  have hm := Int.mul_comm Y g
  obtain ⟨k1, k2⟩ := (h.digit g h1 h2).2 (by omega)
  obtain ⟨p1, p2, p3⟩ := h.pos
  have r1 := Int.emod_nonneg W (show Y ≠ 0 by omega)
  have r2 := Int.emod_lt_of_pos W p1
  refine ⟨k1, ?_⟩
  have e3 : X2 + o * R = W % Y + R := by omega
  rcases Int.lt_or_le o 1 with ho | ho
  · have : o * R ≤ 0 * R := Int.mul_le_mul_of_nonneg_right (by omega) (by omega)
    omega
  · rcases Int.lt_or_le 1 o with ho2 | ho2
    · have : 2 * R ≤ o * R := Int.mul_le_mul_of_nonneg_right (by omega) (by omega)
      omega
    · obtain rfl : o = 1 := by omega
      omega
end Go.Proofs.Ytgnophflogmmaaa

/- quot.Digits's closure: the lowest nine digits of a variable's number, which is divided. -/
namespace Go.Proofs.Ytgnophflogmmaaa
open Go.RowKit

/-- The variable holds the quotient now; its list is new; nothing else has turned. -/
def TakeR (rb : Nat) (R : Int) (w : World) (e : Ending) (w' : World) : Prop :=
  ∃ ad n c, e = .returned (.int .u32 (R % 1000000000)) ∧ w'.heap[rb]? = some (.cells #[.slice ad n c] 23 (0, 0)) ∧ Own w.heap.size w' 78 .u32 ad n c (dg 4294967296 (R / 1000000000)) ∧
    (∀ b, blkOf ad = some b → 0 < c → w.heap.size ≤ b) ∧ (∀ i, i < w.heap.size → i ≠ rb → w'.heap[i]? = w.heap[i]?) ∧ w.heap.size ≤ w'.heap.size ∧ w'.os = w.os ∧ w'.tape = w.tape ∧ w'.output = w.output

theorem take_calls (rb : Nat) (ad : Option Addr) (n c : Nat) (R : Int) (w : World) (hn : n ≤ 70368744177664) (hR : 0 ≤ R) (hb : w.heap[rb]? = some (.cells #[.slice ad n c] 23 (0, 0)))
    (hr : Rds w .u32 ad n (dg 4294967296 R)) :
    Calls Try.prog 86 #[.pointer (some ⟨rb, 0, none⟩)] w (TakeR rb R w) := by
  have S := small_calls ad n c (dg 4294967296 R) 1000000000 w hn hr (dg_dig 4294967296 (by omega) _) (by omega)
  have eV := val_dg 4294967296 (by omega) R hR
  rw [show ((4294967296 : Nat) : Int) = 4294967296 from rfl] at eV
  rw [eV] at S
  have HS := Lib.hid S
  have hc := cell_of_one hb
  have hlt := lt_of_block hb
  clear S eV
  go_enter Try.func86, Try.ntmps86
  go_wp2_with fail
  with_reducible refine (HS.out).mono ?_
  rintro e w1 ⟨qd, qn, qc, rfl, oq, b1⟩
  have hb1 : w1.heap[rb]? = some (.cells #[.slice ad n c] 23 (0, 0)) := by rw [b1.block rb hlt]; exact hb
  have hc1 := cell_of_one hb1
  have hf1 := free_of_one hb1
  clear HS hc
  go_wp2_with fail
  go_ret
  have hO := (Only.refl rb w1).set 0 (.slice qd qn qc)
  refine ⟨qd, qn, qc, rfl, one_setCell hb1, ⟨oq.len, oq.le, oq.big, fun h0 => ?_⟩, fun b hb0 h0 => ?_, fun i hi hne => by rw [hO.rest i hne, b1.block i hi], by rw [hO.size]; exact b1.size, by rw [hO.os]; exact b1.os, by rw [hO.tape]; exact b1.tape, by rw [hO.output]; exact b1.output⟩
  · obtain ⟨g, cs, e1, e2, e3, e4⟩ := oq.row h0
    exact ⟨g, cs, e1, e2, by rw [hO.rest g (by omega)]; exact e3, e4⟩
  · obtain ⟨g, cs, e1, e2, _⟩ := oq.row h0
    rw [e1] at hb0
    injection hb0 with hb0
    subst hb0
    exact e2
end Go.Proofs.Ytgnophflogmmaaa
