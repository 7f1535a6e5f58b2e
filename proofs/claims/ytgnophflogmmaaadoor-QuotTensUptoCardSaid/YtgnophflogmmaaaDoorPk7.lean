/- Contracts of functions, and plain facts, part 7. -/
import Derived.Test.YtgnophflogmmaaaDoorProg
import Derived.OneCell
import Derived.OwnWalk
import Derived.Test.YtgnophflogmmaaaDoorPk2
import Derived.Test.YtgnophflogmmaaaDoorPk3
import Derived.Test.YtgnophflogmmaaaDoorPk4
import Derived.Test.YtgnophflogmmaaaDoorPk5
set_option linter.unusedVariables false
set_option linter.unusedSimpArgs false
/- The number that a text in decimal tells: plain. -/
namespace Go.Proofs.YtgnophflogmmaaaDoor

/-- What digits tell, the highest first. -/
def readV (cs : List Int) : Int := cs.foldl (fun a c => a * 10 + (c - 48)) 0
/-- Is it one that Read takes? -/
def readOk (cs : List Int) : Bool := decide (cs ≠ [] ∧ (cs[0]?.getD 0 = 48 → cs.length = 1) ∧ (∀ c ∈ cs, 48 ≤ c ∧ c ≤ 57) ∧ (dg 4294967296 (readV cs)).length ≤ 262144)
def readNum (cs : List Int) : Int := if readOk cs then readV cs else 0

theorem readV_snoc (cs : List Int) (c : Int) : readV (cs ++ [c]) = readV cs * 10 + (c - 48) := by simp [readV]
theorem readV_take (cs : List Int) (i : Nat) (h : i < cs.length) : readV (cs.take (i + 1)) = readV (cs.take i) * 10 + (cs[i]?.getD 0 - 48) := by
  rw [List.take_add_one, List.getElem?_eq_getElem h]
  exact readV_snoc _ _
def Decs (cs : List Int) : Prop := ∀ c ∈ cs, 48 ≤ c ∧ c ≤ 57
theorem Decs.get {cs : List Int} (h : Decs cs) {i : Nat} (hi : i < cs.length) : 48 ≤ cs[i]?.getD 0 ∧ cs[i]?.getD 0 ≤ 57 := by
  rw [List.getElem?_eq_getElem hi]
  exact h _ (List.getElem_mem hi)
theorem readV_nonneg (cs : List Int) (h : Decs cs) (i : Nat) : 0 ≤ readV (cs.take i) := by
  induction i with
  | zero => simp [readV]
  | succ i ih =>
    rcases Nat.lt_or_ge i cs.length with h1 | h1
    · rw [readV_take cs i h1]
      have := h.get h1
      omega
    · rw [List.take_of_length_le (by omega)]
      rw [List.take_of_length_le h1] at ih
      exact ih
theorem readV_mono (cs : List Int) (h : Decs cs) (i j : Nat) (hij : i ≤ j) : readV (cs.take i) ≤ readV (cs.take j) := by
  obtain ⟨d, rfl⟩ := Nat.le.dest hij
  induction d with
  | zero => exact Int.le_refl _
  | succ d ih =>
    have h1 := ih (by omega)
    rcases Nat.lt_or_ge (i + d) cs.length with h2 | h2
    · rw [show i + (d + 1) = i + d + 1 by omega, readV_take cs _ h2]
      have := h.get h2
      have := readV_nonneg cs h (i + d)
      omega
    · rw [show cs.take (i + (d + 1)) = cs.take (i + d) by rw [List.take_of_length_le (by omega), List.take_of_length_le h2]]
      exact h1
theorem readV_full (cs : List Int) : readV (cs.take cs.length) = readV cs := by rw [List.take_length]
theorem dg_mono (V U : Int) (hV : 0 ≤ V) (h : V ≤ U) : (dg 4294967296 V).length ≤ (dg 4294967296 U).length := by
  refine dg_length_le 4294967296 (by omega) _ _ ?_
  have := dg_lt_of_len 4294967296 (by omega) _ U (by omega) (Nat.le_refl _)
  omega
theorem readNum_nonneg (cs : List Int) : 0 ≤ readNum cs := by
  unfold readNum
  split
  · rename_i h
    have h2 := (of_decide_eq_true h).2.2.1
    rw [← readV_full]
    exact readV_nonneg cs h2 _
  · omega

/-- A place times a small number and what came up. -/
theorem times_step (xs ys : List Int) (k : Nat) (c t v T : Int) (hk : k < ys.length) (hs : ys[k]?.getD 0 = xs[k]?.getD 0) (hv : v = xs[k]?.getD 0 * t + c)
    (h : val 4294967296 (ys.take k) + 4294967296 ^ k * c = val 4294967296 (xs.take k) * t + T) :
    val 4294967296 ((ys.set k (v % 4294967296)).take (k + 1)) + 4294967296 ^ (k + 1) * (v / 4294967296) = val 4294967296 (xs.take (k + 1)) * t + T := by
  rw [val_set_take _ ys k _ hk, val_take_succ', Int.pow_succ]
  have e : v = 4294967296 * (v / 4294967296) + v % 4294967296 := by omega
  generalize v / 4294967296 = q at *
  generalize v % 4294967296 = r at *
  generalize (4294967296 : Int) ^ k = P at *
  generalize val 4294967296 (ys.take k) = A at *
  generalize val 4294967296 (xs.take k) = D at *
  generalize xs[k]?.getD 0 = x at *
  have h2 : P * v = P * x * t + P * c := by rw [hv]; grind
  have h3 : P * v = P * 4294967296 * q + P * r := by rw [e]; grind
  have h4 : (D + P * x) * t = D * t + P * x * t := by rw [Int.add_mul]
  omega

/-- A list whose worth is that of a number of as many digits. -/
theorem dg_of_ge (ys : List Int) (V : Int) (d : Dig 4294967296 ys) (h : val 4294967296 ys = V) (hl : ys.length = 0 ∨ 4294967296 ^ (ys.length - 1) ≤ V) : ys = dg 4294967296 V := by
  have hn : norm ys = ys := by
    rcases hl with h0 | h0
    · rw [List.length_eq_zero_iff.1 h0]; rfl
    · by_cases e : norm ys = ys
      · exact e
      · have := val_lt_norm (b := 4294967296) (by omega) d e
        omega
  have := norm_eq 4294967296 (by omega) d
  rw [hn, show ((4294967296 : Nat) : Int) = 4294967296 from rfl, h] at this
  exact this
theorem dg_ge (V : Int) (h0 : 0 ≤ V) : (dg 4294967296 V).length = 0 ∨ 4294967296 ^ ((dg 4294967296 V).length - 1) ≤ V := by
  by_cases h : dg 4294967296 V = []
  · exact .inl (by rw [h]; rfl)
  · refine .inr ?_
    have := val_ge (b := 4294967296) (by omega) (dg_dig 4294967296 (by omega) V.toNat) (norm_dg 4294967296 (by omega) V) h
    have e := val_dg 4294967296 (by omega) V h0
    rw [show ((4294967296 : Nat) : Int) = 4294967296 from rfl] at e
    change 4294967296 ^ ((dg 4294967296 V).length - 1) ≤ val 4294967296 (dg 4294967296 V) at this
    rw [e] at this
    exact this
/-- All places are done; nothing comes up. -/
theorem times_end0 (P t T : Int) (ys : List Int) (hP : 0 ≤ P) (ht : 1 ≤ t) (hT : 0 ≤ T) (d : Dig 4294967296 ys) (hl : ys.length = (dg 4294967296 P).length)
    (h : val 4294967296 (ys.take ys.length) + 4294967296 ^ ys.length * 0 = val 4294967296 ((dg 4294967296 P).take ys.length) * t + T) : ys = dg 4294967296 (P * t + T) := by
  rw [List.take_length, Int.mul_zero, Int.add_zero, hl, List.take_length] at h
  have e := val_dg 4294967296 (by omega) P hP
  rw [show ((4294967296 : Nat) : Int) = 4294967296 from rfl] at e
  rw [e] at h
  refine dg_of_ge ys _ d h ?_
  have h1 := dg_ge P hP
  rw [← hl] at h1
  rcases h1 with h1 | h1
  · exact .inl h1
  · refine .inr ?_
    have := Int.mul_le_mul_of_nonneg_left ht hP
    omega
/-- Something comes up: a place more. -/
theorem times_end1 (P t T c : Int) (ys : List Int) (hP : 0 ≤ P) (ht : 1 ≤ t) (hT : 0 ≤ T) (d : Dig 4294967296 ys) (hl : ys.length = (dg 4294967296 P).length) (hc : 0 < c ∧ c < 4294967296)
    (h : val 4294967296 (ys.take ys.length) + 4294967296 ^ ys.length * c = val 4294967296 ((dg 4294967296 P).take ys.length) * t + T) : ys ++ [c] = dg 4294967296 (P * t + T) := by
  rw [List.take_length, hl, List.take_length, ← hl] at h
  have e := val_dg 4294967296 (by omega) P hP
  rw [show ((4294967296 : Nat) : Int) = 4294967296 from rfl] at e
  rw [e] at h
  have d2 := d.append (Dig.cons (by omega) hc.2 (Dig.nil _) : Dig 4294967296 [c])
  refine dg_of_ge _ _ d2 (by rw [val_snoc]; exact h) (.inr ?_)
  rw [List.length_append, List.length_singleton, Nat.add_sub_cancel, ← h]
  have h1 := val_nonneg (show (0 : Int) < 4294967296 by omega) d
  have hp : (0 : Int) < 4294967296 ^ ys.length := Int.pow_pos (by omega)
  have := Int.mul_le_mul_of_nonneg_left (show 1 ≤ c by omega) (Int.le_of_lt hp)
  omega
/-- A chunk of nine digits at most. -/
theorem chunk_step (P t n d : Int) : (P * t + n) * 10 + d = P * (t * 10) + (n * 10 + d) := by grind
end Go.Proofs.YtgnophflogmmaaaDoor

/- A small number to a power: plain. -/
namespace Go.Proofs.YtgnophflogmmaaaDoor

def powOk (b n : Int) : Bool := decide (0 ≤ n ∧ (b < 2 ∨ n ≤ 65536 / (blen b.toNat : Nat)))
def powNum (b n : Int) : Int := if powOk b n then b ^ n.toNat else 0

theorem pow_bits (b n M : Nat) (hM : 0 < M) (hb : 2 ≤ b) (h : n ≤ M / blen b) : b ^ n < 2 ^ M := by
  rcases Nat.eq_zero_or_pos n with h0 | h0
  · subst h0; rw [Nat.pow_zero]; exact Nat.one_lt_two_pow (by omega)
  · have h1 := blen_lt b
    have h2 : b ^ n < (2 ^ blen b) ^ n := Nat.pow_lt_pow_left h1 (by omega)
    rw [← Nat.pow_mul] at h2
    refine Nat.lt_of_lt_of_le h2 (Nat.pow_le_pow_right (by omega) ?_)
    exact Nat.mul_comm _ _ ▸ (Nat.le_div_iff_mul_le (blen_pos b (by omega))).1 h
theorem pow_limbs (L : Nat) : (4294967296 : Int) ^ L = ((2 ^ (32 * L) : Nat) : Int) := by
  rw [show (4294967296 : Int) = 2 ^ 32 from by decide, ← Int.pow_mul]
  simp

/-- Between two rounds: out and the square to the power k make up the number. -/
theorem pow_round_odd (A S T : Int) (k : Nat) (h : A * S ^ k = T) (hk : k % 2 = 1) : A * S * (S * S) ^ (k / 2) = T := by
  have e : k = 2 * (k / 2) + 1 := by omega
  rw [← h]
  conv => rhs; rw [e, Int.pow_succ, Int.pow_mul]
  have e2 : S ^ 2 = S * S := by rw [Int.pow_succ, Int.pow_succ, Int.pow_zero, Int.one_mul]
  rw [e2]
  generalize (S * S) ^ (k / 2) = P
  grind
theorem pow_round_even (A S T : Int) (k : Nat) (h : A * S ^ k = T) (hk : k % 2 = 0) : A * (S * S) ^ (k / 2) = T := by
  have e : k = 2 * (k / 2) := by omega
  rw [← h]
  conv => rhs; rw [e, Int.pow_mul]
  have e2 : S ^ 2 = S * S := by rw [Int.pow_succ, Int.pow_succ, Int.pow_zero, Int.one_mul]
  rw [e2]
theorem pow_part (A S T : Int) (k : Nat) (h : A * S ^ k = T) (hA : 0 < A) (hS : 0 < S) : A ≤ T ∧ (0 < k → S ≤ T) := by
  have hp : 0 < S ^ k := Int.pow_pos hS
  constructor
  · have := Int.mul_le_mul_of_nonneg_left (show 1 ≤ S ^ k by omega) (Int.le_of_lt hA)
    omega
  · intro hk
    obtain ⟨j, rfl⟩ : ∃ j, k = j + 1 := ⟨k - 1, by omega⟩
    rw [Int.pow_succ] at h
    have hq : 0 < S ^ j := Int.pow_pos hS
    have h1 : 1 ≤ A * S ^ j := by have := Int.mul_pos hA hq; omega
    have h2 : A * (S ^ j * S) = A * S ^ j * S := (Int.mul_assoc _ _ _).symm
    have := Int.mul_le_mul_of_nonneg_right h1 (Int.le_of_lt hS)
    omega

/-- What the highest power of 2 in it was moved up by. -/
theorem pow_up (m k n : Nat) : ((m : Int) * 2 ^ k) ^ n = (m : Int) ^ n * 2 ^ (k * n) := by
  rw [Int.mul_pow, Int.pow_mul]
theorem pow_shl (m k n L : Nat) (hL : L = 2048) (hm : 0 < m) (hk : k < 32) (hb : 2 ≤ m * 2 ^ k) (hn : n ≤ 65536 / blen (m * 2 ^ k)) :
    shlOk ((m : Int) ^ n) ((k : Int) * n) = true ∧ shlNum ((m : Int) ^ n) ((k : Int) * n) = ((m * 2 ^ k : Nat) : Int) ^ n ∧ (m : Int) ^ n < 4294967296 ^ L ∧ 0 < (m : Int) ^ n ∧ n ≤ 65536 := by
  obtain ⟨N, hN⟩ : ∃ N, N = 32 * L := ⟨_, rfl⟩
  have hn2 : n ≤ N / blen (m * 2 ^ k) := by rw [hN, hL]; exact hn
  have h1 := pow_bits (m * 2 ^ k) n N (by omega) hb hn2
  have h2 : m ^ n ≤ (m * 2 ^ k) ^ n := Nat.pow_le_pow_left (Nat.le_mul_of_pos_right _ (Nat.two_pow_pos k)) n
  have h3 : 0 < m ^ n := Nat.pow_pos hm
  have h4 := blen_ge (m ^ n) (by omega)
  have h5 : blen (m ^ n) - 1 < N := (Nat.pow_lt_pow_iff_right (a := 2) (by omega)).1 (by omega)
  have h6 : n ≤ 65536 := Nat.le_trans hn (Nat.div_le_self _ _)
  have h7 : k * n ≤ 31 * 65536 := Nat.mul_le_mul (by omega) h6
  have e1 : (m : Int) ^ n = ((m ^ n : Nat) : Int) := by simp
  have e2 : (k : Int) * n = ((k * n : Nat) : Int) := by simp
  have ok : shlOk ((m : Int) ^ n) ((k : Int) * n) = true := by
    unfold shlOk
    rw [e1, e2, Int.toNat_natCast]
    refine decide_eq_true ⟨by omega, .inr ?_⟩
    generalize blen (m ^ n) = L at *
    omega
  refine ⟨ok, ?_, ?_, by rw [e1]; omega, h6⟩
  · unfold shlNum
    rw [if_pos ok, e2, Int.toNat_natCast, ← pow_up]
    simp
  · rw [pow_limbs, ← hN, e1]
    exact Int.ofNat_lt.2 (by omega)
end Go.Proofs.YtgnophflogmmaaaDoor

/- NLen by worth alone. -/
namespace Go.Proofs.YtgnophflogmmaaaDoor
open Go.RowKit

theorem num_len (ad : Option Addr) (n c : Nat) (V : Int) (w : World) (h : Num w ad n c V) (hn : n ≤ 70368744177663) :
    Calls Tryd.prog 10 #[.slice ad n c] w (fun e w' => e = .returned (.int .i64 (bitsOf V)) ∧ w = w') := by
  obtain ⟨xs, h1, h2, rfl⟩ := h.row
  exact (nlen_calls ad n c xs w (by omega) h.le h1 h2).mono fun e w' q => q
end Go.Proofs.YtgnophflogmmaaaDoor

/- cruciblelaw02.less. -/
namespace Go.Proofs.YtgnophflogmmaaaDoor
open Go.RowKit

theorem less_core (s t : ByteArray) (n m : Int) (l e : Bool) (r : Int) (w : World) (hs : 0 ≤ n ∧ n ≤ 140737488355328) (ht : 0 ≤ m ∧ m ≤ 140737488355328) (en : (s.size : Int) = n) (em : (t.size : Int) = m) (hl : Op.bytesLess s.toList t.toList = l) (he : (s.toList == t.toList) = e)
    (hr : Hid (r = if n < m then -1 else if m < n then 1 else if l then -1 else if e then 0 else 1)) :
    Calls Tryd.prog 20 #[.string s, .string t] w (fun e w' => e = .returned (.int .i64 r) ∧ w = w') := by
  rcases Int.lt_trichotomy n m with h | h | h
  · have hr1 : r = -1 := by rw [hr.out, if_pos h]
    subst hr1
    have h1 : (n == m) = false := by simp; omega
    have h2 : (n != m) = true := by simp; omega
    clear hr
    go_enter Tryd.func20, Tryd.ntmps20
    go_wp2
    go_ret
    exact ⟨rfl, rfl⟩
  · subst h
    cases l
    · cases e
      · have hr1 : r = 1 := by rw [hr.out]; simp
        subst hr1
        clear hr
        go_enter Tryd.func20, Tryd.ntmps20
        go_wp2
        go_ret
        exact ⟨rfl, rfl⟩
      · have hr1 : r = 0 := by rw [hr.out]; simp
        subst hr1
        clear hr
        go_enter Tryd.func20, Tryd.ntmps20
        go_wp2
        go_ret
        exact ⟨rfl, rfl⟩
    · have hr1 : r = -1 := by rw [hr.out]; simp
      subst hr1
      clear hr
      go_enter Tryd.func20, Tryd.ntmps20
      go_wp2
      go_ret
      exact ⟨rfl, rfl⟩
  · have hr1 : r = 1 := by rw [hr.out, if_neg (by omega), if_pos h]
    subst hr1
    have h1 : (n == m) = false := by simp; omega
    have h2 : (n != m) = true := by simp; omega
    have h3 : ¬ n < m := by omega
    have hne : e = false := by
      cases e
      · rfl
      · exfalso
        have := eq_of_beq he
        have h4 := congrArg List.length this
        rw [ByteArray.toList_eq, ByteArray.toList_eq, Array.length_toList, Array.length_toList] at h4
        have h5 : (s.size : Int) = t.size := congrArg Nat.cast h4
        omega
    subst hne
    clear hr
    go_enter Tryd.func20, Tryd.ntmps20
    go_wp2
    go_ret
    exact ⟨rfl, rfl⟩

theorem less_calls (xs ys : List Int) (w : World) (dx : Dig 256 xs) (dy : Dig 256 ys) (hx : xs.length ≤ 140737488355328) (hy : ys.length ≤ 140737488355328) :
    Calls Tryd.prog 20 #[.string (strB xs), .string (strB ys)] w (fun e w' => e = .returned (.int .i64 (lessI xs ys)) ∧ w = w') := by
  refine less_core (strB xs) (strB ys) xs.length ys.length _ _ _ w (by omega) (by omega) (by rw [strB_size]) (by rw [strB_size]) (strB_less dx dy) (strB_beq dx dy) (Lib.hid ?_)
  unfold lessI
  simp only [Int.ofNat_lt, decide_eq_true_eq]
end Go.Proofs.YtgnophflogmmaaaDoor

/- nat.Add: the sum. -/
namespace Go.Proofs.YtgnophflogmmaaaDoor
open Go.RowKit

def AddR (w : World) (xs zs : List Int) (n i : Nat) (c : Int) (wr : World) : Prop :=
  ∃ ys, Blk wr w.heap.size 32 .u32 ys ∧ ys.length = n + 1 ∧ Dig 4294967296 ys ∧ Below w.heap.size w wr ∧ 0 ≤ c ∧ c ≤ 1 ∧
    val 4294967296 (ys.take i) + c * 4294967296 ^ i = val 4294967296 (xs.take i) + val 4294967296 (zs.take i)

set_option maxHeartbeats 1000000 in
/-- The longer one may stand behind the shorter one. -/
theorem add_core (sw : Bool) (xd zd : Option Addr) (n m cx cz : Nat) (xs zs : List Int) (w : World) (hn : n ≤ 70368744177663) (hm : m ≤ n) (hsw : sw = true → m < n) (hxc : n ≤ cx) (hzc : m ≤ cz)
    (hx : Rds w .u32 xd n xs) (hz : Rds w .u32 zd m zs) (dx : Dig 4294967296 xs) (dz : Dig 4294967296 zs) :
    Calls Tryd.prog 18 (if sw then #[.slice zd m cz, .slice xd n cx] else #[.slice xd n cx, .slice zd m cz]) w (RetL 32 .u32 (dg 4294967296 (val 4294967296 xs + val 4294967296 zs)) w) := by
  have HX := Lib.hid hx.len
  have HZ := Lib.hid hz.len
  have hmk := make_rule (P := Tryd.prog) 23 32 .u32 4 Tryd.underlying23 info_limb (by omega) (n + 1) (by omega) ((n : Int) + 1) (by omega)
  have hr0 : AddR w xs zs n 0 0 (w.alloc (.cells (nums .u32 (List.replicate (n + 1) 0)).toArray 32)) :=
    ⟨_, Blk.made _ _ _ _ _ rfl, by simp, Dig.replicate _ (by omega) _, (Below.refl _ _).alloc (Nat.le_refl _) _, by omega, by omega, by simp [val]⟩
  cases sw
  all_goals
    have hlt := hsw
    clear hsw
    simp only [if_true, if_false, Bool.false_eq_true]
    first
      | (have hlt2 := hlt rfl; clear hlt)
      | (have hlt2 : ¬ n < m := by omega)
    go_enter Tryd.func18, Tryd.ntmps18
    go_wp2
    clear hmk
    go_loopw [22, 6] (fun i cy wr => ∃ k : Nat, ∃ c : Int, k ≤ n ∧ i = .int .i64 k ∧ cy = .int .u32 c ∧ AddR w xs zs n k c wr) (fun i _ _ => n - (intOf i).toNat)
    case atStart => exact ⟨0, 0, Nat.zero_le _, rfl, rfl, hr0⟩
    case round =>
      clear hr0
      obtain ⟨k, c, hk, rfl, rfl, ys, h1, h2, h3, h4, hc0, hc1, h5⟩ := hrel
      have H2 := Lib.hid h2
      have H5 := Lib.hid h5
      clear h2 h5
      by_cases hkn : k < n
      · obtain ⟨a, rfl, hxl⟩ := (hx.below h4 (Nat.le_refl _)).cell k hkn
        have hf := h1.free k
        have hy := h1.cell k (by rw [H2.out]; omega)
        have HS := Lib.hid (add_step 4294967296 xs zs ys k (by rw [H2.out]; omega) c _ rfl H5.out)
        clear H5
        have bx := dx.get (by omega) k
        have bz := dz.get (by omega) k
        by_cases hkm : k < m
        · obtain ⟨b, rfl, hzl⟩ := (hz.below h4 (Nat.le_refl _)).cell k hkm
          have ha := Lib.hid (add32_calls (xs[k]?.getD 0) (zs[k]?.getD 0) c wr bx bz (by omega))
          generalize xs[k]?.getD 0 = x at *
          generalize zs[k]?.getD 0 = z at *
          go_wp2_with fail
          refine (ha.out).mono ?_
          rintro e w' ⟨rfl, rfl⟩
          clear ha
          go_wp2
          go_roundw
          case rel => exact ⟨k + 1, _, by omega, by go_num, rfl, _, h1.set k _, by simp [H2.out], h3.set (by omega) (by omega) _, below_set h4 _ _ _ (Nat.le_refl _), by omega, by omega, HS.out⟩
          case measure => simp [intOf]; omega
        · have hz0 : zs[k]?.getD 0 = 0 := by rw [List.getElem?_eq_none (by rw [HZ.out]; omega)]; rfl
          have ha := Lib.hid (add32_calls (xs[k]?.getD 0) 0 c wr bx (by omega) (by omega))
          rw [hz0, Int.add_zero] at HS
          clear hz0 bz
          generalize xs[k]?.getD 0 = x at *
          go_wp2_with fail
          refine (ha.out).mono ?_
          rintro e w' ⟨rfl, rfl⟩
          clear ha
          go_wp2
          go_roundw
          case rel => exact ⟨k + 1, _, by omega, by go_num, rfl, _, h1.set k _, by simp [H2.out], h3.set (by omega) (by omega) _, below_set h4 _ _ _ (Nat.le_refl _), by omega, by omega, HS.out⟩
          case measure => simp [intOf]; omega
      · obtain rfl : k = n := by omega
        have hf := h1.free k
        have hy := h1.cell k (by rw [H2.out]; omega)
        have k2 := h1.set k c
        have b2 := below_set h4 w.heap.size k (.int .u32 c) (Nat.le_refl _)
        have d2 := h3.set hc0 (show c < 4294967296 by omega) k
        have HV := Lib.hid (add_end 4294967296 xs zs ys k HX.out (by rw [HZ.out]; exact hm) H2.out c H5.out)
        have hcut := Lib.hid (cut_calls (some ⟨w.heap.size, 0, none⟩) (k + 1) (k + 1) _ _ (by omega) (Nat.le_refl _) (by have := k2.rds; rwa [List.length_set, H2.out] at this))
        have R := Lib.hid (k2.ret (Nat.le_refl _) (by rw [List.length_set, H2.out]; omega) d2 _ HV.out b2)
        go_wp2_with fail
        refine (hcut.out).mono ?_
        rintro e w' ⟨rfl, rfl⟩
        go_wp2_with fail
        go_ret
        exact R.out

theorem add_calls (ad bd : Option Addr) (na nb ca cb : Nat) (la lb : List Int) (w : World) (hna : na ≤ 70368744177663) (hnb : nb ≤ 70368744177663) (hac : na ≤ ca) (hbc : nb ≤ cb)
    (ha : Rds w .u32 ad na la) (hb : Rds w .u32 bd nb lb) (da : Dig 4294967296 la) (db : Dig 4294967296 lb) :
    Calls Tryd.prog 18 #[.slice ad na ca, .slice bd nb cb] w (RetL 32 .u32 (dg 4294967296 (val 4294967296 la + val 4294967296 lb)) w) := by
  by_cases h : na < nb
  · rw [Int.add_comm]
    exact add_core true bd ad nb na cb ca lb la w hnb (by omega) (fun _ => h) hbc hac hb ha db da
  · exact add_core false ad bd na nb ca cb la lb w hna (by omega) (fun h => by cases h) hac hbc ha hb da db
end Go.Proofs.YtgnophflogmmaaaDoor

/- Mul by worth alone. -/
namespace Go.Proofs.YtgnophflogmmaaaDoor
open Go.RowKit

theorem num_mul (ad bd : Option Addr) (n m c d : Nat) (V U : Int) (w : World) (h : Num w ad n c V) (k : Num w bd m d U) (hn : n ≤ 35184372088832) (hm : m ≤ 35184372088832) :
    Calls Tryd.prog 15 #[.slice ad n c, .slice bd m d] w (RetC (V * U) w) := by
  obtain ⟨xs, h1, h2, rfl⟩ := h.row
  obtain ⟨zs, k1, k2, rfl⟩ := k.row
  exact (mul_calls ad bd n m c d xs zs w (by omega) h.le k.le h1 k1 h2 k2).mono fun e w' q => q.can
end Go.Proofs.YtgnophflogmmaaaDoor

/- NCmp by worth alone. -/
namespace Go.Proofs.YtgnophflogmmaaaDoor
open Go.RowKit

theorem num_cmp (ad bd : Option Addr) (n m c d : Nat) (V U : Int) (w : World) (h : Num w ad n c V) (k : Num w bd m d U) (hn : n ≤ 70368744177663) (hm : m ≤ 70368744177663) :
    Calls Tryd.prog 14 #[.slice ad n c, .slice bd m d] w (RetI (cmpI V U) w) := by
  obtain ⟨xs, h1, h2, rfl⟩ := h.row
  obtain ⟨zs, k1, k2, rfl⟩ := k.row
  exact (ncmp_calls ad bd n m c d xs zs w (by omega) (by omega) h.le k.le h1 k1 h2 k2).mono fun e w' q => q
end Go.Proofs.YtgnophflogmmaaaDoor

/- A slice of the call's own that is appended to: what else stays as it was. -/
namespace Go.Proofs.YtgnophflogmmaaaDoor
open Go.RowKit

/-- The block that an address lies in. -/
def blkOf (ad : Option Addr) : Option Nat := ad.map (·.block)
theorem ownBlock_slice (ad : Option Addr) (n c : Nat) : (Value.slice ad n c).ownBlock = blkOf ad := by cases ad <;> rfl

theorem App.kept {B : Nat} {w w1 : World} {e : TypeId} {k : IntKind} {ad : Option Addr} {n c : Nat} {xs : List Int} (h : App B w e k ad n c xs) (hk : ∀ b, blkOf ad = some b → w1.heap[b]? = w.heap[b]?) : App B w1 e k ad n c xs := by
  refine ⟨h.1, ?_⟩
  rcases h.2 with h2 | ⟨g, cap, cur, h1, h2, h3, h4⟩
  · exact .inl h2
  · injection h1 with h1 _ _
    subst h1
    exact .inr ⟨g, cap, cur, by rename_i h5 h6; subst h6; rfl, h2, by rw [hk g rfl]; exact h3, h4⟩
theorem App.lt {B : Nat} {w : World} {e : TypeId} {k : IntKind} {ad : Option Addr} {n c : Nat} {xs : List Int} (h : App B w e k ad n c xs) (b : Nat) (hb : blkOf ad = some b) : B ≤ b ∧ b < w.heap.size :=
  World.ownsRow.lt h b (by rw [ownBlock_slice]; exact hb)
theorem Rds.kept {w w1 : World} {k : IntKind} {ad : Option Addr} {n : Nat} {xs : List Int} (h : Rds w k ad n xs) (hk : 0 < n → ∀ b, blkOf ad = some b → w1.heap[b]? = w.heap[b]?) : Rds w1 k ad n xs :=
  ⟨h.len, fun j hj => by
    obtain ⟨a, rfl, hc⟩ := h.cell j hj
    refine ⟨a, rfl, ?_⟩
    rw [← hc]
    have e2 : (a.add j).block = a.block := by unfold Addr.add; split <;> rfl
    simp only [World.cell?, e2, hk (by omega) a.block rfl]⟩

/-- Its places, and that they may be written upon. -/
theorem App.opened {B : Nat} {w : World} {e : TypeId} {k : IntKind} {ad : Option Addr} {n c : Nat} {xs : List Int} (h : App B w e k ad n c xs) (hn : 0 < n) :
    ∃ g, ad = some ⟨g, 0, none⟩ ∧ B ≤ g ∧ (∀ j, j < n → w.cell? ⟨g, j, none⟩ = some (.int k (xs[j]?.getD 0))) ∧ (∀ j, w.frozen? ⟨g, j, none⟩ = false) ∧ (∀ j v, j < n → App B (w.setCell ⟨g, j, none⟩ (.int k v)) e k ad n c (xs.set j v)) ∧
      (∀ j v, Only g w (w.setCell ⟨g, j, none⟩ v)) := by
  have hl := h.len
  rcases h.2 with ⟨_, h2⟩ | ⟨g, cap, cur, h1, h2, h3, h4, h5, h6, h7⟩
  · omega
  · injection h1 with h1 h1' h1''
    subst h1
    subst h1''
    rw [Nat.mul_one] at h7 h6
    have hr : RowAt w g e k xs := ⟨cur, h3, by omega, fun j hj => by
      have e1 := congrArg (fun l => l[j]?) h7
      simp only [List.getElem?_take_of_lt (show j < n by omega)] at e1
      rw [← Array.getElem?_toList, e1, nums_get k xs j hj]⟩
    refine ⟨g, rfl, h2, fun j hj => hr.cell j (by omega), hr.free, fun j v hj => ⟨by rw [nums_length, List.length_set, hl, Nat.mul_one], .inr ⟨g, c, cur.setIfInBounds j (.int k v), rfl, h2, ?_, h4, h5, by simpa using h6, ?_⟩⟩, fun j v => (Only.refl g w).set j v⟩
    · simp only [World.setCell, Array.getElem?_modify, h3, if_true, Option.map_some, Option.isSome_none]
      simp
    · rw [Nat.mul_one]
      have e1 : (cur.setIfInBounds j (.int k v)).toList = cur.toList.set j (.int k v) := by simp
      rw [e1, List.take_set, h7]
      unfold nums
      rw [List.map_set]
section
variable {P : Program} {ops : Array Oper} {rest : List Oper} {o : Oper} {a : Act} {Q : Exit → Act → World → Prop}
/-- As app_one: and no other block has turned; the row lies where it lay, or is new. -/
theorem app_kept {w0 W : World} (B : Nat) (hgd : o.guard = none) (s x : Operand) (t e : TypeId) (k : IntKind) (bytes : Nat)
    (ho : o.op = .call { callee := .builtin .append, args := #[s, x], argTypes := #[t, t] })
    (ht : P.underlying t = some (.slice e)) (hinfo : (P.info? e).map (fun i => (i.zero, i.size, i.bytes)) = some (some (.int k 0), 1, bytes)) (hb0 : 0 < bytes)
    (ad : Option Addr) (n c : Nat) (xs : List Int) (y : Int) (hs : a.eval s = .slice ad n c) (hx : a.eval x = .slice (some ⟨W.heap.size, 0, none⟩) 1 1)
    (HO : App B W e k ad n c xs) (HB : Below B w0 W) (hB : B ≤ W.heap.size) (hl : (n + 1) * bytes ≤ 140737488355328)
    (h : ∀ ad1 c1 w1, App B w1 e k ad1 (n + 1) c1 (xs ++ [y]) → Below B w0 w1 → W.heap.size ≤ w1.heap.size → Hid (∀ i, i < W.heap.size → blkOf ad ≠ some i → w1.heap[i]? = W.heap[i]?) → Hid (∀ i, blkOf ad1 = some i → blkOf ad = some i ∨ W.heap.size ≤ i) →
      wpList P ops Q rest (a.put o.dst (.slice ad1 (n + 1) c1)) w1) :
    wpList P ops Q (o :: rest) a (W.alloc (.cells #[.int k y] e)) := by
  obtain ⟨i0, hi, hzz⟩ := Option.map_eq_some_iff.1 hinfo
  simp only [Prod.mk.injEq] at hzz
  obtain ⟨hz0, hz1, hz2⟩ := hzz
  have hlen : n + 1 ≤ 140737488355328 := Nat.le_trans (Nat.le_mul_of_pos_right _ hb0) hl
  refine wpList_append_own_at (W.alloc (.cells #[.int k y] e)) hgd s x t ho B e i0 (.int k 0) 1 bytes ht hi hz0 hz1 hz2 rfl (by omega) (.slice ad n c) n (nums k xs) hs (HO.alloc _) ⟨W.heap.size, 0, none⟩ 1 1 [.int k y] hx rfl
    (World.news_of_block (cs := #[.int k y]) (t := e) (fr := (0, 0)) (heap_alloc_new W _)) (by intro u hu; simp at hu; subst hu; rfl) (by simp only [maxLen]; omega) hl (by simp; omega) ?_
  intro v1 w1 hown hg _ hat
  have hbel : Below B w0 w1 := (HB.alloc hB _).grown hg (by simp; omega) (fun r hr => (World.ownsRow.lt HO r hr).1)
  have hsz : W.heap.size ≤ w1.heap.size := Nat.le_trans (by simp) hg.size
  rcases hown.2 with ⟨_, h2⟩ | ⟨g, cap, cur, rfl, _⟩
  · omega
  · refine h _ _ w1 (by simpa [App, nums] using hown) hbel hsz (Lib.hid fun i hi hne => ?_) (Lib.hid fun i hi => ?_)
    · rw [hg.block i (by simp; omega) (by rw [ownBlock_slice]; exact fun e => hne e.symm)]
      simp only [World.alloc, Array.getElem?_push]
      rw [if_neg (by omega)]
    · rw [ownBlock_slice, ownBlock_slice] at hat
      rcases hat with h1 | h1
      · exact .inl (by rw [← h1]; exact hi)
      · rw [hi] at h1
        injection h1 with h1
        refine .inr ?_
        rw [h1]
        simp
/-- append(v, y0, y1, ..). -/
theorem app_many {w0 W : World} (B : Nat) (hgd : o.guard = none) (s x : Operand) (t e : TypeId) (k : IntKind) (bytes : Nat)
    (ho : o.op = .call { callee := .builtin .append, args := #[s, x], argTypes := #[t, t] })
    (ht : P.underlying t = some (.slice e)) (hinfo : (P.info? e).map (fun i => (i.zero, i.size, i.bytes)) = some (some (.int k 0), 1, bytes)) (hb0 : 0 < bytes)
    (ad : Option Addr) (n c : Nat) (xs ys : List Int) (m : Nat) (hm : ys.length = m) (hm0 : 0 < m) (cs : Array Value) (hcs : cs = (nums k ys).toArray) (hs : a.eval s = .slice ad n c) (hx : a.eval x = .slice (some ⟨W.heap.size, 0, none⟩) m m)
    (HO : App B W e k ad n c xs) (HB : Below B w0 W) (hB : B ≤ W.heap.size) (hl : (n + m) * bytes ≤ 140737488355328)
    (h : ∀ ad1 c1 w1, App B w1 e k ad1 (n + m) c1 (xs ++ ys) → Below B w0 w1 → B ≤ w1.heap.size → wpList P ops Q rest (a.put o.dst (.slice ad1 (n + m) c1)) w1) :
    wpList P ops Q (o :: rest) a (W.alloc (.cells cs e)) := by
  subst hcs
  obtain ⟨i0, hi, hzz⟩ := Option.map_eq_some_iff.1 hinfo
  simp only [Prod.mk.injEq] at hzz
  obtain ⟨hz0, hz1, hz2⟩ := hzz
  have hlen : n + m ≤ 140737488355328 := Nat.le_trans (Nat.le_mul_of_pos_right _ hb0) hl
  refine wpList_append_own_at (W.alloc (.cells (nums k ys).toArray e)) hgd s x t ho B e i0 (.int k 0) 1 bytes ht hi hz0 hz1 hz2 rfl (by omega) (.slice ad n c) n (nums k xs) hs (HO.alloc _) ⟨W.heap.size, 0, none⟩ m m (nums k ys) hx (by rw [nums_length, hm, Nat.mul_one])
    (by have := World.news_of_block (cs := (nums k ys).toArray) (t := e) (fr := (0, 0)) (heap_alloc_new W _); simpa using this) (by intro u hu; simp only [nums, List.mem_map] at hu; obtain ⟨z, _, rfl⟩ := hu; rfl) (by simp only [maxLen]; omega) hl (by simp; omega) ?_
  intro v1 w1 hown hg _ hat
  have hbel : Below B w0 w1 := (HB.alloc hB _).grown hg (by simp; omega) (fun r hr => (World.ownsRow.lt HO r hr).1)
  have hsz : B ≤ w1.heap.size := Nat.le_trans (Nat.le_trans hB (by simp)) hg.size
  rcases hown.2 with ⟨_, h2⟩ | ⟨g, cap, cur, rfl, _⟩
  · omega
  · exact h _ _ w1 (by have := hown; unfold App nums; rw [List.map_append]; exact this) hbel hsz
/-- append(v, y) where there is room: no bound is asked. -/
theorem app_room {w0 W : World} (B : Nat) (hgd : o.guard = none) (s x : Operand) (t e : TypeId) (k : IntKind) (bytes : Nat)
    (ho : o.op = .call { callee := .builtin .append, args := #[s, x], argTypes := #[t, t] })
    (ht : P.underlying t = some (.slice e)) (hinfo : (P.info? e).map (fun i => (i.zero, i.size, i.bytes)) = some (some (.int k 0), 1, bytes))
    (g n c : Nat) (xs : List Int) (y : Int) (hs : a.eval s = .slice (some ⟨g, 0, none⟩) n c) (hx : a.eval x = .slice (some ⟨W.heap.size, 0, none⟩) 1 1)
    (HO : App B W e k (some ⟨g, 0, none⟩) n c xs) (HB : Below B w0 W) (hB : B ≤ W.heap.size) (hroom : n + 1 ≤ c)
    (h : ∀ w1, App B w1 e k (some ⟨g, 0, none⟩) (n + 1) c (xs ++ [y]) → Below B w0 w1 → B ≤ w1.heap.size → wpList P ops Q rest (a.put o.dst (.slice (some ⟨g, 0, none⟩) (n + 1) c)) w1) :
    wpList P ops Q (o :: rest) a (W.alloc (.cells #[.int k y] e)) := by
  obtain ⟨i0, hi, hzz⟩ := Option.map_eq_some_iff.1 hinfo
  simp only [Prod.mk.injEq] at hzz
  obtain ⟨hz0, hz1, hz2⟩ := hzz
  refine wpList_append_fits (W.alloc (.cells #[.int k y] e)) hgd s x t ho B e i0 1 ht hi hz1 g n c (nums k xs) hs (HO.alloc _) ⟨W.heap.size, 0, none⟩ 1 1 [.int k y] hx rfl
    (World.news_of_block (cs := #[.int k y]) (t := e) (fr := (0, 0)) (heap_alloc_new W _)) (by intro u hu; simp at hu; subst hu; rfl) hroom ?_
  intro w1 hown hg
  have hb0 := (HO.lt g rfl).1
  have hbel : Below B w0 w1 := (HB.alloc hB _).grown hg (by simp; omega) (fun r hr => by injection hr with hr; omega)
  exact h w1 (by simpa [App, nums] using hown) hbel (Nat.le_trans (Nat.le_trans hB (by simp)) hg.size)
end
end Go.Proofs.YtgnophflogmmaaaDoor
