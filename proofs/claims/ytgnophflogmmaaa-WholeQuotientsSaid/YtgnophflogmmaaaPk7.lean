/- Contracts of functions, and plain facts, part 7. -/
import Derived.Laws.Rows
import Derived.OneCell
import Derived.OwnWalk
import Derived.Test.YtgnophflogmmaaaPk2
import Derived.Test.YtgnophflogmmaaaPk3
import Derived.Test.YtgnophflogmmaaaPk4
import Derived.Test.YtgnophflogmmaaaPk5
set_option linter.unusedVariables false
set_option linter.unusedSimpArgs false
/- The number that a text in decimal tells: plain. -/
namespace Go.Proofs.Ytgnophflogmmaaa

/-- What digits tell, the highest first. -/
def readV (cs : List Int) : Int := cs.foldl (fun a c => a * 10 + (c - 48)) 0
/-- Is it one that Read takes? -/
def readOk (cs : List Int) : Bool := decide (cs ≠ [] ∧ (cs[0]?.getD 0 = 48 → cs.length = 1) ∧ (∀ c ∈ cs, 48 ≤ c ∧ c ≤ 57) ∧ (dg 4294967296 (readV cs)).length ≤ 262144)
def readNum (cs : List Int) : Int := if readOk cs then readV cs else 0

theorem readV_snoc (cs : List Int) (c : Int) : readV (cs ++ [c]) = readV cs * 10 + (c - 48) := by simp [readV]
theorem readV_take (cs : List Int) (i : Nat) (h : i < cs.length) : readV (cs.take (i + 1)) = readV (cs.take i) * 10 + (cs[i]?.getD 0 - 48) := by
  rw [List.take_add_one, List.getElem?_eq_getElem h]
  exact readV_snoc _ _
def Decs (cs : List Int) : Prop := ∀ c ∈ cs, 48 ≤ c ∧ c ≤ 57
theorem Decs.get {cs : List Int} (h : Decs cs) {i : Nat} (hi : i < cs.length) : 48 ≤ cs[i]?.getD 0 ∧ cs[i]?.getD 0 ≤ 57 := by
  rw [List.getElem?_eq_getElem hi]
  exact h _ (List.getElem_mem hi)
theorem readV_nonneg (cs : List Int) (h : Decs cs) (i : Nat) : 0 ≤ readV (cs.take i) := by
  induction i with
  | zero => simp [readV]
  | succ i ih =>
    rcases Nat.lt_or_ge i cs.length with h1 | h1
    · rw [readV_take cs i h1]
      have := h.get h1
      omega
    · rw [List.take_of_length_le (by omega)]
      rw [List.take_of_length_le h1] at ih
      exact ih
theorem readV_mono (cs : List Int) (h : Decs cs) (i j : Nat) (hij : i ≤ j) : readV (cs.take i) ≤ readV (cs.take j) := by
  obtain ⟨d, rfl⟩ := Nat.le.dest hij
  induction d with
  | zero => exact Int.le_refl _
  | succ d ih =>
    have h1 := ih (by omega)
    rcases Nat.lt_or_ge (i + d) cs.length with h2 | h2
    · rw [show i + (d + 1) = i + d + 1 by omega, readV_take cs _ h2]
      have := h.get h2
      have := readV_nonneg cs h (i + d)
      omega
    · rw [show cs.take (i + (d + 1)) = cs.take (i + d) by rw [List.take_of_length_le (by omega), List.take_of_length_le h2]]
      exact h1
theorem readV_full (cs : List Int) : readV (cs.take cs.length) = readV cs := by rw [List.take_length]
theorem dg_mono (V U : Int) (hV : 0 ≤ V) (h : V ≤ U) : (dg 4294967296 V).length ≤ (dg 4294967296 U).length := by
  refine dg_length_le 4294967296 (by omega) _ _ ?_
  have := dg_lt_of_len 4294967296 (by omega) _ U (by omega) (Nat.le_refl _)
  omega
theorem readNum_nonneg (cs : List Int) : 0 ≤ readNum cs := by
  unfold readNum
  split
  · rename_i h
    have h2 := (of_decide_eq_true h).2.2.1
    rw [← readV_full]
    exact readV_nonneg cs h2 _
  · omega

/-- A place times a small number and what came up. -/
theorem times_step (xs ys : List Int) (k : Nat) (c t v T : Int) (hk : k < ys.length) (hs : ys[k]?.getD 0 = xs[k]?.getD 0) (hv : v = xs[k]?.getD 0 * t + c)
    (h : val 4294967296 (ys.take k) + 4294967296 ^ k * c = val 4294967296 (xs.take k) * t + T) :
    val 4294967296 ((ys.set k (v % 4294967296)).take (k + 1)) + 4294967296 ^ (k + 1) * (v / 4294967296) = val 4294967296 (xs.take (k + 1)) * t + T := by
  rw [val_set_take _ ys k _ hk, val_take_succ', Int.pow_succ]
  have e : v = 4294967296 * (v / 4294967296) + v % 4294967296 := by omega
  generalize v / 4294967296 = q at *
  generalize v % 4294967296 = r at *
  generalize (4294967296 : Int) ^ k = P at *
  generalize val 4294967296 (ys.take k) = A at *
  generalize val 4294967296 (xs.take k) = D at *
  generalize xs[k]?.getD 0 = x at *
  have h2 : P * v = P * x * t + P * c := by rw [hv]; grind
  have h3 : P * v = P * 4294967296 * q + P * r := by rw [e]; grind
  have h4 : (D + P * x) * t = D * t + P * x * t := by rw [Int.add_mul]
  omega

/-- A list whose worth is that of a number of as many digits. -/
theorem dg_of_ge (ys : List Int) (V : Int) (d : Dig 4294967296 ys) (h : val 4294967296 ys = V) (hl : ys.length = 0 ∨ 4294967296 ^ (ys.length - 1) ≤ V) : ys = dg 4294967296 V := by
  have hn : norm ys = ys := by
    rcases hl with h0 | h0
    · rw [List.length_eq_zero_iff.1 h0]; rfl
    · by_cases e : norm ys = ys
      · exact e
      · have := val_lt_norm (b := 4294967296) (by omega) d e
        omega
  have := norm_eq 4294967296 (by omega) d
  rw [hn, show ((4294967296 : Nat) : Int) = 4294967296 from rfl, h] at this
  exact this
theorem dg_ge (V : Int) (h0 : 0 ≤ V) : (dg 4294967296 V).length = 0 ∨ 4294967296 ^ ((dg 4294967296 V).length - 1) ≤ V := by
  by_cases h : dg 4294967296 V = []
  · exact .inl (by rw [h]; rfl)
  · refine .inr ?_
    have := val_ge (b := 4294967296) (by omega) (dg_dig 4294967296 (by omega) V.toNat) (norm_dg 4294967296 (by omega) V) h
    have e := val_dg 4294967296 (by omega) V h0
    rw [show ((4294967296 : Nat) : Int) = 4294967296 from rfl] at e
    change 4294967296 ^ ((dg 4294967296 V).length - 1) ≤ val 4294967296 (dg 4294967296 V) at this
    rw [e] at this
    exact this
/-- All places are done; nothing comes up. -/
theorem times_end0 (P t T : Int) (ys : List Int) (hP : 0 ≤ P) (ht : 1 ≤ t) (hT : 0 ≤ T) (d : Dig 4294967296 ys) (hl : ys.length = (dg 4294967296 P).length)
    (h : val 4294967296 (ys.take ys.length) + 4294967296 ^ ys.length * 0 = val 4294967296 ((dg 4294967296 P).take ys.length) * t + T) : ys = dg 4294967296 (P * t + T) := by
  rw [List.take_length, Int.mul_zero, Int.add_zero, hl, List.take_length] at h
  have e := val_dg 4294967296 (by omega) P hP
  rw [show ((4294967296 : Nat) : Int) = 4294967296 from rfl] at e
  rw [e] at h
  refine dg_of_ge ys _ d h ?_
  have h1 := dg_ge P hP
  rw [← hl] at h1
  rcases h1 with h1 | h1
  · exact .inl h1
  · refine .inr ?_
    have := Int.mul_le_mul_of_nonneg_left ht hP
    omega
/-- Something comes up: a place more. -/
theorem times_end1 (P t T c : Int) (ys : List Int) (hP : 0 ≤ P) (ht : 1 ≤ t) (hT : 0 ≤ T) (d : Dig 4294967296 ys) (hl : ys.length = (dg 4294967296 P).length) (hc : 0 < c ∧ c < 4294967296)
    (h : val 4294967296 (ys.take ys.length) + 4294967296 ^ ys.length * c = val 4294967296 ((dg 4294967296 P).take ys.length) * t + T) : ys ++ [c] = dg 4294967296 (P * t + T) := by
  rw [List.take_length, hl, List.take_length, ← hl] at h
  have e := val_dg 4294967296 (by omega) P hP
  rw [show ((4294967296 : Nat) : Int) = 4294967296 from rfl] at e
  rw [e] at h
  have d2 := d.append (Dig.cons (by omega) hc.2 (Dig.nil _) : Dig 4294967296 [c])
  refine dg_of_ge _ _ d2 (by rw [val_snoc]; exact h) (.inr ?_)
  rw [List.length_append, List.length_singleton, Nat.add_sub_cancel, ← h]
  have h1 := val_nonneg (show (0 : Int) < 4294967296 by omega) d
  have hp : (0 : Int) < 4294967296 ^ ys.length := Int.pow_pos (by omega)
  have := Int.mul_le_mul_of_nonneg_left (show 1 ≤ c by omega) (Int.le_of_lt hp)
  omega
/-- A chunk of nine digits at most. -/
theorem chunk_step (P t n d : Int) : (P * t + n) * 10 + d = P * (t * 10) + (n * 10 + d) := by grind
end Go.Proofs.Ytgnophflogmmaaa

/- NLen by worth alone. -/
namespace Go.Proofs.Ytgnophflogmmaaa
open Go.RowKit

theorem num_len (ad : Option Addr) (n c : Nat) (V : Int) (w : World) (h : Num w ad n c V) (hn : n ≤ 70368744177663) :
    Calls Try.prog 61 #[.slice ad n c] w (fun e w' => e = .returned (.int .i64 (bitsOf V)) ∧ w = w') := by
  obtain ⟨xs, h1, h2, rfl⟩ := h.row
  exact (nlen_calls ad n c xs w (by omega) h.le h1 h2).mono fun e w' q => q
end Go.Proofs.Ytgnophflogmmaaa

/- NCmp by worth alone. -/
namespace Go.Proofs.Ytgnophflogmmaaa
open Go.RowKit

theorem num_cmp (ad bd : Option Addr) (n m c d : Nat) (V U : Int) (w : World) (h : Num w ad n c V) (k : Num w bd m d U) (hn : n ≤ 70368744177663) (hm : m ≤ 70368744177663) :
    Calls Try.prog 73 #[.slice ad n c, .slice bd m d] w (RetI (cmpI V U) w) := by
  obtain ⟨xs, h1, h2, rfl⟩ := h.row
  obtain ⟨zs, k1, k2, rfl⟩ := k.row
  exact (ncmp_calls ad bd n m c d xs zs w (by omega) (by omega) h.le k.le h1 k1 h2 k2).mono fun e w' q => q
end Go.Proofs.Ytgnophflogmmaaa

/- Uint by worth alone. -/
namespace Go.Proofs.Ytgnophflogmmaaa
open Go.RowKit

theorem num_uint (ad : Option Addr) (n c : Nat) (V : Int) (w : World) (h : Num w ad n c V) (hn : n ≤ 70368744177663) :
    Calls Try.prog 68 #[.slice ad n c] w (fun e w' => e = .returned (.tuple #[.int .u64 (low64 V), .bool (fits64 V)]) ∧ w = w') := by
  obtain ⟨xs, h1, h2, rfl⟩ := h.row
  exact (uint_calls ad n c xs w (by omega) h.le h1 h2).mono fun e w' q => q
end Go.Proofs.Ytgnophflogmmaaa

/- RNorm by worth alone. -/
namespace Go.Proofs.Ytgnophflogmmaaa
open Go.RowKit

theorem num_rnorm (ad : Option Addr) (n c : Nat) (V : Int) (w : World) (h : Num w ad n c V) (hn : n ≤ 1099511627776) :
    Calls Try.prog 70 #[.slice ad n c] w (RetC V w) := by
  obtain ⟨xs, h1, h2, rfl⟩ := h.row
  exact (rnorm_calls ad n c xs w (by omega) h1 h2).mono fun e w' q => q.can
end Go.Proofs.Ytgnophflogmmaaa

/- RUint by worth alone. -/
namespace Go.Proofs.Ytgnophflogmmaaa
open Go.RowKit

theorem num_ruint (ad : Option Addr) (n c : Nat) (V : Int) (w : World) (h : Num w ad n c V) (hn : n ≤ 1099511627776) :
    Calls Try.prog 69 #[.slice ad n c] w (fun e w' => e = .returned (.tuple #[.int .u64 (low64 V), .bool (fits64 V)]) ∧ Below w.heap.size w w') := by
  obtain ⟨xs, h1, h2, rfl⟩ := h.row
  exact (ruint_calls ad n c xs w (by omega) h1 h2).mono fun e w' q => q
end Go.Proofs.Ytgnophflogmmaaa

/- Whole numbers: signed, made, Norm of the program. -/
namespace Go.Proofs.Ytgnophflogmmaaa
open Go.RowKit

/-- A number of a sign and a size. -/
def sI (ng : Bool) (V : Int) : Int := if ng then -V else V
/-- The sign. -/
def sgI (N : Int) : Int := if N < 0 then -1 else if N = 0 then 0 else 1
theorem sI_abs (ng : Bool) (V : Int) (h : 0 ≤ V) : ((sI ng V).natAbs : Int) = V := by unfold sI; cases ng <;> simp <;> omega
theorem sI_neg (ng : Bool) (V : Int) (h : 0 ≤ V) : decide (sI ng V < 0) = (ng && decide (0 < V)) := by
  unfold sI
  cases ng
  · simp; omega
  · simp

/-- A whole number in normal form is told. -/
def RetInt (N : Int) (w : World) (e : Ending) (w' : World) : Prop :=
  ∃ ad n c, e = .returned (.agg #[.bool (decide (N < 0)), .slice ad n c]) ∧ Can w' ad n c N.natAbs ∧ Below w.heap.size w w'
def RetIntB (N : Int) (ok : Bool) (w : World) (e : Ending) (w' : World) : Prop :=
  ∃ ad n c, e = .returned (.tuple #[.agg #[.bool (decide (N < 0)), .slice ad n c], .bool ok]) ∧ Can w' ad n c N.natAbs ∧ Below w.heap.size w w'

theorem size_int : (Try.prog.info? 25).map (·.size) = some 2 := by kernel_rfl

theorem results_row_tmp {P : Program} {fn : Func} {p u : Tmp} {ty : TypeId} (h : fn.results = #[.cell p ty, .tmp u]) (tmps : Array Value) (w : World) (g : Nat) (t : TypeId) (cs : Array Value) (fr : Nat × Nat) (d : TypeDesc)
    (hp : tmps.getD p undef = .pointer (some ⟨g, 0, none⟩)) (hg : w.heap[g]? = some (.cells cs t fr))
    (hu : P.underlying ty = some d) (hd : (match d with | .struct _ | .array _ _ => true | _ => false) = true) (hi : (P.info? ty).map (·.size) = some cs.size) :
    (results fn tmps).run P w = .ok (.tuple #[.agg cs, tmps.getD u undef]) w := by
  have hp' : tmps[p]?.getD undef = .pointer (some ⟨g, 0, none⟩) := by simpa using hp
  simp [results, h, hp', asAddr, run_loadVar_row w g t ty cs fr d hg hu hd hi]

theorem wmade_calls (s : Int) (ad : Option Addr) (n c : Nat) (V : Int) (w : World) (h : Can w ad n c V) (hV : 0 ≤ V) :
    Calls Try.prog 52 #[.int .i8 s, .slice ad n c] w (fun e w' => e = .returned (.agg #[.bool (decide (s = -1) && decide (0 < V)), .slice ad n c]) ∧ Below w.heap.size w w') := by
  have hz := h.zero_iff hV
  have hb : ∀ r : Bool, Below w.heap.size w (w.alloc (.cells #[.bool r, .slice ad n c] 25)) := fun r => (Below.refl _ _).alloc (Nat.le_refl _) _
  have HB := Lib.hid hb
  clear hb h
  obtain ⟨r, hr⟩ : ∃ r, r = (decide (s = -1) && decide (0 < V)) := ⟨_, rfl⟩
  rw [← hr]
  by_cases hs : s = -1
  · subst hs
    by_cases hn : n = 0
    · subst hn
      have HR := Lib.hid (show r = false by rw [hr, hz.1 rfl]; decide)
      clear hz hr
      go_enter Try.func52, Try.ntmps52
      go_wp2
      refine bodyPost_ret (results_cell_row rfl _ _ w.heap.size 25 #[.bool false, .slice ad 0 c] (0, 0) _ rfl (heap_alloc_new _ _) Try.underlying25 rfl size_int) rfl ?_
      rw [HR.out]
      exact ⟨rfl, HB.out _⟩
    · have HR := Lib.hid (show r = true by rw [hr]; simp; omega)
      have hn2 : decide (0 < n) = true := by simp; omega
      clear hz hn hr
      go_enter Try.func52, Try.ntmps52
      go_wp2
      refine bodyPost_ret (results_cell_row rfl _ _ w.heap.size 25 #[.bool true, .slice ad n c] (0, 0) _ rfl (heap_alloc_new _ _) Try.underlying25 rfl size_int) rfl ?_
      rw [HR.out]
      exact ⟨rfl, HB.out _⟩
  · have HR := Lib.hid (show r = false by rw [hr, decide_eq_false hs]; rfl)
    have hs2 : (s == -1) = false := by simpa using hs
    clear hz hs hr
    go_enter Try.func52, Try.ntmps52
    go_wp2
    refine bodyPost_ret (results_cell_row rfl _ _ w.heap.size 25 #[.bool false, .slice ad n c] (0, 0) _ rfl (heap_alloc_new _ _) Try.underlying25 rfl size_int) rfl ?_
    rw [HR.out]
    exact ⟨rfl, HB.out _⟩

theorem wsigned_calls (ng : Bool) (ad : Option Addr) (n c : Nat) (V : Int) (w : World) (h : Num w ad n c V) (hn : n ≤ 70368744177663) :
    Calls Try.prog 50 #[.agg #[.bool ng, .slice ad n c]] w (fun e w' => ∃ ad' n' c', e = .returned (.tuple #[.int .i8 (sgI (sI ng V)), .slice ad' n' c']) ∧ Can w' ad' n' c' V ∧ Below w.heap.size w w') := by
  have hV := h.nonneg
  have bA : Below w.heap.size w (w.alloc (.cells #[.bool ng, .slice ad n c] 25)) := (Below.refl _ _).alloc (Nat.le_refl _) _
  have c0 : (w.alloc (.cells #[.bool ng, .slice ad n c] 25)).cell? ⟨w.heap.size, 0, none⟩ = some (.bool ng) := World.cell?_alloc_at _ _ _ _ rfl
  have c1 : (w.alloc (.cells #[.bool ng, .slice ad n c] 25)).cell? ⟨w.heap.size, 1, none⟩ = some (.slice ad n c) := World.cell?_alloc_at _ _ _ _ rfl
  have HN := Lib.hid (num_norm ad n c V _ (h.below bA (Nat.le_refl _)) hn)
  clear h
  go_enter Try.func50, Try.ntmps50
  go_wp2_with fail
  refine (HN.out).mono ?_
  rintro e w1 ⟨ad1, n1, c1', rfl, f1, b1⟩
  have d0 := below_cell b1 (Nat.le_refl _) c0
  have d1 := below_cell b1 (Nat.le_refl _) c1
  have b2 := below_trans bA b1
  clear c0 c1 HN
  have hz := f1.zero_iff hV
  by_cases hn1 : n1 = 0
  · have hV0 := hz.1 hn1
    subst hn1 hV0
    have HS := Lib.hid (show sgI (sI ng 0) = 0 by cases ng <;> decide)
    clear hz
    go_wp2
    go_ret2
    rw [HS.out]
    exact ⟨none, 0, 0, rfl, ⟨Nat.le_refl _, by rw [dg_zero]; exact Rds.nil _ _ _⟩, b2⟩
  · have hn2 : ((n1 : Int) == 0) = false := by simp; omega
    have hV1 : 0 < V := by have : V ≠ 0 := fun e => hn1 (hz.2 e); omega
    clear hz hn1
    cases ng
    · have HS := Lib.hid (show sgI (sI false V) = 1 by show sgI V = 1; unfold sgI; rw [if_neg (by omega), if_neg (by omega)])
      go_wp2
      go_ret2
      rw [HS.out]
      exact ⟨_, _, _, rfl, f1, b2⟩
    · have HS := Lib.hid (show sgI (sI true V) = -1 by show sgI (-V) = -1; unfold sgI; rw [if_pos (by omega)])
      go_wp2
      go_ret2
      rw [HS.out]
      exact ⟨_, _, _, rfl, f1, b2⟩
end Go.Proofs.Ytgnophflogmmaaa

/- A slice of the call's own that is appended to: what else stays as it was. -/
namespace Go.Proofs.Ytgnophflogmmaaa
open Go.RowKit

/-- The block that an address lies in. -/
def blkOf (ad : Option Addr) : Option Nat := ad.map (·.block)
theorem ownBlock_slice (ad : Option Addr) (n c : Nat) : (Value.slice ad n c).ownBlock = blkOf ad := by cases ad <;> rfl

theorem App.kept {B : Nat} {w w1 : World} {e : TypeId} {k : IntKind} {ad : Option Addr} {n c : Nat} {xs : List Int} (h : App B w e k ad n c xs) (hk : ∀ b, blkOf ad = some b → w1.heap[b]? = w.heap[b]?) : App B w1 e k ad n c xs := by
  refine ⟨h.1, ?_⟩
  rcases h.2 with h2 | ⟨g, cap, cur, h1, h2, h3, h4⟩
  · exact .inl h2
  · injection h1 with h1 _ _
    subst h1
    exact .inr ⟨g, cap, cur, by rename_i h5 h6; subst h6; rfl, h2, by rw [hk g rfl]; exact h3, h4⟩
theorem App.lt {B : Nat} {w : World} {e : TypeId} {k : IntKind} {ad : Option Addr} {n c : Nat} {xs : List Int} (h : App B w e k ad n c xs) (b : Nat) (hb : blkOf ad = some b) : B ≤ b ∧ b < w.heap.size :=
  World.ownsRow.lt h b (by rw [ownBlock_slice]; exact hb)
theorem Rds.kept {w w1 : World} {k : IntKind} {ad : Option Addr} {n : Nat} {xs : List Int} (h : Rds w k ad n xs) (hk : 0 < n → ∀ b, blkOf ad = some b → w1.heap[b]? = w.heap[b]?) : Rds w1 k ad n xs :=
  ⟨h.len, fun j hj => by
    obtain ⟨a, rfl, hc⟩ := h.cell j hj
    refine ⟨a, rfl, ?_⟩
    rw [← hc]
    have e2 : (a.add j).block = a.block := by unfold Addr.add; split <;> rfl
    simp only [World.cell?, e2, hk (by omega) a.block rfl]⟩

/-- Its places, and that they may be written upon. -/
theorem App.opened {B : Nat} {w : World} {e : TypeId} {k : IntKind} {ad : Option Addr} {n c : Nat} {xs : List Int} (h : App B w e k ad n c xs) (hn : 0 < n) :
    ∃ g, ad = some ⟨g, 0, none⟩ ∧ B ≤ g ∧ (∀ j, j < n → w.cell? ⟨g, j, none⟩ = some (.int k (xs[j]?.getD 0))) ∧ (∀ j, w.frozen? ⟨g, j, none⟩ = false) ∧ (∀ j v, j < n → App B (w.setCell ⟨g, j, none⟩ (.int k v)) e k ad n c (xs.set j v)) ∧
      (∀ j v, Only g w (w.setCell ⟨g, j, none⟩ v)) := by
  have hl := h.len
  rcases h.2 with ⟨_, h2⟩ | ⟨g, cap, cur, h1, h2, h3, h4, h5, h6, h7⟩
  · omega
  · injection h1 with h1 h1' h1''
    subst h1
    subst h1''
    rw [Nat.mul_one] at h7 h6
    have hr : RowAt w g e k xs := ⟨cur, h3, by omega, fun j hj => by
      have e1 := congrArg (fun l => l[j]?) h7
      simp only [List.getElem?_take_of_lt (show j < n by omega)] at e1
      rw [← Array.getElem?_toList, e1, nums_get k xs j hj]⟩
    refine ⟨g, rfl, h2, fun j hj => hr.cell j (by omega), hr.free, fun j v hj => ⟨by rw [nums_length, List.length_set, hl, Nat.mul_one], .inr ⟨g, c, cur.setIfInBounds j (.int k v), rfl, h2, ?_, h4, h5, by simpa using h6, ?_⟩⟩, fun j v => (Only.refl g w).set j v⟩
    · simp only [World.setCell, Array.getElem?_modify, h3, if_true, Option.map_some, Option.isSome_none]
      simp
    · rw [Nat.mul_one]
      have e1 : (cur.setIfInBounds j (.int k v)).toList = cur.toList.set j (.int k v) := by simp
      rw [e1, List.take_set, h7]
      unfold nums
      rw [List.map_set]
section
variable {P : Program} {ops : Array Oper} {rest : List Oper} {o : Oper} {a : Act} {Q : Exit → Act → World → Prop}
/-- As app_one: and no other block has turned; the row lies where it lay, or is new. -/
theorem app_kept {w0 W : World} (B : Nat) (hgd : o.guard = none) (s x : Operand) (t e : TypeId) (k : IntKind) (bytes : Nat)
    (ho : o.op = .call { callee := .builtin .append, args := #[s, x], argTypes := #[t, t] })
    (ht : P.underlying t = some (.slice e)) (hinfo : (P.info? e).map (fun i => (i.zero, i.size, i.bytes)) = some (some (.int k 0), 1, bytes)) (hb0 : 0 < bytes)
    (ad : Option Addr) (n c : Nat) (xs : List Int) (y : Int) (hs : a.eval s = .slice ad n c) (hx : a.eval x = .slice (some ⟨W.heap.size, 0, none⟩) 1 1)
    (HO : App B W e k ad n c xs) (HB : Below B w0 W) (hB : B ≤ W.heap.size) (hl : (n + 1) * bytes ≤ 140737488355328)
    (h : ∀ ad1 c1 w1, App B w1 e k ad1 (n + 1) c1 (xs ++ [y]) → Below B w0 w1 → W.heap.size ≤ w1.heap.size → Hid (∀ i, i < W.heap.size → blkOf ad ≠ some i → w1.heap[i]? = W.heap[i]?) → Hid (∀ i, blkOf ad1 = some i → blkOf ad = some i ∨ W.heap.size ≤ i) →
      wpList P ops Q rest (a.put o.dst (.slice ad1 (n + 1) c1)) w1) :
    wpList P ops Q (o :: rest) a (W.alloc (.cells #[.int k y] e)) := by
  obtain ⟨i0, hi, hzz⟩ := Option.map_eq_some_iff.1 hinfo
  simp only [Prod.mk.injEq] at hzz
  obtain ⟨hz0, hz1, hz2⟩ := hzz
  have hlen : n + 1 ≤ 140737488355328 := Nat.le_trans (Nat.le_mul_of_pos_right _ hb0) hl
  refine wpList_append_own_at (W.alloc (.cells #[.int k y] e)) hgd s x t ho B e i0 (.int k 0) 1 bytes ht hi hz0 hz1 hz2 rfl (by omega) (.slice ad n c) n (nums k xs) hs (HO.alloc _) ⟨W.heap.size, 0, none⟩ 1 1 [.int k y] hx rfl
    (World.news_of_block (cs := #[.int k y]) (t := e) (fr := (0, 0)) (heap_alloc_new W _)) (by intro u hu; simp at hu; subst hu; rfl) (by simp only [maxLen]; omega) hl (by simp; omega) ?_
  intro v1 w1 hown hg _ hat
  have hbel : Below B w0 w1 := (HB.alloc hB _).grown hg (by simp; omega) (fun r hr => (World.ownsRow.lt HO r hr).1)
  have hsz : W.heap.size ≤ w1.heap.size := Nat.le_trans (by simp) hg.size
  rcases hown.2 with ⟨_, h2⟩ | ⟨g, cap, cur, rfl, _⟩
  · omega
  · refine h _ _ w1 (by simpa [App, nums] using hown) hbel hsz (Lib.hid fun i hi hne => ?_) (Lib.hid fun i hi => ?_)
    · rw [hg.block i (by simp; omega) (by rw [ownBlock_slice]; exact fun e => hne e.symm)]
      simp only [World.alloc, Array.getElem?_push]
      rw [if_neg (by omega)]
    · rw [ownBlock_slice, ownBlock_slice] at hat
      rcases hat with h1 | h1
      · exact .inl (by rw [← h1]; exact hi)
      · rw [hi] at h1
        injection h1 with h1
        refine .inr ?_
        rw [h1]
        simp
/-- append(v, y0, y1, ..). -/
theorem app_many {w0 W : World} (B : Nat) (hgd : o.guard = none) (s x : Operand) (t e : TypeId) (k : IntKind) (bytes : Nat)
    (ho : o.op = .call { callee := .builtin .append, args := #[s, x], argTypes := #[t, t] })
    (ht : P.underlying t = some (.slice e)) (hinfo : (P.info? e).map (fun i => (i.zero, i.size, i.bytes)) = some (some (.int k 0), 1, bytes)) (hb0 : 0 < bytes)
    (ad : Option Addr) (n c : Nat) (xs ys : List Int) (m : Nat) (hm : ys.length = m) (hm0 : 0 < m) (cs : Array Value) (hcs : cs = (nums k ys).toArray) (hs : a.eval s = .slice ad n c) (hx : a.eval x = .slice (some ⟨W.heap.size, 0, none⟩) m m)
    (HO : App B W e k ad n c xs) (HB : Below B w0 W) (hB : B ≤ W.heap.size) (hl : (n + m) * bytes ≤ 140737488355328)
    (h : ∀ ad1 c1 w1, App B w1 e k ad1 (n + m) c1 (xs ++ ys) → Below B w0 w1 → B ≤ w1.heap.size → wpList P ops Q rest (a.put o.dst (.slice ad1 (n + m) c1)) w1) :
    wpList P ops Q (o :: rest) a (W.alloc (.cells cs e)) := by
  subst hcs
  obtain ⟨i0, hi, hzz⟩ := Option.map_eq_some_iff.1 hinfo
  simp only [Prod.mk.injEq] at hzz
  obtain ⟨hz0, hz1, hz2⟩ := hzz
  have hlen : n + m ≤ 140737488355328 := Nat.le_trans (Nat.le_mul_of_pos_right _ hb0) hl
  refine wpList_append_own_at (W.alloc (.cells (nums k ys).toArray e)) hgd s x t ho B e i0 (.int k 0) 1 bytes ht hi hz0 hz1 hz2 rfl (by omega) (.slice ad n c) n (nums k xs) hs (HO.alloc _) ⟨W.heap.size, 0, none⟩ m m (nums k ys) hx (by rw [nums_length, hm, Nat.mul_one])
    (by have := World.news_of_block (cs := (nums k ys).toArray) (t := e) (fr := (0, 0)) (heap_alloc_new W _); simpa using this) (by intro u hu; simp only [nums, List.mem_map] at hu; obtain ⟨z, _, rfl⟩ := hu; rfl) (by simp only [maxLen]; omega) hl (by simp; omega) ?_
  intro v1 w1 hown hg _ hat
  have hbel : Below B w0 w1 := (HB.alloc hB _).grown hg (by simp; omega) (fun r hr => (World.ownsRow.lt HO r hr).1)
  have hsz : B ≤ w1.heap.size := Nat.le_trans (Nat.le_trans hB (by simp)) hg.size
  rcases hown.2 with ⟨_, h2⟩ | ⟨g, cap, cur, rfl, _⟩
  · omega
  · exact h _ _ w1 (by have := hown; unfold App nums; rw [List.map_append]; exact this) hbel hsz
/-- append(v, y) where there is room: no bound is asked. -/
theorem app_room {w0 W : World} (B : Nat) (hgd : o.guard = none) (s x : Operand) (t e : TypeId) (k : IntKind) (bytes : Nat)
    (ho : o.op = .call { callee := .builtin .append, args := #[s, x], argTypes := #[t, t] })
    (ht : P.underlying t = some (.slice e)) (hinfo : (P.info? e).map (fun i => (i.zero, i.size, i.bytes)) = some (some (.int k 0), 1, bytes))
    (g n c : Nat) (xs : List Int) (y : Int) (hs : a.eval s = .slice (some ⟨g, 0, none⟩) n c) (hx : a.eval x = .slice (some ⟨W.heap.size, 0, none⟩) 1 1)
    (HO : App B W e k (some ⟨g, 0, none⟩) n c xs) (HB : Below B w0 W) (hB : B ≤ W.heap.size) (hroom : n + 1 ≤ c)
    (h : ∀ w1, App B w1 e k (some ⟨g, 0, none⟩) (n + 1) c (xs ++ [y]) → Below B w0 w1 → B ≤ w1.heap.size → wpList P ops Q rest (a.put o.dst (.slice (some ⟨g, 0, none⟩) (n + 1) c)) w1) :
    wpList P ops Q (o :: rest) a (W.alloc (.cells #[.int k y] e)) := by
  obtain ⟨i0, hi, hzz⟩ := Option.map_eq_some_iff.1 hinfo
  simp only [Prod.mk.injEq] at hzz
  obtain ⟨hz0, hz1, hz2⟩ := hzz
  refine wpList_append_fits (W.alloc (.cells #[.int k y] e)) hgd s x t ho B e i0 1 ht hi hz1 g n c (nums k xs) hs (HO.alloc _) ⟨W.heap.size, 0, none⟩ 1 1 [.int k y] hx rfl
    (World.news_of_block (cs := #[.int k y]) (t := e) (fr := (0, 0)) (heap_alloc_new W _)) (by intro u hu; simp at hu; subst hu; rfl) hroom ?_
  intro w1 hown hg
  have hb0 := (HO.lt g rfl).1
  have hbel : Below B w0 w1 := (HB.alloc hB _).grown hg (by simp; omega) (fun r hr => by injection hr with hr; omega)
  exact h w1 (by simpa [App, nums] using hown) hbel (Nat.le_trans (Nat.le_trans hB (by simp)) hg.size)
end
end Go.Proofs.Ytgnophflogmmaaa

/- quot.below: a multiple is taken off a row. -/
namespace Go.Proofs.Ytgnophflogmmaaa
open Go.RowKit

/-- Digit x less pm and r, in words of 64 bits. -/
theorem below_word (x pm r : Int) (hx : 0 ≤ x ∧ x < 4294967296) (hp : 0 ≤ pm ∧ pm < 4294967296) (hr : 0 ≤ r ∧ r < 4294967296) :
    ∃ d o : Int, IntKind.u64.wrap (IntKind.u64.wrap (x - pm) - r) = d ∧ 0 ≤ d ∧ d < 18446744073709551616 ∧ (o = 0 ∨ o = 1 ∨ o = 2) ∧ d % 4294967296 = x - pm - r + o * 4294967296 ∧ d / 9223372036854775808 = (if 0 < o then 1 else 0) ∧ (r ≤ 1 → o ≤ 1) := by
  have e : ∀ z : Int, IntKind.u64.wrap z = z % 18446744073709551616 := fun z => by rfl
  refine ⟨(x - pm - r) % 18446744073709551616, if x - pm - r < -4294967296 then 2 else if x - pm - r < 0 then 1 else 0, ?_, by omega, by omega, ?_, ?_, ?_, ?_⟩
  · rw [e, e]; omega
  · split
    · omega
    · split <;> omega
  · split
    · omega
    · split <;> omega
  · split
    · simp; omega
    · split <;> simp <;> omega
  · intro h; split
    · omega
    · split <;> omega

theorem and_low32 (z : Int) (hz : 0 ≤ z ∧ z < 18446744073709551616) : bits .and .u64 z 4294967295 = z % 4294967296 := by
  obtain ⟨z, rfl⟩ := Int.eq_ofNat_of_zero_le hz.1
  have e : bits .and .u64 (z : Int) ((4294967295 : Nat) : Int) = ((z &&& 4294967295 : Nat) : Int) := Go.bits_and_u64_nat z _ (by omega) (by omega)
  have e2 : z &&& 4294967295 = z % 4294967296 := Nat.and_two_pow_sub_one_eq_mod z 32
  rw [e2] at e
  have e' : bits .and .u64 (z : Int) 4294967295 = ((z % 4294967296 : Nat) : Int) := e
  rw [e']
  simp

def BelowI (w : World) (bl : Nat) (t : TypeId) (Z : List Int) (j n : Nat) (m : Int) (ys : List Int) (k : Nat) (c r : Int) (wr : World) : Prop :=
  ∃ X, RowAt wr bl t .u32 (putAt Z j X) ∧ X.length = n + 1 ∧ Dig 4294967296 X ∧ Only bl w wr ∧ 0 ≤ c ∧ c < 4294967296 ∧ 0 ≤ r ∧ r ≤ 1 ∧ (∀ q, k ≤ q → X[q]?.getD 0 = ((Z.drop j).take (n + 1))[q]?.getD 0) ∧
    val 4294967296 (X.take k) + val 4294967296 (ys.take k) * m = val 4294967296 (((Z.drop j).take (n + 1)).take k) + (c + r) * 4294967296 ^ k

/-- The row with m times ys taken off; was that too much? -/
def BelowR (w : World) (bl : Nat) (t : TypeId) (Z : List Int) (j n : Nat) (m : Int) (ys : List Int) (e : Ending) (w' : World) : Prop :=
  ∃ X ok, e = .returned (.bool ok) ∧ RowAt w' bl t .u32 (putAt Z j X) ∧ X.length = n + 1 ∧ Dig 4294967296 X ∧ Only bl w w' ∧
    val 4294967296 X + val 4294967296 ys * m = val 4294967296 ((Z.drop j).take (n + 1)) + (if ok = true then 1 else 0) * 4294967296 ^ (n + 1)

theorem below_calls (bl j n c cy : Nat) (t : TypeId) (Z ys : List Int) (yd : Option Addr) (m : Int) (w : World) (hlen : j + (n + 1) ≤ Z.length) (hbig : n < 70368744177664) (hc : n + 1 ≤ c) (hcy : n ≤ cy)
    (hx : RowAt w bl t .u32 Z) (hy : Rds w .u32 yd n ys) (hne : ∀ a, yd = some a → a.block ≠ bl) (dz : Dig 4294967296 Z) (dy : Dig 4294967296 ys) (hm0 : 0 ≤ m) (hm1 : m < 4294967296) :
    Calls Try.prog 102 #[.slice (some ⟨bl, j, none⟩) (n + 1) c, .slice yd n cy, .int .u64 m] w (BelowR w bl t Z j n m ys) := by
  have HY := Lib.hid hy.len
  have hI : BelowI w bl t Z j n m ys 0 0 0 w := ⟨(Z.drop j).take (n + 1), by rw [putAt_self Z j (n + 1) hlen]; exact hx, by rw [List.length_take, List.length_drop]; omega, (dz.drop j).take _, Only.refl _ _, by omega, by omega, by omega, by omega, fun _ _ => rfl, by simp [val]⟩
  obtain ⟨a, ha⟩ : ∃ a : Addr, (⟨bl, j, none⟩ : Addr) = a := ⟨_, rfl⟩
  have haj : ∀ k, a.add k = ⟨bl, j + k, none⟩ := fun k => by rw [← ha]; unfold Addr.add; split <;> simp_all
  have HA := Lib.hid haj
  rw [ha]
  have HX := Lib.hid (show ((Z.drop j).take (n + 1)).length = n + 1 by rw [List.length_take, List.length_drop]; omega)
  have dxx := (dz.drop j).take (n + 1)
  have HL := Lib.hid hlen
  clear ha haj hlen hx
  unfold BelowI at hI
  unfold BelowR
  generalize hxs : (Z.drop j).take (n + 1) = xs at *
  clear hxs
  go_enter Try.func102, Try.ntmps102
  go_wp2
  go_loopw [16, 7, 8] (fun i cy br wr => ∃ k : Nat, ∃ c r : Int, k ≤ n ∧ i = .int .i64 k ∧ cy = .int .u64 c ∧ br = .int .u64 r ∧
    ∃ X, RowAt wr bl t .u32 (putAt Z j X) ∧ X.length = n + 1 ∧ Dig 4294967296 X ∧ Only bl w wr ∧ 0 ≤ c ∧ c < 4294967296 ∧ 0 ≤ r ∧ r ≤ 1 ∧ (∀ q, k ≤ q → X[q]?.getD 0 = xs[q]?.getD 0) ∧
    val 4294967296 (X.take k) + val 4294967296 (ys.take k) * m = val 4294967296 (xs.take k) + (c + r) * 4294967296 ^ k) (fun i _ _ _ => n - (intOf i).toNat)
  case atStart => exact ⟨0, 0, 0, Nat.zero_le _, rfl, rfl, rfl, hI⟩
  case round =>
    clear hI
    obtain ⟨k, c, r, hk, rfl, rfl, rfl, X, h1, h2, h3, h4, hc0, hc1, hr0, hr1, h5, h6⟩ := hrel
    have H2 := Lib.hid h2
    have H5 := Lib.hid h5
    have H6 := Lib.hid h6
    clear h2 h5 h6
    have hcell : ∀ q, q < n + 1 → wr.cell? (a.add q) = some (.int .u32 (X[q]?.getD 0)) := fun q hq => by
      rw [HA.out q, h1.cell (j + q) (by rw [putAt_length _ _ _ (by rw [H2.out]; exact HL.out)]; have := HL.out; omega), putAt_get _ _ _ (by have := HL.out; omega) _ (by rw [H2.out]; exact hq)]
    have hfree : ∀ q, wr.frozen? (a.add q) = false := fun q => by rw [HA.out q]; exact h1.free _
    have hset : ∀ q v, q < n + 1 → RowAt (wr.setCell (a.add q) (.int .u32 v)) bl t .u32 (putAt Z j (X.set q v)) := fun q v hq => by
      rw [HA.out q, ← putAt_set Z j X (by have := HL.out; omega) q (by rw [H2.out]; exact hq)]
      exact h1.set _ _
    have hon : ∀ q v, Only bl w (wr.setCell (a.add q) v) := fun q v => by rw [HA.out q]; exact h4.set _ _
    by_cases hkn : k < n
    · have hcx := hcell k (by omega)
      rw [H5.out k (Nat.le_refl _)] at hcx
      have hf := hfree k
      obtain ⟨b, rfl, hyl⟩ := (hy.only h4 hne).cell k hkn
      have bx := dxx.get (by omega) k
      have bz := dy.get (by omega) k
      have bb := mul_bound (o := 0) rfl bz.1 bz.2 hm0 hm1 (by omega) (by omega) hc0 hc1
      have ST := fun v r' hv => Lib.hid (below_step 4294967296 xs X ys k (by rw [H2.out]; omega) m c r _ v r' rfl hv H6.out)
      clear H6
      generalize hgx : xs[k]?.getD 0 = x at *
      have HXK := Lib.hid hgx
      clear hgx
      generalize ys[k]?.getD 0 = y at *
      generalize ht : y * m = T at *
      have HT := Lib.hid ht
      clear ht
      obtain ⟨bt0, bt1, bs0, bs1⟩ := bb
      obtain ⟨p, hp⟩ : ∃ p, T + c = p := ⟨_, rfl⟩
      rw [hp] at ST
      obtain ⟨d, o, hw, hd0, hd1, ho, hlow, hhigh, ho1⟩ := below_word x (p % 4294967296) r bx (by omega) (by omega)
      have ho2 : o = 0 ∨ o = 1 := by omega
      have hh2 : d / 9223372036854775808 = o := by rcases ho2 with rfl | rfl <;> simpa using hhigh
      have hand := and_low32 p (by omega)
      have W1 : IntKind.u64.wrap (y * m) = T := by rw [HT.out]; exact IntWalk.u64_in _ (by omega)
      have W2 : IntKind.u64.wrap (T + c) = p := by rw [hp]; exact IntWalk.u64_in _ (by omega)
      have SX := ST _ o hlow
      have K1 := hset k (d % 4294967296) (by omega)
      have O1 := hon k (.int .u32 (d % 4294967296))
      have D1 := h3.set (show 0 ≤ d % 4294967296 by omega) (show d % 4294967296 < 4294967296 by omega) k
      clear ST hhigh ho1 hcell hset hon hfree hlow ho
      go_wp2
      go_roundw
      case rel =>
        refine ⟨k + 1, p / 4294967296, o, by omega, by go_num, rfl, rfl, _, K1, by rw [List.length_set, H2.out], D1, O1, by omega, by omega, by omega, by omega, fun q hq => ?_, SX.out⟩
        rw [List.getElem?_set_ne (by omega)]
        exact H5.out q (by omega)
      case measure => simp [intOf]; omega
    · obtain rfl : k = n := by omega
      have hcx := hcell k (by omega)
      rw [H5.out k (Nat.le_refl _)] at hcx
      have hf := hfree k
      have bx := dxx.get (by omega) k
      have ST := fun v r' hv => Lib.hid (below_end 4294967296 xs X ys k HX.out H2.out HY.out m c r v r' hv H6.out)
      generalize xs[k]?.getD 0 = x at *
      obtain ⟨d, o, hw, hd0, hd1, ho, hlow, hhigh, ho1⟩ := below_word x c r bx ⟨hc0, hc1⟩ ⟨hr0, by omega⟩
      have ho2 : o = 0 ∨ o = 1 := by omega
      have hh2 : d / 9223372036854775808 = o := by rcases ho2 with rfl | rfl <;> simpa using hhigh
      have SX := ST _ o hlow
      have K1 := hset k (d % 4294967296) (by omega)
      have O1 := hon k (.int .u32 (d % 4294967296))
      have D1 := h3.set (show 0 ≤ d % 4294967296 by omega) (show d % 4294967296 < 4294967296 by omega) k
      clear ST hhigh ho1 hcell hset hon hfree hlow ho
      go_wp2
      go_ret
      refine ⟨_, _, rfl, K1, by rw [List.length_set, H2.out], D1, O1, ?_⟩
      rw [SX.out]
      rcases ho2 with rfl | rfl <;> simp
end Go.Proofs.Ytgnophflogmmaaa
