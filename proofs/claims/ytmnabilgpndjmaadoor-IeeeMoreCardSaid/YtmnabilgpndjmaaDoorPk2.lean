/- Contracts of functions, and plain facts, part 2. -/
import Derived.SizedLaws
import Derived.ChangeSlices
import Derived.OpenShut
import Derived.Test.YtmnabilgpndjmaaDoorProg
import Derived.Deep.QuietTactic
import Derived.BigQuiet
import Derived.Lib.BitFns
import Derived.Lib.Strings
import Derived.Lib.Slices
import Derived.Lib.Small
import Derived.Lib.Walk
import Derived.Test.YtmnabilgpndjmaaDoorPk1
set_option linter.unusedVariables false
set_option linter.unusedSimpArgs false
/- From a row's readings to what the walks ask: a slice of whole numbers, a whole number. -/
namespace Go.Proofs.YtmnabilgpndjmaaDoor
open Go.ChangeShapes Go.WideShapes Go.RowKit

/-- The law holds: true, and nothing that was there has turned. -/
def LawTrue (w : World) (e : Ending) (w' : World) : Prop := e = .returned (.bool true) ∧ Below w.heap.size w w'

/-- A slice of whole numbers as the form reads it. -/
def IsRow (k : IntKind) (w : World) (a : Option Addr) (len cap : Nat) (zs : List Int) : Prop :=
  (a = none ∧ len = 0 ∧ cap = 0 ∧ zs = []) ∨
  ∃ x, a = some x ∧ len ≤ cap ∧ cap ≤ maxLen ∧ zs.length = cap ∧ (∀ i, i < zs.length → w.cell? (x.add i) = some (.int k (zs.getD i 0))) ∧ ∀ n ∈ zs, (Lit.int k n).wf = true

theorem IsRow.rds {k : IntKind} {w : World} {a : Option Addr} {len cap : Nat} {zs : List Int} (h : IsRow k w a len cap zs) : Rds w k a len (zs.take len) := by
  rcases h with ⟨rfl, rfl, rfl, rfl⟩ | ⟨x, rfl, h1, h2, h3, h4, h5⟩
  · exact Rds.nil _ _ _
  · refine ⟨by rw [List.length_take]; omega, fun j hj => ⟨x, rfl, ?_⟩⟩
    rw [h4 j (by omega), List.getElem?_take_of_lt hj, List.getD_eq_getElem?_getD]
theorem IsRow.none {k : IntKind} {w : World} {a : Option Addr} {len cap : Nat} {zs : List Int} (h : IsRow k w a len cap zs) : a = none → cap = 0 := by
  rcases h with ⟨rfl, rfl, rfl, rfl⟩ | ⟨x, rfl, h1, _⟩
  · exact fun _ => rfl
  · exact fun h => by cases h
theorem IsRow.le {k : IntKind} {w : World} {a : Option Addr} {len cap : Nat} {zs : List Int} (h : IsRow k w a len cap zs) : len ≤ cap := by
  rcases h with ⟨rfl, rfl, rfl, rfl⟩ | ⟨x, rfl, h1, _⟩
  · exact Nat.le_refl _
  · exact h1
theorem IsRow.wf {k : IntKind} {w : World} {a : Option Addr} {len cap : Nat} {zs : List Int} (h : IsRow k w a len cap zs) : ∀ n ∈ zs.take len, (Lit.int k n).wf = true := by
  intro n hn
  have hn := List.mem_of_mem_take hn
  rcases h with ⟨rfl, rfl, rfl, rfl⟩ | ⟨x, rfl, h1, h2, h3, h4, h5⟩
  · cases hn
  · exact h5 n hn
theorem wf_u8 {x : Int} (h : (Lit.int .u8 x).wf = true) : 0 ≤ x ∧ x < 256 := by
  have := bounds_u8 h
  omega
theorem wf_u16 {x : Int} (h : (Lit.int .u16 x).wf = true) : 0 ≤ x ∧ x < 65536 := by
  have := bounds_u16 h
  omega
theorem wf_u32 {x : Int} (h : (Lit.int .u32 x).wf = true) : 0 ≤ x ∧ x < 4294967296 := by
  have := bounds_u32 h
  omega
theorem wf_u64 {x : Int} (h : (Lit.int .u64 x).wf = true) : 0 ≤ x ∧ x < 18446744073709551616 := by
  have := bounds_u64 h
  omega
theorem wf_i16 {x : Int} (h : (Lit.int .i16 x).wf = true) : -32768 ≤ x ∧ x < 32768 := by
  have := bounds_i16 h
  omega
theorem wf_i64 {x : Int} (h : (Lit.int .i64 x).wf = true) : -9223372036854775808 ≤ x ∧ x < 9223372036854775808 := by
  have := bounds_i64 h
  omega
theorem IsRow.dig {w : World} {a : Option Addr} {len cap : Nat} {zs : List Int} (h : IsRow .u32 w a len cap zs) : Dig 4294967296 (zs.take len) := fun n hn => wf_u32 (h.wf n hn)

/-- A row's slice of whole numbers is no longer than its weight allows. -/
theorem sized_ints {H : Type} {enc : TypeId × Value → H} {P : Program} {W : World} {base : Nat} {spare : Nat → Bool} {held : Bool} {t e : TypeId} {k : IntKind} {a : Option Addr} {len cap : Nat} {d : DataW H} {ps : List MemPlace} {ts : List TypeId} {ds : List (DataW H)} {j : Nat}
    (hsz : (DataW.weightsEach P ts ds).all (· ≤ reachBytes) = true) (ht : ts[j]? = some t) (hd : ds[j]? = some d) (hu : P.underlying t = some (.slice e)) (he : P.underlying e = some (.int k)) (hc : P.cellsOf e = 1) {B : Nat} (hB : P.bytesOf e = B)
    (h : DataW.Trod enc P W base spare held t (.slice a len cap) d ps) : len * B ≤ 140737488351232 := by
  obtain ⟨fuel, hf⟩ := h
  rcases open_ints hu he hc hf with ⟨hcs, _⟩ | ⟨x, l, c, zs, hcs, _, hl, _, hz, hx, _, _⟩
  · simp [Value.cells] at hcs
    obtain ⟨rfl, rfl, rfl⟩ := hcs
    simp
  · simp [Value.cells] at hcs
    obtain ⟨rfl, rfl, rfl⟩ := hcs
    obtain ⟨hx, _⟩ := Prod.mk.inj hx
    subst hx
    have z := sized_slice hsz ht hd hu
    rw [hB] at z
    have hl2 : len ≤ zs.length := by
      rw [hz]
      split
      · exact hl
      · exact Nat.le_refl _
    have h1 : (lits (H := H) k (zs.take len)).length + (lits (H := H) k (zs.drop len)).length = zs.length := by
      simp [lits]
      omega
    rw [h1] at z
    exact Nat.le_trans (Nat.mul_le_mul_right _ hl2) z
end Go.Proofs.YtmnabilgpndjmaaDoor

/- Bytes and limbs of one number; long multiplication with a carry that runs on: plain facts on lists. -/
namespace Go.Proofs.YtmnabilgpndjmaaDoor

theorem pow4 (i : Nat) : (256 : Int) ^ (4 * i) = 4294967296 ^ i := by
  rw [Int.pow_mul]
  rfl

theorem val_snoc (b : Int) (xs : List Int) (y : Int) : val b (xs ++ [y]) = val b xs + b ^ xs.length * y := by
  rw [val_append]
  simp [val]

/-- A limb's bytes: k of them told, x is what is left. -/
theorem bytes_step (ds : List Int) (N : Nat) (hN : ds.length = N) (x V : Int) (hx : 0 ≤ x) (h : val 256 ds + 256 ^ N * x = V) :
    val 256 (ds ++ [x % 256]) + 256 ^ (N + 1) * (x / 256) = V := by
  rw [val_snoc, hN, Int.pow_succ]
  have := Int.emod_add_mul_ediv x 256
  generalize x / 256 = q at *
  generalize x % 256 = r at *
  generalize (256 : Int) ^ N = P at *
  generalize val 256 ds = v at *
  subst this
  grind

/-- limbs: the state behind the places from j on. -/
def LimbSt (ls out : List Int) (j : Nat) : Prop :=
  Dig 4294967296 out ∧ out.length = (ls.length + 3) / 4 ∧ (∀ q, q < j / 4 → out[q]?.getD 0 = 0) ∧ out[j / 4]?.getD 0 < 256 ^ (4 - j % 4) ∧
    val 256 (ls.drop j) = out[j / 4]?.getD 0 + 256 ^ (4 - j % 4) * val 4294967296 (out.drop (j / 4 + 1))

theorem getD_replicate (n j : Nat) : ((List.replicate n (0 : Int))[j]?).getD 0 = 0 := by
  rw [List.getElem?_replicate]
  split <;> rfl

theorem pow256_pos (n : Nat) : (0 : Int) < 256 ^ n := Int.pow_pos (by omega)

theorem limb_start (ls : List Int) : LimbSt ls (List.replicate ((ls.length + 3) / 4) 0) ls.length := by
  refine ⟨Dig.replicate _ (by omega) _, by simp, fun q _ => getD_replicate _ _, ?_, ?_⟩
  · rw [getD_replicate]
    exact pow256_pos _
  · rw [getD_replicate, List.drop_length, List.drop_replicate, val_replicate]
    simp [val]

theorem drop_ge (b : Int) (xs : List Int) (q : Nat) : val b (xs.drop q) = xs[q]?.getD 0 + b * val b (xs.drop (q + 1)) := by
  rcases Nat.lt_or_ge q xs.length with h | h
  · exact val_drop b xs q h
  · rw [List.drop_of_length_le h, List.drop_of_length_le (by omega), List.getElem?_eq_none h]
    simp [val]

theorem limb_step (ls out : List Int) (j : Nat) (hj : j < ls.length) (hl : Dig 256 ls) (h : LimbSt ls out (j + 1)) :
    0 ≤ out[j / 4]?.getD 0 * 256 ∧ out[j / 4]?.getD 0 * 256 + ls[j]?.getD 0 ≤ 4294967295 ∧ j / 4 < out.length ∧ LimbSt ls (out.set (j / 4) (out[j / 4]?.getD 0 * 256 + ls[j]?.getD 0)) j := by
  obtain ⟨h1, h2, h3, h4, h5⟩ := h
  have hd := hl.get (by omega) j
  have ho := h1.get (by omega) (j / 4)
  have hq : j / 4 < out.length := by omega
  have hv := val_drop 256 ls j hj
  rw [h5] at hv
  generalize hD : ls[j]?.getD 0 = d at *
  have key : out[j / 4]?.getD 0 * 256 + d < 256 ^ (4 - j % 4) ∧ val 256 (ls.drop j) = (out[j / 4]?.getD 0 * 256 + d) + 256 ^ (4 - j % 4) * val 4294967296 (out.drop (j / 4 + 1)) := by
    by_cases hr : j % 4 = 3
    · have e1 : (j + 1) / 4 = j / 4 + 1 := by omega
      have e2 : (j + 1) % 4 = 0 := by omega
      have hz := h3 (j / 4) (by omega)
      rw [e1, e2] at hv
      have e3 := drop_ge 4294967296 out (j / 4 + 1)
      rw [hz, hr]
      refine ⟨by simp; omega, ?_⟩
      rw [hv, e3]
      simp
    · have e1 : (j + 1) / 4 = j / 4 := by omega
      have e2 : 4 - j % 4 = (4 - (j + 1) % 4) + 1 := by omega
      rw [e1] at hv h4
      rw [e2, Int.pow_succ]
      generalize 4 - (j + 1) % 4 = s at *
      generalize out[j / 4]?.getD 0 = o at *
      generalize val 4294967296 (out.drop (j / 4 + 1)) = R at *
      generalize (256 : Int) ^ s = P at *
      refine ⟨by omega, ?_⟩
      rw [hv]
      grind
  have hP : (256 : Int) ^ (4 - j % 4) ≤ 4294967296 := by
    have : ∀ s : Nat, s < 4 → (256 : Int) ^ (4 - s) ≤ 4294967296 := by decide
    exact this _ (by omega)
  refine ⟨by omega, by omega, hq, h1.set (by omega) (by omega) _, by simp [h2], fun q hq' => ?_, ?_, ?_⟩
  · rw [List.getElem?_set_ne (by omega)]
    exact h3 q (by omega)
  · rw [List.getElem?_set_self hq]
    exact key.1
  · rw [List.getElem?_set_self hq, List.drop_set_of_lt (by omega)]
    exact key.2

theorem val_ge {b : Int} (hb : 0 < b) : ∀ {xs : List Int}, Dig b xs → norm xs = xs → xs ≠ [] → b ^ (xs.length - 1) ≤ val b xs
  | [x], h, hn, _ => by
    have h0 := h.head
    have : x ≠ 0 := by
      rintro rfl
      simp [norm] at hn
    simp [val]
    omega
  | x :: y :: ys, h, hn, _ => by
    have h0 := h.head
    have hn' : norm (y :: ys) = y :: ys := by
      have hn1 := hn
      rw [norm] at hn1
      split at hn1
      · cases hn1
      · simpa using hn1
    have ih := val_ge hb h.tail hn' (by simp)
    have : b * b ^ ((y :: ys).length - 1) ≤ b * val b (y :: ys) := Int.mul_le_mul_of_nonneg_left ih (Int.le_of_lt hb)
    rw [val]
    have e : b ^ ((x :: y :: ys).length - 1) = b * b ^ ((y :: ys).length - 1) := by
      simp only [List.length_cons, Nat.add_sub_cancel]
      rw [Int.pow_succ, Int.mul_comm]
    rw [e]
    omega

theorem val_lt_norm {b : Int} (hb : 0 < b) {xs : List Int} (h : Dig b xs) (hn : norm xs ≠ xs) : val b xs < b ^ (xs.length - 1) := by
  have hl := norm_length_le xs
  have hne : (norm xs).length ≠ xs.length := fun e => hn (by rw [norm_take, e, List.take_length])
  have := val_lt hb (norm_dig h)
  rw [val_norm] at this
  exact Int.lt_of_lt_of_le this (pow_le (by omega) (by omega))

theorem limb_end (ls out : List Int) (hl : Dig 256 ls) (hn : norm ls = ls) (h : LimbSt ls out 0) : out = dg 4294967296 (val 256 ls) := by
  obtain ⟨h1, h2, _, _, h5⟩ := h
  have e : val 4294967296 out = val 256 ls := by
    have := drop_ge 4294967296 out 0
    simp only [List.drop_zero, Nat.zero_div, Nat.zero_mod, Nat.zero_add] at this h5
    rw [this, h5]
    rfl
  have hno : norm out = out := by
    by_cases hno : norm out = out
    · exact hno
    · exfalso
      have hlt := val_lt_norm (by omega) h1 hno
      by_cases h0 : ls = []
      · subst h0
        simp at h2
        subst h2
        exact hno rfl
      · have hge := val_ge (by omega) hl hn h0
        rw [e, h2, ← pow4] at hlt
        have hlen : 0 < ls.length := List.length_pos_iff.2 h0
        have : (256 : Int) ^ (4 * ((ls.length + 3) / 4 - 1)) ≤ 256 ^ (ls.length - 1) := pow_le (by omega) (by omega)
        omega
  have := norm_eq 4294967296 (by omega) h1
  rw [hno] at this
  rw [this]
  exact congrArg (dg 4294967296) e

/-- A carry that runs on has its place. -/
theorem carry_place (b : Int) (hb : 1 < b) (xs zs ys : List Int) (i k : Nat) (c : Int) (hx : Dig b xs) (hz : Dig b zs) (hy : Dig b ys) (hc : 0 < c) (hi : i < xs.length)
    (E : val b ys + c * b ^ k = val b (xs.take (i + 1)) * val b zs) : k < i + 1 + zs.length := by
  rcases Nat.lt_or_ge k (i + 1 + zs.length) with h | h
  · exact h
  · exfalso
    have h1 := val_lt (by omega) (hx.take (i + 1))
    have h2 := val_lt (by omega) hz
    have h3 := val_nonneg (by omega) (hx.take (i + 1))
    have h4 := val_nonneg (by omega) hz
    have h5 := val_nonneg (by omega) hy
    rw [List.length_take, Nat.min_eq_left (by omega)] at h1
    have h6 : b ^ (i + 1 + zs.length) ≤ b ^ k := pow_le (by omega) h
    have h7 : b ^ k ≤ c * b ^ k := by
      have : 1 * b ^ k ≤ c * b ^ k := Int.mul_le_mul_of_nonneg_right (by omega) (Int.le_of_lt (Int.pow_pos (by omega)))
      omega
    have h8 : val b (xs.take (i + 1)) * val b zs < b ^ (i + 1) * b ^ zs.length := by
      have a1 : val b (xs.take (i + 1)) * val b zs ≤ val b (xs.take (i + 1)) * b ^ zs.length := Int.mul_le_mul_of_nonneg_left (by omega) h3
      have a2 : val b (xs.take (i + 1)) * b ^ zs.length < b ^ (i + 1) * b ^ zs.length := Int.mul_lt_mul_of_pos_right h1 (Int.pow_pos (by omega))
      omega
    rw [← Int.pow_add] at h8
    omega

theorem mul_outer_carry (B : Int) (xs zs ys : List Int) (i n : Nat) (hi : i < xs.length) (hn : n = zs.length) (c : Int)
    (E : val B ys + c * B ^ (i + n) = val B (xs.take i) * val B zs + xs[i]?.getD 0 * B ^ i * val B (zs.take n)) :
    val B ys + c * B ^ (i + n) = val B (xs.take (i + 1)) * val B zs := by
  rw [E, val_take_succ B xs i hi, hn, List.take_length]
  generalize xs[i]?.getD 0 = x at *
  generalize val B (xs.take i) = X at *
  generalize val B zs = Z at *
  generalize B ^ i = P at *
  grind
end Go.Proofs.YtmnabilgpndjmaaDoor

/- What the calls hand back, in words. -/
namespace Go.Proofs.YtmnabilgpndjmaaDoor
open Go.RowKit
/-- A list and a bool are handed back. -/
def RetLB (t : TypeId) (k : IntKind) (zs : List Int) (ok : Bool) (w : World) (e : Ending) (w' : World) : Prop :=
  ∃ ad n c, e = .returned (.tuple #[.slice ad n c, .bool ok]) ∧ Own w.heap.size w' t k ad n c zs ∧ Below w.heap.size w w'

/-- A list, a small number and a bool are handed back. -/
def RetLNB (t : TypeId) (k k2 : IntKind) (zs : List Int) (r : Int) (ok : Bool) (w : World) (e : Ending) (w' : World) : Prop :=
  ∃ ad n c, e = .returned (.tuple #[.slice ad n c, .int k2 r, .bool ok]) ∧ Own w.heap.size w' t k ad n c zs ∧ Below w.heap.size w w'

/-- An int is answered, some orders having been drawn. -/
def RetI (v : Int) (w : World) (e : Ending) (w' : World) : Prop := e = .returned (.int .i64 v) ∧ ∃ q, w' = w.drewN q

/-- An int is answered, nothing old has turned. -/
def RetIB (v : Int) (w : World) (e : Ending) (w' : World) : Prop := e = .returned (.int .i64 v) ∧ Below w.heap.size w w'

/-- A list and two bools are handed back. -/
def RetLBB (t : TypeId) (k : IntKind) (zs : List Int) (b1 b2 : Bool) (w : World) (e : Ending) (w' : World) : Prop :=
  ∃ ad n c, e = .returned (.tuple #[.slice ad n c, .bool b1, .bool b2]) ∧ Own w.heap.size w' t k ad n c zs ∧ Below w.heap.size w w'
end Go.Proofs.YtmnabilgpndjmaaDoor

/- nat.cut: what the call answers. -/
namespace Go.Proofs.YtmnabilgpndjmaaDoor
open Go.RowKit

theorem info_limb : (Tryd.prog.info? 76).map (fun i => (i.zero, i.size, i.bytes)) = some (some (.int .u32 0), 1, 4) := by kernel_rfl

/-- nat.cut: the list without noughts at its end, and without room behind it. -/
theorem cut_calls (ad : Option Addr) (n c : Nat) (xs : List Int) (w : World) (hn : n ≤ 9223372036854775807) (hnc : n ≤ c) (hr : Rds w .u32 ad n xs) :
    Calls Tryd.prog 94 #[.slice ad n c] w fun e w' => e = .returned (.slice ad (norm xs).length (norm xs).length) ∧ w = w' := by
  have HL := Lib.hid hr.len
  go_enter Tryd.func94, Tryd.ntmps94
  go_wp2
  go_loop [3] (fun i => ∃ k : Nat, k ≤ n ∧ i = .int .i64 k ∧ Hid (∀ j, k ≤ j → xs[j]?.getD 0 = 0)) (fun i => (intOf i).toNat)
  case atStart => exact ⟨n, Nat.le_refl _, rfl, fun j hj => by rw [List.getElem?_eq_none (by rw [HL.out]; exact hj)]; rfl⟩
  case round =>
    obtain ⟨k, hk, rfl, hz⟩ := hrel
    have hkc : k ≤ c := by omega
    by_cases h0 : 0 < k
    · obtain ⟨a, rfl, hcell⟩ := hr.cell (k - 1) (by omega)
      clear hr
      go_wp2
      · rename_i hb
        go_round
        case rel =>
          refine ⟨k - 1, by omega, by congr 1; omega, fun j hj => ?_⟩
          by_cases e : j = k - 1
          · subst e; simpa using hb
          · exact hz.out j (by omega)
        case measure => simp [intOf]; omega
      · have hb : (xs[k - 1]?.getD 0 == 0) = false := by assumption
        have e := norm_stop xs k (by rw [HL.out]; omega) hz.out (.inr (by simpa using hb))
        have e2 : (norm xs).length = k := by rw [e, List.length_take, HL.out]; omega
        go_ret
        rw [e2]
        exact ⟨rfl, rfl⟩
    · obtain rfl : k = 0 := by omega
      have E := Lib.hid (show (norm xs).length = 0 by rw [norm_stop xs 0 (Nat.zero_le _) hz.out (.inl rfl)]; rfl)
      go_wp2
      go_ret
      rw [E.out]
      exact ⟨rfl, rfl⟩

end Go.Proofs.YtmnabilgpndjmaaDoor

/- math/bits.Len32: how many bits a limb has. -/
namespace Go.Proofs.YtmnabilgpndjmaaDoor
open Go.RowKit
set_option maxHeartbeats 4000000 in
set_option maxRecDepth 100000 in
theorem len32_calls (x : Int) (w : World) (h0 : 0 ≤ x) (h1 : x ≤ 4294967295) :
    Calls Tryd.prog 95 #[.int .u32 x] w fun e w' => e = .returned (.int .i64 (Lib.bitLen x.toNat)) ∧ w = w' := by
  have u9 := Tryd.underlying9
  have hx : ∀ i : Int, 0 ≤ i → i ≤ 255 → ∀ w : World, (Instr.index 9 (.string Lib.len8tab) (.int .u8 i)).run Tryd.prog w = .ok (.int .u8 (Lib.len8 i)) w := fun i h0 h1 w => Lib.run_index_len8tab _ _ _ _ u9 h0 h1
  have x1 := hx (x / 65536 / 256) (by omega) (by omega)
  have x2 : x / 65536 < 256 → _ := fun h => hx (x / 65536) (by omega) (by omega)
  have x3 : x < 65536 → _ := fun h => hx (x / 256) (by omega) (by omega)
  have x4 : x < 256 → _ := fun h => hx x (by omega) (by omega)
  clear hx
  go_enter Tryd.func95, Tryd.ntmps95
  go_wp2
  all_goals (go_ret; refine ⟨congrArg Ending.returned (congrArg (Value.int IntKind.i64) ?_), rfl⟩)
  all_goals first
    | (rw [Lib.len8_of (x / 65536 / 256) (by omega) (by omega)]
       have e : (x / 65536 / 256).toNat = x.toNat / 16777216 := by omega
       have l := Lib.bitLen_le8' (x / 65536 / 256) (by omega) (by omega)
       have s := Lib.bitLen_shift24 x.toNat (by omega) (by omega)
       rw [e] at l ⊢
       unfold wrap64
       omega)
    | (rw [Lib.len8_of (x / 65536) (by omega) (by omega)]
       have e : (x / 65536).toNat = x.toNat / 65536 := by omega
       have l := Lib.bitLen_le8' (x / 65536) (by omega) (by omega)
       have s := Lib.bitLen_shift16 x.toNat (by omega) (by omega)
       rw [e] at l ⊢
       unfold wrap64
       omega)
    | (rw [Lib.len8_of (x / 256) (by omega) (by omega)]
       have e : (x / 256).toNat = x.toNat / 256 := by omega
       have l := Lib.bitLen_le8' (x / 256) (by omega) (by omega)
       have s := Lib.bitLen_shift8 x.toNat (by omega) (by omega)
       rw [e] at l ⊢
       unfold wrap64
       omega)
    | (rw [Lib.len8_of x (by omega) (by omega)]
       have l := Lib.bitLen_le8' x (by omega) (by omega)
       unfold wrap64
       omega)
end Go.Proofs.YtmnabilgpndjmaaDoor

/- crucibleref01.power: 2 to the n. -/
namespace Go.Proofs.YtmnabilgpndjmaaDoor
open Go.RowKit

theorem power_calls (n : Nat) (h : n < 8) (w : World) :
    Calls Tryd.prog 130 #[.int .i64 n] w fun e w' => e = .returned (.int .i64 (2 ^ n)) ∧ w = w' := by
  have hix : ∀ w, (Instr.index 178 (.agg #[.int .i64 1, .int .i64 2, .int .i64 4, .int .i64 8, .int .i64 16, .int .i64 32, .int .i64 64, .int .i64 128]) (.int .i64 n)).run Tryd.prog w = .ok (.int .i64 (2 ^ n)) w := by
    intro w
    rcases (show n = 0 ∨ n = 1 ∨ n = 2 ∨ n = 3 ∨ n = 4 ∨ n = 5 ∨ n = 6 ∨ n = 7 by omega) with rfl | rfl | rfl | rfl | rfl | rfl | rfl | rfl <;> kernel_rfl
  go_enter Tryd.func130, Tryd.ntmps130
  go_wp2
  go_ret
  exact ⟨rfl, rfl⟩
end Go.Proofs.YtmnabilgpndjmaaDoor

/- How many digits, how many bits a number has; which of two lists is the greater number: plain facts. -/
namespace Go.Proofs.YtmnabilgpndjmaaDoor

theorem dg_lt_of_len (b : Nat) (hb : 2 ≤ b) (n : Nat) (V : Int) (hV : 0 ≤ V) (h : (dg b V).length ≤ n) : V < (b : Int) ^ n := by
  have h1 := val_lt (b := b) (by omega) (dg_dig b hb V.toNat)
  have e : val b (digs b V.toNat) = V := val_dg b hb V hV
  rw [e] at h1
  exact Int.lt_of_lt_of_le h1 (pow_le (by omega) h)

theorem dg_len_iff (b : Nat) (hb : 2 ≤ b) (n : Nat) (V : Int) (hV : 0 ≤ V) : (dg b V).length ≤ n ↔ V < (b : Int) ^ n :=
  ⟨dg_lt_of_len b hb n V hV, dg_length_le b hb n V⟩

/-- A number below 2 to the 64, else 0. -/
def low64 (V : Int) : Int := if V < 18446744073709551616 then V else 0
def fits64 (V : Int) : Bool := decide (V < 18446744073709551616)

/-- How many bits. -/
def blen (n : Nat) : Nat := if n = 0 then 0 else n.log2 + 1

theorem blen_eq (n k : Nat) (h0 : 2 ^ k ≤ n) (h1 : n < 2 ^ (k + 1)) : blen n = k + 1 := by
  have hn : n ≠ 0 := by
    have := Nat.two_pow_pos k
    omega
  unfold blen
  rw [if_neg hn]
  have a := (Nat.le_log2 hn).2 h0
  have b := (Nat.log2_lt hn).2 h1
  omega

theorem blen_lt (n : Nat) : n < 2 ^ blen n := by
  unfold blen
  split
  · omega
  · rename_i h
    exact (Nat.log2_lt h).1 (Nat.lt_succ_self _)
theorem blen_ge (n : Nat) (hn : n ≠ 0) : 2 ^ (blen n - 1) ≤ n := by
  unfold blen
  rw [if_neg hn]
  exact (Nat.le_log2 hn).1 (by omega)
theorem blen_zero : blen 0 = 0 := rfl
theorem blen_pos (n : Nat) (h : n ≠ 0) : 0 < blen n := by
  unfold blen
  rw [if_neg h]
  omega

theorem blen_half (n : Nat) (h : n ≠ 0) : blen n = blen (n / 2) + 1 := by
  by_cases h2 : n / 2 = 0
  · have : n = 1 := by omega
    subst this
    decide
  · have a := blen_ge (n / 2) h2
    have b := blen_lt (n / 2)
    have c := blen_pos (n / 2) h2
    refine blen_eq n (blen (n / 2)) ?_ ?_
    · have e : 2 ^ blen (n / 2) = 2 * 2 ^ (blen (n / 2) - 1) := by
        rw [show blen (n / 2) = (blen (n / 2) - 1) + 1 by omega, Nat.pow_succ, Nat.mul_comm]
        simp
      omega
    · rw [Nat.pow_succ]
      omega

theorem bitLen_blen (n : Nat) (h : n < 2 ^ 64) : Lib.bitLen n = blen n := by
  induction n using Nat.strongRecOn with
  | ind n ih =>
    by_cases h0 : n = 0
    · subst h0; rfl
    · rw [Lib.bitLen_half n h0 h, ih (n / 2) (by omega) (by omega), blen_half n h0]
      omega

/-- A number by its lowest places and the highest. -/
theorem blen_split (lo top e : Nat) (hl : lo < 2 ^ e) (ht : top ≠ 0) : blen (lo + 2 ^ e * top) = e + blen top := by
  have a := blen_ge top ht
  have b := blen_lt top
  have c := blen_pos top ht
  obtain ⟨t, hT⟩ : ∃ t, blen top = t + 1 := ⟨blen top - 1, by omega⟩
  rw [hT] at a b ⊢
  simp only [Nat.add_sub_cancel] at a
  refine (blen_eq _ (e + t) ?_ ?_).trans (by omega)
  · rw [Nat.pow_add]
    have := Nat.mul_le_mul_left (2 ^ e) a
    omega
  · rw [show e + t + 1 = e + (t + 1) by omega, Nat.pow_add]
    have := Nat.mul_le_mul_left (2 ^ e) (show top + 1 ≤ 2 ^ (t + 1) by omega)
    rw [Nat.mul_add] at this
    omega

theorem norm_last {b : Int} {xs : List Int} (hn : norm xs = xs) (m : Nat) (hm : xs.length = m + 1) : xs[m]?.getD 0 ≠ 0 := by
  intro h
  have hm' : m < xs.length := by omega
  have h1 : (norm xs).length ≤ m := by
    rcases Nat.lt_or_ge m (norm xs).length with h2 | h2
    · exfalso
      -- a list with 0 at its end is longer than its norm
      have e : xs = xs.take m ++ List.replicate 1 0 := by
        conv => lhs; rw [← List.take_append_drop m xs]
        rw [List.drop_eq_getElem_cons hm', List.drop_of_length_le (by omega)]
        rw [List.getElem?_eq_getElem hm'] at h
        simp at h
        simp [h]
      have h3 := norm_append_zeros (xs.take m) 1
      rw [← e] at h3
      have h4 := norm_length_le (xs.take m)
      have h5 : (xs.take m).length = m := by rw [List.length_take]; omega
      rw [h3] at h2
      omega
    · exact h2
  rw [hn] at h1
  omega

/-- The bits of a list of limbs (w bits to a limb) that has no nought at its end. -/
theorem blen_list (w : Nat) (b : Int) (hb : b = 2 ^ w) (xs : List Int) (hd : Dig b xs) (hn : norm xs = xs) (m : Nat) (hm : xs.length = m + 1) :
    blen (val b xs).toNat = w * m + blen (xs[m]?.getD 0).toNat := by
  have hbp : 0 < b := by rw [hb]; exact Int.pow_pos (by omega)
  have hsplit := val_split b xs m (by omega)
  have hdrop := val_drop b xs m (by omega)
  rw [List.drop_of_length_le (show xs.length ≤ m + 1 by omega)] at hdrop
  simp only [val, Int.mul_zero, Int.add_zero] at hdrop
  rw [hdrop] at hsplit
  have hlo := val_lt hbp (hd.take m)
  have hlo0 := val_nonneg hbp (hd.take m)
  rw [List.length_take, Nat.min_eq_left (by omega)] at hlo
  have ht := hd.get hbp m
  have ht0 := norm_last (b := b) hn m hm
  generalize xs[m]?.getD 0 = t at *
  generalize val b (xs.take m) = lo at *
  obtain ⟨lo, rfl⟩ := Int.eq_ofNat_of_zero_le hlo0
  obtain ⟨t, rfl⟩ := Int.eq_ofNat_of_zero_le ht.1
  have e : b ^ m = ((2 ^ (w * m) : Nat) : Int) := by
    rw [hb, Int.natCast_pow, ← Int.pow_mul]
    rfl
  rw [e] at hsplit hlo
  rw [hsplit]
  have e2 : ((lo : Int) + ((2 ^ (w * m) : Nat) : Int) * (t : Int)).toNat = lo + 2 ^ (w * m) * t := by
    rw [← Int.natCast_mul, ← Int.natCast_add, Int.toNat_natCast]
  rw [e2, blen_split lo t (w * m) (by omega) (by omega)]
  simp

/-- More digits, a greater number. -/
theorem lt_of_len {b : Int} (hb : 0 < b) {xs zs : List Int} (hx : Dig b xs) (hz : Dig b zs) (hn : norm zs = zs) (h : xs.length < zs.length) : val b xs < val b zs := by
  have h1 := val_lt hb hx
  have h2 := val_ge hb hz hn (by intro e; rw [e] at h; simp at h)
  exact Int.lt_of_lt_of_le (Int.lt_of_lt_of_le h1 (pow_le (by omega) (by omega))) h2

/-- The highest place that differs decides. -/
theorem lt_at {b : Int} (hb : 0 < b) {xs zs : List Int} (hx : Dig b xs) (hz : Dig b zs) (k : Nat) (h1 : k < xs.length) (h2 : k < zs.length) (he : val b (xs.drop (k + 1)) = val b (zs.drop (k + 1))) (h : xs[k]?.getD 0 < zs[k]?.getD 0) :
    val b xs < val b zs := by
  have s1 := val_split b xs k (by omega)
  have s2 := val_split b zs k (by omega)
  rw [val_drop b xs k h1] at s1
  rw [val_drop b zs k h2, ← he] at s2
  have l1 := val_lt hb (hx.take k)
  have l2 := val_nonneg hb (hz.take k)
  rw [List.length_take, Nat.min_eq_left (by omega)] at l1
  rw [s1, s2]
  have hp : 0 < b ^ k := Int.pow_pos hb
  generalize b ^ k = P at *
  generalize xs[k]?.getD 0 = x at *
  generalize zs[k]?.getD 0 = z at *
  generalize val b (xs.take k) = A at *
  generalize val b (zs.take k) = C at *
  generalize b * val b (xs.drop (k + 1)) = R at *
  have : P * (x + R + 1) ≤ P * (z + R) := Int.mul_le_mul_of_nonneg_left (by omega) (Int.le_of_lt hp)
  rw [Int.mul_add P (x + R) 1] at this
  omega
end Go.Proofs.YtmnabilgpndjmaaDoor

/- cruciblelaw01: BeyondNat, TwinNat, SameNat, LeftNat: what the calls answer. -/
namespace Go.Proofs.YtmnabilgpndjmaaDoor
open Go.RowKit

theorem info_limbL : (Tryd.prog.info? 76).map (fun i => (i.zero, i.size, i.bytes)) = some (some (.int .u32 0), 1, 4) := by kernel_rfl

/-- The numbers of places of so many lists, each one more. -/
def parts : List Nat → Nat
  | [] => 0
  | n :: l => n + 1 + parts l

theorem parts_take_succ (l : List Nat) (j : Nat) (h : j < l.length) : parts (l.take (j + 1)) = parts (l.take j) + 1 + l[j]?.getD 0 := by
  induction l generalizing j with
  | nil => simp at h
  | cons x l ih =>
    cases j with
    | zero => simp [parts]; omega
    | succ j =>
      simp only [List.length_cons, Nat.add_lt_add_iff_right] at h
      simp only [List.take_succ_cons, parts, ih j h, List.getElem?_cons_succ]
      omega

/-- BeyondNat: where it says no, the lists have at most 2^20 parts. -/
def Beyond (l : List Nat) (w : World) (e : Ending) (w' : World) : Prop := ∃ r : Bool, e = .returned (.bool r) ∧ w = w' ∧ (r = false → parts l ≤ 1048576)

theorem beyond_calls (b n c : Nat) (l : List Nat) (f : Nat → Option Addr × Nat) (w : World) (hn : l.length = n) (hs : n ≤ 1000) (hb : ∀ j : Nat, l[j]?.getD 0 ≤ 140737488355328)
    (hc : ∀ j, j < n → w.cell? ⟨b, j, none⟩ = some (.slice (f j).1 (l[j]?.getD 0) (f j).2)) :
    Calls Tryd.prog 22 #[.slice (some ⟨b, 0, none⟩) n c] w (Beyond l w) := by
  have HN := Lib.hid hn
  have HB := Lib.hid hb
  have HC := Lib.hid hc
  clear hn hb hc
  go_enter Tryd.func22, Tryd.ntmps22
  go_wp2
  go_loop [3, 4] (fun s i => ∃ k q : Nat, k ≤ n ∧ i = .int .i64 k ∧ s = .int .i64 q ∧ q ≤ 1048576 ∧ Hid (q = parts (l.take k))) (fun _ i => n - (intOf i).toNat)
  case atStart => exact ⟨0, 0, Nat.zero_le _, rfl, rfl, by omega, rfl⟩
  case round =>
    obtain ⟨k, q, hk, rfl, rfl, hq, hs2⟩ := hrel
    by_cases hkn : k < n
    · have hcell := HC.out k hkn
      have hbk := HB.out k
      have HS := Lib.hid (parts_take_succ l k (by rw [HN.out]; exact hkn))
      generalize l[k]?.getD 0 = x at *
      go_wp2
      · go_ret
        exact ⟨true, rfl, rfl, fun h => by cases h⟩
      · go_round
        case rel =>
          refine ⟨k + 1, q + 1 + x, by omega, by go_num, by go_num, by omega, ?_⟩
          show q + 1 + x = parts (l.take (k + 1))
          rw [HS.out, ← hs2.out]
        case measure => simp [intOf]; omega
    · obtain rfl : k = n := by omega
      have HE := Lib.hid (show parts l ≤ 1048576 by have := hs2.out; rw [← HN.out, List.take_length] at this; omega)
      go_wp2
      go_ret
      exact ⟨false, rfl, rfl, fun _ => HE.out⟩

/-- TwinNat: a copy, a mark behind it. -/
def Twin (xs : List Int) (w : World) (e : Ending) (w' : World) : Prop :=
  e = .returned (.slice (some ⟨w.heap.size, 0, none⟩) xs.length (xs.length + 1)) ∧ Blk w' w.heap.size 76 .u32 (xs ++ [2148261425]) ∧ Below w.heap.size w w'

def TwinR (w : World) (xs : List Int) (k : Nat) (wr : World) : Prop :=
  Blk wr w.heap.size 76 .u32 (xs.take k ++ List.replicate (xs.length + 1 - k) 0) ∧ Below w.heap.size w wr

theorem twin_set (xs : List Int) (k : Nat) (hk : k < xs.length) : (xs.take k ++ List.replicate (xs.length + 1 - k) 0).set k (xs[k]?.getD 0) = xs.take (k + 1) ++ List.replicate (xs.length + 1 - (k + 1)) 0 := by
  rw [List.set_append_right _ _ (by rw [List.length_take]; omega), List.length_take, Nat.min_eq_left (by omega), Nat.sub_self, show xs.length + 1 - k = (xs.length + 1 - (k + 1)) + 1 by omega, List.replicate_succ, List.set_cons_zero,
    List.take_add_one, List.getElem?_eq_getElem hk, List.append_assoc]
  rfl

theorem twin_last (xs : List Int) (m : Int) : (xs.take xs.length ++ List.replicate (xs.length + 1 - xs.length) 0).set xs.length m = xs ++ [m] := by
  rw [List.take_length, List.set_append_right _ _ (Nat.le_refl _), Nat.sub_self, show xs.length + 1 - xs.length = 0 + 1 by omega, List.replicate_succ, List.set_cons_zero]
  rfl

theorem twin_calls (ad : Option Addr) (n c : Nat) (xs : List Int) (w : World) (hn : n ≤ 70368744177663) (hr : Rds w .u32 ad n xs) :
    Calls Tryd.prog 23 #[.slice ad n c] w (Twin xs w) := by
  have HL := Lib.hid hr.len
  have hmk := make_rule (P := Tryd.prog) 33 76 .u32 4 Tryd.underlying33 info_limbL (by omega) (n + 1) (by omega) ((n : Int) + 1) (by omega)
  go_enter Tryd.func23, Tryd.ntmps23
  go_wp2
  clear hmk
  have hr0 : TwinR w xs 0 (w.alloc (.cells (nums .u32 (List.replicate (n + 1) 0)).toArray 76)) :=
    ⟨by rw [HL.out]; exact Blk.made _ _ _ _ _ rfl, (Below.refl _ _).alloc (Nat.le_refl _) _⟩
  go_loopw [4] (fun i wr => ∃ k : Nat, k ≤ n ∧ i = .int .i64 k ∧ TwinR w xs k wr) (fun i _ => n - (intOf i).toNat)
  case atStart => exact ⟨0, Nat.zero_le _, rfl, hr0⟩
  case round =>
    clear hr0
    obtain ⟨k, hk, rfl, h1, h2⟩ := hrel
    by_cases hkn : k < n
    · obtain ⟨a, rfl, hxl⟩ := (hr.below h2 (Nat.le_refl _)).cell k hkn
      have hy := h1.cell k (by rw [List.length_append, List.length_take, List.length_replicate, HL.out]; omega)
      have hf := h1.free k
      have HT := Lib.hid (twin_set xs k (by rw [HL.out]; exact hkn))
      have h3 := h1.set k (xs[k]?.getD 0)
      rw [HT.out] at h3
      clear h1
      go_wp2
      go_roundw
      case rel => exact ⟨k + 1, by omega, by go_num, h3, below_set h2 _ _ _ (Nat.le_refl _)⟩
      case measure => simp [intOf]; omega
    · obtain rfl : k = n := by omega
      have hy := h1.cell k (by rw [List.length_append, List.length_take, List.length_replicate, HL.out]; omega)
      have hf := h1.free k
      have h3 := h1.set k 2148261425
      have HT := twin_last xs 2148261425
      rw [HL.out] at HT
      rw [HL.out, HT] at h3
      clear h1 HT
      go_wp2
      go_ret
      refine ⟨by rw [HL.out]; rfl, h3, below_set h2 _ _ _ (Nat.le_refl _)⟩

/-- SameNat: element by element. -/
def Same (r : Bool) (w : World) (e : Ending) (w' : World) : Prop := e = .returned (.bool r) ∧ ∃ q, w' = w.drewN q

theorem eq_of_getD (xs zs : List Int) (h : xs.length = zs.length) (hk : ∀ j, j < xs.length → xs[j]?.getD 0 = zs[j]?.getD 0) : xs = zs := by
  apply List.ext_getElem h
  intro i h1 h2
  have := hk i h1
  rw [List.getElem?_eq_getElem h1, List.getElem?_eq_getElem h2] at this
  exact this

theorem same_calls (ad bd : Option Addr) (n m c d : Nat) (xs zs : List Int) (w : World) (hn : n ≤ 9223372036854775807) (hm : m ≤ 9223372036854775807) (ha : Rds w .u32 ad n xs) (hb : Rds w .u32 bd m zs) :
    Calls Tryd.prog 76 #[.slice ad n c, .slice bd m d] w (Same (decide (xs = zs)) w) := by
  have HL := Lib.hid ha.len
  have HM := Lib.hid hb.len
  by_cases hnm : n = m
  · subst hnm
    go_enter Tryd.func76, Tryd.ntmps76
    go_wp2
    go_loopw [5] (fun i wr => ∃ k : Nat, k ≤ n ∧ i = .int .i64 k ∧ Hid (∃ q, wr = w.drewN q) ∧ Hid (∀ j, j < k → xs[j]?.getD 0 = zs[j]?.getD 0)) (fun i _ => n - (intOf i).toNat)
    case atStart => exact ⟨0, Nat.zero_le _, rfl, ⟨0, rfl⟩, fun j hj => by omega⟩
    case round =>
      obtain ⟨k, hk, rfl, hq, hz⟩ := hrel
      obtain ⟨q, rfl⟩ := hq.out
      clear hq
      by_cases hkn : k < n
      · obtain ⟨a, rfl, hxl⟩ := ha.cell k hkn
        obtain ⟨b, rfl, hzl⟩ := hb.cell k hkn
        clear ha hb
        generalize hgx : xs[k]?.getD 0 = x at *
        have HX := Lib.hid hgx
        clear hgx
        generalize hgz : zs[k]?.getD 0 = z at *
        have HZ := Lib.hid hgz
        clear hgz
        have hk0 : (0 : Int) ≤ (k : Int) := by omega
        by_cases hxz : x = z
        · subst hxz
          have ht : (x != x) = false := by simp
          go_wp2_with fail
          go_quiet (fail)
          go_wp2
          go_roundw
          case rel =>
            refine ⟨k + 1, by omega, by go_num, ⟨_, rfl⟩, fun j hj => ?_⟩
            by_cases e : j = k
            · subst e; rw [HX.out, HZ.out]
            · exact hz.out j (by omega)
          case measure => simp [intOf]; omega
        · have ht : (x != z) = true := by simp [hxz]
          have HF : Hid (decide (xs = zs) = false) := by
            refine decide_eq_false fun e => hxz ?_
            rw [← HX.out, ← HZ.out, e]
          clear hxz
          go_wp2_with fail
          go_quiet (fail)
          go_wp2
          go_ret
          rw [HF.out]
          exact ⟨rfl, _, World.drewN_drewN ..⟩
      · obtain rfl : k = n := by omega
        have HT : Hid (decide (xs = zs) = true) := decide_eq_true (eq_of_getD xs zs (by rw [HL.out, HM.out]) (fun j hj => hz.out j (by rw [HL.out] at hj; exact hj)))
        go_wp2
        go_ret
        rw [HT.out]
        exact ⟨rfl, _, rfl⟩
  · have HF : Hid (decide (xs = zs) = false) := by
      refine decide_eq_false fun e => hnm ?_
      rw [← HL.out, ← HM.out, e]
    have ht : ((n : Int) != (m : Int)) = true := by simp; omega
    clear hnm
    go_enter Tryd.func76, Tryd.ntmps76
    go_wp2
    go_ret
    rw [HF.out]
    exact ⟨rfl, 0, rfl⟩

theorem same_true (ad bd : Option Addr) (n m c d : Nat) (xs zs : List Int) (w : World) (B B' : Nat) (t t' : TypeId) (ha : Own B w t .u32 ad n c xs) (hb : Own B' w t' .u32 bd m d zs) (h : xs = zs) :
    Calls Tryd.prog 76 #[.slice ad n c, .slice bd m d] w (Same true w) := by
  have := same_calls ad bd n m c d xs zs w (by have := ha.le; have := ha.big; omega) (by have := hb.le; have := hb.big; omega) ha.rds hb.rds
  rwa [decide_eq_true h] at this

theorem twin_rds {w : World} {b n : Nat} {xs : List Int} (ht : Blk w b 76 .u32 (xs ++ [2148261425])) (hl : xs.length = n) : Rds w .u32 (some ⟨b, 0, none⟩) n xs := by
  have := ht.rds.take n (by rw [List.length_append, hl]; simp)
  rwa [List.take_append_of_le_length (by rw [hl]; exact Nat.le_refl _), ← hl, List.take_length, hl] at this

/-- LeftNat of a copy and what it was made of. -/
theorem left_calls (b : Nat) (ld : Option Addr) (n c : Nat) (xs : List Int) (w : World) (hn : n ≤ 1000000000000) (ht : Blk w b 76 .u32 (xs ++ [2148261425])) (hl : Rds w .u32 ld n xs) :
    Calls Tryd.prog 26 #[.slice (some ⟨b, 0, none⟩) n (n + 1), .slice ld n c] w (Same true w) := by
  have HL := Lib.hid hl.len
  have rt : Rds w .u32 (some ⟨b, 0, none⟩) n xs := by
    have := ht.rds.take n (by rw [List.length_append, HL.out]; simp)
    rwa [List.take_append_of_le_length (by rw [HL.out]; exact Nat.le_refl _), ← HL.out, List.take_length, HL.out] at this
  have hs := same_calls (some ⟨b, 0, none⟩) ld n n (n + 1) c xs xs w (by omega) (by omega) rt hl
  have hm := ht.cell n (by rw [List.length_append, HL.out]; simp)
  rw [show ((xs ++ [2148261425])[n]?).getD 0 = 2148261425 by rw [List.getElem?_append_right (by rw [HL.out]; exact Nat.le_refl _), HL.out]; simp] at hm
  rw [decide_eq_true rfl] at hs
  clear hl rt
  go_enter Tryd.func26, Tryd.ntmps26
  go_wp2_with fail
  refine hs.mono ?_
  rintro e w' ⟨rfl, q, rfl⟩
  go_wp2
  go_ret
  exact ⟨rfl, _, rfl⟩
end Go.Proofs.YtmnabilgpndjmaaDoor
