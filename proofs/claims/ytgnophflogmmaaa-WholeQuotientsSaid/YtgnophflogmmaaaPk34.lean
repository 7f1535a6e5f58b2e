/- Contracts of functions, and plain facts, part 34. -/
import Derived.Lib.AppendZerosOnto
import Derived.Laws.AppendOwnNone
import Derived.Maps.AppendAt
import Derived.Test.YtgnophflogmmaaaRows
import Derived.Test.YtgnophflogmmaaaPk1
import Derived.Test.YtgnophflogmmaaaPk2
set_option linter.unusedVariables false
set_option linter.unusedSimpArgs false
/- append(v, xs...) of a whole list; append(v, make([]T, m)...). -/
namespace Go.Proofs.Ytgnophflogmmaaa
open Go.RowKit

theorem zero_cells (k : IntKind) (m : Nat) : Builtin.zeroCells (Value.int k 0).cells m = (nums k (List.replicate m 0)).toArray := by
  apply Array.ext
  · simp [Builtin.zeroCells, nums, Value.cells]
  · intro i h1 h2
    simp [Builtin.zeroCells, nums, Value.cells, Nat.mod_one]

theorem run_app_zeros {P : Program} (w : World) (B : Nat) (t tn ty e : TypeId) (i : TypeInfo) (k kq kn : IntKind) (bytes : Nat) (ht : P.underlying t = some (.slice e)) (htn : P.underlying tn = some (.int kn)) (hi : P.info? e = some i) (hz : i.zero = some (.int k 0))
    (hsize : i.size = 1) (hby : i.bytes = bytes) (hb0 : 0 < bytes) (ad : Option Addr) (n c : Nat) (xs : List Int) (hown : App B w e k ad n c xs) (m : Nat) (hB : B ≤ w.heap.size) (hl : (n + m) * bytes ≤ 140737488355328) :
    ∃ ad1 c1 w1, (Builtin.append_ #[t, tn] ty #[.slice ad n c, .int kq m]).run P w = .ok (.slice ad1 (n + m) c1) w1 ∧ App B w1 e k ad1 (n + m) c1 (xs ++ List.replicate m 0) ∧ w.grownBy w1 (Value.ownBlock (.slice ad n c)) := by
  subst hby
  have hlen := hown.len
  have hnm : n + m ≤ 140737488355328 := Nat.le_trans (Nat.le_mul_of_pos_right _ hb0) hl
  have hmb : m * i.bytes ≤ 140737488355328 := Nat.le_trans (Nat.mul_le_mul_right _ (by omega)) hl
  have hcmax : n + m ≤ maxLen := by simp only [maxLen]; omega
  have hnl : (nums k (xs ++ List.replicate m 0)).length = (n + m) * 1 := by simp [nums, hlen]
  have hap : nums k (xs ++ List.replicate m 0) = nums k xs ++ nums k (List.replicate m 0) := by simp [nums]
  have grown : ∀ (old : Nat) (row : Option Nat),
      App B (w.drew.alloc (.cells ((nums k xs).toArray ++ Builtin.zeroCells (Value.int k 0).cells m ++ Builtin.zeroCells (Value.int k 0).cells (grownCap w (n + m) old e - (n + m))) e)) e k (some ⟨w.heap.size, 0, none⟩) (n + m) (grownCap w (n + m) old e) (xs ++ List.replicate m 0) ∧
      w.grownBy (w.drew.alloc (.cells ((nums k xs).toArray ++ Builtin.zeroCells (Value.int k 0).cells m ++ Builtin.zeroCells (Value.int k 0).cells (grownCap w (n + m) old e - (n + m))) e)) row := by
    intro old row
    have hge := grownCap_ge w (n + m) old e
    have hcm := grownCap_le_maxLen w (n + m) old e hcmax
    refine ⟨⟨hnl, .inr ⟨w.heap.size, _, _, rfl, hB, heap_alloc_new w.drew _, hge, hcm, ?_, ?_⟩⟩, ⟨rfl, rfl, rfl, by simp, fun j hj _ => Go.heap_alloc_old w.drew _ hj⟩⟩
    · rw [zero_cells, zero_cells]
      simp [nums, hlen]
      omega
    · rw [zero_cells, zero_cells, hap]
      simp only [Array.toList_append, Nat.mul_one]
      rw [List.take_append_of_le_length (by simp [nums, hlen]), List.take_of_length_le (by simp [nums, hlen])]
  rcases hown.2 with ⟨h1, h2⟩ | ⟨g, cap, cur, h1, hbg, hg, hnc, hcm, hcs, htake⟩
  · injection h1 with h1 h1' h1''
    subst h1 h1' h1''
    have hx : xs = [] := List.eq_nil_of_length_eq_zero hlen
    subst hx
    by_cases hm : m = 0
    · subst hm
      refine ⟨none, 0, w, ?_, App.nil _ _ _ _, ⟨rfl, rfl, rfl, Nat.le_refl _, fun _ _ _ => rfl⟩⟩
      have hw : IntKind.i64.wrap 0 = 0 := by decide
      simp [Builtin.append_, run_underlying ht, run_underlying htn, sizeOf, typeInfo, hi, asInt, asIntOf, hw]
    · have hr := Go.Lib.run_append_nil_zeros (P := P) w t tn ty e i (.int k 0) kq kn ht htn hi hz m (by omega) (by omega) (by omega) (by omega)
      have hgr := grown 0 (Value.ownBlock (.slice none 0 0))
      simp only [Nat.zero_add, List.nil_append, nums, List.map_nil, Array.empty_append] at hgr hr ⊢
      exact ⟨_, _, _, hr, hgr.1, hgr.2⟩
  · injection h1 with h1 h1' h1''
    subst h1 h1''
    by_cases hroom : n + m ≤ c
    · have hfit : n * 1 + (nums k (List.replicate m 0)).length ≤ cur.size := by simp [nums]; omega
      have hst := run_storeCells_at P g n e (nums k (List.replicate m 0)) 0 cur w hg (by simpa using hfit) (by intro u hu; simp [nums] at hu; obtain ⟨-, rfl⟩ := hu; rfl)
      simp only [Nat.add_zero] at hst
      have hw : IntKind.i64.wrap (m : Int) = m := by rw [IntKind.wrap_i64]; omega
      have hneg : ¬ ((m : Int) < 0) := by omega
      have h48i : ¬ (281474976710656 < (m : Int) * (i.bytes : Int)) := by
        rw [← Int.natCast_mul]
        omega
      have hr : (Builtin.append_ #[t, tn] ty #[.slice (some ⟨g, 0, none⟩) n c, .int kq m]).run P w = .ok (.slice (some ⟨g, 0, none⟩) (n + m) c) (w.setRow g (cur.toList.take n ++ nums k (List.replicate m 0) ++ cur.toList.drop (n + (nums k (List.replicate m 0)).length)).toArray) := by
        by_cases hm : m = 0
        · subst hm
          have hw : IntKind.i64.wrap 0 = 0 := by decide
          simp [nums] at hst
          simp [Builtin.append_, run_underlying ht, run_underlying htn, sizeOf, typeInfo, zeroValue, hi, hz, hsize, asInt, asIntOf, hw, hnc, Addr.add_lit, hst, nums]
        · simp [Builtin.append_, run_underlying ht, run_underlying htn, sizeOf, typeInfo, zeroValue, hi, hz, hsize, asInt, asIntOf, hw, hneg, h48i, hm, hroom, Addr.add_lit, zero_cells, hst]
      refine ⟨_, _, _, hr, ⟨hnl, .inr ⟨g, c, _, rfl, hbg, setRow_heap w g cur _ e _ hg, hroom, hcm, ?_, ?_⟩⟩, ⟨rfl, rfl, rfl, by simp, fun k hk => ?_⟩⟩
      · simp [nums]
        omega
      · rw [Nat.mul_one] at htake
        rw [Nat.mul_one, htake, hap]
        show List.take _ (_ ++ _ ++ _) = _
        rw [List.take_append_of_le_length (by simp [nums, hlen]), List.take_of_length_le (by simp [nums, hlen])]
      · exact fun hk => setRow_other w g _ _ (fun e => hk (by simp [Value.ownBlock, e]))
    · have holds : ∀ j u, (nums k xs)[j]? = some u → w.cell? ((⟨g, 0, none⟩ : Addr).add j) = some u := World.ownsRow.cells (g := g) hown rfl
      have hold := run_firstCells_some (P := P) w.drew i.size n ⟨g, 0, none⟩ n c (nums k xs) (by simp [nums, hlen, hsize]) (fun j u h => holds j u h)
      have hr := Go.Lib.run_append_grow_zeros (P := P) w t tn ty e i (.int k 0) kq kn ht htn hi hz (some ⟨g, 0, none⟩) n c (nums k xs) hold m (by omega) (by omega) (by omega) (by omega) (by omega) (growslice_fits (by omega) hl)
      have hgr := grown c (Value.ownBlock (.slice (some ⟨g, 0, none⟩) n c))
      exact ⟨_, _, _, hr, hgr.1, hgr.2⟩

section
variable {P : Program} {ops : Array Oper} {rest : List Oper} {o : Oper} {a : Act} {Q : Exit → Act → World → Prop}
theorem app_zeros {w0 W : World} (B : Nat) (hgd : o.guard = none) (s x : Operand) (t tn e : TypeId) (k kq kn : IntKind) (bytes : Nat)
    (ho : o.op = .call { callee := .builtin .append, args := #[s, x], argTypes := #[t, tn] })
    (ht : P.underlying t = some (.slice e)) (htn : P.underlying tn = some (.int kn)) (hinfo : (P.info? e).map (fun i => (i.zero, i.size, i.bytes)) = some (some (.int k 0), 1, bytes)) (hb0 : 0 < bytes)
    (ad : Option Addr) (n c : Nat) (xs : List Int) (m : Nat) (hs : a.eval s = .slice ad n c) (M : Int) (hM : M = m) (hx : a.eval x = .int kq M)
    (HO : App B W e k ad n c xs) (HB : Below B w0 W) (hB : B ≤ W.heap.size) (hl : (n + m) * bytes ≤ 140737488355328)
    (h : ∀ ad1 c1 w1, App B w1 e k ad1 (n + m) c1 (xs ++ List.replicate m 0) → Below B w0 w1 → B ≤ w1.heap.size → wpList P ops Q rest (a.put o.dst (.slice ad1 (n + m) c1)) w1) :
    wpList P ops Q (o :: rest) a W := by
  subst hM
  obtain ⟨i0, hi, hzz⟩ := Option.map_eq_some_iff.1 hinfo
  simp only [Prod.mk.injEq] at hzz
  obtain ⟨hz0, hz1, hz2⟩ := hzz
  obtain ⟨ad1, c1, w1, hr, h1, h2⟩ := run_app_zeros (P := P) W B t tn o.type e i0 k kq kn bytes ht htn hi hz0 hz1 hz2 hb0 ad n c xs HO m hB hl
  have hbel : Below B w0 w1 := HB.grown h2 hB (fun r hr => (World.ownsRow.lt HO r hr).1)
  exact Go.Lib.wpList_append_run W hgd s x t tn ho _ _ hs hx _ _ hr (h ad1 c1 w1 h1 hbel (Nat.le_trans hB h2.size))

/-- append(v, xs...). -/
theorem app_list {w0 W : World} (B : Nat) (hgd : o.guard = none) (s x : Operand) (t e : TypeId) (k : IntKind) (bytes : Nat)
    (ho : o.op = .call { callee := .builtin .append, args := #[s, x], argTypes := #[t, t] })
    (ht : P.underlying t = some (.slice e)) (hinfo : (P.info? e).map (fun i => (i.zero, i.size, i.bytes)) = some (some (.int k 0), 1, bytes)) (hb0 : 0 < bytes)
    (ad : Option Addr) (n c : Nat) (xs : List Int) (bd : Option Addr) (m d : Nat) (zs : List Int) (hs : a.eval s = .slice ad n c) (hx : a.eval x = .slice bd m d) (hbd : bd = none → d = 0) (hmd : m ≤ d)
    (HO : App B W e k ad n c xs) (HR : Rds W k bd m zs) (HB : Below B w0 W) (hB : B ≤ W.heap.size) (hl : (n + m) * bytes ≤ 140737488355328)
    (h : ∀ ad1 c1 w1, App B w1 e k ad1 (n + m) c1 (xs ++ zs) → Below B w0 w1 → B ≤ w1.heap.size → wpList P ops Q rest (a.put o.dst (.slice ad1 (n + m) c1)) w1) :
    wpList P ops Q (o :: rest) a W := by
  obtain ⟨i0, hi, hzz⟩ := Option.map_eq_some_iff.1 hinfo
  simp only [Prod.mk.injEq] at hzz
  obtain ⟨hz0, hz1, hz2⟩ := hzz
  have hnm : n + m ≤ 140737488355328 := Nat.le_trans (Nat.le_mul_of_pos_right _ hb0) hl
  rcases bd with _ | b
  · obtain rfl := hbd rfl
    obtain rfl : m = 0 := by omega
    have hz : zs = [] := List.eq_nil_of_length_eq_zero HR.len
    subst hz
    refine wpList_append_own_none hgd s x t ho B e i0 1 ht hi (.slice ad n c) n (nums k xs) hs HO hx ?_
    have := h ad c W (by simpa using HO) HB hB
    simpa using this
  · refine wpList_append_own_at W hgd s x t ho B e i0 (.int k 0) 1 bytes ht hi hz0 hz1 hz2 rfl (by omega) (.slice ad n c) n (nums k xs) hs HO b m d (nums k zs) hx (by simp [nums, HR.len]) ?_ ?_ (by simp only [maxLen]; omega) hl hB ?_
    · intro j u hj
      have hjm : j < m := by
        have := (List.getElem?_eq_some_iff.1 hj).1
        simp [nums, HR.len] at this
        exact this
      obtain ⟨b', hb', hc⟩ := HR.cell j hjm
      injection hb' with hb'
      subst hb'
      rw [nums_get k zs j (by rw [HR.len]; exact hjm)] at hj
      rw [hc, ← hj]
    · intro u hu
      simp only [nums, List.mem_map] at hu
      obtain ⟨v, -, rfl⟩ := hu
      rfl
    · intro v1 w1 hown hg _ hat
      have hbel : Below B w0 w1 := HB.grown hg hB (fun r hr => (World.ownsRow.lt HO r hr).1)
      have hsz : B ≤ w1.heap.size := Nat.le_trans hB hg.size
      rcases hown.2 with ⟨h1, h2⟩ | ⟨g, cap, cur, h1, _⟩
      · subst h1
        have := h none 0 w1
        rw [show n + m = 0 from h2] at this hown
        exact this (by simpa [App, nums] using hown) hbel hsz
      · subst h1
        exact h _ _ w1 (by simpa [App, nums] using hown) hbel hsz
end
end Go.Proofs.Ytgnophflogmmaaa

/- What the bound of a narrowed statement gives: no list is longer than it. -/
namespace Go.Proofs.Ytgnophflogmmaaa
open Go.ChangeShapes Go.WideShapes Go.RowKit

theorem bulk_pos {H : Type} (d : DataW H) : 1 ≤ Rows.uptoBulk d := by
  cases d with
  | lit l => cases l <;> simp [Rows.uptoBulk]
  | nil => simp [Rows.uptoBulk]
  | ptr d => simp [Rows.uptoBulk]
  | slice elems spare => simp [Rows.uptoBulk]
  | agg parts => simp [Rows.uptoBulk]
  | iface t d => simp [Rows.uptoBulk]
  | map entries => simp [Rows.uptoBulk]
  | held h => simp [Rows.uptoBulk]
theorem bulk_len {H : Type} : ∀ (l : List (DataW H)), l.length ≤ Rows.uptoBulkAll l
  | [] => by simp [Rows.uptoBulkAll]
  | x :: r => by
    have h1 := bulk_pos x
    have h2 := bulk_len r
    simp only [Rows.uptoBulkAll, List.length_cons]
    omega
theorem bulk_slice {H : Type} (elems spare : List (DataW H)) : elems.length ≤ Rows.uptoBulk (.slice elems spare) := by
  have h1 := bulk_len elems
  simp only [Rows.uptoBulk]
  omega
theorem bulk_all {H : Type} {l : List (DataW H)} (hk : Rows.uptoSmall H l = true) : Rows.uptoBulkAll l ≤ 1048576 := of_decide_eq_true hk
theorem bulk_mem {H : Type} {d : DataW H} {l : List (DataW H)} (h : d ∈ l) : Rows.uptoBulk d ≤ Rows.uptoBulkAll l := by
  induction l with
  | nil => cases h
  | cons x r ih =>
    simp only [Rows.uptoBulkAll]
    rcases List.mem_cons.1 h with rfl | e
    · omega
    · have := ih e
      omega
end Go.Proofs.Ytgnophflogmmaaa
