/- Contracts of functions, and plain facts, part 16. -/
import Derived.Lib.BufferWrite
import Derived.Laws.CopyOwn
import Derived.Test.YtgnophflogmmaaaPk7
import Derived.Test.YtgnophflogmmaaaPk10
import Derived.Test.YtgnophflogmmaaaPk13
set_option linter.unusedVariables false
set_option linter.unusedSimpArgs false
/- whole: Twos. (Printed by whole.py.) -/
namespace Go.Proofs.Ytgnophflogmmaaa
open Go.RowKit

section
variable {P : Program} {ops : Array Oper} {rest : List Oper} {o : Oper} {a : Act} {Q : Exit → Act → World → Prop}
theorem run_oper_copy {w w' : World} {v u v' : Value} (hgd : o.guard = none) (d s : Operand) (dT sT : TypeId) (ho : o.op = .call { callee := .builtin .copy, args := #[d, s], argTypes := #[dT, sT] }) (hd : a.eval d = v) (hs : a.eval s = u)
    (hr : (Builtin.copy_ #[dT, sT] o.type #[v, u]).run P w = .ok v' w') (h : wpList P ops Q rest (a.put o.dst v') w') : wpList P ops Q (o :: rest) a w :=
  wpList_plain hgd fun _ hK => by
    unfold Oper.wp
    simp [execOp, ho, resolve, invoke, builtin, hd, hs, hr, Result.andThen]
    exact hK _ _ h
theorem stop_at {w : World} (h : Hid (wpList P ops Q (o :: rest) a w)) : wpList P ops Q (o :: rest) a w := h.out
/-- A text is copied into a block of the call's own. -/
theorem copy_str {w w0 : World} (B : Nat) (hgd : o.guard = none) (d s : Operand) (dT sT : TypeId) (ho : o.op = .call { callee := .builtin .copy, args := #[d, s], argTypes := #[dT, sT] })
    (e : TypeId) (hu : P.underlying dT = some (.slice e)) (hsz : (P.info? e).map (·.size) = some 1) (dp : Option Addr) (dLen dCap : Nat) (t : ByteArray) (hd : a.eval d = .slice dp dLen dCap) (hs : a.eval s = .string t)
    (g off : Nat) (cur ys : List Int) (hg : Blk w g e .u8 cur) (ht : t = strB ys) (dy : Dig 256 ys) (hl : ys.length ≤ dLen) (hpos : 0 < ys.length → dp = some ⟨g, off, none⟩) (hfit : off + ys.length ≤ cur.length) (hb : Below B w0 w) (hBg : B ≤ g) (Y : List Int) (hY : cur.take off ++ (ys ++ cur.drop (off + ys.length)) = Y)
    (h : ∀ w', Blk w' g e .u8 Y → Below B w0 w' → wpList P ops Q rest (a.put o.dst (goInt ys.length)) w') :
    wpList P ops Q (o :: rest) a w := by
  subst hY
  have hts : t.size = ys.length := by rw [ht, strB_size]
  by_cases h0 : ys.length = 0
  · refine run_oper_copy hgd d s dT sT ho hd hs (Lib.run_copy_empty_string w dT sT o.type e dp dLen dCap t hu (by rw [hsz]; rfl) (by omega)) ?_
    have := h w (by rw [List.length_eq_zero_iff.1 h0]; simpa using hg) hb
    rw [h0] at this
    exact this
  · obtain rfl := hpos (by omega)
    have hr := Lib.run_copy_row_string (P := P) w dT sT o.type e g off dLen dCap t (nums .u8 cur).toArray e hu hsz hg (by omega) (by rw [List.size_toArray, nums_length]; omega)
    refine run_oper_copy hgd d s dT sT ho hd hs hr ?_
    rw [hts]
    refine h _ ?_ (below_setRow hb hBg _)
    have hbc : Lib.byteCells t.data.toList = nums .u8 ys := by
      rw [ht]
      simp only [Lib.byteCells, strB, nums, List.map_map]
      refine List.map_congr_left fun x hx => ?_
      have := dy x hx
      show Value.int .u8 ((UInt8.ofNat x.toNat).toNat : Int) = _
      rw [u8_back x this]
    unfold Blk
    rw [setRow_heap w g _ _ e _ hg]
    congr 2
    rw [hbc]
    simp [nums, List.map_take, List.map_drop]
end

theorem size_byte : (Try.prog.info? 5).map (·.size) = some 1 := by kernel_rfl

/-- A text and whether it is one. -/
def RetSB (s : ByteArray) (ok : Bool) (w : World) (e : Ending) (w' : World) : Prop := e = .returned (.tuple #[.string s, .bool ok]) ∧ Below w.heap.size w w'

set_option maxHeartbeats 2000000 in
set_option maxRecDepth 20000 in
theorem wtwos_small (ng1 : Bool) (ad1 : Option Addr) (n1 c1 : Nat) (V1 : Int) (k : Int) (w : World) (h1 : Num w ad1 n1 c1 V1) (hn1 : n1 ≤ 35184372088831) (hk : k < 1) :
    Calls Try.prog 25 #[.agg #[.bool ng1, .slice ad1 n1 c1], .int .i64 k] w (RetSB ByteArray.empty false w) := by
  have hV0 := h1.nonneg
  have T1 := Lib.hid h1.lt
  have b0 := Below.refl w.heap.size w
  have l0 : Below w.heap.size w (w.alloc (.cells #[.bool ng1, .slice ad1 n1 c1] 25)) := (Below.refl _ _).alloc (Nat.le_refl _) _
  have b1 : Below w.heap.size w (w.alloc (.cells #[.bool ng1, .slice ad1 n1 c1] 25)) := below_trans b0 l0
  have k0 : Cel (w.alloc (.cells #[.bool ng1, .slice ad1 n1 c1] 25)) w.heap.size 25 [.bool ng1, .slice ad1 n1 c1] := Cel.made _ _ _ _ (by simp)
  replace h1 := h1.below b1 (Nat.le_refl _)
  clear b0 l0
  have hg0 : w.heap.size ≤ w.heap.size := Nat.le_refl _
  have hS := wsigned_calls ng1 ad1 n1 c1 V1 (w.alloc (.cells #[.bool ng1, .slice ad1 n1 c1] 25)) h1 (by omega)
  have hA1 := (sI_abs ng1 V1 hV0).symm
  generalize sI ng1 V1 = N at *
  clear h1
  go_enter Try.func25, Try.ntmps25
  have h := Lib.hid (hS)
  have e0a := k0.cell 0 _ rfl
  have e0b := k0.cell 1 _ rfl
  go_wp2_with fail
  with_reducible refine (h.out).mono ?_
  rintro e v1 ⟨xd, xn, xc, rfl, f1, b⟩
  clear h
  clear e0a e0b
  replace k0 := k0.next b
  have bb := below_trans b1 b
  clear b b1
  have b1 := bb
  clear bb
  clear hS
  have hxn : xn ≤ n1 := f1.len_le n1 T1.out
  go_wp2_with fail
  go_ret2
  exact ⟨rfl, b1⟩

set_option maxHeartbeats 2000000 in
set_option maxRecDepth 20000 in
theorem wtwos_great (ng1 : Bool) (ad1 : Option Addr) (n1 c1 : Nat) (V1 : Int) (k : Int) (w : World) (h1 : Num w ad1 n1 c1 V1) (hn1 : n1 ≤ 35184372088831) (hk : 1048576 < k) :
    Calls Try.prog 25 #[.agg #[.bool ng1, .slice ad1 n1 c1], .int .i64 k] w (RetSB ByteArray.empty false w) := by
  have hV0 := h1.nonneg
  have T1 := Lib.hid h1.lt
  have b0 := Below.refl w.heap.size w
  have l0 : Below w.heap.size w (w.alloc (.cells #[.bool ng1, .slice ad1 n1 c1] 25)) := (Below.refl _ _).alloc (Nat.le_refl _) _
  have b1 : Below w.heap.size w (w.alloc (.cells #[.bool ng1, .slice ad1 n1 c1] 25)) := below_trans b0 l0
  have k0 : Cel (w.alloc (.cells #[.bool ng1, .slice ad1 n1 c1] 25)) w.heap.size 25 [.bool ng1, .slice ad1 n1 c1] := Cel.made _ _ _ _ (by simp)
  replace h1 := h1.below b1 (Nat.le_refl _)
  clear b0 l0
  have hg0 : w.heap.size ≤ w.heap.size := Nat.le_refl _
  have hS := wsigned_calls ng1 ad1 n1 c1 V1 (w.alloc (.cells #[.bool ng1, .slice ad1 n1 c1] 25)) h1 (by omega)
  have hA1 := (sI_abs ng1 V1 hV0).symm
  generalize sI ng1 V1 = N at *
  clear h1
  go_enter Try.func25, Try.ntmps25
  have h := Lib.hid (hS)
  have e0a := k0.cell 0 _ rfl
  have e0b := k0.cell 1 _ rfl
  go_wp2_with fail
  with_reducible refine (h.out).mono ?_
  rintro e v1 ⟨xd, xn, xc, rfl, f1, b⟩
  clear h
  clear e0a e0b
  replace k0 := k0.next b
  have bb := below_trans b1 b
  clear b b1
  have b1 := bb
  clear bb
  clear hS
  have hxn : xn ≤ n1 := f1.len_le n1 T1.out
  go_wp2_with fail
  go_ret2
  exact ⟨rfl, b1⟩

set_option maxHeartbeats 2000000 in
set_option maxRecDepth 20000 in
theorem wtwos_long (ng1 : Bool) (ad1 : Option Addr) (n1 c1 : Nat) (V1 : Int) (k : Int) (w : World) (h1 : Num w ad1 n1 c1 V1) (hn1 : n1 ≤ 35184372088831) (hk : 1 ≤ k ∧ k ≤ 1048576) (hv : ¬ V1 < 256 ^ k.toNat) :
    Calls Try.prog 25 #[.agg #[.bool ng1, .slice ad1 n1 c1], .int .i64 k] w (RetSB ByteArray.empty false w) := by
  have hV0 := h1.nonneg
  have T1 := Lib.hid h1.lt
  have b0 := Below.refl w.heap.size w
  have l0 : Below w.heap.size w (w.alloc (.cells #[.bool ng1, .slice ad1 n1 c1] 25)) := (Below.refl _ _).alloc (Nat.le_refl _) _
  have b1 : Below w.heap.size w (w.alloc (.cells #[.bool ng1, .slice ad1 n1 c1] 25)) := below_trans b0 l0
  have k0 : Cel (w.alloc (.cells #[.bool ng1, .slice ad1 n1 c1] 25)) w.heap.size 25 [.bool ng1, .slice ad1 n1 c1] := Cel.made _ _ _ _ (by simp)
  replace h1 := h1.below b1 (Nat.le_refl _)
  clear b0 l0
  have hg0 : w.heap.size ≤ w.heap.size := Nat.le_refl _
  have hS := wsigned_calls ng1 ad1 n1 c1 V1 (w.alloc (.cells #[.bool ng1, .slice ad1 n1 c1] 25)) h1 (by omega)
  have hA1 := (sI_abs ng1 V1 hV0).symm
  generalize sI ng1 V1 = N at *
  clear h1
  have hb : 8 * k < bitsOf V1 := by
    obtain ⟨m, rfl⟩ := Int.eq_ofNat_of_zero_le (show 0 ≤ k by omega)
    have := bits_fit V1 hV0 m
    have h2 : ¬ V1 < 256 ^ m := hv
    omega
  have W1 : IntKind.i64.wrap (8 * k) = 8 * k := IntWalk.i64_in _ (by omega)
  clear hv hA1
  go_enter Try.func25, Try.ntmps25
  have h := Lib.hid (hS)
  have e0a := k0.cell 0 _ rfl
  have e0b := k0.cell 1 _ rfl
  go_wp2_with fail
  with_reducible refine (h.out).mono ?_
  rintro e v1 ⟨xd, xn, xc, rfl, f1, b⟩
  clear h
  clear e0a e0b
  replace k0 := k0.next b
  have bb := below_trans b1 b
  clear b b1
  have b1 := bb
  clear bb
  clear hS
  have hxn : xn ≤ n1 := f1.len_le n1 T1.out
  have hN := num_len xd xn xc V1 v1 (f1.num hV0) (by omega)
  generalize bitsOf V1 = bb at *
  have h := Lib.hid (hN)
  have e0a := k0.cell 0 _ rfl
  have e0b := k0.cell 1 _ rfl
  go_wp2_with fail
  with_reducible refine (h.out).mono ?_
  rintro e w' ⟨rfl, rfl⟩
  clear h
  clear e0a e0b
  clear hN
  go_wp2_with fail
  go_ret2
  exact ⟨rfl, b1⟩

set_option maxHeartbeats 2000000 in
set_option maxRecDepth 20000 in
theorem wtwos_neg (ng1 : Bool) (ad1 : Option Addr) (n1 c1 : Nat) (V1 : Int) (k : Int) (w : World) (h1 : Num w ad1 n1 c1 V1) (hn1 : n1 ≤ 35184372088831) (m : Nat) (hk : k = m) (hm : 1 ≤ m ∧ m ≤ 1048576) (hv : V1 < 256 ^ m) (hs : sI ng1 V1 < 0) :
    Calls Try.prog 25 #[.agg #[.bool ng1, .slice ad1 n1 c1], .int .i64 k] w (RetSB (strB (if (sI ng1 V1 / 256 ^ (m - 1) % 256) / 128 = 1 then beB m (sI ng1 V1) else [])) (decide ((sI ng1 V1 / 256 ^ (m - 1) % 256) / 128 = 1)) w) := by
  subst hk
  have hV0 := h1.nonneg
  have T1 := Lib.hid h1.lt
  have b0 := Below.refl w.heap.size w
  have l0 : Below w.heap.size w (w.alloc (.cells #[.bool ng1, .slice ad1 n1 c1] 25)) := (Below.refl _ _).alloc (Nat.le_refl _) _
  have b1 : Below w.heap.size w (w.alloc (.cells #[.bool ng1, .slice ad1 n1 c1] 25)) := below_trans b0 l0
  have k0 : Cel (w.alloc (.cells #[.bool ng1, .slice ad1 n1 c1] 25)) w.heap.size 25 [.bool ng1, .slice ad1 n1 c1] := Cel.made _ _ _ _ (by simp)
  replace h1 := h1.below b1 (Nat.le_refl _)
  clear b0 l0
  have hg0 : w.heap.size ≤ w.heap.size := Nat.le_refl _
  have hS := wsigned_calls ng1 ad1 n1 c1 V1 (w.alloc (.cells #[.bool ng1, .slice ad1 n1 c1] 25)) h1 (by omega)
  have hA1 := (sI_abs ng1 V1 hV0).symm
  generalize sI ng1 V1 = N at *
  clear h1
  have hb := (bits_fit V1 hV0 m).2 hv
  have hL := dg256_len V1 m hv
  have dV := dg_dig 256 (by omega) V1.toNat
  change Dig 256 (dg 256 V1) at dV
  have hpad := beB_pad (m - (dg 256 V1).length) V1 hV0
  rw [show m - (dg 256 V1).length + (dg 256 V1).length = m by omega] at hpad
  have htop := beB_top (m - 1) N
  rw [show m - 1 + 1 = m by omega] at htop
  have hfin : flipB (beB m V1) = beB m N := by rw [flip_beB m V1 (by omega) hv]; congr 1; omega
  have hsg : sgI N = -1 := by unfold sgI; rw [if_pos hs]
  obtain ⟨top, ht⟩ : ∃ top, N / 256 ^ (m - 1) % 256 = top := ⟨_, rfl⟩
  rw [ht] at htop
  rw [ht]
  have htb : 0 ≤ top ∧ top < 256 := by omega
  clear ht
  obtain ⟨Z, hZ⟩ : ∃ Z, beB m N = Z := ⟨_, rfl⟩
  have hZl : Z.length = m := by rw [← hZ]; exact beB_length _ _
  have hZd : Dig 256 Z := by rw [← hZ]; exact beB_dig _ _
  rw [hZ] at hfin htop
  rw [hZ]
  obtain ⟨R, hR⟩ : ∃ R, R = strB (if top / 128 = 1 then Z else []) := ⟨_, rfl⟩
  obtain ⟨ok, hok⟩ : ∃ ok, ok = decide (top / 128 = 1) := ⟨_, rfl⟩
  rw [← hR, ← hok]
  have HR := Lib.hid hR
  have HOK := Lib.hid hok
  clear hR hok
  have hBl := beB_length m V1
  have hBd := beB_dig m V1
  clear hZ hA1 hs hv
  obtain ⟨S, hS⟩ : ∃ S, S = strB (dg 256 V1).reverse := ⟨_, rfl⟩
  have hSz : S.size = (dg 256 V1).length := by rw [hS, strB_size, List.length_reverse]
  have HB : Hid (∀ (w2 : World) (n2 : Nat) (ad2 : Option Addr) (c2 : Nat), Num w2 ad2 n2 c2 V1 → n2 ≤ 35184372088831 → Calls Try.prog 62 #[.slice ad2 n2 c2] w2 (RetS S w2)) := Lib.hid fun w2 n2 ad2 c2 q1 q2 => by rw [hS]; exact num_bytes ad2 n2 c2 V1 w2 q1 q2
  obtain ⟨ys, hys⟩ : ∃ ys, ys = (dg 256 V1).reverse := ⟨_, rfl⟩
  have hyl : ys.length = (dg 256 V1).length := by rw [hys]; exact List.length_reverse
  have hyd : Dig 256 ys := by rw [hys]; exact dV.reverse
  rw [← hys] at hS hpad
  generalize (dg 256 V1).length = L at *
  obtain ⟨q, hq⟩ : ∃ q, m - L = q := ⟨_, rfl⟩
  rw [hq] at hpad
  have W1 : IntKind.i64.wrap (8 * (m : Int)) = 8 * (m : Int) := IntWalk.i64_in _ (by omega)
  have W2 : (m : Int) - (L : Int) = (q : Int) := by omega
  have hpl : (List.replicate q 0 ++ ys : List Int) = beB m V1 := hpad
  have HFIN := Lib.hid hfin
  have HTOP := Lib.hid htop
  have HS := Lib.hid hS
  have HYL := Lib.hid hyl
  have HYD := Lib.hid hyd
  have HP := Lib.hid hpl
  have HZL := Lib.hid hZl
  have HZD := Lib.hid hZd
  have HBL := Lib.hid hBl
  have HBD := Lib.hid hBd
  generalize beB m V1 = Y at *
  have hqm : q + L = m := by omega
  clear hfin htop hS hyl hyd hys hpl hpad hZl hZd hBl hBd dV hq
  have hb8 : ¬ 8 * (m : Int) < bitsOf V1 := by omega
  clear hb
  generalize sgI N = s1 at *
  generalize hbb : bitsOf V1 = bb at *
  have HBB := Lib.hid hbb
  clear hbb
  subst hsg
  have hN := fun (w2 : World) (n2 : Nat) (ad2 : Option Addr) (c2 : Nat) (h2 : Num w2 ad2 n2 c2 V1) (hn2 : n2 ≤ 70368744177663) => by have := num_len ad2 n2 c2 V1 w2 h2 hn2; rw [HBB.out] at this; exact this
  have HN := Lib.hid hN
  clear hN
  go_enter Try.func25, Try.ntmps25
  have h := Lib.hid (hS)
  have e0a := k0.cell 0 _ rfl
  have e0b := k0.cell 1 _ rfl
  go_wp2_with fail
  with_reducible refine (h.out).mono ?_
  rintro e v1 ⟨xd, xn, xc, rfl, f1, b⟩
  clear h
  clear e0a e0b
  replace k0 := k0.next b
  have bb := below_trans b1 b
  clear b b1
  have b1 := bb
  clear bb
  clear hS
  have hxn : xn ≤ n1 := f1.len_le n1 T1.out
  have hN := HN.out v1 _ _ _ (f1.num hV0) (by omega)
  clear HN
  have h := Lib.hid (hN)
  have e0a := k0.cell 0 _ rfl
  have e0b := k0.cell 1 _ rfl
  go_wp2_with fail
  with_reducible refine (h.out).mono ?_
  rintro e w' ⟨rfl, rfl⟩
  clear h
  clear e0a e0b
  clear hN
  have hmk := make_rule (P := Try.prog) 50 5 .u8 1 Try.underlying50 info_byte (by omega) m (by omega) (m : Int) rfl v1
  have b9 : Below (v1).heap.size (v1) ((v1).alloc (.cells (nums .u8 (List.replicate m 0)).toArray 5)) := (Below.refl _ _).alloc (Nat.le_refl _) _
  have kB := Blk.made (v1) 5 .u8 (List.replicate m 0) _ rfl
  have hgw : w.heap.size ≤ (v1).heap.size := (b1).size
  generalize (v1).alloc (.cells (nums .u8 (List.replicate m 0)).toArray 5) = W9 at *
  have b := b9
  clear b9
  replace k0 := k0.next b
  replace f1 := f1.below b (Nat.le_refl _)
  have bb := below_trans b1 b
  clear b b1
  have b1 := bb
  clear bb
  generalize (v1).heap.size = g at *
  have hB := HB.out W9 _ _ _ (f1.num hV0) (by omega)
  clear HB f1
  have h := Lib.hid (hB)
  have e0a := k0.cell 0 _ rfl
  have e0b := k0.cell 1 _ rfl
  go_wp2_with fail
  with_reducible refine (h.out).mono ?_
  rintro e v3 ⟨rfl, b⟩
  clear h
  clear e0a e0b
  replace k0 := k0.next b
  replace kB := kB.below b kB.lt
  have bb := below_trans b1 b
  clear b b1
  have b1 := bb
  clear bb
  clear hB
  have hYY : (List.replicate m (0 : Int)).take q ++ (ys ++ (List.replicate m 0).drop (q + ys.length)) = Y := by rw [List.take_replicate, List.drop_replicate, HYL.out, show min q m = q by omega, show m - (q + L) = 0 by omega, List.replicate_zero, List.append_nil]; exact HP.out
  have HYY := Lib.hid hYY
  have hSz2 : S.size = L := hSz
  clear hYY hSz
  by_cases hT : top / 128 = 1
  · skip
    obtain rfl : ok = true := by rw [HOK.out, hT]; rfl
    obtain rfl : R = strB Z := by rw [HR.out, hT]; rfl
    by_cases hL0 : L = 0
    · subst hL0
      obtain rfl : m = q := by omega
      go_wp2_with (with_reducible refine stop_at (o := ⟨some 39, _, _, _, _, _⟩) ?_)
      refine Lib.hid ?_
      refine copy_str w.heap.size rfl (.tmp 37) (.tmp 38) 50 9 rfl 5 Try.underlying50 size_byte _ _ _ S rfl rfl g m (List.replicate m 0) ys kB HS.out HYD.out (by rw [HYL.out]; omega) (fun h => by first | rfl | (exfalso; rw [HYL.out] at h; omega)) (by rw [HYL.out, List.length_replicate]; omega) b1 hgw Y HYY.out ?_
      intro w5 k5 b5
      go_wp2_with fail
      have hF := Lib.hid (flip_calls g m m 5 Y w5 (by omega) (Nat.le_refl _) k5.rowAt HBD.out HBL.out)
      rw [HFIN.out] at hF
      with_reducible refine (hF.out).mono ?_
      rintro e w6 ⟨rfl, r6, o6⟩
      have c5 := r6.cell 0 (by rw [HZL.out]; omega)
      rw [HTOP.out] at c5
      have r5 := r6.rds
      rw [HZL.out] at r5
      have hcv := conv_str (P := Try.prog) 50 9 5 Try.underlying50 Try.underlying5 Try.underlying9 w6 _ m m Z r5 HZD.out
      have b6 := Only.below b5 hgw o6
      clear hF k5 o6
      go_wp2_with fail
      go_ret2
      exact ⟨rfl, b6⟩
    · have hqm2 : q < m := by omega
      go_wp2_with (with_reducible refine stop_at (o := ⟨some 39, _, _, _, _, _⟩) ?_)
      refine Lib.hid ?_
      refine copy_str w.heap.size rfl (.tmp 37) (.tmp 38) 50 9 rfl 5 Try.underlying50 size_byte _ _ _ S rfl rfl g q (List.replicate m 0) ys kB HS.out HYD.out (by rw [HYL.out]; omega) (fun h => by first | rfl | (exfalso; rw [HYL.out] at h; omega)) (by rw [HYL.out, List.length_replicate]; omega) b1 hgw Y HYY.out ?_
      intro w5 k5 b5
      go_wp2_with fail
      have hF := Lib.hid (flip_calls g m m 5 Y w5 (by omega) (Nat.le_refl _) k5.rowAt HBD.out HBL.out)
      rw [HFIN.out] at hF
      with_reducible refine (hF.out).mono ?_
      rintro e w6 ⟨rfl, r6, o6⟩
      have c5 := r6.cell 0 (by rw [HZL.out]; omega)
      rw [HTOP.out] at c5
      have r5 := r6.rds
      rw [HZL.out] at r5
      have hcv := conv_str (P := Try.prog) 50 9 5 Try.underlying50 Try.underlying5 Try.underlying9 w6 _ m m Z r5 HZD.out
      have b6 := Only.below b5 hgw o6
      clear hF k5 o6
      go_wp2_with fail
      go_ret2
      exact ⟨rfl, b6⟩
  · skip
    replace hT : top / 128 = 0 := by omega
    obtain rfl : ok = false := by rw [HOK.out, hT]; rfl
    obtain rfl : R = ByteArray.empty := by rw [HR.out, hT]; rfl
    by_cases hL0 : L = 0
    · subst hL0
      obtain rfl : m = q := by omega
      go_wp2_with (with_reducible refine stop_at (o := ⟨some 39, _, _, _, _, _⟩) ?_)
      refine Lib.hid ?_
      refine copy_str w.heap.size rfl (.tmp 37) (.tmp 38) 50 9 rfl 5 Try.underlying50 size_byte _ _ _ S rfl rfl g m (List.replicate m 0) ys kB HS.out HYD.out (by rw [HYL.out]; omega) (fun h => by first | rfl | (exfalso; rw [HYL.out] at h; omega)) (by rw [HYL.out, List.length_replicate]; omega) b1 hgw Y HYY.out ?_
      intro w5 k5 b5
      go_wp2_with fail
      have hF := Lib.hid (flip_calls g m m 5 Y w5 (by omega) (Nat.le_refl _) k5.rowAt HBD.out HBL.out)
      rw [HFIN.out] at hF
      with_reducible refine (hF.out).mono ?_
      rintro e w6 ⟨rfl, r6, o6⟩
      have c5 := r6.cell 0 (by rw [HZL.out]; omega)
      rw [HTOP.out] at c5
      have r5 := r6.rds
      rw [HZL.out] at r5
      have hcv := conv_str (P := Try.prog) 50 9 5 Try.underlying50 Try.underlying5 Try.underlying9 w6 _ m m Z r5 HZD.out
      have b6 := Only.below b5 hgw o6
      clear hF k5 o6
      go_wp2_with fail
      go_ret2
      exact ⟨rfl, b6⟩
    · have hqm2 : q < m := by omega
      go_wp2_with (with_reducible refine stop_at (o := ⟨some 39, _, _, _, _, _⟩) ?_)
      refine Lib.hid ?_
      refine copy_str w.heap.size rfl (.tmp 37) (.tmp 38) 50 9 rfl 5 Try.underlying50 size_byte _ _ _ S rfl rfl g q (List.replicate m 0) ys kB HS.out HYD.out (by rw [HYL.out]; omega) (fun h => by first | rfl | (exfalso; rw [HYL.out] at h; omega)) (by rw [HYL.out, List.length_replicate]; omega) b1 hgw Y HYY.out ?_
      intro w5 k5 b5
      go_wp2_with fail
      have hF := Lib.hid (flip_calls g m m 5 Y w5 (by omega) (Nat.le_refl _) k5.rowAt HBD.out HBL.out)
      rw [HFIN.out] at hF
      with_reducible refine (hF.out).mono ?_
      rintro e w6 ⟨rfl, r6, o6⟩
      have c5 := r6.cell 0 (by rw [HZL.out]; omega)
      rw [HTOP.out] at c5
      have r5 := r6.rds
      rw [HZL.out] at r5
      have hcv := conv_str (P := Try.prog) 50 9 5 Try.underlying50 Try.underlying5 Try.underlying9 w6 _ m m Z r5 HZD.out
      have b6 := Only.below b5 hgw o6
      clear hF k5 o6
      go_wp2_with fail
      go_ret2
      exact ⟨rfl, b6⟩

set_option maxHeartbeats 2000000 in
set_option maxRecDepth 20000 in
theorem wtwos_pos (ng1 : Bool) (ad1 : Option Addr) (n1 c1 : Nat) (V1 : Int) (k : Int) (w : World) (h1 : Num w ad1 n1 c1 V1) (hn1 : n1 ≤ 35184372088831) (m : Nat) (hk : k = m) (hm : 1 ≤ m ∧ m ≤ 1048576) (hv : V1 < 256 ^ m) (hs : 0 ≤ sI ng1 V1) :
    Calls Try.prog 25 #[.agg #[.bool ng1, .slice ad1 n1 c1], .int .i64 k] w (RetSB (strB (if (sI ng1 V1 / 256 ^ (m - 1) % 256) / 128 = 0 then beB m (sI ng1 V1) else [])) (decide ((sI ng1 V1 / 256 ^ (m - 1) % 256) / 128 = 0)) w) := by
  subst hk
  have hV0 := h1.nonneg
  have T1 := Lib.hid h1.lt
  have b0 := Below.refl w.heap.size w
  have l0 : Below w.heap.size w (w.alloc (.cells #[.bool ng1, .slice ad1 n1 c1] 25)) := (Below.refl _ _).alloc (Nat.le_refl _) _
  have b1 : Below w.heap.size w (w.alloc (.cells #[.bool ng1, .slice ad1 n1 c1] 25)) := below_trans b0 l0
  have k0 : Cel (w.alloc (.cells #[.bool ng1, .slice ad1 n1 c1] 25)) w.heap.size 25 [.bool ng1, .slice ad1 n1 c1] := Cel.made _ _ _ _ (by simp)
  replace h1 := h1.below b1 (Nat.le_refl _)
  clear b0 l0
  have hg0 : w.heap.size ≤ w.heap.size := Nat.le_refl _
  have hS := wsigned_calls ng1 ad1 n1 c1 V1 (w.alloc (.cells #[.bool ng1, .slice ad1 n1 c1] 25)) h1 (by omega)
  have hA1 := (sI_abs ng1 V1 hV0).symm
  generalize sI ng1 V1 = N at *
  clear h1
  have hb := (bits_fit V1 hV0 m).2 hv
  have hL := dg256_len V1 m hv
  have dV := dg_dig 256 (by omega) V1.toNat
  change Dig 256 (dg 256 V1) at dV
  have hpad := beB_pad (m - (dg 256 V1).length) V1 hV0
  rw [show m - (dg 256 V1).length + (dg 256 V1).length = m by omega] at hpad
  have htop := beB_top (m - 1) N
  rw [show m - 1 + 1 = m by omega] at htop
  have hfin : beB m V1 = beB m N := by congr 1; omega
  have hsg : sgI N ≠ -1 := by unfold sgI; rw [if_neg (by omega)]; split <;> omega
  obtain ⟨top, ht⟩ : ∃ top, N / 256 ^ (m - 1) % 256 = top := ⟨_, rfl⟩
  rw [ht] at htop
  rw [ht]
  have htb : 0 ≤ top ∧ top < 256 := by omega
  clear ht
  obtain ⟨Z, hZ⟩ : ∃ Z, beB m N = Z := ⟨_, rfl⟩
  have hZl : Z.length = m := by rw [← hZ]; exact beB_length _ _
  have hZd : Dig 256 Z := by rw [← hZ]; exact beB_dig _ _
  rw [hZ] at hfin htop
  rw [hZ]
  obtain ⟨R, hR⟩ : ∃ R, R = strB (if top / 128 = 0 then Z else []) := ⟨_, rfl⟩
  obtain ⟨ok, hok⟩ : ∃ ok, ok = decide (top / 128 = 0) := ⟨_, rfl⟩
  rw [← hR, ← hok]
  have HR := Lib.hid hR
  have HOK := Lib.hid hok
  clear hR hok
  have hBl := beB_length m V1
  have hBd := beB_dig m V1
  clear hZ hA1 hs hv
  obtain ⟨S, hS⟩ : ∃ S, S = strB (dg 256 V1).reverse := ⟨_, rfl⟩
  have hSz : S.size = (dg 256 V1).length := by rw [hS, strB_size, List.length_reverse]
  have HB : Hid (∀ (w2 : World) (n2 : Nat) (ad2 : Option Addr) (c2 : Nat), Num w2 ad2 n2 c2 V1 → n2 ≤ 35184372088831 → Calls Try.prog 62 #[.slice ad2 n2 c2] w2 (RetS S w2)) := Lib.hid fun w2 n2 ad2 c2 q1 q2 => by rw [hS]; exact num_bytes ad2 n2 c2 V1 w2 q1 q2
  obtain ⟨ys, hys⟩ : ∃ ys, ys = (dg 256 V1).reverse := ⟨_, rfl⟩
  have hyl : ys.length = (dg 256 V1).length := by rw [hys]; exact List.length_reverse
  have hyd : Dig 256 ys := by rw [hys]; exact dV.reverse
  rw [← hys] at hS hpad
  generalize (dg 256 V1).length = L at *
  obtain ⟨q, hq⟩ : ∃ q, m - L = q := ⟨_, rfl⟩
  rw [hq] at hpad
  have W1 : IntKind.i64.wrap (8 * (m : Int)) = 8 * (m : Int) := IntWalk.i64_in _ (by omega)
  have W2 : (m : Int) - (L : Int) = (q : Int) := by omega
  have hpl : (List.replicate q 0 ++ ys : List Int) = beB m V1 := hpad
  have HFIN := Lib.hid hfin
  have HTOP := Lib.hid htop
  have HS := Lib.hid hS
  have HYL := Lib.hid hyl
  have HYD := Lib.hid hyd
  have HP := Lib.hid hpl
  have HZL := Lib.hid hZl
  have HZD := Lib.hid hZd
  have HBL := Lib.hid hBl
  have HBD := Lib.hid hBd
  generalize beB m V1 = Y at *
  have hqm : q + L = m := by omega
  clear hfin htop hS hyl hyd hys hpl hpad hZl hZd hBl hBd dV hq
  have hb8 : ¬ 8 * (m : Int) < bitsOf V1 := by omega
  clear hb
  generalize sgI N = s1 at *
  generalize hbb : bitsOf V1 = bb at *
  have HBB := Lib.hid hbb
  clear hbb
  have hs2 : (s1 == -1) = false := by rw [beq_eq_false_iff_ne]; exact hsg
  have hN := fun (w2 : World) (n2 : Nat) (ad2 : Option Addr) (c2 : Nat) (h2 : Num w2 ad2 n2 c2 V1) (hn2 : n2 ≤ 70368744177663) => by have := num_len ad2 n2 c2 V1 w2 h2 hn2; rw [HBB.out] at this; exact this
  have HN := Lib.hid hN
  clear hN
  go_enter Try.func25, Try.ntmps25
  have h := Lib.hid (hS)
  have e0a := k0.cell 0 _ rfl
  have e0b := k0.cell 1 _ rfl
  go_wp2_with fail
  with_reducible refine (h.out).mono ?_
  rintro e v1 ⟨xd, xn, xc, rfl, f1, b⟩
  clear h
  clear e0a e0b
  replace k0 := k0.next b
  have bb := below_trans b1 b
  clear b b1
  have b1 := bb
  clear bb
  clear hS
  have hxn : xn ≤ n1 := f1.len_le n1 T1.out
  have hN := HN.out v1 _ _ _ (f1.num hV0) (by omega)
  clear HN
  have h := Lib.hid (hN)
  have e0a := k0.cell 0 _ rfl
  have e0b := k0.cell 1 _ rfl
  go_wp2_with fail
  with_reducible refine (h.out).mono ?_
  rintro e w' ⟨rfl, rfl⟩
  clear h
  clear e0a e0b
  clear hN
  have hmk := make_rule (P := Try.prog) 50 5 .u8 1 Try.underlying50 info_byte (by omega) m (by omega) (m : Int) rfl v1
  have b9 : Below (v1).heap.size (v1) ((v1).alloc (.cells (nums .u8 (List.replicate m 0)).toArray 5)) := (Below.refl _ _).alloc (Nat.le_refl _) _
  have kB := Blk.made (v1) 5 .u8 (List.replicate m 0) _ rfl
  have hgw : w.heap.size ≤ (v1).heap.size := (b1).size
  generalize (v1).alloc (.cells (nums .u8 (List.replicate m 0)).toArray 5) = W9 at *
  have b := b9
  clear b9
  replace k0 := k0.next b
  replace f1 := f1.below b (Nat.le_refl _)
  have bb := below_trans b1 b
  clear b b1
  have b1 := bb
  clear bb
  generalize (v1).heap.size = g at *
  have hB := HB.out W9 _ _ _ (f1.num hV0) (by omega)
  clear HB f1
  have h := Lib.hid (hB)
  have e0a := k0.cell 0 _ rfl
  have e0b := k0.cell 1 _ rfl
  go_wp2_with fail
  with_reducible refine (h.out).mono ?_
  rintro e v3 ⟨rfl, b⟩
  clear h
  clear e0a e0b
  replace k0 := k0.next b
  replace kB := kB.below b kB.lt
  have bb := below_trans b1 b
  clear b b1
  have b1 := bb
  clear bb
  clear hB
  have hYY : (List.replicate m (0 : Int)).take q ++ (ys ++ (List.replicate m 0).drop (q + ys.length)) = Y := by rw [List.take_replicate, List.drop_replicate, HYL.out, show min q m = q by omega, show m - (q + L) = 0 by omega, List.replicate_zero, List.append_nil]; exact HP.out
  have HYY := Lib.hid hYY
  have hSz2 : S.size = L := hSz
  clear hYY hSz
  by_cases hT : top / 128 = 1
  · skip
    obtain rfl : ok = false := by rw [HOK.out, hT]; rfl
    obtain rfl : R = ByteArray.empty := by rw [HR.out, hT]; rfl
    by_cases hL0 : L = 0
    · subst hL0
      obtain rfl : m = q := by omega
      go_wp2_with (with_reducible refine stop_at (o := ⟨some 39, _, _, _, _, _⟩) ?_)
      refine Lib.hid ?_
      refine copy_str w.heap.size rfl (.tmp 37) (.tmp 38) 50 9 rfl 5 Try.underlying50 size_byte _ _ _ S rfl rfl g m (List.replicate m 0) ys kB HS.out HYD.out (by rw [HYL.out]; omega) (fun h => by first | rfl | (exfalso; rw [HYL.out] at h; omega)) (by rw [HYL.out, List.length_replicate]; omega) b1 hgw Y HYY.out ?_
      intro w5 k5 b5
      have c5 := k5.cell 0 (by rw [HBL.out]; omega)
      rw [HFIN.out, HTOP.out] at c5
      have r5 := k5.rds
      rw [HBL.out, HFIN.out] at r5
      have hcv := conv_str (P := Try.prog) 50 9 5 Try.underlying50 Try.underlying5 Try.underlying9 w5 _ m m Z r5 HZD.out
      go_wp2_with fail
      go_ret2
      exact ⟨rfl, b5⟩
    · have hqm2 : q < m := by omega
      go_wp2_with (with_reducible refine stop_at (o := ⟨some 39, _, _, _, _, _⟩) ?_)
      refine Lib.hid ?_
      refine copy_str w.heap.size rfl (.tmp 37) (.tmp 38) 50 9 rfl 5 Try.underlying50 size_byte _ _ _ S rfl rfl g q (List.replicate m 0) ys kB HS.out HYD.out (by rw [HYL.out]; omega) (fun h => by first | rfl | (exfalso; rw [HYL.out] at h; omega)) (by rw [HYL.out, List.length_replicate]; omega) b1 hgw Y HYY.out ?_
      intro w5 k5 b5
      have c5 := k5.cell 0 (by rw [HBL.out]; omega)
      rw [HFIN.out, HTOP.out] at c5
      have r5 := k5.rds
      rw [HBL.out, HFIN.out] at r5
      have hcv := conv_str (P := Try.prog) 50 9 5 Try.underlying50 Try.underlying5 Try.underlying9 w5 _ m m Z r5 HZD.out
      go_wp2_with fail
      go_ret2
      exact ⟨rfl, b5⟩
  · skip
    replace hT : top / 128 = 0 := by omega
    obtain rfl : ok = true := by rw [HOK.out, hT]; rfl
    obtain rfl : R = strB Z := by rw [HR.out, hT]; rfl
    by_cases hL0 : L = 0
    · subst hL0
      obtain rfl : m = q := by omega
      go_wp2_with (with_reducible refine stop_at (o := ⟨some 39, _, _, _, _, _⟩) ?_)
      refine Lib.hid ?_
      refine copy_str w.heap.size rfl (.tmp 37) (.tmp 38) 50 9 rfl 5 Try.underlying50 size_byte _ _ _ S rfl rfl g m (List.replicate m 0) ys kB HS.out HYD.out (by rw [HYL.out]; omega) (fun h => by first | rfl | (exfalso; rw [HYL.out] at h; omega)) (by rw [HYL.out, List.length_replicate]; omega) b1 hgw Y HYY.out ?_
      intro w5 k5 b5
      have c5 := k5.cell 0 (by rw [HBL.out]; omega)
      rw [HFIN.out, HTOP.out] at c5
      have r5 := k5.rds
      rw [HBL.out, HFIN.out] at r5
      have hcv := conv_str (P := Try.prog) 50 9 5 Try.underlying50 Try.underlying5 Try.underlying9 w5 _ m m Z r5 HZD.out
      go_wp2_with fail
      go_ret2
      exact ⟨rfl, b5⟩
    · have hqm2 : q < m := by omega
      go_wp2_with (with_reducible refine stop_at (o := ⟨some 39, _, _, _, _, _⟩) ?_)
      refine Lib.hid ?_
      refine copy_str w.heap.size rfl (.tmp 37) (.tmp 38) 50 9 rfl 5 Try.underlying50 size_byte _ _ _ S rfl rfl g q (List.replicate m 0) ys kB HS.out HYD.out (by rw [HYL.out]; omega) (fun h => by first | rfl | (exfalso; rw [HYL.out] at h; omega)) (by rw [HYL.out, List.length_replicate]; omega) b1 hgw Y HYY.out ?_
      intro w5 k5 b5
      have c5 := k5.cell 0 (by rw [HBL.out]; omega)
      rw [HFIN.out, HTOP.out] at c5
      have r5 := k5.rds
      rw [HBL.out, HFIN.out] at r5
      have hcv := conv_str (P := Try.prog) 50 9 5 Try.underlying50 Try.underlying5 Try.underlying9 w5 _ m m Z r5 HZD.out
      go_wp2_with fail
      go_ret2
      exact ⟨rfl, b5⟩

end Go.Proofs.Ytgnophflogmmaaa

/- whole.Twos, for every number. -/
namespace Go.Proofs.Ytgnophflogmmaaa
open Go.RowKit

theorem wtwos_calls (ng1 : Bool) (ad1 : Option Addr) (n1 c1 : Nat) (V1 : Int) (k : Int) (w : World) (h1 : Num w ad1 n1 c1 V1) (hn1 : n1 ≤ 35184372088831) :
    Calls Try.prog 25 #[.agg #[.bool ng1, .slice ad1 n1 c1], .int .i64 k] w (RetSB (strB (twosL (sI ng1 V1) k)) (twosOk (sI ng1 V1) k) w) := by
  have hV0 := h1.nonneg
  have hA := sI_abs ng1 V1 hV0
  have key : ∀ ok L, twosOk (sI ng1 V1) k = ok → twosL (sI ng1 V1) k = L → ∀ s, s = strB L → Calls Try.prog 25 #[.agg #[.bool ng1, .slice ad1 n1 c1], .int .i64 k] w (RetSB s ok w) → Calls Try.prog 25 #[.agg #[.bool ng1, .slice ad1 n1 c1], .int .i64 k] w (RetSB (strB (twosL (sI ng1 V1) k)) (twosOk (sI ng1 V1) k) w) := by
    intro ok L e1 e2 s e3 h
    rw [e1, e2, ← e3]
    exact h
  have no : twosOk (sI ng1 V1) k = false → twosL (sI ng1 V1) k = [] := fun e => by unfold twosL; rw [e]; rfl
  by_cases hk1 : k < 1
  · have e : twosOk (sI ng1 V1) k = false := decide_eq_false (by omega)
    exact key _ _ e (no e) _ rfl (wtwos_small ng1 ad1 n1 c1 V1 k w h1 hn1 hk1)
  by_cases hk2 : 1048576 < k
  · have e : twosOk (sI ng1 V1) k = false := decide_eq_false (by omega)
    exact key _ _ e (no e) _ rfl (wtwos_great ng1 ad1 n1 c1 V1 k w h1 hn1 hk2)
  obtain ⟨m, rfl⟩ := Int.eq_ofNat_of_zero_le (show 0 ≤ k by omega)
  obtain ⟨p, rfl⟩ : ∃ p, m = p + 1 := ⟨m - 1, by omega⟩
  have hok : twosOk (sI ng1 V1) ((p + 1 : Nat) : Int) = decide (-(128 * 256 ^ p) ≤ sI ng1 V1 ∧ sI ng1 V1 < 128 * 256 ^ p) := by
    unfold twosOk
    rw [decide_eq_decide, Int.toNat_natCast, Nat.add_sub_cancel]
    exact ⟨fun h => h.2.2, fun h => ⟨by omega, by omega, h⟩⟩
  have hp : (0 : Int) < 256 ^ p := Int.pow_pos (by omega)
  by_cases hv : V1 < 256 ^ (p + 1)
  · by_cases hs : sI ng1 V1 < 0
    · have h := wtwos_neg ng1 ad1 n1 c1 V1 _ w h1 hn1 (p + 1) rfl ⟨by omega, by omega⟩ hv hs
      have ht := top_neg p (sI ng1 V1) hs (by omega)
      rw [Nat.add_sub_cancel] at h
      have e : twosOk (sI ng1 V1) ((p + 1 : Nat) : Int) = decide ((sI ng1 V1 / 256 ^ p % 256) / 128 = 1) := by rw [hok, decide_eq_decide]; omega
      refine key _ _ e ?_ _ rfl h
      unfold twosL
      rw [e]
      simp only [decide_eq_true_eq]
      rfl
    · have h := wtwos_pos ng1 ad1 n1 c1 V1 _ w h1 hn1 (p + 1) rfl ⟨by omega, by omega⟩ hv (by omega)
      have ht := top_pos p (sI ng1 V1) (by omega) (by omega)
      rw [Nat.add_sub_cancel] at h
      have e : twosOk (sI ng1 V1) ((p + 1 : Nat) : Int) = decide ((sI ng1 V1 / 256 ^ p % 256) / 128 = 0) := by rw [hok, decide_eq_decide]; omega
      refine key _ _ e ?_ _ rfl h
      unfold twosL
      rw [e]
      simp only [decide_eq_true_eq]
      rfl
  · have e : twosOk (sI ng1 V1) ((p + 1 : Nat) : Int) = false := by
      rw [hok]
      refine decide_eq_false ?_
      rw [Int.pow_succ] at hv
      omega
    exact key _ _ e (no e) _ rfl (wtwos_long ng1 ad1 n1 c1 V1 _ w h1 hn1 ⟨by omega, by omega⟩ hv)
end Go.Proofs.Ytgnophflogmmaaa
