/- Contracts of functions, and plain facts, part 20. -/
import Derived.Deep.RegionHeld3
import Derived.Test.YtbcbmkeeoognpaaGreatDoorPk5
import Derived.Test.YtbcbmkeeoognpaaGreatDoorPk8
import Derived.Test.YtbcbmkeeoognpaaGreatDoorPk11
import Derived.Test.YtbcbmkeeoognpaaGreatDoorPk13
import Derived.Test.YtbcbmkeeoognpaaGreatDoorPk14
import Derived.Test.YtbcbmkeeoognpaaGreatDoorPk15
import Derived.Test.YtbcbmkeeoognpaaGreatDoorPk16
import Derived.Test.YtbcbmkeeoognpaaGreatDoorPk17
import Derived.Test.YtbcbmkeeoognpaaGreatDoorPk18
import Derived.Test.YtbcbmkeeoognpaaGreatDoorPk19
set_option linter.unusedVariables false
set_option linter.unusedSimpArgs false
/- cruciblelaw02.lives: the chapter's first examples. (Printed by lives2.py.) -/
namespace Go.Proofs.YtbcbmkeeoognpaaGreatDoor
open Go.RowKit

theorem gcd_lit : gcdI 12 18 = 6 := by decide
theorem pow_lit : powNum 10 3 = 1000 ∧ powOk 10 3 = true := by decide
theorem read_lit : readNum [52, 50, 57, 52, 57, 54, 55, 50, 57, 54] = 4294967296 ∧ readOk [52, 50, 57, 52, 57, 54, 55, 50, 57, 54] = true := by
  have hv : readV [52, 50, 57, 52, 57, 54, 55, 50, 57, 54] = 4294967296 := by decide
  have hok : readOk [52, 50, 57, 52, 57, 54, 55, 50, 57, 54] = true := by
    unfold readOk
    rw [hv]
    have hl : (dg 4294967296 4294967296).length ≤ 262144 := Nat.le_trans (dg_length_le 4294967296 (by omega) 2 _ (by decide)) (by omega)
    refine decide_eq_true ⟨by simp, by simp, fun c hc => ?_, hl⟩
    simp only [List.mem_cons, List.not_mem_nil, or_false] at hc
    omega
  unfold readNum
  rw [hok, if_pos rfl, hv]
  exact ⟨rfl, rfl⟩
theorem byte_lit : byteNum [0, 1, 0] = 256 ∧ byteOk [0, 1, 0] = true := by
  have hv : byteV [0, 1, 0] = 256 := by decide
  have hok : byteOk [0, 1, 0] = true := by
    unfold byteOk
    rw [hv]
    exact decide_eq_true (Nat.le_trans (dg_length_le 256 (by omega) 2 _ (by decide)) (by omega))
  unfold byteNum
  rw [hok, if_pos rfl, hv]
  exact ⟨rfl, rfl⟩
theorem dec_lit : strB (decL 7) = { data := #[55] } := by
  have : decL 7 = [55] := by
    unfold decL
    rw [if_neg (by omega), dg_pos 10 7 (by omega) (by omega), show (7 : Int) / ((10 : Nat) : Int) = 0 by decide, dg_zero]
    rfl
  rw [this]
  rfl
theorem byt_lit : strB (dg 256 65536).reverse = { data := #[1, 0, 0] } := by
  have : dg 256 65536 = [0, 0, 1] := by
    rw [dg_pos 256 65536 (by omega) (by omega), show (65536 : Int) / ((256 : Nat) : Int) = 256 by decide, dg_pos 256 256 (by omega) (by omega), show (256 : Int) / ((256 : Nat) : Int) = 1 by decide, dg_pos 256 1 (by omega) (by omega), show (1 : Int) / ((256 : Nat) : Int) = 0 by decide, dg_zero]
    rfl
  rw [this]
  rfl
theorem rb_read : bytesI { data := #[52, 50, 57, 52, 57, 54, 55, 50, 57, 54] } = [52, 50, 57, 52, 57, 54, 55, 50, 57, 54] := by rfl
theorem rb_byte : bytesI { data := #[0, 1, 0] } = [0, 1, 0] := by rfl

set_option maxHeartbeats 2000000 in
set_option maxRecDepth 20000 in
theorem lives2_calls (w : World) (hT : Tab32 w) : Calls Tryz.prog 26 #[] w (fun e w' => e = .returned (.bool true) ∧ Below w.heap.size w w') := by
  have bel := Below.refl w.heap.size w
  go_enter Tryz.func26, Tryz.ntmps26
  have x1 := num_cells w _ rfl [0, 0, 0, 1] 4 rfl (dig_lit _ (by decide)) #[.int .u32 0, .int .u32 0, .int .u32 0, .int .u32 1] rfl 79228162514264337593543950336 (by decide)
  have y1 := below_lit (w.alloc (.cells #[.int .u32 0, .int .u32 0, .int .u32 0, .int .u32 1] 44)) #[.int .u32 1, .int .u32 1] 44
  have x2 := num_cells (w.alloc (.cells #[.int .u32 0, .int .u32 0, .int .u32 0, .int .u32 1] 44)) (w.heap.size + 1) (by simp) [1, 1] 2 rfl (dig_lit _ (by decide)) #[.int .u32 1, .int .u32 1] rfl 4294967297 (by decide)
  have bl := below_trans (below_lit w #[.int .u32 0, .int .u32 0, .int .u32 0, .int .u32 1] 44) y1
  have x3 := x1.below y1 (Nat.le_refl _)
  clear y1
  have h := Lib.hid (num_div _ _ _ _ _ _ _ _ _ x3 x2 (by omega) (by omega))
  go_wp2_with fail
  with_reducible refine (h.out).mono ?_
  rintro e v1 ⟨qd, qn, qc, rd, rn, rc, rfl, fq, fr, b0⟩
  have b := below_trans bl b0
  clear b0
  clear h bl
  replace hT := hT.below b (Nat.le_refl _)
  replace bel := below_trans bel b
  clear b
  rw [show (79228162514264337593543950336 : Int) / 4294967297 = 18446744069414584320 by decide] at fq
  rw [show remI 79228162514264337593543950336 4294967297 = 4294967296 by decide] at fr
  clear x1 x2 x3
  have x1 := num_cells v1 _ rfl [7] 1 rfl (dig_lit _ (by decide)) #[.int .u32 7] rfl 7 (by decide)
  have bl := below_lit v1 #[.int .u32 7] 44
  have h := Lib.hid (num_div _ _ _ _ _ _ _ _ _ x1 (num_nil _) (by omega) (by omega))
  go_wp2_with fail
  with_reducible refine (h.out).mono ?_
  rintro e v2 ⟨ad1, n1, c1, ad2, n2, c2, rfl, f1, f2, b0⟩
  have b := below_trans bl b0
  clear b0
  clear h bl
  replace hT := hT.below b (Nat.le_refl _)
  replace fq := fq.below b (Nat.le_refl _)
  replace fr := fr.below b (Nat.le_refl _)
  replace bel := below_trans bel b
  clear b
  clear f1 f2 x1
  have bl := Below.refl v2.heap.size v2
  have h := Lib.hid ((pow_calls 10 3 v2 (by omega) (by omega) hT).mono fun e w' q => q.can)
  go_wp2_with fail
  with_reducible refine (h.out).mono ?_
  rintro e v3 ⟨pd, pn, pc, rfl, fp, b0⟩
  have b := below_trans bl b0
  clear b0
  clear h bl
  replace hT := hT.below b (Nat.le_refl _)
  replace fq := fq.below b (Nat.le_refl _)
  replace fr := fr.below b (Nat.le_refl _)
  replace bel := below_trans bel b
  clear b
  rw [pow_lit.1] at fp
  have bl := Below.refl v3.heap.size v3
  have h := Lib.hid (num_read { data := #[52, 50, 57, 52, 57, 54, 55, 50, 57, 54] } v3 (by decide))
  go_wp2_with fail
  with_reducible refine (h.out).mono ?_
  rintro e v4 ⟨nd, nn, nc, rfl, fn, b0⟩
  have b := below_trans bl b0
  clear b0
  clear h bl
  replace hT := hT.below b (Nat.le_refl _)
  replace fq := fq.below b (Nat.le_refl _)
  replace fr := fr.below b (Nat.le_refl _)
  replace fp := fp.below b (Nat.le_refl _)
  replace bel := below_trans bel b
  clear b
  rw [rb_read, read_lit.1] at fn
  have bl := Below.refl v4.heap.size v4
  have h := Lib.hid (num_fromb { data := #[0, 1, 0] } v4 (by decide))
  go_wp2_with fail
  with_reducible refine (h.out).mono ?_
  rintro e v5 ⟨md, mn, mc, rfl, fm, b0⟩
  have b := below_trans bl b0
  clear b0
  clear h bl
  replace hT := hT.below b (Nat.le_refl _)
  replace fq := fq.below b (Nat.le_refl _)
  replace fr := fr.below b (Nat.le_refl _)
  replace fp := fp.below b (Nat.le_refl _)
  replace fn := fn.below b (Nat.le_refl _)
  replace bel := below_trans bel b
  clear b
  rw [rb_byte, byte_lit.1] at fm
  have P1 := pow_lit.2
  have P2 : readOk (bytesI { data := #[52, 50, 57, 52, 57, 54, 55, 50, 57, 54] }) = true := by rw [rb_read]; exact read_lit.2
  have P3 : byteOk (bytesI { data := #[0, 1, 0] }) = true := by rw [rb_byte]; exact byte_lit.2
  have bl := below_lit v5 #[.int .u32 0, .int .u32 4294967295] 44
  have x1 := can_cells v5 _ rfl [0, 4294967295] 2 rfl (dig_lit _ (by decide)) #[.int .u32 0, .int .u32 4294967295] rfl 18446744069414584320 (by decide) (by decide)
  have x2 := fq.below bl (Nat.le_refl _)
  have h := Lib.hid (num_same_true _ _ _ _ _ _ _ _ _ x2 x1 rfl (by have := x2.len_le 2 (by decide); omega) (by omega))
  go_wp2_with fail
  with_reducible refine (h.out).mono ?_
  rintro e w' ⟨rfl, q, rfl⟩
  have b := below_trans bl (below_drewN (Below.refl _ _) q)
  generalize World.drewN (v5.alloc (.cells #[.int .u32 0, .int .u32 4294967295] 44)) q = v6 at *
  clear h bl
  replace hT := hT.below b (Nat.le_refl _)
  replace fq := fq.below b (Nat.le_refl _)
  replace fr := fr.below b (Nat.le_refl _)
  replace fp := fp.below b (Nat.le_refl _)
  replace fn := fn.below b (Nat.le_refl _)
  replace fm := fm.below b (Nat.le_refl _)
  replace bel := below_trans bel b
  clear b
  clear x1 x2 fq
  have bl := below_lit v6 #[.int .u32 0, .int .u32 1] 44
  have x1 := can_cells v6 _ rfl [0, 1] 2 rfl (dig_lit _ (by decide)) #[.int .u32 0, .int .u32 1] rfl 4294967296 (by decide) (by decide)
  have x2 := fr.below bl (Nat.le_refl _)
  have h := Lib.hid (num_same_true _ _ _ _ _ _ _ _ _ x2 x1 rfl (by have := x2.len_le 2 (by decide); omega) (by omega))
  go_wp2_with fail
  with_reducible refine (h.out).mono ?_
  rintro e w' ⟨rfl, q, rfl⟩
  have b := below_trans bl (below_drewN (Below.refl _ _) q)
  generalize World.drewN (v6.alloc (.cells #[.int .u32 0, .int .u32 1] 44)) q = v7 at *
  clear h bl
  replace hT := hT.below b (Nat.le_refl _)
  replace fr := fr.below b (Nat.le_refl _)
  replace fp := fp.below b (Nat.le_refl _)
  replace fn := fn.below b (Nat.le_refl _)
  replace fm := fm.below b (Nat.le_refl _)
  replace bel := below_trans bel b
  clear b
  clear x1 x2 fr
  have bl := below_lit v7 #[.int .u32 1000] 44
  have x1 := can_cells v7 _ rfl [1000] 1 rfl (dig_lit _ (by decide)) #[.int .u32 1000] rfl 1000 (by decide) (by decide)
  have x2 := fp.below bl (Nat.le_refl _)
  have h := Lib.hid (num_same_true _ _ _ _ _ _ _ _ _ x2 x1 rfl (by have := x2.len_le 1 (by decide); omega) (by omega))
  go_wp2_with fail
  with_reducible refine (h.out).mono ?_
  rintro e w' ⟨rfl, q, rfl⟩
  have b := below_trans bl (below_drewN (Below.refl _ _) q)
  generalize World.drewN (v7.alloc (.cells #[.int .u32 1000] 44)) q = v8 at *
  clear h bl
  replace hT := hT.below b (Nat.le_refl _)
  replace fp := fp.below b (Nat.le_refl _)
  replace fn := fn.below b (Nat.le_refl _)
  replace fm := fm.below b (Nat.le_refl _)
  replace bel := below_trans bel b
  clear b
  clear x1 x2 fp
  have bl := below_lit v8 #[.int .u32 0, .int .u32 1] 44
  have x1 := can_cells v8 _ rfl [0, 1] 2 rfl (dig_lit _ (by decide)) #[.int .u32 0, .int .u32 1] rfl 4294967296 (by decide) (by decide)
  have x2 := fn.below bl (Nat.le_refl _)
  have h := Lib.hid (num_same_true _ _ _ _ _ _ _ _ _ x2 x1 rfl (by have := x2.len_le 2 (by decide); omega) (by omega))
  go_wp2_with fail
  with_reducible refine (h.out).mono ?_
  rintro e w' ⟨rfl, q, rfl⟩
  have b := below_trans bl (below_drewN (Below.refl _ _) q)
  generalize World.drewN (v8.alloc (.cells #[.int .u32 0, .int .u32 1] 44)) q = v9 at *
  clear h bl
  replace hT := hT.below b (Nat.le_refl _)
  replace fn := fn.below b (Nat.le_refl _)
  replace fm := fm.below b (Nat.le_refl _)
  replace bel := below_trans bel b
  clear b
  clear x1 x2 fn
  have bl := below_lit v9 #[.int .u32 256] 44
  have x1 := can_cells v9 _ rfl [256] 1 rfl (dig_lit _ (by decide)) #[.int .u32 256] rfl 256 (by decide) (by decide)
  have x2 := fm.below bl (Nat.le_refl _)
  have h := Lib.hid (num_same_true _ _ _ _ _ _ _ _ _ x2 x1 rfl (by have := x2.len_le 1 (by decide); omega) (by omega))
  go_wp2_with fail
  with_reducible refine (h.out).mono ?_
  rintro e w' ⟨rfl, q, rfl⟩
  have b := below_trans bl (below_drewN (Below.refl _ _) q)
  generalize World.drewN (v9.alloc (.cells #[.int .u32 256] 44)) q = v10 at *
  clear h bl
  replace hT := hT.below b (Nat.le_refl _)
  replace fm := fm.below b (Nat.le_refl _)
  replace bel := below_trans bel b
  clear b
  clear x1 x2 fm
  have x1 := num_cells v10 _ rfl [7, 0] 2 rfl (dig_lit _ (by decide)) #[.int .u32 7, .int .u32 0] rfl 7 (by decide)
  have bl := below_lit v10 #[.int .u32 7, .int .u32 0] 44
  have h := Lib.hid (num_digits _ _ _ _ _ x1 (by omega))
  go_wp2_with fail
  with_reducible refine (h.out).mono ?_
  rintro e v11 ⟨rfl, b0⟩
  have b := below_trans bl b0
  clear b0
  clear h bl
  replace hT := hT.below b (Nat.le_refl _)
  replace bel := below_trans bel b
  clear b
  clear x1
  have D1 := dec_lit
  have x1 := num_cells v11 _ rfl [65536] 1 rfl (dig_lit _ (by decide)) #[.int .u32 65536] rfl 65536 (by decide)
  have bl := below_lit v11 #[.int .u32 65536] 44
  have h := Lib.hid (num_bytes _ _ _ _ _ x1 (by omega))
  go_wp2_with fail
  with_reducible refine (h.out).mono ?_
  rintro e v12 ⟨rfl, b0⟩
  have b := below_trans bl b0
  clear b0
  clear h bl
  replace hT := hT.below b (Nat.le_refl _)
  replace bel := below_trans bel b
  clear b
  clear x1
  have D2 := byt_lit
  have x1 := num_cells v12 _ rfl [12] 1 rfl (dig_lit _ (by decide)) #[.int .u32 12] rfl 12 (by decide)
  have y1 := below_lit (v12.alloc (.cells #[.int .u32 12] 44)) #[.int .u32 18] 44
  have x2 := num_cells (v12.alloc (.cells #[.int .u32 12] 44)) (v12.heap.size + 1) (by simp) [18] 1 rfl (dig_lit _ (by decide)) #[.int .u32 18] rfl 18 (by decide)
  have bl := below_trans (below_lit v12 #[.int .u32 12] 44) y1
  have x3 := x1.below y1 (Nat.le_refl _)
  clear y1
  have h := Lib.hid (num_gcd _ _ _ _ _ _ _ _ _ x3 x2 (by omega) (by omega))
  go_wp2_with fail
  with_reducible refine (h.out).mono ?_
  rintro e v13 ⟨gd, gn, gc, rfl, fg, b0⟩
  have b := below_trans bl b0
  clear b0
  clear h bl
  replace hT := hT.below b (Nat.le_refl _)
  replace bel := below_trans bel b
  clear b
  rw [gcd_lit] at fg
  clear x1 x2 x3
  have bl := below_lit v13 #[.int .u32 6] 44
  have x1 := can_cells v13 _ rfl [6] 1 rfl (dig_lit _ (by decide)) #[.int .u32 6] rfl 6 (by decide) (by decide)
  have x2 := fg.below bl (Nat.le_refl _)
  have h := Lib.hid (num_same_true _ _ _ _ _ _ _ _ _ x2 x1 rfl (by have := x2.len_le 1 (by decide); omega) (by omega))
  go_wp2_with fail
  with_reducible refine (h.out).mono ?_
  rintro e w' ⟨rfl, q, rfl⟩
  have b := below_trans bl (below_drewN (Below.refl _ _) q)
  generalize World.drewN (v13.alloc (.cells #[.int .u32 6] 44)) q = v14 at *
  clear h bl
  replace hT := hT.below b (Nat.le_refl _)
  replace fg := fg.below b (Nat.le_refl _)
  replace bel := below_trans bel b
  clear b
  clear x1 x2 fg
  go_wp2_with fail
  go_ret
  exact ⟨rfl, bel⟩
end Go.Proofs.YtbcbmkeeoognpaaGreatDoor


/- cruciblelaw03.lives. (Printed by lives3.py.) -/
namespace Go.Proofs.YtbcbmkeeoognpaaGreatDoor
open Go.RowKit

/-- As RetQuo, signs and sizes by name. -/
def RetQuoR (r1 : Bool) (A1 : Int) (r2 : Bool) (A2 : Int) (ok : Bool) (w : World) (e : Ending) (w' : World) : Prop :=
  ∃ ad n c ad2 n2 c2, e = .returned (.tuple #[.agg #[.bool r1, .slice ad n c], .agg #[.bool r2, .slice ad2 n2 c2], .bool ok]) ∧ Can w' ad n c A1 ∧ Can w' ad2 n2 c2 A2 ∧ Below w.heap.size w w'
theorem RetQuo.named {Q R : Int} {ok : Bool} {r1 r2 : Bool} {A1 A2 : Int} (h1 : decide (Q < 0) = r1) (h2 : (Q.natAbs : Int) = A1) (h3 : decide (R < 0) = r2) (h4 : (R.natAbs : Int) = A2) {w : World} {e : Ending} {w' : World} (h : RetQuo Q R ok w e w') : RetQuoR r1 A1 r2 A2 ok w e w' := by
  obtain ⟨ad, n, c, ad2, n2, c2, e1, q1, q2, q3⟩ := h
  rw [h1, h3] at e1
  rw [h2] at q1
  rw [h4] at q2
  exact ⟨ad, n, c, ad2, n2, c2, e1, q1, q2, q3⟩
def RetIntRB (r : Bool) (A : Int) (ok : Bool) (w : World) (e : Ending) (w' : World) : Prop :=
  ∃ ad n c, e = .returned (.tuple #[.agg #[.bool r, .slice ad n c], .bool ok]) ∧ Can w' ad n c A ∧ Below w.heap.size w w'
theorem RetIntB.named {N : Int} {ok r : Bool} {A : Int} (h1 : decide (N < 0) = r) (h2 : (N.natAbs : Int) = A) {w : World} {e : Ending} {w' : World} (h : RetIntB N ok w e w') : RetIntRB r A ok w e w' := by
  obtain ⟨ad, n, c, e1, q1, q2⟩ := h
  rw [h1] at e1
  rw [h2] at q1
  exact ⟨ad, n, c, e1, q1, q2⟩
/-- A number of one limb. -/
theorem Can.one {w : World} {ad : Option Addr} {n c : Nat} {V : Int} (h : Can w ad n c V) (hV : 0 < V ∧ V < 4294967296) : n = 1 := by
  have h1 := h.len_le 1 (by omega)
  have h2 := h.zero_iff (by omega)
  omega

end Go.Proofs.YtbcbmkeeoognpaaGreatDoor


/- Whole numbers as words on values; the contracts of package whole and of the statements' helpers by them. -/
namespace Go.Proofs.YtbcbmkeeoognpaaGreatDoor
open Go Go.RowKit

theorem Rds.mv {w w' : World} {B B' : Bx} (h : Mv w B w' B') {k : IntKind} (hk : k = .u32 ∨ k = .u8) {ad : Option Addr} {n : Nat} {xs : List Int} (r : Rds w k ad n xs) : Rds w' k ad n xs := by
  refine ⟨r.len, fun j hj => ?_⟩
  obtain ⟨a, e, hc⟩ := r.cell j hj
  refine ⟨a, e, ?_⟩
  have hl := World.block_lt_of_cell? w _ hc
  rcases h.same _ hl with h1 | ⟨_, h2⟩
  · rw [← hc]; exact World.cell?_of_block h1
  · exact absurd hc (h2 _ k _ rfl hk)
def LIM : Nat := 274877906944
theorem lim_eq : LIM = 274877906944 := rfl
/-- N has at most k limbs. -/
def FitK (k : Nat) (N : Int) : Prop := (N.natAbs : Int) < 4294967296 ^ k
def Fits (N : Int) : Prop := ∃ k, k ≤ LIM ∧ FitK k N
theorem FitK.fits {k : Nat} {N : Int} (h : FitK k N) (hk : k ≤ 274877906944) : Fits N := ⟨k, hk, h⟩
theorem FitK.mono {k m : Nat} {N : Int} (h : FitK k N) (hk : k ≤ m) : FitK m N := Int.lt_of_lt_of_le h (pow_le (by omega) hk)
theorem FitK.neg {k : Nat} {N : Int} (h : FitK k N) : FitK k (-N) := by unfold FitK at *; rwa [Int.natAbs_neg]
theorem FitK.add {k m : Nat} {N M : Int} (h : FitK k N) (h' : FitK m M) : FitK (k + m + 1) (N + M) := by
  unfold FitK at *
  have := pow_add_lt _ _ _ _ h h'
  omega
theorem FitK.sub {k m : Nat} {N M : Int} (h : FitK k N) (h' : FitK m M) : FitK (k + m + 1) (N - M) := by
  have := h.add h'.neg
  rwa [← Int.sub_eq_add_neg] at this
theorem FitK.mul {k m : Nat} {N M : Int} (h : FitK k N) (h' : FitK m M) : FitK (k + m) (N * M) := by
  unfold FitK at *
  rw [Int.natAbs_mul, Int.natCast_mul]
  exact pow_mul_lt _ _ _ _ (by omega) (by omega) h h'
theorem FitK.small {N : Int} (h : N.natAbs < 4294967296) : FitK 1 N := by unfold FitK; rw [Int.pow_one]; omega
theorem FitK.i64 {N : Int} (h : -9223372036854775808 ≤ N ∧ N < 9223372036854775808) : FitK 2 N := by
  unfold FitK
  have : (4294967296 : Int) ^ 2 = 18446744073709551616 := rfl
  omega
theorem FitK.le {k : Nat} {N M : Int} (h : FitK k N) (hM : M.natAbs ≤ N.natAbs) : FitK k M := by unfold FitK at *; omega

def PI (L : Nat) (N : Int) (v : Value) (w : World) (B : Bx) : Prop := ∃ ad n c, v = .agg #[.bool (decide (N < 0)), .slice ad n c] ∧ Can w ad n c (N.natAbs : Int) ∧ n ≤ L
/-- The number N in normal form. -/
def IsI (N : Int) : VP := ⟨PI LIM N, fun v w B w' B' h hp => by
  obtain ⟨ad, n, c, e, k, l⟩ := hp
  exact ⟨ad, n, c, e, ⟨k.le, k.rds.mv h (.inl rfl)⟩, l⟩⟩
def PN (N : Int) (v : Value) (w : World) (B : Bx) : Prop := ∃ ng ad n c V, v = .agg #[.bool ng, .slice ad n c] ∧ Num w ad n c V ∧ n ≤ LIM ∧ N = sI ng V
/-- The number N. -/
def IsN (N : Int) : VP := ⟨PN N, fun v w B w' B' h hp => by
  obtain ⟨ng, ad, n, c, V, e, k, l, hN⟩ := hp
  obtain ⟨xs, h1, h2, h3⟩ := k.row
  exact ⟨ng, ad, n, c, V, e, ⟨k.le, xs, h1.mv h (.inl rfl), h2, h3⟩, l, hN⟩⟩
def PArg (ng : Bool) (n : Nat) (xs : List Int) (v : Value) (w : World) (B : Bx) : Prop := ∃ ad c, v = .agg #[.bool ng, .slice ad n c] ∧ Arg w ad n c xs
/-- What was handed in. -/
def IsArg (ng : Bool) (n : Nat) (xs : List Int) : VP := ⟨PArg ng n xs, fun v w B w' B' h hp => by
  obtain ⟨ad, c, e, k⟩ := hp
  exact ⟨ad, c, e, ⟨k.le, k.rds.mv h (.inl rfl), k.dig⟩⟩⟩
theorem Shape.two {n : Nat} {D : VP} (h : Shape n D) (v : Value) (w : World) (B : Bx) (hp : D.p v w B) : ∃ cs, v = .agg cs ∧ cs.size = n := by
  obtain ⟨cs, e, hn, _⟩ := h v w B hp
  exact ⟨cs, e, hn⟩
theorem RetInt.con {N : Int} {w : World} {B : Bx} {e : Ending} {w' : World} (hN : Fits N) (h : RetInt N w e w') : ∃ v, e = .returned v ∧ (IsI N).p v w' B ∧ Below w.heap.size w w' := by
  obtain ⟨ad, n, c, rfl, k, hb⟩ := h
  obtain ⟨q, hq, hf⟩ := hN
  exact ⟨_, rfl, ⟨ad, n, c, rfl, k, Nat.le_trans (k.len_le q hf) hq⟩, hb⟩
theorem RetBB.con {r : Bool} {w : World} {B : Bx} {e : Ending} {w' : World} (h : RetBB r w e w') : ∃ v, e = .returned v ∧ (IsB r).p v w' B ∧ Below w.heap.size w w' := ⟨_, h.1, rfl, h.2⟩
theorem PN.fit {N : Int} {v : Value} {w : World} {B : Bx} (h : (IsN N).p v w B) : Fits N := by
  obtain ⟨ng, ad, n, c, V, e, k, l, rfl⟩ := h
  refine ⟨n, l, ?_⟩
  unfold FitK
  rw [sI_abs ng V k.nonneg]
  exact k.lt
theorem PArg.fit {ng : Bool} {n : Nat} {xs : List Int} {X : Int} {v : Value} {w : World} {B : Bx} (hX : sI ng (val 4294967296 xs) = X) (h : (IsArg ng n xs).p v w B) : FitK n X := by
  obtain ⟨ad, c, e, k⟩ := h
  unfold FitK
  rw [← hX, sI_abs ng _ k.nonneg]
  exact k.lt
section
variable {need : List (Tmp × FD)} {d : Option Tmp} {ty : TypeId} {pos : String} {af : Array Edge} {g : Option (Nat × Bool)}
end
end Go.Proofs.YtbcbmkeeoognpaaGreatDoor


/- Parts of whole numbers; natural numbers as words on values; the contracts of crucibleref01 by them. -/
namespace Go.Proofs.YtbcbmkeeoognpaaGreatDoor
open Go Go.RowKit

def PM (V : Int) (v : Value) (w : World) (B : Bx) : Prop := ∃ ad n c, v = .slice ad n c ∧ Num w ad n c V ∧ n ≤ LIM
/-- A list of worth V. -/
def IsM (V : Int) : VP := ⟨PM V, fun v w B w' B' h hp => by
  obtain ⟨ad, n, c, e, k, l⟩ := hp
  obtain ⟨xs, h1, h2, h3⟩ := k.row
  exact ⟨ad, n, c, e, ⟨k.le, xs, h1.mv h (.inl rfl), h2, h3⟩, l⟩⟩
def PC (V : Int) (v : Value) (w : World) (B : Bx) : Prop := ∃ ad n c, v = .slice ad n c ∧ Can w ad n c V ∧ n ≤ LIM ∧ 0 ≤ V
/-- The list of the number V. -/
def IsC (V : Int) : VP := ⟨PC V, fun v w B w' B' h hp => by
  obtain ⟨ad, n, c, e, k, l, hV⟩ := hp
  exact ⟨ad, n, c, e, ⟨k.le, k.rds.mv h (.inl rfl)⟩, l, hV⟩⟩
theorem weakCM {V : Int} (v : Value) (w : World) (B : Bx) (h : (IsC V).p v w B) : (IsM V).p v w B := by
  obtain ⟨ad, n, c, e, k, l, hV⟩ := h
  exact ⟨ad, n, c, e, k.num hV, l⟩
theorem weakNilM (v : Value) (w : World) (B : Bx) (h : (Lit (.slice none 0 0)).p v w B) : (IsC 0).p v w B := by
  obtain rfl := h
  refine ⟨none, 0, 0, rfl, ⟨Nat.le_refl _, ?_⟩, Nat.zero_le _, Int.le_refl _⟩
  rw [dg_zero]
  exact Rds.nil _ _ _
theorem PM.nonneg {V : Int} {v : Value} {w : World} {B : Bx} (h : (IsM V).p v w B) : 0 ≤ V := by
  obtain ⟨ad, n, c, e, k, l⟩ := h
  exact k.nonneg
theorem PM.fit {V : Int} {v : Value} {w : World} {B : Bx} (h : (IsM V).p v w B) : Fits V := by
  have h0 := PM.nonneg h
  obtain ⟨ad, n, c, e, k, l⟩ := h
  refine ⟨n, l, ?_⟩
  unfold FitK
  have := k.lt
  omega
section
variable {need : List (Tmp × FD)} {d : Option Tmp} {ty : TypeId} {pos : String} {af : Array Edge} {g : Option (Nat × Bool)} {x : Operand} {D : VP}
theorem len_run (ad : Option Addr) (n c : Nat) (ρ : Operand → Value) (w : World) (hx : ρ x = .slice ad n c) : (execOp ρ ⟨d, .call { callee := .builtin .len, args := #[x], argTypes := #[23] }, 3, pos, af, g⟩).run Tryz.prog w = .ok (.value (.int .i64 n)) w := by
  unfold execOp
  simp only [hx, resolve, List.map_toArray, List.map_cons, List.map_nil]
  go_simp
end

theorem FitK.sI {k : Nat} {V : Int} {b : Bool} (h : FitK k V) : FitK k (sI b V) := by
  cases b
  · exact h
  · exact h.neg

theorem RetC.con {V : Int} {w : World} {B : Bx} {e : Ending} {w' : World} (hV : 0 ≤ V) (hN : Fits V) (h : RetC V w e w') : ∃ v, e = .returned v ∧ (IsC V).p v w' B ∧ Below w.heap.size w w' := by
  obtain ⟨ad, n, c, rfl, k, hb⟩ := h
  obtain ⟨q, hq, hf⟩ := hN
  unfold FitK at hf
  exact ⟨_, rfl, ⟨ad, n, c, rfl, k, Nat.le_trans (k.len_le q (by omega)) hq, hV⟩, hb⟩
theorem con_radd (V U : Int) (hf : Fits (V + U)) : Con Tryz.prog 127 [IsM V, IsM U] (IsC (V + U)) := by
  refine ⟨fun _ _ => by go_simp, fun vs w B hB hV => ?_⟩
  match vs, hV with
  | [v, u], ⟨h1, h2, _⟩ =>
    have z1 := PM.nonneg h1
    have z2 := PM.nonneg h2
    obtain ⟨ad, n, c, rfl, k, l⟩ := h1
    obtain ⟨ad2, n2, c2, rfl, k2, l2⟩ := h2
    exact (num_radd ad ad2 n n2 c c2 V U w k k2 (by have := lim_eq; omega) (by have := lim_eq; omega)).mono fun e w' h => h.con (by omega) hf
theorem con_rmul (V U : Int) (hf : Fits (V * U)) : Con Tryz.prog 128 [IsM V, IsM U] (IsC (V * U)) := by
  refine ⟨fun _ _ => by go_simp, fun vs w B hB hV => ?_⟩
  match vs, hV with
  | [v, u], ⟨h1, h2, _⟩ =>
    have z1 := PM.nonneg h1
    have z2 := PM.nonneg h2
    obtain ⟨ad, n, c, rfl, k, l⟩ := h1
    obtain ⟨ad2, n2, c2, rfl, k2, l2⟩ := h2
    exact (num_rmul ad ad2 n n2 c c2 V U w k k2 (by have := lim_eq; omega) (by have := lim_eq; omega)).mono fun e w' h => h.con (Int.mul_nonneg z1 z2) hf
theorem con_rnorm (V : Int) : Con Tryz.prog 125 [IsM V] (IsC V) := by
  refine ⟨fun _ _ => by go_simp, fun vs w B hB hV => ?_⟩
  match vs, hV with
  | [v], ⟨h1, _⟩ =>
    have z1 := PM.nonneg h1
    have hf := PM.fit h1
    obtain ⟨ad, n, c, rfl, k, l⟩ := h1
    exact (num_rnorm ad n c V w k (by have := lim_eq; omega)).mono fun e w' h => h.con z1 hf
theorem con_rlen (V : Int) : Con Tryz.prog 118 [IsM V] (Lit (.int .i64 (bitsOf V))) := by
  refine ⟨fun _ _ => by go_simp, fun vs w B hB hV => ?_⟩
  match vs, hV with
  | [v], ⟨h1, _⟩ =>
    obtain ⟨ad, n, c, rfl, k, l⟩ := h1
    exact (num_rlen ad n c V w k (by have := lim_eq; omega)).mono fun e w' h => ⟨_, h.1, rfl, h.2⟩
end Go.Proofs.YtbcbmkeeoognpaaGreatDoor


/- crucibleref03: Neg Add Sub Mul. (Printed by flowfn.py.) -/
namespace Go.Proofs.YtbcbmkeeoognpaaGreatDoor
open Go Go.RowKit

end Go.Proofs.YtbcbmkeeoognpaaGreatDoor


/- Texts of whole numbers: there and back. -/
namespace Go.Proofs.YtbcbmkeeoognpaaGreatDoor
open Go Go.RowKit

theorem fit_of_len {V : Int} (h0 : 0 ≤ V) {k : Nat} (h : (dg 4294967296 V).length ≤ k) : FitK k V := by
  unfold FitK
  have hd : Dig 4294967296 (dg 4294967296 V) := dg_dig 4294967296 (by omega) _
  have h1 := val_lt (by omega) hd
  have h2 : val 4294967296 (dg 4294967296 V) = V := val_dg 4294967296 (by omega) V h0
  have h3 : (4294967296 : Int) ^ (dg 4294967296 V).length ≤ 4294967296 ^ k := pow_le (by omega) h
  omega
theorem readV_nn (cs : List Int) (h : Decs cs) : 0 ≤ readV cs := by have := readV_nonneg cs h cs.length; rwa [readV_full] at this
theorem fit_zero (k : Nat) : FitK k 0 := by unfold FitK; show (0 : Int) < _; exact Int.pow_pos (by omega)
theorem read_fit (cs : List Int) : FitK 262144 (readNum cs) := by
  unfold readNum
  split
  · rename_i h
    obtain ⟨h1, h2, h3, h4⟩ := of_decide_eq_true h
    exact fit_of_len (readV_nn cs h3) h4
  · exact fit_zero _
section
variable {need : List (Tmp × FD)} {d : Option Tmp} {ty : TypeId} {pos : String} {af : Array Edge} {g : Option (Nat × Bool)} {x : Operand}
end
end Go.Proofs.YtbcbmkeeoognpaaGreatDoor


/- R3cmp. (Printed by flowfn.py.) -/
namespace Go.Proofs.YtbcbmkeeoognpaaGreatDoor
open Go Go.RowKit

theorem lit_int {A N : Int} {k : IntKind} (e : A = N) {v : Value} {w : World} {B : Bx} (h : (Lit (.int k A)).p v w B) : (Lit (.int k N)).p v w B := e ▸ h

end Go.Proofs.YtbcbmkeeoognpaaGreatDoor


/- Texts in the document's way: lists of one limb, lengths of lists; the contract of crucibleref02.Digits; what Read takes. -/
namespace Go.Proofs.YtbcbmkeeoognpaaGreatDoor
open Go Go.RowKit

section
variable {need : List (Tmp × FD)} {d : Option Tmp} {ty : TypeId} {pos : String} {af : Array Edge} {g : Option (Nat × Bool)} {x : Operand}
set_option maxRecDepth 50000 in
theorem ok_nat1 {i : Int} (hi : 0 ≤ i ∧ i < 4294967296) (h : Opd need x (.val (Lit (.int .u32 i)))) : OpOk Tryz.prog ⟨d, .buildSlice 23 1 #[(0, x)], ty, pos, af, g⟩ need (.val (IsM i)) false := by
  intro Q K a w B hB hF hK
  have e : a.eval x = .int .u32 i := h a w B hF
  have hbel : Below w.heap.size w (w.alloc (.cells #[.int .u32 i] 44)) := (Below.refl _ _).alloc (Nat.le_refl _) _
  have hr : (execOp a.eval ⟨d, .buildSlice 23 1 #[(0, x)], ty, pos, af, g⟩).run Tryz.prog w = .ok (.value (.slice (some ⟨w.heap.size, 0, none⟩) 1 1)) (w.alloc (.cells #[.int .u32 i] 44)) := by
    simp only [execOp, e, List.map_toArray, List.map_cons, List.map_nil]
    go_simp
  unfold Oper.wp
  rw [hr]
  refine hK _ _ B ⟨_, 1, 1, rfl, ⟨by omega, [i], ⟨rfl, fun j hj => ⟨_, rfl, ?_⟩⟩, Dig.cons (by omega) (by omega) (Dig.nil _), by simp [val]⟩, by rw [lim_eq]; omega⟩ (Bl.of_below B hbel) hbel (fun k hk => Nat.lt_of_lt_of_le (hB k hk) hbel.size) (by simp)
  obtain rfl : j = 0 := by omega
  rw [plain_add, cell_row (heap_alloc_new w _)]
  rfl
theorem ok_lenC {V : Int} (h : Opd need x (.val (IsC V))) : OpOk Tryz.prog ⟨d, .call { callee := .builtin .len, args := #[x], argTypes := #[23] }, 3, pos, af, g⟩ need (.val (Lit (.int .i64 ((dg 4294967296 V).length : Int)))) false :=
  ok_via h fun ρ w B v ⟨ad, n, c, e, k, l, hV⟩ h1 => ⟨_, len_run ad n c ρ w (h1.trans e), by rw [show n = (dg 4294967296 V).length from k.rds.len.symm]; rfl⟩
end
theorem con_r2digits (V : Int) : Con Tryz.prog 31 [IsM V] (Lit (.string (strB (decL V)))) := by
  refine ⟨fun _ _ => by go_simp, fun vs w B hB hV => ?_⟩
  match vs, hV with
  | [v], ⟨h1, _⟩ =>
    obtain ⟨ad, n, c, rfl, k, l⟩ := h1
    exact (r2digits_calls ad n c V w k (by have := lim_eq; omega)).mono fun e w' h => ⟨_, h.1, rfl, h.2⟩

theorem bytes_at (s : ByteArray) (n : Nat) (hn : n < s.size) : s[n]?.map (fun b => (b.toNat : Int)) = some ((bytesI s)[n]?.getD 0) := by
  have h2 := bytesI_get s n hn
  rw [h2]
  simp [hn]
theorem fit_nat {V : Int} (h0 : 0 ≤ V) {k : Nat} (h : (dg 4294967296 V).length ≤ k) : FitK k V := fit_of_len h0 h
theorem readNum_no {cs : List Int} (h : readOk cs = false) : readNum cs = 0 := by unfold readNum; rw [h]; rfl
theorem readOk_nil : readOk [] = false := decide_eq_false fun h => h.1 rfl
theorem readOk_lead {cs : List Int} (h : cs[0]?.getD 0 = 48) (h1 : cs.length ≠ 1) : readOk cs = false := decide_eq_false fun hh => h1 (hh.2.1 h)
theorem readOk_not {cs : List Int} {i : Nat} (hi : i < cs.length) (h : cs[i]?.getD 0 < 48 ∨ 57 < cs[i]?.getD 0) : readOk cs = false := decide_eq_false fun hh => by
  have h2 : Decs cs := hh.2.2.1
  have := h2.get hi
  omega
theorem readOk_long {cs : List Int} (hd : Decs cs) (i : Nat) (h : 262144 < ((dg 4294967296 (readV (cs.take i))).length : Int)) : readOk cs = false := decide_eq_false fun hh => by
  have h2 := hh.2.2.2
  rcases Nat.lt_or_ge cs.length i with h3 | h3
  · rw [List.take_of_length_le (by omega)] at h; omega
  · have h4 := readV_mono cs hd i cs.length h3
    rw [readV_full] at h4
    have h5 := dg_mono _ _ (readV_nonneg cs hd i) h4
    omega
theorem readOk_yes {cs : List Int} (hd : Decs cs) (h0 : cs ≠ []) (h1 : cs[0]?.getD 0 = 48 → cs.length = 1) (h : (dg 4294967296 (readV cs)).length ≤ 262144) : readOk cs = true := decide_eq_true ⟨h0, h1, hd, h⟩
theorem readNum_yes {cs : List Int} (h : readOk cs = true) : readNum cs = readV cs := by unfold readNum; rw [h]; rfl
/-- The first i are digits. -/
def Dgs (cs : List Int) (i : Int) : Prop := ∀ j : Nat, (j : Int) < i → 48 ≤ cs[j]?.getD 0 ∧ cs[j]?.getD 0 ≤ 57
theorem dgs_zero (cs : List Int) : Dgs cs 0 := fun j hj => by omega
theorem dgs_step {cs : List Int} {i : Int} (h0 : 0 ≤ i) (h : Dgs cs i) (h1 : ¬ (cs[i.toNat]?.getD 0 < 48)) (h2 : ¬ (57 < cs[i.toNat]?.getD 0)) : Dgs cs (i + 1) := fun j hj => by
  rcases Int.lt_or_le (j : Int) i with h3 | h3
  · exact h j h3
  · obtain rfl : j = i.toNat := by omega
    omega
theorem dgs_all {cs : List Int} (h : Dgs cs cs.length) : Decs cs := fun c hc => by
  obtain ⟨j, hj, e⟩ := List.getElem_of_mem hc
  have := h j (by omega)
  rw [List.getElem?_eq_getElem hj, Option.getD_some, e] at this
  exact this
theorem readV_one {cs : List Int} {i : Int} (h0 : 0 ≤ i) (h : i < cs.length) : readV (cs.take i.toNat) * 10 + (cs[i.toNat]?.getD 0 - 48) = readV (cs.take (i + 1).toNat) := by
  rw [show (i + 1).toNat = i.toNat + 1 by omega, readV_take cs _ (by omega)]
theorem isC_eq {A N : Int} (e : A = N) {v : Value} {w : World} {B : Bx} (h : (IsC A).p v w B) : (IsC N).p v w B := e ▸ h
theorem isB_eq {A N : Bool} (e : A = N) {v : Value} {w : World} {B : Bx} (h : (IsB A).p v w B) : (IsB N).p v w B := e ▸ h
theorem dg_len_zero {V : Int} (h : 0 ≤ V) : ((dg 4294967296 V).length : Int) = 0 ↔ V = 0 := by
  constructor
  · intro e
    have h2 : dg 4294967296 V = [] := List.length_eq_zero_iff.1 (by omega)
    have := val_dg 4294967296 (by omega) V h
    rw [h2] at this
    exact this.symm
  · rintro rfl; rw [dg_zero]; rfl
end Go.Proofs.YtbcbmkeeoognpaaGreatDoor

