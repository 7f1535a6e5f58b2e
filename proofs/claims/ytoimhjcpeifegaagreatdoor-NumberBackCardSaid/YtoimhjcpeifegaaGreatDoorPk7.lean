/- Contracts of functions, and plain facts, part 7. -/
import Derived.Deep.QuietTactic
import Derived.BigQuiet
import Derived.Laws.Strings
import Derived.Test.YtoimhjcpeifegaaGreatDoorPk1
import Derived.Test.YtoimhjcpeifegaaGreatDoorPk4
import Derived.Test.YtoimhjcpeifegaaGreatDoorPk5
import Derived.Test.YtoimhjcpeifegaaGreatDoorPk6
set_option linter.unusedVariables false
set_option linter.unusedSimpArgs false
/- nat.Cmp: -1, 0 or 1. -/
namespace Go.Proofs.YtoimhjcpeifegaaGreatDoor
open Go.RowKit

theorem cmpI_of_lists (xs zs : List Int) (dx : Dig 4294967296 xs) (dz : Dig 4294967296 zs) (nx : norm xs = xs) (nz : norm zs = zs) (h : xs.length ≠ zs.length) :
    cmpI xs.length zs.length = cmpI (val 4294967296 xs) (val 4294967296 zs) := by
  rcases Nat.lt_or_ge xs.length zs.length with h1 | h1
  · rw [cmpI_lt (by omega), cmpI_lt (lt_of_len (by omega) dx dz nz h1)]
  · rw [cmpI_gt (by omega), cmpI_gt (lt_of_len (by omega) dz dx nx (by omega))]

set_option maxHeartbeats 400000 in
theorem ncmp_calls (ad bd : Option Addr) (na nb ca cb : Nat) (la lb : List Int) (w : World) (hna : na ≤ 70368744177664) (hnb : nb ≤ 70368744177664) (hac : na ≤ ca) (hbc : nb ≤ cb)
    (ha : Rds w .u32 ad na la) (hb : Rds w .u32 bd nb lb) (da : Dig 4294967296 la) (db : Dig 4294967296 lb) :
    Calls Tryz.prog 114 #[.slice ad na ca, .slice bd nb cb] w (RetI (cmpI (val 4294967296 la) (val 4294967296 lb)) w) := by
  have rx := ha.norm
  have rz := hb.norm
  have dx := norm_dig da
  have dz := norm_dig db
  have hma := norm_length_le la
  have hnb' := norm_length_le lb
  rw [ha.len] at hma
  rw [hb.len] at hnb'
  have C1 := Lib.hid (cut_calls ad na ca la w (by omega) hac ha)
  have C2 := Lib.hid (cut_calls bd nb cb lb w (by omega) hbc hb)
  have N1 := Lib.hid (norm_norm la)
  have N2 := Lib.hid (norm_norm lb)
  rw [← val_norm 4294967296 la, ← val_norm 4294967296 lb]
  clear ha hb da db
  generalize norm la = xs at *
  generalize norm lb = zs at *
  obtain ⟨m, hm⟩ : ∃ m, xs.length = m := ⟨_, rfl⟩
  obtain ⟨n, hn⟩ : ∃ n, zs.length = n := ⟨_, rfl⟩
  rw [hm] at rx hma C1
  rw [hn] at rz hnb' C2
  have HM := Lib.hid hm
  have HN := Lib.hid hn
  clear hm hn
  by_cases hmn : m = n
  · subst hmn
    go_enter Tryz.func114, Tryz.ntmps114
    go_wp2_with fail
    refine (C1.out).mono ?_
    rintro e w' ⟨rfl, rfl⟩
    go_wp2_with fail
    refine (C2.out).mono ?_
    rintro e w' ⟨rfl, rfl⟩
    go_wp2_with fail
    go_loopw [23] (fun i wr => ∃ k : Nat, k ≤ m ∧ i = .int .i64 k ∧ Hid (val 4294967296 (xs.drop (m - k)) = val 4294967296 (zs.drop (m - k))) ∧ Hid (∃ q, wr = w.drewN q)) (fun i _ => m - (intOf i).toNat)
    case atStart => exact ⟨0, Nat.zero_le _, rfl, by rw [Nat.sub_zero, List.drop_of_length_le (by rw [HM.out]; exact Nat.le_refl _), List.drop_of_length_le (by rw [HN.out]; exact Nat.le_refl _)]; rfl, ⟨0, rfl⟩⟩
    case round =>
      obtain ⟨k, hk, rfl, hv, hq⟩ := hrel
      have rx' : Rds wr .u32 ad m xs := by obtain ⟨q, rfl⟩ := hq.out; exact rx.drewN q
      have rz' : Rds wr .u32 bd m zs := by obtain ⟨q, rfl⟩ := hq.out; exact rz.drewN q
      by_cases hkm : k < m
      · obtain ⟨a, rfl, hxl⟩ := rx'.cell (m - 1 - k) (by omega)
        obtain ⟨b, rfl, hzl⟩ := rz'.cell (m - 1 - k) (by omega)
        have L1 := Lib.hid (fun h : xs[m - 1 - k]?.getD 0 < zs[m - 1 - k]?.getD 0 => lt_at (b := 4294967296) (by omega) dx dz (m - 1 - k) (by rw [HM.out]; omega) (by rw [HN.out]; omega) (by rw [show m - 1 - k + 1 = m - k by omega]; exact hv.out) h)
        have L2 := Lib.hid (fun h : zs[m - 1 - k]?.getD 0 < xs[m - 1 - k]?.getD 0 => lt_at (b := 4294967296) (by omega) dz dx (m - 1 - k) (by rw [HN.out]; omega) (by rw [HM.out]; omega) (by rw [show m - 1 - k + 1 = m - k by omega]; exact hv.out.symm) h)
        have E := Lib.hid (fun h : xs[m - 1 - k]?.getD 0 = zs[m - 1 - k]?.getD 0 => show val 4294967296 (xs.drop (m - (k + 1))) = val 4294967296 (zs.drop (m - (k + 1))) by
          rw [show m - (k + 1) = m - 1 - k by omega, val_drop _ xs _ (by rw [HM.out]; omega), val_drop _ zs _ (by rw [HN.out]; omega), h, show m - 1 - k + 1 = m - k by omega, hv.out])
        clear hv rx rz rx' rz'
        have hi0 : (0 : Int) ≤ (m : Int) - 1 - k := by omega
        have hi1 : (m : Int) - 1 - k < m := by omega
        have hi2 : ((m : Int) - 1 - k).toNat = m - 1 - k := by omega
        generalize hgx : xs[m - 1 - k]?.getD 0 = x at *
        generalize hgz : zs[m - 1 - k]?.getD 0 = z at *
        clear hgx hgz
        rcases Int.lt_trichotomy x z with hxz | hxz | hxz
        · have HR := Lib.hid (cmpI_lt (L1.out hxz))
          have HC := Lib.hid (cmpI_lt hxz)
          have ht : (x != z) = true := by simp; omega
          go_wp2_with fail
          go_quiet (fail)
          have hxl2 : (wr.drewN nq).cell? (a.add (m - 1 - k)) = some (.int .u32 x) := hxl
          have hzl2 : (wr.drewN nq).cell? (b.add (m - 1 - k)) = some (.int .u32 z) := hzl
          have hq2 := Lib.hid (show ∃ q, wr.drewN nq = w.drewN q by obtain ⟨q, rfl⟩ := hq.out; exact ⟨_, World.drewN_drewN ..⟩)
          generalize wr.drewN nq = w2 at *
          go_wp2_with fail
          go_quiet ((go_at_call 163; exact quiet_left (compare_u32 x z _)))
          go_wp2
          go_ret
          rw [HR.out]
          obtain ⟨q, rfl⟩ := hq2.out
          exact ⟨by rw [← HC.out]; rfl, _, World.drewN_drewN ..⟩
        · subst hxz
          have ht : (x != x) = false := by simp
          go_wp2_with fail
          go_quiet (fail)
          go_wp2
          go_roundw
          case rel => exact ⟨k + 1, by omega, by go_num, E.out trivial, by obtain ⟨q, rfl⟩ := hq.out; exact ⟨_, World.drewN_drewN ..⟩⟩
          case measure => simp [intOf]; omega
        · have HR := Lib.hid (cmpI_gt (L2.out hxz))
          have HC := Lib.hid (cmpI_gt hxz)
          have ht : (x != z) = true := by simp; omega
          go_wp2_with fail
          go_quiet (fail)
          have hxl2 : (wr.drewN nq).cell? (a.add (m - 1 - k)) = some (.int .u32 x) := hxl
          have hzl2 : (wr.drewN nq).cell? (b.add (m - 1 - k)) = some (.int .u32 z) := hzl
          have hq2 := Lib.hid (show ∃ q, wr.drewN nq = w.drewN q by obtain ⟨q, rfl⟩ := hq.out; exact ⟨_, World.drewN_drewN ..⟩)
          generalize wr.drewN nq = w2 at *
          go_wp2_with fail
          go_quiet ((go_at_call 163; exact quiet_left (compare_u32 x z _)))
          go_wp2
          go_ret
          rw [HR.out]
          obtain ⟨q, rfl⟩ := hq2.out
          exact ⟨by rw [← HC.out]; rfl, _, World.drewN_drewN ..⟩
      · obtain rfl : k = m := by omega
        have HR := Lib.hid (cmpI_eq (show val 4294967296 xs = val 4294967296 zs by have := hv.out; simpa using this))
        go_wp2
        go_ret
        rw [HR.out]
        exact ⟨rfl, hq.out⟩
  · have HR := Lib.hid (cmpI_of_lists xs zs dx dz N1.out N2.out (by rw [HM.out, HN.out]; exact hmn))
    rw [HM.out, HN.out] at HR
    have ht : ((m : Int) != (n : Int)) = true := by simp; omega
    go_enter Tryz.func114, Tryz.ntmps114
    go_wp2_with fail
    refine (C1.out).mono ?_
    rintro e w' ⟨rfl, rfl⟩
    go_wp2_with fail
    refine (C2.out).mono ?_
    rintro e w' ⟨rfl, rfl⟩
    go_wp2_with fail
    refine (compare_int m n w).mono ?_
    rintro e w' ⟨rfl, rfl⟩
    go_wp2
    go_ret
    rw [← HR.out]
    exact ⟨rfl, 0, rfl⟩
end Go.Proofs.YtoimhjcpeifegaaGreatDoor


/- crucibleref01.Cmp: -1, 0 or 1. -/
namespace Go.Proofs.YtoimhjcpeifegaaGreatDoor
open Go.RowKit
end Go.Proofs.YtoimhjcpeifegaaGreatDoor


/- crucibleref01.Norm: the number without noughts at its end. -/
namespace Go.Proofs.YtoimhjcpeifegaaGreatDoor
open Go.RowKit
end Go.Proofs.YtoimhjcpeifegaaGreatDoor


/- nat.Len: how many bits it has. -/
namespace Go.Proofs.YtoimhjcpeifegaaGreatDoor
open Go.RowKit

/-- How many bits a whole number not below 0 has, as an int. -/
def bitsOf (V : Int) : Int := blen V.toNat

theorem nlen_calls (ad : Option Addr) (n c : Nat) (la : List Int) (w : World) (hn : n ≤ 70368744177664) (hnc : n ≤ c) (hr : Rds w .u32 ad n la) (da : Dig 4294967296 la) :
    Calls Tryz.prog 86 #[.slice ad n c] w fun e w' => e = .returned (.int .i64 (bitsOf (val 4294967296 la))) ∧ w = w' := by
  have hc := Lib.hid (cut_calls ad n c la w (by omega) hnc hr)
  have rx := hr.norm
  have dx := norm_dig da
  have hN := norm_norm la
  have hma := norm_length_le la
  rw [hr.len] at hma
  rw [← val_norm 4294967296 la]
  clear hr da
  generalize norm la = xs at *
  obtain ⟨m, hm⟩ : ∃ m, xs.length = m := ⟨_, rfl⟩
  rw [hm] at hc rx hma
  by_cases h0 : m = 0
  · subst h0
    have HB := Lib.hid (show bitsOf (val 4294967296 xs) = 0 by rw [List.eq_nil_of_length_eq_zero hm]; rfl)
    clear hN hm
    go_enter Tryz.func86, Tryz.ntmps86
    go_wp2_with fail
    refine (hc.out).mono ?_
    rintro e w' ⟨rfl, rfl⟩
    go_wp2
    go_ret
    rw [HB.out]
    exact ⟨rfl, rfl⟩
  · obtain ⟨t, rfl⟩ : ∃ t, m = t + 1 := ⟨m - 1, by omega⟩
    have bx := dx.get (by omega) t
    have hl := len32_calls (xs[t]?.getD 0) w bx.1 (by omega)
    have hB := bitLen_blen (xs[t]?.getD 0).toNat (by omega)
    have hb2 := Lib.bitLen_le (xs[t]?.getD 0).toNat 32 (by omega) (by omega)
    have HB := Lib.hid (show bitsOf (val 4294967296 xs) = 32 * (t : Int) + (Lib.bitLen (xs[t]?.getD 0).toNat : Nat) by
      unfold bitsOf
      rw [blen_list 32 4294967296 (by decide) xs dx hN t hm, hB]
      simp)
    have hl' := Lib.hid hl
    clear hN hm hl hB h0
    obtain ⟨a, rfl, hxl⟩ := rx.cell t (by omega)
    generalize xs[t]?.getD 0 = x at *
    generalize Lib.bitLen x.toNat = q at *
    have hmm : ((((t + 1 : Nat) : Int)) == 0) = false := by simp; omega
    go_enter Tryz.func86, Tryz.ntmps86
    go_wp2_with fail
    refine (hc.out).mono ?_
    rintro e w' ⟨rfl, rfl⟩
    go_wp2_with fail
    refine (hl'.out).mono ?_
    rintro e w' ⟨rfl, rfl⟩
    go_wp2
    go_ret
    rw [HB.out]
    exact ⟨rfl, rfl⟩
end Go.Proofs.YtoimhjcpeifegaaGreatDoor


/- Shifts of lists of digits, place by place: plain facts. -/
namespace Go.Proofs.YtoimhjcpeifegaaGreatDoor

/-- Is there a number 2^n times V, as Shl counts? -/
def shlOk (V n : Int) : Bool := decide (0 ≤ n ∧ (V = 0 ∨ n ≤ 8388608 - (blen V.toNat : Nat)))
def shlNum (V n : Int) : Int := if shlOk V n then V * 2 ^ n.toNat else 0
/-- What Shr answers. -/
def shrNum (V n : Int) : Int := if 0 ≤ n then V / 2 ^ n.toNat else 0
def shrMore (V n : Int) : Bool := decide (0 ≤ n) && decide (V % 2 ^ n.toNat ≠ 0)

/-- What comes up from the place below. -/
def carryUp (b R : Int) (zs : List Int) (j : Nat) : Int := if j = 0 then 0 else zs[j - 1]?.getD 0 * R / b

theorem shl_step (b R : Int) (hb : 0 < b) (zs ys : List Int) (j : Nat) (hz : j < zs.length) (hy : j < ys.length)
    (E : val b (ys.drop (j + 1)) = R * val b (zs.drop (j + 1)) + carryUp b R zs (j + 1)) :
    val b ((ys.set j (zs[j]?.getD 0 * R % b + carryUp b R zs j)).drop j) = R * val b (zs.drop j) + carryUp b R zs j := by
  rw [val_drop b zs j hz, val_drop b (ys.set j _) j (by rw [List.length_set]; exact hy), List.getElem?_set_self hy, List.drop_set_of_lt (by omega), E]
  have e : carryUp b R zs (j + 1) = zs[j]?.getD 0 * R / b := by unfold carryUp; rw [if_neg (by omega)]; rfl
  rw [e]
  simp only [Option.getD_some]
  have h := Int.emod_add_mul_ediv (zs[j]?.getD 0 * R) b
  generalize zs[j]?.getD 0 * R / b = q at *
  generalize zs[j]?.getD 0 * R % b = r at *
  generalize hx : zs[j]?.getD 0 = x at *
  generalize val b (zs.drop (j + 1)) = Z at *
  generalize carryUp b R zs j = c at *
  have : r = x * R - b * q := by omega
  subst this
  grind

theorem shr_step (b R Q : Int) (hR : 0 < R) (hb : b = R * Q) (zs ys : List Int) (i : Nat) (hy : i < ys.length) (c0 : Int)
    (E : val b (ys.take i) * R + c0 = val b (zs.take i) + b ^ i * (zs[i]?.getD 0 % R)) :
    val b ((ys.set i (zs[i]?.getD 0 / R + zs[i + 1]?.getD 0 % R * Q)).take (i + 1)) * R + c0 = val b (zs.take (i + 1)) + b ^ (i + 1) * (zs[i + 1]?.getD 0 % R) := by
  rw [take_set_succ ys i _ hy, val_append, val_take_succ', Int.pow_succ, List.length_take, Nat.min_eq_left (by omega)]
  simp only [val, Int.mul_zero, Int.add_zero]
  have h := Int.emod_add_mul_ediv (zs[i]?.getD 0) R
  generalize zs[i]?.getD 0 = x at *
  generalize zs[i + 1]?.getD 0 % R = t at *
  generalize x / R = q at *
  generalize x % R = r at *
  generalize hP : b ^ i = P at *
  generalize val b (ys.take i) = Y at *
  generalize val b (zs.take i) = Z at *
  subst hb
  subst h
  grind
theorem split_div (lo P Z R : Int) (h0 : 0 ≤ lo) (h1 : lo < P) (hR : 0 < R) : (lo + P * Z) / (P * R) = Z / R ∧ (lo + P * Z) % (P * R) = lo + P * (Z % R) := by
  have hP : 0 < P := by omega
  have e : lo + P * Z = (lo + P * (Z % R)) + P * R * (Z / R) := by
    have := Int.emod_add_mul_ediv Z R
    generalize Z / R = q at *
    generalize Z % R = r at *
    subst this
    grind
  have b0 : 0 ≤ Z % R := Int.emod_nonneg _ (by omega)
  have b1 : Z % R + 1 ≤ R := Int.emod_lt_of_pos _ hR
  have c0 : 0 ≤ P * (Z % R) := Int.mul_nonneg (by omega) b0
  have c1 : P * (Z % R + 1) ≤ P * R := Int.mul_le_mul_of_nonneg_left b1 (by omega)
  rw [Int.mul_add] at c1
  have hPR : 0 < P * R := Int.mul_pos hP hR
  rw [e]
  constructor
  · rw [Int.add_mul_ediv_left _ _ (by omega), Int.ediv_eq_zero_of_lt (by omega) (by omega), Int.zero_add]
  · rw [Int.add_mul_emod_self_left, Int.emod_eq_of_lt (by omega) (by omega)]

end Go.Proofs.YtoimhjcpeifegaaGreatDoor


/- The operations on whole numbers of a kind and on texts, one law for each; loops. -/
namespace Go.Proofs.YtoimhjcpeifegaaGreatDoor
open Go Go.RowKit

theorem w_i64 {n : Int} (h : -9223372036854775808 ≤ n ∧ n < 9223372036854775808) : IntKind.i64.wrap n = n := by
  rw [IntKind.wrap_i64]; omega
theorem w_u64 {n : Int} (h : 0 ≤ n ∧ n < 18446744073709551616) : IntKind.u64.wrap n = n := by
  rw [IntKind.wrap_u64]; omega
theorem w_u32 {n : Int} (h : 0 ≤ n ∧ n < 4294967296) : IntKind.u32.wrap n = n := by
  rw [IntKind.wrap_u32]; omega
theorem w_u16 {n : Int} (h : 0 ≤ n ∧ n < 65536) : IntKind.u16.wrap n = n := by
  rw [IntKind.wrap_u16]; omega
section
variable {P : Program} {need : List (Tmp × FD)} {d : Option Tmp} {ty : TypeId} {pos : String} {af : Array Edge} {g : Option (Nat × Bool)} {x y : Operand} {k : IntKind} {i j r : Int} {t t' : TypeId}
theorem ok_add (h : Opd need x (.val (Lit (.int k i)))) (h' : Opd need y (.val (Lit (.int k j)))) (hr : k.wrap (i + j) = r) : OpOk P ⟨d, .binOp .add t x y t', ty, pos, af, g⟩ need (.val (Lit (.int k r))) false :=
  ok_lit2 h h' fun ρ w e1 e2 => by simp [execOp, e1, e2, eqGuard, binOp, Op.intArith, Sem.run_bind, hr]
theorem ok_sub (h : Opd need x (.val (Lit (.int k i)))) (h' : Opd need y (.val (Lit (.int k j)))) (hr : k.wrap (i - j) = r) : OpOk P ⟨d, .binOp .sub t x y t', ty, pos, af, g⟩ need (.val (Lit (.int k r))) false :=
  ok_lit2 h h' fun ρ w e1 e2 => by simp [execOp, e1, e2, eqGuard, binOp, Op.intArith, Sem.run_bind, hr]
theorem ok_conv {k' : IntKind} {q : TypeDesc} (hs : P.underlying t = some q) (ht : P.underlying t' = some (.int k')) (h : Opd need x (.val (Lit (.int k i)))) (hr : k'.wrap i = r) : OpOk P ⟨d, .convert t t' x, ty, pos, af, g⟩ need (.val (Lit (.int k' r))) false :=
  ok_lit1 h fun ρ w e1 => by
    simp [execOp, e1, convert, Sem.run_bind, run_underlying hs, run_underlying ht, Conv.intToInt, hr]
theorem ok_lenS {s : ByteArray} (hs : P.underlying t = some .string) (h : Opd need x (.val (Lit (.string s)))) : OpOk P ⟨d, .call { callee := .builtin .len, args := #[x], argTypes := #[t] }, ty, pos, af, g⟩ need (.val (Lit (.int .i64 s.size))) false :=
  ok_lit1 h fun ρ w e1 => by
    have hl : (Builtin.len_ #[t] ty #[.string s]).run P w = .ok (.int .i64 s.size) w := by
      simp [Builtin.len_, Sem.run_bind, run_underlying hs, goInt]
    simp [execOp, e1, resolve, invoke, builtin, Sem.run_bind, hl]
end

section
variable {P : Program} {Q : Exit → Act → World → Prop} {N : Nat} {w0 : World} {B0 : Bx} {bxs : List Tmp}
/-- A loop: F p is what holds at the head of a round, and I p; the round leads to some q that is smaller. -/
theorem f_loop {α : Type} (F : α → List (Tmp × FD)) (I : α → Prop) (m : α → Nat) {c : Code} (p : α) {a : Act} {w : World} {B : Bx} (H : St N w0 B0 a w B (F p) bxs) (hI : I p)
    (round : ∀ (p : α) (a : Act) (w : World) (B : Bx), I p → St N w0 B0 a w B (F p) bxs → c.wp P (Exit.then (fun a w => ∃ (q : α) (B : Bx), I q ∧ St N w0 B0 a w B (F q) bxs ∧ m q < m p) Q) a w) : (Code.loop c).wp P Q a w := by
  classical
  let J : Act → World → Prop := fun a w => ∃ (p : α) (B : Bx), I p ∧ St N w0 B0 a w B (F p) bxs
  let S : Act → World → Nat → Prop := fun a w n => ∃ (p : α) (B : Bx), I p ∧ St N w0 B0 a w B (F p) bxs ∧ m p = n
  have low : ∀ a w, J a w → ∃ n, S a w n ∧ ∀ k, k < n → ¬ S a w k := fun a w ⟨p, B, h0, h⟩ => least_of (S a w) ⟨m p, p, B, h0, h, rfl⟩
  let μ : Act → World → Nat := fun a w => if h : J a w then Classical.choose (low a w h) else 0
  refine wp_loop J μ ⟨p, B, hI, H⟩ ?_
  intro a w hJ
  have hμ : μ a w = Classical.choose (low a w hJ) := dif_pos hJ
  obtain ⟨⟨p, B, h0, h1, h2⟩, _⟩ := Classical.choose_spec (low a w hJ)
  refine Code.wp_mono ?_ (round p a w B h0 h1)
  intro e a' w' he
  cases e with
  | normal =>
    obtain ⟨q, B', h5, h3, h4⟩ := he
    have hJ' : J a' w' := ⟨q, B', h5, h3⟩
    refine ⟨hJ', ?_⟩
    have hμ' : μ a' w' = Classical.choose (low a' w' hJ') := dif_pos hJ'
    have hmin := (Classical.choose_spec (low a' w' hJ')).2
    rw [hμ, hμ', ← h2]
    refine Nat.lt_of_le_of_lt ?_ h4
    rcases Nat.lt_or_ge (m q) (Classical.choose (low a' w' hJ')) with h6 | h6
    · exact absurd ⟨q, B', h5, h3, rfl⟩ (hmin _ h6)
    · exact h6
  | _ => exact he
/-- Back, more than one answer. -/
inductive RetOk (P : Program) (l : List (Tmp × FD)) : List ResultVar → List VP → Prop where
  | nil : RetOk P l [] []
  | tmp {s : Tmp} {D D' : VP} {rs : List ResultVar} {Ds : List VP} (k : Nat) (hk : l[k]? = some (s, .val D)) (hw : ∀ v w B, D.p v w B → D'.p v w B) (t : RetOk P l rs Ds) : RetOk P l (.tmp s :: rs) (D' :: Ds)
  | cell {s : Tmp} {t : TypeId} {n : Nat} {D D' : VP} {rs : List ResultVar} {Ds : List VP} (k : Nat) (T : TyOk P t n) (hk : l[k]? = some (s, .box t n D)) (hw : ∀ v w B, D.p v w B → D'.p v w B) (tl : RetOk P l rs Ds) : RetOk P l (.cell s t :: rs) (D' :: Ds)
def resF (ts : Array Value) : ResultVar → Sem Value
  | .tmp t => pure (ts.getD t undef)
  | .cell b t => do loadVar t (← asAddr (ts.getD b undef))
theorem RetOk.run {a : Act} {w : World} {B : Bx} {l : List (Tmp × FD)} {rs : List ResultVar} {Ds : List VP} (h : RetOk P l rs Ds) (hf : Fct a w B l) : ∃ vs, (rs.mapM (resF a.tmps)).run P w = .ok vs w ∧ VAll vs Ds w B := by
  induction h with
  | nil => exact ⟨[], rfl, trivial⟩
  | @tmp s D D' rs Ds k hk hw t ih =>
    obtain ⟨vs, h1, h2⟩ := ih
    refine ⟨a.tmps.getD s undef :: vs, ?_, hw _ _ _ (hf.get k hk), h2⟩
    simp only [List.mapM_cons, resF, Sem.run_bind, Sem.run_pure, Result.andThen_ok, h1]
  | @cell s t n D D' rs Ds k T hk hw tl ih =>
    obtain ⟨vs, h1, h2⟩ := ih
    obtain ⟨b, cs, e1, e2, e3, e4, e5, e6⟩ := hf.get k hk
    obtain ⟨dd, hu, hd⟩ := T.row
    have := run_loadVar_row (P := P) w b t t cs (0, 0) dd e4 hu (by cases dd <;> simp_all) (by rw [T.size, e5])
    refine ⟨.agg cs :: vs, ?_, hw _ _ _ e6, h2⟩
    have ha : asAddr (a.tmps.getD s undef) = pure ⟨b, 0, none⟩ := by rw [e1]; rfl
    simp only [List.mapM_cons, resF, Sem.run_bind, ha, Sem.run_pure, Result.andThen_ok, this, h1]
theorem f_retN {a : Act} {w : World} {B : Bx} {l : List (Tmp × FD)} {fn : Func} {rs : List ResultVar} {Ds : List VP} (H : St N w0 B0 a w B l bxs) (hr : fn.results = rs.toArray) (hn : decide (rs.length = 1) = false) (h : RetOk P l rs Ds) :
    bodyPost P fn (fun e w' => ∃ v, e = .returned v ∧ (Tup Ds).p v w' B0 ∧ Below w0.heap.size w0 w') .ret a w := by
  obtain ⟨vs, h1, h2⟩ := h.run H.fc
  have hl : rs.length = vs.length := by
    clear h1 hn hr
    have : ∀ {rs : List ResultVar} {Ds : List VP}, RetOk P l rs Ds → rs.length = Ds.length := by
      intro rs Ds h
      induction h with
      | nil => rfl
      | tmp _ _ _ _ ih => simp [ih]
      | cell _ _ _ _ _ ih => simp [ih]
    rw [this h]
    clear h this
    induction vs generalizing Ds with
    | nil => cases Ds with
      | nil => rfl
      | cons D Ds => exact h2.elim
    | cons v vs ih => cases Ds with
      | nil => exact h2.elim
      | cons D Ds => simp [ih h2.2]
  refine ⟨H.df, .tuple vs.toArray, ?_, _, rfl, ⟨vs, rfl, VAll.st (Mv.shrink H.own0) h2⟩, H.bel⟩
  have hu : results fn a.tmps = (do
      let vs ← rs.toArray.mapM (resF a.tmps)
      pure (if h : vs.size = 1 then vs[0] else .tuple vs)) := by
    unfold results
    rw [hr]
    rfl
  rw [hu, Sem.run_bind]
  have hm : (rs.toArray.mapM (resF a.tmps)).run P w = .ok vs.toArray w := by
    rw [List.mapM_toArray]
    simp [h1]
  rw [hm, Result.andThen_ok, Sem.run_pure]
  rw [dif_neg (by simpa [← hl] using of_decide_eq_false hn)]
/-- Another word on a slot. -/
theorem St.set1 {a : Act} {w : World} {B : Bx} {l l' : List (Tmp × FD)} (H : St N w0 B0 a w B l bxs) (k : Nat) {s : Tmp} {D D' : VP} (hk : l[k]? = some (s, .val D)) (hw : ∀ v w B, D.p v w B → D'.p v w B) (hl : l.set k (s, .val D') = l') : St N w0 B0 a w B l' bxs := by
  refine ⟨H.df, H.sz, Fct.of_all fun x hx => ?_, H.bx, H.ap, H.bel, H.own, H.own0⟩
  rw [← hl] at hx
  rcases List.mem_or_eq_of_mem_set hx with h | h
  · exact H.fc.all x h
  · subst h; exact hw _ _ _ (H.fc.get k hk)
/-- A bool of which something is known, by a letter. -/
theorem St.split {a : Act} {w : World} {B : Bx} {l : List (Tmp × FD)} (H : St N w0 B0 a w B l bxs) (k : Nat) {s : Tmp} {T F : Prop} (hk : l[k]? = some (s, .val (IsIf T F))) : ∃ r : Bool, (r = true → T) ∧ (r = false → F) ∧ St N w0 B0 a w B (l.set k (s, .val (IsB r))) bxs := by
  obtain ⟨r, e, h1, h2⟩ := H.fc.get k hk
  refine ⟨r, h1, h2, H.df, H.sz, Fct.of_all fun x hx => ?_, H.bx, H.ap, H.bel, H.own, H.own0⟩
  rcases List.mem_or_eq_of_mem_set hx with h | h
  · exact H.fc.all x h
  · subst h; exact e
end
end Go.Proofs.YtoimhjcpeifegaaGreatDoor

