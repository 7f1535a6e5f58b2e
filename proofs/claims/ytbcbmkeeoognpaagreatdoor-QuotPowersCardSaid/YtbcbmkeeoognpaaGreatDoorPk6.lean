/- Contracts of functions, and plain facts, part 6. -/
import Derived.Test.YtbcbmkeeoognpaaGreatDoorProg
import Derived.Deep.QuietTactic
import Derived.BigQuiet
import Derived.BigRegion
import Derived.Test.YtbcbmkeeoognpaaGreatDoorRows
import Derived.Test.YtbcbmkeeoognpaaGreatDoorCards
import Derived.Lib.LaidTab
import Derived.Test.YtbcbmkeeoognpaaGreatDoorPk1
import Derived.Test.YtbcbmkeeoognpaaGreatDoorPk2
import Derived.Test.YtbcbmkeeoognpaaGreatDoorPk4
import Derived.Test.YtbcbmkeeoognpaaGreatDoorPk5
set_option linter.unusedVariables false
set_option linter.unusedSimpArgs false
/- Two lists and a bool are handed back. -/
namespace Go.Proofs.YtbcbmkeeoognpaaGreatDoor
open Go.RowKit
def RetLLB (t : TypeId) (k : IntKind) (zs rs : List Int) (ok : Bool) (w : World) (e : Ending) (w' : World) : Prop :=
  ∃ ad n c ad2 n2 c2, e = .returned (.tuple #[.slice ad n c, .slice ad2 n2 c2, .bool ok]) ∧ Own w.heap.size w' t k ad n c zs ∧ Own w.heap.size w' t k ad2 n2 c2 rs ∧ Below w.heap.size w w' ∧
    (0 < c → 0 < c2 → ∀ a a2, ad = some a → ad2 = some a2 → a.block ≠ a2.block)
theorem RetLLB.after {t : TypeId} {k : IntKind} {zs rs : List Int} {ok : Bool} {w w1 : World} {e : Ending} {w2 : World} (h : RetLLB t k zs rs ok w1 e w2) (hb : Below w.heap.size w w1) : RetLLB t k zs rs ok w e w2 := by
  obtain ⟨ad, n, c, ad2, n2, c2, e1, h1, h2, h3, h4⟩ := h
  exact ⟨ad, n, c, ad2, n2, c2, e1, h1.mono hb.size, h2.mono hb.size, below_trans hb h3, h4⟩
end Go.Proofs.YtbcbmkeeoognpaaGreatDoor


/- nat.From: a small number as a list. -/
namespace Go.Proofs.YtbcbmkeeoognpaaGreatDoor
open Go.RowKit
theorem from_calls (x : Int) (w : World) (h0 : 0 ≤ x) (h1 : x < 18446744073709551616) :
    Calls Tryz.prog 121 #[.int .u64 x] w (RetL 44 .u32 (dg 4294967296 x) w) := by
  have k0 : Blk (w.alloc (.cells #[.int .u32 (x % 4294967296), .int .u32 (x / 4294967296)] 44)) w.heap.size 44 .u32 [x % 4294967296, x / 4294967296] := Blk.made w 44 .u32 [x % 4294967296, x / 4294967296] _ rfl
  have b0 : Below w.heap.size w (w.alloc (.cells #[.int .u32 (x % 4294967296), .int .u32 (x / 4294967296)] 44)) := (Below.refl _ _).alloc (Nat.le_refl _) _
  have hd : Dig 4294967296 [x % 4294967296, x / 4294967296] := Dig.cons (by omega) (by omega) (Dig.cons (by omega) (by omega) (Dig.nil _))
  have hv : val 4294967296 [x % 4294967296, x / 4294967296] = x := by simp [val]; omega
  have hc := Lib.hid (cut_calls (some ⟨w.heap.size, 0, none⟩) 2 2 _ _ (by omega) (Nat.le_refl _) k0.rds)
  have R := Lib.hid (k0.ret (Nat.le_refl _) (by simp) hd _ hv b0)
  clear k0 b0 hd hv
  go_enter Tryz.func121, Tryz.ntmps121
  go_wp2_with fail
  refine (hc.out).mono ?_
  rintro e w' ⟨rfl, rfl⟩
  go_wp2_with fail
  go_ret
  exact R.out
end Go.Proofs.YtbcbmkeeoognpaaGreatDoor


/- Numbers in decimal: plain. -/
namespace Go.Proofs.YtbcbmkeeoognpaaGreatDoor

/-- Digits as they are written. -/
def asc (xs : List Int) : List Int := xs.map (· + 48)
theorem asc_length (xs : List Int) : (asc xs).length = xs.length := by simp [asc]
theorem asc_append (xs ys : List Int) : asc (xs ++ ys) = asc xs ++ asc ys := by simp [asc]
theorem asc_dig {xs : List Int} (h : Dig 10 xs) : Dig 256 (asc xs) := fun x hx => by
  simp only [asc, List.mem_map] at hx
  obtain ⟨y, hy, rfl⟩ := hx
  have := h y hy
  omega
/-- A number in decimal, the highest digit first. -/
def decL (V : Int) : List Int := if V = 0 then [48] else (asc (dg 10 V)).reverse
theorem Dig.reverse {b : Int} {xs : List Int} (h : Dig b xs) : Dig b xs.reverse := fun x hx => h x (List.mem_reverse.1 hx)
theorem norm_snoc (xs : List Int) (d : Int) (h : d ≠ 0) : norm (xs ++ [d]) = xs ++ [d] := by
  have e := norm_stop (xs ++ [d]) (xs.length + 1) (by simp) (fun j hj => by rw [List.getElem?_eq_none (by simp; omega)]; rfl) (.inr (by simp; exact h))
  rw [e, List.take_of_length_le (by simp)]

/-- One digit is told: behind it n / 10 and what stands above. -/
theorem dec_step (xs : List Int) (n R V : Int) (k : Nat) (hk : k < 9) (h : val 10 xs + 10 ^ xs.length * (n + 10 ^ (9 - k) * R) = V) :
    val 10 (xs ++ [n % 10]) + 10 ^ (xs ++ [n % 10]).length * (n / 10 + 10 ^ (9 - (k + 1)) * R) = V := by
  have e1 : 9 - k = (9 - (k + 1)) + 1 := by omega
  rw [val_snoc, List.length_append, List.length_singleton, Int.pow_succ, ← h, e1, Int.pow_succ]
  generalize (10 : Int) ^ (9 - (k + 1)) = P
  generalize (10 : Int) ^ xs.length = L
  have hn : n = 10 * (n / 10) + n % 10 := by omega
  generalize n / 10 = q at *
  generalize n % 10 = r at *
  subst hn
  grind
theorem dec_lt (n : Int) (k : Nat) (hk : k < 9) (hn : n < 10 ^ (9 - k)) : n / 10 < 10 ^ (9 - (k + 1)) := by
  have e1 : 9 - k = (9 - (k + 1)) + 1 := by omega
  rw [e1, Int.pow_succ] at hn
  generalize (10 : Int) ^ (9 - (k + 1)) = P at *
  omega
theorem dec_end (xs : List Int) (V : Int) (d : Dig 10 xs) (hn : norm xs = xs) (h : val 10 xs + 10 ^ xs.length * 0 = V) : xs = dg 10 V := by
  rw [Int.mul_zero, Int.add_zero] at h
  have := norm_eq 10 (by omega) d
  rw [hn, show ((10 : Nat) : Int) = 10 from rfl, h] at this
  exact this
/-- So many digits at most. -/
theorem dec_len (V T v : Int) (len na : Nat) (h : v + 10 ^ len * T = V) (hv : 0 ≤ v) (hT : 0 < T) (hV : V < 4294967296 ^ na) : len + 1 ≤ 32 * na := by
  have h1 : (10 : Int) ^ len * 1 ≤ 10 ^ len * T := Int.mul_le_mul_of_nonneg_left (by omega) (Int.le_of_lt (Int.pow_pos (by omega)))
  have h2 : (2 : Int) ^ len ≤ 10 ^ len := by
    have : ∀ k : Nat, (2 : Int) ^ k ≤ 10 ^ k := by
      intro k
      induction k with
      | zero => simp
      | succ k ih =>
        rw [Int.pow_succ, Int.pow_succ]
        have := Int.pow_pos (n := 2) (show (0 : Int) < 2 by omega) (m := k)
        omega
    exact this len
  have h3 : (4294967296 : Int) ^ na = 2 ^ (32 * na) := by rw [show (4294967296 : Int) = 2 ^ 32 from by decide, ← Int.pow_mul]
  rcases Nat.lt_or_ge len (32 * na) with h4 | h4
  · omega
  · have := pow_le (b := 2) (by omega) h4
    omega
end Go.Proofs.YtbcbmkeeoognpaaGreatDoor


/- nat.Mul: what the call answers. -/
namespace Go.Proofs.YtbcbmkeeoognpaaGreatDoor
open Go.RowKit

/-- The row behind i places of the first number. -/
def MulR (w : World) (t : TypeId) (xs zs : List Int) (m n i : Nat) (wr : World) : Prop :=
  ∃ ys, Blk wr w.heap.size t .u32 ys ∧ ys.length = m + n ∧ Dig 4294967296 ys ∧ Below w.heap.size w wr ∧ val 4294967296 ys = val 4294967296 (xs.take i) * val 4294967296 zs ∧ ∀ j, i + n ≤ j → ys[j]?.getD 0 = 0
/-- The row behind k places of the second one, c carried. -/
def MulI (w : World) (t : TypeId) (xs zs : List Int) (m n i k : Nat) (c : Int) (wr : World) : Prop :=
  ∃ ys, Blk wr w.heap.size t .u32 ys ∧ ys.length = m + n ∧ Dig 4294967296 ys ∧ Below w.heap.size w wr ∧ 0 ≤ c ∧ c < 4294967296 ∧
    val 4294967296 ys + c * 4294967296 ^ (i + k) = val 4294967296 (xs.take i) * val 4294967296 zs + xs[i]?.getD 0 * 4294967296 ^ i * val 4294967296 (zs.take k) ∧ ∀ j, i + n ≤ j → ys[j]?.getD 0 = 0

/-- nat.Mul: the product. -/
theorem mul_calls (ad bd : Option Addr) (na nb ca cb : Nat) (la lb : List Int) (w : World) (hl : (na + nb) * 4 ≤ 281474976710656) (hac : na ≤ ca) (hbc : nb ≤ cb)
    (ha : Rds w .u32 ad na la) (hb : Rds w .u32 bd nb lb) (da : Dig 4294967296 la) (db : Dig 4294967296 lb) :
    Calls Tryz.prog 56 #[.slice ad na ca, .slice bd nb cb] w (RetL 44 .u32 (dg 4294967296 (val 4294967296 la * val 4294967296 lb)) w) := by
  have rx := ha.norm
  have rz := hb.norm
  have dx := norm_dig da
  have dz := norm_dig db
  have hma := norm_length_le la
  have hnb := norm_length_le lb
  rw [ha.len] at hma
  rw [hb.len] at hnb
  have HV : Hid (val 4294967296 (norm la) * val 4294967296 (norm lb) = val 4294967296 la * val 4294967296 lb) := by rw [val_norm, val_norm]; rfl
  have c1 := cut_calls ad na ca la w (by omega) hac ha
  have c2 := cut_calls bd nb cb lb w (by omega) hbc hb
  have C1 := Lib.hid c1
  have C2 := Lib.hid c2
  clear c1 c2 ha hb
  generalize norm la = xs at *
  generalize norm lb = zs at *
  obtain ⟨m, hm⟩ : ∃ m, xs.length = m := ⟨_, rfl⟩
  obtain ⟨n, hn⟩ : ∃ n, zs.length = n := ⟨_, rfl⟩
  rw [hm] at rx hma C1
  rw [hn] at rz hnb C2
  have HM := Lib.hid hm
  have HN := Lib.hid hn
  clear hm hn
  have hmk := make_rule (P := Tryz.prog) 23 44 .u32 4 Tryz.underlying23 info_limb (by omega) (m + n) (by omega) ((m : Int) + n) (by omega)
  go_enter Tryz.func56, Tryz.ntmps56
  go_wp2_with fail
  refine (C1.out).mono ?_
  rintro e w' ⟨rfl, rfl⟩
  go_wp2_with fail
  refine (C2.out).mono ?_
  rintro e w' ⟨rfl, rfl⟩
  go_wp2_with fail
  clear hmk
  have hr0 : MulR w 44 xs zs m n 0 (w.alloc (.cells (nums .u32 (List.replicate (m + n) 0)).toArray 44)) :=
    ⟨_, Blk.made _ _ _ _ _ rfl, by simp, Dig.replicate _ (by omega) _, (Below.refl _ _).alloc (Nat.le_refl _) _, by simp [val, val_replicate], fun j _ => by simp [List.getElem?_replicate]; split <;> rfl⟩
  go_loopw [21] (fun i wr => ∃ k : Nat, k ≤ m ∧ i = .int .i64 k ∧ MulR w 44 xs zs m n k wr) (fun i _ => m - (intOf i).toNat)
  case atStart => exact ⟨0, Nat.zero_le _, rfl, hr0⟩
  case round =>
    obtain ⟨i, hi, rfl, hR⟩ := hrel
    clear hr0
    by_cases him : i < m
    · have hI0 : MulI w 44 xs zs m n i 0 0 wr := by
        obtain ⟨ys, h1, h2, h3, h4, h5, h6⟩ := hR
        exact ⟨ys, h1, h2, h3, h4, by omega, by omega, by simp [h5, val], h6⟩
      clear hR
      go_wp2
      go_loopw [26, 7] (fun j cy wr => ∃ k : Nat, ∃ c : Int, k ≤ n ∧ j = .int .i64 k ∧ cy = .int .u64 c ∧ MulI w 44 xs zs m n i k c wr) (fun j _ _ => n - (intOf j).toNat)
      case atStart => exact ⟨0, 0, Nat.zero_le _, rfl, rfl, hI0⟩
      case round =>
        clear hI0
        obtain ⟨k, c, hk, rfl, rfl, ys, h1, h2, h3, h4, hc0, hc1, h5, h6⟩ := hrel
        have H2 := Lib.hid h2
        have H5 := Lib.hid h5
        have H6 := Lib.hid h6
        clear h2 h5 h6
        by_cases hkn : k < n
        · obtain ⟨a, rfl, hx⟩ := rx.cell i him
          obtain ⟨b, rfl, hz⟩ := rz.cell k hkn
          have hxl : wr.cell? (a.add i) = some (.int .u32 (xs[i]?.getD 0)) := (h4.cell (by simpa [Addr.add] using World.block_lt_of_cell? w _ hx)).trans hx
          have hzl : wr.cell? (b.add k) = some (.int .u32 (zs[k]?.getD 0)) := (h4.cell (by simpa [Addr.add] using World.block_lt_of_cell? w _ hz)).trans hz
          have hy := h1.cell (i + k) (by rw [H2.out]; omega)
          have hf := h1.free (i + k)
          clear hx hz
          have S := mul_step 4294967296 ys (i + k) (by rw [H2.out]; omega) _ c (xs[i]?.getD 0 * zs[k]?.getD 0) rfl
          have bx := dx.get (by omega) i
          have bz := dz.get (by omega) k
          have bo := h3.get (by omega) (i + k)
          have bb := mul_bound (o := ys[i + k]?.getD 0) rfl bx.1 bx.2 bz.1 bz.2 bo.1 bo.2 hc0 hc1
          have N := mul_inner 4294967296 _ _ zs ys _ i k (by rw [HN.out]; exact hkn) c _ H5.out S
          have HS := Lib.hid N
          clear S N H5
          generalize hgx : xs[i]?.getD 0 = x at *
          have HX := Lib.hid hgx
          clear hgx
          generalize zs[k]?.getD 0 = z at *
          generalize hgy : ys[i + k]?.getD 0 = y at *
          have HY := Lib.hid hgy
          clear hgy
          generalize ht : x * z = t at *
          have HT := Lib.hid ht
          clear ht
          obtain ⟨bt0, bt1, bs0, bs1⟩ := bb
          have W1 : IntKind.i64.wrap ((i : Int) + k) = (i : Int) + k := IntWalk.i64_in _ (by omega)
          have W2 : IntKind.u64.wrap (x * z) = t := by rw [HT.out]; exact IntWalk.u64_in _ (by omega)
          have W3 : IntKind.u64.wrap (t + y) = t + y := IntWalk.u64_in _ (by omega)
          have W4 : IntKind.u64.wrap (c + (t + y)) = c + (t + y) := IntWalk.u64_in _ (by omega)
          have W5 : ((i : Int) + k).toNat = i + k := by omega
          have W6 : (0 : Int) ≤ (i : Int) + k := by omega
          go_wp2_with fail
          go_quiet (fail)
          clear W1 W2 W3 W4 W5 W6
          go_wp2
          go_roundw
          case rel =>
            refine ⟨k + 1, _, by omega, by go_num, rfl, _, (h1.drewN nq).set (i + k) _, by simp [H2.out], h3.set (by omega) (by omega) _, below_set (below_drewN h4 nq) _ _ _ (Nat.le_refl _), by omega, by omega, by rw [HX.out]; exact HS.out, fun j hj => ?_⟩
            rw [List.getElem?_set_ne (by omega)]
            exact H6.out j (by omega)
          case measure => simp [intOf]; omega
        · obtain rfl : k = n := by omega
          have hy := h1.cell (i + k) (by rw [H2.out]; omega)
          have hf := h1.free (i + k)
          have bo := h3.get (by omega) (i + k)
          have E := mul_outer 4294967296 xs zs ys i k (by rw [HM.out]; exact him) HN.out.symm (by rw [H2.out]; omega) c (H6.out _ (Nat.le_refl _)) H5.out
          have HE := Lib.hid E
          clear E
          go_wp2
          go_roundw
          case rel =>
            refine ⟨i + 1, by omega, by go_num, _, h1.set (i + k) c, by simp [H2.out], h3.set hc0 hc1 _, below_set h4 _ _ _ (Nat.le_refl _), HE.out, fun j hj => ?_⟩
            rw [List.getElem?_set_ne (by omega)]
            exact H6.out j (by omega)
          case measure => simp [intOf]; omega
    · obtain rfl : i = m := by omega
      obtain ⟨ys, h1, h2, h3, h4, h5, h6⟩ := hR
      have H2 := Lib.hid h2
      have H5 := Lib.hid h5
      have H6 := Lib.hid h6
      clear h2 h5 h6
      have hk := cut_calls (some ⟨w.heap.size, 0, none⟩) (i + n) (i + n) ys wr (by omega) (Nat.le_refl _) (by have := h1.rds; rwa [H2.out] at this)
      go_wp2_with fail
      refine hk.mono ?_
      rintro e w' ⟨rfl, rfl⟩
      go_wp2_with fail
      go_ret
      refine h1.ret (Nat.le_refl _) (by rw [H2.out]; omega) h3 _ ?_ h4
      rw [← HV.out, H5.out, ← HM.out, List.take_length]
end Go.Proofs.YtbcbmkeeoognpaaGreatDoor


/- crucibleref01: trim, bytes, limbs: what the calls answer. -/
namespace Go.Proofs.YtbcbmkeeoognpaaGreatDoor
open Go.RowKit

theorem info_int : (Tryz.prog.info? 3).map (fun i => (i.zero, i.size, i.bytes)) = some (some (.int .i64 0), 1, 8) := by kernel_rfl
theorem info_limb' : (Tryz.prog.info? 44).map (fun i => (i.zero, i.size, i.bytes)) = some (some (.int .u32 0), 1, 4) := by kernel_rfl

/-- trim: without noughts at the end. -/
theorem trim_calls (ad : Option Addr) (n c : Nat) (xs : List Int) (w : World) (hn : n ≤ 9223372036854775807) (hnc : n ≤ c) (hr : Rds w .i64 ad n xs) :
    Calls Tryz.prog 244 #[.slice ad n c] w fun e w' => e = .returned (.slice ad (norm xs).length c) ∧ w = w' := by
  have HL := Lib.hid hr.len
  go_enter Tryz.func244, Tryz.ntmps244
  go_wp2
  go_loop [0] (fun v => ∃ k : Nat, k ≤ n ∧ v = .slice ad k c ∧ Hid (∀ j, k ≤ j → xs[j]?.getD 0 = 0)) (fun v => match v with | .slice _ k _ => k | _ => 0)
  case atStart => exact ⟨n, Nat.le_refl _, rfl, fun j hj => by rw [List.getElem?_eq_none (by rw [HL.out]; exact hj)]; rfl⟩
  case round =>
    obtain ⟨k, hk, rfl, hz⟩ := hrel
    have hkc : k ≤ c := by omega
    by_cases h0 : 0 < k
    · obtain ⟨a, rfl, hcell⟩ := hr.cell (k - 1) (by omega)
      clear hr
      go_wp2
      · rename_i hb
        go_round
        case rel =>
          refine ⟨k - 1, by omega, rfl, fun j hj => ?_⟩
          by_cases e : j = k - 1
          · subst e; simpa using hb
          · exact hz.out j (by omega)
        case measure => simp; omega
      · have hb : (xs[k - 1]?.getD 0 == 0) = false := by assumption
        have e := norm_stop xs k (by rw [HL.out]; omega) hz.out (.inr (by simpa using hb))
        have e2 : (norm xs).length = k := by rw [e, List.length_take, HL.out]; omega
        go_ret
        rw [e2]
        exact ⟨rfl, rfl⟩
    · obtain rfl : k = 0 := by omega
      have E := Lib.hid (show (norm xs).length = 0 by rw [norm_stop xs 0 (Nat.zero_le _) hz.out (.inl rfl)]; rfl)
      go_wp2
      go_ret
      rw [E.out]
      exact ⟨rfl, rfl⟩

/-- bytes: behind i limbs. -/
def BytesR (w : World) (xs : List Int) (i : Nat) (v : Value) (wr : World) : Prop :=
  ∃ ad c ds, v = .slice ad (4 * i) c ∧ App w.heap.size wr 3 .i64 ad (4 * i) c ds ∧ Dig 256 ds ∧ Below w.heap.size w wr ∧ w.heap.size ≤ wr.heap.size ∧ val 256 ds = val 4294967296 (xs.take i)
/-- bytes: behind k bytes of a limb, x is left of it. -/
def BytesI (w : World) (xs : List Int) (i k : Nat) (x : Int) (v : Value) (wr : World) : Prop :=
  ∃ ad c ds, v = .slice ad (4 * i + k) c ∧ App w.heap.size wr 3 .i64 ad (4 * i + k) c ds ∧ Dig 256 ds ∧ Below w.heap.size w wr ∧ w.heap.size ≤ wr.heap.size ∧
    0 ≤ x ∧ x < 256 ^ (4 - k) ∧ val 256 ds + 256 ^ (4 * i + k) * x = val 4294967296 (xs.take (i + 1))

set_option maxHeartbeats 400000 in
/-- bytes: a number's bytes, the lowest first, none 0 at the end. -/
theorem bytes_calls (ad : Option Addr) (n c : Nat) (xs : List Int) (w : World) (hn : n ≤ 1099511627776) (hr : Rds w .u32 ad n xs) (dx : Dig 4294967296 xs) :
    Calls Tryz.prog 202 #[.slice ad n c] w (RetL 3 .i64 (dg 256 (val 4294967296 xs)) w) := by
  have HL := Lib.hid hr.len
  have hmk := make0_rule (P := Tryz.prog) 188 3 .i64 8 Tryz.underlying188 info_int (by omega) (4 * n) (by omega) (4 * (n : Int)) (by omega)
  go_enter Tryz.func202, Tryz.ntmps202
  go_wp2
  clear hmk
  have hr0 : BytesR w xs 0 (.slice (some ⟨w.heap.size, 0, none⟩) 0 (4 * n)) (w.alloc (.cells (madeCells #[.int .i64 0] (4 * n)) 3)) :=
    ⟨_, _, [], rfl, App.made _ _ _ _ _ (Nat.le_refl _) (by omega) _ rfl, Dig.nil _, (Below.refl _ _).alloc (Nat.le_refl _) _, by simp, by simp [val]⟩
  go_loopw [3, 4] (fun v i wr => ∃ k : Nat, k ≤ n ∧ i = .int .i64 k ∧ BytesR w xs k v wr) (fun _ i _ => n - (intOf i).toNat)
  case atStart => exact ⟨0, Nat.zero_le _, rfl, hr0⟩
  case round =>
    obtain ⟨i, hi, rfl, ad1, c1, ds, rfl, h1, h2, h3, h4, h5⟩ := hrel
    clear hr0
    have H5 := Lib.hid h5
    clear h5
    by_cases hin : i < n
    · obtain ⟨a, rfl, hx⟩ := hr.cell i hin
      have hxl : wr.cell? (a.add i) = some (.int .u32 (xs[i]?.getD 0)) := (h3.cell (by simpa [Addr.add] using World.block_lt_of_cell? w _ hx)).trans hx
      have bx := dx.get (by omega) i
      have hI0 : BytesI w xs i 0 (xs[i]?.getD 0) (.slice ad1 (4 * i) c1) wr :=
        ⟨ad1, c1, ds, rfl, h1, h2, h3, h4, bx.1, bx.2, by rw [H5.out, val_take_succ _ _ _ (by rw [HL.out]; exact hin), Nat.add_zero, pow4]⟩
      clear hx
      generalize xs[i]?.getD 0 = x0 at *
      go_wp2
      go_loopw [3, 5, 6] (fun v x j wr => ∃ k : Nat, ∃ q : Int, k ≤ 4 ∧ j = .int .i64 k ∧ x = .int .i64 q ∧ BytesI w xs i k q v wr) (fun _ _ j _ => 4 - (intOf j).toNat)
      case atStart => exact ⟨0, x0, by omega, rfl, rfl, hI0⟩
      case round =>
        clear hI0 h1 h2 h3 h4 hxl bx
        obtain ⟨k, x, hk, rfl, rfl, ad2, c2, es, rfl, g1, g2, g3, g4, g5, g6, g7⟩ := hrel
        have hlen := g1.len
        have HE := Lib.hid (bytes_step es _ hlen x _ g5 g7)
        have H7 := Lib.hid g7
        have gx : x < 4294967296 := Int.lt_of_lt_of_le g6 (pow_le (b := 256) (by omega) (show 4 - k ≤ 4 by omega))
        have H6 := Lib.hid g6
        clear hlen g7 g6
        by_cases hk4 : k < 4
        · go_wp2_with (at_builtin; refine app_one w.heap.size rfl (.tmp 26) (.tmp 29) 188 3 .i64 8 rfl Tryz.underlying188 info_int (by omega) ad2 (4 * i + k) c2 es (x % 256) rfl rfl g1 g3 g4 (by omega) ?_; intro ad3 c3 w3 k1 k2 k3)
          go_roundw
          case rel =>
            refine ⟨k + 1, _, by omega, by go_num, rfl, ad3, c3, es ++ [x % 256], rfl, k1, g2.append (Dig.cons (by omega) (by omega) (Dig.nil _)), k2, k3, by omega, ?_, HE.out⟩
            have := H6.out
            rw [show 4 - k = (4 - (k + 1)) + 1 by omega, Int.pow_succ] at this
            exact Int.ediv_lt_of_lt_mul (by omega) this
          case measure => simp [intOf]; omega
        · obtain rfl : k = 4 := by omega
          have hx0 : x = 0 := by have := H6.out; simp at this; omega
          have HV := Lib.hid (show val 256 es = val 4294967296 (xs.take (i + 1)) by have := H7.out; rw [hx0] at this; simpa using this)
          clear hx0
          go_wp2
          go_roundw
          case rel => exact ⟨i + 1, by omega, by go_num, ad2, c2, es, rfl, g1, g2, g3, g4, HV.out⟩
          case measure => simp [intOf]; omega
    · obtain rfl : i = n := by omega
      have hk := trim_calls ad1 (4 * i) c1 ds wr (by omega) h1.own.le h1.rds
      go_wp2_with fail
      refine hk.mono ?_
      rintro e w' ⟨rfl, rfl⟩
      go_wp2_with fail
      go_ret
      have O := h1.own
      have hl := norm_length_le ds
      rw [h1.len] at hl
      refine ⟨_, _, _, rfl, ?_, h3⟩
      have E := norm_eq 256 (by omega) h2
      have hv : val ((256 : Nat) : Int) ds = val 4294967296 xs := by rw [← HL.out, List.take_length] at H5; exact H5.out
      rw [hv] at E
      rw [← E]
      exact O.norm
def LimbR (w : World) (ls : List Int) (j : Nat) (wr : World) : Prop :=
  ∃ out, Blk wr w.heap.size 44 .u32 out ∧ LimbSt ls out j ∧ Below w.heap.size w wr

set_option maxHeartbeats 400000 in
/-- limbs: the list of a number by its bytes. -/
theorem limbs_calls (ad : Option Addr) (n c : Nat) (xs : List Int) (w : World) (hn : n ≤ 140737488355328) (hnc : n ≤ c) (hr : Rds w .i64 ad n xs) (dx : Dig 256 xs) :
    Calls Tryz.prog 203 #[.slice ad n c] w (RetL 44 .u32 (dg 4294967296 (val 256 xs)) w) := by
  have ht := Lib.hid (trim_calls ad n c xs w (by omega) hnc hr)
  have rx := hr.norm
  have dl := norm_dig dx
  have hl := norm_length_le xs
  rw [hr.len] at hl
  have HV := Lib.hid (val_norm 256 xs)
  have HNN := Lib.hid (norm_norm xs)
  clear hr
  generalize norm xs = ls at *
  obtain ⟨m, hm⟩ : ∃ m, ls.length = m := ⟨_, rfl⟩
  rw [hm] at ht rx hl
  have HM := Lib.hid hm
  have S0 := limb_start ls
  rw [hm] at S0
  clear hm
  have hmk := make_rule (P := Tryz.prog) 23 44 .u32 4 Tryz.underlying23 info_limb' (by omega) ((m + 3) / 4) (by omega) (((m : Int) + 3) / 4) (by omega)
  go_enter Tryz.func203, Tryz.ntmps203
  go_wp2_with fail
  refine (ht.out).mono ?_
  rintro e w' ⟨rfl, rfl⟩
  go_wp2_with fail
  clear hmk
  have hr0 : LimbR w ls m (w.alloc (.cells (nums .u32 (List.replicate ((m + 3) / 4) 0)).toArray 44)) :=
    ⟨_, Blk.made _ _ _ _ _ rfl, S0, (Below.refl _ _).alloc (Nat.le_refl _) _⟩
  go_loopw [4] (fun i wr => ∃ j : Nat, j ≤ m ∧ i = .int .i64 ((j : Int) - 1) ∧ LimbR w ls j wr) (fun i _ => ((intOf i) + 1).toNat)
  case atStart => exact ⟨m, Nat.le_refl _, rfl, hr0⟩
  case round =>
    obtain ⟨j, hj, rfl, out, h1, h2, h3⟩ := hrel
    clear hr0 S0
    by_cases hj0 : 0 < j
    · obtain ⟨j, rfl⟩ : ∃ i, j = i + 1 := ⟨j - 1, by omega⟩
      obtain ⟨a, rfl, hxl⟩ := (rx.below h3 (Nat.le_refl _)).cell j (by omega)
      obtain ⟨s1, s2, s3, s4⟩ := limb_step ls out j (by rw [HM.out]; omega) dl h2
      have hlen : out.length = (m + 3) / 4 := by rw [h2.2.1, HM.out]
      have hy := h1.cell (j / 4) s3
      have hf := h1.free (j / 4)
      have bx := dl.get (by omega) j
      have S4 := Lib.hid s4
      have bo := h2.1.get (by omega) (j / 4)
      have hq : j / 4 < (m + 3) / 4 := by omega
      have ej : (((j + 1 : Nat) : Int) - 1) = (j : Int) := by omega
      rw [ej]
      clear s4 h2 hlen ej
      generalize hgx : ls[j]?.getD 0 = x at *
      have HX := Lib.hid hgx
      clear hgx
      generalize hgy : out[j / 4]?.getD 0 = y at *
      have HY := Lib.hid hgy
      clear hgy
      have W1 : IntKind.i64.wrap ((j : Int).tdiv 4) = (j : Int) / 4 := IntWalk.i64_quo _ _ (by omega)
      have W2 : IntKind.u32.wrap (y * 256) = y * 256 := IntWalk.u32_in _ (by omega)
      have W3 : IntKind.u32.wrap (y * 256 + x) = y * 256 + x := IntWalk.u32_in _ (by omega)
      have W4 : IntKind.u32.wrap x = x := IntWalk.u32_in _ (by omega)
      have W5 : ((j : Int) / 4).toNat = j / 4 := by omega
      have W6 : (0 : Int) ≤ (j : Int) / 4 := by omega
      have W7 : (j : Int) / 4 < (((m + 3) / 4 : Nat) : Int) := by omega
      go_wp2_with fail
      go_region
      clear W1 W2 W3 W4 W5 W6 W7
      go_wp2
      go_roundw
      case rel => exact ⟨j, by omega, by go_num, _, (h1.set (j / 4) _).drew, S4.out, below_drew (below_set h3 _ _ _ (Nat.le_refl _))⟩
      case measure => simp [intOf]
    · obtain rfl : j = 0 := by omega
      go_wp2
      go_ret
      have E := limb_end ls out dl HNN.out h2
      have O := h1.own (B := w.heap.size) (Nat.le_refl _) out.length (Nat.le_refl _) (by rw [h2.2.1, HM.out]; omega)
      have hlen : out.length = (m + 3) / 4 := by rw [h2.2.1, HM.out]
      rw [List.take_length] at O
      refine ⟨_, _, _, rfl, ?_, h3⟩
      rw [← HV.out, ← E, ← hlen]
      exact O

theorem bytes_len {n : Nat} {xs : List Int} (hn : xs.length = n) (h : Dig 4294967296 xs) : (dg 256 (val 4294967296 xs)).length ≤ 4 * n := by
  refine dg_length_le 256 (by omega) _ _ ?_
  have := val_lt (by omega) h
  rw [hn, ← pow4] at this
  exact this

end Go.Proofs.YtbcbmkeeoognpaaGreatDoor


/- What the bound of a narrowed statement gives: no list is longer than it. -/
namespace Go.Proofs.YtbcbmkeeoognpaaGreatDoor
open Go.ChangeShapes Go.WideShapes Go.RowKit

theorem bulk_pos {H : Type} (d : DataW H) : 1 ≤ Rows.uptoBulk d := by
  cases d with
  | lit l => cases l <;> simp [Rows.uptoBulk]
  | nil => simp [Rows.uptoBulk]
  | ptr d => simp [Rows.uptoBulk]
  | slice elems spare => simp [Rows.uptoBulk]
  | agg parts => simp [Rows.uptoBulk]
  | iface t d => simp [Rows.uptoBulk]
  | map entries => simp [Rows.uptoBulk]
  | held h => simp [Rows.uptoBulk]
theorem bulk_len {H : Type} : ∀ (l : List (DataW H)), l.length ≤ Rows.uptoBulkAll l
  | [] => by simp [Rows.uptoBulkAll]
  | x :: r => by
    have h1 := bulk_pos x
    have h2 := bulk_len r
    simp only [Rows.uptoBulkAll, List.length_cons]
    omega
theorem bulk_slice {H : Type} (elems spare : List (DataW H)) : elems.length ≤ Rows.uptoBulk (.slice elems spare) := by
  have h1 := bulk_len elems
  simp only [Rows.uptoBulk]
  omega
theorem bulk_all {H : Type} {l : List (DataW H)} (hk : Rows.uptoSmall H l = true) : Rows.uptoBulkAll l ≤ 1048576 := of_decide_eq_true hk
theorem bulk_mem {H : Type} {d : DataW H} {l : List (DataW H)} (h : d ∈ l) : Rows.uptoBulk d ≤ Rows.uptoBulkAll l := by
  induction l with
  | nil => cases h
  | cons x r ih =>
    simp only [Rows.uptoBulkAll]
    rcases List.mem_cons.1 h with rfl | e
    · omega
    · have := ih e
      omega
end Go.Proofs.YtbcbmkeeoognpaaGreatDoor


/- The table of places out of a row's list. -/
namespace Go.Proofs.YtbcbmkeeoognpaaGreatDoor
open Go.RowKit

theorem gTz32 : Tryz.prog.globalNamed "math/bits.deBruijn32tab" = some 0 := by kernel_rfl
theorem gTz32Type : (Tryz.prog.globals[0]?).map (·.type) = some 164 := by kernel_rfl
theorem cellsTz32 : Tryz.prog.cellsOf 164 = 32 := by kernel_rfl
theorem cellsU8t : Tryz.prog.cellsOf 5 = 1 := by kernel_rfl
theorem tz32_get : ∀ j, j < 32 → (Lib.deBruijn32tab.map (fun n : Nat => (n : Int))).getD j 0 = ((Lib.deBruijn32tab.getD j 0 : Nat) : Int) := by decide

theorem tab32_of_laid {W : World} {rest : List (String × DataW Unit)} (h : laidMet Tryz.prog (("math/bits.deBruijn32tab", Rows.laid_math_bits_deBruijn32tab) :: rest) W) : Tab32 W := by
  have ht : Lib.TabIs Tryz.prog W "math/bits.deBruijn32tab" .u8 (Lib.deBruijn32tab.map (fun n : Nat => (n : Int))) :=
    Lib.tabIs_of_head (rest := rest) gTz32 gTz32Type Tryz.underlying164 Tryz.underlying5 cellsU8t cellsTz32 h
  intro j hj
  rw [← tz32_get j hj]
  exact ht.cell gTz32 j (by decide +revert)
end Go.Proofs.YtbcbmkeeoognpaaGreatDoor


/- Numbers in memory, by their worth alone: for the walks of the laws of layer 1. -/
namespace Go.Proofs.YtbcbmkeeoognpaaGreatDoor
open Go.RowKit

/-- A list of limbs, of worth V. -/
structure Num (w : World) (ad : Option Addr) (n c : Nat) (V : Int) : Prop where
  le : n ≤ c
  row : ∃ xs, Rds w .u32 ad n xs ∧ Dig 4294967296 xs ∧ val 4294967296 xs = V

/-- The list of the number V. -/
structure Can (w : World) (ad : Option Addr) (n c : Nat) (V : Int) : Prop where
  le : n ≤ c
  rds : Rds w .u32 ad n (dg 4294967296 V)

/-- What was handed in. -/
structure Arg (w : World) (ad : Option Addr) (n c : Nat) (xs : List Int) : Prop where
  le : n ≤ c
  rds : Rds w .u32 ad n xs
  dig : Dig 4294967296 xs

/-- A copy of it, a mark behind it. -/
structure Tw (w : World) (b n : Nat) (xs : List Int) : Prop where
  len : xs.length = n
  blk : Blk w b 44 .u32 (xs ++ [2148261425])
  dig : Dig 4294967296 xs

theorem Num.below {w w1 : World} {ad : Option Addr} {n c : Nat} {V : Int} (h : Num w ad n c V) {B : Nat} (hb : Below B w w1) (hB : w.heap.size ≤ B) : Num w1 ad n c V := by
  obtain ⟨xs, h1, h2, h3⟩ := h.row
  exact ⟨h.le, xs, h1.below hb hB, h2, h3⟩
theorem Can.below {w w1 : World} {ad : Option Addr} {n c : Nat} {V : Int} (h : Can w ad n c V) {B : Nat} (hb : Below B w w1) (hB : w.heap.size ≤ B) : Can w1 ad n c V := ⟨h.le, h.rds.below hb hB⟩
theorem Arg.below {w w1 : World} {ad : Option Addr} {n c : Nat} {xs : List Int} (h : Arg w ad n c xs) {B : Nat} (hb : Below B w w1) (hB : w.heap.size ≤ B) : Arg w1 ad n c xs := ⟨h.le, h.rds.below hb hB, h.dig⟩
theorem Tw.below {w w1 : World} {b n : Nat} {xs : List Int} (h : Tw w b n xs) {B : Nat} (hb : Below B w w1) (hB : w.heap.size ≤ B) : Tw w1 b n xs :=
  ⟨h.len, h.blk.below hb (Nat.lt_of_lt_of_le h.blk.lt hB), h.dig⟩
theorem Arg.num {w : World} {ad : Option Addr} {n c : Nat} {xs : List Int} (h : Arg w ad n c xs) : Num w ad n c (val 4294967296 xs) := ⟨h.le, xs, h.rds, h.dig, rfl⟩
theorem Tw.num {w : World} {b n : Nat} {xs : List Int} (h : Tw w b n xs) : Num w (some ⟨b, 0, none⟩) n (n + 1) (val 4294967296 xs) := ⟨by omega, xs, twin_rds h.blk h.len, h.dig, rfl⟩
theorem Can.num {w : World} {ad : Option Addr} {n c : Nat} {V : Int} (h : Can w ad n c V) (hV : 0 ≤ V) : Num w ad n c V := ⟨h.le, _, h.rds, dg_dig 4294967296 (by omega) _, val_dg 4294967296 (by omega) V hV⟩
theorem Arg.nonneg {w : World} {ad : Option Addr} {n c : Nat} {xs : List Int} (h : Arg w ad n c xs) : 0 ≤ val 4294967296 xs := val_nonneg (by omega) h.dig
theorem Arg.lt {w : World} {ad : Option Addr} {n c : Nat} {xs : List Int} (h : Arg w ad n c xs) : val 4294967296 xs < 4294967296 ^ n := by
  have := val_lt (by omega) h.dig
  rwa [h.rds.len] at this
theorem Can.len_le {w : World} {ad : Option Addr} {n c : Nat} {V : Int} (h : Can w ad n c V) (L : Nat) (hV : V < 4294967296 ^ L) : n ≤ L := by
  rw [← h.rds.len]
  exact dg_length_le 4294967296 (by omega) L V hV
theorem num_nil (w : World) : Num w none 0 0 0 := ⟨Nat.le_refl _, [], Rds.nil _ _ _, Dig.nil _, rfl⟩
theorem Can.zero {w : World} {ad : Option Addr} {n c : Nat} (h : Can w ad n c 0) : n = 0 := by
  have := h.rds.len
  rw [dg_zero] at this
  exact this.symm
theorem Can.zero_iff {w : World} {ad : Option Addr} {n c : Nat} {V : Int} (h : Can w ad n c V) (hV : 0 ≤ V) : n = 0 ↔ V = 0 := by
  have h1 := h.rds.len
  have h2 := dg_nil 4294967296 V (by omega) hV
  constructor
  · intro e
    exact h2.1 (List.eq_nil_of_length_eq_zero (by omega))
  · intro e
    rw [h2.2 e] at h1
    exact h1.symm

theorem pow_add_lt (a b : Int) (n m : Nat) (ha : a < 4294967296 ^ n) (hb : b < 4294967296 ^ m) : a + b < 4294967296 ^ (n + m + 1) := by
  have h1 := pow_le (b := 4294967296) (by omega) (show n ≤ n + m by omega)
  have h2 := pow_le (b := 4294967296) (by omega) (show m ≤ n + m by omega)
  have h3 : (0 : Int) < 4294967296 ^ (n + m) := Int.pow_pos (by omega)
  rw [Int.pow_succ]
  omega

theorem pow_mul_lt (a b : Int) (n m : Nat) (ha0 : 0 ≤ a) (hb0 : 0 ≤ b) (ha : a < 4294967296 ^ n) (hb : b < 4294967296 ^ m) : a * b < 4294967296 ^ (n + m) := by
  rw [Int.pow_add]
  exact Int.lt_of_le_of_lt (Int.mul_le_mul_of_nonneg_left (Int.le_of_lt hb) ha0) (Int.mul_lt_mul_of_pos_right ha (Int.pow_pos (by omega)))

/-- A number's list is told. -/
def RetC (V : Int) (w : World) (e : Ending) (w' : World) : Prop :=
  ∃ ad n c, e = .returned (.slice ad n c) ∧ Can w' ad n c V ∧ Below w.heap.size w w'
def RetCB (V : Int) (ok : Bool) (w : World) (e : Ending) (w' : World) : Prop :=
  ∃ ad n c, e = .returned (.tuple #[.slice ad n c, .bool ok]) ∧ Can w' ad n c V ∧ Below w.heap.size w w'
def RetCNB (V : Int) (r : Int) (ok : Bool) (w : World) (e : Ending) (w' : World) : Prop :=
  ∃ ad n c, e = .returned (.tuple #[.slice ad n c, .int .u32 r, .bool ok]) ∧ Can w' ad n c V ∧ Below w.heap.size w w'
def RetCBB (V : Int) (b1 b2 : Bool) (w : World) (e : Ending) (w' : World) : Prop :=
  ∃ ad n c, e = .returned (.tuple #[.slice ad n c, .bool b1, .bool b2]) ∧ Can w' ad n c V ∧ Below w.heap.size w w'

theorem RetL.can {V : Int} {w : World} {e : Ending} {w' : World} (h : RetL 44 .u32 (dg 4294967296 V) w e w') : RetC V w e w' := by
  obtain ⟨ad, n, c, rfl, h1, h2⟩ := h
  exact ⟨ad, n, c, rfl, ⟨h1.le, h1.rds⟩, h2⟩
theorem RetLB.can {V : Int} {ok : Bool} {w : World} {e : Ending} {w' : World} (h : RetLB 44 .u32 (dg 4294967296 V) ok w e w') : RetCB V ok w e w' := by
  obtain ⟨ad, n, c, rfl, h1, h2⟩ := h
  exact ⟨ad, n, c, rfl, ⟨h1.le, h1.rds⟩, h2⟩
theorem RetLNB.can {V r : Int} {ok : Bool} {w : World} {e : Ending} {w' : World} (h : RetLNB 44 .u32 .u32 (dg 4294967296 V) r ok w e w') : RetCNB V r ok w e w' := by
  obtain ⟨ad, n, c, rfl, h1, h2⟩ := h
  exact ⟨ad, n, c, rfl, ⟨h1.le, h1.rds⟩, h2⟩
theorem RetLBB.can {V : Int} {b1 b2 : Bool} {w : World} {e : Ending} {w' : World} (h : RetLBB 44 .u32 (dg 4294967296 V) b1 b2 w e w') : RetCBB V b1 b2 w e w' := by
  obtain ⟨ad, n, c, rfl, h1, h2⟩ := h
  exact ⟨ad, n, c, rfl, ⟨h1.le, h1.rds⟩, h2⟩

theorem num_same_true (ad bd : Option Addr) (n m c d : Nat) (V U : Int) (w : World) (ha : Can w ad n c V) (hb : Can w bd m d U) (h : V = U) (hn : n ≤ 1000000000000) (hm : m ≤ 1000000000000) :
    Calls Tryz.prog 16 #[.slice ad n c, .slice bd m d] w (Same true w) := by
  have h1 := same_calls ad bd n m c d _ _ w (by omega) (by omega) ha.rds hb.rds
  rwa [h, decide_eq_true rfl] at h1
end Go.Proofs.YtbcbmkeeoognpaaGreatDoor


/- Sums, differences and short division, place by place: plain facts on lists. -/
namespace Go.Proofs.YtbcbmkeeoognpaaGreatDoor

theorem val_set_take (B : Int) (ys : List Int) (i : Nat) (v : Int) (h : i < ys.length) : val B ((ys.set i v).take (i + 1)) = val B (ys.take i) + B ^ i * v := by
  rw [take_set_succ ys i v h, val_append]
  simp [val, List.length_take, Nat.min_eq_left (Nat.le_of_lt h)]

theorem add_step (B : Int) (xs zs ys : List Int) (i : Nat) (hi : i < ys.length) (c T : Int) (hT : T = xs[i]?.getD 0 + zs[i]?.getD 0 + c)
    (E : val B (ys.take i) + c * B ^ i = val B (xs.take i) + val B (zs.take i)) :
    val B ((ys.set i (T % B)).take (i + 1)) + (T / B) * B ^ (i + 1) = val B (xs.take (i + 1)) + val B (zs.take (i + 1)) := by
  rw [val_set_take B ys i _ hi, val_take_succ', val_take_succ', Int.pow_succ]
  have h := Int.emod_add_mul_ediv T B
  generalize xs[i]?.getD 0 = x at *
  generalize zs[i]?.getD 0 = z at *
  generalize T / B = q at *
  generalize T % B = r at *
  generalize B ^ i = P at *
  generalize val B (ys.take i) = Y at *
  generalize val B (xs.take i) = X at *
  generalize val B (zs.take i) = Z at *
  have e : r = x + z + c - B * q := by omega
  subst e
  grind

theorem small_step (B : Int) (xs ys : List Int) (j : Nat) (hx : j < xs.length) (hy : j < ys.length) (d r T q r' : Int) (hT : T = r * B + xs[j]?.getD 0) (hq : T = d * q + r')
    (E : val B (xs.drop (j + 1)) = val B (ys.drop (j + 1)) * d + r) :
    val B (xs.drop j) = val B ((ys.set j q).drop j) * d + r' := by
  rw [val_drop B xs j hx, val_drop B (ys.set j q) j (by rw [List.length_set]; exact hy), List.getElem?_set_self hy, List.drop_set_of_lt (by omega), E]
  simp only [Option.getD_some]
  generalize xs[j]?.getD 0 = x at *
  generalize val B (ys.drop (j + 1)) = Y at *
  have : x = d * q + r' - r * B := by omega
  subst this
  grind
end Go.Proofs.YtbcbmkeeoognpaaGreatDoor


/- math/bits.LeadingZeros32. -/
namespace Go.Proofs.YtbcbmkeeoognpaaGreatDoor
open Go.RowKit
theorem lz32_calls (x : Int) (w : World) (h0 : 0 ≤ x) (h1 : x ≤ 4294967295) :
    Calls Tryz.prog 240 #[.int .u32 x] w fun e w' => e = .returned (.int .i64 (32 - Lib.bitLen x.toNat)) ∧ w = w' := by
  have H := Lib.hid (len32_calls x w h0 h1)
  have hb := Lib.bitLen_le x.toNat 32 (by omega) (by omega)
  generalize Lib.bitLen x.toNat = l at *
  go_enter Tryz.func240, Tryz.ntmps240
  go_wp2_with fail
  refine (H.out).mono ?_
  rintro e w' ⟨rfl, rfl⟩
  go_wp2
  go_ret
  exact ⟨rfl, rfl⟩

/-- The highest limb moved up until its highest bit is set. -/
theorem lz32_top (x : Int) (h0 : 0 < x) (h1 : x < 4294967296) : ∃ r : Nat, r < 32 ∧ (32 : Int) - Lib.bitLen x.toNat = r ∧ 2147483648 ≤ x * 2 ^ r ∧ (x + 1) * 2 ^ r ≤ 4294967296 ∧ (2 : Int) ^ r ≤ 2147483648 := by
  obtain ⟨x, rfl⟩ := Int.eq_ofNat_of_zero_le (Int.le_of_lt h0)
  have e := bitLen_blen x (by omega)
  have p0 := blen_pos x (by omega)
  have p1 := blen_lt x
  have p2 := blen_ge x (by omega)
  have p3 := Lib.bitLen_le x 32 (by omega) (by omega)
  rw [show ((x : Int)).toNat = x by simp, e]
  rw [e] at p3
  generalize blen x = l at *
  refine ⟨32 - l, by omega, by omega, ?_, ?_, ?_⟩
  · have k : 2 ^ (l - 1) * 2 ^ (32 - l) = 2147483648 := by rw [← Nat.pow_add, show l - 1 + (32 - l) = 31 by omega]
    have := Nat.mul_le_mul_right (2 ^ (32 - l)) p2
    rw [k] at this
    have c : (x : Int) * 2 ^ (32 - l) = ((x * 2 ^ (32 - l) : Nat) : Int) := by simp
    rw [c]; omega
  · have k : 2 ^ l * 2 ^ (32 - l) = 4294967296 := by rw [← Nat.pow_add, show l + (32 - l) = 32 by omega]
    have := Nat.mul_le_mul_right (2 ^ (32 - l)) (show x + 1 ≤ 2 ^ l by omega)
    rw [k] at this
    have c : ((x : Int) + 1) * 2 ^ (32 - l) = (((x + 1) * 2 ^ (32 - l) : Nat) : Int) := by simp
    rw [c]; omega
  · have : ∀ l : Nat, l < 33 → 0 < l → 2 ^ (32 - l) ≤ 2147483648 := by decide
    have h := this l (by omega) p0
    have c : ((2 : Int) ^ (32 - l)) = ((2 ^ (32 - l) : Nat) : Int) := by simp
    rw [c]; omega
end Go.Proofs.YtbcbmkeeoognpaaGreatDoor

