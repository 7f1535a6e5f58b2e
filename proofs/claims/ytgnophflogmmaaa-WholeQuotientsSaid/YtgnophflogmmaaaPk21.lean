/- Contracts of functions, and plain facts, part 21. -/
import Derived.Test.YtgnophflogmmaaaProg
import Derived.Deep.QuietTactic
import Derived.BigQuiet
import Derived.Test.YtgnophflogmmaaaPk1
import Derived.Test.YtgnophflogmmaaaPk2
import Derived.Test.YtgnophflogmmaaaPk4
import Derived.Test.YtgnophflogmmaaaPk9
import Derived.Test.YtgnophflogmmaaaPk20
set_option linter.unusedVariables false
set_option linter.unusedSimpArgs false
/- nat.Mul: what the call answers. -/
namespace Go.Proofs.Ytgnophflogmmaaa
open Go.RowKit

/-- The row behind i places of the first number. -/
def MulR (w : World) (t : TypeId) (xs zs : List Int) (m n i : Nat) (wr : World) : Prop :=
  ∃ ys, Blk wr w.heap.size t .u32 ys ∧ ys.length = m + n ∧ Dig 4294967296 ys ∧ Below w.heap.size w wr ∧ val 4294967296 ys = val 4294967296 (xs.take i) * val 4294967296 zs ∧ ∀ j, i + n ≤ j → ys[j]?.getD 0 = 0
/-- The row behind k places of the second one, c carried. -/
def MulI (w : World) (t : TypeId) (xs zs : List Int) (m n i k : Nat) (c : Int) (wr : World) : Prop :=
  ∃ ys, Blk wr w.heap.size t .u32 ys ∧ ys.length = m + n ∧ Dig 4294967296 ys ∧ Below w.heap.size w wr ∧ 0 ≤ c ∧ c < 4294967296 ∧
    val 4294967296 ys + c * 4294967296 ^ (i + k) = val 4294967296 (xs.take i) * val 4294967296 zs + xs[i]?.getD 0 * 4294967296 ^ i * val 4294967296 (zs.take k) ∧ ∀ j, i + n ≤ j → ys[j]?.getD 0 = 0

/-- nat.Mul: the product. -/
theorem mul_calls (ad bd : Option Addr) (na nb ca cb : Nat) (la lb : List Int) (w : World) (hl : (na + nb) * 4 ≤ 281474976710656) (hac : na ≤ ca) (hbc : nb ≤ cb)
    (ha : Rds w .u32 ad na la) (hb : Rds w .u32 bd nb lb) (da : Dig 4294967296 la) (db : Dig 4294967296 lb) :
    Calls Try.prog 75 #[.slice ad na ca, .slice bd nb cb] w (RetL 78 .u32 (dg 4294967296 (val 4294967296 la * val 4294967296 lb)) w) := by
  have rx := ha.norm
  have rz := hb.norm
  have dx := norm_dig da
  have dz := norm_dig db
  have hma := norm_length_le la
  have hnb := norm_length_le lb
  rw [ha.len] at hma
  rw [hb.len] at hnb
  have HV : Hid (val 4294967296 (norm la) * val 4294967296 (norm lb) = val 4294967296 la * val 4294967296 lb) := by rw [val_norm, val_norm]; rfl
  have c1 := cut_calls ad na ca la w (by omega) hac ha
  have c2 := cut_calls bd nb cb lb w (by omega) hbc hb
  have C1 := Lib.hid c1
  have C2 := Lib.hid c2
  clear c1 c2 ha hb
  generalize norm la = xs at *
  generalize norm lb = zs at *
  obtain ⟨m, hm⟩ : ∃ m, xs.length = m := ⟨_, rfl⟩
  obtain ⟨n, hn⟩ : ∃ n, zs.length = n := ⟨_, rfl⟩
  rw [hm] at rx hma C1
  rw [hn] at rz hnb C2
  have HM := Lib.hid hm
  have HN := Lib.hid hn
  clear hm hn
  have hmk := make_rule (P := Try.prog) 23 78 .u32 4 Try.underlying23 info_limb (by omega) (m + n) (by omega) ((m : Int) + n) (by omega)
  go_enter Try.func75, Try.ntmps75
  go_wp2_with fail
  refine (C1.out).mono ?_
  rintro e w' ⟨rfl, rfl⟩
  go_wp2_with fail
  refine (C2.out).mono ?_
  rintro e w' ⟨rfl, rfl⟩
  go_wp2_with fail
  clear hmk
  have hr0 : MulR w 78 xs zs m n 0 (w.alloc (.cells (nums .u32 (List.replicate (m + n) 0)).toArray 78)) :=
    ⟨_, Blk.made _ _ _ _ _ rfl, by simp, Dig.replicate _ (by omega) _, (Below.refl _ _).alloc (Nat.le_refl _) _, by simp [val, val_replicate], fun j _ => by simp [List.getElem?_replicate]; split <;> rfl⟩
  go_loopw [21] (fun i wr => ∃ k : Nat, k ≤ m ∧ i = .int .i64 k ∧ MulR w 78 xs zs m n k wr) (fun i _ => m - (intOf i).toNat)
  case atStart => exact ⟨0, Nat.zero_le _, rfl, hr0⟩
  case round =>
    obtain ⟨i, hi, rfl, hR⟩ := hrel
    clear hr0
    by_cases him : i < m
    · have hI0 : MulI w 78 xs zs m n i 0 0 wr := by
        obtain ⟨ys, h1, h2, h3, h4, h5, h6⟩ := hR
        exact ⟨ys, h1, h2, h3, h4, by omega, by omega, by simp [h5, val], h6⟩
      clear hR
      go_wp2
      go_loopw [26, 7] (fun j cy wr => ∃ k : Nat, ∃ c : Int, k ≤ n ∧ j = .int .i64 k ∧ cy = .int .u64 c ∧ MulI w 78 xs zs m n i k c wr) (fun j _ _ => n - (intOf j).toNat)
      case atStart => exact ⟨0, 0, Nat.zero_le _, rfl, rfl, hI0⟩
      case round =>
        clear hI0
        obtain ⟨k, c, hk, rfl, rfl, ys, h1, h2, h3, h4, hc0, hc1, h5, h6⟩ := hrel
        have H2 := Lib.hid h2
        have H5 := Lib.hid h5
        have H6 := Lib.hid h6
        clear h2 h5 h6
        by_cases hkn : k < n
        · obtain ⟨a, rfl, hx⟩ := rx.cell i him
          obtain ⟨b, rfl, hz⟩ := rz.cell k hkn
          have hxl : wr.cell? (a.add i) = some (.int .u32 (xs[i]?.getD 0)) := (h4.cell (by simpa [Addr.add] using World.block_lt_of_cell? w _ hx)).trans hx
          have hzl : wr.cell? (b.add k) = some (.int .u32 (zs[k]?.getD 0)) := (h4.cell (by simpa [Addr.add] using World.block_lt_of_cell? w _ hz)).trans hz
          have hy := h1.cell (i + k) (by rw [H2.out]; omega)
          have hf := h1.free (i + k)
          clear hx hz
          have S := mul_step 4294967296 ys (i + k) (by rw [H2.out]; omega) _ c (xs[i]?.getD 0 * zs[k]?.getD 0) rfl
          have bx := dx.get (by omega) i
          have bz := dz.get (by omega) k
          have bo := h3.get (by omega) (i + k)
          have bb := mul_bound (o := ys[i + k]?.getD 0) rfl bx.1 bx.2 bz.1 bz.2 bo.1 bo.2 hc0 hc1
          have N := mul_inner 4294967296 _ _ zs ys _ i k (by rw [HN.out]; exact hkn) c _ H5.out S
          have HS := Lib.hid N
          clear S N H5
          generalize hgx : xs[i]?.getD 0 = x at *
          have HX := Lib.hid hgx
          clear hgx
          generalize zs[k]?.getD 0 = z at *
          generalize hgy : ys[i + k]?.getD 0 = y at *
          have HY := Lib.hid hgy
          clear hgy
          generalize ht : x * z = t at *
          have HT := Lib.hid ht
          clear ht
          obtain ⟨bt0, bt1, bs0, bs1⟩ := bb
          have W1 : IntKind.i64.wrap ((i : Int) + k) = (i : Int) + k := IntWalk.i64_in _ (by omega)
          have W2 : IntKind.u64.wrap (x * z) = t := by rw [HT.out]; exact IntWalk.u64_in _ (by omega)
          have W3 : IntKind.u64.wrap (t + y) = t + y := IntWalk.u64_in _ (by omega)
          have W4 : IntKind.u64.wrap (c + (t + y)) = c + (t + y) := IntWalk.u64_in _ (by omega)
          have W5 : ((i : Int) + k).toNat = i + k := by omega
          have W6 : (0 : Int) ≤ (i : Int) + k := by omega
          go_wp2_with fail
          go_quiet (fail)
          clear W1 W2 W3 W4 W5 W6
          go_wp2
          go_roundw
          case rel =>
            refine ⟨k + 1, _, by omega, by go_num, rfl, _, (h1.drewN nq).set (i + k) _, by simp [H2.out], h3.set (by omega) (by omega) _, below_set (below_drewN h4 nq) _ _ _ (Nat.le_refl _), by omega, by omega, by rw [HX.out]; exact HS.out, fun j hj => ?_⟩
            rw [List.getElem?_set_ne (by omega)]
            exact H6.out j (by omega)
          case measure => simp [intOf]; omega
        · obtain rfl : k = n := by omega
          have hy := h1.cell (i + k) (by rw [H2.out]; omega)
          have hf := h1.free (i + k)
          have bo := h3.get (by omega) (i + k)
          have E := mul_outer 4294967296 xs zs ys i k (by rw [HM.out]; exact him) HN.out.symm (by rw [H2.out]; omega) c (H6.out _ (Nat.le_refl _)) H5.out
          have HE := Lib.hid E
          clear E
          go_wp2
          go_roundw
          case rel =>
            refine ⟨i + 1, by omega, by go_num, _, h1.set (i + k) c, by simp [H2.out], h3.set hc0 hc1 _, below_set h4 _ _ _ (Nat.le_refl _), HE.out, fun j hj => ?_⟩
            rw [List.getElem?_set_ne (by omega)]
            exact H6.out j (by omega)
          case measure => simp [intOf]; omega
    · obtain rfl : i = m := by omega
      obtain ⟨ys, h1, h2, h3, h4, h5, h6⟩ := hR
      have H2 := Lib.hid h2
      have H5 := Lib.hid h5
      have H6 := Lib.hid h6
      clear h2 h5 h6
      have hk := cut_calls (some ⟨w.heap.size, 0, none⟩) (i + n) (i + n) ys wr (by omega) (Nat.le_refl _) (by have := h1.rds; rwa [H2.out] at this)
      go_wp2_with fail
      refine hk.mono ?_
      rintro e w' ⟨rfl, rfl⟩
      go_wp2_with fail
      go_ret
      refine h1.ret (Nat.le_refl _) (by rw [H2.out]; omega) h3 _ ?_ h4
      rw [← HV.out, H5.out, ← HM.out, List.take_length]
end Go.Proofs.Ytgnophflogmmaaa

/- nat.Add: the sum. -/
namespace Go.Proofs.Ytgnophflogmmaaa
open Go.RowKit

def AddR (w : World) (xs zs : List Int) (n i : Nat) (c : Int) (wr : World) : Prop :=
  ∃ ys, Blk wr w.heap.size 78 .u32 ys ∧ ys.length = n + 1 ∧ Dig 4294967296 ys ∧ Below w.heap.size w wr ∧ 0 ≤ c ∧ c ≤ 1 ∧
    val 4294967296 (ys.take i) + c * 4294967296 ^ i = val 4294967296 (xs.take i) + val 4294967296 (zs.take i)

set_option maxHeartbeats 1000000 in
/-- The longer one may stand behind the shorter one. -/
theorem add_core (sw : Bool) (xd zd : Option Addr) (n m cx cz : Nat) (xs zs : List Int) (w : World) (hn : n ≤ 70368744177663) (hm : m ≤ n) (hsw : sw = true → m < n) (hxc : n ≤ cx) (hzc : m ≤ cz)
    (hx : Rds w .u32 xd n xs) (hz : Rds w .u32 zd m zs) (dx : Dig 4294967296 xs) (dz : Dig 4294967296 zs) :
    Calls Try.prog 96 (if sw then #[.slice zd m cz, .slice xd n cx] else #[.slice xd n cx, .slice zd m cz]) w (RetL 78 .u32 (dg 4294967296 (val 4294967296 xs + val 4294967296 zs)) w) := by
  have HX := Lib.hid hx.len
  have HZ := Lib.hid hz.len
  have hmk := make_rule (P := Try.prog) 23 78 .u32 4 Try.underlying23 info_limb (by omega) (n + 1) (by omega) ((n : Int) + 1) (by omega)
  have hr0 : AddR w xs zs n 0 0 (w.alloc (.cells (nums .u32 (List.replicate (n + 1) 0)).toArray 78)) :=
    ⟨_, Blk.made _ _ _ _ _ rfl, by simp, Dig.replicate _ (by omega) _, (Below.refl _ _).alloc (Nat.le_refl _) _, by omega, by omega, by simp [val]⟩
  cases sw
  all_goals
    have hlt := hsw
    clear hsw
    simp only [if_true, if_false, Bool.false_eq_true]
    first
      | (have hlt2 := hlt rfl; clear hlt)
      | (have hlt2 : ¬ n < m := by omega)
    go_enter Try.func96, Try.ntmps96
    go_wp2
    clear hmk
    go_loopw [22, 6] (fun i cy wr => ∃ k : Nat, ∃ c : Int, k ≤ n ∧ i = .int .i64 k ∧ cy = .int .u32 c ∧ AddR w xs zs n k c wr) (fun i _ _ => n - (intOf i).toNat)
    case atStart => exact ⟨0, 0, Nat.zero_le _, rfl, rfl, hr0⟩
    case round =>
      clear hr0
      obtain ⟨k, c, hk, rfl, rfl, ys, h1, h2, h3, h4, hc0, hc1, h5⟩ := hrel
      have H2 := Lib.hid h2
      have H5 := Lib.hid h5
      clear h2 h5
      by_cases hkn : k < n
      · obtain ⟨a, rfl, hxl⟩ := (hx.below h4 (Nat.le_refl _)).cell k hkn
        have hf := h1.free k
        have hy := h1.cell k (by rw [H2.out]; omega)
        have HS := Lib.hid (add_step 4294967296 xs zs ys k (by rw [H2.out]; omega) c _ rfl H5.out)
        clear H5
        have bx := dx.get (by omega) k
        have bz := dz.get (by omega) k
        by_cases hkm : k < m
        · obtain ⟨b, rfl, hzl⟩ := (hz.below h4 (Nat.le_refl _)).cell k hkm
          have ha := Lib.hid (add32_calls (xs[k]?.getD 0) (zs[k]?.getD 0) c wr bx bz (by omega))
          generalize xs[k]?.getD 0 = x at *
          generalize zs[k]?.getD 0 = z at *
          go_wp2_with fail
          refine (ha.out).mono ?_
          rintro e w' ⟨rfl, rfl⟩
          clear ha
          go_wp2
          go_roundw
          case rel => exact ⟨k + 1, _, by omega, by go_num, rfl, _, h1.set k _, by simp [H2.out], h3.set (by omega) (by omega) _, below_set h4 _ _ _ (Nat.le_refl _), by omega, by omega, HS.out⟩
          case measure => simp [intOf]; omega
        · have hz0 : zs[k]?.getD 0 = 0 := by rw [List.getElem?_eq_none (by rw [HZ.out]; omega)]; rfl
          have ha := Lib.hid (add32_calls (xs[k]?.getD 0) 0 c wr bx (by omega) (by omega))
          rw [hz0, Int.add_zero] at HS
          clear hz0 bz
          generalize xs[k]?.getD 0 = x at *
          go_wp2_with fail
          refine (ha.out).mono ?_
          rintro e w' ⟨rfl, rfl⟩
          clear ha
          go_wp2
          go_roundw
          case rel => exact ⟨k + 1, _, by omega, by go_num, rfl, _, h1.set k _, by simp [H2.out], h3.set (by omega) (by omega) _, below_set h4 _ _ _ (Nat.le_refl _), by omega, by omega, HS.out⟩
          case measure => simp [intOf]; omega
      · obtain rfl : k = n := by omega
        have hf := h1.free k
        have hy := h1.cell k (by rw [H2.out]; omega)
        have k2 := h1.set k c
        have b2 := below_set h4 w.heap.size k (.int .u32 c) (Nat.le_refl _)
        have d2 := h3.set hc0 (show c < 4294967296 by omega) k
        have HV := Lib.hid (add_end 4294967296 xs zs ys k HX.out (by rw [HZ.out]; exact hm) H2.out c H5.out)
        have hcut := Lib.hid (cut_calls (some ⟨w.heap.size, 0, none⟩) (k + 1) (k + 1) _ _ (by omega) (Nat.le_refl _) (by have := k2.rds; rwa [List.length_set, H2.out] at this))
        have R := Lib.hid (k2.ret (Nat.le_refl _) (by rw [List.length_set, H2.out]; omega) d2 _ HV.out b2)
        go_wp2_with fail
        refine (hcut.out).mono ?_
        rintro e w' ⟨rfl, rfl⟩
        go_wp2_with fail
        go_ret
        exact R.out

theorem add_calls (ad bd : Option Addr) (na nb ca cb : Nat) (la lb : List Int) (w : World) (hna : na ≤ 70368744177663) (hnb : nb ≤ 70368744177663) (hac : na ≤ ca) (hbc : nb ≤ cb)
    (ha : Rds w .u32 ad na la) (hb : Rds w .u32 bd nb lb) (da : Dig 4294967296 la) (db : Dig 4294967296 lb) :
    Calls Try.prog 96 #[.slice ad na ca, .slice bd nb cb] w (RetL 78 .u32 (dg 4294967296 (val 4294967296 la + val 4294967296 lb)) w) := by
  by_cases h : na < nb
  · rw [Int.add_comm]
    exact add_core true bd ad nb na cb ca lb la w hnb (by omega) (fun _ => h) hbc hac hb ha db da
  · exact add_core false ad bd na nb ca cb la lb w hna (by omega) (fun h => by cases h) hac hbc ha hb da db
end Go.Proofs.Ytgnophflogmmaaa

/- nat.Sub: the difference, or that there is none. -/
namespace Go.Proofs.Ytgnophflogmmaaa
open Go.RowKit

def SubR (w : World) (xs zs : List Int) (n i : Nat) (c : Int) (wr : World) : Prop :=
  ∃ ys, Blk wr w.heap.size 78 .u32 ys ∧ ys.length = n ∧ Dig 4294967296 ys ∧ Below w.heap.size w wr ∧ 0 ≤ c ∧ c ≤ 1 ∧
    val 4294967296 (ys.take i) + val 4294967296 (zs.take i) = val 4294967296 (xs.take i) + c * 4294967296 ^ i

theorem brw_mod (x z c : Int) (hx : 0 ≤ x ∧ x < 4294967296) (hz : 0 ≤ z ∧ z < 4294967296) (hc : 0 ≤ c ∧ c ≤ 1) :
    (x - z - c) % 4294967296 = x - z - c + brw x z c * 4294967296 ∧ 0 ≤ brw x z c ∧ brw x z c ≤ 1 := by
  unfold brw
  split <;> omega

set_option maxHeartbeats 1000000 in
theorem nsub_calls (ad bd : Option Addr) (na nb ca cb : Nat) (la lb : List Int) (w : World) (hna : na ≤ 70368744177664) (hnb : nb ≤ 70368744177664) (hac : na ≤ ca) (hbc : nb ≤ cb)
    (ha : Rds w .u32 ad na la) (hb : Rds w .u32 bd nb lb) (da : Dig 4294967296 la) (db : Dig 4294967296 lb) :
    Calls Try.prog 97 #[.slice ad na ca, .slice bd nb cb] w (RetLB 78 .u32 (dg 4294967296 (val 4294967296 la - val 4294967296 lb)) (decide (val 4294967296 lb ≤ val 4294967296 la)) w) := by
  have hc := Lib.hid (ncmp_calls ad bd na nb ca cb la lb w hna hnb hac hbc ha hb da db)
  by_cases hle : val 4294967296 lb ≤ val 4294967296 la
  · have hcm : (cmpI (val 4294967296 la) (val 4294967296 lb)) < 0 ↔ False := by unfold cmpI; simp; split <;> omega
    have HD := Lib.hid (decide_eq_true hle)
    have hcn : ¬ (cmpI (val 4294967296 la) (val 4294967296 lb)) < 0 := by simp [hcm]
    clear hcm
    generalize cmpI (val 4294967296 la) (val 4294967296 lb) = cc at *
    have rx := ha.norm
    have rz := hb.norm
    have dx := norm_dig da
    have dz := norm_dig db
    have hma := norm_length_le la
    have hnb' := norm_length_le lb
    rw [ha.len] at hma
    rw [hb.len] at hnb'
    have C1 := Lib.hid (fun q => cut_calls ad na ca la (w.drewN q) (by omega) hac (ha.drewN q))
    have C2 := Lib.hid (fun q => cut_calls bd nb cb lb (w.drewN q) (by omega) hbc (hb.drewN q))
    have hle2 : (norm lb).length ≤ (norm la).length := by
      rcases Nat.lt_or_ge (norm la).length (norm lb).length with h | h
      · have := lt_of_len (b := 4294967296) (by omega) dx dz (norm_norm lb) h
        rw [val_norm, val_norm] at this
        omega
      · exact h
    have HL := Lib.hid hle
    rw [← val_norm 4294967296 la, ← val_norm 4294967296 lb] at HL
    rw [← val_norm 4294967296 la, ← val_norm 4294967296 lb]
    rw [← val_norm 4294967296 la, ← val_norm 4294967296 lb] at HD
    clear ha hb da db hle
    generalize norm la = xs at *
    generalize norm lb = zs at *
    obtain ⟨m, hm⟩ : ∃ m, xs.length = m := ⟨_, rfl⟩
    obtain ⟨n, hn⟩ : ∃ n, zs.length = n := ⟨_, rfl⟩
    rw [hm] at rx hma C1 hle2
    rw [hn] at rz hnb' C2 hle2
    have HM := Lib.hid hm
    have HN := Lib.hid hn
    clear hm hn
    have hmk := make_rule (P := Try.prog) 23 78 .u32 4 Try.underlying23 info_limb (by omega) m (by omega) (m : Int) rfl
    go_enter Try.func97, Try.ntmps97
    go_wp2_with fail
    refine (hc.out).mono ?_
    rintro e w' ⟨rfl, q, rfl⟩
    have b0 := below_drewN (Below.refl w.heap.size w) q
    have C1' := Lib.hid (C1.out q)
    have C2' := Lib.hid (C2.out q)
    have rx' := rx.drewN q
    have rz' := rz.drewN q
    clear C1 C2 rx rz
    have hsz : (w.drewN q).heap.size = w.heap.size := rfl
    generalize w.drewN q = w1 at *
    go_wp2_with fail
    refine (C1'.out).mono ?_
    rintro e w' ⟨rfl, rfl⟩
    go_wp2_with fail
    refine (C2'.out).mono ?_
    rintro e w' ⟨rfl, rfl⟩
    clear hc C1' C2'
    have HS := Lib.hid hsz
    clear hsz
    have hr0 : SubR w1 xs zs m 0 0 (w1.alloc (.cells (nums .u32 (List.replicate m 0)).toArray 78)) :=
      ⟨_, Blk.made _ _ _ _ _ rfl, by simp, Dig.replicate _ (by omega) _, (Below.refl _ _).alloc (Nat.le_refl _) _, by omega, by omega, by simp [val]⟩
    go_wp2_with fail
    clear hmk
    go_loopw [23, 7] (fun i cy wr => ∃ k : Nat, ∃ c : Int, k ≤ m ∧ i = .int .i64 k ∧ cy = .int .u32 c ∧ SubR w1 xs zs m k c wr) (fun i _ _ => m - (intOf i).toNat)
    case atStart => exact ⟨0, 0, Nat.zero_le _, rfl, rfl, hr0⟩
    case round =>
      clear hr0
      obtain ⟨k, c, hk, rfl, rfl, ys, h1, h2, h3, h4, hc0, hc1, h5⟩ := hrel
      have H2 := Lib.hid h2
      have H5 := Lib.hid h5
      clear h2 h5
      by_cases hkm : k < m
      · obtain ⟨a, rfl, hxl⟩ := (rx'.below h4 (Nat.le_refl _)).cell k hkm
        have hf := h1.free k
        have hy := h1.cell k (by rw [H2.out]; omega)
        have bx := dx.get (by omega) k
        have bz := dz.get (by omega) k
        have bm := brw_mod _ _ c bx bz ⟨hc0, hc1⟩
        have HS2 := Lib.hid (sub_step 4294967296 xs zs ys k (by rw [H2.out]; omega) c _ _ bm.1 H5.out)
        obtain ⟨bm0, bb0, bb1⟩ := bm
        clear bm0
        clear H5
        by_cases hkn : k < n
        · obtain ⟨b, rfl, hzl⟩ := (rz'.below h4 (Nat.le_refl _)).cell k hkn
          have hs := Lib.hid (sub32_calls (xs[k]?.getD 0) (zs[k]?.getD 0) c wr bx bz ⟨hc0, hc1⟩)
          generalize xs[k]?.getD 0 = x at *
          generalize zs[k]?.getD 0 = z at *
          generalize brw x z c = bo at *
          go_wp2_with fail
          refine (hs.out).mono ?_
          rintro e w' ⟨rfl, rfl⟩
          clear hs
          go_wp2
          go_roundw
          case rel => exact ⟨k + 1, _, by omega, by go_num, rfl, _, h1.set k _, by simp [H2.out], h3.set (by omega) (by omega) _, below_set h4 _ _ _ (Nat.le_refl _), bb0, bb1, HS2.out⟩
          case measure => simp [intOf]; omega
        · have hz0 : zs[k]?.getD 0 = 0 := by rw [List.getElem?_eq_none (by rw [HN.out]; omega)]; rfl
          rw [hz0] at HS2 bb0 bb1
          have hs := Lib.hid (sub32_calls (xs[k]?.getD 0) 0 c wr bx (by omega) ⟨hc0, hc1⟩)
          rw [Int.sub_zero] at HS2 hs
          clear hz0 bz
          generalize xs[k]?.getD 0 = x at *
          generalize brw x 0 c = bo at *
          go_wp2_with fail
          refine (hs.out).mono ?_
          rintro e w' ⟨rfl, rfl⟩
          clear hs
          go_wp2
          go_roundw
          case rel => exact ⟨k + 1, _, by omega, by go_num, rfl, _, h1.set k _, by simp [H2.out], h3.set (by omega) (by omega) _, below_set h4 _ _ _ (Nat.le_refl _), bb0, bb1, HS2.out⟩
          case measure => simp [intOf]; omega
      · obtain rfl : k = m := by omega
        have HV := Lib.hid (sub_end 4294967296 (by omega) xs zs ys k h3 HM.out (by rw [HN.out]; exact hle2) H2.out c hc0 HL.out H5.out)
        have hcut := Lib.hid (cut_calls (some ⟨w1.heap.size, 0, none⟩) k k _ wr (by omega) (Nat.le_refl _) (by have := h1.rds; rwa [H2.out] at this))
        have R := h1.ret (Nat.le_refl _) (by rw [H2.out]; omega) h3 _ HV.out h4
        obtain ⟨rd, rn, rc, re, ro, rb⟩ := R
        have RE := Lib.hid re
        clear re
        go_wp2_with fail
        refine (hcut.out).mono ?_
        rintro e w' ⟨rfl, rfl⟩
        go_wp2_with fail
        go_ret2
        rw [HD.out]
        have re := RE.out
        injection re with re
        injection re with e1 e2 e3
        refine ⟨rd, rn, rc, ?_, ?_, ?_⟩
        · rw [← e1, ← e2, ← e3]; rfl
        · rw [← HS.out]; exact ro
        · rw [← HS.out] at b0 ⊢
          exact below_then b0 (Nat.le_refl _) rb
  · have hcn : (cmpI (val 4294967296 la) (val 4294967296 lb)) < 0 := by unfold cmpI; split <;> omega
    have HD := Lib.hid (decide_eq_false hle)
    have HZ := Lib.hid (show dg 4294967296 (val 4294967296 la - val 4294967296 lb) = [] by
      unfold dg
      rw [digs_nil _ _ (by omega)]
      omega)
    generalize cmpI (val 4294967296 la) (val 4294967296 lb) = cc at *
    clear hle
    go_enter Try.func97, Try.ntmps97
    go_wp2_with fail
    refine (hc.out).mono ?_
    rintro e w' ⟨rfl, q, rfl⟩
    go_wp2
    go_ret2
    rw [HD.out, HZ.out]
    exact ⟨none, 0, 0, rfl, Own.nil _ _ _ _ _, below_drewN (Below.refl _ _) q⟩
end Go.Proofs.Ytgnophflogmmaaa

/- Mul by worth alone. -/
namespace Go.Proofs.Ytgnophflogmmaaa
open Go.RowKit

theorem num_mul (ad bd : Option Addr) (n m c d : Nat) (V U : Int) (w : World) (h : Num w ad n c V) (k : Num w bd m d U) (hn : n ≤ 35184372088832) (hm : m ≤ 35184372088832) :
    Calls Try.prog 75 #[.slice ad n c, .slice bd m d] w (RetC (V * U) w) := by
  obtain ⟨xs, h1, h2, rfl⟩ := h.row
  obtain ⟨zs, k1, k2, rfl⟩ := k.row
  exact (mul_calls ad bd n m c d xs zs w (by omega) h.le k.le h1 k1 h2 k2).mono fun e w' q => q.can
end Go.Proofs.Ytgnophflogmmaaa

/- Add by worth alone. -/
namespace Go.Proofs.Ytgnophflogmmaaa
open Go.RowKit

theorem num_add (ad bd : Option Addr) (n m c d : Nat) (V U : Int) (w : World) (h : Num w ad n c V) (k : Num w bd m d U) (hn : n ≤ 70368744177663) (hm : m ≤ 70368744177663) :
    Calls Try.prog 96 #[.slice ad n c, .slice bd m d] w (RetC (V + U) w) := by
  obtain ⟨xs, h1, h2, rfl⟩ := h.row
  obtain ⟨zs, k1, k2, rfl⟩ := k.row
  exact (add_calls ad bd n m c d xs zs w (by omega) (by omega) h.le k.le h1 k1 h2 k2).mono fun e w' q => q.can
end Go.Proofs.Ytgnophflogmmaaa

/- NSub by worth alone. -/
namespace Go.Proofs.Ytgnophflogmmaaa
open Go.RowKit

theorem num_sub (ad bd : Option Addr) (n m c d : Nat) (V U : Int) (w : World) (h : Num w ad n c V) (k : Num w bd m d U) (hn : n ≤ 70368744177663) (hm : m ≤ 70368744177663) :
    Calls Try.prog 97 #[.slice ad n c, .slice bd m d] w (RetCB (V - U) (decide (U ≤ V)) w) := by
  obtain ⟨xs, h1, h2, rfl⟩ := h.row
  obtain ⟨zs, k1, k2, rfl⟩ := k.row
  exact (nsub_calls ad bd n m c d xs zs w (by omega) (by omega) h.le k.le h1 k1 h2 k2).mono fun e w' q => q.can
end Go.Proofs.Ytgnophflogmmaaa

/- whole: Sum. (Printed by whole.py.) -/
namespace Go.Proofs.Ytgnophflogmmaaa
open Go.RowKit

theorem sum_same (N M : Int) (h : M = 0 ∨ sgI N = sgI M) (hN : N ≠ 0) : sgI N = sgI (N + M) ∧ ((N + M).natAbs : Int) = N.natAbs + M.natAbs := by
  unfold sgI at *
  rcases h with h | h
  · subst h; simp
  · by_cases h1 : N < 0 <;> by_cases h2 : M < 0 <;> by_cases h3 : M = 0 <;> simp [h1, h2, h3, hN] at h ⊢ <;> (try split) <;> (try split) <;> omega
theorem sum_first (N M : Int) (h : sgI N ≠ sgI M) (hN : N ≠ 0) (hM : M ≠ 0) (hle : (M.natAbs : Int) ≤ N.natAbs) : ((N + M).natAbs : Int) = N.natAbs - M.natAbs ∧ (decide (sgI N = -1) && decide (0 < (N.natAbs : Int) - M.natAbs)) = decide (N + M < 0) := by
  unfold sgI at *
  by_cases h1 : N < 0 <;> by_cases h2 : M < 0 <;> simp [h1, h2, hN, hM] at h ⊢ <;> omega
theorem sum_second (N M : Int) (h : sgI N ≠ sgI M) (hN : N ≠ 0) (hM : M ≠ 0) (hlt : (N.natAbs : Int) < M.natAbs) : ((N + M).natAbs : Int) = M.natAbs - N.natAbs ∧ (decide (sgI M = -1) && decide (0 < (M.natAbs : Int) - N.natAbs)) = decide (N + M < 0) := by
  unfold sgI at *
  by_cases h1 : N < 0 <;> by_cases h2 : M < 0 <;> simp [h1, h2, hN, hM] at h ⊢ <;> omega
theorem sg_zero (N : Int) : sgI N = 0 ↔ N = 0 := by unfold sgI; split <;> (try split) <;> omega

set_option maxHeartbeats 2000000 in
theorem wsum_calls (N M : Int) (ad1 ad2 : Option Addr) (n1 n2 c1 c2 : Nat) (V U : Int) (w : World) (f1 : Can w ad1 n1 c1 V) (f2 : Can w ad2 n2 c2 U) (hV : V = N.natAbs) (hU : U = M.natAbs) (hn1 : n1 ≤ 70368744177663) (hn2 : n2 ≤ 70368744177663) :
    Calls Try.prog 74 #[.int .i8 (sgI N), .slice ad1 n1 c1, .int .i8 (sgI M), .slice ad2 n2 c2] w (RetInt (N + M) w) := by
  have hV0 : 0 ≤ V := by omega
  have hU0 : 0 ≤ U := by omega
  by_cases hN : N = 0
  · subst hN
    have b0 := Below.refl w.heap.size w
    have l0 : Below w.heap.size w (w.alloc (.cells #[.bool false, .slice none 0 0] 25)) := (Below.refl _ _).alloc (Nat.le_refl _) _
    have b1 : Below w.heap.size w (w.alloc (.cells #[.bool false, .slice none 0 0] 25)) := below_trans b0 l0
    have k0 : Cel (w.alloc (.cells #[.bool false, .slice none 0 0] 25)) w.heap.size 25 [.bool false, .slice none 0 0] := Cel.made _ _ _ _ (by simp)
    replace f1 := f1.below b1 (Nat.le_refl _)
    replace f2 := f2.below b1 (Nat.le_refl _)
    clear b0 l0
    have hg0 : w.heap.size ≤ w.heap.size := Nat.le_refl _
    rw [Int.zero_add]
    have HAB := Lib.hid hU
    obtain ⟨r, hr⟩ : ∃ r, decide (M < 0) = r := ⟨_, rfl⟩
    have HR := Lib.hid hr
    have hsg := made_sign M U hU
    rw [hr] at hsg
    have HSG := Lib.hid hsg
    clear hr hsg
    rw [show sgI 0 = 0 from rfl]
    have hV0 := hU0
    have HU := Lib.hid hU
    clear hU hV
    generalize sgI M = s2 at *
    go_enter Try.func74, Try.ntmps74
    have HM := wmade_as s2 ad2 n2 c2 U r (w.alloc (.cells #[.bool false, .slice none 0 0] 25)) f2 hV0 HSG.out
    have h := Lib.hid (HM)
    have e0a := k0.cell 0 _ rfl
    have e0b := k0.cell 1 _ rfl
    go_wp2_with fail
    with_reducible refine (h.out).mono ?_
    rintro e v1 ⟨rfl, b⟩
    clear h
    clear e0a e0b
    replace k0 := k0.next b
    replace f2 := f2.below b (Nat.le_refl _)
    have bb := below_trans b1 b
    clear b b1
    have b1 := bb
    clear bb
    clear HM
    have g0 := k0.free 0
    have g1 := k0.free 1
    have e0a := k0.cell 0 _ rfl
    have e0b := k0.cell 1 _ rfl
    go_wp2_with fail
    refine bodyPost_ret (results_cell_row rfl _ _ w.heap.size 25 #[.bool r, .slice ad2 n2 c2] (0, 0) _ rfl ((k0.set 0 _).set 1 _).row Try.underlying25 rfl size_int) rfl ?_
    refine ⟨_, _, _, by rw [HR.out], ?_, below_set (below_set b1 _ _ _ hg0) _ _ _ hg0⟩
    rw [← HAB.out]
    exact f2.poke2 k0 _ _
  · by_cases hsame : M = 0 ∨ sgI N = sgI M
    · skip
      have b0 := Below.refl w.heap.size w
      have l0 : Below w.heap.size w (w.alloc (.cells #[.bool false, .slice none 0 0] 25)) := (Below.refl _ _).alloc (Nat.le_refl _) _
      have b1 : Below w.heap.size w (w.alloc (.cells #[.bool false, .slice none 0 0] 25)) := below_trans b0 l0
      have k0 : Cel (w.alloc (.cells #[.bool false, .slice none 0 0] 25)) w.heap.size 25 [.bool false, .slice none 0 0] := Cel.made _ _ _ _ (by simp)
      replace f1 := f1.below b1 (Nat.le_refl _)
      replace f2 := f2.below b1 (Nat.le_refl _)
      clear b0 l0
      have hg0 : w.heap.size ≤ w.heap.size := Nat.le_refl _
      obtain ⟨q1, q2⟩ := sum_same N M hsame hN
      have HAB := Lib.hid (show V + U = ((N + M).natAbs : Int) by rw [q2, hV, hU])
      obtain ⟨r, hr⟩ : ∃ r, decide (N + M < 0) = r := ⟨_, rfl⟩
      have HR := Lib.hid hr
      have hsg := made_sign (N + M) (V + U) HAB.out
      rw [hr] at hsg
      have HSG := Lib.hid hsg
      clear hr hsg
      rw [← q1] at HSG
      have hz : (sgI N == 0) = false := by rw [beq_eq_false_iff_ne]; exact fun e => hN ((sg_zero N).1 e)
      have HS := Lib.hid (show sgI M = 0 ∨ sgI N = sgI M from hsame.imp (fun e => (sg_zero M).2 e) id)
      have HVU := Lib.hid (And.intro hV hU)
      generalize sgI N = s1 at *
      generalize sgI M = s2 at *
      clear q1 q2 hV hU hsame hN
      have hA := num_add ad1 ad2 n1 n2 c1 c2 V U (w.alloc (.cells #[.bool false, .slice none 0 0] 25)) (f1.num hV0) (f2.num hU0) hn1 hn2
      replace hV0 : 0 ≤ V + U := by omega
      rcases HS.out with hs | hs
      all_goals
        subst hs
        go_enter Try.func74, Try.ntmps74
        have h := Lib.hid (hA)
        have e0a := k0.cell 0 _ rfl
        have e0b := k0.cell 1 _ rfl
        go_wp2_with fail
        with_reducible refine (h.out).mono ?_
        rintro e v1 ⟨fd, fn, fc, rfl, ff, b⟩
        clear h
        clear e0a e0b
        replace k0 := k0.next b
        have bb := below_trans b1 b
        clear b b1
        have b1 := bb
        clear bb
        clear hA
        have HM := wmade_as _ fd fn fc (V + U) r v1 ff hV0 HSG.out
        have h := Lib.hid (HM)
        have e0a := k0.cell 0 _ rfl
        have e0b := k0.cell 1 _ rfl
        go_wp2_with fail
        with_reducible refine (h.out).mono ?_
        rintro e v2 ⟨rfl, b⟩
        clear h
        clear e0a e0b
        replace k0 := k0.next b
        replace ff := ff.below b (Nat.le_refl _)
        have bb := below_trans b1 b
        clear b b1
        have b1 := bb
        clear bb
        clear HM
        have g0 := k0.free 0
        have g1 := k0.free 1
        have e0a := k0.cell 0 _ rfl
        have e0b := k0.cell 1 _ rfl
        go_wp2_with fail
        refine bodyPost_ret (results_cell_row rfl _ _ w.heap.size 25 #[.bool r, .slice fd fn fc] (0, 0) _ rfl ((k0.set 0 _).set 1 _).row Try.underlying25 rfl size_int) rfl ?_
        refine ⟨_, _, _, by rw [HR.out], ?_, below_set (below_set b1 _ _ _ hg0) _ _ _ hg0⟩
        rw [← HAB.out]
        exact ff.poke2 k0 _ _
    · have hM : M ≠ 0 := fun e => hsame (.inl e)
      have hne : sgI N ≠ sgI M := fun e => hsame (.inr e)
      have hz1 : (sgI N == 0) = false := by rw [beq_eq_false_iff_ne]; exact fun e => hN ((sg_zero N).1 e)
      have hz2 : (sgI M == 0) = false := by rw [beq_eq_false_iff_ne]; exact fun e => hM ((sg_zero M).1 e)
      have hz3 : (sgI N == sgI M) = false := by rw [beq_eq_false_iff_ne]; exact hne
      by_cases hle : U ≤ V
      · skip
        have b0 := Below.refl w.heap.size w
        have l0 : Below w.heap.size w (w.alloc (.cells #[.bool false, .slice none 0 0] 25)) := (Below.refl _ _).alloc (Nat.le_refl _) _
        have b1 : Below w.heap.size w (w.alloc (.cells #[.bool false, .slice none 0 0] 25)) := below_trans b0 l0
        have k0 : Cel (w.alloc (.cells #[.bool false, .slice none 0 0] 25)) w.heap.size 25 [.bool false, .slice none 0 0] := Cel.made _ _ _ _ (by simp)
        replace f1 := f1.below b1 (Nat.le_refl _)
        replace f2 := f2.below b1 (Nat.le_refl _)
        clear b0 l0
        have hg0 : w.heap.size ≤ w.heap.size := Nat.le_refl _
        obtain ⟨q1, q2⟩ := sum_first N M hne hN hM (by omega)
        rw [← hV, ← hU] at q1 q2
        have HAB := Lib.hid q1.symm
        obtain ⟨r, hr⟩ : ∃ r, decide (N + M < 0) = r := ⟨_, rfl⟩
        have HR := Lib.hid hr
        have hsg := q2
        rw [hr] at hsg
        have HSG := Lib.hid hsg
        clear hr hsg
        have hA := num_sub ad1 ad2 n1 n2 c1 c2 V U (w.alloc (.cells #[.bool false, .slice none 0 0] 25)) (f1.num hV0) (f2.num hU0) hn1 hn2
        rw [decide_eq_true hle] at hA
        replace hV0 : 0 ≤ V - U := by omega
        clear hV hU q1 q2 hne hN hM hsame
        generalize sgI N = s1 at *
        generalize sgI M = s2 at *
        go_enter Try.func74, Try.ntmps74
        have h := Lib.hid (hA)
        have e0a := k0.cell 0 _ rfl
        have e0b := k0.cell 1 _ rfl
        go_wp2_with fail
        with_reducible refine (h.out).mono ?_
        rintro e v1 ⟨fd, fn, fc, rfl, ff, b⟩
        clear h
        clear e0a e0b
        replace k0 := k0.next b
        have bb := below_trans b1 b
        clear b b1
        have b1 := bb
        clear bb
        clear hA
        have HM := wmade_as s1 fd fn fc (V - U) r v1 ff hV0 HSG.out
        have h := Lib.hid (HM)
        have e0a := k0.cell 0 _ rfl
        have e0b := k0.cell 1 _ rfl
        go_wp2_with fail
        with_reducible refine (h.out).mono ?_
        rintro e v2 ⟨rfl, b⟩
        clear h
        clear e0a e0b
        replace k0 := k0.next b
        replace ff := ff.below b (Nat.le_refl _)
        have bb := below_trans b1 b
        clear b b1
        have b1 := bb
        clear bb
        clear HM
        have g0 := k0.free 0
        have g1 := k0.free 1
        have e0a := k0.cell 0 _ rfl
        have e0b := k0.cell 1 _ rfl
        go_wp2_with fail
        refine bodyPost_ret (results_cell_row rfl _ _ w.heap.size 25 #[.bool r, .slice fd fn fc] (0, 0) _ rfl ((k0.set 0 _).set 1 _).row Try.underlying25 rfl size_int) rfl ?_
        refine ⟨_, _, _, by rw [HR.out], ?_, below_set (below_set b1 _ _ _ hg0) _ _ _ hg0⟩
        rw [← HAB.out]
        exact ff.poke2 k0 _ _
      · skip
        have b0 := Below.refl w.heap.size w
        have l0 : Below w.heap.size w (w.alloc (.cells #[.bool false, .slice none 0 0] 25)) := (Below.refl _ _).alloc (Nat.le_refl _) _
        have b1 : Below w.heap.size w (w.alloc (.cells #[.bool false, .slice none 0 0] 25)) := below_trans b0 l0
        have k0 : Cel (w.alloc (.cells #[.bool false, .slice none 0 0] 25)) w.heap.size 25 [.bool false, .slice none 0 0] := Cel.made _ _ _ _ (by simp)
        replace f1 := f1.below b1 (Nat.le_refl _)
        replace f2 := f2.below b1 (Nat.le_refl _)
        clear b0 l0
        have hg0 : w.heap.size ≤ w.heap.size := Nat.le_refl _
        obtain ⟨q1, q2⟩ := sum_second N M hne hN hM (by omega)
        rw [← hV, ← hU] at q1 q2
        have HAB := Lib.hid q1.symm
        obtain ⟨r, hr⟩ : ∃ r, decide (N + M < 0) = r := ⟨_, rfl⟩
        have HR := Lib.hid hr
        have hsg := q2
        rw [hr] at hsg
        have HSG := Lib.hid hsg
        clear hr hsg
        have hA := num_sub ad1 ad2 n1 n2 c1 c2 V U (w.alloc (.cells #[.bool false, .slice none 0 0] 25)) (f1.num hV0) (f2.num hU0) hn1 hn2
        rw [decide_eq_false hle] at hA
        have hB := fun (w2 : World) (b2 : Below ((w.alloc (.cells #[.bool false, .slice none 0 0] 25))).heap.size ((w.alloc (.cells #[.bool false, .slice none 0 0] 25))) w2) => num_sub ad2 ad1 n2 n1 c2 c1 U V w2 ((f2.num hU0).below b2 (Nat.le_refl _)) ((f1.num hV0).below b2 (Nat.le_refl _)) hn2 hn1
        rw [decide_eq_true (show V ≤ U by omega)] at hB
        replace hV0 : 0 ≤ U - V := by omega
        have HB := Lib.hid hB
        clear hB hV hU q1 q2 hne hN hM hsame
        generalize sgI N = s1 at *
        generalize sgI M = s2 at *
        go_enter Try.func74, Try.ntmps74
        have h := Lib.hid hA
        have e0a := k0.cell 0 _ rfl
        have e0b := k0.cell 1 _ rfl
        go_wp2_with fail
        with_reducible refine (h.out).mono ?_
        rintro e v1 ⟨xd, xn, xc, rfl, fx, b⟩
        have hB := HB.out _ b
        clear h HB hA
        clear e0a e0b
        replace k0 := k0.next b
        have bb := below_trans b1 b
        clear b b1
        have b1 := bb
        clear bb
        clear fx
        have h := Lib.hid (hB)
        have e0a := k0.cell 0 _ rfl
        have e0b := k0.cell 1 _ rfl
        go_wp2_with fail
        with_reducible refine (h.out).mono ?_
        rintro e v2 ⟨fd, fn, fc, rfl, ff, b⟩
        clear h
        clear e0a e0b
        replace k0 := k0.next b
        have bb := below_trans b1 b
        clear b b1
        have b1 := bb
        clear bb
        clear hB
        have HM := wmade_as s2 fd fn fc (U - V) r v2 ff hV0 HSG.out
        have h := Lib.hid (HM)
        have e0a := k0.cell 0 _ rfl
        have e0b := k0.cell 1 _ rfl
        go_wp2_with fail
        with_reducible refine (h.out).mono ?_
        rintro e v3 ⟨rfl, b⟩
        clear h
        clear e0a e0b
        replace k0 := k0.next b
        replace ff := ff.below b (Nat.le_refl _)
        have bb := below_trans b1 b
        clear b b1
        have b1 := bb
        clear bb
        clear HM
        have g0 := k0.free 0
        have g1 := k0.free 1
        have e0a := k0.cell 0 _ rfl
        have e0b := k0.cell 1 _ rfl
        go_wp2_with fail
        refine bodyPost_ret (results_cell_row rfl _ _ w.heap.size 25 #[.bool r, .slice fd fn fc] (0, 0) _ rfl ((k0.set 0 _).set 1 _).row Try.underlying25 rfl size_int) rfl ?_
        refine ⟨_, _, _, by rw [HR.out], ?_, below_set (below_set b1 _ _ _ hg0) _ _ _ hg0⟩
        rw [← HAB.out]
        exact ff.poke2 k0 _ _
end Go.Proofs.Ytgnophflogmmaaa
