/- Contracts of functions, and plain facts, part 11. -/
import Derived.BigRegion
import Derived.Laws.Rows
import Derived.Test.YtbcbmkeeoognpaaGreatDoorPk4
import Derived.Test.YtbcbmkeeoognpaaGreatDoorPk5
import Derived.Test.YtbcbmkeeoognpaaGreatDoorPk6
import Derived.Test.YtbcbmkeeoognpaaGreatDoorPk7
import Derived.Test.YtbcbmkeeoognpaaGreatDoorPk8
import Derived.Test.YtbcbmkeeoognpaaGreatDoorPk9
set_option linter.unusedVariables false
set_option linter.unusedSimpArgs false
/- The number that a text in decimal tells: plain. -/
namespace Go.Proofs.YtbcbmkeeoognpaaGreatDoor

/-- What digits tell, the highest first. -/
def readV (cs : List Int) : Int := cs.foldl (fun a c => a * 10 + (c - 48)) 0
/-- Is it one that Read takes? -/
def readOk (cs : List Int) : Bool := decide (cs ≠ [] ∧ (cs[0]?.getD 0 = 48 → cs.length = 1) ∧ (∀ c ∈ cs, 48 ≤ c ∧ c ≤ 57) ∧ (dg 4294967296 (readV cs)).length ≤ 262144)
def readNum (cs : List Int) : Int := if readOk cs then readV cs else 0

theorem readV_snoc (cs : List Int) (c : Int) : readV (cs ++ [c]) = readV cs * 10 + (c - 48) := by simp [readV]
theorem readV_take (cs : List Int) (i : Nat) (h : i < cs.length) : readV (cs.take (i + 1)) = readV (cs.take i) * 10 + (cs[i]?.getD 0 - 48) := by
  rw [List.take_add_one, List.getElem?_eq_getElem h]
  exact readV_snoc _ _
def Decs (cs : List Int) : Prop := ∀ c ∈ cs, 48 ≤ c ∧ c ≤ 57
theorem Decs.get {cs : List Int} (h : Decs cs) {i : Nat} (hi : i < cs.length) : 48 ≤ cs[i]?.getD 0 ∧ cs[i]?.getD 0 ≤ 57 := by
  rw [List.getElem?_eq_getElem hi]
  exact h _ (List.getElem_mem hi)
theorem readV_nonneg (cs : List Int) (h : Decs cs) (i : Nat) : 0 ≤ readV (cs.take i) := by
  induction i with
  | zero => simp [readV]
  | succ i ih =>
    rcases Nat.lt_or_ge i cs.length with h1 | h1
    · rw [readV_take cs i h1]
      have := h.get h1
      omega
    · rw [List.take_of_length_le (by omega)]
      rw [List.take_of_length_le h1] at ih
      exact ih
theorem readV_mono (cs : List Int) (h : Decs cs) (i j : Nat) (hij : i ≤ j) : readV (cs.take i) ≤ readV (cs.take j) := by
  obtain ⟨d, rfl⟩ := Nat.le.dest hij
  induction d with
  | zero => exact Int.le_refl _
  | succ d ih =>
    have h1 := ih (by omega)
    rcases Nat.lt_or_ge (i + d) cs.length with h2 | h2
    · rw [show i + (d + 1) = i + d + 1 by omega, readV_take cs _ h2]
      have := h.get h2
      have := readV_nonneg cs h (i + d)
      omega
    · rw [show cs.take (i + (d + 1)) = cs.take (i + d) by rw [List.take_of_length_le (by omega), List.take_of_length_le h2]]
      exact h1
theorem readV_full (cs : List Int) : readV (cs.take cs.length) = readV cs := by rw [List.take_length]
theorem dg_mono (V U : Int) (hV : 0 ≤ V) (h : V ≤ U) : (dg 4294967296 V).length ≤ (dg 4294967296 U).length := by
  refine dg_length_le 4294967296 (by omega) _ _ ?_
  have := dg_lt_of_len 4294967296 (by omega) _ U (by omega) (Nat.le_refl _)
  omega
theorem readNum_nonneg (cs : List Int) : 0 ≤ readNum cs := by
  unfold readNum
  split
  · rename_i h
    have h2 := (of_decide_eq_true h).2.2.1
    rw [← readV_full]
    exact readV_nonneg cs h2 _
  · omega

/-- A place times a small number and what came up. -/
theorem times_step (xs ys : List Int) (k : Nat) (c t v T : Int) (hk : k < ys.length) (hs : ys[k]?.getD 0 = xs[k]?.getD 0) (hv : v = xs[k]?.getD 0 * t + c)
    (h : val 4294967296 (ys.take k) + 4294967296 ^ k * c = val 4294967296 (xs.take k) * t + T) :
    val 4294967296 ((ys.set k (v % 4294967296)).take (k + 1)) + 4294967296 ^ (k + 1) * (v / 4294967296) = val 4294967296 (xs.take (k + 1)) * t + T := by
  rw [val_set_take _ ys k _ hk, val_take_succ', Int.pow_succ]
  have e : v = 4294967296 * (v / 4294967296) + v % 4294967296 := by omega
  generalize v / 4294967296 = q at *
  generalize v % 4294967296 = r at *
  generalize (4294967296 : Int) ^ k = P at *
  generalize val 4294967296 (ys.take k) = A at *
  generalize val 4294967296 (xs.take k) = D at *
  generalize xs[k]?.getD 0 = x at *
  have h2 : P * v = P * x * t + P * c := by rw [hv]; grind
  have h3 : P * v = P * 4294967296 * q + P * r := by rw [e]; grind
  have h4 : (D + P * x) * t = D * t + P * x * t := by rw [Int.add_mul]
  omega

/-- A list whose worth is that of a number of as many digits. -/
theorem dg_of_ge (ys : List Int) (V : Int) (d : Dig 4294967296 ys) (h : val 4294967296 ys = V) (hl : ys.length = 0 ∨ 4294967296 ^ (ys.length - 1) ≤ V) : ys = dg 4294967296 V := by
  have hn : norm ys = ys := by
    rcases hl with h0 | h0
    · rw [List.length_eq_zero_iff.1 h0]; rfl
    · by_cases e : norm ys = ys
      · exact e
      · have := val_lt_norm (b := 4294967296) (by omega) d e
        omega
  have := norm_eq 4294967296 (by omega) d
  rw [hn, show ((4294967296 : Nat) : Int) = 4294967296 from rfl, h] at this
  exact this
theorem dg_ge (V : Int) (h0 : 0 ≤ V) : (dg 4294967296 V).length = 0 ∨ 4294967296 ^ ((dg 4294967296 V).length - 1) ≤ V := by
  by_cases h : dg 4294967296 V = []
  · exact .inl (by rw [h]; rfl)
  · refine .inr ?_
    have := val_ge (b := 4294967296) (by omega) (dg_dig 4294967296 (by omega) V.toNat) (norm_dg 4294967296 (by omega) V) h
    have e := val_dg 4294967296 (by omega) V h0
    rw [show ((4294967296 : Nat) : Int) = 4294967296 from rfl] at e
    change 4294967296 ^ ((dg 4294967296 V).length - 1) ≤ val 4294967296 (dg 4294967296 V) at this
    rw [e] at this
    exact this
/-- All places are done; nothing comes up. -/
theorem times_end0 (P t T : Int) (ys : List Int) (hP : 0 ≤ P) (ht : 1 ≤ t) (hT : 0 ≤ T) (d : Dig 4294967296 ys) (hl : ys.length = (dg 4294967296 P).length)
    (h : val 4294967296 (ys.take ys.length) + 4294967296 ^ ys.length * 0 = val 4294967296 ((dg 4294967296 P).take ys.length) * t + T) : ys = dg 4294967296 (P * t + T) := by
  rw [List.take_length, Int.mul_zero, Int.add_zero, hl, List.take_length] at h
  have e := val_dg 4294967296 (by omega) P hP
  rw [show ((4294967296 : Nat) : Int) = 4294967296 from rfl] at e
  rw [e] at h
  refine dg_of_ge ys _ d h ?_
  have h1 := dg_ge P hP
  rw [← hl] at h1
  rcases h1 with h1 | h1
  · exact .inl h1
  · refine .inr ?_
    have := Int.mul_le_mul_of_nonneg_left ht hP
    omega
/-- Something comes up: a place more. -/
theorem times_end1 (P t T c : Int) (ys : List Int) (hP : 0 ≤ P) (ht : 1 ≤ t) (hT : 0 ≤ T) (d : Dig 4294967296 ys) (hl : ys.length = (dg 4294967296 P).length) (hc : 0 < c ∧ c < 4294967296)
    (h : val 4294967296 (ys.take ys.length) + 4294967296 ^ ys.length * c = val 4294967296 ((dg 4294967296 P).take ys.length) * t + T) : ys ++ [c] = dg 4294967296 (P * t + T) := by
  rw [List.take_length, hl, List.take_length, ← hl] at h
  have e := val_dg 4294967296 (by omega) P hP
  rw [show ((4294967296 : Nat) : Int) = 4294967296 from rfl] at e
  rw [e] at h
  have d2 := d.append (Dig.cons (by omega) hc.2 (Dig.nil _) : Dig 4294967296 [c])
  refine dg_of_ge _ _ d2 (by rw [val_snoc]; exact h) (.inr ?_)
  rw [List.length_append, List.length_singleton, Nat.add_sub_cancel, ← h]
  have h1 := val_nonneg (show (0 : Int) < 4294967296 by omega) d
  have hp : (0 : Int) < 4294967296 ^ ys.length := Int.pow_pos (by omega)
  have := Int.mul_le_mul_of_nonneg_left (show 1 ≤ c by omega) (Int.le_of_lt hp)
  omega
/-- A chunk of nine digits at most. -/
theorem chunk_step (P t n d : Int) : (P * t + n) * 10 + d = P * (t * 10) + (n * 10 + d) := by grind
end Go.Proofs.YtbcbmkeeoognpaaGreatDoor


/- NLen by worth alone. -/
namespace Go.Proofs.YtbcbmkeeoognpaaGreatDoor
open Go.RowKit

end Go.Proofs.YtbcbmkeeoognpaaGreatDoor


/- NCmp by worth alone. -/
namespace Go.Proofs.YtbcbmkeeoognpaaGreatDoor
open Go.RowKit

end Go.Proofs.YtbcbmkeeoognpaaGreatDoor


/- nat.Add: the sum. -/
namespace Go.Proofs.YtbcbmkeeoognpaaGreatDoor
open Go.RowKit

end Go.Proofs.YtbcbmkeeoognpaaGreatDoor


/- nat.Sub: the difference, or that there is none. -/
namespace Go.Proofs.YtbcbmkeeoognpaaGreatDoor
open Go.RowKit

end Go.Proofs.YtbcbmkeeoognpaaGreatDoor


/- Mul by worth alone. -/
namespace Go.Proofs.YtbcbmkeeoognpaaGreatDoor
open Go.RowKit

end Go.Proofs.YtbcbmkeeoognpaaGreatDoor


/- crucibleref01.at, Add: the sum. -/
namespace Go.Proofs.YtbcbmkeeoognpaaGreatDoor
open Go.RowKit

theorem at_calls (ad : Option Addr) (n c : Nat) (xs : List Int) (j : Nat) (w : World) (hn : n ≤ 9223372036854775807) (hr : Rds w .i64 ad n xs) :
    Calls Tryz.prog 204 #[.slice ad n c, .int .i64 j] w fun e w' => e = .returned (.int .i64 (xs[j]?.getD 0)) ∧ w = w' := by
  by_cases hj : j < n
  · obtain ⟨a, rfl, hxl⟩ := hr.cell j hj
    clear hr
    generalize xs[j]?.getD 0 = x at *
    go_enter Tryz.func204, Tryz.ntmps204
    go_wp2
    go_ret
    exact ⟨rfl, rfl⟩
  · have h0 := Lib.hid (show xs[j]?.getD 0 = 0 by rw [List.getElem?_eq_none (by rw [hr.len]; omega)]; rfl)
    clear hr
    go_enter Tryz.func204, Tryz.ntmps204
    go_wp2
    go_ret
    rw [h0.out]
    exact ⟨rfl, rfl⟩

def RAddR (w : World) (xs zs : List Int) (k : Nat) (c : Int) (v : Value) (wr : World) : Prop :=
  ∃ ad cp ds, v = .slice ad k cp ∧ App w.heap.size wr 3 .i64 ad k cp ds ∧ Dig 256 ds ∧ Below w.heap.size w wr ∧ w.heap.size ≤ wr.heap.size ∧ 0 ≤ c ∧ c ≤ 1 ∧
    val 256 ds + c * 256 ^ k = val 256 (xs.take k) + val 256 (zs.take k)

theorem radd_step (xs zs ds : List Int) (k : Nat) (hk : ds.length = k) (c T : Int) (hT : T = xs[k]?.getD 0 + zs[k]?.getD 0 + c)
    (E : val 256 ds + c * 256 ^ k = val 256 (xs.take k) + val 256 (zs.take k)) :
    val 256 (ds ++ [T % 256]) + (T / 256) * 256 ^ (k + 1) = val 256 (xs.take (k + 1)) + val 256 (zs.take (k + 1)) := by
  rw [val_snoc, hk, val_take_succ', val_take_succ', Int.pow_succ]
  have h := Int.emod_add_mul_ediv T 256
  generalize xs[k]?.getD 0 = x at *
  generalize zs[k]?.getD 0 = z at *
  generalize T / 256 = q at *
  generalize T % 256 = r at *
  generalize (256 : Int) ^ k = P at *
  generalize val 256 ds = Y at *
  generalize val 256 (xs.take k) = X at *
  generalize val 256 (zs.take k) = Z at *
  have e : r = x + z + c - 256 * q := by omega
  subst e
  grind

set_option maxHeartbeats 1000000 in
theorem radd_calls (ad bd : Option Addr) (na nb ca cb : Nat) (la lb : List Int) (w : World) (hna : na ≤ 1099511627776) (hnb : nb ≤ 1099511627776)
    (ha : Rds w .u32 ad na la) (hb : Rds w .u32 bd nb lb) (da : Dig 4294967296 la) (db : Dig 4294967296 lb) :
    Calls Tryz.prog 127 #[.slice ad na ca, .slice bd nb cb] w (RetL 44 .u32 (dg 4294967296 (val 4294967296 la + val 4294967296 lb)) w) := by
  have l1 := bytes_len ha.len da
  have l2 := bytes_len hb.len db
  have C1 := Lib.hid (bytes_calls ad na ca la w (by omega) ha da)
  have C2 := Lib.hid (fun (w1 : World) (h : Below w.heap.size w w1) => bytes_calls bd nb cb lb w1 (by omega) (hb.below h (Nat.le_refl _)) db)
  have vx := Lib.hid (val_dg 256 (by omega) (val 4294967296 la) (val_nonneg (by omega) da))
  have vz := Lib.hid (val_dg 256 (by omega) (val 4294967296 lb) (val_nonneg (by omega) db))
  have dx : Dig 256 (dg 256 (val 4294967296 la)) := dg_dig 256 (by omega) _
  have dz : Dig 256 (dg 256 (val 4294967296 lb)) := dg_dig 256 (by omega) _
  clear ha hb da db
  generalize dg 256 (val 4294967296 la) = xs at *
  generalize dg 256 (val 4294967296 lb) = zs at *
  go_enter Tryz.func127, Tryz.ntmps127
  go_wp2_with fail
  refine (C1.out).mono ?_
  rintro e w1 ⟨xd, m, cx, rfl, ox, b1⟩
  have C2' := Lib.hid (C2.out w1 b1)
  clear C2 C1
  go_wp2_with fail
  refine (C2'.out).mono ?_
  rintro e w2 ⟨zd, n, cz, rfl, oz, b2⟩
  clear C2'
  have rx := (ox.below b2 (Nat.le_refl _)).rds
  have rz := oz.rds
  have BB := below_trans b1 b2
  have HM := Lib.hid rx.len
  have HN := Lib.hid rz.len
  rw [HM.out] at l1
  rw [HN.out] at l2
  clear ox oz b1 b2
  obtain ⟨M, hM1, hM2, hM3⟩ : ∃ M, m ≤ M ∧ n ≤ M ∧ M ≤ 4398046511104 := ⟨max m n, Nat.le_max_left _ _, Nat.le_max_right _ _, by omega⟩
  have hr0 : RAddR w2 xs zs 0 0 (.slice none 0 0) w2 := ⟨none, 0, [], rfl, App.nil _ _ _ _, Dig.nil _, Below.refl _ _, Nat.le_refl _, by omega, by omega, by simp [val]⟩
  go_wp2_with fail
  go_loopw [9, 8, 7] (fun i cy v wr => ∃ k : Nat, ∃ c : Int, k ≤ M + 1 ∧ (k ≤ M ∨ c = 0) ∧ i = .int .i64 k ∧ cy = .int .i64 c ∧ RAddR w2 xs zs k c v wr) (fun i _ _ _ => M + 1 - (intOf i).toNat)
  case atStart => exact ⟨0, 0, by omega, .inr rfl, rfl, rfl, hr0⟩
  case round =>
    clear hr0
    obtain ⟨k, c, hk, hkc, rfl, rfl, ad3, c3, ds, rfl, g1, g2, g3, g4, g5, g6, g7⟩ := hrel
    have H7 := Lib.hid g7
    have HKC := Lib.hid hkc
    clear g7 hkc
    by_cases hgo : k < m ∨ k < n ∨ 0 < c
    · have hkM : k ≤ M := by rcases HKC.out with h | h <;> omega
      have rx' := rx.below g3 (Nat.le_refl _)
      have rz' := rz.below g3 (Nat.le_refl _)
      have a1 := Lib.hid (at_calls xd m cx xs k wr (by omega) rx')
      have a2 := Lib.hid (at_calls zd n cz zs k wr (by omega) rz')
      have bx := dx.get (by omega) k
      have bz := dz.get (by omega) k
      have HE := Lib.hid (radd_step xs zs ds k g1.len c (xs[k]?.getD 0 + zs[k]?.getD 0 + c) rfl H7.out)
      have HC := Lib.hid (show (k + 1 ≤ M ∨ (xs[k]?.getD 0 + zs[k]?.getD 0 + c) / 256 = 0) by
        rcases Nat.lt_or_ge k M with h | h
        · exact .inl h
        · refine .inr ?_
          rw [List.getElem?_eq_none (by rw [HM.out]; omega), List.getElem?_eq_none (by rw [HN.out]; omega)]
          simp
          omega)
      clear rx' rz' H7 HKC
      generalize xs[k]?.getD 0 = x at *
      generalize zs[k]?.getD 0 = z at *
      have fin : ∀ w3 ad4 c4, App w2.heap.size w3 3 .i64 ad4 (k + 1) c4 (ds ++ [(x + z + c) % 256]) → Below w2.heap.size w2 w3 → w2.heap.size ≤ w3.heap.size → RAddR w2 xs zs (k + 1) ((x + z + c) / 256) (.slice ad4 (k + 1) c4) w3 :=
        fun w3 ad4 c4 h1 h2 h3 => ⟨ad4, c4, _, rfl, h1, g2.append (Dig.cons (by omega) (by omega) (Dig.nil _)), h2, h3, by omega, by omega, HE.out⟩
      have FIN := Lib.hid fin
      clear fin
      by_cases t1 : k < m
      case pos =>
        clear hgo
        go_wp2_with fail
        refine (a1.out).mono ?_
        rintro e w' ⟨rfl, rfl⟩
        go_wp2_with fail
        refine (a2.out).mono ?_
        rintro e w' ⟨rfl, rfl⟩
        go_wp2_with (at_builtin; refine app_one w2.heap.size rfl (.tmp 40) (.tmp 43) 188 3 .i64 8 rfl Tryz.underlying188 info_int (by omega) ad3 k c3 ds ((x + z + c) % 256) rfl rfl g1 g3 g4 (by omega) ?_; intro ad4 c4 w4 k1 k2 k3)
        go_roundw
        case rel => exact ⟨k + 1, _, by omega, HC.out, by go_num, rfl, FIN.out _ _ _ k1 k2 k3⟩
        case measure => simp [intOf]; omega
      case neg =>
        by_cases t2 : k < n
        case pos =>
          clear hgo
          go_wp2_with fail
          refine (a1.out).mono ?_
          rintro e w' ⟨rfl, rfl⟩
          go_wp2_with fail
          refine (a2.out).mono ?_
          rintro e w' ⟨rfl, rfl⟩
          go_wp2_with (at_builtin; refine app_one w2.heap.size rfl (.tmp 40) (.tmp 43) 188 3 .i64 8 rfl Tryz.underlying188 info_int (by omega) ad3 k c3 ds ((x + z + c) % 256) rfl rfl g1 g3 g4 (by omega) ?_; intro ad4 c4 w4 k1 k2 k3)
          go_roundw
          case rel => exact ⟨k + 1, _, by omega, HC.out, by go_num, rfl, FIN.out _ _ _ k1 k2 k3⟩
          case measure => simp [intOf]; omega
        case neg =>
          have t3 : 0 < c := by omega
          clear hgo
          go_wp2_with fail
          refine (a1.out).mono ?_
          rintro e w' ⟨rfl, rfl⟩
          go_wp2_with fail
          refine (a2.out).mono ?_
          rintro e w' ⟨rfl, rfl⟩
          go_wp2_with (at_builtin; refine app_one w2.heap.size rfl (.tmp 40) (.tmp 43) 188 3 .i64 8 rfl Tryz.underlying188 info_int (by omega) ad3 k c3 ds ((x + z + c) % 256) rfl rfl g1 g3 g4 (by omega) ?_; intro ad4 c4 w4 k1 k2 k3)
          go_roundw
          case rel => exact ⟨k + 1, _, by omega, HC.out, by go_num, rfl, FIN.out _ _ _ k1 k2 k3⟩
          case measure => simp [intOf]; omega
    · have t1 : ¬ k < m := by omega
      have t2 : ¬ k < n := by omega
      obtain rfl : c = 0 := by omega
      clear hgo
      have hv : val 256 ds = val 4294967296 la + val 4294967296 lb := by
        have := H7.out
        rw [List.take_of_length_le (by rw [HM.out]; omega), List.take_of_length_le (by rw [HN.out]; omega)] at this
        rw [show val 256 xs = val 4294967296 la from vx.out, show val 256 zs = val 4294967296 lb from vz.out] at this
        simpa using this
      have hl := limbs_calls ad3 k c3 ds wr (by omega) g1.own.le g1.rds g2
      rw [hv] at hl
      have HL := Lib.hid hl
      clear hv hl
      go_wp2_with fail
      refine (HL.out).mono ?_
      rintro e w' hr
      obtain ⟨rd, nr, cr, rfl, or, br⟩ := hr.after (below_trans BB g3)
      go_wp2_with fail
      go_ret
      exact ⟨_, _, _, rfl, or, br⟩
end Go.Proofs.YtbcbmkeeoognpaaGreatDoor


/- RMul by worth alone. -/
namespace Go.Proofs.YtbcbmkeeoognpaaGreatDoor
open Go.RowKit

theorem num_rmul (ad bd : Option Addr) (n m c d : Nat) (V U : Int) (w : World) (h : Num w ad n c V) (k : Num w bd m d U) (hn : n ≤ 549755813888) (hm : m ≤ 549755813888) :
    Calls Tryz.prog 128 #[.slice ad n c, .slice bd m d] w (RetC (V * U) w) := by
  obtain ⟨xs, h1, h2, rfl⟩ := h.row
  obtain ⟨zs, k1, k2, rfl⟩ := k.row
  exact (rmul_calls ad bd n m c d xs zs w (by omega) h1 k1 h2 k2).mono fun e w' q => q.can
end Go.Proofs.YtbcbmkeeoognpaaGreatDoor


/- RCmp by worth alone. -/
namespace Go.Proofs.YtbcbmkeeoognpaaGreatDoor
open Go.RowKit

end Go.Proofs.YtbcbmkeeoognpaaGreatDoor


/- RNorm by worth alone. -/
namespace Go.Proofs.YtbcbmkeeoognpaaGreatDoor
open Go.RowKit

theorem num_rnorm (ad : Option Addr) (n c : Nat) (V : Int) (w : World) (h : Num w ad n c V) (hn : n ≤ 1099511627776) :
    Calls Tryz.prog 125 #[.slice ad n c] w (RetC V w) := by
  obtain ⟨xs, h1, h2, rfl⟩ := h.row
  exact (rnorm_calls ad n c xs w (by omega) h1 h2).mono fun e w' q => q.can
end Go.Proofs.YtbcbmkeeoognpaaGreatDoor


/- crucibleref01.Len: how many bits it has. -/
namespace Go.Proofs.YtbcbmkeeoognpaaGreatDoor
open Go.RowKit
theorem rlen_calls (ad : Option Addr) (n c : Nat) (la : List Int) (w : World) (hn : n ≤ 1099511627776) (hr : Rds w .u32 ad n la) (da : Dig 4294967296 la) :
    Calls Tryz.prog 118 #[.slice ad n c] w fun e w' => e = .returned (.int .i64 (bitsOf (val 4294967296 la))) ∧ Below w.heap.size w w' := by
  have l1 := bytes_len hr.len da
  have C1 := Lib.hid (bytes_calls ad n c la w (by omega) hr da)
  have V0 := val_nonneg (b := 4294967296) (by omega) da
  have vx := Lib.hid (val_dg 256 (by omega) (val 4294967296 la) V0)
  have nx := Lib.hid (norm_dg 256 (by omega) (val 4294967296 la))
  have dx : Dig 256 (dg 256 (val 4294967296 la)) := dg_dig 256 (by omega) _
  clear hr da
  generalize dg 256 (val 4294967296 la) = xs at *
  generalize val 4294967296 la = V at *
  go_enter Tryz.func118, Tryz.ntmps118
  go_wp2_with fail
  refine (C1.out).mono ?_
  rintro e w1 ⟨xd, m, cx, rfl, ox, b1⟩
  have rx := ox.rds
  have HM := Lib.hid ox.len
  rw [HM.out] at l1
  clear C1 ox
  by_cases h0 : m = 0
  · subst h0
    have HB := Lib.hid (show bitsOf V = 0 by
      have e : xs = [] := List.eq_nil_of_length_eq_zero HM.out
      have e0 : val 256 xs = V := vx.out
      rw [← e0, e]
      rfl)
    go_wp2
    go_ret
    rw [HB.out]
    exact ⟨rfl, b1⟩
  · obtain ⟨t, rfl⟩ : ∃ t, m = t + 1 := ⟨m - 1, by omega⟩
    have bx := dx.get (by omega) t
    have HB := Lib.hid (show bitsOf V = 8 * (t : Int) + (blen (xs[t]?.getD 0).toNat : Nat) by
      have e0 : val 256 xs = V := vx.out
      unfold bitsOf
      rw [← e0, blen_list 8 256 (by decide) xs dx nx.out t HM.out]
      simp)
    clear h0
    obtain ⟨a, rfl, hxl⟩ := rx.cell t (by omega)
    generalize xs[t]?.getD 0 = x at *
    have hmm : ((((t + 1 : Nat) : Int)) == 0) = false := by simp; omega
    go_wp2
    go_loop [4, 5] (fun s p => ∃ q : Int, ∃ y : Int, 0 ≤ y ∧ y ≤ x ∧ 0 ≤ q ∧ q ≤ 8 * (t : Int) + x ∧ s = .int .i64 q ∧ p = .int .i64 y ∧ Hid (q + (blen y.toNat : Nat) = bitsOf V) ∧ Hid (q + y ≤ 8 * (t : Int) + x)) (fun _ p => (intOf p).toNat)
    case atStart => exact ⟨8 * (t : Int), x, by omega, by omega, by omega, by omega, rfl, rfl, HB.out.symm, Int.le_refl _⟩
    case round =>
      obtain ⟨q, y, hy0, hy1, hq0, hq1, rfl, rfl, hs, hs2⟩ := hrel
      by_cases hy : 0 < y
      · have HS := Lib.hid (show (q + 1) + (blen (y / 2).toNat : Nat) = bitsOf V by
          have := hs.out
          rw [blen_half y.toNat (by omega)] at this
          rw [show (y / 2).toNat = y.toNat / 2 by omega]
          omega)
        have h3 := hs2.out
        go_wp2
        go_round
        case rel => exact ⟨q + 1, y / 2, by omega, by omega, by omega, by omega, rfl, rfl, HS.out, by show q + 1 + y / 2 ≤ _; omega⟩
        case measure => simp [intOf]; omega
      · obtain rfl : y = 0 := by omega
        have HS := Lib.hid (show q = bitsOf V by have := hs.out; simpa [blen] using this)
        clear HB hs
        go_wp2
        go_ret
        rw [← HS.out]
        exact ⟨rfl, b1⟩
end Go.Proofs.YtbcbmkeeoognpaaGreatDoor


/- A small number to a power: plain. -/
namespace Go.Proofs.YtbcbmkeeoognpaaGreatDoor

def powOk (b n : Int) : Bool := decide (0 ≤ n ∧ (b < 2 ∨ n ≤ 65536 / (blen b.toNat : Nat)))
def powNum (b n : Int) : Int := if powOk b n then b ^ n.toNat else 0

theorem pow_bits (b n M : Nat) (hM : 0 < M) (hb : 2 ≤ b) (h : n ≤ M / blen b) : b ^ n < 2 ^ M := by
  rcases Nat.eq_zero_or_pos n with h0 | h0
  · subst h0; rw [Nat.pow_zero]; exact Nat.one_lt_two_pow (by omega)
  · have h1 := blen_lt b
    have h2 : b ^ n < (2 ^ blen b) ^ n := Nat.pow_lt_pow_left h1 (by omega)
    rw [← Nat.pow_mul] at h2
    refine Nat.lt_of_lt_of_le h2 (Nat.pow_le_pow_right (by omega) ?_)
    exact Nat.mul_comm _ _ ▸ (Nat.le_div_iff_mul_le (blen_pos b (by omega))).1 h
theorem pow_limbs (L : Nat) : (4294967296 : Int) ^ L = ((2 ^ (32 * L) : Nat) : Int) := by
  rw [show (4294967296 : Int) = 2 ^ 32 from by decide, ← Int.pow_mul]
  simp

/-- Between two rounds: out and the square to the power k make up the number. -/
theorem pow_round_odd (A S T : Int) (k : Nat) (h : A * S ^ k = T) (hk : k % 2 = 1) : A * S * (S * S) ^ (k / 2) = T := by
  have e : k = 2 * (k / 2) + 1 := by omega
  rw [← h]
  conv => rhs; rw [e, Int.pow_succ, Int.pow_mul]
  have e2 : S ^ 2 = S * S := by rw [Int.pow_succ, Int.pow_succ, Int.pow_zero, Int.one_mul]
  rw [e2]
  generalize (S * S) ^ (k / 2) = P
  grind
theorem pow_round_even (A S T : Int) (k : Nat) (h : A * S ^ k = T) (hk : k % 2 = 0) : A * (S * S) ^ (k / 2) = T := by
  have e : k = 2 * (k / 2) := by omega
  rw [← h]
  conv => rhs; rw [e, Int.pow_mul]
  have e2 : S ^ 2 = S * S := by rw [Int.pow_succ, Int.pow_succ, Int.pow_zero, Int.one_mul]
  rw [e2]
theorem pow_part (A S T : Int) (k : Nat) (h : A * S ^ k = T) (hA : 0 < A) (hS : 0 < S) : A ≤ T ∧ (0 < k → S ≤ T) := by
  have hp : 0 < S ^ k := Int.pow_pos hS
  constructor
  · have := Int.mul_le_mul_of_nonneg_left (show 1 ≤ S ^ k by omega) (Int.le_of_lt hA)
    omega
  · intro hk
    obtain ⟨j, rfl⟩ : ∃ j, k = j + 1 := ⟨k - 1, by omega⟩
    rw [Int.pow_succ] at h
    have hq : 0 < S ^ j := Int.pow_pos hS
    have h1 : 1 ≤ A * S ^ j := by have := Int.mul_pos hA hq; omega
    have h2 : A * (S ^ j * S) = A * S ^ j * S := (Int.mul_assoc _ _ _).symm
    have := Int.mul_le_mul_of_nonneg_right h1 (Int.le_of_lt hS)
    omega

/-- What the highest power of 2 in it was moved up by. -/
theorem pow_up (m k n : Nat) : ((m : Int) * 2 ^ k) ^ n = (m : Int) ^ n * 2 ^ (k * n) := by
  rw [Int.mul_pow, Int.pow_mul]
theorem pow_shl (m k n L : Nat) (hL : L = 2048) (hm : 0 < m) (hk : k < 32) (hb : 2 ≤ m * 2 ^ k) (hn : n ≤ 65536 / blen (m * 2 ^ k)) :
    shlOk ((m : Int) ^ n) ((k : Int) * n) = true ∧ shlNum ((m : Int) ^ n) ((k : Int) * n) = ((m * 2 ^ k : Nat) : Int) ^ n ∧ (m : Int) ^ n < 4294967296 ^ L ∧ 0 < (m : Int) ^ n ∧ n ≤ 65536 := by
  obtain ⟨N, hN⟩ : ∃ N, N = 32 * L := ⟨_, rfl⟩
  have hn2 : n ≤ N / blen (m * 2 ^ k) := by rw [hN, hL]; exact hn
  have h1 := pow_bits (m * 2 ^ k) n N (by omega) hb hn2
  have h2 : m ^ n ≤ (m * 2 ^ k) ^ n := Nat.pow_le_pow_left (Nat.le_mul_of_pos_right _ (Nat.two_pow_pos k)) n
  have h3 : 0 < m ^ n := Nat.pow_pos hm
  have h4 := blen_ge (m ^ n) (by omega)
  have h5 : blen (m ^ n) - 1 < N := (Nat.pow_lt_pow_iff_right (a := 2) (by omega)).1 (by omega)
  have h6 : n ≤ 65536 := Nat.le_trans hn (Nat.div_le_self _ _)
  have h7 : k * n ≤ 31 * 65536 := Nat.mul_le_mul (by omega) h6
  have e1 : (m : Int) ^ n = ((m ^ n : Nat) : Int) := by simp
  have e2 : (k : Int) * n = ((k * n : Nat) : Int) := by simp
  have ok : shlOk ((m : Int) ^ n) ((k : Int) * n) = true := by
    unfold shlOk
    rw [e1, e2, Int.toNat_natCast]
    refine decide_eq_true ⟨by omega, .inr ?_⟩
    generalize blen (m ^ n) = L at *
    omega
  refine ⟨ok, ?_, ?_, by rw [e1]; omega, h6⟩
  · unfold shlNum
    rw [if_pos ok, e2, Int.toNat_natCast, ← pow_up]
    simp
  · rw [pow_limbs, ← hN, e1]
    exact Int.ofNat_lt.2 (by omega)
end Go.Proofs.YtbcbmkeeoognpaaGreatDoor


/- nat.Shl: times 2 to the power of n. -/
namespace Go.Proofs.YtbcbmkeeoognpaaGreatDoor
open Go.RowKit

/-- A limb moved up by r, and what comes up from below. -/
theorem or_move (x y : Int) (r : Nat) (hx : 0 ≤ x ∧ x < 4294967296) (hy : 0 ≤ y ∧ y < 4294967296) (h0 : 0 < r) (hr : r < 32) :
    bits .or .u32 (x * 2 ^ r % 4294967296) (y / 2 ^ (32 - r)) = x * 2 ^ r % 4294967296 + y * 2 ^ r / 4294967296 ∧ 0 ≤ x * 2 ^ r % 4294967296 ∧ x * 2 ^ r % 4294967296 + y * 2 ^ r / 4294967296 < 4294967296 ∧
      0 ≤ y / 2 ^ (32 - r) ∧ y / 2 ^ (32 - r) < 4294967296 ∧ 0 ≤ y * 2 ^ r / 4294967296 := by
  obtain ⟨x, rfl⟩ := Int.eq_ofNat_of_zero_le hx.1
  obtain ⟨y, rfl⟩ := Int.eq_ofNat_of_zero_le hy.1
  have hB : (4294967296 : Nat) = 2 ^ r * 2 ^ (32 - r) := by rw [← Nat.pow_add, show r + (32 - r) = 32 by omega]
  have e1 : (x : Int) * 2 ^ r % 4294967296 = ((x * 2 ^ r % 4294967296 : Nat) : Int) := by simp
  have e2 : (y : Int) / 2 ^ (32 - r) = ((y / 2 ^ (32 - r) : Nat) : Int) := by simp
  have e3 : (y : Int) * 2 ^ r / 4294967296 = ((y * 2 ^ r / 4294967296 : Nat) : Int) := by simp
  have q : y * 2 ^ r / 4294967296 = y / 2 ^ (32 - r) := by
    rw [hB, Nat.mul_comm y, Nat.mul_div_mul_left _ _ (Nat.two_pow_pos r)]
  have hq : y / 2 ^ (32 - r) < 2 ^ r := by
    rw [Nat.div_lt_iff_lt_mul (Nat.two_pow_pos _), ← hB]
    omega
  have hd : x * 2 ^ r % 4294967296 % 2 ^ r = 0 := by
    rw [hB, Nat.mul_comm x, Nat.mul_mod_mul_left, Nat.mul_mod_right]
  have hl : x * 2 ^ r % 4294967296 < 4294967296 := Nat.mod_lt _ (by omega)
  have hp : 2 ^ r ≤ 2147483648 := by
    have : ∀ r : Nat, r < 32 → 2 ^ r ≤ 2147483648 := by decide
    exact this r hr
  rw [e1, e2, e3, q]
  have hj := nat_join r (x * 2 ^ r % 4294967296) (y / 2 ^ (32 - r)) hd hq
  have hsum : x * 2 ^ r % 4294967296 + y / 2 ^ (32 - r) < 4294967296 := by
    have hm : x * 2 ^ r % 4294967296 ≤ 4294967296 - 2 ^ r := by
      have h1 := Nat.div_add_mod (x * 2 ^ r % 4294967296) (2 ^ r)
      rw [hd, Nat.add_zero] at h1
      have h2 : x * 2 ^ r % 4294967296 / 2 ^ r < 2 ^ (32 - r) := by
        rw [Nat.div_lt_iff_lt_mul (Nat.two_pow_pos _), Nat.mul_comm (2 ^ (32 - r)), ← hB]
        exact hl
      have h3 := Nat.mul_le_mul_left (2 ^ r) (show x * 2 ^ r % 4294967296 / 2 ^ r + 1 ≤ 2 ^ (32 - r) by omega)
      rw [← hB, Nat.mul_add] at h3
      omega
    omega
  refine ⟨?_, by omega, by omega, by omega, by omega, by omega⟩
  rw [u32_or_nat _ _ hl (by omega), hj]
  simp

def ShlR (w : World) (zs : List Int) (R : Int) (j : Nat) (wr : World) : Prop :=
  ∃ ys, Blk wr w.heap.size 44 .u32 ys ∧ ys.length = zs.length ∧ Dig 4294967296 ys ∧ Below w.heap.size w wr ∧ (∀ k, k < j → ys[k]?.getD 0 = zs[k]?.getD 0) ∧
    val 4294967296 (ys.drop j) = R * val 4294967296 (zs.drop j) + carryUp 4294967296 R zs j

set_option maxHeartbeats 1000000 in
theorem shl_good (ad : Option Addr) (nn c : Nat) (la : List Int) (n : Int) (w : World) (hn : nn ≤ 70368744177664) (hnc : nn ≤ c) (hr : Rds w .u32 ad nn la) (da : Dig 4294967296 la)
    (hn0 : 0 ≤ n) (hV : val 4294967296 la ≠ 0) (hlim : n ≤ 8388608 - bitsOf (val 4294967296 la)) :
    Calls Tryz.prog 59 #[.slice ad nn c, .int .i64 n] w (RetLB 44 .u32 (dg 4294967296 (val 4294967296 la * 2 ^ n.toNat)) true w) := by
  have hc := Lib.hid (cut_calls ad nn c la w (by omega) hnc hr)
  have rx := hr.norm
  have dx := norm_dig da
  have hma := norm_length_le la
  rw [hr.len] at hma
  have HV := Lib.hid (val_norm 4294967296 la)
  rw [← HV.out] at hV hlim ⊢
  have hbits : (blen (val 4294967296 (norm la)).toNat : Int) = bitsOf (val 4294967296 (norm la)) := rfl
  have hm1 : norm la ≠ [] := by intro e; rw [e] at hV; exact hV rfl
  clear hr da HV
  have HNN := Lib.hid (norm_norm la)
  generalize norm la = xs at *
  obtain ⟨m, hm⟩ : ∃ m, xs.length = m := ⟨_, rfl⟩
  have hm0 : 0 < m := by rw [← hm]; exact List.length_pos_iff.2 hm1
  rw [hm] at hc rx hma
  have HM := Lib.hid hm
  have hl := Lib.hid (nlen_calls ad m m xs w (by omega) (Nat.le_refl _) rx dx)
  have hb0 : 0 ≤ bitsOf (val 4294967296 xs) := by unfold bitsOf; omega
  have hmb : 32 * ((m : Int) - 1) + 1 ≤ bitsOf (val 4294967296 xs) := by
    have h1 := blen_list 32 4294967296 (by decide) xs dx HNN.out (m - 1) (by omega)
    have h2 := blen_pos (xs[m - 1]?.getD 0).toNat (by have h3 := norm_last (b := 4294967296) HNN.out (m - 1) (by omega); have h4 := dx.get (by omega) (m - 1); omega)
    unfold bitsOf
    rw [h1]
    omega
  clear hm hm1 hbits hV
  obtain ⟨s, hs⟩ : ∃ s : Nat, n / 32 = s := ⟨(n / 32).toNat, by omega⟩
  obtain ⟨r, hrr⟩ : ∃ r : Nat, n % 32 = r := ⟨(n % 32).toNat, by omega⟩
  have hr32 : r < 32 := by omega
  have hs18 : s ≤ 262144 := by omega
  have EV : val 4294967296 xs * 2 ^ n.toNat = 4294967296 ^ s * val 4294967296 xs * 2 ^ r := by
    have e : n.toNat = 32 * s + r := by omega
    rw [e, Int.pow_add, Int.pow_mul, show (2 : Int) ^ 32 = 4294967296 from rfl]
    grind
  rw [EV]
  clear EV
  have hmm : ((m : Int) == 0) = false := by simp; omega
  generalize bitsOf (val 4294967296 xs) = bb at *
  have hnlt : ¬ 8388608 - bb < n := by omega
  have hmk := make_rule (P := Tryz.prog) 23 44 .u32 4 Tryz.underlying23 info_limb (by omega) (s + m + 1) (by omega) ((s : Int) + m + 1) (by omega)
  have b0 : Below w.heap.size w (w.alloc (.cells (nums .u32 (List.replicate (s + m + 1) 0)).toArray 44)) := (Below.refl _ _).alloc (Nat.le_refl _) _
  have r0 := rx.below b0 (Nat.le_refl _)
  have k0 := Blk.made w 44 .u32 (List.replicate (s + m + 1) 0) w.heap.size rfl
  have hnw : n < 0 ↔ False := by simp; omega
  go_enter Tryz.func59, Tryz.ntmps59
  go_wp2_with fail
  refine (hc.out).mono ?_
  rintro e w' ⟨rfl, rfl⟩
  go_wp2_with fail
  refine (hl.out).mono ?_
  rintro e w' ⟨rfl, rfl⟩
  go_wp2_with (refine copy_law w.heap.size rfl (.tmp 34) (.tmp 35) 23 23 rfl 44 Tryz.underlying23 size_limb (some ⟨w.heap.size, s, none⟩) ad (s + m + 1 - s) (s + m + 1 - s) m m rfl rfl w.heap.size s .u32 (List.replicate (s + m + 1) 0) xs k0 r0 (by omega) (fun _ => rfl) (by rw [List.length_replicate]; omega) b0 (Nat.le_refl _) ?_; intro w2 k2 b2)
  · have hr0 : 0 < r := by assumption
    have hzv : val 4294967296 (List.take s (List.replicate (s + m + 1) 0) ++ (xs ++ List.drop (s + m) (List.replicate (s + m + 1) 0))) = 4294967296 ^ s * val 4294967296 xs := by
      rw [val_append, val_append, List.take_replicate, List.drop_replicate, val_replicate, val_replicate, List.length_replicate, Nat.min_eq_left (by omega)]
      simp
    have hzd : Dig 4294967296 (List.take s (List.replicate (s + m + 1) 0) ++ (xs ++ List.drop (s + m) (List.replicate (s + m + 1) 0))) :=
      ((Dig.replicate _ (by omega) _).take _).append (dx.append ((Dig.replicate _ (by omega) _).drop _))
    have hzl : (List.take s (List.replicate (s + m + 1) 0) ++ (xs ++ List.drop (s + m) (List.replicate (s + m + 1) (0 : Int)))).length = s + m + 1 := by
      simp [HM.out]; omega
    have hzt : (List.take s (List.replicate (s + m + 1) 0) ++ (xs ++ List.drop (s + m) (List.replicate (s + m + 1) (0 : Int))))[s + m]?.getD 0 = 0 := by
      rw [List.getElem?_append_right (by simp; omega), List.getElem?_append_right (by simp [HM.out]; omega)]
      rw [List.drop_replicate]
      exact getD_replicate _ _
    have HZV := Lib.hid hzv
    have HZL := Lib.hid hzl
    have HZT := Lib.hid hzt
    clear hzv hzl hzt hc hl hmk k0 r0 b0 rx hnw
    generalize List.take s (List.replicate (s + m + 1) 0) ++ (xs ++ List.drop (s + m) (List.replicate (s + m + 1) 0)) = zs at *
    rw [hrr]
    have hI : ShlR w zs (2 ^ r) (s + m + 1) w2 := ⟨zs, k2, rfl, hzd, b2, fun _ _ => rfl, by
      rw [List.drop_of_length_le (by rw [HZL.out]; exact Nat.le_refl _)]
      unfold carryUp
      rw [if_neg (by omega), Nat.add_sub_cancel, HZT.out]
      simp [val]⟩
    clear k2 b2 hs hrr
    go_loopw [43] (fun i wr => ∃ k : Nat, k ≤ s + m + 1 ∧ i = .int .i64 k ∧ ShlR w zs (2 ^ r) (s + m + 1 - k) wr) (fun i _ => s + m + 1 - (intOf i).toNat)
    case atStart => exact ⟨0, Nat.zero_le _, rfl, hI⟩
    case round =>
      clear hI
      obtain ⟨k, hk, rfl, ys, h1, h2, h3, h4, h5, h6⟩ := hrel
      have H2 := Lib.hid h2
      have H5 := Lib.hid h5
      have H6 := Lib.hid h6
      clear h2 h5 h6
      by_cases hkL : k < s + m + 1
      · obtain ⟨j, hj⟩ : ∃ j, j = s + m - k := ⟨_, rfl⟩
        have HJ := Lib.hid hj
        have hjL : j < s + m + 1 := by omega
        have hcj := h1.cell j (by rw [H2.out, HZL.out]; omega)
        rw [H5.out j (by omega)] at hcj
        have hfj := h1.free j
        have bx := hzd.get (by omega) j
        have ST := Lib.hid (shl_step 4294967296 (2 ^ r) (by omega) zs ys j (by rw [HZL.out]; omega) (by rw [H2.out, HZL.out]; omega) (by rw [show j + 1 = s + m + 1 - k by omega]; exact H6.out))
        have hj1 : (s : Int) + m + 1 - 1 - k = j := by omega
        have hj2 : (s : Int) + m - k = j := by omega
        have hmin : min r 32 = r := by omega
        have hkI : (k : Int) < (s : Int) + m + 1 := by omega
        clear H6 hj
        by_cases hj0 : 0 < j
        · have hcj1 := h1.cell (j - 1) (by rw [H2.out, HZL.out]; omega)
          rw [H5.out (j - 1) (by have := HJ.out; omega)] at hcj1
          have by1 := hzd.get (by omega) (j - 1)
          have hcar : carryUp 4294967296 (2 ^ r) zs j = zs[j - 1]?.getD 0 * 2 ^ r / 4294967296 := by unfold carryUp; rw [if_neg (by omega)]
          rw [hcar] at ST
          obtain ⟨om1, om2, om3, om4, om5, om6⟩ := or_move (zs[j]?.getD 0) (zs[j - 1]?.getD 0) r bx by1 hr0 hr32
          have OM := Lib.hid om1
          have hcarE := Lib.hid hcar
          clear hcar om1
          generalize zs[j]?.getD 0 = x at *
          have h1' := h1.set j (x * 2 ^ r % 4294967296)
          have d1' := h3.set om2 (show x * 2 ^ r % 4294967296 < 4294967296 by omega) j
          have b1' := below_set h4 w.heap.size j (.int .u32 (x * 2 ^ r % 4294967296)) (Nat.le_refl _)
          have c1' := h1'.cell j (by rw [List.length_set, H2.out, HZL.out]; omega)
          rw [List.getElem?_set_self (by rw [H2.out, HZL.out]; omega)] at c1'
          simp only [Option.getD_some] at c1'
          have c2' := h1'.cell (j - 1) (by rw [List.length_set, H2.out, HZL.out]; omega)
          rw [List.getElem?_set_ne (by omega), H5.out (j - 1) (by have := HJ.out; omega)] at c2'
          have f1' := h1'.free j
          generalize zs[j - 1]?.getD 0 = y at *
          have K1 := h1'.set j (x * 2 ^ r % 4294967296 + y * 2 ^ r / 4294967296)
          rw [List.set_set] at K1
          have HL2 := Lib.hid (show ((ys.set j (x * 2 ^ r % 4294967296 + y * 2 ^ r / 4294967296)).length = zs.length) by rw [List.length_set, H2.out])
          have d2 := h3.set (show 0 ≤ x * 2 ^ r % 4294967296 + y * 2 ^ r / 4294967296 by omega) om3 j
          have b2 := below_set b1' w.heap.size j (.int .u32 (x * 2 ^ r % 4294967296 + y * 2 ^ r / 4294967296)) (Nat.le_refl _)
          go_wp2
          clear hfj hcj hcj1
          generalize wr.setCell ⟨w.heap.size, j, none⟩ (.int .u32 (x * 2 ^ r % 4294967296)) = w3 at *
          have W1 : IntKind.i64.wrap ((j : Int) - 1) = (j : Int) - 1 := IntWalk.i64_in _ (by omega)
          have W2 : IntKind.i64.wrap (32 - (r : Int)) = 32 - (r : Int) := IntWalk.i64_in _ (by omega)
          have W3 : ((j : Int) - 1).toNat = j - 1 := by omega
          have W4 : (0 : Int) ≤ (j : Int) - 1 := by omega
          have W5 : (32 - (r : Int)).toNat = 32 - r := by omega
          have W6 : (0 : Int) ≤ 32 - (r : Int) := by omega
          have W7 : min (32 - r) 32 = 32 - r := by omega
          have W8 : (j : Int) - 1 < (s : Int) + m + 1 := by omega
          have W9 := OM.out
          go_region
          clear W1 W2 W3 W4 W5 W6 W7 W8 W9
          go_wp2
          go_roundw
          case rel =>
            refine ⟨k + 1, by omega, by go_num, _, K1.drew, HL2.out, d2, below_drew b2, fun q hq => ?_, ?_⟩
            · rw [List.getElem?_set_ne (by have := HJ.out; omega)]
              exact H5.out q (by omega)
            · rw [show s + m + 1 - (k + 1) = j by have := HJ.out; omega, hcarE.out]
              exact ST.out
          case measure => simp [intOf]; omega
        · obtain rfl : j = 0 := by omega
          have hcar : carryUp 4294967296 (2 ^ r) zs 0 = 0 := by unfold carryUp; rw [if_pos rfl]
          rw [hcar, Int.add_zero, Int.add_zero] at ST
          have hp0 : (0 : Int) ≤ zs[0]?.getD 0 * 2 ^ r % 4294967296 := Int.emod_nonneg _ (by omega)
          have hp1 : zs[0]?.getD 0 * 2 ^ r % 4294967296 < 4294967296 := Int.emod_lt_of_pos _ (by omega)
          generalize zs[0]?.getD 0 = x at *
          have K1 := h1.set 0 (x * 2 ^ r % 4294967296)
          have d1' := h3.set hp0 hp1 0
          have b1' := below_set h4 w.heap.size 0 (.int .u32 (x * 2 ^ r % 4294967296)) (Nat.le_refl _)
          have HL2 := Lib.hid (show ((ys.set 0 (x * 2 ^ r % 4294967296)).length = zs.length) by rw [List.length_set, H2.out])
          go_wp2
          go_roundw
          case rel =>
            refine ⟨k + 1, by omega, by go_num, _, K1, HL2.out, d1', b1', fun q hq => ?_, ?_⟩
            · have := HJ.out
              omega
            · rw [show s + m + 1 - (k + 1) = 0 by have := HJ.out; omega, hcar, Int.add_zero]
              exact ST.out
          case measure => simp [intOf]; omega
      · obtain rfl : k = s + m + 1 := by omega
        have hkI : ¬ ((s + m + 1 : Nat) : Int) < (s : Int) + m + 1 := by omega
        have HV := Lib.hid (show val 4294967296 ys = 4294967296 ^ s * val 4294967296 xs * 2 ^ r by
          have := H6.out
          rw [Nat.sub_self, List.drop_zero, List.drop_zero, HZV.out] at this
          rw [this]
          unfold carryUp
          rw [if_pos rfl, Int.mul_comm, Int.add_zero])
        have hcut := Lib.hid (cut_calls (some ⟨w.heap.size, 0, none⟩) (s + m + 1) (s + m + 1) _ wr (by omega) (Nat.le_refl _) (by have := h1.rds; rwa [H2.out, HZL.out] at this))
        have R := h1.ret (Nat.le_refl _) (by rw [H2.out, HZL.out]; omega) h3 _ HV.out h4
        obtain ⟨rd, rn, rc, re, ro, rb⟩ := R
        have RE := Lib.hid re
        clear re
        go_wp2_with fail
        refine (hcut.out).mono ?_
        rintro e w' ⟨rfl, rfl⟩
        go_wp2_with fail
        go_ret2
        have re := RE.out
        injection re with re
        injection re with e1 e2 e3
        refine ⟨rd, rn, rc, ?_, ro, rb⟩
        rw [← e1, ← e2, ← e3]
        rfl
  · obtain rfl : r = 0 := by have h : ¬ 0 < r := by assumption
                             omega
    have hzl : (List.take s (List.replicate (s + m + 1) 0) ++ (xs ++ List.drop (s + m) (List.replicate (s + m + 1) (0 : Int)))).length = s + m + 1 := by
      simp [HM.out]; omega
    have hzd : Dig 4294967296 (List.take s (List.replicate (s + m + 1) 0) ++ (xs ++ List.drop (s + m) (List.replicate (s + m + 1) 0))) :=
      ((Dig.replicate _ (by omega) _).take _).append (dx.append ((Dig.replicate _ (by omega) _).drop _))
    have hzv : val 4294967296 (List.take s (List.replicate (s + m + 1) 0) ++ (xs ++ List.drop (s + m) (List.replicate (s + m + 1) 0))) = 4294967296 ^ s * val 4294967296 xs * 2 ^ 0 := by
      rw [val_append, val_append, List.take_replicate, List.drop_replicate, val_replicate, val_replicate, List.length_replicate, Nat.min_eq_left (by omega)]
      simp
    generalize List.take s (List.replicate (s + m + 1) 0) ++ (xs ++ List.drop (s + m) (List.replicate (s + m + 1) 0)) = zs at *
    have hcut := Lib.hid (cut_calls (some ⟨w.heap.size, 0, none⟩) (s + m + 1) (s + m + 1) _ w2 (by omega) (Nat.le_refl _) (by have := k2.rds; rwa [hzl] at this))
    have R := k2.ret (Nat.le_refl _) (by rw [hzl]; omega) hzd _ hzv b2
    obtain ⟨rd, rn, rc, re, ro, rb⟩ := R
    have RE := Lib.hid re
    clear re hzv hzl
    refine (hcut.out).mono ?_
    rintro e w' ⟨rfl, rfl⟩
    go_wp2_with fail
    go_ret2
    have re := RE.out
    injection re with re
    injection re with e1 e2 e3
    refine ⟨rd, rn, rc, ?_, ro, rb⟩
    rw [← e1, ← e2, ← e3]
    rfl

/-- nat.Shl at any number. -/
theorem shl_calls (ad : Option Addr) (nn c : Nat) (la : List Int) (n : Int) (w : World) (hn : nn ≤ 70368744177664) (hnc : nn ≤ c) (hr : Rds w .u32 ad nn la) (da : Dig 4294967296 la) (hnb : -9223372036854775808 ≤ n ∧ n < 9223372036854775808) :
    Calls Tryz.prog 59 #[.slice ad nn c, .int .i64 n] w (RetLB 44 .u32 (dg 4294967296 (shlNum (val 4294967296 la) n)) (shlOk (val 4294967296 la) n) w) := by
  obtain ⟨hn1, hn2⟩ := hnb
  by_cases hok : shlOk (val 4294967296 la) n = true
  · have h := of_decide_eq_true hok
    by_cases hV : val 4294967296 la = 0
    · have HN := Lib.hid (show shlNum (val 4294967296 la) n = 0 by unfold shlNum; rw [if_pos hok, hV, Int.zero_mul])
      have HO := Lib.hid hok
      have hl : (norm la).length = 0 := by
        have e := norm_eq 4294967296 (by omega) da
        rw [e, show ((4294967296 : Nat) : Int) = 4294967296 from rfl, hV, dg_zero]
        rfl
      have hc := cut_calls ad nn c la w (by omega) hnc hr
      rw [hl] at hc
      have HC := Lib.hid hc
      have h0 := h.1
      have hnw : ¬ n < 0 := by omega
      clear hok h hV hl hc
      go_enter Tryz.func59, Tryz.ntmps59
      go_wp2_with fail
      refine (HC.out).mono ?_
      rintro e w' ⟨rfl, rfl⟩
      go_wp2
      go_ret2
      rw [HN.out, HO.out, dg_zero]
      exact ⟨none, 0, 0, rfl, Own.nil _ _ _ _ _, Below.refl _ _⟩
    · have hlim : n ≤ 8388608 - bitsOf (val 4294967296 la) := by
        rcases h.2 with h2 | h2
        · exact absurd h2 hV
        · exact h2
      have := shl_good ad nn c la n w hn hnc hr da h.1 hV hlim
      unfold shlNum
      rw [if_pos hok, hok]
      exact this
  · have hok' : shlOk (val 4294967296 la) n = false := by simpa using hok
    have HN := Lib.hid (show shlNum (val 4294967296 la) n = 0 by unfold shlNum; rw [if_neg hok])
    have HO := Lib.hid hok'
    have h := of_decide_eq_false hok'
    have HC := Lib.hid (cut_calls ad nn c la w (by omega) hnc hr)
    by_cases h0 : n < 0
    · clear hok hok' h
      go_enter Tryz.func59, Tryz.ntmps59
      go_wp2_with fail
      refine (HC.out).mono ?_
      rintro e w' ⟨rfl, rfl⟩
      go_wp2
      go_ret2
      rw [HN.out, HO.out, dg_zero]
      exact ⟨none, 0, 0, rfl, Own.nil _ _ _ _ _, Below.refl _ _⟩
    · have hV : val 4294967296 la ≠ 0 := fun e => h ⟨by omega, .inl e⟩
      have hlim : 8388608 - bitsOf (val 4294967296 la) < n := by
        apply Classical.byContradiction
        intro h1
        unfold bitsOf at h1
        exact h ⟨by omega, .inr (by omega)⟩
      have rx := hr.norm
      have dx := norm_dig da
      have hma := norm_length_le la
      rw [hr.len] at hma
      have hpos : 0 < (norm la).length := by
        rcases Nat.eq_zero_or_pos (norm la).length with e | e
        · exfalso
          have e2 := val_norm 4294967296 la
          rw [List.eq_nil_of_length_eq_zero e] at e2
          exact hV e2.symm
        · exact e
      have hl := nlen_calls ad (norm la).length (norm la).length (norm la) w (by omega) (Nat.le_refl _) rx dx
      rw [val_norm] at hl
      have HL := Lib.hid hl
      have hb0 : 0 ≤ bitsOf (val 4294967296 la) := by unfold bitsOf; omega
      have hb1 : bitsOf (val 4294967296 la) ≤ 9223372036854775807 := by
        have h1 := blen_list 32 4294967296 (by decide) (norm la) dx (norm_norm la) ((norm la).length - 1) (by omega)
        rw [val_norm] at h1
        have h2 := dx.get (by omega) ((norm la).length - 1)
        have h3 := bitLen_blen ((norm la)[(norm la).length - 1]?.getD 0).toNat (by omega)
        have h4 := Lib.bitLen_le ((norm la)[(norm la).length - 1]?.getD 0).toNat 32 (by omega) (by omega)
        unfold bitsOf
        omega
      clear hl hr hok hok' h hV dx rx
      generalize bitsOf (val 4294967296 la) = bb at *
      obtain ⟨m, hm⟩ : ∃ m, (norm la).length = m := ⟨_, rfl⟩
      rw [hm] at HC HL hpos
      clear hm
      have hmm : ((m : Int) == 0) = false := by simp; omega
      go_enter Tryz.func59, Tryz.ntmps59
      go_wp2_with fail
      refine (HC.out).mono ?_
      rintro e w' ⟨rfl, rfl⟩
      go_wp2_with fail
      refine (HL.out).mono ?_
      rintro e w' ⟨rfl, rfl⟩
      go_wp2
      go_ret2
      rw [HN.out, HO.out, dg_zero]
      exact ⟨none, 0, 0, rfl, Own.nil _ _ _ _ _, Below.refl _ _⟩
end Go.Proofs.YtbcbmkeeoognpaaGreatDoor


/- Whole numbers: signed, made, Norm of the program. -/
namespace Go.Proofs.YtbcbmkeeoognpaaGreatDoor
open Go.RowKit

/-- A number of a sign and a size. -/
def sI (ng : Bool) (V : Int) : Int := if ng then -V else V
theorem sI_abs (ng : Bool) (V : Int) (h : 0 ≤ V) : ((sI ng V).natAbs : Int) = V := by unfold sI; cases ng <;> simp <;> omega
/-- A whole number in normal form is told. -/
def RetInt (N : Int) (w : World) (e : Ending) (w' : World) : Prop :=
  ∃ ad n c, e = .returned (.agg #[.bool (decide (N < 0)), .slice ad n c]) ∧ Can w' ad n c N.natAbs ∧ Below w.heap.size w w'
def RetIntB (N : Int) (ok : Bool) (w : World) (e : Ending) (w' : World) : Prop :=
  ∃ ad n c, e = .returned (.tuple #[.agg #[.bool (decide (N < 0)), .slice ad n c], .bool ok]) ∧ Can w' ad n c N.natAbs ∧ Below w.heap.size w w'

end Go.Proofs.YtbcbmkeeoognpaaGreatDoor

