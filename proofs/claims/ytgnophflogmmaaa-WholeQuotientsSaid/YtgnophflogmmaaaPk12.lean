/- Contracts of functions, and plain facts, part 12. -/
import Derived.Deep.LoopGhost
import Derived.Test.YtgnophflogmmaaaPk1
import Derived.Test.YtgnophflogmmaaaPk2
import Derived.Test.YtgnophflogmmaaaPk3
import Derived.Test.YtgnophflogmmaaaPk4
import Derived.Test.YtgnophflogmmaaaPk5
import Derived.Test.YtgnophflogmmaaaPk6
import Derived.Test.YtgnophflogmmaaaPk7
import Derived.Test.YtgnophflogmmaaaPk8
import Derived.Test.YtgnophflogmmaaaPk9
import Derived.Test.YtgnophflogmmaaaPk11
set_option linter.unusedVariables false
set_option linter.unusedSimpArgs false
/- quot.Digits: a number in decimal. -/
namespace Go.Proofs.Ytgnophflogmmaaa
open Go.RowKit

theorem info_byte : (Try.prog.info? 5).map (fun i => (i.zero, i.size, i.bytes)) = some (some (.int .u8 0), 1, 1) := by kernel_rfl

/-- A text is handed back; nothing old has turned. -/
def RetS (s : ByteArray) (w : World) (e : Ending) (w' : World) : Prop := e = .returned (.string s) ∧ Below w.heap.size w w'

/-- Between two digits. -/
structure DigSt (w : World) (rb : Nat) (NA : Nat) (wr : World) (bd : Option Addr) (bn bc : Nat) (xs : List Int) (x : Option Addr) (n c : Nat) (R : Int) : Prop where
  cell : wr.heap[rb]? = some (.cells #[.slice x n c] 23 (0, 0))
  rds : Rds wr .u32 x n (dg 4294967296 R)
  app : App w.heap.size wr 5 .u8 bd bn bc (asc xs)
  dig : Dig 10 xs
  bel : Below w.heap.size w wr
  size : w.heap.size ≤ wr.heap.size
  rbw : w.heap.size ≤ rb
  sep1 : blkOf bd ≠ some rb
  sep2 : 0 < n → ∀ b, blkOf x = some b → blkOf bd ≠ some b
  nle : n ≤ NA
  pos : 0 ≤ R

theorem DigSt.take {w : World} {rb NA : Nat} {wr : World} {bd : Option Addr} {bn bc : Nat} {xs : List Int} {x : Option Addr} {n c : Nat} {R : Int} (h : DigSt w rb NA wr bd bn bc xs x n c R) {w' : World}
    {ad : Option Addr} {m d : Nat} (t1 : w'.heap[rb]? = some (.cells #[.slice ad m d] 23 (0, 0))) (t2 : Own wr.heap.size w' 78 .u32 ad m d (dg 4294967296 (R / 1000000000)))
    (t3 : ∀ b, blkOf ad = some b → 0 < d → wr.heap.size ≤ b) (t4 : ∀ i, i < wr.heap.size → i ≠ rb → w'.heap[i]? = wr.heap[i]?) (t5 : wr.heap.size ≤ w'.heap.size) (t6 : w'.os = wr.os ∧ w'.tape = wr.tape ∧ w'.output = wr.output) :
    DigSt w rb NA w' bd bn bc xs ad m d (R / 1000000000) := by
  have hR := h.pos
  refine ⟨t1, t2.rds, h.app.kept fun b hb => t4 b (h.app.lt b hb).2 fun e => h.sep1 (by rw [← e]; exact hb), h.dig, h.bel.trans ⟨t6.1, t6.2.1, t6.2.2, t5, fun i hi => t4 i (by have := h.size; omega) (by have := h.rbw; omega)⟩, by have := h.size; omega, h.rbw, h.sep1, ?_, ?_, by omega⟩
  · intro hm b hb e
    have := t3 b hb (by have := t2.le; omega)
    have := (h.app.lt b e).2
    omega
  · have h1 := h.nle
    have h2 := h.rds.len
    have h3 := dg_lt_of_len 4294967296 (by omega) n R hR (by omega)
    rw [← t2.len]
    exact Nat.le_trans (dg_length_le 4294967296 (by omega) n _ (by omega)) h1

theorem DigSt.more {w : World} {rb NA : Nat} {wr : World} {bd : Option Addr} {bn bc : Nat} {xs : List Int} {x : Option Addr} {n c : Nat} {R : Int} (h : DigSt w rb NA wr bd bn bc xs x n c R) {w' : World} {v : Int}
    {ad : Option Addr} {d : Nat} (hv : 0 ≤ v ∧ v < 10) (t1 : App w.heap.size w' 5 .u8 ad (bn + 1) d (asc xs ++ [48 + v])) (t2 : Below w.heap.size w w') (t3 : wr.heap.size ≤ w'.heap.size)
    (t4 : ∀ i, i < wr.heap.size → blkOf bd ≠ some i → w'.heap[i]? = wr.heap[i]?) (t5 : ∀ i, blkOf ad = some i → blkOf bd = some i ∨ wr.heap.size ≤ i) : DigSt w rb NA w' ad (bn + 1) d (xs ++ [v]) x n c R := by
  have hlt := lt_of_block h.cell
  refine ⟨by rw [t4 rb hlt h.sep1]; exact h.cell, h.rds.kept fun hn b hb => ?_, ?_, h.dig.append (Dig.cons hv.1 hv.2 (Dig.nil _)), t2, by have := h.size; omega, h.rbw, fun e => ?_, fun hn b hb e => ?_, h.nle, h.pos⟩
  · obtain ⟨a, ea, ha⟩ := h.rds.lt hn
    have hab : a.block = b := by rw [ea] at hb; exact Option.some.inj hb
    rw [hab] at ha
    exact t4 _ ha (h.sep2 hn _ hb)
  · rw [asc_append, show asc [v] = [48 + v] by simp [asc, Int.add_comm]]
    exact t1
  · rcases t5 rb e with h1 | h1
    · exact h.sep1 h1
    · omega
  · obtain ⟨a, ea, ha⟩ := h.rds.lt hn
    have hab : a.block = b := by rw [ea] at hb; exact Option.some.inj hb
    rw [hab] at ha
    rcases t5 _ e with h1 | h1
    · exact h.sep2 hn _ hb h1
    · omega

set_option maxHeartbeats 1000000 in
set_option maxRecDepth 20000 in
theorem digits_calls (ad : Option Addr) (na ca : Nat) (la : List Int) (w : World) (hna : na ≤ 4398046511104) (hac : na ≤ ca) (ha : Rds w .u32 ad na la) (da : Dig 4294967296 la) :
    Calls Try.prog 59 #[.slice ad na ca] w (RetS (strB (decL (val 4294967296 la))) w) := by
  have N1 := Lib.hid (norm_calls ad na ca la w (by omega) hac ha da)
  have V0 := val_nonneg (show (0 : Int) < 4294967296 by omega) da
  have V1 := Lib.hid (val_lt (show (0 : Int) < 4294967296 by omega) da)
  rw [ha.len] at V1
  clear ha da
  generalize val 4294967296 la = V at *
  obtain ⟨S, HS⟩ : ∃ S, Hid (S = strB (decL V)) := ⟨_, rfl⟩
  rw [← HS.out]
  have hmf : ∀ (fn : Fn) (first cap : Array Value) (w : World), (Instr.makeFunc fn first cap).run Try.prog w = .ok (.func fn first cap) w := fun _ _ _ _ => rfl
  go_enter Try.func59, Try.ntmps59
  go_wp2_with fail
  with_reducible refine (N1.out).mono ?_
  rintro e w1 ⟨x0, n0, c0, rfl, o1, b1⟩
  clear N1
  have hn0 : n0 ≤ na := by rw [← o1.len]; exact dg_length_le 4294967296 (by omega) na V V1.out
  have bel := (Below.refl w1.heap.size w1).alloc (Nat.le_refl _) (.cells #[.slice x0 n0 c0] 23)
  have hI : DigSt w w1.heap.size na (w1.alloc (.cells #[.slice x0 n0 c0] 23)) none 0 0 [] x0 n0 c0 V :=
    ⟨heap_alloc_new _ _, o1.rds.below bel (Nat.le_refl _), App.nil _ _ _ _, Dig.nil _, b1.alloc b1.size _, by have := b1.size; simp; omega, b1.size, by simp [blkOf], fun _ b _ => by simp [blkOf], hn0, V0⟩
  have HI := Lib.hid hI
  clear hI bel
  go_wp2_with fail
  clear hmf
  generalize w1.heap.size = rb at *
  generalize w1.alloc (.cells #[.slice x0 n0 c0] 23) = w2 at *
  go_loopg [5] V.toNat (fun g s5 wr => ∃ (bd : Option Addr) (bn bc : Nat) (xs : List Int) (x : Option Addr) (n c : Nat) (R : Int), s5 = .slice bd bn bc ∧ bn ≤ 32 * na ∧ DigSt w rb na wr bd bn bc xs x n c R ∧
    Hid (val 10 xs + 10 ^ xs.length * R = V) ∧ (R = 0 → Hid (norm xs = xs)) ∧ Hid (g = R.toNat))
  case atStart => exact ⟨_, _, _, [], _, _, _, V, rfl, by omega, HI.out, Lib.hid (by simp [val]), fun _ => Lib.hid rfl, Lib.hid rfl⟩
  case round =>
    clear HI
    obtain ⟨bd, bn, bc, xs, x, n, c, R, rfl, hbn, hst, hv, hno, hme⟩ := hrel
    have hcell := cell_of_one hst.cell
    have hnle := hst.nle
    have hR0 := hst.pos
    have hln := Lib.hid hst.rds.len
    by_cases hn : n = 0
    · have hR : R = 0 := by
        have h1 := hln.out
        rw [hn, List.length_eq_zero_iff, dg_nil 4294967296 R (by omega) hR0] at h1
        exact h1
      have hRz := hR
      subst hn hR
      have HX := Lib.hid (dec_end xs V hst.dig (hno rfl).out hv.out)
      have lx : bn = xs.length := by have := hst.app.len; rw [asc_length] at this; exact this.symm
      clear hno hv hme hRz
      by_cases hb0 : bn = 0
      · have hV0 : V = 0 := by
          have h1 := HX.out
          have h2 : xs = [] := List.length_eq_zero_iff.1 (by omega)
          rw [h2] at h1
          exact (dg_nil 10 V (by omega) V0).1 h1.symm
        have hS : Hid (S = { data := #[48] }) := Lib.hid (by rw [HS.out, hV0]; rfl)
        subst hb0
        have hbel := hst.bel
        clear HS hV0 HX lx
        go_wp2_with fail
        go_ret
        rw [hS.out]
        exact ⟨rfl, hbel⟩
      · have hbp : 0 < bn := by omega
        have hV0 : V ≠ 0 := by
          intro hV0
          have h1 := HX.out
          rw [hV0, dg_zero] at h1
          rw [h1] at lx
          exact hb0 lx
        have hS : Hid (S = strB (asc xs).reverse) := Lib.hid (by rw [HS.out]; unfold decL; rw [if_neg hV0, ← HX.out])
        obtain ⟨g, rfl, hg, hrow⟩ := hst.app.own.rowAt hbp
        have hbc := hst.app.own.le
        have HR := Lib.hid (rev_calls g bn bc 5 (asc xs) wr (by omega) hbc hrow (by rw [asc_length]; exact lx.symm))
        have hbel := hst.bel
        have HD := Lib.hid (asc_dig hst.dig).reverse
        have HL := Lib.hid (show (asc xs).reverse.length = bn by rw [List.length_reverse, asc_length]; exact lx.symm)
        clear HS hV0 HX hb0 lx hst hln
        go_wp2_with fail
        with_reducible refine (HR.out).mono ?_
        rintro e w4 ⟨rfl, r1, o1⟩
        have rd := r1.rds
        rw [HL.out] at rd
        have hcv := conv_str (P := Try.prog) 50 9 5 Try.underlying50 Try.underlying5 Try.underlying9 w4 _ bn bc _ rd HD.out
        have hb4 := Only.below hbel hg o1
        clear HR r1 o1 rd hrow
        go_wp2_with fail
        go_ret
        rw [hS.out]
        exact ⟨rfl, hb4⟩
    · have hRp : 0 < R := by
        rcases Int.lt_or_eq_of_le hR0 with h1 | h1
        · exact h1
        · exfalso
          have h2 := hln.out
          rw [← h1, dg_zero] at h2
          exact hn h2.symm
      have hnp : 0 < n := by omega
      have HT := Lib.hid (take_calls rb x n c R wr (by omega) hR0 hst.cell hst.rds)
      clear hn
      go_wp2_with fail
      with_reducible refine (HT.out).mono ?_
      rintro e w3 ⟨yd, m, d, rfl, t1, t2, t3, t4, t5, t6, t7, t8⟩
      have hst3 := hst.take t1 t2 t3 t4 t5 ⟨t6, t7, t8⟩
      have hln3 := Lib.hid t2.len
      have hmd := t2.le
      have hr0 := Int.emod_nonneg R (show (1000000000 : Int) ≠ 0 by omega)
      have hr1 := Int.emod_lt_of_pos R (show (0 : Int) < 1000000000 by omega)
      have hq0 : 0 ≤ R / 1000000000 := Int.ediv_nonneg hR0 (by omega)
      have HQ := Lib.hid (show (R / 1000000000).toNat < R.toNat by omega)
      have hv3 : val 10 xs + 10 ^ xs.length * (R % 1000000000 + 10 ^ (9 - 0) * (R / 1000000000)) = V := by
        rw [← hv.out]
        congr 2
        rw [show (10 : Int) ^ (9 - 0) = 1000000000 from by decide]
        omega
      have hno3 : R % 1000000000 = 0 → R / 1000000000 = 0 → Hid (norm xs = xs) := fun h1 h2 => by omega
      have HV3 := Lib.hid hv3
      have hst0 := Lib.hid hst3
      clear hst t1 t2 t3 t4 t5 t6 t7 t8 hv hno HT hcell hln hv3 hst3
      generalize R / 1000000000 = Q at *
      generalize R % 1000000000 = r at *
      go_wp2_with fail
      go_loopg [5, 6, 7] 9 (fun g s5 s6 s7 wr => ∃ (bd : Option Addr) (bn bc : Nat) (xs : List Int) (n : Int) (k : Nat), s5 = .slice bd bn bc ∧ s6 = .int .u32 n ∧ s7 = .int .i64 k ∧ k ≤ 9 ∧ 0 ≤ n ∧ n < 1000000000 ∧ Hid (n < 10 ^ (9 - k)) ∧ bn ≤ 32 * na ∧ DigSt w rb na wr bd bn bc xs yd m d Q ∧
        Hid (val 10 xs + 10 ^ xs.length * (n + 10 ^ (9 - k) * Q) = V) ∧ (n = 0 → Q = 0 → Hid (norm xs = xs)) ∧ Hid (g = 9 - k))
      case atStart => exact ⟨_, _, _, xs, _, 0, rfl, rfl, rfl, by omega, hr0, hr1, Lib.hid (by simpa using hr1), hbn, hst0.out, HV3, hno3, Lib.hid rfl⟩
      case round =>
        clear hst0 HV3 hno3 hr0 hr1
        obtain ⟨bd, bn, bc, xs, n, k, rfl, rfl, rfl, hk, hn0, hn1, hn2, hbn, hst, hv, hno, hme2⟩ := hrel
        have hcell := cell_of_one hst.cell
        have ldig := hst.dig
        have lapp := hst.app
        have lbel := hst.bel
        have lsz := hst.size
        by_cases hgo : k < 9 ∧ (0 < n ∨ 0 < Q)
        · have lx : bn = xs.length := by have := lapp.len; rw [asc_length] at this; exact this.symm
          have hlen := dec_len V _ _ xs.length na hv.out (val_nonneg (by omega) ldig) (by
            have hp : (0 : Int) < 10 ^ (9 - k) := Int.pow_pos (by omega)
            have h3 : 0 ≤ 10 ^ (9 - k) * Q := Int.mul_nonneg (by omega) hq0
            rcases hgo.2 with h2 | h2
            · omega
            · have := Int.mul_pos hp h2
              omega) V1.out
          rw [← lx] at hlen
          have hd0 := Int.emod_nonneg n (show (10 : Int) ≠ 0 by omega)
          have hd1 := Int.emod_lt_of_pos n (show (0 : Int) < 10 by omega)
          have ST := Lib.hid (dec_step xs n Q V k hgo.1 hv.out)
          have LT := Lib.hid (dec_lt n k hgo.1 hn2.out)
          have NO : n / 10 = 0 → Q = 0 → Hid (norm (xs ++ [n % 10]) = xs ++ [n % 10]) := fun h1 h2 => Lib.hid (norm_snoc xs _ (by omega))
          have HMO := Lib.hid (fun (w' : World) (ad : Option Addr) (d : Nat) => hst.more (w' := w') (v := n % 10) (ad := ad) (d := d) ⟨hd0, hd1⟩)
          have HNO := Lib.hid NO
          have hmp : 0 < n ∨ 0 < m := by
            rcases hgo.2 with h2 | h2
            · exact .inl h2
            · refine .inr ?_
              rcases Nat.eq_zero_or_pos m with h3 | h3
              · exfalso
                have h1 := hln3.out
                rw [h3, List.length_eq_zero_iff, dg_nil 4294967296 Q (by omega) hq0] at h1
                omega
              · exact h3
          have hk9 : k < 9 := hgo.1
          clear hgo hv hn2 hno NO ldig hst lx
          by_cases hnz : 0 < n
          · go_wp2_with (at_builtin; refine app_kept w.heap.size rfl (.tmp 29) (.tmp 34) 50 5 .u8 1 rfl Try.underlying50 info_byte (by omega) bd bn bc (asc xs) (48 + n % 10) rfl rfl lapp lbel lsz (by omega) ?_; intro ad3 c3 w5 k1 k2 k3 k4 k5)
            go_roundg (9 - (k + 1))
            case measure => have := hme2.out; omega
            case rel => exact ⟨_, _, _, _, _, k + 1, rfl, rfl, by go_num, by omega, by omega, by omega, LT, hlen, HMO.out _ _ _ k1 k2 k3 k4.out k5.out, ST, HNO.out, Lib.hid rfl⟩
          · have hmp2 : 0 < m := by omega
            go_wp2_with (at_builtin; refine app_kept w.heap.size rfl (.tmp 29) (.tmp 34) 50 5 .u8 1 rfl Try.underlying50 info_byte (by omega) bd bn bc (asc xs) (48 + n % 10) rfl rfl lapp lbel lsz (by omega) ?_; intro ad3 c3 w5 k1 k2 k3 k4 k5)
            go_roundg (9 - (k + 1))
            case measure => have := hme2.out; omega
            case rel => exact ⟨_, _, _, _, _, k + 1, rfl, rfl, by go_num, by omega, by omega, by omega, LT, hlen, HMO.out _ _ _ k1 k2 k3 k4.out k5.out, ST, HNO.out, Lib.hid rfl⟩
        · have hnz : n = 0 := by
            rcases Nat.lt_or_ge k 9 with h1 | h1
            · have : ¬ (0 < n ∨ 0 < Q) := fun h2 => hgo ⟨h1, h2⟩
              omega
            · have := hn2.out
              rw [show 9 - k = 0 by omega, Int.pow_zero] at this
              omega
          have hv9 : Hid (val 10 xs + 10 ^ xs.length * Q = V) := Lib.hid (by
            have h0 := hv.out
            rw [hnz] at h0
            rcases Nat.lt_or_ge k 9 with h1 | h1
            · have : ¬ (0 < n ∨ 0 < Q) := fun h2 => hgo ⟨h1, h2⟩
              have : Q = 0 := by omega
              rw [this] at h0 ⊢
              simpa using h0
            · rw [show 9 - k = 0 by omega, Int.pow_zero, Int.one_mul, Int.zero_add] at h0
              exact h0)
          have hno9 : Q = 0 → Hid (norm xs = xs) := fun h => hno hnz h
          have HNO9 := Lib.hid hno9
          have hst9 := Lib.hid hst
          have hdec : ¬ k < 9 ∨ m = 0 := by
            rcases Nat.lt_or_ge k 9 with h1 | h1
            · have : ¬ (0 < n ∨ 0 < Q) := fun h2 => hgo ⟨h1, h2⟩
              have : Q = 0 := by omega
              refine .inr ?_
              rw [← hln3.out, this, dg_zero]
              rfl
            · exact .inl (by omega)
          clear hgo hv hn2 hno ldig lapp lbel lsz hst hno9
          subst hnz
          rcases hdec with hdec | hdec
          · go_wp2_with fail
            go_roundg Q.toNat
            case measure => have h1 := hme.out; have h2 := HQ.out; omega
            case rel => exact ⟨_, _, _, xs, _, _, _, Q, rfl, hbn, hst9.out, hv9, HNO9.out, Lib.hid rfl⟩
          · by_cases hk9 : k < 9
            · have HST : Hid (DigSt w rb na wr bd bn bc xs yd 0 d Q) := Lib.hid (by have := hst9.out; rw [hdec] at this; exact this)
              subst hdec
              go_wp2_with fail
              go_roundg Q.toNat
              case measure => have h1 := hme.out; have h2 := HQ.out; omega
              case rel => exact ⟨_, _, _, xs, _, _, _, Q, rfl, hbn, HST.out, hv9, HNO9.out, Lib.hid rfl⟩
            · go_wp2_with fail
              go_roundg Q.toNat
              case measure => have h1 := hme.out; have h2 := HQ.out; omega
              case rel => exact ⟨_, _, _, xs, _, _, _, Q, rfl, hbn, hst9.out, hv9, HNO9.out, Lib.hid rfl⟩
end Go.Proofs.Ytgnophflogmmaaa

/- crucibleref03: Norm. (Printed by ref03.py.) -/
namespace Go.Proofs.Ytgnophflogmmaaa
open Go.RowKit

set_option maxHeartbeats 1000000 in
theorem r3norm_calls (ng1 : Bool) (ad1 : Option Addr) (n1 c1 : Nat) (V1 : Int) (w : World) (h1 : Num w ad1 n1 c1 V1) (hn1 : n1 ≤ 1099511627776) : Calls Try.prog 34 #[.agg #[.bool ng1, .slice ad1 n1 c1]] w (RetInt (sI ng1 V1) w) := by
  have hV0 := h1.nonneg
  have HA := Lib.hid (sI_abs ng1 V1 hV0)
  have hN := sI_neg ng1 V1 hV0
  have b0 := Below.refl w.heap.size w
  have l0 : Below w.heap.size w (w.alloc (.cells #[.bool ng1, .slice ad1 n1 c1] 25)) := (Below.refl _ _).alloc (Nat.le_refl _) _
  have b1 : Below w.heap.size w (w.alloc (.cells #[.bool ng1, .slice ad1 n1 c1] 25)) := below_trans b0 l0
  have k0 : Cel (w.alloc (.cells #[.bool ng1, .slice ad1 n1 c1] 25)) w.heap.size 25 [.bool ng1, .slice ad1 n1 c1] := Cel.made _ _ _ _ (by simp)
  have l1 : Below (w.alloc (.cells #[.bool ng1, .slice ad1 n1 c1] 25)).heap.size (w.alloc (.cells #[.bool ng1, .slice ad1 n1 c1] 25)) ((w.alloc (.cells #[.bool ng1, .slice ad1 n1 c1] 25)).alloc (.cells #[.bool false, .slice none 0 0] 25)) := (Below.refl _ _).alloc (Nat.le_refl _) _
  have b2 : Below w.heap.size w ((w.alloc (.cells #[.bool ng1, .slice ad1 n1 c1] 25)).alloc (.cells #[.bool false, .slice none 0 0] 25)) := below_trans b1 l1
  have k1 : Cel ((w.alloc (.cells #[.bool ng1, .slice ad1 n1 c1] 25)).alloc (.cells #[.bool false, .slice none 0 0] 25)) (w.heap.size + 1) 25 [.bool false, .slice none 0 0] := Cel.made _ _ _ _ (by simp)
  replace k0 := k0.next l1
  replace h1 := h1.below b2 (Nat.le_refl _)
  clear b0 b1 l0 l1
  have hg0 : w.heap.size ≤ w.heap.size := Nat.le_refl _
  have hg1 : w.heap.size ≤ w.heap.size + 1 := Nat.le_add_right _ _
  generalize sI ng1 V1 = N at *
  have hC := num_rnorm ad1 n1 c1 V1 ((w.alloc (.cells #[.bool ng1, .slice ad1 n1 c1] 25)).alloc (.cells #[.bool false, .slice none 0 0] 25)) h1 hn1
  clear h1
  cases ng1
  · skip
    simp only [Bool.false_and, Bool.true_and] at hN
    have HR := Lib.hid hN
    go_enter Try.func34, Try.ntmps34
    have h := Lib.hid (hC)
    have e0a := k0.cell 0 _ rfl
    have e0b := k0.cell 1 _ rfl
    have e1a := k1.cell 0 _ rfl
    have e1b := k1.cell 1 _ rfl
    go_wp2_with fail
    with_reducible refine (h.out).mono ?_
    rintro e v1 ⟨fd, fn, fc, rfl, ff, b⟩
    clear h
    clear e0a e0b e1a e1b
    replace k0 := k0.next b
    replace k1 := k1.next b
    have bb := below_trans b2 b
    clear b b2
    have b2 := bb
    clear bb
    clear hC
    have g0 := k1.free 0
    have g1 := k1.free 1
    have e0a := k0.cell 0 _ rfl
    have e0b := k0.cell 1 _ rfl
    have e1a := k1.cell 0 _ rfl
    have e1b := k1.cell 1 _ rfl
    go_wp2_with fail
    refine bodyPost_ret (results_cell_row rfl _ _ (w.heap.size + 1) 25 #[.bool false, .slice fd fn fc] (0, 0) _ rfl ((k1.set 0 _).set 1 _).row Try.underlying25 rfl size_int) rfl ?_
    refine ⟨_, _, _, by rw [HR.out], ?_, below_set (below_set b2 _ _ _ hg1) _ _ _ hg1⟩
    rw [HA.out]
    exact ff.poke2 k1 _ _
  · skip
    simp only [Bool.false_and, Bool.true_and] at hN
    by_cases hz : V1 = 0
    · skip
      obtain ⟨r, hr⟩ : ∃ r, r = false := ⟨_, rfl⟩
      have HR := Lib.hid (show decide (N < 0) = false by rw [hN]; rw [hz]; rfl)
      go_enter Try.func34, Try.ntmps34
      have h := Lib.hid (hC)
      have e0a := k0.cell 0 _ rfl
      have e0b := k0.cell 1 _ rfl
      have e1a := k1.cell 0 _ rfl
      have e1b := k1.cell 1 _ rfl
      go_wp2_with fail
      with_reducible refine (h.out).mono ?_
      rintro e v1 ⟨fd, fn, fc, rfl, ff, b⟩
      clear h
      clear e0a e0b e1a e1b
      replace k0 := k0.next b
      replace k1 := k1.next b
      have bb := below_trans b2 b
      clear b b2
      have b2 := bb
      clear bb
      clear hC
      have hq := ff.zero_iff hV0
      have hq2 : fn = 0 := hq.2 hz
      clear hq
      subst hq2
      have g0 := k1.free 0
      have g1 := k1.free 1
      have e0a := k0.cell 0 _ rfl
      have e0b := k0.cell 1 _ rfl
      have e1a := k1.cell 0 _ rfl
      have e1b := k1.cell 1 _ rfl
      go_wp2_with fail
      refine bodyPost_ret (results_cell_row rfl _ _ (w.heap.size + 1) 25 #[.bool false, .slice fd 0 fc] (0, 0) _ rfl ((k1.set 0 _).set 1 _).row Try.underlying25 rfl size_int) rfl ?_
      refine ⟨_, _, _, by rw [HR.out], ?_, below_set (below_set b2 _ _ _ hg1) _ _ _ hg1⟩
      rw [HA.out]
      exact ff.poke2 k1 _ _
    · skip
      obtain ⟨r, hr⟩ : ∃ r, r = true := ⟨_, rfl⟩
      have HR := Lib.hid (show decide (N < 0) = true by rw [hN]; simp; omega)
      go_enter Try.func34, Try.ntmps34
      have h := Lib.hid (hC)
      have e0a := k0.cell 0 _ rfl
      have e0b := k0.cell 1 _ rfl
      have e1a := k1.cell 0 _ rfl
      have e1b := k1.cell 1 _ rfl
      go_wp2_with fail
      with_reducible refine (h.out).mono ?_
      rintro e v1 ⟨fd, fn, fc, rfl, ff, b⟩
      clear h
      clear e0a e0b e1a e1b
      replace k0 := k0.next b
      replace k1 := k1.next b
      have bb := below_trans b2 b
      clear b b2
      have b2 := bb
      clear bb
      clear hC
      have hq := ff.zero_iff hV0
      have hq2 : 0 < fn := by have : fn ≠ 0 := fun e => hz (hq.1 e); omega
      clear hq
      have hq3 : decide (0 < fn) = true := decide_eq_true hq2
      have g0 := k1.free 0
      have g1 := k1.free 1
      have e0a := k0.cell 0 _ rfl
      have e0b := k0.cell 1 _ rfl
      have e1a := k1.cell 0 _ rfl
      have e1b := k1.cell 1 _ rfl
      go_wp2_with fail
      refine bodyPost_ret (results_cell_row rfl _ _ (w.heap.size + 1) 25 #[.bool true, .slice fd fn fc] (0, 0) _ rfl ((k1.set 0 _).set 1 _).row Try.underlying25 rfl size_int) rfl ?_
      refine ⟨_, _, _, by rw [HR.out], ?_, below_set (below_set b2 _ _ _ hg1) _ _ _ hg1⟩
      rw [HA.out]
      exact ff.poke2 k1 _ _

set_option maxRecDepth 20000 in
theorem r3below_calls (ng1 : Bool) (ad1 : Option Addr) (n1 c1 : Nat) (V1 : Int) (w : World) (h1 : Num w ad1 n1 c1 V1) (hn1 : n1 ≤ 1099511627776) : Calls Try.prog 54 #[.agg #[.bool ng1, .slice ad1 n1 c1]] w (fun e w' => e = .returned (.bool (decide (sI ng1 V1 < 0))) ∧ Below w.heap.size w w') := by
  have b0 := Below.refl w.heap.size w
  have l0 : Below w.heap.size w (w.alloc (.cells #[.bool ng1, .slice ad1 n1 c1] 25)) := (Below.refl _ _).alloc (Nat.le_refl _) _
  have b1 : Below w.heap.size w (w.alloc (.cells #[.bool ng1, .slice ad1 n1 c1] 25)) := below_trans b0 l0
  have k0 : Cel (w.alloc (.cells #[.bool ng1, .slice ad1 n1 c1] 25)) w.heap.size 25 [.bool ng1, .slice ad1 n1 c1] := Cel.made _ _ _ _ (by simp)
  replace h1 := h1.below b1 (Nat.le_refl _)
  clear b0 l0
  have hg0 : w.heap.size ≤ w.heap.size := Nat.le_refl _
  have hC := r3norm_calls ng1 ad1 n1 c1 V1 (w.alloc (.cells #[.bool ng1, .slice ad1 n1 c1] 25)) h1 hn1
  clear h1
  generalize sI ng1 V1 = N at *
  obtain ⟨r, hr⟩ : ∃ r, decide (N < 0) = r := ⟨_, rfl⟩
  obtain ⟨A, hA⟩ : ∃ A, A = (N.natAbs : Int) := ⟨_, rfl⟩
  replace hC := hC.mono fun e w' q => RetInt.named hr hA q
  rw [hr]
  clear hr hA
  go_enter Try.func54, Try.ntmps54
  have h := Lib.hid (hC)
  have e0a := k0.cell 0 _ rfl
  have e0b := k0.cell 1 _ rfl
  go_wp2_with fail
  with_reducible refine (h.out).mono ?_
  rintro e v1 ⟨fd, fn, fc, rfl, ff, b⟩
  clear h
  clear e0a e0b
  replace k0 := k0.next b
  have bb := below_trans b1 b
  clear b b1
  have b1 := bb
  clear bb
  clear hC
  have hfd : ∀ v : World, (Instr.field 25 (.agg #[.bool r, .slice fd fn fc]) 0).run Try.prog v = .ok (.bool r) v := fun _ => by kernel_rfl
  go_wp2_with fail
  go_ret
  exact ⟨rfl, b1⟩
end Go.Proofs.Ytgnophflogmmaaa

/- crucibleref03: From. (Printed by ref03.py.) -/
namespace Go.Proofs.Ytgnophflogmmaaa
open Go.RowKit

set_option maxHeartbeats 1000000 in
theorem r3from_calls (n : Int) (w : World) (hn : -9223372036854775808 ≤ n ∧ n < 9223372036854775808) : Calls Try.prog 36 #[.int .i64 n] w (RetInt n w) := by
  by_cases hneg : n < 0
  · skip
    have b0 := Below.refl w.heap.size w
    have l0 : Below w.heap.size w (w.alloc (.cells #[.bool false, .slice none 0 0] 25)) := (Below.refl _ _).alloc (Nat.le_refl _) _
    have b1 : Below w.heap.size w (w.alloc (.cells #[.bool false, .slice none 0 0] 25)) := below_trans b0 l0
    have k0 : Cel (w.alloc (.cells #[.bool false, .slice none 0 0] 25)) w.heap.size 25 [.bool false, .slice none 0 0] := Cel.made _ _ _ _ (by simp)
    clear b0 l0
    have hg0 : w.heap.size ≤ w.heap.size := Nat.le_refl _
    have HR := Lib.hid (show decide (n < 0) = true from decide_eq_true hneg)
    obtain ⟨V, hV⟩ : ∃ V, V = (n.natAbs : Int) := ⟨_, rfl⟩
    have hV0 : 0 ≤ V := by omega
    have hVb : V < 18446744073709551616 := by omega
    have HAB := Lib.hid hV
    have W1 : IntKind.u64.wrap (-(IntKind.u64.wrap n)) = V := by rw [IntKind.wrap_u64, IntKind.wrap_u64]; omega
    have W2 : IntKind.u64.wrap (-n) = V := by rw [IntKind.wrap_u64]; omega
    clear hV
    go_enter Try.func36, Try.ntmps36
    have h := Lib.hid ((rfrom_calls V (w.alloc (.cells #[.bool false, .slice none 0 0] 25)) hV0 hVb).mono fun e w' q => q.can)
    have e0a := k0.cell 0 _ rfl
    have e0b := k0.cell 1 _ rfl
    go_wp2_with fail
    with_reducible refine (h.out).mono ?_
    rintro e v1 ⟨fd, fn, fc, rfl, ff, b⟩
    clear h
    clear e0a e0b
    replace k0 := k0.next b
    have bb := below_trans b1 b
    clear b b1
    have b1 := bb
    clear bb
    clear W1 W2
    have g0 := k0.free 0
    have g1 := k0.free 1
    have e0a := k0.cell 0 _ rfl
    have e0b := k0.cell 1 _ rfl
    go_wp2_with fail
    refine bodyPost_ret (results_cell_row rfl _ _ w.heap.size 25 #[.bool true, .slice fd fn fc] (0, 0) _ rfl ((k0.set 0 _).set 1 _).row Try.underlying25 rfl size_int) rfl ?_
    refine ⟨_, _, _, by rw [HR.out], ?_, below_set (below_set b1 _ _ _ hg0) _ _ _ hg0⟩
    rw [← HAB.out]
    exact ff.poke2 k0 _ _
  · skip
    have b0 := Below.refl w.heap.size w
    have l0 : Below w.heap.size w (w.alloc (.cells #[.bool false, .slice none 0 0] 25)) := (Below.refl _ _).alloc (Nat.le_refl _) _
    have b1 : Below w.heap.size w (w.alloc (.cells #[.bool false, .slice none 0 0] 25)) := below_trans b0 l0
    have k0 : Cel (w.alloc (.cells #[.bool false, .slice none 0 0] 25)) w.heap.size 25 [.bool false, .slice none 0 0] := Cel.made _ _ _ _ (by simp)
    clear b0 l0
    have hg0 : w.heap.size ≤ w.heap.size := Nat.le_refl _
    have HR := Lib.hid (show decide (n < 0) = false from decide_eq_false hneg)
    obtain ⟨V, hV⟩ : ∃ V, V = (n.natAbs : Int) := ⟨_, rfl⟩
    have hV0 : 0 ≤ V := by omega
    have hVb : V < 18446744073709551616 := by omega
    have HAB := Lib.hid hV
    have W1 : IntKind.u64.wrap n = V := by rw [IntKind.wrap_u64]; omega
    clear hV
    go_enter Try.func36, Try.ntmps36
    have h := Lib.hid ((rfrom_calls V (w.alloc (.cells #[.bool false, .slice none 0 0] 25)) hV0 hVb).mono fun e w' q => q.can)
    have e0a := k0.cell 0 _ rfl
    have e0b := k0.cell 1 _ rfl
    go_wp2_with fail
    with_reducible refine (h.out).mono ?_
    rintro e v1 ⟨fd, fn, fc, rfl, ff, b⟩
    clear h
    clear e0a e0b
    replace k0 := k0.next b
    have bb := below_trans b1 b
    clear b b1
    have b1 := bb
    clear bb
    clear W1
    have g0 := k0.free 0
    have g1 := k0.free 1
    have e0a := k0.cell 0 _ rfl
    have e0b := k0.cell 1 _ rfl
    go_wp2_with fail
    refine bodyPost_ret (results_cell_row rfl _ _ w.heap.size 25 #[.bool false, .slice fd fn fc] (0, 0) _ rfl ((k0.set 0 _).set 1 _).row Try.underlying25 rfl size_int) rfl ?_
    refine ⟨_, _, _, by rw [HR.out], ?_, below_set (below_set b1 _ _ _ hg0) _ _ _ hg0⟩
    rw [← HAB.out]
    exact ff.poke2 k0 _ _
end Go.Proofs.Ytgnophflogmmaaa

/- quot.Div: quotient and rest. -/
namespace Go.Proofs.Ytgnophflogmmaaa
open Go.RowKit

/-- What is left; by 0: 0. -/
def remI (V U : Int) : Int := if U = 0 then 0 else V % U

theorem dg_one {V : Int} (h0 : 0 < V) (h1 : V < 4294967296) : dg 4294967296 V = [V] := by
  rw [dg_pos 4294967296 V (by omega) h0, show V % ((4294967296 : Nat) : Int) = V by omega, show V / ((4294967296 : Nat) : Int) = 0 by omega, dg_zero]

theorem div_calls' (ad bd : Option Addr) (na nb ca cb : Nat) (la lb : List Int) (w : World) (hna : na ≤ 70368744177662) (hnb : nb ≤ 70368744177662) (hac : na ≤ ca) (hbc : nb ≤ cb)
    (ha : Rds w .u32 ad na la) (hb : Rds w .u32 bd nb lb) (da : Dig 4294967296 la) (db : Dig 4294967296 lb) (zs rs : List Int) (ok : Bool)
    (HZ : Hid (zs = dg 4294967296 (val 4294967296 la / val 4294967296 lb))) (HR : Hid (rs = dg 4294967296 (remI (val 4294967296 la) (val 4294967296 lb)))) (HO : Hid (ok = decide (val 4294967296 lb ≠ 0))) :
    Calls Try.prog 51 #[.slice ad na ca, .slice bd nb cb] w (RetLLB 78 .u32 zs rs ok w) := by
  have N1 := Lib.hid (norm_calls ad na ca la w (by omega) hac ha da)
  have N2 := fun (w1 : World) (b1 : Below w.heap.size w w1) => Lib.hid (norm_calls bd nb cb lb w1 (by omega) hbc (hb.below b1 (Nat.le_refl _)) db)
  have V0 := val_nonneg (show (0 : Int) < 4294967296 by omega) da
  have U0 := val_nonneg (show (0 : Int) < 4294967296 by omega) db
  have V1 := Lib.hid (val_lt (show (0 : Int) < 4294967296 by omega) da)
  have U1 := Lib.hid (val_lt (show (0 : Int) < 4294967296 by omega) db)
  rw [ha.len] at V1
  rw [hb.len] at U1
  clear ha hb da db
  generalize val 4294967296 la = V at *
  generalize val 4294967296 lb = U at *
  go_enter Try.func51, Try.ntmps51
  go_wp2_with fail
  with_reducible refine (N1.out).mono ?_
  rintro e w1 ⟨ad1, n, c1, rfl, o1, b1⟩
  have N2' := N2 w1 b1
  clear N1 N2
  go_wp2_with fail
  with_reducible refine (N2'.out).mono ?_
  rintro e w2 ⟨bd1, m, c2, rfl, o2, b2⟩
  have p1 := o1.below b2 (Nat.le_refl _)
  have p2 : Own w.heap.size w2 78 .u32 bd1 m c2 (dg 4294967296 U) := o2.mono b1.size
  have b12 := below_trans b1 b2
  have ln := Lib.hid o1.len
  have lm := Lib.hid o2.len
  have hn1 : n ≤ na := by rw [← ln.out]; exact dg_length_le 4294967296 (by omega) na V V1.out
  have hm1 : m ≤ nb := by rw [← lm.out]; exact dg_length_le 4294967296 (by omega) nb U U1.out
  have hnc := o1.le
  have hmc := o2.le
  have eV := val_dg 4294967296 (by omega) V V0
  have eU := val_dg 4294967296 (by omega) U U0
  rw [show ((4294967296 : Nat) : Int) = 4294967296 from rfl] at eV eU
  have EV := Lib.hid eV
  have EU := Lib.hid eU
  clear N2' o1 b1 b2 eV eU
  by_cases hU : U = 0
  · subst hU
    obtain rfl : m = 0 := by rw [← lm.out, dg_zero]; rfl
    have E1 : Hid (zs = []) := by have := HZ.out; rw [Int.ediv_zero, dg_zero] at this; exact this
    have E2 : Hid (rs = []) := by have := HR.out; unfold remI at this; rw [if_pos rfl, dg_zero] at this; exact this
    have E3 : Hid (ok = false) := Lib.hid (by have := HO.out; simpa using this)
    go_wp2_with fail
    go_ret3
    rw [E1.out, E2.out, E3.out]
    exact ⟨_, _, _, _, _, _, rfl, Own.nil _ _ _ _ _, Own.nil _ _ _ _ _, b12, fun h => by omega⟩
  · have E3 : Hid (ok = true) := Lib.hid (by have := HO.out; simpa [hU] using this)

    have E2 : Hid (rs = dg 4294967296 (V % U)) := by have := HR.out; unfold remI at this; rw [if_neg hU] at this; exact this
    have hUp : 0 < U := by omega
    have hm0 : 0 < m := by
      rcases Nat.eq_zero_or_pos m with h | h
      · exfalso
        have e := lm.out
        rw [h, List.length_eq_zero_iff, dg_nil 4294967296 U (by omega) U0] at e
        omega
      · exact h
    clear HR HO hU
    obtain rfl := E3.out
    clear E3

    by_cases hmm : m = 1
    · subst hmm
      have hU2 : U < 4294967296 := by
        have := dg_lt_of_len 4294967296 (by omega) 1 U U0 (by rw [lm.out]; omega)
        simpa using this
      obtain ⟨a, rfl, hc⟩ := o2.rds.cell 0 (by omega)
      have ea : a.add 0 = a := by unfold Addr.add; simp
      rw [dg_one hUp hU2, ea] at hc
      have hc2 : w2.cell? a = some (.int .u32 U) := by simpa using hc
      have S := small_calls ad1 n c1 (dg 4294967296 V) U w2 (by omega) p1.rds (dg_dig 4294967296 (by omega) _) ⟨hUp, hU2⟩
      rw [EV.out] at S
      have HS := Lib.hid S
      have r0 := Int.emod_nonneg V (show U ≠ 0 by omega)
      have r1 := Int.emod_lt_of_pos V hUp
      have HF := fun (w3 : World) => Lib.hid (from_calls (V % U) w3 r0 (by omega))
      clear hc S ea hm0
      go_wp2_with fail
      with_reducible refine (HS.out).mono ?_
      rintro e w3 ⟨qd, qn, qc, rfl, oq, b3⟩
      have HF3 := HF w3
      clear HF HS
      go_wp2_with fail
      with_reducible refine (HF3.out).mono ?_
      rintro e w4 ⟨rd, rn, rc, rfl, or, b4⟩
      clear HF3
      go_wp2_with fail
      go_ret3
      rw [HZ.out, E2.out]
      refine ⟨_, _, _, _, _, _, rfl, (oq.mono b12.size).below b4 (Nat.le_refl _), or.mono (by have := b3.size; have := b12.size; omega), below_trans b12 (below_trans b3 b4), fun c1 c2 a a2 e1 e2 => ?_⟩
      obtain ⟨x1, _, f1, _, f3, _⟩ := oq.row c1
      obtain ⟨x2, _, k1, k2, _⟩ := or.row c2
      rw [f1] at e1
      rw [k1] at e2
      injection e1 with e1
      injection e2 with e2
      subst e1 e2
      have := (Array.getElem?_eq_some_iff.1 f3).1
      show x1 ≠ x2
      omega
    · have hm2 : 2 ≤ m := by omega
      have hme0 : ((m : Int) == 0) = false := by simp; omega
      have hme1 : ((m : Int) == 1) = false := by simp; omega
      have C := ncmp_calls ad1 bd1 n m c1 c2 (dg 4294967296 V) (dg 4294967296 U) w2 (by omega) (by omega) hnc hmc p1.rds p2.rds (dg_dig 4294967296 (by omega) _) (dg_dig 4294967296 (by omega) _)
      rw [EV.out, EU.out] at C
      by_cases hlt : V < U
      · rw [cmpI_lt hlt] at C
        have HC := Lib.hid C
        have E1 : Hid (zs = []) := by have := HZ.out; rw [Int.ediv_eq_zero_of_lt V0 hlt, dg_zero] at this; exact this
        have E4 : Hid (rs = dg 4294967296 V) := by have := E2.out; rw [Int.emod_eq_of_lt V0 hlt] at this; exact this
        clear C hmm
        go_wp2_with fail
        with_reducible refine (HC.out).mono ?_
        rintro e w3 ⟨rfl, q, rfl⟩
        clear HC
        go_wp2_with fail
        go_ret3
        rw [E1.out, E4.out]
        exact ⟨_, _, _, _, _, _, rfl, Own.nil _ _ _ _ _, p1.below (below_drewN (Below.refl _ _) q) (Nat.le_refl _), below_drewN b12 q, fun h => by omega⟩
      · have hge : ¬ cmpI V U < 0 := by have := cmpI_ge (show U ≤ V by omega); omega
        have hle : m ≤ n := by
          rcases Nat.lt_or_ge n m with h | h
          · exfalso
            have k := lt_of_len (b := 4294967296) (by omega) (dg_dig 4294967296 (by omega) V.toNat) (dg_dig 4294967296 (by omega) U.toNat) (norm_dg 4294967296 (by omega) U) (show (dg 4294967296 V).length < (dg 4294967296 U).length by rw [ln.out, lm.out]; exact h)
            have k2 : val 4294967296 (dg 4294967296 V) < val 4294967296 (dg 4294967296 U) := k
            rw [EV.out, EU.out] at k2
            omega
          · exact h
        have htop := norm_last (b := 4294967296) (norm_dg 4294967296 (by omega) U) (m - 1) (by rw [lm.out]; omega)
        have L := fun (w3 : World) (b3 : Below w2.heap.size w2 w3) => long_calls ad1 bd1 n m c1 c2 (dg 4294967296 V) (dg 4294967296 U) w3 (by omega) hm2 hle hnc hmc (p1.rds.below b3 (Nat.le_refl _)) (p2.rds.below b3 (Nat.le_refl _)) (dg_dig 4294967296 (by omega) _) (dg_dig 4294967296 (by omega) _) htop
        rw [EV.out, EU.out, ← HZ.out, ← E2.out] at L
        have HC := Lib.hid C
        obtain ⟨cc, hcc⟩ : ∃ cc, cmpI V U = cc := ⟨_, rfl⟩
        rw [hcc] at HC hge
        clear C hcc htop hmm
        have HL := fun (w3 : World) (b3 : Below w2.heap.size w2 w3) => Lib.hid (L w3 b3)
        clear L
        go_wp2_with fail
        with_reducible refine (HC.out).mono ?_
        rintro e w3 ⟨rfl, q, rfl⟩
        have b3 := below_drewN (Below.refl w2.heap.size w2) q
        have HL3 := HL _ b3
        generalize w2.drewN q = w3 at *
        clear HC HL
        go_wp2_with fail
        with_reducible refine (HL3.out).mono ?_
        rintro e w4 ⟨qd, qn, qc, rd, rn, rc, rfl, oq, or, b4, hsep⟩
        clear HL3
        go_wp2_with fail
        go_ret3
        have b13 := below_trans b12 b3
        exact ⟨_, _, _, _, _, _, rfl, oq.mono b13.size, or.mono b13.size, below_trans b13 b4, hsep⟩

theorem div_calls (ad bd : Option Addr) (na nb ca cb : Nat) (la lb : List Int) (w : World) (hna : na ≤ 70368744177662) (hnb : nb ≤ 70368744177662) (hac : na ≤ ca) (hbc : nb ≤ cb)
    (ha : Rds w .u32 ad na la) (hb : Rds w .u32 bd nb lb) (da : Dig 4294967296 la) (db : Dig 4294967296 lb) :
    Calls Try.prog 51 #[.slice ad na ca, .slice bd nb cb] w
      (RetLLB 78 .u32 (dg 4294967296 (val 4294967296 la / val 4294967296 lb)) (dg 4294967296 (remI (val 4294967296 la) (val 4294967296 lb))) (decide (val 4294967296 lb ≠ 0)) w) :=
  div_calls' ad bd na nb ca cb la lb w hna hnb hac hbc ha hb da db _ _ _ (Lib.hid rfl) (Lib.hid rfl) (Lib.hid rfl)
end Go.Proofs.Ytgnophflogmmaaa
