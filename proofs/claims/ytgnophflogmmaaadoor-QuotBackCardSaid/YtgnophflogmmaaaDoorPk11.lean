/- Contracts of functions, and plain facts, part 11. -/
import Derived.Deep.LoopGhost
import Derived.Test.YtgnophflogmmaaaDoorPk1
import Derived.Test.YtgnophflogmmaaaDoorPk2
import Derived.Test.YtgnophflogmmaaaDoorPk3
import Derived.Test.YtgnophflogmmaaaDoorPk4
import Derived.Test.YtgnophflogmmaaaDoorPk6
import Derived.Test.YtgnophflogmmaaaDoorPk7
import Derived.Test.YtgnophflogmmaaaDoorPk8
import Derived.Test.YtgnophflogmmaaaDoorPk9
import Derived.Test.YtgnophflogmmaaaDoorPk10
set_option linter.unusedVariables false
set_option linter.unusedSimpArgs false
/- quot.Digits: a number in decimal. -/
namespace Go.Proofs.YtgnophflogmmaaaDoor
open Go.RowKit

theorem info_byte : (Tryd.prog.info? 5).map (fun i => (i.zero, i.size, i.bytes)) = some (some (.int .u8 0), 1, 1) := by kernel_rfl

/-- A text is handed back; nothing old has turned. -/
def RetS (s : ByteArray) (w : World) (e : Ending) (w' : World) : Prop := e = .returned (.string s) ∧ Below w.heap.size w w'

/-- Between two digits. -/
structure DigSt (w : World) (rb : Nat) (NA : Nat) (wr : World) (bd : Option Addr) (bn bc : Nat) (xs : List Int) (x : Option Addr) (n c : Nat) (R : Int) : Prop where
  cell : wr.heap[rb]? = some (.cells #[.slice x n c] 23 (0, 0))
  rds : Rds wr .u32 x n (dg 4294967296 R)
  app : App w.heap.size wr 5 .u8 bd bn bc (asc xs)
  dig : Dig 10 xs
  bel : Below w.heap.size w wr
  size : w.heap.size ≤ wr.heap.size
  rbw : w.heap.size ≤ rb
  sep1 : blkOf bd ≠ some rb
  sep2 : 0 < n → ∀ b, blkOf x = some b → blkOf bd ≠ some b
  nle : n ≤ NA
  pos : 0 ≤ R

theorem DigSt.take {w : World} {rb NA : Nat} {wr : World} {bd : Option Addr} {bn bc : Nat} {xs : List Int} {x : Option Addr} {n c : Nat} {R : Int} (h : DigSt w rb NA wr bd bn bc xs x n c R) {w' : World}
    {ad : Option Addr} {m d : Nat} (t1 : w'.heap[rb]? = some (.cells #[.slice ad m d] 23 (0, 0))) (t2 : Own wr.heap.size w' 32 .u32 ad m d (dg 4294967296 (R / 1000000000)))
    (t3 : ∀ b, blkOf ad = some b → 0 < d → wr.heap.size ≤ b) (t4 : ∀ i, i < wr.heap.size → i ≠ rb → w'.heap[i]? = wr.heap[i]?) (t5 : wr.heap.size ≤ w'.heap.size) (t6 : w'.os = wr.os ∧ w'.tape = wr.tape ∧ w'.output = wr.output) :
    DigSt w rb NA w' bd bn bc xs ad m d (R / 1000000000) := by
  have hR := h.pos
  refine ⟨t1, t2.rds, h.app.kept fun b hb => t4 b (h.app.lt b hb).2 fun e => h.sep1 (by rw [← e]; exact hb), h.dig, h.bel.trans ⟨t6.1, t6.2.1, t6.2.2, t5, fun i hi => t4 i (by have := h.size; omega) (by have := h.rbw; omega)⟩, by have := h.size; omega, h.rbw, h.sep1, ?_, ?_, by omega⟩
  · intro hm b hb e
    have := t3 b hb (by have := t2.le; omega)
    have := (h.app.lt b e).2
    omega
  · have h1 := h.nle
    have h2 := h.rds.len
    have h3 := dg_lt_of_len 4294967296 (by omega) n R hR (by omega)
    rw [← t2.len]
    exact Nat.le_trans (dg_length_le 4294967296 (by omega) n _ (by omega)) h1

theorem DigSt.more {w : World} {rb NA : Nat} {wr : World} {bd : Option Addr} {bn bc : Nat} {xs : List Int} {x : Option Addr} {n c : Nat} {R : Int} (h : DigSt w rb NA wr bd bn bc xs x n c R) {w' : World} {v : Int}
    {ad : Option Addr} {d : Nat} (hv : 0 ≤ v ∧ v < 10) (t1 : App w.heap.size w' 5 .u8 ad (bn + 1) d (asc xs ++ [48 + v])) (t2 : Below w.heap.size w w') (t3 : wr.heap.size ≤ w'.heap.size)
    (t4 : ∀ i, i < wr.heap.size → blkOf bd ≠ some i → w'.heap[i]? = wr.heap[i]?) (t5 : ∀ i, blkOf ad = some i → blkOf bd = some i ∨ wr.heap.size ≤ i) : DigSt w rb NA w' ad (bn + 1) d (xs ++ [v]) x n c R := by
  have hlt := lt_of_block h.cell
  refine ⟨by rw [t4 rb hlt h.sep1]; exact h.cell, h.rds.kept fun hn b hb => ?_, ?_, h.dig.append (Dig.cons hv.1 hv.2 (Dig.nil _)), t2, by have := h.size; omega, h.rbw, fun e => ?_, fun hn b hb e => ?_, h.nle, h.pos⟩
  · obtain ⟨a, ea, ha⟩ := h.rds.lt hn
    have hab : a.block = b := by rw [ea] at hb; exact Option.some.inj hb
    rw [hab] at ha
    exact t4 _ ha (h.sep2 hn _ hb)
  · rw [asc_append, show asc [v] = [48 + v] by simp [asc, Int.add_comm]]
    exact t1
  · rcases t5 rb e with h1 | h1
    · exact h.sep1 h1
    · omega
  · obtain ⟨a, ea, ha⟩ := h.rds.lt hn
    have hab : a.block = b := by rw [ea] at hb; exact Option.some.inj hb
    rw [hab] at ha
    rcases t5 _ e with h1 | h1
    · exact h.sep2 hn _ hb h1
    · omega

set_option maxHeartbeats 1000000 in
set_option maxRecDepth 20000 in
theorem digits_calls (ad : Option Addr) (na ca : Nat) (la : List Int) (w : World) (hna : na ≤ 4398046511104) (hac : na ≤ ca) (ha : Rds w .u32 ad na la) (da : Dig 4294967296 la) :
    Calls Tryd.prog 19 #[.slice ad na ca] w (RetS (strB (decL (val 4294967296 la))) w) := by
  have N1 := Lib.hid (norm_calls ad na ca la w (by omega) hac ha da)
  have V0 := val_nonneg (show (0 : Int) < 4294967296 by omega) da
  have V1 := Lib.hid (val_lt (show (0 : Int) < 4294967296 by omega) da)
  rw [ha.len] at V1
  clear ha da
  generalize val 4294967296 la = V at *
  obtain ⟨S, HS⟩ : ∃ S, Hid (S = strB (decL V)) := ⟨_, rfl⟩
  rw [← HS.out]
  have hmf : ∀ (fn : Fn) (first cap : Array Value) (w : World), (Instr.makeFunc fn first cap).run Tryd.prog w = .ok (.func fn first cap) w := fun _ _ _ _ => rfl
  go_enter Tryd.func19, Tryd.ntmps19
  go_wp2_with fail
  with_reducible refine (N1.out).mono ?_
  rintro e w1 ⟨x0, n0, c0, rfl, o1, b1⟩
  clear N1
  have hn0 : n0 ≤ na := by rw [← o1.len]; exact dg_length_le 4294967296 (by omega) na V V1.out
  have bel := (Below.refl w1.heap.size w1).alloc (Nat.le_refl _) (.cells #[.slice x0 n0 c0] 23)
  have hI : DigSt w w1.heap.size na (w1.alloc (.cells #[.slice x0 n0 c0] 23)) none 0 0 [] x0 n0 c0 V :=
    ⟨heap_alloc_new _ _, o1.rds.below bel (Nat.le_refl _), App.nil _ _ _ _, Dig.nil _, b1.alloc b1.size _, by have := b1.size; simp; omega, b1.size, by simp [blkOf], fun _ b _ => by simp [blkOf], hn0, V0⟩
  have HI := Lib.hid hI
  clear hI bel
  go_wp2_with fail
  clear hmf
  generalize w1.heap.size = rb at *
  generalize w1.alloc (.cells #[.slice x0 n0 c0] 23) = w2 at *
  go_loopg [5] V.toNat (fun g s5 wr => ∃ (bd : Option Addr) (bn bc : Nat) (xs : List Int) (x : Option Addr) (n c : Nat) (R : Int), s5 = .slice bd bn bc ∧ bn ≤ 32 * na ∧ DigSt w rb na wr bd bn bc xs x n c R ∧
    Hid (val 10 xs + 10 ^ xs.length * R = V) ∧ (R = 0 → Hid (norm xs = xs)) ∧ Hid (g = R.toNat))
  case atStart => exact ⟨_, _, _, [], _, _, _, V, rfl, by omega, HI.out, Lib.hid (by simp [val]), fun _ => Lib.hid rfl, Lib.hid rfl⟩
  case round =>
    clear HI
    obtain ⟨bd, bn, bc, xs, x, n, c, R, rfl, hbn, hst, hv, hno, hme⟩ := hrel
    have hcell := cell_of_one hst.cell
    have hnle := hst.nle
    have hR0 := hst.pos
    have hln := Lib.hid hst.rds.len
    by_cases hn : n = 0
    · have hR : R = 0 := by
        have h1 := hln.out
        rw [hn, List.length_eq_zero_iff, dg_nil 4294967296 R (by omega) hR0] at h1
        exact h1
      have hRz := hR
      subst hn hR
      have HX := Lib.hid (dec_end xs V hst.dig (hno rfl).out hv.out)
      have lx : bn = xs.length := by have := hst.app.len; rw [asc_length] at this; exact this.symm
      clear hno hv hme hRz
      by_cases hb0 : bn = 0
      · have hV0 : V = 0 := by
          have h1 := HX.out
          have h2 : xs = [] := List.length_eq_zero_iff.1 (by omega)
          rw [h2] at h1
          exact (dg_nil 10 V (by omega) V0).1 h1.symm
        have hS : Hid (S = { data := #[48] }) := Lib.hid (by rw [HS.out, hV0]; rfl)
        subst hb0
        have hbel := hst.bel
        clear HS hV0 HX lx
        go_wp2_with fail
        go_ret
        rw [hS.out]
        exact ⟨rfl, hbel⟩
      · have hbp : 0 < bn := by omega
        have hV0 : V ≠ 0 := by
          intro hV0
          have h1 := HX.out
          rw [hV0, dg_zero] at h1
          rw [h1] at lx
          exact hb0 lx
        have hS : Hid (S = strB (asc xs).reverse) := Lib.hid (by rw [HS.out]; unfold decL; rw [if_neg hV0, ← HX.out])
        obtain ⟨g, rfl, hg, hrow⟩ := hst.app.own.rowAt hbp
        have hbc := hst.app.own.le
        have HR := Lib.hid (rev_calls g bn bc 5 (asc xs) wr (by omega) hbc hrow (by rw [asc_length]; exact lx.symm))
        have hbel := hst.bel
        have HD := Lib.hid (asc_dig hst.dig).reverse
        have HL := Lib.hid (show (asc xs).reverse.length = bn by rw [List.length_reverse, asc_length]; exact lx.symm)
        clear HS hV0 HX hb0 lx hst hln
        go_wp2_with fail
        with_reducible refine (HR.out).mono ?_
        rintro e w4 ⟨rfl, r1, o1⟩
        have rd := r1.rds
        rw [HL.out] at rd
        have hcv := conv_str (P := Tryd.prog) 40 9 5 Tryd.underlying40 Tryd.underlying5 Tryd.underlying9 w4 _ bn bc _ rd HD.out
        have hb4 := Only.below hbel hg o1
        clear HR r1 o1 rd hrow
        go_wp2_with fail
        go_ret
        rw [hS.out]
        exact ⟨rfl, hb4⟩
    · have hRp : 0 < R := by
        rcases Int.lt_or_eq_of_le hR0 with h1 | h1
        · exact h1
        · exfalso
          have h2 := hln.out
          rw [← h1, dg_zero] at h2
          exact hn h2.symm
      have hnp : 0 < n := by omega
      have HT := Lib.hid (take_calls rb x n c R wr (by omega) hR0 hst.cell hst.rds)
      clear hn
      go_wp2_with fail
      with_reducible refine (HT.out).mono ?_
      rintro e w3 ⟨yd, m, d, rfl, t1, t2, t3, t4, t5, t6, t7, t8⟩
      have hst3 := hst.take t1 t2 t3 t4 t5 ⟨t6, t7, t8⟩
      have hln3 := Lib.hid t2.len
      have hmd := t2.le
      have hr0 := Int.emod_nonneg R (show (1000000000 : Int) ≠ 0 by omega)
      have hr1 := Int.emod_lt_of_pos R (show (0 : Int) < 1000000000 by omega)
      have hq0 : 0 ≤ R / 1000000000 := Int.ediv_nonneg hR0 (by omega)
      have HQ := Lib.hid (show (R / 1000000000).toNat < R.toNat by omega)
      have hv3 : val 10 xs + 10 ^ xs.length * (R % 1000000000 + 10 ^ (9 - 0) * (R / 1000000000)) = V := by
        rw [← hv.out]
        congr 2
        rw [show (10 : Int) ^ (9 - 0) = 1000000000 from by decide]
        omega
      have hno3 : R % 1000000000 = 0 → R / 1000000000 = 0 → Hid (norm xs = xs) := fun h1 h2 => by omega
      have HV3 := Lib.hid hv3
      have hst0 := Lib.hid hst3
      clear hst t1 t2 t3 t4 t5 t6 t7 t8 hv hno HT hcell hln hv3 hst3
      generalize R / 1000000000 = Q at *
      generalize R % 1000000000 = r at *
      go_wp2_with fail
      go_loopg [5, 6, 7] 9 (fun g s5 s6 s7 wr => ∃ (bd : Option Addr) (bn bc : Nat) (xs : List Int) (n : Int) (k : Nat), s5 = .slice bd bn bc ∧ s6 = .int .u32 n ∧ s7 = .int .i64 k ∧ k ≤ 9 ∧ 0 ≤ n ∧ n < 1000000000 ∧ Hid (n < 10 ^ (9 - k)) ∧ bn ≤ 32 * na ∧ DigSt w rb na wr bd bn bc xs yd m d Q ∧
        Hid (val 10 xs + 10 ^ xs.length * (n + 10 ^ (9 - k) * Q) = V) ∧ (n = 0 → Q = 0 → Hid (norm xs = xs)) ∧ Hid (g = 9 - k))
      case atStart => exact ⟨_, _, _, xs, _, 0, rfl, rfl, rfl, by omega, hr0, hr1, Lib.hid (by simpa using hr1), hbn, hst0.out, HV3, hno3, Lib.hid rfl⟩
      case round =>
        clear hst0 HV3 hno3 hr0 hr1
        obtain ⟨bd, bn, bc, xs, n, k, rfl, rfl, rfl, hk, hn0, hn1, hn2, hbn, hst, hv, hno, hme2⟩ := hrel
        have hcell := cell_of_one hst.cell
        have ldig := hst.dig
        have lapp := hst.app
        have lbel := hst.bel
        have lsz := hst.size
        by_cases hgo : k < 9 ∧ (0 < n ∨ 0 < Q)
        · have lx : bn = xs.length := by have := lapp.len; rw [asc_length] at this; exact this.symm
          have hlen := dec_len V _ _ xs.length na hv.out (val_nonneg (by omega) ldig) (by
            have hp : (0 : Int) < 10 ^ (9 - k) := Int.pow_pos (by omega)
            have h3 : 0 ≤ 10 ^ (9 - k) * Q := Int.mul_nonneg (by omega) hq0
            rcases hgo.2 with h2 | h2
            · omega
            · have := Int.mul_pos hp h2
              omega) V1.out
          rw [← lx] at hlen
          have hd0 := Int.emod_nonneg n (show (10 : Int) ≠ 0 by omega)
          have hd1 := Int.emod_lt_of_pos n (show (0 : Int) < 10 by omega)
          have ST := Lib.hid (dec_step xs n Q V k hgo.1 hv.out)
          have LT := Lib.hid (dec_lt n k hgo.1 hn2.out)
          have NO : n / 10 = 0 → Q = 0 → Hid (norm (xs ++ [n % 10]) = xs ++ [n % 10]) := fun h1 h2 => Lib.hid (norm_snoc xs _ (by omega))
          have HMO := Lib.hid (fun (w' : World) (ad : Option Addr) (d : Nat) => hst.more (w' := w') (v := n % 10) (ad := ad) (d := d) ⟨hd0, hd1⟩)
          have HNO := Lib.hid NO
          have hmp : 0 < n ∨ 0 < m := by
            rcases hgo.2 with h2 | h2
            · exact .inl h2
            · refine .inr ?_
              rcases Nat.eq_zero_or_pos m with h3 | h3
              · exfalso
                have h1 := hln3.out
                rw [h3, List.length_eq_zero_iff, dg_nil 4294967296 Q (by omega) hq0] at h1
                omega
              · exact h3
          have hk9 : k < 9 := hgo.1
          clear hgo hv hn2 hno NO ldig hst lx
          by_cases hnz : 0 < n
          · go_wp2_with (at_builtin; refine app_kept w.heap.size rfl (.tmp 29) (.tmp 34) 40 5 .u8 1 rfl Tryd.underlying40 info_byte (by omega) bd bn bc (asc xs) (48 + n % 10) rfl rfl lapp lbel lsz (by omega) ?_; intro ad3 c3 w5 k1 k2 k3 k4 k5)
            go_roundg (9 - (k + 1))
            case measure => have := hme2.out; omega
            case rel => exact ⟨_, _, _, _, _, k + 1, rfl, rfl, by go_num, by omega, by omega, by omega, LT, hlen, HMO.out _ _ _ k1 k2 k3 k4.out k5.out, ST, HNO.out, Lib.hid rfl⟩
          · have hmp2 : 0 < m := by omega
            go_wp2_with (at_builtin; refine app_kept w.heap.size rfl (.tmp 29) (.tmp 34) 40 5 .u8 1 rfl Tryd.underlying40 info_byte (by omega) bd bn bc (asc xs) (48 + n % 10) rfl rfl lapp lbel lsz (by omega) ?_; intro ad3 c3 w5 k1 k2 k3 k4 k5)
            go_roundg (9 - (k + 1))
            case measure => have := hme2.out; omega
            case rel => exact ⟨_, _, _, _, _, k + 1, rfl, rfl, by go_num, by omega, by omega, by omega, LT, hlen, HMO.out _ _ _ k1 k2 k3 k4.out k5.out, ST, HNO.out, Lib.hid rfl⟩
        · have hnz : n = 0 := by
            rcases Nat.lt_or_ge k 9 with h1 | h1
            · have : ¬ (0 < n ∨ 0 < Q) := fun h2 => hgo ⟨h1, h2⟩
              omega
            · have := hn2.out
              rw [show 9 - k = 0 by omega, Int.pow_zero] at this
              omega
          have hv9 : Hid (val 10 xs + 10 ^ xs.length * Q = V) := Lib.hid (by
            have h0 := hv.out
            rw [hnz] at h0
            rcases Nat.lt_or_ge k 9 with h1 | h1
            · have : ¬ (0 < n ∨ 0 < Q) := fun h2 => hgo ⟨h1, h2⟩
              have : Q = 0 := by omega
              rw [this] at h0 ⊢
              simpa using h0
            · rw [show 9 - k = 0 by omega, Int.pow_zero, Int.one_mul, Int.zero_add] at h0
              exact h0)
          have hno9 : Q = 0 → Hid (norm xs = xs) := fun h => hno hnz h
          have HNO9 := Lib.hid hno9
          have hst9 := Lib.hid hst
          have hdec : ¬ k < 9 ∨ m = 0 := by
            rcases Nat.lt_or_ge k 9 with h1 | h1
            · have : ¬ (0 < n ∨ 0 < Q) := fun h2 => hgo ⟨h1, h2⟩
              have : Q = 0 := by omega
              refine .inr ?_
              rw [← hln3.out, this, dg_zero]
              rfl
            · exact .inl (by omega)
          clear hgo hv hn2 hno ldig lapp lbel lsz hst hno9
          subst hnz
          rcases hdec with hdec | hdec
          · go_wp2_with fail
            go_roundg Q.toNat
            case measure => have h1 := hme.out; have h2 := HQ.out; omega
            case rel => exact ⟨_, _, _, xs, _, _, _, Q, rfl, hbn, hst9.out, hv9, HNO9.out, Lib.hid rfl⟩
          · by_cases hk9 : k < 9
            · have HST : Hid (DigSt w rb na wr bd bn bc xs yd 0 d Q) := Lib.hid (by have := hst9.out; rw [hdec] at this; exact this)
              subst hdec
              go_wp2_with fail
              go_roundg Q.toNat
              case measure => have h1 := hme.out; have h2 := HQ.out; omega
              case rel => exact ⟨_, _, _, xs, _, _, _, Q, rfl, hbn, HST.out, hv9, HNO9.out, Lib.hid rfl⟩
            · go_wp2_with fail
              go_roundg Q.toNat
              case measure => have h1 := hme.out; have h2 := HQ.out; omega
              case rel => exact ⟨_, _, _, xs, _, _, _, Q, rfl, hbn, hst9.out, hv9, HNO9.out, Lib.hid rfl⟩
end Go.Proofs.YtgnophflogmmaaaDoor

/- quot.Div: quotient and rest. -/
namespace Go.Proofs.YtgnophflogmmaaaDoor
open Go.RowKit

/-- What is left; by 0: 0. -/
def remI (V U : Int) : Int := if U = 0 then 0 else V % U

theorem dg_one {V : Int} (h0 : 0 < V) (h1 : V < 4294967296) : dg 4294967296 V = [V] := by
  rw [dg_pos 4294967296 V (by omega) h0, show V % ((4294967296 : Nat) : Int) = V by omega, show V / ((4294967296 : Nat) : Int) = 0 by omega, dg_zero]

theorem div_calls' (ad bd : Option Addr) (na nb ca cb : Nat) (la lb : List Int) (w : World) (hna : na ≤ 70368744177662) (hnb : nb ≤ 70368744177662) (hac : na ≤ ca) (hbc : nb ≤ cb)
    (ha : Rds w .u32 ad na la) (hb : Rds w .u32 bd nb lb) (da : Dig 4294967296 la) (db : Dig 4294967296 lb) (zs rs : List Int) (ok : Bool)
    (HZ : Hid (zs = dg 4294967296 (val 4294967296 la / val 4294967296 lb))) (HR : Hid (rs = dg 4294967296 (remI (val 4294967296 la) (val 4294967296 lb)))) (HO : Hid (ok = decide (val 4294967296 lb ≠ 0))) :
    Calls Tryd.prog 12 #[.slice ad na ca, .slice bd nb cb] w (RetLLB 32 .u32 zs rs ok w) := by
  have N1 := Lib.hid (norm_calls ad na ca la w (by omega) hac ha da)
  have N2 := fun (w1 : World) (b1 : Below w.heap.size w w1) => Lib.hid (norm_calls bd nb cb lb w1 (by omega) hbc (hb.below b1 (Nat.le_refl _)) db)
  have V0 := val_nonneg (show (0 : Int) < 4294967296 by omega) da
  have U0 := val_nonneg (show (0 : Int) < 4294967296 by omega) db
  have V1 := Lib.hid (val_lt (show (0 : Int) < 4294967296 by omega) da)
  have U1 := Lib.hid (val_lt (show (0 : Int) < 4294967296 by omega) db)
  rw [ha.len] at V1
  rw [hb.len] at U1
  clear ha hb da db
  generalize val 4294967296 la = V at *
  generalize val 4294967296 lb = U at *
  go_enter Tryd.func12, Tryd.ntmps12
  go_wp2_with fail
  with_reducible refine (N1.out).mono ?_
  rintro e w1 ⟨ad1, n, c1, rfl, o1, b1⟩
  have N2' := N2 w1 b1
  clear N1 N2
  go_wp2_with fail
  with_reducible refine (N2'.out).mono ?_
  rintro e w2 ⟨bd1, m, c2, rfl, o2, b2⟩
  have p1 := o1.below b2 (Nat.le_refl _)
  have p2 : Own w.heap.size w2 32 .u32 bd1 m c2 (dg 4294967296 U) := o2.mono b1.size
  have b12 := below_trans b1 b2
  have ln := Lib.hid o1.len
  have lm := Lib.hid o2.len
  have hn1 : n ≤ na := by rw [← ln.out]; exact dg_length_le 4294967296 (by omega) na V V1.out
  have hm1 : m ≤ nb := by rw [← lm.out]; exact dg_length_le 4294967296 (by omega) nb U U1.out
  have hnc := o1.le
  have hmc := o2.le
  have eV := val_dg 4294967296 (by omega) V V0
  have eU := val_dg 4294967296 (by omega) U U0
  rw [show ((4294967296 : Nat) : Int) = 4294967296 from rfl] at eV eU
  have EV := Lib.hid eV
  have EU := Lib.hid eU
  clear N2' o1 b1 b2 eV eU
  by_cases hU : U = 0
  · subst hU
    obtain rfl : m = 0 := by rw [← lm.out, dg_zero]; rfl
    have E1 : Hid (zs = []) := by have := HZ.out; rw [Int.ediv_zero, dg_zero] at this; exact this
    have E2 : Hid (rs = []) := by have := HR.out; unfold remI at this; rw [if_pos rfl, dg_zero] at this; exact this
    have E3 : Hid (ok = false) := Lib.hid (by have := HO.out; simpa using this)
    go_wp2_with fail
    go_ret3
    rw [E1.out, E2.out, E3.out]
    exact ⟨_, _, _, _, _, _, rfl, Own.nil _ _ _ _ _, Own.nil _ _ _ _ _, b12, fun h => by omega⟩
  · have E3 : Hid (ok = true) := Lib.hid (by have := HO.out; simpa [hU] using this)

    have E2 : Hid (rs = dg 4294967296 (V % U)) := by have := HR.out; unfold remI at this; rw [if_neg hU] at this; exact this
    have hUp : 0 < U := by omega
    have hm0 : 0 < m := by
      rcases Nat.eq_zero_or_pos m with h | h
      · exfalso
        have e := lm.out
        rw [h, List.length_eq_zero_iff, dg_nil 4294967296 U (by omega) U0] at e
        omega
      · exact h
    clear HR HO hU
    obtain rfl := E3.out
    clear E3

    by_cases hmm : m = 1
    · subst hmm
      have hU2 : U < 4294967296 := by
        have := dg_lt_of_len 4294967296 (by omega) 1 U U0 (by rw [lm.out]; omega)
        simpa using this
      obtain ⟨a, rfl, hc⟩ := o2.rds.cell 0 (by omega)
      have ea : a.add 0 = a := by unfold Addr.add; simp
      rw [dg_one hUp hU2, ea] at hc
      have hc2 : w2.cell? a = some (.int .u32 U) := by simpa using hc
      have S := small_calls ad1 n c1 (dg 4294967296 V) U w2 (by omega) p1.rds (dg_dig 4294967296 (by omega) _) ⟨hUp, hU2⟩
      rw [EV.out] at S
      have HS := Lib.hid S
      have r0 := Int.emod_nonneg V (show U ≠ 0 by omega)
      have r1 := Int.emod_lt_of_pos V hUp
      have HF := fun (w3 : World) => Lib.hid (from_calls (V % U) w3 r0 (by omega))
      clear hc S ea hm0
      go_wp2_with fail
      with_reducible refine (HS.out).mono ?_
      rintro e w3 ⟨qd, qn, qc, rfl, oq, b3⟩
      have HF3 := HF w3
      clear HF HS
      go_wp2_with fail
      with_reducible refine (HF3.out).mono ?_
      rintro e w4 ⟨rd, rn, rc, rfl, or, b4⟩
      clear HF3
      go_wp2_with fail
      go_ret3
      rw [HZ.out, E2.out]
      refine ⟨_, _, _, _, _, _, rfl, (oq.mono b12.size).below b4 (Nat.le_refl _), or.mono (by have := b3.size; have := b12.size; omega), below_trans b12 (below_trans b3 b4), fun c1 c2 a a2 e1 e2 => ?_⟩
      obtain ⟨x1, _, f1, _, f3, _⟩ := oq.row c1
      obtain ⟨x2, _, k1, k2, _⟩ := or.row c2
      rw [f1] at e1
      rw [k1] at e2
      injection e1 with e1
      injection e2 with e2
      subst e1 e2
      have := (Array.getElem?_eq_some_iff.1 f3).1
      show x1 ≠ x2
      omega
    · have hm2 : 2 ≤ m := by omega
      have hme0 : ((m : Int) == 0) = false := by simp; omega
      have hme1 : ((m : Int) == 1) = false := by simp; omega
      have C := ncmp_calls ad1 bd1 n m c1 c2 (dg 4294967296 V) (dg 4294967296 U) w2 (by omega) (by omega) hnc hmc p1.rds p2.rds (dg_dig 4294967296 (by omega) _) (dg_dig 4294967296 (by omega) _)
      rw [EV.out, EU.out] at C
      by_cases hlt : V < U
      · rw [cmpI_lt hlt] at C
        have HC := Lib.hid C
        have E1 : Hid (zs = []) := by have := HZ.out; rw [Int.ediv_eq_zero_of_lt V0 hlt, dg_zero] at this; exact this
        have E4 : Hid (rs = dg 4294967296 V) := by have := E2.out; rw [Int.emod_eq_of_lt V0 hlt] at this; exact this
        clear C hmm
        go_wp2_with fail
        with_reducible refine (HC.out).mono ?_
        rintro e w3 ⟨rfl, q, rfl⟩
        clear HC
        go_wp2_with fail
        go_ret3
        rw [E1.out, E4.out]
        exact ⟨_, _, _, _, _, _, rfl, Own.nil _ _ _ _ _, p1.below (below_drewN (Below.refl _ _) q) (Nat.le_refl _), below_drewN b12 q, fun h => by omega⟩
      · have hge : ¬ cmpI V U < 0 := by have := cmpI_ge (show U ≤ V by omega); omega
        have hle : m ≤ n := by
          rcases Nat.lt_or_ge n m with h | h
          · exfalso
            have k := lt_of_len (b := 4294967296) (by omega) (dg_dig 4294967296 (by omega) V.toNat) (dg_dig 4294967296 (by omega) U.toNat) (norm_dg 4294967296 (by omega) U) (show (dg 4294967296 V).length < (dg 4294967296 U).length by rw [ln.out, lm.out]; exact h)
            have k2 : val 4294967296 (dg 4294967296 V) < val 4294967296 (dg 4294967296 U) := k
            rw [EV.out, EU.out] at k2
            omega
          · exact h
        have htop := norm_last (b := 4294967296) (norm_dg 4294967296 (by omega) U) (m - 1) (by rw [lm.out]; omega)
        have L := fun (w3 : World) (b3 : Below w2.heap.size w2 w3) => long_calls ad1 bd1 n m c1 c2 (dg 4294967296 V) (dg 4294967296 U) w3 (by omega) hm2 hle hnc hmc (p1.rds.below b3 (Nat.le_refl _)) (p2.rds.below b3 (Nat.le_refl _)) (dg_dig 4294967296 (by omega) _) (dg_dig 4294967296 (by omega) _) htop
        rw [EV.out, EU.out, ← HZ.out, ← E2.out] at L
        have HC := Lib.hid C
        obtain ⟨cc, hcc⟩ : ∃ cc, cmpI V U = cc := ⟨_, rfl⟩
        rw [hcc] at HC hge
        clear C hcc htop hmm
        have HL := fun (w3 : World) (b3 : Below w2.heap.size w2 w3) => Lib.hid (L w3 b3)
        clear L
        go_wp2_with fail
        with_reducible refine (HC.out).mono ?_
        rintro e w3 ⟨rfl, q, rfl⟩
        have b3 := below_drewN (Below.refl w2.heap.size w2) q
        have HL3 := HL _ b3
        generalize w2.drewN q = w3 at *
        clear HC HL
        go_wp2_with fail
        with_reducible refine (HL3.out).mono ?_
        rintro e w4 ⟨qd, qn, qc, rd, rn, rc, rfl, oq, or, b4, hsep⟩
        clear HL3
        go_wp2_with fail
        go_ret3
        have b13 := below_trans b12 b3
        exact ⟨_, _, _, _, _, _, rfl, oq.mono b13.size, or.mono b13.size, below_trans b13 b4, hsep⟩

theorem div_calls (ad bd : Option Addr) (na nb ca cb : Nat) (la lb : List Int) (w : World) (hna : na ≤ 70368744177662) (hnb : nb ≤ 70368744177662) (hac : na ≤ ca) (hbc : nb ≤ cb)
    (ha : Rds w .u32 ad na la) (hb : Rds w .u32 bd nb lb) (da : Dig 4294967296 la) (db : Dig 4294967296 lb) :
    Calls Tryd.prog 12 #[.slice ad na ca, .slice bd nb cb] w
      (RetLLB 32 .u32 (dg 4294967296 (val 4294967296 la / val 4294967296 lb)) (dg 4294967296 (remI (val 4294967296 la) (val 4294967296 lb))) (decide (val 4294967296 lb ≠ 0)) w) :=
  div_calls' ad bd na nb ca cb la lb w hna hnb hac hbc ha hb da db _ _ _ (Lib.hid rfl) (Lib.hid rfl) (Lib.hid rfl)
end Go.Proofs.YtgnophflogmmaaaDoor

/- quot.Bytes: a number as bytes, the highest first. -/
namespace Go.Proofs.YtgnophflogmmaaaDoor
open Go.RowKit

set_option maxHeartbeats 1000000 in
set_option maxRecDepth 20000 in
theorem bytes_calls (ad : Option Addr) (na ca : Nat) (la : List Int) (w : World) (hna : na ≤ 35184372088831) (hac : na ≤ ca) (ha : Rds w .u32 ad na la) (da : Dig 4294967296 la) :
    Calls Tryd.prog 22 #[.slice ad na ca] w (RetS (strB (dg 256 (val 4294967296 la)).reverse) w) := by
  have N1 := Lib.hid (norm_calls ad na ca la w (by omega) hac ha da)
  have V0 := val_nonneg (show (0 : Int) < 4294967296 by omega) da
  have V1 := Lib.hid (val_lt (show (0 : Int) < 4294967296 by omega) da)
  rw [ha.len] at V1
  clear ha da
  generalize val 4294967296 la = V at *
  obtain ⟨S, HS⟩ : ∃ S, Hid (S = strB (dg 256 V).reverse) := ⟨_, rfl⟩
  rw [← HS.out]
  go_enter Tryd.func22, Tryd.ntmps22
  go_wp2_with fail
  with_reducible refine (N1.out).mono ?_
  rintro e w1 ⟨x0, n, c0, rfl, o1, b1⟩
  clear N1
  have hn0 : n ≤ na := by rw [← o1.len]; exact dg_length_le 4294967296 (by omega) na V V1.out
  have HL := Lib.hid o1.len
  have hs1 := b1.size
  have dv := dg_dig 4294967296 (by omega) V.toNat
  have eV := val_dg 4294967296 (by omega) V V0
  rw [show ((4294967296 : Nat) : Int) = 4294967296 from rfl] at eV
  change Dig 4294967296 (dg 4294967296 V) at dv
  have EV := Lib.hid eV
  have DV := Lib.hid dv
  have rx := o1.rds
  have HNN := Lib.hid (dg_nil 4294967296 V (by omega) V0)
  clear o1 eV dv V1
  generalize dg 4294967296 V = ls at *
  go_wp2_with fail
  go_loopw [3, 9] (fun s3 s9 wr => ∃ (bd : Option Addr) (bc k : Nat) (ds : List Int), s3 = .slice bd (4 * k) bc ∧ s9 = .int .i64 k ∧ k ≤ n ∧ App w1.heap.size wr 5 .u8 bd (4 * k) bc ds ∧ Dig 256 ds ∧ Below w1.heap.size w1 wr ∧ w1.heap.size ≤ wr.heap.size ∧ Hid (k = 0 → bd = none ∧ bc = 0) ∧ Hid (val 256 ds = val 4294967296 (ls.take k))) (fun _ s9 _ => n - (intOf s9).toNat)
  case atStart => exact ⟨none, 0, 0, [], rfl, rfl, by omega, App.nil _ _ _ _, Dig.nil _, Below.refl _ _, Nat.le_refl _, Lib.hid (fun _ => ⟨rfl, rfl⟩), Lib.hid rfl⟩
  case round =>
    obtain ⟨bd, bc, k, ds, rfl, rfl, hk, happ, dds, hb1, hsz, hnil, hval⟩ := hrel
    by_cases hkn : k < n
    · obtain ⟨a, rfl, hc⟩ := (rx.below hb1 (Nat.le_refl _)).cell k hkn
      have bx := DV.out.get (by omega) k
      have hf := four_step ls ds k (by rw [HL.out]; exact hkn) happ.len hval.out bx
      obtain ⟨x, hx⟩ : ∃ x, ls[k]?.getD 0 = x := ⟨_, rfl⟩
      rw [hx] at hc bx hf
      have HF := Lib.hid hf
      have DD := Lib.hid (dds.append (four_dig x))
      have HCS : Hid (#[Value.int .u8 (x % 256), Value.int .u8 (x / 256 % 256), Value.int .u8 (x / 65536 % 256), Value.int .u8 (x / 16777216)] = (nums .u8 (four x)).toArray) := Lib.hid (by
        have : x / 16777216 % 256 = x / 16777216 := by omega
        simp [four, nums, this])
      clear hf hx hval dds
      go_wp2_with (at_builtin; refine app_many (w0 := w1) w1.heap.size rfl (.tmp 13) (.tmp 25) 40 5 .u8 1 rfl Tryd.underlying40 info_byte (by omega) bd (4 * k) bc ds (four x) 4 rfl (by omega) _ HCS.out rfl rfl happ hb1 hsz (by omega) ?_; intro ad3 c3 w5 k1 k2 k3)
      go_roundw
      case rel => exact ⟨ad3, c3, k + 1, _, rfl, by go_num, by omega, k1, DD.out, k2, k3, Lib.hid (fun h => by omega), Lib.hid HF.out.2⟩
      case measure => simp [intOf]; omega
    · obtain rfl : k = n := by omega
      have hV : Hid (val 256 ds = V) := Lib.hid (by rw [hval.out, List.take_of_length_le (by rw [HL.out]; omega), EV.out])
      have HDL := Lib.hid happ.len
      have DDS := Lib.hid dds
      have hrd := happ.rds
      have hbel := below_trans b1 hb1
      clear hval rx hb1 b1
      by_cases hk0 : k = 0
      · have hV0 : V = 0 := HNN.out.1 (List.length_eq_zero_iff.1 (by rw [HL.out]; exact hk0))
        have hS : Hid (S = ByteArray.empty) := Lib.hid (by rw [HS.out, hV0, dg_zero]; rfl)
        obtain ⟨rfl, rfl⟩ := hnil.out hk0
        subst hk0
        have HR := Lib.hid (rev_nil wr)
        have hcv := run_convert_bytes_nil (P := Tryd.prog) wr 40 5 Tryd.underlying40 Tryd.underlying5 0 0 9 Tryd.underlying9
        clear happ hV0 HS hnil
        go_wp2_with fail
        refine wp_loop_rounds 1 ?_
        rw [rounds_succ]
        go_wp2_with fail
        with_reducible refine (HR.out).mono ?_
        rintro e w' ⟨rfl, rfl⟩
        clear HR
        go_wp2_with fail
        go_ret
        rw [hS.out]
        exact ⟨rfl, hbel⟩
      · have hkp : 0 < k := by omega
        obtain ⟨g, rfl, hg, hrow⟩ := happ.own.rowAt (by omega)
        have hbc := happ.own.le
        have hD := Lib.hid (norm_eq 256 (by omega) DDS.out)
        clear happ hk0
        go_wp2_with fail
        go_loop [3] (fun s3 => ∃ q : Nat, q ≤ 4 * k ∧ s3 = .slice (some ⟨g, 0, none⟩) q bc ∧ Hid (∀ j, q ≤ j → ds[j]?.getD 0 = 0)) (fun v => match v with | .slice _ q _ => q | _ => 0)
        case atStart => exact ⟨4 * k, Nat.le_refl _, rfl, Lib.hid fun j hj => by rw [List.getElem?_eq_none (by rw [HDL.out]; exact hj)]; rfl⟩
        case round =>
          obtain ⟨q, hq, rfl, hz⟩ := hrel
          by_cases hq0 : q = 0
          · exfalso
            have : ds = List.replicate (4 * k) 0 := by
              refine List.ext_getElem? fun j => ?_
              rcases Nat.lt_or_ge j (4 * k) with h1 | h1
              · have := hz.out j (by omega)
                rw [List.getElem?_replicate, if_pos h1]
                rw [List.getElem?_eq_getElem (by rw [HDL.out]; exact h1), Option.getD_some] at this
                rw [List.getElem?_eq_getElem (by rw [HDL.out]; exact h1), this]
              · rw [List.getElem?_eq_none (by rw [HDL.out]; exact h1), List.getElem?_eq_none (by simp; omega)]
            have hv0 : V = 0 := by rw [← hV.out, this, val_replicate]
            have := HNN.out.2 hv0
            have h2 := HL.out
            rw [this] at h2
            simp at h2
            omega
          · obtain ⟨p, rfl⟩ : ∃ p, q = p + 1 := ⟨q - 1, by omega⟩
            obtain ⟨a, ha, hc⟩ := hrd.cell p (by omega)
            injection ha with ha
            subst ha
            rw [plain_add] at hc
            have bx := DDS.out.get (by omega) p
            obtain ⟨x, hx⟩ : ∃ x, ds[p]?.getD 0 = x := ⟨_, rfl⟩
            rw [hx] at hc bx
            have HX := Lib.hid hx
            have W1 : ((p : Int) + 1 - 1) = (p : Int) := by omega
            clear hx hq0
            by_cases hx0 : x = 0
            · subst hx0
              go_wp2_with fail
              go_round
              case rel => exact ⟨p, by omega, rfl, Lib.hid fun j hj => by
                rcases Nat.lt_or_ge j (p + 1) with h1 | h1
                · obtain rfl : j = p := by omega
                  exact HX.out
                · exact hz.out j h1⟩
              case measure => simp
            · have hx1 : (x == 0) = false := by simpa using hx0
              have hN := norm_stop ds (p + 1) (by rw [HDL.out]; exact hq) hz.out (.inr (by rw [Nat.add_sub_cancel, HX.out]; exact hx0))
              rw [hD.out, show ((256 : Nat) : Int) = 256 from rfl, hV.out] at hN
              have hlt : (ds.take (p + 1)).length = p + 1 := by rw [List.length_take, HDL.out]; omega
              have hS : Hid (S = strB (ds.take (p + 1)).reverse) := Lib.hid (by rw [HS.out, hN])
              have HR := Lib.hid (rev_calls g (p + 1) bc 5 (ds.take (p + 1)) wr (by omega) (by omega) (hrow.first (p + 1) (by rw [HDL.out]; exact hq)) hlt)
              have HRD := Lib.hid (DDS.out.take (p + 1)).reverse
              have HRL := Lib.hid (show (ds.take (p + 1)).reverse.length = p + 1 by rw [List.length_reverse]; exact hlt)
              clear hN hlt hx0 hrow HX hz
              go_wp2_with fail
              with_reducible refine (HR.out).mono ?_
              rintro e w4 ⟨rfl, r1, o1⟩
              have rd := r1.rds
              rw [HRL.out] at rd
              have hcv := conv_str (P := Tryd.prog) 40 9 5 Tryd.underlying40 Tryd.underlying5 Tryd.underlying9 w4 _ (p + 1) bc _ rd HRD.out
              have hb4 := Only.below hbel (show w.heap.size ≤ g by omega) o1
              clear HR r1 o1 rd
              go_wp2_with fail
              go_ret
              rw [hS.out]
              exact ⟨rfl, hb4⟩
end Go.Proofs.YtgnophflogmmaaaDoor

/- quot.Gcd. -/
namespace Go.Proofs.YtgnophflogmmaaaDoor
open Go.RowKit

/-- The greatest number that divides both. -/
def gcdI (V U : Int) : Int := ((Nat.gcd V.toNat U.toNat : Nat) : Int)
theorem gcdI_zero (V : Int) (h : 0 ≤ V) : gcdI V 0 = V := by
  unfold gcdI
  rw [show (0 : Int).toNat = 0 from rfl, Nat.gcd_zero_right]
  omega
theorem gcdI_step (V U : Int) (hV : 0 ≤ V) (hU : 0 < U) : gcdI U (V % U) = gcdI V U := by
  unfold gcdI
  obtain ⟨v, rfl⟩ := Int.eq_ofNat_of_zero_le hV
  obtain ⟨u, rfl⟩ := Int.eq_ofNat_of_zero_le (Int.le_of_lt hU)
  rw [show ((v : Int) % (u : Int)) = ((v % u : Nat) : Int) by simp, Int.toNat_natCast, Int.toNat_natCast, Int.toNat_natCast, Nat.gcd_comm v u, Nat.gcd_rec u v, Nat.gcd_comm]

theorem gcd_calls (ad bd : Option Addr) (na nb ca cb : Nat) (la lb : List Int) (w : World) (hna : na ≤ 70368744177662) (hnb : nb ≤ 70368744177662) (hac : na ≤ ca) (hbc : nb ≤ cb)
    (ha : Rds w .u32 ad na la) (hb : Rds w .u32 bd nb lb) (da : Dig 4294967296 la) (db : Dig 4294967296 lb) :
    Calls Tryd.prog 8 #[.slice ad na ca, .slice bd nb cb] w (RetL 32 .u32 (dg 4294967296 (gcdI (val 4294967296 la) (val 4294967296 lb))) w) := by
  have N1 := Lib.hid (norm_calls ad na ca la w (by omega) hac ha da)
  have N2 := fun (w1 : World) (b1 : Below w.heap.size w w1) => Lib.hid (norm_calls bd nb cb lb w1 (by omega) hbc (hb.below b1 (Nat.le_refl _)) db)
  have V0 := val_nonneg (show (0 : Int) < 4294967296 by omega) da
  have U0 := val_nonneg (show (0 : Int) < 4294967296 by omega) db
  have V1 := Lib.hid (val_lt (show (0 : Int) < 4294967296 by omega) da)
  have U1 := Lib.hid (val_lt (show (0 : Int) < 4294967296 by omega) db)
  rw [ha.len] at V1
  rw [hb.len] at U1
  clear ha hb da db
  generalize val 4294967296 la = V at *
  generalize val 4294967296 lb = U at *
  obtain ⟨G, HG⟩ : ∃ G, Hid (gcdI V U = G) := ⟨_, rfl⟩
  rw [HG.out]
  obtain ⟨gs, HGS⟩ : ∃ gs, Hid (dg 4294967296 G = gs) := ⟨_, rfl⟩
  rw [HGS.out]
  go_enter Tryd.func8, Tryd.ntmps8
  go_wp2_with fail
  with_reducible refine (N1.out).mono ?_
  rintro e w1 ⟨ad1, n, c1, rfl, o1, b1⟩
  have N2' := N2 w1 b1
  clear N1 N2
  go_wp2_with fail
  with_reducible refine (N2'.out).mono ?_
  rintro e w2 ⟨bd1, m, c2, rfl, o2, b2⟩
  have p1 := o1.below b2 (Nat.le_refl _)
  have p2 : Own w.heap.size w2 32 .u32 bd1 m c2 (dg 4294967296 U) := o2.mono b1.size
  have b12 := below_trans b1 b2
  have hn1 : n ≤ na := by rw [← o1.len]; exact dg_length_le 4294967296 (by omega) na V V1.out
  have hm1 : m ≤ nb := by rw [← o2.len]; exact dg_length_le 4294967296 (by omega) nb U U1.out
  clear N2' o1 b1 b2
  go_wp2_with fail
  go_loopg [0, 1] U.toNat (fun g s0 s1 wr => ∃ (x y : Option Addr) (n m c d : Nat) (A Bv : Int), s0 = .slice x n c ∧ s1 = .slice y m d ∧ n ≤ 70368744177662 ∧ m ≤ 70368744177662 ∧ 0 ≤ A ∧ 0 ≤ Bv ∧
    Own w.heap.size wr 32 .u32 x n c (dg 4294967296 A) ∧ Own w.heap.size wr 32 .u32 y m d (dg 4294967296 Bv) ∧ Below w.heap.size w wr ∧ Hid (gcdI A Bv = G) ∧ Hid (g = Bv.toNat))
  case atStart => exact ⟨_, _, _, _, _, _, V, U, rfl, rfl, by omega, by omega, V0, U0, p1, p2, b12, HG, Lib.hid rfl⟩
  case round =>
    clear p1 p2 b12 hn1 hm1 V0 U0 V1 U1 HG
    obtain ⟨x, y, n, m, c, d, A, Bv, rfl, rfl, hn, hm, A0, B0, oa, ob, bw, hg, hme⟩ := hrel
    have lm := Lib.hid ob.len
    have ncle := oa.le
    have mdle := ob.le
    by_cases hz : Bv = 0
    · subst hz
      obtain rfl : m = 0 := by rw [← lm.out, dg_zero]; rfl
      have E : Hid (gs = dg 4294967296 A) := by have := HGS.out; rw [← hg.out, gcdI_zero A A0] at this; exact this.symm
      clear hg hme
      go_wp2_with fail
      go_ret
      rw [E.out]
      exact ⟨_, _, _, rfl, oa, bw⟩
    · have hB : 0 < Bv := by omega
      have hm0 : 0 < m := by
        rcases Nat.eq_zero_or_pos m with h | h
        · exfalso
          have e := lm.out
          rw [h, List.length_eq_zero_iff, dg_nil 4294967296 Bv (by omega) B0] at e
          omega
        · exact h
      have D := div_calls x y n m c d (dg 4294967296 A) (dg 4294967296 Bv) wr hn hm ncle mdle oa.rds ob.rds (dg_dig 4294967296 (by omega) _) (dg_dig 4294967296 (by omega) _)
      have eA := val_dg 4294967296 (by omega) A A0
      have eB := val_dg 4294967296 (by omega) Bv B0
      rw [show ((4294967296 : Nat) : Int) = 4294967296 from rfl] at eA eB
      rw [eA, eB, show remI A Bv = A % Bv by unfold remI; rw [if_neg hz]] at D
      have HD := Lib.hid D
      clear D eA eB hz
      go_wp2_with fail
      with_reducible refine (HD.out).mono ?_
      rintro e w3 ⟨qd, qn, qc, rd, rn, rc, rfl, oq, or, b3, _⟩
      have k1 := ob.below b3 (Nat.le_refl _)
      have k2 : Own w.heap.size w3 32 .u32 rd rn rc (dg 4294967296 (A % Bv)) := or.mono bw.size
      have k3 := below_trans bw b3
      have r0 := Int.emod_nonneg A (show Bv ≠ 0 by omega)
      have r1 := Int.emod_lt_of_pos A hB
      have hrn : rn ≤ m := by
        rw [← or.len]
        refine dg_length_le 4294967296 (by omega) m _ ?_
        have := dg_lt_of_len 4294967296 (by omega) m Bv B0 (by rw [lm.out]; omega)
        omega
      have HGn := Lib.hid (show gcdI Bv (A % Bv) = G by rw [gcdI_step A Bv A0 hB]; exact hg.out)
      have HM := Lib.hid (show (A % Bv).toNat < Bv.toNat by omega)
      clear HD oq or b3 oa ob bw hg lm
      go_wp2_with fail
      go_roundg ((A % Bv).toNat)
      case measure => have h1 := hme.out; have h2 := HM.out; omega

      case rel => exact ⟨_, _, _, _, _, _, Bv, A % Bv, rfl, rfl, hm, by omega, B0, r0, k1, k2, k3, HGn, Lib.hid rfl⟩
end Go.Proofs.YtgnophflogmmaaaDoor
