/- Contracts of functions, and plain facts, part 10. -/
import Derived.Deep.LoopGhost
import Derived.Deep.DeepCutAuto
import Derived.Deep.CutBlock
import Derived.Lib.IndexBytes
import Derived.BigRegion
import Derived.Laws.BitsAllLaws
import Derived.Test.YtgnophflogmmaaaDoorPk2
import Derived.Test.YtgnophflogmmaaaDoorPk3
import Derived.Test.YtgnophflogmmaaaDoorPk5
import Derived.Test.YtgnophflogmmaaaDoorPk7
import Derived.Test.YtgnophflogmmaaaDoorPk8
set_option linter.unusedVariables false
set_option linter.unusedSimpArgs false
/- quot.Read: the number that a text in decimal tells. -/
namespace Go.Proofs.YtgnophflogmmaaaDoor
open Go.RowKit

theorem readOk_no {cs : List Int} (h : readOk cs = false) : dg 4294967296 (readNum cs) = [] := by
  unfold readNum
  rw [h]
  exact dg_zero _

theorem read_empty (s : ByteArray) (w : World) (h : s.size = 0) :
    Calls Tryd.prog 21 #[.string s] w (RetLB 32 .u32 [] false w) := by
  have he : s.toList.isEmpty = true := by rw [toList_nil, h]; rfl
  go_enter Tryd.func21, Tryd.ntmps21
  go_wp2_with fail
  go_ret2
  exact ⟨_, _, _, rfl, Own.nil _ _ _ _ _, Below.refl _ _⟩

theorem read_lead (s : ByteArray) (w : World) (hs : s.size ≤ 140737488351232) (h : 0 < s.size) (h0 : (bytesI s)[0]?.getD 0 = 48) (h1 : s.size ≠ 1) :
    Calls Tryd.prog 21 #[.string s] w (RetLB 32 .u32 [] false w) := by
  have he : s.toList.isEmpty = false := by rw [toList_nil]; exact decide_eq_false (by omega)
  have hq : (s.toList == [48]) = false := by
    rw [beq_eq_false_iff_ne]
    intro e
    have := (toList_eq_iff s [48]).1 e
    have h2 := bytesI_length s
    rw [this] at h2
    exact h1 (by simpa using h2.symm)
  have hx : (s[0].toNat : Int) = 48 := by rw [← bytesI_get s 0 h]; exact h0
  clear h0 h1
  go_enter Tryd.func21, Tryd.ntmps21
  go_wp2_with fail
  go_ret2
  exact ⟨_, _, _, rfl, Own.nil _ _ _ _ _, Below.refl _ _⟩

set_option maxHeartbeats 2000000 in
set_option maxRecDepth 20000 in
theorem read_main (s : ByteArray) (w : World) (hs : s.size ≤ 140737488351232) (hp : 0 < s.size) (h1 : (bytesI s)[0]?.getD 0 = 48 → s.size = 1) :
    Calls Tryd.prog 21 #[.string s] w (RetLB 32 .u32 (dg 4294967296 (readNum (bytesI s))) (readOk (bytesI s)) w) := by
  have he : s.toList.isEmpty = false := by rw [toList_nil]; exact decide_eq_false (by omega)
  have HG := Lib.hid (bytesI_get s)
  have HD := Lib.hid (bytesI_dig s)
  have HL := Lib.hid (bytesI_length s)
  have H1 := Lib.hid h1
  have hE := toList_eq_iff s [48]
  have HE := Lib.hid hE
  obtain ⟨zs, HZ⟩ : ∃ zs, Hid (zs = dg 4294967296 (readNum (bytesI s))) := ⟨_, rfl⟩
  obtain ⟨ok, HO⟩ : ∃ ok, Hid (ok = readOk (bytesI s)) := ⟨_, rfl⟩
  rw [← HZ.out, ← HO.out]
  clear h1 hE
  generalize bytesI s = cs at *
  have h00 := HG.out 0 hp
  have b00 := HD.out.get (by omega) 0
  have HNE : Hid (cs ≠ []) := Lib.hid (by
    intro e
    have := HL.out
    rw [e] at this
    simp at this
    omega)
  go_enter Tryd.func21, Tryd.ntmps21
  go_upto_region 1 with (fail)
  go_cut [21] (fun s21 wx => s21 = .bool false ∧ w = wx)
  case first =>
    by_cases hc : cs[0]?.getD 0 = 48
    · have hx : (s[0].toNat : Int) = 48 := by rw [← h00]; exact hc
      have hsz := H1.out hc
      have hq : (s.toList == [48]) = true := by
        rw [beq_iff_eq]
        refine HE.out.2 ?_
        have hl : cs.length = 1 := by rw [HL.out]; exact hsz
        obtain ⟨a, rfl⟩ := List.length_eq_one_iff.1 hl
        have : a = 48 := by simpa using hc
        rw [this]
        rfl
      clear hc h00 hsz
      go_wp2_with fail
      go_meet
      case rel => exact ⟨rfl, rfl⟩
    · obtain ⟨c, hcc⟩ : ∃ c, cs[0]?.getD 0 = c := ⟨_, rfl⟩
      rw [hcc] at h00 hc b00
      have hx : (s[0].toNat : Int) = c := h00.symm
      have hc2 : (c == 48) = false := by simpa using hc
      clear hcc h00 hc
      go_wp2_with fail
      go_meet
      case rel => exact ⟨rfl, rfl⟩
  case rest =>
    obtain ⟨rfl, rfl⟩ := hcut
    clear h00 b00
    go_wp2_with fail
    go_loop [24] (fun s24 => ∃ k : Nat, k ≤ s.size ∧ s24 = .int .i64 k ∧ Hid (∀ j, j < k → 48 ≤ cs[j]?.getD 0 ∧ cs[j]?.getD 0 ≤ 57)) (fun s24 => s.size - (intOf s24).toNat)
    case atStart => exact ⟨0, by omega, rfl, Lib.hid fun j hj => by omega⟩
    case round =>
      obtain ⟨k, hk, rfl, hd⟩ := hrel
      by_cases hlt : k < s.size
      · have hx := HG.out k hlt
        have bx := HD.out.get (by omega) k
        obtain ⟨c, hcc⟩ : ∃ c, cs[k]?.getD 0 = c := ⟨_, rfl⟩
        rw [hcc] at hx bx
        have hx2 : (s[k].toNat : Int) = c := hx.symm
        have HC := Lib.hid hcc
        clear hx hcc
        by_cases hbad : 48 ≤ c ∧ c ≤ 57
        · go_wp2_with fail
          go_round
          case rel => exact ⟨k + 1, by omega, by go_num, Lib.hid fun j hj => by
            rcases Nat.lt_or_ge j k with h2 | h2
            · exact hd.out j h2
            · obtain rfl : j = k := by omega
              rw [HC.out]; exact hbad⟩
          case measure => simp [intOf]; omega
        · have hno : Hid (ok = false) := Lib.hid (by
            rw [HO.out]
            unfold readOk
            refine decide_eq_false fun hh => hbad ?_
            have hk2 : k < cs.length := by rw [HL.out]; exact hlt
            have := (show Decs cs from hh.2.2.1).get hk2
            rw [HC.out] at this
            exact this)
          have hz0 : Hid (zs = []) := Lib.hid (by
            rw [HZ.out]; exact readOk_no (by rw [← HO.out]; exact hno.out))
          by_cases hlo : c < 48
          · go_wp2_with fail
            go_ret2
            rw [hno.out, hz0.out]
            exact ⟨_, _, _, rfl, Own.nil _ _ _ _ _, Below.refl _ _⟩
          · have hhi : 57 < c := by omega
            go_wp2_with fail
            go_ret2
            rw [hno.out, hz0.out]
            exact ⟨_, _, _, rfl, Own.nil _ _ _ _ _, Below.refl _ _⟩
      · have hdecs : Hid (Decs cs) := Lib.hid (by
          intro c hc
          obtain ⟨j, hj, e⟩ := List.getElem_of_mem hc
          have := hd.out j (by rw [HL.out] at hj; omega)
          rw [List.getElem?_eq_getElem hj, Option.getD_some, e] at this
          exact this)
        have hV0 : Hid (∀ i, 0 ≤ readV (cs.take i)) := Lib.hid fun i => readV_nonneg cs hdecs.out i
        clear hd
        go_wp2_with fail
        clear hlt hk
        go_loopg
 [5, 6] s.size (fun g s5 s6 wr => ∃ (ad : Option Addr) (an ac i : Nat), s5 = .slice ad an ac ∧ s6 = .int .i64 i ∧ i ≤ s.size ∧ an ≤ 262144 ∧ App w.heap.size wr 32 .u32 ad an ac (dg 4294967296 (readV (cs.take i))) ∧
          Below w.heap.size w wr ∧ w.heap.size ≤ wr.heap.size ∧ Hid (g = s.size - i))
        case atStart => exact ⟨_, _, _, 0, rfl, rfl, by omega, by omega, by rw [List.take_zero, show readV [] = 0 from rfl, dg_zero]; exact App.nil _ _ _ _, Below.refl _ _, Nat.le_refl _, Lib.hid rfl⟩
        case round =>
          obtain ⟨ad, an, ac, i, rfl, rfl, hi, han, happ, hbel, hsz, hme⟩ := hrel
          by_cases hin : i < s.size
          · obtain ⟨P, hP⟩ : ∃ P, readV (cs.take i) = P := ⟨_, rfl⟩
            have hP0 : 0 ≤ P := by rw [← hP]; exact hV0.out i
            rw [hP] at happ
            have HPE := Lib.hid hP
            clear hP
            go_upto_block 4 with fail
            go_cut [6, 7, 8] (fun s6 s7 s8 wx => ∃ (j : Nat) (n t : Int), s6 = .int .i64 j ∧ s7 = .int .u32 n ∧ s8 = .int .u32 t ∧ i < j ∧ j ≤ s.size ∧ 1 ≤ t ∧ t ≤ 1000000000 ∧ 0 ≤ n ∧ n < t ∧ Hid (readV (cs.take j) = P * t + n) ∧ wr = wx)
            case first =>
              go_wp2_with fail
              go_loop [6, 7, 8] (fun s6 s7 s8 => ∃ (j q : Nat) (n t : Int), s6 = .int .i64 j ∧ s7 = .int .u32 n ∧ s8 = .int .u32 t ∧ i ≤ j ∧ j ≤ s.size ∧ 1 ≤ t ∧ t ≤ 1000000000 ∧ 0 ≤ n ∧ n < t ∧ Hid (t = 10 ^ q) ∧ q ≤ 9 ∧ (q = 0 ∨ i < j) ∧ Hid (readV (cs.take j) = P * t + n)) (fun s6 _ _ => s.size - (intOf s6).toNat)
              case atStart => exact ⟨i, 0, 0, 1, rfl, rfl, rfl, Nat.le_refl _, hi, by omega, by omega, by omega, by omega, Lib.hid (by simp), by omega, .inl rfl, Lib.hid (by rw [HPE.out]; simp)⟩
              case round =>
                obtain ⟨j, q, n, t, rfl, rfl, rfl, hij, hj, ht1, ht2, hn0, hn1, htq, hq, hor, hval⟩ := hrel
                by_cases hgo : j < s.size ∧ q < 9
                · have hjs : j < s.size := hgo.1
                  have ht3 : t ≤ 100000000 := by
                    rw [htq.out]
                    have := pow_le (b := 10) (by omega) (show q ≤ 8 by omega)
                    rw [show (10 : Int) ^ 8 = 100000000 from by decide] at this
                    exact this
                  have hx := HG.out j hjs
                  have hcl : j < cs.length := by rw [HL.out]; exact hjs
                  have bx := hdecs.out.get hcl
                  have hst := readV_take cs j hcl
                  rw [hval.out] at hst
                  obtain ⟨c, hcc⟩ : ∃ c, cs[j]?.getD 0 = c := ⟨_, rfl⟩
                  rw [hcc] at hx bx hst
                  rw [chunk_step] at hst
                  have hx2 : (s[j].toNat : Int) = c := hx.symm
                  have HST := Lib.hid hst
                  have htq2 : Hid (t * 10 = 10 ^ (q + 1)) := Lib.hid (by rw [Int.pow_succ, htq.out])
                  have hq9 : q < 9 := hgo.2
                  clear hx hcc hst hgo hcl htq hor hval
                  go_wp2_with fail
                  go_round
                  case rel => exact ⟨j + 1, q + 1, _, t * 10, by go_num, rfl, rfl, by omega, by omega, by omega, by omega, by omega, by omega, htq2, by omega, .inr (by omega), HST⟩
                  case measure => simp [intOf]; omega
                · have hij2 : i < j := by
                    rcases hor with h2 | h2
                    · rcases Nat.lt_or_ge j s.size with h3 | h3
                      · exact absurd ⟨h3, by omega⟩ hgo
                      · omega
                    · exact h2
                  by_cases hjs : j < s.size
                  · have hq9 : q = 9 := by
                      rcases Nat.lt_or_ge q 9 with h3 | h3
                      · exact absurd ⟨hjs, h3⟩ hgo
                      · omega
                    have ht9 : ¬ t < 1000000000 := by rw [htq.out, hq9]; decide
                    clear hgo hor hq9 htq
                    go_wp2_with fail
                    go_meet
                    case rel => exact ⟨j, n, t, rfl, rfl, rfl, hij2, hj, ht1, ht2, hn0, hn1, hval, rfl⟩
                  · clear hgo hor htq
                    go_wp2_with fail
                    go_meet
                    case rel => exact ⟨j, n, t, rfl, rfl, rfl, hij2, hj, ht1, ht2, hn0, hn1, hval, rfl⟩
            case rest =>
              obtain ⟨j, n, t, rfl, rfl, rfl, hij, hj, ht1, ht2, hn0, hn1, hval, rfl⟩ := hcut
              clear hin hi
              have hlP := Lib.hid happ.len
              have hI : Hid (App w.heap.size wr 32 .u32 ad an ac (dg 4294967296 P) ∧ Dig 4294967296 (dg 4294967296 P) ∧ Below w.heap.size w wr ∧ w.heap.size ≤ wr.heap.size) := Lib.hid ⟨happ, dg_dig 4294967296 (by omega) _, hbel, hsz⟩
              clear happ hbel hsz
              go_wp2_with fail
              go_loopw [9, 66] (fun s9 s66 wz => ∃ (k : Nat) (c : Int) (ys : List Int), s9 = .int .u64 c ∧ s66 = .int .i64 k ∧ k ≤ an ∧ 0 ≤ c ∧ c ≤ 999999999 ∧ App w.heap.size wz 32 .u32 ad an ac ys ∧ Dig 4294967296 ys ∧ Below w.heap.size w wz ∧ w.heap.size ≤ wz.heap.size ∧ Hid (∀ q, k ≤ q → ys[q]?.getD 0 = (dg 4294967296 P)[q]?.getD 0) ∧
                Hid (val 4294967296 (ys.take k) + 4294967296 ^ k * c = val 4294967296 ((dg 4294967296 P).take k) * t + n)) (fun _ s66 _ => an - (intOf s66).toNat)
              case atStart => exact ⟨0, n, _, rfl, rfl, Nat.zero_le _, by omega, by omega, hI.out.1, hI.out.2.1, hI.out.2.2.1, hI.out.2.2.2, Lib.hid fun _ _ => rfl, Lib.hid (by simp [val])⟩
              case round =>
                clear hI
                obtain ⟨k, c, ys, rfl, rfl, hk, hc0, hc1, happ, dys, hbel, hsz, hsame, hsum⟩ := hrel
                by_cases hkn : k < an
                · obtain ⟨g, rfl, hg, hcell, hfree, hset, honly⟩ := happ.opened (by omega)
                  have ck := hcell k hkn
                  have fk := hfree k
                  have bx := dys.get (by omega) k
                  have hyl := happ.len
                  have hsm := hsame.out k (Nat.le_refl _)
                  obtain ⟨x, hx⟩ : ∃ x, ys[k]?.getD 0 = x := ⟨_, rfl⟩
                  rw [hx] at ck bx
                  have hm0 : 0 ≤ x * t := Int.mul_nonneg bx.1 (by omega)
                  have hm1 : x * t ≤ 4294967295 * 1000000000 := Int.mul_le_mul (by omega) ht2 (by omega) (by omega)
                  obtain ⟨m, hm⟩ : ∃ m, x * t = m := ⟨_, rfl⟩
                  rw [hm] at hm0 hm1
                  have W1 : IntKind.u64.wrap (x * t) = m := by rw [hm]; exact IntWalk.u64_in _ (by omega)
                  have hcar : (c + m) / 4294967296 ≤ 999999999 := by
                    have hxt : x * t + t ≤ 4294967296 * t := by
                      have := Int.mul_le_mul_of_nonneg_right (show x + 1 ≤ 4294967296 by omega) (show 0 ≤ t by omega)
                      rw [Int.add_mul, Int.one_mul] at this
                      exact this
                    omega
                  have ST := Lib.hid (times_step (dg 4294967296 P) ys k c t (c + m) n (by omega) hsm (by rw [← hsm, hx, hm]; omega) hsum.out)
                  have SM : Hid (∀ q, k + 1 ≤ q → (ys.set k ((c + m) % 4294967296))[q]?.getD 0 = (dg 4294967296 P)[q]?.getD 0) := Lib.hid fun q hq => by
                    rw [List.getElem?_set_ne (by omega)]; exact hsame.out q (by omega)
                  have A2 := Lib.hid (hset k ((c + m) % 4294967296) hkn)
                  have B2 := Lib.hid (Only.below hbel hg (honly k (.int .u32 ((c + m) % 4294967296))))
                  have S2 := Lib.hid (show w.heap.size ≤ (wr.setCell ⟨g, k, none⟩ (.int .u32 ((c + m) % 4294967296))).heap.size by rw [(honly k _).size]; exact hsz)
                  have D2 := Lib.hid (dys.set (show 0 ≤ (c + m) % 4294967296 by omega) (show (c + m) % 4294967296 < 4294967296 by omega) k)
                  clear hcell hfree hset honly hsm hx hm hyl happ hsame hsum hbel hsz
                  go_wp2_with fail
                  go_roundw
                  case rel => exact ⟨k + 1, _, _, rfl, by go_num, by omega, by omega, hcar, A2.out, D2.out, B2.out, S2.out, SM, ST⟩
                  case measure => simp [intOf]; omega
                · obtain rfl : k = an := by omega
                  have hyl := happ.len
                  have hS2 := hsum.out
                  rw [← hyl] at hS2
                  by_cases hcz : c = 0
                  · subst hcz
                    have hE := times_end0 P t n ys hP0 ht1 hn0 dys (by rw [hyl]; exact hlP.out.symm) hS2
                    rw [← hval.out] at hE
                    have HA : Hid (App w.heap.size wr 32 .u32 ad k ac (dg 4294967296 (readV (cs.take j)))) := Lib.hid (by rw [← hE]; exact happ)
                    clear hE happ dys hsame hsum hS2 hkn hyl
                    go_wp2_with fail
                    go_roundg (s.size - j)
                    case measure => have := hme.out; omega
                    case rel => exact ⟨_, _, _, j, rfl, rfl, hj, han, HA.out, hbel, hsz, Lib.hid rfl⟩
                  · have hcp : 0 < c := by omega
                    have hE := times_end1 P t n c ys hP0 ht1 hn0 dys (by rw [hyl]; exact hlP.out.symm) ⟨hcp, by omega⟩ hS2
                    rw [← hval.out] at hE
                    have HEE := Lib.hid hE
                    clear hE dys hsame hsum hS2 hkn hyl hcz
                    by_cases hbig : k + 1 ≤ 262144
                    · have hnb : ¬ (262144 : Int) < (k : Int) + 1 := by omega
                      go_wp2_with (at_builtin; refine app_one w.heap.size rfl (.tmp 89) (.tmp 92) 23 32 .u32 4 rfl Tryd.underlying23 info_limb (by omega) ad k ac ys c rfl rfl happ hbel hsz (by omega) ?_; intro ad3 c3 w5 k1 k2 k3)
                      go_roundg (s.size - j)
                      case measure => have := hme.out; omega
                      case rel => exact ⟨_, _, _, j, rfl, rfl, hj, hbig, by rw [← HEE.out]; exact k1, k2, k3, Lib.hid rfl⟩
                    · have hnb : (262144 : Int) < (k : Int) + 1 := by omega
                      have hno : Hid (ok = false) := Lib.hid (by
                        rw [HO.out]
                        unfold readOk
                        refine decide_eq_false fun hh => ?_
                        have h3 := hh.2.2.2
                        have h4 := dg_mono _ _ (hV0.out j) (readV_mono cs hdecs.out j s.size hj)
                        rw [← HEE.out, List.length_append, List.length_singleton, happ.len, ← HL.out, readV_full] at h4
                        omega)
                      have hz0 : Hid (zs = []) := Lib.hid (by
                        rw [HZ.out]; exact readOk_no (by rw [← HO.out]; exact hno.out))
                      go_wp2_with (at_builtin; refine app_one w.heap.size rfl (.tmp 89) (.tmp 92) 23 32 .u32 4 rfl Tryd.underlying23 info_limb (by omega) ad k ac ys c rfl rfl happ hbel hsz (by omega) ?_; intro ad3 c3 w5 k1 k2 k3)
                      go_ret2
                      rw [hno.out, hz0.out]
                      exact ⟨_, _, _, rfl, Own.nil _ _ _ _ _, k2⟩
          · obtain rfl : i = s.size := by omega
            have hfull : readV (cs.take s.size) = readV cs := by rw [← HL.out]; exact readV_full cs
            have hlen := happ.len
            rw [hfull] at happ hlen
            have hok : Hid (ok = true) := Lib.hid (by
              rw [HO.out]
              unfold readOk
              exact decide_eq_true ⟨HNE.out, fun h => by rw [HL.out]; exact H1.out h, hdecs.out, by omega⟩)
            have hzs : Hid (zs = dg 4294967296 (readV cs)) := Lib.hid (by
              rw [HZ.out]
              unfold readNum
              rw [if_pos (by rw [← HO.out]; exact hok.out)])
            have hn := norm_calls ad an ac (dg 4294967296 (readV cs)) wr (by omega) happ.own.le happ.rds (dg_dig 4294967296 (by omega) _)
            have eV := val_dg 4294967296 (by omega) (readV cs) (by rw [← hfull]; exact hV0.out _)
            rw [show ((4294967296 : Nat) : Int) = 4294967296 from rfl] at eV
            rw [eV] at hn
            have HN := Lib.hid hn
            clear hn eV hlen hfull happ hi hin
            go_wp2_with fail
            with_reducible refine (HN.out).mono ?_
            rintro e w5 ⟨rd, rn, rc, rfl, or, b5⟩
            go_wp2_with fail
            go_ret2
            rw [hok.out, hzs.out]
            exact ⟨_, _, _, rfl, or.mono hsz, below_then hbel hsz b5⟩

theorem read_calls (s : ByteArray) (w : World) (hs : s.size ≤ 140737488351232) :
    Calls Tryd.prog 21 #[.string s] w (RetLB 32 .u32 (dg 4294967296 (readNum (bytesI s))) (readOk (bytesI s)) w) := by
  by_cases h0 : s.size = 0
  · have e : bytesI s = [] := List.length_eq_zero_iff.1 (by rw [bytesI_length]; exact h0)
    have hok : readOk (bytesI s) = false := by rw [e]; rfl
    rw [hok, readOk_no hok]
    exact read_empty s w h0
  · by_cases h1 : (bytesI s)[0]?.getD 0 = 48 → s.size = 1
    · exact read_main s w hs (by omega) h1
    · have h2 : (bytesI s)[0]?.getD 0 = 48 ∧ s.size ≠ 1 := by
        rcases Classical.em ((bytesI s)[0]?.getD 0 = 48) with h2 | h2
        · exact ⟨h2, fun e => h1 fun _ => e⟩
        · exact absurd (fun h3 => absurd h3 h2) h1
      have hok : readOk (bytesI s) = false := by
        unfold readOk
        refine decide_eq_false fun hh => h2.2 ?_
        have := hh.2.1 h2.1
        rwa [bytesI_length] at this
      rw [hok, readOk_no hok]
      exact read_lead s w hs (by omega) h2.1 h2.2
end Go.Proofs.YtgnophflogmmaaaDoor

/- quot.FromBytes: the number of bytes. -/
namespace Go.Proofs.YtgnophflogmmaaaDoor
open Go.RowKit

theorem bytesI_drop1 (s : ByteArray) : bytesI (s.extract 1 s.size) = (bytesI s).drop 1 := by
  unfold bytesI
  have hl : s.data.toList.length = s.size := by rw [Array.length_toList]; rfl
  rw [Lib.extract_data, List.take_of_length_le (by rw [List.length_drop, hl]; omega), List.map_drop]

theorem or_byte (e : Nat) (o c : Int) (ho : 0 ≤ o ∧ o < 2 ^ e) (hc : 0 ≤ c) (hl : c * 2 ^ e < 4294967296) (ho2 : o < 4294967296) : bits .or .u32 o (c * 2 ^ e) = o + c * 2 ^ e := by
  obtain ⟨o, rfl⟩ := Int.eq_ofNat_of_zero_le ho.1
  obtain ⟨c, rfl⟩ := Int.eq_ofNat_of_zero_le hc
  have e1 : (c : Int) * 2 ^ e = ((c * 2 ^ e : Nat) : Int) := by simp
  have e2 : ((2 : Int) ^ e) = ((2 ^ e : Nat) : Int) := by simp
  rw [e2] at ho
  rw [e1] at hl ⊢
  have h1 := nat_join e (c * 2 ^ e) o (by rw [Nat.mul_mod_left]) (by omega)
  rw [Go.u32_or_nat o _ (by omega) (by omega), Nat.or_comm, h1]
  omega

set_option maxHeartbeats 1000000 in
set_option maxRecDepth 20000 in
theorem fromb_calls (s : ByteArray) (w : World) (hs : s.size ≤ 140737488351232) :
    Calls Tryd.prog 23 #[.string s] w (RetLB 32 .u32 (dg 4294967296 (byteNum (bytesI s))) (byteOk (bytesI s)) w) := by
  have HD := Lib.hid (bytesI_dig s)
  obtain ⟨zs, HZ⟩ : ∃ zs, Hid (zs = dg 4294967296 (byteNum (bytesI s))) := ⟨_, rfl⟩
  obtain ⟨ok, HO⟩ : ∃ ok, Hid (ok = byteOk (bytesI s)) := ⟨_, rfl⟩
  rw [← HZ.out, ← HO.out]
  obtain ⟨V, HV⟩ : ∃ V, Hid (byteV (bytesI s) = V) := ⟨_, rfl⟩
  go_enter Tryd.func23, Tryd.ntmps23
  go_upto_block 0 with fail
  go_cut [0] (fun v wx => ∃ s' : ByteArray, v = .string s' ∧ s'.size ≤ 140737488351232 ∧ Hid (byteV (bytesI s') = V) ∧ Hid (bytesI s' = [] ∨ (bytesI s')[0]?.getD 0 ≠ 0) ∧ w = wx)
  case first =>
    go_wp2_with fail
    go_loop [0] (fun v => ∃ s' : ByteArray, v = .string s' ∧ s'.size ≤ 140737488351232 ∧ Hid (byteV (bytesI s') = V)) (fun v => match v with | .string x => x.size | _ => 0)
    case atStart => exact ⟨s, rfl, hs, HV⟩
    case round =>
      obtain ⟨s', rfl, hs', hv⟩ := hrel
      by_cases h0 : s'.size = 0
      · have he : s'.toList.isEmpty = true := by rw [toList_nil, h0]; rfl
        have hn : Hid (bytesI s' = [] ∨ (bytesI s')[0]?.getD 0 ≠ 0) := Lib.hid (.inl (List.length_eq_zero_iff.1 (by rw [bytesI_length]; exact h0)))
        clear h0
        go_wp2_with fail
        go_meet
        case rel => exact ⟨s', rfl, hs', hv, hn, rfl⟩
      · have he : s'.toList.isEmpty = false := by rw [toList_nil]; exact decide_eq_false h0
        have hp : 0 < s'.size := by omega
        have hg := bytesI_get s' 0 hp
        have bx := (bytesI_dig s').get (by omega) 0
        obtain ⟨c, hc⟩ : ∃ c, (bytesI s')[0]?.getD 0 = c := ⟨_, rfl⟩
        rw [hc] at hg bx
        have hx : (s'[0].toNat : Int) = c := hg.symm
        have HC := Lib.hid hc
        clear hg hc
        by_cases hc0 : c = 0
        · subst hc0
          have hv1 : Hid (byteV (bytesI (s'.extract 1 s'.size)) = V) := Lib.hid (by
            rw [bytesI_drop1, byteV_skip _ 1 (fun j hj => by obtain rfl : j = 0 := by omega
                                                             exact HC.out) (by rw [bytesI_length]; omega)]
            exact hv.out)
          have hsz : (s'.extract 1 s'.size).size = s'.size - 1 := by simp [ByteArray.size_extract]
          have HSZ := Lib.hid hsz
          clear hsz
          go_wp2_with fail
          go_round
          case rel => exact ⟨_, rfl, by rw [HSZ.out]; omega, hv1⟩
          case measure => show (s'.extract 1 s'.size).size < s'.size; rw [HSZ.out]; omega
        · have hc1 : (c == 0) = false := by simpa using hc0
          have hn : Hid (bytesI s' = [] ∨ (bytesI s')[0]?.getD 0 ≠ 0) := Lib.hid (.inr (by rw [HC.out]; exact hc0))
          clear hc0
          go_wp2_with fail
          go_meet
          case rel => exact ⟨s', rfl, hs', hv, hn, rfl⟩
  case rest =>
    obtain ⟨s', rfl, hs', hv, hn, rfl⟩ := hcut
    have hown := byteV_own (bytesI s') (bytesI_dig s') hn.out
    rw [hv.out] at hown
    have hlen : (dg 256 V).length = s'.size := by rw [hown, List.length_reverse, bytesI_length]
    have HOWN := Lib.hid hown
    by_cases hbig : 1048576 < s'.size
    · have hno : Hid (ok = false) := Lib.hid (by rw [HO.out]; unfold byteOk; rw [HV.out]; exact decide_eq_false (by omega))
      have hz0 : Hid (zs = []) := Lib.hid (by
        rw [HZ.out]; unfold byteNum; rw [← HO.out, hno.out, if_neg (by simp), dg_zero])
      clear hown hlen
      go_wp2_with fail
      go_ret2
      rw [hno.out, hz0.out]
      exact ⟨_, _, _, rfl, Own.nil _ _ _ _ _, Below.refl _ _⟩
    · have hok : Hid (ok = true) := Lib.hid (by rw [HO.out]; unfold byteOk; rw [HV.out]; exact decide_eq_true (by omega))
      have hzs : Hid (zs = dg 4294967296 V) := Lib.hid (by rw [HZ.out]; unfold byteNum; rw [← HO.out, hok.out, if_pos rfl, HV.out])
      have HG := Lib.hid (bytesI_get s')
      have hle : s'.size ≤ 1048576 := by omega
      obtain ⟨rs, hrs⟩ : ∃ rs, (bytesI s').reverse = rs := ⟨_, rfl⟩
      have DR : Dig 256 rs := by rw [← hrs]; exact (bytesI_dig s').reverse
      have hrl : rs.length = s'.size := by rw [← hrs, List.length_reverse, bytesI_length]
      have HGR : Hid (∀ k, k < s'.size → rs[k]?.getD 0 = (bytesI s')[s'.size - 1 - k]?.getD 0) := Lib.hid fun k hk => by
        rw [← hrs, List.getElem?_reverse (by rw [bytesI_length]; exact hk), bytesI_length]
      have hVr : val 256 rs = V := by rw [← hrs]; exact hv.out
      have hnr : norm rs = rs := by rw [← hrs, ← hown]; exact norm_dg 256 (by omega) V
      obtain ⟨M, hM⟩ : ∃ M, (s'.size + 3) / 4 = M := ⟨_, rfl⟩
      have hMi : ((s'.size : Int) + 3) / 4 = (M : Int) := by omega
      have hmk := make_rule (P := Tryd.prog) 23 32 .u32 4 Tryd.underlying23 info_limb (by omega) M (by omega) (M : Int) rfl
      have hI := byte_start rs M
      have k0 : Blk (w.alloc (.cells (nums .u32 (List.replicate M 0)).toArray 32)) w.heap.size 32 .u32 (List.replicate M 0) := Blk.made w 32 .u32 (List.replicate M 0) _ rfl
      have b0 : Below w.heap.size w (w.alloc (.cells (nums .u32 (List.replicate M 0)).toArray 32)) := (Below.refl _ _).alloc (Nat.le_refl _) _
      have HI := Lib.hid hI
      have HRL := Lib.hid hrl
      have HVR := Lib.hid hVr
      have HNR := Lib.hid hnr
      have HM := Lib.hid hM
      clear hown hlen hbig hrs hVr hnr hI hrl hM
      go_wp2_with fail
      clear hmk hMi
      go_loopw [25] (fun s25 wr => ∃ (k : Nat) (out : List Int), s25 = .int .i64 k ∧ k ≤ s'.size ∧ Blk wr w.heap.size 32 .u32 out ∧ Hid (out.length = M) ∧ Hid (ByteSt rs out k) ∧ Below w.heap.size w wr) (fun s25 _ => s'.size - (intOf s25).toNat)
      case atStart => exact ⟨0, _, rfl, by omega, k0, Lib.hid (by simp), HI, b0⟩
      case round =>
        clear k0 b0 HI
        obtain ⟨k, out, rfl, hk, hblk, hol, hst, hbel⟩ := hrel
        by_cases hkn : k < s'.size
        · have hq : k / 4 < out.length := by rw [hol.out, ← HM.out]; omega
          obtain ⟨v, hvv⟩ : ∃ v, v = out[k / 4]?.getD 0 + rs[k]?.getD 0 * 256 ^ (k % 4) := ⟨_, rfl⟩
          obtain ⟨st1, st2, st3⟩ := byte_step rs out k (by rw [HRL.out]; exact hkn) DR hq hst.out v hvv
          have hlow := hst.out.low
          have blo := hst.out.dig.get (by omega) (k / 4)
          obtain ⟨q4, hq4⟩ : ∃ q4, k / 4 = q4 := ⟨_, rfl⟩
          rw [hq4] at hvv st1 hlow blo hq
          have hcell := hblk.cell q4 hq
          have hfree := hblk.free q4
          have hbset := hblk.set q4 v
          have hqi : (k : Int) / 4 = (q4 : Int) := by omega
          have hqM : q4 < M := by rw [← hol.out]; exact hq
          have bx := DR.get (by omega) k
          have hgr := HGR.out k hkn
          obtain ⟨p, hp⟩ : ∃ p, s'.size - 1 - k = p := ⟨_, rfl⟩
          have hps : p < s'.size := by omega
          rw [hp, HG.out p hps] at hgr
          have hpi : (s'.size : Int) - 1 - (k : Int) = (p : Int) := by omega
          obtain ⟨c, hc⟩ : ∃ c, rs[k]?.getD 0 = c := ⟨_, rfl⟩
          obtain ⟨o, ho⟩ : ∃ o, out[q4]?.getD 0 = o := ⟨_, rfl⟩
          rw [hc] at hgr bx hvv
          rw [ho] at hcell hvv hlow blo
          have hx : (s'[p].toNat : Int) = c := hgr.symm
          have ST1 := Lib.hid st1
          have HVV := Lib.hid hvv
          have HQ4 := Lib.hid hq4
          clear hgr hc ho hp st1 hvv hq4 hq
          rcases (show k % 4 = 0 ∨ k % 4 = 1 ∨ k % 4 = 2 ∨ k % 4 = 3 by omega) with hr | hr | hr | hr
          · have hri : (k : Int) % 4 = 0 := by omega
            have ORF : bits .or .u32 o c = v := by
              rw [HVV.out, hr]
              rw [hr] at hlow
              have := or_byte 0 o c ⟨blo.1, by have h := hlow; simpa using h⟩ bx.1 (by simp; omega) blo.2
              simpa using this
            have HRR := Lib.hid hr
            clear hr hlow
            go_wp2_with fail
            go_region
            go_wp2_with fail
            go_roundw
            case rel => exact ⟨k + 1, _, by go_num, by omega, hbset.drew, Lib.hid (by rw [List.length_set]; exact hol.out), ST1, below_drew (below_set hbel _ _ _ (Nat.le_refl _))⟩
            case measure => simp [intOf]; omega
          · have hri : (k : Int) % 4 = 1 := by omega
            have ORF : bits .or .u32 o (c * 256) = v := by
              rw [HVV.out, hr]
              rw [hr] at hlow
              have := or_byte 8 o c ⟨blo.1, by have h := hlow; simpa using h⟩ bx.1 (by simp; omega) blo.2
              simpa using this
            have HRR := Lib.hid hr
            clear hr hlow
            go_wp2_with fail
            go_region
            go_wp2_with fail
            go_roundw
            case rel => exact ⟨k + 1, _, by go_num, by omega, hbset.drew, Lib.hid (by rw [List.length_set]; exact hol.out), ST1, below_drew (below_set hbel _ _ _ (Nat.le_refl _))⟩
            case measure => simp [intOf]; omega
          · have hri : (k : Int) % 4 = 2 := by omega
            have ORF : bits .or .u32 o (c * 65536) = v := by
              rw [HVV.out, hr]
              rw [hr] at hlow
              have := or_byte 16 o c ⟨blo.1, by have h := hlow; simpa using h⟩ bx.1 (by simp; omega) blo.2
              simpa using this
            have HRR := Lib.hid hr
            clear hr hlow
            go_wp2_with fail
            go_region
            go_wp2_with fail
            go_roundw
            case rel => exact ⟨k + 1, _, by go_num, by omega, hbset.drew, Lib.hid (by rw [List.length_set]; exact hol.out), ST1, below_drew (below_set hbel _ _ _ (Nat.le_refl _))⟩
            case measure => simp [intOf]; omega
          · have hri : (k : Int) % 4 = 3 := by omega
            have ORF : bits .or .u32 o (c * 16777216) = v := by
              rw [HVV.out, hr]
              rw [hr] at hlow
              have := or_byte 24 o c ⟨blo.1, by have h := hlow; simpa using h⟩ bx.1 (by simp; omega) blo.2
              simpa using this
            have HRR := Lib.hid hr
            clear hr hlow
            go_wp2_with fail
            go_region
            go_wp2_with fail
            go_roundw
            case rel => exact ⟨k + 1, _, by go_num, by omega, hbset.drew, Lib.hid (by rw [List.length_set]; exact hol.out), ST1, below_drew (below_set hbel _ _ _ (Nat.le_refl _))⟩
            case measure => simp [intOf]; omega
        · obtain rfl : k = s'.size := by omega
          have hE := byte_end rs out (by rw [hol.out, HRL.out, HM.out]) DR HNR.out (by rw [HRL.out]; exact hst.out)
          rw [HVR.out] at hE
          have hO := hblk.own (B := w.heap.size) (Nat.le_refl _) M (by rw [hol.out]; exact Nat.le_refl _) (by rw [hol.out, ← HM.out]; omega)
          rw [List.take_of_length_le (by rw [hol.out]; exact Nat.le_refl _), hE] at hO
          clear hE
          go_wp2_with fail
          go_ret2
          rw [hok.out, hzs.out]
          exact ⟨_, _, _, rfl, hO, hbel⟩
end Go.Proofs.YtgnophflogmmaaaDoor
