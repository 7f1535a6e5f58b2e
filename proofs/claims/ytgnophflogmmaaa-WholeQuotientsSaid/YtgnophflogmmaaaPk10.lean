/- Contracts of functions, and plain facts, part 10. -/
import Derived.Deep.LoopGhost
import Derived.Deep.DeepCutAuto
import Derived.Deep.CutBlock
import Derived.Test.YtgnophflogmmaaaPk2
import Derived.Test.YtgnophflogmmaaaPk3
import Derived.Test.YtgnophflogmmaaaPk4
import Derived.Test.YtgnophflogmmaaaPk5
import Derived.Test.YtgnophflogmmaaaPk7
import Derived.Test.YtgnophflogmmaaaPk8
import Derived.Test.YtgnophflogmmaaaPk9
set_option linter.unusedVariables false
set_option linter.unusedSimpArgs false
/- quot.Read: the number that a text in decimal tells. -/
namespace Go.Proofs.Ytgnophflogmmaaa
open Go.RowKit

theorem readOk_no {cs : List Int} (h : readOk cs = false) : dg 4294967296 (readNum cs) = [] := by
  unfold readNum
  rw [h]
  exact dg_zero _

theorem read_empty (s : ByteArray) (w : World) (h : s.size = 0) :
    Calls Try.prog 57 #[.string s] w (RetLB 78 .u32 [] false w) := by
  have he : s.toList.isEmpty = true := by rw [toList_nil, h]; rfl
  go_enter Try.func57, Try.ntmps57
  go_wp2_with fail
  go_ret2
  exact ⟨_, _, _, rfl, Own.nil _ _ _ _ _, Below.refl _ _⟩

theorem read_lead (s : ByteArray) (w : World) (hs : s.size ≤ 140737488351232) (h : 0 < s.size) (h0 : (bytesI s)[0]?.getD 0 = 48) (h1 : s.size ≠ 1) :
    Calls Try.prog 57 #[.string s] w (RetLB 78 .u32 [] false w) := by
  have he : s.toList.isEmpty = false := by rw [toList_nil]; exact decide_eq_false (by omega)
  have hq : (s.toList == [48]) = false := by
    rw [beq_eq_false_iff_ne]
    intro e
    have := (toList_eq_iff s [48]).1 e
    have h2 := bytesI_length s
    rw [this] at h2
    exact h1 (by simpa using h2.symm)
  have hx : (s[0].toNat : Int) = 48 := by rw [← bytesI_get s 0 h]; exact h0
  clear h0 h1
  go_enter Try.func57, Try.ntmps57
  go_wp2_with fail
  go_ret2
  exact ⟨_, _, _, rfl, Own.nil _ _ _ _ _, Below.refl _ _⟩

set_option maxHeartbeats 2000000 in
set_option maxRecDepth 20000 in
theorem read_main (s : ByteArray) (w : World) (hs : s.size ≤ 140737488351232) (hp : 0 < s.size) (h1 : (bytesI s)[0]?.getD 0 = 48 → s.size = 1) :
    Calls Try.prog 57 #[.string s] w (RetLB 78 .u32 (dg 4294967296 (readNum (bytesI s))) (readOk (bytesI s)) w) := by
  have he : s.toList.isEmpty = false := by rw [toList_nil]; exact decide_eq_false (by omega)
  have HG := Lib.hid (bytesI_get s)
  have HD := Lib.hid (bytesI_dig s)
  have HL := Lib.hid (bytesI_length s)
  have H1 := Lib.hid h1
  have hE := toList_eq_iff s [48]
  have HE := Lib.hid hE
  obtain ⟨zs, HZ⟩ : ∃ zs, Hid (zs = dg 4294967296 (readNum (bytesI s))) := ⟨_, rfl⟩
  obtain ⟨ok, HO⟩ : ∃ ok, Hid (ok = readOk (bytesI s)) := ⟨_, rfl⟩
  rw [← HZ.out, ← HO.out]
  clear h1 hE
  generalize bytesI s = cs at *
  have h00 := HG.out 0 hp
  have b00 := HD.out.get (by omega) 0
  have HNE : Hid (cs ≠ []) := Lib.hid (by
    intro e
    have := HL.out
    rw [e] at this
    simp at this
    omega)
  go_enter Try.func57, Try.ntmps57
  go_upto_region 1 with (fail)
  go_cut [21] (fun s21 wx => s21 = .bool false ∧ w = wx)
  case first =>
    by_cases hc : cs[0]?.getD 0 = 48
    · have hx : (s[0].toNat : Int) = 48 := by rw [← h00]; exact hc
      have hsz := H1.out hc
      have hq : (s.toList == [48]) = true := by
        rw [beq_iff_eq]
        refine HE.out.2 ?_
        have hl : cs.length = 1 := by rw [HL.out]; exact hsz
        obtain ⟨a, rfl⟩ := List.length_eq_one_iff.1 hl
        have : a = 48 := by simpa using hc
        rw [this]
        rfl
      clear hc h00 hsz
      go_wp2_with fail
      go_meet
      case rel => exact ⟨rfl, rfl⟩
    · obtain ⟨c, hcc⟩ : ∃ c, cs[0]?.getD 0 = c := ⟨_, rfl⟩
      rw [hcc] at h00 hc b00
      have hx : (s[0].toNat : Int) = c := h00.symm
      have hc2 : (c == 48) = false := by simpa using hc
      clear hcc h00 hc
      go_wp2_with fail
      go_meet
      case rel => exact ⟨rfl, rfl⟩
  case rest =>
    obtain ⟨rfl, rfl⟩ := hcut
    clear h00 b00
    go_wp2_with fail
    go_loop [24] (fun s24 => ∃ k : Nat, k ≤ s.size ∧ s24 = .int .i64 k ∧ Hid (∀ j, j < k → 48 ≤ cs[j]?.getD 0 ∧ cs[j]?.getD 0 ≤ 57)) (fun s24 => s.size - (intOf s24).toNat)
    case atStart => exact ⟨0, by omega, rfl, Lib.hid fun j hj => by omega⟩
    case round =>
      obtain ⟨k, hk, rfl, hd⟩ := hrel
      by_cases hlt : k < s.size
      · have hx := HG.out k hlt
        have bx := HD.out.get (by omega) k
        obtain ⟨c, hcc⟩ : ∃ c, cs[k]?.getD 0 = c := ⟨_, rfl⟩
        rw [hcc] at hx bx
        have hx2 : (s[k].toNat : Int) = c := hx.symm
        have HC := Lib.hid hcc
        clear hx hcc
        by_cases hbad : 48 ≤ c ∧ c ≤ 57
        · go_wp2_with fail
          go_round
          case rel => exact ⟨k + 1, by omega, by go_num, Lib.hid fun j hj => by
            rcases Nat.lt_or_ge j k with h2 | h2
            · exact hd.out j h2
            · obtain rfl : j = k := by omega
              rw [HC.out]; exact hbad⟩
          case measure => simp [intOf]; omega
        · have hno : Hid (ok = false) := Lib.hid (by
            rw [HO.out]
            unfold readOk
            refine decide_eq_false fun hh => hbad ?_
            have hk2 : k < cs.length := by rw [HL.out]; exact hlt
            have := (show Decs cs from hh.2.2.1).get hk2
            rw [HC.out] at this
            exact this)
          have hz0 : Hid (zs = []) := Lib.hid (by
            rw [HZ.out]; exact readOk_no (by rw [← HO.out]; exact hno.out))
          by_cases hlo : c < 48
          · go_wp2_with fail
            go_ret2
            rw [hno.out, hz0.out]
            exact ⟨_, _, _, rfl, Own.nil _ _ _ _ _, Below.refl _ _⟩
          · have hhi : 57 < c := by omega
            go_wp2_with fail
            go_ret2
            rw [hno.out, hz0.out]
            exact ⟨_, _, _, rfl, Own.nil _ _ _ _ _, Below.refl _ _⟩
      · have hdecs : Hid (Decs cs) := Lib.hid (by
          intro c hc
          obtain ⟨j, hj, e⟩ := List.getElem_of_mem hc
          have := hd.out j (by rw [HL.out] at hj; omega)
          rw [List.getElem?_eq_getElem hj, Option.getD_some, e] at this
          exact this)
        have hV0 : Hid (∀ i, 0 ≤ readV (cs.take i)) := Lib.hid fun i => readV_nonneg cs hdecs.out i
        clear hd
        go_wp2_with fail
        clear hlt hk
        go_loopg
 [5, 6] s.size (fun g s5 s6 wr => ∃ (ad : Option Addr) (an ac i : Nat), s5 = .slice ad an ac ∧ s6 = .int .i64 i ∧ i ≤ s.size ∧ an ≤ 262144 ∧ App w.heap.size wr 78 .u32 ad an ac (dg 4294967296 (readV (cs.take i))) ∧
          Below w.heap.size w wr ∧ w.heap.size ≤ wr.heap.size ∧ Hid (g = s.size - i))
        case atStart => exact ⟨_, _, _, 0, rfl, rfl, by omega, by omega, by rw [List.take_zero, show readV [] = 0 from rfl, dg_zero]; exact App.nil _ _ _ _, Below.refl _ _, Nat.le_refl _, Lib.hid rfl⟩
        case round =>
          obtain ⟨ad, an, ac, i, rfl, rfl, hi, han, happ, hbel, hsz, hme⟩ := hrel
          by_cases hin : i < s.size
          · obtain ⟨P, hP⟩ : ∃ P, readV (cs.take i) = P := ⟨_, rfl⟩
            have hP0 : 0 ≤ P := by rw [← hP]; exact hV0.out i
            rw [hP] at happ
            have HPE := Lib.hid hP
            clear hP
            go_upto_block 4 with fail
            go_cut [6, 7, 8] (fun s6 s7 s8 wx => ∃ (j : Nat) (n t : Int), s6 = .int .i64 j ∧ s7 = .int .u32 n ∧ s8 = .int .u32 t ∧ i < j ∧ j ≤ s.size ∧ 1 ≤ t ∧ t ≤ 1000000000 ∧ 0 ≤ n ∧ n < t ∧ Hid (readV (cs.take j) = P * t + n) ∧ wr = wx)
            case first =>
              go_wp2_with fail
              go_loop [6, 7, 8] (fun s6 s7 s8 => ∃ (j q : Nat) (n t : Int), s6 = .int .i64 j ∧ s7 = .int .u32 n ∧ s8 = .int .u32 t ∧ i ≤ j ∧ j ≤ s.size ∧ 1 ≤ t ∧ t ≤ 1000000000 ∧ 0 ≤ n ∧ n < t ∧ Hid (t = 10 ^ q) ∧ q ≤ 9 ∧ (q = 0 ∨ i < j) ∧ Hid (readV (cs.take j) = P * t + n)) (fun s6 _ _ => s.size - (intOf s6).toNat)
              case atStart => exact ⟨i, 0, 0, 1, rfl, rfl, rfl, Nat.le_refl _, hi, by omega, by omega, by omega, by omega, Lib.hid (by simp), by omega, .inl rfl, Lib.hid (by rw [HPE.out]; simp)⟩
              case round =>
                obtain ⟨j, q, n, t, rfl, rfl, rfl, hij, hj, ht1, ht2, hn0, hn1, htq, hq, hor, hval⟩ := hrel
                by_cases hgo : j < s.size ∧ q < 9
                · have hjs : j < s.size := hgo.1
                  have ht3 : t ≤ 100000000 := by
                    rw [htq.out]
                    have := pow_le (b := 10) (by omega) (show q ≤ 8 by omega)
                    rw [show (10 : Int) ^ 8 = 100000000 from by decide] at this
                    exact this
                  have hx := HG.out j hjs
                  have hcl : j < cs.length := by rw [HL.out]; exact hjs
                  have bx := hdecs.out.get hcl
                  have hst := readV_take cs j hcl
                  rw [hval.out] at hst
                  obtain ⟨c, hcc⟩ : ∃ c, cs[j]?.getD 0 = c := ⟨_, rfl⟩
                  rw [hcc] at hx bx hst
                  rw [chunk_step] at hst
                  have hx2 : (s[j].toNat : Int) = c := hx.symm
                  have HST := Lib.hid hst
                  have htq2 : Hid (t * 10 = 10 ^ (q + 1)) := Lib.hid (by rw [Int.pow_succ, htq.out])
                  have hq9 : q < 9 := hgo.2
                  clear hx hcc hst hgo hcl htq hor hval
                  go_wp2_with fail
                  go_round
                  case rel => exact ⟨j + 1, q + 1, _, t * 10, by go_num, rfl, rfl, by omega, by omega, by omega, by omega, by omega, by omega, htq2, by omega, .inr (by omega), HST⟩
                  case measure => simp [intOf]; omega
                · have hij2 : i < j := by
                    rcases hor with h2 | h2
                    · rcases Nat.lt_or_ge j s.size with h3 | h3
                      · exact absurd ⟨h3, by omega⟩ hgo
                      · omega
                    · exact h2
                  by_cases hjs : j < s.size
                  · have hq9 : q = 9 := by
                      rcases Nat.lt_or_ge q 9 with h3 | h3
                      · exact absurd ⟨hjs, h3⟩ hgo
                      · omega
                    have ht9 : ¬ t < 1000000000 := by rw [htq.out, hq9]; decide
                    clear hgo hor hq9 htq
                    go_wp2_with fail
                    go_meet
                    case rel => exact ⟨j, n, t, rfl, rfl, rfl, hij2, hj, ht1, ht2, hn0, hn1, hval, rfl⟩
                  · clear hgo hor htq
                    go_wp2_with fail
                    go_meet
                    case rel => exact ⟨j, n, t, rfl, rfl, rfl, hij2, hj, ht1, ht2, hn0, hn1, hval, rfl⟩
            case rest =>
              obtain ⟨j, n, t, rfl, rfl, rfl, hij, hj, ht1, ht2, hn0, hn1, hval, rfl⟩ := hcut
              clear hin hi
              have hlP := Lib.hid happ.len
              have hI : Hid (App w.heap.size wr 78 .u32 ad an ac (dg 4294967296 P) ∧ Dig 4294967296 (dg 4294967296 P) ∧ Below w.heap.size w wr ∧ w.heap.size ≤ wr.heap.size) := Lib.hid ⟨happ, dg_dig 4294967296 (by omega) _, hbel, hsz⟩
              clear happ hbel hsz
              go_wp2_with fail
              go_loopw [9, 66] (fun s9 s66 wz => ∃ (k : Nat) (c : Int) (ys : List Int), s9 = .int .u64 c ∧ s66 = .int .i64 k ∧ k ≤ an ∧ 0 ≤ c ∧ c ≤ 999999999 ∧ App w.heap.size wz 78 .u32 ad an ac ys ∧ Dig 4294967296 ys ∧ Below w.heap.size w wz ∧ w.heap.size ≤ wz.heap.size ∧ Hid (∀ q, k ≤ q → ys[q]?.getD 0 = (dg 4294967296 P)[q]?.getD 0) ∧
                Hid (val 4294967296 (ys.take k) + 4294967296 ^ k * c = val 4294967296 ((dg 4294967296 P).take k) * t + n)) (fun _ s66 _ => an - (intOf s66).toNat)
              case atStart => exact ⟨0, n, _, rfl, rfl, Nat.zero_le _, by omega, by omega, hI.out.1, hI.out.2.1, hI.out.2.2.1, hI.out.2.2.2, Lib.hid fun _ _ => rfl, Lib.hid (by simp [val])⟩
              case round =>
                clear hI
                obtain ⟨k, c, ys, rfl, rfl, hk, hc0, hc1, happ, dys, hbel, hsz, hsame, hsum⟩ := hrel
                by_cases hkn : k < an
                · obtain ⟨g, rfl, hg, hcell, hfree, hset, honly⟩ := happ.opened (by omega)
                  have ck := hcell k hkn
                  have fk := hfree k
                  have bx := dys.get (by omega) k
                  have hyl := happ.len
                  have hsm := hsame.out k (Nat.le_refl _)
                  obtain ⟨x, hx⟩ : ∃ x, ys[k]?.getD 0 = x := ⟨_, rfl⟩
                  rw [hx] at ck bx
                  have hm0 : 0 ≤ x * t := Int.mul_nonneg bx.1 (by omega)
                  have hm1 : x * t ≤ 4294967295 * 1000000000 := Int.mul_le_mul (by omega) ht2 (by omega) (by omega)
                  obtain ⟨m, hm⟩ : ∃ m, x * t = m := ⟨_, rfl⟩
                  rw [hm] at hm0 hm1
                  have W1 : IntKind.u64.wrap (x * t) = m := by rw [hm]; exact IntWalk.u64_in _ (by omega)
                  have hcar : (c + m) / 4294967296 ≤ 999999999 := by
                    have hxt : x * t + t ≤ 4294967296 * t := by
                      have := Int.mul_le_mul_of_nonneg_right (show x + 1 ≤ 4294967296 by omega) (show 0 ≤ t by omega)
                      rw [Int.add_mul, Int.one_mul] at this
                      exact this
                    omega
                  have ST := Lib.hid (times_step (dg 4294967296 P) ys k c t (c + m) n (by omega) hsm (by rw [← hsm, hx, hm]; omega) hsum.out)
                  have SM : Hid (∀ q, k + 1 ≤ q → (ys.set k ((c + m) % 4294967296))[q]?.getD 0 = (dg 4294967296 P)[q]?.getD 0) := Lib.hid fun q hq => by
                    rw [List.getElem?_set_ne (by omega)]; exact hsame.out q (by omega)
                  have A2 := Lib.hid (hset k ((c + m) % 4294967296) hkn)
                  have B2 := Lib.hid (Only.below hbel hg (honly k (.int .u32 ((c + m) % 4294967296))))
                  have S2 := Lib.hid (show w.heap.size ≤ (wr.setCell ⟨g, k, none⟩ (.int .u32 ((c + m) % 4294967296))).heap.size by rw [(honly k _).size]; exact hsz)
                  have D2 := Lib.hid (dys.set (show 0 ≤ (c + m) % 4294967296 by omega) (show (c + m) % 4294967296 < 4294967296 by omega) k)
                  clear hcell hfree hset honly hsm hx hm hyl happ hsame hsum hbel hsz
                  go_wp2_with fail
                  go_roundw
                  case rel => exact ⟨k + 1, _, _, rfl, by go_num, by omega, by omega, hcar, A2.out, D2.out, B2.out, S2.out, SM, ST⟩
                  case measure => simp [intOf]; omega
                · obtain rfl : k = an := by omega
                  have hyl := happ.len
                  have hS2 := hsum.out
                  rw [← hyl] at hS2
                  by_cases hcz : c = 0
                  · subst hcz
                    have hE := times_end0 P t n ys hP0 ht1 hn0 dys (by rw [hyl]; exact hlP.out.symm) hS2
                    rw [← hval.out] at hE
                    have HA : Hid (App w.heap.size wr 78 .u32 ad k ac (dg 4294967296 (readV (cs.take j)))) := Lib.hid (by rw [← hE]; exact happ)
                    clear hE happ dys hsame hsum hS2 hkn hyl
                    go_wp2_with fail
                    go_roundg (s.size - j)
                    case measure => have := hme.out; omega
                    case rel => exact ⟨_, _, _, j, rfl, rfl, hj, han, HA.out, hbel, hsz, Lib.hid rfl⟩
                  · have hcp : 0 < c := by omega
                    have hE := times_end1 P t n c ys hP0 ht1 hn0 dys (by rw [hyl]; exact hlP.out.symm) ⟨hcp, by omega⟩ hS2
                    rw [← hval.out] at hE
                    have HEE := Lib.hid hE
                    clear hE dys hsame hsum hS2 hkn hyl hcz
                    by_cases hbig : k + 1 ≤ 262144
                    · have hnb : ¬ (262144 : Int) < (k : Int) + 1 := by omega
                      go_wp2_with (at_builtin; refine app_one w.heap.size rfl (.tmp 89) (.tmp 92) 23 78 .u32 4 rfl Try.underlying23 info_limb (by omega) ad k ac ys c rfl rfl happ hbel hsz (by omega) ?_; intro ad3 c3 w5 k1 k2 k3)
                      go_roundg (s.size - j)
                      case measure => have := hme.out; omega
                      case rel => exact ⟨_, _, _, j, rfl, rfl, hj, hbig, by rw [← HEE.out]; exact k1, k2, k3, Lib.hid rfl⟩
                    · have hnb : (262144 : Int) < (k : Int) + 1 := by omega
                      have hno : Hid (ok = false) := Lib.hid (by
                        rw [HO.out]
                        unfold readOk
                        refine decide_eq_false fun hh => ?_
                        have h3 := hh.2.2.2
                        have h4 := dg_mono _ _ (hV0.out j) (readV_mono cs hdecs.out j s.size hj)
                        rw [← HEE.out, List.length_append, List.length_singleton, happ.len, ← HL.out, readV_full] at h4
                        omega)
                      have hz0 : Hid (zs = []) := Lib.hid (by
                        rw [HZ.out]; exact readOk_no (by rw [← HO.out]; exact hno.out))
                      go_wp2_with (at_builtin; refine app_one w.heap.size rfl (.tmp 89) (.tmp 92) 23 78 .u32 4 rfl Try.underlying23 info_limb (by omega) ad k ac ys c rfl rfl happ hbel hsz (by omega) ?_; intro ad3 c3 w5 k1 k2 k3)
                      go_ret2
                      rw [hno.out, hz0.out]
                      exact ⟨_, _, _, rfl, Own.nil _ _ _ _ _, k2⟩
          · obtain rfl : i = s.size := by omega
            have hfull : readV (cs.take s.size) = readV cs := by rw [← HL.out]; exact readV_full cs
            have hlen := happ.len
            rw [hfull] at happ hlen
            have hok : Hid (ok = true) := Lib.hid (by
              rw [HO.out]
              unfold readOk
              exact decide_eq_true ⟨HNE.out, fun h => by rw [HL.out]; exact H1.out h, hdecs.out, by omega⟩)
            have hzs : Hid (zs = dg 4294967296 (readV cs)) := Lib.hid (by
              rw [HZ.out]
              unfold readNum
              rw [if_pos (by rw [← HO.out]; exact hok.out)])
            have hn := norm_calls ad an ac (dg 4294967296 (readV cs)) wr (by omega) happ.own.le happ.rds (dg_dig 4294967296 (by omega) _)
            have eV := val_dg 4294967296 (by omega) (readV cs) (by rw [← hfull]; exact hV0.out _)
            rw [show ((4294967296 : Nat) : Int) = 4294967296 from rfl] at eV
            rw [eV] at hn
            have HN := Lib.hid hn
            clear hn eV hlen hfull happ hi hin
            go_wp2_with fail
            with_reducible refine (HN.out).mono ?_
            rintro e w5 ⟨rd, rn, rc, rfl, or, b5⟩
            go_wp2_with fail
            go_ret2
            rw [hok.out, hzs.out]
            exact ⟨_, _, _, rfl, or.mono hsz, below_then hbel hsz b5⟩

theorem read_calls (s : ByteArray) (w : World) (hs : s.size ≤ 140737488351232) :
    Calls Try.prog 57 #[.string s] w (RetLB 78 .u32 (dg 4294967296 (readNum (bytesI s))) (readOk (bytesI s)) w) := by
  by_cases h0 : s.size = 0
  · have e : bytesI s = [] := List.length_eq_zero_iff.1 (by rw [bytesI_length]; exact h0)
    have hok : readOk (bytesI s) = false := by rw [e]; rfl
    rw [hok, readOk_no hok]
    exact read_empty s w h0
  · by_cases h1 : (bytesI s)[0]?.getD 0 = 48 → s.size = 1
    · exact read_main s w hs (by omega) h1
    · have h2 : (bytesI s)[0]?.getD 0 = 48 ∧ s.size ≠ 1 := by
        rcases Classical.em ((bytesI s)[0]?.getD 0 = 48) with h2 | h2
        · exact ⟨h2, fun e => h1 fun _ => e⟩
        · exact absurd (fun h3 => absurd h3 h2) h1
      have hok : readOk (bytesI s) = false := by
        unfold readOk
        refine decide_eq_false fun hh => h2.2 ?_
        have := hh.2.1 h2.1
        rwa [bytesI_length] at this
      rw [hok, readOk_no hok]
      exact read_lead s w hs (by omega) h2.1 h2.2
end Go.Proofs.Ytgnophflogmmaaa

/- Numbers as so many bytes in two's complement: plain. -/
namespace Go.Proofs.Ytgnophflogmmaaa

/-- So many bytes, the lowest first. -/
def leL : Nat → Int → List Int
  | 0, _ => []
  | n + 1, U => U % 256 :: leL n (U / 256)
theorem leL_length (n : Nat) (U : Int) : (leL n U).length = n := by
  induction n generalizing U with
  | zero => rfl
  | succ n ih => simp [leL, ih]
theorem leL_dig (n : Nat) (U : Int) : Dig 256 (leL n U) := by
  induction n generalizing U with
  | zero => exact Dig.nil _
  | succ n ih => exact Dig.cons (by omega) (by omega) (ih _)
theorem val_leL (n : Nat) (U : Int) : val 256 (leL n U) = U % 256 ^ n := by
  induction n generalizing U with
  | zero => simp [leL, val, Int.emod_one]
  | succ n ih =>
    show U % 256 + 256 * val 256 (leL n (U / 256)) = _
    rw [ih, Int.pow_succ, Int.mul_comm (256 ^ n) 256]
    have hp : (0 : Int) < 256 ^ n := Int.pow_pos (by omega)
    generalize (256 : Int) ^ n = P at *
    have e1 : U = 256 * (U / 256) + U % 256 := by omega
    have e2 := Int.emod_add_mul_ediv (U / 256) P
    have h1 := Int.emod_nonneg (U / 256) (show P ≠ 0 by omega)
    have h2 := Int.emod_lt_of_pos (U / 256) hp
    have h3 : 0 ≤ U % 256 ∧ U % 256 < 256 := by omega
    generalize U / 256 = Q at *
    generalize U % 256 = r at *
    generalize hm : Q % P = m at *
    generalize Q / P = q at *
    have e3 : U = (r + 256 * m) + 256 * P * q := by rw [e1, ← e2]; grind
    rw [e3, Int.add_mul_emod_self_left, Int.emod_eq_of_lt (by omega) (by omega)]
theorem leL_uniq (xs : List Int) (d : Dig 256 xs) : xs = leL xs.length (val 256 xs) := by
  induction xs with
  | nil => rfl
  | cons x l ih =>
    have hx := d.head
    show _ = (x + 256 * val 256 l) % 256 :: leL l.length ((x + 256 * val 256 l) / 256)
    rw [show (x + 256 * val 256 l) % 256 = x by omega, show (x + 256 * val 256 l) / 256 = val 256 l by omega, ← ih d.tail]
theorem leL_mod (n : Nat) (U : Int) : leL n (U % 256 ^ n) = leL n U := by
  have := leL_uniq _ (leL_dig n U)
  rw [leL_length, val_leL] at this
  exact this.symm
/-- A number as n bytes, the highest first. -/
def beB (n : Nat) (U : Int) : List Int := (leL n U).reverse
theorem beB_length (n : Nat) (U : Int) : (beB n U).length = n := by simp [beB, leL_length]
theorem beB_dig (n : Nat) (U : Int) : Dig 256 (beB n U) := fun x hx => leL_dig n U x (List.mem_reverse.1 hx)
theorem beB_pad (q : Nat) (V : Int) (hV : 0 ≤ V) : List.replicate q 0 ++ (dg 256 V).reverse = beB (q + (dg 256 V).length) V := by
  have h : dg 256 V ++ List.replicate q 0 = leL ((dg 256 V).length + q) V := by
    have hd : Dig 256 (dg 256 V ++ List.replicate q 0) := (dg_dig 256 (by omega) _).append (Dig.replicate _ (by omega) _)
    have := leL_uniq _ hd
    have e := val_dg 256 (by omega) V hV
    rw [val_append, val_replicate] at this
    rw [show ((256 : Nat) : Int) = 256 from rfl] at e
    rw [e] at this
    simpa using this
  unfold beB
  rw [Nat.add_comm, ← h, List.reverse_append, List.reverse_replicate]
theorem flip_beB (n : Nat) (V : Int) (hV : 0 < V) (hl : V < 256 ^ n) : flipB (beB n V) = beB n (-V) := by
  unfold flipB beB
  rw [List.reverse_reverse]
  congr 1
  have hd := leL_dig n V
  have h1 := leL_uniq _ (flipL_dig (leL n V) 1)
  rw [flipL_length, leL_length, flip_val1 _ hd, val_leL, Int.emod_eq_of_lt (by omega) hl, if_neg (by omega), leL_length] at h1
  rw [h1, ← leL_mod n (-V)]
  congr 1
  have e : -V = (256 ^ n - V) + 256 ^ n * (-1) := by omega
  rw [e, Int.add_mul_emod_self_left, Int.emod_eq_of_lt (by omega) (by omega)]
theorem leL_top (k : Nat) (U : Int) : (leL (k + 1) U)[k]?.getD 0 = U / 256 ^ k % 256 := by
  induction k generalizing U with
  | zero => simp [leL]
  | succ k ih =>
    show (leL (k + 1) (U / 256))[k]?.getD 0 = _
    rw [ih, Int.ediv_ediv_of_nonneg (by omega), Int.pow_succ, Int.mul_comm 256]
theorem beB_top (k : Nat) (U : Int) : (beB (k + 1) U)[0]?.getD 0 = U / 256 ^ k % 256 := by
  unfold beB
  rw [List.getElem?_reverse (by rw [leL_length]; omega), leL_length, Nat.add_sub_cancel, Nat.sub_zero]
  exact leL_top k U
/-- Is it one of n bytes? -/
def twosOk (N n : Int) : Bool := decide (1 ≤ n ∧ n ≤ 1048576 ∧ -(128 * 256 ^ (n.toNat - 1)) ≤ N ∧ N < 128 * 256 ^ (n.toNat - 1))
def twosL (N n : Int) : List Int := if twosOk N n then beB n.toNat N else []
theorem top_pos (k : Nat) (N : Int) (h0 : 0 ≤ N) (h1 : N < 256 ^ (k + 1)) : (N / 256 ^ k % 256) / 128 = 1 ↔ ¬ N < 128 * 256 ^ k := by
  rw [Int.pow_succ] at h1
  have hp : (0 : Int) < 256 ^ k := Int.pow_pos (by omega)
  generalize (256 : Int) ^ k = P at *
  have e := Int.emod_add_mul_ediv N P
  have a1 := Int.emod_nonneg N (show P ≠ 0 by omega)
  have a2 := Int.emod_lt_of_pos N hp
  have q0 : 0 ≤ N / P := Int.ediv_nonneg h0 (by omega)
  have q1 : N / P < 256 := Int.ediv_lt_of_lt_mul hp (by omega)
  have key : 128 ≤ N / P ↔ 128 * P ≤ N := Int.le_ediv_iff_mul_le hp
  omega
theorem top_neg (k : Nat) (N : Int) (h0 : N < 0) (h1 : -N < 256 ^ (k + 1)) : (N / 256 ^ k % 256) / 128 = 1 ↔ -(128 * 256 ^ k) ≤ N := by
  rw [Int.pow_succ] at h1
  have hp : (0 : Int) < 256 ^ k := Int.pow_pos (by omega)
  generalize (256 : Int) ^ k = P at *
  have q0 : N / P < 0 := Int.ediv_neg_of_neg_of_pos h0 hp
  have q1 : -256 ≤ N / P := (Int.le_ediv_iff_mul_le hp).2 (by omega)
  have key : -128 ≤ N / P ↔ -128 * P ≤ N := Int.le_ediv_iff_mul_le hp
  omega
theorem bits_fit (V : Int) (hV : 0 ≤ V) (k : Nat) : bitsOf V ≤ 8 * (k : Int) ↔ V < 256 ^ k := by
  have e : (256 : Int) ^ k = ((2 ^ (8 * k) : Nat) : Int) := by
    rw [show (256 : Int) = 2 ^ 8 from rfl, ← Int.pow_mul]
    simp
  rw [e]
  unfold bitsOf
  constructor
  · intro h
    have h1 := blen_lt V.toNat
    have h2 : 2 ^ blen V.toNat ≤ 2 ^ (8 * k) := Nat.pow_le_pow_right (by omega) (by omega)
    omega
  · intro h
    by_cases hz : V.toNat = 0
    · rw [hz, show blen 0 = 0 from rfl]; omega
    · have h1 := blen_ge V.toNat hz
      have h2 : V.toNat < 2 ^ (8 * k) := by omega
      have h3 := (Nat.pow_lt_pow_iff_right (show 1 < 2 by omega)).1 (Nat.lt_of_le_of_lt h1 h2)
      omega
theorem dg256_len (V : Int) (k : Nat) (h : V < 256 ^ k) : (dg 256 V).length ≤ k := dg_length_le 256 (by omega) k V h
end Go.Proofs.Ytgnophflogmmaaa

/- cruciblelaw03: beyond, normal. -/
namespace Go.Proofs.Ytgnophflogmmaaa
open Go.RowKit

/-- More limbs than are claimed of, or each number has few. -/
def BeyondI (l : List Nat) (w : World) (e : Ending) (w' : World) : Prop := ∃ r, e = .returned (.bool r) ∧ Below w.heap.size w w' ∧ (r = false → ∀ j : Nat, l[j]?.getD 0 ≤ 1048576)

set_option maxHeartbeats 1000000 in
theorem beyondI_calls (b n c : Nat) (l : List Nat) (f : Nat → Option Addr × Nat) (w : World) (hn : l.length = n) (hs : n ≤ 1000) (hb : ∀ j : Nat, l[j]?.getD 0 ≤ 140737488355328)
    (hc : ∀ j, j < n → w.cell? ⟨b, j * 2 + 1, none⟩ = some (.slice (f j).1 (l[j]?.getD 0) (f j).2)) :
    Calls Try.prog 14 #[.slice (some ⟨b, 0, none⟩) n c] w (BeyondI l w) := by
  have HN := Lib.hid hn
  have HB := Lib.hid hb
  have HC := Lib.hid hc
  clear hn hb hc
  go_enter Try.func14, Try.ntmps14
  go_wp2
  go_loopw [3] (fun i wr => ∃ k : Nat, k ≤ n ∧ i = .int .i64 k ∧ Below w.heap.size w wr ∧ Hid (∀ j, j < k → l[j]?.getD 0 ≤ 1048576)) (fun i _ => n - (intOf i).toNat)
  case atStart => exact ⟨0, Nat.zero_le _, rfl, Below.refl _ _, Lib.hid fun j hj => by omega⟩
  case round =>
    obtain ⟨k, hk, rfl, hbel, hl⟩ := hrel
    by_cases hkn : k < n
    · have hcell := below_cell hbel (Nat.le_refl _) (HC.out k hkn)
      have hbk := HB.out k
      obtain ⟨x, hx⟩ : ∃ x, l[k]?.getD 0 = x := ⟨_, rfl⟩
      rw [hx] at hcell hbk
      have HX := Lib.hid hx
      generalize (f k).1 = ad at *
      generalize (f k).2 = cc at *
      clear hx
      have b1 : Below w.heap.size w (wr.alloc (.cells #[.slice ad x cc] 23)) := below_alloc hbel _
      have hB := beyond_calls wr.heap.size 1 1 [x] (fun _ => (ad, cc)) (wr.alloc (.cells #[.slice ad x cc] 23)) rfl (by omega) (fun j => by cases j <;> simp <;> omega) (fun j hj => by
        obtain rfl : j = 0 := by omega
        exact World.cell?_alloc_at _ _ _ _ rfl)
      have h := Lib.hid hB
      clear hB
      go_wp2_with fail
      refine (h.out).mono ?_
      rintro e w' ⟨r, rfl, rfl, hr⟩
      cases r
      · have hx2 : Hid (x ≤ 1048576) := Lib.hid (by have := hr rfl; simp [parts] at this; omega)
        clear hr h
        go_wp2_with fail
        go_roundw
        case rel => exact ⟨k + 1, by omega, by go_num, b1, Lib.hid fun j hj => by
          rcases Nat.lt_or_ge j k with h1 | h1
          · exact hl.out j h1
          · obtain rfl : j = k := by omega
            rw [HX.out]
            exact hx2.out⟩
        case measure => simp [intOf]; omega
      · clear hr h
        go_wp2_with fail
        go_ret
        exact ⟨true, rfl, b1, fun h => by cases h⟩
    · obtain rfl : k = n := by omega
      have HE : Hid (∀ j : Nat, l[j]?.getD 0 ≤ 1048576) := Lib.hid fun j => by
        rcases Nat.lt_or_ge j l.length with h1 | h1
        · exact hl.out j (by have := HN.out; omega)
        · rw [List.getElem?_eq_none h1]; simp
      go_wp2
      go_ret
      exact ⟨false, rfl, hbel, fun _ => HE.out⟩

theorem normal_calls (r : Bool) (ad : Option Addr) (n c : Nat) (V : Int) (w : World) (h : Can w ad n c V) (hV : 0 ≤ V) (hr : r = true → 0 < V) (hn : n ≤ 9223372036854775807) :
    Calls Try.prog 38 #[.agg #[.bool r, .slice ad n c]] w (fun e w' => e = .returned (.bool true) ∧ Below w.heap.size w w') := by
  have hl := h.rds.len
  have b1 : Below w.heap.size w (w.alloc (.cells #[.bool r, .slice ad n c] 25)) := (Below.refl _ _).alloc (Nat.le_refl _) _
  have c0 : (w.alloc (.cells #[.bool r, .slice ad n c] 25)).cell? ⟨w.heap.size, 0, none⟩ = some (.bool r) := World.cell?_alloc_at _ _ _ _ rfl
  have c1 : (w.alloc (.cells #[.bool r, .slice ad n c] 25)).cell? ⟨w.heap.size, 1, none⟩ = some (.slice ad n c) := World.cell?_alloc_at _ _ _ _ rfl
  have h2 := h.below b1 (Nat.le_refl _)
  by_cases h0 : n = 0
  · have hV0 := (h.zero_iff hV).1 h0
    obtain rfl : r = false := by cases r; rfl; have := hr rfl; omega
    subst h0
    clear h2 hl h hr hV hV0
    go_enter Try.func38, Try.ntmps38
    go_wp2
    go_ret
    exact ⟨rfl, b1⟩
  · obtain ⟨k, rfl⟩ : ∃ k, n = k + 1 := ⟨n - 1, by omega⟩
    have hx := norm_last (b := 4294967296) (norm_dg 4294967296 (by omega) V) k hl
    obtain ⟨a, rfl, hc⟩ := h2.rds.cell k (by omega)
    obtain ⟨x, hxx⟩ : ∃ x, (dg 4294967296 V)[k]?.getD 0 = x := ⟨_, rfl⟩
    rw [hxx] at hx hc
    have hx1 : (x != 0) = true := by simpa using hx
    have hk1 : ((k : Int) + 1 == 0) = false := by simp; omega
    have hk2 : ((k : Int) + 1 - 1) = (k : Int) := by omega
    clear hxx hx hl h0 h h2 hr
    go_enter Try.func38, Try.ntmps38
    go_wp2
    go_ret
    exact ⟨rfl, b1⟩
end Go.Proofs.Ytgnophflogmmaaa

/- whole: Neg. (Printed by whole.py.) -/
namespace Go.Proofs.Ytgnophflogmmaaa
open Go.RowKit

theorem sg_neg (N : Int) : IntKind.i8.wrap (-sgI N) = sgI (-N) ∧ -sgI N = sgI (-N) := by
  have e : -sgI N = sgI (-N) := by unfold sgI; split <;> (try split) <;> (try split) <;> (try split) <;> omega
  refine ⟨?_, e⟩
  rw [e]
  unfold sgI
  split
  · decide
  · split <;> decide

set_option maxHeartbeats 1000000 in
theorem wneg_calls (ng1 : Bool) (ad1 : Option Addr) (n1 c1 : Nat) (V1 : Int) (w : World) (h1 : Num w ad1 n1 c1 V1) (hn1 : n1 ≤ 70368744177663) : Calls Try.prog 41 #[.agg #[.bool ng1, .slice ad1 n1 c1]] w (RetInt (-sI ng1 V1) w) := by
  have hV0 := h1.nonneg
  have b0 := Below.refl w.heap.size w
  have l0 : Below w.heap.size w (w.alloc (.cells #[.bool ng1, .slice ad1 n1 c1] 25)) := (Below.refl _ _).alloc (Nat.le_refl _) _
  have b1 : Below w.heap.size w (w.alloc (.cells #[.bool ng1, .slice ad1 n1 c1] 25)) := below_trans b0 l0
  have k0 : Cel (w.alloc (.cells #[.bool ng1, .slice ad1 n1 c1] 25)) w.heap.size 25 [.bool ng1, .slice ad1 n1 c1] := Cel.made _ _ _ _ (by simp)
  have l1 : Below (w.alloc (.cells #[.bool ng1, .slice ad1 n1 c1] 25)).heap.size (w.alloc (.cells #[.bool ng1, .slice ad1 n1 c1] 25)) ((w.alloc (.cells #[.bool ng1, .slice ad1 n1 c1] 25)).alloc (.cells #[.bool false, .slice none 0 0] 25)) := (Below.refl _ _).alloc (Nat.le_refl _) _
  have b2 : Below w.heap.size w ((w.alloc (.cells #[.bool ng1, .slice ad1 n1 c1] 25)).alloc (.cells #[.bool false, .slice none 0 0] 25)) := below_trans b1 l1
  have k1 : Cel ((w.alloc (.cells #[.bool ng1, .slice ad1 n1 c1] 25)).alloc (.cells #[.bool false, .slice none 0 0] 25)) (w.heap.size + 1) 25 [.bool false, .slice none 0 0] := Cel.made _ _ _ _ (by simp)
  replace k0 := k0.next l1
  replace h1 := h1.below b2 (Nat.le_refl _)
  clear b0 b1 l0 l1
  have hg0 : w.heap.size ≤ w.heap.size := Nat.le_refl _
  have hg1 : w.heap.size ≤ w.heap.size + 1 := Nat.le_add_right _ _
  have HAB := Lib.hid (show V1 = ((-sI ng1 V1).natAbs : Int) by rw [Int.natAbs_neg, sI_abs ng1 V1 hV0])
  obtain ⟨r, hr⟩ : ∃ r, decide (-sI ng1 V1 < 0) = r := ⟨_, rfl⟩
  have HR := Lib.hid hr
  have hsg := made_sign (-sI ng1 V1) V1 HAB.out
  rw [hr] at hsg
  have HSG := Lib.hid hsg
  clear hr hsg
  obtain ⟨q1, q2⟩ := sg_neg (sI ng1 V1)
  have hS := wsigned_calls ng1 ad1 n1 c1 V1 ((w.alloc (.cells #[.bool ng1, .slice ad1 n1 c1] 25)).alloc (.cells #[.bool false, .slice none 0 0] 25)) h1 hn1
  generalize sI ng1 V1 = N at *
  generalize sgI N = s1 at *
  generalize hs2 : sgI (-N) = s2 at *
  have HQ := Lib.hid hs2
  clear hs2 h1 q2
  go_enter Try.func41, Try.ntmps41
  have h := Lib.hid (hS)
  have e0a := k0.cell 0 _ rfl
  have e0b := k0.cell 1 _ rfl
  have e1a := k1.cell 0 _ rfl
  have e1b := k1.cell 1 _ rfl
  go_wp2_with fail
  with_reducible refine (h.out).mono ?_
  rintro e v1 ⟨fd, fn, fc, rfl, ff, b⟩
  clear h
  clear e0a e0b e1a e1b
  replace k0 := k0.next b
  replace k1 := k1.next b
  have bb := below_trans b2 b
  clear b b2
  have b2 := bb
  clear bb
  clear hS
  have HM := wmade_as s2 fd fn fc V1 r v1 ff hV0 HSG.out
  have h := Lib.hid (HM)
  have e0a := k0.cell 0 _ rfl
  have e0b := k0.cell 1 _ rfl
  have e1a := k1.cell 0 _ rfl
  have e1b := k1.cell 1 _ rfl
  go_wp2_with fail
  with_reducible refine (h.out).mono ?_
  rintro e v2 ⟨rfl, b⟩
  clear h
  clear e0a e0b e1a e1b
  replace k0 := k0.next b
  replace k1 := k1.next b
  replace ff := ff.below b (Nat.le_refl _)
  have bb := below_trans b2 b
  clear b b2
  have b2 := bb
  clear bb
  clear HM
  have g0 := k1.free 0
  have g1 := k1.free 1
  have e0a := k0.cell 0 _ rfl
  have e0b := k0.cell 1 _ rfl
  have e1a := k1.cell 0 _ rfl
  have e1b := k1.cell 1 _ rfl
  go_wp2_with fail
  refine bodyPost_ret (results_cell_row rfl _ _ (w.heap.size + 1) 25 #[.bool r, .slice fd fn fc] (0, 0) _ rfl ((k1.set 0 _).set 1 _).row Try.underlying25 rfl size_int) rfl ?_
  refine ⟨_, _, _, by rw [HR.out], ?_, below_set (below_set b2 _ _ _ hg1) _ _ _ hg1⟩
  rw [← HAB.out]
  exact ff.poke2 k1 _ _
end Go.Proofs.Ytgnophflogmmaaa
