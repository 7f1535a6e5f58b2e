/- The law NumberOrder: its walk. -/
import Derived.Test.YtoimhjcpeifegaaGreatDoorPk32
import Derived.Test.YtoimhjcpeifegaaGreatDoorPk33
set_option linter.unusedVariables false
set_option linter.unusedSimpArgs false
/- WalkNumberOrder. (Printed by flow15.py.) -/
namespace Go.Proofs.YtoimhjcpeifegaaGreatDoor
open Go Go.RowKit

set_option maxRecDepth 20000 in
set_option maxHeartbeats 4000000 in
theorem con_NumberOrder (ngx : Bool) (nx : Nat) (xx : List Int) (yx : nx * 4 ≤ 140737488351232) (ngy : Bool) (ny : Nat) (xy : List Int) (yy : ny * 4 ≤ 140737488351232) (b : Int) (hb : 0 ≤ b ∧ b < 18446744073709551616) : ConE Tryz.prog 11 [IsArg ngx nx xx, IsArg ngy ny xy, Lit (.int .u64 b)] (IsB true) := by
  refine f_enterE (N := 191) Tryz.ntmps11 (fun _ _ => by go_simp) Tryz.func11 rfl (by simp) ?_
  intro a0 w0 B0 H0
  replace H0 : St 191 w0 B0 a0 w0 B0 [(0, .val (IsArg ngx nx xx)), (1, .val (IsArg ngy ny xy)), (2, .val (Lit (.int .u64 b))), (191, .val (EnvV))] [] := H0
  obtain ⟨X, hX⟩ : ∃ X, sI ngx (val 4294967296 xx) = X := ⟨_, rfl⟩
  have fX : FitK nx X := PArg.fit hX (H0.fc.get 0 rfl)
  obtain ⟨Y, hY⟩ : ∃ X, sI ngy (val 4294967296 xy) = X := ⟨_, rfl⟩
  have fY : FitK ny Y := PArg.fit hY (H0.fc.get 1 rfl)
  refine wp_seq ?_
  refine flow_region (dsts := [some 3, some 4, some 6]) (refs := [[.pre 0], [.pre 1], []]) (outs := [.res 0, .res 1, .res 2, .pre 2, .pre 3]) (als := [true, true, false]) (posts := [.box 34 2 (IsArg ngx nx xx), .box 34 2 (IsArg ngy ny xy), .val (IsB false)])
    (out := [(3, .box 34 2 (IsArg ngx nx xx)), (4, .box 34 2 (IsArg ngy ny xy)), (6, .val (IsB false)), (2, .val (Lit (.int .u64 b))), (191, .val (EnvV))]) (nb := [3, 4]) H0 3 [] rfl (by kernel_rfl) rfl rfl ?_ ?_
  · refine .cons (.plain rfl (ok_box (.tmp 0 rfl) shape_Arg.two)) ?_
    refine .cons (.plain rfl (ok_box (.tmp 0 rfl) shape_Arg.two)) ?_
    refine .cons (.plain rfl (ok_assign (.lit))) ?_
    exact .nil
  clear H0
  intro a1 w1 B1 H1
  simp only [List.cons_append, List.nil_append] at H1
  refine ops_done ?_
  refine then_normal ?_
  refine wp_seq ?_
  refine wp_seq ?_
  refine flow_region (dsts := [some 26, some 27, some 28, some 29]) (refs := [[.pre 0], [.res 0], [.res 1], [.res 2]]) (outs := [.res 3, .pre 0, .pre 1, .pre 2, .pre 3, .pre 4]) (als := [false, false, false, false]) (posts := [.ptr 34 2 (IsArg ngx nx xx) 1, .val (IsSl nx), .val (IsNats1 nx), .val (IsIf True (nx ≤ 1048576))])
    (out := [(29, .val (IsIf True (nx ≤ 1048576))), (3, .box 34 2 (IsArg ngx nx xx)), (4, .box 34 2 (IsArg ngy ny xy)), (6, .val (IsB false)), (2, .val (Lit (.int .u64 b))), (191, .val (EnvV))]) (nb := []) H1 4 [4, 5, 6, 7, 8, 9] rfl (by kernel_rfl) rfl rfl ?_ ?_
  · refine .cons (.plain rfl (ok_addrI1 (.tmp 0 rfl))) ?_
    refine .cons (.plain rfl (ok_loadMagA (.tmp 0 rfl))) ?_
    refine .cons (.plain rfl (ok_nats1 (.tmp 0 rfl))) ?_
    refine .cons (.plain rfl (ok_call (con_beyondNat1 nx (by omega)) (.cons (.tmp 0 rfl) (.nil)))) ?_
    exact .nil
  clear H1 a1 w1 B1
  intro a2 w2 B2 H2
  rcases St.split2 H2 0 rfl with ⟨hc3, H3⟩ | ⟨hc3, H3⟩
  · replace H3 : St 191 w0 B0 a2 w2 B2 [(29, .val (IsB true)), (3, .box 34 2 (IsArg ngx nx xx)), (4, .box 34 2 (IsArg ngy ny xy)), (6, .val (IsB false)), (2, .val (Lit (.int .u64 b))), (191, .val (EnvV))] [3, 4] := H3
    clear H2
    refine ops_one ?_
    refine tail_op (D := .val (IsB true)) (l' := [(30, .val (IsB true)), (29, .val (IsB true)), (3, .box 34 2 (IsArg ngx nx xx)), (4, .box 34 2 (IsArg ngy ny xy)), (6, .val (IsB false)), (2, .val (Lit (.int .u64 b))), (191, .val (EnvV))]) H3 rfl rfl rfl (.plain rfl (ok_move (.tmp 0 rfl))) rfl rfl ?_
    clear H3 a2 w2 B2
    intro a4 w4 B4 H4
    refine ops_one ?_
    refine tail_op (D := .val (IsUndef)) (l' := [(31, .val (IsUndef)), (30, .val (IsB true)), (29, .val (IsB true)), (3, .box 34 2 (IsArg ngx nx xx)), (4, .box 34 2 (IsArg ngy ny xy)), (6, .val (IsB false)), (2, .val (Lit (.int .u64 b))), (191, .val (EnvV))]) H4 rfl rfl rfl (.unwanted 4 false rfl rfl rfl 0 rfl) rfl rfl ?_
    clear H4 a4 w4 B4
    intro a5 w5 B5 H5
    refine ops_one ?_
    refine tail_op (D := .val (IsUndef)) (l' := [(32, .val (IsUndef)), (31, .val (IsUndef)), (30, .val (IsB true)), (29, .val (IsB true)), (3, .box 34 2 (IsArg ngx nx xx)), (4, .box 34 2 (IsArg ngy ny xy)), (6, .val (IsB false)), (2, .val (Lit (.int .u64 b))), (191, .val (EnvV))]) H5 rfl rfl rfl (.unwanted 4 false rfl rfl rfl 1 rfl) rfl rfl ?_
    clear H5 a5 w5 B5
    intro a6 w6 B6 H6
    refine ops_one ?_
    refine tail_op (D := .val (IsUndef)) (l' := [(33, .val (IsUndef)), (32, .val (IsUndef)), (31, .val (IsUndef)), (30, .val (IsB true)), (29, .val (IsB true)), (3, .box 34 2 (IsArg ngx nx xx)), (4, .box 34 2 (IsArg ngy ny xy)), (6, .val (IsB false)), (2, .val (Lit (.int .u64 b))), (191, .val (EnvV))]) H6 rfl rfl rfl (.unwanted 4 false rfl rfl rfl 2 rfl) rfl rfl ?_
    clear H6 a6 w6 B6
    intro a7 w7 B7 H7
    refine ops_one ?_
    refine tail_op (D := .val (IsUndef)) (l' := [(34, .val (IsUndef)), (33, .val (IsUndef)), (32, .val (IsUndef)), (31, .val (IsUndef)), (30, .val (IsB true)), (29, .val (IsB true)), (3, .box 34 2 (IsArg ngx nx xx)), (4, .box 34 2 (IsArg ngy ny xy)), (6, .val (IsB false)), (2, .val (Lit (.int .u64 b))), (191, .val (EnvV))]) H7 rfl rfl rfl (.unwanted 4 false rfl rfl rfl 3 rfl) rfl rfl ?_
    clear H7 a7 w7 B7
    intro a8 w8 B8 H8
    refine ops_one ?_
    refine tail_op (D := .val (IsB true)) (l' := [(35, .val (IsB true)), (34, .val (IsUndef)), (33, .val (IsUndef)), (32, .val (IsUndef)), (31, .val (IsUndef)), (30, .val (IsB true)), (29, .val (IsB true)), (3, .box 34 2 (IsArg ngx nx xx)), (4, .box 34 2 (IsArg ngy ny xy)), (6, .val (IsB false)), (2, .val (Lit (.int .u64 b))), (191, .val (EnvV))]) H8 rfl rfl rfl (.plain rfl (ok_pickT (.tmp 4 rfl) (.lit))) rfl rfl ?_
    clear H8 a8 w8 B8
    intro a9 w9 B9 H9
    refine ops_done ?_
    refine then_normal ?_
    refine f_condT H9 (.tmp 0 rfl) ?_
    refine wp_seq ?_
    refine flow_region (dsts := [some 6]) (refs := [[]]) (outs := [.res 0, .pre 7, .pre 8, .pre 10, .pre 11]) (als := [false]) (posts := [.val (IsB true)])
      (out := [(6, .val (IsB true)), (3, .box 34 2 (IsArg ngx nx xx)), (4, .box 34 2 (IsArg ngy ny xy)), (2, .val (Lit (.int .u64 b))), (191, .val (EnvV))]) (nb := []) H9 1 [] rfl (by kernel_rfl) rfl rfl ?_ ?_
    · refine .cons (.plain rfl (ok_assign (.lit))) ?_
      exact .nil
    clear H9 a9 w9 B9
    intro a10 w10 B10 H10
    refine ops_done ?_
    refine then_normal ?_
    refine wp_ret ?_
    refine then_ret ?_
    exact f_ret H10 rfl 0 rfl (fun _ _ _ h => h)
  · replace H3 : St 191 w0 B0 a2 w2 B2 [(29, .val (IsB false)), (3, .box 34 2 (IsArg ngx nx xx)), (4, .box 34 2 (IsArg ngy ny xy)), (6, .val (IsB false)), (2, .val (Lit (.int .u64 b))), (191, .val (EnvV))] [3, 4] := H3
    clear H2
    have lx := hc3
    refine ops_one ?_
    refine tail_op (D := .val (IsB false)) (l' := [(30, .val (IsB false)), (29, .val (IsB false)), (3, .box 34 2 (IsArg ngx nx xx)), (4, .box 34 2 (IsArg ngy ny xy)), (6, .val (IsB false)), (2, .val (Lit (.int .u64 b))), (191, .val (EnvV))]) H3 rfl rfl rfl (.plain rfl (ok_move (.tmp 0 rfl))) rfl rfl ?_
    clear H3 a2 w2 B2
    intro a11 w11 B11 H11
    refine ops_one ?_
    refine tail_op (D := .ptr 34 2 (IsArg ngy ny xy) 1) (l' := [(31, .ptr 34 2 (IsArg ngy ny xy) 1), (30, .val (IsB false)), (29, .val (IsB false)), (3, .box 34 2 (IsArg ngx nx xx)), (4, .box 34 2 (IsArg ngy ny xy)), (6, .val (IsB false)), (2, .val (Lit (.int .u64 b))), (191, .val (EnvV))]) H11 rfl rfl rfl (.wanted 4 false rfl rfl rfl 0 rfl (ok_addrI1 (.tmp 3 rfl))) rfl rfl ?_
    clear H11 a11 w11 B11
    intro a12 w12 B12 H12
    refine ops_one ?_
    refine tail_op (D := .val (IsSl ny)) (l' := [(32, .val (IsSl ny)), (31, .ptr 34 2 (IsArg ngy ny xy) 1), (30, .val (IsB false)), (29, .val (IsB false)), (3, .box 34 2 (IsArg ngx nx xx)), (4, .box 34 2 (IsArg ngy ny xy)), (6, .val (IsB false)), (2, .val (Lit (.int .u64 b))), (191, .val (EnvV))]) H12 rfl rfl rfl (.wanted 4 false rfl rfl rfl 1 rfl (ok_loadMagA (.tmp 0 rfl))) rfl rfl ?_
    clear H12 a12 w12 B12
    intro a13 w13 B13 H13
    refine ops_one ?_
    refine tail_op (D := .val (IsNats1 ny)) (l' := [(33, .val (IsNats1 ny)), (32, .val (IsSl ny)), (31, .ptr 34 2 (IsArg ngy ny xy) 1), (30, .val (IsB false)), (29, .val (IsB false)), (3, .box 34 2 (IsArg ngx nx xx)), (4, .box 34 2 (IsArg ngy ny xy)), (6, .val (IsB false)), (2, .val (Lit (.int .u64 b))), (191, .val (EnvV))]) H13 rfl rfl rfl (.wanted 4 false rfl rfl rfl 2 rfl (ok_nats1 (.tmp 0 rfl))) rfl rfl ?_
    clear H13 a13 w13 B13
    intro a14 w14 B14 H14
    refine ops_one ?_
    refine tail_op (D := .val (IsIf True (ny ≤ 1048576))) (l' := [(34, .val (IsIf True (ny ≤ 1048576))), (33, .val (IsNats1 ny)), (32, .val (IsSl ny)), (31, .ptr 34 2 (IsArg ngy ny xy) 1), (30, .val (IsB false)), (29, .val (IsB false)), (3, .box 34 2 (IsArg ngx nx xx)), (4, .box 34 2 (IsArg ngy ny xy)), (6, .val (IsB false)), (2, .val (Lit (.int .u64 b))), (191, .val (EnvV))]) H14 rfl rfl rfl (.wanted 4 false rfl rfl rfl 3 rfl (ok_call (con_beyondNat1 ny (by omega)) (.cons (.tmp 0 rfl) (.nil)))) rfl rfl ?_
    clear H14 a14 w14 B14
    intro a15 w15 B15 H15
    refine ops_one ?_
    refine tail_op (D := .val (IsIf True (ny ≤ 1048576))) (l' := [(35, .val (IsIf True (ny ≤ 1048576))), (34, .val (IsIf True (ny ≤ 1048576))), (33, .val (IsNats1 ny)), (32, .val (IsSl ny)), (31, .ptr 34 2 (IsArg ngy ny xy) 1), (30, .val (IsB false)), (29, .val (IsB false)), (3, .box 34 2 (IsArg ngx nx xx)), (4, .box 34 2 (IsArg ngy ny xy)), (6, .val (IsB false)), (2, .val (Lit (.int .u64 b))), (191, .val (EnvV))]) H15 rfl rfl rfl (.plain rfl (ok_pickF (.tmp 4 rfl) (.tmp 0 rfl))) rfl rfl ?_
    clear H15 a15 w15 B15
    intro a16 w16 B16 H16
    refine ops_done ?_
    refine then_normal ?_
    refine f_condI H16 (.tmp 0 rfl) ?_ ?_
    · intro hc17
      refine wp_seq ?_
      refine flow_region (dsts := [some 6]) (refs := [[]]) (outs := [.res 0, .pre 7, .pre 8, .pre 10, .pre 11]) (als := [false]) (posts := [.val (IsB true)])
        (out := [(6, .val (IsB true)), (3, .box 34 2 (IsArg ngx nx xx)), (4, .box 34 2 (IsArg ngy ny xy)), (2, .val (Lit (.int .u64 b))), (191, .val (EnvV))]) (nb := []) H16 1 [] rfl (by kernel_rfl) rfl rfl ?_ ?_
      · refine .cons (.plain rfl (ok_assign (.lit))) ?_
        exact .nil
      clear H16 a16 w16 B16
      intro a18 w18 B18 H18
      refine ops_done ?_
      refine then_normal ?_
      refine wp_ret ?_
      refine then_ret ?_
      exact f_ret H18 rfl 0 rfl (fun _ _ _ h => h)
    · intro hc17
      have ly := hc17
      refine wp_skip ?_
      refine then_normal ?_
      refine wp_seq ?_
      rcases (of_cases b hb) with ⟨hn, qz, qw⟩ | ⟨hn, hc, qz, qw⟩ | ⟨hn, N, qz⟩ | ⟨hn, hc, qz, qw, hp, he⟩
      · have hz2 : okNV (.flt 9221120237041090560) := qz ▸ ok_of w64 b (by rw [show (2 : Int) ^ 64 = 18446744073709551616 from by decide]; exact hb)
        refine flow_drawT (dsts := [some 36, some 37, some 38, some 39, some 40, some 41, some 7, some 8, some 9]) (refs := [[.pre 7], [.res 0], [.pre 8], [.res 2], [.pre 10], [.res 4, .pre 11], [], [], []]) (outs := [.res 1, .res 3, .res 5, .res 6, .res 7, .res 8, .pre 7, .pre 8, .pre 9, .pre 10, .pre 11]) (als := [false, false, false, false, false, false, true, true, true]) (posts := [.val (IsArg ngx nx xx), .val (IsNum (.int X)), .val (IsArg ngy ny xy), .val (IsNum (.int Y)), .val (Lit (.int .u64 b)), .val (IsNum (.flt 9221120237041090560)), .box 37 8 (IsVal 0 0 (IsI 0) 0 0 (⟨#[]⟩) (K0)), .box 37 8 (IsVal 0 0 (IsI 0) 0 0 (⟨#[]⟩) (K0)), .box 37 8 (IsVal 0 0 (IsI 0) 0 0 (⟨#[]⟩) (K0))])
          (out := [(37, .val (IsNum (.int X))), (39, .val (IsNum (.int Y))), (41, .val (IsNum (.flt 9221120237041090560))), (7, .box 37 8 (IsVal 0 0 (IsI 0) 0 0 (⟨#[]⟩) (K0))), (8, .box 37 8 (IsVal 0 0 (IsI 0) 0 0 (⟨#[]⟩) (K0))), (9, .box 37 8 (IsVal 0 0 (IsI 0) 0 0 (⟨#[]⟩) (K0))), (3, .box 34 2 (IsArg ngx nx xx)), (4, .box 34 2 (IsArg ngy ny xy)), (6, .val (IsB false)), (2, .val (Lit (.int .u64 b))), (191, .val (EnvV))]) (nb := [7, 8, 9]) H16 (by kernel_rfl) 9 3 #[true, true, true, true, true, true, true, true, true, false, false, false] (by kernel_rfl) (by kernel_rfl) rfl rfl ?_ ?_
        · refine .cons (.plain rfl (ok_load tyI (.tmp 0 rfl))) ?_
          refine .cons (.plain rfl (ok_call (con_ofint X) (.cons (.weak (.tmp 0 rfl) (weakAN (by omega) hX)) (.nil)))) ?_
          refine .cons (.plain rfl (ok_load tyI (.tmp 0 rfl))) ?_
          refine .cons (.plain rfl (ok_call (con_ofint Y) (.cons (.weak (.tmp 0 rfl) (weakAN (by omega) hY)) (.nil)))) ?_
          refine .cons (.plain rfl (ok_move (.tmp 0 rfl))) ?_
          refine .cons (.plain rfl (ok_callE ((con_of64 b hb).weak (fun v w B h => num_eq qz h)) 1 rfl (.cons (.tmp 0 rfl) (.nil)))) ?_
          refine .cons (.plain rfl (ok_allocV)) ?_
          refine .cons (.plain rfl (ok_allocV)) ?_
          refine .cons (.plain rfl (ok_allocV)) ?_
          exact .nil
        clear H16 a16 w16 B16
        intro a19 w19 B19 H19
        simp only [List.cons_append, List.nil_append] at H19
        refine any_oneT (l' := #[true, true, true, true, true, true, true, true, true, true, false, false]) 9 (by kernel_rfl) ?_
        refine store_op (l' := [(37, .val (IsNum (.int X))), (39, .val (IsNum (.int Y))), (41, .val (IsNum (.flt 9221120237041090560))), (7, .box 37 8 (IsNum (.int X))), (8, .box 37 8 (IsVal 0 0 (IsI 0) 0 0 (⟨#[]⟩) (K0))), (9, .box 37 8 (IsVal 0 0 (IsI 0) 0 0 (⟨#[]⟩) (K0))), (3, .box 34 2 (IsArg ngx nx xx)), (4, .box 34 2 (IsArg ngy ny xy)), (6, .val (IsB false)), (2, .val (Lit (.int .u64 b))), (191, .val (EnvV))]) 3 H19 rfl tyV rfl (.tmp 0 rfl) (shape_Val shape_I oneK0) shape_Num rfl rfl ?_
        clear H19 w19
        intro w20 H20
        refine any_oneT (l' := #[true, true, true, true, true, true, true, true, true, true, true, false]) 10 (by kernel_rfl) ?_
        refine store_op (l' := [(37, .val (IsNum (.int X))), (39, .val (IsNum (.int Y))), (41, .val (IsNum (.flt 9221120237041090560))), (7, .box 37 8 (IsNum (.int X))), (8, .box 37 8 (IsNum (.int Y))), (9, .box 37 8 (IsVal 0 0 (IsI 0) 0 0 (⟨#[]⟩) (K0))), (3, .box 34 2 (IsArg ngx nx xx)), (4, .box 34 2 (IsArg ngy ny xy)), (6, .val (IsB false)), (2, .val (Lit (.int .u64 b))), (191, .val (EnvV))]) 4 H20 rfl tyV rfl (.tmp 1 rfl) (shape_Val shape_I oneK0) shape_Num rfl rfl ?_
        clear H20 w20
        intro w21 H21
        refine any_oneT (l' := #[true, true, true, true, true, true, true, true, true, true, true, true]) 11 (by kernel_rfl) ?_
        refine store_op (l' := [(37, .val (IsNum (.int X))), (39, .val (IsNum (.int Y))), (41, .val (IsNum (.flt 9221120237041090560))), (7, .box 37 8 (IsNum (.int X))), (8, .box 37 8 (IsNum (.int Y))), (9, .box 37 8 (IsNum (.flt 9221120237041090560))), (3, .box 34 2 (IsArg ngx nx xx)), (4, .box 34 2 (IsArg ngy ny xy)), (6, .val (IsB false)), (2, .val (Lit (.int .u64 b))), (191, .val (EnvV))]) 5 H21 rfl tyV rfl (.tmp 2 rfl) (shape_Val shape_I oneK0) shape_Num rfl rfl ?_
        clear H21 w21
        intro w22 H22
        refine any_done (by kernel_rfl) ?_
        refine then_normal ?_
        refine wp_seq ?_
        refine flow_region (dsts := [some 43, some 44, some 45, some 42, some 46, some 47, some 10, some 11]) (refs := [[.pre 3], [.pre 4], [.res 0, .res 1, .pre 10], [.res 2], [.res 3], [.res 3], [.res 4], [.res 5]]) (outs := [.res 6, .res 7, .pre 3, .pre 4, .pre 5, .pre 6, .pre 7, .pre 8, .pre 9, .pre 10]) (als := [false, false, false, false, false, false, false, false]) (posts := [.val (IsNum (.int X)), .val (IsNum (.int Y)), .val (Tup [Lit (.int .i64 (cmpI X Y)), IsB true]), .val (Tup [Lit (.int .i64 (cmpI X Y)), IsB true]), .val (Lit (.int .i64 (cmpI X Y))), .val (IsB true), .val (Lit (.int .i64 (cmpI X Y))), .val (IsB true)])
          (out := [(10, .val (Lit (.int .i64 (cmpI X Y)))), (11, .val (IsB true)), (7, .box 37 8 (IsNum (.int X))), (8, .box 37 8 (IsNum (.int Y))), (9, .box 37 8 (IsNum (.flt 9221120237041090560))), (3, .box 34 2 (IsArg ngx nx xx)), (4, .box 34 2 (IsArg ngy ny xy)), (6, .val (IsB false)), (2, .val (Lit (.int .u64 b))), (191, .val (EnvV))]) (nb := []) H22 8 [] rfl (by kernel_rfl) rfl rfl ?_ ?_
        · refine .cons (.plain rfl (ok_load tyV (.tmp 0 rfl))) ?_
          refine .cons (.plain rfl (ok_load tyV (.tmp 0 rfl))) ?_
          refine .cons (.plain rfl (ok_callE ((con_ncmp (.int X) (.int Y) trivial trivial).weak (fun v w B h => by rw [fin_int X Y] at h; exact h)) 2 rfl (.cons (.tmp 0 rfl) (.cons (.tmp 1 rfl) (.nil))))) ?_
          refine .cons (.plain rfl (ok_move (.tmp 0 rfl))) ?_
          refine .cons (.plain rfl (ok_extract 0 (.tmp 0 rfl) rfl)) ?_
          refine .cons (.plain rfl (ok_extract 1 (.tmp 0 rfl) rfl)) ?_
          refine .cons (.plain rfl (ok_assign (.tmp 0 rfl))) ?_
          refine .cons (.plain rfl (ok_assign (.tmp 0 rfl))) ?_
          exact .nil
        clear H22 a19 w22 B19
        intro a23 w23 B23 H23
        refine ops_done ?_
        refine then_normal ?_
        refine wp_seq ?_
        refine wp_seq ?_
        refine flow_region (dsts := [some 48, some 49, some 50, some 51, some 52, some 53, some 54, some 55, some 56]) (refs := [[.pre 1], [.res 0], [.res 1], [.res 2, .pre 0], [.res 2, .pre 5], [.res 2, .pre 6], [.res 2, .res 4, .res 5], [.res 2, .res 3, .res 6], [.res 2, .res 7]]) (outs := [.res 8, .pre 0, .pre 2, .pre 3, .pre 4, .pre 7, .pre 8, .pre 9]) (als := [false, false, false, false, false, false, false, false, false]) (posts := [.val (IsB true), .val (IsB false), .val (IsB false), .val (Lit (.int .i64 (cmpI X Y))), .val (IsArg ngx nx xx), .val (IsArg ngy ny xy), .val (Lit (.int .i64 (cmpI X Y))), .val (IsB false), .val (IsB false)])
          (out := [(56, .val (IsB false)), (10, .val (Lit (.int .i64 (cmpI X Y)))), (7, .box 37 8 (IsNum (.int X))), (8, .box 37 8 (IsNum (.int Y))), (9, .box 37 8 (IsNum (.flt 9221120237041090560))), (6, .val (IsB false)), (2, .val (Lit (.int .u64 b))), (191, .val (EnvV))]) (nb := []) H23 9 [] rfl (by kernel_rfl) rfl rfl ?_ ?_
        · refine .cons (.plain rfl (ok_move (.tmp 0 rfl))) ?_
          refine .cons (.plain rfl (ok_not (b := true) (.tmp 0 rfl))) ?_
          refine .cons (.plain rfl (ok_move (.tmp 0 rfl))) ?_
          refine .cons (.wanted 2 false rfl rfl rfl 0 rfl (ok_move (.tmp 1 rfl))) ?_
          refine .cons (.wanted 2 false rfl rfl rfl 0 rfl (ok_load tyI (.tmp 1 rfl))) ?_
          refine .cons (.wanted 2 false rfl rfl rfl 0 rfl (ok_load tyI (.tmp 1 rfl))) ?_
          refine .cons (.wanted 2 false rfl rfl rfl 0 rfl (ok_call (con_cmp X Y) (.cons (.weak (.tmp 1 rfl) (weakAN (by omega) hX)) (.cons (.weak (.tmp 2 rfl) (weakAN (by omega) hY)) (.nil))))) ?_
          refine .cons (.wanted 2 false rfl rfl rfl 0 rfl (ok_cmp (b := false) (.tmp 1 rfl) (.tmp 2 rfl) ((decide_eq_false (fun h => h rfl)).symm))) ?_
          refine .cons (.plain rfl (ok_pickF (.tmp 0 rfl) (.tmp 1 rfl))) ?_
          exact .nil
        clear H23 a23 w23 B23
        intro a24 w24 B24 H24
        refine ops_done ?_
        refine then_normal ?_
        refine f_condF H24 (.tmp 0 rfl) ?_
        refine wp_skip ?_
        refine then_normal ?_
        refine wp_seq ?_
        refine flow_drawT (dsts := [some 58, some 59, some 60, some 57, some 61, some 62, some 12, some 13]) (refs := [[.pre 2], [.pre 7], [.res 0, .res 1, .pre 7], [.res 2], [.res 3], [.res 3], [.res 4], [.res 5]]) (outs := [.res 6, .res 7, .pre 1, .pre 2, .pre 3, .pre 4, .pre 5, .pre 6, .pre 7]) (als := [false, false, false, false, false, false, false, false]) (posts := [.val (IsNum (.int X)), .val (IsNum (.flt 18442240474082181120)), .val (Tup [Lit (.int .i64 1), IsB true]), .val (Tup [Lit (.int .i64 1), IsB true]), .val (Lit (.int .i64 1)), .val (IsB true), .val (Lit (.int .i64 1)), .val (IsB true)])
          (out := [(12, .val (Lit (.int .i64 1))), (13, .val (IsB true)), (10, .val (Lit (.int .i64 (cmpI X Y)))), (7, .box 37 8 (IsNum (.int X))), (8, .box 37 8 (IsNum (.int Y))), (9, .box 37 8 (IsNum (.flt 9221120237041090560))), (6, .val (IsB false)), (2, .val (Lit (.int .u64 b))), (191, .val (EnvV))]) (nb := []) H24 (by kernel_rfl) 8 0 #[true, true, true, true, true, true, true, true] (by kernel_rfl) (by kernel_rfl) rfl rfl ?_ ?_
        · refine .cons (.plain rfl (ok_load tyV (.tmp 0 rfl))) ?_
          refine .cons (.plain rfl (ok_callE ((con_of64 18442240474082181120 (by omega)).weak (fun v w B h => num_eq ninf_of h)) 0 rfl (.cons (.lit) (.nil)))) ?_
          refine .cons (.plain rfl (ok_callE ((con_ncmp (.int X) (.flt 18442240474082181120) trivial ninf_ok).weak (fun v w B h => by rw [ninf_cmp X] at h; exact h)) 2 rfl (.cons (.tmp 0 rfl) (.cons (.tmp 1 rfl) (.nil))))) ?_
          refine .cons (.plain rfl (ok_move (.tmp 0 rfl))) ?_
          refine .cons (.plain rfl (ok_extract 0 (.tmp 0 rfl) rfl)) ?_
          refine .cons (.plain rfl (ok_extract 1 (.tmp 0 rfl) rfl)) ?_
          refine .cons (.plain rfl (ok_assign (.tmp 0 rfl))) ?_
          refine .cons (.plain rfl (ok_assign (.tmp 0 rfl))) ?_
          exact .nil
        clear H24 a24 w24 B24
        intro a25 w25 B25 H25
        refine any_done (by kernel_rfl) ?_
        refine then_normal ?_
        refine wp_seq ?_
        refine flow_drawT (dsts := [some 64, some 65, some 66, some 63, some 67, some 68, some 14, some 15]) (refs := [[.pre 3], [.pre 8], [.res 0, .res 1, .pre 8], [.res 2], [.res 3], [.res 3], [.res 4], [.res 5]]) (outs := [.res 6, .res 7, .pre 0, .pre 1, .pre 2, .pre 3, .pre 4, .pre 5, .pre 6, .pre 7, .pre 8]) (als := [false, false, false, false, false, false, false, false]) (posts := [.val (IsNum (.int X)), .val (IsNum (.flt 9218868437227405312)), .val (Tup [Lit (.int .i64 (-1)), IsB true]), .val (Tup [Lit (.int .i64 (-1)), IsB true]), .val (Lit (.int .i64 (-1))), .val (IsB true), .val (Lit (.int .i64 (-1))), .val (IsB true)])
          (out := [(14, .val (Lit (.int .i64 (-1)))), (15, .val (IsB true)), (12, .val (Lit (.int .i64 1))), (13, .val (IsB true)), (10, .val (Lit (.int .i64 (cmpI X Y)))), (7, .box 37 8 (IsNum (.int X))), (8, .box 37 8 (IsNum (.int Y))), (9, .box 37 8 (IsNum (.flt 9221120237041090560))), (6, .val (IsB false)), (2, .val (Lit (.int .u64 b))), (191, .val (EnvV))]) (nb := []) H25 (by kernel_rfl) 8 0 #[true, true, true, true, true, true, true, true] (by kernel_rfl) (by kernel_rfl) rfl rfl ?_ ?_
        · refine .cons (.plain rfl (ok_load tyV (.tmp 0 rfl))) ?_
          refine .cons (.plain rfl (ok_callE ((con_of32 2139095040 (by omega)).weak (fun v w B h => num_eq inf_of h)) 0 rfl (.cons (.lit) (.nil)))) ?_
          refine .cons (.plain rfl (ok_callE ((con_ncmp (.int X) (.flt 9218868437227405312) trivial inf_ok).weak (fun v w B h => by rw [inf_cmp X] at h; exact h)) 2 rfl (.cons (.tmp 0 rfl) (.cons (.tmp 1 rfl) (.nil))))) ?_
          refine .cons (.plain rfl (ok_move (.tmp 0 rfl))) ?_
          refine .cons (.plain rfl (ok_extract 0 (.tmp 0 rfl) rfl)) ?_
          refine .cons (.plain rfl (ok_extract 1 (.tmp 0 rfl) rfl)) ?_
          refine .cons (.plain rfl (ok_assign (.tmp 0 rfl))) ?_
          refine .cons (.plain rfl (ok_assign (.tmp 0 rfl))) ?_
          exact .nil
        clear H25 a25 w25 B25
        intro a26 w26 B26 H26
        refine any_done (by kernel_rfl) ?_
        refine then_normal ?_
        refine wp_seq ?_
        refine wp_seq ?_
        refine flow_region (dsts := [some 69, some 70, some 71, some 72, some 73, some 74, some 75, some 76, some 77, some 78, some 79, some 80, some 81, some 82]) (refs := [[.pre 2], [.res 0], [.res 1], [.res 2, .pre 0], [.res 2, .res 3], [.res 2, .res 4], [.res 5], [.res 6, .pre 3], [.res 6, .res 7], [.res 6, .res 8], [.res 9], [.res 10, .pre 1], [.res 10, .res 11], [.res 10, .res 12]]) (outs := [.res 13, .pre 4, .pre 5, .pre 6, .pre 7, .pre 8, .pre 9, .pre 10]) (als := [false, false, false, false, false, false, false, false, false, false, false, false, false, false]) (posts := [.val (Lit (.int .i64 1)), .val (IsB false), .val (IsB false), .val (Lit (.int .i64 (-1))), .val (IsB false), .val (IsB false), .val (IsB false), .val (IsB true), .val (IsB false), .val (IsB false), .val (IsB false), .val (IsB true), .val (IsB false), .val (IsB false)])
          (out := [(82, .val (IsB false)), (10, .val (Lit (.int .i64 (cmpI X Y)))), (7, .box 37 8 (IsNum (.int X))), (8, .box 37 8 (IsNum (.int Y))), (9, .box 37 8 (IsNum (.flt 9221120237041090560))), (6, .val (IsB false)), (2, .val (Lit (.int .u64 b))), (191, .val (EnvV))]) (nb := []) H26 14 [] rfl (by kernel_rfl) rfl rfl ?_ ?_
        · refine .cons (.plain rfl (ok_move (.tmp 0 rfl))) ?_
          refine .cons (.plain rfl (ok_cmp (b := false) (.tmp 0 rfl) (.lit) (by decide))) ?_
          refine .cons (.plain rfl (ok_move (.tmp 0 rfl))) ?_
          refine .cons (.wanted 2 false rfl rfl rfl 0 rfl (ok_move (.tmp 1 rfl))) ?_
          refine .cons (.wanted 2 false rfl rfl rfl 0 rfl (ok_cmp (b := false) (.tmp 1 rfl) (.lit) (by decide))) ?_
          refine .cons (.plain rfl (ok_pickF (.tmp 0 rfl) (.tmp 1 rfl))) ?_
          refine .cons (.plain rfl (ok_move (.tmp 0 rfl))) ?_
          refine .cons (.wanted 6 false rfl rfl rfl 0 rfl (ok_move (.tmp 1 rfl))) ?_
          refine .cons (.wanted 6 false rfl rfl rfl 0 rfl (ok_not (b := true) (.tmp 1 rfl))) ?_
          refine .cons (.plain rfl (ok_pickF (.tmp 0 rfl) (.tmp 1 rfl))) ?_
          refine .cons (.plain rfl (ok_move (.tmp 0 rfl))) ?_
          refine .cons (.wanted 10 false rfl rfl rfl 0 rfl (ok_move (.tmp 1 rfl))) ?_
          refine .cons (.wanted 10 false rfl rfl rfl 0 rfl (ok_not (b := true) (.tmp 1 rfl))) ?_
          refine .cons (.plain rfl (ok_pickF (.tmp 0 rfl) (.tmp 1 rfl))) ?_
          exact .nil
        clear H26 a26 w26 B26
        intro a27 w27 B27 H27
        refine ops_done ?_
        refine then_normal ?_
        refine f_condF H27 (.tmp 0 rfl) ?_
        refine wp_skip ?_
        refine then_normal ?_
        refine wp_seq ?_
        refine flow_region (dsts := [some 84, some 85, some 86, some 83, some 87, some 88, some 16, some 17]) (refs := [[.pre 2], [.pre 4], [.res 0, .res 1, .pre 7], [.res 2], [.res 3], [.res 3], [.res 4], [.res 5]]) (outs := [.res 6, .res 7, .pre 1, .pre 3, .pre 4, .pre 5, .pre 6, .pre 7]) (als := [false, false, false, false, false, false, false, false]) (posts := [.val (IsNum (.int X)), .val (IsNum (.flt 9221120237041090560)), .val (Tup [Lit (.int .i64 0), IsB false]), .val (Tup [Lit (.int .i64 0), IsB false]), .val (Lit (.int .i64 0)), .val (IsB false), .val (Lit (.int .i64 0)), .val (IsB false)])
          (out := [(16, .val (Lit (.int .i64 0))), (17, .val (IsB false)), (10, .val (Lit (.int .i64 (cmpI X Y)))), (8, .box 37 8 (IsNum (.int Y))), (9, .box 37 8 (IsNum (.flt 9221120237041090560))), (6, .val (IsB false)), (2, .val (Lit (.int .u64 b))), (191, .val (EnvV))]) (nb := []) H27 8 [] rfl (by kernel_rfl) rfl rfl ?_ ?_
        · refine .cons (.plain rfl (ok_load tyV (.tmp 0 rfl))) ?_
          refine .cons (.plain rfl (ok_load tyV (.tmp 0 rfl))) ?_
          refine .cons (.plain rfl (ok_callE ((con_ncmp (.int X) (.flt 9221120237041090560) trivial hz2).weak (fun v w B h => by rw [show cmpO (whatV (.int X)) (whatV (.flt 9221120237041090560)) = (0, false) by rw [qw, cmpO_no2]] at h; exact h)) 2 rfl (.cons (.tmp 0 rfl) (.cons (.tmp 1 rfl) (.nil))))) ?_
          refine .cons (.plain rfl (ok_move (.tmp 0 rfl))) ?_
          refine .cons (.plain rfl (ok_extract 0 (.tmp 0 rfl) rfl)) ?_
          refine .cons (.plain rfl (ok_extract 1 (.tmp 0 rfl) rfl)) ?_
          refine .cons (.plain rfl (ok_assign (.tmp 0 rfl))) ?_
          refine .cons (.plain rfl (ok_assign (.tmp 0 rfl))) ?_
          exact .nil
        clear H27 a27 w27 B27
        intro a28 w28 B28 H28
        refine ops_done ?_
        refine then_normal ?_
        refine wp_seq ?_
        refine flow_region (dsts := [some 90, some 91, some 92, some 89, some 93, some 94, some 18, some 19]) (refs := [[.pre 3], [.pre 4], [.res 0, .res 1, .pre 7], [.res 2], [.res 3], [.res 3], [.res 4], [.res 5]]) (outs := [.res 6, .res 7, .pre 0, .pre 1, .pre 2, .pre 4, .pre 5, .pre 6, .pre 7]) (als := [false, false, false, false, false, false, false, false]) (posts := [.val (IsNum (.int Y)), .val (IsNum (.flt 9221120237041090560)), .val (Tup [Lit (.int .i64 0), IsB false]), .val (Tup [Lit (.int .i64 0), IsB false]), .val (Lit (.int .i64 0)), .val (IsB false), .val (Lit (.int .i64 0)), .val (IsB false)])
          (out := [(18, .val (Lit (.int .i64 0))), (19, .val (IsB false)), (16, .val (Lit (.int .i64 0))), (17, .val (IsB false)), (10, .val (Lit (.int .i64 (cmpI X Y)))), (9, .box 37 8 (IsNum (.flt 9221120237041090560))), (6, .val (IsB false)), (2, .val (Lit (.int .u64 b))), (191, .val (EnvV))]) (nb := []) H28 8 [] rfl (by kernel_rfl) rfl rfl ?_ ?_
        · refine .cons (.plain rfl (ok_load tyV (.tmp 0 rfl))) ?_
          refine .cons (.plain rfl (ok_load tyV (.tmp 0 rfl))) ?_
          refine .cons (.plain rfl (ok_callE ((con_ncmp (.int Y) (.flt 9221120237041090560) trivial hz2).weak (fun v w B h => by rw [show cmpO (whatV (.int Y)) (whatV (.flt 9221120237041090560)) = (0, false) by rw [qw, cmpO_no2]] at h; exact h)) 2 rfl (.cons (.tmp 0 rfl) (.cons (.tmp 1 rfl) (.nil))))) ?_
          refine .cons (.plain rfl (ok_move (.tmp 0 rfl))) ?_
          refine .cons (.plain rfl (ok_extract 0 (.tmp 0 rfl) rfl)) ?_
          refine .cons (.plain rfl (ok_extract 1 (.tmp 0 rfl) rfl)) ?_
          refine .cons (.plain rfl (ok_assign (.tmp 0 rfl))) ?_
          refine .cons (.plain rfl (ok_assign (.tmp 0 rfl))) ?_
          exact .nil
        clear H28 a28 w28 B28
        intro a29 w29 B29 H29
        refine ops_done ?_
        refine then_normal ?_
        refine wp_seq ?_
        refine wp_seq ?_
        refine flow_region (dsts := [some 95, some 96]) (refs := [[.pre 7], [.res 0, .pre 8]]) (outs := [.res 1, .pre 0, .pre 1, .pre 2, .pre 3, .pre 4, .pre 5, .pre 6, .pre 7, .pre 8]) (als := [false, false]) (posts := [.val (Lit (.int .u64 b)), .val (IsB true)])
          (out := [(96, .val (IsB true)), (18, .val (Lit (.int .i64 0))), (19, .val (IsB false)), (16, .val (Lit (.int .i64 0))), (17, .val (IsB false)), (10, .val (Lit (.int .i64 (cmpI X Y)))), (9, .box 37 8 (IsNum (.flt 9221120237041090560))), (6, .val (IsB false)), (2, .val (Lit (.int .u64 b))), (191, .val (EnvV))]) (nb := []) H29 2 [] rfl (by kernel_rfl) rfl rfl ?_ ?_
        · refine .cons (.plain rfl (ok_move (.tmp 0 rfl))) ?_
          refine .cons (.plain rfl (ok_callE ((con_nan15 b hb).weak (fun v w B h => by rw [hn] at h; exact h)) 1 rfl (.cons (.tmp 0 rfl) (.nil)))) ?_
          exact .nil
        clear H29 a29 w29 B29
        intro a30 w30 B30 H30
        refine ops_done ?_
        refine then_normal ?_
        refine f_condT H30 (.tmp 0 rfl) ?_
        refine wp_seq ?_
        refine flow_region (dsts := [some 97, some 98, some 99, some 100, some 101, some 102, some 103, some 104, some 105, some 106, some 107, some 108, some 109, some 110, some 111, some 112, some 113, some 6]) (refs := [[.pre 3], [.res 0], [.res 1], [.res 2, .pre 1], [.res 2, .res 3], [.res 2, .res 4], [.res 5], [.res 6, .pre 4], [.res 6, .res 7], [.res 6, .res 8], [.res 9], [.res 10, .pre 2], [.res 10, .res 11], [.res 10, .res 12], [.res 13], [.res 14, .pre 9], [.res 14, .res 15], [.res 16]]) (outs := [.res 17, .pre 1, .pre 2, .pre 3, .pre 4, .pre 5, .pre 6, .pre 8, .pre 9]) (als := [false, false, false, false, false, false, false, false, false, false, false, false, false, false, false, false, false, false]) (posts := [.val (Lit (.int .i64 0)), .val (IsB true), .val (IsB true), .val (Lit (.int .i64 0)), .val (IsB true), .val (IsB true), .val (IsB true), .val (IsB false), .val (IsB true), .val (IsB true), .val (IsB true), .val (IsB false), .val (IsB true), .val (IsB true), .val (IsB true), .val (IsB true), .val (IsB true), .val (IsB true)])
          (out := [(6, .val (IsB true)), (18, .val (Lit (.int .i64 0))), (19, .val (IsB false)), (16, .val (Lit (.int .i64 0))), (17, .val (IsB false)), (10, .val (Lit (.int .i64 (cmpI X Y)))), (9, .box 37 8 (IsNum (.flt 9221120237041090560))), (2, .val (Lit (.int .u64 b))), (191, .val (EnvV))]) (nb := []) H30 18 [] rfl (by kernel_rfl) rfl rfl ?_ ?_
        · refine .cons (.plain rfl (ok_move (.tmp 0 rfl))) ?_
          refine .cons (.plain rfl (ok_cmp (b := true) (.tmp 0 rfl) (.lit) (by decide))) ?_
          refine .cons (.plain rfl (ok_move (.tmp 0 rfl))) ?_
          refine .cons (.wanted 2 true rfl rfl rfl 0 rfl (ok_move (.tmp 1 rfl))) ?_
          refine .cons (.wanted 2 true rfl rfl rfl 0 rfl (ok_cmp (b := true) (.tmp 1 rfl) (.lit) (by decide))) ?_
          refine .cons (.plain rfl (ok_pickT (.tmp 0 rfl) (.tmp 1 rfl))) ?_
          refine .cons (.plain rfl (ok_move (.tmp 0 rfl))) ?_
          refine .cons (.wanted 6 true rfl rfl rfl 0 rfl (ok_move (.tmp 1 rfl))) ?_
          refine .cons (.wanted 6 true rfl rfl rfl 0 rfl (ok_not (b := false) (.tmp 1 rfl))) ?_
          refine .cons (.plain rfl (ok_pickT (.tmp 0 rfl) (.tmp 1 rfl))) ?_
          refine .cons (.plain rfl (ok_move (.tmp 0 rfl))) ?_
          refine .cons (.wanted 10 true rfl rfl rfl 0 rfl (ok_move (.tmp 1 rfl))) ?_
          refine .cons (.wanted 10 true rfl rfl rfl 0 rfl (ok_not (b := false) (.tmp 1 rfl))) ?_
          refine .cons (.plain rfl (ok_pickT (.tmp 0 rfl) (.tmp 1 rfl))) ?_
          refine .cons (.plain rfl (ok_move (.tmp 0 rfl))) ?_
          refine .cons (.wanted 14 true rfl rfl rfl 0 rfl (ok_callE (con_lives15) 1 rfl (.nil))) ?_
          refine .cons (.plain rfl (ok_pickT (.tmp 0 rfl) (.tmp 1 rfl))) ?_
          refine .cons (.plain rfl (ok_assign (.tmp 0 rfl))) ?_
          exact .nil
        clear H30 a30 w30 B30
        intro a31 w31 B31 H31
        refine ops_done ?_
        refine then_normal ?_
        refine wp_ret ?_
        refine then_ret ?_
        exact f_ret H31 rfl 0 rfl (fun _ _ _ h => h)
      · have hz2 : okNV (.flt b) := qz ▸ ok_of w64 b (by rw [show (2 : Int) ^ 64 = 18446744073709551616 from by decide]; exact hb)
        refine flow_drawT (dsts := [some 36, some 37, some 38, some 39, some 40, some 41, some 7, some 8, some 9]) (refs := [[.pre 7], [.res 0], [.pre 8], [.res 2], [.pre 10], [.res 4, .pre 11], [], [], []]) (outs := [.res 1, .res 3, .res 5, .res 6, .res 7, .res 8, .pre 7, .pre 8, .pre 9, .pre 10, .pre 11]) (als := [false, false, false, false, false, false, true, true, true]) (posts := [.val (IsArg ngx nx xx), .val (IsNum (.int X)), .val (IsArg ngy ny xy), .val (IsNum (.int Y)), .val (Lit (.int .u64 b)), .val (IsNum (.flt b)), .box 37 8 (IsVal 0 0 (IsI 0) 0 0 (⟨#[]⟩) (K0)), .box 37 8 (IsVal 0 0 (IsI 0) 0 0 (⟨#[]⟩) (K0)), .box 37 8 (IsVal 0 0 (IsI 0) 0 0 (⟨#[]⟩) (K0))])
          (out := [(37, .val (IsNum (.int X))), (39, .val (IsNum (.int Y))), (41, .val (IsNum (.flt b))), (7, .box 37 8 (IsVal 0 0 (IsI 0) 0 0 (⟨#[]⟩) (K0))), (8, .box 37 8 (IsVal 0 0 (IsI 0) 0 0 (⟨#[]⟩) (K0))), (9, .box 37 8 (IsVal 0 0 (IsI 0) 0 0 (⟨#[]⟩) (K0))), (3, .box 34 2 (IsArg ngx nx xx)), (4, .box 34 2 (IsArg ngy ny xy)), (6, .val (IsB false)), (2, .val (Lit (.int .u64 b))), (191, .val (EnvV))]) (nb := [7, 8, 9]) H16 (by kernel_rfl) 9 3 #[true, true, true, true, true, true, true, true, true, false, false, false] (by kernel_rfl) (by kernel_rfl) rfl rfl ?_ ?_
        · refine .cons (.plain rfl (ok_load tyI (.tmp 0 rfl))) ?_
          refine .cons (.plain rfl (ok_call (con_ofint X) (.cons (.weak (.tmp 0 rfl) (weakAN (by omega) hX)) (.nil)))) ?_
          refine .cons (.plain rfl (ok_load tyI (.tmp 0 rfl))) ?_
          refine .cons (.plain rfl (ok_call (con_ofint Y) (.cons (.weak (.tmp 0 rfl) (weakAN (by omega) hY)) (.nil)))) ?_
          refine .cons (.plain rfl (ok_move (.tmp 0 rfl))) ?_
          refine .cons (.plain rfl (ok_callE ((con_of64 b hb).weak (fun v w B h => num_eq qz h)) 1 rfl (.cons (.tmp 0 rfl) (.nil)))) ?_
          refine .cons (.plain rfl (ok_allocV)) ?_
          refine .cons (.plain rfl (ok_allocV)) ?_
          refine .cons (.plain rfl (ok_allocV)) ?_
          exact .nil
        clear H16 a16 w16 B16
        intro a32 w32 B32 H32
        simp only [List.cons_append, List.nil_append] at H32
        refine any_oneT (l' := #[true, true, true, true, true, true, true, true, true, true, false, false]) 9 (by kernel_rfl) ?_
        refine store_op (l' := [(37, .val (IsNum (.int X))), (39, .val (IsNum (.int Y))), (41, .val (IsNum (.flt b))), (7, .box 37 8 (IsNum (.int X))), (8, .box 37 8 (IsVal 0 0 (IsI 0) 0 0 (⟨#[]⟩) (K0))), (9, .box 37 8 (IsVal 0 0 (IsI 0) 0 0 (⟨#[]⟩) (K0))), (3, .box 34 2 (IsArg ngx nx xx)), (4, .box 34 2 (IsArg ngy ny xy)), (6, .val (IsB false)), (2, .val (Lit (.int .u64 b))), (191, .val (EnvV))]) 3 H32 rfl tyV rfl (.tmp 0 rfl) (shape_Val shape_I oneK0) shape_Num rfl rfl ?_
        clear H32 w32
        intro w33 H33
        refine any_oneT (l' := #[true, true, true, true, true, true, true, true, true, true, true, false]) 10 (by kernel_rfl) ?_
        refine store_op (l' := [(37, .val (IsNum (.int X))), (39, .val (IsNum (.int Y))), (41, .val (IsNum (.flt b))), (7, .box 37 8 (IsNum (.int X))), (8, .box 37 8 (IsNum (.int Y))), (9, .box 37 8 (IsVal 0 0 (IsI 0) 0 0 (⟨#[]⟩) (K0))), (3, .box 34 2 (IsArg ngx nx xx)), (4, .box 34 2 (IsArg ngy ny xy)), (6, .val (IsB false)), (2, .val (Lit (.int .u64 b))), (191, .val (EnvV))]) 4 H33 rfl tyV rfl (.tmp 1 rfl) (shape_Val shape_I oneK0) shape_Num rfl rfl ?_
        clear H33 w33
        intro w34 H34
        refine any_oneT (l' := #[true, true, true, true, true, true, true, true, true, true, true, true]) 11 (by kernel_rfl) ?_
        refine store_op (l' := [(37, .val (IsNum (.int X))), (39, .val (IsNum (.int Y))), (41, .val (IsNum (.flt b))), (7, .box 37 8 (IsNum (.int X))), (8, .box 37 8 (IsNum (.int Y))), (9, .box 37 8 (IsNum (.flt b))), (3, .box 34 2 (IsArg ngx nx xx)), (4, .box 34 2 (IsArg ngy ny xy)), (6, .val (IsB false)), (2, .val (Lit (.int .u64 b))), (191, .val (EnvV))]) 5 H34 rfl tyV rfl (.tmp 2 rfl) (shape_Val shape_I oneK0) shape_Num rfl rfl ?_
        clear H34 w34
        intro w35 H35
        refine any_done (by kernel_rfl) ?_
        refine then_normal ?_
        refine wp_seq ?_
        refine flow_region (dsts := [some 43, some 44, some 45, some 42, some 46, some 47, some 10, some 11]) (refs := [[.pre 3], [.pre 4], [.res 0, .res 1, .pre 10], [.res 2], [.res 3], [.res 3], [.res 4], [.res 5]]) (outs := [.res 6, .res 7, .pre 3, .pre 4, .pre 5, .pre 6, .pre 7, .pre 8, .pre 9, .pre 10]) (als := [false, false, false, false, false, false, false, false]) (posts := [.val (IsNum (.int X)), .val (IsNum (.int Y)), .val (Tup [Lit (.int .i64 (cmpI X Y)), IsB true]), .val (Tup [Lit (.int .i64 (cmpI X Y)), IsB true]), .val (Lit (.int .i64 (cmpI X Y))), .val (IsB true), .val (Lit (.int .i64 (cmpI X Y))), .val (IsB true)])
          (out := [(10, .val (Lit (.int .i64 (cmpI X Y)))), (11, .val (IsB true)), (7, .box 37 8 (IsNum (.int X))), (8, .box 37 8 (IsNum (.int Y))), (9, .box 37 8 (IsNum (.flt b))), (3, .box 34 2 (IsArg ngx nx xx)), (4, .box 34 2 (IsArg ngy ny xy)), (6, .val (IsB false)), (2, .val (Lit (.int .u64 b))), (191, .val (EnvV))]) (nb := []) H35 8 [] rfl (by kernel_rfl) rfl rfl ?_ ?_
        · refine .cons (.plain rfl (ok_load tyV (.tmp 0 rfl))) ?_
          refine .cons (.plain rfl (ok_load tyV (.tmp 0 rfl))) ?_
          refine .cons (.plain rfl (ok_callE ((con_ncmp (.int X) (.int Y) trivial trivial).weak (fun v w B h => by rw [fin_int X Y] at h; exact h)) 2 rfl (.cons (.tmp 0 rfl) (.cons (.tmp 1 rfl) (.nil))))) ?_
          refine .cons (.plain rfl (ok_move (.tmp 0 rfl))) ?_
          refine .cons (.plain rfl (ok_extract 0 (.tmp 0 rfl) rfl)) ?_
          refine .cons (.plain rfl (ok_extract 1 (.tmp 0 rfl) rfl)) ?_
          refine .cons (.plain rfl (ok_assign (.tmp 0 rfl))) ?_
          refine .cons (.plain rfl (ok_assign (.tmp 0 rfl))) ?_
          exact .nil
        clear H35 a32 w35 B32
        intro a36 w36 B36 H36
        refine ops_done ?_
        refine then_normal ?_
        refine wp_seq ?_
        refine wp_seq ?_
        refine flow_region (dsts := [some 48, some 49, some 50, some 51, some 52, some 53, some 54, some 55, some 56]) (refs := [[.pre 1], [.res 0], [.res 1], [.res 2, .pre 0], [.res 2, .pre 5], [.res 2, .pre 6], [.res 2, .res 4, .res 5], [.res 2, .res 3, .res 6], [.res 2, .res 7]]) (outs := [.res 8, .pre 0, .pre 2, .pre 3, .pre 4, .pre 7, .pre 8, .pre 9]) (als := [false, false, false, false, false, false, false, false, false]) (posts := [.val (IsB true), .val (IsB false), .val (IsB false), .val (Lit (.int .i64 (cmpI X Y))), .val (IsArg ngx nx xx), .val (IsArg ngy ny xy), .val (Lit (.int .i64 (cmpI X Y))), .val (IsB false), .val (IsB false)])
          (out := [(56, .val (IsB false)), (10, .val (Lit (.int .i64 (cmpI X Y)))), (7, .box 37 8 (IsNum (.int X))), (8, .box 37 8 (IsNum (.int Y))), (9, .box 37 8 (IsNum (.flt b))), (6, .val (IsB false)), (2, .val (Lit (.int .u64 b))), (191, .val (EnvV))]) (nb := []) H36 9 [] rfl (by kernel_rfl) rfl rfl ?_ ?_
        · refine .cons (.plain rfl (ok_move (.tmp 0 rfl))) ?_
          refine .cons (.plain rfl (ok_not (b := true) (.tmp 0 rfl))) ?_
          refine .cons (.plain rfl (ok_move (.tmp 0 rfl))) ?_
          refine .cons (.wanted 2 false rfl rfl rfl 0 rfl (ok_move (.tmp 1 rfl))) ?_
          refine .cons (.wanted 2 false rfl rfl rfl 0 rfl (ok_load tyI (.tmp 1 rfl))) ?_
          refine .cons (.wanted 2 false rfl rfl rfl 0 rfl (ok_load tyI (.tmp 1 rfl))) ?_
          refine .cons (.wanted 2 false rfl rfl rfl 0 rfl (ok_call (con_cmp X Y) (.cons (.weak (.tmp 1 rfl) (weakAN (by omega) hX)) (.cons (.weak (.tmp 2 rfl) (weakAN (by omega) hY)) (.nil))))) ?_
          refine .cons (.wanted 2 false rfl rfl rfl 0 rfl (ok_cmp (b := false) (.tmp 1 rfl) (.tmp 2 rfl) ((decide_eq_false (fun h => h rfl)).symm))) ?_
          refine .cons (.plain rfl (ok_pickF (.tmp 0 rfl) (.tmp 1 rfl))) ?_
          exact .nil
        clear H36 a36 w36 B36
        intro a37 w37 B37 H37
        refine ops_done ?_
        refine then_normal ?_
        refine f_condF H37 (.tmp 0 rfl) ?_
        refine wp_skip ?_
        refine then_normal ?_
        refine wp_seq ?_
        refine flow_drawT (dsts := [some 58, some 59, some 60, some 57, some 61, some 62, some 12, some 13]) (refs := [[.pre 2], [.pre 7], [.res 0, .res 1, .pre 7], [.res 2], [.res 3], [.res 3], [.res 4], [.res 5]]) (outs := [.res 6, .res 7, .pre 1, .pre 2, .pre 3, .pre 4, .pre 5, .pre 6, .pre 7]) (als := [false, false, false, false, false, false, false, false]) (posts := [.val (IsNum (.int X)), .val (IsNum (.flt 18442240474082181120)), .val (Tup [Lit (.int .i64 1), IsB true]), .val (Tup [Lit (.int .i64 1), IsB true]), .val (Lit (.int .i64 1)), .val (IsB true), .val (Lit (.int .i64 1)), .val (IsB true)])
          (out := [(12, .val (Lit (.int .i64 1))), (13, .val (IsB true)), (10, .val (Lit (.int .i64 (cmpI X Y)))), (7, .box 37 8 (IsNum (.int X))), (8, .box 37 8 (IsNum (.int Y))), (9, .box 37 8 (IsNum (.flt b))), (6, .val (IsB false)), (2, .val (Lit (.int .u64 b))), (191, .val (EnvV))]) (nb := []) H37 (by kernel_rfl) 8 0 #[true, true, true, true, true, true, true, true] (by kernel_rfl) (by kernel_rfl) rfl rfl ?_ ?_
        · refine .cons (.plain rfl (ok_load tyV (.tmp 0 rfl))) ?_
          refine .cons (.plain rfl (ok_callE ((con_of64 18442240474082181120 (by omega)).weak (fun v w B h => num_eq ninf_of h)) 0 rfl (.cons (.lit) (.nil)))) ?_
          refine .cons (.plain rfl (ok_callE ((con_ncmp (.int X) (.flt 18442240474082181120) trivial ninf_ok).weak (fun v w B h => by rw [ninf_cmp X] at h; exact h)) 2 rfl (.cons (.tmp 0 rfl) (.cons (.tmp 1 rfl) (.nil))))) ?_
          refine .cons (.plain rfl (ok_move (.tmp 0 rfl))) ?_
          refine .cons (.plain rfl (ok_extract 0 (.tmp 0 rfl) rfl)) ?_
          refine .cons (.plain rfl (ok_extract 1 (.tmp 0 rfl) rfl)) ?_
          refine .cons (.plain rfl (ok_assign (.tmp 0 rfl))) ?_
          refine .cons (.plain rfl (ok_assign (.tmp 0 rfl))) ?_
          exact .nil
        clear H37 a37 w37 B37
        intro a38 w38 B38 H38
        refine any_done (by kernel_rfl) ?_
        refine then_normal ?_
        refine wp_seq ?_
        refine flow_drawT (dsts := [some 64, some 65, some 66, some 63, some 67, some 68, some 14, some 15]) (refs := [[.pre 3], [.pre 8], [.res 0, .res 1, .pre 8], [.res 2], [.res 3], [.res 3], [.res 4], [.res 5]]) (outs := [.res 6, .res 7, .pre 0, .pre 1, .pre 2, .pre 3, .pre 4, .pre 5, .pre 6, .pre 7, .pre 8]) (als := [false, false, false, false, false, false, false, false]) (posts := [.val (IsNum (.int X)), .val (IsNum (.flt 9218868437227405312)), .val (Tup [Lit (.int .i64 (-1)), IsB true]), .val (Tup [Lit (.int .i64 (-1)), IsB true]), .val (Lit (.int .i64 (-1))), .val (IsB true), .val (Lit (.int .i64 (-1))), .val (IsB true)])
          (out := [(14, .val (Lit (.int .i64 (-1)))), (15, .val (IsB true)), (12, .val (Lit (.int .i64 1))), (13, .val (IsB true)), (10, .val (Lit (.int .i64 (cmpI X Y)))), (7, .box 37 8 (IsNum (.int X))), (8, .box 37 8 (IsNum (.int Y))), (9, .box 37 8 (IsNum (.flt b))), (6, .val (IsB false)), (2, .val (Lit (.int .u64 b))), (191, .val (EnvV))]) (nb := []) H38 (by kernel_rfl) 8 0 #[true, true, true, true, true, true, true, true] (by kernel_rfl) (by kernel_rfl) rfl rfl ?_ ?_
        · refine .cons (.plain rfl (ok_load tyV (.tmp 0 rfl))) ?_
          refine .cons (.plain rfl (ok_callE ((con_of32 2139095040 (by omega)).weak (fun v w B h => num_eq inf_of h)) 0 rfl (.cons (.lit) (.nil)))) ?_
          refine .cons (.plain rfl (ok_callE ((con_ncmp (.int X) (.flt 9218868437227405312) trivial inf_ok).weak (fun v w B h => by rw [inf_cmp X] at h; exact h)) 2 rfl (.cons (.tmp 0 rfl) (.cons (.tmp 1 rfl) (.nil))))) ?_
          refine .cons (.plain rfl (ok_move (.tmp 0 rfl))) ?_
          refine .cons (.plain rfl (ok_extract 0 (.tmp 0 rfl) rfl)) ?_
          refine .cons (.plain rfl (ok_extract 1 (.tmp 0 rfl) rfl)) ?_
          refine .cons (.plain rfl (ok_assign (.tmp 0 rfl))) ?_
          refine .cons (.plain rfl (ok_assign (.tmp 0 rfl))) ?_
          exact .nil
        clear H38 a38 w38 B38
        intro a39 w39 B39 H39
        refine any_done (by kernel_rfl) ?_
        refine then_normal ?_
        refine wp_seq ?_
        refine wp_seq ?_
        refine flow_region (dsts := [some 69, some 70, some 71, some 72, some 73, some 74, some 75, some 76, some 77, some 78, some 79, some 80, some 81, some 82]) (refs := [[.pre 2], [.res 0], [.res 1], [.res 2, .pre 0], [.res 2, .res 3], [.res 2, .res 4], [.res 5], [.res 6, .pre 3], [.res 6, .res 7], [.res 6, .res 8], [.res 9], [.res 10, .pre 1], [.res 10, .res 11], [.res 10, .res 12]]) (outs := [.res 13, .pre 4, .pre 5, .pre 6, .pre 7, .pre 8, .pre 9, .pre 10]) (als := [false, false, false, false, false, false, false, false, false, false, false, false, false, false]) (posts := [.val (Lit (.int .i64 1)), .val (IsB false), .val (IsB false), .val (Lit (.int .i64 (-1))), .val (IsB false), .val (IsB false), .val (IsB false), .val (IsB true), .val (IsB false), .val (IsB false), .val (IsB false), .val (IsB true), .val (IsB false), .val (IsB false)])
          (out := [(82, .val (IsB false)), (10, .val (Lit (.int .i64 (cmpI X Y)))), (7, .box 37 8 (IsNum (.int X))), (8, .box 37 8 (IsNum (.int Y))), (9, .box 37 8 (IsNum (.flt b))), (6, .val (IsB false)), (2, .val (Lit (.int .u64 b))), (191, .val (EnvV))]) (nb := []) H39 14 [] rfl (by kernel_rfl) rfl rfl ?_ ?_
        · refine .cons (.plain rfl (ok_move (.tmp 0 rfl))) ?_
          refine .cons (.plain rfl (ok_cmp (b := false) (.tmp 0 rfl) (.lit) (by decide))) ?_
          refine .cons (.plain rfl (ok_move (.tmp 0 rfl))) ?_
          refine .cons (.wanted 2 false rfl rfl rfl 0 rfl (ok_move (.tmp 1 rfl))) ?_
          refine .cons (.wanted 2 false rfl rfl rfl 0 rfl (ok_cmp (b := false) (.tmp 1 rfl) (.lit) (by decide))) ?_
          refine .cons (.plain rfl (ok_pickF (.tmp 0 rfl) (.tmp 1 rfl))) ?_
          refine .cons (.plain rfl (ok_move (.tmp 0 rfl))) ?_
          refine .cons (.wanted 6 false rfl rfl rfl 0 rfl (ok_move (.tmp 1 rfl))) ?_
          refine .cons (.wanted 6 false rfl rfl rfl 0 rfl (ok_not (b := true) (.tmp 1 rfl))) ?_
          refine .cons (.plain rfl (ok_pickF (.tmp 0 rfl) (.tmp 1 rfl))) ?_
          refine .cons (.plain rfl (ok_move (.tmp 0 rfl))) ?_
          refine .cons (.wanted 10 false rfl rfl rfl 0 rfl (ok_move (.tmp 1 rfl))) ?_
          refine .cons (.wanted 10 false rfl rfl rfl 0 rfl (ok_not (b := true) (.tmp 1 rfl))) ?_
          refine .cons (.plain rfl (ok_pickF (.tmp 0 rfl) (.tmp 1 rfl))) ?_
          exact .nil
        clear H39 a39 w39 B39
        intro a40 w40 B40 H40
        refine ops_done ?_
        refine then_normal ?_
        refine f_condF H40 (.tmp 0 rfl) ?_
        refine wp_skip ?_
        refine then_normal ?_
        refine wp_seq ?_
        refine flow_region (dsts := [some 84, some 85, some 86, some 83, some 87, some 88, some 16, some 17]) (refs := [[.pre 2], [.pre 4], [.res 0, .res 1, .pre 7], [.res 2], [.res 3], [.res 3], [.res 4], [.res 5]]) (outs := [.res 6, .res 7, .pre 1, .pre 3, .pre 4, .pre 5, .pre 6, .pre 7]) (als := [false, false, false, false, false, false, false, false]) (posts := [.val (IsNum (.int X)), .val (IsNum (.flt b)), .val (Tup [Lit (.int .i64 (clampI (0 - sideI b))), IsB true]), .val (Tup [Lit (.int .i64 (clampI (0 - sideI b))), IsB true]), .val (Lit (.int .i64 (clampI (0 - sideI b)))), .val (IsB true), .val (Lit (.int .i64 (clampI (0 - sideI b)))), .val (IsB true)])
          (out := [(16, .val (Lit (.int .i64 (clampI (0 - sideI b))))), (17, .val (IsB true)), (10, .val (Lit (.int .i64 (cmpI X Y)))), (8, .box 37 8 (IsNum (.int Y))), (9, .box 37 8 (IsNum (.flt b))), (6, .val (IsB false)), (2, .val (Lit (.int .u64 b))), (191, .val (EnvV))]) (nb := []) H40 8 [] rfl (by kernel_rfl) rfl rfl ?_ ?_
        · refine .cons (.plain rfl (ok_load tyV (.tmp 0 rfl))) ?_
          refine .cons (.plain rfl (ok_load tyV (.tmp 0 rfl))) ?_
          refine .cons (.plain rfl (ok_callE ((con_ncmp (.int X) (.flt b) trivial hz2).weak (fun v w B h => by rw [show cmpO (whatV (.int X)) (whatV (.flt b)) = (clampI (0 - sideI b), true) by rw [qw]; exact end_int _ _] at h; exact h)) 2 rfl (.cons (.tmp 0 rfl) (.cons (.tmp 1 rfl) (.nil))))) ?_
          refine .cons (.plain rfl (ok_move (.tmp 0 rfl))) ?_
          refine .cons (.plain rfl (ok_extract 0 (.tmp 0 rfl) rfl)) ?_
          refine .cons (.plain rfl (ok_extract 1 (.tmp 0 rfl) rfl)) ?_
          refine .cons (.plain rfl (ok_assign (.tmp 0 rfl))) ?_
          refine .cons (.plain rfl (ok_assign (.tmp 0 rfl))) ?_
          exact .nil
        clear H40 a40 w40 B40
        intro a41 w41 B41 H41
        refine ops_done ?_
        refine then_normal ?_
        refine wp_seq ?_
        refine flow_region (dsts := [some 90, some 91, some 92, some 89, some 93, some 94, some 18, some 19]) (refs := [[.pre 3], [.pre 4], [.res 0, .res 1, .pre 7], [.res 2], [.res 3], [.res 3], [.res 4], [.res 5]]) (outs := [.res 6, .res 7, .pre 0, .pre 1, .pre 2, .pre 4, .pre 5, .pre 6, .pre 7]) (als := [false, false, false, false, false, false, false, false]) (posts := [.val (IsNum (.int Y)), .val (IsNum (.flt b)), .val (Tup [Lit (.int .i64 (clampI (0 - sideI b))), IsB true]), .val (Tup [Lit (.int .i64 (clampI (0 - sideI b))), IsB true]), .val (Lit (.int .i64 (clampI (0 - sideI b)))), .val (IsB true), .val (Lit (.int .i64 (clampI (0 - sideI b)))), .val (IsB true)])
          (out := [(18, .val (Lit (.int .i64 (clampI (0 - sideI b))))), (19, .val (IsB true)), (16, .val (Lit (.int .i64 (clampI (0 - sideI b))))), (17, .val (IsB true)), (10, .val (Lit (.int .i64 (cmpI X Y)))), (9, .box 37 8 (IsNum (.flt b))), (6, .val (IsB false)), (2, .val (Lit (.int .u64 b))), (191, .val (EnvV))]) (nb := []) H41 8 [] rfl (by kernel_rfl) rfl rfl ?_ ?_
        · refine .cons (.plain rfl (ok_load tyV (.tmp 0 rfl))) ?_
          refine .cons (.plain rfl (ok_load tyV (.tmp 0 rfl))) ?_
          refine .cons (.plain rfl (ok_callE ((con_ncmp (.int Y) (.flt b) trivial hz2).weak (fun v w B h => by rw [show cmpO (whatV (.int Y)) (whatV (.flt b)) = (clampI (0 - sideI b), true) by rw [qw]; exact end_int _ _] at h; exact h)) 2 rfl (.cons (.tmp 0 rfl) (.cons (.tmp 1 rfl) (.nil))))) ?_
          refine .cons (.plain rfl (ok_move (.tmp 0 rfl))) ?_
          refine .cons (.plain rfl (ok_extract 0 (.tmp 0 rfl) rfl)) ?_
          refine .cons (.plain rfl (ok_extract 1 (.tmp 0 rfl) rfl)) ?_
          refine .cons (.plain rfl (ok_assign (.tmp 0 rfl))) ?_
          refine .cons (.plain rfl (ok_assign (.tmp 0 rfl))) ?_
          exact .nil
        clear H41 a41 w41 B41
        intro a42 w42 B42 H42
        refine ops_done ?_
        refine then_normal ?_
        refine wp_seq ?_
        refine wp_seq ?_
        refine flow_region (dsts := [some 95, some 96]) (refs := [[.pre 7], [.res 0, .pre 8]]) (outs := [.res 1, .pre 0, .pre 1, .pre 2, .pre 3, .pre 4, .pre 5, .pre 6, .pre 7, .pre 8]) (als := [false, false]) (posts := [.val (Lit (.int .u64 b)), .val (IsB false)])
          (out := [(96, .val (IsB false)), (18, .val (Lit (.int .i64 (clampI (0 - sideI b))))), (19, .val (IsB true)), (16, .val (Lit (.int .i64 (clampI (0 - sideI b))))), (17, .val (IsB true)), (10, .val (Lit (.int .i64 (cmpI X Y)))), (9, .box 37 8 (IsNum (.flt b))), (6, .val (IsB false)), (2, .val (Lit (.int .u64 b))), (191, .val (EnvV))]) (nb := []) H42 2 [] rfl (by kernel_rfl) rfl rfl ?_ ?_
        · refine .cons (.plain rfl (ok_move (.tmp 0 rfl))) ?_
          refine .cons (.plain rfl (ok_callE ((con_nan15 b hb).weak (fun v w B h => by rw [hn] at h; exact h)) 1 rfl (.cons (.tmp 0 rfl) (.nil)))) ?_
          exact .nil
        clear H42 a42 w42 B42
        intro a43 w43 B43 H43
        refine ops_done ?_
        refine then_normal ?_
        refine f_condF H43 (.tmp 0 rfl) ?_
        refine wp_skip ?_
        refine then_normal ?_
        refine wp_seq ?_
        refine wp_seq ?_
        refine flow_region (dsts := [some 114, some 115, some 116, some 117, some 118, some 119, some 120, some 121, some 122, some 123, some 124, some 125, some 126, some 127, some 128, some 129, some 130, some 131, some 132, some 133, some 134, some 135, some 136, some 137, some 138, some 139, some 140, some 141, some 142, some 143]) (refs := [[.pre 4], [.res 0], [.res 1], [.res 2, .pre 2], [.res 2, .res 3], [.res 2, .res 4], [.res 5], [.res 6, .pre 3], [.res 6, .res 7], [.res 6, .res 8], [.res 9, .pre 1], [.res 9, .res 10], [.res 6, .res 9, .res 11], [.res 6, .res 12], [.res 13, .pre 5], [.res 13, .res 14], [.res 6, .res 13, .res 15], [.res 6, .res 16], [.res 17], [.res 18, .pre 3], [.res 18, .res 19], [.res 18, .res 20], [.res 21, .pre 1], [.res 21, .res 22], [.res 18, .res 21, .res 23], [.res 18, .res 24], [.res 25, .pre 5], [.res 25, .res 26], [.res 18, .res 25, .res 27], [.res 18, .res 28]]) (outs := [.res 29, .pre 6, .pre 7, .pre 8, .pre 9]) (als := [false, false, false, false, false, false, false, false, false, false, false, false, false, false, false, false, false, false, false, false, false, false, false, false, false, false, false, false, false, false]) (posts := [.val (IsB true), .val (IsB false), .val (IsB false), .val (IsB true), .val (IsB false), .val (IsB false), .val (IsB false), .val (Lit (.int .i64 (clampI (0 - sideI b)))), .val (IsB (decide (clampI (0 - sideI b) ≤ 0))), .val (IsB (decide (clampI (0 - sideI b) ≤ 0))), .val (Grd ((decide (clampI (0 - sideI b) ≤ 0)) == true) (Lit (.int .i64 (clampI (0 - sideI b))))), .val (Grd ((decide (clampI (0 - sideI b) ≤ 0)) == true) (IsB (decide (0 ≤ clampI (0 - sideI b))))), .val (IsB ((decide (clampI (0 - sideI b) ≤ 0)) && (decide (0 ≤ clampI (0 - sideI b))))), .val (IsB ((decide (clampI (0 - sideI b) ≤ 0)) && (decide (0 ≤ clampI (0 - sideI b))))), .val (Grd (((decide (clampI (0 - sideI b) ≤ 0)) && (decide (0 ≤ clampI (0 - sideI b)))) == true) (Lit (.int .i64 (cmpI X Y)))), .val (Grd (((decide (clampI (0 - sideI b) ≤ 0)) && (decide (0 ≤ clampI (0 - sideI b)))) == true) (IsB (decide (0 < cmpI X Y)))), .val (IsB false), .val (IsB false), .val (IsB false), .val (Lit (.int .i64 (clampI (0 - sideI b)))), .val (IsB (decide (clampI (0 - sideI b) < 0))), .val (IsB (decide (clampI (0 - sideI b) < 0))), .val (Grd ((decide (clampI (0 - sideI b) < 0)) == true) (Lit (.int .i64 (clampI (0 - sideI b))))), .val (Grd ((decide (clampI (0 - sideI b) < 0)) == true) (IsB (decide (0 ≤ clampI (0 - sideI b))))), .val (IsB ((decide (clampI (0 - sideI b) < 0)) && (decide (0 ≤ clampI (0 - sideI b))))), .val (IsB ((decide (clampI (0 - sideI b) < 0)) && (decide (0 ≤ clampI (0 - sideI b))))), .val (Grd (((decide (clampI (0 - sideI b) < 0)) && (decide (0 ≤ clampI (0 - sideI b)))) == true) (Lit (.int .i64 (cmpI X Y)))), .val (Grd (((decide (clampI (0 - sideI b) < 0)) && (decide (0 ≤ clampI (0 - sideI b)))) == true) (IsB (decide (0 ≤ cmpI X Y)))), .val (IsB false), .val (IsB false)])
          (out := [(143, .val (IsB false)), (9, .box 37 8 (IsNum (.flt b))), (6, .val (IsB false)), (2, .val (Lit (.int .u64 b))), (191, .val (EnvV))]) (nb := []) H43 30 [] rfl (by kernel_rfl) rfl rfl ?_ ?_
        · refine .cons (.plain rfl (ok_move (.tmp 0 rfl))) ?_
          refine .cons (.plain rfl (ok_not (b := true) (.tmp 0 rfl))) ?_
          refine .cons (.plain rfl (ok_move (.tmp 0 rfl))) ?_
          refine .cons (.wanted 2 false rfl rfl rfl 0 rfl (ok_move (.tmp 1 rfl))) ?_
          refine .cons (.wanted 2 false rfl rfl rfl 0 rfl (ok_not (b := true) (.tmp 1 rfl))) ?_
          refine .cons (.plain rfl (ok_pickF (.tmp 0 rfl) (.tmp 1 rfl))) ?_
          refine .cons (.plain rfl (ok_move (.tmp 0 rfl))) ?_
          refine .cons (.wanted 6 false rfl rfl rfl 0 rfl (ok_move (.tmp 1 rfl))) ?_
          refine .cons (.wanted 6 false rfl rfl rfl 0 rfl (ok_cmp (.tmp 1 rfl) (.lit) rfl)) ?_
          refine .cons (.wanted 6 false rfl rfl rfl 0 rfl (ok_move (.tmp 1 rfl))) ?_
          refine .cons (.sym 9 true (decide (clampI (0 - sideI b) ≤ 0)) ((decide (clampI (0 - sideI b) ≤ 0)) == true) rfl rfl rfl 0 (need' := [(123, .val (IsB (decide (clampI (0 - sideI b) ≤ 0)))), (18, .val (Lit (.int .i64 (clampI (0 - sideI b)))))]) rfl rfl (fun a w B e h => ⟨h.1, h.2.1, trivial⟩) (fun e => ok_move (.tmp 1 rfl))) ?_
          refine .cons (.sym 9 true (decide (clampI (0 - sideI b) ≤ 0)) ((decide (clampI (0 - sideI b) ≤ 0)) == true) rfl rfl rfl 0 (need' := [(123, .val (IsB (decide (clampI (0 - sideI b) ≤ 0)))), (124, .val (Lit (.int .i64 (clampI (0 - sideI b)))))]) rfl rfl (fun a w B e h => ⟨h.1, h.2.1.1 (e), trivial⟩) (fun e => ok_cmp (.tmp 1 rfl) (.lit) rfl)) ?_
          refine .cons (.wanted 6 false rfl rfl rfl 0 rfl (ok_pickS (decide (clampI (0 - sideI b) ≤ 0)) (.tmp 1 rfl) (fun e => Opd.eqB (Opd.grd (.tmp 2 rfl) (by first | (rw [e]; rfl) | (simp only [e]; rfl) | (simp [*] at *; done))) (by rw [e]; rfl)) (fun e => Opd.eqB (.lit) (by rw [e]; rfl)))) ?_
          refine .cons (.wanted 6 false rfl rfl rfl 0 rfl (ok_move (.tmp 1 rfl))) ?_
          refine .cons (.sym 13 true ((decide (clampI (0 - sideI b) ≤ 0)) && (decide (0 ≤ clampI (0 - sideI b)))) (((decide (clampI (0 - sideI b) ≤ 0)) && (decide (0 ≤ clampI (0 - sideI b)))) == true) rfl rfl rfl 0 (need' := [(127, .val (IsB ((decide (clampI (0 - sideI b) ≤ 0)) && (decide (0 ≤ clampI (0 - sideI b)))))), (10, .val (Lit (.int .i64 (cmpI X Y))))]) rfl rfl (fun a w B e h => ⟨h.1, h.2.1, trivial⟩) (fun e => ok_move (.tmp 1 rfl))) ?_
          refine .cons (.sym 13 true ((decide (clampI (0 - sideI b) ≤ 0)) && (decide (0 ≤ clampI (0 - sideI b)))) (((decide (clampI (0 - sideI b) ≤ 0)) && (decide (0 ≤ clampI (0 - sideI b)))) == true) rfl rfl rfl 0 (need' := [(127, .val (IsB ((decide (clampI (0 - sideI b) ≤ 0)) && (decide (0 ≤ clampI (0 - sideI b)))))), (128, .val (Lit (.int .i64 (cmpI X Y))))]) rfl rfl (fun a w B e h => ⟨h.1, h.2.1.1 (e), trivial⟩) (fun e => ok_cmp (.tmp 1 rfl) (.lit) rfl)) ?_
          refine .cons (.wanted 6 false rfl rfl rfl 0 rfl (OpOk.eqB (b := ((decide (clampI (0 - sideI b) ≤ 0)) && (decide (0 ≤ clampI (0 - sideI b)))) && (decide (0 < cmpI X Y))) (ok_pickS ((decide (clampI (0 - sideI b) ≤ 0)) && (decide (0 ≤ clampI (0 - sideI b)))) (.tmp 1 rfl) (fun e => Opd.eqB (Opd.grd (.tmp 2 rfl) (by first | (rw [e]; rfl) | (simp only [e]; rfl) | (simp [*] at *; done))) (by rw [e]; rfl)) (fun e => Opd.eqB (.lit) (by rw [e]; rfl))) (end_tri _ _))) ?_
          refine .cons (.plain rfl (ok_pickF (.tmp 0 rfl) (.tmp 1 rfl))) ?_
          refine .cons (.plain rfl (ok_move (.tmp 0 rfl))) ?_
          refine .cons (.wanted 18 false rfl rfl rfl 0 rfl (ok_move (.tmp 1 rfl))) ?_
          refine .cons (.wanted 18 false rfl rfl rfl 0 rfl (ok_cmp (.tmp 1 rfl) (.lit) rfl)) ?_
          refine .cons (.wanted 18 false rfl rfl rfl 0 rfl (ok_move (.tmp 1 rfl))) ?_
          refine .cons (.sym 21 true (decide (clampI (0 - sideI b) < 0)) ((decide (clampI (0 - sideI b) < 0)) == true) rfl rfl rfl 0 (need' := [(135, .val (IsB (decide (clampI (0 - sideI b) < 0)))), (18, .val (Lit (.int .i64 (clampI (0 - sideI b)))))]) rfl rfl (fun a w B e h => ⟨h.1, h.2.1, trivial⟩) (fun e => ok_move (.tmp 1 rfl))) ?_
          refine .cons (.sym 21 true (decide (clampI (0 - sideI b) < 0)) ((decide (clampI (0 - sideI b) < 0)) == true) rfl rfl rfl 0 (need' := [(135, .val (IsB (decide (clampI (0 - sideI b) < 0)))), (136, .val (Lit (.int .i64 (clampI (0 - sideI b)))))]) rfl rfl (fun a w B e h => ⟨h.1, h.2.1.1 (e), trivial⟩) (fun e => ok_cmp (.tmp 1 rfl) (.lit) rfl)) ?_
          refine .cons (.wanted 18 false rfl rfl rfl 0 rfl (ok_pickS (decide (clampI (0 - sideI b) < 0)) (.tmp 1 rfl) (fun e => Opd.eqB (Opd.grd (.tmp 2 rfl) (by first | (rw [e]; rfl) | (simp only [e]; rfl) | (simp [*] at *; done))) (by rw [e]; rfl)) (fun e => Opd.eqB (.lit) (by rw [e]; rfl)))) ?_
          refine .cons (.wanted 18 false rfl rfl rfl 0 rfl (ok_move (.tmp 1 rfl))) ?_
          refine .cons (.sym 25 true ((decide (clampI (0 - sideI b) < 0)) && (decide (0 ≤ clampI (0 - sideI b)))) (((decide (clampI (0 - sideI b) < 0)) && (decide (0 ≤ clampI (0 - sideI b)))) == true) rfl rfl rfl 0 (need' := [(139, .val (IsB ((decide (clampI (0 - sideI b) < 0)) && (decide (0 ≤ clampI (0 - sideI b)))))), (10, .val (Lit (.int .i64 (cmpI X Y))))]) rfl rfl (fun a w B e h => ⟨h.1, h.2.1, trivial⟩) (fun e => ok_move (.tmp 1 rfl))) ?_
          refine .cons (.sym 25 true ((decide (clampI (0 - sideI b) < 0)) && (decide (0 ≤ clampI (0 - sideI b)))) (((decide (clampI (0 - sideI b) < 0)) && (decide (0 ≤ clampI (0 - sideI b)))) == true) rfl rfl rfl 0 (need' := [(139, .val (IsB ((decide (clampI (0 - sideI b) < 0)) && (decide (0 ≤ clampI (0 - sideI b)))))), (140, .val (Lit (.int .i64 (cmpI X Y))))]) rfl rfl (fun a w B e h => ⟨h.1, h.2.1.1 (e), trivial⟩) (fun e => ok_cmp (.tmp 1 rfl) (.lit) rfl)) ?_
          refine .cons (.wanted 18 false rfl rfl rfl 0 rfl (OpOk.eqB (b := ((decide (clampI (0 - sideI b) < 0)) && (decide (0 ≤ clampI (0 - sideI b)))) && (decide (0 ≤ cmpI X Y))) (ok_pickS ((decide (clampI (0 - sideI b) < 0)) && (decide (0 ≤ clampI (0 - sideI b)))) (.tmp 1 rfl) (fun e => Opd.eqB (Opd.grd (.tmp 2 rfl) (by first | (rw [e]; rfl) | (simp only [e]; rfl) | (simp [*] at *; done))) (by rw [e]; rfl)) (fun e => Opd.eqB (.lit) (by rw [e]; rfl))) (end_tri2 _ _))) ?_
          refine .cons (.plain rfl (ok_pickF (.tmp 0 rfl) (.tmp 1 rfl))) ?_
          exact .nil
        clear H43 a43 w43 B43
        intro a44 w44 B44 H44
        refine ops_done ?_
        refine then_normal ?_
        refine f_condF H44 (.tmp 0 rfl) ?_
        refine wp_skip ?_
        refine then_normal ?_
        refine wp_seq ?_
        refine wp_seq ?_
        refine flow_region (dsts := [some 144, some 145, some 146, some 147, some 148, some 149, some 150, some 151]) (refs := [[.pre 1], [.res 0], [.res 1], [.res 2], [.res 3, .pre 3], [.res 3, .res 4, .pre 4], [.res 3, .res 5], [.res 3, .res 6]]) (outs := [.res 7, .pre 1, .pre 2, .pre 3, .pre 4]) (als := [false, false, false, false, false, false, false, false]) (posts := [.ptr 37 8 (IsNum (.flt b)) 0, .val (Lit (.int .i8 4)), .val (IsB true), .val (IsB true), .val (Lit (.int .u64 b)), .val (Lit (.int .i8 (clsW 64 b))), .val (IsB false), .val (IsB false)])
          (out := [(151, .val (IsB false)), (9, .box 37 8 (IsNum (.flt b))), (6, .val (IsB false)), (2, .val (Lit (.int .u64 b))), (191, .val (EnvV))]) (nb := []) H44 8 [] rfl (by kernel_rfl) rfl rfl ?_ ?_
        · refine .cons (.plain rfl (ok_addrV0 (.tmp 0 rfl))) ?_
          refine .cons (.plain rfl (ok_loadV0 (.tmp 0 rfl))) ?_
          refine .cons (.plain rfl (ok_cmp (b := true) (.tmp 0 rfl) (.lit) (by decide))) ?_
          refine .cons (.plain rfl (ok_move (.tmp 0 rfl))) ?_
          refine .cons (.wanted 3 true rfl rfl rfl 0 rfl (ok_move (.tmp 1 rfl))) ?_
          refine .cons (.wanted 3 true rfl rfl rfl 0 rfl (ok_callE (con_class64 b hb) 2 rfl (.cons (.tmp 1 rfl) (.nil)))) ?_
          refine .cons (.wanted 3 true rfl rfl rfl 0 rfl (ok_cmp (b := false) (.tmp 1 rfl) (.lit) ((decide_eq_false (fun h => h hc)).symm))) ?_
          refine .cons (.plain rfl (ok_pickT (.tmp 0 rfl) (.tmp 1 rfl))) ?_
          exact .nil
        clear H44 a44 w44 B44
        intro a45 w45 B45 H45
        refine ops_done ?_
        refine then_normal ?_
        refine f_condF H45 (.tmp 0 rfl) ?_
        refine wp_skip ?_
        refine then_normal ?_
        refine wp_seq ?_
        refine flow_region (dsts := [some 190, some 6]) (refs := [[.pre 4], [.res 0]]) (outs := [.res 1, .pre 4]) (als := [false, false]) (posts := [.val (IsB true), .val (IsB true)])
          (out := [(6, .val (IsB true)), (191, .val (EnvV))]) (nb := []) H45 2 [] rfl (by kernel_rfl) rfl rfl ?_ ?_
        · refine .cons (.plain rfl (ok_callE (con_lives15) 0 rfl (.nil))) ?_
          refine .cons (.plain rfl (ok_assign (.tmp 0 rfl))) ?_
          exact .nil
        clear H45 a45 w45 B45
        intro a46 w46 B46 H46
        refine ops_done ?_
        refine then_normal ?_
        refine wp_ret ?_
        exact f_ret H46 rfl 0 rfl (fun _ _ _ h => h)
      · refine flow_drawT (dsts := [some 36, some 37, some 38, some 39, some 40, some 41, some 7, some 8, some 9]) (refs := [[.pre 7], [.res 0], [.pre 8], [.res 2], [.pre 10], [.res 4, .pre 11], [], [], []]) (outs := [.res 1, .res 3, .res 5, .res 6, .res 7, .res 8, .pre 7, .pre 8, .pre 9, .pre 10, .pre 11]) (als := [false, false, false, false, false, false, true, true, true]) (posts := [.val (IsArg ngx nx xx), .val (IsNum (.int X)), .val (IsArg ngy ny xy), .val (IsNum (.int Y)), .val (Lit (.int .u64 b)), .val (IsNum (.int N)), .box 37 8 (IsVal 0 0 (IsI 0) 0 0 (⟨#[]⟩) (K0)), .box 37 8 (IsVal 0 0 (IsI 0) 0 0 (⟨#[]⟩) (K0)), .box 37 8 (IsVal 0 0 (IsI 0) 0 0 (⟨#[]⟩) (K0))])
          (out := [(37, .val (IsNum (.int X))), (39, .val (IsNum (.int Y))), (41, .val (IsNum (.int N))), (7, .box 37 8 (IsVal 0 0 (IsI 0) 0 0 (⟨#[]⟩) (K0))), (8, .box 37 8 (IsVal 0 0 (IsI 0) 0 0 (⟨#[]⟩) (K0))), (9, .box 37 8 (IsVal 0 0 (IsI 0) 0 0 (⟨#[]⟩) (K0))), (3, .box 34 2 (IsArg ngx nx xx)), (4, .box 34 2 (IsArg ngy ny xy)), (6, .val (IsB false)), (2, .val (Lit (.int .u64 b))), (191, .val (EnvV))]) (nb := [7, 8, 9]) H16 (by kernel_rfl) 9 3 #[true, true, true, true, true, true, true, true, true, false, false, false] (by kernel_rfl) (by kernel_rfl) rfl rfl ?_ ?_
        · refine .cons (.plain rfl (ok_load tyI (.tmp 0 rfl))) ?_
          refine .cons (.plain rfl (ok_call (con_ofint X) (.cons (.weak (.tmp 0 rfl) (weakAN (by omega) hX)) (.nil)))) ?_
          refine .cons (.plain rfl (ok_load tyI (.tmp 0 rfl))) ?_
          refine .cons (.plain rfl (ok_call (con_ofint Y) (.cons (.weak (.tmp 0 rfl) (weakAN (by omega) hY)) (.nil)))) ?_
          refine .cons (.plain rfl (ok_move (.tmp 0 rfl))) ?_
          refine .cons (.plain rfl (ok_callE ((con_of64 b hb).weak (fun v w B h => num_eq qz h)) 1 rfl (.cons (.tmp 0 rfl) (.nil)))) ?_
          refine .cons (.plain rfl (ok_allocV)) ?_
          refine .cons (.plain rfl (ok_allocV)) ?_
          refine .cons (.plain rfl (ok_allocV)) ?_
          exact .nil
        clear H16 a16 w16 B16
        intro a47 w47 B47 H47
        simp only [List.cons_append, List.nil_append] at H47
        refine any_oneT (l' := #[true, true, true, true, true, true, true, true, true, true, false, false]) 9 (by kernel_rfl) ?_
        refine store_op (l' := [(37, .val (IsNum (.int X))), (39, .val (IsNum (.int Y))), (41, .val (IsNum (.int N))), (7, .box 37 8 (IsNum (.int X))), (8, .box 37 8 (IsVal 0 0 (IsI 0) 0 0 (⟨#[]⟩) (K0))), (9, .box 37 8 (IsVal 0 0 (IsI 0) 0 0 (⟨#[]⟩) (K0))), (3, .box 34 2 (IsArg ngx nx xx)), (4, .box 34 2 (IsArg ngy ny xy)), (6, .val (IsB false)), (2, .val (Lit (.int .u64 b))), (191, .val (EnvV))]) 3 H47 rfl tyV rfl (.tmp 0 rfl) (shape_Val shape_I oneK0) shape_Num rfl rfl ?_
        clear H47 w47
        intro w48 H48
        refine any_oneT (l' := #[true, true, true, true, true, true, true, true, true, true, true, false]) 10 (by kernel_rfl) ?_
        refine store_op (l' := [(37, .val (IsNum (.int X))), (39, .val (IsNum (.int Y))), (41, .val (IsNum (.int N))), (7, .box 37 8 (IsNum (.int X))), (8, .box 37 8 (IsNum (.int Y))), (9, .box 37 8 (IsVal 0 0 (IsI 0) 0 0 (⟨#[]⟩) (K0))), (3, .box 34 2 (IsArg ngx nx xx)), (4, .box 34 2 (IsArg ngy ny xy)), (6, .val (IsB false)), (2, .val (Lit (.int .u64 b))), (191, .val (EnvV))]) 4 H48 rfl tyV rfl (.tmp 1 rfl) (shape_Val shape_I oneK0) shape_Num rfl rfl ?_
        clear H48 w48
        intro w49 H49
        refine any_oneT (l' := #[true, true, true, true, true, true, true, true, true, true, true, true]) 11 (by kernel_rfl) ?_
        refine store_op (l' := [(37, .val (IsNum (.int X))), (39, .val (IsNum (.int Y))), (41, .val (IsNum (.int N))), (7, .box 37 8 (IsNum (.int X))), (8, .box 37 8 (IsNum (.int Y))), (9, .box 37 8 (IsNum (.int N))), (3, .box 34 2 (IsArg ngx nx xx)), (4, .box 34 2 (IsArg ngy ny xy)), (6, .val (IsB false)), (2, .val (Lit (.int .u64 b))), (191, .val (EnvV))]) 5 H49 rfl tyV rfl (.tmp 2 rfl) (shape_Val shape_I oneK0) shape_Num rfl rfl ?_
        clear H49 w49
        intro w50 H50
        refine any_done (by kernel_rfl) ?_
        refine then_normal ?_
        refine wp_seq ?_
        refine flow_region (dsts := [some 43, some 44, some 45, some 42, some 46, some 47, some 10, some 11]) (refs := [[.pre 3], [.pre 4], [.res 0, .res 1, .pre 10], [.res 2], [.res 3], [.res 3], [.res 4], [.res 5]]) (outs := [.res 6, .res 7, .pre 3, .pre 4, .pre 5, .pre 6, .pre 7, .pre 8, .pre 9, .pre 10]) (als := [false, false, false, false, false, false, false, false]) (posts := [.val (IsNum (.int X)), .val (IsNum (.int Y)), .val (Tup [Lit (.int .i64 (cmpI X Y)), IsB true]), .val (Tup [Lit (.int .i64 (cmpI X Y)), IsB true]), .val (Lit (.int .i64 (cmpI X Y))), .val (IsB true), .val (Lit (.int .i64 (cmpI X Y))), .val (IsB true)])
          (out := [(10, .val (Lit (.int .i64 (cmpI X Y)))), (11, .val (IsB true)), (7, .box 37 8 (IsNum (.int X))), (8, .box 37 8 (IsNum (.int Y))), (9, .box 37 8 (IsNum (.int N))), (3, .box 34 2 (IsArg ngx nx xx)), (4, .box 34 2 (IsArg ngy ny xy)), (6, .val (IsB false)), (2, .val (Lit (.int .u64 b))), (191, .val (EnvV))]) (nb := []) H50 8 [] rfl (by kernel_rfl) rfl rfl ?_ ?_
        · refine .cons (.plain rfl (ok_load tyV (.tmp 0 rfl))) ?_
          refine .cons (.plain rfl (ok_load tyV (.tmp 0 rfl))) ?_
          refine .cons (.plain rfl (ok_callE ((con_ncmp (.int X) (.int Y) trivial trivial).weak (fun v w B h => by rw [fin_int X Y] at h; exact h)) 2 rfl (.cons (.tmp 0 rfl) (.cons (.tmp 1 rfl) (.nil))))) ?_
          refine .cons (.plain rfl (ok_move (.tmp 0 rfl))) ?_
          refine .cons (.plain rfl (ok_extract 0 (.tmp 0 rfl) rfl)) ?_
          refine .cons (.plain rfl (ok_extract 1 (.tmp 0 rfl) rfl)) ?_
          refine .cons (.plain rfl (ok_assign (.tmp 0 rfl))) ?_
          refine .cons (.plain rfl (ok_assign (.tmp 0 rfl))) ?_
          exact .nil
        clear H50 a47 w50 B47
        intro a51 w51 B51 H51
        refine ops_done ?_
        refine then_normal ?_
        refine wp_seq ?_
        refine wp_seq ?_
        refine flow_region (dsts := [some 48, some 49, some 50, some 51, some 52, some 53, some 54, some 55, some 56]) (refs := [[.pre 1], [.res 0], [.res 1], [.res 2, .pre 0], [.res 2, .pre 5], [.res 2, .pre 6], [.res 2, .res 4, .res 5], [.res 2, .res 3, .res 6], [.res 2, .res 7]]) (outs := [.res 8, .pre 0, .pre 2, .pre 3, .pre 4, .pre 7, .pre 8, .pre 9]) (als := [false, false, false, false, false, false, false, false, false]) (posts := [.val (IsB true), .val (IsB false), .val (IsB false), .val (Lit (.int .i64 (cmpI X Y))), .val (IsArg ngx nx xx), .val (IsArg ngy ny xy), .val (Lit (.int .i64 (cmpI X Y))), .val (IsB false), .val (IsB false)])
          (out := [(56, .val (IsB false)), (10, .val (Lit (.int .i64 (cmpI X Y)))), (7, .box 37 8 (IsNum (.int X))), (8, .box 37 8 (IsNum (.int Y))), (9, .box 37 8 (IsNum (.int N))), (6, .val (IsB false)), (2, .val (Lit (.int .u64 b))), (191, .val (EnvV))]) (nb := []) H51 9 [] rfl (by kernel_rfl) rfl rfl ?_ ?_
        · refine .cons (.plain rfl (ok_move (.tmp 0 rfl))) ?_
          refine .cons (.plain rfl (ok_not (b := true) (.tmp 0 rfl))) ?_
          refine .cons (.plain rfl (ok_move (.tmp 0 rfl))) ?_
          refine .cons (.wanted 2 false rfl rfl rfl 0 rfl (ok_move (.tmp 1 rfl))) ?_
          refine .cons (.wanted 2 false rfl rfl rfl 0 rfl (ok_load tyI (.tmp 1 rfl))) ?_
          refine .cons (.wanted 2 false rfl rfl rfl 0 rfl (ok_load tyI (.tmp 1 rfl))) ?_
          refine .cons (.wanted 2 false rfl rfl rfl 0 rfl (ok_call (con_cmp X Y) (.cons (.weak (.tmp 1 rfl) (weakAN (by omega) hX)) (.cons (.weak (.tmp 2 rfl) (weakAN (by omega) hY)) (.nil))))) ?_
          refine .cons (.wanted 2 false rfl rfl rfl 0 rfl (ok_cmp (b := false) (.tmp 1 rfl) (.tmp 2 rfl) ((decide_eq_false (fun h => h rfl)).symm))) ?_
          refine .cons (.plain rfl (ok_pickF (.tmp 0 rfl) (.tmp 1 rfl))) ?_
          exact .nil
        clear H51 a51 w51 B51
        intro a52 w52 B52 H52
        refine ops_done ?_
        refine then_normal ?_
        refine f_condF H52 (.tmp 0 rfl) ?_
        refine wp_skip ?_
        refine then_normal ?_
        refine wp_seq ?_
        refine flow_drawT (dsts := [some 58, some 59, some 60, some 57, some 61, some 62, some 12, some 13]) (refs := [[.pre 2], [.pre 7], [.res 0, .res 1, .pre 7], [.res 2], [.res 3], [.res 3], [.res 4], [.res 5]]) (outs := [.res 6, .res 7, .pre 1, .pre 2, .pre 3, .pre 4, .pre 5, .pre 6, .pre 7]) (als := [false, false, false, false, false, false, false, false]) (posts := [.val (IsNum (.int X)), .val (IsNum (.flt 18442240474082181120)), .val (Tup [Lit (.int .i64 1), IsB true]), .val (Tup [Lit (.int .i64 1), IsB true]), .val (Lit (.int .i64 1)), .val (IsB true), .val (Lit (.int .i64 1)), .val (IsB true)])
          (out := [(12, .val (Lit (.int .i64 1))), (13, .val (IsB true)), (10, .val (Lit (.int .i64 (cmpI X Y)))), (7, .box 37 8 (IsNum (.int X))), (8, .box 37 8 (IsNum (.int Y))), (9, .box 37 8 (IsNum (.int N))), (6, .val (IsB false)), (2, .val (Lit (.int .u64 b))), (191, .val (EnvV))]) (nb := []) H52 (by kernel_rfl) 8 0 #[true, true, true, true, true, true, true, true] (by kernel_rfl) (by kernel_rfl) rfl rfl ?_ ?_
        · refine .cons (.plain rfl (ok_load tyV (.tmp 0 rfl))) ?_
          refine .cons (.plain rfl (ok_callE ((con_of64 18442240474082181120 (by omega)).weak (fun v w B h => num_eq ninf_of h)) 0 rfl (.cons (.lit) (.nil)))) ?_
          refine .cons (.plain rfl (ok_callE ((con_ncmp (.int X) (.flt 18442240474082181120) trivial ninf_ok).weak (fun v w B h => by rw [ninf_cmp X] at h; exact h)) 2 rfl (.cons (.tmp 0 rfl) (.cons (.tmp 1 rfl) (.nil))))) ?_
          refine .cons (.plain rfl (ok_move (.tmp 0 rfl))) ?_
          refine .cons (.plain rfl (ok_extract 0 (.tmp 0 rfl) rfl)) ?_
          refine .cons (.plain rfl (ok_extract 1 (.tmp 0 rfl) rfl)) ?_
          refine .cons (.plain rfl (ok_assign (.tmp 0 rfl))) ?_
          refine .cons (.plain rfl (ok_assign (.tmp 0 rfl))) ?_
          exact .nil
        clear H52 a52 w52 B52
        intro a53 w53 B53 H53
        refine any_done (by kernel_rfl) ?_
        refine then_normal ?_
        refine wp_seq ?_
        refine flow_drawT (dsts := [some 64, some 65, some 66, some 63, some 67, some 68, some 14, some 15]) (refs := [[.pre 3], [.pre 8], [.res 0, .res 1, .pre 8], [.res 2], [.res 3], [.res 3], [.res 4], [.res 5]]) (outs := [.res 6, .res 7, .pre 0, .pre 1, .pre 2, .pre 3, .pre 4, .pre 5, .pre 6, .pre 7, .pre 8]) (als := [false, false, false, false, false, false, false, false]) (posts := [.val (IsNum (.int X)), .val (IsNum (.flt 9218868437227405312)), .val (Tup [Lit (.int .i64 (-1)), IsB true]), .val (Tup [Lit (.int .i64 (-1)), IsB true]), .val (Lit (.int .i64 (-1))), .val (IsB true), .val (Lit (.int .i64 (-1))), .val (IsB true)])
          (out := [(14, .val (Lit (.int .i64 (-1)))), (15, .val (IsB true)), (12, .val (Lit (.int .i64 1))), (13, .val (IsB true)), (10, .val (Lit (.int .i64 (cmpI X Y)))), (7, .box 37 8 (IsNum (.int X))), (8, .box 37 8 (IsNum (.int Y))), (9, .box 37 8 (IsNum (.int N))), (6, .val (IsB false)), (2, .val (Lit (.int .u64 b))), (191, .val (EnvV))]) (nb := []) H53 (by kernel_rfl) 8 0 #[true, true, true, true, true, true, true, true] (by kernel_rfl) (by kernel_rfl) rfl rfl ?_ ?_
        · refine .cons (.plain rfl (ok_load tyV (.tmp 0 rfl))) ?_
          refine .cons (.plain rfl (ok_callE ((con_of32 2139095040 (by omega)).weak (fun v w B h => num_eq inf_of h)) 0 rfl (.cons (.lit) (.nil)))) ?_
          refine .cons (.plain rfl (ok_callE ((con_ncmp (.int X) (.flt 9218868437227405312) trivial inf_ok).weak (fun v w B h => by rw [inf_cmp X] at h; exact h)) 2 rfl (.cons (.tmp 0 rfl) (.cons (.tmp 1 rfl) (.nil))))) ?_
          refine .cons (.plain rfl (ok_move (.tmp 0 rfl))) ?_
          refine .cons (.plain rfl (ok_extract 0 (.tmp 0 rfl) rfl)) ?_
          refine .cons (.plain rfl (ok_extract 1 (.tmp 0 rfl) rfl)) ?_
          refine .cons (.plain rfl (ok_assign (.tmp 0 rfl))) ?_
          refine .cons (.plain rfl (ok_assign (.tmp 0 rfl))) ?_
          exact .nil
        clear H53 a53 w53 B53
        intro a54 w54 B54 H54
        refine any_done (by kernel_rfl) ?_
        refine then_normal ?_
        refine wp_seq ?_
        refine wp_seq ?_
        refine flow_region (dsts := [some 69, some 70, some 71, some 72, some 73, some 74, some 75, some 76, some 77, some 78, some 79, some 80, some 81, some 82]) (refs := [[.pre 2], [.res 0], [.res 1], [.res 2, .pre 0], [.res 2, .res 3], [.res 2, .res 4], [.res 5], [.res 6, .pre 3], [.res 6, .res 7], [.res 6, .res 8], [.res 9], [.res 10, .pre 1], [.res 10, .res 11], [.res 10, .res 12]]) (outs := [.res 13, .pre 4, .pre 5, .pre 6, .pre 7, .pre 8, .pre 9, .pre 10]) (als := [false, false, false, false, false, false, false, false, false, false, false, false, false, false]) (posts := [.val (Lit (.int .i64 1)), .val (IsB false), .val (IsB false), .val (Lit (.int .i64 (-1))), .val (IsB false), .val (IsB false), .val (IsB false), .val (IsB true), .val (IsB false), .val (IsB false), .val (IsB false), .val (IsB true), .val (IsB false), .val (IsB false)])
          (out := [(82, .val (IsB false)), (10, .val (Lit (.int .i64 (cmpI X Y)))), (7, .box 37 8 (IsNum (.int X))), (8, .box 37 8 (IsNum (.int Y))), (9, .box 37 8 (IsNum (.int N))), (6, .val (IsB false)), (2, .val (Lit (.int .u64 b))), (191, .val (EnvV))]) (nb := []) H54 14 [] rfl (by kernel_rfl) rfl rfl ?_ ?_
        · refine .cons (.plain rfl (ok_move (.tmp 0 rfl))) ?_
          refine .cons (.plain rfl (ok_cmp (b := false) (.tmp 0 rfl) (.lit) (by decide))) ?_
          refine .cons (.plain rfl (ok_move (.tmp 0 rfl))) ?_
          refine .cons (.wanted 2 false rfl rfl rfl 0 rfl (ok_move (.tmp 1 rfl))) ?_
          refine .cons (.wanted 2 false rfl rfl rfl 0 rfl (ok_cmp (b := false) (.tmp 1 rfl) (.lit) (by decide))) ?_
          refine .cons (.plain rfl (ok_pickF (.tmp 0 rfl) (.tmp 1 rfl))) ?_
          refine .cons (.plain rfl (ok_move (.tmp 0 rfl))) ?_
          refine .cons (.wanted 6 false rfl rfl rfl 0 rfl (ok_move (.tmp 1 rfl))) ?_
          refine .cons (.wanted 6 false rfl rfl rfl 0 rfl (ok_not (b := true) (.tmp 1 rfl))) ?_
          refine .cons (.plain rfl (ok_pickF (.tmp 0 rfl) (.tmp 1 rfl))) ?_
          refine .cons (.plain rfl (ok_move (.tmp 0 rfl))) ?_
          refine .cons (.wanted 10 false rfl rfl rfl 0 rfl (ok_move (.tmp 1 rfl))) ?_
          refine .cons (.wanted 10 false rfl rfl rfl 0 rfl (ok_not (b := true) (.tmp 1 rfl))) ?_
          refine .cons (.plain rfl (ok_pickF (.tmp 0 rfl) (.tmp 1 rfl))) ?_
          exact .nil
        clear H54 a54 w54 B54
        intro a55 w55 B55 H55
        refine ops_done ?_
        refine then_normal ?_
        refine f_condF H55 (.tmp 0 rfl) ?_
        refine wp_skip ?_
        refine then_normal ?_
        refine wp_seq ?_
        refine flow_region (dsts := [some 84, some 85, some 86, some 83, some 87, some 88, some 16, some 17]) (refs := [[.pre 2], [.pre 4], [.res 0, .res 1, .pre 7], [.res 2], [.res 3], [.res 3], [.res 4], [.res 5]]) (outs := [.res 6, .res 7, .pre 1, .pre 3, .pre 4, .pre 5, .pre 6, .pre 7]) (als := [false, false, false, false, false, false, false, false]) (posts := [.val (IsNum (.int X)), .val (IsNum (.int N)), .val (Tup [Lit (.int .i64 (cmpI X N)), IsB true]), .val (Tup [Lit (.int .i64 (cmpI X N)), IsB true]), .val (Lit (.int .i64 (cmpI X N))), .val (IsB true), .val (Lit (.int .i64 (cmpI X N))), .val (IsB true)])
          (out := [(16, .val (Lit (.int .i64 (cmpI X N)))), (17, .val (IsB true)), (10, .val (Lit (.int .i64 (cmpI X Y)))), (8, .box 37 8 (IsNum (.int Y))), (9, .box 37 8 (IsNum (.int N))), (6, .val (IsB false)), (2, .val (Lit (.int .u64 b))), (191, .val (EnvV))]) (nb := []) H55 8 [] rfl (by kernel_rfl) rfl rfl ?_ ?_
        · refine .cons (.plain rfl (ok_load tyV (.tmp 0 rfl))) ?_
          refine .cons (.plain rfl (ok_load tyV (.tmp 0 rfl))) ?_
          refine .cons (.plain rfl (ok_callE ((con_ncmp (.int X) (.int N) trivial trivial).weak (fun v w B h => by rw [fin_int X N] at h; exact h)) 2 rfl (.cons (.tmp 0 rfl) (.cons (.tmp 1 rfl) (.nil))))) ?_
          refine .cons (.plain rfl (ok_move (.tmp 0 rfl))) ?_
          refine .cons (.plain rfl (ok_extract 0 (.tmp 0 rfl) rfl)) ?_
          refine .cons (.plain rfl (ok_extract 1 (.tmp 0 rfl) rfl)) ?_
          refine .cons (.plain rfl (ok_assign (.tmp 0 rfl))) ?_
          refine .cons (.plain rfl (ok_assign (.tmp 0 rfl))) ?_
          exact .nil
        clear H55 a55 w55 B55
        intro a56 w56 B56 H56
        refine ops_done ?_
        refine then_normal ?_
        refine wp_seq ?_
        refine flow_region (dsts := [some 90, some 91, some 92, some 89, some 93, some 94, some 18, some 19]) (refs := [[.pre 3], [.pre 4], [.res 0, .res 1, .pre 7], [.res 2], [.res 3], [.res 3], [.res 4], [.res 5]]) (outs := [.res 6, .res 7, .pre 0, .pre 1, .pre 2, .pre 4, .pre 5, .pre 6, .pre 7]) (als := [false, false, false, false, false, false, false, false]) (posts := [.val (IsNum (.int Y)), .val (IsNum (.int N)), .val (Tup [Lit (.int .i64 (cmpI Y N)), IsB true]), .val (Tup [Lit (.int .i64 (cmpI Y N)), IsB true]), .val (Lit (.int .i64 (cmpI Y N))), .val (IsB true), .val (Lit (.int .i64 (cmpI Y N))), .val (IsB true)])
          (out := [(18, .val (Lit (.int .i64 (cmpI Y N)))), (19, .val (IsB true)), (16, .val (Lit (.int .i64 (cmpI X N)))), (17, .val (IsB true)), (10, .val (Lit (.int .i64 (cmpI X Y)))), (9, .box 37 8 (IsNum (.int N))), (6, .val (IsB false)), (2, .val (Lit (.int .u64 b))), (191, .val (EnvV))]) (nb := []) H56 8 [] rfl (by kernel_rfl) rfl rfl ?_ ?_
        · refine .cons (.plain rfl (ok_load tyV (.tmp 0 rfl))) ?_
          refine .cons (.plain rfl (ok_load tyV (.tmp 0 rfl))) ?_
          refine .cons (.plain rfl (ok_callE ((con_ncmp (.int Y) (.int N) trivial trivial).weak (fun v w B h => by rw [fin_int Y N] at h; exact h)) 2 rfl (.cons (.tmp 0 rfl) (.cons (.tmp 1 rfl) (.nil))))) ?_
          refine .cons (.plain rfl (ok_move (.tmp 0 rfl))) ?_
          refine .cons (.plain rfl (ok_extract 0 (.tmp 0 rfl) rfl)) ?_
          refine .cons (.plain rfl (ok_extract 1 (.tmp 0 rfl) rfl)) ?_
          refine .cons (.plain rfl (ok_assign (.tmp 0 rfl))) ?_
          refine .cons (.plain rfl (ok_assign (.tmp 0 rfl))) ?_
          exact .nil
        clear H56 a56 w56 B56
        intro a57 w57 B57 H57
        refine ops_done ?_
        refine then_normal ?_
        refine wp_seq ?_
        refine wp_seq ?_
        refine flow_region (dsts := [some 95, some 96]) (refs := [[.pre 7], [.res 0, .pre 8]]) (outs := [.res 1, .pre 0, .pre 1, .pre 2, .pre 3, .pre 4, .pre 5, .pre 6, .pre 7, .pre 8]) (als := [false, false]) (posts := [.val (Lit (.int .u64 b)), .val (IsB false)])
          (out := [(96, .val (IsB false)), (18, .val (Lit (.int .i64 (cmpI Y N)))), (19, .val (IsB true)), (16, .val (Lit (.int .i64 (cmpI X N)))), (17, .val (IsB true)), (10, .val (Lit (.int .i64 (cmpI X Y)))), (9, .box 37 8 (IsNum (.int N))), (6, .val (IsB false)), (2, .val (Lit (.int .u64 b))), (191, .val (EnvV))]) (nb := []) H57 2 [] rfl (by kernel_rfl) rfl rfl ?_ ?_
        · refine .cons (.plain rfl (ok_move (.tmp 0 rfl))) ?_
          refine .cons (.plain rfl (ok_callE ((con_nan15 b hb).weak (fun v w B h => by rw [hn] at h; exact h)) 1 rfl (.cons (.tmp 0 rfl) (.nil)))) ?_
          exact .nil
        clear H57 a57 w57 B57
        intro a58 w58 B58 H58
        refine ops_done ?_
        refine then_normal ?_
        refine f_condF H58 (.tmp 0 rfl) ?_
        refine wp_skip ?_
        refine then_normal ?_
        refine wp_seq ?_
        refine wp_seq ?_
        refine flow_region (dsts := [some 114, some 115, some 116, some 117, some 118, some 119, some 120, some 121, some 122, some 123, some 124, some 125, some 126, some 127, some 128, some 129, some 130, some 131, some 132, some 133, some 134, some 135, some 136, some 137, some 138, some 139, some 140, some 141, some 142, some 143]) (refs := [[.pre 4], [.res 0], [.res 1], [.res 2, .pre 2], [.res 2, .res 3], [.res 2, .res 4], [.res 5], [.res 6, .pre 3], [.res 6, .res 7], [.res 6, .res 8], [.res 9, .pre 1], [.res 9, .res 10], [.res 6, .res 9, .res 11], [.res 6, .res 12], [.res 13, .pre 5], [.res 13, .res 14], [.res 6, .res 13, .res 15], [.res 6, .res 16], [.res 17], [.res 18, .pre 3], [.res 18, .res 19], [.res 18, .res 20], [.res 21, .pre 1], [.res 21, .res 22], [.res 18, .res 21, .res 23], [.res 18, .res 24], [.res 25, .pre 5], [.res 25, .res 26], [.res 18, .res 25, .res 27], [.res 18, .res 28]]) (outs := [.res 29, .pre 6, .pre 7, .pre 8, .pre 9]) (als := [false, false, false, false, false, false, false, false, false, false, false, false, false, false, false, false, false, false, false, false, false, false, false, false, false, false, false, false, false, false]) (posts := [.val (IsB true), .val (IsB false), .val (IsB false), .val (IsB true), .val (IsB false), .val (IsB false), .val (IsB false), .val (Lit (.int .i64 (cmpI X N))), .val (IsB (decide (cmpI X N ≤ 0))), .val (IsB (decide (cmpI X N ≤ 0))), .val (Grd ((decide (cmpI X N ≤ 0)) == true) (Lit (.int .i64 (cmpI Y N)))), .val (Grd ((decide (cmpI X N ≤ 0)) == true) (IsB (decide (0 ≤ cmpI Y N)))), .val (IsB ((decide (cmpI X N ≤ 0)) && (decide (0 ≤ cmpI Y N)))), .val (IsB ((decide (cmpI X N ≤ 0)) && (decide (0 ≤ cmpI Y N)))), .val (Grd (((decide (cmpI X N ≤ 0)) && (decide (0 ≤ cmpI Y N))) == true) (Lit (.int .i64 (cmpI X Y)))), .val (Grd (((decide (cmpI X N ≤ 0)) && (decide (0 ≤ cmpI Y N))) == true) (IsB (decide (0 < cmpI X Y)))), .val (IsB false), .val (IsB false), .val (IsB false), .val (Lit (.int .i64 (cmpI X N))), .val (IsB (decide (cmpI X N < 0))), .val (IsB (decide (cmpI X N < 0))), .val (Grd ((decide (cmpI X N < 0)) == true) (Lit (.int .i64 (cmpI Y N)))), .val (Grd ((decide (cmpI X N < 0)) == true) (IsB (decide (0 ≤ cmpI Y N)))), .val (IsB ((decide (cmpI X N < 0)) && (decide (0 ≤ cmpI Y N)))), .val (IsB ((decide (cmpI X N < 0)) && (decide (0 ≤ cmpI Y N)))), .val (Grd (((decide (cmpI X N < 0)) && (decide (0 ≤ cmpI Y N))) == true) (Lit (.int .i64 (cmpI X Y)))), .val (Grd (((decide (cmpI X N < 0)) && (decide (0 ≤ cmpI Y N))) == true) (IsB (decide (0 ≤ cmpI X Y)))), .val (IsB false), .val (IsB false)])
          (out := [(143, .val (IsB false)), (9, .box 37 8 (IsNum (.int N))), (6, .val (IsB false)), (2, .val (Lit (.int .u64 b))), (191, .val (EnvV))]) (nb := []) H58 30 [] rfl (by kernel_rfl) rfl rfl ?_ ?_
        · refine .cons (.plain rfl (ok_move (.tmp 0 rfl))) ?_
          refine .cons (.plain rfl (ok_not (b := true) (.tmp 0 rfl))) ?_
          refine .cons (.plain rfl (ok_move (.tmp 0 rfl))) ?_
          refine .cons (.wanted 2 false rfl rfl rfl 0 rfl (ok_move (.tmp 1 rfl))) ?_
          refine .cons (.wanted 2 false rfl rfl rfl 0 rfl (ok_not (b := true) (.tmp 1 rfl))) ?_
          refine .cons (.plain rfl (ok_pickF (.tmp 0 rfl) (.tmp 1 rfl))) ?_
          refine .cons (.plain rfl (ok_move (.tmp 0 rfl))) ?_
          refine .cons (.wanted 6 false rfl rfl rfl 0 rfl (ok_move (.tmp 1 rfl))) ?_
          refine .cons (.wanted 6 false rfl rfl rfl 0 rfl (ok_cmp (.tmp 1 rfl) (.lit) rfl)) ?_
          refine .cons (.wanted 6 false rfl rfl rfl 0 rfl (ok_move (.tmp 1 rfl))) ?_
          refine .cons (.sym 9 true (decide (cmpI X N ≤ 0)) ((decide (cmpI X N ≤ 0)) == true) rfl rfl rfl 0 (need' := [(123, .val (IsB (decide (cmpI X N ≤ 0)))), (18, .val (Lit (.int .i64 (cmpI Y N))))]) rfl rfl (fun a w B e h => ⟨h.1, h.2.1, trivial⟩) (fun e => ok_move (.tmp 1 rfl))) ?_
          refine .cons (.sym 9 true (decide (cmpI X N ≤ 0)) ((decide (cmpI X N ≤ 0)) == true) rfl rfl rfl 0 (need' := [(123, .val (IsB (decide (cmpI X N ≤ 0)))), (124, .val (Lit (.int .i64 (cmpI Y N))))]) rfl rfl (fun a w B e h => ⟨h.1, h.2.1.1 (e), trivial⟩) (fun e => ok_cmp (.tmp 1 rfl) (.lit) rfl)) ?_
          refine .cons (.wanted 6 false rfl rfl rfl 0 rfl (ok_pickS (decide (cmpI X N ≤ 0)) (.tmp 1 rfl) (fun e => Opd.eqB (Opd.grd (.tmp 2 rfl) (by first | (rw [e]; rfl) | (simp only [e]; rfl) | (simp [*] at *; done))) (by rw [e]; rfl)) (fun e => Opd.eqB (.lit) (by rw [e]; rfl)))) ?_
          refine .cons (.wanted 6 false rfl rfl rfl 0 rfl (ok_move (.tmp 1 rfl))) ?_
          refine .cons (.sym 13 true ((decide (cmpI X N ≤ 0)) && (decide (0 ≤ cmpI Y N))) (((decide (cmpI X N ≤ 0)) && (decide (0 ≤ cmpI Y N))) == true) rfl rfl rfl 0 (need' := [(127, .val (IsB ((decide (cmpI X N ≤ 0)) && (decide (0 ≤ cmpI Y N))))), (10, .val (Lit (.int .i64 (cmpI X Y))))]) rfl rfl (fun a w B e h => ⟨h.1, h.2.1, trivial⟩) (fun e => ok_move (.tmp 1 rfl))) ?_
          refine .cons (.sym 13 true ((decide (cmpI X N ≤ 0)) && (decide (0 ≤ cmpI Y N))) (((decide (cmpI X N ≤ 0)) && (decide (0 ≤ cmpI Y N))) == true) rfl rfl rfl 0 (need' := [(127, .val (IsB ((decide (cmpI X N ≤ 0)) && (decide (0 ≤ cmpI Y N))))), (128, .val (Lit (.int .i64 (cmpI X Y))))]) rfl rfl (fun a w B e h => ⟨h.1, h.2.1.1 (e), trivial⟩) (fun e => ok_cmp (.tmp 1 rfl) (.lit) rfl)) ?_
          refine .cons (.wanted 6 false rfl rfl rfl 0 rfl (OpOk.eqB (b := ((decide (cmpI X N ≤ 0)) && (decide (0 ≤ cmpI Y N))) && (decide (0 < cmpI X Y))) (ok_pickS ((decide (cmpI X N ≤ 0)) && (decide (0 ≤ cmpI Y N))) (.tmp 1 rfl) (fun e => Opd.eqB (Opd.grd (.tmp 2 rfl) (by first | (rw [e]; rfl) | (simp only [e]; rfl) | (simp [*] at *; done))) (by rw [e]; rfl)) (fun e => Opd.eqB (.lit) (by rw [e]; rfl))) (tri1 X Y N))) ?_
          refine .cons (.plain rfl (ok_pickF (.tmp 0 rfl) (.tmp 1 rfl))) ?_
          refine .cons (.plain rfl (ok_move (.tmp 0 rfl))) ?_
          refine .cons (.wanted 18 false rfl rfl rfl 0 rfl (ok_move (.tmp 1 rfl))) ?_
          refine .cons (.wanted 18 false rfl rfl rfl 0 rfl (ok_cmp (.tmp 1 rfl) (.lit) rfl)) ?_
          refine .cons (.wanted 18 false rfl rfl rfl 0 rfl (ok_move (.tmp 1 rfl))) ?_
          refine .cons (.sym 21 true (decide (cmpI X N < 0)) ((decide (cmpI X N < 0)) == true) rfl rfl rfl 0 (need' := [(135, .val (IsB (decide (cmpI X N < 0)))), (18, .val (Lit (.int .i64 (cmpI Y N))))]) rfl rfl (fun a w B e h => ⟨h.1, h.2.1, trivial⟩) (fun e => ok_move (.tmp 1 rfl))) ?_
          refine .cons (.sym 21 true (decide (cmpI X N < 0)) ((decide (cmpI X N < 0)) == true) rfl rfl rfl 0 (need' := [(135, .val (IsB (decide (cmpI X N < 0)))), (136, .val (Lit (.int .i64 (cmpI Y N))))]) rfl rfl (fun a w B e h => ⟨h.1, h.2.1.1 (e), trivial⟩) (fun e => ok_cmp (.tmp 1 rfl) (.lit) rfl)) ?_
          refine .cons (.wanted 18 false rfl rfl rfl 0 rfl (ok_pickS (decide (cmpI X N < 0)) (.tmp 1 rfl) (fun e => Opd.eqB (Opd.grd (.tmp 2 rfl) (by first | (rw [e]; rfl) | (simp only [e]; rfl) | (simp [*] at *; done))) (by rw [e]; rfl)) (fun e => Opd.eqB (.lit) (by rw [e]; rfl)))) ?_
          refine .cons (.wanted 18 false rfl rfl rfl 0 rfl (ok_move (.tmp 1 rfl))) ?_
          refine .cons (.sym 25 true ((decide (cmpI X N < 0)) && (decide (0 ≤ cmpI Y N))) (((decide (cmpI X N < 0)) && (decide (0 ≤ cmpI Y N))) == true) rfl rfl rfl 0 (need' := [(139, .val (IsB ((decide (cmpI X N < 0)) && (decide (0 ≤ cmpI Y N))))), (10, .val (Lit (.int .i64 (cmpI X Y))))]) rfl rfl (fun a w B e h => ⟨h.1, h.2.1, trivial⟩) (fun e => ok_move (.tmp 1 rfl))) ?_
          refine .cons (.sym 25 true ((decide (cmpI X N < 0)) && (decide (0 ≤ cmpI Y N))) (((decide (cmpI X N < 0)) && (decide (0 ≤ cmpI Y N))) == true) rfl rfl rfl 0 (need' := [(139, .val (IsB ((decide (cmpI X N < 0)) && (decide (0 ≤ cmpI Y N))))), (140, .val (Lit (.int .i64 (cmpI X Y))))]) rfl rfl (fun a w B e h => ⟨h.1, h.2.1.1 (e), trivial⟩) (fun e => ok_cmp (.tmp 1 rfl) (.lit) rfl)) ?_
          refine .cons (.wanted 18 false rfl rfl rfl 0 rfl (OpOk.eqB (b := ((decide (cmpI X N < 0)) && (decide (0 ≤ cmpI Y N))) && (decide (0 ≤ cmpI X Y))) (ok_pickS ((decide (cmpI X N < 0)) && (decide (0 ≤ cmpI Y N))) (.tmp 1 rfl) (fun e => Opd.eqB (Opd.grd (.tmp 2 rfl) (by first | (rw [e]; rfl) | (simp only [e]; rfl) | (simp [*] at *; done))) (by rw [e]; rfl)) (fun e => Opd.eqB (.lit) (by rw [e]; rfl))) (tri2 X Y N))) ?_
          refine .cons (.plain rfl (ok_pickF (.tmp 0 rfl) (.tmp 1 rfl))) ?_
          exact .nil
        clear H58 a58 w58 B58
        intro a59 w59 B59 H59
        refine ops_done ?_
        refine then_normal ?_
        refine f_condF H59 (.tmp 0 rfl) ?_
        refine wp_skip ?_
        refine then_normal ?_
        refine wp_seq ?_
        refine wp_seq ?_
        refine flow_region (dsts := [some 144, some 145, some 146, some 147, some 148, some 149, some 150, some 151]) (refs := [[.pre 1], [.res 0], [.res 1], [.res 2], [.res 3], [.res 3], [.res 3], [.res 3]]) (outs := [.res 7, .pre 1, .pre 2, .pre 3, .pre 4]) (als := [false, false, false, false, false, false, false, false]) (posts := [.ptr 37 8 (IsNum (.int N)) 0, .val (Lit (.int .i8 3)), .val (IsB false), .val (IsB false), .val (IsUndef), .val (IsUndef), .val (IsUndef), .val (IsB false)])
          (out := [(151, .val (IsB false)), (9, .box 37 8 (IsNum (.int N))), (6, .val (IsB false)), (2, .val (Lit (.int .u64 b))), (191, .val (EnvV))]) (nb := []) H59 8 [] rfl (by kernel_rfl) rfl rfl ?_ ?_
        · refine .cons (.plain rfl (ok_addrV0 (.tmp 0 rfl))) ?_
          refine .cons (.plain rfl (ok_loadV0 (.tmp 0 rfl))) ?_
          refine .cons (.plain rfl (ok_cmp (b := false) (.tmp 0 rfl) (.lit) (by decide))) ?_
          refine .cons (.plain rfl (ok_move (.tmp 0 rfl))) ?_
          refine .cons (.unwanted 3 true rfl rfl rfl 0 rfl) ?_
          refine .cons (.unwanted 3 true rfl rfl rfl 0 rfl) ?_
          refine .cons (.unwanted 3 true rfl rfl rfl 0 rfl) ?_
          refine .cons (.plain rfl (ok_pickF (.tmp 0 rfl) (.lit))) ?_
          exact .nil
        clear H59 a59 w59 B59
        intro a60 w60 B60 H60
        refine ops_done ?_
        refine then_normal ?_
        refine f_condF H60 (.tmp 0 rfl) ?_
        refine wp_skip ?_
        refine then_normal ?_
        refine wp_seq ?_
        refine flow_region (dsts := [some 190, some 6]) (refs := [[.pre 4], [.res 0]]) (outs := [.res 1, .pre 4]) (als := [false, false]) (posts := [.val (IsB true), .val (IsB true)])
          (out := [(6, .val (IsB true)), (191, .val (EnvV))]) (nb := []) H60 2 [] rfl (by kernel_rfl) rfl rfl ?_ ?_
        · refine .cons (.plain rfl (ok_callE (con_lives15) 0 rfl (.nil))) ?_
          refine .cons (.plain rfl (ok_assign (.tmp 0 rfl))) ?_
          exact .nil
        clear H60 a60 w60 B60
        intro a61 w61 B61 H61
        refine ops_done ?_
        refine then_normal ?_
        refine wp_ret ?_
        exact f_ret H61 rfl 0 rfl (fun _ _ _ h => h)
      · have hz2 : okNV (.flt b) := qz ▸ ok_of w64 b (by rw [show (2 : Int) ^ 64 = 18446744073709551616 from by decide]; exact hb)
        obtain ⟨_, _, hf3, hf4⟩ := floor_lt hb hp he
        refine flow_drawT (dsts := [some 36, some 37, some 38, some 39, some 40, some 41, some 7, some 8, some 9]) (refs := [[.pre 7], [.res 0], [.pre 8], [.res 2], [.pre 10], [.res 4, .pre 11], [], [], []]) (outs := [.res 1, .res 3, .res 5, .res 6, .res 7, .res 8, .pre 7, .pre 8, .pre 9, .pre 10, .pre 11]) (als := [false, false, false, false, false, false, true, true, true]) (posts := [.val (IsArg ngx nx xx), .val (IsNum (.int X)), .val (IsArg ngy ny xy), .val (IsNum (.int Y)), .val (Lit (.int .u64 b)), .val (IsNum (.flt b)), .box 37 8 (IsVal 0 0 (IsI 0) 0 0 (⟨#[]⟩) (K0)), .box 37 8 (IsVal 0 0 (IsI 0) 0 0 (⟨#[]⟩) (K0)), .box 37 8 (IsVal 0 0 (IsI 0) 0 0 (⟨#[]⟩) (K0))])
          (out := [(37, .val (IsNum (.int X))), (39, .val (IsNum (.int Y))), (41, .val (IsNum (.flt b))), (7, .box 37 8 (IsVal 0 0 (IsI 0) 0 0 (⟨#[]⟩) (K0))), (8, .box 37 8 (IsVal 0 0 (IsI 0) 0 0 (⟨#[]⟩) (K0))), (9, .box 37 8 (IsVal 0 0 (IsI 0) 0 0 (⟨#[]⟩) (K0))), (3, .box 34 2 (IsArg ngx nx xx)), (4, .box 34 2 (IsArg ngy ny xy)), (6, .val (IsB false)), (2, .val (Lit (.int .u64 b))), (191, .val (EnvV))]) (nb := [7, 8, 9]) H16 (by kernel_rfl) 9 3 #[true, true, true, true, true, true, true, true, true, false, false, false] (by kernel_rfl) (by kernel_rfl) rfl rfl ?_ ?_
        · refine .cons (.plain rfl (ok_load tyI (.tmp 0 rfl))) ?_
          refine .cons (.plain rfl (ok_call (con_ofint X) (.cons (.weak (.tmp 0 rfl) (weakAN (by omega) hX)) (.nil)))) ?_
          refine .cons (.plain rfl (ok_load tyI (.tmp 0 rfl))) ?_
          refine .cons (.plain rfl (ok_call (con_ofint Y) (.cons (.weak (.tmp 0 rfl) (weakAN (by omega) hY)) (.nil)))) ?_
          refine .cons (.plain rfl (ok_move (.tmp 0 rfl))) ?_
          refine .cons (.plain rfl (ok_callE ((con_of64 b hb).weak (fun v w B h => num_eq qz h)) 1 rfl (.cons (.tmp 0 rfl) (.nil)))) ?_
          refine .cons (.plain rfl (ok_allocV)) ?_
          refine .cons (.plain rfl (ok_allocV)) ?_
          refine .cons (.plain rfl (ok_allocV)) ?_
          exact .nil
        clear H16 a16 w16 B16
        intro a62 w62 B62 H62
        simp only [List.cons_append, List.nil_append] at H62
        refine any_oneT (l' := #[true, true, true, true, true, true, true, true, true, true, false, false]) 9 (by kernel_rfl) ?_
        refine store_op (l' := [(37, .val (IsNum (.int X))), (39, .val (IsNum (.int Y))), (41, .val (IsNum (.flt b))), (7, .box 37 8 (IsNum (.int X))), (8, .box 37 8 (IsVal 0 0 (IsI 0) 0 0 (⟨#[]⟩) (K0))), (9, .box 37 8 (IsVal 0 0 (IsI 0) 0 0 (⟨#[]⟩) (K0))), (3, .box 34 2 (IsArg ngx nx xx)), (4, .box 34 2 (IsArg ngy ny xy)), (6, .val (IsB false)), (2, .val (Lit (.int .u64 b))), (191, .val (EnvV))]) 3 H62 rfl tyV rfl (.tmp 0 rfl) (shape_Val shape_I oneK0) shape_Num rfl rfl ?_
        clear H62 w62
        intro w63 H63
        refine any_oneT (l' := #[true, true, true, true, true, true, true, true, true, true, true, false]) 10 (by kernel_rfl) ?_
        refine store_op (l' := [(37, .val (IsNum (.int X))), (39, .val (IsNum (.int Y))), (41, .val (IsNum (.flt b))), (7, .box 37 8 (IsNum (.int X))), (8, .box 37 8 (IsNum (.int Y))), (9, .box 37 8 (IsVal 0 0 (IsI 0) 0 0 (⟨#[]⟩) (K0))), (3, .box 34 2 (IsArg ngx nx xx)), (4, .box 34 2 (IsArg ngy ny xy)), (6, .val (IsB false)), (2, .val (Lit (.int .u64 b))), (191, .val (EnvV))]) 4 H63 rfl tyV rfl (.tmp 1 rfl) (shape_Val shape_I oneK0) shape_Num rfl rfl ?_
        clear H63 w63
        intro w64 H64
        refine any_oneT (l' := #[true, true, true, true, true, true, true, true, true, true, true, true]) 11 (by kernel_rfl) ?_
        refine store_op (l' := [(37, .val (IsNum (.int X))), (39, .val (IsNum (.int Y))), (41, .val (IsNum (.flt b))), (7, .box 37 8 (IsNum (.int X))), (8, .box 37 8 (IsNum (.int Y))), (9, .box 37 8 (IsNum (.flt b))), (3, .box 34 2 (IsArg ngx nx xx)), (4, .box 34 2 (IsArg ngy ny xy)), (6, .val (IsB false)), (2, .val (Lit (.int .u64 b))), (191, .val (EnvV))]) 5 H64 rfl tyV rfl (.tmp 2 rfl) (shape_Val shape_I oneK0) shape_Num rfl rfl ?_
        clear H64 w64
        intro w65 H65
        refine any_done (by kernel_rfl) ?_
        refine then_normal ?_
        refine wp_seq ?_
        refine flow_region (dsts := [some 43, some 44, some 45, some 42, some 46, some 47, some 10, some 11]) (refs := [[.pre 3], [.pre 4], [.res 0, .res 1, .pre 10], [.res 2], [.res 3], [.res 3], [.res 4], [.res 5]]) (outs := [.res 6, .res 7, .pre 3, .pre 4, .pre 5, .pre 6, .pre 7, .pre 8, .pre 9, .pre 10]) (als := [false, false, false, false, false, false, false, false]) (posts := [.val (IsNum (.int X)), .val (IsNum (.int Y)), .val (Tup [Lit (.int .i64 (cmpI (X * 2 ^ 1074) (Y * 2 ^ 1074))), IsB true]), .val (Tup [Lit (.int .i64 (cmpI (X * 2 ^ 1074) (Y * 2 ^ 1074))), IsB true]), .val (Lit (.int .i64 (cmpI (X * 2 ^ 1074) (Y * 2 ^ 1074)))), .val (IsB true), .val (Lit (.int .i64 (cmpI (X * 2 ^ 1074) (Y * 2 ^ 1074)))), .val (IsB true)])
          (out := [(10, .val (Lit (.int .i64 (cmpI (X * 2 ^ 1074) (Y * 2 ^ 1074))))), (11, .val (IsB true)), (7, .box 37 8 (IsNum (.int X))), (8, .box 37 8 (IsNum (.int Y))), (9, .box 37 8 (IsNum (.flt b))), (3, .box 34 2 (IsArg ngx nx xx)), (4, .box 34 2 (IsArg ngy ny xy)), (6, .val (IsB false)), (2, .val (Lit (.int .u64 b))), (191, .val (EnvV))]) (nb := []) H65 8 [] rfl (by kernel_rfl) rfl rfl ?_ ?_
        · refine .cons (.plain rfl (ok_load tyV (.tmp 0 rfl))) ?_
          refine .cons (.plain rfl (ok_load tyV (.tmp 0 rfl))) ?_
          refine .cons (.plain rfl (ok_callE ((con_ncmp (.int X) (.int Y) trivial trivial).weak (fun v w B h => by rw [show cmpO (whatV (.int X)) (whatV (.int Y)) = (cmpI (X * 2 ^ 1074) (Y * 2 ^ 1074), true) by rw [fin_int, cmpI_pos _ _ _ (Int.pow_pos (by omega))]] at h; exact h)) 2 rfl (.cons (.tmp 0 rfl) (.cons (.tmp 1 rfl) (.nil))))) ?_
          refine .cons (.plain rfl (ok_move (.tmp 0 rfl))) ?_
          refine .cons (.plain rfl (ok_extract 0 (.tmp 0 rfl) rfl)) ?_
          refine .cons (.plain rfl (ok_extract 1 (.tmp 0 rfl) rfl)) ?_
          refine .cons (.plain rfl (ok_assign (.tmp 0 rfl))) ?_
          refine .cons (.plain rfl (ok_assign (.tmp 0 rfl))) ?_
          exact .nil
        clear H65 a62 w65 B62
        intro a66 w66 B66 H66
        refine ops_done ?_
        refine then_normal ?_
        refine wp_seq ?_
        refine wp_seq ?_
        refine flow_region (dsts := [some 48, some 49, some 50, some 51, some 52, some 53, some 54, some 55, some 56]) (refs := [[.pre 1], [.res 0], [.res 1], [.res 2, .pre 0], [.res 2, .pre 5], [.res 2, .pre 6], [.res 2, .res 4, .res 5], [.res 2, .res 3, .res 6], [.res 2, .res 7]]) (outs := [.res 8, .pre 0, .pre 2, .pre 3, .pre 4, .pre 7, .pre 8, .pre 9]) (als := [false, false, false, false, false, false, false, false, false]) (posts := [.val (IsB true), .val (IsB false), .val (IsB false), .val (Lit (.int .i64 (cmpI (X * 2 ^ 1074) (Y * 2 ^ 1074)))), .val (IsArg ngx nx xx), .val (IsArg ngy ny xy), .val (Lit (.int .i64 (cmpI (X * 2 ^ 1074) (Y * 2 ^ 1074)))), .val (IsB false), .val (IsB false)])
          (out := [(56, .val (IsB false)), (10, .val (Lit (.int .i64 (cmpI (X * 2 ^ 1074) (Y * 2 ^ 1074))))), (7, .box 37 8 (IsNum (.int X))), (8, .box 37 8 (IsNum (.int Y))), (9, .box 37 8 (IsNum (.flt b))), (6, .val (IsB false)), (2, .val (Lit (.int .u64 b))), (191, .val (EnvV))]) (nb := []) H66 9 [] rfl (by kernel_rfl) rfl rfl ?_ ?_
        · refine .cons (.plain rfl (ok_move (.tmp 0 rfl))) ?_
          refine .cons (.plain rfl (ok_not (b := true) (.tmp 0 rfl))) ?_
          refine .cons (.plain rfl (ok_move (.tmp 0 rfl))) ?_
          refine .cons (.wanted 2 false rfl rfl rfl 0 rfl (ok_move (.tmp 1 rfl))) ?_
          refine .cons (.wanted 2 false rfl rfl rfl 0 rfl (ok_load tyI (.tmp 1 rfl))) ?_
          refine .cons (.wanted 2 false rfl rfl rfl 0 rfl (ok_load tyI (.tmp 1 rfl))) ?_
          refine .cons (.wanted 2 false rfl rfl rfl 0 rfl (ok_call ((con_cmp X Y).weak (fun v w B h => by rw [← cmpI_pos X Y (2 ^ 1074) (Int.pow_pos (by omega))] at h; exact h)) (.cons (.weak (.tmp 1 rfl) (weakAN (by omega) hX)) (.cons (.weak (.tmp 2 rfl) (weakAN (by omega) hY)) (.nil))))) ?_
          refine .cons (.wanted 2 false rfl rfl rfl 0 rfl (ok_cmp (b := false) (.tmp 1 rfl) (.tmp 2 rfl) ((decide_eq_false (fun h => h rfl)).symm))) ?_
          refine .cons (.plain rfl (ok_pickF (.tmp 0 rfl) (.tmp 1 rfl))) ?_
          exact .nil
        clear H66 a66 w66 B66
        intro a67 w67 B67 H67
        refine ops_done ?_
        refine then_normal ?_
        refine f_condF H67 (.tmp 0 rfl) ?_
        refine wp_skip ?_
        refine then_normal ?_
        refine wp_seq ?_
        refine flow_drawT (dsts := [some 58, some 59, some 60, some 57, some 61, some 62, some 12, some 13]) (refs := [[.pre 2], [.pre 7], [.res 0, .res 1, .pre 7], [.res 2], [.res 3], [.res 3], [.res 4], [.res 5]]) (outs := [.res 6, .res 7, .pre 1, .pre 2, .pre 3, .pre 4, .pre 5, .pre 6, .pre 7]) (als := [false, false, false, false, false, false, false, false]) (posts := [.val (IsNum (.int X)), .val (IsNum (.flt 18442240474082181120)), .val (Tup [Lit (.int .i64 1), IsB true]), .val (Tup [Lit (.int .i64 1), IsB true]), .val (Lit (.int .i64 1)), .val (IsB true), .val (Lit (.int .i64 1)), .val (IsB true)])
          (out := [(12, .val (Lit (.int .i64 1))), (13, .val (IsB true)), (10, .val (Lit (.int .i64 (cmpI (X * 2 ^ 1074) (Y * 2 ^ 1074))))), (7, .box 37 8 (IsNum (.int X))), (8, .box 37 8 (IsNum (.int Y))), (9, .box 37 8 (IsNum (.flt b))), (6, .val (IsB false)), (2, .val (Lit (.int .u64 b))), (191, .val (EnvV))]) (nb := []) H67 (by kernel_rfl) 8 0 #[true, true, true, true, true, true, true, true] (by kernel_rfl) (by kernel_rfl) rfl rfl ?_ ?_
        · refine .cons (.plain rfl (ok_load tyV (.tmp 0 rfl))) ?_
          refine .cons (.plain rfl (ok_callE ((con_of64 18442240474082181120 (by omega)).weak (fun v w B h => num_eq ninf_of h)) 0 rfl (.cons (.lit) (.nil)))) ?_
          refine .cons (.plain rfl (ok_callE ((con_ncmp (.int X) (.flt 18442240474082181120) trivial ninf_ok).weak (fun v w B h => by rw [ninf_cmp X] at h; exact h)) 2 rfl (.cons (.tmp 0 rfl) (.cons (.tmp 1 rfl) (.nil))))) ?_
          refine .cons (.plain rfl (ok_move (.tmp 0 rfl))) ?_
          refine .cons (.plain rfl (ok_extract 0 (.tmp 0 rfl) rfl)) ?_
          refine .cons (.plain rfl (ok_extract 1 (.tmp 0 rfl) rfl)) ?_
          refine .cons (.plain rfl (ok_assign (.tmp 0 rfl))) ?_
          refine .cons (.plain rfl (ok_assign (.tmp 0 rfl))) ?_
          exact .nil
        clear H67 a67 w67 B67
        intro a68 w68 B68 H68
        refine any_done (by kernel_rfl) ?_
        refine then_normal ?_
        refine wp_seq ?_
        refine flow_drawT (dsts := [some 64, some 65, some 66, some 63, some 67, some 68, some 14, some 15]) (refs := [[.pre 3], [.pre 8], [.res 0, .res 1, .pre 8], [.res 2], [.res 3], [.res 3], [.res 4], [.res 5]]) (outs := [.res 6, .res 7, .pre 0, .pre 1, .pre 2, .pre 3, .pre 4, .pre 5, .pre 6, .pre 7, .pre 8]) (als := [false, false, false, false, false, false, false, false]) (posts := [.val (IsNum (.int X)), .val (IsNum (.flt 9218868437227405312)), .val (Tup [Lit (.int .i64 (-1)), IsB true]), .val (Tup [Lit (.int .i64 (-1)), IsB true]), .val (Lit (.int .i64 (-1))), .val (IsB true), .val (Lit (.int .i64 (-1))), .val (IsB true)])
          (out := [(14, .val (Lit (.int .i64 (-1)))), (15, .val (IsB true)), (12, .val (Lit (.int .i64 1))), (13, .val (IsB true)), (10, .val (Lit (.int .i64 (cmpI (X * 2 ^ 1074) (Y * 2 ^ 1074))))), (7, .box 37 8 (IsNum (.int X))), (8, .box 37 8 (IsNum (.int Y))), (9, .box 37 8 (IsNum (.flt b))), (6, .val (IsB false)), (2, .val (Lit (.int .u64 b))), (191, .val (EnvV))]) (nb := []) H68 (by kernel_rfl) 8 0 #[true, true, true, true, true, true, true, true] (by kernel_rfl) (by kernel_rfl) rfl rfl ?_ ?_
        · refine .cons (.plain rfl (ok_load tyV (.tmp 0 rfl))) ?_
          refine .cons (.plain rfl (ok_callE ((con_of32 2139095040 (by omega)).weak (fun v w B h => num_eq inf_of h)) 0 rfl (.cons (.lit) (.nil)))) ?_
          refine .cons (.plain rfl (ok_callE ((con_ncmp (.int X) (.flt 9218868437227405312) trivial inf_ok).weak (fun v w B h => by rw [inf_cmp X] at h; exact h)) 2 rfl (.cons (.tmp 0 rfl) (.cons (.tmp 1 rfl) (.nil))))) ?_
          refine .cons (.plain rfl (ok_move (.tmp 0 rfl))) ?_
          refine .cons (.plain rfl (ok_extract 0 (.tmp 0 rfl) rfl)) ?_
          refine .cons (.plain rfl (ok_extract 1 (.tmp 0 rfl) rfl)) ?_
          refine .cons (.plain rfl (ok_assign (.tmp 0 rfl))) ?_
          refine .cons (.plain rfl (ok_assign (.tmp 0 rfl))) ?_
          exact .nil
        clear H68 a68 w68 B68
        intro a69 w69 B69 H69
        refine any_done (by kernel_rfl) ?_
        refine then_normal ?_
        refine wp_seq ?_
        refine wp_seq ?_
        refine flow_region (dsts := [some 69, some 70, some 71, some 72, some 73, some 74, some 75, some 76, some 77, some 78, some 79, some 80, some 81, some 82]) (refs := [[.pre 2], [.res 0], [.res 1], [.res 2, .pre 0], [.res 2, .res 3], [.res 2, .res 4], [.res 5], [.res 6, .pre 3], [.res 6, .res 7], [.res 6, .res 8], [.res 9], [.res 10, .pre 1], [.res 10, .res 11], [.res 10, .res 12]]) (outs := [.res 13, .pre 4, .pre 5, .pre 6, .pre 7, .pre 8, .pre 9, .pre 10]) (als := [false, false, false, false, false, false, false, false, false, false, false, false, false, false]) (posts := [.val (Lit (.int .i64 1)), .val (IsB false), .val (IsB false), .val (Lit (.int .i64 (-1))), .val (IsB false), .val (IsB false), .val (IsB false), .val (IsB true), .val (IsB false), .val (IsB false), .val (IsB false), .val (IsB true), .val (IsB false), .val (IsB false)])
          (out := [(82, .val (IsB false)), (10, .val (Lit (.int .i64 (cmpI (X * 2 ^ 1074) (Y * 2 ^ 1074))))), (7, .box 37 8 (IsNum (.int X))), (8, .box 37 8 (IsNum (.int Y))), (9, .box 37 8 (IsNum (.flt b))), (6, .val (IsB false)), (2, .val (Lit (.int .u64 b))), (191, .val (EnvV))]) (nb := []) H69 14 [] rfl (by kernel_rfl) rfl rfl ?_ ?_
        · refine .cons (.plain rfl (ok_move (.tmp 0 rfl))) ?_
          refine .cons (.plain rfl (ok_cmp (b := false) (.tmp 0 rfl) (.lit) (by decide))) ?_
          refine .cons (.plain rfl (ok_move (.tmp 0 rfl))) ?_
          refine .cons (.wanted 2 false rfl rfl rfl 0 rfl (ok_move (.tmp 1 rfl))) ?_
          refine .cons (.wanted 2 false rfl rfl rfl 0 rfl (ok_cmp (b := false) (.tmp 1 rfl) (.lit) (by decide))) ?_
          refine .cons (.plain rfl (ok_pickF (.tmp 0 rfl) (.tmp 1 rfl))) ?_
          refine .cons (.plain rfl (ok_move (.tmp 0 rfl))) ?_
          refine .cons (.wanted 6 false rfl rfl rfl 0 rfl (ok_move (.tmp 1 rfl))) ?_
          refine .cons (.wanted 6 false rfl rfl rfl 0 rfl (ok_not (b := true) (.tmp 1 rfl))) ?_
          refine .cons (.plain rfl (ok_pickF (.tmp 0 rfl) (.tmp 1 rfl))) ?_
          refine .cons (.plain rfl (ok_move (.tmp 0 rfl))) ?_
          refine .cons (.wanted 10 false rfl rfl rfl 0 rfl (ok_move (.tmp 1 rfl))) ?_
          refine .cons (.wanted 10 false rfl rfl rfl 0 rfl (ok_not (b := true) (.tmp 1 rfl))) ?_
          refine .cons (.plain rfl (ok_pickF (.tmp 0 rfl) (.tmp 1 rfl))) ?_
          exact .nil
        clear H69 a69 w69 B69
        intro a70 w70 B70 H70
        refine ops_done ?_
        refine then_normal ?_
        refine f_condF H70 (.tmp 0 rfl) ?_
        refine wp_skip ?_
        refine then_normal ?_
        refine wp_seq ?_
        refine flow_region (dsts := [some 84, some 85, some 86, some 83, some 87, some 88, some 16, some 17]) (refs := [[.pre 2], [.pre 4], [.res 0, .res 1, .pre 7], [.res 2], [.res 3], [.res 3], [.res 4], [.res 5]]) (outs := [.res 6, .res 7, .pre 1, .pre 3, .pre 4, .pre 5, .pre 6, .pre 7]) (als := [false, false, false, false, false, false, false, false]) (posts := [.val (IsNum (.int X)), .val (IsNum (.flt b)), .val (Tup [Lit (.int .i64 (cmpI (X * 2 ^ 1074) (keyF b))), IsB true]), .val (Tup [Lit (.int .i64 (cmpI (X * 2 ^ 1074) (keyF b))), IsB true]), .val (Lit (.int .i64 (cmpI (X * 2 ^ 1074) (keyF b)))), .val (IsB true), .val (Lit (.int .i64 (cmpI (X * 2 ^ 1074) (keyF b)))), .val (IsB true)])
          (out := [(16, .val (Lit (.int .i64 (cmpI (X * 2 ^ 1074) (keyF b))))), (17, .val (IsB true)), (10, .val (Lit (.int .i64 (cmpI (X * 2 ^ 1074) (Y * 2 ^ 1074))))), (8, .box 37 8 (IsNum (.int Y))), (9, .box 37 8 (IsNum (.flt b))), (6, .val (IsB false)), (2, .val (Lit (.int .u64 b))), (191, .val (EnvV))]) (nb := []) H70 8 [] rfl (by kernel_rfl) rfl rfl ?_ ?_
        · refine .cons (.plain rfl (ok_load tyV (.tmp 0 rfl))) ?_
          refine .cons (.plain rfl (ok_load tyV (.tmp 0 rfl))) ?_
          refine .cons (.plain rfl (ok_callE ((con_ncmp (.int X) (.flt b) trivial hz2).weak (fun v w B h => by rw [show cmpO (whatV (.int X)) (whatV (.flt b)) = (cmpI (X * 2 ^ 1074) (keyF b), true) by rw [qw]; exact fin_flt _ _] at h; exact h)) 2 rfl (.cons (.tmp 0 rfl) (.cons (.tmp 1 rfl) (.nil))))) ?_
          refine .cons (.plain rfl (ok_move (.tmp 0 rfl))) ?_
          refine .cons (.plain rfl (ok_extract 0 (.tmp 0 rfl) rfl)) ?_
          refine .cons (.plain rfl (ok_extract 1 (.tmp 0 rfl) rfl)) ?_
          refine .cons (.plain rfl (ok_assign (.tmp 0 rfl))) ?_
          refine .cons (.plain rfl (ok_assign (.tmp 0 rfl))) ?_
          exact .nil
        clear H70 a70 w70 B70
        intro a71 w71 B71 H71
        refine ops_done ?_
        refine then_normal ?_
        refine wp_seq ?_
        refine flow_region (dsts := [some 90, some 91, some 92, some 89, some 93, some 94, some 18, some 19]) (refs := [[.pre 3], [.pre 4], [.res 0, .res 1, .pre 7], [.res 2], [.res 3], [.res 3], [.res 4], [.res 5]]) (outs := [.res 6, .res 7, .pre 0, .pre 1, .pre 2, .pre 4, .pre 5, .pre 6, .pre 7]) (als := [false, false, false, false, false, false, false, false]) (posts := [.val (IsNum (.int Y)), .val (IsNum (.flt b)), .val (Tup [Lit (.int .i64 (cmpI (Y * 2 ^ 1074) (keyF b))), IsB true]), .val (Tup [Lit (.int .i64 (cmpI (Y * 2 ^ 1074) (keyF b))), IsB true]), .val (Lit (.int .i64 (cmpI (Y * 2 ^ 1074) (keyF b)))), .val (IsB true), .val (Lit (.int .i64 (cmpI (Y * 2 ^ 1074) (keyF b)))), .val (IsB true)])
          (out := [(18, .val (Lit (.int .i64 (cmpI (Y * 2 ^ 1074) (keyF b))))), (19, .val (IsB true)), (16, .val (Lit (.int .i64 (cmpI (X * 2 ^ 1074) (keyF b))))), (17, .val (IsB true)), (10, .val (Lit (.int .i64 (cmpI (X * 2 ^ 1074) (Y * 2 ^ 1074))))), (9, .box 37 8 (IsNum (.flt b))), (6, .val (IsB false)), (2, .val (Lit (.int .u64 b))), (191, .val (EnvV))]) (nb := []) H71 8 [] rfl (by kernel_rfl) rfl rfl ?_ ?_
        · refine .cons (.plain rfl (ok_load tyV (.tmp 0 rfl))) ?_
          refine .cons (.plain rfl (ok_load tyV (.tmp 0 rfl))) ?_
          refine .cons (.plain rfl (ok_callE ((con_ncmp (.int Y) (.flt b) trivial hz2).weak (fun v w B h => by rw [show cmpO (whatV (.int Y)) (whatV (.flt b)) = (cmpI (Y * 2 ^ 1074) (keyF b), true) by rw [qw]; exact fin_flt _ _] at h; exact h)) 2 rfl (.cons (.tmp 0 rfl) (.cons (.tmp 1 rfl) (.nil))))) ?_
          refine .cons (.plain rfl (ok_move (.tmp 0 rfl))) ?_
          refine .cons (.plain rfl (ok_extract 0 (.tmp 0 rfl) rfl)) ?_
          refine .cons (.plain rfl (ok_extract 1 (.tmp 0 rfl) rfl)) ?_
          refine .cons (.plain rfl (ok_assign (.tmp 0 rfl))) ?_
          refine .cons (.plain rfl (ok_assign (.tmp 0 rfl))) ?_
          exact .nil
        clear H71 a71 w71 B71
        intro a72 w72 B72 H72
        refine ops_done ?_
        refine then_normal ?_
        refine wp_seq ?_
        refine wp_seq ?_
        refine flow_region (dsts := [some 95, some 96]) (refs := [[.pre 7], [.res 0, .pre 8]]) (outs := [.res 1, .pre 0, .pre 1, .pre 2, .pre 3, .pre 4, .pre 5, .pre 6, .pre 7, .pre 8]) (als := [false, false]) (posts := [.val (Lit (.int .u64 b)), .val (IsB false)])
          (out := [(96, .val (IsB false)), (18, .val (Lit (.int .i64 (cmpI (Y * 2 ^ 1074) (keyF b))))), (19, .val (IsB true)), (16, .val (Lit (.int .i64 (cmpI (X * 2 ^ 1074) (keyF b))))), (17, .val (IsB true)), (10, .val (Lit (.int .i64 (cmpI (X * 2 ^ 1074) (Y * 2 ^ 1074))))), (9, .box 37 8 (IsNum (.flt b))), (6, .val (IsB false)), (2, .val (Lit (.int .u64 b))), (191, .val (EnvV))]) (nb := []) H72 2 [] rfl (by kernel_rfl) rfl rfl ?_ ?_
        · refine .cons (.plain rfl (ok_move (.tmp 0 rfl))) ?_
          refine .cons (.plain rfl (ok_callE ((con_nan15 b hb).weak (fun v w B h => by rw [hn] at h; exact h)) 1 rfl (.cons (.tmp 0 rfl) (.nil)))) ?_
          exact .nil
        clear H72 a72 w72 B72
        intro a73 w73 B73 H73
        refine ops_done ?_
        refine then_normal ?_
        refine f_condF H73 (.tmp 0 rfl) ?_
        refine wp_skip ?_
        refine then_normal ?_
        refine wp_seq ?_
        refine wp_seq ?_
        refine flow_region (dsts := [some 114, some 115, some 116, some 117, some 118, some 119, some 120, some 121, some 122, some 123, some 124, some 125, some 126, some 127, some 128, some 129, some 130, some 131, some 132, some 133, some 134, some 135, some 136, some 137, some 138, some 139, some 140, some 141, some 142, some 143]) (refs := [[.pre 4], [.res 0], [.res 1], [.res 2, .pre 2], [.res 2, .res 3], [.res 2, .res 4], [.res 5], [.res 6, .pre 3], [.res 6, .res 7], [.res 6, .res 8], [.res 9, .pre 1], [.res 9, .res 10], [.res 6, .res 9, .res 11], [.res 6, .res 12], [.res 13, .pre 5], [.res 13, .res 14], [.res 6, .res 13, .res 15], [.res 6, .res 16], [.res 17], [.res 18, .pre 3], [.res 18, .res 19], [.res 18, .res 20], [.res 21, .pre 1], [.res 21, .res 22], [.res 18, .res 21, .res 23], [.res 18, .res 24], [.res 25, .pre 5], [.res 25, .res 26], [.res 18, .res 25, .res 27], [.res 18, .res 28]]) (outs := [.res 29, .pre 6, .pre 7, .pre 8, .pre 9]) (als := [false, false, false, false, false, false, false, false, false, false, false, false, false, false, false, false, false, false, false, false, false, false, false, false, false, false, false, false, false, false]) (posts := [.val (IsB true), .val (IsB false), .val (IsB false), .val (IsB true), .val (IsB false), .val (IsB false), .val (IsB false), .val (Lit (.int .i64 (cmpI (X * 2 ^ 1074) (keyF b)))), .val (IsB (decide (cmpI (X * 2 ^ 1074) (keyF b) ≤ 0))), .val (IsB (decide (cmpI (X * 2 ^ 1074) (keyF b) ≤ 0))), .val (Grd ((decide (cmpI (X * 2 ^ 1074) (keyF b) ≤ 0)) == true) (Lit (.int .i64 (cmpI (Y * 2 ^ 1074) (keyF b))))), .val (Grd ((decide (cmpI (X * 2 ^ 1074) (keyF b) ≤ 0)) == true) (IsB (decide (0 ≤ cmpI (Y * 2 ^ 1074) (keyF b))))), .val (IsB ((decide (cmpI (X * 2 ^ 1074) (keyF b) ≤ 0)) && (decide (0 ≤ cmpI (Y * 2 ^ 1074) (keyF b))))), .val (IsB ((decide (cmpI (X * 2 ^ 1074) (keyF b) ≤ 0)) && (decide (0 ≤ cmpI (Y * 2 ^ 1074) (keyF b))))), .val (Grd (((decide (cmpI (X * 2 ^ 1074) (keyF b) ≤ 0)) && (decide (0 ≤ cmpI (Y * 2 ^ 1074) (keyF b)))) == true) (Lit (.int .i64 (cmpI (X * 2 ^ 1074) (Y * 2 ^ 1074))))), .val (Grd (((decide (cmpI (X * 2 ^ 1074) (keyF b) ≤ 0)) && (decide (0 ≤ cmpI (Y * 2 ^ 1074) (keyF b)))) == true) (IsB (decide (0 < cmpI (X * 2 ^ 1074) (Y * 2 ^ 1074))))), .val (IsB false), .val (IsB false), .val (IsB false), .val (Lit (.int .i64 (cmpI (X * 2 ^ 1074) (keyF b)))), .val (IsB (decide (cmpI (X * 2 ^ 1074) (keyF b) < 0))), .val (IsB (decide (cmpI (X * 2 ^ 1074) (keyF b) < 0))), .val (Grd ((decide (cmpI (X * 2 ^ 1074) (keyF b) < 0)) == true) (Lit (.int .i64 (cmpI (Y * 2 ^ 1074) (keyF b))))), .val (Grd ((decide (cmpI (X * 2 ^ 1074) (keyF b) < 0)) == true) (IsB (decide (0 ≤ cmpI (Y * 2 ^ 1074) (keyF b))))), .val (IsB ((decide (cmpI (X * 2 ^ 1074) (keyF b) < 0)) && (decide (0 ≤ cmpI (Y * 2 ^ 1074) (keyF b))))), .val (IsB ((decide (cmpI (X * 2 ^ 1074) (keyF b) < 0)) && (decide (0 ≤ cmpI (Y * 2 ^ 1074) (keyF b))))), .val (Grd (((decide (cmpI (X * 2 ^ 1074) (keyF b) < 0)) && (decide (0 ≤ cmpI (Y * 2 ^ 1074) (keyF b)))) == true) (Lit (.int .i64 (cmpI (X * 2 ^ 1074) (Y * 2 ^ 1074))))), .val (Grd (((decide (cmpI (X * 2 ^ 1074) (keyF b) < 0)) && (decide (0 ≤ cmpI (Y * 2 ^ 1074) (keyF b)))) == true) (IsB (decide (0 ≤ cmpI (X * 2 ^ 1074) (Y * 2 ^ 1074))))), .val (IsB false), .val (IsB false)])
          (out := [(143, .val (IsB false)), (9, .box 37 8 (IsNum (.flt b))), (6, .val (IsB false)), (2, .val (Lit (.int .u64 b))), (191, .val (EnvV))]) (nb := []) H73 30 [] rfl (by kernel_rfl) rfl rfl ?_ ?_
        · refine .cons (.plain rfl (ok_move (.tmp 0 rfl))) ?_
          refine .cons (.plain rfl (ok_not (b := true) (.tmp 0 rfl))) ?_
          refine .cons (.plain rfl (ok_move (.tmp 0 rfl))) ?_
          refine .cons (.wanted 2 false rfl rfl rfl 0 rfl (ok_move (.tmp 1 rfl))) ?_
          refine .cons (.wanted 2 false rfl rfl rfl 0 rfl (ok_not (b := true) (.tmp 1 rfl))) ?_
          refine .cons (.plain rfl (ok_pickF (.tmp 0 rfl) (.tmp 1 rfl))) ?_
          refine .cons (.plain rfl (ok_move (.tmp 0 rfl))) ?_
          refine .cons (.wanted 6 false rfl rfl rfl 0 rfl (ok_move (.tmp 1 rfl))) ?_
          refine .cons (.wanted 6 false rfl rfl rfl 0 rfl (ok_cmp (.tmp 1 rfl) (.lit) rfl)) ?_
          refine .cons (.wanted 6 false rfl rfl rfl 0 rfl (ok_move (.tmp 1 rfl))) ?_
          refine .cons (.sym 9 true (decide (cmpI (X * 2 ^ 1074) (keyF b) ≤ 0)) ((decide (cmpI (X * 2 ^ 1074) (keyF b) ≤ 0)) == true) rfl rfl rfl 0 (need' := [(123, .val (IsB (decide (cmpI (X * 2 ^ 1074) (keyF b) ≤ 0)))), (18, .val (Lit (.int .i64 (cmpI (Y * 2 ^ 1074) (keyF b)))))]) rfl rfl (fun a w B e h => ⟨h.1, h.2.1, trivial⟩) (fun e => ok_move (.tmp 1 rfl))) ?_
          refine .cons (.sym 9 true (decide (cmpI (X * 2 ^ 1074) (keyF b) ≤ 0)) ((decide (cmpI (X * 2 ^ 1074) (keyF b) ≤ 0)) == true) rfl rfl rfl 0 (need' := [(123, .val (IsB (decide (cmpI (X * 2 ^ 1074) (keyF b) ≤ 0)))), (124, .val (Lit (.int .i64 (cmpI (Y * 2 ^ 1074) (keyF b)))))]) rfl rfl (fun a w B e h => ⟨h.1, h.2.1.1 (e), trivial⟩) (fun e => ok_cmp (.tmp 1 rfl) (.lit) rfl)) ?_
          refine .cons (.wanted 6 false rfl rfl rfl 0 rfl (ok_pickS (decide (cmpI (X * 2 ^ 1074) (keyF b) ≤ 0)) (.tmp 1 rfl) (fun e => Opd.eqB (Opd.grd (.tmp 2 rfl) (by first | (rw [e]; rfl) | (simp only [e]; rfl) | (simp [*] at *; done))) (by rw [e]; rfl)) (fun e => Opd.eqB (.lit) (by rw [e]; rfl)))) ?_
          refine .cons (.wanted 6 false rfl rfl rfl 0 rfl (ok_move (.tmp 1 rfl))) ?_
          refine .cons (.sym 13 true ((decide (cmpI (X * 2 ^ 1074) (keyF b) ≤ 0)) && (decide (0 ≤ cmpI (Y * 2 ^ 1074) (keyF b)))) (((decide (cmpI (X * 2 ^ 1074) (keyF b) ≤ 0)) && (decide (0 ≤ cmpI (Y * 2 ^ 1074) (keyF b)))) == true) rfl rfl rfl 0 (need' := [(127, .val (IsB ((decide (cmpI (X * 2 ^ 1074) (keyF b) ≤ 0)) && (decide (0 ≤ cmpI (Y * 2 ^ 1074) (keyF b)))))), (10, .val (Lit (.int .i64 (cmpI (X * 2 ^ 1074) (Y * 2 ^ 1074)))))]) rfl rfl (fun a w B e h => ⟨h.1, h.2.1, trivial⟩) (fun e => ok_move (.tmp 1 rfl))) ?_
          refine .cons (.sym 13 true ((decide (cmpI (X * 2 ^ 1074) (keyF b) ≤ 0)) && (decide (0 ≤ cmpI (Y * 2 ^ 1074) (keyF b)))) (((decide (cmpI (X * 2 ^ 1074) (keyF b) ≤ 0)) && (decide (0 ≤ cmpI (Y * 2 ^ 1074) (keyF b)))) == true) rfl rfl rfl 0 (need' := [(127, .val (IsB ((decide (cmpI (X * 2 ^ 1074) (keyF b) ≤ 0)) && (decide (0 ≤ cmpI (Y * 2 ^ 1074) (keyF b)))))), (128, .val (Lit (.int .i64 (cmpI (X * 2 ^ 1074) (Y * 2 ^ 1074)))))]) rfl rfl (fun a w B e h => ⟨h.1, h.2.1.1 (e), trivial⟩) (fun e => ok_cmp (.tmp 1 rfl) (.lit) rfl)) ?_
          refine .cons (.wanted 6 false rfl rfl rfl 0 rfl (OpOk.eqB (b := ((decide (cmpI (X * 2 ^ 1074) (keyF b) ≤ 0)) && (decide (0 ≤ cmpI (Y * 2 ^ 1074) (keyF b)))) && (decide (0 < cmpI (X * 2 ^ 1074) (Y * 2 ^ 1074)))) (ok_pickS ((decide (cmpI (X * 2 ^ 1074) (keyF b) ≤ 0)) && (decide (0 ≤ cmpI (Y * 2 ^ 1074) (keyF b)))) (.tmp 1 rfl) (fun e => Opd.eqB (Opd.grd (.tmp 2 rfl) (by first | (rw [e]; rfl) | (simp only [e]; rfl) | (simp [*] at *; done))) (by rw [e]; rfl)) (fun e => Opd.eqB (.lit) (by rw [e]; rfl))) (tri1 _ _ _))) ?_
          refine .cons (.plain rfl (ok_pickF (.tmp 0 rfl) (.tmp 1 rfl))) ?_
          refine .cons (.plain rfl (ok_move (.tmp 0 rfl))) ?_
          refine .cons (.wanted 18 false rfl rfl rfl 0 rfl (ok_move (.tmp 1 rfl))) ?_
          refine .cons (.wanted 18 false rfl rfl rfl 0 rfl (ok_cmp (.tmp 1 rfl) (.lit) rfl)) ?_
          refine .cons (.wanted 18 false rfl rfl rfl 0 rfl (ok_move (.tmp 1 rfl))) ?_
          refine .cons (.sym 21 true (decide (cmpI (X * 2 ^ 1074) (keyF b) < 0)) ((decide (cmpI (X * 2 ^ 1074) (keyF b) < 0)) == true) rfl rfl rfl 0 (need' := [(135, .val (IsB (decide (cmpI (X * 2 ^ 1074) (keyF b) < 0)))), (18, .val (Lit (.int .i64 (cmpI (Y * 2 ^ 1074) (keyF b)))))]) rfl rfl (fun a w B e h => ⟨h.1, h.2.1, trivial⟩) (fun e => ok_move (.tmp 1 rfl))) ?_
          refine .cons (.sym 21 true (decide (cmpI (X * 2 ^ 1074) (keyF b) < 0)) ((decide (cmpI (X * 2 ^ 1074) (keyF b) < 0)) == true) rfl rfl rfl 0 (need' := [(135, .val (IsB (decide (cmpI (X * 2 ^ 1074) (keyF b) < 0)))), (136, .val (Lit (.int .i64 (cmpI (Y * 2 ^ 1074) (keyF b)))))]) rfl rfl (fun a w B e h => ⟨h.1, h.2.1.1 (e), trivial⟩) (fun e => ok_cmp (.tmp 1 rfl) (.lit) rfl)) ?_
          refine .cons (.wanted 18 false rfl rfl rfl 0 rfl (ok_pickS (decide (cmpI (X * 2 ^ 1074) (keyF b) < 0)) (.tmp 1 rfl) (fun e => Opd.eqB (Opd.grd (.tmp 2 rfl) (by first | (rw [e]; rfl) | (simp only [e]; rfl) | (simp [*] at *; done))) (by rw [e]; rfl)) (fun e => Opd.eqB (.lit) (by rw [e]; rfl)))) ?_
          refine .cons (.wanted 18 false rfl rfl rfl 0 rfl (ok_move (.tmp 1 rfl))) ?_
          refine .cons (.sym 25 true ((decide (cmpI (X * 2 ^ 1074) (keyF b) < 0)) && (decide (0 ≤ cmpI (Y * 2 ^ 1074) (keyF b)))) (((decide (cmpI (X * 2 ^ 1074) (keyF b) < 0)) && (decide (0 ≤ cmpI (Y * 2 ^ 1074) (keyF b)))) == true) rfl rfl rfl 0 (need' := [(139, .val (IsB ((decide (cmpI (X * 2 ^ 1074) (keyF b) < 0)) && (decide (0 ≤ cmpI (Y * 2 ^ 1074) (keyF b)))))), (10, .val (Lit (.int .i64 (cmpI (X * 2 ^ 1074) (Y * 2 ^ 1074)))))]) rfl rfl (fun a w B e h => ⟨h.1, h.2.1, trivial⟩) (fun e => ok_move (.tmp 1 rfl))) ?_
          refine .cons (.sym 25 true ((decide (cmpI (X * 2 ^ 1074) (keyF b) < 0)) && (decide (0 ≤ cmpI (Y * 2 ^ 1074) (keyF b)))) (((decide (cmpI (X * 2 ^ 1074) (keyF b) < 0)) && (decide (0 ≤ cmpI (Y * 2 ^ 1074) (keyF b)))) == true) rfl rfl rfl 0 (need' := [(139, .val (IsB ((decide (cmpI (X * 2 ^ 1074) (keyF b) < 0)) && (decide (0 ≤ cmpI (Y * 2 ^ 1074) (keyF b)))))), (140, .val (Lit (.int .i64 (cmpI (X * 2 ^ 1074) (Y * 2 ^ 1074)))))]) rfl rfl (fun a w B e h => ⟨h.1, h.2.1.1 (e), trivial⟩) (fun e => ok_cmp (.tmp 1 rfl) (.lit) rfl)) ?_
          refine .cons (.wanted 18 false rfl rfl rfl 0 rfl (OpOk.eqB (b := ((decide (cmpI (X * 2 ^ 1074) (keyF b) < 0)) && (decide (0 ≤ cmpI (Y * 2 ^ 1074) (keyF b)))) && (decide (0 ≤ cmpI (X * 2 ^ 1074) (Y * 2 ^ 1074)))) (ok_pickS ((decide (cmpI (X * 2 ^ 1074) (keyF b) < 0)) && (decide (0 ≤ cmpI (Y * 2 ^ 1074) (keyF b)))) (.tmp 1 rfl) (fun e => Opd.eqB (Opd.grd (.tmp 2 rfl) (by first | (rw [e]; rfl) | (simp only [e]; rfl) | (simp [*] at *; done))) (by rw [e]; rfl)) (fun e => Opd.eqB (.lit) (by rw [e]; rfl))) (tri2 _ _ _))) ?_
          refine .cons (.plain rfl (ok_pickF (.tmp 0 rfl) (.tmp 1 rfl))) ?_
          exact .nil
        clear H73 a73 w73 B73
        intro a74 w74 B74 H74
        refine ops_done ?_
        refine then_normal ?_
        refine f_condF H74 (.tmp 0 rfl) ?_
        refine wp_skip ?_
        refine then_normal ?_
        refine wp_seq ?_
        refine wp_seq ?_
        refine flow_region (dsts := [some 144, some 145, some 146, some 147, some 148, some 149, some 150, some 151]) (refs := [[.pre 1], [.res 0], [.res 1], [.res 2], [.res 3, .pre 3], [.res 3, .res 4, .pre 4], [.res 3, .res 5], [.res 3, .res 6]]) (outs := [.res 7, .pre 1, .pre 2, .pre 3, .pre 4]) (als := [false, false, false, false, false, false, false, false]) (posts := [.ptr 37 8 (IsNum (.flt b)) 0, .val (Lit (.int .i8 4)), .val (IsB true), .val (IsB true), .val (Lit (.int .u64 b)), .val (Lit (.int .i8 (clsW 64 b))), .val (IsB true), .val (IsB true)])
          (out := [(151, .val (IsB true)), (9, .box 37 8 (IsNum (.flt b))), (6, .val (IsB false)), (2, .val (Lit (.int .u64 b))), (191, .val (EnvV))]) (nb := []) H74 8 [] rfl (by kernel_rfl) rfl rfl ?_ ?_
        · refine .cons (.plain rfl (ok_addrV0 (.tmp 0 rfl))) ?_
          refine .cons (.plain rfl (ok_loadV0 (.tmp 0 rfl))) ?_
          refine .cons (.plain rfl (ok_cmp (b := true) (.tmp 0 rfl) (.lit) (by decide))) ?_
          refine .cons (.plain rfl (ok_move (.tmp 0 rfl))) ?_
          refine .cons (.wanted 3 true rfl rfl rfl 0 rfl (ok_move (.tmp 1 rfl))) ?_
          refine .cons (.wanted 3 true rfl rfl rfl 0 rfl (ok_callE (con_class64 b hb) 2 rfl (.cons (.tmp 1 rfl) (.nil)))) ?_
          refine .cons (.wanted 3 true rfl rfl rfl 0 rfl (ok_cmp (b := true) (.tmp 1 rfl) (.lit) ((decide_eq_true (hc)).symm))) ?_
          refine .cons (.plain rfl (ok_pickT (.tmp 0 rfl) (.tmp 1 rfl))) ?_
          exact .nil
        clear H74 a74 w74 B74
        intro a75 w75 B75 H75
        refine ops_done ?_
        refine then_normal ?_
        refine f_condT H75 (.tmp 0 rfl) ?_
        refine wp_seq ?_
        refine flow_region (dsts := [some 153, some 154, some 152, some 155, some 156, some 20]) (refs := [[.pre 3], [.res 0, .pre 4], [.res 1], [.res 2], [.res 2], []]) (outs := [.res 3, .res 4, .res 5, .pre 1, .pre 2, .pre 4]) (als := [false, false, false, false, false, true]) (posts := [.val (Lit (.int .u64 b)), .val (Tup [IsI (floorI b), IsB true]), .val (Tup [IsI (floorI b), IsB true]), .val (IsI (floorI b)), .val (IsB true), .box 34 2 (Zero2)])
          (out := [(155, .val (IsI (floorI b))), (156, .val (IsB true)), (20, .box 34 2 (Zero2)), (9, .box 37 8 (IsNum (.flt b))), (6, .val (IsB false)), (191, .val (EnvV))]) (nb := [20]) H75 6 [6, 7] rfl (by kernel_rfl) rfl rfl ?_ ?_
        · refine .cons (.plain rfl (ok_move (.tmp 0 rfl))) ?_
          refine .cons (.plain rfl (ok_callE (con_floor b hb hp he) 1 rfl (.cons (.tmp 0 rfl) (.nil)))) ?_
          refine .cons (.plain rfl (ok_move (.tmp 0 rfl))) ?_
          refine .cons (.plain rfl (ok_extract 0 (.tmp 0 rfl) rfl)) ?_
          refine .cons (.plain rfl (ok_extract 1 (.tmp 0 rfl) rfl)) ?_
          refine .cons (.plain rfl (ok_alloc (D := Zero2) zeroI rfl (fun _ _ => rfl))) ?_
          exact .nil
        clear H75 a75 w75 B75
        intro a76 w76 B76 H76
        simp only [List.cons_append, List.nil_append] at H76
        refine ops_one ?_
        refine store_op (l' := [(155, .val (IsI (floorI b))), (156, .val (IsB true)), (20, .box 34 2 (IsI (floorI b))), (9, .box 37 8 (IsNum (.flt b))), (6, .val (IsB false)), (191, .val (EnvV))]) 2 H76 rfl tyI rfl (.tmp 0 rfl) shape_Z shape_I rfl rfl ?_
        clear H76 w76
        intro w77 H77
        refine ops_one ?_
        refine tail_op (D := .val (IsB true)) (l' := [(21, .val (IsB true)), (155, .val (IsI (floorI b))), (156, .val (IsB true)), (20, .box 34 2 (IsI (floorI b))), (9, .box 37 8 (IsNum (.flt b))), (6, .val (IsB false)), (191, .val (EnvV))]) H77 rfl rfl rfl (.plain rfl (ok_assign (.tmp 1 rfl))) rfl rfl ?_
        clear H77 a76 w77 B76
        intro a78 w78 B78 H78
        refine ops_done ?_
        refine then_normal ?_
        refine wp_seq ?_
        refine wp_seq ?_
        refine flow_region (dsts := [some 157, some 158]) (refs := [[.pre 0], [.res 0]]) (outs := [.res 1, .pre 3, .pre 4, .pre 5, .pre 6]) (als := [false, false]) (posts := [.val (IsB true), .val (IsB false)])
          (out := [(158, .val (IsB false)), (20, .box 34 2 (IsI (floorI b))), (9, .box 37 8 (IsNum (.flt b))), (6, .val (IsB false)), (191, .val (EnvV))]) (nb := []) H78 2 [] rfl (by kernel_rfl) rfl rfl ?_ ?_
        · refine .cons (.plain rfl (ok_move (.tmp 0 rfl))) ?_
          refine .cons (.plain rfl (ok_not (b := true) (.tmp 0 rfl))) ?_
          exact .nil
        clear H78 a78 w78 B78
        intro a79 w79 B79 H79
        refine ops_done ?_
        refine then_normal ?_
        refine f_condF H79 (.tmp 0 rfl) ?_
        refine wp_skip ?_
        refine then_normal ?_
        refine wp_seq ?_
        refine flow_drawT (dsts := [some 161, some 162, some 163, some 164, some 160, some 165, some 166, some 22, some 23]) (refs := [[.pre 1], [.res 0], [.pre 2], [.res 1, .res 2, .pre 4], [.res 3], [.res 4], [.res 4], [.res 5], [.res 6]]) (outs := [.res 7, .res 8, .pre 1, .pre 2, .pre 3, .pre 4]) (als := [false, false, false, false, false, false, false, false, false]) (posts := [.val (IsI (floorI b)), .val (IsNum (.int (floorI b))), .val (IsNum (.flt b)), .val (Tup [Lit (.int .i64 (-1)), IsB true]), .val (Tup [Lit (.int .i64 (-1)), IsB true]), .val (Lit (.int .i64 (-1))), .val (IsB true), .val (Lit (.int .i64 (-1))), .val (IsB true)])
          (out := [(22, .val (Lit (.int .i64 (-1)))), (23, .val (IsB true)), (20, .box 34 2 (IsI (floorI b))), (9, .box 37 8 (IsNum (.flt b))), (6, .val (IsB false)), (191, .val (EnvV))]) (nb := []) H79 (by kernel_rfl) 9 0 #[true, true, true, true, true, true, true, true, true] (by kernel_rfl) (by kernel_rfl) rfl rfl ?_ ?_
        · refine .cons (.plain rfl (ok_load tyI (.tmp 0 rfl))) ?_
          refine .cons (.plain rfl (ok_call (con_ofint (floorI b)) (.cons (.weak (.tmp 0 rfl) weakIN) (.nil)))) ?_
          refine .cons (.plain rfl (ok_load tyV (.tmp 0 rfl))) ?_
          refine .cons (.plain rfl (ok_callE ((con_ncmp (.int (floorI b)) (.flt b) trivial hz2).weak (fun v w B h => by rw [show cmpO (whatV (.int (floorI b))) (whatV (.flt b)) = (-1, true) by rw [qw]; exact (floor_lt hb hp he).1] at h; exact h)) 2 rfl (.cons (.tmp 0 rfl) (.cons (.tmp 1 rfl) (.nil))))) ?_
          refine .cons (.plain rfl (ok_move (.tmp 0 rfl))) ?_
          refine .cons (.plain rfl (ok_extract 0 (.tmp 0 rfl) rfl)) ?_
          refine .cons (.plain rfl (ok_extract 1 (.tmp 0 rfl) rfl)) ?_
          refine .cons (.plain rfl (ok_assign (.tmp 0 rfl))) ?_
          refine .cons (.plain rfl (ok_assign (.tmp 0 rfl))) ?_
          exact .nil
        clear H79 a79 w79 B79
        intro a80 w80 B80 H80
        refine any_done (by kernel_rfl) ?_
        refine then_normal ?_
        refine wp_seq ?_
        refine flow_drawT (dsts := [some 168, some 169, some 170, some 171, some 172, some 173, some 167, some 174, some 175, some 24, some 25]) (refs := [[.pre 3], [.pre 2], [], [.res 1, .res 2], [.res 3], [.res 0, .res 4, .pre 5], [.res 5], [.res 6], [.res 6], [.res 7], [.res 8]]) (outs := [.res 9, .res 10, .pre 0, .pre 1, .pre 4, .pre 5]) (als := [false, false, false, false, false, false, false, false, false, false, false]) (posts := [.val (IsNum (.flt b)), .val (IsI (floorI b)), .val (IsI 1), .val (IsI ((floorI b) + 1)), .val (IsNum (.int ((floorI b) + 1))), .val (Tup [Lit (.int .i64 (-1)), IsB true]), .val (Tup [Lit (.int .i64 (-1)), IsB true]), .val (Lit (.int .i64 (-1))), .val (IsB true), .val (Lit (.int .i64 (-1))), .val (IsB true)])
          (out := [(24, .val (Lit (.int .i64 (-1)))), (25, .val (IsB true)), (22, .val (Lit (.int .i64 (-1)))), (23, .val (IsB true)), (6, .val (IsB false)), (191, .val (EnvV))]) (nb := []) H80 (by kernel_rfl) 11 0 #[true, true, true, true, true, true, true, true, true, true, true] (by kernel_rfl) (by kernel_rfl) rfl rfl ?_ ?_
        · refine .cons (.plain rfl (ok_load tyV (.tmp 0 rfl))) ?_
          refine .cons (.plain rfl (ok_load tyI (.tmp 0 rfl))) ?_
          refine .cons (.plain rfl (ok_call (con_from 1 (by omega)) (.cons (.lit) (.nil)))) ?_
          refine .cons (.plain rfl (ok_call (con_add (floorI b) 1 ((((FitK.i64 (N := floorI b) (by omega)).add (FitK.small (N := 1) (by decide)))).fits (by omega))) (.cons (.weak (.tmp 0 rfl) weakIN) (.cons (.weak (.tmp 1 rfl) weakIN) (.nil))))) ?_
          refine .cons (.plain rfl (ok_call (con_ofint ((floorI b) + 1)) (.cons (.weak (.tmp 0 rfl) weakIN) (.nil)))) ?_
          refine .cons (.plain rfl (ok_callE ((con_ncmp (.flt b) (.int ((floorI b) + 1)) hz2 trivial).weak (fun v w B h => by rw [show cmpO (whatV (.flt b)) (whatV (.int (floorI b + 1))) = (-1, true) by rw [qw]; exact (floor_lt hb hp he).2.1] at h; exact h)) 2 rfl (.cons (.tmp 0 rfl) (.cons (.tmp 1 rfl) (.nil))))) ?_
          refine .cons (.plain rfl (ok_move (.tmp 0 rfl))) ?_
          refine .cons (.plain rfl (ok_extract 0 (.tmp 0 rfl) rfl)) ?_
          refine .cons (.plain rfl (ok_extract 1 (.tmp 0 rfl) rfl)) ?_
          refine .cons (.plain rfl (ok_assign (.tmp 0 rfl))) ?_
          refine .cons (.plain rfl (ok_assign (.tmp 0 rfl))) ?_
          exact .nil
        clear H80 a80 w80 B80
        intro a81 w81 B81 H81
        refine any_done (by kernel_rfl) ?_
        refine then_normal ?_
        refine wp_seq ?_
        refine flow_region (dsts := [some 176, some 177, some 178, some 179, some 180, some 181, some 182, some 183, some 184, some 185, some 186, some 187, some 188, some 189]) (refs := [[.pre 2], [.res 0], [.res 1], [.res 2, .pre 0], [.res 2, .res 3], [.res 2, .res 4], [.res 5], [.res 6, .pre 3], [.res 6, .res 7], [.res 6, .res 8], [.res 9], [.res 10, .pre 1], [.res 10, .res 11], [.res 10, .res 12]]) (outs := [.res 13, .pre 4, .pre 5]) (als := [false, false, false, false, false, false, false, false, false, false, false, false, false, false]) (posts := [.val (Lit (.int .i64 (-1))), .val (IsB false), .val (IsB false), .val (Lit (.int .i64 (-1))), .val (IsB false), .val (IsB false), .val (IsB false), .val (IsB true), .val (IsB false), .val (IsB false), .val (IsB false), .val (IsB true), .val (IsB false), .val (IsB false)])
          (out := [(189, .val (IsB false)), (6, .val (IsB false)), (191, .val (EnvV))]) (nb := []) H81 14 [] rfl (by kernel_rfl) rfl rfl ?_ ?_
        · refine .cons (.plain rfl (ok_move (.tmp 0 rfl))) ?_
          refine .cons (.plain rfl (ok_cmp (b := false) (.tmp 0 rfl) (.lit) (by decide))) ?_
          refine .cons (.plain rfl (ok_move (.tmp 0 rfl))) ?_
          refine .cons (.wanted 2 false rfl rfl rfl 0 rfl (ok_move (.tmp 1 rfl))) ?_
          refine .cons (.wanted 2 false rfl rfl rfl 0 rfl (ok_cmp (b := false) (.tmp 1 rfl) (.lit) (by decide))) ?_
          refine .cons (.plain rfl (ok_pickF (.tmp 0 rfl) (.tmp 1 rfl))) ?_
          refine .cons (.plain rfl (ok_move (.tmp 0 rfl))) ?_
          refine .cons (.wanted 6 false rfl rfl rfl 0 rfl (ok_move (.tmp 1 rfl))) ?_
          refine .cons (.wanted 6 false rfl rfl rfl 0 rfl (ok_not (b := true) (.tmp 1 rfl))) ?_
          refine .cons (.plain rfl (ok_pickF (.tmp 0 rfl) (.tmp 1 rfl))) ?_
          refine .cons (.plain rfl (ok_move (.tmp 0 rfl))) ?_
          refine .cons (.wanted 10 false rfl rfl rfl 0 rfl (ok_move (.tmp 1 rfl))) ?_
          refine .cons (.wanted 10 false rfl rfl rfl 0 rfl (ok_not (b := true) (.tmp 1 rfl))) ?_
          refine .cons (.plain rfl (ok_pickF (.tmp 0 rfl) (.tmp 1 rfl))) ?_
          exact .nil
        clear H81 a81 w81 B81
        intro a82 w82 B82 H82
        refine ops_done ?_
        refine then_normal ?_
        refine f_condF H82 (.tmp 0 rfl) ?_
        refine wp_skip ?_
        refine then_normal ?_
        refine wp_seq ?_
        refine flow_region (dsts := [some 190, some 6]) (refs := [[.pre 2], [.res 0]]) (outs := [.res 1, .pre 2]) (als := [false, false]) (posts := [.val (IsB true), .val (IsB true)])
          (out := [(6, .val (IsB true)), (191, .val (EnvV))]) (nb := []) H82 2 [] rfl (by kernel_rfl) rfl rfl ?_ ?_
        · refine .cons (.plain rfl (ok_callE (con_lives15) 0 rfl (.nil))) ?_
          refine .cons (.plain rfl (ok_assign (.tmp 0 rfl))) ?_
          exact .nil
        clear H82 a82 w82 B82
        intro a83 w83 B83 H83
        refine ops_done ?_
        refine then_normal ?_
        refine wp_ret ?_
        exact f_ret H83 rfl 0 rfl (fun _ _ _ h => h)
theorem walk_NumberOrder (w : World) (hS : Shapes w) (hT : Tab w) (ngx : Bool) (adx : Option Addr) (nx cx : Nat) (xx : List Int) (fx : Arg w adx nx cx xx) (yx : nx * 4 ≤ 140737488351232) (ngy : Bool) (ady : Option Addr) (ny cy : Nat) (xy : List Int) (fy : Arg w ady ny cy xy) (yy : ny * 4 ≤ 140737488351232) (b : Int) (hb : 0 ≤ b ∧ b < 18446744073709551616) :
    Calls Tryz.prog 11 #[.agg #[.bool ngx, .slice adx nx cx], .agg #[.bool ngy, .slice ady ny cy], .int .u64 b] w (fun e w' => e = .returned (.bool true) ∧ Below w.heap.size w w') := by
  refine ((con_NumberOrder ngx nx xx yx ngy ny xy yy b hb).calls [.agg #[.bool ngx, .slice adx nx cx], .agg #[.bool ngy, .slice ady ny cy], .int .u64 b] w (fun _ => False) (fun _ h => h.elim) ⟨hS, hT, fun h => h⟩ ⟨⟨adx, cx, rfl, fx⟩, ⟨ady, cy, rfl, fy⟩, rfl, trivial⟩).mono ?_
  rintro e w' ⟨v, rfl, h, hb⟩
  obtain rfl := h
  exact ⟨rfl, hb⟩
end Go.Proofs.YtoimhjcpeifegaaGreatDoor
