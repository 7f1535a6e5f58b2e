/- The law NumberOf: its walk. -/
import Derived.Test.YtoimhjcpeifegaaGreatDoorPk34
import Derived.Test.YtoimhjcpeifegaaGreatDoorPk40
set_option linter.unusedVariables false
set_option linter.unusedSimpArgs false
/- WalkNumberOf. (Printed by flow15.py.) -/
namespace Go.Proofs.YtoimhjcpeifegaaGreatDoor
open Go Go.RowKit

set_option maxRecDepth 20000 in
set_option maxHeartbeats 4000000 in
theorem con_NumberOf (x : Int) (hx : 0 ≤ x ∧ x < 18446744073709551616) (ngy : Bool) (ny : Nat) (xy : List Int) (yy : ny * 4 ≤ 140737488351232) : ConE Tryz.prog 8 [Lit (.int .u64 x), IsArg ngy ny xy] (IsB true) := by
  refine f_enterE (N := 69) Tryz.ntmps8 (fun _ _ => by go_simp) Tryz.func8 rfl (by simp) ?_
  intro a0 w0 B0 H0
  replace H0 : St 69 w0 B0 a0 w0 B0 [(0, .val (Lit (.int .u64 x))), (1, .val (IsArg ngy ny xy)), (69, .val (EnvV))] [] := H0
  obtain ⟨Y, hY⟩ : ∃ X, sI ngy (val 4294967296 xy) = X := ⟨_, rfl⟩
  have fY : FitK ny Y := PArg.fit hY (H0.fc.get 1 rfl)
  refine wp_seq ?_
  refine flow_region (dsts := [some 3, some 4]) (refs := [[.pre 1], []]) (outs := [.res 0, .res 1, .pre 0, .pre 2]) (als := [true, false]) (posts := [.box 34 2 (IsArg ngy ny xy), .val (IsB false)])
    (out := [(3, .box 34 2 (IsArg ngy ny xy)), (4, .val (IsB false)), (0, .val (Lit (.int .u64 x))), (69, .val (EnvV))]) (nb := [3]) H0 2 [] rfl (by kernel_rfl) rfl rfl ?_ ?_
  · refine .cons (.plain rfl (ok_box (.tmp 0 rfl) shape_Arg.two)) ?_
    refine .cons (.plain rfl (ok_assign (.lit))) ?_
    exact .nil
  clear H0
  intro a1 w1 B1 H1
  simp only [List.cons_append, List.nil_append] at H1
  refine ops_done ?_
  refine then_normal ?_
  refine wp_seq ?_
  refine wp_seq ?_
  refine flow_region (dsts := [some 11, some 12, some 13, some 14]) (refs := [[.pre 0], [.res 0], [.res 1], [.res 2]]) (outs := [.res 3, .pre 0, .pre 1, .pre 2, .pre 3]) (als := [false, false, false, false]) (posts := [.ptr 34 2 (IsArg ngy ny xy) 1, .val (IsSl ny), .val (IsNats1 ny), .val (IsIf True (ny ≤ 1048576))])
    (out := [(14, .val (IsIf True (ny ≤ 1048576))), (3, .box 34 2 (IsArg ngy ny xy)), (4, .val (IsB false)), (0, .val (Lit (.int .u64 x))), (69, .val (EnvV))]) (nb := []) H1 4 [] rfl (by kernel_rfl) rfl rfl ?_ ?_
  · refine .cons (.plain rfl (ok_addrI1 (.tmp 0 rfl))) ?_
    refine .cons (.plain rfl (ok_loadMagA (.tmp 0 rfl))) ?_
    refine .cons (.plain rfl (ok_nats1 (.tmp 0 rfl))) ?_
    refine .cons (.plain rfl (ok_call (con_beyondNat1 ny (by omega)) (.cons (.tmp 0 rfl) (.nil)))) ?_
    exact .nil
  clear H1 a1 w1 B1
  intro a2 w2 B2 H2
  refine ops_done ?_
  refine then_normal ?_
  refine f_condI H2 (.tmp 0 rfl) ?_ ?_
  · intro hc3
    refine wp_seq ?_
    refine flow_region (dsts := [some 4]) (refs := [[]]) (outs := [.res 0, .pre 1, .pre 3, .pre 4]) (als := [false]) (posts := [.val (IsB true)])
      (out := [(4, .val (IsB true)), (3, .box 34 2 (IsArg ngy ny xy)), (0, .val (Lit (.int .u64 x))), (69, .val (EnvV))]) (nb := []) H2 1 [] rfl (by kernel_rfl) rfl rfl ?_ ?_
    · refine .cons (.plain rfl (ok_assign (.lit))) ?_
      exact .nil
    clear H2 a2 w2 B2
    intro a4 w4 B4 H4
    refine ops_done ?_
    refine then_normal ?_
    refine wp_ret ?_
    refine then_ret ?_
    exact f_ret H4 rfl 0 rfl (fun _ _ _ h => h)
  · intro hc3
    have ly := hc3
    refine wp_skip ?_
    refine then_normal ?_
    refine wp_seq ?_
    refine flow_region (dsts := [some 15, some 16, some 17, some 18, some 19, some 20, some 21, some 22, some 5, some 6, some 7]) (refs := [[.pre 3], [.res 0, .pre 4], [.pre 3], [.res 2], [.res 3, .pre 4], [.pre 3], [.res 5], [.res 6, .pre 4], [], [], []]) (outs := [.res 1, .res 4, .res 7, .res 8, .res 9, .res 10, .pre 1, .pre 2, .pre 3, .pre 4]) (als := [false, false, false, false, false, false, false, false, true, true, true]) (posts := [.val (Lit (.int .u64 x)), .val (IsNum (ofV 64 x)), .val (Lit (.int .u64 x)), .val (Lit (.int .u32 (x % 4294967296))), .val (IsNum (ofV 32 (x % 4294967296))), .val (Lit (.int .u64 x)), .val (Lit (.int .u16 (x % 65536))), .val (IsNum (ofV 16 (x % 65536))), .box 37 8 (IsVal 0 0 (IsI 0) 0 0 (⟨#[]⟩) (K0)), .box 37 8 (IsVal 0 0 (IsI 0) 0 0 (⟨#[]⟩) (K0)), .box 37 8 (IsVal 0 0 (IsI 0) 0 0 (⟨#[]⟩) (K0))])
      (out := [(16, .val (IsNum (ofV 64 x))), (19, .val (IsNum (ofV 32 (x % 4294967296)))), (22, .val (IsNum (ofV 16 (x % 65536)))), (5, .box 37 8 (IsVal 0 0 (IsI 0) 0 0 (⟨#[]⟩) (K0))), (6, .box 37 8 (IsVal 0 0 (IsI 0) 0 0 (⟨#[]⟩) (K0))), (7, .box 37 8 (IsVal 0 0 (IsI 0) 0 0 (⟨#[]⟩) (K0))), (3, .box 34 2 (IsArg ngy ny xy)), (4, .val (IsB false)), (0, .val (Lit (.int .u64 x))), (69, .val (EnvV))]) (nb := [5, 6, 7]) H2 11 [11, 12, 13] rfl (by kernel_rfl) rfl rfl ?_ ?_
    · refine .cons (.plain rfl (ok_move (.tmp 0 rfl))) ?_
      refine .cons (.plain rfl (ok_callE (con_of64 x hx) 1 rfl (.cons (.tmp 0 rfl) (.nil)))) ?_
      refine .cons (.plain rfl (ok_move (.tmp 0 rfl))) ?_
      refine .cons (.plain rfl (ok_conv Tryz.underlying24 Tryz.underlying23 (r := (x % 4294967296)) (.tmp 0 rfl) (IntKind.wrap_u32 _))) ?_
      refine .cons (.plain rfl (ok_callE (con_of32 (x % 4294967296) (by omega)) 1 rfl (.cons (.tmp 0 rfl) (.nil)))) ?_
      refine .cons (.plain rfl (ok_move (.tmp 0 rfl))) ?_
      refine .cons (.plain rfl (ok_conv Tryz.underlying24 Tryz.underlying22 (r := (x % 65536)) (.tmp 0 rfl) (IntKind.wrap_u16 _))) ?_
      refine .cons (.plain rfl (ok_callE (con_of16 (x % 65536) (by omega)) 1 rfl (.cons (.tmp 0 rfl) (.nil)))) ?_
      refine .cons (.plain rfl (ok_allocV)) ?_
      refine .cons (.plain rfl (ok_allocV)) ?_
      refine .cons (.plain rfl (ok_allocV)) ?_
      exact .nil
    clear H2 a2 w2 B2
    intro a5 w5 B5 H5
    simp only [List.cons_append, List.nil_append] at H5
    refine ops_one ?_
    refine store_op (l' := [(16, .val (IsNum (ofV 64 x))), (19, .val (IsNum (ofV 32 (x % 4294967296)))), (22, .val (IsNum (ofV 16 (x % 65536)))), (5, .box 37 8 (IsNum (ofV 64 x))), (6, .box 37 8 (IsVal 0 0 (IsI 0) 0 0 (⟨#[]⟩) (K0))), (7, .box 37 8 (IsVal 0 0 (IsI 0) 0 0 (⟨#[]⟩) (K0))), (3, .box 34 2 (IsArg ngy ny xy)), (4, .val (IsB false)), (0, .val (Lit (.int .u64 x))), (69, .val (EnvV))]) 3 H5 rfl tyV rfl (.tmp 0 rfl) (shape_Val shape_I oneK0) shape_Num rfl rfl ?_
    clear H5 w5
    intro w6 H6
    refine ops_one ?_
    refine store_op (l' := [(16, .val (IsNum (ofV 64 x))), (19, .val (IsNum (ofV 32 (x % 4294967296)))), (22, .val (IsNum (ofV 16 (x % 65536)))), (5, .box 37 8 (IsNum (ofV 64 x))), (6, .box 37 8 (IsNum (ofV 32 (x % 4294967296)))), (7, .box 37 8 (IsVal 0 0 (IsI 0) 0 0 (⟨#[]⟩) (K0))), (3, .box 34 2 (IsArg ngy ny xy)), (4, .val (IsB false)), (0, .val (Lit (.int .u64 x))), (69, .val (EnvV))]) 4 H6 rfl tyV rfl (.tmp 1 rfl) (shape_Val shape_I oneK0) shape_Num rfl rfl ?_
    clear H6 w6
    intro w7 H7
    refine ops_one ?_
    refine store_op (l' := [(16, .val (IsNum (ofV 64 x))), (19, .val (IsNum (ofV 32 (x % 4294967296)))), (22, .val (IsNum (ofV 16 (x % 65536)))), (5, .box 37 8 (IsNum (ofV 64 x))), (6, .box 37 8 (IsNum (ofV 32 (x % 4294967296)))), (7, .box 37 8 (IsNum (ofV 16 (x % 65536)))), (3, .box 34 2 (IsArg ngy ny xy)), (4, .val (IsB false)), (0, .val (Lit (.int .u64 x))), (69, .val (EnvV))]) 5 H7 rfl tyV rfl (.tmp 2 rfl) (shape_Val shape_I oneK0) shape_Num rfl rfl ?_
    clear H7 w7
    intro w8 H8
    refine ops_done ?_
    refine then_normal ?_
    refine wp_seq ?_
    refine flow_region (dsts := [some 23, some 24, some 8]) (refs := [[.pre 6], [.res 0], []]) (outs := [.res 1, .res 2, .pre 3, .pre 4, .pre 5, .pre 6, .pre 7, .pre 8, .pre 9]) (als := [false, false, true]) (posts := [.val (IsArg ngy ny xy), .val (IsTw ngy ny xy), .box 34 2 (Zero2)])
      (out := [(24, .val (IsTw ngy ny xy)), (8, .box 34 2 (Zero2)), (5, .box 37 8 (IsNum (ofV 64 x))), (6, .box 37 8 (IsNum (ofV 32 (x % 4294967296)))), (7, .box 37 8 (IsNum (ofV 16 (x % 65536)))), (3, .box 34 2 (IsArg ngy ny xy)), (4, .val (IsB false)), (0, .val (Lit (.int .u64 x))), (69, .val (EnvV))]) (nb := [8]) H8 3 [3] rfl (by kernel_rfl) rfl rfl ?_ ?_
    · refine .cons (.plain rfl (ok_load tyI (.tmp 0 rfl))) ?_
      refine .cons (.plain rfl (ok_call (con_twinInt ngy ny xy (by omega)) (.cons (.tmp 0 rfl) (.nil)))) ?_
      refine .cons (.plain rfl (ok_alloc (D := Zero2) zeroI rfl (fun _ _ => rfl))) ?_
      exact .nil
    clear H8 a5 w8 B5
    intro a9 w9 B9 H9
    simp only [List.cons_append, List.nil_append] at H9
    refine ops_one ?_
    refine store_op (l' := [(24, .val (IsTw ngy ny xy)), (8, .box 34 2 (IsTw ngy ny xy)), (5, .box 37 8 (IsNum (ofV 64 x))), (6, .box 37 8 (IsNum (ofV 32 (x % 4294967296)))), (7, .box 37 8 (IsNum (ofV 16 (x % 65536)))), (3, .box 34 2 (IsArg ngy ny xy)), (4, .val (IsB false)), (0, .val (Lit (.int .u64 x))), (69, .val (EnvV))]) 1 H9 rfl tyI rfl (.tmp 0 rfl) shape_Z shape_Tw rfl rfl ?_
    clear H9 w9
    intro w10 H10
    refine ops_done ?_
    refine then_normal ?_
    refine wp_seq ?_
    refine flow_region (dsts := [some 25, some 26, some 27, some 28, some 29, some 9, some 10]) (refs := [[.pre 1], [.res 0], [.pre 7], [.res 2], [.res 3, .pre 8], [], []]) (outs := [.res 1, .res 4, .res 5, .res 6, .pre 1, .pre 2, .pre 3, .pre 4, .pre 5, .pre 6, .pre 7, .pre 8]) (als := [false, false, false, false, false, true, true]) (posts := [.val (IsTw ngy ny xy), .val (IsNum (.int Y)), .val (Lit (.int .u64 x)), .val (Lit (.int .u32 (x % 4294967296))), .val (IsNum (ofV 32 (x % 4294967296))), .box 37 8 (IsVal 0 0 (IsI 0) 0 0 (⟨#[]⟩) (K0)), .box 37 8 (IsVal 0 0 (IsI 0) 0 0 (⟨#[]⟩) (K0))])
      (out := [(26, .val (IsNum (.int Y))), (29, .val (IsNum (ofV 32 (x % 4294967296)))), (9, .box 37 8 (IsVal 0 0 (IsI 0) 0 0 (⟨#[]⟩) (K0))), (10, .box 37 8 (IsVal 0 0 (IsI 0) 0 0 (⟨#[]⟩) (K0))), (8, .box 34 2 (IsTw ngy ny xy)), (5, .box 37 8 (IsNum (ofV 64 x))), (6, .box 37 8 (IsNum (ofV 32 (x % 4294967296)))), (7, .box 37 8 (IsNum (ofV 16 (x % 65536)))), (3, .box 34 2 (IsArg ngy ny xy)), (4, .val (IsB false)), (0, .val (Lit (.int .u64 x))), (69, .val (EnvV))]) (nb := [9, 10]) H10 7 [7, 8] rfl (by kernel_rfl) rfl rfl ?_ ?_
    · refine .cons (.plain rfl (ok_load tyI (.tmp 0 rfl))) ?_
      refine .cons (.plain rfl (ok_call (con_ofint Y) (.cons (.weak (.tmp 0 rfl) (weakTN (by omega) hY)) (.nil)))) ?_
      refine .cons (.plain rfl (ok_move (.tmp 0 rfl))) ?_
      refine .cons (.plain rfl (ok_conv Tryz.underlying24 Tryz.underlying74 (r := (x % 4294967296)) (.tmp 0 rfl) (IntKind.wrap_u32 _))) ?_
      refine .cons (.plain rfl (ok_callE (con_ofOwn (x % 4294967296) (by omega)) 1 rfl (.cons (.tmp 0 rfl) (.nil)))) ?_
      refine .cons (.plain rfl (ok_allocV)) ?_
      refine .cons (.plain rfl (ok_allocV)) ?_
      exact .nil
    clear H10 a9 w10 B9
    intro a11 w11 B11 H11
    simp only [List.cons_append, List.nil_append] at H11
    refine ops_one ?_
    refine store_op (l' := [(26, .val (IsNum (.int Y))), (29, .val (IsNum (ofV 32 (x % 4294967296)))), (9, .box 37 8 (IsNum (.int Y))), (10, .box 37 8 (IsVal 0 0 (IsI 0) 0 0 (⟨#[]⟩) (K0))), (8, .box 34 2 (IsTw ngy ny xy)), (5, .box 37 8 (IsNum (ofV 64 x))), (6, .box 37 8 (IsNum (ofV 32 (x % 4294967296)))), (7, .box 37 8 (IsNum (ofV 16 (x % 65536)))), (3, .box 34 2 (IsArg ngy ny xy)), (4, .val (IsB false)), (0, .val (Lit (.int .u64 x))), (69, .val (EnvV))]) 2 H11 rfl tyV rfl (.tmp 0 rfl) (shape_Val shape_I oneK0) shape_Num rfl rfl ?_
    clear H11 w11
    intro w12 H12
    refine ops_one ?_
    refine store_op (l' := [(26, .val (IsNum (.int Y))), (29, .val (IsNum (ofV 32 (x % 4294967296)))), (9, .box 37 8 (IsNum (.int Y))), (10, .box 37 8 (IsNum (ofV 32 (x % 4294967296)))), (8, .box 34 2 (IsTw ngy ny xy)), (5, .box 37 8 (IsNum (ofV 64 x))), (6, .box 37 8 (IsNum (ofV 32 (x % 4294967296)))), (7, .box 37 8 (IsNum (ofV 16 (x % 65536)))), (3, .box 34 2 (IsArg ngy ny xy)), (4, .val (IsB false)), (0, .val (Lit (.int .u64 x))), (69, .val (EnvV))]) 3 H12 rfl tyV rfl (.tmp 1 rfl) (shape_Val shape_I oneK0) shape_Num rfl rfl ?_
    clear H12 w12
    intro w13 H13
    refine ops_done ?_
    refine then_normal ?_
    refine wp_seq ?_
    refine wp_seq ?_
    refine flow_drawT (dsts := [some 30, some 31, some 32, some 33, some 34, some 35, some 36, some 37, some 38, some 39, some 40, some 41, some 42, some 43, some 44, some 45, some 46, some 47, some 48, some 49, some 50, some 51, some 52, some 53, some 54, some 55, some 56]) (refs := [[.pre 5], [.pre 10], [.res 1], [.res 0, .res 2], [.res 3], [.res 4], [.res 5, .pre 6], [.res 5, .pre 10], [.res 5, .res 7], [.res 5, .res 8], [.res 5, .res 6, .res 9], [.res 5, .res 10], [.res 5, .res 11], [.res 12], [.res 13, .pre 7], [.res 13, .pre 10], [.res 13, .res 15], [.res 13, .res 16], [.res 13, .res 14, .res 17], [.res 13, .res 18], [.res 13, .res 19], [.res 20], [.res 21, .pre 6], [.res 21, .pre 3], [.res 21, .res 22, .res 23], [.res 21, .res 24], [.res 21, .res 25]]) (outs := [.res 26, .pre 2, .pre 4, .pre 8, .pre 9, .pre 11]) (als := [false, false, false, false, false, false, false, false, false, false, false, false, false, false, false, false, false, false, false, false, false, false, false, false, false, false, false]) (posts := [.val (IsNum (ofV 64 x)), .val (Lit (.int .u64 x)), .val (IsNum (ofV 64 x)), .val (IsB true), .val (IsB false), .val (IsB false), .val (IsNum (ofV 32 (x % 4294967296))), .val (Lit (.int .u64 x)), .val (Lit (.int .u64 (x % 4294967296))), .val (IsNum (ofV 32 (x % 4294967296))), .val (IsB true), .val (IsB false), .val (IsB false), .val (IsB false), .val (IsNum (ofV 16 (x % 65536))), .val (Lit (.int .u64 x)), .val (Lit (.int .u64 (x % 65536))), .val (IsNum (ofV 16 (x % 65536))), .val (IsB true), .val (IsB false), .val (IsB false), .val (IsB false), .val (IsNum (ofV 32 (x % 4294967296))), .val (IsNum (ofV 32 (x % 4294967296))), .val (IsB true), .val (IsB false), .val (IsB false)])
      (out := [(56, .val (IsB false)), (9, .box 37 8 (IsNum (.int Y))), (8, .box 34 2 (IsTw ngy ny xy)), (3, .box 34 2 (IsArg ngy ny xy)), (4, .val (IsB false)), (69, .val (EnvV))]) (nb := []) H13 (by kernel_rfl) 27 0 #[true, true, true, true, true, true, true, true, true, true, true, true, true, true, true, true, true, true, true, true, true, true, true, true, true, true, true] (by kernel_rfl) (by kernel_rfl) rfl rfl ?_ ?_
    · refine .cons (.plain rfl (ok_load tyV (.tmp 0 rfl))) ?_
      refine .cons (.plain rfl (ok_move (.tmp 0 rfl))) ?_
      refine .cons (.plain rfl (ok_call (con_r15of 64 w64 x hx) (.cons (.lit) (.cons (.tmp 0 rfl) (.nil))))) ?_
      refine .cons (.plain rfl (ok_call ((con_sameval (ofV 64 x) (ofV 64 x)).weak (fun v w B h => isB_e (decide_eq_true rfl) h)) (.cons (.tmp 0 rfl) (.cons (.tmp 1 rfl) (.nil))))) ?_
      refine .cons (.plain rfl (ok_not (b := true) (.tmp 0 rfl))) ?_
      refine .cons (.plain rfl (ok_move (.tmp 0 rfl))) ?_
      refine .cons (.wanted 5 false rfl rfl rfl 0 rfl (ok_load tyV (.tmp 1 rfl))) ?_
      refine .cons (.wanted 5 false rfl rfl rfl 0 rfl (ok_move (.tmp 1 rfl))) ?_
      refine .cons (.wanted 5 false rfl rfl rfl 0 rfl (ok_rem (r := (x % 4294967296)) (.tmp 1 rfl) (.lit) (by omega) (Int.tmod_eq_emod_of_nonneg (by omega)))) ?_
      refine .cons (.wanted 5 false rfl rfl rfl 0 rfl (ok_call (con_r15of 32 w32 (x % 4294967296) (by omega)) (.cons (.lit) (.cons (.tmp 1 rfl) (.nil))))) ?_
      refine .cons (.wanted 5 false rfl rfl rfl 0 rfl (ok_call ((con_sameval (ofV 32 (x % 4294967296)) (ofV 32 (x % 4294967296))).weak (fun v w B h => isB_e (decide_eq_true rfl) h)) (.cons (.tmp 1 rfl) (.cons (.tmp 2 rfl) (.nil))))) ?_
      refine .cons (.wanted 5 false rfl rfl rfl 0 rfl (ok_not (b := true) (.tmp 1 rfl))) ?_
      refine .cons (.plain rfl (ok_pickF (.tmp 0 rfl) (.tmp 1 rfl))) ?_
      refine .cons (.plain rfl (ok_move (.tmp 0 rfl))) ?_
      refine .cons (.wanted 13 false rfl rfl rfl 0 rfl (ok_load tyV (.tmp 1 rfl))) ?_
      refine .cons (.wanted 13 false rfl rfl rfl 0 rfl (ok_move (.tmp 1 rfl))) ?_
      refine .cons (.wanted 13 false rfl rfl rfl 0 rfl (ok_rem (r := (x % 65536)) (.tmp 1 rfl) (.lit) (by omega) (Int.tmod_eq_emod_of_nonneg (by omega)))) ?_
      refine .cons (.wanted 13 false rfl rfl rfl 0 rfl (ok_call (con_r15of 16 w16 (x % 65536) (by omega)) (.cons (.lit) (.cons (.tmp 1 rfl) (.nil))))) ?_
      refine .cons (.wanted 13 false rfl rfl rfl 0 rfl (ok_call ((con_sameval (ofV 16 (x % 65536)) (ofV 16 (x % 65536))).weak (fun v w B h => isB_e (decide_eq_true rfl) h)) (.cons (.tmp 1 rfl) (.cons (.tmp 2 rfl) (.nil))))) ?_
      refine .cons (.wanted 13 false rfl rfl rfl 0 rfl (ok_not (b := true) (.tmp 1 rfl))) ?_
      refine .cons (.plain rfl (ok_pickF (.tmp 0 rfl) (.tmp 1 rfl))) ?_
      refine .cons (.plain rfl (ok_move (.tmp 0 rfl))) ?_
      refine .cons (.wanted 21 false rfl rfl rfl 0 rfl (ok_load tyV (.tmp 1 rfl))) ?_
      refine .cons (.wanted 21 false rfl rfl rfl 0 rfl (ok_load tyV (.tmp 1 rfl))) ?_
      refine .cons (.wanted 21 false rfl rfl rfl 0 rfl (ok_call ((con_sameval (ofV 32 (x % 4294967296)) (ofV 32 (x % 4294967296))).weak (fun v w B h => isB_e (decide_eq_true rfl) h)) (.cons (.tmp 1 rfl) (.cons (.tmp 2 rfl) (.nil))))) ?_
      refine .cons (.wanted 21 false rfl rfl rfl 0 rfl (ok_not (b := true) (.tmp 1 rfl))) ?_
      refine .cons (.plain rfl (ok_pickF (.tmp 0 rfl) (.tmp 1 rfl))) ?_
      exact .nil
    clear H13 a11 w13 B11
    intro a14 w14 B14 H14
    refine any_done (by kernel_rfl) ?_
    refine then_normal ?_
    refine f_condF H14 (.tmp 0 rfl) ?_
    refine wp_skip ?_
    refine then_normal ?_
    refine wp_seq ?_
    refine flow_drawT (dsts := [some 57, some 58, some 59, some 60, some 61, some 62, some 63, some 64, some 65, some 66, some 67, some 68, some 4]) (refs := [[.pre 1], [.pre 3], [.res 1], [.res 0, .res 2], [.res 3], [.res 4, .pre 2], [.res 4, .pre 3], [.res 4, .res 5, .res 6], [.res 4, .res 7], [.res 8], [.res 9, .pre 5], [.res 9, .res 10], [.res 11]]) (outs := [.res 12, .pre 5]) (als := [false, false, false, false, false, false, false, false, false, false, false, false, false]) (posts := [.val (IsNum (.int Y)), .val (IsArg ngy ny xy), .val (IsNum (.int Y)), .val (IsB true), .val (IsB true), .val (IsTw ngy ny xy), .val (IsArg ngy ny xy), .val (IsB true), .val (IsB true), .val (IsB true), .val (IsB true), .val (IsB true), .val (IsB true)])
      (out := [(4, .val (IsB true)), (69, .val (EnvV))]) (nb := []) H14 (by kernel_rfl) 13 0 #[true, true, true, true, true, true, true, true, true, true, true, true, true] (by kernel_rfl) (by kernel_rfl) rfl rfl ?_ ?_
    · refine .cons (.plain rfl (ok_load tyV (.tmp 0 rfl))) ?_
      refine .cons (.plain rfl (ok_load tyI (.tmp 0 rfl))) ?_
      refine .cons (.plain rfl (ok_call (con_r15ofint Y) (.cons (.weak (.tmp 0 rfl) (weakAN (by omega) hY)) (.nil)))) ?_
      refine .cons (.plain rfl (ok_call ((con_sameval (.int Y) (.int Y)).weak (fun v w B h => isB_e (decide_eq_true rfl) h)) (.cons (.tmp 0 rfl) (.cons (.tmp 1 rfl) (.nil))))) ?_
      refine .cons (.plain rfl (ok_move (.tmp 0 rfl))) ?_
      refine .cons (.wanted 4 true rfl rfl rfl 0 rfl (ok_load tyI (.tmp 1 rfl))) ?_
      refine .cons (.wanted 4 true rfl rfl rfl 0 rfl (ok_load tyI (.tmp 1 rfl))) ?_
      refine .cons (.wanted 4 true rfl rfl rfl 0 rfl (ok_call (con_left ngy ny xy (by omega)) (.cons (.tmp 1 rfl) (.cons (.tmp 2 rfl) (.nil))))) ?_
      refine .cons (.plain rfl (ok_pickT (.tmp 0 rfl) (.tmp 1 rfl))) ?_
      refine .cons (.plain rfl (ok_move (.tmp 0 rfl))) ?_
      refine .cons (.wanted 9 true rfl rfl rfl 0 rfl (ok_callE (con_lives15) 1 rfl (.nil))) ?_
      refine .cons (.plain rfl (ok_pickT (.tmp 0 rfl) (.tmp 1 rfl))) ?_
      refine .cons (.plain rfl (ok_assign (.tmp 0 rfl))) ?_
      exact .nil
    clear H14 a14 w14 B14
    intro a15 w15 B15 H15
    refine any_done (by kernel_rfl) ?_
    refine then_normal ?_
    refine wp_ret ?_
    exact f_ret H15 rfl 0 rfl (fun _ _ _ h => h)
theorem walk_NumberOf (w : World) (hS : Shapes w) (hT : Tab w) (x : Int) (hx : 0 ≤ x ∧ x < 18446744073709551616) (ngy : Bool) (ady : Option Addr) (ny cy : Nat) (xy : List Int) (fy : Arg w ady ny cy xy) (yy : ny * 4 ≤ 140737488351232) :
    Calls Tryz.prog 8 #[.int .u64 x, .agg #[.bool ngy, .slice ady ny cy]] w (fun e w' => e = .returned (.bool true) ∧ Below w.heap.size w w') := by
  refine ((con_NumberOf x hx ngy ny xy yy).calls [.int .u64 x, .agg #[.bool ngy, .slice ady ny cy]] w (fun _ => False) (fun _ h => h.elim) ⟨hS, hT, fun h => h⟩ ⟨rfl, ⟨ady, cy, rfl, fy⟩, trivial⟩).mono ?_
  rintro e w' ⟨v, rfl, h, hb⟩
  obtain rfl := h
  exact ⟨rfl, hb⟩
end Go.Proofs.YtoimhjcpeifegaaGreatDoor
