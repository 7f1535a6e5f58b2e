/- Contracts of functions, and plain facts, part 22. -/
import Derived.Test.YtbcbmkeeoognpaaGreatDoorPk20
set_option linter.unusedVariables false
set_option linter.unusedSimpArgs false
namespace Go.Proofs.YtbcbmkeeoognpaaGreatDoor
open Go Go.RowKit
set_option maxRecDepth 20000 in
set_option maxHeartbeats 2000000 in
theorem qbr (ng:Bool) (V:Int) (hV:0≤V):Con Tryz.prog 135 [Ur ng V] (zn (sI ng V)):=by
 refine Ba (N:=16) Tryz.ntmps135 (fun _ _=>by go_simp) Tryz.func135 rfl (by simp) ?_
 intro a0 w0 B0 H0
 replace H0:St 16 w0 B0 a0 w0 B0 [(0,.val (Ur ng V))] []:=H0
 refine wp_seq ?_
 refine fr (refs:=[[.pre 0],[]]) (outs:=[.res 0,.res 1]) (als:=[true,true]) (posts:=[.box 52 2 (Ur ng V),.box 52 2 (qp)])
  (out:=[(1,.box 52 2 (Ur ng V)),(2,.box 52 2 (qp))]) (nb:=[1,2]) H0 2 [] rfl (by kernel_rfl) rfl rfl ?_ ?_
 ·refine cp (Bq (.tmp 0 rfl) qk5.two) ?_
  refine cp (yw (D:=qp) Dq rfl (fun _ _=>rfl)) ?_
  exact .nil
 clear H0
 intro a1 w1 B1 H1
 simp only [List.cons_append,List.nil_append] at H1
 refine qi ?_
 refine qg ?_
 refine wp_seq ?_
 refine fr (refs:=[[.pre 0],[.res 0],[.res 1],[.res 2]]) (outs:=[.res 3,.pre 0,.pre 1]) (als:=fs 4) (posts:=[.ptr 52 2 (Ur ng V) 1,.val (IsM V),.val (zg V),.val (zg V)])
  (out:=[(3,.val (zg V)),(1,.box 52 2 (Ur ng V)),(2,.box 52 2 (qp))]) (nb:=[]) H1 4 [] rfl (by kernel_rfl) rfl rfl ?_ ?_
 ·refine cp (Ar (.tmp 0 rfl)) ?_
  refine cp (qar (.tmp 0 rfl)) ?_
  refine cp (zl (qdn V) (.cons (.tmp 0 rfl) (.nil))) ?_
  refine cp (qm (.tmp 0 rfl)) ?_
  exact .nil
 clear H1 a1 w1 B1
 intro a2 w2 B2 H2
 refine qi ?_
 refine qg ?_
 refine wp_seq ?_
 refine fr (refs:=[[.pre 1],[.res 0],[.res 1],[.res 2,.pre 0],[.res 2,.res 3],[.res 2,.res 4],[.res 2,.res 5],[.pre 0],[.res 6,.res 7]]) (outs:=[.res 8,.pre 2]) (als:=fs 9) (posts:=[.ptr 52 2 (Ur ng V) 0,bv ng,bv ng,.val (Grd (ng == true) (zg V)),.val (Grd (ng == true) (Lit (.int .i64 ((dg 4294967296 V).length:Int)))),.val (Grd (ng == true) (IsB (decide (0<((dg 4294967296 V).length:Int))))),bv (ng && (decide (0<((dg 4294967296 V).length:Int)))),.val (zg V),.val (zn (sI ng V))])
  (out:=[(15,.val (zn (sI ng V))),(2,.box 52 2 (qp))]) (nb:=[]) H2 9 [9] rfl (by kernel_rfl) rfl rfl ?_ ?_
 ·refine cp (Ri (.tmp 0 rfl)) ?_
  refine cp (qas (.tmp 0 rfl)) ?_
  refine cp (qh (.tmp 0 rfl)) ?_
  refine .cons (.sym 2 true ng (ng == true) rfl rfl rfl 0 (need':=[(9,bv ng),(3,.val (zg V))]) rfl rfl (fun a w B e h=>⟨h.1,h.2.1,trivial⟩) (fun e=>qh (.tmp 1 rfl))) ?_
  refine .cons (.sym 2 true ng (ng == true) rfl rfl rfl 0 (need':=[(9,bv ng),(10,.val (zg V))]) rfl rfl (fun a w B e h=>⟨h.1,h.2.1.1 (e),trivial⟩) (fun e=>Gm (.weak (.tmp 1 rfl) Np))) ?_
  refine .cons (.sym 2 true ng (ng == true) rfl rfl rfl 0 (need':=[(9,bv ng),(11,i6 ((dg 4294967296 V).length:Int))]) rfl rfl (fun a w B e h=>⟨h.1,h.2.1.1 (e),trivial⟩) (fun e=>jq (.tmp 1 rfl) (.lit) rfl)) ?_
  refine cp (F8 ng (.tmp 0 rfl) (fun e=>Opd.eqB (Opd.grd (.tmp 1 rfl) (by first | (rw [e];rfl) | (simp only [e];rfl) | (simp [*] at *;done))) (by rw [e];rfl)) (fun e=>Opd.eqB (.lit) (by rw [e];rfl))) ?_
  refine cp (qh (.tmp 0 rfl)) ?_
  refine cp (He (.tmp 0 rfl) (.tmp 1 rfl) (qhb hV) (qkn hV)) ?_
  exact .nil
 clear H2 a2 w2 B2
 intro a3 w3 B3 H3
 refine zi ?_
 refine ja (l':=[(15,.val (zn (sI ng V))),(2,.box 52 2 (zn (sI ng V)))]) 1 H3 rfl tyI rfl (.tmp 0 rfl) jl ve rfl rfl ?_
 clear H3 w3
 intro w4 H4
 refine qi ?_
 refine qg ?_
 refine wp_ret ?_
 exact Cc H4 tyI rfl 1 rfl (fun _ _ _ h=>h)
theorem Em (X:Int):Con Tryz.prog 135 [IsN X] (zn X):=qi3 (R:=fun X=>zn X) (fun ng V h _=>qbr ng V h) X
set_option maxRecDepth 20000 in
set_option maxHeartbeats 2000000 in
theorem qbq (n:Int) (hn : -9223372036854775808≤n∧n<9223372036854775808):Con Tryz.prog 136 [Lit (.int .i64 n)] (zn n):=by
 refine Ba (N:=14) Tryz.ntmps136 (fun _ _=>by go_simp) Tryz.func136 rfl (by simp) ?_
 intro a0 w0 B0 H0
 replace H0:St 14 w0 B0 a0 w0 B0 [(0,.val (Lit (.int .i64 n)))] []:=H0
 refine wp_seq ?_
 refine fr (refs:=[[]]) (outs:=[.res 0,.pre 0]) (als:=[true]) (posts:=[.box 52 2 (qp)])
  (out:=[(2,.box 52 2 (qp)),(0,i6 n)]) (nb:=[2]) H0 1 [] rfl (by kernel_rfl) rfl rfl ?_ ?_
 ·refine cp (yw (D:=qp) Dq rfl (fun _ _=>rfl)) ?_
  exact .nil
 clear H0
 intro a1 w1 B1 H1
 simp only [List.cons_append,List.nil_append] at H1
 refine qi ?_
 refine qg ?_
 refine wp_seq ?_
 refine wp_seq ?_
 refine fr (refs:=[[.pre 1],[.res 0]]) (outs:=[.res 1,.pre 0,.pre 1]) (als:=fs 2) (posts:=[i6 n,bv (decide (n<0))])
  (out:=[(4,bv (decide (n<0))),(2,.box 52 2 (qp)),(0,i6 n)]) (nb:=[]) H1 2 [] rfl (by kernel_rfl) rfl rfl ?_ ?_
 ·refine cp (qh (.tmp 0 rfl)) ?_
  refine cp (jq (.tmp 0 rfl) (.lit) rfl) ?_
  exact .nil
 clear H1 a1 w1 B1
 intro a2 w2 B2 H2
 refine qi ?_
 refine qg ?_
 refine Aa H2 (.tmp 0 rfl) ?_ ?_
 ·intro hc3
  replace hc3:=of_decide_eq_true hc3
  refine wp_seq ?_
  refine fr (refs:=[[.pre 2],[.res 0],[.res 1],[.res 2],[.res 3]]) (outs:=[.res 4,.pre 1,.pre 2]) (als:=fs 5) (posts:=[i6 n,.val (Lit (.int .u64 (n+18446744073709551616))),.val (Lit (.int .u64 (-n))),.val (zg (-n)),.val (zn n)])
   (out:=[(9,.val (zn n)),(2,.box 52 2 (qp)),(0,i6 n)]) (nb:=[]) H2 5 [5] rfl (by kernel_rfl) rfl rfl ?_ ?_
  ·refine cp (qh (.tmp 0 rfl)) ?_
   refine cp (Ee Tryz.underlying2 Tryz.underlying49 (r:=n+18446744073709551616) (.tmp 0 rfl) (by rw [IntKind.wrap_u64];omega)) ?_
   refine cp (qat (r:=-n) (.tmp 0 rfl) (by rw [IntKind.wrap_u64];omega)) ?_
   refine cp (zl (Va (-n) (by omega)) (.cons (.tmp 0 rfl) (.nil))) ?_
   refine cp (He (.lit) (.tmp 0 rfl) ((decide_eq_true (by omega)).symm) (by omega)) ?_
   exact .nil
  clear H2 a2 w2 B2
  intro a4 w4 B4 H4
  refine zi ?_
  refine ja (l':=[(9,.val (zn n)),(2,.box 52 2 (zn n)),(0,i6 n)]) 1 H4 rfl tyI rfl (.tmp 0 rfl) jl ve rfl rfl ?_
  clear H4 w4
  intro w5 H5
  refine qi ?_
  refine qg ?_
  refine wp_ret ?_
  refine yh ?_
  exact Cc H5 tyI rfl 1 rfl (fun _ _ _ h=>h)
 ·intro hc3
  replace hc3:=of_decide_eq_false hc3
  refine wp_skip ?_
  refine qg ?_
  refine wp_seq ?_
  refine fr (refs:=[[.pre 2],[.res 0],[.res 1],[.res 2]]) (outs:=[.res 3,.pre 1]) (als:=fs 4) (posts:=[i6 n,.val (Lit (.int .u64 n)),.val (zg n),.val (zn n)])
   (out:=[(13,.val (zn n)),(2,.box 52 2 (qp))]) (nb:=[]) H2 4 [4] rfl (by kernel_rfl) rfl rfl ?_ ?_
  ·refine cp (qh (.tmp 0 rfl)) ?_
   refine cp (Ee Tryz.underlying2 Tryz.underlying49 (r:=n) (.tmp 0 rfl) (by rw [IntKind.wrap_u64];omega)) ?_
   refine cp (zl (Va n (by omega)) (.cons (.tmp 0 rfl) (.nil))) ?_
   refine cp (qch (.tmp 0 rfl) (by omega) (by omega)) ?_
   exact .nil
  clear H2 a2 w2 B2
  intro a6 w6 B6 H6
  refine zi ?_
  refine ja (l':=[(13,.val (zn n)),(2,.box 52 2 (zn n))]) 1 H6 rfl tyI rfl (.tmp 0 rfl) jl ve rfl rfl ?_
  clear H6 w6
  intro w7 H7
  refine qi ?_
  refine qg ?_
  refine wp_ret ?_
  exact Cc H7 tyI rfl 1 rfl (fun _ _ _ h=>h)
set_option maxRecDepth 20000 in
set_option maxHeartbeats 2000000 in
theorem qbt (X Y s t V U:Int) (hs:s=sgI X) (ht:t=sgI Y) (hV:V=(X.natAbs:Int)) (hU:U=(Y.natAbs:Int)) (hf:Fits (V+U)):Con Tryz.prog 211 [Lit (.int .i8 s),zg V,Lit (.int .i8 t),zg U] (zn (X+Y)):=by
 refine Ba (N:=51) Tryz.ntmps211 (fun _ _=>by go_simp) Tryz.func211 rfl (by simp) ?_
 intro a0 w0 B0 H0
 replace H0:St 51 w0 B0 a0 w0 B0 [(0,.val (Lit (.int .i8 s))),(1,.val (zg V)),(2,.val (Lit (.int .i8 t))),(3,.val (zg U))] []:=H0
 have kX:=Qm X
 have kY:=Qm Y
 rw [←hs] at kX
 rw [←ht] at kY
 refine wp_seq ?_
 refine fr (refs:=[[]]) (outs:=[.res 0]++pr 0 4) (als:=[true]) (posts:=[.box 52 2 (qp)])
  (out:=[(8,.box 52 2 (qp)),(0,.val (Lit (.int .i8 s))),(1,.val (zg V)),(2,.val (Lit (.int .i8 t))),(3,.val (zg U))]) (nb:=[8]) H0 1 [] rfl (by kernel_rfl) rfl rfl ?_ ?_
 ·refine cp (yw (D:=qp) Dq rfl (fun _ _=>rfl)) ?_
  exact .nil
 clear H0
 intro a1 w1 B1 H1
 simp only [List.cons_append,List.nil_append] at H1
 refine qi ?_
 refine qg ?_
 refine wp_seq ?_
 refine wp_block ?_
 refine wp_seq ?_
 refine fr (refs:=[[.pre 1],[.res 0],[.res 1]]) (outs:=[.res 2]++pr 0 5) (als:=fs 3) (posts:=[.val (Lit (.int .i8 s)),bv (decide (s=0)),bv (decide (s=0))])
  (out:=[(13,bv (decide (s=0))),(8,.box 52 2 (qp)),(0,.val (Lit (.int .i8 s))),(1,.val (zg V)),(2,.val (Lit (.int .i8 t))),(3,.val (zg U))]) (nb:=[]) H1 3 [] rfl (by kernel_rfl) rfl rfl ?_ ?_
 ·refine cp (qh (.tmp 0 rfl)) ?_
  refine cp (jq (.tmp 0 rfl) (.lit) rfl) ?_
  refine cp (qm (.tmp 0 rfl)) ?_
  exact .nil
 clear H1 a1 w1 B1
 intro a2 w2 B2 H2
 refine qi ?_
 refine qg ?_
 refine Aa H2 (.tmp 0 rfl) ?_ ?_
 ·intro hc3
  replace hc3:=of_decide_eq_true hc3
  refine wp_seq ?_
  refine fr (refs:=[[.pre 4],[.pre 5],[.res 0,.res 1]]) (outs:=[.res 2]++pr 1 5) (als:=fs 3) (posts:=[.val (Lit (.int .i8 t)),.val (zg U),.val (zn (X+Y))])
   (out:=[(18,.val (zn (X+Y))),(8,.box 52 2 (qp)),(0,.val (Lit (.int .i8 s))),(1,.val (zg V)),(2,.val (Lit (.int .i8 t))),(3,.val (zg U))]) (nb:=[]) H2 3 [3] rfl (by kernel_rfl) rfl rfl ?_ ?_
  ·refine cp (qh (.tmp 0 rfl)) ?_
   refine cp (qh (.tmp 0 rfl)) ?_
   refine cp (zl ((Dt t U).weak (fun v w B h=>yj (by (try simp only [Bool.or_eq_true,Bool.or_eq_false_iff,decide_eq_true_eq,decide_eq_false_iff_not] at *);(repeat' split) <;> omega) h)) (.cons (.tmp 0 rfl) (.cons (.tmp 1 rfl) (.nil)))) ?_
   exact .nil
  clear H2 a2 w2 B2
  intro a4 w4 B4 H4
  refine zi ?_
  refine ja (l':=[(18,.val (zn (X+Y))),(8,.box 52 2 (zn (X+Y))),(0,.val (Lit (.int .i8 s))),(1,.val (zg V)),(2,.val (Lit (.int .i8 t))),(3,.val (zg U))]) 1 H4 rfl tyI rfl (.tmp 0 rfl) jl ve rfl rfl ?_
  clear H4 w4
  intro w5 H5
  refine qi ?_
  refine qg ?_
  refine wp_ret ?_
  refine D7 ?_
  refine yh ?_
  exact Cc H5 tyI rfl 1 rfl (fun _ _ _ h=>h)
 ·intro hc3
  replace hc3:=of_decide_eq_false hc3
  refine wp_seq ?_
  refine fr (refs:=[[.pre 4],[.res 0],[.res 1],[.res 2,.pre 2],[.res 2,.pre 4],[.res 2,.res 3,.res 4],[.res 2,.res 5],[.res 6]]) (outs:=[.res 7]++pr 1 5) (als:=fs 8) (posts:=[.val (Lit (.int .i8 t)),bv (decide (t=0)),bv (decide (t=0)),.val (Grd ((decide (t=0)) == false) (Lit (.int .i8 s))),.val (Grd ((decide (t=0)) == false) (Lit (.int .i8 t))),.val (Grd ((decide (t=0)) == false) (IsB (decide (s=t)))),bv ((decide (t=0)) || (decide (s=t))),bv ((decide (t=0)) || (decide (s=t)))])
   (out:=[(19,bv ((decide (t=0)) || (decide (s=t)))),(8,.box 52 2 (qp)),(0,.val (Lit (.int .i8 s))),(1,.val (zg V)),(2,.val (Lit (.int .i8 t))),(3,.val (zg U))]) (nb:=[]) H2 8 [] rfl (by kernel_rfl) rfl rfl ?_ ?_
  ·refine cp (qh (.tmp 0 rfl)) ?_
   refine cp (jq (.tmp 0 rfl) (.lit) rfl) ?_
   refine cp (qh (.tmp 0 rfl)) ?_
   refine .cons (.sym 2 false (decide (t=0)) ((decide (t=0)) == false) rfl rfl rfl 0 (need':=[(22,bv (decide (t=0))),(0,.val (Lit (.int .i8 s)))]) rfl rfl (fun a w B e h=>⟨h.1,h.2.1,trivial⟩) (fun e=>qh (.tmp 1 rfl))) ?_
   refine .cons (.sym 2 false (decide (t=0)) ((decide (t=0)) == false) rfl rfl rfl 0 (need':=[(22,bv (decide (t=0))),(2,.val (Lit (.int .i8 t)))]) rfl rfl (fun a w B e h=>⟨h.1,h.2.1,trivial⟩) (fun e=>qh (.tmp 1 rfl))) ?_
   refine .cons (.sym 2 false (decide (t=0)) ((decide (t=0)) == false) rfl rfl rfl 0 (need':=[(22,bv (decide (t=0))),(23,.val (Lit (.int .i8 s))),(24,.val (Lit (.int .i8 t)))]) rfl rfl (fun a w B e h=>⟨h.1,h.2.1.1 (e),h.2.2.1.1 (e),trivial⟩) (fun e=>jq (.tmp 1 rfl) (.tmp 2 rfl) rfl)) ?_
   refine cp (F8 (decide (t=0)) (.tmp 0 rfl) (fun e=>Opd.eqB (.lit) (by rw [e];rfl)) (fun e=>Opd.eqB (Opd.grd (.tmp 1 rfl) (by first | (rw [e];rfl) | (simp only [e];rfl) | (simp [*] at *;done))) (by rw [e];rfl))) ?_
   refine cp (qm (.tmp 0 rfl)) ?_
   exact .nil
  clear H2 a2 w2 B2
  intro a6 w6 B6 H6
  refine qi ?_
  refine qg ?_
  refine Aa H6 (.tmp 0 rfl) ?_ ?_
  ·intro hc7
   refine wp_seq ?_
   refine fr (refs:=[[.pre 2],[.pre 3],[.pre 5],[.res 1,.res 2],[.res 0,.res 3]]) (outs:=[.res 4]++pr 1 5) (als:=fs 5) (posts:=[.val (Lit (.int .i8 s)),.val (zg V),.val (zg U),.val (zg (V+U)),.val (zn (X+Y))])
    (out:=[(31,.val (zn (X+Y))),(8,.box 52 2 (qp)),(0,.val (Lit (.int .i8 s))),(1,.val (zg V)),(2,.val (Lit (.int .i8 t))),(3,.val (zg U))]) (nb:=[]) H6 5 [5] rfl (by kernel_rfl) rfl rfl ?_ ?_
   ·refine cp (qh (.tmp 0 rfl)) ?_
    refine cp (qh (.tmp 0 rfl)) ?_
    refine cp (qh (.tmp 0 rfl)) ?_
    refine cp (zl (qbo V U (hf)) (.cons (.weak (.tmp 0 rfl) Di) (.cons (.weak (.tmp 1 rfl) Di) (.nil)))) ?_
    refine cp (zl ((Dt s (V+U)).weak (fun v w B h=>yj (by (try simp only [Bool.or_eq_true,Bool.or_eq_false_iff,decide_eq_true_eq,decide_eq_false_iff_not] at *);(repeat' split) <;> omega) h)) (.cons (.tmp 0 rfl) (.cons (.tmp 1 rfl) (.nil)))) ?_
    exact .nil
   clear H6 a6 w6 B6
   intro a8 w8 B8 H8
   refine zi ?_
   refine ja (l':=[(31,.val (zn (X+Y))),(8,.box 52 2 (zn (X+Y))),(0,.val (Lit (.int .i8 s))),(1,.val (zg V)),(2,.val (Lit (.int .i8 t))),(3,.val (zg U))]) 1 H8 rfl tyI rfl (.tmp 0 rfl) jl ve rfl rfl ?_
   clear H8 w8
   intro w9 H9
   refine qi ?_
   refine qg ?_
   refine wp_ret ?_
   refine D7 ?_
   refine yh ?_
   exact Cc H9 tyI rfl 1 rfl (fun _ _ _ h=>h)
  ·intro hc7
   refine wp_skip ?_
   refine kw ?_
   refine qg ?_
   refine wp_seq ?_
   refine wp_seq ?_
   refine fr (refs:=[[.pre 3],[.pre 5],[.res 0,.res 1],[.res 2],[.res 3],[.res 3],[.res 4],[.res 5]]) (outs:=[.res 6,.res 7]++pr 1 5) (als:=fs 8) (posts:=[.val (zg V),.val (zg U),.val (Tup [zg (if U≤V then V-U else 0),IsB (decide (U≤V))]),.val (Tup [zg (if U≤V then V-U else 0),IsB (decide (U≤V))]),.val (zg (if U≤V then V-U else 0)),bv (decide (U≤V)),.val (zg (if U≤V then V-U else 0)),bv (decide (U≤V))])
    (out:=[(9,.val (zg (if U≤V then V-U else 0))),(10,bv (decide (U≤V))),(8,.box 52 2 (qp)),(0,.val (Lit (.int .i8 s))),(1,.val (zg V)),(2,.val (Lit (.int .i8 t))),(3,.val (zg U))]) (nb:=[]) H6 8 [] rfl (by kernel_rfl) rfl rfl ?_ ?_
   ·refine cp (qh (.tmp 0 rfl)) ?_
    refine cp (qh (.tmp 0 rfl)) ?_
    refine cp (zl (Rx V U) (.cons (.weak (.tmp 0 rfl) Di) (.cons (.weak (.tmp 1 rfl) Di) (.nil)))) ?_
    refine cp (qh (.tmp 0 rfl)) ?_
    refine cp (zq 0 (.tmp 0 rfl) rfl) ?_
    refine cp (zq 1 (.tmp 0 rfl) rfl) ?_
    refine cp (qm (.tmp 0 rfl)) ?_
    refine cp (qm (.tmp 0 rfl)) ?_
    exact .nil
   clear H6 a6 w6 B6
   intro a10 w10 B10 H10
   refine qi ?_
   refine qg ?_
   refine wp_seq ?_
   refine fr (refs:=[[.pre 1]]) (outs:=[.res 0,.pre 0]++pr 2 5) (als:=[false]) (posts:=[bv (decide (U≤V))])
    (out:=[(38,bv (decide (U≤V))),(9,.val (zg (if U≤V then V-U else 0))),(8,.box 52 2 (qp)),(0,.val (Lit (.int .i8 s))),(1,.val (zg V)),(2,.val (Lit (.int .i8 t))),(3,.val (zg U))]) (nb:=[]) H10 1 [] rfl (by kernel_rfl) rfl rfl ?_ ?_
   ·refine cp (qh (.tmp 0 rfl)) ?_
    exact .nil
   clear H10 a10 w10 B10
   intro a11 w11 B11 H11
   refine qi ?_
   refine qg ?_
   refine Aa H11 (.tmp 0 rfl) ?_ ?_
   ·intro hc12
    replace hc12:=of_decide_eq_true hc12
    refine wp_seq ?_
    refine fr (refs:=[[.pre 3],[.pre 1],[.res 0,.res 1]]) (outs:=[.res 2,.pre 2]++pr 4 3) (als:=fs 3) (posts:=[.val (Lit (.int .i8 s)),.val (zg (if U≤V then V-U else 0)),.val (zn (X+Y))])
     (out:=[(41,.val (zn (X+Y))),(8,.box 52 2 (qp)),(1,.val (zg V)),(2,.val (Lit (.int .i8 t))),(3,.val (zg U))]) (nb:=[]) H11 3 [3] rfl (by kernel_rfl) rfl rfl ?_ ?_
    ·refine cp (qh (.tmp 0 rfl)) ?_
     refine cp (qh (.tmp 0 rfl)) ?_
     refine cp (zl ((Dt s (if U≤V then V-U else 0)).weak (fun v w B h=>yj (by (try simp only [Bool.or_eq_true,Bool.or_eq_false_iff,decide_eq_true_eq,decide_eq_false_iff_not] at *);(repeat' split) <;> omega) h)) (.cons (.tmp 0 rfl) (.cons (.tmp 1 rfl) (.nil)))) ?_
     exact .nil
    clear H11 a11 w11 B11
    intro a13 w13 B13 H13
    refine zi ?_
    refine ja (l':=[(41,.val (zn (X+Y))),(8,.box 52 2 (zn (X+Y))),(1,.val (zg V)),(2,.val (Lit (.int .i8 t))),(3,.val (zg U))]) 1 H13 rfl tyI rfl (.tmp 0 rfl) jl ve rfl rfl ?_
    clear H13 w13
    intro w14 H14
    refine qi ?_
    refine qg ?_
    refine wp_ret ?_
    refine yh ?_
    exact Cc H14 tyI rfl 1 rfl (fun _ _ _ h=>h)
   ·intro hc12
    replace hc12:=of_decide_eq_false hc12
    refine wp_skip ?_
    refine qg ?_
    refine wp_seq ?_
    refine fr (refs:=[[.pre 6],[.pre 4],[.res 0,.res 1],[.res 2],[.res 3],[.res 3],[.res 4],[.res 5]]) (outs:=[.res 6,.pre 2,.pre 5]) (als:=fs 8) (posts:=[.val (zg U),.val (zg V),.val (Tup [zg (if V≤U then U-V else 0),IsB (decide (V≤U))]),.val (Tup [zg (if V≤U then U-V else 0),IsB (decide (V≤U))]),.val (zg (if V≤U then U-V else 0)),bv (decide (V≤U)),.val (zg (if V≤U then U-V else 0)),bv (decide (V≤U))])
     (out:=[(11,.val (zg (if V≤U then U-V else 0))),(8,.box 52 2 (qp)),(2,.val (Lit (.int .i8 t)))]) (nb:=[]) H11 8 [] rfl (by kernel_rfl) rfl rfl ?_ ?_
    ·refine cp (qh (.tmp 0 rfl)) ?_
     refine cp (qh (.tmp 0 rfl)) ?_
     refine cp (zl (Rx U V) (.cons (.weak (.tmp 0 rfl) Di) (.cons (.weak (.tmp 1 rfl) Di) (.nil)))) ?_
     refine cp (qh (.tmp 0 rfl)) ?_
     refine cp (zq 0 (.tmp 0 rfl) rfl) ?_
     refine cp (zq 1 (.tmp 0 rfl) rfl) ?_
     refine cp (qm (.tmp 0 rfl)) ?_
     refine cp (qm (.tmp 0 rfl)) ?_
     exact .nil
    clear H11 a11 w11 B11
    intro a15 w15 B15 H15
    refine qi ?_
    refine qg ?_
    refine wp_seq ?_
    refine fr (refs:=[[.pre 2],[.pre 0],[.res 0,.res 1]]) (outs:=[.res 2,.pre 1]) (als:=fs 3) (posts:=[.val (Lit (.int .i8 t)),.val (zg (if V≤U then U-V else 0)),.val (zn (X+Y))])
     (out:=[(50,.val (zn (X+Y))),(8,.box 52 2 (qp))]) (nb:=[]) H15 3 [3] rfl (by kernel_rfl) rfl rfl ?_ ?_
    ·refine cp (qh (.tmp 0 rfl)) ?_
     refine cp (qh (.tmp 0 rfl)) ?_
     refine cp (zl ((Dt t (if V≤U then U-V else 0)).weak (fun v w B h=>yj (by (try simp only [Bool.or_eq_true,Bool.or_eq_false_iff,decide_eq_true_eq,decide_eq_false_iff_not] at *);(repeat' split) <;> omega) h)) (.cons (.tmp 0 rfl) (.cons (.tmp 1 rfl) (.nil)))) ?_
     exact .nil
    clear H15 a15 w15 B15
    intro a16 w16 B16 H16
    refine zi ?_
    refine ja (l':=[(50,.val (zn (X+Y))),(8,.box 52 2 (zn (X+Y)))]) 1 H16 rfl tyI rfl (.tmp 0 rfl) jl ve rfl rfl ?_
    clear H16 w16
    intro w17 H17
    refine qi ?_
    refine qg ?_
    refine wp_ret ?_
    exact Cc H17 tyI rfl 1 rfl (fun _ _ _ h=>h)
set_option maxRecDepth 20000 in
set_option maxHeartbeats 2000000 in
theorem qi2 (X Y:Int) {k m:Nat} (hx:yz k X) (hy:yz m Y) (hk:k+m+1≤274877906944):Con Tryz.prog 146 [IsN X,IsN Y] (zn (X+Y)):=by
 refine Ba (N:=24) Tryz.ntmps146 (fun _ _=>by go_simp) Tryz.func146 rfl (by simp) ?_
 intro a0 w0 B0 H0
 replace H0:St 24 w0 B0 a0 w0 B0 [(0,.val (IsN X)),(1,.val (IsN Y))] []:=H0
 refine wp_seq ?_
 refine fr (refs:=[[.pre 0],[.pre 1],[]]) (outs:=[.res 0,.res 1,.res 2]) (als:=[true,true,true]) (posts:=[.box 52 2 (IsN X),.box 52 2 (IsN Y),.box 52 2 (qp)])
  (out:=[(2,.box 52 2 (IsN X)),(3,.box 52 2 (IsN Y)),(4,.box 52 2 (qp))]) (nb:=[2,3,4]) H0 3 [] rfl (by kernel_rfl) rfl rfl ?_ ?_
 ·refine cp (Bq (.tmp 0 rfl) Bc.two) ?_
  refine cp (Bq (.tmp 0 rfl) Bc.two) ?_
  refine cp (yw (D:=qp) Dq rfl (fun _ _=>rfl)) ?_
  exact .nil
 clear H0
 intro a1 w1 B1 H1
 simp only [List.cons_append,List.nil_append] at H1
 refine qi ?_
 refine qg ?_
 refine wp_seq ?_
 refine fr (refs:=[[.pre 0],[.res 0],[.res 1],[.res 2],[.res 2],[.res 3],[.res 4]]) (outs:=[.res 5,.res 6,.pre 1,.pre 2]) (als:=fs 7) (posts:=[.val (IsN X),.val (Tup [Lit (.int .i8 (sgI X)),zg ((X).natAbs:Int)]),.val (Tup [Lit (.int .i8 (sgI X)),zg ((X).natAbs:Int)]),.val (Lit (.int .i8 (sgI X))),.val (zg ((X).natAbs:Int)),.val (Lit (.int .i8 (sgI X))),.val (zg ((X).natAbs:Int))])
  (out:=[(5,.val (Lit (.int .i8 (sgI X)))),(6,.val (zg ((X).natAbs:Int))),(3,.box 52 2 (IsN Y)),(4,.box 52 2 (qp))]) (nb:=[]) H1 7 [] rfl (by kernel_rfl) rfl rfl ?_ ?_
 ·refine cp (zo tyI (.tmp 0 rfl)) ?_
  refine cp (zl (Dp X) (.cons (.tmp 0 rfl) (.nil))) ?_
  refine cp (qh (.tmp 0 rfl)) ?_
  refine cp (zq 0 (.tmp 0 rfl) rfl) ?_
  refine cp (zq 1 (.tmp 0 rfl) rfl) ?_
  refine cp (qm (.tmp 0 rfl)) ?_
  refine cp (qm (.tmp 0 rfl)) ?_
  exact .nil
 clear H1 a1 w1 B1
 intro a2 w2 B2 H2
 refine qi ?_
 refine qg ?_
 refine wp_seq ?_
 refine fr (refs:=[[.pre 2],[.res 0],[.res 1],[.res 2],[.res 2],[.res 3],[.res 4]]) (outs:=[.res 5,.res 6,.pre 0,.pre 1,.pre 3]) (als:=fs 7) (posts:=[.val (IsN Y),.val (Tup [Lit (.int .i8 (sgI Y)),zg ((Y).natAbs:Int)]),.val (Tup [Lit (.int .i8 (sgI Y)),zg ((Y).natAbs:Int)]),.val (Lit (.int .i8 (sgI Y))),.val (zg ((Y).natAbs:Int)),.val (Lit (.int .i8 (sgI Y))),.val (zg ((Y).natAbs:Int))])
  (out:=[(7,.val (Lit (.int .i8 (sgI Y)))),(8,.val (zg ((Y).natAbs:Int))),(5,.val (Lit (.int .i8 (sgI X)))),(6,.val (zg ((X).natAbs:Int))),(4,.box 52 2 (qp))]) (nb:=[]) H2 7 [] rfl (by kernel_rfl) rfl rfl ?_ ?_
 ·refine cp (zo tyI (.tmp 0 rfl)) ?_
  refine cp (zl (Dp Y) (.cons (.tmp 0 rfl) (.nil))) ?_
  refine cp (qh (.tmp 0 rfl)) ?_
  refine cp (zq 0 (.tmp 0 rfl) rfl) ?_
  refine cp (zq 1 (.tmp 0 rfl) rfl) ?_
  refine cp (qm (.tmp 0 rfl)) ?_
  refine cp (qm (.tmp 0 rfl)) ?_
  exact .nil
 clear H2 a2 w2 B2
 intro a3 w3 B3 H3
 refine qi ?_
 refine qg ?_
 refine wp_seq ?_
 refine fr (refs:=[[.pre 2],[.pre 3],[.pre 0],[.pre 1],[.res 0,.res 1,.res 2,.res 3]]) (outs:=[.res 4,.pre 4]) (als:=fs 5) (posts:=[.val (Lit (.int .i8 (sgI X))),.val (zg ((X).natAbs:Int)),.val (Lit (.int .i8 (sgI Y))),.val (zg ((Y).natAbs:Int)),.val (zn (X+Y))])
  (out:=[(23,.val (zn (X+Y))),(4,.box 52 2 (qp))]) (nb:=[]) H3 5 [5] rfl (by kernel_rfl) rfl rfl ?_ ?_
 ·refine cp (qh (.tmp 0 rfl)) ?_
  refine cp (qh (.tmp 0 rfl)) ?_
  refine cp (qh (.tmp 0 rfl)) ?_
  refine cp (qh (.tmp 0 rfl)) ?_
  refine cp (zl (qbt X Y (sgI X) (sgI Y) ((X).natAbs:Int) ((Y).natAbs:Int) rfl rfl rfl rfl (hx.abs.add hy.abs |>.fits (by omega))) (.cons (.tmp 0 rfl) (.cons (.tmp 1 rfl) (.cons (.tmp 2 rfl) (.cons (.tmp 3 rfl) (.nil)))))) ?_
  exact .nil
 clear H3 a3 w3 B3
 intro a4 w4 B4 H4
 refine zi ?_
 refine ja (l':=[(23,.val (zn (X+Y))),(4,.box 52 2 (zn (X+Y)))]) 1 H4 rfl tyI rfl (.tmp 0 rfl) jl ve rfl rfl ?_
 clear H4 w4
 intro w5 H5
 refine qi ?_
 refine qg ?_
 refine wp_ret ?_
 exact Cc H5 tyI rfl 1 rfl (fun _ _ _ h=>h)
set_option maxRecDepth 20000 in
set_option maxHeartbeats 2000000 in
theorem qi9 (X Y:Int) {k m:Nat} (hx:yz k X) (hy:yz m Y) (hk:k+m+1≤274877906944):Con Tryz.prog 147 [IsN X,IsN Y] (zn (X-Y)):=by
 refine Ba (N:=25) Tryz.ntmps147 (fun _ _=>by go_simp) Tryz.func147 rfl (by simp) ?_
 intro a0 w0 B0 H0
 replace H0:St 25 w0 B0 a0 w0 B0 [(0,.val (IsN X)),(1,.val (IsN Y))] []:=H0
 refine wp_seq ?_
 refine fr (refs:=[[.pre 0],[.pre 1],[]]) (outs:=[.res 0,.res 1,.res 2]) (als:=[true,true,true]) (posts:=[.box 52 2 (IsN X),.box 52 2 (IsN Y),.box 52 2 (qp)])
  (out:=[(2,.box 52 2 (IsN X)),(3,.box 52 2 (IsN Y)),(4,.box 52 2 (qp))]) (nb:=[2,3,4]) H0 3 [] rfl (by kernel_rfl) rfl rfl ?_ ?_
 ·refine cp (Bq (.tmp 0 rfl) Bc.two) ?_
  refine cp (Bq (.tmp 0 rfl) Bc.two) ?_
  refine cp (yw (D:=qp) Dq rfl (fun _ _=>rfl)) ?_
  exact .nil
 clear H0
 intro a1 w1 B1 H1
 simp only [List.cons_append,List.nil_append] at H1
 refine qi ?_
 refine qg ?_
 refine wp_seq ?_
 refine fr (refs:=[[.pre 0],[.res 0],[.res 1],[.res 2],[.res 2],[.res 3],[.res 4]]) (outs:=[.res 5,.res 6,.pre 1,.pre 2]) (als:=fs 7) (posts:=[.val (IsN X),.val (Tup [Lit (.int .i8 (sgI X)),zg ((X).natAbs:Int)]),.val (Tup [Lit (.int .i8 (sgI X)),zg ((X).natAbs:Int)]),.val (Lit (.int .i8 (sgI X))),.val (zg ((X).natAbs:Int)),.val (Lit (.int .i8 (sgI X))),.val (zg ((X).natAbs:Int))])
  (out:=[(5,.val (Lit (.int .i8 (sgI X)))),(6,.val (zg ((X).natAbs:Int))),(3,.box 52 2 (IsN Y)),(4,.box 52 2 (qp))]) (nb:=[]) H1 7 [] rfl (by kernel_rfl) rfl rfl ?_ ?_
 ·refine cp (zo tyI (.tmp 0 rfl)) ?_
  refine cp (zl (Dp X) (.cons (.tmp 0 rfl) (.nil))) ?_
  refine cp (qh (.tmp 0 rfl)) ?_
  refine cp (zq 0 (.tmp 0 rfl) rfl) ?_
  refine cp (zq 1 (.tmp 0 rfl) rfl) ?_
  refine cp (qm (.tmp 0 rfl)) ?_
  refine cp (qm (.tmp 0 rfl)) ?_
  exact .nil
 clear H1 a1 w1 B1
 intro a2 w2 B2 H2
 refine qi ?_
 refine qg ?_
 refine wp_seq ?_
 refine fr (refs:=[[.pre 2],[.res 0],[.res 1],[.res 2],[.res 2],[.res 3],[.res 4]]) (outs:=[.res 5,.res 6,.pre 0,.pre 1,.pre 3]) (als:=fs 7) (posts:=[.val (IsN Y),.val (Tup [Lit (.int .i8 (sgI Y)),zg ((Y).natAbs:Int)]),.val (Tup [Lit (.int .i8 (sgI Y)),zg ((Y).natAbs:Int)]),.val (Lit (.int .i8 (sgI Y))),.val (zg ((Y).natAbs:Int)),.val (Lit (.int .i8 (sgI Y))),.val (zg ((Y).natAbs:Int))])
  (out:=[(7,.val (Lit (.int .i8 (sgI Y)))),(8,.val (zg ((Y).natAbs:Int))),(5,.val (Lit (.int .i8 (sgI X)))),(6,.val (zg ((X).natAbs:Int))),(4,.box 52 2 (qp))]) (nb:=[]) H2 7 [] rfl (by kernel_rfl) rfl rfl ?_ ?_
 ·refine cp (zo tyI (.tmp 0 rfl)) ?_
  refine cp (zl (Dp Y) (.cons (.tmp 0 rfl) (.nil))) ?_
  refine cp (qh (.tmp 0 rfl)) ?_
  refine cp (zq 0 (.tmp 0 rfl) rfl) ?_
  refine cp (zq 1 (.tmp 0 rfl) rfl) ?_
  refine cp (qm (.tmp 0 rfl)) ?_
  refine cp (qm (.tmp 0 rfl)) ?_
  exact .nil
 clear H2 a2 w2 B2
 intro a3 w3 B3 H3
 refine qi ?_
 refine qg ?_
 refine wp_seq ?_
 refine fr (refs:=[[.pre 2],[.pre 3],[.pre 0],[.res 2],[.pre 1],[.res 0,.res 1,.res 3,.res 4]]) (outs:=[.res 5,.pre 4]) (als:=fs 6) (posts:=[.val (Lit (.int .i8 (sgI X))),.val (zg ((X).natAbs:Int)),.val (Lit (.int .i8 (sgI Y))),.val (Lit (.int .i8 (-(sgI Y)))),.val (zg ((Y).natAbs:Int)),.val (zn (X + -Y))])
  (out:=[(24,.val (zn (X + -Y))),(4,.box 52 2 (qp))]) (nb:=[]) H3 6 [6] rfl (by kernel_rfl) rfl rfl ?_ ?_
 ·refine cp (qh (.tmp 0 rfl)) ?_
  refine cp (qh (.tmp 0 rfl)) ?_
  refine cp (qh (.tmp 0 rfl)) ?_
  refine cp (qat (r:=(-(sgI Y))) (.tmp 0 rfl) (qnj Y)) ?_
  refine cp (qh (.tmp 0 rfl)) ?_
  refine cp (zl (qbt X (-Y) (sgI X) (-(sgI Y)) ((X).natAbs:Int) ((Y).natAbs:Int) rfl (qow Y) rfl (by omega) (hx.abs.add hy.abs |>.fits (by omega))) (.cons (.tmp 0 rfl) (.cons (.tmp 1 rfl) (.cons (.tmp 2 rfl) (.cons (.tmp 3 rfl) (.nil)))))) ?_
  exact .nil
 clear H3 a3 w3 B3
 intro a4 w4 B4 H4
 refine zi ?_
 refine ja (l':=[(24,.val (zn (X + -Y))),(4,.box 52 2 (zn (X + -Y)))]) 1 H4 rfl tyI rfl (.tmp 0 rfl) jl ve rfl rfl ?_
 clear H4 w4
 intro w5 H5
 refine qi ?_
 refine qg ?_
 refine wp_ret ?_
 exact Cc H5 tyI rfl 1 rfl (fun v w B h=>by exact yj (Int.sub_eq_add_neg).symm h)
set_option maxRecDepth 20000 in
set_option maxHeartbeats 2000000 in
theorem qi5 (X Y:Int) {k m:Nat} (hx:yz k X) (hy:yz m Y) (hk:k+m+1≤274877906944):Con Tryz.prog 148 [IsN X,IsN Y] (zn (X*Y)):=by
 refine Ba (N:=26) Tryz.ntmps148 (fun _ _=>by go_simp) Tryz.func148 rfl (by simp) ?_
 intro a0 w0 B0 H0
 replace H0:St 26 w0 B0 a0 w0 B0 [(0,.val (IsN X)),(1,.val (IsN Y))] []:=H0
 have fitm:Fits ((X.natAbs:Int)*(Y.natAbs:Int)):=(hx.abs.mul hy.abs).fits (by omega)
 refine wp_seq ?_
 refine fr (refs:=[[.pre 0],[.pre 1],[]]) (outs:=[.res 0,.res 1,.res 2]) (als:=[true,true,true]) (posts:=[.box 52 2 (IsN X),.box 52 2 (IsN Y),.box 52 2 (qp)])
  (out:=[(2,.box 52 2 (IsN X)),(3,.box 52 2 (IsN Y)),(4,.box 52 2 (qp))]) (nb:=[2,3,4]) H0 3 [] rfl (by kernel_rfl) rfl rfl ?_ ?_
 ·refine cp (Bq (.tmp 0 rfl) Bc.two) ?_
  refine cp (Bq (.tmp 0 rfl) Bc.two) ?_
  refine cp (yw (D:=qp) Dq rfl (fun _ _=>rfl)) ?_
  exact .nil
 clear H0
 intro a1 w1 B1 H1
 simp only [List.cons_append,List.nil_append] at H1
 refine qi ?_
 refine qg ?_
 refine wp_seq ?_
 refine fr (refs:=[[.pre 0],[.res 0],[.res 1],[.res 2],[.res 2],[.res 3],[.res 4]]) (outs:=[.res 5,.res 6,.pre 1,.pre 2]) (als:=fs 7) (posts:=[.val (IsN X),.val (Tup [Lit (.int .i8 (sgI X)),zg ((X).natAbs:Int)]),.val (Tup [Lit (.int .i8 (sgI X)),zg ((X).natAbs:Int)]),.val (Lit (.int .i8 (sgI X))),.val (zg ((X).natAbs:Int)),.val (Lit (.int .i8 (sgI X))),.val (zg ((X).natAbs:Int))])
  (out:=[(5,.val (Lit (.int .i8 (sgI X)))),(6,.val (zg ((X).natAbs:Int))),(3,.box 52 2 (IsN Y)),(4,.box 52 2 (qp))]) (nb:=[]) H1 7 [] rfl (by kernel_rfl) rfl rfl ?_ ?_
 ·refine cp (zo tyI (.tmp 0 rfl)) ?_
  refine cp (zl (Dp X) (.cons (.tmp 0 rfl) (.nil))) ?_
  refine cp (qh (.tmp 0 rfl)) ?_
  refine cp (zq 0 (.tmp 0 rfl) rfl) ?_
  refine cp (zq 1 (.tmp 0 rfl) rfl) ?_
  refine cp (qm (.tmp 0 rfl)) ?_
  refine cp (qm (.tmp 0 rfl)) ?_
  exact .nil
 clear H1 a1 w1 B1
 intro a2 w2 B2 H2
 refine qi ?_
 refine qg ?_
 refine wp_seq ?_
 refine fr (refs:=[[.pre 2],[.res 0],[.res 1],[.res 2],[.res 2],[.res 3],[.res 4]]) (outs:=[.res 5,.res 6,.pre 0,.pre 1,.pre 3]) (als:=fs 7) (posts:=[.val (IsN Y),.val (Tup [Lit (.int .i8 (sgI Y)),zg ((Y).natAbs:Int)]),.val (Tup [Lit (.int .i8 (sgI Y)),zg ((Y).natAbs:Int)]),.val (Lit (.int .i8 (sgI Y))),.val (zg ((Y).natAbs:Int)),.val (Lit (.int .i8 (sgI Y))),.val (zg ((Y).natAbs:Int))])
  (out:=[(7,.val (Lit (.int .i8 (sgI Y)))),(8,.val (zg ((Y).natAbs:Int))),(5,.val (Lit (.int .i8 (sgI X)))),(6,.val (zg ((X).natAbs:Int))),(4,.box 52 2 (qp))]) (nb:=[]) H2 7 [] rfl (by kernel_rfl) rfl rfl ?_ ?_
 ·refine cp (zo tyI (.tmp 0 rfl)) ?_
  refine cp (zl (Dp Y) (.cons (.tmp 0 rfl) (.nil))) ?_
  refine cp (qh (.tmp 0 rfl)) ?_
  refine cp (zq 0 (.tmp 0 rfl) rfl) ?_
  refine cp (zq 1 (.tmp 0 rfl) rfl) ?_
  refine cp (qm (.tmp 0 rfl)) ?_
  refine cp (qm (.tmp 0 rfl)) ?_
  exact .nil
 clear H2 a2 w2 B2
 intro a3 w3 B3 H3
 refine qi ?_
 refine qg ?_
 refine wp_seq ?_
 refine fr (refs:=[[.pre 2],[.pre 0],[.res 0,.res 1],[.pre 3],[.pre 1],[.res 3,.res 4],[.res 2,.res 5]]) (outs:=[.res 6,.pre 4]) (als:=fs 7) (posts:=[.val (Lit (.int .i8 (sgI X))),.val (Lit (.int .i8 (sgI Y))),.val (Lit (.int .i8 ((sgI X)*(sgI Y)))),.val (zg ((X).natAbs:Int)),.val (zg ((Y).natAbs:Int)),.val (zg (((X).natAbs:Int)*((Y).natAbs:Int))),.val (zn (X*Y))])
  (out:=[(25,.val (zn (X*Y))),(4,.box 52 2 (qp))]) (nb:=[]) H3 7 [7] rfl (by kernel_rfl) rfl rfl ?_ ?_
 ·refine cp (qh (.tmp 0 rfl)) ?_
  refine cp (qh (.tmp 0 rfl)) ?_
  refine cp (Nh (r:=((sgI X)*(sgI Y))) (.tmp 0 rfl) (.tmp 1 rfl) (qni X Y)) ?_
  refine cp (qh (.tmp 0 rfl)) ?_
  refine cp (qh (.tmp 0 rfl)) ?_
  refine cp (zl (qbp ((X).natAbs:Int) ((Y).natAbs:Int) (fitm)) (.cons (.weak (.tmp 0 rfl) Di) (.cons (.weak (.tmp 1 rfl) Di) (.nil)))) ?_
  refine cp (zl ((Dt ((sgI X)*(sgI Y)) (((X).natAbs:Int)*((Y).natAbs:Int))).weak (fun v w B h=>yj (qkk X Y) h)) (.cons (.tmp 0 rfl) (.cons (.tmp 1 rfl) (.nil)))) ?_
  exact .nil
 clear H3 a3 w3 B3
 intro a4 w4 B4 H4
 refine zi ?_
 refine ja (l':=[(25,.val (zn (X*Y))),(4,.box 52 2 (zn (X*Y)))]) 1 H4 rfl tyI rfl (.tmp 0 rfl) jl ve rfl rfl ?_
 clear H4 w4
 intro w5 H5
 refine qi ?_
 refine qg ?_
 refine wp_ret ?_
 exact Cc H5 tyI rfl 1 rfl (fun _ _ _ h=>h)
set_option maxRecDepth 20000 in
set_option maxHeartbeats 2000000 in
theorem U9 (X:Int):Con Tryz.prog 137 [IsN X] (zn (-X)):=by
 refine Ba (N:=10) Tryz.ntmps137 (fun _ _=>by go_simp) Tryz.func137 rfl (by simp) ?_
 intro a0 w0 B0 H0
 replace H0:St 10 w0 B0 a0 w0 B0 [(0,.val (IsN X))] []:=H0
 refine wp_seq ?_
 refine fr (refs:=[[.pre 0],[]]) (outs:=[.res 0,.res 1]) (als:=[true,true]) (posts:=[.box 52 2 (IsN X),.box 52 2 (qp)])
  (out:=[(1,.box 52 2 (IsN X)),(2,.box 52 2 (qp))]) (nb:=[1,2]) H0 2 [] rfl (by kernel_rfl) rfl rfl ?_ ?_
 ·refine cp (Bq (.tmp 0 rfl) Bc.two) ?_
  refine cp (yw (D:=qp) Dq rfl (fun _ _=>rfl)) ?_
  exact .nil
 clear H0
 intro a1 w1 B1 H1
 simp only [List.cons_append,List.nil_append] at H1
 refine qi ?_
 refine qg ?_
 refine wp_seq ?_
 refine fr (refs:=[[.pre 0],[.res 0],[.res 1],[.pre 0],[.res 3],[.res 2,.res 4],[.res 5]]) (outs:=[.res 6,.pre 1]) (als:=fs 7) (posts:=[.ptr 52 2 (IsN X) 0,.val (Xy X),.val (Xy (-X)),.ptr 52 2 (IsN X) 1,.val (IsM ((X).natAbs:Int)),.val (IsN (-X)),.val (zn (-X))])
  (out:=[(9,.val (zn (-X))),(2,.box 52 2 (qp))]) (nb:=[]) H1 7 [7] rfl (by kernel_rfl) rfl rfl ?_ ?_
 ·refine cp (Ri (.tmp 0 rfl)) ?_
  refine cp (Su (.tmp 0 rfl)) ?_
  refine cp (qkv (.tmp 0 rfl)) ?_
  refine cp (Ar (.tmp 0 rfl)) ?_
  refine cp (Cb (.tmp 0 rfl)) ?_
  refine cp (qd9 (.tmp 0 rfl) (Opd.eqM (.tmp 1 rfl) (by rw [Int.natAbs_neg]))) ?_
  refine cp (zl (Em (-X)) (.cons (.tmp 0 rfl) (.nil))) ?_
  exact .nil
 clear H1 a1 w1 B1
 intro a2 w2 B2 H2
 refine zi ?_
 refine ja (l':=[(9,.val (zn (-X))),(2,.box 52 2 (zn (-X)))]) 1 H2 rfl tyI rfl (.tmp 0 rfl) jl ve rfl rfl ?_
 clear H2 w2
 intro w3 H3
 refine qi ?_
 refine qg ?_
 refine wp_ret ?_
 exact Cc H3 tyI rfl 1 rfl (fun _ _ _ h=>h)
set_option maxRecDepth 20000 in
set_option maxHeartbeats 2000000 in
theorem U7 (X Y:Int) {k m:Nat} (hx:yz k X) (hy:yz m Y) (hk:k+m+1≤274877906944):Con Tryz.prog 138 [IsN X,IsN Y] (zn (X+Y)):=by
 refine Ba (N:=50) Tryz.ntmps138 (fun _ _=>by go_simp) Tryz.func138 rfl (by simp) ?_
 intro a0 w0 B0 H0
 replace H0:St 50 w0 B0 a0 w0 B0 [(0,.val (IsN X)),(1,.val (IsN Y))] []:=H0
 have fita:Fits ((X.natAbs:Int)+(Y.natAbs:Int)):=(hx.abs.add hy.abs).fits (by omega)
 have fitm:Fits ((X.natAbs:Int)*(Y.natAbs:Int)):=(hx.abs.mul hy.abs).fits (by omega)
 refine wp_seq ?_
 refine fr (refs:=[[.pre 0],[.pre 1],[]]) (outs:=[.res 0,.res 1,.res 2]) (als:=[true,true,true]) (posts:=[.box 52 2 (IsN X),.box 52 2 (IsN Y),.box 52 2 (qp)])
  (out:=[(2,.box 52 2 (IsN X)),(3,.box 52 2 (IsN Y)),(4,.box 52 2 (qp))]) (nb:=[2,3,4]) H0 3 [] rfl (by kernel_rfl) rfl rfl ?_ ?_
 ·refine cp (Bq (.tmp 0 rfl) Bc.two) ?_
  refine cp (Bq (.tmp 0 rfl) Bc.two) ?_
  refine cp (yw (D:=qp) Dq rfl (fun _ _=>rfl)) ?_
  exact .nil
 clear H0
 intro a1 w1 B1 H1
 simp only [List.cons_append,List.nil_append] at H1
 refine qi ?_
 refine qg ?_
 refine wp_seq ?_
 refine wp_seq ?_
 refine fd (refs:=[[.pre 0],[.res 0],[.pre 1],[.res 2],[.res 1,.res 3]]) (outs:=[.res 4]++pr 0 3) (als:=fs 5) (posts:=[.val (IsN X),bv (decide (X<0)),.val (IsN Y),bv (decide (Y<0)),bv ((decide (X<0)) == (decide (Y<0)))])
  (out:=[(13,bv ((decide (X<0)) == (decide (Y<0)))),(2,.box 52 2 (IsN X)),(3,.box 52 2 (IsN Y)),(4,.box 52 2 (qp))]) (nb:=[]) H1 (by kernel_rfl) 5 0 #[true,true,true,true,true] (by kernel_rfl) (by kernel_rfl) rfl rfl ?_ ?_
 ·refine cp (zo tyI (.tmp 0 rfl)) ?_
  refine cp (zl (Ea X) (.cons (.tmp 0 rfl) (.nil))) ?_
  refine cp (zo tyI (.tmp 0 rfl)) ?_
  refine cp (zl (Ea Y) (.cons (.tmp 0 rfl) (.nil))) ?_
  refine cp (qn0 Tryz.underlying4 (.tmp 0 rfl) (.tmp 1 rfl)) ?_
  exact .nil
 clear H1 a1 w1 B1
 intro a2 w2 B2 H2
 refine Bh (by kernel_rfl) ?_
 refine qg ?_
 refine Aa H2 (.tmp 0 rfl) ?_ ?_
 ·intro hc3
  refine wp_seq ?_
  refine fd (refs:=[[.pre 1],[.res 0],[.pre 1],[.res 2],[.pre 2],[.res 4],[.res 3,.res 5],[.res 1,.res 6],[.res 7]]) (outs:=[.res 8]++pr 1 3) (als:=fs 9) (posts:=[.val (IsN X),bv (decide (X<0)),.ptr 52 2 (IsN X) 1,.val (IsM ((X).natAbs:Int)),.ptr 52 2 (IsN Y) 1,.val (IsM ((Y).natAbs:Int)),.val (zg (((X).natAbs:Int)+((Y).natAbs:Int))),.val (IsN (sI (decide (X<0)) (((X).natAbs:Int)+((Y).natAbs:Int)))),.val (zn (sI (decide (X<0)) (((X).natAbs:Int)+((Y).natAbs:Int))))])
   (out:=[(22,.val (zn (sI (decide (X<0)) (((X).natAbs:Int)+((Y).natAbs:Int))))),(2,.box 52 2 (IsN X)),(3,.box 52 2 (IsN Y)),(4,.box 52 2 (qp))]) (nb:=[]) H2 (by kernel_rfl) 9 1 #[true,true,true,true,true,true,true,true,true,false] (by kernel_rfl) (by kernel_rfl) rfl rfl ?_ ?_
  ·refine cp (zo tyI (.tmp 0 rfl)) ?_
   refine cp (zl (Ea X) (.cons (.tmp 0 rfl) (.nil))) ?_
   refine cp (Ar (.tmp 0 rfl)) ?_
   refine cp (Cb (.tmp 0 rfl)) ?_
   refine cp (Ar (.tmp 0 rfl)) ?_
   refine cp (Cb (.tmp 0 rfl)) ?_
   refine cp (zl (Qx ((X).natAbs:Int) ((Y).natAbs:Int) (fita)) (.cons (.tmp 0 rfl) (.cons (.tmp 1 rfl) (.nil)))) ?_
   refine cp (Ha (.tmp 0 rfl) (.weak (.tmp 1 rfl) Di)) ?_
   refine cp (zl (Em (sI (decide (X<0)) (((X).natAbs:Int)+((Y).natAbs:Int)))) (.cons (.tmp 0 rfl) (.nil))) ?_
   exact .nil
  clear H2 a2 w2 B2
  intro a4 w4 B4 H4
  refine Az (l':=#[true,true,true,true,true,true,true,true,true,true]) 9 (by kernel_rfl) ?_
  refine ja (l':=[(22,.val (zn (sI (decide (X<0)) (((X).natAbs:Int)+((Y).natAbs:Int))))),(2,.box 52 2 (IsN X)),(3,.box 52 2 (IsN Y)),(4,.box 52 2 (zn (sI (decide (X<0)) (((X).natAbs:Int)+((Y).natAbs:Int)))))]) 3 H4 rfl tyI rfl (.tmp 0 rfl) jl ve rfl rfl ?_
  clear H4 w4
  intro w5 H5
  refine Bh (by kernel_rfl) ?_
  refine qg ?_
  refine wp_ret ?_
  refine yh ?_
  exact Cc H5 tyI rfl 3 rfl (fun v w B h=>by first | exact yj (qeq X Y (by assumption)) h | exact yj (qax X Y (by assumption) (by assumption)) h | exact yj (qay X Y (by assumption) (by assumption)) h)
 ·intro hc3
  refine wp_skip ?_
  refine qg ?_
  refine wp_seq ?_
  refine wp_seq ?_
  refine fr (refs:=[[.pre 1],[.res 0],[.pre 2],[.res 2],[.res 1,.res 3],[.res 4],[.res 5],[.res 5],[.res 6],[.res 7]]) (outs:=[.res 8,.res 9]++pr 1 3) (als:=fs 10) (posts:=[.ptr 52 2 (IsN X) 1,.val (IsM ((X).natAbs:Int)),.ptr 52 2 (IsN Y) 1,.val (IsM ((Y).natAbs:Int)),.val (Tup [zg (if ((Y).natAbs:Int)≤((X).natAbs:Int) then ((X).natAbs:Int)-((Y).natAbs:Int) else 0),IsB (decide (((Y).natAbs:Int)≤((X).natAbs:Int)))]),.val (Tup [zg (if ((Y).natAbs:Int)≤((X).natAbs:Int) then ((X).natAbs:Int)-((Y).natAbs:Int) else 0),IsB (decide (((Y).natAbs:Int)≤((X).natAbs:Int)))]),.val (zg (if ((Y).natAbs:Int)≤((X).natAbs:Int) then ((X).natAbs:Int)-((Y).natAbs:Int) else 0)),bv (decide (((Y).natAbs:Int)≤((X).natAbs:Int))),.val (zg (if ((Y).natAbs:Int)≤((X).natAbs:Int) then ((X).natAbs:Int)-((Y).natAbs:Int) else 0)),bv (decide (((Y).natAbs:Int)≤((X).natAbs:Int)))])
   (out:=[(5,.val (zg (if ((Y).natAbs:Int)≤((X).natAbs:Int) then ((X).natAbs:Int)-((Y).natAbs:Int) else 0))),(6,bv (decide (((Y).natAbs:Int)≤((X).natAbs:Int)))),(2,.box 52 2 (IsN X)),(3,.box 52 2 (IsN Y)),(4,.box 52 2 (qp))]) (nb:=[]) H2 10 [] rfl (by kernel_rfl) rfl rfl ?_ ?_
  ·refine cp (Ar (.tmp 0 rfl)) ?_
   refine cp (Cb (.tmp 0 rfl)) ?_
   refine cp (Ar (.tmp 0 rfl)) ?_
   refine cp (Cb (.tmp 0 rfl)) ?_
   refine cp (zl (Yz ((X).natAbs:Int) ((Y).natAbs:Int)) (.cons (.tmp 0 rfl) (.cons (.tmp 1 rfl) (.nil)))) ?_
   refine cp (qh (.tmp 0 rfl)) ?_
   refine cp (zq 0 (.tmp 0 rfl) rfl) ?_
   refine cp (zq 1 (.tmp 0 rfl) rfl) ?_
   refine cp (qm (.tmp 0 rfl)) ?_
   refine cp (qm (.tmp 0 rfl)) ?_
   exact .nil
  clear H2 a2 w2 B2
  intro a6 w6 B6 H6
  refine qi ?_
  refine qg ?_
  refine wp_seq ?_
  refine fr (refs:=[[.pre 1]]) (outs:=[.res 0,.pre 0]++pr 2 3) (als:=[false]) (posts:=[bv (decide (((Y).natAbs:Int)≤((X).natAbs:Int)))])
   (out:=[(31,bv (decide (((Y).natAbs:Int)≤((X).natAbs:Int)))),(5,.val (zg (if ((Y).natAbs:Int)≤((X).natAbs:Int) then ((X).natAbs:Int)-((Y).natAbs:Int) else 0))),(2,.box 52 2 (IsN X)),(3,.box 52 2 (IsN Y)),(4,.box 52 2 (qp))]) (nb:=[]) H6 1 [] rfl (by kernel_rfl) rfl rfl ?_ ?_
  ·refine cp (qh (.tmp 0 rfl)) ?_
   exact .nil
  clear H6 a6 w6 B6
  intro a7 w7 B7 H7
  refine qi ?_
  refine qg ?_
  refine Aa H7 (.tmp 0 rfl) ?_ ?_
  ·intro hc8
   replace hc8:=of_decide_eq_true hc8
   refine wp_seq ?_
   refine fr (refs:=[[.pre 2],[.res 0],[.pre 1],[.res 1,.res 2],[.res 3]]) (outs:=[.res 4]++pr 2 3) (als:=fs 5) (posts:=[.val (IsN X),bv (decide (X<0)),.val (zg (if ((Y).natAbs:Int)≤((X).natAbs:Int) then ((X).natAbs:Int)-((Y).natAbs:Int) else 0)),.val (IsN (sI (decide (X<0)) (if ((Y).natAbs:Int)≤((X).natAbs:Int) then ((X).natAbs:Int)-((Y).natAbs:Int) else 0))),.val (zn (sI (decide (X<0)) (if ((Y).natAbs:Int)≤((X).natAbs:Int) then ((X).natAbs:Int)-((Y).natAbs:Int) else 0)))])
    (out:=[(36,.val (zn (sI (decide (X<0)) (if ((Y).natAbs:Int)≤((X).natAbs:Int) then ((X).natAbs:Int)-((Y).natAbs:Int) else 0)))),(2,.box 52 2 (IsN X)),(3,.box 52 2 (IsN Y)),(4,.box 52 2 (qp))]) (nb:=[]) H7 5 [5] rfl (by kernel_rfl) rfl rfl ?_ ?_
   ·refine cp (zo tyI (.tmp 0 rfl)) ?_
    refine cp (zl (Ea X) (.cons (.tmp 0 rfl) (.nil))) ?_
    refine cp (qh (.tmp 0 rfl)) ?_
    refine cp (Ha (.tmp 0 rfl) (.weak (.tmp 1 rfl) Di)) ?_
    refine cp (zl (Em (sI (decide (X<0)) (if ((Y).natAbs:Int)≤((X).natAbs:Int) then ((X).natAbs:Int)-((Y).natAbs:Int) else 0))) (.cons (.tmp 0 rfl) (.nil))) ?_
    exact .nil
   clear H7 a7 w7 B7
   intro a9 w9 B9 H9
   refine zi ?_
   refine ja (l':=[(36,.val (zn (sI (decide (X<0)) (if ((Y).natAbs:Int)≤((X).natAbs:Int) then ((X).natAbs:Int)-((Y).natAbs:Int) else 0)))),(2,.box 52 2 (IsN X)),(3,.box 52 2 (IsN Y)),(4,.box 52 2 (zn (sI (decide (X<0)) (if ((Y).natAbs:Int)≤((X).natAbs:Int) then ((X).natAbs:Int)-((Y).natAbs:Int) else 0))))]) 3 H9 rfl tyI rfl (.tmp 0 rfl) jl ve rfl rfl ?_
   clear H9 w9
   intro w10 H10
   refine qi ?_
   refine qg ?_
   refine wp_ret ?_
   refine yh ?_
   exact Cc H10 tyI rfl 3 rfl (fun v w B h=>by first | exact yj (qeq X Y (by assumption)) h | exact yj (qax X Y (by assumption) (by assumption)) h | exact yj (qay X Y (by assumption) (by assumption)) h)
  ·intro hc8
   replace hc8:=of_decide_eq_false hc8
   refine wp_skip ?_
   refine qg ?_
   refine wp_seq ?_
   refine fr (refs:=[[.pre 3],[.res 0],[.pre 2],[.res 2],[.res 1,.res 3],[.res 4],[.res 5],[.res 5],[.res 6],[.res 7]]) (outs:=[.res 8,.pre 3,.pre 4]) (als:=fs 10) (posts:=[.ptr 52 2 (IsN Y) 1,.val (IsM ((Y).natAbs:Int)),.ptr 52 2 (IsN X) 1,.val (IsM ((X).natAbs:Int)),.val (Tup [zg (if ((X).natAbs:Int)≤((Y).natAbs:Int) then ((Y).natAbs:Int)-((X).natAbs:Int) else 0),IsB (decide (((X).natAbs:Int)≤((Y).natAbs:Int)))]),.val (Tup [zg (if ((X).natAbs:Int)≤((Y).natAbs:Int) then ((Y).natAbs:Int)-((X).natAbs:Int) else 0),IsB (decide (((X).natAbs:Int)≤((Y).natAbs:Int)))]),.val (zg (if ((X).natAbs:Int)≤((Y).natAbs:Int) then ((Y).natAbs:Int)-((X).natAbs:Int) else 0)),bv (decide (((X).natAbs:Int)≤((Y).natAbs:Int))),.val (zg (if ((X).natAbs:Int)≤((Y).natAbs:Int) then ((Y).natAbs:Int)-((X).natAbs:Int) else 0)),bv (decide (((X).natAbs:Int)≤((Y).natAbs:Int)))])
    (out:=[(7,.val (zg (if ((X).natAbs:Int)≤((Y).natAbs:Int) then ((Y).natAbs:Int)-((X).natAbs:Int) else 0))),(3,.box 52 2 (IsN Y)),(4,.box 52 2 (qp))]) (nb:=[]) H7 10 [] rfl (by kernel_rfl) rfl rfl ?_ ?_
   ·refine cp (Ar (.tmp 0 rfl)) ?_
    refine cp (Cb (.tmp 0 rfl)) ?_
    refine cp (Ar (.tmp 0 rfl)) ?_
    refine cp (Cb (.tmp 0 rfl)) ?_
    refine cp (zl (Yz ((Y).natAbs:Int) ((X).natAbs:Int)) (.cons (.tmp 0 rfl) (.cons (.tmp 1 rfl) (.nil)))) ?_
    refine cp (qh (.tmp 0 rfl)) ?_
    refine cp (zq 0 (.tmp 0 rfl) rfl) ?_
    refine cp (zq 1 (.tmp 0 rfl) rfl) ?_
    refine cp (qm (.tmp 0 rfl)) ?_
    refine cp (qm (.tmp 0 rfl)) ?_
    exact .nil
   clear H7 a7 w7 B7
   intro a11 w11 B11 H11
   refine qi ?_
   refine qg ?_
   refine wp_seq ?_
   refine fr (refs:=[[.pre 1],[.res 0],[.pre 0],[.res 1,.res 2],[.res 3]]) (outs:=[.res 4,.pre 2]) (als:=fs 5) (posts:=[.val (IsN Y),bv (decide (Y<0)),.val (zg (if ((X).natAbs:Int)≤((Y).natAbs:Int) then ((Y).natAbs:Int)-((X).natAbs:Int) else 0)),.val (IsN (sI (decide (Y<0)) (if ((X).natAbs:Int)≤((Y).natAbs:Int) then ((Y).natAbs:Int)-((X).natAbs:Int) else 0))),.val (zn (sI (decide (Y<0)) (if ((X).natAbs:Int)≤((Y).natAbs:Int) then ((Y).natAbs:Int)-((X).natAbs:Int) else 0)))])
    (out:=[(49,.val (zn (sI (decide (Y<0)) (if ((X).natAbs:Int)≤((Y).natAbs:Int) then ((Y).natAbs:Int)-((X).natAbs:Int) else 0)))),(4,.box 52 2 (qp))]) (nb:=[]) H11 5 [5] rfl (by kernel_rfl) rfl rfl ?_ ?_
   ·refine cp (zo tyI (.tmp 0 rfl)) ?_
    refine cp (zl (Ea Y) (.cons (.tmp 0 rfl) (.nil))) ?_
    refine cp (qh (.tmp 0 rfl)) ?_
    refine cp (Ha (.tmp 0 rfl) (.weak (.tmp 1 rfl) Di)) ?_
    refine cp (zl (Em (sI (decide (Y<0)) (if ((X).natAbs:Int)≤((Y).natAbs:Int) then ((Y).natAbs:Int)-((X).natAbs:Int) else 0))) (.cons (.tmp 0 rfl) (.nil))) ?_
    exact .nil
   clear H11 a11 w11 B11
   intro a12 w12 B12 H12
   refine zi ?_
   refine ja (l':=[(49,.val (zn (sI (decide (Y<0)) (if ((X).natAbs:Int)≤((Y).natAbs:Int) then ((Y).natAbs:Int)-((X).natAbs:Int) else 0)))),(4,.box 52 2 (zn (sI (decide (Y<0)) (if ((X).natAbs:Int)≤((Y).natAbs:Int) then ((Y).natAbs:Int)-((X).natAbs:Int) else 0))))]) 1 H12 rfl tyI rfl (.tmp 0 rfl) jl ve rfl rfl ?_
   clear H12 w12
   intro w13 H13
   refine qi ?_
   refine qg ?_
   refine wp_ret ?_
   exact Cc H13 tyI rfl 1 rfl (fun v w B h=>by first | exact yj (qeq X Y (by assumption)) h | exact yj (qax X Y (by assumption) (by assumption)) h | exact yj (qay X Y (by assumption) (by assumption)) h)
set_option maxRecDepth 20000 in
set_option maxHeartbeats 2000000 in
theorem Ph (X Y:Int) {k m:Nat} (hx:yz k X) (hy:yz m Y) (hk:k+m+1≤274877906944):Con Tryz.prog 139 [IsN X,IsN Y] (zn (X-Y)):=by
 refine Ba (N:=9) Tryz.ntmps139 (fun _ _=>by go_simp) Tryz.func139 rfl (by simp) ?_
 intro a0 w0 B0 H0
 replace H0:St 9 w0 B0 a0 w0 B0 [(0,.val (IsN X)),(1,.val (IsN Y))] []:=H0
 refine wp_seq ?_
 refine fr (refs:=[[.pre 0],[.pre 1],[]]) (outs:=[.res 0,.res 1,.res 2]) (als:=[true,true,true]) (posts:=[.box 52 2 (IsN X),.box 52 2 (IsN Y),.box 52 2 (qp)])
  (out:=[(2,.box 52 2 (IsN X)),(3,.box 52 2 (IsN Y)),(4,.box 52 2 (qp))]) (nb:=[2,3,4]) H0 3 [] rfl (by kernel_rfl) rfl rfl ?_ ?_
 ·refine cp (Bq (.tmp 0 rfl) Bc.two) ?_
  refine cp (Bq (.tmp 0 rfl) Bc.two) ?_
  refine cp (yw (D:=qp) Dq rfl (fun _ _=>rfl)) ?_
  exact .nil
 clear H0
 intro a1 w1 B1 H1
 simp only [List.cons_append,List.nil_append] at H1
 refine qi ?_
 refine qg ?_
 refine wp_seq ?_
 refine fd (refs:=[[.pre 0],[.pre 1],[.res 1],[.res 0,.res 2]]) (outs:=[.res 3,.pre 2]) (als:=fs 4) (posts:=[.val (IsN X),.val (IsN Y),.val (zn (-Y)),.val (zn (X+(-Y)))])
  (out:=[(8,.val (zn (X+(-Y)))),(4,.box 52 2 (qp))]) (nb:=[]) H1 (by kernel_rfl) 4 1 #[true,true,true,true,false] (by kernel_rfl) (by kernel_rfl) rfl rfl ?_ ?_
 ·refine cp (zo tyI (.tmp 0 rfl)) ?_
  refine cp (zo tyI (.tmp 0 rfl)) ?_
  refine cp (zl (U9 Y) (.cons (.tmp 0 rfl) (.nil))) ?_
  refine cp (zl (U7 X (-Y) hx hy.neg (by omega)) (.cons (.tmp 0 rfl) (.cons (.weak (.tmp 1 rfl) qa4) (.nil)))) ?_
  exact .nil
 clear H1 a1 w1 B1
 intro a2 w2 B2 H2
 refine Az (l':=#[true,true,true,true,true]) 4 (by kernel_rfl) ?_
 refine ja (l':=[(8,.val (zn (X+(-Y)))),(4,.box 52 2 (zn (X+(-Y))))]) 1 H2 rfl tyI rfl (.tmp 0 rfl) jl ve rfl rfl ?_
 clear H2 w2
 intro w3 H3
 refine Bh (by kernel_rfl) ?_
 refine qg ?_
 refine wp_ret ?_
 exact Cc H3 tyI rfl 1 rfl (fun v w B h=>by exact yj (Int.sub_eq_add_neg).symm h)
set_option maxRecDepth 20000 in
set_option maxHeartbeats 2000000 in
theorem U8 (X Y:Int) {k m:Nat} (hx:yz k X) (hy:yz m Y) (hk:k+m+1≤274877906944):Con Tryz.prog 140 [IsN X,IsN Y] (zn (X*Y)):=by
 refine Ba (N:=17) Tryz.ntmps140 (fun _ _=>by go_simp) Tryz.func140 rfl (by simp) ?_
 intro a0 w0 B0 H0
 replace H0:St 17 w0 B0 a0 w0 B0 [(0,.val (IsN X)),(1,.val (IsN Y))] []:=H0
 have fita:Fits ((X.natAbs:Int)+(Y.natAbs:Int)):=(hx.abs.add hy.abs).fits (by omega)
 have fitm:Fits ((X.natAbs:Int)*(Y.natAbs:Int)):=(hx.abs.mul hy.abs).fits (by omega)
 refine wp_seq ?_
 refine fr (refs:=[[.pre 0],[.pre 1],[]]) (outs:=[.res 0,.res 1,.res 2]) (als:=[true,true,true]) (posts:=[.box 52 2 (IsN X),.box 52 2 (IsN Y),.box 52 2 (qp)])
  (out:=[(2,.box 52 2 (IsN X)),(3,.box 52 2 (IsN Y)),(4,.box 52 2 (qp))]) (nb:=[2,3,4]) H0 3 [] rfl (by kernel_rfl) rfl rfl ?_ ?_
 ·refine cp (Bq (.tmp 0 rfl) Bc.two) ?_
  refine cp (Bq (.tmp 0 rfl) Bc.two) ?_
  refine cp (yw (D:=qp) Dq rfl (fun _ _=>rfl)) ?_
  exact .nil
 clear H0
 intro a1 w1 B1 H1
 simp only [List.cons_append,List.nil_append] at H1
 refine qi ?_
 refine qg ?_
 refine wp_seq ?_
 refine fd (refs:=[[.pre 0],[.res 0],[.pre 1],[.res 2],[.res 1,.res 3],[.pre 0],[.res 5],[.pre 1],[.res 7],[.res 6,.res 8],[.res 4,.res 9],[.res 10]]) (outs:=[.res 11,.pre 2]) (als:=fs 12) (posts:=[.val (IsN X),bv (decide (X<0)),.val (IsN Y),bv (decide (Y<0)),bv ((decide (X<0)) != (decide (Y<0))),.ptr 52 2 (IsN X) 1,.val (IsM ((X).natAbs:Int)),.ptr 52 2 (IsN Y) 1,.val (IsM ((Y).natAbs:Int)),.val (zg (((X).natAbs:Int)*((Y).natAbs:Int))),.val (IsN (sI ((decide (X<0)) != (decide (Y<0))) (((X).natAbs:Int)*((Y).natAbs:Int)))),.val (zn (sI ((decide (X<0)) != (decide (Y<0))) (((X).natAbs:Int)*((Y).natAbs:Int))))])
  (out:=[(16,.val (zn (sI ((decide (X<0)) != (decide (Y<0))) (((X).natAbs:Int)*((Y).natAbs:Int))))),(4,.box 52 2 (qp))]) (nb:=[]) H1 (by kernel_rfl) 12 1 #[true,true,true,true,true,true,true,true,true,true,true,true,false] (by kernel_rfl) (by kernel_rfl) rfl rfl ?_ ?_
 ·refine cp (zo tyI (.tmp 0 rfl)) ?_
  refine cp (zl (Ea X) (.cons (.tmp 0 rfl) (.nil))) ?_
  refine cp (zo tyI (.tmp 0 rfl)) ?_
  refine cp (zl (Ea Y) (.cons (.tmp 0 rfl) (.nil))) ?_
  refine cp (qku Tryz.underlying4 (.tmp 0 rfl) (.tmp 1 rfl)) ?_
  refine cp (Ar (.tmp 0 rfl)) ?_
  refine cp (Cb (.tmp 0 rfl)) ?_
  refine cp (Ar (.tmp 0 rfl)) ?_
  refine cp (Cb (.tmp 0 rfl)) ?_
  refine cp (zl (Qy ((X).natAbs:Int) ((Y).natAbs:Int) (fitm)) (.cons (.tmp 0 rfl) (.cons (.tmp 1 rfl) (.nil)))) ?_
  refine cp (Ha (.tmp 0 rfl) (.weak (.tmp 1 rfl) Di)) ?_
  refine cp (zl (Em (sI ((decide (X<0)) != (decide (Y<0))) (((X).natAbs:Int)*((Y).natAbs:Int)))) (.cons (.tmp 0 rfl) (.nil))) ?_
  exact .nil
 clear H1 a1 w1 B1
 intro a2 w2 B2 H2
 refine Az (l':=#[true,true,true,true,true,true,true,true,true,true,true,true,true]) 12 (by kernel_rfl) ?_
 refine ja (l':=[(16,.val (zn (sI ((decide (X<0)) != (decide (Y<0))) (((X).natAbs:Int)*((Y).natAbs:Int))))),(4,.box 52 2 (zn (sI ((decide (X<0)) != (decide (Y<0))) (((X).natAbs:Int)*((Y).natAbs:Int)))))]) 1 H2 rfl tyI rfl (.tmp 0 rfl) jl ve rfl rfl ?_
 clear H2 w2
 intro w3 H3
 refine Bh (by kernel_rfl) ?_
 refine qg ?_
 refine wp_ret ?_
 exact Cc H3 tyI rfl 1 rfl (fun v w B h=>by exact yj (qn4 X Y) h)
end Go.Proofs.YtbcbmkeeoognpaaGreatDoor
