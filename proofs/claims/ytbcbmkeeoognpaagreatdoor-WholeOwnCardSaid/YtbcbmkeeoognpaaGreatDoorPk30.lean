/- Contracts of functions, and plain facts, part 30. -/
import Derived.Test.YtbcbmkeeoognpaaGreatDoorPk25
import Derived.Test.YtbcbmkeeoognpaaGreatDoorPk26
import Derived.Test.YtbcbmkeeoognpaaGreatDoorPk27
import Derived.Test.YtbcbmkeeoognpaaGreatDoorPk28
import Derived.Test.YtbcbmkeeoognpaaGreatDoorPk29
set_option linter.unusedVariables false
set_option linter.unusedSimpArgs false
namespace Go.Proofs.YtbcbmkeeoognpaaGreatDoor
open Go Go.RowKit
def qy (X Y n:Int) (s:ByteArray):List Int:=[X,n,-X,X+Y,X-Y,X*Y,X.tdiv Y,vg X Y,jf (qf s),xm (qf s)]
set_option maxRecDepth 20000 in
set_option maxHeartbeats 2000000 in
theorem Ic (X Y n:Int) (s:ByteArray) (hx:yz 1024 X) (hy:yz 1024 Y) (hn : -9223372036854775808≤n∧n<9223372036854775808) (hs:s.size≤1024):Oz Tryz.prog 42 [IsN X,IsN Y,Lit (.int .i64 n),Lit (.string s)] (fun lo=>Gt lo (qy X Y n s)):=by
 refine Qe (N:=60) Tryz.ntmps42 (fun _ _=>by go_simp) Tryz.func42 rfl (by simp) ?_
 intro lo a0 w0 B0 H0
 replace H0:St 60 w0 B0 a0 w0 B0 [(0,.val (IsN X)),(1,.val (IsN Y)),(2,i6 n),(3,.val (Lit (.string s))),(60,zs lo)] []:=H0
 refine wp_seq ?_
 refine fr (refs:=[[.pre 0],[.pre 1],[]]) (outs:=[.res 0,.res 1,.res 2]++pr 2 3) (als:=[true,true,true]) (posts:=[.box 52 2 (IsN X),.box 52 2 (IsN Y),.box 76 20 (jb (lst []))])
  (out:=[(4,.box 52 2 (IsN X)),(5,.box 52 2 (IsN Y)),(8,.box 76 20 (jb (lst []))),(2,i6 n),(3,.val (Lit (.string s))),(60,zs lo)]) (nb:=[4,5,8]) H0 3 [] rfl (by kernel_rfl) rfl rfl ?_ ?_
 ·refine cp (Bq (.tmp 0 rfl) Bc.two) ?_
  refine cp (Bq (.tmp 0 rfl) Bc.two) ?_
  refine cp (Dx) ?_
  exact .nil
 clear H0
 intro a1 w1 B1 H1
 simp only [List.cons_append,List.nil_append] at H1
 refine qi ?_
 refine qg ?_
 refine wp_seq ?_
 refine fr (refs:=[[]]) (outs:=[.res 0]++pr 0 6) (als:=[true]) (posts:=[.box 76 20 (jb (lst []))])
  (out:=[(9,.box 76 20 (jb (lst []))),(4,.box 52 2 (IsN X)),(5,.box 52 2 (IsN Y)),(8,.box 76 20 (jb (lst []))),(2,i6 n),(3,.val (Lit (.string s))),(60,zs lo)]) (nb:=[9]) H1 1 [] rfl (by kernel_rfl) rfl rfl ?_ ?_
 ·refine cp (Dx) ?_
  exact .nil
 clear H1 a1 w1 B1
 intro a2 w2 B2 H2
 simp only [List.cons_append,List.nil_append] at H2
 refine qi ?_
 refine qg ?_
 refine wp_seq ?_
 refine fr (refs:=[[.pre 1],[.res 0,.pre 6]]) (outs:=[.res 1]++pr 0 7) (als:=fs 2) (posts:=[.val (IsN X),.val (qo lo (IsI X))])
  (out:=[(11,.val (qo lo (IsI X))),(9,.box 76 20 (jb (lst []))),(4,.box 52 2 (IsN X)),(5,.box 52 2 (IsN Y)),(8,.box 76 20 (jb (lst []))),(2,i6 n),(3,.val (Lit (.string s))),(60,zs lo)]) (nb:=[]) H2 2 [2,3,4] rfl (by kernel_rfl) rfl rfl ?_ ?_
 ·refine cp (zo tyI (.tmp 0 rfl)) ?_
  refine cp (y9 1 ((qgi X).freshI (Gs.all ⟨Fj,trivial⟩)) rfl (.cons (.tmp 0 rfl) (.nil))) ?_
  exact .nil
 clear H2 a2 w2 B2
 intro a3 w3 B3 H3
 obtain ⟨g4,hg4,H4⟩:=St.nameFI H3 0 rfl (l':=fun g4=>[(11,.val (qj g4 (IsI X))),(9,.box 76 20 (jb (lst []))),(4,.box 52 2 (IsN X)),(5,.box 52 2 (IsN Y)),(8,.box 76 20 (jb (lst []))),(2,i6 n),(3,.val (Lit (.string s))),(60,zs lo)]) (fun _=>rfl)
 clear H3
 replace H4:St 60 w0 B0 a3 w3 B3 [(11,.val (qj g4 (IsI X))),(9,.box 76 20 (jb (lst []))),(4,.box 52 2 (IsN X)),(5,.box 52 2 (IsN Y)),(8,.box 76 20 (jb (lst []))),(2,i6 n),(3,.val (Lit (.string s))),(60,zs lo)] [9,4,5,8]:=H4
 have hz5:lo≤w3.heap.size:=H4.fc.get 7 rfl
 obtain ⟨m6,hm6,hw6,hL6,H6⟩:=St.mark H4 906
 clear H4
 clear hL6
 replace hz5:lo≤m6:=Nat.le_trans hz5 hw6
 replace hg4:∀b,g4=some b→lo≤b∧b<m6:=fun b hb=>⟨(hg4 b hb).1,Nat.lt_of_lt_of_le (hg4 b hb).2 hw6⟩
 clear hw6
 refine Aj (i:=2) (j:=3) (k:=4) (Ls:=[]) (Ls':=[qj g4 (IsI X)]) (E:=qj g4 (IsI X)) (l':=[(906,zs m6),(11,.val (qj g4 (IsI X))),(9,.box 76 20 (jb (lst [qj g4 (IsI X)]))),(4,.box 52 2 (IsN X)),(5,.box 52 2 (IsN Y)),(8,.box 76 20 (jb (lst []))),(2,i6 n),(3,.val (Lit (.string s))),(60,zs lo)]) 2 1 rfl H6 rfl rfl rfl rfl (Nat.le_of_ble_eq_true rfl) rfl rfl Ko rfl (by kernel_rfl) rfl ?_
 clear H6 a3 w3
 intro a7 w7 H7
 obtain ⟨B7,hB7⟩:∃B:Bx,B=B3:=⟨_,rfl⟩
 rw [←hB7] at H7
 clear hB7 B3
 refine qi ?_
 refine qg ?_
 refine wp_seq ?_
 refine fr (refs:=[[.pre 6],[.res 0,.pre 0]]) (outs:=[.res 1,.pre 0]++pr 2 4++[.pre 7,.pre 8]) (als:=fs 2) (posts:=[i6 n,.val (qo m6 (IsI n))])
  (out:=[(15,.val (qo m6 (IsI n))),(906,zs m6),(9,.box 76 20 (jb (lst [qj g4 (IsI X)]))),(4,.box 52 2 (IsN X)),(5,.box 52 2 (IsN Y)),(8,.box 76 20 (jb (lst []))),(3,.val (Lit (.string s))),(60,zs lo)]) (nb:=[]) H7 2 [2,3,4] rfl (by kernel_rfl) rfl rfl ?_ ?_
 ·refine cp (qh (.tmp 0 rfl)) ?_
  refine cp (y9 1 ((qgh n hn).freshI (Gs.all ⟨Kt,trivial⟩)) rfl (.cons (.tmp 0 rfl) (.nil))) ?_
  exact .nil
 clear H7 a7 w7 B7
 intro a8 w8 B8 H8
 obtain ⟨g9,hg9,H9⟩:=St.nameFI H8 0 rfl (l':=fun g9=>[(15,.val (qj g9 (IsI n))),(906,zs m6),(9,.box 76 20 (jb (lst [qj g4 (IsI X)]))),(4,.box 52 2 (IsN X)),(5,.box 52 2 (IsN Y)),(8,.box 76 20 (jb (lst []))),(3,.val (Lit (.string s))),(60,zs lo)]) (fun _=>rfl)
 clear H8
 replace H9:St 60 w0 B0 a8 w8 B8 [(15,.val (qj g9 (IsI n))),(906,zs m6),(9,.box 76 20 (jb (lst [qj g4 (IsI X)]))),(4,.box 52 2 (IsN X)),(5,.box 52 2 (IsN Y)),(8,.box 76 20 (jb (lst []))),(3,.val (Lit (.string s))),(60,zs lo)] [9,4,5,8]:=H9
 have hz10:m6≤w8.heap.size:=H9.fc.get 1 rfl
 obtain ⟨m11,hm11,hw11,hL11,H11⟩:=St.mark H9 911
 clear H9
 clear hL11
 replace hz10:m6≤m11:=Nat.le_trans hz10 hw11
 replace hg9:∀b,g9=some b→m6≤b∧b<m11:=fun b hb=>⟨(hg9 b hb).1,Nat.lt_of_lt_of_le (hg9 b hb).2 hw11⟩
 clear hw11
 refine Aj (i:=2) (j:=3) (k:=4) (Ls:=[qj g4 (IsI X)]) (Ls':=[qj g4 (IsI X),qj g9 (IsI n)]) (E:=qj g9 (IsI n)) (l':=[(911,zs m11),(15,.val (qj g9 (IsI n))),(906,zs m6),(9,.box 76 20 (jb (lst [qj g4 (IsI X),qj g9 (IsI n)]))),(4,.box 52 2 (IsN X)),(5,.box 52 2 (IsN Y)),(8,.box 76 20 (jb (lst []))),(3,.val (Lit (.string s))),(60,zs lo)]) 3 1 rfl H11 rfl rfl rfl rfl (Nat.le_of_ble_eq_true rfl) rfl rfl Ko rfl (by kernel_rfl) rfl ?_
 clear H11 a8 w8
 intro a12 w12 H12
 obtain ⟨B12,hB12⟩:∃B:Bx,B=B8:=⟨_,rfl⟩
 rw [←hB12] at H12
 clear hB12 B8
 refine qi ?_
 refine qg ?_
 refine wp_seq ?_
 refine fr (refs:=[[.pre 4],[.res 0,.pre 0]]) (outs:=[.res 1,.pre 0]++pr 2 7) (als:=fs 2) (posts:=[.val (IsN X),.val (qo m11 (IsI (-X)))])
  (out:=[(19,.val (qo m11 (IsI (-X)))),(911,zs m11),(906,zs m6),(9,.box 76 20 (jb (lst [qj g4 (IsI X),qj g9 (IsI n)]))),(4,.box 52 2 (IsN X)),(5,.box 52 2 (IsN Y)),(8,.box 76 20 (jb (lst []))),(3,.val (Lit (.string s))),(60,zs lo)]) (nb:=[]) H12 2 [2,3,4] rfl (by kernel_rfl) rfl rfl ?_ ?_
 ·refine cp (zo tyI (.tmp 0 rfl)) ?_
  refine cp (y9 1 ((qi6 X).freshI (Gs.all ⟨Fj,trivial⟩)) rfl (.cons (.tmp 0 rfl) (.nil))) ?_
  exact .nil
 clear H12 a12 w12 B12
 intro a13 w13 B13 H13
 obtain ⟨g14,hg14,H14⟩:=St.nameFI H13 0 rfl (l':=fun g14=>[(19,.val (qj g14 (IsI (-X)))),(911,zs m11),(906,zs m6),(9,.box 76 20 (jb (lst [qj g4 (IsI X),qj g9 (IsI n)]))),(4,.box 52 2 (IsN X)),(5,.box 52 2 (IsN Y)),(8,.box 76 20 (jb (lst []))),(3,.val (Lit (.string s))),(60,zs lo)]) (fun _=>rfl)
 clear H13
 replace H14:St 60 w0 B0 a13 w13 B13 [(19,.val (qj g14 (IsI (-X)))),(911,zs m11),(906,zs m6),(9,.box 76 20 (jb (lst [qj g4 (IsI X),qj g9 (IsI n)]))),(4,.box 52 2 (IsN X)),(5,.box 52 2 (IsN Y)),(8,.box 76 20 (jb (lst []))),(3,.val (Lit (.string s))),(60,zs lo)] [9,4,5,8]:=H14
 have hz15:m11≤w13.heap.size:=H14.fc.get 1 rfl
 obtain ⟨m16,hm16,hw16,hL16,H16⟩:=St.mark H14 916
 clear H14
 clear hL16
 replace hz15:m11≤m16:=Nat.le_trans hz15 hw16
 replace hg14:∀b,g14=some b→m11≤b∧b<m16:=fun b hb=>⟨(hg14 b hb).1,Nat.lt_of_lt_of_le (hg14 b hb).2 hw16⟩
 clear hw16
 refine Aj (i:=2) (j:=3) (k:=4) (Ls:=[qj g4 (IsI X),qj g9 (IsI n)]) (Ls':=[qj g4 (IsI X),qj g9 (IsI n),qj g14 (IsI (-X))]) (E:=qj g14 (IsI (-X))) (l':=[(916,zs m16),(19,.val (qj g14 (IsI (-X)))),(911,zs m11),(906,zs m6),(9,.box 76 20 (jb (lst [qj g4 (IsI X),qj g9 (IsI n),qj g14 (IsI (-X))]))),(4,.box 52 2 (IsN X)),(5,.box 52 2 (IsN Y)),(8,.box 76 20 (jb (lst []))),(3,.val (Lit (.string s))),(60,zs lo)]) 4 1 rfl H16 rfl rfl rfl rfl (Nat.le_of_ble_eq_true rfl) rfl rfl Ko rfl (by kernel_rfl) rfl ?_
 clear H16 a13 w13
 intro a17 w17 H17
 obtain ⟨B17,hB17⟩:∃B:Bx,B=B13:=⟨_,rfl⟩
 rw [←hB17] at H17
 clear hB17 B13
 refine qi ?_
 refine qg ?_
 refine wp_seq ?_
 refine fr (refs:=[[.pre 5],[.pre 6],[.res 0,.res 1,.pre 0]]) (outs:=[.res 2,.pre 0]++pr 2 8) (als:=fs 3) (posts:=[.val (IsN X),.val (IsN Y),.val (qo m16 (IsI (X+Y)))])
  (out:=[(24,.val (qo m16 (IsI (X+Y)))),(916,zs m16),(911,zs m11),(906,zs m6),(9,.box 76 20 (jb (lst [qj g4 (IsI X),qj g9 (IsI n),qj g14 (IsI (-X))]))),(4,.box 52 2 (IsN X)),(5,.box 52 2 (IsN Y)),(8,.box 76 20 (jb (lst []))),(3,.val (Lit (.string s))),(60,zs lo)]) (nb:=[]) H17 3 [3,4,5] rfl (by kernel_rfl) rfl rfl ?_ ?_
 ·refine cp (zo tyI (.tmp 0 rfl)) ?_
  refine cp (zo tyI (.tmp 0 rfl)) ?_
  refine cp (y9 2 ((qi2 X Y hx hy (by omega)).freshI (Gs.all ⟨Fj,Fj,trivial⟩)) rfl (.cons (.tmp 0 rfl) (.cons (.tmp 1 rfl) (.nil)))) ?_
  exact .nil
 clear H17 a17 w17 B17
 intro a18 w18 B18 H18
 obtain ⟨g19,hg19,H19⟩:=St.nameFI H18 0 rfl (l':=fun g19=>[(24,.val (qj g19 (IsI (X+Y)))),(916,zs m16),(911,zs m11),(906,zs m6),(9,.box 76 20 (jb (lst [qj g4 (IsI X),qj g9 (IsI n),qj g14 (IsI (-X))]))),(4,.box 52 2 (IsN X)),(5,.box 52 2 (IsN Y)),(8,.box 76 20 (jb (lst []))),(3,.val (Lit (.string s))),(60,zs lo)]) (fun _=>rfl)
 clear H18
 replace H19:St 60 w0 B0 a18 w18 B18 [(24,.val (qj g19 (IsI (X+Y)))),(916,zs m16),(911,zs m11),(906,zs m6),(9,.box 76 20 (jb (lst [qj g4 (IsI X),qj g9 (IsI n),qj g14 (IsI (-X))]))),(4,.box 52 2 (IsN X)),(5,.box 52 2 (IsN Y)),(8,.box 76 20 (jb (lst []))),(3,.val (Lit (.string s))),(60,zs lo)] [9,4,5,8]:=H19
 have hz20:m16≤w18.heap.size:=H19.fc.get 1 rfl
 obtain ⟨m21,hm21,hw21,hL21,H21⟩:=St.mark H19 921
 clear H19
 clear hL21
 replace hz20:m16≤m21:=Nat.le_trans hz20 hw21
 replace hg19:∀b,g19=some b→m16≤b∧b<m21:=fun b hb=>⟨(hg19 b hb).1,Nat.lt_of_lt_of_le (hg19 b hb).2 hw21⟩
 clear hw21
 refine Aj (i:=3) (j:=4) (k:=5) (Ls:=[qj g4 (IsI X),qj g9 (IsI n),qj g14 (IsI (-X))]) (Ls':=[qj g4 (IsI X),qj g9 (IsI n),qj g14 (IsI (-X)),qj g19 (IsI (X+Y))]) (E:=qj g19 (IsI (X+Y))) (l':=[(921,zs m21),(24,.val (qj g19 (IsI (X+Y)))),(916,zs m16),(911,zs m11),(906,zs m6),(9,.box 76 20 (jb (lst [qj g4 (IsI X),qj g9 (IsI n),qj g14 (IsI (-X)),qj g19 (IsI (X+Y))]))),(4,.box 52 2 (IsN X)),(5,.box 52 2 (IsN Y)),(8,.box 76 20 (jb (lst []))),(3,.val (Lit (.string s))),(60,zs lo)]) 5 1 rfl H21 rfl rfl rfl rfl (Nat.le_of_ble_eq_true rfl) rfl rfl Ko rfl (by kernel_rfl) rfl ?_
 clear H21 a18 w18
 intro a22 w22 H22
 obtain ⟨B22,hB22⟩:∃B:Bx,B=B18:=⟨_,rfl⟩
 rw [←hB22] at H22
 clear hB22 B18
 refine qi ?_
 refine qg ?_
 refine wp_seq ?_
 refine fr (refs:=[[.pre 6],[.pre 7],[.res 0,.res 1,.pre 0]]) (outs:=[.res 2,.pre 0]++pr 2 9) (als:=fs 3) (posts:=[.val (IsN X),.val (IsN Y),.val (qo m21 (IsI (X-Y)))])
  (out:=[(29,.val (qo m21 (IsI (X-Y)))),(921,zs m21),(916,zs m16),(911,zs m11),(906,zs m6),(9,.box 76 20 (jb (lst [qj g4 (IsI X),qj g9 (IsI n),qj g14 (IsI (-X)),qj g19 (IsI (X+Y))]))),(4,.box 52 2 (IsN X)),(5,.box 52 2 (IsN Y)),(8,.box 76 20 (jb (lst []))),(3,.val (Lit (.string s))),(60,zs lo)]) (nb:=[]) H22 3 [3,4,5] rfl (by kernel_rfl) rfl rfl ?_ ?_
 ·refine cp (zo tyI (.tmp 0 rfl)) ?_
  refine cp (zo tyI (.tmp 0 rfl)) ?_
  refine cp (y9 2 ((qi9 X Y hx hy (by omega)).freshI (Gs.all ⟨Fj,Fj,trivial⟩)) rfl (.cons (.tmp 0 rfl) (.cons (.tmp 1 rfl) (.nil)))) ?_
  exact .nil
 clear H22 a22 w22 B22
 intro a23 w23 B23 H23
 obtain ⟨g24,hg24,H24⟩:=St.nameFI H23 0 rfl (l':=fun g24=>[(29,.val (qj g24 (IsI (X-Y)))),(921,zs m21),(916,zs m16),(911,zs m11),(906,zs m6),(9,.box 76 20 (jb (lst [qj g4 (IsI X),qj g9 (IsI n),qj g14 (IsI (-X)),qj g19 (IsI (X+Y))]))),(4,.box 52 2 (IsN X)),(5,.box 52 2 (IsN Y)),(8,.box 76 20 (jb (lst []))),(3,.val (Lit (.string s))),(60,zs lo)]) (fun _=>rfl)
 clear H23
 replace H24:St 60 w0 B0 a23 w23 B23 [(29,.val (qj g24 (IsI (X-Y)))),(921,zs m21),(916,zs m16),(911,zs m11),(906,zs m6),(9,.box 76 20 (jb (lst [qj g4 (IsI X),qj g9 (IsI n),qj g14 (IsI (-X)),qj g19 (IsI (X+Y))]))),(4,.box 52 2 (IsN X)),(5,.box 52 2 (IsN Y)),(8,.box 76 20 (jb (lst []))),(3,.val (Lit (.string s))),(60,zs lo)] [9,4,5,8]:=H24
 have hz25:m21≤w23.heap.size:=H24.fc.get 1 rfl
 obtain ⟨m26,hm26,hw26,hL26,H26⟩:=St.mark H24 926
 clear H24
 clear hL26
 replace hz25:m21≤m26:=Nat.le_trans hz25 hw26
 replace hg24:∀b,g24=some b→m21≤b∧b<m26:=fun b hb=>⟨(hg24 b hb).1,Nat.lt_of_lt_of_le (hg24 b hb).2 hw26⟩
 clear hw26
 refine Aj (i:=3) (j:=4) (k:=5) (Ls:=[qj g4 (IsI X),qj g9 (IsI n),qj g14 (IsI (-X)),qj g19 (IsI (X+Y))]) (Ls':=[qj g4 (IsI X),qj g9 (IsI n),qj g14 (IsI (-X)),qj g19 (IsI (X+Y)),qj g24 (IsI (X-Y))]) (E:=qj g24 (IsI (X-Y))) (l':=[(926,zs m26),(29,.val (qj g24 (IsI (X-Y)))),(921,zs m21),(916,zs m16),(911,zs m11),(906,zs m6),(9,.box 76 20 (jb (lst [qj g4 (IsI X),qj g9 (IsI n),qj g14 (IsI (-X)),qj g19 (IsI (X+Y)),qj g24 (IsI (X-Y))]))),(4,.box 52 2 (IsN X)),(5,.box 52 2 (IsN Y)),(8,.box 76 20 (jb (lst []))),(3,.val (Lit (.string s))),(60,zs lo)]) 6 1 rfl H26 rfl rfl rfl rfl (Nat.le_of_ble_eq_true rfl) rfl rfl Ko rfl (by kernel_rfl) rfl ?_
 clear H26 a23 w23
 intro a27 w27 H27
 obtain ⟨B27,hB27⟩:∃B:Bx,B=B23:=⟨_,rfl⟩
 rw [←hB27] at H27
 clear hB27 B23
 refine qi ?_
 refine qg ?_
 refine wp_seq ?_
 refine fr (refs:=[[.pre 7],[.pre 8],[.res 0,.res 1,.pre 0]]) (outs:=[.res 2,.pre 0]++pr 2 10) (als:=fs 3) (posts:=[.val (IsN X),.val (IsN Y),.val (qo m26 (IsI (X*Y)))])
  (out:=[(34,.val (qo m26 (IsI (X*Y)))),(926,zs m26),(921,zs m21),(916,zs m16),(911,zs m11),(906,zs m6),(9,.box 76 20 (jb (lst [qj g4 (IsI X),qj g9 (IsI n),qj g14 (IsI (-X)),qj g19 (IsI (X+Y)),qj g24 (IsI (X-Y))]))),(4,.box 52 2 (IsN X)),(5,.box 52 2 (IsN Y)),(8,.box 76 20 (jb (lst []))),(3,.val (Lit (.string s))),(60,zs lo)]) (nb:=[]) H27 3 [3,4,5] rfl (by kernel_rfl) rfl rfl ?_ ?_
 ·refine cp (zo tyI (.tmp 0 rfl)) ?_
  refine cp (zo tyI (.tmp 0 rfl)) ?_
  refine cp (y9 2 ((qi5 X Y hx hy (by omega)).freshI (Gs.all ⟨Fj,Fj,trivial⟩)) rfl (.cons (.tmp 0 rfl) (.cons (.tmp 1 rfl) (.nil)))) ?_
  exact .nil
 clear H27 a27 w27 B27
 intro a28 w28 B28 H28
 obtain ⟨g29,hg29,H29⟩:=St.nameFI H28 0 rfl (l':=fun g29=>[(34,.val (qj g29 (IsI (X*Y)))),(926,zs m26),(921,zs m21),(916,zs m16),(911,zs m11),(906,zs m6),(9,.box 76 20 (jb (lst [qj g4 (IsI X),qj g9 (IsI n),qj g14 (IsI (-X)),qj g19 (IsI (X+Y)),qj g24 (IsI (X-Y))]))),(4,.box 52 2 (IsN X)),(5,.box 52 2 (IsN Y)),(8,.box 76 20 (jb (lst []))),(3,.val (Lit (.string s))),(60,zs lo)]) (fun _=>rfl)
 clear H28
 replace H29:St 60 w0 B0 a28 w28 B28 [(34,.val (qj g29 (IsI (X*Y)))),(926,zs m26),(921,zs m21),(916,zs m16),(911,zs m11),(906,zs m6),(9,.box 76 20 (jb (lst [qj g4 (IsI X),qj g9 (IsI n),qj g14 (IsI (-X)),qj g19 (IsI (X+Y)),qj g24 (IsI (X-Y))]))),(4,.box 52 2 (IsN X)),(5,.box 52 2 (IsN Y)),(8,.box 76 20 (jb (lst []))),(3,.val (Lit (.string s))),(60,zs lo)] [9,4,5,8]:=H29
 have hz30:m26≤w28.heap.size:=H29.fc.get 1 rfl
 obtain ⟨m31,hm31,hw31,hL31,H31⟩:=St.mark H29 931
 clear H29
 clear hL31
 replace hz30:m26≤m31:=Nat.le_trans hz30 hw31
 replace hg29:∀b,g29=some b→m26≤b∧b<m31:=fun b hb=>⟨(hg29 b hb).1,Nat.lt_of_lt_of_le (hg29 b hb).2 hw31⟩
 clear hw31
 refine Aj (i:=3) (j:=4) (k:=5) (Ls:=[qj g4 (IsI X),qj g9 (IsI n),qj g14 (IsI (-X)),qj g19 (IsI (X+Y)),qj g24 (IsI (X-Y))]) (Ls':=[qj g4 (IsI X),qj g9 (IsI n),qj g14 (IsI (-X)),qj g19 (IsI (X+Y)),qj g24 (IsI (X-Y)),qj g29 (IsI (X*Y))]) (E:=qj g29 (IsI (X*Y))) (l':=[(931,zs m31),(34,.val (qj g29 (IsI (X*Y)))),(926,zs m26),(921,zs m21),(916,zs m16),(911,zs m11),(906,zs m6),(9,.box 76 20 (jb (lst [qj g4 (IsI X),qj g9 (IsI n),qj g14 (IsI (-X)),qj g19 (IsI (X+Y)),qj g24 (IsI (X-Y)),qj g29 (IsI (X*Y))]))),(4,.box 52 2 (IsN X)),(5,.box 52 2 (IsN Y)),(8,.box 76 20 (jb (lst []))),(3,.val (Lit (.string s))),(60,zs lo)]) 7 1 rfl H31 rfl rfl rfl rfl (Nat.le_of_ble_eq_true rfl) rfl rfl Ko rfl (by kernel_rfl) rfl ?_
 clear H31 a28 w28
 intro a32 w32 H32
 obtain ⟨B32,hB32⟩:∃B:Bx,B=B28:=⟨_,rfl⟩
 rw [←hB32] at H32
 clear hB32 B28
 refine qi ?_
 refine qg ?_
 refine wp_seq ?_
 refine fr (refs:=[[.pre 8],[.pre 9],[.res 0,.res 1,.pre 0],[.res 2]]) (outs:=[.res 3,.pre 0]++pr 2 6++pr 10 3) (als:=fs 4) (posts:=[.val (IsN X),.val (IsN Y),.val (qa7 m31 (X.tdiv Y) (vg X Y) (decide (Y≠0))),.val (qa7 m31 (X.tdiv Y) (vg X Y) (decide (Y≠0)))])
  (out:=[(37,.val (qa7 m31 (X.tdiv Y) (vg X Y) (decide (Y≠0)))),(931,zs m31),(926,zs m26),(921,zs m21),(916,zs m16),(911,zs m11),(906,zs m6),(9,.box 76 20 (jb (lst [qj g4 (IsI X),qj g9 (IsI n),qj g14 (IsI (-X)),qj g19 (IsI (X+Y)),qj g24 (IsI (X-Y)),qj g29 (IsI (X*Y))]))),(8,.box 76 20 (jb (lst []))),(3,.val (Lit (.string s))),(60,zs lo)]) (nb:=[]) H32 4 [4,5,6,7,8,9,10,11,12] rfl (by kernel_rfl) rfl rfl ?_ ?_
 ·refine cp (zo tyI (.tmp 0 rfl)) ?_
  refine cp (zo tyI (.tmp 0 rfl)) ?_
  refine cp (y9 2 (qi7 X Y) rfl (.cons (.tmp 0 rfl) (.cons (.tmp 1 rfl) (.nil)))) ?_
  refine cp (qh (.tmp 0 rfl)) ?_
  exact .nil
 clear H32 a32 w32 B32
 intro a33 w33 B33 H33
 obtain ⟨g34,k34,hg34,hk34,hn34,H34⟩:=St.namePrI H33 0 rfl (l':=fun g34 k34=>[(37,.val (Tup [qj g34 (IsI (X.tdiv Y)),qj k34 (IsI (vg X Y)),IsB (decide (Y≠0))])),(931,zs m31),(926,zs m26),(921,zs m21),(916,zs m16),(911,zs m11),(906,zs m6),(9,.box 76 20 (jb (lst [qj g4 (IsI X),qj g9 (IsI n),qj g14 (IsI (-X)),qj g19 (IsI (X+Y)),qj g24 (IsI (X-Y)),qj g29 (IsI (X*Y))]))),(8,.box 76 20 (jb (lst []))),(3,.val (Lit (.string s))),(60,zs lo)]) (fun _ _=>rfl)
 clear H33
 replace H34:St 60 w0 B0 a33 w33 B33 [(37,.val (Tup [qj g34 (IsI (X.tdiv Y)),qj k34 (IsI (vg X Y)),IsB (decide (Y≠0))])),(931,zs m31),(926,zs m26),(921,zs m21),(916,zs m16),(911,zs m11),(906,zs m6),(9,.box 76 20 (jb (lst [qj g4 (IsI X),qj g9 (IsI n),qj g14 (IsI (-X)),qj g19 (IsI (X+Y)),qj g24 (IsI (X-Y)),qj g29 (IsI (X*Y))]))),(8,.box 76 20 (jb (lst []))),(3,.val (Lit (.string s))),(60,zs lo)] [9,4,5,8]:=H34
 have hz35:m31≤w33.heap.size:=H34.fc.get 1 rfl
 obtain ⟨m36,hm36,hw36,hL36,H36⟩:=St.mark H34 936
 clear H34
 clear hL36
 replace hz35:m31≤m36:=Nat.le_trans hz35 hw36
 replace hg34:∀b,g34=some b→m31≤b∧b<m36:=fun b hb=>⟨(hg34 b hb).1,Nat.lt_of_lt_of_le (hg34 b hb).2 hw36⟩
 replace hk34:∀b,k34=some b→m31≤b∧b<m36:=fun b hb=>⟨(hk34 b hb).1,Nat.lt_of_lt_of_le (hk34 b hb).2 hw36⟩
 clear hw36
 refine zi ?_
 refine jm (D:=.val (qj g34 (IsI (X.tdiv Y)))) (l':=[(41,.val (qj g34 (IsI (X.tdiv Y)))),(936,zs m36),(37,.val (Tup [qj g34 (IsI (X.tdiv Y)),qj k34 (IsI (vg X Y)),IsB (decide (Y≠0))])),(931,zs m31),(926,zs m26),(921,zs m21),(916,zs m16),(911,zs m11),(906,zs m6),(9,.box 76 20 (jb (lst [qj g4 (IsI X),qj g9 (IsI n),qj g14 (IsI (-X)),qj g19 (IsI (X+Y)),qj g24 (IsI (X-Y)),qj g29 (IsI (X*Y))]))),(8,.box 76 20 (jb (lst []))),(3,.val (Lit (.string s))),(60,zs lo)]) H36 rfl rfl rfl (.plain rfl (zq 0 (.tmp 1 rfl) rfl)) rfl rfl ?_
 clear H36 a33 w33 B33
 intro a37 w37 B37 H37
 refine zi ?_
 refine jm (D:=.val (qj k34 (IsI (vg X Y)))) (l':=[(42,.val (qj k34 (IsI (vg X Y)))),(41,.val (qj g34 (IsI (X.tdiv Y)))),(936,zs m36),(37,.val (Tup [qj g34 (IsI (X.tdiv Y)),qj k34 (IsI (vg X Y)),IsB (decide (Y≠0))])),(931,zs m31),(926,zs m26),(921,zs m21),(916,zs m16),(911,zs m11),(906,zs m6),(9,.box 76 20 (jb (lst [qj g4 (IsI X),qj g9 (IsI n),qj g14 (IsI (-X)),qj g19 (IsI (X+Y)),qj g24 (IsI (X-Y)),qj g29 (IsI (X*Y))]))),(8,.box 76 20 (jb (lst []))),(3,.val (Lit (.string s))),(60,zs lo)]) H37 rfl rfl rfl (.plain rfl (zq 1 (.tmp 2 rfl) rfl)) rfl rfl ?_
 clear H37 a37 w37 B37
 intro a38 w38 B38 H38
 refine zi ?_
 refine jm (D:=bv (decide (Y≠0))) (l':=[(43,bv (decide (Y≠0))),(42,.val (qj k34 (IsI (vg X Y)))),(41,.val (qj g34 (IsI (X.tdiv Y)))),(936,zs m36),(37,.val (Tup [qj g34 (IsI (X.tdiv Y)),qj k34 (IsI (vg X Y)),IsB (decide (Y≠0))])),(931,zs m31),(926,zs m26),(921,zs m21),(916,zs m16),(911,zs m11),(906,zs m6),(9,.box 76 20 (jb (lst [qj g4 (IsI X),qj g9 (IsI n),qj g14 (IsI (-X)),qj g19 (IsI (X+Y)),qj g24 (IsI (X-Y)),qj g29 (IsI (X*Y))]))),(8,.box 76 20 (jb (lst []))),(3,.val (Lit (.string s))),(60,zs lo)]) H38 rfl rfl rfl (.plain rfl (zq 2 (.tmp 3 rfl) rfl)) rfl rfl ?_
 clear H38 a38 w38 B38
 intro a39 w39 B39 H39
 refine Aj (i:=7) (j:=8) (k:=9) (Ls:=[qj g4 (IsI X),qj g9 (IsI n),qj g14 (IsI (-X)),qj g19 (IsI (X+Y)),qj g24 (IsI (X-Y)),qj g29 (IsI (X*Y))]) (Ls':=[qj g4 (IsI X),qj g9 (IsI n),qj g14 (IsI (-X)),qj g19 (IsI (X+Y)),qj g24 (IsI (X-Y)),qj g29 (IsI (X*Y)),qj g34 (IsI (X.tdiv Y))]) (E:=qj g34 (IsI (X.tdiv Y))) (l':=[(43,bv (decide (Y≠0))),(42,.val (qj k34 (IsI (vg X Y)))),(41,.val (qj g34 (IsI (X.tdiv Y)))),(936,zs m36),(37,.val (Tup [qj g34 (IsI (X.tdiv Y)),qj k34 (IsI (vg X Y)),IsB (decide (Y≠0))])),(931,zs m31),(926,zs m26),(921,zs m21),(916,zs m16),(911,zs m11),(906,zs m6),(9,.box 76 20 (jb (lst [qj g4 (IsI X),qj g9 (IsI n),qj g14 (IsI (-X)),qj g19 (IsI (X+Y)),qj g24 (IsI (X-Y)),qj g29 (IsI (X*Y)),qj g34 (IsI (X.tdiv Y))]))),(8,.box 76 20 (jb (lst []))),(3,.val (Lit (.string s))),(60,zs lo)]) 11 2 rfl H39 rfl rfl rfl rfl (Nat.le_of_ble_eq_true rfl) rfl rfl Ko rfl (by kernel_rfl) rfl ?_
 clear H39 a39 w39
 intro a40 w40 H40
 obtain ⟨B40,hB40⟩:∃B:Bx,B=B39:=⟨_,rfl⟩
 rw [←hB40] at H40
 clear hB40 B39
 refine Aj (i:=10) (j:=11) (k:=12) (Ls:=[qj g4 (IsI X),qj g9 (IsI n),qj g14 (IsI (-X)),qj g19 (IsI (X+Y)),qj g24 (IsI (X-Y)),qj g29 (IsI (X*Y)),qj g34 (IsI (X.tdiv Y))]) (Ls':=[qj g4 (IsI X),qj g9 (IsI n),qj g14 (IsI (-X)),qj g19 (IsI (X+Y)),qj g24 (IsI (X-Y)),qj g29 (IsI (X*Y)),qj g34 (IsI (X.tdiv Y)),qj k34 (IsI (vg X Y))]) (E:=qj k34 (IsI (vg X Y))) (l':=[(43,bv (decide (Y≠0))),(42,.val (qj k34 (IsI (vg X Y)))),(41,.val (qj g34 (IsI (X.tdiv Y)))),(936,zs m36),(37,.val (Tup [qj g34 (IsI (X.tdiv Y)),qj k34 (IsI (vg X Y)),IsB (decide (Y≠0))])),(931,zs m31),(926,zs m26),(921,zs m21),(916,zs m16),(911,zs m11),(906,zs m6),(9,.box 76 20 (jb (lst [qj g4 (IsI X),qj g9 (IsI n),qj g14 (IsI (-X)),qj g19 (IsI (X+Y)),qj g24 (IsI (X-Y)),qj g29 (IsI (X*Y)),qj g34 (IsI (X.tdiv Y)),qj k34 (IsI (vg X Y))]))),(8,.box 76 20 (jb (lst []))),(3,.val (Lit (.string s))),(60,zs lo)]) 11 1 rfl H40 rfl rfl rfl rfl (Nat.le_of_ble_eq_true rfl) rfl rfl Ko rfl (by kernel_rfl) rfl ?_
 clear H40 a40 w40
 intro a41 w41 H41
 obtain ⟨B41,hB41⟩:∃B:Bx,B=B40:=⟨_,rfl⟩
 rw [←hB41] at H41
 clear hB41 B40
 refine qi ?_
 refine qg ?_
 refine wp_seq ?_
 refine fr (refs:=[[.pre 13],[.res 0,.pre 3],[.res 1],[.res 2],[.res 2]]) (outs:=[.res 3,.pre 3]++pr 5 10) (als:=fs 5) (posts:=[.val (Lit (.string s)),.val (Tup [qo m36 (IsI (jf (qf s))),IsB (Bg (qf s))]),.val (Tup [qo m36 (IsI (jf (qf s))),IsB (Bg (qf s))]),.val (qo m36 (IsI (jf (qf s)))),bv (Bg (qf s))])
  (out:=[(51,.val (qo m36 (IsI (jf (qf s))))),(936,zs m36),(931,zs m31),(926,zs m26),(921,zs m21),(916,zs m16),(911,zs m11),(906,zs m6),(9,.box 76 20 (jb (lst [qj g4 (IsI X),qj g9 (IsI n),qj g14 (IsI (-X)),qj g19 (IsI (X+Y)),qj g24 (IsI (X-Y)),qj g29 (IsI (X*Y)),qj g34 (IsI (X.tdiv Y)),qj k34 (IsI (vg X Y))]))),(8,.box 76 20 (jb (lst []))),(3,.val (Lit (.string s))),(60,zs lo)]) (nb:=[]) H41 5 [5,6,7] rfl (by kernel_rfl) rfl rfl ?_ ?_
 ·refine cp (qh (.tmp 0 rfl)) ?_
  refine cp (y9 1 ((qgl s (by omega)).freshI2 (Gs.all ⟨Kt,trivial⟩)) rfl (.cons (.tmp 0 rfl) (.nil))) ?_
  refine cp (qh (.tmp 0 rfl)) ?_
  refine cp (zq 0 (.tmp 0 rfl) rfl) ?_
  refine cp (zq 1 (.tmp 0 rfl) rfl) ?_
  exact .nil
 clear H41 a41 w41 B41
 intro a42 w42 B42 H42
 obtain ⟨g43,hg43,H43⟩:=St.nameFI H42 0 rfl (l':=fun g43=>[(51,.val (qj g43 (IsI (jf (qf s))))),(936,zs m36),(931,zs m31),(926,zs m26),(921,zs m21),(916,zs m16),(911,zs m11),(906,zs m6),(9,.box 76 20 (jb (lst [qj g4 (IsI X),qj g9 (IsI n),qj g14 (IsI (-X)),qj g19 (IsI (X+Y)),qj g24 (IsI (X-Y)),qj g29 (IsI (X*Y)),qj g34 (IsI (X.tdiv Y)),qj k34 (IsI (vg X Y))]))),(8,.box 76 20 (jb (lst []))),(3,.val (Lit (.string s))),(60,zs lo)]) (fun _=>rfl)
 clear H42
 replace H43:St 60 w0 B0 a42 w42 B42 [(51,.val (qj g43 (IsI (jf (qf s))))),(936,zs m36),(931,zs m31),(926,zs m26),(921,zs m21),(916,zs m16),(911,zs m11),(906,zs m6),(9,.box 76 20 (jb (lst [qj g4 (IsI X),qj g9 (IsI n),qj g14 (IsI (-X)),qj g19 (IsI (X+Y)),qj g24 (IsI (X-Y)),qj g29 (IsI (X*Y)),qj g34 (IsI (X.tdiv Y)),qj k34 (IsI (vg X Y))]))),(8,.box 76 20 (jb (lst []))),(3,.val (Lit (.string s))),(60,zs lo)] [9,4,5,8]:=H43
 have hz44:m36≤w42.heap.size:=H43.fc.get 1 rfl
 obtain ⟨m45,hm45,hw45,hL45,H45⟩:=St.mark H43 945
 clear H43
 clear hL45
 replace hz44:m36≤m45:=Nat.le_trans hz44 hw45
 replace hg43:∀b,g43=some b→m36≤b∧b<m45:=fun b hb=>⟨(hg43 b hb).1,Nat.lt_of_lt_of_le (hg43 b hb).2 hw45⟩
 clear hw45
 refine Aj (i:=5) (j:=6) (k:=7) (Ls:=[qj g4 (IsI X),qj g9 (IsI n),qj g14 (IsI (-X)),qj g19 (IsI (X+Y)),qj g24 (IsI (X-Y)),qj g29 (IsI (X*Y)),qj g34 (IsI (X.tdiv Y)),qj k34 (IsI (vg X Y))]) (Ls':=[qj g4 (IsI X),qj g9 (IsI n),qj g14 (IsI (-X)),qj g19 (IsI (X+Y)),qj g24 (IsI (X-Y)),qj g29 (IsI (X*Y)),qj g34 (IsI (X.tdiv Y)),qj k34 (IsI (vg X Y)),qj g43 (IsI (jf (qf s)))]) (E:=qj g43 (IsI (jf (qf s)))) (l':=[(945,zs m45),(51,.val (qj g43 (IsI (jf (qf s))))),(936,zs m36),(931,zs m31),(926,zs m26),(921,zs m21),(916,zs m16),(911,zs m11),(906,zs m6),(9,.box 76 20 (jb (lst [qj g4 (IsI X),qj g9 (IsI n),qj g14 (IsI (-X)),qj g19 (IsI (X+Y)),qj g24 (IsI (X-Y)),qj g29 (IsI (X*Y)),qj g34 (IsI (X.tdiv Y)),qj k34 (IsI (vg X Y)),qj g43 (IsI (jf (qf s)))]))),(8,.box 76 20 (jb (lst []))),(3,.val (Lit (.string s))),(60,zs lo)]) 9 1 rfl H45 rfl rfl rfl rfl (Nat.le_of_ble_eq_true rfl) rfl rfl Ko rfl (by kernel_rfl) rfl ?_
 clear H45 a42 w42
 intro a46 w46 H46
 obtain ⟨B46,hB46⟩:∃B:Bx,B=B42:=⟨_,rfl⟩
 rw [←hB46] at H46
 clear hB46 B42
 refine qi ?_
 refine qg ?_
 refine wp_seq ?_
 refine fr (refs:=[[.pre 11],[.res 0,.pre 0]]) (outs:=[.res 1,.pre 0]++pr 2 9++[.pre 12]) (als:=fs 2) (posts:=[.val (Lit (.string s)),.val (qo m45 (IsI (xm (qf s))))])
  (out:=[(56,.val (qo m45 (IsI (xm (qf s))))),(945,zs m45),(936,zs m36),(931,zs m31),(926,zs m26),(921,zs m21),(916,zs m16),(911,zs m11),(906,zs m6),(9,.box 76 20 (jb (lst [qj g4 (IsI X),qj g9 (IsI n),qj g14 (IsI (-X)),qj g19 (IsI (X+Y)),qj g24 (IsI (X-Y)),qj g29 (IsI (X*Y)),qj g34 (IsI (X.tdiv Y)),qj k34 (IsI (vg X Y)),qj g43 (IsI (jf (qf s)))]))),(8,.box 76 20 (jb (lst []))),(60,zs lo)]) (nb:=[]) H46 2 [2,3,4] rfl (by kernel_rfl) rfl rfl ?_ ?_
 ·refine cp (qh (.tmp 0 rfl)) ?_
  refine cp (y9 1 ((Yc s (by omega)).freshI (Gs.all ⟨Kt,trivial⟩)) rfl (.cons (.tmp 0 rfl) (.nil))) ?_
  exact .nil
 clear H46 a46 w46 B46
 intro a47 w47 B47 H47
 obtain ⟨g48,hg48,H48⟩:=St.nameFI H47 0 rfl (l':=fun g48=>[(56,.val (qj g48 (IsI (xm (qf s))))),(945,zs m45),(936,zs m36),(931,zs m31),(926,zs m26),(921,zs m21),(916,zs m16),(911,zs m11),(906,zs m6),(9,.box 76 20 (jb (lst [qj g4 (IsI X),qj g9 (IsI n),qj g14 (IsI (-X)),qj g19 (IsI (X+Y)),qj g24 (IsI (X-Y)),qj g29 (IsI (X*Y)),qj g34 (IsI (X.tdiv Y)),qj k34 (IsI (vg X Y)),qj g43 (IsI (jf (qf s)))]))),(8,.box 76 20 (jb (lst []))),(60,zs lo)]) (fun _=>rfl)
 clear H47
 replace H48:St 60 w0 B0 a47 w47 B47 [(56,.val (qj g48 (IsI (xm (qf s))))),(945,zs m45),(936,zs m36),(931,zs m31),(926,zs m26),(921,zs m21),(916,zs m16),(911,zs m11),(906,zs m6),(9,.box 76 20 (jb (lst [qj g4 (IsI X),qj g9 (IsI n),qj g14 (IsI (-X)),qj g19 (IsI (X+Y)),qj g24 (IsI (X-Y)),qj g29 (IsI (X*Y)),qj g34 (IsI (X.tdiv Y)),qj k34 (IsI (vg X Y)),qj g43 (IsI (jf (qf s)))]))),(8,.box 76 20 (jb (lst []))),(60,zs lo)] [9,4,5,8]:=H48
 have hz49:m45≤w47.heap.size:=H48.fc.get 1 rfl
 obtain ⟨m50,hm50,hw50,hL50,H50⟩:=St.mark H48 950
 clear H48
 clear hL50
 replace hz49:m45≤m50:=Nat.le_trans hz49 hw50
 replace hg48:∀b,g48=some b→m45≤b∧b<m50:=fun b hb=>⟨(hg48 b hb).1,Nat.lt_of_lt_of_le (hg48 b hb).2 hw50⟩
 clear hw50
 refine Aj (i:=2) (j:=3) (k:=4) (Ls:=[qj g4 (IsI X),qj g9 (IsI n),qj g14 (IsI (-X)),qj g19 (IsI (X+Y)),qj g24 (IsI (X-Y)),qj g29 (IsI (X*Y)),qj g34 (IsI (X.tdiv Y)),qj k34 (IsI (vg X Y)),qj g43 (IsI (jf (qf s)))]) (Ls':=[qj g4 (IsI X),qj g9 (IsI n),qj g14 (IsI (-X)),qj g19 (IsI (X+Y)),qj g24 (IsI (X-Y)),qj g29 (IsI (X*Y)),qj g34 (IsI (X.tdiv Y)),qj k34 (IsI (vg X Y)),qj g43 (IsI (jf (qf s))),qj g48 (IsI (xm (qf s)))]) (E:=qj g48 (IsI (xm (qf s)))) (l':=[(950,zs m50),(56,.val (qj g48 (IsI (xm (qf s))))),(945,zs m45),(936,zs m36),(931,zs m31),(926,zs m26),(921,zs m21),(916,zs m16),(911,zs m11),(906,zs m6),(9,.box 76 20 (jb (lst [qj g4 (IsI X),qj g9 (IsI n),qj g14 (IsI (-X)),qj g19 (IsI (X+Y)),qj g24 (IsI (X-Y)),qj g29 (IsI (X*Y)),qj g34 (IsI (X.tdiv Y)),qj k34 (IsI (vg X Y)),qj g43 (IsI (jf (qf s))),qj g48 (IsI (xm (qf s)))]))),(8,.box 76 20 (jb (lst []))),(60,zs lo)]) 10 1 rfl H50 rfl rfl rfl rfl (Nat.le_of_ble_eq_true rfl) rfl rfl Ko rfl (by kernel_rfl) rfl ?_
 clear H50 a47 w47
 intro a51 w51 H51
 obtain ⟨B51,hB51⟩:∃B:Bx,B=B47:=⟨_,rfl⟩
 rw [←hB51] at H51
 clear hB51 B47
 refine qi ?_
 refine qg ?_
 refine wp_seq ?_
 refine fr (refs:=[[.pre 10]]) (outs:=[.res 0,.pre 0]++pr 2 8++[.pre 11,.pre 12]) (als:=[false]) (posts:=[.val (jb (lst [qj g4 (IsI X),qj g9 (IsI n),qj g14 (IsI (-X)),qj g19 (IsI (X+Y)),qj g24 (IsI (X-Y)),qj g29 (IsI (X*Y)),qj g34 (IsI (X.tdiv Y)),qj k34 (IsI (vg X Y)),qj g43 (IsI (jf (qf s))),qj g48 (IsI (xm (qf s)))]))])
  (out:=[(59,.val (jb (lst [qj g4 (IsI X),qj g9 (IsI n),qj g14 (IsI (-X)),qj g19 (IsI (X+Y)),qj g24 (IsI (X-Y)),qj g29 (IsI (X*Y)),qj g34 (IsI (X.tdiv Y)),qj k34 (IsI (vg X Y)),qj g43 (IsI (jf (qf s))),qj g48 (IsI (xm (qf s)))]))),(950,zs m50),(945,zs m45),(936,zs m36),(931,zs m31),(926,zs m26),(921,zs m21),(916,zs m16),(911,zs m11),(906,zs m6),(8,.box 76 20 (jb (lst []))),(60,zs lo)]) (nb:=[]) H51 1 [1] rfl (by kernel_rfl) rfl rfl ?_ ?_
 ·refine cp (zo Dz (.tmp 0 rfl)) ?_
  exact .nil
 clear H51 a51 w51 B51
 intro a52 w52 B52 H52
 refine zi ?_
 refine ja (l':=[(59,.val (jb (lst [qj g4 (IsI X),qj g9 (IsI n),qj g14 (IsI (-X)),qj g19 (IsI (X+Y)),qj g24 (IsI (X-Y)),qj g29 (IsI (X*Y)),qj g34 (IsI (X.tdiv Y)),qj k34 (IsI (vg X Y)),qj g43 (IsI (jf (qf s))),qj g48 (IsI (xm (qf s)))]))),(950,zs m50),(945,zs m45),(936,zs m36),(931,zs m31),(926,zs m26),(921,zs m21),(916,zs m16),(911,zs m11),(906,zs m6),(8,.box 76 20 (jb (lst [qj g4 (IsI X),qj g9 (IsI n),qj g14 (IsI (-X)),qj g19 (IsI (X+Y)),qj g24 (IsI (X-Y)),qj g29 (IsI (X*Y)),qj g34 (IsI (X.tdiv Y)),qj k34 (IsI (vg X Y)),qj g43 (IsI (jf (qf s))),qj g48 (IsI (xm (qf s)))]))),(60,zs lo)]) 10 H52 rfl Dz rfl (.tmp 0 rfl) Bj Bj rfl rfl ?_
 clear H52 w52
 intro w53 H53
 refine qi ?_
 refine qg ?_
 refine wp_ret ?_
 have hlo:∀j b,List.getD [g4,g9,g14,g19,g24,g29,g34,k34,g43,g48] j none=some b→lo≤b:=by
  intro j b hb
  rcases j with _ | _ | _ | _ | _ | _ | _ | _ | _ | _ | j
  ·have:=hg4 b hb;omega
  ·have:=hg9 b hb;omega
  ·have:=hg14 b hb;omega
  ·have:=hg19 b hb;omega
  ·have:=hg24 b hb;omega
  ·have:=hg29 b hb;omega
  ·have:=hg34 b hb;omega
  ·have:=hk34 b hb;omega
  ·have:=hg43 b hb;omega
  ·have:=hg48 b hb;omega
  ·cases hb
 have hap:∀i j b,i<10→j<10→i≠j→List.getD [g4,g9,g14,g19,g24,g29,g34,k34,g43,g48] i none=some b→List.getD [g4,g9,g14,g19,g24,g29,g34,k34,g43,g48] j none≠some b:=by
  intro i j b hi hj hij h1 h2
  have k1:∀i,i<10→List.getD [g4,g9,g14,g19,g24,g29,g34,k34,g43,g48] i none=some b→((i=0∧lo≤b∧b<m6)∨(i=1∧m6≤b∧b<m11)∨(i=2∧m11≤b∧b<m16)∨(i=3∧m16≤b∧b<m21)∨(i=4∧m21≤b∧b<m26)∨(i=5∧m26≤b∧b<m31)∨(i=6∧m31≤b∧b<m36)∨(i=7∧m31≤b∧b<m36)∨(i=8∧m36≤b∧b<m45)∨(i=9∧m45≤b∧b<m50)):=by
   intro i hi h1
   rcases i with _ | _ | _ | _ | _ | _ | _ | _ | _ | _ | i
   ·have:=hg4 b h1;omega
   ·have:=hg9 b h1;omega
   ·have:=hg14 b h1;omega
   ·have:=hg19 b h1;omega
   ·have:=hg24 b h1;omega
   ·have:=hg29 b h1;omega
   ·have:=hg34 b h1;omega
   ·have:=hk34 b h1;omega
   ·have:=hg43 b h1;omega
   ·have:=hg48 b h1;omega
   ·omega
  have k0:∀b,g34=some b→k34≠some b:=hn34
  have k2:=k1 i hi h1
  have k3:=k1 j hj h2
  by_cases e:(i=6∧j=7)∨(i=7∧j=6)
  ·rcases e with ⟨rfl,rfl⟩ | ⟨rfl,rfl⟩
   ·exact k0 b h1 h2
   ·exact k0 b h2 h1
  ·omega
 exact Cc H53 Dz rfl 10 rfl (fun v w B h=>qmu rfl hlo hap v w B (qme v w B h))
set_option maxRecDepth 20000 in
set_option maxHeartbeats 2000000 in
theorem N7 (X Y n:Int) (s:ByteArray) (hx:yz 1024 X) (hy:yz 1024 Y) (hn : -9223372036854775808≤n∧n<9223372036854775808) (hs:s.size≤1024):Oz Tryz.prog 41 [IsN X,IsN Y,Lit (.int .i64 n),Lit (.string s)] (fun lo=>xq lo (qy X Y n s)):=by
 refine Qe (N:=60) Tryz.ntmps41 (fun _ _=>by go_simp) Tryz.func41 rfl (by simp) ?_
 intro lo a0 w0 B0 H0
 replace H0:St 60 w0 B0 a0 w0 B0 [(0,.val (IsN X)),(1,.val (IsN Y)),(2,i6 n),(3,.val (Lit (.string s))),(60,zs lo)] []:=H0
 refine wp_seq ?_
 refine fr (refs:=[[.pre 0],[.pre 1],[]]) (outs:=[.res 0,.res 1,.res 2]++pr 2 3) (als:=[true,true,true]) (posts:=[.box 52 2 (IsN X),.box 52 2 (IsN Y),.box 76 20 (jb (lst []))])
  (out:=[(4,.box 52 2 (IsN X)),(5,.box 52 2 (IsN Y)),(8,.box 76 20 (jb (lst []))),(2,i6 n),(3,.val (Lit (.string s))),(60,zs lo)]) (nb:=[4,5,8]) H0 3 [] rfl (by kernel_rfl) rfl rfl ?_ ?_
 ·refine cp (Bq (.tmp 0 rfl) Bc.two) ?_
  refine cp (Bq (.tmp 0 rfl) Bc.two) ?_
  refine cp (Dx) ?_
  exact .nil
 clear H0
 intro a1 w1 B1 H1
 simp only [List.cons_append,List.nil_append] at H1
 refine qi ?_
 refine qg ?_
 refine wp_seq ?_
 refine fr (refs:=[[]]) (outs:=[.res 0]++pr 0 6) (als:=[true]) (posts:=[.box 76 20 (jb (lst []))])
  (out:=[(9,.box 76 20 (jb (lst []))),(4,.box 52 2 (IsN X)),(5,.box 52 2 (IsN Y)),(8,.box 76 20 (jb (lst []))),(2,i6 n),(3,.val (Lit (.string s))),(60,zs lo)]) (nb:=[9]) H1 1 [] rfl (by kernel_rfl) rfl rfl ?_ ?_
 ·refine cp (Dx) ?_
  exact .nil
 clear H1 a1 w1 B1
 intro a2 w2 B2 H2
 simp only [List.cons_append,List.nil_append] at H2
 refine qi ?_
 refine qg ?_
 refine wp_seq ?_
 refine fr (refs:=[[.pre 1],[.res 0,.pre 6]]) (outs:=[.res 1]++pr 0 7) (als:=fs 2) (posts:=[.val (IsN X),.val (qo lo (IsI X))])
  (out:=[(11,.val (qo lo (IsI X))),(9,.box 76 20 (jb (lst []))),(4,.box 52 2 (IsN X)),(5,.box 52 2 (IsN Y)),(8,.box 76 20 (jb (lst []))),(2,i6 n),(3,.val (Lit (.string s))),(60,zs lo)]) (nb:=[]) H2 2 [2,3,4] rfl (by kernel_rfl) rfl rfl ?_ ?_
 ·refine cp (zo tyI (.tmp 0 rfl)) ?_
  refine cp (y9 1 ((Em X).freshI (Gs.all ⟨Fj,trivial⟩)) rfl (.cons (.tmp 0 rfl) (.nil))) ?_
  exact .nil
 clear H2 a2 w2 B2
 intro a3 w3 B3 H3
 refine Aj (i:=2) (j:=3) (k:=4) (Ls:=[]) (Ls':=[qo lo (IsI X)]) (E:=qo lo (IsI X)) (l':=[(11,.val (qo lo (IsI X))),(9,.box 76 20 (jb (lst [qo lo (IsI X)]))),(4,.box 52 2 (IsN X)),(5,.box 52 2 (IsN Y)),(8,.box 76 20 (jb (lst []))),(2,i6 n),(3,.val (Lit (.string s))),(60,zs lo)]) 1 0 rfl H3 rfl rfl rfl rfl (Nat.le_of_ble_eq_true rfl) rfl rfl J9 rfl (by kernel_rfl) rfl ?_
 clear H3 a3 w3
 intro a4 w4 H4
 obtain ⟨B4,hB4⟩:∃B:Bx,B=B3:=⟨_,rfl⟩
 rw [←hB4] at H4
 clear hB4 B3
 refine qi ?_
 refine qg ?_
 refine wp_seq ?_
 refine fr (refs:=[[.pre 5],[.res 0,.pre 7]]) (outs:=[.res 1]++pr 1 4++[.pre 6,.pre 7]) (als:=fs 2) (posts:=[i6 n,.val (qo lo (IsI n))])
  (out:=[(15,.val (qo lo (IsI n))),(9,.box 76 20 (jb (lst [qo lo (IsI X)]))),(4,.box 52 2 (IsN X)),(5,.box 52 2 (IsN Y)),(8,.box 76 20 (jb (lst []))),(3,.val (Lit (.string s))),(60,zs lo)]) (nb:=[]) H4 2 [2,3,4] rfl (by kernel_rfl) rfl rfl ?_ ?_
 ·refine cp (qh (.tmp 0 rfl)) ?_
  refine cp (y9 1 ((qbq n hn).freshI (Gs.all ⟨Kt,trivial⟩)) rfl (.cons (.tmp 0 rfl) (.nil))) ?_
  exact .nil
 clear H4 a4 w4 B4
 intro a5 w5 B5 H5
 refine Aj (i:=2) (j:=3) (k:=4) (Ls:=[qo lo (IsI X)]) (Ls':=[qo lo (IsI X),qo lo (IsI n)]) (E:=qo lo (IsI n)) (l':=[(15,.val (qo lo (IsI n))),(9,.box 76 20 (jb (lst [qo lo (IsI X),qo lo (IsI n)]))),(4,.box 52 2 (IsN X)),(5,.box 52 2 (IsN Y)),(8,.box 76 20 (jb (lst []))),(3,.val (Lit (.string s))),(60,zs lo)]) 1 0 rfl H5 rfl rfl rfl rfl (Nat.le_of_ble_eq_true rfl) rfl rfl J9 rfl (by kernel_rfl) rfl ?_
 clear H5 a5 w5
 intro a6 w6 H6
 obtain ⟨B6,hB6⟩:∃B:Bx,B=B5:=⟨_,rfl⟩
 rw [←hB6] at H6
 clear hB6 B5
 refine qi ?_
 refine qg ?_
 refine wp_seq ?_
 refine fr (refs:=[[.pre 2],[.res 0,.pre 6]]) (outs:=[.res 1]++pr 1 6) (als:=fs 2) (posts:=[.val (IsN X),.val (qo lo (IsI (-X)))])
  (out:=[(19,.val (qo lo (IsI (-X)))),(9,.box 76 20 (jb (lst [qo lo (IsI X),qo lo (IsI n)]))),(4,.box 52 2 (IsN X)),(5,.box 52 2 (IsN Y)),(8,.box 76 20 (jb (lst []))),(3,.val (Lit (.string s))),(60,zs lo)]) (nb:=[]) H6 2 [2,3,4] rfl (by kernel_rfl) rfl rfl ?_ ?_
 ·refine cp (zo tyI (.tmp 0 rfl)) ?_
  refine cp (y9 1 ((U9 X).freshI (Gs.all ⟨Fj,trivial⟩)) rfl (.cons (.tmp 0 rfl) (.nil))) ?_
  exact .nil
 clear H6 a6 w6 B6
 intro a7 w7 B7 H7
 refine Aj (i:=2) (j:=3) (k:=4) (Ls:=[qo lo (IsI X),qo lo (IsI n)]) (Ls':=[qo lo (IsI X),qo lo (IsI n),qo lo (IsI (-X))]) (E:=qo lo (IsI (-X))) (l':=[(19,.val (qo lo (IsI (-X)))),(9,.box 76 20 (jb (lst [qo lo (IsI X),qo lo (IsI n),qo lo (IsI (-X))]))),(4,.box 52 2 (IsN X)),(5,.box 52 2 (IsN Y)),(8,.box 76 20 (jb (lst []))),(3,.val (Lit (.string s))),(60,zs lo)]) 1 0 rfl H7 rfl rfl rfl rfl (Nat.le_of_ble_eq_true rfl) rfl rfl J9 rfl (by kernel_rfl) rfl ?_
 clear H7 a7 w7
 intro a8 w8 H8
 obtain ⟨B8,hB8⟩:∃B:Bx,B=B7:=⟨_,rfl⟩
 rw [←hB8] at H8
 clear hB8 B7
 refine qi ?_
 refine qg ?_
 refine wp_seq ?_
 refine fr (refs:=[[.pre 2],[.pre 3],[.res 0,.res 1,.pre 6]]) (outs:=[.res 2]++pr 1 6) (als:=fs 3) (posts:=[.val (IsN X),.val (IsN Y),.val (qo lo (IsI (X+Y)))])
  (out:=[(24,.val (qo lo (IsI (X+Y)))),(9,.box 76 20 (jb (lst [qo lo (IsI X),qo lo (IsI n),qo lo (IsI (-X))]))),(4,.box 52 2 (IsN X)),(5,.box 52 2 (IsN Y)),(8,.box 76 20 (jb (lst []))),(3,.val (Lit (.string s))),(60,zs lo)]) (nb:=[]) H8 3 [3,4,5] rfl (by kernel_rfl) rfl rfl ?_ ?_
 ·refine cp (zo tyI (.tmp 0 rfl)) ?_
  refine cp (zo tyI (.tmp 0 rfl)) ?_
  refine cp (y9 2 ((U7 X Y hx hy (by omega)).freshI (Gs.all ⟨Fj,Fj,trivial⟩)) rfl (.cons (.tmp 0 rfl) (.cons (.tmp 1 rfl) (.nil)))) ?_
  exact .nil
 clear H8 a8 w8 B8
 intro a9 w9 B9 H9
 refine Aj (i:=3) (j:=4) (k:=5) (Ls:=[qo lo (IsI X),qo lo (IsI n),qo lo (IsI (-X))]) (Ls':=[qo lo (IsI X),qo lo (IsI n),qo lo (IsI (-X)),qo lo (IsI (X+Y))]) (E:=qo lo (IsI (X+Y))) (l':=[(24,.val (qo lo (IsI (X+Y)))),(9,.box 76 20 (jb (lst [qo lo (IsI X),qo lo (IsI n),qo lo (IsI (-X)),qo lo (IsI (X+Y))]))),(4,.box 52 2 (IsN X)),(5,.box 52 2 (IsN Y)),(8,.box 76 20 (jb (lst []))),(3,.val (Lit (.string s))),(60,zs lo)]) 1 0 rfl H9 rfl rfl rfl rfl (Nat.le_of_ble_eq_true rfl) rfl rfl J9 rfl (by kernel_rfl) rfl ?_
 clear H9 a9 w9
 intro a10 w10 H10
 obtain ⟨B10,hB10⟩:∃B:Bx,B=B9:=⟨_,rfl⟩
 rw [←hB10] at H10
 clear hB10 B9
 refine qi ?_
 refine qg ?_
 refine wp_seq ?_
 refine fr (refs:=[[.pre 2],[.pre 3],[.res 0,.res 1,.pre 6]]) (outs:=[.res 2]++pr 1 6) (als:=fs 3) (posts:=[.val (IsN X),.val (IsN Y),.val (qo lo (IsI (X-Y)))])
  (out:=[(29,.val (qo lo (IsI (X-Y)))),(9,.box 76 20 (jb (lst [qo lo (IsI X),qo lo (IsI n),qo lo (IsI (-X)),qo lo (IsI (X+Y))]))),(4,.box 52 2 (IsN X)),(5,.box 52 2 (IsN Y)),(8,.box 76 20 (jb (lst []))),(3,.val (Lit (.string s))),(60,zs lo)]) (nb:=[]) H10 3 [3,4,5] rfl (by kernel_rfl) rfl rfl ?_ ?_
 ·refine cp (zo tyI (.tmp 0 rfl)) ?_
  refine cp (zo tyI (.tmp 0 rfl)) ?_
  refine cp (y9 2 ((Ph X Y hx hy (by omega)).freshI (Gs.all ⟨Fj,Fj,trivial⟩)) rfl (.cons (.tmp 0 rfl) (.cons (.tmp 1 rfl) (.nil)))) ?_
  exact .nil
 clear H10 a10 w10 B10
 intro a11 w11 B11 H11
 refine Aj (i:=3) (j:=4) (k:=5) (Ls:=[qo lo (IsI X),qo lo (IsI n),qo lo (IsI (-X)),qo lo (IsI (X+Y))]) (Ls':=[qo lo (IsI X),qo lo (IsI n),qo lo (IsI (-X)),qo lo (IsI (X+Y)),qo lo (IsI (X-Y))]) (E:=qo lo (IsI (X-Y))) (l':=[(29,.val (qo lo (IsI (X-Y)))),(9,.box 76 20 (jb (lst [qo lo (IsI X),qo lo (IsI n),qo lo (IsI (-X)),qo lo (IsI (X+Y)),qo lo (IsI (X-Y))]))),(4,.box 52 2 (IsN X)),(5,.box 52 2 (IsN Y)),(8,.box 76 20 (jb (lst []))),(3,.val (Lit (.string s))),(60,zs lo)]) 1 0 rfl H11 rfl rfl rfl rfl (Nat.le_of_ble_eq_true rfl) rfl rfl J9 rfl (by kernel_rfl) rfl ?_
 clear H11 a11 w11
 intro a12 w12 H12
 obtain ⟨B12,hB12⟩:∃B:Bx,B=B11:=⟨_,rfl⟩
 rw [←hB12] at H12
 clear hB12 B11
 refine qi ?_
 refine qg ?_
 refine wp_seq ?_
 refine fr (refs:=[[.pre 2],[.pre 3],[.res 0,.res 1,.pre 6]]) (outs:=[.res 2]++pr 1 6) (als:=fs 3) (posts:=[.val (IsN X),.val (IsN Y),.val (qo lo (IsI (X*Y)))])
  (out:=[(34,.val (qo lo (IsI (X*Y)))),(9,.box 76 20 (jb (lst [qo lo (IsI X),qo lo (IsI n),qo lo (IsI (-X)),qo lo (IsI (X+Y)),qo lo (IsI (X-Y))]))),(4,.box 52 2 (IsN X)),(5,.box 52 2 (IsN Y)),(8,.box 76 20 (jb (lst []))),(3,.val (Lit (.string s))),(60,zs lo)]) (nb:=[]) H12 3 [3,4,5] rfl (by kernel_rfl) rfl rfl ?_ ?_
 ·refine cp (zo tyI (.tmp 0 rfl)) ?_
  refine cp (zo tyI (.tmp 0 rfl)) ?_
  refine cp (y9 2 ((U8 X Y hx hy (by omega)).freshI (Gs.all ⟨Fj,Fj,trivial⟩)) rfl (.cons (.tmp 0 rfl) (.cons (.tmp 1 rfl) (.nil)))) ?_
  exact .nil
 clear H12 a12 w12 B12
 intro a13 w13 B13 H13
 refine Aj (i:=3) (j:=4) (k:=5) (Ls:=[qo lo (IsI X),qo lo (IsI n),qo lo (IsI (-X)),qo lo (IsI (X+Y)),qo lo (IsI (X-Y))]) (Ls':=[qo lo (IsI X),qo lo (IsI n),qo lo (IsI (-X)),qo lo (IsI (X+Y)),qo lo (IsI (X-Y)),qo lo (IsI (X*Y))]) (E:=qo lo (IsI (X*Y))) (l':=[(34,.val (qo lo (IsI (X*Y)))),(9,.box 76 20 (jb (lst [qo lo (IsI X),qo lo (IsI n),qo lo (IsI (-X)),qo lo (IsI (X+Y)),qo lo (IsI (X-Y)),qo lo (IsI (X*Y))]))),(4,.box 52 2 (IsN X)),(5,.box 52 2 (IsN Y)),(8,.box 76 20 (jb (lst []))),(3,.val (Lit (.string s))),(60,zs lo)]) 1 0 rfl H13 rfl rfl rfl rfl (Nat.le_of_ble_eq_true rfl) rfl rfl J9 rfl (by kernel_rfl) rfl ?_
 clear H13 a13 w13
 intro a14 w14 H14
 obtain ⟨B14,hB14⟩:∃B:Bx,B=B13:=⟨_,rfl⟩
 rw [←hB14] at H14
 clear hB14 B13
 refine qi ?_
 refine qg ?_
 refine wp_seq ?_
 refine fr (refs:=[[.pre 2],[.pre 3],[.res 0,.res 1,.pre 6],[.res 2]]) (outs:=[.res 3,.pre 1]++pr 4 3) (als:=fs 4) (posts:=[.val (IsN X),.val (IsN Y),.val (Tup [qo lo (IsI (X.tdiv Y)),qo lo (IsI (vg X Y)),IsB (decide (Y≠0))]),.val (Tup [qo lo (IsI (X.tdiv Y)),qo lo (IsI (vg X Y)),IsB (decide (Y≠0))])])
  (out:=[(37,.val (Tup [qo lo (IsI (X.tdiv Y)),qo lo (IsI (vg X Y)),IsB (decide (Y≠0))])),(9,.box 76 20 (jb (lst [qo lo (IsI X),qo lo (IsI n),qo lo (IsI (-X)),qo lo (IsI (X+Y)),qo lo (IsI (X-Y)),qo lo (IsI (X*Y))]))),(8,.box 76 20 (jb (lst []))),(3,.val (Lit (.string s))),(60,zs lo)]) (nb:=[]) H14 4 [4,5,6,7,8,9,10,11,12] rfl (by kernel_rfl) rfl rfl ?_ ?_
 ·refine cp (zo tyI (.tmp 0 rfl)) ?_
  refine cp (zo tyI (.tmp 0 rfl)) ?_
  refine cp (y9 2 ((qdm X Y hx hy (by omega) (by omega)).freshI3 (Gs.all ⟨Fj,Fj,trivial⟩)) rfl (.cons (.tmp 0 rfl) (.cons (.tmp 1 rfl) (.nil)))) ?_
  refine cp (qh (.tmp 0 rfl)) ?_
  exact .nil
 clear H14 a14 w14 B14
 intro a15 w15 B15 H15
 refine zi ?_
 refine jm (D:=.val (qo lo (IsI (X.tdiv Y)))) (l':=[(41,.val (qo lo (IsI (X.tdiv Y)))),(37,.val (Tup [qo lo (IsI (X.tdiv Y)),qo lo (IsI (vg X Y)),IsB (decide (Y≠0))])),(9,.box 76 20 (jb (lst [qo lo (IsI X),qo lo (IsI n),qo lo (IsI (-X)),qo lo (IsI (X+Y)),qo lo (IsI (X-Y)),qo lo (IsI (X*Y))]))),(8,.box 76 20 (jb (lst []))),(3,.val (Lit (.string s))),(60,zs lo)]) H15 rfl rfl rfl (.plain rfl (zq 0 (.tmp 0 rfl) rfl)) rfl rfl ?_
 clear H15 a15 w15 B15
 intro a16 w16 B16 H16
 refine zi ?_
 refine jm (D:=.val (qo lo (IsI (vg X Y)))) (l':=[(42,.val (qo lo (IsI (vg X Y)))),(41,.val (qo lo (IsI (X.tdiv Y)))),(37,.val (Tup [qo lo (IsI (X.tdiv Y)),qo lo (IsI (vg X Y)),IsB (decide (Y≠0))])),(9,.box 76 20 (jb (lst [qo lo (IsI X),qo lo (IsI n),qo lo (IsI (-X)),qo lo (IsI (X+Y)),qo lo (IsI (X-Y)),qo lo (IsI (X*Y))]))),(8,.box 76 20 (jb (lst []))),(3,.val (Lit (.string s))),(60,zs lo)]) H16 rfl rfl rfl (.plain rfl (zq 1 (.tmp 1 rfl) rfl)) rfl rfl ?_
 clear H16 a16 w16 B16
 intro a17 w17 B17 H17
 refine zi ?_
 refine jm (D:=bv (decide (Y≠0))) (l':=[(43,bv (decide (Y≠0))),(42,.val (qo lo (IsI (vg X Y)))),(41,.val (qo lo (IsI (X.tdiv Y)))),(37,.val (Tup [qo lo (IsI (X.tdiv Y)),qo lo (IsI (vg X Y)),IsB (decide (Y≠0))])),(9,.box 76 20 (jb (lst [qo lo (IsI X),qo lo (IsI n),qo lo (IsI (-X)),qo lo (IsI (X+Y)),qo lo (IsI (X-Y)),qo lo (IsI (X*Y))]))),(8,.box 76 20 (jb (lst []))),(3,.val (Lit (.string s))),(60,zs lo)]) H17 rfl rfl rfl (.plain rfl (zq 2 (.tmp 2 rfl) rfl)) rfl rfl ?_
 clear H17 a17 w17 B17
 intro a18 w18 B18 H18
 refine Aj (i:=7) (j:=8) (k:=9) (Ls:=[qo lo (IsI X),qo lo (IsI n),qo lo (IsI (-X)),qo lo (IsI (X+Y)),qo lo (IsI (X-Y)),qo lo (IsI (X*Y))]) (Ls':=[qo lo (IsI X),qo lo (IsI n),qo lo (IsI (-X)),qo lo (IsI (X+Y)),qo lo (IsI (X-Y)),qo lo (IsI (X*Y)),qo lo (IsI (X.tdiv Y))]) (E:=qo lo (IsI (X.tdiv Y))) (l':=[(43,bv (decide (Y≠0))),(42,.val (qo lo (IsI (vg X Y)))),(41,.val (qo lo (IsI (X.tdiv Y)))),(37,.val (Tup [qo lo (IsI (X.tdiv Y)),qo lo (IsI (vg X Y)),IsB (decide (Y≠0))])),(9,.box 76 20 (jb (lst [qo lo (IsI X),qo lo (IsI n),qo lo (IsI (-X)),qo lo (IsI (X+Y)),qo lo (IsI (X-Y)),qo lo (IsI (X*Y)),qo lo (IsI (X.tdiv Y))]))),(8,.box 76 20 (jb (lst []))),(3,.val (Lit (.string s))),(60,zs lo)]) 4 2 rfl H18 rfl rfl rfl rfl (Nat.le_of_ble_eq_true rfl) rfl rfl J9 rfl (by kernel_rfl) rfl ?_
 clear H18 a18 w18
 intro a19 w19 H19
 obtain ⟨B19,hB19⟩:∃B:Bx,B=B18:=⟨_,rfl⟩
 rw [←hB19] at H19
 clear hB19 B18
 refine Aj (i:=10) (j:=11) (k:=12) (Ls:=[qo lo (IsI X),qo lo (IsI n),qo lo (IsI (-X)),qo lo (IsI (X+Y)),qo lo (IsI (X-Y)),qo lo (IsI (X*Y)),qo lo (IsI (X.tdiv Y))]) (Ls':=[qo lo (IsI X),qo lo (IsI n),qo lo (IsI (-X)),qo lo (IsI (X+Y)),qo lo (IsI (X-Y)),qo lo (IsI (X*Y)),qo lo (IsI (X.tdiv Y)),qo lo (IsI (vg X Y))]) (E:=qo lo (IsI (vg X Y))) (l':=[(43,bv (decide (Y≠0))),(42,.val (qo lo (IsI (vg X Y)))),(41,.val (qo lo (IsI (X.tdiv Y)))),(37,.val (Tup [qo lo (IsI (X.tdiv Y)),qo lo (IsI (vg X Y)),IsB (decide (Y≠0))])),(9,.box 76 20 (jb (lst [qo lo (IsI X),qo lo (IsI n),qo lo (IsI (-X)),qo lo (IsI (X+Y)),qo lo (IsI (X-Y)),qo lo (IsI (X*Y)),qo lo (IsI (X.tdiv Y)),qo lo (IsI (vg X Y))]))),(8,.box 76 20 (jb (lst []))),(3,.val (Lit (.string s))),(60,zs lo)]) 4 1 rfl H19 rfl rfl rfl rfl (Nat.le_of_ble_eq_true rfl) rfl rfl J9 rfl (by kernel_rfl) rfl ?_
 clear H19 a19 w19
 intro a20 w20 H20
 obtain ⟨B20,hB20⟩:∃B:Bx,B=B19:=⟨_,rfl⟩
 rw [←hB20] at H20
 clear hB20 B19
 refine qi ?_
 refine qg ?_
 refine wp_seq ?_
 refine fr (refs:=[[.pre 6],[.res 0,.pre 7],[.res 1],[.res 2],[.res 2]]) (outs:=[.res 3]++pr 4 4) (als:=fs 5) (posts:=[.val (Lit (.string s)),.val (Tup [qo lo (IsI (jf (qf s))),IsB (Bg (qf s))]),.val (Tup [qo lo (IsI (jf (qf s))),IsB (Bg (qf s))]),.val (qo lo (IsI (jf (qf s)))),bv (Bg (qf s))])
  (out:=[(51,.val (qo lo (IsI (jf (qf s))))),(9,.box 76 20 (jb (lst [qo lo (IsI X),qo lo (IsI n),qo lo (IsI (-X)),qo lo (IsI (X+Y)),qo lo (IsI (X-Y)),qo lo (IsI (X*Y)),qo lo (IsI (X.tdiv Y)),qo lo (IsI (vg X Y))]))),(8,.box 76 20 (jb (lst []))),(3,.val (Lit (.string s))),(60,zs lo)]) (nb:=[]) H20 5 [5,6,7] rfl (by kernel_rfl) rfl rfl ?_ ?_
 ·refine cp (qh (.tmp 0 rfl)) ?_
  refine cp (y9 1 ((qbs s (by omega)).freshI2 (Gs.all ⟨Kt,trivial⟩)) rfl (.cons (.tmp 0 rfl) (.nil))) ?_
  refine cp (qh (.tmp 0 rfl)) ?_
  refine cp (zq 0 (.tmp 0 rfl) rfl) ?_
  refine cp (zq 1 (.tmp 0 rfl) rfl) ?_
  exact .nil
 clear H20 a20 w20 B20
 intro a21 w21 B21 H21
 refine Aj (i:=5) (j:=6) (k:=7) (Ls:=[qo lo (IsI X),qo lo (IsI n),qo lo (IsI (-X)),qo lo (IsI (X+Y)),qo lo (IsI (X-Y)),qo lo (IsI (X*Y)),qo lo (IsI (X.tdiv Y)),qo lo (IsI (vg X Y))]) (Ls':=[qo lo (IsI X),qo lo (IsI n),qo lo (IsI (-X)),qo lo (IsI (X+Y)),qo lo (IsI (X-Y)),qo lo (IsI (X*Y)),qo lo (IsI (X.tdiv Y)),qo lo (IsI (vg X Y)),qo lo (IsI (jf (qf s)))]) (E:=qo lo (IsI (jf (qf s)))) (l':=[(51,.val (qo lo (IsI (jf (qf s))))),(9,.box 76 20 (jb (lst [qo lo (IsI X),qo lo (IsI n),qo lo (IsI (-X)),qo lo (IsI (X+Y)),qo lo (IsI (X-Y)),qo lo (IsI (X*Y)),qo lo (IsI (X.tdiv Y)),qo lo (IsI (vg X Y)),qo lo (IsI (jf (qf s)))]))),(8,.box 76 20 (jb (lst []))),(3,.val (Lit (.string s))),(60,zs lo)]) 1 0 rfl H21 rfl rfl rfl rfl (Nat.le_of_ble_eq_true rfl) rfl rfl J9 rfl (by kernel_rfl) rfl ?_
 clear H21 a21 w21
 intro a22 w22 H22
 obtain ⟨B22,hB22⟩:∃B:Bx,B=B21:=⟨_,rfl⟩
 rw [←hB22] at H22
 clear hB22 B21
 refine qi ?_
 refine qg ?_
 refine wp_seq ?_
 refine fr (refs:=[[.pre 3],[.res 0,.pre 4]]) (outs:=[.res 1,.pre 1,.pre 2,.pre 4]) (als:=fs 2) (posts:=[.val (Lit (.string s)),.val (qo lo (IsI (xm (qf s))))])
  (out:=[(56,.val (qo lo (IsI (xm (qf s))))),(9,.box 76 20 (jb (lst [qo lo (IsI X),qo lo (IsI n),qo lo (IsI (-X)),qo lo (IsI (X+Y)),qo lo (IsI (X-Y)),qo lo (IsI (X*Y)),qo lo (IsI (X.tdiv Y)),qo lo (IsI (vg X Y)),qo lo (IsI (jf (qf s)))]))),(8,.box 76 20 (jb (lst []))),(60,zs lo)]) (nb:=[]) H22 2 [2,3,4] rfl (by kernel_rfl) rfl rfl ?_ ?_
 ·refine cp (qh (.tmp 0 rfl)) ?_
  refine cp (y9 1 ((Tq s (by omega)).freshI (Gs.all ⟨Kt,trivial⟩)) rfl (.cons (.tmp 0 rfl) (.nil))) ?_
  exact .nil
 clear H22 a22 w22 B22
 intro a23 w23 B23 H23
 refine Aj (i:=2) (j:=3) (k:=4) (Ls:=[qo lo (IsI X),qo lo (IsI n),qo lo (IsI (-X)),qo lo (IsI (X+Y)),qo lo (IsI (X-Y)),qo lo (IsI (X*Y)),qo lo (IsI (X.tdiv Y)),qo lo (IsI (vg X Y)),qo lo (IsI (jf (qf s)))]) (Ls':=[qo lo (IsI X),qo lo (IsI n),qo lo (IsI (-X)),qo lo (IsI (X+Y)),qo lo (IsI (X-Y)),qo lo (IsI (X*Y)),qo lo (IsI (X.tdiv Y)),qo lo (IsI (vg X Y)),qo lo (IsI (jf (qf s))),qo lo (IsI (xm (qf s)))]) (E:=qo lo (IsI (xm (qf s)))) (l':=[(56,.val (qo lo (IsI (xm (qf s))))),(9,.box 76 20 (jb (lst [qo lo (IsI X),qo lo (IsI n),qo lo (IsI (-X)),qo lo (IsI (X+Y)),qo lo (IsI (X-Y)),qo lo (IsI (X*Y)),qo lo (IsI (X.tdiv Y)),qo lo (IsI (vg X Y)),qo lo (IsI (jf (qf s))),qo lo (IsI (xm (qf s)))]))),(8,.box 76 20 (jb (lst []))),(60,zs lo)]) 1 0 rfl H23 rfl rfl rfl rfl (Nat.le_of_ble_eq_true rfl) rfl rfl J9 rfl (by kernel_rfl) rfl ?_
 clear H23 a23 w23
 intro a24 w24 H24
 obtain ⟨B24,hB24⟩:∃B:Bx,B=B23:=⟨_,rfl⟩
 rw [←hB24] at H24
 clear hB24 B23
 refine qi ?_
 refine qg ?_
 refine wp_seq ?_
 refine fr (refs:=[[.pre 1]]) (outs:=[.res 0,.pre 2,.pre 3]) (als:=[false]) (posts:=[.val (jb (lst [qo lo (IsI X),qo lo (IsI n),qo lo (IsI (-X)),qo lo (IsI (X+Y)),qo lo (IsI (X-Y)),qo lo (IsI (X*Y)),qo lo (IsI (X.tdiv Y)),qo lo (IsI (vg X Y)),qo lo (IsI (jf (qf s))),qo lo (IsI (xm (qf s)))]))])
  (out:=[(59,.val (jb (lst [qo lo (IsI X),qo lo (IsI n),qo lo (IsI (-X)),qo lo (IsI (X+Y)),qo lo (IsI (X-Y)),qo lo (IsI (X*Y)),qo lo (IsI (X.tdiv Y)),qo lo (IsI (vg X Y)),qo lo (IsI (jf (qf s))),qo lo (IsI (xm (qf s)))]))),(8,.box 76 20 (jb (lst []))),(60,zs lo)]) (nb:=[]) H24 1 [1] rfl (by kernel_rfl) rfl rfl ?_ ?_
 ·refine cp (zo Dz (.tmp 0 rfl)) ?_
  exact .nil
 clear H24 a24 w24 B24
 intro a25 w25 B25 H25
 refine zi ?_
 refine ja (l':=[(59,.val (jb (lst [qo lo (IsI X),qo lo (IsI n),qo lo (IsI (-X)),qo lo (IsI (X+Y)),qo lo (IsI (X-Y)),qo lo (IsI (X*Y)),qo lo (IsI (X.tdiv Y)),qo lo (IsI (vg X Y)),qo lo (IsI (jf (qf s))),qo lo (IsI (xm (qf s)))]))),(8,.box 76 20 (jb (lst [qo lo (IsI X),qo lo (IsI n),qo lo (IsI (-X)),qo lo (IsI (X+Y)),qo lo (IsI (X-Y)),qo lo (IsI (X*Y)),qo lo (IsI (X.tdiv Y)),qo lo (IsI (vg X Y)),qo lo (IsI (jf (qf s))),qo lo (IsI (xm (qf s)))]))),(60,zs lo)]) 1 H25 rfl Dz rfl (.tmp 0 rfl) Bj Bj rfl rfl ?_
 clear H25 w25
 intro w26 H26
 refine qi ?_
 refine qg ?_
 refine wp_ret ?_
 exact Cc H26 Dz rfl 1 rfl (fun v w B h=>qkh v w B h)
end Go.Proofs.YtbcbmkeeoognpaaGreatDoor
