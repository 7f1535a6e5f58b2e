/- Contracts of functions, and plain facts, part 27. -/
import Derived.Test.YtbcbmkeeoognpaaGreatDoorPk16
import Derived.Test.YtbcbmkeeoognpaaGreatDoorPk22
import Derived.Test.YtbcbmkeeoognpaaGreatDoorPk26
set_option linter.unusedVariables false
set_option linter.unusedSimpArgs false
namespace Go.Proofs.YtbcbmkeeoognpaaGreatDoor
open Go Go.RowKit
set_option maxRecDepth 20000 in
set_option maxHeartbeats 2000000 in
theorem Ry (s:ByteArray) (hs:s.size≤140737488351232):Con Tryz.prog 32 [Lit (.string s)] (Tup [zg (qx (qf s)),IsB (jh (qf s))]):=by
 refine Ba (N:=56) Tryz.ntmps32 (fun _ _=>by go_simp) Tryz.func32 rfl (by simp) ?_
 intro a0 w0 B0 H0
 replace H0:St 56 w0 B0 a0 w0 B0 [(0,.val (Lit (.string s)))] []:=H0
 refine wp_seq ?_
 refine fr (refs:=[[],[]]) (outs:=[.res 0,.res 1,.pre 0]) (als:=fs 2) (posts:=[.val (zg 0),bv false])
  (out:=[(2,.val (zg 0)),(3,bv false),(0,.val (Lit (.string s)))]) (nb:=[]) H0 2 [] rfl (by kernel_rfl) rfl rfl ?_ ?_
 ·refine cp (qm (.const (fun w B=>Ej _ w B rfl))) ?_
  refine cp (qm (.lit)) ?_
  exact .nil
 clear H0
 intro a1 w1 B1 H1
 refine qi ?_
 refine qg ?_
 refine wp_seq ?_
 refine wp_seq ?_
 rcases (show ((s.size:Int)=0)∨(¬(s.size:Int)=0∧(qf s)[0]?.getD 0=48∧1<(s.size:Int))∨(¬(s.size:Int)=0∧(qf s)[0]?.getD 0=48∧¬1<(s.size:Int))∨(¬(s.size:Int)=0∧¬(qf s)[0]?.getD 0=48) by omega) with c0 | ⟨c0,c1,c2⟩ | ⟨c0,c1,c2⟩ | ⟨c0,c1⟩
 ·have hno:=qel
  rw [show ([]:List Int)=qf s from (List.length_eq_zero_iff.1 (by rw [zu];omega)).symm] at hno
  have n0:=(Ey hno).symm
  refine fr (refs:=[[.pre 2],[.res 0],[.res 1],[.res 2],[.res 3],[.res 3],[.res 3],[.res 3],[.res 7],[.res 7],[.res 7],[.res 3],[.res 3]]) (outs:=[.res 12]++pr 0 3) (als:=fs 13) (posts:=[.val (Lit (.string s)),i6 ((s).size:Int),bv true,bv true,.val (xk),.val (xk),.val (xk),.val (xk),.val (xk),.val (xk),.val (xk),.val (xk),bv true])
   (out:=[(19,bv true),(2,.val (zg 0)),(3,bv false),(0,.val (Lit (.string s)))]) (nb:=[]) H1 13 [] rfl (by kernel_rfl) rfl rfl ?_ ?_
  ·refine cp (qh (.tmp 0 rfl)) ?_
   refine cp (Cm Tryz.underlying9 (.tmp 0 rfl)) ?_
   refine cp (jq (b:=true) (.tmp 0 rfl) (.lit) ((decide_eq_true (c0)).symm)) ?_
   refine cp (qh (.tmp 0 rfl)) ?_
   refine .cons (.unwanted 3 false rfl rfl rfl 0 rfl) ?_
   refine .cons (.unwanted 3 false rfl rfl rfl 0 rfl) ?_
   refine .cons (.unwanted 3 false rfl rfl rfl 0 rfl) ?_
   refine .cons (.unwanted 3 false rfl rfl rfl 0 rfl) ?_
   refine .cons (.unasked 7 true rfl rfl rfl 0 rfl) ?_
   refine .cons (.unasked 7 true rfl rfl rfl 0 rfl) ?_
   refine .cons (.unasked 7 true rfl rfl rfl 0 rfl) ?_
   refine .cons (.unwanted 3 false rfl rfl rfl 0 rfl) ?_
   refine cp (Gx (.tmp 0 rfl) (.lit)) ?_
   exact .nil
  clear H1 a1 w1 B1
  intro a2 w2 B2 H2
  refine qi ?_
  refine qg ?_
  refine Iq H2 (.tmp 0 rfl) ?_
  refine wp_seq ?_
  refine fr (refs:=[[],[]]) (outs:=[.res 0,.res 1,.pre 3]) (als:=fs 2) (posts:=[.val (zg 0),bv false])
   (out:=[(2,.val (zg 0)),(3,bv false),(0,.val (Lit (.string s)))]) (nb:=[]) H2 2 [] rfl (by kernel_rfl) rfl rfl ?_ ?_
  ·refine cp (qm (.const (fun w B=>Ej _ w B rfl))) ?_
   refine cp (qm (.lit)) ?_
   exact .nil
  clear H2 a2 w2 B2
  intro a3 w3 B3 H3
  refine qi ?_
  refine qg ?_
  refine wp_ret ?_
  refine yh ?_
  exact Dj H3 rfl rfl (.tmp 0 rfl (fun v w B h=>by exact Gi (by assumption) h) (.tmp 1 rfl (fun v w B h=>by exact Dl (by first | assumption | exact Eq.symm (by assumption)) h) (.nil)))
 ·have hno:=qcp c1 (by rw [zu];omega)
  have n0:=(Ey hno).symm
  refine fr (refs:=[[.pre 2],[.res 0],[.res 1],[.res 2],[.res 3,.pre 2],[.res 3,.res 4],[.res 3,.res 5],[.res 3,.res 6],[.res 7,.pre 2],[.res 7,.res 8],[.res 7,.res 9],[.res 3,.res 7,.res 10],[.res 3,.res 11]]) (outs:=[.res 12]++pr 0 3) (als:=fs 13) (posts:=[.val (Lit (.string s)),i6 ((s).size:Int),bv false,bv false,.val (Lit (.string s)),.val (Lit (.int .u8 ((qf s)[0]?.getD 0))),bv true,bv true,.val (Lit (.string s)),i6 ((s).size:Int),bv true,bv true,bv true])
   (out:=[(19,bv true),(2,.val (zg 0)),(3,bv false),(0,.val (Lit (.string s)))]) (nb:=[]) H1 13 [] rfl (by kernel_rfl) rfl rfl ?_ ?_
  ·refine cp (qh (.tmp 0 rfl)) ?_
   refine cp (Cm Tryz.underlying9 (.tmp 0 rfl)) ?_
   refine cp (jq (b:=false) (.tmp 0 rfl) (.lit) ((decide_eq_false (c0)).symm)) ?_
   refine cp (qh (.tmp 0 rfl)) ?_
   refine .cons (.wanted 3 false rfl rfl rfl 0 rfl (qh (.tmp 1 rfl))) ?_
   refine .cons (.wanted 3 false rfl rfl rfl 0 rfl (Cj (n:=0) (c:=((qf s)[0]?.getD 0)) Tryz.underlying9 (.tmp 1 rfl) (.lit) (rfl) (bytes_at s 0 (by omega)))) ?_
   refine .cons (.wanted 3 false rfl rfl rfl 0 rfl (jq (b:=true) (.tmp 1 rfl) (.lit) ((decide_eq_true (c1)).symm))) ?_
   refine .cons (.wanted 3 false rfl rfl rfl 0 rfl (qh (.tmp 1 rfl))) ?_
   refine .cons (.wanted 7 true rfl rfl rfl 0 rfl (qh (.tmp 1 rfl))) ?_
   refine .cons (.wanted 7 true rfl rfl rfl 0 rfl (Cm Tryz.underlying9 (.tmp 1 rfl))) ?_
   refine .cons (.wanted 7 true rfl rfl rfl 0 rfl (jq (b:=true) (.tmp 1 rfl) (.lit) ((decide_eq_true (c2)).symm))) ?_
   refine .cons (.wanted 3 false rfl rfl rfl 0 rfl (Gx (.tmp 1 rfl) (.tmp 2 rfl))) ?_
   refine cp (Cf (.tmp 0 rfl) (.tmp 1 rfl)) ?_
   exact .nil
  clear H1 a1 w1 B1
  intro a4 w4 B4 H4
  refine qi ?_
  refine qg ?_
  refine Iq H4 (.tmp 0 rfl) ?_
  refine wp_seq ?_
  refine fr (refs:=[[],[]]) (outs:=[.res 0,.res 1,.pre 3]) (als:=fs 2) (posts:=[.val (zg 0),bv false])
   (out:=[(2,.val (zg 0)),(3,bv false),(0,.val (Lit (.string s)))]) (nb:=[]) H4 2 [] rfl (by kernel_rfl) rfl rfl ?_ ?_
  ·refine cp (qm (.const (fun w B=>Ej _ w B rfl))) ?_
   refine cp (qm (.lit)) ?_
   exact .nil
  clear H4 a4 w4 B4
  intro a5 w5 B5 H5
  refine qi ?_
  refine qg ?_
  refine wp_ret ?_
  refine yh ?_
  exact Dj H5 rfl rfl (.tmp 0 rfl (fun v w B h=>by exact Gi (by assumption) h) (.tmp 1 rfl (fun v w B h=>by exact Dl (by first | assumption | exact Eq.symm (by assumption)) h) (.nil)))
 ·have lead:(qf s)[0]?.getD 0=48→(qf s).length=1:=fun _=>by rw [zu];omega
  refine fr (refs:=[[.pre 2],[.res 0],[.res 1],[.res 2],[.res 3,.pre 2],[.res 3,.res 4],[.res 3,.res 5],[.res 3,.res 6],[.res 7,.pre 2],[.res 7,.res 8],[.res 7,.res 9],[.res 3,.res 7,.res 10],[.res 3,.res 11]]) (outs:=[.res 12]++pr 0 3) (als:=fs 13) (posts:=[.val (Lit (.string s)),i6 ((s).size:Int),bv false,bv false,.val (Lit (.string s)),.val (Lit (.int .u8 ((qf s)[0]?.getD 0))),bv true,bv true,.val (Lit (.string s)),i6 ((s).size:Int),bv false,bv false,bv false])
   (out:=[(19,bv false),(2,.val (zg 0)),(3,bv false),(0,.val (Lit (.string s)))]) (nb:=[]) H1 13 [] rfl (by kernel_rfl) rfl rfl ?_ ?_
  ·refine cp (qh (.tmp 0 rfl)) ?_
   refine cp (Cm Tryz.underlying9 (.tmp 0 rfl)) ?_
   refine cp (jq (b:=false) (.tmp 0 rfl) (.lit) ((decide_eq_false (c0)).symm)) ?_
   refine cp (qh (.tmp 0 rfl)) ?_
   refine .cons (.wanted 3 false rfl rfl rfl 0 rfl (qh (.tmp 1 rfl))) ?_
   refine .cons (.wanted 3 false rfl rfl rfl 0 rfl (Cj (n:=0) (c:=((qf s)[0]?.getD 0)) Tryz.underlying9 (.tmp 1 rfl) (.lit) (rfl) (bytes_at s 0 (by omega)))) ?_
   refine .cons (.wanted 3 false rfl rfl rfl 0 rfl (jq (b:=true) (.tmp 1 rfl) (.lit) ((decide_eq_true (c1)).symm))) ?_
   refine .cons (.wanted 3 false rfl rfl rfl 0 rfl (qh (.tmp 1 rfl))) ?_
   refine .cons (.wanted 7 true rfl rfl rfl 0 rfl (qh (.tmp 1 rfl))) ?_
   refine .cons (.wanted 7 true rfl rfl rfl 0 rfl (Cm Tryz.underlying9 (.tmp 1 rfl))) ?_
   refine .cons (.wanted 7 true rfl rfl rfl 0 rfl (jq (b:=false) (.tmp 1 rfl) (.lit) ((decide_eq_false (c2)).symm))) ?_
   refine .cons (.wanted 3 false rfl rfl rfl 0 rfl (Gx (.tmp 1 rfl) (.tmp 2 rfl))) ?_
   refine cp (Cf (.tmp 0 rfl) (.tmp 1 rfl)) ?_
   exact .nil
  clear H1 a1 w1 B1
  intro a6 w6 B6 H6
  refine qi ?_
  refine qg ?_
  refine Fq H6 (.tmp 0 rfl) ?_
  refine wp_skip ?_
  refine qg ?_
  refine wp_seq ?_
  refine fr (refs:=[[]]) (outs:=[.res 0]++pr 1 3) (als:=[false]) (posts:=[.val (zg 0)])
   (out:=[(4,.val (zg 0)),(2,.val (zg 0)),(3,bv false),(0,.val (Lit (.string s)))]) (nb:=[]) H6 1 [] rfl (by kernel_rfl) rfl rfl ?_ ?_
  ·refine cp (qm (.const (fun w B=>Ej _ w B rfl))) ?_
   exact .nil
  clear H6 a6 w6 B6
  intro a7 w7 B7 H7
  refine qi ?_
  refine qg ?_
  refine wp_seq ?_
  refine wp_seq ?_
  refine fr (refs:=[[]]) (outs:=[.res 0]++pr 0 4) (als:=[false]) (posts:=[i6 0])
   (out:=[(5,i6 0),(4,.val (zg 0)),(2,.val (zg 0)),(3,bv false),(0,.val (Lit (.string s)))]) (nb:=[]) H7 1 [] rfl (by kernel_rfl) rfl rfl ?_ ?_
  ·refine cp (qm (.lit)) ?_
   exact .nil
  clear H7 a7 w7 B7
  intro a8 w8 B8 H8
  refine qi ?_
  refine qg ?_
  refine wp_block ?_
  refine Gq (fun (i:Int)=>[(5,i6 i),(4,.val (zg 0)),(2,.val (zg 0)),(3,bv false),(0,.val (Lit (.string s)))]) (fun (i:Int)=>0≤i∧i≤(s.size:Int)∧Dgs (qf s) i) (fun (i:Int)=>((s.size:Int)-i).toNat) (0) (St.pick H8 [0,1,2,3,4] rfl) (by exact ⟨by omega,by omega,qby _⟩) ?_
  clear H8 a8 w8 B8
  rintro i a9 w9 B9 hI9 H9
  replace hI9:0≤i∧i≤(s.size:Int)∧Dgs (qf s) i:=hI9
  replace H9:St 56 w0 B0 a9 w9 B9 [(5,i6 i),(4,.val (zg 0)),(2,.val (zg 0)),(3,bv false),(0,.val (Lit (.string s)))] []:=H9
  obtain ⟨i0,i1,hd⟩:=hI9
  refine wp_seq ?_
  refine wp_seq ?_
  refine fr (refs:=[[.pre 0],[.pre 4],[.res 1],[.res 0,.res 2]]) (outs:=[.res 3]++pr 0 5) (als:=fs 4) (posts:=[i6 i,.val (Lit (.string s)),i6 ((s).size:Int),bv (decide (i<((s).size:Int)))])
   (out:=[(23,bv (decide (i<((s).size:Int)))),(5,i6 i),(4,.val (zg 0)),(2,.val (zg 0)),(3,bv false),(0,.val (Lit (.string s)))]) (nb:=[]) H9 4 [] rfl (by kernel_rfl) rfl rfl ?_ ?_
  ·refine cp (qh (.tmp 0 rfl)) ?_
   refine cp (qh (.tmp 0 rfl)) ?_
   refine cp (Cm Tryz.underlying9 (.tmp 0 rfl)) ?_
   refine cp (jq (.tmp 0 rfl) (.tmp 1 rfl) rfl) ?_
   exact .nil
  clear H9 a9 w9 B9
  intro a10 w10 B10 H10
  refine qi ?_
  refine qg ?_
  refine Aa H10 (.tmp 0 rfl) ?_ ?_
  ·intro hc11
   replace hc11:=of_decide_eq_true hc11
   refine wp_skip ?_
   refine qg ?_
   refine wp_seq ?_
   refine wp_block ?_
   refine wp_seq ?_
   refine fr (refs:=[[.pre 5],[.pre 1],[.res 0,.res 1],[.res 2],[.res 3],[.res 4,.pre 5],[.res 4,.pre 1],[.res 4,.res 5,.res 6],[.res 4,.res 7],[.res 4,.res 8]]) (outs:=[.res 9]++pr 1 5) (als:=fs 10) (posts:=[.val (Lit (.string s)),i6 i,.val (Lit (.int .u8 ((qf s)[i.toNat]?.getD 0))),bv (decide ((qf s)[i.toNat]?.getD 0<48)),bv (decide ((qf s)[i.toNat]?.getD 0<48)),.val (Grd ((decide ((qf s)[i.toNat]?.getD 0<48)) == false) (Lit (.string s))),.val (Grd ((decide ((qf s)[i.toNat]?.getD 0<48)) == false) (Lit (.int .i64 i))),.val (Grd ((decide ((qf s)[i.toNat]?.getD 0<48)) == false) (Lit (.int .u8 ((qf s)[i.toNat]?.getD 0)))),.val (Grd ((decide ((qf s)[i.toNat]?.getD 0<48)) == false) (IsB (decide (57<(qf s)[i.toNat]?.getD 0)))),bv ((decide ((qf s)[i.toNat]?.getD 0<48)) || (decide (57<(qf s)[i.toNat]?.getD 0)))])
    (out:=[(35,bv ((decide ((qf s)[i.toNat]?.getD 0<48)) || (decide (57<(qf s)[i.toNat]?.getD 0)))),(5,i6 i),(4,.val (zg 0)),(2,.val (zg 0)),(3,bv false),(0,.val (Lit (.string s)))]) (nb:=[]) H10 10 [] rfl (by kernel_rfl) rfl rfl ?_ ?_
   ·refine cp (qh (.tmp 0 rfl)) ?_
    refine cp (qh (.tmp 0 rfl)) ?_
    refine cp (Cj (n:=i.toNat) (c:=((qf s)[i.toNat]?.getD 0)) Tryz.underlying9 (.tmp 0 rfl) (.tmp 1 rfl) (by omega) (bytes_at s i.toNat (by omega))) ?_
    refine cp (jq (.tmp 0 rfl) (.lit) rfl) ?_
    refine cp (qh (.tmp 0 rfl)) ?_
    refine .cons (.sym 4 false (decide ((qf s)[i.toNat]?.getD 0<48)) ((decide ((qf s)[i.toNat]?.getD 0<48)) == false) rfl rfl rfl 0 (need':=[(30,bv (decide ((qf s)[i.toNat]?.getD 0<48))),(0,.val (Lit (.string s)))]) rfl rfl (fun a w B e h=>⟨h.1,h.2.1,trivial⟩) (fun e=>qh (.tmp 1 rfl))) ?_
    refine .cons (.sym 4 false (decide ((qf s)[i.toNat]?.getD 0<48)) ((decide ((qf s)[i.toNat]?.getD 0<48)) == false) rfl rfl rfl 0 (need':=[(30,bv (decide ((qf s)[i.toNat]?.getD 0<48))),(5,i6 i)]) rfl rfl (fun a w B e h=>⟨h.1,h.2.1,trivial⟩) (fun e=>qh (.tmp 1 rfl))) ?_
    refine .cons (.sym 4 false (decide ((qf s)[i.toNat]?.getD 0<48)) ((decide ((qf s)[i.toNat]?.getD 0<48)) == false) rfl rfl rfl 0 (need':=[(30,bv (decide ((qf s)[i.toNat]?.getD 0<48))),(31,.val (Lit (.string s))),(32,i6 i)]) rfl rfl (fun a w B e h=>⟨h.1,h.2.1.1 (e),h.2.2.1.1 (e),trivial⟩) (fun e=>Cj (n:=i.toNat) (c:=((qf s)[i.toNat]?.getD 0)) Tryz.underlying9 (.tmp 1 rfl) (.tmp 2 rfl) (by omega) (bytes_at s i.toNat (by omega)))) ?_
    refine .cons (.sym 4 false (decide ((qf s)[i.toNat]?.getD 0<48)) ((decide ((qf s)[i.toNat]?.getD 0<48)) == false) rfl rfl rfl 0 (need':=[(30,bv (decide ((qf s)[i.toNat]?.getD 0<48))),(33,.val (Lit (.int .u8 ((qf s)[i.toNat]?.getD 0))))]) rfl rfl (fun a w B e h=>⟨h.1,h.2.1.1 (e),trivial⟩) (fun e=>jq (.tmp 1 rfl) (.lit) rfl)) ?_
    refine cp (F8 (decide ((qf s)[i.toNat]?.getD 0<48)) (.tmp 0 rfl) (fun e=>Opd.eqB (.lit) (by rw [e];rfl)) (fun e=>Opd.eqB (Opd.grd (.tmp 1 rfl) (by first | (rw [e];rfl) | (simp only [e];rfl) | (simp [*] at *;done))) (by rw [e];rfl))) ?_
    exact .nil
   clear H10 a10 w10 B10
   intro a12 w12 B12 H12
   refine qi ?_
   refine qg ?_
   refine Aa H12 (.tmp 0 rfl) ?_ ?_
   ·intro hc13
    have hno:jh (qf s)=false:=Pq (i:=i.toNat) (by rw [zu];omega) (by rw [Bool.or_eq_true,decide_eq_true_eq,decide_eq_true_eq] at hc13;exact hc13)
    have n0:=(Ey hno).symm
    refine wp_seq ?_
    refine fr (refs:=[[],[]]) (outs:=[.res 0,.res 1,.pre 1,.pre 2,.pre 5]) (als:=fs 2) (posts:=[.val (zg 0),bv false])
     (out:=[(2,.val (zg 0)),(3,bv false),(5,i6 i),(4,.val (zg 0)),(0,.val (Lit (.string s)))]) (nb:=[]) H12 2 [] rfl (by kernel_rfl) rfl rfl ?_ ?_
    ·refine cp (qm (.const (fun w B=>Ej _ w B rfl))) ?_
     refine cp (qm (.lit)) ?_
     exact .nil
    clear H12 a12 w12 B12
    intro a14 w14 B14 H14
    refine qi ?_
    refine qg ?_
    refine wp_ret ?_
    refine D7 ?_
    refine yh ?_
    refine yh ?_
    refine D7 ?_
    refine yh ?_
    exact Dj H14 rfl rfl (.tmp 0 rfl (fun v w B h=>by exact Gi (by assumption) h) (.tmp 1 rfl (fun v w B h=>by exact Dl (by first | assumption | exact Eq.symm (by assumption)) h) (.nil)))
   ·intro hc13
    rw [Bool.or_eq_false_iff,decide_eq_false_iff_not,decide_eq_false_iff_not] at hc13
    have dg1:=qbx i0 hd hc13.1 hc13.2
    refine wp_skip ?_
    refine kw ?_
    refine qg ?_
    refine fr (refs:=[[.pre 1],[.res 0]]) (outs:=[.res 1]++pr 1 5) (als:=fs 2) (posts:=[i6 i,i6 (i+1)])
     (out:=[(25,i6 (i+1)),(5,i6 i),(4,.val (zg 0)),(2,.val (zg 0)),(3,bv false),(0,.val (Lit (.string s)))]) (nb:=[]) H12 2 [2] rfl (by kernel_rfl) rfl rfl ?_ ?_
    ·refine cp (qh (.tmp 0 rfl)) ?_
     refine cp (Aq (r:=(i+1)) (.tmp 0 rfl) (.lit) (xh (by omega))) ?_
     exact .nil
    clear H12 a12 w12 B12
    intro a15 w15 B15 H15
    refine zi ?_
    refine jm (D:=i6 (i+1)) (l':=[(5,i6 (i+1)),(25,i6 (i+1)),(4,.val (zg 0)),(2,.val (zg 0)),(3,bv false),(0,.val (Lit (.string s)))]) H15 rfl rfl rfl (.plain rfl (qm (.tmp 0 rfl))) rfl rfl ?_
    clear H15 a15 w15 B15
    intro a16 w16 B16 H16
    refine qi ?_
    exact ⟨i+1,B16,by exact ⟨by omega,by omega,dg1⟩,St.pick H16 [0,2,3,4,5] rfl,by omega⟩
  ·intro hc11
   replace hc11:=of_decide_eq_false hc11
   have hi:i=((qf s).length:Int):=by rw [zu];omega
   rw [hi] at hd
   have hD:=qfe hd
   have ne0:qf s≠[]:=fun e=>by have:=zu s;rw [e] at this;simp at this;omega
   refine wp_exit ?_
   refine jy ?_
   refine jy ?_
   refine Am ?_
   refine qg ?_
   refine wp_seq ?_
   refine wp_seq ?_
   refine fr (refs:=[[]]) (outs:=[.res 0]++pr 1 5) (als:=[false]) (posts:=[i6 0])
    (out:=[(6,i6 0),(5,i6 i),(4,.val (zg 0)),(2,.val (zg 0)),(3,bv false),(0,.val (Lit (.string s)))]) (nb:=[]) H10 1 [] rfl (by kernel_rfl) rfl rfl ?_ ?_
   ·refine cp (qm (.lit)) ?_
    exact .nil
   clear H10 a10 w10 B10
   intro a17 w17 B17 H17
   refine qi ?_
   refine qg ?_
   refine wp_block ?_
   refine Gq (fun (j:Int)=>[(6,i6 j),(5,i6 i),(4,.val (zg (jk ((qf s).take j.toNat)))),(2,.val (zg 0)),(3,bv false),(0,.val (Lit (.string s)))]) (fun (j:Int)=>0≤j∧j≤(s.size:Int)∧(dg 4294967296 (jk ((qf s).take j.toNat))).length≤262144) (fun (j:Int)=>((s.size:Int)-j).toNat) (0) (St.pick H17 [0,1,2,3,4,5] rfl) (by exact ⟨by omega,by omega,by show (dg 4294967296 0).length≤_;rw [Ak];exact Nat.zero_le _⟩) ?_
   clear H17 a17 w17 B17
   rintro j a18 w18 B18 hI18 H18
   replace hI18:0≤j∧j≤(s.size:Int)∧(dg 4294967296 (jk ((qf s).take j.toNat))).length≤262144:=hI18
   replace H18:St 56 w0 B0 a18 w18 B18 [(6,i6 j),(5,i6 i),(4,.val (zg (jk ((qf s).take j.toNat)))),(2,.val (zg 0)),(3,bv false),(0,.val (Lit (.string s)))] []:=H18
   obtain ⟨j0,j1,hl⟩:=hI18
   have hv:=Ez (qf s) hD j.toNat
   have hf:=qfh hv hl
   refine wp_seq ?_
   refine wp_seq ?_
   refine fr (refs:=[[.pre 0],[.pre 5],[.res 1],[.res 0,.res 2]]) (outs:=[.res 3]++pr 0 6) (als:=fs 4) (posts:=[i6 j,.val (Lit (.string s)),i6 ((s).size:Int),bv (decide (j<((s).size:Int)))])
    (out:=[(39,bv (decide (j<((s).size:Int)))),(6,i6 j),(5,i6 i),(4,.val (zg (jk ((qf s).take j.toNat)))),(2,.val (zg 0)),(3,bv false),(0,.val (Lit (.string s)))]) (nb:=[]) H18 4 [] rfl (by kernel_rfl) rfl rfl ?_ ?_
   ·refine cp (qh (.tmp 0 rfl)) ?_
    refine cp (qh (.tmp 0 rfl)) ?_
    refine cp (Cm Tryz.underlying9 (.tmp 0 rfl)) ?_
    refine cp (jq (.tmp 0 rfl) (.tmp 1 rfl) rfl) ?_
    exact .nil
   clear H18 a18 w18 B18
   intro a19 w19 B19 H19
   refine qi ?_
   refine qg ?_
   refine Aa H19 (.tmp 0 rfl) ?_ ?_
   ·intro hc20
    replace hc20:=of_decide_eq_true hc20
    have dgi:=hD.get (i:=j.toNat) (by rw [zu];omega)
    refine wp_skip ?_
    refine qg ?_
    refine wp_seq ?_
    refine wp_block ?_
    refine wp_seq ?_
    refine fd (refs:=[[.pre 3],[],[.res 0,.res 1],[.pre 6],[.pre 1],[.res 3,.res 4],[.res 5],[.res 6],[.res 7],[.res 2,.res 8]]) (outs:=[.res 9]++pr 1 6) (als:=fs 10) (posts:=[.val (zg (jk ((qf s).take j.toNat))),.val (IsM 10),.val (zg ((jk ((qf s).take j.toNat))*10)),.val (Lit (.string s)),i6 j,.val (Lit (.int .u8 ((qf s)[j.toNat]?.getD 0))),.val (Lit (.int .u8 (((qf s)[j.toNat]?.getD 0)-48))),.val (Lit (.int .u32 (((qf s)[j.toNat]?.getD 0)-48))),.val (IsM (((qf s)[j.toNat]?.getD 0)-48)),.val (zg (((jk ((qf s).take j.toNat))*10)+(((qf s)[j.toNat]?.getD 0)-48)))])
     (out:=[(51,.val (zg (((jk ((qf s).take j.toNat))*10)+(((qf s)[j.toNat]?.getD 0)-48)))),(6,i6 j),(5,i6 i),(4,.val (zg (jk ((qf s).take j.toNat)))),(2,.val (zg 0)),(3,bv false),(0,.val (Lit (.string s)))]) (nb:=[]) H19 (by kernel_rfl) 10 1 #[true,true,true,true,true,true,true,true,true,true,false] (by kernel_rfl) (by kernel_rfl) rfl rfl ?_ ?_
    ·refine cp (qh (.tmp 0 rfl)) ?_
     refine cp (Ui (by omega) (.lit)) ?_
     refine cp (zl (Qy (jk ((qf s).take j.toNat)) 10 (((hf.mul (yz.small (N:=10) (by decide)))).fits (by omega))) (.cons (.weak (.tmp 0 rfl) Di) (.cons (.tmp 1 rfl) (.nil)))) ?_
     refine cp (qh (.tmp 0 rfl)) ?_
     refine cp (qh (.tmp 0 rfl)) ?_
     refine cp (Cj (n:=j.toNat) (c:=((qf s)[j.toNat]?.getD 0)) Tryz.underlying9 (.tmp 0 rfl) (.tmp 1 rfl) (by omega) (bytes_at s j.toNat (by omega))) ?_
     refine cp (D6 (r:=(((qf s)[j.toNat]?.getD 0)-48)) (.tmp 0 rfl) (.lit) (qo0 (by omega))) ?_
     refine cp (Ee Tryz.underlying5 Tryz.underlying44 (r:=(((qf s)[j.toNat]?.getD 0)-48)) (.tmp 0 rfl) (Oc (by omega))) ?_
     refine cp (Ui (by omega) (.tmp 0 rfl)) ?_
     refine cp (zl (Qx ((jk ((qf s).take j.toNat))*10) (((qf s)[j.toNat]?.getD 0)-48) ((((hf.mul (yz.small (N:=10) (by decide))).add (yz.small (N:=((qf s)[j.toNat]?.getD 0)-48) (by omega)))).fits (by omega))) (.cons (.weak (.tmp 0 rfl) Di) (.cons (.tmp 1 rfl) (.nil)))) ?_
     exact .nil
    clear H19 a19 w19 B19
    intro a21 w21 B21 H21
    refine Az (l':=#[true,true,true,true,true,true,true,true,true,true,true]) 10 (by kernel_rfl) ?_
    refine jm (D:=.val (zg (((jk ((qf s).take j.toNat))*10)+(((qf s)[j.toNat]?.getD 0)-48)))) (l':=[(4,.val (zg (((jk ((qf s).take j.toNat))*10)+(((qf s)[j.toNat]?.getD 0)-48)))),(51,.val (zg (((jk ((qf s).take j.toNat))*10)+(((qf s)[j.toNat]?.getD 0)-48)))),(6,i6 j),(5,i6 i),(2,.val (zg 0)),(3,bv false),(0,.val (Lit (.string s)))]) H21 rfl rfl rfl (.plain rfl (qm (.tmp 0 rfl))) rfl rfl ?_
    clear H21 a21 w21 B21
    intro a22 w22 B22 H22
    refine Bh (by kernel_rfl) ?_
    refine qg ?_
    refine wp_seq ?_
    have H23:=St.set1 H22 0 (D':=zg (jk ((qf s).take (j+1).toNat))) rfl (fun v w B h=>Gi (Zi j0 (by rw [zu];omega)) h) (l':=[(4,.val (zg (jk ((qf s).take (j+1).toNat)))),(51,.val (zg (((jk ((qf s).take j.toNat))*10)+(((qf s)[j.toNat]?.getD 0)-48)))),(6,i6 j),(5,i6 i),(2,.val (zg 0)),(3,bv false),(0,.val (Lit (.string s)))]) rfl
    clear H22
    refine fr (refs:=[[.pre 0],[.res 0],[.res 1]]) (outs:=[.res 2,.pre 0]++pr 2 5) (als:=fs 3) (posts:=[.val (zg (jk ((qf s).take (j+1).toNat))),i6 ((dg 4294967296 (jk ((qf s).take (j+1).toNat))).length:Int),bv (decide (262144<((dg 4294967296 (jk ((qf s).take (j+1).toNat))).length:Int)))])
     (out:=[(54,bv (decide (262144<((dg 4294967296 (jk ((qf s).take (j+1).toNat))).length:Int)))),(4,.val (zg (jk ((qf s).take (j+1).toNat)))),(6,i6 j),(5,i6 i),(2,.val (zg 0)),(3,bv false),(0,.val (Lit (.string s)))]) (nb:=[]) H23 3 [] rfl (by kernel_rfl) rfl rfl ?_ ?_
    ·refine cp (qh (.tmp 0 rfl)) ?_
     refine cp (Gm (.weak (.tmp 0 rfl) Np)) ?_
     refine cp (jq (.tmp 0 rfl) (.lit) rfl) ?_
     exact .nil
    clear H23 a22 w22 B22
    intro a24 w24 B24 H24
    refine qi ?_
    refine qg ?_
    refine Aa H24 (.tmp 0 rfl) ?_ ?_
    ·intro hc25
     replace hc25:=of_decide_eq_true hc25
     have hno:=S9 hD _ hc25
     have n0:=(Ey hno).symm
     refine wp_seq ?_
     refine fr (refs:=[[],[]]) (outs:=[.res 0,.res 1]++pr 1 3++[.pre 6]) (als:=fs 2) (posts:=[.val (zg 0),bv false])
      (out:=[(2,.val (zg 0)),(3,bv false),(4,.val (zg (jk ((qf s).take (j+1).toNat)))),(6,i6 j),(5,i6 i),(0,.val (Lit (.string s)))]) (nb:=[]) H24 2 [] rfl (by kernel_rfl) rfl rfl ?_ ?_
     ·refine cp (qm (.const (fun w B=>Ej _ w B rfl))) ?_
      refine cp (qm (.lit)) ?_
      exact .nil
     clear H24 a24 w24 B24
     intro a26 w26 B26 H26
     refine qi ?_
     refine qg ?_
     refine wp_ret ?_
     refine D7 ?_
     refine yh ?_
     refine yh ?_
     refine D7 ?_
     refine yh ?_
     exact Dj H26 rfl rfl (.tmp 0 rfl (fun v w B h=>by exact Gi (by assumption) h) (.tmp 1 rfl (fun v w B h=>by exact Dl (by first | assumption | exact Eq.symm (by assumption)) h) (.nil)))
    ·intro hc25
     replace hc25:=of_decide_eq_false hc25
     refine wp_skip ?_
     refine kw ?_
     refine qg ?_
     refine fr (refs:=[[.pre 2],[.res 0]]) (outs:=[.res 1]++pr 1 6) (als:=fs 2) (posts:=[i6 j,i6 (j+1)])
      (out:=[(41,i6 (j+1)),(4,.val (zg (jk ((qf s).take (j+1).toNat)))),(6,i6 j),(5,i6 i),(2,.val (zg 0)),(3,bv false),(0,.val (Lit (.string s)))]) (nb:=[]) H24 2 [2] rfl (by kernel_rfl) rfl rfl ?_ ?_
     ·refine cp (qh (.tmp 0 rfl)) ?_
      refine cp (Aq (r:=(j+1)) (.tmp 0 rfl) (.lit) (xh (by omega))) ?_
      exact .nil
     clear H24 a24 w24 B24
     intro a27 w27 B27 H27
     refine zi ?_
     refine jm (D:=i6 (j+1)) (l':=[(6,i6 (j+1)),(41,i6 (j+1)),(4,.val (zg (jk ((qf s).take (j+1).toNat)))),(5,i6 i),(2,.val (zg 0)),(3,bv false),(0,.val (Lit (.string s)))]) H27 rfl rfl rfl (.plain rfl (qm (.tmp 0 rfl))) rfl rfl ?_
     clear H27 a27 w27 B27
     intro a28 w28 B28 H28
     refine qi ?_
     exact ⟨j+1,B28,by exact ⟨by omega,by omega,by omega⟩,St.pick H28 [0,3,2,4,5,6] rfl,by omega⟩
   ·intro hc20
    replace hc20:=of_decide_eq_false hc20
    have hj:j=((qf s).length:Int):=by rw [zu];omega
    have hyes:=Xc hD ne0 lead (by rw [hj,Int.toNat_natCast,List.take_length] at hl;exact hl)
    have nyes:jk ((qf s).take j.toNat)=qx (qf s):=by rw [hj,Int.toNat_natCast,List.take_length];exact (Sv hyes).symm
    refine wp_exit ?_
    refine jy ?_
    refine jy ?_
    refine Am ?_
    refine qg ?_
    refine wp_seq ?_
    refine fr (refs:=[[.pre 3],[.res 0],[]]) (outs:=[.res 1,.res 2]++pr 1 3++[.pre 6]) (als:=fs 3) (posts:=[.val (zg (jk ((qf s).take j.toNat))),.val (zg (jk ((qf s).take j.toNat))),bv true])
     (out:=[(2,.val (zg (jk ((qf s).take j.toNat)))),(3,bv true),(6,i6 j),(5,i6 i),(4,.val (zg (jk ((qf s).take j.toNat)))),(0,.val (Lit (.string s)))]) (nb:=[]) H19 3 [] rfl (by kernel_rfl) rfl rfl ?_ ?_
    ·refine cp (qh (.tmp 0 rfl)) ?_
     refine cp (qm (.tmp 0 rfl)) ?_
     refine cp (qm (.lit)) ?_
     exact .nil
    clear H19 a19 w19 B19
    intro a29 w29 B29 H29
    refine qi ?_
    refine qg ?_
    refine wp_ret ?_
    exact Dj H29 rfl rfl (.tmp 0 rfl (fun v w B h=>by exact Gi (by assumption) h) (.tmp 1 rfl (fun v w B h=>by exact Dl (by first | assumption | exact Eq.symm (by assumption)) h) (.nil)))
 ·have lead:(qf s)[0]?.getD 0=48→(qf s).length=1:=fun h=>absurd h c1
  refine fr (refs:=[[.pre 2],[.res 0],[.res 1],[.res 2],[.res 3,.pre 2],[.res 3,.res 4],[.res 3,.res 5],[.res 3,.res 6],[.res 7],[.res 7],[.res 7],[.res 3,.res 7],[.res 3,.res 11]]) (outs:=[.res 12]++pr 0 3) (als:=fs 13) (posts:=[.val (Lit (.string s)),i6 ((s).size:Int),bv false,bv false,.val (Lit (.string s)),.val (Lit (.int .u8 ((qf s)[0]?.getD 0))),bv false,bv false,.val (xk),.val (xk),.val (xk),bv false,bv false])
   (out:=[(19,bv false),(2,.val (zg 0)),(3,bv false),(0,.val (Lit (.string s)))]) (nb:=[]) H1 13 [] rfl (by kernel_rfl) rfl rfl ?_ ?_
  ·refine cp (qh (.tmp 0 rfl)) ?_
   refine cp (Cm Tryz.underlying9 (.tmp 0 rfl)) ?_
   refine cp (jq (b:=false) (.tmp 0 rfl) (.lit) ((decide_eq_false (c0)).symm)) ?_
   refine cp (qh (.tmp 0 rfl)) ?_
   refine .cons (.wanted 3 false rfl rfl rfl 0 rfl (qh (.tmp 1 rfl))) ?_
   refine .cons (.wanted 3 false rfl rfl rfl 0 rfl (Cj (n:=0) (c:=((qf s)[0]?.getD 0)) Tryz.underlying9 (.tmp 1 rfl) (.lit) (rfl) (bytes_at s 0 (by omega)))) ?_
   refine .cons (.wanted 3 false rfl rfl rfl 0 rfl (jq (b:=false) (.tmp 1 rfl) (.lit) ((decide_eq_false (c1)).symm))) ?_
   refine .cons (.wanted 3 false rfl rfl rfl 0 rfl (qh (.tmp 1 rfl))) ?_
   refine .cons (.unwanted 7 true rfl rfl rfl 0 rfl) ?_
   refine .cons (.unwanted 7 true rfl rfl rfl 0 rfl) ?_
   refine .cons (.unwanted 7 true rfl rfl rfl 0 rfl) ?_
   refine .cons (.wanted 3 false rfl rfl rfl 0 rfl (Cf (.tmp 1 rfl) (.lit))) ?_
   refine cp (Cf (.tmp 0 rfl) (.tmp 1 rfl)) ?_
   exact .nil
  clear H1 a1 w1 B1
  intro a30 w30 B30 H30
  refine qi ?_
  refine qg ?_
  refine Fq H30 (.tmp 0 rfl) ?_
  refine wp_skip ?_
  refine qg ?_
  refine wp_seq ?_
  refine fr (refs:=[[]]) (outs:=[.res 0]++pr 1 3) (als:=[false]) (posts:=[.val (zg 0)])
   (out:=[(4,.val (zg 0)),(2,.val (zg 0)),(3,bv false),(0,.val (Lit (.string s)))]) (nb:=[]) H30 1 [] rfl (by kernel_rfl) rfl rfl ?_ ?_
  ·refine cp (qm (.const (fun w B=>Ej _ w B rfl))) ?_
   exact .nil
  clear H30 a30 w30 B30
  intro a31 w31 B31 H31
  refine qi ?_
  refine qg ?_
  refine wp_seq ?_
  refine wp_seq ?_
  refine fr (refs:=[[]]) (outs:=[.res 0]++pr 0 4) (als:=[false]) (posts:=[i6 0])
   (out:=[(5,i6 0),(4,.val (zg 0)),(2,.val (zg 0)),(3,bv false),(0,.val (Lit (.string s)))]) (nb:=[]) H31 1 [] rfl (by kernel_rfl) rfl rfl ?_ ?_
  ·refine cp (qm (.lit)) ?_
   exact .nil
  clear H31 a31 w31 B31
  intro a32 w32 B32 H32
  refine qi ?_
  refine qg ?_
  refine wp_block ?_
  refine Gq (fun (i:Int)=>[(5,i6 i),(4,.val (zg 0)),(2,.val (zg 0)),(3,bv false),(0,.val (Lit (.string s)))]) (fun (i:Int)=>0≤i∧i≤(s.size:Int)∧Dgs (qf s) i) (fun (i:Int)=>((s.size:Int)-i).toNat) (0) (St.pick H32 [0,1,2,3,4] rfl) (by exact ⟨by omega,by omega,qby _⟩) ?_
  clear H32 a32 w32 B32
  rintro i a33 w33 B33 hI33 H33
  replace hI33:0≤i∧i≤(s.size:Int)∧Dgs (qf s) i:=hI33
  replace H33:St 56 w0 B0 a33 w33 B33 [(5,i6 i),(4,.val (zg 0)),(2,.val (zg 0)),(3,bv false),(0,.val (Lit (.string s)))] []:=H33
  obtain ⟨i0,i1,hd⟩:=hI33
  refine wp_seq ?_
  refine wp_seq ?_
  refine fr (refs:=[[.pre 0],[.pre 4],[.res 1],[.res 0,.res 2]]) (outs:=[.res 3]++pr 0 5) (als:=fs 4) (posts:=[i6 i,.val (Lit (.string s)),i6 ((s).size:Int),bv (decide (i<((s).size:Int)))])
   (out:=[(23,bv (decide (i<((s).size:Int)))),(5,i6 i),(4,.val (zg 0)),(2,.val (zg 0)),(3,bv false),(0,.val (Lit (.string s)))]) (nb:=[]) H33 4 [] rfl (by kernel_rfl) rfl rfl ?_ ?_
  ·refine cp (qh (.tmp 0 rfl)) ?_
   refine cp (qh (.tmp 0 rfl)) ?_
   refine cp (Cm Tryz.underlying9 (.tmp 0 rfl)) ?_
   refine cp (jq (.tmp 0 rfl) (.tmp 1 rfl) rfl) ?_
   exact .nil
  clear H33 a33 w33 B33
  intro a34 w34 B34 H34
  refine qi ?_
  refine qg ?_
  refine Aa H34 (.tmp 0 rfl) ?_ ?_
  ·intro hc35
   replace hc35:=of_decide_eq_true hc35
   refine wp_skip ?_
   refine qg ?_
   refine wp_seq ?_
   refine wp_block ?_
   refine wp_seq ?_
   refine fr (refs:=[[.pre 5],[.pre 1],[.res 0,.res 1],[.res 2],[.res 3],[.res 4,.pre 5],[.res 4,.pre 1],[.res 4,.res 5,.res 6],[.res 4,.res 7],[.res 4,.res 8]]) (outs:=[.res 9]++pr 1 5) (als:=fs 10) (posts:=[.val (Lit (.string s)),i6 i,.val (Lit (.int .u8 ((qf s)[i.toNat]?.getD 0))),bv (decide ((qf s)[i.toNat]?.getD 0<48)),bv (decide ((qf s)[i.toNat]?.getD 0<48)),.val (Grd ((decide ((qf s)[i.toNat]?.getD 0<48)) == false) (Lit (.string s))),.val (Grd ((decide ((qf s)[i.toNat]?.getD 0<48)) == false) (Lit (.int .i64 i))),.val (Grd ((decide ((qf s)[i.toNat]?.getD 0<48)) == false) (Lit (.int .u8 ((qf s)[i.toNat]?.getD 0)))),.val (Grd ((decide ((qf s)[i.toNat]?.getD 0<48)) == false) (IsB (decide (57<(qf s)[i.toNat]?.getD 0)))),bv ((decide ((qf s)[i.toNat]?.getD 0<48)) || (decide (57<(qf s)[i.toNat]?.getD 0)))])
    (out:=[(35,bv ((decide ((qf s)[i.toNat]?.getD 0<48)) || (decide (57<(qf s)[i.toNat]?.getD 0)))),(5,i6 i),(4,.val (zg 0)),(2,.val (zg 0)),(3,bv false),(0,.val (Lit (.string s)))]) (nb:=[]) H34 10 [] rfl (by kernel_rfl) rfl rfl ?_ ?_
   ·refine cp (qh (.tmp 0 rfl)) ?_
    refine cp (qh (.tmp 0 rfl)) ?_
    refine cp (Cj (n:=i.toNat) (c:=((qf s)[i.toNat]?.getD 0)) Tryz.underlying9 (.tmp 0 rfl) (.tmp 1 rfl) (by omega) (bytes_at s i.toNat (by omega))) ?_
    refine cp (jq (.tmp 0 rfl) (.lit) rfl) ?_
    refine cp (qh (.tmp 0 rfl)) ?_
    refine .cons (.sym 4 false (decide ((qf s)[i.toNat]?.getD 0<48)) ((decide ((qf s)[i.toNat]?.getD 0<48)) == false) rfl rfl rfl 0 (need':=[(30,bv (decide ((qf s)[i.toNat]?.getD 0<48))),(0,.val (Lit (.string s)))]) rfl rfl (fun a w B e h=>⟨h.1,h.2.1,trivial⟩) (fun e=>qh (.tmp 1 rfl))) ?_
    refine .cons (.sym 4 false (decide ((qf s)[i.toNat]?.getD 0<48)) ((decide ((qf s)[i.toNat]?.getD 0<48)) == false) rfl rfl rfl 0 (need':=[(30,bv (decide ((qf s)[i.toNat]?.getD 0<48))),(5,i6 i)]) rfl rfl (fun a w B e h=>⟨h.1,h.2.1,trivial⟩) (fun e=>qh (.tmp 1 rfl))) ?_
    refine .cons (.sym 4 false (decide ((qf s)[i.toNat]?.getD 0<48)) ((decide ((qf s)[i.toNat]?.getD 0<48)) == false) rfl rfl rfl 0 (need':=[(30,bv (decide ((qf s)[i.toNat]?.getD 0<48))),(31,.val (Lit (.string s))),(32,i6 i)]) rfl rfl (fun a w B e h=>⟨h.1,h.2.1.1 (e),h.2.2.1.1 (e),trivial⟩) (fun e=>Cj (n:=i.toNat) (c:=((qf s)[i.toNat]?.getD 0)) Tryz.underlying9 (.tmp 1 rfl) (.tmp 2 rfl) (by omega) (bytes_at s i.toNat (by omega)))) ?_
    refine .cons (.sym 4 false (decide ((qf s)[i.toNat]?.getD 0<48)) ((decide ((qf s)[i.toNat]?.getD 0<48)) == false) rfl rfl rfl 0 (need':=[(30,bv (decide ((qf s)[i.toNat]?.getD 0<48))),(33,.val (Lit (.int .u8 ((qf s)[i.toNat]?.getD 0))))]) rfl rfl (fun a w B e h=>⟨h.1,h.2.1.1 (e),trivial⟩) (fun e=>jq (.tmp 1 rfl) (.lit) rfl)) ?_
    refine cp (F8 (decide ((qf s)[i.toNat]?.getD 0<48)) (.tmp 0 rfl) (fun e=>Opd.eqB (.lit) (by rw [e];rfl)) (fun e=>Opd.eqB (Opd.grd (.tmp 1 rfl) (by first | (rw [e];rfl) | (simp only [e];rfl) | (simp [*] at *;done))) (by rw [e];rfl))) ?_
    exact .nil
   clear H34 a34 w34 B34
   intro a36 w36 B36 H36
   refine qi ?_
   refine qg ?_
   refine Aa H36 (.tmp 0 rfl) ?_ ?_
   ·intro hc37
    have hno:jh (qf s)=false:=Pq (i:=i.toNat) (by rw [zu];omega) (by rw [Bool.or_eq_true,decide_eq_true_eq,decide_eq_true_eq] at hc37;exact hc37)
    have n0:=(Ey hno).symm
    refine wp_seq ?_
    refine fr (refs:=[[],[]]) (outs:=[.res 0,.res 1,.pre 1,.pre 2,.pre 5]) (als:=fs 2) (posts:=[.val (zg 0),bv false])
     (out:=[(2,.val (zg 0)),(3,bv false),(5,i6 i),(4,.val (zg 0)),(0,.val (Lit (.string s)))]) (nb:=[]) H36 2 [] rfl (by kernel_rfl) rfl rfl ?_ ?_
    ·refine cp (qm (.const (fun w B=>Ej _ w B rfl))) ?_
     refine cp (qm (.lit)) ?_
     exact .nil
    clear H36 a36 w36 B36
    intro a38 w38 B38 H38
    refine qi ?_
    refine qg ?_
    refine wp_ret ?_
    refine D7 ?_
    refine yh ?_
    refine yh ?_
    refine D7 ?_
    refine yh ?_
    exact Dj H38 rfl rfl (.tmp 0 rfl (fun v w B h=>by exact Gi (by assumption) h) (.tmp 1 rfl (fun v w B h=>by exact Dl (by first | assumption | exact Eq.symm (by assumption)) h) (.nil)))
   ·intro hc37
    rw [Bool.or_eq_false_iff,decide_eq_false_iff_not,decide_eq_false_iff_not] at hc37
    have dg1:=qbx i0 hd hc37.1 hc37.2
    refine wp_skip ?_
    refine kw ?_
    refine qg ?_
    refine fr (refs:=[[.pre 1],[.res 0]]) (outs:=[.res 1]++pr 1 5) (als:=fs 2) (posts:=[i6 i,i6 (i+1)])
     (out:=[(25,i6 (i+1)),(5,i6 i),(4,.val (zg 0)),(2,.val (zg 0)),(3,bv false),(0,.val (Lit (.string s)))]) (nb:=[]) H36 2 [2] rfl (by kernel_rfl) rfl rfl ?_ ?_
    ·refine cp (qh (.tmp 0 rfl)) ?_
     refine cp (Aq (r:=(i+1)) (.tmp 0 rfl) (.lit) (xh (by omega))) ?_
     exact .nil
    clear H36 a36 w36 B36
    intro a39 w39 B39 H39
    refine zi ?_
    refine jm (D:=i6 (i+1)) (l':=[(5,i6 (i+1)),(25,i6 (i+1)),(4,.val (zg 0)),(2,.val (zg 0)),(3,bv false),(0,.val (Lit (.string s)))]) H39 rfl rfl rfl (.plain rfl (qm (.tmp 0 rfl))) rfl rfl ?_
    clear H39 a39 w39 B39
    intro a40 w40 B40 H40
    refine qi ?_
    exact ⟨i+1,B40,by exact ⟨by omega,by omega,dg1⟩,St.pick H40 [0,2,3,4,5] rfl,by omega⟩
  ·intro hc35
   replace hc35:=of_decide_eq_false hc35
   have hi:i=((qf s).length:Int):=by rw [zu];omega
   rw [hi] at hd
   have hD:=qfe hd
   have ne0:qf s≠[]:=fun e=>by have:=zu s;rw [e] at this;simp at this;omega
   refine wp_exit ?_
   refine jy ?_
   refine jy ?_
   refine Am ?_
   refine qg ?_
   refine wp_seq ?_
   refine wp_seq ?_
   refine fr (refs:=[[]]) (outs:=[.res 0]++pr 1 5) (als:=[false]) (posts:=[i6 0])
    (out:=[(6,i6 0),(5,i6 i),(4,.val (zg 0)),(2,.val (zg 0)),(3,bv false),(0,.val (Lit (.string s)))]) (nb:=[]) H34 1 [] rfl (by kernel_rfl) rfl rfl ?_ ?_
   ·refine cp (qm (.lit)) ?_
    exact .nil
   clear H34 a34 w34 B34
   intro a41 w41 B41 H41
   refine qi ?_
   refine qg ?_
   refine wp_block ?_
   refine Gq (fun (j:Int)=>[(6,i6 j),(5,i6 i),(4,.val (zg (jk ((qf s).take j.toNat)))),(2,.val (zg 0)),(3,bv false),(0,.val (Lit (.string s)))]) (fun (j:Int)=>0≤j∧j≤(s.size:Int)∧(dg 4294967296 (jk ((qf s).take j.toNat))).length≤262144) (fun (j:Int)=>((s.size:Int)-j).toNat) (0) (St.pick H41 [0,1,2,3,4,5] rfl) (by exact ⟨by omega,by omega,by show (dg 4294967296 0).length≤_;rw [Ak];exact Nat.zero_le _⟩) ?_
   clear H41 a41 w41 B41
   rintro j a42 w42 B42 hI42 H42
   replace hI42:0≤j∧j≤(s.size:Int)∧(dg 4294967296 (jk ((qf s).take j.toNat))).length≤262144:=hI42
   replace H42:St 56 w0 B0 a42 w42 B42 [(6,i6 j),(5,i6 i),(4,.val (zg (jk ((qf s).take j.toNat)))),(2,.val (zg 0)),(3,bv false),(0,.val (Lit (.string s)))] []:=H42
   obtain ⟨j0,j1,hl⟩:=hI42
   have hv:=Ez (qf s) hD j.toNat
   have hf:=qfh hv hl
   refine wp_seq ?_
   refine wp_seq ?_
   refine fr (refs:=[[.pre 0],[.pre 5],[.res 1],[.res 0,.res 2]]) (outs:=[.res 3]++pr 0 6) (als:=fs 4) (posts:=[i6 j,.val (Lit (.string s)),i6 ((s).size:Int),bv (decide (j<((s).size:Int)))])
    (out:=[(39,bv (decide (j<((s).size:Int)))),(6,i6 j),(5,i6 i),(4,.val (zg (jk ((qf s).take j.toNat)))),(2,.val (zg 0)),(3,bv false),(0,.val (Lit (.string s)))]) (nb:=[]) H42 4 [] rfl (by kernel_rfl) rfl rfl ?_ ?_
   ·refine cp (qh (.tmp 0 rfl)) ?_
    refine cp (qh (.tmp 0 rfl)) ?_
    refine cp (Cm Tryz.underlying9 (.tmp 0 rfl)) ?_
    refine cp (jq (.tmp 0 rfl) (.tmp 1 rfl) rfl) ?_
    exact .nil
   clear H42 a42 w42 B42
   intro a43 w43 B43 H43
   refine qi ?_
   refine qg ?_
   refine Aa H43 (.tmp 0 rfl) ?_ ?_
   ·intro hc44
    replace hc44:=of_decide_eq_true hc44
    have dgi:=hD.get (i:=j.toNat) (by rw [zu];omega)
    refine wp_skip ?_
    refine qg ?_
    refine wp_seq ?_
    refine wp_block ?_
    refine wp_seq ?_
    refine fd (refs:=[[.pre 3],[],[.res 0,.res 1],[.pre 6],[.pre 1],[.res 3,.res 4],[.res 5],[.res 6],[.res 7],[.res 2,.res 8]]) (outs:=[.res 9]++pr 1 6) (als:=fs 10) (posts:=[.val (zg (jk ((qf s).take j.toNat))),.val (IsM 10),.val (zg ((jk ((qf s).take j.toNat))*10)),.val (Lit (.string s)),i6 j,.val (Lit (.int .u8 ((qf s)[j.toNat]?.getD 0))),.val (Lit (.int .u8 (((qf s)[j.toNat]?.getD 0)-48))),.val (Lit (.int .u32 (((qf s)[j.toNat]?.getD 0)-48))),.val (IsM (((qf s)[j.toNat]?.getD 0)-48)),.val (zg (((jk ((qf s).take j.toNat))*10)+(((qf s)[j.toNat]?.getD 0)-48)))])
     (out:=[(51,.val (zg (((jk ((qf s).take j.toNat))*10)+(((qf s)[j.toNat]?.getD 0)-48)))),(6,i6 j),(5,i6 i),(4,.val (zg (jk ((qf s).take j.toNat)))),(2,.val (zg 0)),(3,bv false),(0,.val (Lit (.string s)))]) (nb:=[]) H43 (by kernel_rfl) 10 1 #[true,true,true,true,true,true,true,true,true,true,false] (by kernel_rfl) (by kernel_rfl) rfl rfl ?_ ?_
    ·refine cp (qh (.tmp 0 rfl)) ?_
     refine cp (Ui (by omega) (.lit)) ?_
     refine cp (zl (Qy (jk ((qf s).take j.toNat)) 10 (((hf.mul (yz.small (N:=10) (by decide)))).fits (by omega))) (.cons (.weak (.tmp 0 rfl) Di) (.cons (.tmp 1 rfl) (.nil)))) ?_
     refine cp (qh (.tmp 0 rfl)) ?_
     refine cp (qh (.tmp 0 rfl)) ?_
     refine cp (Cj (n:=j.toNat) (c:=((qf s)[j.toNat]?.getD 0)) Tryz.underlying9 (.tmp 0 rfl) (.tmp 1 rfl) (by omega) (bytes_at s j.toNat (by omega))) ?_
     refine cp (D6 (r:=(((qf s)[j.toNat]?.getD 0)-48)) (.tmp 0 rfl) (.lit) (qo0 (by omega))) ?_
     refine cp (Ee Tryz.underlying5 Tryz.underlying44 (r:=(((qf s)[j.toNat]?.getD 0)-48)) (.tmp 0 rfl) (Oc (by omega))) ?_
     refine cp (Ui (by omega) (.tmp 0 rfl)) ?_
     refine cp (zl (Qx ((jk ((qf s).take j.toNat))*10) (((qf s)[j.toNat]?.getD 0)-48) ((((hf.mul (yz.small (N:=10) (by decide))).add (yz.small (N:=((qf s)[j.toNat]?.getD 0)-48) (by omega)))).fits (by omega))) (.cons (.weak (.tmp 0 rfl) Di) (.cons (.tmp 1 rfl) (.nil)))) ?_
     exact .nil
    clear H43 a43 w43 B43
    intro a45 w45 B45 H45
    refine Az (l':=#[true,true,true,true,true,true,true,true,true,true,true]) 10 (by kernel_rfl) ?_
    refine jm (D:=.val (zg (((jk ((qf s).take j.toNat))*10)+(((qf s)[j.toNat]?.getD 0)-48)))) (l':=[(4,.val (zg (((jk ((qf s).take j.toNat))*10)+(((qf s)[j.toNat]?.getD 0)-48)))),(51,.val (zg (((jk ((qf s).take j.toNat))*10)+(((qf s)[j.toNat]?.getD 0)-48)))),(6,i6 j),(5,i6 i),(2,.val (zg 0)),(3,bv false),(0,.val (Lit (.string s)))]) H45 rfl rfl rfl (.plain rfl (qm (.tmp 0 rfl))) rfl rfl ?_
    clear H45 a45 w45 B45
    intro a46 w46 B46 H46
    refine Bh (by kernel_rfl) ?_
    refine qg ?_
    refine wp_seq ?_
    have H47:=St.set1 H46 0 (D':=zg (jk ((qf s).take (j+1).toNat))) rfl (fun v w B h=>Gi (Zi j0 (by rw [zu];omega)) h) (l':=[(4,.val (zg (jk ((qf s).take (j+1).toNat)))),(51,.val (zg (((jk ((qf s).take j.toNat))*10)+(((qf s)[j.toNat]?.getD 0)-48)))),(6,i6 j),(5,i6 i),(2,.val (zg 0)),(3,bv false),(0,.val (Lit (.string s)))]) rfl
    clear H46
    refine fr (refs:=[[.pre 0],[.res 0],[.res 1]]) (outs:=[.res 2,.pre 0]++pr 2 5) (als:=fs 3) (posts:=[.val (zg (jk ((qf s).take (j+1).toNat))),i6 ((dg 4294967296 (jk ((qf s).take (j+1).toNat))).length:Int),bv (decide (262144<((dg 4294967296 (jk ((qf s).take (j+1).toNat))).length:Int)))])
     (out:=[(54,bv (decide (262144<((dg 4294967296 (jk ((qf s).take (j+1).toNat))).length:Int)))),(4,.val (zg (jk ((qf s).take (j+1).toNat)))),(6,i6 j),(5,i6 i),(2,.val (zg 0)),(3,bv false),(0,.val (Lit (.string s)))]) (nb:=[]) H47 3 [] rfl (by kernel_rfl) rfl rfl ?_ ?_
    ·refine cp (qh (.tmp 0 rfl)) ?_
     refine cp (Gm (.weak (.tmp 0 rfl) Np)) ?_
     refine cp (jq (.tmp 0 rfl) (.lit) rfl) ?_
     exact .nil
    clear H47 a46 w46 B46
    intro a48 w48 B48 H48
    refine qi ?_
    refine qg ?_
    refine Aa H48 (.tmp 0 rfl) ?_ ?_
    ·intro hc49
     replace hc49:=of_decide_eq_true hc49
     have hno:=S9 hD _ hc49
     have n0:=(Ey hno).symm
     refine wp_seq ?_
     refine fr (refs:=[[],[]]) (outs:=[.res 0,.res 1]++pr 1 3++[.pre 6]) (als:=fs 2) (posts:=[.val (zg 0),bv false])
      (out:=[(2,.val (zg 0)),(3,bv false),(4,.val (zg (jk ((qf s).take (j+1).toNat)))),(6,i6 j),(5,i6 i),(0,.val (Lit (.string s)))]) (nb:=[]) H48 2 [] rfl (by kernel_rfl) rfl rfl ?_ ?_
     ·refine cp (qm (.const (fun w B=>Ej _ w B rfl))) ?_
      refine cp (qm (.lit)) ?_
      exact .nil
     clear H48 a48 w48 B48
     intro a50 w50 B50 H50
     refine qi ?_
     refine qg ?_
     refine wp_ret ?_
     refine D7 ?_
     refine yh ?_
     refine yh ?_
     refine D7 ?_
     refine yh ?_
     exact Dj H50 rfl rfl (.tmp 0 rfl (fun v w B h=>by exact Gi (by assumption) h) (.tmp 1 rfl (fun v w B h=>by exact Dl (by first | assumption | exact Eq.symm (by assumption)) h) (.nil)))
    ·intro hc49
     replace hc49:=of_decide_eq_false hc49
     refine wp_skip ?_
     refine kw ?_
     refine qg ?_
     refine fr (refs:=[[.pre 2],[.res 0]]) (outs:=[.res 1]++pr 1 6) (als:=fs 2) (posts:=[i6 j,i6 (j+1)])
      (out:=[(41,i6 (j+1)),(4,.val (zg (jk ((qf s).take (j+1).toNat)))),(6,i6 j),(5,i6 i),(2,.val (zg 0)),(3,bv false),(0,.val (Lit (.string s)))]) (nb:=[]) H48 2 [2] rfl (by kernel_rfl) rfl rfl ?_ ?_
     ·refine cp (qh (.tmp 0 rfl)) ?_
      refine cp (Aq (r:=(j+1)) (.tmp 0 rfl) (.lit) (xh (by omega))) ?_
      exact .nil
     clear H48 a48 w48 B48
     intro a51 w51 B51 H51
     refine zi ?_
     refine jm (D:=i6 (j+1)) (l':=[(6,i6 (j+1)),(41,i6 (j+1)),(4,.val (zg (jk ((qf s).take (j+1).toNat)))),(5,i6 i),(2,.val (zg 0)),(3,bv false),(0,.val (Lit (.string s)))]) H51 rfl rfl rfl (.plain rfl (qm (.tmp 0 rfl))) rfl rfl ?_
     clear H51 a51 w51 B51
     intro a52 w52 B52 H52
     refine qi ?_
     exact ⟨j+1,B52,by exact ⟨by omega,by omega,by omega⟩,St.pick H52 [0,3,2,4,5,6] rfl,by omega⟩
   ·intro hc44
    replace hc44:=of_decide_eq_false hc44
    have hj:j=((qf s).length:Int):=by rw [zu];omega
    have hyes:=Xc hD ne0 lead (by rw [hj,Int.toNat_natCast,List.take_length] at hl;exact hl)
    have nyes:jk ((qf s).take j.toNat)=qx (qf s):=by rw [hj,Int.toNat_natCast,List.take_length];exact (Sv hyes).symm
    refine wp_exit ?_
    refine jy ?_
    refine jy ?_
    refine Am ?_
    refine qg ?_
    refine wp_seq ?_
    refine fr (refs:=[[.pre 3],[.res 0],[]]) (outs:=[.res 1,.res 2]++pr 1 3++[.pre 6]) (als:=fs 3) (posts:=[.val (zg (jk ((qf s).take j.toNat))),.val (zg (jk ((qf s).take j.toNat))),bv true])
     (out:=[(2,.val (zg (jk ((qf s).take j.toNat)))),(3,bv true),(6,i6 j),(5,i6 i),(4,.val (zg (jk ((qf s).take j.toNat)))),(0,.val (Lit (.string s)))]) (nb:=[]) H43 3 [] rfl (by kernel_rfl) rfl rfl ?_ ?_
    ·refine cp (qh (.tmp 0 rfl)) ?_
     refine cp (qm (.tmp 0 rfl)) ?_
     refine cp (qm (.lit)) ?_
     exact .nil
    clear H43 a43 w43 B43
    intro a53 w53 B53 H53
    refine qi ?_
    refine qg ?_
    refine wp_ret ?_
    exact Dj H53 rfl rfl (.tmp 0 rfl (fun v w B h=>by exact Gi (by assumption) h) (.tmp 1 rfl (fun v w B h=>by exact Dl (by first | assumption | exact Eq.symm (by assumption)) h) (.nil)))
set_option maxRecDepth 20000 in
set_option maxHeartbeats 2000000 in
theorem qbs (s:ByteArray) (hs:s.size≤140737488351232):Con Tryz.prog 142 [Lit (.string s)] (Tup [zn (jf (qf s)),IsB (Bg (qf s))]):=by
 refine Ba (N:=41) Tryz.ntmps142 (fun _ _=>by go_simp) Tryz.func142 rfl (by simp) ?_
 intro a0 w0 B0 H0
 replace H0:St 41 w0 B0 a0 w0 B0 [(0,.val (Lit (.string s)))] []:=H0
 refine wp_seq ?_
 refine fr (refs:=[[],[]]) (outs:=[.res 0,.res 1,.pre 0]) (als:=[true,false]) (posts:=[.box 52 2 (qp),bv false])
  (out:=[(2,.box 52 2 (qp)),(3,bv false),(0,.val (Lit (.string s)))]) (nb:=[2]) H0 2 [] rfl (by kernel_rfl) rfl rfl ?_ ?_
 ·refine cp (yw (D:=qp) Dq rfl (fun _ _=>rfl)) ?_
  refine cp (qm (.lit)) ?_
  exact .nil
 clear H0
 intro a1 w1 B1 H1
 simp only [List.cons_append,List.nil_append] at H1
 refine qi ?_
 refine qg ?_
 refine wp_seq ?_
 refine fr (refs:=[[.pre 2],[.res 0],[.res 1],[.res 2],[.res 3,.pre 2],[.res 3,.res 4],[.res 3,.res 5],[.res 3,.res 6],[.res 7]]) (outs:=[.res 8]++pr 0 3) (als:=fs 9) (posts:=[.val (Lit (.string s)),i6 ((s).size:Int),bv (decide (0<((s).size:Int))),bv (decide (0<((s).size:Int))),.val (Grd ((decide (0<((s).size:Int))) == true) (Lit (.string s))),.val (Grd ((decide (0<((s).size:Int))) == true) (Lit (.int .u8 (List.getD (qf s) 0 0)))),.val (Grd ((decide (0<((s).size:Int))) == true) (IsB (decide (List.getD (qf s) 0 0=45)))),bv ((decide (0<((s).size:Int))) && (decide (List.getD (qf s) 0 0=45))),bv ((decide (0<((s).size:Int))) && (decide (List.getD (qf s) 0 0=45)))])
  (out:=[(4,bv ((decide (0<((s).size:Int))) && (decide (List.getD (qf s) 0 0=45)))),(2,.box 52 2 (qp)),(3,bv false),(0,.val (Lit (.string s)))]) (nb:=[]) H1 9 [] rfl (by kernel_rfl) rfl rfl ?_ ?_
 ·refine cp (qh (.tmp 0 rfl)) ?_
  refine cp (Cm Tryz.underlying9 (.tmp 0 rfl)) ?_
  refine cp (jq (.tmp 0 rfl) (.lit) rfl) ?_
  refine cp (qh (.tmp 0 rfl)) ?_
  refine .cons (.sym 3 true (decide (0<((s).size:Int))) ((decide (0<((s).size:Int))) == true) rfl rfl rfl 0 (need':=[(12,bv (decide (0<((s).size:Int)))),(0,.val (Lit (.string s)))]) rfl rfl (fun a w B e h=>⟨h.1,h.2.1,trivial⟩) (fun e=>qh (.tmp 1 rfl))) ?_
  refine .cons (.sym 3 true (decide (0<((s).size:Int))) ((decide (0<((s).size:Int))) == true) rfl rfl rfl 0 (need':=[(12,bv (decide (0<((s).size:Int)))),(13,.val (Lit (.string s)))]) rfl rfl (fun a w B e h=>⟨h.1,h.2.1.1 (e),trivial⟩) (fun e=>Cj (n:=0) (c:=(List.getD (qf s) 0 0)) Tryz.underlying9 (.tmp 1 rfl) (.lit) (rfl) (bytes_at s 0 (by first | omega | (simp at e;omega))))) ?_
  refine .cons (.sym 3 true (decide (0<((s).size:Int))) ((decide (0<((s).size:Int))) == true) rfl rfl rfl 0 (need':=[(12,bv (decide (0<((s).size:Int)))),(14,.val (Lit (.int .u8 (List.getD (qf s) 0 0))))]) rfl rfl (fun a w B e h=>⟨h.1,h.2.1.1 (e),trivial⟩) (fun e=>jq (.tmp 1 rfl) (.lit) rfl)) ?_
  refine cp (F8 (decide (0<((s).size:Int))) (.tmp 0 rfl) (fun e=>Opd.eqB (Opd.grd (.tmp 1 rfl) (by first | (rw [e];rfl) | (simp only [e];rfl) | (simp [*] at *;done))) (by rw [e];rfl)) (fun e=>Opd.eqB (.lit) (by rw [e];rfl))) ?_
  refine cp (qm (.tmp 0 rfl)) ?_
  exact .nil
 clear H1 a1 w1 B1
 intro a2 w2 B2 H2
 refine qi ?_
 refine qg ?_
 refine wp_seq ?_
 refine fr (refs:=[[.pre 3],[.res 0]]) (outs:=[.res 1]++pr 0 4) (als:=fs 2) (posts:=[.val (Lit (.string s)),.val (Lit (.string s))])
  (out:=[(5,.val (Lit (.string s))),(4,bv ((decide (0<((s).size:Int))) && (decide (List.getD (qf s) 0 0=45)))),(2,.box 52 2 (qp)),(3,bv false),(0,.val (Lit (.string s)))]) (nb:=[]) H2 2 [] rfl (by kernel_rfl) rfl rfl ?_ ?_
 ·refine cp (qh (.tmp 0 rfl)) ?_
  refine cp (qm (.tmp 0 rfl)) ?_
  exact .nil
 clear H2 a2 w2 B2
 intro a3 w3 B3 H3
 refine qi ?_
 refine qg ?_
 refine wp_seq ?_
 refine wp_seq ?_
 refine fr (refs:=[[.pre 1]]) (outs:=[.res 0]++pr 0 5) (als:=[false]) (posts:=[bv ((decide (0<((s).size:Int))) && (decide (List.getD (qf s) 0 0=45)))])
  (out:=[(18,bv ((decide (0<((s).size:Int))) && (decide (List.getD (qf s) 0 0=45)))),(5,.val (Lit (.string s))),(4,bv ((decide (0<((s).size:Int))) && (decide (List.getD (qf s) 0 0=45)))),(2,.box 52 2 (qp)),(3,bv false),(0,.val (Lit (.string s)))]) (nb:=[]) H3 1 [] rfl (by kernel_rfl) rfl rfl ?_ ?_
 ·refine cp (qh (.tmp 0 rfl)) ?_
  exact .nil
 clear H3 a3 w3 B3
 intro a4 w4 B4 H4
 refine qi ?_
 refine qg ?_
 refine Aa H4 (.tmp 0 rfl) ?_ ?_
 ·intro hc5
  have hb9:=hc5
  have eb6:((decide (0<((s).size:Int))) && (decide (List.getD (qf s) 0 0=45)))=true:=hb9
  rw [eb6] at H4
  have c9:=Bool.and_eq_true_iff.1 hb9
  have c0:=of_decide_eq_true c9.1
  have wm:=qc7 (cs:=qf s) (by rw [zu];omega) (of_decide_eq_true c9.2)
  rw [←Ve] at wm
  refine fr (refs:=[[.pre 5],[.res 0],[.res 1]]) (outs:=[.res 2]++pr 2 3) (als:=fs 3) (posts:=[.val (Lit (.string s)),.val (Lit (.string ((s).extract 1 (s).size))),.val (Lit (.string ((s).extract 1 (s).size)))])
   (out:=[(5,.val (Lit (.string ((s).extract 1 (s).size)))),(4,bv true),(2,.box 52 2 (qp)),(3,bv false)]) (nb:=[]) H4 3 [] rfl (by kernel_rfl) rfl rfl ?_ ?_
  ·refine cp (qh (.tmp 0 rfl)) ?_
   refine cp (Xa (n:=1) Tryz.underlying9 (.tmp 0 rfl) (.lit) (rfl) (by omega)) ?_
   refine cp (qm (.tmp 0 rfl)) ?_
   exact .nil
  clear H4 a4 w4 B4
  intro a7 w7 B7 H7
  refine qi ?_
  refine qg ?_
  refine wp_seq ?_
  refine fr (refs:=[[.pre 0],[.res 0],[.res 1],[.res 2],[.res 2],[.res 3],[.res 4]]) (outs:=[.res 5,.res 6]++pr 1 3) (als:=fs 7) (posts:=[.val (Lit (.string ((s).extract 1 (s).size))),.val (Tup [zg (qx (qf ((s).extract 1 (s).size))),IsB (jh (qf ((s).extract 1 (s).size)))]),.val (Tup [zg (qx (qf ((s).extract 1 (s).size))),IsB (jh (qf ((s).extract 1 (s).size)))]),.val (zg (qx (qf ((s).extract 1 (s).size)))),bv (jh (qf ((s).extract 1 (s).size))),.val (zg (qx (qf ((s).extract 1 (s).size)))),bv (jh (qf ((s).extract 1 (s).size)))])
   (out:=[(6,.val (zg (qx (qf ((s).extract 1 (s).size))))),(7,bv (jh (qf ((s).extract 1 (s).size)))),(4,bv true),(2,.box 52 2 (qp)),(3,bv false)]) (nb:=[]) H7 7 [] rfl (by kernel_rfl) rfl rfl ?_ ?_
  ·refine cp (qh (.tmp 0 rfl)) ?_
   refine cp (zl (Ry ((s).extract 1 (s).size) (by rw [ByteArray.size_extract];omega)) (.cons (.tmp 0 rfl) (.nil))) ?_
   refine cp (qh (.tmp 0 rfl)) ?_
   refine cp (zq 0 (.tmp 0 rfl) rfl) ?_
   refine cp (zq 1 (.tmp 0 rfl) rfl) ?_
   refine cp (qm (.tmp 0 rfl)) ?_
   refine cp (qm (.tmp 0 rfl)) ?_
   exact .nil
  clear H7 a7 w7 B7
  intro a8 w8 B8 H8
  refine qi ?_
  refine qg ?_
  refine wp_seq ?_
  rcases Xn (jh (qf ((s).extract 1 (s).size))) (qx (qf ((s).extract 1 (s).size))) with k0 | ⟨k0,k1⟩ | ⟨k0,k1⟩
  ·have v0:=Be (qf ((s).extract 1 (s).size))
   have eb9:(jh (qf ((s).extract 1 (s).size)))=false:=k0
   rw [eb9] at H8
   have e1:=(wm.2 (.inl k0)).1.symm
   have e2:=(wm.2 (.inl k0)).2.symm
   refine fr (refs:=[[.pre 2],[.pre 0],[.res 0,.res 1],[]]) (outs:=[.res 2,.res 3]++pr 0 5) (als:=[false,false,false,true]) (posts:=[bv true,.val (zg (qx (qf ((s).extract 1 (s).size)))),.val (IsN (sI true (qx (qf ((s).extract 1 (s).size))))),.box 52 2 (qp)])
    (out:=[(28,.val (IsN (sI true (qx (qf ((s).extract 1 (s).size)))))),(8,.box 52 2 (qp)),(6,.val (zg (qx (qf ((s).extract 1 (s).size))))),(7,bv false),(4,bv true),(2,.box 52 2 (qp)),(3,bv false)]) (nb:=[8]) H8 4 [4] rfl (by kernel_rfl) rfl rfl ?_ ?_
   ·refine cp (qh (.tmp 0 rfl)) ?_
    refine cp (qh (.tmp 0 rfl)) ?_
    refine cp (Ha (.tmp 0 rfl) (.weak (.tmp 1 rfl) Di)) ?_
    refine cp (yw (D:=qp) Dq rfl (fun _ _=>rfl)) ?_
    exact .nil
   clear H8 a8 w8 B8
   intro a10 w10 B10 H10
   simp only [List.cons_append,List.nil_append] at H10
   refine zi ?_
   refine ja (l':=[(28,.val (IsN (sI true (qx (qf ((s).extract 1 (s).size)))))),(8,.box 52 2 (IsN (sI true (qx (qf ((s).extract 1 (s).size)))))),(6,.val (zg (qx (qf ((s).extract 1 (s).size))))),(7,bv false),(4,bv true),(2,.box 52 2 (qp)),(3,bv false)]) 1 H10 rfl tyI rfl (.tmp 0 rfl) jl Bc rfl rfl ?_
   clear H10 w10
   intro w11 H11
   refine qi ?_
   refine qg ?_
   refine wp_seq ?_
   refine wp_seq ?_
   refine fr (refs:=[[.pre 3],[.res 0],[.res 1],[.res 2],[.res 2],[.res 4],[.res 4],[.res 4],[.res 2],[.res 2]]) (outs:=[.res 9,.pre 1,.pre 5,.pre 6]) (als:=fs 10) (posts:=[bv false,bv true,bv true,.val (xk),.val (xk),.val (xk),.val (xk),.val (xk),.val (xk),bv true])
    (out:=[(38,bv true),(8,.box 52 2 (IsN (sI true (qx (qf ((s).extract 1 (s).size)))))),(2,.box 52 2 (qp)),(3,bv false)]) (nb:=[]) H11 10 [] rfl (by kernel_rfl) rfl rfl ?_ ?_
   ·refine cp (qh (.tmp 0 rfl)) ?_
    refine cp (Eh (b:=false) (.tmp 0 rfl)) ?_
    refine cp (qh (.tmp 0 rfl)) ?_
    refine .cons (.unwanted 2 false rfl rfl rfl 0 rfl) ?_
    refine .cons (.unwanted 2 false rfl rfl rfl 0 rfl) ?_
    refine .cons (.unasked 4 true rfl rfl rfl 0 rfl) ?_
    refine .cons (.unasked 4 true rfl rfl rfl 0 rfl) ?_
    refine .cons (.unasked 4 true rfl rfl rfl 0 rfl) ?_
    refine .cons (.unwanted 2 false rfl rfl rfl 0 rfl) ?_
    refine cp (Gx (.tmp 0 rfl) (.lit)) ?_
    exact .nil
   clear H11 a10 w11 B10
   intro a12 w12 B12 H12
   refine qi ?_
   refine qg ?_
   refine Iq H12 (.tmp 0 rfl) ?_
   refine wp_seq ?_
   refine fr (refs:=[[]]) (outs:=[.res 0]++pr 1 3) (als:=[false]) (posts:=[.val (qp)])
    (out:=[(39,.val (qp)),(8,.box 52 2 (IsN (sI true (qx (qf ((s).extract 1 (s).size)))))),(2,.box 52 2 (qp)),(3,bv false)]) (nb:=[]) H12 1 [1,2] rfl (by kernel_rfl) rfl rfl ?_ ?_
   ·refine cp (Il) ?_
    exact .nil
   clear H12 a12 w12 B12
   intro a13 w13 B13 H13
   refine zi ?_
   refine ja (l':=[(39,.val (qp)),(8,.box 52 2 (IsN (sI true (qx (qf ((s).extract 1 (s).size)))))),(2,.box 52 2 (qp)),(3,bv false)]) 2 H13 rfl tyI rfl (.tmp 0 rfl) jl jl rfl rfl ?_
   clear H13 w13
   intro w14 H14
   refine zi ?_
   refine jm (D:=bv false) (l':=[(3,bv false),(39,.val (qp)),(8,.box 52 2 (IsN (sI true (qx (qf ((s).extract 1 (s).size)))))),(2,.box 52 2 (qp))]) H14 rfl rfl rfl (.plain rfl (qm (.lit))) rfl rfl ?_
   clear H14 a13 w14 B13
   intro a15 w15 B15 H15
   refine qi ?_
   refine qg ?_
   refine wp_ret ?_
   refine yh ?_
   exact Dj H15 rfl rfl (.cell 3 tyI rfl (fun v w B h=>yj (by assumption) (Qr v w B h)) (.tmp 0 rfl (fun v w B h=>by exact Dl (by assumption) h) (.nil)))
  ·have v0:=Be (qf ((s).extract 1 (s).size))
   have eb16:(jh (qf ((s).extract 1 (s).size)))=true:=k0
   rw [eb16] at H8
   have e1:=(wm.2 (.inr k1)).1.symm
   have e2:=(wm.2 (.inr k1)).2.symm
   refine fr (refs:=[[.pre 2],[.pre 0],[.res 0,.res 1],[]]) (outs:=[.res 2,.res 3]++pr 0 5) (als:=[false,false,false,true]) (posts:=[bv true,.val (zg (qx (qf ((s).extract 1 (s).size)))),.val (IsN (sI true (qx (qf ((s).extract 1 (s).size))))),.box 52 2 (qp)])
    (out:=[(28,.val (IsN (sI true (qx (qf ((s).extract 1 (s).size)))))),(8,.box 52 2 (qp)),(6,.val (zg (qx (qf ((s).extract 1 (s).size))))),(7,bv true),(4,bv true),(2,.box 52 2 (qp)),(3,bv false)]) (nb:=[8]) H8 4 [4] rfl (by kernel_rfl) rfl rfl ?_ ?_
   ·refine cp (qh (.tmp 0 rfl)) ?_
    refine cp (qh (.tmp 0 rfl)) ?_
    refine cp (Ha (.tmp 0 rfl) (.weak (.tmp 1 rfl) Di)) ?_
    refine cp (yw (D:=qp) Dq rfl (fun _ _=>rfl)) ?_
    exact .nil
   clear H8 a8 w8 B8
   intro a17 w17 B17 H17
   simp only [List.cons_append,List.nil_append] at H17
   refine zi ?_
   refine ja (l':=[(28,.val (IsN (sI true (qx (qf ((s).extract 1 (s).size)))))),(8,.box 52 2 (IsN (sI true (qx (qf ((s).extract 1 (s).size)))))),(6,.val (zg (qx (qf ((s).extract 1 (s).size))))),(7,bv true),(4,bv true),(2,.box 52 2 (qp)),(3,bv false)]) 1 H17 rfl tyI rfl (.tmp 0 rfl) jl Bc rfl rfl ?_
   clear H17 w17
   intro w18 H18
   refine qi ?_
   refine qg ?_
   refine wp_seq ?_
   refine wp_seq ?_
   refine fr (refs:=[[.pre 3],[.res 0],[.res 1],[.res 2,.pre 4],[.res 2,.res 3],[.res 4,.pre 2],[.res 4,.res 5],[.res 4,.res 6],[.res 2,.res 4,.res 7],[.res 2,.res 8]]) (outs:=[.res 9,.pre 1,.pre 5,.pre 6]) (als:=fs 10) (posts:=[bv true,bv false,bv false,bv true,bv true,.val (zg (qx (qf ((s).extract 1 (s).size)))),i6 ((dg 4294967296 (qx (qf ((s).extract 1 (s).size)))).length:Int),bv true,bv true,bv true])
    (out:=[(38,bv true),(8,.box 52 2 (IsN (sI true (qx (qf ((s).extract 1 (s).size)))))),(2,.box 52 2 (qp)),(3,bv false)]) (nb:=[]) H18 10 [] rfl (by kernel_rfl) rfl rfl ?_ ?_
   ·refine cp (qh (.tmp 0 rfl)) ?_
    refine cp (Eh (b:=true) (.tmp 0 rfl)) ?_
    refine cp (qh (.tmp 0 rfl)) ?_
    refine .cons (.wanted 2 false rfl rfl rfl 0 rfl (qh (.tmp 1 rfl))) ?_
    refine .cons (.wanted 2 false rfl rfl rfl 0 rfl (qh (.tmp 1 rfl))) ?_
    refine .cons (.wanted 4 true rfl rfl rfl 0 rfl (qh (.tmp 1 rfl))) ?_
    refine .cons (.wanted 4 true rfl rfl rfl 0 rfl (Gm (.weak (.tmp 1 rfl) Np))) ?_
    refine .cons (.wanted 4 true rfl rfl rfl 0 rfl (jq (b:=true) (.tmp 1 rfl) (.lit) ((decide_eq_true ((Fz v0).2 k1)).symm))) ?_
    refine .cons (.wanted 2 false rfl rfl rfl 0 rfl (Gx (.tmp 1 rfl) (.tmp 2 rfl))) ?_
    refine cp (Cf (.tmp 0 rfl) (.tmp 1 rfl)) ?_
    exact .nil
   clear H18 a17 w18 B17
   intro a19 w19 B19 H19
   refine qi ?_
   refine qg ?_
   refine Iq H19 (.tmp 0 rfl) ?_
   refine wp_seq ?_
   refine fr (refs:=[[]]) (outs:=[.res 0]++pr 1 3) (als:=[false]) (posts:=[.val (qp)])
    (out:=[(39,.val (qp)),(8,.box 52 2 (IsN (sI true (qx (qf ((s).extract 1 (s).size)))))),(2,.box 52 2 (qp)),(3,bv false)]) (nb:=[]) H19 1 [1,2] rfl (by kernel_rfl) rfl rfl ?_ ?_
   ·refine cp (Il) ?_
    exact .nil
   clear H19 a19 w19 B19
   intro a20 w20 B20 H20
   refine zi ?_
   refine ja (l':=[(39,.val (qp)),(8,.box 52 2 (IsN (sI true (qx (qf ((s).extract 1 (s).size)))))),(2,.box 52 2 (qp)),(3,bv false)]) 2 H20 rfl tyI rfl (.tmp 0 rfl) jl jl rfl rfl ?_
   clear H20 w20
   intro w21 H21
   refine zi ?_
   refine jm (D:=bv false) (l':=[(3,bv false),(39,.val (qp)),(8,.box 52 2 (IsN (sI true (qx (qf ((s).extract 1 (s).size)))))),(2,.box 52 2 (qp))]) H21 rfl rfl rfl (.plain rfl (qm (.lit))) rfl rfl ?_
   clear H21 a20 w21 B20
   intro a22 w22 B22 H22
   refine qi ?_
   refine qg ?_
   refine wp_ret ?_
   refine yh ?_
   exact Dj H22 rfl rfl (.cell 3 tyI rfl (fun v w B h=>yj (by assumption) (Qr v w B h)) (.tmp 0 rfl (fun v w B h=>by exact Dl (by assumption) h) (.nil)))
  ·have v0:=Be (qf ((s).extract 1 (s).size))
   have eb23:(jh (qf ((s).extract 1 (s).size)))=true:=k0
   rw [eb23] at H8
   have e1:=(wm.1 k0 k1).1.symm
   have e2:=(wm.1 k0 k1).2.symm
   refine fr (refs:=[[.pre 2],[.pre 0],[.res 0,.res 1],[]]) (outs:=[.res 2,.res 3]++pr 0 5) (als:=[false,false,false,true]) (posts:=[bv true,.val (zg (qx (qf ((s).extract 1 (s).size)))),.val (zn (-(qx (qf ((s).extract 1 (s).size))))),.box 52 2 (qp)])
    (out:=[(28,.val (zn (-(qx (qf ((s).extract 1 (s).size)))))),(8,.box 52 2 (qp)),(6,.val (zg (qx (qf ((s).extract 1 (s).size))))),(7,bv true),(4,bv true),(2,.box 52 2 (qp)),(3,bv false)]) (nb:=[8]) H8 4 [4] rfl (by kernel_rfl) rfl rfl ?_ ?_
   ·refine cp (qh (.tmp 0 rfl)) ?_
    refine cp (qh (.tmp 0 rfl)) ?_
    refine cp (He (N:=-(qx (qf ((s).extract 1 (s).size)))) (.tmp 0 rfl) (.tmp 1 rfl) (decide_eq_true (by omega)).symm (by omega)) ?_
    refine cp (yw (D:=qp) Dq rfl (fun _ _=>rfl)) ?_
    exact .nil
   clear H8 a8 w8 B8
   intro a24 w24 B24 H24
   simp only [List.cons_append,List.nil_append] at H24
   refine zi ?_
   refine ja (l':=[(28,.val (zn (-(qx (qf ((s).extract 1 (s).size)))))),(8,.box 52 2 (zn (-(qx (qf ((s).extract 1 (s).size)))))),(6,.val (zg (qx (qf ((s).extract 1 (s).size))))),(7,bv true),(4,bv true),(2,.box 52 2 (qp)),(3,bv false)]) 1 H24 rfl tyI rfl (.tmp 0 rfl) jl ve rfl rfl ?_
   clear H24 w24
   intro w25 H25
   refine qi ?_
   refine qg ?_
   refine wp_seq ?_
   refine wp_seq ?_
   refine fr (refs:=[[.pre 3],[.res 0],[.res 1],[.res 2,.pre 4],[.res 2,.res 3],[.res 4,.pre 2],[.res 4,.res 5],[.res 4,.res 6],[.res 2,.res 4,.res 7],[.res 2,.res 8]]) (outs:=[.res 9,.pre 1,.pre 5,.pre 6]) (als:=fs 10) (posts:=[bv true,bv false,bv false,bv true,bv true,.val (zg (qx (qf ((s).extract 1 (s).size)))),i6 ((dg 4294967296 (qx (qf ((s).extract 1 (s).size)))).length:Int),bv false,bv false,bv false])
    (out:=[(38,bv false),(8,.box 52 2 (zn (-(qx (qf ((s).extract 1 (s).size)))))),(2,.box 52 2 (qp)),(3,bv false)]) (nb:=[]) H25 10 [] rfl (by kernel_rfl) rfl rfl ?_ ?_
   ·refine cp (qh (.tmp 0 rfl)) ?_
    refine cp (Eh (b:=true) (.tmp 0 rfl)) ?_
    refine cp (qh (.tmp 0 rfl)) ?_
    refine .cons (.wanted 2 false rfl rfl rfl 0 rfl (qh (.tmp 1 rfl))) ?_
    refine .cons (.wanted 2 false rfl rfl rfl 0 rfl (qh (.tmp 1 rfl))) ?_
    refine .cons (.wanted 4 true rfl rfl rfl 0 rfl (qh (.tmp 1 rfl))) ?_
    refine .cons (.wanted 4 true rfl rfl rfl 0 rfl (Gm (.weak (.tmp 1 rfl) Np))) ?_
    refine .cons (.wanted 4 true rfl rfl rfl 0 rfl (jq (b:=false) (.tmp 1 rfl) (.lit) ((decide_eq_false (fun h=>k1 ((Fz v0).1 h))).symm))) ?_
    refine .cons (.wanted 2 false rfl rfl rfl 0 rfl (Gx (.tmp 1 rfl) (.tmp 2 rfl))) ?_
    refine cp (Cf (.tmp 0 rfl) (.tmp 1 rfl)) ?_
    exact .nil
   clear H25 a24 w25 B24
   intro a26 w26 B26 H26
   refine qi ?_
   refine qg ?_
   refine Fq H26 (.tmp 0 rfl) ?_
   refine wp_skip ?_
   refine qg ?_
   refine wp_seq ?_
   refine fr (refs:=[[.pre 1]]) (outs:=[.res 0,.pre 2,.pre 3]) (als:=[false]) (posts:=[.val (zn (-(qx (qf ((s).extract 1 (s).size)))))])
    (out:=[(40,.val (zn (-(qx (qf ((s).extract 1 (s).size)))))),(2,.box 52 2 (qp)),(3,bv false)]) (nb:=[]) H26 1 [1,2] rfl (by kernel_rfl) rfl rfl ?_ ?_
   ·refine cp (zo tyI (.tmp 0 rfl)) ?_
    exact .nil
   clear H26 a26 w26 B26
   intro a27 w27 B27 H27
   refine zi ?_
   refine ja (l':=[(40,.val (zn (-(qx (qf ((s).extract 1 (s).size)))))),(2,.box 52 2 (zn (-(qx (qf ((s).extract 1 (s).size)))))),(3,bv false)]) 1 H27 rfl tyI rfl (.tmp 0 rfl) jl ve rfl rfl ?_
   clear H27 w27
   intro w28 H28
   refine zi ?_
   refine jm (D:=bv true) (l':=[(3,bv true),(40,.val (zn (-(qx (qf ((s).extract 1 (s).size)))))),(2,.box 52 2 (zn (-(qx (qf ((s).extract 1 (s).size))))))]) H28 rfl rfl rfl (.plain rfl (qm (.lit))) rfl rfl ?_
   clear H28 a27 w28 B27
   intro a29 w29 B29 H29
   refine qi ?_
   refine qg ?_
   refine wp_ret ?_
   exact Dj H29 rfl rfl (.cell 2 tyI rfl (fun v w B h=>by exact yj (by assumption) h) (.tmp 0 rfl (fun v w B h=>by exact Dl (by assumption) h) (.nil)))
 ·intro hc5
  have hb9:=hc5
  have eb30:((decide (0<((s).size:Int))) && (decide (List.getD (qf s) 0 0=45)))=false:=hb9
  rw [eb30] at H4
  have wp:=qc8 (cs:=qf s) (by have h8:=hb9;rw [Bool.and_eq_false_iff,decide_eq_false_iff_not,decide_eq_false_iff_not] at h8;exact h8.elim (fun h8=>.inl (by rw [zu];omega)) (fun h8=>.inr h8))
  refine wp_skip ?_
  refine qg ?_
  refine wp_seq ?_
  refine fr (refs:=[[.pre 1],[.res 0],[.res 1],[.res 2],[.res 2],[.res 3],[.res 4]]) (outs:=[.res 5,.res 6]++pr 2 3) (als:=fs 7) (posts:=[.val (Lit (.string s)),.val (Tup [zg (qx (qf s)),IsB (jh (qf s))]),.val (Tup [zg (qx (qf s)),IsB (jh (qf s))]),.val (zg (qx (qf s))),bv (jh (qf s)),.val (zg (qx (qf s))),bv (jh (qf s))])
   (out:=[(6,.val (zg (qx (qf s)))),(7,bv (jh (qf s))),(4,bv false),(2,.box 52 2 (qp)),(3,bv false)]) (nb:=[]) H4 7 [] rfl (by kernel_rfl) rfl rfl ?_ ?_
  ·refine cp (qh (.tmp 0 rfl)) ?_
   refine cp (zl (Ry s (by omega)) (.cons (.tmp 0 rfl) (.nil))) ?_
   refine cp (qh (.tmp 0 rfl)) ?_
   refine cp (zq 0 (.tmp 0 rfl) rfl) ?_
   refine cp (zq 1 (.tmp 0 rfl) rfl) ?_
   refine cp (qm (.tmp 0 rfl)) ?_
   refine cp (qm (.tmp 0 rfl)) ?_
   exact .nil
  clear H4 a4 w4 B4
  intro a31 w31 B31 H31
  refine qi ?_
  refine qg ?_
  refine wp_seq ?_
  rcases Xn (jh (qf s)) (qx (qf s)) with k0 | ⟨k0,k1⟩ | ⟨k0,k1⟩
  ·have v0:=Be (qf s)
   have eb32:(jh (qf s))=false:=k0
   rw [eb32] at H31
   have e1:=(wp.1.trans k0).symm
   have e2:=(wp.2.trans (Ey k0)).symm
   refine fr (refs:=[[.pre 2],[.pre 0],[.res 0,.res 1],[]]) (outs:=[.res 2,.res 3]++pr 0 5) (als:=[false,false,false,true]) (posts:=[bv false,.val (zg (qx (qf s))),.val (zn (qx (qf s))),.box 52 2 (qp)])
    (out:=[(28,.val (zn (qx (qf s)))),(8,.box 52 2 (qp)),(6,.val (zg (qx (qf s)))),(7,bv false),(4,bv false),(2,.box 52 2 (qp)),(3,bv false)]) (nb:=[8]) H31 4 [4] rfl (by kernel_rfl) rfl rfl ?_ ?_
   ·refine cp (qh (.tmp 0 rfl)) ?_
    refine cp (qh (.tmp 0 rfl)) ?_
    refine cp (He (N:=qx (qf s)) (.tmp 0 rfl) (.tmp 1 rfl) (decide_eq_false (by omega)).symm (by omega)) ?_
    refine cp (yw (D:=qp) Dq rfl (fun _ _=>rfl)) ?_
    exact .nil
   clear H31 a31 w31 B31
   intro a33 w33 B33 H33
   simp only [List.cons_append,List.nil_append] at H33
   refine zi ?_
   refine ja (l':=[(28,.val (zn (qx (qf s)))),(8,.box 52 2 (zn (qx (qf s)))),(6,.val (zg (qx (qf s)))),(7,bv false),(4,bv false),(2,.box 52 2 (qp)),(3,bv false)]) 1 H33 rfl tyI rfl (.tmp 0 rfl) jl ve rfl rfl ?_
   clear H33 w33
   intro w34 H34
   refine qi ?_
   refine qg ?_
   refine wp_seq ?_
   refine wp_seq ?_
   refine fr (refs:=[[.pre 3],[.res 0],[.res 1],[.res 2],[.res 2],[.res 4],[.res 4],[.res 4],[.res 2],[.res 2]]) (outs:=[.res 9,.pre 1,.pre 5,.pre 6]) (als:=fs 10) (posts:=[bv false,bv true,bv true,.val (xk),.val (xk),.val (xk),.val (xk),.val (xk),.val (xk),bv true])
    (out:=[(38,bv true),(8,.box 52 2 (zn (qx (qf s)))),(2,.box 52 2 (qp)),(3,bv false)]) (nb:=[]) H34 10 [] rfl (by kernel_rfl) rfl rfl ?_ ?_
   ·refine cp (qh (.tmp 0 rfl)) ?_
    refine cp (Eh (b:=false) (.tmp 0 rfl)) ?_
    refine cp (qh (.tmp 0 rfl)) ?_
    refine .cons (.unwanted 2 false rfl rfl rfl 0 rfl) ?_
    refine .cons (.unwanted 2 false rfl rfl rfl 0 rfl) ?_
    refine .cons (.unasked 4 true rfl rfl rfl 0 rfl) ?_
    refine .cons (.unasked 4 true rfl rfl rfl 0 rfl) ?_
    refine .cons (.unasked 4 true rfl rfl rfl 0 rfl) ?_
    refine .cons (.unwanted 2 false rfl rfl rfl 0 rfl) ?_
    refine cp (Gx (.tmp 0 rfl) (.lit)) ?_
    exact .nil
   clear H34 a33 w34 B33
   intro a35 w35 B35 H35
   refine qi ?_
   refine qg ?_
   refine Iq H35 (.tmp 0 rfl) ?_
   refine wp_seq ?_
   refine fr (refs:=[[]]) (outs:=[.res 0]++pr 1 3) (als:=[false]) (posts:=[.val (qp)])
    (out:=[(39,.val (qp)),(8,.box 52 2 (zn (qx (qf s)))),(2,.box 52 2 (qp)),(3,bv false)]) (nb:=[]) H35 1 [1,2] rfl (by kernel_rfl) rfl rfl ?_ ?_
   ·refine cp (Il) ?_
    exact .nil
   clear H35 a35 w35 B35
   intro a36 w36 B36 H36
   refine zi ?_
   refine ja (l':=[(39,.val (qp)),(8,.box 52 2 (zn (qx (qf s)))),(2,.box 52 2 (qp)),(3,bv false)]) 2 H36 rfl tyI rfl (.tmp 0 rfl) jl jl rfl rfl ?_
   clear H36 w36
   intro w37 H37
   refine zi ?_
   refine jm (D:=bv false) (l':=[(3,bv false),(39,.val (qp)),(8,.box 52 2 (zn (qx (qf s)))),(2,.box 52 2 (qp))]) H37 rfl rfl rfl (.plain rfl (qm (.lit))) rfl rfl ?_
   clear H37 a36 w37 B36
   intro a38 w38 B38 H38
   refine qi ?_
   refine qg ?_
   refine wp_ret ?_
   refine yh ?_
   exact Dj H38 rfl rfl (.cell 3 tyI rfl (fun v w B h=>yj (by assumption) (Qr v w B h)) (.tmp 0 rfl (fun v w B h=>by exact Dl (by assumption) h) (.nil)))
  ·have v0:=Be (qf s)
   have eb39:(jh (qf s))=true:=k0
   rw [eb39] at H31
   have e1:=(wp.1.trans k0).symm
   have e2:=wp.2.symm
   refine fr (refs:=[[.pre 2],[.pre 0],[.res 0,.res 1],[]]) (outs:=[.res 2,.res 3]++pr 0 5) (als:=[false,false,false,true]) (posts:=[bv false,.val (zg (qx (qf s))),.val (zn (qx (qf s))),.box 52 2 (qp)])
    (out:=[(28,.val (zn (qx (qf s)))),(8,.box 52 2 (qp)),(6,.val (zg (qx (qf s)))),(7,bv true),(4,bv false),(2,.box 52 2 (qp)),(3,bv false)]) (nb:=[8]) H31 4 [4] rfl (by kernel_rfl) rfl rfl ?_ ?_
   ·refine cp (qh (.tmp 0 rfl)) ?_
    refine cp (qh (.tmp 0 rfl)) ?_
    refine cp (He (N:=qx (qf s)) (.tmp 0 rfl) (.tmp 1 rfl) (decide_eq_false (by omega)).symm (by omega)) ?_
    refine cp (yw (D:=qp) Dq rfl (fun _ _=>rfl)) ?_
    exact .nil
   clear H31 a31 w31 B31
   intro a40 w40 B40 H40
   simp only [List.cons_append,List.nil_append] at H40
   refine zi ?_
   refine ja (l':=[(28,.val (zn (qx (qf s)))),(8,.box 52 2 (zn (qx (qf s)))),(6,.val (zg (qx (qf s)))),(7,bv true),(4,bv false),(2,.box 52 2 (qp)),(3,bv false)]) 1 H40 rfl tyI rfl (.tmp 0 rfl) jl ve rfl rfl ?_
   clear H40 w40
   intro w41 H41
   refine qi ?_
   refine qg ?_
   refine wp_seq ?_
   refine wp_seq ?_
   refine fr (refs:=[[.pre 3],[.res 0],[.res 1],[.res 2,.pre 4],[.res 2,.res 3],[.res 4],[.res 4],[.res 4],[.res 2,.res 4],[.res 2,.res 8]]) (outs:=[.res 9,.pre 1,.pre 5,.pre 6]) (als:=fs 10) (posts:=[bv true,bv false,bv false,bv false,bv false,.val (xk),.val (xk),.val (xk),bv false,bv false])
    (out:=[(38,bv false),(8,.box 52 2 (zn (qx (qf s)))),(2,.box 52 2 (qp)),(3,bv false)]) (nb:=[]) H41 10 [] rfl (by kernel_rfl) rfl rfl ?_ ?_
   ·refine cp (qh (.tmp 0 rfl)) ?_
    refine cp (Eh (b:=true) (.tmp 0 rfl)) ?_
    refine cp (qh (.tmp 0 rfl)) ?_
    refine .cons (.wanted 2 false rfl rfl rfl 0 rfl (qh (.tmp 1 rfl))) ?_
    refine .cons (.wanted 2 false rfl rfl rfl 0 rfl (qh (.tmp 1 rfl))) ?_
    refine .cons (.unwanted 4 true rfl rfl rfl 0 rfl) ?_
    refine .cons (.unwanted 4 true rfl rfl rfl 0 rfl) ?_
    refine .cons (.unwanted 4 true rfl rfl rfl 0 rfl) ?_
    refine .cons (.wanted 2 false rfl rfl rfl 0 rfl (Cf (.tmp 1 rfl) (.lit))) ?_
    refine cp (Cf (.tmp 0 rfl) (.tmp 1 rfl)) ?_
    exact .nil
   clear H41 a40 w41 B40
   intro a42 w42 B42 H42
   refine qi ?_
   refine qg ?_
   refine Fq H42 (.tmp 0 rfl) ?_
   refine wp_skip ?_
   refine qg ?_
   refine wp_seq ?_
   refine fr (refs:=[[.pre 1]]) (outs:=[.res 0,.pre 2,.pre 3]) (als:=[false]) (posts:=[.val (zn (qx (qf s)))])
    (out:=[(40,.val (zn (qx (qf s)))),(2,.box 52 2 (qp)),(3,bv false)]) (nb:=[]) H42 1 [1,2] rfl (by kernel_rfl) rfl rfl ?_ ?_
   ·refine cp (zo tyI (.tmp 0 rfl)) ?_
    exact .nil
   clear H42 a42 w42 B42
   intro a43 w43 B43 H43
   refine zi ?_
   refine ja (l':=[(40,.val (zn (qx (qf s)))),(2,.box 52 2 (zn (qx (qf s)))),(3,bv false)]) 1 H43 rfl tyI rfl (.tmp 0 rfl) jl ve rfl rfl ?_
   clear H43 w43
   intro w44 H44
   refine zi ?_
   refine jm (D:=bv true) (l':=[(3,bv true),(40,.val (zn (qx (qf s)))),(2,.box 52 2 (zn (qx (qf s))))]) H44 rfl rfl rfl (.plain rfl (qm (.lit))) rfl rfl ?_
   clear H44 a43 w44 B43
   intro a45 w45 B45 H45
   refine qi ?_
   refine qg ?_
   refine wp_ret ?_
   exact Dj H45 rfl rfl (.cell 2 tyI rfl (fun v w B h=>by exact yj (by assumption) h) (.tmp 0 rfl (fun v w B h=>by exact Dl (by assumption) h) (.nil)))
  ·have v0:=Be (qf s)
   have eb46:(jh (qf s))=true:=k0
   rw [eb46] at H31
   have e1:=(wp.1.trans k0).symm
   have e2:=wp.2.symm
   refine fr (refs:=[[.pre 2],[.pre 0],[.res 0,.res 1],[]]) (outs:=[.res 2,.res 3]++pr 0 5) (als:=[false,false,false,true]) (posts:=[bv false,.val (zg (qx (qf s))),.val (zn (qx (qf s))),.box 52 2 (qp)])
    (out:=[(28,.val (zn (qx (qf s)))),(8,.box 52 2 (qp)),(6,.val (zg (qx (qf s)))),(7,bv true),(4,bv false),(2,.box 52 2 (qp)),(3,bv false)]) (nb:=[8]) H31 4 [4] rfl (by kernel_rfl) rfl rfl ?_ ?_
   ·refine cp (qh (.tmp 0 rfl)) ?_
    refine cp (qh (.tmp 0 rfl)) ?_
    refine cp (He (N:=qx (qf s)) (.tmp 0 rfl) (.tmp 1 rfl) (decide_eq_false (by omega)).symm (by omega)) ?_
    refine cp (yw (D:=qp) Dq rfl (fun _ _=>rfl)) ?_
    exact .nil
   clear H31 a31 w31 B31
   intro a47 w47 B47 H47
   simp only [List.cons_append,List.nil_append] at H47
   refine zi ?_
   refine ja (l':=[(28,.val (zn (qx (qf s)))),(8,.box 52 2 (zn (qx (qf s)))),(6,.val (zg (qx (qf s)))),(7,bv true),(4,bv false),(2,.box 52 2 (qp)),(3,bv false)]) 1 H47 rfl tyI rfl (.tmp 0 rfl) jl ve rfl rfl ?_
   clear H47 w47
   intro w48 H48
   refine qi ?_
   refine qg ?_
   refine wp_seq ?_
   refine wp_seq ?_
   refine fr (refs:=[[.pre 3],[.res 0],[.res 1],[.res 2,.pre 4],[.res 2,.res 3],[.res 4],[.res 4],[.res 4],[.res 2,.res 4],[.res 2,.res 8]]) (outs:=[.res 9,.pre 1,.pre 5,.pre 6]) (als:=fs 10) (posts:=[bv true,bv false,bv false,bv false,bv false,.val (xk),.val (xk),.val (xk),bv false,bv false])
    (out:=[(38,bv false),(8,.box 52 2 (zn (qx (qf s)))),(2,.box 52 2 (qp)),(3,bv false)]) (nb:=[]) H48 10 [] rfl (by kernel_rfl) rfl rfl ?_ ?_
   ·refine cp (qh (.tmp 0 rfl)) ?_
    refine cp (Eh (b:=true) (.tmp 0 rfl)) ?_
    refine cp (qh (.tmp 0 rfl)) ?_
    refine .cons (.wanted 2 false rfl rfl rfl 0 rfl (qh (.tmp 1 rfl))) ?_
    refine .cons (.wanted 2 false rfl rfl rfl 0 rfl (qh (.tmp 1 rfl))) ?_
    refine .cons (.unwanted 4 true rfl rfl rfl 0 rfl) ?_
    refine .cons (.unwanted 4 true rfl rfl rfl 0 rfl) ?_
    refine .cons (.unwanted 4 true rfl rfl rfl 0 rfl) ?_
    refine .cons (.wanted 2 false rfl rfl rfl 0 rfl (Cf (.tmp 1 rfl) (.lit))) ?_
    refine cp (Cf (.tmp 0 rfl) (.tmp 1 rfl)) ?_
    exact .nil
   clear H48 a47 w48 B47
   intro a49 w49 B49 H49
   refine qi ?_
   refine qg ?_
   refine Fq H49 (.tmp 0 rfl) ?_
   refine wp_skip ?_
   refine qg ?_
   refine wp_seq ?_
   refine fr (refs:=[[.pre 1]]) (outs:=[.res 0,.pre 2,.pre 3]) (als:=[false]) (posts:=[.val (zn (qx (qf s)))])
    (out:=[(40,.val (zn (qx (qf s)))),(2,.box 52 2 (qp)),(3,bv false)]) (nb:=[]) H49 1 [1,2] rfl (by kernel_rfl) rfl rfl ?_ ?_
   ·refine cp (zo tyI (.tmp 0 rfl)) ?_
    exact .nil
   clear H49 a49 w49 B49
   intro a50 w50 B50 H50
   refine zi ?_
   refine ja (l':=[(40,.val (zn (qx (qf s)))),(2,.box 52 2 (zn (qx (qf s)))),(3,bv false)]) 1 H50 rfl tyI rfl (.tmp 0 rfl) jl ve rfl rfl ?_
   clear H50 w50
   intro w51 H51
   refine zi ?_
   refine jm (D:=bv true) (l':=[(3,bv true),(40,.val (zn (qx (qf s)))),(2,.box 52 2 (zn (qx (qf s))))]) H51 rfl rfl rfl (.plain rfl (qm (.lit))) rfl rfl ?_
   clear H51 a50 w51 B50
   intro a52 w52 B52 H52
   refine qi ?_
   refine qg ?_
   refine wp_ret ?_
   exact Dj H52 rfl rfl (.cell 2 tyI rfl (fun v w B h=>by exact yj (by assumption) h) (.tmp 0 rfl (fun v w B h=>by exact Dl (by assumption) h) (.nil)))
theorem U6 (s:ByteArray) (hs:s.size≤140737488351232):Con Tryz.prog 33 [Lit (.string s)] (Tup [zg (qx (qf s)),IsB (jh (qf s))]):=
 (qdl s hs).con fun v w B ⟨g,h1,vs,e,h⟩=>by
  match vs,h with
  | [v1,v2],⟨h3,h4,_⟩=>exact ⟨[v1,v2],e,qlg _ _ _ h3,h4,trivial⟩
theorem qjc {cs:List Int} (h0:1<cs.length) (h1:cs[0]?.getD 0=45) (h2:cs[1]?.getD 0≠48):jf cs = -qx (cs.drop 1)∧Bg cs=jh (cs.drop 1):=by
 have hd:dash cs=true:=decide_eq_true ⟨h0,h1,h2⟩
 unfold jf Bg
 rw [if_pos hd,if_pos hd]
 exact ⟨rfl,rfl⟩
theorem qjb {cs:List Int} (h:¬(1<cs.length∧cs[0]?.getD 0=45∧cs[1]?.getD 0≠48)):jf cs=qx cs∧Bg cs=jh cs:=by
 have hd:dash cs=false:=decide_eq_false h
 unfold jf Bg
 rw [if_neg (by rw [hd];simp),if_neg (by rw [hd];simp)]
 exact ⟨rfl,rfl⟩
set_option maxRecDepth 20000 in
set_option maxHeartbeats 2000000 in
theorem qgl (s:ByteArray) (hs:s.size≤140737488351232):Con Tryz.prog 132 [Lit (.string s)] (Tup [zn (jf (qf s)),IsB (Bg (qf s))]):=by
 refine Ba (N:=38) Tryz.ntmps132 (fun _ _=>by go_simp) Tryz.func132 rfl (by simp) ?_
 intro a0 w0 B0 H0
 replace H0:St 38 w0 B0 a0 w0 B0 [(0,.val (Lit (.string s)))] []:=H0
 refine wp_seq ?_
 refine fr (refs:=[[],[]]) (outs:=[.res 0,.res 1,.pre 0]) (als:=[true,false]) (posts:=[.box 52 2 (qp),bv false])
  (out:=[(2,.box 52 2 (qp)),(3,bv false),(0,.val (Lit (.string s)))]) (nb:=[2]) H0 2 [] rfl (by kernel_rfl) rfl rfl ?_ ?_
 ·refine cp (yw (D:=qp) Dq rfl (fun _ _=>rfl)) ?_
  refine cp (qm (.lit)) ?_
  exact .nil
 clear H0
 intro a1 w1 B1 H1
 simp only [List.cons_append,List.nil_append] at H1
 refine qi ?_
 refine qg ?_
 refine wp_seq ?_
 refine wp_seq ?_
 refine fr (refs:=[[.pre 2],[.res 0],[.res 1],[.res 2],[.res 3,.pre 2],[.res 3,.res 4],[.res 3,.res 5],[.res 3,.res 6],[.res 7],[.res 8,.pre 2],[.res 8,.res 9],[.res 8,.res 10],[.res 8,.res 11]]) (outs:=[.res 12]++pr 0 3) (als:=fs 13) (posts:=[.val (Lit (.string s)),i6 ((s).size:Int),bv (decide (1<((s).size:Int))),bv (decide (1<((s).size:Int))),.val (Grd ((decide (1<((s).size:Int))) == true) (Lit (.string s))),.val (Grd ((decide (1<((s).size:Int))) == true) (Lit (.int .u8 (List.getD (qf s) 0 0)))),.val (Grd ((decide (1<((s).size:Int))) == true) (IsB (decide (List.getD (qf s) 0 0=45)))),bv ((decide (1<((s).size:Int))) && (decide (List.getD (qf s) 0 0=45))),bv ((decide (1<((s).size:Int))) && (decide (List.getD (qf s) 0 0=45))),.val (Grd (((decide (1<((s).size:Int))) && (decide (List.getD (qf s) 0 0=45))) == true) (Lit (.string s))),.val (Grd (((decide (1<((s).size:Int))) && (decide (List.getD (qf s) 0 0=45))) == true) (Lit (.int .u8 (List.getD (qf s) 1 0)))),.val (Grd (((decide (1<((s).size:Int))) && (decide (List.getD (qf s) 0 0=45))) == true) (IsB (decide (List.getD (qf s) 1 0≠48)))),bv (((decide (1<((s).size:Int))) && (decide (List.getD (qf s) 0 0=45))) && (decide (List.getD (qf s) 1 0≠48)))])
  (out:=[(20,bv (((decide (1<((s).size:Int))) && (decide (List.getD (qf s) 0 0=45))) && (decide (List.getD (qf s) 1 0≠48)))),(2,.box 52 2 (qp)),(3,bv false),(0,.val (Lit (.string s)))]) (nb:=[]) H1 13 [] rfl (by kernel_rfl) rfl rfl ?_ ?_
 ·refine cp (qh (.tmp 0 rfl)) ?_
  refine cp (Cm Tryz.underlying9 (.tmp 0 rfl)) ?_
  refine cp (jq (.tmp 0 rfl) (.lit) rfl) ?_
  refine cp (qh (.tmp 0 rfl)) ?_
  refine .cons (.sym 3 true (decide (1<((s).size:Int))) ((decide (1<((s).size:Int))) == true) rfl rfl rfl 0 (need':=[(11,bv (decide (1<((s).size:Int)))),(0,.val (Lit (.string s)))]) rfl rfl (fun a w B e h=>⟨h.1,h.2.1,trivial⟩) (fun e=>qh (.tmp 1 rfl))) ?_
  refine .cons (.sym 3 true (decide (1<((s).size:Int))) ((decide (1<((s).size:Int))) == true) rfl rfl rfl 0 (need':=[(11,bv (decide (1<((s).size:Int)))),(12,.val (Lit (.string s)))]) rfl rfl (fun a w B e h=>⟨h.1,h.2.1.1 (e),trivial⟩) (fun e=>Cj (n:=0) (c:=(List.getD (qf s) 0 0)) Tryz.underlying9 (.tmp 1 rfl) (.lit) (rfl) (bytes_at s 0 (by first | omega | (simp at e;omega))))) ?_
  refine .cons (.sym 3 true (decide (1<((s).size:Int))) ((decide (1<((s).size:Int))) == true) rfl rfl rfl 0 (need':=[(11,bv (decide (1<((s).size:Int)))),(13,.val (Lit (.int .u8 (List.getD (qf s) 0 0))))]) rfl rfl (fun a w B e h=>⟨h.1,h.2.1.1 (e),trivial⟩) (fun e=>jq (.tmp 1 rfl) (.lit) rfl)) ?_
  refine cp (F8 (decide (1<((s).size:Int))) (.tmp 0 rfl) (fun e=>Opd.eqB (Opd.grd (.tmp 1 rfl) (by first | (rw [e];rfl) | (simp only [e];rfl) | (simp [*] at *;done))) (by rw [e];rfl)) (fun e=>Opd.eqB (.lit) (by rw [e];rfl))) ?_
  refine cp (qh (.tmp 0 rfl)) ?_
  refine .cons (.sym 8 true ((decide (1<((s).size:Int))) && (decide (List.getD (qf s) 0 0=45))) (((decide (1<((s).size:Int))) && (decide (List.getD (qf s) 0 0=45))) == true) rfl rfl rfl 0 (need':=[(16,bv ((decide (1<((s).size:Int))) && (decide (List.getD (qf s) 0 0=45)))),(0,.val (Lit (.string s)))]) rfl rfl (fun a w B e h=>⟨h.1,h.2.1,trivial⟩) (fun e=>qh (.tmp 1 rfl))) ?_
  refine .cons (.sym 8 true ((decide (1<((s).size:Int))) && (decide (List.getD (qf s) 0 0=45))) (((decide (1<((s).size:Int))) && (decide (List.getD (qf s) 0 0=45))) == true) rfl rfl rfl 0 (need':=[(16,bv ((decide (1<((s).size:Int))) && (decide (List.getD (qf s) 0 0=45)))),(17,.val (Lit (.string s)))]) rfl rfl (fun a w B e h=>⟨h.1,h.2.1.1 (e),trivial⟩) (fun e=>Cj (n:=1) (c:=(List.getD (qf s) 1 0)) Tryz.underlying9 (.tmp 1 rfl) (.lit) (rfl) (bytes_at s 1 (by first | omega | (simp at e;omega))))) ?_
  refine .cons (.sym 8 true ((decide (1<((s).size:Int))) && (decide (List.getD (qf s) 0 0=45))) (((decide (1<((s).size:Int))) && (decide (List.getD (qf s) 0 0=45))) == true) rfl rfl rfl 0 (need':=[(16,bv ((decide (1<((s).size:Int))) && (decide (List.getD (qf s) 0 0=45)))),(18,.val (Lit (.int .u8 (List.getD (qf s) 1 0))))]) rfl rfl (fun a w B e h=>⟨h.1,h.2.1.1 (e),trivial⟩) (fun e=>jq (.tmp 1 rfl) (.lit) rfl)) ?_
  refine cp (F8 ((decide (1<((s).size:Int))) && (decide (List.getD (qf s) 0 0=45))) (.tmp 0 rfl) (fun e=>Opd.eqB (Opd.grd (.tmp 1 rfl) (by first | (rw [e];rfl) | (simp only [e];rfl) | (simp [*] at *;done))) (by rw [e];rfl)) (fun e=>Opd.eqB (.lit) (by rw [e];rfl))) ?_
  exact .nil
 clear H1 a1 w1 B1
 intro a2 w2 B2 H2
 refine qi ?_
 refine qg ?_
 refine Aa H2 (.tmp 0 rfl) ?_ ?_
 ·intro hc3
  have c9:=Bool.and_eq_true_iff.1 hc3
  have c8:=Bool.and_eq_true_iff.1 c9.1
  have c0:=of_decide_eq_true c8.1
  have dy:=qjc (cs:=qf s) (by rw [zu];omega) (of_decide_eq_true c8.2) (of_decide_eq_true c9.2)
  rw [←Ve] at dy
  have e1:=dy.1.symm
  have e2:=dy.2.symm
  refine wp_seq ?_
  refine fr (refs:=[[.pre 3],[.res 0],[.res 1],[.res 2],[.res 3],[.res 3],[.res 4],[.res 5]]) (outs:=[.res 6,.res 7]++pr 1 3) (als:=fs 8) (posts:=[.val (Lit (.string s)),.val (Lit (.string ((s).extract 1 (s).size))),.val (Tup [zg (qx (qf ((s).extract 1 (s).size))),IsB (jh (qf ((s).extract 1 (s).size)))]),.val (Tup [zg (qx (qf ((s).extract 1 (s).size))),IsB (jh (qf ((s).extract 1 (s).size)))]),.val (zg (qx (qf ((s).extract 1 (s).size)))),bv (jh (qf ((s).extract 1 (s).size))),.val (zg (qx (qf ((s).extract 1 (s).size)))),bv (jh (qf ((s).extract 1 (s).size)))])
   (out:=[(4,.val (zg (qx (qf ((s).extract 1 (s).size))))),(5,bv (jh (qf ((s).extract 1 (s).size)))),(2,.box 52 2 (qp)),(3,bv false),(0,.val (Lit (.string s)))]) (nb:=[]) H2 8 [] rfl (by kernel_rfl) rfl rfl ?_ ?_
  ·refine cp (qh (.tmp 0 rfl)) ?_
   refine cp (Xa (n:=1) Tryz.underlying9 (.tmp 0 rfl) (.lit) (rfl) (by omega)) ?_
   refine cp (zl (U6 ((s).extract 1 (s).size) (by rw [ByteArray.size_extract];omega)) (.cons (.tmp 0 rfl) (.nil))) ?_
   refine cp (qh (.tmp 0 rfl)) ?_
   refine cp (zq 0 (.tmp 0 rfl) rfl) ?_
   refine cp (zq 1 (.tmp 0 rfl) rfl) ?_
   refine cp (qm (.tmp 0 rfl)) ?_
   refine cp (qm (.tmp 0 rfl)) ?_
   exact .nil
  clear H2 a2 w2 B2
  intro a4 w4 B4 H4
  refine qi ?_
  refine qg ?_
  refine wp_seq ?_
  refine fr (refs:=[[.pre 0],[.res 0],[.pre 1]]) (outs:=[.res 1,.res 2]++pr 2 3) (als:=fs 3) (posts:=[.val (zg (qx (qf ((s).extract 1 (s).size)))),.val (zn (-(qx (qf ((s).extract 1 (s).size))))),bv (jh (qf ((s).extract 1 (s).size)))])
   (out:=[(28,.val (zn (-(qx (qf ((s).extract 1 (s).size)))))),(29,bv (jh (qf ((s).extract 1 (s).size)))),(2,.box 52 2 (qp)),(3,bv false),(0,.val (Lit (.string s)))]) (nb:=[]) H4 3 [3,4] rfl (by kernel_rfl) rfl rfl ?_ ?_
  ·refine cp (qh (.tmp 0 rfl)) ?_
   refine cp (zl ((Dt (-1) (qx (qf ((s).extract 1 (s).size)))).weak (fun v w B h=>yj (if_pos rfl) h)) (.cons (.lit) (.cons (.tmp 0 rfl) (.nil)))) ?_
   refine cp (qh (.tmp 0 rfl)) ?_
   exact .nil
  clear H4 a4 w4 B4
  intro a5 w5 B5 H5
  refine zi ?_
  refine ja (l':=[(28,.val (zn (-(qx (qf ((s).extract 1 (s).size)))))),(29,bv (jh (qf ((s).extract 1 (s).size)))),(2,.box 52 2 (zn (-(qx (qf ((s).extract 1 (s).size)))))),(3,bv false),(0,.val (Lit (.string s)))]) 2 H5 rfl tyI rfl (.tmp 0 rfl) jl ve rfl rfl ?_
  clear H5 w5
  intro w6 H6
  refine zi ?_
  refine jm (D:=bv (jh (qf ((s).extract 1 (s).size)))) (l':=[(3,bv (jh (qf ((s).extract 1 (s).size)))),(28,.val (zn (-(qx (qf ((s).extract 1 (s).size)))))),(29,bv (jh (qf ((s).extract 1 (s).size)))),(2,.box 52 2 (zn (-(qx (qf ((s).extract 1 (s).size)))))),(0,.val (Lit (.string s)))]) H6 rfl rfl rfl (.plain rfl (qm (.tmp 1 rfl))) rfl rfl ?_
  clear H6 a5 w6 B5
  intro a7 w7 B7 H7
  refine qi ?_
  refine qg ?_
  refine wp_ret ?_
  refine yh ?_
  exact Dj H7 rfl rfl (.cell 3 tyI rfl (fun v w B h=>by exact yj e1 h) (.tmp 0 rfl (fun v w B h=>by exact Dl e2 h) (.nil)))
 ·intro hc3
  have dn:=qjb (cs:=qf s) (fun h9=>by have h8:=hc3;rw [Bool.and_eq_false_iff,Bool.and_eq_false_iff,decide_eq_false_iff_not,decide_eq_false_iff_not,decide_eq_false_iff_not] at h8;exact h8.elim (fun h8=>h8.elim (fun h8=>h8 (by have:=h9.1;rw [zu] at this;omega)) (fun h8=>h8 h9.2.1)) (fun h8=>h8 h9.2.2))
  have e1:=dn.1.symm
  have e2:=dn.2.symm
  refine wp_skip ?_
  refine qg ?_
  refine wp_seq ?_
  refine fr (refs:=[[.pre 3],[.res 0],[.res 1],[.res 2],[.res 2],[.res 3],[.res 4]]) (outs:=[.res 5,.res 6,.pre 1,.pre 2]) (als:=fs 7) (posts:=[.val (Lit (.string s)),.val (Tup [zg (qx (qf s)),IsB (jh (qf s))]),.val (Tup [zg (qx (qf s)),IsB (jh (qf s))]),.val (zg (qx (qf s))),bv (jh (qf s)),.val (zg (qx (qf s))),bv (jh (qf s))])
   (out:=[(6,.val (zg (qx (qf s)))),(7,bv (jh (qf s))),(2,.box 52 2 (qp)),(3,bv false)]) (nb:=[]) H2 7 [] rfl (by kernel_rfl) rfl rfl ?_ ?_
  ·refine cp (qh (.tmp 0 rfl)) ?_
   refine cp (zl (U6 s (by omega)) (.cons (.tmp 0 rfl) (.nil))) ?_
   refine cp (qh (.tmp 0 rfl)) ?_
   refine cp (zq 0 (.tmp 0 rfl) rfl) ?_
   refine cp (zq 1 (.tmp 0 rfl) rfl) ?_
   refine cp (qm (.tmp 0 rfl)) ?_
   refine cp (qm (.tmp 0 rfl)) ?_
   exact .nil
  clear H2 a2 w2 B2
  intro a8 w8 B8 H8
  refine qi ?_
  refine qg ?_
  refine wp_seq ?_
  refine fr (refs:=[[.pre 0],[.res 0],[.pre 1]]) (outs:=[.res 1,.res 2,.pre 2,.pre 3]) (als:=fs 3) (posts:=[.val (zg (qx (qf s))),.val (zn (qx (qf s))),bv (jh (qf s))])
   (out:=[(36,.val (zn (qx (qf s)))),(37,bv (jh (qf s))),(2,.box 52 2 (qp)),(3,bv false)]) (nb:=[]) H8 3 [3,4] rfl (by kernel_rfl) rfl rfl ?_ ?_
  ·refine cp (qh (.tmp 0 rfl)) ?_
   refine cp (zl ((Dt 1 (qx (qf s))).weak (fun v w B h=>yj (if_neg (by decide)) h)) (.cons (.lit) (.cons (.tmp 0 rfl) (.nil)))) ?_
   refine cp (qh (.tmp 0 rfl)) ?_
   exact .nil
  clear H8 a8 w8 B8
  intro a9 w9 B9 H9
  refine zi ?_
  refine ja (l':=[(36,.val (zn (qx (qf s)))),(37,bv (jh (qf s))),(2,.box 52 2 (zn (qx (qf s)))),(3,bv false)]) 2 H9 rfl tyI rfl (.tmp 0 rfl) jl ve rfl rfl ?_
  clear H9 w9
  intro w10 H10
  refine zi ?_
  refine jm (D:=bv (jh (qf s))) (l':=[(3,bv (jh (qf s))),(36,.val (zn (qx (qf s)))),(37,bv (jh (qf s))),(2,.box 52 2 (zn (qx (qf s))))]) H10 rfl rfl rfl (.plain rfl (qm (.tmp 1 rfl))) rfl rfl ?_
  clear H10 a9 w10 B9
  intro a11 w11 B11 H11
  refine qi ?_
  refine qg ?_
  refine wp_ret ?_
  exact Dj H11 rfl rfl (.cell 3 tyI rfl (fun v w B h=>by exact yj e1 h) (.tmp 0 rfl (fun v w B h=>by exact Dl e2 h) (.nil)))
end Go.Proofs.YtbcbmkeeoognpaaGreatDoor
