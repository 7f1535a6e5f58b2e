/- Contracts of functions, and plain facts, part 20. -/
import Derived.Test.YtbcbmkeeoognpaaGreatDoorPk5
import Derived.Test.YtbcbmkeeoognpaaGreatDoorPk6
import Derived.Test.YtbcbmkeeoognpaaGreatDoorPk7
import Derived.Test.YtbcbmkeeoognpaaGreatDoorPk8
import Derived.Test.YtbcbmkeeoognpaaGreatDoorPk15
import Derived.Test.YtbcbmkeeoognpaaGreatDoorPk18
import Derived.Test.YtbcbmkeeoognpaaGreatDoorPk19
set_option linter.unusedVariables false
set_option linter.unusedSimpArgs false
namespace Go.Proofs.YtbcbmkeeoognpaaGreatDoor
open Go Go.RowKit
set_option maxRecDepth 20000 in
set_option maxHeartbeats 2000000 in
theorem qgg (xs ys:List Int) (dx:Dig 4294967296 xs) (dy:Dig 4294967296 ys) (hx:xs.length≤1099511627776) (hy:ys.length≤1099511627776) (hne:ys≠[]) (htp:0<ys[ys.length-1]?.getD 0) (hxy:xs.length≤ys.length+1) (hlt:val 4294967296 xs<val 4294967296 ys*4294967296):Con Tryz.prog 199 [IsL .u32 xs,IsL .u32 ys] (Lit (.int .u32 (val 4294967296 xs / val 4294967296 ys))):=by
 refine Ba (N:=57) Tryz.ntmps199 (fun _ _=>by go_simp) Tryz.func199 rfl (by simp) ?_
 intro a0 w0 B0 H0
 replace H0:St 57 w0 B0 a0 w0 B0 [(0,.val (IsL .u32 xs)),(1,.val (IsL .u32 ys))] []:=H0
 obtain ⟨m,hm⟩:∃m,ys.length=m:=⟨_,rfl⟩
 have hm0:0<m:=by rw [←hm];exact List.length_pos_iff.2 hne
 have hT:=qmy xs dx m hm0 (by omega)
 have hU:=qmw ys dy m hm0 hm
 have b1:=dx.get (by omega) m
 have b2:=dx.get (by omega) (m-1)
 have b3:=dy.get (by omega) (m-1)
 have htop:0<ys[m-1]?.getD 0:=by rw [←hm];exact htp
 have hE:=qgo _ _ _ _ _ _ _ (Int.pow_pos (by omega)) (by omega) htop (qkg xs dx (m-1)) (qkg ys dy (m-1)) hT hU
 obtain ⟨d,hd⟩:∃d,val 4294967296 xs / val 4294967296 ys=d:=⟨_,rfl⟩
 have hU0:0<val 4294967296 ys:=by have:=zt (b:=4294967296) (by omega) dx;omega
 have hdB:d<4294967296:=by rw [←hd];exact Int.ediv_lt_of_lt_mul hU0 (by rw [Int.mul_comm];exact hlt)
 have hd0:0≤d:=by rw [←hd];exact Int.ediv_nonneg (zt (by omega) dx) (by omega)
 rw [hd] at hE
 have hfit:∀q:Int,q*val 4294967296 ys≤val 4294967296 xs↔q≤d:=fun q=>by rw [←hd];exact (Int.le_ediv_iff_mul_le hU0).symm
 clear hT hU
 refine wp_seq ?_
 refine zf (dsts:=[some 4]) (refs:=[[]]) (outs:=[.res 0,.pre 0,.pre 1]) (als:=[false]) (posts:=[.val (Lit (.int .u32 0))])
  (out:=[(4,.val (Lit (.int .u32 0))),(0,.val (IsL .u32 xs)),(1,.val (IsL .u32 ys))]) (nb:=[]) H0 1 [] rfl (by kernel_rfl) rfl rfl ?_ ?_
 ·refine .cons (.plain rfl (qm (.lit))) ?_
  exact .nil
 clear H0
 intro a1 w1 B1 H1
 refine qi ?_
 refine qg ?_
 refine wp_seq ?_
 refine zf (dsts:=[some 10,some 11,some 5]) (refs:=[[.pre 2],[.res 0],[.res 1]]) (outs:=[.res 2,.pre 0,.pre 1,.pre 2]) (als:=[false,false,false]) (posts:=[.val (IsL .u32 ys),.val (Lit (.int .i64 (List.length ys:Int))),.val (Lit (.int .i64 (List.length ys:Int)))])
  (out:=[(5,.val (Lit (.int .i64 (List.length ys:Int)))),(4,.val (Lit (.int .u32 0))),(0,.val (IsL .u32 xs)),(1,.val (IsL .u32 ys))]) (nb:=[]) H1 3 [] rfl (by kernel_rfl) rfl rfl ?_ ?_
 ·refine .cons (.plain rfl (qh (.tmp 0 rfl))) ?_
  refine .cons (.plain rfl (Eu Tryz.underlying23 (.tmp 0 rfl))) ?_
  refine .cons (.plain rfl (qm (.tmp 0 rfl))) ?_
  exact .nil
 clear H1 a1 w1 B1
 intro a2 w2 B2 H2
 refine qi ?_
 refine qg ?_
 refine wp_seq ?_
 have H3:=St.set1 H2 0 (D':=Lit (.int .i64 (m:Int))) rfl (fun v w B h=>Gz (by rw [hm]) h) (l':=[(5,.val (Lit (.int .i64 (m:Int)))),(4,.val (Lit (.int .u32 0))),(0,.val (IsL .u32 xs)),(1,.val (IsL .u32 ys))]) rfl
 clear H2
 refine zf (dsts:=[some 12,some 13,some 14,some 15,some 16,some 17,some 18,some 19,some 20,some 6]) (refs:=[[.pre 2],[.pre 0],[.res 0,.res 1],[.res 2],[.pre 2],[.pre 0],[.res 5],[.res 4,.res 6],[.res 3,.res 7],[.res 8]]) (outs:=[.res 9,.pre 0,.pre 1,.pre 2,.pre 3]) (als:=[false,false,false,false,false,false,false,false,false,false]) (posts:=[.val (IsL .u32 xs),.val (Lit (.int .i64 (m:Int))),.val (Lit (.int .u64 (xs[m]?.getD 0))),.val (Lit (.int .u64 ((xs[m]?.getD 0)*4294967296))),.val (IsL .u32 xs),.val (Lit (.int .i64 (m:Int))),.val (Lit (.int .i64 ((m:Int)-1))),.val (Lit (.int .u64 (xs[m-1]?.getD 0))),.val (Lit (.int .u64 (((xs[m]?.getD 0)*4294967296)+(xs[m-1]?.getD 0)))),.val (Lit (.int .u64 (((xs[m]?.getD 0)*4294967296)+(xs[m-1]?.getD 0))))])
  (out:=[(6,.val (Lit (.int .u64 (((xs[m]?.getD 0)*4294967296)+(xs[m-1]?.getD 0))))),(5,.val (Lit (.int .i64 (m:Int)))),(4,.val (Lit (.int .u32 0))),(0,.val (IsL .u32 xs)),(1,.val (IsL .u32 ys))]) (nb:=[]) H3 10 [] rfl (by kernel_rfl) rfl rfl ?_ ?_
 ·refine .cons (.plain rfl (qh (.tmp 0 rfl))) ?_
  refine .cons (.plain rfl (qh (.tmp 0 rfl))) ?_
  refine .cons (.plain rfl (zl ((Nz xs dx (m:Int) (by omega)).weak (fun v w B h=>Gz (by rw [show ((m:Int)).toNat=m by omega]) h)) (.cons (.tmp 0 rfl) (.cons (.tmp 1 rfl) (.nil))))) ?_
  refine .cons (.plain rfl (Nh (r:=((xs[m]?.getD 0)*4294967296)) (.tmp 0 rfl) (.lit) (Gp (by omega)))) ?_
  refine .cons (.plain rfl (qh (.tmp 0 rfl))) ?_
  refine .cons (.plain rfl (qh (.tmp 0 rfl))) ?_
  refine .cons (.plain rfl (D6 (r:=((m:Int)-1)) (.tmp 0 rfl) (.lit) (xh (by omega)))) ?_
  refine .cons (.plain rfl (zl ((Nz xs dx ((m:Int)-1) (by omega)).weak (fun v w B h=>Gz (by rw [show ((m:Int)-1).toNat=m-1 by omega]) h)) (.cons (.tmp 0 rfl) (.cons (.tmp 1 rfl) (.nil))))) ?_
  refine .cons (.plain rfl (Aq (r:=(((xs[m]?.getD 0)*4294967296)+(xs[m-1]?.getD 0))) (.tmp 0 rfl) (.tmp 1 rfl) (Gp (by omega)))) ?_
  refine .cons (.plain rfl (qm (.tmp 0 rfl))) ?_
  exact .nil
 clear H3 a2 w2 B2
 intro a4 w4 B4 H4
 refine qi ?_
 refine qg ?_
 refine wp_seq ?_
 refine zf (dsts:=[some 21,some 22,some 23,some 24,some 25,some 26,some 27,some 28,some 29,some 7]) (refs:=[[.pre 0],[.pre 4],[.pre 1],[.res 2],[.res 1,.res 3],[.res 4],[.res 5],[.res 6],[.res 0,.res 7],[.res 8]]) (outs:=[.res 9,.pre 0,.pre 1,.pre 2,.pre 3,.pre 4]) (als:=[false,false,false,false,false,false,false,false,false,false]) (posts:=[.val (Lit (.int .u64 (((xs[m]?.getD 0)*4294967296)+(xs[m-1]?.getD 0)))),.val (IsL .u32 ys),.val (Lit (.int .i64 (m:Int))),.val (Lit (.int .i64 ((m:Int)-1))),.val (Fh .u32 (ys[m-1]?.getD 0)),.val (Lit (.int .u32 (ys[m-1]?.getD 0))),.val (Lit (.int .u64 (ys[m-1]?.getD 0))),.val (Lit (.int .u64 ((ys[m-1]?.getD 0)+1))),.val (Lit (.int .u64 ((((xs[m]?.getD 0)*4294967296)+(xs[m-1]?.getD 0)) / ((ys[m-1]?.getD 0)+1)))),.val (Lit (.int .u64 ((((xs[m]?.getD 0)*4294967296)+(xs[m-1]?.getD 0)) / ((ys[m-1]?.getD 0)+1))))])
  (out:=[(7,.val (Lit (.int .u64 ((((xs[m]?.getD 0)*4294967296)+(xs[m-1]?.getD 0)) / ((ys[m-1]?.getD 0)+1))))),(6,.val (Lit (.int .u64 (((xs[m]?.getD 0)*4294967296)+(xs[m-1]?.getD 0))))),(5,.val (Lit (.int .i64 (m:Int)))),(4,.val (Lit (.int .u32 0))),(0,.val (IsL .u32 xs)),(1,.val (IsL .u32 ys))]) (nb:=[]) H4 10 [] rfl (by kernel_rfl) rfl rfl ?_ ?_
 ·refine .cons (.plain rfl (qh (.tmp 0 rfl))) ?_
  refine .cons (.plain rfl (qh (.tmp 0 rfl))) ?_
  refine .cons (.plain rfl (qh (.tmp 0 rfl))) ?_
  refine .cons (.plain rfl (D6 (r:=((m:Int)-1)) (.tmp 0 rfl) (.lit) (xh (by omega)))) ?_
  refine .cons (.plain rfl (Et (xs:=ys) (m-1) Tryz.underlying23 Bf (.tmp 0 rfl) (.tmp 1 rfl) (by omega) (by omega))) ?_
  refine .cons (.plain rfl (Ap Jd (.tmp 0 rfl))) ?_
  refine .cons (.plain rfl (Ee Tryz.underlying44 Tryz.underlying49 (r:=(ys[m-1]?.getD 0)) (.tmp 0 rfl) (Gp (by omega)))) ?_
  refine .cons (.plain rfl (Aq (r:=((ys[m-1]?.getD 0)+1)) (.tmp 0 rfl) (.lit) (Gp (by omega)))) ?_
  refine .cons (.plain rfl (Hu (r:=((((xs[m]?.getD 0)*4294967296)+(xs[m-1]?.getD 0)) / ((ys[m-1]?.getD 0)+1))) (.tmp 0 rfl) (.tmp 1 rfl) (by omega) (by rw [Int.tdiv_eq_ediv_of_nonneg (by omega)];exact Gp ⟨Int.ediv_nonneg (by omega) (by omega),Int.lt_of_le_of_lt hE.1 (by omega)⟩))) ?_
  refine .cons (.plain rfl (qm (.tmp 0 rfl))) ?_
  exact .nil
 clear H4 a4 w4 B4
 intro a5 w5 B5 H5
 refine qi ?_
 refine qg ?_
 refine wp_seq ?_
 refine zf (dsts:=[some 30,some 31,some 32,some 33,some 34,some 35,some 36,some 37,some 38,some 8]) (refs:=[[.pre 1],[.pre 5],[.pre 2],[.res 2],[.res 1,.res 3],[.res 4],[.res 5],[.res 0,.res 6],[.res 7],[.res 8]]) (outs:=[.res 9,.pre 0,.pre 3,.pre 4,.pre 5]) (als:=[false,false,false,false,false,false,false,false,false,false]) (posts:=[.val (Lit (.int .u64 (((xs[m]?.getD 0)*4294967296)+(xs[m-1]?.getD 0)))),.val (IsL .u32 ys),.val (Lit (.int .i64 (m:Int))),.val (Lit (.int .i64 ((m:Int)-1))),.val (Fh .u32 (ys[m-1]?.getD 0)),.val (Lit (.int .u32 (ys[m-1]?.getD 0))),.val (Lit (.int .u64 (ys[m-1]?.getD 0))),.val (Lit (.int .u64 ((((xs[m]?.getD 0)*4294967296)+(xs[m-1]?.getD 0)) / (ys[m-1]?.getD 0)))),.val (Lit (.int .u64 (if 4294967295<(((xs[m]?.getD 0)*4294967296)+(xs[m-1]?.getD 0)) / (ys[m-1]?.getD 0) then 4294967295 else (((xs[m]?.getD 0)*4294967296)+(xs[m-1]?.getD 0)) / (ys[m-1]?.getD 0)))),.val (Lit (.int .u64 (if 4294967295<(((xs[m]?.getD 0)*4294967296)+(xs[m-1]?.getD 0)) / (ys[m-1]?.getD 0) then 4294967295 else (((xs[m]?.getD 0)*4294967296)+(xs[m-1]?.getD 0)) / (ys[m-1]?.getD 0))))])
  (out:=[(8,.val (Lit (.int .u64 (if 4294967295<(((xs[m]?.getD 0)*4294967296)+(xs[m-1]?.getD 0)) / (ys[m-1]?.getD 0) then 4294967295 else (((xs[m]?.getD 0)*4294967296)+(xs[m-1]?.getD 0)) / (ys[m-1]?.getD 0))))),(7,.val (Lit (.int .u64 ((((xs[m]?.getD 0)*4294967296)+(xs[m-1]?.getD 0)) / ((ys[m-1]?.getD 0)+1))))),(4,.val (Lit (.int .u32 0))),(0,.val (IsL .u32 xs)),(1,.val (IsL .u32 ys))]) (nb:=[]) H5 10 [] rfl (by kernel_rfl) rfl rfl ?_ ?_
 ·refine .cons (.plain rfl (qh (.tmp 0 rfl))) ?_
  refine .cons (.plain rfl (qh (.tmp 0 rfl))) ?_
  refine .cons (.plain rfl (qh (.tmp 0 rfl))) ?_
  refine .cons (.plain rfl (D6 (r:=((m:Int)-1)) (.tmp 0 rfl) (.lit) (xh (by omega)))) ?_
  refine .cons (.plain rfl (Et (xs:=ys) (m-1) Tryz.underlying23 Bf (.tmp 0 rfl) (.tmp 1 rfl) (by omega) (by omega))) ?_
  refine .cons (.plain rfl (Ap Jd (.tmp 0 rfl))) ?_
  refine .cons (.plain rfl (Ee Tryz.underlying44 Tryz.underlying49 (r:=(ys[m-1]?.getD 0)) (.tmp 0 rfl) (Gp (by omega)))) ?_
  refine .cons (.plain rfl (Hu (r:=((((xs[m]?.getD 0)*4294967296)+(xs[m-1]?.getD 0)) / (ys[m-1]?.getD 0))) (.tmp 0 rfl) (.tmp 1 rfl) (by omega) (by rw [Int.tdiv_eq_ediv_of_nonneg (by omega)];exact Gp ⟨Int.ediv_nonneg (by omega) (by omega),Int.lt_of_le_of_lt (Int.ediv_le_self _ (by omega)) (by omega)⟩))) ?_
  refine .cons (.plain rfl (qn1 (.tmp 0 rfl) (.lit))) ?_
  refine .cons (.plain rfl (qm (.tmp 0 rfl))) ?_
  exact .nil
 clear H5 a5 w5 B5
 intro a6 w6 B6 H6
 refine qi ?_
 refine qg ?_
 refine wp_seq ?_
 refine wp_block ?_
 refine Gq (fun (⟨lo,hi⟩:Int × Int)=>[(8,.val (Lit (.int .u64 hi))),(7,.val (Lit (.int .u64 lo))),(4,.val (Lit (.int .u32 0))),(0,.val (IsL .u32 xs)),(1,.val (IsL .u32 ys))]) (fun (⟨lo,hi⟩:Int × Int)=>0≤lo∧lo≤d∧d≤hi∧hi≤4294967295) (fun (⟨lo,hi⟩:Int × Int)=>(hi-lo).toNat) (⟨(((xs[m]?.getD 0)*4294967296)+(xs[m-1]?.getD 0)) / ((ys[m-1]?.getD 0)+1),if 4294967295<(((xs[m]?.getD 0)*4294967296)+(xs[m-1]?.getD 0)) / (ys[m-1]?.getD 0) then 4294967295 else (((xs[m]?.getD 0)*4294967296)+(xs[m-1]?.getD 0)) / (ys[m-1]?.getD 0)⟩) (St.pick H6 [0,1,2,3,4] rfl) (by exact ⟨Int.ediv_nonneg (by omega) (by omega),hE.1,by split <;> omega,by split <;> omega⟩) ?_
 clear H6 a6 w6 B6
 rintro ⟨lo,hi⟩ a7 w7 B7 hI7 H7
 replace hI7:0≤lo∧lo≤d∧d≤hi∧hi≤4294967295:=hI7
 replace H7:St 57 w0 B0 a7 w7 B7 [(8,.val (Lit (.int .u64 hi))),(7,.val (Lit (.int .u64 lo))),(4,.val (Lit (.int .u32 0))),(0,.val (IsL .u32 xs)),(1,.val (IsL .u32 ys))] []:=H7
 obtain ⟨i0,i1,i2,i3⟩:=hI7
 refine wp_seq ?_
 refine wp_seq ?_
 refine zf (dsts:=[some 39,some 40,some 41]) (refs:=[[.pre 1],[.pre 0],[.res 0,.res 1]]) (outs:=[.res 2,.pre 0,.pre 1,.pre 2,.pre 3,.pre 4]) (als:=[false,false,false]) (posts:=[.val (Lit (.int .u64 lo)),.val (Lit (.int .u64 hi)),.val (IsB (decide (lo<hi)))])
  (out:=[(41,.val (IsB (decide (lo<hi)))),(8,.val (Lit (.int .u64 hi))),(7,.val (Lit (.int .u64 lo))),(4,.val (Lit (.int .u32 0))),(0,.val (IsL .u32 xs)),(1,.val (IsL .u32 ys))]) (nb:=[]) H7 3 [] rfl (by kernel_rfl) rfl rfl ?_ ?_
 ·refine .cons (.plain rfl (qh (.tmp 0 rfl))) ?_
  refine .cons (.plain rfl (qh (.tmp 0 rfl))) ?_
  refine .cons (.plain rfl (jq (.tmp 0 rfl) (.tmp 1 rfl) rfl)) ?_
  exact .nil
 clear H7 a7 w7 B7
 intro a8 w8 B8 H8
 refine qi ?_
 refine qg ?_
 refine Aa H8 (.tmp 0 rfl) ?_ ?_
 ·intro hc9
  replace hc9:=of_decide_eq_true hc9
  refine wp_skip ?_
  refine qg ?_
  refine wp_block ?_
  refine wp_seq ?_
  refine zf (dsts:=[some 42,some 43,some 44,some 45,some 46,some 9]) (refs:=[[.pre 2],[.pre 1],[.res 0,.res 1],[.res 2],[.res 3],[.res 4]]) (outs:=[.res 5,.pre 1,.pre 2,.pre 3,.pre 4,.pre 5]) (als:=[false,false,false,false,false,false]) (posts:=[.val (Lit (.int .u64 lo)),.val (Lit (.int .u64 hi)),.val (Lit (.int .u64 (lo+hi))),.val (Lit (.int .u64 ((lo+hi)+1))),.val (Lit (.int .u64 (((lo+hi)+1) / 2))),.val (Lit (.int .u64 (((lo+hi)+1) / 2)))])
   (out:=[(9,.val (Lit (.int .u64 (((lo+hi)+1) / 2)))),(8,.val (Lit (.int .u64 hi))),(7,.val (Lit (.int .u64 lo))),(4,.val (Lit (.int .u32 0))),(0,.val (IsL .u32 xs)),(1,.val (IsL .u32 ys))]) (nb:=[]) H8 6 [] rfl (by kernel_rfl) rfl rfl ?_ ?_
  ·refine .cons (.plain rfl (qh (.tmp 0 rfl))) ?_
   refine .cons (.plain rfl (qh (.tmp 0 rfl))) ?_
   refine .cons (.plain rfl (Aq (r:=(lo+hi)) (.tmp 0 rfl) (.tmp 1 rfl) (Gp (by omega)))) ?_
   refine .cons (.plain rfl (Aq (r:=((lo+hi)+1)) (.tmp 0 rfl) (.lit) (Gp (by omega)))) ?_
   refine .cons (.plain rfl (Hu (r:=(((lo+hi)+1) / 2)) (.tmp 0 rfl) (.lit) (by omega) (by rw [Int.tdiv_eq_ediv_of_nonneg (by omega)];exact Gp (by omega)))) ?_
   refine .cons (.plain rfl (qm (.tmp 0 rfl))) ?_
   exact .nil
  clear H8 a8 w8 B8
  intro a10 w10 B10 H10
  refine qi ?_
  refine qg ?_
  refine wp_seq ?_
  refine zf (dsts:=[some 47,some 48,some 49,some 50,some 51]) (refs:=[[.pre 4],[.pre 5],[.pre 0],[.res 2],[.res 0,.res 1,.res 3]]) (outs:=[.res 4,.pre 0,.pre 1,.pre 2,.pre 3,.pre 4,.pre 5]) (als:=[false,false,false,false,false]) (posts:=[.val (IsL .u32 xs),.val (IsL .u32 ys),.val (Lit (.int .u64 (((lo+hi)+1) / 2))),.val (Lit (.int .u32 (((lo+hi)+1) / 2))),.val (IsB (decide ((((lo+hi)+1) / 2)*val 4294967296 ys≤val 4294967296 xs)))])
   (out:=[(51,.val (IsB (decide ((((lo+hi)+1) / 2)*val 4294967296 ys≤val 4294967296 xs)))),(9,.val (Lit (.int .u64 (((lo+hi)+1) / 2)))),(8,.val (Lit (.int .u64 hi))),(7,.val (Lit (.int .u64 lo))),(4,.val (Lit (.int .u32 0))),(0,.val (IsL .u32 xs)),(1,.val (IsL .u32 ys))]) (nb:=[]) H10 5 [] rfl (by kernel_rfl) rfl rfl ?_ ?_
  ·refine .cons (.plain rfl (qh (.tmp 0 rfl))) ?_
   refine .cons (.plain rfl (qh (.tmp 0 rfl))) ?_
   refine .cons (.plain rfl (qh (.tmp 0 rfl))) ?_
   refine .cons (.plain rfl (Ee Tryz.underlying49 Tryz.underlying44 (r:=(((lo+hi)+1) / 2)) (.tmp 0 rfl) (Oc (by omega)))) ?_
   refine .cons (.plain rfl (zl (qi4 xs ys dx dy (by omega) (by omega) (((lo+hi)+1) / 2) (by omega)) (.cons (.tmp 0 rfl) (.cons (.tmp 1 rfl) (.cons (.tmp 2 rfl) (.nil)))))) ?_
   exact .nil
  clear H10 a10 w10 B10
  intro a11 w11 B11 H11
  refine qi ?_
  refine qg ?_
  refine Aa H11 (.tmp 0 rfl) ?_ ?_
  ·intro hc12
   replace hc12:=of_decide_eq_true hc12
   have hq:=(hfit _).1 hc12
   refine zf (dsts:=[some 52,some 7]) (refs:=[[.pre 1],[.res 0]]) (outs:=[.res 1,.pre 1,.pre 2,.pre 4,.pre 5,.pre 6]) (als:=[false,false]) (posts:=[.val (Lit (.int .u64 (((lo+hi)+1) / 2))),.val (Lit (.int .u64 (((lo+hi)+1) / 2)))])
    (out:=[(7,.val (Lit (.int .u64 (((lo+hi)+1) / 2)))),(9,.val (Lit (.int .u64 (((lo+hi)+1) / 2)))),(8,.val (Lit (.int .u64 hi))),(4,.val (Lit (.int .u32 0))),(0,.val (IsL .u32 xs)),(1,.val (IsL .u32 ys))]) (nb:=[]) H11 2 [] rfl (by kernel_rfl) rfl rfl ?_ ?_
   ·refine .cons (.plain rfl (qh (.tmp 0 rfl))) ?_
    refine .cons (.plain rfl (qm (.tmp 0 rfl))) ?_
    exact .nil
   clear H11 a11 w11 B11
   intro a13 w13 B13 H13
   refine qi ?_
   refine kw ?_
   exact ⟨⟨((lo+hi)+1) / 2,hi⟩,B13,by exact ⟨by omega,by omega,by omega,by omega⟩,St.pick H13 [2,0,3,4,5] rfl,by show (_-_:Int).toNat<(hi-lo).toNat;omega⟩
  ·intro hc12
   replace hc12:=of_decide_eq_false hc12
   have hq:¬_≤d:=fun g=>hc12 ((hfit _).2 g)
   refine zf (dsts:=[some 53,some 54,some 8]) (refs:=[[.pre 1],[.res 0],[.res 1]]) (outs:=[.res 2,.pre 3,.pre 4,.pre 5,.pre 6]) (als:=[false,false,false]) (posts:=[.val (Lit (.int .u64 (((lo+hi)+1) / 2))),.val (Lit (.int .u64 ((((lo+hi)+1) / 2)-1))),.val (Lit (.int .u64 ((((lo+hi)+1) / 2)-1)))])
    (out:=[(8,.val (Lit (.int .u64 ((((lo+hi)+1) / 2)-1)))),(7,.val (Lit (.int .u64 lo))),(4,.val (Lit (.int .u32 0))),(0,.val (IsL .u32 xs)),(1,.val (IsL .u32 ys))]) (nb:=[]) H11 3 [] rfl (by kernel_rfl) rfl rfl ?_ ?_
   ·refine .cons (.plain rfl (qh (.tmp 0 rfl))) ?_
    refine .cons (.plain rfl (D6 (r:=((((lo+hi)+1) / 2)-1)) (.tmp 0 rfl) (.lit) (Gp (by omega)))) ?_
    refine .cons (.plain rfl (qm (.tmp 0 rfl))) ?_
    exact .nil
   clear H11 a11 w11 B11
   intro a14 w14 B14 H14
   refine qi ?_
   refine kw ?_
   exact ⟨⟨lo,(((lo+hi)+1) / 2)-1⟩,B14,by exact ⟨by omega,by omega,by omega,by omega⟩,St.pick H14 [0,1,2,3,4] rfl,by show (_-_:Int).toNat<(hi-lo).toNat;omega⟩
 ·intro hc9
  replace hc9:=of_decide_eq_false hc9
  refine wp_exit ?_
  refine jy ?_
  refine jy ?_
  refine Am ?_
  refine qg ?_
  refine wp_seq ?_
  refine zf (dsts:=[some 55,some 56,some 4]) (refs:=[[.pre 2],[.res 0],[.res 1]]) (outs:=[.res 2,.pre 1,.pre 2,.pre 4,.pre 5]) (als:=[false,false,false]) (posts:=[.val (Lit (.int .u64 lo)),.val (Lit (.int .u32 lo)),.val (Lit (.int .u32 lo))])
   (out:=[(4,.val (Lit (.int .u32 lo))),(8,.val (Lit (.int .u64 hi))),(7,.val (Lit (.int .u64 lo))),(0,.val (IsL .u32 xs)),(1,.val (IsL .u32 ys))]) (nb:=[]) H8 3 [] rfl (by kernel_rfl) rfl rfl ?_ ?_
  ·refine .cons (.plain rfl (qh (.tmp 0 rfl))) ?_
   refine .cons (.plain rfl (Ee Tryz.underlying49 Tryz.underlying44 (r:=lo) (.tmp 0 rfl) (Oc (by omega)))) ?_
   refine .cons (.plain rfl (qm (.tmp 0 rfl))) ?_
   exact .nil
  clear H8 a8 w8 B8
  intro a15 w15 B15 H15
  refine qi ?_
  refine qg ?_
  refine wp_ret ?_
  exact Rz H15 rfl 0 rfl (fun v w B h=>by refine Gz ?_ h;rw [hd];omega)
end Go.Proofs.YtbcbmkeeoognpaaGreatDoor

namespace Go.Proofs.YtbcbmkeeoognpaaGreatDoor
open Go Go.RowKit
def Kr (w:World) (b:Nat) (k:IntKind) (xs:List Int):Prop:=∃cs t lo hi,w.heap[b]?=some (.cells cs t (lo,hi))∧xs.length≤cs.size∧(∀j,j<xs.length→cs[j]?=some (.int k (xs[j]?.getD 0)))∧∀j,j<xs.length→¬(lo≤j∧j<hi)
theorem Kr.lt {w:World} {b:Nat} {k:IntKind} {xs:List Int} (h:Kr w b k xs):b<w.heap.size:=by
 obtain ⟨cs,t,lo,hi,h1,_⟩:=h
 exact (Array.getElem?_eq_some_iff.1 h1).1
theorem Kr.cell {w:World} {b:Nat} {k:IntKind} {xs:List Int} (h:Kr w b k xs) (j:Nat) (hj:j<xs.length):w.cell? ⟨b,j,none⟩=some (.int k (xs[j]?.getD 0)):=by
 obtain ⟨cs,t,lo,hi,h1,_,h3,_⟩:=h
 simp [World.cell?,h1,h3 j hj]
theorem Kr.free {w:World} {b:Nat} {k:IntKind} {xs:List Int} (h:Kr w b k xs) (j:Nat) (hj:j<xs.length):w.frozen? ⟨b,j,none⟩=false:=by
 obtain ⟨cs,t,lo,hi,h1,_,_,h4⟩:=h
 have:=h4 j hj
 simp [World.frozen?,h1]
 omega
theorem Kr.set {w:World} {b:Nat} {k:IntKind} {xs:List Int} (h:Kr w b k xs) (j:Nat) (x:Int):Kr (w.setCell ⟨b,j,none⟩ (.int k x)) b k (xs.set j x):=by
 obtain ⟨cs,t,lo,hi,h1,h2,h3,h4⟩:=h
 refine ⟨cs.setIfInBounds j (.int k x),t,lo,hi,?_,by simpa using h2,fun i hi2=>?_,fun i hi2=>h4 i (by simpa using hi2)⟩
 ·simp only [World.setCell,Array.getElem?_modify,h1,if_true,Option.map_some,Option.isSome_none]
  simp
 ·rw [List.length_set] at hi2
  rw [Array.getElem?_setIfInBounds,List.getElem?_set]
  by_cases e:j=i
  ·subst e
   rw [if_pos rfl,if_pos (by omega),if_pos rfl,if_pos hi2]
   rfl
  ·rw [if_neg e,if_neg e]
   exact h3 i hi2
theorem Kr.kept {w w1:World} {b:Nat} {k:IntKind} {xs:List Int} (h:Kr w b k xs) (hk:w1.heap[b]?=w.heap[b]?):Kr w1 b k xs:=by
 obtain ⟨cs,t,lo,hi,h1,h2⟩:=h
 exact ⟨cs,t,lo,hi,hk.trans h1,h2⟩
theorem Kr.rds {w:World} {b:Nat} {k:IntKind} {xs:List Int} (h:Kr w b k xs):Rds w k (some ⟨b,0,none⟩) xs.length xs:=
 ⟨rfl,fun j hj=>⟨_,rfl,by rw [Ff];exact h.cell j hj⟩⟩
set_option maxHeartbeats 1000000 in
theorem qb8 (b n c:Nat) (xs:List Int) (w:World) (hn:n≤140737488355328) (hnc:n≤c) (hx:Kr w b .u8 xs) (hd:Dig 256 xs) (hl:xs.length=n) :
  Calls Tryz.prog 207 #[.slice (some ⟨b,0,none⟩) n c] w (fun e w'=>e=.returned (.tuple #[])∧Kr w' b .u8 (zk xs)∧Only b w w'):=by
 have HL:=Lib.hid hl
 have HD:=Lib.hid hd
 have HI:=Lib.hid (Hm.start xs)
 obtain ⟨res,hres⟩:∃r,r=zk xs:=⟨_,rfl⟩
 rw [←hres]
 have HRES:=Lib.hid hres
 clear hl hd hres
 go_enter Tryz.func207,Tryz.ntmps207
 go_wp2
 go_loopw [2,3] (fun cv i wr=>∃(r k:Nat) (cy:Int) (X:List Int),cv=.int .u8 cy∧i=.int .i64 ((r:Int)-1)∧Hid (k+r=n)∧r≤n∧Hid (Hm xs X k cy)∧Kr wr b .u8 X∧Only b w wr) (fun _ i _=>((intOf i)+1).toNat)
 case atStart=>exact ⟨n,0,1,xs,rfl,rfl,Lib.hid (by omega),Nat.le_refl _,HI,hx,Only.refl _ _⟩
 case round=>
  clear hx HI
  obtain ⟨r,k,cy,X,rfl,rfl,hkr,hrn,hI,hr,ho⟩:=hrel
  rcases r with _ | r
  ·have hX:Hid (X=res):=Lib.hid (by
    have:=hI.out
    rw [show k=xs.length by have:=hkr.out;have:=HL.out;omega] at this
    rw [HRES.out]
    exact this.end)
   go_wp2
   go_end0
   exact ⟨rfl,by rw [←hX.out];exact hr,ho⟩
  ·obtain ⟨q1,q2⟩:=hI.out.step (r:=r) (by have:=hkr.out;have:=HL.out;omega)
   have hXl:X.length=n:=by rw [hI.out.length (by have:=hkr.out;have:=HL.out;omega),HL.out]
   have cm:=hr.cell r (by omega)
   have fm:=hr.free r (by omega)
   have hcy:=hI.out.bd
   have bx:=HD.out.get (by omega) r
   rw [q1] at cm
   clear hXl q1
   generalize xs[r]?.getD 0=x at *
   have X1:bits .xor .u8 (if IntKind.u8.signed=true then -1 else IntKind.u8.max) x=255-x:=qll x bx
   obtain ⟨v,hv⟩:∃v,(255-x+cy) % 256=v:=⟨_,rfl⟩
   rw [hv] at q2
   have W1:(255-x+cy) % 256=v:=hv
   have W2:IntKind.u8.wrap (255-x+cy)=v:=by rw [←hv];simp [IntKind.wrap,IntKind.bits,IntKind.signed]
   have hvb:0≤v∧v<256:=by omega
   have e1:(((r+1:Nat):Int)-1)=(r:Int):=by omega
   have Q2:=Lib.hid q2
   have hkr':=Lib.hid (show k+1+r=n by have:=hkr.out;omega)
   have R1:=hr.set r v
   have O1:=ho.set r (.int .u8 v)
   rw [e1]
   clear hv q2
   by_cases hv0:v=0
   ·have hz:(v != 0)=false:=by rw [hv0];rfl
    have Q3:Hid (Hm xs (X.set r v) (k+1) cy):=Lib.hid (by have:=Q2.out;rwa [if_pos hv0] at this)
    clear hv0 Q2 hr ho
    go_wp2_with fail
    go_roundw
    case rel=>exact ⟨r,k+1,_,_,rfl,by go_num,hkr',by omega,Q3,R1,O1⟩
    case measure=>simp [intOf]
   ·have hz:(v != 0)=true:=by simpa using hv0
    have Q3:Hid (Hm xs (X.set r v) (k+1) 0):=Lib.hid (by have:=Q2.out;rwa [if_neg hv0] at this)
    clear hv0 Q2 hr ho
    go_wp2_with fail
    go_roundw
    case rel=>exact ⟨r,k+1,_,_,rfl,by go_num,hkr',by omega,Q3,R1,O1⟩
    case measure=>simp [intOf]
def PRw (g m:Nat) (k:IntKind) (xs:List Int) (v:Value) (w:World) (B:Bx):Prop:=Kd k∧¬B g∧m≤g∧∃c,xs.length≤c∧v=.slice (some ⟨g,0,none⟩) xs.length c∧Kr w g k xs
theorem PRw.st {g m:Nat} {k:IntKind} {xs:List Int} (v:Value) (w:World) (B:Bx) (w':World) (B':Bx) (h:Mv w B w' B') (hp:PRw g m k xs v w B):PRw g m k xs v w' B':=by
 obtain ⟨hk,hb,hm,c,hc,e,r⟩:=hp
 exact ⟨hk,fun h2=>hb (h.box g r.lt h2),hm,c,hc,e,r.kept ((h.same g r.lt).resolve_right fun h2=>hb h2.1)⟩
def Lj (g m:Nat) (k:IntKind) (xs:List Int):VP:=⟨PRw g m k xs,PRw.st⟩
def qa8 (m:Nat) (k:IntKind) (xs:List Int):VP:=⟨fun v w B=>∃g,PRw g m k xs v w B,fun v w B w' B' h ⟨g,hp⟩=>⟨g,PRw.st v w B w' B' h hp⟩⟩
theorem Um {g m:Nat} {k:IntKind} {xs:List Int} (v:Value) (w:World) (B:Bx) (h:(Lj g m k xs).p v w B):(IsL k xs).p v w B:=by
 obtain ⟨hk,hb,hm,c,hc,e,r⟩:=h
 exact ⟨hk,_,_,c,e,r.rds⟩
section
variable {P:Program} {need:List (Tmp × FD)} {d:Option Tmp} {ty:TypeId} {pos:String} {af:Array Edge} {g:Option (Nat × Bool)} {x y:Operand}
theorem qea {src dst e:TypeId} {s:ByteArray} {m:Nat} {z:Tmp} (q:Nat) (hs:P.underlying src=some .string) (hd:P.underlying dst=some (.slice e)) (he:P.underlying e=some (.int .u8)) (h:Opd need x (.val (Lit (.string s)))) (hz:need[q]?=some (z,.val (Sz m))) :
  jo P ⟨d,.convert src dst x,ty,pos,af,g⟩ need (.val (qa8 m .u8 (qf s))) false:=by
 intro Q K a w B hB hF hK
 have e1:a.eval x=.string s:=h a w B hF
 have hm:m≤w.heap.size:=hF.get q hz
 have hr:=run_bytes_of_string (P:=P) w src dst e s hs hd he
 have hg:=grownCap_ge w s.size 0 e
 have hsz:(bytesRow s (grownCap w s.size 0 e)).size=grownCap w s.size 0 e:=by
  have:s.data.size=s.size:=rfl
  simp [bytesRow,this];omega
 have hl:=zu s
 have hbel:Below w.heap.size w (w.drew.alloc (.cells (bytesRow s (grownCap w s.size 0 e)) e ((bytesRow s (grownCap w s.size 0 e)).size,(bytesRow s (grownCap w s.size 0 e)).size+1))):=(Dv (Below.refl _ _)).alloc (Nat.le_refl _) _
 have hnew:(w.drew.alloc (.cells (bytesRow s (grownCap w s.size 0 e)) e ((bytesRow s (grownCap w s.size 0 e)).size,(bytesRow s (grownCap w s.size 0 e)).size+1))).heap[w.heap.size]?=some (.cells (bytesRow s (grownCap w s.size 0 e)) e ((bytesRow s (grownCap w s.size 0 e)).size,(bytesRow s (grownCap w s.size 0 e)).size+1)):=heap_alloc_new w.drew _
 unfold Oper.wp
 simp only [execOp,e1,Sem.run_bind,hr,Result.andThen_ok,Sem.run_pure]
 refine hK _ _ B ⟨w.heap.size,.inr rfl,fun h2=>by have:=hB _ h2;omega,hm,_,by rw [hl];exact hg,by rw [hl],_,e,_,_,hnew,by rw [hl,hsz];exact hg,fun j hj=>?_,fun j hj=>?_⟩ (Bl.of_below B hbel) hbel (Lm hB hbel) (by simp)
 ·have hj2:j<s.data.size:=by rw [hl] at hj;exact hj
  rw [bytesRow_at s _ j hj2,Fv s j hj2]
  rfl
 ·rw [hl] at hj;omega
theorem qng {i j r:Int} {k:IntKind} {t t':TypeId} (h:Opd need x (.val (Lit (.int k i)))) (h':Opd need y (.val (Lit (.int k j)))) (hr:bits .or k i j=r):jo P ⟨d,.binOp .or t x y t',ty,pos,af,g⟩ need (.val (Lit (.int k r))) false:=
 Ht h h' fun ρ w e1 e2=>by
  subst hr
  simp [execOp,e1,e2,eqGuard,binOp,Op.intArith,Op.intBits,Sem.run_bind]
  try rfl
end
section
variable {P:Program} {ops:Array Oper} {Q:Exit→Act→World→Prop} {N:Nat} {w0:World} {B0:Bx} {a:Act} {w:World} {B:Bx} {l:List (Tmp × FD)} {bxs:List Tmp}
theorem St.nameRw (H:St N w0 B0 a w B l bxs) (i:Nat) {s:Tmp} {m:Nat} {k:IntKind} {xs:List Int} (hi:l[i]?=some (s,.val (qa8 m k xs))):∃g,m≤g∧St N w0 B0 a w B (l.set i (s,.val (Lj g m k xs))) bxs:=by
 obtain ⟨g,hp⟩:=H.fc.get i hi
 refine ⟨g,hp.2.2.1,H.df,H.sz,Fct.of_all fun x hx=>?_,H.bx,H.ap,H.bel,H.own,H.own0⟩
 rcases List.mem_or_eq_of_mem_set hx with h | h
 ·exact H.fc.all x h
 ·subst h;exact hp
theorem ql7 {i:Nat} {K:Act→World→Prop} {g m:Nat} {f:FuncId} {k:IntKind} {xs ys:List Int} {s:Tmp} {x:Operand} {ts:Array TypeId} {ty:TypeId} {pos:String} {af:Array Edge} (rs:List Tmp) (is:List Nat) {ks l':List (Tmp × FD)}
  (H:St N w0 B0 a w B l bxs) (hm:w0.heap.size≤m) (ho:ops[i]?=some ⟨some s,.call { callee:=.value (.func f),args:=#[x],argTypes:=ts },ty,pos,af,none⟩) (he:∀(vs:Array Value) (w:World),(callFunc f vs).run P w=.ok (.enter f vs) w)
  (hx:Opd l x (.val (Lj g m k xs))) (hc:∀(c:Nat) (w:World),xs.length≤c→Kr w g k xs→Calls P f #[.slice (some ⟨g,0,none⟩) xs.length c] w (fun e w'=>e=.returned (.tuple #[])∧Kr w' g k ys∧Only g w w')) (hl2:ys.length=xs.length)
  (hks:is.map (fun i=>l[i]?)=ks.map some) (hk:Ho (some g) m ks) (hrs:∀s∈rs,(s,FD.val (Lj g m k xs))∈l) (hl:rs.map (fun s=>(s,FD.val (Lj g m k ys)))++ks=l') (hns:decide (∀x∈l',x.1≠s)=true) (hbs:bxs.contains s=false) (hsN:decide (s<N)=true)
  (hK:∀a w B,St N w0 B0 a w B l' bxs→K a w):wpOp P ops Q i K a w:=by
 obtain ⟨hkd,hB,hmg,c,hcl,e1,hr⟩:=hx a w B H.fc
 have hs:∀d,(some s:Option Tmp)=some d→d<a.tmps.size:=fun d hd2=>by
  injection hd2 with hd2
  subst hd2
  rw [H.sz]
  exact of_decide_eq_true hsN
 unfold wpOp
 simp only [ho]
 rw [if_pos (by simp [Region.wanted])]
 refine .inl ?_
 unfold Oper.wp
 have hr2:(execOp a.eval ⟨some s,.call { callee:=.value (.func f),args:=#[x],argTypes:=ts },ty,pos,af,none⟩).run P w=.ok (.enter f #[a.eval x]) w:=by
  simp [execOp,resolve,Act.eval,Deferred.ofValue,invoke,Sem.run_bind,he]
 rw [hr2,e1]
 refine (hc c w hcl hr).mono ?_
 rintro e w' ⟨rfl,hr3,hon⟩
 have hst:=St.wrote (w':=w') (g:=some g) (rs:=rs.map (fun s=>(s,FD.val (Lj g m k ys)))) H hm (Nat.le_of_eq hon.size.symm) (fun i hi hne=>hon.rest i fun e=>hne (by rw [e])) (fun b hb=>by
   injection hb with hb
   subst hb
   exact ⟨hmg,hB⟩) hon.os hon.tape hon.output hk (fun z hz=>by
   have h2:some z∈is.map (fun i=>l[i]?):=by rw [hks];exact List.mem_map.2 ⟨z,hz,rfl⟩
   obtain ⟨i,_,hi⟩:=List.mem_map.1 h2
   exact List.mem_of_getElem? hi) (fun z hz=>by
   obtain ⟨s,hs,rfl⟩:=List.mem_map.1 hz
   obtain ⟨hkd2,hB2,hm2,c2,hc2,e3,r2⟩:=H.fc.all _ (hrs s hs)
   exact ⟨hkd2,hB2,hm2,c2,by rw [hl2];exact hc2,by rw [hl2];exact e3,hr3⟩)
 rw [hl] at hst
 have hput:∀x,(a.put (some s) (.tuple #[])).tmps.getD x undef=if (some s:Option Tmp)=some x then .tuple #[] else a.tmps.getD x undef:=fun x=>Dc hs
 have hold:∀x,x∈bxs→(a.put (some s) (.tuple #[])).tmps.getD x undef=a.tmps.getD x undef:=fun x hx=>by
  rw [hput,if_neg ?_]
  intro e
  injection e with e
  subst e
  rw [←List.contains_iff_mem,hbs] at hx
  cases hx
 refine hK _ _ B ⟨put_defers.trans hst.df,Dk.trans hst.sz,Fct.of_all fun x hx=>?_,fun x hx=>?_,fun x hx y hy hxy=>?_,hst.bel,hst.own,hst.own0⟩
 ·have hne:=of_decide_eq_true hns x hx
  rw [hput,if_neg (fun e=>hne (by injection e with e;exact e.symm))]
  exact hst.fc.all x hx
 ·obtain ⟨b,h1,h2,h3⟩:=hst.bx x hx
  exact ⟨b,(hold x hx).trans h1,h2,h3⟩
 ·rw [hold x hx,hold y hy];exact hst.ap x hx y hy hxy
end
end Go.Proofs.YtbcbmkeeoognpaaGreatDoor

set_option maxRecDepth 50000
namespace Go.Proofs.YtbcbmkeeoognpaaGreatDoor
open Go Go.RowKit
abbrev pr (a n:Nat):List Ref:=(List.range' a n).map Ref.pre
abbrev i6 (x:Int):FD:=.val (Lit (.int .i64 x))
abbrev bv (b:Bool):FD:=.val (IsB b)
abbrev zs (m:Nat):FD:=.val (Sz m)
theorem cp {P:Program} {ops:Array Oper} {look:Ref→Tmp × FD} {d:Option Tmp} {op:Op} {ty:TypeId} {pos:String} {af:Array Edge} {r:List Ref} {D:FD} {al:Bool} {os:List Oper} {rs:List (List Ref)} {Ds:List FD} {als:List Bool}
  (h:jo P ⟨d,op,ty,pos,af,none⟩ (r.map look) D al) (t:Je P ops look os rs Ds als):Je P ops look (⟨d,op,ty,pos,af,none⟩ :: os) (r :: rs) (D :: Ds) (al :: als):=.cons (.plain rfl h) t
abbrev fs (n:Nat):List Bool:=List.replicate n false
section
variable {P:Program} {Q:Exit→Act→World→Prop} {w0 w:World} {B0 B:Bx} {a:Act}
theorem fr {id:Nat} {N:Nat} {opl:List Oper} {refs:List (List Ref)} {outs:List Ref} {als:List Bool} {posts:List FD} {pre out:List (Tmp × FD)} {bxs nb:List Tmp} {a:Act} {w w0:World} {B B0:Bx} (H:St N w0 B0 a w B pre bxs)
  (m:Nat) (rest:List Nat) (hr:List.range opl.toArray.size=List.range m++rest)
  (hck:Eg false .any opl.toArray m N ((opl.take m).map Oper.dst) (pre.map Prod.fst) bxs refs outs als=true) (hout:outs.map (Ai ((opl.take m).map Oper.dst) posts pre)=out) (hnb:Kw ((opl.take m).map Oper.dst) als=nb)
  (hall:Je P opl.toArray (Ai ((opl.take m).map Oper.dst) posts pre) opl refs posts als)
  (hfull:∀a w B,St N w0 B0 a w B out (nb++bxs)→wpOps P opl.toArray Q rest a w):(Code.region id opl.toArray false).wp P Q a w:=zf H m rest hr hck hout hnb hall hfull
theorem fd {id:Nat} {N:Nat} {opl:List Oper} {refs:List (List Ref)} {outs:List Ref} {als:List Bool} {posts:List FD} {pre out:List (Tmp × FD)} {bxs nb:List Tmp} (H:St N w0 B0 a w B pre bxs)
  (hm:P.follows .mixedOrders=true) (m:Nat) (fuel:Nat) (lst:Array Bool)
  (hck:Eg true .any opl.toArray m N ((opl.take m).map Oper.dst) (pre.map Prod.fst) bxs refs outs als=true) (hls:(decide (A7 opl.toArray.size m=lst) && decide (Ei lst=fuel))=true) (hout:outs.map (Ai ((opl.take m).map Oper.dst) posts pre)=out) (hnb:Kw ((opl.take m).map Oper.dst) als=nb)
  (hall:Je P opl.toArray (Ai ((opl.take m).map Oper.dst) posts pre) opl refs posts als)
  (hfull:∀a w B,St N w0 B0 a w B out (nb++bxs)→wpAny P .any opl.toArray Q fuel lst a w):(Code.region id opl.toArray true).wp P Q a w:=Vl H hm m fuel lst hck hls hout hnb hall hfull
end
def Ur (ng:Bool) (V:Int):VP:=⟨fun v w B=>∃ad n c,v=.agg #[.bool ng,.slice ad n c]∧Num w ad n c V∧n≤LIM,fun v w B w' B' h hp=>by
 obtain ⟨ad,n,c,e,k,l⟩:=hp
 obtain ⟨xs,h1,h2,h3⟩:=k.row
 exact ⟨ad,n,c,e,⟨k.le,xs,h1.mv h (.inl rfl),h2,h3⟩,l⟩⟩
theorem qk5 {ng:Bool} {V:Int}:Shape 2 (Ur ng V):=fun v w B ⟨ad,n,c,e,_⟩=>Rl e
theorem qi3 {f:FuncId} {R:Int→VP} (h:∀ng V,0≤V→Fits V→Con Tryz.prog f [Ur ng V] (R (sI ng V))) (X:Int):Con Tryz.prog f [IsN X] (R X):=by
 refine ⟨(h false 0 (by omega) ⟨0,by have:=Ed;omega,by unfold yz;simp⟩).enters,fun vs w B hB hV=>?_⟩
 match vs,hV with
 | [v],⟨h1,_⟩=>
  obtain ⟨ng,ad,n,c,V,rfl,k,l,rfl⟩:=h1
  exact (h ng V k.nonneg (PM.fit (v:=.slice ad n c) (B:=B) ⟨ad,n,c,rfl,k,l⟩)).calls _ w B hB ⟨⟨ad,n,c,rfl,k,l⟩,trivial⟩
section
variable {need:List (Tmp × FD)} {d:Option Tmp} {ty:TypeId} {pos:String} {af:Array Edge} {g:Option (Nat × Bool)} {x y:Operand}
theorem qas {ng:Bool} {V:Int} (h:Opd need x (.ptr 52 2 (Ur ng V) 0)):jo Tryz.prog ⟨d,.load 4 x,ty,pos,af,g⟩ need (.val (IsB ng)) false:=
 Bi qe6 h (by decide) fun cs v w B ⟨ad,n,c,e,_⟩ hv=>by
  injection e with e
  subst e
  simp at hv
  exact hv.symm
theorem qar {ng:Bool} {V:Int} (h:Opd need x (.ptr 52 2 (Ur ng V) 1)):jo Tryz.prog ⟨d,.load 23 x,ty,pos,af,g⟩ need (.val (IsM V)) false:=
 Bi Pg h (by decide) fun cs v w B ⟨ad,n,c,e,k,l⟩ hv=>by
  injection e with e
  subst e
  simp at hv
  exact ⟨ad,n,c,hv.symm,k,l⟩
theorem He {b:Bool} {V N:Int} (hx:Opd need x (.val (IsB b))) (hy:Opd need y (.val (zg V))) (hb:b=decide (N<0)) (hV:V=(N.natAbs:Int)):jo Tryz.prog ⟨d,.build 52 #[(0,x),(1,y)],ty,pos,af,g⟩ need (.val (zn N)) false:=
 jo.value fun a w B hF=>by
  have e1:a.eval x=.bool b:=hx a w B hF
  obtain ⟨⟨ad,n,c,e,k2,l,hV0⟩,k,h2⟩:=hy a w B hF
  have e2:a.eval y=.slice ad n c:=e
  refine ⟨.agg #[.bool b,.slice ad n c],?_,⟨ad,n,c,by rw [hb],by rw [←hV];exact k2,l⟩,k,b,_,rfl,e ▸ h2⟩
  have:=Xi b (.slice ad n c) w rfl
  simp [execOp,e1,e2,this]
theorem qch {V N:Int} (hy:Opd need x (.val (zg V))) (hV:V=(N.natAbs:Int)) (hN:0≤N):jo Tryz.prog ⟨d,.build 52 #[(1,x)],ty,pos,af,g⟩ need (.val (zn N)) false:=
 jo.value fun a w B hF=>by
  obtain ⟨⟨ad,n,c,e,k2,l,hV0⟩,k,h2⟩:=hy a w B hF
  have e2:a.eval x=.slice ad n c:=e
  refine ⟨.agg #[.bool false,.slice ad n c],?_,⟨ad,n,c,by rw [decide_eq_false (by omega)],by rw [←hV];exact k2,l⟩,k,false,_,rfl,e ▸ h2⟩
  have:=Xg ad n c w
  simp [execOp,e2,this]
end
theorem Va (x:Int) (hx:0≤x∧x<18446744073709551616):Con Tryz.prog 208 [Lit (.int .u64 x)] (zg x):=by
 refine ⟨fun _ _=>by go_simp,fun vs w B hB hV=>?_⟩
 match vs,hV with
 | [v],⟨h1,_⟩=>
  obtain rfl:=h1
  refine (qcr x w hx.1 hx.2).mono ?_
  rintro e w' ⟨ad2,n2,c2,rfl,o,hb⟩
  exact ⟨_,rfl,Fb (k:=0) hB o ⟨2,by have:=Ed;omega,by unfold yz;rw [show (4294967296:Int) ^ 2=18446744073709551616 from by decide];omega⟩ hx.1,hb⟩
theorem qhb {ng:Bool} {V:Int} (hV:0≤V):(ng && decide (0<((dg 4294967296 V).length:Int)))=decide (sI ng V<0):=by
 have h:=Fz hV
 have h0:(0:Int)≤((dg 4294967296 V).length:Int):=by omega
 unfold sI
 cases ng
 ·rw [Bool.false_and,if_neg (by simp)]
  exact (decide_eq_false (by omega)).symm
 ·rw [Bool.true_and,if_pos rfl]
  refine decide_eq_decide.2 ?_
  constructor
  ·intro h2
   rcases Int.lt_or_eq_of_le hV with h3 | h3
   ·omega
   ·exact absurd (h.2 h3.symm) (by omega)
  ·intro h2
   rcases Int.lt_or_eq_of_le h0 with h3 | h3
   ·exact h3
   ·exact absurd (h.1 h3.symm) (by omega)
theorem qkn {ng:Bool} {V:Int} (hV:0≤V):V=((sI ng V).natAbs:Int):=by unfold sI;split <;> omega
theorem qni (X Y:Int):IntKind.i8.wrap (sgI X*sgI Y)=sgI X*sgI Y:=by
 rw [Xl]
 have:=Zl (X*Y)
 exact qoz (by omega)
theorem qkk (X Y:Int):(if sgI X*sgI Y = -1 then -((X.natAbs:Int)*(Y.natAbs:Int)) else (X.natAbs:Int)*(Y.natAbs:Int))=X*Y:=by
 rw [Xl,←Int.natCast_mul,←Int.natAbs_mul]
 exact qfp (X*Y)
theorem Qm (X:Int):(X<0∧sgI X = -1)∨(X=0∧sgI X=0)∨(0<X∧sgI X=1):=by
 unfold sgI
 rcases Int.lt_trichotomy X 0 with h | h | h
 ·rw [if_pos h];exact .inl ⟨h,rfl⟩
 ·subst h;exact .inr (.inl ⟨rfl,rfl⟩)
 ·rw [if_neg (by omega),if_neg (by omega)];exact .inr (.inr ⟨h,rfl⟩)
theorem qow (X:Int) : -(sgI X)=sgI (-X):=by
 have:=Qm X
 have:=Qm (-X)
 omega
end Go.Proofs.YtbcbmkeeoognpaaGreatDoor
