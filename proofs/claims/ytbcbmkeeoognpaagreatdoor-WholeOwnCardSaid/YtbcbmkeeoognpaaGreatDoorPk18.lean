/- Contracts of functions, and plain facts, part 18. -/
import Derived.Test.YtbcbmkeeoognpaaGreatDoorPk4
import Derived.Test.YtbcbmkeeoognpaaGreatDoorPk7
import Derived.Test.YtbcbmkeeoognpaaGreatDoorPk15
import Derived.Test.YtbcbmkeeoognpaaGreatDoorPk16
import Derived.Test.YtbcbmkeeoognpaaGreatDoorPk17
set_option linter.unusedVariables false
set_option linter.unusedSimpArgs false
namespace Go.Proofs.YtbcbmkeeoognpaaGreatDoor
open Go Go.RowKit
set_option maxRecDepth 20000 in
set_option maxHeartbeats 2000000 in
theorem Nz (xs:List Int) (hd:Dig 4294967296 xs) (i:Int) (hi:0≤i):Con Tryz.prog 238 [IsL .u32 xs,Lit (.int .i64 i)] (Lit (.int .u64 (xs[i.toNat]?.getD 0))):=by
 refine Ba (N:=14) Tryz.ntmps238 (fun _ _=>by go_simp) Tryz.func238 rfl (by simp) ?_
 intro a0 w0 B0 H0
 replace H0:St 14 w0 B0 a0 w0 B0 [(0,.val (IsL .u32 xs)),(1,.val (Lit (.int .i64 i)))] []:=H0
 have hb:=hd.get (by omega) i.toNat
 refine wp_seq ?_
 refine zf (dsts:=[some 4]) (refs:=[[]]) (outs:=[.res 0,.pre 0,.pre 1]) (als:=[false]) (posts:=[.val (Lit (.int .u64 0))])
  (out:=[(4,.val (Lit (.int .u64 0))),(0,.val (IsL .u32 xs)),(1,.val (Lit (.int .i64 i)))]) (nb:=[]) H0 1 [] rfl (by kernel_rfl) rfl rfl ?_ ?_
 ·refine .cons (.plain rfl (qm (.lit))) ?_
  exact .nil
 clear H0
 intro a1 w1 B1 H1
 refine qi ?_
 refine qg ?_
 refine wp_seq ?_
 refine wp_seq ?_
 refine zf (dsts:=[some 5,some 6,some 7,some 8]) (refs:=[[.pre 2],[.pre 1],[.res 1],[.res 0,.res 2]]) (outs:=[.res 3,.pre 0,.pre 1,.pre 2]) (als:=[false,false,false,false]) (posts:=[.val (Lit (.int .i64 i)),.val (IsL .u32 xs),.val (Lit (.int .i64 (List.length xs:Int))),.val (IsB (decide (i<(List.length xs:Int))))])
  (out:=[(8,.val (IsB (decide (i<(List.length xs:Int))))),(4,.val (Lit (.int .u64 0))),(0,.val (IsL .u32 xs)),(1,.val (Lit (.int .i64 i)))]) (nb:=[]) H1 4 [] rfl (by kernel_rfl) rfl rfl ?_ ?_
 ·refine .cons (.plain rfl (qh (.tmp 0 rfl))) ?_
  refine .cons (.plain rfl (qh (.tmp 0 rfl))) ?_
  refine .cons (.plain rfl (Eu Tryz.underlying23 (.tmp 0 rfl))) ?_
  refine .cons (.plain rfl (jq (.tmp 0 rfl) (.tmp 1 rfl) rfl)) ?_
  exact .nil
 clear H1 a1 w1 B1
 intro a2 w2 B2 H2
 refine qi ?_
 refine qg ?_
 refine Aa H2 (.tmp 0 rfl) ?_ ?_
 ·intro hc3
  replace hc3:=of_decide_eq_true hc3
  refine wp_seq ?_
  refine zf (dsts:=[some 9,some 10,some 11,some 12,some 13,some 4]) (refs:=[[.pre 2],[.pre 3],[.res 0,.res 1],[.res 2],[.res 3],[.res 4]]) (outs:=[.res 5]) (als:=[false,false,false,false,false,false]) (posts:=[.val (IsL .u32 xs),.val (Lit (.int .i64 i)),.val (Fh .u32 (xs[i.toNat]?.getD 0)),.val (Lit (.int .u32 (xs[i.toNat]?.getD 0))),.val (Lit (.int .u64 (xs[i.toNat]?.getD 0))),.val (Lit (.int .u64 (xs[i.toNat]?.getD 0)))])
   (out:=[(4,.val (Lit (.int .u64 (xs[i.toNat]?.getD 0))))]) (nb:=[]) H2 6 [] rfl (by kernel_rfl) rfl rfl ?_ ?_
  ·refine .cons (.plain rfl (qh (.tmp 0 rfl))) ?_
   refine .cons (.plain rfl (qh (.tmp 0 rfl))) ?_
   refine .cons (.plain rfl (Et (xs:=xs) i.toNat Tryz.underlying23 Bf (.tmp 0 rfl) (.tmp 1 rfl) (by omega) (by omega))) ?_
   refine .cons (.plain rfl (Ap Jd (.tmp 0 rfl))) ?_
   refine .cons (.plain rfl (Ee Tryz.underlying44 Tryz.underlying49 (r:=(xs[i.toNat]?.getD 0)) (.tmp 0 rfl) (Gp (by omega)))) ?_
   refine .cons (.plain rfl (qm (.tmp 0 rfl))) ?_
   exact .nil
  clear H2 a2 w2 B2
  intro a4 w4 B4 H4
  refine qi ?_
  refine qg ?_
  refine wp_ret ?_
  refine yh ?_
  exact Rz H4 rfl 0 rfl (fun _ _ _ h=>h)
 ·intro hc3
  replace hc3:=of_decide_eq_false hc3
  refine wp_skip ?_
  refine qg ?_
  refine wp_seq ?_
  refine zf (dsts:=[some 4]) (refs:=[[]]) (outs:=[.res 0]) (als:=[false]) (posts:=[.val (Lit (.int .u64 0))])
   (out:=[(4,.val (Lit (.int .u64 0)))]) (nb:=[]) H2 1 [] rfl (by kernel_rfl) rfl rfl ?_ ?_
  ·refine .cons (.plain rfl (qm (.lit))) ?_
   exact .nil
  clear H2 a2 w2 B2
  intro a5 w5 B5 H5
  refine qi ?_
  refine qg ?_
  refine wp_ret ?_
  exact Rz H5 rfl 0 rfl (fun v w B h=>by refine Gz ?_ h;first | rfl | (rw [List.getElem?_eq_none (by omega)];rfl))
def low (xs:List Int) (i:Nat):Int:=val 4294967296 (xs.take i)
theorem I9 (xs:List Int) (i:Nat):low xs (i+1)=low xs i+4294967296 ^ i*xs[i]?.getD 0:=zy _ _ _
theorem Mc (xs:List Int) (i:Nat) (h:xs.length≤i):low xs i=val 4294967296 xs:=by unfold low;rw [List.take_of_length_le h]
theorem qkg (xs:List Int) (d:Dig 4294967296 xs) (i:Nat):0≤low xs i∧low xs i<4294967296 ^ i:=by
 refine ⟨zt (by omega) (d.take i),?_⟩
 have h:=Au (b:=4294967296) (by omega) (d.take i)
 have h2:(4294967296:Int) ^ (xs.take i).length≤4294967296 ^ i:=Ew (by omega) (by rw [List.length_take];omega)
 unfold low
 omega
structure Zq (xs ys:List Int) (q:Int) (i:Nat) (c s:Int):Prop where
 cb:0≤c∧c<4294967296
 sg:s = -1∨s=0∨s=1
 eq:∃d:Int,q*low ys i=low xs i+d+4294967296 ^ i*c∧(s = -1↔d<0)∧(s=1↔0<d) ∧ -(4294967296 ^ i)<d∧d<4294967296 ^ i
theorem qgr (xs ys:List Int) (q:Int):Zq xs ys q 0 0 0:=⟨by omega,by omega,0,by simp [low,val],by omega,by omega,by simp,by simp⟩
theorem Vg {xs ys:List Int} (dx:Dig 4294967296 xs) (dy:Dig 4294967296 ys) {q:Int} (hq:0≤q∧q<4294967296) {i:Nat} {c s:Int} (h:Zq xs ys q i c s) :
  Zq xs ys q (i+1) ((ys[i]?.getD 0*q+c) / 4294967296) (if (ys[i]?.getD 0*q+c) % 4294967296=xs[i]?.getD 0 then s else if (ys[i]?.getD 0*q+c) % 4294967296<xs[i]?.getD 0 then -1 else 1):=by
 obtain ⟨hc,hs,d,he,h1,h2,h3,h4⟩:=h
 have hy:=dy.get (by omega) i
 have hx:=dx.get (by omega) i
 have hp:(0:Int)<4294967296 ^ i:=Int.pow_pos (by omega)
 have hm:ys[i]?.getD 0*q≤4294967295*4294967295:=Int.mul_le_mul (by omega) (by omega) hq.1 (by omega)
 have hm0:0≤ys[i]?.getD 0*q:=Int.mul_nonneg hy.1 hq.1
 have ht:ys[i]?.getD 0*q+c=4294967296*((ys[i]?.getD 0*q+c) / 4294967296)+(ys[i]?.getD 0*q+c) % 4294967296:=(Int.mul_ediv_add_emod _ _).symm
 generalize hT:ys[i]?.getD 0*q+c=T at *
 obtain ⟨u,hu⟩:∃u,T % 4294967296=u:=⟨_,rfl⟩
 obtain ⟨cc,hcc⟩:∃cc,T / 4294967296=cc:=⟨_,rfl⟩
 have hub:0≤u∧u<4294967296:=by omega
 have hcb:0≤cc∧cc<4294967296:=by omega
 rw [hu,hcc] at ht ⊢
 refine ⟨hcb,by split <;> (try split) <;> omega,d+4294967296 ^ i*(u-xs[i]?.getD 0),?_,?_⟩
 ·rw [I9,I9,Int.mul_add,he,Int.pow_succ]
  have e:q*(4294967296 ^ i*ys[i]?.getD 0)=4294967296 ^ i*(T-c):=by rw [←hT];grind
  rw [e,ht]
  grind
 ·rw [Int.pow_succ]
  generalize xs[i]?.getD 0=x at *
  generalize (4294967296:Int) ^ i=P at *
  have b1:P*(u-x)≤P*4294967295:=Int.mul_le_mul_of_nonneg_left (by omega) (by omega)
  have b2:P*(-4294967295)≤P*(u-x):=Int.mul_le_mul_of_nonneg_left (by omega) (by omega)
  by_cases e:u=x
  ·subst e
   rw [if_pos rfl,Int.sub_self,Int.mul_zero,Int.add_zero]
   omega
  ·rw [if_neg e]
   by_cases g:u<x
   ·have b3:P*(u-x)≤P*(-1):=Int.mul_le_mul_of_nonneg_left (by omega) (by omega)
    rw [if_pos g]
    generalize P*(u-x)=Z at *
    omega
   ·have b3:P*1≤P*(u-x):=Int.mul_le_mul_of_nonneg_left (by omega) (by omega)
    rw [if_neg g]
    generalize P*(u-x)=Z at *
    omega
theorem ql5 {xs ys:List Int} (dx:Dig 4294967296 xs) {q:Int} {i:Nat} {s:Int} (h:Zq xs ys q i 0 s) (h1:xs.length≤i) (h2:ys.length≤i):(s≤0)↔q*val 4294967296 ys≤val 4294967296 xs:=by
 obtain ⟨hc,hs,d,he,g1,g2,g3,g4⟩:=h
 rw [Mc _ _ h1,Mc _ _ h2,Int.mul_zero,Int.add_zero] at he
 omega
set_option maxRecDepth 20000 in
set_option maxHeartbeats 2000000 in
theorem qi4 (xs ys:List Int) (dx:Dig 4294967296 xs) (dy:Dig 4294967296 ys) (hx:xs.length≤1099511627776) (hy:ys.length≤1099511627776) (q:Int) (hq:0≤q∧q<4294967296):Con Tryz.prog 239 [IsL .u32 xs,IsL .u32 ys,Lit (.int .u32 q)] (IsB (decide (q*val 4294967296 ys≤val 4294967296 xs))):=by
 refine Ba (N:=51) Tryz.ntmps239 (fun _ _=>by go_simp) Tryz.func239 rfl (by simp) ?_
 intro a0 w0 B0 H0
 replace H0:St 51 w0 B0 a0 w0 B0 [(0,.val (IsL .u32 xs)),(1,.val (IsL .u32 ys)),(2,.val (Lit (.int .u32 q)))] []:=H0
 refine wp_seq ?_
 refine zf (dsts:=[some 6]) (refs:=[[]]) (outs:=[.res 0,.pre 0,.pre 1,.pre 2]) (als:=[false]) (posts:=[.val (IsB false)])
  (out:=[(6,.val (IsB false)),(0,.val (IsL .u32 xs)),(1,.val (IsL .u32 ys)),(2,.val (Lit (.int .u32 q)))]) (nb:=[]) H0 1 [] rfl (by kernel_rfl) rfl rfl ?_ ?_
 ·refine .cons (.plain rfl (qm (.lit))) ?_
  exact .nil
 clear H0
 intro a1 w1 B1 H1
 refine qi ?_
 refine qg ?_
 refine wp_seq ?_
 refine zf (dsts:=[some 7]) (refs:=[[]]) (outs:=[.res 0,.pre 0,.pre 1,.pre 2,.pre 3]) (als:=[false]) (posts:=[.val (Lit (.int .i64 0))])
  (out:=[(7,.val (Lit (.int .i64 0))),(6,.val (IsB false)),(0,.val (IsL .u32 xs)),(1,.val (IsL .u32 ys)),(2,.val (Lit (.int .u32 q)))]) (nb:=[]) H1 1 [] rfl (by kernel_rfl) rfl rfl ?_ ?_
 ·refine .cons (.plain rfl (qm (.lit))) ?_
  exact .nil
 clear H1 a1 w1 B1
 intro a2 w2 B2 H2
 refine qi ?_
 refine qg ?_
 refine wp_seq ?_
 refine zf (dsts:=[some 8]) (refs:=[[]]) (outs:=[.res 0,.pre 0,.pre 1,.pre 2,.pre 3,.pre 4]) (als:=[false]) (posts:=[.val (Lit (.int .u64 0))])
  (out:=[(8,.val (Lit (.int .u64 0))),(7,.val (Lit (.int .i64 0))),(6,.val (IsB false)),(0,.val (IsL .u32 xs)),(1,.val (IsL .u32 ys)),(2,.val (Lit (.int .u32 q)))]) (nb:=[]) H2 1 [] rfl (by kernel_rfl) rfl rfl ?_ ?_
 ·refine .cons (.plain rfl (qm (.lit))) ?_
  exact .nil
 clear H2 a2 w2 B2
 intro a3 w3 B3 H3
 refine qi ?_
 refine qg ?_
 refine wp_seq ?_
 refine wp_seq ?_
 refine zf (dsts:=[some 9]) (refs:=[[]]) (outs:=[.res 0,.pre 0,.pre 1,.pre 2,.pre 3,.pre 4,.pre 5]) (als:=[false]) (posts:=[.val (Lit (.int .i64 0))])
  (out:=[(9,.val (Lit (.int .i64 0))),(8,.val (Lit (.int .u64 0))),(7,.val (Lit (.int .i64 0))),(6,.val (IsB false)),(0,.val (IsL .u32 xs)),(1,.val (IsL .u32 ys)),(2,.val (Lit (.int .u32 q)))]) (nb:=[]) H3 1 [] rfl (by kernel_rfl) rfl rfl ?_ ?_
 ·refine .cons (.plain rfl (qm (.lit))) ?_
  exact .nil
 clear H3 a3 w3 B3
 intro a4 w4 B4 H4
 refine qi ?_
 refine qg ?_
 refine wp_block ?_
 refine Gq (fun (⟨i,c,g⟩:Int × Int × Int)=>[(9,.val (Lit (.int .i64 i))),(8,.val (Lit (.int .u64 c))),(7,.val (Lit (.int .i64 g))),(6,.val (IsB false)),(0,.val (IsL .u32 xs)),(1,.val (IsL .u32 ys)),(2,.val (Lit (.int .u32 q)))]) (fun (⟨i,c,g⟩:Int × Int × Int)=>(0≤i∧i≤(xs.length:Int)+(ys.length:Int)+1)∧Zq xs ys q i.toNat c g∧((xs.length:Int)<i→(ys.length:Int)<i→c=0)) (fun (⟨i,c,g⟩:Int × Int × Int)=>((xs.length:Int)+(ys.length:Int)+2-i).toNat) (⟨0,0,0⟩) (St.pick H4 [0,1,2,3,4,5,6] rfl) (by exact ⟨by omega,qgr _ _ _,fun h=>by omega⟩) ?_
 clear H4 a4 w4 B4
 rintro ⟨i,c,g⟩ a5 w5 B5 hI5 H5
 replace hI5:(0≤i∧i≤(xs.length:Int)+(ys.length:Int)+1)∧Zq xs ys q i.toNat c g∧((xs.length:Int)<i→(ys.length:Int)<i→c=0):=hI5
 replace H5:St 51 w0 B0 a5 w5 B5 [(9,.val (Lit (.int .i64 i))),(8,.val (Lit (.int .u64 c))),(7,.val (Lit (.int .i64 g))),(6,.val (IsB false)),(0,.val (IsL .u32 xs)),(1,.val (IsL .u32 ys)),(2,.val (Lit (.int .u32 q)))] []:=H5
 obtain ⟨hi,hF,hz⟩:=hI5
 have hcb:=hF.cb
 have hyb:=dy.get (by omega) i.toNat
 have hxb:=dx.get (by omega) i.toNat
 have hmul:0≤ys[i.toNat]?.getD 0*q∧ys[i.toNat]?.getD 0*q≤4294967295*4294967295:=⟨Int.mul_nonneg hyb.1 hq.1,Int.mul_le_mul (by omega) (by omega) hq.1 (by omega)⟩
 refine wp_seq ?_
 refine wp_seq ?_
 refine zf (dsts:=[some 12,some 13,some 14,some 15,some 16,some 17,some 18,some 19,some 20,some 21,some 22,some 23,some 24,some 25]) (refs:=[[.pre 0],[.pre 5],[.res 1],[.res 0,.res 2],[.res 3],[.res 4,.pre 0],[.res 4,.pre 4],[.res 4,.res 6],[.res 4,.res 5,.res 7],[.res 4,.res 8],[.res 9],[.res 10,.pre 1],[.res 10,.res 11],[.res 10,.res 12]]) (outs:=[.res 13,.pre 0,.pre 1,.pre 2,.pre 3,.pre 4,.pre 5,.pre 6]) (als:=[false,false,false,false,false,false,false,false,false,false,false,false,false,false]) (posts:=[.val (Lit (.int .i64 i)),.val (IsL .u32 ys),.val (Lit (.int .i64 (List.length ys:Int))),.val (IsB (decide (i<(List.length ys:Int)))),.val (IsB (decide (i<(List.length ys:Int)))),.val (Grd ((decide (i<(List.length ys:Int))) == false) (Lit (.int .i64 i))),.val (Grd ((decide (i<(List.length ys:Int))) == false) (IsL .u32 xs)),.val (Grd ((decide (i<(List.length ys:Int))) == false) (Lit (.int .i64 (List.length xs:Int)))),.val (Grd ((decide (i<(List.length ys:Int))) == false) (IsB (decide (i<(List.length xs:Int))))),.val (IsB ((decide (i<(List.length ys:Int))) || (decide (i<(List.length xs:Int))))),.val (IsB ((decide (i<(List.length ys:Int))) || (decide (i<(List.length xs:Int))))),.val (Grd (((decide (i<(List.length ys:Int))) || (decide (i<(List.length xs:Int)))) == false) (Lit (.int .u64 c))),.val (Grd (((decide (i<(List.length ys:Int))) || (decide (i<(List.length xs:Int)))) == false) (IsB (decide (0<c)))),.val (IsB (((decide (i<(List.length ys:Int))) || (decide (i<(List.length xs:Int)))) || (decide (0<c))))])
  (out:=[(25,.val (IsB (((decide (i<(List.length ys:Int))) || (decide (i<(List.length xs:Int)))) || (decide (0<c))))),(9,.val (Lit (.int .i64 i))),(8,.val (Lit (.int .u64 c))),(7,.val (Lit (.int .i64 g))),(6,.val (IsB false)),(0,.val (IsL .u32 xs)),(1,.val (IsL .u32 ys)),(2,.val (Lit (.int .u32 q)))]) (nb:=[]) H5 14 [] rfl (by kernel_rfl) rfl rfl ?_ ?_
 ·refine .cons (.plain rfl (qh (.tmp 0 rfl))) ?_
  refine .cons (.plain rfl (qh (.tmp 0 rfl))) ?_
  refine .cons (.plain rfl (Eu Tryz.underlying23 (.tmp 0 rfl))) ?_
  refine .cons (.plain rfl (jq (.tmp 0 rfl) (.tmp 1 rfl) rfl)) ?_
  refine .cons (.plain rfl (qh (.tmp 0 rfl))) ?_
  refine .cons (.sym 4 false (decide (i<(List.length ys:Int))) ((decide (i<(List.length ys:Int))) == false) rfl rfl rfl 0 (need':=[(16,.val (IsB (decide (i<(List.length ys:Int))))),(9,.val (Lit (.int .i64 i)))]) rfl rfl (fun a w B e h=>⟨h.1,h.2.1,trivial⟩) (fun e=>qh (.tmp 1 rfl))) ?_
  refine .cons (.sym 4 false (decide (i<(List.length ys:Int))) ((decide (i<(List.length ys:Int))) == false) rfl rfl rfl 0 (need':=[(16,.val (IsB (decide (i<(List.length ys:Int))))),(0,.val (IsL .u32 xs))]) rfl rfl (fun a w B e h=>⟨h.1,h.2.1,trivial⟩) (fun e=>qh (.tmp 1 rfl))) ?_
  refine .cons (.sym 4 false (decide (i<(List.length ys:Int))) ((decide (i<(List.length ys:Int))) == false) rfl rfl rfl 0 (need':=[(16,.val (IsB (decide (i<(List.length ys:Int))))),(18,.val (IsL .u32 xs))]) rfl rfl (fun a w B e h=>⟨h.1,h.2.1.1 (e),trivial⟩) (fun e=>Eu Tryz.underlying23 (.tmp 1 rfl))) ?_
  refine .cons (.sym 4 false (decide (i<(List.length ys:Int))) ((decide (i<(List.length ys:Int))) == false) rfl rfl rfl 0 (need':=[(16,.val (IsB (decide (i<(List.length ys:Int))))),(17,.val (Lit (.int .i64 i))),(19,.val (Lit (.int .i64 (List.length xs:Int))))]) rfl rfl (fun a w B e h=>⟨h.1,h.2.1.1 (e),h.2.2.1.1 (e),trivial⟩) (fun e=>jq (.tmp 1 rfl) (.tmp 2 rfl) rfl)) ?_
  refine .cons (.plain rfl (F8 (decide (i<(List.length ys:Int))) (.tmp 0 rfl) (fun e=>Opd.eqB (.lit) (by rw [e];rfl)) (fun e=>Opd.eqB (Opd.grd (.tmp 1 rfl) (by first | (rw [e];rfl) | (simp only [e];rfl) | (simp [*] at *;done))) (by rw [e];rfl)))) ?_
  refine .cons (.plain rfl (qh (.tmp 0 rfl))) ?_
  refine .cons (.sym 10 false ((decide (i<(List.length ys:Int))) || (decide (i<(List.length xs:Int)))) (((decide (i<(List.length ys:Int))) || (decide (i<(List.length xs:Int)))) == false) rfl rfl rfl 0 (need':=[(22,.val (IsB ((decide (i<(List.length ys:Int))) || (decide (i<(List.length xs:Int)))))),(8,.val (Lit (.int .u64 c)))]) rfl rfl (fun a w B e h=>⟨h.1,h.2.1,trivial⟩) (fun e=>qh (.tmp 1 rfl))) ?_
  refine .cons (.sym 10 false ((decide (i<(List.length ys:Int))) || (decide (i<(List.length xs:Int)))) (((decide (i<(List.length ys:Int))) || (decide (i<(List.length xs:Int)))) == false) rfl rfl rfl 0 (need':=[(22,.val (IsB ((decide (i<(List.length ys:Int))) || (decide (i<(List.length xs:Int)))))),(23,.val (Lit (.int .u64 c)))]) rfl rfl (fun a w B e h=>⟨h.1,h.2.1.1 (e),trivial⟩) (fun e=>jq (.tmp 1 rfl) (.lit) rfl)) ?_
  refine .cons (.plain rfl (F8 ((decide (i<(List.length ys:Int))) || (decide (i<(List.length xs:Int)))) (.tmp 0 rfl) (fun e=>Opd.eqB (.lit) (by rw [e];rfl)) (fun e=>Opd.eqB (Opd.grd (.tmp 1 rfl) (by first | (rw [e];rfl) | (simp only [e];rfl) | (simp [*] at *;done))) (by rw [e];rfl)))) ?_
  exact .nil
 clear H5 a5 w5 B5
 intro a6 w6 B6 H6
 refine qi ?_
 refine qg ?_
 refine Aa H6 (.tmp 0 rfl) ?_ ?_
 ·intro hc7
  rw [Bool.or_eq_true,Bool.or_eq_true,decide_eq_true_eq,decide_eq_true_eq,decide_eq_true_eq] at hc7
  have hi3:i≤(xs.length:Int)+(ys.length:Int):=by
   rcases hc7 with (h | h) | h
   ·omega
   ·omega
   ·rcases Int.lt_or_le (xs.length:Int) i with g1 | g1
    ·rcases Int.lt_or_le (ys.length:Int) i with g2 | g2
     ·have:=hz g1 g2;omega
     ·omega
    ·omega
  refine wp_skip ?_
  refine qg ?_
  refine wp_seq ?_
  refine wp_block ?_
  refine wp_seq ?_
  refine zf (dsts:=[some 28,some 29,some 30,some 31,some 32,some 33,some 34,some 35,some 10]) (refs:=[[.pre 6],[.pre 1],[.res 0,.res 1],[.pre 7],[.res 3],[.res 2,.res 4],[.pre 2],[.res 5,.res 6],[.res 7]]) (outs:=[.res 8,.pre 1,.pre 2,.pre 3,.pre 4,.pre 5,.pre 6,.pre 7]) (als:=[false,false,false,false,false,false,false,false,false]) (posts:=[.val (IsL .u32 ys),.val (Lit (.int .i64 i)),.val (Lit (.int .u64 (ys[i.toNat]?.getD 0))),.val (Lit (.int .u32 q)),.val (Lit (.int .u64 q)),.val (Lit (.int .u64 ((ys[i.toNat]?.getD 0)*q))),.val (Lit (.int .u64 c)),.val (Lit (.int .u64 (((ys[i.toNat]?.getD 0)*q)+c))),.val (Lit (.int .u64 (((ys[i.toNat]?.getD 0)*q)+c)))])
   (out:=[(10,.val (Lit (.int .u64 (((ys[i.toNat]?.getD 0)*q)+c)))),(9,.val (Lit (.int .i64 i))),(8,.val (Lit (.int .u64 c))),(7,.val (Lit (.int .i64 g))),(6,.val (IsB false)),(0,.val (IsL .u32 xs)),(1,.val (IsL .u32 ys)),(2,.val (Lit (.int .u32 q)))]) (nb:=[]) H6 9 [] rfl (by kernel_rfl) rfl rfl ?_ ?_
  ·refine .cons (.plain rfl (qh (.tmp 0 rfl))) ?_
   refine .cons (.plain rfl (qh (.tmp 0 rfl))) ?_
   refine .cons (.plain rfl (zl ((Nz ys dy i (by omega)).weak (fun v w B h=>Gz (by rw [show (i).toNat=i.toNat by omega]) h)) (.cons (.tmp 0 rfl) (.cons (.tmp 1 rfl) (.nil))))) ?_
   refine .cons (.plain rfl (qh (.tmp 0 rfl))) ?_
   refine .cons (.plain rfl (Ee Tryz.underlying44 Tryz.underlying49 (r:=q) (.tmp 0 rfl) (Gp (by omega)))) ?_
   refine .cons (.plain rfl (Nh (r:=((ys[i.toNat]?.getD 0)*q)) (.tmp 0 rfl) (.tmp 1 rfl) (Gp (by omega)))) ?_
   refine .cons (.plain rfl (qh (.tmp 0 rfl))) ?_
   refine .cons (.plain rfl (Aq (r:=(((ys[i.toNat]?.getD 0)*q)+c)) (.tmp 0 rfl) (.tmp 1 rfl) (Gp (by omega)))) ?_
   refine .cons (.plain rfl (qm (.tmp 0 rfl))) ?_
   exact .nil
  clear H6 a6 w6 B6
  intro a8 w8 B8 H8
  refine qi ?_
  refine qg ?_
  refine wp_seq ?_
  refine zf (dsts:=[some 36,some 37,some 8]) (refs:=[[.pre 0],[.res 0],[.res 1]]) (outs:=[.res 2,.pre 0,.pre 1,.pre 3,.pre 4,.pre 5,.pre 6,.pre 7]) (als:=[false,false,false]) (posts:=[.val (Lit (.int .u64 (((ys[i.toNat]?.getD 0)*q)+c))),.val (Lit (.int .u64 ((((ys[i.toNat]?.getD 0)*q)+c) / 4294967296))),.val (Lit (.int .u64 ((((ys[i.toNat]?.getD 0)*q)+c) / 4294967296)))])
   (out:=[(8,.val (Lit (.int .u64 ((((ys[i.toNat]?.getD 0)*q)+c) / 4294967296)))),(10,.val (Lit (.int .u64 (((ys[i.toNat]?.getD 0)*q)+c)))),(9,.val (Lit (.int .i64 i))),(7,.val (Lit (.int .i64 g))),(6,.val (IsB false)),(0,.val (IsL .u32 xs)),(1,.val (IsL .u32 ys)),(2,.val (Lit (.int .u32 q)))]) (nb:=[]) H8 3 [] rfl (by kernel_rfl) rfl rfl ?_ ?_
  ·refine .cons (.plain rfl (qh (.tmp 0 rfl))) ?_
   refine .cons (.plain rfl (Hu (r:=((((ys[i.toNat]?.getD 0)*q)+c) / 4294967296)) (.tmp 0 rfl) (.lit) (by omega) (by rw [Int.tdiv_eq_ediv_of_nonneg (by omega)];exact Gp (by omega)))) ?_
   refine .cons (.plain rfl (qm (.tmp 0 rfl))) ?_
   exact .nil
  clear H8 a8 w8 B8
  intro a9 w9 B9 H9
  refine qi ?_
  refine qg ?_
  refine wp_seq ?_
  refine zf (dsts:=[some 38,some 39]) (refs:=[[.pre 1],[.res 0]]) (outs:=[.res 1,.pre 0,.pre 1,.pre 2,.pre 3,.pre 4,.pre 5,.pre 6,.pre 7]) (als:=[false,false]) (posts:=[.val (Lit (.int .u64 (((ys[i.toNat]?.getD 0)*q)+c))),.val (Lit (.int .u64 ((((ys[i.toNat]?.getD 0)*q)+c) % 4294967296)))])
   (out:=[(39,.val (Lit (.int .u64 ((((ys[i.toNat]?.getD 0)*q)+c) % 4294967296)))),(8,.val (Lit (.int .u64 ((((ys[i.toNat]?.getD 0)*q)+c) / 4294967296)))),(10,.val (Lit (.int .u64 (((ys[i.toNat]?.getD 0)*q)+c)))),(9,.val (Lit (.int .i64 i))),(7,.val (Lit (.int .i64 g))),(6,.val (IsB false)),(0,.val (IsL .u32 xs)),(1,.val (IsL .u32 ys)),(2,.val (Lit (.int .u32 q)))]) (nb:=[]) H9 2 [2] rfl (by kernel_rfl) rfl rfl ?_ ?_
  ·refine .cons (.plain rfl (qh (.tmp 0 rfl))) ?_
   refine .cons (.plain rfl (Po (r:=((((ys[i.toNat]?.getD 0)*q)+c) % 4294967296)) (.tmp 0 rfl) (.lit) (by omega) (Int.tmod_eq_emod_of_nonneg (by omega)))) ?_
   exact .nil
  clear H9 a9 w9 B9
  intro a10 w10 B10 H10
  refine zi ?_
  refine jm (D:=.val (Lit (.int .u64 ((((ys[i.toNat]?.getD 0)*q)+c) % 4294967296)))) (l':=[(10,.val (Lit (.int .u64 ((((ys[i.toNat]?.getD 0)*q)+c) % 4294967296)))),(39,.val (Lit (.int .u64 ((((ys[i.toNat]?.getD 0)*q)+c) % 4294967296)))),(8,.val (Lit (.int .u64 ((((ys[i.toNat]?.getD 0)*q)+c) / 4294967296)))),(9,.val (Lit (.int .i64 i))),(7,.val (Lit (.int .i64 g))),(6,.val (IsB false)),(0,.val (IsL .u32 xs)),(1,.val (IsL .u32 ys)),(2,.val (Lit (.int .u32 q)))]) H10 rfl rfl rfl (.plain rfl (qm (.tmp 0 rfl))) rfl rfl ?_
  clear H10 a10 w10 B10
  intro a11 w11 B11 H11
  refine qi ?_
  refine qg ?_
  refine wp_seq ?_
  refine zf (dsts:=[some 40,some 41,some 42,some 11]) (refs:=[[.pre 6],[.pre 3],[.res 0,.res 1],[.res 2]]) (outs:=[.res 3,.pre 0,.pre 2,.pre 3,.pre 4,.pre 5,.pre 6,.pre 7,.pre 8]) (als:=[false,false,false,false]) (posts:=[.val (IsL .u32 xs),.val (Lit (.int .i64 i)),.val (Lit (.int .u64 (xs[i.toNat]?.getD 0))),.val (Lit (.int .u64 (xs[i.toNat]?.getD 0)))])
   (out:=[(11,.val (Lit (.int .u64 (xs[i.toNat]?.getD 0)))),(10,.val (Lit (.int .u64 ((((ys[i.toNat]?.getD 0)*q)+c) % 4294967296)))),(8,.val (Lit (.int .u64 ((((ys[i.toNat]?.getD 0)*q)+c) / 4294967296)))),(9,.val (Lit (.int .i64 i))),(7,.val (Lit (.int .i64 g))),(6,.val (IsB false)),(0,.val (IsL .u32 xs)),(1,.val (IsL .u32 ys)),(2,.val (Lit (.int .u32 q)))]) (nb:=[]) H11 4 [] rfl (by kernel_rfl) rfl rfl ?_ ?_
  ·refine .cons (.plain rfl (qh (.tmp 0 rfl))) ?_
   refine .cons (.plain rfl (qh (.tmp 0 rfl))) ?_
   refine .cons (.plain rfl (zl ((Nz xs dx i (by omega)).weak (fun v w B h=>Gz (by rw [show (i).toNat=i.toNat by omega]) h)) (.cons (.tmp 0 rfl) (.cons (.tmp 1 rfl) (.nil))))) ?_
   refine .cons (.plain rfl (qm (.tmp 0 rfl))) ?_
   exact .nil
  clear H11 a11 w11 B11
  intro a12 w12 B12 H12
  refine qi ?_
  refine qg ?_
  refine wp_seq ?_
  refine zf (dsts:=[some 43,some 44,some 45]) (refs:=[[.pre 1],[.pre 0],[.res 0,.res 1]]) (outs:=[.res 2,.pre 0,.pre 1,.pre 2,.pre 3,.pre 4,.pre 5,.pre 6,.pre 7,.pre 8]) (als:=[false,false,false]) (posts:=[.val (Lit (.int .u64 ((((ys[i.toNat]?.getD 0)*q)+c) % 4294967296))),.val (Lit (.int .u64 (xs[i.toNat]?.getD 0))),.val (IsB (decide ((((ys[i.toNat]?.getD 0)*q)+c) % 4294967296≠xs[i.toNat]?.getD 0)))])
   (out:=[(45,.val (IsB (decide ((((ys[i.toNat]?.getD 0)*q)+c) % 4294967296≠xs[i.toNat]?.getD 0)))),(11,.val (Lit (.int .u64 (xs[i.toNat]?.getD 0)))),(10,.val (Lit (.int .u64 ((((ys[i.toNat]?.getD 0)*q)+c) % 4294967296)))),(8,.val (Lit (.int .u64 ((((ys[i.toNat]?.getD 0)*q)+c) / 4294967296)))),(9,.val (Lit (.int .i64 i))),(7,.val (Lit (.int .i64 g))),(6,.val (IsB false)),(0,.val (IsL .u32 xs)),(1,.val (IsL .u32 ys)),(2,.val (Lit (.int .u32 q)))]) (nb:=[]) H12 3 [] rfl (by kernel_rfl) rfl rfl ?_ ?_
  ·refine .cons (.plain rfl (qh (.tmp 0 rfl))) ?_
   refine .cons (.plain rfl (qh (.tmp 0 rfl))) ?_
   refine .cons (.plain rfl (jq (.tmp 0 rfl) (.tmp 1 rfl) rfl)) ?_
   exact .nil
  clear H12 a12 w12 B12
  intro a13 w13 B13 H13
  refine qi ?_
  refine qg ?_
  refine Aa H13 (.tmp 0 rfl) ?_ ?_
  ·intro hc14
   replace hc14:=of_decide_eq_true hc14
   refine wp_seq ?_
   refine zf (dsts:=[some 7]) (refs:=[[]]) (outs:=[.res 0,.pre 1,.pre 2,.pre 3,.pre 4,.pre 6,.pre 7,.pre 8,.pre 9]) (als:=[false]) (posts:=[.val (Lit (.int .i64 1))])
    (out:=[(7,.val (Lit (.int .i64 1))),(11,.val (Lit (.int .u64 (xs[i.toNat]?.getD 0)))),(10,.val (Lit (.int .u64 ((((ys[i.toNat]?.getD 0)*q)+c) % 4294967296)))),(8,.val (Lit (.int .u64 ((((ys[i.toNat]?.getD 0)*q)+c) / 4294967296)))),(9,.val (Lit (.int .i64 i))),(6,.val (IsB false)),(0,.val (IsL .u32 xs)),(1,.val (IsL .u32 ys)),(2,.val (Lit (.int .u32 q)))]) (nb:=[]) H13 1 [] rfl (by kernel_rfl) rfl rfl ?_ ?_
   ·refine .cons (.plain rfl (qm (.lit))) ?_
    exact .nil
   clear H13 a13 w13 B13
   intro a15 w15 B15 H15
   refine qi ?_
   refine qg ?_
   refine wp_seq ?_
   refine zf (dsts:=[some 46,some 47,some 48]) (refs:=[[.pre 2],[.pre 1],[.res 0,.res 1]]) (outs:=[.res 2,.pre 0,.pre 3,.pre 4,.pre 5,.pre 6,.pre 7,.pre 8]) (als:=[false,false,false]) (posts:=[.val (Lit (.int .u64 ((((ys[i.toNat]?.getD 0)*q)+c) % 4294967296))),.val (Lit (.int .u64 (xs[i.toNat]?.getD 0))),.val (IsB (decide ((((ys[i.toNat]?.getD 0)*q)+c) % 4294967296<xs[i.toNat]?.getD 0)))])
    (out:=[(48,.val (IsB (decide ((((ys[i.toNat]?.getD 0)*q)+c) % 4294967296<xs[i.toNat]?.getD 0)))),(7,.val (Lit (.int .i64 1))),(8,.val (Lit (.int .u64 ((((ys[i.toNat]?.getD 0)*q)+c) / 4294967296)))),(9,.val (Lit (.int .i64 i))),(6,.val (IsB false)),(0,.val (IsL .u32 xs)),(1,.val (IsL .u32 ys)),(2,.val (Lit (.int .u32 q)))]) (nb:=[]) H15 3 [] rfl (by kernel_rfl) rfl rfl ?_ ?_
   ·refine .cons (.plain rfl (qh (.tmp 0 rfl))) ?_
    refine .cons (.plain rfl (qh (.tmp 0 rfl))) ?_
    refine .cons (.plain rfl (jq (.tmp 0 rfl) (.tmp 1 rfl) rfl)) ?_
    exact .nil
   clear H15 a15 w15 B15
   intro a16 w16 B16 H16
   refine qi ?_
   refine qg ?_
   refine Aa H16 (.tmp 0 rfl) ?_ ?_
   ·intro hc17
    replace hc17:=of_decide_eq_true hc17
    refine zf (dsts:=[some 7]) (refs:=[[]]) (outs:=[.res 0,.pre 2,.pre 3,.pre 4,.pre 5,.pre 6,.pre 7]) (als:=[false]) (posts:=[.val (Lit (.int .i64 (-1)))])
     (out:=[(7,.val (Lit (.int .i64 (-1)))),(8,.val (Lit (.int .u64 ((((ys[i.toNat]?.getD 0)*q)+c) / 4294967296)))),(9,.val (Lit (.int .i64 i))),(6,.val (IsB false)),(0,.val (IsL .u32 xs)),(1,.val (IsL .u32 ys)),(2,.val (Lit (.int .u32 q)))]) (nb:=[]) H16 1 [] rfl (by kernel_rfl) rfl rfl ?_ ?_
    ·refine .cons (.plain rfl (qm (.lit))) ?_
     exact .nil
    clear H16 a16 w16 B16
    intro a18 w18 B18 H18
    refine qi ?_
    refine kw ?_
    refine qg ?_
    have hN:Zq xs ys q (i+1).toNat ((((ys[i.toNat]?.getD 0)*q)+c) / 4294967296) (-1):=by
     have:=Vg dx dy hq hF
     rw [show (i+1).toNat=i.toNat+1 by omega]
     first | (rw [if_pos (by omega)] at this;exact this) | (rw [if_neg (by omega),if_pos (by omega)] at this;exact this) | (rw [if_neg (by omega),if_neg (by omega)] at this;exact this)
    have hz2:(xs.length:Int)<i+1→(ys.length:Int)<i+1→(((ys[i.toNat]?.getD 0)*q)+c) / 4294967296=0:=fun h1 h2=>by
     have e:ys[i.toNat]?.getD 0=0:=by rw [List.getElem?_eq_none (by omega)];rfl
     rw [e];omega
    refine zf (dsts:=[some 26,some 27]) (refs:=[[.pre 2],[.res 0]]) (outs:=[.res 1,.pre 0,.pre 1,.pre 2,.pre 3,.pre 4,.pre 5,.pre 6]) (als:=[false,false]) (posts:=[.val (Lit (.int .i64 i)),.val (Lit (.int .i64 (i+1)))])
     (out:=[(27,.val (Lit (.int .i64 (i+1)))),(7,.val (Lit (.int .i64 (-1)))),(8,.val (Lit (.int .u64 ((((ys[i.toNat]?.getD 0)*q)+c) / 4294967296)))),(9,.val (Lit (.int .i64 i))),(6,.val (IsB false)),(0,.val (IsL .u32 xs)),(1,.val (IsL .u32 ys)),(2,.val (Lit (.int .u32 q)))]) (nb:=[]) H18 2 [2] rfl (by kernel_rfl) rfl rfl ?_ ?_
    ·refine .cons (.plain rfl (qh (.tmp 0 rfl))) ?_
     refine .cons (.plain rfl (Aq (r:=(i+1)) (.tmp 0 rfl) (.lit) (xh (by omega)))) ?_
     exact .nil
    clear H18 a18 w18 B18
    intro a19 w19 B19 H19
    refine zi ?_
    refine jm (D:=.val (Lit (.int .i64 (i+1)))) (l':=[(9,.val (Lit (.int .i64 (i+1)))),(27,.val (Lit (.int .i64 (i+1)))),(7,.val (Lit (.int .i64 (-1)))),(8,.val (Lit (.int .u64 ((((ys[i.toNat]?.getD 0)*q)+c) / 4294967296)))),(6,.val (IsB false)),(0,.val (IsL .u32 xs)),(1,.val (IsL .u32 ys)),(2,.val (Lit (.int .u32 q)))]) H19 rfl rfl rfl (.plain rfl (qm (.tmp 0 rfl))) rfl rfl ?_
    clear H19 a19 w19 B19
    intro a20 w20 B20 H20
    refine qi ?_
    exact ⟨⟨i+1,(((ys[i.toNat]?.getD 0)*q)+c) / 4294967296,-1⟩,B20,by exact ⟨by omega,hN,hz2⟩,St.pick H20 [0,3,2,4,5,6,7] rfl,by show ((xs.length:Int)+(ys.length:Int)+2-(i+1)).toNat<((xs.length:Int)+(ys.length:Int)+2-i).toNat;omega⟩
   ·intro hc17
    replace hc17:=of_decide_eq_false hc17
    refine wp_skip ?_
    refine kw ?_
    refine qg ?_
    have hN:Zq xs ys q (i+1).toNat ((((ys[i.toNat]?.getD 0)*q)+c) / 4294967296) (1):=by
     have:=Vg dx dy hq hF
     rw [show (i+1).toNat=i.toNat+1 by omega]
     first | (rw [if_pos (by omega)] at this;exact this) | (rw [if_neg (by omega),if_pos (by omega)] at this;exact this) | (rw [if_neg (by omega),if_neg (by omega)] at this;exact this)
    have hz2:(xs.length:Int)<i+1→(ys.length:Int)<i+1→(((ys[i.toNat]?.getD 0)*q)+c) / 4294967296=0:=fun h1 h2=>by
     have e:ys[i.toNat]?.getD 0=0:=by rw [List.getElem?_eq_none (by omega)];rfl
     rw [e];omega
    refine zf (dsts:=[some 26,some 27]) (refs:=[[.pre 3],[.res 0]]) (outs:=[.res 1,.pre 1,.pre 2,.pre 3,.pre 4,.pre 5,.pre 6,.pre 7]) (als:=[false,false]) (posts:=[.val (Lit (.int .i64 i)),.val (Lit (.int .i64 (i+1)))])
     (out:=[(27,.val (Lit (.int .i64 (i+1)))),(7,.val (Lit (.int .i64 1))),(8,.val (Lit (.int .u64 ((((ys[i.toNat]?.getD 0)*q)+c) / 4294967296)))),(9,.val (Lit (.int .i64 i))),(6,.val (IsB false)),(0,.val (IsL .u32 xs)),(1,.val (IsL .u32 ys)),(2,.val (Lit (.int .u32 q)))]) (nb:=[]) H16 2 [2] rfl (by kernel_rfl) rfl rfl ?_ ?_
    ·refine .cons (.plain rfl (qh (.tmp 0 rfl))) ?_
     refine .cons (.plain rfl (Aq (r:=(i+1)) (.tmp 0 rfl) (.lit) (xh (by omega)))) ?_
     exact .nil
    clear H16 a16 w16 B16
    intro a21 w21 B21 H21
    refine zi ?_
    refine jm (D:=.val (Lit (.int .i64 (i+1)))) (l':=[(9,.val (Lit (.int .i64 (i+1)))),(27,.val (Lit (.int .i64 (i+1)))),(7,.val (Lit (.int .i64 1))),(8,.val (Lit (.int .u64 ((((ys[i.toNat]?.getD 0)*q)+c) / 4294967296)))),(6,.val (IsB false)),(0,.val (IsL .u32 xs)),(1,.val (IsL .u32 ys)),(2,.val (Lit (.int .u32 q)))]) H21 rfl rfl rfl (.plain rfl (qm (.tmp 0 rfl))) rfl rfl ?_
    clear H21 a21 w21 B21
    intro a22 w22 B22 H22
    refine qi ?_
    exact ⟨⟨i+1,(((ys[i.toNat]?.getD 0)*q)+c) / 4294967296,1⟩,B22,by exact ⟨by omega,hN,hz2⟩,St.pick H22 [0,3,2,4,5,6,7] rfl,by show ((xs.length:Int)+(ys.length:Int)+2-(i+1)).toNat<((xs.length:Int)+(ys.length:Int)+2-i).toNat;omega⟩
  ·intro hc14
   replace hc14:=of_decide_eq_false hc14
   refine wp_skip ?_
   refine kw ?_
   refine qg ?_
   have hN:Zq xs ys q (i+1).toNat ((((ys[i.toNat]?.getD 0)*q)+c) / 4294967296) (g):=by
    have:=Vg dx dy hq hF
    rw [show (i+1).toNat=i.toNat+1 by omega]
    first | (rw [if_pos (by omega)] at this;exact this) | (rw [if_neg (by omega),if_pos (by omega)] at this;exact this) | (rw [if_neg (by omega),if_neg (by omega)] at this;exact this)
   have hz2:(xs.length:Int)<i+1→(ys.length:Int)<i+1→(((ys[i.toNat]?.getD 0)*q)+c) / 4294967296=0:=fun h1 h2=>by
    have e:ys[i.toNat]?.getD 0=0:=by rw [List.getElem?_eq_none (by omega)];rfl
    rw [e];omega
   refine zf (dsts:=[some 26,some 27]) (refs:=[[.pre 4],[.res 0]]) (outs:=[.res 1,.pre 3,.pre 4,.pre 5,.pre 6,.pre 7,.pre 8,.pre 9]) (als:=[false,false]) (posts:=[.val (Lit (.int .i64 i)),.val (Lit (.int .i64 (i+1)))])
    (out:=[(27,.val (Lit (.int .i64 (i+1)))),(8,.val (Lit (.int .u64 ((((ys[i.toNat]?.getD 0)*q)+c) / 4294967296)))),(9,.val (Lit (.int .i64 i))),(7,.val (Lit (.int .i64 g))),(6,.val (IsB false)),(0,.val (IsL .u32 xs)),(1,.val (IsL .u32 ys)),(2,.val (Lit (.int .u32 q)))]) (nb:=[]) H13 2 [2] rfl (by kernel_rfl) rfl rfl ?_ ?_
   ·refine .cons (.plain rfl (qh (.tmp 0 rfl))) ?_
    refine .cons (.plain rfl (Aq (r:=(i+1)) (.tmp 0 rfl) (.lit) (xh (by omega)))) ?_
    exact .nil
   clear H13 a13 w13 B13
   intro a23 w23 B23 H23
   refine zi ?_
   refine jm (D:=.val (Lit (.int .i64 (i+1)))) (l':=[(9,.val (Lit (.int .i64 (i+1)))),(27,.val (Lit (.int .i64 (i+1)))),(8,.val (Lit (.int .u64 ((((ys[i.toNat]?.getD 0)*q)+c) / 4294967296)))),(7,.val (Lit (.int .i64 g))),(6,.val (IsB false)),(0,.val (IsL .u32 xs)),(1,.val (IsL .u32 ys)),(2,.val (Lit (.int .u32 q)))]) H23 rfl rfl rfl (.plain rfl (qm (.tmp 0 rfl))) rfl rfl ?_
   clear H23 a23 w23 B23
   intro a24 w24 B24 H24
   refine qi ?_
   exact ⟨⟨i+1,(((ys[i.toNat]?.getD 0)*q)+c) / 4294967296,g⟩,B24,by exact ⟨by omega,hN,hz2⟩,St.pick H24 [0,2,3,4,5,6,7] rfl,by show ((xs.length:Int)+(ys.length:Int)+2-(i+1)).toNat<((xs.length:Int)+(ys.length:Int)+2-i).toNat;omega⟩
 ·intro hc7
  rw [Bool.or_eq_false_iff,Bool.or_eq_false_iff,decide_eq_false_iff_not,decide_eq_false_iff_not,decide_eq_false_iff_not] at hc7
  obtain rfl:c=0:=by omega
  have hE:=ql5 dx hF (by omega) (by omega)
  refine wp_exit ?_
  refine jy ?_
  refine jy ?_
  refine Am ?_
  refine qg ?_
  refine wp_seq ?_
  refine zf (dsts:=[some 49,some 50,some 6]) (refs:=[[.pre 3],[.res 0],[.res 1]]) (outs:=[.res 2,.pre 1,.pre 2,.pre 3,.pre 5,.pre 6,.pre 7]) (als:=[false,false,false]) (posts:=[.val (Lit (.int .i64 g)),.val (IsB (decide (g≤0))),.val (IsB (decide (g≤0)))])
   (out:=[(6,.val (IsB (decide (g≤0)))),(9,.val (Lit (.int .i64 i))),(8,.val (Lit (.int .u64 0))),(7,.val (Lit (.int .i64 g))),(0,.val (IsL .u32 xs)),(1,.val (IsL .u32 ys)),(2,.val (Lit (.int .u32 q)))]) (nb:=[]) H6 3 [] rfl (by kernel_rfl) rfl rfl ?_ ?_
  ·refine .cons (.plain rfl (qh (.tmp 0 rfl))) ?_
   refine .cons (.plain rfl (jq (.tmp 0 rfl) (.lit) rfl)) ?_
   refine .cons (.plain rfl (qm (.tmp 0 rfl))) ?_
   exact .nil
  clear H6 a6 w6 B6
  intro a25 w25 B25 H25
  refine qi ?_
  refine qg ?_
  refine wp_ret ?_
  exact Rz H25 rfl 0 rfl (fun v w B h=>by exact Dl (decide_eq_decide.2 hE) h)
theorem qn1 {P:Program} {need:List (Tmp × FD)} {d:Option Tmp} {ty:TypeId} {pos:String} {af:Array Edge} {g:Option (Nat × Bool)} {x y:Operand} {k:IntKind} {i j:Int} {ts:Array TypeId} (h:Opd need x (.val (Lit (.int k i)))) (h':Opd need y (.val (Lit (.int k j)))):jo P ⟨d,.call { callee:=.builtin .min,args:=#[x,y],argTypes:=ts },ty,pos,af,g⟩ need (.val (Lit (.int k (if j<i then j else i)))) false:=
 Ht h h' fun ρ w e1 e2=>by
  simp [execOp,e1,e2,resolve,invoke,builtin]
  simp [Builtin.min_,Builtin.min2]
theorem qmy (xs:List Int) (dx:Dig 4294967296 xs) (m:Nat) (hm:0<m) (hl:xs.length≤m+1):val 4294967296 xs=(xs[m]?.getD 0*4294967296+xs[m-1]?.getD 0)*4294967296 ^ (m-1)+low xs (m-1):=by
 rw [←Mc xs (m+1) hl,I9]
 obtain ⟨p,rfl⟩:∃p,m=p+1:=⟨m-1,by omega⟩
 rw [I9,Nat.add_sub_cancel,Int.pow_succ]
 generalize (4294967296:Int) ^ p=P
 generalize low xs p=z
 grind
theorem qmw (ys:List Int) (dy:Dig 4294967296 ys) (m:Nat) (hm:0<m) (hl:ys.length=m):val 4294967296 ys=ys[m-1]?.getD 0*4294967296 ^ (m-1)+low ys (m-1):=by
 rw [←Mc ys m (by omega)]
 obtain ⟨p,rfl⟩:∃p,m=p+1:=⟨m-1,by omega⟩
 rw [I9,Nat.add_sub_cancel]
 generalize (4294967296:Int) ^ p=P
 generalize low ys p=z
 grind
theorem qgo (T y1 P lx ly V U:Int) (hP:0<P) (hT:0≤T) (hy1:0<y1) (hlx:0≤lx∧lx<P) (hly:0≤ly∧ly<P) (hV:V=T*P+lx) (hU:U=y1*P+ly):T / (y1+1)≤V / U∧V / U≤T / y1:=by
 have hy:0<y1*P:=Int.mul_pos hy1 hP
 have hU0:0<U:=by omega
 have hV0:0≤V:=by have:=Int.mul_nonneg hT (Int.le_of_lt hP);omega
 constructor
 ·refine (Int.le_ediv_iff_mul_le hU0).2 ?_
  have h1:T / (y1+1)*(y1+1)≤T:=Int.ediv_mul_le T (by omega)
  have h0:0≤T / (y1+1):=Int.ediv_nonneg hT (by omega)
  have h2:T / (y1+1)*U≤T / (y1+1)*((y1+1)*P):=Int.mul_le_mul_of_nonneg_left (by rw [Int.add_mul,Int.one_mul];omega) h0
  have h3:T / (y1+1)*(y1+1)*P≤T*P:=Int.mul_le_mul_of_nonneg_right h1 (Int.le_of_lt hP)
  rw [←Int.mul_assoc] at h2
  omega
 ·refine (Int.le_ediv_iff_mul_le hy1).2 ?_
  have h0:0≤V / U:=Int.ediv_nonneg hV0 (by omega)
  have h1:V / U*U≤V:=Int.ediv_mul_le V (by omega)
  have h2:V / U*(y1*P)≤V / U*U:=Int.mul_le_mul_of_nonneg_left (by omega) h0
  have h3:V / U*y1*P<(T+1)*P:=by rw [Int.mul_assoc,Int.add_mul,Int.one_mul];omega
  have h4:=Int.lt_of_mul_lt_mul_right h3 (Int.le_of_lt hP)
  omega
end Go.Proofs.YtbcbmkeeoognpaaGreatDoor

namespace Go.Proofs.YtbcbmkeeoognpaaGreatDoor
open Go Go.RowKit
section
variable {need:List (Tmp × FD)} {d:Option Tmp} {ty:TypeId} {pos:String} {af:Array Edge} {g:Option (Nat × Bool)} {x:Operand}
end
end Go.Proofs.YtbcbmkeeoognpaaGreatDoor

set_option maxRecDepth 50000
namespace Go.Proofs.YtbcbmkeeoognpaaGreatDoor
open Go Go.RowKit
def Zo (P:Program) (f:FuncId) (D:VP) (gs:List (Option Nat)) (r:Value) (k:Nat):Prop:=
 ∀(wL w:World) (b:Nat) (v:Value) (L:List Hd) (u:Value),Below wL.heap.size wL w→y8 wL.heap.size w b v L→v.ownBlock≠some b→L.length+k≤1000000→(∀j x,gs.getD j none=some x→wL.heap.size≤x∧x<w.heap.size∧∀h0∈L,0<h0.c→xg h0.ad≠some x)→D.p u w (fun j=>j=b) →
  Calls P f ([u,Value.pointer (some ⟨b,0,none⟩)]:List Value).toArray w (fun e w'=>e=.returned r∧Kp wL.heap.size b w w'∧∃v' L',y8 wL.heap.size w' b v' L'∧L'.length≤L.length+k ∧
   (∀h∈L',0<h.c→∃x,xg h.ad=some x∧x≠b∧((∃h0∈L,0<h0.c∧xg h0.ad=some x)∨some x∈gs))∧∀x,v'.ownBlock=some x→v.ownBlock=some x∨w.heap.size≤x)
def Un (wL w:World) (b:Nat) (ex gs:List (Option Nat)) (Ow:Nat→Prop) (n:Nat) (r:Value) (e:Ending) (w':World):Prop:=
 e=.returned r∧Kp wL.heap.size b w w'∧∃v' L',y8 wL.heap.size w' b v' L'∧L'.length≤n∧(∀h∈L',0<h.c→∃x,xg h.ad=some x∧x≠b∧(some x∈ex∨some x∈gs))∧∀x,v'.ownBlock=some x→Ow x
theorem qjr {P:Program} {f:FuncId} {fn:Func} {c:Code} {D:VP} {gs:List (Option Nat)} {r:Value} {n N:Nat} (hN:fn.ntmps=N) (hf:P.funcs[f]?=some fn) (hb:fn.body=some c) (hn:2≤N)
  (h:∀(wL w:World) (b:Nat) (ex:List (Option Nat)) (Ow:Nat→Prop) (cnt:Nat) (a:Act),cnt+n≤1000000→wL.heap.size≤w.heap.size→(∀x,w.heap.size≤x→Ow x)→(∀x,some x∈ex→x<w.heap.size)→(∀j x,gs.getD j none=some x→wL.heap.size≤x∧x<w.heap.size∧some x ∉ ex) →
   St N wL (fun j=>j=b) a w (fun j=>j=b) [(1,.box 42 15 (x9 wL.heap.size Ow w.heap.size w.heap.size ex cnt)),(1,.val (Nr b)),(N,.val (Jk wL.heap.size b w)),(N+1,.val (Sz w.heap.size)),(0,.val D)] [1] →
   c.wp P (bodyPost P fn (Un wL w b ex gs Ow (cnt+n) r)) a w):Zo P f D gs r n:=by
 intro wL w b v L u hbel hA hvb hL hg hV
 have hx:∀x,some x∈(L.filter fun h=>decide (0<h.c)).map (fun h=>xg h.ad)→∃h0∈L,0<h0.c∧xg h0.ad=some x:=fun x hx=>by
  obtain ⟨h0,h1,h2⟩:=List.mem_map.1 hx
  rw [List.mem_filter,decide_eq_true_eq] at h1
  exact ⟨h0,h1.1,h1.2,h2⟩
 have hblk:∀h0∈L,0<h0.c→∃x cs,xg h0.ad=some x∧w.heap[x]?=some (.cells cs 44 (0,0)):=fun h0 h1 h2=>by
  obtain ⟨g,cs,e,_,h3,_⟩:=(hA.one h0 h1).row h2
  exact ⟨g,cs,by rw [e];rfl,h3⟩
 have get0:(([u,Value.pointer (some ⟨b,0,none⟩)]:List Value).toArray++Array.replicate (fn.ntmps-([u,Value.pointer (some ⟨b,0,none⟩)]:List Value).toArray.size) undef).getD 1 undef=.pointer (some ⟨b,0,none⟩):=by
  rw [Array.getD_eq_getD_getElem?,Array.getElem?_append_left (by simp)]
  simp
 refine (calls_of_wp (R:=Un wL w b ((L.filter fun h=>decide (0<h.c)).map fun h=>xg h.ad) gs (fun x=>v.ownBlock=some x∨w.heap.size≤x) (L.length+n) r) hf hb (h wL w b ((L.filter fun h=>decide (0<h.c)).map fun h=>xg h.ad) (fun x=>v.ownBlock=some x∨w.heap.size≤x) L.length _ hL hbel.size (fun x hx=>.inr hx) (fun x hx2=>?_) (fun j x hj=>⟨(hg j x hj).1,(hg j x hj).2.1,fun hx3=>(hg j x hj).2.2 _ (hx x hx3).choose_spec.1 (hx x hx3).choose_spec.2.1 (hx x hx3).choose_spec.2.2⟩)
  ⟨rfl,?_,Fct.of_all fun x hx2=>?_,?_,?_,hbel,fun j hj=>by rw [hj];exact hA.lt,fun _ h=>h⟩)).mono ?_
 ·obtain ⟨h0,h1,h2,h3⟩:=hx x hx2
  obtain ⟨y,cs,e1,e2⟩:=hblk h0 h1 h2
  rw [h3] at e1
  injection e1 with e1
  subst e1
  exact (Array.getElem?_eq_some_iff.1 e2).1
 ·simp [hN];omega
 ·simp only [List.mem_cons] at hx2
  rcases hx2 with rfl | rfl | rfl | rfl | rfl | hx2
  ·refine ⟨b,_,get0,rfl,hA.lt,hA.hd,rfl,v,L,rfl,Nat.le_refl _,hA.row,fun x hx3=>⟨fun h4=>hvb (by rw [←h4];exact hx3),.inl hx3⟩,hA.sep,fun h0 h1=>⟨hA.one h0 h1,fun h2=>?_⟩⟩
   obtain ⟨y,cs,e1,e2⟩:=hblk h0 h1 h2
   refine ⟨y,e1,(hA.block_ne e2).1,.inr ?_⟩
   rw [←e1]
   exact List.mem_map.2 ⟨h0,List.mem_filter.2 ⟨h1,decide_eq_true h2⟩,rfl⟩
  ·exact get0
  ·exact ⟨Nat.le_refl _,fun _ _ _=>.inl rfl,fun _ _ h=>h⟩
  ·exact Nat.le_refl _
  ·have e:(([u,Value.pointer (some ⟨b,0,none⟩)]:List Value).toArray++Array.replicate (fn.ntmps-([u,Value.pointer (some ⟨b,0,none⟩)]:List Value).toArray.size) undef).getD 0 undef=u:=by
    rw [Array.getD_eq_getD_getElem?,Array.getElem?_append_left (by simp)]
    simp
   show D.p _ w _
   rw [e]
   exact hV
  ·cases hx2
 ·intro s hs
  rw [List.mem_singleton] at hs
  subst hs
  exact ⟨b,get0,hA.lt,hA.lo⟩
 ·intro s hs t ht hst
  rw [List.mem_singleton] at hs ht
  exact absurd (hs.trans ht.symm) hst
 ·rintro e w' ⟨h1,h2,v',L',h3,h4,h5,h6⟩
  refine ⟨h1,h2,v',L',h3,h4,fun h0 h7 h8=>?_,h6⟩
  obtain ⟨x,e1,e2,e3⟩:=h5 h0 h7 h8
  refine ⟨x,e1,e2,?_⟩
  rcases e3 with e3 | e3
  ·exact .inl (hx x e3)
  ·exact .inr e3
section
variable {P:Program} {ops:Array Oper} {Q:Exit→Act→World→Prop} {N:Nat} {w0:World} {B0:Bx} {a:Act} {w:World} {B:Bx} {l:List (Tmp × FD)} {bxs:List Tmp}
theorem qnu {fn:Func} {gs:List (Option Nat)} {wE:World} {b lo hi cnt n:Nat} {ex ex':List (Option Nat)} {Ow:Nat→Prop} (H:St N w0 B0 a w B l bxs) (hr:fn.results = #[]) (kp k0 kf:Nat) {z:Tmp} (h0:1∈bxs)
  (hp:l[kp]?=some (1,.box 42 15 (x9 w0.heap.size Ow lo hi ex' cnt))) (h0p:l[k0]?=some (1,.val (Nr b))) (hf:l[kf]?=some (z,.val (Jk w0.heap.size b wE)))
  (hE:Below w0.heap.size w0 wE) (hcnt:cnt≤n) (hn:n≤1000000) (hlo:wE.heap.size≤lo) (hlh:hi≤lo) (hex:∀x,some x∈ex'→some x∈ex∨some x∈gs):bodyPost P fn (Un w0 wE b ex gs Ow n (.tuple #[])) .ret a w:=by
 obtain ⟨b2,rv,L,e1,hBb,hbs,hA,hL,hblk,hrow⟩:=H.book kp hp h0 (by omega)
 have e2:a.tmps.getD 1 undef=.pointer (some ⟨b,0,none⟩):=H.fc.get k0 h0p
 rw [e1] at e2
 have e3:b2=b:=by injection e2 with e2;injection e2 with e2;injection e2
 subst e3
 obtain ⟨f1,f2,f3⟩:qoh w0.heap.size b2 wE w B:=H.fc.get kf hf
 refine ⟨H.df,.tuple #[],by simp [results,hr],rfl,⟨H.bel.os.trans hE.os.symm,H.bel.tape.trans hE.tape.symm,H.bel.output.trans hE.output.symm,f1,f2⟩,rv,L,hA,by omega,fun h hh hc=>?_,fun x hx=>(hrow x hx).2⟩
 obtain ⟨x,g1,g2,g3⟩:=hblk h hh hc
 refine ⟨x,g1,fun e=>g2 (e ▸ hBb),?_⟩
 rcases g3 with g3 | g3
 ·exact absurd g3 (by omega)
 ·exact hex x g3
theorem Nw {i:Nat} {K:Act→World→Prop} {f:FuncId} {Ow:Nat→Prop} {lo hi cnt n:Nat} {ex:List (Option Nat)} {D:VP} {gs:List (Option Nat)} {r:Value} {s p z:Tmp} {y x0:Operand} {ts:Array TypeId} {ty:TypeId} {pos:String} {af:Array Edge} {gd:Option (Nat × Bool)} (kp kz:Nat) (is:List Nat) {ks:List (Tmp × FD)}
  (H:St N w0 B0 a w B l bxs) (ho:ops[i]?=some ⟨some s,.call { callee:=.value (.func f),args:=#[x0,y],argTypes:=ts },ty,pos,af,gd⟩) (hw:Region.wanted ⟨some s,.call { callee:=.value (.func f),args:=#[x0,y],argTypes:=ts },ty,pos,af,gd⟩ (yielded ops a.tmps)=true)
  (hent:∀(vs:Array Value) (w:World),(callFunc f vs).run P w=.ok (.enter f vs) w) (hf:Zo P f D gs r n)
  (hp:l[kp]?=some (p,.box 42 15 (x9 w0.heap.size Ow lo hi ex cnt))) (hy:a.eval y=a.tmps.getD p undef) (hx:Opd l x0 (.val D)) (hg:∀j x,gs.getD j none=some x→w0.heap.size≤x∧¬(lo≤x∧x<hi)∧some x ∉ ex) (hgB:∀u w B,D.p u w B→∀j x,gs.getD j none=some x→x<w.heap.size∧¬B x) (hz:l[kz]?=some (z,.val (Sz lo)))
  (hcnt:cnt+n≤1000000) (hOw:∀x,w.heap.size≤x→Ow x)
  (hks:is.map (fun i=>l[i]?)=ks.map some) (hc:(bxs.contains p && decide (s<N) && (!bxs.contains s) && ks.all fun y=>y.1 != s && (y.2.isVal || (y.1 != p && y.2.isBox && bxs.contains y.1)))=true) (hk:Us w0.heap.size ks) (hps:s≠p)
  (hK:∀a w B,St N w0 B0 a w B ((s,.val (Lit r)) :: (p,FD.box 42 15 (x9 w0.heap.size Ow lo hi (gs++ex) (cnt+n))) :: ks) bxs→K a w):wpOp P ops Q i K a w:=by
 simp only [Bool.and_eq_true,List.all_eq_true,Bool.or_eq_true,Bool.not_eq_true',decide_eq_true_eq,bne_iff_ne,ne_eq] at hc
 obtain ⟨⟨⟨hpb,hsN⟩,hsb⟩,hall⟩:=hc
 rw [List.contains_iff_mem] at hpb
 obtain ⟨b,rv,L,e1,hBb,hbs,hA,hL,hblk,hrow⟩:=H.book kp hp hpb (by omega)
 have hB0:w0.heap.size≤w.heap.size:=H.bel.size
 have hlw:lo≤w.heap.size:=H.fc.get kz hz
 have hx1:D.p (a.eval x0) w B:=hx a w B H.fc
 have hVs:D.p (a.eval x0) w (fun j=>j=b):=D.st _ _ _ _ _ (Mv.shrink fun k hk=>by rw [hk];exact hBb) hx1
 have hgB2:=hgB _ _ _ hx1
 unfold wpOp
 simp only [ho]
 rw [if_pos hw]
 refine .inl ?_
 unfold Oper.wp
 have hr:(execOp a.eval ⟨some s,.call { callee:=.value (.func f),args:=#[x0,y],argTypes:=ts },ty,pos,af,gd⟩).run P w=.ok (.enter f ([a.eval x0,Value.pointer (some ⟨b,0,none⟩)]:List Value).toArray) w:=by
  have q1:=hy
  rw [e1] at q1
  have:execOp a.eval ⟨some s,.call { callee:=.value (.func f),args:=#[x0,y],argTypes:=ts },ty,pos,af,gd⟩=callFunc f #[a.eval x0,a.eval y]:=by
   simp [execOp,resolve,Act.eval,Deferred.ofValue,invoke]
  rw [this,hent,q1]
 rw [hr]
 refine (hf w0 w b rv L (a.eval x0) H.bel hA (fun e=>(hrow b e).1 hBb) (by omega) (fun j x hj=>⟨(hg j x hj).1,(hgB2 j x hj).1,fun h0 h1 h2 h3=>?_⟩) hVs).mono ?_
 ·obtain ⟨x2,j1,j2,j3⟩:=hblk h0 h1 h2
  rw [h3] at j1
  have j4:x=x2:=by injection j1
  subst j4
  rcases j3 with j3 | j3
  ·exact (hg j x hj).2.1 j3
  ·exact (hg j x hj).2.2 j3
 rintro e w' ⟨rfl,kk,v',L',hA',hL',hbl',hrr⟩
 refine hK _ w' B ?_
 have hsz:∀d,(some s:Option Tmp)=some d→d<a.tmps.size:=fun d hd=>by injection hd with hd;subst hd;rw [H.sz];exact hsN
 have hput:∀z v,(a.put (some s) v).tmps.getD z undef=if some s=some z then v else a.tmps.getD z undef:=fun z v=>Dc hsz
 have hold:∀z v,z≠s→(a.put (some s) v).tmps.getD z undef=a.tmps.getD z undef:=fun z v hz=>by
  rw [hput,if_neg fun e=>hz (by injection e with e;exact e.symm)]
 have hbx:∀z∈bxs,z≠s:=fun z hz e=>by
  subst e
  rw [←List.contains_iff_mem,hsb] at hz
  cases hz
 refine ⟨put_defers.trans H.df,Dk.trans H.sz,Fct.of_all fun z hz=>?_,fun z hz=>?_,fun z hz t ht hzt=>?_,H.bel.trans (kk.below hbs hB0),fun k hk2=>Nat.lt_of_lt_of_le (H.own k hk2) kk.size,H.own0⟩
 ·rcases List.mem_cons.1 hz with rfl | hz
  ·show _=_
   rw [hput,if_pos rfl]
  rcases List.mem_cons.1 hz with rfl | hz
  ·refine ⟨b,_,(hold p _ (Ne.symm hps)).trans e1,hBb,hA'.lt,hA'.hd,rfl,v',_,rfl,by omega,hA'.row,fun x hx=>?_,hA'.sep,fun h hh=>⟨hA'.one h hh,fun h0=>?_⟩⟩
   ·rcases hrr x hx with e | e
    ·exact hrow x e
    ·exact ⟨fun hBx=>(by have:=H.own x hBx;omega),hOw x e⟩
   ·obtain ⟨x,k1,k2,k3⟩:=hbl' h hh h0
    obtain ⟨g,cs,f1,f2,f3,f4⟩:=(hA'.one h hh).row h0
    rw [f1] at k1
    have f5:g=x:=by injection k1
    subst f5
    have hlt:=(Array.getElem?_eq_some_iff.1 f3).1
    have hcase:¬B g∧((lo≤g∧g<hi)∨some g∈gs++ex):=by
     rcases k3 with ⟨h1,m1,m2,m3⟩ | k3
     ·obtain ⟨x2,j1,j2,j3⟩:=hblk h1 m1 m2
      rw [m3] at j1
      have j4:g=x2:=by injection j1
      subst j4
      refine ⟨j2,?_⟩
      rcases j3 with j3 | j3
      ·exact .inl j3
      ·exact .inr (List.mem_append.2 (.inr j3))
     ·obtain ⟨q,hq⟩:=List.getElem?_of_mem k3
      have hq2:gs.getD q none=some g:=by rw [List.getD_eq_getElem?_getD,hq];rfl
      exact ⟨(hgB2 q g hq2).2,.inr (List.mem_append.2 (.inl k3))⟩
    exact ⟨g,by rw [f1];rfl,hcase⟩
  ·have hm:z∈l:=by
    have h2:some z∈is.map (fun i=>l[i]?):=by rw [hks];exact List.mem_map.2 ⟨z,hz,rfl⟩
    obtain ⟨i,_,hi⟩:=List.mem_map.1 h2
    exact List.mem_of_getElem? hi
   obtain ⟨q1,q3⟩:=hall z hz
   rw [hold z.1 _ q1]
   refine (hk.all z hz).run hbs hBb (fun hb e=>?_) kk (H.fc.all z hm)
   rcases q3 with q3 | ⟨⟨q2,q4⟩,q5⟩
   ·cases hf:z.2 with
    | val E=>rw [hf] at hb;simp [FD.isBox] at hb
    | ptr t n E off=>rw [hf] at q3;simp [FD.isVal] at q3
    | box t n E=>rw [hf] at q3;simp [FD.isVal] at q3
   ·exact H.ap z.1 (List.contains_iff_mem.1 q5) p hpb q2 (e.trans e1.symm)
 ·obtain ⟨c2,k1,k2,k3⟩:=H.bx z hz
  exact ⟨c2,(hold z _ (hbx z hz)).trans k1,Nat.lt_of_lt_of_le k2 kk.size,k3⟩
 ·rw [hold z _ (hbx z hz),hold t _ (hbx t ht)];exact H.ap z hz t ht hzt
end
end Go.Proofs.YtbcbmkeeoognpaaGreatDoor
