/- Contracts of functions, and plain facts, part 26. -/
import Derived.Test.YtbcbmkeeoognpaaGreatDoorPk8
import Derived.Test.YtbcbmkeeoognpaaGreatDoorPk11
import Derived.Test.YtbcbmkeeoognpaaGreatDoorPk13
import Derived.Test.YtbcbmkeeoognpaaGreatDoorPk14
import Derived.Test.YtbcbmkeeoognpaaGreatDoorPk15
import Derived.Test.YtbcbmkeeoognpaaGreatDoorPk17
import Derived.Test.YtbcbmkeeoognpaaGreatDoorPk18
import Derived.Test.YtbcbmkeeoognpaaGreatDoorPk19
import Derived.Test.YtbcbmkeeoognpaaGreatDoorPk22
import Derived.Test.YtbcbmkeeoognpaaGreatDoorPk24
set_option linter.unusedVariables false
set_option linter.unusedSimpArgs false
namespace Go.Proofs.YtbcbmkeeoognpaaGreatDoor
open Go Go.RowKit
end Go.Proofs.YtbcbmkeeoognpaaGreatDoor

namespace Go.Proofs.YtbcbmkeeoognpaaGreatDoor
open Go Go.RowKit
set_option maxRecDepth 20000 in
set_option maxHeartbeats 2000000 in
theorem qdm (X Y:Int) {k m:Nat} (hx:yz k X) (hy:yz m Y) (hk:k+m+1≤274877906944) (hkk:k+k+1≤274877906944):Con Tryz.prog 141 [IsN X,IsN Y] (Tup [zn (X.tdiv Y),zn (vg X Y),IsB (decide (Y≠0))]):=by
 refine Ba (N:=38) Tryz.ntmps141 (fun _ _=>by go_simp) Tryz.func141 rfl (by simp) ?_
 intro a0 w0 B0 H0
 replace H0:St 38 w0 B0 a0 w0 B0 [(0,.val (IsN X)),(1,.val (IsN Y))] []:=H0
 refine wp_seq ?_
 refine fr (refs:=[[.pre 0],[.pre 1],[],[],[]]) (outs:=[.res 0,.res 1,.res 2,.res 3,.res 4]) (als:=[true,true,true,true,false]) (posts:=[.box 52 2 (IsN X),.box 52 2 (IsN Y),.box 52 2 (qp),.box 52 2 (qp),bv false])
  (out:=[(2,.box 52 2 (IsN X)),(3,.box 52 2 (IsN Y)),(4,.box 52 2 (qp)),(5,.box 52 2 (qp)),(6,bv false)]) (nb:=[2,3,4,5]) H0 5 [] rfl (by kernel_rfl) rfl rfl ?_ ?_
 ·refine cp (Bq (.tmp 0 rfl) Bc.two) ?_
  refine cp (Bq (.tmp 0 rfl) Bc.two) ?_
  refine cp (yw (D:=qp) Dq rfl (fun _ _=>rfl)) ?_
  refine cp (yw (D:=qp) Dq rfl (fun _ _=>rfl)) ?_
  refine cp (qm (.lit)) ?_
  exact .nil
 clear H0
 intro a1 w1 B1 H1
 simp only [List.cons_append,List.nil_append] at H1
 refine qi ?_
 refine qg ?_
 refine wp_seq ?_
 refine fr (refs:=[[.pre 0],[.res 0],[.pre 1],[.res 2],[.res 1,.res 3],[.res 4],[.res 5],[.res 5],[.res 5],[.res 6],[.res 7],[.res 8]]) (outs:=[.res 9,.res 11]++pr 0 5) (als:=fs 12) (posts:=[.ptr 52 2 (IsN X) 1,.val (IsM ((X).natAbs:Int)),.ptr 52 2 (IsN Y) 1,.val (IsM ((Y).natAbs:Int)),.val (Tup [IsC (((X).natAbs:Int) / ((Y).natAbs:Int)),IsC (if ((Y).natAbs:Int)=0 then 0 else ((X).natAbs:Int) % ((Y).natAbs:Int)),IsB (decide (((Y).natAbs:Int)≠0))]),.val (Tup [IsC (((X).natAbs:Int) / ((Y).natAbs:Int)),IsC (if ((Y).natAbs:Int)=0 then 0 else ((X).natAbs:Int) % ((Y).natAbs:Int)),IsB (decide (((Y).natAbs:Int)≠0))]),.val (IsC (((X).natAbs:Int) / ((Y).natAbs:Int))),.val (IsC (if ((Y).natAbs:Int)=0 then 0 else ((X).natAbs:Int) % ((Y).natAbs:Int))),bv (decide (((Y).natAbs:Int)≠0)),.val (IsC (((X).natAbs:Int) / ((Y).natAbs:Int))),.val (IsC (if ((Y).natAbs:Int)=0 then 0 else ((X).natAbs:Int) % ((Y).natAbs:Int))),bv (decide (((Y).natAbs:Int)≠0))])
  (out:=[(7,.val (IsC (((X).natAbs:Int) / ((Y).natAbs:Int)))),(9,bv (decide (((Y).natAbs:Int)≠0))),(2,.box 52 2 (IsN X)),(3,.box 52 2 (IsN Y)),(4,.box 52 2 (qp)),(5,.box 52 2 (qp)),(6,bv false)]) (nb:=[]) H1 12 [] rfl (by kernel_rfl) rfl rfl ?_ ?_
 ·refine cp (Ar (.tmp 0 rfl)) ?_
  refine cp (Cb (.tmp 0 rfl)) ?_
  refine cp (Ar (.tmp 0 rfl)) ?_
  refine cp (Cb (.tmp 0 rfl)) ?_
  refine cp (zl (qgk ((X).natAbs:Int) ((Y).natAbs:Int)) (.cons (.tmp 0 rfl) (.cons (.tmp 1 rfl) (.nil)))) ?_
  refine cp (qh (.tmp 0 rfl)) ?_
  refine cp (zq 0 (.tmp 0 rfl) rfl) ?_
  refine cp (zq 1 (.tmp 0 rfl) rfl) ?_
  refine cp (zq 2 (.tmp 0 rfl) rfl) ?_
  refine cp (qm (.tmp 0 rfl)) ?_
  refine cp (qm (.tmp 0 rfl)) ?_
  refine cp (qm (.tmp 0 rfl)) ?_
  exact .nil
 clear H1 a1 w1 B1
 intro a2 w2 B2 H2
 refine qi ?_
 refine qg ?_
 refine wp_seq ?_
 refine wp_seq ?_
 rcases (Decidable.em (Y=0)) with y0 | y0
 ·have eb3:(decide (((Y).natAbs:Int)≠0))=false:=decide_eq_false (by omega)
  rw [eb3] at H2
  have e1:0=X.tdiv Y:=by rw [y0,Int.tdiv_zero]
  have e2:0=vg X Y:=(if_pos y0).symm
  have e3:false=decide (Y≠0):=(decide_eq_false (fun h=>h y0)).symm
  refine fr (refs:=[[.pre 1],[.res 0]]) (outs:=[.res 1,.pre 0]++pr 2 5) (als:=fs 2) (posts:=[bv false,bv true])
   (out:=[(21,bv true),(7,.val (IsC (((X).natAbs:Int) / ((Y).natAbs:Int)))),(2,.box 52 2 (IsN X)),(3,.box 52 2 (IsN Y)),(4,.box 52 2 (qp)),(5,.box 52 2 (qp)),(6,bv false)]) (nb:=[]) H2 2 [] rfl (by kernel_rfl) rfl rfl ?_ ?_
  ·refine cp (qh (.tmp 0 rfl)) ?_
   refine cp (Eh (b:=false) (.tmp 0 rfl)) ?_
   exact .nil
  clear H2 a2 w2 B2
  intro a4 w4 B4 H4
  refine qi ?_
  refine qg ?_
  refine Iq H4 (.tmp 0 rfl) ?_
  refine wp_seq ?_
  refine fr (refs:=[[],[]]) (outs:=[.res 0,.res 1]++pr 1 6) (als:=fs 2) (posts:=[.val (qp),.val (qp)])
   (out:=[(22,.val (qp)),(23,.val (qp)),(7,.val (IsC (((X).natAbs:Int) / ((Y).natAbs:Int)))),(2,.box 52 2 (IsN X)),(3,.box 52 2 (IsN Y)),(4,.box 52 2 (qp)),(5,.box 52 2 (qp)),(6,bv false)]) (nb:=[]) H4 2 [2,3,4] rfl (by kernel_rfl) rfl rfl ?_ ?_
  ·refine cp (Il) ?_
   refine cp (Il) ?_
   exact .nil
  clear H4 a4 w4 B4
  intro a5 w5 B5 H5
  refine zi ?_
  refine ja (l':=[(22,.val (qp)),(23,.val (qp)),(7,.val (IsC (((X).natAbs:Int) / ((Y).natAbs:Int)))),(2,.box 52 2 (IsN X)),(3,.box 52 2 (IsN Y)),(4,.box 52 2 (qp)),(5,.box 52 2 (qp)),(6,bv false)]) 5 H5 rfl tyI rfl (.tmp 0 rfl) jl jl rfl rfl ?_
  clear H5 w5
  intro w6 H6
  refine zi ?_
  refine ja (l':=[(22,.val (qp)),(23,.val (qp)),(7,.val (IsC (((X).natAbs:Int) / ((Y).natAbs:Int)))),(2,.box 52 2 (IsN X)),(3,.box 52 2 (IsN Y)),(4,.box 52 2 (qp)),(5,.box 52 2 (qp)),(6,bv false)]) 6 H6 rfl tyI rfl (.tmp 1 rfl) jl jl rfl rfl ?_
  clear H6 w6
  intro w7 H7
  refine zi ?_
  refine jm (D:=bv false) (l':=[(6,bv false),(22,.val (qp)),(23,.val (qp)),(7,.val (IsC (((X).natAbs:Int) / ((Y).natAbs:Int)))),(2,.box 52 2 (IsN X)),(3,.box 52 2 (IsN Y)),(4,.box 52 2 (qp)),(5,.box 52 2 (qp))]) H7 rfl rfl rfl (.plain rfl (qm (.lit))) rfl rfl ?_
  clear H7 a5 w7 B5
  intro a8 w8 B8 H8
  refine qi ?_
  refine qg ?_
  refine wp_ret ?_
  refine yh ?_
  exact Dj H8 rfl rfl (.cell 6 tyI rfl (fun v w B h=>yj e1 (Qr v w B h)) (.cell 7 tyI rfl (fun v w B h=>yj e2 (Qr v w B h)) (.tmp 0 rfl (fun v w B h=>Dl e3 h) (.nil))))
 ·have eb9:(decide (((Y).natAbs:Int)≠0))=true:=decide_eq_true (by omega)
  rw [eb9] at H2
  have hz:sI ((decide (X<0)) != (decide (Y<0))) (((X).natAbs:Int) / ((Y).natAbs:Int))=X.tdiv Y:=qn6 X Y y0
  have e1:=hz
  have e2:X-(sI ((decide (X<0)) != (decide (Y<0))) (((X).natAbs:Int) / ((Y).natAbs:Int)))*Y=vg X Y:=by rw [hz];exact qmo X Y y0
  have e3:true=decide (Y≠0):=(decide_eq_true y0).symm
  refine fr (refs:=[[.pre 1],[.res 0]]) (outs:=[.res 1,.pre 0]++pr 2 5) (als:=fs 2) (posts:=[bv true,bv false])
   (out:=[(21,bv false),(7,.val (IsC (((X).natAbs:Int) / ((Y).natAbs:Int)))),(2,.box 52 2 (IsN X)),(3,.box 52 2 (IsN Y)),(4,.box 52 2 (qp)),(5,.box 52 2 (qp)),(6,bv false)]) (nb:=[]) H2 2 [] rfl (by kernel_rfl) rfl rfl ?_ ?_
  ·refine cp (qh (.tmp 0 rfl)) ?_
   refine cp (Eh (b:=true) (.tmp 0 rfl)) ?_
   exact .nil
  clear H2 a2 w2 B2
  intro a10 w10 B10 H10
  refine qi ?_
  refine qg ?_
  refine Fq H10 (.tmp 0 rfl) ?_
  refine wp_skip ?_
  refine qg ?_
  refine wp_seq ?_
  refine fd (refs:=[[.pre 2],[.res 0],[.pre 3],[.res 2],[.res 1,.res 3],[.pre 1],[.res 4,.res 5],[.res 6],[]]) (outs:=[.res 7,.res 8]++pr 2 5) (als:=[false,false,false,false,false,false,false,false,true]) (posts:=[.val (IsN X),bv (decide (X<0)),.val (IsN Y),bv (decide (Y<0)),bv ((decide (X<0)) != (decide (Y<0))),.val (IsC (((X).natAbs:Int) / ((Y).natAbs:Int))),.val (IsN (sI ((decide (X<0)) != (decide (Y<0))) (((X).natAbs:Int) / ((Y).natAbs:Int)))),.val (zn (sI ((decide (X<0)) != (decide (Y<0))) (((X).natAbs:Int) / ((Y).natAbs:Int)))),.box 52 2 (qp)])
   (out:=[(31,.val (zn (sI ((decide (X<0)) != (decide (Y<0))) (((X).natAbs:Int) / ((Y).natAbs:Int))))),(10,.box 52 2 (qp)),(2,.box 52 2 (IsN X)),(3,.box 52 2 (IsN Y)),(4,.box 52 2 (qp)),(5,.box 52 2 (qp)),(6,bv false)]) (nb:=[10]) H10 (by kernel_rfl) 9 1 #[true,true,true,true,true,true,true,true,true,false] (by kernel_rfl) (by kernel_rfl) rfl rfl ?_ ?_
  ·refine cp (zo tyI (.tmp 0 rfl)) ?_
   refine cp (zl (Ea X) (.cons (.tmp 0 rfl) (.nil))) ?_
   refine cp (zo tyI (.tmp 0 rfl)) ?_
   refine cp (zl (Ea Y) (.cons (.tmp 0 rfl) (.nil))) ?_
   refine cp (qku Tryz.underlying4 (.tmp 0 rfl) (.tmp 1 rfl)) ?_
   refine cp (qh (.tmp 0 rfl)) ?_
   refine cp (Ha (.tmp 0 rfl) (.weak (.tmp 1 rfl) qlf)) ?_
   refine cp (zl (Em (sI ((decide (X<0)) != (decide (Y<0))) (((X).natAbs:Int) / ((Y).natAbs:Int)))) (.cons (.tmp 0 rfl) (.nil))) ?_
   refine cp (yw (D:=qp) Dq rfl (fun _ _=>rfl)) ?_
   exact .nil
  clear H10 a10 w10 B10
  intro a11 w11 B11 H11
  simp only [List.cons_append,List.nil_append] at H11
  refine Az (l':=#[true,true,true,true,true,true,true,true,true,true]) 9 (by kernel_rfl) ?_
  refine ja (l':=[(31,.val (zn (sI ((decide (X<0)) != (decide (Y<0))) (((X).natAbs:Int) / ((Y).natAbs:Int))))),(10,.box 52 2 (zn (sI ((decide (X<0)) != (decide (Y<0))) (((X).natAbs:Int) / ((Y).natAbs:Int))))),(2,.box 52 2 (IsN X)),(3,.box 52 2 (IsN Y)),(4,.box 52 2 (qp)),(5,.box 52 2 (qp)),(6,bv false)]) 1 H11 rfl tyI rfl (.tmp 0 rfl) jl ve rfl rfl ?_
  clear H11 w11
  intro w12 H12
  refine Bh (by kernel_rfl) ?_
  refine qg ?_
  refine wp_seq ?_
  refine fd (refs:=[[.pre 1],[.pre 2],[.pre 1],[.pre 3],[.res 2,.res 3],[.res 1,.res 4]]) (outs:=[.res 0,.res 5]++pr 4 3) (als:=fs 6) (posts:=[.val (zn (sI ((decide (X<0)) != (decide (Y<0))) (((X).natAbs:Int) / ((Y).natAbs:Int)))),.val (IsN X),.val (zn (sI ((decide (X<0)) != (decide (Y<0))) (((X).natAbs:Int) / ((Y).natAbs:Int)))),.val (IsN Y),.val (zn ((sI ((decide (X<0)) != (decide (Y<0))) (((X).natAbs:Int) / ((Y).natAbs:Int)))*Y)),.val (zn (X-((sI ((decide (X<0)) != (decide (Y<0))) (((X).natAbs:Int) / ((Y).natAbs:Int)))*Y)))])
   (out:=[(32,.val (zn (sI ((decide (X<0)) != (decide (Y<0))) (((X).natAbs:Int) / ((Y).natAbs:Int))))),(37,.val (zn (X-((sI ((decide (X<0)) != (decide (Y<0))) (((X).natAbs:Int) / ((Y).natAbs:Int)))*Y)))),(4,.box 52 2 (qp)),(5,.box 52 2 (qp)),(6,bv false)]) (nb:=[]) H12 (by kernel_rfl) 6 3 #[true,true,true,true,true,true,false,false,false] (by kernel_rfl) (by kernel_rfl) rfl rfl ?_ ?_
  ·refine cp (zo tyI (.tmp 0 rfl)) ?_
   refine cp (zo tyI (.tmp 0 rfl)) ?_
   refine cp (zo tyI (.tmp 0 rfl)) ?_
   refine cp (zo tyI (.tmp 0 rfl)) ?_
   refine cp (zl (U8 (sI ((decide (X<0)) != (decide (Y<0))) (((X).natAbs:Int) / ((Y).natAbs:Int))) Y (show yz k (sI ((decide (X<0)) != (decide (Y<0))) (((X).natAbs:Int) / ((Y).natAbs:Int))) by rw [hz];exact hx.le (qlb _ _)) hy (by omega)) (.cons (.weak (.tmp 0 rfl) qa4) (.cons (.tmp 1 rfl) (.nil)))) ?_
   refine cp (zl (Ph X ((sI ((decide (X<0)) != (decide (Y<0))) (((X).natAbs:Int) / ((Y).natAbs:Int)))*Y) hx (show yz k ((sI ((decide (X<0)) != (decide (Y<0))) (((X).natAbs:Int) / ((Y).natAbs:Int)))*Y) by rw [hz];exact hx.le (qmn X Y)) (by omega)) (.cons (.tmp 0 rfl) (.cons (.weak (.tmp 1 rfl) qa4) (.nil)))) ?_
   exact .nil
  clear H12 a11 w12 B11
  intro a13 w13 B13 H13
  refine Az (l':=#[true,true,true,true,true,true,true,false,false]) 6 (by kernel_rfl) ?_
  refine ja (l':=[(32,.val (zn (sI ((decide (X<0)) != (decide (Y<0))) (((X).natAbs:Int) / ((Y).natAbs:Int))))),(37,.val (zn (X-((sI ((decide (X<0)) != (decide (Y<0))) (((X).natAbs:Int) / ((Y).natAbs:Int)))*Y)))),(4,.box 52 2 (zn (sI ((decide (X<0)) != (decide (Y<0))) (((X).natAbs:Int) / ((Y).natAbs:Int))))),(5,.box 52 2 (qp)),(6,bv false)]) 2 H13 rfl tyI rfl (.tmp 0 rfl) jl ve rfl rfl ?_
  clear H13 w13
  intro w14 H14
  refine Az (l':=#[true,true,true,true,true,true,true,true,false]) 7 (by kernel_rfl) ?_
  refine ja (l':=[(32,.val (zn (sI ((decide (X<0)) != (decide (Y<0))) (((X).natAbs:Int) / ((Y).natAbs:Int))))),(37,.val (zn (X-((sI ((decide (X<0)) != (decide (Y<0))) (((X).natAbs:Int) / ((Y).natAbs:Int)))*Y)))),(4,.box 52 2 (zn (sI ((decide (X<0)) != (decide (Y<0))) (((X).natAbs:Int) / ((Y).natAbs:Int))))),(5,.box 52 2 (zn (X-((sI ((decide (X<0)) != (decide (Y<0))) (((X).natAbs:Int) / ((Y).natAbs:Int)))*Y)))),(6,bv false)]) 3 H14 rfl tyI rfl (.tmp 1 rfl) jl ve rfl rfl ?_
  clear H14 w14
  intro w15 H15
  refine Az (l':=#[true,true,true,true,true,true,true,true,true]) 8 (by kernel_rfl) ?_
  refine jm (D:=bv true) (l':=[(6,bv true),(32,.val (zn (sI ((decide (X<0)) != (decide (Y<0))) (((X).natAbs:Int) / ((Y).natAbs:Int))))),(37,.val (zn (X-((sI ((decide (X<0)) != (decide (Y<0))) (((X).natAbs:Int) / ((Y).natAbs:Int)))*Y)))),(4,.box 52 2 (zn (sI ((decide (X<0)) != (decide (Y<0))) (((X).natAbs:Int) / ((Y).natAbs:Int))))),(5,.box 52 2 (zn (X-((sI ((decide (X<0)) != (decide (Y<0))) (((X).natAbs:Int) / ((Y).natAbs:Int)))*Y))))]) H15 rfl rfl rfl (.plain rfl (qm (.lit))) rfl rfl ?_
  clear H15 a13 w15 B13
  intro a16 w16 B16 H16
  refine Bh (by kernel_rfl) ?_
  refine qg ?_
  refine wp_ret ?_
  exact Dj H16 rfl rfl (.cell 3 tyI rfl (fun v w B h=>yj e1 h) (.cell 4 tyI rfl (fun v w B h=>yj e2 h) (.tmp 0 rfl (fun v w B h=>Dl e3 h) (.nil))))
end Go.Proofs.YtbcbmkeeoognpaaGreatDoor

set_option maxRecDepth 50000
namespace Go.Proofs.YtbcbmkeeoognpaaGreatDoor
open Go Go.RowKit
def qe4 (Bs:Nat) (f:FD):Prop:=∀(v:Value) (w w':World) (B:Bx),w.heap.size≤w'.heap.size→(∀k,k<Bs→w'.heap[k]?=w.heap[k]?)→f.p v w B→f.p v w' B
inductive Yx (Bs:Nat):List (Tmp × FD)→Prop where
 | nil:Yx Bs []
 | cons {s:Tmp} {f:FD} {l:List (Tmp × FD)} (h:qe4 Bs f) (t:Yx Bs l):Yx Bs ((s,f) :: l)
theorem Yx.all {Bs:Nat} {l:List (Tmp × FD)} (h:Yx Bs l):∀x∈l,qe4 Bs x.2:=by
 induction h with
 | nil=>intro x hx;cases hx
 | cons h t ih=>
  intro x hx
  rcases List.mem_cons.1 hx with rfl | hx
  ·exact h
  ·exact ih x hx
theorem Q8 {Bs:Nat} {u:Value}:qe4 Bs (.val (Lit u)):=fun _ _ _ _ _ _ h=>h
theorem Jr {Bs q:Nat}:qe4 Bs (.val (Sz q)):=fun _ _ _ _ hs _ h=>Nat.le_trans h hs
section
variable {P:Program} {ops:Array Oper} {Q:Exit→Act→World→Prop} {N:Nat} {w0:World} {B0:Bx} {a:Act} {w:World} {B:Bx} {l:List (Tmp × FD)} {bxs:List Tmp}
theorem qf5 {i:Nat} {K:Act→World→Prop} {Ow:Nat→Prop} {lo hi cnt:Nat} {ex:List (Option Nat)} {s p:Tmp} {y:Operand} {ts:Array TypeId} {ty:TypeId} {pos:String} {af:Array Edge} {gd:Option (Nat × Bool)} (kp:Nat) (is:List Nat) {ks:List (Tmp × FD)}
  (H:St N w0 B0 a w B l bxs) (ho:ops[i]?=some ⟨some s,.call { callee:=.value (.func 18),args:=#[y],argTypes:=ts },ty,pos,af,gd⟩) (hP:P=Tryz.prog)
  (hw:Region.wanted ⟨some s,.call { callee:=.value (.func 18),args:=#[y],argTypes:=ts },ty,pos,af,gd⟩ (yielded ops a.tmps)=true)
  (hp:l[kp]?=some (p,.box 42 15 (x9 w0.heap.size Ow lo hi ex cnt))) (hy:a.eval y=a.tmps.getD p undef) (hcnt:cnt≤1000000)
  (hks:is.map (fun i=>l[i]?)=ks.map some) (hc:(bxs.contains p && decide (s<N) && (!bxs.contains s) && ks.all fun y=>y.1 != s)=true) (hk:Yx w0.heap.size ks)
  (hK:∀a w B,St N w0 B0 a w B ((s,.val (IsB true)) :: ks) bxs→K a w):wpOp P ops Q i K a w:=by
 subst hP
 simp only [Bool.and_eq_true,List.all_eq_true,Bool.not_eq_true',decide_eq_true_eq,bne_iff_ne,ne_eq] at hc
 obtain ⟨⟨⟨hpb,hsN⟩,hsb⟩,hall⟩:=hc
 rw [List.contains_iff_mem] at hpb
 obtain ⟨b,rv,L,e1,hBb,hbs,hA,hL,hblk,hrow⟩:=H.book kp hp hpb hcnt
 have hB0:w0.heap.size≤w.heap.size:=H.bel.size
 unfold wpOp
 simp only [ho]
 rw [if_pos hw]
 refine .inl ?_
 unfold Oper.wp
 have hent:∀(vs:Array Value) (w:World),(callFunc 18 vs).run Tryz.prog w=.ok (.enter 18 vs) w:=fun _ _=>by go_simp
 have hr:(execOp a.eval ⟨some s,.call { callee:=.value (.func 18),args:=#[y],argTypes:=ts },ty,pos,af,gd⟩).run Tryz.prog w=.ok (.enter 18 #[.pointer (some ⟨b,0,none⟩)]) w:=by
  have q1:=hy
  rw [e1] at q1
  have:execOp a.eval ⟨some s,.call { callee:=.value (.func 18),args:=#[y],argTypes:=ts },ty,pos,af,gd⟩=callFunc 18 #[a.eval y]:=by
   simp [execOp,resolve,Act.eval,Deferred.ofValue,invoke]
  rw [this,hent,q1]
 rw [hr]
 refine (qbg w0.heap.size b rv L w hA hB0).mono ?_
 rintro e w' ⟨rfl,hbel⟩
 refine hK _ w' B ?_
 have hsz:∀d,(some s:Option Tmp)=some d→d<a.tmps.size:=fun d hd=>by injection hd with hd;subst hd;rw [H.sz];exact hsN
 have hput:∀z v,(a.put (some s) v).tmps.getD z undef=if some s=some z then v else a.tmps.getD z undef:=fun z v=>Dc hsz
 have hold:∀z v,z≠s→(a.put (some s) v).tmps.getD z undef=a.tmps.getD z undef:=fun z v hz=>by
  rw [hput,if_neg fun e=>hz (by injection e with e;exact e.symm)]
 have hbx:∀z∈bxs,z≠s:=fun z hz e=>by
  subst e
  rw [←List.contains_iff_mem,hsb] at hz
  cases hz
 refine ⟨put_defers.trans H.df,Dk.trans H.sz,Fct.of_all fun z hz=>?_,fun z hz=>?_,fun z hz t ht hzt=>?_,H.bel.trans hbel,fun k hk2=>Nat.lt_of_lt_of_le (H.own k hk2) hbel.size,H.own0⟩
 ·rcases List.mem_cons.1 hz with rfl | hz
  ·show _=_
   rw [hput,if_pos rfl]
  ·have hm:z∈l:=by
    have h2:some z∈is.map (fun i=>l[i]?):=by rw [hks];exact List.mem_map.2 ⟨z,hz,rfl⟩
    obtain ⟨i,_,hi⟩:=List.mem_map.1 h2
    exact List.mem_of_getElem? hi
   rw [hold z.1 _ (hall z hz)]
   exact hk.all z hz _ _ _ _ hbel.size hbel.block (H.fc.all z hm)
 ·obtain ⟨c2,k1,k2,k3⟩:=H.bx z hz
  exact ⟨c2,(hold z _ (hbx z hz)).trans k1,Nat.lt_of_lt_of_le k2 hbel.size,k3⟩
 ·rw [hold z _ (hbx z hz),hold t _ (hbx t ht)];exact H.ap z hz t ht hzt
def Kq (g:Option Nat) (f:FD):Prop:=∀(v:Value) (w w':World) (B:Bx) (b:Nat),g=some b→¬B b→Only b w w'→(∃cs cs':Array Value,w.heap[b]?=some (.cells cs 44 (0,0))∧w'.heap[b]?=some (.cells cs' 44 (0,0))∧cs.size≤cs'.size)→f.p v w B→f.p v w' B
inductive Yw (g:Option Nat):List (Tmp × FD)→Prop where
 | nil:Yw g []
 | cons {s:Tmp} {f:FD} {l:List (Tmp × FD)} (h:Kq g f) (t:Yw g l):Yw g ((s,f) :: l)
theorem Yw.all {g:Option Nat} {l:List (Tmp × FD)} (h:Yw g l):∀x∈l,Kq g x.2:=by
 induction h with
 | nil=>intro x hx;cases hx
 | cons h t ih=>
  intro x hx
  rcases List.mem_cons.1 hx with rfl | hx
  ·exact h
  ·exact ih x hx
theorem Ih {g:Option Nat} {u:Value}:Kq g (.val (Lit u)):=fun _ _ _ _ _ _ _ _ _ h=>h
theorem Fa {g:Option Nat} {q:Nat}:Kq g (.val (Sz q)):=fun _ _ _ _ _ _ _ o _ h=>by
 show q≤_
 rw [o.size];exact h
theorem qcb {g g2:Option Nat} {D:VP} (hD:Loc D) (hne:∀b,g2=some b→g≠some b):Kq g (.val (Ac g2 D)):=fun v w w' B b eg hB o _ ⟨h1,h2⟩=>by
 obtain ⟨ad,n,c,e,g1,k2,g3,g4,g5⟩:=h1
 subst e
 have key:∀y,g2=some y→w'.heap[y]?=w.heap[y]?:=fun y hy=>o.rest y fun e2=>hne y hy (by rw [eg,e2])
 refine ⟨⟨ad,n,c,rfl,g1,k2,g3,g4,fun hc=>?_⟩,hD ad n c w w' B g1 (fun hc x hx=>?_) h2⟩
 ·obtain ⟨y,cs,f1,f2,f3,f4,f5⟩:=g5 hc
  exact ⟨y,cs,f1,f2,f3,(key y f1).trans f4,f5⟩
 ·obtain ⟨y,cs,f1,f2,f3,f4,f5⟩:=g5 hc
  rw [f2] at hx
  have hx:y=x:=by injection hx
  subst hx
  exact key y f1
theorem Dh {g:Option Nat} {t:TypeId} {n:Nat} {D:VP} (h:Kq g (.val D)):Kq g (.box t n D):=fun v w w' B b e hB o r ⟨c,cs,h1,h2,h3,h4,h5,h6⟩=>
 ⟨c,cs,h1,h2,by rw [o.size];exact h3,(o.rest c fun e2=>hB (e2 ▸ h2)).trans h4,h5,h _ _ _ _ b e hB o r h6⟩
end
theorem qdt {lo:Nat} {w w':World} {B:Bx} {V:Int} {ok:Bool} {e:Ending} {k:Nat} (hl:lo≤w.heap.size) (hB:Hz B w) (h:P7 44 .u32 (dg 4294967296 V) ok w e w') (hf:yz k V) (hk:k≤274877906944) (hV:0≤V) :
  ∃v,e=.returned v∧(qm5 lo (IsC V) ok).p v w' B∧Below w.heap.size w w':=by
 obtain ⟨ad,n,c,rfl,o,hb⟩:=h
 have hlim:=Ed
 obtain ⟨g,h1,h2,h3⟩:=qgy hl hB o (Nat.le_trans (Uk o hf hV) (by omega)) hV
 exact ⟨_,rfl,⟨g,h1,[.slice ad n c,.bool ok],rfl,⟨h2,h3⟩,rfl,trivial⟩,hb⟩
theorem qgj (V U:Int):Oz Tryz.prog 114 [IsM V,IsM U] (fun lo=>qid lo (IsC (V / U)) (IsC (if U=0 then 0 else V % U)) (decide (U≠0))):=by
 refine ⟨fun _ _=>by go_simp,fun lo vs w B hl hB hV=>?_⟩
 match vs,hV with
 | [v,u],⟨h1,h2,_⟩=>
  have hfv:=PM.fit h1
  have hV0:=PM.nonneg h1
  have hfu:=PM.fit h2
  have hU0:=PM.nonneg h2
  obtain ⟨ad,n,c,rfl,k,l⟩:=h1
  obtain ⟨bd,m,c2,rfl,k2,l2⟩:=h2
  obtain ⟨xs,r1,r2,rfl⟩:=k.row
  obtain ⟨ys,s1,s2,rfl⟩:=k2.row
  have hlim:=Ed
  refine (Y1 ad bd n m c c2 xs ys w (by omega) (by omega) k.le k2.le r1 s1 r2 s2).mono ?_
  rintro e w' ⟨ad3,n3,c3,ad4,n4,c4,rfl,o1,o2,hb,hsep⟩
  obtain ⟨q,hq,hf⟩:=hfv
  obtain ⟨q2,hq2,hf2⟩:=hfu
  have hR:O0 (val 4294967296 xs) (val 4294967296 ys)=if val 4294967296 ys=0 then 0 else val 4294967296 xs % val 4294967296 ys:=rfl
  rw [hR] at o2
  have n1:0≤val 4294967296 xs / val 4294967296 ys:=Int.ediv_nonneg hV0 hU0
  have n2:0≤if val 4294967296 ys=0 then 0 else val 4294967296 xs % val 4294967296 ys:=by rw [←hR];exact Tc _ _ hV0
  have f1:yz q (val 4294967296 xs / val 4294967296 ys):=hf.le (by have:=Int.ediv_le_self (val 4294967296 ys) hV0;omega)
  have f2:yz q2 (if val 4294967296 ys=0 then 0 else val 4294967296 xs % val 4294967296 ys):=hf2.le (by
   split
   ·omega
   ·have:=Int.emod_lt_of_pos (val 4294967296 xs) (show 0<val 4294967296 ys by omega)
    have:=Int.emod_nonneg (val 4294967296 xs) (show val 4294967296 ys≠0 by omega)
    omega)
  have l1:=Nat.le_trans (Uk o1 f1 n1) hq
  have l2:=Nat.le_trans (Uk o2 f2 n2) hq2
  obtain ⟨g1,a1,a2,a3⟩:=PHd.of_own hl hB o1 (by omega)
  obtain ⟨g2,b1,b2,b3⟩:=PHd.of_own hl hB o2 (by omega)
  refine ⟨_,rfl,⟨g1,g2,a1,b1,fun x hx hx2=>?_,[.slice ad3 n3 c3,.slice ad4 n4 c4,.bool (decide (val 4294967296 ys≠0))],rfl,⟨a2,ad3,n3,c3,rfl,⟨o1.le,o1.rds⟩,l1,n1⟩,⟨b2,ad4,n4,c4,rfl,⟨o2.le,o2.rds⟩,l2,n2⟩,rfl,trivial⟩,hb⟩
  obtain ⟨p1,p2⟩:=a3 x hx
  obtain ⟨p3,p4⟩:=b3 x hx2
  cases ad3 with
  | none=>cases p2
  | some q3=>cases ad4 with
   | none=>cases p4
   | some q4=>
    refine hsep p1 p3 q3 q4 rfl rfl ?_
    injection p2 with p2
    injection p4 with p4
    exact p2.trans p4.symm
theorem qdl (s:ByteArray) (hs:s.size≤140737488351232):Oz Tryz.prog 33 [Lit (.string s)] (fun lo=>qm5 lo (IsC (qx (qf s))) (jh (qf s))):=by
 refine ⟨fun _ _=>by go_simp,fun lo vs w B hl hB hV=>?_⟩
 match vs,hV with
 | [v],⟨h1,_⟩=>
  obtain rfl:=h1
  exact (Xe s w hs).mono fun e w' h=>qdt hl hB h (qk0 (qf s)) (by omega) (Be _)
section
variable {P:Program} {need:List (Tmp × FD)} {d:Option Tmp} {ty:TypeId} {pos:String} {af:Array Edge} {g:Option (Nat × Bool)}
end
theorem qdi {Bs:Nat} {Ow:Nat→Prop} {lo hi lo' hi':Nat} {w:World} {B:Bx} (v:Value) (h:(x9 Bs Ow lo hi [] 0).p v w B):(x9 Bs Ow lo' hi' [] 0).p v w B:=by
 obtain ⟨rv,L,e,h1,h2,h3,h4,h5⟩:=h
 obtain rfl:L=[]:=List.length_eq_zero_iff.1 (by omega)
 exact ⟨rv,[],e,h1,h2,h3,h4,fun h hh=>by cases hh⟩
end Go.Proofs.YtbcbmkeeoognpaaGreatDoor

set_option maxRecDepth 50000
namespace Go.Proofs.YtbcbmkeeoognpaaGreatDoor
open Go Go.RowKit
section
variable {P:Program} {need:List (Tmp × FD)} {d:Option Tmp} {ty:TypeId} {pos:String} {af:Array Edge} {g:Option (Nat × Bool)}
end
def qe3 (P:Program) (f:FuncId):Prop:=∀(B b:Nat) (v:Value) (L:List Hd) (ng:Bool) (ad:Option Addr) (n c:Nat) (w:World),y8 B w b v L→B≤w.heap.size→L.length<1000000 →
 Uo B w ⟨ad,n,c,none,0,0⟩→(∀h∈L,0<h.c→0<c→xg h.ad≠xg ad) →
  Calls P f #[.pointer (some ⟨b,0,none⟩),.agg #[.bool ng,.slice ad n c]] w (fun e w'=>e=.returned (.tuple #[])∧Kp B b w w'∧∃v',y8 B w' b v' (L++[⟨ad,n,c,none,0,0⟩])∧∀x,v'.ownBlock=some x→v.ownBlock=some x∨w.heap.size≤x)
section
variable {P:Program} {ops:Array Oper} {Q:Exit→Act→World→Prop} {N:Nat} {w0:World} {B0:Bx} {a:Act} {w:World} {B:Bx} {l:List (Tmp × FD)} {bxs:List Tmp}
theorem Vs {i:Nat} {K:Act→World→Prop} {f:FuncId} {Ow:Nat→Prop} {lo hi cnt:Nat} {ex:List (Option Nat)} {g:Option Nat} {D:VP} {s p:Tmp} {y x:Operand} {ts:Array TypeId} {ty:TypeId} {pos:String} {af:Array Edge} (kp:Nat) (is:List Nat) {ks l':List (Tmp × FD)}
  (H:St N w0 B0 a w B l bxs) (ho:ops[i]?=some ⟨some s,.call { callee:=.value (.func f),args:=#[y,x],argTypes:=ts },ty,pos,af,none⟩)
  (hent:∀(vs:Array Value) (w:World),(callFunc f vs).run P w=.ok (.enter f vs) w) (hf:qe3 P f)
  (hp:l[kp]?=some (p,.box 42 15 (x9 w0.heap.size Ow lo hi ex cnt))) (hy:a.eval y=a.tmps.getD p undef) (hx:Opd l x (.val (qj g D)))
  (hcnt:cnt<1000000) (hOw:∀x,w.heap.size≤x→Ow x) (hg:∀b,g=some b→w0.heap.size≤b∧¬(lo≤b∧b<hi)∧some b ∉ ex)
  (hks:is.map (fun i=>l[i]?)=ks.map some) (hc:(bxs.contains p && decide (s<N) && (!bxs.contains s) && ks.all fun y=>y.1 != s && (y.2.isVal || (y.1 != p && y.2.isBox && bxs.contains y.1)))=true) (hk:Us w0.heap.size ks)
  (hps:s≠p) (hl:(p,FD.box 42 15 (x9 w0.heap.size Ow lo hi (g :: ex) (cnt+1))) :: ks=l')
  (hK:∀a w B,St N w0 B0 a w B l' bxs→K a w):wpOp P ops Q i K a w:=by
 simp only [Bool.and_eq_true,List.all_eq_true,Bool.or_eq_true,Bool.not_eq_true',decide_eq_true_eq,bne_iff_ne,ne_eq] at hc
 obtain ⟨⟨⟨hpb,hsN⟩,hsb⟩,hall⟩:=hc
 rw [List.contains_iff_mem] at hpb
 obtain ⟨b,rv,L,e1,hBb,hbs,hA,hL,hblk,hrow⟩:=H.book kp hp hpb (by omega)
 obtain ⟨⟨ng,sl,e0,ad,n,c,e2,g1,g2,g3,g4,g5⟩,hD⟩:=hx a w B H.fc
 subst e2
 have hB0:w0.heap.size≤w.heap.size:=H.bel.size
 have hho:Uo w0.heap.size w ⟨ad,n,c,none,0,0⟩:=⟨g1,g2,g3,fun h0=>by
  obtain ⟨x,cs,f1,f2,f3,f4,f5⟩:=g5 h0
  exact ⟨x,cs,f2,(hg x f1).1,f4,f5⟩⟩
 have hse:∀h∈L,0<h.c→0<c→xg h.ad≠xg ad:=fun h hh h0 h1 e=>by
  obtain ⟨x,k1,k2,k3⟩:=hblk h hh h0
  obtain ⟨x2,cs,f1,f2,f3,f4,f5⟩:=g5 h1
  rw [k1,f2] at e
  have e:x=x2:=by injection e
  subst e
  have:=hg x f1
  rcases k3 with k3 | k3
  ·exact this.2.1 k3
  ·exact this.2.2 k3
 unfold wpOp
 simp only [ho]
 rw [if_pos (by simp [Region.wanted])]
 refine .inl ?_
 unfold Oper.wp
 have hr:(execOp a.eval ⟨some s,.call { callee:=.value (.func f),args:=#[y,x],argTypes:=ts },ty,pos,af,none⟩).run P w=.ok (.enter f #[.pointer (some ⟨b,0,none⟩),.agg #[.bool ng,.slice ad n c]]) w:=by
  simp [execOp,resolve,Act.eval,Deferred.ofValue,invoke,Sem.run_bind,hent]
  have q1:=hy
  rw [e1] at q1
  have q2:a.eval x=.agg #[.bool ng,.slice ad n c]:=e0
  simp only [Act.eval,Array.getD_eq_getD_getElem?] at q1 q2
  exact ⟨q1,q2⟩
 rw [hr]
 refine (hf w0.heap.size b rv L ng ad n c w hA hB0 (by omega) hho hse).mono ?_
 rintro e w' ⟨rfl,kk,v',hA',hrr⟩
 refine hK _ w' B ?_
 have hsz:∀d,(some s:Option Tmp)=some d→d<a.tmps.size:=fun d hd=>by injection hd with hd;subst hd;rw [H.sz];exact hsN
 have hput:∀z v,(a.put (some s) v).tmps.getD z undef=if some s=some z then v else a.tmps.getD z undef:=fun z v=>Dc hsz
 have hold:∀z v,z≠s→(a.put (some s) v).tmps.getD z undef=a.tmps.getD z undef:=fun z v hz=>by
  rw [hput,if_neg fun e=>hz (by injection e with e;exact e.symm)]
 have hbx:∀z∈bxs,z≠s:=fun z hz e=>by
  subst e
  rw [←List.contains_iff_mem,hsb] at hz
  cases hz
 refine ⟨put_defers.trans H.df,Dk.trans H.sz,?_,fun z hz=>?_,fun z hz t ht hzt=>?_,?_,fun k hk2=>Nat.lt_of_lt_of_le (H.own k hk2) kk.size,H.own0⟩
 ·rw [←hl]
  refine Fct.of_all fun z hz=>?_
  rcases List.mem_cons.1 hz with rfl | hz
  ·have hrb:∀x,v'.ownBlock=some x→¬B x∧Ow x:=by
    intro x hx
    rcases hrr x hx with e | e
    ·exact hrow x e
    ·exact ⟨fun hBx=>(by have:=H.own x hBx;omega),hOw x e⟩
   refine ⟨b,_,(hold p _ (Ne.symm hps)).trans e1,hBb,hA'.lt,hA'.hd,rfl,v',_,rfl,by simp;omega,hA'.row,hrb,hA'.sep,fun h hh=>⟨hA'.one h hh,fun h0=>?_⟩⟩
   rcases List.mem_append.1 hh with hh | hh
   ·obtain ⟨x,k1,k2,k3⟩:=hblk h hh h0
    refine ⟨x,k1,k2,?_⟩
    rcases k3 with k3 | k3
    ·exact .inl k3
    ·exact .inr (List.mem_cons_of_mem _ k3)
   ·rw [List.mem_singleton] at hh
    subst hh
    obtain ⟨x,cs,f1,f2,f3,f4,f5⟩:=g5 h0
    exact ⟨x,by rw [f2];rfl,f3,.inr (by rw [f1];exact List.mem_cons_self ..)⟩
  ·have hm:z∈l:=by
    have h2:some z∈is.map (fun i=>l[i]?):=by rw [hks];exact List.mem_map.2 ⟨z,hz,rfl⟩
    obtain ⟨i,_,hi⟩:=List.mem_map.1 h2
    exact List.mem_of_getElem? hi
   obtain ⟨q1,q3⟩:=hall z hz
   rw [hold z.1 _ q1]
   refine (hk.all z hz).run hbs hBb (fun hb e=>?_) kk (H.fc.all z hm)
   rcases q3 with q3 | ⟨⟨q2,q4⟩,q5⟩
   ·cases hf:z.2 with
    | val E=>rw [hf] at hb;simp [FD.isBox] at hb
    | ptr t n E off=>rw [hf] at q3;simp [FD.isVal] at q3
    | box t n E=>rw [hf] at q3;simp [FD.isVal] at q3
   ·exact H.ap z.1 (List.contains_iff_mem.1 q5) p hpb q2 (e.trans e1.symm)
 ·obtain ⟨c2,k1,k2,k3⟩:=H.bx z hz
  exact ⟨c2,(hold z _ (hbx z hz)).trans k1,Nat.lt_of_lt_of_le k2 kk.size,k3⟩
 ·rw [hold z _ (hbx z hz),hold t _ (hbx t ht)];exact H.ap z hz t ht hzt
 ·have:=kk.below hbs hB0
  exact H.bel.trans this
theorem St.nameFI (H:St N w0 B0 a w B l bxs) (i:Nat) {s:Tmp} {lo:Nat} {D:VP} (hi:l[i]?=some (s,.val (qo lo D))) {l':Option Nat→List (Tmp × FD)} (hl:∀g,l.set i (s,.val (qj g D))=l' g):∃g,(∀b,g=some b→lo≤b∧b<w.heap.size)∧St N w0 B0 a w B (l' g) bxs:=by
 obtain ⟨g,h1,h2,h3⟩:=H.fc.get i hi
 refine ⟨g,fun b hb=>⟨h1 b hb,?_⟩,H.df,H.sz,Fct.of_all fun x hx=>?_,H.bx,H.ap,H.bel,H.own,H.own0⟩
 ·obtain ⟨_,_,_,h4⟩:=h2
  exact h4.lt b hb
 ·rw [←hl] at hx
  rcases List.mem_or_eq_of_mem_set hx with h | h
  ·exact H.fc.all x h
  ·subst h;exact ⟨h2,h3⟩
end
theorem Q7 {Bs:Nat} {g:Option Nat} {N:Int}:Iw Bs (.val (qj g (IsI N))):=fun v w w' B b hbs hb k ⟨⟨c,sl,e,h1⟩,h2⟩=>by
 have h3:=h1.keptB hb k
 refine ⟨⟨c,sl,e,h3⟩,?_⟩
 obtain ⟨ad,n,d,e2,k2,l⟩:=h2
 have e4:sl=.slice ad n d:=by
  rw [e] at e2
  injection e2 with e2
  have:=congrArg (fun a:Array Value=>a[1]?) e2
  simpa using this
 subst e4
 obtain ⟨ad',n',c',e',g1,g2,g3,g4,g5⟩:=h1
 injection e' with i1 i2 i3
 subst i1 i2 i3
 refine ⟨ad,n,d,e2,⟨k2.le,k2.rds.kept fun hn x hx=>?_⟩,l⟩
 obtain ⟨y,cs,f1,f2,f3,f4,f5⟩:=g5 (by have:=k2.le;omega)
 rw [f2] at hx
 have hx:y=x:=by injection hx
 subst hx
 rw [f4]
 exact k.limbs f4 (fun h6=>f3 (h6 ▸ hb))
set_option maxRecDepth 50000 in
theorem Vp:qe3 Tryz.prog 22:=fun B b v L ng ad n c w h hB hl ho hs=>by
 have b1:Below w.heap.size w (w.alloc (.cells #[.bool ng,.slice ad n c] 52)):=(Below.refl _ _).alloc (Nat.le_refl _) _
 have k0:Cel (w.alloc (.cells #[.bool ng,.slice ad n c] 52)) w.heap.size 52 [.bool ng,.slice ad n c]:=Cel.made _ _ _ _ rfl
 have F:=Lib.hid (qdw B b v L ad n c (w.alloc (.cells #[.bool ng,.slice ad n c] 52)) (h.below b1 (Nat.le_refl _)) (Nat.le_trans hB b1.size) hl (ho.below b1 (Nat.le_refl _)) hs)
 have hlt:=h.lt
 have hsz:(w.alloc (.cells #[.bool ng,.slice ad n c] 52)).heap.size=w.heap.size+1:=by simp
 clear h ho hs
 have c1:=k0.cell 1 _ rfl
 go_enter Tryz.func22,Tryz.ntmps22
 go_wp2_with fail
 refine (F.out).mono ?_
 rintro e w1 ⟨rfl,h1,v',h2,h3⟩
 clear F c1
 go_wp2
 go_end0
 refine ⟨rfl,(Kp.of_below b1).trans h1,v',h2,fun x hx=>?_⟩
 rcases h3 x hx with h4 | h4
 ·exact .inl h4
 ·exact .inr (by omega)
end Go.Proofs.YtbcbmkeeoognpaaGreatDoor

set_option maxRecDepth 50000
namespace Go.Proofs.YtbcbmkeeoognpaaGreatDoor
open Go Go.RowKit
section
variable {P:Program} {need:List (Tmp × FD)} {d:Option Tmp} {ty:TypeId} {pos:String} {af:Array Edge} {g:Option (Nat × Bool)} {x y x0 x1 x2 x3:Operand} {D:VP}
end
section
variable {P:Program} {need:List (Tmp × FD)} {d:Option Tmp} {ty:TypeId} {pos:String} {af:Array Edge} {g:Option (Nat × Bool)} {x:Operand} {D:VP}
end
def qig (Bs:Nat) (f:FD):Prop:=∀(v:Value) (w w':World) (B:Bx) (b:Nat),Bs≤b→B b→(f.isBox=true→v≠.pointer (some ⟨b,0,none⟩))→Only b w w'→f.p v w B→f.p v w' B
inductive qa9 (Bs:Nat):List (Tmp × FD)→Prop where
 | nil:qa9 Bs []
 | cons {s:Tmp} {f:FD} {l:List (Tmp × FD)} (h:qig Bs f) (t:qa9 Bs l):qa9 Bs ((s,f) :: l)
theorem qa9.all {Bs:Nat} {l:List (Tmp × FD)} (h:qa9 Bs l):∀x∈l,qig Bs x.2:=by
 induction h with
 | nil=>intro x hx;cases hx
 | cons h t ih=>
  intro x hx
  rcases List.mem_cons.1 hx with rfl | hx
  ·exact h
  ·exact ih x hx
section
variable {P:Program} {ops:Array Oper} {Q:Exit→Act→World→Prop} {N:Nat} {w0:World} {B0:Bx} {a:Act} {w:World} {B:Bx} {l:List (Tmp × FD)} {bxs:List Tmp}
end
end Go.Proofs.YtbcbmkeeoognpaaGreatDoor
