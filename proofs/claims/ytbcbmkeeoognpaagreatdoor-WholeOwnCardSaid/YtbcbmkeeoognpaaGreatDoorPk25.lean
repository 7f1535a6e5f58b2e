/- Contracts of functions, and plain facts, part 25. -/
import Derived.Test.YtbcbmkeeoognpaaGreatDoorPk19
import Derived.Test.YtbcbmkeeoognpaaGreatDoorPk21
import Derived.Test.YtbcbmkeeoognpaaGreatDoorPk22
set_option linter.unusedVariables false
set_option linter.unusedSimpArgs false
namespace Go.Proofs.YtbcbmkeeoognpaaGreatDoor
open Go Go.RowKit
set_option maxRecDepth 20000 in
set_option maxHeartbeats 2000000 in
theorem Tq (s:ByteArray) (hs:s.size≤1048576):Con Tryz.prog 143 [Lit (.string s)] (zn (xm (qf s))):=by
 refine Ba (N:=74) Tryz.ntmps143 (fun _ _=>by go_simp) Tryz.func143 rfl (by simp) ?_
 intro a0 w0 B0 H0
 replace H0:St 74 w0 B0 a0 w0 B0 [(0,.val (Lit (.string s)))] []:=H0
 obtain ⟨hfV,hV0⟩:=qnw s hs
 have hlen:=zu s
 have hrl:(qf s).reverse.length=s.size:=by rw [List.length_reverse];exact hlen
 have hD:Dig 256 (qf s).reverse:=(Jn s).reverse
 have hfP:=qny (s.size:Int) (by omega)
 refine wp_seq ?_
 refine fr (refs:=[[]]) (outs:=[.res 0,.pre 0]) (als:=[true]) (posts:=[.box 52 2 (qp)])
  (out:=[(2,.box 52 2 (qp)),(0,.val (Lit (.string s)))]) (nb:=[2]) H0 1 [] rfl (by kernel_rfl) rfl rfl ?_ ?_
 ·refine cp (yw (D:=qp) Dq rfl (fun _ _=>rfl)) ?_
  exact .nil
 clear H0
 intro a1 w1 B1 H1
 simp only [List.cons_append,List.nil_append] at H1
 refine qi ?_
 refine qg ?_
 refine wp_seq ?_
 obtain ⟨m2,hm2,hw2,hL2,H2⟩:=St.mark H1 902
 clear H1
 clear hL2 hw2
 refine fr (refs:=[[]]) (outs:=[.res 0]++pr 0 3) (als:=[false]) (posts:=[.val (zh none m2 44 .u32 ([]))])
  (out:=[(3,.val (zh none m2 44 .u32 ([]))),(902,zs m2),(2,.box 52 2 (qp)),(0,.val (Lit (.string s)))]) (nb:=[]) H2 1 [] rfl (by kernel_rfl) rfl rfl ?_ ?_
 ·refine cp (qhk (.inl rfl)) ?_
  exact .nil
 clear H2 a1 w1 B1
 intro a3 w3 B3 H3
 refine qi ?_
 refine qg ?_
 refine wp_seq ?_
 refine wp_seq ?_
 refine fr (refs:=[[]]) (outs:=[.res 0]++pr 0 4) (als:=[false]) (posts:=[i6 0])
  (out:=[(4,i6 0),(3,.val (zh none m2 44 .u32 ([]))),(902,zs m2),(2,.box 52 2 (qp)),(0,.val (Lit (.string s)))]) (nb:=[]) H3 1 [] rfl (by kernel_rfl) rfl rfl ?_ ?_
 ·refine cp (qm (.lit)) ?_
  exact .nil
 clear H3 a3 w3 B3
 intro a4 w4 B4 H4
 refine qi ?_
 refine qg ?_
 refine wp_block ?_
 refine Gq (fun (⟨g,i,X⟩:Option Nat × Int × List Int)=>[(4,i6 i),(3,.val (zh g m2 44 .u32 X)),(902,zs m2),(2,.box 52 2 (qp)),(0,.val (Lit (.string s)))]) (fun (⟨g,i,X⟩:Option Nat × Int × List Int)=>(0≤i∧i≤(s.size:Int))∧FS (qf s).reverse X i.toNat) (fun (⟨g,i,X⟩:Option Nat × Int × List Int)=>((s.size:Int)-i).toNat) (⟨none,0,[]⟩) (St.pick H4 [0,1,2,3,4] rfl) (by exact ⟨by omega,qj1 _⟩) ?_
 clear H4 a4 w4 B4
 rintro ⟨g,i,X⟩ a5 w5 B5 hI5 H5
 replace hI5:(0≤i∧i≤(s.size:Int))∧FS (qf s).reverse X i.toNat:=hI5
 replace H5:St 74 w0 B0 a5 w5 B5 [(4,i6 i),(3,.val (zh g m2 44 .u32 X)),(902,zs m2),(2,.box 52 2 (qp)),(0,.val (Lit (.string s)))] [2]:=H5
 obtain ⟨hi,hst⟩:=hI5
 refine wp_seq ?_
 refine wp_seq ?_
 refine fr (refs:=[[.pre 0],[.pre 4],[.res 1],[.res 0,.res 2]]) (outs:=[.res 3]++pr 0 5) (als:=fs 4) (posts:=[i6 i,.val (Lit (.string s)),i6 ((s).size:Int),bv (decide (i<((s).size:Int)))])
  (out:=[(11,bv (decide (i<((s).size:Int)))),(4,i6 i),(3,.val (zh g m2 44 .u32 X)),(902,zs m2),(2,.box 52 2 (qp)),(0,.val (Lit (.string s)))]) (nb:=[]) H5 4 [] rfl (by kernel_rfl) rfl rfl ?_ ?_
 ·refine cp (qh (.tmp 0 rfl)) ?_
  refine cp (qh (.tmp 0 rfl)) ?_
  refine cp (Cm Tryz.underlying9 (.tmp 0 rfl)) ?_
  refine cp (jq (.tmp 0 rfl) (.tmp 1 rfl) rfl) ?_
  exact .nil
 clear H5 a5 w5 B5
 intro a6 w6 B6 H6
 refine qi ?_
 refine qg ?_
 refine Aa H6 (.tmp 0 rfl) ?_ ?_
 ·intro hc7
  replace hc7:=of_decide_eq_true hc7
  refine wp_skip ?_
  refine qg ?_
  refine wp_seq ?_
  refine wp_block ?_
  refine wp_seq ?_
  have hbb:=hD.get (by omega) i.toNat
  refine fr (refs:=[[.pre 5],[.pre 5],[.res 1],[.res 2],[.pre 1],[.res 3,.res 4],[.res 0,.res 5],[.res 6],[.res 7]]) (outs:=[.res 8]++pr 1 5) (als:=fs 9) (posts:=[.val (Lit (.string s)),.val (Lit (.string s)),i6 ((s).size:Int),i6 (((s).size:Int)-1),i6 i,i6 ((((s).size:Int)-1)-i),.val (Lit (.int .u8 ((qf s).reverse[i.toNat]?.getD 0))),.val (Lit (.int .u32 ((qf s).reverse[i.toNat]?.getD 0))),.val (Lit (.int .u32 ((qf s).reverse[i.toNat]?.getD 0)))])
   (out:=[(5,.val (Lit (.int .u32 ((qf s).reverse[i.toNat]?.getD 0)))),(4,i6 i),(3,.val (zh g m2 44 .u32 X)),(902,zs m2),(2,.box 52 2 (qp)),(0,.val (Lit (.string s)))]) (nb:=[]) H6 9 [] rfl (by kernel_rfl) rfl rfl ?_ ?_
  ·refine cp (qh (.tmp 0 rfl)) ?_
   refine cp (qh (.tmp 0 rfl)) ?_
   refine cp (Cm Tryz.underlying9 (.tmp 0 rfl)) ?_
   refine cp (D6 (r:=(((s).size:Int)-1)) (.tmp 0 rfl) (.lit) (xh (by omega))) ?_
   refine cp (qh (.tmp 0 rfl)) ?_
   refine cp (D6 (r:=((((s).size:Int)-1)-i)) (.tmp 0 rfl) (.tmp 1 rfl) (xh (by omega))) ?_
   refine cp (Cj (n:=(s.size-1-i.toNat)) (c:=((qf s).reverse[i.toNat]?.getD 0)) Tryz.underlying9 (.tmp 0 rfl) (.tmp 1 rfl) (by omega) (qgd s i.toNat (by omega))) ?_
   refine cp (Ee Tryz.underlying5 Tryz.underlying44 (r:=((qf s).reverse[i.toNat]?.getD 0)) (.tmp 0 rfl) (Oc (by omega))) ?_
   refine cp (qm (.tmp 0 rfl)) ?_
   exact .nil
  clear H6 a6 w6 B6
  intro a8 w8 B8 H8
  refine qi ?_
  refine qg ?_
  refine wp_seq ?_
  refine wp_seq ?_
  refine fr (refs:=[[.pre 1],[.res 0],[.res 1]]) (outs:=[.res 2]++pr 0 6) (als:=fs 3) (posts:=[i6 i,i6 (i % 4),bv (decide (i % 4=0))])
   (out:=[(24,bv (decide (i % 4=0))),(5,.val (Lit (.int .u32 ((qf s).reverse[i.toNat]?.getD 0)))),(4,i6 i),(3,.val (zh g m2 44 .u32 X)),(902,zs m2),(2,.box 52 2 (qp)),(0,.val (Lit (.string s)))]) (nb:=[]) H8 3 [] rfl (by kernel_rfl) rfl rfl ?_ ?_
  ·refine cp (qh (.tmp 0 rfl)) ?_
   refine cp (Po (r:=(i % 4)) (.tmp 0 rfl) (.lit) (by omega) (Int.tmod_eq_emod_of_nonneg (by omega))) ?_
   refine cp (jq (.tmp 0 rfl) (.lit) rfl) ?_
   exact .nil
  clear H8 a8 w8 B8
  intro a9 w9 B9 H9
  refine qi ?_
  refine qg ?_
  refine Aa H9 (.tmp 0 rfl) ?_ ?_
  ·intro hc10
   replace hc10:=of_decide_eq_true hc10
   refine fr (refs:=[[.pre 3],[]]) (outs:=[.res 0,.res 1]++pr 1 6) (als:=fs 2) (posts:=[.val (zh g m2 44 .u32 X),.val (IsL .u32 ([0]))])
    (out:=[(25,.val (zh g m2 44 .u32 X)),(26,.val (IsL .u32 ([0]))),(5,.val (Lit (.int .u32 ((qf s).reverse[i.toNat]?.getD 0)))),(4,i6 i),(3,.val (zh g m2 44 .u32 X)),(902,zs m2),(2,.box 52 2 (qp)),(0,.val (Lit (.string s)))]) (nb:=[]) H9 2 [2,3] rfl (by kernel_rfl) rfl rfl ?_ ?_
   ·refine cp (qh (.tmp 0 rfl)) ?_
    refine cp (qcm (.lit)) ?_
    exact .nil
   clear H9 a9 w9 B9
   intro a11 w11 B11 H11
   refine zi ?_
   refine qiv (xs:=X) (ys:=([0])) (ks:=[(5,.val (Lit (.int .u32 ((qf s).reverse[i.toNat]?.getD 0)))),(4,i6 i),(902,zs m2),(2,.box 52 2 (qp)),(0,.val (Lit (.string s)))]) 5 [2,3,5,6,7] H11 hm2 rfl Tryz.underlying23 Ah (by omega) (.tmp 0 rfl) (.tmp 1 rfl) (by simp) (by have:=hst.2;simp;omega) rfl (Nat.le_refl _) rfl rfl (by kernel_rfl) rfl (.cons (jg) (.cons (jg) (.cons (Ce) (.cons (I7 (jg)) (.cons (jg) (.nil)))))) ?_
   clear H11
   intro a12 w12 B12 g12 hg12 H12
   replace H12:St 74 w0 B0 a12 w12 B12 [(27,.val (zh g12 m2 44 .u32 (X++([0])))),(5,.val (Lit (.int .u32 ((qf s).reverse[i.toNat]?.getD 0)))),(4,i6 i),(902,zs m2),(2,.box 52 2 (qp)),(0,.val (Lit (.string s)))] [2]:=H12
   refine zi ?_
   refine jm (D:=.val (zh g12 m2 44 .u32 (X++([0])))) (l':=[(3,.val (zh g12 m2 44 .u32 (X++([0])))),(27,.val (zh g12 m2 44 .u32 (X++([0])))),(5,.val (Lit (.int .u32 ((qf s).reverse[i.toNat]?.getD 0)))),(4,i6 i),(902,zs m2),(2,.box 52 2 (qp)),(0,.val (Lit (.string s)))]) H12 rfl rfl rfl (.plain rfl (qm (.tmp 0 rfl))) rfl rfl ?_
   clear H12 a12 w12 B12
   intro a13 w13 B13 H13
   refine qi ?_
   refine qg ?_
   have st0:Le (qf s).reverse (X++([0])) i.toNat∧List.length (X++([0]))=i.toNat / 4+1:=qnv hi.1 hst hc10
   obtain ⟨st1,stb,stj⟩:=qfi hi.1 (by rw [hrl];omega) hD st0
   refine fd (refs:=[[.pre 0],[.pre 3],[.res 1],[.pre 0],[.pre 3],[.res 4],[.res 3,.res 5],[.res 6],[.pre 2],[.pre 3],[.res 9],[.res 10],[.res 8,.res 11],[.res 7,.res 12],[.res 0,.res 2]]) (outs:=[.res 13,.res 14,.pre 0]++pr 3 4) (als:=fs 15) (posts:=[.val (zh g12 m2 44 .u32 (X++([0]))),i6 i,i6 (i / 4),.val (zh g12 m2 44 .u32 (X++([0]))),i6 i,i6 (i / 4),.val (Fh .u32 ((X++([0]))[(i / 4).toNat]?.getD 0)),.val (Lit (.int .u32 ((X++([0]))[(i / 4).toNat]?.getD 0))),.val (Lit (.int .u32 ((qf s).reverse[i.toNat]?.getD 0))),i6 i,i6 (i % 4),i6 (8*(i % 4)),.val (Lit (.int .u32 (((qf s).reverse[i.toNat]?.getD 0)*256 ^ (i % 4).toNat))),.val (Lit (.int .u32 (((X++([0]))[(i / 4).toNat]?.getD 0)+(((qf s).reverse[i.toNat]?.getD 0)*256 ^ (i % 4).toNat)))),.val (Nq g12 ((i / 4).toNat))])
    (out:=[(41,.val (Lit (.int .u32 (((X++([0]))[(i / 4).toNat]?.getD 0)+(((qf s).reverse[i.toNat]?.getD 0)*256 ^ (i % 4).toNat))))),(42,.val (Nq g12 ((i / 4).toNat))),(3,.val (zh g12 m2 44 .u32 (X++([0])))),(4,i6 i),(902,zs m2),(2,.box 52 2 (qp)),(0,.val (Lit (.string s)))]) (nb:=[]) H13 (by kernel_rfl) 15 1 #[true,true,true,true,true,true,true,true,true,true,true,true,true,true,true,false] (by kernel_rfl) (by kernel_rfl) rfl rfl ?_ ?_
   ·refine cp (qh (.tmp 0 rfl)) ?_
    refine cp (qh (.tmp 0 rfl)) ?_
    refine cp (Hu (r:=(i / 4)) (.tmp 0 rfl) (.lit) (by omega) (by rw [Int.tdiv_eq_ediv_of_nonneg (by omega)];exact xh (by omega))) ?_
    refine cp (qh (.tmp 0 rfl)) ?_
    refine cp (qh (.tmp 0 rfl)) ?_
    refine cp (Hu (r:=(i / 4)) (.tmp 0 rfl) (.lit) (by omega) (by rw [Int.tdiv_eq_ediv_of_nonneg (by omega)];exact xh (by omega))) ?_
    refine cp (Et (xs:=(X++([0]))) ((i / 4).toNat) Tryz.underlying23 Bf (.weak (.tmp 0 rfl) Gf) (.tmp 1 rfl) (by omega) (by first | omega | (simp;omega))) ?_
    refine cp (Ap Jd (.tmp 0 rfl)) ?_
    refine cp (qh (.tmp 0 rfl)) ?_
    refine cp (qh (.tmp 0 rfl)) ?_
    refine cp (Po (r:=(i % 4)) (.tmp 0 rfl) (.lit) (by omega) (Int.tmod_eq_emod_of_nonneg (by omega))) ?_
    refine cp (Nh (r:=(8*(i % 4))) (.lit) (.tmp 0 rfl) (xh (by omega))) ?_
    refine cp (Wy (r:=(((qf s).reverse[i.toNat]?.getD 0)*256 ^ (i % 4).toNat)) (.tmp 0 rfl) (.tmp 1 rfl) (by omega) (N9 ((qf s).reverse[i.toNat]?.getD 0) (i % 4) (by omega) (by omega))) ?_
    refine cp (Aq (r:=(((X++([0]))[(i / 4).toNat]?.getD 0)+(((qf s).reverse[i.toNat]?.getD 0)*256 ^ (i % 4).toNat))) (.tmp 0 rfl) (.tmp 1 rfl) (Oc (by omega))) ?_
    refine cp (J4 (xs:=(X++([0]))) ((i / 4).toNat) Tryz.underlying23 Bf (.tmp 0 rfl) (.tmp 1 rfl) (by omega) (by first | omega | (simp;omega))) ?_
    exact .nil
   clear H13 a13 w13 B13
   intro a14 w14 B14 H14
   refine Az (l':=#[true,true,true,true,true,true,true,true,true,true,true,true,true,true,true,true]) 15 (by kernel_rfl) ?_
   refine Hg (xs:=(X++([0]))) (y:=(((X++([0]))[(i / 4).toNat]?.getD 0)+(((qf s).reverse[i.toNat]?.getD 0)*256 ^ (i % 4).toNat))) (j:=((i / 4).toNat)) (ks:=[(41,.val (Lit (.int .u32 (((X++([0]))[(i / 4).toNat]?.getD 0)+(((qf s).reverse[i.toNat]?.getD 0)*256 ^ (i % 4).toNat))))),(4,i6 i),(902,zs m2),(2,.box 52 2 (qp)),(0,.val (Lit (.string s)))]) (l':=[(3,.val (zh g12 m2 44 .u32 (List.set (X++([0])) ((i / 4).toNat) (((X++([0]))[(i / 4).toNat]?.getD 0)+(((qf s).reverse[i.toNat]?.getD 0)*256 ^ (i % 4).toNat))))),(41,.val (Lit (.int .u32 (((X++([0]))[(i / 4).toNat]?.getD 0)+(((qf s).reverse[i.toNat]?.getD 0)*256 ^ (i % 4).toNat))))),(4,i6 i),(902,zs m2),(2,.box 52 2 (qp)),(0,.val (Lit (.string s)))]) 1 2 [3] [0,3,4,5,6] H14 hm2 rfl Bf rfl (.tmp 0 rfl) rfl (by first | omega | (simp;omega)) rfl (.cons (jg) (.cons (jg) (.cons (Ce) (.cons (I7 (jg)) (.cons (jg) (.nil)))))) (by simp) rfl ?_
   clear H14 w14
   intro w15 H15
   refine Bh (by kernel_rfl) ?_
   refine kw ?_
   refine qg ?_
   refine fr (refs:=[[.pre 2],[.res 0]]) (outs:=[.res 1,.pre 0]++pr 2 4) (als:=fs 2) (posts:=[i6 i,i6 (i+1)])
    (out:=[(13,i6 (i+1)),(3,.val (zh g12 m2 44 .u32 (List.set (X++([0])) ((i / 4).toNat) (((X++([0]))[(i / 4).toNat]?.getD 0)+(((qf s).reverse[i.toNat]?.getD 0)*256 ^ (i % 4).toNat))))),(4,i6 i),(902,zs m2),(2,.box 52 2 (qp)),(0,.val (Lit (.string s)))]) (nb:=[]) H15 2 [2] rfl (by kernel_rfl) rfl rfl ?_ ?_
   ·refine cp (qh (.tmp 0 rfl)) ?_
    refine cp (Aq (r:=(i+1)) (.tmp 0 rfl) (.lit) (xh (by omega))) ?_
    exact .nil
   clear H15 a14 w15 B14
   intro a16 w16 B16 H16
   refine zi ?_
   refine jm (D:=i6 (i+1)) (l':=[(4,i6 (i+1)),(13,i6 (i+1)),(3,.val (zh g12 m2 44 .u32 (List.set (X++([0])) ((i / 4).toNat) (((X++([0]))[(i / 4).toNat]?.getD 0)+(((qf s).reverse[i.toNat]?.getD 0)*256 ^ (i % 4).toNat))))),(902,zs m2),(2,.box 52 2 (qp)),(0,.val (Lit (.string s)))]) H16 rfl rfl rfl (.plain rfl (qm (.tmp 0 rfl))) rfl rfl ?_
   clear H16 a16 w16 B16
   intro a17 w17 B17 H17
   refine qi ?_
   exact ⟨⟨g12,i+1,List.set (X++([0])) ((i / 4).toNat) (((X++([0]))[(i / 4).toNat]?.getD 0)+(((qf s).reverse[i.toNat]?.getD 0)*256 ^ (i % 4).toNat))⟩,B17,by exact ⟨by omega,st1⟩,St.pick H17 [0,2,3,4,5] rfl,by show ((s.size:Int)-(i+1)).toNat<((s.size:Int)-i).toNat;omega⟩
  ·intro hc10
   replace hc10:=of_decide_eq_false hc10
   refine wp_skip ?_
   refine qg ?_
   have st0:Le (qf s).reverse X i.toNat∧List.length (X)=i.toNat / 4+1:=ql8 hi.1 hst hc10
   obtain ⟨st1,stb,stj⟩:=qfi hi.1 (by rw [hrl];omega) hD st0
   refine fd (refs:=[[.pre 3],[.pre 2],[.res 1],[.pre 3],[.pre 2],[.res 4],[.res 3,.res 5],[.res 6],[.pre 1],[.pre 2],[.res 9],[.res 10],[.res 8,.res 11],[.res 7,.res 12],[.res 0,.res 2]]) (outs:=[.res 13,.res 14]++pr 2 5) (als:=fs 15) (posts:=[.val (zh g m2 44 .u32 X),i6 i,i6 (i / 4),.val (zh g m2 44 .u32 X),i6 i,i6 (i / 4),.val (Fh .u32 (X[(i / 4).toNat]?.getD 0)),.val (Lit (.int .u32 (X[(i / 4).toNat]?.getD 0))),.val (Lit (.int .u32 ((qf s).reverse[i.toNat]?.getD 0))),i6 i,i6 (i % 4),i6 (8*(i % 4)),.val (Lit (.int .u32 (((qf s).reverse[i.toNat]?.getD 0)*256 ^ (i % 4).toNat))),.val (Lit (.int .u32 ((X[(i / 4).toNat]?.getD 0)+(((qf s).reverse[i.toNat]?.getD 0)*256 ^ (i % 4).toNat)))),.val (Nq g ((i / 4).toNat))])
    (out:=[(41,.val (Lit (.int .u32 ((X[(i / 4).toNat]?.getD 0)+(((qf s).reverse[i.toNat]?.getD 0)*256 ^ (i % 4).toNat))))),(42,.val (Nq g ((i / 4).toNat))),(4,i6 i),(3,.val (zh g m2 44 .u32 X)),(902,zs m2),(2,.box 52 2 (qp)),(0,.val (Lit (.string s)))]) (nb:=[]) H9 (by kernel_rfl) 15 1 #[true,true,true,true,true,true,true,true,true,true,true,true,true,true,true,false] (by kernel_rfl) (by kernel_rfl) rfl rfl ?_ ?_
   ·refine cp (qh (.tmp 0 rfl)) ?_
    refine cp (qh (.tmp 0 rfl)) ?_
    refine cp (Hu (r:=(i / 4)) (.tmp 0 rfl) (.lit) (by omega) (by rw [Int.tdiv_eq_ediv_of_nonneg (by omega)];exact xh (by omega))) ?_
    refine cp (qh (.tmp 0 rfl)) ?_
    refine cp (qh (.tmp 0 rfl)) ?_
    refine cp (Hu (r:=(i / 4)) (.tmp 0 rfl) (.lit) (by omega) (by rw [Int.tdiv_eq_ediv_of_nonneg (by omega)];exact xh (by omega))) ?_
    refine cp (Et (xs:=X) ((i / 4).toNat) Tryz.underlying23 Bf (.weak (.tmp 0 rfl) Gf) (.tmp 1 rfl) (by omega) (by first | omega | (simp;omega))) ?_
    refine cp (Ap Jd (.tmp 0 rfl)) ?_
    refine cp (qh (.tmp 0 rfl)) ?_
    refine cp (qh (.tmp 0 rfl)) ?_
    refine cp (Po (r:=(i % 4)) (.tmp 0 rfl) (.lit) (by omega) (Int.tmod_eq_emod_of_nonneg (by omega))) ?_
    refine cp (Nh (r:=(8*(i % 4))) (.lit) (.tmp 0 rfl) (xh (by omega))) ?_
    refine cp (Wy (r:=(((qf s).reverse[i.toNat]?.getD 0)*256 ^ (i % 4).toNat)) (.tmp 0 rfl) (.tmp 1 rfl) (by omega) (N9 ((qf s).reverse[i.toNat]?.getD 0) (i % 4) (by omega) (by omega))) ?_
    refine cp (Aq (r:=((X[(i / 4).toNat]?.getD 0)+(((qf s).reverse[i.toNat]?.getD 0)*256 ^ (i % 4).toNat))) (.tmp 0 rfl) (.tmp 1 rfl) (Oc (by omega))) ?_
    refine cp (J4 (xs:=X) ((i / 4).toNat) Tryz.underlying23 Bf (.tmp 0 rfl) (.tmp 1 rfl) (by omega) (by first | omega | (simp;omega))) ?_
    exact .nil
   clear H9 a9 w9 B9
   intro a18 w18 B18 H18
   refine Az (l':=#[true,true,true,true,true,true,true,true,true,true,true,true,true,true,true,true]) 15 (by kernel_rfl) ?_
   refine Hg (xs:=X) (y:=((X[(i / 4).toNat]?.getD 0)+(((qf s).reverse[i.toNat]?.getD 0)*256 ^ (i % 4).toNat))) (j:=((i / 4).toNat)) (ks:=[(41,.val (Lit (.int .u32 ((X[(i / 4).toNat]?.getD 0)+(((qf s).reverse[i.toNat]?.getD 0)*256 ^ (i % 4).toNat))))),(4,i6 i),(902,zs m2),(2,.box 52 2 (qp)),(0,.val (Lit (.string s)))]) (l':=[(3,.val (zh g m2 44 .u32 (List.set X ((i / 4).toNat) ((X[(i / 4).toNat]?.getD 0)+(((qf s).reverse[i.toNat]?.getD 0)*256 ^ (i % 4).toNat))))),(41,.val (Lit (.int .u32 ((X[(i / 4).toNat]?.getD 0)+(((qf s).reverse[i.toNat]?.getD 0)*256 ^ (i % 4).toNat))))),(4,i6 i),(902,zs m2),(2,.box 52 2 (qp)),(0,.val (Lit (.string s)))]) 1 3 [3] [0,2,4,5,6] H18 hm2 rfl Bf rfl (.tmp 0 rfl) rfl (by first | omega | (simp;omega)) rfl (.cons (jg) (.cons (jg) (.cons (Ce) (.cons (I7 (jg)) (.cons (jg) (.nil)))))) (by simp) rfl ?_
   clear H18 w18
   intro w19 H19
   refine Bh (by kernel_rfl) ?_
   refine kw ?_
   refine qg ?_
   refine fr (refs:=[[.pre 2],[.res 0]]) (outs:=[.res 1,.pre 0]++pr 2 4) (als:=fs 2) (posts:=[i6 i,i6 (i+1)])
    (out:=[(13,i6 (i+1)),(3,.val (zh g m2 44 .u32 (List.set X ((i / 4).toNat) ((X[(i / 4).toNat]?.getD 0)+(((qf s).reverse[i.toNat]?.getD 0)*256 ^ (i % 4).toNat))))),(4,i6 i),(902,zs m2),(2,.box 52 2 (qp)),(0,.val (Lit (.string s)))]) (nb:=[]) H19 2 [2] rfl (by kernel_rfl) rfl rfl ?_ ?_
   ·refine cp (qh (.tmp 0 rfl)) ?_
    refine cp (Aq (r:=(i+1)) (.tmp 0 rfl) (.lit) (xh (by omega))) ?_
    exact .nil
   clear H19 a18 w19 B18
   intro a20 w20 B20 H20
   refine zi ?_
   refine jm (D:=i6 (i+1)) (l':=[(4,i6 (i+1)),(13,i6 (i+1)),(3,.val (zh g m2 44 .u32 (List.set X ((i / 4).toNat) ((X[(i / 4).toNat]?.getD 0)+(((qf s).reverse[i.toNat]?.getD 0)*256 ^ (i % 4).toNat))))),(902,zs m2),(2,.box 52 2 (qp)),(0,.val (Lit (.string s)))]) H20 rfl rfl rfl (.plain rfl (qm (.tmp 0 rfl))) rfl rfl ?_
   clear H20 a20 w20 B20
   intro a21 w21 B21 H21
   refine qi ?_
   exact ⟨⟨g,i+1,List.set X ((i / 4).toNat) ((X[(i / 4).toNat]?.getD 0)+(((qf s).reverse[i.toNat]?.getD 0)*256 ^ (i % 4).toNat))⟩,B21,by exact ⟨by omega,st1⟩,St.pick H21 [0,2,3,4,5] rfl,by show ((s.size:Int)-(i+1)).toNat<((s.size:Int)-i).toNat;omega⟩
 ·intro hc7
  replace hc7:=of_decide_eq_false hc7
  obtain rfl:i=(s.size:Int):=by omega
  have hxv:val 4294967296 X=y7 (qf s):=by have:=hst.1.worth;rw [Int.toNat_natCast,List.take_of_length_le (by omega)] at this;exact this
  have hxd:=hst.1.dig
  have hxl:List.length X≤274877906944:=by have:=hst.2;omega
  refine wp_exit ?_
  refine jy ?_
  refine jy ?_
  refine Am ?_
  refine qg ?_
  refine wp_seq ?_
  refine fr (refs:=[[.pre 2],[.res 0],[.res 1],[]]) (outs:=[.res 2,.res 3]++pr 1 5) (als:=[false,false,false,true]) (posts:=[.val (zh g m2 44 .u32 X),.val (IsN (y7 (qf s))),.val (zn (y7 (qf s))),.box 52 2 (qp)])
   (out:=[(45,.val (zn (y7 (qf s)))),(6,.box 52 2 (qp)),(4,i6 ((s).size:Int)),(3,.val (zh g m2 44 .u32 X)),(902,zs m2),(2,.box 52 2 (qp)),(0,.val (Lit (.string s)))]) (nb:=[6]) H6 4 [4] rfl (by kernel_rfl) rfl rfl ?_ ?_
  ·refine cp (qh (.tmp 0 rfl)) ?_
   refine cp (Wu (.weak (.tmp 0 rfl) (Lc hxd hxv hxl))) ?_
   refine cp (zl (Em (y7 (qf s))) (.cons (.tmp 0 rfl) (.nil))) ?_
   refine cp (yw (D:=qp) Dq rfl (fun _ _=>rfl)) ?_
   exact .nil
  clear H6 a6 w6 B6
  intro a22 w22 B22 H22
  simp only [List.cons_append,List.nil_append] at H22
  refine zi ?_
  refine ja (l':=[(45,.val (zn (y7 (qf s)))),(6,.box 52 2 (zn (y7 (qf s)))),(4,i6 ((s).size:Int)),(3,.val (zh g m2 44 .u32 X)),(902,zs m2),(2,.box 52 2 (qp)),(0,.val (Lit (.string s)))]) 1 H22 rfl tyI rfl (.tmp 0 rfl) jl ve rfl rfl ?_
  clear H22 w22
  intro w23 H23
  refine qi ?_
  refine qg ?_
  refine wp_seq ?_
  refine wp_seq ?_
  rcases (show (¬0<(s.size:Int))∨(0<(s.size:Int)∧(128:Int)≤(qf s)[0]?.getD 0)∨(0<(s.size:Int)∧¬(128:Int)≤(qf s)[0]?.getD 0) by omega) with c0 | ⟨c0,c1⟩ | ⟨c0,c1⟩
  ·have hN:y7 (qf s)=xm (qf s):=by unfold xm;rw [if_neg (by rw [List.getElem?_eq_none (by omega)];simp)]
   refine fr (refs:=[[.pre 6],[.res 0],[.res 1],[.res 2],[.res 3],[.res 3],[.res 3],[.res 3]]) (outs:=[.res 7]++pr 1 6) (als:=fs 8) (posts:=[.val (Lit (.string s)),i6 ((s).size:Int),bv false,bv false,.val (xk),.val (xk),.val (xk),bv false])
    (out:=[(53,bv false),(6,.box 52 2 (zn (y7 (qf s)))),(4,i6 ((s).size:Int)),(3,.val (zh g m2 44 .u32 X)),(902,zs m2),(2,.box 52 2 (qp)),(0,.val (Lit (.string s)))]) (nb:=[]) H23 8 [] rfl (by kernel_rfl) rfl rfl ?_ ?_
   ·refine cp (qh (.tmp 0 rfl)) ?_
    refine cp (Cm Tryz.underlying9 (.tmp 0 rfl)) ?_
    refine cp (jq (b:=false) (.tmp 0 rfl) (.lit) ((decide_eq_false (c0)).symm)) ?_
    refine cp (qh (.tmp 0 rfl)) ?_
    refine .cons (.unwanted 3 true rfl rfl rfl 0 rfl) ?_
    refine .cons (.unwanted 3 true rfl rfl rfl 0 rfl) ?_
    refine .cons (.unwanted 3 true rfl rfl rfl 0 rfl) ?_
    refine cp (Cf (.tmp 0 rfl) (.lit)) ?_
    exact .nil
   clear H23 a22 w23 B22
   intro a24 w24 B24 H24
   refine qi ?_
   refine qg ?_
   refine Fq H24 (.tmp 0 rfl) ?_
   refine wp_skip ?_
   refine qg ?_
   refine wp_seq ?_
   refine fr (refs:=[[.pre 1]]) (outs:=[.res 0]++pr 2 5) (als:=[false]) (posts:=[.val (zn (y7 (qf s)))])
    (out:=[(73,.val (zn (y7 (qf s)))),(4,i6 ((s).size:Int)),(3,.val (zh g m2 44 .u32 X)),(902,zs m2),(2,.box 52 2 (qp)),(0,.val (Lit (.string s)))]) (nb:=[]) H24 1 [1] rfl (by kernel_rfl) rfl rfl ?_ ?_
   ·refine cp (zo tyI (.tmp 0 rfl)) ?_
    exact .nil
   clear H24 a24 w24 B24
   intro a25 w25 B25 H25
   refine zi ?_
   refine ja (l':=[(73,.val (zn (y7 (qf s)))),(4,i6 ((s).size:Int)),(3,.val (zh g m2 44 .u32 X)),(902,zs m2),(2,.box 52 2 (zn (y7 (qf s)))),(0,.val (Lit (.string s)))]) 4 H25 rfl tyI rfl (.tmp 0 rfl) jl ve rfl rfl ?_
   clear H25 w25
   intro w26 H26
   refine qi ?_
   refine qg ?_
   refine wp_ret ?_
   exact Cc H26 tyI rfl 4 rfl (fun v w B h=>by exact yj hN h)
  ·have hN:y7 (qf s)-256 ^ (((s).size:Int)).toNat=xm (qf s):=by unfold xm;rw [if_pos c1,hlen,Int.toNat_natCast]
   refine fr (refs:=[[.pre 6],[.res 0],[.res 1],[.res 2],[.res 3,.pre 6],[.res 3,.res 4],[.res 3,.res 5],[.res 3,.res 6]]) (outs:=[.res 7]++pr 1 6) (als:=fs 8) (posts:=[.val (Lit (.string s)),i6 ((s).size:Int),bv true,bv true,.val (Lit (.string s)),.val (Lit (.int .u8 ((qf s)[0]?.getD 0))),bv true,bv true])
    (out:=[(53,bv true),(6,.box 52 2 (zn (y7 (qf s)))),(4,i6 ((s).size:Int)),(3,.val (zh g m2 44 .u32 X)),(902,zs m2),(2,.box 52 2 (qp)),(0,.val (Lit (.string s)))]) (nb:=[]) H23 8 [] rfl (by kernel_rfl) rfl rfl ?_ ?_
   ·refine cp (qh (.tmp 0 rfl)) ?_
    refine cp (Cm Tryz.underlying9 (.tmp 0 rfl)) ?_
    refine cp (jq (b:=true) (.tmp 0 rfl) (.lit) ((decide_eq_true (c0)).symm)) ?_
    refine cp (qh (.tmp 0 rfl)) ?_
    refine .cons (.wanted 3 true rfl rfl rfl 0 rfl (qh (.tmp 1 rfl))) ?_
    refine .cons (.wanted 3 true rfl rfl rfl 0 rfl (Cj (n:=0) (c:=((qf s)[0]?.getD 0)) Tryz.underlying9 (.tmp 1 rfl) (.lit) (rfl) (bytes_at s 0 (by omega)))) ?_
    refine .cons (.wanted 3 true rfl rfl rfl 0 rfl (jq (b:=true) (.tmp 1 rfl) (.lit) ((decide_eq_true (c1)).symm))) ?_
    refine cp (Gx (.tmp 0 rfl) (.tmp 1 rfl)) ?_
    exact .nil
   clear H23 a22 w23 B22
   intro a27 w27 B27 H27
   refine qi ?_
   refine qg ?_
   refine Iq H27 (.tmp 0 rfl) ?_
   refine wp_seq ?_
   obtain ⟨m28,hm28,hw28,hL28,H28⟩:=St.mark H27 928
   clear H27
   have H29:=St.setwB H28 2 (D':=Qu m28 (y7 (qf s))) rfl (fun v h=>qop hL28 v (qm2 v _ _ h)) (l':=[(928,zs m28),(53,bv true),(6,.box 52 2 (Qu m28 (y7 (qf s)))),(4,i6 ((s).size:Int)),(3,.val (zh g m2 44 .u32 X)),(902,zs m2),(2,.box 52 2 (qp)),(0,.val (Lit (.string s)))]) rfl
   clear H28
   clear hL28 hw28
   refine fr (refs:=[[.pre 7],[.res 0],[.res 1],[.res 2],[.res 3,.pre 0],[.res 4]]) (outs:=[.res 5,.pre 0]++pr 2 6) (als:=fs 6) (posts:=[.val (Lit (.string s)),i6 ((s).size:Int),i6 (((s).size:Int) / 4),i6 ((((s).size:Int) / 4)+1),.val (Iu m28 44 .u32 (List.replicate (((((s).size:Int) / 4)+1).toNat) 0)),.val (Iu m28 44 .u32 (List.replicate (((((s).size:Int) / 4)+1).toNat) 0))])
    (out:=[(7,.val (Iu m28 44 .u32 (List.replicate (((((s).size:Int) / 4)+1).toNat) 0))),(928,zs m28),(6,.box 52 2 (Qu m28 (y7 (qf s)))),(4,i6 ((s).size:Int)),(3,.val (zh g m2 44 .u32 X)),(902,zs m2),(2,.box 52 2 (qp)),(0,.val (Lit (.string s)))]) (nb:=[]) H29 6 [] rfl (by kernel_rfl) rfl rfl ?_ ?_
   ·refine cp (qh (.tmp 0 rfl)) ?_
    refine cp (Cm Tryz.underlying9 (.tmp 0 rfl)) ?_
    refine cp (Hu (r:=(((s).size:Int) / 4)) (.tmp 0 rfl) (.lit) (by omega) (by rw [Int.tdiv_eq_ediv_of_nonneg (by omega)];exact xh (by omega))) ?_
    refine cp (Aq (r:=((((s).size:Int) / 4)+1)) (.tmp 0 rfl) (.lit) (xh (by omega))) ?_
    refine cp (Uh (((((s).size:Int) / 4)+1).toNat) 1 (.inl rfl) Tryz.underlying23 Ah (by omega) (by omega) (.tmp 0 rfl) (.tmp 0 rfl) (by omega) rfl) ?_
    refine cp (qm (.tmp 0 rfl)) ?_
    exact .nil
   clear H29 a27 w27 B27
   intro a30 w30 B30 H30
   refine qi ?_
   refine qg ?_
   refine wp_seq ?_
   obtain ⟨g31,hg31,H31⟩:=St.name H30 0 rfl
   replace H31:St 74 w0 B0 a30 w30 B30 [(7,.val (zh g31 m28 44 .u32 (List.replicate (((((s).size:Int) / 4)+1).toNat) 0))),(928,zs m28),(6,.box 52 2 (Qu m28 (y7 (qf s)))),(4,i6 ((s).size:Int)),(3,.val (zh g m2 44 .u32 X)),(902,zs m2),(2,.box 52 2 (qp)),(0,.val (Lit (.string s)))] [6,2]:=H31
   clear H30
   have hgm31:∀b,g31=some b→m28≤b:=fun b hb=>(hg31 b hb).1
   clear hg31
   obtain ⟨hw1,hw2⟩:=qma ((s).size:Int) (by omega)
   refine fr (refs:=[[.pre 0],[.pre 7],[.res 1],[.res 2],[.pre 7],[.res 4],[.res 5],[.res 6],[.res 7],[.res 0,.res 3]]) (outs:=[.res 8,.res 9]++pr 0 8) (als:=fs 10) (posts:=[.val (zh g31 m28 44 .u32 (List.replicate (((((s).size:Int) / 4)+1).toNat) 0)),.val (Lit (.string s)),i6 ((s).size:Int),i6 (((s).size:Int) / 4),.val (Lit (.string s)),i6 ((s).size:Int),i6 (((s).size:Int) % 4),i6 (8*(((s).size:Int) % 4)),.val (Lit (.int .u32 (1*256 ^ (((s).size:Int) % 4).toNat))),.val (Nq g31 ((((s).size:Int) / 4).toNat))])
    (out:=[(67,.val (Lit (.int .u32 (1*256 ^ (((s).size:Int) % 4).toNat)))),(68,.val (Nq g31 ((((s).size:Int) / 4).toNat))),(7,.val (zh g31 m28 44 .u32 (List.replicate (((((s).size:Int) / 4)+1).toNat) 0))),(928,zs m28),(6,.box 52 2 (Qu m28 (y7 (qf s)))),(4,i6 ((s).size:Int)),(3,.val (zh g m2 44 .u32 X)),(902,zs m2),(2,.box 52 2 (qp)),(0,.val (Lit (.string s)))]) (nb:=[]) H31 10 [10] rfl (by kernel_rfl) rfl rfl ?_ ?_
   ·refine cp (qh (.tmp 0 rfl)) ?_
    refine cp (qh (.tmp 0 rfl)) ?_
    refine cp (Cm Tryz.underlying9 (.tmp 0 rfl)) ?_
    refine cp (Hu (r:=(((s).size:Int) / 4)) (.tmp 0 rfl) (.lit) (by omega) (by rw [Int.tdiv_eq_ediv_of_nonneg (by omega)];exact xh (by omega))) ?_
    refine cp (qh (.tmp 0 rfl)) ?_
    refine cp (Cm Tryz.underlying9 (.tmp 0 rfl)) ?_
    refine cp (Po (r:=(((s).size:Int) % 4)) (.tmp 0 rfl) (.lit) (by omega) (Int.tmod_eq_emod_of_nonneg (by omega))) ?_
    refine cp (Nh (r:=(8*(((s).size:Int) % 4))) (.lit) (.tmp 0 rfl) (xh (by omega))) ?_
    refine cp (Wy (r:=(1*256 ^ (((s).size:Int) % 4).toNat)) (.lit) (.tmp 0 rfl) (by omega) (N9 1 (((s).size:Int) % 4) (by omega) (by omega))) ?_
    refine cp (J4 (xs:=(List.replicate (((((s).size:Int) / 4)+1).toNat) 0)) ((((s).size:Int) / 4).toNat) Tryz.underlying23 Bf (.tmp 0 rfl) (.tmp 1 rfl) (by omega) (by first | omega | (simp;omega))) ?_
    exact .nil
   clear H31 a30 w30 B30
   intro a32 w32 B32 H32
   refine zi ?_
   refine Hg (xs:=(List.replicate (((((s).size:Int) / 4)+1).toNat) 0)) (y:=(1*256 ^ (((s).size:Int) % 4).toNat)) (j:=((((s).size:Int) / 4).toNat)) (ks:=[(67,.val (Lit (.int .u32 (1*256 ^ (((s).size:Int) % 4).toNat)))),(928,zs m28),(6,.box 52 2 (Qu m28 (y7 (qf s)))),(4,i6 ((s).size:Int)),(902,zs m2),(2,.box 52 2 (qp)),(0,.val (Lit (.string s)))]) (l':=[(7,.val (zh g31 m28 44 .u32 (List.set (List.replicate (((((s).size:Int) / 4)+1).toNat) 0) ((((s).size:Int) / 4).toNat) (1*256 ^ (((s).size:Int) % 4).toNat)))),(67,.val (Lit (.int .u32 (1*256 ^ (((s).size:Int) % 4).toNat)))),(928,zs m28),(6,.box 52 2 (Qu m28 (y7 (qf s)))),(4,i6 ((s).size:Int)),(902,zs m2),(2,.box 52 2 (qp)),(0,.val (Lit (.string s)))]) 1 2 [7] [0,3,4,5,7,8,9] H32 hm28 rfl Bf rfl (.tmp 0 rfl) rfl (by first | omega | (simp;omega)) rfl (.cons (jg) (.cons (Ce) (.cons (I7 (qmb (Nat.le_refl _))) (.cons (jg) (.cons (Ce) (.cons (I7 (jg)) (.cons (jg) (.nil)))))))) (by simp) rfl ?_
   clear H32 w32
   intro w33 H33
   refine qi ?_
   refine qg ?_
   refine fr (refs:=[[.pre 3],[.pre 0],[.res 1],[.res 0,.res 2]]) (outs:=[.res 3]++pr 2 6) (als:=fs 4) (posts:=[.val (Qu m28 (y7 (qf s))),.val (zh g31 m28 44 .u32 (List.set (List.replicate (((((s).size:Int) / 4)+1).toNat) 0) ((((s).size:Int) / 4).toNat) (1*256 ^ (((s).size:Int) % 4).toNat))),.val (IsN (256 ^ (((s).size:Int)).toNat)),.val (zn ((y7 (qf s))-(256 ^ (((s).size:Int)).toNat)))])
    (out:=[(72,.val (zn ((y7 (qf s))-(256 ^ (((s).size:Int)).toNat)))),(928,zs m28),(6,.box 52 2 (Qu m28 (y7 (qf s)))),(4,i6 ((s).size:Int)),(902,zs m2),(2,.box 52 2 (qp)),(0,.val (Lit (.string s)))]) (nb:=[]) H33 4 [4] rfl (by kernel_rfl) rfl rfl ?_ ?_
   ·refine cp (zo tyI (.tmp 0 rfl)) ?_
    refine cp (qh (.tmp 0 rfl)) ?_
    refine cp (Wu (.weak (.tmp 0 rfl) (Lc hw2 hw1 (by simp;omega)))) ?_
    refine cp (zl (Ph (y7 (qf s)) (256 ^ (((s).size:Int)).toNat) hfV hfP (by omega)) (.cons (.weak (.weak (.tmp 0 rfl) qm1) qli) (.cons (.tmp 1 rfl) (.nil)))) ?_
    exact .nil
   clear H33 a32 w33 B32
   intro a34 w34 B34 H34
   refine zi ?_
   refine ja (l':=[(72,.val (zn ((y7 (qf s))-(256 ^ (((s).size:Int)).toNat)))),(928,zs m28),(6,.box 52 2 (zn ((y7 (qf s))-(256 ^ (((s).size:Int)).toNat)))),(4,i6 ((s).size:Int)),(902,zs m2),(2,.box 52 2 (qp)),(0,.val (Lit (.string s)))]) 2 H34 rfl tyI rfl (.tmp 0 rfl) qk4 ve rfl rfl ?_
   clear H34 w34
   intro w35 H35
   refine qi ?_
   refine qg ?_
   refine wp_seq ?_
   refine fr (refs:=[[.pre 2]]) (outs:=[.res 0,.pre 1]++pr 3 4) (als:=[false]) (posts:=[.val (zn ((y7 (qf s))-(256 ^ (((s).size:Int)).toNat)))])
    (out:=[(73,.val (zn ((y7 (qf s))-(256 ^ (((s).size:Int)).toNat)))),(928,zs m28),(4,i6 ((s).size:Int)),(902,zs m2),(2,.box 52 2 (qp)),(0,.val (Lit (.string s)))]) (nb:=[]) H35 1 [1] rfl (by kernel_rfl) rfl rfl ?_ ?_
   ·refine cp (zo tyI (.tmp 0 rfl)) ?_
    exact .nil
   clear H35 a34 w35 B34
   intro a36 w36 B36 H36
   refine zi ?_
   refine ja (l':=[(73,.val (zn ((y7 (qf s))-(256 ^ (((s).size:Int)).toNat)))),(928,zs m28),(4,i6 ((s).size:Int)),(902,zs m2),(2,.box 52 2 (zn ((y7 (qf s))-(256 ^ (((s).size:Int)).toNat)))),(0,.val (Lit (.string s)))]) 4 H36 rfl tyI rfl (.tmp 0 rfl) jl ve rfl rfl ?_
   clear H36 w36
   intro w37 H37
   refine qi ?_
   refine qg ?_
   refine wp_ret ?_
   exact Cc H37 tyI rfl 4 rfl (fun v w B h=>by exact yj hN h)
  ·have hN:y7 (qf s)=xm (qf s):=by unfold xm;rw [if_neg c1]
   refine fr (refs:=[[.pre 6],[.res 0],[.res 1],[.res 2],[.res 3,.pre 6],[.res 3,.res 4],[.res 3,.res 5],[.res 3,.res 6]]) (outs:=[.res 7]++pr 1 6) (als:=fs 8) (posts:=[.val (Lit (.string s)),i6 ((s).size:Int),bv true,bv true,.val (Lit (.string s)),.val (Lit (.int .u8 ((qf s)[0]?.getD 0))),bv false,bv false])
    (out:=[(53,bv false),(6,.box 52 2 (zn (y7 (qf s)))),(4,i6 ((s).size:Int)),(3,.val (zh g m2 44 .u32 X)),(902,zs m2),(2,.box 52 2 (qp)),(0,.val (Lit (.string s)))]) (nb:=[]) H23 8 [] rfl (by kernel_rfl) rfl rfl ?_ ?_
   ·refine cp (qh (.tmp 0 rfl)) ?_
    refine cp (Cm Tryz.underlying9 (.tmp 0 rfl)) ?_
    refine cp (jq (b:=true) (.tmp 0 rfl) (.lit) ((decide_eq_true (c0)).symm)) ?_
    refine cp (qh (.tmp 0 rfl)) ?_
    refine .cons (.wanted 3 true rfl rfl rfl 0 rfl (qh (.tmp 1 rfl))) ?_
    refine .cons (.wanted 3 true rfl rfl rfl 0 rfl (Cj (n:=0) (c:=((qf s)[0]?.getD 0)) Tryz.underlying9 (.tmp 1 rfl) (.lit) (rfl) (bytes_at s 0 (by omega)))) ?_
    refine .cons (.wanted 3 true rfl rfl rfl 0 rfl (jq (b:=false) (.tmp 1 rfl) (.lit) ((decide_eq_false (c1)).symm))) ?_
    refine cp (Gx (.tmp 0 rfl) (.tmp 1 rfl)) ?_
    exact .nil
   clear H23 a22 w23 B22
   intro a38 w38 B38 H38
   refine qi ?_
   refine qg ?_
   refine Fq H38 (.tmp 0 rfl) ?_
   refine wp_skip ?_
   refine qg ?_
   refine wp_seq ?_
   refine fr (refs:=[[.pre 1]]) (outs:=[.res 0]++pr 2 5) (als:=[false]) (posts:=[.val (zn (y7 (qf s)))])
    (out:=[(73,.val (zn (y7 (qf s)))),(4,i6 ((s).size:Int)),(3,.val (zh g m2 44 .u32 X)),(902,zs m2),(2,.box 52 2 (qp)),(0,.val (Lit (.string s)))]) (nb:=[]) H38 1 [1] rfl (by kernel_rfl) rfl rfl ?_ ?_
   ·refine cp (zo tyI (.tmp 0 rfl)) ?_
    exact .nil
   clear H38 a38 w38 B38
   intro a39 w39 B39 H39
   refine zi ?_
   refine ja (l':=[(73,.val (zn (y7 (qf s)))),(4,i6 ((s).size:Int)),(3,.val (zh g m2 44 .u32 X)),(902,zs m2),(2,.box 52 2 (zn (y7 (qf s)))),(0,.val (Lit (.string s)))]) 4 H39 rfl tyI rfl (.tmp 0 rfl) jl ve rfl rfl ?_
   clear H39 w39
   intro w40 H40
   refine qi ?_
   refine qg ?_
   refine wp_ret ?_
   exact Cc H40 tyI rfl 4 rfl (fun v w B h=>by exact yj hN h)
set_option maxRecDepth 20000 in
set_option maxHeartbeats 2000000 in
theorem Yc (s:ByteArray) (hs:s.size≤1048576):Con Tryz.prog 149 [Lit (.string s)] (zn (xm (qf s))):=by
 refine Ba (N:=61) Tryz.ntmps149 (fun _ _=>by go_simp) Tryz.func149 rfl (by simp) ?_
 intro a0 w0 B0 H0
 replace H0:St 61 w0 B0 a0 w0 B0 [(0,.val (Lit (.string s)))] []:=H0
 have hlen:=zu s
 have hbD:=Jn s
 refine wp_seq ?_
 refine fr (refs:=[[]]) (outs:=[.res 0,.pre 0]) (als:=[true]) (posts:=[.box 52 2 (qp)])
  (out:=[(2,.box 52 2 (qp)),(0,.val (Lit (.string s)))]) (nb:=[2]) H0 1 [] rfl (by kernel_rfl) rfl rfl ?_ ?_
 ·refine cp (yw (D:=qp) Dq rfl (fun _ _=>rfl)) ?_
  exact .nil
 clear H0
 intro a1 w1 B1 H1
 simp only [List.cons_append,List.nil_append] at H1
 refine qi ?_
 refine qg ?_
 refine wp_seq ?_
 obtain ⟨m2,hm2,hw2,hL2,H2⟩:=St.mark H1 902
 clear H1
 clear hL2 hw2
 refine fr (refs:=[[.pre 2],[.res 0,.pre 0],[.res 1]]) (outs:=[.res 2,.pre 0,.pre 1]) (als:=fs 3) (posts:=[.val (Lit (.string s)),.val (qa8 m2 .u8 (qf s)),.val (qa8 m2 .u8 (qf s))])
  (out:=[(3,.val (qa8 m2 .u8 (qf s))),(902,zs m2),(2,.box 52 2 (qp))]) (nb:=[]) H2 3 [] rfl (by kernel_rfl) rfl rfl ?_ ?_
 ·refine cp (qh (.tmp 0 rfl)) ?_
  refine cp (qea 1 Tryz.underlying9 Tryz.underlying122 Tryz.underlying5 (.tmp 0 rfl) rfl) ?_
  refine cp (qm (.tmp 0 rfl)) ?_
  exact .nil
 clear H2 a1 w1 B1
 intro a3 w3 B3 H3
 refine qi ?_
 refine qg ?_
 refine wp_seq ?_
 obtain ⟨g4,hgm4,H4⟩:=St.nameRw H3 0 rfl
 replace H4:St 61 w0 B0 a3 w3 B3 [(3,.val (Lj g4 m2 .u8 (qf s))),(902,zs m2),(2,.box 52 2 (qp))] [2]:=H4
 clear H3
 refine fr (refs:=[[.pre 0],[.res 0],[.res 1],[.res 2],[.res 3,.pre 0],[.res 3,.res 4],[.res 3,.res 5],[.res 3,.res 6],[.res 3,.res 7],[.res 8]]) (outs:=[.res 9]++pr 0 3) (als:=fs 10) (posts:=[.val (Lj g4 m2 .u8 (qf s)),i6 (List.length (qf s):Int),bv (decide (0<(List.length (qf s):Int))),bv (decide (0<(List.length (qf s):Int))),.val (Grd ((decide (0<(List.length (qf s):Int))) == true) (Lj g4 m2 .u8 (qf s))),.val (Grd ((decide (0<(List.length (qf s):Int))) == true) (Fh .u8 (List.getD (qf s) 0 0))),.val (Grd ((decide (0<(List.length (qf s):Int))) == true) (Lit (.int .u8 (List.getD (qf s) 0 0)))),.val (Grd ((decide (0<(List.length (qf s):Int))) == true) (IsB (decide (128≤List.getD (qf s) 0 0)))),bv ((decide (0<(List.length (qf s):Int))) && (decide (128≤List.getD (qf s) 0 0))),bv ((decide (0<(List.length (qf s):Int))) && (decide (128≤List.getD (qf s) 0 0)))])
  (out:=[(4,bv ((decide (0<(List.length (qf s):Int))) && (decide (128≤List.getD (qf s) 0 0)))),(3,.val (Lj g4 m2 .u8 (qf s))),(902,zs m2),(2,.box 52 2 (qp))]) (nb:=[]) H4 10 [] rfl (by kernel_rfl) rfl rfl ?_ ?_
 ·refine cp (qh (.tmp 0 rfl)) ?_
  refine cp (Eu Tryz.underlying122 (.weak (.tmp 0 rfl) Um)) ?_
  refine cp (jq (.tmp 0 rfl) (.lit) rfl) ?_
  refine cp (qh (.tmp 0 rfl)) ?_
  refine .cons (.sym 3 true (decide (0<(List.length (qf s):Int))) ((decide (0<(List.length (qf s):Int))) == true) rfl rfl rfl 0 (need':=[(14,bv (decide (0<(List.length (qf s):Int)))),(3,.val (Lj g4 m2 .u8 (qf s)))]) rfl rfl (fun a w B e h=>⟨h.1,h.2.1,trivial⟩) (fun e=>qh (.tmp 1 rfl))) ?_
  refine .cons (.sym 3 true (decide (0<(List.length (qf s):Int))) ((decide (0<(List.length (qf s):Int))) == true) rfl rfl rfl 0 (need':=[(14,bv (decide (0<(List.length (qf s):Int)))),(15,.val (Lj g4 m2 .u8 (qf s)))]) rfl rfl (fun a w B e h=>⟨h.1,h.2.1.1 (e),trivial⟩) (fun e=>Et (xs:=(qf s)) 0 Tryz.underlying122 qk8 (.weak (.tmp 1 rfl) Um) (.lit) (rfl) (by first | omega | (simp at e;omega)))) ?_
  refine .cons (.sym 3 true (decide (0<(List.length (qf s):Int))) ((decide (0<(List.length (qf s):Int))) == true) rfl rfl rfl 0 (need':=[(14,bv (decide (0<(List.length (qf s):Int)))),(16,.val (Fh .u8 (List.getD (qf s) 0 0)))]) rfl rfl (fun a w B e h=>⟨h.1,h.2.1.1 (e),trivial⟩) (fun e=>Ap qit (.tmp 1 rfl))) ?_
  refine .cons (.sym 3 true (decide (0<(List.length (qf s):Int))) ((decide (0<(List.length (qf s):Int))) == true) rfl rfl rfl 0 (need':=[(14,bv (decide (0<(List.length (qf s):Int)))),(17,.val (Lit (.int .u8 (List.getD (qf s) 0 0))))]) rfl rfl (fun a w B e h=>⟨h.1,h.2.1.1 (e),trivial⟩) (fun e=>jq (.tmp 1 rfl) (.lit) rfl)) ?_
  refine cp (F8 (decide (0<(List.length (qf s):Int))) (.tmp 0 rfl) (fun e=>Opd.eqB (Opd.grd (.tmp 1 rfl) (by first | (rw [e];rfl) | (simp only [e];rfl) | (simp [*] at *;done))) (by rw [e];rfl)) (fun e=>Opd.eqB (.lit) (by rw [e];rfl))) ?_
  refine cp (qm (.tmp 0 rfl)) ?_
  exact .nil
 clear H4 a3 w3 B3
 intro a5 w5 B5 H5
 refine qi ?_
 refine qg ?_
 refine wp_seq ?_
 refine wp_seq ?_
 refine fr (refs:=[[.pre 0]]) (outs:=[.res 0]++pr 0 4) (als:=[false]) (posts:=[bv ((decide (0<(List.length (qf s):Int))) && (decide (128≤List.getD (qf s) 0 0)))])
  (out:=[(20,bv ((decide (0<(List.length (qf s):Int))) && (decide (128≤List.getD (qf s) 0 0)))),(4,bv ((decide (0<(List.length (qf s):Int))) && (decide (128≤List.getD (qf s) 0 0)))),(3,.val (Lj g4 m2 .u8 (qf s))),(902,zs m2),(2,.box 52 2 (qp))]) (nb:=[]) H5 1 [] rfl (by kernel_rfl) rfl rfl ?_ ?_
 ·refine cp (qh (.tmp 0 rfl)) ?_
  exact .nil
 clear H5 a5 w5 B5
 intro a6 w6 B6 H6
 refine qi ?_
 refine qg ?_
 refine Aa H6 (.tmp 0 rfl) ?_ ?_
 ·intro hc7
  have hb9:=hc7
  have eb8:((decide (0<(List.length (qf s):Int))) && (decide (128≤List.getD (qf s) 0 0)))=true:=hb9
  rw [eb8] at H6
  have c9:=Bool.and_eq_true_iff.1 hb9
  have c0:=of_decide_eq_true c9.1
  have c1:=of_decide_eq_true c9.2
  have hN:=(qgt (qf s) hbD c1).1
  refine fr (refs:=[[.pre 2]]) (outs:=[.res 0]++pr 1 4) (als:=[false]) (posts:=[.val (Lj g4 m2 .u8 (qf s))])
   (out:=[(21,.val (Lj g4 m2 .u8 (qf s))),(4,bv true),(3,.val (Lj g4 m2 .u8 (qf s))),(902,zs m2),(2,.box 52 2 (qp))]) (nb:=[]) H6 1 [1] rfl (by kernel_rfl) rfl rfl ?_ ?_
  ·refine cp (qh (.tmp 0 rfl)) ?_
   exact .nil
  clear H6 a6 w6 B6
  intro a9 w9 B9 H9
  refine zi ?_
  refine ql7 (xs:=(qf s)) (ys:=zk (qf s)) (ks:=[(4,bv true),(902,zs m2),(2,.box 52 2 (qp))]) (l':=[(3,.val (Lj g4 m2 .u8 (zk (qf s)))),(21,.val (Lj g4 m2 .u8 (zk (qf s)))),(4,bv true),(902,zs m2),(2,.box 52 2 (qp))]) [3,21] [1,3,4] H9 hm2 rfl (fun _ _=>by go_simp) (.tmp 0 rfl) (fun c w h1 h2=>qb8 _ _ c _ w (by omega) h1 h2 hbD rfl) (Qg _) rfl (.cons (jg) (.cons (Ce) (.cons (I7 (jg)) (.nil)))) (by simp) rfl rfl rfl rfl ?_
  clear H9 a9 w9 B9
  intro a10 w10 B10 H10
  refine qi ?_
  refine qg ?_
  refine wp_seq ?_
  obtain ⟨m11,hm11,hw11,hL11,H11⟩:=St.mark H10 911
  clear H10
  have H12:=St.setw H11 1 (D':=Ad m11 .u8 (zk (qf s))) rfl (fun v h=>hL11 _ _ _ (Um v _ _ h)) (l':=[(911,zs m11),(3,.val (Ad m11 .u8 (zk (qf s)))),(21,.val (Lj g4 m2 .u8 (zk (qf s)))),(4,bv true),(902,zs m2),(2,.box 52 2 (qp))]) rfl
  clear H11
  clear hL11 hw11
  have dY:Dig 256 (zk (qf s)):=qgs _
  have hYl:List.length (zk (qf s))=s.size:=by rw [Qg];exact hlen
  have hY0:=Lp (zk (qf s)) dY
  refine fr (refs:=[[.pre 1],[.res 0],[.res 1],[.res 2],[.res 3,.pre 0],[.res 4]]) (outs:=[.res 5,.pre 0,.pre 1]++pr 3 3) (als:=fs 6) (posts:=[.val (Ad m11 .u8 (zk (qf s))),i6 (List.length (zk (qf s)):Int),i6 ((List.length (zk (qf s)):Int)+3),i6 (((List.length (zk (qf s)):Int)+3) / 4),.val (Iu m11 44 .u32 (List.replicate ((List.length (zk (qf s))+3) / 4) 0)),.val (Iu m11 44 .u32 (List.replicate ((List.length (zk (qf s))+3) / 4) 0))])
   (out:=[(5,.val (Iu m11 44 .u32 (List.replicate ((List.length (zk (qf s))+3) / 4) 0))),(911,zs m11),(3,.val (Ad m11 .u8 (zk (qf s)))),(4,bv true),(902,zs m2),(2,.box 52 2 (qp))]) (nb:=[]) H12 6 [] rfl (by kernel_rfl) rfl rfl ?_ ?_
  ·refine cp (qh (.tmp 0 rfl)) ?_
   refine cp (Eu Tryz.underlying122 (.weak (.tmp 0 rfl) J7)) ?_
   refine cp (Aq (r:=((List.length (zk (qf s)):Int)+3)) (.tmp 0 rfl) (.lit) (xh (by omega))) ?_
   refine cp (Hu (r:=(((List.length (zk (qf s)):Int)+3) / 4)) (.tmp 0 rfl) (.lit) (by omega) (by rw [Int.tdiv_eq_ediv_of_nonneg (by omega)];exact xh (by omega))) ?_
   refine cp (Uh ((List.length (zk (qf s))+3) / 4) 1 (.inl rfl) Tryz.underlying23 Ah (by omega) (by omega) (.tmp 0 rfl) (.tmp 0 rfl) (by omega) rfl) ?_
   refine cp (qm (.tmp 0 rfl)) ?_
   exact .nil
  clear H12 a10 w10 B10
  intro a13 w13 B13 H13
  refine qi ?_
  refine qg ?_
  refine wp_seq ?_
  refine wp_seq ?_
  obtain ⟨g14,hg14,H14⟩:=St.name H13 0 rfl
  replace H14:St 61 w0 B0 a13 w13 B13 [(5,.val (zh g14 m11 44 .u32 (List.replicate ((List.length (zk (qf s))+3) / 4) 0))),(911,zs m11),(3,.val (Ad m11 .u8 (zk (qf s)))),(4,bv true),(902,zs m2),(2,.box 52 2 (qp))] [2]:=H14
  clear H13
  have hgm14:∀b,g14=some b→m11≤b:=fun b hb=>(hg14 b hb).1
  clear hg14
  refine fr (refs:=[[.pre 2],[.res 0],[]]) (outs:=[.res 0,.res 1,.res 2]++pr 0 6) (als:=fs 3) (posts:=[.val (Ad m11 .u8 (zk (qf s))),i6 (List.length (zk (qf s)):Int),i6 0])
   (out:=[(28,.val (Ad m11 .u8 (zk (qf s)))),(29,i6 (List.length (zk (qf s)):Int)),(30,i6 0),(5,.val (zh g14 m11 44 .u32 (List.replicate ((List.length (zk (qf s))+3) / 4) 0))),(911,zs m11),(3,.val (Ad m11 .u8 (zk (qf s)))),(4,bv true),(902,zs m2),(2,.box 52 2 (qp))]) (nb:=[]) H14 3 [] rfl (by kernel_rfl) rfl rfl ?_ ?_
  ·refine cp (qh (.tmp 0 rfl)) ?_
   refine cp (Eu Tryz.underlying122 (.weak (.tmp 0 rfl) J7)) ?_
   refine cp (qh (.lit)) ?_
   exact .nil
  clear H14 a13 w13 B13
  intro a15 w15 B15 H15
  refine qi ?_
  refine qg ?_
  refine wp_block ?_
  refine Gq (fun (⟨i,X⟩:Int × List Int)=>[(28,.val (Ad m11 .u8 (zk (qf s)))),(29,i6 (List.length (zk (qf s)):Int)),(30,i6 i),(5,.val (zh g14 m11 44 .u32 X)),(911,zs m11),(3,.val (Ad m11 .u8 (zk (qf s)))),(4,bv true),(902,zs m2),(2,.box 52 2 (qp))]) (fun (⟨i,X⟩:Int × List Int)=>(0≤i∧i≤(List.length (zk (qf s)):Int))∧HS (List.reverse (zk (qf s))) X ((List.length (zk (qf s)):Int)-i).toNat) (fun (⟨i,X⟩:Int × List Int)=>((List.length (zk (qf s)):Int)-i).toNat) (⟨0,List.replicate ((List.length (zk (qf s))+3) / 4) 0⟩) (St.pick H15 [0,1,2,3,4,5,6,7,8] rfl) (by exact ⟨by omega,by have:=qca (List.reverse (zk (qf s)));rw [List.length_reverse] at this;rw [show ((List.length (zk (qf s)):Int)-0).toNat=List.length (zk (qf s)) by omega];exact this⟩) ?_
  clear H15 a15 w15 B15
  rintro ⟨i,X⟩ a16 w16 B16 hI16 H16
  replace hI16:(0≤i∧i≤(List.length (zk (qf s)):Int))∧HS (List.reverse (zk (qf s))) X ((List.length (zk (qf s)):Int)-i).toNat:=hI16
  replace H16:St 61 w0 B0 a16 w16 B16 [(28,.val (Ad m11 .u8 (zk (qf s)))),(29,i6 (List.length (zk (qf s)):Int)),(30,i6 i),(5,.val (zh g14 m11 44 .u32 X)),(911,zs m11),(3,.val (Ad m11 .u8 (zk (qf s)))),(4,bv true),(902,zs m2),(2,.box 52 2 (qp))] [2]:=H16
  obtain ⟨hi,hst⟩:=hI16
  refine wp_seq ?_
  refine fr (refs:=[[.pre 2,.pre 1]]) (outs:=[.res 0]++pr 0 9) (als:=[false]) (posts:=[bv (decide (i<(List.length (zk (qf s)):Int)))])
   (out:=[(31,bv (decide (i<(List.length (zk (qf s)):Int)))),(28,.val (Ad m11 .u8 (zk (qf s)))),(29,i6 (List.length (zk (qf s)):Int)),(30,i6 i),(5,.val (zh g14 m11 44 .u32 X)),(911,zs m11),(3,.val (Ad m11 .u8 (zk (qf s)))),(4,bv true),(902,zs m2),(2,.box 52 2 (qp))]) (nb:=[]) H16 1 [] rfl (by kernel_rfl) rfl rfl ?_ ?_
  ·refine cp (jq (.tmp 0 rfl) (.tmp 1 rfl) rfl) ?_
   exact .nil
  clear H16 a16 w16 B16
  intro a17 w17 B17 H17
  refine qi ?_
  refine qg ?_
  refine wp_seq ?_
  refine Aa H17 (.tmp 0 rfl) ?_ ?_
  ·intro hc18
   replace hc18:=of_decide_eq_true hc18
   refine wp_skip ?_
   refine qg ?_
   refine wp_seq ?_
   refine wp_block ?_
   refine wp_seq ?_
   refine fr (refs:=[[.pre 3],[.pre 1,.pre 3],[.res 1],[.res 0],[.res 2]]) (outs:=[.res 3,.res 4]++pr 1 9) (als:=fs 5) (posts:=[i6 i,.val (Fh .u8 ((zk (qf s))[i.toNat]?.getD 0)),.val (Lit (.int .u8 ((zk (qf s))[i.toNat]?.getD 0))),i6 i,.val (Lit (.int .u8 ((zk (qf s))[i.toNat]?.getD 0)))])
    (out:=[(6,i6 i),(7,.val (Lit (.int .u8 ((zk (qf s))[i.toNat]?.getD 0)))),(28,.val (Ad m11 .u8 (zk (qf s)))),(29,i6 (List.length (zk (qf s)):Int)),(30,i6 i),(5,.val (zh g14 m11 44 .u32 X)),(911,zs m11),(3,.val (Ad m11 .u8 (zk (qf s)))),(4,bv true),(902,zs m2),(2,.box 52 2 (qp))]) (nb:=[]) H17 5 [] rfl (by kernel_rfl) rfl rfl ?_ ?_
   ·refine cp (qh (.tmp 0 rfl)) ?_
    refine cp (Et (xs:=(zk (qf s))) i.toNat Tryz.underlying122 qk8 (.weak (.tmp 0 rfl) J7) (.tmp 1 rfl) (by omega) (by omega)) ?_
    refine cp (Ap qit (.tmp 0 rfl)) ?_
    refine cp (qm (.tmp 0 rfl)) ?_
    refine cp (qm (.tmp 0 rfl)) ?_
    exact .nil
   clear H17 a17 w17 B17
   intro a19 w19 B19 H19
   refine qi ?_
   refine qg ?_
   refine wp_seq ?_
   obtain ⟨hs1,hs2,hs3⟩:=qfl hi.1 hc18 dY hst
   have hcb:=dY.get (by omega) i.toNat
   refine fr (refs:=[[.pre 7],[.res 0],[.res 1],[.pre 0],[.res 2,.res 3],[.res 4]]) (outs:=[.res 5]++pr 1 10) (als:=fs 6) (posts:=[.val (Ad m11 .u8 (zk (qf s))),i6 (List.length (zk (qf s)):Int),i6 ((List.length (zk (qf s)):Int)-1),i6 i,i6 (((List.length (zk (qf s)):Int)-1)-i),i6 (((List.length (zk (qf s)):Int)-1)-i)])
    (out:=[(8,i6 (((List.length (zk (qf s)):Int)-1)-i)),(7,.val (Lit (.int .u8 ((zk (qf s))[i.toNat]?.getD 0)))),(28,.val (Ad m11 .u8 (zk (qf s)))),(29,i6 (List.length (zk (qf s)):Int)),(30,i6 i),(5,.val (zh g14 m11 44 .u32 X)),(911,zs m11),(3,.val (Ad m11 .u8 (zk (qf s)))),(4,bv true),(902,zs m2),(2,.box 52 2 (qp))]) (nb:=[]) H19 6 [] rfl (by kernel_rfl) rfl rfl ?_ ?_
   ·refine cp (qh (.tmp 0 rfl)) ?_
    refine cp (Eu Tryz.underlying122 (.weak (.tmp 0 rfl) J7)) ?_
    refine cp (D6 (r:=((List.length (zk (qf s)):Int)-1)) (.tmp 0 rfl) (.lit) (xh (by omega))) ?_
    refine cp (qh (.tmp 0 rfl)) ?_
    refine cp (D6 (r:=(((List.length (zk (qf s)):Int)-1)-i)) (.tmp 0 rfl) (.tmp 1 rfl) (xh (by omega))) ?_
    refine cp (qm (.tmp 0 rfl)) ?_
    exact .nil
   clear H19 a19 w19 B19
   intro a20 w20 B20 H20
   refine qi ?_
   refine qg ?_
   refine fd (refs:=[[.pre 5],[.pre 0],[.res 1],[.res 0,.res 2],[.res 3],[.pre 1],[.res 5],[.pre 0],[.res 7],[.res 8],[.res 6,.res 9],[.res 4,.res 10],[.res 0,.res 2]]) (outs:=[.res 11,.res 12]++pr 2 9) (als:=fs 13) (posts:=[.val (zh g14 m11 44 .u32 X),i6 (((List.length (zk (qf s)):Int)-1)-i),i6 ((((List.length (zk (qf s)):Int)-1)-i) / 4),.val (Fh .u32 (X[((((List.length (zk (qf s)):Int)-1)-i) / 4).toNat]?.getD 0)),.val (Lit (.int .u32 (X[((((List.length (zk (qf s)):Int)-1)-i) / 4).toNat]?.getD 0))),.val (Lit (.int .u8 ((zk (qf s))[i.toNat]?.getD 0))),.val (Lit (.int .u32 ((zk (qf s))[i.toNat]?.getD 0))),i6 (((List.length (zk (qf s)):Int)-1)-i),i6 ((((List.length (zk (qf s)):Int)-1)-i) % 4),i6 (((((List.length (zk (qf s)):Int)-1)-i) % 4)*8),.val (Lit (.int .u32 (((zk (qf s))[i.toNat]?.getD 0)*256 ^ ((((List.length (zk (qf s)):Int)-1)-i) % 4).toNat))),.val (Lit (.int .u32 (X[((((List.length (zk (qf s)):Int)-1)-i) / 4).toNat]?.getD 0+((zk (qf s))[i.toNat]?.getD 0)*256 ^ ((((List.length (zk (qf s)):Int)-1)-i) % 4).toNat))),.val (Nq g14 (((((List.length (zk (qf s)):Int)-1)-i) / 4).toNat))])
    (out:=[(51,.val (Lit (.int .u32 (X[((((List.length (zk (qf s)):Int)-1)-i) / 4).toNat]?.getD 0+((zk (qf s))[i.toNat]?.getD 0)*256 ^ ((((List.length (zk (qf s)):Int)-1)-i) % 4).toNat)))),(52,.val (Nq g14 (((((List.length (zk (qf s)):Int)-1)-i) / 4).toNat))),(28,.val (Ad m11 .u8 (zk (qf s)))),(29,i6 (List.length (zk (qf s)):Int)),(30,i6 i),(5,.val (zh g14 m11 44 .u32 X)),(911,zs m11),(3,.val (Ad m11 .u8 (zk (qf s)))),(4,bv true),(902,zs m2),(2,.box 52 2 (qp))]) (nb:=[]) H20 (by kernel_rfl) 13 1 #[true,true,true,true,true,true,true,true,true,true,true,true,true,false] (by kernel_rfl) (by kernel_rfl) rfl rfl ?_ ?_
   ·refine cp (qh (.tmp 0 rfl)) ?_
    refine cp (qh (.tmp 0 rfl)) ?_
    refine cp (Hu (r:=((((List.length (zk (qf s)):Int)-1)-i) / 4)) (.tmp 0 rfl) (.lit) (by omega) (by rw [Int.tdiv_eq_ediv_of_nonneg (by omega)];exact xh (by omega))) ?_
    refine cp (Et (xs:=X) (((((List.length (zk (qf s)):Int)-1)-i) / 4).toNat) Tryz.underlying23 Bf (.weak (.tmp 0 rfl) Gf) (.tmp 1 rfl) (by omega) (hs3)) ?_
    refine cp (Ap Jd (.tmp 0 rfl)) ?_
    refine cp (qh (.tmp 0 rfl)) ?_
    refine cp (Ee Tryz.underlying5 Tryz.underlying44 (r:=((zk (qf s))[i.toNat]?.getD 0)) (.tmp 0 rfl) (Oc (by omega))) ?_
    refine cp (qh (.tmp 0 rfl)) ?_
    refine cp (Po (r:=((((List.length (zk (qf s)):Int)-1)-i) % 4)) (.tmp 0 rfl) (.lit) (by omega) (Int.tmod_eq_emod_of_nonneg (by omega))) ?_
    refine cp (Nh (r:=(((((List.length (zk (qf s)):Int)-1)-i) % 4)*8)) (.tmp 0 rfl) (.lit) (xh (by omega))) ?_
    refine cp (Wy (r:=(((zk (qf s))[i.toNat]?.getD 0)*256 ^ ((((List.length (zk (qf s)):Int)-1)-i) % 4).toNat)) (.tmp 0 rfl) (.tmp 1 rfl) (by omega) (by rw [Int.mul_comm ((((List.length (zk (qf s)):Int)-1)-i) % 4) 8];exact N9 ((zk (qf s))[i.toNat]?.getD 0) ((((List.length (zk (qf s)):Int)-1)-i) % 4) (by omega) (by omega))) ?_
    refine cp (qng (r:=X[((((List.length (zk (qf s)):Int)-1)-i) / 4).toNat]?.getD 0+((zk (qf s))[i.toNat]?.getD 0)*256 ^ ((((List.length (zk (qf s)):Int)-1)-i) % 4).toNat) (.tmp 0 rfl) (.tmp 1 rfl) hs1) ?_
    refine cp (J4 (xs:=X) (((((List.length (zk (qf s)):Int)-1)-i) / 4).toNat) Tryz.underlying23 Bf (.tmp 0 rfl) (.tmp 1 rfl) (by omega) (hs3)) ?_
    exact .nil
   clear H20 a20 w20 B20
   intro a21 w21 B21 H21
   refine Az (l':=#[true,true,true,true,true,true,true,true,true,true,true,true,true,true]) 13 (by kernel_rfl) ?_
   refine Hg (xs:=X) (y:=(X[((((List.length (zk (qf s)):Int)-1)-i) / 4).toNat]?.getD 0+((zk (qf s))[i.toNat]?.getD 0)*256 ^ ((((List.length (zk (qf s)):Int)-1)-i) % 4).toNat)) (j:=(((((List.length (zk (qf s)):Int)-1)-i) / 4).toNat)) (ks:=[(51,.val (Lit (.int .u32 (X[((((List.length (zk (qf s)):Int)-1)-i) / 4).toNat]?.getD 0+((zk (qf s))[i.toNat]?.getD 0)*256 ^ ((((List.length (zk (qf s)):Int)-1)-i) % 4).toNat)))),(28,.val (Ad m11 .u8 (zk (qf s)))),(29,i6 (List.length (zk (qf s)):Int)),(30,i6 i),(911,zs m11),(3,.val (Ad m11 .u8 (zk (qf s)))),(4,bv true),(902,zs m2),(2,.box 52 2 (qp))]) (l':=[(5,.val (zh g14 m11 44 .u32 (List.set X (((((List.length (zk (qf s)):Int)-1)-i) / 4).toNat) (X[((((List.length (zk (qf s)):Int)-1)-i) / 4).toNat]?.getD 0+((zk (qf s))[i.toNat]?.getD 0)*256 ^ ((((List.length (zk (qf s)):Int)-1)-i) % 4).toNat)))),(51,.val (Lit (.int .u32 (X[((((List.length (zk (qf s)):Int)-1)-i) / 4).toNat]?.getD 0+((zk (qf s))[i.toNat]?.getD 0)*256 ^ ((((List.length (zk (qf s)):Int)-1)-i) % 4).toNat)))),(28,.val (Ad m11 .u8 (zk (qf s)))),(29,i6 (List.length (zk (qf s)):Int)),(30,i6 i),(911,zs m11),(3,.val (Ad m11 .u8 (zk (qf s)))),(4,bv true),(902,zs m2),(2,.box 52 2 (qp))]) 1 5 [5] [0,2,3,4,6,7,8,9,10] H21 hm11 rfl Bf rfl (.tmp 0 rfl) rfl (hs3) rfl (.cons (jg) (.cons (Ol (Nat.le_refl _)) (.cons (jg) (.cons (jg) (.cons (Ce) (.cons (Ol (Nat.le_refl _)) (.cons (jg) (.cons (Ce) (.cons (I7 (jg)) (.nil)))))))))) (by simp) rfl ?_
   clear H21 w21
   intro w22 H22
   refine Bh (by kernel_rfl) ?_
   refine kw ?_
   refine qg ?_
   refine fr (refs:=[[.pre 4]]) (outs:=[.res 0,.pre 0]++pr 2 8) (als:=[false]) (posts:=[i6 (i+1)])
    (out:=[(53,i6 (i+1)),(5,.val (zh g14 m11 44 .u32 (List.set X (((((List.length (zk (qf s)):Int)-1)-i) / 4).toNat) (X[((((List.length (zk (qf s)):Int)-1)-i) / 4).toNat]?.getD 0+((zk (qf s))[i.toNat]?.getD 0)*256 ^ ((((List.length (zk (qf s)):Int)-1)-i) % 4).toNat)))),(28,.val (Ad m11 .u8 (zk (qf s)))),(29,i6 (List.length (zk (qf s)):Int)),(30,i6 i),(911,zs m11),(3,.val (Ad m11 .u8 (zk (qf s)))),(4,bv true),(902,zs m2),(2,.box 52 2 (qp))]) (nb:=[]) H22 1 [1] rfl (by kernel_rfl) rfl rfl ?_ ?_
   ·refine cp (Aq (r:=(i+1)) (.tmp 0 rfl) (.lit) (xh (by omega))) ?_
    exact .nil
   clear H22 a21 w22 B21
   intro a23 w23 B23 H23
   refine zi ?_
   refine jm (D:=i6 (i+1)) (l':=[(30,i6 (i+1)),(53,i6 (i+1)),(5,.val (zh g14 m11 44 .u32 (List.set X (((((List.length (zk (qf s)):Int)-1)-i) / 4).toNat) (X[((((List.length (zk (qf s)):Int)-1)-i) / 4).toNat]?.getD 0+((zk (qf s))[i.toNat]?.getD 0)*256 ^ ((((List.length (zk (qf s)):Int)-1)-i) % 4).toNat)))),(28,.val (Ad m11 .u8 (zk (qf s)))),(29,i6 (List.length (zk (qf s)):Int)),(911,zs m11),(3,.val (Ad m11 .u8 (zk (qf s)))),(4,bv true),(902,zs m2),(2,.box 52 2 (qp))]) H23 rfl rfl rfl (.plain rfl (qh (.tmp 0 rfl))) rfl rfl ?_
   clear H23 a23 w23 B23
   intro a24 w24 B24 H24
   refine qi ?_
   exact ⟨⟨i+1,List.set X (((((List.length (zk (qf s)):Int)-1)-i) / 4).toNat) (X[((((List.length (zk (qf s)):Int)-1)-i) / 4).toNat]?.getD 0+((zk (qf s))[i.toNat]?.getD 0)*256 ^ ((((List.length (zk (qf s)):Int)-1)-i) % 4).toNat)⟩,B24,by exact ⟨by omega,hs2⟩,St.pick H24 [3,4,0,2,5,6,7,8,9] rfl,by show ((List.length (zk (qf s)):Int)-(i+1)).toNat<((List.length (zk (qf s)):Int)-i).toNat;omega⟩
  ·intro hc18
   replace hc18:=of_decide_eq_false hc18
   have hi2:i=(List.length (zk (qf s)):Int):=by omega
   have hxv:val 4294967296 X=y7 (zk (qf s)):=by have:=hst.worth;rw [show ((List.length (zk (qf s)):Int)-i).toNat=0 by omega,Int.pow_zero,Int.one_mul,List.drop_zero] at this;exact this
   have hxd:=hst.dig
   have hxl:List.length X≤274877906944:=by have:=hst.len;rw [List.length_reverse] at this;omega
   refine wp_exit ?_
   refine jy ?_
   refine jy ?_
   refine Am ?_
   refine qg ?_
   refine wp_seq ?_
   refine wp_seq ?_
   refine fr (refs:=[[.pre 7]]) (outs:=[.res 0]++pr 1 9) (als:=[false]) (posts:=[bv true])
    (out:=[(54,bv true),(28,.val (Ad m11 .u8 (zk (qf s)))),(29,i6 (List.length (zk (qf s)):Int)),(30,i6 i),(5,.val (zh g14 m11 44 .u32 X)),(911,zs m11),(3,.val (Ad m11 .u8 (zk (qf s)))),(4,bv true),(902,zs m2),(2,.box 52 2 (qp))]) (nb:=[]) H17 1 [] rfl (by kernel_rfl) rfl rfl ?_ ?_
   ·refine cp (qh (.tmp 0 rfl)) ?_
    exact .nil
   clear H17 a17 w17 B17
   intro a25 w25 B25 H25
   refine qi ?_
   refine qg ?_
   refine Iq H25 (.tmp 0 rfl) ?_
   refine wp_seq ?_
   refine fr (refs:=[[.pre 4],[.res 0],[.res 1]]) (outs:=[.res 2]++pr 1 9) (als:=fs 3) (posts:=[.val (zh g14 m11 44 .u32 X),.val (zg (y7 (zk (qf s)))),.val (zn (-(y7 (zk (qf s)))))])
    (out:=[(57,.val (zn (-(y7 (zk (qf s)))))),(28,.val (Ad m11 .u8 (zk (qf s)))),(29,i6 (List.length (zk (qf s)):Int)),(30,i6 i),(5,.val (zh g14 m11 44 .u32 X)),(911,zs m11),(3,.val (Ad m11 .u8 (zk (qf s)))),(4,bv true),(902,zs m2),(2,.box 52 2 (qp))]) (nb:=[]) H25 3 [3] rfl (by kernel_rfl) rfl rfl ?_ ?_
   ·refine cp (qh (.tmp 0 rfl)) ?_
    refine cp (zl (Lr (y7 (zk (qf s)))) (.cons (.weak (.tmp 0 rfl) (Lc hxd hxv hxl)) (.nil))) ?_
    refine cp (zl ((Dt (-1) (y7 (zk (qf s)))).weak (fun v w B h=>yj (if_pos rfl) h)) (.cons (.lit) (.cons (.tmp 0 rfl) (.nil)))) ?_
    exact .nil
   clear H25 a25 w25 B25
   intro a26 w26 B26 H26
   refine zi ?_
   refine ja (l':=[(57,.val (zn (-(y7 (zk (qf s)))))),(28,.val (Ad m11 .u8 (zk (qf s)))),(29,i6 (List.length (zk (qf s)):Int)),(30,i6 i),(5,.val (zh g14 m11 44 .u32 X)),(911,zs m11),(3,.val (Ad m11 .u8 (zk (qf s)))),(4,bv true),(902,zs m2),(2,.box 52 2 (zn (-(y7 (zk (qf s))))))]) 9 H26 rfl tyI rfl (.tmp 0 rfl) jl ve rfl rfl ?_
   clear H26 w26
   intro w27 H27
   refine qi ?_
   refine qg ?_
   refine wp_ret ?_
   refine yh ?_
   exact Cc H27 tyI rfl 9 rfl (fun v w B h=>by exact yj hN h)
 ·intro hc7
  have hb9:=hc7
  have eb28:((decide (0<(List.length (qf s):Int))) && (decide (128≤List.getD (qf s) 0 0)))=false:=hb9
  rw [eb28] at H6
  have hN:y7 (qf s)=xm (qf s):=by
   unfold xm
   rw [if_neg ?_]
   intro h9
   have h7:=hb9
   rw [Bool.and_eq_false_iff,decide_eq_false_iff_not,decide_eq_false_iff_not] at h7
   rcases h7 with h8 | h8
   ·rw [List.getElem?_eq_none (by omega)] at h9;simp at h9
   ·exact h8 h9
  refine wp_skip ?_
  refine qg ?_
  refine wp_seq ?_
  obtain ⟨m29,hm29,hw29,hL29,H29⟩:=St.mark H6 929
  clear H6
  have H30:=St.setw H29 3 (D':=Ad m29 .u8 (qf s)) rfl (fun v h=>hL29 _ _ _ (Um v _ _ h)) (l':=[(929,zs m29),(20,bv false),(4,bv false),(3,.val (Ad m29 .u8 (qf s))),(902,zs m2),(2,.box 52 2 (qp))]) rfl
  clear H29
  clear hL29 hw29
  have dY:Dig 256 (qf s):=hbD
  have hYl:List.length (qf s)=s.size:=hlen
  have hY0:=Lp (qf s) dY
  refine fr (refs:=[[.pre 3],[.res 0],[.res 1],[.res 2],[.res 3,.pre 0],[.res 4]]) (outs:=[.res 5,.pre 0]++pr 2 4) (als:=fs 6) (posts:=[.val (Ad m29 .u8 (qf s)),i6 (List.length (qf s):Int),i6 ((List.length (qf s):Int)+3),i6 (((List.length (qf s):Int)+3) / 4),.val (Iu m29 44 .u32 (List.replicate ((List.length (qf s)+3) / 4) 0)),.val (Iu m29 44 .u32 (List.replicate ((List.length (qf s)+3) / 4) 0))])
   (out:=[(5,.val (Iu m29 44 .u32 (List.replicate ((List.length (qf s)+3) / 4) 0))),(929,zs m29),(4,bv false),(3,.val (Ad m29 .u8 (qf s))),(902,zs m2),(2,.box 52 2 (qp))]) (nb:=[]) H30 6 [] rfl (by kernel_rfl) rfl rfl ?_ ?_
  ·refine cp (qh (.tmp 0 rfl)) ?_
   refine cp (Eu Tryz.underlying122 (.weak (.tmp 0 rfl) J7)) ?_
   refine cp (Aq (r:=((List.length (qf s):Int)+3)) (.tmp 0 rfl) (.lit) (xh (by omega))) ?_
   refine cp (Hu (r:=(((List.length (qf s):Int)+3) / 4)) (.tmp 0 rfl) (.lit) (by omega) (by rw [Int.tdiv_eq_ediv_of_nonneg (by omega)];exact xh (by omega))) ?_
   refine cp (Uh ((List.length (qf s)+3) / 4) 1 (.inl rfl) Tryz.underlying23 Ah (by omega) (by omega) (.tmp 0 rfl) (.tmp 0 rfl) (by omega) rfl) ?_
   refine cp (qm (.tmp 0 rfl)) ?_
   exact .nil
  clear H30 a6 w6 B6
  intro a31 w31 B31 H31
  refine qi ?_
  refine qg ?_
  refine wp_seq ?_
  refine wp_seq ?_
  obtain ⟨g32,hg32,H32⟩:=St.name H31 0 rfl
  replace H32:St 61 w0 B0 a31 w31 B31 [(5,.val (zh g32 m29 44 .u32 (List.replicate ((List.length (qf s)+3) / 4) 0))),(929,zs m29),(4,bv false),(3,.val (Ad m29 .u8 (qf s))),(902,zs m2),(2,.box 52 2 (qp))] [2]:=H32
  clear H31
  have hgm32:∀b,g32=some b→m29≤b:=fun b hb=>(hg32 b hb).1
  clear hg32
  refine fr (refs:=[[.pre 3],[.res 0],[]]) (outs:=[.res 0,.res 1,.res 2]++pr 0 6) (als:=fs 3) (posts:=[.val (Ad m29 .u8 (qf s)),i6 (List.length (qf s):Int),i6 0])
   (out:=[(28,.val (Ad m29 .u8 (qf s))),(29,i6 (List.length (qf s):Int)),(30,i6 0),(5,.val (zh g32 m29 44 .u32 (List.replicate ((List.length (qf s)+3) / 4) 0))),(929,zs m29),(4,bv false),(3,.val (Ad m29 .u8 (qf s))),(902,zs m2),(2,.box 52 2 (qp))]) (nb:=[]) H32 3 [] rfl (by kernel_rfl) rfl rfl ?_ ?_
  ·refine cp (qh (.tmp 0 rfl)) ?_
   refine cp (Eu Tryz.underlying122 (.weak (.tmp 0 rfl) J7)) ?_
   refine cp (qh (.lit)) ?_
   exact .nil
  clear H32 a31 w31 B31
  intro a33 w33 B33 H33
  refine qi ?_
  refine qg ?_
  refine wp_block ?_
  refine Gq (fun (⟨i,X⟩:Int × List Int)=>[(28,.val (Ad m29 .u8 (qf s))),(29,i6 (List.length (qf s):Int)),(30,i6 i),(5,.val (zh g32 m29 44 .u32 X)),(929,zs m29),(4,bv false),(3,.val (Ad m29 .u8 (qf s))),(902,zs m2),(2,.box 52 2 (qp))]) (fun (⟨i,X⟩:Int × List Int)=>(0≤i∧i≤(List.length (qf s):Int))∧HS (List.reverse (qf s)) X ((List.length (qf s):Int)-i).toNat) (fun (⟨i,X⟩:Int × List Int)=>((List.length (qf s):Int)-i).toNat) (⟨0,List.replicate ((List.length (qf s)+3) / 4) 0⟩) (St.pick H33 [0,1,2,3,4,5,6,7,8] rfl) (by exact ⟨by omega,by have:=qca (List.reverse (qf s));rw [List.length_reverse] at this;rw [show ((List.length (qf s):Int)-0).toNat=List.length (qf s) by omega];exact this⟩) ?_
  clear H33 a33 w33 B33
  rintro ⟨i,X⟩ a34 w34 B34 hI34 H34
  replace hI34:(0≤i∧i≤(List.length (qf s):Int))∧HS (List.reverse (qf s)) X ((List.length (qf s):Int)-i).toNat:=hI34
  replace H34:St 61 w0 B0 a34 w34 B34 [(28,.val (Ad m29 .u8 (qf s))),(29,i6 (List.length (qf s):Int)),(30,i6 i),(5,.val (zh g32 m29 44 .u32 X)),(929,zs m29),(4,bv false),(3,.val (Ad m29 .u8 (qf s))),(902,zs m2),(2,.box 52 2 (qp))] [2]:=H34
  obtain ⟨hi,hst⟩:=hI34
  refine wp_seq ?_
  refine fr (refs:=[[.pre 2,.pre 1]]) (outs:=[.res 0]++pr 0 9) (als:=[false]) (posts:=[bv (decide (i<(List.length (qf s):Int)))])
   (out:=[(31,bv (decide (i<(List.length (qf s):Int)))),(28,.val (Ad m29 .u8 (qf s))),(29,i6 (List.length (qf s):Int)),(30,i6 i),(5,.val (zh g32 m29 44 .u32 X)),(929,zs m29),(4,bv false),(3,.val (Ad m29 .u8 (qf s))),(902,zs m2),(2,.box 52 2 (qp))]) (nb:=[]) H34 1 [] rfl (by kernel_rfl) rfl rfl ?_ ?_
  ·refine cp (jq (.tmp 0 rfl) (.tmp 1 rfl) rfl) ?_
   exact .nil
  clear H34 a34 w34 B34
  intro a35 w35 B35 H35
  refine qi ?_
  refine qg ?_
  refine wp_seq ?_
  refine Aa H35 (.tmp 0 rfl) ?_ ?_
  ·intro hc36
   replace hc36:=of_decide_eq_true hc36
   refine wp_skip ?_
   refine qg ?_
   refine wp_seq ?_
   refine wp_block ?_
   refine wp_seq ?_
   refine fr (refs:=[[.pre 3],[.pre 1,.pre 3],[.res 1],[.res 0],[.res 2]]) (outs:=[.res 3,.res 4]++pr 1 9) (als:=fs 5) (posts:=[i6 i,.val (Fh .u8 ((qf s)[i.toNat]?.getD 0)),.val (Lit (.int .u8 ((qf s)[i.toNat]?.getD 0))),i6 i,.val (Lit (.int .u8 ((qf s)[i.toNat]?.getD 0)))])
    (out:=[(6,i6 i),(7,.val (Lit (.int .u8 ((qf s)[i.toNat]?.getD 0)))),(28,.val (Ad m29 .u8 (qf s))),(29,i6 (List.length (qf s):Int)),(30,i6 i),(5,.val (zh g32 m29 44 .u32 X)),(929,zs m29),(4,bv false),(3,.val (Ad m29 .u8 (qf s))),(902,zs m2),(2,.box 52 2 (qp))]) (nb:=[]) H35 5 [] rfl (by kernel_rfl) rfl rfl ?_ ?_
   ·refine cp (qh (.tmp 0 rfl)) ?_
    refine cp (Et (xs:=(qf s)) i.toNat Tryz.underlying122 qk8 (.weak (.tmp 0 rfl) J7) (.tmp 1 rfl) (by omega) (by omega)) ?_
    refine cp (Ap qit (.tmp 0 rfl)) ?_
    refine cp (qm (.tmp 0 rfl)) ?_
    refine cp (qm (.tmp 0 rfl)) ?_
    exact .nil
   clear H35 a35 w35 B35
   intro a37 w37 B37 H37
   refine qi ?_
   refine qg ?_
   refine wp_seq ?_
   obtain ⟨hs1,hs2,hs3⟩:=qfl hi.1 hc36 dY hst
   have hcb:=dY.get (by omega) i.toNat
   refine fr (refs:=[[.pre 8],[.res 0],[.res 1],[.pre 0],[.res 2,.res 3],[.res 4]]) (outs:=[.res 5]++pr 1 10) (als:=fs 6) (posts:=[.val (Ad m29 .u8 (qf s)),i6 (List.length (qf s):Int),i6 ((List.length (qf s):Int)-1),i6 i,i6 (((List.length (qf s):Int)-1)-i),i6 (((List.length (qf s):Int)-1)-i)])
    (out:=[(8,i6 (((List.length (qf s):Int)-1)-i)),(7,.val (Lit (.int .u8 ((qf s)[i.toNat]?.getD 0)))),(28,.val (Ad m29 .u8 (qf s))),(29,i6 (List.length (qf s):Int)),(30,i6 i),(5,.val (zh g32 m29 44 .u32 X)),(929,zs m29),(4,bv false),(3,.val (Ad m29 .u8 (qf s))),(902,zs m2),(2,.box 52 2 (qp))]) (nb:=[]) H37 6 [] rfl (by kernel_rfl) rfl rfl ?_ ?_
   ·refine cp (qh (.tmp 0 rfl)) ?_
    refine cp (Eu Tryz.underlying122 (.weak (.tmp 0 rfl) J7)) ?_
    refine cp (D6 (r:=((List.length (qf s):Int)-1)) (.tmp 0 rfl) (.lit) (xh (by omega))) ?_
    refine cp (qh (.tmp 0 rfl)) ?_
    refine cp (D6 (r:=(((List.length (qf s):Int)-1)-i)) (.tmp 0 rfl) (.tmp 1 rfl) (xh (by omega))) ?_
    refine cp (qm (.tmp 0 rfl)) ?_
    exact .nil
   clear H37 a37 w37 B37
   intro a38 w38 B38 H38
   refine qi ?_
   refine qg ?_
   refine fd (refs:=[[.pre 5],[.pre 0],[.res 1],[.res 0,.res 2],[.res 3],[.pre 1],[.res 5],[.pre 0],[.res 7],[.res 8],[.res 6,.res 9],[.res 4,.res 10],[.res 0,.res 2]]) (outs:=[.res 11,.res 12]++pr 2 9) (als:=fs 13) (posts:=[.val (zh g32 m29 44 .u32 X),i6 (((List.length (qf s):Int)-1)-i),i6 ((((List.length (qf s):Int)-1)-i) / 4),.val (Fh .u32 (X[((((List.length (qf s):Int)-1)-i) / 4).toNat]?.getD 0)),.val (Lit (.int .u32 (X[((((List.length (qf s):Int)-1)-i) / 4).toNat]?.getD 0))),.val (Lit (.int .u8 ((qf s)[i.toNat]?.getD 0))),.val (Lit (.int .u32 ((qf s)[i.toNat]?.getD 0))),i6 (((List.length (qf s):Int)-1)-i),i6 ((((List.length (qf s):Int)-1)-i) % 4),i6 (((((List.length (qf s):Int)-1)-i) % 4)*8),.val (Lit (.int .u32 (((qf s)[i.toNat]?.getD 0)*256 ^ ((((List.length (qf s):Int)-1)-i) % 4).toNat))),.val (Lit (.int .u32 (X[((((List.length (qf s):Int)-1)-i) / 4).toNat]?.getD 0+((qf s)[i.toNat]?.getD 0)*256 ^ ((((List.length (qf s):Int)-1)-i) % 4).toNat))),.val (Nq g32 (((((List.length (qf s):Int)-1)-i) / 4).toNat))])
    (out:=[(51,.val (Lit (.int .u32 (X[((((List.length (qf s):Int)-1)-i) / 4).toNat]?.getD 0+((qf s)[i.toNat]?.getD 0)*256 ^ ((((List.length (qf s):Int)-1)-i) % 4).toNat)))),(52,.val (Nq g32 (((((List.length (qf s):Int)-1)-i) / 4).toNat))),(28,.val (Ad m29 .u8 (qf s))),(29,i6 (List.length (qf s):Int)),(30,i6 i),(5,.val (zh g32 m29 44 .u32 X)),(929,zs m29),(4,bv false),(3,.val (Ad m29 .u8 (qf s))),(902,zs m2),(2,.box 52 2 (qp))]) (nb:=[]) H38 (by kernel_rfl) 13 1 #[true,true,true,true,true,true,true,true,true,true,true,true,true,false] (by kernel_rfl) (by kernel_rfl) rfl rfl ?_ ?_
   ·refine cp (qh (.tmp 0 rfl)) ?_
    refine cp (qh (.tmp 0 rfl)) ?_
    refine cp (Hu (r:=((((List.length (qf s):Int)-1)-i) / 4)) (.tmp 0 rfl) (.lit) (by omega) (by rw [Int.tdiv_eq_ediv_of_nonneg (by omega)];exact xh (by omega))) ?_
    refine cp (Et (xs:=X) (((((List.length (qf s):Int)-1)-i) / 4).toNat) Tryz.underlying23 Bf (.weak (.tmp 0 rfl) Gf) (.tmp 1 rfl) (by omega) (hs3)) ?_
    refine cp (Ap Jd (.tmp 0 rfl)) ?_
    refine cp (qh (.tmp 0 rfl)) ?_
    refine cp (Ee Tryz.underlying5 Tryz.underlying44 (r:=((qf s)[i.toNat]?.getD 0)) (.tmp 0 rfl) (Oc (by omega))) ?_
    refine cp (qh (.tmp 0 rfl)) ?_
    refine cp (Po (r:=((((List.length (qf s):Int)-1)-i) % 4)) (.tmp 0 rfl) (.lit) (by omega) (Int.tmod_eq_emod_of_nonneg (by omega))) ?_
    refine cp (Nh (r:=(((((List.length (qf s):Int)-1)-i) % 4)*8)) (.tmp 0 rfl) (.lit) (xh (by omega))) ?_
    refine cp (Wy (r:=(((qf s)[i.toNat]?.getD 0)*256 ^ ((((List.length (qf s):Int)-1)-i) % 4).toNat)) (.tmp 0 rfl) (.tmp 1 rfl) (by omega) (by rw [Int.mul_comm ((((List.length (qf s):Int)-1)-i) % 4) 8];exact N9 ((qf s)[i.toNat]?.getD 0) ((((List.length (qf s):Int)-1)-i) % 4) (by omega) (by omega))) ?_
    refine cp (qng (r:=X[((((List.length (qf s):Int)-1)-i) / 4).toNat]?.getD 0+((qf s)[i.toNat]?.getD 0)*256 ^ ((((List.length (qf s):Int)-1)-i) % 4).toNat) (.tmp 0 rfl) (.tmp 1 rfl) hs1) ?_
    refine cp (J4 (xs:=X) (((((List.length (qf s):Int)-1)-i) / 4).toNat) Tryz.underlying23 Bf (.tmp 0 rfl) (.tmp 1 rfl) (by omega) (hs3)) ?_
    exact .nil
   clear H38 a38 w38 B38
   intro a39 w39 B39 H39
   refine Az (l':=#[true,true,true,true,true,true,true,true,true,true,true,true,true,true]) 13 (by kernel_rfl) ?_
   refine Hg (xs:=X) (y:=(X[((((List.length (qf s):Int)-1)-i) / 4).toNat]?.getD 0+((qf s)[i.toNat]?.getD 0)*256 ^ ((((List.length (qf s):Int)-1)-i) % 4).toNat)) (j:=(((((List.length (qf s):Int)-1)-i) / 4).toNat)) (ks:=[(51,.val (Lit (.int .u32 (X[((((List.length (qf s):Int)-1)-i) / 4).toNat]?.getD 0+((qf s)[i.toNat]?.getD 0)*256 ^ ((((List.length (qf s):Int)-1)-i) % 4).toNat)))),(28,.val (Ad m29 .u8 (qf s))),(29,i6 (List.length (qf s):Int)),(30,i6 i),(929,zs m29),(4,bv false),(3,.val (Ad m29 .u8 (qf s))),(902,zs m2),(2,.box 52 2 (qp))]) (l':=[(5,.val (zh g32 m29 44 .u32 (List.set X (((((List.length (qf s):Int)-1)-i) / 4).toNat) (X[((((List.length (qf s):Int)-1)-i) / 4).toNat]?.getD 0+((qf s)[i.toNat]?.getD 0)*256 ^ ((((List.length (qf s):Int)-1)-i) % 4).toNat)))),(51,.val (Lit (.int .u32 (X[((((List.length (qf s):Int)-1)-i) / 4).toNat]?.getD 0+((qf s)[i.toNat]?.getD 0)*256 ^ ((((List.length (qf s):Int)-1)-i) % 4).toNat)))),(28,.val (Ad m29 .u8 (qf s))),(29,i6 (List.length (qf s):Int)),(30,i6 i),(929,zs m29),(4,bv false),(3,.val (Ad m29 .u8 (qf s))),(902,zs m2),(2,.box 52 2 (qp))]) 1 5 [5] [0,2,3,4,6,7,8,9,10] H39 hm29 rfl Bf rfl (.tmp 0 rfl) rfl (hs3) rfl (.cons (jg) (.cons (Ol (Nat.le_refl _)) (.cons (jg) (.cons (jg) (.cons (Ce) (.cons (jg) (.cons (Ol (Nat.le_refl _)) (.cons (Ce) (.cons (I7 (jg)) (.nil)))))))))) (by simp) rfl ?_
   clear H39 w39
   intro w40 H40
   refine Bh (by kernel_rfl) ?_
   refine kw ?_
   refine qg ?_
   refine fr (refs:=[[.pre 4]]) (outs:=[.res 0,.pre 0]++pr 2 8) (als:=[false]) (posts:=[i6 (i+1)])
    (out:=[(53,i6 (i+1)),(5,.val (zh g32 m29 44 .u32 (List.set X (((((List.length (qf s):Int)-1)-i) / 4).toNat) (X[((((List.length (qf s):Int)-1)-i) / 4).toNat]?.getD 0+((qf s)[i.toNat]?.getD 0)*256 ^ ((((List.length (qf s):Int)-1)-i) % 4).toNat)))),(28,.val (Ad m29 .u8 (qf s))),(29,i6 (List.length (qf s):Int)),(30,i6 i),(929,zs m29),(4,bv false),(3,.val (Ad m29 .u8 (qf s))),(902,zs m2),(2,.box 52 2 (qp))]) (nb:=[]) H40 1 [1] rfl (by kernel_rfl) rfl rfl ?_ ?_
   ·refine cp (Aq (r:=(i+1)) (.tmp 0 rfl) (.lit) (xh (by omega))) ?_
    exact .nil
   clear H40 a39 w40 B39
   intro a41 w41 B41 H41
   refine zi ?_
   refine jm (D:=i6 (i+1)) (l':=[(30,i6 (i+1)),(53,i6 (i+1)),(5,.val (zh g32 m29 44 .u32 (List.set X (((((List.length (qf s):Int)-1)-i) / 4).toNat) (X[((((List.length (qf s):Int)-1)-i) / 4).toNat]?.getD 0+((qf s)[i.toNat]?.getD 0)*256 ^ ((((List.length (qf s):Int)-1)-i) % 4).toNat)))),(28,.val (Ad m29 .u8 (qf s))),(29,i6 (List.length (qf s):Int)),(929,zs m29),(4,bv false),(3,.val (Ad m29 .u8 (qf s))),(902,zs m2),(2,.box 52 2 (qp))]) H41 rfl rfl rfl (.plain rfl (qh (.tmp 0 rfl))) rfl rfl ?_
   clear H41 a41 w41 B41
   intro a42 w42 B42 H42
   refine qi ?_
   exact ⟨⟨i+1,List.set X (((((List.length (qf s):Int)-1)-i) / 4).toNat) (X[((((List.length (qf s):Int)-1)-i) / 4).toNat]?.getD 0+((qf s)[i.toNat]?.getD 0)*256 ^ ((((List.length (qf s):Int)-1)-i) % 4).toNat)⟩,B42,by exact ⟨by omega,hs2⟩,St.pick H42 [3,4,0,2,5,6,7,8,9] rfl,by show ((List.length (qf s):Int)-(i+1)).toNat<((List.length (qf s):Int)-i).toNat;omega⟩
  ·intro hc36
   replace hc36:=of_decide_eq_false hc36
   have hi2:i=(List.length (qf s):Int):=by omega
   have hxv:val 4294967296 X=y7 (qf s):=by have:=hst.worth;rw [show ((List.length (qf s):Int)-i).toNat=0 by omega,Int.pow_zero,Int.one_mul,List.drop_zero] at this;exact this
   have hxd:=hst.dig
   have hxl:List.length X≤274877906944:=by have:=hst.len;rw [List.length_reverse] at this;omega
   refine wp_exit ?_
   refine jy ?_
   refine jy ?_
   refine Am ?_
   refine qg ?_
   refine wp_seq ?_
   refine wp_seq ?_
   refine fr (refs:=[[.pre 6]]) (outs:=[.res 0]++pr 1 9) (als:=[false]) (posts:=[bv false])
    (out:=[(54,bv false),(28,.val (Ad m29 .u8 (qf s))),(29,i6 (List.length (qf s):Int)),(30,i6 i),(5,.val (zh g32 m29 44 .u32 X)),(929,zs m29),(4,bv false),(3,.val (Ad m29 .u8 (qf s))),(902,zs m2),(2,.box 52 2 (qp))]) (nb:=[]) H35 1 [] rfl (by kernel_rfl) rfl rfl ?_ ?_
   ·refine cp (qh (.tmp 0 rfl)) ?_
    exact .nil
   clear H35 a35 w35 B35
   intro a43 w43 B43 H43
   refine qi ?_
   refine qg ?_
   refine Fq H43 (.tmp 0 rfl) ?_
   refine wp_skip ?_
   refine qg ?_
   refine wp_seq ?_
   refine fr (refs:=[[.pre 4],[.res 0],[.res 1]]) (outs:=[.res 2]++pr 1 9) (als:=fs 3) (posts:=[.val (zh g32 m29 44 .u32 X),.val (zg (y7 (qf s))),.val (zn (y7 (qf s)))])
    (out:=[(60,.val (zn (y7 (qf s)))),(28,.val (Ad m29 .u8 (qf s))),(29,i6 (List.length (qf s):Int)),(30,i6 i),(5,.val (zh g32 m29 44 .u32 X)),(929,zs m29),(4,bv false),(3,.val (Ad m29 .u8 (qf s))),(902,zs m2),(2,.box 52 2 (qp))]) (nb:=[]) H43 3 [3] rfl (by kernel_rfl) rfl rfl ?_ ?_
   ·refine cp (qh (.tmp 0 rfl)) ?_
    refine cp (zl (Lr (y7 (qf s))) (.cons (.weak (.tmp 0 rfl) (Lc hxd hxv hxl)) (.nil))) ?_
    refine cp (zl ((Dt 1 (y7 (qf s))).weak (fun v w B h=>yj (if_neg (by decide)) h)) (.cons (.lit) (.cons (.tmp 0 rfl) (.nil)))) ?_
    exact .nil
   clear H43 a43 w43 B43
   intro a44 w44 B44 H44
   refine zi ?_
   refine ja (l':=[(60,.val (zn (y7 (qf s)))),(28,.val (Ad m29 .u8 (qf s))),(29,i6 (List.length (qf s):Int)),(30,i6 i),(5,.val (zh g32 m29 44 .u32 X)),(929,zs m29),(4,bv false),(3,.val (Ad m29 .u8 (qf s))),(902,zs m2),(2,.box 52 2 (zn (y7 (qf s))))]) 9 H44 rfl tyI rfl (.tmp 0 rfl) jl ve rfl rfl ?_
   clear H44 w44
   intro w45 H45
   refine qi ?_
   refine qg ?_
   refine wp_ret ?_
   exact Cc H45 tyI rfl 9 rfl (fun v w B h=>by exact yj hN h)
end Go.Proofs.YtbcbmkeeoognpaaGreatDoor
