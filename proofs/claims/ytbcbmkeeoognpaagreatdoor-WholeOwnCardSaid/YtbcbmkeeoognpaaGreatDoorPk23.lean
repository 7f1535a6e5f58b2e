/- Contracts of functions, and plain facts, part 23. -/
import Derived.Test.YtbcbmkeeoognpaaGreatDoorPk21
set_option linter.unusedVariables false
set_option linter.unusedSimpArgs false
namespace Go.Proofs.YtbcbmkeeoognpaaGreatDoor
open Go Go.RowKit
set_option maxRecDepth 20000 in
set_option maxHeartbeats 2000000 in
theorem qgk (V U:Int):Con Tryz.prog 113 [IsM V,IsM U] (Tup [IsC (V / U),IsC (if U=0 then 0 else V % U),IsB (decide (U≠0))]):=by
 refine Ba (N:=106) Tryz.ntmps113 (fun _ _=>by go_simp) Tryz.func113 rfl (by simp) ?_
 intro a0 w0 B0 H0
 replace H0:St 106 w0 B0 a0 w0 B0 [(0,.val (IsM V)),(1,.val (IsM U))] []:=H0
 obtain ⟨kv,hkv,hfv⟩:Fits V:=PM.fit (H0.fc.get 0 rfl)
 obtain ⟨ku,hku,hfu⟩:Fits U:=PM.fit (H0.fc.get 1 rfl)
 have hV:=PM.nonneg (H0.fc.get 0 rfl)
 have hU:=PM.nonneg (H0.fc.get 1 rfl)
 have hlim:=Ed
 have hvl:(dg 4294967296 V).length≤kv:=Ag 4294967296 (by omega) kv V (by unfold yz at hfv;rw [show ((4294967296:Nat):Int)=4294967296 from rfl];omega)
 have hul:(dg 4294967296 U).length≤ku:=Ag 4294967296 (by omega) ku U (by unfold yz at hfu;rw [show ((4294967296:Nat):Int)=4294967296 from rfl];omega)
 have hdU:Dig 4294967296 (dg 4294967296 U):=A8 4294967296 (by omega) _
 have hvU:val 4294967296 (dg 4294967296 U)=U:=Bz 4294967296 (by omega) U hU
 refine wp_seq ?_
 refine zf (dsts:=[some 4,some 5,some 6]) (refs:=[[],[],[]]) (outs:=[.res 0,.res 1,.res 2,.pre 0,.pre 1]) (als:=[false,false,false]) (posts:=[.val (IsC 0),.val (IsC 0),.val (IsB false)])
  (out:=[(4,.val (IsC 0)),(5,.val (IsC 0)),(6,.val (IsB false)),(0,.val (IsM V)),(1,.val (IsM U))]) (nb:=[]) H0 3 [] rfl (by kernel_rfl) rfl rfl ?_ ?_
 ·refine .cons (.plain rfl (qm (.const (fun w B=>Ld _ w B rfl)))) ?_
  refine .cons (.plain rfl (qm (.const (fun w B=>Ld _ w B rfl)))) ?_
  refine .cons (.plain rfl (qm (.lit))) ?_
  exact .nil
 clear H0
 intro a1 w1 B1 H1
 refine qi ?_
 refine qg ?_
 refine wp_seq ?_
 refine zf (dsts:=[some 13,some 14]) (refs:=[[.pre 3],[.res 0]]) (outs:=[.res 1,.pre 0,.pre 1,.pre 2,.pre 3,.pre 4]) (als:=[false,false]) (posts:=[.val (IsM V),.val (IsC V)])
  (out:=[(14,.val (IsC V)),(4,.val (IsC 0)),(5,.val (IsC 0)),(6,.val (IsB false)),(0,.val (IsM V)),(1,.val (IsM U))]) (nb:=[]) H1 2 [2] rfl (by kernel_rfl) rfl rfl ?_ ?_
 ·refine .cons (.plain rfl (qh (.tmp 0 rfl))) ?_
  refine .cons (.plain rfl (zl (Oh V) (.cons (.tmp 0 rfl) (.nil)))) ?_
  exact .nil
 clear H1 a1 w1 B1
 intro a2 w2 B2 H2
 refine zi ?_
 refine jm (D:=.val (IsC V)) (l':=[(0,.val (IsC V)),(14,.val (IsC V)),(4,.val (IsC 0)),(5,.val (IsC 0)),(6,.val (IsB false)),(1,.val (IsM U))]) H2 rfl rfl rfl (.plain rfl (qm (.tmp 0 rfl))) rfl rfl ?_
 clear H2 a2 w2 B2
 intro a3 w3 B3 H3
 refine qi ?_
 refine qg ?_
 refine wp_seq ?_
 refine zf (dsts:=[some 15,some 16]) (refs:=[[.pre 5],[.res 0]]) (outs:=[.res 1,.pre 0,.pre 2,.pre 3,.pre 4,.pre 5]) (als:=[false,false]) (posts:=[.val (IsM U),.val (IsC U)])
  (out:=[(16,.val (IsC U)),(0,.val (IsC V)),(4,.val (IsC 0)),(5,.val (IsC 0)),(6,.val (IsB false)),(1,.val (IsM U))]) (nb:=[]) H3 2 [2] rfl (by kernel_rfl) rfl rfl ?_ ?_
 ·refine .cons (.plain rfl (qh (.tmp 0 rfl))) ?_
  refine .cons (.plain rfl (zl (Oh U) (.cons (.tmp 0 rfl) (.nil)))) ?_
  exact .nil
 clear H3 a3 w3 B3
 intro a4 w4 B4 H4
 refine zi ?_
 refine jm (D:=.val (IsC U)) (l':=[(1,.val (IsC U)),(16,.val (IsC U)),(0,.val (IsC V)),(4,.val (IsC 0)),(5,.val (IsC 0)),(6,.val (IsB false))]) H4 rfl rfl rfl (.plain rfl (qm (.tmp 0 rfl))) rfl rfl ?_
 clear H4 a4 w4 B4
 intro a5 w5 B5 H5
 refine qi ?_
 refine qg ?_
 refine wp_seq ?_
 refine zf (dsts:=[some 17,some 18,some 7]) (refs:=[[.pre 0],[.res 0],[.res 1]]) (outs:=[.res 2,.pre 0,.pre 2,.pre 3,.pre 4,.pre 5]) (als:=[false,false,false]) (posts:=[.val (IsC U),.val (Lit (.int .i64 ((dg 4294967296 U).length:Int))),.val (Lit (.int .i64 ((dg 4294967296 U).length:Int)))])
  (out:=[(7,.val (Lit (.int .i64 ((dg 4294967296 U).length:Int)))),(1,.val (IsC U)),(0,.val (IsC V)),(4,.val (IsC 0)),(5,.val (IsC 0)),(6,.val (IsB false))]) (nb:=[]) H5 3 [] rfl (by kernel_rfl) rfl rfl ?_ ?_
 ·refine .cons (.plain rfl (qh (.tmp 0 rfl))) ?_
  refine .cons (.plain rfl (Gm (.tmp 0 rfl))) ?_
  refine .cons (.plain rfl (qm (.tmp 0 rfl))) ?_
  exact .nil
 clear H5 a5 w5 B5
 intro a6 w6 B6 H6
 refine qi ?_
 refine qg ?_
 refine wp_seq ?_
 refine wp_seq ?_
 refine zf (dsts:=[some 19,some 20]) (refs:=[[.pre 0],[.res 0]]) (outs:=[.res 1,.pre 0,.pre 1,.pre 2,.pre 3,.pre 4,.pre 5]) (als:=[false,false]) (posts:=[.val (Lit (.int .i64 ((dg 4294967296 U).length:Int))),.val (IsB (decide (((dg 4294967296 U).length:Int)=0)))])
  (out:=[(20,.val (IsB (decide (((dg 4294967296 U).length:Int)=0)))),(7,.val (Lit (.int .i64 ((dg 4294967296 U).length:Int)))),(1,.val (IsC U)),(0,.val (IsC V)),(4,.val (IsC 0)),(5,.val (IsC 0)),(6,.val (IsB false))]) (nb:=[]) H6 2 [] rfl (by kernel_rfl) rfl rfl ?_ ?_
 ·refine .cons (.plain rfl (qh (.tmp 0 rfl))) ?_
  refine .cons (.plain rfl (jq (.tmp 0 rfl) (.lit) rfl)) ?_
  exact .nil
 clear H6 a6 w6 B6
 intro a7 w7 B7 H7
 refine qi ?_
 refine qg ?_
 refine Aa H7 (.tmp 0 rfl) ?_ ?_
 ·intro hc8
  replace hc8:=of_decide_eq_true hc8
  have u0:U=0:=(Fz hU).1 hc8
  have e1:0=V / U:=by rw [u0,Int.ediv_zero]
  have e2:0=if U=0 then 0 else V % U:=(if_pos u0).symm
  have e3:false=decide (U≠0):=(decide_eq_false (fun h=>h u0)).symm
  refine wp_seq ?_
  refine zf (dsts:=[some 4,some 5,some 6]) (refs:=[[],[],[]]) (outs:=[.res 0,.res 1,.res 2,.pre 1,.pre 2,.pre 3]) (als:=[false,false,false]) (posts:=[.val (IsC 0),.val (IsC 0),.val (IsB false)])
   (out:=[(4,.val (IsC 0)),(5,.val (IsC 0)),(6,.val (IsB false)),(7,.val (Lit (.int .i64 ((dg 4294967296 U).length:Int)))),(1,.val (IsC U)),(0,.val (IsC V))]) (nb:=[]) H7 3 [] rfl (by kernel_rfl) rfl rfl ?_ ?_
  ·refine .cons (.plain rfl (qm (.const (fun w B=>Ld _ w B rfl)))) ?_
   refine .cons (.plain rfl (qm (.const (fun w B=>Ld _ w B rfl)))) ?_
   refine .cons (.plain rfl (qm (.lit))) ?_
   exact .nil
  clear H7 a7 w7 B7
  intro a9 w9 B9 H9
  refine qi ?_
  refine qg ?_
  refine wp_ret ?_
  refine yh ?_
  exact Dj H9 rfl rfl (.tmp 0 rfl (fun v w B h=>by exact Vo e1 h) (.tmp 1 rfl (fun v w B h=>by exact Vo e2 h) (.tmp 2 rfl (fun v w B h=>by exact Dl e3 h) (.nil))))
 ·intro hc8
  replace hc8:=of_decide_eq_false hc8
  have hU0:0<U:=by rcases Int.lt_or_eq_of_le hU with g | g;exact g;exact absurd ((Fz hU).2 g.symm) hc8
  obtain ⟨hp,hp1,hp2,hp3⟩:=Ug U hU0
  have e3:true=decide (U≠0):=(decide_eq_true (by omega)).symm
  refine wp_skip ?_
  refine qg ?_
  refine wp_seq ?_
  refine wp_seq ?_
  refine zf (dsts:=[some 21,some 22,some 23,some 24]) (refs:=[[.pre 3],[.res 0],[.pre 1],[.res 1,.res 2]]) (outs:=[.res 3,.pre 1,.pre 2,.pre 3,.pre 4,.pre 5,.pre 6]) (als:=[false,false,false,false]) (posts:=[.val (IsC V),.val (Lit (.int .i64 ((dg 4294967296 V).length:Int))),.val (Lit (.int .i64 ((dg 4294967296 U).length:Int))),.val (IsB (decide (((dg 4294967296 V).length:Int)<((dg 4294967296 U).length:Int))))])
   (out:=[(24,.val (IsB (decide (((dg 4294967296 V).length:Int)<((dg 4294967296 U).length:Int))))),(7,.val (Lit (.int .i64 ((dg 4294967296 U).length:Int)))),(1,.val (IsC U)),(0,.val (IsC V)),(4,.val (IsC 0)),(5,.val (IsC 0)),(6,.val (IsB false))]) (nb:=[]) H7 4 [] rfl (by kernel_rfl) rfl rfl ?_ ?_
  ·refine .cons (.plain rfl (qh (.tmp 0 rfl))) ?_
   refine .cons (.plain rfl (Gm (.tmp 0 rfl))) ?_
   refine .cons (.plain rfl (qh (.tmp 0 rfl))) ?_
   refine .cons (.plain rfl (jq (.tmp 0 rfl) (.tmp 1 rfl) rfl)) ?_
   exact .nil
  clear H7 a7 w7 B7
  intro a10 w10 B10 H10
  refine qi ?_
  refine qg ?_
  refine Aa H10 (.tmp 0 rfl) ?_ ?_
  ·intro hc11
   replace hc11:=of_decide_eq_true hc11
   obtain ⟨_,y1,y2⟩:=qjo hV hU (by omega)
   have e1:0=V / U:=y1.symm
   have e2:V=if U=0 then 0 else V % U:=by rw [if_neg (by omega)];exact y2.symm
   refine wp_seq ?_
   refine zf (dsts:=[some 25,some 4,some 5,some 6]) (refs:=[[.pre 3],[],[.res 0],[]]) (outs:=[.res 1,.res 2,.res 3,.pre 1,.pre 2,.pre 3]) (als:=[false,false,false,false]) (posts:=[.val (IsC V),.val (IsC 0),.val (IsC V),.val (IsB true)])
    (out:=[(4,.val (IsC 0)),(5,.val (IsC V)),(6,.val (IsB true)),(7,.val (Lit (.int .i64 ((dg 4294967296 U).length:Int)))),(1,.val (IsC U)),(0,.val (IsC V))]) (nb:=[]) H10 4 [] rfl (by kernel_rfl) rfl rfl ?_ ?_
   ·refine .cons (.plain rfl (qh (.tmp 0 rfl))) ?_
    refine .cons (.plain rfl (qm (.const (fun w B=>Ld _ w B rfl)))) ?_
    refine .cons (.plain rfl (qm (.tmp 0 rfl))) ?_
    refine .cons (.plain rfl (qm (.lit))) ?_
    exact .nil
   clear H10 a10 w10 B10
   intro a12 w12 B12 H12
   refine qi ?_
   refine qg ?_
   refine wp_ret ?_
   refine yh ?_
   exact Dj H12 rfl rfl (.tmp 0 rfl (fun v w B h=>by exact Vo e1 h) (.tmp 1 rfl (fun v w B h=>by exact Vo e2 h) (.tmp 2 rfl (fun v w B h=>by exact Dl e3 h) (.nil))))
  ·intro hc11
   replace hc11:=of_decide_eq_false hc11
   refine wp_skip ?_
   refine qg ?_
   refine wp_seq ?_
   obtain ⟨m13,hm13,hw13,hL13,H13⟩:=St.mark H10 913
   clear H10
   have H14:=St.setw H13 4 (D':=vk m13 V) rfl (fun v h=>qnf hL13 v h) (l':=[(913,.val (Sz m13)),(24,.val (IsB (decide (((dg 4294967296 V).length:Int)<((dg 4294967296 U).length:Int))))),(7,.val (Lit (.int .i64 ((dg 4294967296 U).length:Int)))),(1,.val (IsC U)),(0,.val (vk m13 V)),(4,.val (IsC 0)),(5,.val (IsC 0)),(6,.val (IsB false))]) rfl
   clear H13
   have H15:=St.setw H14 3 (D':=vk m13 U) rfl (fun v h=>qnf hL13 v h) (l':=[(913,.val (Sz m13)),(24,.val (IsB (decide (((dg 4294967296 V).length:Int)<((dg 4294967296 U).length:Int))))),(7,.val (Lit (.int .i64 ((dg 4294967296 U).length:Int)))),(1,.val (vk m13 U)),(0,.val (vk m13 V)),(4,.val (IsC 0)),(5,.val (IsC 0)),(6,.val (IsB false))]) rfl
   clear H14
   clear hL13 hw13
   obtain ⟨nq,hnq⟩:∃n:Nat,n+(dg 4294967296 U).length=(dg 4294967296 V).length+1:=⟨(dg 4294967296 V).length+1-(dg 4294967296 U).length,by omega⟩
   refine zf (dsts:=[some 26,some 27,some 28,some 29,some 30,some 31,some 8]) (refs:=[[.pre 4],[.res 0],[.pre 2],[.res 1,.res 2],[.res 3],[.res 4,.pre 0],[.res 5]]) (outs:=[.res 6,.pre 0,.pre 2,.pre 3,.pre 4,.pre 5,.pre 6,.pre 7]) (als:=[false,false,false,false,false,false,false]) (posts:=[.val (vk m13 V),.val (Lit (.int .i64 ((dg 4294967296 V).length:Int))),.val (Lit (.int .i64 ((dg 4294967296 U).length:Int))),.val (Lit (.int .i64 (((dg 4294967296 V).length:Int)-((dg 4294967296 U).length:Int)))),.val (Lit (.int .i64 ((((dg 4294967296 V).length:Int)-((dg 4294967296 U).length:Int))+1))),.val (Iu m13 44 .u32 (List.replicate nq 0)),.val (Iu m13 44 .u32 (List.replicate nq 0))])
    (out:=[(8,.val (Iu m13 44 .u32 (List.replicate nq 0))),(913,.val (Sz m13)),(7,.val (Lit (.int .i64 ((dg 4294967296 U).length:Int)))),(1,.val (vk m13 U)),(0,.val (vk m13 V)),(4,.val (IsC 0)),(5,.val (IsC 0)),(6,.val (IsB false))]) (nb:=[]) H15 7 [] rfl (by kernel_rfl) rfl rfl ?_ ?_
   ·refine .cons (.plain rfl (qh (.tmp 0 rfl))) ?_
    refine .cons (.plain rfl (Gm (.weak (.tmp 0 rfl) Ul))) ?_
    refine .cons (.plain rfl (qh (.tmp 0 rfl))) ?_
    refine .cons (.plain rfl (D6 (r:=(((dg 4294967296 V).length:Int)-((dg 4294967296 U).length:Int))) (.tmp 0 rfl) (.tmp 1 rfl) (xh (by omega)))) ?_
    refine .cons (.plain rfl (Aq (r:=((((dg 4294967296 V).length:Int)-((dg 4294967296 U).length:Int))+1)) (.tmp 0 rfl) (.lit) (xh (by omega)))) ?_
    refine .cons (.plain rfl (Uh nq 1 (.inl rfl) Tryz.underlying23 Ah (by omega) (by omega) (.tmp 0 rfl) (.tmp 0 rfl) (by omega) rfl)) ?_
    refine .cons (.plain rfl (qm (.tmp 0 rfl))) ?_
    exact .nil
   clear H15 a10 w10 B10
   intro a16 w16 B16 H16
   refine qi ?_
   refine qg ?_
   refine wp_seq ?_
   obtain ⟨g17,hg17,H17⟩:=St.name H16 0 rfl
   replace H17:St 106 w0 B0 a16 w16 B16 [(8,.val (zh g17 m13 44 .u32 (List.replicate nq 0))),(913,.val (Sz m13)),(7,.val (Lit (.int .i64 ((dg 4294967296 U).length:Int)))),(1,.val (vk m13 U)),(0,.val (vk m13 V)),(4,.val (IsC 0)),(5,.val (IsC 0)),(6,.val (IsB false))] []:=H17
   clear H16
   have hgm17:∀b,g17=some b→m13≤b:=fun b hb=>(hg17 b hb).1
   skip
   have hsz:m13≤w16.heap.size:=H17.fc.get 1 rfl
   obtain ⟨m18,hm18,hw18,hL18,H18⟩:=St.mark H17 918
   clear H17
   have hm12:m13≤m18:=Nat.le_trans hsz hw18
   have hq8:∀b,g17=some b→b<m18:=fun b hb=>Nat.lt_of_lt_of_le (hg17 b hb).2 hw18
   clear hg17 hsz hL18 hw18
   refine Vl (dsts:=[some 32,some 33,some 34,some 35,some 36,some 37,some 38,some 39,some 40,some 41]) (refs:=[[.pre 3],[.res 0],[.res 1,.pre 0],[.pre 5],[.pre 5],[.res 4],[.pre 3],[.res 5,.res 6],[.res 7],[.res 3,.res 8]]) (outs:=[.res 2,.res 9,.pre 0,.pre 1,.pre 2,.pre 3,.pre 4,.pre 5,.pre 6,.pre 7,.pre 8]) (als:=[false,false,false,false,false,false,false,false,false,false]) (posts:=[.val (Lit (.int .i64 ((dg 4294967296 U).length:Int))),.val (Lit (.int .i64 (((dg 4294967296 U).length:Int)+1))),.val (Iu m18 44 .u32 ([])),.val (vk m13 V),.val (vk m13 V),.val (Lit (.int .i64 ((dg 4294967296 V).length:Int))),.val (Lit (.int .i64 ((dg 4294967296 U).length:Int))),.val (Lit (.int .i64 (((dg 4294967296 V).length:Int)-((dg 4294967296 U).length:Int)))),.val (Lit (.int .i64 ((((dg 4294967296 V).length:Int)-((dg 4294967296 U).length:Int))+1))),.val (IsL .u32 (List.drop nq (dg 4294967296 V)))])
    (out:=[(34,.val (Iu m18 44 .u32 ([]))),(41,.val (IsL .u32 (List.drop nq (dg 4294967296 V)))),(918,.val (Sz m18)),(8,.val (zh g17 m13 44 .u32 (List.replicate nq 0))),(913,.val (Sz m13)),(7,.val (Lit (.int .i64 ((dg 4294967296 U).length:Int)))),(1,.val (vk m13 U)),(0,.val (vk m13 V)),(4,.val (IsC 0)),(5,.val (IsC 0)),(6,.val (IsB false))]) (nb:=[]) H18 (by kernel_rfl) 10 2 #[true,true,true,true,true,true,true,true,true,true,false,false] (by kernel_rfl) (by kernel_rfl) rfl rfl ?_ ?_
   ·refine .cons (.plain rfl (qh (.tmp 0 rfl))) ?_
    refine .cons (.plain rfl (Aq (r:=(((dg 4294967296 U).length:Int)+1)) (.tmp 0 rfl) (.lit) (xh (by omega)))) ?_
    refine .cons (.plain rfl (qkt ((dg 4294967296 U).length+1) 1 (.inl rfl) Tryz.underlying23 Ah (by omega) (by omega) (.lit) (.tmp 0 rfl) (by omega) rfl)) ?_
    refine .cons (.plain rfl (qh (.tmp 0 rfl))) ?_
    refine .cons (.plain rfl (qh (.tmp 0 rfl))) ?_
    refine .cons (.plain rfl (Gm (.weak (.tmp 0 rfl) Ul))) ?_
    refine .cons (.plain rfl (qh (.tmp 0 rfl))) ?_
    refine .cons (.plain rfl (D6 (r:=(((dg 4294967296 V).length:Int)-((dg 4294967296 U).length:Int))) (.tmp 0 rfl) (.tmp 1 rfl) (xh (by omega)))) ?_
    refine .cons (.plain rfl (Aq (r:=((((dg 4294967296 V).length:Int)-((dg 4294967296 U).length:Int))+1)) (.tmp 0 rfl) (.lit) (xh (by omega)))) ?_
    refine .cons (.plain rfl (qmk nq Tryz.underlying23 Bf (.weak (.tmp 0 rfl) qh5) (.tmp 1 rfl) (by omega) (by omega))) ?_
    exact .nil
   clear H18 a16 w16 B16
   intro a19 w19 B19 H19
   obtain ⟨g20,hg20,H20⟩:=St.name H19 0 rfl
   replace H20:St 106 w0 B0 a19 w19 B19 [(34,.val (zh g20 m18 44 .u32 ([]))),(41,.val (IsL .u32 (List.drop nq (dg 4294967296 V)))),(918,.val (Sz m18)),(8,.val (zh g17 m13 44 .u32 (List.replicate nq 0))),(913,.val (Sz m13)),(7,.val (Lit (.int .i64 ((dg 4294967296 U).length:Int)))),(1,.val (vk m13 U)),(0,.val (vk m13 V)),(4,.val (IsC 0)),(5,.val (IsC 0)),(6,.val (IsB false))] []:=H20
   clear H19
   have hgm20:∀b,g20=some b→m18≤b:=fun b hb=>(hg20 b hb).1
   clear hg20
   refine Az (l':=#[true,true,true,true,true,true,true,true,true,true,true,false]) 10 (by kernel_rfl) ?_
   refine qe9 (xs:=([])) (ys:=(List.drop nq (dg 4294967296 V))) (ks:=[(918,.val (Sz m18)),(8,.val (zh g17 m13 44 .u32 (List.replicate nq 0))),(913,.val (Sz m13)),(7,.val (Lit (.int .i64 ((dg 4294967296 U).length:Int)))),(1,.val (vk m13 U)),(0,.val (vk m13 V)),(6,.val (IsB false))]) 2 [2,3,4,5,6,7,10] H20 hm18 rfl Tryz.underlying23 Ah (by omega) (.tmp 0 rfl) (.tmp 1 rfl) (by simp;omega) rfl (Nat.le_refl _) rfl rfl (by kernel_rfl) rfl (.cons (Ce) (.cons (Kv hq8) (.cons (Ce) (.cons (jg) (.cons (Gj (hm12)) (.cons (Gj (hm12)) (.cons (jg) (.nil)))))))) ?_
   clear H20
   intro a21 w21 B21 g21 hg21 H21
   replace H21:St 106 w0 B0 a21 w21 B21 [(42,.val (zh g21 m18 44 .u32 (([])++(List.drop nq (dg 4294967296 V))))),(918,.val (Sz m18)),(8,.val (zh g17 m13 44 .u32 (List.replicate nq 0))),(913,.val (Sz m13)),(7,.val (Lit (.int .i64 ((dg 4294967296 U).length:Int)))),(1,.val (vk m13 U)),(0,.val (vk m13 V)),(6,.val (IsB false))] []:=H21
   refine Az (l':=#[true,true,true,true,true,true,true,true,true,true,true,true]) 11 (by kernel_rfl) ?_
   refine jm (D:=.val (zh g21 m18 44 .u32 (([])++(List.drop nq (dg 4294967296 V))))) (l':=[(9,.val (zh g21 m18 44 .u32 (([])++(List.drop nq (dg 4294967296 V))))),(42,.val (zh g21 m18 44 .u32 (([])++(List.drop nq (dg 4294967296 V))))),(918,.val (Sz m18)),(8,.val (zh g17 m13 44 .u32 (List.replicate nq 0))),(913,.val (Sz m13)),(7,.val (Lit (.int .i64 ((dg 4294967296 U).length:Int)))),(1,.val (vk m13 U)),(0,.val (vk m13 V)),(6,.val (IsB false))]) H21 rfl rfl rfl (.plain rfl (qm (.tmp 0 rfl))) rfl rfl ?_
   clear H21 a21 w21 B21
   intro a22 w22 B22 H22
   refine Bh (by kernel_rfl) ?_
   refine qg ?_
   refine wp_seq ?_
   refine wp_seq ?_
   have H23:=St.set1 H22 0 (D':=zh g21 m18 44 .u32 (List.drop nq (dg 4294967296 V))) rfl (fun v w B h=>by rw [List.nil_append] at h;exact h) (l':=[(9,.val (zh g21 m18 44 .u32 (List.drop nq (dg 4294967296 V)))),(42,.val (zh g21 m18 44 .u32 (([])++(List.drop nq (dg 4294967296 V))))),(918,.val (Sz m18)),(8,.val (zh g17 m13 44 .u32 (List.replicate nq 0))),(913,.val (Sz m13)),(7,.val (Lit (.int .i64 ((dg 4294967296 U).length:Int)))),(1,.val (vk m13 U)),(0,.val (vk m13 V)),(6,.val (IsB false))]) rfl
   clear H22
   refine zf (dsts:=[some 43,some 44,some 45,some 46,some 10]) (refs:=[[.pre 7],[.res 0],[.pre 5],[.res 1,.res 2],[.res 3]]) (outs:=[.res 4,.pre 0,.pre 2,.pre 3,.pre 4,.pre 5,.pre 6,.pre 7,.pre 8]) (als:=[false,false,false,false,false]) (posts:=[.val (vk m13 V),.val (Lit (.int .i64 ((dg 4294967296 V).length:Int))),.val (Lit (.int .i64 ((dg 4294967296 U).length:Int))),.val (Lit (.int .i64 (((dg 4294967296 V).length:Int)-((dg 4294967296 U).length:Int)))),.val (Lit (.int .i64 (((dg 4294967296 V).length:Int)-((dg 4294967296 U).length:Int))))])
    (out:=[(10,.val (Lit (.int .i64 (((dg 4294967296 V).length:Int)-((dg 4294967296 U).length:Int))))),(9,.val (zh g21 m18 44 .u32 (List.drop nq (dg 4294967296 V)))),(918,.val (Sz m18)),(8,.val (zh g17 m13 44 .u32 (List.replicate nq 0))),(913,.val (Sz m13)),(7,.val (Lit (.int .i64 ((dg 4294967296 U).length:Int)))),(1,.val (vk m13 U)),(0,.val (vk m13 V)),(6,.val (IsB false))]) (nb:=[]) H23 5 [] rfl (by kernel_rfl) rfl rfl ?_ ?_
   ·refine .cons (.plain rfl (qh (.tmp 0 rfl))) ?_
    refine .cons (.plain rfl (Gm (.weak (.tmp 0 rfl) Ul))) ?_
    refine .cons (.plain rfl (qh (.tmp 0 rfl))) ?_
    refine .cons (.plain rfl (D6 (r:=(((dg 4294967296 V).length:Int)-((dg 4294967296 U).length:Int))) (.tmp 0 rfl) (.tmp 1 rfl) (xh (by omega)))) ?_
    refine .cons (.plain rfl (qm (.tmp 0 rfl))) ?_
    exact .nil
   clear H23 a22 w22 B22
   intro a24 w24 B24 H24
   refine qi ?_
   refine qg ?_
   refine wp_block ?_
   refine Gq (fun (⟨gr,i,Q,X⟩:Option Nat × Int × List Int × List Int)=>[(10,.val (Lit (.int .i64 i))),(9,.val (zh gr m18 44 .u32 X)),(918,.val (Sz m18)),(8,.val (zh g17 m13 44 .u32 Q)),(913,.val (Sz m13)),(7,.val (Lit (.int .i64 ((dg 4294967296 U).length:Int)))),(1,.val (vk m13 U)),(0,.val (vk m13 V)),(6,.val (IsB false))]) (fun (⟨gr,i,Q,X⟩:Option Nat × Int × List Int × List Int)=>(-1≤i∧i<(nq:Int))∧Zp V U (i+1).toNat Q X) (fun (⟨gr,i,Q,X⟩:Option Nat × Int × List Int × List Int)=>(i+1).toNat) (⟨g21,((dg 4294967296 V).length:Int)-((dg 4294967296 U).length:Int),List.replicate nq 0,List.drop nq (dg 4294967296 V)⟩) (St.pick H24 [0,1,2,3,4,5,6,7,8] rfl) (by exact ⟨by omega,by have:=qgq V U hV hU0 nq hnq;rw [show (((dg 4294967296 V).length:Int)-((dg 4294967296 U).length:Int)+1).toNat=nq by omega];exact this⟩) ?_
   clear H24 a24 w24 B24
   rintro ⟨gr,i,Q,X⟩ a25 w25 B25 hI25 H25
   replace hI25:(-1≤i∧i<(nq:Int))∧Zp V U (i+1).toNat Q X:=hI25
   replace H25:St 106 w0 B0 a25 w25 B25 [(10,.val (Lit (.int .i64 i))),(9,.val (zh gr m18 44 .u32 X)),(918,.val (Sz m18)),(8,.val (zh g17 m13 44 .u32 Q)),(913,.val (Sz m13)),(7,.val (Lit (.int .i64 ((dg 4294967296 U).length:Int)))),(1,.val (vk m13 U)),(0,.val (vk m13 V)),(6,.val (IsB false))] []:=H25
   obtain ⟨hi,hst⟩:=hI25
   refine wp_seq ?_
   refine wp_seq ?_
   refine zf (dsts:=[some 47,some 48]) (refs:=[[.pre 0],[.res 0]]) (outs:=[.res 1,.pre 0,.pre 1,.pre 2,.pre 3,.pre 4,.pre 5,.pre 6,.pre 7,.pre 8]) (als:=[false,false]) (posts:=[.val (Lit (.int .i64 i)),.val (IsB (decide (0≤i)))])
    (out:=[(48,.val (IsB (decide (0≤i)))),(10,.val (Lit (.int .i64 i))),(9,.val (zh gr m18 44 .u32 X)),(918,.val (Sz m18)),(8,.val (zh g17 m13 44 .u32 Q)),(913,.val (Sz m13)),(7,.val (Lit (.int .i64 ((dg 4294967296 U).length:Int)))),(1,.val (vk m13 U)),(0,.val (vk m13 V)),(6,.val (IsB false))]) (nb:=[]) H25 2 [] rfl (by kernel_rfl) rfl rfl ?_ ?_
   ·refine .cons (.plain rfl (qh (.tmp 0 rfl))) ?_
    refine .cons (.plain rfl (jq (.tmp 0 rfl) (.lit) rfl)) ?_
    exact .nil
   clear H25 a25 w25 B25
   intro a26 w26 B26 H26
   refine qi ?_
   refine qg ?_
   refine Aa H26 (.tmp 0 rfl) ?_ ?_
   ·intro hc27
    replace hc27:=of_decide_eq_true hc27
    rw [show (i+1).toNat=i.toNat+1 by omega] at hst
    have hxl:=hst.xl
    have hql:=hst.ql
    refine wp_skip ?_
    refine qg ?_
    refine wp_seq ?_
    refine wp_block ?_
    refine wp_seq ?_
    refine zf (dsts:=[some 51,some 52]) (refs:=[[.pre 2],[]]) (outs:=[.res 0,.res 1,.pre 1,.pre 2,.pre 3,.pre 4,.pre 5,.pre 6,.pre 7,.pre 8,.pre 9]) (als:=[false,false]) (posts:=[.val (zh gr m18 44 .u32 X),.val (IsL .u32 ([0]))])
     (out:=[(51,.val (zh gr m18 44 .u32 X)),(52,.val (IsL .u32 ([0]))),(10,.val (Lit (.int .i64 i))),(9,.val (zh gr m18 44 .u32 X)),(918,.val (Sz m18)),(8,.val (zh g17 m13 44 .u32 Q)),(913,.val (Sz m13)),(7,.val (Lit (.int .i64 ((dg 4294967296 U).length:Int)))),(1,.val (vk m13 U)),(0,.val (vk m13 V)),(6,.val (IsB false))]) (nb:=[]) H26 2 [2,3] rfl (by kernel_rfl) rfl rfl ?_ ?_
    ·refine .cons (.plain rfl (qh (.tmp 0 rfl))) ?_
     refine .cons (.plain rfl (qcm (.lit))) ?_
     exact .nil
    clear H26 a26 w26 B26
    intro a28 w28 B28 H28
    refine zi ?_
    refine qe9 (xs:=X) (ys:=([0])) (ks:=[(10,.val (Lit (.int .i64 i))),(918,.val (Sz m18)),(8,.val (zh g17 m13 44 .u32 Q)),(913,.val (Sz m13)),(7,.val (Lit (.int .i64 ((dg 4294967296 U).length:Int)))),(1,.val (vk m13 U)),(0,.val (vk m13 V)),(6,.val (IsB false))]) 4 [2,4,5,6,7,8,9,10] H28 hm18 rfl Tryz.underlying23 Ah (by omega) (.tmp 0 rfl) (.tmp 1 rfl) (by simp;omega) rfl (Nat.le_refl _) rfl rfl (by kernel_rfl) rfl (.cons (jg) (.cons (Ce) (.cons (Kv hq8) (.cons (Ce) (.cons (jg) (.cons (Gj (hm12)) (.cons (Gj (hm12)) (.cons (jg) (.nil))))))))) ?_
    clear H28
    intro a29 w29 B29 g29 hg29 H29
    replace H29:St 106 w0 B0 a29 w29 B29 [(53,.val (zh g29 m18 44 .u32 (X++([0])))),(10,.val (Lit (.int .i64 i))),(918,.val (Sz m18)),(8,.val (zh g17 m13 44 .u32 Q)),(913,.val (Sz m13)),(7,.val (Lit (.int .i64 ((dg 4294967296 U).length:Int)))),(1,.val (vk m13 U)),(0,.val (vk m13 V)),(6,.val (IsB false))] []:=H29
    refine zi ?_
    refine jm (D:=.val (zh g29 m18 44 .u32 (X++([0])))) (l':=[(9,.val (zh g29 m18 44 .u32 (X++([0])))),(53,.val (zh g29 m18 44 .u32 (X++([0])))),(10,.val (Lit (.int .i64 i))),(918,.val (Sz m18)),(8,.val (zh g17 m13 44 .u32 Q)),(913,.val (Sz m13)),(7,.val (Lit (.int .i64 ((dg 4294967296 U).length:Int)))),(1,.val (vk m13 U)),(0,.val (vk m13 V)),(6,.val (IsB false))]) H29 rfl rfl rfl (.plain rfl (qm (.tmp 0 rfl))) rfl rfl ?_
    clear H29 a29 w29 B29
    intro a30 w30 B30 H30
    refine qi ?_
    refine qg ?_
    refine wp_seq ?_
    refine wp_seq ?_
    have hXa:(List.length (X++[0]):Int)=(List.length X:Int)+1:=by rw [List.length_append,List.length_singleton];omega
    refine zf (dsts:=[some 54,some 55,some 56,some 11]) (refs:=[[.pre 0],[.res 0],[.res 1],[.res 2]]) (outs:=[.res 3,.pre 0,.pre 2,.pre 3,.pre 4,.pre 5,.pre 6,.pre 7,.pre 8,.pre 9]) (als:=[false,false,false,false]) (posts:=[.val (zh g29 m18 44 .u32 (X++([0]))),.val (Lit (.int .i64 (List.length (X++([0])):Int))),.val (Lit (.int .i64 ((List.length (X++([0])):Int)-1))),.val (Lit (.int .i64 ((List.length (X++([0])):Int)-1)))])
     (out:=[(11,.val (Lit (.int .i64 ((List.length (X++([0])):Int)-1)))),(9,.val (zh g29 m18 44 .u32 (X++([0])))),(10,.val (Lit (.int .i64 i))),(918,.val (Sz m18)),(8,.val (zh g17 m13 44 .u32 Q)),(913,.val (Sz m13)),(7,.val (Lit (.int .i64 ((dg 4294967296 U).length:Int)))),(1,.val (vk m13 U)),(0,.val (vk m13 V)),(6,.val (IsB false))]) (nb:=[]) H30 4 [] rfl (by kernel_rfl) rfl rfl ?_ ?_
    ·refine .cons (.plain rfl (qh (.tmp 0 rfl))) ?_
     refine .cons (.plain rfl (Eu Tryz.underlying23 (.weak (.tmp 0 rfl) Gf))) ?_
     refine .cons (.plain rfl (D6 (r:=((List.length (X++([0])):Int)-1)) (.tmp 0 rfl) (.lit) (xh (by omega)))) ?_
     refine .cons (.plain rfl (qm (.tmp 0 rfl))) ?_
     exact .nil
    clear H30 a30 w30 B30
    intro a31 w31 B31 H31
    refine qi ?_
    refine qg ?_
    refine wp_block ?_
    refine Gq (fun (⟨j,W⟩:Int × List Int)=>[(11,.val (Lit (.int .i64 j))),(9,.val (zh g29 m18 44 .u32 W)),(10,.val (Lit (.int .i64 i))),(918,.val (Sz m18)),(8,.val (zh g17 m13 44 .u32 Q)),(913,.val (Sz m13)),(7,.val (Lit (.int .i64 ((dg 4294967296 U).length:Int)))),(1,.val (vk m13 U)),(0,.val (vk m13 V)),(6,.val (IsB false))]) (fun (⟨j,W⟩:Int × List Int)=>(0≤j∧j≤(List.length X:Int))∧ShI X W j.toNat) (fun (⟨j,W⟩:Int × List Int)=>j.toNat) (⟨(List.length (X++[0]):Int)-1,X++[0]⟩) (St.pick H31 [0,1,2,3,4,5,6,7,8,9] rfl) (by exact ⟨by rw [List.length_append,List.length_singleton];omega,by rw [show ((List.length (X++[0]):Int)-1).toNat=List.length X by rw [List.length_append,List.length_singleton];omega];exact qk3 X hst.xd⟩) ?_
    clear H31 a31 w31 B31
    rintro ⟨j,W⟩ a32 w32 B32 hI32 H32
    replace hI32:(0≤j∧j≤(List.length X:Int))∧ShI X W j.toNat:=hI32
    replace H32:St 106 w0 B0 a32 w32 B32 [(11,.val (Lit (.int .i64 j))),(9,.val (zh g29 m18 44 .u32 W)),(10,.val (Lit (.int .i64 i))),(918,.val (Sz m18)),(8,.val (zh g17 m13 44 .u32 Q)),(913,.val (Sz m13)),(7,.val (Lit (.int .i64 ((dg 4294967296 U).length:Int)))),(1,.val (vk m13 U)),(0,.val (vk m13 V)),(6,.val (IsB false))] []:=H32
    obtain ⟨hj,hsh⟩:=hI32
    have hWl:=hsh.len
    refine wp_seq ?_
    refine wp_seq ?_
    refine zf (dsts:=[some 57,some 58]) (refs:=[[.pre 0],[.res 0]]) (outs:=[.res 1,.pre 0,.pre 1,.pre 2,.pre 3,.pre 4,.pre 5,.pre 6,.pre 7,.pre 8,.pre 9]) (als:=[false,false]) (posts:=[.val (Lit (.int .i64 j)),.val (IsB (decide (0<j)))])
     (out:=[(58,.val (IsB (decide (0<j)))),(11,.val (Lit (.int .i64 j))),(9,.val (zh g29 m18 44 .u32 W)),(10,.val (Lit (.int .i64 i))),(918,.val (Sz m18)),(8,.val (zh g17 m13 44 .u32 Q)),(913,.val (Sz m13)),(7,.val (Lit (.int .i64 ((dg 4294967296 U).length:Int)))),(1,.val (vk m13 U)),(0,.val (vk m13 V)),(6,.val (IsB false))]) (nb:=[]) H32 2 [] rfl (by kernel_rfl) rfl rfl ?_ ?_
    ·refine .cons (.plain rfl (qh (.tmp 0 rfl))) ?_
     refine .cons (.plain rfl (jq (.tmp 0 rfl) (.lit) rfl)) ?_
     exact .nil
    clear H32 a32 w32 B32
    intro a33 w33 B33 H33
    refine qi ?_
    refine qg ?_
    refine Aa H33 (.tmp 0 rfl) ?_ ?_
    ·intro hc34
     replace hc34:=of_decide_eq_true hc34
     refine wp_skip ?_
     refine qg ?_
     refine wp_seq ?_
     refine wp_block ?_
     refine zf (dsts:=[some 61,some 62,some 63,some 64,some 65,some 66,some 67,some 68]) (refs:=[[.pre 2],[.pre 1],[.pre 2],[.pre 1],[.res 3],[.res 2,.res 4],[.res 5],[.res 0,.res 1]]) (outs:=[.res 6,.res 7,.pre 1,.pre 2,.pre 3,.pre 4,.pre 5,.pre 6,.pre 7,.pre 8,.pre 9,.pre 10]) (als:=[false,false,false,false,false,false,false,false]) (posts:=[.val (zh g29 m18 44 .u32 W),.val (Lit (.int .i64 j)),.val (zh g29 m18 44 .u32 W),.val (Lit (.int .i64 j)),.val (Lit (.int .i64 (j-1))),.val (Fh .u32 (W[(j-1).toNat]?.getD 0)),.val (Lit (.int .u32 (W[(j-1).toNat]?.getD 0))),.val (Nq g29 j.toNat)])
      (out:=[(67,.val (Lit (.int .u32 (W[(j-1).toNat]?.getD 0)))),(68,.val (Nq g29 j.toNat)),(11,.val (Lit (.int .i64 j))),(9,.val (zh g29 m18 44 .u32 W)),(10,.val (Lit (.int .i64 i))),(918,.val (Sz m18)),(8,.val (zh g17 m13 44 .u32 Q)),(913,.val (Sz m13)),(7,.val (Lit (.int .i64 ((dg 4294967296 U).length:Int)))),(1,.val (vk m13 U)),(0,.val (vk m13 V)),(6,.val (IsB false))]) (nb:=[]) H33 8 [8] rfl (by kernel_rfl) rfl rfl ?_ ?_
     ·refine .cons (.plain rfl (qh (.tmp 0 rfl))) ?_
      refine .cons (.plain rfl (qh (.tmp 0 rfl))) ?_
      refine .cons (.plain rfl (qh (.tmp 0 rfl))) ?_
      refine .cons (.plain rfl (qh (.tmp 0 rfl))) ?_
      refine .cons (.plain rfl (D6 (r:=(j-1)) (.tmp 0 rfl) (.lit) (xh (by omega)))) ?_
      refine .cons (.plain rfl (Et (xs:=W) ((j-1).toNat) Tryz.underlying23 Bf (.weak (.tmp 0 rfl) Gf) (.tmp 1 rfl) (by omega) (by omega))) ?_
      refine .cons (.plain rfl (Ap Jd (.tmp 0 rfl))) ?_
      refine .cons (.plain rfl (J4 (xs:=W) j.toNat Tryz.underlying23 Bf (.tmp 0 rfl) (.tmp 1 rfl) (by omega) (by omega))) ?_
      exact .nil
     clear H33 a33 w33 B33
     intro a35 w35 B35 H35
     refine zi ?_
     refine Hg (xs:=W) (y:=(W[(j-1).toNat]?.getD 0)) (j:=j.toNat) (ks:=[(67,.val (Lit (.int .u32 (W[(j-1).toNat]?.getD 0)))),(11,.val (Lit (.int .i64 j))),(10,.val (Lit (.int .i64 i))),(918,.val (Sz m18)),(8,.val (zh g17 m13 44 .u32 Q)),(913,.val (Sz m13)),(7,.val (Lit (.int .i64 ((dg 4294967296 U).length:Int)))),(1,.val (vk m13 U)),(0,.val (vk m13 V)),(6,.val (IsB false))]) (l':=[(9,.val (zh g29 m18 44 .u32 (List.set W j.toNat (W[(j-1).toNat]?.getD 0)))),(67,.val (Lit (.int .u32 (W[(j-1).toNat]?.getD 0)))),(11,.val (Lit (.int .i64 j))),(10,.val (Lit (.int .i64 i))),(918,.val (Sz m18)),(8,.val (zh g17 m13 44 .u32 Q)),(913,.val (Sz m13)),(7,.val (Lit (.int .i64 ((dg 4294967296 U).length:Int)))),(1,.val (vk m13 U)),(0,.val (vk m13 V)),(6,.val (IsB false))]) 1 3 [9] [0,2,4,5,6,7,8,9,10,11] H35 hm18 rfl Bf rfl (.tmp 0 rfl) rfl (by omega) rfl (.cons (jg) (.cons (jg) (.cons (jg) (.cons (Ce) (.cons (Kv hq8) (.cons (Ce) (.cons (jg) (.cons (Gj (hm12)) (.cons (Gj (hm12)) (.cons (jg) (.nil))))))))))) (by simp) rfl ?_
     clear H35 w35
     intro w36 H36
     refine qi ?_
     refine kw ?_
     refine qg ?_
     refine zf (dsts:=[some 59,some 60]) (refs:=[[.pre 2],[.res 0]]) (outs:=[.res 1,.pre 0,.pre 2,.pre 3,.pre 4,.pre 5,.pre 6,.pre 7,.pre 8,.pre 9,.pre 10]) (als:=[false,false]) (posts:=[.val (Lit (.int .i64 j)),.val (Lit (.int .i64 (j-1)))])
      (out:=[(60,.val (Lit (.int .i64 (j-1)))),(9,.val (zh g29 m18 44 .u32 (List.set W j.toNat (W[(j-1).toNat]?.getD 0)))),(11,.val (Lit (.int .i64 j))),(10,.val (Lit (.int .i64 i))),(918,.val (Sz m18)),(8,.val (zh g17 m13 44 .u32 Q)),(913,.val (Sz m13)),(7,.val (Lit (.int .i64 ((dg 4294967296 U).length:Int)))),(1,.val (vk m13 U)),(0,.val (vk m13 V)),(6,.val (IsB false))]) (nb:=[]) H36 2 [2] rfl (by kernel_rfl) rfl rfl ?_ ?_
     ·refine .cons (.plain rfl (qh (.tmp 0 rfl))) ?_
      refine .cons (.plain rfl (D6 (r:=(j-1)) (.tmp 0 rfl) (.lit) (xh (by omega)))) ?_
      exact .nil
     clear H36 a35 w36 B35
     intro a37 w37 B37 H37
     refine zi ?_
     refine jm (D:=.val (Lit (.int .i64 (j-1)))) (l':=[(11,.val (Lit (.int .i64 (j-1)))),(60,.val (Lit (.int .i64 (j-1)))),(9,.val (zh g29 m18 44 .u32 (List.set W j.toNat (W[(j-1).toNat]?.getD 0)))),(10,.val (Lit (.int .i64 i))),(918,.val (Sz m18)),(8,.val (zh g17 m13 44 .u32 Q)),(913,.val (Sz m13)),(7,.val (Lit (.int .i64 ((dg 4294967296 U).length:Int)))),(1,.val (vk m13 U)),(0,.val (vk m13 V)),(6,.val (IsB false))]) H37 rfl rfl rfl (.plain rfl (qm (.tmp 0 rfl))) rfl rfl ?_
     clear H37 a37 w37 B37
     intro a38 w38 B38 H38
     refine qi ?_
     exact ⟨⟨j-1,List.set W j.toNat (W[(j-1).toNat]?.getD 0)⟩,B38,by exact ⟨by omega,by have:=qmr (X:=X) (W:=W) (k:=(j-1).toNat) (by rw [show (j-1).toNat+1=j.toNat by omega];exact hsh) (by omega);rw [show (j-1).toNat+1=j.toNat by omega] at this;exact this⟩,St.pick H38 [0,2,3,4,5,6,7,8,9,10] rfl,by show (j-1).toNat<j.toNat;omega⟩
    ·intro hc34
     replace hc34:=of_decide_eq_false hc34
     have hsh0:ShI X W 0:=by have:=hsh;rw [show j.toNat=0 by omega] at this;exact this
     refine wp_exit ?_
     refine jy ?_
     refine jy ?_
     refine Am ?_
     refine qg ?_
     refine wp_seq ?_
     refine zf (dsts:=[some 69,some 70,some 71,some 72,some 73,some 74]) (refs:=[[.pre 2],[.pre 9],[.pre 3],[.res 1,.res 2],[.res 3],[.res 0]]) (outs:=[.res 4,.res 5,.pre 1,.pre 2,.pre 3,.pre 4,.pre 5,.pre 6,.pre 7,.pre 8,.pre 9,.pre 10]) (als:=[false,false,false,false,false,false]) (posts:=[.val (zh g29 m18 44 .u32 W),.val (vk m13 V),.val (Lit (.int .i64 i)),.val (Fh .u32 ((dg 4294967296 V)[i.toNat]?.getD 0)),.val (Lit (.int .u32 ((dg 4294967296 V)[i.toNat]?.getD 0))),.val (Nq g29 0)])
      (out:=[(73,.val (Lit (.int .u32 ((dg 4294967296 V)[i.toNat]?.getD 0)))),(74,.val (Nq g29 0)),(11,.val (Lit (.int .i64 j))),(9,.val (zh g29 m18 44 .u32 W)),(10,.val (Lit (.int .i64 i))),(918,.val (Sz m18)),(8,.val (zh g17 m13 44 .u32 Q)),(913,.val (Sz m13)),(7,.val (Lit (.int .i64 ((dg 4294967296 U).length:Int)))),(1,.val (vk m13 U)),(0,.val (vk m13 V)),(6,.val (IsB false))]) (nb:=[]) H33 6 [6] rfl (by kernel_rfl) rfl rfl ?_ ?_
     ·refine .cons (.plain rfl (qh (.tmp 0 rfl))) ?_
      refine .cons (.plain rfl (qh (.tmp 0 rfl))) ?_
      refine .cons (.plain rfl (qh (.tmp 0 rfl))) ?_
      refine .cons (.plain rfl (Et (xs:=(dg 4294967296 V)) i.toNat Tryz.underlying23 Bf (.weak (.tmp 0 rfl) qfv) (.tmp 1 rfl) (by omega) (by omega))) ?_
      refine .cons (.plain rfl (Ap Jd (.tmp 0 rfl))) ?_
      refine .cons (.plain rfl (J4 (xs:=W) 0 Tryz.underlying23 Bf (.tmp 0 rfl) (.lit) (rfl) (by omega))) ?_
      exact .nil
     clear H33 a33 w33 B33
     intro a39 w39 B39 H39
     refine zi ?_
     refine Hg (xs:=W) (y:=((dg 4294967296 V)[i.toNat]?.getD 0)) (j:=0) (ks:=[(73,.val (Lit (.int .u32 ((dg 4294967296 V)[i.toNat]?.getD 0)))),(11,.val (Lit (.int .i64 j))),(10,.val (Lit (.int .i64 i))),(918,.val (Sz m18)),(8,.val (zh g17 m13 44 .u32 Q)),(913,.val (Sz m13)),(7,.val (Lit (.int .i64 ((dg 4294967296 U).length:Int)))),(1,.val (vk m13 U)),(0,.val (vk m13 V)),(6,.val (IsB false))]) (l':=[(9,.val (zh g29 m18 44 .u32 (List.set W 0 ((dg 4294967296 V)[i.toNat]?.getD 0)))),(73,.val (Lit (.int .u32 ((dg 4294967296 V)[i.toNat]?.getD 0)))),(11,.val (Lit (.int .i64 j))),(10,.val (Lit (.int .i64 i))),(918,.val (Sz m18)),(8,.val (zh g17 m13 44 .u32 Q)),(913,.val (Sz m13)),(7,.val (Lit (.int .i64 ((dg 4294967296 U).length:Int)))),(1,.val (vk m13 U)),(0,.val (vk m13 V)),(6,.val (IsB false))]) 1 3 [9] [0,2,4,5,6,7,8,9,10,11] H39 hm18 rfl Bf rfl (.tmp 0 rfl) rfl (by omega) rfl (.cons (jg) (.cons (jg) (.cons (jg) (.cons (Ce) (.cons (Kv hq8) (.cons (Ce) (.cons (jg) (.cons (Gj (hm12)) (.cons (Gj (hm12)) (.cons (jg) (.nil))))))))))) (by simp) rfl ?_
     clear H39 w39
     intro w40 H40
     refine qi ?_
     refine qg ?_
     refine wp_seq ?_
     have hE:=qn7 hsh0 ((dg 4294967296 V)[i.toNat]?.getD 0)
     have H41:=St.set1 H40 0 (D':=zh g29 m18 44 .u32 ((dg 4294967296 V)[i.toNat]?.getD 0 :: X)) rfl (fun v w B h=>by rw [←hE];exact h) (l':=[(9,.val (zh g29 m18 44 .u32 ((dg 4294967296 V)[i.toNat]?.getD 0 :: X))),(73,.val (Lit (.int .u32 ((dg 4294967296 V)[i.toNat]?.getD 0)))),(11,.val (Lit (.int .i64 j))),(10,.val (Lit (.int .i64 i))),(918,.val (Sz m18)),(8,.val (zh g17 m13 44 .u32 Q)),(913,.val (Sz m13)),(7,.val (Lit (.int .i64 ((dg 4294967296 U).length:Int)))),(1,.val (vk m13 U)),(0,.val (vk m13 V)),(6,.val (IsB false))]) rfl
     clear H40
     obtain ⟨z1,z2,z3,z4,z5,z6⟩:=Y3 hU0 hst _ rfl
     refine zf (dsts:=[some 75,some 76,some 77,some 12]) (refs:=[[.pre 0],[.pre 8],[.res 0,.res 1],[.res 2]]) (outs:=[.res 3,.pre 0,.pre 2,.pre 3,.pre 4,.pre 5,.pre 6,.pre 7,.pre 8,.pre 9,.pre 10]) (als:=[false,false,false,false]) (posts:=[.val (zh g29 m18 44 .u32 ((dg 4294967296 V)[i.toNat]?.getD 0 :: X)),.val (vk m13 U),.val (Lit (.int .u32 (val 4294967296 ((dg 4294967296 V)[i.toNat]?.getD 0 :: X) / U))),.val (Lit (.int .u32 (val 4294967296 ((dg 4294967296 V)[i.toNat]?.getD 0 :: X) / U)))])
      (out:=[(12,.val (Lit (.int .u32 (val 4294967296 ((dg 4294967296 V)[i.toNat]?.getD 0 :: X) / U)))),(9,.val (zh g29 m18 44 .u32 ((dg 4294967296 V)[i.toNat]?.getD 0 :: X))),(11,.val (Lit (.int .i64 j))),(10,.val (Lit (.int .i64 i))),(918,.val (Sz m18)),(8,.val (zh g17 m13 44 .u32 Q)),(913,.val (Sz m13)),(7,.val (Lit (.int .i64 ((dg 4294967296 U).length:Int)))),(1,.val (vk m13 U)),(0,.val (vk m13 V)),(6,.val (IsB false))]) (nb:=[]) H41 4 [] rfl (by kernel_rfl) rfl rfl ?_ ?_
     ·refine .cons (.plain rfl (qh (.tmp 0 rfl))) ?_
      refine .cons (.plain rfl (qh (.tmp 0 rfl))) ?_
      refine .cons (.plain rfl (zl ((qgg ((dg 4294967296 V)[i.toNat]?.getD 0 :: X) (dg 4294967296 U) z1 hdU (by simp;omega) (by omega) (fun e=>by rw [e] at hp;simp at hp) hp3 (by simp;omega) (by rw [hvU];exact z2)).weak (fun v w B h=>Gz (by rw [hvU]) h)) (.cons (.weak (.tmp 0 rfl) Gf) (.cons (.weak (.tmp 1 rfl) qfv) (.nil))))) ?_
      refine .cons (.plain rfl (qm (.tmp 0 rfl))) ?_
      exact .nil
     clear H41 a39 w40 B39
     intro a42 w42 B42 H42
     refine qi ?_
     refine qg ?_
     refine wp_seq ?_
     obtain ⟨d,hd⟩:∃d,d=val 4294967296 ((dg 4294967296 V)[i.toNat]?.getD 0 :: X) / U:=⟨_,rfl⟩
     have hdb:0≤d∧d<4294967296:=by rw [hd];exact ⟨z3,z4⟩
     have hdu:d*U≤val 4294967296 ((dg 4294967296 V)[i.toNat]?.getD 0 :: X):=by rw [hd];exact z5
     have H43:=St.set1 H42 0 (D':=Lit (.int .u32 d)) rfl (fun v w B h=>Gz hd.symm h) (l':=[(12,.val (Lit (.int .u32 d))),(9,.val (zh g29 m18 44 .u32 ((dg 4294967296 V)[i.toNat]?.getD 0 :: X))),(11,.val (Lit (.int .i64 j))),(10,.val (Lit (.int .i64 i))),(918,.val (Sz m18)),(8,.val (zh g17 m13 44 .u32 Q)),(913,.val (Sz m13)),(7,.val (Lit (.int .i64 ((dg 4294967296 U).length:Int)))),(1,.val (vk m13 U)),(0,.val (vk m13 V)),(6,.val (IsB false))]) rfl
     clear H42
     refine zf (dsts:=[some 78,some 79,some 80]) (refs:=[[.pre 1],[.pre 8],[.pre 0]]) (outs:=[.res 0,.res 1,.res 2,.pre 0,.pre 1,.pre 2,.pre 3,.pre 4,.pre 5,.pre 6,.pre 7,.pre 8,.pre 9,.pre 10]) (als:=[false,false,false]) (posts:=[.val (zh g29 m18 44 .u32 ((dg 4294967296 V)[i.toNat]?.getD 0 :: X)),.val (vk m13 U),.val (Lit (.int .u32 d))])
      (out:=[(78,.val (zh g29 m18 44 .u32 ((dg 4294967296 V)[i.toNat]?.getD 0 :: X))),(79,.val (vk m13 U)),(80,.val (Lit (.int .u32 d))),(12,.val (Lit (.int .u32 d))),(9,.val (zh g29 m18 44 .u32 ((dg 4294967296 V)[i.toNat]?.getD 0 :: X))),(11,.val (Lit (.int .i64 j))),(10,.val (Lit (.int .i64 i))),(918,.val (Sz m18)),(8,.val (zh g17 m13 44 .u32 Q)),(913,.val (Sz m13)),(7,.val (Lit (.int .i64 ((dg 4294967296 U).length:Int)))),(1,.val (vk m13 U)),(0,.val (vk m13 V)),(6,.val (IsB false))]) (nb:=[]) H43 3 [3] rfl (by kernel_rfl) rfl rfl ?_ ?_
     ·refine .cons (.plain rfl (qh (.tmp 0 rfl))) ?_
      refine .cons (.plain rfl (qh (.tmp 0 rfl))) ?_
      refine .cons (.plain rfl (qh (.tmp 0 rfl))) ?_
      exact .nil
     clear H43 a42 w42 B42
     intro a44 w44 B44 H44
     refine zi ?_
     refine qnz (xs:=((dg 4294967296 V)[i.toNat]?.getD 0 :: X)) (U:=U) (q:=d) (ks:=[(79,.val (vk m13 U)),(80,.val (Lit (.int .u32 d))),(12,.val (Lit (.int .u32 d))),(11,.val (Lit (.int .i64 j))),(10,.val (Lit (.int .i64 i))),(918,.val (Sz m18)),(8,.val (zh g17 m13 44 .u32 Q)),(913,.val (Sz m13)),(7,.val (Lit (.int .i64 ((dg 4294967296 U).length:Int)))),(1,.val (vk m13 U)),(0,.val (vk m13 V)),(6,.val (IsB false))]) [9,78] [1,2,3,5,6,7,8,9,10,11,12,13] H44 hm18 rfl rfl (.tmp 0 rfl) (.tmp 1 rfl) hm12 (.tmp 2 rfl) hdb z1 (by simp) (by simp;omega) (by simp;omega) hdu rfl (.cons (Gj (hm12)) (.cons (jg) (.cons (jg) (.cons (jg) (.cons (jg) (.cons (Ce) (.cons (Kv hq8) (.cons (Ce) (.cons (jg) (.cons (Gj (hm12)) (.cons (Gj (hm12)) (.cons (jg) (.nil))))))))))))) (by simp) rfl rfl rfl rfl ?_
     clear H44 a44 w44 B44
     intro a45 w45 B45 Y hYl hYd hYv H45
     replace H45:St 106 w0 B0 a45 w45 B45 [(9,.val (zh g29 m18 44 .u32 Y)),(78,.val (zh g29 m18 44 .u32 Y)),(79,.val (vk m13 U)),(80,.val (Lit (.int .u32 d))),(12,.val (Lit (.int .u32 d))),(11,.val (Lit (.int .i64 j))),(10,.val (Lit (.int .i64 i))),(918,.val (Sz m18)),(8,.val (zh g17 m13 44 .u32 Q)),(913,.val (Sz m13)),(7,.val (Lit (.int .i64 ((dg 4294967296 U).length:Int)))),(1,.val (vk m13 U)),(0,.val (vk m13 V)),(6,.val (IsB false))] []:=H45
     rw [List.length_cons] at hYl
     refine qi ?_
     refine qg ?_
     refine wp_seq ?_
     refine zf (dsts:=[some 82,some 83,some 84,some 85]) (refs:=[[.pre 8],[.pre 6],[.pre 4],[.res 0,.res 1]]) (outs:=[.res 2,.res 3,.pre 0,.pre 5,.pre 6,.pre 7,.pre 8,.pre 9,.pre 10,.pre 11,.pre 12,.pre 13]) (als:=[false,false,false,false]) (posts:=[.val (zh g17 m13 44 .u32 Q),.val (Lit (.int .i64 i)),.val (Lit (.int .u32 d)),.val (Nq g17 i.toNat)])
      (out:=[(84,.val (Lit (.int .u32 d))),(85,.val (Nq g17 i.toNat)),(9,.val (zh g29 m18 44 .u32 Y)),(11,.val (Lit (.int .i64 j))),(10,.val (Lit (.int .i64 i))),(918,.val (Sz m18)),(8,.val (zh g17 m13 44 .u32 Q)),(913,.val (Sz m13)),(7,.val (Lit (.int .i64 ((dg 4294967296 U).length:Int)))),(1,.val (vk m13 U)),(0,.val (vk m13 V)),(6,.val (IsB false))]) (nb:=[]) H45 4 [4] rfl (by kernel_rfl) rfl rfl ?_ ?_
     ·refine .cons (.plain rfl (qh (.tmp 0 rfl))) ?_
      refine .cons (.plain rfl (qh (.tmp 0 rfl))) ?_
      refine .cons (.plain rfl (qh (.tmp 0 rfl))) ?_
      refine .cons (.plain rfl (J4 (xs:=Q) i.toNat Tryz.underlying23 Bf (.tmp 0 rfl) (.tmp 1 rfl) (by omega) (by omega))) ?_
      exact .nil
     clear H45 a45 w45 B45
     intro a46 w46 B46 H46
     refine zi ?_
     refine Hg (xs:=Q) (y:=d) (j:=i.toNat) (ks:=[(84,.val (Lit (.int .u32 d))),(9,.val (zh g29 m18 44 .u32 Y)),(11,.val (Lit (.int .i64 j))),(10,.val (Lit (.int .i64 i))),(918,.val (Sz m18)),(913,.val (Sz m13)),(7,.val (Lit (.int .i64 ((dg 4294967296 U).length:Int)))),(1,.val (vk m13 U)),(0,.val (vk m13 V)),(6,.val (IsB false))]) (l':=[(8,.val (zh g17 m13 44 .u32 (List.set Q i.toNat d))),(84,.val (Lit (.int .u32 d))),(9,.val (zh g29 m18 44 .u32 Y)),(11,.val (Lit (.int .i64 j))),(10,.val (Lit (.int .i64 i))),(918,.val (Sz m18)),(913,.val (Sz m13)),(7,.val (Lit (.int .i64 ((dg 4294967296 U).length:Int)))),(1,.val (vk m13 U)),(0,.val (vk m13 V)),(6,.val (IsB false))]) 1 6 [8] [0,2,3,4,5,7,8,9,10,11] H46 hm13 rfl Bf rfl (.tmp 0 rfl) rfl (by omega) rfl (.cons (jg) (.cons (qg4 hq8) (.cons (jg) (.cons (jg) (.cons (Ce) (.cons (Ce) (.cons (jg) (.cons (Gj (Nat.le_refl _)) (.cons (Gj (Nat.le_refl _)) (.cons (jg) (.nil))))))))))) (by simp) rfl ?_
     clear H46 w46
     intro w47 H47
     refine qi ?_
     refine qg ?_
     refine wp_block ?_
     have hJ:qa5 V U i.toNat (List.set Q i.toNat d) Y:=qjp hU0 hst (by omega) _ rfl d hd hYl hYd hYv
     refine Gq (fun (Y2:List Int)=>[(8,.val (zh g17 m13 44 .u32 (List.set Q i.toNat d))),(9,.val (zh g29 m18 44 .u32 Y2)),(11,.val (Lit (.int .i64 j))),(10,.val (Lit (.int .i64 i))),(918,.val (Sz m18)),(913,.val (Sz m13)),(7,.val (Lit (.int .i64 ((dg 4294967296 U).length:Int)))),(1,.val (vk m13 U)),(0,.val (vk m13 V)),(6,.val (IsB false))]) (fun (Y2:List Int)=>qa5 V U i.toNat (List.set Q i.toNat d) Y2) (fun (Y2:List Int)=>List.length Y2) (Y) (St.pick H47 [0,2,3,4,5,6,7,8,9,10] rfl) (by exact hJ) ?_
     clear H47 a46 w47 B46
     rintro Y2 a48 w48 B48 hI48 H48
     replace hI48:qa5 V U i.toNat (List.set Q i.toNat d) Y2:=hI48
     replace H48:St 106 w0 B0 a48 w48 B48 [(8,.val (zh g17 m13 44 .u32 (List.set Q i.toNat d))),(9,.val (zh g29 m18 44 .u32 Y2)),(11,.val (Lit (.int .i64 j))),(10,.val (Lit (.int .i64 i))),(918,.val (Sz m18)),(913,.val (Sz m13)),(7,.val (Lit (.int .i64 ((dg 4294967296 U).length:Int)))),(1,.val (vk m13 U)),(0,.val (vk m13 V)),(6,.val (IsB false))] []:=H48
     have hJ2:=hI48
     have hYx:=hJ2.xl
     refine wp_seq ?_
     refine wp_seq ?_
     refine zf (dsts:=[some 86,some 87,some 88,some 89]) (refs:=[[.pre 1],[.res 0],[.pre 6],[.res 1,.res 2]]) (outs:=[.res 3,.pre 0,.pre 1,.pre 2,.pre 3,.pre 4,.pre 5,.pre 6,.pre 7,.pre 8,.pre 9]) (als:=[false,false,false,false]) (posts:=[.val (zh g29 m18 44 .u32 Y2),.val (Lit (.int .i64 (List.length Y2:Int))),.val (Lit (.int .i64 ((dg 4294967296 U).length:Int))),.val (IsB (decide (((dg 4294967296 U).length:Int)≤(List.length Y2:Int))))])
      (out:=[(89,.val (IsB (decide (((dg 4294967296 U).length:Int)≤(List.length Y2:Int))))),(8,.val (zh g17 m13 44 .u32 (List.set Q i.toNat d))),(9,.val (zh g29 m18 44 .u32 Y2)),(11,.val (Lit (.int .i64 j))),(10,.val (Lit (.int .i64 i))),(918,.val (Sz m18)),(913,.val (Sz m13)),(7,.val (Lit (.int .i64 ((dg 4294967296 U).length:Int)))),(1,.val (vk m13 U)),(0,.val (vk m13 V)),(6,.val (IsB false))]) (nb:=[]) H48 4 [] rfl (by kernel_rfl) rfl rfl ?_ ?_
     ·refine .cons (.plain rfl (qh (.tmp 0 rfl))) ?_
      refine .cons (.plain rfl (Eu Tryz.underlying23 (.weak (.tmp 0 rfl) Gf))) ?_
      refine .cons (.plain rfl (qh (.tmp 0 rfl))) ?_
      refine .cons (.plain rfl (jq (.tmp 0 rfl) (.tmp 1 rfl) rfl)) ?_
      exact .nil
     clear H48 a48 w48 B48
     intro a49 w49 B49 H49
     refine qi ?_
     refine qg ?_
     refine Aa H49 (.tmp 0 rfl) ?_ ?_
     ·intro hc50
      replace hc50:=of_decide_eq_true hc50
      refine wp_skip ?_
      refine qg ?_
      refine wp_block ?_
      refine wp_seq ?_
      refine wp_seq ?_
      refine zf (dsts:=[some 90,some 91,some 92,some 93,some 94,some 95,some 96]) (refs:=[[.pre 2],[.pre 2],[.res 1],[.res 2],[.res 0,.res 3],[.res 4],[.res 5]]) (outs:=[.res 6,.pre 1,.pre 2,.pre 3,.pre 4,.pre 5,.pre 6,.pre 7,.pre 8,.pre 9,.pre 10]) (als:=[false,false,false,false,false,false,false]) (posts:=[.val (zh g29 m18 44 .u32 Y2),.val (zh g29 m18 44 .u32 Y2),.val (Lit (.int .i64 (List.length Y2:Int))),.val (Lit (.int .i64 ((List.length Y2:Int)-1))),.val (Fh .u32 (Y2[List.length Y2-1]?.getD 0)),.val (Lit (.int .u32 (Y2[List.length Y2-1]?.getD 0))),.val (IsB (decide (Y2[List.length Y2-1]?.getD 0≠0)))])
       (out:=[(96,.val (IsB (decide (Y2[List.length Y2-1]?.getD 0≠0)))),(8,.val (zh g17 m13 44 .u32 (List.set Q i.toNat d))),(9,.val (zh g29 m18 44 .u32 Y2)),(11,.val (Lit (.int .i64 j))),(10,.val (Lit (.int .i64 i))),(918,.val (Sz m18)),(913,.val (Sz m13)),(7,.val (Lit (.int .i64 ((dg 4294967296 U).length:Int)))),(1,.val (vk m13 U)),(0,.val (vk m13 V)),(6,.val (IsB false))]) (nb:=[]) H49 7 [] rfl (by kernel_rfl) rfl rfl ?_ ?_
      ·refine .cons (.plain rfl (qh (.tmp 0 rfl))) ?_
       refine .cons (.plain rfl (qh (.tmp 0 rfl))) ?_
       refine .cons (.plain rfl (Eu Tryz.underlying23 (.weak (.tmp 0 rfl) Gf))) ?_
       refine .cons (.plain rfl (D6 (r:=((List.length Y2:Int)-1)) (.tmp 0 rfl) (.lit) (xh (by omega)))) ?_
       refine .cons (.plain rfl (Et (xs:=Y2) (List.length Y2-1) Tryz.underlying23 Bf (.weak (.tmp 0 rfl) Gf) (.tmp 1 rfl) (by omega) (by omega))) ?_
       refine .cons (.plain rfl (Ap Jd (.tmp 0 rfl))) ?_
       refine .cons (.plain rfl (jq (.tmp 0 rfl) (.lit) rfl)) ?_
       exact .nil
      clear H49 a49 w49 B49
      intro a51 w51 B51 H51
      refine qi ?_
      refine qg ?_
      refine Aa H51 (.tmp 0 rfl) ?_ ?_
      ·intro hc52
       replace hc52:=of_decide_eq_true hc52
       have hN:=qjn hU0 hJ2 (by omega) hc52
       refine wp_exit ?_
       refine jy ?_
       refine Qv (by decide) ?_
       refine jy ?_
       refine Am ?_
       refine kw ?_
       refine qg ?_
       refine zf (dsts:=[some 49,some 50]) (refs:=[[.pre 4],[.res 0]]) (outs:=[.res 1,.pre 1,.pre 2,.pre 3,.pre 4,.pre 5,.pre 6,.pre 7,.pre 8,.pre 9,.pre 10]) (als:=[false,false]) (posts:=[.val (Lit (.int .i64 i)),.val (Lit (.int .i64 (i-1)))])
        (out:=[(50,.val (Lit (.int .i64 (i-1)))),(8,.val (zh g17 m13 44 .u32 (List.set Q i.toNat d))),(9,.val (zh g29 m18 44 .u32 Y2)),(11,.val (Lit (.int .i64 j))),(10,.val (Lit (.int .i64 i))),(918,.val (Sz m18)),(913,.val (Sz m13)),(7,.val (Lit (.int .i64 ((dg 4294967296 U).length:Int)))),(1,.val (vk m13 U)),(0,.val (vk m13 V)),(6,.val (IsB false))]) (nb:=[]) H51 2 [2] rfl (by kernel_rfl) rfl rfl ?_ ?_
       ·refine .cons (.plain rfl (qh (.tmp 0 rfl))) ?_
        refine .cons (.plain rfl (D6 (r:=(i-1)) (.tmp 0 rfl) (.lit) (xh (by omega)))) ?_
        exact .nil
       clear H51 a51 w51 B51
       intro a53 w53 B53 H53
       refine zi ?_
       refine jm (D:=.val (Lit (.int .i64 (i-1)))) (l':=[(10,.val (Lit (.int .i64 (i-1)))),(50,.val (Lit (.int .i64 (i-1)))),(8,.val (zh g17 m13 44 .u32 (List.set Q i.toNat d))),(9,.val (zh g29 m18 44 .u32 Y2)),(11,.val (Lit (.int .i64 j))),(918,.val (Sz m18)),(913,.val (Sz m13)),(7,.val (Lit (.int .i64 ((dg 4294967296 U).length:Int)))),(1,.val (vk m13 U)),(0,.val (vk m13 V)),(6,.val (IsB false))]) H53 rfl rfl rfl (.plain rfl (qm (.tmp 0 rfl))) rfl rfl ?_
       clear H53 a53 w53 B53
       intro a54 w54 B54 H54
       refine qi ?_
       exact ⟨⟨g29,i-1,List.set Q i.toNat d,Y2⟩,B54,by exact ⟨by omega,by rw [show (i-1+1).toNat=i.toNat by omega];exact hN⟩,St.pick H54 [0,3,5,2,6,7,8,9,10] rfl,by show (i-1+1).toNat<(i+1).toNat;omega⟩
      ·intro hc52
       replace hc52:=of_decide_eq_false hc52
       refine wp_skip ?_
       refine qg ?_
       refine zf (dsts:=[some 97,some 98,some 99,some 100,some 101]) (refs:=[[.pre 2],[.pre 2],[.res 1],[.res 2],[.res 0,.res 3]]) (outs:=[.res 4,.pre 1,.pre 2,.pre 3,.pre 4,.pre 5,.pre 6,.pre 7,.pre 8,.pre 9,.pre 10]) (als:=[false,false,false,false,false]) (posts:=[.val (zh g29 m18 44 .u32 Y2),.val (zh g29 m18 44 .u32 Y2),.val (Lit (.int .i64 (List.length Y2:Int))),.val (Lit (.int .i64 ((List.length Y2:Int)-1))),.val (zh g29 m18 44 .u32 (List.take (List.length Y2-1) Y2))])
        (out:=[(101,.val (zh g29 m18 44 .u32 (List.take (List.length Y2-1) Y2))),(8,.val (zh g17 m13 44 .u32 (List.set Q i.toNat d))),(9,.val (zh g29 m18 44 .u32 Y2)),(11,.val (Lit (.int .i64 j))),(10,.val (Lit (.int .i64 i))),(918,.val (Sz m18)),(913,.val (Sz m13)),(7,.val (Lit (.int .i64 ((dg 4294967296 U).length:Int)))),(1,.val (vk m13 U)),(0,.val (vk m13 V)),(6,.val (IsB false))]) (nb:=[]) H51 5 [5] rfl (by kernel_rfl) rfl rfl ?_ ?_
       ·refine .cons (.plain rfl (qh (.tmp 0 rfl))) ?_
        refine .cons (.plain rfl (qh (.tmp 0 rfl))) ?_
        refine .cons (.plain rfl (Eu Tryz.underlying23 (.weak (.tmp 0 rfl) Gf))) ?_
        refine .cons (.plain rfl (D6 (r:=((List.length Y2:Int)-1)) (.tmp 0 rfl) (.lit) (xh (by omega)))) ?_
        refine .cons (.plain rfl (qml (List.length Y2-1) Tryz.underlying23 Bf (.tmp 0 rfl) (.tmp 1 rfl) (by omega) (by omega))) ?_
        exact .nil
       clear H51 a51 w51 B51
       intro a55 w55 B55 H55
       refine zi ?_
       refine jm (D:=.val (zh g29 m18 44 .u32 (List.take (List.length Y2-1) Y2))) (l':=[(9,.val (zh g29 m18 44 .u32 (List.take (List.length Y2-1) Y2))),(101,.val (zh g29 m18 44 .u32 (List.take (List.length Y2-1) Y2))),(8,.val (zh g17 m13 44 .u32 (List.set Q i.toNat d))),(11,.val (Lit (.int .i64 j))),(10,.val (Lit (.int .i64 i))),(918,.val (Sz m18)),(913,.val (Sz m13)),(7,.val (Lit (.int .i64 ((dg 4294967296 U).length:Int)))),(1,.val (vk m13 U)),(0,.val (vk m13 V)),(6,.val (IsB false))]) H55 rfl rfl rfl (.plain rfl (qm (.tmp 0 rfl))) rfl rfl ?_
       clear H55 a55 w55 B55
       intro a56 w56 B56 H56
       refine qi ?_
       refine kw ?_
       exact ⟨List.take (List.length Y2-1) Y2,B56,by exact qjq hJ2 (by omega) (by omega) (by omega),St.pick H56 [2,0,3,4,5,6,7,8,9,10] rfl,by show (List.take _ _).length<List.length Y2;rw [List.length_take];omega⟩
     ·intro hc50
      replace hc50:=of_decide_eq_false hc50
      have hN:=qgp hJ2 (by omega)
      refine wp_exit ?_
      refine jy ?_
      refine jy ?_
      refine Am ?_
      refine kw ?_
      refine qg ?_
      refine zf (dsts:=[some 49,some 50]) (refs:=[[.pre 4],[.res 0]]) (outs:=[.res 1,.pre 1,.pre 2,.pre 3,.pre 4,.pre 5,.pre 6,.pre 7,.pre 8,.pre 9,.pre 10]) (als:=[false,false]) (posts:=[.val (Lit (.int .i64 i)),.val (Lit (.int .i64 (i-1)))])
       (out:=[(50,.val (Lit (.int .i64 (i-1)))),(8,.val (zh g17 m13 44 .u32 (List.set Q i.toNat d))),(9,.val (zh g29 m18 44 .u32 Y2)),(11,.val (Lit (.int .i64 j))),(10,.val (Lit (.int .i64 i))),(918,.val (Sz m18)),(913,.val (Sz m13)),(7,.val (Lit (.int .i64 ((dg 4294967296 U).length:Int)))),(1,.val (vk m13 U)),(0,.val (vk m13 V)),(6,.val (IsB false))]) (nb:=[]) H49 2 [2] rfl (by kernel_rfl) rfl rfl ?_ ?_
      ·refine .cons (.plain rfl (qh (.tmp 0 rfl))) ?_
       refine .cons (.plain rfl (D6 (r:=(i-1)) (.tmp 0 rfl) (.lit) (xh (by omega)))) ?_
       exact .nil
      clear H49 a49 w49 B49
      intro a57 w57 B57 H57
      refine zi ?_
      refine jm (D:=.val (Lit (.int .i64 (i-1)))) (l':=[(10,.val (Lit (.int .i64 (i-1)))),(50,.val (Lit (.int .i64 (i-1)))),(8,.val (zh g17 m13 44 .u32 (List.set Q i.toNat d))),(9,.val (zh g29 m18 44 .u32 Y2)),(11,.val (Lit (.int .i64 j))),(918,.val (Sz m18)),(913,.val (Sz m13)),(7,.val (Lit (.int .i64 ((dg 4294967296 U).length:Int)))),(1,.val (vk m13 U)),(0,.val (vk m13 V)),(6,.val (IsB false))]) H57 rfl rfl rfl (.plain rfl (qm (.tmp 0 rfl))) rfl rfl ?_
      clear H57 a57 w57 B57
      intro a58 w58 B58 H58
      refine qi ?_
      exact ⟨⟨g29,i-1,List.set Q i.toNat d,Y2⟩,B58,by exact ⟨by omega,by rw [show (i-1+1).toNat=i.toNat by omega];exact hN⟩,St.pick H58 [0,3,5,2,6,7,8,9,10] rfl,by show (i-1+1).toNat<(i+1).toNat;omega⟩
   ·intro hc27
    replace hc27:=of_decide_eq_false hc27
    have hD:Zp V U 0 Q X:=by have:=hst;rw [show (i+1).toNat=0 by omega] at this;exact this
    obtain ⟨hq,hr⟩:=qjm hV hU0 hD
    have e1:V / U=V / U:=rfl
    have e2:V % U=if U=0 then 0 else V % U:=(if_neg (by omega)).symm
    refine wp_exit ?_
    refine jy ?_
    refine jy ?_
    refine Am ?_
    refine qg ?_
    refine wp_seq ?_
    refine zf (dsts:=[some 102,some 103,some 104,some 105,some 4,some 5,some 6]) (refs:=[[.pre 4],[.res 0],[.pre 2],[.res 2],[.res 1],[.res 3],[]]) (outs:=[.res 4,.res 5,.res 6,.pre 1,.pre 2,.pre 3,.pre 4,.pre 5,.pre 6,.pre 7,.pre 8]) (als:=[false,false,false,false,false,false,false]) (posts:=[.val (zh g17 m13 44 .u32 Q),.val (IsC (V / U)),.val (zh gr m18 44 .u32 X),.val (IsC (V % U)),.val (IsC (V / U)),.val (IsC (V % U)),.val (IsB true)])
     (out:=[(4,.val (IsC (V / U))),(5,.val (IsC (V % U))),(6,.val (IsB true)),(10,.val (Lit (.int .i64 i))),(9,.val (zh gr m18 44 .u32 X)),(918,.val (Sz m18)),(8,.val (zh g17 m13 44 .u32 Q)),(913,.val (Sz m13)),(7,.val (Lit (.int .i64 ((dg 4294967296 U).length:Int)))),(1,.val (vk m13 U)),(0,.val (vk m13 V))]) (nb:=[]) H26 7 [] rfl (by kernel_rfl) rfl rfl ?_ ?_
    ·refine .cons (.plain rfl (qh (.tmp 0 rfl))) ?_
     refine .cons (.plain rfl (zl (Oh (V / U)) (.cons (.weak (.tmp 0 rfl) (Lc hD.qd hq (by have:=hD.ql;omega))) (.nil)))) ?_
     refine .cons (.plain rfl (qh (.tmp 0 rfl))) ?_
     refine .cons (.plain rfl (zl (Oh (V % U)) (.cons (.weak (.tmp 0 rfl) (Lc hD.xd hr (by have:=hD.xl;omega))) (.nil)))) ?_
     refine .cons (.plain rfl (qm (.tmp 0 rfl))) ?_
     refine .cons (.plain rfl (qm (.tmp 0 rfl))) ?_
     refine .cons (.plain rfl (qm (.lit))) ?_
     exact .nil
    clear H26 a26 w26 B26
    intro a59 w59 B59 H59
    refine qi ?_
    refine qg ?_
    refine wp_ret ?_
    exact Dj H59 rfl rfl (.tmp 0 rfl (fun _ _ _ h=>h) (.tmp 1 rfl (fun v w B h=>by exact Vo e2 h) (.tmp 2 rfl (fun v w B h=>by exact Dl e3 h) (.nil))))
end Go.Proofs.YtbcbmkeeoognpaaGreatDoor
