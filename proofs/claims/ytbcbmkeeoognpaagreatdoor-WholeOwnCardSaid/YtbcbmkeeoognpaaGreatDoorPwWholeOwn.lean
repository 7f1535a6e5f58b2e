/- The law WholeOwn: its walk. -/
import Derived.Test.YtbcbmkeeoognpaaGreatDoorPk1
import Derived.Test.YtbcbmkeeoognpaaGreatDoorPk30
import Derived.Test.YtbcbmkeeoognpaaGreatDoorPk31
import Derived.Test.YtbcbmkeeoognpaaGreatDoorPk32
set_option linter.unusedVariables false
set_option linter.unusedSimpArgs false
namespace Go.Proofs.YtbcbmkeeoognpaaGreatDoor
open Go Go.RowKit
set_option maxRecDepth 20000 in
set_option maxHeartbeats 16000000 in
theorem Z8 (ngx ngy ngu ngv:Bool) (nx ny nu nv:Nat) (xx xy xu xv:List Int) (n:Int) (s:ByteArray) (yx:nx*4≤140737488351232) (yy:ny*4≤140737488351232) (yu:nu*4≤140737488351232) (yv:nv*4≤140737488351232) (hn : -9223372036854775808≤n∧n<9223372036854775808) (hs:s.size≤140737488351232):Oz Tryz.prog 10 [jw ngx ngy ngu ngv nx ny nu nv xx xy xu xv n s] (fun _=>IsB true):=by
 refine Qe (N:=218) Tryz.ntmps10 (fun _ _=>by go_simp) Tryz.func10 rfl (by simp) ?_
 intro lo a0 w0 B0 H0
 replace H0:St 218 w0 B0 a0 w0 B0 [(0,.val (jw ngx ngy ngu ngv nx ny nu nv xx xy xu xv n s)),(218,zs lo)] []:=H0
 obtain ⟨⟨fx0,fy0,fu0,fv0⟩,⟨lx,ly,lu,lv⟩,dx,dy⟩:=qnp.fits (H0.fc.get 0 rfl)
 obtain ⟨X,hX⟩:∃X,sI ngx (val 4294967296 xx)=X:=⟨_,rfl⟩
 obtain ⟨Y,hY⟩:∃X,sI ngy (val 4294967296 xy)=X:=⟨_,rfl⟩
 obtain ⟨U,hU⟩:∃X,sI ngu (val 4294967296 xu)=X:=⟨_,rfl⟩
 obtain ⟨V,hV⟩:∃X,sI ngv (val 4294967296 xv)=X:=⟨_,rfl⟩
 refine wp_seq ?_
 refine fr (refs:=[[.pre 0],[]]) (outs:=[.res 0,.res 1,.pre 1]) (als:=[true,false]) (posts:=[.box 71 10 (jw ngx ngy ngu ngv nx ny nu nv xx xy xu xv n s),bv false])
  (out:=[(1,.box 71 10 (jw ngx ngy ngu ngv nx ny nu nv xx xy xu xv n s)),(2,bv false),(218,zs lo)]) (nb:=[1]) H0 2 [] rfl (by kernel_rfl) rfl rfl ?_ ?_
 ·refine cp (Bq (.tmp 0 rfl) qmz) ?_
  refine cp (qm (.lit)) ?_
  exact .nil
 clear H0
 intro a1 w1 B1 H1
 simp only [List.cons_append,List.nil_append] at H1
 refine qi ?_
 refine qg ?_
 refine wp_seq ?_
 refine wp_seq ?_
 refine fr (refs:=[[.pre 0],[.res 0],[.pre 0],[.res 2],[.pre 0],[.res 4],[.pre 0],[.res 6],[.res 1,.res 3,.res 5,.res 7],[.res 8]]) (outs:=[.res 9]++pr 0 3) (als:=fs 10) (posts:=[.ptr 71 10 (jw ngx ngy ngu ngv nx ny nu nv xx xy xu xv n s) 0,.val (E8 ngx nx xx),.ptr 71 10 (jw ngx ngy ngu ngv nx ny nu nv xx xy xu xv n s) 2,.val (E8 ngy ny xy),.ptr 71 10 (jw ngx ngy ngu ngv nx ny nu nv xx xy xu xv n s) 4,.val (E8 ngu nu xu),.ptr 71 10 (jw ngx ngy ngu ngv nx ny nu nv xx xy xu xv n s) 6,.val (E8 ngv nv xv),.val (Zr [nx,ny,nu,nv]),.val (qic True (∀j:Nat,[nx,ny,nu,nv][j]?.getD 0≤1048576))])
  (out:=[(24,.val (qic True (∀j:Nat,[nx,ny,nu,nv][j]?.getD 0≤1048576))),(1,.box 71 10 (jw ngx ngy ngu ngv nx ny nu nv xx xy xu xv n s)),(2,bv false),(218,zs lo)]) (nb:=[]) H1 10 [] rfl (by kernel_rfl) rfl rfl ?_ ?_
 ·refine cp (Js (.tmp 0 rfl)) ?_
  refine cp (Na (.tmp 0 rfl)) ?_
  refine cp (Jt (.tmp 0 rfl)) ?_
  refine cp (Nb (.tmp 0 rfl)) ?_
  refine cp (Md (.tmp 0 rfl)) ?_
  refine cp (Pm (.tmp 0 rfl)) ?_
  refine cp (Me (.tmp 0 rfl)) ?_
  refine cp (Pn (.tmp 0 rfl)) ?_
  refine cp (qks (.tmp 0 rfl) (.tmp 1 rfl) (.tmp 2 rfl) (.tmp 3 rfl)) ?_
  refine cp (zl (qbm [nx,ny,nu,nv] (by simp) (fun j=>by rcases j with _ | _ | _ | _ | _ <;> simp <;> omega)) (.cons (.tmp 0 rfl) (.nil))) ?_
  exact .nil
 clear H1 a1 w1 B1
 intro a2 w2 B2 H2
 refine qi ?_
 refine qg ?_
 refine ql4 H2 (.tmp 0 rfl) ?_ ?_
 ·intro hc3
  refine wp_seq ?_
  refine fr (refs:=[[]]) (outs:=[.res 0,.pre 1,.pre 3]) (als:=[false]) (posts:=[bv true])
   (out:=[(2,bv true),(1,.box 71 10 (jw ngx ngy ngu ngv nx ny nu nv xx xy xu xv n s)),(218,zs lo)]) (nb:=[]) H2 1 [] rfl (by kernel_rfl) rfl rfl ?_ ?_
  ·refine cp (qm (.lit)) ?_
   exact .nil
  clear H2 a2 w2 B2
  intro a4 w4 B4 H4
  refine qi ?_
  refine qg ?_
  refine wp_ret ?_
  refine yh ?_
  exact Rz H4 rfl 0 rfl (fun _ _ _ h=>h)
 ·intro hc3
  have bdx:nx≤1048576:=hc3 0
  have bdy:ny≤1048576:=hc3 1
  have bdu:nu≤1048576:=hc3 2
  have bdv:nv≤1048576:=hc3 3
  clear hc3
  refine wp_skip ?_
  refine qg ?_
  refine wp_seq ?_
  refine wp_seq ?_
  refine fr (refs:=[[.pre 1],[.res 0],[.res 1],[.res 2],[.pre 1],[.res 4],[.res 5],[.res 6],[.res 3,.res 7],[.pre 1],[.res 9],[.res 10],[.res 11],[.res 8,.res 12],[.pre 1],[.res 14],[.res 15],[.res 16],[.res 13,.res 17],[.pre 1],[.res 19],[.res 20],[.res 18,.res 21],[.res 22]]) (outs:=[.res 23]++pr 1 3) (als:=fs 24) (posts:=[.ptr 71 10 (jw ngx ngy ngu ngv nx ny nu nv xx xy xu xv n s) 0,.ptr 71 10 (jw ngx ngy ngu ngv nx ny nu nv xx xy xu xv n s) 1,.val (Zt nx),i6 (nx:Int),.ptr 71 10 (jw ngx ngy ngu ngv nx ny nu nv xx xy xu xv n s) 2,.ptr 71 10 (jw ngx ngy ngu ngv nx ny nu nv xx xy xu xv n s) 3,.val (Zt ny),i6 (ny:Int),i6 ((nx:Int)+(ny:Int)),.ptr 71 10 (jw ngx ngy ngu ngv nx ny nu nv xx xy xu xv n s) 4,.ptr 71 10 (jw ngx ngy ngu ngv nx ny nu nv xx xy xu xv n s) 5,.val (Zt nu),i6 (nu:Int),i6 (((nx:Int)+(ny:Int))+(nu:Int)),.ptr 71 10 (jw ngx ngy ngu ngv nx ny nu nv xx xy xu xv n s) 6,.ptr 71 10 (jw ngx ngy ngu ngv nx ny nu nv xx xy xu xv n s) 7,.val (Zt nv),i6 (nv:Int),i6 ((((nx:Int)+(ny:Int))+(nu:Int))+(nv:Int)),.ptr 71 10 (jw ngx ngy ngu ngv nx ny nu nv xx xy xu xv n s) 9,.val (Lit (.string s)),i6 ((s).size:Int),i6 (((((nx:Int)+(ny:Int))+(nu:Int))+(nv:Int))+((s).size:Int)),bv (decide (1024<((((nx:Int)+(ny:Int))+(nu:Int))+(nv:Int))+((s).size:Int)))])
   (out:=[(48,bv (decide (1024<((((nx:Int)+(ny:Int))+(nu:Int))+(nv:Int))+((s).size:Int)))),(1,.box 71 10 (jw ngx ngy ngu ngv nx ny nu nv xx xy xu xv n s)),(2,bv false),(218,zs lo)]) (nb:=[]) H2 24 [] rfl (by kernel_rfl) rfl rfl ?_ ?_
  ·refine cp (Js (.tmp 0 rfl)) ?_
   refine cp (qhg (.tmp 0 rfl)) ?_
   refine cp (qeb (.tmp 0 rfl)) ?_
   refine cp (Ql (.tmp 0 rfl)) ?_
   refine cp (Jt (.tmp 0 rfl)) ?_
   refine cp (qhh (.tmp 0 rfl)) ?_
   refine cp (qec (.tmp 0 rfl)) ?_
   refine cp (Ql (.tmp 0 rfl)) ?_
   refine cp (Aq (r:=((nx:Int)+(ny:Int))) (.tmp 0 rfl) (.tmp 1 rfl) (xh (by omega))) ?_
   refine cp (Md (.tmp 0 rfl)) ?_
   refine cp (qhi (.tmp 0 rfl)) ?_
   refine cp (qed (.tmp 0 rfl)) ?_
   refine cp (Ql (.tmp 0 rfl)) ?_
   refine cp (Aq (r:=(((nx:Int)+(ny:Int))+(nu:Int))) (.tmp 0 rfl) (.tmp 1 rfl) (xh (by omega))) ?_
   refine cp (Me (.tmp 0 rfl)) ?_
   refine cp (qhj (.tmp 0 rfl)) ?_
   refine cp (qee (.tmp 0 rfl)) ?_
   refine cp (Ql (.tmp 0 rfl)) ?_
   refine cp (Aq (r:=((((nx:Int)+(ny:Int))+(nu:Int))+(nv:Int))) (.tmp 0 rfl) (.tmp 1 rfl) (xh (by omega))) ?_
   refine cp (G9 (.tmp 0 rfl)) ?_
   refine cp (Ju (.tmp 0 rfl)) ?_
   refine cp (Cm Tryz.underlying9 (.tmp 0 rfl)) ?_
   refine cp (Aq (r:=(((((nx:Int)+(ny:Int))+(nu:Int))+(nv:Int))+((s).size:Int))) (.tmp 0 rfl) (.tmp 1 rfl) (xh (by omega))) ?_
   refine cp (jq (.tmp 0 rfl) (.lit) rfl) ?_
   exact .nil
  clear H2 a2 w2 B2
  intro a5 w5 B5 H5
  refine qi ?_
  refine qg ?_
  refine Aa H5 (.tmp 0 rfl) ?_ ?_
  ·intro hc6
   replace hc6:=of_decide_eq_true hc6
   refine wp_seq ?_
   refine fr (refs:=[[],[.res 0]]) (outs:=[.res 1,.pre 1,.pre 3]) (als:=fs 2) (posts:=[bv true,bv true])
    (out:=[(2,bv true),(1,.box 71 10 (jw ngx ngy ngu ngv nx ny nu nv xx xy xu xv n s)),(218,zs lo)]) (nb:=[]) H5 2 [] rfl (by kernel_rfl) rfl rfl ?_ ?_
   ·refine cp (zl (U5) (.nil)) ?_
    refine cp (qm (.tmp 0 rfl)) ?_
    exact .nil
   clear H5 a5 w5 B5
   intro a7 w7 B7 H7
   refine qi ?_
   refine qg ?_
   refine wp_ret ?_
   refine yh ?_
   exact Rz H7 rfl 0 rfl (fun _ _ _ h=>h)
  ·intro hc6
   replace hc6:=of_decide_eq_false hc6
   have fX:yz 1024 X:=yz.mono (k:=nx) (hX ▸ fx0) (by omega)
   have fY:yz 1024 Y:=yz.mono (k:=ny) (hY ▸ fy0) (by omega)
   have fU:yz 1024 U:=yz.mono (k:=nu) (hU ▸ fu0) (by omega)
   have fV:yz 1024 V:=yz.mono (k:=nv) (hV ▸ fv0) (by omega)
   refine wp_skip ?_
   refine qg ?_
   refine wp_seq ?_
   have hz8:lo≤w5.heap.size:=H5.fc.get 3 rfl
   obtain ⟨m9,hm9,hw9,hL9,H9⟩:=St.mark H5 909
   clear H5
   clear hL9
   replace hz8:lo≤m9:=Nat.le_trans hz8 hw9
   clear hw9
   refine Vk (d6:=52) (dc:=55) (dsts:=[some 50,some 51,some 52,some 53,some 54,some 55,some 3,some 4]) (refs:=[[.pre 2],[.res 0],[.res 1,.pre 0],[.pre 2],[.res 3],[.res 4,.pre 0],[],[]]) (outs:=[.res 2,.res 5,.res 6,.res 7,.pre 0]++pr 2 3) (als:=[false,false,false,false,false,false,true,true]) (posts:=[.ptr 71 10 (jw ngx ngy ngu ngv nx ny nu nv xx xy xu xv n s) 0,.val (E8 ngx nx xx),.val (P5 m9 ngx nx xx),.ptr 71 10 (jw ngx ngy ngu ngv nx ny nu nv xx xy xu xv n s) 2,.val (E8 ngy ny xy),.val (P5 m9 ngy ny xy),.box 52 2 (qp),.box 52 2 (qp)])
    (out:=[(52,.val (P5 m9 ngx nx xx)),(55,.val (P5 m9 ngy ny xy)),(3,.box 52 2 (qp)),(4,.box 52 2 (qp)),(909,zs m9),(1,.box 71 10 (jw ngx ngy ngu ngv nx ny nu nv xx xy xu xv n s)),(2,bv false),(218,zs lo)]) (nb:=[3,4]) H9 (by kernel_rfl) 8 5 2 2 #[true,true,true,true,true,true,true,true,false,false] (by kernel_rfl) (by kernel_rfl) rfl rfl ?_ (by kernel_rfl) ?_ (fun u w B h=>qj2 u w B h) ?_
   ·refine cp (Js (.tmp 0 rfl)) ?_
    refine cp (Na (.tmp 0 rfl)) ?_
    refine cp (y9 1 (Hq ngx nx xx (by omega)) rfl (.cons (.tmp 0 rfl) (.nil))) ?_
    refine cp (Jt (.tmp 0 rfl)) ?_
    refine cp (Nb (.tmp 0 rfl)) ?_
    refine cp (y9 1 (Hq ngy ny xy (by omega)) rfl (.cons (.tmp 0 rfl) (.nil))) ?_
    refine cp (yw (D:=qp) Dq rfl (fun _ _=>rfl)) ?_
    refine cp (yw (D:=qp) Dq rfl (fun _ _=>rfl)) ?_
    exact .nil
   ·intro o ho
    obtain rfl:=Option.some.inj ho
    exact Xm 1 (Hq ngy ny xy (by omega)) rfl (.cons (.tmp 0 rfl) (.nil)) (fun lo v w B h=>qoo lo v w B h) (fun lo lo2 v w B hl h=>ql9 lo lo2 v w B hl h)
   clear H9 a5 w5 B5
   intro a10 w10 B10 H10 G10
   simp only [List.cons_append,List.nil_append] at H10
   obtain ⟨g11,k11,hg11,hk11,hn11,H11⟩:=St.nameGT H10 0 1 rfl rfl G10 (l':=fun g11 k11=>[(52,.val (jc g11 ngx nx xx)),(55,.val (jc k11 ngy ny xy)),(3,.box 52 2 (qp)),(4,.box 52 2 (qp)),(909,zs m9),(1,.box 71 10 (jw ngx ngy ngu ngv nx ny nu nv xx xy xu xv n s)),(2,bv false),(218,zs lo)]) (fun _ _=>rfl)
   clear H10 G10
   replace H11:St 218 w0 B0 a10 w10 B10 [(52,.val (jc g11 ngx nx xx)),(55,.val (jc k11 ngy ny xy)),(3,.box 52 2 (qp)),(4,.box 52 2 (qp)),(909,zs m9),(1,.box 71 10 (jw ngx ngy ngu ngv nx ny nu nv xx xy xu xv n s)),(2,bv false),(218,zs lo)] [3,4,1]:=H11
   have hz12:m9≤w10.heap.size:=H11.fc.get 4 rfl
   obtain ⟨m13,hm13,hw13,hL13,H13⟩:=St.mark H11 913
   clear H11
   clear hL13
   replace hz12:m9≤m13:=Nat.le_trans hz12 hw13
   replace hg11:∀b,g11=some b→m9≤b∧b<m13:=fun b hb=>⟨(hg11 b hb).1,Nat.lt_of_lt_of_le (hg11 b hb).2 hw13⟩
   replace hk11:∀b,k11=some b→m9≤b∧b<m13:=fun b hb=>⟨(hk11 b hb).1,Nat.lt_of_lt_of_le (hk11 b hb).2 hw13⟩
   clear hw13
   refine Az (l':=#[true,true,true,true,true,true,true,true,true,false]) 8 (by kernel_rfl) ?_
   refine ja (l':=[(913,zs m13),(52,.val (jc g11 ngx nx xx)),(55,.val (jc k11 ngy ny xy)),(3,.box 52 2 (jc g11 ngx nx xx)),(4,.box 52 2 (qp)),(909,zs m9),(1,.box 71 10 (jw ngx ngy ngu ngv nx ny nu nv xx xy xu xv n s)),(2,bv false),(218,zs lo)]) 3 H13 rfl tyI rfl (.tmp 1 rfl) jl qcs rfl rfl ?_
   clear H13 w10
   intro w14 H14
   refine Az (l':=#[true,true,true,true,true,true,true,true,true,true]) 9 (by kernel_rfl) ?_
   refine ja (l':=[(913,zs m13),(52,.val (jc g11 ngx nx xx)),(55,.val (jc k11 ngy ny xy)),(3,.box 52 2 (jc g11 ngx nx xx)),(4,.box 52 2 (jc k11 ngy ny xy)),(909,zs m9),(1,.box 71 10 (jw ngx ngy ngu ngv nx ny nu nv xx xy xu xv n s)),(2,bv false),(218,zs lo)]) 4 H14 rfl tyI rfl (.tmp 2 rfl) jl qcs rfl rfl ?_
   clear H14 w14
   intro w15 H15
   refine Bh (by kernel_rfl) ?_
   refine qg ?_
   refine wp_seq ?_
   refine fr (refs:=[[.pre 6],[.res 0],[.pre 6],[.res 2],[.pre 6],[.res 4],[.pre 6],[.res 6],[.res 1,.res 3,.res 5,.res 7,.pre 0],[]]) (outs:=[.res 8,.res 9,.pre 0]++pr 3 6) (als:=[false,false,false,false,false,false,false,false,false,true]) (posts:=[.ptr 71 10 (jw ngx ngy ngu ngv nx ny nu nv xx xy xu xv n s) 0,.val (E8 ngx nx xx),.ptr 71 10 (jw ngx ngy ngu ngv nx ny nu nv xx xy xu xv n s) 2,.val (E8 ngy ny xy),.ptr 71 10 (jw ngx ngy ngu ngv nx ny nu nv xx xy xu xv n s) 8,i6 n,.ptr 71 10 (jw ngx ngy ngu ngv nx ny nu nv xx xy xu xv n s) 9,.val (Lit (.string s)),.val (xq m13 (qy X Y n s)),.box 76 20 (jb (lst []))])
    (out:=[(64,.val (xq m13 (qy X Y n s))),(5,.box 76 20 (jb (lst []))),(913,zs m13),(3,.box 52 2 (jc g11 ngx nx xx)),(4,.box 52 2 (jc k11 ngy ny xy)),(909,zs m9),(1,.box 71 10 (jw ngx ngy ngu ngv nx ny nu nv xx xy xu xv n s)),(2,bv false),(218,zs lo)]) (nb:=[5]) H15 10 [10] rfl (by kernel_rfl) rfl rfl ?_ ?_
   ·refine cp (Js (.tmp 0 rfl)) ?_
    refine cp (Na (.tmp 0 rfl)) ?_
    refine cp (Jt (.tmp 0 rfl)) ?_
    refine cp (Nb (.tmp 0 rfl)) ?_
    refine cp (Ik (.tmp 0 rfl)) ?_
    refine cp (Nc (.tmp 0 rfl)) ?_
    refine cp (G9 (.tmp 0 rfl)) ?_
    refine cp (Ju (.tmp 0 rfl)) ?_
    refine cp (y9 4 (N7 X Y n s fX fY hn (by omega)) rfl (.cons (.weak (.tmp 0 rfl) (qa3 (by omega) hX)) (.cons (.weak (.tmp 1 rfl) (qa3 (by omega) hY)) (.cons (.tmp 2 rfl) (.cons (.tmp 3 rfl) (.nil)))))) ?_
    refine cp (Dx) ?_
    exact .nil
   clear H15 a10 w15 B10
   intro a16 w16 B16 H16
   simp only [List.cons_append,List.nil_append] at H16
   refine zi ?_
   refine ja (l':=[(64,.val (xq m13 (qy X Y n s))),(5,.box 76 20 (xq m13 (qy X Y n s))),(913,zs m13),(3,.box 52 2 (jc g11 ngx nx xx)),(4,.box 52 2 (jc k11 ngy ny xy)),(909,zs m9),(1,.box 71 10 (jw ngx ngy ngu ngv nx ny nu nv xx xy xu xv n s)),(2,bv false),(218,zs lo)]) 1 H16 rfl Dz rfl (.tmp 0 rfl) Bj Bj rfl rfl ?_
   clear H16 w16
   intro w17 H17
   refine qi ?_
   refine qg ?_
   refine wp_seq ?_
   refine Vk (d6:=71) (dc:=78) (dsts:=[some 65,some 66,some 67,some 68,some 69,some 70,some 71,some 72,some 73,some 74,some 75,some 76,some 77,some 78,some 6,some 7]) (refs:=[[.pre 3],[.pre 4],[.pre 6],[.res 2],[.pre 6],[.res 4],[.res 0,.res 1,.res 3,.res 5,.pre 2],[.pre 3],[.pre 4],[.pre 6],[.res 9],[.pre 6],[.res 11],[.res 7,.res 8,.res 10,.res 12,.pre 2],[],[]]) (outs:=[.res 6,.res 13,.res 14,.res 15]++pr 1 8) (als:=[false,false,false,false,false,false,false,false,false,false,false,false,false,false,true,true]) (posts:=[.val (jc g11 ngx nx xx),.val (jc k11 ngy ny xy),.ptr 71 10 (jw ngx ngy ngu ngv nx ny nu nv xx xy xu xv n s) 8,i6 n,.ptr 71 10 (jw ngx ngy ngu ngv nx ny nu nv xx xy xu xv n s) 9,.val (Lit (.string s)),.val (Gt m13 (qy X Y n s)),.val (jc g11 ngx nx xx),.val (jc k11 ngy ny xy),.ptr 71 10 (jw ngx ngy ngu ngv nx ny nu nv xx xy xu xv n s) 8,i6 n,.ptr 71 10 (jw ngx ngy ngu ngv nx ny nu nv xx xy xu xv n s) 9,.val (Lit (.string s)),.val (Gt m13 (qy X Y n s)),.box 76 20 (jb (lst [])),.box 76 20 (jb (lst []))])
    (out:=[(71,.val (Gt m13 (qy X Y n s))),(78,.val (Gt m13 (qy X Y n s))),(6,.box 76 20 (jb (lst []))),(7,.box 76 20 (jb (lst []))),(5,.box 76 20 (xq m13 (qy X Y n s))),(913,zs m13),(3,.box 52 2 (jc g11 ngx nx xx)),(4,.box 52 2 (jc k11 ngy ny xy)),(909,zs m9),(1,.box 71 10 (jw ngx ngy ngu ngv nx ny nu nv xx xy xu xv n s)),(2,bv false),(218,zs lo)]) (nb:=[6,7]) H17 (by kernel_rfl) 16 13 6 2 #[true,true,true,true,true,true,true,true,true,true,true,true,true,true,true,true,false,false] (by kernel_rfl) (by kernel_rfl) rfl rfl ?_ (by kernel_rfl) ?_ (fun u w B h=>qmt u w B h) ?_
   ·refine cp (zo tyI (.tmp 0 rfl)) ?_
    refine cp (zo tyI (.tmp 0 rfl)) ?_
    refine cp (Ik (.tmp 0 rfl)) ?_
    refine cp (Nc (.tmp 0 rfl)) ?_
    refine cp (G9 (.tmp 0 rfl)) ?_
    refine cp (Ju (.tmp 0 rfl)) ?_
    refine cp (y9 4 (Ic X Y n s fX fY hn (by omega)) rfl (.cons (.weak (.weak (.tmp 0 rfl) Ef) (Hy (by omega) hX)) (.cons (.weak (.weak (.tmp 1 rfl) Ef) (Hy (by omega) hY)) (.cons (.tmp 2 rfl) (.cons (.tmp 3 rfl) (.nil)))))) ?_
    refine cp (zo tyI (.tmp 0 rfl)) ?_
    refine cp (zo tyI (.tmp 0 rfl)) ?_
    refine cp (Ik (.tmp 0 rfl)) ?_
    refine cp (Nc (.tmp 0 rfl)) ?_
    refine cp (G9 (.tmp 0 rfl)) ?_
    refine cp (Ju (.tmp 0 rfl)) ?_
    refine cp (y9 4 (Ic X Y n s fX fY hn (by omega)) rfl (.cons (.weak (.weak (.tmp 0 rfl) Ef) (Hy (by omega) hX)) (.cons (.weak (.weak (.tmp 1 rfl) Ef) (Hy (by omega) hY)) (.cons (.tmp 2 rfl) (.cons (.tmp 3 rfl) (.nil)))))) ?_
    refine cp (Dx) ?_
    refine cp (Dx) ?_
    exact .nil
   ·intro o ho
    obtain rfl:=Option.some.inj ho
    exact Xm 4 (Ic X Y n s fX fY hn (by omega)) rfl (.cons (.weak (.weak (.tmp 0 rfl) Ef) (Hy (by omega) hX)) (.cons (.weak (.weak (.tmp 1 rfl) Ef) (Hy (by omega) hY)) (.cons (.tmp 2 rfl) (.cons (.tmp 3 rfl) (.nil))))) (fun lo v w B h=>qms lo v w B h) (fun lo lo2 v w B hl h=>qh1 lo lo2 v w B hl h)
   clear H17 a16 w17 B16
   intro a18 w18 B18 H18 G18
   simp only [List.cons_append,List.nil_append] at H18
   obtain ⟨gs19,ks19,hgs19,hks19,hn19,H19⟩:=St.nameG10 H18 0 1 rfl rfl G18 (l':=fun gs19 ks19=>[(71,.val (T10 gs19 (qy X Y n s))),(78,.val (T10 ks19 (qy X Y n s))),(6,.box 76 20 (jb (lst []))),(7,.box 76 20 (jb (lst []))),(5,.box 76 20 (xq m13 (qy X Y n s))),(913,zs m13),(3,.box 52 2 (jc g11 ngx nx xx)),(4,.box 52 2 (jc k11 ngy ny xy)),(909,zs m9),(1,.box 71 10 (jw ngx ngy ngu ngv nx ny nu nv xx xy xu xv n s)),(2,bv false),(218,zs lo)]) (fun _ _=>rfl)
   clear H18 G18
   replace H19:St 218 w0 B0 a18 w18 B18 [(71,.val (T10 gs19 (qy X Y n s))),(78,.val (T10 ks19 (qy X Y n s))),(6,.box 76 20 (jb (lst []))),(7,.box 76 20 (jb (lst []))),(5,.box 76 20 (xq m13 (qy X Y n s))),(913,zs m13),(3,.box 52 2 (jc g11 ngx nx xx)),(4,.box 52 2 (jc k11 ngy ny xy)),(909,zs m9),(1,.box 71 10 (jw ngx ngy ngu ngv nx ny nu nv xx xy xu xv n s)),(2,bv false),(218,zs lo)] [6,7,5,3,4,1]:=H19
   have hz20:m13≤w18.heap.size:=H19.fc.get 5 rfl
   obtain ⟨m21,hm21,hw21,hL21,H21⟩:=St.mark H19 921
   clear H19
   clear hL21
   replace hz20:m13≤m21:=Nat.le_trans hz20 hw21
   replace hgs19:=hgs19.mono hw21
   replace hks19:=hks19.mono hw21
   clear hw21
   refine Az (l':=#[true,true,true,true,true,true,true,true,true,true,true,true,true,true,true,true,true,false]) 16 (by kernel_rfl) ?_
   refine ja (l':=[(921,zs m21),(71,.val (T10 gs19 (qy X Y n s))),(78,.val (T10 ks19 (qy X Y n s))),(6,.box 76 20 (T10 gs19 (qy X Y n s))),(7,.box 76 20 (jb (lst []))),(5,.box 76 20 (xq m13 (qy X Y n s))),(913,zs m13),(3,.box 52 2 (jc g11 ngx nx xx)),(4,.box 52 2 (jc k11 ngy ny xy)),(909,zs m9),(1,.box 71 10 (jw ngx ngy ngu ngv nx ny nu nv xx xy xu xv n s)),(2,bv false),(218,zs lo)]) 3 H21 rfl Dz rfl (.tmp 1 rfl) Bj Bj rfl rfl ?_
   clear H21 w18
   intro w22 H22
   refine Az (l':=#[true,true,true,true,true,true,true,true,true,true,true,true,true,true,true,true,true,true]) 17 (by kernel_rfl) ?_
   refine ja (l':=[(921,zs m21),(71,.val (T10 gs19 (qy X Y n s))),(78,.val (T10 ks19 (qy X Y n s))),(6,.box 76 20 (T10 gs19 (qy X Y n s))),(7,.box 76 20 (T10 ks19 (qy X Y n s))),(5,.box 76 20 (xq m13 (qy X Y n s))),(913,zs m13),(3,.box 52 2 (jc g11 ngx nx xx)),(4,.box 52 2 (jc k11 ngy ny xy)),(909,zs m9),(1,.box 71 10 (jw ngx ngy ngu ngv nx ny nu nv xx xy xu xv n s)),(2,bv false),(218,zs lo)]) 4 H22 rfl Dz rfl (.tmp 2 rfl) Bj Bj rfl rfl ?_
   clear H22 w22
   intro w23 H23
   refine Bh (by kernel_rfl) ?_
   refine qg ?_
   refine wp_seq ?_
   refine fd (refs:=[[.pre 10],[.res 0],[.res 1,.pre 0],[.pre 10],[.res 3],[.res 4,.pre 0],[.res 2,.res 5,.pre 0],[]]) (outs:=[.res 6,.res 7,.pre 0]++pr 3 10) (als:=[false,false,false,false,false,false,false,true]) (posts:=[.ptr 71 10 (jw ngx ngy ngu ngv nx ny nu nv xx xy xu xv n s) 4,.val (E8 ngu nu xu),.val (P5 m21 ngu nu xu),.ptr 71 10 (jw ngx ngy ngu ngv nx ny nu nv xx xy xu xv n s) 6,.val (E8 ngv nv xv),.val (P5 m21 ngv nv xv),.val (Gt m21 (qy U V 7 (yg [49,50]))),.box 76 20 (jb (lst []))])
    (out:=[(85,.val (Gt m21 (qy U V 7 (yg [49,50])))),(8,.box 76 20 (jb (lst []))),(921,zs m21),(6,.box 76 20 (T10 gs19 (qy X Y n s))),(7,.box 76 20 (T10 ks19 (qy X Y n s))),(5,.box 76 20 (xq m13 (qy X Y n s))),(913,zs m13),(3,.box 52 2 (jc g11 ngx nx xx)),(4,.box 52 2 (jc k11 ngy ny xy)),(909,zs m9),(1,.box 71 10 (jw ngx ngy ngu ngv nx ny nu nv xx xy xu xv n s)),(2,bv false),(218,zs lo)]) (nb:=[8]) H23 (by kernel_rfl) 8 1 #[true,true,true,true,true,true,true,true,false] (by kernel_rfl) (by kernel_rfl) rfl rfl ?_ ?_
   ·refine cp (Md (.tmp 0 rfl)) ?_
    refine cp (Pm (.tmp 0 rfl)) ?_
    refine cp (y9 1 (Hq ngu nu xu (by omega)) rfl (.cons (.tmp 0 rfl) (.nil))) ?_
    refine cp (Me (.tmp 0 rfl)) ?_
    refine cp (Pn (.tmp 0 rfl)) ?_
    refine cp (y9 1 (Hq ngv nv xv (by omega)) rfl (.cons (.tmp 0 rfl) (.nil))) ?_
    refine cp (y9 2 (Ic U V 7 (yg [49,50]) fU fV (by omega) (by decide)) rfl (.cons (.weak (.weak (.tmp 0 rfl) qfw) (Hy (by omega) hU)) (.cons (.weak (.weak (.tmp 1 rfl) qfw) (Hy (by omega) hV)) (.cons (.lit) (.cons (.const (fun _ _=>by rfl)) (.nil)))))) ?_
    refine cp (Dx) ?_
    exact .nil
   clear H23 a18 w23 B18
   intro a24 w24 B24 H24
   simp only [List.cons_append,List.nil_append] at H24
   refine Az (l':=#[true,true,true,true,true,true,true,true,true]) 8 (by kernel_rfl) ?_
   refine ja (l':=[(85,.val (Gt m21 (qy U V 7 (yg [49,50])))),(8,.box 76 20 (Gt m21 (qy U V 7 (yg [49,50])))),(921,zs m21),(6,.box 76 20 (T10 gs19 (qy X Y n s))),(7,.box 76 20 (T10 ks19 (qy X Y n s))),(5,.box 76 20 (xq m13 (qy X Y n s))),(913,zs m13),(3,.box 52 2 (jc g11 ngx nx xx)),(4,.box 52 2 (jc k11 ngy ny xy)),(909,zs m9),(1,.box 71 10 (jw ngx ngy ngu ngv nx ny nu nv xx xy xu xv n s)),(2,bv false),(218,zs lo)]) 1 H24 rfl Dz rfl (.tmp 0 rfl) Bj Rn rfl rfl ?_
   clear H24 w24
   intro w25 H25
   refine Bh (by kernel_rfl) ?_
   refine qg ?_
   refine wp_seq ?_
   obtain ⟨gs26,hgs26,H26⟩:=St.name10 H25 1 rfl (l':=fun gs26=>[(85,.val (Gt m21 (qy U V 7 (yg [49,50])))),(8,.box 76 20 (T10 gs26 (qy U V 7 (yg [49,50])))),(921,zs m21),(6,.box 76 20 (T10 gs19 (qy X Y n s))),(7,.box 76 20 (T10 ks19 (qy X Y n s))),(5,.box 76 20 (xq m13 (qy X Y n s))),(913,zs m13),(3,.box 52 2 (jc g11 ngx nx xx)),(4,.box 52 2 (jc k11 ngy ny xy)),(909,zs m9),(1,.box 71 10 (jw ngx ngy ngu ngv nx ny nu nv xx xy xu xv n s)),(2,bv false),(218,zs lo)]) (fun _=>rfl)
   clear H25
   replace H26:St 218 w0 B0 a24 w25 B24 [(85,.val (Gt m21 (qy U V 7 (yg [49,50])))),(8,.box 76 20 (T10 gs26 (qy U V 7 (yg [49,50])))),(921,zs m21),(6,.box 76 20 (T10 gs19 (qy X Y n s))),(7,.box 76 20 (T10 ks19 (qy X Y n s))),(5,.box 76 20 (xq m13 (qy X Y n s))),(913,zs m13),(3,.box 52 2 (jc g11 ngx nx xx)),(4,.box 52 2 (jc k11 ngy ny xy)),(909,zs m9),(1,.box 71 10 (jw ngx ngy ngu ngv nx ny nu nv xx xy xu xv n s)),(2,bv false),(218,zs lo)] [8,6,7,5,3,4,1]:=H26
   have hz27:m21≤w25.heap.size:=H26.fc.get 2 rfl
   obtain ⟨m28,hm28,hw28,hL28,H28⟩:=St.mark H26 928
   clear H26
   clear hL28
   replace hz27:m21≤m28:=Nat.le_trans hz27 hw28
   replace hgs26:=hgs26.mono hw28
   clear hw28
   refine fr (refs:=[[.pre 8],[.pre 9],[.pre 11],[.res 2],[.pre 11],[.res 4],[.res 0,.res 1,.res 3,.res 5,.pre 0],[]]) (outs:=[.res 6,.res 7,.pre 0]++pr 2 12) (als:=[false,false,false,false,false,false,false,true]) (posts:=[.val (jc g11 ngx nx xx),.val (jc k11 ngy ny xy),.ptr 71 10 (jw ngx ngy ngu ngv nx ny nu nv xx xy xu xv n s) 8,i6 n,.ptr 71 10 (jw ngx ngy ngu ngv nx ny nu nv xx xy xu xv n s) 9,.val (Lit (.string s)),.val (Gt m28 (qy X Y n s)),.box 76 20 (jb (lst []))])
    (out:=[(92,.val (Gt m28 (qy X Y n s))),(9,.box 76 20 (jb (lst []))),(928,zs m28),(8,.box 76 20 (T10 gs26 (qy U V 7 (yg [49,50])))),(921,zs m21),(6,.box 76 20 (T10 gs19 (qy X Y n s))),(7,.box 76 20 (T10 ks19 (qy X Y n s))),(5,.box 76 20 (xq m13 (qy X Y n s))),(913,zs m13),(3,.box 52 2 (jc g11 ngx nx xx)),(4,.box 52 2 (jc k11 ngy ny xy)),(909,zs m9),(1,.box 71 10 (jw ngx ngy ngu ngv nx ny nu nv xx xy xu xv n s)),(2,bv false),(218,zs lo)]) (nb:=[9]) H28 8 [8] rfl (by kernel_rfl) rfl rfl ?_ ?_
   ·refine cp (zo tyI (.tmp 0 rfl)) ?_
    refine cp (zo tyI (.tmp 0 rfl)) ?_
    refine cp (Ik (.tmp 0 rfl)) ?_
    refine cp (Nc (.tmp 0 rfl)) ?_
    refine cp (G9 (.tmp 0 rfl)) ?_
    refine cp (Ju (.tmp 0 rfl)) ?_
    refine cp (y9 4 (Ic X Y n s fX fY hn (by omega)) rfl (.cons (.weak (.weak (.tmp 0 rfl) Ef) (Hy (by omega) hX)) (.cons (.weak (.weak (.tmp 1 rfl) Ef) (Hy (by omega) hY)) (.cons (.tmp 2 rfl) (.cons (.tmp 3 rfl) (.nil)))))) ?_
    refine cp (Dx) ?_
    exact .nil
   clear H28 a24 w25 B24
   intro a29 w29 B29 H29
   simp only [List.cons_append,List.nil_append] at H29
   refine zi ?_
   refine ja (l':=[(92,.val (Gt m28 (qy X Y n s))),(9,.box 76 20 (Gt m28 (qy X Y n s))),(928,zs m28),(8,.box 76 20 (T10 gs26 (qy U V 7 (yg [49,50])))),(921,zs m21),(6,.box 76 20 (T10 gs19 (qy X Y n s))),(7,.box 76 20 (T10 ks19 (qy X Y n s))),(5,.box 76 20 (xq m13 (qy X Y n s))),(913,zs m13),(3,.box 52 2 (jc g11 ngx nx xx)),(4,.box 52 2 (jc k11 ngy ny xy)),(909,zs m9),(1,.box 71 10 (jw ngx ngy ngu ngv nx ny nu nv xx xy xu xv n s)),(2,bv false),(218,zs lo)]) 1 H29 rfl Dz rfl (.tmp 0 rfl) Bj Rn rfl rfl ?_
   clear H29 w29
   intro w30 H30
   refine qi ?_
   refine qg ?_
   refine wp_seq ?_
   refine wp_seq ?_
   obtain ⟨gs31,hgs31,H31⟩:=St.name10 H30 1 rfl (l':=fun gs31=>[(92,.val (Gt m28 (qy X Y n s))),(9,.box 76 20 (T10 gs31 (qy X Y n s))),(928,zs m28),(8,.box 76 20 (T10 gs26 (qy U V 7 (yg [49,50])))),(921,zs m21),(6,.box 76 20 (T10 gs19 (qy X Y n s))),(7,.box 76 20 (T10 ks19 (qy X Y n s))),(5,.box 76 20 (xq m13 (qy X Y n s))),(913,zs m13),(3,.box 52 2 (jc g11 ngx nx xx)),(4,.box 52 2 (jc k11 ngy ny xy)),(909,zs m9),(1,.box 71 10 (jw ngx ngy ngu ngv nx ny nu nv xx xy xu xv n s)),(2,bv false),(218,zs lo)]) (fun _=>rfl)
   clear H30
   replace H31:St 218 w0 B0 a29 w30 B29 [(92,.val (Gt m28 (qy X Y n s))),(9,.box 76 20 (T10 gs31 (qy X Y n s))),(928,zs m28),(8,.box 76 20 (T10 gs26 (qy U V 7 (yg [49,50])))),(921,zs m21),(6,.box 76 20 (T10 gs19 (qy X Y n s))),(7,.box 76 20 (T10 ks19 (qy X Y n s))),(5,.box 76 20 (xq m13 (qy X Y n s))),(913,zs m13),(3,.box 52 2 (jc g11 ngx nx xx)),(4,.box 52 2 (jc k11 ngy ny xy)),(909,zs m9),(1,.box 71 10 (jw ngx ngy ngu ngv nx ny nu nv xx xy xu xv n s)),(2,bv false),(218,zs lo)] [9,8,6,7,5,3,4,1]:=H31
   have hz32:m28≤w30.heap.size:=H31.fc.get 2 rfl
   obtain ⟨m33,hm33,hw33,hL33,H33⟩:=St.mark H31 933
   clear H31
   clear hL33
   replace hz32:m28≤m33:=Nat.le_trans hz32 hw33
   replace hgs31:=hgs31.mono hw33
   clear hw33
   refine fd (refs:=[[.pre 6],[.pre 8],[.res 0,.res 1],[.res 2],[.res 3],[.res 4,.pre 7],[.res 4,.pre 8],[.res 4,.res 5,.res 6],[.res 4,.res 7],[.res 4,.res 8],[.res 9],[.res 10,.pre 2],[.res 10,.pre 8],[.res 10,.res 11,.res 12],[.res 10,.res 13],[.res 10,.res 14],[.res 15],[.res 16,.pre 4],[.res 16,.pre 13],[.res 16,.res 18],[.res 16,.pre 13],[.res 16,.res 20],[.res 16,.res 19,.res 21,.pre 0],[.res 16,.res 17,.res 22],[.res 16,.res 23],[.res 16,.res 24],[.res 25],[.res 26,.pre 10],[.res 26,.pre 13],[.res 26,.res 28],[.res 26,.res 27,.res 29],[.res 26,.res 30],[.res 26,.res 31],[.res 32],[.res 33,.pre 11],[.res 33,.pre 13],[.res 33,.res 35],[.res 33,.res 34,.res 36],[.res 33,.res 37],[.res 33,.res 38]]) (outs:=[.res 39,.pre 0]++pr 2 14) (als:=fs 40) (posts:=[.val (T10 gs19 (qy X Y n s)),.val (xq m13 (qy X Y n s)),bv true,bv false,bv false,.val (T10 ks19 (qy X Y n s)),.val (xq m13 (qy X Y n s)),bv true,bv false,bv false,bv false,.val (T10 gs31 (qy X Y n s)),.val (xq m13 (qy X Y n s)),bv true,bv false,bv false,bv false,.val (T10 gs26 (qy U V 7 (yg [49,50]))),.ptr 71 10 (jw ngx ngy ngu ngv nx ny nu nv xx xy xu xv n s) 4,.val (E8 ngu nu xu),.ptr 71 10 (jw ngx ngy ngu ngv nx ny nu nv xx xy xu xv n s) 6,.val (E8 ngv nv xv),.val (xq m33 (qy U V 7 (yg [49,50]))),bv true,bv false,bv false,bv false,.val (jc g11 ngx nx xx),.ptr 71 10 (jw ngx ngy ngu ngv nx ny nu nv xx xy xu xv n s) 0,.val (E8 ngx nx xx),bv true,bv false,bv false,bv false,.val (jc k11 ngy ny xy),.ptr 71 10 (jw ngx ngy ngu ngv nx ny nu nv xx xy xu xv n s) 2,.val (E8 ngy ny xy),bv true,bv false,bv false])
    (out:=[(132,bv false),(933,zs m33),(9,.box 76 20 (T10 gs31 (qy X Y n s))),(928,zs m28),(8,.box 76 20 (T10 gs26 (qy U V 7 (yg [49,50])))),(921,zs m21),(6,.box 76 20 (T10 gs19 (qy X Y n s))),(7,.box 76 20 (T10 ks19 (qy X Y n s))),(5,.box 76 20 (xq m13 (qy X Y n s))),(913,zs m13),(3,.box 52 2 (jc g11 ngx nx xx)),(4,.box 52 2 (jc k11 ngy ny xy)),(909,zs m9),(1,.box 71 10 (jw ngx ngy ngu ngv nx ny nu nv xx xy xu xv n s)),(2,bv false),(218,zs lo)]) (nb:=[]) H33 (by kernel_rfl) 40 0 #[true,true,true,true,true,true,true,true,true,true,true,true,true,true,true,true,true,true,true,true,true,true,true,true,true,true,true,true,true,true,true,true,true,true,true,true,true,true,true,true] (by kernel_rfl) (by kernel_rfl) rfl rfl ?_ ?_
   ·refine cp (zo Dz (.tmp 0 rfl)) ?_
    refine cp (zo Dz (.tmp 0 rfl)) ?_
    refine cp (zl (G8 (qy X Y n s)) (.cons (.weak (.tmp 0 rfl) Xt) (.cons (.weak (.tmp 1 rfl) Pz) (.nil)))) ?_
    refine cp (Eh (b:=true) (.tmp 0 rfl)) ?_
    refine cp (qh (.tmp 0 rfl)) ?_
    refine .cons (.wanted 4 false rfl rfl rfl 0 rfl (zo Dz (.tmp 1 rfl))) ?_
    refine .cons (.wanted 4 false rfl rfl rfl 0 rfl (zo Dz (.tmp 1 rfl))) ?_
    refine .cons (.wanted 4 false rfl rfl rfl 0 rfl (zl (G8 (qy X Y n s)) (.cons (.weak (.tmp 1 rfl) Xt) (.cons (.weak (.tmp 2 rfl) Pz) (.nil))))) ?_
    refine .cons (.wanted 4 false rfl rfl rfl 0 rfl (Eh (b:=true) (.tmp 1 rfl))) ?_
    refine cp (Cf (.tmp 0 rfl) (.tmp 1 rfl)) ?_
    refine cp (qh (.tmp 0 rfl)) ?_
    refine .cons (.wanted 10 false rfl rfl rfl 0 rfl (zo Dz (.tmp 1 rfl))) ?_
    refine .cons (.wanted 10 false rfl rfl rfl 0 rfl (zo Dz (.tmp 1 rfl))) ?_
    refine .cons (.wanted 10 false rfl rfl rfl 0 rfl (zl (G8 (qy X Y n s)) (.cons (.weak (.tmp 1 rfl) Xt) (.cons (.weak (.tmp 2 rfl) Pz) (.nil))))) ?_
    refine .cons (.wanted 10 false rfl rfl rfl 0 rfl (Eh (b:=true) (.tmp 1 rfl))) ?_
    refine cp (Cf (.tmp 0 rfl) (.tmp 1 rfl)) ?_
    refine cp (qh (.tmp 0 rfl)) ?_
    refine .cons (.wanted 16 false rfl rfl rfl 0 rfl (zo Dz (.tmp 1 rfl))) ?_
    refine .cons (.wanted 16 false rfl rfl rfl 0 rfl (Md (.tmp 1 rfl))) ?_
    refine .cons (.wanted 16 false rfl rfl rfl 0 rfl (Pm (.tmp 1 rfl))) ?_
    refine .cons (.wanted 16 false rfl rfl rfl 0 rfl (Me (.tmp 1 rfl))) ?_
    refine .cons (.wanted 16 false rfl rfl rfl 0 rfl (Pn (.tmp 1 rfl))) ?_
    refine .cons (.wanted 16 false rfl rfl rfl 0 rfl (y9 3 (N7 U V 7 (yg [49,50]) fU fV (by omega) (by decide)) rfl (.cons (.weak (.tmp 1 rfl) (qa3 (by omega) hU)) (.cons (.weak (.tmp 2 rfl) (qa3 (by omega) hV)) (.cons (.lit) (.cons (.const (fun _ _=>by rfl)) (.nil))))))) ?_
    refine .cons (.wanted 16 false rfl rfl rfl 0 rfl (zl (G8 (qy U V 7 (yg [49,50]))) (.cons (.weak (.tmp 1 rfl) Xt) (.cons (.weak (.tmp 2 rfl) Pz) (.nil))))) ?_
    refine .cons (.wanted 16 false rfl rfl rfl 0 rfl (Eh (b:=true) (.tmp 1 rfl))) ?_
    refine cp (Cf (.tmp 0 rfl) (.tmp 1 rfl)) ?_
    refine cp (qh (.tmp 0 rfl)) ?_
    refine .cons (.wanted 26 false rfl rfl rfl 0 rfl (zo tyI (.tmp 1 rfl))) ?_
    refine .cons (.wanted 26 false rfl rfl rfl 0 rfl (Js (.tmp 1 rfl))) ?_
    refine .cons (.wanted 26 false rfl rfl rfl 0 rfl (Na (.tmp 1 rfl))) ?_
    refine .cons (.wanted 26 false rfl rfl rfl 0 rfl (zl (qbn ngx nx xx (by omega)) (.cons (.weak (.tmp 1 rfl) Ef) (.cons (.tmp 2 rfl) (.nil))))) ?_
    refine .cons (.wanted 26 false rfl rfl rfl 0 rfl (Eh (b:=true) (.tmp 1 rfl))) ?_
    refine cp (Cf (.tmp 0 rfl) (.tmp 1 rfl)) ?_
    refine cp (qh (.tmp 0 rfl)) ?_
    refine .cons (.wanted 33 false rfl rfl rfl 0 rfl (zo tyI (.tmp 1 rfl))) ?_
    refine .cons (.wanted 33 false rfl rfl rfl 0 rfl (Jt (.tmp 1 rfl))) ?_
    refine .cons (.wanted 33 false rfl rfl rfl 0 rfl (Nb (.tmp 1 rfl))) ?_
    refine .cons (.wanted 33 false rfl rfl rfl 0 rfl (zl (qbn ngy ny xy (by omega)) (.cons (.weak (.tmp 1 rfl) Ef) (.cons (.tmp 2 rfl) (.nil))))) ?_
    refine .cons (.wanted 33 false rfl rfl rfl 0 rfl (Eh (b:=true) (.tmp 1 rfl))) ?_
    refine cp (Cf (.tmp 0 rfl) (.tmp 1 rfl)) ?_
    exact .nil
   clear H33 a29 w30 B29
   intro a34 w34 B34 H34
   refine Bh (by kernel_rfl) ?_
   refine qg ?_
   refine Fq H34 (.tmp 0 rfl) ?_
   refine wp_skip ?_
   refine qg ?_
   refine wp_seq ?_
   refine wp_seq ?_
   refine fr (refs:=[[]]) (outs:=[.res 0]++pr 1 15) (als:=[false]) (posts:=[i6 0])
    (out:=[(10,i6 0),(933,zs m33),(9,.box 76 20 (T10 gs31 (qy X Y n s))),(928,zs m28),(8,.box 76 20 (T10 gs26 (qy U V 7 (yg [49,50])))),(921,zs m21),(6,.box 76 20 (T10 gs19 (qy X Y n s))),(7,.box 76 20 (T10 ks19 (qy X Y n s))),(5,.box 76 20 (xq m13 (qy X Y n s))),(913,zs m13),(3,.box 52 2 (jc g11 ngx nx xx)),(4,.box 52 2 (jc k11 ngy ny xy)),(909,zs m9),(1,.box 71 10 (jw ngx ngy ngu ngv nx ny nu nv xx xy xu xv n s)),(2,bv false),(218,zs lo)]) (nb:=[]) H34 1 [] rfl (by kernel_rfl) rfl rfl ?_ ?_
   ·refine cp (qm (.lit)) ?_
    exact .nil
   clear H34 a34 w34 B34
   intro a35 w35 B35 H35
   refine qi ?_
   refine qg ?_
   refine wp_block ?_
   have H37:=St.setwB H35 13 (D':=x8 n s) rfl (fun v h=>qlj v _ _ h) (l':=[(10,i6 0),(933,zs m33),(9,.box 76 20 (T10 gs31 (qy X Y n s))),(928,zs m28),(8,.box 76 20 (T10 gs26 (qy U V 7 (yg [49,50])))),(921,zs m21),(6,.box 76 20 (T10 gs19 (qy X Y n s))),(7,.box 76 20 (T10 ks19 (qy X Y n s))),(5,.box 76 20 (xq m13 (qy X Y n s))),(913,zs m13),(3,.box 52 2 (jc g11 ngx nx xx)),(4,.box 52 2 (jc k11 ngy ny xy)),(909,zs m9),(1,.box 71 10 (x8 n s)),(2,bv false),(218,zs lo)]) rfl
   clear H35
   have H38:=St.fewerF H37 [0,1,2,3,4,5,6,7,8,9,10,11,12,13,14,15] (l':=[(10,i6 0),(933,zs m33),(9,.box 76 20 (T10 gs31 (qy X Y n s))),(928,zs m28),(8,.box 76 20 (T10 gs26 (qy U V 7 (yg [49,50])))),(921,zs m21),(6,.box 76 20 (T10 gs19 (qy X Y n s))),(7,.box 76 20 (T10 ks19 (qy X Y n s))),(5,.box 76 20 (xq m13 (qy X Y n s))),(913,zs m13),(3,.box 52 2 (jc g11 ngx nx xx)),(4,.box 52 2 (jc k11 ngy ny xy)),(909,zs m9),(1,.box 71 10 (x8 n s)),(2,bv false),(218,zs lo)]) rfl
   clear H37
   have H39:=St.setwB H38 10 (D':=jc g11 ngx nx (jr Ae xx 0)) rfl (fun v h=>(Y8 Ae xx).symm ▸ h) (l':=[(10,i6 0),(933,zs m33),(9,.box 76 20 (T10 gs31 (qy X Y n s))),(928,zs m28),(8,.box 76 20 (T10 gs26 (qy U V 7 (yg [49,50])))),(921,zs m21),(6,.box 76 20 (T10 gs19 (qy X Y n s))),(7,.box 76 20 (T10 ks19 (qy X Y n s))),(5,.box 76 20 (xq m13 (qy X Y n s))),(913,zs m13),(3,.box 52 2 (jc g11 ngx nx (jr Ae xx 0))),(4,.box 52 2 (jc k11 ngy ny xy)),(909,zs m9),(1,.box 71 10 (x8 n s)),(2,bv false),(218,zs lo)]) rfl
   clear H38
   refine Gq (fun (i36:Int)=>[(10,i6 i36),(933,zs m33),(9,.box 76 20 (T10 gs31 (qy X Y n s))),(928,zs m28),(8,.box 76 20 (T10 gs26 (qy U V 7 (yg [49,50])))),(921,zs m21),(6,.box 76 20 (T10 gs19 (qy X Y n s))),(7,.box 76 20 (T10 ks19 (qy X Y n s))),(5,.box 76 20 (xq m13 (qy X Y n s))),(913,zs m13),(3,.box 52 2 (jc g11 ngx nx (jr Ae xx i36.toNat))),(4,.box 52 2 (jc k11 ngy ny xy)),(909,zs m9),(1,.box 71 10 (x8 n s)),(2,bv false),(218,zs lo)]) (fun (i36:Int)=>0≤i36∧i36≤(nx:Int)) (fun (i36:Int)=>((nx:Int)-i36).toNat) (0) (St.pick H39 [0,1,2,3,4,5,6,7,8,9,10,11,12,13,14,15] rfl) (by exact ⟨by omega,by omega⟩) ?_
   clear H39 a35 w35 B35
   rintro i36 a40 w40 B40 hI40 H40
   replace hI40:0≤i36∧i36≤(nx:Int):=hI40
   replace H40:St 218 w0 B0 a40 w40 B40 [(10,i6 i36),(933,zs m33),(9,.box 76 20 (T10 gs31 (qy X Y n s))),(928,zs m28),(8,.box 76 20 (T10 gs26 (qy U V 7 (yg [49,50])))),(921,zs m21),(6,.box 76 20 (T10 gs19 (qy X Y n s))),(7,.box 76 20 (T10 ks19 (qy X Y n s))),(5,.box 76 20 (xq m13 (qy X Y n s))),(913,zs m13),(3,.box 52 2 (jc g11 ngx nx (jr Ae xx i36.toNat))),(4,.box 52 2 (jc k11 ngy ny xy)),(909,zs m9),(1,.box 71 10 (x8 n s)),(2,bv false),(218,zs lo)] [9,8,6,7,5,3,4,1]:=H40
   have hdK:=Qi (f:=Ae) dx (fun k x hk h=>by exact Xx k (by omega) x h) i36.toNat
   refine wp_seq ?_
   refine wp_seq ?_
   refine fr (refs:=[[.pre 0],[.pre 10],[.res 1],[.res 2],[.res 0,.res 3]]) (outs:=[.res 4]++pr 0 16) (als:=fs 5) (posts:=[i6 i36,.ptr 52 2 (jc g11 ngx nx (jr Ae xx i36.toNat)) 1,.val (Ac g11 (Tn nx (jr Ae xx i36.toNat))),i6 (nx:Int),bv (decide (i36<(nx:Int)))])
    (out:=[(137,bv (decide (i36<(nx:Int)))),(10,i6 i36),(933,zs m33),(9,.box 76 20 (T10 gs31 (qy X Y n s))),(928,zs m28),(8,.box 76 20 (T10 gs26 (qy U V 7 (yg [49,50])))),(921,zs m21),(6,.box 76 20 (T10 gs19 (qy X Y n s))),(7,.box 76 20 (T10 ks19 (qy X Y n s))),(5,.box 76 20 (xq m13 (qy X Y n s))),(913,zs m13),(3,.box 52 2 (jc g11 ngx nx (jr Ae xx i36.toNat))),(4,.box 52 2 (jc k11 ngy ny xy)),(909,zs m9),(1,.box 71 10 (x8 n s)),(2,bv false),(218,zs lo)]) (nb:=[]) H40 5 [] rfl (by kernel_rfl) rfl rfl ?_ ?_
   ·refine cp (qh (.tmp 0 rfl)) ?_
    refine cp (Ar (.tmp 0 rfl)) ?_
    refine cp (Gn (.tmp 0 rfl)) ?_
    refine cp (qck (.weak (.weak (.tmp 0 rfl) Xr) Xu)) ?_
    refine cp (jq (.tmp 0 rfl) (.tmp 1 rfl) rfl) ?_
    exact .nil
   clear H40 a40 w40 B40
   intro a41 w41 B41 H41
   refine qi ?_
   refine qg ?_
   refine Aa H41 (.tmp 0 rfl) ?_ ?_
   ·intro hc42
    replace hc42:=of_decide_eq_true hc42
    refine wp_skip ?_
    refine qg ?_
    refine wp_seq ?_
    refine wp_block ?_
    refine fd (refs:=[[.pre 11],[.res 0],[.pre 1],[.pre 11],[.res 3],[.pre 1],[.res 4,.res 5],[.res 6],[.pre 1],[.res 8],[.res 9],[.res 7,.res 10],[.res 1,.res 2]]) (outs:=[.res 11,.res 12]++pr 1 16) (als:=fs 13) (posts:=[.ptr 52 2 (jc g11 ngx nx (jr Ae xx i36.toNat)) 1,.val (Ac g11 (Tn nx (jr Ae xx i36.toNat))),i6 i36,.ptr 52 2 (jc g11 ngx nx (jr Ae xx i36.toNat)) 1,.val (Ac g11 (Tn nx (jr Ae xx i36.toNat))),i6 i36,.val (Fh .u32 ((jr Ae xx i36.toNat)[i36.toNat]?.getD 0)),.val (Lit (.int .u32 ((jr Ae xx i36.toNat)[i36.toNat]?.getD 0))),i6 i36,i6 (i36+1),.val (Lit (.int .u32 (i36+1))),.val (Lit (.int .u32 (bits .xor .u32 ((jr Ae xx i36.toNat)[i36.toNat]?.getD 0) (i36+1)))),.val (qf0 g11 i36.toNat)])
     (out:=[(151,.val (Lit (.int .u32 (bits .xor .u32 ((jr Ae xx i36.toNat)[i36.toNat]?.getD 0) (i36+1))))),(152,.val (qf0 g11 i36.toNat)),(10,i6 i36),(933,zs m33),(9,.box 76 20 (T10 gs31 (qy X Y n s))),(928,zs m28),(8,.box 76 20 (T10 gs26 (qy U V 7 (yg [49,50])))),(921,zs m21),(6,.box 76 20 (T10 gs19 (qy X Y n s))),(7,.box 76 20 (T10 ks19 (qy X Y n s))),(5,.box 76 20 (xq m13 (qy X Y n s))),(913,zs m13),(3,.box 52 2 (jc g11 ngx nx (jr Ae xx i36.toNat))),(4,.box 52 2 (jc k11 ngy ny xy)),(909,zs m9),(1,.box 71 10 (x8 n s)),(2,bv false),(218,zs lo)]) (nb:=[]) H41 (by kernel_rfl) 13 1 #[true,true,true,true,true,true,true,true,true,true,true,true,true,false] (by kernel_rfl) (by kernel_rfl) rfl rfl ?_ ?_
    ·refine cp (Ar (.tmp 0 rfl)) ?_
     refine cp (Gn (.tmp 0 rfl)) ?_
     refine cp (qh (.tmp 0 rfl)) ?_
     refine cp (Ar (.tmp 0 rfl)) ?_
     refine cp (Gn (.tmp 0 rfl)) ?_
     refine cp (qh (.tmp 0 rfl)) ?_
     refine cp (Et (xs:=(jr Ae xx i36.toNat)) i36.toNat Tryz.underlying23 Bf (.weak (.weak (.tmp 0 rfl) Xr) qfz) (.tmp 1 rfl) (by omega) (by rw [Qj];omega)) ?_
     refine cp (Ap Jd (.tmp 0 rfl)) ?_
     refine cp (qh (.tmp 0 rfl)) ?_
     refine cp (Aq (r:=(i36+1)) (.tmp 0 rfl) (.lit) (xh (by omega))) ?_
     refine cp (Ee Tryz.underlying3 Tryz.underlying44 (r:=(i36+1)) (.tmp 0 rfl) (Oc (by omega))) ?_
     refine cp (qn2 (.tmp 0 rfl) (.tmp 1 rfl) rfl) ?_
     refine cp (qcj i36.toNat (by omega) (by omega) (.tmp 0 rfl) (.tmp 1 rfl)) ?_
     exact .nil
    clear H41 a41 w41 B41
    intro a43 w43 B43 H43
    refine Az (l':=#[true,true,true,true,true,true,true,true,true,true,true,true,true,true]) 13 (by kernel_rfl) ?_
    refine qb3 (ks:=[(151,.val (Lit (.int .u32 (bits .xor .u32 ((jr Ae xx i36.toNat)[i36.toNat]?.getD 0) (i36+1))))),(10,i6 i36),(933,zs m33),(9,.box 76 20 (T10 gs31 (qy X Y n s))),(928,zs m28),(8,.box 76 20 (T10 gs26 (qy U V 7 (yg [49,50])))),(921,zs m21),(6,.box 76 20 (T10 gs19 (qy X Y n s))),(7,.box 76 20 (T10 ks19 (qy X Y n s))),(5,.box 76 20 (xq m13 (qy X Y n s))),(913,zs m13),(4,.box 52 2 (jc k11 ngy ny xy)),(909,zs m9),(1,.box 71 10 (x8 n s)),(2,bv false),(218,zs lo)]) 12 1 0 [0,2,3,4,5,6,7,8,9,10,11,13,14,15,16,17] rfl H43 rfl rfl rfl rfl (by omega) (by have:=Xx i36.toNat (by omega) _ (hdK.get (by omega) i36.toNat);unfold Ae at this;rwa [show ((i36.toNat:Int)+1)=i36+1 by omega] at this) (fun b hb=>by have:=hg11 b hb;omega) rfl (.cons (Ih) (.cons (Ih) (.cons (Fa) (.cons (Dh (I5 (fun j b hb e=>by have h1:=hgs31.lo j b hb;have h2:=hg11 b e;omega))) (.cons (Fa) (.cons (Dh (I5 (fun j b hb e=>by have h1:=hgs26.lo j b hb;have h2:=hg11 b e;omega))) (.cons (Fa) (.cons (Dh (I5 (fun j b hb e=>by have h1:=hgs19.lo j b hb;have h2:=hg11 b e;omega))) (.cons (Dh (I5 (fun j b hb e=>by have h1:=hks19.lo j b hb;have h2:=hg11 b e;omega))) (.cons (Dh (Y6 (fun b hb=>by have:=hg11 b hb;omega))) (.cons (Fa) (.cons (Dh (qcc ((fun b hb e=>hn11 b e hb)))) (.cons (Fa) (.cons (Dh (Vt)) (.cons (Ih) (.cons (Fa) (.nil))))))))))))))))) ?_
    clear H43 w43
    intro w44 H44
    refine Bh (by kernel_rfl) ?_
    refine kw ?_
    refine qg ?_
    refine fr (refs:=[[.pre 2],[.res 0]]) (outs:=[.res 1,.pre 0]++pr 2 15) (als:=fs 2) (posts:=[i6 i36,i6 (i36+1)])
     (out:=[(139,i6 (i36+1)),(3,.box 52 2 (jc g11 ngx nx (List.set (jr Ae xx i36.toNat) i36.toNat (bits .xor .u32 ((jr Ae xx i36.toNat)[i36.toNat]?.getD 0) (i36+1))))),(10,i6 i36),(933,zs m33),(9,.box 76 20 (T10 gs31 (qy X Y n s))),(928,zs m28),(8,.box 76 20 (T10 gs26 (qy U V 7 (yg [49,50])))),(921,zs m21),(6,.box 76 20 (T10 gs19 (qy X Y n s))),(7,.box 76 20 (T10 ks19 (qy X Y n s))),(5,.box 76 20 (xq m13 (qy X Y n s))),(913,zs m13),(4,.box 52 2 (jc k11 ngy ny xy)),(909,zs m9),(1,.box 71 10 (x8 n s)),(2,bv false),(218,zs lo)]) (nb:=[]) H44 2 [2] rfl (by kernel_rfl) rfl rfl ?_ ?_
    ·refine cp (qh (.tmp 0 rfl)) ?_
     refine cp (Aq (r:=(i36+1)) (.tmp 0 rfl) (.lit) (xh (by omega))) ?_
     exact .nil
    clear H44 a43 w44 B43
    intro a45 w45 B45 H45
    refine zi ?_
    refine jm (D:=i6 (i36+1)) (l':=[(10,i6 (i36+1)),(139,i6 (i36+1)),(3,.box 52 2 (jc g11 ngx nx (List.set (jr Ae xx i36.toNat) i36.toNat (bits .xor .u32 ((jr Ae xx i36.toNat)[i36.toNat]?.getD 0) (i36+1))))),(933,zs m33),(9,.box 76 20 (T10 gs31 (qy X Y n s))),(928,zs m28),(8,.box 76 20 (T10 gs26 (qy U V 7 (yg [49,50])))),(921,zs m21),(6,.box 76 20 (T10 gs19 (qy X Y n s))),(7,.box 76 20 (T10 ks19 (qy X Y n s))),(5,.box 76 20 (xq m13 (qy X Y n s))),(913,zs m13),(4,.box 52 2 (jc k11 ngy ny xy)),(909,zs m9),(1,.box 71 10 (x8 n s)),(2,bv false),(218,zs lo)]) H45 rfl rfl rfl (.plain rfl (qm (.tmp 0 rfl))) rfl rfl ?_
    clear H45 a45 w45 B45
    intro a46 w46 B46 H46
    refine qi ?_
    have H47:=St.setwB H46 2 (D':=jc g11 ngx nx (jr Ae xx (i36+1).toNat)) rfl (fun v h=>by rw [show (i36+1).toNat=i36.toNat+1 by omega,←qce Ae xx i36.toNat (by omega)];rw [qcd] at h;unfold Ae;rw [show ((i36.toNat:Int)+1)=i36+1 by omega];exact h) (l':=[(10,i6 (i36+1)),(139,i6 (i36+1)),(3,.box 52 2 (jc g11 ngx nx (jr Ae xx (i36+1).toNat))),(933,zs m33),(9,.box 76 20 (T10 gs31 (qy X Y n s))),(928,zs m28),(8,.box 76 20 (T10 gs26 (qy U V 7 (yg [49,50])))),(921,zs m21),(6,.box 76 20 (T10 gs19 (qy X Y n s))),(7,.box 76 20 (T10 ks19 (qy X Y n s))),(5,.box 76 20 (xq m13 (qy X Y n s))),(913,zs m13),(4,.box 52 2 (jc k11 ngy ny xy)),(909,zs m9),(1,.box 71 10 (x8 n s)),(2,bv false),(218,zs lo)]) rfl
    clear H46
    exact ⟨i36+1,B46,by exact ⟨by omega,by omega⟩,St.pick H47 [0,3,4,5,6,7,8,9,10,11,2,12,13,14,15,16] rfl,by show ((nx:Int)-(i36+1)).toNat<((nx:Int)-i36).toNat;omega⟩
   ·intro hc42
    replace hc42:=of_decide_eq_false hc42
    refine wp_exit ?_
    refine jy ?_
    refine jy ?_
    refine Am ?_
    refine qg ?_
    refine wp_seq ?_
    refine wp_seq ?_
    refine fr (refs:=[[]]) (outs:=[.res 0]++pr 1 16) (als:=[false]) (posts:=[i6 0])
     (out:=[(11,i6 0),(10,i6 i36),(933,zs m33),(9,.box 76 20 (T10 gs31 (qy X Y n s))),(928,zs m28),(8,.box 76 20 (T10 gs26 (qy U V 7 (yg [49,50])))),(921,zs m21),(6,.box 76 20 (T10 gs19 (qy X Y n s))),(7,.box 76 20 (T10 ks19 (qy X Y n s))),(5,.box 76 20 (xq m13 (qy X Y n s))),(913,zs m13),(3,.box 52 2 (jc g11 ngx nx (jr Ae xx i36.toNat))),(4,.box 52 2 (jc k11 ngy ny xy)),(909,zs m9),(1,.box 71 10 (x8 n s)),(2,bv false),(218,zs lo)]) (nb:=[]) H41 1 [] rfl (by kernel_rfl) rfl rfl ?_ ?_
    ·refine cp (qm (.lit)) ?_
     exact .nil
    clear H41 a41 w41 B41
    intro a48 w48 B48 H48
    refine qi ?_
    refine qg ?_
    refine wp_block ?_
    have H50:=St.fewerF H48 [0,1,2,3,4,5,6,7,8,9,10,11,12,13,14,15,16] (l':=[(11,i6 0),(10,i6 i36),(933,zs m33),(9,.box 76 20 (T10 gs31 (qy X Y n s))),(928,zs m28),(8,.box 76 20 (T10 gs26 (qy U V 7 (yg [49,50])))),(921,zs m21),(6,.box 76 20 (T10 gs19 (qy X Y n s))),(7,.box 76 20 (T10 ks19 (qy X Y n s))),(5,.box 76 20 (xq m13 (qy X Y n s))),(913,zs m13),(3,.box 52 2 (jc g11 ngx nx (jr Ae xx i36.toNat))),(4,.box 52 2 (jc k11 ngy ny xy)),(909,zs m9),(1,.box 71 10 (x8 n s)),(2,bv false),(218,zs lo)]) rfl
    clear H48
    have H51:=St.setwB H50 12 (D':=jc k11 ngy ny (jr xe xy 0)) rfl (fun v h=>(Y8 xe xy).symm ▸ h) (l':=[(11,i6 0),(10,i6 i36),(933,zs m33),(9,.box 76 20 (T10 gs31 (qy X Y n s))),(928,zs m28),(8,.box 76 20 (T10 gs26 (qy U V 7 (yg [49,50])))),(921,zs m21),(6,.box 76 20 (T10 gs19 (qy X Y n s))),(7,.box 76 20 (T10 ks19 (qy X Y n s))),(5,.box 76 20 (xq m13 (qy X Y n s))),(913,zs m13),(3,.box 52 2 (jc g11 ngx nx (jr Ae xx i36.toNat))),(4,.box 52 2 (jc k11 ngy ny (jr xe xy 0))),(909,zs m9),(1,.box 71 10 (x8 n s)),(2,bv false),(218,zs lo)]) rfl
    clear H50
    refine Gq (fun (i49:Int)=>[(11,i6 i49),(10,i6 i36),(933,zs m33),(9,.box 76 20 (T10 gs31 (qy X Y n s))),(928,zs m28),(8,.box 76 20 (T10 gs26 (qy U V 7 (yg [49,50])))),(921,zs m21),(6,.box 76 20 (T10 gs19 (qy X Y n s))),(7,.box 76 20 (T10 ks19 (qy X Y n s))),(5,.box 76 20 (xq m13 (qy X Y n s))),(913,zs m13),(3,.box 52 2 (jc g11 ngx nx (jr Ae xx i36.toNat))),(4,.box 52 2 (jc k11 ngy ny (jr xe xy i49.toNat))),(909,zs m9),(1,.box 71 10 (x8 n s)),(2,bv false),(218,zs lo)]) (fun (i49:Int)=>0≤i49∧i49≤(ny:Int)) (fun (i49:Int)=>((ny:Int)-i49).toNat) (0) (St.pick H51 [0,1,2,3,4,5,6,7,8,9,10,11,12,13,14,15,16] rfl) (by exact ⟨by omega,by omega⟩) ?_
    clear H51 a48 w48 B48
    rintro i49 a52 w52 B52 hI52 H52
    replace hI52:0≤i49∧i49≤(ny:Int):=hI52
    replace H52:St 218 w0 B0 a52 w52 B52 [(11,i6 i49),(10,i6 i36),(933,zs m33),(9,.box 76 20 (T10 gs31 (qy X Y n s))),(928,zs m28),(8,.box 76 20 (T10 gs26 (qy U V 7 (yg [49,50])))),(921,zs m21),(6,.box 76 20 (T10 gs19 (qy X Y n s))),(7,.box 76 20 (T10 ks19 (qy X Y n s))),(5,.box 76 20 (xq m13 (qy X Y n s))),(913,zs m13),(3,.box 52 2 (jc g11 ngx nx (jr Ae xx i36.toNat))),(4,.box 52 2 (jc k11 ngy ny (jr xe xy i49.toNat))),(909,zs m9),(1,.box 71 10 (x8 n s)),(2,bv false),(218,zs lo)] [9,8,6,7,5,3,4,1]:=H52
    have hdK:=Qi (f:=xe) dy (fun k x hk h=>by unfold xe;omega) i49.toNat
    refine wp_seq ?_
    refine wp_seq ?_
    refine fr (refs:=[[.pre 0],[.pre 12],[.res 1],[.res 2],[.res 0,.res 3]]) (outs:=[.res 4]++pr 0 17) (als:=fs 5) (posts:=[i6 i49,.ptr 52 2 (jc k11 ngy ny (jr xe xy i49.toNat)) 1,.val (Ac k11 (Tn ny (jr xe xy i49.toNat))),i6 (ny:Int),bv (decide (i49<(ny:Int)))])
     (out:=[(157,bv (decide (i49<(ny:Int)))),(11,i6 i49),(10,i6 i36),(933,zs m33),(9,.box 76 20 (T10 gs31 (qy X Y n s))),(928,zs m28),(8,.box 76 20 (T10 gs26 (qy U V 7 (yg [49,50])))),(921,zs m21),(6,.box 76 20 (T10 gs19 (qy X Y n s))),(7,.box 76 20 (T10 ks19 (qy X Y n s))),(5,.box 76 20 (xq m13 (qy X Y n s))),(913,zs m13),(3,.box 52 2 (jc g11 ngx nx (jr Ae xx i36.toNat))),(4,.box 52 2 (jc k11 ngy ny (jr xe xy i49.toNat))),(909,zs m9),(1,.box 71 10 (x8 n s)),(2,bv false),(218,zs lo)]) (nb:=[]) H52 5 [] rfl (by kernel_rfl) rfl rfl ?_ ?_
    ·refine cp (qh (.tmp 0 rfl)) ?_
     refine cp (Ar (.tmp 0 rfl)) ?_
     refine cp (Gn (.tmp 0 rfl)) ?_
     refine cp (qck (.weak (.weak (.tmp 0 rfl) Xr) Xu)) ?_
     refine cp (jq (.tmp 0 rfl) (.tmp 1 rfl) rfl) ?_
     exact .nil
    clear H52 a52 w52 B52
    intro a53 w53 B53 H53
    refine qi ?_
    refine qg ?_
    refine Aa H53 (.tmp 0 rfl) ?_ ?_
    ·intro hc54
     replace hc54:=of_decide_eq_true hc54
     refine wp_skip ?_
     refine qg ?_
     refine wp_seq ?_
     refine wp_block ?_
     refine fd (refs:=[[.pre 13],[.res 0],[.pre 1],[.pre 13],[.res 3],[.pre 1],[.res 4,.res 5],[.res 6],[.res 7],[.res 1,.res 2]]) (outs:=[.res 8,.res 9]++pr 1 17) (als:=fs 10) (posts:=[.ptr 52 2 (jc k11 ngy ny (jr xe xy i49.toNat)) 1,.val (Ac k11 (Tn ny (jr xe xy i49.toNat))),i6 i49,.ptr 52 2 (jc k11 ngy ny (jr xe xy i49.toNat)) 1,.val (Ac k11 (Tn ny (jr xe xy i49.toNat))),i6 i49,.val (Fh .u32 ((jr xe xy i49.toNat)[i49.toNat]?.getD 0)),.val (Lit (.int .u32 ((jr xe xy i49.toNat)[i49.toNat]?.getD 0))),.val (Lit (.int .u32 (((jr xe xy i49.toNat)[i49.toNat]?.getD 0+3) % 4294967296))),.val (qf0 k11 i49.toNat)])
      (out:=[(168,.val (Lit (.int .u32 (((jr xe xy i49.toNat)[i49.toNat]?.getD 0+3) % 4294967296)))),(169,.val (qf0 k11 i49.toNat)),(11,i6 i49),(10,i6 i36),(933,zs m33),(9,.box 76 20 (T10 gs31 (qy X Y n s))),(928,zs m28),(8,.box 76 20 (T10 gs26 (qy U V 7 (yg [49,50])))),(921,zs m21),(6,.box 76 20 (T10 gs19 (qy X Y n s))),(7,.box 76 20 (T10 ks19 (qy X Y n s))),(5,.box 76 20 (xq m13 (qy X Y n s))),(913,zs m13),(3,.box 52 2 (jc g11 ngx nx (jr Ae xx i36.toNat))),(4,.box 52 2 (jc k11 ngy ny (jr xe xy i49.toNat))),(909,zs m9),(1,.box 71 10 (x8 n s)),(2,bv false),(218,zs lo)]) (nb:=[]) H53 (by kernel_rfl) 10 1 #[true,true,true,true,true,true,true,true,true,true,false] (by kernel_rfl) (by kernel_rfl) rfl rfl ?_ ?_
     ·refine cp (Ar (.tmp 0 rfl)) ?_
      refine cp (Gn (.tmp 0 rfl)) ?_
      refine cp (qh (.tmp 0 rfl)) ?_
      refine cp (Ar (.tmp 0 rfl)) ?_
      refine cp (Gn (.tmp 0 rfl)) ?_
      refine cp (qh (.tmp 0 rfl)) ?_
      refine cp (Et (xs:=(jr xe xy i49.toNat)) i49.toNat Tryz.underlying23 Bf (.weak (.weak (.tmp 0 rfl) Xr) qfz) (.tmp 1 rfl) (by omega) (by rw [Qj];omega)) ?_
      refine cp (Ap Jd (.tmp 0 rfl)) ?_
      refine cp (Aq (r:=((jr xe xy i49.toNat)[i49.toNat]?.getD 0+3) % 4294967296) (.tmp 0 rfl) (.lit) (IntKind.wrap_u32 _)) ?_
      refine cp (qcj i49.toNat (by omega) (by omega) (.tmp 0 rfl) (.tmp 1 rfl)) ?_
      exact .nil
     clear H53 a53 w53 B53
     intro a55 w55 B55 H55
     refine Az (l':=#[true,true,true,true,true,true,true,true,true,true,true]) 10 (by kernel_rfl) ?_
     refine qb3 (ks:=[(168,.val (Lit (.int .u32 (((jr xe xy i49.toNat)[i49.toNat]?.getD 0+3) % 4294967296)))),(11,i6 i49),(10,i6 i36),(933,zs m33),(9,.box 76 20 (T10 gs31 (qy X Y n s))),(928,zs m28),(8,.box 76 20 (T10 gs26 (qy U V 7 (yg [49,50])))),(921,zs m21),(6,.box 76 20 (T10 gs19 (qy X Y n s))),(7,.box 76 20 (T10 ks19 (qy X Y n s))),(5,.box 76 20 (xq m13 (qy X Y n s))),(913,zs m13),(3,.box 52 2 (jc g11 ngx nx (jr Ae xx i36.toNat))),(909,zs m9),(1,.box 71 10 (x8 n s)),(2,bv false),(218,zs lo)]) 14 1 0 [0,2,3,4,5,6,7,8,9,10,11,12,13,15,16,17,18] rfl H55 rfl rfl rfl rfl (by omega) (by omega) (fun b hb=>by have:=hk11 b hb;omega) rfl (.cons (Ih) (.cons (Ih) (.cons (Ih) (.cons (Fa) (.cons (Dh (I5 (fun j b hb e=>by have h1:=hgs31.lo j b hb;have h2:=hk11 b e;omega))) (.cons (Fa) (.cons (Dh (I5 (fun j b hb e=>by have h1:=hgs26.lo j b hb;have h2:=hk11 b e;omega))) (.cons (Fa) (.cons (Dh (I5 (fun j b hb e=>by have h1:=hgs19.lo j b hb;have h2:=hk11 b e;omega))) (.cons (Dh (I5 (fun j b hb e=>by have h1:=hks19.lo j b hb;have h2:=hk11 b e;omega))) (.cons (Dh (Y6 (fun b hb=>by have:=hk11 b hb;omega))) (.cons (Fa) (.cons (Dh (qcc (hn11))) (.cons (Fa) (.cons (Dh (Vt)) (.cons (Ih) (.cons (Fa) (.nil)))))))))))))))))) ?_
     clear H55 w55
     intro w56 H56
     refine Bh (by kernel_rfl) ?_
     refine kw ?_
     refine qg ?_
     refine fr (refs:=[[.pre 2],[.res 0]]) (outs:=[.res 1,.pre 0]++pr 2 16) (als:=fs 2) (posts:=[i6 i49,i6 (i49+1)])
      (out:=[(159,i6 (i49+1)),(4,.box 52 2 (jc k11 ngy ny (List.set (jr xe xy i49.toNat) i49.toNat (((jr xe xy i49.toNat)[i49.toNat]?.getD 0+3) % 4294967296)))),(11,i6 i49),(10,i6 i36),(933,zs m33),(9,.box 76 20 (T10 gs31 (qy X Y n s))),(928,zs m28),(8,.box 76 20 (T10 gs26 (qy U V 7 (yg [49,50])))),(921,zs m21),(6,.box 76 20 (T10 gs19 (qy X Y n s))),(7,.box 76 20 (T10 ks19 (qy X Y n s))),(5,.box 76 20 (xq m13 (qy X Y n s))),(913,zs m13),(3,.box 52 2 (jc g11 ngx nx (jr Ae xx i36.toNat))),(909,zs m9),(1,.box 71 10 (x8 n s)),(2,bv false),(218,zs lo)]) (nb:=[]) H56 2 [2] rfl (by kernel_rfl) rfl rfl ?_ ?_
     ·refine cp (qh (.tmp 0 rfl)) ?_
      refine cp (Aq (r:=(i49+1)) (.tmp 0 rfl) (.lit) (xh (by omega))) ?_
      exact .nil
     clear H56 a55 w56 B55
     intro a57 w57 B57 H57
     refine zi ?_
     refine jm (D:=i6 (i49+1)) (l':=[(11,i6 (i49+1)),(159,i6 (i49+1)),(4,.box 52 2 (jc k11 ngy ny (List.set (jr xe xy i49.toNat) i49.toNat (((jr xe xy i49.toNat)[i49.toNat]?.getD 0+3) % 4294967296)))),(10,i6 i36),(933,zs m33),(9,.box 76 20 (T10 gs31 (qy X Y n s))),(928,zs m28),(8,.box 76 20 (T10 gs26 (qy U V 7 (yg [49,50])))),(921,zs m21),(6,.box 76 20 (T10 gs19 (qy X Y n s))),(7,.box 76 20 (T10 ks19 (qy X Y n s))),(5,.box 76 20 (xq m13 (qy X Y n s))),(913,zs m13),(3,.box 52 2 (jc g11 ngx nx (jr Ae xx i36.toNat))),(909,zs m9),(1,.box 71 10 (x8 n s)),(2,bv false),(218,zs lo)]) H57 rfl rfl rfl (.plain rfl (qm (.tmp 0 rfl))) rfl rfl ?_
     clear H57 a57 w57 B57
     intro a58 w58 B58 H58
     refine qi ?_
     have H59:=St.setwB H58 2 (D':=jc k11 ngy ny (jr xe xy (i49+1).toNat)) rfl (fun v h=>by rw [show (i49+1).toNat=i49.toNat+1 by omega,←qce xe xy i49.toNat (by omega)];rw [qcd] at h;  exact h) (l':=[(11,i6 (i49+1)),(159,i6 (i49+1)),(4,.box 52 2 (jc k11 ngy ny (jr xe xy (i49+1).toNat))),(10,i6 i36),(933,zs m33),(9,.box 76 20 (T10 gs31 (qy X Y n s))),(928,zs m28),(8,.box 76 20 (T10 gs26 (qy U V 7 (yg [49,50])))),(921,zs m21),(6,.box 76 20 (T10 gs19 (qy X Y n s))),(7,.box 76 20 (T10 ks19 (qy X Y n s))),(5,.box 76 20 (xq m13 (qy X Y n s))),(913,zs m13),(3,.box 52 2 (jc g11 ngx nx (jr Ae xx i36.toNat))),(909,zs m9),(1,.box 71 10 (x8 n s)),(2,bv false),(218,zs lo)]) rfl
     clear H58
     exact ⟨i49+1,B58,by exact ⟨by omega,by omega⟩,St.pick H59 [0,3,4,5,6,7,8,9,10,11,12,13,2,14,15,16,17] rfl,by show ((ny:Int)-(i49+1)).toNat<((ny:Int)-i49).toNat;omega⟩
    ·intro hc54
     replace hc54:=of_decide_eq_false hc54
     refine wp_exit ?_
     refine jy ?_
     refine jy ?_
     refine Am ?_
     refine qg ?_
     refine wp_seq ?_
     have dKx:=fun j=>Qi (f:=Ae) dx (fun k x hk h=>by exact Xx k (by omega) x h) j
     obtain ⟨X2,hX2⟩:∃X,sI ngx (val 4294967296 (jr Ae xx i36.toNat))=X:=⟨_,rfl⟩
     have fX2:yz 1024 X2:=hX2 ▸ qjs ngx (by rw [Qj];omega) (dKx (_))
     have dKy:=fun j=>Qi (f:=xe) dy (fun k x hk h=>by unfold xe;omega) j
     obtain ⟨Y2,hY2⟩:∃X,sI ngy (val 4294967296 (jr xe xy i49.toNat))=X:=⟨_,rfl⟩
     have fY2:yz 1024 Y2:=hY2 ▸ qjs ngy (by rw [Qj];omega) (dKy (_))
     refine fr (refs:=[[.pre 12],[.pre 13],[.pre 15],[.res 2],[.pre 15],[.res 4],[.res 0,.res 1,.res 3,.res 5,.pre 3],[]]) (outs:=[.res 6,.res 7]++pr 1 17) (als:=[false,false,false,false,false,false,false,true]) (posts:=[.val (jc g11 ngx nx (jr Ae xx i36.toNat)),.val (jc k11 ngy ny (jr xe xy i49.toNat)),.ptr 71 10 (x8 n s) 8,i6 n,.ptr 71 10 (x8 n s) 9,.val (Lit (.string s)),.val (xq m33 (qy X2 Y2 n s)),.box 76 20 (jb (lst []))])
      (out:=[(176,.val (xq m33 (qy X2 Y2 n s))),(12,.box 76 20 (jb (lst []))),(11,i6 i49),(10,i6 i36),(933,zs m33),(9,.box 76 20 (T10 gs31 (qy X Y n s))),(928,zs m28),(8,.box 76 20 (T10 gs26 (qy U V 7 (yg [49,50])))),(921,zs m21),(6,.box 76 20 (T10 gs19 (qy X Y n s))),(7,.box 76 20 (T10 ks19 (qy X Y n s))),(5,.box 76 20 (xq m13 (qy X Y n s))),(913,zs m13),(3,.box 52 2 (jc g11 ngx nx (jr Ae xx i36.toNat))),(4,.box 52 2 (jc k11 ngy ny (jr xe xy i49.toNat))),(909,zs m9),(1,.box 71 10 (x8 n s)),(2,bv false),(218,zs lo)]) (nb:=[12]) H53 8 [8] rfl (by kernel_rfl) rfl rfl ?_ ?_
     ·refine cp (zo tyI (.tmp 0 rfl)) ?_
      refine cp (zo tyI (.tmp 0 rfl)) ?_
      refine cp (Ik (.tmp 0 rfl)) ?_
      refine cp (Sm (.tmp 0 rfl)) ?_
      refine cp (G9 (.tmp 0 rfl)) ?_
      refine cp (Sr (.tmp 0 rfl)) ?_
      refine cp (y9 4 (N7 X2 Y2 n s fX2 fY2 hn (by omega)) rfl (.cons (.weak (.weak (.tmp 0 rfl) Ef) (Hy (by omega) hX2)) (.cons (.weak (.weak (.tmp 1 rfl) Ef) (Hy (by omega) hY2)) (.cons (.tmp 2 rfl) (.cons (.tmp 3 rfl) (.nil)))))) ?_
      refine cp (Dx) ?_
      exact .nil
     clear H53 a53 w53 B53
     intro a60 w60 B60 H60
     simp only [List.cons_append,List.nil_append] at H60
     refine zi ?_
     refine ja (l':=[(176,.val (xq m33 (qy X2 Y2 n s))),(12,.box 76 20 (xq m33 (qy X2 Y2 n s))),(11,i6 i49),(10,i6 i36),(933,zs m33),(9,.box 76 20 (T10 gs31 (qy X Y n s))),(928,zs m28),(8,.box 76 20 (T10 gs26 (qy U V 7 (yg [49,50])))),(921,zs m21),(6,.box 76 20 (T10 gs19 (qy X Y n s))),(7,.box 76 20 (T10 ks19 (qy X Y n s))),(5,.box 76 20 (xq m13 (qy X Y n s))),(913,zs m13),(3,.box 52 2 (jc g11 ngx nx (jr Ae xx i36.toNat))),(4,.box 52 2 (jc k11 ngy ny (jr xe xy i49.toNat))),(909,zs m9),(1,.box 71 10 (x8 n s)),(2,bv false),(218,zs lo)]) 1 H60 rfl Dz rfl (.tmp 0 rfl) Bj Bj rfl rfl ?_
     clear H60 w60
     intro w61 H61
     refine qi ?_
     refine qg ?_
     refine wp_seq ?_
     refine fr (refs:=[[.pre 13],[.pre 14],[.pre 16],[.res 2],[.pre 16],[.res 4],[.res 0,.res 1,.res 3,.res 5,.pre 4],[]]) (outs:=[.res 6,.res 7]++pr 1 18) (als:=[false,false,false,false,false,false,false,true]) (posts:=[.val (jc g11 ngx nx (jr Ae xx i36.toNat)),.val (jc k11 ngy ny (jr xe xy i49.toNat)),.ptr 71 10 (x8 n s) 8,i6 n,.ptr 71 10 (x8 n s) 9,.val (Lit (.string s)),.val (Gt m33 (qy X2 Y2 n s)),.box 76 20 (jb (lst []))])
      (out:=[(183,.val (Gt m33 (qy X2 Y2 n s))),(13,.box 76 20 (jb (lst []))),(12,.box 76 20 (xq m33 (qy X2 Y2 n s))),(11,i6 i49),(10,i6 i36),(933,zs m33),(9,.box 76 20 (T10 gs31 (qy X Y n s))),(928,zs m28),(8,.box 76 20 (T10 gs26 (qy U V 7 (yg [49,50])))),(921,zs m21),(6,.box 76 20 (T10 gs19 (qy X Y n s))),(7,.box 76 20 (T10 ks19 (qy X Y n s))),(5,.box 76 20 (xq m13 (qy X Y n s))),(913,zs m13),(3,.box 52 2 (jc g11 ngx nx (jr Ae xx i36.toNat))),(4,.box 52 2 (jc k11 ngy ny (jr xe xy i49.toNat))),(909,zs m9),(1,.box 71 10 (x8 n s)),(2,bv false),(218,zs lo)]) (nb:=[13]) H61 8 [8] rfl (by kernel_rfl) rfl rfl ?_ ?_
     ·refine cp (zo tyI (.tmp 0 rfl)) ?_
      refine cp (zo tyI (.tmp 0 rfl)) ?_
      refine cp (Ik (.tmp 0 rfl)) ?_
      refine cp (Sm (.tmp 0 rfl)) ?_
      refine cp (G9 (.tmp 0 rfl)) ?_
      refine cp (Sr (.tmp 0 rfl)) ?_
      refine cp (y9 4 (Ic X2 Y2 n s fX2 fY2 hn (by omega)) rfl (.cons (.weak (.weak (.tmp 0 rfl) Ef) (Hy (by omega) hX2)) (.cons (.weak (.weak (.tmp 1 rfl) Ef) (Hy (by omega) hY2)) (.cons (.tmp 2 rfl) (.cons (.tmp 3 rfl) (.nil)))))) ?_
      refine cp (Dx) ?_
      exact .nil
     clear H61 a60 w61 B60
     intro a62 w62 B62 H62
     simp only [List.cons_append,List.nil_append] at H62
     refine zi ?_
     refine ja (l':=[(183,.val (Gt m33 (qy X2 Y2 n s))),(13,.box 76 20 (Gt m33 (qy X2 Y2 n s))),(12,.box 76 20 (xq m33 (qy X2 Y2 n s))),(11,i6 i49),(10,i6 i36),(933,zs m33),(9,.box 76 20 (T10 gs31 (qy X Y n s))),(928,zs m28),(8,.box 76 20 (T10 gs26 (qy U V 7 (yg [49,50])))),(921,zs m21),(6,.box 76 20 (T10 gs19 (qy X Y n s))),(7,.box 76 20 (T10 ks19 (qy X Y n s))),(5,.box 76 20 (xq m13 (qy X Y n s))),(913,zs m13),(3,.box 52 2 (jc g11 ngx nx (jr Ae xx i36.toNat))),(4,.box 52 2 (jc k11 ngy ny (jr xe xy i49.toNat))),(909,zs m9),(1,.box 71 10 (x8 n s)),(2,bv false),(218,zs lo)]) 1 H62 rfl Dz rfl (.tmp 0 rfl) Bj Rn rfl rfl ?_
     clear H62 w62
     intro w63 H63
     refine qi ?_
     refine qg ?_
     refine wp_seq ?_
     refine wp_seq ?_
     obtain ⟨gs64,hgs64,H64⟩:=St.name10 H63 1 rfl (l':=fun gs64=>[(183,.val (Gt m33 (qy X2 Y2 n s))),(13,.box 76 20 (T10 gs64 (qy X2 Y2 n s))),(12,.box 76 20 (xq m33 (qy X2 Y2 n s))),(11,i6 i49),(10,i6 i36),(933,zs m33),(9,.box 76 20 (T10 gs31 (qy X Y n s))),(928,zs m28),(8,.box 76 20 (T10 gs26 (qy U V 7 (yg [49,50])))),(921,zs m21),(6,.box 76 20 (T10 gs19 (qy X Y n s))),(7,.box 76 20 (T10 ks19 (qy X Y n s))),(5,.box 76 20 (xq m13 (qy X Y n s))),(913,zs m13),(3,.box 52 2 (jc g11 ngx nx (jr Ae xx i36.toNat))),(4,.box 52 2 (jc k11 ngy ny (jr xe xy i49.toNat))),(909,zs m9),(1,.box 71 10 (x8 n s)),(2,bv false),(218,zs lo)]) (fun _=>rfl)
     clear H63
     replace H64:St 218 w0 B0 a62 w63 B62 [(183,.val (Gt m33 (qy X2 Y2 n s))),(13,.box 76 20 (T10 gs64 (qy X2 Y2 n s))),(12,.box 76 20 (xq m33 (qy X2 Y2 n s))),(11,i6 i49),(10,i6 i36),(933,zs m33),(9,.box 76 20 (T10 gs31 (qy X Y n s))),(928,zs m28),(8,.box 76 20 (T10 gs26 (qy U V 7 (yg [49,50])))),(921,zs m21),(6,.box 76 20 (T10 gs19 (qy X Y n s))),(7,.box 76 20 (T10 ks19 (qy X Y n s))),(5,.box 76 20 (xq m13 (qy X Y n s))),(913,zs m13),(3,.box 52 2 (jc g11 ngx nx (jr Ae xx i36.toNat))),(4,.box 52 2 (jc k11 ngy ny (jr xe xy i49.toNat))),(909,zs m9),(1,.box 71 10 (x8 n s)),(2,bv false),(218,zs lo)] [13,12,9,8,6,7,5,3,4,1]:=H64
     have hz65:m33≤w63.heap.size:=H64.fc.get 5 rfl
     obtain ⟨m66,hm66,hw66,hL66,H66⟩:=St.mark H64 966
     clear H64
     clear hL66
     replace hz65:m33≤m66:=Nat.le_trans hz65 hw66
     replace hgs64:=hgs64.mono hw66
     clear hw66
     refine fr (refs:=[[.pre 2],[.pre 3],[.res 0,.res 1],[.res 2],[.res 3],[.res 4,.pre 11],[.res 4,.pre 13],[.res 4,.res 5,.res 6],[.res 4,.res 7],[.res 4,.res 8],[.res 9],[.res 10,.pre 7],[.res 10,.pre 13],[.res 10,.res 11,.res 12],[.res 10,.res 13],[.res 10,.res 14]]) (outs:=[.res 15,.pre 0,.pre 2]++pr 4 17) (als:=fs 16) (posts:=[.val (T10 gs64 (qy X2 Y2 n s)),.val (xq m33 (qy X2 Y2 n s)),bv true,bv false,bv false,.val (T10 gs19 (qy X Y n s)),.val (xq m13 (qy X Y n s)),bv true,bv false,bv false,bv false,.val (T10 gs31 (qy X Y n s)),.val (xq m13 (qy X Y n s)),bv true,bv false,bv false])
      (out:=[(199,bv false),(966,zs m66),(13,.box 76 20 (T10 gs64 (qy X2 Y2 n s))),(11,i6 i49),(10,i6 i36),(933,zs m33),(9,.box 76 20 (T10 gs31 (qy X Y n s))),(928,zs m28),(8,.box 76 20 (T10 gs26 (qy U V 7 (yg [49,50])))),(921,zs m21),(6,.box 76 20 (T10 gs19 (qy X Y n s))),(7,.box 76 20 (T10 ks19 (qy X Y n s))),(5,.box 76 20 (xq m13 (qy X Y n s))),(913,zs m13),(3,.box 52 2 (jc g11 ngx nx (jr Ae xx i36.toNat))),(4,.box 52 2 (jc k11 ngy ny (jr xe xy i49.toNat))),(909,zs m9),(1,.box 71 10 (x8 n s)),(2,bv false),(218,zs lo)]) (nb:=[]) H66 16 [] rfl (by kernel_rfl) rfl rfl ?_ ?_
     ·refine cp (zo Dz (.tmp 0 rfl)) ?_
      refine cp (zo Dz (.tmp 0 rfl)) ?_
      refine cp (zl (G8 (qy X2 Y2 n s)) (.cons (.weak (.tmp 0 rfl) Xt) (.cons (.weak (.tmp 1 rfl) Pz) (.nil)))) ?_
      refine cp (Eh (b:=true) (.tmp 0 rfl)) ?_
      refine cp (qh (.tmp 0 rfl)) ?_
      refine .cons (.wanted 4 false rfl rfl rfl 0 rfl (zo Dz (.tmp 1 rfl))) ?_
      refine .cons (.wanted 4 false rfl rfl rfl 0 rfl (zo Dz (.tmp 1 rfl))) ?_
      refine .cons (.wanted 4 false rfl rfl rfl 0 rfl (zl (G8 (qy X Y n s)) (.cons (.weak (.tmp 1 rfl) Xt) (.cons (.weak (.tmp 2 rfl) Pz) (.nil))))) ?_
      refine .cons (.wanted 4 false rfl rfl rfl 0 rfl (Eh (b:=true) (.tmp 1 rfl))) ?_
      refine cp (Cf (.tmp 0 rfl) (.tmp 1 rfl)) ?_
      refine cp (qh (.tmp 0 rfl)) ?_
      refine .cons (.wanted 10 false rfl rfl rfl 0 rfl (zo Dz (.tmp 1 rfl))) ?_
      refine .cons (.wanted 10 false rfl rfl rfl 0 rfl (zo Dz (.tmp 1 rfl))) ?_
      refine .cons (.wanted 10 false rfl rfl rfl 0 rfl (zl (G8 (qy X Y n s)) (.cons (.weak (.tmp 1 rfl) Xt) (.cons (.weak (.tmp 2 rfl) Pz) (.nil))))) ?_
      refine .cons (.wanted 10 false rfl rfl rfl 0 rfl (Eh (b:=true) (.tmp 1 rfl))) ?_
      refine cp (Cf (.tmp 0 rfl) (.tmp 1 rfl)) ?_
      exact .nil
     clear H66 a62 w63 B62
     intro a67 w67 B67 H67
     refine qi ?_
     refine qg ?_
     refine Fq H67 (.tmp 0 rfl) ?_
     refine wp_skip ?_
     refine qg ?_
     refine wp_seq ?_
     refine fr (refs:=[[]]) (outs:=[.res 0]++pr 1 19) (als:=[true]) (posts:=[.box 42 15 (x9 w0.heap.size (fun _=>True) 0 0 ([]) 0)])
      (out:=[(14,.box 42 15 (x9 w0.heap.size (fun _=>True) 0 0 ([]) 0)),(966,zs m66),(13,.box 76 20 (T10 gs64 (qy X2 Y2 n s))),(11,i6 i49),(10,i6 i36),(933,zs m33),(9,.box 76 20 (T10 gs31 (qy X Y n s))),(928,zs m28),(8,.box 76 20 (T10 gs26 (qy U V 7 (yg [49,50])))),(921,zs m21),(6,.box 76 20 (T10 gs19 (qy X Y n s))),(7,.box 76 20 (T10 ks19 (qy X Y n s))),(5,.box 76 20 (xq m13 (qy X Y n s))),(913,zs m13),(3,.box 52 2 (jc g11 ngx nx (jr Ae xx i36.toNat))),(4,.box 52 2 (jc k11 ngy ny (jr xe xy i49.toNat))),(909,zs m9),(1,.box 71 10 (x8 n s)),(2,bv false),(218,zs lo)]) (nb:=[14]) H67 1 [] rfl (by kernel_rfl) rfl rfl ?_ ?_
     ·refine cp (qap) ?_
      exact .nil
     clear H67 a67 w67 B67
     intro a68 w68 B68 H68
     simp only [List.cons_append,List.nil_append] at H68
     refine qi ?_
     refine qg ?_
     refine wp_seq ?_
     have H69:=St.setwB H68 0 (D':=x9 w0.heap.size (fun _=>True) m66 m66 ([]) 0) rfl (fun v h=>qdi v h) (l':=[(14,.box 42 15 (x9 w0.heap.size (fun _=>True) m66 m66 ([]) 0)),(966,zs m66),(13,.box 76 20 (T10 gs64 (qy X2 Y2 n s))),(11,i6 i49),(10,i6 i36),(933,zs m33),(9,.box 76 20 (T10 gs31 (qy X Y n s))),(928,zs m28),(8,.box 76 20 (T10 gs26 (qy U V 7 (yg [49,50])))),(921,zs m21),(6,.box 76 20 (T10 gs19 (qy X Y n s))),(7,.box 76 20 (T10 ks19 (qy X Y n s))),(5,.box 76 20 (xq m13 (qy X Y n s))),(913,zs m13),(3,.box 52 2 (jc g11 ngx nx (jr Ae xx i36.toNat))),(4,.box 52 2 (jc k11 ngy ny (jr xe xy i49.toNat))),(909,zs m9),(1,.box 71 10 (x8 n s)),(2,bv false),(218,zs lo)]) rfl
     clear H68
     refine fr (refs:=[[.pre 10]]) (outs:=[.res 0]++pr 0 20) (als:=[false]) (posts:=[.val (T10 gs19 (qy X Y n s))])
      (out:=[(200,.val (T10 gs19 (qy X Y n s))),(14,.box 42 15 (x9 w0.heap.size (fun _=>True) m66 m66 ([]) 0)),(966,zs m66),(13,.box 76 20 (T10 gs64 (qy X2 Y2 n s))),(11,i6 i49),(10,i6 i36),(933,zs m33),(9,.box 76 20 (T10 gs31 (qy X Y n s))),(928,zs m28),(8,.box 76 20 (T10 gs26 (qy U V 7 (yg [49,50])))),(921,zs m21),(6,.box 76 20 (T10 gs19 (qy X Y n s))),(7,.box 76 20 (T10 ks19 (qy X Y n s))),(5,.box 76 20 (xq m13 (qy X Y n s))),(913,zs m13),(3,.box 52 2 (jc g11 ngx nx (jr Ae xx i36.toNat))),(4,.box 52 2 (jc k11 ngy ny (jr xe xy i49.toNat))),(909,zs m9),(1,.box 71 10 (x8 n s)),(2,bv false),(218,zs lo)]) (nb:=[]) H69 1 [1] rfl (by kernel_rfl) rfl rfl ?_ ?_
     ·refine cp (zo Dz (.tmp 0 rfl)) ?_
      exact .nil
     clear H69 a68 w68 B68
     intro a70 w70 B70 H70
     refine zi ?_
     have hk71:∀j x,List.getD gs19 j none=some x→w0.heap.size≤x∧¬(m66≤x∧x<m66)∧some x ∉ ([]:List (Option Nat)):=fun j x hx=>⟨by have:=hgs19.lo j x hx;omega,fun h=>by have:=hgs19.lo j x hx;omega,by simp⟩
     refine Nw (cnt:=0) (n:=10) (ks:=[(200,.val (T10 gs19 (qy X Y n s))),(966,zs m66),(13,.box 76 20 (T10 gs64 (qy X2 Y2 n s))),(11,i6 i49),(10,i6 i36),(933,zs m33),(9,.box 76 20 (T10 gs31 (qy X Y n s))),(928,zs m28),(8,.box 76 20 (T10 gs26 (qy U V 7 (yg [49,50])))),(921,zs m21),(6,.box 76 20 (T10 gs19 (qy X Y n s))),(7,.box 76 20 (T10 ks19 (qy X Y n s))),(5,.box 76 20 (xq m13 (qy X Y n s))),(913,zs m13),(3,.box 52 2 (jc g11 ngx nx (jr Ae xx i36.toNat))),(4,.box 52 2 (jc k11 ngy ny (jr xe xy i49.toNat))),(909,zs m9),(2,bv false),(218,zs lo)]) 1 2 [0,2,3,4,5,6,7,8,9,10,11,12,13,14,15,16,17,19,20] H70 rfl (Hl rfl) (fun _ _=>by go_simp) (Jo gs19 (qy X Y n s) hgs19) rfl (rfl) (.tmp 0 rfl) hk71 (fun u w B h=>qb9 hgs19.len u w B h) rfl (by omega) (fun _ _=>trivial) rfl (by kernel_rfl) (.cons (vw) (.cons (ji) (.cons (zx (by decide) vw) (.cons (xw) (.cons (xw) (.cons (ji) (.cons (zx (by decide) vw) (.cons (ji) (.cons (zx (by decide) vw) (.cons (ji) (.cons (zx (by decide) vw) (.cons (zx (by decide) vw) (.cons (zx (by decide) Ig) (.cons (ji) (.cons (zx (by decide) Eb) (.cons (zx (by decide) Eb) (.cons (ji) (.cons (xw) (.cons (ji) (.nil)))))))))))))))))))) (by decide) ?_
     clear H70 hk71 a70 w70 B70
     intro a71 w71 B71 H71
     refine qi ?_
     refine qg ?_
     refine wp_seq ?_
     refine fr (refs:=[[.pre 13]]) (outs:=[.res 0,.pre 1]++pr 3 18) (als:=[false]) (posts:=[.val (T10 ks19 (qy X Y n s))])
      (out:=[(202,.val (T10 ks19 (qy X Y n s))),(14,.box 42 15 (x9 w0.heap.size (fun _=>True) m66 m66 (gs19++[]) 10)),(966,zs m66),(13,.box 76 20 (T10 gs64 (qy X2 Y2 n s))),(11,i6 i49),(10,i6 i36),(933,zs m33),(9,.box 76 20 (T10 gs31 (qy X Y n s))),(928,zs m28),(8,.box 76 20 (T10 gs26 (qy U V 7 (yg [49,50])))),(921,zs m21),(6,.box 76 20 (T10 gs19 (qy X Y n s))),(7,.box 76 20 (T10 ks19 (qy X Y n s))),(5,.box 76 20 (xq m13 (qy X Y n s))),(913,zs m13),(3,.box 52 2 (jc g11 ngx nx (jr Ae xx i36.toNat))),(4,.box 52 2 (jc k11 ngy ny (jr xe xy i49.toNat))),(909,zs m9),(2,bv false),(218,zs lo)]) (nb:=[]) H71 1 [1] rfl (by kernel_rfl) rfl rfl ?_ ?_
     ·refine cp (zo Dz (.tmp 0 rfl)) ?_
      exact .nil
     clear H71 a71 w71 B71
     intro a72 w72 B72 H72
     refine zi ?_
     have hk73:∀j x,List.getD ks19 j none=some x→w0.heap.size≤x∧¬(m66≤x∧x<m66)∧some x ∉ (gs19++[]):=fun j x hx=>⟨by have:=hks19.lo j x hx;omega,fun h=>by have:=hks19.lo j x hx;omega,fun h=>by simp only [List.mem_append,List.not_mem_nil,or_false] at h;exact (by obtain ⟨i,hi,e⟩:=List.getElem_of_mem h;exact hn19 i j x (by rw [List.getD_eq_getElem?_getD,List.getElem?_eq_getElem hi,e];rfl) hx)⟩
     refine Nw (cnt:=10) (n:=10) (ks:=[(202,.val (T10 ks19 (qy X Y n s))),(966,zs m66),(13,.box 76 20 (T10 gs64 (qy X2 Y2 n s))),(11,i6 i49),(10,i6 i36),(933,zs m33),(9,.box 76 20 (T10 gs31 (qy X Y n s))),(928,zs m28),(8,.box 76 20 (T10 gs26 (qy U V 7 (yg [49,50])))),(921,zs m21),(6,.box 76 20 (T10 gs19 (qy X Y n s))),(7,.box 76 20 (T10 ks19 (qy X Y n s))),(5,.box 76 20 (xq m13 (qy X Y n s))),(913,zs m13),(3,.box 52 2 (jc g11 ngx nx (jr Ae xx i36.toNat))),(4,.box 52 2 (jc k11 ngy ny (jr xe xy i49.toNat))),(909,zs m9),(2,bv false),(218,zs lo)]) 1 2 [0,2,3,4,5,6,7,8,9,10,11,12,13,14,15,16,17,18,19] H72 rfl (Hl rfl) (fun _ _=>by go_simp) (Jo ks19 (qy X Y n s) hks19) rfl (rfl) (.tmp 0 rfl) hk73 (fun u w B h=>qb9 hks19.len u w B h) rfl (by omega) (fun _ _=>trivial) rfl (by kernel_rfl) (.cons (vw) (.cons (ji) (.cons (zx (by decide) vw) (.cons (xw) (.cons (xw) (.cons (ji) (.cons (zx (by decide) vw) (.cons (ji) (.cons (zx (by decide) vw) (.cons (ji) (.cons (zx (by decide) vw) (.cons (zx (by decide) vw) (.cons (zx (by decide) Ig) (.cons (ji) (.cons (zx (by decide) Eb) (.cons (zx (by decide) Eb) (.cons (ji) (.cons (xw) (.cons (ji) (.nil)))))))))))))))))))) (by decide) ?_
     clear H72 hk73 a72 w72 B72
     intro a73 w73 B73 H73
     refine qi ?_
     refine qg ?_
     refine wp_seq ?_
     refine fr (refs:=[[.pre 10]]) (outs:=[.res 0,.pre 1]++pr 3 18) (als:=[false]) (posts:=[.val (T10 gs26 (qy U V 7 (yg [49,50])))])
      (out:=[(204,.val (T10 gs26 (qy U V 7 (yg [49,50])))),(14,.box 42 15 (x9 w0.heap.size (fun _=>True) m66 m66 (ks19++(gs19++[])) 20)),(966,zs m66),(13,.box 76 20 (T10 gs64 (qy X2 Y2 n s))),(11,i6 i49),(10,i6 i36),(933,zs m33),(9,.box 76 20 (T10 gs31 (qy X Y n s))),(928,zs m28),(8,.box 76 20 (T10 gs26 (qy U V 7 (yg [49,50])))),(921,zs m21),(6,.box 76 20 (T10 gs19 (qy X Y n s))),(7,.box 76 20 (T10 ks19 (qy X Y n s))),(5,.box 76 20 (xq m13 (qy X Y n s))),(913,zs m13),(3,.box 52 2 (jc g11 ngx nx (jr Ae xx i36.toNat))),(4,.box 52 2 (jc k11 ngy ny (jr xe xy i49.toNat))),(909,zs m9),(2,bv false),(218,zs lo)]) (nb:=[]) H73 1 [1] rfl (by kernel_rfl) rfl rfl ?_ ?_
     ·refine cp (zo Dz (.tmp 0 rfl)) ?_
      exact .nil
     clear H73 a73 w73 B73
     intro a74 w74 B74 H74
     refine zi ?_
     have hk75:∀j x,List.getD gs26 j none=some x→w0.heap.size≤x∧¬(m66≤x∧x<m66)∧some x ∉ (ks19++(gs19++[])):=fun j x hx=>⟨by have:=hgs26.lo j x hx;omega,fun h=>by have:=hgs26.lo j x hx;omega,fun h=>by simp only [List.mem_append,List.not_mem_nil,or_false] at h;rcases h with h | h <;> first | exact (by have h1:=hks19.mem h;have h2:=hgs26.lo j x hx;omega) | exact (by have h1:=hgs19.mem h;have h2:=hgs26.lo j x hx;omega)⟩
     refine Nw (cnt:=20) (n:=10) (ks:=[(204,.val (T10 gs26 (qy U V 7 (yg [49,50])))),(966,zs m66),(13,.box 76 20 (T10 gs64 (qy X2 Y2 n s))),(11,i6 i49),(10,i6 i36),(933,zs m33),(9,.box 76 20 (T10 gs31 (qy X Y n s))),(928,zs m28),(8,.box 76 20 (T10 gs26 (qy U V 7 (yg [49,50])))),(921,zs m21),(6,.box 76 20 (T10 gs19 (qy X Y n s))),(7,.box 76 20 (T10 ks19 (qy X Y n s))),(5,.box 76 20 (xq m13 (qy X Y n s))),(913,zs m13),(3,.box 52 2 (jc g11 ngx nx (jr Ae xx i36.toNat))),(4,.box 52 2 (jc k11 ngy ny (jr xe xy i49.toNat))),(909,zs m9),(2,bv false),(218,zs lo)]) 1 2 [0,2,3,4,5,6,7,8,9,10,11,12,13,14,15,16,17,18,19] H74 rfl (Hl rfl) (fun _ _=>by go_simp) (Jo gs26 (qy U V 7 (yg [49,50])) hgs26) rfl (rfl) (.tmp 0 rfl) hk75 (fun u w B h=>qb9 hgs26.len u w B h) rfl (by omega) (fun _ _=>trivial) rfl (by kernel_rfl) (.cons (vw) (.cons (ji) (.cons (zx (by decide) vw) (.cons (xw) (.cons (xw) (.cons (ji) (.cons (zx (by decide) vw) (.cons (ji) (.cons (zx (by decide) vw) (.cons (ji) (.cons (zx (by decide) vw) (.cons (zx (by decide) vw) (.cons (zx (by decide) Ig) (.cons (ji) (.cons (zx (by decide) Eb) (.cons (zx (by decide) Eb) (.cons (ji) (.cons (xw) (.cons (ji) (.nil)))))))))))))))))))) (by decide) ?_
     clear H74 hk75 a74 w74 B74
     intro a75 w75 B75 H75
     refine qi ?_
     refine qg ?_
     refine wp_seq ?_
     refine fr (refs:=[[.pre 8]]) (outs:=[.res 0,.pre 1]++pr 3 18) (als:=[false]) (posts:=[.val (T10 gs31 (qy X Y n s))])
      (out:=[(206,.val (T10 gs31 (qy X Y n s))),(14,.box 42 15 (x9 w0.heap.size (fun _=>True) m66 m66 (gs26++(ks19++(gs19++[]))) 30)),(966,zs m66),(13,.box 76 20 (T10 gs64 (qy X2 Y2 n s))),(11,i6 i49),(10,i6 i36),(933,zs m33),(9,.box 76 20 (T10 gs31 (qy X Y n s))),(928,zs m28),(8,.box 76 20 (T10 gs26 (qy U V 7 (yg [49,50])))),(921,zs m21),(6,.box 76 20 (T10 gs19 (qy X Y n s))),(7,.box 76 20 (T10 ks19 (qy X Y n s))),(5,.box 76 20 (xq m13 (qy X Y n s))),(913,zs m13),(3,.box 52 2 (jc g11 ngx nx (jr Ae xx i36.toNat))),(4,.box 52 2 (jc k11 ngy ny (jr xe xy i49.toNat))),(909,zs m9),(2,bv false),(218,zs lo)]) (nb:=[]) H75 1 [1] rfl (by kernel_rfl) rfl rfl ?_ ?_
     ·refine cp (zo Dz (.tmp 0 rfl)) ?_
      exact .nil
     clear H75 a75 w75 B75
     intro a76 w76 B76 H76
     refine zi ?_
     have hk77:∀j x,List.getD gs31 j none=some x→w0.heap.size≤x∧¬(m66≤x∧x<m66)∧some x ∉ (gs26++(ks19++(gs19++[]))):=fun j x hx=>⟨by have:=hgs31.lo j x hx;omega,fun h=>by have:=hgs31.lo j x hx;omega,fun h=>by simp only [List.mem_append,List.not_mem_nil,or_false] at h;rcases h with h | h | h <;> first | exact (by have h1:=hgs26.mem h;have h2:=hgs31.lo j x hx;omega) | exact (by have h1:=hks19.mem h;have h2:=hgs31.lo j x hx;omega) | exact (by have h1:=hgs19.mem h;have h2:=hgs31.lo j x hx;omega)⟩
     refine Nw (cnt:=30) (n:=10) (ks:=[(206,.val (T10 gs31 (qy X Y n s))),(966,zs m66),(13,.box 76 20 (T10 gs64 (qy X2 Y2 n s))),(11,i6 i49),(10,i6 i36),(933,zs m33),(9,.box 76 20 (T10 gs31 (qy X Y n s))),(928,zs m28),(8,.box 76 20 (T10 gs26 (qy U V 7 (yg [49,50])))),(921,zs m21),(6,.box 76 20 (T10 gs19 (qy X Y n s))),(7,.box 76 20 (T10 ks19 (qy X Y n s))),(5,.box 76 20 (xq m13 (qy X Y n s))),(913,zs m13),(3,.box 52 2 (jc g11 ngx nx (jr Ae xx i36.toNat))),(4,.box 52 2 (jc k11 ngy ny (jr xe xy i49.toNat))),(909,zs m9),(2,bv false),(218,zs lo)]) 1 2 [0,2,3,4,5,6,7,8,9,10,11,12,13,14,15,16,17,18,19] H76 rfl (Hl rfl) (fun _ _=>by go_simp) (Jo gs31 (qy X Y n s) hgs31) rfl (rfl) (.tmp 0 rfl) hk77 (fun u w B h=>qb9 hgs31.len u w B h) rfl (by omega) (fun _ _=>trivial) rfl (by kernel_rfl) (.cons (vw) (.cons (ji) (.cons (zx (by decide) vw) (.cons (xw) (.cons (xw) (.cons (ji) (.cons (zx (by decide) vw) (.cons (ji) (.cons (zx (by decide) vw) (.cons (ji) (.cons (zx (by decide) vw) (.cons (zx (by decide) vw) (.cons (zx (by decide) Ig) (.cons (ji) (.cons (zx (by decide) Eb) (.cons (zx (by decide) Eb) (.cons (ji) (.cons (xw) (.cons (ji) (.nil)))))))))))))))))))) (by decide) ?_
     clear H76 hk77 a76 w76 B76
     intro a77 w77 B77 H77
     refine qi ?_
     refine qg ?_
     refine wp_seq ?_
     refine fr (refs:=[[.pre 4]]) (outs:=[.res 0,.pre 1,.pre 3]++pr 5 16) (als:=[false]) (posts:=[.val (T10 gs64 (qy X2 Y2 n s))])
      (out:=[(208,.val (T10 gs64 (qy X2 Y2 n s))),(14,.box 42 15 (x9 w0.heap.size (fun _=>True) m66 m66 (gs31++(gs26++(ks19++(gs19++[])))) 40)),(966,zs m66),(11,i6 i49),(10,i6 i36),(933,zs m33),(9,.box 76 20 (T10 gs31 (qy X Y n s))),(928,zs m28),(8,.box 76 20 (T10 gs26 (qy U V 7 (yg [49,50])))),(921,zs m21),(6,.box 76 20 (T10 gs19 (qy X Y n s))),(7,.box 76 20 (T10 ks19 (qy X Y n s))),(5,.box 76 20 (xq m13 (qy X Y n s))),(913,zs m13),(3,.box 52 2 (jc g11 ngx nx (jr Ae xx i36.toNat))),(4,.box 52 2 (jc k11 ngy ny (jr xe xy i49.toNat))),(909,zs m9),(2,bv false),(218,zs lo)]) (nb:=[]) H77 1 [1] rfl (by kernel_rfl) rfl rfl ?_ ?_
     ·refine cp (zo Dz (.tmp 0 rfl)) ?_
      exact .nil
     clear H77 a77 w77 B77
     intro a78 w78 B78 H78
     refine zi ?_
     have hk79:∀j x,List.getD gs64 j none=some x→w0.heap.size≤x∧¬(m66≤x∧x<m66)∧some x ∉ (gs31++(gs26++(ks19++(gs19++[])))):=fun j x hx=>⟨by have:=hgs64.lo j x hx;omega,fun h=>by have:=hgs64.lo j x hx;omega,fun h=>by simp only [List.mem_append,List.not_mem_nil,or_false] at h;rcases h with h | h | h | h <;> first | exact (by have h1:=hgs31.mem h;have h2:=hgs64.lo j x hx;omega) | exact (by have h1:=hgs26.mem h;have h2:=hgs64.lo j x hx;omega) | exact (by have h1:=hks19.mem h;have h2:=hgs64.lo j x hx;omega) | exact (by have h1:=hgs19.mem h;have h2:=hgs64.lo j x hx;omega)⟩
     refine Nw (cnt:=40) (n:=10) (ks:=[(208,.val (T10 gs64 (qy X2 Y2 n s))),(966,zs m66),(11,i6 i49),(10,i6 i36),(933,zs m33),(9,.box 76 20 (T10 gs31 (qy X Y n s))),(928,zs m28),(8,.box 76 20 (T10 gs26 (qy U V 7 (yg [49,50])))),(921,zs m21),(6,.box 76 20 (T10 gs19 (qy X Y n s))),(7,.box 76 20 (T10 ks19 (qy X Y n s))),(5,.box 76 20 (xq m13 (qy X Y n s))),(913,zs m13),(3,.box 52 2 (jc g11 ngx nx (jr Ae xx i36.toNat))),(4,.box 52 2 (jc k11 ngy ny (jr xe xy i49.toNat))),(909,zs m9),(2,bv false),(218,zs lo)]) 1 2 [0,2,3,4,5,6,7,8,9,10,11,12,13,14,15,16,17,18] H78 rfl (Hl rfl) (fun _ _=>by go_simp) (Jo gs64 (qy X2 Y2 n s) hgs64) rfl (rfl) (.tmp 0 rfl) hk79 (fun u w B h=>qb9 hgs64.len u w B h) rfl (by omega) (fun _ _=>trivial) rfl (by kernel_rfl) (.cons (vw) (.cons (ji) (.cons (xw) (.cons (xw) (.cons (ji) (.cons (zx (by decide) vw) (.cons (ji) (.cons (zx (by decide) vw) (.cons (ji) (.cons (zx (by decide) vw) (.cons (zx (by decide) vw) (.cons (zx (by decide) Ig) (.cons (ji) (.cons (zx (by decide) Eb) (.cons (zx (by decide) Eb) (.cons (ji) (.cons (xw) (.cons (ji) (.nil))))))))))))))))))) (by decide) ?_
     clear H78 hk79 a78 w78 B78
     intro a79 w79 B79 H79
     refine qi ?_
     refine qg ?_
     refine wp_seq ?_
     refine fr (refs:=[[.pre 15]]) (outs:=[.res 0,.pre 1]++pr 3 17) (als:=[false]) (posts:=[.val (jc g11 ngx nx (jr Ae xx i36.toNat))])
      (out:=[(210,.val (jc g11 ngx nx (jr Ae xx i36.toNat))),(14,.box 42 15 (x9 w0.heap.size (fun _=>True) m66 m66 (gs64++(gs31++(gs26++(ks19++(gs19++[]))))) 50)),(966,zs m66),(11,i6 i49),(10,i6 i36),(933,zs m33),(9,.box 76 20 (T10 gs31 (qy X Y n s))),(928,zs m28),(8,.box 76 20 (T10 gs26 (qy U V 7 (yg [49,50])))),(921,zs m21),(6,.box 76 20 (T10 gs19 (qy X Y n s))),(7,.box 76 20 (T10 ks19 (qy X Y n s))),(5,.box 76 20 (xq m13 (qy X Y n s))),(913,zs m13),(3,.box 52 2 (jc g11 ngx nx (jr Ae xx i36.toNat))),(4,.box 52 2 (jc k11 ngy ny (jr xe xy i49.toNat))),(909,zs m9),(2,bv false),(218,zs lo)]) (nb:=[]) H79 1 [1] rfl (by kernel_rfl) rfl rfl ?_ ?_
     ·refine cp (zo tyI (.tmp 0 rfl)) ?_
      exact .nil
     clear H79 a79 w79 B79
     intro a80 w80 B80 H80
     refine zi ?_
     have hk81:∀b,g11=some b→w0.heap.size≤b∧¬(m66≤b∧b<m66)∧some b ∉ (gs64++(gs31++(gs26++(ks19++(gs19++[]))))):=fun b hb=>⟨by have:=hg11 b hb;omega,fun hx=>by have:=hg11 b hb;omega,fun hx=>by simp only [List.mem_cons,List.mem_append,List.not_mem_nil,or_false] at hx;rcases hx with hx | hx | hx | hx | hx <;> first | exact (by have h1:=hgs64.mem hx;have h2:=hg11 b hb;omega) | exact (by have h1:=hgs31.mem hx;have h2:=hg11 b hb;omega) | exact (by have h1:=hgs26.mem hx;have h2:=hg11 b hb;omega) | exact (by have h1:=hks19.mem hx;have h2:=hg11 b hb;omega) | exact (by have h1:=hgs19.mem hx;have h2:=hg11 b hb;omega)⟩
     refine Vs (cnt:=50) (ks:=[(966,zs m66),(11,i6 i49),(10,i6 i36),(933,zs m33),(9,.box 76 20 (T10 gs31 (qy X Y n s))),(928,zs m28),(8,.box 76 20 (T10 gs26 (qy U V 7 (yg [49,50])))),(921,zs m21),(6,.box 76 20 (T10 gs19 (qy X Y n s))),(7,.box 76 20 (T10 ks19 (qy X Y n s))),(5,.box 76 20 (xq m13 (qy X Y n s))),(913,zs m13),(3,.box 52 2 (jc g11 ngx nx (jr Ae xx i36.toNat))),(4,.box 52 2 (jc k11 ngy ny (jr xe xy i49.toNat))),(909,zs m9),(2,bv false),(218,zs lo)]) (l':=[(14,.box 42 15 (x9 w0.heap.size (fun _=>True) m66 m66 (g11 :: (gs64++(gs31++(gs26++(ks19++(gs19++[])))))) 51)),(966,zs m66),(11,i6 i49),(10,i6 i36),(933,zs m33),(9,.box 76 20 (T10 gs31 (qy X Y n s))),(928,zs m28),(8,.box 76 20 (T10 gs26 (qy U V 7 (yg [49,50])))),(921,zs m21),(6,.box 76 20 (T10 gs19 (qy X Y n s))),(7,.box 76 20 (T10 ks19 (qy X Y n s))),(5,.box 76 20 (xq m13 (qy X Y n s))),(913,zs m13),(3,.box 52 2 (jc g11 ngx nx (jr Ae xx i36.toNat))),(4,.box 52 2 (jc k11 ngy ny (jr xe xy i49.toNat))),(909,zs m9),(2,bv false),(218,zs lo)]) 1 [2,3,4,5,6,7,8,9,10,11,12,13,14,15,16,17,18] H80 rfl (fun _ _=>by go_simp) Vp rfl (rfl) (.weak (.tmp 0 rfl) qfy) (by omega) (fun _ _=>trivial) hk81 rfl (by kernel_rfl) (.cons (ji) (.cons (xw) (.cons (xw) (.cons (ji) (.cons (zx (by decide) vw) (.cons (ji) (.cons (zx (by decide) vw) (.cons (ji) (.cons (zx (by decide) vw) (.cons (zx (by decide) vw) (.cons (zx (by decide) Ig) (.cons (ji) (.cons (zx (by decide) Eb) (.cons (zx (by decide) Eb) (.cons (ji) (.cons (xw) (.cons (ji) (.nil)))))))))))))))))) (by decide) rfl ?_
     clear H80 hk81 a80 w80 B80
     intro a81 w81 B81 H81
     refine qi ?_
     refine qg ?_
     refine wp_seq ?_
     refine fr (refs:=[[.pre 14]]) (outs:=[.res 0]++pr 0 18) (als:=[false]) (posts:=[.val (jc k11 ngy ny (jr xe xy i49.toNat))])
      (out:=[(212,.val (jc k11 ngy ny (jr xe xy i49.toNat))),(14,.box 42 15 (x9 w0.heap.size (fun _=>True) m66 m66 (g11 :: (gs64++(gs31++(gs26++(ks19++(gs19++[])))))) 51)),(966,zs m66),(11,i6 i49),(10,i6 i36),(933,zs m33),(9,.box 76 20 (T10 gs31 (qy X Y n s))),(928,zs m28),(8,.box 76 20 (T10 gs26 (qy U V 7 (yg [49,50])))),(921,zs m21),(6,.box 76 20 (T10 gs19 (qy X Y n s))),(7,.box 76 20 (T10 ks19 (qy X Y n s))),(5,.box 76 20 (xq m13 (qy X Y n s))),(913,zs m13),(3,.box 52 2 (jc g11 ngx nx (jr Ae xx i36.toNat))),(4,.box 52 2 (jc k11 ngy ny (jr xe xy i49.toNat))),(909,zs m9),(2,bv false),(218,zs lo)]) (nb:=[]) H81 1 [1] rfl (by kernel_rfl) rfl rfl ?_ ?_
     ·refine cp (zo tyI (.tmp 0 rfl)) ?_
      exact .nil
     clear H81 a81 w81 B81
     intro a82 w82 B82 H82
     refine zi ?_
     have hk83:∀b,k11=some b→w0.heap.size≤b∧¬(m66≤b∧b<m66)∧some b ∉ (g11 :: (gs64++(gs31++(gs26++(ks19++(gs19++[])))))):=fun b hb=>⟨by have:=hk11 b hb;omega,fun hx=>by have:=hk11 b hb;omega,fun hx=>by simp only [List.mem_cons,List.mem_append,List.not_mem_nil,or_false] at hx;rcases hx with hx | hx | hx | hx | hx | hx <;> first | exact (by have h1:=hgs64.mem hx;have h2:=hk11 b hb;omega) | exact (by have h1:=hgs31.mem hx;have h2:=hk11 b hb;omega) | exact (by have h1:=hgs26.mem hx;have h2:=hk11 b hb;omega) | exact (by have h1:=hks19.mem hx;have h2:=hk11 b hb;omega) | exact (by have h1:=hgs19.mem hx;have h2:=hk11 b hb;omega) | exact (hn11 b hx.symm hb)⟩
     refine Vs (cnt:=51) (ks:=[(966,zs m66),(11,i6 i49),(10,i6 i36),(933,zs m33),(9,.box 76 20 (T10 gs31 (qy X Y n s))),(928,zs m28),(8,.box 76 20 (T10 gs26 (qy U V 7 (yg [49,50])))),(921,zs m21),(6,.box 76 20 (T10 gs19 (qy X Y n s))),(7,.box 76 20 (T10 ks19 (qy X Y n s))),(5,.box 76 20 (xq m13 (qy X Y n s))),(913,zs m13),(3,.box 52 2 (jc g11 ngx nx (jr Ae xx i36.toNat))),(4,.box 52 2 (jc k11 ngy ny (jr xe xy i49.toNat))),(909,zs m9),(2,bv false),(218,zs lo)]) (l':=[(14,.box 42 15 (x9 w0.heap.size (fun _=>True) m66 m66 (k11 :: (g11 :: (gs64++(gs31++(gs26++(ks19++(gs19++[]))))))) 52)),(966,zs m66),(11,i6 i49),(10,i6 i36),(933,zs m33),(9,.box 76 20 (T10 gs31 (qy X Y n s))),(928,zs m28),(8,.box 76 20 (T10 gs26 (qy U V 7 (yg [49,50])))),(921,zs m21),(6,.box 76 20 (T10 gs19 (qy X Y n s))),(7,.box 76 20 (T10 ks19 (qy X Y n s))),(5,.box 76 20 (xq m13 (qy X Y n s))),(913,zs m13),(3,.box 52 2 (jc g11 ngx nx (jr Ae xx i36.toNat))),(4,.box 52 2 (jc k11 ngy ny (jr xe xy i49.toNat))),(909,zs m9),(2,bv false),(218,zs lo)]) 1 [2,3,4,5,6,7,8,9,10,11,12,13,14,15,16,17,18] H82 rfl (fun _ _=>by go_simp) Vp rfl (rfl) (.weak (.tmp 0 rfl) qfy) (by omega) (fun _ _=>trivial) hk83 rfl (by kernel_rfl) (.cons (ji) (.cons (xw) (.cons (xw) (.cons (ji) (.cons (zx (by decide) vw) (.cons (ji) (.cons (zx (by decide) vw) (.cons (ji) (.cons (zx (by decide) vw) (.cons (zx (by decide) vw) (.cons (zx (by decide) Ig) (.cons (ji) (.cons (zx (by decide) Eb) (.cons (zx (by decide) Eb) (.cons (ji) (.cons (xw) (.cons (ji) (.nil)))))))))))))))))) (by decide) rfl ?_
     clear H82 hk83 a82 w82 B82
     intro a83 w83 B83 H83
     refine qi ?_
     refine qg ?_
     refine wp_seq ?_
     refine fr (refs:=[]) (outs:=pr 0 18) (als:=[]) (posts:=[])
      (out:=[(14,.box 42 15 (x9 w0.heap.size (fun _=>True) m66 m66 (k11 :: (g11 :: (gs64++(gs31++(gs26++(ks19++(gs19++[]))))))) 52)),(966,zs m66),(11,i6 i49),(10,i6 i36),(933,zs m33),(9,.box 76 20 (T10 gs31 (qy X Y n s))),(928,zs m28),(8,.box 76 20 (T10 gs26 (qy U V 7 (yg [49,50])))),(921,zs m21),(6,.box 76 20 (T10 gs19 (qy X Y n s))),(7,.box 76 20 (T10 ks19 (qy X Y n s))),(5,.box 76 20 (xq m13 (qy X Y n s))),(913,zs m13),(3,.box 52 2 (jc g11 ngx nx (jr Ae xx i36.toNat))),(4,.box 52 2 (jc k11 ngy ny (jr xe xy i49.toNat))),(909,zs m9),(2,bv false),(218,zs lo)]) (nb:=[]) H83 0 [0,1,2,3,4] rfl (by kernel_rfl) rfl rfl ?_ ?_
     ·exact .nil
     clear H83 a83 w83 B83
     intro a84 w84 B84 H84
     refine zi ?_
     refine qf5 (ks:=[(966,zs m66),(11,i6 i49),(10,i6 i36),(933,zs m33),(928,zs m28),(921,zs m21),(913,zs m13),(909,zs m9),(2,bv false),(218,zs lo)]) 0 [1,2,3,4,6,8,12,15,16,17] H84 rfl rfl (Hl rfl) rfl (rfl) (by omega) rfl (by kernel_rfl) (.cons (Jr) (.cons (Q8) (.cons (Q8) (.cons (Jr) (.cons (Jr) (.cons (Jr) (.cons (Jr) (.cons (Jr) (.cons (Q8) (.cons (Jr) (.nil))))))))))) ?_
     clear H84 a84 w84 B84
     intro a85 w85 B85 H85
     refine zi ?_
     refine jm (D:=bv true) (l':=[(215,bv true),(214,bv true),(966,zs m66),(11,i6 i49),(10,i6 i36),(933,zs m33),(928,zs m28),(921,zs m21),(913,zs m13),(909,zs m9),(2,bv false),(218,zs lo)]) H85 rfl rfl rfl (.plain rfl (qh (.tmp 0 rfl))) rfl rfl ?_
     clear H85 a85 w85 B85
     intro a86 w86 B86 H86
     refine zi ?_
     refine jm (D:=bv true) (l':=[(216,bv true),(215,bv true),(214,bv true),(966,zs m66),(11,i6 i49),(10,i6 i36),(933,zs m33),(928,zs m28),(921,zs m21),(913,zs m13),(909,zs m9),(2,bv false),(218,zs lo)]) H86 rfl rfl rfl (.wanted 1 true rfl rfl rfl 0 rfl (zl (U5) (.nil))) rfl rfl ?_
     clear H86 a86 w86 B86
     intro a87 w87 B87 H87
     refine zi ?_
     refine jm (D:=bv true) (l':=[(217,bv true),(216,bv true),(215,bv true),(214,bv true),(966,zs m66),(11,i6 i49),(10,i6 i36),(933,zs m33),(928,zs m28),(921,zs m21),(913,zs m13),(909,zs m9),(2,bv false),(218,zs lo)]) H87 rfl rfl rfl (.plain rfl (Gx (.tmp 1 rfl) (.tmp 0 rfl))) rfl rfl ?_
     clear H87 a87 w87 B87
     intro a88 w88 B88 H88
     refine zi ?_
     refine jm (D:=bv true) (l':=[(2,bv true),(217,bv true),(216,bv true),(215,bv true),(214,bv true),(966,zs m66),(11,i6 i49),(10,i6 i36),(933,zs m33),(928,zs m28),(921,zs m21),(913,zs m13),(909,zs m9),(218,zs lo)]) H88 rfl rfl rfl (.plain rfl (qm (.tmp 0 rfl))) rfl rfl ?_
     clear H88 a88 w88 B88
     intro a89 w89 B89 H89
     refine qi ?_
     refine qg ?_
     refine wp_ret ?_
     exact Rz H89 rfl 0 rfl (fun _ _ _ h=>h)
theorem walk_WholeOwn (w:World) (gx:Bool) (ax:Option Addr) (nx cx:Nat) (xx:List Int) (wx:Arg w ax nx cx xx) (yx:nx*4≤140737488351232) (gy:Bool) (ay:Option Addr) (ny cy:Nat) (xy:List Int) (wy:Arg w ay ny cy xy) (yy:ny*4≤140737488351232)
  (gu:Bool) (au:Option Addr) (nu cu:Nat) (xu:List Int) (wu:Arg w au nu cu xu) (yu:nu*4≤140737488351232) (gv:Bool) (av:Option Addr) (nv cv:Nat) (xv:List Int) (wv:Arg w av nv cv xv) (yv:nv*4≤140737488351232) (n:Int) (hn : -9223372036854775808≤n∧n<9223372036854775808) (s:ByteArray) (hs:s.size≤140737488351232) :
  Calls Tryz.prog 10 #[.agg #[.bool gx,.slice ax nx cx,.bool gy,.slice ay ny cy,.bool gu,.slice au nu cu,.bool gv,.slice av nv cv,.int .i64 n,.string s]] w (qlp w):=by
 refine ((Z8 gx gy gu gv nx ny nu nv xx xy xu xv n s yx yy yu yv hn hs).calls 0 [.agg #[.bool gx,.slice ax nx cx,.bool gy,.slice ay ny cy,.bool gu,.slice au nu cu,.bool gv,.slice av nv cv,.int .i64 n,.string s]] w (fun _=>False) (Nat.zero_le _) (fun _ h=>h.elim) ⟨⟨ax,cx,ay,cy,au,cu,av,cv,rfl,wx,wy,wu,wv⟩,trivial⟩).mono ?_
 rintro e w' ⟨v,rfl,h,hb⟩
 obtain rfl:=h
 exact ⟨rfl,hb⟩
end Go.Proofs.YtbcbmkeeoognpaaGreatDoor
