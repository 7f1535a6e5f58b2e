/- Contracts of functions, and plain facts, part 31. -/
import Derived.Test.YtbcbmkeeoognpaaGreatDoorPk4
import Derived.Test.YtbcbmkeeoognpaaGreatDoorPk6
import Derived.Test.YtbcbmkeeoognpaaGreatDoorPk9
import Derived.Test.YtbcbmkeeoognpaaGreatDoorPk11
import Derived.Test.YtbcbmkeeoognpaaGreatDoorPk28
import Derived.Test.YtbcbmkeeoognpaaGreatDoorPk29
set_option linter.unusedVariables false
set_option linter.unusedSimpArgs false
namespace Go.Proofs.YtbcbmkeeoognpaaGreatDoor
open Go Go.RowKit
set_option maxRecDepth 20000 in
set_option maxHeartbeats 2000000 in
theorem G8 (Xs:List Int):Con Tryz.prog 43 [G7 Xs,G7 Xs] (IsB true):=by
 refine Ba (N:=20) Tryz.ntmps43 (fun _ _=>by go_simp) Tryz.func43 rfl (by simp) ?_
 intro a0 w0 B0 H0
 replace H0:St 20 w0 B0 a0 w0 B0 [(0,.val (G7 Xs)),(1,.val (G7 Xs))] []:=H0
 refine wp_seq ?_
 refine fr (refs:=[[.pre 0],[.pre 1],[]]) (outs:=[.res 0,.res 1,.res 2]) (als:=[true,true,false]) (posts:=[.box 76 20 (G7 Xs),.box 76 20 (G7 Xs),bv false])
  (out:=[(2,.box 76 20 (G7 Xs)),(3,.box 76 20 (G7 Xs)),(4,bv false)]) (nb:=[2,3]) H0 3 [] rfl (by kernel_rfl) rfl rfl ?_ ?_
 ·refine cp (Bq (.tmp 0 rfl) Bj.two) ?_
  refine cp (Bq (.tmp 0 rfl) Bj.two) ?_
  refine cp (qm (.lit)) ?_
  exact .nil
 clear H0
 intro a1 w1 B1 H1
 simp only [List.cons_append,List.nil_append] at H1
 refine qi ?_
 refine qg ?_
 refine wp_seq ?_
 refine wp_seq ?_
 refine fr (refs:=[[]]) (outs:=[.res 0]++pr 0 3) (als:=[false]) (posts:=[i6 0])
  (out:=[(5,i6 0),(2,.box 76 20 (G7 Xs)),(3,.box 76 20 (G7 Xs)),(4,bv false)]) (nb:=[]) H1 1 [] rfl (by kernel_rfl) rfl rfl ?_ ?_
 ·refine cp (qm (.lit)) ?_
  exact .nil
 clear H1 a1 w1 B1
 intro a2 w2 B2 H2
 refine qi ?_
 refine qg ?_
 refine wp_block ?_
 refine Gq (fun (j3:Int)=>[(5,i6 j3),(2,.box 76 20 (G7 Xs)),(3,.box 76 20 (G7 Xs))]) (fun (j3:Int)=>0≤j3∧j3≤10) (fun (j3:Int)=>(10-j3).toNat) (0) (St.pick H2 [0,1,2] rfl) (by exact ⟨by omega,by omega⟩) ?_
 clear H2 a2 w2 B2
 rintro j3 a4 w4 B4 hI4 H4
 replace hI4:0≤j3∧j3≤10:=hI4
 replace H4:St 20 w0 B0 a4 w4 B4 [(5,i6 j3),(2,.box 76 20 (G7 Xs)),(3,.box 76 20 (G7 Xs))] [2,3]:=H4
 refine wp_seq ?_
 refine wp_seq ?_
 refine fr (refs:=[[.pre 0],[.res 0]]) (outs:=[.res 1]++pr 0 3) (als:=fs 2) (posts:=[i6 j3,bv (decide (j3<10))])
  (out:=[(7,bv (decide (j3<10))),(5,i6 j3),(2,.box 76 20 (G7 Xs)),(3,.box 76 20 (G7 Xs))]) (nb:=[]) H4 2 [] rfl (by kernel_rfl) rfl rfl ?_ ?_
 ·refine cp (qh (.tmp 0 rfl)) ?_
  refine cp (jq (.tmp 0 rfl) (.lit) rfl) ?_
  exact .nil
 clear H4 a4 w4 B4
 intro a5 w5 B5 H5
 refine qi ?_
 refine qg ?_
 refine Aa H5 (.tmp 0 rfl) ?_ ?_
 ·intro hc6
  replace hc6:=of_decide_eq_true hc6
  refine wp_skip ?_
  refine qg ?_
  refine wp_seq ?_
  refine wp_block ?_
  refine wp_seq ?_
  refine fd (refs:=[[.pre 1],[.pre 2],[.res 1,.res 0],[.res 2],[.pre 1],[.pre 3],[.res 5,.res 4],[.res 6],[.res 3,.res 7],[.res 8]]) (outs:=[.res 9]++pr 1 3) (als:=fs 10) (posts:=[i6 j3,.ptr 76 20 (G7 Xs) (0),.ptr 76 20 (G7 Xs) (2*j3.toNat),.val (IsI (List.getD Xs j3.toNat 0)),i6 j3,.ptr 76 20 (G7 Xs) (0),.ptr 76 20 (G7 Xs) (2*j3.toNat),.val (IsI (List.getD Xs j3.toNat 0)),bv true,bv false])
   (out:=[(19,bv false),(5,i6 j3),(2,.box 76 20 (G7 Xs)),(3,.box 76 20 (G7 Xs))]) (nb:=[]) H5 (by kernel_rfl) 10 0 #[true,true,true,true,true,true,true,true,true,true] (by kernel_rfl) (by kernel_rfl) rfl rfl ?_ ?_
  ·refine cp (qh (.tmp 0 rfl)) ?_
   refine cp (Wv (.tmp 0 rfl)) ?_
   refine cp (Wx j3.toNat (by omega) (by omega) (.tmp 0 rfl) (.tmp 1 rfl)) ?_
   refine cp (Sl j3.toNat (by omega) (.tmp 0 rfl)) ?_
   refine cp (qh (.tmp 0 rfl)) ?_
   refine cp (Wv (.tmp 0 rfl)) ?_
   refine cp (Wx j3.toNat (by omega) (by omega) (.tmp 0 rfl) (.tmp 1 rfl)) ?_
   refine cp (Sl j3.toNat (by omega) (.tmp 0 rfl)) ?_
   refine cp (zl (qgm (X:=(List.getD Xs j3.toNat 0)) rfl) (.cons (.tmp 0 rfl) (.cons (.tmp 1 rfl) (.nil)))) ?_
   refine cp (Eh (b:=true) (.tmp 0 rfl)) ?_
   exact .nil
  clear H5 a5 w5 B5
  intro a7 w7 B7 H7
  refine Bh (by kernel_rfl) ?_
  refine qg ?_
  refine Fq H7 (.tmp 0 rfl) ?_
  refine wp_skip ?_
  refine kw ?_
  refine qg ?_
  refine fr (refs:=[[.pre 1],[.res 0]]) (outs:=[.res 1]++pr 1 3) (als:=fs 2) (posts:=[i6 j3,i6 (j3+1)])
   (out:=[(9,i6 (j3+1)),(5,i6 j3),(2,.box 76 20 (G7 Xs)),(3,.box 76 20 (G7 Xs))]) (nb:=[]) H7 2 [2] rfl (by kernel_rfl) rfl rfl ?_ ?_
  ·refine cp (qh (.tmp 0 rfl)) ?_
   refine cp (Aq (r:=(j3+1)) (.tmp 0 rfl) (.lit) (xh (by omega))) ?_
   exact .nil
  clear H7 a7 w7 B7
  intro a8 w8 B8 H8
  refine zi ?_
  refine jm (D:=i6 (j3+1)) (l':=[(5,i6 (j3+1)),(9,i6 (j3+1)),(2,.box 76 20 (G7 Xs)),(3,.box 76 20 (G7 Xs))]) H8 rfl rfl rfl (.plain rfl (qm (.tmp 0 rfl))) rfl rfl ?_
  clear H8 a8 w8 B8
  intro a9 w9 B9 H9
  refine qi ?_
  exact ⟨j3+1,B9,by exact ⟨by omega,by omega⟩,St.pick H9 [0,2,3] rfl,by show (10-(j3+1)).toNat<(10-j3).toNat;omega⟩
 ·intro hc6
  replace hc6:=of_decide_eq_false hc6
  refine wp_exit ?_
  refine jy ?_
  refine jy ?_
  refine Am ?_
  refine qg ?_
  refine wp_seq ?_
  refine fr (refs:=[[]]) (outs:=[.res 0]++pr 1 3) (als:=[false]) (posts:=[bv true])
   (out:=[(4,bv true),(5,i6 j3),(2,.box 76 20 (G7 Xs)),(3,.box 76 20 (G7 Xs))]) (nb:=[]) H5 1 [] rfl (by kernel_rfl) rfl rfl ?_ ?_
  ·refine cp (qm (.lit)) ?_
   exact .nil
  clear H5 a5 w5 B5
  intro a10 w10 B10 H10
  refine qi ?_
  refine qg ?_
  refine wp_ret ?_
  exact Rz H10 rfl 0 rfl (fun _ _ _ h=>h)
set_option maxRecDepth 20000 in
set_option maxHeartbeats 2000000 in
theorem Jo (gs:List (Option Nat)) (Xs:List Int) {lo m:Nat} (hap:Apt lo m gs):Zo Tryz.prog 45 (T10 gs Xs) gs (.tuple #[]) 10:=by
 refine qjr (N:=15) Tryz.ntmps45 Tryz.func45 rfl (by simp) ?_
 intro w0 w9000 b ex Ow cnt a0 hcnt hwl hOw hex hgs H0
 have hgl:=hap.len
 obtain ⟨B0,hB0⟩:∃B0:Bx,B0=fun j=>j=b:=⟨_,rfl⟩
 rw [←hB0] at H0
 clear hB0
 replace H0:St 15 w0 B0 a0 w9000 B0 [(1,.box 42 15 (x9 w0.heap.size Ow w9000.heap.size w9000.heap.size ex cnt)),(1,.val (Nr b)),(15,.val (Jk w0.heap.size b w9000)),(16,zs w9000.heap.size),(0,.val (T10 gs Xs))] [1]:=H0
 have hE:=H0.bel
 refine wp_seq ?_
 refine fr (refs:=[[.pre 4]]) (outs:=[.res 0]++pr 0 4) (als:=[true]) (posts:=[.box 76 20 (T10 gs Xs)])
  (out:=[(2,.box 76 20 (T10 gs Xs)),(1,.box 42 15 (x9 w0.heap.size Ow w9000.heap.size w9000.heap.size ex cnt)),(1,.val (Nr b)),(15,.val (Jk w0.heap.size b w9000)),(16,zs w9000.heap.size)]) (nb:=[2]) H0 1 [] rfl (by kernel_rfl) rfl rfl ?_ ?_
 ·refine cp (Bq (.tmp 0 rfl) Bj.two) ?_
  exact .nil
 clear H0
 intro a1 w1 B1 H1
 simp only [List.cons_append,List.nil_append] at H1
 refine qi ?_
 refine qg ?_
 refine wp_seq ?_
 refine fr (refs:=[[]]) (outs:=[.res 0]++pr 0 5) (als:=[false]) (posts:=[i6 0])
  (out:=[(4,i6 0),(2,.box 76 20 (T10 gs Xs)),(1,.box 42 15 (x9 w0.heap.size Ow w9000.heap.size w9000.heap.size ex cnt)),(1,.val (Nr b)),(15,.val (Jk w0.heap.size b w9000)),(16,zs w9000.heap.size)]) (nb:=[]) H1 1 [] rfl (by kernel_rfl) rfl rfl ?_ ?_
 ·refine cp (qm (.lit)) ?_
  exact .nil
 clear H1 a1 w1 B1
 intro a2 w2 B2 H2
 refine qi ?_
 refine qg ?_
 refine wp_block ?_
 refine Gq (fun (j3:Int)=>[(4,i6 j3),(2,.box 76 20 (T10 gs Xs)),(1,.box 42 15 (x9 w0.heap.size Ow w9000.heap.size w9000.heap.size (List.reverse (List.take j3.toNat gs)++ex) (cnt+j3.toNat))),(1,.val (Nr b)),(15,.val (Jk w0.heap.size b w9000)),(16,zs w9000.heap.size)]) (fun (j3:Int)=>0≤j3∧j3≤10) (fun (j3:Int)=>(10-j3).toNat) (0) (St.pick H2 [0,1,2,3,4,5] rfl) (by exact ⟨by omega,by omega⟩) ?_
 clear H2 a2 w2 B2
 rintro j3 a4 w4 B4 hI4 H4
 replace hI4:0≤j3∧j3≤10:=hI4
 replace H4:St 15 w0 B0 a4 w4 B4 [(4,i6 j3),(2,.box 76 20 (T10 gs Xs)),(1,.box 42 15 (x9 w0.heap.size Ow w9000.heap.size w9000.heap.size (List.reverse (List.take j3.toNat gs)++ex) (cnt+j3.toNat))),(1,.val (Nr b)),(15,.val (Jk w0.heap.size b w9000)),(16,zs w9000.heap.size)] [2,1]:=H4
 refine wp_seq ?_
 refine wp_seq ?_
 refine fr (refs:=[[.pre 0],[.res 0]]) (outs:=[.res 1]++pr 0 6) (als:=fs 2) (posts:=[i6 j3,bv (decide (j3<10))])
  (out:=[(6,bv (decide (j3<10))),(4,i6 j3),(2,.box 76 20 (T10 gs Xs)),(1,.box 42 15 (x9 w0.heap.size Ow w9000.heap.size w9000.heap.size (List.reverse (List.take j3.toNat gs)++ex) (cnt+j3.toNat))),(1,.val (Nr b)),(15,.val (Jk w0.heap.size b w9000)),(16,zs w9000.heap.size)]) (nb:=[]) H4 2 [] rfl (by kernel_rfl) rfl rfl ?_ ?_
 ·refine cp (qh (.tmp 0 rfl)) ?_
  refine cp (jq (.tmp 0 rfl) (.lit) rfl) ?_
  exact .nil
 clear H4 a4 w4 B4
 intro a5 w5 B5 H5
 refine qi ?_
 refine qg ?_
 refine Aa H5 (.tmp 0 rfl) ?_ ?_
 ·intro hc6
  replace hc6:=of_decide_eq_true hc6
  refine wp_skip ?_
  refine qg ?_
  refine wp_seq ?_
  refine wp_block ?_
  refine fr (refs:=[[.pre 4],[.pre 1],[.pre 2],[.res 2,.res 1],[.res 3]]) (outs:=[.res 0,.res 4]++pr 1 6) (als:=fs 5) (posts:=[.val (Nr b),i6 j3,.ptr 76 20 (T10 gs Xs) (0),.ptr 76 20 (T10 gs Xs) (2*j3.toNat),.val (qj (List.getD gs j3.toNat none) (IsI (List.getD Xs j3.toNat 0)))])
   (out:=[(9,.val (Nr b)),(13,.val (qj (List.getD gs j3.toNat none) (IsI (List.getD Xs j3.toNat 0)))),(4,i6 j3),(2,.box 76 20 (T10 gs Xs)),(1,.box 42 15 (x9 w0.heap.size Ow w9000.heap.size w9000.heap.size (List.reverse (List.take j3.toNat gs)++ex) (cnt+j3.toNat))),(1,.val (Nr b)),(15,.val (Jk w0.heap.size b w9000)),(16,zs w9000.heap.size)]) (nb:=[]) H5 5 [5] rfl (by kernel_rfl) rfl rfl ?_ ?_
  ·refine cp (qh (.tmp 0 rfl)) ?_
   refine cp (qh (.tmp 0 rfl)) ?_
   refine cp (Wv (.tmp 0 rfl)) ?_
   refine cp (Wx j3.toNat (by omega) (by omega) (.tmp 0 rfl) (.tmp 1 rfl)) ?_
   refine cp (qcl j3.toNat (by omega) (.tmp 0 rfl)) ?_
   exact .nil
  clear H5 a5 w5 B5
  intro a7 w7 B7 H7
  refine zi ?_
  have hk8:∀b,(List.getD gs j3.toNat none)=some b→w0.heap.size≤b∧¬(w9000.heap.size≤b∧b<w9000.heap.size)∧some b ∉ (List.reverse (List.take j3.toNat gs)++ex):=fun b hb=>⟨(hgs _ b hb).1,fun hx=>by omega,fun hx=>(List.mem_append.1 hx).elim (hap.notin (by omega) hb) (hgs _ b hb).2.2⟩
  refine Vs (cnt:=cnt+j3.toNat) (ks:=[(9,.val (Nr b)),(13,.val (qj (List.getD gs j3.toNat none) (IsI (List.getD Xs j3.toNat 0)))),(4,i6 j3),(2,.box 76 20 (T10 gs Xs)),(1,.val (Nr b)),(15,.val (Jk w0.heap.size b w9000)),(16,zs w9000.heap.size)]) (l':=[(1,.box 42 15 (x9 w0.heap.size Ow w9000.heap.size w9000.heap.size ((List.getD gs j3.toNat none) :: (List.reverse (List.take j3.toNat gs)++ex)) (cnt+j3.toNat+1))),(9,.val (Nr b)),(13,.val (qj (List.getD gs j3.toNat none) (IsI (List.getD Xs j3.toNat 0)))),(4,i6 j3),(2,.box 76 20 (T10 gs Xs)),(1,.val (Nr b)),(15,.val (Jk w0.heap.size b w9000)),(16,zs w9000.heap.size)]) 4 [0,1,2,3,5,6,7] H7 rfl (fun _ _=>by go_simp) Vp rfl ((H7.fc.get 0 rfl).trans (H7.fc.get 5 rfl).symm) (.tmp 1 rfl) (by omega) (fun x hx=>hOw x (Nat.le_trans (H7.fc.get 7 rfl) hx)) hk8 rfl (by kernel_rfl) (.cons (xw) (.cons (Q7) (.cons (xw) (.cons (zx (by decide) vw) (.cons (xw) (.cons (qg2) (.cons (ji) (.nil)))))))) (by decide) rfl ?_
  clear H7 hk8 a7 w7 B7
  intro a8 w8 B8 H8
  refine qi ?_
  refine kw ?_
  refine qg ?_
  refine fr (refs:=[[.pre 3],[.res 0]]) (outs:=[.res 1,.pre 0]++pr 3 5) (als:=fs 2) (posts:=[i6 j3,i6 (j3+1)])
   (out:=[(8,i6 (j3+1)),(1,.box 42 15 (x9 w0.heap.size Ow w9000.heap.size w9000.heap.size ((List.getD gs j3.toNat none) :: (List.reverse (List.take j3.toNat gs)++ex)) (cnt+j3.toNat+1))),(4,i6 j3),(2,.box 76 20 (T10 gs Xs)),(1,.val (Nr b)),(15,.val (Jk w0.heap.size b w9000)),(16,zs w9000.heap.size)]) (nb:=[]) H8 2 [2] rfl (by kernel_rfl) rfl rfl ?_ ?_
  ·refine cp (qh (.tmp 0 rfl)) ?_
   refine cp (Aq (r:=(j3+1)) (.tmp 0 rfl) (.lit) (xh (by omega))) ?_
   exact .nil
  clear H8 a8 w8 B8
  intro a9 w9 B9 H9
  refine zi ?_
  refine jm (D:=i6 (j3+1)) (l':=[(4,i6 (j3+1)),(8,i6 (j3+1)),(1,.box 42 15 (x9 w0.heap.size Ow w9000.heap.size w9000.heap.size ((List.getD gs j3.toNat none) :: (List.reverse (List.take j3.toNat gs)++ex)) (cnt+j3.toNat+1))),(2,.box 76 20 (T10 gs Xs)),(1,.val (Nr b)),(15,.val (Jk w0.heap.size b w9000)),(16,zs w9000.heap.size)]) H9 rfl rfl rfl (.plain rfl (qm (.tmp 0 rfl))) rfl rfl ?_
  clear H9 a9 w9 B9
  intro a10 w10 B10 H10
  refine qi ?_
  have H11:=St.setwB H10 2 (D':=x9 w0.heap.size Ow w9000.heap.size w9000.heap.size (List.reverse (List.take (j3+1).toNat gs)++ex) (cnt+(j3+1).toNat)) rfl (fun v h=>qga (by omega) (by rw [show (j3+1).toNat=j3.toNat+1 by omega];exact qev _ _ _ (by omega)) v h) (l':=[(4,i6 (j3+1)),(8,i6 (j3+1)),(1,.box 42 15 (x9 w0.heap.size Ow w9000.heap.size w9000.heap.size (List.reverse (List.take (j3+1).toNat gs)++ex) (cnt+(j3+1).toNat))),(2,.box 76 20 (T10 gs Xs)),(1,.val (Nr b)),(15,.val (Jk w0.heap.size b w9000)),(16,zs w9000.heap.size)]) rfl
  clear H10
  exact ⟨j3+1,B10,by exact ⟨by omega,by omega⟩,St.pick H11 [0,3,2,4,5,6] rfl,by show (10-(j3+1)).toNat<(10-j3).toNat;omega⟩
 ·intro hc6
  replace hc6:=of_decide_eq_false hc6
  refine wp_exit ?_
  refine jy ?_
  refine jy ?_
  refine Am ?_
  exact qnu H5 rfl 3 4 5 (by simp) rfl rfl rfl hE (by omega) hcnt (Nat.le_refl _) (Nat.le_refl _) (fun x hx=>qg8 hx)
end Go.Proofs.YtbcbmkeeoognpaaGreatDoor

set_option maxRecDepth 50000
namespace Go.Proofs.YtbcbmkeeoognpaaGreatDoor
open Go Go.RowKit
theorem Arg.mvW {w w':World} {B B':Bx} (h:Mv w B w' B') {ad:Option Addr} {n c:Nat} {xs:List Int} (k:Arg w ad n c xs):Arg w' ad n c xs:=⟨k.le,k.rds.mv h (.inl rfl),k.dig⟩
theorem P9 {w:World} {ng:Bool} {ad:Option Addr} {n c:Nat} {xs:List Int} {X:Int} (hX:sI ng (val 4294967296 xs)=X) (k:Arg w ad n c xs):yz n X:=by
 unfold yz
 rw [←hX,F9 ng _ k.nonneg]
 exact k.lt
section two
variable (gx gy gu gv:Bool) (nx ny nu nv:Nat) (xx xy xu xv:List Int) (n:Int) (s:ByteArray)
def qnp (v:Value) (w:World) (B:Bx):Prop:=∃ax cx ay cy au cu av cv,v=.agg #[.bool gx,.slice ax nx cx,.bool gy,.slice ay ny cy,.bool gu,.slice au nu cu,.bool gv,.slice av nv cv,.int .i64 n,.string s]∧Arg w ax nx cx xx∧Arg w ay ny cy xy∧Arg w au nu cu xu∧Arg w av nv cv xv
def jw:VP:=⟨qnp gx gy gu gv nx ny nu nv xx xy xu xv n s,fun v w B w' B' h ⟨ax,cx,ay,cy,au,cu,av,cv,e,k1,k2,k3,k4⟩=>⟨ax,cx,ay,cy,au,cu,av,cv,e,k1.mvW h,k2.mvW h,k3.mvW h,k4.mvW h⟩⟩
variable {gx gy gu gv nx ny nu nv xx xy xu xv n s}
theorem qmz (v:Value) (w:World) (B:Bx) (h:(jw gx gy gu gv nx ny nu nv xx xy xu xv n s).p v w B):∃cs,v=.agg cs∧cs.size=10:=by
 obtain ⟨ax,cx,ay,cy,au,cu,av,cv,e,_⟩:=h
 exact ⟨_,e,rfl⟩
variable {need:List (Tmp × FD)} {d:Option Tmp} {ty:TypeId} {pos:String} {af:Array Edge} {g:Option (Nat × Bool)} {x y z u:Operand} {D:VP}
theorem Js (h:Opd need x (.box 71 10 D)):jo Tryz.prog ⟨d,.fieldAddr 71 x 0,ty,pos,af,g⟩ need (.ptr 71 10 D 0) false:=
 Dn 0 0 Tryz.underlying71 rfl rfl (fun w=>⟨2,by go_simp,by decide⟩) h
theorem Jt (h:Opd need x (.box 71 10 D)):jo Tryz.prog ⟨d,.fieldAddr 71 x 1,ty,pos,af,g⟩ need (.ptr 71 10 D 2) false:=
 Dn 1 2 Tryz.underlying71 rfl rfl (fun w=>⟨2,by go_simp,by decide⟩) h
theorem Md (h:Opd need x (.box 71 10 D)):jo Tryz.prog ⟨d,.fieldAddr 71 x 2,ty,pos,af,g⟩ need (.ptr 71 10 D 4) false:=
 Dn 2 4 Tryz.underlying71 rfl rfl (fun w=>⟨2,by go_simp,by decide⟩) h
theorem Me (h:Opd need x (.box 71 10 D)):jo Tryz.prog ⟨d,.fieldAddr 71 x 3,ty,pos,af,g⟩ need (.ptr 71 10 D 6) false:=
 Dn 3 6 Tryz.underlying71 rfl rfl (fun w=>⟨2,by go_simp,by decide⟩) h
theorem Ik (h:Opd need x (.box 71 10 D)):jo Tryz.prog ⟨d,.fieldAddr 71 x 4,ty,pos,af,g⟩ need (.ptr 71 10 D 8) false:=
 Dn 4 8 Tryz.underlying71 rfl rfl (fun w=>⟨1,by go_simp,by decide⟩) h
theorem G9 (h:Opd need x (.box 71 10 D)):jo Tryz.prog ⟨d,.fieldAddr 71 x 5,ty,pos,af,g⟩ need (.ptr 71 10 D 9) false:=
 Dn 5 9 Tryz.underlying71 rfl rfl (fun w=>⟨1,by go_simp,by decide⟩) h
theorem Na (h:Opd need x (.ptr 71 10 (jw gx gy gu gv nx ny nu nv xx xy xu xv n s) 0)):jo Tryz.prog ⟨d,.load 52 x,ty,pos,af,g⟩ need (.val (E8 gx nx xx)) false:=
 Jb tyI h (by decide) fun cs w B ⟨ax,cx,ay,cy,au,cu,av,cv,e,k1,k2,k3,k4⟩=>by
  injection e with e
  subst e
  exact ⟨ax,cx,rfl,k1⟩
theorem qhg (h:Opd need x (.ptr 71 10 (jw gx gy gu gv nx ny nu nv xx xy xu xv n s) 0)):jo Tryz.prog ⟨d,.fieldAddr 52 x 1,ty,pos,af,g⟩ need (.ptr 71 10 (jw gx gy gu gv nx ny nu nv xx xy xu xv n s) 1) false:=
 jo.value fun a w B hF=>by
  obtain ⟨b,cs,h1,h2,h3,h4,h5,h6⟩:=h a w B hF
  refine ⟨.pointer (some ⟨b,1,none⟩),?_,b,cs,rfl,h2,h3,h4,h5,h6⟩
  have hu2:=run_underlying (P:=Tryz.prog) Tryz.underlying52 w
  simp only [execOp,h1]
  go_simp
theorem qeb (h:Opd need x (.ptr 71 10 (jw gx gy gu gv nx ny nu nv xx xy xu xv n s) 1)):jo Tryz.prog ⟨d,.load 23 x,ty,pos,af,g⟩ need (.val (Zt nx)) false:=
 Bi Pg h (by decide) fun cs v w B ⟨ax,cx,ay,cy,au,cu,av,cv,e,k1,k2,k3,k4⟩ hv=>by
  injection e with e
  subst e
  simp at hv
  exact ⟨_,_,hv.symm⟩
theorem Nb (h:Opd need x (.ptr 71 10 (jw gx gy gu gv nx ny nu nv xx xy xu xv n s) 2)):jo Tryz.prog ⟨d,.load 52 x,ty,pos,af,g⟩ need (.val (E8 gy ny xy)) false:=
 Jb tyI h (by decide) fun cs w B ⟨ax,cx,ay,cy,au,cu,av,cv,e,k1,k2,k3,k4⟩=>by
  injection e with e
  subst e
  exact ⟨ay,cy,rfl,k2⟩
theorem qhh (h:Opd need x (.ptr 71 10 (jw gx gy gu gv nx ny nu nv xx xy xu xv n s) 2)):jo Tryz.prog ⟨d,.fieldAddr 52 x 1,ty,pos,af,g⟩ need (.ptr 71 10 (jw gx gy gu gv nx ny nu nv xx xy xu xv n s) 3) false:=
 jo.value fun a w B hF=>by
  obtain ⟨b,cs,h1,h2,h3,h4,h5,h6⟩:=h a w B hF
  refine ⟨.pointer (some ⟨b,3,none⟩),?_,b,cs,rfl,h2,h3,h4,h5,h6⟩
  have hu2:=run_underlying (P:=Tryz.prog) Tryz.underlying52 w
  simp only [execOp,h1]
  go_simp
theorem qec (h:Opd need x (.ptr 71 10 (jw gx gy gu gv nx ny nu nv xx xy xu xv n s) 3)):jo Tryz.prog ⟨d,.load 23 x,ty,pos,af,g⟩ need (.val (Zt ny)) false:=
 Bi Pg h (by decide) fun cs v w B ⟨ax,cx,ay,cy,au,cu,av,cv,e,k1,k2,k3,k4⟩ hv=>by
  injection e with e
  subst e
  simp at hv
  exact ⟨_,_,hv.symm⟩
theorem Pm (h:Opd need x (.ptr 71 10 (jw gx gy gu gv nx ny nu nv xx xy xu xv n s) 4)):jo Tryz.prog ⟨d,.load 52 x,ty,pos,af,g⟩ need (.val (E8 gu nu xu)) false:=
 Jb tyI h (by decide) fun cs w B ⟨ax,cx,ay,cy,au,cu,av,cv,e,k1,k2,k3,k4⟩=>by
  injection e with e
  subst e
  exact ⟨au,cu,rfl,k3⟩
theorem qhi (h:Opd need x (.ptr 71 10 (jw gx gy gu gv nx ny nu nv xx xy xu xv n s) 4)):jo Tryz.prog ⟨d,.fieldAddr 52 x 1,ty,pos,af,g⟩ need (.ptr 71 10 (jw gx gy gu gv nx ny nu nv xx xy xu xv n s) 5) false:=
 jo.value fun a w B hF=>by
  obtain ⟨b,cs,h1,h2,h3,h4,h5,h6⟩:=h a w B hF
  refine ⟨.pointer (some ⟨b,5,none⟩),?_,b,cs,rfl,h2,h3,h4,h5,h6⟩
  have hu2:=run_underlying (P:=Tryz.prog) Tryz.underlying52 w
  simp only [execOp,h1]
  go_simp
theorem qed (h:Opd need x (.ptr 71 10 (jw gx gy gu gv nx ny nu nv xx xy xu xv n s) 5)):jo Tryz.prog ⟨d,.load 23 x,ty,pos,af,g⟩ need (.val (Zt nu)) false:=
 Bi Pg h (by decide) fun cs v w B ⟨ax,cx,ay,cy,au,cu,av,cv,e,k1,k2,k3,k4⟩ hv=>by
  injection e with e
  subst e
  simp at hv
  exact ⟨_,_,hv.symm⟩
theorem Pn (h:Opd need x (.ptr 71 10 (jw gx gy gu gv nx ny nu nv xx xy xu xv n s) 6)):jo Tryz.prog ⟨d,.load 52 x,ty,pos,af,g⟩ need (.val (E8 gv nv xv)) false:=
 Jb tyI h (by decide) fun cs w B ⟨ax,cx,ay,cy,au,cu,av,cv,e,k1,k2,k3,k4⟩=>by
  injection e with e
  subst e
  exact ⟨av,cv,rfl,k4⟩
theorem qhj (h:Opd need x (.ptr 71 10 (jw gx gy gu gv nx ny nu nv xx xy xu xv n s) 6)):jo Tryz.prog ⟨d,.fieldAddr 52 x 1,ty,pos,af,g⟩ need (.ptr 71 10 (jw gx gy gu gv nx ny nu nv xx xy xu xv n s) 7) false:=
 jo.value fun a w B hF=>by
  obtain ⟨b,cs,h1,h2,h3,h4,h5,h6⟩:=h a w B hF
  refine ⟨.pointer (some ⟨b,7,none⟩),?_,b,cs,rfl,h2,h3,h4,h5,h6⟩
  have hu2:=run_underlying (P:=Tryz.prog) Tryz.underlying52 w
  simp only [execOp,h1]
  go_simp
theorem qee (h:Opd need x (.ptr 71 10 (jw gx gy gu gv nx ny nu nv xx xy xu xv n s) 7)):jo Tryz.prog ⟨d,.load 23 x,ty,pos,af,g⟩ need (.val (Zt nv)) false:=
 Bi Pg h (by decide) fun cs v w B ⟨ax,cx,ay,cy,au,cu,av,cv,e,k1,k2,k3,k4⟩ hv=>by
  injection e with e
  subst e
  simp at hv
  exact ⟨_,_,hv.symm⟩
theorem qe7 (w:World):(isAgg 2).run Tryz.prog w=.ok false w:=by go_simp
theorem Nc (h:Opd need x (.ptr 71 10 (jw gx gy gu gv nx ny nu nv xx xy xu xv n s) 8)):jo Tryz.prog ⟨d,.load 2 x,ty,pos,af,g⟩ need (.val (Lit (.int .i64 n))) false:=
 Bi qe7 h (by decide) fun cs v w B ⟨ax,cx,ay,cy,au,cu,av,cv,e,_⟩ hv=>by
  injection e with e
  subst e
  simp at hv
  exact hv.symm
theorem qe8 (w:World):(isAgg 9).run Tryz.prog w=.ok false w:=by go_simp
theorem Ju (h:Opd need x (.ptr 71 10 (jw gx gy gu gv nx ny nu nv xx xy xu xv n s) 9)):jo Tryz.prog ⟨d,.load 9 x,ty,pos,af,g⟩ need (.val (Lit (.string s))) false:=
 Bi qe8 h (by decide) fun cs v w B ⟨ax,cx,ay,cy,au,cu,av,cv,e,_⟩ hv=>by
  injection e with e
  subst e
  simp at hv
  exact hv.symm
theorem qnp.fits {v:Value} {w:World} {B:Bx} (h:(jw gx gy gu gv nx ny nu nv xx xy xu xv n s).p v w B):(yz nx (sI gx (val 4294967296 xx))∧yz ny (sI gy (val 4294967296 xy))∧yz nu (sI gu (val 4294967296 xu))∧yz nv (sI gv (val 4294967296 xv)))∧(xx.length=nx∧xy.length=ny∧xu.length=nu∧xv.length=nv)∧Dig 4294967296 xx∧Dig 4294967296 xy:=by
 obtain ⟨ax,cx,ay,cy,au,cu,av,cv,e,k1,k2,k3,k4⟩:=h
 exact ⟨⟨P9 rfl k1,P9 rfl k2,P9 rfl k3,P9 rfl k4⟩,⟨k1.rds.len,k2.rds.len,k3.rds.len,k4.rds.len⟩,k1.dig,k2.dig⟩
theorem qks {ng ng2 ng3 ng4:Bool} {n n2 n3 n4:Nat} {xs xs2 xs3 xs4:List Int} (h:Opd need x (.val (E8 ng n xs))) (h':Opd need y (.val (E8 ng2 n2 xs2))) (h'':Opd need z (.val (E8 ng3 n3 xs3))) (h4:Opd need u (.val (E8 ng4 n4 xs4))) :
  jo Tryz.prog ⟨d,.buildSlice 124 4 #[(0,x),(1,y),(2,z),(3,u)],ty,pos,af,g⟩ need (.val (Zr [n,n2,n3,n4])) false:=by
 intro Q K a w B hB hF hK
 obtain ⟨ad,c,e,k⟩:=h a w B hF
 obtain ⟨ad2,c2,e2,k2⟩:=h' a w B hF
 obtain ⟨ad3,c3,e3,k3⟩:=h'' a w B hF
 obtain ⟨ad4,c4,e4,k4⟩:=h4 a w B hF
 obtain ⟨h1,h2,h3,h4⟩:=qj9 hB #[.bool ng,.slice ad n c,.bool ng2,.slice ad2 n2 c2,.bool ng3,.slice ad3 n3 c3,.bool ng4,.slice ad4 n4 c4] 52 [n,n2,n3,n4] (fun j=>if j=0 then (ad,c) else if j=1 then (ad2,c2) else if j=2 then (ad3,c3) else (ad4,c4)) (fun j hj=>by
  rcases j with _ | _ | _ | _ | j
  ·rfl
  ·rfl
  ·rfl
  ·rfl
  ·exfalso;simp only [List.length_cons,List.length_nil] at hj;omega)
 have hr:(execOp a.eval ⟨d,.buildSlice 124 4 #[(0,x),(1,y),(2,z),(3,u)],ty,pos,af,g⟩).run Tryz.prog w=.ok (.value (.slice (some ⟨w.heap.size,0,none⟩) 4 4)) (w.alloc (.cells #[.bool ng,.slice ad n c,.bool ng2,.slice ad2 n2 c2,.bool ng3,.slice ad3 n3 c3,.bool ng4,.slice ad4 n4 c4] 52)):=by
  simp only [execOp,e,e2,e3,e4,List.map_toArray,List.map_cons,List.map_nil]
  go_simp
 unfold Oper.wp
 rw [hr]
 exact hK _ _ B h1 h2 h3 h4 (by simp)
end two
def jc (g:Option Nat) (ng:Bool) (n:Nat) (xs:List Int):VP:=⟨fun v w B=>∃sl,v=.agg #[.bool ng,sl]∧(Ac g (Tn n xs)).p sl w B,fun v w B w' B' h ⟨sl,e,hp⟩=>⟨sl,e,VP.st _ _ _ _ _ _ h hp⟩⟩
def P5 (lo:Nat) (ng:Bool) (n:Nat) (xs:List Int):VP:=⟨fun v w B=>∃g,(∀b,g=some b→lo≤b)∧(jc g ng n xs).p v w B,fun v w B w' B' h ⟨g,h1,hp⟩=>⟨g,h1,VP.st _ _ _ _ _ _ h hp⟩⟩
theorem Ef {g:Option Nat} {ng:Bool} {n:Nat} {xs:List Int} (v:Value) (w:World) (B:Bx) (h:(jc g ng n xs).p v w B):(qie ng n xs).p v w B:=by
 obtain ⟨sl,e,_,b,e2,k⟩:=h
 exact ⟨b,by rw [e,e2],k⟩
theorem qfy {g:Option Nat} {ng:Bool} {n:Nat} {xs:List Int} (v:Value) (w:World) (B:Bx) (h:(jc g ng n xs).p v w B):(qj g VP.top).p v w B:=by
 obtain ⟨sl,e,h1,_⟩:=h
 exact ⟨⟨_,sl,e,h1⟩,trivial⟩
theorem qfw {lo:Nat} {ng:Bool} {n:Nat} {xs:List Int} (v:Value) (w:World) (B:Bx) (h:(P5 lo ng n xs).p v w B):(qie ng n xs).p v w B:=by
 obtain ⟨g,_,h⟩:=h
 exact Ef _ _ _ h
theorem qcs {g:Option Nat} {ng:Bool} {n:Nat} {xs:List Int}:Shape 2 (jc g ng n xs):=fun v w B h=>qk6 _ _ _ (Ef _ _ _ h)
theorem Eb {Bs:Nat} {g:Option Nat} {ng:Bool} {n:Nat} {xs:List Int}:Iw Bs (.val (jc g ng n xs)):=fun v w w' B b hbs hb k ⟨sl,e,h⟩=>⟨sl,e,qkb (Bs:=Bs) qke sl w w' B b hbs hb k h⟩
theorem qcc {g g2:Option Nat} {ng:Bool} {n:Nat} {xs:List Int} (hne:∀b,g2=some b→g≠some b):Kq g (.val (jc g2 ng n xs)):=fun v w w' B b eg hB o r ⟨sl,e,h⟩=>⟨sl,e,qcb qke hne sl w w' B b eg hB o r h⟩
section
variable {need:List (Tmp × FD)} {d:Option Tmp} {ty:TypeId} {pos:String} {af:Array Edge} {g:Option (Nat × Bool)} {x y:Operand}
theorem Gn {k:Option Nat} {ng:Bool} {n:Nat} {xs:List Int} (h:Opd need x (.ptr 52 2 (jc k ng n xs) 1)):jo Tryz.prog ⟨d,.load 23 x,ty,pos,af,g⟩ need (.val (Ac k (Tn n xs))) false:=
 Bi Pg h (by decide) fun cs v w B ⟨sl,e,h1⟩ hv=>by
  injection e with e
  subst e
  simp at hv
  exact hv ▸ h1
end
theorem Hq (ng:Bool) (n:Nat) (xs:List Int) (hn:n≤1000000):Oz Tryz.prog 40 [E8 ng n xs] (fun lo=>P5 lo ng n xs):=by
 refine ⟨fun _ _=>by go_simp,fun lo vs w B hlo hB hV=>?_⟩
 match vs,hV with
 | [v],⟨h1,_⟩=>
  obtain ⟨ad,c,rfl,k⟩:=h1
  refine (Xp ng ad n c xs w k (by omega)).mono ?_
  rintro e w' ⟨b,rfl,hge,ht,hb⟩
  have hx:=ht.len
  exact ⟨_,rfl,⟨some b,fun b2 e=>(by injection e with e;omega),_,rfl,⟨_,_,_,rfl,by omega,by omega,by omega,fun h=>absurd h (by omega),fun _=>⟨b,_,rfl,rfl,fun h=>(by have:=hB _ h;omega),ht.blk,by simp [nums,hx]⟩⟩,b,rfl,ht⟩,hb⟩
end Go.Proofs.YtbcbmkeeoognpaaGreatDoor

set_option maxRecDepth 50000
namespace Go.Proofs.YtbcbmkeeoognpaaGreatDoor
open Go Go.RowKit
def qf0 (g:Option Nat) (k:Nat):VP:=⟨fun v _ _=>∃b,g=some b∧v=.pointer (some ⟨b,k,none⟩),fun _ _ _ _ _ _ h=>h⟩
section
variable {need:List (Tmp × FD)} {d:Option Tmp} {ty:TypeId} {pos:String} {af:Array Edge} {g:Option (Nat × Bool)} {x y:Operand}
theorem qcj {k:Option Nat} {n:Nat} {xs:List Int} {z:Int} (j:Nat) (hz:z=j) (hj:j<n) (h:Opd need x (.val (Ac k (Tn n xs)))) (h':Opd need y (.val (Lit (.int .i64 z)))):jo Tryz.prog ⟨d,.indexAddr 23 x y,ty,pos,af,g⟩ need (.val (qf0 k j)) false:=
 jo.value fun a w B hF=>by
  obtain ⟨⟨ad,n1,c,e1,g1,k2,g3,g4,g5⟩,b,e2,ht⟩:=h a w B hF
  have e5:a.eval y=.int .i64 j:=hz ▸ h' a w B hF
  rw [e1] at e2
  injection e2 with j1 j2 j3
  have j2:=j2.symm
  have j3:=j3.symm
  subst j1 j2 j3
  obtain ⟨bg,cs,f1,f2,f3,f4,f5⟩:=g5 (by omega)
  injection f2 with f2;injection f2 with f2
  subst f2
  refine ⟨.pointer (some ⟨b,j,none⟩),?_,b,f1,rfl⟩
  have e4:a.eval x=.slice (some ⟨b,0,none⟩) n (n+1):=e1
  have:=run_indexAt (P:=Tryz.prog) (k:=.i64) (i:=0) (c:=n+1) (a:=⟨b,0,none⟩) Tryz.underlying23 Bf hj w
  rw [Ff] at this
  simp only [execOp,e4,e5,Sem.run_bind,this,Result.andThen_ok,Sem.run_pure]
end
section
variable {P:Program} {ops:Array Oper} {Q:Exit→Act→World→Prop} {N:Nat} {w0:World} {B0:Bx} {a:Act} {w:World} {B:Bx} {l:List (Tmp × FD)} {bxs:List Tmp}
theorem qb3 {i:Nat} {K:Act→World→Prop} {g:Option Nat} {ng:Bool} {n k:Nat} {xs:List Int} {val:Int} {p s y:Tmp} {ty:TypeId} {pos:String} {af:Array Edge} (kp ke ky:Nat) (is:List Nat) {ks:List (Tmp × FD)} (hP:P=Tryz.prog)
  (H:St N w0 B0 a w B l bxs) (ho:ops[i]?=some ⟨none,.store 44 (.tmp s) (.tmp y),ty,pos,af,none⟩)
  (hp:l[kp]?=some (p,.box 52 2 (jc g ng n xs))) (he:l[ke]?=some (s,.val (qf0 g k))) (hy:l[ky]?=some (y,.val (Lit (.int .u32 val)))) (hk:k<n) (hval:0≤val∧val<4294967296)
  (hg:∀b,g=some b→w0.heap.size≤b) (hks:is.map (fun i=>l[i]?)=ks.map some) (hkp:Yw g ks)
  (hK:∀w,St N w0 B0 a w B ((p,.box 52 2 (jc g ng n (List.set xs k val))) :: ks) bxs→K a w):wpOp P ops Q i K a w:=by
 subst hP
 obtain ⟨bp,cs0,p1,p2,p3,p4,p5,sl,esl,⟨ad,n1,c,e1,g1,k2,g3,g4,g5⟩,b,e2,ht⟩:=H.fc.get kp hp
 rw [e1] at e2
 injection e2 with j1 j2 j3
 have j2:=j2.symm
 have j3:=j3.symm
 subst j1 j2 j3
 obtain ⟨bg,cs,f1,f2,f3,f4,f5⟩:=g5 (by omega)
 injection f2 with f2;injection f2 with f2
 subst f2
 obtain ⟨b3,q1,q2⟩:=H.fc.get ke he
 rw [f1] at q1
 injection q1 with q1
 subst q1
 have hyv:a.tmps.getD y undef=.int .u32 val:=H.fc.get ky hy
 have hblk:=ht.blk
 have hlen:(xs++[2148261425]).length=n+1:=by rw [List.length_append,ht.len];rfl
 have hcell:=hblk.cell k (by rw [hlen];omega)
 have hfr:=hblk.free k
 unfold wpOp
 simp only [ho]
 rw [if_pos (by simp [Region.wanted])]
 refine .inl ?_
 unfold Oper.wp
 have hrun:(storeVar 44 ⟨b,k,none⟩ (.int .u32 val)).run Tryz.prog w=.ok () (w.setCell ⟨b,k,none⟩ (.int .u32 val)):=by
  obtain ⟨i0,hi,hz0⟩:=Option.map_eq_some_iff.1 Bf
  have hs1:=run_store Tryz.prog w ⟨b,k,none⟩ (.int .u32 val) .plain rfl
  rw [hcell,hfr] at hs1
  have e0:(⟨b,k,none⟩:Addr).add 0=⟨b,k,none⟩:=by unfold Addr.add;split <;> simp_all
  simp [storeVar,Value.cells,storeCells,sizeOf,typeInfo,hi,hz0,Sem.run_bind,e0]
  simpa using hs1
 have hr2:(execOp a.eval ⟨none,.store 44 (.tmp s) (.tmp y),ty,pos,af,none⟩).run Tryz.prog w=.ok .skip (w.setCell ⟨b,k,none⟩ (.int .u32 val)):=by
  have e5:a.eval (.tmp s)=.pointer (some ⟨b,k,none⟩):=q2
  have e6:a.eval (.tmp y)=.int .u32 val:=hyv
  simp only [execOp,e5,e6,Instr.storeAt,Instr.sureAddr,Sem.run_bind,Sem.run_pure,Result.andThen_ok,hrun]
 rw [hr2]
 have o:Only b w (w.setCell ⟨b,k,none⟩ (.int .u32 val)):=(Only.refl b w).set k _
 have h2:Tw (w.setCell ⟨b,k,none⟩ (.int .u32 val)) b n (xs.set k val):=by
  have h3:=hblk.set k val
  rw [List.set_append_left _ _ (by rw [ht.len];exact hk)] at h3
  refine ⟨by rw [List.length_set];exact ht.len,h3,fun y hy=>?_⟩
  rcases List.mem_or_eq_of_mem_set hy with h | h
  ·exact ht.dig y h
  ·rw [h];exact hval
 have hrow:∃cs cs':Array Value,w.heap[b]?=some (.cells cs 44 (0,0))∧(w.setCell ⟨b,k,none⟩ (.int .u32 val)).heap[b]?=some (.cells cs' 44 (0,0))∧cs.size≤cs'.size:=⟨_,_,ht.blk,h2.blk,by simp [nums]⟩
 have hpb:bp≠b:=fun e=>f3 (e ▸ p2)
 refine hK _ ⟨H.df,H.sz,Fct.of_all fun z hz=>?_,fun z hz=>?_,H.ap,H.bel.trans ⟨o.os,o.tape,o.output,Nat.le_of_eq o.size.symm,fun k hk=>o.rest k fun e=>by have:=hg b f1;omega⟩,fun k hk2=>by rw [o.size];exact H.own k hk2,H.own0⟩
 ·rcases List.mem_cons.1 hz with rfl | hz
  ·exact ⟨bp,cs0,p1,p2,by rw [o.size];exact p3,(o.rest bp hpb).trans p4,p5,sl,esl,⟨_,_,_,e1,g1,k2,g3,fun h=>absurd h (by omega),fun _=>⟨b,_,f1,rfl,f3,h2.blk,by simp [nums,ht.len]⟩⟩,b,e1,h2⟩
  ·have hm:z∈l:=by
    have h2:some z∈is.map (fun i=>l[i]?):=by rw [hks];exact List.mem_map.2 ⟨z,hz,rfl⟩
    obtain ⟨i,_,hi⟩:=List.mem_map.1 h2
    exact List.mem_of_getElem? hi
   exact hkp.all z hz _ _ _ _ b f1 f3 o hrow (H.fc.all z hm)
 ·obtain ⟨c2,k1,k2,k3⟩:=H.bx z hz
  exact ⟨c2,k1,by rw [o.size];exact k2,k3⟩
end
def jr (f:Nat→Int→Int) (xs:List Int) (k:Nat):List Int:=(xs.take k).zipIdx.map (fun p=>f p.2 p.1)++xs.drop k
theorem Qj (f:Nat→Int→Int) (xs:List Int) (k:Nat):(jr f xs k).length=xs.length:=by unfold jr;simp;omega
theorem Y8 (f:Nat→Int→Int) (xs:List Int):jr f xs 0=xs:=by simp [jr]
theorem qcd (f:Nat→Int→Int) (xs:List Int) (k:Nat):(jr f xs k)[k]?.getD 0=xs[k]?.getD 0:=by
 unfold jr
 by_cases h:k<xs.length
 ·rw [List.getElem?_append_right (by simp;omega),List.getElem?_drop]
  congr 2
  simp
  omega
 ·rw [List.getElem?_eq_none (by simp;omega),List.getElem?_eq_none (by omega)]
theorem qce (f:Nat→Int→Int) (xs:List Int) (k:Nat) (hk:k<xs.length):(jr f xs k).set k (f k (xs[k]?.getD 0))=jr f xs (k+1):=by
 unfold jr
 have hl:((xs.take k).zipIdx.map (fun p=>f p.2 p.1)).length=k:=by simp;omega
 have hk2:(xs.take k).length=k:=by rw [List.length_take];omega
 have e1:xs.take (k+1)=xs.take k++[xs[k]]:=by rw [List.take_add_one,List.getElem?_eq_getElem hk];rfl
 have e2:xs.drop k=xs[k] :: xs.drop (k+1):=List.drop_eq_getElem_cons hk
 have e3:xs[k]?.getD 0=xs[k]:=by rw [List.getElem?_eq_getElem hk];rfl
 rw [List.set_append_right _ _ (by omega),hl,Nat.sub_self,e2,e3,e1,List.zipIdx_append,List.map_append,List.append_assoc,hk2]
 congr 1
 show f k xs[k] :: xs.drop (k+1)=_
 simp only [List.zipIdx_cons,List.zipIdx_nil,List.map_cons,List.map_nil,List.cons_append,List.nil_append,Nat.zero_add]
theorem Qi {f:Nat→Int→Int} {xs:List Int} (hd:Dig 4294967296 xs) (hf:∀k x,k<xs.length→0≤x∧x<4294967296→0≤f k x∧f k x<4294967296) (k:Nat):Dig 4294967296 (jr f xs k):=by
 intro y hy
 rcases List.mem_append.1 hy with h | h
 ·obtain ⟨p,hp,rfl⟩:=List.mem_map.1 h
  have h1:=List.snd_lt_of_mem_zipIdx hp
  rw [List.length_take] at h1
  exact hf _ _ (by omega) (hd _ (List.mem_of_mem_take (List.fst_mem_of_mem_zipIdx hp)))
 ·exact hd y (List.mem_of_mem_drop h)
theorem qfz {n:Nat} {xs:List Int} (v:Value) (w:World) (B:Bx) (h:(Tn n xs).p v w B):(IsL .u32 xs).p v w B:=by
 obtain ⟨ad,c,e,k⟩:=Xu _ _ _ h
 exact ⟨.inl rfl,ad,n,c,e,k.rds⟩
def Ae (k:Nat) (x:Int):Int:=bits .xor .u32 x ((k:Int)+1)
def xe (_:Nat) (x:Int):Int:=(x+3) % 4294967296
theorem Xx (k:Nat) (hk:k<4294967295) (x:Int) (h:0≤x∧x<4294967296):0≤Ae k x∧Ae k x<4294967296:=by
 unfold Ae
 rw [u32_xor x ((k:Int)+1) h.1 h.2 (by omega) (by omega)]
 have:=Nat.xor_lt_two_pow (n:=32) (x:=x.toNat) (y:=((k:Int)+1).toNat) (by omega) (by omega)
 omega
section
variable {P:Program} {need:List (Tmp × FD)} {d:Option Tmp} {ty:TypeId} {pos:String} {af:Array Edge} {g:Option (Nat × Bool)} {x y:Operand}
theorem qn2 {i j r:Int} {k:IntKind} {t t':TypeId} (h:Opd need x (.val (Lit (.int k i)))) (h':Opd need y (.val (Lit (.int k j)))) (hr:bits .xor k i j=r):jo P ⟨d,.binOp .xor t x y t',ty,pos,af,g⟩ need (.val (Lit (.int k r))) false:=
 Ht h h' fun ρ w e1 e2=>by
  subst hr
  simp [execOp,e1,e2,eqGuard,binOp,Op.intArith,Op.intBits,Sem.run_bind]
  try rfl
end
def x8 (n:Int) (s:ByteArray):VP:=⟨fun v _ _=>∃cs:Array Value,v=.agg cs∧cs[8]?=some (.int .i64 n)∧cs[9]?=some (.string s),fun _ _ _ _ _ _ h=>h⟩
theorem qlj {gx gy gu gv:Bool} {nx ny nu nv:Nat} {xx xy xu xv:List Int} {n:Int} {s:ByteArray} (v:Value) (w:World) (B:Bx) (h:(jw gx gy gu gv nx ny nu nv xx xy xu xv n s).p v w B):(x8 n s).p v w B:=by
 obtain ⟨ax,cx,ay,cy,au,cu,av,cv,e,_⟩:=h
 exact ⟨_,e,rfl,rfl⟩
theorem Vt {g:Option Nat} {n:Int} {s:ByteArray}:Kq g (.val (x8 n s)):=fun _ _ _ _ _ _ _ _ _ h=>h
section
variable {need:List (Tmp × FD)} {d:Option Tmp} {ty:TypeId} {pos:String} {af:Array Edge} {g:Option (Nat × Bool)} {x y:Operand}
theorem Sm {n:Int} {s:ByteArray} (h:Opd need x (.ptr 71 10 (x8 n s) 8)):jo Tryz.prog ⟨d,.load 2 x,ty,pos,af,g⟩ need (.val (Lit (.int .i64 n))) false:=
 Bi qe7 h (by decide) fun cs v w B ⟨cs2,e,h1,h2⟩ hv=>by
  injection e with e
  subst e
  rw [h1] at hv
  injection hv with hv
  exact hv.symm
theorem Sr {n:Int} {s:ByteArray} (h:Opd need x (.ptr 71 10 (x8 n s) 9)):jo Tryz.prog ⟨d,.load 9 x,ty,pos,af,g⟩ need (.val (Lit (.string s))) false:=
 Bi qe8 h (by decide) fun cs v w B ⟨cs2,e,h1,h2⟩ hv=>by
  injection e with e
  subst e
  rw [h2] at hv
  injection hv with hv
  exact hv.symm
end
theorem qjs (ng:Bool) {xs:List Int} (hl:xs.length≤1024) (hd:Dig 4294967296 xs):yz 1024 (sI ng (val 4294967296 xs)):=by
 have h1:=Au (show (0:Int)<4294967296 by omega) hd
 have h2:=zt (show (0:Int)<4294967296 by omega) hd
 refine yz.mono (k:=xs.length) ?_ hl
 unfold yz
 rw [F9 ng _ h2]
 exact h1
end Go.Proofs.YtbcbmkeeoognpaaGreatDoor

set_option maxRecDepth 50000
namespace Go.Proofs.YtbcbmkeeoognpaaGreatDoor
open Go Go.RowKit
def Jm (v:Value) (b:Nat):Prop:=∃cs ad n c,v=.agg cs∧Value.slice ad n c∈cs∧0<c∧xg ad=some b
def P8 (P:Program) (ops:Array Oper) (o:Oper) (need:List (Tmp × FD)) (post:FD) (al:Bool) (X:Value→World→Prop):Prop:=
 ∀(Q:Exit→Act→World→Prop) (K:Act→World→Prop) (i:Nat) (a:Act) (w:World) (B:Bx),ops[i]?=some o→Hz B w→Fct a w B need →
  (∀v w' B',post.p v w' B'→Bl w B w' B'→Below w.heap.size w w'→Hz B' w'→(al=true→∃b,v=.pointer (some ⟨b,0,none⟩)∧w.heap.size≤b∧b<w'.heap.size)→X v w→K (a.put o.dst v) w') →
  wpOp P ops Q i K a w
section
variable {P:Program} {ops:Array Oper} {Q:Exit→Act→World→Prop} {md:Region.Mode}
section
variable {tl:Bool} {m N:Nat} {dsts:List (Option Tmp)} {pres bxs:List Tmp} {refs:List (List Ref)} {outs:List Ref} {als:List Bool} {posts:List FD} {pre:List (Tmp × FD)} {base:Act} {w0:World} {B0:Bx}
theorem Jy.stepX {X:Nat→Value→World→Prop} (C:Lh tl md ops m N dsts pres bxs refs outs als) (hpre:pre.map Prod.fst=pres) (hb:Fct base w0 B0 pre) (hN:base.tmps.size=N)
  (hall:∀i,i<m→∃o,ops[i]?=some o∧P8 P ops o ((refs.getD i []).map (Ai dsts posts pre)) (posts.getD i (.val VP.top)) (als.getD i false) (X i))
  {l:Array Bool} {a:Act} {w:World} {B:Bx} (h:Jy md ops m dsts posts als base w0 B0 l a w B) (i:Nat) (hi:i<m) (hun:l.getD i true=false)
  (hdeps:∀o,ops[i]?=some o→∀e∈o.after,Region.binds md e=true→l.getD e.on false=true) :
  wpOp P ops Q i (fun a' w'=>(∃v,a'=a.put (dsts.getD i none) v∧X i v w)∧∃B',Jy md ops m dsts posts als base w0 B0 (l.setIfInBounds i true) a' w' B') a w:=by
 obtain ⟨o,ho,hstep⟩:=hall i hi
 have hod:=C.dst i o hi ho
 have hisz:i<ops.size:=(Array.getElem?_eq_some_iff.1 ho).1
 have hdeps:=hdeps o ho
 refine hstep Q _ i a w B ho h.own (Fct.of_all fun x hx=>?_) ?_
 ·obtain ⟨r,hr,rfl⟩:=List.mem_map.1 hx
  have hok:=C.ref i r hi hr
  refine h.need C hpre hb r ?_
  cases r with
  | pre k=>
   simp only [J5] at hok
   cases hs:pres[k]? with
   | none=>rw [hs] at hok;cases hok
   | some s=>rw [hs] at hok;simp only [hs];simpa using hok
  | res j=>
   simp only [J5,Bool.and_eq_true,decide_eq_true_eq] at hok
   exact ⟨hok.1.1,hok.1.2,Fe ho hdeps hok.2⟩
 ·intro v w' B' hp hbl hbel hown hal hX
  have hds:∀d,o.dst=some d→d<a.tmps.size:=fun d hd=>by
   rw [h.tsize,hN];exact C.lt i d (by rw [←hod];exact hd)
  have hput:∀s,(a.put o.dst v).tmps.getD s undef=if o.dst=some s then v else a.tmps.getD s undef:=fun s=>Dc hds
  have hlset:∀j b,j<ops.size→(l.setIfInBounds i true).getD j b=if i=j then true else l.getD j b:=fun j b hj=>by
   have hil:i<l.size:=by rw [h.size];exact hisz
   rw [Array.getD_eq_getD_getElem?,Array.getD_eq_getD_getElem?,Array.getElem?_setIfInBounds]
   by_cases e:i=j
   ·subst e;simp [hil]
   ·rw [if_neg e,if_neg e]
  have hmono:∀j,l.getD j false=true→(l.setIfInBounds i true).getD j false=true:=fun j hj=>getD_set_true hj
  have hms:m≤ops.size:=by
   have:=C.core
   unfold Jz at this
   simp only [Bool.and_eq_true,decide_eq_true_eq] at this
   exact this.1
  refine ⟨⟨v,by rw [hod],hX⟩,B',by rw [Array.size_setIfInBounds];exact h.size,?_,?_,?_,?_,?_,?_,?_,?_,h.bl.trans hbl,Dw h.below h.below.size hbel,hown⟩
  ·intro j hj1 hj2
   rw [hlset j true hj2,if_neg (by omega)]
   exact h.late j hj1 hj2
  ·intro j o2 ho2 hlj e he hb2
   refine hmono _ ?_
   by_cases e1:i=j
   ·subst e1
    rw [ho] at ho2
    injection ho2 with ho2
    subst ho2
    exact hdeps e he hb2
   ·have hj2:j<ops.size:=(Array.getElem?_eq_some_iff.1 ho2).1
    rw [hlset j false hj2,if_neg e1] at hlj
    exact h.closed j o2 ho2 hlj e he hb2
  ·rw [put_defers];exact h.defers
  ·rw [Dk];exact h.tsize
  ·intro s hs
   rw [hput,if_neg ?_]
   ·exact h.rest s hs
   ·intro e
    rw [hod] at e
    have:dsts.contains (some s)=true:=by
     rw [List.contains_iff_mem]
     rw [List.getD_eq_getElem?_getD] at e
     cases h2:dsts[i]? with
     | none=>rw [h2] at e;cases e
     | some y=>rw [h2] at e;simp at e;subst e;exact List.mem_of_getElem? h2
    rw [hs] at this;cases this
  ·intro j d hj hd hlj
   rw [hlset j false (by omega)] at hlj
   rw [hput]
   by_cases e:i=j
   ·subst e;rw [if_pos (by rw [hod];exact hd)];exact hp
   ·rw [if_neg e] at hlj
    rw [if_neg (fun e2=>e (jv C.dis i j d (by rw [←hod];exact e2) hd))]
    exact FD.st _ hbl (h.fact j d hj hd hlj)
  ·intro j d hj haj hd hlj
   rw [hlset j false (by omega)] at hlj
   rw [hput]
   by_cases e:i=j
   ·subst e
    rw [if_pos (by rw [hod];exact hd)]
    obtain ⟨b,h1,h2,h3⟩:=hal haj
    exact ⟨b,h1,Nat.le_trans h.below.size h2,h3⟩
   ·rw [if_neg e] at hlj
    rw [if_neg (fun e2=>e (jv C.dis i j d (by rw [←hod];exact e2) hd))]
    obtain ⟨b,h1,h2,h3⟩:=h.fresh j d hj haj hd hlj
    exact ⟨b,h1,h2,Nat.lt_of_lt_of_le h3 hbel.size⟩
  ·intro j k d e hj hk hjk aj ak hd he lj lk
   rw [hlset j false (by omega)] at lj
   rw [hlset k false (by omega)] at lk
   rw [hput,hput]
   by_cases e1:i=j
   ·subst e1
    rw [if_neg hjk] at lk
    rw [if_pos (by rw [hod];exact hd),if_neg (fun e2=>hjk (jv C.dis i k e (by rw [←hod];exact e2) he))]
    obtain ⟨b,h1,h2,h3⟩:=hal aj
    obtain ⟨c,g1,g2,g3⟩:=h.fresh k e hk ak he lk
    rw [h1,g1]
    intro e3
    injection e3 with e3;injection e3 with e3;injection e3 with e3
    omega
   ·rw [if_neg e1] at lj
    rw [if_neg (fun e2=>e1 (jv C.dis i j d (by rw [←hod];exact e2) hd))]
    by_cases e2:i=k
    ·subst e2
     rw [if_pos (by rw [hod];exact he)]
     obtain ⟨b,h1,h2,h3⟩:=hal ak
     obtain ⟨c,g1,g2,g3⟩:=h.fresh j d hj aj hd lj
     rw [h1,g1]
     intro e3
     injection e3 with e3;injection e3 with e3;injection e3 with e3
     omega
    ·rw [if_neg e2] at lk
     rw [if_neg (fun e3=>e2 (jv C.dis i k e (by rw [←hod];exact e3) he))]
     exact h.apart j k d e hj hk hjk aj ak hd he lj lk
end
theorem qgv (m c c6:Nat) {d6 dc:Tmp} {N:Nat} {opl:List Oper} {dsts:List (Option Tmp)} {refs:List (List Ref)} {outs:List Ref} {als:List Bool} {posts:List FD} {pre out:List (Tmp × FD)} {bxs nb:List Tmp} {a:Act} {w w0:World} {B B0:Bx}
  (H:St N w0 B0 a w B pre bxs)
  (hck:Eg true .any opl.toArray m N dsts (pre.map Prod.fst) bxs refs outs als=true) (hout:outs.map (Ai dsts posts pre)=out) (hnb:Kw dsts als=nb)
  (hall:Je P opl.toArray (Ai dsts posts pre) opl refs posts als)
  (hcm:c<m) (hc6:c6<c) (hd6:dsts.getD c6 none=some d6) (hdc:dsts.getD c none=some dc) (hanc:((Z5 .any opl []).getD c 0).testBit c6=true)
  (hcX:∀o,opl[c]?=some o→P8 P opl.toArray o ((refs.getD c []).map (Ai dsts posts pre)) (posts.getD c (.val VP.top)) (als.getD c false) (fun v w=>∀b,Jm v b→w.heap.size≤b))
  (h6X:∀u w B,(posts.getD c6 (.val VP.top)).p u w B→∀b,Jm u b→b<w.heap.size)
  (hfull:∀a w B,St N w0 B0 a w B out (nb++bxs)→(∀b,Jm (a.tmps.getD d6 undef) b→¬Jm (a.tmps.getD dc undef) b)→wpAny P .any opl.toArray Q (Ei (A7 opl.toArray.size m)) (A7 opl.toArray.size m) a w) :
  wpAny P .any opl.toArray Q opl.toArray.size (Array.replicate opl.toArray.size false) a w:=by
 have C:=L8 hck
 have hc:=C.core
 have hallg:=hall.get
 rw [C.lr] at hallg
 simp only [←List.getElem?_toArray] at hallg hcX
 have hanc:((Z5 .any opl.toArray.toList []).getD c 0).testBit c6=true:=hanc
 generalize opl.toArray=ops at *
 unfold Jz at hc
 rw [Bool.and_eq_true,decide_eq_true_eq,List.all_eq_true] at hc
 obtain ⟨hm,hc⟩:=hc
 have key:∀l a w B,Jy .any ops m dsts posts als a w B l a w B→True:=fun _ _ _ _ _=>trivial
 have keyf:∀l a1 w1 B1,Jy .any ops m dsts posts als a w B l a1 w1 B1→(∀i,i<m→l.getD i false=true)→l=A7 ops.size m:=by
  intro l a1 w1 B1 h hl
  apply Array.ext
  ·rw [h.size];simp [A7]
  ·intro i h1 h2
   have hi:i<ops.size:=by rw [←h.size];exact h1
   have e:(A7 ops.size m)[i]=decide (i<m):=by simp [A7]
   rw [e]
   by_cases him:i<m
   ·have:=hl i him
    rw [Array.getD_eq_getD_getElem?,Array.getElem?_eq_getElem h1] at this
    rw [decide_eq_true him]
    simpa using this
   ·have:=h.late i (by omega) hi
    rw [Array.getD_eq_getD_getElem?,Array.getElem?_eq_getElem h1] at this
    rw [decide_eq_false him]
    simpa using this
 have hallX:∀i,i<m→∃o,ops[i]?=some o∧P8 P ops o ((refs.getD i []).map (Ai dsts posts pre)) (posts.getD i (.val VP.top)) (als.getD i false) (fun v w=>i=c→∀b,Jm v b→w.heap.size≤b):=fun i hi=>by
  obtain ⟨o,ho,hs⟩:=hallg i hi
  refine ⟨o,ho,?_⟩
  by_cases e:i=c
  ·subst e
   intro Q K j a w B h1 h2 h3 h4
   exact hcX o ho Q K j a w B h1 h2 h3 fun v w' B' p1 p2 p3 p4 p5 p6=>h4 v w' B' p1 p2 p3 p4 p5 fun _=>p6
  ·intro Q K j a w B h1 h2 h3 h4
   exact hs Q K j a w B h1 h2 h3 fun v w' B' p1 p2 p3 p4 p5=>h4 v w' B' p1 p2 p3 p4 p5 fun e2=>absurd e2 e
 refine Zm (A7 ops.size m) (fun l a1 w1=>∃B1,Jy .any ops m dsts posts als a w B l a1 w1 B1∧(l.getD c false=true→∀b,Jm (a1.tmps.getD d6 undef) b→¬Jm (a1.tmps.getD dc undef) b)) ?_ ?_ ?_ ops.size _ a w ?_ ⟨B,Jy.start H.own,fun hl=>?_⟩
 ·rintro l a1 w1 ⟨B1,h,_⟩ hl
  by_cases hall:∀i,i<m→l.getD i false=true
  ·exact absurd (keyf l a1 w1 B1 h hall) hl
  ·have hex:∃i,i<m∧l.getD i false≠true:=by
    simpa [Classical.not_forall] using hall
   obtain ⟨i,⟨hi,hne⟩,hmin⟩:∃i,(i<m∧l.getD i false≠true)∧∀j,j<i→¬(j<m∧l.getD j false≠true):=Vw _ hex
   have hisz:i<ops.size:=by omega
   have hoi:=hc i (List.mem_range.2 hisz)
   rw [Array.getElem?_eq_getElem hisz] at hoi
   simp only [hi,if_true] at hoi
   have hmem:i∈Region.ready .any ops l:=mem_ready.2 ⟨by
     have hl2:i<l.size:=by rw [h.size];exact hisz
     rw [Array.getD_eq_getD_getElem?,Array.getElem?_eq_getElem hl2] at hne ⊢
     simpa using hne,ops[i],Array.getElem?_eq_getElem hisz,fun e he hbi=>by
     have h1:=Array.all_eq_true_iff_forall_mem.1 hoi e he
     have h2:e.on<i:=by simpa [hbi] using h1
     have h3:=hmin e.on h2
     by_cases h4:l.getD e.on false=true
     ·exact h4
     ·exact absurd ⟨by omega,h4⟩ h3⟩
   intro e
   rw [e] at hmem
   cases hmem
 ·rintro l a1 w1 i ⟨B1,h,hG⟩ hl hi
  obtain ⟨hun,o,ho,hdeps⟩:=mem_ready.1 hi
  have hisz:i<ops.size:=(Array.getElem?_eq_some_iff.1 ho).1
  by_cases him:i<m
  ·refine wpOp_mono ?_ (h.stepX C rfl H.fc H.sz hallX i him hun (fun o2 ho2=>by rw [ho] at ho2;injection ho2 with ho2;subst ho2;exact hdeps))
   rintro a2 w2 ⟨⟨v,rfl,hv⟩,B2,h2⟩
   refine ⟨B2,h2,fun hlc=>?_⟩
   have hunf:l.getD i false=false:=by
    have hil:i<l.size:=by rw [h.size];exact hisz
    rw [Array.getD_eq_getD_getElem?,Array.getElem?_eq_getElem hil] at hun ⊢
    simpa using hun
   have hds:∀d,dsts.getD i none=some d→d<a1.tmps.size:=fun d hd=>by
    rw [h.tsize,H.sz];exact C.lt i d hd
   have hput:∀s,(a1.put (dsts.getD i none) v).tmps.getD s undef=if dsts.getD i none=some s then v else a1.tmps.getD s undef:=fun s=>Dc hds
   by_cases e:i=c
   ·subst e
    have h6:l.getD c6 false=true:=Jl h.closed ho hdeps hanc
    have hne:¬dsts.getD i none=some d6:=fun e2=>by have:=jv C.dis i c6 d6 e2 hd6;omega
    rw [hput,hput,if_neg hne,if_pos hdc]
    intro b hb hb2
    have q1:=h6X _ _ _ (h.fact c6 d6 (by omega) hd6 h6) b hb
    have q2:=hv rfl b hb2
    omega
   ·have hlc2:l.getD c false=true:=by
     rw [Array.getD_eq_getD_getElem?,Array.getElem?_setIfInBounds,if_neg e,←Array.getD_eq_getD_getElem?] at hlc
     exact hlc
    have hcs:c<ops.size:=by omega
    have h6:l.getD c6 false=true:=Jl h.closed (Array.getElem?_eq_getElem hcs) (h.closed c _ (Array.getElem?_eq_getElem hcs) hlc2) hanc
    have hn6:¬dsts.getD i none=some d6:=fun e2=>by
     have:=jv C.dis i c6 d6 e2 hd6
     subst this
     rw [hunf] at h6;cases h6
    have hnc:¬dsts.getD i none=some dc:=fun e2=>e (jv C.dis i c dc e2 hdc)
    rw [hput,hput,if_neg hn6,if_neg hnc]
    exact hG hlc2
  ·exfalso
   have hoi:=hc i (List.mem_range.2 hisz)
   rw [ho] at hoi
   simp only [him,if_false] at hoi
   refine hl (keyf l a1 w1 B1 h fun j hj=>?_)
   rw [Bool.not_true,Bool.false_or] at hoi
   have h1:=List.all_eq_true.1 hoi j (List.mem_range.2 hj)
   exact Jl h.closed ho hdeps h1
 ·rintro a1 w1 ⟨B1,h,hG⟩
  refine hfull a1 w1 B1 (h.done C rfl H hout hnb fun i hi=>?_) (hG (by
   have:c<ops.size:=by omega
   simp [A7,Array.getD_eq_getD_getElem?,this,hcm]))
  have:i<ops.size:=by omega
  simp [A7,Array.getD_eq_getD_getElem?,this,hi]
 ·unfold Ei
  simp [List.countP_replicate]
 ·rw [Array.getD_eq_getD_getElem?,Array.getElem?_replicate] at hl
  split at hl <;> simp at hl
end
end Go.Proofs.YtbcbmkeeoognpaaGreatDoor

namespace Go.Proofs.YtbcbmkeeoognpaaGreatDoor
open Go.RowKit
def qlo (l:List Nat) (w:World) (e:Ending) (w':World):Prop:=∃r,e=.returned (.bool r)∧Below w.heap.size w w'∧(r=false→∀j:Nat,l[j]?.getD 0≤1048576)
set_option maxHeartbeats 1000000 in
theorem Ya (b n c:Nat) (l:List Nat) (f:Nat→Option Addr × Nat) (w:World) (hn:l.length=n) (hs:n≤1000) (hb:∀j:Nat,l[j]?.getD 0≤140737488355328)
  (hc:∀j,j<n→w.cell? ⟨b,j*2+1,none⟩=some (.slice (f j).1 (l[j]?.getD 0) (f j).2)) :
  Calls Tryz.prog 38 #[.slice (some ⟨b,0,none⟩) n c] w (qlo l w):=by
 have HN:=Lib.hid hn
 have HB:=Lib.hid hb
 have HC:=Lib.hid hc
 clear hn hb hc
 go_enter Tryz.func38,Tryz.ntmps38
 go_wp2
 go_loopw [3] (fun i wr=>∃k:Nat,k≤n∧i=.int .i64 k∧Below w.heap.size w wr∧Hid (∀j,j<k→l[j]?.getD 0≤1048576)) (fun i _=>n-(intOf i).toNat)
 case atStart=>exact ⟨0,Nat.zero_le _,rfl,Below.refl _ _,Lib.hid fun j hj=>by omega⟩
 case round=>
  obtain ⟨k,hk,rfl,hbel,hl⟩:=hrel
  by_cases hkn:k<n
  ·have hcell:=jd hbel (Nat.le_refl _) (HC.out k hkn)
   have hbk:=HB.out k
   obtain ⟨x,hx⟩:∃x,l[k]?.getD 0=x:=⟨_,rfl⟩
   rw [hx] at hcell hbk
   have HX:=Lib.hid hx
   generalize (f k).1=ad at *
   generalize (f k).2=cc at *
   clear hx
   have b1:Below w.heap.size w (wr.alloc (.cells #[.slice ad x cc] 23)):=Iy hbel _
   have hB:=Z7 wr.heap.size 1 1 [x] (fun _=>(ad,cc)) (wr.alloc (.cells #[.slice ad x cc] 23)) rfl (by omega) (fun j=>by cases j <;> simp <;> omega) (fun j hj=>by
    obtain rfl:j=0:=by omega
    exact World.cell?_alloc_at _ _ _ _ rfl)
   have h:=Lib.hid hB
   clear hB
   go_wp2_with fail
   refine (h.out).mono ?_
   rintro e w' ⟨r,rfl,rfl,hr⟩
   cases r
   ·have hx2:Hid (x≤1048576):=Lib.hid (by have:=hr rfl;simp [parts] at this;omega)
    clear hr h
    go_wp2_with fail
    go_roundw
    case rel=>exact ⟨k+1,by omega,by go_num,b1,Lib.hid fun j hj=>by
     rcases Nat.lt_or_ge j k with h1 | h1
     ·exact hl.out j h1
     ·obtain rfl:j=k:=by omega
      rw [HX.out]
      exact hx2.out⟩
    case measure=>simp [intOf];omega
   ·clear hr h
    go_wp2_with fail
    go_ret
    exact ⟨true,rfl,b1,fun h=>by cases h⟩
  ·obtain rfl:k=n:=by omega
   have HE:Hid (∀j:Nat,l[j]?.getD 0≤1048576):=Lib.hid fun j=>by
    rcases Nat.lt_or_ge j l.length with h1 | h1
    ·exact hl.out j (by have:=HN.out;omega)
    ·rw [List.getElem?_eq_none h1];simp
   go_wp2
   go_ret
   exact ⟨false,rfl,hbel,fun _=>HE.out⟩
theorem qbm (l:List Nat) (hs:l.length≤1000) (hb:∀j:Nat,l[j]?.getD 0≤140737488355328):Con Tryz.prog 38 [Zr l] (qic True (∀j:Nat,l[j]?.getD 0≤1048576)):=by
 refine ⟨fun _ _=>by go_simp,fun vs w B hB hV=>?_⟩
 match vs,hV with
 | [v],⟨h1,_⟩=>
  obtain ⟨b,c,f,rfl,_,_,hc⟩:=h1
  refine (Ya b l.length c l f w rfl hs hb hc).mono ?_
  rintro e w' ⟨r,rfl,hbl,hr⟩
  exact ⟨_,rfl,⟨r,rfl,fun _=>trivial,hr⟩,hbl⟩
end Go.Proofs.YtbcbmkeeoognpaaGreatDoor
