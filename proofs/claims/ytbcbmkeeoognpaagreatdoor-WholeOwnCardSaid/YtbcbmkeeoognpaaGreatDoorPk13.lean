/- Contracts of functions, and plain facts, part 13. -/
import Derived.Deep.LoopGhost
import Derived.Test.YtbcbmkeeoognpaaGreatDoorPk3
import Derived.Test.YtbcbmkeeoognpaaGreatDoorPk10
import Derived.Test.YtbcbmkeeoognpaaGreatDoorPk11
import Derived.Test.YtbcbmkeeoognpaaGreatDoorPk12
set_option linter.unusedVariables false
set_option linter.unusedSimpArgs false
namespace Go.Proofs.YtbcbmkeeoognpaaGreatDoor
open Go Go.RowKit
def qnm (w:World) (L:List Hd) (q:Nat) (h:Hd):Prop:=
 h.ln=h.n+70∧∃lg cs,h.la=some ⟨lg,0,none⟩∧w.heap[lg]?=some (.cells cs 44 (0,0))∧(∀j,j<h.ln→cs[j]?=some (.int .u32 (2147483648+((q:Int)+1))))∧(∀p hp,p≠q→L[p]?=some hp→0<hp.c→xg hp.ad≠some lg)
def Grown (w:World) (L:List Hd) (i:Nat):Prop:=∀(q:Nat) (h:Hd),q<i→L[q]?=some h→qnm w L q h
theorem En.kept {w w1:World} {L:List Hd} {i:Nat} (h:En w L i) (hk:∀(q:Nat) (p:Hd) (g:Nat),q<i→L[q]?=some p→p.ad=some ⟨g,0,none⟩→0<p.n→g<w.heap.size→∀j,j<p.n→w1.cell? ⟨g,j,none⟩=w.cell? ⟨g,j,none⟩):En w1 L i:=fun q p g hq hp hg j hj=>by
 have:=h q p g hq hp hg j hj
 rw [hk q p g hq hp hg (by omega) (World.block_lt_of_cell? w _ this) j hj]
 exact this
theorem Grown.kept {w w1:World} {L:List Hd} {i:Nat} (h:Grown w L i) (hk:∀(q:Nat) (p:Hd) (g:Nat),q<i→L[q]?=some p→p.la=some ⟨g,0,none⟩→g<w.heap.size→w1.heap[g]?=w.heap[g]?):Grown w1 L i:=fun q p hq hp=>by
 obtain ⟨h1,lg,cs,h2,h3,h4,h5⟩:=h q p hq hp
 exact ⟨h1,lg,cs,h2,(hk q p lg hq hp h2 (Array.getElem?_eq_some_iff.1 h3).1).trans h3,h4,h5⟩
theorem Grown.below {B:Nat} {w w1:World} {L:List Hd} {i:Nat} (h:Grown w L i) (hb:Below B w w1) (hB:w.heap.size≤B):Grown w1 L i:=h.kept fun _ _ g _ _ _ hg=>hb.block g (Nat.lt_of_lt_of_le hg hB)
theorem y8.mine {B:Nat} {w:World} {b:Nat} {v:Value} {L:List Hd} (h:y8 B w b v L) {N i:Nat} (hf:En w L N) (hi:i<N) {q:Hd} (hq:L[i]?=some q):Own B w 44 .u32 q.ad q.n q.c (List.replicate q.n (2147483648+((i:Int)+1))):=by
 have k:=h.one q (List.mem_of_getElem? hq)
 refine ⟨by simp,k.le,k.cap,fun hc=>?_⟩
 obtain ⟨g,cs,e,h1,h2,h3⟩:=k.row hc
 refine ⟨g,cs,e,h1,h2,h3,fun j hj=>?_⟩
 have:=hf i q g hi hq e j hj
 rw [Af h2] at this
 rw [this,List.getElem?_replicate,if_pos hj]
 rfl
theorem y8.laid {B:Nat} {w:World} {b:Nat} {L:List Hd} {rb cap:Nat} (h:y8 B w b (.slice (some ⟨rb,0,none⟩) L.length cap) L) (i:Nat) (la:Option Addr) (ln lc:Nat) :
  y8 B (w.setCell ⟨rb,i*3+1,none⟩ (.slice la ln lc)) b (.slice (some ⟨rb,0,none⟩) L.length cap) (Kz L i la ln lc):=by
 have hO:Only rb w (w.setCell ⟨rb,i*3+1,none⟩ (.slice la ln lc)):=(Only.refl rb w).set _ _
 have hs:=(h.row.stored (i*3+1) (.slice la ln lc)).1
 rw [Nat.mul_comm i 3,qj7] at hs
 rw [Nat.mul_comm i 3] at hO ⊢
 have hbr:b≠rb:=fun e=>h.row_ne (by rw [e];rfl)
 have hrt:∀(g:Nat) (cs:Array Value),w.heap[g]?=some (.cells cs 44 (0,0))→g≠rb:=fun g cs hg e=>(h.block_ne hg).2 (by rw [e];rfl)
 refine ⟨h.lo,?_,by rw [La];exact hs,by rw [La];exact h.len,fun p hp=>?_,fun x y hx hy ex ey hxy cx cy=>?_⟩
 ·rw [La,hO.rest b hbr];exact h.hd
 ·obtain ⟨x,hx⟩:=List.getElem?_of_mem hp
  obtain ⟨g,hg,e1,e2,e3,_⟩:=Io L i x la ln lc p hx
  have k:=h.one g (List.mem_of_getElem? hg)
  refine ⟨by rw [e2,e3];exact k.le,by rw [e2];exact k.big,by rw [e3];exact k.cap,fun hc=>?_⟩
  rw [e3] at hc ⊢
  rw [e1]
  obtain ⟨q,ds,r1,r2,r3,r4⟩:=k.row hc
  exact ⟨q,ds,r1,r2,(hO.rest q (hrt q ds r3)).trans r3,r4⟩
 ·obtain ⟨g,hg,e1,e2,e3,_⟩:=Io L i x la ln lc hx ex
  obtain ⟨g2,hg2,f1,f2,f3,_⟩:=Io L i y la ln lc hy ey
  rw [e1,f1]
  exact h.sep x y g g2 hg hg2 hxy (by rw [←e3];exact cx) (by rw [←f3];exact cy)
theorem En.laid {w:World} {L:List Hd} {N:Nat} (h:En w L N) (i:Nat) (la:Option Addr) (ln lc:Nat):En w (Kz L i la ln lc) N:=fun q p g hq hp hg j hj=>by
 obtain ⟨p0,h0,e1,e2,e3,_⟩:=Io L i q la ln lc p hp
 exact h q p0 g hq h0 (by rw [←e1];exact hg) j (by rw [←e2];exact hj)
theorem Grown.laid {w:World} {L:List Hd} {i:Nat} (h:Grown w L i) {p:Hd} (hp:L[i]?=some p) {lg lc:Nat} {cs:Array Value} (hw:w.heap[lg]?=some (.cells cs 44 (0,0)))
  (hm:∀j,j<p.n+70→cs[j]?=some (.int .u32 (2147483648+((i:Int)+1)))) (hs:∀q hq,q≠i→L[q]?=some hq→0<hq.c→xg hq.ad≠some lg):Grown w (Kz L i (some ⟨lg,0,none⟩) (p.n+70) lc) (i+1):=fun q r hq hr=>by
 have conv:∀(q lg:Nat),(∀x hx,x≠q→L[x]?=some hx→0<hx.c→xg hx.ad≠some lg)→∀x hx,x≠q→(Kz L i (some ⟨lg,0,none⟩) (p.n+70) lc)[x]?=some hx→0<hx.c→xg hx.ad≠some lg:=fun q lg k x hx hne ex cx=>by
  obtain ⟨x0,h0,e1,e2,e3,_⟩:=Io L i x _ _ _ hx ex
  rw [e1]
  exact k x x0 hne h0 (by rw [←e3];exact cx)
 have conv2:∀(q lg2:Nat),(∀x hx,x≠q→L[x]?=some hx→0<hx.c→xg hx.ad≠some lg2)→∀x hx,x≠q→(Kz L i (some ⟨lg,0,none⟩) (p.n+70) lc)[x]?=some hx→0<hx.c→xg hx.ad≠some lg2:=fun q lg2 k x hx hne ex cx=>by
  obtain ⟨x0,h0,e1,e2,e3,_⟩:=Io L i x _ _ _ hx ex
  rw [e1]
  exact k x x0 hne h0 (by rw [←e3];exact cx)
 obtain ⟨r0,h0,e1,e2,e3,e4,e5⟩:=Io L i q _ _ _ r hr
 by_cases e:q=i
 ·subst e
  obtain ⟨f1,f2,f3⟩:=e4 rfl
  rw [hp] at h0
  injection h0 with h0
  subst h0
  exact ⟨by rw [f2,e2],lg,cs,f1,hw,fun j hj=>hm j (by rw [f2] at hj;exact hj),conv2 q lg hs⟩
 ·obtain ⟨g1,lg2,cs2,g2,g3,g4,g5⟩:=h q r0 (by omega) h0
  have e6:=e5 (Ne.symm e)
  subst e6
  exact ⟨g1,lg2,cs2,g2,g3,g4,conv2 q lg2 g5⟩
structure qa6 (B:Nat) (w0 w:World) (b:Nat) (v:Value) (L:List Hd) (i n H:Nat) (cells:Array Value) (k:Nat) (la:Option Addr) (lc:Nat):Prop where
 at_:y8 B w b v L
 filled:En w L L.length
 grown:Grown w L i
 below:Below B w0 w
 size:B≤w.heap.size
 box:w.heap[H]?=some (.cells cells 150 (0,0))
 own:Own B w 44 .u32 la (n+k) lc (List.replicate (n+k) (2147483648+((i:Int)+1)))
 sep1:0<lc→∀p hp,p≠i→L[p]?=some hp→0<hp.c→xg hp.ad≠xg la
 sep2:0<lc→∀q h,q<i→L[q]?=some h→xg h.la≠xg la
theorem qa6.step {B:Nat} {w0 w w1:World} {b:Nat} {v:Value} {L:List Hd} {i n H:Nat} {cells:Array Value} {k:Nat} {la:Option Addr} {lc:Nat} (h:qa6 B w0 w b v L i n H cells k la lc) (hi:∃q,L[i]?=some q∧q.n=n)
  {la1:Option Addr} {lc1:Nat} (ho:Own B w1 44 .u32 la1 (n+k+1) lc1 (List.replicate (n+k) (2147483648+((i:Int)+1))++[2147483648+((i:Int)+1)])) (hb:Below B w0 w1) (hs:w.heap.size≤w1.heap.size) (hg:Grew w w1 44 .u32 (2147483648+((i:Int)+1)) la (n+k) lc la1 lc1) :
  qa6 B w0 w1 b v L i n H cells (k+1) la1 lc1:=by
 have hho:Own B w1 44 .u32 la1 (n+(k+1)) lc1 (List.replicate (n+(k+1)) (2147483648+((i:Int)+1))):=by
  rw [←Nat.add_assoc,List.replicate_succ']
  exact ho
 have typ:∀g cs,w.heap[g]?=some (.cells cs 44 (0,0))→H≠g:=by
  rintro g cs hg rfl
  have:=h.box
  rw [hg] at this
  injection this with this
  injection this with _ this
  revert this;decide
 have hH:H<w.heap.size:=(Array.getElem?_eq_some_iff.1 h.box).1
 rcases hg with ⟨g1,rfl,rfl,g,cs,rfl,g2,g3,g4,g5⟩ | ⟨g,cs1,rfl,g2,g3,g4⟩
 ·have hlc:0<lc1:=by omega
  refine ⟨h.at_.turn fun j hj=>?_,h.filled.kept fun q p g6 hq hp hpa hp0 hlt j hj=>?_,h.grown.kept fun q p g6 hq hp hpa hlt=>?_,hb,by have:=h.size;omega,(g5 H hH (typ g cs g2)).trans h.box,hho,h.sep1,h.sep2⟩
  ·by_cases e:j=g
   ·subst e
    exact .inr ⟨cs,_,g2,g4,by simp⟩
   ·exact .inl (g5 j hj e)
  ·by_cases e:g6=g
   ·subst e
    have hqi:q=i:=by
     by_cases e2:q=i
     ·exact e2
     ·have hle:=(h.at_.one p (List.mem_of_getElem? hp)).le
      exact absurd (by rw [hpa]) (h.sep1 hlc q p e2 hp (by omega))
    obtain ⟨q2,e3,e4⟩:=hi
    rw [hqi,e3] at hp
    injection hp with hp
    subst hp
    rw [Af g4,Af g2,Array.getElem?_setIfInBounds,if_neg (by omega)]
   ·exact World.cell?_of_block (g5 g6 hlt e)
  ·refine g5 g6 hlt fun e=>?_
   subst e
   exact h.sep2 hlc q p hq hp (by rw [hpa])
 ·refine ⟨h.at_.turn fun j hj=>.inl (g4 j hj),h.filled.kept fun q p g6 hq hp hpa hp0 hlt j hj=>World.cell?_of_block (g4 g6 hlt),h.grown.kept fun q p g6 hq hp hpa hlt=>g4 g6 hlt,hb,by have:=h.size;omega,(g4 H hH).trans h.box,hho,fun hc p hp hne hpp hpc e=>?_,fun hc q r hq hr e=>?_⟩
  ·obtain ⟨x,ds,e1,e2,e3,e4⟩:=(h.at_.one hp (List.mem_of_getElem? hpp)).row hpc
   rw [e1] at e
   have e5:x=g:=by injection e
   have:=(Array.getElem?_eq_some_iff.1 e3).1
   omega
  ·obtain ⟨_,lg,ds,e1,e2,_⟩:=h.grown q r hq hr
   rw [e1] at e
   have e5:lg=g:=by injection e
   have:=(Array.getElem?_eq_some_iff.1 e2).1
   omega
set_option maxHeartbeats 4000000 in
set_option maxRecDepth 100000 in
theorem qdu (B b:Nat) (v:Value) (L:List Hd) (w:World) (h:y8 B w b v L) (hB:B≤w.heap.size) (hF:En w L L.length) :
  Calls Tryz.prog 78 #[.pointer (some ⟨b,0,none⟩)] w (fun e w'=>e=.returned (.tuple #[])∧(∃L',L'.length=L.length∧y8 B w' b v L'∧En w' L' L'.length∧Grown w' L' L'.length)∧Below B w w'):=by
 have hL:=h.len
 obtain ⟨vd,vc,rfl⟩:=h.form
 obtain ⟨N,hN⟩:∃N,L.length=N:=⟨_,rfl⟩
 rw [hN] at h hL hF ⊢
 have hN2:=Lib.hid hN
 clear hN
 go_enter Tryz.func78,Tryz.ntmps78
 go_wp2
 go_loopw [2] (fun x wr=>∃i:Nat,i≤N∧x=.int .i64 i∧(∃L',L'.length=N∧y8 B wr b (.slice vd N vc) L'∧En wr L' L'.length∧Grown wr L' i)∧Below B w wr∧B≤wr.heap.size) (fun x _=>N-(intOf x).toNat)
 case atStart=>exact ⟨0,Nat.zero_le _,rfl,⟨L,hN2.out,h,by rw [hN2.out];exact hF,fun q _ hq=>absurd hq (Nat.not_lt_zero _)⟩,Below.refl _ _,hB⟩
 case round=>
  clear h hF
  obtain ⟨i,hi,rfl,⟨L',hL',h1,h2,h5⟩,h3,h4⟩:=hrel
  clear hN2 L
  subst hL'
  obtain ⟨c0,c1,f0,f1⟩:=h1.cells
  by_cases hil:i<L'.length
  ·obtain ⟨q,hq⟩:∃q,L'[i]?=some q:=⟨_,List.getElem?_eq_getElem hil⟩
   obtain ⟨ad,n,c,la0,ln0,lc0⟩:=q
   obtain ⟨rb,cap,hv,r1,r2,r3,e0,e1,e2,fr⟩:=h1.held hq
   simp only at e0 e1
   injection hv with hv1 _ hv2
   subst hv1 hv2
   have hqo:=(h1.one _ (List.mem_of_getElem? hq)).le
   have hqb:=(h1.one _ (List.mem_of_getElem? hq)).big
   have hmine:=h1.mine h2 hil hq
   simp only at hqo hqb hmine
   go_wp2
   obtain ⟨H,hH⟩:∃H,wr.heap.size=H:=⟨_,rfl⟩
   have hI:qa6 B w (wr.alloc (.cells #[.slice ad n c,.slice la0 ln0 lc0,.int .i64 ((i:Int)+1)] 150)) b (.slice (some ⟨rb,0,none⟩) L'.length vc) L' i n H #[.slice ad n c,.slice la0 ln0 lc0,.int .i64 ((i:Int)+1)] 0 ad c:=by
    have hb0:Below wr.heap.size wr (wr.alloc (.cells #[.slice ad n c,.slice la0 ln0 lc0,.int .i64 ((i:Int)+1)] 150)):=(Below.refl _ _).alloc (Nat.le_refl _) _
    refine ⟨h1.below hb0 (Nat.le_refl _),h2.below hb0 (Nat.le_refl _),h5.below hb0 (Nat.le_refl _),h3.alloc h4 _,Nat.le_trans h4 hb0.size,hH ▸ heap_alloc_new wr _,hmine.below hb0 (Nat.le_refl _),fun hc p hp hne hpp hpc=>h1.sep p i hp _ hpp hq hne hpc hc,fun hc x hx hxi hxx e=>?_⟩
    obtain ⟨_,lg,cs,g1,g2,g3,g4⟩:=h5 x hx hxi hxx
    exact g4 i _ (by omega) hq hc (by show xg ad=_;rw [←e,g1];rfl)
   rw [hH]
   generalize wr.alloc (.cells #[.slice ad n c,.slice la0 ln0 lc0,.int .i64 ((i:Int)+1)] 150)=w2 at *
   clear h1 h2 h3 h4 h5 c0 c1 f0 f1 e0 e1 e2 fr hH hmine
   have a0:=Af hI.box 0
   simp at a0
   go_wp2
   clear a0
   go_loopw [4,5] (fun l y wr=>∃(k:Nat) (la:Option Addr) (lc:Nat),k≤70∧y=.int .i64 k∧l=.slice la (n+k) lc∧qa6 B w wr b (.slice (some ⟨rb,0,none⟩) L'.length vc) L' i n H #[.slice ad n c,.slice la0 ln0 lc0,.int .i64 ((i:Int)+1)] k la lc) (fun _ y _=>70-(intOf y).toNat)
   case atStart=>exact ⟨0,ad,c,by omega,rfl,rfl,hI⟩
   case round=>
    clear hI
    obtain ⟨k,la,lc,hk,rfl,rfl,hI⟩:=hrel
    have a0:=Af hI.box 0
    have a2:=Af hI.box 2
    simp at a0 a2
    by_cases hkn:k<70
    ·have M:=V4 ((i:Int)+1)
     go_wp2_with fail
     refine (M _ (by omega)).mono ?_
     rintro e w' ⟨rfl,rfl⟩
     clear M
     go_wp2_with (at_builtin;refine qlv (w0:=w) B rfl (.tmp 28) (.tmp 32) 22 44 .u32 4 rfl Tryz.underlying22 Vm (by omega) la (n+k) lc (List.replicate (n+k) (2147483648+((i:Int)+1))) (2147483648+((i:Int)+1)) rfl rfl hI.own hI.below hI.size (by omega) ?_;intro la1 lc1 w3 k1 k2 k3 k4)
     have K:=Lib.hid (hI.step ⟨_,hq,rfl⟩ k1 k2 k3 k4)
     clear hI k1 k2 k3 k4 a0 a2
     go_wp2
     go_roundw
     case rel=>exact ⟨k+1,la1,lc1,by omega,by go_num,rfl,K.out⟩
     case measure=>simp [intOf];omega
    ·obtain rfl:k=70:=by omega
     obtain ⟨p0,p1,p2,p3⟩:=hI.at_.cells
     obtain ⟨rb2,cap2,hv2,_,_,_,_,q1,_,fr2⟩:=hI.at_.held hq
     injection hv2 with hv2 _ _
     injection hv2 with hv2
     injection hv2 with hv2
     subst hv2
     have f2:=fr2 (i*3+1)
     clear fr2
     go_wp2
     go_roundw
     case rel=>
      obtain ⟨lg,cs,rfl,g1,g2,g3,g4⟩:=hI.own.row (by have:=hI.own.le;omega)
      have hO:Only rb wr (wr.setCell ⟨rb,i*3+1,none⟩ (.slice (some ⟨lg,0,none⟩) (n+70) lc)):=(Only.refl rb wr).set _ _
      have hrt:∀(g:Nat) (cs:Array Value),wr.heap[g]?=some (.cells cs 44 (0,0))→g≠rb:=fun g cs hg e=>(hI.at_.block_ne hg).2 (by rw [e];rfl)
      have hlc:0<lc:=by have:=hI.own.le;omega
      refine ⟨i+1,by omega,by go_num,⟨Kz L' i (some ⟨lg,0,none⟩) (n+70) lc,La ..,?_,?_,?_⟩,hO.below hI.below r1,?_⟩
      ·exact hI.at_.laid i _ _ _
      ·rw [La]
       refine En.laid (hI.filled.kept fun q p g hq hp hpa hp0 hlt j hj=>?_) i _ _ _
       have hle:=(hI.at_.one p (List.mem_of_getElem? hp)).le
       obtain ⟨x,ds,e1,e2,e3,e4⟩:=(hI.at_.one p (List.mem_of_getElem? hp)).row (by omega)
       rw [hpa] at e1
       injection e1 with e1
       injection e1 with e1
       subst e1
       exact World.cell?_of_block (hO.rest g (hrt g ds e3))
      ·refine Grown.laid (hI.grown.kept fun q p g hq hp hpa hlt=>?_) hq (cs:=cs) ((hO.rest lg (hrt lg cs g2)).trans g2) (fun j hj=>?_) (fun q h hne hqq hqc e=>hI.sep1 hlc q h hne hqq hqc (by rw [e];rfl))
       ·obtain ⟨_,x,ds,e1,e2,_⟩:=hI.grown q p hq hp
        rw [hpa] at e1
        injection e1 with e1
        injection e1 with e1
        subst e1
        exact hO.rest g (hrt g ds e2)
       ·have:=g4 j hj
        rw [List.getElem?_replicate,if_pos hj] at this
        exact this
      ·rw [hO.size];exact hI.size
     case measure=>simp [intOf];omega
  ·obtain rfl:i=L'.length:=by omega
   go_wp2
   go_end0
   exact ⟨rfl,⟨L',rfl,h1,h2,h5⟩,h3⟩
end Go.Proofs.YtbcbmkeeoognpaaGreatDoor

namespace Go.Proofs.YtbcbmkeeoognpaaGreatDoor
open Go.RowKit
end Go.Proofs.YtbcbmkeeoognpaaGreatDoor

namespace Go.Proofs.YtbcbmkeeoognpaaGreatDoor
open Go.RowKit
end Go.Proofs.YtbcbmkeeoognpaaGreatDoor

namespace Go.Proofs.YtbcbmkeeoognpaaGreatDoor
open Go.RowKit
def vg (N M:Int):Int:=if M=0 then 0 else N.tmod M
def Zw (Q R:Int) (ok:Bool) (w:World) (e:Ending) (w':World):Prop:=
 ∃ad n c ad2 n2 c2,e=.returned (.tuple #[.agg #[.bool (decide (Q<0)),.slice ad n c],.agg #[.bool (decide (R<0)),.slice ad2 n2 c2],.bool ok])∧Can w' ad n c Q.natAbs∧Can w' ad2 n2 c2 R.natAbs∧Below w.heap.size w w'
theorem Ky {P:Program} {fn:Func} {p q u:Tmp} {ty:TypeId} (h:fn.results = #[.cell p ty,.cell q ty,.tmp u]) (tmps:Array Value) (w:World) (g:Nat) (cs:Array Value) (fr:Nat × Nat) (d:TypeDesc) (g2:Nat) (cs2:Array Value) (fr2:Nat × Nat)
  (hp:tmps.getD p undef=.pointer (some ⟨g,0,none⟩)) (hg:w.heap[g]?=some (.cells cs ty fr)) (hq:tmps.getD q undef=.pointer (some ⟨g2,0,none⟩)) (hg2:w.heap[g2]?=some (.cells cs2 ty fr2))
  (hu:P.underlying ty=some d) (hd:(match d with | .struct _ | .array _ _=>true | _=>false)=true) (hi:(P.info? ty).map (·.size)=some cs.size) (hi2:(P.info? ty).map (·.size)=some cs2.size) :
  (results fn tmps).run P w=.ok (.tuple #[.agg cs,.agg cs2,tmps.getD u undef]) w:=by
 have hp':tmps[p]?.getD undef=.pointer (some ⟨g,0,none⟩):=by simpa using hp
 have hq':tmps[q]?.getD undef=.pointer (some ⟨g2,0,none⟩):=by simpa using hq
 simp [results,h,hp',hq',asAddr,run_loadVar_row w g ty ty cs fr d hg hu hd hi,run_loadVar_row w g2 ty ty cs2 fr2 d hg2 hu hd hi2]
theorem Rk (N M V U:Int) (hV:V=N.natAbs) (hU:U=M.natAbs):V / U=((N.tdiv M).natAbs:Int)∧(decide (sgI (N*M) = -1) && decide (0<V / U))=decide (N.tdiv M<0) ∧
  O0 V U=((vg N M).natAbs:Int)∧(decide (sgI N = -1) && decide (0<O0 V U))=decide (vg N M<0):=by
 have hV0:0≤V:=by omega
 have hU0:0≤U:=by omega
 by_cases hM:M=0
 ·have hU2:U=0:=by omega
  subst hM
  unfold O0 vg
  rw [if_pos rfl,hU2,if_pos rfl,Int.tdiv_zero,Int.ediv_zero]
  simp
 ·have hUp:0<U:=by omega
  have hq:0≤V / U:=Int.ediv_nonneg hV0 hU0
  have hr:0≤V % U:=Int.emod_nonneg _ (by omega)
  have e1:V.tdiv U=V / U:=Int.tdiv_eq_ediv_of_nonneg hV0
  have e2:V.tmod U=V % U:=Int.tmod_eq_emod_of_nonneg hV0
  have hz:V=0→V / U=0∧V % U=0:=fun e=>by rw [e];simp
  unfold O0 vg
  rw [if_neg hM,if_neg (by omega),←Xl]
  unfold sgI
  rcases Int.lt_trichotomy N 0 with a | a | a <;> rcases (show M<0∨0<M by omega) with c | c
  ·rw [show N = -V by omega,show M = -U by omega,Int.tdiv_neg,Int.neg_tdiv,Int.tmod_neg,Int.neg_tmod,e1,e2,if_pos (by omega),if_pos (by omega)]
   simp
   omega
  ·rw [show N = -V by omega,show M=U by omega,Int.neg_tdiv,Int.neg_tmod,e1,e2,if_pos (by omega),if_neg (by omega),if_neg (by omega)]
   simp
   omega
  ·rw [show N=V by omega,show M = -U by omega,Int.tdiv_neg,Int.tmod_neg,e1,e2,if_neg (by omega),if_pos (by omega)]
   have:=hz (by omega)
   rw [this.1,this.2]
   simp
  ·rw [show N=V by omega,show M=U by omega,e1,e2,if_neg (by omega),if_pos (by omega)]
   have:=hz (by omega)
   rw [this.1,this.2]
   simp
  ·rw [show N=V by omega,show M = -U by omega,Int.tdiv_neg,Int.tmod_neg,e1,e2,if_neg (by omega),if_neg (by omega),if_pos (by omega)]
   simp
   omega
  ·rw [show N=V by omega,show M=U by omega,e1,e2,if_neg (by omega),if_neg (by omega),if_neg (by omega),if_neg (by omega)]
   simp
   omega
set_option maxHeartbeats 2000000 in
theorem qe1 (ng1:Bool) (ad1:Option Addr) (n1 c1:Nat) (V1:Int) (ng2:Bool) (ad2:Option Addr) (n2 c2:Nat) (V2:Int) (w:World) (h1:Num w ad1 n1 c1 V1) (hn1:n1≤70368744177662) (h2:Num w ad2 n2 c2 V2) (hn2:n2≤70368744177662) :
  Calls Tryz.prog 129 #[.agg #[.bool ng1,.slice ad1 n1 c1],.agg #[.bool ng2,.slice ad2 n2 c2]] w (Zw ((sI ng1 V1).tdiv (sI ng2 V2)) (vg (sI ng1 V1) (sI ng2 V2)) (decide (sI ng2 V2≠0)) w):=by
 have hV0:=h1.nonneg
 have hU0:=h2.nonneg
 have T1:=Lib.hid h1.lt
 have T2:=Lib.hid h2.lt
 have b0:=Below.refl w.heap.size w
 have l0:Below w.heap.size w (w.alloc (.cells #[.bool ng1,.slice ad1 n1 c1] 52)):=(Below.refl _ _).alloc (Nat.le_refl _) _
 have b1:Below w.heap.size w (w.alloc (.cells #[.bool ng1,.slice ad1 n1 c1] 52)):=qw b0 l0
 have k0:Cel (w.alloc (.cells #[.bool ng1,.slice ad1 n1 c1] 52)) w.heap.size 52 [.bool ng1,.slice ad1 n1 c1]:=Cel.made _ _ _ _ (by simp)
 have l1:Below (w.alloc (.cells #[.bool ng1,.slice ad1 n1 c1] 52)).heap.size (w.alloc (.cells #[.bool ng1,.slice ad1 n1 c1] 52)) ((w.alloc (.cells #[.bool ng1,.slice ad1 n1 c1] 52)).alloc (.cells #[.bool ng2,.slice ad2 n2 c2] 52)):=(Below.refl _ _).alloc (Nat.le_refl _) _
 have b2:Below w.heap.size w ((w.alloc (.cells #[.bool ng1,.slice ad1 n1 c1] 52)).alloc (.cells #[.bool ng2,.slice ad2 n2 c2] 52)):=qw b1 l1
 have k1:Cel ((w.alloc (.cells #[.bool ng1,.slice ad1 n1 c1] 52)).alloc (.cells #[.bool ng2,.slice ad2 n2 c2] 52)) (w.heap.size+1) 52 [.bool ng2,.slice ad2 n2 c2]:=Cel.made _ _ _ _ (by simp)
 replace k0:=k0.next l1
 have l2:Below ((w.alloc (.cells #[.bool ng1,.slice ad1 n1 c1] 52)).alloc (.cells #[.bool ng2,.slice ad2 n2 c2] 52)).heap.size ((w.alloc (.cells #[.bool ng1,.slice ad1 n1 c1] 52)).alloc (.cells #[.bool ng2,.slice ad2 n2 c2] 52)) (((w.alloc (.cells #[.bool ng1,.slice ad1 n1 c1] 52)).alloc (.cells #[.bool ng2,.slice ad2 n2 c2] 52)).alloc (.cells #[.bool false,.slice none 0 0] 52)):=(Below.refl _ _).alloc (Nat.le_refl _) _
 have b3:Below w.heap.size w (((w.alloc (.cells #[.bool ng1,.slice ad1 n1 c1] 52)).alloc (.cells #[.bool ng2,.slice ad2 n2 c2] 52)).alloc (.cells #[.bool false,.slice none 0 0] 52)):=qw b2 l2
 have k2:Cel (((w.alloc (.cells #[.bool ng1,.slice ad1 n1 c1] 52)).alloc (.cells #[.bool ng2,.slice ad2 n2 c2] 52)).alloc (.cells #[.bool false,.slice none 0 0] 52)) (w.heap.size+2) 52 [.bool false,.slice none 0 0]:=Cel.made _ _ _ _ (by simp)
 replace k0:=k0.next l2
 replace k1:=k1.next l2
 have l3:Below (((w.alloc (.cells #[.bool ng1,.slice ad1 n1 c1] 52)).alloc (.cells #[.bool ng2,.slice ad2 n2 c2] 52)).alloc (.cells #[.bool false,.slice none 0 0] 52)).heap.size (((w.alloc (.cells #[.bool ng1,.slice ad1 n1 c1] 52)).alloc (.cells #[.bool ng2,.slice ad2 n2 c2] 52)).alloc (.cells #[.bool false,.slice none 0 0] 52)) ((((w.alloc (.cells #[.bool ng1,.slice ad1 n1 c1] 52)).alloc (.cells #[.bool ng2,.slice ad2 n2 c2] 52)).alloc (.cells #[.bool false,.slice none 0 0] 52)).alloc (.cells #[.bool false,.slice none 0 0] 52)):=(Below.refl _ _).alloc (Nat.le_refl _) _
 have b4:Below w.heap.size w ((((w.alloc (.cells #[.bool ng1,.slice ad1 n1 c1] 52)).alloc (.cells #[.bool ng2,.slice ad2 n2 c2] 52)).alloc (.cells #[.bool false,.slice none 0 0] 52)).alloc (.cells #[.bool false,.slice none 0 0] 52)):=qw b3 l3
 have k3:Cel ((((w.alloc (.cells #[.bool ng1,.slice ad1 n1 c1] 52)).alloc (.cells #[.bool ng2,.slice ad2 n2 c2] 52)).alloc (.cells #[.bool false,.slice none 0 0] 52)).alloc (.cells #[.bool false,.slice none 0 0] 52)) (w.heap.size+3) 52 [.bool false,.slice none 0 0]:=Cel.made _ _ _ _ (by simp)
 replace k0:=k0.next l3
 replace k1:=k1.next l3
 replace k2:=k2.next l3
 replace h1:=h1.below b4 (Nat.le_refl _)
 replace h2:=h2.below b4 (Nat.le_refl _)
 clear b0 b1 b2 b3 l0 l1 l2 l3
 have hg0:w.heap.size≤w.heap.size:=Nat.le_refl _
 have hg1:w.heap.size≤w.heap.size+1:=Nat.le_add_right _ _
 have hg2:w.heap.size≤w.heap.size+2:=Nat.le_add_right _ _
 have hg3:w.heap.size≤w.heap.size+3:=Nat.le_add_right _ _
 have hS:=Bo ng1 ad1 n1 c1 V1 ((((w.alloc (.cells #[.bool ng1,.slice ad1 n1 c1] 52)).alloc (.cells #[.bool ng2,.slice ad2 n2 c2] 52)).alloc (.cells #[.bool false,.slice none 0 0] 52)).alloc (.cells #[.bool false,.slice none 0 0] 52)) h1 (by omega)
 have hS2:Hid (∀w2:World,Below (((((w.alloc (.cells #[.bool ng1,.slice ad1 n1 c1] 52)).alloc (.cells #[.bool ng2,.slice ad2 n2 c2] 52)).alloc (.cells #[.bool false,.slice none 0 0] 52)).alloc (.cells #[.bool false,.slice none 0 0] 52))).heap.size (((((w.alloc (.cells #[.bool ng1,.slice ad1 n1 c1] 52)).alloc (.cells #[.bool ng2,.slice ad2 n2 c2] 52)).alloc (.cells #[.bool false,.slice none 0 0] 52)).alloc (.cells #[.bool false,.slice none 0 0] 52))) w2→Calls Tryz.prog 205 #[.agg #[.bool ng2,.slice ad2 n2 c2]] w2 (fun e w'=>∃ad' n' c',e=.returned (.tuple #[.int .i8 (sgI (sI ng2 V2)),.slice ad' n' c'])∧Can w' ad' n' c' V2∧Below w2.heap.size w2 w')):=Lib.hid fun w2 b2=>Bo ng2 ad2 n2 c2 V2 w2 (h2.below b2 (Nat.le_refl _)) (by omega)
 have hA1:=(F9 ng1 V1 hV0).symm
 have hA2:=(F9 ng2 V2 hU0).symm
 generalize sI ng1 V1=N at *
 generalize sI ng2 V2=M at *
 clear h1 h2
 obtain ⟨z1,z2,z3,z4⟩:=Rk N M V1 V2 hA1 hA2
 have hz0:V2=0↔M=0:=by omega
 have hQ0:0≤V1 / V2:=Int.ediv_nonneg hV0 hU0
 have hR0:0≤O0 V1 V2:=Tc V1 V2 hV0
 have hqz:M=0→N.tdiv M=0∧vg N M=0:=fun e=>by rw [e];exact ⟨Int.tdiv_zero _,rfl⟩
 have q1:=(qoq (sgI N) (sgI M) (Zl N) (Zl M)).trans (Xl N M)
 generalize hst:sgI (N*M)=st at *
 have HST:=Lib.hid hst
 generalize hQ:N.tdiv M=Q at *
 generalize hR:vg N M=R at *
 have HHQ:=Lib.hid (And.intro hQ hR)
 generalize hq:V1 / V2=Vq at *
 generalize hr:O0 V1 V2=Vr at *
 obtain ⟨rq,hrq⟩:∃r,decide (Q<0)=r:=⟨_,rfl⟩
 obtain ⟨rr,hrr⟩:∃r,decide (R<0)=r:=⟨_,rfl⟩
 rw [hrq] at z2
 rw [hrr] at z4
 have HQ:=Lib.hid hrq
 have HR:=Lib.hid hrr
 have Z1:=Lib.hid z1
 have Z2:=Lib.hid z2
 have Z3:=Lib.hid z3
 have Z4:=Lib.hid z4
 have HZ0:=Lib.hid hz0
 have HQZ:=Lib.hid hqz
 have HV:=Lib.hid (And.intro hq hr)
 have HD:Hid (∀(w2:World) xd xn xc yd yn yc,Num w2 xd xn xc V1→Num w2 yd yn yc V2→xn≤70368744177662→yn≤70368744177662→Calls Tryz.prog 114 #[.slice xd xn xc,.slice yd yn yc] w2 (qdd Vq Vr (decide (V2≠0)) w2)):=Lib.hid fun w2 xd xn xc yd yn yc p1 p2 p3 p4=>by have:=qmi xd yd xn yn xc yc V1 V2 w2 p1 p2 p3 p4;rwa [hq,hr] at this
 clear hst hQ hR hq hr hrq hrr z1 z2 z3 z4 hz0 hA1 hA2 hqz
 generalize sgI N=s1 at *
 generalize sgI M=s2 at *
 go_enter Tryz.func129,Tryz.ntmps129
 have h:=Lib.hid hS
 clear hS
 have e0a:=k0.cell 0 _ rfl
 have e0b:=k0.cell 1 _ rfl
 have e1a:=k1.cell 0 _ rfl
 have e1b:=k1.cell 1 _ rfl
 have e2a:=k2.cell 0 _ rfl
 have e2b:=k2.cell 1 _ rfl
 have e3a:=k3.cell 0 _ rfl
 have e3b:=k3.cell 1 _ rfl
 go_wp2_with fail
 with_reducible refine (h.out).mono ?_
 rintro e v1 ⟨xd,xn,xc,rfl,f1,b⟩
 have hS3:=hS2.out _ b
 clear h hS2
 clear e0a e0b e1a e1b e2a e2b e3a e3b
 replace k0:=k0.next b
 replace k1:=k1.next b
 replace k2:=k2.next b
 replace k3:=k3.next b
 have bb:=qw b4 b
 clear b b4
 have b4:=bb
 clear bb
 have h:=Lib.hid (hS3)
 have e0a:=k0.cell 0 _ rfl
 have e0b:=k0.cell 1 _ rfl
 have e1a:=k1.cell 0 _ rfl
 have e1b:=k1.cell 1 _ rfl
 have e2a:=k2.cell 0 _ rfl
 have e2b:=k2.cell 1 _ rfl
 have e3a:=k3.cell 0 _ rfl
 have e3b:=k3.cell 1 _ rfl
 go_wp2_with fail
 with_reducible refine (h.out).mono ?_
 rintro e v2 ⟨yd,yn,yc,rfl,f2,b⟩
 clear h
 clear e0a e0b e1a e1b e2a e2b e3a e3b
 replace k0:=k0.next b
 replace k1:=k1.next b
 replace k2:=k2.next b
 replace k3:=k3.next b
 replace f1:=f1.below b (Nat.le_refl _)
 have bb:=qw b4 b
 clear b b4
 have b4:=bb
 clear bb
 clear hS3
 have hxn:xn≤n1:=f1.len_le n1 T1.out
 have hyn:yn≤n2:=f2.len_le n2 T2.out
 have hD:=HD.out _ _ _ _ _ _ _ (f1.num hV0) (f2.num hU0) (by omega) (by omega)
 clear HD
 have h:=Lib.hid (hD)
 have e0a:=k0.cell 0 _ rfl
 have e0b:=k0.cell 1 _ rfl
 have e1a:=k1.cell 0 _ rfl
 have e1b:=k1.cell 1 _ rfl
 have e2a:=k2.cell 0 _ rfl
 have e2b:=k2.cell 1 _ rfl
 have e3a:=k3.cell 0 _ rfl
 have e3b:=k3.cell 1 _ rfl
 go_wp2_with fail
 with_reducible refine (h.out).mono ?_
 rintro e v3 ⟨ad1,an1,ac1,bd1,bn1,bc1,rfl,f1,f2,b⟩
 clear h
 clear e0a e0b e1a e1b e2a e2b e3a e3b
 replace k0:=k0.next b
 replace k1:=k1.next b
 replace k2:=k2.next b
 replace k3:=k3.next b
 have bb:=qw b4 b
 clear b b4
 have b4:=bb
 clear bb
 clear hD
 by_cases hM:M=0
 ·skip
  have hU2:=HZ0.out.2 hM
  obtain ⟨hQ2,hR2⟩:=HQZ.out hM
  have hd0:decide (V2≠0)=false:=by rw [hU2];rfl
  rw [hd0]
  have g0:=k2.free 0
  have g1:=k2.free 1
  have p0:=k3.free 0
  have p1:=k3.free 1
  have hne:w.heap.size+1+1≠w.heap.size+1+1+1:=by omega
  have hne2:w.heap.size+1+1+1≠w.heap.size+1+1:=by omega
  have e0a:=k0.cell 0 _ rfl
  have e0b:=k0.cell 1 _ rfl
  have e1a:=k1.cell 0 _ rfl
  have e1b:=k1.cell 1 _ rfl
  have e2a:=k2.cell 0 _ rfl
  have e2b:=k2.cell 1 _ rfl
  have e3a:=k3.cell 0 _ rfl
  have e3b:=k3.cell 1 _ rfl
  go_wp2_with fail
  refine bodyPost_ret (Ky rfl _ _ (w.heap.size+1+1) #[.bool false,.slice none 0 0] (0,0) _ (w.heap.size+1+1+1) #[.bool false,.slice none 0 0] (0,0) rfl (((((k2.set 0 _).set 1 _).setOther 0 _ hne).setOther 1 _ hne)).row rfl ((((k3.setOther 0 _ hne2).setOther 1 _ hne2).set 0 _).set 1 _).row Tryz.underlying52 rfl size_int size_int) rfl ?_
  have hbel:=je (je (je (je b4 (w.heap.size+1+1) 0 (.bool false) hg2) (w.heap.size+1+1) 1 (.slice none 0 0) hg2) (w.heap.size+1+1+1) 0 (.bool false) hg3) (w.heap.size+1+1+1) 1 (.slice none 0 0) hg3
  rw [hQ2,hR2,decide_eq_false (show ¬M≠0 from fun e=>e hM)]
  exact ⟨none,0,0,none,0,0,rfl,⟨Nat.le_refl _,by rw [show ((Int.natAbs 0:Nat):Int)=0 from rfl,Ak];exact Rds.nil _ _ _⟩,⟨Nat.le_refl _,by rw [show ((Int.natAbs 0:Nat):Int)=0 from rfl,Ak];exact Rds.nil _ _ _⟩,hbel⟩
 ·skip
  have hd1:decide (V2≠0)=true:=decide_eq_true fun e=>hM (HZ0.out.1 e)
  rw [hd1]
  have HM:=fun (w2:World) (b2:Below (v3).heap.size (v3) w2)=>Jc s1 bd1 bn1 bc1 Vr rr w2 (f2.below b2 (Nat.le_refl _)) hR0 Z4.out
  have HM2:=Lib.hid HM
  clear HM
  have HM:=Jc st ad1 an1 ac1 Vq rq v3 f1 hQ0 Z2.out
  have h:=Lib.hid HM
  have e0a:=k0.cell 0 _ rfl
  have e0b:=k0.cell 1 _ rfl
  have e1a:=k1.cell 0 _ rfl
  have e1b:=k1.cell 1 _ rfl
  have e2a:=k2.cell 0 _ rfl
  have e2b:=k2.cell 1 _ rfl
  have e3a:=k3.cell 0 _ rfl
  have e3b:=k3.cell 1 _ rfl
  go_wp2_with fail
  with_reducible refine (h.out).mono ?_
  rintro e v9 ⟨rfl,b⟩
  have HM3:=HM2.out _ b
  clear h HM HM2
  clear e0a e0b e1a e1b e2a e2b e3a e3b
  replace k0:=k0.next b
  replace k1:=k1.next b
  replace k2:=k2.next b
  replace k3:=k3.next b
  replace f1:=f1.below b (Nat.le_refl _)
  replace f2:=f2.below b (Nat.le_refl _)
  have bb:=qw b4 b
  clear b b4
  have b4:=bb
  clear bb
  have h:=Lib.hid (HM3)
  have e0a:=k0.cell 0 _ rfl
  have e0b:=k0.cell 1 _ rfl
  have e1a:=k1.cell 0 _ rfl
  have e1b:=k1.cell 1 _ rfl
  have e2a:=k2.cell 0 _ rfl
  have e2b:=k2.cell 1 _ rfl
  have e3a:=k3.cell 0 _ rfl
  have e3b:=k3.cell 1 _ rfl
  go_wp2_with fail
  with_reducible refine (h.out).mono ?_
  rintro e v10 ⟨rfl,b⟩
  clear h
  clear e0a e0b e1a e1b e2a e2b e3a e3b
  replace k0:=k0.next b
  replace k1:=k1.next b
  replace k2:=k2.next b
  replace k3:=k3.next b
  replace f1:=f1.below b (Nat.le_refl _)
  replace f2:=f2.below b (Nat.le_refl _)
  have bb:=qw b4 b
  clear b b4
  have b4:=bb
  clear bb
  clear HM3
  have g0:=k2.free 0
  have g1:=k2.free 1
  have p0:=k3.free 0
  have p1:=k3.free 1
  have hne:w.heap.size+1+1≠w.heap.size+1+1+1:=by omega
  have hne2:w.heap.size+1+1+1≠w.heap.size+1+1:=by omega
  have e0a:=k0.cell 0 _ rfl
  have e0b:=k0.cell 1 _ rfl
  have e1a:=k1.cell 0 _ rfl
  have e1b:=k1.cell 1 _ rfl
  have e2a:=k2.cell 0 _ rfl
  have e2b:=k2.cell 1 _ rfl
  have e3a:=k3.cell 0 _ rfl
  have e3b:=k3.cell 1 _ rfl
  go_wp2_with fail
  refine bodyPost_ret (Ky rfl _ _ (w.heap.size+1+1) #[.bool rq,.slice ad1 an1 ac1] (0,0) _ (w.heap.size+1+1+1) #[.bool rr,.slice bd1 bn1 bc1] (0,0) rfl (((((k2.set 0 _).set 1 _).setOther 0 _ hne).setOther 1 _ hne)).row rfl ((((k3.setOther 0 _ hne2).setOther 1 _ hne2).set 0 _).set 1 _).row Tryz.underlying52 rfl size_int size_int) rfl ?_
  rw [decide_eq_true hM]
  refine ⟨_,_,_,_,_,_,by rw [HQ.out,HR.out];rfl,?_,?_,je (je (je (je b4 _ _ _ hg2) _ _ _ hg2) _ _ _ hg3) _ _ _ hg3⟩
  ·rw [←Z1.out]
   exact (f1.poke2 k2 _ _).poke2 ((k3.setOther 0 _ hne2).setOther 1 _ hne2) _ _
  ·rw [←Z3.out]
   exact (f2.poke2 k2 _ _).poke2 ((k3.setOther 0 _ hne2).setOther 1 _ hne2) _ _
end Go.Proofs.YtbcbmkeeoognpaaGreatDoor

namespace Go.Proofs.YtbcbmkeeoognpaaGreatDoor
open Go.RowKit
def Qn (N:Int):List Int:=if N<0 then 45 :: Gw N.natAbs else Gw N.natAbs
theorem qkz (n:Nat):(4294967296:Int) ^ n≤10 ^ (10*n):=by
 induction n with
 | zero=>simp
 | succ n ih=>
  rw [Int.pow_succ,show 10*(n+1)=10*n+10 by omega,Int.pow_add]
  have h1:(0:Int)≤4294967296 ^ n:=Int.pow_nonneg (by omega)
  have:=Int.mul_le_mul ih (show (4294967296:Int)≤10 ^ 10 by decide) (by omega) (by omega)
  exact this
theorem qjf (V:Int) (n:Nat) (h:V<4294967296 ^ n):(Gw V).length≤10*n+1:=by
 unfold Gw
 split
 ·simp
 ·rw [List.length_reverse,Ep]
  have:=Ag 10 (by omega) (10*n) V (Int.lt_of_lt_of_le h (qkz n))
  omega
set_option maxHeartbeats 1000000 in
theorem Tm (ng1:Bool) (ad1:Option Addr) (n1 c1:Nat) (V1:Int) (w:World) (h1:Num w ad1 n1 c1 V1) (hn1:n1≤4398046511104) :
  Calls Tryz.prog 133 #[.agg #[.bool ng1,.slice ad1 n1 c1]] w (Zx (yg (Qn (sI ng1 V1))) w):=by
 have hV0:=h1.nonneg
 have T1:=Lib.hid h1.lt
 have b0:=Below.refl w.heap.size w
 have l0:Below w.heap.size w (w.alloc (.cells #[.bool ng1,.slice ad1 n1 c1] 52)):=(Below.refl _ _).alloc (Nat.le_refl _) _
 have b1:Below w.heap.size w (w.alloc (.cells #[.bool ng1,.slice ad1 n1 c1] 52)):=qw b0 l0
 have k0:Cel (w.alloc (.cells #[.bool ng1,.slice ad1 n1 c1] 52)) w.heap.size 52 [.bool ng1,.slice ad1 n1 c1]:=Cel.made _ _ _ _ (by simp)
 replace h1:=h1.below b1 (Nat.le_refl _)
 clear b0 l0
 have hg0:w.heap.size≤w.heap.size:=Nat.le_refl _
 have hS:=Bo ng1 ad1 n1 c1 V1 (w.alloc (.cells #[.bool ng1,.slice ad1 n1 c1] 52)) h1 (by omega)
 have hA1:=(F9 ng1 V1 hV0).symm
 generalize sI ng1 V1=N at *
 clear h1
 have hsz:(yg (Gw V1)).size≤43980465111041:=by rw [Oy];have:=qjf V1 n1 T1.out;omega
 have hsg:(sgI N = -1∧Qn N=[45]++Gw V1)∨(sgI N ≠ -1∧Qn N=Gw V1):=by unfold sgI Qn;rw [hA1];by_cases hN:N<0 <;> simp [hN] <;> (try split) <;> omega
 generalize sgI N=s1 at *
 generalize hL:Qn N=L at *
 have HL:=Lib.hid hL
 have HSG:=Lib.hid hsg
 clear hL hsg hA1
 go_enter Tryz.func133,Tryz.ntmps133
 have h:=Lib.hid (hS)
 have e0a:=k0.cell 0 _ rfl
 have e0b:=k0.cell 1 _ rfl
 go_wp2_with fail
 with_reducible refine (h.out).mono ?_
 rintro e v1 ⟨xd,xn,xc,rfl,f1,b⟩
 clear h
 clear e0a e0b
 replace k0:=k0.next b
 have bb:=qw b1 b
 clear b b1
 have b1:=bb
 clear bb
 clear hS
 have hxn:xn≤n1:=f1.len_le n1 T1.out
 have hD:=qd8 xd xn xc V1 v1 (f1.num hV0) (by omega)
 rcases HSG.out with ⟨hs,hl⟩ | ⟨hs,hl⟩
 ·subst hs hl
  have h:=Lib.hid (hD)
  have e0a:=k0.cell 0 _ rfl
  have e0b:=k0.cell 1 _ rfl
  go_wp2_with fail
  with_reducible refine (h.out).mono ?_
  rintro e v2 ⟨rfl,b⟩
  clear h
  clear e0a e0b
  replace k0:=k0.next b
  replace f1:=f1.below b (Nat.le_refl _)
  have bb:=qw b1 b
  clear b b1
  have b1:=bb
  clear bb
  clear hD
  go_wp2_with fail
  go_ret
  exact ⟨by rw [←qcu];rfl,b1⟩
 ·subst hl
  have hs2:(s1 == -1)=false:=by rw [beq_eq_false_iff_ne];exact hs
  have h:=Lib.hid (hD)
  have e0a:=k0.cell 0 _ rfl
  have e0b:=k0.cell 1 _ rfl
  go_wp2_with fail
  with_reducible refine (h.out).mono ?_
  rintro e v3 ⟨rfl,b⟩
  clear h
  clear e0a e0b
  replace k0:=k0.next b
  replace f1:=f1.below b (Nat.le_refl _)
  have bb:=qw b1 b
  clear b b1
  have b1:=bb
  clear bb
  clear hD
  go_wp2_with fail
  go_ret
  exact ⟨rfl,b1⟩
end Go.Proofs.YtbcbmkeeoognpaaGreatDoor

namespace Go.Proofs.YtbcbmkeeoognpaaGreatDoor
open Go.RowKit
def dash (cs:List Int):Bool:=decide (1<cs.length∧cs[0]?.getD 0=45∧cs[1]?.getD 0≠48)
def Bg (cs:List Int):Bool:=if dash cs then jh (cs.drop 1) else jh cs
def jf (cs:List Int):Int:=if dash cs then -qx (cs.drop 1) else qx cs
theorem ql0 (s:ByteArray) (h:dash (qf s)=true):∃h0:0<s.size,∃h1:1<s.size,(s[0].toNat:Int)=45∧(s[1].toNat:Int)≠48:=by
 obtain ⟨a,c,d⟩:=of_decide_eq_true h
 rw [zu] at a
 have e0:=Fv s 0 (by omega)
 have e1:=Fv s 1 (by omega)
 exact ⟨by omega,a,by rw [←e0];exact c,by rw [←e1];exact d⟩
theorem ql1 (s:ByteArray) (h:dash (qf s)=false) (h1:1<s.size):∃h0:0<s.size,(s[0].toNat:Int)≠45∨(s[1].toNat:Int)=48:=by
 have h:=of_decide_eq_false h
 rw [zu] at h
 have e0:=Fv s 0 (by omega)
 have e1:=Fv s 1 (by omega)
 refine ⟨by omega,?_⟩
 rw [←e0,←e1]
 by_cases c:(qf s)[0]?.getD 0=45
 ·by_cases d:(qf s)[1]?.getD 0=48
  ·exact .inr d
  ·exact absurd ⟨h1,c,d⟩ h
 ·exact .inl c
theorem Ny (s:ByteArray):qf (s.extract 1 s.size)=(qf s).drop 1:=by
 unfold qf
 rw [ByteArray.data_extract,Array.toList_extract,List.extract_eq_take_drop,List.take_of_length_le (by rw [List.length_drop,Array.length_toList];exact Nat.le_refl _),List.map_drop]
set_option maxHeartbeats 1000000 in
theorem qc0 (s:ByteArray) (w:World) (hs:s.size≤140737488351232) :
  Calls Tryz.prog 132 #[.string s] w (Uc (jf (qf s)) (Bg (qf s)) w):=by
 have hL:=zu s
 have hX:=Ny s
 by_cases hd:dash (qf s)=true
 ·skip
  have b0:=Below.refl w.heap.size w
  have l0:Below w.heap.size w (w.alloc (.cells #[.bool false,.slice none 0 0] 52)):=(Below.refl _ _).alloc (Nat.le_refl _) _
  have b1:Below w.heap.size w (w.alloc (.cells #[.bool false,.slice none 0 0] 52)):=qw b0 l0
  have k0:Cel (w.alloc (.cells #[.bool false,.slice none 0 0] 52)) w.heap.size 52 [.bool false,.slice none 0 0]:=Cel.made _ _ _ _ (by simp)
  clear b0 l0
  have hg0:w.heap.size≤w.heap.size:=Nat.le_refl _
  have e1:Bg (qf s)=jh ((qf s).drop 1):=by unfold Bg;rw [if_pos hd]
  have e2:jf (qf s) = -qx ((qf s).drop 1):=by unfold jf;rw [if_pos hd]
  rw [e1,e2]
  clear e1 e2
  obtain ⟨h0,h1,d0,d1⟩:=ql0 s hd
  have hR:=qcg (s.extract 1 s.size) (w.alloc (.cells #[.bool false,.slice none 0 0] 52)) (by rw [ByteArray.size_extract];omega)
  rw [hX] at hR
  have hV0:=Be ((qf s).drop 1)
  generalize qx ((qf s).drop 1)=V at *
  generalize jh ((qf s).drop 1)=ok at *
  clear hd hX hL
  obtain ⟨r,hr⟩:∃r,decide (-V<0)=r:=⟨_,rfl⟩
  obtain ⟨s1,hs1⟩:∃s1:Int,s1 = -1:=⟨_,rfl⟩
  have hsg:(decide (s1 = -1) && decide (0<V))=r:=by rw [←hr,hs1];simp
  have HSE:=Lib.hid hs1
  clear hs1
  have HR:=Lib.hid hr
  have HSG:=Lib.hid hsg
  have HAB:=Lib.hid (show V=((-V).natAbs:Int) by omega)
  clear hr hsg
  go_enter Tryz.func132,Tryz.ntmps132
  have h:=Lib.hid (hR)
  have e0a:=k0.cell 0 _ rfl
  have e0b:=k0.cell 1 _ rfl
  go_wp2_with fail
  with_reducible refine (h.out).mono ?_
  rintro e v1 ⟨fd,fn,fc,rfl,ff,b⟩
  clear h
  clear e0a e0b
  replace k0:=k0.next b
  have bb:=qw b1 b
  clear b b1
  have b1:=bb
  clear bb
  clear hR
  have HM:=Jc s1 fd fn fc V r v1 ff hV0 HSG.out
  rw [HSE.out] at HM
  have h:=Lib.hid (HM)
  have e0a:=k0.cell 0 _ rfl
  have e0b:=k0.cell 1 _ rfl
  go_wp2_with fail
  with_reducible refine (h.out).mono ?_
  rintro e v2 ⟨rfl,b⟩
  clear h
  clear e0a e0b
  replace k0:=k0.next b
  replace ff:=ff.below b (Nat.le_refl _)
  have bb:=qw b1 b
  clear b b1
  have b1:=bb
  clear bb
  clear HM
  have g0:=k0.free 0
  have g1:=k0.free 1
  have e0a:=k0.cell 0 _ rfl
  have e0b:=k0.cell 1 _ rfl
  go_wp2_with fail
  refine bodyPost_ret (G6 rfl _ _ w.heap.size 52 #[.bool r,.slice fd fn fc] (0,0) _ rfl ((k0.set 0 _).set 1 _).row Tryz.underlying52 rfl size_int) rfl ?_
  refine ⟨_,_,_,by rw [HR.out];rfl,?_,je (je b1 _ _ _ hg0) _ _ _ hg0⟩
  rw [←HAB.out]
  exact ff.poke2 k0 _ _
 ·skip
  have b0:=Below.refl w.heap.size w
  have l0:Below w.heap.size w (w.alloc (.cells #[.bool false,.slice none 0 0] 52)):=(Below.refl _ _).alloc (Nat.le_refl _) _
  have b1:Below w.heap.size w (w.alloc (.cells #[.bool false,.slice none 0 0] 52)):=qw b0 l0
  have k0:Cel (w.alloc (.cells #[.bool false,.slice none 0 0] 52)) w.heap.size 52 [.bool false,.slice none 0 0]:=Cel.made _ _ _ _ (by simp)
  clear b0 l0
  have hg0:w.heap.size≤w.heap.size:=Nat.le_refl _
  have e1:Bg (qf s)=jh (qf s):=by unfold Bg;rw [if_neg hd]
  have e2:jf (qf s)=qx (qf s):=by unfold jf;rw [if_neg hd]
  rw [e1,e2]
  clear e1 e2
  have hno:=ql1 s (by simpa using hd)
  have hR:=qcg s (w.alloc (.cells #[.bool false,.slice none 0 0] 52)) hs
  have hV0:=Be (qf s)
  generalize qx (qf s)=V at *
  generalize jh (qf s)=ok at *
  clear hd hX hL
  obtain ⟨r,hr⟩:∃r,decide (V<0)=r:=⟨_,rfl⟩
  obtain ⟨s1,hs1⟩:∃s1:Int,s1=1:=⟨_,rfl⟩
  have hsg:(decide (s1 = -1) && decide (0<V))=r:=by rw [←hr,hs1];simp;omega
  have HSE:=Lib.hid hs1
  clear hs1
  have HR:=Lib.hid hr
  have HSG:=Lib.hid hsg
  have HAB:=Lib.hid (show V=((V).natAbs:Int) by omega)
  clear hr hsg
  by_cases hz:1<s.size
  ·obtain ⟨h0,hno⟩:=hno hz
   by_cases hc:(s[0].toNat:Int)=45
   ·have hc2:=hno.resolve_left (by rw [hc];simp)
    clear hno
    go_enter Tryz.func132,Tryz.ntmps132
    have h:=Lib.hid (hR)
    have e0a:=k0.cell 0 _ rfl
    have e0b:=k0.cell 1 _ rfl
    go_wp2_with fail
    with_reducible refine (h.out).mono ?_
    rintro e v1 ⟨fd,fn,fc,rfl,ff,b⟩
    clear h
    clear e0a e0b
    replace k0:=k0.next b
    have bb:=qw b1 b
    clear b b1
    have b1:=bb
    clear bb
    clear hR
    have HM:=Jc s1 fd fn fc V r v1 ff hV0 HSG.out
    rw [HSE.out] at HM
    have h:=Lib.hid (HM)
    have e0a:=k0.cell 0 _ rfl
    have e0b:=k0.cell 1 _ rfl
    go_wp2_with fail
    with_reducible refine (h.out).mono ?_
    rintro e v2 ⟨rfl,b⟩
    clear h
    clear e0a e0b
    replace k0:=k0.next b
    replace ff:=ff.below b (Nat.le_refl _)
    have bb:=qw b1 b
    clear b b1
    have b1:=bb
    clear bb
    clear HM
    have g0:=k0.free 0
    have g1:=k0.free 1
    have e0a:=k0.cell 0 _ rfl
    have e0b:=k0.cell 1 _ rfl
    go_wp2_with fail
    refine bodyPost_ret (G6 rfl _ _ w.heap.size 52 #[.bool r,.slice fd fn fc] (0,0) _ rfl ((k0.set 0 _).set 1 _).row Tryz.underlying52 rfl size_int) rfl ?_
    refine ⟨_,_,_,by rw [HR.out];rfl,?_,je (je b1 _ _ _ hg0) _ _ _ hg0⟩
    rw [←HAB.out]
    exact ff.poke2 k0 _ _
   ·clear hno
    go_enter Tryz.func132,Tryz.ntmps132
    have h:=Lib.hid (hR)
    have e0a:=k0.cell 0 _ rfl
    have e0b:=k0.cell 1 _ rfl
    go_wp2_with fail
    with_reducible refine (h.out).mono ?_
    rintro e v1 ⟨fd,fn,fc,rfl,ff,b⟩
    clear h
    clear e0a e0b
    replace k0:=k0.next b
    have bb:=qw b1 b
    clear b b1
    have b1:=bb
    clear bb
    clear hR
    have HM:=Jc s1 fd fn fc V r v1 ff hV0 HSG.out
    rw [HSE.out] at HM
    have h:=Lib.hid (HM)
    have e0a:=k0.cell 0 _ rfl
    have e0b:=k0.cell 1 _ rfl
    go_wp2_with fail
    with_reducible refine (h.out).mono ?_
    rintro e v2 ⟨rfl,b⟩
    clear h
    clear e0a e0b
    replace k0:=k0.next b
    replace ff:=ff.below b (Nat.le_refl _)
    have bb:=qw b1 b
    clear b b1
    have b1:=bb
    clear bb
    clear HM
    have g0:=k0.free 0
    have g1:=k0.free 1
    have e0a:=k0.cell 0 _ rfl
    have e0b:=k0.cell 1 _ rfl
    go_wp2_with fail
    refine bodyPost_ret (G6 rfl _ _ w.heap.size 52 #[.bool r,.slice fd fn fc] (0,0) _ rfl ((k0.set 0 _).set 1 _).row Tryz.underlying52 rfl size_int) rfl ?_
    refine ⟨_,_,_,by rw [HR.out];rfl,?_,je (je b1 _ _ _ hg0) _ _ _ hg0⟩
    rw [←HAB.out]
    exact ff.poke2 k0 _ _
  ·clear hno
   go_enter Tryz.func132,Tryz.ntmps132
   have h:=Lib.hid (hR)
   have e0a:=k0.cell 0 _ rfl
   have e0b:=k0.cell 1 _ rfl
   go_wp2_with fail
   with_reducible refine (h.out).mono ?_
   rintro e v1 ⟨fd,fn,fc,rfl,ff,b⟩
   clear h
   clear e0a e0b
   replace k0:=k0.next b
   have bb:=qw b1 b
   clear b b1
   have b1:=bb
   clear bb
   clear hR
   have HM:=Jc s1 fd fn fc V r v1 ff hV0 HSG.out
   rw [HSE.out] at HM
   have h:=Lib.hid (HM)
   have e0a:=k0.cell 0 _ rfl
   have e0b:=k0.cell 1 _ rfl
   go_wp2_with fail
   with_reducible refine (h.out).mono ?_
   rintro e v2 ⟨rfl,b⟩
   clear h
   clear e0a e0b
   replace k0:=k0.next b
   replace ff:=ff.below b (Nat.le_refl _)
   have bb:=qw b1 b
   clear b b1
   have b1:=bb
   clear bb
   clear HM
   have g0:=k0.free 0
   have g1:=k0.free 1
   have e0a:=k0.cell 0 _ rfl
   have e0b:=k0.cell 1 _ rfl
   go_wp2_with fail
   refine bodyPost_ret (G6 rfl _ _ w.heap.size 52 #[.bool r,.slice fd fn fc] (0,0) _ rfl ((k0.set 0 _).set 1 _).row Tryz.underlying52 rfl size_int) rfl ?_
   refine ⟨_,_,_,by rw [HR.out];rfl,?_,je (je b1 _ _ _ hg0) _ _ _ hg0⟩
   rw [←HAB.out]
   exact ff.poke2 k0 _ _
end Go.Proofs.YtbcbmkeeoognpaaGreatDoor
