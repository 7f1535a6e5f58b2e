/- Contracts of functions, and plain facts, part 10. -/
import Derived.Laws.OwnMore
import Derived.ArgAppend
import Derived.Laws.Tables
import Derived.Lib.IndexBytes
import Derived.BigRegion
import Derived.Deep.DeepCutAuto
import Derived.Deep.CutBlock
import Derived.Laws.BitsAllLaws
import Derived.Deep.RegionHeld3
import Derived.WalkMore
import Derived.Deep.LoopGhost
import Derived.Test.YtbcbmkeeoognpaaGreatDoorPk2
import Derived.Test.YtbcbmkeeoognpaaGreatDoorPk3
import Derived.Test.YtbcbmkeeoognpaaGreatDoorPk4
import Derived.Test.YtbcbmkeeoognpaaGreatDoorPk6
import Derived.Test.YtbcbmkeeoognpaaGreatDoorPk7
import Derived.Test.YtbcbmkeeoognpaaGreatDoorPk8
import Derived.Test.YtbcbmkeeoognpaaGreatDoorPk9
set_option linter.unusedVariables false
set_option linter.unusedSimpArgs false
namespace Go.Proofs.YtbcbmkeeoognpaaGreatDoor
open Go.RowKit
structure Hd where
 ad:Option Addr
 n:Nat
 c:Nat
 la:Option Addr
 ln:Nat
 lc:Nat
def hc:Nat→List Hd→List Value
 | _,[]=>[]
 | s,h :: t=>.slice h.ad h.n h.c :: .slice h.la h.ln h.lc :: .int .i64 ((s+1:Nat):Int) :: hc (s+1) t
def Kz (L:List Hd) (i:Nat) (la:Option Addr) (ln lc:Nat):List Hd:=L.modify i fun h=>{ h with la:=la,ln:=ln,lc:=lc }
theorem qj6:∀(L:List Hd) (s:Nat),(hc s L).length=L.length*3
 | [],s=>rfl
 | h :: t,s=>by simp only [hc,List.length_cons,qj6 t (s+1)];omega
theorem qj5:∀(L:List Hd) (s i:Nat) (h:Hd),L[i]?=some h→(hc s L)[3*i]?=some (.slice h.ad h.n h.c)∧(hc s L)[3*i+1]?=some (.slice h.la h.ln h.lc)∧(hc s L)[3*i+2]?=some (.int .i64 ((s+i+1:Nat):Int))
 | [],s,i,h,e=>by simp at e
 | a :: t,s,0,h,e=>by
  simp only [List.getElem?_cons_zero,Option.some.injEq] at e
  subst e
  exact ⟨rfl,rfl,rfl⟩
 | a :: t,s,i+1,h,e=>by
  have:=qj5 t (s+1) i h (by simpa using e)
  have e1:3*(i+1)=3*i+1+1+1:=by omega
  have e2:3*(i+1)+1=(3*i+1)+1+1+1:=by omega
  have e3:3*(i+1)+2=(3*i+2)+1+1+1:=by omega
  rw [e3,e2,e1]
  simp only [hc,List.getElem?_cons_succ]
  refine ⟨this.1,this.2.1,?_⟩
  rw [this.2.2,show s+1+i+1=s+(i+1)+1 by omega]
theorem qj7 (la:Option Addr) (ln lc:Nat):∀(L:List Hd) (s i:Nat),(hc s L).set (3*i+1) (.slice la ln lc)=hc s (Kz L i la ln lc)
 | [],s,i=>by simp [hc,Kz]
 | a :: t,s,0=>rfl
 | a :: t,s,i+1=>by
  have:=qj7 la ln lc t (s+1) i
  have e2:3*(i+1)+1=(3*i+1)+1+1+1:=by omega
  rw [e2]
  simp only [hc,Kz,List.set_cons_succ,List.modify_succ_cons] at this ⊢
  rw [this]
theorem qj4:∀(L:List Hd) (s:Nat) (h:Hd),hc s (L++[h])=hc s L++[.slice h.ad h.n h.c,.slice h.la h.ln h.lc,.int .i64 ((s+L.length+1:Nat):Int)]
 | [],s,h=>by simp [hc]
 | a :: t,s,h=>by
  have:=qj4 t (s+1) h
  simp only [List.cons_append,hc,this,List.length_cons]
  rw [show s+1+t.length+1=s+(t.length+1)+1 by omega]
theorem La (L:List Hd) (i:Nat) (la:Option Addr) (ln lc:Nat):(Kz L i la ln lc).length=L.length:=by simp [Kz]
theorem Io (L:List Hd) (i j:Nat) (la:Option Addr) (ln lc:Nat) (h:Hd) (e:(Kz L i la ln lc)[j]?=some h):∃g,L[j]?=some g∧h.ad=g.ad∧h.n=g.n∧h.c=g.c∧(i=j→h.la=la∧h.ln=ln∧h.lc=lc)∧(i≠j→h=g):=by
 unfold Kz at e
 rw [List.getElem?_modify] at e
 cases hj:L[j]? with
 | none=>rw [hj] at e;simp at e
 | some g=>
  rw [hj] at e
  by_cases hij:i=j
  ·subst hij
   simp at e
   subst e
   exact ⟨g,rfl,rfl,rfl,rfl,fun _=>⟨rfl,rfl,rfl⟩,fun h=>absurd rfl h⟩
  ·simp [hij] at e
   subst e
   exact ⟨g,rfl,rfl,rfl,rfl,fun h=>absurd h hij,fun _=>rfl⟩
def Df (n:Nat) (v:Value):Array Value:=#[.int .i64 (n:Int),v,.slice none 0 0,.slice none 0 0,.slice none 0 0,.slice none 0 0,.slice none 0 0,.slice none 0 0,.slice none 0 0,.slice none 0 0,.slice none 0 0,.slice none 0 0,.slice none 0 0,.slice none 0 0,.slice none 0 0]
structure Uo (B:Nat) (w:World) (h:Hd):Prop where
 le:h.n≤h.c
 big:h.n≤4398046511104
 cap:h.c≤9223372036854775807
 row:0<h.c→∃g cs,h.ad=some ⟨g,0,none⟩∧B≤g∧w.heap[g]?=some (.cells cs 44 (0,0))∧h.c≤cs.size
def Sep (L:List Hd):Prop:=∀(i j:Nat) (hi hj:Hd),L[i]?=some hi→L[j]?=some hj→i≠j→0<hi.c→0<hj.c→xg hi.ad≠xg hj.ad
structure y8 (B:Nat) (w:World) (b:Nat) (v:Value) (L:List Hd):Prop where
 lo:B≤b
 hd:w.heap[b]?=some (.cells (Df L.length v) 42 (0,0))
 row:w.ownsRow B 150 3 v L.length (hc 0 L)
 len:L.length≤1000000
 one:∀h∈L,Uo B w h
 sep:Sep L
theorem y8.lt {B:Nat} {w:World} {b:Nat} {v:Value} {L:List Hd} (h:y8 B w b v L):b<w.heap.size:=(Array.getElem?_eq_some_iff.1 h.hd).1
theorem Uo.below {B B':Nat} {w w1:World} {h:Hd} (k:Uo B w h) (hb:Below B' w w1) (hB:w.heap.size≤B'):Uo B w1 h:=
 ⟨k.le,k.big,k.cap,fun hc=>by
  obtain ⟨g,cs,e,h1,h2,h3⟩:=k.row hc
  exact ⟨g,cs,e,h1,by rw [hb.block g (Nat.lt_of_lt_of_le (Array.getElem?_eq_some_iff.1 h2).1 hB)];exact h2,h3⟩⟩
theorem ownsRow_below {B B' e size n:Nat} {v:Value} {xs:List Value} {w w1:World} (h:w.ownsRow B e size v n xs) (hb:Below B' w w1) (hB:w.heap.size≤B'):w1.ownsRow B e size v n xs:=by
 refine ⟨h.1,?_⟩
 rcases h.2 with h2 | ⟨g,cap,cur,h1,h2,h3,h4⟩
 ·exact .inl h2
 ·exact .inr ⟨g,cap,cur,h1,h2,by rw [hb.block g (Nat.lt_of_lt_of_le (Array.getElem?_eq_some_iff.1 h3).1 hB)];exact h3,h4⟩
theorem y8.below {B B':Nat} {w w1:World} {b:Nat} {v:Value} {L:List Hd} (h:y8 B w b v L) (hb:Below B' w w1) (hB:w.heap.size≤B'):y8 B w1 b v L:=
 ⟨h.lo,by rw [hb.block b (Nat.lt_of_lt_of_le h.lt hB)];exact h.hd,ownsRow_below h.row hb hB,h.len,fun k hk=>(h.one k hk).below hb hB,h.sep⟩
theorem y8.block_ne {B:Nat} {w:World} {b:Nat} {v:Value} {L:List Hd} (h:y8 B w b v L) {g:Nat} {cs:Array Value} (hg:w.heap[g]?=some (.cells cs 44 (0,0))):g≠b∧v.ownBlock≠some g:=by
 constructor
 ·rintro rfl
  rw [h.hd] at hg
  injection hg with hg
  injection hg with _ h2
  revert h2;decide
 ·intro e
  rcases h.row.2 with ⟨rfl,_⟩ | ⟨g2,cap,cur,rfl,_,h3,_⟩
  ·simp [Value.ownBlock] at e
  ·simp only [Value.ownBlock,Option.some.injEq] at e
   subst e
   rw [h3] at hg
   injection hg with hg
   injection hg with _ h2
   revert h2;decide
theorem y8.row_ne {B:Nat} {w:World} {b:Nat} {v:Value} {L:List Hd} (h:y8 B w b v L):v.ownBlock≠some b:=by
 intro e
 rcases h.row.2 with ⟨rfl,_⟩ | ⟨g2,cap,cur,rfl,_,h3,_⟩
 ·simp [Value.ownBlock] at e
 ·simp only [Value.ownBlock,Option.some.injEq] at e
  subst e
  have hg:=h.hd
  rw [h3] at hg
  injection hg with hg
  injection hg with _ h2
  revert h2;decide
theorem y8.fill {B:Nat} {w:World} {b:Nat} {v:Value} {L:List Hd} (h:y8 B w b v L) {g:Nat} {cs:Array Value} (hg:w.heap[g]?=some (.cells cs 44 (0,0))) (j:Nat) (x:Int) :
  y8 B (w.setCell ⟨g,j,none⟩ (.int .u32 x)) b v L:=by
 obtain ⟨n1,n2⟩:=h.block_ne hg
 have hO:Only g w (w.setCell ⟨g,j,none⟩ (.int .u32 x)):=(Only.refl g w).set j _
 have hg2:(w.setCell ⟨g,j,none⟩ (.int .u32 x)).heap[g]?=some (.cells (cs.setIfInBounds j (.int .u32 x)) 44 (0,0)):=heap_setCell_same w g j cs _ _ hg
 refine ⟨h.lo,by rw [hO.rest b (Ne.symm n1)];exact h.hd,⟨h.row.1,?_⟩,h.len,fun k hk=>?_,h.sep⟩
 ·rcases h.row.2 with h2 | ⟨g2,cap,cur,h1,h2,h3,h4⟩
  ·exact .inl h2
  ·refine .inr ⟨g2,cap,cur,h1,h2,?_,h4⟩
   rw [hO.rest g2 fun e=>n2 (by rw [h1,e];rfl)]
   exact h3
 ·refine ⟨(h.one k hk).le,(h.one k hk).big,(h.one k hk).cap,fun hc=>?_⟩
  obtain ⟨q,ds,e,h1,h2,h3⟩:=(h.one k hk).row hc
  by_cases e2:q=g
  ·subst e2
   rw [hg] at h2
   injection h2 with h2
   injection h2 with h2 _
   subst h2
   exact ⟨q,_,e,h1,hg2,by simpa using h3⟩
  ·exact ⟨q,ds,e,h1,by rw [hO.rest q e2];exact h2,h3⟩
theorem y8.turn {B:Nat} {w w1:World} {b:Nat} {v:Value} {L:List Hd} (h:y8 B w b v L) (hr:∀i,i<w.heap.size→w1.heap[i]?=w.heap[i]?∨∃cs cs':Array Value,w.heap[i]?=some (.cells cs 44 (0,0))∧w1.heap[i]?=some (.cells cs' 44 (0,0))∧cs.size≤cs'.size):y8 B w1 b v L:=by
 have key:∀(i:Nat) (cs:Array Value) (t:TypeId),t≠44→w.heap[i]?=some (.cells cs t (0,0))→w1.heap[i]?=some (.cells cs t (0,0)):=fun i cs t ht hi=>by
  rcases hr i (Array.getElem?_eq_some_iff.1 hi).1 with e | ⟨ds,ds',e,_⟩
  ·exact e.trans hi
  ·rw [hi] at e
   injection e with e
   injection e with _ e
   exact absurd e ht
 refine ⟨h.lo,key b _ _ (by decide) h.hd,⟨h.row.1,?_⟩,h.len,fun k hk=>⟨(h.one k hk).le,(h.one k hk).big,(h.one k hk).cap,fun hc=>?_⟩,h.sep⟩
 ·rcases h.row.2 with h2 | ⟨g2,cap,cur,h1,h2,h3,h4⟩
  ·exact .inl h2
  ·exact .inr ⟨g2,cap,cur,h1,h2,key g2 _ _ (by decide) h3,h4⟩
 ·obtain ⟨q,ds,e,h1,h2,h3⟩:=(h.one k hk).row hc
  rcases hr q (Array.getElem?_eq_some_iff.1 h2).1 with e1 | ⟨cs,cs',e1,e2,e3⟩
  ·exact ⟨q,ds,e,h1,e1.trans h2,h3⟩
  ·rw [h2] at e1
   injection e1 with e1
   injection e1 with e1 _
   subst e1
   exact ⟨q,cs',e,h1,e2,by omega⟩
end Go.Proofs.YtbcbmkeeoognpaaGreatDoor

namespace Go.Proofs.YtbcbmkeeoognpaaGreatDoor
open Go Go.RowKit
def Grew (W w1:World) (e:TypeId) (k:IntKind) (y:Int) (ad:Option Addr) (n c:Nat) (ad1:Option Addr) (c1:Nat):Prop:=
 (n<c∧ad1=ad∧c1=c∧∃g cs,ad=some ⟨g,0,none⟩∧W.heap[g]?=some (.cells cs e (0,0))∧n<cs.size∧w1.heap[g]?=some (.cells (cs.setIfInBounds n (.int k y)) e (0,0))∧∀i,i<W.heap.size→i≠g→w1.heap[i]?=W.heap[i]?) ∨
 (∃g1 cs1,ad1=some ⟨g1,0,none⟩∧W.heap.size≤g1∧w1.heap[g1]?=some (.cells cs1 e (0,0))∧∀i,i<W.heap.size→w1.heap[i]?=W.heap[i]?)
theorem qla (cs:Array Value) (n:Nat) (u:Value) (hn:n<cs.size):(cs.toList.take n++[u]++cs.toList.drop (n+1)).toArray=cs.setIfInBounds n u:=by
 apply Array.ext'
 rw [Array.toList_setIfInBounds]
 simp only [List.append_assoc,List.singleton_append]
 rw [List.set_eq_take_append_cons_drop,if_pos (by simpa using hn)]
section
variable {P:Program} {ops:Array Oper} {rest:List Oper} {o:Oper} {a:Act} {Q:Exit→Act→World→Prop}
theorem qlv {w0 W:World} (B:Nat) (hgd:o.guard=none) (s x:Operand) (t e:TypeId) (k:IntKind) (bytes:Nat)
  (ho:o.op=.call { callee:=.builtin .append,args:=#[s,x],argTypes:=#[t,t] })
  (ht:P.underlying t=some (.slice e)) (hinfo:(P.info? e).map (fun i=>(i.zero,i.size,i.bytes))=some (some (.int k 0),1,bytes)) (hb0:0<bytes)
  (ad:Option Addr) (n c:Nat) (xs:List Int) (y:Int) (hs:a.eval s=.slice ad n c) (hx:a.eval x=.slice (some ⟨W.heap.size,0,none⟩) 1 1)
  (HO:Own B W e k ad n c xs) (HB:Below B w0 W) (hB:B≤W.heap.size) (hl:(n+1)*bytes≤140737488355328)
  (h:∀ad1 c1 w1,Own B w1 e k ad1 (n+1) c1 (xs++[y])→Below B w0 w1→W.heap.size≤w1.heap.size→Grew W w1 e k y ad n c ad1 c1→wpList P ops Q rest (a.put o.dst (.slice ad1 (n+1) c1)) w1) :
  wpList P ops Q (o :: rest) a (W.alloc (.cells #[.int k y] e)):=by
 obtain ⟨i0,hi,hzz⟩:=Option.map_eq_some_iff.1 hinfo
 simp only [Prod.mk.injEq] at hzz
 obtain ⟨hz0,hz1,hz2⟩:=hzz
 have hlen:n+1≤140737488355328:=Nat.le_trans (Nat.le_mul_of_pos_right _ hb0) hl
 have hnews:∀j u,([Value.int k y]:List Value)[j]?=some u→(W.alloc (.cells #[.int k y] e)).cell? ((⟨W.heap.size,0,none⟩:Addr).add j)=some u:=World.news_of_block (cs:=#[.int k y]) (t:=e) (fr:=(0,0)) (heap_alloc_new W _)
 have h1:∀u∈([Value.int k y]:List Value),u.oneCell'=true:=by intro u hu;simp at hu;subst hu;rfl
 have hle:=HO.le
 have hxl:=HO.len
 have hsz:(W.alloc (.cells #[.int k y] e)).heap.size=W.heap.size+1:=by simp
 by_cases hroom:n+1≤c
 ·obtain ⟨g,cs,rfl,hgB,hg,hcs,hcell⟩:=HO.row (by omega)
  have hgl:g<W.heap.size:=(Array.getElem?_eq_some_iff.1 hg).1
  have hg2:(W.alloc (.cells #[.int k y] e)).heap[g]?=some (.cells cs e (0,0)):=(Go.heap_alloc_old W _ hgl).trans hg
  have hr:=run_append_room (P:=P) (W.alloc (.cells #[.int k y] e)) t o.type e i0 ht hi g n c cs hg2 ⟨W.heap.size,0,none⟩ 1 1 [.int k y] (by simp [hz1]) hnews h1 hroom (by rw [hz1];simp;omega)
  rw [hz1,Nat.mul_one] at hr
  simp only [List.length_singleton] at hr
  rw [qla cs n _ (by omega)] at hr
  refine Go.Lib.wpList_append_run _ hgd s x t t ho _ _ hs hx _ _ hr ?_
  have hnew:=setRow_heap (W.alloc (.cells #[.int k y] e)) g cs (cs.setIfInBounds n (.int k y)) e (0,0) hg2
  have hold:∀i,i≠g→((W.alloc (.cells #[.int k y] e)).setRow g (cs.setIfInBounds n (.int k y))).heap[i]?=(W.alloc (.cells #[.int k y] e)).heap[i]?:=fun i hi=>setRow_other _ g i _ hi
  have hsz2:((W.alloc (.cells #[.int k y] e)).setRow g (cs.setIfInBounds n (.int k y))).heap.size=W.heap.size+1:=by simp [World.setRow]
  refine h _ _ _ ⟨by simp [hxl],hroom,HO.big,fun _=>⟨g,_,rfl,hgB,hnew,by simpa using hcs,fun j hj=>?_⟩⟩ ⟨HB.os,HB.tape,HB.output,by rw [hsz2];have:=HB.size;omega,fun i hi=>?_⟩ (by rw [hsz2];omega)
   (.inl ⟨by omega,rfl,rfl,g,cs,rfl,hg,by omega,hnew,fun i hi hne=>(hold i hne).trans (Go.heap_alloc_old W _ hi)⟩)
  ·rw [Array.getElem?_setIfInBounds]
   by_cases e2:n=j
   ·subst e2
    rw [if_pos rfl,if_pos (by omega),List.getElem?_append_right (by omega),hxl]
    simp
   ·rw [if_neg e2,hcell j (by omega),List.getElem?_append_left (by omega)]
  ·rw [hold i (by omega),Go.heap_alloc_old W _ (by omega)]
   exact HB.block i hi
 ·have hn0:ad=none→n=0∧c=0:=fun e0=>by
   by_cases hc:0<c
   ·obtain ⟨g,cs,e1,_⟩:=HO.row hc
    rw [e0] at e1;cases e1
   ·omega
  refine wpList_append_grows (W.alloc (.cells #[.int k y] e)) hgd s x t ho e i0 (.int k 0) 1 bytes ht hi hz0 hz1 hz2 rfl (by omega) ad n c (nums k xs) hs hn0 (by simp [nums,hxl]) (fun b hb j u hu=>?_) ⟨W.heap.size,0,none⟩ 1 1 [.int k y] hx rfl hnews h1 (by omega) (by simp only [maxLen];omega) hl ?_
  ·have hj:j<n:=by
    have:=(List.getElem?_eq_some_iff.1 hu).1
    simpa [nums,hxl] using this
   obtain ⟨b2,e2,hc2⟩:=HO.rds.cell j hj
   rw [hb] at e2
   injection e2 with e2
   subst e2
   rw [Ja k xs j (by omega)] at hu
   rw [←hu,←hc2]
   exact World.cell?_alloc_lt _ _ _ (World.block_lt_of_cell? W _ hc2)
  ·intro v1 w1 hown hgr
   rw [hsz] at hown
   obtain ⟨g,cap,rfl,hb,hlt⟩:=hown.form (by omega)
   have hown2:App (W.heap.size+1) w1 e k (some ⟨g,0,none⟩) (n+1) cap (xs++[y]):=by
    have:=hown
    unfold App nums
    rw [List.map_append]
    exact this
   have hold:∀i,i<W.heap.size→w1.heap[i]?=W.heap[i]?:=fun i hi=>(hgr.block i (by rw [hsz];omega) (by simp)).trans (Go.heap_alloc_old W _ hi)
   have hsz1:=hgr.size
   rw [hsz] at hsz1
   obtain ⟨g2,cs2,e2,_,h2,_⟩:=hown2.own.row (by have:=hown2.own.le;omega)
   injection e2 with e2
   injection e2 with e2
   subst e2
   exact h _ _ w1 (hown2.own.mono (by omega)) ⟨hgr.os.trans HB.os,hgr.tape.trans HB.tape,hgr.output.trans HB.output,by have:=HB.size;omega,fun i hi=>(hold i (by omega)).trans (HB.block i hi)⟩ (by omega) (.inr ⟨g,cs2,rfl,by omega,h2,hold⟩)
end
end Go.Proofs.YtbcbmkeeoognpaaGreatDoor

namespace Go.Proofs.YtbcbmkeeoognpaaGreatDoor
open Go.RowKit
end Go.Proofs.YtbcbmkeeoognpaaGreatDoor

namespace Go.Proofs.YtbcbmkeeoognpaaGreatDoor
end Go.Proofs.YtbcbmkeeoognpaaGreatDoor

namespace Go.Proofs.YtbcbmkeeoognpaaGreatDoor
open Go.RowKit
end Go.Proofs.YtbcbmkeeoognpaaGreatDoor

namespace Go.Proofs.YtbcbmkeeoognpaaGreatDoor
open Go.RowKit
end Go.Proofs.YtbcbmkeeoognpaaGreatDoor

namespace Go.Proofs.YtbcbmkeeoognpaaGreatDoor
end Go.Proofs.YtbcbmkeeoognpaaGreatDoor

namespace Go.Proofs.YtbcbmkeeoognpaaGreatDoor
open Go.RowKit
end Go.Proofs.YtbcbmkeeoognpaaGreatDoor

namespace Go.Proofs.YtbcbmkeeoognpaaGreatDoor
open Go.RowKit
end Go.Proofs.YtbcbmkeeoognpaaGreatDoor

namespace Go.Proofs.YtbcbmkeeoognpaaGreatDoor
open Go.RowKit
end Go.Proofs.YtbcbmkeeoognpaaGreatDoor

namespace Go.Proofs.YtbcbmkeeoognpaaGreatDoor
open Go.RowKit
end Go.Proofs.YtbcbmkeeoognpaaGreatDoor

namespace Go.Proofs.YtbcbmkeeoognpaaGreatDoor
open Go.RowKit
end Go.Proofs.YtbcbmkeeoognpaaGreatDoor

namespace Go.Proofs.YtbcbmkeeoognpaaGreatDoor
open Go.RowKit
theorem qkx (x y:Int) (hx:0≤x∧x<4294967296) (hy:0≤y∧y<4294967296):bits .or .u64 (x*4294967296) y=x*4294967296+y:=by
 obtain ⟨x,rfl⟩:=Int.eq_ofNat_of_zero_le hx.1
 obtain ⟨y,rfl⟩:=Int.eq_ofNat_of_zero_le hy.1
 have e:(x:Int)*4294967296=((x*4294967296:Nat):Int):=by simp
 rw [e,bits_or_u64_nat _ _ (by omega) (by omega),nat_join 32 _ _ (by omega) (by omega)]
 simp
def qm7 (w:World) (bx bq n L:Nat) (V Y:Int) (yd:Option Addr) (ys:List Int) (k:Nat) (wr:World):Prop:=
 ∃X q,Aw wr bx 44 .u32 X∧Blk wr bq 44 .u32 q∧Below w.heap.size w wr∧w.heap.size≤wr.heap.size∧Rds wr .u32 yd n ys∧Ib 4294967296 V Y n L X q k
set_option maxHeartbeats 4000000 in
set_option maxRecDepth 100000 in
theorem qdz (ad bd:Option Addr) (na n ca cb:Nat) (la lb:List Int) (w:World) (hna:na≤70368744177662) (hn:2≤n) (hle:n≤na) (hac:na≤ca) (hbc:n≤cb)
  (ha:Rds w .u32 ad na la) (hb:Rds w .u32 bd n lb) (da:Dig 4294967296 la) (db:Dig 4294967296 lb) (htop:lb[n-1]?.getD 0≠0) :
  Calls Tryz.prog 201 #[.slice ad na ca,.slice bd n cb] w (Nv 44 .u32 (dg 4294967296 (val 4294967296 la / val 4294967296 lb)) (dg 4294967296 (val 4294967296 la % val 4294967296 lb)) true w):=by
 have HA:=Lib.hid ha.len
 have HB:=Lib.hid hb.len
 obtain ⟨t,rfl⟩:∃t,n=t+2:=⟨n-2,by omega⟩
 have E1:t+2-1=t+1:=rfl
 have E2:t+2-2=t:=rfl
 rw [E1] at htop
 have bt:=db.get (by omega) (t+1)
 obtain ⟨b0,rfl,hct⟩:=hb.cell (t+1) (by omega)
 obtain ⟨top,HT⟩:∃top,Hid (top=lb[t+1]?.getD 0):=⟨_,rfl⟩
 rw [←HT.out] at bt htop hct
 obtain ⟨r,hr,hre,hr1,hr2,hr3⟩:=qki top (by omega) bt.2
 have hz:=qd2 top w bt.1 (by omega)
 rw [hre] at hz
 have HZ:=Lib.hid hz
 clear hz
 have M1:=Lib.hid (Sj ad na ca r la w hna hac hr ha da)
 have M2:=fun w1 hb1=>Lib.hid (Sj (some b0) (t+2) cb r lb w1 (by omega) hbc hr hb1 db)
 have HR1:=Lib.hid hr1
 have HR2:=Lib.hid hr2
 have HR3:=Lib.hid hr3
 clear hre hr1 hr2 hr3 E1 E2
 have hct2:w.cell? { block:=b0.block,off:=b0.off+(t+1) }=some (.int .u32 top):=by
  have h:=hct
  unfold Addr.add at h
  rwa [if_neg (by omega)] at h
 have W1:IntKind.i64.wrap ((t:Int)+2-1)=(t:Int)+1:=(IntWalk.i64_in _ (by omega)).trans (by omega)
 have W2:((t:Int)+1).toNat=t+1:=by omega
 go_enter Tryz.func201,Tryz.ntmps201
 go_wp2
 go_step3
 go_wp2_with fail
 refine (HZ.out).mono ?_
 rintro e w' ⟨rfl,rfl⟩
 clear HZ
 go_wp2_with fail
 refine (M1.out).mono ?_
 rintro e w1 ⟨xs,lx,dx,vx,xad,xn,xc,rfl,ox,bx1⟩
 obtain rfl:xn=na+1:=by have:=ox.len;omega
 have M2':=M2 w1 (hb.below bx1 (Nat.le_refl _))
 clear M1 M2
 go_wp2_with fail
 refine (M2'.out).mono ?_
 rintro e w2 ⟨ys,ly,dy,vy,yad,yn,yc,rfl,oy,by1⟩
 obtain rfl:yn=(t+2)+1:=by have:=oy.len;omega
 clear M2'
 obtain ⟨xb,rfl,hxb,rx1⟩:=ox.rowAt (by omega)
 obtain ⟨yb,rfl,hyb,ry⟩:=oy.rowAt (by omega)
 have rx:=rx1.below by1 rx1.lt
 have hxy:xb<yb:=by have:=rx1.lt;omega
 have hyw:=ry.lt
 have hyc:=oy.le
 have hxc:=ox.le
 have hs1:=bx1.size
 have bw2:Below w.heap.size w w2:=qw bx1 by1
 have hs2:w.heap.size≤w2.heap.size:=bw2.size
 obtain ⟨t1,t2,t3,t4⟩:=qkf lb ys (t+2) r hn HB.out db top HT.out HR1.out HR2.out ly dy vy
 rw [show t+2-1=t+1 from rfl] at t2
 have t5:=qd0 la xs (t+2) na r HR3.out hn hle HA.out da lx dx vx _ t3
 have ryd:Rds w2 .u32 (some ⟨yb,0,none⟩) (t+2) (ys.take (t+2)):=by
  have:=(ry.first (t+2) (by omega)).rds
  rwa [show (ys.take (t+2)).length=(t+2) by rw [List.length_take];omega] at this
 have VX:=Lib.hid vx
 have VY:=Lib.hid vy
 have hBv:0<val 4294967296 lb:=by
  have h1:=zy 4294967296 lb (t+1)
  rw [show t+1+1=t+2 from rfl,List.take_of_length_le (by rw [HB.out];omega),←HT.out] at h1
  have h2:=zt (show (0:Int)<4294967296 by omega) (db.take (t+1))
  have h3:=Int.mul_pos (show (0:Int)<4294967296 ^ (t+1) from Int.pow_pos (by omega)) (show 0<top by omega)
  omega
 have hY0:0<val 4294967296 ys:=by
  rw [vy];exact Int.mul_pos hBv (Int.pow_pos (by omega))
 have dyt:=dy.take (t+2)
 have lyt:(ys.take (t+2)).length=(t+2):=by rw [List.length_take];omega
 have hI:=Ib.start (B:=4294967296) (by omega) (show (t+2)<na+1 by omega) lx dx VX.out t5
 have T4:=Lib.hid t4
 have T1:=Lib.hid t1
 clear vx vy t5 t3 t4 t1 HT bt hct htop HB ox oy ry rx1 ly dy
 generalize hYv:val 4294967296 ys=Y at *
 clear hYv
 generalize ys.take (t+2)=yt at *
 clear ys
 obtain ⟨D,hD⟩:∃D,na+1-(t+2)=D:=⟨_,rfl⟩
 rw [hD] at hI
 have hDn:na=D+t+1:=by omega
 have hD1:1≤D:=by omega
 have HD:=Lib.hid hDn
 have hmk:=Du (P:=Tryz.prog) 23 44 .u32 4 Tryz.underlying23 Ah (by omega) D (by omega) (D:Int) rfl
 have E6:(na:Int)+1-((t:Int)+2)=D:=by omega
 have W5:IntKind.i64.wrap ((na:Int)+1)=(na:Int)+1:=IntWalk.i64_in _ (by omega)
 have W6:IntKind.i64.wrap ((na:Int)+1-(t+2))=(D:Int):=(IntWalk.i64_in _ (by omega)).trans (by omega)
 have Q0:=Blk.made w2 44 .u32 (List.replicate D 0) w2.heap.size rfl
 have bw3:=bw2.alloc hs2 (.cells (nums .u32 (List.replicate D 0)).toArray 44)
 have rx3:=rx.below ((Below.refl w2.heap.size w2).alloc (Nat.le_refl _) (.cells (nums .u32 (List.replicate D 0)).toArray 44)) rx.lt
 have ry3:=ryd.below ((Below.refl w2.heap.size w2).alloc (Nat.le_refl _) (.cells (nums .u32 (List.replicate D 0)).toArray 44)) (Nat.le_refl _)
 have hs3:w.heap.size≤(w2.alloc (.cells (nums .u32 (List.replicate D 0)).toArray 44)).heap.size:=by simp;omega
 obtain ⟨bq,hbq⟩:∃bq,bq=w2.heap.size:=⟨_,rfl⟩
 rw [←hbq] at Q0
 have hxq:xb≠bq:=by omega
 have hyq:yb≠bq:=by omega
 have hBq:w.heap.size≤bq:=by omega
 have y0:=ry3.cell t (by omega)
 have y1:=ry3.cell (t+1) (by omega)
 obtain ⟨_,hq0,y0⟩:=y0
 injection hq0 with hq0
 subst hq0
 obtain ⟨_,hq1,y1⟩:=y1
 injection hq1 with hq1
 subst hq1
 rw [Ff] at y0 y1
 have bhi:=dyt.get (by omega) (t+1)
 have bnx:=dyt.get (by omega) t
 obtain ⟨hi,HI⟩:∃hi,Hid (hi=yt[t+1]?.getD 0):=⟨_,rfl⟩
 obtain ⟨nx,NX⟩:∃nx,Hid (nx=yt[t]?.getD 0):=⟨_,rfl⟩
 rw [←HI.out] at y1 bhi t2
 rw [←NX.out] at y0 bnx
 have W7:IntKind.i64.wrap ((t:Int)+2-2)=(t:Int):=(IntWalk.i64_in _ (by omega)).trans (by omega)
 have hmk2:=hmk w2
 rw [←hbq] at hmk2
 clear hmk
 generalize w2.alloc (.cells (nums .u32 (List.replicate D 0)).toArray 44)=w3 at *
 clear hDn hD hbq
 go_wp2_with (fail)
 go_quiet (fail)
 go_wp2
 go_step3
 go_wp2
 have hL0:qm7 w xb bq (t+2) (na+1) (val 4294967296 la*2 ^ r) Y (some ⟨yb,0,none⟩) yt D (w3.drewN nq):=
  ⟨xs,_,rx3.drewN nq,Q0.drewN nq,below_drewN bw3 nq,hs3,ry3.drewN nq,hI⟩
 go_loopw [13] (fun j wr=>∃k:Nat,k≤D∧j=.int .i64 ((k:Int)-1)∧qm7 w xb bq (t+2) (na+1) (val 4294967296 la*2 ^ r) Y (some ⟨yb,0,none⟩) yt k wr) (fun j _=>(intOf j+1).toNat)
 case atStart=>exact ⟨D,Nat.le_refl _,rfl,hL0⟩
 case round=>
  clear hL0
  obtain ⟨k,hk,rfl,X,q,gx,gq,gb,gs,gy,gI⟩:=hrel
  by_cases hk0:k=0
  ·subst hk0
   have dn:=gI.done (by omega) hY0
   have hR0:(0:Int)<2 ^ r:=Int.pow_pos (by omega)
   have hqv:val 4294967296 q=val 4294967296 la / val 4294967296 lb:=by rw [dn.1,VY.out];exact qhv _ _ _ hR0 hBv
   have hxl:t+2≤X.length:=by rw [gI.lx];omega
   have hxv:val 4294967296 (X.take (t+2)) / 2 ^ r=val 4294967296 la % val 4294967296 lb:=qg6 X (t+2) _ _ _ hR0 hBv gI.dx hxl (by rw [dn.2,VY.out]) (by rw [←VY.out];exact T4.out)
   have rxf:Rds wr .u32 (some ⟨xb,0,none⟩) (t+2) (X.take (t+2)):=by
    have:=(gx.first (t+2) hxl).rds
    rwa [show (X.take (t+2)).length=t+2 by rw [List.length_take];omega] at this
   have hs:=qhz (some ⟨xb,0,none⟩) (t+2) xc (X.take (t+2)) r wr (by omega) (by omega) rxf (gI.dx.take _) (by omega)
   rw [show Oa (val 4294967296 (X.take (t+2))) (r:Int)=val 4294967296 la % val 4294967296 lb by unfold Oa;rw [if_pos (by omega),Int.toNat_natCast];exact hxv] at hs
   have HS:=Lib.hid hs
   have hlq:q.length=D:=by rw [gI.lq];have:=HD.out;omega
   have HN:=fun (w4:World) (b4:Below wr.heap.size wr w4)=>Lib.hid (F6 (some ⟨bq,0,none⟩) D D q w4 (by omega) (Nat.le_refl _) (by have h:=(gq.below (B:=wr.heap.size) b4 gq.lt).rds;rw [hlq] at h;exact h) gI.dq)
   rw [hqv] at HN
   clear hs dn hqv hxv hxl rxf gI gx hlq hR0
   go_wp2_with fail
   with_reducible refine (HS.out).mono ?_
   rintro e w4 ⟨rad,rn,rc,rfl,ro,rb⟩
   have HN4:=HN w4 rb
   clear HN HS
   go_wp2_with fail
   with_reducible refine (HN4.out).mono ?_
   rintro e w5 ⟨nad,nn,nc,rfl,no,nb⟩
   go_wp2
   rw [Exit.noGoto_ret]
   go_ret3
   refine ⟨_,_,_,_,_,_,rfl,no.mono (by have:=rb.size;omega),(ro.mono gs).below nb (Nat.le_refl _),qw gb (qw rb nb),fun c1 c2 a a2 e1 e2=>?_⟩
   obtain ⟨b1,_,f1,f2,_⟩:=no.row c1
   obtain ⟨b2,_,k1,k2,k3,_⟩:=ro.row c2
   rw [f1] at e1
   rw [k1] at e2
   injection e1 with e1
   injection e2 with e2
   subst e1 e2
   have:=(Array.getElem?_eq_some_iff.1 k3).1
   show b1≠b2
   omega
  ·obtain ⟨j,rfl⟩:∃j,k=j+1:=⟨k-1,by omega⟩
   clear hk0
   rw [show (((j+1:Nat):Int)-1)=(j:Int) by omega]
   have hjL:j+(t+2)+1≤na+1:=by have:=HD.out;omega
   have WN:=gI.win (ys:=yt) (by omega) (by omega) hjL lyt dyt T1.out (by rw [show t+2-1=t+1 by omega,←HI.out];omega)
   rw [show t+2-1=t+1 by omega,show t+2-2=t by omega,←HI.out,←NX.out] at WN
   obtain ⟨e2,E2⟩:∃e2,Hid (e2=j+(t+2)):=⟨_,rfl⟩
   obtain ⟨e1,E1⟩:∃e1,Hid (e1=e2-1):=⟨_,rfl⟩
   obtain ⟨e0,E0⟩:∃e0,Hid (e0=e2-2):=⟨_,rfl⟩
   rw [←E2.out,←E1.out,←E0.out] at WN
   have lX:=gI.lx
   have c2:=gx.cell e2 (by have:=E2.out;omega)
   have c1:=gx.cell e1 (by have:=E1.out;have:=E2.out;omega)
   have c0:=gx.cell e0 (by have:=E0.out;have:=E2.out;omega)
   have LX:=Lib.hid lX
   clear lX
   generalize X[e2]?.getD 0=x0 at *
   generalize X[e1]?.getD 0=x1 at *
   generalize X[e0]?.getD 0=x2 at *
   have le2:e2<na+1:=by have:=E2.out;omega
   have V1:IntKind.i64.wrap ((j:Int)+((t:Int)+2))=(e2:Int):=(IntWalk.i64_in _ (by omega)).trans (by have:=E2.out;omega)
   have V2:IntKind.i64.wrap ((e2:Int)-1)=(e1:Int):=(IntWalk.i64_in _ (by omega)).trans (by have:=E1.out;have:=E2.out;omega)
   have V3:IntKind.i64.wrap ((e2:Int)-2)=(e0:Int):=(IntWalk.i64_in _ (by omega)).trans (by have:=E0.out;have:=E2.out;omega)
   have le1:e1<na+1:=by have:=E1.out;omega
   have le0:e0<na+1:=by have:=E0.out;omega
   obtain ⟨q1,q2,q3,q4⟩:=WN.quot
   obtain ⟨f1,f2,f3,f4,f5⟩:=WN.first
   obtain ⟨tp1,tp2⟩:=WN.top
   have d0:=WN.d0
   have d1:=WN.d1
   have d2:=WN.d2
   have OR:=qkx x0 x1 d0 d1
   obtain ⟨u,hu⟩:∃u,u=x0*4294967296+x1:=⟨_,rfl⟩
   rw [←hu] at OR f1 f2 f3 f4 f5 tp1 tp2
   have hY:=gI.window (by omega) hjL T4.out
   have LESS:=Lib.hid (fun g r he hq hg=>WN.less g r he hq hg)
   have REST:=Lib.hid (fun g r he hr hg=>WN.rest g r he hr hg)
   have NEAR:=Lib.hid (fun g r he h0 hg hn=>WN.near g r he h0 hg hn)
   rw [←hu] at LESS REST NEAR
   have hhi:=WN.hi
   have hnx:=WN.nx
   have HWN:=Lib.hid WN
   have HGI:=Lib.hid gI
   have HU:=Lib.hid hu
   have HF1:=Lib.hid f1
   obtain ⟨Qd,hQ⟩:∃Qd,Qd=val 4294967296 (List.take (t+2+1) (List.drop j X)) / Y:=⟨_,rfl⟩
   rw [←hQ] at LESS NEAR f2 q1 q2
   have HQ:=Lib.hid hQ
   have hhi0:0<hi:=by omega
   have HS1:=Lib.hid hY
   clear WN gI hu f1 hQ q3 q4 hY
   have f0:0≤u / hi:=Int.ediv_nonneg tp1 (by omega)
   go_wp2_with fail
   go_quiet (fail)
   clear c2 c1 V2 OR
   have c0n:(wr.drewN nq).cell? ⟨xb,e0,none⟩=some (.int .u32 x2):=c0
   have gs1:w.heap.size≤(wr.drewN nq).heap.size:=gs
   replace gx:=gx.drewN nq
   replace gq:=gq.drewN nq
   replace gy:=gy.drewN nq
   replace gb:=below_drewN gb nq
   clear c0 gs
   generalize wr.drewN nq=wr1 at *
   go_wp2_with fail
   go_quiet (fail)
   have c0:(wr1.drewN nq).cell? ⟨xb,e0,none⟩=some (.int .u32 x2):=c0n
   have gs:w.heap.size≤(wr1.drewN nq).heap.size:=gs1
   replace gx:=gx.drewN nq
   replace gq:=gq.drewN nq
   replace gy:=gy.drewN nq
   replace gb:=below_drewN gb nq
   clear c0n gs1
   generalize wr1.drewN nq=w4 at *
   go_upto_block 2 with fail
   go_cut [15] (fun s15 wx=>∃g:Int,s15=.int .u64 g∧w4=wx∧0≤g∧g<4294967296∧Qd≤g∧g≤Qd+1)
   case first=>
    go_wp2_with fail
    go_loop [15,16] (fun s15 s16=>∃g r':Int,s15=.int .u64 g∧s16=.int .u64 r'∧0≤g∧g≤4294967297∧0≤r'∧r' < 4294967296∧Hid (g*hi+r'=u)∧Qd≤g) (fun s15 _=>(intOf s15).toNat)
    case atStart=>exact ⟨_,_,rfl,rfl,f0,f3,f4,by omega,HF1,f2⟩
    case round=>
     obtain ⟨g,r',rfl,rfl,g0,g1,p0,p1,he,hq⟩:=hrel
     clear f0 f2 f3 f4 f5 HF1
     have hm0:0≤g*nx:=Int.mul_nonneg g0 hnx.1
     have hm1:g*nx≤4294967297*4294967295:=Int.mul_le_mul g1 (by omega) hnx.1 (by omega)
     have LS:=LESS.out g r' he.out hq
     have he2:(g-1)*hi+(r'+hi)=u:=by have:=he.out;rw [Int.sub_mul];omega
     have NR:=NEAR.out g r' he.out g0
     have NR2:=NEAR.out (g-1) (r'+hi) he2
     have RS:=REST.out (g-1) (r'+hi) he2
     obtain ⟨m,HM⟩:∃m,Hid (m=g*nx):=⟨_,rfl⟩
     rw [←HM.out] at LS NR hm0 hm1
     have M1:IntKind.u64.wrap (g*nx)=m:=by rw [←HM.out];exact IntWalk.u64_in _ (by omega)
     have OR2:=qkx r' x2 ⟨p0,p1⟩ d2
     have HE:=Lib.hid he2
     have HLS:=Lib.hid LS
     have HNR:=Lib.hid NR
     have HNR2:=Lib.hid NR2
     have HRS:=Lib.hid RS
     clear LS he2 NR NR2 RS
     by_cases hb:4294967296≤g
     ·have hl:=HLS.out (.inl hb)
      by_cases hr:4294967296≤r'+hi
      ·have h6:=HRS.out hr (by omega)
       have h7:=HNR2.out (by omega) h6.1 h6.2
       go_wp2_with fail
       go_meet
       case rel=>exact ⟨g-1,rfl,rfl,by omega,h6.1,hl,h7⟩
      ·go_wp2_with fail
       go_round
       case rel=>exact ⟨g-1,r'+hi,rfl,rfl,by omega,by omega,by omega,by omega,HE,hl⟩
       case measure=>simp [intOf];omega
     ·by_cases ht:r'*4294967296+x2<m
      ·have hl:=HLS.out (.inr ht)
       by_cases hr:4294967296≤r'+hi
       ·have h6:=HRS.out hr (by omega)
        have h7:=HNR2.out (by omega) h6.1 h6.2
        go_wp2_with fail
        go_meet
        case rel=>exact ⟨g-1,rfl,rfl,by omega,h6.1,hl,h7⟩
       ·go_wp2_with fail
        go_round
        case rel=>exact ⟨g-1,r'+hi,rfl,rfl,by omega,by omega,by omega,by omega,HE,hl⟩
        case measure=>simp [intOf];omega
      ·have h7:=HNR.out (by omega) (by omega)
       go_wp2_with fail
       go_meet
       case rel=>exact ⟨g,rfl,rfl,by omega,by omega,hq,h7⟩
   case rest=>
    clear c0 V3 f0 f2 f3 f4 f5 HF1
    obtain ⟨g,rfl,rfl,k0,k1,k2,k3⟩:=hcut
    by_cases hg0:g=0
    ·subst hg0
     have hSK:=HGI.out.skip (by omega) hjL ⟨hY0,T4.out⟩ (by rw [←HQ.out];omega)
     go_wp2_with fail
     go_roundw
     case rel=>exact ⟨j,by omega,rfl,X,q,gx,gq,gb,gs,gy,hSK⟩
     case measure=>simp [intOf]
    ·have hg1:(g == 0)=false:=by simpa using hg0
     have hje:j≤e2+1:=by have:=E2.out;omega
     have hxe:e2+1≤xc:=by omega
     obtain ⟨cx,HCX⟩:∃cx,Hid (cx=xc-j):=⟨_,rfl⟩
     have SL:e2+1-j=t+2+1:=by have:=E2.out;omega
     have hBC:=qbj xb j (t+2) cx yc 44 X yt (some ⟨yb,0,none⟩) g w4 (by have:=LX.out;omega) (by omega) (by have:=HCX.out;omega) (by omega) gx gy (by intro a ha;injection ha with ha;subst ha;exact Ne.symm (Nat.ne_of_lt hxy)) HGI.out.dx dyt k0 k1
     have HBC:=Lib.hid hBC
     have hxcj:xc-j=cx:=HCX.out.symm
     have hney:∀a,(some ⟨yb,0,none⟩:Option Addr)=some a→a.block≠xb:=by intro a ha;injection ha with ha;subst ha;exact Ne.symm (Nat.ne_of_lt hxy)
     have hnyq:∀a,(some ⟨yb,0,none⟩:Option Addr)=some a→a.block≠bq:=by intro a ha;injection ha with ha;subst ha;exact hyq
     have HN1:=Lib.hid hney
     have HN2:=Lib.hid hnyq
     clear hBC hney hnyq
     go_wp2_with fail
     with_reducible refine (HBC.out).mono ?_
     rintro e w6 ⟨X1,ok,rfl,r1,l1,dx1,o1,v1⟩
     have gq6:=gq.only o1 (Ne.symm hxq)
     have gy6:=gy.only o1 HN1.out
     have gb6:=Only.below gb hxb o1
     have gs6:w.heap.size≤w6.heap.size:=by rw [o1.size];exact gs
     rw [T1.out] at v1
     have HL1:=Lib.hid l1
     have HV1:=Lib.hid v1
     have hjD:j<D:=by omega
     have x1lt:=Au (show (0:Int)<4294967296 by omega) dx1
     have x1nn:=zt (show (0:Int)<4294967296 by omega) dx1
     rw [l1] at x1lt
     clear l1 v1 HBC gq gy gb gs o1 gx
     cases ok
     ·obtain ⟨kg,kx⟩:=HWN.out.kept g _ _ (by rw [←HQ.out];exact k2) (by rw [←HQ.out];exact k3) x1nn HV1.out
      have hST:=HGI.out.step (by omega) hjL ⟨hY0,T4.out⟩ g kg ⟨k0,k1⟩ X1 HL1.out dx1 kx
      have cq:=gq6.cell j (by have:=HGI.out.lq;have:=HD.out;omega)
      have fq:=gq6.free j
      have oq:=(Only.refl bq w6).set j (.int .u32 g)
      have KS:=Lib.hid (show ∃X' q',Aw (w6.setCell ⟨bq,j,none⟩ (.int .u32 g)) xb 44 .u32 X'∧Blk (w6.setCell ⟨bq,j,none⟩ (.int .u32 g)) bq 44 .u32 q'∧Below w.heap.size w (w6.setCell ⟨bq,j,none⟩ (.int .u32 g))∧w.heap.size≤(w6.setCell ⟨bq,j,none⟩ (.int .u32 g)).heap.size∧Rds (w6.setCell ⟨bq,j,none⟩ (.int .u32 g)) .u32 (some ⟨yb,0,none⟩) (t+2) yt∧Ib 4294967296 (val 4294967296 la*2 ^ r) Y (t+2) (na+1) X' q' j from
       ⟨_,_,r1.only oq hxq,gq6.set j g,Only.below gb6 hBq oq,by rw [oq.size];exact gs6,gy6.only oq HN2.out,hST⟩)
      clear kg kx hST r1 gy6 gb6 x1lt x1nn gq6 oq
      go_wp2_with fail
      go_roundw
      case rel=>exact ⟨j,by omega,rfl,KS.out⟩
      case measure=>simp [intOf]
     ·have hpl:=Jg X j X1 (by rw [HL1.out,LX.out];omega)
      have hBK:=qdf xb j (t+2) cx yc 44 (putAt X j X1) yt (some ⟨yb,0,none⟩) w6 (by rw [hpl,LX.out];omega) (by omega) (by have:=HCX.out;omega) (by omega) r1 gy6 HN1.out (Ze HGI.out.dx dx1 j) dyt
      have HBK:=Lib.hid hBK
      clear hpl hBK
      go_wp2_with fail
      with_reducible refine (HBK.out).mono ?_
      rintro e w7 ⟨X2,o,rfl,r2,l2,dx2,o2,v2⟩
      rw [←HL1.out,qei X j X1 (by have:=LX.out;omega),T1.out] at v2
      rw [qhl X j X1 X2 (by have:=LX.out;have:=HL1.out;omega) (by rw [l2,HL1.out])] at r2
      have x2lt:=Au (show (0:Int)<4294967296 by omega) dx2
      have x2nn:=zt (show (0:Int)<4294967296 by omega) dx2
      rw [l2] at x2lt
      rw [HL1.out] at v2
      have hYR:Y<4294967296 ^ (t+2+1):=by
       have:=Int.pow_lt_pow_of_lt (a:=4294967296) (by omega) (show t+2<t+2+1 by omega)
       have:=T4.out
       omega
      obtain ⟨kg,kx⟩:=HWN.out.mended g _ _ _ _ (by rw [←HQ.out];exact k2) (by rw [←HQ.out];exact k3) ⟨x1nn,x1lt⟩ HV1.out hYR ⟨x2nn,x2lt⟩ v2
      have hg1p:0≤g-1∧g-1<4294967296:=by omega
      have hST:=HGI.out.step (by omega) hjL ⟨hY0,T4.out⟩ (g-1) kg hg1p X2 l2 dx2 kx
      have gq7:=gq6.only o2 (Ne.symm hxq)
      have gy7:=gy6.only o2 HN1.out
      have gb7:=Only.below gb6 hxb o2
      have gs7:w.heap.size≤w7.heap.size:=by rw [o2.size];exact gs6
      have cq:=gq7.cell j (by have:=HGI.out.lq;have:=HD.out;omega)
      have fq:=gq7.free j
      have oq:=(Only.refl bq w7).set j (.int .u32 (g-1))
      have KS:=Lib.hid (show ∃X' q',Aw (w7.setCell ⟨bq,j,none⟩ (.int .u32 (g-1))) xb 44 .u32 X'∧Blk (w7.setCell ⟨bq,j,none⟩ (.int .u32 (g-1))) bq 44 .u32 q'∧Below w.heap.size w (w7.setCell ⟨bq,j,none⟩ (.int .u32 (g-1)))∧w.heap.size≤(w7.setCell ⟨bq,j,none⟩ (.int .u32 (g-1))).heap.size∧Rds (w7.setCell ⟨bq,j,none⟩ (.int .u32 (g-1))) .u32 (some ⟨yb,0,none⟩) (t+2) yt∧Ib 4294967296 (val 4294967296 la*2 ^ r) Y (t+2) (na+1) X' q' j from
       ⟨_,_,r2.only oq hxq,gq7.set j (g-1),Only.below gb7 hBq oq,by rw [oq.size];exact gs7,gy7.only oq HN2.out,hST⟩)
      clear kg kx hST r1 r2 gy6 gb6 gy7 gb7 x1lt x1nn gq6 gq7 oq HBK l2 v2 x2lt x2nn hYR o2
      go_wp2_with fail
      go_roundw
      case rel=>exact ⟨j,by omega,rfl,KS.out⟩
      case measure=>simp [intOf]
end Go.Proofs.YtbcbmkeeoognpaaGreatDoor

namespace Go.Proofs.YtbcbmkeeoognpaaGreatDoor
open Go.RowKit
theorem Xv (n:Int) (h : -9223372036854775808≤n∧n<9223372036854775808) (s:Int) (hs:s=if n<0 then -1 else 1):(decide (s = -1) && decide (0<(n.natAbs:Int)))=decide (n<0):=by
 rw [hs]
 by_cases hn:n<0
 ·rw [if_pos hn,decide_eq_true hn];simp;omega
 ·rw [if_neg hn,decide_eq_false hn];rfl
set_option maxHeartbeats 1000000 in
theorem J8 (n:Int) (w:World) (hn : -9223372036854775808≤n∧n<9223372036854775808):Calls Tryz.prog 130 #[.int .i64 n] w (Uw n w):=by
 by_cases hneg:n<0
 ·skip
  have b0:=Below.refl w.heap.size w
  have l0:Below w.heap.size w (w.alloc (.cells #[.bool false,.slice none 0 0] 52)):=(Below.refl _ _).alloc (Nat.le_refl _) _
  have b1:Below w.heap.size w (w.alloc (.cells #[.bool false,.slice none 0 0] 52)):=qw b0 l0
  have k0:Cel (w.alloc (.cells #[.bool false,.slice none 0 0] 52)) w.heap.size 52 [.bool false,.slice none 0 0]:=Cel.made _ _ _ _ (by simp)
  clear b0 l0
  have hg0:w.heap.size≤w.heap.size:=Nat.le_refl _
  obtain ⟨s,hs⟩:∃s:Int,s = -1:=⟨_,rfl⟩
  have HSE:=Lib.hid hs
  obtain ⟨r,hr⟩:∃r,decide (n<0)=r:=⟨_,rfl⟩
  have HR:=Lib.hid hr
  have hsg:=Xv n hn s (by rw [hs,if_pos hneg])
  rw [hr] at hsg
  have HSG:=Lib.hid hsg
  clear hr hsg
  obtain ⟨V,hV⟩:∃V,V=(n.natAbs:Int):=⟨_,rfl⟩
  have hV0:0≤V:=by omega
  have hVb:V<18446744073709551616:=by omega
  have HAB:=Lib.hid hV
  rw [←hV] at HSG
  clear hs
  have W1:IntKind.u64.wrap (-(IntKind.u64.wrap n))=V:=by rw [IntKind.wrap_u64,IntKind.wrap_u64];omega
  have W2:IntKind.u64.wrap (-n)=V:=by rw [IntKind.wrap_u64];omega
  clear hV
  go_enter Tryz.func130,Tryz.ntmps130
  have h:=Lib.hid ((L9 V (w.alloc (.cells #[.bool false,.slice none 0 0] 52)) hV0 hVb).mono fun e w' q=>q.can)
  have e0a:=k0.cell 0 _ rfl
  have e0b:=k0.cell 1 _ rfl
  go_wp2_with fail
  with_reducible refine (h.out).mono ?_
  rintro e v1 ⟨fd,fn,fc,rfl,ff,b⟩
  clear h
  clear e0a e0b
  replace k0:=k0.next b
  have bb:=qw b1 b
  clear b b1
  have b1:=bb
  clear bb
  clear W1 W2
  have HM:=Jc s fd fn fc V r v1 ff hV0 HSG.out
  rw [HSE.out] at HM
  have h:=Lib.hid (HM)
  have e0a:=k0.cell 0 _ rfl
  have e0b:=k0.cell 1 _ rfl
  go_wp2_with fail
  with_reducible refine (h.out).mono ?_
  rintro e v2 ⟨rfl,b⟩
  clear h
  clear e0a e0b
  replace k0:=k0.next b
  replace ff:=ff.below b (Nat.le_refl _)
  have bb:=qw b1 b
  clear b b1
  have b1:=bb
  clear bb
  clear HM
  have g0:=k0.free 0
  have g1:=k0.free 1
  have e0a:=k0.cell 0 _ rfl
  have e0b:=k0.cell 1 _ rfl
  go_wp2_with fail
  refine bodyPost_ret (results_cell_row rfl _ _ w.heap.size 52 #[.bool r,.slice fd fn fc] (0,0) _ rfl ((k0.set 0 _).set 1 _).row Tryz.underlying52 rfl size_int) rfl ?_
  refine ⟨_,_,_,by rw [HR.out],?_,je (je b1 _ _ _ hg0) _ _ _ hg0⟩
  rw [←HAB.out]
  exact ff.poke2 k0 _ _
 ·skip
  have b0:=Below.refl w.heap.size w
  have l0:Below w.heap.size w (w.alloc (.cells #[.bool false,.slice none 0 0] 52)):=(Below.refl _ _).alloc (Nat.le_refl _) _
  have b1:Below w.heap.size w (w.alloc (.cells #[.bool false,.slice none 0 0] 52)):=qw b0 l0
  have k0:Cel (w.alloc (.cells #[.bool false,.slice none 0 0] 52)) w.heap.size 52 [.bool false,.slice none 0 0]:=Cel.made _ _ _ _ (by simp)
  clear b0 l0
  have hg0:w.heap.size≤w.heap.size:=Nat.le_refl _
  obtain ⟨s,hs⟩:∃s:Int,s=1:=⟨_,rfl⟩
  have HSE:=Lib.hid hs
  obtain ⟨r,hr⟩:∃r,decide (n<0)=r:=⟨_,rfl⟩
  have HR:=Lib.hid hr
  have hsg:=Xv n hn s (by rw [hs,if_neg hneg])
  rw [hr] at hsg
  have HSG:=Lib.hid hsg
  clear hr hsg
  obtain ⟨V,hV⟩:∃V,V=(n.natAbs:Int):=⟨_,rfl⟩
  have hV0:0≤V:=by omega
  have hVb:V<18446744073709551616:=by omega
  have HAB:=Lib.hid hV
  rw [←hV] at HSG
  clear hs
  have W1:IntKind.u64.wrap n=V:=by rw [IntKind.wrap_u64];omega
  clear hV
  go_enter Tryz.func130,Tryz.ntmps130
  have h:=Lib.hid ((L9 V (w.alloc (.cells #[.bool false,.slice none 0 0] 52)) hV0 hVb).mono fun e w' q=>q.can)
  have e0a:=k0.cell 0 _ rfl
  have e0b:=k0.cell 1 _ rfl
  go_wp2_with fail
  with_reducible refine (h.out).mono ?_
  rintro e v1 ⟨fd,fn,fc,rfl,ff,b⟩
  clear h
  clear e0a e0b
  replace k0:=k0.next b
  have bb:=qw b1 b
  clear b b1
  have b1:=bb
  clear bb
  clear W1
  have HM:=Jc s fd fn fc V r v1 ff hV0 HSG.out
  rw [HSE.out] at HM
  have h:=Lib.hid (HM)
  have e0a:=k0.cell 0 _ rfl
  have e0b:=k0.cell 1 _ rfl
  go_wp2_with fail
  with_reducible refine (h.out).mono ?_
  rintro e v2 ⟨rfl,b⟩
  clear h
  clear e0a e0b
  replace k0:=k0.next b
  replace ff:=ff.below b (Nat.le_refl _)
  have bb:=qw b1 b
  clear b b1
  have b1:=bb
  clear bb
  clear HM
  have g0:=k0.free 0
  have g1:=k0.free 1
  have e0a:=k0.cell 0 _ rfl
  have e0b:=k0.cell 1 _ rfl
  go_wp2_with fail
  refine bodyPost_ret (results_cell_row rfl _ _ w.heap.size 52 #[.bool r,.slice fd fn fc] (0,0) _ rfl ((k0.set 0 _).set 1 _).row Tryz.underlying52 rfl size_int) rfl ?_
  refine ⟨_,_,_,by rw [HR.out],?_,je (je b1 _ _ _ hg0) _ _ _ hg0⟩
  rw [←HAB.out]
  exact ff.poke2 k0 _ _
end Go.Proofs.YtbcbmkeeoognpaaGreatDoor
