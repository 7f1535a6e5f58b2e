/- Contracts of functions, and plain facts, part 6. -/
import Derived.Test.YtbcbmkeeoognpaaGreatDoorProg
import Derived.Deep.QuietTactic
import Derived.BigQuiet
import Derived.Laws.Rows
import Derived.BigRegion
import Derived.Test.YtbcbmkeeoognpaaGreatDoorPk1
import Derived.Test.YtbcbmkeeoognpaaGreatDoorPk2
import Derived.Test.YtbcbmkeeoognpaaGreatDoorPk3
import Derived.Test.YtbcbmkeeoognpaaGreatDoorPk4
set_option linter.unusedVariables false
set_option linter.unusedSimpArgs false
namespace Go.Proofs.YtbcbmkeeoognpaaGreatDoor
open Go.RowKit
def parts:List Nat→Nat
 | []=>0
 | n :: l=>n+1+parts l
theorem Ub (l:List Nat) (j:Nat) (h:j<l.length):parts (l.take (j+1))=parts (l.take j)+1+l[j]?.getD 0:=by
 induction l generalizing j with
 | nil=>simp at h
 | cons x l ih=>
  cases j with
  | zero=>simp [parts];omega
  | succ j=>
   simp only [List.length_cons,Nat.add_lt_add_iff_right] at h
   simp only [List.take_succ_cons,parts,ih j h,List.getElem?_cons_succ]
   omega
def Beyond (l:List Nat) (w:World) (e:Ending) (w':World):Prop:=∃r:Bool,e=.returned (.bool r)∧w=w'∧(r=false→parts l≤1048576)
theorem Z7 (b n c:Nat) (l:List Nat) (f:Nat→Option Addr × Nat) (w:World) (hn:l.length=n) (hs:n≤1000) (hb:∀j:Nat,l[j]?.getD 0≤140737488355328)
  (hc:∀j,j<n→w.cell? ⟨b,j,none⟩=some (.slice (f j).1 (l[j]?.getD 0) (f j).2)) :
  Calls Tryz.prog 12 #[.slice (some ⟨b,0,none⟩) n c] w (Beyond l w):=by
 have HN:=Lib.hid hn
 have HB:=Lib.hid hb
 have HC:=Lib.hid hc
 clear hn hb hc
 go_enter Tryz.func12,Tryz.ntmps12
 go_wp2
 go_loop [3,4] (fun s i=>∃k q:Nat,k≤n∧i=.int .i64 k∧s=.int .i64 q∧q≤1048576∧Hid (q=parts (l.take k))) (fun _ i=>n-(intOf i).toNat)
 case atStart=>exact ⟨0,0,Nat.zero_le _,rfl,rfl,by omega,rfl⟩
 case round=>
  obtain ⟨k,q,hk,rfl,rfl,hq,hs2⟩:=hrel
  by_cases hkn:k<n
  ·have hcell:=HC.out k hkn
   have hbk:=HB.out k
   have HS:=Lib.hid (Ub l k (by rw [HN.out];exact hkn))
   generalize l[k]?.getD 0=x at *
   go_wp2
   ·go_ret
    exact ⟨true,rfl,rfl,fun h=>by cases h⟩
   ·go_round
    case rel=>
     refine ⟨k+1,q+1+x,by omega,by go_num,by go_num,by omega,?_⟩
     show q+1+x=parts (l.take (k+1))
     rw [HS.out,←hs2.out]
    case measure=>simp [intOf];omega
  ·obtain rfl:k=n:=by omega
   have HE:=Lib.hid (show parts l≤1048576 by have:=hs2.out;rw [←HN.out,List.take_length] at this;omega)
   go_wp2
   go_ret
   exact ⟨false,rfl,rfl,fun _=>HE.out⟩
theorem qdx (b:Nat) (ld:Option Addr) (n c:Nat) (xs:List Int) (w:World) (hn:n≤1000000000000) (ht:Blk w b 44 .u32 (xs++[2148261425])) (hl:Rds w .u32 ld n xs) :
  Calls Tryz.prog 24 #[.slice (some ⟨b,0,none⟩) n (n+1),.slice ld n c] w (Same true w):=by
 have HL:=Lib.hid hl.len
 have rt:Rds w .u32 (some ⟨b,0,none⟩) n xs:=by
  have:=ht.rds.take n (by rw [List.length_append,HL.out];simp)
  rwa [List.take_append_of_le_length (by rw [HL.out];exact Nat.le_refl _),←HL.out,List.take_length,HL.out] at this
 have hs:=Xk (some ⟨b,0,none⟩) ld n n (n+1) c xs xs w (by omega) (by omega) rt hl
 have hm:=ht.cell n (by rw [List.length_append,HL.out];simp)
 rw [show ((xs++[2148261425])[n]?).getD 0=2148261425 by rw [List.getElem?_append_right (by rw [HL.out];exact Nat.le_refl _),HL.out];simp] at hm
 rw [decide_eq_true rfl] at hs
 clear hl rt
 go_enter Tryz.func24,Tryz.ntmps24
 go_wp2_with fail
 refine hs.mono ?_
 rintro e w' ⟨rfl,q,rfl⟩
 go_wp2
 go_ret
 exact ⟨rfl,_,rfl⟩
theorem qko (b:Nat) (ld:Option Addr) (n c:Nat) (xs:List Int) (w:World) (ht:Tw w b n xs) (hl:Arg w ld n c xs) (hn:n≤1000000000000) :
  Calls Tryz.prog 24 #[.slice (some ⟨b,0,none⟩) n (n+1),.slice ld n c] w (Same true w):=qdx b ld n c xs w hn ht.blk hl.rds
end Go.Proofs.YtbcbmkeeoognpaaGreatDoor

namespace Go.Proofs.YtbcbmkeeoognpaaGreatDoor
open Go.RowKit
theorem qkp (ad:Option Addr) (n c:Nat) (V:Int) (w:World) (h:Num w ad n c V) (hn:n≤70368744177663) :
  Calls Tryz.prog 62 #[.slice ad n c] w (qim V w):=by
 obtain ⟨xs,h1,h2,rfl⟩:=h.row
 exact (F6 ad n c xs w (by omega) h.le h1 h2).mono fun e w' q=>q.can
end Go.Proofs.YtbcbmkeeoognpaaGreatDoor

namespace Go.Proofs.YtbcbmkeeoognpaaGreatDoor
open Go.RowKit
theorem Num.nonneg {w:World} {ad:Option Addr} {n c:Nat} {V:Int} (h:Num w ad n c V):0≤V:=by
 obtain ⟨xs,h1,h2,rfl⟩:=h.row
 exact zt (by omega) h2
theorem Num.lt {w:World} {ad:Option Addr} {n c:Nat} {V:Int} (h:Num w ad n c V):V<4294967296 ^ n:=by
 obtain ⟨xs,h1,h2,rfl⟩:=h.row
 have:=Au (by omega) h2
 rwa [h1.len] at this
def Cel (w:World) (b:Nat) (t:TypeId) (cs:List Value):Prop:=w.heap[b]?=some (.cells cs.toArray t (0,0))
theorem Cel.lt {w:World} {b:Nat} {t:TypeId} {cs:List Value} (h:Cel w b t cs):b<w.heap.size:=(Array.getElem?_eq_some_iff.1 h).1
theorem Cel.cell {w:World} {b:Nat} {t:TypeId} {cs:List Value} (h:Cel w b t cs) (j:Nat) (v:Value) (hj:cs[j]?=some v):w.cell? ⟨b,j,none⟩=some v:=by
 unfold Cel at h
 simp [World.cell?,h,hj]
theorem Cel.free {w:World} {b:Nat} {t:TypeId} {cs:List Value} (h:Cel w b t cs) (j:Nat):w.frozen? ⟨b,j,none⟩=false:=by
 unfold Cel at h
 simp [World.frozen?,h]
theorem Cel.set {w:World} {b:Nat} {t:TypeId} {cs:List Value} (h:Cel w b t cs) (j:Nat) (v:Value):Cel (w.setCell ⟨b,j,none⟩ v) b t (cs.set j v):=by
 unfold Cel at *
 simp only [World.setCell,Array.getElem?_modify,h,if_true,Option.map_some,Option.isSome_none]
 simp
theorem Cel.setOther {w:World} {b:Nat} {t:TypeId} {cs:List Value} (h:Cel w b t cs) {b2:Nat} (j:Nat) (v:Value) (hp:b≠b2):Cel (w.setCell ⟨b2,j,none⟩ v) b t cs:=by
 unfold Cel at *
 simp only [World.setCell,Array.getElem?_modify,if_neg (Ne.symm hp)]
 exact h
theorem Cel.below {w w1:World} {b:Nat} {t:TypeId} {cs:List Value} (h:Cel w b t cs) {B:Nat} (hb:Below B w w1) (hB:b<B):Cel w1 b t cs:=(hb.block b hB).trans h
theorem Cel.next {w w1:World} {b:Nat} {t:TypeId} {cs:List Value} (h:Cel w b t cs) (hb:Below w.heap.size w w1):Cel w1 b t cs:=h.below hb h.lt
theorem Cel.made (w:World) (t:TypeId) (cs:List Value) (b:Nat) (hb:b=w.heap.size):Cel (w.alloc (.cells cs.toArray t)) b t cs:=by
 subst hb
 exact heap_alloc_new w _
theorem Cel.row {w:World} {b:Nat} {t:TypeId} {cs:List Value} (h:Cel w b t cs):w.heap[b]?=some (.cells cs.toArray t (0,0)):=h
theorem Rds.poke {w:World} {k:IntKind} {ad:Option Addr} {n:Nat} {xs:List Int} (h:Rds w k ad n xs) (p:Addr) (u v:Value) (hp:w.cell? p=some u) (hu:∀x,u≠.int k x):Rds (w.setCell p v) k ad n xs:=by
 refine ⟨h.len,fun j hj=>?_⟩
 obtain ⟨a,e,hc⟩:=h.cell j hj
 refine ⟨a,e,?_⟩
 rw [World.cell?_setCell_other,hc]
 intro e2
 rw [e2,hc] at hp
 injection hp with hp
 exact hu _ hp.symm
theorem Can.poke {w:World} {ad:Option Addr} {n c:Nat} {V:Int} (h:Can w ad n c V) (p:Addr) (u v:Value) (hp:w.cell? p=some u) (hu:∀x,u≠.int .u32 x):Can (w.setCell p v) ad n c V:=⟨h.le,h.rds.poke p u v hp hu⟩
theorem Can.poke2 {w:World} {ad:Option Addr} {n c:Nat} {V:Int} (h:Can w ad n c V) {b:Nat} {t:TypeId} {b0:Bool} {a0:Option Addr} {n0 c0:Nat} (k:Cel w b t [.bool b0,.slice a0 n0 c0]) (v0 v1:Value):Can ((w.setCell ⟨b,0,none⟩ v0).setCell ⟨b,1,none⟩ v1) ad n c V:=by
 refine (h.poke _ _ v0 (k.cell 0 _ rfl) (fun x e=>by cases e)).poke _ (.slice a0 n0 c0) v1 ?_ (fun x e=>by cases e)
 exact (k.set 0 v0).cell 1 _ rfl
end Go.Proofs.YtbcbmkeeoognpaaGreatDoor

namespace Go.Proofs.YtbcbmkeeoognpaaGreatDoor
open Go.RowKit
def Aw (w:World) (b:Nat) (t:TypeId) (k:IntKind) (xs:List Int):Prop:=
 ∃cs,w.heap[b]?=some (.cells cs t (0,0))∧xs.length≤cs.size∧∀j,j<xs.length→cs[j]?=some (.int k (xs[j]?.getD 0))
theorem Aw.lt {w:World} {b:Nat} {t:TypeId} {k:IntKind} {xs:List Int} (h:Aw w b t k xs):b<w.heap.size:=by
 obtain ⟨cs,h1,_⟩:=h
 exact (Array.getElem?_eq_some_iff.1 h1).1
theorem Aw.cell {w:World} {b:Nat} {t:TypeId} {k:IntKind} {xs:List Int} (h:Aw w b t k xs) (j:Nat) (hj:j<xs.length) :
  w.cell? ⟨b,j,none⟩=some (.int k (xs[j]?.getD 0)):=by
 obtain ⟨cs,h1,_,h3⟩:=h
 simp [World.cell?,h1,h3 j hj]
theorem Aw.free {w:World} {b:Nat} {t:TypeId} {k:IntKind} {xs:List Int} (h:Aw w b t k xs) (j:Nat):w.frozen? ⟨b,j,none⟩=false:=by
 obtain ⟨cs,h1,_⟩:=h
 simp [World.frozen?,h1]
theorem Aw.drewN {w:World} {b:Nat} {t:TypeId} {k:IntKind} {xs:List Int} (h:Aw w b t k xs) (n:Nat):Aw (w.drewN n) b t k xs:=h
theorem Aw.set {w:World} {b:Nat} {t:TypeId} {k:IntKind} {xs:List Int} (h:Aw w b t k xs) (j:Nat) (x:Int):Aw (w.setCell ⟨b,j,none⟩ (.int k x)) b t k (xs.set j x):=by
 obtain ⟨cs,h1,h2,h3⟩:=h
 refine ⟨cs.setIfInBounds j (.int k x),?_,by simpa using h2,fun i hi=>?_⟩
 ·simp only [World.setCell,Array.getElem?_modify,h1,if_true,Option.map_some,Option.isSome_none]
  simp
 ·rw [List.length_set] at hi
  rw [Array.getElem?_setIfInBounds,List.getElem?_set]
  by_cases e:j=i
  ·subst e
   rw [if_pos rfl,if_pos (by omega),if_pos rfl,if_pos hi]
   rfl
  ·rw [if_neg e,if_neg e]
   exact h3 i hi
theorem Aw.below {w w1:World} {b:Nat} {t:TypeId} {k:IntKind} {xs:List Int} (h:Aw w b t k xs) {B:Nat} (hb:Below B w w1) (hB:b<B):Aw w1 b t k xs:=by
 obtain ⟨cs,h1,h2⟩:=h
 exact ⟨cs,(hb.block b hB).trans h1,h2⟩
theorem Aw.first {w:World} {b:Nat} {t:TypeId} {k:IntKind} {xs:List Int} (h:Aw w b t k xs) (n:Nat) (hn:n≤xs.length):Aw w b t k (xs.take n):=by
 obtain ⟨cs,h1,h2,h3⟩:=h
 refine ⟨cs,h1,by rw [List.length_take];omega,fun j hj=>?_⟩
 rw [List.length_take] at hj
 rw [h3 j (by omega),List.getElem?_take_of_lt (by omega)]
theorem Aw.rds {w:World} {b:Nat} {t:TypeId} {k:IntKind} {xs:List Int} (h:Aw w b t k xs):Rds w k (some ⟨b,0,none⟩) xs.length xs:=
 ⟨rfl,fun j hj=>⟨_,rfl,by rw [Ff];exact h.cell j hj⟩⟩
theorem Blk.rowAt {w:World} {b:Nat} {t:TypeId} {k:IntKind} {ys:List Int} (h:Blk w b t k ys):Aw w b t k ys:=
 ⟨_,h,by simp [nums],fun j hj=>by rw [List.getElem?_toArray,Ja k ys j hj]⟩
theorem Own.rowAt {B:Nat} {w:World} {t:TypeId} {k:IntKind} {ad:Option Addr} {n c:Nat} {xs:List Int} (h:Own B w t k ad n c xs) (hn:0<n):∃b,ad=some ⟨b,0,none⟩∧B≤b∧Aw w b t k xs:=by
 have h1:=h.le
 have h2:=h.len
 obtain ⟨b,cs,e,hb,hh,hc,hx⟩:=h.row (by omega)
 exact ⟨b,e,hb,cs,hh,by omega,fun j hj=>hx j (by omega)⟩
structure Only (b:Nat) (w w':World):Prop where
 os:w'.os=w.os
 tape:w'.tape=w.tape
 output:w'.output=w.output
 size:w'.heap.size=w.heap.size
 rest:∀i,i≠b→w'.heap[i]?=w.heap[i]?
theorem Only.refl (b:Nat) (w:World):Only b w w:=⟨rfl,rfl,rfl,rfl,fun _ _=>rfl⟩
theorem Only.set {b:Nat} {w W:World} (h:Only b w W) (j:Nat) (v:Value):Only b w (W.setCell ⟨b,j,none⟩ v):=by
 refine ⟨h.os,h.tape,h.output,?_,fun i hi=>?_⟩
 ·simp only [World.setCell,Array.size_modify]
  exact h.size
 ·simp only [World.setCell,Array.getElem?_modify]
  rw [if_neg (fun e=>hi e.symm)]
  exact h.rest i hi
theorem Only.drewN {b:Nat} {w W:World} (h:Only b w W) (n:Nat):Only b w (W.drewN n):=⟨h.os,h.tape,h.output,h.size,h.rest⟩
theorem Only.trans {b:Nat} {w w1 w2:World} (h:Only b w w1) (k:Only b w1 w2):Only b w w2:=
 ⟨k.os.trans h.os,k.tape.trans h.tape,k.output.trans h.output,k.size.trans h.size,fun i hi=>(k.rest i hi).trans (h.rest i hi)⟩
theorem Only.below {B b:Nat} {w0 w w':World} (hb:Below B w0 w) (hB:B≤b) (h:Only b w w'):Below B w0 w':=
 hb.trans ⟨h.os,h.tape,h.output,Nat.le_of_eq h.size.symm,fun i hi=>h.rest i (by omega)⟩
theorem Rds.only {w w1:World} {k:IntKind} {ad:Option Addr} {n:Nat} {xs:List Int} (h:Rds w k ad n xs) {b:Nat} (ho:Only b w w1) (hne:∀a,ad=some a→a.block≠b):Rds w1 k ad n xs:=
 ⟨h.len,fun j hj=>by
  obtain ⟨a,e,hc⟩:=h.cell j hj
  refine ⟨a,e,?_⟩
  rw [←hc]
  have e2:(a.add j).block=a.block:=by unfold Addr.add;split <;> rfl
  have e3:=ho.rest a.block (hne a e)
  simp only [World.cell?,e2,e3]⟩
theorem Aw.only {w w1:World} {c:Nat} {t:TypeId} {k:IntKind} {xs:List Int} (h:Aw w c t k xs) {b:Nat} (ho:Only b w w1) (hne:c≠b):Aw w1 c t k xs:=by
 obtain ⟨cs,h1,h2⟩:=h
 exact ⟨cs,(ho.rest c hne).trans h1,h2⟩
theorem Blk.only {w w1:World} {c:Nat} {t:TypeId} {k:IntKind} {xs:List Int} (h:Blk w c t k xs) {b:Nat} (ho:Only b w w1) (hne:c≠b):Blk w1 c t k xs:=(ho.rest c hne).trans h
def putAt (Z:List Int) (j:Nat) (X:List Int):List Int:=Z.take j++(X++Z.drop (j+X.length))
theorem Jg (Z:List Int) (j:Nat) (X:List Int) (h:j+X.length≤Z.length):(putAt Z j X).length=Z.length:=by
 simp [putAt]
 omega
theorem Zf (Z:List Int) (j:Nat) (X:List Int) (hj:j≤Z.length) (i:Nat) (hi:i<X.length):(putAt Z j X)[j+i]?.getD 0=X[i]?.getD 0:=by
 unfold putAt
 rw [List.getElem?_append_right (by rw [List.length_take];omega),List.length_take,Nat.min_eq_left hj,Nat.add_sub_cancel_left,List.getElem?_append_left hi]
theorem Zg (Z:List Int) (j:Nat) (X:List Int) (hj:j≤Z.length) (i:Nat) (hi:i<X.length) (v:Int):(putAt Z j X).set (j+i) v=putAt Z j (X.set i v):=by
 unfold putAt
 rw [List.set_append_right _ _ (by rw [List.length_take];omega),List.length_take,Nat.min_eq_left hj,Nat.add_sub_cancel_left,List.set_append_left _ _ hi,List.length_set]
theorem Xb (Z:List Int) (j n:Nat) (h:j+n≤Z.length):putAt Z j ((Z.drop j).take n)=Z:=by
 unfold putAt
 have e:((Z.drop j).take n).length=n:=by rw [List.length_take,List.length_drop];omega
 rw [e]
 have e2:List.drop (j+n) Z=(Z.drop j).drop n:=by rw [List.drop_drop]
 rw [e2,List.take_append_drop,List.take_append_drop]
theorem qei (Z:List Int) (j:Nat) (X:List Int) (hj:j≤Z.length):((putAt Z j X).drop j).take X.length=X:=by
 unfold putAt
 rw [List.drop_append_of_le_length (by rw [List.length_take];omega),List.drop_of_length_le (by rw [List.length_take];omega),List.nil_append,List.take_left']
 rfl
theorem qhl (Z:List Int) (j:Nat) (X Y:List Int) (hj:j+X.length≤Z.length) (e:Y.length=X.length):putAt (putAt Z j X) j Y=putAt Z j Y:=by
 unfold putAt
 rw [e,List.take_append_of_le_length (by rw [List.length_take];omega),List.take_take,Nat.min_self]
 congr 2
 rw [←List.append_assoc,List.drop_left']
 simp [List.length_take]
 omega
theorem Ze {b:Int} {Z X:List Int} (hZ:Dig b Z) (hX:Dig b X) (j:Nat):Dig b (putAt Z j X):=(hZ.take _).append (hX.append (hZ.drop _))
theorem qhm (b:Int) (Z:List Int) (j n:Nat) (X:List Int) (hX:X.length=n) (h:j+n≤Z.length) :
  val b (putAt Z j X)=val b Z+b ^ j*(val b X-val b ((Z.drop j).take n)):=by
 have e1:val b Z=val b (Z.take j)+b ^ j*(val b ((Z.drop j).take n)+b ^ n*val b (Z.drop (j+n))):=by
  have h1:=Fg b Z j (by omega)
  have h2:=Fg b (Z.drop j) n (by rw [List.length_drop];omega)
  rw [List.drop_drop] at h2
  rw [h1,h2]
 unfold putAt
 rw [val_append,val_append,hX,List.length_take,Nat.min_eq_left (by omega),e1]
 generalize val b (List.drop (j+n) Z)=D
 generalize val b (List.take n (List.drop j Z))=W
 generalize val b X=V
 generalize b ^ j=P
 generalize b ^ n=R
 grind
end Go.Proofs.YtbcbmkeeoognpaaGreatDoor

namespace Go.Proofs.YtbcbmkeeoognpaaGreatDoor
theorem qdg (B:Int) (x X y:List Int) (i:Nat) (hi:i<X.length) (m c r p v r':Int) (hp:p=y[i]?.getD 0*m+c) (hv:v=x[i]?.getD 0-p % B-r+r'*B)
  (E:val B (X.take i)+val B (y.take i)*m=val B (x.take i)+(c+r)*B ^ i) :
  val B ((X.set i v).take (i+1))+val B (y.take (i+1))*m=val B (x.take (i+1))+(p / B+r')*B ^ (i+1):=by
 rw [E5 B X i _ hi,zy,zy,Int.pow_succ]
 have h:=Int.emod_add_mul_ediv p B
 generalize x[i]?.getD 0=xi at *
 generalize y[i]?.getD 0=yi at *
 generalize p / B=q at *
 generalize p % B=s at *
 generalize B ^ i=P at *
 generalize val B (X.take i)=VX at *
 generalize val B (x.take i)=Vx at *
 generalize val B (y.take i)=Vy at *
 have e:s=yi*m+c-B*q:=by omega
 subst e
 subst hv
 grind
theorem qf7 (B:Int) (x X y:List Int) (n:Nat) (hx:x.length=n+1) (hX:X.length=n+1) (hy:y.length=n) (m c r v r':Int) (hv:v=x[n]?.getD 0-c-r+r'*B)
  (E:val B (X.take n)+val B (y.take n)*m=val B (x.take n)+(c+r)*B ^ n) :
  val B (X.set n v)+val B y*m=val B x+r'*B ^ (n+1):=by
 have h1:=E5 B X n v (by omega)
 rw [List.take_of_length_le (by rw [List.length_set];omega)] at h1
 have h2:=zy B x n
 rw [List.take_of_length_le (by omega)] at h2
 rw [List.take_of_length_le (show y.length≤n by omega)] at E
 rw [h1,h2,Int.pow_succ]
 generalize x[n]?.getD 0=xi at *
 generalize B ^ n=P at *
 generalize val B (X.take n)=VX at *
 generalize val B (x.take n)=Vx at *
 subst hv
 grind
theorem qf6 (B:Int) (x X y:List Int) (i:Nat) (hi:i<X.length) (c s:Int) (hs:s=x[i]?.getD 0+y[i]?.getD 0+c)
  (E:val B (X.take i)+c*B ^ i=val B (x.take i)+val B (y.take i)) :
  val B ((X.set i (s % B)).take (i+1))+s / B*B ^ (i+1)=val B (x.take (i+1))+val B (y.take (i+1)):=qbe B x y X i hi c s hs E
theorem qiw (B:Int) (x X y:List Int) (n:Nat) (hx:x.length=n+1) (hX:X.length=n+1) (hy:y.length=n) (c s:Int) (hs:s=x[n]?.getD 0+c)
  (E:val B (X.take n)+c*B ^ n=val B (x.take n)+val B (y.take n)) :
  val B (X.set n (s % B))+s / B*B ^ (n+1)=val B x+val B y:=by
 have h1:=E5 B X n (s % B) (by omega)
 rw [List.take_of_length_le (by rw [List.length_set];omega)] at h1
 have h2:=zy B x n
 rw [List.take_of_length_le (by omega)] at h2
 rw [List.take_of_length_le (show y.length≤n by omega)] at E
 have h:=Int.emod_add_mul_ediv s B
 rw [h1,h2,Int.pow_succ]
 generalize x[n]?.getD 0=xi at *
 generalize B ^ n=P at *
 generalize val B (X.take n)=VX at *
 generalize val B (x.take n)=Vx at *
 generalize s / B=q at *
 generalize s % B=t at *
 have e:t=xi+c-B*q:=by omega
 subst e
 grind
theorem qd3 (B R:Int) (x X:List Int) (i:Nat) (hX:X.length=i) (c s:Int) (hs:s=x[i]?.getD 0*R+c)
  (E:val B X+c*B ^ i=val B (x.take i)*R) :
  val B (X++[s % B])+s / B*B ^ (i+1)=val B (x.take (i+1))*R:=by
 rw [val_append,zy,Int.pow_succ,hX]
 have h:=Int.emod_add_mul_ediv s B
 simp only [val,Int.mul_zero,Int.add_zero]
 generalize x[i]?.getD 0=xi at *
 generalize B ^ i=P at *
 generalize val B X=VX at *
 generalize val B (x.take i)=Vx at *
 generalize s / B=q at *
 generalize s % B=t at *
 have e:t=xi*R+c-B*q:=by omega
 subst e
 grind
end Go.Proofs.YtbcbmkeeoognpaaGreatDoor

namespace Go.Proofs.YtbcbmkeeoognpaaGreatDoor
open Go.RowKit
theorem qau (x y:Int) (r:Nat) (hx:0≤x∧x<4294967296) (hy:0≤y∧y<4294967296) (h0:0<r) (hr:r<32) :
  bits .or .u32 (x / 2 ^ r) (y*2 ^ (32-r) % 4294967296)=x / 2 ^ r+y % 2 ^ r*2 ^ (32-r)∧0≤x / 2 ^ r∧x / 2 ^ r<4294967296∧0≤y % 2 ^ r*2 ^ (32-r)∧x / 2 ^ r+y % 2 ^ r*2 ^ (32-r)<4294967296 ∧
   (y*2 ^ (32-r) % 4294967296=0↔y % 2 ^ r=0):=by
 obtain ⟨x,rfl⟩:=Int.eq_ofNat_of_zero_le hx.1
 obtain ⟨y,rfl⟩:=Int.eq_ofNat_of_zero_le hy.1
 have hB:(4294967296:Nat)=2 ^ (32-r)*2 ^ r:=by rw [←Nat.pow_add,show (32-r)+r=32 by omega]
 have e1:(x:Int) / 2 ^ r=((x / 2 ^ r:Nat):Int):=by simp
 have e2:(y:Int)*2 ^ (32-r) % 4294967296=((y*2 ^ (32-r) % 4294967296:Nat):Int):=by simp
 have e3:(y:Int) % 2 ^ r=((y % 2 ^ r:Nat):Int):=by simp
 have e4:((y % 2 ^ r:Nat):Int)*2 ^ (32-r)=((y % 2 ^ r*2 ^ (32-r):Nat):Int):=by simp
 have q:y*2 ^ (32-r) % 4294967296=y % 2 ^ r*2 ^ (32-r):=by
  rw [hB,Nat.mul_comm y,Nat.mul_mod_mul_left,Nat.mul_comm]
 have hq:x / 2 ^ r<2 ^ (32-r):=by
  rw [Nat.div_lt_iff_lt_mul (Nat.two_pow_pos _),←hB]
  omega
 have hd:y % 2 ^ r*2 ^ (32-r) % 2 ^ (32-r)=0:=Nat.mul_mod_left _ _
 have hpos:=Nat.two_pow_pos (32-r)
 have hl:y % 2 ^ r*2 ^ (32-r)+2 ^ (32-r)≤4294967296:=by
  have h1:=Nat.mul_le_mul_right (2 ^ (32-r)) (show y % 2 ^ r+1≤2 ^ r from Nat.mod_lt _ (Nat.two_pow_pos r))
  rw [Nat.mul_comm (2 ^ r),←hB,Nat.add_mul] at h1
  omega
 have hj:=nat_join (32-r) (y % 2 ^ r*2 ^ (32-r)) (x / 2 ^ r) hd hq
 rw [e1,e2,e3,e4,q]
 clear e1 e2 e3 e4 q hB hd
 have hiff:y % 2 ^ r*2 ^ (32-r)=0↔y % 2 ^ r=0:=by
  rw [Nat.mul_eq_zero]
  omega
 generalize x / 2 ^ r=a at *
 generalize y % 2 ^ r*2 ^ (32-r)=b at *
 generalize 2 ^ (32-r)=P at *
 generalize y % 2 ^ r=u at *
 refine ⟨?_,by omega,by omega,by omega,by omega,by omega⟩
 rw [u32_or_nat _ _ (by omega) (by omega),Nat.or_comm,hj,Nat.add_comm]
 simp
def qls (w:World) (W:World) (B0:Nat) (zs:List Int) (R c0:Int) (i:Nat) (wr:World):Prop:=
 ∃ys,Blk wr B0 44 .u32 ys∧ys.length=zs.length∧Dig 4294967296 ys∧Below w.heap.size w wr∧(∀k,i≤k→ys[k]?.getD 0=zs[k]?.getD 0) ∧
  val 4294967296 (ys.take i)*R+c0=val 4294967296 (zs.take i)+4294967296 ^ i*(zs[i]?.getD 0 % R)
set_option maxHeartbeats 2000000 in
theorem qk7 (ad:Option Addr) (nn c:Nat) (la:List Int) (n:Int) (w:World) (hn:nn≤70368744177664) (hnc:nn≤c) (hr:Rds w .u32 ad nn la) (da:Dig 4294967296 la)
  (hn0:0≤n) (hn1:n<9223372036854775808) (hsm:n / 32<((norm la).length:Nat)) :
  Calls Tryz.prog 60 #[.slice ad nn c,.int .i64 n] w (qip 44 .u32 (dg 4294967296 (val 4294967296 la / 2 ^ n.toNat)) (decide (val 4294967296 la % 2 ^ n.toNat≠0)) true w):=by
 have hc:=Lib.hid (Bd ad nn c la w (by omega) hnc hr)
 have rx:=hr.norm
 have dx:=F7 da
 have hma:=yf la
 rw [hr.len] at hma
 rw [←Ci 4294967296 la]
 clear hr da
 generalize norm la=xs at *
 obtain ⟨m,hm⟩:∃m,xs.length=m:=⟨_,rfl⟩
 rw [hm] at hc rx hma hsm
 have HM:=Lib.hid hm
 clear hm
 obtain ⟨s,hs⟩:∃s:Nat,n / 32=s:=⟨(n / 32).toNat,by omega⟩
 obtain ⟨r,hrr⟩:∃r:Nat,n % 32=r:=⟨(n % 32).toNat,by omega⟩
 have hr32:r<32:=by omega
 have hsm':s<m:=by omega
 have hlo0:=zt (b:=4294967296) (by omega) (dx.take s)
 have hlo1:=Au (b:=4294967296) (by omega) (dx.take s)
 rw [List.length_take,HM.out,Nat.min_eq_left (by omega)] at hlo1
 have EV:(2:Int) ^ n.toNat=4294967296 ^ s*2 ^ r:=by
  have e:n.toNat=32*s+r:=by omega
  rw [e,Int.pow_add,Int.pow_mul,show (2:Int) ^ 32=4294967296 from rfl]
 have hsp:=qh0 (val 4294967296 (xs.take s)) (4294967296 ^ s) (val 4294967296 (xs.drop s)) (2 ^ r) hlo0 hlo1 (Int.pow_pos (by omega))
 rw [EV,Fg 4294967296 xs s (by rw [HM.out];omega),hsp.1,hsp.2]
 clear EV hsp
 have hpm:decide (val 4294967296 (xs.take s)+4294967296 ^ s*(val 4294967296 (xs.drop s) % 2 ^ r)≠0)=(decide (val 4294967296 (xs.take s)≠0) || decide (val 4294967296 (xs.drop s) % 2 ^ r≠0)):=by
  have h1:0≤val 4294967296 (xs.drop s) % 2 ^ r:=Int.emod_nonneg _ (Int.ne_of_gt (Int.pow_pos (by omega)))
  have h2:(0:Int)<4294967296 ^ s:=Int.pow_pos (by omega)
  generalize val 4294967296 (xs.drop s) % 2 ^ r=t at *
  generalize val 4294967296 (xs.take s)=l at *
  generalize (4294967296:Int) ^ s=P at *
  rw [Bool.eq_iff_iff]
  simp only [decide_eq_true_eq,Bool.or_eq_true]
  constructor
  ·intro h
   by_cases hl:l=0
   ·refine .inr fun ht=>h ?_
    rw [hl,ht]
    simp
   ·exact .inl hl
  ·rintro (h | h)
   ·have:=Int.mul_nonneg (Int.le_of_lt h2) h1
    omega
   ·have:=Int.mul_pos h2 (show 0<t by omega)
    omega
 obtain ⟨MO,hMO⟩:∃MO,(decide (val 4294967296 (xs.take s)≠0) || decide (val 4294967296 (xs.drop s) % 2 ^ r≠0))=MO:=⟨_,rfl⟩
 have HMO0:=Lib.hid hMO
 rw [hpm,hMO]
 clear hpm hMO
 obtain ⟨a,rfl,hxs⟩:=rx.cell s (by omega)
 clear hxs
 have hmm:¬(n / 32≥(m:Int)):=by omega
 have hsI:(s:Int)<m:=by omega
 go_enter Tryz.func60,Tryz.ntmps60
 go_wp2_with fail
 refine (hc.out).mono ?_
 rintro e w' ⟨rfl,rfl⟩
 clear hc
 go_wp2_with fail
 go_loop [28,5] (fun i b=>∃k:Nat,∃mb:Bool,k≤s∧i=.int .i64 k∧b=.bool mb∧Hid (mb=decide (val 4294967296 (xs.take k)≠0))) (fun i _=>s-(intOf i).toNat)
 case atStart=>exact ⟨0,false,Nat.zero_le _,rfl,rfl,by simp [val,Hid]⟩
 case round=>
  obtain ⟨k,mb,hk,rfl,rfl,hmb⟩:=hrel
  by_cases hks:k<s
  ·obtain ⟨a',ha',hxl⟩:=rx.cell k (by omega)
   injection ha' with ha'
   subst ha'
   have bx:=dx.get (by omega) k
   have hv:=Lib.hid (zy 4294967296 xs k)
   have hv0:=zt (b:=4294967296) (by omega) (dx.take k)
   have HMB:=Lib.hid (show (mb || decide (xs[k]?.getD 0≠0))=decide (val 4294967296 (xs.take (k+1))≠0) by
    rw [hmb.out,hv.out,Bool.eq_iff_iff]
    simp only [decide_eq_true_eq,Bool.or_eq_true]
    have h2:(0:Int)<4294967296 ^ k:=Int.pow_pos (by omega)
    generalize xs[k]?.getD 0=x at *
    generalize (4294967296:Int) ^ k=P at *
    constructor
    ·rintro (h | h)
     ·have:=Int.mul_nonneg (Int.le_of_lt h2) bx.1
      omega
     ·have:=Int.mul_pos h2 (show 0<x by omega)
      omega
    ·intro h
     by_cases hx0:x=0
     ·left;intro h3;apply h;rw [h3,hx0];simp
     ·exact .inr hx0)
   clear hv hv0 hmb
   generalize xs[k]?.getD 0=x at *
   cases mb
   ·by_cases hx0:x=0
    ·subst hx0
     go_wp2
     go_round
     case rel=>exact ⟨k+1,false,by omega,by go_num,rfl,Lib.hid (by simpa using HMB.out)⟩
     case measure=>simp [intOf];omega
    ·have hx1:(x != 0)=true:=by simp;exact hx0
     have HB2:=Lib.hid (show true=decide (val 4294967296 (xs.take (k+1))≠0) by rw [←HMB.out,decide_eq_true hx0];rfl)
     clear hx0
     go_wp2
     go_round
     case rel=>exact ⟨k+1,true,by omega,by go_num,rfl,HB2.out⟩
     case measure=>simp [intOf];omega
   ·go_wp2
    go_round
    case rel=>exact ⟨k+1,true,by omega,by go_num,rfl,Lib.hid (by simpa using HMB.out)⟩
    case measure=>simp [intOf];omega
  ·obtain rfl:k=s:=by omega
   obtain ⟨L,hL⟩:∃L,m-k=L:=⟨_,rfl⟩
   have hLI:(m:Int)-k=L:=by omega
   have hL0:0<L:=by omega
   have hmk:=Du (P:=Tryz.prog) 23 44 .u32 4 Tryz.underlying23 Ah (by omega) L (by omega) (L:Int) rfl
   have b0:Below w.heap.size w (w.alloc (.cells (nums .u32 (List.replicate L 0)).toArray 44)):=(Below.refl _ _).alloc (Nat.le_refl _) _
   have r0:=(rx.below b0 (Nat.le_refl _)).drop k (by omega)
   rw [hL] at r0
   simp only [Option.map_some] at r0
   have k0:=Blk.made w 44 .u32 (List.replicate L 0) w.heap.size rfl
   have dzs:=dx.drop k
   have HMO:=Lib.hid (show (mb || decide (val 4294967296 (xs.drop k) % 2 ^ r≠0))=MO by rw [hmb.out];exact HMO0.out)
   have HZL:=Lib.hid (show (List.drop k xs).length=L by rw [List.length_drop,HM.out,hL])
   clear hmb hlo0 hlo1 dx rx HMO0
   generalize List.drop k xs=zs at *
   have hz0:List.take 0 (List.replicate L (0:Int))++(zs++List.drop (0+L) (List.replicate L (0:Int)))=zs:=by simp
   have HZ0:=Lib.hid hz0
   clear hz0
   have hmin:min r 32=r:=by omega
   by_cases hr0:0<r
   ·obtain ⟨c0,hc0⟩:∃c0,zs[0]?.getD 0 % 2 ^ r=c0:=⟨_,rfl⟩
    have hc00:0≤c0:=by rw [←hc0];exact Int.emod_nonneg _ (Int.ne_of_gt (Int.pow_pos (by omega)))
    have hc01:c0<2 ^ r:=by rw [←hc0];exact Int.emod_lt_of_pos _ (Int.pow_pos (by omega))
    have HC0:=Lib.hid hc0
    have HBR:=Lib.hid (show (4294967296:Int)=2 ^ r*2 ^ (32-r) by rw [←Int.pow_add,show r+(32-r)=32 by omega];rfl)
    have HVC:=Lib.hid (show val 4294967296 zs % 2 ^ r=c0 by
     rw [Fg 4294967296 zs 1 (by rw [HZL.out];omega),zy,HBR.out,Int.pow_one,Int.mul_assoc,Int.add_mul_emod_self_left]
     simp only [List.take_zero,val,Int.pow_zero,Int.one_mul,Int.zero_add]
     exact hc0)
    have hor:=qau (zs[0]?.getD 0) (zs[0]?.getD 0) r (dzs.get (by omega) 0) (dzs.get (by omega) 0) hr0 hr32
    have HT:=Lib.hid hor.2.2.2.2.2
    clear hor hc0
    cases mb
    ·have HQ:=Lib.hid (show (zs[0]?.getD 0*2 ^ (32-r) % 4294967296 != 0)=MO by
      rw [←HMO.out,HVC.out,Bool.false_or,Bool.eq_iff_iff]
      simp only [bne_iff_ne,ne_eq,decide_eq_true_eq,HT.out,HC0.out])
     have hrI:(0:Int)<r:=by omega
     have W2:(32-(r:Int)).toNat=32-r:=by omega
     have W7:min (32-r) 32=32-r:=by omega
     go_wp2_with (refine Qb w.heap.size rfl (.tmp 44) (.tmp 48) 23 23 rfl 44 Tryz.underlying23 Ox (some ⟨w.heap.size,0,none⟩) (some (a.add k)) L L L L rfl rfl w.heap.size 0 .u32 (List.replicate L 0) zs k0 r0 (Nat.le_refl _) (fun _=>rfl) (by rw [List.length_replicate];omega) b0 (Nat.le_refl _) ?_;intro w2 k2 b2;rw [HZ0.out] at k2;have cc:=k2.cell 0 (by rw [HZL.out];exact hL0))
     ·have hI:qls w w2 w.heap.size zs (2 ^ r) c0 0 w2:=⟨zs,k2,rfl,dzs,b2,fun _ _=>rfl,by simp only [List.take_zero,val,Int.zero_mul,Int.pow_zero,Int.one_mul,Int.zero_add];exact HC0.out.symm⟩
      clear cc k0 b0 r0 hmk W2 W7
      clear k2 b2
      go_loopw [66] (fun i wr=>∃j:Nat,j≤L∧i=.int .i64 j∧qls w w2 w.heap.size zs (2 ^ r) c0 j wr) (fun i _=>L-(intOf i).toNat)
      case atStart=>exact ⟨0,Nat.zero_le _,rfl,hI⟩
      case round=>
       clear hI
       obtain ⟨i,hi,rfl,ys,h1,h2,h3,h4,h5,h6⟩:=hrel
       have H2:=Lib.hid h2
       have H5:=Lib.hid h5
       have H6:=Lib.hid h6
       clear h2 h5 h6
       by_cases hiL:i<L
       ·have hci:=h1.cell i (by rw [H2.out,HZL.out];omega)
        rw [H5.out i (Nat.le_refl _)] at hci
        have hfi:=h1.free i
        have bx:=dzs.get (by omega) i
        have by1:=dzs.get (by omega) (i+1)
        have ST:=Lib.hid (qct 4294967296 (2 ^ r) (2 ^ (32-r)) (Int.pow_pos (by omega)) HBR.out zs ys i (by rw [H2.out,HZL.out];omega) c0 H6.out)
        obtain ⟨om1,om2,om3,om4,om5,om6⟩:=qau (zs[i]?.getD 0) (zs[i+1]?.getD 0) r bx by1 hr0 hr32
        have OM:=Lib.hid om1
        have hiI:(i:Int)<L:=by omega
        clear H6 om1 om6
        by_cases hi1:i+1<L
        ·have hiI1:(i:Int)+1<L:=by omega
         generalize zs[i]?.getD 0=x at *
         have h1':=h1.set i (x / 2 ^ r)
         have d1':=h3.set om2 om3 i
         have b1':=je h4 w.heap.size i (.int .u32 (x / 2 ^ r)) (Nat.le_refl _)
         have c1':=h1'.cell i (by rw [List.length_set,H2.out,HZL.out];omega)
         rw [List.getElem?_set_self (by rw [H2.out,HZL.out];omega)] at c1'
         simp only [Option.getD_some] at c1'
         have c2':=h1'.cell (i+1) (by rw [List.length_set,H2.out,HZL.out];omega)
         rw [List.getElem?_set_ne (by omega),H5.out (i+1) (by omega)] at c2'
         have f1':=h1'.free i
         generalize hye:zs[i+1]?.getD 0=y at *
         have HYE:=Lib.hid hye
         clear hye
         have K1:=h1'.set i (x / 2 ^ r+y % 2 ^ r*2 ^ (32-r))
         rw [List.set_set] at K1
         have HL2:=Lib.hid (show ((ys.set i (x / 2 ^ r+y % 2 ^ r*2 ^ (32-r))).length=zs.length) by rw [List.length_set,H2.out])
         have d2:=h3.set (show 0≤x / 2 ^ r+y % 2 ^ r*2 ^ (32-r) by omega) om5 i
         have b2:=je b1' w.heap.size i (.int .u32 (x / 2 ^ r+y % 2 ^ r*2 ^ (32-r))) (Nat.le_refl _)
         go_wp2
         clear hfi hci
         generalize wr.setCell ⟨w.heap.size,i,none⟩ (.int .u32 (x / 2 ^ r))=w3 at *
         have W1:IntKind.i64.wrap ((i:Int)+1)=(i:Int)+1:=IntWalk.i64_in _ (by omega)
         have W2:IntKind.i64.wrap (32-(r:Int))=32-(r:Int):=IntWalk.i64_in _ (by omega)
         have W3:((i:Int)+1).toNat=i+1:=by omega
         have W4:(0:Int)≤(i:Int)+1:=by omega
         have W5:(32-(r:Int)).toNat=32-r:=by omega
         have W6:(0:Int)≤32-(r:Int):=by omega
         have W7:min (32-r) 32=32-r:=by omega
         have W9:=OM.out
         go_region
         clear W1 W2 W3 W4 W5 W6 W7 W9
         go_wp2
         go_roundw
         case rel=>
          refine ⟨i+1,by omega,by go_num,_,K1.drew,HL2.out,d2,Dv b2,fun q hq=>?_,?_⟩
          ·rw [List.getElem?_set_ne (by omega)]
           exact H5.out q (by omega)
          ·rw [HYE.out]
           exact ST.out
         case measure=>simp [intOf];omega
        ·have hiI1:¬(i:Int)+1<L:=by omega
         have hy0:zs[i+1]?.getD 0=0:=by rw [List.getElem?_eq_none (by rw [HZL.out];omega)];rfl
         rw [hy0,Int.zero_emod,Int.zero_mul,Int.add_zero] at ST
         have HY:=Lib.hid hy0
         clear hy0 by1 om4 om5 OM
         generalize zs[i]?.getD 0=x at *
         have K1:=h1.set i (x / 2 ^ r)
         have d1':=h3.set om2 om3 i
         have b1':=je h4 w.heap.size i (.int .u32 (x / 2 ^ r)) (Nat.le_refl _)
         have HL2:=Lib.hid (show ((ys.set i (x / 2 ^ r)).length=zs.length) by rw [List.length_set,H2.out])
         go_wp2
         go_roundw
         case rel=>
          refine ⟨i+1,by omega,by go_num,_,K1,HL2.out,d1',b1',fun q hq=>?_,?_⟩
          ·rw [List.getElem?_set_ne (by omega)]
           exact H5.out q (by omega)
          ·rw [HY.out,Int.zero_emod]
           exact ST.out
         case measure=>simp [intOf];omega
       ·obtain rfl:i=L:=by omega
        have HV:=Lib.hid (show val 4294967296 ys=val 4294967296 zs / 2 ^ r by
         have e:=H6.out
         rw [List.take_of_length_le (by rw [H2.out,HZL.out];exact Nat.le_refl _),List.take_of_length_le (by rw [HZL.out];exact Nat.le_refl _),List.getElem?_eq_none (by rw [HZL.out];exact Nat.le_refl _)] at e
         simp only [Option.getD_none,Int.zero_emod,Int.mul_zero,Int.add_zero] at e
         rw [←e,Int.add_comm,Int.add_mul_ediv_right _ _ (Int.ne_of_gt (Int.pow_pos (by omega))),Int.ediv_eq_zero_of_lt hc00 hc01,Int.zero_add])
        have hcut:=Lib.hid (Bd (some ⟨w.heap.size,0,none⟩) i i _ wr (by omega) (Nat.le_refl _) (by have:=h1.rds;rwa [H2.out,HZL.out] at this))
        have R:=h1.ret (Nat.le_refl _) (by rw [H2.out,HZL.out];omega) h3 _ HV.out h4
        obtain ⟨rd,rn,rc,re,ro,rb⟩:=R
        have RE:=Lib.hid re
        clear re
        go_wp2_with fail
        refine (hcut.out).mono ?_
        rintro e w' ⟨rfl,rfl⟩
        go_wp2_with fail
        go_ret3
        have re:=RE.out
        injection re with re
        injection re with e1 e2 e3
        refine ⟨rd,rn,rc,?_,ro,rb⟩
        rw [←HQ.out,←e1,←e2,←e3]
        rfl
    ·have HQ:=Lib.hid (show true=MO by rw [←HMO.out,Bool.true_or])
     have hrI:(0:Int)<r:=by omega
     go_wp2_with (refine Qb w.heap.size rfl (.tmp 44) (.tmp 48) 23 23 rfl 44 Tryz.underlying23 Ox (some ⟨w.heap.size,0,none⟩) (some (a.add k)) L L L L rfl rfl w.heap.size 0 .u32 (List.replicate L 0) zs k0 r0 (Nat.le_refl _) (fun _=>rfl) (by rw [List.length_replicate];omega) b0 (Nat.le_refl _) ?_;intro w2 k2 b2;rw [HZ0.out] at k2;have cc:=k2.cell 0 (by rw [HZL.out];exact hL0))
     ·have hI:qls w w2 w.heap.size zs (2 ^ r) c0 0 w2:=⟨zs,k2,rfl,dzs,b2,fun _ _=>rfl,by simp only [List.take_zero,val,Int.zero_mul,Int.pow_zero,Int.one_mul,Int.zero_add];exact HC0.out.symm⟩
      clear cc k0 b0 r0 hmk
      clear k2 b2
      go_loopw [66] (fun i wr=>∃j:Nat,j≤L∧i=.int .i64 j∧qls w w2 w.heap.size zs (2 ^ r) c0 j wr) (fun i _=>L-(intOf i).toNat)
      case atStart=>exact ⟨0,Nat.zero_le _,rfl,hI⟩
      case round=>
       clear hI
       obtain ⟨i,hi,rfl,ys,h1,h2,h3,h4,h5,h6⟩:=hrel
       have H2:=Lib.hid h2
       have H5:=Lib.hid h5
       have H6:=Lib.hid h6
       clear h2 h5 h6
       by_cases hiL:i<L
       ·have hci:=h1.cell i (by rw [H2.out,HZL.out];omega)
        rw [H5.out i (Nat.le_refl _)] at hci
        have hfi:=h1.free i
        have bx:=dzs.get (by omega) i
        have by1:=dzs.get (by omega) (i+1)
        have ST:=Lib.hid (qct 4294967296 (2 ^ r) (2 ^ (32-r)) (Int.pow_pos (by omega)) HBR.out zs ys i (by rw [H2.out,HZL.out];omega) c0 H6.out)
        obtain ⟨om1,om2,om3,om4,om5,om6⟩:=qau (zs[i]?.getD 0) (zs[i+1]?.getD 0) r bx by1 hr0 hr32
        have OM:=Lib.hid om1
        have hiI:(i:Int)<L:=by omega
        clear H6 om1 om6
        by_cases hi1:i+1<L
        ·have hiI1:(i:Int)+1<L:=by omega
         generalize zs[i]?.getD 0=x at *
         have h1':=h1.set i (x / 2 ^ r)
         have d1':=h3.set om2 om3 i
         have b1':=je h4 w.heap.size i (.int .u32 (x / 2 ^ r)) (Nat.le_refl _)
         have c1':=h1'.cell i (by rw [List.length_set,H2.out,HZL.out];omega)
         rw [List.getElem?_set_self (by rw [H2.out,HZL.out];omega)] at c1'
         simp only [Option.getD_some] at c1'
         have c2':=h1'.cell (i+1) (by rw [List.length_set,H2.out,HZL.out];omega)
         rw [List.getElem?_set_ne (by omega),H5.out (i+1) (by omega)] at c2'
         have f1':=h1'.free i
         generalize hye:zs[i+1]?.getD 0=y at *
         have HYE:=Lib.hid hye
         clear hye
         have K1:=h1'.set i (x / 2 ^ r+y % 2 ^ r*2 ^ (32-r))
         rw [List.set_set] at K1
         have HL2:=Lib.hid (show ((ys.set i (x / 2 ^ r+y % 2 ^ r*2 ^ (32-r))).length=zs.length) by rw [List.length_set,H2.out])
         have d2:=h3.set (show 0≤x / 2 ^ r+y % 2 ^ r*2 ^ (32-r) by omega) om5 i
         have b2:=je b1' w.heap.size i (.int .u32 (x / 2 ^ r+y % 2 ^ r*2 ^ (32-r))) (Nat.le_refl _)
         go_wp2
         clear hfi hci
         generalize wr.setCell ⟨w.heap.size,i,none⟩ (.int .u32 (x / 2 ^ r))=w3 at *
         have W1:IntKind.i64.wrap ((i:Int)+1)=(i:Int)+1:=IntWalk.i64_in _ (by omega)
         have W2:IntKind.i64.wrap (32-(r:Int))=32-(r:Int):=IntWalk.i64_in _ (by omega)
         have W3:((i:Int)+1).toNat=i+1:=by omega
         have W4:(0:Int)≤(i:Int)+1:=by omega
         have W5:(32-(r:Int)).toNat=32-r:=by omega
         have W6:(0:Int)≤32-(r:Int):=by omega
         have W7:min (32-r) 32=32-r:=by omega
         have W9:=OM.out
         go_region
         clear W1 W2 W3 W4 W5 W6 W7 W9
         go_wp2
         go_roundw
         case rel=>
          refine ⟨i+1,by omega,by go_num,_,K1.drew,HL2.out,d2,Dv b2,fun q hq=>?_,?_⟩
          ·rw [List.getElem?_set_ne (by omega)]
           exact H5.out q (by omega)
          ·rw [HYE.out]
           exact ST.out
         case measure=>simp [intOf];omega
        ·have hiI1:¬(i:Int)+1<L:=by omega
         have hy0:zs[i+1]?.getD 0=0:=by rw [List.getElem?_eq_none (by rw [HZL.out];omega)];rfl
         rw [hy0,Int.zero_emod,Int.zero_mul,Int.add_zero] at ST
         have HY:=Lib.hid hy0
         clear hy0 by1 om4 om5 OM
         generalize zs[i]?.getD 0=x at *
         have K1:=h1.set i (x / 2 ^ r)
         have d1':=h3.set om2 om3 i
         have b1':=je h4 w.heap.size i (.int .u32 (x / 2 ^ r)) (Nat.le_refl _)
         have HL2:=Lib.hid (show ((ys.set i (x / 2 ^ r)).length=zs.length) by rw [List.length_set,H2.out])
         go_wp2
         go_roundw
         case rel=>
          refine ⟨i+1,by omega,by go_num,_,K1,HL2.out,d1',b1',fun q hq=>?_,?_⟩
          ·rw [List.getElem?_set_ne (by omega)]
           exact H5.out q (by omega)
          ·rw [HY.out,Int.zero_emod]
           exact ST.out
         case measure=>simp [intOf];omega
       ·obtain rfl:i=L:=by omega
        have HV:=Lib.hid (show val 4294967296 ys=val 4294967296 zs / 2 ^ r by
         have e:=H6.out
         rw [List.take_of_length_le (by rw [H2.out,HZL.out];exact Nat.le_refl _),List.take_of_length_le (by rw [HZL.out];exact Nat.le_refl _),List.getElem?_eq_none (by rw [HZL.out];exact Nat.le_refl _)] at e
         simp only [Option.getD_none,Int.zero_emod,Int.mul_zero,Int.add_zero] at e
         rw [←e,Int.add_comm,Int.add_mul_ediv_right _ _ (Int.ne_of_gt (Int.pow_pos (by omega))),Int.ediv_eq_zero_of_lt hc00 hc01,Int.zero_add])
        have hcut:=Lib.hid (Bd (some ⟨w.heap.size,0,none⟩) i i _ wr (by omega) (Nat.le_refl _) (by have:=h1.rds;rwa [H2.out,HZL.out] at this))
        have R:=h1.ret (Nat.le_refl _) (by rw [H2.out,HZL.out];omega) h3 _ HV.out h4
        obtain ⟨rd,rn,rc,re,ro,rb⟩:=R
        have RE:=Lib.hid re
        clear re
        go_wp2_with fail
        refine (hcut.out).mono ?_
        rintro e w' ⟨rfl,rfl⟩
        go_wp2_with fail
        go_ret3
        have re:=RE.out
        injection re with re
        injection re with e1 e2 e3
        refine ⟨rd,rn,rc,?_,ro,rb⟩
        rw [←HQ.out,←e1,←e2,←e3]
        rfl
   ·obtain rfl:r=0:=by omega
    have HQ:=Lib.hid (show mb=MO by rw [←HMO.out];simp)
    have HV:=Lib.hid (show val 4294967296 zs=val 4294967296 zs / 2 ^ 0 by simp)
    go_wp2_with (refine Qb w.heap.size rfl (.tmp 44) (.tmp 48) 23 23 rfl 44 Tryz.underlying23 Ox (some ⟨w.heap.size,0,none⟩) (some (a.add k)) L L L L rfl rfl w.heap.size 0 .u32 (List.replicate L 0) zs k0 r0 (Nat.le_refl _) (fun _=>rfl) (by rw [List.length_replicate];omega) b0 (Nat.le_refl _) ?_;intro w2 k2 b2;rw [HZ0.out] at k2;have cc:=k2.cell 0 (by rw [HZL.out];exact hL0))
    have hcut:=Lib.hid (Bd (some ⟨w.heap.size,0,none⟩) L L _ w2 (by omega) (Nat.le_refl _) (by have:=k2.rds;rwa [HZL.out] at this))
    have R:=k2.ret (Nat.le_refl _) (by rw [HZL.out];omega) dzs _ HV.out b2
    obtain ⟨rd,rn,rc,re,ro,rb⟩:=R
    have RE:=Lib.hid re
    clear re cc
    refine (hcut.out).mono ?_
    rintro e w' ⟨rfl,rfl⟩
    go_wp2_with fail
    go_ret3
    have re:=RE.out
    injection re with re
    injection re with e1 e2 e3
    refine ⟨rd,rn,rc,?_,ro,rb⟩
    rw [←HQ.out,←e1,←e2,←e3]
    rfl
theorem qhz (ad:Option Addr) (nn c:Nat) (la:List Int) (n:Int) (w:World) (hn:nn≤70368744177664) (hnc:nn≤c) (hr:Rds w .u32 ad nn la) (da:Dig 4294967296 la) (hnb : -9223372036854775808≤n∧n<9223372036854775808) :
  Calls Tryz.prog 60 #[.slice ad nn c,.int .i64 n] w (qip 44 .u32 (dg 4294967296 (Oa (val 4294967296 la) n)) (Ov (val 4294967296 la) n) (decide (0≤n)) w):=by
 obtain ⟨hn1,hn2⟩:=hnb
 by_cases h0:0≤n
 ·by_cases hs:n / 32<((norm la).length:Nat)
  ·have h:=qk7 ad nn c la n w hn hnc hr da h0 hn2 hs
   unfold Oa Ov
   rw [if_pos h0,decide_eq_true h0,Bool.true_and]
   exact h
  ·have hV0:=zt (by omega) da
   have hV1:val 4294967296 la<2 ^ n.toNat:=by
    have h1:=Au (by omega) (F7 da)
    rw [Ci] at h1
    have h2:(4294967296:Int) ^ (norm la).length=2 ^ (32*(norm la).length):=by rw [Int.pow_mul];rfl
    rw [h2] at h1
    exact Int.lt_of_lt_of_le h1 (Ew (by omega) (by omega))
   have HN:=Lib.hid (show Oa (val 4294967296 la) n=0 by unfold Oa;rw [if_pos h0];exact Int.ediv_eq_zero_of_lt hV0 hV1)
   have HO:=Lib.hid (show Ov (val 4294967296 la) n=decide ((0:Int)<((norm la).length:Nat)) by
    unfold Ov
    rw [decide_eq_true h0,Bool.true_and,Int.emod_eq_of_lt hV0 hV1,Bool.eq_iff_iff]
    simp only [decide_eq_true_eq]
    have e:=Ir 4294967296 (by omega) da
    rw [e,show ((4294967296:Nat):Int)=4294967296 from rfl]
    have h3:=Jp 4294967296 (val 4294967296 la) (by omega) hV0
    constructor
    ·intro h4
     have:=List.length_pos_iff.2 (fun h5=>h4 (h3.1 h5))
     omega
    ·intro h4 h5
     rw [h3.2 h5] at h4
     simp at h4)
   have HC:=Lib.hid (Bd ad nn c la w (by omega) hnc hr)
   have hml:=yf la
   rw [hr.len] at hml
   have HD:=Lib.hid (decide_eq_true h0)
   clear hr da hV0 hV1
   generalize (norm la).length=m at *
   have hnw:¬n<0:=by omega
   go_enter Tryz.func60,Tryz.ntmps60
   go_wp2_with fail
   refine (HC.out).mono ?_
   rintro e w' ⟨rfl,rfl⟩
   go_wp2
   go_ret3
   rw [HN.out,HO.out,HD.out,Ak]
   refine ⟨none,0,0,?_,Own.nil _ _ _ _ _,Below.refl _ _⟩
   first | rfl | simp
 ·have HN:=Lib.hid (show Oa (val 4294967296 la) n=0 by unfold Oa;rw [if_neg h0])
  have HO:=Lib.hid (show Ov (val 4294967296 la) n=false by unfold Ov;rw [decide_eq_false h0,Bool.false_and])
  have HD:=Lib.hid (decide_eq_false h0)
  have hnw:n<0:=by omega
  go_enter Tryz.func60,Tryz.ntmps60
  go_wp2
  go_ret3
  rw [HN.out,HO.out,HD.out,Ak]
  exact ⟨none,0,0,rfl,Own.nil _ _ _ _ _,Below.refl _ _⟩
end Go.Proofs.YtbcbmkeeoognpaaGreatDoor

namespace Go.Proofs.YtbcbmkeeoognpaaGreatDoor
open Go.RowKit
def qir (w:World) (xs:List Int) (d:Int) (n i:Nat) (r:Int) (wr:World):Prop:=
 ∃ys,Blk wr w.heap.size 44 .u32 ys∧ys.length=n∧Dig 4294967296 ys∧Below w.heap.size w wr∧0≤r∧r<d ∧
  val 4294967296 (xs.drop (n-i))=val 4294967296 (ys.drop (n-i))*d+r
set_option maxHeartbeats 1000000 in
theorem Tf (ad:Option Addr) (n c:Nat) (xs:List Int) (d:Int) (w:World) (hn:n≤70368744177664) (hr:Rds w .u32 ad n xs) (dx:Dig 4294967296 xs) (hd:0<d∧d<4294967296) :
  Calls Tryz.prog 61 #[.slice ad n c,.int .u32 d] w (qnq 44 .u32 .u32 (dg 4294967296 (val 4294967296 xs / d)) (val 4294967296 xs % d) true w):=by
 obtain ⟨hd0,hd1⟩:=hd
 have HX:=Lib.hid hr.len
 have hdd:(d == 0)=false:=by simp;omega
 have hmk:=Du (P:=Tryz.prog) 23 44 .u32 4 Tryz.underlying23 Ah (by omega) n (by omega) (n:Int) rfl
 have hr0:qir w xs d n 0 0 (w.alloc (.cells (nums .u32 (List.replicate n 0)).toArray 44)):=
  ⟨_,Blk.made _ _ _ _ _ rfl,by simp,Dig.replicate _ (by omega) _,(Below.refl _ _).alloc (Nat.le_refl _) _,by omega,by omega,by rw [Nat.sub_zero,List.drop_of_length_le (by rw [HX.out];exact Nat.le_refl _),List.drop_of_length_le (by simp)];simp [val]⟩
 go_enter Tryz.func61,Tryz.ntmps61
 go_wp2
 clear hmk
 go_loopw [17,5] (fun i rr wr=>∃k:Nat,∃r:Int,k≤n∧i=.int .i64 k∧rr=.int .u32 r∧qir w xs d n k r wr) (fun i _ _=>n-(intOf i).toNat)
 case atStart=>exact ⟨0,0,Nat.zero_le _,rfl,rfl,hr0⟩
 case round=>
  clear hr0
  obtain ⟨k,r,hk,rfl,rfl,ys,h1,h2,h3,h4,hr0,hr1,h5⟩:=hrel
  have H2:=Lib.hid h2
  have H5:=Lib.hid h5
  clear h2 h5
  by_cases hkn:k<n
  ·obtain ⟨j,hj⟩:∃j,j=n-1-k:=⟨_,rfl⟩
   have HJ:=Lib.hid hj
   obtain ⟨a,rfl,hxl⟩:=(hr.below h4 (Nat.le_refl _)).cell j (by omega)
   have hf:=h1.free j
   have hy:=h1.cell j (by rw [H2.out];omega)
   have bx:=dx.get (by omega) j
   have hdv:=Lib.hid (qbz r (xs[j]?.getD 0) d wr ⟨hr0,hr1⟩ bx ⟨hd0,hd1⟩)
   have Q1:0≤(r*4294967296+xs[j]?.getD 0) / d:=Int.ediv_nonneg (by omega) (by omega)
   have Q2:(r*4294967296+xs[j]?.getD 0) / d<4294967296:=by
    refine Int.ediv_lt_of_lt_mul hd0 ?_
    have h2:(r+1)*4294967296≤d*4294967296:=Int.mul_le_mul_of_nonneg_right (by omega) (by omega)
    rw [Int.mul_comm d] at h2
    omega
   have Q3:0≤(r*4294967296+xs[j]?.getD 0) % d:=Int.emod_nonneg _ (by omega)
   have Q4:(r*4294967296+xs[j]?.getD 0) % d<d:=Int.emod_lt_of_pos _ hd0
   have S:=qes 4294967296 xs ys j (by rw [HX.out];omega) (by rw [H2.out];omega) d r _ ((r*4294967296+xs[j]?.getD 0) / d) ((r*4294967296+xs[j]?.getD 0) % d) rfl (by rw [Int.mul_ediv_add_emod]) (by rw [show j+1=n-k by omega];exact H5.out)
   have HS:=Lib.hid S
   clear S H5 hj
   have hj1:(n:Int)-1-k=j:=by have:=HJ.out;omega
   generalize xs[j]?.getD 0=x at *
   generalize (r*4294967296+x) / d=qq at *
   generalize (r*4294967296+x) % d=rr at *
   have hjn:j<n:=by have:=HJ.out;omega
   go_wp2_with fail
   refine (hdv.out).mono ?_
   rintro e w' ⟨rfl,q,rfl⟩
   have h1':=h1.drewN q
   have hf':=h1'.free j
   have hy':=h1'.cell j (by rw [H2.out];omega)
   have h4':=below_drewN h4 q
   clear hdv h1 h4 hf hy hxl
   generalize wr.drewN q=w2 at *
   go_wp2
   go_roundw
   case rel=>
    refine ⟨k+1,_,by omega,by go_num,rfl,_,h1'.set j _,by simp [H2.out],h3.set Q1 Q2 _,je h4' _ _ _ (Nat.le_refl _),Q3,Q4,?_⟩
    rw [show n-(k+1)=j by have:=HJ.out;omega]
    exact HS.out
   case measure=>simp [intOf];omega
  ·obtain rfl:k=n:=by omega
   have hv:val 4294967296 xs=d*val 4294967296 ys+r:=by have:=H5.out;simp at this;rw [Int.mul_comm] at this;exact this
   have e1:val 4294967296 ys=val 4294967296 xs / d:=by rw [hv,Int.mul_add_ediv_left _ _ (by omega),Int.ediv_eq_zero_of_lt hr0 hr1,Int.add_zero]
   have e2:r=val 4294967296 xs % d:=by rw [hv,Int.mul_add_emod_self_left,Int.emod_eq_of_lt hr0 hr1]
   have E2:=Lib.hid e2
   have hcut:=Lib.hid (Bd (some ⟨w.heap.size,0,none⟩) k k _ wr (by omega) (Nat.le_refl _) (by have:=h1.rds;rwa [H2.out] at this))
   have R:=h1.ret (Nat.le_refl _) (by rw [H2.out];omega) h3 _ e1 h4
   obtain ⟨rd,rn,rc,re,ro,rb⟩:=R
   have RE:=Lib.hid re
   clear re e1 e2 hv
   go_wp2_with fail
   refine (hcut.out).mono ?_
   rintro e w' ⟨rfl,rfl⟩
   go_wp2_with fail
   go_ret3
   have re:=RE.out
   injection re with re
   injection re with e1 e2 e3
   refine ⟨rd,rn,rc,?_,ro,rb⟩
   rw [←e1,←e2,←e3,←E2.out]
   rfl
end Go.Proofs.YtbcbmkeeoognpaaGreatDoor
