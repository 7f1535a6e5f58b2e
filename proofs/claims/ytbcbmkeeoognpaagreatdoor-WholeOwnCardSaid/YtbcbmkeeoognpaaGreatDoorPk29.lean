/- Contracts of functions, and plain facts, part 29. -/
import Derived.Test.YtbcbmkeeoognpaaGreatDoorPk18
import Derived.Test.YtbcbmkeeoognpaaGreatDoorPk28
set_option linter.unusedVariables false
set_option linter.unusedSimpArgs false
set_option maxRecDepth 50000
namespace Go.Proofs.YtbcbmkeeoognpaaGreatDoor
open Go Go.RowKit
theorem qfk {g:Option Nat} {N:Int} {v:Value} {w:World} {B:Bx}:(qj g (IsI N)).p v w B↔∃sl,v=.agg #[.bool (decide (N<0)),sl]∧(Ac g (IsC (N.natAbs:Int))).p sl w B:=by
 constructor
 ·rintro ⟨⟨b,sl,e,h⟩,ad,n,c,e2,k,l⟩
  rw [e] at e2
  injection e2 with e2
  have e3:sl=.slice ad n c:=by
   have:=congrArg (fun a:Array Value=>a[1]?) e2
   simpa using this
  have e4:(Value.bool b)=.bool (decide (N<0)):=by
   have:=congrArg (fun a:Array Value=>a[0]?) e2
   simpa using this
  exact ⟨sl,by rw [e,e4],h,ad,n,c,e3,k,l,by omega⟩
 ·rintro ⟨sl,e,h,ad,n,c,e3,k,l,_⟩
  exact ⟨⟨_,sl,e,h⟩,ad,n,c,by rw [e,e3],k,l⟩
theorem Y7 {g g2:Option Nat} {N:Int} (hne:∀b,g2=some b→g≠some b):Kq g (.val (qj g2 (IsI N))):=fun v w w' B b eg hB o r h=>by
 obtain ⟨sl,e,h2⟩:=qfk.1 h
 exact qfk.2 ⟨sl,e,qcb qor hne sl w w' B b eg hB o r h2⟩
theorem qg3 {g:Option Nat} {lo:Nat} {N:Int} (hg:∀b,g=some b→b<lo):Kq g (.val (qo lo (IsI N))):=fun v w w' B b eg hB o r ⟨g2,h1,h2⟩=>by
 refine ⟨g2,h1,Y7 (N:=N) (fun x hx e=>?_) v w w' B b eg hB o r h2⟩
 have:=h1 x hx
 have:=hg x e
 omega
theorem qg1 {Bs lo:Nat} {N:Int}:Iw Bs (.val (qo lo (IsI N))):=fun v w w' B b hbs hb k ⟨g2,h1,h2⟩=>⟨g2,h1,Q7 (Bs:=Bs) (N:=N) v w w' B b hbs hb k h2⟩
theorem vw {Bs:Nat} {gs:List (Option Nat)} {Xs:List Int}:Iw Bs (.val (T10 gs Xs)):=fun v w w' B b hbs hb k ⟨l,hl,e,h⟩=>⟨l,hl,e,fun j p hj=>Q7 (Bs:=Bs) _ w w' B b hbs hb k (h j p hj)⟩
theorem Ig {Bs lo:Nat} {Xs:List Int}:Iw Bs (.val (xq lo Xs)):=fun v w w' B b hbs hb k ⟨l,hl,e,h⟩=>⟨l,hl,e,fun j p hj=>qg1 (Bs:=Bs) _ w w' B b hbs hb k (h j p hj)⟩
theorem I5 {g:Option Nat} {gs:List (Option Nat)} {Xs:List Int} (hne:∀j b,gs.getD j none=some b→g≠some b):Kq g (.val (T10 gs Xs)):=fun v w w' B b eg hB o r ⟨l,hl,e,h⟩=>⟨l,hl,e,fun j p hj=>Y7 (hne j) _ w w' B b eg hB o r (h j p hj)⟩
theorem Y6 {g:Option Nat} {lo:Nat} {Xs:List Int} (hg:∀b,g=some b→b<lo):Kq g (.val (xq lo Xs)):=fun v w w' B b eg hB o r ⟨l,hl,e,h⟩=>⟨l,hl,e,fun j p hj=>qg3 hg _ w w' B b eg hB o r (h j p hj)⟩
theorem qmu {lo:Nat} {gs:List (Option Nat)} {Xs:List Int} (hl:gs.length=10) (hlo:∀j b,gs.getD j none=some b→lo≤b) (hap:∀i j b,i<10→j<10→i≠j→gs.getD i none=some b→gs.getD j none≠some b) (v:Value) (w:World) (B:Bx) (h:(T10 gs Xs).p v w B):(Gt lo Xs).p v w B:=by
 refine ⟨gs,⟨hl,fun j b hb=>⟨hlo j b hb,?_⟩,hap⟩,h⟩
 obtain ⟨l,h1,e,h2⟩:=h
 have hj:j<10:=by
  rcases Nat.lt_or_ge j 10 with h | h
  ·exact h
  ·rw [List.getD_eq_getElem?_getD,List.getElem?_eq_none (by omega)] at hb;cases hb
 exact (h2 j _ (List.getElem?_eq_getElem (by omega))).1.lt b hb
theorem qme {g0 g1 g2 g3 g4 g5 g6 g7 g8 g9:Option Nat} {X0 X1 X2 X3 X4 X5 X6 X7 X8 X9:Int} (v:Value) (w:World) (B:Bx)
  (h:(jb (lst [qj g0 (IsI X0),qj g1 (IsI X1),qj g2 (IsI X2),qj g3 (IsI X3),qj g4 (IsI X4),qj g5 (IsI X5),qj g6 (IsI X6),qj g7 (IsI X7),qj g8 (IsI X8),qj g9 (IsI X9)])).p v w B) :
  (T10 [g0,g1,g2,g3,g4,g5,g6,g7,g8,g9] [X0,X1,X2,X3,X4,X5,X6,X7,X8,X9]).p v w B:=
 qa1 (fun j hj v w B h=>by
  rcases j with _ | _ | _ | _ | _ | _ | _ | _ | _ | _ | j
  iterate 10 exact h
  omega) v w B h
theorem qkh {lo:Nat} {X0 X1 X2 X3 X4 X5 X6 X7 X8 X9:Int} (v:Value) (w:World) (B:Bx)
  (h:(jb (lst [qo lo (IsI X0),qo lo (IsI X1),qo lo (IsI X2),qo lo (IsI X3),qo lo (IsI X4),qo lo (IsI X5),qo lo (IsI X6),qo lo (IsI X7),qo lo (IsI X8),qo lo (IsI X9)])).p v w B) :
  (xq lo [X0,X1,X2,X3,X4,X5,X6,X7,X8,X9]).p v w B:=
 qa1 (fun j hj v w B h=>by
  rcases j with _ | _ | _ | _ | _ | _ | _ | _ | _ | _ | j
  iterate 10 exact h
  omega) v w B h
theorem Apt.notin {lo m:Nat} {gs:List (Option Nat)} (h:Apt lo m gs) {j b:Nat} (hj:j<10) (hb:gs.getD j none=some b):some b ∉ (gs.take j).reverse:=by
 intro hm
 rw [List.mem_reverse] at hm
 obtain ⟨i,hi,e⟩:=List.getElem_of_mem hm
 rw [List.length_take] at hi
 rw [List.getElem_take] at e
 refine h.ap i j b (by omega) hj (by omega) ?_ hb
 rw [List.getD_eq_getElem?_getD,List.getElem?_eq_getElem (by omega),e]
 rfl
theorem Apt.mem {lo m:Nat} {gs:List (Option Nat)} (h:Apt lo m gs) {b:Nat} (hm:some b∈gs):lo≤b∧b<m:=by
 obtain ⟨i,hi,e⟩:=List.getElem_of_mem hm
 refine h.lo i b ?_
 rw [List.getD_eq_getElem?_getD,List.getElem?_eq_getElem hi,e]
 rfl
theorem qev (gs ex:List (Option Nat)) (j:Nat) (h:j<gs.length):gs.getD j none :: ((gs.take j).reverse++ex)=(gs.take (j+1)).reverse++ex:=by
 rw [List.take_add_one,List.getElem?_eq_getElem h,List.reverse_append]
 simp [List.getD_eq_getElem?_getD,List.getElem?_eq_getElem h]
theorem qga {Bs:Nat} {Ow:Nat→Prop} {lo hi c c':Nat} {ex ex':List (Option Nat)} (hc:c≤c') (he:ex=ex') {w:World} {B:Bx} (v:Value) (h:(x9 Bs Ow lo hi ex c).p v w B):(x9 Bs Ow lo hi ex' c').p v w B:=by
 subst he
 obtain ⟨rv,L,e,h1,h2⟩:=h
 exact ⟨rv,L,e,by omega,h2⟩
theorem qb9 {gs:List (Option Nat)} {Xs:List Int} (hl:gs.length=10) (u:Value) (w:World) (B:Bx) (h:(T10 gs Xs).p u w B) (j x:Nat) (hx:gs.getD j none=some x):x<w.heap.size∧¬B x:=by
 obtain ⟨l,h1,e,h2⟩:=h
 have hj:j<10:=by
  rcases Nat.lt_or_ge j 10 with h | h
  ·exact h
  ·rw [List.getD_eq_getElem?_getD,List.getElem?_eq_none (by omega)] at hx;cases hx
 have h3:=(h2 j _ (List.getElem?_eq_getElem (by omega))).1
 refine ⟨h3.lt x hx,?_⟩
 obtain ⟨b,sl,_,ad,n,c,_,_,_,_,k4,k5⟩:=h3
 by_cases hc:0<c
 ·obtain ⟨y,cs,f1,f2,f3,_⟩:=k5 hc
  rw [hx] at f1
  have f1:x=y:=by injection f1
  subst f1
  exact f3
 ·rw [k4 (by omega)] at hx;cases hx
theorem qg8 {gs ex:List (Option Nat)} {k:Nat} {x:Nat} (h:some x∈(gs.take k).reverse++ex):some x∈ex∨some x∈gs:=by
 rcases List.mem_append.1 h with h | h
 ·exact .inr (List.mem_of_mem_take (List.mem_reverse.1 h))
 ·exact .inl h
section
variable {need:List (Tmp × FD)} {d:Option Tmp} {ty:TypeId} {pos:String} {af:Array Edge} {g:Option (Nat × Bool)} {x y:Operand}
theorem Sl {Xs:List Int} (j:Nat) (hj:j<10) (h:Opd need x (.ptr 76 20 (G7 Xs) (2*j))):jo Tryz.prog ⟨d,.load 52 x,ty,pos,af,g⟩ need (.val (IsI (Xs.getD j 0))) false:=Zd (Ds:=fun j=>IsI (Xs.getD j 0)) hj h
theorem qcl {gs:List (Option Nat)} {Xs:List Int} (j:Nat) (hj:j<10) (h:Opd need x (.ptr 76 20 (T10 gs Xs) (2*j))):jo Tryz.prog ⟨d,.load 52 x,ty,pos,af,g⟩ need (.val (qj (gs.getD j none) (IsI (Xs.getD j 0)))) false:=Zd (Ds:=fun j=>qj (gs.getD j none) (IsI (Xs.getD j 0))) hj h
end
end Go.Proofs.YtbcbmkeeoognpaaGreatDoor
