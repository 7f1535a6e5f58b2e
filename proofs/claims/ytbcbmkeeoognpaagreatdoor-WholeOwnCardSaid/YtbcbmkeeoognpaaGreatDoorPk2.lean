/- Contracts of functions, and plain facts, part 2. -/
import Derived.Test.YtbcbmkeeoognpaaGreatDoorProg
import Derived.Deep.QuietTactic
import Derived.BigQuiet
import Derived.Test.YtbcbmkeeoognpaaGreatDoorPk1
set_option linter.unusedVariables false
set_option linter.unusedSimpArgs false
namespace Go.Proofs.YtbcbmkeeoognpaaGreatDoor
open Go Go.RowKit
abbrev Bx:=Nat→Prop
def Plain (w:World) (k:Nat):Prop:=∀(a:Addr) (ik:IntKind) (x:Int),a.block=k→(ik=.u32∨ik=.u8)→w.cell? a≠some (.int ik x)
structure Mv (w:World) (B:Bx) (w':World) (B':Bx):Prop where
 size:w.heap.size≤w'.heap.size
 same:∀k,k<w.heap.size→w'.heap[k]?=w.heap[k]?∨(B k∧Plain w k)
 box:∀k,k<w.heap.size→B' k→B k
structure Bl (w:World) (B:Bx) (w':World) (B':Bx):Prop where
 size:w.heap.size≤w'.heap.size
 same:∀k,k<w.heap.size→w'.heap[k]?=w.heap[k]?
 box:∀k,k<w.heap.size→(B' k↔B k)
theorem Bl.mv {w w':World} {B B':Bx} (h:Bl w B w' B'):Mv w B w' B':=⟨h.size,fun k hk=>.inl (h.same k hk),fun k hk=>(h.box k hk).1⟩
theorem Bl.refl (w:World) (B:Bx):Bl w B w B:=⟨Nat.le_refl _,fun _ _=>rfl,fun _ _=>Iff.rfl⟩
theorem Bl.trans {w w1 w2:World} {B B1 B2:Bx} (h:Bl w B w1 B1) (k:Bl w1 B1 w2 B2):Bl w B w2 B2:=
 ⟨Nat.le_trans h.size k.size,fun i hi=>(k.same i (Nat.lt_of_lt_of_le hi h.size)).trans (h.same i hi),fun i hi=>(k.box i (Nat.lt_of_lt_of_le hi h.size)).trans (h.box i hi)⟩
theorem Bl.of_below {w w':World} (B:Bx) (h:Below w.heap.size w w'):Bl w B w' B:=⟨h.size,h.block,fun _ _=>Iff.rfl⟩
theorem Mv.shrink {w:World} {B B':Bx} (h:∀k,B' k→B k):Mv w B w B':=⟨Nat.le_refl _,fun _ _=>.inl rfl,fun k _=>h k⟩
structure VP where
 p:Value→World→Bx→Prop
 st:∀v w B w' B',Mv w B w' B'→p v w B→p v w' B'
def VP.top:VP:=⟨fun _ _ _=>True,fun _ _ _ _ _ _ h=>h⟩
def qnk (t:TypeId) (n:Nat) (D:VP) (v:Value) (w:World) (B:Bx):Prop:=
 ∃b cs,v=.pointer (some ⟨b,0,none⟩)∧B b∧b<w.heap.size∧w.heap[b]?=some (.cells cs t (0,0))∧cs.size=n∧D.p (.agg cs) w B
def qo4 (t:TypeId) (n:Nat) (D:VP) (off:Nat) (v:Value) (w:World) (B:Bx):Prop:=
 ∃b cs,v=.pointer (some ⟨b,off,none⟩)∧B b∧b<w.heap.size∧w.heap[b]?=some (.cells cs t (0,0))∧cs.size=n∧D.p (.agg cs) w B
inductive FD where
 | val (D:VP)
 | box (t:TypeId) (n:Nat) (D:VP)
 | ptr (t:TypeId) (n:Nat) (D:VP) (off:Nat)
def FD.p:FD→Value→World→Bx→Prop
 | .val D=>D.p
 | .box t n D=>qnk t n D
 | .ptr t n D off=>qo4 t n D off
theorem FD.st (f:FD) {v:Value} {w w':World} {B B':Bx} (h:Bl w B w' B') (hp:f.p v w B):f.p v w' B':=by
 cases f with
 | val D=>exact D.st _ _ _ _ _ h.mv hp
 | box t n D=>
  obtain ⟨b,cs,h1,h2,h3,h4,h5,h6⟩:=hp
  exact ⟨b,cs,h1,(h.box b h3).2 h2,Nat.lt_of_lt_of_le h3 h.size,(h.same b h3).trans h4,h5,D.st _ _ _ _ _ h.mv h6⟩
 | ptr t n D off=>
  obtain ⟨b,cs,h1,h2,h3,h4,h5,h6⟩:=hp
  exact ⟨b,cs,h1,(h.box b h3).2 h2,Nat.lt_of_lt_of_le h3 h.size,(h.same b h3).trans h4,h5,D.st _ _ _ _ _ h.mv h6⟩
def Fct (a:Act) (w:World) (B:Bx):List (Tmp × FD)→Prop
 | []=>True
 | x :: l=>x.2.p (a.tmps.getD x.1 undef) w B∧Fct a w B l
theorem Fct.of_all {a:Act} {w:World} {B:Bx}:∀ {l:List (Tmp × FD)},(∀x∈l,x.2.p (a.tmps.getD x.1 undef) w B)→Fct a w B l
 | [],_=>trivial
 | x :: l,h=>⟨h x (List.mem_cons_self ..),Fct.of_all fun y hy=>h y (List.mem_cons_of_mem _ hy)⟩
theorem Fct.all {a:Act} {w:World} {B:Bx}:∀ {l:List (Tmp × FD)},Fct a w B l→∀x∈l,x.2.p (a.tmps.getD x.1 undef) w B
 | [],_,x,hx=>by cases hx
 | y :: l,h,x,hx=>by
  rcases List.mem_cons.1 hx with rfl | hx
  ·exact h.1
  ·exact Fct.all h.2 x hx
theorem Fct.get {a:Act} {w:World} {B:Bx} {l:List (Tmp × FD)} (h:Fct a w B l) (i:Nat) {s:Tmp} {f:FD} (hi:l[i]?=some (s,f)):f.p (a.tmps.getD s undef) w B:=
 h.all (s,f) (List.mem_of_getElem? hi)
def Hz (B:Bx) (w:World):Prop:=∀k,B k→k<w.heap.size
def jo (P:Program) (o:Oper) (need:List (Tmp × FD)) (post:FD) (al:Bool):Prop:=
 ∀(Q:Exit→Act→World→Prop) (K:Act→World→Prop) (a:Act) (w:World) (B:Bx),Hz B w→Fct a w B need →
  (∀v w' B',post.p v w' B'→Bl w B w' B'→Below w.heap.size w w'→Hz B' w'→(al=true→∃b,v=.pointer (some ⟨b,0,none⟩)∧w.heap.size≤b∧b<w'.heap.size)→K (a.put o.dst v) w') →
  o.wp P a w K Q
def Eo (P:Program) (ops:Array Oper) (o:Oper) (need:List (Tmp × FD)) (post:FD) (al:Bool):Prop:=
 ∀(Q:Exit→Act→World→Prop) (K:Act→World→Prop) (i:Nat) (a:Act) (w:World) (B:Bx),ops[i]?=some o→Hz B w→Fct a w B need →
  (∀v w' B',post.p v w' B'→Bl w B w' B'→Below w.heap.size w w'→Hz B' w'→(al=true→∃b,v=.pointer (some ⟨b,0,none⟩)∧w.heap.size≤b∧b<w'.heap.size)→K (a.put o.dst v) w') →
  wpOp P ops Q i K a w
def Lit (u:Value):VP:=⟨fun v _ _=>v=u,fun _ _ _ _ _ _ h=>h⟩
abbrev IsB (b:Bool):VP:=Lit (.bool b)
abbrev xk:VP:=Lit undef
theorem Eo.plain {P:Program} {ops:Array Oper} {o:Oper} {need:List (Tmp × FD)} {post:FD} {al:Bool} (hg:o.guard=none) (h:jo P o need post al):Eo P ops o need post al:=by
 intro Q K i a w B ho hB hF hK
 unfold wpOp
 simp only [ho]
 rw [if_pos (by simp [Region.wanted,hg])]
 exact .inl (h Q K a w B hB hF hK)
theorem Jw {ops:Array Oper} {a:Act} {g:Nat} {og:Oper} {s:Tmp} {b:Bool} (hg:ops[g]?=some og) (hd:og.dst=some s) (hv:a.tmps.getD s undef=.bool b):yielded ops a.tmps g=some b:=by
 unfold yielded
 have h2:a.tmps[s]?=some (.bool b):=by
  rw [Array.getD_eq_getD_getElem?] at hv
  cases h3:a.tmps[s]? with
  | none=>rw [h3] at hv;exact absurd hv (by simp [undef])
  | some v=>rw [h3] at hv;simpa using hv
 simp [hg,hd,h2]
theorem Eo.wanted {P:Program} {ops:Array Oper} {o:Oper} {need:List (Tmp × FD)} {post:FD} {al:Bool} (g:Nat) (b:Bool) {og:Oper} {s:Tmp} (hg:o.guard=some (g,b)) (hog:ops[g]?=some og) (hd:og.dst=some s)
  (k:Nat) (hk:need[k]?=some (s,.val (IsB b))) (h:jo P o need post al):Eo P ops o need post al:=by
 intro Q K i a w B ho hB hF hK
 have hv:a.tmps.getD s undef=.bool b:=hF.get k hk
 unfold wpOp
 simp only [ho]
 rw [if_pos (by simp [Region.wanted,hg,Jw hog hd hv])]
 exact .inl (h Q K a w B hB hF hK)
theorem Eo.unwanted {P:Program} {ops:Array Oper} {o:Oper} {need:List (Tmp × FD)} (g:Nat) (b:Bool) {og:Oper} {s:Tmp} (hg:o.guard=some (g,b)) (hog:ops[g]?=some og) (hd:og.dst=some s)
  (k:Nat) (hk:need[k]?=some (s,.val (IsB (!b)))):Eo P ops o need (.val xk) false:=by
 intro Q K i a w B ho hB hF hK
 have hv:a.tmps.getD s undef=.bool (!b):=hF.get k hk
 unfold wpOp
 simp only [ho]
 rw [if_neg (by simp [Region.wanted,hg,Jw hog hd hv])]
 exact hK undef w B rfl (Bl.refl _ _) (Below.refl _ _) hB (by simp)
theorem Eo.unasked {P:Program} {ops:Array Oper} {o:Oper} {need:List (Tmp × FD)} (g:Nat) (b:Bool) {og:Oper} {s:Tmp} (hg:o.guard=some (g,b)) (hog:ops[g]?=some og) (hd:og.dst=some s)
  (k:Nat) (hk:need[k]?=some (s,.val xk)):Eo P ops o need (.val xk) false:=by
 intro Q K i a w B ho hB hF hK
 have hv:a.tmps.getD s undef=undef:=hF.get k hk
 have hy:yielded ops a.tmps g=none:=by
  unfold yielded
  have h2:a.tmps[s]?=some undef∨a.tmps[s]?=none:=by
   rw [Array.getD_eq_getD_getElem?] at hv
   cases h3:a.tmps[s]? with
   | none=>exact .inr rfl
   | some v=>rw [h3] at hv;exact .inl (by simpa using hv)
  rcases h2 with h2 | h2 <;> simp [hog,hd,h2,undef]
 unfold wpOp
 simp only [ho]
 rw [if_neg (by simp [Region.wanted,hg,hy])]
 exact hK undef w B rfl (Bl.refl _ _) (Below.refl _ _) hB (by simp)
inductive Ref where
 | pre (k:Nat)
 | res (j:Nat)
def Ai (dsts:List (Option Tmp)) (posts:List FD) (pre:List (Tmp × FD)):Ref→Tmp × FD
 | .pre k=>pre.getD k (0,.val VP.top)
 | .res j=>((dsts.getD j none).getD 0,posts.getD j (.val VP.top))
inductive Je (P:Program) (ops:Array Oper) (look:Ref→Tmp × FD):List Oper→List (List Ref)→List FD→List Bool→Prop where
 | nil {os:List Oper}:Je P ops look os [] [] []
 | cons {o:Oper} {r:List Ref} {D:FD} {al:Bool} {os:List Oper} {rs:List (List Ref)} {Ds:List FD} {als:List Bool} (h:Eo P ops o (r.map look) D al) (t:Je P ops look os rs Ds als):Je P ops look (o :: os) (r :: rs) (D :: Ds) (al :: als)
theorem Je.get {P:Program} {ops:Array Oper} {look:Ref→Tmp × FD} {os:List Oper} {rs:List (List Ref)} {Ds:List FD} {als:List Bool} (h:Je P ops look os rs Ds als) :
  ∀i,i<rs.length→∃o,os[i]?=some o∧Eo P ops o ((rs.getD i []).map look) (Ds.getD i (.val VP.top)) (als.getD i false):=by
 induction h with
 | nil=>intro i hi;simp at hi
 | cons h t ih=>
  intro i hi
  cases i with
  | zero=>exact ⟨_,rfl,h⟩
  | succ i=>
   obtain ⟨o,h1,h2⟩:=ih i (by simpa using hi)
   exact ⟨o,by simpa using h1,by simpa using h2⟩
def direct (md:Region.Mode) (ops:Array Oper) (i j:Nat):Bool:=match ops[i]? with
 | none=>false
 | some o=>o.after.any fun e=>e.on == j && Region.binds md e
theorem Fe {md:Region.Mode} {ops:Array Oper} {l:Array Bool} {i j:Nat} {o:Oper} (ho:ops[i]?=some o) (hd:∀e∈o.after,Region.binds md e=true→l.getD e.on false=true) (h:direct md ops i j=true):l.getD j false=true:=by
 unfold direct at h
 rw [ho] at h
 obtain ⟨e,he,hb⟩:=Array.any_eq_true'.1 h
 simp only [Bool.and_eq_true,beq_iff_eq] at hb
 rw [←hb.1]
 exact hd e he hb.2
def Zz (md:Region.Mode) (acc:List Nat) (es:List Edge):Nat:=es.foldl (fun s e=>if Region.binds md e then s ||| (1 <<< e.on) ||| acc.getD e.on 0 else s) 0
def Z5 (md:Region.Mode):List Oper→List Nat→List Nat
 | [],acc=>acc
 | o :: os,acc=>Z5 md os (acc++[Zz md acc o.after.toList])
theorem qjy {md:Region.Mode} {acc:List Nat} {j:Nat} (es:List Edge):∀s:Nat,(es.foldl (fun s e=>if Region.binds md e then s ||| (1 <<< e.on) ||| acc.getD e.on 0 else s) s).testBit j=true→s.testBit j=true∨∃e∈es,Region.binds md e=true∧(e.on=j∨(acc.getD e.on 0).testBit j=true):=by
 induction es with
 | nil=>intro s h;exact .inl h
 | cons e es ih=>
  intro s h
  rw [List.foldl_cons] at h
  rcases ih _ h with h2 | ⟨x,hx,h2⟩
  ·by_cases hb:Region.binds md e=true
   ·rw [if_pos hb,Nat.testBit_or,Nat.testBit_or,Bool.or_eq_true,Bool.or_eq_true] at h2
    rcases h2 with (h2 | h2) | h2
    ·exact .inl h2
    ·refine .inr ⟨e,List.mem_cons_self ..,hb,.inl ?_⟩
     rw [Nat.one_shiftLeft,Nat.testBit_two_pow] at h2
     simpa using h2
    ·exact .inr ⟨e,List.mem_cons_self ..,hb,.inr h2⟩
   ·rw [if_neg hb] at h2;exact .inl h2
  ·exact .inr ⟨x,List.mem_cons_of_mem _ hx,h2⟩
theorem qbf {md:Region.Mode} {ops:Array Oper} {l:Array Bool} (hc:∀j o,ops[j]?=some o→l.getD j false=true→∀e∈o.after,Region.binds md e=true→l.getD e.on false=true) :
  ∀(os:List Oper) (acc:List Nat),(∀(k:Nat) (o:Oper),os[k]?=some o→ops[acc.length+k]?=some o)→(∀(k m:Nat),acc[k]?=some m→(∀o:Oper,ops[k]?=some o→∀e∈o.after,Region.binds md e=true→l.getD e.on false=true)→∀j,m.testBit j=true→l.getD j false=true)→(∀k:Nat,k<acc.length→(ops[k]?).isSome=true) →
   ∀(k m:Nat),(Z5 md os acc)[k]?=some m→(∀o:Oper,ops[k]?=some o→∀e∈o.after,Region.binds md e=true→l.getD e.on false=true)→∀j,m.testBit j=true→l.getD j false=true:=by
 intro os
 induction os with
 | nil=>intro acc _ h _;exact h
 | cons o os ih=>
  intro acc hos h hs
  have ho:ops[acc.length]?=some o:=hos 0 o rfl
  refine ih (acc++[Zz md acc o.after.toList]) (fun k o2 hk=>?_) (fun k m hk hg j hj=>?_) (fun k hk=>?_)
  ·have:=hos (k+1) o2 (by simpa using hk)
   rw [List.length_append,List.length_singleton,Nat.add_assoc,Nat.add_comm 1 k]
   exact this
  ·rcases Nat.lt_or_ge k acc.length with h1 | h1
   ·rw [List.getElem?_append_left h1] at hk
    exact h k m hk hg j hj
   ·rw [List.getElem?_append_right h1] at hk
    have hk0:k-acc.length=0:=by
     rcases Nat.eq_zero_or_pos (k-acc.length) with h2 | h2
     ·exact h2
     ·rw [List.getElem?_eq_none (by simp;omega)] at hk;cases hk
    have hka:k=acc.length:=by omega
    rw [hk0] at hk
    simp only [List.getElem?_cons_zero,Option.some.injEq] at hk
    subst hk hka
    unfold Zz at hj
    rcases qjy _ _ hj with h2 | ⟨e,he,hb,h2⟩
    ·simp at h2
    ·have hl:=hg o ho e (by simpa using he) hb
     rcases h2 with h2 | h2
     ·rw [←h2];exact hl
     ·rw [List.getD_eq_getElem?_getD] at h2
      cases hm:acc[e.on]? with
      | none=>rw [hm] at h2;simp at h2
      | some m2=>
       rw [hm] at h2
       exact h e.on m2 hm (fun o2 ho2 e2 he2 hb2=>hc e.on o2 ho2 hl e2 he2 hb2) j (by simpa using h2)
  ·rcases Nat.lt_or_ge k acc.length with h1 | h1
   ·exact hs k h1
   ·have:k=acc.length:=by simp at hk;omega
    subst this
    rw [ho];rfl
theorem Jl {md:Region.Mode} {ops:Array Oper} {l:Array Bool} (hc:∀j o,ops[j]?=some o→l.getD j false=true→∀e∈o.after,Region.binds md e=true→l.getD e.on false=true) {i j:Nat} {o:Oper} (ho:ops[i]?=some o) (hd:∀e∈o.after,Region.binds md e=true→l.getD e.on false=true)
  (h:((Z5 md ops.toList []).getD i 0).testBit j=true):l.getD j false=true:=by
 rw [List.getD_eq_getElem?_getD] at h
 cases hm:(Z5 md ops.toList [])[i]? with
 | none=>rw [hm] at h;simp at h
 | some m=>
  rw [hm] at h
  refine qbf hc ops.toList [] (fun k o hk=>?_) (fun k m hk=>by simp at hk) (fun k hk=>by simp at hk) i m hm (fun o2 ho2=>by rw [ho] at ho2;injection ho2 with ho2;subst ho2;exact hd) j (by simpa using h)
  simpa using hk
def Jz (tl:Bool) (md:Region.Mode) (ops:Array Oper) (m:Nat):Bool:=
 decide (m≤ops.size) && (List.range ops.size).all fun i=>match ops[i]? with
  | none=>false
  | some o=>if i<m then o.after.all (fun e=>!Region.binds md e || decide (e.on<i)) else !tl || (List.range m).all fun j=>((Z5 md ops.toList []).getD i 0).testBit j
def J5 (md:Region.Mode) (ops:Array Oper) (m:Nat) (dsts:List (Option Tmp)) (pres:List Tmp) (i:Option Nat):Ref→Bool
 | .pre k=>match pres[k]? with
  | some s=>!dsts.contains (some s)
  | none=>false
 | .res j=>decide (j<m) && (dsts.getD j none).isSome && (match i with
  | some i=>direct md ops i j
  | none=>true)
def distinct:List (Option Tmp)→Bool
 | []=>true
 | none :: l=>distinct l
 | some d :: l=>!l.contains (some d) && distinct l
def Eg (tl:Bool) (md:Region.Mode) (ops:Array Oper) (m N:Nat) (dsts:List (Option Tmp)) (pres bxs:List Tmp) (refs:List (List Ref)) (outs:List Ref) (als:List Bool):Bool:=
 Jz tl md ops m && decide (dsts.length=m) && decide (refs.length=m) && decide (als.length=m) &&
 ((List.range m).all fun i=>match ops[i]? with
  | some o=>decide (o.dst=dsts.getD i none)
  | none=>false) &&
 distinct dsts && (dsts.all fun d=>match d with
  | some d=>decide (d<N)
  | none=>true) &&
 ((List.range m).all fun i=>(refs.getD i []).all (J5 md ops m dsts pres (some i))) && outs.all (J5 md ops m dsts pres none) &&
 ((List.range m).all fun i=>!als.getD i false || (dsts.getD i none).isSome) && bxs.all fun s=>!dsts.contains (some s)
theorem jv {dsts:List (Option Tmp)} (h:distinct dsts=true):∀i j d,dsts.getD i none=some d→dsts.getD j none=some d→i=j:=by
 induction dsts with
 | nil=>intro i j d hi;simp at hi
 | cons x l ih=>
  intro i j d hi hj
  have aux:∀(l:List (Option Tmp)) (k:Nat),l.getD k none=some d→l.contains (some d)=true:=by
   intro l k hk
   rw [List.contains_iff_mem]
   rw [List.getD_eq_getElem?_getD] at hk
   cases h2:l[k]? with
   | none=>rw [h2] at hk;cases hk
   | some y=>rw [h2] at hk;simp at hk;subst hk;exact List.mem_of_getElem? h2
  cases x with
  | none=>
   cases i with
   | zero=>simp at hi
   | succ i=>
    cases j with
    | zero=>simp at hj
    | succ j=>rw [ih (by simpa [distinct] using h) i j d (by simpa using hi) (by simpa using hj)]
  | some e=>
   simp only [distinct,Bool.and_eq_true,Bool.not_eq_true'] at h
   cases i with
   | zero=>
    cases j with
    | zero=>rfl
    | succ j=>
     simp at hi
     subst hi
     have:=aux l j (by simpa using hj)
     rw [h.1] at this;cases this
   | succ i=>
    cases j with
    | zero=>
     simp at hj
     subst hj
     have:=aux l i (by simpa using hi)
     rw [h.1] at this;cases this
    | succ j=>rw [ih h.2 i j d (by simpa using hi) (by simpa using hj)]
structure St (N:Nat) (w0:World) (B0:Bx) (a:Act) (w:World) (B:Bx) (l:List (Tmp × FD)) (bxs:List Tmp):Prop where
 df:a.defers=[]
 sz:a.tmps.size=N
 fc:Fct a w B l
 bx:∀s∈bxs,∃b,a.tmps.getD s undef=.pointer (some ⟨b,0,none⟩)∧b<w.heap.size∧w0.heap.size≤b
 ap:∀s∈bxs,∀t∈bxs,s≠t→a.tmps.getD s undef≠a.tmps.getD t undef
 bel:Below w0.heap.size w0 w
 own:Hz B w
 own0:∀k,B0 k→B k
theorem St.drew {N:Nat} {w0:World} {B0:Bx} {a:Act} {w:World} {B:Bx} {l:List (Tmp × FD)} {bxs:List Tmp} (h:St N w0 B0 a w B l bxs):St N w0 B0 a w.drew B l bxs:=by
 have hb:Bl w B w.drew B:=⟨Nat.le_refl _,fun _ _=>rfl,fun _ _=>Iff.rfl⟩
 exact ⟨h.df,h.sz,Fct.of_all fun x hx=>x.2.st hb (h.fc.all x hx),h.bx,h.ap,Dv h.bel,h.own,h.own0⟩
theorem St.pick {N:Nat} {w0:World} {B0:Bx} {a:Act} {w:World} {B:Bx} {l:List (Tmp × FD)} {bxs:List Tmp} (h:St N w0 B0 a w B l bxs) (is:List Nat) {l':List (Tmp × FD)} (he:is.map (fun i=>l[i]?)=l'.map some):St N w0 B0 a w B l' bxs:=by
 refine ⟨h.df,h.sz,Fct.of_all fun x hx=>?_,h.bx,h.ap,h.bel,h.own,h.own0⟩
 have h2:some x∈is.map (fun i=>l[i]?):=by rw [he];exact List.mem_map.2 ⟨x,hx,rfl⟩
 obtain ⟨i,_,hi⟩:=List.mem_map.1 h2
 exact h.fc.all x (List.mem_of_getElem? hi)
section
variable {P:Program} {ops:Array Oper} {Q:Exit→Act→World→Prop} {md:Region.Mode}
structure Jy (md:Region.Mode) (ops:Array Oper) (m:Nat) (dsts:List (Option Tmp)) (posts:List FD) (als:List Bool) (base:Act) (w0:World) (B0:Bx) (l:Array Bool) (a:Act) (w:World) (B:Bx):Prop where
 size:l.size=ops.size
 late:∀j,m≤j→j<ops.size→l.getD j true=false
 closed:∀j o,ops[j]?=some o→l.getD j false=true→∀e∈o.after,Region.binds md e=true→l.getD e.on false=true
 defers:a.defers=base.defers
 tsize:a.tmps.size=base.tmps.size
 rest:∀s,dsts.contains (some s)=false→a.tmps.getD s undef=base.tmps.getD s undef
 fact:∀i d,i<m→dsts.getD i none=some d→l.getD i false=true→(posts.getD i (.val VP.top)).p (a.tmps.getD d undef) w B
 fresh:∀i d,i<m→als.getD i false=true→dsts.getD i none=some d→l.getD i false=true→∃b,a.tmps.getD d undef=.pointer (some ⟨b,0,none⟩)∧w0.heap.size≤b∧b<w.heap.size
 apart:∀i j d e,i<m→j<m→i≠j→als.getD i false=true→als.getD j false=true→dsts.getD i none=some d→dsts.getD j none=some e→l.getD i false=true→l.getD j false=true→a.tmps.getD d undef≠a.tmps.getD e undef
 bl:Bl w0 B0 w B
 below:Below w0.heap.size w0 w
 own:Hz B w
theorem Dc {a:Act} {x:Option Tmp} {s:Tmp} {v:Value} (hx:∀d,x=some d→d<a.tmps.size):(a.put x v).tmps.getD s undef=if x=some s then v else a.tmps.getD s undef:=by
 cases x with
 | none=>simp [Act.put]
 | some d=>
  have:=qj3 (t:=a.tmps) (d:=d) (s:=s) (v:=v) (hx d rfl)
  simp only [Option.some.injEq]
  exact this
theorem Dk {a:Act} {x:Option Tmp} {v:Value}:(a.put x v).tmps.size=a.tmps.size:=by
 cases x with
 | none=>rfl
 | some d=>simp [Act.put]
theorem put_defers {a:Act} {x:Option Tmp} {v:Value}:(a.put x v).defers=a.defers:=by
 cases x <;> rfl
structure Lh (tl:Bool) (md:Region.Mode) (ops:Array Oper) (m N:Nat) (dsts:List (Option Tmp)) (pres bxs:List Tmp) (refs:List (List Ref)) (outs:List Ref) (als:List Bool):Prop where
 core:Jz tl md ops m=true
 ld:dsts.length=m
 lr:refs.length=m
 la:als.length=m
 dst:∀i o,i<m→ops[i]?=some o→o.dst=dsts.getD i none
 dis:distinct dsts=true
 lt:∀i d,dsts.getD i none=some d→d<N
 ref:∀i r,i<m→r∈refs.getD i []→J5 md ops m dsts pres (some i) r=true
 out:∀r,r∈outs→J5 md ops m dsts pres none r=true
 al:∀i,i<m→als.getD i false=true→(dsts.getD i none).isSome=true
 bx:∀s,s∈bxs→dsts.contains (some s)=false
theorem L8 {tl:Bool} {m N:Nat} {dsts:List (Option Tmp)} {pres bxs:List Tmp} {refs:List (List Ref)} {outs:List Ref} {als:List Bool} (h:Eg tl md ops m N dsts pres bxs refs outs als=true):Lh tl md ops m N dsts pres bxs refs outs als:=by
 simp only [Eg,Bool.and_eq_true,decide_eq_true_eq,List.all_eq_true,List.mem_range] at h
 obtain ⟨⟨⟨⟨⟨⟨⟨⟨⟨⟨h1,h2⟩,h3⟩,h4⟩,h5⟩,h6⟩,h7⟩,h8⟩,h9⟩,h10⟩,h11⟩:=h
 refine ⟨h1,h2,h3,h4,fun i o hi ho=>?_,h6,fun i d hd=>?_,fun i r hi hr=>h8 i hi r hr,fun r hr=>h9 r hr,fun i hi ha=>?_,fun s hs=>?_⟩
 ·have:=h5 i hi
  rw [ho] at this
  simpa using this
 ·rw [List.getD_eq_getElem?_getD] at hd
  cases h12:dsts[i]? with
  | none=>rw [h12] at hd;cases hd
  | some y=>
   rw [h12] at hd
   simp at hd
   subst hd
   have:=h7 _ (List.mem_of_getElem? h12)
   simpa using this
 ·have:=h10 i hi
  rw [ha] at this
  simpa using this
 ·have:=h11 s hs
  simpa using this
section
variable {tl:Bool} {m N:Nat} {dsts:List (Option Tmp)} {pres bxs:List Tmp} {refs:List (List Ref)} {outs:List Ref} {als:List Bool} {posts:List FD} {pre:List (Tmp × FD)} {base:Act} {w0:World} {B0:Bx}
theorem Jy.need (C:Lh tl md ops m N dsts pres bxs refs outs als) (hpre:pre.map Prod.fst=pres) (hb:Fct base w0 B0 pre) {l:Array Bool} {a:Act} {w:World} {B:Bx} (h:Jy md ops m dsts posts als base w0 B0 l a w B)
  (r:Ref) (hr:match r with
   | .pre k=>match pres[k]? with
    | some s=>dsts.contains (some s)=false
    | none=>False
   | .res j=>j<m∧(dsts.getD j none).isSome=true∧l.getD j false=true):(Ai dsts posts pre r).2.p (a.tmps.getD (Ai dsts posts pre r).1 undef) w B:=by
 cases r with
 | pre k=>
  simp only at hr
  cases hk:pres[k]? with
  | none=>rw [hk] at hr;exact hr.elim
  | some s=>
   rw [hk] at hr
   simp only at hr
   rw [←hpre,List.getElem?_map] at hk
   cases hp:pre[k]? with
   | none=>rw [hp] at hk;cases hk
   | some x=>
    rw [hp] at hk
    simp at hk
    have e:Ai dsts posts pre (.pre k)=x:=by simp [Ai,List.getD_eq_getElem?_getD,hp]
    rw [e]
    have h1:=hb.all x (List.mem_of_getElem? hp)
    have h2:=h.rest x.1 (by rw [hk];exact hr)
    rw [h2]
    exact x.2.st h.bl h1
 | res j=>
  obtain ⟨h1,h2,h3⟩:=hr
  obtain ⟨d,hd⟩:=Option.isSome_iff_exists.1 h2
  have:=h.fact j d h1 hd h3
  have e:Ai dsts posts pre (.res j)=(d,posts.getD j (.val VP.top)):=by simp only [Ai,hd,Option.getD_some]
  rw [e]
  exact this
theorem Jy.step (C:Lh tl md ops m N dsts pres bxs refs outs als) (hpre:pre.map Prod.fst=pres) (hb:Fct base w0 B0 pre) (hN:base.tmps.size=N)
  (hall:∀i,i<m→∃o,ops[i]?=some o∧Eo P ops o ((refs.getD i []).map (Ai dsts posts pre)) (posts.getD i (.val VP.top)) (als.getD i false))
  {l:Array Bool} {a:Act} {w:World} {B:Bx} (h:Jy md ops m dsts posts als base w0 B0 l a w B) (i:Nat) (hi:i<m) (hun:l.getD i true=false)
  (hdeps:∀o,ops[i]?=some o→∀e∈o.after,Region.binds md e=true→l.getD e.on false=true) :
  wpOp P ops Q i (fun a' w'=>∃B',Jy md ops m dsts posts als base w0 B0 (l.setIfInBounds i true) a' w' B') a w:=by
 obtain ⟨o,ho,hstep⟩:=hall i hi
 have hod:=C.dst i o hi ho
 have hisz:i<ops.size:=(Array.getElem?_eq_some_iff.1 ho).1
 have hdeps:=hdeps o ho
 refine hstep Q _ i a w B ho h.own (Fct.of_all fun x hx=>?_) ?_
 ·obtain ⟨r,hr,rfl⟩:=List.mem_map.1 hx
  have hok:=C.ref i r hi hr
  refine h.need C hpre hb r ?_
  cases r with
  | pre k=>
   simp only [J5] at hok
   cases hs:pres[k]? with
   | none=>rw [hs] at hok;cases hok
   | some s=>rw [hs] at hok;simp only [hs];simpa using hok
  | res j=>
   simp only [J5,Bool.and_eq_true,decide_eq_true_eq] at hok
   exact ⟨hok.1.1,hok.1.2,Fe ho hdeps hok.2⟩
 ·intro v w' B' hp hbl hbel hown hal
  have hds:∀d,o.dst=some d→d<a.tmps.size:=fun d hd=>by
   rw [h.tsize,hN];exact C.lt i d (by rw [←hod];exact hd)
  have hput:∀s,(a.put o.dst v).tmps.getD s undef=if o.dst=some s then v else a.tmps.getD s undef:=fun s=>Dc hds
  have hlset:∀j b,j<ops.size→(l.setIfInBounds i true).getD j b=if i=j then true else l.getD j b:=fun j b hj=>by
   have hil:i<l.size:=by rw [h.size];exact hisz
   rw [Array.getD_eq_getD_getElem?,Array.getD_eq_getD_getElem?,Array.getElem?_setIfInBounds]
   by_cases e:i=j
   ·subst e;simp [hil]
   ·rw [if_neg e,if_neg e]
  have hmono:∀j,l.getD j false=true→(l.setIfInBounds i true).getD j false=true:=fun j hj=>getD_set_true hj
  have hms:m≤ops.size:=by
   have:=C.core
   unfold Jz at this
   simp only [Bool.and_eq_true,decide_eq_true_eq] at this
   exact this.1
  refine ⟨B',by rw [Array.size_setIfInBounds];exact h.size,?_,?_,?_,?_,?_,?_,?_,?_,h.bl.trans hbl,Dw h.below h.below.size hbel,hown⟩
  ·intro j hj1 hj2
   rw [hlset j true hj2,if_neg (by omega)]
   exact h.late j hj1 hj2
  ·intro j o2 ho2 hlj e he hb2
   refine hmono _ ?_
   by_cases e1:i=j
   ·subst e1
    rw [ho] at ho2
    injection ho2 with ho2
    subst ho2
    exact hdeps e he hb2
   ·have hj2:j<ops.size:=(Array.getElem?_eq_some_iff.1 ho2).1
    rw [hlset j false hj2,if_neg e1] at hlj
    exact h.closed j o2 ho2 hlj e he hb2
  ·rw [put_defers];exact h.defers
  ·rw [Dk];exact h.tsize
  ·intro s hs
   rw [hput,if_neg ?_]
   ·exact h.rest s hs
   ·intro e
    rw [hod] at e
    have:dsts.contains (some s)=true:=by
     rw [List.contains_iff_mem]
     rw [List.getD_eq_getElem?_getD] at e
     cases h2:dsts[i]? with
     | none=>rw [h2] at e;cases e
     | some y=>rw [h2] at e;simp at e;subst e;exact List.mem_of_getElem? h2
    rw [hs] at this;cases this
  ·intro j d hj hd hlj
   rw [hlset j false (by omega)] at hlj
   rw [hput]
   by_cases e:i=j
   ·subst e;rw [if_pos (by rw [hod];exact hd)];exact hp
   ·rw [if_neg e] at hlj
    rw [if_neg (fun e2=>e (jv C.dis i j d (by rw [←hod];exact e2) hd))]
    exact FD.st _ hbl (h.fact j d hj hd hlj)
  ·intro j d hj haj hd hlj
   rw [hlset j false (by omega)] at hlj
   rw [hput]
   by_cases e:i=j
   ·subst e
    rw [if_pos (by rw [hod];exact hd)]
    obtain ⟨b,h1,h2,h3⟩:=hal haj
    exact ⟨b,h1,Nat.le_trans h.below.size h2,h3⟩
   ·rw [if_neg e] at hlj
    rw [if_neg (fun e2=>e (jv C.dis i j d (by rw [←hod];exact e2) hd))]
    obtain ⟨b,h1,h2,h3⟩:=h.fresh j d hj haj hd hlj
    exact ⟨b,h1,h2,Nat.lt_of_lt_of_le h3 hbel.size⟩
  ·intro j k d e hj hk hjk aj ak hd he lj lk
   rw [hlset j false (by omega)] at lj
   rw [hlset k false (by omega)] at lk
   rw [hput,hput]
   by_cases e1:i=j
   ·subst e1
    rw [if_neg hjk] at lk
    rw [if_pos (by rw [hod];exact hd),if_neg (fun e2=>hjk (jv C.dis i k e (by rw [←hod];exact e2) he))]
    obtain ⟨b,h1,h2,h3⟩:=hal aj
    obtain ⟨c,g1,g2,g3⟩:=h.fresh k e hk ak he lk
    rw [h1,g1]
    intro e3
    injection e3 with e3;injection e3 with e3;injection e3 with e3
    omega
   ·rw [if_neg e1] at lj
    rw [if_neg (fun e2=>e1 (jv C.dis i j d (by rw [←hod];exact e2) hd))]
    by_cases e2:i=k
    ·subst e2
     rw [if_pos (by rw [hod];exact he)]
     obtain ⟨b,h1,h2,h3⟩:=hal ak
     obtain ⟨c,g1,g2,g3⟩:=h.fresh j d hj aj hd lj
     rw [h1,g1]
     intro e3
     injection e3 with e3;injection e3 with e3;injection e3 with e3
     omega
    ·rw [if_neg e2] at lk
     rw [if_neg (fun e3=>e2 (jv C.dis i k e (by rw [←hod];exact e3) he))]
     exact h.apart j k d e hj hk hjk aj ak hd he lj lk
def Kw (dsts:List (Option Tmp)) (als:List Bool):List Tmp:=(List.range als.length).filterMap fun i=>if als.getD i false then dsts.getD i none else none
theorem Om {s:Tmp} (h:s∈Kw dsts als):∃i,i<als.length∧als.getD i false=true∧dsts.getD i none=some s:=by
 unfold Kw at h
 obtain ⟨i,hi,h2⟩:=List.mem_filterMap.1 h
 rw [List.mem_range] at hi
 by_cases h3:als.getD i false=true
 ·rw [if_pos h3] at h2;exact ⟨i,hi,h3,h2⟩
 ·rw [if_neg h3] at h2;cases h2
theorem Jy.done (C:Lh tl md ops m N dsts pres bxs refs outs als) (hpre:pre.map Prod.fst=pres) {w00:World} {B00:Bx} (H:St N w00 B00 base w0 B0 pre bxs) {out:List (Tmp × FD)} (hout:outs.map (Ai dsts posts pre)=out) {nb:List Tmp} (hnb:Kw dsts als=nb)
  {l:Array Bool} {a:Act} {w:World} {B:Bx} (h:Jy md ops m dsts posts als base w0 B0 l a w B) (hl:∀i,i<m→l.getD i false=true):St N w00 B00 a w B out (nb++bxs):=by
 subst hout hnb
 have old:∀s,s∈bxs→a.tmps.getD s undef=base.tmps.getD s undef:=fun s hs=>h.rest s (C.bx s hs)
 refine ⟨h.defers.trans H.df,h.tsize.trans H.sz,Fct.of_all fun x hx=>?_,fun s hs=>?_,fun s hs t ht hst=>?_,Dw H.bel H.bel.size h.below,h.own,fun k hk=>?_⟩
 ·obtain ⟨r,hr,rfl⟩:=List.mem_map.1 hx
  have hok:=C.out r hr
  refine h.need C hpre H.fc r ?_
  cases r with
  | pre k=>
   simp only [J5] at hok
   cases hs:pres[k]? with
   | none=>rw [hs] at hok;cases hok
   | some s=>rw [hs] at hok;simp only [hs];simpa using hok
  | res j=>
   simp only [J5,Bool.and_eq_true,decide_eq_true_eq] at hok
   exact ⟨hok.1.1,hok.1.2,hl j hok.1.1⟩
 ·rcases List.mem_append.1 hs with hs | hs
  ·obtain ⟨i,h1,h2,h3⟩:=Om hs
   obtain ⟨b,g1,g2,g3⟩:=h.fresh i s (by rw [←C.la];exact h1) h2 h3 (hl i (by rw [←C.la];exact h1))
   exact ⟨b,g1,g3,Nat.le_trans H.bel.size g2⟩
  ·obtain ⟨b,g1,g2,g3⟩:=H.bx s hs
   exact ⟨b,(old s hs).trans g1,Nat.lt_of_lt_of_le g2 h.below.size,g3⟩
 ·have key:∀s t,s∈Kw dsts als→t∈bxs→a.tmps.getD s undef≠a.tmps.getD t undef:=by
   intro s t hs ht
   obtain ⟨i,h1,h2,h3⟩:=Om hs
   obtain ⟨b,g1,g2,g3⟩:=h.fresh i s (by rw [←C.la];exact h1) h2 h3 (hl i (by rw [←C.la];exact h1))
   obtain ⟨c,k1,k2,k3⟩:=H.bx t ht
   rw [g1,(old t ht).trans k1]
   intro e3
   injection e3 with e3;injection e3 with e3;injection e3 with e3
   omega
  rcases List.mem_append.1 hs with hs | hs <;> rcases List.mem_append.1 ht with ht | ht
  ·obtain ⟨i,h1,h2,h3⟩:=Om hs
   obtain ⟨j,k1,k2,k3⟩:=Om ht
   rw [C.la] at h1 k1
   refine h.apart i j s t h1 k1 (fun e=>hst ?_) h2 k2 h3 k3 (hl i h1) (hl j k1)
   subst e;rw [h3] at k3;injection k3
  ·exact key s t hs ht
  ·exact (key t s ht hs).symm
  ·rw [old s hs,old t ht];exact H.ap s hs t ht hst
 ·have h1:=H.own0 k hk
  have h2:=H.own k h1
  exact (h.bl.box k h2).2 h1
theorem Jy.start (H:Hz B0 w0):Jy md ops m dsts posts als base w0 B0 (Array.replicate ops.size false) base w0 B0:=by
 have no:∀i:Nat,(Array.replicate ops.size false).getD i false=false:=fun i=>by
  rw [Array.getD_eq_getD_getElem?,Array.getElem?_replicate];split <;> rfl
 refine ⟨by simp,fun j _ hj=>by simp [hj],fun j o ho hl=>?_,rfl,rfl,fun _ _=>rfl,fun i d _ _ hl=>?_,fun i d _ _ _ hl=>?_,fun i j d e _ _ _ _ _ _ _ hl=>?_,Bl.refl _ _,Below.refl _ _,H⟩ <;> (rw [no] at hl;cases hl)
end
theorem qjw (m:Nat) {N:Nat} {opl:List Oper} {dsts:List (Option Tmp)} {refs:List (List Ref)} {outs:List Ref} {als:List Bool} {posts:List FD} {pre out:List (Tmp × FD)} {bxs nb:List Tmp} {a:Act} {w w0:World} {B B0:Bx} {K:Nat→Array Bool→Prop}
  (H:St N w0 B0 a w B pre bxs)
  (hck:Eg true .any opl.toArray m N dsts (pre.map Prod.fst) bxs refs outs als=true) (hout:outs.map (Ai dsts posts pre)=out) (hnb:Kw dsts als=nb)
  (hall:Je P opl.toArray (Ai dsts posts pre) opl refs posts als)
  (hfull:∀a w B,St N w0 B0 a w B out (nb++bxs)→wpAny P .any opl.toArray Q (Ei (A7 opl.toArray.size m)) (A7 opl.toArray.size m) a w) :
  wpAny P .any opl.toArray Q opl.toArray.size (Array.replicate opl.toArray.size false) a w:=by
 have C:=L8 hck
 have hc:=C.core
 have hallg:=hall.get
 rw [C.lr] at hallg
 simp only [←List.getElem?_toArray] at hallg
 generalize opl.toArray=ops at *
 unfold Jz at hc
 rw [Bool.and_eq_true,decide_eq_true_eq,List.all_eq_true] at hc
 obtain ⟨hm,hc⟩:=hc
 have key:∀l a w B,Jy .any ops m dsts posts als a w B l a w B→True:=fun _ _ _ _ _=>trivial
 have keyf:∀l a1 w1 B1,Jy .any ops m dsts posts als a w B l a1 w1 B1→(∀i,i<m→l.getD i false=true)→l=A7 ops.size m:=by
  intro l a1 w1 B1 h hl
  apply Array.ext
  ·rw [h.size];simp [A7]
  ·intro i h1 h2
   have hi:i<ops.size:=by rw [←h.size];exact h1
   have e:(A7 ops.size m)[i]=decide (i<m):=by simp [A7]
   rw [e]
   by_cases him:i<m
   ·have:=hl i him
    rw [Array.getD_eq_getD_getElem?,Array.getElem?_eq_getElem h1] at this
    rw [decide_eq_true him]
    simpa using this
   ·have:=h.late i (by omega) hi
    rw [Array.getD_eq_getD_getElem?,Array.getElem?_eq_getElem h1] at this
    rw [decide_eq_false him]
    simpa using this
 refine Zm (A7 ops.size m) (fun l a1 w1=>∃B1,Jy .any ops m dsts posts als a w B l a1 w1 B1) ?_ ?_ ?_ ops.size _ a w ?_ ⟨B,Jy.start H.own⟩
 ·rintro l a1 w1 ⟨B1,h⟩ hl
  by_cases hall:∀i,i<m→l.getD i false=true
  ·exact absurd (keyf l a1 w1 B1 h hall) hl
  ·have hex:∃i,i<m∧l.getD i false≠true:=by
    simpa [Classical.not_forall] using hall
   obtain ⟨i,⟨hi,hne⟩,hmin⟩:∃i,(i<m∧l.getD i false≠true)∧∀j,j<i→¬(j<m∧l.getD j false≠true):=Vw _ hex
   have hisz:i<ops.size:=by omega
   have hoi:=hc i (List.mem_range.2 hisz)
   rw [Array.getElem?_eq_getElem hisz] at hoi
   simp only [hi,if_true] at hoi
   have hmem:i∈Region.ready .any ops l:=mem_ready.2 ⟨by
     have hl2:i<l.size:=by rw [h.size];exact hisz
     rw [Array.getD_eq_getD_getElem?,Array.getElem?_eq_getElem hl2] at hne ⊢
     simpa using hne,ops[i],Array.getElem?_eq_getElem hisz,fun e he hbi=>by
     have h1:=Array.all_eq_true_iff_forall_mem.1 hoi e he
     have h2:e.on<i:=by simpa [hbi] using h1
     have h3:=hmin e.on h2
     by_cases h4:l.getD e.on false=true
     ·exact h4
     ·exact absurd ⟨by omega,h4⟩ h3⟩
   intro e
   rw [e] at hmem
   cases hmem
 ·rintro l a1 w1 i ⟨B1,h⟩ hl hi
  obtain ⟨hun,o,ho,hdeps⟩:=mem_ready.1 hi
  have hisz:i<ops.size:=(Array.getElem?_eq_some_iff.1 ho).1
  by_cases him:i<m
  ·exact h.step C rfl H.fc H.sz hallg i him hun (fun o2 ho2=>by rw [ho] at ho2;injection ho2 with ho2;subst ho2;exact hdeps)
  ·exfalso
   have hoi:=hc i (List.mem_range.2 hisz)
   rw [ho] at hoi
   simp only [him,if_false] at hoi
   refine hl (keyf l a1 w1 B1 h fun j hj=>?_)
   rw [Bool.not_true,Bool.false_or] at hoi
   have h1:=List.all_eq_true.1 hoi j (List.mem_range.2 hj)
   exact Jl h.closed ho hdeps h1
 ·rintro a1 w1 ⟨B1,h⟩
  refine hfull a1 w1 B1 (h.done C rfl H hout hnb fun i hi=>?_)
  have:i<ops.size:=by omega
  simp [A7,Array.getD_eq_getD_getElem?,this,hi]
 ·unfold Ei
  simp [List.countP_replicate]
theorem qjx (m:Nat) {N:Nat} {opl:List Oper} {dsts:List (Option Tmp)} {refs:List (List Ref)} {outs:List Ref} {als:List Bool} {posts:List FD} {pre out:List (Tmp × FD)} {bxs nb:List Tmp} {a:Act} {w w0:World} {B B0:Bx} {rest:List Nat}
  (H:St N w0 B0 a w B pre bxs)
  (hck:Eg false .any opl.toArray m N dsts (pre.map Prod.fst) bxs refs outs als=true) (hout:outs.map (Ai dsts posts pre)=out) (hnb:Kw dsts als=nb)
  (hall:Je P opl.toArray (Ai dsts posts pre) opl refs posts als)
  (hfull:∀a w B,St N w0 B0 a w B out (nb++bxs)→wpOps P opl.toArray Q rest a w) :
  wpOps P opl.toArray Q (List.range m++rest) a w:=by
 have C:=L8 hck
 have hc:=C.core
 have hallg:=hall.get
 rw [C.lr] at hallg
 simp only [←List.getElem?_toArray] at hallg
 generalize opl.toArray=ops at *
 unfold Jz at hc
 rw [Bool.and_eq_true,decide_eq_true_eq,List.all_eq_true] at hc
 obtain ⟨hm,hc⟩:=hc
 have main:∀n k l a1 w1 B1,n+k=m→Jy .any ops m dsts posts als a w B l a1 w1 B1→(∀i,i<m→(l.getD i false=true↔i<k))→wpOps P ops Q (List.range' k n++rest) a1 w1:=by
  intro n
  induction n with
  | zero=>
   intro k l a1 w1 B1 hk h hl
   exact hfull a1 w1 B1 (h.done C rfl H hout hnb fun i hi=>(hl i hi).2 (by omega))
  | succ n ih=>
   intro k l a1 w1 B1 hk h hl
   rw [List.range'_succ,List.cons_append,wpOps_cons]
   have hkm:k<m:=by omega
   have hks:k<l.size:=by rw [h.size];omega
   refine wpOp_mono ?_ (h.step C rfl H.fc H.sz hallg k hkm ?_ ?_)
   ·rintro a2 w2 ⟨B2,h2⟩
    refine ih (k+1) _ a2 w2 B2 (by omega) h2 fun i hi=>?_
    rw [Array.getD_eq_getD_getElem?,Array.getElem?_setIfInBounds]
    by_cases e:k=i
    ·subst e;simp [hks]
    ·rw [if_neg e,←Array.getD_eq_getD_getElem?,hl i hi];omega
   ·have:=hl k hkm
    rw [Array.getD_eq_getD_getElem?,Array.getElem?_eq_getElem hks] at this ⊢
    simpa using this
   ·intro o ho e he hb
    have hisz:k<ops.size:=by omega
    have hoi:=hc k (List.mem_range.2 hisz)
    rw [ho] at hoi
    simp only [hkm,if_true] at hoi
    have:=Array.all_eq_true_iff_forall_mem.1 hoi e he
    have h2:e.on<k:=by simpa [hb] using this
    exact (hl e.on (by omega)).2 h2
 have:=main m 0 _ a w B (by omega) (Jy.start H.own) (fun i hi=>by
  rw [Array.getD_eq_getD_getElem?,Array.getElem?_replicate];split <;> simp)
 rwa [←List.range_eq_range'] at this
theorem zf {id:Nat} {N:Nat} {opl:List Oper} {dsts:List (Option Tmp)} {refs:List (List Ref)} {outs:List Ref} {als:List Bool} {posts:List FD} {pre out:List (Tmp × FD)} {bxs nb:List Tmp} {a:Act} {w w0:World} {B B0:Bx} (H:St N w0 B0 a w B pre bxs)
  (m:Nat) (rest:List Nat) (hr:List.range opl.toArray.size=List.range m++rest)
  (hck:Eg false .any opl.toArray m N dsts (pre.map Prod.fst) bxs refs outs als=true) (hout:outs.map (Ai dsts posts pre)=out) (hnb:Kw dsts als=nb)
  (hall:Je P opl.toArray (Ai dsts posts pre) opl refs posts als)
  (hfull:∀a w B,St N w0 B0 a w B out (nb++bxs)→wpOps P opl.toArray Q rest a w):(Code.region id opl.toArray false).wp P Q a w:=
 wp_region (by rw [hr];exact qjx m H hck hout hnb hall hfull)
theorem qgw {id:Nat} {N:Nat} {opl:List Oper} {dsts:List (Option Tmp)} {refs:List (List Ref)} {outs:List Ref} {als:List Bool} {posts:List FD} {pre out:List (Tmp × FD)} {bxs nb:List Tmp} {a:Act} {w w0:World} {B B0:Bx} (H:St N w0 B0 a w B pre bxs)
  (hm:P.follows .mixedOrders=true) (m:Nat)
  (hck:Eg true .any opl.toArray m N dsts (pre.map Prod.fst) bxs refs outs als=true) (hout:outs.map (Ai dsts posts pre)=out) (hnb:Kw dsts als=nb)
  (hall:Je P opl.toArray (Ai dsts posts pre) opl refs posts als)
  (hfull:∀a w B,St N w0 B0 a w B out (nb++bxs)→wpAny P .any opl.toArray Q (Ei (A7 opl.toArray.size m)) (A7 opl.toArray.size m) a w):(Code.region id opl.toArray true).wp P Q a w:=
 wp_region_any hm (qjw (K:=fun _ _=>True) m H.drew hck hout hnb hall hfull)
end
end Go.Proofs.YtbcbmkeeoognpaaGreatDoor

namespace Go.Proofs.YtbcbmkeeoognpaaGreatDoor
open Go.RowKit
theorem jd {w w1:World} {B:Nat} (hb:Below B w w1) (hB:w.heap.size≤B) {a:Addr} {v:Value} (h:w.cell? a=some v):w1.cell? a=some v:=by
 have hl:=World.block_lt_of_cell? w a h
 rw [World.cell?_of_block (hb.block a.block (Nat.lt_of_lt_of_le hl hB))]
 exact h
end Go.Proofs.YtbcbmkeeoognpaaGreatDoor

namespace Go.Proofs.YtbcbmkeeoognpaaGreatDoor
open Go.RowKit
def P7 (t:TypeId) (k:IntKind) (zs:List Int) (ok:Bool) (w:World) (e:Ending) (w':World):Prop:=
 ∃ad n c,e=.returned (.tuple #[.slice ad n c,.bool ok])∧Own w.heap.size w' t k ad n c zs∧Below w.heap.size w w'
def qnq (t:TypeId) (k k2:IntKind) (zs:List Int) (r:Int) (ok:Bool) (w:World) (e:Ending) (w':World):Prop:=
 ∃ad n c,e=.returned (.tuple #[.slice ad n c,.int k2 r,.bool ok])∧Own w.heap.size w' t k ad n c zs∧Below w.heap.size w w'
def qoj (v:Int) (w:World) (e:Ending) (w':World):Prop:=e=.returned (.int .i64 v)∧∃q,w'=w.drewN q
def qin (v:Int) (w:World) (e:Ending) (w':World):Prop:=e=.returned (.int .i64 v)∧Below w.heap.size w w'
def qip (t:TypeId) (k:IntKind) (zs:List Int) (b1 b2:Bool) (w:World) (e:Ending) (w':World):Prop:=
 ∃ad n c,e=.returned (.tuple #[.slice ad n c,.bool b1,.bool b2])∧Own w.heap.size w' t k ad n c zs∧Below w.heap.size w w'
end Go.Proofs.YtbcbmkeeoognpaaGreatDoor

namespace Go.Proofs.YtbcbmkeeoognpaaGreatDoor
theorem qco (i:Nat):(256:Int) ^ (4*i)=4294967296 ^ i:=by
 rw [Int.pow_mul]
 rfl
theorem Ob (b:Int) (xs:List Int) (y:Int):val b (xs++[y])=val b xs+b ^ xs.length*y:=by
 rw [val_append]
 simp [val]
theorem U4 (ds:List Int) (N:Nat) (hN:ds.length=N) (x V:Int) (hx:0≤x) (h:val 256 ds+256 ^ N*x=V) :
  val 256 (ds++[x % 256])+256 ^ (N+1)*(x / 256)=V:=by
 rw [Ob,hN,Int.pow_succ]
 have:=Int.emod_add_mul_ediv x 256
 generalize x / 256=q at *
 generalize x % 256=r at *
 generalize (256:Int) ^ N=P at *
 generalize val 256 ds=v at *
 subst this
 grind
def Uu (ls out:List Int) (j:Nat):Prop:=
 Dig 4294967296 out∧out.length=(ls.length+3) / 4∧(∀q,q<j / 4→out[q]?.getD 0=0)∧out[j / 4]?.getD 0<256 ^ (4-j % 4) ∧
  val 256 (ls.drop j)=out[j / 4]?.getD 0+256 ^ (4-j % 4)*val 4294967296 (out.drop (j / 4+1))
theorem Jq (n j:Nat):((List.replicate n (0:Int))[j]?).getD 0=0:=by
 rw [List.getElem?_replicate]
 split <;> rfl
theorem qef (n:Nat):(0:Int)<256 ^ n:=Int.pow_pos (by omega)
theorem qdy (ls:List Int):Uu ls (List.replicate ((ls.length+3) / 4) 0) ls.length:=by
 refine ⟨Dig.replicate _ (by omega) _,by simp,fun q _=>Jq _ _,?_,?_⟩
 ·rw [Jq]
  exact qef _
 ·rw [Jq,List.drop_length,List.drop_replicate,C9]
  simp [val]
theorem qff (b:Int) (xs:List Int) (q:Nat):val b (xs.drop q)=xs[q]?.getD 0+b*val b (xs.drop (q+1)):=by
 rcases Nat.lt_or_ge q xs.length with h | h
 ·exact Ec b xs q h
 ·rw [List.drop_of_length_le h,List.drop_of_length_le (by omega),List.getElem?_eq_none h]
  simp [val]
theorem qg5 (ls out:List Int) (j:Nat) (hj:j<ls.length) (hl:Dig 256 ls) (h:Uu ls out (j+1)) :
  0≤out[j / 4]?.getD 0*256∧out[j / 4]?.getD 0*256+ls[j]?.getD 0≤4294967295∧j / 4<out.length∧Uu ls (out.set (j / 4) (out[j / 4]?.getD 0*256+ls[j]?.getD 0)) j:=by
 obtain ⟨h1,h2,h3,h4,h5⟩:=h
 have hd:=hl.get (by omega) j
 have ho:=h1.get (by omega) (j / 4)
 have hq:j / 4<out.length:=by omega
 have hv:=Ec 256 ls j hj
 rw [h5] at hv
 generalize hD:ls[j]?.getD 0=d at *
 have key:out[j / 4]?.getD 0*256+d<256 ^ (4-j % 4)∧val 256 (ls.drop j)=(out[j / 4]?.getD 0*256+d)+256 ^ (4-j % 4)*val 4294967296 (out.drop (j / 4+1)):=by
  by_cases hr:j % 4=3
  ·have e1:(j+1) / 4=j / 4+1:=by omega
   have e2:(j+1) % 4=0:=by omega
   have hz:=h3 (j / 4) (by omega)
   rw [e1,e2] at hv
   have e3:=qff 4294967296 out (j / 4+1)
   rw [hz,hr]
   refine ⟨by simp;omega,?_⟩
   rw [hv,e3]
   simp
  ·have e1:(j+1) / 4=j / 4:=by omega
   have e2:4-j % 4=(4-(j+1) % 4)+1:=by omega
   rw [e1] at hv h4
   rw [e2,Int.pow_succ]
   generalize 4-(j+1) % 4=s at *
   generalize out[j / 4]?.getD 0=o at *
   generalize val 4294967296 (out.drop (j / 4+1))=R at *
   generalize (256:Int) ^ s=P at *
   refine ⟨by omega,?_⟩
   rw [hv]
   grind
 have hP:(256:Int) ^ (4-j % 4)≤4294967296:=by
  have:∀s:Nat,s<4→(256:Int) ^ (4-s)≤4294967296:=by decide
  exact this _ (by omega)
 refine ⟨by omega,by omega,hq,h1.set (by omega) (by omega) _,by simp [h2],fun q hq'=>?_,?_,?_⟩
 ·rw [List.getElem?_set_ne (by omega)]
  exact h3 q (by omega)
 ·rw [List.getElem?_set_self hq]
  exact key.1
 ·rw [List.getElem?_set_self hq,List.drop_set_of_lt (by omega)]
  exact key.2
theorem Xq {b:Int} (hb:0<b):∀ {xs:List Int},Dig b xs→norm xs=xs→xs≠[]→b ^ (xs.length-1)≤val b xs
 | [x],h,hn,_=>by
  have h0:=h.head
  have:x≠0:=by
   rintro rfl
   simp [norm] at hn
  simp [val]
  omega
 | x :: y :: ys,h,hn,_=>by
  have h0:=h.head
  have hn':norm (y :: ys)=y :: ys:=by
   have hn1:=hn
   rw [norm] at hn1
   split at hn1
   ·cases hn1
   ·simpa using hn1
  have ih:=Xq hb h.tail hn' (by simp)
  have:b*b ^ ((y :: ys).length-1)≤b*val b (y :: ys):=Int.mul_le_mul_of_nonneg_left ih (Int.le_of_lt hb)
  rw [val]
  have e:b ^ ((x :: y :: ys).length-1)=b*b ^ ((y :: ys).length-1):=by
   simp only [List.length_cons,Nat.add_sub_cancel]
   rw [Int.pow_succ,Int.mul_comm]
  rw [e]
  omega
theorem Tj {b:Int} (hb:0<b) {xs:List Int} (h:Dig b xs) (hn:norm xs≠xs):val b xs<b ^ (xs.length-1):=by
 have hl:=yf xs
 have hne:(norm xs).length≠xs.length:=fun e=>hn (by rw [Jj,e,List.take_length])
 have:=Au hb (F7 h)
 rw [Ci] at this
 exact Int.lt_of_lt_of_le this (Ew (by omega) (by omega))
theorem qkc (ls out:List Int) (hl:Dig 256 ls) (hn:norm ls=ls) (h:Uu ls out 0):out=dg 4294967296 (val 256 ls):=by
 obtain ⟨h1,h2,_,_,h5⟩:=h
 have e:val 4294967296 out=val 256 ls:=by
  have:=qff 4294967296 out 0
  simp only [List.drop_zero,Nat.zero_div,Nat.zero_mod,Nat.zero_add] at this h5
  rw [this,h5]
  rfl
 have hno:norm out=out:=by
  by_cases hno:norm out=out
  ·exact hno
  ·exfalso
   have hlt:=Tj (by omega) h1 hno
   by_cases h0:ls=[]
   ·subst h0
    simp at h2
    subst h2
    exact hno rfl
   ·have hge:=Xq (by omega) hl hn h0
    rw [e,h2,←qco] at hlt
    have hlen:0<ls.length:=List.length_pos_iff.2 h0
    have:(256:Int) ^ (4*((ls.length+3) / 4-1))≤256 ^ (ls.length-1):=Ew (by omega) (by omega)
    omega
 have:=Ir 4294967296 (by omega) h1
 rw [hno] at this
 rw [this]
 exact congrArg (dg 4294967296) e
theorem qbk (b:Int) (hb:1<b) (xs zs ys:List Int) (i k:Nat) (c:Int) (hx:Dig b xs) (hz:Dig b zs) (hy:Dig b ys) (hc:0<c) (hi:i<xs.length)
  (E:val b ys+c*b ^ k=val b (xs.take (i+1))*val b zs):k<i+1+zs.length:=by
 rcases Nat.lt_or_ge k (i+1+zs.length) with h | h
 ·exact h
 ·exfalso
  have h1:=Au (by omega) (hx.take (i+1))
  have h2:=Au (by omega) hz
  have h3:=zt (by omega) (hx.take (i+1))
  have h4:=zt (by omega) hz
  have h5:=zt (by omega) hy
  rw [List.length_take,Nat.min_eq_left (by omega)] at h1
  have h6:b ^ (i+1+zs.length)≤b ^ k:=Ew (by omega) h
  have h7:b ^ k≤c*b ^ k:=by
   have:1*b ^ k≤c*b ^ k:=Int.mul_le_mul_of_nonneg_right (by omega) (Int.le_of_lt (Int.pow_pos (by omega)))
   omega
  have h8:val b (xs.take (i+1))*val b zs<b ^ (i+1)*b ^ zs.length:=by
   have a1:val b (xs.take (i+1))*val b zs≤val b (xs.take (i+1))*b ^ zs.length:=Int.mul_le_mul_of_nonneg_left (by omega) h3
   have a2:val b (xs.take (i+1))*b ^ zs.length<b ^ (i+1)*b ^ zs.length:=Int.mul_lt_mul_of_pos_right h1 (Int.pow_pos (by omega))
   omega
  rw [←Int.pow_add] at h8
  omega
theorem Tu (B:Int) (xs zs ys:List Int) (i n:Nat) (hi:i<xs.length) (hn:n=zs.length) (c:Int)
  (E:val B ys+c*B ^ (i+n)=val B (xs.take i)*val B zs+xs[i]?.getD 0*B ^ i*val B (zs.take n)) :
  val B ys+c*B ^ (i+n)=val B (xs.take (i+1))*val B zs:=by
 rw [E,Gy B xs i hi,hn,List.take_length]
 generalize xs[i]?.getD 0=x at *
 generalize val B (xs.take i)=X at *
 generalize val B zs=Z at *
 generalize B ^ i=P at *
 grind
end Go.Proofs.YtbcbmkeeoognpaaGreatDoor

namespace Go.Proofs.YtbcbmkeeoognpaaGreatDoor
open Go.RowKit
theorem Ah:(Tryz.prog.info? 44).map (fun i=>(i.zero,i.size,i.bytes))=some (some (.int .u32 0),1,4):=by kernel_rfl
theorem Bd (ad:Option Addr) (n c:Nat) (xs:List Int) (w:World) (hn:n≤9223372036854775807) (hnc:n≤c) (hr:Rds w .u32 ad n xs) :
  Calls Tryz.prog 159 #[.slice ad n c] w fun e w'=>e=.returned (.slice ad (norm xs).length (norm xs).length)∧w=w':=by
 have HL:=Lib.hid hr.len
 go_enter Tryz.func159,Tryz.ntmps159
 go_wp2
 go_loop [3] (fun i=>∃k:Nat,k≤n∧i=.int .i64 k∧Hid (∀j,k≤j→xs[j]?.getD 0=0)) (fun i=>(intOf i).toNat)
 case atStart=>exact ⟨n,Nat.le_refl _,rfl,fun j hj=>by rw [List.getElem?_eq_none (by rw [HL.out];exact hj)];rfl⟩
 case round=>
  obtain ⟨k,hk,rfl,hz⟩:=hrel
  have hkc:k≤c:=by omega
  by_cases h0:0<k
  ·obtain ⟨a,rfl,hcell⟩:=hr.cell (k-1) (by omega)
   clear hr
   go_wp2
   ·rename_i hb
    go_round
    case rel=>
     refine ⟨k-1,by omega,by congr 1;omega,fun j hj=>?_⟩
     by_cases e:j=k-1
     ·subst e;simpa using hb
     ·exact hz.out j (by omega)
    case measure=>simp [intOf];omega
   ·have hb:(xs[k-1]?.getD 0 == 0)=false:=by assumption
    have e:=Gl xs k (by rw [HL.out];omega) hz.out (.inr (by simpa using hb))
    have e2:(norm xs).length=k:=by rw [e,List.length_take,HL.out];omega
    go_ret
    rw [e2]
    exact ⟨rfl,rfl⟩
  ·obtain rfl:k=0:=by omega
   have E:=Lib.hid (show (norm xs).length=0 by rw [Gl xs 0 (Nat.zero_le _) hz.out (.inl rfl)];rfl)
   go_wp2
   go_ret
   rw [E.out]
   exact ⟨rfl,rfl⟩
end Go.Proofs.YtbcbmkeeoognpaaGreatDoor

namespace Go.Proofs.YtbcbmkeeoognpaaGreatDoor
open Go.RowKit
theorem qn3 (h l:Int) (hh:0≤h∧h<4294967296) (hl:0≤l∧l<4294967296):bits .or .u64 (h*4294967296) l=h*4294967296+l:=by
 obtain ⟨h,rfl⟩:=Int.eq_ofNat_of_zero_le hh.1
 obtain ⟨l,rfl⟩:=Int.eq_ofNat_of_zero_le hl.1
 have e:((h:Int)*4294967296)=((h*4294967296:Nat):Int):=by simp
 rw [e,bits_or_u64_nat _ _ (by omega) (by omega),nat_join 32 _ _ (by omega) (by omega)]
 omega
theorem qbz (x y d:Int) (w:World) (hx:0≤x∧x<d) (hy:0≤y∧y<4294967296) (hd:0<d∧d<4294967296) :
  Calls Tryz.prog 163 #[.int .u32 x,.int .u32 y,.int .u32 d] w fun e w'=>
   e=.returned (.tuple #[.int .u32 ((x*4294967296+y) / d),.int .u32 ((x*4294967296+y) % d)])∧∃q,w'=w.drewN q:=by
 obtain ⟨hx0,hx1⟩:=hx
 obtain ⟨hy0,hy1⟩:=hy
 obtain ⟨hd0,hd1⟩:=hd
 have H:=Lib.hid (qn3 x y (by omega) (by omega))
 have Q1:0≤(x*4294967296+y) / d:=Int.ediv_nonneg (by omega) (by omega)
 have Q2:(x*4294967296+y) / d<4294967296:=by
  refine Int.ediv_lt_of_lt_mul hd0 ?_
  have:x*4294967296+y<(x+1)*4294967296:=by omega
  have h2:(x+1)*4294967296≤d*4294967296:=Int.mul_le_mul_of_nonneg_right (by omega) (by omega)
  rw [Int.mul_comm] at h2
  omega
 have Q3:0≤(x*4294967296+y) % d:=Int.emod_nonneg _ (by omega)
 have Q4:(x*4294967296+y) % d<4294967296:=by
  have:=Int.emod_lt_of_pos (x*4294967296+y) hd0
  omega
 have hdx:(d≤x)=False:=by simp;omega
 have hd00:(d != 0)=true:=by simp;omega
 go_enter Tryz.func163,Tryz.ntmps163
 go_wp2
 rw [H.out]
 have V0:0≤x*4294967296+y:=by omega
 have V1:x*4294967296+y≤18446744073709551615:=by omega
 generalize hv:x*4294967296+y=v at *
 have HV:=Lib.hid hv
 clear hv
 have hd3:(d == 0)=false:=by simp;omega
 have hd4:¬d=0:=by omega
 have W1:IntKind.u64.wrap (v.tdiv d)=v / d:=IntWalk.u64_quo _ _ (by omega)
 have W2:v.tmod d=v % d:=IntWalk.rem_in _ _ (by omega)
 have W3:IntKind.u32.wrap (v / d)=v / d:=IntWalk.u32_in _ (by omega)
 have W4:IntKind.u32.wrap (v % d)=v % d:=IntWalk.u32_in _ (by omega)
 have W5:IntKind.u64.wrap (v % d)=v % d:=IntWalk.u64_in _ (by omega)
 have W6:IntKind.u64.wrap d=d:=IntWalk.u64_in _ (by omega)
 go_quiet (fail)
 clear W1 W2 W3 W4 W5 W6
 go_wp2
 go_ret2
 rw [HV.out]
 exact ⟨rfl,_,rfl⟩
end Go.Proofs.YtbcbmkeeoognpaaGreatDoor
