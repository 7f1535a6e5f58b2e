/- Contracts of functions, and plain facts, part 17. -/
import Derived.Test.YtbcbmkeeoognpaaGreatDoorPk3
import Derived.Test.YtbcbmkeeoognpaaGreatDoorPk4
import Derived.Test.YtbcbmkeeoognpaaGreatDoorPk5
import Derived.Test.YtbcbmkeeoognpaaGreatDoorPk6
import Derived.Test.YtbcbmkeeoognpaaGreatDoorPk7
import Derived.Test.YtbcbmkeeoognpaaGreatDoorPk8
import Derived.Test.YtbcbmkeeoognpaaGreatDoorPk9
import Derived.Test.YtbcbmkeeoognpaaGreatDoorPk15
import Derived.Test.YtbcbmkeeoognpaaGreatDoorPk16
set_option linter.unusedVariables false
set_option linter.unusedSimpArgs false
namespace Go.Proofs.YtbcbmkeeoognpaaGreatDoor
open Go Go.RowKit
section
variable {P:Program} {ops:Array Oper} {Q:Exit→Act→World→Prop} {md:Region.Mode}
def Z9 (posts:List FD) (cls:List Bool) (μ:Nat) (l:Array Bool) (j:Nat):FD:=if l.getD μ false && !cls.getD j false then .val VP.top else posts.getD j (.val VP.top)
def Zu (q:Nat) (f:FD):Prop:=∀g,Kept g q f
def qij (P:Program) (ops:Array Oper) (o:Oper) (need:List (Tmp × FD)) (post:FD) (q:Nat):Prop:=
 ∀(Q:Exit→Act→World→Prop) (K:Act→World→Prop) (i:Nat) (a:Act) (w:World) (B:Bx),ops[i]?=some o→Hz B w→Fct a w B need →
  (∀v w' (g:Option Nat),post.p v w' B→w.heap.size≤w'.heap.size→(∀i,i<w.heap.size→g≠some i→w'.heap[i]?=w.heap[i]?)→(∀b,g=some b→q≤b∧¬B b)→w'.os=w.os→w'.tape=w.tape→w'.output=w.output→K (a.put o.dst v) w') →
  wpOp P ops Q i K a w
structure qih (md:Region.Mode) (ops:Array Oper) (m μ:Nat) (dsts:List (Option Tmp)) (posts:List FD) (cls:List Bool) (als:List Bool) (base:Act) (w0:World) (B0:Bx) (l:Array Bool) (a:Act) (w:World) (B:Bx):Prop where
 size:l.size=ops.size
 late:∀j,m≤j→j<ops.size→l.getD j true=false
 closed:∀j o,ops[j]?=some o→l.getD j false=true→∀e∈o.after,Region.binds md e=true→l.getD e.on false=true
 defers:a.defers=base.defers
 tsize:a.tmps.size=base.tmps.size
 rest:∀s,dsts.contains (some s)=false→a.tmps.getD s undef=base.tmps.getD s undef
 fact:∀i d,i<m→dsts.getD i none=some d→l.getD i false=true→(Z9 posts cls μ l i).p (a.tmps.getD d undef) w B
 fresh:∀i d,i<m→als.getD i false=true→dsts.getD i none=some d→l.getD i false=true→∃b,a.tmps.getD d undef=.pointer (some ⟨b,0,none⟩)∧w0.heap.size≤b∧b<w.heap.size
 apart:∀i j d e,i<m→j<m→i≠j→als.getD i false=true→als.getD j false=true→dsts.getD i none=some d→dsts.getD j none=some e→l.getD i false=true→l.getD j false=true→a.tmps.getD d undef≠a.tmps.getD e undef
 bl:Bl w0 B0 w B
 below:Below w0.heap.size w0 w
 own:Hz B w
def behind (md:Region.Mode) (ops:Array Oper) (i j:Nat):Bool:=((Z5 md ops.toList []).getD j 0).testBit i
def V6 (md:Region.Mode) (ops:Array Oper) (m μ:Nat) (refs:List (List Ref)) (outs:List Ref) (cls:List Bool):Bool:=
 decide (μ<m) && ((List.range m).all fun i=>(refs.getD i []).all fun r=>match r with
  | .res j=>cls.getD j false || decide (i=μ) || behind md ops i μ
  | _=>true) && outs.all fun r=>match r with
  | .res j=>cls.getD j false
  | _=>true
section
variable {tl:Bool} {m μ N q:Nat} {dsts:List (Option Tmp)} {pres bxs:List Tmp} {refs:List (List Ref)} {outs:List Ref} {als cls:List Bool} {posts:List FD} {pre:List (Tmp × FD)} {base:Act} {w0:World} {B0:Bx}
theorem qih.need (C:Lh tl md ops m N dsts pres bxs refs outs als) (hpre:pre.map Prod.fst=pres) (hb:Fct base w0 B0 pre) {l:Array Bool} {a:Act} {w:World} {B:Bx} (h:qih md ops m μ dsts posts cls als base w0 B0 l a w B)
  (r:Ref) (hr:match r with
   | .pre k=>match pres[k]? with
    | some s=>dsts.contains (some s)=false
    | none=>False
   | .res j=>j<m∧(dsts.getD j none).isSome=true∧l.getD j false=true∧Z9 posts cls μ l j=posts.getD j (.val VP.top)):(Ai dsts posts pre r).2.p (a.tmps.getD (Ai dsts posts pre r).1 undef) w B:=by
 cases r with
 | pre k=>
  simp only at hr
  cases hk:pres[k]? with
  | none=>rw [hk] at hr;exact hr.elim
  | some s=>
   rw [hk] at hr
   simp only at hr
   rw [←hpre,List.getElem?_map] at hk
   cases hp:pre[k]? with
   | none=>rw [hp] at hk;cases hk
   | some x=>
    rw [hp] at hk
    simp at hk
    have e:Ai dsts posts pre (.pre k)=x:=by simp [Ai,List.getD_eq_getElem?_getD,hp]
    rw [e]
    have h1:=hb.all x (List.mem_of_getElem? hp)
    have h2:=h.rest x.1 (by rw [hk];exact hr)
    rw [h2]
    exact x.2.st h.bl h1
 | res j=>
  obtain ⟨h1,h2,h3,h4⟩:=hr
  obtain ⟨d,hd⟩:=Option.isSome_iff_exists.1 h2
  have:=h.fact j d h1 hd h3
  rw [h4] at this
  have e:Ai dsts posts pre (.res j)=(d,posts.getD j (.val VP.top)):=by simp only [Ai,hd,Option.getD_some]
  rw [e]
  exact this
theorem qih.step (C:Lh tl md ops m N dsts pres bxs refs outs als) (hpre:pre.map Prod.fst=pres) (hb:Fct base w0 B0 pre) (hN:base.tmps.size=N)
  (hall:∀i,i<m→∃o,ops[i]?=some o∧((i≠μ∧Eo P ops o ((refs.getD i []).map (Ai dsts posts pre)) (posts.getD i (.val VP.top)) (als.getD i false))∨(i=μ∧als.getD i false=false∧qij P ops o ((refs.getD i []).map (Ai dsts posts pre)) (posts.getD i (.val VP.top)) q)))
  (hmut:V6 md ops m μ refs outs cls=true) (hclsμ:cls.getD μ false=true) (hq:w0.heap.size≤q) (hkept:∀j,j<m→cls.getD j false=true→behind md ops μ j=false→j≠μ→Zu q (posts.getD j (.val VP.top)))
  {l:Array Bool} {a:Act} {w:World} {B:Bx} (h:qih md ops m μ dsts posts cls als base w0 B0 l a w B) (i:Nat) (hi:i<m) (hun:l.getD i true=false)
  (hdeps:∀o,ops[i]?=some o→∀e∈o.after,Region.binds md e=true→l.getD e.on false=true) :
  wpOp P ops Q i (fun a' w'=>∃B',qih md ops m μ dsts posts cls als base w0 B0 (l.setIfInBounds i true) a' w' B') a w:=by
 obtain ⟨o,ho,hcase⟩:=hall i hi
 have hod:=C.dst i o hi ho
 have hisz:i<ops.size:=(Array.getElem?_eq_some_iff.1 ho).1
 have hdeps:=hdeps o ho
 have hil:i<l.size:=by rw [h.size];exact hisz
 have hunf:l.getD i false=false:=by
  rw [Array.getD_eq_getD_getElem?,Array.getElem?_eq_getElem hil] at hun ⊢
  simpa using hun
 have anc:∀j k,behind md ops j k=true→k<ops.size→l.getD k false=true→l.getD j false=true:=fun j k hb2 hk hlk=>by
  have hok:ops[k]?=some ops[k]:=Array.getElem?_eq_getElem hk
  exact Jl h.closed hok (h.closed k _ hok hlk) hb2
 have needs:Fct a w B ((refs.getD i []).map (Ai dsts posts pre)):=Fct.of_all fun x hx=>by
  obtain ⟨r,hr,rfl⟩:=List.mem_map.1 hx
  have hok:=C.ref i r hi hr
  refine h.need C hpre hb r ?_
  cases r with
  | pre k=>
   simp only [J5] at hok
   cases hs:pres[k]? with
   | none=>rw [hs] at hok;cases hok
   | some s=>rw [hs] at hok;simp only [hs];simpa using hok
  | res j=>
   simp only [J5,Bool.and_eq_true,decide_eq_true_eq] at hok
   refine ⟨hok.1.1,hok.1.2,Fe ho hdeps hok.2,?_⟩
   simp only [V6,Bool.and_eq_true,List.all_eq_true,List.mem_range,decide_eq_true_eq] at hmut
   have h2:=hmut.1.2 i hi _ hr
   simp only [Bool.or_eq_true,decide_eq_true_eq] at h2
   unfold Z9
   rcases h2 with (h2 | h2) | h2
   ·rw [h2];simp
   ·subst h2;rw [hunf];simp
   ·have:l.getD μ false=false:=by
     cases hμ:l.getD μ false with
     | false=>rfl
     | true=>
      have hμs:μ<ops.size:=by
       rw [Array.getD_eq_getD_getElem?] at hμ
       cases h3:l[μ]? with
       | none=>rw [h3] at hμ;simp at hμ
       | some y=>have:=(Array.getElem?_eq_some_iff.1 h3).1;rw [h.size] at this;exact this
      have:=anc i μ h2 hμs hμ
      rw [hunf] at this;cases this
    rw [this];simp
 have hds:∀d,o.dst=some d→d<a.tmps.size:=fun d hd=>by
  rw [h.tsize,hN];exact C.lt i d (by rw [←hod];exact hd)
 have hput:∀v s,(a.put o.dst v).tmps.getD s undef=if o.dst=some s then v else a.tmps.getD s undef:=fun v s=>Dc hds
 have hlset:∀j b,j<ops.size→(l.setIfInBounds i true).getD j b=if i=j then true else l.getD j b:=fun j b hj=>by
  rw [Array.getD_eq_getD_getElem?,Array.getD_eq_getD_getElem?,Array.getElem?_setIfInBounds]
  by_cases e:i=j
  ·subst e;simp [hil]
  ·rw [if_neg e,if_neg e]
 have hmono:∀j,l.getD j false=true→(l.setIfInBounds i true).getD j false=true:=fun j hj=>getD_set_true hj
 have hms:m≤ops.size:=by
  have:=C.core
  unfold Jz at this
  simp only [Bool.and_eq_true,decide_eq_true_eq] at this
  exact this.1
 have hμm:μ<m:=by
  simp only [V6,Bool.and_eq_true,decide_eq_true_eq] at hmut
  exact hmut.1.1
 have hlate:∀j,m≤j→j<ops.size→(l.setIfInBounds i true).getD j true=false:=fun j hj1 hj2=>by
  rw [hlset j true hj2,if_neg (by omega)]
  exact h.late j hj1 hj2
 have hclosed:∀j o,ops[j]?=some o→(l.setIfInBounds i true).getD j false=true→∀e∈o.after,Region.binds md e=true→(l.setIfInBounds i true).getD e.on false=true:=by
  intro j o2 ho2 hlj e he hb2
  refine hmono _ ?_
  by_cases e1:i=j
  ·subst e1
   rw [ho] at ho2
   injection ho2 with ho2
   subst ho2
   exact hdeps e he hb2
  ·have hj2:j<ops.size:=(Array.getElem?_eq_some_iff.1 ho2).1
   rw [hlset j false hj2,if_neg e1] at hlj
   exact h.closed j o2 ho2 hlj e he hb2
 have hrest:∀v s,dsts.contains (some s)=false→(a.put o.dst v).tmps.getD s undef=base.tmps.getD s undef:=by
  intro v s hs
  rw [hput,if_neg ?_]
  ·exact h.rest s hs
  ·intro e
   rw [hod] at e
   have:dsts.contains (some s)=true:=by
    rw [List.contains_iff_mem]
    rw [List.getD_eq_getElem?_getD] at e
    cases h2:dsts[i]? with
    | none=>rw [h2] at e;cases e
    | some y=>rw [h2] at e;simp at e;subst e;exact List.mem_of_getElem? h2
   rw [hs] at this;cases this
 rcases hcase with ⟨hne,hstep⟩ | ⟨hiμ,halμ,hstep⟩
 ·refine hstep Q _ i a w B ho h.own needs ?_
  intro v w' B' hp hbl hbel hown hal
  have hcur:∀j,Z9 posts cls μ (l.setIfInBounds i true) j=Z9 posts cls μ l j:=fun j=>by
   unfold Z9
   rw [hlset μ false (by omega),if_neg hne]
  refine ⟨B',by rw [Array.size_setIfInBounds];exact h.size,hlate,hclosed,by rw [put_defers];exact h.defers,by rw [Dk];exact h.tsize,hrest v,?_,?_,?_,h.bl.trans hbl,Dw h.below h.below.size hbel,hown⟩
  ·intro j d hj hd hlj
   rw [hlset j false (by omega)] at hlj
   rw [hput,hcur]
   by_cases e:i=j
   ·subst e;rw [if_pos (by rw [hod];exact hd)]
    unfold Z9
    split
    ·trivial
    ·exact hp
   ·rw [if_neg e] at hlj
    rw [if_neg (fun e2=>e (jv C.dis i j d (by rw [←hod];exact e2) hd))]
    exact FD.st _ hbl (h.fact j d hj hd hlj)
  ·intro j d hj haj hd hlj
   rw [hlset j false (by omega)] at hlj
   rw [hput]
   by_cases e:i=j
   ·subst e
    rw [if_pos (by rw [hod];exact hd)]
    obtain ⟨b,h1,h2,h3⟩:=hal haj
    exact ⟨b,h1,Nat.le_trans h.below.size h2,h3⟩
   ·rw [if_neg e] at hlj
    rw [if_neg (fun e2=>e (jv C.dis i j d (by rw [←hod];exact e2) hd))]
    obtain ⟨b,h1,h2,h3⟩:=h.fresh j d hj haj hd hlj
    exact ⟨b,h1,h2,Nat.lt_of_lt_of_le h3 hbel.size⟩
  ·intro j k d e hj hk hjk aj ak hd he lj lk
   rw [hlset j false (by omega)] at lj
   rw [hlset k false (by omega)] at lk
   rw [hput v,hput v]
   by_cases e1:i=j
   ·subst e1
    rw [if_neg hjk] at lk
    rw [if_pos (by rw [hod];exact hd),if_neg (fun e2=>hjk (jv C.dis i k e (by rw [←hod];exact e2) he))]
    obtain ⟨b,h1,h2,h3⟩:=hal aj
    obtain ⟨c,g1,g2,g3⟩:=h.fresh k e hk ak he lk
    rw [h1,g1]
    intro e3
    injection e3 with e3;injection e3 with e3;injection e3 with e3
    omega
   ·rw [if_neg e1] at lj
    rw [if_neg (fun e2=>e1 (jv C.dis i j d (by rw [←hod];exact e2) hd))]
    by_cases e2:i=k
    ·subst e2
     rw [if_pos (by rw [hod];exact he)]
     obtain ⟨b,h1,h2,h3⟩:=hal ak
     obtain ⟨c,g1,g2,g3⟩:=h.fresh j d hj aj hd lj
     rw [h1,g1]
     intro e3
     injection e3 with e3;injection e3 with e3;injection e3 with e3
     omega
    ·rw [if_neg e2] at lk
     rw [if_neg (fun e3=>e2 (jv C.dis i k e (by rw [←hod];exact e3) he))]
     exact h.apart j k d e hj hk hjk aj ak hd he lj lk
 ·subst hiμ
  refine hstep Q _ i a w B ho h.own needs ?_
  intro v w' g hp hs hsame hg hos htp hou
  have hgw:∀b,g=some b→w0.heap.size≤b:=fun b hb2=>Nat.le_trans hq (hg b hb2).1
  refine ⟨B,by rw [Array.size_setIfInBounds];exact h.size,hlate,hclosed,by rw [put_defers];exact h.defers,by rw [Dk];exact h.tsize,hrest v,?_,?_,?_,?_,?_,fun k hk=>Nat.lt_of_lt_of_le (h.own k hk) hs⟩
  ·intro j d hj hd hlj
   rw [hlset j false (by omega)] at hlj
   rw [hput]
   by_cases e:i=j
   ·subst e;rw [if_pos (by rw [hod];exact hd)]
    unfold Z9
    rw [hclsμ,Bool.not_true,Bool.and_false]
    exact hp
   ·rw [if_neg e] at hlj
    rw [if_neg (fun e2=>e (jv C.dis i j d (by rw [←hod];exact e2) hd))]
    have hold:=h.fact j d hj hd hlj
    unfold Z9 at hold ⊢
    rw [hunf,Bool.false_and] at hold
    cases hc:cls.getD j false with
    | false=>
     rw [hlset i false (by omega),if_pos rfl]
     trivial
    | true=>
     rw [Bool.not_true,Bool.and_false]
     refine hkept j hj hc ?_ (fun e2=>e e2.symm) g _ w w' B hs hsame hg hold
     cases hb2:behind md ops i j with
     | false=>rfl
     | true=>
      have:=anc i j hb2 (by omega) hlj
      rw [hunf] at this;cases this
  ·intro j d hj haj hd hlj
   rw [hlset j false (by omega)] at hlj
   rw [hput]
   by_cases e:i=j
   ·subst e;rw [halμ] at haj;cases haj
   ·rw [if_neg e] at hlj
    rw [if_neg (fun e2=>e (jv C.dis i j d (by rw [←hod];exact e2) hd))]
    obtain ⟨b,h1,h2,h3⟩:=h.fresh j d hj haj hd hlj
    exact ⟨b,h1,h2,Nat.lt_of_lt_of_le h3 hs⟩
  ·intro j k d e hj hk hjk aj ak hd he lj lk
   rw [hlset j false (by omega)] at lj
   rw [hlset k false (by omega)] at lk
   rw [hput v,hput v]
   have e1:¬i=j:=fun e1=>by subst e1;rw [halμ] at aj;cases aj
   have e2:¬i=k:=fun e2=>by subst e2;rw [halμ] at ak;cases ak
   rw [if_neg e1] at lj
   rw [if_neg e2] at lk
   rw [if_neg (fun e2=>e1 (jv C.dis i j d (by rw [←hod];exact e2) hd)),if_neg (fun e3=>e2 (jv C.dis i k e (by rw [←hod];exact e3) he))]
   exact h.apart j k d e hj hk hjk aj ak hd he lj lk
  ·refine ⟨Nat.le_trans h.bl.size hs,fun k hk=>?_,h.bl.box⟩
   rw [hsame k (Nat.lt_of_lt_of_le hk h.bl.size) fun e=>by have:=hgw k e;omega]
   exact h.bl.same k hk
  ·refine ⟨hos.trans h.below.os,htp.trans h.below.tape,hou.trans h.below.output,Nat.le_trans h.below.size hs,fun k hk=>?_⟩
   rw [hsame k (Nat.lt_of_lt_of_le hk h.below.size) fun e=>by have:=hgw k e;omega]
   exact h.below.block k hk
end
inductive O9 (P:Program) (ops:Array Oper) (look:Ref→Tmp × FD) (refs:List (List Ref)) (posts:List FD) (als:List Bool) (m μ q:Nat):Nat→List Oper→Prop where
 | nil {os:List Oper}:O9 P ops look refs posts als m μ q m os
 | norm {i:Nat} {o:Oper} {os:List Oper} (hn:decide (i≠μ)=true) (h:Eo P ops o ((refs.getD i []).map look) (posts.getD i (.val VP.top)) (als.getD i false)) (t:O9 P ops look refs posts als m μ q (i+1) os):O9 P ops look refs posts als m μ q i (o :: os)
 | muta {i:Nat} {o:Oper} {os:List Oper} (hn:decide (i=μ)=true) (ha:als.getD i false=false) (h:qij P ops o ((refs.getD i []).map look) (posts.getD i (.val VP.top)) q) (t:O9 P ops look refs posts als m μ q (i+1) os):O9 P ops look refs posts als m μ q i (o :: os)
theorem O9.get {look:Ref→Tmp × FD} {refs:List (List Ref)} {posts:List FD} {als:List Bool} {m μ q i:Nat} {os:List Oper} (h:O9 P ops look refs posts als m μ q i os) :
  ∀k,i+k<m→∃o,os[k]?=some o∧((i+k≠μ∧Eo P ops o ((refs.getD (i+k) []).map look) (posts.getD (i+k) (.val VP.top)) (als.getD (i+k) false))∨(i+k=μ∧als.getD (i+k) false=false∧qij P ops o ((refs.getD (i+k) []).map look) (posts.getD (i+k) (.val VP.top)) q)):=by
 induction h with
 | nil=>intro k hk;omega
 | norm hn h t ih=>
  intro k hk
  cases k with
  | zero=>exact ⟨_,rfl,.inl ⟨of_decide_eq_true hn,h⟩⟩
  | succ k=>
   rename_i i o os
   have:=ih k (by omega)
   rw [show i+1+k=i+(k+1) by omega] at this
   simpa using this
 | muta hn ha h t ih=>
  intro k hk
  cases k with
  | zero=>exact ⟨_,rfl,.inr ⟨of_decide_eq_true hn,ha,h⟩⟩
  | succ k=>
   rename_i i o os
   have:=ih k (by omega)
   rw [show i+1+k=i+(k+1) by omega] at this
   simpa using this
inductive Ut (md:Region.Mode) (ops:Array Oper) (cls:List Bool) (μ q:Nat):Nat→List FD→Prop where
 | nil {i:Nat}:Ut md ops cls μ q i []
 | keep {i:Nat} {f:FD} {fs:List FD} (h:Zu q f) (t:Ut md ops cls μ q (i+1) fs):Ut md ops cls μ q i (f :: fs)
 | skip {i:Nat} {f:FD} {fs:List FD} (h:(!cls.getD i false || behind md ops μ i || decide (i=μ))=true) (t:Ut md ops cls μ q (i+1) fs):Ut md ops cls μ q i (f :: fs)
theorem Ut.get {cls:List Bool} {μ q i:Nat} {fs:List FD} (h:Ut md ops cls μ q i fs):∀k,k<fs.length→cls.getD (i+k) false=true→behind md ops μ (i+k)=false→i+k≠μ→Zu q (fs.getD k (.val VP.top)):=by
 induction h with
 | nil=>intro k hk;simp at hk
 | keep h t ih=>
  intro k hk hc hb hne
  cases k with
  | zero=>exact h
  | succ k=>
   rename_i i f fs
   rw [show i+(k+1)=i+1+k by omega] at hc hb hne
   have:=ih k (by simpa using hk) hc hb hne
   simpa using this
 | skip h t ih=>
  intro k hk hc hb hne
  cases k with
  | zero=>
   simp only [Nat.add_zero] at hc hb hne
   simp only [hc,hb,decide_eq_false hne] at h
   cases h
  | succ k=>
   rename_i i f fs
   rw [show i+(k+1)=i+1+k by omega] at hc hb hne
   have:=ih k (by simpa using hk) hc hb hne
   simpa using this
end
end Go.Proofs.YtbcbmkeeoognpaaGreatDoor

namespace Go.Proofs.YtbcbmkeeoognpaaGreatDoor
open Go Go.RowKit
theorem ql6 (r k:Nat) (h:r<32*k):yz k (2 ^ r):=by
 unfold yz
 have e:(4294967296:Int) ^ k=((2 ^ (32*k):Nat):Int):=by
  rw [show (4294967296:Int)=2 ^ 32 from rfl,←Int.pow_mul]
  simp
 have e2:(((2:Int) ^ r).natAbs:Int)=((2 ^ r:Nat):Int):=by
  rw [Int.natAbs_pow];rfl
 rw [e,e2]
 exact Int.ofNat_lt.2 (Nat.pow_lt_pow_right (by omega) h)
end Go.Proofs.YtbcbmkeeoognpaaGreatDoor

set_option maxRecDepth 50000
namespace Go.Proofs.YtbcbmkeeoognpaaGreatDoor
open Go Go.RowKit
def Hdd:VP:=⟨fun v w B=>∃g,PHd g v w B,fun v w B w' B' h ⟨g,hp⟩=>⟨g,PHd.st v w B w' B' h hp⟩⟩
def P6 (g:Option Nat) (v:Value) (w:World) (B:Bx):Prop:=∃b sl,v=.agg #[.bool b,sl]∧PHd g sl w B
theorem P6.st {g:Option Nat} (v:Value) (w:World) (B:Bx) (w':World) (B':Bx) (h:Mv w B w' B') (hp:P6 g v w B):P6 g v w' B':=by
 obtain ⟨b,sl,e,hp⟩:=hp
 exact ⟨b,sl,e,PHd.st sl w B w' B' h hp⟩
def qo1:VP:=⟨fun v w B=>∃g,P6 g v w B,fun v w B w' B' h ⟨g,hp⟩=>⟨g,P6.st v w B w' B' h hp⟩⟩
abbrev zg (V:Int):VP:=VP.and (IsC V) Hdd
abbrev zn (N:Int):VP:=VP.and (IsI N) qo1
def qj (g:Option Nat) (D:VP):VP:=⟨fun v w B=>P6 g v w B∧D.p v w B,fun v w B w' B' h hp=>⟨P6.st v w B w' B' h hp.1,D.st _ _ _ _ _ h hp.2⟩⟩
def qo (lo:Nat) (D:VP):VP:=⟨fun v w B=>∃g,(∀b,g=some b→lo≤b)∧P6 g v w B∧D.p v w B,fun v w B w' B' h ⟨g,h1,h2,h3⟩=>⟨g,h1,P6.st v w B w' B' h h2,D.st _ _ _ _ _ h h3⟩⟩
theorem Np {V:Int} (v:Value) (w:World) (B:Bx) (h:(zg V).p v w B):(IsC V).p v w B:=h.1
theorem Di {V:Int} (v:Value) (w:World) (B:Bx) (h:(zg V).p v w B):(IsM V).p v w B:=qlf _ _ _ h.1
theorem qm2 {N:Int} (v:Value) (w:World) (B:Bx) (h:(zn N).p v w B):(IsI N).p v w B:=h.1
theorem qa4 {N:Int} (v:Value) (w:World) (B:Bx) (h:(zn N).p v w B):(IsN N).p v w B:=qli _ _ _ h.1
theorem qlg {g:Option Nat} {V:Int} (v:Value) (w:World) (B:Bx) (h:(Ac g (IsC V)).p v w B):(zg V).p v w B:=⟨h.2,g,h.1⟩
theorem qlh {g:Option Nat} {N:Int} (v:Value) (w:World) (B:Bx) (h:(qj g (IsI N)).p v w B):(zn N).p v w B:=⟨h.2,g,h.1⟩
theorem qm0 {g:Option Nat} {D:VP} (v:Value) (w:World) (B:Bx) (h:(qj g D).p v w B):D.p v w B:=h.2
theorem qfx {lo:Nat} {D:VP} (v:Value) (w:World) (B:Bx) (h:(qo lo D).p v w B):D.p v w B:=by
 obtain ⟨g,_,_,h⟩:=h
 exact h
theorem qd5 (w:World) (B:Bx):PHd none (.slice none 0 0) w B:=⟨none,0,0,rfl,Nat.le_refl _,by omega,by omega,fun _=>rfl,fun h=>absurd h (by omega)⟩
theorem Ej (v:Value) (w:World) (B:Bx) (h:(Lit (.slice none 0 0)).p v w B):(zg 0).p v w B:=by
 have h2:=Ld v w B h
 obtain rfl:=h
 exact ⟨h2,none,qd5 w B⟩
theorem Qr (v:Value) (w:World) (B:Bx) (h:qp.p v w B):(zn 0).p v w B:=by
 have h2:=qlk v w B h
 obtain rfl:=h
 exact ⟨h2,none,false,_,rfl,qd5 w B⟩
theorem Gi {A N:Int} (e:A=N) {v:Value} {w:World} {B:Bx} (h:(zg A).p v w B):(zg N).p v w B:=e ▸ h
theorem yj {A N:Int} (e:A=N) {v:Value} {w:World} {B:Bx} (h:(zn A).p v w B):(zn N).p v w B:=e ▸ h
theorem ve {N:Int}:Shape 2 (zn N):=fun v w B h=>qfr _ _ _ h.1
theorem Ro {g:Option Nat} {N:Int}:Shape 2 (qj g (IsI N)):=fun v w B h=>qfr _ _ _ h.2
theorem Fb {w w':World} {B:Bx} {ad:Option Addr} {n c:Nat} {V:Int} {k:Nat} (hB:Hz B w) (o:Own w.heap.size w' 44 .u32 ad n c (dg 4294967296 V)) (hf:Fits V) (hV:0≤V):(zg V).p (.slice ad n c) w' B:=by
 have hlim:=Ed
 obtain ⟨q,hq,hf⟩:=hf
 have hl:=Nat.le_trans (Uk o hf hV) hq
 obtain ⟨g,_,h2,_⟩:=PHd.of_own (Nat.zero_le _) hB o (by omega)
 exact ⟨⟨ad,n,c,rfl,⟨o.le,o.rds⟩,hl,hV⟩,g,h2⟩
abbrev Old (w:World):Bx:=fun k=>k<w.heap.size
theorem Uj (w:World):Hz (Old w) w:=fun _ h=>h
theorem PHd.fresh {g:Option Nat} {v:Value} {w w':World} {B:Bx} (h:PHd g v w' (Old w)) (hB:Hz B w):(∀b,g=some b→w.heap.size≤b)∧PHd g v w' B:=by
 obtain ⟨ad,n,c,e,h1,h2,h3,h4,h5⟩:=h
 refine ⟨fun b hb=>?_,ad,n,c,e,h1,h2,h3,h4,fun hc=>?_⟩
 ·by_cases hc:0<c
  ·obtain ⟨x,cs,e1,e2,e3,_⟩:=h5 hc
   rw [hb] at e1
   have e1:b=x:=by injection e1
   subst e1
   exact Nat.le_of_not_lt e3
  ·rw [h4 (by omega)] at hb;cases hb
 ·obtain ⟨x,cs,e1,e2,e3,e4,e5⟩:=h5 hc
  exact ⟨x,cs,e1,e2,fun h=>e3 (hB x h),e4,e5⟩
theorem Con.fresh {P:Program} {f:FuncId} {Ds:List VP} {V:Int} (h:Con P f Ds (zg V)) (hfree:∀vs w B B',Ia vs Ds w B→Ia vs Ds w B'):Oz P f Ds (fun lo=>qod lo (IsC V)):=
 ⟨h.enters,fun lo vs w B hlo hB hV=>(h.calls vs w (Old w) (Uj w) (hfree _ _ _ _ hV)).mono fun e w' ⟨v,e1,⟨h1,g,h2⟩,h3⟩=>
  ⟨v,e1,⟨g,fun b hb=>Nat.le_trans hlo ((h2.fresh hB).1 b hb),(h2.fresh hB).2,h1⟩,h3⟩⟩
theorem P6.fresh {g:Option Nat} {v:Value} {w w':World} {B:Bx} (h:P6 g v w' (Old w)) (hB:Hz B w):(∀b,g=some b→w.heap.size≤b)∧P6 g v w' B:=by
 obtain ⟨b,sl,e,h⟩:=h
 exact ⟨(h.fresh hB).1,b,sl,e,(h.fresh hB).2⟩
theorem Con.freshI {P:Program} {f:FuncId} {Ds:List VP} {N:Int} (h:Con P f Ds (zn N)) (hfree:∀vs w B B',Ia vs Ds w B→Ia vs Ds w B'):Oz P f Ds (fun lo=>qo lo (IsI N)):=
 ⟨h.enters,fun lo vs w B hlo hB hV=>(h.calls vs w (Old w) (Uj w) (hfree _ _ _ _ hV)).mono fun e w' ⟨v,e1,⟨h1,g,h2⟩,h3⟩=>
  ⟨v,e1,⟨g,fun b hb=>Nat.le_trans hlo ((h2.fresh hB).1 b hb),(h2.fresh hB).2,h1⟩,h3⟩⟩
theorem Lr (V:Int):Con Tryz.prog 62 [IsM V] (zg V):=by
 refine ⟨fun _ _=>by go_simp,fun vs w B hB hV=>?_⟩
 match vs,hV with
 | [v],⟨h1,_⟩=>
  have hf:=PM.fit h1
  have h0:=PM.nonneg h1
  obtain ⟨ad,n,c,rfl,k,l⟩:=h1
  obtain ⟨xs,r1,r2,rfl⟩:=k.row
  have hlim:=Ed
  refine (F6 ad n c xs w (by omega) k.le r1 r2).mono ?_
  rintro e w' ⟨ad2,n2,c2,rfl,o,hb⟩
  exact ⟨_,rfl,Fb (k:=0) hB o hf h0,hb⟩
theorem qdn (V:Int):Con Tryz.prog 125 [IsM V] (zg V):=by
 refine ⟨fun _ _=>by go_simp,fun vs w B hB hV=>?_⟩
 match vs,hV with
 | [v],⟨h1,_⟩=>
  have hf:=PM.fit h1
  have h0:=PM.nonneg h1
  obtain ⟨ad,n,c,rfl,k,l⟩:=h1
  obtain ⟨xs,r1,r2,rfl⟩:=k.row
  have hlim:=Ed
  refine (Td ad n c xs w (by omega) r1 r2).mono ?_
  rintro e w' ⟨ad2,n2,c2,rfl,o,hb⟩
  exact ⟨_,rfl,Fb (k:=0) hB o hf h0,hb⟩
theorem Qa (x:Int) (hx:0≤x∧x<18446744073709551616):Con Tryz.prog 121 [Lit (.int .u64 x)] (zg x):=by
 refine ⟨fun _ _=>by go_simp,fun vs w B hB hV=>?_⟩
 match vs,hV with
 | [v],⟨h1,_⟩=>
  obtain rfl:=h1
  refine (L9 x w hx.1 hx.2).mono ?_
  rintro e w' ⟨ad2,n2,c2,rfl,o,hb⟩
  exact ⟨_,rfl,Fb (k:=0) hB o ⟨2,by have:=Ed;omega,by unfold yz;rw [show (4294967296:Int) ^ 2=18446744073709551616 from by decide];omega⟩ hx.1,hb⟩
theorem qbo (V U:Int) (hf:Fits (V+U)):Con Tryz.prog 55 [IsM V,IsM U] (zg (V+U)):=by
 refine ⟨fun _ _=>by go_simp,fun vs w B hB hV=>?_⟩
 match vs,hV with
 | [v,u],⟨h1,h2,_⟩=>
  have hV0:=PM.nonneg h1
  have hU0:=PM.nonneg h2
  obtain ⟨ad,n,c,rfl,k,l⟩:=h1
  obtain ⟨bd,m,c2,rfl,k2,l2⟩:=h2
  obtain ⟨xs,r1,r2,rfl⟩:=k.row
  obtain ⟨ys,s1,s2,rfl⟩:=k2.row
  have hlim:=Ed
  refine (qf3 ad bd n m c c2 xs ys w (by omega) (by omega) k.le k2.le r1 s1 r2 s2).mono ?_
  rintro e w' ⟨ad3,n3,c3,rfl,o,hb⟩
  exact ⟨_,rfl,Fb (k:=0) hB o hf (by omega),hb⟩
theorem Qx (V U:Int) (hf:Fits (V+U)):Con Tryz.prog 127 [IsM V,IsM U] (zg (V+U)):=by
 refine ⟨fun _ _=>by go_simp,fun vs w B hB hV=>?_⟩
 match vs,hV with
 | [v,u],⟨h1,h2,_⟩=>
  have hV0:=PM.nonneg h1
  have hU0:=PM.nonneg h2
  obtain ⟨ad,n,c,rfl,k,l⟩:=h1
  obtain ⟨bd,m,c2,rfl,k2,l2⟩:=h2
  obtain ⟨xs,r1,r2,rfl⟩:=k.row
  obtain ⟨ys,s1,s2,rfl⟩:=k2.row
  have hlim:=Ed
  refine (qej ad bd n m c c2 xs ys w (by omega) (by omega) r1 s1 r2 s2).mono ?_
  rintro e w' ⟨ad3,n3,c3,rfl,o,hb⟩
  exact ⟨_,rfl,Fb (k:=0) hB o hf (by omega),hb⟩
theorem qbp (V U:Int) (hf:Fits (V*U)):Con Tryz.prog 56 [IsM V,IsM U] (zg (V*U)):=by
 refine ⟨fun _ _=>by go_simp,fun vs w B hB hV=>?_⟩
 match vs,hV with
 | [v,u],⟨h1,h2,_⟩=>
  have hV0:=PM.nonneg h1
  have hU0:=PM.nonneg h2
  obtain ⟨ad,n,c,rfl,k,l⟩:=h1
  obtain ⟨bd,m,c2,rfl,k2,l2⟩:=h2
  obtain ⟨xs,r1,r2,rfl⟩:=k.row
  obtain ⟨ys,s1,s2,rfl⟩:=k2.row
  have hlim:=Ed
  refine (qg9 ad bd n m c c2 xs ys w (by omega) k.le k2.le r1 s1 r2 s2).mono ?_
  rintro e w' ⟨ad3,n3,c3,rfl,o,hb⟩
  exact ⟨_,rfl,Fb (k:=0) hB o hf (Int.mul_nonneg hV0 hU0),hb⟩
theorem Qy (V U:Int) (hf:Fits (V*U)):Con Tryz.prog 128 [IsM V,IsM U] (zg (V*U)):=by
 refine ⟨fun _ _=>by go_simp,fun vs w B hB hV=>?_⟩
 match vs,hV with
 | [v,u],⟨h1,h2,_⟩=>
  have hV0:=PM.nonneg h1
  have hU0:=PM.nonneg h2
  obtain ⟨ad,n,c,rfl,k,l⟩:=h1
  obtain ⟨bd,m,c2,rfl,k2,l2⟩:=h2
  obtain ⟨xs,r1,r2,rfl⟩:=k.row
  obtain ⟨ys,s1,s2,rfl⟩:=k2.row
  have hlim:=Ed
  refine (qen ad bd n m c c2 xs ys w (by omega) r1 s1 r2 s2).mono ?_
  rintro e w' ⟨ad3,n3,c3,rfl,o,hb⟩
  exact ⟨_,rfl,Fb (k:=0) hB o hf (Int.mul_nonneg hV0 hU0),hb⟩
theorem qb5 {V U:Int} (hf:Fits V) (h0:0≤V) (hU:0≤U):Fits (if U≤V then V-U else 0):=by
 obtain ⟨q,hq,hf⟩:=hf
 exact ⟨q,hq,hf.le (by split <;> omega)⟩
theorem qjl (V U:Int):dg 4294967296 (V-U)=dg 4294967296 (if U≤V then V-U else 0):=by
 split
 ·rfl
 ·unfold dg
  rw [show (V-U).toNat=0 by omega]
  rfl
theorem Rx (V U:Int):Con Tryz.prog 58 [IsM V,IsM U] (Tup [zg (if U≤V then V-U else 0),IsB (decide (U≤V))]):=by
 refine ⟨fun _ _=>by go_simp,fun vs w B hB hV=>?_⟩
 match vs,hV with
 | [v,u],⟨h1,h2,_⟩=>
  have hf:=PM.fit h1
  have hV0:=PM.nonneg h1
  have hU0:=PM.nonneg h2
  obtain ⟨ad,n,c,rfl,k,l⟩:=h1
  obtain ⟨bd,m,c2,rfl,k2,l2⟩:=h2
  obtain ⟨xs,r1,r2,rfl⟩:=k.row
  obtain ⟨ys,s1,s2,rfl⟩:=k2.row
  have hlim:=Ed
  refine (qd7 ad bd n m c c2 xs ys w (by omega) (by omega) k.le k2.le r1 s1 r2 s2).mono ?_
  rintro e w' ⟨ad3,n3,c3,rfl,o,hb⟩
  rw [qjl] at o
  exact ⟨_,rfl,⟨[.slice ad3 n3 c3,.bool _],rfl,Fb (k:=0) hB o (qb5 hf hV0 hU0) (by split <;> omega),rfl,trivial⟩,hb⟩
theorem Yz (V U:Int):Con Tryz.prog 210 [IsM V,IsM U] (Tup [zg (if U≤V then V-U else 0),IsB (decide (U≤V))]):=by
 refine ⟨fun _ _=>by go_simp,fun vs w B hB hV=>?_⟩
 match vs,hV with
 | [v,u],⟨h1,h2,_⟩=>
  have hf:=PM.fit h1
  have hV0:=PM.nonneg h1
  have hU0:=PM.nonneg h2
  obtain ⟨ad,n,c,rfl,k,l⟩:=h1
  obtain ⟨bd,m,c2,rfl,k2,l2⟩:=h2
  obtain ⟨xs,r1,r2,rfl⟩:=k.row
  obtain ⟨ys,s1,s2,rfl⟩:=k2.row
  have hlim:=Ed
  refine (qeo ad bd n m c c2 xs ys w (by omega) (by omega) r1 s1 r2 s2).mono ?_
  rintro e w' ⟨ad3,n3,c3,rfl,o,hb⟩
  rw [qjl] at o
  exact ⟨_,rfl,⟨[.slice ad3 n3 c3,.bool _],rfl,Fb (k:=0) hB o (qb5 hf hV0 hU0) (by split <;> omega),rfl,trivial⟩,hb⟩
section
variable {need:List (Tmp × FD)} {d:Option Tmp} {ty:TypeId} {pos:String} {af:Array Edge} {g:Option (Nat × Bool)} {x y:Operand}
theorem Xi (b:Bool) (v:Value) (w:World) (hv:v.oneCell'=true):(Instr.build 52 #[(0,.bool b),(1,v)]).run Tryz.prog w=.ok (.agg #[.bool b,v]) w:=by
 cases v <;> first | (simp [Value.oneCell'] at hv;done) | go_simp
theorem qci {k:Option Nat} {b:Bool} {V N:Int} (hx:Opd need x (.val (IsB b))) (hy:Opd need y (.val (Ac k (IsC V)))) (hb:b=decide (N<0)) (hV:V=(N.natAbs:Int)):jo Tryz.prog ⟨d,.build 52 #[(0,x),(1,y)],ty,pos,af,g⟩ need (.val (qj k (IsI N))) false:=
 jo.value fun a w B hF=>by
  have e1:a.eval x=.bool b:=hx a w B hF
  have h1:=hy a w B hF
  obtain ⟨h2,ad,n,c,e,k2,l,hV0⟩:=h1
  have e2:a.eval y=.slice ad n c:=e
  refine ⟨.agg #[.bool b,.slice ad n c],?_,⟨b,_,rfl,e ▸ h2⟩,ad,n,c,by rw [hb],by rw [←hV];exact k2,l⟩
  have:=Xi b (.slice ad n c) w rfl
  simp [execOp,e1,e2,this]
end
def Free (D:VP):Prop:=∀v w B B',D.p v w B→D.p v w B'
def Gs:List VP→Prop
 | []=>True
 | D :: Ds=>Free D∧Gs Ds
theorem Gs.all:∀ {Ds:List VP},Gs Ds→∀vs w B B',Ia vs Ds w B→Ia vs Ds w B'
 | [],_,[],_,_,_,_=>trivial
 | [],_,_ :: _,_,_,_,h=>h.elim
 | D :: Ds,_,[],_,_,_,h=>h.elim
 | D :: Ds,⟨h1,h2⟩,v :: vs,w,B,B',⟨h3,h4⟩=>⟨h1 v w B B' h3,Gs.all h2 vs w B B' h4⟩
theorem Kt {u:Value}:Free (Lit u):=fun _ _ _ _ h=>h
theorem Fj {N:Int}:Free (IsN N):=fun v w B B' h=>show PN N v w B' from (show PN N v w B from h)
end Go.Proofs.YtbcbmkeeoognpaaGreatDoor

namespace Go.Proofs.YtbcbmkeeoognpaaGreatDoor
open Go Go.RowKit
end Go.Proofs.YtbcbmkeeoognpaaGreatDoor
