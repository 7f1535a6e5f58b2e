/- Contracts of functions, and plain facts, part 32. -/
import Derived.Test.YtbcbmkeeoognpaaGreatDoorPk31
set_option linter.unusedVariables false
set_option linter.unusedSimpArgs false
set_option maxRecDepth 50000
namespace Go.Proofs.YtbcbmkeeoognpaaGreatDoor
open Go Go.RowKit
section
variable {P:Program} {ops:Array Oper} {Q:Exit→Act→World→Prop} {N:Nat} {w0:World} {B0:Bx} {a:Act} {w:World} {B:Bx}
theorem Vk {id:Nat} {N:Nat} {opl:List Oper} {dsts:List (Option Tmp)} {refs:List (List Ref)} {outs:List Ref} {als:List Bool} {posts:List FD} {pre out:List (Tmp × FD)} {bxs nb:List Tmp} {d6 dc:Tmp} (H:St N w0 B0 a w B pre bxs)
  (hm:P.follows .mixedOrders=true) (m c c6:Nat) (fuel:Nat) (lst:Array Bool)
  (hck:Eg true .any opl.toArray m N dsts (pre.map Prod.fst) bxs refs outs als=true) (hls:(decide (A7 opl.toArray.size m=lst) && decide (Ei lst=fuel))=true) (hout:outs.map (Ai dsts posts pre)=out) (hnb:Kw dsts als=nb)
  (hall:Je P opl.toArray (Ai dsts posts pre) opl refs posts als)
  (hcs:(decide (c<m) && (decide (c6<c) && (decide (dsts.getD c6 none=some d6) && (decide (dsts.getD c none=some dc) && ((Z5 .any opl []).getD c 0).testBit c6))))=true)
  (hcX:∀o,opl[c]?=some o→P8 P opl.toArray o ((refs.getD c []).map (Ai dsts posts pre)) (posts.getD c (.val VP.top)) (als.getD c false) (fun v w=>∀b,Jm v b→w.heap.size≤b))
  (h6X:∀u w B,(posts.getD c6 (.val VP.top)).p u w B→∀b,Jm u b→b<w.heap.size)
  (hfull:∀a w B,St N w0 B0 a w B out (nb++bxs)→(∀b,Jm (a.tmps.getD d6 undef) b→¬Jm (a.tmps.getD dc undef) b)→wpAny P .any opl.toArray Q fuel lst a w):(Code.region id opl.toArray true).wp P Q a w:=by
 simp only [Bool.and_eq_true,decide_eq_true_eq] at hls hcs
 obtain ⟨h1,h2,h3,h4,h5⟩:=hcs
 refine wp_region_any hm (qgv m c c6 H.drew hck hout hnb hall h1 h2 h3 h4 h5 hcX h6X fun a w B h hG=>?_)
 rw [hls.1,hls.2]
 exact hfull a w B h hG
theorem Xm {need:List (Tmp × FD)} {d:Option Tmp} {ty:TypeId} {pos:String} {af:Array Edge} {f:FuncId} {args:List Operand} {ts:Array TypeId} {Ds:List VP} {R:Nat→VP} {lo:Nat} {z:Tmp} (kz:Nat) (C:Oz P f Ds R) (hz:need[kz]?=some (z,.val (Sz lo))) (h:qba need args Ds)
  (hR:∀lo v w B,(R lo).p v w B→∀b,Jm v b→lo≤b) (hmono:∀lo lo2 v w B,lo≤lo2→(R lo2).p v w B→(R lo).p v w B) :
  P8 P ops ⟨d,.call { callee:=.value (.func f),args:=args.toArray,argTypes:=ts },ty,pos,af,none⟩ need (.val (R lo)) false (fun v w=>∀b,Jm v b→w.heap.size≤b):=by
 intro Q K i a w B ho hB hF hK
 have hr:(execOp a.eval ⟨d,.call { callee:=.value (.func f),args:=args.toArray,argTypes:=ts },ty,pos,af,none⟩).run P w=.ok (.enter f (args.map a.eval).toArray) w:=by
  simp [execOp,resolve,Act.eval,Deferred.ofValue,invoke,Sem.run_bind,C.enters]
 have hlo:lo≤w.heap.size:=hF.get kz hz
 unfold wpOp
 simp only [ho]
 rw [if_pos (by simp [Region.wanted])]
 refine .inl ?_
 unfold Oper.wp
 rw [hr]
 refine (C.calls w.heap.size (args.map a.eval) w B (Nat.le_refl _) hB (h.all hF)).mono ?_
 rintro e w' ⟨v,rfl,hv,hb⟩
 exact hK v w' B (hmono _ _ _ _ _ hlo hv) (Bl.of_below B hb) hb (fun k hk=>Nat.lt_of_lt_of_le (hB k hk) hb.size) (fun h=>by cases h) (hR _ _ _ _ hv)
end
theorem Vj:∀(l:List C2) (ad:Option Addr) (n c:Nat),Value.slice ad n c∈flat l→∃(j:Nat) (p:C2),l[j]?=some p∧p.2.1=ad∧p.2.2.1=n∧p.2.2.2=c
 | [],ad,n,c,h=>by cases h
 | q :: l,ad,n,c,h=>by
  simp only [flat,List.mem_cons] at h
  rcases h with h | h | h
  ·cases h
  ·injection h with h1 h2 h3
   exact ⟨0,q,rfl,h1.symm,h2.symm,h3.symm⟩
  ·obtain ⟨j,p,h1,h2⟩:=Vj l ad n c h
   exact ⟨j+1,p,by simpa using h1,h2⟩
theorem qfj {g:Option Nat} {D:VP} {p:C2} {w:World} {B:Bx} (h:(qj g D).p (qf4 p) w B):(0<p.2.2.2→xg p.2.1=g)∧(∀b,g=some b→0<p.2.2.2∧xg p.2.1=some b):=by
 obtain ⟨⟨b,sl,e,ad,n,c,e2,k1,k2,k3,k4,k5⟩,_⟩:=h
 unfold qf4 at e
 injection e with e
 have e3:Value.slice p.2.1 p.2.2.1 p.2.2.2=sl:=by
  have:=congrArg (fun a:Array Value=>a[1]?) e
  simpa using this
 rw [e2] at e3
 injection e3 with i1 i2 i3
 rw [i1,i3]
 refine ⟨fun hc=>?_,fun x hx=>?_⟩
 ·obtain ⟨y,cs,f1,f2,_⟩:=k5 hc
  rw [f1,f2];rfl
 ·by_cases hc:0<c
  ·obtain ⟨y,cs,f1,f2,_⟩:=k5 hc
   rw [←hx,f1]
   exact ⟨hc,by rw [f2];rfl⟩
  ·rw [k4 (by omega)] at hx;cases hx
theorem Qo {gs:List (Option Nat)} {Xs:List Int} {v:Value} {w:World} {B:Bx} (h:(T10 gs Xs).p v w B) (b:Nat):Jm v b↔∃j,j<10∧gs.getD j none=some b:=by
 obtain ⟨l,hl,e,hp⟩:=h
 constructor
 ·rintro ⟨cs,ad,n,c,e2,hm,hc,hb⟩
  rw [e] at e2
  injection e2 with e2
  rw [←e2] at hm
  obtain ⟨j,p,h1,h2,h3,h4⟩:=Vj l ad n c (by simpa using hm)
  refine ⟨j,by have:=(List.getElem?_eq_some_iff.1 h1).1;omega,?_⟩
  rw [←(qfj (hp j p h1)).1 (by omega),h2]
  exact hb
 ·rintro ⟨j,hj,hb⟩
  obtain ⟨p,h1⟩:∃p,l[j]?=some p:=⟨_,List.getElem?_eq_getElem (by omega)⟩
  obtain ⟨h2,h3⟩:=(qfj (hp j p h1)).2 b hb
  refine ⟨_,p.2.1,p.2.2.1,p.2.2.2,e,?_,h2,h3⟩
  have:=(flat_get l j p h1).2
  exact Array.mem_of_getElem? (i:=2*j+1) (by simpa using this)
theorem qms (lo:Nat) {Xs:List Int} (v:Value) (w:World) (B:Bx) (h:(Gt lo Xs).p v w B) (b:Nat) (hb:Jm v b):lo≤b:=by
 obtain ⟨gs,h1,h2⟩:=h
 obtain ⟨j,_,h3⟩:=(Qo h2 b).1 hb
 exact (h1.lo j b h3).1
theorem qmt {lo:Nat} {Xs:List Int} (v:Value) (w:World) (B:Bx) (h:(Gt lo Xs).p v w B) (b:Nat) (hb:Jm v b):b<w.heap.size:=by
 obtain ⟨gs,h1,h2⟩:=h
 obtain ⟨j,_,h3⟩:=(Qo h2 b).1 hb
 exact (h1.lo j b h3).2
theorem qh1 (lo lo2:Nat) {Xs:List Int} (v:Value) (w:World) (B:Bx) (hl:lo≤lo2) (h:(Gt lo2 Xs).p v w B):(Gt lo Xs).p v w B:=by
 obtain ⟨gs,h1,h2⟩:=h
 exact ⟨gs,⟨h1.len,fun j b hb=>⟨Nat.le_trans hl (h1.lo j b hb).1,(h1.lo j b hb).2⟩,h1.ap⟩,h2⟩
theorem Oj {g:Option Nat} {ng:Bool} {n:Nat} {xs:List Int} {v:Value} {w:World} {B:Bx} (h:(jc g ng n xs).p v w B) (b:Nat):Jm v b↔g=some b:=by
 obtain ⟨sl,e,⟨ad,n1,c,e2,k1,k2,k3,k4,k5⟩,_⟩:=h
 subst e2
 constructor
 ·rintro ⟨cs,ad2,n2,c2,e2,hm,hc,hb⟩
  rw [e] at e2
  injection e2 with e2
  rw [←e2] at hm
  simp at hm
  obtain ⟨h1,h2,h3⟩:=hm
  obtain ⟨y,cs,f1,f2,_⟩:=k5 (by omega)
  rw [f1,←hb,h1,f2];rfl
 ·intro hg
  by_cases hc:0<c
  ·obtain ⟨y,cs,f1,f2,_⟩:=k5 hc
   exact ⟨_,ad,n1,c,e,by simp,hc,by rw [f2,←hg,f1];rfl⟩
  ·rw [k4 (by omega)] at hg;cases hg
theorem qoo {ng:Bool} {n:Nat} {xs:List Int} (lo:Nat) (v:Value) (w:World) (B:Bx) (h:(P5 lo ng n xs).p v w B) (b:Nat) (hb:Jm v b):lo≤b:=by
 obtain ⟨g,h1,h2⟩:=h
 exact h1 b ((Oj h2 b).1 hb)
theorem qj2 {ng:Bool} {n:Nat} {xs:List Int} {lo:Nat} (v:Value) (w:World) (B:Bx) (h:(P5 lo ng n xs).p v w B) (b:Nat) (hb:Jm v b):b<w.heap.size:=by
 obtain ⟨g,h1,h2⟩:=h
 have h3:=(Oj h2 b).1 hb
 obtain ⟨sl,_,h4,_⟩:=h2
 exact h4.lt b h3
theorem ql9 {ng:Bool} {n:Nat} {xs:List Int} (lo lo2:Nat) (v:Value) (w:World) (B:Bx) (hl:lo≤lo2) (h:(P5 lo2 ng n xs).p v w B):(P5 lo ng n xs).p v w B:=by
 obtain ⟨g,h1,h2⟩:=h
 exact ⟨g,fun b hb=>Nat.le_trans hl (h1 b hb),h2⟩
section
variable {P:Program} {N:Nat} {w0:World} {B0:Bx} {a:Act} {w:World} {B:Bx} {l:List (Tmp × FD)} {bxs:List Tmp}
theorem St.nameG10 (H:St N w0 B0 a w B l bxs) (i j:Nat) {s t:Tmp} {lo:Nat} {Xs Ys:List Int} (hi:l[i]?=some (s,.val (Gt lo Xs))) (hj:l[j]?=some (t,.val (Gt lo Ys))) (G:∀b,Jm (a.tmps.getD s undef) b→¬Jm (a.tmps.getD t undef) b)
  {l':List (Option Nat)→List (Option Nat)→List (Tmp × FD)} (hl:∀gs gt,(l.set i (s,.val (T10 gs Xs))).set j (t,.val (T10 gt Ys))=l' gs gt):∃gs gt,Apt lo w.heap.size gs∧Apt lo w.heap.size gt∧(∀i j b,gs.getD i none=some b→gt.getD j none≠some b)∧St N w0 B0 a w B (l' gs gt) bxs:=by
 obtain ⟨gs,h1,h2⟩:=H.fc.get i hi
 obtain ⟨gt,k1,k2⟩:=H.fc.get j hj
 have out:∀(gs:List (Option Nat)) (i b:Nat),gs.length=10→gs.getD i none=some b→i<10:=fun gs i b hl hb=>by
  rcases Nat.lt_or_ge i 10 with h | h
  ·exact h
  ·rw [List.getD_eq_getElem?_getD,List.getElem?_eq_none (by omega)] at hb;cases hb
 refine ⟨gs,gt,h1,k1,fun i j b hb hb2=>G b ((Qo h2 b).2 ⟨i,out gs i b h1.len hb,hb⟩) ((Qo k2 b).2 ⟨j,out gt j b k1.len hb2,hb2⟩),H.df,H.sz,Fct.of_all fun x hx=>?_,H.bx,H.ap,H.bel,H.own,H.own0⟩
 rw [←hl] at hx
 rcases List.mem_or_eq_of_mem_set hx with h | h
 ·rcases List.mem_or_eq_of_mem_set h with h | h
  ·exact H.fc.all x h
  ·subst h;exact h2
 ·subst h;exact k2
theorem St.nameGT (H:St N w0 B0 a w B l bxs) (i j:Nat) {s t:Tmp} {lo:Nat} {ng ng2:Bool} {n n2:Nat} {xs ys:List Int} (hi:l[i]?=some (s,.val (P5 lo ng n xs))) (hj:l[j]?=some (t,.val (P5 lo ng2 n2 ys))) (G:∀b,Jm (a.tmps.getD s undef) b→¬Jm (a.tmps.getD t undef) b)
  {l':Option Nat→Option Nat→List (Tmp × FD)} (hl:∀g k,(l.set i (s,.val (jc g ng n xs))).set j (t,.val (jc k ng2 n2 ys))=l' g k):∃g k,(∀b,g=some b→lo≤b∧b<w.heap.size)∧(∀b,k=some b→lo≤b∧b<w.heap.size)∧(∀b,g=some b→k≠some b)∧St N w0 B0 a w B (l' g k) bxs:=by
 have f1:=H.fc.get i hi
 have f2:=H.fc.get j hj
 have g1:=qj2 _ _ _ f1
 have g2:=qj2 _ _ _ f2
 obtain ⟨g,h1,h2⟩:=f1
 obtain ⟨k,k1,k2⟩:=f2
 refine ⟨g,k,fun b hb=>⟨h1 b hb,g1 b ((Oj h2 b).2 hb)⟩,fun b hb=>⟨k1 b hb,g2 b ((Oj k2 b).2 hb)⟩,fun b hb hb2=>G b ((Oj h2 b).2 hb) ((Oj k2 b).2 hb2),H.df,H.sz,Fct.of_all fun x hx=>?_,H.bx,H.ap,H.bel,H.own,H.own0⟩
 rw [←hl] at hx
 rcases List.mem_or_eq_of_mem_set hx with h | h
 ·rcases List.mem_or_eq_of_mem_set h with h | h
  ·exact H.fc.all x h
  ·subst h;exact h2
 ·subst h;exact k2
end
end Go.Proofs.YtbcbmkeeoognpaaGreatDoor
