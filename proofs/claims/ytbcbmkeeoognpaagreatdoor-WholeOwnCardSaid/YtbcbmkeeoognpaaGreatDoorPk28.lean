/- Contracts of functions, and plain facts, part 28. -/
import Derived.Test.YtbcbmkeeoognpaaGreatDoorPk4
import Derived.Test.YtbcbmkeeoognpaaGreatDoorPk6
import Derived.Test.YtbcbmkeeoognpaaGreatDoorPk10
import Derived.Test.YtbcbmkeeoognpaaGreatDoorPk11
import Derived.Test.YtbcbmkeeoognpaaGreatDoorPk12
import Derived.Test.YtbcbmkeeoognpaaGreatDoorPk13
import Derived.Test.YtbcbmkeeoognpaaGreatDoorPk16
import Derived.Test.YtbcbmkeeoognpaaGreatDoorPk17
import Derived.Test.YtbcbmkeeoognpaaGreatDoorPk22
import Derived.Test.YtbcbmkeeoognpaaGreatDoorPk26
set_option linter.unusedVariables false
set_option linter.unusedSimpArgs false
set_option maxRecDepth 50000
namespace Go.Proofs.YtbcbmkeeoognpaaGreatDoor
open Go Go.RowKit
def qa7 (lo:Nat) (X Y:Int) (b:Bool):VP:=⟨fun v w B=>∃g k,(∀b,g=some b→lo≤b)∧(∀b,k=some b→lo≤b)∧(∀b,g=some b→k≠some b)∧(Tup [qj g (IsI X),qj k (IsI Y),IsB b]).p v w B,fun v w B w' B' h ⟨g,k,h1,h2,h3,h4⟩=>⟨g,k,h1,h2,h3,(Tup [qj g (IsI X),qj k (IsI Y),IsB b]).st v w B w' B' h h4⟩⟩
theorem P6.lt {g:Option Nat} {v:Value} {w:World} {B:Bx} (h:P6 g v w B) (b:Nat) (hb:g=some b):b<w.heap.size:=by
 obtain ⟨c,sl,e,h⟩:=h
 exact h.lt b hb
theorem qcy (v:Value) (w:World) (B:Bx) (h:qp.p v w B):(qj none (IsI 0)).p v w B:=by
 have h2:=qlk v w B h
 obtain rfl:=h
 exact ⟨⟨false,_,rfl,qd5 w B⟩,h2⟩
theorem Qh {g:Option Nat} {A N:Int} (e:A=N) {v:Value} {w:World} {B:Bx} (h:(qj g (IsI A)).p v w B):(qj g (IsI N)).p v w B:=e ▸ h
section
variable {P:Program} {N:Nat} {w0:World} {B0:Bx} {a:Act} {w:World} {B:Bx} {l:List (Tmp × FD)} {bxs:List Tmp}
theorem St.namePrI (H:St N w0 B0 a w B l bxs) (i:Nat) {s:Tmp} {lo:Nat} {X Y:Int} {c:Bool} (hi:l[i]?=some (s,.val (qa7 lo X Y c))) {l':Option Nat→Option Nat→List (Tmp × FD)} (hl:∀g k,l.set i (s,.val (Tup [qj g (IsI X),qj k (IsI Y),IsB c]))=l' g k) :
  ∃g k,(∀b,g=some b→lo≤b∧b<w.heap.size)∧(∀b,k=some b→lo≤b∧b<w.heap.size)∧(∀b,g=some b→k≠some b)∧St N w0 B0 a w B (l' g k) bxs:=by
 obtain ⟨g,k,h1,h2,h3,h4⟩:=H.fc.get i hi
 have h5:=h4
 obtain ⟨vs,e,hv⟩:=h5
 obtain ⟨v1,_,q1⟩:=hv.get 0 _ rfl
 obtain ⟨v2,_,q2⟩:=hv.get 1 _ rfl
 refine ⟨g,k,fun b hb=>⟨h1 b hb,q1.1.lt b hb⟩,fun b hb=>⟨h2 b hb,q2.1.lt b hb⟩,h3,H.df,H.sz,Fct.of_all fun x hx=>?_,H.bx,H.ap,H.bel,H.own,H.own0⟩
 rw [←hl] at hx
 rcases List.mem_or_eq_of_mem_set hx with h | h
 ·exact H.fc.all x h
 ·subst h;exact h4
theorem qfg {fn:Func} {rs:List ResultVar} {Ds:List VP} {R:VP} (H:St N w0 B0 a w B l bxs) (hr:fn.results=rs.toArray) (hn:decide (rs.length=1)=false) (h:O5 P l rs Ds) (hR:∀v w B,(Tup Ds).p v w B→R.p v w B) :
  bodyPost P fn (fun e w'=>∃v,e=.returned v∧R.p v w' B0∧Below w0.heap.size w0 w') .ret a w:=by
 obtain ⟨h1,v,h2,u,e,h3,h4⟩:=Dj H hr hn h
 exact ⟨h1,v,h2,u,e,hR _ _ _ h3,h4⟩
end
theorem qkl (X Y:Int):(if sgI X*sgI Y = -1 then -((X.natAbs:Int) / (Y.natAbs:Int)) else (X.natAbs:Int) / (Y.natAbs:Int))=X.tdiv Y:=by
 rw [Xl]
 obtain ⟨q1,q2,_,_⟩:=Rk X Y _ _ rfl rfl
 have h0:(0:Int)≤(X.natAbs:Int) / (Y.natAbs:Int):=Int.ediv_nonneg (by omega) (by omega)
 generalize (X.natAbs:Int) / (Y.natAbs:Int)=V at *
 generalize X.tdiv Y=Q at *
 by_cases h:sgI (X*Y) = -1
 ·rw [if_pos h]
  rw [decide_eq_true h,Bool.true_and] at q2
  have:=decide_eq_decide.1 q2
  omega
 ·rw [if_neg h]
  rw [decide_eq_false h,Bool.false_and] at q2
  have:=of_decide_eq_false q2.symm
  omega
theorem qkm (X Y:Int):(if sgI X = -1 then -(if (Y.natAbs:Int)=0 then 0 else (X.natAbs:Int) % (Y.natAbs:Int)) else if (Y.natAbs:Int)=0 then 0 else (X.natAbs:Int) % (Y.natAbs:Int))=vg X Y:=by
 obtain ⟨_,_,q1,q2⟩:=Rk X Y _ _ rfl rfl
 have e:(if (Y.natAbs:Int)=0 then 0 else (X.natAbs:Int) % (Y.natAbs:Int))=O0 (X.natAbs:Int) (Y.natAbs:Int):=rfl
 rw [e]
 generalize O0 (X.natAbs:Int) (Y.natAbs:Int)=V at *
 generalize vg X Y=Q at *
 by_cases h:sgI X = -1
 ·rw [if_pos h]
  rw [decide_eq_true h,Bool.true_and] at q2
  have:=decide_eq_decide.1 q2
  omega
 ·rw [if_neg h]
  rw [decide_eq_false h,Bool.false_and] at q2
  have:=of_decide_eq_false q2.symm
  omega
theorem qka {lo:Nat} {N:Int} {v:Value} {w w':World} {B:Bx} (hlo:lo≤w.heap.size) (hB:Hz B w) (h:(zn N).p v w' (Old w)):(qo lo (IsI N)).p v w' B:=by
 obtain ⟨k1,g1,p1⟩:=h
 have p2:=p1.fresh hB
 exact ⟨g1,fun b hb=>Nat.le_trans hlo (p2.1 b hb),p2.2,k1⟩
theorem qoy {us:List Value} {D1 D2 D3:VP} {w:World} {B:Bx} (h:Ia us [D1,D2,D3] w B):∃u1 u2 u3,us=[u1,u2,u3]∧D1.p u1 w B∧D2.p u2 w B∧D3.p u3 w B:=by
 match us,h with
 | [u1,u2,u3],⟨h1,h2,h3,_⟩=>exact ⟨u1,u2,u3,rfl,h1,h2,h3⟩
theorem qox {us:List Value} {D1 D2:VP} {w:World} {B:Bx} (h:Ia us [D1,D2] w B):∃u1 u2,us=[u1,u2]∧D1.p u1 w B∧D2.p u2 w B:=by
 match us,h with
 | [u1,u2],⟨h1,h2,_⟩=>exact ⟨u1,u2,rfl,h1,h2⟩
theorem qle {u1 u2 u3:Value} {D1 D2 D3:VP} {w:World} {B:Bx} (h1:D1.p u1 w B) (h2:D2.p u2 w B) (h3:D3.p u3 w B):Ia [u1,u2,u3] [D1,D2,D3] w B:=⟨h1,h2,h3,trivial⟩
theorem qld {u1 u2:Value} {D1 D2:VP} {w:World} {B:Bx} (h1:D1.p u1 w B) (h2:D2.p u2 w B):Ia [u1,u2] [D1,D2] w B:=⟨h1,h2,trivial⟩
theorem Con.freshI3 {P:Program} {f:FuncId} {Ds:List VP} {N M:Int} {b:Bool} (h:Con P f Ds (Tup [zn N,zn M,IsB b])) (hfree:∀vs w B B',Ia vs Ds w B→Ia vs Ds w B'):Oz P f Ds (fun lo=>Tup [qo lo (IsI N),qo lo (IsI M),IsB b]):=by
 refine ⟨h.enters,fun lo vs w B hlo hB hV=>(h.calls vs w (Old w) (Uj w) (hfree _ _ _ _ hV)).mono ?_⟩
 rintro e w' ⟨v,e1,⟨us,e2,hu⟩,h3⟩
 obtain ⟨u1,u2,u3,rfl,q1,q2,q3⟩:=qoy hu
 exact ⟨v,e1,⟨_,e2,qle (qka hlo hB q1) (qka hlo hB q2) q3⟩,h3⟩
theorem Con.freshI2 {P:Program} {f:FuncId} {Ds:List VP} {N:Int} {b:Bool} (h:Con P f Ds (Tup [zn N,IsB b])) (hfree:∀vs w B B',Ia vs Ds w B→Ia vs Ds w B'):Oz P f Ds (fun lo=>Tup [qo lo (IsI N),IsB b]):=by
 refine ⟨h.enters,fun lo vs w B hlo hB hV=>(h.calls vs w (Old w) (Uj w) (hfree _ _ _ _ hV)).mono ?_⟩
 rintro e w' ⟨v,e1,⟨us,e2,hu⟩,h3⟩
 obtain ⟨u1,u3,rfl,q1,q3⟩:=qox hu
 exact ⟨v,e1,⟨_,e2,qld (qka hlo hB q1) q3⟩,h3⟩
end Go.Proofs.YtbcbmkeeoognpaaGreatDoor

namespace Go.Proofs.YtbcbmkeeoognpaaGreatDoor
open Go Go.RowKit
end Go.Proofs.YtbcbmkeeoognpaaGreatDoor

set_option maxRecDepth 50000
namespace Go.Proofs.YtbcbmkeeoognpaaGreatDoor
open Go Go.RowKit
structure Aps (lo m:Nat) (gs:List (Option Nat)):Prop where
 len:gs.length=7
 lo:∀j b,gs.getD j none=some b→lo≤b∧b<m
 ap:∀i j b,i<7→j<7→i≠j→gs.getD i none=some b→gs.getD j none≠some b
section
variable {P:Program} {need:List (Tmp × FD)} {d:Option Tmp} {ty:TypeId} {pos:String} {af:Array Edge} {g:Option (Nat × Bool)} {x y x0 x1 x2 x3 x4 x5 x6:Operand} {D:VP}
end
section
variable {P:Program} {ops:Array Oper} {Q:Exit→Act→World→Prop} {N:Nat} {w0:World} {B0:Bx} {a:Act} {w:World} {B:Bx} {l:List (Tmp × FD)} {bxs:List Tmp}
end
end Go.Proofs.YtbcbmkeeoognpaaGreatDoor

set_option maxRecDepth 50000
namespace Go.Proofs.YtbcbmkeeoognpaaGreatDoor
open Go Go.RowKit
abbrev C2:=Bool × Option Addr × Nat × Nat
def qf4 (p:C2):Value:=.agg #[.bool p.1,.slice p.2.1 p.2.2.1 p.2.2.2]
def flat:List C2→List Value
 | []=>[]
 | p :: l=>.bool p.1 :: .slice p.2.1 p.2.2.1 p.2.2.2 :: flat l
theorem qb6:∀l:List C2,(flat l).length=2*l.length
 | []=>rfl
 | p :: l=>by simp only [flat,List.length_cons,qb6 l];omega
theorem flat_get:∀(l:List C2) (j:Nat) (p:C2),l[j]?=some p→(flat l)[2*j]?=some (.bool p.1)∧(flat l)[2*j+1]?=some (.slice p.2.1 p.2.2.1 p.2.2.2)
 | [],j,p,h=>by simp at h
 | q :: l,0,p,h=>by
  simp at h
  subst h
  exact ⟨rfl,rfl⟩
 | q :: l,j+1,p,h=>by
  have h2:=flat_get l j p (by simpa using h)
  rw [show 2*(j+1)=(2*j)+2 by omega,show 2*j+2+1=(2*j+1)+2 by omega]
  exact h2
theorem qb7:∀(l:List C2) (j:Nat) (p:C2),flat (l.set j p)=((flat l).set (2*j) (.bool p.1)).set (2*j+1) (.slice p.2.1 p.2.2.1 p.2.2.2)
 | [],j,p=>rfl
 | q :: l,0,p=>rfl
 | q :: l,j+1,p=>by
  rw [show 2*(j+1)=(2*j)+2 by omega,show 2*j+2+1=(2*j+1)+2 by omega]
  show _ :: _ :: flat (l.set j p)=_ :: _ :: ((flat l).set (2*j) _).set (2*j+1) _
  rw [qb7 l j p]
theorem Vh:∀(l:List C2),∀v∈flat l,(∃b,v=.bool b)∨∃ad n c,v=.slice ad n c
 | [],v,h=>by cases h
 | p :: l,v,h=>by
  simp only [flat,List.mem_cons] at h
  rcases h with rfl | rfl | h
  ·exact .inl ⟨_,rfl⟩
  ·exact .inr ⟨_,_,_,rfl⟩
  ·exact Vh l v h
def P10 (Ds:Nat→VP) (v:Value) (w:World) (B:Bx):Prop:=∃l:List C2,l.length=10∧v=.agg (flat l).toArray∧∀j p,l[j]?=some p→(Ds j).p (qf4 p) w B
def jb (Ds:Nat→VP):VP:=⟨P10 Ds,fun v w B w' B' h ⟨l,hl,e,hp⟩=>⟨l,hl,e,fun j p hj=>(Ds j).st _ _ _ _ _ h (hp j p hj)⟩⟩
theorem qa1 {Ds Es:Nat→VP} (h:∀j,j<10→∀v w B,(Ds j).p v w B→(Es j).p v w B) (v:Value) (w:World) (B:Bx) (hp:(jb Ds).p v w B):(jb Es).p v w B:=by
 obtain ⟨l,hl,e,hp⟩:=hp
 exact ⟨l,hl,e,fun j p hj=>h j (by have:=(List.getElem?_eq_some_iff.1 hj).1;omega) _ _ _ (hp j p hj)⟩
theorem Bj {Ds:Nat→VP}:Shape 20 (jb Ds):=fun v w B ⟨l,hl,e,_⟩=>⟨_,e,by simp [qb6,hl],by
 simp only [List.all_toArray,List.all_eq_true]
 intro u hu
 rcases Vh l u hu with ⟨b,rfl⟩ | ⟨ad,n,c,rfl⟩ <;> rfl,fun j ik x hk hj=>by
 have hm:=Array.mem_of_getElem? hj
 rcases Vh l _ (by simpa using hm) with ⟨b,e⟩ | ⟨ad,n,c,e⟩ <;> cases e⟩
def lst (Ls:List VP) (j:Nat):VP:=Ls.getD j VP.top
theorem qmf (Ls:List VP) (E:VP) (j:Nat):lst (Ls++[E]) j=if j=Ls.length then E else lst Ls j:=by
 unfold lst
 by_cases h:j=Ls.length
 ·subst h;simp [List.getD_eq_getElem?_getD]
 ·rw [if_neg h]
  simp only [List.getD_eq_getElem?_getD]
  by_cases h2:j<Ls.length
  ·rw [List.getElem?_append_left h2]
  ·rw [List.getElem?_append_right (by omega),List.getElem?_eq_none (l:=Ls) (by omega),List.getElem?_eq_none (by simp;omega)]
abbrev G7 (Xs:List Int):VP:=jb fun j=>IsI (Xs.getD j 0)
abbrev xq (lo:Nat) (Xs:List Int):VP:=jb fun j=>qo lo (IsI (Xs.getD j 0))
abbrev T10 (gs:List (Option Nat)) (Xs:List Int):VP:=jb fun j=>qj (gs.getD j none) (IsI (Xs.getD j 0))
structure Apt (lo m:Nat) (gs:List (Option Nat)):Prop where
 len:gs.length=10
 lo:∀j b,gs.getD j none=some b→lo≤b∧b<m
 ap:∀i j b,i<10→j<10→i≠j→gs.getD i none=some b→gs.getD j none≠some b
theorem Apt.mono {lo m m2:Nat} {gs:List (Option Nat)} (h:Apt lo m gs) (hm:m≤m2):Apt lo m2 gs:=⟨h.len,fun j b hb=>⟨(h.lo j b hb).1,Nat.lt_of_lt_of_le (h.lo j b hb).2 hm⟩,h.ap⟩
def Gt (lo:Nat) (Xs:List Int):VP:=⟨fun v w B=>∃gs,Apt lo w.heap.size gs∧(T10 gs Xs).p v w B,fun v w B w' B' h ⟨gs,h1,h2⟩=>⟨gs,h1.mono h.size,(T10 gs Xs).st _ _ _ _ _ h h2⟩⟩
theorem Rn {lo:Nat} {Xs:List Int}:Shape 20 (Gt lo Xs):=fun v w B ⟨gs,_,h⟩=>Bj v w B h
theorem Xt {gs:List (Option Nat)} {Xs:List Int} (v:Value) (w:World) (B:Bx) (h:(T10 gs Xs).p v w B):(G7 Xs).p v w B:=qa1 (fun j _ v w B h=>qm0 v w B h) v w B h
theorem Pz {lo:Nat} {Xs:List Int} (v:Value) (w:World) (B:Bx) (h:(xq lo Xs).p v w B):(G7 Xs).p v w B:=qa1 (fun j _ v w B h=>qfx _ _ _ h) v w B h
theorem Dz:Zy Tryz.prog 76 20:=⟨⟨_,Tryz.underlying76,rfl⟩,by kernel_rfl⟩
theorem qoa:(Tryz.prog.info? 76).map (·.zero)=some (some (.agg (flat (List.replicate 10 (false,none,0,0))).toArray)):=by kernel_rfl
section
variable {P:Program} {need:List (Tmp × FD)} {d:Option Tmp} {ty:TypeId} {pos:String} {af:Array Edge} {g:Option (Nat × Bool)} {x y:Operand} {D:VP}
theorem Dx:jo Tryz.prog ⟨d,.alloc 76,ty,pos,af,g⟩ need (.box 76 20 (jb (lst []))) true:=yw qoa rfl fun w B=>⟨_,by simp,rfl,fun j p _=>trivial⟩
theorem Zk (b j:Nat) (hj:j<10) (w:World):(Instr.indexAt 74 (.pointer (some ⟨b,0,none⟩)) (.int .i64 j)).run Tryz.prog w=.ok (.pointer (some ⟨b,2*j,none⟩)) w:=by
 rcases j with _ | _ | _ | _ | _ | _ | _ | _ | _ | _ | j
 ·go_simp
 ·go_simp
 ·go_simp
 ·go_simp
 ·go_simp
 ·go_simp
 ·go_simp
 ·go_simp
 ·go_simp
 ·go_simp
 ·omega
theorem qht (b:Nat) (w:World):(Instr.fieldAt 76 (.pointer (some ⟨b,0,none⟩)) 0).run Tryz.prog w=.ok (.pointer (some ⟨b,0,none⟩)) w:=by go_simp
theorem Wv (h:Opd need x (.box 76 20 D)):jo Tryz.prog ⟨d,.fieldAddr 76 x 0,ty,pos,af,g⟩ need (.ptr 76 20 D 0) false:=
 Dn 0 0 Tryz.underlying76 rfl rfl (fun w=>⟨20,by go_simp,by decide⟩) h
theorem Wx {i:Int} (j:Nat) (hj:j<10) (hi:i=j) (h:Opd need x (.ptr 76 20 D 0)) (h':Opd need y (.val (Lit (.int .i64 i)))):jo Tryz.prog ⟨d,.indexAddr 74 x y,ty,pos,af,g⟩ need (.ptr 76 20 D (2*j)) false:=
 jo.value fun a w B hF=>by
  obtain ⟨b,cs,h1,h2,h3,h4,h5,h6⟩:=h a w B hF
  have e2:a.eval y=.int .i64 j:=hi ▸ h' a w B hF
  refine ⟨.pointer (some ⟨b,2*j,none⟩),?_,b,cs,rfl,h2,h3,h4,h5,h6⟩
  simp only [execOp,h1,e2,Sem.run_bind,Zk b j hj,Result.andThen_ok,Sem.run_pure]
theorem qju (l:List C2) (j:Nat) (p:C2) (h:l[j]?=some p):(flat l).toArray.extract (2*j) (2*j+2) = #[.bool p.1,.slice p.2.1 p.2.2.1 p.2.2.2]:=by
 obtain ⟨h0,h1⟩:=flat_get l j p h
 have hl:=(List.getElem?_eq_some_iff.1 h1).1
 refine Array.ext_getElem? fun i=>?_
 rw [Array.getElem?_extract]
 rcases i with _ | _ | i
 ·rw [if_pos (by simp;omega)]
  simpa using h0
 ·rw [if_pos (by simp;omega)]
  simpa using h1
 ·rw [if_neg (by simp;omega)]
  simp
theorem Zd {Ds:Nat→VP} {j:Nat} (hj:j<10) (h:Opd need x (.ptr 76 20 (jb Ds) (2*j))):jo Tryz.prog ⟨d,.load 52 x,ty,pos,af,g⟩ need (.val (Ds j)) false:=
 Jb tyI h (by omega) fun cs w B ⟨l,hl,e,hp⟩=>by
  injection e with e
  subst e
  obtain ⟨p,hj2⟩:∃p,l[j]?=some p:=⟨_,List.getElem?_eq_getElem (by omega)⟩
  rw [qju l j p hj2]
  exact hp j p hj2
end
end Go.Proofs.YtbcbmkeeoognpaaGreatDoor

namespace Go.Proofs.YtbcbmkeeoognpaaGreatDoor
open Go Go.RowKit
end Go.Proofs.YtbcbmkeeoognpaaGreatDoor

namespace Go.Proofs.YtbcbmkeeoognpaaGreatDoor
open Go Go.RowKit
set_option maxRecDepth 20000 in
set_option maxHeartbeats 2000000 in
theorem qi7 (X Y:Int):Oz Tryz.prog 129 [IsN X,IsN Y] (fun lo=>qa7 lo (X.tdiv Y) (vg X Y) (decide (Y≠0))):=by
 refine Qe (N:=42) Tryz.ntmps129 (fun _ _=>by go_simp) Tryz.func129 rfl (by simp) ?_
 intro lo a0 w0 B0 H0
 replace H0:St 42 w0 B0 a0 w0 B0 [(0,.val (IsN X)),(1,.val (IsN Y)),(42,zs lo)] []:=H0
 refine wp_seq ?_
 refine fr (refs:=[[.pre 0],[.pre 1],[],[],[]]) (outs:=[.res 0,.res 1,.res 2,.res 3,.res 4,.pre 2]) (als:=[true,true,true,true,false]) (posts:=[.box 52 2 (IsN X),.box 52 2 (IsN Y),.box 52 2 (qp),.box 52 2 (qp),bv false])
  (out:=[(2,.box 52 2 (IsN X)),(3,.box 52 2 (IsN Y)),(4,.box 52 2 (qp)),(5,.box 52 2 (qp)),(6,bv false),(42,zs lo)]) (nb:=[2,3,4,5]) H0 5 [] rfl (by kernel_rfl) rfl rfl ?_ ?_
 ·refine cp (Bq (.tmp 0 rfl) Bc.two) ?_
  refine cp (Bq (.tmp 0 rfl) Bc.two) ?_
  refine cp (yw (D:=qp) Dq rfl (fun _ _=>rfl)) ?_
  refine cp (yw (D:=qp) Dq rfl (fun _ _=>rfl)) ?_
  refine cp (qm (.lit)) ?_
  exact .nil
 clear H0
 intro a1 w1 B1 H1
 simp only [List.cons_append,List.nil_append] at H1
 refine qi ?_
 refine qg ?_
 refine wp_seq ?_
 refine fr (refs:=[[.pre 0],[.res 0],[.res 1],[.res 2],[.res 2],[.res 3],[.res 4]]) (outs:=[.res 5,.res 6]++pr 1 5) (als:=fs 7) (posts:=[.val (IsN X),.val (Tup [Lit (.int .i8 (sgI X)),zg ((X).natAbs:Int)]),.val (Tup [Lit (.int .i8 (sgI X)),zg ((X).natAbs:Int)]),.val (Lit (.int .i8 (sgI X))),.val (zg ((X).natAbs:Int)),.val (Lit (.int .i8 (sgI X))),.val (zg ((X).natAbs:Int))])
  (out:=[(7,.val (Lit (.int .i8 (sgI X)))),(8,.val (zg ((X).natAbs:Int))),(3,.box 52 2 (IsN Y)),(4,.box 52 2 (qp)),(5,.box 52 2 (qp)),(6,bv false),(42,zs lo)]) (nb:=[]) H1 7 [] rfl (by kernel_rfl) rfl rfl ?_ ?_
 ·refine cp (zo tyI (.tmp 0 rfl)) ?_
  refine cp (zl (Dp X) (.cons (.tmp 0 rfl) (.nil))) ?_
  refine cp (qh (.tmp 0 rfl)) ?_
  refine cp (zq 0 (.tmp 0 rfl) rfl) ?_
  refine cp (zq 1 (.tmp 0 rfl) rfl) ?_
  refine cp (qm (.tmp 0 rfl)) ?_
  refine cp (qm (.tmp 0 rfl)) ?_
  exact .nil
 clear H1 a1 w1 B1
 intro a2 w2 B2 H2
 refine qi ?_
 refine qg ?_
 refine wp_seq ?_
 refine fr (refs:=[[.pre 2],[.res 0],[.res 1],[.res 2],[.res 2],[.res 3],[.res 4]]) (outs:=[.res 5,.res 6,.pre 0,.pre 1]++pr 3 4) (als:=fs 7) (posts:=[.val (IsN Y),.val (Tup [Lit (.int .i8 (sgI Y)),zg ((Y).natAbs:Int)]),.val (Tup [Lit (.int .i8 (sgI Y)),zg ((Y).natAbs:Int)]),.val (Lit (.int .i8 (sgI Y))),.val (zg ((Y).natAbs:Int)),.val (Lit (.int .i8 (sgI Y))),.val (zg ((Y).natAbs:Int))])
  (out:=[(9,.val (Lit (.int .i8 (sgI Y)))),(10,.val (zg ((Y).natAbs:Int))),(7,.val (Lit (.int .i8 (sgI X)))),(8,.val (zg ((X).natAbs:Int))),(4,.box 52 2 (qp)),(5,.box 52 2 (qp)),(6,bv false),(42,zs lo)]) (nb:=[]) H2 7 [] rfl (by kernel_rfl) rfl rfl ?_ ?_
 ·refine cp (zo tyI (.tmp 0 rfl)) ?_
  refine cp (zl (Dp Y) (.cons (.tmp 0 rfl) (.nil))) ?_
  refine cp (qh (.tmp 0 rfl)) ?_
  refine cp (zq 0 (.tmp 0 rfl) rfl) ?_
  refine cp (zq 1 (.tmp 0 rfl) rfl) ?_
  refine cp (qm (.tmp 0 rfl)) ?_
  refine cp (qm (.tmp 0 rfl)) ?_
  exact .nil
 clear H2 a2 w2 B2
 intro a3 w3 B3 H3
 refine qi ?_
 refine qg ?_
 refine wp_seq ?_
 refine fr (refs:=[[.pre 3],[.pre 1],[.res 0,.res 1,.pre 7],[.res 2]]) (outs:=[.res 3,.pre 0,.pre 2]++pr 4 4) (als:=fs 4) (posts:=[.val (zg ((X).natAbs:Int)),.val (zg ((Y).natAbs:Int)),.val (qid lo (IsC (((X).natAbs:Int) / ((Y).natAbs:Int))) (IsC (if ((Y).natAbs:Int)=0 then 0 else ((X).natAbs:Int) % ((Y).natAbs:Int))) (decide (((Y).natAbs:Int)≠0))),.val (qid lo (IsC (((X).natAbs:Int) / ((Y).natAbs:Int))) (IsC (if ((Y).natAbs:Int)=0 then 0 else ((X).natAbs:Int) % ((Y).natAbs:Int))) (decide (((Y).natAbs:Int)≠0)))])
  (out:=[(23,.val (qid lo (IsC (((X).natAbs:Int) / ((Y).natAbs:Int))) (IsC (if ((Y).natAbs:Int)=0 then 0 else ((X).natAbs:Int) % ((Y).natAbs:Int))) (decide (((Y).natAbs:Int)≠0)))),(9,.val (Lit (.int .i8 (sgI Y)))),(7,.val (Lit (.int .i8 (sgI X)))),(4,.box 52 2 (qp)),(5,.box 52 2 (qp)),(6,bv false),(42,zs lo)]) (nb:=[]) H3 4 [4,5,6,7,8,9] rfl (by kernel_rfl) rfl rfl ?_ ?_
 ·refine cp (qh (.tmp 0 rfl)) ?_
  refine cp (qh (.tmp 0 rfl)) ?_
  refine cp (y9 2 (qgj ((X).natAbs:Int) ((Y).natAbs:Int)) rfl (.cons (.weak (.tmp 0 rfl) Di) (.cons (.weak (.tmp 1 rfl) Di) (.nil)))) ?_
  refine cp (qh (.tmp 0 rfl)) ?_
  exact .nil
 clear H3 a3 w3 B3
 intro a4 w4 B4 H4
 obtain ⟨g5,k5,hg5,hk5,hn5,H5⟩:=St.namePr H4 0 rfl (l':=fun g5 k5=>[(23,.val (Tup [Ac g5 (IsC (((X).natAbs:Int) / ((Y).natAbs:Int))),Ac k5 (IsC (if ((Y).natAbs:Int)=0 then 0 else ((X).natAbs:Int) % ((Y).natAbs:Int))),IsB (decide (((Y).natAbs:Int)≠0))])),(9,.val (Lit (.int .i8 (sgI Y)))),(7,.val (Lit (.int .i8 (sgI X)))),(4,.box 52 2 (qp)),(5,.box 52 2 (qp)),(6,bv false),(42,zs lo)]) (fun _ _=>rfl)
 clear H4
 replace H5:St 42 w0 B0 a4 w4 B4 [(23,.val (Tup [Ac g5 (IsC (((X).natAbs:Int) / ((Y).natAbs:Int))),Ac k5 (IsC (if ((Y).natAbs:Int)=0 then 0 else ((X).natAbs:Int) % ((Y).natAbs:Int))),IsB (decide (((Y).natAbs:Int)≠0))])),(9,.val (Lit (.int .i8 (sgI Y)))),(7,.val (Lit (.int .i8 (sgI X)))),(4,.box 52 2 (qp)),(5,.box 52 2 (qp)),(6,bv false),(42,zs lo)] [2,3,4,5]:=H5
 have hz6:lo≤w4.heap.size:=H5.fc.get 6 rfl
 obtain ⟨m7,hm7,hw7,hL7,H7⟩:=St.mark H5 907
 clear H5
 clear hL7
 replace hz6:lo≤m7:=Nat.le_trans hz6 hw7
 replace hg5:∀b,g5=some b→lo≤b∧b<m7:=fun b hb=>⟨(hg5 b hb).1,Nat.lt_of_lt_of_le (hg5 b hb).2 hw7⟩
 replace hk5:∀b,k5=some b→lo≤b∧b<m7:=fun b hb=>⟨(hk5 b hb).1,Nat.lt_of_lt_of_le (hk5 b hb).2 hw7⟩
 clear hw7
 refine zi ?_
 refine jm (D:=.val (Ac g5 (IsC (((X).natAbs:Int) / ((Y).natAbs:Int))))) (l':=[(27,.val (Ac g5 (IsC (((X).natAbs:Int) / ((Y).natAbs:Int))))),(907,zs m7),(23,.val (Tup [Ac g5 (IsC (((X).natAbs:Int) / ((Y).natAbs:Int))),Ac k5 (IsC (if ((Y).natAbs:Int)=0 then 0 else ((X).natAbs:Int) % ((Y).natAbs:Int))),IsB (decide (((Y).natAbs:Int)≠0))])),(9,.val (Lit (.int .i8 (sgI Y)))),(7,.val (Lit (.int .i8 (sgI X)))),(4,.box 52 2 (qp)),(5,.box 52 2 (qp)),(6,bv false),(42,zs lo)]) H7 rfl rfl rfl (.plain rfl (zq 0 (.tmp 1 rfl) rfl)) rfl rfl ?_
 clear H7 a4 w4 B4
 intro a8 w8 B8 H8
 refine zi ?_
 refine jm (D:=.val (Ac k5 (IsC (if ((Y).natAbs:Int)=0 then 0 else ((X).natAbs:Int) % ((Y).natAbs:Int))))) (l':=[(28,.val (Ac k5 (IsC (if ((Y).natAbs:Int)=0 then 0 else ((X).natAbs:Int) % ((Y).natAbs:Int))))),(27,.val (Ac g5 (IsC (((X).natAbs:Int) / ((Y).natAbs:Int))))),(907,zs m7),(23,.val (Tup [Ac g5 (IsC (((X).natAbs:Int) / ((Y).natAbs:Int))),Ac k5 (IsC (if ((Y).natAbs:Int)=0 then 0 else ((X).natAbs:Int) % ((Y).natAbs:Int))),IsB (decide (((Y).natAbs:Int)≠0))])),(9,.val (Lit (.int .i8 (sgI Y)))),(7,.val (Lit (.int .i8 (sgI X)))),(4,.box 52 2 (qp)),(5,.box 52 2 (qp)),(6,bv false),(42,zs lo)]) H8 rfl rfl rfl (.plain rfl (zq 1 (.tmp 2 rfl) rfl)) rfl rfl ?_
 clear H8 a8 w8 B8
 intro a9 w9 B9 H9
 refine zi ?_
 refine jm (D:=bv (decide (((Y).natAbs:Int)≠0))) (l':=[(29,bv (decide (((Y).natAbs:Int)≠0))),(28,.val (Ac k5 (IsC (if ((Y).natAbs:Int)=0 then 0 else ((X).natAbs:Int) % ((Y).natAbs:Int))))),(27,.val (Ac g5 (IsC (((X).natAbs:Int) / ((Y).natAbs:Int))))),(907,zs m7),(23,.val (Tup [Ac g5 (IsC (((X).natAbs:Int) / ((Y).natAbs:Int))),Ac k5 (IsC (if ((Y).natAbs:Int)=0 then 0 else ((X).natAbs:Int) % ((Y).natAbs:Int))),IsB (decide (((Y).natAbs:Int)≠0))])),(9,.val (Lit (.int .i8 (sgI Y)))),(7,.val (Lit (.int .i8 (sgI X)))),(4,.box 52 2 (qp)),(5,.box 52 2 (qp)),(6,bv false),(42,zs lo)]) H9 rfl rfl rfl (.plain rfl (zq 2 (.tmp 3 rfl) rfl)) rfl rfl ?_
 clear H9 a9 w9 B9
 intro a10 w10 B10 H10
 refine zi ?_
 refine jm (D:=.val (Ac g5 (IsC (((X).natAbs:Int) / ((Y).natAbs:Int))))) (l':=[(11,.val (Ac g5 (IsC (((X).natAbs:Int) / ((Y).natAbs:Int))))),(29,bv (decide (((Y).natAbs:Int)≠0))),(28,.val (Ac k5 (IsC (if ((Y).natAbs:Int)=0 then 0 else ((X).natAbs:Int) % ((Y).natAbs:Int))))),(27,.val (Ac g5 (IsC (((X).natAbs:Int) / ((Y).natAbs:Int))))),(907,zs m7),(23,.val (Tup [Ac g5 (IsC (((X).natAbs:Int) / ((Y).natAbs:Int))),Ac k5 (IsC (if ((Y).natAbs:Int)=0 then 0 else ((X).natAbs:Int) % ((Y).natAbs:Int))),IsB (decide (((Y).natAbs:Int)≠0))])),(9,.val (Lit (.int .i8 (sgI Y)))),(7,.val (Lit (.int .i8 (sgI X)))),(4,.box 52 2 (qp)),(5,.box 52 2 (qp)),(6,bv false),(42,zs lo)]) H10 rfl rfl rfl (.plain rfl (qm (.tmp 2 rfl))) rfl rfl ?_
 clear H10 a10 w10 B10
 intro a11 w11 B11 H11
 refine zi ?_
 refine jm (D:=.val (Ac k5 (IsC (if ((Y).natAbs:Int)=0 then 0 else ((X).natAbs:Int) % ((Y).natAbs:Int))))) (l':=[(12,.val (Ac k5 (IsC (if ((Y).natAbs:Int)=0 then 0 else ((X).natAbs:Int) % ((Y).natAbs:Int))))),(11,.val (Ac g5 (IsC (((X).natAbs:Int) / ((Y).natAbs:Int))))),(29,bv (decide (((Y).natAbs:Int)≠0))),(28,.val (Ac k5 (IsC (if ((Y).natAbs:Int)=0 then 0 else ((X).natAbs:Int) % ((Y).natAbs:Int))))),(27,.val (Ac g5 (IsC (((X).natAbs:Int) / ((Y).natAbs:Int))))),(907,zs m7),(23,.val (Tup [Ac g5 (IsC (((X).natAbs:Int) / ((Y).natAbs:Int))),Ac k5 (IsC (if ((Y).natAbs:Int)=0 then 0 else ((X).natAbs:Int) % ((Y).natAbs:Int))),IsB (decide (((Y).natAbs:Int)≠0))])),(9,.val (Lit (.int .i8 (sgI Y)))),(7,.val (Lit (.int .i8 (sgI X)))),(4,.box 52 2 (qp)),(5,.box 52 2 (qp)),(6,bv false),(42,zs lo)]) H11 rfl rfl rfl (.plain rfl (qm (.tmp 2 rfl))) rfl rfl ?_
 clear H11 a11 w11 B11
 intro a12 w12 B12 H12
 refine zi ?_
 refine jm (D:=bv (decide (((Y).natAbs:Int)≠0))) (l':=[(6,bv (decide (((Y).natAbs:Int)≠0))),(12,.val (Ac k5 (IsC (if ((Y).natAbs:Int)=0 then 0 else ((X).natAbs:Int) % ((Y).natAbs:Int))))),(11,.val (Ac g5 (IsC (((X).natAbs:Int) / ((Y).natAbs:Int))))),(29,bv (decide (((Y).natAbs:Int)≠0))),(28,.val (Ac k5 (IsC (if ((Y).natAbs:Int)=0 then 0 else ((X).natAbs:Int) % ((Y).natAbs:Int))))),(27,.val (Ac g5 (IsC (((X).natAbs:Int) / ((Y).natAbs:Int))))),(907,zs m7),(23,.val (Tup [Ac g5 (IsC (((X).natAbs:Int) / ((Y).natAbs:Int))),Ac k5 (IsC (if ((Y).natAbs:Int)=0 then 0 else ((X).natAbs:Int) % ((Y).natAbs:Int))),IsB (decide (((Y).natAbs:Int)≠0))])),(9,.val (Lit (.int .i8 (sgI Y)))),(7,.val (Lit (.int .i8 (sgI X)))),(4,.box 52 2 (qp)),(5,.box 52 2 (qp)),(42,zs lo)]) H12 rfl rfl rfl (.plain rfl (qm (.tmp 2 rfl))) rfl rfl ?_
 clear H12 a12 w12 B12
 intro a13 w13 B13 H13
 refine qi ?_
 refine qg ?_
 refine wp_seq ?_
 refine wp_seq ?_
 rcases (Decidable.em (Y=0)) with y0 | y0
 ·have eb14:(decide (((Y).natAbs:Int)≠0))=false:=decide_eq_false (by omega)
  rw [eb14] at H13
  have e1:(0:Int)=X.tdiv Y:=by rw [y0,Int.tdiv_zero]
  have e2:(0:Int)=vg X Y:=(if_pos y0).symm
  have e3:false=decide (Y≠0):=(decide_eq_false (fun h=>h y0)).symm
  refine fr (refs:=[[.pre 0],[.res 0]]) (outs:=[.res 1]++pr 0 3++[.pre 6]++pr 8 5) (als:=fs 2) (posts:=[bv false,bv true])
   (out:=[(31,bv true),(6,bv false),(12,.val (Ac k5 (IsC (if ((Y).natAbs:Int)=0 then 0 else ((X).natAbs:Int) % ((Y).natAbs:Int))))),(11,.val (Ac g5 (IsC (((X).natAbs:Int) / ((Y).natAbs:Int))))),(907,zs m7),(9,.val (Lit (.int .i8 (sgI Y)))),(7,.val (Lit (.int .i8 (sgI X)))),(4,.box 52 2 (qp)),(5,.box 52 2 (qp)),(42,zs lo)]) (nb:=[]) H13 2 [] rfl (by kernel_rfl) rfl rfl ?_ ?_
  ·refine cp (qh (.tmp 0 rfl)) ?_
   refine cp (Eh (b:=false) (.tmp 0 rfl)) ?_
   exact .nil
  clear H13 a13 w13 B13
  intro a15 w15 B15 H15
  refine qi ?_
  refine qg ?_
  refine Iq H15 (.tmp 0 rfl) ?_
  refine wp_seq ?_
  refine fr (refs:=[[],[]]) (outs:=[.res 0,.res 1]++pr 1 9) (als:=fs 2) (posts:=[.val (qp),.val (qp)])
   (out:=[(32,.val (qp)),(33,.val (qp)),(6,bv false),(12,.val (Ac k5 (IsC (if ((Y).natAbs:Int)=0 then 0 else ((X).natAbs:Int) % ((Y).natAbs:Int))))),(11,.val (Ac g5 (IsC (((X).natAbs:Int) / ((Y).natAbs:Int))))),(907,zs m7),(9,.val (Lit (.int .i8 (sgI Y)))),(7,.val (Lit (.int .i8 (sgI X)))),(4,.box 52 2 (qp)),(5,.box 52 2 (qp)),(42,zs lo)]) (nb:=[]) H15 2 [2,3,4] rfl (by kernel_rfl) rfl rfl ?_ ?_
  ·refine cp (Il) ?_
   refine cp (Il) ?_
   exact .nil
  clear H15 a15 w15 B15
  intro a16 w16 B16 H16
  refine zi ?_
  refine ja (l':=[(32,.val (qp)),(33,.val (qp)),(6,bv false),(12,.val (Ac k5 (IsC (if ((Y).natAbs:Int)=0 then 0 else ((X).natAbs:Int) % ((Y).natAbs:Int))))),(11,.val (Ac g5 (IsC (((X).natAbs:Int) / ((Y).natAbs:Int))))),(907,zs m7),(9,.val (Lit (.int .i8 (sgI Y)))),(7,.val (Lit (.int .i8 (sgI X)))),(4,.box 52 2 (qp)),(5,.box 52 2 (qp)),(42,zs lo)]) 8 H16 rfl tyI rfl (.tmp 0 rfl) jl jl rfl rfl ?_
  clear H16 w16
  intro w17 H17
  refine zi ?_
  refine ja (l':=[(32,.val (qp)),(33,.val (qp)),(6,bv false),(12,.val (Ac k5 (IsC (if ((Y).natAbs:Int)=0 then 0 else ((X).natAbs:Int) % ((Y).natAbs:Int))))),(11,.val (Ac g5 (IsC (((X).natAbs:Int) / ((Y).natAbs:Int))))),(907,zs m7),(9,.val (Lit (.int .i8 (sgI Y)))),(7,.val (Lit (.int .i8 (sgI X)))),(4,.box 52 2 (qp)),(5,.box 52 2 (qp)),(42,zs lo)]) 9 H17 rfl tyI rfl (.tmp 1 rfl) jl jl rfl rfl ?_
  clear H17 w17
  intro w18 H18
  refine zi ?_
  refine jm (D:=bv false) (l':=[(6,bv false),(32,.val (qp)),(33,.val (qp)),(12,.val (Ac k5 (IsC (if ((Y).natAbs:Int)=0 then 0 else ((X).natAbs:Int) % ((Y).natAbs:Int))))),(11,.val (Ac g5 (IsC (((X).natAbs:Int) / ((Y).natAbs:Int))))),(907,zs m7),(9,.val (Lit (.int .i8 (sgI Y)))),(7,.val (Lit (.int .i8 (sgI X)))),(4,.box 52 2 (qp)),(5,.box 52 2 (qp)),(42,zs lo)]) H18 rfl rfl rfl (.plain rfl (qm (.lit))) rfl rfl ?_
  clear H18 a16 w18 B16
  intro a19 w19 B19 H19
  refine qi ?_
  refine qg ?_
  refine wp_ret ?_
  refine yh ?_
  exact qfg H19 rfl rfl (.cell 8 tyI rfl (fun v w B h=>Qh e1 (qcy v w B h)) (.cell 9 tyI rfl (fun v w B h=>Qh e2 (qcy v w B h)) (.tmp 0 rfl (fun v w B h=>Dl e3 h) (.nil)))) (fun v w B h=>⟨none,none,(fun b hb=>by cases hb),(fun b hb=>by cases hb),(fun b hb=>by cases hb),h⟩)
 ·have eb20:(decide (((Y).natAbs:Int)≠0))=true:=decide_eq_true (by omega)
  rw [eb20] at H13
  have e3:true=decide (Y≠0):=(decide_eq_true y0).symm
  refine fr (refs:=[[.pre 0],[.res 0]]) (outs:=[.res 1]++pr 0 3++[.pre 6]++pr 8 5) (als:=fs 2) (posts:=[bv true,bv false])
   (out:=[(31,bv false),(6,bv true),(12,.val (Ac k5 (IsC (if ((Y).natAbs:Int)=0 then 0 else ((X).natAbs:Int) % ((Y).natAbs:Int))))),(11,.val (Ac g5 (IsC (((X).natAbs:Int) / ((Y).natAbs:Int))))),(907,zs m7),(9,.val (Lit (.int .i8 (sgI Y)))),(7,.val (Lit (.int .i8 (sgI X)))),(4,.box 52 2 (qp)),(5,.box 52 2 (qp)),(42,zs lo)]) (nb:=[]) H13 2 [] rfl (by kernel_rfl) rfl rfl ?_ ?_
  ·refine cp (qh (.tmp 0 rfl)) ?_
   refine cp (Eh (b:=true) (.tmp 0 rfl)) ?_
   exact .nil
  clear H13 a13 w13 B13
  intro a21 w21 B21 H21
  refine qi ?_
  refine qg ?_
  refine Fq H21 (.tmp 0 rfl) ?_
  refine wp_skip ?_
  refine qg ?_
  refine wp_seq ?_
  refine fr (refs:=[[.pre 6],[.pre 5],[.res 0,.res 1],[.pre 3],[.res 2,.res 3],[.pre 6],[.pre 2],[.res 5,.res 6]]) (outs:=[.res 4,.res 7,.pre 1,.pre 4]++pr 7 3) (als:=fs 8) (posts:=[.val (Lit (.int .i8 (sgI X))),.val (Lit (.int .i8 (sgI Y))),.val (Lit (.int .i8 ((sgI X)*(sgI Y)))),.val (Ac g5 (IsC (((X).natAbs:Int) / ((Y).natAbs:Int)))),.val (qj g5 (IsI (if (sgI X)*(sgI Y) = -1 then -(((X).natAbs:Int) / ((Y).natAbs:Int)) else (((X).natAbs:Int) / ((Y).natAbs:Int))))),.val (Lit (.int .i8 (sgI X))),.val (Ac k5 (IsC (if ((Y).natAbs:Int)=0 then 0 else ((X).natAbs:Int) % ((Y).natAbs:Int)))),.val (qj k5 (IsI (if sgI X = -1 then -(if ((Y).natAbs:Int)=0 then 0 else ((X).natAbs:Int) % ((Y).natAbs:Int)) else (if ((Y).natAbs:Int)=0 then 0 else ((X).natAbs:Int) % ((Y).natAbs:Int)))))])
   (out:=[(38,.val (qj g5 (IsI (if (sgI X)*(sgI Y) = -1 then -(((X).natAbs:Int) / ((Y).natAbs:Int)) else (((X).natAbs:Int) / ((Y).natAbs:Int)))))),(41,.val (qj k5 (IsI (if sgI X = -1 then -(if ((Y).natAbs:Int)=0 then 0 else ((X).natAbs:Int) % ((Y).natAbs:Int)) else (if ((Y).natAbs:Int)=0 then 0 else ((X).natAbs:Int) % ((Y).natAbs:Int)))))),(6,bv true),(907,zs m7),(4,.box 52 2 (qp)),(5,.box 52 2 (qp)),(42,zs lo)]) (nb:=[]) H21 8 [8,9,10] rfl (by kernel_rfl) rfl rfl ?_ ?_
  ·refine cp (qh (.tmp 0 rfl)) ?_
   refine cp (qh (.tmp 0 rfl)) ?_
   refine cp (Nh (r:=((sgI X)*(sgI Y))) (.tmp 0 rfl) (.tmp 1 rfl) (qni X Y)) ?_
   refine cp (qh (.tmp 0 rfl)) ?_
   refine cp (zl (Qw g5 ((sgI X)*(sgI Y)) (((X).natAbs:Int) / ((Y).natAbs:Int))) (.cons (.tmp 0 rfl) (.cons (.tmp 1 rfl) (.nil)))) ?_
   refine cp (qh (.tmp 0 rfl)) ?_
   refine cp (qh (.tmp 0 rfl)) ?_
   refine cp (zl (Qw k5 (sgI X) (if ((Y).natAbs:Int)=0 then 0 else ((X).natAbs:Int) % ((Y).natAbs:Int))) (.cons (.tmp 0 rfl) (.cons (.tmp 1 rfl) (.nil)))) ?_
   exact .nil
  clear H21 a21 w21 B21
  intro a22 w22 B22 H22
  refine zi ?_
  refine ja (l':=[(38,.val (qj g5 (IsI (if (sgI X)*(sgI Y) = -1 then -(((X).natAbs:Int) / ((Y).natAbs:Int)) else (((X).natAbs:Int) / ((Y).natAbs:Int)))))),(41,.val (qj k5 (IsI (if sgI X = -1 then -(if ((Y).natAbs:Int)=0 then 0 else ((X).natAbs:Int) % ((Y).natAbs:Int)) else (if ((Y).natAbs:Int)=0 then 0 else ((X).natAbs:Int) % ((Y).natAbs:Int)))))),(6,bv true),(907,zs m7),(4,.box 52 2 (qj g5 (IsI (if (sgI X)*(sgI Y) = -1 then -(((X).natAbs:Int) / ((Y).natAbs:Int)) else (((X).natAbs:Int) / ((Y).natAbs:Int)))))),(5,.box 52 2 (qp)),(42,zs lo)]) 4 H22 rfl tyI rfl (.tmp 0 rfl) jl Ro rfl rfl ?_
  clear H22 w22
  intro w23 H23
  refine zi ?_
  refine ja (l':=[(38,.val (qj g5 (IsI (if (sgI X)*(sgI Y) = -1 then -(((X).natAbs:Int) / ((Y).natAbs:Int)) else (((X).natAbs:Int) / ((Y).natAbs:Int)))))),(41,.val (qj k5 (IsI (if sgI X = -1 then -(if ((Y).natAbs:Int)=0 then 0 else ((X).natAbs:Int) % ((Y).natAbs:Int)) else (if ((Y).natAbs:Int)=0 then 0 else ((X).natAbs:Int) % ((Y).natAbs:Int)))))),(6,bv true),(907,zs m7),(4,.box 52 2 (qj g5 (IsI (if (sgI X)*(sgI Y) = -1 then -(((X).natAbs:Int) / ((Y).natAbs:Int)) else (((X).natAbs:Int) / ((Y).natAbs:Int)))))),(5,.box 52 2 (qj k5 (IsI (if sgI X = -1 then -(if ((Y).natAbs:Int)=0 then 0 else ((X).natAbs:Int) % ((Y).natAbs:Int)) else (if ((Y).natAbs:Int)=0 then 0 else ((X).natAbs:Int) % ((Y).natAbs:Int)))))),(42,zs lo)]) 5 H23 rfl tyI rfl (.tmp 1 rfl) jl Ro rfl rfl ?_
  clear H23 w23
  intro w24 H24
  refine zi ?_
  refine jm (D:=bv true) (l':=[(6,bv true),(38,.val (qj g5 (IsI (if (sgI X)*(sgI Y) = -1 then -(((X).natAbs:Int) / ((Y).natAbs:Int)) else (((X).natAbs:Int) / ((Y).natAbs:Int)))))),(41,.val (qj k5 (IsI (if sgI X = -1 then -(if ((Y).natAbs:Int)=0 then 0 else ((X).natAbs:Int) % ((Y).natAbs:Int)) else (if ((Y).natAbs:Int)=0 then 0 else ((X).natAbs:Int) % ((Y).natAbs:Int)))))),(907,zs m7),(4,.box 52 2 (qj g5 (IsI (if (sgI X)*(sgI Y) = -1 then -(((X).natAbs:Int) / ((Y).natAbs:Int)) else (((X).natAbs:Int) / ((Y).natAbs:Int)))))),(5,.box 52 2 (qj k5 (IsI (if sgI X = -1 then -(if ((Y).natAbs:Int)=0 then 0 else ((X).natAbs:Int) % ((Y).natAbs:Int)) else (if ((Y).natAbs:Int)=0 then 0 else ((X).natAbs:Int) % ((Y).natAbs:Int)))))),(42,zs lo)]) H24 rfl rfl rfl (.plain rfl (qm (.lit))) rfl rfl ?_
  clear H24 a22 w24 B22
  intro a25 w25 B25 H25
  refine qi ?_
  refine qg ?_
  refine wp_ret ?_
  exact qfg H25 rfl rfl (.cell 4 tyI rfl (fun v w B h=>Qh (qkl X Y) h) (.cell 5 tyI rfl (fun v w B h=>Qh (qkm X Y) h) (.tmp 0 rfl (fun v w B h=>Dl e3 h) (.nil)))) (fun v w B h=>⟨g5,k5,(fun b hb=>by have:=hg5 b hb;omega),(fun b hb=>by have:=hk5 b hb;omega),hn5,h⟩)
end Go.Proofs.YtbcbmkeeoognpaaGreatDoor

set_option maxRecDepth 50000
namespace Go.Proofs.YtbcbmkeeoognpaaGreatDoor
open Go Go.RowKit
section
variable {P:Program} {need:List (Tmp × FD)} {d:Option Tmp} {ty:TypeId} {pos:String} {af:Array Edge} {g:Option (Nat × Bool)} {x y:Operand} {D:VP}
end
def qdc (n m:Nat) (v:Value) (w:World) (B:Bx):Prop:=∃b c ad cc bd cd,v=.slice (some ⟨b,0,none⟩) 2 c∧¬B b∧w.heap[b]?=some (.cells #[.slice ad n cc,.slice bd m cd] 23 (0,0))
theorem qdc.st {n m:Nat} (v:Value) (w:World) (B:Bx) (w':World) (B':Bx) (h:Mv w B w' B') (hp:qdc n m v w B):qdc n m v w' B':=by
 obtain ⟨b,c,ad,cc,bd,cd,e,hb,hc⟩:=hp
 have hlt:=(Array.getElem?_eq_some_iff.1 hc).1
 exact ⟨b,c,ad,cc,bd,cd,e,fun h6=>hb (h.box b hlt h6),((h.same b hlt).resolve_right fun h6=>hb h6.1).trans hc⟩
theorem qck {need:List (Tmp × FD)} {d:Option Tmp} {ty:TypeId} {pos:String} {af:Array Edge} {g:Option (Nat × Bool)} {x:Operand} {n:Nat} {xs:List Int} (h:Opd need x (.val (qoc n xs))):jo Tryz.prog ⟨d,.call { callee:=.builtin .len,args:=#[x],argTypes:=#[23] },ty,pos,af,g⟩ need (.val (Lit (.int .i64 (n:Int)))) false:=by
 refine jo.value fun a w B hF=>?_
 obtain ⟨ad,c,e,_⟩:=h a w B hF
 exact ⟨.int .i64 n,by simp [execOp,e,resolve,invoke,builtin,Builtin.len_,run_underlying Tryz.underlying23,Sem.run_bind];rfl,rfl⟩
end Go.Proofs.YtbcbmkeeoognpaaGreatDoor

set_option maxRecDepth 50000
namespace Go.Proofs.YtbcbmkeeoognpaaGreatDoor
open Go Go.RowKit
section
variable {P:Program} {ops:Array Oper} {Q:Exit→Act→World→Prop} {N:Nat} {w0:World} {B0:Bx} {a:Act} {w:World} {B:Bx} {l:List (Tmp × FD)} {bxs:List Tmp}
theorem St.name10 (H:St N w0 B0 a w B l bxs) (i:Nat) {s:Tmp} {t:TypeId} {n:Nat} {lo:Nat} {Xs:List Int} (hi:l[i]?=some (s,.box t n (Gt lo Xs))) {l':List (Option Nat)→List (Tmp × FD)} (hl:∀gs,l.set i (s,.box t n (T10 gs Xs))=l' gs):∃gs,Apt lo w.heap.size gs∧St N w0 B0 a w B (l' gs) bxs:=by
 obtain ⟨c,cs,k1,k2,k3,k4,k5,gs,h1,h2⟩:=H.fc.get i hi
 refine ⟨gs,h1,H.df,H.sz,Fct.of_all fun x hx=>?_,H.bx,H.ap,H.bel,H.own,H.own0⟩
 rw [←hl] at hx
 rcases List.mem_or_eq_of_mem_set hx with h | h
 ·exact H.fc.all x h
 ·subst h;exact ⟨c,cs,k1,k2,k3,k4,k5,h2⟩
theorem Ko {g:Option Nat} {X:Int} (u:Value) (w:World) (B:Bx) (h:(qj g (IsI X)).p u w B):∃c:C2,u=qf4 c:=by
 obtain ⟨_,ad,n,c,e,_⟩:=h
 exact ⟨(_,ad,n,c),e⟩
theorem J9 {lo:Nat} {X:Int} (u:Value) (w:World) (B:Bx) (h:(qo lo (IsI X)).p u w B):∃c:C2,u=qf4 c:=by
 obtain ⟨ad,n,c,e,_⟩:=qfx _ _ _ h
 exact ⟨(_,ad,n,c),e⟩
theorem Aj {i j k:Nat} {rest:List Nat} {z:Int} {s1 s2 p y:Tmp} {Ls Ls':List VP} {E:VP} {ty1 ty2 ty3:TypeId} {pos1 pos2 pos3:String} {af1 af2 af3:Array Edge} {l':List (Tmp × FD)} (kp ky:Nat) (hP:P=Tryz.prog)
  (H:St N w0 B0 a w B l bxs) (hoi:ops[i]?=some ⟨some s1,.fieldAddr 76 (.tmp p) 0,ty1,pos1,af1,none⟩) (hoj:ops[j]?=some ⟨some s2,.indexAddr 74 (.tmp s1) (.const (.int .i64 z)),ty2,pos2,af2,none⟩) (hok:ops[k]?=some ⟨none,.store 52 (.tmp s2) (.tmp y),ty3,pos3,af3,none⟩)
  (hzo:z=Ls.length) (hoff:Ls.length<10) (hp:l[kp]?=some (p,.box 76 20 (jb (lst Ls)))) (hy:l[ky]?=some (y,.val E)) (hE:∀u w B,E.p u w B→∃c:C2,u=qf4 c) (hLs:Ls++[E]=Ls')
  (hc:(bxs.contains p && ((!bxs.contains s1) && ((!bxs.contains s2) && (decide (s1<N) && (decide (s2<N) && (decide (y≠s1) && (decide (y≠s2) && (decide (p≠s1) && (decide (p≠s2) && (decide (s1≠s2) && l.all fun z=>z.1 != s1 && (z.1 != s2 && (z.2.isVal || (z.2.isBox && bxs.contains z.1)))))))))))))=true) (hl:stored p (.box 76 20 (jb (lst Ls'))) l=l')
  (hK:∀a w,St N w0 B0 a w B l' bxs→wpOps P ops Q rest a w):wpOps P ops Q (i :: j :: k :: rest) a w:=by
 subst hP
 subst hLs
 simp only [Bool.and_eq_true,List.all_eq_true,Bool.or_eq_true,Bool.not_eq_true',decide_eq_true_eq,bne_iff_ne] at hc
 obtain ⟨hpb,hsb1,hsb2,hsN1,hsN2,hys1,hys2,hps1,hps2,hss,hall⟩:=hc
 rw [List.contains_iff_mem] at hpb
 obtain ⟨b,cs,e1,hB,hlt,hrow,hcs,hD0⟩:=H.fc.get kp hp
 obtain ⟨u,hyv⟩:∃u,a.tmps.getD y undef=u:=⟨_,rfl⟩
 have hEu:E.p u w B:=hyv ▸ H.fc.get ky hy
 obtain ⟨c,hu0⟩:=hE _ _ _ hEu
 have hpl:=hD0
 obtain ⟨cs2,e2,hn2,hone2,hpl⟩:=Bj _ _ _ hpl
 injection e2 with e2
 subst e2
 obtain ⟨q,hq⟩:∃q,q=Ls.length:=⟨_,rfl⟩
 rw [←hq] at hzo hoff
 obtain ⟨fl,hfl,hflat,hDs⟩:=hD0
 injection hflat with hflat
 have hs1:∀d,(some s1:Option Tmp)=some d→d<a.tmps.size:=fun d hd2=>by
  injection hd2 with hd2
  subst hd2
  rw [H.sz]
  exact hsN1
 obtain ⟨a1,ha1⟩:∃a1,a1=a.put (some s1) (.pointer (some ⟨b,0,none⟩)):=⟨_,rfl⟩
 have hs2:∀d,(some s2:Option Tmp)=some d→d<a1.tmps.size:=fun d hd2=>by
  injection hd2 with hd2
  subst hd2
  rw [ha1,Dk,H.sz]
  exact hsN2
 have hold1:∀x,x≠s1→a1.tmps.getD x undef=a.tmps.getD x undef:=fun x hx=>by
  rw [ha1,Dc hs1,if_neg ?_]
  intro e
  injection e with e
  exact hx e.symm
 have hold:∀v x,x≠s1→x≠s2→(a1.put (some s2) v).tmps.getD x undef=a.tmps.getD x undef:=fun v x hx hx2=>by
  rw [Dc hs2,if_neg ?_,hold1 x hx]
  intro e
  injection e with e
  exact hx2 e.symm
 rw [wpOps_cons]
 unfold wpOp
 simp only [hoi]
 rw [if_pos (by simp [Region.wanted])]
 refine .inl ?_
 unfold Oper.wp
 have e4:a.eval (.tmp p)=.pointer (some ⟨b,0,none⟩):=e1
 have hr1:(execOp a.eval ⟨some s1,.fieldAddr 76 (.tmp p) 0,ty1,pos1,af1,none⟩).run Tryz.prog w=.ok (.value (.pointer (some ⟨b,0,none⟩))) w:=by
  simp only [execOp,e4,Sem.run_bind,qht b,Result.andThen_ok,Sem.run_pure]
 rw [hr1]
 show wpOps Tryz.prog ops Q (j :: k :: rest) (a.put (some s1) (.pointer (some ⟨b,0,none⟩))) w
 rw [←ha1,wpOps_cons]
 unfold wpOp
 simp only [hoj]
 rw [if_pos (by simp [Region.wanted])]
 refine .inl ?_
 unfold Oper.wp
 have e6:a1.eval (.tmp s1)=.pointer (some ⟨b,0,none⟩):=by
  show a1.tmps.getD s1 undef=_
  rw [ha1,Dc hs1,if_pos rfl]
 have e7:a1.eval (.const (.int .i64 z))=.int .i64 q:=by rw [hzo];rfl
 have hr2:(execOp a1.eval ⟨some s2,.indexAddr 74 (.tmp s1) (.const (.int .i64 z)),ty2,pos2,af2,none⟩).run Tryz.prog w=.ok (.value (.pointer (some ⟨b,2*q,none⟩))) w:=by
  simp only [execOp,e6,e7,Sem.run_bind,Zk b q hoff,Result.andThen_ok,Sem.run_pure]
 rw [hr2]
 show wpOps Tryz.prog ops Q (k :: rest) (a1.put (some s2) (.pointer (some ⟨b,2*q,none⟩))) w
 rw [wpOps_cons]
 unfold wpOp
 simp only [hok]
 rw [if_pos (by simp [Region.wanted])]
 refine .inl ?_
 unfold Oper.wp
 have hsz:cs.size=20:=hcs
 have hth:w.there b (2*q) (#[.bool c.1,.slice c.2.1 c.2.2.1 c.2.2.2]:Array Value).size:=fun m hm=>by
  have hm:m<2:=hm
  refine ⟨?_,by simp [World.frozen?,hrow]⟩
  rw [Af hrow,Array.getElem?_eq_getElem (by omega)]
  rfl
 have hrun:(storeVar 52 ⟨b,2*q,none⟩ u).run Tryz.prog w=.ok () ((w.setCell ⟨b,2*q,none⟩ (.bool c.1)).setCell ⟨b,2*q+1,none⟩ (.slice c.2.1 c.2.2.1 c.2.2.2)):=by
  rw [hu0]
  exact run_storeVar_mid w b (2*q) 52 _ hth size_int (by simp [Value.oneCell'])
 have hr3:(execOp (a1.put (some s2) (.pointer (some ⟨b,2*q,none⟩))).eval ⟨none,.store 52 (.tmp s2) (.tmp y),ty3,pos3,af3,none⟩).run Tryz.prog w=.ok .skip ((w.setCell ⟨b,2*q,none⟩ (.bool c.1)).setCell ⟨b,2*q+1,none⟩ (.slice c.2.1 c.2.2.1 c.2.2.2)):=by
  have e5:(a1.put (some s2) (.pointer (some ⟨b,2*q,none⟩))).eval (.tmp s2)=.pointer (some ⟨b,2*q,none⟩):=by
   show (a1.put (some s2) _).tmps.getD s2 undef=_
   rw [Dc hs2,if_pos rfl]
  have e6:(a1.put (some s2) (.pointer (some ⟨b,2*q,none⟩))).eval (.tmp y)=u:=by
   show (a1.put (some s2) _).tmps.getD y undef=_
   rw [hold _ _ hys1 hys2];exact hyv
  simp only [execOp,e5,e6,Instr.storeAt,Instr.sureAddr,Sem.run_bind,Sem.run_pure,Result.andThen_ok,hrun]
 rw [hr3]
 obtain ⟨w',hw'⟩:∃w',w'=(w.setCell ⟨b,2*q,none⟩ (.bool c.1)).setCell ⟨b,2*q+1,none⟩ (.slice c.2.1 c.2.2.1 c.2.2.2):=⟨_,rfl⟩
 have hO:Only b w w':=hw' ▸ ((Only.refl b w).set (2*q) _).set (2*q+1) _
 have hnew:w'.heap[b]?=some (.cells ((cs.setIfInBounds (2*q) (.bool c.1)).setIfInBounds (2*q+1) (.slice c.2.1 c.2.2.1 c.2.2.2)) 76 (0,0)):=by
  rw [hw']
  simp only [World.setCell,Array.getElem?_modify,hrow,if_true,Option.map_some,Option.isSome_none]
  simp
 rw [←hw']
 have hmv:Mv w B w' B:=by
  refine ⟨Nat.le_of_eq hO.size.symm,fun k hk=>?_,fun _ _ h=>h⟩
  by_cases e:k=b
  ·subst e
   refine .inr ⟨hB,fun q ik x hq hik hc=>?_⟩
   unfold World.cell? at hc
   rw [hq,hrow] at hc
   simp only at hc
   split at hc
   ·cases hc
   ·exact hpl _ _ _ hik hc
  ·exact .inl (hO.rest k e)
 have hsame:∀k,k≠b→w'.heap[k]?=w.heap[k]?:=fun k hk=>hO.rest k hk
 have hs0:w'.heap.size=w.heap.size:=hO.size
 have hnewD:(jb (lst (Ls++[E]))).p (.agg ((cs.setIfInBounds (2*q) (.bool c.1)).setIfInBounds (2*q+1) (.slice c.2.1 c.2.2.1 c.2.2.2))) w B:=by
  refine ⟨fl.set q c,by rw [List.length_set];exact hfl,?_,fun j p hj=>?_⟩
  ·rw [hflat,qb7]
   simp
  ·rw [qmf,←hq]
   rw [List.getElem?_set] at hj
   by_cases e:q=j
   ·subst e
    rw [if_pos rfl,if_pos (by omega)] at hj
    injection hj with hj
    rw [if_pos rfl,←hj]
    exact hu0 ▸ hEu
   ·rw [if_neg e] at hj
    rw [if_neg (Ne.symm e)]
    exact hDs j p hj
 show wpOps Tryz.prog ops Q rest (a1.put (some s2) (.pointer (some ⟨b,2*q,none⟩))) w'
 have hdf:(a1.put (some s2) (.pointer (some ⟨b,2*q,none⟩))).defers=a.defers:=by rw [put_defers,ha1,put_defers]
 have hszz:(a1.put (some s2) (.pointer (some ⟨b,2*q,none⟩))).tmps.size=a.tmps.size:=by rw [Dk,ha1,Dk]
 refine hK _ _ ⟨hdf.trans H.df,hszz.trans H.sz,?_,fun z hz2=>?_,fun x hx z hz2 hxz=>?_,?_,fun k hk=>by rw [hs0];exact H.own k hk,H.own0⟩
 ·rw [←hl]
  refine Fct.of_all fun z hz2=>?_
  obtain ⟨r,hr,rfl⟩:=List.mem_map.1 hz2
  have hqf:=H.fc.all r hr
  obtain ⟨hqs1,hqs2,hqv⟩:=hall r hr
  by_cases ez:r.1=p
  ·rw [if_pos ez]
   show qnk 76 20 (jb (lst (Ls++[E]))) _ _ B
   rw [hold _ _ hps1 hps2]
   exact ⟨b,_,e1,hB,by rw [hs0];exact hlt,hnew,by simpa using hcs,VP.st _ _ _ _ _ _ hmv hnewD⟩
  ·rw [if_neg ez,hold _ _ hqs1 hqs2]
   rcases hqv with hv | hb
   ·cases hf:r.2 with
    | val E=>rw [hf] at hqf;exact E.st _ _ _ _ _ hmv hqf
    | box t n E=>rw [hf] at hv;cases hv
    | ptr t n E off=>rw [hf] at hv;cases hv
   ·cases hf:r.2 with
    | val E=>rw [hf] at hb;simp [FD.isBox] at hb
    | ptr t n E off=>rw [hf] at hb;simp [FD.isBox] at hb
    | box t3 n3 E=>
     rw [hf] at hqf hb
     have hzb:=List.contains_iff_mem.1 hb.2
     obtain ⟨c3,cs3,g1,g2,g3,g4,g5,g6⟩:=hqf
     have hne:c3≠b:=by
      rintro rfl
      exact H.ap r.1 hzb p hpb ez (g1.trans e1.symm)
     exact ⟨c3,cs3,g1,g2,by rw [hs0];exact g3,(hsame c3 hne).trans g4,g5,E.st _ _ _ _ _ hmv g6⟩
 ·have hne1:z≠s1:=fun e=>by
   subst e
   rw [←List.contains_iff_mem,hsb1] at hz2
   cases hz2
  have hne2:z≠s2:=fun e=>by
   subst e
   rw [←List.contains_iff_mem,hsb2] at hz2
   cases hz2
  obtain ⟨c3,g1,g2,g3⟩:=H.bx z hz2
  exact ⟨c3,(hold _ _ hne1 hne2).trans g1,by rw [hs0];exact g2,g3⟩
 ·have hne1:∀q∈bxs,q≠s1:=fun q hq e=>by
   subst e
   rw [←List.contains_iff_mem,hsb1] at hq
   cases hq
  have hne2:∀q∈bxs,q≠s2:=fun q hq e=>by
   subst e
   rw [←List.contains_iff_mem,hsb2] at hq
   cases hq
  rw [hold _ _ (hne1 x hx) (hne2 x hx),hold _ _ (hne1 z hz2) (hne2 z hz2)]
  exact H.ap x hx z hz2 hxz
 ·obtain ⟨c3,g1,g2,g3⟩:=H.bx p hpb
  rw [e1] at g1
  injection g1 with g1;injection g1 with g1;injection g1 with g1
  subst g1
  exact H.bel.trans ⟨hO.os,hO.tape,hO.output,Nat.le_of_eq hO.size.symm,fun k hk=>hO.rest k fun e=>by omega⟩
end
end Go.Proofs.YtbcbmkeeoognpaaGreatDoor

set_option maxRecDepth 50000
namespace Go.Proofs.YtbcbmkeeoognpaaGreatDoor
open Go Go.RowKit
theorem Gu {w w':World} {g j:Nat} {v:Value} (h:w'.heap[g]?=w.heap[g]?) (hc:w.cell? ⟨g,j,none⟩=some v):w'.cell? ⟨g,j,none⟩=some v:=by
 rw [←hc];exact World.cell?_of_block h
theorem qnl.kept {w w':World} {B:Bx} (h1:w'.heap[2]?=w.heap[2]?) (h2:w'.heap[3]?=w.heap[3]?) (e:qnl w B):qnl w' B:=by
 obtain ⟨⟨c0,c1,c2,c3,c4,c5,c6,c7,c8⟩,ht,hn⟩:=e
 exact ⟨⟨Gu h1 c0,Gu h1 c1,Gu h1 c2,Gu h1 c3,Gu h1 c4,Gu h1 c5,Gu h1 c6,Gu h1 c7,Gu h1 c8⟩,fun j hj=>Gu h2 (ht j hj),hn⟩
section
variable {P:Program} {need:List (Tmp × FD)} {d:Option Tmp} {ty:TypeId} {pos:String} {af:Array Edge} {g:Option (Nat × Bool)} {x0 x1 x2 x3 x4:Operand}
end
end Go.Proofs.YtbcbmkeeoognpaaGreatDoor

set_option maxRecDepth 50000
namespace Go.Proofs.YtbcbmkeeoognpaaGreatDoor
open Go Go.RowKit
theorem Aps.mono {lo m m2:Nat} {gs:List (Option Nat)} (h:Aps lo m gs) (hm:m≤m2):Aps lo m2 gs:=⟨h.len,fun j b hb=>⟨(h.lo j b hb).1,Nat.lt_of_lt_of_le (h.lo j b hb).2 hm⟩,h.ap⟩
theorem St.fewerF {N:Nat} {w0:World} {B0:Bx} {a:Act} {w:World} {B:Bx} {l:List (Tmp × FD)} {bxs:List Tmp} (H:St N w0 B0 a w B l bxs) (is:List Nat) {l':List (Tmp × FD)} (hl:is.map (fun i=>l[i]?)=l'.map some):St N w0 B0 a w B l' bxs:=by
 refine ⟨H.df,H.sz,Fct.of_all fun x hx=>?_,H.bx,H.ap,H.bel,H.own,H.own0⟩
 have h2:some x∈is.map (fun i=>l[i]?):=by rw [hl];exact List.mem_map.2 ⟨x,hx,rfl⟩
 obtain ⟨i,_,hi⟩:=List.mem_map.1 h2
 exact H.fc.all x (List.mem_of_getElem? hi)
section
variable {P:Program} {ops:Array Oper} {Q:Exit→Act→World→Prop} {N:Nat} {w0:World} {B0:Bx} {a:Act} {w:World} {B:Bx} {l:List (Tmp × FD)} {bxs:List Tmp}
end
end Go.Proofs.YtbcbmkeeoognpaaGreatDoor
