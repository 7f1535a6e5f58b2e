/- Contracts of functions, and plain facts, part 21. -/
import Derived.Test.YtbcbmkeeoognpaaGreatDoorPk9
import Derived.Test.YtbcbmkeeoognpaaGreatDoorPk17
import Derived.Test.YtbcbmkeeoognpaaGreatDoorPk19
import Derived.Test.YtbcbmkeeoognpaaGreatDoorPk20
set_option linter.unusedVariables false
set_option linter.unusedSimpArgs false
namespace Go.Proofs.YtbcbmkeeoognpaaGreatDoor
open Go Go.RowKit
theorem Kv {g g2:Option Nat} {m q:Nat} {e:TypeId} {k:IntKind} {xs:List Int} (h:∀b,g2=some b→b<m):Kept g m (.val (zh g2 q e k xs)):=fun v w w' B hs hb hg ⟨hk,hB,ad,c,e1,ha,hg2⟩=>by
 refine ⟨hk,hB,ad,c,e1,ha.kept fun b hb2=>?_,hg2⟩
 have h3:g2=some b:=hg2.symm.trans hb2
 exact hb b (ha.lt b hb2).2 fun e=>by have:=(hg b e).1;have:=h b h3;omega
theorem qg4 {g g2:Option Nat} {m q:Nat} {e:TypeId} {k:IntKind} {xs:List Int} (h:∀b,g=some b→b<q):Kept g m (.val (zh g2 q e k xs)):=fun v w w' B hs hb hg ⟨hk,hB,ad,c,e1,ha,hg2⟩=>by
 refine ⟨hk,hB,ad,c,e1,ha.kept fun b hb2=>?_,hg2⟩
 exact hb b (ha.lt b hb2).2 fun e=>by have:=h b e;have:=(ha.lt b hb2).1;omega
def qo3 (k:IntKind) (xs:List Int) (v:Value) (w:World) (B:Bx):Prop:=Kd k∧∃ad n c,v=.slice ad n c∧n≤c∧Rds w k ad n xs
def qm4 (k:IntKind) (xs:List Int):VP:=⟨qo3 k xs,fun v w B w' B' h ⟨hk,ad,n,c,e,hc,r⟩=>⟨hk,ad,n,c,e,hc,r.mv h hk⟩⟩
section
variable {P:Program} {need:List (Tmp × FD)} {d:Option Tmp} {ty:TypeId} {pos:String} {af:Array Edge} {g:Option (Nat × Bool)} {x y:Operand}
theorem qkt {t e:TypeId} {k:IntKind} {bytes m:Nat} {z:Tmp} {i:Int} (n q:Nat) (hk:Kd k) (ht:P.underlying t=some (.slice e)) (hinfo:(P.info? e).map (fun i=>(i.zero,i.size,i.bytes))=some (some (.int k 0),1,bytes)) (hb0:0<bytes)
  (hn:n*bytes≤281474976710656) (h:Opd need x (.val (Lit (.int .i64 0)))) (h':Opd need y (.val (Lit (.int .i64 i)))) (hi:i=n) (hz:need[q]?=some (z,.val (Sz m))) :
  jo P ⟨d,.makeSlice t x y,ty,pos,af,g⟩ need (.val (Iu m e k [])) false:=by
 intro Q K a w B hB hF hK
 have e1:a.eval x=.int .i64 0:=h a w B hF
 have e2:a.eval y=.int .i64 i:=h' a w B hF
 have hm:m≤w.heap.size:=hF.get q hz
 have hmk:=Pi (P:=P) t e k bytes ht hinfo hb0 n hn i hi w
 have hbel:Below w.heap.size w (w.alloc (.cells (madeCells #[.int k 0] n) e)):=(Below.refl _ _).alloc (Nat.le_refl _) _
 have hn2:n≤281474976710656:=Nat.le_trans (Nat.le_mul_of_pos_right _ hb0) hn
 unfold Oper.wp
 simp only [execOp,e1,e2,Sem.run_bind,hmk,Result.andThen_ok,Sem.run_pure]
 refine hK _ _ B ⟨some w.heap.size,hk,fun b hb hb2=>?_,some ⟨w.heap.size,0,none⟩,n,rfl,App.made m w e k n hm hn2 _ rfl,rfl⟩ (Bl.of_below B hbel) hbel (Lm hB hbel) (by simp)
 injection hb with hb
 have:=hB b hb2
 omega
theorem App.cap_eq {B:Nat} {w:World} {e:TypeId} {k:IntKind} {b n c c2:Nat} {xs:List Int} (h:App B w e k (some ⟨b,0,none⟩) n c xs) (h':App B w e k (some ⟨b,0,none⟩) n c2 xs) (hn:0<n):c=c2:=by
 rcases h.2 with ⟨_,h2⟩ | ⟨g,cap,cur,h1,h2,h3,h4,h5,h6,h7⟩
 ·omega
 ·rcases h'.2 with ⟨_,k2⟩ | ⟨g',cap',cur',k1,k2,k3,k4,k5,k6,k7⟩
  ·omega
  ·injection h1 with h1 h1' h1''
   injection k1 with k1 k1' k1''
   injection h1 with h1;injection h1 with h1
   injection k1 with k1;injection k1 with k1
   subst h1 k1
   rw [h3] at k3
   injection k3 with k3
   injection k3 with k3
   subst k3
   omega
theorem App.take {B:Nat} {w:World} {e:TypeId} {k:IntKind} {ad:Option Addr} {n c:Nat} {xs:List Int} (h:App B w e k ad n c xs) (j:Nat) (hj:j≤n):App B w e k ad j c (xs.take j):=by
 have hl:=h.len
 refine ⟨by rw [nums_length,List.length_take,hl,Nat.mul_one];omega,?_⟩
 rcases h.2 with ⟨h1,h2⟩ | ⟨g,cap,cur,h1,h2,h3,h4,h5,h6,h7⟩
 ·subst h2
  obtain rfl:j=0:=by omega
  exact .inl ⟨h1,rfl⟩
 ·injection h1 with h1 h1' h1''
  subst h1 h1''
  refine .inr ⟨g,c,cur,rfl,h2,h3,by omega,h5,h6,?_⟩
  rw [Nat.mul_one] at h7 ⊢
  have e2:nums k (xs.take j)=(nums k xs).take j:=by unfold nums;rw [List.map_take]
  rw [e2,←h7,List.take_take,Nat.min_eq_left hj]
theorem qml {t e e2:TypeId} {k k2:IntKind} {xs:List Int} {i:Int} {m:Nat} {gg:Option Nat} (j:Nat) (hs:P.underlying t=some (.slice e)) (hz:(P.info? e).map (·.size)=some 1) (h:Opd need x (.val (zh gg m e2 k xs))) (h':Opd need y (.val (Lit (.int k2 i)))) (hi:i=j) (hj:j≤xs.length) :
  jo P ⟨d,.slice t x none (some y) none,ty,pos,af,g⟩ need (.val (zh gg m e2 k (xs.take j))) false:=
 Oq h h' fun ρ w B v u ⟨hk,hB,ad,c,e1,ha,hg⟩ e3 h1 h2=>by
  subst hi
  have e3:u=.int k2 j:=e3
  obtain ⟨i0,hi0,hz0⟩:=Option.map_eq_some_iff.1 hz
  have hc:=ha.own.le
  have h3:(0:Int)≤(j:Int)∧(j:Int)≤(c:Int):=by omega
  refine ⟨.slice ad j c,?_,hk,hB,ad,c,by rw [List.length_take,Nat.min_eq_left hj],by rw [List.length_take,Nat.min_eq_left hj];exact ha.take j hj,hg⟩
  have had:ad.map (fun a=>a.add 0)=ad:=by
   cases ad with
   | none=>rfl
   | some a=>cases a;simp [Addr.add]
  simp [execOp,h1,h2,e1,e3,Instr.sliceAt,Instr.slice,Instr.sliceBounds,Instr.sliceBound,asIntOf,Sem.run_bind,run_underlying hs,sizeOf,typeInfo,hi0,hz0,h3,had]
  intro hh;omega
theorem qmk {t e:TypeId} {k k2:IntKind} {xs:List Int} {i:Int} (j:Nat) (hs:P.underlying t=some (.slice e)) (hz:(P.info? e).map (·.size)=some 1) (h:Opd need x (.val (qm4 k xs))) (h':Opd need y (.val (Lit (.int k2 i)))) (hi:i=j) (hj:j≤xs.length) :
  jo P ⟨d,.slice t x (some y) none none,ty,pos,af,g⟩ need (.val (IsL k (xs.drop j))) false:=
 Oq h h' fun ρ w B v u ⟨hk,ad,n,c,e1,hnc,r⟩ e3 h1 h2=>by
  subst hi
  have e3:u=.int k2 j:=e3
  obtain ⟨i0,hi0,hz0⟩:=Option.map_eq_some_iff.1 hz
  have hln:=r.len
  have h3:(0:Int)≤(j:Int)∧(j:Int)≤(n:Int):=by omega
  refine ⟨.slice (if c=j then ad else ad.map (·.add j)) (n-j) (c-j),?_,hk,_,_,_,rfl,?_⟩
  ·simp [execOp,h1,h2,e1,e3,Instr.sliceAt,Instr.slice,Instr.sliceBounds,Instr.sliceBound,asIntOf,Sem.run_bind,run_underlying hs,sizeOf,typeInfo,hi0,hz0,h3]
   intro hh;omega
  ·split
   ·have e4:n-j=0:=by omega
    rw [e4,List.drop_of_length_le (by omega)]
    exact Rds.nil _ _ _
   ·exact r.drop j (by omega)
end
def PCb (m:Nat) (V:Int) (v:Value) (w:World) (B:Bx):Prop:=∃ad n c,v=.slice ad n c∧Can w ad n c V∧n≤LIM∧0≤V∧(0<n→∀b,xg ad=some b→b<m)
def vk (m:Nat) (V:Int):VP:=⟨PCb m V,fun v w B w' B' h ⟨ad,n,c,e,k,l,h0,hb⟩=>⟨ad,n,c,e,⟨k.le,k.rds.mv h (.inl rfl)⟩,l,h0,hb⟩⟩
theorem Ul {m:Nat} {V:Int} (v:Value) (w:World) (B:Bx) (h:(vk m V).p v w B):(IsC V).p v w B:=by
 obtain ⟨ad,n,c,e,k,l,h0,hb⟩:=h
 exact ⟨ad,n,c,e,k,l,h0⟩
theorem qfv {m:Nat} {V:Int} (v:Value) (w:World) (B:Bx) (h:(vk m V).p v w B):(IsL .u32 (dg 4294967296 V)).p v w B:=qn8 v w B (Ul v w B h)
theorem qh5 {m:Nat} {V:Int} (v:Value) (w:World) (B:Bx) (h:(vk m V).p v w B):(qm4 .u32 (dg 4294967296 V)).p v w B:=by
 obtain ⟨ad,n,c,e,k,l,h0,hb⟩:=h
 exact ⟨.inl rfl,ad,n,c,e,k.le,k.rds⟩
theorem qnf {m:Nat} {w:World} {B:Bx} (hL:∀k xs v,(IsL k xs).p v w B→(Ad m k xs).p v w B) {V:Int} (v:Value) (h:(IsC V).p v w B):(vk m V).p v w B:=by
 obtain ⟨ad,n,c,e,k,l,h0⟩:=h
 obtain ⟨_,ad2,n2,c2,e2,_,hb⟩:=hL .u32 _ (.slice ad n c) ⟨.inl rfl,ad,n,c,rfl,k.rds⟩
 injection e2 with e2 e3 e4
 subst e2 e3
 exact ⟨ad,n,c,e,k,l,h0,hb⟩
theorem Gj {g:Option Nat} {m q:Nat} {V:Int} (hq:q≤m):Kept g m (.val (vk q V)):=fun v w w' B hs hb hg ⟨ad,n,c,e,k,l,h0,hl⟩=>by
 have h:=Ol (k:=.u32) (xs:=dg 4294967296 V) hq (.slice ad n c) w w' B hs hb hg ⟨.inl rfl,ad,n,c,rfl,k.rds,hl⟩
 obtain ⟨_,ad2,n2,c2,e2,r,_⟩:=h
 injection e2 with e2 e3 e4
 subst e2 e3
 exact ⟨ad,n,c,e,⟨k.le,r⟩,l,h0,hl⟩
section
variable {P:Program} {ops:Array Oper} {Q:Exit→Act→World→Prop} {N:Nat} {w0:World} {B0:Bx} {a:Act} {w:World} {B:Bx} {l:List (Tmp × FD)} {bxs:List Tmp}
theorem qnz {i:Nat} {K:Act→World→Prop} {g:Option Nat} {m r:Nat} {xs:List Int} {U q:Int} {s:Tmp} {x y z:Operand} {ts:Array TypeId} {ty:TypeId} {pos:String} {af:Array Edge} (rs:List Tmp) (is:List Nat) {ks:List (Tmp × FD)}
  (H:St N w0 B0 a w B l bxs) (hm:w0.heap.size≤m) (ho:ops[i]?=some ⟨some s,.call { callee:=.value (.func 200),args:=#[x,y,z],argTypes:=ts },ty,pos,af,none⟩)
  (hP:P=Tryz.prog) (hx:Opd l x (.val (zh g m 44 .u32 xs))) (hy:Opd l y (.val (vk r U))) (hrm:r≤m) (hz:Opd l z (.val (Lit (.int .u32 q)))) (hq:0≤q∧q<4294967296) (dx:Dig 4294967296 xs) (hx0:0<xs.length) (hxn:xs.length≤140737488355328) (hul:(dg 4294967296 U).length≤xs.length) (hle:q*U≤val 4294967296 xs)
  (hks:is.map (fun i=>l[i]?)=ks.map some) (hk:Ho g m ks) (hrs:∀s∈rs,(s,FD.val (zh g m 44 .u32 xs))∈l) (hns:decide (∀x∈ks,x.1≠s)=true) (hns2:decide (∀x∈rs,x≠s)=true) (hbs:bxs.contains s=false) (hsN:decide (s<N)=true)
  (hK:∀a w B X,X.length=xs.length→Dig 4294967296 X→val 4294967296 X=val 4294967296 xs-q*U→St N w0 B0 a w B (rs.map (fun s=>(s,FD.val (zh g m 44 .u32 X)))++ks) bxs→K a w):wpOp P ops Q i K a w:=by
 subst hP
 obtain ⟨hkd,hB,ad,c,e1,ha,hg⟩:=hx a w B H.fc
 obtain ⟨bd,n2,c2,e2,k2,l2,hU,hlow⟩:=hy a w B H.fc
 have e3:a.eval z=.int .u32 q:=hz a w B H.fc
 obtain ⟨b,rfl,hmb,_⟩:=ha.opened hx0
 have hgb:g=some b:=hg.symm
 subst hgb
 have hs:∀d,(some s:Option Tmp)=some d→d<a.tmps.size:=fun d hd2=>by
  injection hd2 with hd2
  subst hd2
  rw [H.sz]
  exact of_decide_eq_true hsN
 have hdU:=A8 4294967296 (by omega) U.toNat
 change Dig 4294967296 (dg 4294967296 U) at hdU
 have hcall:=qhe m b xs.length c xs (dg 4294967296 U) bd n2 c2 q w hxn rfl ha k2.rds (fun h0 e=>by have:=hlow h0 b e;omega) dx hdU hq
 unfold wpOp
 simp only [ho]
 rw [if_pos (by simp [Region.wanted])]
 refine .inl ?_
 unfold Oper.wp
 have hr2:(execOp a.eval ⟨some s,.call { callee:=.value (.func 200),args:=#[x,y,z],argTypes:=ts },ty,pos,af,none⟩).run Tryz.prog w=.ok (.enter 200 #[a.eval x,a.eval y,a.eval z]) w:=by
  have he:∀(vs:Array Value) (w:World),(callFunc 200 vs).run Tryz.prog w=.ok (.enter 200 vs) w:=fun _ _=>by go_simp
  simp [execOp,resolve,Act.eval,Deferred.ofValue,invoke,Sem.run_bind,he]
 rw [hr2,e1,e2,e3]
 refine hcall.mono ?_
 rintro e w' ⟨rfl,⟨X,cc,hX,hI⟩,hgr⟩
 have hXl:=hI.len
 have hvU:val 4294967296 (dg 4294967296 U)=U:=Bz 4294967296 (by omega) U hU
 have hend:=qmj hI hul (by rw [hvU];exact hle)
 rw [hvU] at hend
 have hst:=St.wrote (w':=w') (g:=some b) (rs:=rs.map (fun s=>(s,FD.val (zh (some b) m 44 .u32 X)))) H hm hgr.size (fun i hi hne=>hgr.block i hi fun e=>hne e.symm) (fun b2 hb=>by
   injection hb with hb
   subst hb
   exact ⟨hmb,hB _ rfl⟩) hgr.os hgr.tape hgr.output hk (fun z hz=>by
   have h2:some z∈is.map (fun i=>l[i]?):=by rw [hks];exact List.mem_map.2 ⟨z,hz,rfl⟩
   obtain ⟨i,_,hi⟩:=List.mem_map.1 h2
   exact List.mem_of_getElem? hi) (fun z hz=>by
   obtain ⟨s2,hs2,rfl⟩:=List.mem_map.1 hz
   obtain ⟨hkd2,hB2,ad2,c3,e4,ha2,hg2⟩:=H.fc.all _ (hrs s2 hs2)
   obtain ⟨b3,rfl,_⟩:=ha2.opened hx0
   obtain rfl:b3=b:=by
    have:xg (some ⟨b3,0,none⟩)=some b:=hg2
    injection this
   obtain rfl:=ha.cap_eq ha2 hx0
   refine ⟨hkd2,hB2,_,_,by rw [hXl];exact e4,by rw [hXl];exact hX,hg2⟩)
 have hput:∀x,(a.put (some s) (.tuple #[])).tmps.getD x undef=if (some s:Option Tmp)=some x then .tuple #[] else a.tmps.getD x undef:=fun x=>Dc hs
 have hold:∀x,x≠s→(a.put (some s) (.tuple #[])).tmps.getD x undef=a.tmps.getD x undef:=fun x hx=>by
  rw [hput,if_neg ?_]
  intro e
  injection e with e
  exact hx e.symm
 have hbn:∀x∈bxs,x≠s:=fun x hx e=>by
  subst e
  rw [←List.contains_iff_mem,hbs] at hx
  cases hx
 refine hK _ _ B X hXl hI.dig hend ⟨put_defers.trans hst.df,Dk.trans hst.sz,Fct.of_all fun x hx=>?_,fun x hx=>?_,fun x hx y hy hxy=>?_,hst.bel,hst.own,hst.own0⟩
 ·have hne:x.1≠s:=by
   rcases List.mem_append.1 hx with h | h
   ·obtain ⟨s2,hs2,rfl⟩:=List.mem_map.1 h
    exact of_decide_eq_true hns2 s2 hs2
   ·exact of_decide_eq_true hns x h
  rw [hold _ hne]
  exact hst.fc.all x hx
 ·obtain ⟨b,h1,h2,h3⟩:=hst.bx x hx
  exact ⟨b,(hold x (hbn x hx)).trans h1,h2,h3⟩
 ·rw [hold x (hbn x hx),hold y (hbn y hy)];exact hst.ap x hx y hy hxy
theorem O3 {m:Nat} {t ty e:TypeId} {i:TypeInfo} {k:IntKind} {ad:Option Addr} {n c:Nat} {xs:List Int} (ht:P.underlying t=some (.slice e)) (hi:P.info? e=some i) (ha:App m w e k ad n c xs) (ad2:Option Addr) (c2:Nat):(Builtin.append_ #[t,t] ty #[.slice ad n c,.slice ad2 0 c2]).run P w=.ok (.slice ad n c) w:=by
 have hc:=ha.own.le
 cases ad <;> cases ad2 <;> simp [Builtin.append_,run_underlying ht,sizeOf,typeInfo,hi,Builtin.lenOf,Builtin.firstCells,storeCells,loadCells,loadCellsFrom,hc]
theorem qe9 {i:Nat} {K:Act→World→Prop} {g:Option Nat} {m q:Nat} {e t:TypeId} {k:IntKind} {bytes:Nat} {xs ys:List Int} {s:Tmp} {x y:Operand} {zs:Tmp} {ty:TypeId} {pos:String} {af:Array Edge} (kz:Nat) (is:List Nat) {ks:List (Tmp × FD)}
  (H:St N w0 B0 a w B l bxs) (hm:w0.heap.size≤m) (ho:ops[i]?=some ⟨some s,.call { callee:=.builtin .append,args:=#[x,y],argTypes:=#[t,t] },ty,pos,af,none⟩)
  (ht:P.underlying t=some (.slice e)) (hinfo:(P.info? e).map (fun i=>(i.zero,i.size,i.bytes))=some (some (.int k 0),1,bytes)) (hb0:0<bytes) (hx:Opd l x (.val (zh g m e k xs))) (hy:Opd l y (.val (IsL k ys))) (hlen:(xs.length+ys.length)*bytes≤140737488355328)
  (hz:l[kz]?=some (zs,.val (Sz q))) (hmq:m≤q) (hks:is.map (fun i=>l[i]?)=ks.map some) (hns:decide (∀x∈ks,x.1≠s)=true) (hbs:bxs.contains s=false) (hsN:decide (s<N)=true) (hk:Ho g m ks)
  (hK:∀a w B g2,(∀b,g2=some b→g=some b∨q≤b)→St N w0 B0 a w B ((s,.val (zh g2 m e k (xs++ys))) :: ks) bxs→K a w):wpOp P ops Q i K a w:=by
 by_cases hy0:0<ys.length
 ·exact qiv kz is H hm ho ht hinfo hb0 hx hy hy0 hlen hz hmq hks hns hbs hsN hk hK
 ·have hys:ys=[]:=List.eq_nil_of_length_eq_zero (by omega)
  subst hys
  obtain ⟨i0,hi,hzz⟩:=Option.map_eq_some_iff.1 hinfo
  obtain ⟨hkd,hB,ad,c,e1,ha,hg⟩:=hx a w B H.fc
  obtain ⟨_,ad2,n2,c2,e2,r⟩:=hy a w B H.fc
  have hln:=r.len
  obtain rfl:n2=0:=by simpa using hln.symm
  have hs:∀d,(some s:Option Tmp)=some d→d<a.tmps.size:=fun d hd2=>by
   injection hd2 with hd2
   subst hd2
   rw [H.sz]
   exact of_decide_eq_true hsN
  have hput:∀x,(a.put (some s) (.slice ad xs.length c)).tmps.getD x undef=if (some s:Option Tmp)=some x then .slice ad xs.length c else a.tmps.getD x undef:=fun x=>Dc hs
  have hold:∀x,x≠s→(a.put (some s) (.slice ad xs.length c)).tmps.getD x undef=a.tmps.getD x undef:=fun x hx=>by
   rw [hput,if_neg ?_]
   intro e
   injection e with e
   exact hx e.symm
  have hbn:∀x∈bxs,x≠s:=fun x hx e=>by
   subst e
   rw [←List.contains_iff_mem,hbs] at hx
   cases hx
  unfold wpOp
  simp only [ho]
  rw [if_pos (by simp [Region.wanted])]
  refine .inl ?_
  unfold Oper.wp
  have hr2:(execOp a.eval ⟨some s,.call { callee:=.builtin .append,args:=#[x,y],argTypes:=#[t,t] },ty,pos,af,none⟩).run P w=.ok (.value (.slice ad xs.length c)) w:=by
   simp [execOp,e1,e2,resolve,invoke,builtin,Sem.run_bind,O3 ht hi ha]
  rw [hr2]
  refine hK _ _ B g (fun b hb=>.inl hb) ⟨put_defers.trans H.df,Dk.trans H.sz,Fct.of_all fun x hx=>?_,fun x hx=>?_,fun x hx y hy hxy=>?_,H.bel,H.own,H.own0⟩
  ·rcases List.mem_cons.1 hx with rfl | hx
   ·show Xz _ _ _ _ _ _ w B
    rw [hput,if_pos rfl]
    exact ⟨hkd,hB,ad,c,by rw [List.append_nil],by rw [List.append_nil];exact ha,hg⟩
   ·have hne:=of_decide_eq_true hns x hx
    rw [hold _ hne]
    have h2:some x∈is.map (fun i=>l[i]?):=by rw [hks];exact List.mem_map.2 ⟨x,hx,rfl⟩
    obtain ⟨i,_,hi⟩:=List.mem_map.1 h2
    exact H.fc.all x (List.mem_of_getElem? hi)
  ·obtain ⟨b,h1,h2,h3⟩:=H.bx x hx
   exact ⟨b,(hold x (hbn x hx)).trans h1,h2,h3⟩
  ·rw [hold x (hbn x hx),hold y (hbn y hy)];exact H.ap x hx y hy hxy
end
end Go.Proofs.YtbcbmkeeoognpaaGreatDoor

namespace Go.Proofs.YtbcbmkeeoognpaaGreatDoor
open Go Go.RowKit
structure ShI (X W:List Int) (k:Nat):Prop where
 len:W.length=X.length+1
 dig:Dig 4294967296 W
 lo:∀j,j≤k→j<X.length→W[j]?.getD 0=X[j]?.getD 0
 hi:∀j,k≤j→j<X.length→W[j+1]?.getD 0=X[j]?.getD 0
theorem qk3 (X:List Int) (d:Dig 4294967296 X):ShI X (X++[0]) X.length:=by
 refine ⟨by simp,d.append (fun x hx=>by simp at hx;omega),fun j _ hj=>?_,fun j h1 h2=>by omega⟩
 rw [List.getElem?_append_left hj]
theorem qmr {X W:List Int} {k:Nat} (h:ShI X W (k+1)) (hk:k<X.length):ShI X (W.set (k+1) (W[k]?.getD 0)) k:=by
 have hl:=h.len
 have hb:=h.dig.get (by omega) k
 refine ⟨by rw [List.length_set];exact hl,h.dig.set hb.1 hb.2 _,fun j h1 h2=>?_,fun j h1 h2=>?_⟩
 ·rw [List.getElem?_set_ne (by omega)]
  exact h.lo j (by omega) h2
 ·by_cases e:j=k
  ·subst e
   rw [List.getElem?_set_self (by omega),Option.getD_some]
   exact h.lo j (by omega) h2
  ·rw [List.getElem?_set_ne (by omega)]
   exact h.hi j (by omega) h2
theorem qn7 {X W:List Int} (h:ShI X W 0) (a:Int):W.set 0 a=a :: X:=by
 refine List.ext_getElem? fun j=>?_
 have hl:=h.len
 cases j with
 | zero=>rw [List.getElem?_set_self (by omega)];rfl
 | succ j=>
  rw [List.getElem?_set_ne (by omega),List.getElem?_cons_succ]
  by_cases hj:j<X.length
  ·have:=h.hi j (Nat.zero_le _) hj
   rw [List.getElem?_eq_getElem hj,List.getElem?_eq_getElem (by omega)] at this ⊢
   exact congrArg some this
  ·rw [List.getElem?_eq_none (by omega),List.getElem?_eq_none (by omega)]
structure Zp (V U:Int) (i:Nat) (Q X:List Int):Prop where
 ql:Q.length+(dg 4294967296 U).length=(dg 4294967296 V).length+1
 qd:Dig 4294967296 Q
 xd:Dig 4294967296 X
 xl:(dg 4294967296 U).length≤X.length+1∧X.length≤(dg 4294967296 U).length
 eq:val 4294967296 ((dg 4294967296 V).drop i)=val 4294967296 (Q.drop i)*U+val 4294967296 X
 lt:val 4294967296 X<U
theorem Ug (U:Int) (h:0<U):0<(dg 4294967296 U).length∧4294967296 ^ ((dg 4294967296 U).length-1)≤U∧U<4294967296 ^ (dg 4294967296 U).length∧0<(dg 4294967296 U)[(dg 4294967296 U).length-1]?.getD 0:=by
 have hp:0<(dg 4294967296 U).length:=by
  rcases Nat.eq_zero_or_pos (dg 4294967296 U).length with e | e
  ·have:=(Jp 4294967296 U (by omega) (by omega)).1 (List.eq_nil_of_length_eq_zero e);omega
  ·exact e
 have hv:=Bz 4294967296 (by omega) U (by omega)
 have hd:Dig 4294967296 (dg 4294967296 U):=A8 4294967296 (by omega) _
 have hn:=J3 4294967296 (by omega) U
 have h1:=Xq (b:=4294967296) (by omega) hd hn (fun e=>by rw [e] at hp;simp at hp)
 have h2:=Au (b:=4294967296) (by omega) hd
 have h3:=Oo (b:=4294967296) hn ((dg 4294967296 U).length-1) (by omega)
 have h4:=hd.get (by omega) ((dg 4294967296 U).length-1)
 change val 4294967296 (dg 4294967296 U)=U at hv
 rw [hv] at h1 h2
 exact ⟨hp,h1,h2,by omega⟩
theorem qgq (V U:Int) (hV:0≤V) (hU:0<U) (n:Nat) (hn:n+(dg 4294967296 U).length=(dg 4294967296 V).length+1) :
  Zp V U n (List.replicate n 0) ((dg 4294967296 V).drop n):=by
 obtain ⟨hp,h1,h2,_⟩:=Ug U hU
 have hd:Dig 4294967296 (dg 4294967296 V):=A8 4294967296 (by omega) _
 have h3:=Au (b:=4294967296) (by omega) (hd.drop n)
 rw [List.length_drop,show (dg 4294967296 V).length-n=(dg 4294967296 U).length-1 by omega] at h3
 refine ⟨by rw [List.length_replicate];exact hn,Dig.replicate _ (by omega) _,hd.drop n,by rw [List.length_drop];omega,?_,by omega⟩
 have e:val 4294967296 (List.drop n (List.replicate n 0))=0:=by
  rw [List.drop_of_length_le (by rw [List.length_replicate];exact Nat.le_refl _)];rfl
 rw [e,Int.zero_mul,Int.zero_add]
theorem Y3 {V U:Int} {i:Nat} {Q X:List Int} (hU:0<U) (h:Zp V U (i+1) Q X) (a:Int) (ha:a=(dg 4294967296 V)[i]?.getD 0) :
  Dig 4294967296 (a :: X)∧val 4294967296 (a :: X)<U*4294967296∧0≤val 4294967296 (a :: X) / U∧val 4294967296 (a :: X) / U<4294967296∧val 4294967296 (a :: X) / U*U≤val 4294967296 (a :: X)∧val 4294967296 (a :: X)-val 4294967296 (a :: X) / U*U<U:=by
 have hd:Dig 4294967296 (dg 4294967296 V):=A8 4294967296 (by omega) _
 have hb:=hd.get (by omega) i
 rw [←ha] at hb
 have hx:=zt (b:=4294967296) (by omega) h.xd
 have hlt:=h.lt
 have hv:val 4294967296 (a :: X)=a+4294967296*val 4294967296 X:=rfl
 have hV0:0≤val 4294967296 (a :: X):=by omega
 refine ⟨h.xd.cons hb.1 hb.2,by omega,Int.ediv_nonneg hV0 (by omega),Int.ediv_lt_of_lt_mul hU (by omega),Int.ediv_mul_le _ (by omega),?_⟩
 have:=Int.emod_lt_of_pos (val 4294967296 (a :: X)) hU
 have h2:=Int.mul_ediv_add_emod (val 4294967296 (a :: X)) U
 rw [Int.mul_comm] at h2
 omega
structure qa5 (V U:Int) (i:Nat) (Q X:List Int):Prop where
 ql:Q.length+(dg 4294967296 U).length=(dg 4294967296 V).length+1
 qd:Dig 4294967296 Q
 xd:Dig 4294967296 X
 xl:(dg 4294967296 U).length≤X.length+1∧X.length≤(dg 4294967296 U).length+1
 eq:val 4294967296 ((dg 4294967296 V).drop i)=val 4294967296 (Q.drop i)*U+val 4294967296 X
 lt:val 4294967296 X<U
theorem qjp {V U:Int} {i:Nat} {Q X Y:List Int} (hU:0<U) (h:Zp V U (i+1) Q X) (hi:i<Q.length) (a:Int) (ha:a=(dg 4294967296 V)[i]?.getD 0) (d:Int) (hd:d=val 4294967296 (a :: X) / U)
  (yl:Y.length=X.length+1) (yd:Dig 4294967296 Y) (yv:val 4294967296 Y=val 4294967296 (a :: X)-d*U):qa5 V U i (Q.set i d) Y:=by
 obtain ⟨g1,g2,g3,g4,g5,g6⟩:=Y3 hU h a ha
 obtain ⟨hp,_,_,_⟩:=Ug U hU
 have hq:=h.ql
 have hxl:=h.xl
 subst hd
 refine ⟨by rw [List.length_set];exact hq,h.qd.set g3 g4 _,yd,by omega,?_,by omega⟩
 rw [Ec 4294967296 (dg 4294967296 V) i (by omega),Ec 4294967296 (Q.set i _) i (by rw [List.length_set];exact hi),List.getElem?_set_self hi,Option.getD_some,List.drop_set_of_lt (by omega),h.eq,yv,←ha]
 have hv:val 4294967296 (a :: X)=a+4294967296*val 4294967296 X:=rfl
 generalize val 4294967296 (a :: X) / U=d
 rw [hv]
 grind
theorem qjq {V U:Int} {i:Nat} {Q X:List Int} (h:qa5 V U i Q X) (hm:(dg 4294967296 U).length≤X.length) (h0:0<X.length) (hz:X[X.length-1]?.getD 0=0):qa5 V U i Q (X.take (X.length-1)):=by
 have e:val 4294967296 X=val 4294967296 (X.take (X.length-1)):=by
  have:=zy 4294967296 X (X.length-1)
  rw [hz,Int.mul_zero,Int.add_zero,show X.length-1+1=X.length by omega,List.take_length] at this
  exact this
 have hl:=h.xl
 refine ⟨h.ql,h.qd,h.xd.take _,by rw [List.length_take];omega,by rw [←e];exact h.eq,by rw [←e];exact h.lt⟩
theorem qgp {V U:Int} {i:Nat} {Q X:List Int} (h:qa5 V U i Q X) (hm:¬(dg 4294967296 U).length≤X.length):Zp V U i Q X:=
 ⟨h.ql,h.qd,h.xd,⟨h.xl.1,by omega⟩,h.eq,h.lt⟩
theorem qjn {V U:Int} {i:Nat} {Q X:List Int} (hU:0<U) (h:qa5 V U i Q X) (h0:0<X.length) (hz:X[X.length-1]?.getD 0≠0):Zp V U i Q X:=by
 obtain ⟨hp,_,h2,_⟩:=Ug U hU
 have hl:=h.xl
 refine ⟨h.ql,h.qd,h.xd,⟨hl.1,?_⟩,h.eq,h.lt⟩
 rcases Nat.lt_or_ge (dg 4294967296 U).length X.length with g | g
 ·have hb:=h.xd.get (by omega) (X.length-1)
  have:=zy 4294967296 X (X.length-1)
  rw [show X.length-1+1=X.length by omega,List.take_length,show X.length-1=(dg 4294967296 U).length by omega] at this
  rw [show X.length-1=(dg 4294967296 U).length by omega] at hb hz
  have h3:=zt (b:=4294967296) (by omega) (h.xd.take (dg 4294967296 U).length)
  have h4:=Int.mul_le_mul_of_nonneg_left (show 1≤X[(dg 4294967296 U).length]?.getD 0 by omega) (show (0:Int)≤4294967296 ^ (dg 4294967296 U).length from Int.pow_nonneg (by omega))
  have:=h.lt
  omega
 ·omega
theorem qjm {V U:Int} {Q X:List Int} (hV:0≤V) (hU:0<U) (h:Zp V U 0 Q X):val 4294967296 Q=V / U∧val 4294967296 X=V % U:=by
 have e:=h.eq
 rw [List.drop_zero,List.drop_zero] at e
 have hv:=Bz 4294967296 (by omega) V hV
 change val 4294967296 (dg 4294967296 V)=V at hv
 rw [hv] at e
 have hx:=zt (b:=4294967296) (by omega) h.xd
 have hlt:=h.lt
 generalize val 4294967296 Q=q at *
 generalize val 4294967296 X=r at *
 have h1:V % U=r:=by
  rw [e,Int.add_comm,Int.add_mul_emod_self_right]
  exact Int.emod_eq_of_lt hx hlt
 have h2:V / U=q:=by
  rw [e,Int.add_comm,Int.add_mul_ediv_right _ _ (by omega),Int.ediv_eq_zero_of_lt hx hlt,Int.zero_add]
 exact ⟨h2.symm,h1.symm⟩
theorem qjo {V U:Int} (hV:0≤V) (hU:0≤U) (h:(dg 4294967296 V).length<(dg 4294967296 U).length):0<U∧V / U=0∧V % U=V:=by
 have hU0:0<U:=by
  rcases Int.lt_or_eq_of_le hU with g | g
  ·exact g
  ·rw [←g,Ak] at h;simp at h
 have hlt:V<U:=by
  rcases Int.lt_or_le V U with g | g
  ·exact g
  ·have:=qaa U V hU g;omega
 exact ⟨hU0,Int.ediv_eq_zero_of_lt hV hlt,Int.emod_eq_of_lt hV hlt⟩
end Go.Proofs.YtbcbmkeeoognpaaGreatDoor

namespace Go.Proofs.YtbcbmkeeoognpaaGreatDoor
open Go Go.RowKit
structure HS (rs X:List Int) (k:Nat):Prop where
 dig:Dig 4294967296 X
 len:X.length=(rs.length+3) / 4
 worth:val 4294967296 X=256 ^ k*val 256 (rs.drop k)
 zero:∀q,q<k / 4→X[q]?.getD 0=0
 low:X[k / 4]?.getD 0 % 256 ^ (k % 4)=0
theorem qca (rs:List Int):HS rs (List.replicate ((rs.length+3) / 4) 0) rs.length:=
 ⟨Dig.replicate _ (by omega) _,by simp,by rw [C9,List.drop_length];simp [val],fun q _=>by simp [List.getElem?_replicate];split <;> rfl,by simp [List.getElem?_replicate];split <;> simp⟩
theorem qmm (r:Nat) (hr:r<4) (o c:Int) (ho:0≤o∧o<4294967296) (hm:o % 256 ^ (r+1)=0) (hc:0≤c∧c<256):bits .or .u32 o (c*256 ^ r)=o+c*256 ^ r∧o+c*256 ^ r<4294967296:=by
 obtain ⟨o,rfl⟩:=Int.eq_ofNat_of_zero_le ho.1
 obtain ⟨c,rfl⟩:=Int.eq_ofNat_of_zero_le hc.1
 have e1:(c:Int)*256 ^ r=((c*256 ^ r:Nat):Int):=by simp
 have e2:(256:Int) ^ (r+1)=((256 ^ (r+1):Nat):Int):=by simp
 rw [e2] at hm
 have hm2:o % 256 ^ (r+1)=0:=by omega
 have e3:256 ^ (r+1)=2 ^ (8*(r+1)):=by rw [Nat.pow_mul]
 have h1:c*256 ^ r<256 ^ (r+1):=by
  have:c*256 ^ r≤255*256 ^ r:=Nat.mul_le_mul_right _ (by omega)
  have hp:0<256 ^ r:=Nat.pow_pos (by omega)
  rw [Nat.pow_succ];omega
 have h4:256 ^ (r+1) ∣ 4294967296:=⟨256 ^ (3-r),by rw [←Nat.pow_add,show r+1+(3-r)=4 by omega]⟩
 have h2:o+c*256 ^ r<4294967296:=by
  obtain ⟨A,hA⟩:=h4
  obtain ⟨D,hD⟩:=Nat.dvd_of_mod_eq_zero hm2
  have ho2:o<4294967296:=by omega
  rw [hA] at ho2 ⊢
  rw [hD] at ho2 ⊢
  have h5:D<A:=by
   have h6:256 ^ (r+1)*D<256 ^ (r+1)*A:=by omega
   exact Nat.lt_of_mul_lt_mul_left h6
  have h7:256 ^ (r+1)*(D+1)≤256 ^ (r+1)*A:=Nat.mul_le_mul_left _ h5
  rw [Nat.mul_add,Nat.mul_one] at h7
  omega
 rw [e1]
 refine ⟨?_,by omega⟩
 have hp:0<256 ^ r:=Nat.pow_pos (by omega)
 have h3:=nat_join (8*(r+1)) o (c*256 ^ r) (by rw [←e3];exact hm2) (by rw [←e3];exact h1)
 rw [Go.u32_or_nat o _ (by omega) (by omega),h3]
 omega
theorem qj8 (rs X:List Int) (p:Nat) (hp:p<rs.length) (dr:Dig 256 rs) (h:HS rs X (p+1)) :
  bits .or .u32 (X[p / 4]?.getD 0) (rs[p]?.getD 0*256 ^ (p % 4))=X[p / 4]?.getD 0+rs[p]?.getD 0*256 ^ (p % 4)∧HS rs (X.set (p / 4) (X[p / 4]?.getD 0+rs[p]?.getD 0*256 ^ (p % 4))) p∧p / 4<X.length:=by
 have hc:=dr.get (by omega) p
 have ho:=h.dig.get (by omega) (p / 4)
 have hq:p / 4<X.length:=by rw [h.len];omega
 have hlow:X[p / 4]?.getD 0 % 256 ^ (p % 4+1)=0:=by
  by_cases h3:p % 4=3
  ·rw [h.zero (p / 4) (by omega),Int.zero_emod]
  ·have:=h.low
   rw [show (p+1) / 4=p / 4 by omega,show (p+1) % 4=p % 4+1 by omega] at this
   exact this
 obtain ⟨o1,o2⟩:=qmm (p % 4) (by omega) _ _ ho hlow hc
 have hpp:(0:Int)<256 ^ (p % 4):=Int.pow_pos (by omega)
 have hv0:0≤X[p / 4]?.getD 0+rs[p]?.getD 0*256 ^ (p % 4):=by have:=Int.mul_nonneg hc.1 (Int.le_of_lt hpp);omega
 refine ⟨o1,⟨h.dig.set hv0 o2 _,by rw [List.length_set];exact h.len,?_,fun q hq2=>?_,?_⟩,hq⟩
 ·rw [Nl _ _ _ _ hq,h.worth,List.drop_eq_getElem_cons hp]
  have e:rs[p]?.getD 0=rs[p]:=by rw [List.getElem?_eq_getElem hp];rfl
  have hpow:(256:Int) ^ p=4294967296 ^ (p / 4)*256 ^ (p % 4):=by
   rw [←qco,←Int.pow_add]
   congr 1
   omega
  rw [e,Int.pow_succ,hpow]
  simp only [val]
  generalize (4294967296:Int) ^ (p / 4)=A
  generalize (256:Int) ^ (p % 4)=D
  grind
 ·rw [List.getElem?_set_ne (by omega)]
  exact h.zero q (by omega)
 ·rw [List.getElem?_set_self hq,Option.getD_some]
  rw [Int.pow_succ] at hlow
  have h1:X[p / 4]?.getD 0 % 256 ^ (p % 4)=0:=by
   have h2:=Int.dvd_of_emod_eq_zero hlow
   exact Int.emod_eq_zero_of_dvd (Int.dvd_trans ⟨256,rfl⟩ h2)
  rw [Int.add_mul_emod_self_right]
  exact h1
theorem qfl {Y X:List Int} {i:Int} (h0:0≤i) (hi:i<(Y.length:Int)) (dY:Dig 256 Y) (h:HS Y.reverse X ((Y.length:Int)-i).toNat) :
  bits .or .u32 (X[((((Y.length:Int)-1)-i) / 4).toNat]?.getD 0) (Y[i.toNat]?.getD 0*256 ^ ((((Y.length:Int)-1)-i) % 4).toNat)=X[((((Y.length:Int)-1)-i) / 4).toNat]?.getD 0+Y[i.toNat]?.getD 0*256 ^ ((((Y.length:Int)-1)-i) % 4).toNat ∧
  HS Y.reverse (X.set ((((Y.length:Int)-1)-i) / 4).toNat (X[((((Y.length:Int)-1)-i) / 4).toNat]?.getD 0+Y[i.toNat]?.getD 0*256 ^ ((((Y.length:Int)-1)-i) % 4).toNat)) ((Y.length:Int)-(i+1)).toNat∧((((Y.length:Int)-1)-i) / 4).toNat<X.length:=by
 obtain ⟨p,hp⟩:∃p:Nat,((Y.length:Int)-1)-i=(p:Int):=⟨(((Y.length:Int)-1)-i).toNat,by omega⟩
 rw [hp,show ((p:Int) / 4).toNat=p / 4 by omega,show ((p:Int) % 4).toNat=p % 4 by omega,show ((Y.length:Int)-(i+1)).toNat=p by omega]
 rw [show ((Y.length:Int)-i).toNat=p+1 by omega] at h
 have e:Y[i.toNat]?.getD 0=Y.reverse[p]?.getD 0:=by rw [List.getElem?_reverse (by omega)];congr 2;omega
 rw [e]
 exact qj8 Y.reverse X p (by rw [List.length_reverse];omega) dY.reverse h
theorem qgt (bs:List Int) (d:Dig 256 bs) (h:(128:Int)≤bs[0]?.getD 0) : -(y7 (zk bs))=xm bs∧0≤y7 (zk bs):=by
 unfold xm
 rw [if_pos h]
 have hp:0<y7 bs:=by
  cases bs with
  | nil=>simp at h
  | cons c l=>
   unfold y7
   rw [List.reverse_cons,val_append]
   have h1:=zt (show (0:Int)<256 by omega) d.tail.reverse
   simp at h
   simp only [val]
   have hp2:(0:Int)<256 ^ l.reverse.length:=Int.pow_pos (by omega)
   have:=Int.mul_pos hp2 (show 0<c by omega)
   simp
   simp at this
   omega
 have hv:=Y5 bs.reverse d.reverse
 have hlt:=Au (b:=256) (by omega) d.reverse
 unfold y7 at *
 unfold zk
 rw [List.reverse_reverse,hv,if_neg (by omega),List.length_reverse]
 rw [List.length_reverse] at hlt
 omega
end Go.Proofs.YtbcbmkeeoognpaaGreatDoor
