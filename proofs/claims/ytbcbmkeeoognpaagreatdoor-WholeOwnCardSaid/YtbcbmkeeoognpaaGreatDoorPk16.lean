/- Contracts of functions, and plain facts, part 16. -/
import Derived.Test.YtbcbmkeeoognpaaGreatDoorPk3
import Derived.Test.YtbcbmkeeoognpaaGreatDoorPk5
import Derived.Test.YtbcbmkeeoognpaaGreatDoorPk7
import Derived.Test.YtbcbmkeeoognpaaGreatDoorPk8
import Derived.Test.YtbcbmkeeoognpaaGreatDoorPk14
import Derived.Test.YtbcbmkeeoognpaaGreatDoorPk15
set_option linter.unusedVariables false
set_option linter.unusedSimpArgs false
namespace Go.Proofs.YtbcbmkeeoognpaaGreatDoor
open Go Go.RowKit
def Kd (k:IntKind):Prop:=k=.u32∨k=.u8
def Sz (m:Nat):VP:=⟨fun _ w _=>m≤w.heap.size,fun v w B w' B' h hp=>Nat.le_trans hp h.size⟩
def PL (k:IntKind) (xs:List Int) (v:Value) (w:World) (B:Bx):Prop:=Kd k∧∃ad n c,v=.slice ad n c∧Rds w k ad n xs
def IsL (k:IntKind) (xs:List Int):VP:=⟨PL k xs,fun v w B w' B' h ⟨hk,ad,n,c,e,r⟩=>⟨hk,ad,n,c,e,r.mv h hk⟩⟩
def PLb (m:Nat) (k:IntKind) (xs:List Int) (v:Value) (w:World) (B:Bx):Prop:=Kd k∧∃ad n c,v=.slice ad n c∧Rds w k ad n xs∧(0<n→∀b,xg ad=some b→b<m)
def Ad (m:Nat) (k:IntKind) (xs:List Int):VP:=⟨PLb m k xs,fun v w B w' B' h ⟨hk,ad,n,c,e,r,hb⟩=>⟨hk,ad,n,c,e,r.mv h hk,hb⟩⟩
def Xz (g:Option Nat) (m:Nat) (e:TypeId) (k:IntKind) (xs:List Int) (v:Value) (w:World) (B:Bx):Prop:=Kd k∧(∀b,g=some b→¬B b)∧∃ad c,v=.slice ad xs.length c∧App m w e k ad xs.length c xs∧xg ad=g
theorem Xz.st {g:Option Nat} {m:Nat} {e:TypeId} {k:IntKind} {xs:List Int} (v:Value) (w:World) (B:Bx) (w':World) (B':Bx) (h:Mv w B w' B') (hp:Xz g m e k xs v w B):Xz g m e k xs v w' B':=by
 obtain ⟨hk,hb,ad,c,e1,ha,hg⟩:=hp
 have hlt:∀b,g=some b→b<w.heap.size:=fun b hb2=>(ha.lt b (hg.trans hb2)).2
 refine ⟨hk,fun b hb2 h3=>hb b hb2 (h.box b (hlt b hb2) h3),ad,c,e1,ha.kept fun b hb2=>?_,hg⟩
 have h3:g=some b:=hg.symm.trans hb2
 exact (h.same b (hlt b h3)).resolve_right fun h4=>hb b h3 h4.1
def zh (g:Option Nat) (m:Nat) (e:TypeId) (k:IntKind) (xs:List Int):VP:=⟨Xz g m e k xs,Xz.st⟩
def Iu (m:Nat) (e:TypeId) (k:IntKind) (xs:List Int):VP:=⟨fun v w B=>∃g,Xz g m e k xs v w B,fun v w B w' B' h ⟨g,hp⟩=>⟨g,Xz.st v w B w' B' h hp⟩⟩
def Nq (g:Option Nat) (j:Nat):VP:=⟨fun v _ _=>∃b,g=some b∧v=.pointer (some ⟨b,j,none⟩),fun _ _ _ _ _ _ h=>h⟩
def qog (k:IntKind) (x:Int) (v:Value) (w:World) (B:Bx):Prop:=Kd k∧∃a,v=.pointer (some a)∧w.cell? a=some (.int k x)
def Fh (k:IntKind) (x:Int):VP:=⟨qog k x,fun v w B w' B' h ⟨hk,a,e,hc⟩=>by
 refine ⟨hk,a,e,?_⟩
 have hlt:=World.block_lt_of_cell? w a hc
 rcases h.same a.block hlt with h1 | ⟨_,h1⟩
 ·rw [←hc];exact World.cell?_of_block h1
 ·exact absurd hc (h1 a k x rfl hk)⟩
def PIb (m:Nat) (N:Int) (v:Value) (w:World) (B:Bx):Prop:=∃ad n c,v=.agg #[.bool (decide (N<0)),.slice ad n c]∧Can w ad n c (N.natAbs:Int)∧n≤LIM∧(0<n→∀b,xg ad=some b→b<m)
def Qu (m:Nat) (N:Int):VP:=⟨PIb m N,fun v w B w' B' h hp=>by
 obtain ⟨ad,n,c,e,k,l,hb⟩:=hp
 exact ⟨ad,n,c,e,⟨k.le,k.rds.mv h (.inl rfl)⟩,l,hb⟩⟩
theorem qm1 {m:Nat} {N:Int} (v:Value) (w:World) (B:Bx) (h:(Qu m N).p v w B):(IsI N).p v w B:=by
 obtain ⟨ad,n,c,e,k,l,hb⟩:=h
 exact ⟨ad,n,c,e,k,l⟩
theorem qk4 {m:Nat} {N:Int}:Shape 2 (Qu m N):=fun v w B ⟨ad,n,c,e,_⟩=>Rl e
theorem qop {m:Nat} {w:World} {B:Bx} (hL:∀k xs v,(IsL k xs).p v w B→(Ad m k xs).p v w B) {N:Int} (v:Value) (h:(IsI N).p v w B):(Qu m N).p v w B:=by
 obtain ⟨ad,n,c,e,k,l⟩:=h
 obtain ⟨_,ad2,n2,c2,e2,_,hb⟩:=hL .u32 _ (.slice ad n c) ⟨.inl rfl,ad,n,c,rfl,k.rds⟩
 injection e2 with e2 e3 e4
 subst e2 e3
 exact ⟨ad,n,c,e,k,l,hb⟩
theorem qn8 {V:Int} (v:Value) (w:World) (B:Bx) (h:(IsC V).p v w B):(IsL .u32 (dg 4294967296 V)).p v w B:=by
 obtain ⟨ad,n,c,e,k,l,hV⟩:=h
 exact ⟨.inl rfl,ad,n,c,e,k.rds⟩
theorem J7 {m:Nat} {k:IntKind} {xs:List Int} (v:Value) (w:World) (B:Bx) (h:(Ad m k xs).p v w B):(IsL k xs).p v w B:=by
 obtain ⟨hk,ad,n,c,e,r,_⟩:=h
 exact ⟨hk,ad,n,c,e,r⟩
theorem Gf {g:Option Nat} {m:Nat} {e:TypeId} {k:IntKind} {xs:List Int} (v:Value) (w:World) (B:Bx) (h:(zh g m e k xs).p v w B):(IsL k xs).p v w B:=by
 obtain ⟨hk,hb,ad,c,e1,ha,hg⟩:=h
 exact ⟨hk,ad,_,c,e1,ha.rds⟩
theorem qn9 {xs:List Int} {V:Int} (hd:Dig 4294967296 xs) (hV:val 4294967296 xs=V) (hl:xs.length≤274877906944) (v:Value) (w:World) (B:Bx) (hc:(∃g m e,(zh g m e .u32 xs).p v w B)):(IsM V).p v w B:=by
 obtain ⟨g,m,e,hk,hb,ad,c,e1,ha,hg⟩:=hc
 exact ⟨ad,_,c,e1,⟨ha.own.le,xs,ha.rds,hd,hV⟩,hl⟩
theorem Lc {g:Option Nat} {m:Nat} {e:TypeId} {xs:List Int} {V:Int} (hd:Dig 4294967296 xs) (hV:val 4294967296 xs=V) (hl:xs.length≤274877906944) (v:Value) (w:World) (B:Bx) (h:(zh g m e .u32 xs).p v w B):(IsM V).p v w B:=
 qn9 hd hV hl v w B ⟨g,m,e,h⟩
section
variable {P:Program} {need:List (Tmp × FD)} {d:Option Tmp} {ty:TypeId} {pos:String} {af:Array Edge} {g:Option (Nat × Bool)} {x y:Operand}
theorem Eu {t e:TypeId} {k:IntKind} {xs:List Int} (hs:P.underlying t=some (.slice e)) (h:Opd need x (.val (IsL k xs))):jo P ⟨d,.call { callee:=.builtin .len,args:=#[x],argTypes:=#[t] },ty,pos,af,g⟩ need (.val (Lit (.int .i64 (xs.length:Int)))) false:=
 Rj h fun ρ w B v ⟨hk,ad,n,c,e1,r⟩ h1=>by
  refine ⟨_,?_,rfl⟩
  rw [r.len]
  have hl:(Builtin.len_ #[t] ty #[.slice ad n c]).run P w=.ok (.int .i64 n) w:=by
   simp [Builtin.len_,Sem.run_bind,run_underlying hs,goInt]
  simp [execOp,h1,e1,resolve,invoke,builtin,Sem.run_bind,hl]
theorem run_indexAt {t e:TypeId} {k:IntKind} {i n c j:Nat} {a:Addr} (hs:P.underlying t=some (.slice e)) (hz:(P.info? e).map (·.size)=some 1) (hj:j<n) (w:World):(Instr.indexAt t (.slice (some a) n c) (.int k j)).run P w=.ok (.pointer (some (a.add j))) w:=by
 obtain ⟨i0,hi,hz0⟩:=Option.map_eq_some_iff.1 hz
 have h2:(0:Int)≤(j:Int)∧(j:Int)<(n:Int):=by omega
 simp [Instr.indexAt,asIntOf,Sem.run_bind,run_underlying hs,sizeOf,typeInfo,hi,hz0,h2]
 first | done | (intro hh;omega)
theorem Et {t e:TypeId} {k k2:IntKind} {xs:List Int} {i:Int} (j:Nat) (hs:P.underlying t=some (.slice e)) (hz:(P.info? e).map (·.size)=some 1) (h:Opd need x (.val (IsL k xs))) (h':Opd need y (.val (Lit (.int k2 i)))) (hi:i=j) (hj:j<xs.length):jo P ⟨d,.indexAddr t x y,ty,pos,af,g⟩ need (.val (Fh k (xs[j]?.getD 0))) false:=
 Oq h h' fun ρ w B v u ⟨hk,ad,n,c,e1,r⟩ e2 h1 h2=>by
  subst hi
  have hjn:j<n:=by have:=r.len;omega
  obtain ⟨a,rfl,hc⟩:=r.cell j hjn
  refine ⟨.pointer (some (a.add j)),?_,hk,_,rfl,hc⟩
  have e2:u=.int k2 j:=e2
  simp [execOp,h1,h2,e1,e2,run_indexAt hs hz hjn (i:=0)]
theorem J4 {t e e2:TypeId} {k k2:IntKind} {xs:List Int} {i:Int} {m:Nat} {gg:Option Nat} (j:Nat) (hs:P.underlying t=some (.slice e)) (hz:(P.info? e).map (·.size)=some 1) (h:Opd need x (.val (zh gg m e2 k xs))) (h':Opd need y (.val (Lit (.int k2 i)))) (hi:i=j) (hj:j<xs.length):jo P ⟨d,.indexAddr t x y,ty,pos,af,g⟩ need (.val (Nq gg j)) false:=
 Oq h h' fun ρ w B v u ⟨hk,hb,ad,c,e1,ha,hg⟩ e2 h1 h2=>by
  subst hi
  obtain ⟨b,e3,hm,_⟩:=ha.opened (by omega)
  subst e3
  refine ⟨.pointer (some ⟨b,j,none⟩),?_,b,hg.symm,rfl⟩
  have e2:u=.int k2 j:=e2
  simp [execOp,h1,h2,e1,e2,run_indexAt hs hz hj (i:=0),Ff]
theorem Ap {t:TypeId} {k:IntKind} {i:Int} (hs:∀w:World,(isAgg t).run P w=.ok false w) (h:Opd need x (.val (Fh k i))):jo P ⟨d,.load t x,ty,pos,af,g⟩ need (.val (Lit (.int k i))) false:=
 Rj h fun ρ w B v ⟨hk,a,e1,hc⟩ h1=>by
  refine ⟨.int k i,?_,rfl⟩
  simp only [execOp,h1,e1,Instr.loadAt,Instr.sureAddr,Sem.run_bind,Sem.run_pure,Result.andThen_ok,loadVar,hs,Bool.false_eq_true,if_false]
  simp [load,hc,Sem.run]
end
theorem Jd (w:World):(isAgg 44).run Tryz.prog w=.ok false w:=by go_simp
theorem qit (w:World):(isAgg 5).run Tryz.prog w=.ok false w:=by go_simp
theorem Bf:(Tryz.prog.info? 44).map (·.size)=some 1:=by kernel_rfl
theorem qk8:(Tryz.prog.info? 5).map (·.size)=some 1:=by kernel_rfl
section
variable {P:Program} {need:List (Tmp × FD)} {d:Option Tmp} {ty:TypeId} {pos:String} {af:Array Edge} {g:Option (Nat × Bool)} {x y:Operand}
theorem Lm {w w':World} {B:Bx} (hB:Hz B w) (hb:Below w.heap.size w w'):Hz B w':=fun k hk=>Nat.lt_of_lt_of_le (hB k hk) hb.size
theorem Uh {t e:TypeId} {k:IntKind} {bytes m:Nat} {z:Tmp} {i:Int} (n q:Nat) (hk:Kd k) (ht:P.underlying t=some (.slice e)) (hinfo:(P.info? e).map (fun i=>(i.zero,i.size,i.bytes))=some (some (.int k 0),1,bytes)) (hb0:0<bytes)
  (hn:n*bytes≤281474976710656) (h:Opd need x (.val (Lit (.int .i64 i)))) (h':Opd need y (.val (Lit (.int .i64 i)))) (hi:i=n) (hz:need[q]?=some (z,.val (Sz m))) :
  jo P ⟨d,.makeSlice t x y,ty,pos,af,g⟩ need (.val (Iu m e k (List.replicate n 0))) false:=by
 intro Q K a w B hB hF hK
 have e1:a.eval x=.int .i64 i:=h a w B hF
 have e2:a.eval y=.int .i64 i:=h' a w B hF
 have hm:m≤w.heap.size:=hF.get q hz
 have hmk:=Du (P:=P) t e k bytes ht hinfo hb0 n hn i hi w
 have hbel:Below w.heap.size w (w.alloc (.cells (nums k (List.replicate n 0)).toArray e)):=(Below.refl _ _).alloc (Nat.le_refl _) _
 unfold Oper.wp
 simp only [execOp,e1,e2,Sem.run_bind,hmk,Result.andThen_ok,Sem.run_pure]
 refine hK _ _ B ⟨some w.heap.size,hk,fun b hb hb2=>?_,some ⟨w.heap.size,0,none⟩,n,by simp,?_,rfl⟩ (Bl.of_below B hbel) hbel (Lm hB hbel) (by simp)
 ·injection hb with hb
  have:=hB b hb2
  omega
 ·have hn2:n≤281474976710656:=Nat.le_trans (Nat.le_mul_of_pos_right _ hb0) hn
  refine ⟨by simp [nums],.inr ⟨w.heap.size,n,_,by simp,hm,heap_alloc_new w _,by simp,by simp only [maxLen];omega,by simp [nums],?_⟩⟩
  rw [List.take_of_length_le (by simp [nums])]
theorem qhk {m:Nat} {e:TypeId} {k:IntKind} (hk:Kd k):jo P ⟨d,.assign (.const (.slice none 0 0)),ty,pos,af,g⟩ need (.val (zh none m e k [])) false:=
 jo.value fun a w B hF=>⟨.slice none 0 0,rfl,hk,(fun b hb=>by cases hb),none,0,rfl,App.nil _ _ _ _,rfl⟩
set_option maxRecDepth 50000 in
theorem qcm {need:List (Tmp × FD)} {i:Int} (h:Opd need x (.val (Lit (.int .u32 i)))):jo Tryz.prog ⟨d,.buildSlice 23 1 #[(0,x)],ty,pos,af,g⟩ need (.val (IsL .u32 [i])) false:=by
 intro Q K a w B hB hF hK
 have e:a.eval x=.int .u32 i:=h a w B hF
 have hbel:Below w.heap.size w (w.alloc (.cells #[.int .u32 i] 44)):=(Below.refl _ _).alloc (Nat.le_refl _) _
 have hr:(execOp a.eval ⟨d,.buildSlice 23 1 #[(0,x)],ty,pos,af,g⟩).run Tryz.prog w=.ok (.value (.slice (some ⟨w.heap.size,0,none⟩) 1 1)) (w.alloc (.cells #[.int .u32 i] 44)):=by
  simp only [execOp,e,List.map_toArray,List.map_cons,List.map_nil]
  go_simp
 unfold Oper.wp
 rw [hr]
 refine hK _ _ B ⟨.inl rfl,_,1,1,rfl,rfl,fun j hj=>⟨_,rfl,?_⟩⟩ (Bl.of_below B hbel) hbel (Lm hB hbel) (by simp)
 obtain rfl:j=0:=by omega
 rw [Ff,Af (heap_alloc_new w _)]
 rfl
end
section
variable {P:Program} {Q:Exit→Act→World→Prop} {N:Nat} {w0:World} {B0:Bx} {a:Act} {w:World} {B:Bx} {l:List (Tmp × FD)} {bxs:List Tmp}
theorem St.mark (H:St N w0 B0 a w B l bxs) (s:Tmp):∃m,w0.heap.size≤m∧w.heap.size≤m∧(∀k xs v,(IsL k xs).p v w B→(Ad m k xs).p v w B)∧St N w0 B0 a w B ((s,.val (Sz m)) :: l) bxs:=by
 refine ⟨w.heap.size,H.bel.size,Nat.le_refl _,fun k xs v ⟨hk,ad,n,c,e,r⟩=>⟨hk,ad,n,c,e,r,fun hn b hb=>?_⟩,H.df,H.sz,⟨Nat.le_refl _,H.fc⟩,H.bx,H.ap,H.bel,H.own,H.own0⟩
 obtain ⟨a1,rfl,hc⟩:=r.cell 0 hn
 have h2:=World.block_lt_of_cell? w _ hc
 have e2:(a1.add 0).block=a1.block:=by unfold Addr.add;split <;> rfl
 have hb3:a1.block=b:=by injection hb
 rw [e2] at h2
 omega
theorem St.setw (H:St N w0 B0 a w B l bxs) (k:Nat) {s:Tmp} {D D':VP} (hk:l[k]?=some (s,.val D)) (hw:∀v,D.p v w B→D'.p v w B) {l':List (Tmp × FD)} (hl:l.set k (s,.val D')=l'):St N w0 B0 a w B l' bxs:=by
 refine ⟨H.df,H.sz,Fct.of_all fun x hx=>?_,H.bx,H.ap,H.bel,H.own,H.own0⟩
 rw [←hl] at hx
 rcases List.mem_or_eq_of_mem_set hx with h | h
 ·exact H.fc.all x h
 ·subst h;exact hw _ (H.fc.get k hk)
theorem St.setwB (H:St N w0 B0 a w B l bxs) (k:Nat) {s:Tmp} {t:TypeId} {n:Nat} {D D':VP} (hk:l[k]?=some (s,.box t n D)) (hw:∀v,D.p v w B→D'.p v w B) {l':List (Tmp × FD)} (hl:l.set k (s,.box t n D')=l'):St N w0 B0 a w B l' bxs:=by
 refine ⟨H.df,H.sz,Fct.of_all fun x hx=>?_,H.bx,H.ap,H.bel,H.own,H.own0⟩
 rw [←hl] at hx
 rcases List.mem_or_eq_of_mem_set hx with h | h
 ·exact H.fc.all x h
 ·subst h
  obtain ⟨b,cs,h1,h2,h3,h4,h5,h6⟩:=H.fc.get k hk
  exact ⟨b,cs,h1,h2,h3,h4,h5,hw _ h6⟩
theorem St.name (H:St N w0 B0 a w B l bxs) (i:Nat) {s:Tmp} {m:Nat} {e:TypeId} {k:IntKind} {xs:List Int} (hi:l[i]?=some (s,.val (Iu m e k xs))):∃g,(∀b,g=some b→m≤b∧b<w.heap.size)∧St N w0 B0 a w B (l.set i (s,.val (zh g m e k xs))) bxs:=by
 obtain ⟨g,hp⟩:=H.fc.get i hi
 refine ⟨g,fun b hb=>?_,H.df,H.sz,Fct.of_all fun x hx=>?_,H.bx,H.ap,H.bel,H.own,H.own0⟩
 ·obtain ⟨_,_,ad,c,_,ha,hg⟩:=hp
  exact ha.lt b (hg.trans hb)
 ·rcases List.mem_or_eq_of_mem_set hx with h | h
  ·exact H.fc.all x h
  ·subst h;exact hp
end
def Kept (g:Option Nat) (m:Nat) (f:FD):Prop:=∀(v:Value) (w w':World) (B:Bx),w.heap.size≤w'.heap.size→(∀i,i<w.heap.size→g≠some i→w'.heap[i]?=w.heap[i]?)→(∀b,g=some b→m≤b∧¬B b)→f.p v w B→f.p v w' B
theorem jg {g:Option Nat} {m:Nat} {u:Value}:Kept g m (.val (Lit u)):=fun _ _ _ _ _ _ _ h=>h
theorem Ce {g:Option Nat} {m q:Nat}:Kept g m (.val (Sz q)):=fun _ _ _ _ hs _ _ h=>Nat.le_trans h hs
theorem Ol {g:Option Nat} {m q:Nat} {k:IntKind} {xs:List Int} (hq:q≤m):Kept g m (.val (Ad q k xs)):=fun v w w' B hs hb hg ⟨hk,ad,n,c,e,r,hl⟩=>by
 refine ⟨hk,ad,n,c,e,r.kept fun hn b hb2=>?_,hl⟩
 obtain ⟨a1,rfl,hc⟩:=r.cell 0 hn
 have h2:=World.block_lt_of_cell? w _ hc
 have e2:(a1.add 0).block=a1.block:=by unfold Addr.add;split <;> rfl
 rw [e2] at h2
 injection hb2 with hb2
 subst hb2
 refine hb _ h2 fun hg2=>?_
 have h3:=hl hn _ rfl
 have:=(hg _ hg2).1
 omega
theorem qmb {g:Option Nat} {m q:Nat} {N:Int} (hq:q≤m):Kept g m (.val (Qu q N)):=fun v w w' B hs hb hg ⟨ad,n,c,e,k,l,hl⟩=>by
 have h:=Ol (k:=.u32) (xs:=dg 4294967296 (N.natAbs:Int)) hq (.slice ad n c) w w' B hs hb hg ⟨.inl rfl,ad,n,c,rfl,k.rds,hl⟩
 obtain ⟨_,ad2,n2,c2,e2,r,_⟩:=h
 injection e2 with e2 e3 e4
 subst e2 e3
 exact ⟨ad,n,c,e,⟨k.le,r⟩,l,hl⟩
theorem I7 {g:Option Nat} {m n:Nat} {t:TypeId} {D:VP} (h:Kept g m (.val D)):Kept g m (.box t n D):=fun v w w' B hs hb hg ⟨b,cs,h1,h2,h3,h4,h5,h6⟩=>
 ⟨b,cs,h1,h2,Nat.lt_of_lt_of_le h3 hs,(hb b h3 fun e=>(hg b e).2 h2).trans h4,h5,h _ _ _ _ hs hb hg h6⟩
inductive Ho (g:Option Nat) (m:Nat):List (Tmp × FD)→Prop where
 | nil:Ho g m []
 | cons {s:Tmp} {f:FD} {l:List (Tmp × FD)} (h:Kept g m f) (t:Ho g m l):Ho g m ((s,f) :: l)
theorem Ho.all {g:Option Nat} {m:Nat} {l:List (Tmp × FD)} (h:Ho g m l):∀x∈l,Kept g m x.2:=by
 induction h with
 | nil=>intro x hx;cases hx
 | cons h t ih=>
  intro x hx
  rcases List.mem_cons.1 hx with rfl | hx
  ·exact h
  ·exact ih x hx
section
variable {P:Program} {ops:Array Oper} {Q:Exit→Act→World→Prop} {N:Nat} {w0:World} {B0:Bx} {a:Act} {w:World} {B:Bx} {l:List (Tmp × FD)} {bxs:List Tmp}
theorem St.wrote {w':World} {g:Option Nat} {m:Nat} (H:St N w0 B0 a w B l bxs) (hm:w0.heap.size≤m) (hs:w.heap.size≤w'.heap.size) (hb:∀i,i<w.heap.size→g≠some i→w'.heap[i]?=w.heap[i]?) (hg:∀b,g=some b→m≤b∧¬B b)
  (ho:w'.os=w.os) (ht:w'.tape=w.tape) (hp:w'.output=w.output) {ks rs:List (Tmp × FD)} (hk:Ho g m ks) (hsub:∀x∈ks,x∈l) (hr:∀x∈rs,x.2.p (a.tmps.getD x.1 undef) w' B):St N w0 B0 a w' B (rs++ks) bxs:=by
 refine ⟨H.df,H.sz,Fct.of_all fun x hx=>?_,fun s hs2=>?_,H.ap,?_,fun k hk=>Nat.lt_of_lt_of_le (H.own k hk) hs,H.own0⟩
 ·rcases List.mem_append.1 hx with h | h
  ·exact hr x h
  ·exact hk.all x h _ _ _ _ hs hb hg (H.fc.all x (hsub x h))
 ·obtain ⟨b,h1,h2,h3⟩:=H.bx s hs2
  exact ⟨b,h1,Nat.lt_of_lt_of_le h2 hs,h3⟩
 ·refine ⟨ho.trans H.bel.os,ht.trans H.bel.tape,hp.trans H.bel.output,Nat.le_trans H.bel.size hs,fun i hi=>?_⟩
  rw [hb i (Nat.lt_of_lt_of_le hi H.bel.size) fun e=>by have:=(hg i e).1;omega]
  exact H.bel.block i hi
theorem Hg {i:Nat} {K:Act→World→Prop} {g:Option Nat} {m j:Nat} {e t:TypeId} {k:IntKind} {xs:List Int} {y:Int} {p:Tmp} {x:Operand} {ty:TypeId} {pos:String} {af:Array Edge} (kp kr:Nat) {sr:Tmp} (rs:List Tmp) (is:List Nat) {ks l':List (Tmp × FD)}
  (H:St N w0 B0 a w B l bxs) (hm:w0.heap.size≤m) (ho:ops[i]?=some ⟨none,.store t (.tmp p) x,ty,pos,af,none⟩) (hz:(P.info? t).map (·.size)=some 1) (hp:l[kp]?=some (p,.val (Nq g j))) (hx:Opd l x (.val (Lit (.int k y)))) (hr:l[kr]?=some (sr,.val (zh g m e k xs))) (hj:j<xs.length)
  (hks:is.map (fun i=>l[i]?)=ks.map some) (hk:Ho g m ks) (hrs:∀s∈rs,(s,FD.val (zh g m e k xs))∈l) (hl:rs.map (fun s=>(s,FD.val (zh g m e k (xs.set j y))))++ks=l')
  (hK:∀w,St N w0 B0 a w B l' bxs→K a w):wpOp P ops Q i K a w:=by
 obtain ⟨b,hgb,e1⟩:=H.fc.get kp hp
 obtain ⟨hkd,hB,ad,c,e2,ha,hg⟩:=H.fc.get kr hr
 have hxv:a.eval x=.int k y:=hx a w B H.fc
 obtain ⟨b2,rfl,hmb,hcell,hfr,hset,honly⟩:=ha.opened (by omega)
 obtain rfl:b2=b:=by
  rw [hgb] at hg
  injection hg
 have hon:=honly j (.int k y)
 have hrun:(storeVar t ⟨b2,j,none⟩ (.int k y)).run P w=.ok () (w.setCell ⟨b2,j,none⟩ (.int k y)):=by
  obtain ⟨i0,hi,hz0⟩:=Option.map_eq_some_iff.1 hz
  have hs1:=run_store P w ⟨b2,j,none⟩ (.int k y) .plain rfl
  rw [hcell j hj,hfr j] at hs1
  have e0:(⟨b2,j,none⟩:Addr).add 0=⟨b2,j,none⟩:=by unfold Addr.add;split <;> simp_all
  simp [storeVar,Value.cells,storeCells,sizeOf,typeInfo,hi,hz0,Sem.run_bind,e0]
  simpa using hs1
 have hst:=St.wrote (w':=w.setCell ⟨b2,j,none⟩ (.int k y)) (rs:=rs.map (fun s=>(s,FD.val (zh g m e k (xs.set j y))))) H hm (Nat.le_of_eq hon.size.symm) (fun i hi hne=>hon.rest i fun e=>hne (by rw [hgb,e])) (fun b hb=>by
   rw [hgb] at hb
   injection hb with hb
   subst hb
   exact ⟨hmb,hB _ hgb⟩) hon.os hon.tape hon.output hk (fun z hz=>by
   have h2:some z∈is.map (fun i=>l[i]?):=by rw [hks];exact List.mem_map.2 ⟨z,hz,rfl⟩
   obtain ⟨i,_,hi⟩:=List.mem_map.1 h2
   exact List.mem_of_getElem? hi) (fun z hz=>by
   obtain ⟨s,hs,rfl⟩:=List.mem_map.1 hz
   obtain ⟨hkd2,hB2,ad2,c2,e3,ha2,hg2⟩:=H.fc.all _ (hrs s hs)
   refine ⟨hkd2,hB2,ad2,c2,by rw [List.length_set];exact e3,?_,hg2⟩
   obtain ⟨b3,rfl,_,_,_,hset2,_⟩:=ha2.opened (by omega)
   obtain rfl:b3=b2:=by
    rw [hgb] at hg2
    injection hg2
   rw [List.length_set]
   exact hset2 j y hj)
 rw [hl] at hst
 unfold wpOp
 simp only [ho]
 rw [if_pos (by simp [Region.wanted])]
 refine .inl ?_
 unfold Oper.wp
 have hr2:(execOp a.eval ⟨none,.store t (.tmp p) x,ty,pos,af,none⟩).run P w=.ok .skip (w.setCell ⟨b2,j,none⟩ (.int k y)):=by
  have e4:a.eval (.tmp p)=.pointer (some ⟨b2,j,none⟩):=e1
  simp only [execOp,e4,hxv,Instr.storeAt,Instr.sureAddr,Sem.run_bind,Sem.run_pure,Result.andThen_ok,hrun]
 rw [hr2]
 exact hK _ hst
theorem qiv {i:Nat} {K:Act→World→Prop} {g:Option Nat} {m q:Nat} {e t:TypeId} {k:IntKind} {bytes:Nat} {xs ys:List Int} {s:Tmp} {x y:Operand} {zs:Tmp} {ty:TypeId} {pos:String} {af:Array Edge} (kz:Nat) (is:List Nat) {ks:List (Tmp × FD)}
  (H:St N w0 B0 a w B l bxs) (hm:w0.heap.size≤m) (ho:ops[i]?=some ⟨some s,.call { callee:=.builtin .append,args:=#[x,y],argTypes:=#[t,t] },ty,pos,af,none⟩)
  (ht:P.underlying t=some (.slice e)) (hinfo:(P.info? e).map (fun i=>(i.zero,i.size,i.bytes))=some (some (.int k 0),1,bytes)) (hb0:0<bytes) (hx:Opd l x (.val (zh g m e k xs))) (hy:Opd l y (.val (IsL k ys))) (hy0:0<ys.length) (hlen:(xs.length+ys.length)*bytes≤140737488355328)
  (hz:l[kz]?=some (zs,.val (Sz q))) (hmq:m≤q) (hks:is.map (fun i=>l[i]?)=ks.map some) (hns:decide (∀x∈ks,x.1≠s)=true) (hbs:bxs.contains s=false) (hsN:decide (s<N)=true) (hk:Ho g m ks)
  (hK:∀a w B g2,(∀b,g2=some b→g=some b∨q≤b)→St N w0 B0 a w B ((s,.val (zh g2 m e k (xs++ys))) :: ks) bxs→K a w):wpOp P ops Q i K a w:=by
 obtain ⟨i0,hi,hzz⟩:=Option.map_eq_some_iff.1 hinfo
 simp only [Prod.mk.injEq] at hzz
 obtain ⟨hz0,hz1,hz2⟩:=hzz
 have hsz:q≤w.heap.size:=H.fc.get kz hz
 obtain ⟨hkd,hB,ad,c,e1,ha,hg⟩:=hx a w B H.fc
 obtain ⟨_,ad2,n2,c2,e2,r⟩:=hy a w B H.fc
 obtain ⟨a2,rfl,_⟩:=r.cell 0 (by have:=r.len;omega)
 have hln:=r.len
 have hl3:xs.length+ys.length≤140737488355328:=Nat.le_trans (Nat.le_mul_of_pos_right _ hb0) hlen
 obtain ⟨v1,w1,hrun,hown,hgr,_,hat⟩:=run_append_own_at (P:=P) (w:=w) m t ty e i0 (.int k 0) 1 bytes ht hi hz0 hz1 hz2 rfl (by omega) (.slice ad xs.length c) xs.length (nums k xs) ha a2 n2 c2 (nums k ys) (by rw [nums_length,hln,Nat.mul_one])
  (fun j u hj=>by
   have hjl:j<ys.length:=by
    rcases Nat.lt_or_ge j ys.length with h1 | h1
    ·exact h1
    ·rw [List.getElem?_eq_none (by rw [nums_length];exact h1)] at hj;cases hj
   obtain ⟨a3,e3,hc⟩:=r.cell j (by omega)
   injection e3 with e3
   subst e3
   rw [Ja k ys j hjl] at hj
   rw [hc,hj]) (fun u hu=>by simp only [nums,List.mem_map] at hu;obtain ⟨z,_,rfl⟩:=hu;rfl) (by rw [←hln];simp only [maxLen];omega) (by rw [←hln];exact hlen) (by omega)
 have hv:∃ad1 c1,v1=.slice ad1 (xs.length+n2) c1:=by
  rcases hown.2 with ⟨h1,h2⟩ | ⟨g3,cap,cur,h1,_⟩
  ·exact ⟨none,0,by rw [h1,h2]⟩
  ·exact ⟨_,cap,h1⟩
 obtain ⟨ad1,c1,rfl⟩:=hv
 rw [Dy,Dy] at hat
 rw [Dy,hg] at hgr
 have hmg:∀b,g=some b→m≤b∧¬B b:=fun b hb=>⟨(ha.lt b (hg.trans hb)).1,hB b hb⟩
 have hnew:Xz (xg ad1) m e k (xs++ys) (.slice ad1 (xs.length+n2) c1) w1 B:=by
  refine ⟨hkd,fun b hb=>?_,ad1,c1,by rw [List.length_append,hln],?_,rfl⟩
  ·rcases hat with h1 | h1
   ·exact hB b (by rw [←hg,←h1];exact hb)
   ·rw [hb] at h1
    injection h1 with h1
    subst h1
    intro h2
    have:=H.own _ h2
    omega
  ·unfold App nums
   rw [List.map_append,List.length_append,hln]
   exact hown
 have hst:=St.wrote (w':=w1) (rs:=[]) H hm hgr.size (fun i hi hne=>hgr.block i hi fun e=>hne e.symm) hmg hgr.os hgr.tape hgr.output hk (fun z hz=>by
   have h2:some z∈is.map (fun i=>l[i]?):=by rw [hks];exact List.mem_map.2 ⟨z,hz,rfl⟩
   obtain ⟨i,_,hi⟩:=List.mem_map.1 h2
   exact List.mem_of_getElem? hi) (fun z hz=>by cases hz)
 rw [List.nil_append] at hst
 have hs:∀d,(some s:Option Tmp)=some d→d<a.tmps.size:=fun d hd2=>by
  injection hd2 with hd2
  subst hd2
  rw [H.sz]
  exact of_decide_eq_true hsN
 have hput:∀x,(a.put (some s) (.slice ad1 (xs.length+n2) c1)).tmps.getD x undef=if (some s:Option Tmp)=some x then .slice ad1 (xs.length+n2) c1 else a.tmps.getD x undef:=fun x=>Dc hs
 have hold:∀x,x∈bxs→(a.put (some s) (.slice ad1 (xs.length+n2) c1)).tmps.getD x undef=a.tmps.getD x undef:=fun x hx=>by
  rw [hput,if_neg ?_]
  intro e
  injection e with e
  subst e
  rw [←List.contains_iff_mem,hbs] at hx
  cases hx
 unfold wpOp
 simp only [ho]
 rw [if_pos (by simp [Region.wanted])]
 refine .inl ?_
 unfold Oper.wp
 have hr2:(execOp a.eval ⟨some s,.call { callee:=.builtin .append,args:=#[x,y],argTypes:=#[t,t] },ty,pos,af,none⟩).run P w=.ok (.value (.slice ad1 (xs.length+n2) c1)) w1:=by
  simp [execOp,e1,e2,resolve,invoke,builtin,Sem.run_bind,hrun]
 rw [hr2]
 refine hK _ _ B (xg ad1) (fun b hb=>?_) ⟨put_defers.trans hst.df,Dk.trans hst.sz,Fct.of_all fun x hx=>?_,fun x hx=>?_,fun x hx y hy hxy=>?_,hst.bel,hst.own,hst.own0⟩
 ·rcases hat with h1 | h1
  ·exact .inl (by rw [←hg,←h1];exact hb)
  ·rw [hb] at h1
   injection h1 with h1
   exact .inr (by omega)
 ·rcases List.mem_cons.1 hx with rfl | hx
  ·show Xz _ _ _ _ _ _ w1 B
   rw [hput,if_pos rfl]
   exact hnew
  ·have hne:=of_decide_eq_true hns x hx
   rw [hput,if_neg (fun e=>hne (by injection e with e;exact e.symm))]
   exact hst.fc.all x hx
 ·obtain ⟨b,h1,h2,h3⟩:=hst.bx x hx
  exact ⟨b,(hold x hx).trans h1,h2,h3⟩
 ·rw [hold x hx,hold y hy];exact hst.ap x hx y hy hxy
end
end Go.Proofs.YtbcbmkeeoognpaaGreatDoor

namespace Go.Proofs.YtbcbmkeeoognpaaGreatDoor
open Go Go.RowKit
end Go.Proofs.YtbcbmkeeoognpaaGreatDoor

set_option maxRecDepth 50000
namespace Go.Proofs.YtbcbmkeeoognpaaGreatDoor
open Go Go.RowKit
def VP.and (D E:VP):VP:=⟨fun v w B=>D.p v w B∧E.p v w B,fun v w B w' B' h hp=>⟨D.st _ _ _ _ _ h hp.1,E.st _ _ _ _ _ h hp.2⟩⟩
def PHd (g:Option Nat) (v:Value) (w:World) (B:Bx):Prop:=
 ∃ad n c,v=.slice ad n c∧n≤c∧n≤4398046511104∧c≤9223372036854775807∧(c=0→g=none)∧(0<c→∃b cs,g=some b∧ad=some ⟨b,0,none⟩∧¬B b∧w.heap[b]?=some (.cells cs 44 (0,0))∧c≤cs.size)
theorem PHd.st {g:Option Nat} (v:Value) (w:World) (B:Bx) (w':World) (B':Bx) (h:Mv w B w' B') (hp:PHd g v w B):PHd g v w' B':=by
 obtain ⟨ad,n,c,e,h1,h2,h3,h4,h5⟩:=hp
 refine ⟨ad,n,c,e,h1,h2,h3,h4,fun hc=>?_⟩
 obtain ⟨b,cs,e1,e2,e3,e4,e5⟩:=h5 hc
 have hlt:=(Array.getElem?_eq_some_iff.1 e4).1
 refine ⟨b,cs,e1,e2,fun h6=>e3 (h.box b hlt h6),?_,e5⟩
 rw [(h.same b hlt).resolve_right fun h6=>e3 h6.1]
 exact e4
def Ac (g:Option Nat) (D:VP):VP:=⟨fun v w B=>PHd g v w B∧D.p v w B,fun v w B w' B' h hp=>⟨PHd.st v w B w' B' h hp.1,D.st _ _ _ _ _ h hp.2⟩⟩
def qod (lo:Nat) (D:VP):VP:=⟨fun v w B=>∃g,(∀b,g=some b→lo≤b)∧PHd g v w B∧D.p v w B,fun v w B w' B' h ⟨g,h1,h2,h3⟩=>⟨g,h1,PHd.st v w B w' B' h h2,D.st _ _ _ _ _ h h3⟩⟩
theorem Xr {g:Option Nat} {D:VP} (v:Value) (w:World) (B:Bx) (h:(Ac g D).p v w B):D.p v w B:=h.2
theorem PHd.of_own {lo:Nat} {w w':World} {B:Bx} {ad:Option Addr} {n c:Nat} {xs:List Int} (hl:lo≤w.heap.size) (hB:Hz B w) (o:Own w.heap.size w' 44 .u32 ad n c xs) (hn:n≤4398046511104):∃g,(∀b,g=some b→lo≤b)∧PHd g (.slice ad n c) w' B∧∀b,g=some b→0<c∧xg ad=some b:=by
 by_cases hc:0<c
 ·obtain ⟨b,cs,e,h1,h2,h3,_⟩:=o.row hc
  refine ⟨some b,fun x hx=>?_,⟨ad,n,c,rfl,o.le,hn,o.big,fun h=>by omega,fun _=>⟨b,cs,rfl,e,fun h=>?_,h2,h3⟩⟩,fun x hx=>?_⟩
  ·injection hx with hx;omega
  ·have:=hB b h;omega
  ·injection hx with hx;subst hx;exact ⟨hc,by rw [e];rfl⟩
 ·exact ⟨none,(fun x hx=>by cases hx),⟨ad,n,c,rfl,o.le,hn,o.big,fun _=>rfl,fun h=>absurd h hc⟩,(fun x hx=>by cases hx)⟩
def qbb (Bs:Nat) (Ow:Nat→Prop) (lo hi:Nat) (ex:List (Option Nat)) (cnt:Nat) (v:Value) (w:World) (B:Bx):Prop:=
 ∃rv L,v=.agg (Df L.length rv)∧L.length≤cnt∧w.ownsRow Bs 150 3 rv L.length (hc 0 L)∧(∀b,rv.ownBlock=some b→¬B b∧Ow b)∧Sep L ∧
  ∀h∈L,Uo Bs w h∧(0<h.c→∃b,xg h.ad=some b∧¬B b∧((lo≤b∧b<hi)∨some b∈ex))
theorem qbb.st {Bs:Nat} {Ow:Nat→Prop} {lo hi:Nat} {ex:List (Option Nat)} {cnt:Nat} (v:Value) (w:World) (B:Bx) (w':World) (B':Bx) (h:Mv w B w' B') (hp:qbb Bs Ow lo hi ex cnt v w B):qbb Bs Ow lo hi ex cnt v w' B':=by
 obtain ⟨rv,L,e,h1,h2,h3,h4,h5⟩:=hp
 refine ⟨rv,L,e,h1,⟨h2.1,?_⟩,fun b hb=>⟨fun h6=>?_,(h3 b hb).2⟩,h4,fun q hq=>⟨⟨(h5 q hq).1.le,(h5 q hq).1.big,(h5 q hq).1.cap,fun hc=>?_⟩,fun hc=>?_⟩⟩
 ·rcases h2.2 with h6 | ⟨g,cap,cur,e1,e2,e3,e4⟩
  ·exact .inl h6
  ·refine .inr ⟨g,cap,cur,e1,e2,?_,e4⟩
   rw [(h.same g (Array.getElem?_eq_some_iff.1 e3).1).resolve_right fun h6=>(h3 g (by rw [e1];rfl)).1 h6.1]
   exact e3
 ·exact (h3 b hb).1 (h.box b (h2.lt b hb).2 h6)
 ·obtain ⟨g,cs,e1,e2,e3,e4⟩:=(h5 q hq).1.row hc
  obtain ⟨b,f1,f2,_⟩:=(h5 q hq).2 hc
  rw [e1] at f1
  have f1:g=b:=by injection f1
  subst f1
  refine ⟨g,cs,e1,e2,?_,e4⟩
  rw [(h.same g (Array.getElem?_eq_some_iff.1 e3).1).resolve_right fun h6=>f2 h6.1]
  exact e3
 ·obtain ⟨g,cs,e1,e2,e3,e4⟩:=(h5 q hq).1.row hc
  obtain ⟨b,f1,f2,f3⟩:=(h5 q hq).2 hc
  rw [e1] at f1
  have f4:g=b:=by injection f1
  subst f4
  exact ⟨g,by rw [e1];rfl,fun h6=>f2 (h.box g (Array.getElem?_eq_some_iff.1 e3).1 h6),f3⟩
def x9 (Bs:Nat) (Ow:Nat→Prop) (lo hi:Nat) (ex:List (Option Nat)) (cnt:Nat):VP:=⟨qbb Bs Ow lo hi ex cnt,qbb.st⟩
theorem qix (Bs:Nat) (Ow:Nat→Prop) (lo hi:Nat) (ex:List (Option Nat)) (w:World) (B:Bx):(x9 Bs Ow lo hi ex 0).p (.agg (Df 0 (.slice none 0 0))) w B:=
 ⟨.slice none 0 0,[],rfl,Nat.le_refl _,World.ownsRow_nil _ _ _ _,fun b hb=>by simp [Value.ownBlock] at hb,fun i j hi hj h=>by simp at h,fun h hh=>by cases hh⟩
def qif (Bs:Nat) (D:VP):Prop:=∀(v:Value) (w w':World) (B:Bx) (b:Nat),Bs≤b→B b→Kp Bs b w w'→D.p v w B→D.p v w' B
def Iw (Bs:Nat):FD→Prop
 | .val D=>qif Bs D
 | .box t n D=>t≠150∧qif Bs D
 | .ptr ..=>False
theorem xw {Bs:Nat} {u:Value}:Iw Bs (.val (Lit u)):=fun _ _ _ _ _ _ _ _ h=>h
theorem ji {Bs q:Nat}:Iw Bs (.val (Sz q)):=fun _ _ _ _ _ _ _ k h=>Nat.le_trans h k.size
theorem Kp.limbs {Bs b:Nat} {w w':World} (k:Kp Bs b w w') {g:Nat} {cs:Array Value} (hg:w.heap[g]?=some (.cells cs 44 (0,0))) (hne:g≠b):w'.heap[g]?=some (.cells cs 44 (0,0)):=by
 rcases k.rest g (Array.getElem?_eq_some_iff.1 hg).1 hne with e | ⟨_,ds,e⟩
 ·exact e.trans hg
 ·rw [hg] at e
  injection e with e
  injection e with _ e
  exact absurd e (by decide)
theorem PHd.keptB {Bs:Nat} {g:Option Nat} {v:Value} {w w':World} {B:Bx} {b:Nat} (hb:B b) (k:Kp Bs b w w') (h:PHd g v w B):PHd g v w' B:=by
 obtain ⟨ad,n,c,e,h1,h2,h3,h4,h5⟩:=h
 refine ⟨ad,n,c,e,h1,h2,h3,h4,fun hc=>?_⟩
 obtain ⟨x,cs,e1,e2,e3,e4,e5⟩:=h5 hc
 exact ⟨x,cs,e1,e2,e3,k.limbs e4 (fun h6=>e3 (h6 ▸ hb)),e5⟩
def Loc (D:VP):Prop:=∀(ad:Option Addr) (n c:Nat) (w w':World) (B:Bx),n≤c→(0<c→∀b,xg ad=some b→w'.heap[b]?=w.heap[b]?)→D.p (.slice ad n c) w B→D.p (.slice ad n c) w' B
theorem qor {V:Int}:Loc (IsC V):=fun ad n c w w' B hn hb ⟨ad2,n2,c2,e,h2,h3,h4⟩=>by
 injection e with e1 e2 e3
 subst e1 e2 e3
 exact ⟨ad,n,c,rfl,⟨h2.le,h2.rds.kept fun h=>hb (by omega)⟩,h3,h4⟩
def Tn (n:Nat) (xs:List Int):VP:=⟨fun v w B=>∃b,v=.slice (some ⟨b,0,none⟩) n (n+1)∧Tw w b n xs,fun v w B w' B' h hp=>by
 obtain ⟨b,e,k⟩:=hp
 have hlt:=k.blk.lt
 refine ⟨b,e,⟨k.len,?_,k.dig⟩⟩
 have hblk:=k.blk
 have h0:=hblk.cell 0 (by simp)
 unfold Blk at *
 rw [(h.same b hlt).resolve_right (fun h2=>h2.2 _ _ _ rfl (.inl rfl) h0)]
 exact hblk⟩
theorem qke {n:Nat} {xs:List Int}:Loc (Tn n xs):=fun ad m c w w' B hn hb ⟨b,e,k⟩=>by
 injection e with e1 e2 e3
 subst e1 e2 e3
 refine ⟨b,rfl,⟨k.len,?_,k.dig⟩⟩
 have hblk:=k.blk
 unfold Blk at *
 rw [hb (by omega) b rfl]
 exact hblk
theorem qkb {Bs:Nat} {g:Option Nat} {D:VP} (hD:Loc D):Iw Bs (.val (Ac g D)):=fun v w w' B b hbs hb k ⟨h1,h2⟩=>by
 refine ⟨h1.keptB hb k,?_⟩
 obtain ⟨ad,n,c,e,g1,g2,g3,g4,g5⟩:=h1
 subst e
 refine hD ad n c w w' B g1 (fun hc x hx=>?_) h2
 obtain ⟨y,cs,f1,f2,f3,f4,f5⟩:=g5 hc
 rw [f2] at hx
 have hx:y=x:=by injection hx
 subst hx
 rw [f4]
 exact k.limbs f4 (fun h6=>f3 (h6 ▸ hb))
def PAn (n:Nat) (xs:List Int) (v:Value) (w:World) (B:Bx):Prop:=∃ad c,v=.slice ad n c∧Arg w ad n c xs
def qoc (n:Nat) (xs:List Int):VP:=⟨PAn n xs,fun v w B w' B' h ⟨ad,c,e,k⟩=>⟨ad,c,e,⟨k.le,k.rds.mv h (.inl rfl),k.dig⟩⟩⟩
theorem zx {Bs n:Nat} {t:TypeId} {D:VP} (ht:decide (t≠150)=true) (hD:Iw Bs (.val D)):Iw Bs (.box t n D):=⟨of_decide_eq_true ht,hD⟩
theorem Iw.val {Bs:Nat} {D:VP} (h:Iw Bs (.val D)):qif Bs D:=h
theorem Iw.run {Bs:Nat} {f:FD} (h:Iw Bs f) {v:Value} {w w':World} {B:Bx} {b:Nat} (hbs:Bs≤b) (hb:B b) (hv:f.isBox=true→v≠.pointer (some ⟨b,0,none⟩)) (k:Kp Bs b w w') (hp:f.p v w B):f.p v w' B:=by
 cases f with
 | val D=>exact h v w w' B b hbs hb k hp
 | ptr t n D off=>exact h.elim
 | box t n D=>
  obtain ⟨ht,hD⟩:=h
  obtain ⟨c,cs,h1,h2,h3,h4,h5,h6⟩:=hp
  have hne:c≠b:=fun e=>hv rfl (by rw [h1,e])
  refine ⟨c,cs,h1,h2,Nat.lt_of_lt_of_le h3 k.size,?_,h5,hD _ _ _ _ _ hbs hb k h6⟩
  rcases k.rest c h3 hne with e | ⟨_,ds,e⟩
  ·exact e.trans h4
  ·rw [h4] at e
   injection e with e
   injection e with _ e
   exact absurd e ht
inductive Us (Bs:Nat):List (Tmp × FD)→Prop where
 | nil:Us Bs []
 | cons {s:Tmp} {f:FD} {l:List (Tmp × FD)} (h:Iw Bs f) (t:Us Bs l):Us Bs ((s,f) :: l)
theorem Us.all {Bs:Nat} {l:List (Tmp × FD)} (h:Us Bs l):∀x∈l,Iw Bs x.2:=by
 induction h with
 | nil=>intro x hx;cases hx
 | cons h t ih=>
  intro x hx
  rcases List.mem_cons.1 hx with rfl | hx
  ·exact h
  ·exact ih x hx
section
variable {P:Program} {ops:Array Oper} {Q:Exit→Act→World→Prop} {N:Nat} {w0:World} {B0:Bx} {a:Act} {w:World} {B:Bx} {l:List (Tmp × FD)} {bxs:List Tmp}
theorem St.book (H:St N w0 B0 a w B l bxs) {Ow:Nat→Prop} {lo hi cnt:Nat} {ex:List (Option Nat)} {p:Tmp} (kp:Nat) (hp:l[kp]?=some (p,.box 42 15 (x9 w0.heap.size Ow lo hi ex cnt))) (hpb:p∈bxs) (hcnt:cnt≤1000000) :
  ∃b rv L,a.tmps.getD p undef=.pointer (some ⟨b,0,none⟩)∧B b∧w0.heap.size≤b∧y8 w0.heap.size w b rv L∧L.length≤cnt∧(∀h∈L,0<h.c→∃x,xg h.ad=some x∧¬B x∧((lo≤x∧x<hi)∨some x∈ex))∧(∀x,rv.ownBlock=some x→¬B x∧Ow x):=by
 obtain ⟨b,cs,e1,h1,h2,h3,h4,rv,L,e2,g1,g2,g3,g4,g5⟩:=H.fc.get kp hp
 injection e2 with e2
 subst e2
 obtain ⟨c,k1,k2,k3⟩:=H.bx p hpb
 rw [e1] at k1
 have e3:b=c:=by injection k1 with k1;injection k1 with k1;injection k1
 subst e3
 exact ⟨b,rv,L,e1,h1,k3,⟨k3,h3,g2,by omega,fun h hh=>(g5 h hh).1,g4⟩,g1,fun h hh=>(g5 h hh).2,g3⟩
def qid (lo:Nat) (D E:VP) (b:Bool):VP:=⟨fun v w B=>∃g k,(∀b,g=some b→lo≤b)∧(∀b,k=some b→lo≤b)∧(∀b,g=some b→k≠some b)∧(Tup [Ac g D,Ac k E,IsB b]).p v w B,fun v w B w' B' h ⟨g,k,h1,h2,h3,h4⟩=>⟨g,k,h1,h2,h3,(Tup [Ac g D,Ac k E,IsB b]).st v w B w' B' h h4⟩⟩
theorem PHd.lt {g:Option Nat} {v:Value} {w:World} {B:Bx} (h:PHd g v w B) (b:Nat) (hb:g=some b):b<w.heap.size:=by
 obtain ⟨ad,n,c,e,k1,k2,k3,k4,k5⟩:=h
 by_cases hc:0<c
 ·obtain ⟨b2,cs,f1,f2,f3,f4,f5⟩:=k5 hc
  rw [hb] at f1
  have f1:b=b2:=by injection f1
  rw [f1]
  exact (Array.getElem?_eq_some_iff.1 f4).1
 ·rw [k4 (by omega)] at hb;cases hb
theorem St.namePr (H:St N w0 B0 a w B l bxs) (i:Nat) {s:Tmp} {lo:Nat} {D E:VP} {c:Bool} (hi:l[i]?=some (s,.val (qid lo D E c))) {l':Option Nat→Option Nat→List (Tmp × FD)} (hl:∀g k,l.set i (s,.val (Tup [Ac g D,Ac k E,IsB c]))=l' g k) :
  ∃g k,(∀b,g=some b→lo≤b∧b<w.heap.size)∧(∀b,k=some b→lo≤b∧b<w.heap.size)∧(∀b,g=some b→k≠some b)∧St N w0 B0 a w B (l' g k) bxs:=by
 obtain ⟨g,k,h1,h2,h3,h4⟩:=H.fc.get i hi
 have h5:=h4
 obtain ⟨vs,e,hv⟩:=h5
 obtain ⟨v1,_,q1⟩:=hv.get 0 _ rfl
 obtain ⟨v2,_,q2⟩:=hv.get 1 _ rfl
 refine ⟨g,k,fun b hb=>⟨h1 b hb,q1.1.lt b hb⟩,fun b hb=>⟨h2 b hb,q2.1.lt b hb⟩,h3,H.df,H.sz,Fct.of_all fun x hx=>?_,H.bx,H.ap,H.bel,H.own,H.own0⟩
 rw [←hl] at hx
 rcases List.mem_or_eq_of_mem_set hx with h | h
 ·exact H.fc.all x h
 ·subst h;exact h4
end
theorem qlm:(Tryz.prog.info? 42).map (·.zero)=some (some (.agg (Df 0 (.slice none 0 0)))):=by kernel_rfl
theorem qap {Bs:Nat} {Ow:Nat→Prop} {lo hi:Nat} {need:List (Tmp × FD)} {d:Option Tmp} {ty:TypeId} {pos:String} {af:Array Edge} {g:Option (Nat × Bool)}:jo Tryz.prog ⟨d,.alloc 42,ty,pos,af,g⟩ need (.box 42 15 (x9 Bs Ow lo hi [] 0)) true:=yw qlm rfl fun w B=>qix Bs Ow lo hi [] w B
end Go.Proofs.YtbcbmkeeoognpaaGreatDoor

namespace Go.Proofs.YtbcbmkeeoognpaaGreatDoor
open Go Go.RowKit
section
variable {P:Program} {need:List (Tmp × FD)} {d:Option Tmp} {ty:TypeId} {pos:String} {af:Array Edge} {g:Option (Nat × Bool)} {x y:Operand}
end
section
variable {P:Program} {ops:Array Oper} {Q:Exit→Act→World→Prop} {md:Region.Mode} {N:Nat} {w0:World} {B0:Bx} {a:Act} {w:World} {B:Bx} {l:List (Tmp × FD)} {bxs:List Tmp}
end
end Go.Proofs.YtbcbmkeeoognpaaGreatDoor

namespace Go.Proofs.YtbcbmkeeoognpaaGreatDoor
open Go Go.RowKit
end Go.Proofs.YtbcbmkeeoognpaaGreatDoor

set_option maxRecDepth 50000
namespace Go.Proofs.YtbcbmkeeoognpaaGreatDoor
open Go Go.RowKit
structure Oz (P:Program) (f:FuncId) (Ds:List VP) (R:Nat→VP):Prop where
 enters:∀(vs:Array Value) (w:World),(callFunc f vs).run P w=.ok (.enter f vs) w
 calls:∀(lo:Nat) (vs:List Value) (w:World) (B:Bx),lo≤w.heap.size→Hz B w→Ia vs Ds w B→Calls P f vs.toArray w (fun e w'=>∃v,e=.returned v∧(R lo).p v w' B∧Below w.heap.size w w')
theorem Oz.con {P:Program} {f:FuncId} {Ds:List VP} {R:Nat→VP} {R':VP} (h:Oz P f Ds R) (hw:∀v w B,(R 0).p v w B→R'.p v w B):Con P f Ds R':=
 ⟨h.enters,fun vs w B hB hV=>(h.calls 0 vs w B (Nat.zero_le _) hB hV).mono fun e w' ⟨v,e1,h1,h2⟩=>⟨v,e1,hw _ _ _ h1,h2⟩⟩
section
variable {P:Program} {need:List (Tmp × FD)} {d:Option Tmp} {ty:TypeId} {pos:String} {af:Array Edge} {g:Option (Nat × Bool)}
theorem y9 {f:FuncId} {args:List Operand} {ts:Array TypeId} {Ds:List VP} {R:Nat→VP} {lo:Nat} {z:Tmp} (kz:Nat) (C:Oz P f Ds R) (hz:need[kz]?=some (z,.val (Sz lo))) (h:qba need args Ds):jo P ⟨d,.call { callee:=.value (.func f),args:=args.toArray,argTypes:=ts },ty,pos,af,g⟩ need (.val (R lo)) false:=by
 intro Q K a w B hB hF hK
 have hr:(execOp a.eval ⟨d,.call { callee:=.value (.func f),args:=args.toArray,argTypes:=ts },ty,pos,af,g⟩).run P w=.ok (.enter f (args.map a.eval).toArray) w:=by
  simp [execOp,resolve,Act.eval,Deferred.ofValue,invoke,Sem.run_bind,C.enters]
 unfold Oper.wp
 rw [hr]
 refine (C.calls lo (args.map a.eval) w B (hF.get kz hz) hB (h.all hF)).mono ?_
 rintro e w' ⟨v,rfl,h1,h2⟩
 have hbl:=Bl.of_below B h2
 exact hK v w' B h1 hbl h2 (fun k hk=>Nat.lt_of_lt_of_le (hB k hk) h2.size) (by simp)
end
theorem Qe {P:Program} {f:FuncId} {fn:Func} {c:Code} {Ds:List VP} {R:Nat→VP} {N:Nat} (hN:fn.ntmps=N) (he:∀(vs:Array Value) (w:World),(callFunc f vs).run P w=.ok (.enter f vs) w) (hf:P.funcs[f]?=some fn) (hb:fn.body=some c) (hn:Ds.length≤N)
  (h:∀(lo:Nat) (a:Act) (w:World) (B:Bx),St N w B a w B (Ds.zipIdx.map (fun x=>(x.2,.val x.1))++[(N,.val (Sz lo))]) []→c.wp P (bodyPost P fn fun e w'=>∃v,e=.returned v∧(R lo).p v w' B∧Below w.heap.size w w') a w):Oz P f Ds R:=by
 refine ⟨he,fun lo vs w B hlo hB hV=>calls_of_wp hf hb (h lo _ w B ⟨rfl,?_,Fct.of_all fun x hx=>?_,by simp,by simp,Below.refl _ _,hB,fun _ h=>h⟩)⟩
 ·have hl:vs.length=Ds.length:=by
   clear hn h hB hlo
   induction vs generalizing Ds with
   | nil=>cases Ds with
    | nil=>rfl
    | cons D Ds=>exact hV.elim
   | cons v vs ih=>cases Ds with
    | nil=>exact hV.elim
    | cons D Ds=>simp [ih hV.2]
  simp [hN];omega
 ·rcases List.mem_append.1 hx with hx | hx
  ·obtain ⟨y,hy,rfl⟩:=List.mem_map.1 hx
   have h1:=List.mem_zipIdx_iff_getElem?.1 hy
   obtain ⟨v,h2,h3⟩:=hV.get y.2 y.1 h1
   have hlt:y.2<vs.length:=(List.getElem?_eq_some_iff.1 h2).1
   have e:(vs.toArray++Array.replicate (fn.ntmps-vs.toArray.size) undef).getD y.2 undef=v:=by
    rw [Array.getD_eq_getD_getElem?,Array.getElem?_append_left (by simpa using hlt)]
    simp [h2]
   show y.1.p _ w B
   rw [e]
   exact h3
  ·rw [List.mem_singleton] at hx
   subst hx
   exact hlo
def qm5 (lo:Nat) (D:VP) (b:Bool):VP:=⟨fun v w B=>∃g,(∀b,g=some b→lo≤b)∧(Tup [Ac g D,IsB b]).p v w B,fun v w B w' B' h ⟨g,h1,h2⟩=>⟨g,h1,(Tup [Ac g D,IsB b]).st v w B w' B' h h2⟩⟩
theorem qgy {lo:Nat} {w w':World} {B:Bx} {ad:Option Addr} {n c:Nat} {V:Int} (hl:lo≤w.heap.size) (hB:Hz B w) (o:Own w.heap.size w' 44 .u32 ad n c (dg 4294967296 V)) (hn:n≤LIM) (hV:0≤V):(qod lo (IsC V)).p (.slice ad n c) w' B:=by
 have hlim:=Ed
 obtain ⟨g,h1,h2,_⟩:=PHd.of_own hl hB o (by omega)
 exact ⟨g,h1,h2,ad,n,c,rfl,⟨o.le,o.rds⟩,hn,hV⟩
theorem Uk {B n c:Nat} {w:World} {ad:Option Addr} {V:Int} {k:Nat} (o:Own B w 44 .u32 ad n c (dg 4294967296 V)) (hf:yz k V) (hV:0≤V):n≤k:=by
 rw [←o.len]
 exact Ag 4294967296 (by omega) k V (by unfold yz at hf;rw [show ((4294967296:Nat):Int)=4294967296 from rfl];omega)
theorem Xu {n:Nat} {xs:List Int} (v:Value) (w:World) (B:Bx) (h:(Tn n xs).p v w B):(qoc n xs).p v w B:=by
 obtain ⟨b,rfl,k⟩:=h
 exact ⟨_,_,rfl,by omega,qcv k.blk k.len,k.dig⟩
def qoh (Bs b:Nat) (we:World) (w:World) (B:Bx):Prop:=we.heap.size≤w.heap.size∧(∀k,k<we.heap.size→k≠b→w.heap[k]?=we.heap[k]?∨(Bs≤k∧∃cs,we.heap[k]?=some (.cells cs 150 (0,0))))∧∀k,k<we.heap.size→B k→k=b
def Jk (Bs b:Nat) (we:World):VP:=⟨fun _ w B=>qoh Bs b we w B,fun v w B w' B' h ⟨h1,h2,h3⟩=>by
 refine ⟨Nat.le_trans h1 h.size,fun k hk hne=>?_,fun k hk hB=>h3 k hk (h.box k (by omega) hB)⟩
 rcases h.same k (by omega) with e | ⟨e,_⟩
 ·rw [e];exact h2 k hk hne
 ·exact absurd (h3 k hk e) hne⟩
theorem qg2 {Bs b:Nat} {we:World}:Iw Bs (.val (Jk Bs b we)):=fun v w w' B b2 hbs hb k ⟨h1,h2,h3⟩=>by
 refine ⟨Nat.le_trans h1 k.size,fun j hj hne=>?_,h3⟩
 have hj2:j≠b2:=fun e=>hne (h3 j hj (e ▸ hb))
 rcases k.rest j (by omega) hj2 with e | ⟨e1,cs,e2⟩
 ·rw [e];exact h2 j hj hne
 ·rcases h2 j hj hne with e3 | e3
  ·exact .inr ⟨e1,cs,by rw [←e3];exact e2⟩
  ·exact .inr e3
abbrev Nr (b:Nat):VP:=Lit (.pointer (some ⟨b,0,none⟩))
section
variable {P:Program} {ops:Array Oper} {Q:Exit→Act→World→Prop} {N:Nat} {w0:World} {B0:Bx} {a:Act} {w:World} {B:Bx} {l:List (Tmp × FD)} {bxs:List Tmp}
theorem St.wanted (H:St N w0 B0 a w B l bxs) (g:Nat) (b:Bool) {o og:Oper} {s:Tmp} (hg:o.guard=some (g,b)) (hog:ops[g]?=some og) (hd:og.dst=some s) (k:Nat) (hk:l[k]?=some (s,.val (IsB b))):Region.wanted o (yielded ops a.tmps)=true:=by
 have hv:a.tmps.getD s undef=.bool b:=H.fc.get k hk
 simp [Region.wanted,hg,Jw hog hd hv]
theorem Hl {o:Oper} {y:Nat→Option Bool} (hg:o.guard=none):Region.wanted o y=true:=by simp [Region.wanted,hg]
end
end Go.Proofs.YtbcbmkeeoognpaaGreatDoor
