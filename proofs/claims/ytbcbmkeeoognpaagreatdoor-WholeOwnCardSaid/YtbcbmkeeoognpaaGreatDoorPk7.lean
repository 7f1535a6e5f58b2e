/- Contracts of functions, and plain facts, part 7. -/
import Derived.BigRegion
import Derived.Lib.SmallJoins
import Derived.Deep.Fields
import Derived.KernelRfl
import Derived.Laws.Rows
import Derived.OneCell
import Derived.OwnWalk
import Derived.Test.YtbcbmkeeoognpaaGreatDoorPk1
import Derived.Test.YtbcbmkeeoognpaaGreatDoorPk2
import Derived.Test.YtbcbmkeeoognpaaGreatDoorPk3
import Derived.Test.YtbcbmkeeoognpaaGreatDoorPk4
import Derived.Test.YtbcbmkeeoognpaaGreatDoorPk5
import Derived.Test.YtbcbmkeeoognpaaGreatDoorPk6
set_option linter.unusedVariables false
set_option linter.unusedSimpArgs false
namespace Go.Proofs.YtbcbmkeeoognpaaGreatDoor
def jk (cs:List Int):Int:=cs.foldl (fun a c=>a*10+(c-48)) 0
def jh (cs:List Int):Bool:=decide (cs≠[]∧(cs[0]?.getD 0=48→cs.length=1)∧(∀c∈cs,48≤c∧c≤57)∧(dg 4294967296 (jk cs)).length≤262144)
def qx (cs:List Int):Int:=if jh cs then jk cs else 0
theorem Pv (cs:List Int) (c:Int):jk (cs++[c])=jk cs*10+(c-48):=by simp [jk]
theorem Nk (cs:List Int) (i:Nat) (h:i<cs.length):jk (cs.take (i+1))=jk (cs.take i)*10+(cs[i]?.getD 0-48):=by
 rw [List.take_add_one,List.getElem?_eq_getElem h]
 exact Pv _ _
def Qs (cs:List Int):Prop:=∀c∈cs,48≤c∧c≤57
theorem Qs.get {cs:List Int} (h:Qs cs) {i:Nat} (hi:i<cs.length):48≤cs[i]?.getD 0∧cs[i]?.getD 0≤57:=by
 rw [List.getElem?_eq_getElem hi]
 exact h _ (List.getElem_mem hi)
theorem Ez (cs:List Int) (h:Qs cs) (i:Nat):0≤jk (cs.take i):=by
 induction i with
 | zero=>simp [jk]
 | succ i ih=>
  rcases Nat.lt_or_ge i cs.length with h1 | h1
  ·rw [Nk cs i h1]
   have:=h.get h1
   omega
  ·rw [List.take_of_length_le (by omega)]
   rw [List.take_of_length_le h1] at ih
   exact ih
theorem Xd (cs:List Int) (h:Qs cs) (i j:Nat) (hij:i≤j):jk (cs.take i)≤jk (cs.take j):=by
 obtain ⟨d,rfl⟩:=Nat.le.dest hij
 induction d with
 | zero=>exact Int.le_refl _
 | succ d ih=>
  have h1:=ih (by omega)
  rcases Nat.lt_or_ge (i+d) cs.length with h2 | h2
  ·rw [show i+(d+1)=i+d+1 by omega,Nk cs _ h2]
   have:=h.get h2
   have:=Ez cs h (i+d)
   omega
  ·rw [show cs.take (i+(d+1))=cs.take (i+d) by rw [List.take_of_length_le (by omega),List.take_of_length_le h2]]
   exact h1
theorem Jv (cs:List Int):jk (cs.take cs.length)=jk cs:=by rw [List.take_length]
theorem qaa (V U:Int) (hV:0≤V) (h:V≤U):(dg 4294967296 V).length≤(dg 4294967296 U).length:=by
 refine Ag 4294967296 (by omega) _ _ ?_
 have:=Lt 4294967296 (by omega) _ U (by omega) (Nat.le_refl _)
 omega
theorem Be (cs:List Int):0≤qx cs:=by
 unfold qx
 split
 ·rename_i h
  have h2:=(of_decide_eq_true h).2.2.1
  rw [←Jv]
  exact Ez cs h2 _
 ·omega
theorem qey (xs ys:List Int) (k:Nat) (c t v T:Int) (hk:k<ys.length) (hs:ys[k]?.getD 0=xs[k]?.getD 0) (hv:v=xs[k]?.getD 0*t+c)
  (h:val 4294967296 (ys.take k)+4294967296 ^ k*c=val 4294967296 (xs.take k)*t+T) :
  val 4294967296 ((ys.set k (v % 4294967296)).take (k+1))+4294967296 ^ (k+1)*(v / 4294967296)=val 4294967296 (xs.take (k+1))*t+T:=by
 rw [E5 _ ys k _ hk,zy,Int.pow_succ]
 have e:v=4294967296*(v / 4294967296)+v % 4294967296:=by omega
 generalize v / 4294967296=q at *
 generalize v % 4294967296=r at *
 generalize (4294967296:Int) ^ k=P at *
 generalize val 4294967296 (ys.take k)=A at *
 generalize val 4294967296 (xs.take k)=D at *
 generalize xs[k]?.getD 0=x at *
 have h2:P*v=P*x*t+P*c:=by rw [hv];grind
 have h3:P*v=P*4294967296*q+P*r:=by rw [e];grind
 have h4:(D+P*x)*t=D*t+P*x*t:=by rw [Int.add_mul]
 omega
theorem qbw (ys:List Int) (V:Int) (d:Dig 4294967296 ys) (h:val 4294967296 ys=V) (hl:ys.length=0∨4294967296 ^ (ys.length-1)≤V):ys=dg 4294967296 V:=by
 have hn:norm ys=ys:=by
  rcases hl with h0 | h0
  ·rw [List.length_eq_zero_iff.1 h0];rfl
  ·by_cases e:norm ys=ys
   ·exact e
   ·have:=Tj (b:=4294967296) (by omega) d e
    omega
 have:=Ir 4294967296 (by omega) d
 rw [hn,show ((4294967296:Nat):Int)=4294967296 from rfl,h] at this
 exact this
theorem qon (V:Int) (h0:0≤V):(dg 4294967296 V).length=0∨4294967296 ^ ((dg 4294967296 V).length-1)≤V:=by
 by_cases h:dg 4294967296 V=[]
 ·exact .inl (by rw [h];rfl)
 ·refine .inr ?_
  have:=Xq (b:=4294967296) (by omega) (A8 4294967296 (by omega) V.toNat) (J3 4294967296 (by omega) V) h
  have e:=Bz 4294967296 (by omega) V h0
  rw [show ((4294967296:Nat):Int)=4294967296 from rfl] at e
  change 4294967296 ^ ((dg 4294967296 V).length-1)≤val 4294967296 (dg 4294967296 V) at this
  rw [e] at this
  exact this
theorem qew (P t T:Int) (ys:List Int) (hP:0≤P) (ht:1≤t) (hT:0≤T) (d:Dig 4294967296 ys) (hl:ys.length=(dg 4294967296 P).length)
  (h:val 4294967296 (ys.take ys.length)+4294967296 ^ ys.length*0=val 4294967296 ((dg 4294967296 P).take ys.length)*t+T):ys=dg 4294967296 (P*t+T):=by
 rw [List.take_length,Int.mul_zero,Int.add_zero,hl,List.take_length] at h
 have e:=Bz 4294967296 (by omega) P hP
 rw [show ((4294967296:Nat):Int)=4294967296 from rfl] at e
 rw [e] at h
 refine qbw ys _ d h ?_
 have h1:=qon P hP
 rw [←hl] at h1
 rcases h1 with h1 | h1
 ·exact .inl h1
 ·refine .inr ?_
  have:=Int.mul_le_mul_of_nonneg_left ht hP
  omega
theorem qex (P t T c:Int) (ys:List Int) (hP:0≤P) (ht:1≤t) (hT:0≤T) (d:Dig 4294967296 ys) (hl:ys.length=(dg 4294967296 P).length) (hc:0<c∧c<4294967296)
  (h:val 4294967296 (ys.take ys.length)+4294967296 ^ ys.length*c=val 4294967296 ((dg 4294967296 P).take ys.length)*t+T):ys++[c]=dg 4294967296 (P*t+T):=by
 rw [List.take_length,hl,List.take_length,←hl] at h
 have e:=Bz 4294967296 (by omega) P hP
 rw [show ((4294967296:Nat):Int)=4294967296 from rfl] at e
 rw [e] at h
 have d2:=d.append (Dig.cons (by omega) hc.2 (Dig.nil _):Dig 4294967296 [c])
 refine qbw _ _ d2 (by rw [Ob];exact h) (.inr ?_)
 rw [List.length_append,List.length_singleton,Nat.add_sub_cancel,←h]
 have h1:=zt (show (0:Int)<4294967296 by omega) d
 have hp:(0:Int)<4294967296 ^ ys.length:=Int.pow_pos (by omega)
 have:=Int.mul_le_mul_of_nonneg_left (show 1≤c by omega) (Int.le_of_lt hp)
 omega
theorem qdk (P t n d:Int):(P*t+n)*10+d=P*(t*10)+(n*10+d):=by grind
end Go.Proofs.YtbcbmkeeoognpaaGreatDoor

namespace Go.Proofs.YtbcbmkeeoognpaaGreatDoor
open Go.RowKit
theorem qao (ad:Option Addr) (n c:Nat) (V:Int) (w:World) (h:Num w ad n c V) (hn:n≤70368744177663) :
  Calls Tryz.prog 162 #[.slice ad n c] w (fun e w'=>e=.returned (.int .i64 (bitsOf V))∧w=w'):=by
 obtain ⟨xs,h1,h2,rfl⟩:=h.row
 exact (qd6 ad n c xs w (by omega) h.le h1 h2).mono fun e w' q=>q
end Go.Proofs.YtbcbmkeeoognpaaGreatDoor

namespace Go.Proofs.YtbcbmkeeoognpaaGreatDoor
open Go.RowKit
theorem qmh (ad bd:Option Addr) (n m c d:Nat) (V U:Int) (w:World) (h:Num w ad n c V) (k:Num w bd m d U) (hn:n≤70368744177663) (hm:m≤70368744177663) :
  Calls Tryz.prog 160 #[.slice ad n c,.slice bd m d] w (qoj (D5 V U) w):=by
 obtain ⟨xs,h1,h2,rfl⟩:=h.row
 obtain ⟨zs,k1,k2,rfl⟩:=k.row
 exact (Pj ad bd n m c d xs zs w (by omega) (by omega) h.le k.le h1 k1 h2 k2).mono fun e w' q=>q
end Go.Proofs.YtbcbmkeeoognpaaGreatDoor

namespace Go.Proofs.YtbcbmkeeoognpaaGreatDoor
open Go.RowKit
def qob (w:World) (xs zs:List Int) (n i:Nat) (c:Int) (wr:World):Prop:=
 ∃ys,Blk wr w.heap.size 44 .u32 ys∧ys.length=n+1∧Dig 4294967296 ys∧Below w.heap.size w wr∧0≤c∧c≤1 ∧
  val 4294967296 (ys.take i)+c*4294967296 ^ i=val 4294967296 (xs.take i)+val 4294967296 (zs.take i)
set_option maxHeartbeats 1000000 in
theorem qbc (sw:Bool) (xd zd:Option Addr) (n m cx cz:Nat) (xs zs:List Int) (w:World) (hn:n≤70368744177663) (hm:m≤n) (hsw:sw=true→m<n) (hxc:n≤cx) (hzc:m≤cz)
  (hx:Rds w .u32 xd n xs) (hz:Rds w .u32 zd m zs) (dx:Dig 4294967296 xs) (dz:Dig 4294967296 zs) :
  Calls Tryz.prog 55 (if sw then #[.slice zd m cz,.slice xd n cx] else #[.slice xd n cx,.slice zd m cz]) w (Ns 44 .u32 (dg 4294967296 (val 4294967296 xs+val 4294967296 zs)) w):=by
 have HX:=Lib.hid hx.len
 have HZ:=Lib.hid hz.len
 have hmk:=Du (P:=Tryz.prog) 23 44 .u32 4 Tryz.underlying23 Ah (by omega) (n+1) (by omega) ((n:Int)+1) (by omega)
 have hr0:qob w xs zs n 0 0 (w.alloc (.cells (nums .u32 (List.replicate (n+1) 0)).toArray 44)):=
  ⟨_,Blk.made _ _ _ _ _ rfl,by simp,Dig.replicate _ (by omega) _,(Below.refl _ _).alloc (Nat.le_refl _) _,by omega,by omega,by simp [val]⟩
 cases sw
 all_goals
  have hlt:=hsw
  clear hsw
  simp only [if_true,if_false,Bool.false_eq_true]
  first
   | (have hlt2:=hlt rfl;clear hlt)
   | (have hlt2:¬n<m:=by omega)
  go_enter Tryz.func55,Tryz.ntmps55
  go_wp2
  clear hmk
  go_loopw [22,6] (fun i cy wr=>∃k:Nat,∃c:Int,k≤n∧i=.int .i64 k∧cy=.int .u32 c∧qob w xs zs n k c wr) (fun i _ _=>n-(intOf i).toNat)
  case atStart=>exact ⟨0,0,Nat.zero_le _,rfl,rfl,hr0⟩
  case round=>
   clear hr0
   obtain ⟨k,c,hk,rfl,rfl,ys,h1,h2,h3,h4,hc0,hc1,h5⟩:=hrel
   have H2:=Lib.hid h2
   have H5:=Lib.hid h5
   clear h2 h5
   by_cases hkn:k<n
   ·obtain ⟨a,rfl,hxl⟩:=(hx.below h4 (Nat.le_refl _)).cell k hkn
    have hf:=h1.free k
    have hy:=h1.cell k (by rw [H2.out];omega)
    have HS:=Lib.hid (qbe 4294967296 xs zs ys k (by rw [H2.out];omega) c _ rfl H5.out)
    clear H5
    have bx:=dx.get (by omega) k
    have bz:=dz.get (by omega) k
    by_cases hkm:k<m
    ·obtain ⟨b,rfl,hzl⟩:=(hz.below h4 (Nat.le_refl _)).cell k hkm
     have ha:=Lib.hid (Rt (xs[k]?.getD 0) (zs[k]?.getD 0) c wr bx bz (by omega))
     generalize xs[k]?.getD 0=x at *
     generalize zs[k]?.getD 0=z at *
     go_wp2_with fail
     refine (ha.out).mono ?_
     rintro e w' ⟨rfl,rfl⟩
     clear ha
     go_wp2
     go_roundw
     case rel=>exact ⟨k+1,_,by omega,by go_num,rfl,_,h1.set k _,by simp [H2.out],h3.set (by omega) (by omega) _,je h4 _ _ _ (Nat.le_refl _),by omega,by omega,HS.out⟩
     case measure=>simp [intOf];omega
    ·have hz0:zs[k]?.getD 0=0:=by rw [List.getElem?_eq_none (by rw [HZ.out];omega)];rfl
     have ha:=Lib.hid (Rt (xs[k]?.getD 0) 0 c wr bx (by omega) (by omega))
     rw [hz0,Int.add_zero] at HS
     clear hz0 bz
     generalize xs[k]?.getD 0=x at *
     go_wp2_with fail
     refine (ha.out).mono ?_
     rintro e w' ⟨rfl,rfl⟩
     clear ha
     go_wp2
     go_roundw
     case rel=>exact ⟨k+1,_,by omega,by go_num,rfl,_,h1.set k _,by simp [H2.out],h3.set (by omega) (by omega) _,je h4 _ _ _ (Nat.le_refl _),by omega,by omega,HS.out⟩
     case measure=>simp [intOf];omega
   ·obtain rfl:k=n:=by omega
    have hf:=h1.free k
    have hy:=h1.cell k (by rw [H2.out];omega)
    have k2:=h1.set k c
    have b2:=je h4 w.heap.size k (.int .u32 c) (Nat.le_refl _)
    have d2:=h3.set hc0 (show c<4294967296 by omega) k
    have HV:=Lib.hid (qlt 4294967296 xs zs ys k HX.out (by rw [HZ.out];exact hm) H2.out c H5.out)
    have hcut:=Lib.hid (Bd (some ⟨w.heap.size,0,none⟩) (k+1) (k+1) _ _ (by omega) (Nat.le_refl _) (by have:=k2.rds;rwa [List.length_set,H2.out] at this))
    have R:=Lib.hid (k2.ret (Nat.le_refl _) (by rw [List.length_set,H2.out];omega) d2 _ HV.out b2)
    go_wp2_with fail
    refine (hcut.out).mono ?_
    rintro e w' ⟨rfl,rfl⟩
    go_wp2_with fail
    go_ret
    exact R.out
theorem qf3 (ad bd:Option Addr) (na nb ca cb:Nat) (la lb:List Int) (w:World) (hna:na≤70368744177663) (hnb:nb≤70368744177663) (hac:na≤ca) (hbc:nb≤cb)
  (ha:Rds w .u32 ad na la) (hb:Rds w .u32 bd nb lb) (da:Dig 4294967296 la) (db:Dig 4294967296 lb) :
  Calls Tryz.prog 55 #[.slice ad na ca,.slice bd nb cb] w (Ns 44 .u32 (dg 4294967296 (val 4294967296 la+val 4294967296 lb)) w):=by
 by_cases h:na<nb
 ·rw [Int.add_comm]
  exact qbc true bd ad nb na cb ca lb la w hnb (by omega) (fun _=>h) hbc hac hb ha db da
 ·exact qbc false ad bd na nb ca cb la lb w hna (by omega) (fun h=>by cases h) hac hbc ha hb da db
end Go.Proofs.YtbcbmkeeoognpaaGreatDoor

namespace Go.Proofs.YtbcbmkeeoognpaaGreatDoor
open Go.RowKit
def qol (w:World) (xs zs:List Int) (n i:Nat) (c:Int) (wr:World):Prop:=
 ∃ys,Blk wr w.heap.size 44 .u32 ys∧ys.length=n∧Dig 4294967296 ys∧Below w.heap.size w wr∧0≤c∧c≤1 ∧
  val 4294967296 (ys.take i)+val 4294967296 (zs.take i)=val 4294967296 (xs.take i)+c*4294967296 ^ i
theorem qlx (x z c:Int) (hx:0≤x∧x<4294967296) (hz:0≤z∧z<4294967296) (hc:0≤c∧c≤1) :
  (x-z-c) % 4294967296=x-z-c+brw x z c*4294967296∧0≤brw x z c∧brw x z c≤1:=by
 unfold brw
 split <;> omega
set_option maxHeartbeats 1000000 in
theorem qd7 (ad bd:Option Addr) (na nb ca cb:Nat) (la lb:List Int) (w:World) (hna:na≤70368744177664) (hnb:nb≤70368744177664) (hac:na≤ca) (hbc:nb≤cb)
  (ha:Rds w .u32 ad na la) (hb:Rds w .u32 bd nb lb) (da:Dig 4294967296 la) (db:Dig 4294967296 lb) :
  Calls Tryz.prog 58 #[.slice ad na ca,.slice bd nb cb] w (P7 44 .u32 (dg 4294967296 (val 4294967296 la-val 4294967296 lb)) (decide (val 4294967296 lb≤val 4294967296 la)) w):=by
 have hc:=Lib.hid (Pj ad bd na nb ca cb la lb w hna hnb hac hbc ha hb da db)
 by_cases hle:val 4294967296 lb≤val 4294967296 la
 ·have hcm:(D5 (val 4294967296 la) (val 4294967296 lb))<0↔False:=by unfold D5;simp;split <;> omega
  have HD:=Lib.hid (decide_eq_true hle)
  have hcn:¬(D5 (val 4294967296 la) (val 4294967296 lb))<0:=by simp [hcm]
  clear hcm
  generalize D5 (val 4294967296 la) (val 4294967296 lb)=cc at *
  have rx:=ha.norm
  have rz:=hb.norm
  have dx:=F7 da
  have dz:=F7 db
  have hma:=yf la
  have hnb':=yf lb
  rw [ha.len] at hma
  rw [hb.len] at hnb'
  have C1:=Lib.hid (fun q=>Bd ad na ca la (w.drewN q) (by omega) hac (ha.drewN q))
  have C2:=Lib.hid (fun q=>Bd bd nb cb lb (w.drewN q) (by omega) hbc (hb.drewN q))
  have hle2:(norm lb).length≤(norm la).length:=by
   rcases Nat.lt_or_ge (norm la).length (norm lb).length with h | h
   ·have:=Ij (b:=4294967296) (by omega) dx dz (Ji lb) h
    rw [Ci,Ci] at this
    omega
   ·exact h
  have HL:=Lib.hid hle
  rw [←Ci 4294967296 la,←Ci 4294967296 lb] at HL
  rw [←Ci 4294967296 la,←Ci 4294967296 lb]
  rw [←Ci 4294967296 la,←Ci 4294967296 lb] at HD
  clear ha hb da db hle
  generalize norm la=xs at *
  generalize norm lb=zs at *
  obtain ⟨m,hm⟩:∃m,xs.length=m:=⟨_,rfl⟩
  obtain ⟨n,hn⟩:∃n,zs.length=n:=⟨_,rfl⟩
  rw [hm] at rx hma C1 hle2
  rw [hn] at rz hnb' C2 hle2
  have HM:=Lib.hid hm
  have HN:=Lib.hid hn
  clear hm hn
  have hmk:=Du (P:=Tryz.prog) 23 44 .u32 4 Tryz.underlying23 Ah (by omega) m (by omega) (m:Int) rfl
  go_enter Tryz.func58,Tryz.ntmps58
  go_wp2_with fail
  refine (hc.out).mono ?_
  rintro e w' ⟨rfl,q,rfl⟩
  have b0:=below_drewN (Below.refl w.heap.size w) q
  have C1':=Lib.hid (C1.out q)
  have C2':=Lib.hid (C2.out q)
  have rx':=rx.drewN q
  have rz':=rz.drewN q
  clear C1 C2 rx rz
  have hsz:(w.drewN q).heap.size=w.heap.size:=rfl
  generalize w.drewN q=w1 at *
  go_wp2_with fail
  refine (C1'.out).mono ?_
  rintro e w' ⟨rfl,rfl⟩
  go_wp2_with fail
  refine (C2'.out).mono ?_
  rintro e w' ⟨rfl,rfl⟩
  clear hc C1' C2'
  have HS:=Lib.hid hsz
  clear hsz
  have hr0:qol w1 xs zs m 0 0 (w1.alloc (.cells (nums .u32 (List.replicate m 0)).toArray 44)):=
   ⟨_,Blk.made _ _ _ _ _ rfl,by simp,Dig.replicate _ (by omega) _,(Below.refl _ _).alloc (Nat.le_refl _) _,by omega,by omega,by simp [val]⟩
  go_wp2_with fail
  clear hmk
  go_loopw [23,7] (fun i cy wr=>∃k:Nat,∃c:Int,k≤m∧i=.int .i64 k∧cy=.int .u32 c∧qol w1 xs zs m k c wr) (fun i _ _=>m-(intOf i).toNat)
  case atStart=>exact ⟨0,0,Nat.zero_le _,rfl,rfl,hr0⟩
  case round=>
   clear hr0
   obtain ⟨k,c,hk,rfl,rfl,ys,h1,h2,h3,h4,hc0,hc1,h5⟩:=hrel
   have H2:=Lib.hid h2
   have H5:=Lib.hid h5
   clear h2 h5
   by_cases hkm:k<m
   ·obtain ⟨a,rfl,hxl⟩:=(rx'.below h4 (Nat.le_refl _)).cell k hkm
    have hf:=h1.free k
    have hy:=h1.cell k (by rw [H2.out];omega)
    have bx:=dx.get (by omega) k
    have bz:=dz.get (by omega) k
    have bm:=qlx _ _ c bx bz ⟨hc0,hc1⟩
    have HS2:=Lib.hid (qk9 4294967296 xs zs ys k (by rw [H2.out];omega) c _ _ bm.1 H5.out)
    obtain ⟨bm0,bb0,bb1⟩:=bm
    clear bm0
    clear H5
    by_cases hkn:k<n
    ·obtain ⟨b,rfl,hzl⟩:=(rz'.below h4 (Nat.le_refl _)).cell k hkn
     have hs:=Lib.hid (Ti (xs[k]?.getD 0) (zs[k]?.getD 0) c wr bx bz ⟨hc0,hc1⟩)
     generalize xs[k]?.getD 0=x at *
     generalize zs[k]?.getD 0=z at *
     generalize brw x z c=bo at *
     go_wp2_with fail
     refine (hs.out).mono ?_
     rintro e w' ⟨rfl,rfl⟩
     clear hs
     go_wp2
     go_roundw
     case rel=>exact ⟨k+1,_,by omega,by go_num,rfl,_,h1.set k _,by simp [H2.out],h3.set (by omega) (by omega) _,je h4 _ _ _ (Nat.le_refl _),bb0,bb1,HS2.out⟩
     case measure=>simp [intOf];omega
    ·have hz0:zs[k]?.getD 0=0:=by rw [List.getElem?_eq_none (by rw [HN.out];omega)];rfl
     rw [hz0] at HS2 bb0 bb1
     have hs:=Lib.hid (Ti (xs[k]?.getD 0) 0 c wr bx (by omega) ⟨hc0,hc1⟩)
     rw [Int.sub_zero] at HS2 hs
     clear hz0 bz
     generalize xs[k]?.getD 0=x at *
     generalize brw x 0 c=bo at *
     go_wp2_with fail
     refine (hs.out).mono ?_
     rintro e w' ⟨rfl,rfl⟩
     clear hs
     go_wp2
     go_roundw
     case rel=>exact ⟨k+1,_,by omega,by go_num,rfl,_,h1.set k _,by simp [H2.out],h3.set (by omega) (by omega) _,je h4 _ _ _ (Nat.le_refl _),bb0,bb1,HS2.out⟩
     case measure=>simp [intOf];omega
   ·obtain rfl:k=m:=by omega
    have HV:=Lib.hid (qfs 4294967296 (by omega) xs zs ys k h3 HM.out (by rw [HN.out];exact hle2) H2.out c hc0 HL.out H5.out)
    have hcut:=Lib.hid (Bd (some ⟨w1.heap.size,0,none⟩) k k _ wr (by omega) (Nat.le_refl _) (by have:=h1.rds;rwa [H2.out] at this))
    have R:=h1.ret (Nat.le_refl _) (by rw [H2.out];omega) h3 _ HV.out h4
    obtain ⟨rd,rn,rc,re,ro,rb⟩:=R
    have RE:=Lib.hid re
    clear re
    go_wp2_with fail
    refine (hcut.out).mono ?_
    rintro e w' ⟨rfl,rfl⟩
    go_wp2_with fail
    go_ret2
    rw [HD.out]
    have re:=RE.out
    injection re with re
    injection re with e1 e2 e3
    refine ⟨rd,rn,rc,?_,?_,?_⟩
    ·rw [←e1,←e2,←e3];rfl
    ·rw [←HS.out];exact ro
    ·rw [←HS.out] at b0 ⊢
     exact Dw b0 (Nat.le_refl _) rb
 ·have hcn:(D5 (val 4294967296 la) (val 4294967296 lb))<0:=by unfold D5;split <;> omega
  have HD:=Lib.hid (decide_eq_false hle)
  have HZ:=Lib.hid (show dg 4294967296 (val 4294967296 la-val 4294967296 lb)=[] by
   unfold dg
   rw [N8 _ _ (by omega)]
   omega)
  generalize D5 (val 4294967296 la) (val 4294967296 lb)=cc at *
  clear hle
  go_enter Tryz.func58,Tryz.ntmps58
  go_wp2_with fail
  refine (hc.out).mono ?_
  rintro e w' ⟨rfl,q,rfl⟩
  go_wp2
  go_ret2
  rw [HD.out,HZ.out]
  exact ⟨none,0,0,rfl,Own.nil _ _ _ _ _,below_drewN (Below.refl _ _) q⟩
end Go.Proofs.YtbcbmkeeoognpaaGreatDoor

namespace Go.Proofs.YtbcbmkeeoognpaaGreatDoor
open Go.RowKit
end Go.Proofs.YtbcbmkeeoognpaaGreatDoor

namespace Go.Proofs.YtbcbmkeeoognpaaGreatDoor
open Go.RowKit
theorem Uy (ad:Option Addr) (n c:Nat) (xs:List Int) (j:Nat) (w:World) (hn:n≤9223372036854775807) (hr:Rds w .i64 ad n xs) :
  Calls Tryz.prog 204 #[.slice ad n c,.int .i64 j] w fun e w'=>e=.returned (.int .i64 (xs[j]?.getD 0))∧w=w':=by
 by_cases hj:j<n
 ·obtain ⟨a,rfl,hxl⟩:=hr.cell j hj
  clear hr
  generalize xs[j]?.getD 0=x at *
  go_enter Tryz.func204,Tryz.ntmps204
  go_wp2
  go_ret
  exact ⟨rfl,rfl⟩
 ·have h0:=Lib.hid (show xs[j]?.getD 0=0 by rw [List.getElem?_eq_none (by rw [hr.len];omega)];rfl)
  clear hr
  go_enter Tryz.func204,Tryz.ntmps204
  go_wp2
  go_ret
  rw [h0.out]
  exact ⟨rfl,rfl⟩
def qik (w:World) (xs zs:List Int) (k:Nat) (c:Int) (v:Value) (wr:World):Prop:=
 ∃ad cp ds,v=.slice ad k cp∧App w.heap.size wr 3 .i64 ad k cp ds∧Dig 256 ds∧Below w.heap.size w wr∧w.heap.size≤wr.heap.size∧0≤c∧c≤1 ∧
  val 256 ds+c*256 ^ k=val 256 (xs.take k)+val 256 (zs.take k)
theorem qhn (xs zs ds:List Int) (k:Nat) (hk:ds.length=k) (c T:Int) (hT:T=xs[k]?.getD 0+zs[k]?.getD 0+c)
  (E:val 256 ds+c*256 ^ k=val 256 (xs.take k)+val 256 (zs.take k)) :
  val 256 (ds++[T % 256])+(T / 256)*256 ^ (k+1)=val 256 (xs.take (k+1))+val 256 (zs.take (k+1)):=by
 rw [Ob,hk,zy,zy,Int.pow_succ]
 have h:=Int.emod_add_mul_ediv T 256
 generalize xs[k]?.getD 0=x at *
 generalize zs[k]?.getD 0=z at *
 generalize T / 256=q at *
 generalize T % 256=r at *
 generalize (256:Int) ^ k=P at *
 generalize val 256 ds=Y at *
 generalize val 256 (xs.take k)=X at *
 generalize val 256 (zs.take k)=Z at *
 have e:r=x+z+c-256*q:=by omega
 subst e
 grind
set_option maxHeartbeats 1000000 in
theorem qej (ad bd:Option Addr) (na nb ca cb:Nat) (la lb:List Int) (w:World) (hna:na≤1099511627776) (hnb:nb≤1099511627776)
  (ha:Rds w .u32 ad na la) (hb:Rds w .u32 bd nb lb) (da:Dig 4294967296 la) (db:Dig 4294967296 lb) :
  Calls Tryz.prog 127 #[.slice ad na ca,.slice bd nb cb] w (Ns 44 .u32 (dg 4294967296 (val 4294967296 la+val 4294967296 lb)) w):=by
 have l1:=Gg ha.len da
 have l2:=Gg hb.len db
 have C1:=Lib.hid (D9 ad na ca la w (by omega) ha da)
 have C2:=Lib.hid (fun (w1:World) (h:Below w.heap.size w w1)=>D9 bd nb cb lb w1 (by omega) (hb.below h (Nat.le_refl _)) db)
 have vx:=Lib.hid (Bz 256 (by omega) (val 4294967296 la) (zt (by omega) da))
 have vz:=Lib.hid (Bz 256 (by omega) (val 4294967296 lb) (zt (by omega) db))
 have dx:Dig 256 (dg 256 (val 4294967296 la)):=A8 256 (by omega) _
 have dz:Dig 256 (dg 256 (val 4294967296 lb)):=A8 256 (by omega) _
 clear ha hb da db
 generalize dg 256 (val 4294967296 la)=xs at *
 generalize dg 256 (val 4294967296 lb)=zs at *
 go_enter Tryz.func127,Tryz.ntmps127
 go_wp2_with fail
 refine (C1.out).mono ?_
 rintro e w1 ⟨xd,m,cx,rfl,ox,b1⟩
 have C2':=Lib.hid (C2.out w1 b1)
 clear C2 C1
 go_wp2_with fail
 refine (C2'.out).mono ?_
 rintro e w2 ⟨zd,n,cz,rfl,oz,b2⟩
 clear C2'
 have rx:=(ox.below b2 (Nat.le_refl _)).rds
 have rz:=oz.rds
 have BB:=qw b1 b2
 have HM:=Lib.hid rx.len
 have HN:=Lib.hid rz.len
 rw [HM.out] at l1
 rw [HN.out] at l2
 clear ox oz b1 b2
 obtain ⟨M,hM1,hM2,hM3⟩:∃M,m≤M∧n≤M∧M≤4398046511104:=⟨max m n,Nat.le_max_left _ _,Nat.le_max_right _ _,by omega⟩
 have hr0:qik w2 xs zs 0 0 (.slice none 0 0) w2:=⟨none,0,[],rfl,App.nil _ _ _ _,Dig.nil _,Below.refl _ _,Nat.le_refl _,by omega,by omega,by simp [val]⟩
 go_wp2_with fail
 go_loopw [9,8,7] (fun i cy v wr=>∃k:Nat,∃c:Int,k≤M+1∧(k≤M∨c=0)∧i=.int .i64 k∧cy=.int .i64 c∧qik w2 xs zs k c v wr) (fun i _ _ _=>M+1-(intOf i).toNat)
 case atStart=>exact ⟨0,0,by omega,.inr rfl,rfl,rfl,hr0⟩
 case round=>
  clear hr0
  obtain ⟨k,c,hk,hkc,rfl,rfl,ad3,c3,ds,rfl,g1,g2,g3,g4,g5,g6,g7⟩:=hrel
  have H7:=Lib.hid g7
  have HKC:=Lib.hid hkc
  clear g7 hkc
  by_cases hgo:k<m∨k<n∨0<c
  ·have hkM:k≤M:=by rcases HKC.out with h | h <;> omega
   have rx':=rx.below g3 (Nat.le_refl _)
   have rz':=rz.below g3 (Nat.le_refl _)
   have a1:=Lib.hid (Uy xd m cx xs k wr (by omega) rx')
   have a2:=Lib.hid (Uy zd n cz zs k wr (by omega) rz')
   have bx:=dx.get (by omega) k
   have bz:=dz.get (by omega) k
   have HE:=Lib.hid (qhn xs zs ds k g1.len c (xs[k]?.getD 0+zs[k]?.getD 0+c) rfl H7.out)
   have HC:=Lib.hid (show (k+1≤M∨(xs[k]?.getD 0+zs[k]?.getD 0+c) / 256=0) by
    rcases Nat.lt_or_ge k M with h | h
    ·exact .inl h
    ·refine .inr ?_
     rw [List.getElem?_eq_none (by rw [HM.out];omega),List.getElem?_eq_none (by rw [HN.out];omega)]
     simp
     omega)
   clear rx' rz' H7 HKC
   generalize xs[k]?.getD 0=x at *
   generalize zs[k]?.getD 0=z at *
   have fin:∀w3 ad4 c4,App w2.heap.size w3 3 .i64 ad4 (k+1) c4 (ds++[(x+z+c) % 256])→Below w2.heap.size w2 w3→w2.heap.size≤w3.heap.size→qik w2 xs zs (k+1) ((x+z+c) / 256) (.slice ad4 (k+1) c4) w3:=
    fun w3 ad4 c4 h1 h2 h3=>⟨ad4,c4,_,rfl,h1,g2.append (Dig.cons (by omega) (by omega) (Dig.nil _)),h2,h3,by omega,by omega,HE.out⟩
   have FIN:=Lib.hid fin
   clear fin
   by_cases t1:k<m
   case pos=>
    clear hgo
    go_wp2_with fail
    refine (a1.out).mono ?_
    rintro e w' ⟨rfl,rfl⟩
    go_wp2_with fail
    refine (a2.out).mono ?_
    rintro e w' ⟨rfl,rfl⟩
    go_wp2_with (at_builtin;refine Jf w2.heap.size rfl (.tmp 40) (.tmp 43) 188 3 .i64 8 rfl Tryz.underlying188 Hr (by omega) ad3 k c3 ds ((x+z+c) % 256) rfl rfl g1 g3 g4 (by omega) ?_;intro ad4 c4 w4 k1 k2 k3)
    go_roundw
    case rel=>exact ⟨k+1,_,by omega,HC.out,by go_num,rfl,FIN.out _ _ _ k1 k2 k3⟩
    case measure=>simp [intOf];omega
   case neg=>
    by_cases t2:k<n
    case pos=>
     clear hgo
     go_wp2_with fail
     refine (a1.out).mono ?_
     rintro e w' ⟨rfl,rfl⟩
     go_wp2_with fail
     refine (a2.out).mono ?_
     rintro e w' ⟨rfl,rfl⟩
     go_wp2_with (at_builtin;refine Jf w2.heap.size rfl (.tmp 40) (.tmp 43) 188 3 .i64 8 rfl Tryz.underlying188 Hr (by omega) ad3 k c3 ds ((x+z+c) % 256) rfl rfl g1 g3 g4 (by omega) ?_;intro ad4 c4 w4 k1 k2 k3)
     go_roundw
     case rel=>exact ⟨k+1,_,by omega,HC.out,by go_num,rfl,FIN.out _ _ _ k1 k2 k3⟩
     case measure=>simp [intOf];omega
    case neg=>
     have t3:0<c:=by omega
     clear hgo
     go_wp2_with fail
     refine (a1.out).mono ?_
     rintro e w' ⟨rfl,rfl⟩
     go_wp2_with fail
     refine (a2.out).mono ?_
     rintro e w' ⟨rfl,rfl⟩
     go_wp2_with (at_builtin;refine Jf w2.heap.size rfl (.tmp 40) (.tmp 43) 188 3 .i64 8 rfl Tryz.underlying188 Hr (by omega) ad3 k c3 ds ((x+z+c) % 256) rfl rfl g1 g3 g4 (by omega) ?_;intro ad4 c4 w4 k1 k2 k3)
     go_roundw
     case rel=>exact ⟨k+1,_,by omega,HC.out,by go_num,rfl,FIN.out _ _ _ k1 k2 k3⟩
     case measure=>simp [intOf];omega
  ·have t1:¬k<m:=by omega
   have t2:¬k<n:=by omega
   obtain rfl:c=0:=by omega
   clear hgo
   have hv:val 256 ds=val 4294967296 la+val 4294967296 lb:=by
    have:=H7.out
    rw [List.take_of_length_le (by rw [HM.out];omega),List.take_of_length_le (by rw [HN.out];omega)] at this
    rw [show val 256 xs=val 4294967296 la from vx.out,show val 256 zs=val 4294967296 lb from vz.out] at this
    simpa using this
   have hl:=I8 ad3 k c3 ds wr (by omega) g1.own.le g1.rds g2
   rw [hv] at hl
   have HL:=Lib.hid hl
   clear hv hl
   go_wp2_with fail
   refine (HL.out).mono ?_
   rintro e w' hr
   obtain ⟨rd,nr,cr,rfl,or,br⟩:=hr.after (qw BB g3)
   go_wp2_with fail
   go_ret
   exact ⟨_,_,_,rfl,or,br⟩
end Go.Proofs.YtbcbmkeeoognpaaGreatDoor

namespace Go.Proofs.YtbcbmkeeoognpaaGreatDoor
open Go.RowKit
end Go.Proofs.YtbcbmkeeoognpaaGreatDoor

namespace Go.Proofs.YtbcbmkeeoognpaaGreatDoor
open Go.RowKit
end Go.Proofs.YtbcbmkeeoognpaaGreatDoor

namespace Go.Proofs.YtbcbmkeeoognpaaGreatDoor
open Go.RowKit
theorem Zc (ad:Option Addr) (n c:Nat) (V:Int) (w:World) (h:Num w ad n c V) (hn:n≤1099511627776) :
  Calls Tryz.prog 125 #[.slice ad n c] w (qim V w):=by
 obtain ⟨xs,h1,h2,rfl⟩:=h.row
 exact (Td ad n c xs w (by omega) h1 h2).mono fun e w' q=>q.can
end Go.Proofs.YtbcbmkeeoognpaaGreatDoor

namespace Go.Proofs.YtbcbmkeeoognpaaGreatDoor
open Go.RowKit
end Go.Proofs.YtbcbmkeeoognpaaGreatDoor

namespace Go.Proofs.YtbcbmkeeoognpaaGreatDoor
open Go.RowKit
end Go.Proofs.YtbcbmkeeoognpaaGreatDoor

namespace Go.Proofs.YtbcbmkeeoognpaaGreatDoor
end Go.Proofs.YtbcbmkeeoognpaaGreatDoor

namespace Go.Proofs.YtbcbmkeeoognpaaGreatDoor
def shF (W:Nat):Nat:=if W=16 then 10 else if W=32 then 23 else 52
def shE (W:Nat):Nat:=if W=16 then 5 else if W=32 then 8 else 11
def shL (W:Nat):Int:=if W=16 then -24 else if W=32 then -149 else -1074
end Go.Proofs.YtbcbmkeeoognpaaGreatDoor

namespace Go.Proofs.YtbcbmkeeoognpaaGreatDoor
open Go.RowKit
end Go.Proofs.YtbcbmkeeoognpaaGreatDoor

namespace Go.Proofs.YtbcbmkeeoognpaaGreatDoor
open Go.RowKit
end Go.Proofs.YtbcbmkeeoognpaaGreatDoor

namespace Go.Proofs.YtbcbmkeeoognpaaGreatDoor
open Go.ChangeShapes Go.WideShapes Go.RowKit
theorem Og:Tryz.prog.cellsOf 52=2:=by kernel_rfl
theorem Yy:Tryz.prog.cellsOf 44=1:=by kernel_rfl
theorem qgc:Tryz.prog.bytesOf 44=4:=by kernel_rfl
end Go.Proofs.YtbcbmkeeoognpaaGreatDoor

namespace Go.Proofs.YtbcbmkeeoognpaaGreatDoor
open Go.RowKit
def sI (ng:Bool) (V:Int):Int:=if ng then -V else V
def sgI (N:Int):Int:=if N<0 then -1 else if N=0 then 0 else 1
theorem F9 (ng:Bool) (V:Int) (h:0≤V):((sI ng V).natAbs:Int)=V:=by unfold sI;cases ng <;> simp <;> omega
theorem qn5 (ng:Bool) (V:Int) (h:0≤V):decide (sI ng V<0)=(ng && decide (0<V)):=by
 unfold sI
 cases ng
 ·simp;omega
 ·simp
def Uw (N:Int) (w:World) (e:Ending) (w':World):Prop:=
 ∃ad n c,e=.returned (.agg #[.bool (decide (N<0)),.slice ad n c])∧Can w' ad n c N.natAbs∧Below w.heap.size w w'
def Uc (N:Int) (ok:Bool) (w:World) (e:Ending) (w':World):Prop:=
 ∃ad n c,e=.returned (.tuple #[.agg #[.bool (decide (N<0)),.slice ad n c],.bool ok])∧Can w' ad n c N.natAbs∧Below w.heap.size w w'
theorem size_int:(Tryz.prog.info? 52).map (·.size)=some 2:=by kernel_rfl
theorem G6 {P:Program} {fn:Func} {p u:Tmp} {ty:TypeId} (h:fn.results = #[.cell p ty,.tmp u]) (tmps:Array Value) (w:World) (g:Nat) (t:TypeId) (cs:Array Value) (fr:Nat × Nat) (d:TypeDesc)
  (hp:tmps.getD p undef=.pointer (some ⟨g,0,none⟩)) (hg:w.heap[g]?=some (.cells cs t fr))
  (hu:P.underlying ty=some d) (hd:(match d with | .struct _ | .array _ _=>true | _=>false)=true) (hi:(P.info? ty).map (·.size)=some cs.size) :
  (results fn tmps).run P w=.ok (.tuple #[.agg cs,tmps.getD u undef]) w:=by
 have hp':tmps[p]?.getD undef=.pointer (some ⟨g,0,none⟩):=by simpa using hp
 simp [results,h,hp',asAddr,run_loadVar_row w g t ty cs fr d hg hu hd hi]
theorem qcz (s:Int) (ad:Option Addr) (n c:Nat) (V:Int) (w:World) (h:Can w ad n c V) (hV:0≤V) :
  Calls Tryz.prog 206 #[.int .i8 s,.slice ad n c] w (fun e w'=>e=.returned (.agg #[.bool (decide (s = -1) && decide (0<V)),.slice ad n c])∧Below w.heap.size w w'):=by
 have hz:=h.zero_iff hV
 have hb:∀r:Bool,Below w.heap.size w (w.alloc (.cells #[.bool r,.slice ad n c] 52)):=fun r=>(Below.refl _ _).alloc (Nat.le_refl _) _
 have HB:=Lib.hid hb
 clear hb h
 obtain ⟨r,hr⟩:∃r,r=(decide (s = -1) && decide (0<V)):=⟨_,rfl⟩
 rw [←hr]
 by_cases hs:s = -1
 ·subst hs
  by_cases hn:n=0
  ·subst hn
   have HR:=Lib.hid (show r=false by rw [hr,hz.1 rfl];decide)
   clear hz hr
   go_enter Tryz.func206,Tryz.ntmps206
   go_wp2
   refine bodyPost_ret (results_cell_row rfl _ _ w.heap.size 52 #[.bool false,.slice ad 0 c] (0,0) _ rfl (heap_alloc_new _ _) Tryz.underlying52 rfl size_int) rfl ?_
   rw [HR.out]
   exact ⟨rfl,HB.out _⟩
  ·have HR:=Lib.hid (show r=true by rw [hr];simp;omega)
   have hn2:decide (0<n)=true:=by simp;omega
   clear hz hn hr
   go_enter Tryz.func206,Tryz.ntmps206
   go_wp2
   refine bodyPost_ret (results_cell_row rfl _ _ w.heap.size 52 #[.bool true,.slice ad n c] (0,0) _ rfl (heap_alloc_new _ _) Tryz.underlying52 rfl size_int) rfl ?_
   rw [HR.out]
   exact ⟨rfl,HB.out _⟩
 ·have HR:=Lib.hid (show r=false by rw [hr,decide_eq_false hs];rfl)
  have hs2:(s == -1)=false:=by simpa using hs
  clear hz hs hr
  go_enter Tryz.func206,Tryz.ntmps206
  go_wp2
  refine bodyPost_ret (results_cell_row rfl _ _ w.heap.size 52 #[.bool false,.slice ad n c] (0,0) _ rfl (heap_alloc_new _ _) Tryz.underlying52 rfl size_int) rfl ?_
  rw [HR.out]
  exact ⟨rfl,HB.out _⟩
theorem Bo (ng:Bool) (ad:Option Addr) (n c:Nat) (V:Int) (w:World) (h:Num w ad n c V) (hn:n≤70368744177663) :
  Calls Tryz.prog 205 #[.agg #[.bool ng,.slice ad n c]] w (fun e w'=>∃ad' n' c',e=.returned (.tuple #[.int .i8 (sgI (sI ng V)),.slice ad' n' c'])∧Can w' ad' n' c' V∧Below w.heap.size w w'):=by
 have hV:=h.nonneg
 have bA:Below w.heap.size w (w.alloc (.cells #[.bool ng,.slice ad n c] 52)):=(Below.refl _ _).alloc (Nat.le_refl _) _
 have c0:(w.alloc (.cells #[.bool ng,.slice ad n c] 52)).cell? ⟨w.heap.size,0,none⟩=some (.bool ng):=World.cell?_alloc_at _ _ _ _ rfl
 have c1:(w.alloc (.cells #[.bool ng,.slice ad n c] 52)).cell? ⟨w.heap.size,1,none⟩=some (.slice ad n c):=World.cell?_alloc_at _ _ _ _ rfl
 have HN:=Lib.hid (qkp ad n c V _ (h.below bA (Nat.le_refl _)) hn)
 clear h
 go_enter Tryz.func205,Tryz.ntmps205
 go_wp2_with fail
 refine (HN.out).mono ?_
 rintro e w1 ⟨ad1,n1,c1',rfl,f1,b1⟩
 have d0:=jd b1 (Nat.le_refl _) c0
 have d1:=jd b1 (Nat.le_refl _) c1
 have b2:=qw bA b1
 clear c0 c1 HN
 have hz:=f1.zero_iff hV
 by_cases hn1:n1=0
 ·have hV0:=hz.1 hn1
  subst hn1 hV0
  have HS:=Lib.hid (show sgI (sI ng 0)=0 by cases ng <;> decide)
  clear hz
  go_wp2
  go_ret2
  rw [HS.out]
  exact ⟨none,0,0,rfl,⟨Nat.le_refl _,by rw [Ak];exact Rds.nil _ _ _⟩,b2⟩
 ·have hn2:((n1:Int) == 0)=false:=by simp;omega
  have hV1:0<V:=by have:V≠0:=fun e=>hn1 (hz.2 e);omega
  clear hz hn1
  cases ng
  ·have HS:=Lib.hid (show sgI (sI false V)=1 by show sgI V=1;unfold sgI;rw [if_neg (by omega),if_neg (by omega)])
   go_wp2
   go_ret2
   rw [HS.out]
   exact ⟨_,_,_,rfl,f1,b2⟩
  ·have HS:=Lib.hid (show sgI (sI true V) = -1 by show sgI (-V) = -1;unfold sgI;rw [if_pos (by omega)])
   go_wp2
   go_ret2
   rw [HS.out]
   exact ⟨_,_,_,rfl,f1,b2⟩
end Go.Proofs.YtbcbmkeeoognpaaGreatDoor

namespace Go.Proofs.YtbcbmkeeoognpaaGreatDoor
open Go.RowKit
def xg (ad:Option Addr):Option Nat:=ad.map (·.block)
theorem Dy (ad:Option Addr) (n c:Nat):(Value.slice ad n c).ownBlock=xg ad:=by cases ad <;> rfl
theorem App.kept {B:Nat} {w w1:World} {e:TypeId} {k:IntKind} {ad:Option Addr} {n c:Nat} {xs:List Int} (h:App B w e k ad n c xs) (hk:∀b,xg ad=some b→w1.heap[b]?=w.heap[b]?):App B w1 e k ad n c xs:=by
 refine ⟨h.1,?_⟩
 rcases h.2 with h2 | ⟨g,cap,cur,h1,h2,h3,h4⟩
 ·exact .inl h2
 ·injection h1 with h1 _ _
  subst h1
  exact .inr ⟨g,cap,cur,by rename_i h5 h6;subst h6;rfl,h2,by rw [hk g rfl];exact h3,h4⟩
theorem App.lt {B:Nat} {w:World} {e:TypeId} {k:IntKind} {ad:Option Addr} {n c:Nat} {xs:List Int} (h:App B w e k ad n c xs) (b:Nat) (hb:xg ad=some b):B≤b∧b<w.heap.size:=
 World.ownsRow.lt h b (by rw [Dy];exact hb)
theorem Rds.kept {w w1:World} {k:IntKind} {ad:Option Addr} {n:Nat} {xs:List Int} (h:Rds w k ad n xs) (hk:0<n→∀b,xg ad=some b→w1.heap[b]?=w.heap[b]?):Rds w1 k ad n xs:=
 ⟨h.len,fun j hj=>by
  obtain ⟨a,rfl,hc⟩:=h.cell j hj
  refine ⟨a,rfl,?_⟩
  rw [←hc]
  have e2:(a.add j).block=a.block:=by unfold Addr.add;split <;> rfl
  simp only [World.cell?,e2,hk (by omega) a.block rfl]⟩
theorem App.opened {B:Nat} {w:World} {e:TypeId} {k:IntKind} {ad:Option Addr} {n c:Nat} {xs:List Int} (h:App B w e k ad n c xs) (hn:0<n) :
  ∃g,ad=some ⟨g,0,none⟩∧B≤g∧(∀j,j<n→w.cell? ⟨g,j,none⟩=some (.int k (xs[j]?.getD 0)))∧(∀j,w.frozen? ⟨g,j,none⟩=false)∧(∀j v,j<n→App B (w.setCell ⟨g,j,none⟩ (.int k v)) e k ad n c (xs.set j v)) ∧
   (∀j v,Only g w (w.setCell ⟨g,j,none⟩ v)):=by
 have hl:=h.len
 rcases h.2 with ⟨_,h2⟩ | ⟨g,cap,cur,h1,h2,h3,h4,h5,h6,h7⟩
 ·omega
 ·injection h1 with h1 h1' h1''
  subst h1
  subst h1''
  rw [Nat.mul_one] at h7 h6
  have hr:Aw w g e k xs:=⟨cur,h3,by omega,fun j hj=>by
   have e1:=congrArg (fun l=>l[j]?) h7
   simp only [List.getElem?_take_of_lt (show j<n by omega)] at e1
   rw [←Array.getElem?_toList,e1,Ja k xs j hj]⟩
  refine ⟨g,rfl,h2,fun j hj=>hr.cell j (by omega),hr.free,fun j v hj=>⟨by rw [nums_length,List.length_set,hl,Nat.mul_one],.inr ⟨g,c,cur.setIfInBounds j (.int k v),rfl,h2,?_,h4,h5,by simpa using h6,?_⟩⟩,fun j v=>(Only.refl g w).set j v⟩
  ·simp only [World.setCell,Array.getElem?_modify,h3,if_true,Option.map_some,Option.isSome_none]
   simp
  ·rw [Nat.mul_one]
   have e1:(cur.setIfInBounds j (.int k v)).toList=cur.toList.set j (.int k v):=by simp
   rw [e1,List.take_set,h7]
   unfold nums
   rw [List.map_set]
section
variable {P:Program} {ops:Array Oper} {rest:List Oper} {o:Oper} {a:Act} {Q:Exit→Act→World→Prop}
theorem qbh {w0 W:World} (B:Nat) (hgd:o.guard=none) (s x:Operand) (t e:TypeId) (k:IntKind) (bytes:Nat)
  (ho:o.op=.call { callee:=.builtin .append,args:=#[s,x],argTypes:=#[t,t] })
  (ht:P.underlying t=some (.slice e)) (hinfo:(P.info? e).map (fun i=>(i.zero,i.size,i.bytes))=some (some (.int k 0),1,bytes)) (hb0:0<bytes)
  (ad:Option Addr) (n c:Nat) (xs:List Int) (y:Int) (hs:a.eval s=.slice ad n c) (hx:a.eval x=.slice (some ⟨W.heap.size,0,none⟩) 1 1)
  (HO:App B W e k ad n c xs) (HB:Below B w0 W) (hB:B≤W.heap.size) (hl:(n+1)*bytes≤140737488355328)
  (h:∀ad1 c1 w1,App B w1 e k ad1 (n+1) c1 (xs++[y])→Below B w0 w1→W.heap.size≤w1.heap.size→Hid (∀i,i<W.heap.size→xg ad≠some i→w1.heap[i]?=W.heap[i]?)→Hid (∀i,xg ad1=some i→xg ad=some i∨W.heap.size≤i) →
   wpList P ops Q rest (a.put o.dst (.slice ad1 (n+1) c1)) w1) :
  wpList P ops Q (o :: rest) a (W.alloc (.cells #[.int k y] e)):=by
 obtain ⟨i0,hi,hzz⟩:=Option.map_eq_some_iff.1 hinfo
 simp only [Prod.mk.injEq] at hzz
 obtain ⟨hz0,hz1,hz2⟩:=hzz
 have hlen:n+1≤140737488355328:=Nat.le_trans (Nat.le_mul_of_pos_right _ hb0) hl
 refine wpList_append_own_at (W.alloc (.cells #[.int k y] e)) hgd s x t ho B e i0 (.int k 0) 1 bytes ht hi hz0 hz1 hz2 rfl (by omega) (.slice ad n c) n (nums k xs) hs (HO.alloc _) ⟨W.heap.size,0,none⟩ 1 1 [.int k y] hx rfl
  (World.news_of_block (cs:=#[.int k y]) (t:=e) (fr:=(0,0)) (heap_alloc_new W _)) (by intro u hu;simp at hu;subst hu;rfl) (by simp only [maxLen];omega) hl (by simp;omega) ?_
 intro v1 w1 hown hg _ hat
 have hbel:Below B w0 w1:=(HB.alloc hB _).grown hg (by simp;omega) (fun r hr=>(World.ownsRow.lt HO r hr).1)
 have hsz:W.heap.size≤w1.heap.size:=Nat.le_trans (by simp) hg.size
 rcases hown.2 with ⟨_,h2⟩ | ⟨g,cap,cur,rfl,_⟩
 ·omega
 ·refine h _ _ w1 (by simpa [App,nums] using hown) hbel hsz (Lib.hid fun i hi hne=>?_) (Lib.hid fun i hi=>?_)
  ·rw [hg.block i (by simp;omega) (by rw [Dy];exact fun e=>hne e.symm)]
   simp only [World.alloc,Array.getElem?_push]
   rw [if_neg (by omega)]
  ·rw [Dy,Dy] at hat
   rcases hat with h1 | h1
   ·exact .inl (by rw [←h1];exact hi)
   ·rw [hi] at h1
    injection h1 with h1
    refine .inr ?_
    rw [h1]
    simp
theorem qiu {w0 W:World} (B:Nat) (hgd:o.guard=none) (s x:Operand) (t e:TypeId) (k:IntKind) (bytes:Nat)
  (ho:o.op=.call { callee:=.builtin .append,args:=#[s,x],argTypes:=#[t,t] })
  (ht:P.underlying t=some (.slice e)) (hinfo:(P.info? e).map (fun i=>(i.zero,i.size,i.bytes))=some (some (.int k 0),1,bytes)) (hb0:0<bytes)
  (ad:Option Addr) (n c:Nat) (xs ys:List Int) (m:Nat) (hm:ys.length=m) (hm0:0<m) (cs:Array Value) (hcs:cs=(nums k ys).toArray) (hs:a.eval s=.slice ad n c) (hx:a.eval x=.slice (some ⟨W.heap.size,0,none⟩) m m)
  (HO:App B W e k ad n c xs) (HB:Below B w0 W) (hB:B≤W.heap.size) (hl:(n+m)*bytes≤140737488355328)
  (h:∀ad1 c1 w1,App B w1 e k ad1 (n+m) c1 (xs++ys)→Below B w0 w1→B≤w1.heap.size→wpList P ops Q rest (a.put o.dst (.slice ad1 (n+m) c1)) w1) :
  wpList P ops Q (o :: rest) a (W.alloc (.cells cs e)):=by
 subst hcs
 obtain ⟨i0,hi,hzz⟩:=Option.map_eq_some_iff.1 hinfo
 simp only [Prod.mk.injEq] at hzz
 obtain ⟨hz0,hz1,hz2⟩:=hzz
 have hlen:n+m≤140737488355328:=Nat.le_trans (Nat.le_mul_of_pos_right _ hb0) hl
 refine wpList_append_own_at (W.alloc (.cells (nums k ys).toArray e)) hgd s x t ho B e i0 (.int k 0) 1 bytes ht hi hz0 hz1 hz2 rfl (by omega) (.slice ad n c) n (nums k xs) hs (HO.alloc _) ⟨W.heap.size,0,none⟩ m m (nums k ys) hx (by rw [nums_length,hm,Nat.mul_one])
  (by have:=World.news_of_block (cs:=(nums k ys).toArray) (t:=e) (fr:=(0,0)) (heap_alloc_new W _);simpa using this) (by intro u hu;simp only [nums,List.mem_map] at hu;obtain ⟨z,_,rfl⟩:=hu;rfl) (by simp only [maxLen];omega) hl (by simp;omega) ?_
 intro v1 w1 hown hg _ hat
 have hbel:Below B w0 w1:=(HB.alloc hB _).grown hg (by simp;omega) (fun r hr=>(World.ownsRow.lt HO r hr).1)
 have hsz:B≤w1.heap.size:=Nat.le_trans (Nat.le_trans hB (by simp)) hg.size
 rcases hown.2 with ⟨_,h2⟩ | ⟨g,cap,cur,rfl,_⟩
 ·omega
 ·exact h _ _ w1 (by have:=hown;unfold App nums;rw [List.map_append];exact this) hbel hsz
theorem qbi {w0 W:World} (B:Nat) (hgd:o.guard=none) (s x:Operand) (t e:TypeId) (k:IntKind) (bytes:Nat)
  (ho:o.op=.call { callee:=.builtin .append,args:=#[s,x],argTypes:=#[t,t] })
  (ht:P.underlying t=some (.slice e)) (hinfo:(P.info? e).map (fun i=>(i.zero,i.size,i.bytes))=some (some (.int k 0),1,bytes))
  (g n c:Nat) (xs:List Int) (y:Int) (hs:a.eval s=.slice (some ⟨g,0,none⟩) n c) (hx:a.eval x=.slice (some ⟨W.heap.size,0,none⟩) 1 1)
  (HO:App B W e k (some ⟨g,0,none⟩) n c xs) (HB:Below B w0 W) (hB:B≤W.heap.size) (hroom:n+1≤c)
  (h:∀w1,App B w1 e k (some ⟨g,0,none⟩) (n+1) c (xs++[y])→Below B w0 w1→B≤w1.heap.size→wpList P ops Q rest (a.put o.dst (.slice (some ⟨g,0,none⟩) (n+1) c)) w1) :
  wpList P ops Q (o :: rest) a (W.alloc (.cells #[.int k y] e)):=by
 obtain ⟨i0,hi,hzz⟩:=Option.map_eq_some_iff.1 hinfo
 simp only [Prod.mk.injEq] at hzz
 obtain ⟨hz0,hz1,hz2⟩:=hzz
 refine wpList_append_fits (W.alloc (.cells #[.int k y] e)) hgd s x t ho B e i0 1 ht hi hz1 g n c (nums k xs) hs (HO.alloc _) ⟨W.heap.size,0,none⟩ 1 1 [.int k y] hx rfl
  (World.news_of_block (cs:=#[.int k y]) (t:=e) (fr:=(0,0)) (heap_alloc_new W _)) (by intro u hu;simp at hu;subst hu;rfl) hroom ?_
 intro w1 hown hg
 have hb0:=(HO.lt g rfl).1
 have hbel:Below B w0 w1:=(HB.alloc hB _).grown hg (by simp;omega) (fun r hr=>by injection hr with hr;omega)
 exact h w1 (by simpa [App,nums] using hown) hbel (Nat.le_trans (Nat.le_trans hB (by simp)) hg.size)
end
end Go.Proofs.YtbcbmkeeoognpaaGreatDoor
