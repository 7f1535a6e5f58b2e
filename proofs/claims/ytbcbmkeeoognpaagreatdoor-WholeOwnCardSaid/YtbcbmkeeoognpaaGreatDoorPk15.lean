/- Contracts of functions, and plain facts, part 15. -/
import Derived.Deep.RegionHeld3
import Derived.Test.YtbcbmkeeoognpaaGreatDoorPk3
import Derived.Test.YtbcbmkeeoognpaaGreatDoorPk5
import Derived.Test.YtbcbmkeeoognpaaGreatDoorPk7
import Derived.Test.YtbcbmkeeoognpaaGreatDoorPk8
import Derived.Test.YtbcbmkeeoognpaaGreatDoorPk9
import Derived.Test.YtbcbmkeeoognpaaGreatDoorPk10
import Derived.Test.YtbcbmkeeoognpaaGreatDoorPk11
import Derived.Test.YtbcbmkeeoognpaaGreatDoorPk12
import Derived.Test.YtbcbmkeeoognpaaGreatDoorPk13
import Derived.Test.YtbcbmkeeoognpaaGreatDoorPk14
set_option linter.unusedVariables false
set_option linter.unusedSimpArgs false
namespace Go.Proofs.YtbcbmkeeoognpaaGreatDoor
open Go.RowKit
def qlr (r1:Bool) (A1:Int) (r2:Bool) (A2:Int) (ok:Bool) (w:World) (e:Ending) (w':World):Prop:=
 ∃ad n c ad2 n2 c2,e=.returned (.tuple #[.agg #[.bool r1,.slice ad n c],.agg #[.bool r2,.slice ad2 n2 c2],.bool ok])∧Can w' ad n c A1∧Can w' ad2 n2 c2 A2∧Below w.heap.size w w'
theorem Zw.named {Q R:Int} {ok:Bool} {r1 r2:Bool} {A1 A2:Int} (h1:decide (Q<0)=r1) (h2:(Q.natAbs:Int)=A1) (h3:decide (R<0)=r2) (h4:(R.natAbs:Int)=A2) {w:World} {e:Ending} {w':World} (h:Zw Q R ok w e w'):qlr r1 A1 r2 A2 ok w e w':=by
 obtain ⟨ad,n,c,ad2,n2,c2,e1,q1,q2,q3⟩:=h
 rw [h1,h3] at e1
 rw [h2] at q1
 rw [h4] at q2
 exact ⟨ad,n,c,ad2,n2,c2,e1,q1,q2,q3⟩
def qio (r:Bool) (A:Int) (ok:Bool) (w:World) (e:Ending) (w':World):Prop:=
 ∃ad n c,e=.returned (.tuple #[.agg #[.bool r,.slice ad n c],.bool ok])∧Can w' ad n c A∧Below w.heap.size w w'
theorem Uc.named {N:Int} {ok r:Bool} {A:Int} (h1:decide (N<0)=r) (h2:(N.natAbs:Int)=A) {w:World} {e:Ending} {w':World} (h:Uc N ok w e w'):qio r A ok w e w':=by
 obtain ⟨ad,n,c,e1,q1,q2⟩:=h
 rw [h1] at e1
 rw [h2] at q1
 exact ⟨ad,n,c,e1,q1,q2⟩
theorem qo5 (d:Int) (h:0<d∧d<10):dg 10 d=[d]:=by
 rw [Q5 10 d (by omega) h.1]
 have e1:d % ((10:Nat):Int)=d:=by omega
 have e2:d / ((10:Nat):Int)=0:=by omega
 rw [e1,e2,Ak]
theorem Vb (d:Int) (h:0<d∧d<10):Gw d=[d+48]:=by
 unfold Gw
 rw [if_neg (by omega),qo5 d h]
 rfl
theorem qhy:yg (Qn (-3))={ data:=#[45,51] }:=by
 unfold Qn
 rw [if_pos (by omega),show ((Int.natAbs (-3):Nat):Int)=3 from rfl,Vb 3 (by omega)]
 rfl
theorem qhx:yg (Qn (-1))={ data:=#[45,49] }:=by
 unfold Qn
 rw [if_pos (by omega),show ((Int.natAbs (-1):Nat):Int)=1 from rfl,Vb 1 (by omega)]
 rfl
theorem qcw:yg (Qp (-1) 2)={ data:=#[255,255] }∧Hw (-1) 2=true:=by
 have h:Hw (-1) 2=true:=by decide
 unfold Qp
 rw [h]
 exact ⟨rfl,rfl⟩
theorem Zn:jf (qf { data:=#[45,53] }) = -5∧Bg (qf { data:=#[45,53] })=true:=by
 have hb:qf { data:=#[45,53] }=[45,53]:=rfl
 rw [hb]
 have hd:dash [45,53]=true:=by decide
 have hv:jk [53]=5:=by decide
 have hok:jh [53]=true:=by
  unfold jh
  rw [hv]
  have hl:(dg 4294967296 5).length≤262144:=Nat.le_trans (Ag 4294967296 (by omega) 1 _ (by decide)) (by omega)
  exact decide_eq_true ⟨by simp,by simp,by simp,hl⟩
 unfold jf Bg
 rw [hd,if_pos rfl,if_pos rfl,show List.drop 1 [(45:Int),53]=[53] from rfl]
 unfold qx
 rw [hok,if_pos rfl,hv]
 exact ⟨rfl,rfl⟩
theorem Can.one {w:World} {ad:Option Addr} {n c:Nat} {V:Int} (h:Can w ad n c V) (hV:0<V∧V<4294967296):n=1:=by
 have h1:=h.len_le 1 (by omega)
 have h2:=h.zero_iff (by omega)
 omega
set_option maxHeartbeats 2000000 in
theorem qae (w:World):Calls Tryz.prog 39 #[] w (fun e w'=>e=.returned (.bool true)∧Below w.heap.size w w'):=by
 have bel:=Below.refl w.heap.size w
 go_enter Tryz.func39,Tryz.ntmps39
 have h:=Lib.hid ((J8 (-7) w (by omega)).mono fun e w' q=>q.named (r:=true) (A:=7) (by decide) (by decide))
 go_wp2_with fail
 with_reducible refine (h.out).mono ?_
 rintro e v1 ⟨x1d,x1n,x1c,rfl,x1,b⟩
 clear h
 replace bel:=qw bel b
 clear b
 obtain rfl:=x1.one (by omega)
 have h:=Lib.hid ((J8 (2) v1 (by omega)).mono fun e w' q=>q.named (r:=false) (A:=2) (by decide) (by decide))
 go_wp2_with fail
 with_reducible refine (h.out).mono ?_
 rintro e v2 ⟨x2d,x2n,x2c,rfl,x2,b⟩
 clear h
 replace x1:=x1.below b (Nat.le_refl _)
 replace bel:=qw bel b
 clear b
 obtain rfl:=x2.one (by omega)
 have h:=Lib.hid ((qe1 true x1d 1 x1c 7 false x2d 1 x2c 2 v2 (x1.num (by omega)) (by omega) (x2.num (by omega)) (by omega)).mono fun e w' q=>Zw.named (Q:=-3) (R:=-1) (ok:=true) (r1:=true) (A1:=3) (r2:=true) (A2:=1) (by decide) (by decide) (by decide) (by decide) q)
 go_wp2_with fail
 with_reducible refine (h.out).mono ?_
 rintro e v3 ⟨qd,qn,qc,rd,rn,rc,rfl,q,r,b⟩
 clear h
 replace x1:=x1.below b (Nat.le_refl _)
 replace x2:=x2.below b (Nat.le_refl _)
 replace bel:=qw bel b
 clear b
 clear x1 x2
 obtain rfl:=q.one (by omega)
 obtain rfl:=r.one (by omega)
 have bz:Below v3.heap.size v3 ((v3.alloc (.cells #[.bool true,.slice qd 1 qc] 52)).alloc (.cells #[.bool true,.slice rd 1 rc] 52)):=Iy ((Below.refl _ _).alloc (Nat.le_refl _) _) _
 have k1:Cel ((v3.alloc (.cells #[.bool true,.slice qd 1 qc] 52)).alloc (.cells #[.bool true,.slice rd 1 rc] 52)) v3.heap.size 52 [.bool true,.slice qd 1 qc]:=(Cel.made _ _ _ _ rfl:Cel (v3.alloc (.cells #[.bool true,.slice qd 1 qc] 52)) _ _ _).next ((Below.refl _ _).alloc (Nat.le_refl _) _)
 have k2:Cel ((v3.alloc (.cells #[.bool true,.slice qd 1 qc] 52)).alloc (.cells #[.bool true,.slice rd 1 rc] 52)) (v3.heap.size+1) 52 [.bool true,.slice rd 1 rc]:=Cel.made _ _ _ _ (by simp)
 have g1:w.heap.size≤v3.heap.size:=bel.size
 replace q:=q.below bz (Nat.le_refl _)
 replace r:=r.below bz (Nat.le_refl _)
 replace bel:=qw bel bz
 clear bz
 have h:=Lib.hid ((J8 (-1) ((v3.alloc (.cells #[.bool true,.slice qd 1 qc] 52)).alloc (.cells #[.bool true,.slice rd 1 rc] 52)) (by omega)).mono fun e w' q=>q.named (r:=true) (A:=1) (by decide) (by decide))
 go_wp2_with fail
 with_reducible refine (h.out).mono ?_
 rintro e v4 ⟨x3d,x3n,x3c,rfl,x3,b⟩
 clear h
 replace k1:=k1.next b
 replace k2:=k2.next b
 replace q:=q.below b (Nat.le_refl _)
 replace r:=r.below b (Nat.le_refl _)
 replace bel:=qw bel b
 clear b
 obtain rfl:=x3.one (by omega)
 have h:=Lib.hid (by have h:=qc9 true x3d 1 x3c 1 2 v4 (x3.num (by omega)) (by omega);rw [show sI true 1 = -1 from rfl,qcw.1,qcw.2] at h;exact h)
 go_wp2_with fail
 with_reducible refine (h.out).mono ?_
 rintro e v5 ⟨rfl,b⟩
 clear h
 replace k1:=k1.next b
 replace k2:=k2.next b
 replace q:=q.below b (Nat.le_refl _)
 replace r:=r.below b (Nat.le_refl _)
 replace x3:=x3.below b (Nat.le_refl _)
 replace bel:=qw bel b
 clear b
 clear x3
 have h:=Lib.hid (by have h:=qc0 { data:=#[45,53] } v5 (by decide);rw [Zn.1,Zn.2] at h;exact h.mono fun e w' q=>Uc.named (N:=-5) (ok:=true) (r:=true) (A:=5) (by decide) (by decide) q)
 go_wp2_with fail
 with_reducible refine (h.out).mono ?_
 rintro e v6 ⟨x4d,x4n,x4c,rfl,x4,b⟩
 clear h
 replace k1:=k1.next b
 replace k2:=k2.next b
 replace q:=q.below b (Nat.le_refl _)
 replace r:=r.below b (Nat.le_refl _)
 replace bel:=qw bel b
 clear b
 obtain rfl:=x4.one (by omega)
 have bz:Below v6.heap.size v6 (v6.alloc (.cells #[.bool true,.slice x4d 1 x4c] 52)):=(Below.refl _ _).alloc (Nat.le_refl _) _
 have k3:Cel (v6.alloc (.cells #[.bool true,.slice x4d 1 x4c] 52)) v6.heap.size 52 [.bool true,.slice x4d 1 x4c]:=Cel.made _ _ _ _ rfl
 replace q:=q.below bz (Nat.le_refl _)
 replace r:=r.below bz (Nat.le_refl _)
 replace x4:=x4.below bz (Nat.le_refl _)
 replace k1:=k1.next bz
 replace k2:=k2.next bz
 replace bel:=qw bel bz
 clear bz
 go_wp2_with fail
 generalize (v6.alloc (.cells #[.bool true,.slice x4d 1 x4c] 52))=u0 at *
 generalize v6.heap.size=gx at *
 generalize v3.heap.size=gq at *
 have ek1a:=k1.cell 0 _ rfl
 have ek1b:=k1.cell 1 _ rfl
 have ek2a:=k2.cell 0 _ rfl
 have ek2b:=k2.cell 1 _ rfl
 have ek3a:=k3.cell 0 _ rfl
 have ek3b:=k3.cell 1 _ rfl
 have bd:Below u0.heap.size u0 u0.drew:=Dv (Below.refl _ _)
 have q0:=q.below bd (Nat.le_refl _)
 have hs1:=(by have h:=Tm true qd 1 qc 3 u0.drew (q0.num (by omega)) (by omega);rw [show sI true 3 = -3 from rfl,qhy] at h;exact h:Calls Tryz.prog 133 #[.agg #[.bool true,.slice qd 1 qc]] u0.drew (Zx { data:=#[45,51] } u0.drew))
 have G1:=Lib.hid hs1
 clear hs1
 go_region_held3 (fun w'=>w'.cell? ⟨gq,0,none⟩=some (.bool true)∧w'.cell? ⟨gq,1,none⟩=some (.slice qd 1 qc)∧w'.cell? ⟨gq+1,0,none⟩=some (.bool true)∧w'.cell? ⟨gq+1,1,none⟩=some (.slice rd 1 rc)∧w'.cell? ⟨gx,0,none⟩=some (.bool true)∧w'.cell? ⟨gx,1,none⟩=some (.slice x4d 1 x4c)) (go_keep)
  (first
   | (go_at_call 133
      with_reducible refine (G1.out).mono ?_
      rintro e u1 ⟨rfl,v1⟩
      have b1:Below u0.heap.size u0 u1:=Dw bd (Nat.le_refl _) v1
      have ek1a1:=jd b1 (Nat.le_refl _) ek1a
      have ek1b1:=jd b1 (Nat.le_refl _) ek1b
      have ek2a1:=jd b1 (Nat.le_refl _) ek2a
      have ek2b1:=jd b1 (Nat.le_refl _) ek2b
      have ek3a1:=jd b1 (Nat.le_refl _) ek3a
      have ek3b1:=jd b1 (Nat.le_refl _) ek3b
      have r1:=r.below b1 (Nat.le_refl _)
      have hs2:=(by have h:=Tm true rd 1 rc 1 u1 (r1.num (by omega)) (by omega);rw [show sI true 1 = -1 from rfl,qhx] at h;exact h:Calls Tryz.prog 133 #[.agg #[.bool true,.slice rd 1 rc]] u1 (Zx { data:=#[45,49] } u1))
      have G2:=Lib.hid hs2
      clear hs2)
   | (go_at_call 133
      with_reducible refine (G2.out).mono ?_
      rintro e u2 ⟨rfl,v2⟩
      have ek1a2:=jd v2 (Nat.le_refl _) ek1a1
      have ek1b2:=jd v2 (Nat.le_refl _) ek1b1
      have ek2a2:=jd v2 (Nat.le_refl _) ek2a1
      have ek2b2:=jd v2 (Nat.le_refl _) ek2b1
      have ek3a2:=jd v2 (Nat.le_refl _) ek3a1
      have ek3b2:=jd v2 (Nat.le_refl _) ek3b1
      have G3:=Lib.hid ((J8 (-5) u2 (by omega)).mono fun e w' q=>q.named (r:=true) (A:=5) (by decide) (by decide)))
   | (go_at_call 134
      with_reducible refine (G4.out).mono ?_
      rintro e u4 ⟨rfl,v4⟩
      have ek1a4:=jd v4 (Nat.le_refl _) ek1a3
      have ek1b4:=jd v4 (Nat.le_refl _) ek1b3
      have ek2a4:=jd v4 (Nat.le_refl _) ek2a3
      have ek2b4:=jd v4 (Nat.le_refl _) ek2b3
      have ek3a4:=jd v4 (Nat.le_refl _) ek3a3
      have ek3b4:=jd v4 (Nat.le_refl _) ek3b3
      have b4:Below w.heap.size w u4:=qw bel (qw b3 v4))
   | (go_at_call 130
      with_reducible refine (G3.out).mono ?_
      rintro e u3 ⟨x5d,x5n,x5c,rfl,x5,v3⟩
      have ek1a3:=jd v3 (Nat.le_refl _) ek1a2
      have ek1b3:=jd v3 (Nat.le_refl _) ek1b2
      have ek2a3:=jd v3 (Nat.le_refl _) ek2a2
      have ek2b3:=jd v3 (Nat.le_refl _) ek2b2
      have ek3a3:=jd v3 (Nat.le_refl _) ek3a2
      have ek3b3:=jd v3 (Nat.le_refl _) ek3b2
      obtain rfl:=x5.one (by omega)
      have b3:Below u0.heap.size u0 u3:=qw b1 (qw v2 v3)
      have x43:=x4.below b3 (Nat.le_refl _)
      have hc:=(by have h:=qe0 true x4d 1 x4c 5 true x5d 1 x5c 5 u3 (x43.num (by omega)) (by omega) (x5.num (by omega)) (by omega);rw [show D5 (sI true 5) (sI true 5)=0 from Ip rfl] at h;exact h:Calls Tryz.prog 134 #[.agg #[.bool true,.slice x4d 1 x4c],.agg #[.bool true,.slice x5d 1 x5c]] u3 (qin 0 u3))
      have G4:=Lib.hid hc
      clear hc))
 all_goals
  go_wp2_with fail
  go_ret
  exact ⟨rfl,b4⟩
end Go.Proofs.YtbcbmkeeoognpaaGreatDoor

namespace Go.Proofs.YtbcbmkeeoognpaaGreatDoor
open Go Go.RowKit
theorem Rds.mv {w w':World} {B B':Bx} (h:Mv w B w' B') {k:IntKind} (hk:k=.u32∨k=.u8) {ad:Option Addr} {n:Nat} {xs:List Int} (r:Rds w k ad n xs):Rds w' k ad n xs:=by
 refine ⟨r.len,fun j hj=>?_⟩
 obtain ⟨a,e,hc⟩:=r.cell j hj
 refine ⟨a,e,?_⟩
 have hl:=World.block_lt_of_cell? w _ hc
 rcases h.same _ hl with h1 | ⟨_,h2⟩
 ·rw [←hc];exact World.cell?_of_block h1
 ·exact absurd hc (h2 _ k _ rfl hk)
def LIM:Nat:=274877906944
theorem Ed:LIM=274877906944:=rfl
def yz (k:Nat) (N:Int):Prop:=(N.natAbs:Int)<4294967296 ^ k
def Fits (N:Int):Prop:=∃k,k≤LIM∧yz k N
theorem yz.fits {k:Nat} {N:Int} (h:yz k N) (hk:k≤274877906944):Fits N:=⟨k,hk,h⟩
theorem yz.mono {k m:Nat} {N:Int} (h:yz k N) (hk:k≤m):yz m N:=Int.lt_of_lt_of_le h (Ew (by omega) hk)
theorem yz.neg {k:Nat} {N:Int} (h:yz k N):yz k (-N):=by unfold yz at *;rwa [Int.natAbs_neg]
theorem yz.add {k m:Nat} {N M:Int} (h:yz k N) (h':yz m M):yz (k+m+1) (N+M):=by
 unfold yz at *
 have:=qeg _ _ _ _ h h'
 omega
theorem yz.mul {k m:Nat} {N M:Int} (h:yz k N) (h':yz m M):yz (k+m) (N*M):=by
 unfold yz at *
 rw [Int.natAbs_mul,Int.natCast_mul]
 exact qeh _ _ _ _ (by omega) (by omega) h h'
theorem yz.small {N:Int} (h:N.natAbs<4294967296):yz 1 N:=by unfold yz;rw [Int.pow_one];omega
theorem yz.i64 {N:Int} (h : -9223372036854775808≤N∧N<9223372036854775808):yz 2 N:=by
 unfold yz
 have:(4294967296:Int) ^ 2=18446744073709551616:=rfl
 omega
theorem yz.le {k:Nat} {N M:Int} (h:yz k N) (hM:M.natAbs≤N.natAbs):yz k M:=by unfold yz at *;omega
def PI (L:Nat) (N:Int) (v:Value) (w:World) (B:Bx):Prop:=∃ad n c,v=.agg #[.bool (decide (N<0)),.slice ad n c]∧Can w ad n c (N.natAbs:Int)∧n≤L
def IsI (N:Int):VP:=⟨PI LIM N,fun v w B w' B' h hp=>by
 obtain ⟨ad,n,c,e,k,l⟩:=hp
 exact ⟨ad,n,c,e,⟨k.le,k.rds.mv h (.inl rfl)⟩,l⟩⟩
def PN (N:Int) (v:Value) (w:World) (B:Bx):Prop:=∃ng ad n c V,v=.agg #[.bool ng,.slice ad n c]∧Num w ad n c V∧n≤LIM∧N=sI ng V
def IsN (N:Int):VP:=⟨PN N,fun v w B w' B' h hp=>by
 obtain ⟨ng,ad,n,c,V,e,k,l,hN⟩:=hp
 obtain ⟨xs,h1,h2,h3⟩:=k.row
 exact ⟨ng,ad,n,c,V,e,⟨k.le,xs,h1.mv h (.inl rfl),h2,h3⟩,l,hN⟩⟩
def qo2 (ng:Bool) (n:Nat) (xs:List Int) (v:Value) (w:World) (B:Bx):Prop:=∃ad c,v=.agg #[.bool ng,.slice ad n c]∧Arg w ad n c xs
def E8 (ng:Bool) (n:Nat) (xs:List Int):VP:=⟨qo2 ng n xs,fun v w B w' B' h hp=>by
 obtain ⟨ad,c,e,k⟩:=hp
 exact ⟨ad,c,e,⟨k.le,k.rds.mv h (.inl rfl),k.dig⟩⟩⟩
def PTw (ng:Bool) (n:Nat) (xs:List Int) (v:Value) (w:World) (B:Bx):Prop:=∃b,v=.agg #[.bool ng,.slice (some ⟨b,0,none⟩) n (n+1)]∧Tw w b n xs
def qie (ng:Bool) (n:Nat) (xs:List Int):VP:=⟨PTw ng n xs,fun v w B w' B' h hp=>by
 obtain ⟨b,e,k⟩:=hp
 have hlt:=k.blk.lt
 refine ⟨b,e,⟨k.len,?_,k.dig⟩⟩
 have hblk:=k.blk
 have h0:=hblk.cell 0 (by simp)
 unfold Blk at *
 rw [(h.same b hlt).resolve_right (fun h2=>h2.2 _ _ _ rfl (.inl rfl) h0)]
 exact hblk⟩
theorem qhu (N:Int):sI (decide (N<0)) (N.natAbs:Int)=N:=by
 unfold sI
 by_cases h:N<0
 ·rw [decide_eq_true h,if_pos rfl];omega
 ·rw [decide_eq_false h];simp;omega
theorem qli {N:Int} (v:Value) (w:World) (B:Bx) (h:(IsI N).p v w B):(IsN N).p v w B:=by
 obtain ⟨ad,n,c,e,k,l⟩:=h
 exact ⟨_,ad,n,c,_,e,k.num (by omega),l,(qhu N).symm⟩
theorem qa3 {ng:Bool} {n:Nat} {xs:List Int} {N:Int} (hn:n≤274877906944) (hN:sI ng (val 4294967296 xs)=N) (v:Value) (w:World) (B:Bx) (h:(E8 ng n xs).p v w B):(IsN N).p v w B:=by
 obtain ⟨ad,c,e,k⟩:=h
 exact ⟨_,ad,n,c,_,e,k.num,hn,hN.symm⟩
theorem Hy {ng:Bool} {n:Nat} {xs:List Int} {N:Int} (hn:n≤274877906944) (hN:sI ng (val 4294967296 xs)=N) (v:Value) (w:World) (B:Bx) (h:(qie ng n xs).p v w B):(IsN N).p v w B:=by
 obtain ⟨b,e,k⟩:=h
 exact ⟨_,_,n,_,_,e,k.num,hn,hN.symm⟩
theorem Rl {b:Bool} {ad:Option Addr} {n c:Nat} {v:Value} (e:v=.agg #[.bool b,.slice ad n c]):∃cs,v=.agg cs∧cs.size=2∧(cs.all (·.oneCell')=true)∧∀(j:Nat) (ik:IntKind) (x:Int),(ik=.u32∨ik=.u8)→cs[j]?≠some (.int ik x):=by
 refine ⟨_,e,rfl,by simp [Value.oneCell'],fun j ik x _=>?_⟩
 rcases j with _ | _ | j <;> simp
theorem qfr {N:Int}:Shape 2 (IsI N):=fun v w B ⟨ad,n,c,e,_⟩=>Rl e
theorem Bc {N:Int}:Shape 2 (IsN N):=fun v w B ⟨ng,ad,n,c,V,e,_⟩=>Rl e
theorem qk6 {ng:Bool} {n:Nat} {xs:List Int}:Shape 2 (qie ng n xs):=fun v w B ⟨b,e,_⟩=>Rl e
abbrev qp:VP:=Lit (.agg #[.bool false,.slice none 0 0])
theorem jl:Shape 2 qp:=fun v w B e=>Rl e
theorem Shape.two {n:Nat} {D:VP} (h:Shape n D) (v:Value) (w:World) (B:Bx) (hp:D.p v w B):∃cs,v=.agg cs∧cs.size=n:=by
 obtain ⟨cs,e,hn,_⟩:=h v w B hp
 exact ⟨cs,e,hn⟩
theorem tyI:Zy Tryz.prog 52 2:=⟨⟨_,Tryz.underlying52,rfl⟩,by kernel_rfl⟩
theorem Dq:(Tryz.prog.info? 52).map (·.zero)=some (some (.agg #[.bool false,.slice none 0 0])):=by kernel_rfl
theorem qln (w:World) (B:Bx):(IsI 0).p (.agg #[.bool false,.slice none 0 0]) w B:=by
 refine ⟨none,0,0,rfl,⟨Nat.le_refl _,?_⟩,Nat.zero_le _⟩
 show Rds w .u32 none 0 (dg 4294967296 0)
 rw [Ak]
 exact Rds.nil _ _ _
theorem qe5.con {r:Bool} {w:World} {B:Bx} {e:Ending} {w':World} (h:qe5 r w e w'):∃v,e=.returned v∧(IsB r).p v w' B∧Below w.heap.size w w':=⟨_,h.1,rfl,h.2⟩
theorem qlb (X Y:Int):(X.tdiv Y).natAbs≤X.natAbs:=by
 rw [Int.natAbs_tdiv];exact Nat.div_le_self _ _
theorem qi8 (X Y:Int):Con Tryz.prog 21 [IsI X,IsI Y] (IsB (decide (X=Y))):=by
 refine ⟨fun _ _=>by go_simp,fun vs w B hB hV=>?_⟩
 match vs,hV with
 | [v,u],⟨h1,h2,_⟩=>
  obtain ⟨ad,n,c,rfl,k,l⟩:=h1
  obtain ⟨ad2,n2,c2,rfl,k2,l2⟩:=h2
  refine (Yv _ _ ad ad2 n n2 c c2 _ _ w k k2 (by omega) (by omega) (by have:=Ed;omega) (by have:=Ed;omega)).mono fun e w' h=>?_
  rw [show ((decide (X<0) == decide (Y<0)) && decide ((X.natAbs:Int)=Y.natAbs))=decide (X=Y) from ?_] at h
  ·exact h.con
  ·by_cases h1:X<0 <;> by_cases h2:Y<0 <;> simp [h1,h2] <;> omega
theorem qbn (ng:Bool) (n:Nat) (xs:List Int) (hn:n≤1000000000000):Con Tryz.prog 44 [qie ng n xs,E8 ng n xs] (IsB true):=by
 refine ⟨fun _ _=>by go_simp,fun vs w B hB hV=>?_⟩
 match vs,hV with
 | [v,u],⟨h1,h2,_⟩=>
  obtain ⟨b,rfl,k⟩:=h1
  obtain ⟨ad,c,rfl,k2⟩:=h2
  exact (Yd ng b ad n c xs w k k2 hn).mono fun e w' h=>h.con
theorem U5:Con Tryz.prog 39 [] (IsB true):=by
 refine ⟨fun _ _=>by go_simp,fun vs w B hB hV=>?_⟩
 match vs,hV with
 | [],_=>exact (qae w).mono fun e w' h=>⟨_,h.1,rfl,h.2⟩
theorem qgm {X Y:Int} (h:X=Y):Con Tryz.prog 21 [IsI X,IsI Y] (IsB true):=by
 have:=qi8 X Y
 rwa [decide_eq_true h] at this
def qoi (l:List Nat) (v:Value) (w:World) (B:Bx):Prop:=∃b c,∃f:Nat→Option Addr × Nat,v=.slice (some ⟨b,0,none⟩) l.length c∧¬B b∧b<w.heap.size∧∀j,j<l.length→w.cell? ⟨b,j*2+1,none⟩=some (.slice (f j).1 (l[j]?.getD 0) (f j).2)
def Zr (l:List Nat):VP:=⟨qoi l,fun v w B w' B' h hp=>by
 obtain ⟨b,c,f,e,hb,hlt,hc⟩:=hp
 refine ⟨b,c,f,e,fun h2=>hb (h.box b hlt h2),Nat.lt_of_lt_of_le hlt h.size,fun j hj=>?_⟩
 rw [←hc j hj]
 exact World.cell?_of_block ((h.same b hlt).resolve_right (fun h2=>hb h2.1))⟩
section
variable {need:List (Tmp × FD)} {d:Option Tmp} {ty:TypeId} {pos:String} {af:Array Edge} {g:Option (Nat × Bool)}
theorem qj9 {w:World} {B:Bx} (hB:Hz B w) (cs:Array Value) (t:TypeId) (l:List Nat) (f:Nat→Option Addr × Nat) (hc:∀j,j<l.length→cs[j*2+1]?=some (.slice (f j).1 (l[j]?.getD 0) (f j).2)) :
  (Zr l).p (.slice (some ⟨w.heap.size,0,none⟩) l.length l.length) (w.alloc (.cells cs t)) B∧Bl w B (w.alloc (.cells cs t)) B∧Below w.heap.size w (w.alloc (.cells cs t))∧Hz B (w.alloc (.cells cs t)):=by
 have hbel:Below w.heap.size w (w.alloc (.cells cs t)):=(Below.refl _ _).alloc (Nat.le_refl _) _
 refine ⟨⟨_,_,f,rfl,fun h=>by have:=hB _ h;omega,by simp,fun j hj=>?_⟩,Bl.of_below B hbel,hbel,fun k hk=>Nat.lt_of_lt_of_le (hB k hk) hbel.size⟩
 rw [Af (heap_alloc_new w _)]
 exact hc j hj
end
end Go.Proofs.YtbcbmkeeoognpaaGreatDoor

namespace Go.Proofs.YtbcbmkeeoognpaaGreatDoor
open Go Go.RowKit
def PM (V:Int) (v:Value) (w:World) (B:Bx):Prop:=∃ad n c,v=.slice ad n c∧Num w ad n c V∧n≤LIM
def IsM (V:Int):VP:=⟨PM V,fun v w B w' B' h hp=>by
 obtain ⟨ad,n,c,e,k,l⟩:=hp
 obtain ⟨xs,h1,h2,h3⟩:=k.row
 exact ⟨ad,n,c,e,⟨k.le,xs,h1.mv h (.inl rfl),h2,h3⟩,l⟩⟩
def PC (V:Int) (v:Value) (w:World) (B:Bx):Prop:=∃ad n c,v=.slice ad n c∧Can w ad n c V∧n≤LIM∧0≤V
def IsC (V:Int):VP:=⟨PC V,fun v w B w' B' h hp=>by
 obtain ⟨ad,n,c,e,k,l,hV⟩:=hp
 exact ⟨ad,n,c,e,⟨k.le,k.rds.mv h (.inl rfl)⟩,l,hV⟩⟩
def Xy (X:Int):VP:=⟨fun v _ _=>∃ng:Bool,v=.bool ng∧X=sI ng (X.natAbs:Int),fun _ _ _ _ _ _ h=>h⟩
theorem qlf {V:Int} (v:Value) (w:World) (B:Bx) (h:(IsC V).p v w B):(IsM V).p v w B:=by
 obtain ⟨ad,n,c,e,k,l,hV⟩:=h
 exact ⟨ad,n,c,e,k.num hV,l⟩
theorem qlk (v:Value) (w:World) (B:Bx) (h:qp.p v w B):(IsI 0).p v w B:=by
 obtain rfl:=h
 exact qln w B
theorem Ld (v:Value) (w:World) (B:Bx) (h:(Lit (.slice none 0 0)).p v w B):(IsC 0).p v w B:=by
 obtain rfl:=h
 refine ⟨none,0,0,rfl,⟨Nat.le_refl _,?_⟩,Nat.zero_le _,Int.le_refl _⟩
 rw [Ak]
 exact Rds.nil _ _ _
theorem PM.nonneg {V:Int} {v:Value} {w:World} {B:Bx} (h:(IsM V).p v w B):0≤V:=by
 obtain ⟨ad,n,c,e,k,l⟩:=h
 exact k.nonneg
theorem PM.fit {V:Int} {v:Value} {w:World} {B:Bx} (h:(IsM V).p v w B):Fits V:=by
 have h0:=PM.nonneg h
 obtain ⟨ad,n,c,e,k,l⟩:=h
 refine ⟨n,l,?_⟩
 unfold yz
 have:=k.lt
 omega
section
variable {need:List (Tmp × FD)} {d:Option Tmp} {ty:TypeId} {pos:String} {af:Array Edge} {g:Option (Nat × Bool)} {x:Operand} {D:VP}
set_option maxRecDepth 50000 in
theorem Ri (h:Opd need x (.box 52 2 D)):jo Tryz.prog ⟨d,.fieldAddr 52 x 0,ty,pos,af,g⟩ need (.ptr 52 2 D 0) false:=
 Dn 0 0 Tryz.underlying52 rfl rfl (fun w=>⟨1,by go_simp,by decide⟩) h
set_option maxRecDepth 50000 in
theorem Ar (h:Opd need x (.box 52 2 D)):jo Tryz.prog ⟨d,.fieldAddr 52 x 1,ty,pos,af,g⟩ need (.ptr 52 2 D 1) false:=
 Dn 1 1 Tryz.underlying52 rfl rfl (fun w=>⟨1,by go_simp,by decide⟩) h
theorem qe6 (w:World):(isAgg 4).run Tryz.prog w=.ok false w:=by go_simp
theorem Pg (w:World):(isAgg 23).run Tryz.prog w=.ok false w:=by go_simp
theorem Su {N:Int} (h:Opd need x (.ptr 52 2 (IsN N) 0)):jo Tryz.prog ⟨d,.load 4 x,ty,pos,af,g⟩ need (.val (Xy N)) false:=
 Bi qe6 h (by decide) fun cs v w B ⟨ng,ad,n,c,V,e,k,l,hN⟩ hv=>by
  injection e with e
  subst e
  simp at hv
  exact ⟨ng,hv.symm,by rw [hN,F9 ng V k.nonneg]⟩
theorem Cb {N:Int} (h:Opd need x (.ptr 52 2 (IsN N) 1)):jo Tryz.prog ⟨d,.load 23 x,ty,pos,af,g⟩ need (.val (IsM (N.natAbs:Int))) false:=
 Bi Pg h (by decide) fun cs v w B ⟨ng,ad,n,c,V,e,k,l,hN⟩ hv=>by
  injection e with e
  subst e
  simp at hv
  exact ⟨ad,n,c,hv.symm,by rw [hN,F9 ng V k.nonneg];exact k,l⟩
set_option maxRecDepth 50000 in
theorem qep (w:World):(Instr.build 52 #[]).run Tryz.prog w=.ok (.agg #[.bool false,.slice none 0 0]) w:=by go_simp
set_option maxRecDepth 50000 in
theorem Xh (b:Bool) (ad:Option Addr) (n c:Nat) (w:World):(Instr.build 52 #[(0,.bool b),(1,.slice ad n c)]).run Tryz.prog w=.ok (.agg #[.bool b,.slice ad n c]) w:=by go_simp
set_option maxRecDepth 50000 in
theorem Xg (ad:Option Addr) (n c:Nat) (w:World):(Instr.build 52 #[(1,.slice ad n c)]).run Tryz.prog w=.ok (.agg #[.bool false,.slice ad n c]) w:=by go_simp
set_option maxRecDepth 50000 in
theorem Il:jo Tryz.prog ⟨d,.build 52 #[],ty,pos,af,g⟩ need (.val qp) false:=
 jo.value fun a w B hF=>⟨.agg #[.bool false,.slice none 0 0],by simp [execOp,Sem.run_bind,qep],rfl⟩
set_option maxRecDepth 50000 in
theorem qd9 {y:Operand} {N:Int} (h:Opd need x (.val (Xy N))) (h':Opd need y (.val (IsM (N.natAbs:Int)))):jo Tryz.prog ⟨d,.build 52 #[(0,x),(1,y)],ty,pos,af,g⟩ need (.val (IsN N)) false:=
 Oq h h' fun ρ w B v u ⟨ng,e1,hN⟩ ⟨ad,n,c,e2,k,l⟩ h1 h2=>by
  refine ⟨.agg #[.bool ng,.slice ad n c],?_,ng,ad,n,c,_,rfl,k,l,hN⟩
  have:=Xh ng ad n c w
  simp [execOp,h1,h2,e1,e2,this]
set_option maxRecDepth 50000 in
theorem Ha {y:Operand} {b:Bool} {V:Int} (h:Opd need x (.val (IsB b))) (h':Opd need y (.val (IsM V))):jo Tryz.prog ⟨d,.build 52 #[(0,x),(1,y)],ty,pos,af,g⟩ need (.val (IsN (sI b V))) false:=
 Oq h h' fun ρ w B v u e1 ⟨ad,n,c,e2,k,l⟩ h1 h2=>by
  refine ⟨.agg #[.bool b,.slice ad n c],?_,b,ad,n,c,_,rfl,k,l,rfl⟩
  have:=Xh b ad n c w
  have e1:v=.bool b:=e1
  simp [execOp,h1,h2,e1,e2,this]
set_option maxRecDepth 50000 in
theorem Wu {V:Int} (h:Opd need x (.val (IsM V))):jo Tryz.prog ⟨d,.build 52 #[(1,x)],ty,pos,af,g⟩ need (.val (IsN V)) false:=
 Rj h fun ρ w B v ⟨ad,n,c,e2,k,l⟩ h1=>by
  refine ⟨.agg #[.bool false,.slice ad n c],?_,false,ad,n,c,_,rfl,k,l,rfl⟩
  have:=Xg ad n c w
  simp [execOp,h1,e2,this]
theorem qkv {N:Int} {t:TypeId} (h:Opd need x (.val (Xy N))):jo Tryz.prog ⟨d,.unOp .not t x,ty,pos,af,g⟩ need (.val (Xy (-N))) false:=
 Rj h fun ρ w B v ⟨ng,e1,hN⟩ h1=>by
  refine ⟨.bool (!ng),by simp [execOp,h1,e1,Op.unary,Sem.run_bind],!ng,rfl,?_⟩
  rw [Int.natAbs_neg,hN,F9 ng _ (by omega)]
  unfold sI
  cases ng <;> simp
theorem qfn (ad:Option Addr) (n c:Nat) (ρ:Operand→Value) (w:World) (hx:ρ x=.slice ad n c):(execOp ρ ⟨d,.call { callee:=.builtin .len,args:=#[x],argTypes:=#[23] },3,pos,af,g⟩).run Tryz.prog w=.ok (.value (.int .i64 n)) w:=by
 unfold execOp
 simp only [hx,resolve,List.map_toArray,List.map_cons,List.map_nil]
 go_simp
end
theorem Opd.eqM {need:List (Tmp × FD)} {x:Operand} {V U:Int} (h:Opd need x (.val (IsM V))) (e:U=V):Opd need x (.val (IsM U)):=e ▸ h
theorem qim.con {V:Int} {w:World} {B:Bx} {e:Ending} {w':World} (hV:0≤V) (hN:Fits V) (h:qim V w e w'):∃v,e=.returned v∧(IsC V).p v w' B∧Below w.heap.size w w':=by
 obtain ⟨ad,n,c,rfl,k,hb⟩:=h
 obtain ⟨q,hq,hf⟩:=hN
 unfold yz at hf
 exact ⟨_,rfl,⟨ad,n,c,rfl,k,Nat.le_trans (k.len_le q (by omega)) hq,hV⟩,hb⟩
theorem Oh (V:Int):Con Tryz.prog 125 [IsM V] (IsC V):=by
 refine ⟨fun _ _=>by go_simp,fun vs w B hB hV=>?_⟩
 match vs,hV with
 | [v],⟨h1,_⟩=>
  have z1:=PM.nonneg h1
  have hf:=PM.fit h1
  obtain ⟨ad,n,c,rfl,k,l⟩:=h1
  exact (Zc ad n c V w k (by have:=Ed;omega)).mono fun e w' h=>h.con z1 hf
theorem Ea (X:Int):Con Tryz.prog 209 [IsN X] (IsB (decide (X<0))):=by
 refine ⟨fun _ _=>by go_simp,fun vs w B hB hV=>?_⟩
 match vs,hV with
 | [v],⟨h1,_⟩=>
  obtain ⟨ng,ad,n,c,V,rfl,k,l,rfl⟩:=h1
  exact (Yu ng ad n c V w k (by have:=Ed;omega)).mono fun e w' h=>⟨_,h.1,rfl,h.2⟩
end Go.Proofs.YtbcbmkeeoognpaaGreatDoor

namespace Go.Proofs.YtbcbmkeeoognpaaGreatDoor
open Go Go.RowKit
theorem yz.abs {k:Nat} {N:Int} (h:yz k N):yz k (N.natAbs:Int):=by unfold yz at *;omega
theorem qeq (X Y:Int) (h:(decide (X<0) == decide (Y<0))=true):sI (decide (X<0)) ((X.natAbs:Int)+(Y.natAbs:Int))=X+Y:=by
 unfold sI
 rcases Int.lt_or_le X 0 with h1 | h1 <;> rcases Int.lt_or_le Y 0 with h2 | h2
 ·rw [decide_eq_true h1,decide_eq_true h2] at h
  rw [decide_eq_true h1]
  first | (cases h;done) | (simp only [if_true];omega)
 ·rw [decide_eq_true h1,decide_eq_false (by omega)] at h
  first | (cases h;done) | (rw [decide_eq_true h1];simp only [if_true,Bool.false_eq_true,if_false];omega)
 ·rw [decide_eq_false (by omega),decide_eq_true h2] at h
  first | (cases h;done) | (rw [decide_eq_false (by omega)];simp only [if_true,Bool.false_eq_true,if_false];omega)
 ·rw [decide_eq_false (by omega),decide_eq_false (by omega)] at h
  first | (cases h;done) | (rw [decide_eq_false (by omega)];simp only [Bool.false_eq_true,if_false];omega)
theorem qax (X Y:Int) (h:(decide (X<0) == decide (Y<0))=false) (hl:(Y.natAbs:Int)≤(X.natAbs:Int)):sI (decide (X<0)) (if (Y.natAbs:Int)≤(X.natAbs:Int) then (X.natAbs:Int)-(Y.natAbs:Int) else 0)=X+Y:=by
 rw [if_pos hl]
 unfold sI
 rcases Int.lt_or_le X 0 with h1 | h1 <;> rcases Int.lt_or_le Y 0 with h2 | h2
 ·rw [decide_eq_true h1,decide_eq_true h2] at h
  rw [decide_eq_true h1]
  first | (cases h;done) | (simp only [if_true];omega)
 ·rw [decide_eq_true h1,decide_eq_false (by omega)] at h
  first | (cases h;done) | (rw [decide_eq_true h1];simp only [if_true,Bool.false_eq_true,if_false];omega)
 ·rw [decide_eq_false (by omega),decide_eq_true h2] at h
  first | (cases h;done) | (rw [decide_eq_false (by omega)];simp only [if_true,Bool.false_eq_true,if_false];omega)
 ·rw [decide_eq_false (by omega),decide_eq_false (by omega)] at h
  first | (cases h;done) | (rw [decide_eq_false (by omega)];simp only [Bool.false_eq_true,if_false];omega)
theorem qay (X Y:Int) (h:(decide (X<0) == decide (Y<0))=false) (hl:¬(Y.natAbs:Int)≤(X.natAbs:Int)):sI (decide (Y<0)) (if (X.natAbs:Int)≤(Y.natAbs:Int) then (Y.natAbs:Int)-(X.natAbs:Int) else 0)=X+Y:=by
 rw [if_pos (show (X.natAbs:Int)≤(Y.natAbs:Int) by omega)]
 unfold sI
 rcases Int.lt_or_le X 0 with h1 | h1 <;> rcases Int.lt_or_le Y 0 with h2 | h2
 ·rw [decide_eq_true h1,decide_eq_true h2] at h
  rw [decide_eq_true h2]
  first | (cases h;done) | (simp only [if_true];omega)
 ·rw [decide_eq_true h1,decide_eq_false (by omega)] at h
  first | (cases h;done) | (rw [decide_eq_false (by omega)];simp only [if_true,Bool.false_eq_true,if_false];omega)
 ·rw [decide_eq_false (by omega),decide_eq_true h2] at h
  first | (cases h;done) | (rw [decide_eq_true h2];simp only [if_true,Bool.false_eq_true,if_false];omega)
 ·rw [decide_eq_false (by omega),decide_eq_false (by omega)] at h
  first | (cases h;done) | (rw [decide_eq_false (by omega)];simp only [Bool.false_eq_true,if_false];omega)
theorem qn4 (X Y:Int):sI (decide (X<0) != decide (Y<0)) ((X.natAbs:Int)*(Y.natAbs:Int))=X*Y:=by
 have e:(X.natAbs:Int)*(Y.natAbs:Int)=((X*Y).natAbs:Int):=by rw [Int.natAbs_mul,Int.natCast_mul]
 rw [e]
 unfold sI
 rcases Int.lt_trichotomy X 0 with h1 | rfl | h1 <;> rcases Int.lt_trichotomy Y 0 with h2 | rfl | h2 <;> try (simp;done)
 ·have:=Int.mul_pos_of_neg_of_neg h1 h2
  rw [decide_eq_true h1,decide_eq_true h2];simp;omega
 ·have:=Int.mul_neg_of_neg_of_pos h1 h2
  rw [decide_eq_true h1,decide_eq_false (by omega)];simp;omega
 ·have:=Int.mul_neg_of_pos_of_neg h1 h2
  rw [decide_eq_false (by omega),decide_eq_true h2];simp;omega
 ·have:=Int.mul_pos h1 h2
  rw [decide_eq_false (by omega),decide_eq_false (by omega)];simp;omega
end Go.Proofs.YtbcbmkeeoognpaaGreatDoor

namespace Go.Proofs.YtbcbmkeeoognpaaGreatDoor
open Go Go.RowKit
theorem Vf {V:Int} (h0:0≤V) {k:Nat} (h:(dg 4294967296 V).length≤k):yz k V:=by
 unfold yz
 have hd:Dig 4294967296 (dg 4294967296 V):=A8 4294967296 (by omega) _
 have h1:=Au (by omega) hd
 have h2:val 4294967296 (dg 4294967296 V)=V:=Bz 4294967296 (by omega) V h0
 have h3:(4294967296:Int) ^ (dg 4294967296 V).length≤4294967296 ^ k:=Ew (by omega) h
 omega
theorem qcq (cs:List Int) (h:Qs cs):0≤jk cs:=by have:=Ez cs h cs.length;rwa [Jv] at this
theorem qjt (k:Nat):yz k 0:=by unfold yz;show (0:Int)<_;exact Int.pow_pos (by omega)
theorem qk0 (cs:List Int):yz 262144 (qx cs):=by
 unfold qx
 split
 ·rename_i h
  obtain ⟨h1,h2,h3,h4⟩:=of_decide_eq_true h
  exact Vf (qcq cs h3) h4
 ·exact qjt _
theorem head_ne (A:Int) (h:0<A):(Gw A)[0]?.getD 0≠48:=by
 intro e
 rcases Nat.lt_or_ge 1 (Gw A).length with h1 | h1
 ·exact qjh A (by omega) h1 e
 ·have h2:=qjg A (by omega)
  have h3:=qho A (by omega)
  match hd:Gw A with
  | []=>rw [hd] at h2;simp at h2
  | [c]=>
   rw [hd] at e h3
   simp at e
   subst e
   simp [jk] at h3
   omega
  | c :: d :: l=>rw [hd] at h1;simp at h1
theorem qjj (n:Nat):∀cs:List Int,cs.length=n→cs≠[]→(cs[0]?.getD 0=48→cs.length=1)→Qs cs→Gw (jk cs)=cs:=by
 induction n with
 | zero=>intro cs h1 h2;exact absurd (List.length_eq_zero_iff.1 h1) h2
 | succ n ih=>
  intro cs h1 h2 h3 h4
  obtain ⟨ds,c,rfl⟩:∃ds c,cs=ds++[c]:=⟨cs.dropLast,cs.getLast h2,(List.dropLast_concat_getLast h2).symm⟩
  have hc:48≤c∧c≤57:=h4 c (by simp)
  rw [Pv]
  by_cases hd:ds=[]
  ·subst hd
   have:=qgn (c-48) (by omega)
   simp only [jk,List.foldl_nil,List.nil_append]
   rw [show (0:Int)*10+(c-48)=c-48 by omega,this]
   congr 1;omega
  ·have hdl:ds.length=n:=by simp at h1;exact h1
   have h0:(ds++[c])[0]?.getD 0=ds[0]?.getD 0:=by
    cases ds with
    | nil=>exact absurd rfl hd
    | cons a l=>rfl
   have hne:ds[0]?.getD 0≠48:=by
    intro e
    rw [←h0] at e
    have:=h3 e
    simp at this
    exact hd this
   have hds:Qs ds:=fun x hx=>h4 x (by simp [hx])
   have ihd:=ih ds hdl hd (fun e=>absurd e hne) hds
   have hpos:0<jk ds:=by
    have:=qcq ds hds
    rcases Int.lt_or_eq_of_le this with h5 | h5
    ·exact h5
    ·exfalso
     rw [←h5] at ihd
     rw [←ihd] at hne
     exact hne (by simp [Gw])
   rw [qji (jk ds) (c-48) hpos (by omega),ihd]
   congr 2;omega
theorem qfm {cs:List Int} (h:jh cs=true):Gw (qx cs)=cs:=by
 unfold qx
 rw [if_pos h]
 obtain ⟨h1,h2,h3,h4⟩:=of_decide_eq_true h
 exact qjj cs.length cs rfl h1 h2 h3
section
variable {need:List (Tmp × FD)} {d:Option Tmp} {ty:TypeId} {pos:String} {af:Array Edge} {g:Option (Nat × Bool)} {x:Operand}
def Zt (n:Nat):VP:=⟨fun v _ _=>∃ad c,v=.slice ad n c,fun _ _ _ _ _ _ h=>h⟩
theorem Ql {n:Nat} (h:Opd need x (.val (Zt n))):jo Tryz.prog ⟨d,.call { callee:=.builtin .len,args:=#[x],argTypes:=#[23] },3,pos,af,g⟩ need (.val (Lit (.int .i64 n))) false:=
 Rj h fun ρ w B v ⟨ad,c,e⟩ h1=>⟨_,qfn ad n c ρ w (h1.trans e),rfl⟩
end
end Go.Proofs.YtbcbmkeeoognpaaGreatDoor

namespace Go.Proofs.YtbcbmkeeoognpaaGreatDoor
open Go Go.RowKit
theorem Gz {A N:Int} {k:IntKind} (e:A=N) {v:Value} {w:World} {B:Bx} (h:(Lit (.int k A)).p v w B):(Lit (.int k N)).p v w B:=e ▸ h
end Go.Proofs.YtbcbmkeeoognpaaGreatDoor

namespace Go.Proofs.YtbcbmkeeoognpaaGreatDoor
open Go Go.RowKit
structure qnl (w:World) (B:Bx):Prop where
 sh:Ux w
 tab:Tab w
 no:¬B 2
section
variable {P:Program} {need:List (Tmp × FD)} {d:Option Tmp} {ty:TypeId} {pos:String} {af:Array Edge} {g:Option (Nat × Bool)}
end
end Go.Proofs.YtbcbmkeeoognpaaGreatDoor

namespace Go.Proofs.YtbcbmkeeoognpaaGreatDoor
open Go Go.RowKit
section
variable {need:List (Tmp × FD)} {d:Option Tmp} {ty:TypeId} {pos:String} {af:Array Edge} {g:Option (Nat × Bool)} {x:Operand}
set_option maxRecDepth 50000 in
theorem Ui {i:Int} (hi:0≤i∧i<4294967296) (h:Opd need x (.val (Lit (.int .u32 i)))):jo Tryz.prog ⟨d,.buildSlice 23 1 #[(0,x)],ty,pos,af,g⟩ need (.val (IsM i)) false:=by
 intro Q K a w B hB hF hK
 have e:a.eval x=.int .u32 i:=h a w B hF
 have hbel:Below w.heap.size w (w.alloc (.cells #[.int .u32 i] 44)):=(Below.refl _ _).alloc (Nat.le_refl _) _
 have hr:(execOp a.eval ⟨d,.buildSlice 23 1 #[(0,x)],ty,pos,af,g⟩).run Tryz.prog w=.ok (.value (.slice (some ⟨w.heap.size,0,none⟩) 1 1)) (w.alloc (.cells #[.int .u32 i] 44)):=by
  simp only [execOp,e,List.map_toArray,List.map_cons,List.map_nil]
  go_simp
 unfold Oper.wp
 rw [hr]
 refine hK _ _ B ⟨_,1,1,rfl,⟨by omega,[i],⟨rfl,fun j hj=>⟨_,rfl,?_⟩⟩,Dig.cons (by omega) (by omega) (Dig.nil _),by simp [val]⟩,by rw [Ed];omega⟩ (Bl.of_below B hbel) hbel (fun k hk=>Nat.lt_of_lt_of_le (hB k hk) hbel.size) (by simp)
 obtain rfl:j=0:=by omega
 rw [Ff,Af (heap_alloc_new w _)]
 rfl
theorem Gm {V:Int} (h:Opd need x (.val (IsC V))):jo Tryz.prog ⟨d,.call { callee:=.builtin .len,args:=#[x],argTypes:=#[23] },3,pos,af,g⟩ need (.val (Lit (.int .i64 ((dg 4294967296 V).length:Int)))) false:=
 Rj h fun ρ w B v ⟨ad,n,c,e,k,l,hV⟩ h1=>⟨_,qfn ad n c ρ w (h1.trans e),by rw [show n=(dg 4294967296 V).length from k.rds.len.symm];rfl⟩
end
theorem bytes_at (s:ByteArray) (n:Nat) (hn:n<s.size):s[n]?.map (fun b=>(b.toNat:Int))=some ((qf s)[n]?.getD 0):=by
 have h2:=Fv s n hn
 rw [h2]
 simp [hn]
theorem qfh {V:Int} (h0:0≤V) {k:Nat} (h:(dg 4294967296 V).length≤k):yz k V:=Vf h0 h
theorem Ey {cs:List Int} (h:jh cs=false):qx cs=0:=by unfold qx;rw [h];rfl
theorem qel:jh []=false:=decide_eq_false fun h=>h.1 rfl
theorem qcp {cs:List Int} (h:cs[0]?.getD 0=48) (h1:cs.length≠1):jh cs=false:=decide_eq_false fun hh=>h1 (hh.2.1 h)
theorem Pq {cs:List Int} {i:Nat} (hi:i<cs.length) (h:cs[i]?.getD 0<48∨57<cs[i]?.getD 0):jh cs=false:=decide_eq_false fun hh=>by
 have h2:Qs cs:=hh.2.2.1
 have:=h2.get hi
 omega
theorem S9 {cs:List Int} (hd:Qs cs) (i:Nat) (h:262144<((dg 4294967296 (jk (cs.take i))).length:Int)):jh cs=false:=decide_eq_false fun hh=>by
 have h2:=hh.2.2.2
 rcases Nat.lt_or_ge cs.length i with h3 | h3
 ·rw [List.take_of_length_le (by omega)] at h;omega
 ·have h4:=Xd cs hd i cs.length h3
  rw [Jv] at h4
  have h5:=qaa _ _ (Ez cs hd i) h4
  omega
theorem Xc {cs:List Int} (hd:Qs cs) (h0:cs≠[]) (h1:cs[0]?.getD 0=48→cs.length=1) (h:(dg 4294967296 (jk cs)).length≤262144):jh cs=true:=decide_eq_true ⟨h0,h1,hd,h⟩
theorem Sv {cs:List Int} (h:jh cs=true):qx cs=jk cs:=by unfold qx;rw [h];rfl
def Dgs (cs:List Int) (i:Int):Prop:=∀j:Nat,(j:Int)<i→48≤cs[j]?.getD 0∧cs[j]?.getD 0≤57
theorem qby (cs:List Int):Dgs cs 0:=fun j hj=>by omega
theorem qbx {cs:List Int} {i:Int} (h0:0≤i) (h:Dgs cs i) (h1:¬(cs[i.toNat]?.getD 0<48)) (h2:¬(57<cs[i.toNat]?.getD 0)):Dgs cs (i+1):=fun j hj=>by
 rcases Int.lt_or_le (j:Int) i with h3 | h3
 ·exact h j h3
 ·obtain rfl:j=i.toNat:=by omega
  omega
theorem qfe {cs:List Int} (h:Dgs cs cs.length):Qs cs:=fun c hc=>by
 obtain ⟨j,hj,e⟩:=List.getElem_of_mem hc
 have:=h j (by omega)
 rw [List.getElem?_eq_getElem hj,Option.getD_some,e] at this
 exact this
theorem Zi {cs:List Int} {i:Int} (h0:0≤i) (h:i<cs.length):jk (cs.take i.toNat)*10+(cs[i.toNat]?.getD 0-48)=jk (cs.take (i+1).toNat):=by
 rw [show (i+1).toNat=i.toNat+1 by omega,Nk cs _ (by omega)]
theorem Vo {A N:Int} (e:A=N) {v:Value} {w:World} {B:Bx} (h:(IsC A).p v w B):(IsC N).p v w B:=e ▸ h
theorem Dl {A N:Bool} (e:A=N) {v:Value} {w:World} {B:Bx} (h:(IsB A).p v w B):(IsB N).p v w B:=e ▸ h
theorem qc7 {cs:List Int} (h:0<cs.length) (h0:cs[0]?.getD 0=45):(jh (cs.drop 1)=true→qx (cs.drop 1)≠0→Bg cs=true∧jf cs = -qx (cs.drop 1))∧((jh (cs.drop 1)=false∨qx (cs.drop 1)=0)→Bg cs=false∧jf cs=0):=by
 have hno:jh cs=false:=Pq h (by omega)
 have hd1:(cs.drop 1)[0]?.getD 0=cs[1]?.getD 0:=by rw [List.getElem?_drop]
 constructor
 ·intro h1 h2
  have hl:=qfm h1
  have hp:=Be (cs.drop 1)
  have hh:=head_ne (qx (cs.drop 1)) (by omega)
  rw [hl,hd1] at hh
  have hlen:1<cs.length:=by
   have h3:=(of_decide_eq_true h1).1
   rcases Nat.lt_or_ge 1 cs.length with h4 | h4
   ·exact h4
   ·exact absurd (List.drop_eq_nil_of_le h4) h3
  have hdash:dash cs=true:=decide_eq_true ⟨hlen,h0,hh⟩
  unfold Bg jf
  rw [hdash,if_pos rfl,if_pos rfl]
  exact ⟨h1,rfl⟩
 ·intro h1
  unfold Bg jf
  cases hdash:dash cs with
  | false=>exact ⟨hno,Ey hno⟩
  | true=>
   rw [if_pos rfl,if_pos rfl]
   cases hk:jh (cs.drop 1) with
   | false=>exact ⟨rfl,by rw [Ey hk];rfl⟩
   | true=>
    exfalso
    have h2:qx (cs.drop 1)=0:=h1.resolve_left (by rw [hk];decide)
    have hl:=qfm hk
    rw [h2] at hl
    have h3:=(of_decide_eq_true hdash).2.2
    rw [←hd1,←hl] at h3
    exact h3 rfl
theorem qc8 {cs:List Int} (h:cs.length=0∨cs[0]?.getD 0≠45):Bg cs=jh cs∧jf cs=qx cs:=by
 have hd:dash cs=false:=decide_eq_false fun hh=>by
  rcases h with h | h
  ·omega
  ·exact h hh.2.1
 unfold Bg jf
 rw [hd]
 exact ⟨rfl,rfl⟩
theorem Fz {V:Int} (h:0≤V):((dg 4294967296 V).length:Int)=0↔V=0:=by
 constructor
 ·intro e
  have h2:dg 4294967296 V=[]:=List.length_eq_zero_iff.1 (by omega)
  have:=Bz 4294967296 (by omega) V h
  rw [h2] at this
  exact this.symm
 ·rintro rfl;rw [Ak];rfl
theorem Xn (b:Bool) (V:Int):b=false∨(b=true∧V=0)∨(b=true∧¬V=0):=by cases b <;> simp [Classical.em]
theorem Ve (s:ByteArray):qf (s.extract 1 s.size)=(qf s).drop 1:=Ny s
end Go.Proofs.YtbcbmkeeoognpaaGreatDoor
