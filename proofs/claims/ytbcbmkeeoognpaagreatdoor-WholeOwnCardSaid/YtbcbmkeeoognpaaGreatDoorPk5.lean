/- Contracts of functions, and plain facts, part 5. -/
import Derived.BigRegion
import Derived.Laws.Strings
import Derived.Test.YtbcbmkeeoognpaaGreatDoorPk1
import Derived.Test.YtbcbmkeeoognpaaGreatDoorPk2
import Derived.Test.YtbcbmkeeoognpaaGreatDoorPk3
import Derived.Test.YtbcbmkeeoognpaaGreatDoorPk4
set_option linter.unusedVariables false
set_option linter.unusedSimpArgs false
namespace Go.Proofs.YtbcbmkeeoognpaaGreatDoor
open Go.RowKit
set_option maxHeartbeats 1000000 in
theorem qek (ad bd:Option Addr) (na nb ca cb:Nat) (la lb:List Int) (w:World) (hna:na≤1099511627776) (hnb:nb≤1099511627776)
  (ha:Rds w .u32 ad na la) (hb:Rds w .u32 bd nb lb) (da:Dig 4294967296 la) (db:Dig 4294967296 lb) :
  Calls Tryz.prog 245 #[.slice ad na ca,.slice bd nb cb] w (qin (D5 (val 4294967296 la) (val 4294967296 lb)) w):=by
 have l1:=Gg ha.len da
 have l2:=Gg hb.len db
 have C1:=Lib.hid (D9 ad na ca la w (by omega) ha da)
 have C2:=Lib.hid (fun (w1:World) (h:Below w.heap.size w w1)=>D9 bd nb cb lb w1 (by omega) (hb.below h (Nat.le_refl _)) db)
 have vx:=Lib.hid (Bz 256 (by omega) (val 4294967296 la) (zt (by omega) da))
 have vz:=Lib.hid (Bz 256 (by omega) (val 4294967296 lb) (zt (by omega) db))
 have nx:=Lib.hid (J3 256 (by omega) (val 4294967296 la))
 have nz:=Lib.hid (J3 256 (by omega) (val 4294967296 lb))
 have dx:Dig 256 (dg 256 (val 4294967296 la)):=A8 256 (by omega) _
 have dz:Dig 256 (dg 256 (val 4294967296 lb)):=A8 256 (by omega) _
 clear ha hb da db
 generalize dg 256 (val 4294967296 la)=xs at *
 generalize dg 256 (val 4294967296 lb)=zs at *
 have eR:D5 (val 4294967296 la) (val 4294967296 lb)=D5 (val 256 xs) (val 256 zs):=by
  rw [show val 256 xs=val 4294967296 la from vx.out,show val 256 zs=val 4294967296 lb from vz.out]
 rw [eR]
 clear eR
 go_enter Tryz.func245,Tryz.ntmps245
 go_wp2_with fail
 refine (C1.out).mono ?_
 rintro e w1 ⟨xd,m,cx,rfl,ox,b1⟩
 have C2':=Lib.hid (C2.out w1 b1)
 clear C2 C1
 go_wp2_with fail
 refine (C2'.out).mono ?_
 rintro e w2 ⟨zd,n,cz,rfl,oz,b2⟩
 clear C2'
 have rx:=(ox.below b2 (Nat.le_refl _)).rds
 have rz:=oz.rds
 have BB:=qw b1 b2
 have HM:=Lib.hid rx.len
 have HN:=Lib.hid rz.len
 rw [HM.out] at l1
 rw [HN.out] at l2
 clear ox oz b1 b2
 by_cases hmn:m=n
 ·subst hmn
  go_wp2
  go_loopw [7] (fun i wr=>∃j:Nat,j≤m∧i=.int .i64 ((j:Int)-1)∧Hid (val 256 (xs.drop j)=val 256 (zs.drop j))∧Hid (∃q,wr=w2.drewN q)) (fun i _=>(intOf i+1).toNat)
  case atStart=>exact ⟨m,Nat.le_refl _,rfl,by rw [List.drop_of_length_le (by rw [HM.out];exact Nat.le_refl _),List.drop_of_length_le (by rw [HN.out];exact Nat.le_refl _)];rfl,⟨0,rfl⟩⟩
  case round=>
   obtain ⟨j,hj,rfl,hv,hq⟩:=hrel
   have rx':Rds wr .i64 xd m xs:=by obtain ⟨q,rfl⟩:=hq.out;exact rx.drewN q
   have rz':Rds wr .i64 zd m zs:=by obtain ⟨q,rfl⟩:=hq.out;exact rz.drewN q
   have BW:Below w.heap.size w wr:=by obtain ⟨q,rfl⟩:=hq.out;exact below_drewN BB q
   by_cases hj0:0<j
   ·obtain ⟨j,rfl⟩:∃i,j=i+1:=⟨j-1,by omega⟩
    obtain ⟨a,rfl,hxl⟩:=rx'.cell j (by omega)
    obtain ⟨b,rfl,hzl⟩:=rz'.cell j (by omega)
    have L1:=Lib.hid (fun h:xs[j]?.getD 0<zs[j]?.getD 0=>qfo (b:=256) (by omega) dx dz j (by rw [HM.out];omega) (by rw [HN.out];omega) hv.out h)
    have L2:=Lib.hid (fun h:zs[j]?.getD 0<xs[j]?.getD 0=>qfo (b:=256) (by omega) dz dx j (by rw [HN.out];omega) (by rw [HM.out];omega) hv.out.symm h)
    have E:=Lib.hid (fun h:xs[j]?.getD 0=zs[j]?.getD 0=>show val 256 (xs.drop j)=val 256 (zs.drop j) by
     rw [Ec _ xs _ (by rw [HM.out];omega),Ec _ zs _ (by rw [HN.out];omega),h,hv.out])
    clear hv rx rz rx' rz'
    have ej:(((j+1:Nat):Int)-1)=(j:Int):=by omega
    rw [ej]
    clear ej
    have hi0:(0:Int)≤(j:Int):=by omega
    have hi1:(j:Int)<m:=by omega
    generalize hgx:xs[j]?.getD 0=x at *
    generalize hgz:zs[j]?.getD 0=z at *
    clear hgx hgz
    by_cases hxz:x=z
    ·subst hxz
     have ht:(x != x)=false:=by simp
     go_wp2_with fail
     go_quiet (fail)
     go_wp2
     go_roundw
     case rel=>exact ⟨j,by omega,rfl,E.out trivial,by obtain ⟨q,rfl⟩:=hq.out;exact ⟨_,World.drewN_drewN ..⟩⟩
     case measure=>simp [intOf]
    ·have ht:(x != z)=true:=by simp;exact hxz
     have HR:=Lib.hid (show D5 (val 256 xs) (val 256 zs)=if x<z then -1 else 1 by
      split
      ·rename_i h;exact Fp (L1.out h)
      ·rename_i h;exact Gh (L2.out (by omega)))
     clear hxz
     go_wp2_with fail
     go_quiet (fail)
     have hxl2:(wr.drewN nq).cell? (a.add j)=some (.int .i64 x):=hxl
     have hzl2:(wr.drewN nq).cell? (b.add j)=some (.int .i64 z):=hzl
     have BW2:=below_drewN BW nq
     generalize wr.drewN nq=w3 at *
     by_cases hlt:x<z
     ·go_wp2_with fail
      go_quiet (fail)
      go_wp2
      go_ret
      rw [HR.out,if_pos hlt]
      exact ⟨rfl,below_drewN BW2 _⟩
     ·have hlt2:decide (x<z)=false:=decide_eq_false hlt
      go_wp2_with fail
      go_quiet (fail)
      go_wp2
      go_ret
      rw [HR.out,if_neg (of_decide_eq_false (by simpa using hlt2))]
      exact ⟨rfl,below_drewN BW2 _⟩
   ·obtain rfl:j=0:=by omega
    have HR:=Lib.hid (Ip (show val 256 xs=val 256 zs by have:=hv.out;simpa using this))
    go_wp2
    go_ret
    rw [HR.out]
    exact ⟨rfl,BW⟩
 ·have ht:((m:Int) != (n:Int))=true:=by simp;omega
  have HR:=Lib.hid (show D5 (val 256 xs) (val 256 zs)=if (m:Int)<n then -1 else 1 by
   split
   ·exact Fp (Ij (by omega) dx dz nz.out (by rw [HM.out,HN.out];omega))
   ·exact Gh (Ij (by omega) dz dx nx.out (by rw [HM.out,HN.out];omega)))
  clear hmn
  by_cases hlt:(m:Int)<n
  ·go_wp2
   go_ret
   rw [HR.out,if_pos (by omega)]
   exact ⟨rfl,BB⟩
  ·go_wp2
   go_ret
   rw [HR.out,if_neg (by omega)]
   exact ⟨rfl,BB⟩
end Go.Proofs.YtbcbmkeeoognpaaGreatDoor

namespace Go.Proofs.YtbcbmkeeoognpaaGreatDoor
open Go.RowKit
def qnb (w:World) (xs zs:List Int) (i:Nat) (wr:World):Prop:=
 ∃ys,Blk wr w.heap.size 3 .i64 ys∧ys.length=xs.length+zs.length+1∧Dig 256 ys∧Below w.heap.size w wr∧val 256 ys=val 256 (xs.take i)*val 256 zs
def qna (w:World) (xs zs:List Int) (i k:Nat) (c:Int) (wr:World):Prop:=
 ∃ys,Blk wr w.heap.size 3 .i64 ys∧ys.length=xs.length+zs.length+1∧Dig 256 ys∧Below w.heap.size w wr∧0≤c∧c<256 ∧
  val 256 ys+c*256 ^ (i+k)=val 256 (xs.take i)*val 256 zs+xs[i]?.getD 0*256 ^ i*val 256 (zs.take k)
def qm9 (w:World) (xs zs:List Int) (i p:Nat) (c:Int) (wr:World):Prop:=
 ∃ys,Blk wr w.heap.size 3 .i64 ys∧ys.length=xs.length+zs.length+1∧Dig 256 ys∧Below w.heap.size w wr∧0≤c∧c<256 ∧
  val 256 ys+c*256 ^ p=val 256 (xs.take (i+1))*val 256 zs
theorem qd4 {x z o c:Int} (hx0:0≤x) (hx1:x<256) (hz0:0≤z) (hz1:z<256) (ho0:0≤o) (ho1:o<256) (hc0:0≤c) (hc1:c<256) :
  0≤x*z∧x*z≤65025:=by
 have h1:=Int.mul_nonneg hx0 hz0
 have h2:x*z≤255*255:=Int.mul_le_mul (by omega) (by omega) hz0 (by omega)
 omega
set_option maxHeartbeats 1000000 in
theorem qen (ad bd:Option Addr) (na nb ca cb:Nat) (la lb:List Int) (w:World) (hl:na+nb≤1099511627776)
  (ha:Rds w .u32 ad na la) (hb:Rds w .u32 bd nb lb) (da:Dig 4294967296 la) (db:Dig 4294967296 lb) :
  Calls Tryz.prog 128 #[.slice ad na ca,.slice bd nb cb] w (Ns 44 .u32 (dg 4294967296 (val 4294967296 la*val 4294967296 lb)) w):=by
 have l1:=Gg ha.len da
 have l2:=Gg hb.len db
 have C1:=Lib.hid (D9 ad na ca la w (by omega) ha da)
 have C2:=Lib.hid (fun (w1:World) (h:Below w.heap.size w w1)=>D9 bd nb cb lb w1 (by omega) (hb.below h (Nat.le_refl _)) db)
 have vx:=Lib.hid (Bz 256 (by omega) (val 4294967296 la) (zt (by omega) da))
 have vz:=Lib.hid (Bz 256 (by omega) (val 4294967296 lb) (zt (by omega) db))
 have dx:Dig 256 (dg 256 (val 4294967296 la)):=A8 256 (by omega) _
 have dz:Dig 256 (dg 256 (val 4294967296 lb)):=A8 256 (by omega) _
 clear ha hb da db
 generalize dg 256 (val 4294967296 la)=xs at *
 generalize dg 256 (val 4294967296 lb)=zs at *
 go_enter Tryz.func128,Tryz.ntmps128
 go_wp2_with fail
 refine (C1.out).mono ?_
 rintro e w1 ⟨xd,m,cx,rfl,ox,b1⟩
 have C2':=Lib.hid (C2.out w1 b1)
 clear C2 C1
 go_wp2_with fail
 refine (C2'.out).mono ?_
 rintro e w2 ⟨zd,n,cz,rfl,oz,b2⟩
 clear C2'
 have rx:=(ox.below b2 (Nat.le_refl _)).rds
 have rz:=oz.rds
 have BB:=qw b1 b2
 have HM:=Lib.hid rx.len
 have HN:=Lib.hid rz.len
 rw [HM.out] at l1
 rw [HN.out] at l2
 clear ox oz b1 b2
 have hmk:=Du (P:=Tryz.prog) 188 3 .i64 8 Tryz.underlying188 Hr (by omega) (m+n+1) (by omega) ((m:Int)+n+1) (by omega)
 go_wp2_with fail
 clear hmk
 have hr0:qnb w2 xs zs 0 (w2.alloc (.cells (nums .i64 (List.replicate (m+n+1) 0)).toArray 3)):=
  ⟨_,Blk.made _ _ _ _ _ rfl,by rw [HM.out,HN.out];simp,Dig.replicate _ (by omega) _,(Below.refl _ _).alloc (Nat.le_refl _) _,by simp [val,C9]⟩
 go_loopw [8] (fun i wr=>∃k:Nat,k≤m∧i=.int .i64 k∧qnb w2 xs zs k wr) (fun i _=>m-(intOf i).toNat)
 case atStart=>exact ⟨0,Nat.zero_le _,rfl,hr0⟩
 case round=>
  obtain ⟨i,hi,rfl,hR⟩:=hrel
  clear hr0
  by_cases him:i<m
  ·have hI0:qna w2 xs zs i 0 0 wr:=by
    obtain ⟨ys,h1,h2,h3,h4,h5⟩:=hR
    exact ⟨ys,h1,h2,h3,h4,by omega,by omega,by simp [h5,val]⟩
   clear hR
   go_wp2
   go_loopw [10,9] (fun j cy wr=>∃k:Nat,∃c:Int,k≤n∧j=.int .i64 k∧cy=.int .i64 c∧qna w2 xs zs i k c wr) (fun j _ _=>n-(intOf j).toNat)
   case atStart=>exact ⟨0,0,Nat.zero_le _,rfl,rfl,hI0⟩
   case round=>
    clear hI0
    obtain ⟨k,c,hk,rfl,rfl,ys,h1,h2,h3,h4,hc0,hc1,h5⟩:=hrel
    have H2:=Lib.hid h2
    have H5:=Lib.hid h5
    have hlen:ys.length=m+n+1:=by rw [h2,HM.out,HN.out]
    have HL:=Lib.hid hlen
    clear h2 h5 hlen
    by_cases hkn:k<n
    ·obtain ⟨a,rfl,hxl⟩:=(rx.below h4 (Nat.le_refl _)).cell i him
     obtain ⟨b,rfl,hzl⟩:=(rz.below h4 (Nat.le_refl _)).cell k hkn
     have hy:=h1.cell (i+k) (by rw [HL.out];omega)
     have hf:=h1.free (i+k)
     have S:=V5 256 ys (i+k) (by rw [HL.out];omega) _ c (xs[i]?.getD 0*zs[k]?.getD 0) rfl
     have bx:=dx.get (by omega) i
     have bz:=dz.get (by omega) k
     have bo:=h3.get (by omega) (i+k)
     have bb:=qd4 (o:=ys[i+k]?.getD 0) bx.1 bx.2 bz.1 bz.2 bo.1 bo.2 hc0 hc1
     have N:=Za 256 _ _ zs ys _ i k (by rw [HN.out];exact hkn) c _ H5.out S
     have HS:=Lib.hid N
     clear S N H5
     generalize hgx:xs[i]?.getD 0=x at *
     have HX:=Lib.hid hgx
     clear hgx
     generalize zs[k]?.getD 0=z at *
     generalize hgy:ys[i+k]?.getD 0=y at *
     have HY:=Lib.hid hgy
     clear hgy
     generalize ht:x*z=t at *
     have HT:=Lib.hid ht
     clear ht
     obtain ⟨bt0,bt1⟩:=bb
     have W1:IntKind.i64.wrap ((i:Int)+k)=(i:Int)+k:=IntWalk.i64_in _ (by omega)
     have W2:IntKind.i64.wrap (x*z)=t:=by rw [HT.out];exact IntWalk.i64_in _ (by omega)
     have W3:IntKind.i64.wrap (y+t)=y+t:=IntWalk.i64_in _ (by omega)
     have W4:IntKind.i64.wrap (y+t+c)=c+(t+y):=by rw [show y+t+c=c+(t+y) by omega];exact IntWalk.i64_in _ (by omega)
     have W5:((i:Int)+k).toNat=i+k:=by omega
     have W6:(0:Int)≤(i:Int)+k:=by omega
     go_wp2_with fail
     go_quiet (fail)
     clear W1 W2 W3 W4 W5 W6
     go_wp2
     go_roundw
     case rel=>
      refine ⟨k+1,_,by omega,by go_num,rfl,_,(h1.drewN nq).set (i+k) _,by simp [H2.out],h3.set (by omega) (by omega) _,je (below_drewN h4 nq) _ _ _ (Nat.le_refl _),by omega,by omega,by rw [HX.out];exact HS.out⟩
     case measure=>simp [intOf];omega
    ·obtain rfl:k=n:=by omega
     have hC0:qm9 w2 xs zs i (i+k) c wr:=⟨ys,h1,H2.out,h3,h4,hc0,hc1,Tu 256 xs zs ys i k (by rw [HM.out];exact him) HN.out.symm c H5.out⟩
     clear h1 h3 h4 H5 H2 HL hc0 hc1
     go_wp2
     go_loopw [12,9] (fun j cy wr=>∃p:Nat,∃c:Int,p≤m+k+1∧j=.int .i64 p∧cy=.int .i64 c∧qm9 w2 xs zs i p c wr) (fun j _ _=>m+k+1-(intOf j).toNat)
     case atStart=>exact ⟨i+k,c,by omega,by go_num,rfl,hC0⟩
     case round=>
      clear hC0
      obtain ⟨p,c2,hp,rfl,rfl,es,g1,g2,g3,g4,gc0,gc1,g5⟩:=hrel
      have G2:=Lib.hid g2
      have hlen:es.length=m+k+1:=by rw [g2,HM.out,HN.out]
      have HL:=Lib.hid hlen
      by_cases hc:0<c2
      ·have hpl:=qbk 256 (by omega) xs zs es i p c2 dx dz g3 hc (by rw [HM.out];exact him) g5
       rw [HN.out] at hpl
       have hy:=g1.cell p (by rw [HL.out];omega)
       have hf:=g1.free p
       have bo:=g3.get (by omega) p
       have S:=V5 256 es p (by rw [HL.out];omega) (es[p]?.getD 0+c2) c2 0 (by omega)
       rw [Int.zero_mul,Int.add_zero,g5] at S
       have HS:=Lib.hid S
       clear S g2 g5 hlen
       generalize es[p]?.getD 0=y at *
       go_wp2
       go_roundw
       case rel=>
        exact ⟨p+1,_,by omega,by go_num,rfl,_,g1.set p _,by simp [G2.out],g3.set (by omega) (by omega) _,je g4 _ _ _ (Nat.le_refl _),by omega,by omega,HS.out⟩
       case measure=>simp [intOf];omega
      ·obtain rfl:c2=0:=by omega
       have G5:=Lib.hid (show val 256 es=val 256 (xs.take (i+1))*val 256 zs by rw [←g5];simp)
       clear g2 g5 hlen
       go_wp2
       go_roundw
       case rel=>exact ⟨i+1,by omega,by go_num,es,g1,G2.out,g3,g4,G5.out⟩
       case measure=>simp [intOf];omega
  ·obtain rfl:i=m:=by omega
   obtain ⟨ys,h1,h2,h3,h4,h5⟩:=hR
   have hlen:ys.length=i+n+1:=by rw [h2,HM.out,HN.out]
   have hv:val 256 ys=val 4294967296 la*val 4294967296 lb:=by rw [h5,←HM.out,List.take_length];exact congr (congrArg _ vx.out) vz.out
   have HV:=Lib.hid hv
   have hk:=I8 (some ⟨w2.heap.size,0,none⟩) (i+n+1) (i+n+1) ys wr (by omega) (Nat.le_refl _) (by have:=h1.rds;rwa [hlen] at this) h3
   clear h2 h5 hlen hv
   rw [HV.out] at hk
   go_wp2_with fail
   refine hk.mono ?_
   rintro e w' hr
   have hr':=hr.after (qw BB h4)
   obtain ⟨rd,nr,cr,rfl,or,br⟩:=hr'
   go_wp2_with fail
   go_ret
   exact ⟨_,_,_,rfl,or,br⟩
end Go.Proofs.YtbcbmkeeoognpaaGreatDoor

namespace Go.Proofs.YtbcbmkeeoognpaaGreatDoor
open Go.RowKit
theorem Td (ad:Option Addr) (n c:Nat) (la:List Int) (w:World) (hn:n≤1099511627776) (hr:Rds w .u32 ad n la) (da:Dig 4294967296 la) :
  Calls Tryz.prog 125 #[.slice ad n c] w (Ns 44 .u32 (dg 4294967296 (val 4294967296 la)) w):=by
 have l1:=Gg hr.len da
 have C1:=Lib.hid (D9 ad n c la w (by omega) hr da)
 have vx:=Lib.hid (Bz 256 (by omega) (val 4294967296 la) (zt (by omega) da))
 have dx:Dig 256 (dg 256 (val 4294967296 la)):=A8 256 (by omega) _
 clear hr
 generalize dg 256 (val 4294967296 la)=xs at *
 go_enter Tryz.func125,Tryz.ntmps125
 go_wp2_with fail
 refine (C1.out).mono ?_
 rintro e w1 ⟨xd,m,cx,rfl,ox,b1⟩
 have HM:=Lib.hid ox.len
 rw [HM.out] at l1
 have C2:=I8 xd m cx xs w1 (by omega) ox.le ox.rds dx
 rw [show val 256 xs=val 4294967296 la from vx.out] at C2
 have C2':=Lib.hid C2
 clear C1 C2
 go_wp2_with fail
 refine (C2'.out).mono ?_
 rintro e w2 hr
 obtain ⟨rd,nr,cr,rfl,or,br⟩:=hr.after b1
 go_wp2_with fail
 go_ret
 exact ⟨_,_,_,rfl,or,br⟩
end Go.Proofs.YtbcbmkeeoognpaaGreatDoor

namespace Go.Proofs.YtbcbmkeeoognpaaGreatDoor
open Go.RowKit
def qil (w:World) (X:Int) (k:Nat) (x:Int) (v:Value) (wr:World):Prop:=
 ∃ad c ds,v=.slice ad k c∧App w.heap.size wr 3 .i64 ad k c ds∧Dig 256 ds∧Below w.heap.size w wr∧w.heap.size≤wr.heap.size∧0≤x∧x<256 ^ (8-k)∧val 256 ds+256 ^ k*x=X
theorem qcr (X:Int) (w:World) (h0:0≤X) (h1:X<18446744073709551616) :
  Calls Tryz.prog 208 #[.int .u64 X] w (Ns 44 .u32 (dg 4294967296 X) w):=by
 have hr0:qil w X 0 X (.slice none 0 0) w:=⟨none,0,[],rfl,App.nil _ _ _ _,Dig.nil _,Below.refl _ _,Nat.le_refl _,h0,h1,by simp [val]⟩
 have HX0:=Lib.hid h0
 have HX1:=Lib.hid h1
 clear h0 h1
 go_enter Tryz.func208,Tryz.ntmps208
 go_wp2
 go_loopw [0,3] (fun x v wr=>∃k:Nat,∃y:Int,k≤8∧x=.int .u64 y∧qil w X k y v wr) (fun x _ _=>(intOf x).toNat)
 case atStart=>exact ⟨0,X,by omega,rfl,hr0⟩
 case round=>
  clear hr0
  obtain ⟨k,y,hk,rfl,ad,c,ds,rfl,g1,g2,g3,g4,g5,g6,g7⟩:=hrel
  have hlen:=g1.len
  have HE:=Lib.hid (U4 ds _ hlen y _ g5 g7)
  have gx:y<18446744073709551616:=Int.lt_of_lt_of_le g6 (Ew (b:=256) (by omega) (show 8-k≤8 by omega))
  have H6:=Lib.hid g6
  have H7:=Lib.hid g7
  clear hlen g7 g6
  by_cases hy:0<y
  ·have hk8:k<8:=by
    rcases Nat.lt_or_ge k 8 with h | h
    ·exact h
    ·have:=H6.out
     rw [show 8-k=0 by omega] at this
     simp at this
     omega
   go_wp2_with (at_builtin;refine Jf w.heap.size rfl (.tmp 6) (.tmp 10) 188 3 .i64 8 rfl Tryz.underlying188 Hr (by omega) ad k c ds (y % 256) rfl rfl g1 g3 g4 (by omega) ?_;intro ad3 c3 w3 k1 k2 k3)
   go_roundw
   case rel=>
    refine ⟨k+1,_,by omega,rfl,ad3,c3,ds++[y % 256],rfl,k1,g2.append (Dig.cons (by omega) (by omega) (Dig.nil _)),k2,k3,by omega,?_,HE.out⟩
    have:=H6.out
    rw [show 8-k=(8-(k+1))+1 by omega,Int.pow_succ] at this
    exact Int.ediv_lt_of_lt_mul (by omega) this
   case measure=>simp [intOf];omega
  ·obtain rfl:y=0:=by omega
   have HV:=Lib.hid (show val 256 ds=X by have:=H7.out;simpa using this)
   have hl:=I8 ad k c ds wr (by omega) g1.own.le g1.rds g2
   rw [HV.out] at hl
   go_wp2_with fail
   refine hl.mono ?_
   rintro e w' hr
   obtain ⟨rd,nr,cr,rfl,or,br⟩:=hr.after g3
   go_wp2_with fail
   go_ret
   exact ⟨_,_,_,rfl,or,br⟩
end Go.Proofs.YtbcbmkeeoognpaaGreatDoor

namespace Go.Proofs.YtbcbmkeeoognpaaGreatDoor
open Go Go.RowKit
section
variable {P:Program} {ops:Array Oper} {Q:Exit→Act→World→Prop} {md:Region.Mode}
def Tt (posts:List FD) (posts2:List (Option (Nat × FD))) (l:Array Bool) (j:Nat):FD:=match posts2.getD j none with
 | some (i,f)=>if l.getD i false then f else posts.getD j (.val VP.top)
 | none=>posts.getD j (.val VP.top)
def FD.notPtr (t:TypeId):FD→Bool
 | .ptr t' _ _ _=>decide (t'≠t)
 | _=>true
def Wq (posts2:List (Option (Nat × FD))) (i:Nat):Bool:=posts2.all fun x=>match x with
 | some (k,_)=>decide (k≠i)
 | none=>true
theorem qcf {posts2:List (Option (Nat × FD))} {i:Nat} (h:Wq posts2 i=true) (j:Nat) (f:FD):posts2.getD j none≠some (i,f):=by
 intro e
 rw [List.getD_eq_getElem?_getD] at e
 cases hm:posts2[j]? with
 | none=>rw [hm] at e;cases e
 | some y=>
  rw [hm] at e
  simp at e
  subst e
  have:=List.all_eq_true.1 h _ (List.mem_of_getElem? hm)
  simp at this
inductive Pe (P:Program) (ops:Array Oper) (look:Ref→Tmp × FD) (dsts:List (Option Tmp)) (posts:List FD) (posts2:List (Option (Nat × FD))) (als:List Bool) (refs:List (List Ref)):Nat→List Oper→Prop where
 | nil {i:Nat}:Pe P ops look dsts posts posts2 als refs i []
 | norm {i:Nat} {o:Oper} {os:List Oper} (hn:Wq posts2 i=true) (h:Eo P ops o ((refs.getD i []).map look) (posts.getD i (.val VP.top)) (als.getD i false)) (t:Pe P ops look dsts posts posts2 als refs (i+1) os):Pe P ops look dsts posts posts2 als refs i (o :: os)
 | stor {i:Nat} {o:Oper} {os:List Oper} (j:Nat) {p:Tmp} {x:Operand} {t:TypeId} {n:Nat} {D0 D:VP} {ty:TypeId} {pos:String} {af:Array Edge} (ho:o=⟨none,.store t (.tmp p) x,ty,pos,af,none⟩) (hj:dsts.getD j none=some p) (h1:posts.getD j (.val VP.top)=.box t n D0) (h2:posts2.getD j none=some (i,.box t n D))
   (hx:Opd ((refs.getD i []).map look) x (.val D)) (T:Zy P t n) (s0:Shape n D0) (s1:Shape n D) (hp:posts.all (FD.notPtr t)=true) (tl:Pe P ops look dsts posts posts2 als refs (i+1) os):Pe P ops look dsts posts posts2 als refs i (o :: os)
def qm8 (P:Program) (ops:Array Oper) (look:Ref→Tmp × FD) (dsts:List (Option Tmp)) (posts:List FD) (posts2:List (Option (Nat × FD))) (als:List Bool) (refs:List (List Ref)) (i:Nat) (o:Oper):Prop:=
 (Wq posts2 i=true∧Eo P ops o ((refs.getD i []).map look) (posts.getD i (.val VP.top)) (als.getD i false)) ∨
 ∃(j:Nat) (p:Tmp) (x:Operand) (t:TypeId) (n:Nat) (D0 D:VP) (ty:TypeId) (pos:String) (af:Array Edge),o=⟨none,.store t (.tmp p) x,ty,pos,af,none⟩∧dsts.getD j none=some p∧posts.getD j (.val VP.top)=.box t n D0∧posts2.getD j none=some (i,.box t n D) ∧
   Opd ((refs.getD i []).map look) x (.val D)∧Zy P t n∧Shape n D0∧Shape n D∧posts.all (FD.notPtr t)=true
theorem Pe.get {look:Ref→Tmp × FD} {dsts:List (Option Tmp)} {posts:List FD} {posts2:List (Option (Nat × FD))} {als:List Bool} {refs:List (List Ref)} {i:Nat} {os:List Oper} (h:Pe P ops look dsts posts posts2 als refs i os) :
  ∀k o,os[k]?=some o→qm8 P ops look dsts posts posts2 als refs (i+k) o:=by
 induction h with
 | nil=>intro k o hk;simp at hk
 | norm hn h t ih=>
  intro k o hk
  cases k with
  | zero=>simp at hk;subst hk;exact .inl ⟨hn,h⟩
  | succ k=>rw [show ∀i:Nat,i+(k+1)=i+1+k from fun i=>by omega];exact ih k o (by simpa using hk)
 | stor j ho hj h1 h2 hx T s0 s1 hp tl ih=>
  intro k o hk
  cases k with
  | zero=>simp at hk;subst hk;exact .inr ⟨j,_,_,_,_,_,_,_,_,_,ho,hj,h1,h2,hx,T,s0,s1,hp⟩
  | succ k=>rw [show ∀i:Nat,i+(k+1)=i+1+k from fun i=>by omega];exact ih k o (by simpa using hk)
structure qf1 (md:Region.Mode) (ops:Array Oper) (m:Nat) (dsts:List (Option Tmp)) (posts:List FD) (posts2:List (Option (Nat × FD))) (als:List Bool) (base:Act) (w0:World) (B0:Bx) (l:Array Bool) (a:Act) (w:World) (B:Bx):Prop where
 size:l.size=ops.size
 closed:∀j o,ops[j]?=some o→l.getD j false=true→∀e∈o.after,Region.binds md e=true→l.getD e.on false=true
 defers:a.defers=base.defers
 tsize:a.tmps.size=base.tmps.size
 rest:∀s,dsts.contains (some s)=false→a.tmps.getD s undef=base.tmps.getD s undef
 fact:∀i d,i<m→dsts.getD i none=some d→l.getD i false=true→(Tt posts posts2 l i).p (a.tmps.getD d undef) w B
 fresh:∀i d,i<m→als.getD i false=true→dsts.getD i none=some d→l.getD i false=true→∃b,a.tmps.getD d undef=.pointer (some ⟨b,0,none⟩)∧w0.heap.size≤b∧b<w.heap.size
 apart:∀i j d e,i<m→j<m→i≠j→als.getD i false=true→als.getD j false=true→dsts.getD i none=some d→dsts.getD j none=some e→l.getD i false=true→l.getD j false=true→a.tmps.getD d undef≠a.tmps.getD e undef
 bl:Bl w0 B0 w B
 below:Below w0.heap.size w0 w
 own:Hz B w
def Px (m:Nat) (dsts:List (Option Tmp)) (refs:List (List Ref)) (outs:List Ref) (als:List Bool) (posts:List FD) (posts2:List (Option (Nat × FD))) (md:Region.Mode) (ops:Array Oper):Bool:=
 decide (posts2.length=m) && (List.range m).all fun j=>match posts2.getD j none with
  | none=>match posts.getD j (.val VP.top) with
   | .box ..=>als.getD j false
   | _=>true
  | some (i,f)=>als.getD j false && decide (i<m) && decide (dsts.getD i none=none) && direct md ops i j && f.isBox && (posts.getD j (.val VP.top)).isBox && ((List.range m).all fun k=>decide (k=j) || match posts2.getD k none with
    | some (q,_)=>decide (q≠i)
    | none=>true) &&
    (List.range m).all fun k=>decide (k=i) || (refs.getD k []).all fun r=>match r with
     | .res q=>decide (q≠j)
     | _=>true
section
variable {m N:Nat} {dsts:List (Option Tmp)} {pres bxs:List Tmp} {refs:List (List Ref)} {outs:List Ref} {als:List Bool} {posts:List FD} {posts2:List (Option (Nat × FD))} {pre:List (Tmp × FD)} {base:Act} {w0:World} {B0:Bx}
theorem D8 (h:Px m dsts refs outs als posts posts2 md ops=true) (j:Nat) (hj:j<m) :
  (posts2.getD j none=none∧(∀t n D,posts.getD j (.val VP.top)=.box t n D→als.getD j false=true))∨∃i f,posts2.getD j none=some (i,f)∧als.getD j false=true∧i<m∧dsts.getD i none=none∧direct md ops i j=true∧(∀k,k<m→k≠i→∀r∈refs.getD k [],r≠.res j)∧f.isBox=true∧(posts.getD j (.val VP.top)).isBox=true∧∀k f2,k<m→k≠j→posts2.getD k none≠some (i,f2):=by
 simp only [Px,Bool.and_eq_true,List.all_eq_true,List.mem_range] at h
 have h2:=h.2 j hj
 cases hp:posts2.getD j none with
 | none=>
  rw [hp] at h2
  refine .inl ⟨rfl,fun t n D hf=>?_⟩
  rw [hf] at h2
  exact h2
 | some x=>
  obtain ⟨i,f⟩:=x
  rw [hp] at h2
  simp only [Bool.and_eq_true,decide_eq_true_eq,List.all_eq_true,List.mem_range,Bool.or_eq_true] at h2
  obtain ⟨⟨⟨⟨⟨⟨⟨g1,g2⟩,g3⟩,g4⟩,g6⟩,g7⟩,g8⟩,g5⟩:=h2
  refine .inr ⟨i,f,rfl,g1,g2,g3,g4,fun k hk hki r hr e=>?_,g6,g7,fun k f2 hk hkj e=>?_⟩
  ·subst e
   have:=(g5 k hk).resolve_left hki _ hr
   simp at this
  ·have:=(g8 k hk).resolve_left hkj
   rw [e] at this
   simp at this
theorem Jh {l:Array Bool} {j:Nat} (h:posts2.getD j none=none):Tt posts posts2 l j=posts.getD j (.val VP.top):=by unfold Tt;rw [h]
theorem Ie {l:Array Bool} {j i:Nat} {f:FD} (h:posts2.getD j none=some (i,f)):Tt posts posts2 l j=if l.getD i false then f else posts.getD j (.val VP.top):=by unfold Tt;rw [h]
theorem qf1.need (C:Lh true md ops m N dsts pres bxs refs outs als) (hpre:pre.map Prod.fst=pres) (hb:Fct base w0 B0 pre) {l:Array Bool} {a:Act} {w:World} {B:Bx} (h:qf1 md ops m dsts posts posts2 als base w0 B0 l a w B)
  (r:Ref) (hr:match r with
   | .pre k=>match pres[k]? with
    | some s=>dsts.contains (some s)=false
    | none=>False
   | .res j=>j<m∧(dsts.getD j none).isSome=true∧l.getD j false=true∧Tt posts posts2 l j=posts.getD j (.val VP.top)):(Ai dsts posts pre r).2.p (a.tmps.getD (Ai dsts posts pre r).1 undef) w B:=by
 cases r with
 | pre k=>
  simp only at hr
  cases hk:pres[k]? with
  | none=>rw [hk] at hr;exact hr.elim
  | some s=>
   rw [hk] at hr
   simp only at hr
   rw [←hpre,List.getElem?_map] at hk
   cases hp:pre[k]? with
   | none=>rw [hp] at hk;cases hk
   | some x=>
    rw [hp] at hk
    simp at hk
    have e:Ai dsts posts pre (.pre k)=x:=by simp [Ai,List.getD_eq_getElem?_getD,hp]
    rw [e]
    have h1:=hb.all x (List.mem_of_getElem? hp)
    have h2:=h.rest x.1 (by rw [hk];exact hr)
    rw [h2]
    exact x.2.st h.bl h1
 | res j=>
  obtain ⟨h1,h2,h3,h4⟩:=hr
  obtain ⟨d,hd⟩:=Option.isSome_iff_exists.1 h2
  have:=h.fact j d h1 hd h3
  rw [h4] at this
  have e:Ai dsts posts pre (.res j)=(d,posts.getD j (.val VP.top)):=by simp only [Ai,hd,Option.getD_some]
  rw [e]
  exact this
theorem qf1.step (C:Lh true md ops m N dsts pres bxs refs outs als) (S:Px m dsts refs outs als posts posts2 md ops=true) (hms:m=ops.size) (hpre:pre.map Prod.fst=pres) (hb:Fct base w0 B0 pre) (hN:base.tmps.size=N)
  (hall:∀i o,ops[i]?=some o→qm8 P ops (Ai dsts posts pre) dsts posts posts2 als refs i o)
  {l:Array Bool} {a:Act} {w:World} {B:Bx} (h:qf1 md ops m dsts posts posts2 als base w0 B0 l a w B) (i:Nat) (hi:i<m) (hun:l.getD i true=false)
  (hdeps:∀o,ops[i]?=some o→∀e∈o.after,Region.binds md e=true→l.getD e.on false=true) :
  wpOp P ops Q i (fun a' w'=>∃B',qf1 md ops m dsts posts posts2 als base w0 B0 (l.setIfInBounds i true) a' w' B') a w:=by
 have hisz:i<ops.size:=by omega
 have ho:ops[i]?=some ops[i]:=Array.getElem?_eq_getElem hisz
 generalize ops[i]=o at ho
 have hod:=C.dst i o hi ho
 have hdeps:=hdeps o ho
 have hlset:∀j b,j<ops.size→(l.setIfInBounds i true).getD j b=if i=j then true else l.getD j b:=fun j b hj=>by
  have hil:i<l.size:=by rw [h.size];exact hisz
  rw [Array.getD_eq_getD_getElem?,Array.getD_eq_getD_getElem?,Array.getElem?_setIfInBounds]
  by_cases e:i=j
  ·subst e;simp [hil]
  ·rw [if_neg e,if_neg e]
 have hmono:∀j,l.getD j false=true→(l.setIfInBounds i true).getD j false=true:=fun j hj=>getD_set_true hj
 have hunf:l.getD i false=false:=by
  have hil:i<l.size:=by rw [h.size];exact hisz
  rw [Array.getD_eq_getD_getElem?,Array.getElem?_eq_getElem hil] at hun ⊢
  simpa using hun
 have hclosed:∀j o2,ops[j]?=some o2→(l.setIfInBounds i true).getD j false=true→∀e∈o2.after,Region.binds md e=true→(l.setIfInBounds i true).getD e.on false=true:=by
  intro j o2 ho2 hlj e he hb2
  refine hmono _ ?_
  by_cases e1:i=j
  ·subst e1
   rw [ho] at ho2
   injection ho2 with ho2
   subst ho2
   exact hdeps e he hb2
  ·have hj2:j<ops.size:=(Array.getElem?_eq_some_iff.1 ho2).1
   rw [hlset j false hj2,if_neg e1] at hlj
   exact h.closed j o2 ho2 hlj e he hb2
 have needs:∀r∈refs.getD i [],(Ai dsts posts pre r).2.p (a.tmps.getD (Ai dsts posts pre r).1 undef) w B:=by
  intro r hr
  have hok:=C.ref i r hi hr
  refine h.need C hpre hb r ?_
  cases r with
  | pre k=>
   simp only [J5] at hok
   cases hs:pres[k]? with
   | none=>rw [hs] at hok;cases hok
   | some s=>rw [hs] at hok;simp only [hs];simpa using hok
  | res j=>
   simp only [J5,Bool.and_eq_true,decide_eq_true_eq] at hok
   refine ⟨hok.1.1,hok.1.2,Fe ho hdeps hok.2,?_⟩
   rcases D8 S j hok.1.1 with ⟨h1,_⟩ | ⟨k,f,h1,h2,h3,h4,h5,h6,_⟩
   ·exact Jh h1
   ·rw [Ie h1]
    by_cases e:i=k
    ·subst e;rw [hunf];rfl
    ·exact absurd rfl (h6 i hi e _ hr)
 -- what the facts of others become when the list grows
 have curSame:∀j,j<m→(∀f,posts2.getD j none≠some (i,f))→Tt posts posts2 (l.setIfInBounds i true) j=Tt posts posts2 l j:=by
  intro j hj hne
  rcases D8 S j hj with ⟨h1,_⟩ | ⟨k,f,h1,h2,h3,_⟩
  ·rw [Jh h1,Jh h1]
  ·rw [Ie h1,Ie h1,hlset k false (by omega),if_neg (show ¬i=k by rintro rfl;exact hne f h1)]
 rcases hall i o ho with ⟨hns,hstep⟩ | ⟨j,p,x,t,n,D0,D,ty,pos,af,rfl,hj,h1,h2,hx,T,s0,s1,hnp⟩
 ·refine hstep Q _ i a w B ho h.own (Fct.of_all fun x hx=>?_) ?_
  ·obtain ⟨r,hr,rfl⟩:=List.mem_map.1 hx
   exact needs r hr
  ·intro v w' B' hp hbl hbel hown hal
   have hds:∀d,o.dst=some d→d<a.tmps.size:=fun d hd=>by
    rw [h.tsize,hN];exact C.lt i d (by rw [←hod];exact hd)
   have hput:∀s,(a.put o.dst v).tmps.getD s undef=if o.dst=some s then v else a.tmps.getD s undef:=fun s=>Dc hds
   refine ⟨B',by rw [Array.size_setIfInBounds];exact h.size,hclosed,?_,?_,?_,?_,?_,?_,h.bl.trans hbl,Dw h.below h.below.size hbel,hown⟩
   ·rw [put_defers];exact h.defers
   ·rw [Dk];exact h.tsize
   ·intro s hs
    rw [hput,if_neg ?_]
    ·exact h.rest s hs
    ·intro e
     rw [hod] at e
     have:dsts.contains (some s)=true:=by
      rw [List.contains_iff_mem]
      rw [List.getD_eq_getElem?_getD] at e
      cases h2:dsts[i]? with
      | none=>rw [h2] at e;cases e
      | some y=>rw [h2] at e;simp at e;subst e;exact List.mem_of_getElem? h2
     rw [hs] at this;cases this
   ·intro j d hj hd hlj
    rw [hlset j false (by omega)] at hlj
    rw [hput]
    rw [curSame j hj (qcf hns j)]
    by_cases e:i=j
    ·subst e
     rw [if_pos (by rw [hod];exact hd)]
     rcases D8 S i hi with ⟨g1,_⟩ | ⟨q,f2,g1,g2,g3,g4,g5,_⟩
     ·rw [Jh g1];exact hp
     ·rw [Ie g1,if_neg]
      ·exact hp
      ·intro hq
       obtain ⟨oq,hoq⟩:∃oq,ops[q]?=some oq:=⟨ops[q],Array.getElem?_eq_getElem (by omega)⟩
       have:=Fe hoq (h.closed q oq hoq hq) g5
       rw [hunf] at this;cases this
    ·rw [if_neg e] at hlj
     rw [if_neg (fun e2=>e (jv C.dis i j d (by rw [←hod];exact e2) hd))]
     exact FD.st _ hbl (h.fact j d hj hd hlj)
   ·intro j d hj haj hd hlj
    rw [hlset j false (by omega)] at hlj
    rw [hput]
    by_cases e:i=j
    ·subst e
     rw [if_pos (by rw [hod];exact hd)]
     obtain ⟨b,h1,h2,h3⟩:=hal haj
     exact ⟨b,h1,Nat.le_trans h.below.size h2,h3⟩
    ·rw [if_neg e] at hlj
     rw [if_neg (fun e2=>e (jv C.dis i j d (by rw [←hod];exact e2) hd))]
     obtain ⟨b,h1,h2,h3⟩:=h.fresh j d hj haj hd hlj
     exact ⟨b,h1,h2,Nat.lt_of_lt_of_le h3 hbel.size⟩
   ·intro j k d e hj hk hjk aj ak hd he lj lk
    rw [hlset j false (by omega)] at lj
    rw [hlset k false (by omega)] at lk
    rw [hput,hput]
    by_cases e1:i=j
    ·subst e1
     rw [if_neg hjk] at lk
     rw [if_pos (by rw [hod];exact hd),if_neg (fun e2=>hjk (jv C.dis i k e (by rw [←hod];exact e2) he))]
     obtain ⟨b,h1,h2,h3⟩:=hal aj
     obtain ⟨c,g1,g2,g3⟩:=h.fresh k e hk ak he lk
     rw [h1,g1]
     intro e3
     injection e3 with e3;injection e3 with e3;injection e3 with e3
     omega
    ·rw [if_neg e1] at lj
     rw [if_neg (fun e2=>e1 (jv C.dis i j d (by rw [←hod];exact e2) hd))]
     by_cases e2:i=k
     ·subst e2
      rw [if_pos (by rw [hod];exact he)]
      obtain ⟨b,h1,h2,h3⟩:=hal ak
      obtain ⟨c,g1,g2,g3⟩:=h.fresh j d hj aj hd lj
      rw [h1,g1]
      intro e3
      injection e3 with e3;injection e3 with e3;injection e3 with e3
      omega
     ·rw [if_neg e2] at lk
      rw [if_neg (fun e3=>e2 (jv C.dis i k e (by rw [←hod];exact e3) he))]
      exact h.apart j k d e hj hk hjk aj ak hd he lj lk
 ·-- a store
  have hjm:j<m:=by
   rcases Nat.lt_or_ge j m with g | g
   ·exact g
   ·rw [List.getD_eq_getElem?_getD,List.getElem?_eq_none (by rw [C.ld];exact g)] at hj;cases hj
  obtain ⟨q,f2,g1,haj,g3,g4,g5,g6,g7,g8,g9⟩:=(D8 S j hjm).resolve_left (fun e=>by rw [e.1] at h2;cases h2)
  rw [h2] at g1
  injection g1 with g1
  injection g1 with g1 g1'
  subst g1 g1'
  have hlj:l.getD j false=true:=Fe ho hdeps g5
  have hcur:Tt posts posts2 l j=.box t n D0:=by rw [Ie h2,hunf,←h1];rfl
  have hf:=h.fact j p hjm hj hlj
  rw [hcur] at hf
  obtain ⟨b,cs0,e1,hB,hlt,hrow,hsz,hD0⟩:=hf
  have hxv:=hx a w B (Fct.of_all fun x hx=>by
   obtain ⟨r,hr,rfl⟩:=List.mem_map.1 hx
   exact needs r hr)
  obtain ⟨cs,e2,hn,hone,hpl⟩:=s1 _ _ _ hxv
  obtain ⟨cs1,e3,hn1,hone1,hpl1⟩:=s0 _ _ _ hD0
  injection e3 with e3
  subst e3
  have hrun:(storeVar t ⟨b,0,none⟩ (.agg cs)).run P w=.ok () (w.setRow b cs):=run_storeVar_row w b t t cs0 cs hrow (by rw [T.size,hn]) (by omega) hone
  have hmv:Mv w B (w.setRow b cs) B:=Mv.setRow hB hrow hpl1
  have hsame:∀k,k≠b→(w.setRow b cs).heap[k]?=w.heap[k]?:=fun k hk=>by simp [World.setRow,Array.getElem?_modify,Ne.symm hk]
  have hs:(w.setRow b cs).heap.size=w.heap.size:=by simp [World.setRow]
  have hD1:D.p (.agg cs) w B:=by rw [←e2];exact hxv
  obtain ⟨b',e1',hb0,hb1⟩:=h.fresh j p hjm haj hj hlj
  rw [e1] at e1'
  injection e1' with e1';injection e1' with e1';injection e1' with e1'
  subst e1'
  unfold wpOp
  simp only [ho]
  rw [if_pos (by simp [Region.wanted])]
  refine .inl ?_
  unfold Oper.wp
  have hr2:(execOp a.eval ⟨none,.store t (.tmp p) x,ty,pos,af,none⟩).run P w=.ok .skip (w.setRow b cs):=by
   have e4:a.eval (.tmp p)=.pointer (some ⟨b,0,none⟩):=e1
   simp only [execOp,e4,e2,Instr.storeAt,Instr.sureAddr,Sem.run_bind,Sem.run_pure,Result.andThen_ok,hrun]
  rw [hr2]
  show ∃B',qf1 md ops m dsts posts posts2 als base w0 B0 (l.setIfInBounds i true) a (w.setRow b cs) B'
  have hnone:dsts.getD i none=none:=g4
  refine ⟨B,by rw [Array.size_setIfInBounds];exact h.size,hclosed,h.defers,h.tsize,h.rest,fun k d hk hd hlk=>?_,fun k d hk hak hd hlk=>?_,fun k q d e hk hq hkq ak aq hd he lk lq=>?_,?_,?_,fun k hk=>by rw [hs];exact h.own k hk⟩
  ·have hik:i≠k:=by rintro rfl;rw [hnone] at hd;cases hd
   rw [hlset k false (by omega),if_neg hik] at hlk
   by_cases ekj:k=j
   ·subst ekj
    rw [hj] at hd
    injection hd with hd
    subst hd
    rw [Ie h2,hlset i false (by omega),if_pos rfl,if_pos rfl]
    exact ⟨b,cs,e1,hB,by rw [hs];exact hlt,setRow_heap w b cs0 cs t (0,0) hrow,hn,D.st _ _ _ _ _ hmv hD1⟩
   ·have hcs:Tt posts posts2 (l.setIfInBounds i true) k=Tt posts posts2 l k:=by
     exact curSame k hk fun f e=>g9 k f hk ekj e
    rw [hcs]
    have hfk:=h.fact k d hk hd hlk
    have hxk:∀f,Tt posts posts2 l k=f→f.p (a.tmps.getD d undef) w B→f.p (a.tmps.getD d undef) (w.setRow b cs) B:=by
     intro f hfeq hp2
     cases f with
     | val E=>exact E.st _ _ _ _ _ hmv hp2
     | box t2 n2 E=>
      have hak:als.getD k false=true:=by
       rcases D8 S k hk with ⟨q1,q2⟩ | ⟨z,f3,q1,q2,_⟩
       ·rw [Jh q1] at hfeq;exact q2 _ _ _ hfeq
       ·exact q2
      obtain ⟨c,cs2,k1,k2,k3,k4,k5,k6⟩:=hp2
      have hne:c≠b:=by
       rintro rfl
       exact h.apart k j d p hk hjm ekj hak haj hd hj hlk hlj (k1.trans e1.symm)
      exact ⟨c,cs2,k1,k2,by rw [hs];exact k3,(hsame c hne).trans k4,k5,E.st _ _ _ _ _ hmv k6⟩
     | ptr t2 n2 E off=>
      obtain ⟨c,cs2,k1,k2,k3,k4,k5,k6⟩:=hp2
      have hne:c≠b:=by
       rintro rfl
       rw [hrow] at k4
       injection k4 with k4
       injection k4 with _ k4
       have htt:FD.notPtr t (.ptr t2 n2 E off)=true:=by
        rcases D8 S k hk with ⟨q1,q2⟩ | ⟨z,f3,q1,q2,q3,q4,q5,q6⟩
        ·rw [Jh q1,List.getD_eq_getElem?_getD] at hfeq
         cases hm:posts[k]? with
         | none=>rw [hm] at hfeq;cases hfeq
         | some y=>
          rw [hm] at hfeq
          simp only [Option.getD_some] at hfeq
          subst hfeq
          exact List.all_eq_true.1 hnp _ (List.mem_of_getElem? hm)
        ·exfalso
         obtain ⟨q6,q7,q8,_⟩:=q6
         rw [Ie q1] at hfeq
         split at hfeq
         ·rw [hfeq] at q7;cases q7
         ·rw [hfeq] at q8;cases q8
       exact (of_decide_eq_true htt) k4.symm
      exact ⟨c,cs2,k1,k2,by rw [hs];exact k3,(hsame c hne).trans k4,k5,E.st _ _ _ _ _ hmv k6⟩
    exact hxk _ rfl hfk
  ·have hik:i≠k:=by rintro rfl;rw [hnone] at hd;cases hd
   rw [hlset k false (by omega),if_neg hik] at hlk
   rw [hs]
   exact h.fresh k d hk hak hd hlk
  ·have hik:i≠k:=by rintro rfl;rw [hnone] at hd;cases hd
   have hiq:i≠q:=by rintro rfl;rw [hnone] at he;cases he
   rw [hlset k false (by omega),if_neg hik] at lk
   rw [hlset q false (by omega),if_neg hiq] at lq
   exact h.apart k q d e hk hq hkq ak aq hd he lk lq
  ·refine ⟨by rw [hs];exact h.bl.size,fun k hk=>?_,h.bl.box⟩
   rw [hsame k (by omega)]
   exact h.bl.same k hk
  ·refine ⟨h.below.os,h.below.tape,h.below.output,by rw [hs];exact h.below.size,fun k hk=>?_⟩
   rw [hsame k (by omega)]
   exact h.below.block k hk
end
end
end Go.Proofs.YtbcbmkeeoognpaaGreatDoor

namespace Go.Proofs.YtbcbmkeeoognpaaGreatDoor
open Go Go.RowKit
theorem xh {n:Int} (h : -9223372036854775808≤n∧n<9223372036854775808):IntKind.i64.wrap n=n:=by
 rw [IntKind.wrap_i64];omega
theorem Gp {n:Int} (h:0≤n∧n<18446744073709551616):IntKind.u64.wrap n=n:=by
 rw [IntKind.wrap_u64];omega
theorem Oc {n:Int} (h:0≤n∧n<4294967296):IntKind.u32.wrap n=n:=by
 rw [IntKind.wrap_u32];omega
theorem qo0 {n:Int} (h:0≤n∧n<256):IntKind.u8.wrap n=n:=by
 rw [IntKind.wrap_u8];omega
theorem qoz {n:Int} (h : -128≤n∧n<128):IntKind.i8.wrap n=n:=by
 unfold IntKind.wrap
 rw [show IntKind.i8.bits=8 from rfl,show IntKind.i8.signed=true from rfl]
 simp only [Bool.true_and,show ((2:Int) ^ 8)=256 from rfl,show ((2:Int) ^ (8-1))=128 from rfl,decide_eq_true_eq]
 split <;> omega
section
variable {P:Program} {need:List (Tmp × FD)} {d:Option Tmp} {ty:TypeId} {pos:String} {af:Array Edge} {g:Option (Nat × Bool)} {x y:Operand} {k:IntKind} {i j r:Int} {t t':TypeId}
theorem Aq (h:Opd need x (.val (Lit (.int k i)))) (h':Opd need y (.val (Lit (.int k j)))) (hr:k.wrap (i+j)=r):jo P ⟨d,.binOp .add t x y t',ty,pos,af,g⟩ need (.val (Lit (.int k r))) false:=
 Ht h h' fun ρ w e1 e2=>by simp [execOp,e1,e2,eqGuard,binOp,Op.intArith,Sem.run_bind,hr]
theorem D6 (h:Opd need x (.val (Lit (.int k i)))) (h':Opd need y (.val (Lit (.int k j)))) (hr:k.wrap (i-j)=r):jo P ⟨d,.binOp .sub t x y t',ty,pos,af,g⟩ need (.val (Lit (.int k r))) false:=
 Ht h h' fun ρ w e1 e2=>by simp [execOp,e1,e2,eqGuard,binOp,Op.intArith,Sem.run_bind,hr]
theorem Nh (h:Opd need x (.val (Lit (.int k i)))) (h':Opd need y (.val (Lit (.int k j)))) (hr:k.wrap (i*j)=r):jo P ⟨d,.binOp .mul t x y t',ty,pos,af,g⟩ need (.val (Lit (.int k r))) false:=
 Ht h h' fun ρ w e1 e2=>by simp [execOp,e1,e2,eqGuard,binOp,Op.intArith,Sem.run_bind,hr]
theorem Hu (h:Opd need x (.val (Lit (.int k i)))) (h':Opd need y (.val (Lit (.int k j)))) (hj:j≠0) (hr:k.wrap (i.tdiv j)=r):jo P ⟨d,.binOp .quo t x y t',ty,pos,af,g⟩ need (.val (Lit (.int k r))) false:=
 Ht h h' fun ρ w e1 e2=>by simp [execOp,e1,e2,eqGuard,binOp,Op.intDiv,Sem.run_bind,hr,hj]
theorem Po (h:Opd need x (.val (Lit (.int k i)))) (h':Opd need y (.val (Lit (.int k j)))) (hj:j≠0) (hr:i.tmod j=r):jo P ⟨d,.binOp .rem t x y t',ty,pos,af,g⟩ need (.val (Lit (.int k r))) false:=
 Ht h h' fun ρ w e1 e2=>by simp [execOp,e1,e2,eqGuard,binOp,Op.intDiv,Sem.run_bind,hr,hj]
theorem qat (h:Opd need x (.val (Lit (.int k i)))) (hr:k.wrap (-i)=r):jo P ⟨d,.unOp .neg t x,ty,pos,af,g⟩ need (.val (Lit (.int k r))) false:=
 qaq h fun ρ w e1=>by
  rw [←Int.zero_sub] at hr
  simp only [execOp,e1,Op.unary,Op.intArith,hr,Sem.run_bind,Sem.run_pure,Result.andThen_ok]
theorem Ee {k':IntKind} {q:TypeDesc} (hs:P.underlying t=some q) (ht:P.underlying t'=some (.int k')) (h:Opd need x (.val (Lit (.int k i)))) (hr:k'.wrap i=r):jo P ⟨d,.convert t t' x,ty,pos,af,g⟩ need (.val (Lit (.int k' r))) false:=
 qaq h fun ρ w e1=>by
  simp [execOp,e1,convert,Sem.run_bind,run_underlying hs,run_underlying ht,Conv.intToInt,hr]
theorem Wy {k2:IntKind} (h:Opd need x (.val (Lit (.int k i)))) (h':Opd need y (.val (Lit (.int k2 j)))) (hj:0≤j) (hr:k.wrap (i*2 ^ (min j.toNat k.bits))=r):jo P ⟨d,.binOp .shl t x y t',ty,pos,af,g⟩ need (.val (Lit (.int k r))) false:=
 Ht h h' fun ρ w e1 e2=>by
  have hn:¬j<0:=by omega
  simp [execOp,e1,e2,eqGuard,binOp,Op.shift,Sem.run_bind,hr,hn]
theorem Cm {s:ByteArray} (hs:P.underlying t=some .string) (h:Opd need x (.val (Lit (.string s)))):jo P ⟨d,.call { callee:=.builtin .len,args:=#[x],argTypes:=#[t] },ty,pos,af,g⟩ need (.val (Lit (.int .i64 s.size))) false:=
 qaq h fun ρ w e1=>by
  have hl:(Builtin.len_ #[t] ty #[.string s]).run P w=.ok (.int .i64 s.size) w:=by
   simp [Builtin.len_,Sem.run_bind,run_underlying hs,goInt]
  simp [execOp,e1,resolve,invoke,builtin,Sem.run_bind,hl]
theorem Cj {s:ByteArray} {n:Nat} {c:Int} (hs:P.underlying t=some .string) (h:Opd need x (.val (Lit (.string s)))) (h':Opd need y (.val (Lit (.int k i)))) (hi:i=n) (hc:s[n]?.map (fun b=>(b.toNat:Int))=some c):jo P ⟨d,.index t x y,ty,pos,af,g⟩ need (.val (Lit (.int .u8 c))) false:=
 Ht h h' fun ρ w e1 e2=>by
  subst hi
  cases hb:s[n]? with
  | none=>rw [hb] at hc;cases hc
  | some b=>
   rw [hb] at hc
   simp only [Option.map_some,Option.some.injEq] at hc
   subst hc
   simp [execOp,e1,e2,Instr.index,asIntOf,Sem.run_bind,run_underlying hs,hb]
theorem Xa {s:ByteArray} {n:Nat} (hs:P.underlying t=some .string) (h:Opd need x (.val (Lit (.string s)))) (h':Opd need y (.val (Lit (.int k i)))) (hi:i=n) (hn:n≤s.size):jo P ⟨d,.slice t x (some y) none none,ty,pos,af,g⟩ need (.val (Lit (.string (s.extract n s.size)))) false:=
 Ht h h' fun ρ w e1 e2=>by
  subst hi
  have h2:(0:Int)≤(n:Int)∧(n:Int)≤(s.size:Int):=by omega
  simp [execOp,e1,e2,Instr.sliceAt,Instr.slice,Instr.sliceBounds,Instr.sliceBound,asIntOf,Sem.run_bind,run_underlying hs,h2]
  intro hh;omega
end
section
variable {P:Program} {Q:Exit→Act→World→Prop} {N:Nat} {w0:World} {B0:Bx} {bxs:List Tmp}
theorem Gq {α:Type} (F:α→List (Tmp × FD)) (I:α→Prop) (m:α→Nat) {c:Code} (p:α) {a:Act} {w:World} {B:Bx} (H:St N w0 B0 a w B (F p) bxs) (hI:I p)
  (round:∀(p:α) (a:Act) (w:World) (B:Bx),I p→St N w0 B0 a w B (F p) bxs→c.wp P (Exit.then (fun a w=>∃(q:α) (B:Bx),I q∧St N w0 B0 a w B (F q) bxs∧m q<m p) Q) a w):(Code.loop c).wp P Q a w:=by
 classical
 let J:Act→World→Prop:=fun a w=>∃(p:α) (B:Bx),I p∧St N w0 B0 a w B (F p) bxs
 let S:Act→World→Nat→Prop:=fun a w n=>∃(p:α) (B:Bx),I p∧St N w0 B0 a w B (F p) bxs∧m p=n
 have low:∀a w,J a w→∃n,S a w n∧∀k,k<n→¬S a w k:=fun a w ⟨p,B,h0,h⟩=>Vw (S a w) ⟨m p,p,B,h0,h,rfl⟩
 let μ:Act→World→Nat:=fun a w=>if h:J a w then Classical.choose (low a w h) else 0
 refine wp_loop J μ ⟨p,B,hI,H⟩ ?_
 intro a w hJ
 have hμ:μ a w=Classical.choose (low a w hJ):=dif_pos hJ
 obtain ⟨⟨p,B,h0,h1,h2⟩,_⟩:=Classical.choose_spec (low a w hJ)
 refine Code.wp_mono ?_ (round p a w B h0 h1)
 intro e a' w' he
 cases e with
 | normal=>
  obtain ⟨q,B',h5,h3,h4⟩:=he
  have hJ':J a' w':=⟨q,B',h5,h3⟩
  refine ⟨hJ',?_⟩
  have hμ':μ a' w'=Classical.choose (low a' w' hJ'):=dif_pos hJ'
  have hmin:=(Classical.choose_spec (low a' w' hJ')).2
  rw [hμ,hμ',←h2]
  refine Nat.lt_of_le_of_lt ?_ h4
  rcases Nat.lt_or_ge (m q) (Classical.choose (low a' w' hJ')) with h6 | h6
  ·exact absurd ⟨q,B',h5,h3,rfl⟩ (hmin _ h6)
  ·exact h6
 | _=>exact he
inductive O5 (P:Program) (l:List (Tmp × FD)):List ResultVar→List VP→Prop where
 | nil:O5 P l [] []
 | tmp {s:Tmp} {D D':VP} {rs:List ResultVar} {Ds:List VP} (k:Nat) (hk:l[k]?=some (s,.val D)) (hw:∀v w B,D.p v w B→D'.p v w B) (t:O5 P l rs Ds):O5 P l (.tmp s :: rs) (D' :: Ds)
 | cell {s:Tmp} {t:TypeId} {n:Nat} {D D':VP} {rs:List ResultVar} {Ds:List VP} (k:Nat) (T:Zy P t n) (hk:l[k]?=some (s,.box t n D)) (hw:∀v w B,D.p v w B→D'.p v w B) (tl:O5 P l rs Ds):O5 P l (.cell s t :: rs) (D' :: Ds)
def qk1 (ts:Array Value):ResultVar→Sem Value
 | .tmp t=>pure (ts.getD t undef)
 | .cell b t=>do loadVar t (←asAddr (ts.getD b undef))
theorem O5.run {a:Act} {w:World} {B:Bx} {l:List (Tmp × FD)} {rs:List ResultVar} {Ds:List VP} (h:O5 P l rs Ds) (hf:Fct a w B l):∃vs,(rs.mapM (qk1 a.tmps)).run P w=.ok vs w∧Ia vs Ds w B:=by
 induction h with
 | nil=>exact ⟨[],rfl,trivial⟩
 | @tmp s D D' rs Ds k hk hw t ih=>
  obtain ⟨vs,h1,h2⟩:=ih
  refine ⟨a.tmps.getD s undef :: vs,?_,hw _ _ _ (hf.get k hk),h2⟩
  simp only [List.mapM_cons,qk1,Sem.run_bind,Sem.run_pure,Result.andThen_ok,h1]
 | @cell s t n D D' rs Ds k T hk hw tl ih=>
  obtain ⟨vs,h1,h2⟩:=ih
  obtain ⟨b,cs,e1,e2,e3,e4,e5,e6⟩:=hf.get k hk
  obtain ⟨dd,hu,hd⟩:=T.row
  have:=run_loadVar_row (P:=P) w b t t cs (0,0) dd e4 hu (by cases dd <;> simp_all) (by rw [T.size,e5])
  refine ⟨.agg cs :: vs,?_,hw _ _ _ e6,h2⟩
  have ha:asAddr (a.tmps.getD s undef)=pure ⟨b,0,none⟩:=by rw [e1];rfl
  simp only [List.mapM_cons,qk1,Sem.run_bind,ha,Sem.run_pure,Result.andThen_ok,this,h1]
theorem Dj {a:Act} {w:World} {B:Bx} {l:List (Tmp × FD)} {fn:Func} {rs:List ResultVar} {Ds:List VP} (H:St N w0 B0 a w B l bxs) (hr:fn.results=rs.toArray) (hn:decide (rs.length=1)=false) (h:O5 P l rs Ds) :
  bodyPost P fn (fun e w'=>∃v,e=.returned v∧(Tup Ds).p v w' B0∧Below w0.heap.size w0 w') .ret a w:=by
 obtain ⟨vs,h1,h2⟩:=h.run H.fc
 have hl:rs.length=vs.length:=by
  clear h1 hn hr
  have:∀ {rs:List ResultVar} {Ds:List VP},O5 P l rs Ds→rs.length=Ds.length:=by
   intro rs Ds h
   induction h with
   | nil=>rfl
   | tmp _ _ _ _ ih=>simp [ih]
   | cell _ _ _ _ _ ih=>simp [ih]
  rw [this h]
  clear h this
  induction vs generalizing Ds with
  | nil=>cases Ds with
   | nil=>rfl
   | cons D Ds=>exact h2.elim
  | cons v vs ih=>cases Ds with
   | nil=>exact h2.elim
   | cons D Ds=>simp [ih h2.2]
 refine ⟨H.df,.tuple vs.toArray,?_,_,rfl,⟨vs,rfl,Ia.st (Mv.shrink H.own0) h2⟩,H.bel⟩
 have hu:results fn a.tmps=(do
   let vs ←rs.toArray.mapM (qk1 a.tmps)
   pure (if h:vs.size=1 then vs[0] else .tuple vs)):=by
  unfold results
  rw [hr]
  rfl
 rw [hu,Sem.run_bind]
 have hm:(rs.toArray.mapM (qk1 a.tmps)).run P w=.ok vs.toArray w:=by
  rw [List.mapM_toArray]
  simp [h1]
 rw [hm,Result.andThen_ok,Sem.run_pure]
 rw [dif_neg (by simpa [←hl] using of_decide_eq_false hn)]
theorem St.set1 {a:Act} {w:World} {B:Bx} {l l':List (Tmp × FD)} (H:St N w0 B0 a w B l bxs) (k:Nat) {s:Tmp} {D D':VP} (hk:l[k]?=some (s,.val D)) (hw:∀v w B,D.p v w B→D'.p v w B) (hl:l.set k (s,.val D')=l'):St N w0 B0 a w B l' bxs:=by
 refine ⟨H.df,H.sz,Fct.of_all fun x hx=>?_,H.bx,H.ap,H.bel,H.own,H.own0⟩
 rw [←hl] at hx
 rcases List.mem_or_eq_of_mem_set hx with h | h
 ·exact H.fc.all x h
 ·subst h;exact hw _ _ _ (H.fc.get k hk)
theorem St.split {a:Act} {w:World} {B:Bx} {l:List (Tmp × FD)} (H:St N w0 B0 a w B l bxs) (k:Nat) {s:Tmp} {T F:Prop} (hk:l[k]?=some (s,.val (qic T F))):∃r:Bool,(r=true→T)∧(r=false→F)∧St N w0 B0 a w B (l.set k (s,.val (IsB r))) bxs:=by
 obtain ⟨r,e,h1,h2⟩:=H.fc.get k hk
 refine ⟨r,h1,h2,H.df,H.sz,Fct.of_all fun x hx=>?_,H.bx,H.ap,H.bel,H.own,H.own0⟩
 rcases List.mem_or_eq_of_mem_set hx with h | h
 ·exact H.fc.all x h
 ·subst h;exact e
end
end Go.Proofs.YtbcbmkeeoognpaaGreatDoor

namespace Go.Proofs.YtbcbmkeeoognpaaGreatDoor
open Go.RowKit
def qbu (V:Int):List Int:=if V=0 then [0] else dg 10 V
theorem Qz (V:Int):Gw V=(asc (qbu V)).reverse:=by
 unfold Gw qbu
 split <;> rfl
theorem qje (V:Int) (hV:0≤V):val 10 (qbu V)=V:=by
 unfold qbu
 split
 ·rename_i h;rw [h];simp [val]
 ·exact Bz 10 (by omega) V hV
theorem qjd (V:Int) (hV:0≤V):0<(qbu V).length:=by
 unfold qbu
 split
 ·simp
 ·rename_i h
  rw [List.length_pos_iff]
  exact fun e=>h ((Jp 10 V (by omega) hV).1 e)
end Go.Proofs.YtbcbmkeeoognpaaGreatDoor

namespace Go.Proofs.YtbcbmkeeoognpaaGreatDoor
def Ws (F z:Nat):Nat:=if z<2 ^ F then z else (2 ^ F+z % 2 ^ F)*2 ^ (z / 2 ^ F-1)
def Zv (F I U X r:Nat):Prop:=
 ∃low,low≤I∧Ws F low*U≤X∧(low<I→X<Ws F (low+1)*U) ∧
  r=if low=I then I else if (Ws F low+Ws F (low+1))*U<2*X∨(2*X=(Ws F low+Ws F (low+1))*U∧low % 2=1) then low+1 else low
end Go.Proofs.YtbcbmkeeoognpaaGreatDoor

namespace Go.Proofs.YtbcbmkeeoognpaaGreatDoor
open Go.RowKit
end Go.Proofs.YtbcbmkeeoognpaaGreatDoor
