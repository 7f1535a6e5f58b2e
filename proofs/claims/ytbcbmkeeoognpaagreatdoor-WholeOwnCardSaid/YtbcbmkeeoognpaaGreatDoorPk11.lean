/- Contracts of functions, and plain facts, part 11. -/
import Derived.Deep.LoopGhost
import Derived.Test.YtbcbmkeeoognpaaGreatDoorProg
import Derived.Deep.QuietTactic
import Derived.BigQuiet
import Derived.Deep.AppendLies
import Derived.Deep.RegionLaw
import Derived.Lib.IndexBytes
import Derived.BigRegion
import Derived.Deep.DeepCutAuto
import Derived.Deep.CutBlock
import Derived.Laws.BitsAllLaws
import Derived.Lib.TrailingZeros
import Derived.Laws.Bits64b
import Derived.Test.YtbcbmkeeoognpaaGreatDoorPk1
import Derived.Test.YtbcbmkeeoognpaaGreatDoorPk2
import Derived.Test.YtbcbmkeeoognpaaGreatDoorPk3
import Derived.Test.YtbcbmkeeoognpaaGreatDoorPk4
import Derived.Test.YtbcbmkeeoognpaaGreatDoorPk5
import Derived.Test.YtbcbmkeeoognpaaGreatDoorPk6
import Derived.Test.YtbcbmkeeoognpaaGreatDoorPk7
import Derived.Test.YtbcbmkeeoognpaaGreatDoorPk8
import Derived.Test.YtbcbmkeeoognpaaGreatDoorPk9
import Derived.Test.YtbcbmkeeoognpaaGreatDoorPk10
set_option linter.unusedVariables false
set_option linter.unusedSimpArgs false
namespace Go.Proofs.YtbcbmkeeoognpaaGreatDoor
open Go.RowKit
theorem Ku:(Tryz.prog.info? 5).map (fun i=>(i.zero,i.size,i.bytes))=some (some (.int .u8 0),1,1):=by kernel_rfl
def Zx (s:ByteArray) (w:World) (e:Ending) (w':World):Prop:=e=.returned (.string s)∧Below w.heap.size w w'
structure O4 (w:World) (rb:Nat) (NA:Nat) (wr:World) (bd:Option Addr) (bn bc:Nat) (xs:List Int) (x:Option Addr) (n c:Nat) (R:Int):Prop where
 cell:wr.heap[rb]?=some (.cells #[.slice x n c] 23 (0,0))
 rds:Rds wr .u32 x n (dg 4294967296 R)
 app:App w.heap.size wr 5 .u8 bd bn bc (asc xs)
 dig:Dig 10 xs
 bel:Below w.heap.size w wr
 size:w.heap.size≤wr.heap.size
 rbw:w.heap.size≤rb
 sep1:xg bd≠some rb
 sep2:0<n→∀b,xg x=some b→xg bd≠some b
 nle:n≤NA
 pos:0≤R
theorem O4.take {w:World} {rb NA:Nat} {wr:World} {bd:Option Addr} {bn bc:Nat} {xs:List Int} {x:Option Addr} {n c:Nat} {R:Int} (h:O4 w rb NA wr bd bn bc xs x n c R) {w':World}
  {ad:Option Addr} {m d:Nat} (t1:w'.heap[rb]?=some (.cells #[.slice ad m d] 23 (0,0))) (t2:Own wr.heap.size w' 44 .u32 ad m d (dg 4294967296 (R / 1000000000)))
  (t3:∀b,xg ad=some b→0<d→wr.heap.size≤b) (t4:∀i,i<wr.heap.size→i≠rb→w'.heap[i]?=wr.heap[i]?) (t5:wr.heap.size≤w'.heap.size) (t6:w'.os=wr.os∧w'.tape=wr.tape∧w'.output=wr.output) :
  O4 w rb NA w' bd bn bc xs ad m d (R / 1000000000):=by
 have hR:=h.pos
 refine ⟨t1,t2.rds,h.app.kept fun b hb=>t4 b (h.app.lt b hb).2 fun e=>h.sep1 (by rw [←e];exact hb),h.dig,h.bel.trans ⟨t6.1,t6.2.1,t6.2.2,t5,fun i hi=>t4 i (by have:=h.size;omega) (by have:=h.rbw;omega)⟩,by have:=h.size;omega,h.rbw,h.sep1,?_,?_,by omega⟩
 ·intro hm b hb e
  have:=t3 b hb (by have:=t2.le;omega)
  have:=(h.app.lt b e).2
  omega
 ·have h1:=h.nle
  have h2:=h.rds.len
  have h3:=Lt 4294967296 (by omega) n R hR (by omega)
  rw [←t2.len]
  exact Nat.le_trans (Ag 4294967296 (by omega) n _ (by omega)) h1
theorem O4.more {w:World} {rb NA:Nat} {wr:World} {bd:Option Addr} {bn bc:Nat} {xs:List Int} {x:Option Addr} {n c:Nat} {R:Int} (h:O4 w rb NA wr bd bn bc xs x n c R) {w':World} {v:Int}
  {ad:Option Addr} {d:Nat} (hv:0≤v∧v<10) (t1:App w.heap.size w' 5 .u8 ad (bn+1) d (asc xs++[48+v])) (t2:Below w.heap.size w w') (t3:wr.heap.size≤w'.heap.size)
  (t4:∀i,i<wr.heap.size→xg bd≠some i→w'.heap[i]?=wr.heap[i]?) (t5:∀i,xg ad=some i→xg bd=some i∨wr.heap.size≤i):O4 w rb NA w' ad (bn+1) d (xs++[v]) x n c R:=by
 have hlt:=lt_of_block h.cell
 refine ⟨by rw [t4 rb hlt h.sep1];exact h.cell,h.rds.kept fun hn b hb=>?_,?_,h.dig.append (Dig.cons hv.1 hv.2 (Dig.nil _)),t2,by have:=h.size;omega,h.rbw,fun e=>?_,fun hn b hb e=>?_,h.nle,h.pos⟩
 ·obtain ⟨a,ea,ha⟩:=h.rds.lt hn
  have hab:a.block=b:=by rw [ea] at hb;exact Option.some.inj hb
  rw [hab] at ha
  exact t4 _ ha (h.sep2 hn _ hb)
 ·rw [qde,show asc [v]=[48+v] by simp [asc,Int.add_comm]]
  exact t1
 ·rcases t5 rb e with h1 | h1
  ·exact h.sep1 h1
  ·omega
 ·obtain ⟨a,ea,ha⟩:=h.rds.lt hn
  have hab:a.block=b:=by rw [ea] at hb;exact Option.some.inj hb
  rw [hab] at ha
  rcases t5 _ e with h1 | h1
  ·exact h.sep2 hn _ hb h1
  ·omega
set_option maxHeartbeats 1000000 in
set_option maxRecDepth 20000 in
theorem qab (ad:Option Addr) (na ca:Nat) (la:List Int) (w:World) (hna:na≤4398046511104) (hac:na≤ca) (ha:Rds w .u32 ad na la) (da:Dig 4294967296 la) :
  Calls Tryz.prog 30 #[.slice ad na ca] w (Zx (yg (Gw (val 4294967296 la))) w):=by
 have N1:=Lib.hid (F6 ad na ca la w (by omega) hac ha da)
 have V0:=zt (show (0:Int)<4294967296 by omega) da
 have V1:=Lib.hid (Au (show (0:Int)<4294967296 by omega) da)
 rw [ha.len] at V1
 clear ha da
 generalize val 4294967296 la=V at *
 obtain ⟨S,HS⟩:∃S,Hid (S=yg (Gw V)):=⟨_,rfl⟩
 rw [←HS.out]
 have hmf:∀(fn:Fn) (first cap:Array Value) (w:World),(Instr.makeFunc fn first cap).run Tryz.prog w=.ok (.func fn first cap) w:=fun _ _ _ _=>rfl
 go_enter Tryz.func30,Tryz.ntmps30
 go_wp2_with fail
 with_reducible refine (N1.out).mono ?_
 rintro e w1 ⟨x0,n0,c0,rfl,o1,b1⟩
 clear N1
 have hn0:n0≤na:=by rw [←o1.len];exact Ag 4294967296 (by omega) na V V1.out
 have bel:=(Below.refl w1.heap.size w1).alloc (Nat.le_refl _) (.cells #[.slice x0 n0 c0] 23)
 have hI:O4 w w1.heap.size na (w1.alloc (.cells #[.slice x0 n0 c0] 23)) none 0 0 [] x0 n0 c0 V:=
  ⟨heap_alloc_new _ _,o1.rds.below bel (Nat.le_refl _),App.nil _ _ _ _,Dig.nil _,b1.alloc b1.size _,by have:=b1.size;simp;omega,b1.size,by simp [xg],fun _ b _=>by simp [xg],hn0,V0⟩
 have HI:=Lib.hid hI
 clear hI bel
 go_wp2_with fail
 clear hmf
 generalize w1.heap.size=rb at *
 generalize w1.alloc (.cells #[.slice x0 n0 c0] 23)=w2 at *
 go_loopg [5] V.toNat (fun g s5 wr=>∃(bd:Option Addr) (bn bc:Nat) (xs:List Int) (x:Option Addr) (n c:Nat) (R:Int),s5=.slice bd bn bc∧bn≤32*na∧O4 w rb na wr bd bn bc xs x n c R ∧
  Hid (val 10 xs+10 ^ xs.length*R=V)∧(R=0→Hid (norm xs=xs))∧Hid (g=R.toNat))
 case atStart=>exact ⟨_,_,_,[],_,_,_,V,rfl,by omega,HI.out,Lib.hid (by simp [val]),fun _=>Lib.hid rfl,Lib.hid rfl⟩
 case round=>
  clear HI
  obtain ⟨bd,bn,bc,xs,x,n,c,R,rfl,hbn,hst,hv,hno,hme⟩:=hrel
  have hcell:=cell_of_one hst.cell
  have hnle:=hst.nle
  have hR0:=hst.pos
  have hln:=Lib.hid hst.rds.len
  by_cases hn:n=0
  ·have hR:R=0:=by
    have h1:=hln.out
    rw [hn,List.length_eq_zero_iff,Jp 4294967296 R (by omega) hR0] at h1
    exact h1
   have hRz:=hR
   subst hn hR
   have HX:=Lib.hid (ql2 xs V hst.dig (hno rfl).out hv.out)
   have lx:bn=xs.length:=by have:=hst.app.len;rw [Ep] at this;exact this.symm
   clear hno hv hme hRz
   by_cases hb0:bn=0
   ·have hV0:V=0:=by
     have h1:=HX.out
     have h2:xs=[]:=List.length_eq_zero_iff.1 (by omega)
     rw [h2] at h1
     exact (Jp 10 V (by omega) V0).1 h1.symm
    have hS:Hid (S={ data:=#[48] }):=Lib.hid (by rw [HS.out,hV0];rfl)
    subst hb0
    have hbel:=hst.bel
    clear HS hV0 HX lx
    go_wp2_with fail
    go_ret
    rw [hS.out]
    exact ⟨rfl,hbel⟩
   ·have hbp:0<bn:=by omega
    have hV0:V≠0:=by
     intro hV0
     have h1:=HX.out
     rw [hV0,Ak] at h1
     rw [h1] at lx
     exact hb0 lx
    have hS:Hid (S=yg (asc xs).reverse):=Lib.hid (by rw [HS.out];unfold Gw;rw [if_neg hV0,←HX.out])
    obtain ⟨g,rfl,hg,hrow⟩:=hst.app.own.rowAt hbp
    have hbc:=hst.app.own.le
    have HR:=Lib.hid (Zj g bn bc 5 (asc xs) wr (by omega) hbc hrow (by rw [Ep];exact lx.symm))
    have hbel:=hst.bel
    have HD:=Lib.hid (qlw hst.dig).reverse
    have HL:=Lib.hid (show (asc xs).reverse.length=bn by rw [List.length_reverse,Ep];exact lx.symm)
    clear HS hV0 HX hb0 lx hst hln
    go_wp2_with fail
    with_reducible refine (HR.out).mono ?_
    rintro e w4 ⟨rfl,r1,o1⟩
    have rd:=r1.rds
    rw [HL.out] at rd
    have hcv:=Gv (P:=Tryz.prog) 122 9 5 Tryz.underlying122 Tryz.underlying5 Tryz.underlying9 w4 _ bn bc _ rd HD.out
    have hb4:=Only.below hbel hg o1
    clear HR r1 o1 rd hrow
    go_wp2_with fail
    go_ret
    rw [hS.out]
    exact ⟨rfl,hb4⟩
  ·have hRp:0<R:=by
    rcases Int.lt_or_eq_of_le hR0 with h1 | h1
    ·exact h1
    ·exfalso
     have h2:=hln.out
     rw [←h1,Ak] at h2
     exact hn h2.symm
   have hnp:0<n:=by omega
   have HT:=Lib.hid (qeu rb x n c R wr (by omega) hR0 hst.cell hst.rds)
   clear hn
   go_wp2_with fail
   with_reducible refine (HT.out).mono ?_
   rintro e w3 ⟨yd,m,d,rfl,t1,t2,t3,t4,t5,t6,t7,t8⟩
   have hst3:=hst.take t1 t2 t3 t4 t5 ⟨t6,t7,t8⟩
   have hln3:=Lib.hid t2.len
   have hmd:=t2.le
   have hr0:=Int.emod_nonneg R (show (1000000000:Int)≠0 by omega)
   have hr1:=Int.emod_lt_of_pos R (show (0:Int)<1000000000 by omega)
   have hq0:0≤R / 1000000000:=Int.ediv_nonneg hR0 (by omega)
   have HQ:=Lib.hid (show (R / 1000000000).toNat<R.toNat by omega)
   have hv3:val 10 xs+10 ^ xs.length*(R % 1000000000+10 ^ (9-0)*(R / 1000000000))=V:=by
    rw [←hv.out]
    congr 2
    rw [show (10:Int) ^ (9-0)=1000000000 from by decide]
    omega
   have hno3:R % 1000000000=0→R / 1000000000=0→Hid (norm xs=xs):=fun h1 h2=>by omega
   have HV3:=Lib.hid hv3
   have hst0:=Lib.hid hst3
   clear hst t1 t2 t3 t4 t5 t6 t7 t8 hv hno HT hcell hln hv3 hst3
   generalize R / 1000000000=Q at *
   generalize R % 1000000000=r at *
   go_wp2_with fail
   go_loopg [5,6,7] 9 (fun g s5 s6 s7 wr=>∃(bd:Option Addr) (bn bc:Nat) (xs:List Int) (n:Int) (k:Nat),s5=.slice bd bn bc∧s6=.int .u32 n∧s7=.int .i64 k∧k≤9∧0≤n∧n<1000000000∧Hid (n<10 ^ (9-k))∧bn≤32*na∧O4 w rb na wr bd bn bc xs yd m d Q ∧
    Hid (val 10 xs+10 ^ xs.length*(n+10 ^ (9-k)*Q)=V)∧(n=0→Q=0→Hid (norm xs=xs))∧Hid (g=9-k))
   case atStart=>exact ⟨_,_,_,xs,_,0,rfl,rfl,rfl,by omega,hr0,hr1,Lib.hid (by simpa using hr1),hbn,hst0.out,HV3,hno3,Lib.hid rfl⟩
   case round=>
    clear hst0 HV3 hno3 hr0 hr1
    obtain ⟨bd,bn,bc,xs,n,k,rfl,rfl,rfl,hk,hn0,hn1,hn2,hbn,hst,hv,hno,hme2⟩:=hrel
    have hcell:=cell_of_one hst.cell
    have ldig:=hst.dig
    have lapp:=hst.app
    have lbel:=hst.bel
    have lsz:=hst.size
    by_cases hgo:k<9∧(0<n∨0<Q)
    ·have lx:bn=xs.length:=by have:=lapp.len;rw [Ep] at this;exact this.symm
     have hlen:=ql3 V _ _ xs.length na hv.out (zt (by omega) ldig) (by
      have hp:(0:Int)<10 ^ (9-k):=Int.pow_pos (by omega)
      have h3:0≤10 ^ (9-k)*Q:=Int.mul_nonneg (by omega) hq0
      rcases hgo.2 with h2 | h2
      ·omega
      ·have:=Int.mul_pos hp h2
       omega) V1.out
     rw [←lx] at hlen
     have hd0:=Int.emod_nonneg n (show (10:Int)≠0 by omega)
     have hd1:=Int.emod_lt_of_pos n (show (0:Int)<10 by omega)
     have ST:=Lib.hid (qjk xs n Q V k hgo.1 hv.out)
     have LT:=Lib.hid (qns n k hgo.1 hn2.out)
     have NO:n / 10=0→Q=0→Hid (norm (xs++[n % 10])=xs++[n % 10]):=fun h1 h2=>Lib.hid (qhc xs _ (by omega))
     have HMO:=Lib.hid (fun (w':World) (ad:Option Addr) (d:Nat)=>hst.more (w':=w') (v:=n % 10) (ad:=ad) (d:=d) ⟨hd0,hd1⟩)
     have HNO:=Lib.hid NO
     have hmp:0<n∨0<m:=by
      rcases hgo.2 with h2 | h2
      ·exact .inl h2
      ·refine .inr ?_
       rcases Nat.eq_zero_or_pos m with h3 | h3
       ·exfalso
        have h1:=hln3.out
        rw [h3,List.length_eq_zero_iff,Jp 4294967296 Q (by omega) hq0] at h1
        omega
       ·exact h3
     have hk9:k<9:=hgo.1
     clear hgo hv hn2 hno NO ldig hst lx
     by_cases hnz:0<n
     ·go_wp2_with (at_builtin;refine qbh w.heap.size rfl (.tmp 29) (.tmp 34) 122 5 .u8 1 rfl Tryz.underlying122 Ku (by omega) bd bn bc (asc xs) (48+n % 10) rfl rfl lapp lbel lsz (by omega) ?_;intro ad3 c3 w5 k1 k2 k3 k4 k5)
      go_roundg (9-(k+1))
      case measure=>have:=hme2.out;omega
      case rel=>exact ⟨_,_,_,_,_,k+1,rfl,rfl,by go_num,by omega,by omega,by omega,LT,hlen,HMO.out _ _ _ k1 k2 k3 k4.out k5.out,ST,HNO.out,Lib.hid rfl⟩
     ·have hmp2:0<m:=by omega
      go_wp2_with (at_builtin;refine qbh w.heap.size rfl (.tmp 29) (.tmp 34) 122 5 .u8 1 rfl Tryz.underlying122 Ku (by omega) bd bn bc (asc xs) (48+n % 10) rfl rfl lapp lbel lsz (by omega) ?_;intro ad3 c3 w5 k1 k2 k3 k4 k5)
      go_roundg (9-(k+1))
      case measure=>have:=hme2.out;omega
      case rel=>exact ⟨_,_,_,_,_,k+1,rfl,rfl,by go_num,by omega,by omega,by omega,LT,hlen,HMO.out _ _ _ k1 k2 k3 k4.out k5.out,ST,HNO.out,Lib.hid rfl⟩
    ·have hnz:n=0:=by
      rcases Nat.lt_or_ge k 9 with h1 | h1
      ·have:¬(0<n∨0<Q):=fun h2=>hgo ⟨h1,h2⟩
       omega
      ·have:=hn2.out
       rw [show 9-k=0 by omega,Int.pow_zero] at this
       omega
     have hv9:Hid (val 10 xs+10 ^ xs.length*Q=V):=Lib.hid (by
      have h0:=hv.out
      rw [hnz] at h0
      rcases Nat.lt_or_ge k 9 with h1 | h1
      ·have:¬(0<n∨0<Q):=fun h2=>hgo ⟨h1,h2⟩
       have:Q=0:=by omega
       rw [this] at h0 ⊢
       simpa using h0
      ·rw [show 9-k=0 by omega,Int.pow_zero,Int.one_mul,Int.zero_add] at h0
       exact h0)
     have hno9:Q=0→Hid (norm xs=xs):=fun h=>hno hnz h
     have HNO9:=Lib.hid hno9
     have hst9:=Lib.hid hst
     have hdec:¬k<9∨m=0:=by
      rcases Nat.lt_or_ge k 9 with h1 | h1
      ·have:¬(0<n∨0<Q):=fun h2=>hgo ⟨h1,h2⟩
       have:Q=0:=by omega
       refine .inr ?_
       rw [←hln3.out,this,Ak]
       rfl
      ·exact .inl (by omega)
     clear hgo hv hn2 hno ldig lapp lbel lsz hst hno9
     subst hnz
     rcases hdec with hdec | hdec
     ·go_wp2_with fail
      go_roundg Q.toNat
      case measure=>have h1:=hme.out;have h2:=HQ.out;omega
      case rel=>exact ⟨_,_,_,xs,_,_,_,Q,rfl,hbn,hst9.out,hv9,HNO9.out,Lib.hid rfl⟩
     ·by_cases hk9:k<9
      ·have HST:Hid (O4 w rb na wr bd bn bc xs yd 0 d Q):=Lib.hid (by have:=hst9.out;rw [hdec] at this;exact this)
       subst hdec
       go_wp2_with fail
       go_roundg Q.toNat
       case measure=>have h1:=hme.out;have h2:=HQ.out;omega
       case rel=>exact ⟨_,_,_,xs,_,_,_,Q,rfl,hbn,HST.out,hv9,HNO9.out,Lib.hid rfl⟩
      ·go_wp2_with fail
       go_roundg Q.toNat
       case measure=>have h1:=hme.out;have h2:=HQ.out;omega
       case rel=>exact ⟨_,_,_,xs,_,_,_,Q,rfl,hbn,hst9.out,hv9,HNO9.out,Lib.hid rfl⟩
end Go.Proofs.YtbcbmkeeoognpaaGreatDoor

namespace Go.Proofs.YtbcbmkeeoognpaaGreatDoor
open Go.RowKit
end Go.Proofs.YtbcbmkeeoognpaaGreatDoor

namespace Go.Proofs.YtbcbmkeeoognpaaGreatDoor
open Go.RowKit
set_option maxHeartbeats 1000000 in
theorem qaw (ng1:Bool) (ad1:Option Addr) (n1 c1:Nat) (V1:Int) (w:World) (h1:Num w ad1 n1 c1 V1) (hn1:n1≤1099511627776):Calls Tryz.prog 135 #[.agg #[.bool ng1,.slice ad1 n1 c1]] w (Uw (sI ng1 V1) w):=by
 have hV0:=h1.nonneg
 have HA:=Lib.hid (F9 ng1 V1 hV0)
 have hN:=qn5 ng1 V1 hV0
 have b0:=Below.refl w.heap.size w
 have l0:Below w.heap.size w (w.alloc (.cells #[.bool ng1,.slice ad1 n1 c1] 52)):=(Below.refl _ _).alloc (Nat.le_refl _) _
 have b1:Below w.heap.size w (w.alloc (.cells #[.bool ng1,.slice ad1 n1 c1] 52)):=qw b0 l0
 have k0:Cel (w.alloc (.cells #[.bool ng1,.slice ad1 n1 c1] 52)) w.heap.size 52 [.bool ng1,.slice ad1 n1 c1]:=Cel.made _ _ _ _ (by simp)
 have l1:Below (w.alloc (.cells #[.bool ng1,.slice ad1 n1 c1] 52)).heap.size (w.alloc (.cells #[.bool ng1,.slice ad1 n1 c1] 52)) ((w.alloc (.cells #[.bool ng1,.slice ad1 n1 c1] 52)).alloc (.cells #[.bool false,.slice none 0 0] 52)):=(Below.refl _ _).alloc (Nat.le_refl _) _
 have b2:Below w.heap.size w ((w.alloc (.cells #[.bool ng1,.slice ad1 n1 c1] 52)).alloc (.cells #[.bool false,.slice none 0 0] 52)):=qw b1 l1
 have k1:Cel ((w.alloc (.cells #[.bool ng1,.slice ad1 n1 c1] 52)).alloc (.cells #[.bool false,.slice none 0 0] 52)) (w.heap.size+1) 52 [.bool false,.slice none 0 0]:=Cel.made _ _ _ _ (by simp)
 replace k0:=k0.next l1
 replace h1:=h1.below b2 (Nat.le_refl _)
 clear b0 b1 l0 l1
 have hg0:w.heap.size≤w.heap.size:=Nat.le_refl _
 have hg1:w.heap.size≤w.heap.size+1:=Nat.le_add_right _ _
 generalize sI ng1 V1=N at *
 have hC:=Zc ad1 n1 c1 V1 ((w.alloc (.cells #[.bool ng1,.slice ad1 n1 c1] 52)).alloc (.cells #[.bool false,.slice none 0 0] 52)) h1 hn1
 clear h1
 cases ng1
 ·skip
  simp only [Bool.false_and,Bool.true_and] at hN
  have HR:=Lib.hid hN
  go_enter Tryz.func135,Tryz.ntmps135
  have h:=Lib.hid (hC)
  have e0a:=k0.cell 0 _ rfl
  have e0b:=k0.cell 1 _ rfl
  have e1a:=k1.cell 0 _ rfl
  have e1b:=k1.cell 1 _ rfl
  go_wp2_with fail
  with_reducible refine (h.out).mono ?_
  rintro e v1 ⟨fd,fn,fc,rfl,ff,b⟩
  clear h
  clear e0a e0b e1a e1b
  replace k0:=k0.next b
  replace k1:=k1.next b
  have bb:=qw b2 b
  clear b b2
  have b2:=bb
  clear bb
  clear hC
  have g0:=k1.free 0
  have g1:=k1.free 1
  have e0a:=k0.cell 0 _ rfl
  have e0b:=k0.cell 1 _ rfl
  have e1a:=k1.cell 0 _ rfl
  have e1b:=k1.cell 1 _ rfl
  go_wp2_with fail
  refine bodyPost_ret (results_cell_row rfl _ _ (w.heap.size+1) 52 #[.bool false,.slice fd fn fc] (0,0) _ rfl ((k1.set 0 _).set 1 _).row Tryz.underlying52 rfl size_int) rfl ?_
  refine ⟨_,_,_,by rw [HR.out],?_,je (je b2 _ _ _ hg1) _ _ _ hg1⟩
  rw [HA.out]
  exact ff.poke2 k1 _ _
 ·skip
  simp only [Bool.false_and,Bool.true_and] at hN
  by_cases hz:V1=0
  ·skip
   obtain ⟨r,hr⟩:∃r,r=false:=⟨_,rfl⟩
   have HR:=Lib.hid (show decide (N<0)=false by rw [hN];rw [hz];rfl)
   go_enter Tryz.func135,Tryz.ntmps135
   have h:=Lib.hid (hC)
   have e0a:=k0.cell 0 _ rfl
   have e0b:=k0.cell 1 _ rfl
   have e1a:=k1.cell 0 _ rfl
   have e1b:=k1.cell 1 _ rfl
   go_wp2_with fail
   with_reducible refine (h.out).mono ?_
   rintro e v1 ⟨fd,fn,fc,rfl,ff,b⟩
   clear h
   clear e0a e0b e1a e1b
   replace k0:=k0.next b
   replace k1:=k1.next b
   have bb:=qw b2 b
   clear b b2
   have b2:=bb
   clear bb
   clear hC
   have hq:=ff.zero_iff hV0
   have hq2:fn=0:=hq.2 hz
   clear hq
   subst hq2
   have g0:=k1.free 0
   have g1:=k1.free 1
   have e0a:=k0.cell 0 _ rfl
   have e0b:=k0.cell 1 _ rfl
   have e1a:=k1.cell 0 _ rfl
   have e1b:=k1.cell 1 _ rfl
   go_wp2_with fail
   refine bodyPost_ret (results_cell_row rfl _ _ (w.heap.size+1) 52 #[.bool false,.slice fd 0 fc] (0,0) _ rfl ((k1.set 0 _).set 1 _).row Tryz.underlying52 rfl size_int) rfl ?_
   refine ⟨_,_,_,by rw [HR.out],?_,je (je b2 _ _ _ hg1) _ _ _ hg1⟩
   rw [HA.out]
   exact ff.poke2 k1 _ _
  ·skip
   obtain ⟨r,hr⟩:∃r,r=true:=⟨_,rfl⟩
   have HR:=Lib.hid (show decide (N<0)=true by rw [hN];simp;omega)
   go_enter Tryz.func135,Tryz.ntmps135
   have h:=Lib.hid (hC)
   have e0a:=k0.cell 0 _ rfl
   have e0b:=k0.cell 1 _ rfl
   have e1a:=k1.cell 0 _ rfl
   have e1b:=k1.cell 1 _ rfl
   go_wp2_with fail
   with_reducible refine (h.out).mono ?_
   rintro e v1 ⟨fd,fn,fc,rfl,ff,b⟩
   clear h
   clear e0a e0b e1a e1b
   replace k0:=k0.next b
   replace k1:=k1.next b
   have bb:=qw b2 b
   clear b b2
   have b2:=bb
   clear bb
   clear hC
   have hq:=ff.zero_iff hV0
   have hq2:0<fn:=by have:fn≠0:=fun e=>hz (hq.1 e);omega
   clear hq
   have hq3:decide (0<fn)=true:=decide_eq_true hq2
   have g0:=k1.free 0
   have g1:=k1.free 1
   have e0a:=k0.cell 0 _ rfl
   have e0b:=k0.cell 1 _ rfl
   have e1a:=k1.cell 0 _ rfl
   have e1b:=k1.cell 1 _ rfl
   go_wp2_with fail
   refine bodyPost_ret (results_cell_row rfl _ _ (w.heap.size+1) 52 #[.bool true,.slice fd fn fc] (0,0) _ rfl ((k1.set 0 _).set 1 _).row Tryz.underlying52 rfl size_int) rfl ?_
   refine ⟨_,_,_,by rw [HR.out],?_,je (je b2 _ _ _ hg1) _ _ _ hg1⟩
   rw [HA.out]
   exact ff.poke2 k1 _ _
set_option maxRecDepth 20000 in
theorem Yu (ng1:Bool) (ad1:Option Addr) (n1 c1:Nat) (V1:Int) (w:World) (h1:Num w ad1 n1 c1 V1) (hn1:n1≤1099511627776):Calls Tryz.prog 209 #[.agg #[.bool ng1,.slice ad1 n1 c1]] w (fun e w'=>e=.returned (.bool (decide (sI ng1 V1<0)))∧Below w.heap.size w w'):=by
 have b0:=Below.refl w.heap.size w
 have l0:Below w.heap.size w (w.alloc (.cells #[.bool ng1,.slice ad1 n1 c1] 52)):=(Below.refl _ _).alloc (Nat.le_refl _) _
 have b1:Below w.heap.size w (w.alloc (.cells #[.bool ng1,.slice ad1 n1 c1] 52)):=qw b0 l0
 have k0:Cel (w.alloc (.cells #[.bool ng1,.slice ad1 n1 c1] 52)) w.heap.size 52 [.bool ng1,.slice ad1 n1 c1]:=Cel.made _ _ _ _ (by simp)
 replace h1:=h1.below b1 (Nat.le_refl _)
 clear b0 l0
 have hg0:w.heap.size≤w.heap.size:=Nat.le_refl _
 have hC:=qaw ng1 ad1 n1 c1 V1 (w.alloc (.cells #[.bool ng1,.slice ad1 n1 c1] 52)) h1 hn1
 clear h1
 generalize sI ng1 V1=N at *
 obtain ⟨r,hr⟩:∃r,decide (N<0)=r:=⟨_,rfl⟩
 obtain ⟨A,hA⟩:∃A,A=(N.natAbs:Int):=⟨_,rfl⟩
 replace hC:=hC.mono fun e w' q=>Uw.named hr hA q
 rw [hr]
 clear hr hA
 go_enter Tryz.func209,Tryz.ntmps209
 have h:=Lib.hid (hC)
 have e0a:=k0.cell 0 _ rfl
 have e0b:=k0.cell 1 _ rfl
 go_wp2_with fail
 with_reducible refine (h.out).mono ?_
 rintro e v1 ⟨fd,fn,fc,rfl,ff,b⟩
 clear h
 clear e0a e0b
 replace k0:=k0.next b
 have bb:=qw b1 b
 clear b b1
 have b1:=bb
 clear bb
 clear hC
 have hfd:∀v:World,(Instr.field 52 (.agg #[.bool r,.slice fd fn fc]) 0).run Tryz.prog v=.ok (.bool r) v:=fun _=>by kernel_rfl
 go_wp2_with fail
 go_ret
 exact ⟨rfl,b1⟩
end Go.Proofs.YtbcbmkeeoognpaaGreatDoor

namespace Go.Proofs.YtbcbmkeeoognpaaGreatDoor
open Go.RowKit
end Go.Proofs.YtbcbmkeeoognpaaGreatDoor

namespace Go.Proofs.YtbcbmkeeoognpaaGreatDoor
open Go Go.RowKit
theorem V4 (n:Int) (w:World) (hn:0≤n∧n<2147483648):Calls Tryz.prog 57 #[.int .i64 n] w (fun e w'=>e=.returned (.int .u32 (2147483648+n))∧w=w'):=by
 have e1:IntKind.i64.wrap (2147483648+n)=2147483648+n:=by rw [IntKind.wrap_i64];omega
 have e2:IntKind.u32.wrap (2147483648+n)=2147483648+n:=by rw [IntKind.wrap_u32];omega
 go_enter Tryz.func57,Tryz.ntmps57
 go_wp2
 go_ret
 exact ⟨rfl,rfl⟩
theorem qac (n:Int) (w:World) (hn:0≤n∧n<2147483648):Calls Tryz.prog 115 #[.int .u32 (2147483648+n),.int .i64 n] w (fun e w'=>e=.returned (.bool true)∧w=w'):=by
 have e1:IntKind.i64.wrap (2147483648+n)=2147483648+n:=by rw [IntKind.wrap_i64];omega
 have e2:IntKind.u32.wrap (2147483648+n)=2147483648+n:=by rw [IntKind.wrap_u32];omega
 go_enter Tryz.func115,Tryz.ntmps115
 go_wp2
 go_ret
 exact ⟨by simp,rfl⟩
theorem qgz:(Tryz.prog.info? 150).map (fun i=>(i.zero,i.size,i.bytes))=some (some (.agg #[.slice none 0 0,.slice none 0 0,.int .i64 0]),3,56):=by kernel_rfl
theorem y8.cells {B:Nat} {w:World} {b:Nat} {v:Value} {L:List Hd} (h:y8 B w b v L):w.cell? ⟨b,0,none⟩=some (.int .i64 (L.length:Int))∧w.cell? ⟨b,1,none⟩=some v∧w.frozen? ⟨b,0,none⟩=false∧w.frozen? ⟨b,1,none⟩=false:=by
 have h1:=h.hd
 refine ⟨?_,?_,?_,?_⟩ <;> simp [World.cell?,World.frozen?,h1,Df]
structure Kp (B b:Nat) (w w':World):Prop where
 os:w'.os=w.os
 tape:w'.tape=w.tape
 output:w'.output=w.output
 size:w.heap.size≤w'.heap.size
 rest:∀k,k<w.heap.size→k≠b→w'.heap[k]?=w.heap[k]?∨(B≤k∧∃cs,w.heap[k]?=some (.cells cs 150 (0,0)))
theorem Kp.trans {B b:Nat} {w w1 w2:World} (h:Kp B b w w1) (k:Kp B b w1 w2):Kp B b w w2:=by
 refine ⟨k.os.trans h.os,k.tape.trans h.tape,k.output.trans h.output,Nat.le_trans h.size k.size,fun i hi hne=>?_⟩
 rcases h.rest i hi hne with e | e
 ·rcases k.rest i (Nat.lt_of_lt_of_le hi h.size) hne with e2 | e2
  ·exact .inl (e2.trans e)
  ·rw [e] at e2;exact .inr e2
 ·exact .inr e
theorem Kp.of_below {B b:Nat} {w w1:World} (h:Below w.heap.size w w1):Kp B b w w1:=⟨h.os,h.tape,h.output,h.size,fun k hk _=>.inl (h.block k hk)⟩
theorem Kp.below {B b:Nat} {w w1:World} (h:Kp B b w w1) (hb:B≤b) (hB:B≤w.heap.size):Below B w w1:=
 ⟨h.os,h.tape,h.output,h.size,fun k hk=>(h.rest k (by omega) (by omega)).resolve_right (by omega)⟩
theorem qg0 {B b:Nat} {v:Value} {L:List Hd} {ad:Option Addr} {n c:Nat} {w w1 w4:World} {gg cap:Nat} (h:y8 B w b v L) (hl:L.length<1000000)
  (ho:Uo B w ⟨ad,n,c,none,0,0⟩) (hs:∀h∈L,0<h.c→0<c→xg h.ad≠xg ad) (hO:Only b w w1)
  (hd1:w1.heap[b]?=some (.cells (Df (L.length+1) v) 42 (0,0)))
  (hown:w4.ownsRow B 150 3 (.slice (some ⟨gg,0,none⟩) (L.length+1) cap) (L.length+1) (hc 0 L++[.slice ad n c,.slice none 0 0,.int .i64 ((L.length:Int)+1)]))
  (hgrow:(w1.alloc (.cells #[.slice ad n c,.slice none 0 0,.int .i64 ((L.length:Int)+1)] 150)).drew.grownBy w4 v.ownBlock) (hat:v.ownBlock=some gg∨gg=w1.heap.size+1) :
  Kp B b w (w4.setCell ⟨b,1,none⟩ (.slice (some ⟨gg,0,none⟩) (L.length+1) cap))∧∃v',y8 B (w4.setCell ⟨b,1,none⟩ (.slice (some ⟨gg,0,none⟩) (L.length+1) cap)) b v' (L++[⟨ad,n,c,none,0,0⟩])∧∀x,v'.ownBlock=some x→v.ownBlock=some x∨w.heap.size≤x:=by
 have hlt1:b<w1.heap.size:=by rw [hO.size];exact h.lt
 have hz:(w1.alloc (.cells #[.slice ad n c,.slice none 0 0,.int .i64 ((L.length:Int)+1)] 150)).drew.heap.size=w1.heap.size+1:=by simp
 have old:∀k,k<w1.heap.size→some k≠v.ownBlock→w4.heap[k]?=w1.heap[k]?:=fun k hk hne=>(hgrow.block k (by rw [hz];omega) hne).trans (Go.heap_alloc_old _ _ hk)
 have h4:w4.heap[b]?=some (.cells (Df (L.length+1) v) 42 (0,0)):=(old b hlt1 h.row_ne.symm).trans hd1
 have hP:Only b w4 (w4.setCell ⟨b,1,none⟩ (.slice (some ⟨gg,0,none⟩) (L.length+1) cap)):=(Only.refl b w4).set 1 _
 have hf:(w4.setCell ⟨b,1,none⟩ (.slice (some ⟨gg,0,none⟩) (L.length+1) cap)).heap[b]?=some (.cells (Df (L.length+1) (.slice (some ⟨gg,0,none⟩) (L.length+1) cap)) 42 (0,0)):=by
  rw [heap_setCell_same w4 b 1 _ _ _ h4]
  simp [Df]
 have hgb:gg≠b:=by
  rintro rfl
  rcases hown.2 with ⟨h1,_⟩ | ⟨g2,cap2,cur,h1,_,h3,_⟩
  ·cases h1
  ·injection h1 with h1 _ _
   injection h1 with h1
   injection h1 with h1
   subst h1
   rw [h4] at h3
   injection h3 with h3
   injection h3 with _ h3
   revert h3;decide
 generalize w4.setCell ⟨b,1,none⟩ (.slice (some ⟨gg,0,none⟩) (L.length+1) cap)=wf at *
 have other:∀k,k<w.heap.size→k≠b→some k≠v.ownBlock→wf.heap[k]?=w.heap[k]?:=fun k hk hne hv=>
  (hP.rest k hne).trans ((old k (by rw [hO.size];exact hk) hv).trans (hO.rest k hne))
 have keepH:∀h2:Hd,Uo B w h2→Uo B wf h2:=fun h2 k2=>⟨k2.le,k2.big,k2.cap,fun hc0=>by
  obtain ⟨g,cs,e,h1,h3,h5⟩:=k2.row hc0
  obtain ⟨n1,n2⟩:=h.block_ne h3
  exact ⟨g,cs,e,h1,(other g (Array.getElem?_eq_some_iff.1 h3).1 n1 n2.symm).trans h3,h5⟩⟩
 refine ⟨⟨hP.os.trans (hgrow.os.trans hO.os),hP.tape.trans (hgrow.tape.trans hO.tape),hP.output.trans (hgrow.output.trans hO.output),?_,fun k hk hne=>?_⟩,.slice (some ⟨gg,0,none⟩) (L.length+1) cap,⟨h.lo,?_,?_,by simp;omega,fun h2 hm=>?_,fun i j hi hj ei ej hij ci cj=>?_⟩,fun x hx=>?_⟩
 ·have:=hgrow.size
  rw [hz] at this
  rw [hP.size,←hO.size]
  omega
 ·by_cases hv:some k=v.ownBlock
  ·right
   rcases h.row.2 with ⟨rfl,_⟩ | ⟨g2,cap2,cur,h1,h2,h3,_⟩
   ·simp [Value.ownBlock] at hv
   ·rw [h1] at hv
    simp only [Value.ownBlock,Option.some.injEq] at hv
    subst hv
    exact ⟨h2,cur,h3⟩
  ·exact .inl (other k hk hne hv)
 ·rw [hf];simp
 ·rw [qj4,List.length_append]
  refine ⟨by simpa using hown.1,?_⟩
  rcases hown.2 with ⟨h1,_⟩ | ⟨g2,cap2,cur,h1,h2,h3,h5⟩
  ·cases h1
  ·refine .inr ⟨g2,cap2,cur,h1,h2,?_,by simpa using h5⟩
   injection h1 with h1 _ _
   injection h1 with h1
   injection h1 with h1
   subst h1
   rw [hP.rest _ hgb];exact h3
 ·rcases List.mem_append.1 hm with hm | hm
  ·exact keepH _ (h.one h2 hm)
  ·rw [List.mem_singleton] at hm
   subst hm
   exact keepH _ ho
 ·rcases Nat.lt_or_ge i L.length with h1 | h1 <;> rcases Nat.lt_or_ge j L.length with h3 | h3
  ·rw [List.getElem?_append_left h1] at ei
   rw [List.getElem?_append_left h3] at ej
   exact h.sep i j hi hj ei ej hij ci cj
  ·rw [List.getElem?_append_left h1] at ei
   rw [List.getElem?_append_right h3] at ej
   have h0:j-L.length=0:=by
    rcases Nat.eq_zero_or_pos (j-L.length) with h5 | h5
    ·exact h5
    ·rw [List.getElem?_eq_none (by simp;omega)] at ej;cases ej
   rw [h0] at ej
   simp only [List.getElem?_cons_zero,Option.some.injEq] at ej
   subst ej
   exact hs hi (List.mem_of_getElem? ei) ci cj
  ·rw [List.getElem?_append_left h3] at ej
   rw [List.getElem?_append_right h1] at ei
   have h0:i-L.length=0:=by
    rcases Nat.eq_zero_or_pos (i-L.length) with h5 | h5
    ·exact h5
    ·rw [List.getElem?_eq_none (by simp;omega)] at ei;cases ei
   rw [h0] at ei
   simp only [List.getElem?_cons_zero,Option.some.injEq] at ei
   subst ei
   exact (hs hj (List.mem_of_getElem? ej) cj ci).symm
  ·exfalso
   have h5:=(List.getElem?_eq_some_iff.1 ei).1
   have h6:=(List.getElem?_eq_some_iff.1 ej).1
   simp at h5 h6
   omega
 ·simp only [Value.ownBlock,Option.some.injEq] at hx
  subst hx
  rcases hat with h5 | h5
  ·exact .inl h5
  ·right
   rw [h5,hO.size]
   omega
set_option maxHeartbeats 4000000 in
set_option maxRecDepth 100000 in
theorem qdw (B b:Nat) (v:Value) (L:List Hd) (ad:Option Addr) (n c:Nat) (w:World) (h:y8 B w b v L) (hB:B≤w.heap.size) (hl:L.length<1000000)
  (ho:Uo B w ⟨ad,n,c,none,0,0⟩) (hs:∀h∈L,0<h.c→0<c→xg h.ad≠xg ad) :
  Calls Tryz.prog 63 #[.pointer (some ⟨b,0,none⟩),.slice ad n c] w (fun e w'=>e=.returned (.tuple #[])∧Kp B b w w'∧∃v',y8 B w' b v' (L++[⟨ad,n,c,none,0,0⟩])∧∀x,v'.ownBlock=some x→v.ownBlock=some x∨w.heap.size≤x):=by
 obtain ⟨c0,c1,f0,f1⟩:=h.cells
 have eL:IntKind.i64.wrap ((L.length:Int)+1)=(L.length:Int)+1:=by rw [IntKind.wrap_i64];omega
 go_enter Tryz.func63,Tryz.ntmps63
 go_wp2
 have hO:Only b w (w.setCell ⟨b,0,none⟩ (.int .i64 ((L.length:Int)+1))):=(Only.refl b w).set 0 _
 have hd1:(w.setCell ⟨b,0,none⟩ (.int .i64 ((L.length:Int)+1))).heap[b]?=some (.cells (Df (L.length+1) v) 42 (0,0)):=by
  rw [heap_setCell_same w b 0 _ _ _ h.hd]
  simp [Df]
 have hr1:(w.setCell ⟨b,0,none⟩ (.int .i64 ((L.length:Int)+1))).ownsRow B 150 3 v L.length (hc 0 L):=by
  refine ⟨h.row.1,?_⟩
  rcases h.row.2 with h2 | ⟨g,cap,cur,h1,h2,h3,h4⟩
  ·exact .inl h2
  ·refine .inr ⟨g,cap,cur,h1,h2,?_,h4⟩
   rw [hO.rest g fun e=>h.row_ne (by rw [h1,e];rfl)]
   exact h3
 generalize w.setCell ⟨b,0,none⟩ (.int .i64 ((L.length:Int)+1))=w1 at *
 have hB1:B≤w1.heap.size:=by rw [hO.size];exact hB
 have d0:w1.cell? ⟨b,0,none⟩=some (.int .i64 ((L.length:Int)+1)):=by simp [World.cell?,hd1,Df]
 have d1:w1.cell? ⟨b,1,none⟩=some v:=by simp [World.cell?,hd1,Df]
 have d2:w1.frozen? ⟨b,1,none⟩=false:=by simp [World.frozen?,hd1]
 have hlt1:b<w1.heap.size:=by rw [hO.size];exact h.lt
 have hne:=h.row_ne
 have hln:=qj6 L 0
 obtain ⟨i0,hi0,hz0,hz1,hz2⟩:=info_parts qgz
 clear c0 c1 f0 f1 eL
 go_region_law (refine step_append_lies _ rfl (.tmp 15) (.tmp 22) _ rfl B 150 i0 _ 3 56 Tryz.underlying27 hi0 hz0 hz1 hz2 rfl (by omega) v L.length (hc 0 L) (by simp [Act.eval,Act.put]) (hr1.alloc _) ⟨w1.heap.size,0,none⟩ 1 1 [.slice ad n c,.slice none 0 0,.int .i64 ((L.length:Int)+1)] (by simp [Act.eval,Act.put]) (by rfl) (World.news_of_block (cs:=#[.slice ad n c,.slice none 0 0,.int .i64 ((L.length:Int)+1)]) (t:=150) (fr:=(0,0)) (heap_alloc_new w1 _)) (by simp [Value.oneCell']) (by omega) (by simp only [maxLen];omega) (by omega) (by simp;omega) (w1.heap.size+1) (by simp) ?_;intro gg cap w4 hown1 hgrow hat hlt4;have q1:w4.cell? ⟨b,1,none⟩=some v:=hgrow.cell ((World.cell?_alloc_lt _ _ _ hlt1).trans d1) hne.symm;have q2:w4.frozen? ⟨b,1,none⟩=false:=(hgrow.frozen_far ⟨b,1,none⟩ (by simp;omega) hne.symm).trans ((World.frozen?_of_block (Go.heap_alloc_old _ _ hlt1)).trans d2))
 all_goals
  go_end0
  exact ⟨rfl,qg0 h hl ho hs hO hd1 hown1 hgrow hat⟩
end Go.Proofs.YtbcbmkeeoognpaaGreatDoor

namespace Go.Proofs.YtbcbmkeeoognpaaGreatDoor
open Go.RowKit
end Go.Proofs.YtbcbmkeeoognpaaGreatDoor

namespace Go.Proofs.YtbcbmkeeoognpaaGreatDoor
open Go.RowKit
def Tab (w:World):Prop:=∀j,j<64→w.cell? ⟨3,j,none⟩=some (.int .u8 ((Lib.deBruijn64tab.getD j 0:Nat):Int))
theorem Tab.below {w w1:World} (h:Tab w) {B:Nat} (hb:Below B w w1) (hB:w.heap.size≤B):Tab w1:=fun j hj=>jd hb hB (h j hj)
end Go.Proofs.YtbcbmkeeoognpaaGreatDoor

namespace Go.Proofs.YtbcbmkeeoognpaaGreatDoor
open Go.RowKit
end Go.Proofs.YtbcbmkeeoognpaaGreatDoor

namespace Go.Proofs.YtbcbmkeeoognpaaGreatDoor
open Go.RowKit
structure ShAt (F L E:Int) (b:Nat) (w:World):Prop where
 c0:w.cell? ⟨b,0,none⟩=some (.int .i64 F)
 c1:w.cell? ⟨b,1,none⟩=some (.int .i64 L)
 c2:w.cell? ⟨b,2,none⟩=some (.int .i64 E)
theorem ShAt.below {F L E:Int} {b:Nat} {w w1:World} (h:ShAt F L E b w) (k:Below w.heap.size w w1):ShAt F L E b w1:=
 ⟨jd k (Nat.le_refl _) h.c0,jd k (Nat.le_refl _) h.c1,jd k (Nat.le_refl _) h.c2⟩
structure qno (W:Nat) (F L E:Int) (b:Nat) (w wx:World) (T:Nat) (ad:Option Addr) (n c:Nat) (M p N:Int):Prop where
 num:Num wx ad n c M
 pos:0<M
 len:n≤1099511627778
 bd : -3000-N≤p∧p≤2000
 nb:0≤N∧N≤1125899906842624
 bits:Hid (N=bitsOf M)
 near:Hid (T=qot W M.toNat p)
 sh:ShAt F L E b wx
 shp:Ux wx
 bel:Below w.heap.size w wx
theorem qno.below {W:Nat} {F L E:Int} {b:Nat} {w wx wy:World} {T:Nat} {ad:Option Addr} {n c:Nat} {M p N:Int} (h:qno W F L E b w wx T ad n c M p N) (k:Below wx.heap.size wx wy):qno W F L E b w wy T ad n c M p N:=
 ⟨h.num.below k (Nat.le_refl _),h.pos,h.len,h.bd,h.nb,h.bits,h.near,h.sh.below k,h.shp.below k (Nat.le_refl _),qw h.bel k⟩
end Go.Proofs.YtbcbmkeeoognpaaGreatDoor

namespace Go.Proofs.YtbcbmkeeoognpaaGreatDoor
open Go.RowKit
end Go.Proofs.YtbcbmkeeoognpaaGreatDoor

namespace Go.Proofs.YtbcbmkeeoognpaaGreatDoor
open Go.RowKit
end Go.Proofs.YtbcbmkeeoognpaaGreatDoor

namespace Go.Proofs.YtbcbmkeeoognpaaGreatDoor
open Go.RowKit
end Go.Proofs.YtbcbmkeeoognpaaGreatDoor

namespace Go.Proofs.YtbcbmkeeoognpaaGreatDoor
open Go.RowKit
end Go.Proofs.YtbcbmkeeoognpaaGreatDoor

namespace Go.Proofs.YtbcbmkeeoognpaaGreatDoor
open Go.RowKit
set_option maxHeartbeats 2000000 in
theorem Xp (ng:Bool) (ad:Option Addr) (n c:Nat) (xs:List Int) (w:World) (h:Arg w ad n c xs) (hn:n≤70368744177663) :
  Calls Tryz.prog 40 #[.agg #[.bool ng,.slice ad n c]] w (fun e w'=>∃b,e=.returned (.agg #[.bool ng,.slice (some ⟨b,0,none⟩) n (n+1)])∧w.heap.size≤b∧Tw w' b n xs∧Below w.heap.size w w'):=by
 have b1:Below w.heap.size w (w.alloc (.cells #[.bool ng,.slice ad n c] 52)):=(Below.refl _ _).alloc (Nat.le_refl _) _
 have b2:Below w.heap.size w ((w.alloc (.cells #[.bool ng,.slice ad n c] 52)).alloc (.cells #[.bool false,.slice none 0 0] 52)):=Iy b1 _
 have k0:Cel ((w.alloc (.cells #[.bool ng,.slice ad n c] 52)).alloc (.cells #[.bool false,.slice none 0 0] 52)) w.heap.size 52 [.bool ng,.slice ad n c]:=(Cel.made _ _ _ _ rfl:Cel (w.alloc (.cells #[.bool ng,.slice ad n c] 52)) w.heap.size 52 [.bool ng,.slice ad n c]).next ((Below.refl _ _).alloc (Nat.le_refl _) _)
 have k1:Cel ((w.alloc (.cells #[.bool ng,.slice ad n c] 52)).alloc (.cells #[.bool false,.slice none 0 0] 52)) (w.heap.size+1) 52 [.bool false,.slice none 0 0]:=Cel.made _ _ _ _ (by simp)
 have h2:=h.below b2 (Nat.le_refl _)
 have hb0:w.heap.size<w.heap.size+1:=Nat.lt_succ_self _
 have HT:Hid (∀w',Below w.heap.size w w'→Calls Tryz.prog 14 #[.slice ad n c] w' (fun e w''=>∃b,e=.returned (.slice (some ⟨b,0,none⟩) n (n+1))∧w'.heap.size≤b∧Tw w'' b n xs∧Below w'.heap.size w' w'')):=
  fun w' b=>(qez ad n c _ w' (by have:=(h.below b (Nat.le_refl _)).le;omega) (h.below b (Nat.le_refl _)).rds).mono fun e w'' ⟨h1,h2,h3⟩=>⟨_,by rw [h1,(h.below b (Nat.le_refl _)).rds.len],Nat.le_refl _,⟨(h.below b (Nat.le_refl _)).rds.len,h2,h.dig⟩,h3⟩
 clear h b1 h2
 go_enter Tryz.func40,Tryz.ntmps40
 go_wp2_with fail
 generalize (w.alloc (.cells #[.bool ng,.slice ad n c] 52)).alloc (.cells #[.bool false,.slice none 0 0] 52)=w0 at *
 generalize w.heap.size+1=g at *
 have c0:=k0.cell 0 _ rfl
 have c1:=k0.cell 1 _ rfl
 have d0:=k1.cell 0 _ rfl
 have d1:=k1.cell 1 _ rfl
 have f0:=k1.free 0
 have f1:=k1.free 1
 have bd:Below w.heap.size w w0.drew:=Dv b2
 go_region_held3 (fun w'=>w'.cell? ⟨w.heap.size,0,none⟩=some (.bool ng)∧w'.cell? ⟨w.heap.size,1,none⟩=some (.slice ad n c)) (go_keep)
  (first
   | (go_at_call 14
      refine (HT.out _ bd).mono ?_
      rintro e w2 ⟨b,rfl,hge,ht,hb⟩
      have bb:Below w0.heap.size w0 w2:=Dw (Dv (Below.refl w0.heap.size w0)) (Nat.le_refl _) hb
      have e0:=jd bb (Nat.le_refl _) c0
      have e1:=jd bb (Nat.le_refl _) c1
      have k2:=k1.next bb
      have u0:=k2.cell 0 _ rfl
      have u1:=k2.cell 1 _ rfl
      have v0:=k2.free 0
      have v1:=k2.free 1
      have w0c:((w2.setCell ⟨g,0,none⟩ (.bool ng)).setCell ⟨g,1,none⟩ (.slice (some ⟨b,0,none⟩) n (n+1))).cell? ⟨w.heap.size,0,none⟩=some (.bool ng):=by
       rw [World.cell?_setCell_other _ _ _ _ (by intro h;injection h;omega),World.cell?_setCell_other _ _ _ _ (by intro h;injection h;omega)];exact e0
      have w1c:((w2.setCell ⟨g,0,none⟩ (.bool ng)).setCell ⟨g,1,none⟩ (.slice (some ⟨b,0,none⟩) n (n+1))).cell? ⟨w.heap.size,1,none⟩=some (.slice ad n c):=by
       rw [World.cell?_setCell_other _ _ _ _ (by intro h;injection h;omega),World.cell?_setCell_other _ _ _ _ (by intro h;injection h;omega)];exact e1))
 all_goals
  go_wp2
  refine bodyPost_ret (results_cell_row rfl _ _ g 52 #[.bool ng,.slice (some ⟨b,0,none⟩) n (n+1)] (0,0) _ rfl ((k2.set 0 _).set 1 _).row Tryz.underlying52 rfl size_int) rfl ?_
  exact ⟨b,rfl,Nat.le_trans bd.size hge,(ht.poke k2 0 _).poke (k2.set 0 _) 1 _,je (je (qw b2 bb) _ _ _ (Nat.le_of_lt hb0)) _ _ _ (Nat.le_of_lt hb0)⟩
end Go.Proofs.YtbcbmkeeoognpaaGreatDoor

namespace Go.Proofs.YtbcbmkeeoognpaaGreatDoor
open Go.RowKit
def O0 (V U:Int):Int:=if U=0 then 0 else V % U
theorem qnt {V:Int} (h0:0<V) (h1:V<4294967296):dg 4294967296 V=[V]:=by
 rw [Q5 4294967296 V (by omega) h0,show V % ((4294967296:Nat):Int)=V by omega,show V / ((4294967296:Nat):Int)=0 by omega,Ak]
theorem qdo (ad bd:Option Addr) (na nb ca cb:Nat) (la lb:List Int) (w:World) (hna:na≤70368744177662) (hnb:nb≤70368744177662) (hac:na≤ca) (hbc:nb≤cb)
  (ha:Rds w .u32 ad na la) (hb:Rds w .u32 bd nb lb) (da:Dig 4294967296 la) (db:Dig 4294967296 lb) (zs rs:List Int) (ok:Bool)
  (HZ:Hid (zs=dg 4294967296 (val 4294967296 la / val 4294967296 lb))) (HR:Hid (rs=dg 4294967296 (O0 (val 4294967296 la) (val 4294967296 lb)))) (HO:Hid (ok=decide (val 4294967296 lb≠0))) :
  Calls Tryz.prog 114 #[.slice ad na ca,.slice bd nb cb] w (Nv 44 .u32 zs rs ok w):=by
 have N1:=Lib.hid (F6 ad na ca la w (by omega) hac ha da)
 have N2:=fun (w1:World) (b1:Below w.heap.size w w1)=>Lib.hid (F6 bd nb cb lb w1 (by omega) hbc (hb.below b1 (Nat.le_refl _)) db)
 have V0:=zt (show (0:Int)<4294967296 by omega) da
 have U0:=zt (show (0:Int)<4294967296 by omega) db
 have V1:=Lib.hid (Au (show (0:Int)<4294967296 by omega) da)
 have U1:=Lib.hid (Au (show (0:Int)<4294967296 by omega) db)
 rw [ha.len] at V1
 rw [hb.len] at U1
 clear ha hb da db
 generalize val 4294967296 la=V at *
 generalize val 4294967296 lb=U at *
 go_enter Tryz.func114,Tryz.ntmps114
 go_wp2_with fail
 with_reducible refine (N1.out).mono ?_
 rintro e w1 ⟨ad1,n,c1,rfl,o1,b1⟩
 have N2':=N2 w1 b1
 clear N1 N2
 go_wp2_with fail
 with_reducible refine (N2'.out).mono ?_
 rintro e w2 ⟨bd1,m,c2,rfl,o2,b2⟩
 have p1:=o1.below b2 (Nat.le_refl _)
 have p2:Own w.heap.size w2 44 .u32 bd1 m c2 (dg 4294967296 U):=o2.mono b1.size
 have b12:=qw b1 b2
 have ln:=Lib.hid o1.len
 have lm:=Lib.hid o2.len
 have hn1:n≤na:=by rw [←ln.out];exact Ag 4294967296 (by omega) na V V1.out
 have hm1:m≤nb:=by rw [←lm.out];exact Ag 4294967296 (by omega) nb U U1.out
 have hnc:=o1.le
 have hmc:=o2.le
 have eV:=Bz 4294967296 (by omega) V V0
 have eU:=Bz 4294967296 (by omega) U U0
 rw [show ((4294967296:Nat):Int)=4294967296 from rfl] at eV eU
 have EV:=Lib.hid eV
 have EU:=Lib.hid eU
 clear N2' o1 b1 b2 eV eU
 by_cases hU:U=0
 ·subst hU
  obtain rfl:m=0:=by rw [←lm.out,Ak];rfl
  have E1:Hid (zs=[]):=by have:=HZ.out;rw [Int.ediv_zero,Ak] at this;exact this
  have E2:Hid (rs=[]):=by have:=HR.out;unfold O0 at this;rw [if_pos rfl,Ak] at this;exact this
  have E3:Hid (ok=false):=Lib.hid (by have:=HO.out;simpa using this)
  go_wp2_with fail
  go_ret3
  rw [E1.out,E2.out,E3.out]
  exact ⟨_,_,_,_,_,_,rfl,Own.nil _ _ _ _ _,Own.nil _ _ _ _ _,b12,fun h=>by omega⟩
 ·have E3:Hid (ok=true):=Lib.hid (by have:=HO.out;simpa [hU] using this)
  have E2:Hid (rs=dg 4294967296 (V % U)):=by have:=HR.out;unfold O0 at this;rw [if_neg hU] at this;exact this
  have hUp:0<U:=by omega
  have hm0:0<m:=by
   rcases Nat.eq_zero_or_pos m with h | h
   ·exfalso
    have e:=lm.out
    rw [h,List.length_eq_zero_iff,Jp 4294967296 U (by omega) U0] at e
    omega
   ·exact h
  clear HR HO hU
  obtain rfl:=E3.out
  clear E3
  by_cases hmm:m=1
  ·subst hmm
   have hU2:U<4294967296:=by
    have:=Lt 4294967296 (by omega) 1 U U0 (by rw [lm.out];omega)
    simpa using this
   obtain ⟨a,rfl,hc⟩:=o2.rds.cell 0 (by omega)
   have ea:a.add 0=a:=by unfold Addr.add;simp
   rw [qnt hUp hU2,ea] at hc
   have hc2:w2.cell? a=some (.int .u32 U):=by simpa using hc
   have S:=Tf ad1 n c1 (dg 4294967296 V) U w2 (by omega) p1.rds (A8 4294967296 (by omega) _) ⟨hUp,hU2⟩
   rw [EV.out] at S
   have HS:=Lib.hid S
   have r0:=Int.emod_nonneg V (show U≠0 by omega)
   have r1:=Int.emod_lt_of_pos V hUp
   have HF:=fun (w3:World)=>Lib.hid (L9 (V % U) w3 r0 (by omega))
   clear hc S ea hm0
   go_wp2_with fail
   with_reducible refine (HS.out).mono ?_
   rintro e w3 ⟨qd,qn,qc,rfl,oq,b3⟩
   have HF3:=HF w3
   clear HF HS
   go_wp2_with fail
   with_reducible refine (HF3.out).mono ?_
   rintro e w4 ⟨rd,rn,rc,rfl,or,b4⟩
   clear HF3
   go_wp2_with fail
   go_ret3
   rw [HZ.out,E2.out]
   refine ⟨_,_,_,_,_,_,rfl,(oq.mono b12.size).below b4 (Nat.le_refl _),or.mono (by have:=b3.size;have:=b12.size;omega),qw b12 (qw b3 b4),fun c1 c2 a a2 e1 e2=>?_⟩
   obtain ⟨x1,_,f1,_,f3,_⟩:=oq.row c1
   obtain ⟨x2,_,k1,k2,_⟩:=or.row c2
   rw [f1] at e1
   rw [k1] at e2
   injection e1 with e1
   injection e2 with e2
   subst e1 e2
   have:=(Array.getElem?_eq_some_iff.1 f3).1
   show x1≠x2
   omega
  ·have hm2:2≤m:=by omega
   have hme0:((m:Int) == 0)=false:=by simp;omega
   have hme1:((m:Int) == 1)=false:=by simp;omega
   have C:=Pj ad1 bd1 n m c1 c2 (dg 4294967296 V) (dg 4294967296 U) w2 (by omega) (by omega) hnc hmc p1.rds p2.rds (A8 4294967296 (by omega) _) (A8 4294967296 (by omega) _)
   rw [EV.out,EU.out] at C
   by_cases hlt:V<U
   ·rw [Fp hlt] at C
    have HC:=Lib.hid C
    have E1:Hid (zs=[]):=by have:=HZ.out;rw [Int.ediv_eq_zero_of_lt V0 hlt,Ak] at this;exact this
    have E4:Hid (rs=dg 4294967296 V):=by have:=E2.out;rw [Int.emod_eq_of_lt V0 hlt] at this;exact this
    clear C hmm
    go_wp2_with fail
    with_reducible refine (HC.out).mono ?_
    rintro e w3 ⟨rfl,q,rfl⟩
    clear HC
    go_wp2_with fail
    go_ret3
    rw [E1.out,E4.out]
    exact ⟨_,_,_,_,_,_,rfl,Own.nil _ _ _ _ _,p1.below (below_drewN (Below.refl _ _) q) (Nat.le_refl _),below_drewN b12 q,fun h=>by omega⟩
   ·have hge:¬D5 V U<0:=by have:=qlz (show U≤V by omega);omega
    have hle:m≤n:=by
     rcases Nat.lt_or_ge n m with h | h
     ·exfalso
      have k:=Ij (b:=4294967296) (by omega) (A8 4294967296 (by omega) V.toNat) (A8 4294967296 (by omega) U.toNat) (J3 4294967296 (by omega) U) (show (dg 4294967296 V).length<(dg 4294967296 U).length by rw [ln.out,lm.out];exact h)
      have k2:val 4294967296 (dg 4294967296 V)<val 4294967296 (dg 4294967296 U):=k
      rw [EV.out,EU.out] at k2
      omega
     ·exact h
    have htop:=Oo (b:=4294967296) (J3 4294967296 (by omega) U) (m-1) (by rw [lm.out];omega)
    have L:=fun (w3:World) (b3:Below w2.heap.size w2 w3)=>qdz ad1 bd1 n m c1 c2 (dg 4294967296 V) (dg 4294967296 U) w3 (by omega) hm2 hle hnc hmc (p1.rds.below b3 (Nat.le_refl _)) (p2.rds.below b3 (Nat.le_refl _)) (A8 4294967296 (by omega) _) (A8 4294967296 (by omega) _) htop
    rw [EV.out,EU.out,←HZ.out,←E2.out] at L
    have HC:=Lib.hid C
    obtain ⟨cc,hcc⟩:∃cc,D5 V U=cc:=⟨_,rfl⟩
    rw [hcc] at HC hge
    clear C hcc htop hmm
    have HL:=fun (w3:World) (b3:Below w2.heap.size w2 w3)=>Lib.hid (L w3 b3)
    clear L
    go_wp2_with fail
    with_reducible refine (HC.out).mono ?_
    rintro e w3 ⟨rfl,q,rfl⟩
    have b3:=below_drewN (Below.refl w2.heap.size w2) q
    have HL3:=HL _ b3
    generalize w2.drewN q=w3 at *
    clear HC HL
    go_wp2_with fail
    with_reducible refine (HL3.out).mono ?_
    rintro e w4 ⟨qd,qn,qc,rd,rn,rc,rfl,oq,or,b4,hsep⟩
    clear HL3
    go_wp2_with fail
    go_ret3
    have b13:=qw b12 b3
    exact ⟨_,_,_,_,_,_,rfl,oq.mono b13.size,or.mono b13.size,qw b13 b4,hsep⟩
theorem Y1 (ad bd:Option Addr) (na nb ca cb:Nat) (la lb:List Int) (w:World) (hna:na≤70368744177662) (hnb:nb≤70368744177662) (hac:na≤ca) (hbc:nb≤cb)
  (ha:Rds w .u32 ad na la) (hb:Rds w .u32 bd nb lb) (da:Dig 4294967296 la) (db:Dig 4294967296 lb) :
  Calls Tryz.prog 114 #[.slice ad na ca,.slice bd nb cb] w
   (Nv 44 .u32 (dg 4294967296 (val 4294967296 la / val 4294967296 lb)) (dg 4294967296 (O0 (val 4294967296 la) (val 4294967296 lb))) (decide (val 4294967296 lb≠0)) w):=
 qdo ad bd na nb ca cb la lb w hna hnb hac hbc ha hb da db _ _ _ (Lib.hid rfl) (Lib.hid rfl) (Lib.hid rfl)
end Go.Proofs.YtbcbmkeeoognpaaGreatDoor
