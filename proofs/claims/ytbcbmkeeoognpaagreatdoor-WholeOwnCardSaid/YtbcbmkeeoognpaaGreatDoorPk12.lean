/- Contracts of functions, and plain facts, part 12. -/
import Derived.LoopN
import Derived.Deep.RegionHeld3
import Derived.Deep.DeepCutAuto
import Derived.IntWalk
import Derived.Test.YtbcbmkeeoognpaaGreatDoorPk1
import Derived.Test.YtbcbmkeeoognpaaGreatDoorPk3
import Derived.Test.YtbcbmkeeoognpaaGreatDoorPk4
import Derived.Test.YtbcbmkeeoognpaaGreatDoorPk7
import Derived.Test.YtbcbmkeeoognpaaGreatDoorPk8
import Derived.Test.YtbcbmkeeoognpaaGreatDoorPk9
import Derived.Test.YtbcbmkeeoognpaaGreatDoorPk10
import Derived.Test.YtbcbmkeeoognpaaGreatDoorPk11
set_option linter.unusedVariables false
set_option linter.unusedSimpArgs false
namespace Go.Proofs.YtbcbmkeeoognpaaGreatDoor
open Go.RowKit
set_option maxHeartbeats 1000000 in
set_option maxRecDepth 20000 in
theorem qav (ad:Option Addr) (na ca:Nat) (la:List Int) (w:World) (hna:na≤35184372088831) (hac:na≤ca) (ha:Rds w .u32 ad na la) (da:Dig 4294967296 la) :
  Calls Tryz.prog 34 #[.slice ad na ca] w (Zx (yg (dg 256 (val 4294967296 la)).reverse) w):=by
 have N1:=Lib.hid (F6 ad na ca la w (by omega) hac ha da)
 have V0:=zt (show (0:Int)<4294967296 by omega) da
 have V1:=Lib.hid (Au (show (0:Int)<4294967296 by omega) da)
 rw [ha.len] at V1
 clear ha da
 generalize val 4294967296 la=V at *
 obtain ⟨S,HS⟩:∃S,Hid (S=yg (dg 256 V).reverse):=⟨_,rfl⟩
 rw [←HS.out]
 go_enter Tryz.func34,Tryz.ntmps34
 go_wp2_with fail
 with_reducible refine (N1.out).mono ?_
 rintro e w1 ⟨x0,n,c0,rfl,o1,b1⟩
 clear N1
 have hn0:n≤na:=by rw [←o1.len];exact Ag 4294967296 (by omega) na V V1.out
 have HL:=Lib.hid o1.len
 have hs1:=b1.size
 have dv:=A8 4294967296 (by omega) V.toNat
 have eV:=Bz 4294967296 (by omega) V V0
 rw [show ((4294967296:Nat):Int)=4294967296 from rfl] at eV
 change Dig 4294967296 (dg 4294967296 V) at dv
 have EV:=Lib.hid eV
 have DV:=Lib.hid dv
 have rx:=o1.rds
 have HNN:=Lib.hid (Jp 4294967296 V (by omega) V0)
 clear o1 eV dv V1
 generalize dg 4294967296 V=ls at *
 go_wp2_with fail
 go_loopw [3,9] (fun s3 s9 wr=>∃(bd:Option Addr) (bc k:Nat) (ds:List Int),s3=.slice bd (4*k) bc∧s9=.int .i64 k∧k≤n∧App w1.heap.size wr 5 .u8 bd (4*k) bc ds∧Dig 256 ds∧Below w1.heap.size w1 wr∧w1.heap.size≤wr.heap.size∧Hid (k=0→bd=none∧bc=0)∧Hid (val 256 ds=val 4294967296 (ls.take k))) (fun _ s9 _=>n-(intOf s9).toNat)
 case atStart=>exact ⟨none,0,0,[],rfl,rfl,by omega,App.nil _ _ _ _,Dig.nil _,Below.refl _ _,Nat.le_refl _,Lib.hid (fun _=>⟨rfl,rfl⟩),Lib.hid rfl⟩
 case round=>
  obtain ⟨bd,bc,k,ds,rfl,rfl,hk,happ,dds,hb1,hsz,hnil,hval⟩:=hrel
  by_cases hkn:k<n
  ·obtain ⟨a,rfl,hc⟩:=(rx.below hb1 (Nat.le_refl _)).cell k hkn
   have bx:=DV.out.get (by omega) k
   have hf:=qgx ls ds k (by rw [HL.out];exact hkn) happ.len hval.out bx
   obtain ⟨x,hx⟩:∃x,ls[k]?.getD 0=x:=⟨_,rfl⟩
   rw [hx] at hc bx hf
   have HF:=Lib.hid hf
   have DD:=Lib.hid (dds.append (qjz x))
   have HCS:Hid (#[Value.int .u8 (x % 256),Value.int .u8 (x / 256 % 256),Value.int .u8 (x / 65536 % 256),Value.int .u8 (x / 16777216)]=(nums .u8 (four x)).toArray):=Lib.hid (by
    have:x / 16777216 % 256=x / 16777216:=by omega
    simp [four,nums,this])
   clear hf hx hval dds
   go_wp2_with (at_builtin;refine qiu (w0:=w1) w1.heap.size rfl (.tmp 13) (.tmp 25) 122 5 .u8 1 rfl Tryz.underlying122 Ku (by omega) bd (4*k) bc ds (four x) 4 rfl (by omega) _ HCS.out rfl rfl happ hb1 hsz (by omega) ?_;intro ad3 c3 w5 k1 k2 k3)
   go_roundw
   case rel=>exact ⟨ad3,c3,k+1,_,rfl,by go_num,by omega,k1,DD.out,k2,k3,Lib.hid (fun h=>by omega),Lib.hid HF.out.2⟩
   case measure=>simp [intOf];omega
  ·obtain rfl:k=n:=by omega
   have hV:Hid (val 256 ds=V):=Lib.hid (by rw [hval.out,List.take_of_length_le (by rw [HL.out];omega),EV.out])
   have HDL:=Lib.hid happ.len
   have DDS:=Lib.hid dds
   have hrd:=happ.rds
   have hbel:=qw b1 hb1
   clear hval rx hb1 b1
   by_cases hk0:k=0
   ·have hV0:V=0:=HNN.out.1 (List.length_eq_zero_iff.1 (by rw [HL.out];exact hk0))
    have hS:Hid (S=ByteArray.empty):=Lib.hid (by rw [HS.out,hV0,Ak];rfl)
    obtain ⟨rfl,rfl⟩:=hnil.out hk0
    subst hk0
    have HR:=Lib.hid (qmq wr)
    have hcv:=run_convert_bytes_nil (P:=Tryz.prog) wr 122 5 Tryz.underlying122 Tryz.underlying5 0 0 9 Tryz.underlying9
    clear happ hV0 HS hnil
    go_wp2_with fail
    refine wp_loop_rounds 1 ?_
    rw [rounds_succ]
    go_wp2_with fail
    with_reducible refine (HR.out).mono ?_
    rintro e w' ⟨rfl,rfl⟩
    clear HR
    go_wp2_with fail
    go_ret
    rw [hS.out]
    exact ⟨rfl,hbel⟩
   ·have hkp:0<k:=by omega
    obtain ⟨g,rfl,hg,hrow⟩:=happ.own.rowAt (by omega)
    have hbc:=happ.own.le
    have hD:=Lib.hid (Ir 256 (by omega) DDS.out)
    clear happ hk0
    go_wp2_with fail
    go_loop [3] (fun s3=>∃q:Nat,q≤4*k∧s3=.slice (some ⟨g,0,none⟩) q bc∧Hid (∀j,q≤j→ds[j]?.getD 0=0)) (fun v=>match v with | .slice _ q _=>q | _=>0)
    case atStart=>exact ⟨4*k,Nat.le_refl _,rfl,Lib.hid fun j hj=>by rw [List.getElem?_eq_none (by rw [HDL.out];exact hj)];rfl⟩
    case round=>
     obtain ⟨q,hq,rfl,hz⟩:=hrel
     by_cases hq0:q=0
     ·exfalso
      have:ds=List.replicate (4*k) 0:=by
       refine List.ext_getElem? fun j=>?_
       rcases Nat.lt_or_ge j (4*k) with h1 | h1
       ·have:=hz.out j (by omega)
        rw [List.getElem?_replicate,if_pos h1]
        rw [List.getElem?_eq_getElem (by rw [HDL.out];exact h1),Option.getD_some] at this
        rw [List.getElem?_eq_getElem (by rw [HDL.out];exact h1),this]
       ·rw [List.getElem?_eq_none (by rw [HDL.out];exact h1),List.getElem?_eq_none (by simp;omega)]
      have hv0:V=0:=by rw [←hV.out,this,C9]
      have:=HNN.out.2 hv0
      have h2:=HL.out
      rw [this] at h2
      simp at h2
      omega
     ·obtain ⟨p,rfl⟩:∃p,q=p+1:=⟨q-1,by omega⟩
      obtain ⟨a,ha,hc⟩:=hrd.cell p (by omega)
      injection ha with ha
      subst ha
      rw [Ff] at hc
      have bx:=DDS.out.get (by omega) p
      obtain ⟨x,hx⟩:∃x,ds[p]?.getD 0=x:=⟨_,rfl⟩
      rw [hx] at hc bx
      have HX:=Lib.hid hx
      have W1:((p:Int)+1-1)=(p:Int):=by omega
      clear hx hq0
      by_cases hx0:x=0
      ·subst hx0
       go_wp2_with fail
       go_round
       case rel=>exact ⟨p,by omega,rfl,Lib.hid fun j hj=>by
        rcases Nat.lt_or_ge j (p+1) with h1 | h1
        ·obtain rfl:j=p:=by omega
         exact HX.out
        ·exact hz.out j h1⟩
       case measure=>simp
      ·have hx1:(x == 0)=false:=by simpa using hx0
       have hN:=Gl ds (p+1) (by rw [HDL.out];exact hq) hz.out (.inr (by rw [Nat.add_sub_cancel,HX.out];exact hx0))
       rw [hD.out,show ((256:Nat):Int)=256 from rfl,hV.out] at hN
       have hlt:(ds.take (p+1)).length=p+1:=by rw [List.length_take,HDL.out];omega
       have hS:Hid (S=yg (ds.take (p+1)).reverse):=Lib.hid (by rw [HS.out,hN])
       have HR:=Lib.hid (Zj g (p+1) bc 5 (ds.take (p+1)) wr (by omega) (by omega) (hrow.first (p+1) (by rw [HDL.out];exact hq)) hlt)
       have HRD:=Lib.hid (DDS.out.take (p+1)).reverse
       have HRL:=Lib.hid (show (ds.take (p+1)).reverse.length=p+1 by rw [List.length_reverse];exact hlt)
       clear hN hlt hx0 hrow HX hz
       go_wp2_with fail
       with_reducible refine (HR.out).mono ?_
       rintro e w4 ⟨rfl,r1,o1⟩
       have rd:=r1.rds
       rw [HRL.out] at rd
       have hcv:=Gv (P:=Tryz.prog) 122 9 5 Tryz.underlying122 Tryz.underlying5 Tryz.underlying9 w4 _ (p+1) bc _ rd HRD.out
       have hb4:=Only.below hbel (show w.heap.size≤g by omega) o1
       clear HR r1 o1 rd
       go_wp2_with fail
       go_ret
       rw [hS.out]
       exact ⟨rfl,hb4⟩
end Go.Proofs.YtbcbmkeeoognpaaGreatDoor

namespace Go.Proofs.YtbcbmkeeoognpaaGreatDoor
open Go.RowKit
theorem qgf (N M V U:Int) (hV:V=N.natAbs) (hU:U=M.natAbs):(sgI N<sgI M→D5 N M = -1)∧(sgI M<sgI N→D5 N M=1)∧(sgI N=sgI M→sgI N*D5 V U=D5 N M):=by
 have hs:∀K:Int,(K<0∧sgI K = -1)∨(K=0∧sgI K=0)∨(0<K∧sgI K=1):=fun K=>by unfold sgI;split <;> (try split) <;> omega
 rcases hs N with ⟨a,e1⟩ | ⟨a,e1⟩ | ⟨a,e1⟩ <;> rcases hs M with ⟨c,e2⟩ | ⟨c,e2⟩ | ⟨c,e2⟩ <;> rw [e1,e2]
 all_goals refine ⟨fun h=>?_,fun h=>?_,fun h=>?_⟩
 all_goals first | (exfalso;omega) | skip
 all_goals first | (rw [Fp (by omega)];done) | (rw [Gh (by omega)];done) | skip
 ·rcases Int.lt_trichotomy N M with k | k | k
  ·rw [Fp k,Gh (by omega)];rfl
  ·rw [Ip k,Ip (by omega)];rfl
  ·rw [Gh k,Fp (by omega)];rfl
 ·rw [Ip (show N=M by omega)];simp
 ·rcases Int.lt_trichotomy N M with k | k | k
  ·rw [Fp k,Fp (by omega)];rfl
  ·rw [Ip k,Ip (by omega)];rfl
  ·rw [Gh k,Gh (by omega)];rfl
set_option maxHeartbeats 1000000 in
theorem qe0 (ng1:Bool) (ad1:Option Addr) (n1 c1:Nat) (V1:Int) (ng2:Bool) (ad2:Option Addr) (n2 c2:Nat) (V2:Int) (w:World) (h1:Num w ad1 n1 c1 V1) (hn1:n1≤70368744177662) (h2:Num w ad2 n2 c2 V2) (hn2:n2≤70368744177662) :
  Calls Tryz.prog 134 #[.agg #[.bool ng1,.slice ad1 n1 c1],.agg #[.bool ng2,.slice ad2 n2 c2]] w (qin (D5 (sI ng1 V1) (sI ng2 V2)) w):=by
 have hV0:=h1.nonneg
 have hU0:=h2.nonneg
 have T1:=Lib.hid h1.lt
 have T2:=Lib.hid h2.lt
 have b0:=Below.refl w.heap.size w
 have l0:Below w.heap.size w (w.alloc (.cells #[.bool ng1,.slice ad1 n1 c1] 52)):=(Below.refl _ _).alloc (Nat.le_refl _) _
 have b1:Below w.heap.size w (w.alloc (.cells #[.bool ng1,.slice ad1 n1 c1] 52)):=qw b0 l0
 have k0:Cel (w.alloc (.cells #[.bool ng1,.slice ad1 n1 c1] 52)) w.heap.size 52 [.bool ng1,.slice ad1 n1 c1]:=Cel.made _ _ _ _ (by simp)
 have l1:Below (w.alloc (.cells #[.bool ng1,.slice ad1 n1 c1] 52)).heap.size (w.alloc (.cells #[.bool ng1,.slice ad1 n1 c1] 52)) ((w.alloc (.cells #[.bool ng1,.slice ad1 n1 c1] 52)).alloc (.cells #[.bool ng2,.slice ad2 n2 c2] 52)):=(Below.refl _ _).alloc (Nat.le_refl _) _
 have b2:Below w.heap.size w ((w.alloc (.cells #[.bool ng1,.slice ad1 n1 c1] 52)).alloc (.cells #[.bool ng2,.slice ad2 n2 c2] 52)):=qw b1 l1
 have k1:Cel ((w.alloc (.cells #[.bool ng1,.slice ad1 n1 c1] 52)).alloc (.cells #[.bool ng2,.slice ad2 n2 c2] 52)) (w.heap.size+1) 52 [.bool ng2,.slice ad2 n2 c2]:=Cel.made _ _ _ _ (by simp)
 replace k0:=k0.next l1
 replace h1:=h1.below b2 (Nat.le_refl _)
 replace h2:=h2.below b2 (Nat.le_refl _)
 clear b0 b1 l0 l1
 have hg0:w.heap.size≤w.heap.size:=Nat.le_refl _
 have hg1:w.heap.size≤w.heap.size+1:=Nat.le_add_right _ _
 have hS:=Bo ng1 ad1 n1 c1 V1 ((w.alloc (.cells #[.bool ng1,.slice ad1 n1 c1] 52)).alloc (.cells #[.bool ng2,.slice ad2 n2 c2] 52)) h1 (by omega)
 have hS2:Hid (∀w2:World,Below (((w.alloc (.cells #[.bool ng1,.slice ad1 n1 c1] 52)).alloc (.cells #[.bool ng2,.slice ad2 n2 c2] 52))).heap.size (((w.alloc (.cells #[.bool ng1,.slice ad1 n1 c1] 52)).alloc (.cells #[.bool ng2,.slice ad2 n2 c2] 52))) w2→Calls Tryz.prog 205 #[.agg #[.bool ng2,.slice ad2 n2 c2]] w2 (fun e w'=>∃ad' n' c',e=.returned (.tuple #[.int .i8 (sgI (sI ng2 V2)),.slice ad' n' c'])∧Can w' ad' n' c' V2∧Below w2.heap.size w2 w')):=Lib.hid fun w2 b2=>Bo ng2 ad2 n2 c2 V2 w2 (h2.below b2 (Nat.le_refl _)) (by omega)
 have hA1:=(F9 ng1 V1 hV0).symm
 have hA2:=(F9 ng2 V2 hU0).symm
 generalize sI ng1 V1=N at *
 generalize sI ng2 V2=M at *
 clear h1 h2
 obtain ⟨z1,z2,z3⟩:=qgf N M V1 V2 hA1 hA2
 obtain ⟨res,hres⟩:∃res,res=D5 N M:=⟨_,rfl⟩
 rw [←hres] at z1 z2 z3
 rw [←hres]
 have hs1:=Zl N
 have hs2:=Zl M
 generalize sgI N=s1 at *
 generalize sgI M=s2 at *
 have Z1:=Lib.hid z1
 have Z2:=Lib.hid z2
 have Z3:=Lib.hid z3
 have HRES:=Lib.hid hres
 clear z1 z2 z3 hres hA1 hA2
 go_enter Tryz.func134,Tryz.ntmps134
 have h:=Lib.hid hS
 clear hS
 have e0a:=k0.cell 0 _ rfl
 have e0b:=k0.cell 1 _ rfl
 have e1a:=k1.cell 0 _ rfl
 have e1b:=k1.cell 1 _ rfl
 go_wp2_with fail
 with_reducible refine (h.out).mono ?_
 rintro e v1 ⟨xd,xn,xc,rfl,f1,b⟩
 have hS3:=hS2.out _ b
 clear h hS2
 clear e0a e0b e1a e1b
 replace k0:=k0.next b
 replace k1:=k1.next b
 have bb:=qw b2 b
 clear b b2
 have b2:=bb
 clear bb
 have h:=Lib.hid (hS3)
 have e0a:=k0.cell 0 _ rfl
 have e0b:=k0.cell 1 _ rfl
 have e1a:=k1.cell 0 _ rfl
 have e1b:=k1.cell 1 _ rfl
 go_wp2_with fail
 with_reducible refine (h.out).mono ?_
 rintro e v2 ⟨yd,yn,yc,rfl,f2,b⟩
 clear h
 clear e0a e0b e1a e1b
 replace k0:=k0.next b
 replace k1:=k1.next b
 replace f1:=f1.below b (Nat.le_refl _)
 have bb:=qw b2 b
 clear b b2
 have b2:=bb
 clear bb
 clear hS3
 have hxn:xn≤n1:=f1.len_le n1 T1.out
 have hyn:yn≤n2:=f2.len_le n2 T2.out
 rcases Int.lt_trichotomy s1 s2 with h | h | h
 ·obtain rfl:=Z1.out h
  go_wp2_with fail
  go_ret
  exact ⟨rfl,b2⟩
 ·have hz:=Z3.out h
  subst h
  have hl1:¬s1<s1:=by omega
  have hcb : -1≤D5 V1 V2∧D5 V1 V2≤1:=by unfold D5;split <;> (try split) <;> omega
  have hC:=qmh xd yd xn yn xc yc V1 V2 v2 (f1.num hV0) (f2.num hU0) (by omega) (by omega)
  generalize D5 V1 V2=cc at *
  have hrb : -1≤res∧res≤1:=by rw [←hz];rcases (show s1 = -1∨s1=0∨s1=1 by omega) with rfl | rfl | rfl <;> omega
  have W1:IntKind.i64.wrap (s1*cc)=res:=by rw [hz];exact IntWalk.i64_in _ (by omega)
  have HZ:=Lib.hid hz
  clear hz
  have h:=Lib.hid (hC)
  have e0a:=k0.cell 0 _ rfl
  have e0b:=k0.cell 1 _ rfl
  have e1a:=k1.cell 0 _ rfl
  have e1b:=k1.cell 1 _ rfl
  go_wp2_with fail
  with_reducible refine (h.out).mono ?_
  rintro e w' ⟨rfl,q,rfl⟩
  clear h
  clear e0a e0b e1a e1b
  have b:Below (v2).heap.size (v2) (World.drewN (v2) q):=below_drewN (Below.refl _ _) q
  generalize World.drewN (v2) q=v3 at *
  replace k0:=k0.next b
  replace k1:=k1.next b
  replace f1:=f1.below b (Nat.le_refl _)
  replace f2:=f2.below b (Nat.le_refl _)
  have bb:=qw b2 b
  clear b b2
  have b2:=bb
  clear bb
  clear hC
  go_wp2_with fail
  go_ret
  exact ⟨rfl,b2⟩
 ·obtain rfl:=Z2.out h
  have hl1:¬s1<s2:=by omega
  go_wp2_with fail
  go_ret
  exact ⟨rfl,b2⟩
end Go.Proofs.YtbcbmkeeoognpaaGreatDoor

namespace Go.Proofs.YtbcbmkeeoognpaaGreatDoor
open Go.RowKit
end Go.Proofs.YtbcbmkeeoognpaaGreatDoor

namespace Go.Proofs.YtbcbmkeeoognpaaGreatDoor
open Go.RowKit
end Go.Proofs.YtbcbmkeeoognpaaGreatDoor

namespace Go.Proofs.YtbcbmkeeoognpaaGreatDoor
open Go.RowKit
end Go.Proofs.YtbcbmkeeoognpaaGreatDoor

set_option maxRecDepth 50000
namespace Go.Proofs.YtbcbmkeeoognpaaGreatDoor
open Go Go.RowKit
theorem y8.nilc {B:Nat} {w:World} {b:Nat} {v:Value} {L:List Hd} (h:y8 B w b v L) (k:Nat) (hk:(Df L.length v)[k]?=some (.slice none 0 0)):w.cell? ⟨b,k,none⟩=some (.slice none 0 0):=by
 have h1:=h.hd
 simp only [World.cell?,h1]
 exact hk
theorem We (b:Nat) (w:World) (hc:w.cell? ⟨b,2,none⟩=some (.slice none 0 0)):Calls Tryz.prog 65 #[.pointer (some ⟨b,0,none⟩)] w (fun e w'=>e=.returned (.tuple #[])∧w=w'):=by
 go_enter Tryz.func65,Tryz.ntmps65
 go_wp2
 refine wp_loop_rounds 1 ?_
 rw [rounds_succ]
 go_wp2
 go_end0
 exact ⟨rfl,rfl⟩
theorem Wj (b:Nat) (w:World) (hc:w.cell? ⟨b,2,none⟩=some (.slice none 0 0)):Calls Tryz.prog 79 #[.pointer (some ⟨b,0,none⟩)] w (fun e w'=>e=.returned (.tuple #[])∧w=w'):=by
 go_enter Tryz.func79,Tryz.ntmps79
 go_wp2
 refine wp_loop_rounds 1 ?_
 rw [rounds_succ]
 go_wp2
 go_end0
 exact ⟨rfl,rfl⟩
theorem Wp (b:Nat) (w:World) (hc:w.cell? ⟨b,2,none⟩=some (.slice none 0 0)):Calls Tryz.prog 93 #[.pointer (some ⟨b,0,none⟩)] w (fun e w'=>e=.returned (.bool true)∧w=w'):=by
 go_enter Tryz.func93,Tryz.ntmps93
 go_wp2
 refine wp_loop_rounds 1 ?_
 rw [rounds_succ]
 go_wp2
 go_ret
 exact ⟨rfl,rfl⟩
theorem Yh (b:Nat) (w:World) (hc:w.cell? ⟨b,3,none⟩=some (.slice none 0 0)):Calls Tryz.prog 66 #[.pointer (some ⟨b,0,none⟩)] w (fun e w'=>e=.returned (.tuple #[])∧w=w'):=by
 go_enter Tryz.func66,Tryz.ntmps66
 go_wp2
 refine wp_loop_rounds 1 ?_
 rw [rounds_succ]
 go_wp2
 go_end0
 exact ⟨rfl,rfl⟩
theorem Ym (b:Nat) (w:World) (hc:w.cell? ⟨b,3,none⟩=some (.slice none 0 0)):Calls Tryz.prog 80 #[.pointer (some ⟨b,0,none⟩)] w (fun e w'=>e=.returned (.tuple #[])∧w=w'):=by
 go_enter Tryz.func80,Tryz.ntmps80
 go_wp2
 refine wp_loop_rounds 1 ?_
 rw [rounds_succ]
 go_wp2
 go_end0
 exact ⟨rfl,rfl⟩
theorem Yr (b:Nat) (w:World) (hc:w.cell? ⟨b,3,none⟩=some (.slice none 0 0)):Calls Tryz.prog 94 #[.pointer (some ⟨b,0,none⟩)] w (fun e w'=>e=.returned (.bool true)∧w=w'):=by
 go_enter Tryz.func94,Tryz.ntmps94
 go_wp2
 refine wp_loop_rounds 1 ?_
 rw [rounds_succ]
 go_wp2
 go_ret
 exact ⟨rfl,rfl⟩
theorem Ye (b:Nat) (w:World) (hc:w.cell? ⟨b,4,none⟩=some (.slice none 0 0)):Calls Tryz.prog 67 #[.pointer (some ⟨b,0,none⟩)] w (fun e w'=>e=.returned (.tuple #[])∧w=w'):=by
 go_enter Tryz.func67,Tryz.ntmps67
 go_wp2
 refine wp_loop_rounds 1 ?_
 rw [rounds_succ]
 go_wp2
 go_end0
 exact ⟨rfl,rfl⟩
theorem Yj (b:Nat) (w:World) (hc:w.cell? ⟨b,4,none⟩=some (.slice none 0 0)):Calls Tryz.prog 81 #[.pointer (some ⟨b,0,none⟩)] w (fun e w'=>e=.returned (.tuple #[])∧w=w'):=by
 go_enter Tryz.func81,Tryz.ntmps81
 go_wp2
 refine wp_loop_rounds 1 ?_
 rw [rounds_succ]
 go_wp2
 go_end0
 exact ⟨rfl,rfl⟩
theorem Yo (b:Nat) (w:World) (hc:w.cell? ⟨b,4,none⟩=some (.slice none 0 0)):Calls Tryz.prog 95 #[.pointer (some ⟨b,0,none⟩)] w (fun e w'=>e=.returned (.bool true)∧w=w'):=by
 go_enter Tryz.func95,Tryz.ntmps95
 go_wp2
 refine wp_loop_rounds 1 ?_
 rw [rounds_succ]
 go_wp2
 go_ret
 exact ⟨rfl,rfl⟩
theorem qah (b:Nat) (w:World) (hc:w.cell? ⟨b,5,none⟩=some (.slice none 0 0)):Calls Tryz.prog 68 #[.pointer (some ⟨b,0,none⟩)] w (fun e w'=>e=.returned (.tuple #[])∧w=w'):=by
 go_enter Tryz.func68,Tryz.ntmps68
 go_wp2
 refine wp_loop_rounds 1 ?_
 rw [rounds_succ]
 go_wp2
 go_end0
 exact ⟨rfl,rfl⟩
theorem qak (b:Nat) (w:World) (hc:w.cell? ⟨b,5,none⟩=some (.slice none 0 0)):Calls Tryz.prog 82 #[.pointer (some ⟨b,0,none⟩)] w (fun e w'=>e=.returned (.tuple #[])∧w=w'):=by
 go_enter Tryz.func82,Tryz.ntmps82
 go_wp2
 refine wp_loop_rounds 1 ?_
 rw [rounds_succ]
 go_wp2
 go_end0
 exact ⟨rfl,rfl⟩
theorem qan (b:Nat) (w:World) (hc:w.cell? ⟨b,5,none⟩=some (.slice none 0 0)):Calls Tryz.prog 96 #[.pointer (some ⟨b,0,none⟩)] w (fun e w'=>e=.returned (.bool true)∧w=w'):=by
 go_enter Tryz.func96,Tryz.ntmps96
 go_wp2
 refine wp_loop_rounds 1 ?_
 rw [rounds_succ]
 go_wp2
 go_ret
 exact ⟨rfl,rfl⟩
theorem Yg (b:Nat) (w:World) (hc:w.cell? ⟨b,6,none⟩=some (.slice none 0 0)):Calls Tryz.prog 69 #[.pointer (some ⟨b,0,none⟩)] w (fun e w'=>e=.returned (.tuple #[])∧w=w'):=by
 go_enter Tryz.func69,Tryz.ntmps69
 go_wp2
 refine wp_loop_rounds 1 ?_
 rw [rounds_succ]
 go_wp2
 go_end0
 exact ⟨rfl,rfl⟩
theorem Yl (b:Nat) (w:World) (hc:w.cell? ⟨b,6,none⟩=some (.slice none 0 0)):Calls Tryz.prog 83 #[.pointer (some ⟨b,0,none⟩)] w (fun e w'=>e=.returned (.tuple #[])∧w=w'):=by
 go_enter Tryz.func83,Tryz.ntmps83
 go_wp2
 refine wp_loop_rounds 1 ?_
 rw [rounds_succ]
 go_wp2
 go_end0
 exact ⟨rfl,rfl⟩
theorem Yq (b:Nat) (w:World) (hc:w.cell? ⟨b,6,none⟩=some (.slice none 0 0)):Calls Tryz.prog 97 #[.pointer (some ⟨b,0,none⟩)] w (fun e w'=>e=.returned (.bool true)∧w=w'):=by
 go_enter Tryz.func97,Tryz.ntmps97
 go_wp2
 refine wp_loop_rounds 1 ?_
 rw [rounds_succ]
 go_wp2
 go_ret
 exact ⟨rfl,rfl⟩
theorem Yi (b:Nat) (w:World) (hc:w.cell? ⟨b,7,none⟩=some (.slice none 0 0)):Calls Tryz.prog 70 #[.pointer (some ⟨b,0,none⟩)] w (fun e w'=>e=.returned (.tuple #[])∧w=w'):=by
 go_enter Tryz.func70,Tryz.ntmps70
 go_wp2
 refine wp_loop_rounds 1 ?_
 rw [rounds_succ]
 go_wp2
 go_end0
 exact ⟨rfl,rfl⟩
theorem Yn (b:Nat) (w:World) (hc:w.cell? ⟨b,7,none⟩=some (.slice none 0 0)):Calls Tryz.prog 84 #[.pointer (some ⟨b,0,none⟩)] w (fun e w'=>e=.returned (.tuple #[])∧w=w'):=by
 go_enter Tryz.func84,Tryz.ntmps84
 go_wp2
 refine wp_loop_rounds 1 ?_
 rw [rounds_succ]
 go_wp2
 go_end0
 exact ⟨rfl,rfl⟩
theorem Yt (b:Nat) (w:World) (hc:w.cell? ⟨b,7,none⟩=some (.slice none 0 0)):Calls Tryz.prog 98 #[.pointer (some ⟨b,0,none⟩)] w (fun e w'=>e=.returned (.bool true)∧w=w'):=by
 go_enter Tryz.func98,Tryz.ntmps98
 go_wp2
 refine wp_loop_rounds 1 ?_
 rw [rounds_succ]
 go_wp2
 go_ret
 exact ⟨rfl,rfl⟩
theorem V9 (b:Nat) (w:World) (hc:w.cell? ⟨b,8,none⟩=some (.slice none 0 0)):Calls Tryz.prog 71 #[.pointer (some ⟨b,0,none⟩)] w (fun e w'=>e=.returned (.tuple #[])∧w=w'):=by
 go_enter Tryz.func71,Tryz.ntmps71
 go_wp2
 refine wp_loop_rounds 1 ?_
 rw [rounds_succ]
 go_wp2
 go_end0
 exact ⟨rfl,rfl⟩
theorem Wi (b:Nat) (w:World) (hc:w.cell? ⟨b,8,none⟩=some (.slice none 0 0)):Calls Tryz.prog 85 #[.pointer (some ⟨b,0,none⟩)] w (fun e w'=>e=.returned (.tuple #[])∧w=w'):=by
 go_enter Tryz.func85,Tryz.ntmps85
 go_wp2
 refine wp_loop_rounds 1 ?_
 rw [rounds_succ]
 go_wp2
 go_end0
 exact ⟨rfl,rfl⟩
theorem Wn (b:Nat) (w:World) (hc:w.cell? ⟨b,8,none⟩=some (.slice none 0 0)):Calls Tryz.prog 99 #[.pointer (some ⟨b,0,none⟩)] w (fun e w'=>e=.returned (.bool true)∧w=w'):=by
 go_enter Tryz.func99,Tryz.ntmps99
 go_wp2
 refine wp_loop_rounds 1 ?_
 rw [rounds_succ]
 go_wp2
 go_ret
 exact ⟨rfl,rfl⟩
theorem V8 (b:Nat) (w:World) (hc:w.cell? ⟨b,9,none⟩=some (.slice none 0 0)):Calls Tryz.prog 72 #[.pointer (some ⟨b,0,none⟩)] w (fun e w'=>e=.returned (.tuple #[])∧w=w'):=by
 go_enter Tryz.func72,Tryz.ntmps72
 go_wp2
 refine wp_loop_rounds 1 ?_
 rw [rounds_succ]
 go_wp2
 go_end0
 exact ⟨rfl,rfl⟩
theorem Wh (b:Nat) (w:World) (hc:w.cell? ⟨b,9,none⟩=some (.slice none 0 0)):Calls Tryz.prog 86 #[.pointer (some ⟨b,0,none⟩)] w (fun e w'=>e=.returned (.tuple #[])∧w=w'):=by
 go_enter Tryz.func86,Tryz.ntmps86
 go_wp2
 refine wp_loop_rounds 1 ?_
 rw [rounds_succ]
 go_wp2
 go_end0
 exact ⟨rfl,rfl⟩
theorem Wl (b:Nat) (w:World) (hc:w.cell? ⟨b,9,none⟩=some (.slice none 0 0)):Calls Tryz.prog 100 #[.pointer (some ⟨b,0,none⟩)] w (fun e w'=>e=.returned (.bool true)∧w=w'):=by
 go_enter Tryz.func100,Tryz.ntmps100
 go_wp2
 refine wp_loop_rounds 1 ?_
 rw [rounds_succ]
 go_wp2
 go_ret
 exact ⟨rfl,rfl⟩
theorem Q9 (b:Nat) (w:World) (hc:w.cell? ⟨b,10,none⟩=some (.slice none 0 0)):Calls Tryz.prog 73 #[.pointer (some ⟨b,0,none⟩)] w (fun e w'=>e=.returned (.tuple #[])∧w=w'):=by
 go_enter Tryz.func73,Tryz.ntmps73
 go_wp2
 refine wp_loop_rounds 1 ?_
 rw [rounds_succ]
 go_wp2
 go_end0
 exact ⟨rfl,rfl⟩
theorem Rf (b:Nat) (w:World) (hc:w.cell? ⟨b,10,none⟩=some (.slice none 0 0)):Calls Tryz.prog 87 #[.pointer (some ⟨b,0,none⟩)] w (fun e w'=>e=.returned (.tuple #[])∧w=w'):=by
 go_enter Tryz.func87,Tryz.ntmps87
 go_wp2
 refine wp_loop_rounds 1 ?_
 rw [rounds_succ]
 go_wp2
 go_end0
 exact ⟨rfl,rfl⟩
theorem Rh (b:Nat) (w:World) (hc:w.cell? ⟨b,10,none⟩=some (.slice none 0 0)):Calls Tryz.prog 101 #[.pointer (some ⟨b,0,none⟩)] w (fun e w'=>e=.returned (.bool true)∧w=w'):=by
 go_enter Tryz.func101,Tryz.ntmps101
 go_wp2
 refine wp_loop_rounds 1 ?_
 rw [rounds_succ]
 go_wp2
 go_ret
 exact ⟨rfl,rfl⟩
theorem qaf (b:Nat) (w:World) (hc:w.cell? ⟨b,11,none⟩=some (.slice none 0 0)):Calls Tryz.prog 74 #[.pointer (some ⟨b,0,none⟩)] w (fun e w'=>e=.returned (.tuple #[])∧w=w'):=by
 go_enter Tryz.func74,Tryz.ntmps74
 go_wp2
 refine wp_loop_rounds 1 ?_
 rw [rounds_succ]
 go_wp2
 go_end0
 exact ⟨rfl,rfl⟩
theorem qai (b:Nat) (w:World) (hc:w.cell? ⟨b,11,none⟩=some (.slice none 0 0)):Calls Tryz.prog 88 #[.pointer (some ⟨b,0,none⟩)] w (fun e w'=>e=.returned (.tuple #[])∧w=w'):=by
 go_enter Tryz.func88,Tryz.ntmps88
 go_wp2
 refine wp_loop_rounds 1 ?_
 rw [rounds_succ]
 go_wp2
 go_end0
 exact ⟨rfl,rfl⟩
theorem qal (b:Nat) (w:World) (hc:w.cell? ⟨b,11,none⟩=some (.slice none 0 0)):Calls Tryz.prog 102 #[.pointer (some ⟨b,0,none⟩)] w (fun e w'=>e=.returned (.bool true)∧w=w'):=by
 go_enter Tryz.func102,Tryz.ntmps102
 go_wp2
 refine wp_loop_rounds 1 ?_
 rw [rounds_succ]
 go_wp2
 go_ret
 exact ⟨rfl,rfl⟩
theorem Yf (b:Nat) (w:World) (hc:w.cell? ⟨b,12,none⟩=some (.slice none 0 0)):Calls Tryz.prog 75 #[.pointer (some ⟨b,0,none⟩)] w (fun e w'=>e=.returned (.tuple #[])∧w=w'):=by
 go_enter Tryz.func75,Tryz.ntmps75
 go_wp2
 refine wp_loop_rounds 1 ?_
 rw [rounds_succ]
 go_wp2
 go_end0
 exact ⟨rfl,rfl⟩
theorem Yk (b:Nat) (w:World) (hc:w.cell? ⟨b,12,none⟩=some (.slice none 0 0)):Calls Tryz.prog 89 #[.pointer (some ⟨b,0,none⟩)] w (fun e w'=>e=.returned (.tuple #[])∧w=w'):=by
 go_enter Tryz.func89,Tryz.ntmps89
 go_wp2
 refine wp_loop_rounds 1 ?_
 rw [rounds_succ]
 go_wp2
 go_end0
 exact ⟨rfl,rfl⟩
theorem Yp (b:Nat) (w:World) (hc:w.cell? ⟨b,12,none⟩=some (.slice none 0 0)):Calls Tryz.prog 103 #[.pointer (some ⟨b,0,none⟩)] w (fun e w'=>e=.returned (.bool true)∧w=w'):=by
 go_enter Tryz.func103,Tryz.ntmps103
 go_wp2
 refine wp_loop_rounds 1 ?_
 rw [rounds_succ]
 go_wp2
 go_ret
 exact ⟨rfl,rfl⟩
theorem Tv (b:Nat) (w:World) (hc:w.cell? ⟨b,13,none⟩=some (.slice none 0 0)):Calls Tryz.prog 76 #[.pointer (some ⟨b,0,none⟩)] w (fun e w'=>e=.returned (.tuple #[])∧w=w'):=by
 go_enter Tryz.func76,Tryz.ntmps76
 go_wp2
 refine wp_loop_rounds 1 ?_
 rw [rounds_succ]
 go_wp2
 go_end0
 exact ⟨rfl,rfl⟩
theorem Tz (b:Nat) (w:World) (hc:w.cell? ⟨b,13,none⟩=some (.slice none 0 0)):Calls Tryz.prog 90 #[.pointer (some ⟨b,0,none⟩)] w (fun e w'=>e=.returned (.tuple #[])∧w=w'):=by
 go_enter Tryz.func90,Tryz.ntmps90
 go_wp2
 refine wp_loop_rounds 1 ?_
 rw [rounds_succ]
 go_wp2
 go_end0
 exact ⟨rfl,rfl⟩
theorem Ua (b:Nat) (w:World) (hc:w.cell? ⟨b,13,none⟩=some (.slice none 0 0)):Calls Tryz.prog 104 #[.pointer (some ⟨b,0,none⟩)] w (fun e w'=>e=.returned (.bool true)∧w=w'):=by
 go_enter Tryz.func104,Tryz.ntmps104
 go_wp2
 refine wp_loop_rounds 1 ?_
 rw [rounds_succ]
 go_wp2
 go_ret
 exact ⟨rfl,rfl⟩
theorem qag (b:Nat) (w:World) (hc:w.cell? ⟨b,14,none⟩=some (.slice none 0 0)):Calls Tryz.prog 77 #[.pointer (some ⟨b,0,none⟩)] w (fun e w'=>e=.returned (.tuple #[])∧w=w'):=by
 go_enter Tryz.func77,Tryz.ntmps77
 go_wp2
 refine wp_loop_rounds 1 ?_
 rw [rounds_succ]
 go_wp2
 go_end0
 exact ⟨rfl,rfl⟩
theorem qaj (b:Nat) (w:World) (hc:w.cell? ⟨b,14,none⟩=some (.slice none 0 0)):Calls Tryz.prog 91 #[.pointer (some ⟨b,0,none⟩)] w (fun e w'=>e=.returned (.tuple #[])∧w=w'):=by
 go_enter Tryz.func91,Tryz.ntmps91
 go_wp2
 refine wp_loop_rounds 1 ?_
 rw [rounds_succ]
 go_wp2
 go_end0
 exact ⟨rfl,rfl⟩
theorem qam (b:Nat) (w:World) (hc:w.cell? ⟨b,14,none⟩=some (.slice none 0 0)):Calls Tryz.prog 105 #[.pointer (some ⟨b,0,none⟩)] w (fun e w'=>e=.returned (.bool true)∧w=w'):=by
 go_enter Tryz.func105,Tryz.ntmps105
 go_wp2
 refine wp_loop_rounds 1 ?_
 rw [rounds_succ]
 go_wp2
 go_ret
 exact ⟨rfl,rfl⟩
end Go.Proofs.YtbcbmkeeoognpaaGreatDoor

namespace Go.Proofs.YtbcbmkeeoognpaaGreatDoor
open Go Go.RowKit
theorem y8.held {B:Nat} {w:World} {b:Nat} {v:Value} {L:List Hd} (h:y8 B w b v L) {i:Nat} {q:Hd} (hq:L[i]?=some q) :
  ∃rb cap,v=.slice (some ⟨rb,0,none⟩) L.length cap∧B≤rb∧rb<w.heap.size∧rb≠b∧w.cell? ⟨rb,i*3,none⟩=some (.slice q.ad q.n q.c)∧w.cell? ⟨rb,i*3+1,none⟩=some (.slice q.la q.ln q.lc)∧w.cell? ⟨rb,i*3+2,none⟩=some (.int .i64 ((i:Int)+1)) ∧
   (∀j,w.frozen? ⟨rb,j,none⟩=false):=by
 have hl:i<L.length:=(List.getElem?_eq_some_iff.1 hq).1
 obtain ⟨rb,cap,rfl,h1,h2⟩:=h.row.form (by omega)
 have g:=qj5 L 0 i q hq
 have h3:=h.row_ne
 refine ⟨rb,cap,rfl,h1,h2,fun e=>h3 (by rw [e];rfl),?_,?_,?_,fun j=>h.row.frozenAt j⟩
 ·rw [h.row.cellAt (i*3) (by omega),Nat.mul_comm i 3];exact g.1
 ·rw [h.row.cellAt (i*3+1) (by omega),Nat.mul_comm i 3];exact g.2.1
 ·rw [h.row.cellAt (i*3+2) (by omega),Nat.mul_comm i 3,g.2.2];simp
theorem y8.form {B:Nat} {w:World} {b:Nat} {v:Value} {L:List Hd} (h:y8 B w b v L):∃vd vc,v=.slice vd L.length vc:=by
 rcases h.row.2 with ⟨h1,h2⟩ | ⟨g,cap,cur,h1,_⟩
 ·exact ⟨none,0,by rw [h1,h2]⟩
 ·exact ⟨_,_,h1⟩
def En (w:World) (L:List Hd) (i:Nat):Prop:=∀(q:Nat) (h:Hd) (g:Nat),q<i→L[q]?=some h→h.ad=some ⟨g,0,none⟩→∀j,j<h.n→w.cell? ⟨g,j,none⟩=some (.int .u32 (2147483648+((q:Int)+1)))
theorem En.below {B:Nat} {w w1:World} {L:List Hd} {i:Nat} (h:En w L i) (hb:Below B w w1) (hB:w.heap.size≤B):En w1 L i:=fun q p g hq hp hg j hj=>by
 have:=h q p g hq hp hg j hj
 rw [←this]
 exact hb.cell (Nat.lt_of_lt_of_le (World.block_lt_of_cell? w _ this) hB)
set_option maxHeartbeats 4000000 in
set_option maxRecDepth 100000 in
theorem qdr (B b:Nat) (v:Value) (L:List Hd) (w:World) (h:y8 B w b v L) (hB:B≤w.heap.size) :
  Calls Tryz.prog 64 #[.pointer (some ⟨b,0,none⟩)] w (fun e w'=>e=.returned (.tuple #[])∧y8 B w' b v L∧En w' L L.length∧Below B w w'):=by
 have hL:=h.len
 obtain ⟨vd,vc,rfl⟩:=h.form
 go_enter Tryz.func64,Tryz.ntmps64
 go_wp2
 go_loopw [2] (fun x wr=>∃i:Nat,i≤L.length∧x=.int .i64 i∧y8 B wr b (.slice vd L.length vc) L∧En wr L i∧Below B w wr∧B≤wr.heap.size) (fun x _=>L.length-(intOf x).toNat)
 case atStart=>exact ⟨0,Nat.zero_le _,rfl,h,fun q _ _ hq=>absurd hq (Nat.not_lt_zero _),Below.refl _ _,hB⟩
 case round=>
  clear h
  obtain ⟨i,hi,rfl,h1,h2,h3,h4⟩:=hrel
  obtain ⟨c0,c1,f0,f1⟩:=h1.cells
  by_cases hil:i<L.length
  ·obtain ⟨q,hq⟩:∃q,L[i]?=some q:=⟨_,List.getElem?_eq_getElem hil⟩
   obtain ⟨ad,n,c,la,ln,lc⟩:=q
   obtain ⟨rb,cap,hv,r1,r2,r3,e0,e1,e2,fr⟩:=h1.held hq
   simp only at e0 e1
   injection hv with hv1 _ hv2
   subst hv1 hv2
   go_wp2
   have hH0:(wr.alloc (.cells #[.slice ad n c,.slice la ln lc,.int .i64 ((i:Int)+1)] 150)).heap[wr.heap.size]?=some (.cells #[.slice ad n c,.slice la ln lc,.int .i64 ((i:Int)+1)] 150 (0,0)):=heap_alloc_new wr _
   have hb0:Below wr.heap.size wr (wr.alloc (.cells #[.slice ad n c,.slice la ln lc,.int .i64 ((i:Int)+1)] 150)):=(Below.refl _ _).alloc (Nat.le_refl _) _
   have k1:=h1.below hb0 (Nat.le_refl _)
   have k2:=h2.below hb0 (Nat.le_refl _)
   have k3:Below B w (wr.alloc (.cells #[.slice ad n c,.slice la ln lc,.int .i64 ((i:Int)+1)] 150)):=h3.alloc h4 _
   have k4:B≤(wr.alloc (.cells #[.slice ad n c,.slice la ln lc,.int .i64 ((i:Int)+1)] 150)).heap.size:=Nat.le_trans h4 hb0.size
   obtain ⟨H,hH⟩:∃H,wr.heap.size=H:=⟨_,rfl⟩
   rw [hH] at hH0 ⊢
   generalize wr.alloc (.cells #[.slice ad n c,.slice la ln lc,.int .i64 ((i:Int)+1)] 150)=w2 at *
   clear h1 h2 h3 h4 hb0 c0 c1 f0 f1 e0 e1 e2 fr hH
   have hqo:=(k1.one _ (List.mem_of_getElem? hq)).le
   have hqb:=(k1.one _ (List.mem_of_getElem? hq)).big
   simp only at hqo hqb
   go_loopw [4] (fun y wr=>∃k:Nat,k≤n∧y=.int .i64 k∧y8 B wr b (.slice (some ⟨rb,0,none⟩) L.length vc) L∧En wr L i∧(∀g,ad=some ⟨g,0,none⟩→∀j,j<k→wr.cell? ⟨g,j,none⟩=some (.int .u32 (2147483648+((i:Int)+1))))∧Below B w wr∧B≤wr.heap.size ∧
    wr.heap[H]?=some (.cells #[.slice ad n c,.slice la ln lc,.int .i64 ((i:Int)+1)] 150 (0,0))) (fun y _=>n-(intOf y).toNat)
   case atStart=>exact ⟨0,Nat.zero_le _,rfl,k1,k2,fun _ _ j hj=>absurd hj (Nat.not_lt_zero _),k3,k4,hH0⟩
   case round=>
    clear k1 k2 k3 k4 hH0
    obtain ⟨k,hk,rfl,h1,h2,h5,h3,h4,hH⟩:=hrel
    have a0:=Af hH 0
    have a2:=Af hH 2
    simp at a0 a2
    by_cases hkn:k<n
    ·obtain ⟨g,cs,hg,hgB,hgc,hgs⟩:=(h1.one _ (List.mem_of_getElem? hq)).row (by show 0<c;omega)
     simp only at hg hgs
     subst hg
     have hne:H≠g:=by
      rintro rfl
      rw [hH] at hgc
      injection hgc with hgc
      injection hgc with _ hgc
      revert hgc;decide
     have hx:wr.cell? ⟨g,k,none⟩=some (cs[k]'(by omega)):=by rw [Af hgc,Array.getElem?_eq_getElem]
     have hf:wr.frozen? ⟨g,k,none⟩=false:=frozen_of_row wr g k cs _ hgc
     have M:=V4 ((i:Int)+1)
     have n1:=h1.fill hgc k (2147483648+((i:Int)+1))
     have hHs:(wr.setCell ⟨g,k,none⟩ (.int .u32 (2147483648+((i:Int)+1)))).heap[H]?=some (.cells #[.slice (some ⟨g,0,none⟩) n c,.slice la ln lc,.int .i64 ((i:Int)+1)] 150 (0,0)):=(((Only.refl g wr).set k _).rest H hne).trans hH
     have o0:(wr.setCell ⟨g,k,none⟩ (.int .u32 (2147483648+((i:Int)+1)))).drew.cell? ⟨H,0,none⟩=some (.slice (some ⟨g,0,none⟩) n c):=Af hHs 0
     have o2:(wr.setCell ⟨g,k,none⟩ (.int .u32 (2147483648+((i:Int)+1)))).drew.cell? ⟨H,2,none⟩=some (.int .i64 ((i:Int)+1)):=Af hHs 2
     go_wp2
     go_region_held3 (fun w'=>w'.cell? ⟨H,0,none⟩=some (.slice (some ⟨g,0,none⟩) n c)∧w'.cell? ⟨H,2,none⟩=some (.int .i64 ((i:Int)+1))) (first | go_keep | exact ⟨o0,o2⟩)
      (first | (go_at_call 57;refine (M _ (by omega)).mono ?_;rintro e w' ⟨rfl,rfl⟩))
     go_wp2
     go_roundw
     case rel=>
      have hO:Only g wr (wr.setCell ⟨g,k,none⟩ (.int .u32 (2147483648+((i:Int)+1)))):=(Only.refl g wr).set k _
      have hat:(wr.setCell ⟨g,k,none⟩ (.int .u32 (2147483648+((i:Int)+1)))).heap[g]?=some (.cells (cs.setIfInBounds k (.int .u32 (2147483648+((i:Int)+1)))) 44 (0,0)):=heap_setCell_same wr g k cs _ _ hgc
      refine ⟨k+1,by omega,by go_num,n1.below (Dv (Below.refl _ _)) (Nat.le_refl _),fun p hp g2 hpi hpq hpg j hj=>?_,fun g2 hg2 j hj=>?_,Dv (je h3 g k _ hgB),?_,hHs⟩
      ·have hold:=h2 p hp g2 hpi hpq hpg j hj
       have hgg:g2≠g:=by
        rintro rfl
        refine h1.sep p i hp _ hpq hq (by omega) ?_ (by show 0<c;omega) (by rw [hpg])
        have:=(h1.one hp (List.mem_of_getElem? hpq)).le
        omega
       rw [←hold]
       exact World.cell?_of_block (hO.rest g2 hgg)
      ·injection hg2 with hg2
       injection hg2 with hg2
       subst hg2
       by_cases e:j=k
       ·subst e
        show World.cell? (World.setCell _ _ _) _=_
        rw [Af hat,Array.getElem?_setIfInBounds,if_pos rfl,if_pos (by omega)]
       ·have hold:=h5 g rfl j (by omega)
        rw [Af hgc] at hold
        show World.cell? (World.setCell _ _ _) _=_
        rw [Af hat,Array.getElem?_setIfInBounds,if_neg (Ne.symm e)]
        exact hold
      ·show B≤(World.setCell _ _ _).heap.size
       rw [hO.size];exact h4
     case measure=>simp [intOf];omega
    ·obtain rfl:k=n:=by omega
     go_wp2
     go_roundw
     case rel=>
      refine ⟨i+1,by omega,by go_num,h1,fun p hp g hpi hpq hpg j hj=>?_,h3,h4⟩
      by_cases e:p=i
      ·subst e
       rw [hq] at hpq
       injection hpq with hpq
       subst hpq
       exact h5 g hpg j hj
      ·exact h2 p hp g (by omega) hpq hpg j hj
     case measure=>simp [intOf];omega
  ·obtain rfl:i=L.length:=by omega
   go_wp2
   go_end0
   exact ⟨rfl,h1,h2,h3⟩
end Go.Proofs.YtbcbmkeeoognpaaGreatDoor

namespace Go.Proofs.YtbcbmkeeoognpaaGreatDoor
open Go.RowKit
end Go.Proofs.YtbcbmkeeoognpaaGreatDoor

namespace Go.Proofs.YtbcbmkeeoognpaaGreatDoor
open Go.RowKit
end Go.Proofs.YtbcbmkeeoognpaaGreatDoor

namespace Go.Proofs.YtbcbmkeeoognpaaGreatDoor
open Go.RowKit
end Go.Proofs.YtbcbmkeeoognpaaGreatDoor

namespace Go.Proofs.YtbcbmkeeoognpaaGreatDoor
open Go.RowKit
end Go.Proofs.YtbcbmkeeoognpaaGreatDoor

namespace Go.Proofs.YtbcbmkeeoognpaaGreatDoor
open Go.RowKit
end Go.Proofs.YtbcbmkeeoognpaaGreatDoor

namespace Go.Proofs.YtbcbmkeeoognpaaGreatDoor
open Go.RowKit
end Go.Proofs.YtbcbmkeeoognpaaGreatDoor

namespace Go.Proofs.YtbcbmkeeoognpaaGreatDoor
open Go.RowKit
def qdd (V R:Int) (ok:Bool) (w:World) (e:Ending) (w':World):Prop:=
 ∃ad n c ad2 n2 c2,e=.returned (.tuple #[.slice ad n c,.slice ad2 n2 c2,.bool ok])∧Can w' ad n c V∧Can w' ad2 n2 c2 R∧Below w.heap.size w w'
theorem Nv.can {V R:Int} {ok:Bool} {w:World} {e:Ending} {w':World} (h:Nv 44 .u32 (dg 4294967296 V) (dg 4294967296 R) ok w e w'):qdd V R ok w e w':=by
 obtain ⟨ad,n,c,ad2,n2,c2,e1,o1,o2,hb,_⟩:=h
 exact ⟨ad,n,c,ad2,n2,c2,e1,⟨o1.le,o1.rds⟩,⟨o2.le,o2.rds⟩,hb⟩
theorem qmi (ad bd:Option Addr) (n m c d:Nat) (V U:Int) (w:World) (h:Num w ad n c V) (k:Num w bd m d U) (hn:n≤70368744177662) (hm:m≤70368744177662) :
  Calls Tryz.prog 114 #[.slice ad n c,.slice bd m d] w (qdd (V / U) (O0 V U) (decide (U≠0)) w):=by
 obtain ⟨xs,h1,h2,rfl⟩:=h.row
 obtain ⟨zs,k1,k2,rfl⟩:=k.row
 exact (Y1 ad bd n m c d xs zs w (by omega) (by omega) h.le k.le h1 k1 h2 k2).mono fun e w' q=>q.can
theorem Tc (V U:Int) (hV:0≤V):0≤O0 V U:=by
 unfold O0
 split
 ·omega
 ·exact Int.emod_nonneg _ ‹_›
end Go.Proofs.YtbcbmkeeoognpaaGreatDoor

namespace Go.Proofs.YtbcbmkeeoognpaaGreatDoor
open Go.RowKit
theorem qd8 (ad:Option Addr) (n c:Nat) (V:Int) (w:World) (h:Num w ad n c V) (hn:n≤4398046511104) :
  Calls Tryz.prog 30 #[.slice ad n c] w (Zx (yg (Gw V)) w):=by
 obtain ⟨xs,h1,h2,rfl⟩:=h.row
 exact qab ad n c xs w (by omega) h.le h1 h2
theorem Zb (ad:Option Addr) (n c:Nat) (V:Int) (w:World) (h:Num w ad n c V) (hn:n≤35184372088831) :
  Calls Tryz.prog 34 #[.slice ad n c] w (Zx (yg (dg 256 V).reverse) w):=by
 obtain ⟨xs,h1,h2,rfl⟩:=h.row
 exact qav ad n c xs w (by omega) h.le h1 h2
theorem qcg (s:ByteArray) (w:World) (hs:s.size≤140737488351232) :
  Calls Tryz.prog 33 #[.string s] w (qnd (qx (qf s)) (jh (qf s)) w):=(Xe s w hs).mono fun e w' q=>q.can
end Go.Proofs.YtbcbmkeeoognpaaGreatDoor
