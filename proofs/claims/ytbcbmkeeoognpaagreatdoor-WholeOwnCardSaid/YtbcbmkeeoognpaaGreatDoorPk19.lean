/- Contracts of functions, and plain facts, part 19. -/
import Derived.Test.YtbcbmkeeoognpaaGreatDoorPk8
import Derived.Test.YtbcbmkeeoognpaaGreatDoorPk9
import Derived.Test.YtbcbmkeeoognpaaGreatDoorPk15
import Derived.Test.YtbcbmkeeoognpaaGreatDoorPk17
import Derived.Test.YtbcbmkeeoognpaaGreatDoorPk18
set_option linter.unusedVariables false
set_option linter.unusedSimpArgs false
namespace Go.Proofs.YtbcbmkeeoognpaaGreatDoor
open Go Go.RowKit
def xm (cs:List Int):Int:=if (128:Int)≤cs[0]?.getD 0 then y7 cs-256 ^ cs.length else y7 cs
theorem qgd (s:ByteArray) (i:Nat) (hi:i<s.size):s[s.size-1-i]?.map (fun b=>(b.toNat:Int))=some ((qf s).reverse[i]?.getD 0):=by
 rw [bytes_at s _ (by omega),List.getElem?_reverse (by rw [zu];exact hi),zu]
def FS (rs XS:List Int) (i:Nat):Prop:=Le rs XS i∧XS.length=(i+3) / 4
theorem qj1 (rs:List Int):FS rs [] 0:=⟨qdj rs 0,rfl⟩
theorem qnv {rs XS:List Int} {i:Int} (h0:0≤i) (h:FS rs XS i.toNat) (h4:i % 4=0):Le rs (XS++[0]) i.toNat∧(XS++[0]).length=i.toNat / 4+1:=by
 obtain ⟨h1,h2⟩:=h
 have hl:XS.length=i.toNat / 4:=by omega
 refine ⟨⟨h1.dig.append (Dig.cons (by omega) (by omega) (Dig.nil _)),by rw [val_append,←h1.worth];simp [val],fun q hq=>?_,?_⟩,by simp [hl]⟩
 ·rw [List.getElem?_append_right (by omega)]
  rw [show (([0]:List Int)[q-XS.length]?)=none from List.getElem?_eq_none (by simp;omega)];rfl
 ·rw [←hl,List.getElem?_append_right (by omega),Nat.sub_self]
  exact Int.pow_pos (by omega)
theorem ql8 {rs XS:List Int} {i:Int} (h0:0≤i) (h:FS rs XS i.toNat) (h4:¬i % 4=0):Le rs XS i.toNat∧XS.length=i.toNat / 4+1:=⟨h.1,by have:=h.2;omega⟩
theorem qfi {rs XS:List Int} {i:Int} (h0:0≤i) (hi:i<rs.length) (dr:Dig 256 rs) (h:Le rs XS i.toNat∧XS.length=i.toNat / 4+1) :
  FS rs (XS.set (i / 4).toNat (XS[(i / 4).toNat]?.getD 0+rs[i.toNat]?.getD 0*256 ^ (i % 4).toNat)) (i+1).toNat∧(0≤XS[(i / 4).toNat]?.getD 0+rs[i.toNat]?.getD 0*256 ^ (i % 4).toNat∧XS[(i / 4).toNat]?.getD 0+rs[i.toNat]?.getD 0*256 ^ (i % 4).toNat<4294967296)∧(i / 4).toNat<XS.length:=by
 obtain ⟨h1,h2⟩:=h
 have e1:(i / 4).toNat=i.toNat / 4:=by omega
 have e2:(i % 4).toNat=i.toNat % 4:=by omega
 rw [e1,e2]
 obtain ⟨a,b,c⟩:=qgb rs XS i.toNat (by omega) dr (by omega) h1 _ rfl
 refine ⟨⟨by rw [show (i+1).toNat=i.toNat+1 by omega];exact a,by rw [List.length_set];omega⟩,⟨b,c⟩,by omega⟩
theorem N9 (b r:Int) (hb:0≤b∧b<256) (hr:0≤r∧r<4):IntKind.u32.wrap (b*2 ^ (min (8*r).toNat IntKind.u32.bits))=b*256 ^ r.toNat:=by
 have e:min (8*r).toNat IntKind.u32.bits=8*r.toNat:=by show min _ 32=_;omega
 have e2:(2:Int) ^ (8*r.toNat)=256 ^ r.toNat:=by rw [Int.pow_mul];rfl
 rw [e,e2]
 have h1:(256:Int) ^ r.toNat≤256 ^ 3:=Ew (by omega) (by omega)
 have hp:(0:Int)<256 ^ r.toNat:=Int.pow_pos (by omega)
 rw [show (256:Int) ^ 3=16777216 from rfl] at h1
 have h2:b*256 ^ r.toNat≤255*256 ^ r.toNat:=Int.mul_le_mul_of_nonneg_right (by omega) (by omega)
 have h3:0≤b*256 ^ r.toNat:=Int.mul_nonneg hb.1 (by omega)
 exact Oc (by omega)
theorem qnw (s:ByteArray) (hs:s.size≤1048576):yz 262144 (y7 (qf s))∧0≤y7 (qf s):=by
 have h0:=Lp _ (Jn s)
 refine ⟨?_,h0⟩
 have h1:=Au (b:=256) (by omega) (Jn s).reverse
 rw [List.length_reverse,zu] at h1
 unfold yz
 rw [←qco]
 have h2:(256:Int) ^ s.size≤256 ^ (4*262144):=Ew (by omega) (by omega)
 unfold y7 at *
 omega
theorem qnx (n:Nat):val 4294967296 ((List.replicate (n / 4+1) 0).set (n / 4) (1*256 ^ (n % 4)))=256 ^ n∧Dig 4294967296 ((List.replicate (n / 4+1) 0).set (n / 4) (1*256 ^ (n % 4))):=by
 have h1:(256:Int) ^ (n % 4)≤256 ^ 3:=Ew (by omega) (by omega)
 have hp:(0:Int)<256 ^ (n % 4):=Int.pow_pos (by omega)
 rw [show (256:Int) ^ 3=16777216 from rfl] at h1
 refine ⟨?_,(Dig.replicate _ (by omega) _).set (by omega) (by omega) _⟩
 rw [Nl _ _ _ _ (by simp),C9,List.getElem?_replicate,if_pos (by omega)]
 simp only [Option.getD_some,Int.sub_zero,Int.zero_add,Int.one_mul]
 rw [←qco,←Int.pow_add]
 congr 1
 omega
theorem qma (n:Int) (h:0≤n):(val 4294967296 ((List.replicate (n / 4+1).toNat 0).set (n / 4).toNat (1*256 ^ (n % 4).toNat))=256 ^ n.toNat∧Dig 4294967296 ((List.replicate (n / 4+1).toNat 0).set (n / 4).toNat (1*256 ^ (n % 4).toNat))):=by
 have:=qnx n.toNat
 rw [show (n / 4+1).toNat=n.toNat / 4+1 by omega,show (n / 4).toNat=n.toNat / 4 by omega,show (n % 4).toNat=n.toNat % 4 by omega]
 exact this
theorem qny (n:Int) (h:0≤n∧n≤1048576):yz 262145 (256 ^ n.toNat):=by
 rw [show (256:Int)=2 ^ 8 from rfl,←Int.pow_mul]
 exact ql6 _ _ (by omega)
end Go.Proofs.YtbcbmkeeoognpaaGreatDoor

namespace Go.Proofs.YtbcbmkeeoognpaaGreatDoor
open Go Go.RowKit
theorem qov {X:Int} (hX:X≠0) {v:Value} {w:World} {B:Bx} (h:(Xy X).p v w B):(IsB (decide (X<0))).p v w B:=by
 obtain ⟨ng,e,h⟩:=h
 show v=.bool _
 rw [e]
 congr 1
 unfold sI at h
 cases ng
 ·rw [if_neg (by simp)] at h
  exact (decide_eq_false (by omega)).symm
 ·rw [if_pos rfl] at h
  exact (decide_eq_true (by omega)).symm
theorem qg7 {s V:Int} (hV:0≤V):(decide (s = -1) && decide (0<((dg 4294967296 V).length:Int)))=decide ((if s = -1 then -V else V)<0):=by
 have h:=Fz hV
 by_cases h1:s = -1
 ·rw [decide_eq_true h1,if_pos h1,Bool.true_and]
  refine decide_eq_decide.2 ?_
  constructor
  ·intro h2
   rcases Int.lt_or_eq_of_le hV with h3 | h3
   ·omega
   ·exact absurd (h.2 h3.symm) (by omega)
  ·intro h2
   rcases Int.lt_or_eq_of_le (show (0:Int)≤((dg 4294967296 V).length:Int) by omega) with h3 | h3
   ·exact h3
   ·exact absurd (h.1 h3.symm) (by omega)
 ·rw [decide_eq_false h1,if_neg h1,Bool.false_and]
  exact (decide_eq_false (by omega)).symm
theorem qkj {s V:Int} (hV:0≤V):V=((if s = -1 then -V else V).natAbs:Int):=by split <;> omega
theorem qfp (X:Int):(if sgI X = -1 then -((X.natAbs:Int)) else (X.natAbs:Int))=X:=by
 unfold sgI
 by_cases h:X<0
 ·rw [if_pos h,if_pos rfl];omega
 ·rw [if_neg h]
  by_cases h0:X=0
  ·subst h0;rfl
  ·rw [if_neg h0,if_neg (by omega)];omega
set_option maxRecDepth 20000 in
set_option maxHeartbeats 2000000 in
theorem Dp (X:Int):Con Tryz.prog 205 [IsN X] (Tup [Lit (.int .i8 (sgI X)),zg ((X).natAbs:Int)]):=by
 refine Ba (N:=17) Tryz.ntmps205 (fun _ _=>by go_simp) Tryz.func205 rfl (by simp) ?_
 intro a0 w0 B0 H0
 replace H0:St 17 w0 B0 a0 w0 B0 [(0,.val (IsN X))] []:=H0
 refine wp_seq ?_
 refine zf (dsts:=[some 1,some 2,some 3]) (refs:=[[.pre 0],[],[]]) (outs:=[.res 0,.res 1,.res 2]) (als:=[true,false,false]) (posts:=[.box 52 2 (IsN X),.val (Lit (.int .i8 0)),.val (zg 0)])
  (out:=[(1,.box 52 2 (IsN X)),(2,.val (Lit (.int .i8 0))),(3,.val (zg 0))]) (nb:=[1]) H0 3 [] rfl (by kernel_rfl) rfl rfl ?_ ?_
 ·refine .cons (.plain rfl (Bq (.tmp 0 rfl) Bc.two)) ?_
  refine .cons (.plain rfl (qm (.lit))) ?_
  refine .cons (.plain rfl (qm (.const (fun w B=>Ej _ w B rfl)))) ?_
  exact .nil
 clear H0
 intro a1 w1 B1 H1
 simp only [List.cons_append,List.nil_append] at H1
 refine qi ?_
 refine qg ?_
 refine wp_seq ?_
 refine zf (dsts:=[some 5,some 6,some 7,some 4]) (refs:=[[.pre 0],[.res 0],[.res 1],[.res 2]]) (outs:=[.res 3,.pre 0,.pre 1,.pre 2]) (als:=[false,false,false,false]) (posts:=[.ptr 52 2 (IsN X) 1,.val (IsM ((X).natAbs:Int)),.val (zg ((X).natAbs:Int)),.val (zg ((X).natAbs:Int))])
  (out:=[(4,.val (zg ((X).natAbs:Int))),(1,.box 52 2 (IsN X)),(2,.val (Lit (.int .i8 0))),(3,.val (zg 0))]) (nb:=[]) H1 4 [] rfl (by kernel_rfl) rfl rfl ?_ ?_
 ·refine .cons (.plain rfl (Ar (.tmp 0 rfl))) ?_
  refine .cons (.plain rfl (Cb (.tmp 0 rfl))) ?_
  refine .cons (.plain rfl (zl (Lr ((X).natAbs:Int)) (.cons (.tmp 0 rfl) (.nil)))) ?_
  refine .cons (.plain rfl (qm (.tmp 0 rfl))) ?_
  exact .nil
 clear H1 a1 w1 B1
 intro a2 w2 B2 H2
 refine qi ?_
 refine qg ?_
 refine wp_seq ?_
 refine wp_block ?_
 refine wp_seq ?_
 rcases (Decidable.em (X=0)) with c0 | c0
 ·have c1:((dg 4294967296 ((X).natAbs:Int)).length:Int)=0:=by rw [c0];simp [Ak]
  have e1:(0:Int)=sgI X:=by rw [c0];rfl
  have e2:(0:Int)=((X).natAbs:Int):=by rw [c0];rfl
  refine zf (dsts:=[some 9,some 10,some 11,some 8]) (refs:=[[.pre 0],[.res 0],[.res 1],[.res 2]]) (outs:=[.res 3,.pre 0,.pre 1,.pre 2,.pre 3]) (als:=[false,false,false,false]) (posts:=[.val (zg ((X).natAbs:Int)),.val (Lit (.int .i64 ((dg 4294967296 ((X).natAbs:Int)).length:Int))),.val (IsB true),.val (IsB true)])
   (out:=[(8,.val (IsB true)),(4,.val (zg ((X).natAbs:Int))),(1,.box 52 2 (IsN X)),(2,.val (Lit (.int .i8 0))),(3,.val (zg 0))]) (nb:=[]) H2 4 [] rfl (by kernel_rfl) rfl rfl ?_ ?_
  ·refine .cons (.plain rfl (qh (.tmp 0 rfl))) ?_
   refine .cons (.plain rfl (Gm (.weak (.tmp 0 rfl) Np))) ?_
   refine .cons (.plain rfl (jq (b:=true) (.tmp 0 rfl) (.lit) ((decide_eq_true (c1)).symm))) ?_
   refine .cons (.plain rfl (qm (.tmp 0 rfl))) ?_
   exact .nil
  clear H2 a2 w2 B2
  intro a3 w3 B3 H3
  refine qi ?_
  refine qg ?_
  refine Iq H3 (.tmp 0 rfl) ?_
  refine wp_seq ?_
  refine zf (dsts:=[some 2,some 3]) (refs:=[[],[]]) (outs:=[.res 0,.res 1,.pre 1,.pre 2]) (als:=[false,false]) (posts:=[.val (Lit (.int .i8 0)),.val (zg 0)])
   (out:=[(2,.val (Lit (.int .i8 0))),(3,.val (zg 0)),(4,.val (zg ((X).natAbs:Int))),(1,.box 52 2 (IsN X))]) (nb:=[]) H3 2 [] rfl (by kernel_rfl) rfl rfl ?_ ?_
  ·refine .cons (.plain rfl (qm (.lit))) ?_
   refine .cons (.plain rfl (qm (.const (fun w B=>Ej _ w B rfl)))) ?_
   exact .nil
  clear H3 a3 w3 B3
  intro a4 w4 B4 H4
  refine qi ?_
  refine qg ?_
  refine wp_ret ?_
  refine D7 ?_
  refine yh ?_
  exact Dj H4 rfl rfl (.tmp 0 rfl (fun v w B h=>by exact Gz (by assumption) h) (.tmp 1 rfl (fun v w B h=>by exact Gi (by assumption) h) (.nil)))
 ·have c1:¬((dg 4294967296 ((X).natAbs:Int)).length:Int)=0:=fun h=>c0 (by have:=(Fz (V:=((X).natAbs:Int)) (by omega)).1 h;omega)
  refine zf (dsts:=[some 9,some 10,some 11,some 8]) (refs:=[[.pre 0],[.res 0],[.res 1],[.res 2]]) (outs:=[.res 3,.pre 0,.pre 1,.pre 2,.pre 3]) (als:=[false,false,false,false]) (posts:=[.val (zg ((X).natAbs:Int)),.val (Lit (.int .i64 ((dg 4294967296 ((X).natAbs:Int)).length:Int))),.val (IsB false),.val (IsB false)])
   (out:=[(8,.val (IsB false)),(4,.val (zg ((X).natAbs:Int))),(1,.box 52 2 (IsN X)),(2,.val (Lit (.int .i8 0))),(3,.val (zg 0))]) (nb:=[]) H2 4 [] rfl (by kernel_rfl) rfl rfl ?_ ?_
  ·refine .cons (.plain rfl (qh (.tmp 0 rfl))) ?_
   refine .cons (.plain rfl (Gm (.weak (.tmp 0 rfl) Np))) ?_
   refine .cons (.plain rfl (jq (b:=false) (.tmp 0 rfl) (.lit) ((decide_eq_false (c1)).symm))) ?_
   refine .cons (.plain rfl (qm (.tmp 0 rfl))) ?_
   exact .nil
  clear H2 a2 w2 B2
  intro a5 w5 B5 H5
  refine qi ?_
  refine qg ?_
  refine Fq H5 (.tmp 0 rfl) ?_
  refine wp_seq ?_
  refine zf (dsts:=[some 13,some 14,some 12]) (refs:=[[.pre 2],[.res 0],[.res 1]]) (outs:=[.res 2,.pre 1,.pre 3,.pre 4]) (als:=[false,false,false]) (posts:=[.ptr 52 2 (IsN X) 0,.val (Xy X),.val (Xy X)])
   (out:=[(12,.val (Xy X)),(4,.val (zg ((X).natAbs:Int))),(2,.val (Lit (.int .i8 0))),(3,.val (zg 0))]) (nb:=[]) H5 3 [] rfl (by kernel_rfl) rfl rfl ?_ ?_
  ·refine .cons (.plain rfl (Ri (.tmp 0 rfl))) ?_
   refine .cons (.plain rfl (Su (.tmp 0 rfl))) ?_
   refine .cons (.plain rfl (qm (.tmp 0 rfl))) ?_
   exact .nil
  clear H5 a5 w5 B5
  intro a6 w6 B6 H6
  refine qi ?_
  refine qg ?_
  have H7:=St.set1 H6 0 (D':=IsB (decide (X<0))) rfl (fun v w B h=>qov c0 h) (l':=[(12,.val (IsB (decide (X<0)))),(4,.val (zg ((X).natAbs:Int))),(2,.val (Lit (.int .i8 0))),(3,.val (zg 0))]) rfl
  clear H6
  refine Aa H7 (.tmp 0 rfl) ?_ ?_
  ·intro hc8
   replace hc8:=of_decide_eq_true hc8
   have e1:(-1:Int)=sgI X:=by unfold sgI;rw [if_pos hc8]
   have e2:((X).natAbs:Int)=((X).natAbs:Int):=rfl
   refine wp_seq ?_
   refine zf (dsts:=[some 15,some 2,some 3]) (refs:=[[.pre 1],[],[.res 0]]) (outs:=[.res 1,.res 2,.pre 1]) (als:=[false,false,false]) (posts:=[.val (zg ((X).natAbs:Int)),.val (Lit (.int .i8 (-1))),.val (zg ((X).natAbs:Int))])
    (out:=[(2,.val (Lit (.int .i8 (-1)))),(3,.val (zg ((X).natAbs:Int))),(4,.val (zg ((X).natAbs:Int)))]) (nb:=[]) H7 3 [] rfl (by kernel_rfl) rfl rfl ?_ ?_
   ·refine .cons (.plain rfl (qh (.tmp 0 rfl))) ?_
    refine .cons (.plain rfl (qm (.lit))) ?_
    refine .cons (.plain rfl (qm (.tmp 0 rfl))) ?_
    exact .nil
   clear H7 a6 w6 B6
   intro a9 w9 B9 H9
   refine qi ?_
   refine qg ?_
   refine wp_ret ?_
   refine D7 ?_
   refine yh ?_
   exact Dj H9 rfl rfl (.tmp 0 rfl (fun v w B h=>by exact Gz (by assumption) h) (.tmp 1 rfl (fun v w B h=>by exact Gi (by assumption) h) (.nil)))
  ·intro hc8
   replace hc8:=of_decide_eq_false hc8
   have e1:(1:Int)=sgI X:=by unfold sgI;rw [if_neg hc8,if_neg c0]
   have e2:((X).natAbs:Int)=((X).natAbs:Int):=rfl
   refine wp_skip ?_
   refine kw ?_
   refine qg ?_
   refine wp_seq ?_
   refine zf (dsts:=[some 16,some 2,some 3]) (refs:=[[.pre 1],[],[.res 0]]) (outs:=[.res 1,.res 2]) (als:=[false,false,false]) (posts:=[.val (zg ((X).natAbs:Int)),.val (Lit (.int .i8 1)),.val (zg ((X).natAbs:Int))])
    (out:=[(2,.val (Lit (.int .i8 1))),(3,.val (zg ((X).natAbs:Int)))]) (nb:=[]) H7 3 [] rfl (by kernel_rfl) rfl rfl ?_ ?_
   ·refine .cons (.plain rfl (qh (.tmp 0 rfl))) ?_
    refine .cons (.plain rfl (qm (.lit))) ?_
    refine .cons (.plain rfl (qm (.tmp 0 rfl))) ?_
    exact .nil
   clear H7 a6 w6 B6
   intro a10 w10 B10 H10
   refine qi ?_
   refine qg ?_
   refine wp_ret ?_
   exact Dj H10 rfl rfl (.tmp 0 rfl (fun v w B h=>by exact Gz (by assumption) h) (.tmp 1 rfl (fun v w B h=>by exact Gi (by assumption) h) (.nil)))
set_option maxRecDepth 20000 in
set_option maxHeartbeats 2000000 in
theorem Qw (k:Option Nat) (s V:Int):Con Tryz.prog 206 [Lit (.int .i8 s),Ac k (IsC V)] (qj k (IsI (if s = -1 then -V else V))):=by
 refine Ba (N:=14) Tryz.ntmps206 (fun _ _=>by go_simp) Tryz.func206 rfl (by simp) ?_
 intro a0 w0 B0 H0
 replace H0:St 14 w0 B0 a0 w0 B0 [(0,.val (Lit (.int .i8 s))),(1,.val (Ac k (IsC V)))] []:=H0
 have hV:0≤V:=by obtain ⟨_,_,_,_,_,_,_,h⟩:=H0.fc.get 1 rfl;exact h
 refine wp_seq ?_
 refine zf (dsts:=[some 4]) (refs:=[[]]) (outs:=[.res 0,.pre 0,.pre 1]) (als:=[true]) (posts:=[.box 52 2 (qp)])
  (out:=[(4,.box 52 2 (qp)),(0,.val (Lit (.int .i8 s))),(1,.val (Ac k (IsC V)))]) (nb:=[4]) H0 1 [] rfl (by kernel_rfl) rfl rfl ?_ ?_
 ·refine .cons (.plain rfl (yw (D:=qp) Dq rfl (fun _ _=>rfl))) ?_
  exact .nil
 clear H0
 intro a1 w1 B1 H1
 simp only [List.cons_append,List.nil_append] at H1
 refine qi ?_
 refine qg ?_
 refine wp_seq ?_
 refine zf (dsts:=[some 5,some 6,some 7,some 8,some 9,some 10,some 11,some 12,some 13]) (refs:=[[.pre 1],[.res 0],[.res 1],[.res 2,.pre 2],[.res 2,.res 3],[.res 2,.res 4],[.res 2,.res 5],[.pre 2],[.res 6,.res 7]]) (outs:=[.res 8,.pre 0]) (als:=[false,false,false,false,false,false,false,false,false]) (posts:=[.val (Lit (.int .i8 s)),.val (IsB (decide (s = -1))),.val (IsB (decide (s = -1))),.val (Grd ((decide (s = -1)) == true) (Ac k (IsC V))),.val (Grd ((decide (s = -1)) == true) (Lit (.int .i64 ((dg 4294967296 V).length:Int)))),.val (Grd ((decide (s = -1)) == true) (IsB (decide (0<((dg 4294967296 V).length:Int))))),.val (IsB ((decide (s = -1)) && (decide (0<((dg 4294967296 V).length:Int))))),.val (Ac k (IsC V)),.val (qj k (IsI (if s = -1 then -V else V)))])
  (out:=[(13,.val (qj k (IsI (if s = -1 then -V else V)))),(4,.box 52 2 (qp))]) (nb:=[]) H1 9 [9] rfl (by kernel_rfl) rfl rfl ?_ ?_
 ·refine .cons (.plain rfl (qh (.tmp 0 rfl))) ?_
  refine .cons (.plain rfl (jq (.tmp 0 rfl) (.lit) rfl)) ?_
  refine .cons (.plain rfl (qh (.tmp 0 rfl))) ?_
  refine .cons (.sym 2 true (decide (s = -1)) ((decide (s = -1)) == true) rfl rfl rfl 0 (need':=[(7,.val (IsB (decide (s = -1)))),(1,.val (Ac k (IsC V)))]) rfl rfl (fun a w B e h=>⟨h.1,h.2.1,trivial⟩) (fun e=>qh (.tmp 1 rfl))) ?_
  refine .cons (.sym 2 true (decide (s = -1)) ((decide (s = -1)) == true) rfl rfl rfl 0 (need':=[(7,.val (IsB (decide (s = -1)))),(8,.val (Ac k (IsC V)))]) rfl rfl (fun a w B e h=>⟨h.1,h.2.1.1 (e),trivial⟩) (fun e=>Gm (.weak (.tmp 1 rfl) Xr))) ?_
  refine .cons (.sym 2 true (decide (s = -1)) ((decide (s = -1)) == true) rfl rfl rfl 0 (need':=[(7,.val (IsB (decide (s = -1)))),(9,.val (Lit (.int .i64 ((dg 4294967296 V).length:Int))))]) rfl rfl (fun a w B e h=>⟨h.1,h.2.1.1 (e),trivial⟩) (fun e=>jq (.tmp 1 rfl) (.lit) rfl)) ?_
  refine .cons (.plain rfl (F8 (decide (s = -1)) (.tmp 0 rfl) (fun e=>Opd.eqB (Opd.grd (.tmp 1 rfl) (by first | (rw [e];rfl) | (simp only [e];rfl) | (simp [*] at *;done))) (by rw [e];rfl)) (fun e=>Opd.eqB (.lit) (by rw [e];rfl)))) ?_
  refine .cons (.plain rfl (qh (.tmp 0 rfl))) ?_
  refine .cons (.plain rfl (qci (.tmp 0 rfl) (.tmp 1 rfl) (qg7 hV) (qkj hV))) ?_
  exact .nil
 clear H1 a1 w1 B1
 intro a2 w2 B2 H2
 refine zi ?_
 refine ja (l':=[(13,.val (qj k (IsI (if s = -1 then -V else V)))),(4,.box 52 2 (qj k (IsI (if s = -1 then -V else V))))]) 1 H2 rfl tyI rfl (.tmp 0 rfl) jl Ro rfl rfl ?_
 clear H2 w2
 intro w3 H3
 refine qi ?_
 refine qg ?_
 refine wp_ret ?_
 exact Cc H3 tyI rfl 1 rfl (fun _ _ _ h=>h)
theorem Dt (s V:Int):Con Tryz.prog 206 [Lit (.int .i8 s),zg V] (zn (if s = -1 then -V else V)):=by
 refine ⟨fun _ _=>by go_simp,fun vs w B hB hV=>?_⟩
 match vs,hV with
 | [v,u],⟨h1,⟨h2,k,h3⟩,_⟩=>exact ((Qw k s V).calls [v,u] w B hB ⟨h1,⟨h3,h2⟩,trivial⟩).mono fun e w' ⟨r,e1,h,hb⟩=>⟨r,e1,qlh _ _ _ h,hb⟩
set_option maxRecDepth 20000 in
set_option maxHeartbeats 2000000 in
theorem qgi (X:Int):Con Tryz.prog 144 [IsN X] (zn X):=by
 refine Ba (N:=8) Tryz.ntmps144 (fun _ _=>by go_simp) Tryz.func144 rfl (by simp) ?_
 intro a0 w0 B0 H0
 replace H0:St 8 w0 B0 a0 w0 B0 [(0,.val (IsN X))] []:=H0
 refine wp_seq ?_
 refine zf (dsts:=[some 1,some 2]) (refs:=[[.pre 0],[]]) (outs:=[.res 0,.res 1]) (als:=[true,true]) (posts:=[.box 52 2 (IsN X),.box 52 2 (qp)])
  (out:=[(1,.box 52 2 (IsN X)),(2,.box 52 2 (qp))]) (nb:=[1,2]) H0 2 [] rfl (by kernel_rfl) rfl rfl ?_ ?_
 ·refine .cons (.plain rfl (Bq (.tmp 0 rfl) Bc.two)) ?_
  refine .cons (.plain rfl (yw (D:=qp) Dq rfl (fun _ _=>rfl))) ?_
  exact .nil
 clear H0
 intro a1 w1 B1 H1
 simp only [List.cons_append,List.nil_append] at H1
 refine qi ?_
 refine qg ?_
 refine wp_seq ?_
 refine zf (dsts:=[some 3,some 4,some 5,some 6,some 7]) (refs:=[[.pre 0],[.res 0],[.res 1],[.res 1],[.res 2,.res 3]]) (outs:=[.res 4,.pre 1]) (als:=[false,false,false,false,false]) (posts:=[.val (IsN X),.val (Tup [Lit (.int .i8 (sgI X)),zg ((X).natAbs:Int)]),.val (Lit (.int .i8 (sgI X))),.val (zg ((X).natAbs:Int)),.val (zn X)])
  (out:=[(7,.val (zn X)),(2,.box 52 2 (qp))]) (nb:=[]) H1 5 [5] rfl (by kernel_rfl) rfl rfl ?_ ?_
 ·refine .cons (.plain rfl (zo tyI (.tmp 0 rfl))) ?_
  refine .cons (.plain rfl (zl (Dp X) (.cons (.tmp 0 rfl) (.nil)))) ?_
  refine .cons (.plain rfl (zq 0 (.tmp 0 rfl) rfl)) ?_
  refine .cons (.plain rfl (zq 1 (.tmp 0 rfl) rfl)) ?_
  refine .cons (.plain rfl (zl ((Dt (sgI X) ((X).natAbs:Int)).weak (fun v w B h=>yj (qfp X) h)) (.cons (.tmp 0 rfl) (.cons (.tmp 1 rfl) (.nil))))) ?_
  exact .nil
 clear H1 a1 w1 B1
 intro a2 w2 B2 H2
 refine zi ?_
 refine ja (l':=[(7,.val (zn X)),(2,.box 52 2 (zn X))]) 1 H2 rfl tyI rfl (.tmp 0 rfl) jl ve rfl rfl ?_
 clear H2 w2
 intro w3 H3
 refine qi ?_
 refine qg ?_
 refine wp_ret ?_
 exact Cc H3 tyI rfl 1 rfl (fun _ _ _ h=>h)
theorem qmg (X:Int):(if -(sgI X) = -1 then -((X.natAbs:Int)) else (X.natAbs:Int)) = -X:=by
 unfold sgI
 by_cases h:X<0
 ·rw [if_pos h,if_neg (by omega)];omega
 ·rw [if_neg h]
  by_cases h0:X=0
  ·subst h0;rfl
  ·rw [if_neg h0,if_pos (by omega)];omega
theorem qnj (X:Int):IntKind.i8.wrap (-(sgI X)) = -(sgI X):=by
 have:=Zl X
 exact qoz (by omega)
set_option maxRecDepth 20000 in
set_option maxHeartbeats 2000000 in
theorem qi6 (X:Int):Con Tryz.prog 145 [IsN X] (zn (-X)):=by
 refine Ba (N:=14) Tryz.ntmps145 (fun _ _=>by go_simp) Tryz.func145 rfl (by simp) ?_
 intro a0 w0 B0 H0
 replace H0:St 14 w0 B0 a0 w0 B0 [(0,.val (IsN X))] []:=H0
 refine wp_seq ?_
 refine zf (dsts:=[some 1,some 2]) (refs:=[[.pre 0],[]]) (outs:=[.res 0,.res 1]) (als:=[true,true]) (posts:=[.box 52 2 (IsN X),.box 52 2 (qp)])
  (out:=[(1,.box 52 2 (IsN X)),(2,.box 52 2 (qp))]) (nb:=[1,2]) H0 2 [] rfl (by kernel_rfl) rfl rfl ?_ ?_
 ·refine .cons (.plain rfl (Bq (.tmp 0 rfl) Bc.two)) ?_
  refine .cons (.plain rfl (yw (D:=qp) Dq rfl (fun _ _=>rfl))) ?_
  exact .nil
 clear H0
 intro a1 w1 B1 H1
 simp only [List.cons_append,List.nil_append] at H1
 refine qi ?_
 refine qg ?_
 refine wp_seq ?_
 refine zf (dsts:=[some 6,some 7,some 5,some 8,some 9,some 3,some 4]) (refs:=[[.pre 0],[.res 0],[.res 1],[.res 2],[.res 2],[.res 3],[.res 4]]) (outs:=[.res 5,.res 6,.pre 1]) (als:=[false,false,false,false,false,false,false]) (posts:=[.val (IsN X),.val (Tup [Lit (.int .i8 (sgI X)),zg ((X).natAbs:Int)]),.val (Tup [Lit (.int .i8 (sgI X)),zg ((X).natAbs:Int)]),.val (Lit (.int .i8 (sgI X))),.val (zg ((X).natAbs:Int)),.val (Lit (.int .i8 (sgI X))),.val (zg ((X).natAbs:Int))])
  (out:=[(3,.val (Lit (.int .i8 (sgI X)))),(4,.val (zg ((X).natAbs:Int))),(2,.box 52 2 (qp))]) (nb:=[]) H1 7 [] rfl (by kernel_rfl) rfl rfl ?_ ?_
 ·refine .cons (.plain rfl (zo tyI (.tmp 0 rfl))) ?_
  refine .cons (.plain rfl (zl (Dp X) (.cons (.tmp 0 rfl) (.nil)))) ?_
  refine .cons (.plain rfl (qh (.tmp 0 rfl))) ?_
  refine .cons (.plain rfl (zq 0 (.tmp 0 rfl) rfl)) ?_
  refine .cons (.plain rfl (zq 1 (.tmp 0 rfl) rfl)) ?_
  refine .cons (.plain rfl (qm (.tmp 0 rfl))) ?_
  refine .cons (.plain rfl (qm (.tmp 0 rfl))) ?_
  exact .nil
 clear H1 a1 w1 B1
 intro a2 w2 B2 H2
 refine qi ?_
 refine qg ?_
 refine wp_seq ?_
 refine zf (dsts:=[some 10,some 11,some 12,some 13]) (refs:=[[.pre 0],[.res 0],[.pre 1],[.res 1,.res 2]]) (outs:=[.res 3,.pre 2]) (als:=[false,false,false,false]) (posts:=[.val (Lit (.int .i8 (sgI X))),.val (Lit (.int .i8 (-(sgI X)))),.val (zg ((X).natAbs:Int)),.val (zn (-X))])
  (out:=[(13,.val (zn (-X))),(2,.box 52 2 (qp))]) (nb:=[]) H2 4 [4] rfl (by kernel_rfl) rfl rfl ?_ ?_
 ·refine .cons (.plain rfl (qh (.tmp 0 rfl))) ?_
  refine .cons (.plain rfl (qat (r:=(-(sgI X))) (.tmp 0 rfl) (qnj X))) ?_
  refine .cons (.plain rfl (qh (.tmp 0 rfl))) ?_
  refine .cons (.plain rfl (zl ((Dt (-(sgI X)) ((X).natAbs:Int)).weak (fun v w B h=>yj (qmg X) h)) (.cons (.tmp 0 rfl) (.cons (.tmp 1 rfl) (.nil))))) ?_
  exact .nil
 clear H2 a2 w2 B2
 intro a3 w3 B3 H3
 refine zi ?_
 refine ja (l':=[(13,.val (zn (-X))),(2,.box 52 2 (zn (-X)))]) 1 H3 rfl tyI rfl (.tmp 0 rfl) jl ve rfl rfl ?_
 clear H3 w3
 intro w4 H4
 refine qi ?_
 refine qg ?_
 refine wp_ret ?_
 exact Cc H4 tyI rfl 1 rfl (fun _ _ _ h=>h)
set_option maxRecDepth 20000 in
set_option maxHeartbeats 2000000 in
theorem qgh (n:Int) (hn : -9223372036854775808≤n∧n<9223372036854775808):Con Tryz.prog 130 [Lit (.int .i64 n)] (zn n):=by
 refine Ba (N:=14) Tryz.ntmps130 (fun _ _=>by go_simp) Tryz.func130 rfl (by simp) ?_
 intro a0 w0 B0 H0
 replace H0:St 14 w0 B0 a0 w0 B0 [(0,.val (Lit (.int .i64 n)))] []:=H0
 refine wp_seq ?_
 refine zf (dsts:=[some 2]) (refs:=[[]]) (outs:=[.res 0,.pre 0]) (als:=[true]) (posts:=[.box 52 2 (qp)])
  (out:=[(2,.box 52 2 (qp)),(0,.val (Lit (.int .i64 n)))]) (nb:=[2]) H0 1 [] rfl (by kernel_rfl) rfl rfl ?_ ?_
 ·refine .cons (.plain rfl (yw (D:=qp) Dq rfl (fun _ _=>rfl))) ?_
  exact .nil
 clear H0
 intro a1 w1 B1 H1
 simp only [List.cons_append,List.nil_append] at H1
 refine qi ?_
 refine qg ?_
 refine wp_seq ?_
 refine wp_seq ?_
 refine zf (dsts:=[some 3,some 4]) (refs:=[[.pre 1],[.res 0]]) (outs:=[.res 1,.pre 0,.pre 1]) (als:=[false,false]) (posts:=[.val (Lit (.int .i64 n)),.val (IsB (decide (n<0)))])
  (out:=[(4,.val (IsB (decide (n<0)))),(2,.box 52 2 (qp)),(0,.val (Lit (.int .i64 n)))]) (nb:=[]) H1 2 [] rfl (by kernel_rfl) rfl rfl ?_ ?_
 ·refine .cons (.plain rfl (qh (.tmp 0 rfl))) ?_
  refine .cons (.plain rfl (jq (.tmp 0 rfl) (.lit) rfl)) ?_
  exact .nil
 clear H1 a1 w1 B1
 intro a2 w2 B2 H2
 refine qi ?_
 refine qg ?_
 refine Aa H2 (.tmp 0 rfl) ?_ ?_
 ·intro hc3
  replace hc3:=of_decide_eq_true hc3
  refine wp_seq ?_
  refine zf (dsts:=[some 5,some 6,some 7,some 8,some 9]) (refs:=[[.pre 2],[.res 0],[.res 1],[.res 2],[.res 3]]) (outs:=[.res 4,.pre 1,.pre 2]) (als:=[false,false,false,false,false]) (posts:=[.val (Lit (.int .i64 n)),.val (Lit (.int .u64 (n+18446744073709551616))),.val (Lit (.int .u64 (-n))),.val (zg (-n)),.val (zn n)])
   (out:=[(9,.val (zn n)),(2,.box 52 2 (qp)),(0,.val (Lit (.int .i64 n)))]) (nb:=[]) H2 5 [5] rfl (by kernel_rfl) rfl rfl ?_ ?_
  ·refine .cons (.plain rfl (qh (.tmp 0 rfl))) ?_
   refine .cons (.plain rfl (Ee Tryz.underlying2 Tryz.underlying49 (r:=n+18446744073709551616) (.tmp 0 rfl) (by rw [IntKind.wrap_u64];omega))) ?_
   refine .cons (.plain rfl (qat (r:=-n) (.tmp 0 rfl) (by rw [IntKind.wrap_u64];omega))) ?_
   refine .cons (.plain rfl (zl (Qa (-n) (by omega)) (.cons (.tmp 0 rfl) (.nil)))) ?_
   refine .cons (.plain rfl (zl ((Dt (-1) (-n)).weak (fun v w B h=>yj (by rw [if_pos rfl];omega) h)) (.cons (.lit) (.cons (.tmp 0 rfl) (.nil))))) ?_
   exact .nil
  clear H2 a2 w2 B2
  intro a4 w4 B4 H4
  refine zi ?_
  refine ja (l':=[(9,.val (zn n)),(2,.box 52 2 (zn n)),(0,.val (Lit (.int .i64 n)))]) 1 H4 rfl tyI rfl (.tmp 0 rfl) jl ve rfl rfl ?_
  clear H4 w4
  intro w5 H5
  refine qi ?_
  refine qg ?_
  refine wp_ret ?_
  refine yh ?_
  exact Cc H5 tyI rfl 1 rfl (fun _ _ _ h=>h)
 ·intro hc3
  replace hc3:=of_decide_eq_false hc3
  refine wp_skip ?_
  refine qg ?_
  refine wp_seq ?_
  refine zf (dsts:=[some 10,some 11,some 12,some 13]) (refs:=[[.pre 2],[.res 0],[.res 1],[.res 2]]) (outs:=[.res 3,.pre 1]) (als:=[false,false,false,false]) (posts:=[.val (Lit (.int .i64 n)),.val (Lit (.int .u64 n)),.val (zg n),.val (zn n)])
   (out:=[(13,.val (zn n)),(2,.box 52 2 (qp))]) (nb:=[]) H2 4 [4] rfl (by kernel_rfl) rfl rfl ?_ ?_
  ·refine .cons (.plain rfl (qh (.tmp 0 rfl))) ?_
   refine .cons (.plain rfl (Ee Tryz.underlying2 Tryz.underlying49 (r:=n) (.tmp 0 rfl) (by rw [IntKind.wrap_u64];omega))) ?_
   refine .cons (.plain rfl (zl (Qa n (by omega)) (.cons (.tmp 0 rfl) (.nil)))) ?_
   refine .cons (.plain rfl (zl ((Dt 1 n).weak (fun v w B h=>yj (by rw [if_neg (by decide)]) h)) (.cons (.lit) (.cons (.tmp 0 rfl) (.nil))))) ?_
   exact .nil
  clear H2 a2 w2 B2
  intro a6 w6 B6 H6
  refine zi ?_
  refine ja (l':=[(13,.val (zn n)),(2,.box 52 2 (zn n))]) 1 H6 rfl tyI rfl (.tmp 0 rfl) jl ve rfl rfl ?_
  clear H6 w6
  intro w7 H7
  refine qi ?_
  refine qg ?_
  refine wp_ret ?_
  exact Cc H7 tyI rfl 1 rfl (fun _ _ _ h=>h)
end Go.Proofs.YtbcbmkeeoognpaaGreatDoor

namespace Go.Proofs.YtbcbmkeeoognpaaGreatDoor
open Go Go.RowKit
structure qf2 (xs ys:List Int) (q:Int) (i:Nat) (c:Int) (X:List Int):Prop where
 len:X.length=xs.length
 tl:X.drop i=xs.drop i
 dig:Dig 4294967296 X
 cb:0≤c∧c<4294967296
 eq:low xs i+4294967296 ^ i*c=q*low ys i+low X i
theorem qhf (xs ys:List Int) (dx:Dig 4294967296 xs) (q:Int):qf2 xs ys q 0 0 xs:=⟨rfl,rfl,dx,by omega,by simp [low,val]⟩
theorem qkr {xs ys X:List Int} (dy:Dig 4294967296 ys) {q:Int} (hq:0≤q∧q<4294967296) {i:Nat} {c:Int} (hi:i<xs.length) (h:qf2 xs ys q i c X) (t u v c2:Int) (ht:t=ys[i]?.getD 0*q+c) (hu:u=t % 4294967296)
  (hv:v=if X[i]?.getD 0<u then X[i]?.getD 0+4294967296-u else X[i]?.getD 0-u) (hc2:c2=if X[i]?.getD 0<u then t / 4294967296+1 else t / 4294967296) :
  qf2 xs ys q (i+1) c2 (X.set i v)∧X[i]?.getD 0=xs[i]?.getD 0∧(0≤v∧v<4294967296)∧(0≤t∧t<18446744073709551616):=by
 obtain ⟨hl,htl,hd,hc,he⟩:=h
 have hy:=dy.get (by omega) i
 have hx:=hd.get (by omega) i
 have hm:ys[i]?.getD 0*q≤4294967295*4294967295:=Int.mul_le_mul (by omega) (by omega) hq.1 (by omega)
 have hm0:0≤ys[i]?.getD 0*q:=Int.mul_nonneg hy.1 hq.1
 have e1:X[i]?.getD 0=xs[i]?.getD 0:=by
  have:=congrArg (fun l=>l[0]?.getD 0) htl
  simpa [List.getElem?_drop] using this
 have hvb:0≤v∧v<4294967296:=by rw [hv];split <;> omega
 have hiX:i<X.length:=by omega
 refine ⟨⟨by rw [List.length_set];exact hl,?_,hd.set hvb.1 hvb.2 _,by rw [hc2];split <;> omega,?_⟩,e1,hvb,by omega⟩
 ·have:=congrArg (List.drop 1) htl
  rw [List.drop_drop,List.drop_drop] at this
  rw [List.drop_set_of_lt (by omega)]
  exact this
 ·have hls:low (X.set i v) i=low X i:=by unfold low;rw [List.take_set_of_le (Nat.le_refl _)]
  rw [I9,I9,I9,hls,List.getElem?_set_self hiX,Option.getD_some,Int.pow_succ,←e1]
  have ht2:t=4294967296*(t / 4294967296)+u:=by rw [hu];exact (Int.mul_ediv_add_emod _ _).symm
  have key:X[i]?.getD 0+4294967296*c2=q*ys[i]?.getD 0+c+v:=by
   have e3:q*ys[i]?.getD 0=t-c:=by rw [ht,Int.mul_comm];omega
   rw [e3,hc2,hv]
   split <;> omega
  generalize X[i]?.getD 0=x at *
  generalize ys[i]?.getD 0=y at *
  generalize (4294967296:Int) ^ i=P at *
  grind
theorem qmj {xs ys X:List Int} {q:Int} {c:Int} (h:qf2 xs ys q xs.length c X) (hl:ys.length≤xs.length) (hq:q*val 4294967296 ys≤val 4294967296 xs):val 4294967296 X=val 4294967296 xs-q*val 4294967296 ys:=by
 obtain ⟨h1,_,hd,hc,he⟩:=h
 rw [Mc xs _ (Nat.le_refl _),Mc ys _ hl,Mc X _ (by omega)] at he
 have hX:=Au (b:=4294967296) (by omega) hd
 rw [h1] at hX
 have hp:(0:Int)<4294967296 ^ xs.length:=Int.pow_pos (by omega)
 have hc0:c=0:=by
  rcases Int.lt_or_le 0 c with g | g
  ·have:=Int.mul_le_mul_of_nonneg_left (show 1≤c by omega) (Int.le_of_lt hp)
   omega
  ·omega
 rw [hc0,Int.mul_zero] at he
 omega
theorem qkd (ys:List Int) (dy:Dig 4294967296 ys) (bd:Option Addr) (n2 c2:Nat) (i:Nat) (w:World) (hr:Rds w .u32 bd n2 ys):Calls Tryz.prog 238 #[.slice bd n2 c2,.int .i64 i] w (fun e w'=>e=.returned (.int .u64 (ys[i]?.getD 0))∧Below w.heap.size w w'):=by
 refine ((Nz ys dy i (by omega)).calls [.slice bd n2 c2,.int .i64 i] w (fun _=>False) (fun _ h=>h.elim) ⟨⟨.inl rfl,bd,n2,c2,rfl,hr⟩,rfl,trivial⟩).mono ?_
 rintro e w' ⟨v,rfl,h,hb⟩
 obtain rfl:=h
 exact ⟨rfl,hb⟩
set_option maxHeartbeats 1000000 in
set_option maxRecDepth 20000 in
theorem qhe (m b n c:Nat) (xs ys:List Int) (bd:Option Addr) (n2 c2:Nat) (q:Int) (w:World) (hn:n≤140737488355328) (hl:xs.length=n) (ha:App m w 44 .u32 (some ⟨b,0,none⟩) n c xs) (hr:Rds w .u32 bd n2 ys) (hne:0<n2→xg bd≠some b) (dx:Dig 4294967296 xs) (dy:Dig 4294967296 ys) (hq:0≤q∧q<4294967296) :
  Calls Tryz.prog 200 #[.slice (some ⟨b,0,none⟩) n c,.slice bd n2 c2,.int .u32 q] w (fun e w'=>e=.returned (.tuple #[])∧(∃X cc,App m w' 44 .u32 (some ⟨b,0,none⟩) n c X∧qf2 xs ys q n cc X)∧w.grownBy w' (some b)):=by
 have HI:=Lib.hid (qhf xs ys dx q)
 have HL:=Lib.hid hl
 have HN:=Lib.hid hne
 have HG:=Lib.hid (World.grownBy.refl w (some b))
 have HR:=Lib.hid hr
 clear hl hne hr
 go_enter Tryz.func200,Tryz.ntmps200
 go_wp2
 go_loopw [6,7] (fun cv i wr=>∃(k:Nat) (cy:Int) (X:List Int),cv=.int .u64 cy∧i=.int .i64 k∧k≤n∧Hid (qf2 xs ys q k cy X)∧App m wr 44 .u32 (some ⟨b,0,none⟩) n c X∧Hid (w.grownBy wr (some b))) (fun _ i _=>n-(intOf i).toNat)
 case atStart=>exact ⟨0,0,xs,rfl,rfl,Nat.zero_le _,HI,ha,HG⟩
 case round=>
  clear ha HI HG
  obtain ⟨k,cy,X,rfl,rfl,hk,hI,hA,hg⟩:=hrel
  by_cases hkn:k<n
  ·obtain ⟨tt,htt⟩:∃t,t=ys[k]?.getD 0*q+cy:=⟨_,rfl⟩
   obtain ⟨q1,q2,q3,q4⟩:=qkr dy hq (by rw [HL.out];exact hkn) hI.out tt _ _ _ htt rfl rfl rfl
   have hrw:Rds wr .u32 bd n2 ys:=HR.out.kept fun h0 b2 hb2=>by
    obtain ⟨a1,e1,hc1⟩:=HR.out.cell 0 h0
    have h2:=World.block_lt_of_cell? w _ hc1
    have e2:(a1.add 0).block=a1.block:=by unfold Addr.add;split <;> rfl
    rw [e2] at h2
    have e3:a1.block=b2:=by rw [e1] at hb2;injection hb2
    refine hg.out.block b2 (by omega) fun e=>HN.out h0 ?_
    injection e with e
    rw [hb2,e]
   have hC:=Lib.hid (qkd ys dy bd n2 c2 k wr hrw)
   clear hrw
   have hXl:X.length=n:=by rw [hI.out.len,HL.out]
   have hxb:=hI.out.dig.get (by omega) k
   obtain ⟨x,hx⟩:∃x,X[k]?.getD 0=x:=⟨_,rfl⟩
   obtain ⟨u,hu⟩:∃u,tt % 4294967296=u:=⟨_,rfl⟩
   obtain ⟨d,hd⟩:∃d,tt / 4294967296=d:=⟨_,rfl⟩
   rw [hx,hu,hd] at q1
   rw [hx,hu] at q3
   rw [hx] at hxb
   have hub:0≤u∧u<4294967296:=by omega
   have hdb:0≤d∧d<4294967297:=by omega
   obtain ⟨y,hy⟩:∃y,ys[k]?.getD 0=y:=⟨_,rfl⟩
   rw [hy] at hC htt
   have W1:IntKind.u64.wrap (y*q)=y*q:=by
    have:=dy.get (by omega) k
    rw [hy] at this
    have h1:y*q≤4294967295*4294967295:=Int.mul_le_mul (by omega) (by omega) hq.1 (by omega)
    have h2:0≤y*q:=Int.mul_nonneg this.1 hq.1
    exact Gp (by omega)
   have W2:IntKind.u64.wrap (y*q+cy)=tt:=by rw [←htt];exact Gp q4
   have HX:=Lib.hid hx
   have HU:=Lib.hid hu
   have HD:=Lib.hid hd
   have HT:=Lib.hid htt
   have HXL:=Lib.hid hXl
   clear hx htt hy q2 hXl
   go_wp2_with fail
   with_reducible refine (hC.out).mono ?_
   rintro e w2 ⟨rfl,hb2⟩
   clear hC
   have hA2:=hA.below hb2 (Nat.le_refl _)
   obtain ⟨b2,e2,_,hcell,hfree,hset,honly⟩:=hA2.opened (by omega)
   obtain rfl:b=b2:=by injection e2 with e2;injection e2
   have cm:=hcell k hkn
   have fm:=hfree k
   have sm:=fun v=>hset k v hkn
   have om:=fun v=>honly k v
   rw [HX.out] at cm
   have hg2:Hid (w.grownBy w2 (some b)):=Lib.hid (hg.out.trans ⟨hb2.os,hb2.tape,hb2.output,hb2.size,fun i hi _=>hb2.block i hi⟩)
   clear hA hA2 e2 hcell hfree hset honly hg hb2 hI
   by_cases hlt:x<u
   ·rw [if_pos hlt,if_pos hlt] at q1
    rw [if_pos hlt] at q3
    obtain ⟨v,hv⟩:∃v,x+4294967296-u=v:=⟨_,rfl⟩
    rw [hv] at q1 q3
    have W3:IntKind.u64.wrap (x+4294967296)=x+4294967296:=Gp (by omega)
    have W4:IntKind.u64.wrap (x+4294967296-u)=v:=by rw [hv];exact Gp (by omega)
    have W5:IntKind.u64.wrap (d+1)=d+1:=Gp (by omega)
    have R1:=sm v
    have O1:=om (.int .u32 v)
    have Q1:=Lib.hid q1
    clear q1 sm om hv
    have hge:¬u≤x:=by omega
    go_wp2_with fail
    go_roundw
    case rel=>exact ⟨k+1,_,_,rfl,by go_num,by omega,Q1,R1,Lib.hid (hg2.out.trans ⟨O1.os,O1.tape,O1.output,Nat.le_of_eq O1.size.symm,fun i hi hne=>O1.rest i fun e=>hne (by rw [e])⟩)⟩
    case measure=>simp [intOf];omega
   ·rw [if_neg hlt,if_neg hlt] at q1
    rw [if_neg hlt] at q3
    obtain ⟨v,hv⟩:∃v,x-u=v:=⟨_,rfl⟩
    rw [hv] at q1 q3
    have W4:IntKind.u64.wrap (x-u)=v:=by rw [hv];exact Gp (by omega)
    have R1:=sm v
    have O1:=om (.int .u32 v)
    have Q1:=Lib.hid q1
    rw [←hd] at Q1
    clear q1 sm om hv
    have hge:u≤x:=by omega
    go_wp2_with fail
    go_roundw
    case rel=>exact ⟨k+1,_,_,rfl,by go_num,by omega,Q1,R1,Lib.hid (hg2.out.trans ⟨O1.os,O1.tape,O1.output,Nat.le_of_eq O1.size.symm,fun i hi hne=>O1.rest i fun e=>hne (by rw [e])⟩)⟩
    case measure=>simp [intOf];omega
  ·obtain rfl:k=n:=by omega
   go_wp2
   go_end0
   exact ⟨rfl,⟨X,cy,hA,hI.out⟩,hg.out⟩
end Go.Proofs.YtbcbmkeeoognpaaGreatDoor
