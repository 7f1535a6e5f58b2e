/- Contracts of functions, and plain facts, part 3. -/
import Derived.Test.YtbcbmkeeoognpaaGreatDoorProg
import Derived.Lib.BitFns
import Derived.Lib.Strings
import Derived.Lib.Slices
import Derived.Lib.Small
import Derived.Lib.Walk
import Derived.Laws.IdiomStrings
import Derived.Laws.BytesArg
import Derived.Lib.AppendZerosOnto
import Derived.Laws.AppendOwnNone
import Derived.Maps.AppendAt
import Derived.Lib.TrailingZeros
import Derived.Laws.Bits64b
import Derived.Laws.BitsAllLaws
import Derived.WalkKit
import Derived.Laws.Tables
import Derived.Deep.MidRow
import Derived.Lib.SlicesS
import Derived.Deep.QuietTactic
import Derived.BigQuiet
import Derived.Test.YtbcbmkeeoognpaaGreatDoorPk1
import Derived.Test.YtbcbmkeeoognpaaGreatDoorPk2
set_option linter.unusedVariables false
set_option linter.unusedSimpArgs false
namespace Go.Proofs.YtbcbmkeeoognpaaGreatDoor
open Go.RowKit
set_option maxHeartbeats 4000000 in
set_option maxRecDepth 100000 in
theorem Si (x:Int) (w:World) (h0:0≤x) (h1:x≤4294967295) :
  Calls Tryz.prog 120 #[.int .u32 x] w fun e w'=>e=.returned (.int .i64 (Lib.bitLen x.toNat))∧w=w':=by
 have u9:=Tryz.underlying9
 have hx:∀i:Int,0≤i→i≤255→∀w:World,(Instr.index 9 (.string Lib.len8tab) (.int .u8 i)).run Tryz.prog w=.ok (.int .u8 (Lib.len8 i)) w:=fun i h0 h1 w=>Lib.run_index_len8tab _ _ _ _ u9 h0 h1
 have x1:=hx (x / 65536 / 256) (by omega) (by omega)
 have x2:x / 65536<256→_:=fun h=>hx (x / 65536) (by omega) (by omega)
 have x3:x<65536→_:=fun h=>hx (x / 256) (by omega) (by omega)
 have x4:x<256→_:=fun h=>hx x (by omega) (by omega)
 clear hx
 go_enter Tryz.func120,Tryz.ntmps120
 go_wp2
 all_goals (go_ret;refine ⟨congrArg Ending.returned (congrArg (Value.int IntKind.i64) ?_),rfl⟩)
 all_goals first
  | (rw [Lib.len8_of (x / 65536 / 256) (by omega) (by omega)]
     have e:(x / 65536 / 256).toNat=x.toNat / 16777216:=by omega
     have l:=Lib.bitLen_le8' (x / 65536 / 256) (by omega) (by omega)
     have s:=Lib.bitLen_shift24 x.toNat (by omega) (by omega)
     rw [e] at l ⊢
     unfold wrap64
     omega)
  | (rw [Lib.len8_of (x / 65536) (by omega) (by omega)]
     have e:(x / 65536).toNat=x.toNat / 65536:=by omega
     have l:=Lib.bitLen_le8' (x / 65536) (by omega) (by omega)
     have s:=Lib.bitLen_shift16 x.toNat (by omega) (by omega)
     rw [e] at l ⊢
     unfold wrap64
     omega)
  | (rw [Lib.len8_of (x / 256) (by omega) (by omega)]
     have e:(x / 256).toNat=x.toNat / 256:=by omega
     have l:=Lib.bitLen_le8' (x / 256) (by omega) (by omega)
     have s:=Lib.bitLen_shift8 x.toNat (by omega) (by omega)
     rw [e] at l ⊢
     unfold wrap64
     omega)
  | (rw [Lib.len8_of x (by omega) (by omega)]
     have l:=Lib.bitLen_le8' x (by omega) (by omega)
     unfold wrap64
     omega)
end Go.Proofs.YtbcbmkeeoognpaaGreatDoor

namespace Go.Proofs.YtbcbmkeeoognpaaGreatDoor
open Go.RowKit
theorem qbl (x y:Int) (w:World) :
  Calls Tryz.prog 231 #[.int .i64 x,.int .i64 y] w fun e w'=>e=.returned (.int .i64 (D5 x y))∧w=w':=by
 rcases Int.lt_trichotomy x y with h | h | h
 ·have H:=Lib.hid (Fp h)
  go_enter Tryz.func231,Tryz.ntmps231
  go_wp2
  go_ret
  rw [H.out]
  exact ⟨rfl,rfl⟩
 ·have H:=Lib.hid (Ip h)
  subst h
  go_enter Tryz.func231,Tryz.ntmps231
  go_wp2
  go_ret
  rw [H.out]
  exact ⟨rfl,rfl⟩
 ·have H:=Lib.hid (Gh h)
  have h2:¬x<y:=by omega
  go_enter Tryz.func231,Tryz.ntmps231
  go_wp2
  go_ret
  rw [H.out]
  exact ⟨rfl,rfl⟩
theorem Rw (x y:Int) (w:World) :
  Calls Tryz.prog 232 #[.int .u32 x,.int .u32 y] w fun e w'=>e=.returned (.int .i64 (D5 x y))∧w=w':=by
 rcases Int.lt_trichotomy x y with h | h | h
 ·have H:=Lib.hid (Fp h)
  go_enter Tryz.func232,Tryz.ntmps232
  go_wp2
  go_ret
  rw [H.out]
  exact ⟨rfl,rfl⟩
 ·have H:=Lib.hid (Ip h)
  subst h
  go_enter Tryz.func232,Tryz.ntmps232
  go_wp2
  go_ret
  rw [H.out]
  exact ⟨rfl,rfl⟩
 ·have H:=Lib.hid (Gh h)
  have h2:¬x<y:=by omega
  go_enter Tryz.func232,Tryz.ntmps232
  go_wp2
  go_ret
  rw [H.out]
  exact ⟨rfl,rfl⟩
end Go.Proofs.YtbcbmkeeoognpaaGreatDoor

namespace Go.Proofs.YtbcbmkeeoognpaaGreatDoor
open Go.RowKit
def yg (xs:List Int):ByteArray:=⟨(xs.map fun x=>UInt8.ofNat x.toNat).toArray⟩
def qf (s:ByteArray):List Int:=s.data.toList.map fun b=>(b.toNat:Int)
theorem qft (x:Int) (h:0≤x∧x<256):((UInt8.ofNat x.toNat).toNat:Int)=x:=by
 rw [UInt8.toNat_ofNat_of_lt' (by show x.toNat<256;omega)]
 omega
theorem Oy (xs:List Int):(yg xs).size=xs.length:=by simp [yg,ByteArray.size]
theorem Jn (s:ByteArray):Dig 256 (qf s):=fun x hx=>by
 simp only [qf,List.mem_map] at hx
 obtain ⟨b,_,rfl⟩:=hx
 have:=UInt8.toNat_lt b
 omega
theorem zu (s:ByteArray):(qf s).length=s.size:=by unfold qf;rw [List.length_map,Array.length_toList];rfl
theorem Fv (s:ByteArray) (j:Nat) (h:j<s.size):(qf s)[j]?.getD 0=(s[j].toNat:Int):=by
 have h2:j<s.data.toList.length:=by rw [Array.length_toList];exact h
 unfold qf
 rw [List.getElem?_map,List.getElem?_eq_getElem h2]
 rfl
theorem Py (s:ByteArray):s.toList.isEmpty=decide (s.size=0):=by
 rw [ByteArray.toList_eq]
 cases h:s.data.toList with
 | nil=>
  have:s.size=0:=by rw [←zu,qf,h];rfl
  simp [this]
 | cons a l=>
  have:s.size=l.length+1:=by rw [←zu,qf,h];simp
  simp [this]
theorem O8 (s:ByteArray) (l:List UInt8):s.toList=l↔qf s=l.map fun b=>(b.toNat:Int):=by
 rw [ByteArray.toList_eq]
 unfold qf
 refine ⟨fun h=>by rw [h],fun h=>?_⟩
 have hi:Function.Injective fun b:UInt8=>(b.toNat:Int):=fun a b e=>by
  have e1:((a.toNat:Nat):Int)=(b.toNat:Nat):=e
  have:a.toNat=b.toNat:=by omega
  exact UInt8.toNat_inj.1 this
 exact (List.map_inj_right (fun a b e=>hi e)).1 h
theorem Gv {P:Program} (src dst e:TypeId) (hs:P.underlying src=some (.slice e)) (he:P.underlying e=some (.int .u8)) (hd:P.underlying dst=some .string)
  (w:World) (ad:Option Addr) (n c:Nat) (xs:List Int) (h:Rds w .u8 ad n xs) (dx:Dig 256 xs):(convert src dst (.slice ad n c)).run P w=.ok (.string (yg xs)) w:=by
 have hl:=h.len
 rcases ad with _ | a
 ·have h0:n=0:=by
   rcases Nat.eq_zero_or_pos n with h0 | h0
   ·exact h0
   ·obtain ⟨_,e,_⟩:=h.cell 0 h0
    cases e
  subst h0
  have hx:xs=[]:=List.length_eq_zero_iff.1 hl
  subst hx
  exact run_convert_bytes_nil w src e hs he 0 c dst hd
 ·have k:=run_convert_bytes_back (P:=P) w src dst e a c (xs.map fun x=>UInt8.ofNat x.toNat) hs he hd (fun j hj=>by
   rw [List.length_map] at hj
   obtain ⟨a',e1,hc⟩:=h.cell j (by omega)
   injection e1 with e1
   subst e1
   rw [hc,List.getElem_map,List.getElem?_eq_getElem hj]
   have:=dx.get (by omega) j
   rw [List.getElem?_eq_getElem hj] at this
   simp only [Option.getD_some] at this ⊢
   rw [qft _ this])
  rw [List.length_map,hl] at k
  exact k
theorem qcu (xs ys:List Int):yg xs++yg ys=yg (xs++ys):=by
 have h:(yg xs++yg ys).data.toList=(yg (xs++ys)).data.toList:=by
  rw [ByteArray.data_append,Array.toList_append]
  simp [yg]
 cases h1:yg xs++yg ys with
 | mk d=>
  cases h2:yg (xs++ys) with
  | mk e=>
   rw [h1,h2] at h
   congr 1
   exact Array.toList_inj.1 h
end Go.Proofs.YtbcbmkeeoognpaaGreatDoor

namespace Go.Proofs.YtbcbmkeeoognpaaGreatDoor
open Go.RowKit
theorem Rt (x y c:Int) (w:World) (hx:0≤x∧x<4294967296) (hy:0≤y∧y<4294967296) (hc:0≤c∧c<4294967296) :
  Calls Tryz.prog 158 #[.int .u32 x,.int .u32 y,.int .u32 c] w fun e w'=>e=.returned (.tuple #[.int .u32 ((x+y+c) % 4294967296),.int .u32 ((x+y+c) / 4294967296)])∧w=w':=by
 obtain ⟨hx0,hx1⟩:=hx
 obtain ⟨hy0,hy1⟩:=hy
 obtain ⟨hc0,hc1⟩:=hc
 go_enter Tryz.func158,Tryz.ntmps158
 go_wp2
 go_ret2
 exact ⟨rfl,rfl⟩
end Go.Proofs.YtbcbmkeeoognpaaGreatDoor

namespace Go.Proofs.YtbcbmkeeoognpaaGreatDoor
open Go.RowKit
theorem qiy (x:BitVec 32):x.msb=decide (2147483648≤x.toNat):=by
 rw [BitVec.msb_eq_decide]
theorem qaz (x y b:Nat) (hx:x<4294967296) (hy:y<4294967296) (hb:b≤1) (D:BitVec 32) (hD:(D.toNat:Int)=((x:Int)-y-b) % 4294967296) :
  ((~~~ (BitVec.ofNat 32 x) &&& BitVec.ofNat 32 y) ||| (~~~ (BitVec.ofNat 32 x ^^^ BitVec.ofNat 32 y) &&& D)).msb=decide (x<y+b):=by
 simp only [BitVec.msb_or,BitVec.msb_and,BitVec.msb_not,BitVec.msb_xor]
 simp only [qiy,BitVec.toNat_ofNat,Nat.mod_eq_of_lt (show x<2 ^ 32 by omega),Nat.mod_eq_of_lt (show y<2 ^ 32 by omega)]
 have hd:D.toNat<4294967296:=D.isLt
 generalize D.toNat=d at *
 by_cases h1:2147483648≤x <;> by_cases h2:2147483648≤y <;> by_cases h3:2147483648≤d <;> simp [h1,h2,h3] <;> omega
def brw (x y b:Int):Int:=if x<y+b then 1 else 0
theorem Oe (op:BinOp) (X Y:BitVec 32) (f:BitVec 32→BitVec 32→BitVec 32) (h:∀a b:Int,bits op .u32 a b=IntKind.u32.wrap ((f (BitVec.ofInt 32 a) (BitVec.ofInt 32 b)).toNat:Int)) :
  bits op .u32 (X.toNat:Int) (Y.toNat:Int)=((f X Y).toNat:Int):=by
 have e1:BitVec.ofInt 32 (X.toNat:Int)=X:=by simp
 have e2:BitVec.ofInt 32 (Y.toNat:Int)=Y:=by simp
 rw [h,e1,e2,IntKind.wrap_u32]
 have:=(f X Y).isLt
 omega
theorem qet (x y b:Int) (hx0:0≤x) (hx1:x<4294967296) (hy0:0≤y) (hy1:y<4294967296) (hb0:0≤b) (hb1:b≤1) :
  bits .or .u32 (bits .and .u32 (bits .xor .u32 IntKind.u32.max x) y) (bits .and .u32 (bits .xor .u32 IntKind.u32.max (bits .xor .u32 x y)) ((x-y-b) % 4294967296)) / 2147483648=brw x y b:=by
 obtain ⟨x,rfl⟩:=Int.eq_ofNat_of_zero_le hx0
 obtain ⟨y,rfl⟩:=Int.eq_ofNat_of_zero_le hy0
 obtain ⟨b,rfl⟩:=Int.eq_ofNat_of_zero_le hb0
 obtain ⟨d,hd⟩:=Int.eq_ofNat_of_zero_le (show 0≤((x:Int)-y-b) % 4294967296 by omega)
 have hdl:d<4294967296:=by omega
 have ex:((BitVec.ofNat 32 x).toNat:Int)=x:=by rw [BitVec.toNat_ofNat];omega
 have ey:((BitVec.ofNat 32 y).toNat:Int)=y:=by rw [BitVec.toNat_ofNat];omega
 have ed:((BitVec.ofNat 32 d).toNat:Int)=d:=by rw [BitVec.toNat_ofNat];omega
 have em:(((BitVec.allOnes 32).toNat:Nat):Int)=IntKind.u32.max:=by decide
 have B:=qaz x y b (by omega) (by omega) (by omega) (BitVec.ofNat 32 d) (by rw [ed,←hd])
 rw [hd,←ex,←ey,←ed,←em]
 rw [Oe .xor _ _ (· ^^^ ·) (fun _ _=>rfl),Oe .xor _ _ (· ^^^ ·) (fun _ _=>rfl),Oe .and _ _ (· &&& ·) (fun _ _=>rfl),Oe .xor _ _ (· ^^^ ·) (fun _ _=>rfl),Oe .and _ _ (· &&& ·) (fun _ _=>rfl),
  Oe .or _ _ (· ||| ·) (fun _ _=>rfl)]
 simp only [BitVec.allOnes_xor]
 rw [qiy] at B
 have hlt:=(~~~BitVec.ofNat 32 x &&& BitVec.ofNat 32 y ||| ~~~(BitVec.ofNat 32 x ^^^ BitVec.ofNat 32 y) &&& BitVec.ofNat 32 d).isLt
 generalize (~~~BitVec.ofNat 32 x &&& BitVec.ofNat 32 y ||| ~~~(BitVec.ofNat 32 x ^^^ BitVec.ofNat 32 y) &&& BitVec.ofNat 32 d).toNat=v at *
 unfold brw
 rw [ex,ey]
 have B':=decide_eq_decide.1 B
 split <;> omega
theorem Ti (x y b:Int) (w:World) (hx:0≤x∧x<4294967296) (hy:0≤y∧y<4294967296) (hb:0≤b∧b≤1) :
  Calls Tryz.prog 161 #[.int .u32 x,.int .u32 y,.int .u32 b] w fun e w'=>e=.returned (.tuple #[.int .u32 ((x-y-b) % 4294967296),.int .u32 (brw x y b)])∧w=w':=by
 obtain ⟨hx0,hx1⟩:=hx
 obtain ⟨hy0,hy1⟩:=hy
 obtain ⟨hb0,hb1⟩:=hb
 have HB:=Lib.hid (qet x y b hx0 hx1 hy0 hy1 hb0 hb1)
 go_enter Tryz.func161,Tryz.ntmps161
 go_wp2
 go_ret2
 refine ⟨?_,rfl⟩
 rw [←HB.out]
 rfl
end Go.Proofs.YtbcbmkeeoognpaaGreatDoor

namespace Go.Proofs.YtbcbmkeeoognpaaGreatDoor
open Go.RowKit
end Go.Proofs.YtbcbmkeeoognpaaGreatDoor

namespace Go.Proofs.YtbcbmkeeoognpaaGreatDoor
open Go.RowKit
section
variable {P:Program} {ops:Array Oper} {rest:List Oper} {o:Oper} {a:Act} {Q:Exit→Act→World→Prop}
end
end Go.Proofs.YtbcbmkeeoognpaaGreatDoor

namespace Go.Proofs.YtbcbmkeeoognpaaGreatDoor
open Go.RowKit
def qis (w:World):Prop:=∀j,j<32→w.cell? ⟨0,j,none⟩=some (.int .u8 ((Lib.deBruijn32tab.getD j 0:Nat):Int))
theorem qis.below {w w1:World} (h:qis w) {B:Nat} (hb:Below B w w1) (hB:w.heap.size≤B):qis w1:=fun j hj=>by
 have h1:=h j hj
 rw [←h1]
 exact hb.cell (Nat.lt_of_lt_of_le (World.block_lt_of_cell? w _ h1) hB)
end Go.Proofs.YtbcbmkeeoognpaaGreatDoor

namespace Go.Proofs.YtbcbmkeeoognpaaGreatDoor
open Go Go.RowKit
section
variable {P:Program} {need:List (Tmp × FD)}
def Opd (need:List (Tmp × FD)) (x:Operand) (D:FD):Prop:=∀a w B,Fct a w B need→D.p (a.eval x) w B
theorem Opd.tmp (k:Nat) {s:Tmp} {D:FD} (h:need[k]?=some (s,D)):Opd need (.tmp s) D:=fun a w B hF=>hF.get k h
theorem Opd.const {v:Value} {D:VP} (h:∀w B,D.p v w B):Opd need (.const v) (.val D):=fun a w B _=>h w B
theorem Opd.lit {v:Value}:Opd need (.const v) (.val (Lit v)):=fun a w B _=>rfl
theorem Opd.weak {x:Operand} {D D':VP} (h:Opd need x (.val D)) (hw:∀v w B,D.p v w B→D'.p v w B):Opd need x (.val D'):=fun a w B hF=>hw _ _ _ (h a w B hF)
theorem jo.value {o:Oper} {D:FD} (h:∀a w B,Fct a w B need→∃v,(execOp a.eval o).run P w=.ok (.value v) w∧D.p v w B):jo P o need D false:=by
 intro Q K a w B hB hF hK
 obtain ⟨v,h1,h2⟩:=h a w B hF
 unfold Oper.wp
 rw [h1]
 exact hK v w B h2 (Bl.refl _ _) (Below.refl _ _) hB (by simp)
structure Zy (P:Program) (t:TypeId) (n:Nat):Prop where
 row:∃d,P.underlying t=some d∧d.isRow=true
 size:(P.info? t).map (·.size)=some n
variable {d:Option Tmp} {ty:TypeId} {pos:String} {af:Array Edge} {g:Option (Nat × Bool)}
theorem qh {x:Operand} {D:FD} (h:Opd need x D):jo P ⟨d,.move x,ty,pos,af,g⟩ need D false:=
 jo.value fun a w B hF=>⟨a.eval x,rfl,h a w B hF⟩
theorem qm {x:Operand} {D:FD} (h:Opd need x D):jo P ⟨d,.assign x,ty,pos,af,g⟩ need D false:=
 jo.value fun a w B hF=>⟨a.eval x,rfl,h a w B hF⟩
theorem zo {x:Operand} {t:TypeId} {n:Nat} {D:VP} (T:Zy P t n) (h:Opd need x (.box t n D)):jo P ⟨d,.load t x,ty,pos,af,g⟩ need (.val D) false:=
 jo.value fun a w B hF=>by
  obtain ⟨b,cs,h1,h2,h3,h4,h5,h6⟩:=h a w B hF
  obtain ⟨dd,hu,hd⟩:=T.row
  refine ⟨.agg cs,?_,h6⟩
  have:=run_loadVar_row (P:=P) w b t t cs (0,0) dd h4 hu (by cases dd <;> simp_all) (by rw [T.size,h5])
  simp only [execOp,h1,Instr.loadAt,Instr.sureAddr,Sem.run_bind,Sem.run_pure,Result.andThen_ok,this]
theorem Af {w:World} {b:Nat} {t:TypeId} {cs:Array Value} (h:w.heap[b]?=some (.cells cs t (0,0))) (j:Nat):w.cell? ⟨b,j,none⟩=cs[j]?:=by
 simp [World.cell?,h]
theorem Jb {x:Operand} {t t2:TypeId} {n n2 off:Nat} {D D2:VP} (T:Zy P t2 n2) (h:Opd need x (.ptr t n D off)) (hn:off+n2≤n) (hD:∀cs w B,D.p (.agg cs) w B→D2.p (.agg (cs.extract off (off+n2))) w B):jo P ⟨d,.load t2 x,ty,pos,af,g⟩ need (.val D2) false:=
 jo.value fun a w B hF=>by
  obtain ⟨b,cs,h1,h2,h3,h4,h5,h6⟩:=h a w B hF
  obtain ⟨dd,hu,hd⟩:=T.row
  refine ⟨.agg (cs.extract off (off+n2)),?_,hD _ _ _ h6⟩
  have hl:(cs.extract off (off+n2)).toList.length=n2:=by simp;omega
  have:=run_loadVar_mid (P:=P) w b off t2 (cs.extract off (off+n2)).toList dd (fun j v hj=>by
   have hj2:j<n2:=by
    have:=(List.getElem?_eq_some_iff.1 hj).1
    omega
   rw [Af h4]
   rw [Array.getElem?_toList,Array.getElem?_extract] at hj
   split at hj
   ·exact hj
   ·cases hj) hu hd (by rw [T.size,hl])
  simp only [execOp,h1,Instr.loadAt,Instr.sureAddr,Sem.run_bind,Sem.run_pure,Result.andThen_ok,this]
theorem Bi {x:Operand} {t t2:TypeId} {n off:Nat} {D D2:VP} (hs:∀w:World,(isAgg t2).run P w=.ok false w) (h:Opd need x (.ptr t n D off)) (hn:off<n) (hD:∀cs v w B,D.p (.agg cs) w B→cs[off]?=some v→D2.p v w B):jo P ⟨d,.load t2 x,ty,pos,af,g⟩ need (.val D2) false:=
 jo.value fun a w B hF=>by
  obtain ⟨b,cs,h1,h2,h3,h4,h5,h6⟩:=h a w B hF
  have hc:cs[off]?=some (cs[off]'(by omega)):=Array.getElem?_eq_getElem _
  refine ⟨cs[off]'(by omega),?_,hD _ _ _ _ h6 hc⟩
  have e:w.cell? ⟨b,off,none⟩=some (cs[off]'(by omega)):=by rw [Af h4,hc]
  simp only [execOp,h1,Instr.loadAt,Instr.sureAddr,Sem.run_bind,Sem.run_pure,Result.andThen_ok,loadVar,hs,Bool.false_eq_true,if_false]
  simp [load,e,Sem.run]
theorem Xf {t:TypeId} {cs0:Array Value} (hz:(P.info? t).map (·.zero)=some (some (.agg cs0))) (w:World):(Instr.alloc t true (.tuple #[])).run P w=.ok (.pointer (some ⟨w.heap.size,0,none⟩)) (w.alloc (.cells cs0 t)):=by
 cases hq:P.info? t with
 | none=>rw [hq] at hz;cases hz
 | some i=>
  rw [hq] at hz
  simp only [Option.map_some,Option.some.injEq] at hz
  simp [Instr.alloc,zeroValue,typeInfo,hq,hz,newVar,newRow,newObj,Sem.run_bind,Value.cells,Sem.run]
theorem qfd {w:World} {B:Bx} {t:TypeId} {n:Nat} {D:VP} {cs:Array Value} (hB:Hz B w) (hn:cs.size=n) (hD:D.p (.agg cs) w B) :
  qnk t n D (.pointer (some ⟨w.heap.size,0,none⟩)) (w.alloc (.cells cs t)) (fun k=>B k∨k=w.heap.size)∧Bl w B (w.alloc (.cells cs t)) (fun k=>B k∨k=w.heap.size)∧Below w.heap.size w (w.alloc (.cells cs t))∧Hz (fun k=>B k∨k=w.heap.size) (w.alloc (.cells cs t))∧w.heap.size<(w.alloc (.cells cs t)).heap.size:=by
 have hs:(w.alloc (.cells cs t)).heap.size=w.heap.size+1:=by simp
 have hbel:Below w.heap.size w (w.alloc (.cells cs t)):=(Below.refl _ _).alloc (Nat.le_refl _) _
 have hbl:Bl w B (w.alloc (.cells cs t)) (fun k=>B k∨k=w.heap.size):=⟨by omega,hbel.block,fun k hk=>⟨fun h=>h.resolve_right (by omega),fun h=>.inl h⟩⟩
 refine ⟨⟨_,cs,rfl,.inr rfl,by omega,heap_alloc_new w _,hn,D.st _ _ _ _ _ hbl.mv hD⟩,hbl,hbel,?_,by omega⟩
 rintro k (h | h)
 ·have:=hB k h;omega
 ·omega
theorem yw {t:TypeId} {n:Nat} {D:VP} {cs0:Array Value} (hz:(P.info? t).map (·.zero)=some (some (.agg cs0))) (hn:cs0.size=n) (hD:∀w B,D.p (.agg cs0) w B):jo P ⟨d,.alloc t,ty,pos,af,g⟩ need (.box t n D) true:=by
 intro Q K a w B hB hF hK
 obtain ⟨h1,h2,h3,h4,h5⟩:=qfd (t:=t) (D:=D) hB hn (hD w B)
 unfold Oper.wp
 simp only [execOp,Sem.run_bind,Xf hz,Result.andThen_ok,Sem.run_pure]
 exact hK _ _ _ h1 h2 h3 h4 (fun _=>⟨_,rfl,Nat.le_refl _,h5⟩)
theorem Bq {t:TypeId} {n:Nat} {x:Operand} {D:VP} (h:Opd need x (.val D)) (hs:∀v w B,D.p v w B→∃cs,v=.agg cs∧cs.size=n):jo P ⟨d,.box t x,ty,pos,af,g⟩ need (.box t n D) true:=by
 intro Q K a w B hB hF hK
 have hx:=h a w B hF
 obtain ⟨cs,e,hn⟩:=hs _ _ _ hx
 have hx2:D.p (.agg cs) w B:=by rw [←e];exact hx
 obtain ⟨h1,h2,h3,h4,h5⟩:=qfd (t:=t) (D:=D) hB hn hx2
 have hr:(Instr.box t (a.eval x)).run P w=.ok (.pointer (some ⟨w.heap.size,0,none⟩)) (w.alloc (.cells cs t)):=by
  simp [Instr.box,e,newVar,newRow,newObj,Sem.run_bind,Value.cells,Sem.run]
 unfold Oper.wp
 simp only [execOp,Sem.run_bind,hr,Result.andThen_ok,Sem.run_pure]
 exact hK _ _ _ h1 h2 h3 h4 (fun _=>⟨_,rfl,Nat.le_refl _,h5⟩)
def Ia:List Value→List VP→World→Bx→Prop
 | [],[],_,_=>True
 | v :: vs,D :: Ds,w,B=>D.p v w B∧Ia vs Ds w B
 | _,_,_,_=>False
theorem Ia.st {w w':World} {B B':Bx} (h:Mv w B w' B'):∀ {vs:List Value} {Ds:List VP},Ia vs Ds w B→Ia vs Ds w' B'
 | [],[],_=>trivial
 | v :: vs,D :: Ds,⟨h1,h2⟩=>⟨D.st _ _ _ _ _ h h1,Ia.st h h2⟩
structure Con (P:Program) (f:FuncId) (Ds:List VP) (R:VP):Prop where
 enters:∀(vs:Array Value) (w:World),(callFunc f vs).run P w=.ok (.enter f vs) w
 calls:∀(vs:List Value) (w:World) (B:Bx),Hz B w→Ia vs Ds w B→Calls P f vs.toArray w (fun e w'=>∃v,e=.returned v∧R.p v w' B∧Below w.heap.size w w')
theorem Con.weak {f:FuncId} {Ds:List VP} {R R':VP} (h:Con P f Ds R) (hw:∀v w B,R.p v w B→R'.p v w B):Con P f Ds R':=
 ⟨h.enters,fun vs w B hB hV=>(h.calls vs w B hB hV).mono fun e w' ⟨v,e1,h1,h2⟩=>⟨v,e1,hw _ _ _ h1,h2⟩⟩
inductive qba (need:List (Tmp × FD)):List Operand→List VP→Prop where
 | nil:qba need [] []
 | cons {x:Operand} {D:VP} {xs:List Operand} {Ds:List VP} (h:Opd need x (.val D)) (t:qba need xs Ds):qba need (x :: xs) (D :: Ds)
theorem qba.all {xs:List Operand} {Ds:List VP} (h:qba need xs Ds) {a:Act} {w:World} {B:Bx} (hF:Fct a w B need):Ia (xs.map a.eval) Ds w B:=by
 induction h with
 | nil=>trivial
 | cons h t ih=>exact ⟨h a w B hF,ih⟩
theorem zl {f:FuncId} {args:List Operand} {ts:Array TypeId} {Ds:List VP} {R:VP} (C:Con P f Ds R) (h:qba need args Ds):jo P ⟨d,.call { callee:=.value (.func f),args:=args.toArray,argTypes:=ts },ty,pos,af,g⟩ need (.val R) false:=by
 intro Q K a w B hB hF hK
 have hr:(execOp a.eval ⟨d,.call { callee:=.value (.func f),args:=args.toArray,argTypes:=ts },ty,pos,af,g⟩).run P w=.ok (.enter f (args.map a.eval).toArray) w:=by
  simp [execOp,resolve,Act.eval,Deferred.ofValue,invoke,Sem.run_bind,C.enters]
 unfold Oper.wp
 rw [hr]
 refine (C.calls (args.map a.eval) w B hB (h.all hF)).mono ?_
 rintro e w' ⟨v,rfl,h1,h2⟩
 have hbl:=Bl.of_below B h2
 exact hK v w' B h1 hbl h2 (fun k hk=>Nat.lt_of_lt_of_le (hB k hk) h2.size) (by simp)
def Tup (Ds:List VP):VP:=⟨fun v w B=>∃vs,v=.tuple vs.toArray∧Ia vs Ds w B,fun v w B w' B' h hp=>by
 obtain ⟨vs,h1,h2⟩:=hp
 exact ⟨vs,h1,h2.st h⟩⟩
theorem Ia.get {w:World} {B:Bx}:∀ {vs:List Value} {Ds:List VP},Ia vs Ds w B→∀(k:Nat) (D:VP),Ds[k]?=some D→∃v,vs[k]?=some v∧D.p v w B
 | [],[],_,k,D,hk=>by simp at hk
 | v :: vs,E :: Ds,⟨h1,h2⟩,k,D,hk=>by
  cases k with
  | zero=>simp at hk;subst hk;exact ⟨v,rfl,h1⟩
  | succ k=>exact Ia.get h2 k D (by simpa using hk)
theorem zq {x:Operand} {Ds:List VP} (k:Nat) {D:VP} (h:Opd need x (.val (Tup Ds))) (hk:Ds[k]?=some D):jo P ⟨d,.extract x k,ty,pos,af,g⟩ need (.val D) false:=
 jo.value fun a w B hF=>by
  obtain ⟨vs,e,hv⟩:=h a w B hF
  obtain ⟨v,h1,h2⟩:=hv.get k D hk
  refine ⟨v,?_,h2⟩
  simp [execOp,e,Instr.extract,h1,Sem.run_bind]
theorem Gx {c x y:Operand} {D:FD} (hc:Opd need c (.val (IsB true))) (h:Opd need x D):jo P ⟨d,.pick c x y,ty,pos,af,g⟩ need D false:=
 jo.value fun a w B hF=>by
  have e:a.eval c=.bool true:=hc a w B hF
  exact ⟨a.eval x,by simp [execOp,e,asBool,Sem.run_bind],h a w B hF⟩
theorem Cf {c x y:Operand} {D:FD} (hc:Opd need c (.val (IsB false))) (h:Opd need y D):jo P ⟨d,.pick c x y,ty,pos,af,g⟩ need D false:=
 jo.value fun a w B hF=>by
  have e:a.eval c=.bool false:=hc a w B hF
  exact ⟨a.eval y,by simp [execOp,e,asBool,Sem.run_bind],h a w B hF⟩
def Grd (c:Bool) (D:VP):VP:=⟨fun v w B=>(c=true→D.p v w B)∧(c=false→v=undef),fun v w B w' B' h hp=>⟨fun e=>D.st _ _ _ _ _ h (hp.1 e),hp.2⟩⟩
theorem Eo.sym {ops:Array Oper} {o:Oper} {D:VP} (g:Nat) (b c t:Bool) {og:Oper} {s:Tmp} (hg:o.guard=some (g,b)) (hog:ops[g]?=some og) (hd:og.dst=some s)
  (k:Nat) {need':List (Tmp × FD)} (hk:need[k]?=some (s,.val (IsB c))) (ht:(c == b)=t) (hw:∀a w B,t=true→Fct a w B need→Fct a w B need') (h:t=true→jo P o need' (.val D) false):Eo P ops o need (.val (Grd t D)) false:=by
 intro Q K i a w B ho hB hF hK
 have hv:a.tmps.getD s undef=.bool c:=hF.get k hk
 unfold wpOp
 simp only [ho]
 cases t with
 | true=>
  have e:c=b:=by simpa using ht
  rw [if_pos (by simp [Region.wanted,hg,Jw hog hd hv,e])]
  refine .inl (h rfl Q K a w B hB (hw a w B rfl hF) fun v w' B' h1 h2 h3 h4 h5=>hK v w' B' ⟨fun _=>h1,fun e=>by cases e⟩ h2 h3 h4 h5)
 | false=>
  have e:c≠b:=by simpa using ht
  rw [if_neg (by simp [Region.wanted,hg,Jw hog hd hv,e])]
  exact hK undef w B ⟨fun e=>by (cases e),fun _=>rfl⟩ (Bl.refl _ _) (Below.refl _ _) hB (by simp)
theorem F8 {c x y:Operand} (b:Bool) {D:VP} (hc:Opd need c (.val (IsB b))) (hx:b=true→Opd need x (.val D)) (hy:b=false→Opd need y (.val D)):jo P ⟨d,.pick c x y,ty,pos,af,g⟩ need (.val D) false:=
 jo.value fun a w B hF=>by
  have e:a.eval c=.bool b:=hc a w B hF
  cases b with
  | true=>exact ⟨a.eval x,by simp [execOp,e,asBool,Sem.run_bind],hx rfl a w B hF⟩
  | false=>exact ⟨a.eval y,by simp [execOp,e,asBool,Sem.run_bind],hy rfl a w B hF⟩
theorem Opd.grd {x:Operand} {b:Bool} {D:VP} (h:Opd need x (.val (Grd b D))) (hb:b=true):Opd need x (.val D):=fun a w B hF=>(h a w B hF).1 hb
theorem Opd.eqB {x:Operand} {b c:Bool} (h:Opd need x (.val (IsB b))) (hb:b=c):Opd need x (.val (IsB c)):=hb ▸ h
theorem Xj {t:TypeId} {p q:Bool} (hu:P.underlying t=some .bool) (w:World):(Op.equal t (.bool p) (.bool q)).run P w=.ok (p == q) w:=by
 unfold Op.equal
 rw [show Op.maxDepth=(Op.maxDepth-1)+1 from rfl]
 generalize Op.maxDepth-1=m
 simp [Op.equalIn,Sem.run_bind,run_underlying hu]
theorem qn0 {x y:Operand} {p q:Bool} {t t':TypeId} (hu:P.underlying t=some .bool) (h:Opd need x (.val (IsB p))) (h':Opd need y (.val (IsB q))):jo P ⟨d,.binOp .eql t x y t',ty,pos,af,g⟩ need (.val (IsB (p == q))) false:=
 jo.value fun a w B hF=>by
  have e1:a.eval x=.bool p:=h a w B hF
  have e2:a.eval y=.bool q:=h' a w B hF
  refine ⟨.bool (p == q),?_,rfl⟩
  simp [execOp,e1,e2,eqGuard,binOp,Sem.run_bind,Xj hu]
  try rfl
theorem qku {x y:Operand} {p q:Bool} {t t':TypeId} (hu:P.underlying t=some .bool) (h:Opd need x (.val (IsB p))) (h':Opd need y (.val (IsB q))):jo P ⟨d,.binOp .neq t x y t',ty,pos,af,g⟩ need (.val (IsB (p != q))) false:=
 jo.value fun a w B hF=>by
  have e1:a.eval x=.bool p:=h a w B hF
  have e2:a.eval y=.bool q:=h' a w B hF
  refine ⟨.bool (p != q),?_,rfl⟩
  simp [execOp,e1,e2,eqGuard,binOp,Sem.run_bind,Xj hu]
  cases p <;> cases q <;> rfl
theorem Eh {x:Operand} {b:Bool} {t:TypeId} (h:Opd need x (.val (IsB b))):jo P ⟨d,.unOp .not t x,ty,pos,af,g⟩ need (.val (IsB (!b))) false:=
 jo.value fun a w B hF=>by
  have e:a.eval x=.bool b:=h a w B hF
  exact ⟨.bool (!b),by simp [execOp,e,Op.unary,Sem.run_bind],rfl⟩
theorem qaq {x:Operand} {o:Op} {u r:Value} (h:Opd need x (.val (Lit u))) (hr:∀(ρ:Operand→Value) (w:World),ρ x=u→(execOp ρ ⟨d,o,ty,pos,af,g⟩).run P w=.ok (.value r) w):jo P ⟨d,o,ty,pos,af,g⟩ need (.val (Lit r)) false:=
 jo.value fun a w B hF=>⟨r,hr _ w (h a w B hF),rfl⟩
theorem Ht {x y:Operand} {o:Op} {u v r:Value} (h:Opd need x (.val (Lit u))) (k:Opd need y (.val (Lit v))) (hr:∀(ρ:Operand→Value) (w:World),ρ x=u→ρ y=v→(execOp ρ ⟨d,o,ty,pos,af,g⟩).run P w=.ok (.value r) w):jo P ⟨d,o,ty,pos,af,g⟩ need (.val (Lit r)) false:=
 jo.value fun a w B hF=>⟨r,hr _ w (h a w B hF) (k a w B hF),rfl⟩
theorem jq {x y:Operand} {o:BinOp} {k:IntKind} {i j:Int} {b:Bool} {t t':TypeId} (h:Opd need x (.val (Lit (.int k i)))) (h':Opd need y (.val (Lit (.int k j))))
  (hr:match o with
   | .eql=>b=decide (i=j) | .neq=>b=decide (i≠j) | .lss=>b=decide (i<j) | .leq=>b=decide (i≤j) | .gtr=>b=decide (j<i) | .geq=>b=decide (j≤i)
   | _=>False):jo P ⟨d,.binOp o t x y t',ty,pos,af,g⟩ need (.val (IsB b)) false:=
 jo.value fun a w B hF=>by
  have e1:a.eval x=.int k i:=h a w B hF
  have e2:a.eval y=.int k j:=h' a w B hF
  refine ⟨.bool b,?_,rfl⟩
  cases o <;> simp only at hr <;> first
   | exact hr.elim
   | (subst hr;simp [execOp,e1,e2,eqGuard,binOp,Op.intCmp,Sem.run_bind];try rfl)
theorem Dn {x:Operand} {t:TypeId} {n:Nat} {D:VP} {fs:Array Field} {fd:Field} (k off:Nat) (hu:P.underlying t=some (.struct fs)) (hk:fs[k]?=some fd) (ho:fd.offset=off) (hs:∀w:World,∃m,(sizeOf fd.type).run P w=.ok m w∧m≠0) (h:Opd need x (.box t n D)) :
  jo P ⟨d,.fieldAddr t x k,ty,pos,af,g⟩ need (.ptr t n D off) false:=
 jo.value fun a w B hF=>by
  obtain ⟨b,cs,h1,h2,h3,h4,h5,h6⟩:=h a w B hF
  obtain ⟨m,hm,hm0⟩:=hs w
  refine ⟨.pointer (some ⟨b,off,none⟩),?_,b,cs,rfl,h2,h3,h4,h5,h6⟩
  have hu2:(underlying t).run P w=.ok (.struct fs) w:=run_underlying hu w
  simp [execOp,Instr.fieldAt,Instr.sureAddr,h1,hu2,hk,fieldPlace,hm,hm0,Sem.run_bind,ho,Addr.add_mid]
theorem Rj {x:Operand} {o:Op} {D R:VP} (h:Opd need x (.val D)) (hr:∀(ρ:Operand→Value) (w:World) (B:Bx) (v:Value),D.p v w B→ρ x=v→∃r,(execOp ρ ⟨d,o,ty,pos,af,g⟩).run P w=.ok (.value r) w∧R.p r w B):jo P ⟨d,o,ty,pos,af,g⟩ need (.val R) false:=
 jo.value fun a w B hF=>hr _ w B _ (h a w B hF) rfl
theorem Oq {x y:Operand} {o:Op} {D E R:VP} (h:Opd need x (.val D)) (k:Opd need y (.val E)) (hr:∀(ρ:Operand→Value) (w:World) (B:Bx) (v u:Value),D.p v w B→E.p u w B→ρ x=v→ρ y=u→∃r,(execOp ρ ⟨d,o,ty,pos,af,g⟩).run P w=.ok (.value r) w∧R.p r w B):jo P ⟨d,o,ty,pos,af,g⟩ need (.val R) false:=
 jo.value fun a w B hF=>hr _ w B _ _ (h a w B hF) (k a w B hF) rfl rfl
end
section
variable {P:Program} {ops:Array Oper} {Q:Exit→Act→World→Prop} {md:Region.Mode}
def Shape (n:Nat) (D:VP):Prop:=∀v w B,D.p v w B→∃cs,v=.agg cs∧cs.size=n∧(cs.all (·.oneCell')=true)∧∀(j:Nat) (ik:IntKind) (x:Int),(ik=.u32∨ik=.u8)→cs[j]?≠some (.int ik x)
def FD.isVal:FD→Bool
 | .val _=>true
 | _=>false
def FD.isBox:FD→Bool
 | .box ..=>true
 | _=>false
def stored (p:Tmp) (f:FD) (l:List (Tmp × FD)):List (Tmp × FD):=l.map fun x=>if x.1=p then (p,f) else x
theorem Mv.setRow {w:World} {B:Bx} {b:Nat} {cs0 cs:Array Value} {t:TypeId} (hb:B b) (h:w.heap[b]?=some (.cells cs0 t (0,0))) (hp:∀(j:Nat) (ik:IntKind) (x:Int),(ik=.u32∨ik=.u8)→cs0[j]?≠some (.int ik x)):Mv w B (w.setRow b cs) B:=by
 refine ⟨by simp [World.setRow],fun k hk=>?_,fun _ _ h=>h⟩
 by_cases e:b=k
 ·subst e
  refine .inr ⟨hb,fun a ik x ha hik hc=>?_⟩
  unfold World.cell? at hc
  rw [ha,h] at hc
  simp only at hc
  split at hc
  ·cases hc
  ·exact hp _ _ _ hik hc
 ·exact .inl (by simp [World.setRow,Array.getElem?_modify,e])
theorem ja {i:Nat} {K:Act→World→Prop} {N:Nat} {w0:World} {B0:Bx} {a:Act} {w:World} {B:Bx} {l l':List (Tmp × FD)} {bxs:List Tmp} {t:TypeId} {n:Nat} {p:Tmp} {x:Operand} {D0 D:VP} {ty:TypeId} {pos:String} {af:Array Edge} (kp:Nat)
  (H:St N w0 B0 a w B l bxs) (ho:ops[i]?=some ⟨none,.store t (.tmp p) x,ty,pos,af,none⟩) (T:Zy P t n) (hp:l[kp]?=some (p,.box t n D0)) (hx:Opd l x (.val D)) (s0:Shape n D0) (s1:Shape n D)
  (hc:(bxs.contains p && l.all fun y=>y.2.isVal || (y.2.isBox && bxs.contains y.1))=true) (hl:stored p (.box t n D) l=l')
  (hK:∀w,St N w0 B0 a w B l' bxs→K a w):wpOp P ops Q i K a w:=by
 obtain ⟨b,cs0,e1,hB,hlt,hrow,hsz,hD0⟩:=H.fc.get kp hp
 have hxv:=hx a w B H.fc
 obtain ⟨cs,e2,hn,hone,hpl⟩:=s1 _ _ _ hxv
 obtain ⟨cs1,e3,hn1,hone1,hpl1⟩:=s0 _ _ _ hD0
 injection e3 with e3
 subst e3
 have hrun:(storeVar t ⟨b,0,none⟩ (.agg cs)).run P w=.ok () (w.setRow b cs):=run_storeVar_row w b t t cs0 cs hrow (by rw [T.size,hn]) (by omega) hone
 have hmv:Mv w B (w.setRow b cs) B:=Mv.setRow hB hrow hpl1
 simp only [Bool.and_eq_true,List.all_eq_true,Bool.or_eq_true] at hc
 obtain ⟨hpb,hall⟩:=hc
 rw [List.contains_iff_mem] at hpb
 have hsame:∀k,k≠b→(w.setRow b cs).heap[k]?=w.heap[k]?:=fun k hk=>by simp [World.setRow,Array.getElem?_modify,Ne.symm hk]
 have hs:(w.setRow b cs).heap.size=w.heap.size:=by simp [World.setRow]
 have hD1:D.p (.agg cs) w B:=by rw [←e2];exact hxv
 unfold wpOp
 simp only [ho]
 rw [if_pos (by simp [Region.wanted])]
 refine .inl ?_
 unfold Oper.wp
 have hr2:(execOp a.eval ⟨none,.store t (.tmp p) x,ty,pos,af,none⟩).run P w=.ok .skip (w.setRow b cs):=by
  have e4:a.eval (.tmp p)=.pointer (some ⟨b,0,none⟩):=e1
  simp only [execOp,e4,e2,Instr.storeAt,Instr.sureAddr,Sem.run_bind,Sem.run_pure,Result.andThen_ok,hrun]
 rw [hr2]
 show K a (w.setRow b cs)
 refine hK _ ⟨H.df,H.sz,?_,fun s hs2=>?_,H.ap,?_,fun k hk=>by rw [hs];exact H.own k hk,H.own0⟩
 ·rw [←hl]
  refine Fct.of_all fun y hy=>?_
  obtain ⟨z,hz,rfl⟩:=List.mem_map.1 hy
  have hzf:=H.fc.all z hz
  by_cases ez:z.1=p
  ·rw [if_pos ez]
   exact ⟨b,cs,e1,hB,by rw [hs];exact hlt,setRow_heap w b cs0 cs t (0,0) hrow,hn,D.st _ _ _ _ _ hmv hD1⟩
  ·rw [if_neg ez]
   rcases hall z hz with hv | hb
   ·cases hf:z.2 with
    | val E=>rw [hf] at hzf;exact E.st _ _ _ _ _ hmv hzf
    | box t n E=>rw [hf] at hv;cases hv
    | ptr t n E off=>rw [hf] at hv;cases hv
   ·cases hf:z.2 with
    | val E=>rw [hf] at hb;simp [FD.isBox] at hb
    | ptr t n E off=>rw [hf] at hb;simp [FD.isBox] at hb
    | box t2 n2 E=>
     rw [hf] at hzf hb
     have hzb:=List.contains_iff_mem.1 hb.2
     obtain ⟨c,cs2,g1,g2,g3,g4,g5,g6⟩:=hzf
     have hne:c≠b:=by
      rintro rfl
      exact H.ap z.1 hzb p hpb ez (g1.trans e1.symm)
     exact ⟨c,cs2,g1,g2,by rw [hs];exact g3,(hsame c hne).trans g4,g5,E.st _ _ _ _ _ hmv g6⟩
 ·obtain ⟨c,g1,g2,g3⟩:=H.bx s hs2
  exact ⟨c,g1,by rw [hs];exact g2,g3⟩
 ·obtain ⟨c,g1,g2,g3⟩:=H.bx p hpb
  rw [e1] at g1
  injection g1 with g1;injection g1 with g1;injection g1 with g1
  subst g1
  refine ⟨H.bel.os,H.bel.tape,H.bel.output,by rw [hs];exact H.bel.size,fun k hk=>?_⟩
  rw [hsame k (by omega)]
  exact H.bel.block k hk
theorem jm {i:Nat} {K:Act→World→Prop} {N:Nat} {w0:World} {B0:Bx} {a:Act} {w:World} {B:Bx} {l l':List (Tmp × FD)} {bxs:List Tmp} {o:Oper} {D:FD} {s:Tmp}
  (H:St N w0 B0 a w B l bxs) (ho:ops[i]?=some o) (hd:o.dst=some s) (hsN:decide (s<N)=true) (h:Eo P ops o l D false) (hl:(s,D) :: l.filter (fun x=>x.1 != s)=l') (hb:bxs.contains s=false)
  (hK:∀a w B,St N w0 B0 a w B l' bxs→K a w):wpOp P ops Q i K a w:=by
 refine h Q K i a w B ho H.own H.fc fun v w' B' hp hbl hbel hown _=>hK _ _ B' ?_
 have hs:∀d,o.dst=some d→d<a.tmps.size:=fun d hd2=>by
  rw [hd] at hd2
  injection hd2 with hd2
  subst hd2
  rw [H.sz]
  exact of_decide_eq_true hsN
 have hput:∀x,(a.put o.dst v).tmps.getD x undef=if o.dst=some x then v else a.tmps.getD x undef:=fun x=>Dc hs
 have hold:∀x,x∈bxs→(a.put o.dst v).tmps.getD x undef=a.tmps.getD x undef:=fun x hx=>by
  rw [hput,if_neg ?_]
  intro e
  rw [hd] at e
  injection e with e
  subst e
  rw [←List.contains_iff_mem,hb] at hx
  cases hx
 refine ⟨put_defers.trans H.df,Dk.trans H.sz,?_,fun x hx=>?_,fun x hx y hy hxy=>?_,Dw H.bel H.bel.size hbel,hown,fun k hk=>?_⟩
 ·rw [←hl]
  refine Fct.of_all fun x hx=>?_
  rcases List.mem_cons.1 hx with rfl | hx
  ·show D.p _ w' B'
   rw [hput,if_pos hd];exact hp
  ·rw [List.mem_filter] at hx
   have hne:x.1≠s:=by simpa using hx.2
   rw [hput,if_neg (fun e=>hne (by rw [hd] at e;injection e with e;exact e.symm))]
   exact x.2.st hbl (H.fc.all x hx.1)
 ·obtain ⟨b,h1,h2,h3⟩:=H.bx x hx
  exact ⟨b,(hold x hx).trans h1,Nat.lt_of_lt_of_le h2 hbel.size,h3⟩
 ·rw [hold x hx,hold y hy];exact H.ap x hx y hy hxy
 ·have h1:=H.own0 k hk
  exact (hbl.box k (H.own k h1)).2 h1
theorem qlu {fuel:Nat} {l:Array Bool} {a:Act} {w:World} (i:Nat) (hr:Region.ready md ops l=[i]) (h:wpOp P ops Q i (fun a' w'=>wpAny P md ops Q fuel (l.setIfInBounds i true) a' w') a w):wpAny P md ops Q (fuel+1) l a w:=by
 refine ⟨fun e=>?_,fun j hj=>?_⟩
 ·rw [hr] at e;cases e
 ·rw [hr] at hj
  rcases List.mem_singleton.1 hj with rfl
  exact h
theorem Bh {fuel:Nat} {l:Array Bool} {a:Act} {w:World} (hr:Region.ready md ops l=[]) (h:Q .normal a w):wpAny P md ops Q fuel l a w:=by
 cases fuel with
 | zero=>exact ⟨hr,h⟩
 | succ n=>exact ⟨fun _=>h,fun j hj=>by rw [hr] at hj;cases hj⟩
theorem zi {i:Nat} {rest:List Nat} {a:Act} {w:World} (h:wpOp P ops Q i (fun a' w'=>wpOps P ops Q rest a' w') a w):wpOps P ops Q (i :: rest) a w:=by
 rw [wpOps_cons];exact h
theorem qi {a:Act} {w:World} (h:Q .normal a w):wpOps P ops Q [] a w:=h
end
section
variable {P:Program} {Q:Exit→Act→World→Prop} {N:Nat} {w0:World} {B0:Bx} {a:Act} {w:World} {B:Bx} {l:List (Tmp × FD)} {bxs:List Tmp}
theorem Aa {c:Operand} {x y:Code} {b:Bool} (H:St N w0 B0 a w B l bxs) (hc:Opd l c (.val (IsB b))) (ht:b=true→x.wp P Q a w) (hf:b=false→y.wp P Q a w):(Code.cond c x y).wp P Q a w:=
 wp_cond_split (hc a w B H.fc) ht hf
theorem Iq {c:Operand} {x y:Code} (H:St N w0 B0 a w B l bxs) (hc:Opd l c (.val (IsB true))) (h:x.wp P Q a w):(Code.cond c x y).wp P Q a w:=wp_cond_true (hc a w B H.fc) h
theorem Fq {c:Operand} {x y:Code} (H:St N w0 B0 a w B l bxs) (hc:Opd l c (.val (IsB false))) (h:y.wp P Q a w):(Code.cond c x y).wp P Q a w:=wp_cond_false (hc a w B H.fc) h
def qic (T F:Prop):VP:=⟨fun v _ _=>∃b:Bool,v=.bool b∧(b=true→T)∧(b=false→F),fun _ _ _ _ _ _ h=>h⟩
theorem ql4 {c:Operand} {x y:Code} {T F:Prop} (H:St N w0 B0 a w B l bxs) (hc:Opd l c (.val (qic T F))) (ht:T→x.wp P Q a w) (hf:F→y.wp P Q a w):(Code.cond c x y).wp P Q a w:=by
 obtain ⟨b,e,h1,h2⟩:=hc a w B H.fc
 exact wp_cond_split e (fun h=>ht (h1 h)) (fun h=>hf (h2 h))
theorem Ba {f:FuncId} {fn:Func} {c:Code} {Ds:List VP} {R:VP} {N:Nat} (hN:fn.ntmps=N) (he:∀(vs:Array Value) (w:World),(callFunc f vs).run P w=.ok (.enter f vs) w) (hf:P.funcs[f]?=some fn) (hb:fn.body=some c) (hn:Ds.length≤N)
  (h:∀(a:Act) (w:World) (B:Bx),St N w B a w B (Ds.zipIdx.map fun x=>(x.2,.val x.1)) []→c.wp P (bodyPost P fn fun e w'=>∃v,e=.returned v∧R.p v w' B∧Below w.heap.size w w') a w):Con P f Ds R:=by
 refine ⟨he,fun vs w B hB hV=>calls_of_wp hf hb (h _ w B ⟨rfl,?_,Fct.of_all fun x hx=>?_,by simp,by simp,Below.refl _ _,hB,fun _ h=>h⟩)⟩
 ·have hl:vs.length=Ds.length:=by
   clear hn h hB
   induction vs generalizing Ds with
   | nil=>cases Ds with
    | nil=>rfl
    | cons D Ds=>exact hV.elim
   | cons v vs ih=>cases Ds with
    | nil=>exact hV.elim
    | cons D Ds=>simp [ih hV.2]
  simp [hN];omega
 ·obtain ⟨y,hy,rfl⟩:=List.mem_map.1 hx
  have h1:=List.mem_zipIdx_iff_getElem?.1 hy
  obtain ⟨v,h2,h3⟩:=hV.get y.2 y.1 h1
  have hlt:y.2<vs.length:=(List.getElem?_eq_some_iff.1 h2).1
  have e:(vs.toArray++Array.replicate (fn.ntmps-vs.toArray.size) undef).getD y.2 undef=v:=by
   rw [Array.getD_eq_getD_getElem?,Array.getElem?_append_left (by simpa using hlt)]
   simp [h2]
  show y.1.p _ w B
  rw [e]
  exact h3
theorem Rz {fn:Func} {R:VP} {s:Tmp} (H:St N w0 B0 a w B l bxs) (hr:fn.results = #[.tmp s]) (k:Nat) {D:VP} (hk:l[k]?=some (s,.val D)) (hD:∀v w B,D.p v w B→R.p v w B):bodyPost P fn (fun e w'=>∃v,e=.returned v∧R.p v w' B0∧Below w0.heap.size w0 w') .ret a w:=by
 refine ⟨H.df,a.tmps.getD s undef,?_,_,rfl,R.st _ _ _ _ _ (Mv.shrink H.own0) (hD _ _ _ (H.fc.get k hk)),H.bel⟩
 simp [results,hr]
theorem Cc {fn:Func} {R:VP} {s:Tmp} {t:TypeId} {n:Nat} (H:St N w0 B0 a w B l bxs) (T:Zy P t n) (hr:fn.results = #[.cell s t]) (k:Nat) {D:VP} (hk:l[k]?=some (s,.box t n D)) (hD:∀v w B,D.p v w B→R.p v w B):bodyPost P fn (fun e w'=>∃v,e=.returned v∧R.p v w' B0∧Below w0.heap.size w0 w') .ret a w:=by
 obtain ⟨b,cs,h1,h2,h3,h4,h5,h6⟩:=H.fc.get k hk
 obtain ⟨dd,hu,hd⟩:=T.row
 refine ⟨H.df,.agg cs,results_cell_row hr _ _ b t cs (0,0) dd h1 h4 hu (by cases dd <;> simp_all) (by rw [T.size,h5]),_,rfl,R.st _ _ _ _ _ (Mv.shrink H.own0) (hD _ _ _ h6),H.bel⟩
theorem kw {id:Nat} (h:Q .normal a w):Exit.inBlock id Q .normal a w:=h
theorem D7 {id:Nat} (h:Q .ret a w):Exit.inBlock id Q .ret a w:=h
theorem Am {id:Nat} (h:Q .normal a w):Exit.inBlock id Q (.exit id) a w:=by
 show (if id=id then Q .normal a w else Q (.exit id) a w)
 rw [if_pos rfl];exact h
theorem Qv {id j:Nat} (hj:j≠id) (h:Q (.exit j) a w):Exit.inBlock id Q (.exit j) a w:=by
 show (if j=id then Q .normal a w else Q (.exit j) a w)
 rw [if_neg hj];exact h
theorem jy {K:Act→World→Prop} {id:Nat} (h:Q (.exit id) a w):Exit.then K Q (.exit id) a w:=h
theorem Vl {id:Nat} {N:Nat} {opl:List Oper} {dsts:List (Option Tmp)} {refs:List (List Ref)} {outs:List Ref} {als:List Bool} {posts:List FD} {pre out:List (Tmp × FD)} {bxs nb:List Tmp} (H:St N w0 B0 a w B pre bxs)
  (hm:P.follows .mixedOrders=true) (m:Nat) (fuel:Nat) (lst:Array Bool)
  (hck:Eg true .any opl.toArray m N dsts (pre.map Prod.fst) bxs refs outs als=true) (hls:(decide (A7 opl.toArray.size m=lst) && decide (Ei lst=fuel))=true) (hout:outs.map (Ai dsts posts pre)=out) (hnb:Kw dsts als=nb)
  (hall:Je P opl.toArray (Ai dsts posts pre) opl refs posts als)
  (hfull:∀a w B,St N w0 B0 a w B out (nb++bxs)→wpAny P .any opl.toArray Q fuel lst a w):(Code.region id opl.toArray true).wp P Q a w:=by
 rw [Bool.and_eq_true,decide_eq_true_eq,decide_eq_true_eq] at hls
 refine qgw H hm m hck hout hnb hall fun a w B h=>?_
 rw [hls.1,hls.2]
 exact hfull a w B h
theorem Az {md:Region.Mode} {ops:Array Oper} {fuel:Nat} {l l':Array Bool} (i:Nat) (hr:(decide (Region.ready md ops l=[i]) && decide (l.setIfInBounds i true=l'))=true) (h:wpOp P ops Q i (fun a' w'=>wpAny P md ops Q fuel l' a' w') a w):wpAny P md ops Q (fuel+1) l a w:=by
 rw [Bool.and_eq_true,decide_eq_true_eq,decide_eq_true_eq] at hr
 refine qlu i hr.1 ?_
 rw [hr.2];exact h
theorem qg {K:Act→World→Prop} (h:K a w):Exit.then K Q .normal a w:=h
theorem yh {K:Act→World→Prop} (h:Q .ret a w):Exit.then K Q .ret a w:=h
end
end Go.Proofs.YtbcbmkeeoognpaaGreatDoor

namespace Go.Proofs.YtbcbmkeeoognpaaGreatDoor
open Go.RowKit
theorem Vm:(Tryz.prog.info? 44).map (fun i=>(i.zero,i.size,i.bytes))=some (some (.int .u32 0),1,4):=by kernel_rfl
def Twin (xs:List Int) (w:World) (e:Ending) (w':World):Prop:=
 e=.returned (.slice (some ⟨w.heap.size,0,none⟩) xs.length (xs.length+1))∧Blk w' w.heap.size 44 .u32 (xs++[2148261425])∧Below w.heap.size w w'
def qne (w:World) (xs:List Int) (k:Nat) (wr:World):Prop:=
 Blk wr w.heap.size 44 .u32 (xs.take k++List.replicate (xs.length+1-k) 0)∧Below w.heap.size w wr
theorem qlc (xs:List Int) (k:Nat) (hk:k<xs.length):(xs.take k++List.replicate (xs.length+1-k) 0).set k (xs[k]?.getD 0)=xs.take (k+1)++List.replicate (xs.length+1-(k+1)) 0:=by
 rw [List.set_append_right _ _ (by rw [List.length_take];omega),List.length_take,Nat.min_eq_left (by omega),Nat.sub_self,show xs.length+1-k=(xs.length+1-(k+1))+1 by omega,List.replicate_succ,List.set_cons_zero,
  List.take_add_one,List.getElem?_eq_getElem hk,List.append_assoc]
 rfl
theorem qh2 (xs:List Int) (m:Int):(xs.take xs.length++List.replicate (xs.length+1-xs.length) 0).set xs.length m=xs++[m]:=by
 rw [List.take_length,List.set_append_right _ _ (Nat.le_refl _),Nat.sub_self,show xs.length+1-xs.length=0+1 by omega,List.replicate_succ,List.set_cons_zero]
 rfl
theorem qez (ad:Option Addr) (n c:Nat) (xs:List Int) (w:World) (hn:n≤70368744177663) (hr:Rds w .u32 ad n xs) :
  Calls Tryz.prog 14 #[.slice ad n c] w (Twin xs w):=by
 have HL:=Lib.hid hr.len
 have hmk:=Du (P:=Tryz.prog) 23 44 .u32 4 Tryz.underlying23 Vm (by omega) (n+1) (by omega) ((n:Int)+1) (by omega)
 go_enter Tryz.func14,Tryz.ntmps14
 go_wp2
 clear hmk
 have hr0:qne w xs 0 (w.alloc (.cells (nums .u32 (List.replicate (n+1) 0)).toArray 44)):=
  ⟨by rw [HL.out];exact Blk.made _ _ _ _ _ rfl,(Below.refl _ _).alloc (Nat.le_refl _) _⟩
 go_loopw [4] (fun i wr=>∃k:Nat,k≤n∧i=.int .i64 k∧qne w xs k wr) (fun i _=>n-(intOf i).toNat)
 case atStart=>exact ⟨0,Nat.zero_le _,rfl,hr0⟩
 case round=>
  clear hr0
  obtain ⟨k,hk,rfl,h1,h2⟩:=hrel
  by_cases hkn:k<n
  ·obtain ⟨a,rfl,hxl⟩:=(hr.below h2 (Nat.le_refl _)).cell k hkn
   have hy:=h1.cell k (by rw [List.length_append,List.length_take,List.length_replicate,HL.out];omega)
   have hf:=h1.free k
   have HT:=Lib.hid (qlc xs k (by rw [HL.out];exact hkn))
   have h3:=h1.set k (xs[k]?.getD 0)
   rw [HT.out] at h3
   clear h1
   go_wp2
   go_roundw
   case rel=>exact ⟨k+1,by omega,by go_num,h3,je h2 _ _ _ (Nat.le_refl _)⟩
   case measure=>simp [intOf];omega
  ·obtain rfl:k=n:=by omega
   have hy:=h1.cell k (by rw [List.length_append,List.length_take,List.length_replicate,HL.out];omega)
   have hf:=h1.free k
   have h3:=h1.set k 2148261425
   have HT:=qh2 xs 2148261425
   rw [HL.out] at HT
   rw [HL.out,HT] at h3
   clear h1 HT
   go_wp2
   go_ret
   refine ⟨by rw [HL.out];rfl,h3,je h2 _ _ _ (Nat.le_refl _)⟩
def Same (r:Bool) (w:World) (e:Ending) (w':World):Prop:=e=.returned (.bool r)∧∃q,w'=w.drewN q
theorem qdp (xs zs:List Int) (h:xs.length=zs.length) (hk:∀j,j<xs.length→xs[j]?.getD 0=zs[j]?.getD 0):xs=zs:=by
 apply List.ext_getElem h
 intro i h1 h2
 have:=hk i h1
 rw [List.getElem?_eq_getElem h1,List.getElem?_eq_getElem h2] at this
 exact this
theorem Xk (ad bd:Option Addr) (n m c d:Nat) (xs zs:List Int) (w:World) (hn:n≤9223372036854775807) (hm:m≤9223372036854775807) (ha:Rds w .u32 ad n xs) (hb:Rds w .u32 bd m zs) :
  Calls Tryz.prog 16 #[.slice ad n c,.slice bd m d] w (Same (decide (xs=zs)) w):=by
 have HL:=Lib.hid ha.len
 have HM:=Lib.hid hb.len
 by_cases hnm:n=m
 ·subst hnm
  go_enter Tryz.func16,Tryz.ntmps16
  go_wp2
  go_loopw [5] (fun i wr=>∃k:Nat,k≤n∧i=.int .i64 k∧Hid (∃q,wr=w.drewN q)∧Hid (∀j,j<k→xs[j]?.getD 0=zs[j]?.getD 0)) (fun i _=>n-(intOf i).toNat)
  case atStart=>exact ⟨0,Nat.zero_le _,rfl,⟨0,rfl⟩,fun j hj=>by omega⟩
  case round=>
   obtain ⟨k,hk,rfl,hq,hz⟩:=hrel
   obtain ⟨q,rfl⟩:=hq.out
   clear hq
   by_cases hkn:k<n
   ·obtain ⟨a,rfl,hxl⟩:=ha.cell k hkn
    obtain ⟨b,rfl,hzl⟩:=hb.cell k hkn
    clear ha hb
    generalize hgx:xs[k]?.getD 0=x at *
    have HX:=Lib.hid hgx
    clear hgx
    generalize hgz:zs[k]?.getD 0=z at *
    have HZ:=Lib.hid hgz
    clear hgz
    have hk0:(0:Int)≤(k:Int):=by omega
    by_cases hxz:x=z
    ·subst hxz
     have ht:(x != x)=false:=by simp
     go_wp2_with fail
     go_quiet (fail)
     go_wp2
     go_roundw
     case rel=>
      refine ⟨k+1,by omega,by go_num,⟨_,rfl⟩,fun j hj=>?_⟩
      by_cases e:j=k
      ·subst e;rw [HX.out,HZ.out]
      ·exact hz.out j (by omega)
     case measure=>simp [intOf];omega
    ·have ht:(x != z)=true:=by simp [hxz]
     have HF:Hid (decide (xs=zs)=false):=by
      refine decide_eq_false fun e=>hxz ?_
      rw [←HX.out,←HZ.out,e]
     clear hxz
     go_wp2_with fail
     go_quiet (fail)
     go_wp2
     go_ret
     rw [HF.out]
     exact ⟨rfl,_,World.drewN_drewN ..⟩
   ·obtain rfl:k=n:=by omega
    have HT:Hid (decide (xs=zs)=true):=decide_eq_true (qdp xs zs (by rw [HL.out,HM.out]) (fun j hj=>hz.out j (by rw [HL.out] at hj;exact hj)))
    go_wp2
    go_ret
    rw [HT.out]
    exact ⟨rfl,_,rfl⟩
 ·have HF:Hid (decide (xs=zs)=false):=by
   refine decide_eq_false fun e=>hnm ?_
   rw [←HL.out,←HM.out,e]
  have ht:((n:Int) != (m:Int))=true:=by simp;omega
  clear hnm
  go_enter Tryz.func16,Tryz.ntmps16
  go_wp2
  go_ret
  rw [HF.out]
  exact ⟨rfl,0,rfl⟩
theorem qcv {w:World} {b n:Nat} {xs:List Int} (ht:Blk w b 44 .u32 (xs++[2148261425])) (hl:xs.length=n):Rds w .u32 (some ⟨b,0,none⟩) n xs:=by
 have:=ht.rds.take n (by rw [List.length_append,hl];simp)
 rwa [List.take_append_of_le_length (by rw [hl];exact Nat.le_refl _),←hl,List.take_length,hl] at this
end Go.Proofs.YtbcbmkeeoognpaaGreatDoor

namespace Go.Proofs.YtbcbmkeeoognpaaGreatDoor
open Go.RowKit
theorem Ox:(Tryz.prog.info? 44).map (·.size)=some 1:=by kernel_rfl
theorem F6 (ad:Option Addr) (n c:Nat) (xs:List Int) (w:World) (hn:n≤70368744177664) (hnc:n≤c) (hr:Rds w .u32 ad n xs) (dx:Dig 4294967296 xs) :
  Calls Tryz.prog 62 #[.slice ad n c] w (Ns 44 .u32 (dg 4294967296 (val 4294967296 xs)) w):=by
 have hc:=Lib.hid (Bd ad n c xs w (by omega) hnc hr)
 have rx:=hr.norm
 have hl:=yf xs
 rw [hr.len] at hl
 have E:=Lib.hid (Ir 4294967296 (by omega) dx)
 clear hr
 generalize norm xs=ls at *
 obtain ⟨m,hm⟩:∃m,ls.length=m:=⟨_,rfl⟩
 rw [hm] at hc rx hl
 have HM:=Lib.hid hm
 clear hm
 have hmk:=Du (P:=Tryz.prog) 23 44 .u32 4 Tryz.underlying23 Ah (by omega) m (by omega) (m:Int) rfl
 go_enter Tryz.func62,Tryz.ntmps62
 go_wp2_with fail
 refine (hc.out).mono ?_
 rintro e w' ⟨rfl,rfl⟩
 have b0:Below w.heap.size w (w.alloc (.cells (nums .u32 (List.replicate m 0)).toArray 44)):=(Below.refl _ _).alloc (Nat.le_refl _) _
 have r0:=rx.below b0 (Nat.le_refl _)
 have k0:=Blk.made w 44 .u32 (List.replicate m 0) w.heap.size rfl
 go_wp2_with (refine Qb w.heap.size rfl (.tmp 9) (.tmp 10) 23 23 rfl 44 Tryz.underlying23 Ox (some ⟨w.heap.size,0,none⟩) ad m m m m rfl rfl w.heap.size 0 .u32 (List.replicate m 0) ls k0 r0 (Nat.le_refl _) (fun _=>rfl) (by simp) b0 (Nat.le_refl _) ?_;intro w2 k2 b2)
 go_ret
 have k3:Blk w2 w.heap.size 44 .u32 ls:=by simpa [List.drop_of_length_le] using k2
 have O:=k3.own (Nat.le_refl _) m (by rw [HM.out];exact Nat.le_refl _) (by rw [HM.out];omega)
 rw [←HM.out,List.take_length] at O
 rw [HM.out] at O
 refine ⟨_,_,_,rfl,?_,b2⟩
 have E':ls=dg 4294967296 (val 4294967296 xs):=E.out
 rw [←E']
 exact O
end Go.Proofs.YtbcbmkeeoognpaaGreatDoor
