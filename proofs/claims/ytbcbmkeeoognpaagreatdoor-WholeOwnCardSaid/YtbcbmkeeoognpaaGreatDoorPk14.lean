/- Contracts of functions, and plain facts, part 14. -/
import Derived.Lib.BufferWrite
import Derived.Laws.CopyOwn
import Derived.BigRegion
import Derived.Test.YtbcbmkeeoognpaaGreatDoorPk3
import Derived.Test.YtbcbmkeeoognpaaGreatDoorPk4
import Derived.Test.YtbcbmkeeoognpaaGreatDoorPk6
import Derived.Test.YtbcbmkeeoognpaaGreatDoorPk7
import Derived.Test.YtbcbmkeeoognpaaGreatDoorPk8
import Derived.Test.YtbcbmkeeoognpaaGreatDoorPk9
import Derived.Test.YtbcbmkeeoognpaaGreatDoorPk10
import Derived.Test.YtbcbmkeeoognpaaGreatDoorPk11
import Derived.Test.YtbcbmkeeoognpaaGreatDoorPk12
import Derived.Test.YtbcbmkeeoognpaaGreatDoorPk13
set_option linter.unusedVariables false
set_option linter.unusedSimpArgs false
namespace Go.Proofs.YtbcbmkeeoognpaaGreatDoor
open Go.RowKit
section
variable {P:Program} {ops:Array Oper} {rest:List Oper} {o:Oper} {a:Act} {Q:Exit→Act→World→Prop}
theorem O6 {w w':World} {v u v':Value} (hgd:o.guard=none) (d s:Operand) (dT sT:TypeId) (ho:o.op=.call { callee:=.builtin .copy,args:=#[d,s],argTypes:=#[dT,sT] }) (hd:a.eval d=v) (hs:a.eval s=u)
  (hr:(Builtin.copy_ #[dT,sT] o.type #[v,u]).run P w=.ok v' w') (h:wpList P ops Q rest (a.put o.dst v') w'):wpList P ops Q (o :: rest) a w:=
 wpList_plain hgd fun _ hK=>by
  unfold Oper.wp
  simp [execOp,ho,resolve,invoke,builtin,hd,hs,hr,Result.andThen]
  exact hK _ _ h
theorem J6 {w:World} (h:Hid (wpList P ops Q (o :: rest) a w)):wpList P ops Q (o :: rest) a w:=h.out
theorem I4 {w w0:World} (B:Nat) (hgd:o.guard=none) (d s:Operand) (dT sT:TypeId) (ho:o.op=.call { callee:=.builtin .copy,args:=#[d,s],argTypes:=#[dT,sT] })
  (e:TypeId) (hu:P.underlying dT=some (.slice e)) (hsz:(P.info? e).map (·.size)=some 1) (dp:Option Addr) (dLen dCap:Nat) (t:ByteArray) (hd:a.eval d=.slice dp dLen dCap) (hs:a.eval s=.string t)
  (g off:Nat) (cur ys:List Int) (hg:Blk w g e .u8 cur) (ht:t=yg ys) (dy:Dig 256 ys) (hl:ys.length≤dLen) (hpos:0<ys.length→dp=some ⟨g,off,none⟩) (hfit:off+ys.length≤cur.length) (hb:Below B w0 w) (hBg:B≤g) (Y:List Int) (hY:cur.take off++(ys++cur.drop (off+ys.length))=Y)
  (h:∀w',Blk w' g e .u8 Y→Below B w0 w'→wpList P ops Q rest (a.put o.dst (goInt ys.length)) w') :
  wpList P ops Q (o :: rest) a w:=by
 subst hY
 have hts:t.size=ys.length:=by rw [ht,Oy]
 by_cases h0:ys.length=0
 ·refine O6 hgd d s dT sT ho hd hs (Lib.run_copy_empty_string w dT sT o.type e dp dLen dCap t hu (by rw [hsz];rfl) (by omega)) ?_
  have:=h w (by rw [List.length_eq_zero_iff.1 h0];simpa using hg) hb
  rw [h0] at this
  exact this
 ·obtain rfl:=hpos (by omega)
  have hr:=Lib.run_copy_row_string (P:=P) w dT sT o.type e g off dLen dCap t (nums .u8 cur).toArray e hu hsz hg (by omega) (by rw [List.size_toArray,nums_length];omega)
  refine O6 hgd d s dT sT ho hd hs hr ?_
  rw [hts]
  refine h _ ?_ (below_setRow hb hBg _)
  have hbc:Lib.byteCells t.data.toList=nums .u8 ys:=by
   rw [ht]
   simp only [Lib.byteCells,yg,nums,List.map_map]
   refine List.map_congr_left fun x hx=>?_
   have:=dy x hx
   show Value.int .u8 ((UInt8.ofNat x.toNat).toNat:Int)=_
   rw [qft x this]
  unfold Blk
  rw [setRow_heap w g _ _ e _ hg]
  congr 2
  rw [hbc]
  simp [nums,List.map_take,List.map_drop]
end
theorem Hf:(Tryz.prog.info? 5).map (·.size)=some 1:=by kernel_rfl
def Rq (s:ByteArray) (ok:Bool) (w:World) (e:Ending) (w':World):Prop:=e=.returned (.tuple #[.string s,.bool ok])∧Below w.heap.size w w'
set_option maxHeartbeats 2000000 in
set_option maxRecDepth 20000 in
theorem qdb (ng1:Bool) (ad1:Option Addr) (n1 c1:Nat) (V1:Int) (k:Int) (w:World) (h1:Num w ad1 n1 c1 V1) (hn1:n1≤35184372088831) (hk:k<1) :
  Calls Tryz.prog 131 #[.agg #[.bool ng1,.slice ad1 n1 c1],.int .i64 k] w (Rq ByteArray.empty false w):=by
 have hV0:=h1.nonneg
 have T1:=Lib.hid h1.lt
 have b0:=Below.refl w.heap.size w
 have l0:Below w.heap.size w (w.alloc (.cells #[.bool ng1,.slice ad1 n1 c1] 52)):=(Below.refl _ _).alloc (Nat.le_refl _) _
 have b1:Below w.heap.size w (w.alloc (.cells #[.bool ng1,.slice ad1 n1 c1] 52)):=qw b0 l0
 have k0:Cel (w.alloc (.cells #[.bool ng1,.slice ad1 n1 c1] 52)) w.heap.size 52 [.bool ng1,.slice ad1 n1 c1]:=Cel.made _ _ _ _ (by simp)
 replace h1:=h1.below b1 (Nat.le_refl _)
 clear b0 l0
 have hg0:w.heap.size≤w.heap.size:=Nat.le_refl _
 have hS:=Bo ng1 ad1 n1 c1 V1 (w.alloc (.cells #[.bool ng1,.slice ad1 n1 c1] 52)) h1 (by omega)
 have hA1:=(F9 ng1 V1 hV0).symm
 generalize sI ng1 V1=N at *
 clear h1
 go_enter Tryz.func131,Tryz.ntmps131
 have h:=Lib.hid (hS)
 have e0a:=k0.cell 0 _ rfl
 have e0b:=k0.cell 1 _ rfl
 go_wp2_with fail
 with_reducible refine (h.out).mono ?_
 rintro e v1 ⟨xd,xn,xc,rfl,f1,b⟩
 clear h
 clear e0a e0b
 replace k0:=k0.next b
 have bb:=qw b1 b
 clear b b1
 have b1:=bb
 clear bb
 clear hS
 have hxn:xn≤n1:=f1.len_le n1 T1.out
 go_wp2_with fail
 go_ret2
 exact ⟨rfl,b1⟩
set_option maxHeartbeats 2000000 in
set_option maxRecDepth 20000 in
theorem qda (ng1:Bool) (ad1:Option Addr) (n1 c1:Nat) (V1:Int) (k:Int) (w:World) (h1:Num w ad1 n1 c1 V1) (hn1:n1≤35184372088831) (hk:1048576<k) :
  Calls Tryz.prog 131 #[.agg #[.bool ng1,.slice ad1 n1 c1],.int .i64 k] w (Rq ByteArray.empty false w):=by
 have hV0:=h1.nonneg
 have T1:=Lib.hid h1.lt
 have b0:=Below.refl w.heap.size w
 have l0:Below w.heap.size w (w.alloc (.cells #[.bool ng1,.slice ad1 n1 c1] 52)):=(Below.refl _ _).alloc (Nat.le_refl _) _
 have b1:Below w.heap.size w (w.alloc (.cells #[.bool ng1,.slice ad1 n1 c1] 52)):=qw b0 l0
 have k0:Cel (w.alloc (.cells #[.bool ng1,.slice ad1 n1 c1] 52)) w.heap.size 52 [.bool ng1,.slice ad1 n1 c1]:=Cel.made _ _ _ _ (by simp)
 replace h1:=h1.below b1 (Nat.le_refl _)
 clear b0 l0
 have hg0:w.heap.size≤w.heap.size:=Nat.le_refl _
 have hS:=Bo ng1 ad1 n1 c1 V1 (w.alloc (.cells #[.bool ng1,.slice ad1 n1 c1] 52)) h1 (by omega)
 have hA1:=(F9 ng1 V1 hV0).symm
 generalize sI ng1 V1=N at *
 clear h1
 go_enter Tryz.func131,Tryz.ntmps131
 have h:=Lib.hid (hS)
 have e0a:=k0.cell 0 _ rfl
 have e0b:=k0.cell 1 _ rfl
 go_wp2_with fail
 with_reducible refine (h.out).mono ?_
 rintro e v1 ⟨xd,xn,xc,rfl,f1,b⟩
 clear h
 clear e0a e0b
 replace k0:=k0.next b
 have bb:=qw b1 b
 clear b b1
 have b1:=bb
 clear bb
 clear hS
 have hxn:xn≤n1:=f1.len_le n1 T1.out
 go_wp2_with fail
 go_ret2
 exact ⟨rfl,b1⟩
set_option maxHeartbeats 2000000 in
set_option maxRecDepth 20000 in
theorem qe2 (ng1:Bool) (ad1:Option Addr) (n1 c1:Nat) (V1:Int) (k:Int) (w:World) (h1:Num w ad1 n1 c1 V1) (hn1:n1≤35184372088831) (hk:1≤k∧k≤1048576) (hv:¬V1<256 ^ k.toNat) :
  Calls Tryz.prog 131 #[.agg #[.bool ng1,.slice ad1 n1 c1],.int .i64 k] w (Rq ByteArray.empty false w):=by
 have hV0:=h1.nonneg
 have T1:=Lib.hid h1.lt
 have b0:=Below.refl w.heap.size w
 have l0:Below w.heap.size w (w.alloc (.cells #[.bool ng1,.slice ad1 n1 c1] 52)):=(Below.refl _ _).alloc (Nat.le_refl _) _
 have b1:Below w.heap.size w (w.alloc (.cells #[.bool ng1,.slice ad1 n1 c1] 52)):=qw b0 l0
 have k0:Cel (w.alloc (.cells #[.bool ng1,.slice ad1 n1 c1] 52)) w.heap.size 52 [.bool ng1,.slice ad1 n1 c1]:=Cel.made _ _ _ _ (by simp)
 replace h1:=h1.below b1 (Nat.le_refl _)
 clear b0 l0
 have hg0:w.heap.size≤w.heap.size:=Nat.le_refl _
 have hS:=Bo ng1 ad1 n1 c1 V1 (w.alloc (.cells #[.bool ng1,.slice ad1 n1 c1] 52)) h1 (by omega)
 have hA1:=(F9 ng1 V1 hV0).symm
 generalize sI ng1 V1=N at *
 clear h1
 have hb:8*k<bitsOf V1:=by
  obtain ⟨m,rfl⟩:=Int.eq_ofNat_of_zero_le (show 0≤k by omega)
  have:=U2 V1 hV0 m
  have h2:¬V1<256 ^ m:=hv
  omega
 have W1:IntKind.i64.wrap (8*k)=8*k:=IntWalk.i64_in _ (by omega)
 clear hv hA1
 go_enter Tryz.func131,Tryz.ntmps131
 have h:=Lib.hid (hS)
 have e0a:=k0.cell 0 _ rfl
 have e0b:=k0.cell 1 _ rfl
 go_wp2_with fail
 with_reducible refine (h.out).mono ?_
 rintro e v1 ⟨xd,xn,xc,rfl,f1,b⟩
 clear h
 clear e0a e0b
 replace k0:=k0.next b
 have bb:=qw b1 b
 clear b b1
 have b1:=bb
 clear bb
 clear hS
 have hxn:xn≤n1:=f1.len_le n1 T1.out
 have hN:=qao xd xn xc V1 v1 (f1.num hV0) (by omega)
 generalize bitsOf V1=bb at *
 have h:=Lib.hid (hN)
 have e0a:=k0.cell 0 _ rfl
 have e0b:=k0.cell 1 _ rfl
 go_wp2_with fail
 with_reducible refine (h.out).mono ?_
 rintro e w' ⟨rfl,rfl⟩
 clear h
 clear e0a e0b
 clear hN
 go_wp2_with fail
 go_ret2
 exact ⟨rfl,b1⟩
set_option maxHeartbeats 2000000 in
set_option maxRecDepth 20000 in
theorem qh6 (ng1:Bool) (ad1:Option Addr) (n1 c1:Nat) (V1:Int) (k:Int) (w:World) (h1:Num w ad1 n1 c1 V1) (hn1:n1≤35184372088831) (m:Nat) (hk:k=m) (hm:1≤m∧m≤1048576) (hv:V1<256 ^ m) (hs:sI ng1 V1<0) :
  Calls Tryz.prog 131 #[.agg #[.bool ng1,.slice ad1 n1 c1],.int .i64 k] w (Rq (yg (if (sI ng1 V1 / 256 ^ (m-1) % 256) / 128=1 then beB m (sI ng1 V1) else [])) (decide ((sI ng1 V1 / 256 ^ (m-1) % 256) / 128=1)) w):=by
 subst hk
 have hV0:=h1.nonneg
 have T1:=Lib.hid h1.lt
 have b0:=Below.refl w.heap.size w
 have l0:Below w.heap.size w (w.alloc (.cells #[.bool ng1,.slice ad1 n1 c1] 52)):=(Below.refl _ _).alloc (Nat.le_refl _) _
 have b1:Below w.heap.size w (w.alloc (.cells #[.bool ng1,.slice ad1 n1 c1] 52)):=qw b0 l0
 have k0:Cel (w.alloc (.cells #[.bool ng1,.slice ad1 n1 c1] 52)) w.heap.size 52 [.bool ng1,.slice ad1 n1 c1]:=Cel.made _ _ _ _ (by simp)
 replace h1:=h1.below b1 (Nat.le_refl _)
 clear b0 l0
 have hg0:w.heap.size≤w.heap.size:=Nat.le_refl _
 have hS:=Bo ng1 ad1 n1 c1 V1 (w.alloc (.cells #[.bool ng1,.slice ad1 n1 c1] 52)) h1 (by omega)
 have hA1:=(F9 ng1 V1 hV0).symm
 generalize sI ng1 V1=N at *
 clear h1
 have hb:=(U2 V1 hV0 m).2 hv
 have hL:=Y0 V1 m hv
 have dV:=A8 256 (by omega) V1.toNat
 change Dig 256 (dg 256 V1) at dV
 have hpad:=qfa (m-(dg 256 V1).length) V1 hV0
 rw [show m-(dg 256 V1).length+(dg 256 V1).length=m by omega] at hpad
 have htop:=qfb (m-1) N
 rw [show m-1+1=m by omega] at htop
 have hfin:zk (beB m V1)=beB m N:=by rw [qjv m V1 (by omega) hv];congr 1;omega
 have hsg:sgI N = -1:=by unfold sgI;rw [if_pos hs]
 obtain ⟨top,ht⟩:∃top,N / 256 ^ (m-1) % 256=top:=⟨_,rfl⟩
 rw [ht] at htop
 rw [ht]
 have htb:0≤top∧top<256:=by omega
 clear ht
 obtain ⟨Z,hZ⟩:∃Z,beB m N=Z:=⟨_,rfl⟩
 have hZl:Z.length=m:=by rw [←hZ];exact Ll _ _
 have hZd:Dig 256 Z:=by rw [←hZ];exact Ud _ _
 rw [hZ] at hfin htop
 rw [hZ]
 obtain ⟨R,hR⟩:∃R,R=yg (if top / 128=1 then Z else []):=⟨_,rfl⟩
 obtain ⟨ok,hok⟩:∃ok,ok=decide (top / 128=1):=⟨_,rfl⟩
 rw [←hR,←hok]
 have HR:=Lib.hid hR
 have HOK:=Lib.hid hok
 clear hR hok
 have hBl:=Ll m V1
 have hBd:=Ud m V1
 clear hZ hA1 hs hv
 obtain ⟨S,hS⟩:∃S,S=yg (dg 256 V1).reverse:=⟨_,rfl⟩
 have hSz:S.size=(dg 256 V1).length:=by rw [hS,Oy,List.length_reverse]
 have HB:Hid (∀(w2:World) (n2:Nat) (ad2:Option Addr) (c2:Nat),Num w2 ad2 n2 c2 V1→n2≤35184372088831→Calls Tryz.prog 34 #[.slice ad2 n2 c2] w2 (Zx S w2)):=Lib.hid fun w2 n2 ad2 c2 q1 q2=>by rw [hS];exact Zb ad2 n2 c2 V1 w2 q1 q2
 obtain ⟨ys,hys⟩:∃ys,ys=(dg 256 V1).reverse:=⟨_,rfl⟩
 have hyl:ys.length=(dg 256 V1).length:=by rw [hys];exact List.length_reverse
 have hyd:Dig 256 ys:=by rw [hys];exact dV.reverse
 rw [←hys] at hS hpad
 generalize (dg 256 V1).length=L at *
 obtain ⟨q,hq⟩:∃q,m-L=q:=⟨_,rfl⟩
 rw [hq] at hpad
 have W1:IntKind.i64.wrap (8*(m:Int))=8*(m:Int):=IntWalk.i64_in _ (by omega)
 have W2:(m:Int)-(L:Int)=(q:Int):=by omega
 have hpl:(List.replicate q 0++ys:List Int)=beB m V1:=hpad
 have HFIN:=Lib.hid hfin
 have HTOP:=Lib.hid htop
 have HS:=Lib.hid hS
 have HYL:=Lib.hid hyl
 have HYD:=Lib.hid hyd
 have HP:=Lib.hid hpl
 have HZL:=Lib.hid hZl
 have HZD:=Lib.hid hZd
 have HBL:=Lib.hid hBl
 have HBD:=Lib.hid hBd
 generalize beB m V1=Y at *
 have hqm:q+L=m:=by omega
 clear hfin htop hS hyl hyd hys hpl hpad hZl hZd hBl hBd dV hq
 have hb8:¬8*(m:Int)<bitsOf V1:=by omega
 clear hb
 generalize sgI N=s1 at *
 generalize hbb:bitsOf V1=bb at *
 have HBB:=Lib.hid hbb
 clear hbb
 subst hsg
 have hN:=fun (w2:World) (n2:Nat) (ad2:Option Addr) (c2:Nat) (h2:Num w2 ad2 n2 c2 V1) (hn2:n2≤70368744177663)=>by have:=qao ad2 n2 c2 V1 w2 h2 hn2;rw [HBB.out] at this;exact this
 have HN:=Lib.hid hN
 clear hN
 go_enter Tryz.func131,Tryz.ntmps131
 have h:=Lib.hid (hS)
 have e0a:=k0.cell 0 _ rfl
 have e0b:=k0.cell 1 _ rfl
 go_wp2_with fail
 with_reducible refine (h.out).mono ?_
 rintro e v1 ⟨xd,xn,xc,rfl,f1,b⟩
 clear h
 clear e0a e0b
 replace k0:=k0.next b
 have bb:=qw b1 b
 clear b b1
 have b1:=bb
 clear bb
 clear hS
 have hxn:xn≤n1:=f1.len_le n1 T1.out
 have hN:=HN.out v1 _ _ _ (f1.num hV0) (by omega)
 clear HN
 have h:=Lib.hid (hN)
 have e0a:=k0.cell 0 _ rfl
 have e0b:=k0.cell 1 _ rfl
 go_wp2_with fail
 with_reducible refine (h.out).mono ?_
 rintro e w' ⟨rfl,rfl⟩
 clear h
 clear e0a e0b
 clear hN
 have hmk:=Du (P:=Tryz.prog) 122 5 .u8 1 Tryz.underlying122 Ku (by omega) m (by omega) (m:Int) rfl v1
 have b9:Below (v1).heap.size (v1) ((v1).alloc (.cells (nums .u8 (List.replicate m 0)).toArray 5)):=(Below.refl _ _).alloc (Nat.le_refl _) _
 have kB:=Blk.made (v1) 5 .u8 (List.replicate m 0) _ rfl
 have hgw:w.heap.size≤(v1).heap.size:=(b1).size
 generalize (v1).alloc (.cells (nums .u8 (List.replicate m 0)).toArray 5)=W9 at *
 have b:=b9
 clear b9
 replace k0:=k0.next b
 replace f1:=f1.below b (Nat.le_refl _)
 have bb:=qw b1 b
 clear b b1
 have b1:=bb
 clear bb
 generalize (v1).heap.size=g at *
 have hB:=HB.out W9 _ _ _ (f1.num hV0) (by omega)
 clear HB f1
 have h:=Lib.hid (hB)
 have e0a:=k0.cell 0 _ rfl
 have e0b:=k0.cell 1 _ rfl
 go_wp2_with fail
 with_reducible refine (h.out).mono ?_
 rintro e v3 ⟨rfl,b⟩
 clear h
 clear e0a e0b
 replace k0:=k0.next b
 replace kB:=kB.below b kB.lt
 have bb:=qw b1 b
 clear b b1
 have b1:=bb
 clear bb
 clear hB
 have hYY:(List.replicate m (0:Int)).take q++(ys++(List.replicate m 0).drop (q+ys.length))=Y:=by rw [List.take_replicate,List.drop_replicate,HYL.out,show min q m=q by omega,show m-(q+L)=0 by omega,List.replicate_zero,List.append_nil];exact HP.out
 have HYY:=Lib.hid hYY
 have hSz2:S.size=L:=hSz
 clear hYY hSz
 by_cases hT:top / 128=1
 ·skip
  obtain rfl:ok=true:=by rw [HOK.out,hT];rfl
  obtain rfl:R=yg Z:=by rw [HR.out,hT];rfl
  by_cases hL0:L=0
  ·subst hL0
   obtain rfl:m=q:=by omega
   go_wp2_with (with_reducible refine J6 (o:=⟨some 39,_,_,_,_,_⟩) ?_)
   refine Lib.hid ?_
   refine I4 w.heap.size rfl (.tmp 37) (.tmp 38) 122 9 rfl 5 Tryz.underlying122 Hf _ _ _ S rfl rfl g m (List.replicate m 0) ys kB HS.out HYD.out (by rw [HYL.out];omega) (fun h=>by first | rfl | (exfalso;rw [HYL.out] at h;omega)) (by rw [HYL.out,List.length_replicate];omega) b1 hgw Y HYY.out ?_
   intro w5 k5 b5
   go_wp2_with fail
   have hF:=Lib.hid (L6 g m m 5 Y w5 (by omega) (Nat.le_refl _) k5.rowAt HBD.out HBL.out)
   rw [HFIN.out] at hF
   with_reducible refine (hF.out).mono ?_
   rintro e w6 ⟨rfl,r6,o6⟩
   have c5:=r6.cell 0 (by rw [HZL.out];omega)
   rw [HTOP.out] at c5
   have r5:=r6.rds
   rw [HZL.out] at r5
   have hcv:=Gv (P:=Tryz.prog) 122 9 5 Tryz.underlying122 Tryz.underlying5 Tryz.underlying9 w6 _ m m Z r5 HZD.out
   have b6:=Only.below b5 hgw o6
   clear hF k5 o6
   go_wp2_with fail
   go_ret2
   exact ⟨rfl,b6⟩
  ·have hqm2:q<m:=by omega
   go_wp2_with (with_reducible refine J6 (o:=⟨some 39,_,_,_,_,_⟩) ?_)
   refine Lib.hid ?_
   refine I4 w.heap.size rfl (.tmp 37) (.tmp 38) 122 9 rfl 5 Tryz.underlying122 Hf _ _ _ S rfl rfl g q (List.replicate m 0) ys kB HS.out HYD.out (by rw [HYL.out];omega) (fun h=>by first | rfl | (exfalso;rw [HYL.out] at h;omega)) (by rw [HYL.out,List.length_replicate];omega) b1 hgw Y HYY.out ?_
   intro w5 k5 b5
   go_wp2_with fail
   have hF:=Lib.hid (L6 g m m 5 Y w5 (by omega) (Nat.le_refl _) k5.rowAt HBD.out HBL.out)
   rw [HFIN.out] at hF
   with_reducible refine (hF.out).mono ?_
   rintro e w6 ⟨rfl,r6,o6⟩
   have c5:=r6.cell 0 (by rw [HZL.out];omega)
   rw [HTOP.out] at c5
   have r5:=r6.rds
   rw [HZL.out] at r5
   have hcv:=Gv (P:=Tryz.prog) 122 9 5 Tryz.underlying122 Tryz.underlying5 Tryz.underlying9 w6 _ m m Z r5 HZD.out
   have b6:=Only.below b5 hgw o6
   clear hF k5 o6
   go_wp2_with fail
   go_ret2
   exact ⟨rfl,b6⟩
 ·skip
  replace hT:top / 128=0:=by omega
  obtain rfl:ok=false:=by rw [HOK.out,hT];rfl
  obtain rfl:R=ByteArray.empty:=by rw [HR.out,hT];rfl
  by_cases hL0:L=0
  ·subst hL0
   obtain rfl:m=q:=by omega
   go_wp2_with (with_reducible refine J6 (o:=⟨some 39,_,_,_,_,_⟩) ?_)
   refine Lib.hid ?_
   refine I4 w.heap.size rfl (.tmp 37) (.tmp 38) 122 9 rfl 5 Tryz.underlying122 Hf _ _ _ S rfl rfl g m (List.replicate m 0) ys kB HS.out HYD.out (by rw [HYL.out];omega) (fun h=>by first | rfl | (exfalso;rw [HYL.out] at h;omega)) (by rw [HYL.out,List.length_replicate];omega) b1 hgw Y HYY.out ?_
   intro w5 k5 b5
   go_wp2_with fail
   have hF:=Lib.hid (L6 g m m 5 Y w5 (by omega) (Nat.le_refl _) k5.rowAt HBD.out HBL.out)
   rw [HFIN.out] at hF
   with_reducible refine (hF.out).mono ?_
   rintro e w6 ⟨rfl,r6,o6⟩
   have c5:=r6.cell 0 (by rw [HZL.out];omega)
   rw [HTOP.out] at c5
   have r5:=r6.rds
   rw [HZL.out] at r5
   have hcv:=Gv (P:=Tryz.prog) 122 9 5 Tryz.underlying122 Tryz.underlying5 Tryz.underlying9 w6 _ m m Z r5 HZD.out
   have b6:=Only.below b5 hgw o6
   clear hF k5 o6
   go_wp2_with fail
   go_ret2
   exact ⟨rfl,b6⟩
  ·have hqm2:q<m:=by omega
   go_wp2_with (with_reducible refine J6 (o:=⟨some 39,_,_,_,_,_⟩) ?_)
   refine Lib.hid ?_
   refine I4 w.heap.size rfl (.tmp 37) (.tmp 38) 122 9 rfl 5 Tryz.underlying122 Hf _ _ _ S rfl rfl g q (List.replicate m 0) ys kB HS.out HYD.out (by rw [HYL.out];omega) (fun h=>by first | rfl | (exfalso;rw [HYL.out] at h;omega)) (by rw [HYL.out,List.length_replicate];omega) b1 hgw Y HYY.out ?_
   intro w5 k5 b5
   go_wp2_with fail
   have hF:=Lib.hid (L6 g m m 5 Y w5 (by omega) (Nat.le_refl _) k5.rowAt HBD.out HBL.out)
   rw [HFIN.out] at hF
   with_reducible refine (hF.out).mono ?_
   rintro e w6 ⟨rfl,r6,o6⟩
   have c5:=r6.cell 0 (by rw [HZL.out];omega)
   rw [HTOP.out] at c5
   have r5:=r6.rds
   rw [HZL.out] at r5
   have hcv:=Gv (P:=Tryz.prog) 122 9 5 Tryz.underlying122 Tryz.underlying5 Tryz.underlying9 w6 _ m m Z r5 HZD.out
   have b6:=Only.below b5 hgw o6
   clear hF k5 o6
   go_wp2_with fail
   go_ret2
   exact ⟨rfl,b6⟩
set_option maxHeartbeats 2000000 in
set_option maxRecDepth 20000 in
theorem qh7 (ng1:Bool) (ad1:Option Addr) (n1 c1:Nat) (V1:Int) (k:Int) (w:World) (h1:Num w ad1 n1 c1 V1) (hn1:n1≤35184372088831) (m:Nat) (hk:k=m) (hm:1≤m∧m≤1048576) (hv:V1<256 ^ m) (hs:0≤sI ng1 V1) :
  Calls Tryz.prog 131 #[.agg #[.bool ng1,.slice ad1 n1 c1],.int .i64 k] w (Rq (yg (if (sI ng1 V1 / 256 ^ (m-1) % 256) / 128=0 then beB m (sI ng1 V1) else [])) (decide ((sI ng1 V1 / 256 ^ (m-1) % 256) / 128=0)) w):=by
 subst hk
 have hV0:=h1.nonneg
 have T1:=Lib.hid h1.lt
 have b0:=Below.refl w.heap.size w
 have l0:Below w.heap.size w (w.alloc (.cells #[.bool ng1,.slice ad1 n1 c1] 52)):=(Below.refl _ _).alloc (Nat.le_refl _) _
 have b1:Below w.heap.size w (w.alloc (.cells #[.bool ng1,.slice ad1 n1 c1] 52)):=qw b0 l0
 have k0:Cel (w.alloc (.cells #[.bool ng1,.slice ad1 n1 c1] 52)) w.heap.size 52 [.bool ng1,.slice ad1 n1 c1]:=Cel.made _ _ _ _ (by simp)
 replace h1:=h1.below b1 (Nat.le_refl _)
 clear b0 l0
 have hg0:w.heap.size≤w.heap.size:=Nat.le_refl _
 have hS:=Bo ng1 ad1 n1 c1 V1 (w.alloc (.cells #[.bool ng1,.slice ad1 n1 c1] 52)) h1 (by omega)
 have hA1:=(F9 ng1 V1 hV0).symm
 generalize sI ng1 V1=N at *
 clear h1
 have hb:=(U2 V1 hV0 m).2 hv
 have hL:=Y0 V1 m hv
 have dV:=A8 256 (by omega) V1.toNat
 change Dig 256 (dg 256 V1) at dV
 have hpad:=qfa (m-(dg 256 V1).length) V1 hV0
 rw [show m-(dg 256 V1).length+(dg 256 V1).length=m by omega] at hpad
 have htop:=qfb (m-1) N
 rw [show m-1+1=m by omega] at htop
 have hfin:beB m V1=beB m N:=by congr 1;omega
 have hsg:sgI N ≠ -1:=by unfold sgI;rw [if_neg (by omega)];split <;> omega
 obtain ⟨top,ht⟩:∃top,N / 256 ^ (m-1) % 256=top:=⟨_,rfl⟩
 rw [ht] at htop
 rw [ht]
 have htb:0≤top∧top<256:=by omega
 clear ht
 obtain ⟨Z,hZ⟩:∃Z,beB m N=Z:=⟨_,rfl⟩
 have hZl:Z.length=m:=by rw [←hZ];exact Ll _ _
 have hZd:Dig 256 Z:=by rw [←hZ];exact Ud _ _
 rw [hZ] at hfin htop
 rw [hZ]
 obtain ⟨R,hR⟩:∃R,R=yg (if top / 128=0 then Z else []):=⟨_,rfl⟩
 obtain ⟨ok,hok⟩:∃ok,ok=decide (top / 128=0):=⟨_,rfl⟩
 rw [←hR,←hok]
 have HR:=Lib.hid hR
 have HOK:=Lib.hid hok
 clear hR hok
 have hBl:=Ll m V1
 have hBd:=Ud m V1
 clear hZ hA1 hs hv
 obtain ⟨S,hS⟩:∃S,S=yg (dg 256 V1).reverse:=⟨_,rfl⟩
 have hSz:S.size=(dg 256 V1).length:=by rw [hS,Oy,List.length_reverse]
 have HB:Hid (∀(w2:World) (n2:Nat) (ad2:Option Addr) (c2:Nat),Num w2 ad2 n2 c2 V1→n2≤35184372088831→Calls Tryz.prog 34 #[.slice ad2 n2 c2] w2 (Zx S w2)):=Lib.hid fun w2 n2 ad2 c2 q1 q2=>by rw [hS];exact Zb ad2 n2 c2 V1 w2 q1 q2
 obtain ⟨ys,hys⟩:∃ys,ys=(dg 256 V1).reverse:=⟨_,rfl⟩
 have hyl:ys.length=(dg 256 V1).length:=by rw [hys];exact List.length_reverse
 have hyd:Dig 256 ys:=by rw [hys];exact dV.reverse
 rw [←hys] at hS hpad
 generalize (dg 256 V1).length=L at *
 obtain ⟨q,hq⟩:∃q,m-L=q:=⟨_,rfl⟩
 rw [hq] at hpad
 have W1:IntKind.i64.wrap (8*(m:Int))=8*(m:Int):=IntWalk.i64_in _ (by omega)
 have W2:(m:Int)-(L:Int)=(q:Int):=by omega
 have hpl:(List.replicate q 0++ys:List Int)=beB m V1:=hpad
 have HFIN:=Lib.hid hfin
 have HTOP:=Lib.hid htop
 have HS:=Lib.hid hS
 have HYL:=Lib.hid hyl
 have HYD:=Lib.hid hyd
 have HP:=Lib.hid hpl
 have HZL:=Lib.hid hZl
 have HZD:=Lib.hid hZd
 have HBL:=Lib.hid hBl
 have HBD:=Lib.hid hBd
 generalize beB m V1=Y at *
 have hqm:q+L=m:=by omega
 clear hfin htop hS hyl hyd hys hpl hpad hZl hZd hBl hBd dV hq
 have hb8:¬8*(m:Int)<bitsOf V1:=by omega
 clear hb
 generalize sgI N=s1 at *
 generalize hbb:bitsOf V1=bb at *
 have HBB:=Lib.hid hbb
 clear hbb
 have hs2:(s1 == -1)=false:=by rw [beq_eq_false_iff_ne];exact hsg
 have hN:=fun (w2:World) (n2:Nat) (ad2:Option Addr) (c2:Nat) (h2:Num w2 ad2 n2 c2 V1) (hn2:n2≤70368744177663)=>by have:=qao ad2 n2 c2 V1 w2 h2 hn2;rw [HBB.out] at this;exact this
 have HN:=Lib.hid hN
 clear hN
 go_enter Tryz.func131,Tryz.ntmps131
 have h:=Lib.hid (hS)
 have e0a:=k0.cell 0 _ rfl
 have e0b:=k0.cell 1 _ rfl
 go_wp2_with fail
 with_reducible refine (h.out).mono ?_
 rintro e v1 ⟨xd,xn,xc,rfl,f1,b⟩
 clear h
 clear e0a e0b
 replace k0:=k0.next b
 have bb:=qw b1 b
 clear b b1
 have b1:=bb
 clear bb
 clear hS
 have hxn:xn≤n1:=f1.len_le n1 T1.out
 have hN:=HN.out v1 _ _ _ (f1.num hV0) (by omega)
 clear HN
 have h:=Lib.hid (hN)
 have e0a:=k0.cell 0 _ rfl
 have e0b:=k0.cell 1 _ rfl
 go_wp2_with fail
 with_reducible refine (h.out).mono ?_
 rintro e w' ⟨rfl,rfl⟩
 clear h
 clear e0a e0b
 clear hN
 have hmk:=Du (P:=Tryz.prog) 122 5 .u8 1 Tryz.underlying122 Ku (by omega) m (by omega) (m:Int) rfl v1
 have b9:Below (v1).heap.size (v1) ((v1).alloc (.cells (nums .u8 (List.replicate m 0)).toArray 5)):=(Below.refl _ _).alloc (Nat.le_refl _) _
 have kB:=Blk.made (v1) 5 .u8 (List.replicate m 0) _ rfl
 have hgw:w.heap.size≤(v1).heap.size:=(b1).size
 generalize (v1).alloc (.cells (nums .u8 (List.replicate m 0)).toArray 5)=W9 at *
 have b:=b9
 clear b9
 replace k0:=k0.next b
 replace f1:=f1.below b (Nat.le_refl _)
 have bb:=qw b1 b
 clear b b1
 have b1:=bb
 clear bb
 generalize (v1).heap.size=g at *
 have hB:=HB.out W9 _ _ _ (f1.num hV0) (by omega)
 clear HB f1
 have h:=Lib.hid (hB)
 have e0a:=k0.cell 0 _ rfl
 have e0b:=k0.cell 1 _ rfl
 go_wp2_with fail
 with_reducible refine (h.out).mono ?_
 rintro e v3 ⟨rfl,b⟩
 clear h
 clear e0a e0b
 replace k0:=k0.next b
 replace kB:=kB.below b kB.lt
 have bb:=qw b1 b
 clear b b1
 have b1:=bb
 clear bb
 clear hB
 have hYY:(List.replicate m (0:Int)).take q++(ys++(List.replicate m 0).drop (q+ys.length))=Y:=by rw [List.take_replicate,List.drop_replicate,HYL.out,show min q m=q by omega,show m-(q+L)=0 by omega,List.replicate_zero,List.append_nil];exact HP.out
 have HYY:=Lib.hid hYY
 have hSz2:S.size=L:=hSz
 clear hYY hSz
 by_cases hT:top / 128=1
 ·skip
  obtain rfl:ok=false:=by rw [HOK.out,hT];rfl
  obtain rfl:R=ByteArray.empty:=by rw [HR.out,hT];rfl
  by_cases hL0:L=0
  ·subst hL0
   obtain rfl:m=q:=by omega
   go_wp2_with (with_reducible refine J6 (o:=⟨some 39,_,_,_,_,_⟩) ?_)
   refine Lib.hid ?_
   refine I4 w.heap.size rfl (.tmp 37) (.tmp 38) 122 9 rfl 5 Tryz.underlying122 Hf _ _ _ S rfl rfl g m (List.replicate m 0) ys kB HS.out HYD.out (by rw [HYL.out];omega) (fun h=>by first | rfl | (exfalso;rw [HYL.out] at h;omega)) (by rw [HYL.out,List.length_replicate];omega) b1 hgw Y HYY.out ?_
   intro w5 k5 b5
   have c5:=k5.cell 0 (by rw [HBL.out];omega)
   rw [HFIN.out,HTOP.out] at c5
   have r5:=k5.rds
   rw [HBL.out,HFIN.out] at r5
   have hcv:=Gv (P:=Tryz.prog) 122 9 5 Tryz.underlying122 Tryz.underlying5 Tryz.underlying9 w5 _ m m Z r5 HZD.out
   go_wp2_with fail
   go_ret2
   exact ⟨rfl,b5⟩
  ·have hqm2:q<m:=by omega
   go_wp2_with (with_reducible refine J6 (o:=⟨some 39,_,_,_,_,_⟩) ?_)
   refine Lib.hid ?_
   refine I4 w.heap.size rfl (.tmp 37) (.tmp 38) 122 9 rfl 5 Tryz.underlying122 Hf _ _ _ S rfl rfl g q (List.replicate m 0) ys kB HS.out HYD.out (by rw [HYL.out];omega) (fun h=>by first | rfl | (exfalso;rw [HYL.out] at h;omega)) (by rw [HYL.out,List.length_replicate];omega) b1 hgw Y HYY.out ?_
   intro w5 k5 b5
   have c5:=k5.cell 0 (by rw [HBL.out];omega)
   rw [HFIN.out,HTOP.out] at c5
   have r5:=k5.rds
   rw [HBL.out,HFIN.out] at r5
   have hcv:=Gv (P:=Tryz.prog) 122 9 5 Tryz.underlying122 Tryz.underlying5 Tryz.underlying9 w5 _ m m Z r5 HZD.out
   go_wp2_with fail
   go_ret2
   exact ⟨rfl,b5⟩
 ·skip
  replace hT:top / 128=0:=by omega
  obtain rfl:ok=true:=by rw [HOK.out,hT];rfl
  obtain rfl:R=yg Z:=by rw [HR.out,hT];rfl
  by_cases hL0:L=0
  ·subst hL0
   obtain rfl:m=q:=by omega
   go_wp2_with (with_reducible refine J6 (o:=⟨some 39,_,_,_,_,_⟩) ?_)
   refine Lib.hid ?_
   refine I4 w.heap.size rfl (.tmp 37) (.tmp 38) 122 9 rfl 5 Tryz.underlying122 Hf _ _ _ S rfl rfl g m (List.replicate m 0) ys kB HS.out HYD.out (by rw [HYL.out];omega) (fun h=>by first | rfl | (exfalso;rw [HYL.out] at h;omega)) (by rw [HYL.out,List.length_replicate];omega) b1 hgw Y HYY.out ?_
   intro w5 k5 b5
   have c5:=k5.cell 0 (by rw [HBL.out];omega)
   rw [HFIN.out,HTOP.out] at c5
   have r5:=k5.rds
   rw [HBL.out,HFIN.out] at r5
   have hcv:=Gv (P:=Tryz.prog) 122 9 5 Tryz.underlying122 Tryz.underlying5 Tryz.underlying9 w5 _ m m Z r5 HZD.out
   go_wp2_with fail
   go_ret2
   exact ⟨rfl,b5⟩
  ·have hqm2:q<m:=by omega
   go_wp2_with (with_reducible refine J6 (o:=⟨some 39,_,_,_,_,_⟩) ?_)
   refine Lib.hid ?_
   refine I4 w.heap.size rfl (.tmp 37) (.tmp 38) 122 9 rfl 5 Tryz.underlying122 Hf _ _ _ S rfl rfl g q (List.replicate m 0) ys kB HS.out HYD.out (by rw [HYL.out];omega) (fun h=>by first | rfl | (exfalso;rw [HYL.out] at h;omega)) (by rw [HYL.out,List.length_replicate];omega) b1 hgw Y HYY.out ?_
   intro w5 k5 b5
   have c5:=k5.cell 0 (by rw [HBL.out];omega)
   rw [HFIN.out,HTOP.out] at c5
   have r5:=k5.rds
   rw [HBL.out,HFIN.out] at r5
   have hcv:=Gv (P:=Tryz.prog) 122 9 5 Tryz.underlying122 Tryz.underlying5 Tryz.underlying9 w5 _ m m Z r5 HZD.out
   go_wp2_with fail
   go_ret2
   exact ⟨rfl,b5⟩
end Go.Proofs.YtbcbmkeeoognpaaGreatDoor

namespace Go.Proofs.YtbcbmkeeoognpaaGreatDoor
open Go Go.RowKit
set_option maxHeartbeats 4000000 in
set_option maxRecDepth 100000 in
theorem qd1 (B b:Nat) (v:Value) (L:List Hd) (w:World) (h:y8 B w b v L) (hB:B≤w.heap.size) (hF:En w L L.length) (hG:Grown w L L.length) :
  Calls Tryz.prog 92 #[.pointer (some ⟨b,0,none⟩)] w (fun e w'=>e=.returned (.bool true)∧Below w.heap.size w w'):=by
 have hL:=h.len
 obtain ⟨vd,vc,rfl⟩:=h.form
 go_enter Tryz.func92,Tryz.ntmps92
 go_wp2
 go_loopw [3] (fun x wr=>∃i:Nat,i≤L.length∧x=.int .i64 i∧Below w.heap.size w wr) (fun x _=>L.length-(intOf x).toNat)
 case atStart=>exact ⟨0,Nat.zero_le _,rfl,Below.refl _ _⟩
 case round=>
  obtain ⟨i,hi,rfl,hb⟩:=hrel
  have h1:=h.below hb (Nat.le_refl _)
  have h2:=hF.below hb (Nat.le_refl _)
  have h3:=hG.below hb (Nat.le_refl _)
  obtain ⟨c0,c1,f0,f1⟩:=h1.cells
  by_cases hil:i<L.length
  ·obtain ⟨q,hq⟩:∃q,L[i]?=some q:=⟨_,List.getElem?_eq_getElem hil⟩
   obtain ⟨el,lg,cs,ela,hlg,hmark,_⟩:=h3 i q hil hq
   obtain ⟨ad,n,c,la,ln,lc⟩:=q
   simp only at el ela hmark
   subst el ela
   obtain ⟨rb,cap,hv,r1,r2,r3,e0,e1,e2,fr⟩:=h1.held hq
   simp only at e0 e1
   injection hv with hv1 _ hv2
   subst hv1 hv2
   have hqo:=(h1.one _ (List.mem_of_getElem? hq)).le
   have hqb:=(h1.one _ (List.mem_of_getElem? hq)).big
   have hrow:=(h1.one _ (List.mem_of_getElem? hq)).row
   simp only at hqo hqb hrow
   have hb0:Below wr.heap.size wr (wr.alloc (.cells #[.slice ad n c,.slice (some ⟨lg,0,none⟩) (n+70) lc,.int .i64 ((i:Int)+1)] 150)):=(Below.refl _ _).alloc (Nat.le_refl _) _
   have hbb:=qw hb hb0
   have h4:=(h1.below hb0 (Nat.le_refl _))
   have h5:=(h2.below hb0 (Nat.le_refl _))
   have hlg2:=(hb0.block lg (Array.getElem?_eq_some_iff.1 hlg).1).trans hlg
   have W1:IntKind.i64.wrap ((n:Int)+70)=(n:Int)+70:=by rw [IntKind.wrap_i64];omega
   go_wp2
   have hbox:(wr.alloc (.cells #[.slice ad n c,.slice (some ⟨lg,0,none⟩) (n+70) lc,.int .i64 ((i:Int)+1)] 150)).heap[wr.heap.size]?=some (.cells #[.slice ad n c,.slice (some ⟨lg,0,none⟩) (n+70) lc,.int .i64 ((i:Int)+1)] 150 (0,0)):=heap_alloc_new wr _
   obtain ⟨H,hH⟩:∃H,wr.heap.size=H:=⟨_,rfl⟩
   rw [hH] at hbox ⊢
   generalize wr.alloc (.cells #[.slice ad n c,.slice (some ⟨lg,0,none⟩) (n+70) lc,.int .i64 ((i:Int)+1)] 150)=w2 at *
   clear h1 h2 h3 hb hb0 hlg c0 c1 f0 f1 e0 e1 e2 fr hH hrow
   have hrow:=(h4.one _ (List.mem_of_getElem? hq)).row
   simp only at hrow
   go_wp2
   go_loopw [5] (fun y wr=>∃k:Nat,k≤n+70∧y=.int .i64 k∧Below w2.heap.size w2 wr) (fun y _=>n+70-(intOf y).toNat)
   case atStart=>exact ⟨0,by omega,rfl,Below.refl _ _⟩
   case round=>
    obtain ⟨k,hk,rfl,hb⟩:=hrel
    have hbx:=(hb.block H (Array.getElem?_eq_some_iff.1 hbox).1).trans hbox
    have hlx:=(hb.block lg (Array.getElem?_eq_some_iff.1 hlg2).1).trans hlg2
    have a0:=Af hbx 0
    have a1:=Af hbx 1
    have a2:=Af hbx 2
    simp at a0 a1 a2
    have W2:IntKind.i64.wrap ((k:Int)+1)=(k:Int)+1:=by rw [IntKind.wrap_i64];omega
    by_cases hk1:k<n+70
    ·have b1:wr.cell? ⟨lg,k,none⟩=some (.int .u32 (2147483648+((i:Int)+1))):=by rw [Af hlx];exact hmark k hk1
     have M:=qac ((i:Int)+1)
     by_cases hk2:k<n
     ·obtain ⟨g,ds,rfl,g1,g2,g3⟩:=hrow (by omega)
      have b2:wr.cell? ⟨g,k,none⟩=some (.int .u32 (2147483648+((i:Int)+1))):=(hb.cell (p:=⟨g,k,none⟩) (Array.getElem?_eq_some_iff.1 g2).1).trans (h5 i _ g hil hq rfl k hk2)
      go_wp2
      go_region_held3 (fun w'=>w'.cell? ⟨H,0,none⟩=some (.slice (some ⟨g,0,none⟩) n c)∧w'.cell? ⟨H,1,none⟩=some (.slice (some ⟨lg,0,none⟩) (n+70) lc)∧w'.cell? ⟨H,2,none⟩=some (.int .i64 ((i:Int)+1))∧w'.cell? ⟨lg,k,none⟩=some (.int .u32 (2147483648+((i:Int)+1)))∧w'.cell? ⟨g,k,none⟩=some (.int .u32 (2147483648+((i:Int)+1)))) (go_keep)
       (first | (go_at_call 115;refine (M _ (by omega)).mono ?_;rintro e w' ⟨rfl,rfl⟩))
      go_wp2
      go_roundw
      case rel=>exact ⟨k+1,by omega,by go_num,Dv hb⟩
      case measure=>simp [intOf];omega
     ·go_wp2
      go_quiet ((go_at_call 115;exact Nj (M _ (by omega))))
      go_wp2
      go_roundw
      case rel=>exact ⟨k+1,by omega,by go_num,below_drewN hb _⟩
      case measure=>simp [intOf];omega
    ·obtain rfl:k=n+70:=by omega
     go_wp2
     go_roundw
     case rel=>exact ⟨i+1,by omega,by go_num,qw hbb hb⟩
     case measure=>simp [intOf];omega
  ·obtain rfl:i=L.length:=by omega
   go_wp2
   go_ret
   exact ⟨rfl,hb⟩
end Go.Proofs.YtbcbmkeeoognpaaGreatDoor

namespace Go.Proofs.YtbcbmkeeoognpaaGreatDoor
open Go.RowKit
end Go.Proofs.YtbcbmkeeoognpaaGreatDoor

namespace Go.Proofs.YtbcbmkeeoognpaaGreatDoor
open Go.RowKit
theorem qc9 (ng1:Bool) (ad1:Option Addr) (n1 c1:Nat) (V1:Int) (k:Int) (w:World) (h1:Num w ad1 n1 c1 V1) (hn1:n1≤35184372088831) :
  Calls Tryz.prog 131 #[.agg #[.bool ng1,.slice ad1 n1 c1],.int .i64 k] w (Rq (yg (Qp (sI ng1 V1) k)) (Hw (sI ng1 V1) k) w):=by
 have hV0:=h1.nonneg
 have hA:=F9 ng1 V1 hV0
 have key:∀ok L,Hw (sI ng1 V1) k=ok→Qp (sI ng1 V1) k=L→∀s,s=yg L→Calls Tryz.prog 131 #[.agg #[.bool ng1,.slice ad1 n1 c1],.int .i64 k] w (Rq s ok w)→Calls Tryz.prog 131 #[.agg #[.bool ng1,.slice ad1 n1 c1],.int .i64 k] w (Rq (yg (Qp (sI ng1 V1) k)) (Hw (sI ng1 V1) k) w):=by
  intro ok L e1 e2 s e3 h
  rw [e1,e2,←e3]
  exact h
 have no:Hw (sI ng1 V1) k=false→Qp (sI ng1 V1) k=[]:=fun e=>by unfold Qp;rw [e];rfl
 by_cases hk1:k<1
 ·have e:Hw (sI ng1 V1) k=false:=decide_eq_false (by omega)
  exact key _ _ e (no e) _ rfl (qdb ng1 ad1 n1 c1 V1 k w h1 hn1 hk1)
 by_cases hk2:1048576<k
 ·have e:Hw (sI ng1 V1) k=false:=decide_eq_false (by omega)
  exact key _ _ e (no e) _ rfl (qda ng1 ad1 n1 c1 V1 k w h1 hn1 hk2)
 obtain ⟨m,rfl⟩:=Int.eq_ofNat_of_zero_le (show 0≤k by omega)
 obtain ⟨p,rfl⟩:∃p,m=p+1:=⟨m-1,by omega⟩
 have hok:Hw (sI ng1 V1) ((p+1:Nat):Int)=decide (-(128*256 ^ p)≤sI ng1 V1∧sI ng1 V1<128*256 ^ p):=by
  unfold Hw
  rw [decide_eq_decide,Int.toNat_natCast,Nat.add_sub_cancel]
  exact ⟨fun h=>h.2.2,fun h=>⟨by omega,by omega,h⟩⟩
 have hp:(0:Int)<256 ^ p:=Int.pow_pos (by omega)
 by_cases hv:V1<256 ^ (p+1)
 ·by_cases hs:sI ng1 V1<0
  ·have h:=qh6 ng1 ad1 n1 c1 V1 _ w h1 hn1 (p+1) rfl ⟨by omega,by omega⟩ hv hs
   have ht:=qmv p (sI ng1 V1) hs (by omega)
   rw [Nat.add_sub_cancel] at h
   have e:Hw (sI ng1 V1) ((p+1:Nat):Int)=decide ((sI ng1 V1 / 256 ^ p % 256) / 128=1):=by rw [hok,decide_eq_decide];omega
   refine key _ _ e ?_ _ rfl h
   unfold Qp
   rw [e]
   simp only [decide_eq_true_eq]
   rfl
  ·have h:=qh7 ng1 ad1 n1 c1 V1 _ w h1 hn1 (p+1) rfl ⟨by omega,by omega⟩ hv (by omega)
   have ht:=qmx p (sI ng1 V1) (by omega) (by omega)
   rw [Nat.add_sub_cancel] at h
   have e:Hw (sI ng1 V1) ((p+1:Nat):Int)=decide ((sI ng1 V1 / 256 ^ p % 256) / 128=0):=by rw [hok,decide_eq_decide];omega
   refine key _ _ e ?_ _ rfl h
   unfold Qp
   rw [e]
   simp only [decide_eq_true_eq]
   rfl
 ·have e:Hw (sI ng1 V1) ((p+1:Nat):Int)=false:=by
   rw [hok]
   refine decide_eq_false ?_
   rw [Int.pow_succ] at hv
   omega
  exact key _ _ e (no e) _ rfl (qe2 ng1 ad1 n1 c1 V1 _ w h1 hn1 ⟨by omega,by omega⟩ hv)
end Go.Proofs.YtbcbmkeeoognpaaGreatDoor

namespace Go.Proofs.YtbcbmkeeoognpaaGreatDoor
open Go.RowKit
end Go.Proofs.YtbcbmkeeoognpaaGreatDoor

set_option maxRecDepth 50000
namespace Go.Proofs.YtbcbmkeeoognpaaGreatDoor
open Go Go.RowKit
set_option maxHeartbeats 8000000 in
theorem qbg (B b:Nat) (v:Value) (L:List Hd) (w:World) (h:y8 B w b v L) (hB:B≤w.heap.size):Calls Tryz.prog 18 #[.pointer (some ⟨b,0,none⟩)] w (fun e w'=>e=.returned (.bool true)∧Below B w w'):=by
 have F:=Lib.hid (qdr B b v L w h hB)
 clear h
 go_enter Tryz.func18,Tryz.ntmps18
 go_wp2_with fail
 refine (F.out).mono ?_
 rintro e w1 ⟨rfl,h1,h2,h3⟩
 clear F
 have hB1:B≤w1.heap.size:=Nat.le_trans hB h3.size
 have N1:=Lib.hid (We b w1 (h1.nilc 2 rfl))
 go_wp2_with fail
 refine (N1.out).mono ?_
 rintro e w2 ⟨rfl,rfl⟩
 clear N1
 have N1:=Lib.hid (Yh b w1 (h1.nilc 3 rfl))
 go_wp2_with fail
 refine (N1.out).mono ?_
 rintro e w2 ⟨rfl,rfl⟩
 clear N1
 have N1:=Lib.hid (Ye b w1 (h1.nilc 4 rfl))
 go_wp2_with fail
 refine (N1.out).mono ?_
 rintro e w2 ⟨rfl,rfl⟩
 clear N1
 have N1:=Lib.hid (qah b w1 (h1.nilc 5 rfl))
 go_wp2_with fail
 refine (N1.out).mono ?_
 rintro e w2 ⟨rfl,rfl⟩
 clear N1
 have N1:=Lib.hid (Yg b w1 (h1.nilc 6 rfl))
 go_wp2_with fail
 refine (N1.out).mono ?_
 rintro e w2 ⟨rfl,rfl⟩
 clear N1
 have N1:=Lib.hid (Yi b w1 (h1.nilc 7 rfl))
 go_wp2_with fail
 refine (N1.out).mono ?_
 rintro e w2 ⟨rfl,rfl⟩
 clear N1
 have N1:=Lib.hid (V9 b w1 (h1.nilc 8 rfl))
 go_wp2_with fail
 refine (N1.out).mono ?_
 rintro e w2 ⟨rfl,rfl⟩
 clear N1
 have N1:=Lib.hid (V8 b w1 (h1.nilc 9 rfl))
 go_wp2_with fail
 refine (N1.out).mono ?_
 rintro e w2 ⟨rfl,rfl⟩
 clear N1
 have N1:=Lib.hid (Q9 b w1 (h1.nilc 10 rfl))
 go_wp2_with fail
 refine (N1.out).mono ?_
 rintro e w2 ⟨rfl,rfl⟩
 clear N1
 have N1:=Lib.hid (qaf b w1 (h1.nilc 11 rfl))
 go_wp2_with fail
 refine (N1.out).mono ?_
 rintro e w2 ⟨rfl,rfl⟩
 clear N1
 have N1:=Lib.hid (Yf b w1 (h1.nilc 12 rfl))
 go_wp2_with fail
 refine (N1.out).mono ?_
 rintro e w2 ⟨rfl,rfl⟩
 clear N1
 have N1:=Lib.hid (Tv b w1 (h1.nilc 13 rfl))
 go_wp2_with fail
 refine (N1.out).mono ?_
 rintro e w2 ⟨rfl,rfl⟩
 clear N1
 have N1:=Lib.hid (qag b w1 (h1.nilc 14 rfl))
 go_wp2_with fail
 refine (N1.out).mono ?_
 rintro e w2 ⟨rfl,rfl⟩
 clear N1
 have F:=Lib.hid (qdu B b v L w1 h1 hB1 h2)
 go_wp2_with fail
 refine (F.out).mono ?_
 clear F h1 h2
 rintro e w3 ⟨rfl,⟨L3,_,h1,h2,h4⟩,h5⟩
 have hB3:B≤w3.heap.size:=Nat.le_trans hB1 h5.size
 have h6:=h3.trans h5
 clear h3 h5
 have N1:=Lib.hid (Wj b w3 (h1.nilc 2 rfl))
 go_wp2_with fail
 refine (N1.out).mono ?_
 rintro e w2 ⟨rfl,rfl⟩
 clear N1
 have N1:=Lib.hid (Ym b w3 (h1.nilc 3 rfl))
 go_wp2_with fail
 refine (N1.out).mono ?_
 rintro e w2 ⟨rfl,rfl⟩
 clear N1
 have N1:=Lib.hid (Yj b w3 (h1.nilc 4 rfl))
 go_wp2_with fail
 refine (N1.out).mono ?_
 rintro e w2 ⟨rfl,rfl⟩
 clear N1
 have N1:=Lib.hid (qak b w3 (h1.nilc 5 rfl))
 go_wp2_with fail
 refine (N1.out).mono ?_
 rintro e w2 ⟨rfl,rfl⟩
 clear N1
 have N1:=Lib.hid (Yl b w3 (h1.nilc 6 rfl))
 go_wp2_with fail
 refine (N1.out).mono ?_
 rintro e w2 ⟨rfl,rfl⟩
 clear N1
 have N1:=Lib.hid (Yn b w3 (h1.nilc 7 rfl))
 go_wp2_with fail
 refine (N1.out).mono ?_
 rintro e w2 ⟨rfl,rfl⟩
 clear N1
 have N1:=Lib.hid (Wi b w3 (h1.nilc 8 rfl))
 go_wp2_with fail
 refine (N1.out).mono ?_
 rintro e w2 ⟨rfl,rfl⟩
 clear N1
 have N1:=Lib.hid (Wh b w3 (h1.nilc 9 rfl))
 go_wp2_with fail
 refine (N1.out).mono ?_
 rintro e w2 ⟨rfl,rfl⟩
 clear N1
 have N1:=Lib.hid (Rf b w3 (h1.nilc 10 rfl))
 go_wp2_with fail
 refine (N1.out).mono ?_
 rintro e w2 ⟨rfl,rfl⟩
 clear N1
 have N1:=Lib.hid (qai b w3 (h1.nilc 11 rfl))
 go_wp2_with fail
 refine (N1.out).mono ?_
 rintro e w2 ⟨rfl,rfl⟩
 clear N1
 have N1:=Lib.hid (Yk b w3 (h1.nilc 12 rfl))
 go_wp2_with fail
 refine (N1.out).mono ?_
 rintro e w2 ⟨rfl,rfl⟩
 clear N1
 have N1:=Lib.hid (Tz b w3 (h1.nilc 13 rfl))
 go_wp2_with fail
 refine (N1.out).mono ?_
 rintro e w2 ⟨rfl,rfl⟩
 clear N1
 have N1:=Lib.hid (qaj b w3 (h1.nilc 14 rfl))
 go_wp2_with fail
 refine (N1.out).mono ?_
 rintro e w2 ⟨rfl,rfl⟩
 clear N1
 have F:=Lib.hid (qd1 B b v L3 w3 h1 hB3 h2 h4)
 go_wp2_with fail
 refine (F.out).mono ?_
 clear F h2 h4
 rintro e w4 ⟨rfl,h5⟩
 have h7:=h1.below h5 (Nat.le_refl _)
 have h8:Below B w w4:=h6.trans ⟨h5.os,h5.tape,h5.output,h5.size,fun i hi=>h5.block i (Nat.lt_of_lt_of_le hi hB3)⟩
 clear h1 h6 h5
 have N1:=Lib.hid (Wp b w4 (h7.nilc 2 rfl))
 go_wp2_with fail
 refine (N1.out).mono ?_
 rintro e w2 ⟨rfl,rfl⟩
 clear N1
 have N1:=Lib.hid (Yr b w4 (h7.nilc 3 rfl))
 go_wp2_with fail
 refine (N1.out).mono ?_
 rintro e w2 ⟨rfl,rfl⟩
 clear N1
 have N1:=Lib.hid (Yo b w4 (h7.nilc 4 rfl))
 go_wp2_with fail
 refine (N1.out).mono ?_
 rintro e w2 ⟨rfl,rfl⟩
 clear N1
 have N1:=Lib.hid (qan b w4 (h7.nilc 5 rfl))
 go_wp2_with fail
 refine (N1.out).mono ?_
 rintro e w2 ⟨rfl,rfl⟩
 clear N1
 have N1:=Lib.hid (Yq b w4 (h7.nilc 6 rfl))
 go_wp2_with fail
 refine (N1.out).mono ?_
 rintro e w2 ⟨rfl,rfl⟩
 clear N1
 have N1:=Lib.hid (Yt b w4 (h7.nilc 7 rfl))
 go_wp2_with fail
 refine (N1.out).mono ?_
 rintro e w2 ⟨rfl,rfl⟩
 clear N1
 have N1:=Lib.hid (Wn b w4 (h7.nilc 8 rfl))
 go_wp2_with fail
 refine (N1.out).mono ?_
 rintro e w2 ⟨rfl,rfl⟩
 clear N1
 have N1:=Lib.hid (Wl b w4 (h7.nilc 9 rfl))
 go_wp2_with fail
 refine (N1.out).mono ?_
 rintro e w2 ⟨rfl,rfl⟩
 clear N1
 have N1:=Lib.hid (Rh b w4 (h7.nilc 10 rfl))
 go_wp2_with fail
 refine (N1.out).mono ?_
 rintro e w2 ⟨rfl,rfl⟩
 clear N1
 have N1:=Lib.hid (qal b w4 (h7.nilc 11 rfl))
 go_wp2_with fail
 refine (N1.out).mono ?_
 rintro e w2 ⟨rfl,rfl⟩
 clear N1
 have N1:=Lib.hid (Yp b w4 (h7.nilc 12 rfl))
 go_wp2_with fail
 refine (N1.out).mono ?_
 rintro e w2 ⟨rfl,rfl⟩
 clear N1
 have N1:=Lib.hid (Ua b w4 (h7.nilc 13 rfl))
 go_wp2_with fail
 refine (N1.out).mono ?_
 rintro e w2 ⟨rfl,rfl⟩
 clear N1
 have N1:=Lib.hid (qam b w4 (h7.nilc 14 rfl))
 go_wp2_with fail
 refine (N1.out).mono ?_
 rintro e w2 ⟨rfl,rfl⟩
 clear N1
 go_wp2
 go_ret
 exact ⟨rfl,h8⟩
end Go.Proofs.YtbcbmkeeoognpaaGreatDoor

namespace Go.Proofs.YtbcbmkeeoognpaaGreatDoor
open Go.RowKit
end Go.Proofs.YtbcbmkeeoognpaaGreatDoor

namespace Go.Proofs.YtbcbmkeeoognpaaGreatDoor
end Go.Proofs.YtbcbmkeeoognpaaGreatDoor

namespace Go.Proofs.YtbcbmkeeoognpaaGreatDoor
open Go.RowKit
end Go.Proofs.YtbcbmkeeoognpaaGreatDoor
