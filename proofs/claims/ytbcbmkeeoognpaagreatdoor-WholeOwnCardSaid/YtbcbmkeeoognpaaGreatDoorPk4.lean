/- Contracts of functions, and plain facts, part 4. -/
import Derived.Lib.BitFns
import Derived.Test.YtbcbmkeeoognpaaGreatDoorProg
import Derived.Deep.QuietTactic
import Derived.BigQuiet
import Derived.BigRegion
import Derived.Test.YtbcbmkeeoognpaaGreatDoorPk1
import Derived.Test.YtbcbmkeeoognpaaGreatDoorPk2
import Derived.Test.YtbcbmkeeoognpaaGreatDoorPk3
set_option linter.unusedVariables false
set_option linter.unusedSimpArgs false
namespace Go.Proofs.YtbcbmkeeoognpaaGreatDoor
theorem Lt (b:Nat) (hb:2≤b) (n:Nat) (V:Int) (hV:0≤V) (h:(dg b V).length≤n):V<(b:Int) ^ n:=by
 have h1:=Au (b:=b) (by omega) (A8 b hb V.toNat)
 have e:val b (Vd b V.toNat)=V:=Bz b hb V hV
 rw [e] at h1
 exact Int.lt_of_lt_of_le h1 (Ew (by omega) h)
def Iz (n:Nat):Nat:=if n=0 then 0 else n.log2+1
theorem qfc (n k:Nat) (h0:2 ^ k≤n) (h1:n<2 ^ (k+1)):Iz n=k+1:=by
 have hn:n≠0:=by
  have:=Nat.two_pow_pos k
  omega
 unfold Iz
 rw [if_neg hn]
 have a:=(Nat.le_log2 hn).2 h0
 have b:=(Nat.log2_lt hn).2 h1
 omega
theorem Uf (n:Nat):n<2 ^ Iz n:=by
 unfold Iz
 split
 ·omega
 ·rename_i h
  exact (Nat.log2_lt h).1 (Nat.lt_succ_self _)
theorem Ue (n:Nat) (hn:n≠0):2 ^ (Iz n-1)≤n:=by
 unfold Iz
 rw [if_neg hn]
 exact (Nat.le_log2 hn).1 (by omega)
theorem U3 (n:Nat) (h:n≠0):0<Iz n:=by
 unfold Iz
 rw [if_neg h]
 omega
theorem qf8 (n:Nat) (h:n≠0):Iz n=Iz (n / 2)+1:=by
 by_cases h2:n / 2=0
 ·have:n=1:=by omega
  subst this
  decide
 ·have a:=Ue (n / 2) h2
  have b:=Uf (n / 2)
  have c:=U3 (n / 2) h2
  refine qfc n (Iz (n / 2)) ?_ ?_
  ·have e:2 ^ Iz (n / 2)=2*2 ^ (Iz (n / 2)-1):=by
    rw [show Iz (n / 2)=(Iz (n / 2)-1)+1 by omega,Nat.pow_succ,Nat.mul_comm]
    simp
   omega
  ·rw [Nat.pow_succ]
   omega
theorem Ru (n:Nat) (h:n<2 ^ 64):Lib.bitLen n=Iz n:=by
 induction n using Nat.strongRecOn with
 | ind n ih=>
  by_cases h0:n=0
  ·subst h0;rfl
  ·rw [Lib.bitLen_half n h0 h,ih (n / 2) (by omega) (by omega),qf8 n h0]
   omega
theorem qdh (lo top e:Nat) (hl:lo<2 ^ e) (ht:top≠0):Iz (lo+2 ^ e*top)=e+Iz top:=by
 have a:=Ue top ht
 have b:=Uf top
 have c:=U3 top ht
 obtain ⟨t,hT⟩:∃t,Iz top=t+1:=⟨Iz top-1,by omega⟩
 rw [hT] at a b ⊢
 simp only [Nat.add_sub_cancel] at a
 refine (qfc _ (e+t) ?_ ?_).trans (by omega)
 ·rw [Nat.pow_add]
  have:=Nat.mul_le_mul_left (2 ^ e) a
  omega
 ·rw [show e+t+1=e+(t+1) by omega,Nat.pow_add]
  have:=Nat.mul_le_mul_left (2 ^ e) (show top+1≤2 ^ (t+1) by omega)
  rw [Nat.mul_add] at this
  omega
theorem Oo {b:Int} {xs:List Int} (hn:norm xs=xs) (m:Nat) (hm:xs.length=m+1):xs[m]?.getD 0≠0:=by
 intro h
 have hm':m<xs.length:=by omega
 have h1:(norm xs).length≤m:=by
  rcases Nat.lt_or_ge m (norm xs).length with h2 | h2
  ·exfalso
   -- a list with 0 at its end is longer than its norm
   have e:xs=xs.take m++List.replicate 1 0:=by
    conv=>lhs;rw [←List.take_append_drop m xs]
    rw [List.drop_eq_getElem_cons hm',List.drop_of_length_le (by omega)]
    rw [List.getElem?_eq_getElem hm'] at h
    simp at h
    simp [h]
   have h3:=Qk (xs.take m) 1
   rw [←e] at h3
   have h4:=yf (xs.take m)
   have h5:(xs.take m).length=m:=by rw [List.length_take];omega
   rw [h3] at h2
   omega
  ·exact h2
 rw [hn] at h1
 omega
theorem qf9 (w:Nat) (b:Int) (hb:b=2 ^ w) (xs:List Int) (hd:Dig b xs) (hn:norm xs=xs) (m:Nat) (hm:xs.length=m+1) :
  Iz (val b xs).toNat=w*m+Iz (xs[m]?.getD 0).toNat:=by
 have hbp:0<b:=by rw [hb];exact Int.pow_pos (by omega)
 have hsplit:=Fg b xs m (by omega)
 have hdrop:=Ec b xs m (by omega)
 rw [List.drop_of_length_le (show xs.length≤m+1 by omega)] at hdrop
 simp only [val,Int.mul_zero,Int.add_zero] at hdrop
 rw [hdrop] at hsplit
 have hlo:=Au hbp (hd.take m)
 have hlo0:=zt hbp (hd.take m)
 rw [List.length_take,Nat.min_eq_left (by omega)] at hlo
 have ht:=hd.get hbp m
 have ht0:=Oo (b:=b) hn m hm
 generalize xs[m]?.getD 0=t at *
 generalize val b (xs.take m)=lo at *
 obtain ⟨lo,rfl⟩:=Int.eq_ofNat_of_zero_le hlo0
 obtain ⟨t,rfl⟩:=Int.eq_ofNat_of_zero_le ht.1
 have e:b ^ m=((2 ^ (w*m):Nat):Int):=by
  rw [hb,Int.natCast_pow,←Int.pow_mul]
  rfl
 rw [e] at hsplit hlo
 rw [hsplit]
 have e2:((lo:Int)+((2 ^ (w*m):Nat):Int)*(t:Int)).toNat=lo+2 ^ (w*m)*t:=by
  rw [←Int.natCast_mul,←Int.natCast_add,Int.toNat_natCast]
 rw [e2,qdh lo t (w*m) (by omega) (by omega)]
 simp
theorem Ij {b:Int} (hb:0<b) {xs zs:List Int} (hx:Dig b xs) (hz:Dig b zs) (hn:norm zs=zs) (h:xs.length<zs.length):val b xs<val b zs:=by
 have h1:=Au hb hx
 have h2:=Xq hb hz hn (by intro e;rw [e] at h;simp at h)
 exact Int.lt_of_lt_of_le (Int.lt_of_lt_of_le h1 (Ew (by omega) (by omega))) h2
theorem qfo {b:Int} (hb:0<b) {xs zs:List Int} (hx:Dig b xs) (hz:Dig b zs) (k:Nat) (h1:k<xs.length) (h2:k<zs.length) (he:val b (xs.drop (k+1))=val b (zs.drop (k+1))) (h:xs[k]?.getD 0<zs[k]?.getD 0) :
  val b xs<val b zs:=by
 have s1:=Fg b xs k (by omega)
 have s2:=Fg b zs k (by omega)
 rw [Ec b xs k h1] at s1
 rw [Ec b zs k h2,←he] at s2
 have l1:=Au hb (hx.take k)
 have l2:=zt hb (hz.take k)
 rw [List.length_take,Nat.min_eq_left (by omega)] at l1
 rw [s1,s2]
 have hp:0<b ^ k:=Int.pow_pos hb
 generalize b ^ k=P at *
 generalize xs[k]?.getD 0=x at *
 generalize zs[k]?.getD 0=z at *
 generalize val b (xs.take k)=A at *
 generalize val b (zs.take k)=C at *
 generalize b*val b (xs.drop (k+1))=R at *
 have:P*(x+R+1)≤P*(z+R):=Int.mul_le_mul_of_nonneg_left (by omega) (Int.le_of_lt hp)
 rw [Int.mul_add P (x+R) 1] at this
 omega
end Go.Proofs.YtbcbmkeeoognpaaGreatDoor

namespace Go.Proofs.YtbcbmkeeoognpaaGreatDoor
open Go.RowKit
def Nv (t:TypeId) (k:IntKind) (zs rs:List Int) (ok:Bool) (w:World) (e:Ending) (w':World):Prop:=
 ∃ad n c ad2 n2 c2,e=.returned (.tuple #[.slice ad n c,.slice ad2 n2 c2,.bool ok])∧Own w.heap.size w' t k ad n c zs∧Own w.heap.size w' t k ad2 n2 c2 rs∧Below w.heap.size w w' ∧
  (0<c→0<c2→∀a a2,ad=some a→ad2=some a2→a.block≠a2.block)
theorem Nv.after {t:TypeId} {k:IntKind} {zs rs:List Int} {ok:Bool} {w w1:World} {e:Ending} {w2:World} (h:Nv t k zs rs ok w1 e w2) (hb:Below w.heap.size w w1):Nv t k zs rs ok w e w2:=by
 obtain ⟨ad,n,c,ad2,n2,c2,e1,h1,h2,h3,h4⟩:=h
 exact ⟨ad,n,c,ad2,n2,c2,e1,h1.mono hb.size,h2.mono hb.size,qw hb h3,h4⟩
end Go.Proofs.YtbcbmkeeoognpaaGreatDoor

namespace Go.Proofs.YtbcbmkeeoognpaaGreatDoor
open Go.RowKit
theorem L9 (x:Int) (w:World) (h0:0≤x) (h1:x<18446744073709551616) :
  Calls Tryz.prog 121 #[.int .u64 x] w (Ns 44 .u32 (dg 4294967296 x) w):=by
 have k0:Blk (w.alloc (.cells #[.int .u32 (x % 4294967296),.int .u32 (x / 4294967296)] 44)) w.heap.size 44 .u32 [x % 4294967296,x / 4294967296]:=Blk.made w 44 .u32 [x % 4294967296,x / 4294967296] _ rfl
 have b0:Below w.heap.size w (w.alloc (.cells #[.int .u32 (x % 4294967296),.int .u32 (x / 4294967296)] 44)):=(Below.refl _ _).alloc (Nat.le_refl _) _
 have hd:Dig 4294967296 [x % 4294967296,x / 4294967296]:=Dig.cons (by omega) (by omega) (Dig.cons (by omega) (by omega) (Dig.nil _))
 have hv:val 4294967296 [x % 4294967296,x / 4294967296]=x:=by simp [val];omega
 have hc:=Lib.hid (Bd (some ⟨w.heap.size,0,none⟩) 2 2 _ _ (by omega) (Nat.le_refl _) k0.rds)
 have R:=Lib.hid (k0.ret (Nat.le_refl _) (by simp) hd _ hv b0)
 clear k0 b0 hd hv
 go_enter Tryz.func121,Tryz.ntmps121
 go_wp2_with fail
 refine (hc.out).mono ?_
 rintro e w' ⟨rfl,rfl⟩
 go_wp2_with fail
 go_ret
 exact R.out
end Go.Proofs.YtbcbmkeeoognpaaGreatDoor

namespace Go.Proofs.YtbcbmkeeoognpaaGreatDoor
def asc (xs:List Int):List Int:=xs.map (· + 48)
theorem Ep (xs:List Int):(asc xs).length=xs.length:=by simp [asc]
theorem qde (xs ys:List Int):asc (xs++ys)=asc xs++asc ys:=by simp [asc]
theorem qlw {xs:List Int} (h:Dig 10 xs):Dig 256 (asc xs):=fun x hx=>by
 simp only [asc,List.mem_map] at hx
 obtain ⟨y,hy,rfl⟩:=hx
 have:=h y hy
 omega
def Gw (V:Int):List Int:=if V=0 then [48] else (asc (dg 10 V)).reverse
theorem Dig.reverse {b:Int} {xs:List Int} (h:Dig b xs):Dig b xs.reverse:=fun x hx=>h x (List.mem_reverse.1 hx)
theorem qhc (xs:List Int) (d:Int) (h:d≠0):norm (xs++[d])=xs++[d]:=by
 have e:=Gl (xs++[d]) (xs.length+1) (by simp) (fun j hj=>by rw [List.getElem?_eq_none (by simp;omega)];rfl) (.inr (by simp;exact h))
 rw [e,List.take_of_length_le (by simp)]
theorem qjk (xs:List Int) (n R V:Int) (k:Nat) (hk:k<9) (h:val 10 xs+10 ^ xs.length*(n+10 ^ (9-k)*R)=V) :
  val 10 (xs++[n % 10])+10 ^ (xs++[n % 10]).length*(n / 10+10 ^ (9-(k+1))*R)=V:=by
 have e1:9-k=(9-(k+1))+1:=by omega
 rw [Ob,List.length_append,List.length_singleton,Int.pow_succ,←h,e1,Int.pow_succ]
 generalize (10:Int) ^ (9-(k+1))=P
 generalize (10:Int) ^ xs.length=L
 have hn:n=10*(n / 10)+n % 10:=by omega
 generalize n / 10=q at *
 generalize n % 10=r at *
 subst hn
 grind
theorem qns (n:Int) (k:Nat) (hk:k<9) (hn:n<10 ^ (9-k)):n / 10<10 ^ (9-(k+1)):=by
 have e1:9-k=(9-(k+1))+1:=by omega
 rw [e1,Int.pow_succ] at hn
 generalize (10:Int) ^ (9-(k+1))=P at *
 omega
theorem ql2 (xs:List Int) (V:Int) (d:Dig 10 xs) (hn:norm xs=xs) (h:val 10 xs+10 ^ xs.length*0=V):xs=dg 10 V:=by
 rw [Int.mul_zero,Int.add_zero] at h
 have:=Ir 10 (by omega) d
 rw [hn,show ((10:Nat):Int)=10 from rfl,h] at this
 exact this
theorem ql3 (V T v:Int) (len na:Nat) (h:v+10 ^ len*T=V) (hv:0≤v) (hT:0<T) (hV:V<4294967296 ^ na):len+1≤32*na:=by
 have h1:(10:Int) ^ len*1≤10 ^ len*T:=Int.mul_le_mul_of_nonneg_left (by omega) (Int.le_of_lt (Int.pow_pos (by omega)))
 have h2:(2:Int) ^ len≤10 ^ len:=by
  have:∀k:Nat,(2:Int) ^ k≤10 ^ k:=by
   intro k
   induction k with
   | zero=>simp
   | succ k ih=>
    rw [Int.pow_succ,Int.pow_succ]
    have:=Int.pow_pos (n:=2) (show (0:Int)<2 by omega) (m:=k)
    omega
  exact this len
 have h3:(4294967296:Int) ^ na=2 ^ (32*na):=by rw [show (4294967296:Int)=2 ^ 32 from by decide,←Int.pow_mul]
 rcases Nat.lt_or_ge len (32*na) with h4 | h4
 ·omega
 ·have:=Ew (b:=2) (by omega) h4
  omega
end Go.Proofs.YtbcbmkeeoognpaaGreatDoor

namespace Go.Proofs.YtbcbmkeeoognpaaGreatDoor
open Go.RowKit
def qof (w:World) (t:TypeId) (xs zs:List Int) (m n i:Nat) (wr:World):Prop:=
 ∃ys,Blk wr w.heap.size t .u32 ys∧ys.length=m+n∧Dig 4294967296 ys∧Below w.heap.size w wr∧val 4294967296 ys=val 4294967296 (xs.take i)*val 4294967296 zs∧∀j,i+n≤j→ys[j]?.getD 0=0
def qoe (w:World) (t:TypeId) (xs zs:List Int) (m n i k:Nat) (c:Int) (wr:World):Prop:=
 ∃ys,Blk wr w.heap.size t .u32 ys∧ys.length=m+n∧Dig 4294967296 ys∧Below w.heap.size w wr∧0≤c∧c<4294967296 ∧
  val 4294967296 ys+c*4294967296 ^ (i+k)=val 4294967296 (xs.take i)*val 4294967296 zs+xs[i]?.getD 0*4294967296 ^ i*val 4294967296 (zs.take k)∧∀j,i+n≤j→ys[j]?.getD 0=0
theorem qg9 (ad bd:Option Addr) (na nb ca cb:Nat) (la lb:List Int) (w:World) (hl:(na+nb)*4≤281474976710656) (hac:na≤ca) (hbc:nb≤cb)
  (ha:Rds w .u32 ad na la) (hb:Rds w .u32 bd nb lb) (da:Dig 4294967296 la) (db:Dig 4294967296 lb) :
  Calls Tryz.prog 56 #[.slice ad na ca,.slice bd nb cb] w (Ns 44 .u32 (dg 4294967296 (val 4294967296 la*val 4294967296 lb)) w):=by
 have rx:=ha.norm
 have rz:=hb.norm
 have dx:=F7 da
 have dz:=F7 db
 have hma:=yf la
 have hnb:=yf lb
 rw [ha.len] at hma
 rw [hb.len] at hnb
 have HV:Hid (val 4294967296 (norm la)*val 4294967296 (norm lb)=val 4294967296 la*val 4294967296 lb):=by rw [Ci,Ci];rfl
 have c1:=Bd ad na ca la w (by omega) hac ha
 have c2:=Bd bd nb cb lb w (by omega) hbc hb
 have C1:=Lib.hid c1
 have C2:=Lib.hid c2
 clear c1 c2 ha hb
 generalize norm la=xs at *
 generalize norm lb=zs at *
 obtain ⟨m,hm⟩:∃m,xs.length=m:=⟨_,rfl⟩
 obtain ⟨n,hn⟩:∃n,zs.length=n:=⟨_,rfl⟩
 rw [hm] at rx hma C1
 rw [hn] at rz hnb C2
 have HM:=Lib.hid hm
 have HN:=Lib.hid hn
 clear hm hn
 have hmk:=Du (P:=Tryz.prog) 23 44 .u32 4 Tryz.underlying23 Ah (by omega) (m+n) (by omega) ((m:Int)+n) (by omega)
 go_enter Tryz.func56,Tryz.ntmps56
 go_wp2_with fail
 refine (C1.out).mono ?_
 rintro e w' ⟨rfl,rfl⟩
 go_wp2_with fail
 refine (C2.out).mono ?_
 rintro e w' ⟨rfl,rfl⟩
 go_wp2_with fail
 clear hmk
 have hr0:qof w 44 xs zs m n 0 (w.alloc (.cells (nums .u32 (List.replicate (m+n) 0)).toArray 44)):=
  ⟨_,Blk.made _ _ _ _ _ rfl,by simp,Dig.replicate _ (by omega) _,(Below.refl _ _).alloc (Nat.le_refl _) _,by simp [val,C9],fun j _=>by simp [List.getElem?_replicate];split <;> rfl⟩
 go_loopw [21] (fun i wr=>∃k:Nat,k≤m∧i=.int .i64 k∧qof w 44 xs zs m n k wr) (fun i _=>m-(intOf i).toNat)
 case atStart=>exact ⟨0,Nat.zero_le _,rfl,hr0⟩
 case round=>
  obtain ⟨i,hi,rfl,hR⟩:=hrel
  clear hr0
  by_cases him:i<m
  ·have hI0:qoe w 44 xs zs m n i 0 0 wr:=by
    obtain ⟨ys,h1,h2,h3,h4,h5,h6⟩:=hR
    exact ⟨ys,h1,h2,h3,h4,by omega,by omega,by simp [h5,val],h6⟩
   clear hR
   go_wp2
   go_loopw [26,7] (fun j cy wr=>∃k:Nat,∃c:Int,k≤n∧j=.int .i64 k∧cy=.int .u64 c∧qoe w 44 xs zs m n i k c wr) (fun j _ _=>n-(intOf j).toNat)
   case atStart=>exact ⟨0,0,Nat.zero_le _,rfl,rfl,hI0⟩
   case round=>
    clear hI0
    obtain ⟨k,c,hk,rfl,rfl,ys,h1,h2,h3,h4,hc0,hc1,h5,h6⟩:=hrel
    have H2:=Lib.hid h2
    have H5:=Lib.hid h5
    have H6:=Lib.hid h6
    clear h2 h5 h6
    by_cases hkn:k<n
    ·obtain ⟨a,rfl,hx⟩:=rx.cell i him
     obtain ⟨b,rfl,hz⟩:=rz.cell k hkn
     have hxl:wr.cell? (a.add i)=some (.int .u32 (xs[i]?.getD 0)):=(h4.cell (by simpa [Addr.add] using World.block_lt_of_cell? w _ hx)).trans hx
     have hzl:wr.cell? (b.add k)=some (.int .u32 (zs[k]?.getD 0)):=(h4.cell (by simpa [Addr.add] using World.block_lt_of_cell? w _ hz)).trans hz
     have hy:=h1.cell (i+k) (by rw [H2.out];omega)
     have hf:=h1.free (i+k)
     clear hx hz
     have S:=V5 4294967296 ys (i+k) (by rw [H2.out];omega) _ c (xs[i]?.getD 0*zs[k]?.getD 0) rfl
     have bx:=dx.get (by omega) i
     have bz:=dz.get (by omega) k
     have bo:=h3.get (by omega) (i+k)
     have bb:=Y9 (o:=ys[i+k]?.getD 0) rfl bx.1 bx.2 bz.1 bz.2 bo.1 bo.2 hc0 hc1
     have N:=Za 4294967296 _ _ zs ys _ i k (by rw [HN.out];exact hkn) c _ H5.out S
     have HS:=Lib.hid N
     clear S N H5
     generalize hgx:xs[i]?.getD 0=x at *
     have HX:=Lib.hid hgx
     clear hgx
     generalize zs[k]?.getD 0=z at *
     generalize hgy:ys[i+k]?.getD 0=y at *
     have HY:=Lib.hid hgy
     clear hgy
     generalize ht:x*z=t at *
     have HT:=Lib.hid ht
     clear ht
     obtain ⟨bt0,bt1,bs0,bs1⟩:=bb
     have W1:IntKind.i64.wrap ((i:Int)+k)=(i:Int)+k:=IntWalk.i64_in _ (by omega)
     have W2:IntKind.u64.wrap (x*z)=t:=by rw [HT.out];exact IntWalk.u64_in _ (by omega)
     have W3:IntKind.u64.wrap (t+y)=t+y:=IntWalk.u64_in _ (by omega)
     have W4:IntKind.u64.wrap (c+(t+y))=c+(t+y):=IntWalk.u64_in _ (by omega)
     have W5:((i:Int)+k).toNat=i+k:=by omega
     have W6:(0:Int)≤(i:Int)+k:=by omega
     go_wp2_with fail
     go_quiet (fail)
     clear W1 W2 W3 W4 W5 W6
     go_wp2
     go_roundw
     case rel=>
      refine ⟨k+1,_,by omega,by go_num,rfl,_,(h1.drewN nq).set (i+k) _,by simp [H2.out],h3.set (by omega) (by omega) _,je (below_drewN h4 nq) _ _ _ (Nat.le_refl _),by omega,by omega,by rw [HX.out];exact HS.out,fun j hj=>?_⟩
      rw [List.getElem?_set_ne (by omega)]
      exact H6.out j (by omega)
     case measure=>simp [intOf];omega
    ·obtain rfl:k=n:=by omega
     have hy:=h1.cell (i+k) (by rw [H2.out];omega)
     have hf:=h1.free (i+k)
     have bo:=h3.get (by omega) (i+k)
     have E:=qha 4294967296 xs zs ys i k (by rw [HM.out];exact him) HN.out.symm (by rw [H2.out];omega) c (H6.out _ (Nat.le_refl _)) H5.out
     have HE:=Lib.hid E
     clear E
     go_wp2
     go_roundw
     case rel=>
      refine ⟨i+1,by omega,by go_num,_,h1.set (i+k) c,by simp [H2.out],h3.set hc0 hc1 _,je h4 _ _ _ (Nat.le_refl _),HE.out,fun j hj=>?_⟩
      rw [List.getElem?_set_ne (by omega)]
      exact H6.out j (by omega)
     case measure=>simp [intOf];omega
  ·obtain rfl:i=m:=by omega
   obtain ⟨ys,h1,h2,h3,h4,h5,h6⟩:=hR
   have H2:=Lib.hid h2
   have H5:=Lib.hid h5
   have H6:=Lib.hid h6
   clear h2 h5 h6
   have hk:=Bd (some ⟨w.heap.size,0,none⟩) (i+n) (i+n) ys wr (by omega) (Nat.le_refl _) (by have:=h1.rds;rwa [H2.out] at this)
   go_wp2_with fail
   refine hk.mono ?_
   rintro e w' ⟨rfl,rfl⟩
   go_wp2_with fail
   go_ret
   refine h1.ret (Nat.le_refl _) (by rw [H2.out];omega) h3 _ ?_ h4
   rw [←HV.out,H5.out,←HM.out,List.take_length]
end Go.Proofs.YtbcbmkeeoognpaaGreatDoor

namespace Go.Proofs.YtbcbmkeeoognpaaGreatDoor
open Go.RowKit
theorem Hr:(Tryz.prog.info? 3).map (fun i=>(i.zero,i.size,i.bytes))=some (some (.int .i64 0),1,8):=by kernel_rfl
theorem qdv:(Tryz.prog.info? 44).map (fun i=>(i.zero,i.size,i.bytes))=some (some (.int .u32 0),1,4):=by kernel_rfl
theorem Xo (ad:Option Addr) (n c:Nat) (xs:List Int) (w:World) (hn:n≤9223372036854775807) (hnc:n≤c) (hr:Rds w .i64 ad n xs) :
  Calls Tryz.prog 244 #[.slice ad n c] w fun e w'=>e=.returned (.slice ad (norm xs).length c)∧w=w':=by
 have HL:=Lib.hid hr.len
 go_enter Tryz.func244,Tryz.ntmps244
 go_wp2
 go_loop [0] (fun v=>∃k:Nat,k≤n∧v=.slice ad k c∧Hid (∀j,k≤j→xs[j]?.getD 0=0)) (fun v=>match v with | .slice _ k _=>k | _=>0)
 case atStart=>exact ⟨n,Nat.le_refl _,rfl,fun j hj=>by rw [List.getElem?_eq_none (by rw [HL.out];exact hj)];rfl⟩
 case round=>
  obtain ⟨k,hk,rfl,hz⟩:=hrel
  have hkc:k≤c:=by omega
  by_cases h0:0<k
  ·obtain ⟨a,rfl,hcell⟩:=hr.cell (k-1) (by omega)
   clear hr
   go_wp2
   ·rename_i hb
    go_round
    case rel=>
     refine ⟨k-1,by omega,rfl,fun j hj=>?_⟩
     by_cases e:j=k-1
     ·subst e;simpa using hb
     ·exact hz.out j (by omega)
    case measure=>simp;omega
   ·have hb:(xs[k-1]?.getD 0 == 0)=false:=by assumption
    have e:=Gl xs k (by rw [HL.out];omega) hz.out (.inr (by simpa using hb))
    have e2:(norm xs).length=k:=by rw [e,List.length_take,HL.out];omega
    go_ret
    rw [e2]
    exact ⟨rfl,rfl⟩
  ·obtain rfl:k=0:=by omega
   have E:=Lib.hid (show (norm xs).length=0 by rw [Gl xs 0 (Nat.zero_le _) hz.out (.inl rfl)];rfl)
   go_wp2
   go_ret
   rw [E.out]
   exact ⟨rfl,rfl⟩
def qib (w:World) (xs:List Int) (i:Nat) (v:Value) (wr:World):Prop:=
 ∃ad c ds,v=.slice ad (4*i) c∧App w.heap.size wr 3 .i64 ad (4*i) c ds∧Dig 256 ds∧Below w.heap.size w wr∧w.heap.size≤wr.heap.size∧val 256 ds=val 4294967296 (xs.take i)
def qia (w:World) (xs:List Int) (i k:Nat) (x:Int) (v:Value) (wr:World):Prop:=
 ∃ad c ds,v=.slice ad (4*i+k) c∧App w.heap.size wr 3 .i64 ad (4*i+k) c ds∧Dig 256 ds∧Below w.heap.size w wr∧w.heap.size≤wr.heap.size ∧
  0≤x∧x<256 ^ (4-k)∧val 256 ds+256 ^ (4*i+k)*x=val 4294967296 (xs.take (i+1))
set_option maxHeartbeats 400000 in
theorem D9 (ad:Option Addr) (n c:Nat) (xs:List Int) (w:World) (hn:n≤1099511627776) (hr:Rds w .u32 ad n xs) (dx:Dig 4294967296 xs) :
  Calls Tryz.prog 202 #[.slice ad n c] w (Ns 3 .i64 (dg 256 (val 4294967296 xs)) w):=by
 have HL:=Lib.hid hr.len
 have hmk:=Pi (P:=Tryz.prog) 188 3 .i64 8 Tryz.underlying188 Hr (by omega) (4*n) (by omega) (4*(n:Int)) (by omega)
 go_enter Tryz.func202,Tryz.ntmps202
 go_wp2
 clear hmk
 have hr0:qib w xs 0 (.slice (some ⟨w.heap.size,0,none⟩) 0 (4*n)) (w.alloc (.cells (madeCells #[.int .i64 0] (4*n)) 3)):=
  ⟨_,_,[],rfl,App.made _ _ _ _ _ (Nat.le_refl _) (by omega) _ rfl,Dig.nil _,(Below.refl _ _).alloc (Nat.le_refl _) _,by simp,by simp [val]⟩
 go_loopw [3,4] (fun v i wr=>∃k:Nat,k≤n∧i=.int .i64 k∧qib w xs k v wr) (fun _ i _=>n-(intOf i).toNat)
 case atStart=>exact ⟨0,Nat.zero_le _,rfl,hr0⟩
 case round=>
  obtain ⟨i,hi,rfl,ad1,c1,ds,rfl,h1,h2,h3,h4,h5⟩:=hrel
  clear hr0
  have H5:=Lib.hid h5
  clear h5
  by_cases hin:i<n
  ·obtain ⟨a,rfl,hx⟩:=hr.cell i hin
   have hxl:wr.cell? (a.add i)=some (.int .u32 (xs[i]?.getD 0)):=(h3.cell (by simpa [Addr.add] using World.block_lt_of_cell? w _ hx)).trans hx
   have bx:=dx.get (by omega) i
   have hI0:qia w xs i 0 (xs[i]?.getD 0) (.slice ad1 (4*i) c1) wr:=
    ⟨ad1,c1,ds,rfl,h1,h2,h3,h4,bx.1,bx.2,by rw [H5.out,Gy _ _ _ (by rw [HL.out];exact hin),Nat.add_zero,qco]⟩
   clear hx
   generalize xs[i]?.getD 0=x0 at *
   go_wp2
   go_loopw [3,5,6] (fun v x j wr=>∃k:Nat,∃q:Int,k≤4∧j=.int .i64 k∧x=.int .i64 q∧qia w xs i k q v wr) (fun _ _ j _=>4-(intOf j).toNat)
   case atStart=>exact ⟨0,x0,by omega,rfl,rfl,hI0⟩
   case round=>
    clear hI0 h1 h2 h3 h4 hxl bx
    obtain ⟨k,x,hk,rfl,rfl,ad2,c2,es,rfl,g1,g2,g3,g4,g5,g6,g7⟩:=hrel
    have hlen:=g1.len
    have HE:=Lib.hid (U4 es _ hlen x _ g5 g7)
    have H7:=Lib.hid g7
    have gx:x<4294967296:=Int.lt_of_lt_of_le g6 (Ew (b:=256) (by omega) (show 4-k≤4 by omega))
    have H6:=Lib.hid g6
    clear hlen g7 g6
    by_cases hk4:k<4
    ·go_wp2_with (at_builtin;refine Jf w.heap.size rfl (.tmp 26) (.tmp 29) 188 3 .i64 8 rfl Tryz.underlying188 Hr (by omega) ad2 (4*i+k) c2 es (x % 256) rfl rfl g1 g3 g4 (by omega) ?_;intro ad3 c3 w3 k1 k2 k3)
     go_roundw
     case rel=>
      refine ⟨k+1,_,by omega,by go_num,rfl,ad3,c3,es++[x % 256],rfl,k1,g2.append (Dig.cons (by omega) (by omega) (Dig.nil _)),k2,k3,by omega,?_,HE.out⟩
      have:=H6.out
      rw [show 4-k=(4-(k+1))+1 by omega,Int.pow_succ] at this
      exact Int.ediv_lt_of_lt_mul (by omega) this
     case measure=>simp [intOf];omega
    ·obtain rfl:k=4:=by omega
     have hx0:x=0:=by have:=H6.out;simp at this;omega
     have HV:=Lib.hid (show val 256 es=val 4294967296 (xs.take (i+1)) by have:=H7.out;rw [hx0] at this;simpa using this)
     clear hx0
     go_wp2
     go_roundw
     case rel=>exact ⟨i+1,by omega,by go_num,ad2,c2,es,rfl,g1,g2,g3,g4,HV.out⟩
     case measure=>simp [intOf];omega
  ·obtain rfl:i=n:=by omega
   have hk:=Xo ad1 (4*i) c1 ds wr (by omega) h1.own.le h1.rds
   go_wp2_with fail
   refine hk.mono ?_
   rintro e w' ⟨rfl,rfl⟩
   go_wp2_with fail
   go_ret
   have O:=h1.own
   have hl:=yf ds
   rw [h1.len] at hl
   refine ⟨_,_,_,rfl,?_,h3⟩
   have E:=Ir 256 (by omega) h2
   have hv:val ((256:Nat):Int) ds=val 4294967296 xs:=by rw [←HL.out,List.take_length] at H5;exact H5.out
   rw [hv] at E
   rw [←E]
   exact O.norm
def qm6 (w:World) (ls:List Int) (j:Nat) (wr:World):Prop:=
 ∃out,Blk wr w.heap.size 44 .u32 out∧Uu ls out j∧Below w.heap.size w wr
set_option maxHeartbeats 400000 in
theorem I8 (ad:Option Addr) (n c:Nat) (xs:List Int) (w:World) (hn:n≤140737488355328) (hnc:n≤c) (hr:Rds w .i64 ad n xs) (dx:Dig 256 xs) :
  Calls Tryz.prog 203 #[.slice ad n c] w (Ns 44 .u32 (dg 4294967296 (val 256 xs)) w):=by
 have ht:=Lib.hid (Xo ad n c xs w (by omega) hnc hr)
 have rx:=hr.norm
 have dl:=F7 dx
 have hl:=yf xs
 rw [hr.len] at hl
 have HV:=Lib.hid (Ci 256 xs)
 have HNN:=Lib.hid (Ji xs)
 clear hr
 generalize norm xs=ls at *
 obtain ⟨m,hm⟩:∃m,ls.length=m:=⟨_,rfl⟩
 rw [hm] at ht rx hl
 have HM:=Lib.hid hm
 have S0:=qdy ls
 rw [hm] at S0
 clear hm
 have hmk:=Du (P:=Tryz.prog) 23 44 .u32 4 Tryz.underlying23 qdv (by omega) ((m+3) / 4) (by omega) (((m:Int)+3) / 4) (by omega)
 go_enter Tryz.func203,Tryz.ntmps203
 go_wp2_with fail
 refine (ht.out).mono ?_
 rintro e w' ⟨rfl,rfl⟩
 go_wp2_with fail
 clear hmk
 have hr0:qm6 w ls m (w.alloc (.cells (nums .u32 (List.replicate ((m+3) / 4) 0)).toArray 44)):=
  ⟨_,Blk.made _ _ _ _ _ rfl,S0,(Below.refl _ _).alloc (Nat.le_refl _) _⟩
 go_loopw [4] (fun i wr=>∃j:Nat,j≤m∧i=.int .i64 ((j:Int)-1)∧qm6 w ls j wr) (fun i _=>((intOf i)+1).toNat)
 case atStart=>exact ⟨m,Nat.le_refl _,rfl,hr0⟩
 case round=>
  obtain ⟨j,hj,rfl,out,h1,h2,h3⟩:=hrel
  clear hr0 S0
  by_cases hj0:0<j
  ·obtain ⟨j,rfl⟩:∃i,j=i+1:=⟨j-1,by omega⟩
   obtain ⟨a,rfl,hxl⟩:=(rx.below h3 (Nat.le_refl _)).cell j (by omega)
   obtain ⟨s1,s2,s3,s4⟩:=qg5 ls out j (by rw [HM.out];omega) dl h2
   have hlen:out.length=(m+3) / 4:=by rw [h2.2.1,HM.out]
   have hy:=h1.cell (j / 4) s3
   have hf:=h1.free (j / 4)
   have bx:=dl.get (by omega) j
   have S4:=Lib.hid s4
   have bo:=h2.1.get (by omega) (j / 4)
   have hq:j / 4<(m+3) / 4:=by omega
   have ej:(((j+1:Nat):Int)-1)=(j:Int):=by omega
   rw [ej]
   clear s4 h2 hlen ej
   generalize hgx:ls[j]?.getD 0=x at *
   have HX:=Lib.hid hgx
   clear hgx
   generalize hgy:out[j / 4]?.getD 0=y at *
   have HY:=Lib.hid hgy
   clear hgy
   have W1:IntKind.i64.wrap ((j:Int).tdiv 4)=(j:Int) / 4:=IntWalk.i64_quo _ _ (by omega)
   have W2:IntKind.u32.wrap (y*256)=y*256:=IntWalk.u32_in _ (by omega)
   have W3:IntKind.u32.wrap (y*256+x)=y*256+x:=IntWalk.u32_in _ (by omega)
   have W4:IntKind.u32.wrap x=x:=IntWalk.u32_in _ (by omega)
   have W5:((j:Int) / 4).toNat=j / 4:=by omega
   have W6:(0:Int)≤(j:Int) / 4:=by omega
   have W7:(j:Int) / 4<(((m+3) / 4:Nat):Int):=by omega
   go_wp2_with fail
   go_region
   clear W1 W2 W3 W4 W5 W6 W7
   go_wp2
   go_roundw
   case rel=>exact ⟨j,by omega,by go_num,_,(h1.set (j / 4) _).drew,S4.out,Dv (je h3 _ _ _ (Nat.le_refl _))⟩
   case measure=>simp [intOf]
  ·obtain rfl:j=0:=by omega
   go_wp2
   go_ret
   have E:=qkc ls out dl HNN.out h2
   have O:=h1.own (B:=w.heap.size) (Nat.le_refl _) out.length (Nat.le_refl _) (by rw [h2.2.1,HM.out];omega)
   have hlen:out.length=(m+3) / 4:=by rw [h2.2.1,HM.out]
   rw [List.take_length] at O
   refine ⟨_,_,_,rfl,?_,h3⟩
   rw [←HV.out,←E,←hlen]
   exact O
theorem Gg {n:Nat} {xs:List Int} (hn:xs.length=n) (h:Dig 4294967296 xs):(dg 256 (val 4294967296 xs)).length≤4*n:=by
 refine Ag 256 (by omega) _ _ ?_
 have:=Au (by omega) h
 rw [hn,←qco] at this
 exact this
end Go.Proofs.YtbcbmkeeoognpaaGreatDoor

namespace Go.Proofs.YtbcbmkeeoognpaaGreatDoor
open Go.RowKit
structure Num (w:World) (ad:Option Addr) (n c:Nat) (V:Int):Prop where
 le:n≤c
 row:∃xs,Rds w .u32 ad n xs∧Dig 4294967296 xs∧val 4294967296 xs=V
structure Can (w:World) (ad:Option Addr) (n c:Nat) (V:Int):Prop where
 le:n≤c
 rds:Rds w .u32 ad n (dg 4294967296 V)
structure Arg (w:World) (ad:Option Addr) (n c:Nat) (xs:List Int):Prop where
 le:n≤c
 rds:Rds w .u32 ad n xs
 dig:Dig 4294967296 xs
structure Tw (w:World) (b n:Nat) (xs:List Int):Prop where
 len:xs.length=n
 blk:Blk w b 44 .u32 (xs++[2148261425])
 dig:Dig 4294967296 xs
theorem Num.below {w w1:World} {ad:Option Addr} {n c:Nat} {V:Int} (h:Num w ad n c V) {B:Nat} (hb:Below B w w1) (hB:w.heap.size≤B):Num w1 ad n c V:=by
 obtain ⟨xs,h1,h2,h3⟩:=h.row
 exact ⟨h.le,xs,h1.below hb hB,h2,h3⟩
theorem Can.below {w w1:World} {ad:Option Addr} {n c:Nat} {V:Int} (h:Can w ad n c V) {B:Nat} (hb:Below B w w1) (hB:w.heap.size≤B):Can w1 ad n c V:=⟨h.le,h.rds.below hb hB⟩
theorem Arg.below {w w1:World} {ad:Option Addr} {n c:Nat} {xs:List Int} (h:Arg w ad n c xs) {B:Nat} (hb:Below B w w1) (hB:w.heap.size≤B):Arg w1 ad n c xs:=⟨h.le,h.rds.below hb hB,h.dig⟩
theorem Tw.below {w w1:World} {b n:Nat} {xs:List Int} (h:Tw w b n xs) {B:Nat} (hb:Below B w w1) (hB:w.heap.size≤B):Tw w1 b n xs:=
 ⟨h.len,h.blk.below hb (Nat.lt_of_lt_of_le h.blk.lt hB),h.dig⟩
theorem Arg.num {w:World} {ad:Option Addr} {n c:Nat} {xs:List Int} (h:Arg w ad n c xs):Num w ad n c (val 4294967296 xs):=⟨h.le,xs,h.rds,h.dig,rfl⟩
theorem Tw.num {w:World} {b n:Nat} {xs:List Int} (h:Tw w b n xs):Num w (some ⟨b,0,none⟩) n (n+1) (val 4294967296 xs):=⟨by omega,xs,qcv h.blk h.len,h.dig,rfl⟩
theorem Can.num {w:World} {ad:Option Addr} {n c:Nat} {V:Int} (h:Can w ad n c V) (hV:0≤V):Num w ad n c V:=⟨h.le,_,h.rds,A8 4294967296 (by omega) _,Bz 4294967296 (by omega) V hV⟩
theorem Arg.nonneg {w:World} {ad:Option Addr} {n c:Nat} {xs:List Int} (h:Arg w ad n c xs):0≤val 4294967296 xs:=zt (by omega) h.dig
theorem Arg.lt {w:World} {ad:Option Addr} {n c:Nat} {xs:List Int} (h:Arg w ad n c xs):val 4294967296 xs<4294967296 ^ n:=by
 have:=Au (by omega) h.dig
 rwa [h.rds.len] at this
theorem Can.len_le {w:World} {ad:Option Addr} {n c:Nat} {V:Int} (h:Can w ad n c V) (L:Nat) (hV:V<4294967296 ^ L):n≤L:=by
 rw [←h.rds.len]
 exact Ag 4294967296 (by omega) L V hV
theorem Can.zero {w:World} {ad:Option Addr} {n c:Nat} (h:Can w ad n c 0):n=0:=by
 have:=h.rds.len
 rw [Ak] at this
 exact this.symm
theorem Can.zero_iff {w:World} {ad:Option Addr} {n c:Nat} {V:Int} (h:Can w ad n c V) (hV:0≤V):n=0↔V=0:=by
 have h1:=h.rds.len
 have h2:=Jp 4294967296 V (by omega) hV
 constructor
 ·intro e
  exact h2.1 (List.eq_nil_of_length_eq_zero (by omega))
 ·intro e
  rw [h2.2 e] at h1
  exact h1.symm
theorem qeg (a b:Int) (n m:Nat) (ha:a<4294967296 ^ n) (hb:b<4294967296 ^ m):a+b<4294967296 ^ (n+m+1):=by
 have h1:=Ew (b:=4294967296) (by omega) (show n≤n+m by omega)
 have h2:=Ew (b:=4294967296) (by omega) (show m≤n+m by omega)
 have h3:(0:Int)<4294967296 ^ (n+m):=Int.pow_pos (by omega)
 rw [Int.pow_succ]
 omega
theorem qeh (a b:Int) (n m:Nat) (ha0:0≤a) (hb0:0≤b) (ha:a<4294967296 ^ n) (hb:b<4294967296 ^ m):a*b<4294967296 ^ (n+m):=by
 rw [Int.pow_add]
 exact Int.lt_of_le_of_lt (Int.mul_le_mul_of_nonneg_left (Int.le_of_lt hb) ha0) (Int.mul_lt_mul_of_pos_right ha (Int.pow_pos (by omega)))
def qim (V:Int) (w:World) (e:Ending) (w':World):Prop:=
 ∃ad n c,e=.returned (.slice ad n c)∧Can w' ad n c V∧Below w.heap.size w w'
def qnd (V:Int) (ok:Bool) (w:World) (e:Ending) (w':World):Prop:=
 ∃ad n c,e=.returned (.tuple #[.slice ad n c,.bool ok])∧Can w' ad n c V∧Below w.heap.size w w'
theorem Ns.can {V:Int} {w:World} {e:Ending} {w':World} (h:Ns 44 .u32 (dg 4294967296 V) w e w'):qim V w e w':=by
 obtain ⟨ad,n,c,rfl,h1,h2⟩:=h
 exact ⟨ad,n,c,rfl,⟨h1.le,h1.rds⟩,h2⟩
theorem P7.can {V:Int} {ok:Bool} {w:World} {e:Ending} {w':World} (h:P7 44 .u32 (dg 4294967296 V) ok w e w'):qnd V ok w e w':=by
 obtain ⟨ad,n,c,rfl,h1,h2⟩:=h
 exact ⟨ad,n,c,rfl,⟨h1.le,h1.rds⟩,h2⟩
theorem qkq (ad bd:Option Addr) (n m c d:Nat) (V U:Int) (w:World) (ha:Can w ad n c V) (hb:Can w bd m d U) (hV:0≤V) (hU:0≤U) (hn:n≤1000000000000) (hm:m≤1000000000000) :
  Calls Tryz.prog 16 #[.slice ad n c,.slice bd m d] w (Same (decide (V=U)) w):=by
 have h:=Xk ad bd n m c d _ _ w (by omega) (by omega) ha.rds hb.rds
 have e:(dg 4294967296 V=dg 4294967296 U)↔V=U:=by
  constructor
  ·intro e
   rw [←Bz 4294967296 (by omega) V hV,e,Bz 4294967296 (by omega) U hU]
  ·intro e;rw [e]
 simpa only [e] using h
end Go.Proofs.YtbcbmkeeoognpaaGreatDoor

namespace Go.Proofs.YtbcbmkeeoognpaaGreatDoor
theorem E5 (B:Int) (ys:List Int) (i:Nat) (v:Int) (h:i<ys.length):val B ((ys.set i v).take (i+1))=val B (ys.take i)+B ^ i*v:=by
 rw [O7 ys i v h,val_append]
 simp [val,List.length_take,Nat.min_eq_left (Nat.le_of_lt h)]
theorem qbe (B:Int) (xs zs ys:List Int) (i:Nat) (hi:i<ys.length) (c T:Int) (hT:T=xs[i]?.getD 0+zs[i]?.getD 0+c)
  (E:val B (ys.take i)+c*B ^ i=val B (xs.take i)+val B (zs.take i)) :
  val B ((ys.set i (T % B)).take (i+1))+(T / B)*B ^ (i+1)=val B (xs.take (i+1))+val B (zs.take (i+1)):=by
 rw [E5 B ys i _ hi,zy,zy,Int.pow_succ]
 have h:=Int.emod_add_mul_ediv T B
 generalize xs[i]?.getD 0=x at *
 generalize zs[i]?.getD 0=z at *
 generalize T / B=q at *
 generalize T % B=r at *
 generalize B ^ i=P at *
 generalize val B (ys.take i)=Y at *
 generalize val B (xs.take i)=X at *
 generalize val B (zs.take i)=Z at *
 have e:r=x+z+c-B*q:=by omega
 subst e
 grind
theorem qlt (B:Int) (xs zs ys:List Int) (n:Nat) (hx:xs.length=n) (hz:zs.length≤n) (hy:ys.length=n+1) (c:Int)
  (E:val B (ys.take n)+c*B ^ n=val B (xs.take n)+val B (zs.take n)):val B (ys.set n c)=val B xs+val B zs:=by
 have h:=E5 B ys n c (by omega)
 rw [List.take_of_length_le (by rw [List.length_set];omega)] at h
 rw [List.take_of_length_le (show xs.length≤n by omega),List.take_of_length_le hz] at E
 rw [h,←E,Int.mul_comm]
theorem qk9 (B:Int) (xs zs ys:List Int) (i:Nat) (hi:i<ys.length) (c D c':Int) (hD:D=xs[i]?.getD 0-zs[i]?.getD 0-c+c'*B)
  (E:val B (ys.take i)+val B (zs.take i)=val B (xs.take i)+c*B ^ i) :
  val B ((ys.set i D).take (i+1))+val B (zs.take (i+1))=val B (xs.take (i+1))+c'*B ^ (i+1):=by
 rw [E5 B ys i _ hi,zy,zy,Int.pow_succ]
 generalize xs[i]?.getD 0=x at *
 generalize zs[i]?.getD 0=z at *
 generalize B ^ i=P at *
 generalize val B (ys.take i)=Y at *
 generalize val B (xs.take i)=X at *
 generalize val B (zs.take i)=Z at *
 subst hD
 grind
theorem qfs (B:Int) (hB:0<B) (xs zs ys:List Int) (n:Nat) (dy:Dig B ys) (hx:xs.length=n) (hz:zs.length≤n) (hy:ys.length=n) (c:Int) (hc:0≤c)
  (hle:val B zs≤val B xs) (E:val B (ys.take n)+val B (zs.take n)=val B (xs.take n)+c*B ^ n):val B ys=val B xs-val B zs:=by
 rw [List.take_of_length_le (by omega),List.take_of_length_le (by omega),List.take_of_length_le (by omega)] at E
 have h:=Au hB dy
 rw [hy] at h
 have hp:0<B ^ n:=Int.pow_pos hB
 rcases Int.lt_or_eq_of_le hc with h1 | h1
 ·have:1*B ^ n≤c*B ^ n:=Int.mul_le_mul_of_nonneg_right (by omega) (Int.le_of_lt hp)
  omega
 ·rw [←h1,Int.zero_mul] at E
  omega
theorem qes (B:Int) (xs ys:List Int) (j:Nat) (hx:j<xs.length) (hy:j<ys.length) (d r T q r':Int) (hT:T=r*B+xs[j]?.getD 0) (hq:T=d*q+r')
  (E:val B (xs.drop (j+1))=val B (ys.drop (j+1))*d+r) :
  val B (xs.drop j)=val B ((ys.set j q).drop j)*d+r':=by
 rw [Ec B xs j hx,Ec B (ys.set j q) j (by rw [List.length_set];exact hy),List.getElem?_set_self hy,List.drop_set_of_lt (by omega),E]
 simp only [Option.getD_some]
 generalize xs[j]?.getD 0=x at *
 generalize val B (ys.drop (j+1))=Y at *
 have:x=d*q+r' - r*B:=by omega
 subst this
 grind
end Go.Proofs.YtbcbmkeeoognpaaGreatDoor

namespace Go.Proofs.YtbcbmkeeoognpaaGreatDoor
open Go.RowKit
theorem qd2 (x:Int) (w:World) (h0:0≤x) (h1:x≤4294967295) :
  Calls Tryz.prog 240 #[.int .u32 x] w fun e w'=>e=.returned (.int .i64 (32-Lib.bitLen x.toNat))∧w=w':=by
 have H:=Lib.hid (Si x w h0 h1)
 have hb:=Lib.bitLen_le x.toNat 32 (by omega) (by omega)
 generalize Lib.bitLen x.toNat=l at *
 go_enter Tryz.func240,Tryz.ntmps240
 go_wp2_with fail
 refine (H.out).mono ?_
 rintro e w' ⟨rfl,rfl⟩
 go_wp2
 go_ret
 exact ⟨rfl,rfl⟩
theorem qki (x:Int) (h0:0<x) (h1:x<4294967296):∃r:Nat,r<32∧(32:Int)-Lib.bitLen x.toNat=r∧2147483648≤x*2 ^ r∧(x+1)*2 ^ r≤4294967296∧(2:Int) ^ r≤2147483648:=by
 obtain ⟨x,rfl⟩:=Int.eq_ofNat_of_zero_le (Int.le_of_lt h0)
 have e:=Ru x (by omega)
 have p0:=U3 x (by omega)
 have p1:=Uf x
 have p2:=Ue x (by omega)
 have p3:=Lib.bitLen_le x 32 (by omega) (by omega)
 rw [show ((x:Int)).toNat=x by simp,e]
 rw [e] at p3
 generalize Iz x=l at *
 refine ⟨32-l,by omega,by omega,?_,?_,?_⟩
 ·have k:2 ^ (l-1)*2 ^ (32-l)=2147483648:=by rw [←Nat.pow_add,show l-1+(32-l)=31 by omega]
  have:=Nat.mul_le_mul_right (2 ^ (32-l)) p2
  rw [k] at this
  have c:(x:Int)*2 ^ (32-l)=((x*2 ^ (32-l):Nat):Int):=by simp
  rw [c];omega
 ·have k:2 ^ l*2 ^ (32-l)=4294967296:=by rw [←Nat.pow_add,show l+(32-l)=32 by omega]
  have:=Nat.mul_le_mul_right (2 ^ (32-l)) (show x+1≤2 ^ l by omega)
  rw [k] at this
  have c:((x:Int)+1)*2 ^ (32-l)=(((x+1)*2 ^ (32-l):Nat):Int):=by simp
  rw [c];omega
 ·have:∀l:Nat,l<33→0<l→2 ^ (32-l)≤2147483648:=by decide
  have h:=this l (by omega) p0
  have c:((2:Int) ^ (32-l))=((2 ^ (32-l):Nat):Int):=by simp
  rw [c];omega
end Go.Proofs.YtbcbmkeeoognpaaGreatDoor

namespace Go.Proofs.YtbcbmkeeoognpaaGreatDoor
def Oa (V n:Int):Int:=if 0≤n then V / 2 ^ n.toNat else 0
def Ov (V n:Int):Bool:=decide (0≤n) && decide (V % 2 ^ n.toNat≠0)
theorem qct (b R Q:Int) (hR:0<R) (hb:b=R*Q) (zs ys:List Int) (i:Nat) (hy:i<ys.length) (c0:Int)
  (E:val b (ys.take i)*R+c0=val b (zs.take i)+b ^ i*(zs[i]?.getD 0 % R)) :
  val b ((ys.set i (zs[i]?.getD 0 / R+zs[i+1]?.getD 0 % R*Q)).take (i+1))*R+c0=val b (zs.take (i+1))+b ^ (i+1)*(zs[i+1]?.getD 0 % R):=by
 rw [O7 ys i _ hy,val_append,zy,Int.pow_succ,List.length_take,Nat.min_eq_left (by omega)]
 simp only [val,Int.mul_zero,Int.add_zero]
 have h:=Int.emod_add_mul_ediv (zs[i]?.getD 0) R
 generalize zs[i]?.getD 0=x at *
 generalize zs[i+1]?.getD 0 % R=t at *
 generalize x / R=q at *
 generalize x % R=r at *
 generalize hP:b ^ i=P at *
 generalize val b (ys.take i)=Y at *
 generalize val b (zs.take i)=Z at *
 subst hb
 subst h
 grind
theorem qh0 (lo P Z R:Int) (h0:0≤lo) (h1:lo<P) (hR:0<R):(lo+P*Z) / (P*R)=Z / R∧(lo+P*Z) % (P*R)=lo+P*(Z % R):=by
 have hP:0<P:=by omega
 have e:lo+P*Z=(lo+P*(Z % R))+P*R*(Z / R):=by
  have:=Int.emod_add_mul_ediv Z R
  generalize Z / R=q at *
  generalize Z % R=r at *
  subst this
  grind
 have b0:0≤Z % R:=Int.emod_nonneg _ (by omega)
 have b1:Z % R+1≤R:=Int.emod_lt_of_pos _ hR
 have c0:0≤P*(Z % R):=Int.mul_nonneg (by omega) b0
 have c1:P*(Z % R+1)≤P*R:=Int.mul_le_mul_of_nonneg_left b1 (by omega)
 rw [Int.mul_add] at c1
 have hPR:0<P*R:=Int.mul_pos hP hR
 rw [e]
 constructor
 ·rw [Int.add_mul_ediv_left _ _ (by omega),Int.ediv_eq_zero_of_lt (by omega) (by omega),Int.zero_add]
 ·rw [Int.add_mul_emod_self_left,Int.emod_eq_of_lt (by omega) (by omega)]
end Go.Proofs.YtbcbmkeeoognpaaGreatDoor

namespace Go.Proofs.YtbcbmkeeoognpaaGreatDoor
open Go.RowKit
theorem Yb (xs zs:List Int) (dx:Dig 4294967296 xs) (dz:Dig 4294967296 zs) (nx:norm xs=xs) (nz:norm zs=zs) (h:xs.length≠zs.length) :
  D5 xs.length zs.length=D5 (val 4294967296 xs) (val 4294967296 zs):=by
 rcases Nat.lt_or_ge xs.length zs.length with h1 | h1
 ·rw [Fp (by omega),Fp (Ij (by omega) dx dz nz h1)]
 ·rw [Gh (by omega),Gh (Ij (by omega) dz dx nx (by omega))]
set_option maxHeartbeats 400000 in
theorem Pj (ad bd:Option Addr) (na nb ca cb:Nat) (la lb:List Int) (w:World) (hna:na≤70368744177664) (hnb:nb≤70368744177664) (hac:na≤ca) (hbc:nb≤cb)
  (ha:Rds w .u32 ad na la) (hb:Rds w .u32 bd nb lb) (da:Dig 4294967296 la) (db:Dig 4294967296 lb) :
  Calls Tryz.prog 160 #[.slice ad na ca,.slice bd nb cb] w (qoj (D5 (val 4294967296 la) (val 4294967296 lb)) w):=by
 have rx:=ha.norm
 have rz:=hb.norm
 have dx:=F7 da
 have dz:=F7 db
 have hma:=yf la
 have hnb':=yf lb
 rw [ha.len] at hma
 rw [hb.len] at hnb'
 have C1:=Lib.hid (Bd ad na ca la w (by omega) hac ha)
 have C2:=Lib.hid (Bd bd nb cb lb w (by omega) hbc hb)
 have N1:=Lib.hid (Ji la)
 have N2:=Lib.hid (Ji lb)
 rw [←Ci 4294967296 la,←Ci 4294967296 lb]
 clear ha hb da db
 generalize norm la=xs at *
 generalize norm lb=zs at *
 obtain ⟨m,hm⟩:∃m,xs.length=m:=⟨_,rfl⟩
 obtain ⟨n,hn⟩:∃n,zs.length=n:=⟨_,rfl⟩
 rw [hm] at rx hma C1
 rw [hn] at rz hnb' C2
 have HM:=Lib.hid hm
 have HN:=Lib.hid hn
 clear hm hn
 by_cases hmn:m=n
 ·subst hmn
  go_enter Tryz.func160,Tryz.ntmps160
  go_wp2_with fail
  refine (C1.out).mono ?_
  rintro e w' ⟨rfl,rfl⟩
  go_wp2_with fail
  refine (C2.out).mono ?_
  rintro e w' ⟨rfl,rfl⟩
  go_wp2_with fail
  go_loopw [23] (fun i wr=>∃k:Nat,k≤m∧i=.int .i64 k∧Hid (val 4294967296 (xs.drop (m-k))=val 4294967296 (zs.drop (m-k)))∧Hid (∃q,wr=w.drewN q)) (fun i _=>m-(intOf i).toNat)
  case atStart=>exact ⟨0,Nat.zero_le _,rfl,by rw [Nat.sub_zero,List.drop_of_length_le (by rw [HM.out];exact Nat.le_refl _),List.drop_of_length_le (by rw [HN.out];exact Nat.le_refl _)];rfl,⟨0,rfl⟩⟩
  case round=>
   obtain ⟨k,hk,rfl,hv,hq⟩:=hrel
   have rx':Rds wr .u32 ad m xs:=by obtain ⟨q,rfl⟩:=hq.out;exact rx.drewN q
   have rz':Rds wr .u32 bd m zs:=by obtain ⟨q,rfl⟩:=hq.out;exact rz.drewN q
   by_cases hkm:k<m
   ·obtain ⟨a,rfl,hxl⟩:=rx'.cell (m-1-k) (by omega)
    obtain ⟨b,rfl,hzl⟩:=rz'.cell (m-1-k) (by omega)
    have L1:=Lib.hid (fun h:xs[m-1-k]?.getD 0<zs[m-1-k]?.getD 0=>qfo (b:=4294967296) (by omega) dx dz (m-1-k) (by rw [HM.out];omega) (by rw [HN.out];omega) (by rw [show m-1-k+1=m-k by omega];exact hv.out) h)
    have L2:=Lib.hid (fun h:zs[m-1-k]?.getD 0<xs[m-1-k]?.getD 0=>qfo (b:=4294967296) (by omega) dz dx (m-1-k) (by rw [HN.out];omega) (by rw [HM.out];omega) (by rw [show m-1-k+1=m-k by omega];exact hv.out.symm) h)
    have E:=Lib.hid (fun h:xs[m-1-k]?.getD 0=zs[m-1-k]?.getD 0=>show val 4294967296 (xs.drop (m-(k+1)))=val 4294967296 (zs.drop (m-(k+1))) by
     rw [show m-(k+1)=m-1-k by omega,Ec _ xs _ (by rw [HM.out];omega),Ec _ zs _ (by rw [HN.out];omega),h,show m-1-k+1=m-k by omega,hv.out])
    clear hv rx rz rx' rz'
    have hi0:(0:Int)≤(m:Int)-1-k:=by omega
    have hi1:(m:Int)-1-k<m:=by omega
    have hi2:((m:Int)-1-k).toNat=m-1-k:=by omega
    generalize hgx:xs[m-1-k]?.getD 0=x at *
    generalize hgz:zs[m-1-k]?.getD 0=z at *
    clear hgx hgz
    rcases Int.lt_trichotomy x z with hxz | hxz | hxz
    ·have HR:=Lib.hid (Fp (L1.out hxz))
     have HC:=Lib.hid (Fp hxz)
     have ht:(x != z)=true:=by simp;omega
     go_wp2_with fail
     go_quiet (fail)
     have hxl2:(wr.drewN nq).cell? (a.add (m-1-k))=some (.int .u32 x):=hxl
     have hzl2:(wr.drewN nq).cell? (b.add (m-1-k))=some (.int .u32 z):=hzl
     have hq2:=Lib.hid (show ∃q,wr.drewN nq=w.drewN q by obtain ⟨q,rfl⟩:=hq.out;exact ⟨_,World.drewN_drewN ..⟩)
     generalize wr.drewN nq=w2 at *
     go_wp2_with fail
     go_quiet ((go_at_call 232;exact Nj (Rw x z _)))
     go_wp2
     go_ret
     rw [HR.out]
     obtain ⟨q,rfl⟩:=hq2.out
     exact ⟨by rw [←HC.out];rfl,_,World.drewN_drewN ..⟩
    ·subst hxz
     have ht:(x != x)=false:=by simp
     go_wp2_with fail
     go_quiet (fail)
     go_wp2
     go_roundw
     case rel=>exact ⟨k+1,by omega,by go_num,E.out trivial,by obtain ⟨q,rfl⟩:=hq.out;exact ⟨_,World.drewN_drewN ..⟩⟩
     case measure=>simp [intOf];omega
    ·have HR:=Lib.hid (Gh (L2.out hxz))
     have HC:=Lib.hid (Gh hxz)
     have ht:(x != z)=true:=by simp;omega
     go_wp2_with fail
     go_quiet (fail)
     have hxl2:(wr.drewN nq).cell? (a.add (m-1-k))=some (.int .u32 x):=hxl
     have hzl2:(wr.drewN nq).cell? (b.add (m-1-k))=some (.int .u32 z):=hzl
     have hq2:=Lib.hid (show ∃q,wr.drewN nq=w.drewN q by obtain ⟨q,rfl⟩:=hq.out;exact ⟨_,World.drewN_drewN ..⟩)
     generalize wr.drewN nq=w2 at *
     go_wp2_with fail
     go_quiet ((go_at_call 232;exact Nj (Rw x z _)))
     go_wp2
     go_ret
     rw [HR.out]
     obtain ⟨q,rfl⟩:=hq2.out
     exact ⟨by rw [←HC.out];rfl,_,World.drewN_drewN ..⟩
   ·obtain rfl:k=m:=by omega
    have HR:=Lib.hid (Ip (show val 4294967296 xs=val 4294967296 zs by have:=hv.out;simpa using this))
    go_wp2
    go_ret
    rw [HR.out]
    exact ⟨rfl,hq.out⟩
 ·have HR:=Lib.hid (Yb xs zs dx dz N1.out N2.out (by rw [HM.out,HN.out];exact hmn))
  rw [HM.out,HN.out] at HR
  have ht:((m:Int) != (n:Int))=true:=by simp;omega
  go_enter Tryz.func160,Tryz.ntmps160
  go_wp2_with fail
  refine (C1.out).mono ?_
  rintro e w' ⟨rfl,rfl⟩
  go_wp2_with fail
  refine (C2.out).mono ?_
  rintro e w' ⟨rfl,rfl⟩
  go_wp2_with fail
  refine (qbl m n w).mono ?_
  rintro e w' ⟨rfl,rfl⟩
  go_wp2
  go_ret
  rw [←HR.out]
  exact ⟨rfl,0,rfl⟩
end Go.Proofs.YtbcbmkeeoognpaaGreatDoor

namespace Go.Proofs.YtbcbmkeeoognpaaGreatDoor
open Go.RowKit
def bitsOf (V:Int):Int:=Iz V.toNat
theorem qd6 (ad:Option Addr) (n c:Nat) (la:List Int) (w:World) (hn:n≤70368744177664) (hnc:n≤c) (hr:Rds w .u32 ad n la) (da:Dig 4294967296 la) :
  Calls Tryz.prog 162 #[.slice ad n c] w fun e w'=>e=.returned (.int .i64 (bitsOf (val 4294967296 la)))∧w=w':=by
 have hc:=Lib.hid (Bd ad n c la w (by omega) hnc hr)
 have rx:=hr.norm
 have dx:=F7 da
 have hN:=Ji la
 have hma:=yf la
 rw [hr.len] at hma
 rw [←Ci 4294967296 la]
 clear hr da
 generalize norm la=xs at *
 obtain ⟨m,hm⟩:∃m,xs.length=m:=⟨_,rfl⟩
 rw [hm] at hc rx hma
 by_cases h0:m=0
 ·subst h0
  have HB:=Lib.hid (show bitsOf (val 4294967296 xs)=0 by rw [List.eq_nil_of_length_eq_zero hm];rfl)
  clear hN hm
  go_enter Tryz.func162,Tryz.ntmps162
  go_wp2_with fail
  refine (hc.out).mono ?_
  rintro e w' ⟨rfl,rfl⟩
  go_wp2
  go_ret
  rw [HB.out]
  exact ⟨rfl,rfl⟩
 ·obtain ⟨t,rfl⟩:∃t,m=t+1:=⟨m-1,by omega⟩
  have bx:=dx.get (by omega) t
  have hl:=Si (xs[t]?.getD 0) w bx.1 (by omega)
  have hB:=Ru (xs[t]?.getD 0).toNat (by omega)
  have hb2:=Lib.bitLen_le (xs[t]?.getD 0).toNat 32 (by omega) (by omega)
  have HB:=Lib.hid (show bitsOf (val 4294967296 xs)=32*(t:Int)+(Lib.bitLen (xs[t]?.getD 0).toNat:Nat) by
   unfold bitsOf
   rw [qf9 32 4294967296 (by decide) xs dx hN t hm,hB]
   simp)
  have hl':=Lib.hid hl
  clear hN hm hl hB h0
  obtain ⟨a,rfl,hxl⟩:=rx.cell t (by omega)
  generalize xs[t]?.getD 0=x at *
  generalize Lib.bitLen x.toNat=q at *
  have hmm:((((t+1:Nat):Int)) == 0)=false:=by simp;omega
  go_enter Tryz.func162,Tryz.ntmps162
  go_wp2_with fail
  refine (hc.out).mono ?_
  rintro e w' ⟨rfl,rfl⟩
  go_wp2_with fail
  refine (hl'.out).mono ?_
  rintro e w' ⟨rfl,rfl⟩
  go_wp2
  go_ret
  rw [HB.out]
  exact ⟨rfl,rfl⟩
end Go.Proofs.YtbcbmkeeoognpaaGreatDoor
