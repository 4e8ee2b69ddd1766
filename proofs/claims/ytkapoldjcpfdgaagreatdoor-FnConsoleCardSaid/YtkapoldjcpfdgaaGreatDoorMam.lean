/- Settling a ladder by a tour: the implementation's contract. -/
import Derived.Deep.LoopGhost
import Derived.Test.YtkapoldjcpfdgaaGreatDoorMal
set_option maxHeartbeats 4000000
set_option maxRecDepth 100000
namespace Go.Proofs.YtkapoldjcpfdgaaGreatDoor
open Go.ChangeShapes Go.WideShapes Go.ChangeAt Go.RowKit
theorem Cur.far {w w2 w5:World}{p n lo:Nat}{v:Value} (h:Cur w p v n) (h2:Cur w2 p v n) (hlo:w.heap.size≤lo) (hb:Below lo w2 w5):Cur w5 p v n:=by
 obtain ⟨i,hi,hci⟩:=h2.i
 obtain ⟨x,hx⟩:=h2.h
 have hp:p<lo:=Nat.lt_of_lt_of_le h.lt hlo
 refine ⟨(hb.cell (p:=⟨p,0,none⟩) hp).trans h2.b,⟨i,hi,(hb.cell (p:=⟨p,1,none⟩) hp).trans hci⟩,⟨x,(hb.cell (p:=⟨p,2,none⟩) hp).trans hx⟩,(hb.frozen (p:=⟨p,1,none⟩) hp).trans h2.f1,(hb.frozen (p:=⟨p,2,none⟩) hp).trans h2.f2,Nat.lt_of_lt_of_le h2.lt hb.size,?_⟩
 obtain ⟨A,c,e,h3,h4,h5⟩:=h2.inb
 obtain ⟨A',c',e',_,_,h6⟩:=h.inb
 rw [e] at e'
 injection e' with e1 _ e3
 subst e1
 refine ⟨A,c,e,h3,h4,?_⟩
 rcases h6 with rfl|⟨b,off,rfl,h6⟩
 ·exact .inl rfl
 ·rcases h5 with rfl|⟨b',off',e4,h5⟩
  ·exact .inl rfl
  ·injection e4 with e4
   injection e4 with e5 e6 _
   subst e5;subst e6
   refine .inr ⟨b,off,rfl,fun k hk=>?_⟩
   obtain ⟨x,h7,h8,h9⟩:=h5 k hk
   obtain ⟨_,_,_,h10⟩:=h6 k hk
   exact ⟨x,h7,h8,(hb.cell (p:=⟨b,off+k,none⟩) (Nat.lt_of_lt_of_le (block_lt_of_cell h10) hlo)).trans h9⟩
theorem Keep.far {l h lo:Nat}{w w2 w5:World} (hk:Keep l h w w2) (hb:Below lo w2 w5) (hlo:w.heap.size≤lo):Keep l h w w5:=
 ⟨hb.os.trans hk.os,hb.tape.trans hk.tape,hb.output.trans hk.output,Nat.le_trans hk.size hb.size,fun k hk' hd=>(hb.block k (by omega)).trans (hk.block k hk' hd)⟩
theorem l01Below_any (p:Nat) (v:Value) (n:Nat) (m:Int) (w:World) (hc:Cur w p v n) (hn:n≤1048576) (h0:0<m) (h1:m≤256):
  Calls Tryz.prog 57 #[.pointer (some ⟨p,0,none⟩),.int .i64 m] w fun e w'=>∃x:Int,(0≤x∧x<m)∧e=.returned (.int .i64 x)∧Cur w' p v n∧Keep p (p+1) w w':=by
 have HC:=Lib.hid hc
 clear hc
 go_enter Tryz.func57,Tryz.ntmps57
 go_wp2_with (go_at_call 34;refine (l01Byte_any p v n _ HC.out hn).mono ?_;rintro e w2 ⟨x,hx,rfl,hc2,hk2⟩;have H2:Hid (Cur w2 p v n∧Keep p (p+1) w w2):=⟨hc2,hk2⟩;clear hc2 hk2)
 go_ret
 exact ⟨_,⟨Int.emod_nonneg _ (by omega),Int.emod_lt_of_pos _ h0⟩,rfl,H2.out.1,H2.out.2⟩
def fsts (x:TourV) (s:Nat):List Int:=(tabF x s).map (·.1)
def snds (x:TourV) (s:Nat):List Int:=(tabF x s).map (·.2)
theorem fsts_len (x:TourV) (s:Nat):(fsts x s).length=s:=by rw [fsts,List.length_map,tabF_len]
theorem snds_len (x:TourV) (s:Nat):(snds x s).length=s:=by rw [snds,List.length_map,tabF_len]
theorem fsts_succ (x:TourV) (s:Nat):fsts x (s+1)=fsts x s++[(entF x (tabF x s) s).1]:=by simp [fsts,tabF]
theorem snds_succ (x:TourV) (s:Nat):snds x (s+1)=snds x s++[(entF x (tabF x s) s).2]:=by simp [snds,tabF]
theorem fsts_at {x:TourV}{t s:Nat} (h:t<s):(fsts x s)[t]? = some ((tabF x s).getD t (0,0)).1:=by
 rw [fsts,List.getElem?_map,List.getD_eq_getElem?_getD,tabF_at x h];rfl
theorem snds_at {x:TourV}{t s:Nat} (h:t<s):(snds x s)[t]? = some ((tabF x s).getD t (0,0)).2:=by
 rw [snds,List.getElem?_map,List.getD_eq_getElem?_getD,tabF_at x h];rfl
theorem bit_ge' {s n a:Nat} (hs:s<2^n) (ha:n≤a):s.testBit a=false:=Nat.testBit_lt_two_pow (Nat.lt_of_lt_of_le hs (Nat.pow_le_pow_right (by omega) ha))
structure InF (x:TourV) (s j:Nat) (p:Int × Int) (a Q L M C:Nat) (K z z':Int):Prop where
 a8:a<8
 an:a<x.wins.length
 ls:L<s
 hL:Hid (s-2^a=L)
 hQ:Hid ((2:Int)^a=(Q:Int))
 e1:Hid (wrap64 ((2:Int)^a)=(Q:Int))
 Q8:Q≤256
 eL:(s:Int)-(Q:Int)=(L:Int)
 w8:winN x a<256
 hM:Hid (bits BinOp.andNot IntKind.i64 (L:Int) (winN x a:Int)=(M:Int))
 M8:M<256
 hC:Hid (cntL M=C)
 hN:Hid (costN x a s=C)
 ez:(fsts x s)[L]? = some z
 ez':(snds x s)[L]? = some z'
 z0:0≤z
 z1:z≤64
 z2:0≤z'
 z3:z'≤16777216
 hK:Hid (IntKind.i64.wrap (z+(C:Int))=K)
 hK':Hid (IntKind.i64.wrap ((C:Int)+z)=K)
 K0:0≤K
 K1:K≤72
 C8:C≤8
 fo:Hid (((memL s).take (j+1)).foldl (stepM x (tabF x s) s) (-1,0)=stepC p K z')
 hp:(p.1 = -1∧p.2=0)∨(0≤p.1∧p.1≤72∧0≤p.2∧p.2≤(j:Int)*16777216)
theorem inFacts {x:TourV}{s j:Nat}{p:Int × Int}{y:Int} (hok:tourB x=true) (hs256:s<256) (hsp:s<2^x.wins.length) (hj:j<(memL s).length)
  (ey:(memL s)[j]? = some y) (HP:p=((memL s).take j).foldl (stepM x (tabF x s) s) (-1,0)) {w:World}{A:Option Addr} (hsl:SlI w A x.wins):
  ∃(a Q L M C:Nat) (K z z':Int),y=(a:Int)∧InF x s j p a Q L M C K z z':=by
 have hj8:(memL s).length≤8:=by rw [memL_len];exact cntL_le _
 obtain ⟨a,rfl,ha8,hba⟩:=memT_mem.1 (List.mem_of_getElem? ey)
 have hfb:=fold_bd (x:=x) hs256 j (by omega)
 rw [←HP] at hfb
 have HSN:=fold_snoc (x:=x) (l:=tabF x s) (s:=s) ey
 have han:a<x.wins.length:=by
  rcases Nat.lt_or_ge a x.wins.length with h|h
  ·exact h
  ·rw [bit_ge' hsp h] at hba;cases hba
 have hle:2^a≤s:=(sub_all ⟨s,hs256⟩ ⟨a,ha8⟩ hba).1
 have hq0:0<2^a:=Nat.pow_pos (by omega)
 obtain ⟨b5,o5,rfl,qw0,hlw,hW2,hWb⟩:=win_at hok hsl han
 have hlt4:s-2^a<s:=by omega
 have ez:=fsts_at (x:=x) hlt4
 have ez':=snds_at (x:=x) hlt4
 have hCE:=cost_eq hok han hsp hba hW2 hWb
 have hn8:x.wins.length≤8:=by obtain ⟨t1,t2,t3,_,_⟩:=tourB_t hok;omega
 have hW256:winN x a<256:=Nat.lt_of_lt_of_le hW2 (Nat.pow_le_pow_right (by omega) hn8)
 have hent:=entF_ok x (s-2^a) (by omega)
 have hgd:(tabF x s).getD (s-2^a) (0,0)=entF x (tabF x (s-2^a)) (s-2^a):=by rw [List.getD_eq_getElem?_getD,tabF_at x hlt4];rfl
 have hstep:stepM x (tabF x s) s p (a:Int)=stepC p ((costN x a s:Int)+((tabF x s).getD (s-2^a) (0,0)).1) ((tabF x s).getD (s-2^a) (0,0)).2:=by rw [stepM,Int.toNat_natCast]
 have hz0:=hent.lo
 have hz1:=hent.hi
 have hz2:=hent.w0
 have hz3:(entF x (tabF x (s-2^a)) (s-2^a)).2≤16777216:=by
  have h1:∀c:Fin 9,(8:Int)^c.val≤16777216:=by decide
  exact Int.le_trans hent.w1 (h1 ⟨cntL (s-2^a),Nat.lt_succ_of_le (cntL_le _)⟩)
 have hcl:=cntL_le (s-2^a)
 have hcn:=costN_le x a s
 rw [←hgd] at hz0 hz1 hz2 hz3
 rw [←HP,hstep] at HSN
 have hM256:(s-2^a) &&& (255 ^^^ winN x a)<256:=Nat.lt_of_le_of_lt Nat.and_le_left (by omega)
 have hM:=andNot_small (s:=s-2^a) (w:=winN x a) (by omega) hW256
 have hQ2:(2:Int)^a=((2^a:Nat):Int):=by rw [Int.natCast_pow];rfl
 generalize ((tabF x s).getD (s-2^a) (0,0)).1=z at *
 generalize ((tabF x s).getD (s-2^a) (0,0)).2=z' at *
 generalize (s-2^a) &&& (255 ^^^ winN x a)=M at *
 obtain ⟨C,hCo⟩:∃C,costN x a s=C:=⟨_,rfl⟩
 rw [hCo] at hCE hcn HSN
 have hzz:z≤64:=by omega
 have hC8:C≤8:=hcn
 clear hent hgd hstep hcl hz1 qw0 hsl hWb hW2
 have hE1:wrap64 ((2:Int)^a)=((2^a:Nat):Int):=by
  rw [hQ2]
  clear hM hQ2
  generalize 2^a=Q at *
  unfold wrap64;omega
 have hK:IntKind.i64.wrap (z+(C:Int))=z+C:=by clear hM hE1 hQ2;rw [IntKind.wrap_i64];omega
 have HM:=Lib.hid hM
 have HQ2:=Lib.hid hQ2
 have HE1:=Lib.hid hE1
 have HK:=Lib.hid hK
 clear hM hQ2 hE1 hK
 have hQ8:2^a≤256:=by omega
 have heL:(s:Int)-((2^a:Nat):Int)=((s-2^a:Nat):Int):=by clear hfb hcn;omega
 have hK0:0≤z+(C:Int):=by omega
 have hK1:z+(C:Int)≤72:=by omega
 refine ⟨a,2^a,s-2^a,M,C,z+C,z,z',rfl,ha8,han,hlt4,Lib.hid rfl,HQ2,HE1,hQ8,heL,hW256,HM,hM256,Lib.hid hCE,Lib.hid hCo,ez,ez',hz0,hzz,hz2,hz3,HK,?_,hK0,hK1,hC8,?_,?_⟩
 ·show Hid _
  rw [Int.add_comm];exact HK
 ·show Hid _
  rw [Int.add_comm];exact Lib.hid HSN
 ·rcases hfb with h|h
  ·rw [h];exact .inl ⟨rfl,rfl⟩
  ·exact .inr h
def rowF (l:List Int) (v:Int) (r:Nat):List Int:=l++v :: List.replicate r 0
theorem rowF_lt {l:List Int}{v:Int}{r k:Nat} (h:k<l.length):(rowF l v r)[k]? = l[k]?:=List.getElem?_append_left h
theorem rowF_mid {l:List Int}{v:Int}{r s:Nat} (hl:l.length=s):(rowF l v r)[s]? = some v:=by rw [rowF,List.getElem?_append_right (by omega),hl,Nat.sub_self];rfl
theorem rowF_set {l:List Int}{v y:Int}{r s:Nat} (hl:l.length=s):(rowF l v r).set s y=rowF l y r:=by rw [rowF,List.set_append_right _ _ (by omega),hl,Nat.sub_self];rfl
theorem rowF_next {l:List Int}{v:Int}{r:Nat}:rowF l v r=(l++[v])++List.replicate r 0:=by simp [rowF]
theorem rowF_here {l:List Int}{r:Nat}:l++List.replicate (r+1) 0=rowF l 0 r:=by rw [rowF,List.replicate_succ]
structure Arr (w wr:World) (x:TourV) (A:Option Addr) (c T gf gm:Nat) (fs ms:List Int):Prop where
 ff:Fr wr (w.heap.size+1) wr.heap.size (.slice (some ⟨gf,0,none⟩) T T) fs
 fm:Fr wr (w.heap.size+1) wr.heap.size (.slice (some ⟨gm,0,none⟩) T T) ms
 ne:gf≠gm
 bx:Bx wr w.heap.size (.int .i64 (x.wins.length:Int)) (.slice A x.wins.length c)
 be:Below w.heap.size w wr
theorem Arr.below {w wr w2:World}{x:TourV}{A:Option Addr}{c T gf gm:Nat}{fs ms:List Int} (h:Arr w wr x A c T gf gm fs ms) (hb:Below wr.heap.size wr w2):Arr w w2 x A c T gf gm fs ms:=
 ⟨(h.ff.grow hb).wide (Nat.le_refl _) hb.size (Nat.le_refl _),(h.fm.grow hb).wide (Nat.le_refl _) hb.size (Nat.le_refl _),h.ne,h.bx.below hb,h.be.trans (hb.mono h.be.size)⟩
theorem Arr.atF {w wr:World}{x:TourV}{A:Option Addr}{c T gf gm:Nat}{fs ms:List Int} (h:Arr w wr x A c T gf gm fs ms) {k:Nat}{z:Int} (hz:fs[k]? = some z):
  k<T∧wr.cell? ⟨gf,k,none⟩=some (.int .i64 z)∧wr.frozen? ⟨gf,k,none⟩=false∧∀y,Arr w (wr.setCell ⟨gf,k,none⟩ (.int .i64 y)) x A c T gf gm (fs.set k y) ms:=by
 have hk:=(List.getElem?_eq_some_iff.1 hz).1
 obtain ⟨g,z',e,hg1,hg2,hz',c1,f1,s1⟩:=h.ff.at_ hk
 injection e with e
 injection e with e
 subst e
 obtain rfl:z=z':=by rw [hz] at hz';exact Option.some.inj hz'
 refine ⟨by rw [h.ff.len];exact hk,c1,f1,fun y=>?_⟩
 obtain ⟨s2,s3⟩:=s1 y
 have hk1:Keep gf (gf+1) wr (wr.setCell ⟨gf,k,none⟩ (.int .i64 y)):=Keep.setCell (p:=⟨gf,k,none⟩) (Keep.refl gf (gf+1) wr) (Nat.le_refl _) (Nat.lt_succ_self _) _
 have hm:=h.fm.apart hk1 (fun g hg=>by
  simp only [Value.ownBlock,Option.some.injEq] at hg
  have:=h.ne;omega)
 have hsz:=s2.2.2
 have hlt:=hg2
 refine ⟨s2.wide (Nat.le_refl _) s3.size (Nat.le_refl _),hm.wide (Nat.le_refl _) s3.size (Nat.le_refl _),h.ne,h.bx.keep s3 (.inl (Nat.lt_succ_self _)),h.be.setCell (by show w.heap.size≤gf;omega) _⟩
theorem Arr.swap {w wr:World}{x:TourV}{A:Option Addr}{c T gf gm:Nat}{fs ms:List Int} (h:Arr w wr x A c T gf gm fs ms):Arr w wr x A c T gm gf ms fs:=⟨h.fm,h.ff,h.ne.symm,h.bx,h.be⟩
theorem Arr.atM {w wr:World}{x:TourV}{A:Option Addr}{c T gf gm:Nat}{fs ms:List Int} (h:Arr w wr x A c T gf gm fs ms) {k:Nat}{z:Int} (hz:ms[k]? = some z):
  k<T∧wr.cell? ⟨gm,k,none⟩=some (.int .i64 z)∧wr.frozen? ⟨gm,k,none⟩=false∧∀y,Arr w (wr.setCell ⟨gm,k,none⟩ (.int .i64 y)) x A c T gf gm fs (ms.set k y):=by
 obtain ⟨h1,h2,h3,h4⟩:=h.swap.atF hz
 exact ⟨h1,h2,h3,fun y=>(h4 y).swap⟩
theorem Arr.drew {w wr:World}{x:TourV}{A:Option Addr}{c T gf gm:Nat}{fs ms:List Int} (h:Arr w wr x A c T gf gm fs ms):Arr w wr.drew x A c T gf gm fs ms:=⟨h.ff,h.fm,h.ne,h.bx,below_drewL h.be⟩
theorem arrMk {w W:World}{x:TourV}{A:Option Addr}{c T:Nat} (hT:T≤1048576) (h:Bx W w.heap.size (.int .i64 (x.wins.length:Int)) (.slice A x.wins.length c)∧Below w.heap.size w W∧W.heap.size=w.heap.size+1):
  Arr w ((W.alloc (mkO T)).alloc (mkO T)).drew x A c T (w.heap.size+1) (w.heap.size+1+1) (List.replicate T 0) (List.replicate T 0):=by
 obtain ⟨h1,h2,h3⟩:=h
 have f1:=fr_mkO hT W
 have b1:Below W.heap.size W (W.alloc (mkO T)):=(Below.refl _ W).alloc (Nat.le_refl _) _
 have z1:(W.alloc (mkO T)).heap.size=W.heap.size+1:=World.size_alloc _ _
 have f2:=fr_mkO hT (W.alloc (mkO T))
 have b2:Below (W.alloc (mkO T)).heap.size (W.alloc (mkO T)) ((W.alloc (mkO T)).alloc (mkO T)):=(Below.refl _ _).alloc (Nat.le_refl _) _
 refine Arr.drew ⟨?_,?_,by omega,(h1.below b1).below b2,h2.trans ((b1.trans (b2.mono b1.size)).mono h2.size)⟩
 ·have h:=(f1.grow b2).wide (lo':=w.heap.size+1) (by omega) b2.size (Nat.le_refl _)
  rwa [h3] at h
 ·have h:=f2.wide (lo':=w.heap.size+1) (by omega) (Nat.le_refl _) (Nat.le_refl _)
  rwa [z1,h3] at h
theorem Fr.cell1 {w:World}{lo g k:Nat}{v u:Value}{xs:List Int} (h:Fr w lo w.heap.size v xs) (hg:g<lo):Fr (w.setCell ⟨g,k,none⟩ u) lo (w.setCell ⟨g,k,none⟩ u).heap.size v xs:=by
 have hk:Keep g (g+1) w (w.setCell ⟨g,k,none⟩ u):=Keep.setCell (p:=⟨g,k,none⟩) (Keep.refl g (g+1) w) (Nat.le_refl _) (Nat.lt_succ_self _) _
 exact (h.keep hk (.inr hg)).wide (Nat.le_refl _) hk.size (Nat.le_refl _)
theorem andNot_bit:∀s:Fin 256,∀a:Fin 8,s.val.testBit a.val=true→s.val &&& (255 ^^^ 2^a.val)=s.val-2^a.val:=by decide +kernel
theorem andNot_one {s a Q L:Nat} (hs:s<256) (ha:a<8) (hb:s.testBit a=true) (hQ:(2:Int)^a=(Q:Int)) (hL:s-2^a=L):bits BinOp.andNot IntKind.i64 (s:Int) (Q:Int)=(L:Int):=by
 have e:2^a=Q:=by
  have:((2^a:Nat):Int)=(Q:Int):=by rw [Int.natCast_pow];exact hQ
  exact Int.ofNat.inj this
 have hQ256:Q<256:=by
  rw [←e]
  have h:∀a:Fin 8,2^a.val<256:=by decide
  exact h ⟨a,ha⟩
 rw [andNot_small hs hQ256,←hL,←e]
 exact congrArg _ (andNot_bit ⟨s,hs⟩ ⟨a,ha⟩ hb)
theorem arranged_any (v:Value) (x:TourV) (w:World) (hs:InT w v x) (hok:tourB x=true):
  Calls Tryz.prog 165 #[v] w fun e w'=>∃vb vw,e=.returned (.tuple #[vb,vw])∧InI w' vb (fsts x (2^x.wins.length))∧Below w.heap.size w w':=by
 have HIT:=Lib.hid hs
 have HOK:=Lib.hid hok
 obtain ⟨u,rfl,A,c,rfl,hc,hm,hsl⟩:=hs
 obtain ⟨t1,t2,t3,_,_⟩:=tourB_t hok
 have hn8:x.wins.length≤8:=by omega
 have h256:(2:Nat)^x.wins.length≤256:=Nat.pow_le_pow_right (by omega) hn8
 have hpos:2≤(2:Nat)^x.wins.length:=by
  have h:(2:Nat)^1≤2^x.wins.length:=Nat.pow_le_pow_right (by omega) (by omega)
  exact h
 have hT2:(2:Int)^x.wins.length=((2^x.wins.length:Nat):Int):=by rw [Int.natCast_pow];rfl
 obtain ⟨T,HT⟩:∃T:Nat,Hid (2^x.wins.length=T):=⟨_,rfl⟩
 rw [HT.out] at h256 hpos hT2 ⊢
 have HSZ:Hid (x.size=(x.wins.length:Int)):=t3.symm
 have HSL:=Lib.hid hsl
 have e1:IntKind.i64.wrap (T:Int)=T:=by rw [IntKind.wrap_i64];omega
 have HBX:Hid (Bx (w.alloc (.cells #[.int .i64 x.size,.slice A x.wins.length c] 27)) w.heap.size (.int .i64 x.size) (.slice A x.wins.length c)∧Below w.heap.size w (w.alloc (.cells #[.int .i64 x.size,.slice A x.wins.length c] 27))∧(w.alloc (.cells #[.int .i64 x.size,.slice A x.wins.length c] 27)).heap.size=w.heap.size+1):=⟨⟨by simp,by simp,by simp⟩,(Below.refl _ w).alloc (Nat.le_refl _) _,World.size_alloc _ _⟩
 rw [HSZ.out] at HBX
 rw [HSZ.out]
 clear hsl hok t1 t2 t3
 go_enter Tryz.func165,Tryz.ntmps165
 go_wp2_with fail
 go_cut [4,5] from 11 to 18 (fun s4 s5 wx=>∃gf gm,s4=.slice (some ⟨gf,0,none⟩) T T∧s5=.slice (some ⟨gm,0,none⟩) T T∧Hid (Arr w wx x A c T gf gm (List.replicate T 0) (List.replicate T 0)))
 case first=>
  have hs0:(w.alloc (.cells #[.int .i64 (x.wins.length:Int),.slice A x.wins.length c] 27)).cell? ⟨w.heap.size,0,none⟩=some (.int .i64 (x.wins.length:Int)):=HBX.out.1.1
  have hs1:=cell_mkO (n:=T) hs0 (by simp)
  have hs2:=cell_mkO (n:=T) hs1 (by simp;omega)
  have hmk:=run_mkI (n:=T) (by omega)
  go_region_held3 (fun W=>W.cell? ⟨w.heap.size,0,none⟩=some (.int .i64 (x.wins.length:Int))) (first|exact hs0|exact hs1|exact hs2) (fail)
  all_goals (go_wp2_with fail;go_meet)
  ·exact ⟨_,_,rfl,rfl,arrMk (by omega) HBX.out⟩
  ·exact ⟨_,_,rfl,rfl,(arrMk (by omega) HBX.out).swap⟩
 case rest=>
  obtain ⟨gf,gm,rfl,rfl,HA⟩:=hcut
  have hr0:(List.replicate T (0:Int))[0]? = some 0:=by rw [List.getElem?_replicate,if_pos (by omega)]
  obtain ⟨k0,p0,p1,p2⟩:=HA.out.atM hr0
  have HS0:Hid (Arr w (wc.setCell ⟨gm,0,none⟩ (.int .i64 1)) x A c T gf gm (fsts x 1++List.replicate (T-1) 0) (snds x 1++List.replicate (T-1) 0)):=by
   have h:=p2 1
   obtain ⟨T',rfl⟩:∃T',T=T'+1:=⟨T-1,by omega⟩
   exact h
  clear p2 hr0
  go_wp2
  go_loopw [6] (fun i wr=>∃s:Nat,1≤s∧s≤T∧i=.int .i64 s∧Hid (Arr w wr x A c T gf gm (fsts x s++List.replicate (T-s) 0) (snds x s++List.replicate (T-s) 0))) (fun i _=>T-(intOf i).toNat)
  case atStart=>exact ⟨1,Nat.le_refl _,by omega,rfl,HS0.out⟩
  case round=>
   obtain ⟨s,hs1,hsT,rfl,HR⟩:=hrel
   obtain ⟨wo,rfl⟩:∃W,W=wr:=⟨wr,rfl⟩
   clear HS0 HA k0 p0 p1
   by_cases hlt:s<T
   case neg=>
    obtain rfl:s=T:=by omega
    go_wp2
    go_ret2
    exact ⟨_,_,rfl,by have h:=HR.out.ff.in_;rwa [Nat.sub_self,List.replicate_zero,List.append_nil] at h,HR.out.be⟩
   have hs256:s<256:=by omega
   obtain ⟨r,HRT⟩:∃r,Hid (T=s+1+r):=⟨T-s-1,by show _=_;omega⟩
   have HR1:Hid (Arr w wo x A c T gf gm (rowF (fsts x s) 0 r) (rowF (snds x s) 0 r)):=by
    have h:=HR.out
    rw [show T-s=r+1 by have:=HRT.out;omega,rowF_here,rowF_here] at h
    exact h
   clear HR
   obtain ⟨k0,p0,p1,p2⟩:=HR1.out.atF (rowF_mid (fsts_len x s))
   have HR2:Hid (Arr w (wo.setCell ⟨gf,s,none⟩ (.int .i64 (-1))) x A c T gf gm (rowF (fsts x s) (-1) r) (rowF (snds x s) 0 r)):=by
    have h:=p2 (-1)
    rwa [rowF_set (fsts_len x s)] at h
   have HG:Hid (gf<wo.heap.size∧gm<wo.heap.size):=⟨HR1.out.ff.2.1 gf rfl,HR1.out.fm.2.1 gm rfl⟩
   clear p2
   have hk0:(s:Int)<T:=by omega
   go_wp2_with (go_at_call 153;refine (membersOf_any s _ hs256).mono ?_;rintro e w3 ⟨v3,rfl,hf,hb⟩;have H3:Hid (Arr w w3 x A c T gf gm (rowF (fsts x s) (-1) r) (rowF (snds x s) 0 r)∧Fr w3 wo.heap.size w3.heap.size v3 (memL s)):=⟨HR2.out.below hb,hf.wide (Nat.le_of_eq (by simp [World.setCell])) (Nat.le_refl _) (Nat.le_refl _)⟩;obtain ⟨A3,c3,rfl,-⟩:=hf.in_;clear hb hf HR2)
   clear p0 p1 HR1
   go_loopw [33] (fun i wr=>∃(j:Nat) (p:Int × Int),j≤(memL s).length∧i=.int .i64 j∧Hid (p=((memL s).take j).foldl (stepM x (tabF x s) s) (-1,0))∧Hid (Arr w wr x A c T gf gm (rowF (fsts x s) p.1 r) (rowF (snds x s) p.2 r)∧Fr wr wo.heap.size wr.heap.size (.slice A3 (memL s).length c3) (memL s))) (fun i _=>(memL s).length-(intOf i).toNat)
   case atStart=>exact ⟨0,(-1,0),Nat.zero_le _,rfl,rfl,H3.out⟩
   case round=>
    obtain ⟨j,p,hj,rfl,HP,HW⟩:=hrel
    clear H3
    by_cases hlt2:j<(memL s).length
    case neg=>
     obtain rfl:j=(memL s).length:=by omega
     have HE:Hid (p=entF x (tabF x s) s):=by
      show p=_
      rw [←entF_mem (by omega),HP.out,List.take_length]
     have HN:Hid (Arr w wr x A c T gf gm (fsts x (s+1)++List.replicate (T-(s+1)) 0) (snds x (s+1)++List.replicate (T-(s+1)) 0)):=by
      have h:=HW.out.1
      rw [rowF_next,rowF_next,HE.out,←fsts_succ,←snds_succ,show r=T-(s+1) by have:=HRT.out;omega] at h
      exact h
     clear HW HP HE
     go_wp2
     go_roundw
     case rel=>exact ⟨s+1,by omega,by omega,by go_num,HN.out⟩
     case measure=>simp [intOf];omega
    case pos=>
     obtain ⟨A4,c4,e4,_,_,hsl4⟩:=HW.out.2.in_
     injection e4 with e4 _ e5;subst e4;subst e5
     obtain ⟨b3,o3,y,rfl,ey,qy,_⟩:=hsl4.at_ (k:=j) hlt2
     have hbit:s.testBit y.toNat=true:=by obtain ⟨a,rfl,_,h⟩:=memT_mem.1 (List.mem_of_getElem? ey);exact h
     obtain ⟨a,Q,L,M,C,K,z,z',rfl,HF⟩:=inFacts HOK.out hs256 (by rw [HT.out];exact hlt) hlt2 ey HP.out HSL.out
     have HF:=Lib.hid HF
     rw [Int.toNat_natCast] at hbit
     have HAN:Hid (bits BinOp.andNot IntKind.i64 (s:Int) (Q:Int)=(L:Int)):=andNot_one hs256 HF.out.a8 hbit HF.out.hQ.out HF.out.hL.out
     have HFC:Hid (∀W,Below w.heap.size w W→Calls Tryz.prog 166 #[.agg #[.int .i64 (x.wins.length:Int),.slice A x.wins.length c],.int .i64 (a:Int),.int .i64 (s:Int)] W fun e w'=>e=.returned (.int .i64 (C:Int))∧Below W.heap.size W w'):=fun W hW=>by
      have h:=firstCost_any _ x a s W (HIT.out.below hW) HOK.out HF.out.an hs256
      rw [HF.out.hN.out,HSZ.out] at h
      exact h
     have hzr:(rowF (fsts x s) p.1 r)[L]? = some z:=by rw [rowF_lt (by rw [fsts_len];exact HF.out.ls)];exact HF.out.ez
     have hzr':(rowF (snds x s) p.2 r)[L]? = some z':=by rw [rowF_lt (by rw [snds_len];exact HF.out.ls)];exact HF.out.ez'
     have HZR:=Lib.hid (And.intro hzr hzr')
     obtain ⟨-,qz,-,-⟩:=HW.out.1.atF hzr
     clear hzr hzr' ey hsl4 hbit
     have ha64:(a:Int)<64:=by have:=HF.out.a8;omega
     have hls:(L:Int)<T:=by have:=HF.out.ls;omega
     have hz:=HF.out.z0
     have hz1:=HF.out.z1
     have hz':=HF.out.z2
     have hz1':=HF.out.z3
     have hK0:=HF.out.K0
     have hK1:=HF.out.K1
     have hp:=HF.out.hp
     obtain ⟨p1,p2⟩:=p
     simp only at hp
     have hjm:(memL s).length≤8:=by rw [memL_len];exact cntL_le _
     have hp1:-1≤p1∧p1≤72∧0≤p2∧p2≤134217728:=by omega
     clear hp
     have e1:=HF.out.e1.out
     have eAN:=HAN.out
     have eK:=HF.out.hK'.out
     go_wp2_with fail
     have qb0:wr.cell? ⟨w.heap.size,0,none⟩=some (.int .i64 (x.wins.length:Int)):=HW.out.1.bx.1
     have qb1:wr.cell? ⟨w.heap.size,1,none⟩=some (.slice A x.wins.length c):=HW.out.1.bx.2.1
     have HBE:Hid (Below w.heap.size w wr.drew):=below_drewL HW.out.1.be
     go_region_held3 (fun W=>W.cell? ⟨w.heap.size,0,none⟩=some (.int .i64 (x.wins.length:Int))∧W.cell? ⟨w.heap.size,1,none⟩=some (.slice A x.wins.length c)∧W.cell? ⟨gf,L,none⟩=some (.int .i64 z)) (first|exact ⟨qb0,qb1,qz⟩|exact ⟨H4.out.1.bx.1,H4.out.1.bx.2.1,(H4.out.1.atF HZR.out.1).2.1⟩) (first|(go_at_call 166;refine (HFC.out _ HBE.out).mono ?_;rintro e w4 ⟨rfl,hb⟩;have H4:Hid (Arr w w4 x A c T gf gm (rowF (fsts x s) p1 r) (rowF (snds x s) p2 r)∧Fr w4 wo.heap.size w4.heap.size (.slice (some ⟨b3,o3,none⟩) (memL s).length c3) (memL s)):=⟨HW.out.1.drew.below hb,((HW.out.2.drewN 1).grow hb).wide (Nat.le_refl _) hb.size (Nat.le_refl _)⟩;clear hb))
     clear qb0 qb1 qz qy HW HBE HFC
     obtain ⟨-,cs,fs_,stf⟩:=H4.out.1.atF (rowF_mid (fsts_len x s))
     obtain ⟨-,cms,fms,stm⟩:=H4.out.1.atM (rowF_mid (snds_len x s))
     obtain ⟨-,cL,-,-⟩:=H4.out.1.atF HZR.out.1
     obtain ⟨-,cmL,-,-⟩:=H4.out.1.atM HZR.out.2
     by_cases hA:p1<0
     ·have HR2:Hid (stepC (p1,p2) K z'=(K,z')):=by show _=_;rw [stepC,if_pos (.inl hA)]
      have HS1:Hid (Arr w (w4.setCell ⟨gf,s,none⟩ (.int .i64 K)) x A c T gf gm (rowF (fsts x s) K r) (rowF (snds x s) p2 r)):=by
       have h:=stf K
       rwa [rowF_set (fsts_len x s)] at h
      obtain ⟨-,cms2,fms2,stm2⟩:=HS1.out.atM (rowF_mid (snds_len x s))
      have HS2:Hid (Arr w ((w4.setCell ⟨gf,s,none⟩ (.int .i64 K)).setCell ⟨gm,s,none⟩ (.int .i64 z')) x A c T gf gm (rowF (fsts x s) K r) (rowF (snds x s) z' r)∧Fr ((w4.setCell ⟨gf,s,none⟩ (.int .i64 K)).setCell ⟨gm,s,none⟩ (.int .i64 z')) wo.heap.size ((w4.setCell ⟨gf,s,none⟩ (.int .i64 K)).setCell ⟨gm,s,none⟩ (.int .i64 z')).heap.size (.slice (some ⟨b3,o3,none⟩) (memL s).length c3) (memL s)):=by
       have h:=stm2 z'
       rw [rowF_set (snds_len x s)] at h
       exact ⟨h,(H4.out.2.cell1 HG.out.1).cell1 HG.out.2⟩
      clear stf stm stm2 HS1
      go_wp2
      exact ⟨⟨j+1,(K,z'),by omega,by go_num,by rw [HF.out.fo.out,HR2.out];exact rfl,HS2.out⟩,by simp [intOf];omega⟩
     ·by_cases hB:K<p1
      ·have HR2:Hid (stepC (p1,p2) K z'=(K,z')):=by show _=_;rw [stepC,if_pos (.inr hB)]
       have HS1:Hid (Arr w (w4.setCell ⟨gf,s,none⟩ (.int .i64 K)) x A c T gf gm (rowF (fsts x s) K r) (rowF (snds x s) p2 r)):=by
        have h:=stf K
        rwa [rowF_set (fsts_len x s)] at h
       obtain ⟨-,cms2,fms2,stm2⟩:=HS1.out.atM (rowF_mid (snds_len x s))
       have HS2:Hid (Arr w ((w4.setCell ⟨gf,s,none⟩ (.int .i64 K)).setCell ⟨gm,s,none⟩ (.int .i64 z')) x A c T gf gm (rowF (fsts x s) K r) (rowF (snds x s) z' r)∧Fr ((w4.setCell ⟨gf,s,none⟩ (.int .i64 K)).setCell ⟨gm,s,none⟩ (.int .i64 z')) wo.heap.size ((w4.setCell ⟨gf,s,none⟩ (.int .i64 K)).setCell ⟨gm,s,none⟩ (.int .i64 z')).heap.size (.slice (some ⟨b3,o3,none⟩) (memL s).length c3) (memL s)):=by
        have h:=stm2 z'
        rw [rowF_set (snds_len x s)] at h
        exact ⟨h,(H4.out.2.cell1 HG.out.1).cell1 HG.out.2⟩
       clear stf stm stm2 HS1
       go_wp2
       exact ⟨⟨j+1,(K,z'),by omega,by go_num,by rw [HF.out.fo.out,HR2.out];exact rfl,HS2.out⟩,by simp [intOf];omega⟩
      ·by_cases hE:K=p1
       ·have HR2:Hid (stepC (p1,p2) K z'=(p1,p2+z')):=by show _=_;rw [stepC,if_neg (by simp only;omega),if_pos hE]
        have HS2:Hid (Arr w (w4.setCell ⟨gm,s,none⟩ (.int .i64 (p2+z'))) x A c T gf gm (rowF (fsts x s) p1 r) (rowF (snds x s) (p2+z') r)∧Fr (w4.setCell ⟨gm,s,none⟩ (.int .i64 (p2+z'))) wo.heap.size (w4.setCell ⟨gm,s,none⟩ (.int .i64 (p2+z'))).heap.size (.slice (some ⟨b3,o3,none⟩) (memL s).length c3) (memL s)):=by
         have h:=stm (p2+z')
         rw [rowF_set (snds_len x s)] at h
         exact ⟨h,H4.out.2.cell1 HG.out.2⟩
        clear stf stm
        subst hE
        have eP:IntKind.i64.wrap (p2+z')=p2+z':=by rw [IntKind.wrap_i64];omega
        go_wp2
        go_region
        all_goals go_wp2
        exact ⟨⟨j+1,(K,p2+z'),by omega,by go_num,by rw [HF.out.fo.out,HR2.out];exact rfl,HS2.out.1.drew,HS2.out.2⟩,by simp [intOf];omega⟩
       ·have HR2:Hid (stepC (p1,p2) K z'=(p1,p2)):=by show _=_;rw [stepC,if_neg (by simp only;omega),if_neg hE]
        clear stf stm
        go_wp2
        exact ⟨⟨j+1,(p1,p2),by omega,by go_num,by rw [HF.out.fo.out,HR2.out];exact rfl,H4.out⟩,by simp [intOf];omega⟩
theorem OwS.wideLo {w:World}{lo lo' hi:Nat}{v:Value}{xss:List (List Int)} (h:OwS w lo hi v xss) (h1:lo'≤lo):OwS w lo' hi v xss:=by
 obtain ⟨vs,hl,ho,h2,h3,h4,h5,h6⟩:=h
 refine ⟨vs,hl,⟨ho.1,?_⟩,h2,Nat.le_trans h1 h3,h4,fun k u xs hu hx=>(h5 k u xs hu hx).wide h1 (Nat.le_refl _) h4,h6⟩
 rcases ho.2 with h|⟨g,cap,cur,rfl,hb,r⟩
 ·exact .inl h
 ·exact .inr ⟨g,cap,cur,rfl,Nat.le_trans h1 hb,r⟩
end Go.Proofs.YtkapoldjcpfdgaaGreatDoor
