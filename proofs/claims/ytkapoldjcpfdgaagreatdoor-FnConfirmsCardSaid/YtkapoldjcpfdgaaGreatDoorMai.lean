/- The code of a function from one of its regions on. -/
import Derived.Test.YtkapoldjcpfdgaaGreatDoorMah
set_option maxHeartbeats 4000000
set_option maxRecDepth 100000
namespace Go.Proofs.YtkapoldjcpfdgaaGreatDoor
open Go.ChangeShapes Go.WideShapes Go.ChangeAt Go.RowKit
structure ToAt (w W0 wr:World) (k:Nat) (xs:List Int):Prop where
 row:Fr wr (w.heap.size+1) (w.heap.size+2) (.slice (some ⟨w.heap.size+1,0,none⟩) k k) xs
 kp:Keep (w.heap.size+1) (w.heap.size+2) W0 wr
structure ToW (w W0:World) (k:Nat):Prop where
 b0:W0.cell? ⟨w.heap.size+2,0,none⟩=some (.int .i64 (k:Int))
 b1:W0.cell? ⟨w.heap.size+2,1,none⟩=some (.slice (some ⟨w.heap.size+1,0,none⟩) k k)
 z0:W0.cell? ⟨w.heap.size,0,none⟩=some (.int .i64 0)
 z1:W0.cell? ⟨w.heap.size,1,none⟩=some (.slice none 0 0)
 f0:W0.frozen? ⟨w.heap.size,0,none⟩=false
 f1:W0.frozen? ⟨w.heap.size,1,none⟩=false
 be:Below w.heap.size w W0
 sz:W0.heap.size=w.heap.size+3
 at0:ToAt w W0 W0 k (List.replicate k 0)
theorem ToAt.below {w W0 wr w2:World}{k:Nat}{xs:List Int} (h:ToAt w W0 wr k xs) (hb:Below wr.heap.size wr w2):ToAt w W0 w2 k xs:=
 ⟨h.row.grow hb,h.kp.trans (Keep.of_below hb (Nat.le_refl _))⟩
theorem ToAt.set {w W0 wr:World}{k a:Nat}{xs:List Int}{z:Int} (h:ToAt w W0 wr k xs) (hz:xs[a]? = some z):
  a<k∧wr.cell? ⟨w.heap.size+1,a,none⟩=some (.int .i64 z)∧wr.frozen? ⟨w.heap.size+1,a,none⟩=false∧∀y,ToAt w W0 (wr.setCell ⟨w.heap.size+1,a,none⟩ (.int .i64 y)) k (xs.set a y):=by
 have hk:=(List.getElem?_eq_some_iff.1 hz).1
 obtain ⟨g,z',e,hg1,hg2,hz',c1,f1,s1⟩:=h.row.at_ hk
 injection e with e
 injection e with e
 subst e
 obtain rfl:z=z':=by rw [hz] at hz';exact Option.some.inj hz'
 exact ⟨by rw [h.row.len];exact hk,c1,f1,fun y=>⟨(s1 y).1,h.kp.trans (s1 y).2⟩⟩
theorem Keep.drewK' {lo hi:Nat}{w w':World} (h:Keep lo hi w w'):Keep lo hi w w'.drew:=⟨h.os,h.tape,h.output,h.size,h.block⟩
theorem ToAt.drew {w W0 wr:World}{k:Nat}{xs:List Int} (h:ToAt w W0 wr k xs):ToAt w W0 wr.drew k xs:=⟨h.row,Keep.drewK' h.kp⟩
theorem ToAt.be {w W0 wr:World}{k:Nat}{xs:List Int} (h:ToAt w W0 wr k xs) (h0:ToW w W0 k):Below w.heap.size w wr:=h0.be.trans (h.kp.below (Nat.le_succ _) (by rw [h0.sz];omega))
theorem ToAt.cells {w W0 wr:World}{k:Nat}{xs:List Int} (h:ToAt w W0 wr k xs) (h0:ToW w W0 k):
  wr.cell? ⟨w.heap.size+2,0,none⟩=some (.int .i64 (k:Int))∧wr.cell? ⟨w.heap.size+2,1,none⟩=some (.slice (some ⟨w.heap.size+1,0,none⟩) k k) ∧
  wr.cell? ⟨w.heap.size,0,none⟩=some (.int .i64 0)∧wr.cell? ⟨w.heap.size,1,none⟩=some (.slice none 0 0)∧wr.frozen? ⟨w.heap.size,0,none⟩=false∧wr.frozen? ⟨w.heap.size,1,none⟩=false:=by
 have hs:=h0.sz
 exact ⟨(h.kp.cell (p:=⟨w.heap.size+2,0,none⟩) (by show w.heap.size+2<_;omega) (.inr (Nat.le_refl _))).trans h0.b0,
  (h.kp.cell (p:=⟨w.heap.size+2,1,none⟩) (by show w.heap.size+2<_;omega) (.inr (Nat.le_refl _))).trans h0.b1,
  (h.kp.cell (p:=⟨w.heap.size,0,none⟩) (by show w.heap.size<_;omega) (.inl (Nat.lt_succ_self _))).trans h0.z0,
  (h.kp.cell (p:=⟨w.heap.size,1,none⟩) (by show w.heap.size<_;omega) (.inl (Nat.lt_succ_self _))).trans h0.z1,
  (h.kp.frozen (p:=⟨w.heap.size,0,none⟩) (by show w.heap.size<_;omega) (.inl (Nat.lt_succ_self _))).trans h0.f0,
  (h.kp.frozen (p:=⟨w.heap.size,1,none⟩) (by show w.heap.size<_;omega) (.inl (Nat.lt_succ_self _))).trans h0.f1⟩
theorem toW_start {w w1:World}{k:Nat} (hfr:Fr w1 (w.alloc (.cells #[.int .i64 0,.slice none 0 0] 27)).heap.size w1.heap.size (.slice (some ⟨(w.alloc (.cells #[.int .i64 0,.slice none 0 0] 27)).heap.size,0,none⟩) k k) (List.replicate k 0))
  (hb:Below (w.alloc (.cells #[.int .i64 0,.slice none 0 0] 27)).heap.size (w.alloc (.cells #[.int .i64 0,.slice none 0 0] 27)) w1) (hsz:w1.heap.size=(w.alloc (.cells #[.int .i64 0,.slice none 0 0] 27)).heap.size+1):
  ToW w (w1.alloc (.cells #[.int .i64 (k:Int),.slice (some ⟨w.heap.size+1,0,none⟩) k k] 27)) k:=by
 have z1:(w.alloc (.cells #[.int .i64 0,.slice none 0 0] 27)).heap.size=w.heap.size+1:=World.size_alloc _ _
 have a0:(w.alloc (.cells #[.int .i64 0,.slice none 0 0] 27)).cell? ⟨w.heap.size,0,none⟩=some (.int .i64 0):=by simp
 have a1:(w.alloc (.cells #[.int .i64 0,.slice none 0 0] 27)).cell? ⟨w.heap.size,1,none⟩=some (.slice none 0 0):=by simp
 have g0:(w.alloc (.cells #[.int .i64 0,.slice none 0 0] 27)).frozen? ⟨w.heap.size,0,none⟩=false:=by rw [frozen?_alloc_cells];simp [World.frozen?]
 have g1:(w.alloc (.cells #[.int .i64 0,.slice none 0 0] 27)).frozen? ⟨w.heap.size,1,none⟩=false:=by rw [frozen?_alloc_cells];simp [World.frozen?]
 have b1:Below w.heap.size w (w.alloc (.cells #[.int .i64 0,.slice none 0 0] 27)):=(Below.refl _ w).alloc (Nat.le_refl _) _
 generalize w.alloc (.cells #[.int .i64 0,.slice none 0 0] 27)=W at *
 rw [z1] at hfr hsz
 have b2:Below w1.heap.size w1 (w1.alloc (.cells #[.int .i64 (k:Int),.slice (some ⟨w.heap.size+1,0,none⟩) k k] 27)):=(Below.refl _ w1).alloc (Nat.le_refl _) _
 have c0:(w1.alloc (.cells #[.int .i64 (k:Int),.slice (some ⟨w.heap.size+1,0,none⟩) k k] 27)).cell? ⟨w1.heap.size,0,none⟩=some (.int .i64 (k:Int)):=by simp
 have c1:(w1.alloc (.cells #[.int .i64 (k:Int),.slice (some ⟨w.heap.size+1,0,none⟩) k k] 27)).cell? ⟨w1.heap.size,1,none⟩=some (.slice (some ⟨w.heap.size+1,0,none⟩) k k):=by simp
 have s2:(w1.alloc (.cells #[.int .i64 (k:Int),.slice (some ⟨w.heap.size+1,0,none⟩) k k] 27)).heap.size=w1.heap.size+1:=World.size_alloc _ _
 generalize w1.alloc (.cells #[.int .i64 (k:Int),.slice (some ⟨w.heap.size+1,0,none⟩) k k] 27)=W0 at *
 have e1:w1.heap.size=w.heap.size+2:=by omega
 rw [e1] at c0 c1
 have b12:Below W.heap.size W W0:=hb.trans (b2.mono hb.size)
 have kz:Keep 0 0 W W0:=Keep.of_below b12 (Nat.le_refl _)
 refine ⟨c0,c1,(kz.cell (p:=⟨w.heap.size,0,none⟩) (by show w.heap.size<_;omega) (.inr (Nat.zero_le _))).trans a0,(kz.cell (p:=⟨w.heap.size,1,none⟩) (by show w.heap.size<_;omega) (.inr (Nat.zero_le _))).trans a1,
  (kz.frozen (p:=⟨w.heap.size,0,none⟩) (by show w.heap.size<_;omega) (.inr (Nat.zero_le _))).trans g0,(kz.frozen (p:=⟨w.heap.size,1,none⟩) (by show w.heap.size<_;omega) (.inr (Nat.zero_le _))).trans g1,
  b1.trans (b12.mono (by omega)),by omega,⟨?_,Keep.refl _ _ _⟩⟩
 rw [e1] at hfr
 exact hfr.grow (by rw [e1] at b2;rw [e1];exact b2)
def rwT (F:Nat→Nat→Bool) (a:Nat):Nat→Nat
 | 0=>0
 | b+1=>if a≠b∧F a b=true then rwT F a b+2^b else rwT F a b
def rwL (F:Nat→Nat→Bool) (k:Nat):List Int:=(List.range k).map (fun a=>((rwT F a k:Nat):Int))
theorem rwL_len (F:Nat→Nat→Bool) (k:Nat):(rwL F k).length=k:=by simp [rwL]
theorem rwL_at {F:Nat→Nat→Bool}{k a:Nat} (h:a<k):(rwL F k)[a]? = some ((rwT F a k:Nat):Int):=by simp [rwL,h]
theorem rwT_lt (F:Nat→Nat→Bool) (a:Nat):∀b,rwT F a b<2^b:=by
 intro b
 induction b with
 | zero=>exact Nat.one_pos
 | succ b ih=>
  rw [rwT,Nat.pow_succ]
  split<;>omega
def rwR (F:Nat→Nat→Bool) (k a:Nat) (v:Int):List Int:=(rwL F k).take a++v :: List.replicate (k-a-1) 0
theorem rwR_at {F:Nat→Nat→Bool}{k a:Nat}{v:Int} (h:a<k):(rwR F k a v)[a]? = some v:=by
 have hl:((rwL F k).take a).length=a:=by rw [List.length_take,rwL_len];omega
 rw [rwR,List.getElem?_append_right (by omega),hl,Nat.sub_self];rfl
theorem rwR_set {F:Nat→Nat→Bool}{k a:Nat}{v y:Int} (h:a<k):(rwR F k a v).set a y=rwR F k a y:=by
 have hl:((rwL F k).take a).length=a:=by rw [List.length_take,rwL_len];omega
 rw [rwR,List.set_append_right _ _ (by omega),hl,Nat.sub_self];rfl
theorem rwR_start (F:Nat→Nat→Bool) {k:Nat} (h:0<k):List.replicate k 0=rwR F k 0 0:=by
 obtain ⟨m,rfl⟩:∃m,k=m+1:=⟨k-1,by omega⟩
 simp [rwR,List.replicate_succ]
theorem rwR_next {F:Nat→Nat→Bool}{k a:Nat} (h:a+1<k):rwR F k a ((rwT F a k:Nat):Int)=rwR F k (a+1) 0:=by
 rw [rwR,rwR,take_snoc (rwL_at (show a<k by omega)),show k-a-1=(k-(a+1)-1)+1 by omega,List.replicate_succ]
 simp
theorem rwR_end {F:Nat→Nat→Bool}{k a:Nat} (h:a+1=k):rwR F k a ((rwT F a k:Nat):Int)=rwL F k:=by
 have e:(rwL F k).take (a+1)=rwL F k:=List.take_of_length_le (by rw [rwL_len];omega)
 have e2:=take_snoc (rwL_at (F:=F) (show a<k by omega))
 rw [rwR,show k-a-1=0 by omega]
 exact e2.symm.trans e
theorem tourOf_any (k:Nat) (G:FuncId) (caps:Array Value) (F:Nat→Nat→Bool) (w:World) (hk0:0<k) (hk:k≤8)
  (hG:∀(args:Array Value) (W:World),(callFunc G args).run Tryz.prog W=.ok (.enter G args) W)
  (hF:∀(W:World) (a b:Nat),Below w.heap.size w W→a<k→b<k→Calls Tryz.prog G (#[.int .i64 (a:Int),.int .i64 (b:Int)]++caps) W fun e W'=>e=.returned (.bool (F a b))∧Below W.heap.size W W'):
  Calls Tryz.prog 25 #[.int .i64 (k:Int),.func (.func G) #[] caps] w fun e w'=>∃v',e=.returned (.agg #[.int .i64 (k:Int),v'])∧Fr w' w.heap.size w'.heap.size v' (rwL F k)∧Below w.heap.size w w':=by
 have HF:=Lib.hid hF
 clear hF
 go_enter Tryz.func25,Tryz.ntmps25
 go_wp2_with (at_make;refine makeI rfl _ _ rfl _ k rfl rfl (by omega) ?_;intro w1 hfr hb hsz)
 have HW:=Lib.hid (toW_start hfr hb hsz)
 clear hfr hb hsz
 generalize w1.alloc (.cells #[.int .i64 (k:Int),.slice (some ⟨w.heap.size+1,0,none⟩) k k] 27)=W0 at *
 go_loopw [13] (fun i wr=>∃a:Nat,a≤k∧i=.int .i64 a∧Hid (ToAt w W0 wr k (if a<k then rwR F k a 0 else rwL F k))) (fun i _=>k-(intOf i).toNat)
 case atStart=>exact ⟨0,Nat.zero_le _,rfl,by rw [if_pos hk0,←rwR_start F hk0];exact HW.out.at0⟩
 case round=>
  obtain ⟨a,ha,rfl,HR⟩:=hrel
  obtain ⟨wo,rfl⟩:∃W,W=wr:=⟨wr,rfl⟩
  by_cases hlt:a<k
  case neg=>
   obtain rfl:a=k:=by omega
   rw [if_neg hlt] at HR
   obtain ⟨c0,c1,z0,z1,f0,f1⟩:=HR.out.cells HW.out
   go_wp2
   have KP:Keep w.heap.size (w.heap.size+1) wo ((wo.setCell ⟨w.heap.size,0,none⟩ (.int .i64 (a:Int))).setCell ⟨w.heap.size,1,none⟩ (.slice (some ⟨w.heap.size+1,0,none⟩) a a)):=
    ((Keep.refl _ _ _).setCell (p:=⟨w.heap.size,0,none⟩) (Nat.le_refl _) (Nat.lt_succ_self _) _).setCell (p:=⟨w.heap.size,1,none⟩) (Nat.le_refl _) (Nat.lt_succ_self _) _
   have hbe:=HR.out.be HW.out
   refine bodyPost_ret (v:=.agg #[.int .i64 (a:Int),.slice (some ⟨w.heap.size+1,0,none⟩) a a]) (by simp [results,Tryz.results25,go_sem,z0,z1]) rfl ⟨_,rfl,((HR.out.row.keep KP (.inr (Nat.le_refl _))).wide (by omega) (Nat.le_trans HR.out.row.2.2 KP.size) (Nat.le_refl _)),hbe.trans (KP.below (Nat.le_refl _) hbe.size)⟩
  rw [if_pos hlt] at HR
  go_wp2
  go_loopw [17] (fun i wr=>∃b:Nat,b≤k∧i=.int .i64 b∧Hid (ToAt w W0 wr k (rwR F k a ((rwT F a b:Nat):Int)))) (fun i _=>k-(intOf i).toNat)
  case atStart=>exact ⟨0,Nat.zero_le _,rfl,HR.out⟩
  case round=>
   obtain ⟨b,hb,rfl,HI⟩:=hrel
   clear HR
   by_cases hlt2:b<k
   case neg=>
    obtain rfl:b=k:=by omega
    have HN:Hid (ToAt w W0 wr b (if a+1<b then rwR F b (a+1) 0 else rwL F b)):=by
     show ToAt _ _ _ _ _
     have h:=HI.out
     by_cases h1:a+1<b
     ·rw [if_pos h1];rwa [rwR_next h1] at h
     ·rw [if_neg h1];rwa [rwR_end (by omega)] at h
    clear HI
    go_wp2
    go_roundw
    case rel=>exact ⟨a+1,by omega,by go_num,HN.out⟩
    case measure=>simp [intOf];omega
   by_cases hab:a=b
   ·subst hab
    have HX:Hid (rwT F a (a+1)=rwT F a a):=by show _=_;rw [rwT,if_neg (fun h=>h.1 rfl)]
    go_wp2
    go_roundw
    case rel=>exact ⟨a+1,by omega,by go_num,by rw [HX.out];exact HI.out⟩
    case measure=>simp [intOf];omega
   have hab2:((a:Int)==(b:Int))=false:=beq_eq_false_iff_ne.2 (by omega)
   have HC:=Lib.hid (HF.out wr a b (HI.out.be HW.out) hlt hlt2)
   cases hf:F a b
   ·have HX:Hid (rwT F a (b+1)=rwT F a b):=by show _=_;rw [rwT,if_neg (fun h=>by rw [hf] at h;cases h.2)]
    rw [hf] at HC
    clear hf
    go_wp2_with fail
    refine HC.out.mono ?_
    rintro e w2 ⟨rfl,hb2⟩
    have HI2:=Lib.hid (HI.out.below hb2)
    clear hb2
    go_wp2
    go_roundw
    case rel=>exact ⟨b+1,by omega,by go_num,by rw [HX.out];exact HI2.out⟩
    case measure=>simp [intOf];omega
   ·have hl:=rwT_lt F a b
    have HX:Hid (rwT F a (b+1)=rwT F a b ||| 2^b):=by show _=_;rw [rwT,if_pos ⟨hab,hf⟩,add_or8 (by omega) hl]
    rw [hf] at HC
    clear hf
    go_wp2_with fail
    refine HC.out.mono ?_
    rintro e w2 ⟨rfl,hb2⟩
    have HI2:=Lib.hid (HI.out.below hb2)
    clear hb2 HI
    obtain ⟨c0,c1,-,-,-,-⟩:=HI2.out.cells HW.out
    obtain ⟨-,r0,r1,rs⟩:=HI2.out.set (rwR_at hlt)
    have hQ128:(2:Nat)^b≤128:=by
     have h:∀b:Fin 8,(2:Nat)^b.val≤128:=by decide
     exact h ⟨b,by omega⟩
    have hor:=or_small (show rwT F a b<256 by omega) (show 2^b<256 by omega)
    have HS:Hid (ToAt w W0 (w2.setCell ⟨w.heap.size+1,a,none⟩ (.int .i64 ((rwT F a b ||| 2^b:Nat):Int))) k (rwR F k a ((rwT F a b ||| 2^b:Nat):Int))):=by
     have h:=rs ((rwT F a b ||| 2^b:Nat):Int)
     rwa [rwR_set hlt] at h
    have hsh:IntKind.i64.wrap ((2:Int)^b)=((2^b:Nat):Int):=by
     have h:∀k:Fin 8,IntKind.i64.wrap ((2:Int)^k.val)=((2^k.val:Nat):Int):=by decide +kernel
     exact h ⟨b,by omega⟩
    have hb64:(b:Int)<64:=by omega
    have hak:(a:Int)<k:=by omega
    obtain ⟨Q,hQ⟩:∃Q:Nat,2^b=Q:=⟨_,rfl⟩
    rw [hQ] at HX hor hsh hQ128 HS
    obtain ⟨O,hO⟩:∃O:Nat,rwT F a b ||| Q=O:=⟨_,rfl⟩
    rw [hO] at HX hor HS
    generalize rwT F a b=R at *
    clear hQ hO hl rs HC
    go_wp2
    go_region
    all_goals go_wp2
    exact ⟨⟨b+1,by omega,by go_num,by rw [HX.out];exact HS.out.drew⟩,by simp [intOf];omega⟩
theorem memL_pos {s:Nat} (h0:s≠0) (hs:s<256):0<(memL s).length:=by
 rcases Nat.eq_zero_or_pos (memL s).length with h|h
 ·exfalso
  apply h0
  refine bits_zero ⟨s,hs⟩ (fun a=>?_)
  cases hb:s.testBit a.val
  ·rfl
  ·have hm:((a.val:Nat):Int)∈memL s:=memT_mem.2 ⟨a.val,rfl,a.isLt,hb⟩
   have:=List.length_pos_of_mem hm
   omega
 ·exact h
def FF (x:TourV) (l:List Int) (a b:Nat):Bool:=bt x.wins (l.getD a 0).toNat (l.getD b 0).toNat
theorem part1_any (x:TourV) (hok:tourB x=true) (A:Option Addr) (c bq bl gl ol cl:Nat) (l:List Int) (a b p q:Nat) (W:World) (ha:l[a]? = some (p:Int)) (hb:l[b]? = some (q:Int)) (hp:p<x.wins.length) (hq:q<x.wins.length)
  (hi:InT W (.agg #[.int .i64 x.size,.slice A x.wins.length c]) x) (hQ:Bx W bq (.int .i64 x.size) (.slice A x.wins.length c)) (hL:W.cell? ⟨bl,0,none⟩=some (.slice (some ⟨gl,ol,none⟩) l.length cl)) (hbl:bl<W.heap.size)
  (hc:∀(k:Nat) (z:Int),l[k]? = some z→W.cell? ⟨gl,ol+k,none⟩=some (.int .i64 z)) (hgl:gl<W.heap.size):
  Calls Tryz.prog 154 #[.int .i64 (a:Int),.int .i64 (b:Int),.pointer (some ⟨bq,0,none⟩),.pointer (some ⟨bl,0,none⟩)] W fun e W'=>e=.returned (.bool (FF x l a b))∧Below W.heap.size W W':=by
 obtain ⟨t1,t2,t3,t4,_⟩:=tourB_t hok
 have hn8:x.wins.length≤8:=by omega
 have HI:=Lib.hid hi
 have HE:Hid (FF x l a b=bt x.wins p q):=by
  show _=_
  rw [FF,List.getD_eq_getElem?_getD,List.getD_eq_getElem?_getD,ha,hb];rfl
 have qa:=hc a _ ha
 have qb:=hc b _ hb
 have hal:=(List.getElem?_eq_some_iff.1 ha).1
 have hbl2:=(List.getElem?_eq_some_iff.1 hb).1
 have HBT:Hid (∀V,Below W.heap.size W V→Calls Tryz.prog 150 #[.agg #[.int .i64 x.size,.slice A x.wins.length c],.int .i64 (p:Int),.int .i64 (q:Int)] V fun e w'=>e=.returned (.bool (bt x.wins p q))∧Below V.heap.size V w'):=fun V hV=>implBeats_any _ x p q V (HI.out.below hV) hn8 t4 hp (by omega)
 obtain ⟨q0,q1,q2⟩:=id hQ
 have HCL:Hid (∀V,Below W.heap.size W V→V.cell? ⟨bq,0,none⟩=some (.int .i64 x.size)∧V.cell? ⟨bq,1,none⟩=some (.slice A x.wins.length c)∧V.cell? ⟨bl,0,none⟩=some (.slice (some ⟨gl,ol,none⟩) l.length cl)∧V.cell? ⟨gl,ol+a,none⟩=some (.int .i64 (p:Int))∧V.cell? ⟨gl,ol+b,none⟩=some (.int .i64 (q:Int))):=
  fun V h=>⟨(h.cell (p:=⟨bq,0,none⟩) q2).trans q0,(h.cell (p:=⟨bq,1,none⟩) q2).trans q1,(h.cell (p:=⟨bl,0,none⟩) hbl).trans hL,(h.cell (p:=⟨gl,ol+a,none⟩) hgl).trans qa,(h.cell (p:=⟨gl,ol+b,none⟩) hgl).trans qb⟩
 have HB0:Hid (Below W.heap.size W W.drew):=below_drewL (Below.refl _ _)
 have a1:(a:Int)<l.length:=by omega
 have b1:(b:Int)<l.length:=by omega
 generalize bt x.wins p q=R at *
 generalize l.length=n at *
 clear hi hc ha hb t4
 go_enter Tryz.func154,Tryz.ntmps154
 go_wp2_with fail
 go_region_held3 (fun V=>V.cell? ⟨bq,0,none⟩=some (.int .i64 x.size)∧V.cell? ⟨bq,1,none⟩=some (.slice A x.wins.length c)∧V.cell? ⟨bl,0,none⟩=some (.slice (some ⟨gl,ol,none⟩) n cl)∧V.cell? ⟨gl,ol+a,none⟩=some (.int .i64 (p:Int))∧V.cell? ⟨gl,ol+b,none⟩=some (.int .i64 (q:Int))) (first|exact ⟨q0,q1,hL,qa,qb⟩|exact HCL.out _ B1.out) (first
  | (go_at_call 150;refine (HBT.out _ HB0.out).mono ?_;rintro e w1 ⟨rfl,hb⟩;have B1:Hid (Below W.heap.size W w1):=HB0.out.trans (hb.mono HB0.out.size);clear hb))
 go_wp2
 go_ret
 exact ⟨ret_bool HE.out.symm,B1.out⟩
theorem rw_pw {x:TourV}{l:List Int}{a:Nat} (hirr:bt x.wins (l.getD a 0).toNat (l.getD a 0).toNat=false):∀b,rwT (FF x l) a b=pwT x l (l.getD a 0).toNat b:=by
 intro b
 induction b with
 | zero=>rfl
 | succ b ih=>
  rw [rwT,pwT,ih]
  by_cases hab:a=b
  ·subst hab
   rw [if_neg (fun h=>h.1 rfl),hirr];rfl
  ·by_cases h:bt x.wins (l.getD a 0).toNat (l.getD b 0).toNat=true
   ·rw [if_pos ⟨hab,h⟩,if_pos h]
   ·rw [if_neg (fun h2=>h h2.2),if_neg h]
theorem rwL_pw {x:TourV}{l:List Int} (h:∀(a:Nat) (y:Int),l[a]? = some y→bt x.wins y.toNat y.toNat=false):rwL (FF x l) l.length=pwL x l:=by
 apply List.ext_getElem?
 intro i
 rcases Nat.lt_or_ge i l.length with hi|hi
 ·have hy:l[i]? = some l[i]:=List.getElem?_eq_getElem hi
  have hd:l.getD i 0=l[i]:=by rw [List.getD_eq_getElem?_getD,hy];rfl
  rw [rwL_at hi,pwL_at hy,rw_pw (by rw [hd];exact h i _ hy),hd]
 ·rw [List.getElem?_eq_none (by rw [rwL_len];exact hi),List.getElem?_eq_none (by rw [pwL_len];exact hi)]
structure RzAt (w W:World) (y0 y1:Value):Prop where
 q0:W.cell? ⟨w.heap.size,0,none⟩=some y0
 q1:W.cell? ⟨w.heap.size,1,none⟩=some y1
 z0:W.cell? ⟨w.heap.size+1,0,none⟩=some (.int .i64 0)
 z1:W.cell? ⟨w.heap.size+1,1,none⟩=some (.slice none 0 0)
 f0:W.frozen? ⟨w.heap.size+1,0,none⟩=false
 f1:W.frozen? ⟨w.heap.size+1,1,none⟩=false
 q2:w.heap.size<W.heap.size
 z2:w.heap.size+1<W.heap.size
 be:Below w.heap.size w W
theorem RzAt.below {w W W2:World}{y0 y1:Value} (h:RzAt w W y0 y1) (hb:Below W.heap.size W W2):RzAt w W2 y0 y1:=by
 have kz:Keep 0 0 W W2:=Keep.of_below hb (Nat.le_refl _)
 exact ⟨(hb.cell (p:=⟨w.heap.size,0,none⟩) h.q2).trans h.q0,(hb.cell (p:=⟨w.heap.size,1,none⟩) h.q2).trans h.q1,(hb.cell (p:=⟨w.heap.size+1,0,none⟩) h.z2).trans h.z0,(hb.cell (p:=⟨w.heap.size+1,1,none⟩) h.z2).trans h.z1,
  (kz.frozen (p:=⟨w.heap.size+1,0,none⟩) h.z2 (.inr (Nat.zero_le _))).trans h.f0,(kz.frozen (p:=⟨w.heap.size+1,1,none⟩) h.z2 (.inr (Nat.zero_le _))).trans h.f1,Nat.lt_of_lt_of_le h.q2 hb.size,Nat.lt_of_lt_of_le h.z2 hb.size,h.be.trans (hb.mono h.be.size)⟩
theorem RzAt.bx {w W:World}{y0 y1:Value} (h:RzAt w W y0 y1):Bx W w.heap.size y0 y1:=⟨h.q0,h.q1,h.q2⟩
theorem rzStart {w:World}{y0 y1:Value}:RzAt w ((w.alloc (.cells #[y0,y1] 27)).alloc (.cells #[.int .i64 0,.slice none 0 0] 27)) y0 y1:=by
 have b1:Below w.heap.size w (w.alloc (.cells #[y0,y1] 27)):=(Below.refl _ w).alloc (Nat.le_refl _) _
 have z1:(w.alloc (.cells #[y0,y1] 27)).heap.size=w.heap.size+1:=World.size_alloc _ _
 have a0:(w.alloc (.cells #[y0,y1] 27)).cell? ⟨w.heap.size,0,none⟩=some y0:=by simp
 have a1:(w.alloc (.cells #[y0,y1] 27)).cell? ⟨w.heap.size,1,none⟩=some y1:=by simp
 generalize w.alloc (.cells #[y0,y1] 27)=W at *
 have b2:Below W.heap.size W (W.alloc (.cells #[.int .i64 0,.slice none 0 0] 27)):=(Below.refl _ W).alloc (Nat.le_refl _) _
 have c0:(W.alloc (.cells #[.int .i64 0,.slice none 0 0] 27)).cell? ⟨W.heap.size,0,none⟩=some (.int .i64 0):=by simp
 have c1:(W.alloc (.cells #[.int .i64 0,.slice none 0 0] 27)).cell? ⟨W.heap.size,1,none⟩=some (.slice none 0 0):=by simp
 have g0:(W.alloc (.cells #[.int .i64 0,.slice none 0 0] 27)).frozen? ⟨W.heap.size,0,none⟩=false:=by rw [frozen?_alloc_cells];simp [World.frozen?]
 have g1:(W.alloc (.cells #[.int .i64 0,.slice none 0 0] 27)).frozen? ⟨W.heap.size,1,none⟩=false:=by rw [frozen?_alloc_cells];simp [World.frozen?]
 have s2:(W.alloc (.cells #[.int .i64 0,.slice none 0 0] 27)).heap.size=W.heap.size+1:=World.size_alloc _ _
 rw [z1] at c0 c1 g0 g1
 exact ⟨(b2.cell (p:=⟨w.heap.size,0,none⟩) (by show w.heap.size<_;omega)).trans a0,(b2.cell (p:=⟨w.heap.size,1,none⟩) (by show w.heap.size<_;omega)).trans a1,c0,c1,g0,g1,by omega,by omega,b1.trans (b2.mono (by omega))⟩
theorem implPartTour_any (v:Value) (x:TourV) (s:Nat) (w:World) (hs:InT w v x) (hok:tourB x=true) (h0:s≠0) (hsl:s<2^x.wins.length):
  Calls Tryz.prog 70 #[v,.int .i64 (s:Int)] w fun e w'=>∃v',e=.returned (.tuple #[.agg #[.int .i64 ((memL s).length:Int),v'],.bool true])∧Fr w' w.heap.size w'.heap.size v' (pwL x (memL s))∧Below w.heap.size w w':=by
 have HIT:=Lib.hid hs
 have HOK:=Lib.hid hok
 obtain ⟨u,rfl,A,c,rfl,hc,hm,-⟩:=hs
 obtain ⟨t1,t2,t3,_,_⟩:=tourB_t hok
 have hn8:x.wins.length≤8:=by omega
 have h256:(2:Nat)^x.wins.length≤256:=Nat.pow_le_pow_right (by omega) hn8
 have hpos:1≤(2:Nat)^x.wins.length:=Nat.one_le_two_pow
 have hT2:(2:Int)^x.wins.length=((2^x.wins.length:Nat):Int):=by rw [Int.natCast_pow];rfl
 have HSZ:Hid (x.size=(x.wins.length:Int)):=t3.symm
 have HMB:Hid (∀(i:Nat) (y:Int),(memL s)[i]? = some y→∃p:Nat,y=(p:Int)∧p<x.wins.length):=fun i y hy=>by
  obtain ⟨p,e,_,hb⟩:=memT_mem.1 (List.mem_of_getElem? hy)
  exact ⟨p,e,bit_in hsl hb⟩
 have HPW:Hid (rwL (FF x (memL s)) (memL s).length=pwL x (memL s)):=rwL_pw (fun a y hy=>by
  obtain ⟨p,rfl,hp⟩:=HMB.out a y hy
  rw [Int.toNat_natCast];exact tourB_irr hok hp)
 have hs256:s<256:=by omega
 have hml:=memL_pos h0 hs256
 have hml8:(memL s).length≤8:=by rw [memL_len];exact cntL_le _
 have HTO:Hid (∀W,Below w.heap.size w W→Calls Tryz.prog 148 #[.agg #[.int .i64 x.size,.slice A x.wins.length c]] W fun e w'=>e=.returned (.bool true)∧Below W.heap.size W w'):=fun W hW=>by
  have h:=implTourOk_any _ x W (HIT.out.below hW)
  rwa [HOK.out] at h
 obtain ⟨T,HT⟩:∃T:Nat,Hid (2^x.wins.length=T):=⟨_,rfl⟩
 rw [HT.out] at h256 hpos hT2 hsl
 have hin:inB (s:Int) 1 ((T:Int)-1)=true:=inB_t.2 ⟨by omega,by omega⟩
 obtain ⟨eT,eT1⟩:=wrapT hpos h256
 have HWI:Hid (∀W,Calls Tryz.prog 147 #[.int .i64 (s:Int),.int .i64 1,.int .i64 ((T:Int)-1)] W fun e w'=>e=.returned (.bool true)∧W=w'):=fun W=>by
  have h:=within_any (s:Int) 1 ((T:Int)-1) W
  rwa [hin] at h
 have HRA:Hid (RzAt w ((w.alloc (.cells #[.int .i64 (x.wins.length:Int),.slice A x.wins.length c] 27)).alloc (.cells #[.int .i64 0,.slice none 0 0] 27)) (.int .i64 (x.wins.length:Int)) (.slice A x.wins.length c)):=rzStart
 rw [HSZ.out] at HTO
 rw [HSZ.out]
 clear hin t1 t2 t3 hok hsl hm
 go_enter Tryz.func70,Tryz.ntmps70
 go_wp2_with (first
  | (go_at_call 148;refine (HTO.out _ HRA.out.be).mono ?_;rintro e w1 ⟨rfl,hb⟩;have H1:=Lib.hid (HRA.out.below hb);clear hb HRA;obtain ⟨q0,q1,-,-,-,-,q2,-,-⟩:=id H1.out)
  | (go_at_call 147;refine (HWI.out _).mono ?_;rintro e w' ⟨rfl,rfl⟩)
  | (go_at_call 153;refine (membersOf_any s _ hs256).mono ?_;rintro e w3 ⟨v3,rfl,hf,hb⟩;have H3:=Lib.hid (H1.out.below hb);obtain ⟨g3,c3,rfl,hg3,hg4⟩:=hf.someC hml;have H3F:=Lib.hid (And.intro hf hg4);clear hf hb hg3 hg4 q0 q1 q2 H1;obtain ⟨q0,q1,-,-,-,-,q2,-,-⟩:=id H3.out))
 clear q0 q1 q2
 have HLL:Hid (∀(k:Nat) (z:Int),(memL s)[k]? = some z→w3.cell? ⟨g3,0+k,none⟩=some (.int .i64 z)):=fun k z hz=>by
  obtain ⟨b',o',y',e,hy',c1',_⟩:=H3F.out.1.sl.at_ (List.getElem?_eq_some_iff.1 hz).1
  injection e with e
  injection e with e1 e2
  subst e1;subst e2
  rw [hz] at hy'
  rw [c1',Option.some.inj hy']
 have hal:Below w3.heap.size w3 (w3.alloc (.cells #[.slice (some ⟨g3,0,none⟩) (memL s).length c3] 25)):=(Below.refl _ w3).alloc (Nat.le_refl _) _
 have H4:Hid (RzAt w (w3.alloc (.cells #[.slice (some ⟨g3,0,none⟩) (memL s).length c3] 25)) (.int .i64 (x.wins.length:Int)) (.slice A x.wins.length c) ∧
   (w3.alloc (.cells #[.slice (some ⟨g3,0,none⟩) (memL s).length c3] 25)).cell? ⟨w3.heap.size,0,none⟩=some (.slice (some ⟨g3,0,none⟩) (memL s).length c3)∧w3.heap.size<(w3.alloc (.cells #[.slice (some ⟨g3,0,none⟩) (memL s).length c3] 25)).heap.size ∧
   (∀(k:Nat) (z:Int),(memL s)[k]? = some z→(w3.alloc (.cells #[.slice (some ⟨g3,0,none⟩) (memL s).length c3] 25)).cell? ⟨g3,0+k,none⟩=some (.int .i64 z))∧g3<(w3.alloc (.cells #[.slice (some ⟨g3,0,none⟩) (memL s).length c3] 25)).heap.size):=
  ⟨H3.out.below hal,by simp,by simp,fun k z hz=>(hal.cell (p:=⟨g3,0+k,none⟩) H3F.out.2).trans (HLL.out k z hz),Nat.lt_of_lt_of_le H3F.out.2 hal.size⟩
 clear hal
 generalize (w3.alloc (.cells #[.slice (some ⟨g3,0,none⟩) (memL s).length c3] 25))=w4 at *
 refine (tourOf_any (memL s).length 154 #[.pointer (some ⟨w.heap.size,0,none⟩),.pointer (some ⟨w3.heap.size,0,none⟩)] (FF x (memL s)) w4 hml hml8 (fun _ _=>by kernel_rfl) (fun W a b hW ha hb=>?_)).mono ?_
 ·obtain ⟨p,ep,hp⟩:=HMB.out a _ (List.getElem?_eq_getElem ha)
  obtain ⟨q,eq,hq⟩:=HMB.out b _ (List.getElem?_eq_getElem hb)
  have h5:=H4.out.1.below hW
  exact part1_any x HOK.out A c w.heap.size w3.heap.size g3 0 c3 (memL s) a b p q W (by rw [←ep];exact List.getElem?_eq_getElem ha) (by rw [←eq];exact List.getElem?_eq_getElem hb) hp hq (HIT.out.below h5.be) (by rw [HSZ.out];exact h5.bx)
   ((hW.cell (p:=⟨w3.heap.size,0,none⟩) H4.out.2.2.1).trans H4.out.2.1) (Nat.lt_of_lt_of_le H4.out.2.2.1 hW.size) (fun k z hz=>(hW.cell (p:=⟨g3,0+k,none⟩) H4.out.2.2.2.2).trans (H4.out.2.2.2.1 k z hz)) (Nat.lt_of_lt_of_le H4.out.2.2.2.2 hW.size)
 ·rintro e w5 ⟨v5,rfl,hf5,hb5⟩
  have H5:=Lib.hid (H4.out.1.below hb5)
  have H5F:Hid (Fr w5 w4.heap.size w5.heap.size v5 (pwL x (memL s))):=by rw [←HPW.out];exact hf5
  clear hb5 hf5
  obtain ⟨A5,c5,e5,-⟩:=H5F.out.form
  rw [pwL_len] at e5
  subst e5
  obtain ⟨q0,q1,z0,z1,f0,f1,q2,z2,-⟩:=id H5.out
  go_wp2
  have KP:Keep (w.heap.size+1) (w.heap.size+2) w5 ((w5.setCell ⟨w.heap.size+1,0,none⟩ (.int .i64 ((memL s).length:Int))).setCell ⟨w.heap.size+1,1,none⟩ (.slice A5 (memL s).length c5)):=
   ((Keep.refl _ _ _).setCell (p:=⟨w.heap.size+1,0,none⟩) (Nat.le_refl _) (Nat.lt_succ_self _) _).setCell (p:=⟨w.heap.size+1,1,none⟩) (Nat.le_refl _) (Nat.lt_succ_self _) _
  have h4z:=H4.out.1.z2
  refine bodyPost_ret (v:=.tuple #[.agg #[.int .i64 ((memL s).length:Int),.slice A5 (memL s).length c5],.bool true]) (by simp [results,Tryz.results70,go_sem,z0,z1]) rfl ⟨_,rfl,((H5F.out.keep KP (.inr (by omega))).wide (by omega) (Nat.le_trans H5F.out.2.2 KP.size) (Nat.le_refl _)),H5.out.be.trans (KP.below (Nat.le_succ _) H5.out.be.size)⟩
def leftRegK:Code→Option Nat
 | .region k _ _=>some k
 | .seq a _=>leftRegK a
 | _=>none
def codeAtK (r:Nat):Code→List Code
 | .seq a b=>if leftRegK a=some r then [.seq a b] else codeAtK r a++codeAtK r b
 | .block _ c=>codeAtK r c
 | .scope c=>codeAtK r c
 | .cond _ a b=>codeAtK r a++codeAtK r b
 | .loop c=>codeAtK r c
 | _=>[]
end Go.Proofs.YtkapoldjcpfdgaaGreatDoor
