/- Numbers read from a text: the program's walks. -/
import Derived.Lib.IndexLaws
import Derived.Sort.QuietIn
import Derived.Sort.CutIn
import Derived.Test.YtkapoldjcpfdgaaGreatDoorMas
set_option maxHeartbeats 8000000
set_option maxRecDepth 100000
namespace Go.Proofs.YtkapoldjcpfdgaaGreatDoor
open Go.ChangeShapes Go.WideShapes Go.ChangeAt Go.RowKit
attribute [local go_sem] Oper.semAt_some
def errP (w:World):Prop:=(∃t p,w.cell? ⟨4,0,none⟩=some (.iface t p))∧∃t p,w.cell? ⟨5,0,none⟩=some (.iface t p)
theorem errP.below {B:Nat}{w w':World} (h:errP w) (hb:Below B w w') (hB:w.heap.size≤B):errP w':=by
 obtain ⟨⟨t,p,h1⟩,t2,p2,h2⟩:=h
 have hb2:Below w.heap.size w w':=hb.mono hB
 exact ⟨⟨t,p,(hb2.cell (p:=⟨4,0,none⟩) (block_lt_of_cell h1)).trans h1⟩,t2,p2,(hb2.cell (p:=⟨5,0,none⟩) (block_lt_of_cell h2)).trans h2⟩
theorem atoi_any (s:ByteArray) (w:World) (hs:s.size≤1048576) (he:errP w):
  Calls Tryz.prog 238 #[.string s] w fun e w'=>((∃v,Lib.atoiAll s.data.toList=.ok v∧e=.returned (.tuple #[.int .i64 v,.nilIface]))∨((∀v,Lib.atoiAll s.data.toList≠.ok v)∧∃v t p,e=.returned (.tuple #[.int .i64 v,.iface t p])))∧Below w.heap.size w w':=by
 obtain ⟨⟨t,p,h1⟩,t2,p2,h2⟩:=he
 cases ha:Lib.atoiAll s.data.toList with
 | ok v=>
  refine (Tryz.strconv_Atoi_ok s (by omega) v ha w).mono ?_
  rintro e w' ⟨rfl,(rfl|⟨r,rfl⟩)⟩
  ·exact ⟨.inl ⟨v,rfl,rfl⟩,Below.refl _ _⟩
  ·exact ⟨.inl ⟨v,rfl,rfl⟩,Joins.below_bytesWorld _ _ _ _ (Nat.le_refl _)⟩
 | «syntax»=>
  refine (Tryz.strconv_Atoi_syntax s (by omega) ha _ w h1 (.inr ⟨t,p,rfl⟩)).mono ?_
  rintro e w' ⟨N,rfl,_,_,hb⟩
  exact ⟨.inr ⟨(fun v h=>by cases h),_,_,_,rfl⟩,hb⟩
 | range=>
  refine (Tryz.strconv_Atoi_range s (by omega) ha _ w h2 (.inr ⟨t2,p2,rfl⟩)).mono ?_
  rintro e w' ⟨N,rfl,_,_,hb⟩
  exact ⟨.inr ⟨(fun v h=>by cases h),_,_,_,rfl⟩,hb⟩
theorem implParseInt_any (s:ByteArray) (w:World) (hs:s.size≤1048576) (he:errP w) (ht:tabP w):
  Calls Tryz.prog 146 #[.string s] w fun e w'=>e=.returned (.tuple #[.int .i64 ((numOf s.data.toList).getD 0),.bool (numOf s.data.toList).isSome])∧Below w.heap.size w w':=by
 have HA:=Lib.hid (atoi_any s w hs he)
 have HT:=Lib.hid ht
 clear he ht
 go_enter Tryz.func146,Tryz.ntmps146
 go_wp2_with fail
 refine HA.out.mono ?_
 rintro e w1 ⟨(⟨v,hv,rfl⟩|⟨hv,v,t,p,rfl⟩),hb⟩
 ·obtain ⟨v0,v1⟩:=Lib.atoiAll_bounds hv
  have HN:Hid (numOf s.data.toList=if Lib.itoa v=s.data.toList then some v else none):=numOf_ok hv
  have HF:=Lib.hid (implFormatInt_any v w1 v0 v1 (HT.out.below hb (Nat.le_refl _)))
  have HB:=Lib.hid hb
  clear hv hb
  by_cases hi:Lib.itoa v=s.data.toList
  ·have HO:Hid (numOf s.data.toList=some v):=by show _=_;rw [HN.out,if_pos hi]
   have hse:(⟨(Lib.itoa v).toArray⟩:ByteArray)=s:=by rw [hi]
   go_wp2_with (go_at_call 13;refine HF.out.mono ?_;rintro e w2 ⟨rfl,hb2⟩;rw [hse];have HB2:Hid (Below w.heap.size w w2):=HB.out.trans (hb2.mono HB.out.size);clear hb2)
   go_ret2
   exact ⟨by rw [HO.out];rfl,HB2.out⟩
  ·have HO:Hid (numOf s.data.toList=none):=by show _=_;rw [HN.out,if_neg hi]
   have hse:=str_ne hi
   go_wp2_with (go_at_call 13;refine HF.out.mono ?_;rintro e w2 ⟨rfl,hb2⟩;have HB2:Hid (Below w.heap.size w w2):=HB.out.trans (hb2.mono HB.out.size);clear hb2)
   go_ret2
   exact ⟨by rw [HO.out];rfl,HB2.out⟩
 ·have HO:Hid (numOf s.data.toList=none):=numOf_bad hv
  have HB:=Lib.hid hb
  clear hv hb
  go_wp2
  go_ret2
  exact ⟨by rw [HO.out];rfl,HB.out⟩
theorem keep_one (W:World) (b:Nat) (u:Value):Keep b (b+1) W (W.setCell ⟨b,0,none⟩ u):=(Keep.refl _ _ _).setCell (p:=⟨b,0,none⟩) (Nat.le_refl _) (Nat.lt_succ_self _) _
structure PiS (W0 W:World) (b:Nat) (r:Loop) (tx:ByteArray) (v:Value) (R:List Int):Prop where
 fix:∀k,k<b+8→k≠b+2→k≠b+3→k≠b+7→W.heap[k]? = W0.heap[k]?
 env:W.os=W0.os∧W.tape=W0.tape∧W.output=W0.output
 sz:b+8≤W.heap.size
 ho:W.heap[b+2]? = some (.cells #[v] 25 (0,0))
 hs:W.heap[b+3]? = some (.cells #[.string tx] 9 (0,0))
 hl:W.heap[b+7]? = some (.loop r)
 own:W.ownsRow (b+8) 3 1 v R.length (ints R)
structure PiE (W0 W:World) (b:Nat):Prop where
 fix:∀k,k<b→W.heap[k]? = W0.heap[k]?
 env:W.os=W0.os∧W.tape=W0.tape∧W.output=W0.output
 sz:b+8≤W.heap.size
 h0:W.heap[b]? = some (.cells #[.slice none 0 0] 25 (0,0))
 h1:W.heap[b+1]? = some (.cells #[.bool false] 4 (0,0))
 h6:W.heap[b+6]? = W0.heap[b+6]?
structure PiC (W0:World) (b:Nat):Prop where
 c0:W0.heap[b]? = some (.cells #[.slice none 0 0] 25 (0,0))
 c1:W0.heap[b+1]? = some (.cells #[.bool false] 4 (0,0))
 c4:W0.heap[b+4]? = some (.cells #[.string ⟨#[44]⟩] 9 (0,0))
 c5:W0.heap[b+5]? = some (.cells #[.int .i64 0] 3 (0,0))
theorem PiS.below {W0 W W':World}{b:Nat}{r:Loop}{tx:ByteArray}{v:Value}{R:List Int} (h:PiS W0 W b r tx v R) (hb:Below W.heap.size W W'):PiS W0 W' b r tx v R:=by
 have hz:=h.sz
 have blk:∀k,k<b+8→W'.heap[k]? = W.heap[k]?:=fun k hk=>hb.block k (by omega)
 exact ⟨fun k hk h1 h2 h3=>(blk k hk).trans (h.fix k hk h1 h2 h3),⟨hb.os.trans h.env.1,hb.tape.trans h.env.2.1,hb.output.trans h.env.2.2⟩,Nat.le_trans hz hb.size,(blk _ (by omega)).trans h.ho,(blk _ (by omega)).trans h.hs,(blk _ (by omega)).trans h.hl,ownZ_below h.own hb⟩
theorem own_keep1 {W W':World}{b k:Nat}{v:Value}{R:List Int} (h:W.ownsRow (b+8) 3 1 v R.length (ints R)) (hk:Keep k (k+1) W W') (hkb:k<b+8):W'.ownsRow (b+8) 3 1 v R.length (ints R):=
 ownsRow_keep (l2:=k) (h2:=k+1) (lo:=b+8) (hi:=W.heap.size) h (fun g hg=>(h.lt g hg).2) (Nat.le_refl _) hk (.inr (by omega))
theorem PiS.putRec {W0 W:World}{b:Nat}{r r':Loop}{tx:ByteArray}{v:Value}{R:List Int} (h:PiS W0 W b r tx v R):PiS W0 (W.putObj (b+7) (.loop r')) b r' tx v R:=by
 have KP:Keep (b+7) (b+7+1) W (W.putObj (b+7) (.loop r')):=⟨rfl,rfl,rfl,by simp,fun k _ hk=>World.putObj_heap_other (by omega)⟩
 have blk:∀k,k≠b+7→(W.putObj (b+7) (.loop r')).heap[k]? = W.heap[k]?:=fun k hk=>World.putObj_heap_other hk
 exact ⟨fun k hk h1 h2 h3=>(blk k h3).trans (h.fix k hk h1 h2 h3),h.env,by rw [World.putObj_size];exact h.sz,(blk _ (by omega)).trans h.ho,(blk _ (by omega)).trans h.hs,World.putObj_heap_same (Array.getElem?_eq_some_iff.1 h.hl).1,own_keep1 h.own KP (by omega)⟩
theorem PiS.putText {W0 W:World}{b:Nat}{r:Loop}{tx:ByteArray}{v:Value}{R:List Int} (h:PiS W0 W b r tx v R) (ty:ByteArray):PiS W0 (W.setCell ⟨b+3,0,none⟩ (.string ty)) b r ty v R:=by
 have KP:=keep_one W (b+3) (.string ty)
 have hz:=h.sz
 have blk:∀k,k<b+8→k≠b+3→(W.setCell ⟨b+3,0,none⟩ (.string ty)).heap[k]? = W.heap[k]?:=fun k hk hne=>KP.block k (by omega) (by omega)
 exact ⟨fun k hk h1 h2 h3=>(blk k hk h2).trans (h.fix k hk h1 h2 h3),h.env,Nat.le_trans hz KP.size,(blk _ (by omega) (by omega)).trans h.ho,box_set h.hs,(blk _ (by omega) (by omega)).trans h.hl,own_keep1 h.own KP (by omega)⟩
theorem PiS.putOut {W0 W W':World}{b:Nat}{r:Loop}{tx:ByteArray}{v v':Value}{R R':List Int} (h:PiS W0 W b r tx v R) (hb:Below (b+8) W W') (ho:W'.ownsRow (b+8) 3 1 v' R'.length (ints R')):PiS W0 (W'.setCell ⟨b+2,0,none⟩ v') b r tx v' R':=by
 have KP:=keep_one W' (b+2) v'
 have hz:=Nat.le_trans h.sz hb.size
 have blk:∀k,k<b+8→k≠b+2→(W'.setCell ⟨b+2,0,none⟩ v').heap[k]? = W.heap[k]?:=fun k hk hne=>(KP.block k (by omega) (by omega)).trans (hb.block k hk)
 exact ⟨fun k hk h1 h2 h3=>(blk k hk h1).trans (h.fix k hk h1 h2 h3),⟨KP.os.trans (hb.os.trans h.env.1),KP.tape.trans (hb.tape.trans h.env.2.1),KP.output.trans (hb.output.trans h.env.2.2)⟩,Nat.le_trans hz KP.size,box_set ((hb.block _ (by omega)).trans h.ho),(blk _ (by omega) (by omega)).trans h.hs,(blk _ (by omega) (by omega)).trans h.hl,own_keep1 ho KP (by omega)⟩
def RoundsPn (W0:World) (b:Nat) (r:Loop):Prop:=
 ∀(m:Nat) (W:World) (x tx:ByteArray) (v:Value) (R:List Int),x.size≤1048576→R.length≤40→PiS W0 W b r tx v R →
  YieldAt Fence.wide m Tryz.prog (b+7) #[.string x] W (fun e W'=>(e=.returned (.bool true)∧∃n v',numOf x.data.toList=some n∧¬R.length=40∧PiS W0 W' b r tx v' (R++[n])) ∨
   (e=.returned (.bool false)∧(numOf x.data.toList=none∨R.length=40)∧PiE W0 W' b∧W'.heap[b+7]? = some (.loop { r with state:=.done,pending:=some .ret })))
theorem pnU_bad {x:List UInt8}{R:List Int} (h:numOf x=none∨R.length=40) (ws:List (List UInt8)):pnU R (x :: ws)=none:=by
 rw [pnU]
 rcases h with h|h
 ·rw [h]
 ·cases numOf x with
  | none=>rfl
  | some n=>simp [h]
theorem pnU_good {x:List UInt8}{R:List Int}{n:Int} (h:numOf x=some n) (h2:¬R.length=40) (ws:List (List UInt8)):pnU R (x :: ws)=pnU (R++[n]) ws:=by
 rw [pnU,h];simp [h2]
theorem cut_hit {l:List UInt8}{s:UInt8}{k:Nat} (h:Lib.indexByte l s=(k:Int)):cutB s l=l.take k :: cutB s (l.drop (k+1))∧k<l.length:=by
 obtain ⟨h1,h2⟩:=Lib.indexByte_some h
 refine ⟨cutB_at (fun hm=>?_) h1,(List.getElem?_eq_some_iff.1 h1).1⟩
 obtain ⟨i,hi,e⟩:=List.mem_take_iff_getElem.1 hm
 exact h2 i (by omega) (by rw [List.getElem?_eq_getElem (by omega),e])
theorem cut_miss {l:List UInt8}{s:UInt8} (h:Lib.indexByte l s = -1):cutB s l = [l]:=
 cutB_none fun hm=>by
  obtain ⟨k,hk⟩:=List.getElem?_of_mem hm
  exact Lib.indexByte_none h k hk
theorem splitIter_in {W0:World}{b m:Nat}{r:Loop}{l:List UInt8} (C:PiC W0 b) (hY:RoundsPn W0 b r) (W:World) (tx:ByteArray) (v:Value) (hl:tx.data.toList=l) (hz:tx.size≤1048576) (H:PiS W0 W b r tx v []):
  CallsIn Fence.wide m Tryz.prog 370 #[.func (.yield (b+7)) #[] #[],.pointer (some ⟨b+4,0,none⟩),.pointer (some ⟨b+3,0,none⟩),.pointer (some ⟨b+5,0,none⟩)] W
   (fun e W'=>(∃u,e=.returned u)∧((∃ty v' R,pnU [] (cutB 44 l)=some R∧PiS W0 W' b r ty v' R)∨(pnU [] (cutB 44 l)=none∧PiE W0 W' b∧W'.heap[b+7]? = some (.loop { r with state:=.done,pending:=some .ret })))):=by
 have HW:=Lib.hid H
 have HC:=Lib.hid C
 have HYH:=Lib.hid hY
 have c4:=(cell_heap (o:=0) (H.fix (b+4) (by omega) (by omega) (by omega) (by omega))).trans (box_cell C.c4).1
 have hmx:Tryz.prog.follows .mixedOrders=true:=by kernel_rfl
 clear H C hY
 refine callsIn_of_wp Tryz.func370 rfl trivial ?_ rfl
 simp only [Tryz.ntmps370,List.size_toArray,List.length_cons,List.length_nil,Nat.reduceAdd,Nat.reduceSub,Array.replicate_succ,Array.replicate_zero,List.push_toArray,List.append_toArray,List.nil_append,List.cons_append]
 gi_wp2
 clear c4
 gi_loopg [7,8] (tx.size+1) (fun gk i f wr=>∃(ty:ByteArray) (v:Value) (R:List Int),Hid (pnU [] (cutB 44 l)=pnU R (cutB 44 ty.data.toList)∧R.length≤40∧ty.size<gk∧ty.size≤1048576)∧Hid (PiS W0 wr b r ty v R))
 case atStart=>exact ⟨tx,v,[],⟨by rw [hl],by simp,by omega,hz⟩,HW.out⟩
 case round=>
  obtain ⟨ty,v2,R,HU,HR⟩:=hrel
  clear HW
  have HIX:=Lib.hid ((Tryz.strings_Index_one ty 44 wr).mono (R':=fun e w'=>e=.returned (.int .i64 (Lib.indexByte ty.data.toList 44))∧wr=w') fun _ _ h=>⟨h.1,h.2.symm⟩)
  have hzt:=HU.out.2.2.2
  obtain ⟨cs,fs⟩:=box_cell HR.out.hs
  have c4:=(cell_heap (o:=0) (HR.out.fix (b+4) (by omega) (by omega) (by omega) (by omega))).trans (box_cell HC.out.c4).1
  have c5:=(cell_heap (o:=0) (HR.out.fix (b+5) (by omega) (by omega) (by omega) (by omega))).trans (box_cell HC.out.c5).1
  have hge:=Lib.indexByte_ge ty.data.toList 44
  by_cases hm:Lib.indexByte ty.data.toList 44 = -1
  ·have HCM:=Lib.hid (cut_miss hm)
   rw [hm] at HIX
   clear hm hge
   obtain ⟨fn,tmps,assign,body,hy,hR⟩:=HYH.out (m-1) wr ty ty v2 R hzt HU.out.2.1 HR.out
   have hRH:=Lib.hid hR
   clear hR
   gi_wp2_with (first
    | ((first|refine ⟨trivial,fun h=>(by cases h),?_⟩|refine ⟨trivial,?_⟩);gi_at_call 144;refine (callsIn_wide.2 HIX.out).mono ?_;rintro e w2 ⟨rfl,rfl⟩))
   refine ⟨fun h=>(by cases h),hRH.out.mono ?_⟩
   rintro e W' (⟨rfl,n,v',h1,h2,h3⟩|⟨rfl,h1,h2,h3⟩)
   ·have HE:Hid (pnU [] (cutB 44 l)=some (R++[n])):=by
     show _=_
     rw [HU.out.1,HCM.out,pnU_good h1 h2];rfl
    have H3:=Lib.hid h3
    clear h1 h2 h3
    gi_wp2
    go_end0
    exact ⟨⟨_,rfl⟩,.inl ⟨ty,v',R++[n],HE.out,H3.out⟩⟩
   ·have HE:Hid (pnU [] (cutB 44 l)=none):=by
     show _=_
     rw [HU.out.1,HCM.out,pnU_bad h1]
    have H3:=Lib.hid (And.intro h2 h3)
    clear h1 h2 h3
    gi_wp2
    go_end0
    exact ⟨⟨_,rfl⟩,.inr ⟨HE.out,H3.out⟩⟩
  ·obtain ⟨k,hk⟩:=Int.eq_ofNat_of_zero_le (show 0≤Lib.indexByte ty.data.toList 44 by omega)
   obtain ⟨hcut,hkl⟩:=cut_hit hk
   have HCU:=Lib.hid hcut
   have hks:k<ty.size:=by simpa using hkl
   rw [hk] at HIX
   clear hm hge hcut hkl hk
   have hxs:(ty.extract 0 k).size≤1048576:=by simp;omega
   have HXL:Hid ((ty.extract 0 k).data.toList=ty.data.toList.take k):=by show _=_;rw [ext_list ty 0 k (by omega)];simp
   have HXR:Hid ((ty.extract (k+1) ty.size).data.toList=ty.data.toList.drop (k+1)∧(ty.extract (k+1) ty.size).size<ty.size):=⟨by rw [ext_list ty (k+1) ty.size (Nat.le_refl _)];exact List.take_of_length_le (by simp),by simp;omega⟩
   obtain ⟨fn,tmps,assign,body,hy,hR⟩:=HYH.out (m-1) wr (ty.extract 0 k) ty v2 R hxs HU.out.2.1 HR.out
   have hRH:=Lib.hid hR
   clear hR hxs
   gi_wp2_with (first
    | ((first|refine ⟨trivial,fun h=>(by cases h),?_⟩|refine ⟨trivial,?_⟩);gi_at_call 144;refine (callsIn_wide.2 HIX.out).mono ?_;rintro e w2 ⟨rfl,rfl⟩))
   refine ⟨fun h=>(by cases h),hRH.out.mono ?_⟩
   rintro e W' (⟨rfl,n,v',h1,h2,h3⟩|⟨rfl,h1,h2,h3⟩)
   ·have HE:Hid (pnU [] (cutB 44 l)=pnU (R++[n]) (cutB 44 (ty.extract (k+1) ty.size).data.toList)∧(R++[n]).length≤40):=by
     have h4:=HU.out.2.1
     rw [HXL.out] at h1
     refine ⟨?_,by rw [List.length_append,List.length_singleton];omega⟩
     rw [HU.out.1,HCU.out,pnU_good h1 h2,HXR.out.1]
    have H3:=Lib.hid h3
    have H4:=Lib.hid (h3.putText (ty.extract (k+1) ty.size))
    have hks2:=HXR.out.2
    have hgk:=HU.out.2.2.1
    clear h1 h2 cs fs c4 c5
    obtain ⟨cs,fs⟩:=box_cell H3.out.hs
    have c4:=(cell_heap (o:=0) (H3.out.fix (b+4) (by omega) (by omega) (by omega) (by omega))).trans (box_cell HC.out.c4).1
    clear h3
    gi_wp2
    gi_roundg (ty.size)
    case measure=>omega
    case rel=>exact ⟨_,v',R++[n],⟨HE.out.1,HE.out.2,hks2,by omega⟩,H4.out⟩
   ·have HE:Hid (pnU [] (cutB 44 l)=none):=by
     show _=_
     rw [HXL.out] at h1
     rw [HU.out.1,HCU.out,pnU_bad h1]
    have H3:=Lib.hid (And.intro h2 h3)
    clear h1 h2 h3
    gi_wp2
    refine bodyPost_ret (results_none rfl _ _ _) rfl ?_
    exact ⟨⟨_,rfl⟩,.inr ⟨HE.out,H3.out⟩⟩
theorem splitSeq_any (s sep:ByteArray) (w:World):
  Calls Tryz.prog 247 #[.string s,.string sep] w fun e w'=>e=.returned (.func (.func 370) #[] #[.pointer (some ⟨w.heap.size+1,0,none⟩),.pointer (some ⟨w.heap.size,0,none⟩),.pointer (some ⟨w.heap.size+1+1,0,none⟩)])∧w'=((w.alloc (.cells #[.string s] 9)).alloc (.cells #[.string sep] 9)).alloc (.cells #[.int .i64 0] 3):=by
 have h:Calls Tryz.prog 327 #[.string s,.string sep,.int .i64 0] w fun e w'=>e=.returned (.func (.func 370) #[] #[.pointer (some ⟨w.heap.size+1,0,none⟩),.pointer (some ⟨w.heap.size,0,none⟩),.pointer (some ⟨w.heap.size+1+1,0,none⟩)])∧w'=((w.alloc (.cells #[.string s] 9)).alloc (.cells #[.string sep] 9)).alloc (.cells #[.int .i64 0] 3):=by
  go_enter Tryz.func327,Tryz.ntmps327
  go_wp2
  go_ret
  exact ⟨rfl,rfl⟩
 go_enter Tryz.func247,Tryz.ntmps247
 go_wp2_with (go_at_call 327;refine h.mono ?_;rintro e w2 ⟨rfl,rfl⟩)
 go_ret
 exact ⟨rfl,rfl⟩
structure PiQ (w W:World) (s:ByteArray):Prop where
 h0:W.heap[w.heap.size]? = some (.cells #[.slice none 0 0] 25 (0,0))
 h1:W.heap[w.heap.size+1]? = some (.cells #[.bool false] 4 (0,0))
 h2:W.heap[w.heap.size+2]? = some (.cells #[.slice none 0 0] 25 (0,0))
 h3:W.heap[w.heap.size+3]? = some (.cells #[.string s] 9 (0,0))
 h4:W.heap[w.heap.size+4]? = some (.cells #[.string ⟨#[44]⟩] 9 (0,0))
 h5:W.heap[w.heap.size+5]? = some (.cells #[.int .i64 0] 3 (0,0))
 sz:W.heap.size=w.heap.size+6
 be:Below w.heap.size w W
theorem piQ_of (w:World) (s:ByteArray):PiQ w ((((((w.alloc (.cells #[.slice none 0 0] 25)).alloc (.cells #[.bool false] 4)).alloc (.cells #[.slice none 0 0] 25)).alloc (.cells #[.string s] 9)).alloc (.cells #[.string ⟨#[44]⟩] 9)).alloc (.cells #[.int .i64 0] 3)) s:=by
 have step:∀(W:World) (o:Obj) (k:Nat) (x:Obj),W.heap[k]? = some x→(W.alloc o).heap[k]? = some x:=fun W o k x h=>(Below.heap_alloc W o k (Array.getElem?_eq_some_iff.1 h).1).trans h
 have new:∀(W:World) (o:Obj) (k:Nat),W.heap.size=k→(W.alloc o).heap[k]? = some o:=fun W o k h=>by subst h;exact World.alloc_heap_new W o
 refine ⟨?_,?_,?_,?_,?_,?_,by simp,?_⟩
 ·exact step _ _ _ _ (step _ _ _ _ (step _ _ _ _ (step _ _ _ _ (step _ _ _ _ (new w _ _ rfl)))))
 ·exact step _ _ _ _ (step _ _ _ _ (step _ _ _ _ (step _ _ _ _ (new _ _ _ (by simp)))))
 ·exact step _ _ _ _ (step _ _ _ _ (step _ _ _ _ (new _ _ _ (by simp))))
 ·exact step _ _ _ _ (step _ _ _ _ (new _ _ _ (by simp)))
 ·exact step _ _ _ _ (new _ _ _ (by simp))
 ·exact new _ _ _ (by simp)
 ·exact (((((((Below.refl _ w).alloc (Nat.le_refl _) _).alloc (by simp) _).alloc (by simp;omega) _).alloc (by simp;omega) _).alloc (by simp;omega) _).alloc (by simp;omega) _)
theorem pi_final {w W:World}{b:Nat}{v0 v1:Value} (k0:W.heap[b]? = some (.cells #[v0] 25 (0,0))) (k1:W.heap[b+1]? = some (.cells #[v1] 4 (0,0))) (hB:Below b w W) (hsz:b+8≤W.heap.size) (hD:W.heap[b+6]? = some (.deferred (some []))) (u0 u1:Value):
  ((W.setCell ⟨b,0,none⟩ u0).setCell ⟨b+1,0,none⟩ u1).heap[b+6]? = some (.deferred (some [])) ∧
  (((W.setCell ⟨b,0,none⟩ u0).setCell ⟨b+1,0,none⟩ u1).putObj (b+6) (.deferred none)).cell? ⟨b,0,none⟩=some u0 ∧
  (((W.setCell ⟨b,0,none⟩ u0).setCell ⟨b+1,0,none⟩ u1).putObj (b+6) (.deferred none)).cell? ⟨b+1,0,none⟩=some u1 ∧
  Below b w (((W.setCell ⟨b,0,none⟩ u0).setCell ⟨b+1,0,none⟩ u1).putObj (b+6) (.deferred none)) ∧
  ∀(v:Value) (R:List Int),W.ownsRow (b+8) 3 1 v R.length (ints R)→(((W.setCell ⟨b,0,none⟩ u0).setCell ⟨b+1,0,none⟩ u1).putObj (b+6) (.deferred none)).ownsRow (b+8) 3 1 v R.length (ints R):=by
 have K1:=keep_one W b u0
 have e0:=box_set (u:=u0) k0
 have e1:(W.setCell ⟨b,0,none⟩ u0).heap[b+1]? = some (.cells #[v1] 4 (0,0)):=(K1.block _ (by omega) (by omega)).trans k1
 have e6:(W.setCell ⟨b,0,none⟩ u0).heap[b+6]? = some (.deferred (some [])):=(K1.block _ (by omega) (by omega)).trans hD
 have o1:∀(v:Value) (R:List Int),W.ownsRow (b+8) 3 1 v R.length (ints R)→(W.setCell ⟨b,0,none⟩ u0).ownsRow (b+8) 3 1 v R.length (ints R):=fun v R h=>own_keep1 h K1 (by omega)
 have s1:=K1.size
 have B1:Below b w (W.setCell ⟨b,0,none⟩ u0):=hB.trans (K1.below (Nat.le_refl _) (by omega))
 generalize W.setCell ⟨b,0,none⟩ u0=W1 at *
 have K2:=keep_one W1 (b+1) u1
 have f0:=(K2.block b (by omega) (by omega)).trans e0
 have f1:=box_set (u:=u1) e1
 have f6:=(K2.block (b+6) (by omega) (by omega)).trans e6
 have o2:∀(v:Value) (R:List Int),W.ownsRow (b+8) 3 1 v R.length (ints R)→(W1.setCell ⟨b+1,0,none⟩ u1).ownsRow (b+8) 3 1 v R.length (ints R):=fun v R h=>own_keep1 (o1 v R h) K2 (by omega)
 have s2:=K2.size
 have B2:Below b w (W1.setCell ⟨b+1,0,none⟩ u1):=B1.trans (K2.below (Nat.le_succ _) (by omega))
 generalize W1.setCell ⟨b+1,0,none⟩ u1=W2 at *
 have K3:Keep (b+6) (b+6+1) W2 (W2.putObj (b+6) (.deferred none)):=⟨rfl,rfl,rfl,by simp,fun k _ hk=>World.putObj_heap_other (by omega)⟩
 exact ⟨f6,(box_cell ((K3.block b (by omega) (by omega)).trans f0)).1,(box_cell ((K3.block (b+1) (by omega) (by omega)).trans f1)).1,B2.trans (K3.below (by omega) (by omega)),fun v R h=>own_keep1 (o2 v R h) K3 (by omega)⟩
theorem pi_stop {W0 W:World}{b:Nat}{r:Loop}{tx:ByteArray}{v:Value}{R:List Int} (h:PiS W0 W b r tx v R) (C:PiC W0 b):
  ((W.setCell ⟨b,0,none⟩ (.slice none 0 0)).setCell ⟨b+1,0,none⟩ (.bool false)).heap[b+7]? = some (.loop r) ∧
  ∀r2,PiE W0 (((W.setCell ⟨b,0,none⟩ (.slice none 0 0)).setCell ⟨b+1,0,none⟩ (.bool false)).putObj (b+7) (.loop r2)) b ∧
   (((W.setCell ⟨b,0,none⟩ (.slice none 0 0)).setCell ⟨b+1,0,none⟩ (.bool false)).putObj (b+7) (.loop r2)).heap[b+7]? = some (.loop r2):=by
 have hz:=h.sz
 have g0:=(h.fix b (by omega) (by omega) (by omega) (by omega)).trans C.c0
 have g1:=(h.fix (b+1) (by omega) (by omega) (by omega) (by omega)).trans C.c1
 have g6:=h.fix (b+6) (by omega) (by omega) (by omega) (by omega)
 have gl:∀k,k<b→W.heap[k]? = W0.heap[k]?:=fun k hk=>h.fix k (by omega) (by omega) (by omega) (by omega)
 have gr:=h.hl
 have en:=h.env
 clear h
 have K1:=keep_one W b (.slice none 0 0)
 have s1:=K1.size
 have a0:=box_set (u:=.slice none 0 0) g0
 have a1:=(K1.block (b+1) (by omega) (by omega)).trans g1
 have a6:=(K1.block (b+6) (by omega) (by omega)).trans g6
 have a7:=(K1.block (b+7) (by omega) (by omega)).trans gr
 have al:∀k,k<b→(W.setCell ⟨b,0,none⟩ (.slice none 0 0)).heap[k]? = W0.heap[k]?:=fun k hk=>(K1.block k (by omega) (by omega)).trans (gl k hk)
 have en1:(W.setCell ⟨b,0,none⟩ (.slice none 0 0)).os=W0.os∧(W.setCell ⟨b,0,none⟩ (.slice none 0 0)).tape=W0.tape∧(W.setCell ⟨b,0,none⟩ (.slice none 0 0)).output=W0.output:=en
 generalize W.setCell ⟨b,0,none⟩ (.slice none 0 0)=W1 at *
 have K2:=keep_one W1 (b+1) (.bool false)
 have s2:=K2.size
 have d0:=(K2.block b (by omega) (by omega)).trans a0
 have d1:=box_set (u:=.bool false) a1
 have d6:=(K2.block (b+6) (by omega) (by omega)).trans a6
 have d7:=(K2.block (b+7) (by omega) (by omega)).trans a7
 have dl:∀k,k<b→(W1.setCell ⟨b+1,0,none⟩ (.bool false)).heap[k]? = W0.heap[k]?:=fun k hk=>(K2.block k (by omega) (by omega)).trans (al k hk)
 have en2:(W1.setCell ⟨b+1,0,none⟩ (.bool false)).os=W0.os∧(W1.setCell ⟨b+1,0,none⟩ (.bool false)).tape=W0.tape∧(W1.setCell ⟨b+1,0,none⟩ (.bool false)).output=W0.output:=en1
 generalize W1.setCell ⟨b+1,0,none⟩ (.bool false)=W2 at *
 refine ⟨d7,fun r2=>⟨⟨fun k hk=>(World.putObj_heap_other (by omega)).trans (dl k hk),en2,by rw [World.putObj_size];omega,(World.putObj_heap_other (by omega)).trans d0,(World.putObj_heap_other (by omega)).trans d1,(World.putObj_heap_other (by omega)).trans d6⟩,World.putObj_heap_same (Array.getElem?_eq_some_iff.1 d7).1⟩⟩
theorem PiS.be {W0 W w:World}{b:Nat}{r:Loop}{tx:ByteArray}{v:Value}{R:List Int} (h:PiS W0 W b r tx v R) (hb:Below b w W0) (hw:w.heap.size=b):Below b w W:=
 ⟨h.env.1.trans hb.os,h.env.2.1.trans hb.tape,h.env.2.2.trans hb.output,by have:=h.sz;omega,fun k hk=>(h.fix k (by omega) (by omega) (by omega) (by omega)).trans (hb.block k hk)⟩
theorem PiE.be {W0 W w:World}{b:Nat} (h:PiE W0 W b) (hb:Below b w W0) (hw:w.heap.size=b):Below b w W:=
 ⟨h.env.1.trans hb.os,h.env.2.1.trans hb.tape,h.env.2.2.trans hb.output,by have:=h.sz;omega,fun k hk=>(h.fix k hk).trans (hb.block k hk)⟩
theorem implParseNumbers_go (s:ByteArray) (w:World) (hs:s.size≤1048576) (he:errP w) (ht:tabP w) (h45:¬s.data.toList = [45]):
  Calls Tryz.prog 162 #[.string s] w fun e w'=>∃v',e=.returned (.tuple #[v',.bool (pnB s.data.toList)])∧Fr w' w.heap.size w'.heap.size v' (pnF s.data.toList)∧Below w.heap.size w w':=by
 have e1:=str_ne2 h45
 have HP:Hid (pnO s.data.toList=pnU [] (cutB 44 s.data.toList)):=by show _=_;unfold pnO cutC;rw [if_neg h45]
 have HF:Hid (∀R,pnO s.data.toList=some R→pnB s.data.toList=true∧pnF s.data.toList=R):=fun R h=>by unfold pnB pnF;rw [h];exact ⟨rfl,rfl⟩
 have HN:Hid (pnO s.data.toList=none→pnB s.data.toList=false∧pnF s.data.toList = []):=fun h=>by unfold pnB pnF;rw [h];exact ⟨rfl,rfl⟩
 have HET:=Lib.hid (And.intro he ht)
 have HQ:=Lib.hid (piQ_of w s)
 clear h45 he ht
 refine (callsIn_wide (n:=8)).1 ?_
 refine callsIn_of_wp_marks Tryz.func162 rfl trivial ?_ rfl
 simp only [Tryz.ntmps162,List.size_toArray,List.length_cons,List.length_nil,Nat.reduceAdd,Nat.reduceSub,Array.replicate_succ,Array.replicate_zero,List.push_toArray,List.append_toArray,List.nil_append,List.cons_append]
 gi_wp2_with (refine ⟨trivial,?_⟩;gi_at_call 247;refine (callsIn_wide.2 (splitSeq_any _ _ _)).mono ?_;rintro e w3 ⟨rfl,rfl⟩)
 generalize ((((((w.alloc (.cells #[.slice none 0 0] 25)).alloc (.cells #[.bool false] 4)).alloc (.cells #[.slice none 0 0] 25)).alloc (.cells #[.string s] 9)).alloc (.cells #[.string ⟨#[44]⟩] 9)).alloc (.cells #[.int .i64 0] 3))=wq at *
 have hzq:=HQ.out.sz
 refine range_of (gf:=370) (lb:=#[.pointer (some ⟨w.heap.size+3+1,0,none⟩),.pointer (some ⟨w.heap.size+3,0,none⟩),.pointer (some ⟨w.heap.size+3+1+1,0,none⟩)]) rfl (enters_of Tryz.func370 (by kernel_rfl) rfl)
  (fun W'=>∃v R,pnU [] (cutB 44 s.data.toList)=some R∧W'.heap[w.heap.size]? = some (.cells #[.slice none 0 0] 25 (0,0))∧W'.heap[w.heap.size+1]? = some (.cells #[.bool false] 4 (0,0))∧W'.heap[w.heap.size+2]? = some (.cells #[v] 25 (0,0))∧W'.ownsRow (w.heap.size+8) 3 1 v R.length (ints R)∧Below w.heap.size w W'∧w.heap.size+8≤W'.heap.size)
  (fun c W'=>c=.ret∧pnU [] (cutB 44 s.data.toList)=none∧W'.heap[w.heap.size]? = some (.cells #[.slice none 0 0] 25 (0,0))∧W'.heap[w.heap.size+1]? = some (.cells #[.bool false] 4 (0,0))∧Below w.heap.size w W'∧w.heap.size+8≤W'.heap.size) ?call ?done ?stop
 case stop=>
  rintro c W o ⟨rfl,hu,k0,k1,hbe,hsz⟩ hD
  have KP:Keep (wq.heap.size+1) (wq.heap.size+1+1) W (W.putObj (wq.heap.size+1) o):=⟨rfl,rfl,rfl,by simp,fun k _ hk=>World.putObj_heap_other (by omega)⟩
  have hD2:(W.putObj (wq.heap.size+1) o).heap[wq.heap.size]? = some (.deferred (some [])):=(World.putObj_heap_other (by omega)).trans hD
  have HO:=Lib.hid (HN.out (by rw [HP.out];exact hu))
  have k0':=(KP.block w.heap.size (by omega) (by omega)).trans k0
  have k1':=(KP.block (w.heap.size+1) (by omega) (by omega)).trans k1
  have HB:Hid (Below w.heap.size w (W.putObj (wq.heap.size+1) o)):=hbe.trans (KP.below (by omega) (by omega))
  have hsz2:w.heap.size+8≤(W.putObj (wq.heap.size+1) o).heap.size:=by simpa using hsz
  clear hu k0 k1 hbe hD KP hsz
  generalize W.putObj (wq.heap.size+1) o=W2 at *
  obtain ⟨c0,f0⟩:=box_cell k0'
  obtain ⟨c1,f1⟩:=box_cell k1'
  rw [hzq] at hD2
  have K6:Hid (Keep (w.heap.size+6) (w.heap.size+6+1) W2 (W2.putObj (w.heap.size+6) (.deferred none))):=⟨rfl,rfl,rfl,by simp,fun k _ hk=>World.putObj_heap_other (by omega)⟩
  have z0:=(box_cell ((K6.out.block w.heap.size (by omega) (by omega)).trans k0')).1
  have z1:=(box_cell ((K6.out.block (w.heap.size+1) (by omega) (by omega)).trans k1')).1
  have HD:=Lib.hid hD2
  clear k0' k1' hD2
  dsimp only
  gi_wp2
  rw [hzq]
  refine ⟨by simp,.inl ⟨_,_,rfl,run_takeDeferred HD.out,?_⟩⟩
  refine ⟨.tuple #[.slice none 0 0,.bool false],by simp [results,Tryz.results162,go_sem,z0,z1],_,by rw [HO.out.1],?_,HB.out.trans (K6.out.below (by omega) (by omega))⟩
  rw [HO.out.2]
  exact Fr.nil _ (Nat.le_refl _)
 case done=>
  rintro W o ⟨v,R,hu,k0,k1,k2,hown,hbe,hsz⟩ hD
  have KP:Keep (wq.heap.size+1) (wq.heap.size+1+1) W (W.putObj (wq.heap.size+1) o):=⟨rfl,rfl,rfl,by simp,fun k _ hk=>World.putObj_heap_other (by omega)⟩
  have hD2:(W.putObj (wq.heap.size+1) o).heap[wq.heap.size]? = some (.deferred (some [])):=(World.putObj_heap_other (by omega)).trans hD
  have HO:=Lib.hid (HF.out R (by rw [HP.out];exact hu))
  have k0':=(KP.block w.heap.size (by omega) (by omega)).trans k0
  have k1':=(KP.block (w.heap.size+1) (by omega) (by omega)).trans k1
  have k2':=(KP.block (w.heap.size+2) (by omega) (by omega)).trans k2
  have HOW:=Lib.hid (own_keep1 hown KP (by omega))
  have HB:Hid (Below w.heap.size w (W.putObj (wq.heap.size+1) o)):=hbe.trans (KP.below (by omega) (by omega))
  have hsz2:w.heap.size+8≤(W.putObj (wq.heap.size+1) o).heap.size:=by simpa using hsz
  clear hu k0 k1 k2 hbe hD KP hsz hown
  generalize W.putObj (wq.heap.size+1) o=W2 at *
  obtain ⟨A,c,rfl,-⟩:=ownZ_form HOW.out
  obtain ⟨c0,f0⟩:=box_cell k0'
  obtain ⟨c1,f1⟩:=box_cell k1'
  obtain ⟨c2,f2⟩:=box_cell k2'
  rw [hzq] at hD2
  have HFN:=Lib.hid (pi_final k0' k1' HB.out hsz2 hD2 (.slice A R.length c) (.bool true))
  clear k0' k1' k2' hD2
  dsimp only
  gi_wp2
  rw [hzq]
  refine ⟨by simp,.inl ⟨_,_,rfl,run_takeDeferred HFN.out.1,?_⟩⟩
  obtain ⟨-,z0,z1,z2,z3⟩:=HFN.out
  refine ⟨.tuple #[.slice A R.length c,.bool true],by simp [results,Tryz.results162,go_sem,z0,z1],_,by rw [HO.out.1],?_,z2⟩
  rw [HO.out.2]
  exact (Fr.of_own (z3 _ _ HOW.out)).wide (by omega) (Nat.le_refl _) (Nat.le_refl _)
 case call=>
  intro fn
  dsimp only
  generalize hr:recOf fn _ #[12] _ _ wq.heap.size=r
  obtain ⟨q0,q1,q2,q3,q4,q5,-,qbe⟩:=HQ.out
  have hst:r.state=.ready:=by rw [←hr];rfl
  have hpe:r.pending=none:=by rw [←hr];rfl
  have hpa:r.params.size=1:=by rw [←hr];rfl
  have bS:=rangeStart_below wq r
  have zS:=rangeStart_size wq r
  have recS:=rangeStart_rec wq r
  have defS:=rangeStart_def wq r
  generalize rangeStart wq r=W1 at *
  obtain ⟨b,hb⟩:∃b,w.heap.size=b:=⟨_,rfl⟩
  rw [hzq] at bS zS recS defS ⊢
  rw [hb] at bS zS recS defS q0 q1 q2 q3 q4 q5 qbe ⊢
  have blk:∀k,k<b+6→W1.heap[k]? = wq.heap[k]?:=fun k hk=>bS.block k hk
  have C:PiC W1 b:=⟨(blk _ (by omega)).trans q0,(blk _ (by omega)).trans q1,(blk _ (by omega)).trans q4,(blk _ (by omega)).trans q5⟩
  have H0:PiS W1 W1 b r s (.slice none 0 0) []:=⟨fun _ _ _ _ _=>rfl,⟨rfl,rfl,rfl⟩,by omega,(blk _ (by omega)).trans q2,(blk _ (by omega)).trans q3,recS,World.ownsRow_nil _ _ _ _⟩
  have B1:Below b w W1:=qbe.trans (bS.mono (by omega))
  have HC:=Lib.hid C
  have HB1:=Lib.hid (And.intro B1 hb)
  have hY:RoundsPn W1 b r:=by
   intro m W x tx v R hx hR40 H
   refine YieldAt.mono (yield_of (r:=r) (On:=fun W'=>∃n v',numOf x.data.toList=some n∧¬R.length=40∧PiS W1 W' b r tx v' (R++[n])) (Stop:=fun c W'=>c=.ret∧(numOf x.data.toList=none∨R.length=40)∧PiE W1 W' b∧W'.heap[b+7]? = some (.loop { r with state:=.done,pending:=some .ret })) H.hl hst hpe (by rw [hpa];rfl) ?_) ?_
   case refine_2=>
    rintro e W' (⟨he,h⟩|⟨he,c,-,h1,h2,h3⟩)
    ·exact .inl ⟨he,h⟩
    ·exact .inr ⟨he,h1,h2,h3⟩
   generalize hrb:({ r with state:=LoopState.busy }:Loop)=rb
   generalize hrd:({ r with state:=LoopState.done,pending:=some Code.ret }:Loop)=rd
   obtain ⟨e1,e2,e3,e4⟩:r.assign=_∧r.body=_∧r.params=_∧r.tmps=_:=by rw [←hr];exact ⟨rfl,rfl,rfl,rfl⟩
   rw [e1,e2,e3,e4]
   clear e1 e2 e3 e4 hst hpe hpa q0 q1 q2 q3 q4 q5 qbe bS zS recS defS blk H0 HP HF HN B1 C HQ
   dsimp only [recOf]
   have HH:=Lib.hid H
   clear H hr hrb hrd
   gi_wp2
   refine ⟨HH.out.hl,?_⟩
   have HM:=Lib.hid (HH.out.putRec (r':=rb))
   clear HH
   generalize W.putObj (b+7) (.loop rb)=Wb at *
   have HBE:Hid (Below b w Wb):=HM.out.be HB1.out.1 HB1.out.2
   have HPI:Hid (Calls Tryz.prog 146 #[.string x] Wb fun e w'=>e=.returned (.tuple #[.int .i64 ((numOf x.data.toList).getD 0),.bool (numOf x.data.toList).isSome])∧Below Wb.heap.size Wb w'):=
    implParseInt_any x Wb hx (HET.out.1.below HBE.out (Nat.le_of_eq hb)) (HET.out.2.below HBE.out (Nat.le_of_eq hb))
   obtain ⟨A,c,rfl,-⟩:=ownZ_form HM.out.own
   have hRl:R.length≤1048576:=by omega
   cases hn:numOf x.data.toList with
   | none=>
    rw [hn] at HPI
    clear hn
    gi_wp2_with (refine ⟨trivial,fun h=>(by cases h),?_⟩;gi_at_call 146;refine (CallsIn.inRound _ (callsIn_wide.2 HPI.out)).mono ?_;rintro e w5 ⟨rfl,hb5⟩;have H5:=Lib.hid (HM.out.below hb5);clear hb5;obtain ⟨c0,f0⟩:=box_cell ((H5.out.fix b (by omega) (by omega) (by omega) (by omega)).trans HC.out.c0);obtain ⟨c1,f1⟩:=box_cell ((H5.out.fix (b+1) (by omega) (by omega) (by omega) (by omega)).trans HC.out.c1))
    obtain ⟨p1,p2⟩:=pi_stop H5.out HC.out
    exact ⟨p1,p2 rd⟩
   | some n=>
    rw [hn] at HPI
    clear hn
    by_cases h40:R.length=40
    ·have h40':((R.length:Int)==40)=true:=by rw [h40];rfl
     have H40:=Lib.hid h40
     clear h40
     gi_wp2_with (refine ⟨trivial,fun h=>(by cases h),?_⟩;gi_at_call 146;refine (CallsIn.inRound _ (callsIn_wide.2 HPI.out)).mono ?_;rintro e w5 ⟨rfl,hb5⟩;have H5:=Lib.hid (HM.out.below hb5);clear hb5;obtain ⟨c0,f0⟩:=box_cell ((H5.out.fix b (by omega) (by omega) (by omega) (by omega)).trans HC.out.c0);obtain ⟨c1,f1⟩:=box_cell ((H5.out.fix (b+1) (by omega) (by omega) (by omega) (by omega)).trans HC.out.c1);obtain ⟨c2,f2⟩:=box_cell H5.out.ho)
     obtain ⟨p1,p2⟩:=pi_stop H5.out HC.out
     exact ⟨p1,H40.out,p2 rd⟩
    ·have h40':((R.length:Int)==40)=false:=by
      have:¬(R.length:Int)=40:=by omega
      simpa using this
     have H40:=Lib.hid h40
     clear h40
     gi_wp2_with (first
      | (refine ⟨trivial,fun h=>(by cases h),?_⟩;gi_at_call 146;refine (CallsIn.inRound _ (callsIn_wide.2 HPI.out)).mono ?_;rintro e w5 ⟨rfl,hb5⟩;have H5:=Lib.hid (HM.out.below hb5);clear hb5;obtain ⟨c0,f0⟩:=box_cell ((H5.out.fix b (by omega) (by omega) (by omega) (by omega)).trans HC.out.c0);obtain ⟨c1,f1⟩:=box_cell ((H5.out.fix (b+1) (by omega) (by omega) (by omega) (by omega)).trans HC.out.c1);obtain ⟨c2,f2⟩:=box_cell H5.out.ho)
      | (gi_at_builtin;refine app1AtIn rfl _ _ rfl w5 (b+8) (.slice A R.length c) R.length R rfl H5.out.own _ rfl hRl H5.out.sz ?_;intro v6 w6 hown6 hb6 _ _ _;obtain ⟨A6,c6,rfl,-⟩:=ownZ_form hown6;have B6:=hb6 (b+8) (Nat.le_refl _) H5.out.sz;have H6:=Lib.hid (H5.out.putOut (R':=R++[n]) B6 (by rw [List.length_append,List.length_singleton];exact hown6));obtain ⟨c2,f2⟩:=box_cell ((B6.block (b+2) (by omega)).trans H5.out.ho);clear hown6 hb6 B6))
     exact ⟨H6.out.hl,H40.out,_,H6.out.putRec⟩
  refine (splitIter_in (l:=s.data.toList) C hY W1 s _ rfl hs H0).mono ?_
  rintro e W' ⟨hv,(⟨ty,v',R,hu,H⟩|⟨hu,hE,hl⟩)⟩
  ·exact ⟨hv,(H.fix (b+6) (by omega) (by omega) (by omega) (by omega)).trans defS,.inl ⟨H.hl,v',R,hu,(H.fix b (by omega) (by omega) (by omega) (by omega)).trans C.c0,(H.fix (b+1) (by omega) (by omega) (by omega) (by omega)).trans C.c1,H.ho,H.own,H.be B1 hb,H.sz⟩⟩
  ·exact ⟨hv,hE.h6.trans defS,.inr ⟨_,hl,rfl,hu,hE.h0,hE.h1,hE.be B1 hb,hE.sz⟩⟩
theorem implParseNumbers_any (s:ByteArray) (w:World) (hs:s.size≤1048576) (he:errP w) (ht:tabP w):
  Calls Tryz.prog 162 #[.string s] w fun e w'=>∃v',e=.returned (.tuple #[v',.bool (pnB s.data.toList)])∧Fr w' w.heap.size w'.heap.size v' (pnF s.data.toList)∧Below w.heap.size w w':=by
 by_cases h45:s.data.toList = [45]
 case neg=>exact implParseNumbers_go s w hs he ht h45
 have hs2:=str_eqn h45
 subst hs2
 have HO:Hid (pnB [45]=true∧pnF [45] = []):=⟨rfl,rfl⟩
 have d0:((w.alloc (.cells #[.slice none 0 0] 25)).alloc (.cells #[.bool true] 4)).cell? ⟨w.heap.size,0,none⟩=some (.slice none 0 0):=by simp
 have d1:((w.alloc (.cells #[.slice none 0 0] 25)).alloc (.cells #[.bool true] 4)).cell? ⟨w.heap.size+1,0,none⟩=some (.bool true):=by simp
 have HB:Hid (Below w.heap.size w ((w.alloc (.cells #[.slice none 0 0] 25)).alloc (.cells #[.bool true] 4))):=((Below.refl _ w).alloc (Nat.le_refl _) _).alloc (by simp) _
 go_enter Tryz.func162,Tryz.ntmps162
 go_wp2
 refine bodyPost_ret (v:=.tuple #[.slice none 0 0,.bool true]) (by simp [results,Tryz.results162,go_sem,d0,d1]) rfl ⟨_,by rw [HO.out.1],?_,HB.out⟩
 rw [HO.out.2]
 exact Fr.nil _ (Nat.le_refl _)
end Go.Proofs.YtkapoldjcpfdgaaGreatDoor
