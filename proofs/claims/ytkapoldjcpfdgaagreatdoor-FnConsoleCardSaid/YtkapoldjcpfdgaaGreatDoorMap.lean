/- slices.SortFunc at few integers, at a row cut at its head. -/
import Derived.StillTail
import Derived.Deep.Quiet
import Derived.Test.YtkapoldjcpfdgaaGreatDoorMae
import Derived.Test.YtkapoldjcpfdgaaGreatDoorMaf
set_option maxHeartbeats 8000000
set_option maxRecDepth 100000
namespace Go.Proofs.YtkapoldjcpfdgaaGreatDoor
open Go
section
variable {P:Program}{ops:Array Oper}{C:World→Prop}
def anyLQ (P:Program) (ops:Array Oper) (C:World→Prop) (n:Nat) (L:Array Bool→Act→Prop):Nat→Array Bool→Act→Prop
 | 0,listed,a=>L listed a
 | f+1,listed,a=>Region.ready .any ops listed≠[]∧∀i∈Region.ready .any ops listed,i<n∧qOp P ops C i (anyLQ P ops C n L f (listed.setIfInBounds i true)) a
theorem any_of_headQ {n g:Nat}{L:Array Bool→Act→Prop}{Q':Exit→Act→World→Prop} (hL:∀listed a w,C w→L listed a→wpAny P .any ops Q' g listed a w):
  ∀(f:Nat) (listed:Array Bool) (a:Act) (w:World),C w→anyLQ P ops C n L f listed a→wpAny P .any ops Q' (f+g) listed a w
 | 0,listed,a,w,hw,h=>by rw [Nat.zero_add];exact hL _ _ _ hw h
 | f+1,listed,a,w,hw,h=>by
  rw [show f+1+g=(f+g)+1 by omega]
  exact ⟨fun h0=>absurd h0 h.1,fun i hi=>wpOp_of_qOp hw (fun a' w' hw' h'=>any_of_headQ hL f _ a' w' hw' h') (h.2 i hi).2⟩
theorem anyLQ_first {n i:Nat}{oi:Oper}{v:Value}{L:Array Bool→Act→Prop} (hi:ops[i]? = some oi) (hsel:∀(j:Nat) (o:Oper) cs b,ops[j]? = some o→o.op≠.select cs b)
  (hwait:∀listed,HeadInv .any ops n listed→listed.getD i true=false→∀t,n≤t→t ∉ Region.ready .any ops listed)
  (hdone:∀listed a,L listed a→∀j∈Region.ready .any ops listed,n≤j):
  ∀(f:Nat) (listed:Array Bool) (a:Act),HeadInv .any ops n listed →
   (∀j oj,ops[j]? = some oj→j≠i→listed.getD j true=false→(∀e∈oj.after,Region.binds .any e=true→e.on≠i)→oi.apart ops oj=true) →
   i∈Region.ready .any ops listed→YieldsIn P ops C oi v a →
   anyLQ P ops C n L f (listed.setIfInBounds i true) (a.put oi.dst v)→anyLQ P ops C n L (f+1) listed a:=by
 intro f
 induction f with
 | zero=>
  intro listed a inv _ hr hy H
  have hun:=(mem_ready.1 hr).1
  refine ⟨List.ne_nil_of_mem hr,fun j hj=>?_⟩
  have hjn:j<n:=Nat.lt_of_not_le fun h=>hwait listed inv hun j h hj
  refine ⟨hjn,?_⟩
  rcases Decidable.em (j=i) with rfl|hji
  ·exact hy.qOp hi H
  ·have:=hdone _ _ H j (ready_mono hj hji)
   omega
 | succ f ih=>
  intro listed a inv hfree hr hy H
  have hun:=(mem_ready.1 hr).1
  refine ⟨List.ne_nil_of_mem hr,fun j hj=>?_⟩
  have hjn:j<n:=Nat.lt_of_not_le fun h=>hwait listed inv hun j h hj
  refine ⟨hjn,?_⟩
  rcases Decidable.em (j=i) with rfl|hji
  ·exact hy.qOp hi H
  ·obtain ⟨hjun,oj,hoj,hall⟩:=mem_ready.1 hj
   have hnot:∀e∈oj.after,Region.binds .any e=true→e.on≠i:=fun e he hb heq=>by
    have h1:=hall e he hb
    rw [heq,getD_both hun] at h1
    cases h1
   have h2:=qOp_put hoj (hfree j oj hoj hji hjun hnot) (fun cs b=>hsel i oi cs b hi) (fun cs b=>hsel j oj cs b hoj) hy (H.2 j (ready_mono hj hji)).2
   have hfree':∀k ok,ops[k]? = some ok→k≠i→(listed.setIfInBounds j true).getD k true=false →
     (∀e∈ok.after,Region.binds .any e=true→e.on≠i)→oi.apart ops ok=true:=fun k ok hk hki hku hno=>by
    refine hfree k ok hk hki ?_ hno
    rcases Decidable.em (j=k) with rfl|hjk
    ·exact hjun
    ·rwa [getD_set_ne true hjk] at hku
   refine qOp_mono (fun a' h3=>ih (listed.setIfInBounds j true) a' (inv.set hj hjn) hfree' (ready_mono hr (Ne.symm hji)) h3.1 ?_) h2
   rw [Array.setIfInBounds_comm _ _ hji]
   exact h3.2
theorem anyLQ_lex {n g:Nat}{Lq:Act→Prop} (hsel:Region.noSelect ops=true) (hs:Region.sinkB .any ops n=true) (hc:Region.chainB .any ops n=true) (hn:n<ops.size):
  ∀(l:List Oper) (k:Nat) (listed:Array Bool) (a:Act),(∀j,j<l.length→l[j]? = ops[k+j]?)→k+l.length=n→HeadInv .any ops n listed →
  Region.lexHead .any ops g l.length k listed=true→wpQuiet P ops C Lq l a →
  anyLQ P ops C n (fun listed' a'=>Region.seqB .any ops g n listed'=true∧Lq a') l.length listed a
 | [],k,listed,a,_,hk,_,hB,h=>by
  obtain rfl:k=n:=by simpa using hk
  exact ⟨by simpa [Region.lexHead] using hB,h⟩
 | o :: l,k,listed,a,hl,hk,inv,hB,h=>by
  have h0:ops[k]? = some o:=(hl 0 (by simp)).symm
  simp only [List.length_cons] at hk
  simp only [List.length_cons,Region.lexHead,Bool.and_eq_true] at hB
  obtain ⟨⟨hr,hf⟩,hB'⟩:=hB
  have hkn:k<n:=by omega
  have hr':k∈Region.ready .any ops listed:=by simpa using hr
  have hst:qOp P ops C k (wpQuiet P ops C Lq l) a:=by unfold qOp;simp only [h0];exact h
  obtain ⟨v,hy,hK⟩:=yieldsIn_of_qOp h0 hst
  refine anyLQ_first h0 (Region.noSelect_spec hsel) (fun listed' inv' hun t ht=>tail_waits hs hc hn inv' _ k rfl hkn hun t ht) (fun listed' a' hL=>seqB_ready hL.1) l.length listed a inv (Region.free_spec h0 hf) hr' hy
   (anyLQ_lex hsel hs hc hn l (k+1) _ _ (fun j hj=>?_) (by omega) (inv.set hr' hkn) hB' hK)
  have h1:=hl (j+1) (by simp;omega)
  rw [List.getElem?_cons_succ] at h1
  rw [h1];congr 1;omega
theorem region_quiet_tail {id:Nat}{Q:Exit→Act→World→Prop}{a:Act}{w:World}{l:List Oper} (n:Nat) (hm:P.follows .mixedOrders=true) (hB:Region.lexTailB .any l.toArray n=true)
  (h:wpQuiet P l.toArray (fun w'=>∃m,w'=w.drewN m) (fun a'=>∀w',(∃m,w'=w.drewN m)→wpList P l.toArray Q (l.drop n) a' w') (l.take n) a):(Code.region id l.toArray true).wp P Q a w:=by
 simp only [Region.lexTailB,Bool.and_eq_true,decide_eq_true_eq] at hB
 obtain ⟨⟨⟨⟨hsel,hn⟩,hs⟩,hc⟩,hlex⟩:=hB
 have hn':n<l.length:=by simpa using hn
 have hlen:(l.take n).length=n:=by rw [List.length_take];omega
 have hdl:(l.drop n).length=l.toArray.size-n:=by simp
 have inv:HeadInv .any l.toArray n (Array.replicate l.toArray.size false):=
  ⟨by simp,fun j oj _ h1=>(by rw [getD_replicate_false] at h1;cases h1),fun t _ h1=>getD_in (by simpa using h1) (getD_replicate_false _ _)⟩
 have H:=anyLQ_lex (g:=l.toArray.size-n) hsel hs hc hn (l.take n) 0 _ a (fun j hj=>by rw [hlen] at hj;simp [hj]) (by omega) inv (by rw [hlen];exact hlex) h
 refine wp_region_any hm ?_
 have h1:=any_of_headQ (Q':=Q) (g:=l.toArray.size-n) (fun listed a' w' hw' hL=>by
  have h2:=wpAny_of_seq (md:=.any) (Q':=Q) (l.drop n) n listed a' w' (fun j=>by simp [List.getElem?_drop]) (by rw [hdl];exact hL.1) (hL.2 w' hw')
  rwa [hdl] at h2) _ _ _ { w with drawn:=w.drawn+1 } ⟨1,rfl⟩ H
 rw [hlen,show n+(l.toArray.size-n)=l.toArray.size by omega] at h1
 exact h1
end
end Go.Proofs.YtkapoldjcpfdgaaGreatDoor
namespace Go.Proofs.YtkapoldjcpfdgaaGreatDoor
open Go.ChangeShapes Go.WideShapes Go.ChangeAt Go.RowKit
theorem Fr.swapO {w:World}{lo hi N c g j o:Nat}{pre P rest:List Int}{x y:Int} (h:Fr w lo hi (.slice (some ⟨g,0,none⟩) N c) (pre++rowJ P x (j+1) rest)) (ho:pre.length=o) (hy:P[j]? = some y):
  w.cell? ⟨g,o+(j+1),none⟩=some (.int .i64 x)∧w.cell? ⟨g,o+j,none⟩=some (.int .i64 y)∧w.frozen? ⟨g,o+(j+1),none⟩=false∧w.frozen? ⟨g,o+j,none⟩=false∧g<w.heap.size ∧
   (Fr ((w.setCell ⟨g,o+(j+1),none⟩ (.int .i64 y)).setCell ⟨g,o+j,none⟩ (.int .i64 x)) lo hi (.slice (some ⟨g,0,none⟩) N c) (pre++rowJ P x j rest)∧Keep lo hi w ((w.setCell ⟨g,o+(j+1),none⟩ (.int .i64 y)).setCell ⟨g,o+j,none⟩ (.int .i64 x))) ∧
   (Fr ((w.setCell ⟨g,o+j,none⟩ (.int .i64 x)).setCell ⟨g,o+(j+1),none⟩ (.int .i64 y)) lo hi (.slice (some ⟨g,0,none⟩) N c) (pre++rowJ P x j rest)∧Keep lo hi w ((w.setCell ⟨g,o+j,none⟩ (.int .i64 x)).setCell ⟨g,o+(j+1),none⟩ (.int .i64 y))):=by
 subst ho
 have hl:j<P.length:=(List.getElem?_eq_some_iff.1 hy).1
 have hlen:(rowJ P x (j+1) rest).length=P.length+1+rest.length:=rowJ_length (by omega)
 have hset:∀(l:List Int) (i:Nat) (v:Int),(pre++l).set (pre.length+i) v=pre++l.set i v:=fun l i v=>by
  rw [List.set_append_right _ _ (by omega),Nat.add_sub_cancel_left]
 have hget:∀(l:List Int) (i:Nat),(pre++l)[pre.length+i]? = l[i]?:=fun l i=>by
  rw [List.getElem?_append_right (by omega),Nat.add_sub_cancel_left]
 obtain ⟨g1,x1,e1,_,hg2,hx1,c1,f1,s1⟩:=h.at_ (k:=pre.length+(j+1)) (by rw [List.length_append];omega)
 obtain ⟨g2,y1,e2,_,_,hy1,c2,f2,s2⟩:=h.at_ (k:=pre.length+j) (by rw [List.length_append];omega)
 obtain rfl:g=g1:=by injection e1 with e1;injection e1
 obtain rfl:g=g2:=by injection e2 with e2;injection e2
 rw [hget] at hx1 hy1
 obtain rfl:x=x1:=by rw [rowJ_at (by omega)] at hx1;injection hx1
 obtain rfl:y=y1:=by rw [rowJ_before hy] at hy1;injection hy1
 have hsz:=h.2.2
 refine ⟨c1,c2,f1,f2,by omega,?_,?_⟩
 ·obtain ⟨F1,K1⟩:=s1 y
  obtain ⟨g3,y3,e3,_,_,_,_,_,s3⟩:=F1.at_ (k:=pre.length+j) (by rw [List.length_set,List.length_append];omega)
  obtain rfl:g=g3:=by injection e3 with e3;injection e3
  obtain ⟨F2,K2⟩:=s3 x
  rw [hset,hset,rowJ_swap hy] at F2
  exact ⟨F2,K1.trans K2⟩
 ·obtain ⟨F1,K1⟩:=s2 x
  obtain ⟨g3,y3,e3,_,_,_,_,_,s3⟩:=F1.at_ (k:=pre.length+(j+1)) (by rw [List.length_set,List.length_append];omega)
  obtain rfl:g=g3:=by injection e3 with e3;injection e3
  obtain ⟨F2,K2⟩:=s3 y
  rw [hset,hset,rowJ_swap' hy] at F2
  exact ⟨F2,K1.trans K2⟩
theorem insertionO_any (w:World) (lo hi g c c2 N o:Nat) (pre xs:List Int) (key:Int→Int) (G:FuncId) (caps:Array Value) (hf:Fr w lo hi (.slice (some ⟨g,0,none⟩) N c) (pre++xs)) (ho:pre.length=o) (h0:0<xs.length) (hn:xs.length≤1048576)
  (hG:∀(args:Array Value) (W:World),(callFunc G args).run Tryz.prog W=.ok (.enter G args) W) (hc:CmpBy w lo hi G caps xs key):
  Calls Tryz.prog 319 #[.slice (some ⟨g,o,none⟩) xs.length c2,.int .i64 0,.int .i64 (xs.length:Int),.func (.func G) #[] caps] w fun e w'=>e=.returned (.tuple #[])∧Fr w' lo hi (.slice (some ⟨g,0,none⟩) N c) (pre++insF key xs)∧Keep lo hi w w':=by
 have HF:=Lib.hid (And.intro hf (insF_one key h0))
 have HC:=Lib.hid hc
 have HO:=Lib.hid ho
 clear hf hc ho
 generalize hl:xs.length=n at *
 have HL:=Lib.hid hl
 clear hl
 go_enter Tryz.func319,Tryz.ntmps319
 go_wp2
 go_loopw [8] (fun v wr=>∃i:Nat,1≤i∧i≤n∧v=.int .i64 i∧Hid (Fr wr lo hi (.slice (some ⟨g,0,none⟩) N c) (pre++(insF key (xs.take i)++xs.drop i))∧Keep lo hi w wr)) (fun v _=>n-(intOf v).toNat)
 case atStart=>exact ⟨1,Nat.le_refl _,h0,rfl,by rw [HF.out.2];exact HF.out.1,Keep.refl _ _ _⟩
 case round=>
  obtain ⟨i,hi1,hi2,rfl,HR⟩:=hrel
  obtain ⟨wo,rfl⟩:∃W,W=wr:=⟨wr,rfl⟩
  clear HF
  by_cases hlt:i<n
  case neg=>
   obtain rfl:i=n:=by omega
   have HE:Hid (insF key (xs.take i)++xs.drop i=insF key xs):=insF_all key (by rw [HL.out];exact Nat.le_refl _)
   go_wp2
   refine bodyPost_end (v:=.tuple #[]) (by simp [results,go_sem]) rfl ⟨rfl,by rw [←HE.out];exact HR.out.1,HR.out.2⟩
  have di:decide ((i:Int)<(n:Int))=true:=by simp;exact hlt
  obtain ⟨x,hx⟩:∃x,xs[i]? = some x:=⟨_,List.getElem?_eq_getElem (by rw [HL.out];exact hlt)⟩
  have HX:=Lib.hid hx
  have hP:=insF_takeLen key (xs:=xs) (i:=i) (by rw [HL.out];exact hi2)
  have HP:=Lib.hid hP
  have HR2:Hid (Fr wo lo hi (.slice (some ⟨g,0,none⟩) N c) (pre++rowJ (insF key (xs.take i)) x i (xs.drop (i+1)))∧Keep lo hi w wo):=⟨by rw [←insF_row key hx];exact HR.out.1,HR.out.2⟩
  clear hx hP HR
  go_wp2
  go_loopw [9] (fun v wr=>∃j:Nat,j≤i∧v=.int .i64 j∧Hid (Fr wr lo hi (.slice (some ⟨g,0,none⟩) N c) (pre++rowJ (insF key (xs.take i)) x j (xs.drop (i+1)))∧Keep lo hi w wr∧posR key (insF key (xs.take i)) x i=posR key (insF key (xs.take i)) x j)) (fun v _=>(intOf v).toNat)
  case atStart=>exact ⟨i,Nat.le_refl _,rfl,HR2.out.1,HR2.out.2,rfl⟩
  case round=>
   obtain ⟨j,hj,rfl,HI⟩:=hrel
   clear HR2
   cases j with
   | zero=>
    have HE:Hid (rowJ (insF key (xs.take i)) x 0 (xs.drop (i+1))=insF key (xs.take (i+1))++xs.drop (i+1)):=insF_put key HX.out (by rw [HI.out.2.2];rfl)
    go_wp2_with fail
    go_quiet (fail)
    rename_i nq
    have HI2:Hid (Fr (wr.drewN nq) lo hi (.slice (some ⟨g,0,none⟩) N c) (pre++(insF key (xs.take (i+1))++xs.drop (i+1)))∧Keep lo hi w (wr.drewN nq)):=⟨by rw [←HE.out];exact HI.out.1,HI.out.2.1.drewN nq⟩
    generalize wr.drewN nq=w2 at *
    clear HI HE
    go_wp2
    go_roundw
    all_goals first|exact ⟨i+1,by omega,by omega,by go_num,HI2.out.1,HI2.out.2⟩|(simp [intOf];try omega)
   | succ q=>
    obtain ⟨y,hy⟩:∃y,(insF key (xs.take i))[q]? = some y:=⟨_,List.getElem?_eq_getElem (by rw [HP.out];omega)⟩
    have HC2:Hid (∀W,Keep lo hi w W→Calls Tryz.prog G (#[.int .i64 x,.int .i64 y]++caps) W fun e W'=>∃c:Int,e=.returned (.int .i64 c)∧(c<0↔key y<key x)∧Below W.heap.size W W'):=fun W hW=>HC.out W x y hW (List.mem_of_getElem? HX.out) (insF_mem (List.mem_of_getElem? hy))
    have HY:=Lib.hid hy
    clear hy
    obtain ⟨c1,c2,f1,f2,hg,S1,S2⟩:=HI.out.1.swapO HO.out HY.out
    have HS:=Lib.hid (And.intro S1 S2)
    have dq:decide ((0:Int)<(q:Int)+1)=true:=decide_eq_true (by omega)
    have i1:(0:Int)≤(q:Int)+1:=by omega
    have i2:(q:Int)+1<(n:Int):=by omega
    have i3:((q:Int)+1).toNat=q+1:=by omega
    have i4:(0:Int)≤(q:Int):=by omega
    have i5:(q:Int)<(n:Int):=by omega
    have i6:IntKind.i64.wrap ((q:Int)+1)=(q:Int)+1:=by rw [IntKind.wrap_i64];omega
    have i7:IntKind.i64.wrap (q:Int)=(q:Int):=by rw [IntKind.wrap_i64];omega
    have K1:Keep lo hi w wr.drew:=Keep.drewK HI.out.2.1
    clear S1 S2
    by_cases hk:key y<key x
    ·have HPos:Hid (posR key (insF key (xs.take i)) x (q+1)=posR key (insF key (xs.take i)) x q):=posR_go HY.out hk
     go_wp2_with fail
     go_region_held3 (fun W=>W.cell? ⟨g,o+(q+1),none⟩=some (.int .i64 x)∧W.cell? ⟨g,o+q,none⟩=some (.int .i64 y)) (first|exact ⟨c1,c2⟩) (first|(refine (HC2.out _ K1).mono ?_;rintro e w3 ⟨c0,rfl,hcc,hb⟩;have F3:=(Fr.drew HI.out.1).grow hb;have K3:=K1.trans (Keep.of_below hb (Nat.le_refl _));clear c1 c2 f1 f2;obtain ⟨c1,c2,f1,f2,_,S1,S2⟩:=F3.swapO HO.out HY.out;have cn:c0<0:=hcc.2 hk;have HS3:=Lib.hid (And.intro F3 (And.intro K3 (And.intro S1 S2)));clear F3 K3 S1 S2 hcc hb))
     clear HS
     go_wp2_with fail
     go_region
     have HI2:Hid (Fr ((w3.setCell ⟨g,o+(q+1),none⟩ (.int .i64 y)).setCell ⟨g,o+q,none⟩ (.int .i64 x)).drew lo hi (.slice (some ⟨g,0,none⟩) N c) (pre++rowJ (insF key (xs.take i)) x q (xs.drop (i+1)))∧Keep lo hi w ((w3.setCell ⟨g,o+(q+1),none⟩ (.int .i64 y)).setCell ⟨g,o+q,none⟩ (.int .i64 x)).drew∧posR key (insF key (xs.take i)) x i=posR key (insF key (xs.take i)) x q):=
      ⟨Fr.drew HS3.out.2.2.1.1,Keep.drewK (HS3.out.2.1.trans HS3.out.2.2.1.2),HI.out.2.2.trans HPos.out⟩
     generalize ((w3.setCell ⟨g,o+(q+1),none⟩ (.int .i64 y)).setCell ⟨g,o+q,none⟩ (.int .i64 x)).drew=w4 at *
     clear HI HS3 c1 c2 f1 f2
     go_wp2
     go_roundw
     all_goals first|exact ⟨q,by omega,by go_num,HI2.out.1,HI2.out.2.1,HI2.out.2.2⟩|(simp [intOf];try omega)
    ·have HPos:Hid (posR key (insF key (xs.take i)) x (q+1)=q+1):=posR_stop HY.out hk
     have HE:Hid (rowJ (insF key (xs.take i)) x (q+1) (xs.drop (i+1))=insF key (xs.take (i+1))++xs.drop (i+1)):=insF_put key HX.out (by rw [HI.out.2.2,HPos.out])
     go_wp2_with fail
     go_region_held3 (fun W=>W.cell? ⟨g,o+(q+1),none⟩=some (.int .i64 x)∧W.cell? ⟨g,o+q,none⟩=some (.int .i64 y)) (first|exact ⟨c1,c2⟩) (first|(refine (HC2.out _ K1).mono ?_;rintro e w3 ⟨c0,rfl,hcc,hb⟩;have F3:=(Fr.drew HI.out.1).grow hb;have K3:=K1.trans (Keep.of_below hb (Nat.le_refl _));clear c1 c2 f1 f2;obtain ⟨c1,c2,f1,f2,_,S1,S2⟩:=F3.swapO HO.out HY.out;have cn:¬c0<0:=fun h=>absurd (hcc.1 h) (Int.not_lt.2 hk);have HS3:=Lib.hid (And.intro F3 (And.intro K3 (And.intro S1 S2)));clear F3 K3 S1 S2 hcc hb))
     have HI2:Hid (Fr w3 lo hi (.slice (some ⟨g,0,none⟩) N c) (pre++(insF key (xs.take (i+1))++xs.drop (i+1)))∧Keep lo hi w w3):=⟨by rw [←HE.out];exact HS3.out.1,HS3.out.2.1⟩
     clear HI HE HS HS3
     go_wp2
     go_roundw
     all_goals first|exact ⟨i+1,by omega,by omega,by go_num,HI2.out.1,HI2.out.2⟩|(simp [intOf];try omega)
theorem pdqO_any (w:World) (lo hi g c c2 N o:Nat) (pre xs:List Int) (key:Int→Int) (G:FuncId) (caps:Array Value) (hf:Fr w lo hi (.slice (some ⟨g,0,none⟩) N c) (pre++xs)) (ho:pre.length=o) (h0:0<xs.length) (hn:xs.length≤12) (lim:Int)
  (hG:∀(args:Array Value) (W:World),(callFunc G args).run Tryz.prog W=.ok (.enter G args) W) (hc:CmpBy w lo hi G caps xs key):
  Calls Tryz.prog 246 #[.slice (some ⟨g,o,none⟩) xs.length c2,.int .i64 0,.int .i64 (xs.length:Int),.int .i64 lim,.func (.func G) #[] caps] w fun e w'=>e=.returned (.tuple #[])∧Fr w' lo hi (.slice (some ⟨g,0,none⟩) N c) (pre++insF key xs)∧Keep lo hi w w':=by
 have HI:=Lib.hid (insertionO_any w lo hi g c c2 N o pre xs key G caps hf ho h0 (by omega) hG hc)
 clear hf hc
 generalize insF key xs=ys at *
 generalize xs.length=n at *
 go_enter Tryz.func246,Tryz.ntmps246
 go_wp2
 refine wp_loop_rounds 1 ?_
 rw [rounds_succ]
 go_wp2_with (go_at_call 319;refine HI.out.mono ?_;rintro e w1 ⟨rfl,h⟩;have H1:=Lib.hid h;clear h)
 (try simp only [Exit.inBlock,Exit.then])
 refine bodyPost_ret (results_none rfl _ _ _) rfl ?_
 exact ⟨rfl,H1.out⟩
theorem sortFuncO_any (w:World) (lo hi g c c2 N o:Nat) (pre xs:List Int) (key:Int→Int) (G:FuncId) (caps:Array Value) (hf:Fr w lo hi (.slice (some ⟨g,0,none⟩) N c) (pre++xs)) (ho:pre.length=o) (h0:0<xs.length) (hn:xs.length≤12)
  (hG:∀(args:Array Value) (W:World),(callFunc G args).run Tryz.prog W=.ok (.enter G args) W) (hc:CmpBy w lo hi G caps xs key):
  Calls Tryz.prog 161 #[.slice (some ⟨g,o,none⟩) xs.length c2,.func (.func G) #[] caps] w fun e w'=>e=.returned (.tuple #[])∧Fr w' lo hi (.slice (some ⟨g,0,none⟩) N c) (pre++insF key xs)∧Keep lo hi w w':=by
 have HP:=Lib.hid (fun lim=>pdqO_any w lo hi g c c2 N o pre xs key G caps hf ho h0 hn lim hG hc)
 have HB:Hid (∀W,Calls Tryz.prog 241 #[.int .u64 (xs.length:Int)] W fun e w'=>(∃l:Int,e=.returned (.int .i64 l))∧W=w'):=fun W=>by
  refine (Tryz.bits_Len (xs.length:Int) W (by omega) (by omega)).mono ?_
  rintro e w' ⟨rfl,rfl⟩
  exact ⟨⟨_,rfl⟩,rfl⟩
 clear hf hc
 generalize insF key xs=ys at *
 generalize xs.length=n at *
 go_enter Tryz.func161,Tryz.ntmps161
 go_wp2_with (first
  | (go_at_call 241;refine (HB.out _).mono ?_;rintro e w_ ⟨⟨l,rfl⟩,rfl⟩)
  | (go_at_call 246;refine (HP.out _).mono ?_;rintro e w1 ⟨rfl,h⟩;have H1:=Lib.hid h;clear h))
 refine bodyPost_end (v:=.tuple #[]) (by simp [results,go_sem]) rfl ⟨rfl,H1.out⟩
end Go.Proofs.YtkapoldjcpfdgaaGreatDoor
