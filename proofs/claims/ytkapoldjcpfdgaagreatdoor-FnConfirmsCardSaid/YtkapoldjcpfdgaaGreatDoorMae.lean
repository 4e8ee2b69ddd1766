/- The indices of a list: plain facts and the contract. -/
import Derived.Deep.DeepCutAuto
import Derived.Test.YtkapoldjcpfdgaaGreatDoorMad
set_option maxHeartbeats 8000000
set_option maxRecDepth 100000
namespace Go.Proofs.YtkapoldjcpfdgaaGreatDoor
open Go.ChangeShapes Go.WideShapes Go.ChangeAt Go.RowKit
def CmpBy (w:World) (lo hi:Nat) (G:FuncId) (caps:Array Value) (xs:List Int) (key:Int→Int):Prop:=
 ∀(W:World) (a b:Int),Keep lo hi w W→a∈xs→b∈xs→Calls Tryz.prog G (#[.int .i64 a,.int .i64 b]++caps) W fun e W'=>∃c:Int,e=.returned (.int .i64 c)∧(c<0↔key b<key a)∧Below W.heap.size W W'
theorem Keep.drewK {lo hi:Nat}{w w':World} (h:Keep lo hi w w'):Keep lo hi w w'.drew:=⟨h.os,h.tape,h.output,h.size,h.block⟩
theorem Fr.swap {w:World}{lo hi n c g j:Nat}{P rest:List Int}{x y:Int} (h:Fr w lo hi (.slice (some ⟨g,0,none⟩) n c) (rowJ P x (j+1) rest)) (hy:P[j]? = some y):
  w.cell? ⟨g,j+1,none⟩=some (.int .i64 x)∧w.cell? ⟨g,j,none⟩=some (.int .i64 y)∧w.frozen? ⟨g,j+1,none⟩=false∧w.frozen? ⟨g,j,none⟩=false∧g<w.heap.size ∧
   (Fr ((w.setCell ⟨g,j+1,none⟩ (.int .i64 y)).setCell ⟨g,j,none⟩ (.int .i64 x)) lo hi (.slice (some ⟨g,0,none⟩) n c) (rowJ P x j rest)∧Keep lo hi w ((w.setCell ⟨g,j+1,none⟩ (.int .i64 y)).setCell ⟨g,j,none⟩ (.int .i64 x))) ∧
   (Fr ((w.setCell ⟨g,j,none⟩ (.int .i64 x)).setCell ⟨g,j+1,none⟩ (.int .i64 y)) lo hi (.slice (some ⟨g,0,none⟩) n c) (rowJ P x j rest)∧Keep lo hi w ((w.setCell ⟨g,j,none⟩ (.int .i64 x)).setCell ⟨g,j+1,none⟩ (.int .i64 y))):=by
 have hl:j<P.length:=(List.getElem?_eq_some_iff.1 hy).1
 have hlen:(rowJ P x (j+1) rest).length=P.length+1+rest.length:=rowJ_length (by omega)
 obtain ⟨g1,x1,e1,_,hg2,hx1,c1,f1,s1⟩:=h.at_ (k:=j+1) (by omega)
 obtain ⟨g2,y1,e2,_,_,hy1,c2,f2,s2⟩:=h.at_ (k:=j) (by omega)
 obtain rfl:g=g1:=by injection e1 with e1;injection e1
 obtain rfl:g=g2:=by injection e2 with e2;injection e2
 obtain rfl:x=x1:=by rw [rowJ_at (by omega)] at hx1;injection hx1
 obtain rfl:y=y1:=by rw [rowJ_before hy] at hy1;injection hy1
 have hsz:=h.2.2
 refine ⟨c1,c2,f1,f2,by omega,?_,?_⟩
 ·obtain ⟨F1,K1⟩:=s1 y
  obtain ⟨g3,y3,e3,_,_,_,_,_,s3⟩:=F1.at_ (k:=j) (by rw [List.length_set];omega)
  obtain rfl:g=g3:=by injection e3 with e3;injection e3
  obtain ⟨F2,K2⟩:=s3 x
  rw [rowJ_swap hy] at F2
  exact ⟨F2,K1.trans K2⟩
 ·obtain ⟨F1,K1⟩:=s2 x
  obtain ⟨g3,y3,e3,_,_,_,_,_,s3⟩:=F1.at_ (k:=j+1) (by rw [List.length_set];omega)
  obtain rfl:g=g3:=by injection e3 with e3;injection e3
  obtain ⟨F2,K2⟩:=s3 y
  rw [rowJ_swap' hy] at F2
  exact ⟨F2,K1.trans K2⟩
theorem insF_one (key:Int→Int) {xs:List Int} (h:0<xs.length):insF key (xs.take 1)++xs.drop 1=xs:=by
 cases xs with
 | nil=>simp at h
 | cons x xs=>simp [insF,insR,posR]
theorem insF_all (key:Int→Int) {xs:List Int}{i:Nat} (h:xs.length≤i):insF key (xs.take i)++xs.drop i=insF key xs:=by
 rw [List.take_of_length_le h,List.drop_of_length_le h,List.append_nil]
theorem insF_takeLen (key:Int→Int) {xs:List Int}{i:Nat} (h:i≤xs.length):(insF key (xs.take i)).length=i:=by rw [insF_length,List.length_take];omega
theorem insF_row (key:Int→Int) {xs:List Int}{i:Nat}{x:Int} (h:xs[i]? = some x):insF key (xs.take i)++xs.drop i=rowJ (insF key (xs.take i)) x i (xs.drop (i+1)):=by
 obtain ⟨hl,e⟩:=List.getElem?_eq_some_iff.1 h
 have hP:=insF_takeLen key (Nat.le_of_lt hl)
 have h2:=rowJ_start (P:=insF key (xs.take i)) (x:=x) (rest:=xs.drop (i+1))
 rw [hP] at h2
 rw [h2,←e,←List.drop_eq_getElem_cons hl]
theorem insF_put (key:Int→Int) {xs:List Int}{i j:Nat}{x:Int} (h:xs[i]? = some x) (hp:posR key (insF key (xs.take i)) x i=j):rowJ (insF key (xs.take i)) x j (xs.drop (i+1))=insF key (xs.take (i+1))++xs.drop (i+1):=by
 have hl:=(List.getElem?_eq_some_iff.1 h).1
 have hP:=insF_takeLen key (Nat.le_of_lt hl)
 rw [rowJ_end (key:=key) (by rw [hP];exact hp),insF_take h]
theorem insF_mem {key:Int→Int}{xs:List Int}{i:Nat}{y:Int} (h:y∈insF key (xs.take i)):y∈xs:=List.mem_of_mem_take ((insF_perm key _).mem_iff.1 h)
theorem insertion_any (w:World) (lo hi g c:Nat) (xs:List Int) (key:Int→Int) (G:FuncId) (caps:Array Value) (hf:Fr w lo hi (.slice (some ⟨g,0,none⟩) xs.length c) xs) (h0:0<xs.length) (hn:xs.length≤1048576)
  (hG:∀(args:Array Value) (W:World),(callFunc G args).run Tryz.prog W=.ok (.enter G args) W) (hc:CmpBy w lo hi G caps xs key):
  Calls Tryz.prog 319 #[.slice (some ⟨g,0,none⟩) xs.length c,.int .i64 0,.int .i64 (xs.length:Int),.func (.func G) #[] caps] w fun e w'=>e=.returned (.tuple #[])∧Fr w' lo hi (.slice (some ⟨g,0,none⟩) xs.length c) (insF key xs)∧Keep lo hi w w':=by
 have HF:=Lib.hid (And.intro hf (insF_one key h0))
 have HC:=Lib.hid hc
 clear hf hc
 generalize hl:xs.length=n at *
 have HL:=Lib.hid hl
 clear hl
 go_enter Tryz.func319,Tryz.ntmps319
 go_wp2
 go_loopw [8] (fun v wr=>∃i:Nat,1≤i∧i≤n∧v=.int .i64 i∧Hid (Fr wr lo hi (.slice (some ⟨g,0,none⟩) n c) (insF key (xs.take i)++xs.drop i)∧Keep lo hi w wr)) (fun v _=>n-(intOf v).toNat)
 case atStart=>exact ⟨1,Nat.le_refl _,h0,rfl,by rw [HF.out.2];exact HF.out.1,Keep.refl _ _ _⟩
 case round=>
  obtain ⟨i,hi1,hi2,rfl,HR⟩:=hrel
  obtain ⟨wo,rfl⟩:∃W,W=wr:=⟨wr,rfl⟩
  clear HF
  by_cases hlt:i<n
  case neg=>
   obtain rfl:i=n:=by omega
   have HE:Hid (insF key (xs.take i)++xs.drop i=insF key xs):=insF_all key (by rw [HL.out];exact Nat.le_refl _)
   go_wp2
   refine bodyPost_end (v:=.tuple #[]) (by simp [results,go_sem]) rfl ⟨rfl,by rw [←HE.out];exact HR.out.1,HR.out.2⟩
  have di:decide ((i:Int)<(n:Int))=true:=by simp;exact hlt
  obtain ⟨x,hx⟩:∃x,xs[i]? = some x:=⟨_,List.getElem?_eq_getElem (by rw [HL.out];exact hlt)⟩
  have HX:=Lib.hid hx
  have hP:=insF_takeLen key (xs:=xs) (i:=i) (by rw [HL.out];exact hi2)
  have HP:=Lib.hid hP
  have HR2:Hid (Fr wo lo hi (.slice (some ⟨g,0,none⟩) n c) (rowJ (insF key (xs.take i)) x i (xs.drop (i+1)))∧Keep lo hi w wo):=⟨by rw [←insF_row key hx];exact HR.out.1,HR.out.2⟩
  clear hx hP HR
  go_wp2
  go_loopw [9] (fun v wr=>∃j:Nat,j≤i∧v=.int .i64 j∧Hid (Fr wr lo hi (.slice (some ⟨g,0,none⟩) n c) (rowJ (insF key (xs.take i)) x j (xs.drop (i+1)))∧Keep lo hi w wr∧posR key (insF key (xs.take i)) x i=posR key (insF key (xs.take i)) x j)) (fun v _=>(intOf v).toNat)
  case atStart=>exact ⟨i,Nat.le_refl _,rfl,HR2.out.1,HR2.out.2,rfl⟩
  case round=>
   obtain ⟨j,hj,rfl,HI⟩:=hrel
   clear HR2
   cases j with
   | zero=>
    have HE:Hid (rowJ (insF key (xs.take i)) x 0 (xs.drop (i+1))=insF key (xs.take (i+1))++xs.drop (i+1)):=insF_put key HX.out (by rw [HI.out.2.2];rfl)
    go_wp2_with fail
    go_quiet (fail)
    rename_i nq
    have HI2:Hid (Fr (wr.drewN nq) lo hi (.slice (some ⟨g,0,none⟩) n c) (insF key (xs.take (i+1))++xs.drop (i+1))∧Keep lo hi w (wr.drewN nq)):=⟨by rw [←HE.out];exact HI.out.1,HI.out.2.1.drewN nq⟩
    generalize wr.drewN nq=w2 at *
    clear HI HE
    go_wp2
    go_roundw
    all_goals first|exact ⟨i+1,by omega,by omega,by go_num,HI2.out.1,HI2.out.2⟩|(simp [intOf];try omega)
   | succ q=>
    obtain ⟨y,hy⟩:∃y,(insF key (xs.take i))[q]? = some y:=⟨_,List.getElem?_eq_getElem (by rw [HP.out];omega)⟩
    have HC2:Hid (∀W,Keep lo hi w W→Calls Tryz.prog G (#[.int .i64 x,.int .i64 y]++caps) W fun e W'=>∃c:Int,e=.returned (.int .i64 c)∧(c<0↔key y<key x)∧Below W.heap.size W W'):=fun W hW=>HC.out W x y hW (List.mem_of_getElem? HX.out) (insF_mem (List.mem_of_getElem? hy))
    have HY:=Lib.hid hy
    clear hy
    obtain ⟨c1,c2,f1,f2,hg,S1,S2⟩:=HI.out.1.swap HY.out
    have HS:=Lib.hid (And.intro S1 S2)
    have dq:decide ((0:Int)<(q:Int)+1)=true:=decide_eq_true (by omega)
    have i1:(0:Int)≤(q:Int)+1:=by omega
    have i2:(q:Int)+1<(n:Int):=by omega
    have i3:((q:Int)+1).toNat=q+1:=by omega
    have i4:(0:Int)≤(q:Int):=by omega
    have i5:(q:Int)<(n:Int):=by omega
    have i6:IntKind.i64.wrap ((q:Int)+1)=(q:Int)+1:=by rw [IntKind.wrap_i64];omega
    have i7:IntKind.i64.wrap (q:Int)=(q:Int):=by rw [IntKind.wrap_i64];omega
    have K1:Keep lo hi w wr.drew:=Keep.drewK HI.out.2.1
    clear S1 S2
    by_cases hk:key y<key x
    ·have HPos:Hid (posR key (insF key (xs.take i)) x (q+1)=posR key (insF key (xs.take i)) x q):=posR_go HY.out hk
     go_wp2_with fail
     go_region_held3 (fun W=>W.cell? ⟨g,q+1,none⟩=some (.int .i64 x)∧W.cell? ⟨g,q,none⟩=some (.int .i64 y)) (first|exact ⟨c1,c2⟩) (first|(refine (HC2.out _ K1).mono ?_;rintro e w3 ⟨c0,rfl,hcc,hb⟩;have F3:=(Fr.drew HI.out.1).grow hb;have K3:=K1.trans (Keep.of_below hb (Nat.le_refl _));clear c1 c2 f1 f2;obtain ⟨c1,c2,f1,f2,_,S1,S2⟩:=F3.swap HY.out;have cn:c0<0:=hcc.2 hk;have HS3:=Lib.hid (And.intro F3 (And.intro K3 (And.intro S1 S2)));clear F3 K3 S1 S2 hcc hb))
     clear HS
     go_wp2_with fail
     go_region
     have HI2:Hid (Fr ((w3.setCell ⟨g,q+1,none⟩ (.int .i64 y)).setCell ⟨g,q,none⟩ (.int .i64 x)).drew lo hi (.slice (some ⟨g,0,none⟩) n c) (rowJ (insF key (xs.take i)) x q (xs.drop (i+1)))∧Keep lo hi w ((w3.setCell ⟨g,q+1,none⟩ (.int .i64 y)).setCell ⟨g,q,none⟩ (.int .i64 x)).drew∧posR key (insF key (xs.take i)) x i=posR key (insF key (xs.take i)) x q):=
      ⟨Fr.drew HS3.out.2.2.1.1,Keep.drewK (HS3.out.2.1.trans HS3.out.2.2.1.2),HI.out.2.2.trans HPos.out⟩
     generalize ((w3.setCell ⟨g,q+1,none⟩ (.int .i64 y)).setCell ⟨g,q,none⟩ (.int .i64 x)).drew=w4 at *
     clear HI HS3 c1 c2 f1 f2
     go_wp2
     go_roundw
     all_goals first|exact ⟨q,by omega,by go_num,HI2.out.1,HI2.out.2.1,HI2.out.2.2⟩|(simp [intOf];try omega)
    ·have HPos:Hid (posR key (insF key (xs.take i)) x (q+1)=q+1):=posR_stop HY.out hk
     have HE:Hid (rowJ (insF key (xs.take i)) x (q+1) (xs.drop (i+1))=insF key (xs.take (i+1))++xs.drop (i+1)):=insF_put key HX.out (by rw [HI.out.2.2,HPos.out])
     go_wp2_with fail
     go_region_held3 (fun W=>W.cell? ⟨g,q+1,none⟩=some (.int .i64 x)∧W.cell? ⟨g,q,none⟩=some (.int .i64 y)) (first|exact ⟨c1,c2⟩) (first|(refine (HC2.out _ K1).mono ?_;rintro e w3 ⟨c0,rfl,hcc,hb⟩;have F3:=(Fr.drew HI.out.1).grow hb;have K3:=K1.trans (Keep.of_below hb (Nat.le_refl _));clear c1 c2 f1 f2;obtain ⟨c1,c2,f1,f2,_,S1,S2⟩:=F3.swap HY.out;have cn:¬c0<0:=fun h=>absurd (hcc.1 h) (Int.not_lt.2 hk);have HS3:=Lib.hid (And.intro F3 (And.intro K3 (And.intro S1 S2)));clear F3 K3 S1 S2 hcc hb))
     have HI2:Hid (Fr w3 lo hi (.slice (some ⟨g,0,none⟩) n c) (insF key (xs.take (i+1))++xs.drop (i+1))∧Keep lo hi w w3):=⟨by rw [←HE.out];exact HS3.out.1,HS3.out.2.1⟩
     clear HI HE HS HS3
     go_wp2
     go_roundw
     all_goals first|exact ⟨i+1,by omega,by omega,by go_num,HI2.out.1,HI2.out.2⟩|(simp [intOf];try omega)
theorem sortStable_any (w:World) (lo hi g c:Nat) (xs:List Int) (key:Int→Int) (G:FuncId) (caps:Array Value) (hf:Fr w lo hi (.slice (some ⟨g,0,none⟩) xs.length c) xs) (h0:0<xs.length) (hn:xs.length≤19)
  (hG:∀(args:Array Value) (W:World),(callFunc G args).run Tryz.prog W=.ok (.enter G args) W) (hc:CmpBy w lo hi G caps xs key):
  Calls Tryz.prog 371 #[.slice (some ⟨g,0,none⟩) xs.length c,.func (.func G) #[] caps] w fun e w'=>e=.returned (.tuple #[])∧Fr w' lo hi (.slice (some ⟨g,0,none⟩) xs.length c) (insF key xs)∧Keep lo hi w w':=by
 have HI:=Lib.hid (insertion_any w lo hi g c xs key G caps hf h0 (by omega) hG hc)
 clear hf hc
 have HS:Hid (Calls Tryz.prog 386 #[.slice (some ⟨g,0,none⟩) xs.length c,.int .i64 (xs.length:Int),.func (.func G) #[] caps] w fun e w'=>e=.returned (.tuple #[])∧Fr w' lo hi (.slice (some ⟨g,0,none⟩) xs.length c) (insF key xs)∧Keep lo hi w w'):=by
  show Calls _ _ _ _ _
  generalize hl:insF key xs=ys at *
  generalize xs.length=n at *
  clear hl
  go_enter Tryz.func386,Tryz.ntmps386
  go_wp2
  go_loop [7,8] (fun a b=>a=.int .i64 0∧b=.int .i64 20) (fun _ _=>0)
  case atStart=>exact ⟨rfl,rfl⟩
  case round=>
   obtain ⟨rfl,rfl⟩:=hrel
   go_wp2_with fail
   refine HI.out.mono ?_
   rintro e w1 ⟨rfl,h⟩
   have H1:=Lib.hid h
   clear h
   go_wp2
   go_loop [6] (fun a=>a=.int .i64 20) (fun _=>0)
   case atStart=>exact rfl
   case round=>
    obtain rfl:=hrel
    go_wp2
    refine bodyPost_end (v:=.tuple #[]) (by simp [results,go_sem]) rfl ⟨rfl,H1.out⟩
 go_enter Tryz.func371,Tryz.ntmps371
 go_wp2_with fail
 refine HS.out.mono ?_
 rintro e w1 ⟨rfl,h⟩
 have H1:=Lib.hid h
 clear h
 go_wp2
 refine bodyPost_end (v:=.tuple #[]) (by simp [results,go_sem]) rfl ⟨rfl,H1.out⟩
def idxs (n:Nat):List Int:=(List.range n).map (fun (i:Nat)=>(i:Int))
theorem idxs_length (n:Nat):(idxs n).length=n:=by simp [idxs]
theorem idxs_get {n k:Nat} (h:k<n):(idxs n)[k]? = some (k:Int):=by simp [idxs,h]
theorem idxs_mem {n:Nat}{x:Int}:x∈idxs n↔0≤x∧x<n:=by
 simp only [idxs,List.mem_map,List.mem_range]
 constructor
 ·rintro ⟨a,h,rfl⟩;omega
 ·intro h;exact ⟨x.toNat,by omega,by omega⟩
theorem Fr.lift {w:World}{lo hi:Nat}{v:Value}{xs ys:List Int} (h:Fr w lo hi v xs) (e:xs=ys):Fr w lo hi v ys:=e ▸ h
theorem idx_start (n:Nat):List.replicate n (0:Int)=(idxs n).take 0++List.replicate (n-0) 0:=by simp
theorem idx_end (n:Nat):(idxs n).take n++List.replicate (n-n) (0:Int)=idxs n:=by rw [Nat.sub_self,List.take_of_length_le (by rw [idxs_length];omega)];simp
theorem idx_set {n j:Nat} (h:j<n):((idxs n).take j++List.replicate (n-j) (0:Int)).set j (j:Int)=(idxs n).take (j+1)++List.replicate (n-(j+1)) 0:=by
 rw [take_snoc (idxs_get h),List.set_append_right _ _ (by simp [idxs_length];omega)]
 have:((idxs n).take j).length=j:=by simp [idxs_length];omega
 rw [this,Nat.sub_self,show n-j=(n-(j+1))+1 from by omega,List.replicate_succ]
 simp
theorem indices_any (n:Nat) (w:World) (hn:n≤1048576):
  Calls Tryz.prog 157 #[.int .i64 (n:Int)] w fun e w'=>∃v',e=.returned v'∧Fr w' w.heap.size w'.heap.size v' (idxs n)∧Below w.heap.size w w':=by
 go_enter Tryz.func157,Tryz.ntmps157
 go_wp2_with (at_make;refine makeI rfl _ _ rfl w n rfl rfl (by omega) ?_;intro w1 hfr hb hsz)
 have HF:=Lib.hid ((hfr.wide (Nat.le_refl _) (Nat.le_refl _) (Nat.le_refl _)).lift (idx_start n))
 have HB:=Lib.hid (hb)
 clear hfr hb hsz
 go_loopw [9] (fun i wr=>∃j:Nat,j≤n∧i=.int .i64 j∧Hid (Fr wr w.heap.size wr.heap.size (.slice (some ⟨w.heap.size,0,none⟩) n n) ((idxs n).take j++List.replicate (n-j) 0)∧Below w.heap.size w wr)) (fun i _=>n-(intOf i).toNat)
 case atStart=>exact ⟨0,Nat.zero_le _,rfl,HF.out,HB.out⟩
 case round=>
  obtain ⟨j,hj,rfl,HR⟩:=hrel
  clear HF HB
  by_cases hlt:j<n
  ·obtain ⟨g,y,hg,h1,h2,h3,h4,h5,h6⟩:=HR.out.1.at_ (k:=j) (by simp [idxs_length];omega)
   obtain rfl:w.heap.size=g:=by injection hg with hg;injection hg
   have HST:=Lib.hid (h6 (j:Int))
   clear h6 h3 hg
   go_wp2
   go_roundw
   case rel=>
    exact ⟨j+1,by omega,by go_num,((HST.out.1.lift (idx_set hlt)).wide (Nat.le_refl _) HST.out.2.size (Nat.le_refl _)),HR.out.2.trans (HST.out.2.below (Nat.le_refl _) HR.out.2.size)⟩
   case measure=>simp [intOf];omega
  ·obtain rfl:j=n:=by omega
   go_wp2
   go_ret
   exact ⟨_,rfl,HR.out.1.lift (idx_end j),HR.out.2⟩
end Go.Proofs.YtkapoldjcpfdgaaGreatDoor
