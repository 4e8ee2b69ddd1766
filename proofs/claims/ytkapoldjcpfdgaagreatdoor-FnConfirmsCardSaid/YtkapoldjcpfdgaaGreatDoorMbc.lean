/- The orders of a list, one by one, until one fits: the program's iterator. -/
import Derived.Laws.CopyOwn
import Derived.Test.YtkapoldjcpfdgaaGreatDoorMbb
set_option maxHeartbeats 4000000
set_option maxRecDepth 100000
namespace Go.Proofs.YtkapoldjcpfdgaaGreatDoor
open Go.ChangeShapes Go.WideShapes Go.ChangeAt Go.RowKit
def repV (n k:Nat) (v:Int):List Value:=ints (List.replicate k v++List.replicate (n-k) 0)
theorem repV_len {n k:Nat}{v:Int} (h:k≤n):(repV n k v).length=n:=by simp [repV,ints];omega
theorem repV_at {n k j:Nat}{v:Int} (h:j<k):(repV n k v)[j]? = some (.int .i64 v):=by
 unfold repV ints
 rw [List.getElem?_map,List.getElem?_append_left (by simpa using h)]
 simp [h]
theorem repV_splice {n k m:Nat}{v:Int} (_h:k+m≤n):splice (repV n k v) k (ints (List.replicate m v))=repV n (k+m) v:=by
 unfold splice repV
 have e1:(ints (List.replicate k v++List.replicate (n-k) 0)).take k=ints (List.replicate k v):=by
  rw [ints_append,List.take_left' (by simp [ints])]
 have e2:(ints (List.replicate k v++List.replicate (n-k) 0)).drop (k+(ints (List.replicate m v)).length)=ints (List.replicate (n-(k+m)) 0):=by
  have:(ints (List.replicate m v)).length=m:=by simp [ints]
  rw [this,ints_append,←List.drop_drop,List.drop_left' (by simp [ints])]
  unfold ints
  rw [←List.map_drop,List.drop_replicate,show n-k-m=n-(k+m) by omega]
 rw [e1,e2,←ints_append,←ints_append,←List.append_assoc,List.replicate_append_replicate]
theorem repeat_any (b n:Nat) (v:Int) (w:World) (h1:1≤n) (hn:n≤1048576) (hc:w.cell? ⟨b,0,none⟩=some (.int .i64 v)):
  Calls Tryz.prog 375 #[.slice (some ⟨b,0,none⟩) 1 1,.int .i64 (n:Int)] w fun e w'=>∃g,e=.returned (.slice (some ⟨g,0,none⟩) n n)∧w'.heap[g]? = some (.cells (ints (List.replicate n v)).toArray 3 (0,0))∧w.heap.size≤g∧Below w.heap.size w w':=by
 have HC:=Lib.hid hc
 have HMU:Hid (∀W,Calls Tryz.prog 387 #[.int .u64 1,.int .u64 (n:Int)] W fun e w'=>e=.returned (.tuple #[.int .u64 0,.int .u64 (n:Int)])∧W=w'):=fun W=>by
  refine (Tryz.bits_Mul 1 n (by omega) (by omega) W).mono ?_
  rintro e w' ⟨rfl,rfl⟩
  refine ⟨?_,rfl⟩
  rw [Nat.one_mul,Nat.div_eq_of_lt (by omega),Nat.mod_eq_of_lt (by omega)];rfl
 have hn0:¬(n:Int)<0:=by omega
 have hn1:decide ((9223372036854775807:Int)<(n:Int))=false:=decide_eq_false (by omega)
 have HROW:Hid (∀w1,Fr w1 w.heap.size w1.heap.size (.slice (some ⟨w.heap.size,0,none⟩) n n) (List.replicate n 0)→w1.heap[w.heap.size]? = some (.cells (repV n 0 v).toArray 3 (0,0))):=fun w1 hfr=>by
  rcases hfr.1.2 with ⟨e,_⟩|⟨g,cap,cur,e,h1,h2,h3,h4,h5,h6⟩
  ·cases e
  ·injection e with e e2 e3
   injection e with e
   injection e with e
   subst e;subst e3
   rw [h2]
   have hl:cur.toList=repV n 0 v:=by
    have h7:cur.toList.length=n:=by simpa using h5
    rw [List.length_replicate,Nat.mul_one,List.take_of_length_le (by omega)] at h6
    rw [h6];simp [repV]
   rw [←hl]
 have HCS:Hid (∀m,(ints (List.replicate m v)).length=m):=fun m=>by simp [ints]
 have HONE:Hid (∀m,∀u∈ints (List.replicate m v),u.oneCell'=true):=fun m u hu=>by
  simp only [ints,List.mem_map] at hu
  obtain ⟨y,_,rfl⟩:=hu;rfl
 have HINT:Hid ((Tryz.prog.info? 3).map (·.size)=some 1):=by show _=_;kernel_rfl
 clear hc
 obtain ⟨g,hg⟩:∃g,w.heap.size=g:=⟨_,rfl⟩
 rw [hg] at HROW
 have HGE:=Lib.hid hg
 go_enter Tryz.func375,Tryz.ntmps375
 go_wp2_with (first
  | (go_at_call 387;refine (HMU.out _).mono ?_;rintro e w_ ⟨rfl,rfl⟩)
  | (at_make;refine makeI rfl _ _ rfl w n rfl rfl (by omega) ?_;intro w1 hfr hb hsz;rw [hg] at hfr hb ⊢;have H1:=Lib.hid (And.intro (HROW.out w1 hfr) hb);have hcb:w1.cell? ⟨b,0,none⟩=some (.int .i64 v):=(hb.cell (p:=⟨b,0,none⟩) (by have:=block_lt_of_cell HC.out;rw [hg] at this;exact this)).trans HC.out;clear hfr hb hsz)
  | (refine wpList_copy_splice rfl _ _ 25 25 rfl 3 Tryz.underlying25 HINT.out (some ⟨g,0,none⟩) (some ⟨b,0,none⟩) n n 1 1 rfl rfl g 0 (repV n 0 v) 3 H1.out.1 (ints (List.replicate 1 v)) (by rw [HCS.out];exact (Nat.min_eq_left h1).symm) (fun _=>⟨rfl,_,rfl,fun j u hj=>by cases j with|zero=>(injection hj with hj;subst hj;exact hcb)|succ j=>cases hj⟩) (by rw [HCS.out,repV_len (Nat.zero_le _)];omega) (HONE.out 1) g w H1.out.2 (Nat.le_refl _) ?_;intro w2 hw2 hb2;have H2:Hid (w2.heap[g]? = some (.cells (repV n 1 v).toArray 3 (0,0))∧Below g w w2):=⟨by have h:=hw2.out;rw [repV_splice (k:=0) (m:=1) (by omega)] at h;exact h,hb2⟩;clear hw2 hb2))
 clear hcb H1 HROW HMU
 have HC1:Hid ((ints [v]).length=1):=rfl
 go_loopw [8] (fun i wr=>∃k:Nat,1≤k∧k≤n∧i=.int .i64 (k:Int)∧Hid (wr.heap[g]? = some (.cells (repV n k v).toArray 3 (0,0))∧Below g w wr)) (fun i _=>n-(intOf i).toNat)
 case atStart=>exact ⟨1,Nat.le_refl _,h1,rfl,H2.out⟩
 case round=>
  obtain ⟨k,hk1,hk,rfl,HR⟩:=hrel
  clear H2
  by_cases hlt:k<n
  case neg=>
   obtain rfl:k=n:=by omega
   go_wp2
   go_ret
   refine ⟨g,rfl,?_,by rw [HGE.out];exact Nat.le_refl _,by rw [HGE.out];exact HR.out.2⟩
   have h:=HR.out.1
   simpa [repV] using h
  obtain ⟨m,hm⟩:∃m,Nat.min k (n-k)=m:=⟨_,rfl⟩
  have hm1:1≤m:=by rw [←hm];exact Nat.le_min.2 ⟨hk1,by omega⟩
  have hmk:m≤k:=by rw [←hm];exact Nat.min_le_left ..
  have hmn:m≤n-k:=by rw [←hm];exact Nat.min_le_right ..
  have HM:=Lib.hid hm
  have hne:¬n=k:=by omega
  have ew:IntKind.i64.wrap ((k:Int)+(m:Int))=(k:Int)+(m:Int):=by rw [IntKind.wrap_i64];omega
  have hki:(k:Int)≤(n:Int):=by omega
  have HRd:Hid (wr.drew.heap[g]? = some (.cells (repV n k v).toArray 3 (0,0))∧Below g w wr.drew):=⟨HR.out.1,HR.out.2.trans (below_of_drewN g wr 1)⟩
  have HSP:=Lib.hid (repV_splice (n:=n) (k:=k) (m:=m) (v:=v) (by omega))
  have HAT:Hid (∀j,j<k→wr.drew.cell? ⟨g,j,none⟩=some (.int .i64 v)):=fun j hj=>by
   simp only [World.cell?,HRd.out.1,List.getElem?_toArray]
   exact repV_at hj
  clear hm
  obtain ⟨cs,hcs⟩:∃cs,ints (List.replicate m v)=cs:=⟨_,rfl⟩
  have HL:Hid (cs.length=m):=by show _=_;rw [←hcs];exact HCS.out m
  have HO1:Hid (∀u∈cs,u.oneCell'=true):=by rw [←hcs];exact HONE.out m
  have HG1:Hid (∀j u,cs[j]? = some u→j<m∧u=.int .i64 v):=fun j u hj=>by
   have hjl:=(List.getElem?_eq_some_iff.1 hj).1
   rw [HL.out] at hjl
   rw [←hcs] at hj
   simp [ints,hjl] at hj
   exact ⟨hjl,hj.symm⟩
  rw [hcs] at HSP
  clear hcs HR
  go_wp2_with fail
  go_region_held3 (fun _=>True) (first|exact trivial) (first|(refine step_copy_splice rfl (.tmp 41) (.tmp 44) 25 25 rfl 3 Tryz.underlying25 HINT.out (some ⟨g,k,none⟩) (some ⟨g,0,none⟩) (n-k) (n-k) k n rfl rfl g k (repV n k v) 3 HRd.out.1 cs (by rw [HL.out];exact HM.out.symm) (fun _=>⟨rfl,_,rfl,fun j u hj=>by obtain ⟨h1,h2⟩:=HG1.out j u hj;rw [h2,Addr.add_lit,Nat.zero_add];exact HAT.out j (by omega)⟩) (by rw [HL.out,repV_len hk];omega) HO1.out g w HRd.out.2 (Nat.le_refl _) ?_;intro w3 hw3 hb3;rw [HL.out];have H3:Hid (w3.heap[g]? = some (.cells (repV n (k+m) v).toArray 3 (0,0))∧Below g w w3):=⟨by have h:=hw3.out;rw [HSP.out] at h;exact h,hb3⟩;clear hw3 hb3))
  go_wp2
  go_roundw
  case rel=>exact ⟨k+m,by omega,by omega,by go_num,H3.out⟩
  case measure=>simp [intOf];omega
def symTo (met:List Int) (a b:Nat):Bool:=(List.range b).all fun b=>(met.getD a 0).toNat.testBit b==(met.getD b 0).toNat.testBit a
theorem symTo_snoc (met:List Int) (a b:Nat):symTo met a (b+1)=(symTo met a b && ((met.getD a 0).toNat.testBit b==(met.getD b 0).toNat.testBit a)):=by simp [symTo,List.range_succ,List.all_append]
theorem symTo_bad {met:List Int}{a b n:Nat} (hb:b<n) (h:(met.getD a 0).toNat.testBit b≠(met.getD b 0).toNat.testBit a):symTo met a n=false:=List.all_eq_false.2 ⟨b,List.mem_range.2 hb,by simpa using h⟩
theorem swRow_eq (met:List Int) (n a:Nat):swRow met n a=(!(met.getD a 0).toNat.testBit a && symTo met a n):=rfl
def rowsTo (met:List Int) (n a:Nat):Bool:=(List.range a).all (swRow met n)
theorem rowsTo_snoc (met:List Int) (n a:Nat):rowsTo met n (a+1)=(rowsTo met n a && swRow met n a):=by simp [rowsTo,List.range_succ,List.all_append]
theorem rowsTo_bad {met:List Int}{a n:Nat} (ha:a<n) (h:swRow met n a=false):rowsTo met n n=false:=List.all_eq_false.2 ⟨a,List.mem_range.2 ha,by simp [h]⟩
theorem swB_eq (points met:List Int):swB points met=(isSwB points && (decide (met.length=points.length) && ((met.all fun x=>inB x 0 (2^points.length-1)) && rowsTo met points.length points.length))):=rfl
theorem isSwB_len {points:List Int} (h:isSwB points=true):2≤points.length∧points.length≤8∧points.length%2=0:=by
  unfold isSwB at h
  simp only [Bool.and_eq_true,decide_eq_true_eq] at h
  exact ⟨h.1,h.2.1,h.2.2.1⟩
theorem pow_le8i:∀n:Fin 9,(2:Int)^n.val-1≤255∧0≤(2:Int)^n.val-1∧wrap64 ((2:Int)^n.val)=2^n.val∧IntKind.i64.wrap ((2:Int)^n.val)=2^n.val:=by decide +kernel
theorem implSwissOk_any (A B:Option Addr) (c d:Nat) (points met:List Int) (w:World) (hs:SlI w A points) (ht:SlI w B met) (hn:points.length≤1048576) (hm:met.length≤1048576):
    Calls Tryz.prog 340 #[.slice A points.length c,.slice B met.length d] w fun e w'=>e=.returned (.bool (swB points met))∧Below w.heap.size w w':=by
  have HE:=Lib.hid (swB_eq points met)
  have HT:=Lib.hid ht
  have HIS:=Lib.hid (isSwiss_any A c points w hs hn)
  cases h1:isSwB points
  · have HX:Hid (swB points met=false):=by show _=_;rw [HE.out,h1];rfl
    rw [h1] at HIS
    clear h1 hs ht HE
    go_enter Tryz.func340,Tryz.ntmps340
    go_wp2_with (go_at_call 373;refine HIS.out.mono ?_;rintro e w1 ⟨rfl,hb⟩;have B1:=Lib.hid hb;clear hb)
    go_ret
    exact ⟨by rw [HX.out];rfl,B1.out⟩
  obtain ⟨s1,s2,-⟩:=isSwB_len h1
  rw [h1] at HIS
  by_cases h2:met.length=points.length
  case neg=>
    have HX:Hid (swB points met=false):=by show _=_;rw [HE.out,decide_eq_false h2];simp
    have x2:((met.length:Int) != (points.length:Int))=true:=by rw [bne_iff_ne];omega
    clear h1 hs ht HE h2
    go_enter Tryz.func340,Tryz.ntmps340
    go_wp2_with (go_at_call 373;refine HIS.out.mono ?_;rintro e w1 ⟨rfl,hb⟩;have B1:=Lib.hid hb;clear hb)
    go_ret
    exact ⟨by rw [HX.out];rfl,B1.out⟩
  have HAW:Hid (∀W,Below w.heap.size w W→Calls Tryz.prog 239 #[.slice B met.length d,.int .i64 0,.int .i64 (2^points.length-1)] W fun e w'=>e=.returned (.bool (met.all (fun x=>inB x 0 (2^points.length-1))))∧Below W.heap.size W w'):=fun W hW=>allWithin_any B d met 0 _ W (HT.out.below hW) hm
  obtain ⟨p1,p2,p3,p4⟩:=pow_le8i ⟨points.length,by omega⟩
  simp only at p1 p2 p3 p4
  rw [h2] at HAW ⊢
  have HML:=Lib.hid h2
  have HBD:Hid ((met.all fun x=>inB x 0 (2^points.length-1))=true→∀(k:Nat) (z:Int),met[k]? = some z→0≤z∧z≤255):=fun h k z hz=>by
    have:=inB_t.1 (List.all_eq_true.1 h z (List.mem_of_getElem? hz))
    omega
  rw [decide_eq_true h2,h1] at HE
  clear h1 hs ht h2 hn hm
  generalize points.length=n at *
  have x2:((n:Int) != (n:Int))=false:=by simp
  obtain ⟨T,hT⟩:∃T,(2:Int)^n=T:=⟨_,rfl⟩
  rw [hT] at HAW HE HBD p1 p2 p3 p4
  cases h3:met.all fun x=>inB x 0 (T-1)
  · have HX:Hid (swB points met=false):=by show _=_;rw [HE.out,h3];rfl
    rw [h3] at HAW
    clear h3 HE HBD
    go_enter Tryz.func340,Tryz.ntmps340
    go_wp2_with (first
      | (go_at_call 373;refine HIS.out.mono ?_;rintro e w1 ⟨rfl,hb⟩;have B1:=Lib.hid hb;clear hb)
      | (go_at_call 239;refine (HAW.out _ B1.out).mono ?_;rintro e w2 ⟨rfl,hb⟩;have B2:Hid (Below w.heap.size w w2):=B1.out.trans (hb.mono B1.out.size);clear hb))
    go_ret
    exact ⟨by rw [HX.out];rfl,B2.out⟩
  have HZ:=Lib.hid (HBD.out h3)
  rw [h3] at HAW HE
  have HE2:Hid (swB points met=rowsTo met n n):=by show _=_;rw [HE.out];rfl
  clear h3 HE HBD
  go_enter Tryz.func340,Tryz.ntmps340
  go_wp2_with (first
    | (go_at_call 373;refine HIS.out.mono ?_;rintro e w1 ⟨rfl,hb⟩;have B1:=Lib.hid hb;clear hb)
    | (go_at_call 239;refine (HAW.out _ B1.out).mono ?_;rintro e w2 ⟨rfl,hb⟩;have B2:Hid (Below w.heap.size w w2):=B1.out.trans (hb.mono B1.out.size);clear hb))
  clear hT p1 p2 p3 p4
  go_loopw [29] (fun i wr=>∃a:Nat,a≤n∧i=.int .i64 (a:Int)∧Hid (rowsTo met n a=true∧Below w.heap.size w wr)) (fun i _=>n-(intOf i).toNat)
  case atStart=>exact ⟨0,Nat.zero_le _,rfl,rfl,B2.out⟩
  case round=>
    obtain ⟨a,ha,rfl,HR⟩:=hrel
    obtain ⟨wo,rfl⟩:∃W,W=wr:=⟨wr,rfl⟩
    clear B1 B2
    by_cases hlt:a<n
    case neg=>
      obtain rfl:a=n:=by omega
      go_wp2
      go_ret
      exact ⟨by rw [HE2.out,HR.out.1];rfl,HR.out.2⟩
    obtain ⟨b,off,y,rfl,hy,cy,-⟩:=(HT.out.below HR.out.2).at_ (k:=a) (by rw [HML.out];exact hlt)
    obtain ⟨y1,y2⟩:=HZ.out a y hy
    have HY:Hid (met.getD a 0=y):=by show _=_;rw [List.getD_eq_getElem?_getD,hy];rfl
    have e1:=bit_at (w:=y) (b:=a) y1 y2 (by omega)
    have f1:(0:Int)≤(a:Int)∧(a:Int)<(n:Int):=by omega
    clear hy
    cases hb0:y.toNat.testBit a
    case true=>
      have HX:Hid (swB points met=false):=by show _=_;rw [HE2.out,rowsTo_bad hlt (by rw [swRow_eq,HY.out,hb0];rfl)]
      rw [hb0,if_pos rfl] at e1
      clear hb0
      go_wp2
      go_ret
      exact ⟨by rw [HX.out];rfl,HR.out.2⟩
    have HRW:Hid (swRow met n a=symTo met a n):=by show _=_;rw [swRow_eq,HY.out,hb0];rfl
    rw [hb0,if_neg (by simp)] at e1
    clear hb0
    go_wp2
    clear e1
    go_loopw [41] (fun i wr=>∃k:Nat,k≤n∧i=.int .i64 (k:Int)∧Hid (symTo met a k=true∧Below w.heap.size w wr)) (fun i _=>n-(intOf i).toNat)
    case atStart=>exact ⟨0,Nat.zero_le _,rfl,rfl,HR.out.2⟩
    case round=>
      obtain ⟨k,hk,rfl,HI⟩:=hrel
      by_cases hlt2:k<n
      case neg=>
        obtain rfl:k=n:=by omega
        go_wp2
        go_roundw
        case rel=>exact ⟨a+1,by omega,by go_num,by rw [rowsTo_snoc,HR.out.1,HRW.out,HI.out.1];rfl,HI.out.2⟩
        case measure=>simp [intOf];omega
      obtain ⟨b2,off2,z,e,hz,cz,-⟩:=(HT.out.below HI.out.2).at_ (k:=k) (by rw [HML.out];exact hlt2)
      injection e with e;injection e with r1 r2;subst r1;subst r2
      obtain ⟨z1,z2⟩:=HZ.out k z hz
      have HZK:Hid (met.getD k 0=z):=by show _=_;rw [List.getD_eq_getElem?_getD,hz];rfl
      have e1:=bit_at (w:=y) (b:=k) y1 y2 (by omega)
      have e2:=bit_at (w:=z) (b:=a) z1 z2 (by omega)
      have f2:(0:Int)≤(k:Int)∧(k:Int)<(n:Int):=by omega
      clear hz
      cases hb1:y.toNat.testBit k<;>cases hb2:z.toNat.testBit a
      all_goals
        rw [hb1] at e1
        rw [hb2] at e2
        simp only [Bool.false_eq_true,if_true,if_false] at e1 e2
        have HB:=Lib.hid (And.intro hb1 hb2)
        clear hb1 hb2
        go_wp2_with fail
        go_quiet (fail)
        have HBW:=Lib.hid (below_drewN HI.out.2 nq)
        generalize wr.drewN nq=wn at *
        first
          | (have HN : Hid (symTo met a (k + 1) = true) := (by show _ = _; rw [symTo_snoc, HI.out.1, HY.out, HZK.out, HB.out.1, HB.out.2]; rfl)
             go_wp2
             go_roundw
             case rel=>exact ⟨k+1,by omega,by go_num,HN.out,HBW.out⟩
             case measure=>simp [intOf];omega)
          | (have HX : Hid (swB points met = false) := (by show _ = _; rw [HE2.out, rowsTo_bad hlt (by rw [HRW.out]; exact symTo_bad hlt2 (by rw [HY.out, HZK.out, HB.out.1, HB.out.2]; decide))])
             go_wp2
             go_ret
             exact ⟨by rw [HX.out];rfl,HBW.out⟩)
def wnrF (W:List Int):Nat→List Int→Int
 | 0,l=>l.getD 0 0
 | f+1,l=>if l.length≤1 then l.getD 0 0 else wnrF W f (brNextTo W l (l.length/2))
theorem brNextTo_map (W l:List Int):∀k,brNextTo W l k=(List.range k).map fun i=>goesOn W (l.getD (2*i) 0) (l.getD (2*i+1) 0)
 | 0=>rfl
 | k+1=>by rw [brNextTo,brNextTo_map W l k,List.range_succ,List.map_append];rfl
theorem brNextTo_len (W l:List Int) (k:Nat):(brNextTo W l k).length=k:=by rw [brNextTo_map];simp
theorem visitS_mem {n:Nat}:∀ {f:Nat}{cur L:List Int},L∈visit n f cur↔∃t,L=cur++t∧t.length=f∧(∀x∈t,0≤x∧x<n)∧(∀x∈t,x ∉ cur)∧t.Nodup
 | 0,cur,L=>by
  rw [visit,List.mem_singleton]
  constructor
  ·rintro rfl;exact ⟨[],by simp⟩
  ·rintro ⟨t,rfl,h,_⟩
   rw [List.eq_nil_of_length_eq_zero h,List.append_nil]
 | f+1,cur,L=>by
  rw [visit,List.mem_flatMap]
  constructor
  ·rintro ⟨x,hx,h⟩
   split at h
   ·simp at h
   ·rename_i hc
    obtain ⟨t,rfl,h1,h2,h3,h4⟩:=visitS_mem.1 h
    refine ⟨x :: t,by simp,by simp [h1],?_,?_,?_⟩
    ·intro y hy
     rcases List.mem_cons.1 hy with rfl|hy
     ·exact idxs_mem.1 hx
     ·exact h2 y hy
    ·intro y hy
     rcases List.mem_cons.1 hy with rfl|hy
     ·intro hm;exact hc (List.contains_iff_mem.2 hm)
     ·exact fun hm=>h3 y hy (List.mem_append_left _ hm)
    ·exact List.nodup_cons.2 ⟨fun hm=>h3 x hm (by simp),h4⟩
  ·rintro ⟨t,rfl,h1,h2,h3,h4⟩
   match t,h1 with
   | x :: t,h1=>
    refine ⟨x,idxs_mem.2 (h2 x (by simp)),?_⟩
    have hc:cur.contains x=false:=by
     rw [Bool.eq_false_iff];exact fun h=>h3 x (by simp) (List.contains_iff_mem.1 h)
    rw [hc,if_neg (by simp)]
    have h5:=List.nodup_cons.1 h4
    refine visitS_mem.2 ⟨t,by simp,by simpa using h1,fun y hy=>h2 y (by simp [hy]),fun y hy hm=>?_,h5.2⟩
    rcases List.mem_append.1 hm with hm|hm
    ·exact h3 y (by simp [hy]) hm
    ·rw [List.mem_singleton] at hm;subst hm;exact h5.1 hy
theorem allOS_mem {n:Nat}{L:List Int}:L∈allO n↔L.length=n∧(∀x∈L,0≤x∧x<n)∧L.Nodup:=by
 unfold allO
 rw [visitS_mem]
 constructor
 ·rintro ⟨t,rfl,h1,h2,_,h4⟩;exact ⟨by simpa using h1,by simpa using h2,by simpa using h4⟩
 ·rintro ⟨h1,h2,h4⟩;exact ⟨L,rfl,h1,h2,fun _ _ h=>by simp at h,h4⟩
def bfF (x:TourV) (a:Int):Option (List Int):=if tourB x && (brSize x.wins.length && inB a 0 ((x.wins.length:Int)-1)) then (allO x.wins.length).find? fun o=>wnrF x.wins 3 o==a else none
theorem pow_le3 {k:Nat} (h:k≤3):2^k≤8:=by
 have:2^k≤2^3:=Nat.pow_le_pow_right (by omega) h
 omega
theorem winner_any (v:Value) (x:TourV) (u:Value) (l:List Int) (k:Nat) (w:World) (hs:InT w v x) (hu:InI w u l) (hok:tourB x=true) (hr:rngB x.wins.length l) (hl:l.length=2^k) (hk:k≤3):
  Calls Tryz.prog 184 #[v,u] w fun e w'=>e=.returned (.int .i64 (wnrF x.wins 3 l))∧Below w.heap.size w w':=by
 have HIT:=Lib.hid hs
 have HU:=Lib.hid hu
 have HOK:=Lib.hid hok
 obtain ⟨u0,rfl,A0,c0,rfl,hc0,hm0,hsl0⟩:=hs
 obtain ⟨A,c,rfl,hc,hm,hsl⟩:=hu
 have HB0:Hid (Below w.heap.size w (w.alloc (.cells #[.int .i64 x.size,.slice A0 x.wins.length c0] 27))∧Bx (w.alloc (.cells #[.int .i64 x.size,.slice A0 x.wins.length c0] 27)) w.heap.size (.int .i64 x.size) (.slice A0 x.wins.length c0)):=⟨(Below.refl _ w).alloc (Nat.le_refl _) _,⟨by simp,by simp,by simp⟩⟩
 obtain ⟨R,hR⟩:∃R,wnrF x.wins 3 l=R:=⟨_,rfl⟩
 have H0:Hid (wnrF x.wins 3 l=R∧rngB x.wins.length l∧InI w (.slice A l.length c) l):=⟨hR,hr,HU.out⟩
 have HL:=Lib.hid (And.intro hl hk)
 rw [hR]
 clear hsl0 hsl hR hr hok HU hc hm hc0 hm0 hl hk
 obtain ⟨n,hn⟩:∃n,l.length=n:=⟨_,rfl⟩
 rw [hn] at H0 HL ⊢
 have HN:=Lib.hid hn
 clear hn
 go_enter Tryz.func184,Tryz.ntmps184
 go_wp2
 go_loopw [1] (fun s wr=>∃(l':List Int) (f m:Nat) (s':Value),s'=s∧Hid (InI wr s' l'∧l'.length=2^m∧m≤f∧f≤3∧wnrF x.wins f l'=R∧rngB x.wins.length l'∧Below w.heap.size w wr∧Bx wr w.heap.size (.int .i64 x.size) (.slice A0 x.wins.length c0))) (fun s _=>lenV s)
 case atStart=>exact ⟨l,3,k,_,rfl,(by have:=H0.out.2.2;exact this.below HB0.out.1),by rw [HN.out];exact HL.out.1,HL.out.2,Nat.le_refl _,H0.out.1,H0.out.2.1,HB0.out.1,HB0.out.2⟩
 case round=>
  obtain ⟨l',f,m,s',rfl,HR⟩:=hrel
  clear H0 HB0 HL HN
  obtain ⟨A2,c2,rfl,hc2,hm2,hsl2⟩:=HR.out.1
  have hp:=pow_le3 (Nat.le_trans HR.out.2.2.1 HR.out.2.2.2.1)
  have hlen:=HR.out.2.1
  cases m with
  | zero=>
   have hone:l'.length=1:=hlen
   have HE:Hid (l'.getD 0 0=R):=by
    have h:=HR.out.2.2.2.2.1
    cases f with
    | zero=>exact h
    | succ f=>rw [wnrF,if_pos (by rw [hone];exact Nat.le_refl _)] at h;exact h
   obtain ⟨b,off,y,rfl,hy,cy,-⟩:=hsl2.at_ (k:=0) (by omega)
   have HY:Hid (y=R):=by show _=_;rw [←HE.out,List.getD_eq_getElem?_getD,hy];rfl
   have HBE:=Lib.hid HR.out.2.2.2.2.2.2.1
   rw [Nat.add_zero] at cy
   rw [hone] at HR ⊢
   clear hsl2 hlen hone hy hp hc2
   go_wp2
   go_ret
   exact ⟨by rw [HY.out];rfl,HBE.out⟩
  | succ m=>
   have he:2^(m+1)=2*2^m:=by rw [Nat.pow_succ];omega
   have hpos:=Nat.two_pow_pos m
   obtain ⟨q,hq⟩:∃q,2^m=q:=⟨_,rfl⟩
   rw [hq] at he hpos
   rw [he] at hlen hp
   have HNX:=Lib.hid (fun (W:World) (hi:InT W (.agg #[.int .i64 x.size,.slice A0 x.wins.length c0]) x) (hu:InI W (.slice A2 l'.length c2) l')=>implNextRound_any _ x _ l' q W hi hu HOK.out HR.out.2.2.2.2.2.1 hlen (by omega))
   obtain ⟨ln,hln⟩:∃ln,l'.length=ln:=⟨_,rfl⟩
   have HSX:Hid (∀w2 v2,Fr w2 wr.heap.size w2.heap.size v2 (brNextTo x.wins l' q)→Below wr.heap.size wr w2→∃A3 c3,v2=.slice A3 q c3∧InI w2 v2 (brNextTo x.wins l' q)∧(brNextTo x.wins l' q).length=2^m∧m≤f-1∧f-1≤3∧wnrF x.wins (f-1) (brNextTo x.wins l' q)=R∧rngB x.wins.length (brNextTo x.wins l' q)∧Below w.heap.size w w2∧Bx w2 w.heap.size (.int .i64 x.size) (.slice A0 x.wins.length c0)):=fun w2 v2 hf hb=>by
    obtain ⟨A3,c3,e3,_,_⟩:=hf.form
    rw [brNextTo_length] at e3
    have h3:=HR.out.2.2.1
    have h4:=HR.out.2.2.2.1
    have h5:=HR.out.2.2.2.2.1
    refine ⟨A3,c3,e3,hf.in_,by rw [brNextTo_length,hq],by omega,by omega,?_,brNextTo_rng HR.out.2.2.2.2.2.1 _ (by omega),HR.out.2.2.2.2.2.2.1.trans (hb.mono HR.out.2.2.2.2.2.2.1.size),HR.out.2.2.2.2.2.2.2.below hb⟩
    obtain ⟨f,rfl⟩:∃g,f=g+1:=⟨f-1,by omega⟩
    rw [wnrF,if_neg (by omega),show l'.length/2=q by omega] at h5
    exact h5
   obtain ⟨q0,q1,-⟩:=id HR.out.2.2.2.2.2.2.2
   have HI2:=Lib.hid (HNX.out wr (HIT.out.below HR.out.2.2.2.2.2.2.1) HR.out.1)
   have hgt:(1:Int)<(ln:Int):=by omega
   have hql:q<ln:=by omega
   rw [hln] at HI2 ⊢
   clear HNX hsl2 hlen he hpos hp hc2 hln hq HR
   go_wp2_with (go_at_call 181;refine HI2.out.mono ?_;rintro e w2 ⟨v2,rfl,hf,hb⟩;obtain ⟨A3,c3,rfl,h2⟩:=HSX.out w2 v2 hf hb;have H2:=Lib.hid h2;clear h2 hf hb)
   go_roundw
   case rel=>exact ⟨_,f-1,m,_,rfl,H2.out⟩
   case measure=>simp only [lenV];omega
theorem isFixed_any (v:Value) (x:TourV) (w:World) (hs:InT w v x):
  Calls Tryz.prog 182 #[v] w fun e w'=>e=.returned (.bool (tourB x && brSize x.wins.length))∧Below w.heap.size w w':=by
 have HIT:=Lib.hid hs
 obtain ⟨u,rfl,A0,c0,rfl,hc,hm,hsl⟩:=hs
 have HB0:Hid (Below w.heap.size w (w.alloc (.cells #[.int .i64 x.size,.slice A0 x.wins.length c0] 27))∧Bx (w.alloc (.cells #[.int .i64 x.size,.slice A0 x.wins.length c0] 27)) w.heap.size (.int .i64 x.size) (.slice A0 x.wins.length c0)):=⟨(Below.refl _ w).alloc (Nat.le_refl _) _,⟨by simp,by simp,by simp⟩⟩
 have HTO:Hid (∀W,Below w.heap.size w W→Calls Tryz.prog 148 #[.agg #[.int .i64 x.size,.slice A0 x.wins.length c0]] W fun e w'=>e=.returned (.bool (tourB x))∧Below W.heap.size W w'):=fun W hW=>implTourOk_any _ x W (HIT.out.below hW)
 clear hsl hc hm
 cases h1:tourB x
 ·rw [h1] at HTO
  go_enter Tryz.func182,Tryz.ntmps182
  go_wp2_with (go_at_call 148;refine (HTO.out _ HB0.out.1).mono ?_;rintro e w1 ⟨rfl,hb⟩;have B1:Hid (Below w.heap.size w w1):=HB0.out.1.trans (hb.mono HB0.out.1.size);clear hb)
  go_ret
  exact ⟨rfl,B1.out⟩
 obtain ⟨t1,t2,t3,_⟩:=tourB_t h1
 rw [h1] at HTO
 have hsz:x.size=(x.wins.length:Int):=t3.symm
 rw [hsz] at HTO HB0 ⊢
 clear t1 t2 t3 h1 hsz
 generalize x.wins.length=n at *
 have HBS:=Lib.hid (fun W=>isBracketSize_any n W)
 generalize brSize n=bs at *
 go_enter Tryz.func182,Tryz.ntmps182
 go_wp2_with (first
  | (go_at_call 148;refine (HTO.out _ HB0.out.1).mono ?_;rintro e w1 ⟨rfl,hb⟩;have B1:Hid (Below w.heap.size w w1):=HB0.out.1.trans (hb.mono HB0.out.1.size);obtain ⟨q0,q1,-⟩:=HB0.out.2.below hb;clear hb)
  | (go_at_call 266;refine (HBS.out _).mono ?_;rintro e w_ ⟨rfl,rfl⟩))
 go_ret
 exact ⟨by simp,B1.out⟩
end Go.Proofs.YtkapoldjcpfdgaaGreatDoor
namespace Go.Proofs.YtkapoldjcpfdgaaGreatDoor
open Go.ChangeShapes Go.WideShapes Go.ChangeAt Go.RowKit
attribute [local go_sem] Oper.semAt_some
structure OrC (W0:World) (lo ob l rv rb lb gl yb eb n cl:Nat):Prop where
 ob1:ob<lo
 l1:l<lo
 rv1:rv<lo
 rb1:rb<lo
 ne:ob≠l∧ob≠rv∧ob≠rb
 lbn:lb<lo∧lb≠ob
 gln:gl<lo∧gl≠ob
 ybn:yb<lo∧yb≠ob
 ebn:eb<lo∧eb≠ob
 clb:W0.cell? ⟨lb,0,none⟩=some (.slice (some ⟨gl,0,none⟩) n cl)
 ncl:n≤cl∧cl≤maxLen
 cgl:∀k,k<n→W0.cell? ⟨gl,k,none⟩=some (.int .i64 (k:Int))
 cyb:W0.cell? ⟨yb,0,none⟩=some (.func (.yield l) #[] #[])
 ceb:W0.cell? ⟨eb,0,none⟩=some (.func (.func 269) #[] #[.pointer (some ⟨ob,0,none⟩),.pointer (some ⟨lb,0,none⟩),.pointer (some ⟨yb,0,none⟩),.pointer (some ⟨eb,0,none⟩)])
structure OrS (W0 W:World) (lo ob:Nat) (ov:Value) (cur:List Int):Prop where
 fix:∀k,k<lo→k≠ob→W.heap[k]? = W0.heap[k]?
 env:W.os=W0.os∧W.tape=W0.tape∧W.output=W0.output
 sz:lo≤W.heap.size
 hob:W.heap[ob]? = some (.cells #[ov] 25 (0,0))
 two:Two W lo ov (.slice none 0 0) cur []
structure OrT (W0 W:World) (lo ob l rv rb:Nat) (rc:Loop) (ov:Value) (cur best:List Int) (vb:Value):Prop where
 fix:∀k,k<lo→k≠ob→k≠l→k≠rv→k≠rb→W.heap[k]? = W0.heap[k]?
 env:W.os=W0.os∧W.tape=W0.tape∧W.output=W0.output
 sz:lo≤W.heap.size
 hob:W.heap[ob]? = some (.cells #[ov] 25 (0,0))
 hl:W.heap[l]? = some (.loop rc)
 hrv:W.heap[rv]? = some (.cells #[vb] 25 (0,0))
 hrb:W.heap[rb]? = some (.cells #[.bool true] 4 (0,0))
 two:Two W lo ov vb cur best
theorem OrS.put {W0 W W':World}{lo ob:Nat}{ov ov':Value}{cur cur':List Int} (h:OrS W0 W lo ob ov cur) (hob:ob<lo) (hb:Below lo W W') (ht:Two W' lo ov' (.slice none 0 0) cur' []):OrS W0 (W'.setCell ⟨ob,0,none⟩ ov') lo ob ov' cur':=by
 have KP:=keep_set W' ob ov'
 have hz:=Nat.le_trans h.sz hb.size
 exact ⟨fun k hk h1=>((KP.block k (by omega) (by omega)).trans (hb.block k hk)).trans (h.fix k hk h1),⟨KP.os.trans (hb.os.trans h.env.1),KP.tape.trans (hb.tape.trans h.env.2.1),KP.output.trans (hb.output.trans h.env.2.2)⟩,Nat.le_trans hz KP.size,box_set ((hb.block _ hob).trans h.hob),two_keep ht KP hob⟩
theorem OrT.put {W0 W:World}{lo ob l rv rb:Nat}{rc:Loop}{ov ov':Value}{cur cur' best:List Int}{vb:Value} (h:OrT W0 W lo ob l rv rb rc ov cur best vb) (hob:ob<lo) (hne:ob≠l∧ob≠rv∧ob≠rb) (hl:l<lo) (hrv:rv<lo) (hrb:rb<lo) (ht:Two W lo ov' vb cur' best):
  OrT W0 (W.setCell ⟨ob,0,none⟩ ov') lo ob l rv rb rc ov' cur' best vb:=by
 have KP:=keep_set W ob ov'
 have hz:=h.sz
 have blk:∀k,k<lo→k≠ob→(W.setCell ⟨ob,0,none⟩ ov').heap[k]? = W.heap[k]?:=fun k hk hne=>KP.block k (by omega) (by omega)
 exact ⟨fun k hk h1 h2 h3 h4=>(blk k hk h1).trans (h.fix k hk h1 h2 h3 h4),⟨KP.os.trans h.env.1,KP.tape.trans h.env.2.1,KP.output.trans h.env.2.2⟩,Nat.le_trans hz KP.size,box_set h.hob,(blk l hl (fun e=>hne.1 e.symm)).trans h.hl,(blk rv hrv (fun e=>hne.2.1 e.symm)).trans h.hrv,(blk rb hrb (fun e=>hne.2.2 e.symm)).trans h.hrb,two_keep ht KP hob⟩
def OrRes (W0:World) (lo ob l rv rb:Nat) (rc:Loop) (cur:List Int) (e:Ending) (W':World):Option (List Int)→Prop
 | none=>e=.returned (.bool true)∧∃ov',OrS W0 W' lo ob ov' cur
 | some best=>e=.returned (.bool false)∧∃ov' vb,OrT W0 W' lo ob l rv rb rc ov' cur best vb
def RoundsT (W0:World) (lo ob l rv rb:Nat) (rc:Loop) (p:List Int→Bool) (n:Nat):Prop:=
 ∀(m:Nat) (W:World) (ov:Value) (cur:List Int),cur.length=n→(∀y∈cur,0≤y∧y<n)→OrS W0 W lo ob ov cur →
  YieldAt Fence.wide m Tryz.prog l #[ov] W (fun e W'=>OrRes W0 lo ob l rv rb rc cur e W' (if p cur then some cur else none))
theorem extendT {W0:World}{lo ob l rv rb lb gl yb eb n cl:Nat}{rc:Loop}{p:List Int→Bool} (C:OrC W0 lo ob l rv rb lb gl yb eb n cl) (hn:n≤8) (hY:RoundsT W0 lo ob l rv rb rc p n):
  ∀(f m:Nat) (W:World) (ov:Value) (cur:List Int),cur.length+f=n→(∀y∈cur,0≤y∧y<n)→OrS W0 W lo ob ov cur →
   CallsIn Fence.wide m Tryz.prog 269 #[.pointer (some ⟨ob,0,none⟩),.pointer (some ⟨lb,0,none⟩),.pointer (some ⟨yb,0,none⟩),.pointer (some ⟨eb,0,none⟩)] W
    (fun e W'=>OrRes W0 lo ob l rv rb rc cur e W' ((visit n f cur).find? p)):=by
 intro f
 induction f with
 | zero=>
  intro m W ov cur hcf hcr H
  obtain ⟨fn,tmps,assign,body,hy,hR⟩:=hY (m-1) W ov cur (by omega) hcr H
  obtain ⟨co,-⟩:=box_cell H.hob
  have clb:=(cell_heap (o:=0) (H.fix lb C.lbn.1 C.lbn.2)).trans C.clb
  have cyb:=(cell_heap (o:=0) (H.fix yb C.ybn.1 C.ybn.2)).trans C.cyb
  obtain ⟨Ao,cap,rfl,-,-⟩:=H.two.fb.form
  have hln:cur.length=n:=by omega
  subst hln
  have hv:(visit cur.length 0 cur).find? p=if p cur then some cur else none:=by
   rw [visit,List.find?_cons]
   cases p cur<;>rfl
  rw [hv]
  cases hp:p cur
  ·rw [hp] at hR
   refine callsIn_of_wp Tryz.func269 rfl trivial ?_ rfl
   simp only [Tryz.ntmps269,List.size_toArray,List.length_cons,List.length_nil,Nat.reduceAdd,Nat.reduceSub,Array.replicate_succ,Array.replicate_zero,List.push_toArray,List.append_toArray,List.nil_append,List.cons_append]
   gi_wp2
   refine ⟨fun h=>(by cases h),hR.mono ?_⟩
   rintro e W' ⟨rfl,ov',H'⟩
   gi_wp2
   go_ret
   exact ⟨rfl,ov',H'⟩
  ·rw [hp] at hR
   refine callsIn_of_wp Tryz.func269 rfl trivial ?_ rfl
   simp only [Tryz.ntmps269,List.size_toArray,List.length_cons,List.length_nil,Nat.reduceAdd,Nat.reduceSub,Array.replicate_succ,Array.replicate_zero,List.push_toArray,List.append_toArray,List.nil_append,List.cons_append]
   gi_wp2
   refine ⟨fun h=>(by cases h),hR.mono ?_⟩
   rintro e W' ⟨rfl,ov',vb,H'⟩
   gi_wp2
   go_ret
   exact ⟨rfl,ov',vb,H'⟩
 | succ f ih=>
  intro m W ov cur hcf hcr H
  obtain ⟨co,-⟩:=box_cell H.hob
  have clb:=(cell_heap (o:=0) (H.fix lb C.lbn.1 C.lbn.2)).trans C.clb
  obtain ⟨Ao,cap,rfl,-,-⟩:=H.two.fb.form
  have hne:((cur.length:Int)==(n:Int))=false:=by rw [beq_eq_false_iff_ne];omega
  have HW:=Lib.hid H
  have HCR:=Lib.hid hcr
  have hcl:=C.ncl
  unfold maxLen at hcl
  clear H hcr
  refine callsIn_of_wp Tryz.func269 rfl trivial ?_ rfl
  simp only [Tryz.ntmps269,List.size_toArray,List.length_cons,List.length_nil,Nat.reduceAdd,Nat.reduceSub,Array.replicate_succ,Array.replicate_zero,List.push_toArray,List.append_toArray,List.nil_append,List.cons_append]
  gi_wp2
  clear hne co clb
  gi_loopw [18] (fun i wr=>∃(j:Nat) (ov:Value),j≤n∧i=.int .i64 (j:Int)∧Hid (OrS W0 wr lo ob ov cur∧(visT n f cur j).find? p=none)) (fun i _=>n-(intOf i).toNat)
  case atStart=>exact ⟨0,_,Nat.zero_le _,rfl,HW.out,by simp [visT]⟩
  case round=>
   obtain ⟨j,ov,hj,rfl,HR⟩:=hrel
   clear HW
   by_cases hlt:j<n
   case neg=>
    obtain rfl:j=n:=by omega
    gi_wp2
    go_ret
    have h:=HR.out.2
    rw [visT_all] at h
    rw [h]
    exact ⟨rfl,ov,HR.out.1⟩
   have cgl:=(cell_heap (o:=j) (HR.out.1.fix gl C.gln.1 C.gln.2)).trans (C.cgl j hlt)
   obtain ⟨co,fo⟩:=box_cell HR.out.1.hob
   obtain ⟨Ao,cap,rfl,-,-⟩:=HR.out.1.two.fb.form
   have hji:(j:Int)<n:=by omega
   cases hc:cur.contains (j:Int)
   ·have HV:=Lib.hid (visT_in (f:=f) hlt hc)
    have HCT:=Lib.hid (containsI_any Ao cap cur (j:Int) wr HR.out.1.two.fb.sl (by omega))
    rw [hc] at HCT
    have HIH:Hid (∀m W ov,OrS W0 W lo ob ov (cur++[(j:Int)])→CallsIn Fence.wide m Tryz.prog 269 #[.pointer (some ⟨ob,0,none⟩),.pointer (some ⟨lb,0,none⟩),.pointer (some ⟨yb,0,none⟩),.pointer (some ⟨eb,0,none⟩)] W (fun e W'=>OrRes W0 lo ob l rv rb rc (cur++[(j:Int)]) e W' ((visit n f (cur++[(j:Int)])).find? p))):=fun m W ov h=>ih m W ov (cur++[(j:Int)]) (by rw [List.length_append];simp;omega) (fun y hy=>by
     rcases List.mem_append.1 hy with hy|hy
     ·exact HCR.out y hy
     ·rw [List.mem_singleton] at hy;subst hy;omega) h
    clear hc ih
    cases hx:(visit n f (cur++[(j:Int)])).find? p with
    | none=>
     rw [hx] at HIH
     have HX:=Lib.hid hx
     clear hx
     gi_wp2_with (first
      | (refine ⟨trivial,fun h=>(by cases h),?_⟩;gi_at_call 253;refine (callsIn_wide.2 HCT.out).mono ?_;rintro e w2 ⟨rfl,rfl⟩)
      | (gi_at_builtin;refine app1AtIn rfl _ _ rfl wr lo (.slice Ao cur.length cap) cur.length cur rfl HR.out.1.two.fb.own _ rfl (by omega) HR.out.1.sz ?_;intro v5 w5 hown5 hb5 hl5 hg5 ho5;have BL:=hb5 lo (Nat.le_refl _) HR.out.1.sz;obtain ⟨A5,c5,hv5,-,-⟩:=(Fr.of_own (xs:=cur++[(j:Int)]) (by rw [List.length_append];exact hown5)).form;rw [show (cur++[(j:Int)]).length=cur.length+1 from by simp] at hv5;subst hv5;have H5:=Lib.hid (HR.out.1.put C.ob1 BL (HR.out.1.two.left hown5 hg5 ho5));obtain ⟨co5,fo5⟩:=box_cell ((BL.block _ C.ob1).trans HR.out.1.hob);have ceb:=(cell_heap (o:=0) (H5.out.fix eb C.ebn.1 C.ebn.2)).trans C.ceb;clear hown5 hb5 hl5 hg5 ho5 BL)
      | ((first|refine ⟨trivial,fun h=>(by cases h),?_⟩|refine ⟨fun h=>(by cases h),?_⟩|skip);refine (HIH.out _ _ _ H5.out).mono ?_;rintro e w6 ⟨rfl,ov6,H6⟩;obtain ⟨g6,c6,rfl,h61,h62,T6⟩:=two_cut H6.two;unfold maxLen at h62;obtain ⟨co6,fo6⟩:=box_cell H6.hob;have H7:=Lib.hid (H6.put C.ob1 (Below.refl _ _) T6);clear T6 H6)
      )
     go_roundw
     case rel=>exact ⟨j+1,_,by omega,by go_num,H7.out,by rw [HV.out,List.find?_append,HR.out.2,HX.out];rfl⟩
     case measure=>simp [intOf];omega
    | some best=>
     rw [hx] at HIH
     have HRES:Hid ((visit n (f+1) cur).find? p=some best):=by
      show _=_
      rw [←visT_all]
      have hsub:∀k,j+1≤k→(visT n f cur k).find? p=some best:=by
       intro k hk
       induction k with
       | zero=>omega
       | succ k ihk=>
        by_cases e:j=k
        ·subst e
         rw [HV.out,List.find?_append,HR.out.2,hx];rfl
        ·have h2:=ihk (by omega)
         by_cases hkn:k<n
         ·cases hck:cur.contains (k:Int)
          ·rw [visT_in hkn hck,List.find?_append,h2];rfl
          ·rw [visT_out hkn hck];exact h2
         ·have e1:visT n f cur (k+1)=visT n f cur k:=by
           unfold visT
           rw [List.take_of_length_le (by rw [idxs_length];omega),List.take_of_length_le (by rw [idxs_length];omega)]
          rw [e1];exact h2
      exact hsub n (by omega)
     clear hx
     gi_wp2_with (first
      | (refine ⟨trivial,fun h=>(by cases h),?_⟩;gi_at_call 253;refine (callsIn_wide.2 HCT.out).mono ?_;rintro e w2 ⟨rfl,rfl⟩)
      | (gi_at_builtin;refine app1AtIn rfl _ _ rfl wr lo (.slice Ao cur.length cap) cur.length cur rfl HR.out.1.two.fb.own _ rfl (by omega) HR.out.1.sz ?_;intro v5 w5 hown5 hb5 hl5 hg5 ho5;have BL:=hb5 lo (Nat.le_refl _) HR.out.1.sz;obtain ⟨A5,c5,hv5,-,-⟩:=(Fr.of_own (xs:=cur++[(j:Int)]) (by rw [List.length_append];exact hown5)).form;rw [show (cur++[(j:Int)]).length=cur.length+1 from by simp] at hv5;subst hv5;have H5:=Lib.hid (HR.out.1.put C.ob1 BL (HR.out.1.two.left hown5 hg5 ho5));obtain ⟨co5,fo5⟩:=box_cell ((BL.block _ C.ob1).trans HR.out.1.hob);have ceb:=(cell_heap (o:=0) (H5.out.fix eb C.ebn.1 C.ebn.2)).trans C.ceb;clear hown5 hb5 hl5 hg5 ho5 BL)
      | ((first|refine ⟨trivial,fun h=>(by cases h),?_⟩|refine ⟨fun h=>(by cases h),?_⟩|skip);refine (HIH.out _ _ _ H5.out).mono ?_;rintro e w6 ⟨rfl,ov6,vb6,H6⟩;obtain ⟨g6,c6,rfl,h61,h62,T6⟩:=two_cut H6.two;unfold maxLen at h62;obtain ⟨co6,fo6⟩:=box_cell H6.hob;have H7:=Lib.hid (H6.put C.ob1 C.ne C.l1 C.rv1 C.rb1 T6);clear T6 H6)
      )
     go_ret
     rw [HRES.out]
     exact ⟨rfl,_,vb6,H7.out⟩
   ·have HV:=Lib.hid (visT_out (f:=f) hlt hc)
    have HCT:=Lib.hid (containsI_any Ao cap cur (j:Int) wr HR.out.1.two.fb.sl (by omega))
    rw [hc] at HCT
    clear hc
    gi_wp2_with (first
     | (refine ⟨trivial,fun h=>(by cases h),?_⟩;gi_at_call 253;refine (callsIn_wide.2 HCT.out).mono ?_;rintro e w2 ⟨rfl,rfl⟩)
     )
    go_roundw
    case rel=>exact ⟨j+1,_,by omega,by go_num,HR.out.1,by rw [HV.out];exact HR.out.2⟩
    case measure=>simp [intOf];omega
end Go.Proofs.YtkapoldjcpfdgaaGreatDoor
