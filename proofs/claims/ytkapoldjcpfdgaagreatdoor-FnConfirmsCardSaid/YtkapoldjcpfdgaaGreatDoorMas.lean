/- Boxes of one cell; an append to a row of the call's own inside a round. -/
import Derived.Lib.Join
import Derived.Lib.LaidTab
import Derived.Lib.AtoiAll
import Derived.Lib.AtoiAllCases
import Derived.MapKept
import Derived.Laws.StructEq
import Derived.RangeFuncNested
import Derived.RangeFuncBound
import Derived.RangeFuncCalls
import Derived.RangeFuncLeaves
import Derived.Shelf.Abstract
import Derived.Shelf.RegionOpen
import Derived.OwnWalkIn
import Derived.TacticsInMore
import Derived.LoopNIn
import Derived.LoopIn
import Derived.OrdersHeld
import Derived.Maps.OwnIn
import Derived.Laws.EntriesVeiled
import Derived.Test.YtkapoldjcpfdgaaGreatDoorMar
set_option maxHeartbeats 2000000
set_option maxRecDepth 100000
namespace Go.Proofs.YtkapoldjcpfdgaaGreatDoor
open Go.ChangeShapes Go.WideShapes Go.ChangeAt Go.RowKit
def strs (ls:List (List UInt8)):List Value:=ls.map fun l=>.string ⟨l.toArray⟩
theorem strs_snoc (ls:List (List UInt8)) (l:List UInt8):strs (ls++[l])=strs ls++[.string ⟨l.toArray⟩]:=by simp [strs]
theorem strs_length (ls:List (List UInt8)):(strs ls).length=ls.length:=by simp [strs]
theorem join_snoc {ls:List (List UInt8)} (l sep:List UInt8) (h:ls≠[]):Lib.join (ls++[l]) sep=Lib.join ls sep++sep++l:=by
  cases ls with
  | nil=>exact absurd rfl h
  | cons x r=>
    rw [List.cons_append,Lib.join_cons,Lib.join_cons]
    simp [Lib.joinTail]
theorem join_bound {ls:List (List UInt8)}{b:Nat} (c:UInt8) (h:∀l∈ls,l.length≤b):(Lib.join ls [c]).length≤(b+1)*ls.length:=by
  have key:∀j,j≤ls.length→(Lib.join (ls.take j) [c]).length≤(b+1)*j:=by
    intro j
    induction j with
    | zero=>intro _;simp [Lib.join_nil]
    | succ j ih=>
      intro hj
      have e:ls[j]? = some ls[j]:=List.getElem?_eq_getElem (by omega)
      have h1:=h ls[j] (List.getElem_mem (by omega))
      have h2:=ih (by omega)
      rw [take_snoc e]
      have h3:(b+1)*(j+1)=(b+1)*j+(b+1):=by rw [Nat.mul_add,Nat.mul_one]
      by_cases h0:ls.take j = []
      · rw [h0,List.nil_append,Lib.join_one];omega
      · rw [join_snoc _ _ h0];simp only [List.length_append,List.length_singleton];omega
  have h1:=key ls.length (Nat.le_refl _)
  rwa [List.take_length] at h1
def fmtF (xs:List Int):List UInt8:=if xs = [] then [45] else Lib.join (xs.map Lib.itoa) [44]
def wfI (xs:List Int):Prop:=∀x∈xs,-9223372036854775808≤x∧x≤9223372036854775807
theorem wfI_at {xs:List Int} (h:wfI xs) {k:Nat}{x:Int} (hx:xs[k]? = some x):-9223372036854775808≤x∧x≤9223372036854775807:=h x (List.mem_of_getElem? hx)
theorem fmt_bound {xs:List Int} (h:wfI xs):(Lib.join (xs.map Lib.itoa) [44]).length≤22*xs.length:=by
  have:=join_bound (ls:=xs.map Lib.itoa) (b:=21) 44 (fun l hl=>by
    obtain ⟨x,hx,rfl⟩:=List.mem_map.1 hl
    exact Lib.itoa_length_le _ (h x hx).1 (h x hx).2)
  rwa [List.length_map] at this
theorem infoStr:(Tryz.prog.info? 9).map (fun i=>(i.zero,i.size,i.bytes))=some (some (.string ⟨#[]⟩),1,16):=by kernel_rfl
theorem appZ {ops:Array Oper}{rest:List Oper}{o:Oper}{a:Act}{Q:Exit→Act→World→Prop} (hgd:o.guard=none) (s y:Operand)
    (ho:o.op=.call { callee:=.builtin .append,args:=#[s,y],argTypes:=#[23,23] })
    (w:World) (base:Nat) (v:Value) (n:Nat) (xs:List (List UInt8)) (hs:a.eval s=v) (hown:w.ownsRow base 9 1 v n (strs xs)) (x:List UInt8)
    (hx:a.eval y=.slice (some ⟨w.heap.size,0,none⟩) 1 1) (hl:n≤1048576) (hbase:base≤w.heap.size)
    (h:∀v' w',w'.ownsRow base 9 1 v' (n+1) (strs (xs++[x]))→(∀B,B≤base→B≤w.heap.size→Below B w w')→w.heap.size<w'.heap.size→w.grownBy w' v.ownBlock→wpList Tryz.prog ops Q rest (a.put o.dst v') w'):
    wpList Tryz.prog ops Q (o :: rest) a (w.alloc (.cells #[.string ⟨x.toArray⟩] 9)):=by
  obtain ⟨i0,hi,hz0,hz1,hz2⟩:=info_parts infoStr
  refine wpList_append_own _ hgd s y _ ho base 9 i0 (.string ⟨#[]⟩) 1 16 Tryz.underlying23 hi hz0 hz1 hz2 rfl (by decide) v n (strs xs) hs (hown.alloc _) ⟨w.heap.size,0,none⟩ 1 1 [.string ⟨x.toArray⟩] hx rfl ?_ ?_ (by unfold maxLen;omega) (by omega) (by simp;omega) ?_
  · intro j u hj
    match j,hj with
    | 0,hj=>simp at hj;subst hj;simp [Addr.add]
  · intro u hu;simp at hu;subst hu;rfl
  · intro v' w' h2 h3 _
    have hsz:=h3.size
    simp only [World.size_alloc] at hsz
    refine h v' w' (by rw [strs_snoc];exact h2) (fun B h4 h5=>?_) (by omega) ?_
    · refine ((Below.refl B w).alloc h5 _).grown h3 (by simp;omega) (fun k hk=>?_)
      have:=(hown.lt k hk).1;omega
    · exact ⟨h3.os,h3.tape,h3.output,by omega,fun k hk hne=>by rw [h3.block k (by simp;omega) hne];exact Below.heap_alloc _ _ _ hk⟩
theorem ownZ_below {w w':World}{lo n:Nat}{e:TypeId}{v:Value}{vs:List Value} (h:w.ownsRow lo e 1 v n vs) (hb:Below w.heap.size w w'):w'.ownsRow lo e 1 v n vs:=
  ownsRow_keep (l2:=w.heap.size) (h2:=w.heap.size) h (fun g hg=>(h.lt g hg).2) (Nat.le_refl _) (Keep.of_below hb (Nat.le_refl _)) (.inl (Nat.le_refl _))
theorem ownZ_form {w:World}{lo n:Nat}{e:TypeId}{v:Value}{vs:List Value} (h:w.ownsRow lo e 1 v n vs):∃A c,v=.slice A n c∧n≤c:=by
  rcases h.2 with ⟨rfl,hn⟩|⟨g,cap,cur,rfl,_,_,hc,hm,_⟩
  · exact ⟨none,0,by rw [hn],by omega⟩
  · exact ⟨_,cap,rfl,hc⟩
theorem words_get {xs:List Int}{j:Nat}{x:Int} (h:xs[j]? = some x):(xs.take (j+1)).map Lib.itoa=(xs.take j).map Lib.itoa++[Lib.itoa x]:=by
  rw [take_snoc h,List.map_append];rfl
def tabP (w:World):Prop:=Lib.TabIs Tryz.prog w "internal/strconv.uint64pow10" .u64 Lib.pow10Tab
theorem tabP_isSome:(Tryz.prog.globalNamed "internal/strconv.uint64pow10").isSome=true:=by kernel_rfl
theorem tabP.below {B:Nat}{w w':World} (h:tabP w) (hb:Below B w w') (hB:w.heap.size≤B):tabP w':=
  Joins.tab_stays (Option.some_get tabP_isSome).symm h hb hB
theorem tabP.drewN {w:World} (h:tabP w) (q:Nat):tabP (w.drewN q):=h.below (below_of_drewN w.heap.size w q) (Nat.le_refl _)
theorem below_grow (w:World) (k:Nat) (os:Array Obj):Below w.heap.size w (Sort.grow (w.drewN k) os):=
  ⟨rfl,rfl,rfl,by show _≤(w.heap++os).size;simp,fun i hi=>by show (w.heap++os)[i]? = _;exact Array.getElem?_append_left hi⟩
theorem implFormatInt_any (n:Int) (w:World) (h0:-9223372036854775808≤n) (h1:n≤9223372036854775807) (ht:tabP w):
    Calls Tryz.prog 13 #[.int .i64 n] w fun e w'=>e=.returned (.string ⟨(Lib.itoa n).toArray⟩)∧Below w.heap.size w w':=by
  go_enter Tryz.func13,Tryz.ntmps13
  go_wp2_with fail
  refine (Tryz.strconv_Itoa n h0 h1 _ ht).mono ?_
  rintro e w2 ⟨rfl,k,os,rfl⟩
  go_wp2
  go_ret
  exact ⟨rfl,below_grow _ _ _⟩
theorem implJoin_any (v:Value) (lo n:Nat) (ls:List (List UInt8)) (sep:List UInt8) (w:World) (hs:w.ownsRow lo 9 1 v n (strs ls)) (hn:n≤1048576) (h1:0<n) (hlen:(Lib.join ls sep).length≤1099511627776):
    Calls Tryz.prog 11 #[v,.string ⟨sep.toArray⟩] w fun e w'=>e=.returned (.string ⟨(Lib.join ls sep).toArray⟩)∧Below w.heap.size w w':=by
  obtain ⟨A,c,rfl,hc⟩:=ownZ_form hs
  have hl:ls.length=n:=by have:=hs.1;rw [strs_length] at this;simpa using this
  obtain ⟨b,off,x,rfl,-,-,hb⟩:=(SlV.of_own hs).at_ (k:=0) (by rw [strs_length,hl];exact h1)
  have hcells:∀(j:Nat) x,(ls.map fun l=>(⟨l.toArray⟩:ByteArray))[j]? = some x→w.cell? ⟨b,off+j,none⟩=some (.string x):=by
    intro j x hx
    rcases SlV.of_own hs with h|⟨b',off',he,h⟩
    · have h2:=congrArg List.length h
      rw [strs_length,hl,List.length_nil] at h2;omega
    · injection he with he;injection he with e1 e2 _
      subst e1;subst e2
      refine h j _ ?_
      rw [List.getElem?_map,Option.map_eq_some_iff] at hx
      obtain ⟨l,h3,rfl⟩:=hx
      simp [strs,h3]
  have hm:(ls.map fun l=>(⟨l.toArray⟩:ByteArray)).map (·.data.toList)=ls:=by simp [Function.comp_def]
  have HJ:=Tryz.strings_Join b off c (ls.map fun l=>(⟨l.toArray⟩:ByteArray)) ⟨sep.toArray⟩ w hcells hb (by rw [List.length_map,hl];omega) (by rw [List.length_map,hl];exact hc) (by rw [hm];exact Nat.le_trans hlen (by decide))
  rw [hm,List.length_map,hl] at HJ
  go_enter Tryz.func11,Tryz.ntmps11
  go_wp2_with fail
  refine HJ.mono ?_
  rintro e w2 ⟨rfl,hb2⟩
  go_wp2
  go_ret
  exact ⟨rfl,hb2⟩
theorem implFormatNumbers_any (v:Value) (xs:List Int) (w:World) (hs:InI w v xs) (hn:xs.length≤1048576) (hw:wfI xs) (ht:tabP w):
    Calls Tryz.prog 96 #[v] w fun e w'=>e=.returned (.string ⟨(fmtF xs).toArray⟩)∧Below w.heap.size w w':=by
  obtain ⟨A,c,rfl,hc,hm,hs⟩:=hs
  have HS:=Lib.hid (And.intro hs (And.intro hw ht))
  clear hs hw ht
  have HB0:Hid (Below w.heap.size w w):=Below.refl _ _
  by_cases h0:xs = []
  · subst h0
    go_enter Tryz.func96,Tryz.ntmps96
    go_wp2
    go_ret
    exact ⟨rfl,HB0.out⟩
  have hpos:0<xs.length:=List.length_pos_iff.2 h0
  have HF:Hid (fmtF xs=Lib.join (xs.map Lib.itoa) [44]):=by show _=_;rw [fmtF,if_neg h0]
  clear h0
  have e0 : ((xs.length : Int) == 0) = false := by
                                                   have:¬(xs.length:Int)=0:=by omega
                                                   simpa using this
  go_enter Tryz.func96,Tryz.ntmps96
  go_wp2
  go_loopw [3,11] (fun v i wr=>∃(j:Nat) (fv:Value),j≤xs.length∧i=.int .i64 j∧fv=v∧Hid (wr.ownsRow w.heap.size 9 1 fv j (strs ((xs.take j).map Lib.itoa))∧Below w.heap.size w wr)) (fun _ i _=>xs.length-(intOf i).toNat)
  case atStart=>exact ⟨0,_,Nat.zero_le _,rfl,rfl,World.ownsRow_nil _ _ _ _,HB0.out⟩
  case round=>
    obtain ⟨j,fv,hj,rfl,rfl,HR⟩:=hrel
    by_cases hlt:j<xs.length
    · obtain ⟨b1,o1,x,rfl,hx1,hx2,_⟩:=(HS.out.1.below HR.out.2).at_ (k:=j) hlt
      have hwx:=wfI_at HS.out.2.1 hx1
      have HW:=Lib.hid (words_get hx1)
      have HX:=Lib.hid hwx
      have HT:Hid (tabP wr):=HS.out.2.2.below HR.out.2 (Nat.le_refl _)
      clear hx1 hwx
      go_wp2_with (first|(go_at_call 13;refine (implFormatInt_any _ _ HX.out.1 HX.out.2 (by first|exact HT.out|exact HT.out.drewN _)).mono ?_;rintro e w2 ⟨rfl,hb⟩;have H2:Hid (w2.ownsRow w.heap.size 9 1 fv j (strs ((xs.take j).map Lib.itoa))∧Below w.heap.size w w2):=⟨ownZ_below HR.out.1 hb,HR.out.2.trans (hb.mono HR.out.2.size)⟩;clear hb)|(at_builtin;refine appZ rfl _ _ rfl w2 w.heap.size fv j _ rfl H2.out.1 (Lib.itoa x) rfl (by omega) H2.out.2.size ?_;intro v' w3 hown3 hb3 hsz3 _;have H3:Hid (w3.ownsRow w.heap.size 9 1 v' (j+1) (strs ((xs.take (j+1)).map Lib.itoa))∧Below w.heap.size w w3):=⟨by rw [HW.out];exact hown3,H2.out.2.trans (hb3 w.heap.size (Nat.le_refl _) H2.out.2.size)⟩;clear hown3 hb3 hsz3))
      all_goals exact ⟨⟨j+1,_,by omega,by go_num,rfl,H3.out⟩,by simp [intOf];omega⟩
    · obtain rfl:j=xs.length:=by omega
      have HT:Hid (wr.ownsRow w.heap.size 9 1 fv xs.length (strs (xs.map Lib.itoa))∧(Lib.join (xs.map Lib.itoa) [44]).length≤22*xs.length):=⟨by have:=HR.out.1;rwa [List.take_length] at this,fmt_bound HS.out.2.1⟩
      go_wp2_with fail
      refine (implJoin_any fv _ _ (xs.map Lib.itoa) [44] wr HT.out.1 hn hpos (by have:=HT.out.2;omega)).mono ?_
      rintro e w2 ⟨rfl,hb⟩
      have HB2:Hid (Below w.heap.size w w2):=HR.out.2.trans (hb.mono HR.out.2.size)
      clear hb
      go_wp2
      go_ret
      exact ⟨by rw [HF.out];rfl,HB2.out⟩
def numOf (l:List UInt8):Option Int:=match Lib.atoiAll l with
 | .ok v=>if Lib.itoa v=l then some v else none
 | _=>none
theorem numOf_ok {l:List UInt8}{v:Int} (h:Lib.atoiAll l=.ok v):numOf l=if Lib.itoa v=l then some v else none:=by unfold numOf;rw [h]
theorem numOf_bad {l:List UInt8} (h:∀v,Lib.atoiAll l≠.ok v):numOf l=none:=by
 unfold numOf
 cases ha:Lib.atoiAll l with
 | ok u=>exact absurd ha (h u)
 | «syntax» => rfl
 | range=>rfl
def cutB (s:UInt8):List UInt8→List (List UInt8)
 | []=>[[]]
 | c :: r=>if c=s then [] :: cutB s r else match cutB s r with
  | []=>[[c]]
  | h :: t=>(c :: h) :: t
theorem cutB_ne (s:UInt8):∀l,cutB s l≠[]
 | []=>by simp [cutB]
 | c :: r=>by
  rw [cutB];split
  ·simp
  ·split<;>simp
theorem cutB_none {s:UInt8}:∀ {l:List UInt8},s ∉ l→cutB s l = [l]
 | [],_=>rfl
 | c :: r,h=>by
  rw [List.mem_cons,not_or] at h
  rw [cutB,if_neg (fun e=>h.1 e.symm),cutB_none h.2]
theorem cutB_at {s:UInt8}:∀ {l:List UInt8}{k:Nat},s ∉ l.take k→l[k]? = some s→cutB s l=l.take k :: cutB s (l.drop (k+1))
 | [],k,_,h=>by simp at h
 | c :: r,0,_,h=>by
  simp only [List.getElem?_cons_zero,Option.some.injEq] at h
  rw [cutB,if_pos h];rfl
 | c :: r,k+1,h,hk=>by
  rw [List.take_succ_cons,List.mem_cons,not_or] at h
  rw [List.getElem?_cons_succ] at hk
  rw [cutB,if_neg (fun e=>h.1 e.symm),cutB_at h.2 hk]
  rfl
theorem cutB_length (s:UInt8):∀l,(cutB s l).length≤l.length+1
 | []=>by simp [cutB]
 | c :: r=>by
  have ih:=cutB_length s r
  rw [cutB];split
  ·simp only [List.length_cons];omega
  ·split
   ·simp
   ·rename_i h t e;rw [e] at ih;simp only [List.length_cons] at ih ⊢;omega
theorem cutB_word (s:UInt8):∀(l:List UInt8),∀x∈cutB s l,x.length≤l.length
 | []=>by simp [cutB]
 | c :: r=>by
  have ih:=cutB_word s r
  intro x hx
  rw [cutB] at hx
  split at hx
  ·rcases List.mem_cons.1 hx with rfl|h
   ·simp
   ·have:=ih x h;simp only [List.length_cons];omega
  ·split at hx
   ·simp at hx;subst hx;simp
   ·rename_i h t e
    rcases List.mem_cons.1 hx with rfl|h2
    ·have:=ih h (by rw [e];exact List.mem_cons_self ..)
     simp only [List.length_cons];omega
    ·have:=ih x (by rw [e];exact List.mem_cons_of_mem _ h2)
     simp only [List.length_cons];omega
def cutC (l:List UInt8):List (List UInt8):=cutB 44 l
def pnU:List Int→List (List UInt8)→Option (List Int)
 | out,[]=>some out
 | out,w :: ws=>match numOf w with
  | none=>none
  | some n=>if out.length=40 then none else pnU (out++[n]) ws
def pnO (l:List UInt8):Option (List Int):=if l = [45] then some [] else pnU [] (cutC l)
def pnF (l:List UInt8):List Int:=(pnO l).getD []
def pnB (l:List UInt8):Bool:=(pnO l).isSome
theorem pnU_len:∀ {ws:List (List UInt8)}{out r:List Int},pnU out ws=some r→out.length≤40→r.length≤40
 | [],out,r,h,h1=>by injection h with h;subst h;exact h1
 | w :: ws,out,r,h,h1=>by
  rw [pnU] at h
  split at h
  ·cases h
  ·split at h
   ·cases h
   ·exact pnU_len h (by rw [List.length_append,List.length_singleton];omega)
theorem pnF_len (l:List UInt8):(pnF l).length≤1048576:=by
 unfold pnF pnO
 split
 ·simp
 ·cases h:pnU [] (cutC l) with
  | none=>simp
  | some r=>have:=pnU_len h (by simp);simp only [Option.getD_some];omega
theorem byte_get {s:ByteArray}{n:Nat} (h:n<s.size):s.data.toList[n]? = some s[n]:=by simp [h];rfl
theorem str_ne {l:List UInt8}{s:ByteArray} (h:¬l=s.data.toList):(l==s.toList)=false:=by
 have h1:¬((⟨l.toArray⟩:ByteArray)=s):=by
  rintro rfl
  exact h (by simp)
 have h2:((⟨l.toArray⟩:ByteArray)==s)=false:=by
  rw [Bool.eq_false_iff,Ne,MapKept.bytes_beq];exact h1
 rw [beq_toListBytes] at h2
 simpa [go_sem] using h2
theorem ext_list (s:ByteArray) (f i:Nat) (_h:i≤s.size):s.extract f i=⟨((s.data.toList.drop f).take (i-f)).toArray⟩:=by
 apply ByteArray.ext
 apply Array.toList_inj.1
 simp [ByteArray.data_extract]
theorem str_eqn {s:ByteArray}{l:List UInt8} (h:s.data.toList=l):s=⟨l.toArray⟩:=by
 apply ByteArray.ext
 apply Array.toList_inj.1
 rw [h]
theorem str_ne2 {l:List UInt8}{s:ByteArray} (h:¬s.data.toList=l):(s.toList==l)=false:=by
 have h2:=str_ne (l:=l) (s:=s) (fun e=>h e.symm)
 rw [←h2,Bool.eq_iff_iff,beq_iff_eq,beq_iff_eq]
 exact ⟨Eq.symm,Eq.symm⟩
end Go.Proofs.YtkapoldjcpfdgaaGreatDoor
namespace Go.Proofs.YtkapoldjcpfdgaaGreatDoor
open Go Go.RowKit
section
variable {P:Program}{n:Nat}
theorem yield_of {m l:Nat}{r:Loop}{args:Array Value}{W:World}{On:World→Prop}{Stop:Code→World→Prop} (hl:W.heap[l]? = some (.loop r)) (hr:r.state=.ready) (hp:r.pending=none) (hps:args.size=r.params.size)
    (h:r.assign.wpIn (Fence.wide.inRound l) m P (Exit.then (fun a' W2=>W2.heap[l]? = some (.loop r) ∧
        r.body.wpIn (Fence.wide.inRound l) m P (fun e _ W3=>W3.heap[l]? = some (.loop { r with state:=.busy }) ∧
          (match e with
           | .normal=>On (W3.putObj l (.loop r))
           | .ret=>Stop .ret (W3.putObj l (.loop { r with state:=.done,pending:=some .ret }))
           | .exit id=>Stop (.exit id) (W3.putObj l (.loop { r with state:=.done,pending:=some (.exit id) }))
           | _=>False)) a' (W2.putObj l (.loop { r with state:=.busy }))) (fun _ _ _=>False))
      { tmps:=(r.params.zip args).foldl (fun t (p,v)=>t.setIfInBounds p v) r.tmps,defers:=[] } W):
    YieldAt Fence.wide m P l args W (fun e W'=>(e=.returned (.bool true)∧On W')∨(e=.returned (.bool false)∧∃c,Stop c W')):=by
  have hy:=run_yield (P:=P) (args:=args) hl hps
  refine ⟨r.fn,_,r.assign,r.body,hy,roundIn_of_wpIn trivial (wpIn_mono h ?_)⟩
  rintro e a' W2 hq
  cases e with
  | normal=>
    obtain ⟨hl2,hb⟩:=hq
    refine ⟨_,run_beginRound hl2 hr,wpIn_mono hb ?_⟩
    rintro e a3 W3 ⟨hl3,hp3⟩
    cases e with
    | normal=>
      refine ⟨_,_,run_endRound none hl3,.inl ⟨rfl,?_⟩⟩
      have e1:({ ({ r with state:=.busy }:Loop) with state:=if (none:Option Code).isNone then .ready else .done,pending:=none }:Loop)=r:=by
        cases r;simp only at hr hp;subst hr;subst hp;rfl
      rw [e1];exact hp3
    | ret=>exact ⟨_,_,run_endRound (some .ret) hl3,.inr ⟨rfl,.ret,hp3⟩⟩
    | exit id=>exact ⟨_,_,run_endRound (some (.exit id)) hl3,.inr ⟨rfl,.exit id,hp3⟩⟩
    | goto t=>exact hp3.elim
    | panic ch=>exact hp3.elim
    | outgrown=>exact hp3.elim
  | ret=>exact hq.elim
  | exit id=>exact hq.elim
  | goto t=>exact hq.elim
  | panic ch=>exact hq.elim
  | outgrown=>exact hq.elim
def recOf (fn:FuncId) (tmps:Array Value) (ps:Array Tmp) (assign body:Code) (D:Nat):Loop:={ state:=.ready,pending:=none,fn,tmps,params:=ps,assign,body,defers:=D }
def rangeStart (w:World) (r:Loop):World:=(w.alloc (.deferred (some []))).alloc (.loop r)
theorem rangeStart_below (w:World) (r:Loop):Below w.heap.size w (rangeStart w r):=((Below.refl _ w).alloc (Nat.le_refl _) _).alloc (by simp) _
theorem rangeStart_size (w:World) (r:Loop):(rangeStart w r).heap.size=w.heap.size+2:=by simp [rangeStart]
theorem rangeStart_rec (w:World) (r:Loop):(rangeStart w r).heap[w.heap.size+1]? = some (.loop r):=by
  have:=World.alloc_heap_new (w.alloc (.deferred (some []))) (.loop r);rwa [World.size_alloc] at this
theorem rangeStart_def (w:World) (r:Loop):(rangeStart w r).heap[w.heap.size]? = some (.deferred (some [])):=
  (Below.heap_alloc _ _ _ (by simp)).trans (World.alloc_heap_new w _)
theorem range_of {g:Operand}{ps:Array Tmp}{assign body:Code}{Q:Exit→Act→World→Prop}{a:Act}{w:World}{gf:Nat}{lb:Array Value} (hg:a.eval g=.func (.func gf) #[] lb) (eg:∀args w,(callFunc gf args).run P w=.ok (.enter gf args) w)
    (Done:World→Prop) (Stop:Code→World→Prop)
    (hcall:∀fn,CallsIn Fence.wide (n-1) P gf (#[.func (.yield (w.heap.size+1)) #[] #[]]++lb) (rangeStart w (recOf fn a.tmps ps assign body w.heap.size)) (fun e W'=>(∃v,e=.returned v)∧W'.heap[w.heap.size]? = some (.deferred (some [])) ∧
      ((W'.heap[w.heap.size+1]? = some (.loop (recOf fn a.tmps ps assign body w.heap.size))∧Done W') ∨
       ∃c,W'.heap[w.heap.size+1]? = some (.loop { recOf fn a.tmps ps assign body w.heap.size with state:=.done,pending:=some c })∧Stop c W')))
    (hdone:∀W o,Done W→W.heap[w.heap.size]? = some (.deferred (some []))→Q .normal { a with defers:={ target:=.collected w.heap.size,args:=#[] } :: a.defers } (W.putObj (w.heap.size+1) o))
    (hstop:∀c W o,Stop c W→W.heap[w.heap.size]? = some (.deferred (some []))→c.wpIn Fence.wide n P Q { a with defers:={ target:=.collected w.heap.size,args:=#[] } :: a.defers } (W.putObj (w.heap.size+1) o)):
    (Code.rangeFunc g ps assign body).wpIn Fence.wide n P Q a w:=by
  refine wpIn_rangeFunc ?_
  intro fn _
  refine ⟨w.heap.size+1,[{ target:=.collected w.heap.size,args:=#[] }],rangeStart w (recOf fn a.tmps ps assign body w.heap.size),{ target:=.fn (.func gf) lb,args:=#[.func (.yield (w.heap.size+1)) #[] #[]] },rangeStart w (recOf fn a.tmps ps assign body w.heap.size),gf,
    #[.func (.yield (w.heap.size+1)) #[] #[]]++lb,rangeStart w (recOf fn a.tmps ps assign body w.heap.size),?_,?_,?_,?_,fun h=>(by cases h),?_⟩
  · exact run_enterLoop_outer _ _ _ _ _
  · simp only [resolve,hg]
    simp [go_sem]
  · intro f' hf';trivial
  · simp [invoke,go_sem,eg]
  · refine (hcall fn).mono ?_
    rintro e W2 ⟨⟨v,rfl⟩,hk,(⟨hl,hd⟩|⟨c,hl,hs⟩)⟩
    · exact ⟨none,_,run_endLoop (P:=P) hl (by simp [recOf]),hdone _ _ hd hk⟩
    · exact ⟨some c,_,run_endLoop (P:=P) hl (by simp),hstop c _ _ hs hk⟩
def OnN (K:Act→World→Prop):Exit→Act→World→Prop
  | .normal,a,w=>K a w
  | _,_,_=>False
theorem wpOpIn_of {l i:Nat}{ops:Array Oper}{K K' K0:Act→World→Prop}{Q:Exit→Act→World→Prop}{a:Act}{w:World} (hnd:∀(i:Nat) (o:Oper),ops[i]? = some o→∀c,o.op≠Op.defer c)
    (h:wpOp P ops (OnN K0) i K a w) (hK:∀a w,K a w→K' a w):wpOpIn (Fence.wide.inRound l) n P ops Q i K' a w:=by
  unfold wpOp at h
  unfold wpOpIn
  cases ho:ops[i]? with
  | none=>simp only [ho] at h ⊢;exact hK _ _ h
  | some o=>
    simp only [ho] at h ⊢
    by_cases hw:Region.wanted o (yielded ops a.tmps)=true
    · rw [if_pos hw] at h ⊢
      rcases h with h|⟨_,a0,w0,hq⟩
      · refine ⟨fun _ _=>trivial,?_⟩
        rw [Oper.semAt_eq _ _ _ (hnd i o ho)]
        unfold Oper.wp at h
        generalize (execOp a.eval o).run P w=r at *
        cases r with
        | ok nx w'=>
          cases nx<;>simp only [Oper.upon,Oper.uponIn] at h ⊢
          case value v=>exact hK _ _ h
          case skip=>exact hK _ _ h
          case defer d=>exact hK _ _ h
          case enter f args=>
            refine ⟨fun h=>(by cases h),CallsIn.inRound l ((callsIn_wide.2 h).mono ?_)⟩
            rintro e w2 he
            cases e with
            | returned v=>exact hK _ _ he
            | panicked ch=>exact he.elim
            | outgrown=>obtain ⟨_,_,hq⟩:=he;exact hq.elim
          case row rw_ args=>
            refine ⟨fun h=>(by cases h),?_⟩
            intro c cs _
            obtain ⟨v,w2,hr,hs⟩:=h c cs
            exact ⟨v,w2,hK _ _ hr,stepsIn_wide.2 hs⟩
        | halt x w'=>
          cases x<;>simp only [Oper.upon,Oper.uponIn] at h ⊢
          case panic v=>exact h.elim
      · exact hq.elim
    · rw [if_neg hw] at h ⊢
      exact ⟨fun _ _=>trivial,hK _ _ h⟩
theorem wpAnyIn_of {l:Nat}{ops:Array Oper}{K:Act→World→Prop}{Q:Exit→Act→World→Prop}{md:Region.Mode} (hnd:∀(i:Nat) (o:Oper),ops[i]? = some o→∀c,o.op≠Op.defer c) (hK:∀a w,K a w→Q .normal a w):
    ∀(fuel:Nat) (listed:Array Bool) (a:Act) (w:World),wpAny P md ops (OnN K) fuel listed a w→wpAnyIn (Fence.wide.inRound l) n P md ops Q fuel listed a w
  | 0,_,_,_,h=>⟨h.1,hK _ _ h.2⟩
  | fuel+1,_,_,_,h=>⟨fun e=>hK _ _ (h.1 e),fun i hi=>wpOpIn_of hnd (h.2 i hi) fun a' w' h'=>wpAnyIn_of hnd hK fuel _ a' w' h'⟩
def noDefer (ops:Array Oper):Bool:=ops.all fun o=>match o.op with | .defer _=>false|_=>true
theorem noDefer_spec {ops:Array Oper} (h:noDefer ops=true):∀(i:Nat) (o:Oper),ops[i]? = some o→∀c,o.op≠Op.defer c:=by
  intro i o ho c e
  have:=Array.all_eq_true'.1 h o (Array.mem_of_getElem? ho)
  rw [e] at this
  cases this
theorem OnN.intro {Q:Exit→Act→World→Prop}{a:Act}{w:World} (h:Q .normal a w):OnN (fun a w=>Q .normal a w) .normal a w:=h
theorem region_round {l id:Nat}{ops:Array Oper}{Q:Exit→Act→World→Prop}{a:Act}{w:World}{S:World→Prop} (hm:P.follows .mixedOrders=true) (hnd:noDefer ops=true) (hS:S w.drew)
    (h:S w.drew→wpAnyH P .any ops (OnN fun a w=>Q .normal a w) S ops.size (Array.replicate ops.size false) a w.drew):(Code.region id ops true).wpIn (Fence.wide.inRound l) n P Q a w:=
  wpIn_region_any hm (wpAnyIn_of (noDefer_spec hnd) (K:=fun a w=>Q .normal a w) (fun _ _ h=>h) _ _ _ _ (wpAny_of_held _ _ _ _ (h hS)))
end
end Go.Proofs.YtkapoldjcpfdgaaGreatDoor
namespace Go.Proofs.YtkapoldjcpfdgaaGreatDoor
open Go.ChangeShapes Go.WideShapes Go.ChangeAt Go.RowKit
attribute [local go_sem] Oper.semAt_some
theorem cell_heap {W W':World}{b o:Nat} (h:W'.heap[b]? = W.heap[b]?):W'.cell? ⟨b,o,none⟩=W.cell? ⟨b,o,none⟩:=by simp [World.cell?,h]
theorem box_cell {W:World}{b:Nat}{v:Value}{t:TypeId} (h:W.heap[b]? = some (.cells #[v] t (0,0))):W.cell? ⟨b,0,none⟩=some v∧W.frozen? ⟨b,0,none⟩=false:=by
 constructor<;>simp [World.cell?,World.frozen?,h]
theorem box_set {W:World}{b:Nat}{v u:Value}{t:TypeId} (h:W.heap[b]? = some (.cells #[v] t (0,0))):(W.setCell ⟨b,0,none⟩ u).heap[b]? = some (.cells #[u] t (0,0)):=by
 have hb:=(Array.getElem?_eq_some_iff.1 h).1
 have hb2:=(Array.getElem?_eq_some_iff.1 h).2
 show (W.heap.modify b _)[b]? = _
 rw [Array.getElem?_eq_getElem (by rw [Array.size_modify];exact hb),Array.getElem_modify_self,hb2]
 rfl
theorem app1AtIn {F:Fence}{nF:Nat}{ops:Array Oper}{rest:List Oper}{o:Oper}{a:Act}{Q:Exit→Act→World→Prop} (hgd:o.guard=none) (s y:Operand)
  (ho:o.op=.call { callee:=.builtin .append,args:=#[s,y],argTypes:=#[25,25] })
  (w:World) (base:Nat) (v:Value) (n:Nat) (xs:List Int) (hs:a.eval s=v) (hown:w.ownsRow base 3 1 v n (ints xs)) (x:Int)
  (hx:a.eval y=.slice (some ⟨w.heap.size,0,none⟩) 1 1) (hl:n≤1048576) (hbase:base≤w.heap.size)
  (h:∀v' w',w'.ownsRow base 3 1 v' (n+1) (ints (xs++[x]))→(∀B,B≤base→B≤w.heap.size→Below B w w')→w.heap.size<w'.heap.size→w.grownBy w' v.ownBlock→(v'.ownBlock=v.ownBlock∨v'.ownBlock=some (w.heap.size+1))→wpListIn F nF Tryz.prog ops Q rest (a.put o.dst v') w'):
  wpListIn F nF Tryz.prog ops Q (o :: rest) a (w.alloc (.cells #[.int .i64 x] 3)):=by
 obtain ⟨i0,hi,hz0,hz1,hz2⟩:=info_parts infoInt
 refine wpListIn_append_own_at _ hgd s y _ ho base 3 i0 (.int .i64 0) 1 8 Tryz.underlying25 hi hz0 hz1 hz2 rfl (by decide) v n (ints xs) hs (hown.alloc _) ⟨w.heap.size,0,none⟩ 1 1 [.int .i64 x] hx rfl ?_ ?_ (by unfold maxLen;omega) (by omega) (by simp;omega) ?_
 ·intro j u hj
  match j,hj with
  | 0,hj=>simp at hj;subst hj;simp [Addr.add]
 ·intro u hu;simp at hu;subst hu;rfl
 ·intro v' w' h2 h3 _ h6
  rw [World.size_alloc] at h6
  have hsz:=h3.size
  simp only [World.size_alloc] at hsz
  refine h v' w' (by rw [ints_append];exact h2) (fun B h4 h5=>?_) (by omega) ?_ h6
  ·refine ((Below.refl B w).alloc h5 _).grown h3 (by simp;omega) (fun k hk=>?_)
   have:=(hown.lt k hk).1;omega
  ·exact ⟨h3.os,h3.tape,h3.output,by omega,fun k hk hne=>by rw [h3.block k (by simp;omega) hne];exact Below.heap_alloc _ _ _ hk⟩
end Go.Proofs.YtkapoldjcpfdgaaGreatDoor
