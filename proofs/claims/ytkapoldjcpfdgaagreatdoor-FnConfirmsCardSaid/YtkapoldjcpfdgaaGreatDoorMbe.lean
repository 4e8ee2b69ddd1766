/- A double elimination: the program's walk. -/
import Derived.Test.YtkapoldjcpfdgaaGreatDoorMba
import Derived.Test.YtkapoldjcpfdgaaGreatDoorMbd
set_option maxHeartbeats 8000000
set_option maxRecDepth 100000
namespace Go.Proofs.YtkapoldjcpfdgaaGreatDoor
open Go.ChangeShapes Go.WideShapes Go.ChangeAt Go.RowKit
theorem litAt (W:World) (t:TypeId) (vs:List Value) (n:Nat) (hn:vs.length=n) (h:n≤1048576):(⟨t,.slice (some ⟨W.heap.size,0,none⟩) n n,vs⟩:RowV).At (W.alloc (.cells vs.toArray t)) W.heap.size:=by
 subst hn
 refine .inr ⟨W.heap.size,0,vs.length,vs.toArray,rfl,Nat.le_refl _,by unfold maxLen;omega,Nat.le_refl _,World.alloc_heap_new W _,.inr (by simp),fun j u hj=>?_⟩
 rw [Nat.zero_add,List.getElem?_toArray];exact hj
theorem play_any (v:Value) (x:TourV) (a b:Nat) (w:World) (hs:InT w v x) (hok:tourB x=true) (ha:a<x.wins.length) (hb:b<x.wins.length):
  Calls Tryz.prog 263 #[v,.int .i64 (a:Int),.int .i64 (b:Int)] w fun e w'=>∃g,e=.returned (.slice (some ⟨g,0,none⟩) 2 2)∧(⟨3,.slice (some ⟨g,0,none⟩) 2 2,[.int .i64 (meetW x.wins a b),.int .i64 (meetL x.wins a b)]⟩:RowV).At w' w.heap.size∧Below w.heap.size w w':=by
 obtain ⟨t1,t2,t3,t4,_⟩:=tourB_t hok
 have HIT:=Lib.hid hs
 obtain ⟨u,rfl,A,c,rfl,hc,hm,hsl⟩:=hs
 have HB0:Hid (Below w.heap.size w (w.alloc (.cells #[.int .i64 x.size,.slice A x.wins.length c] 27))):=(Below.refl _ w).alloc (Nat.le_refl _) _
 have HBT:=Lib.hid (implBeats_any _ x a b (w.alloc (.cells #[.int .i64 x.size,.slice A x.wins.length c] 27)) (HIT.out.below HB0.out) (by omega) t4 ha (by omega))
 have HM:Hid (meetW x.wins a b=if bt x.wins a b then (a:Int) else b):=rfl
 have HM2:Hid (meetL x.wins a b=if bt x.wins a b then (b:Int) else a):=rfl
 clear hsl t1 t2 t3 t4 hok ha hb hc hm
 cases hbt:bt x.wins a b
 ·rw [hbt] at HBT HM HM2
  simp only [Bool.false_eq_true,if_false] at HM HM2
  clear hbt
  go_enter Tryz.func263,Tryz.ntmps263
  go_wp2_with (go_at_call 150;refine HBT.out.mono ?_;rintro e w1 ⟨rfl,hb1⟩;have B1:Hid (Below w.heap.size w w1):=HB0.out.trans (hb1.mono HB0.out.size);clear hb1)
  go_ret
  refine ⟨_,rfl,?_,B1.out.alloc B1.out.size _⟩
  have h:=litAt w1 3 [.int .i64 (b:Int),.int .i64 (a:Int)] 2 rfl (by decide)
  rw [HM.out,HM2.out]
  rcases h with ⟨h,_⟩|⟨g,off,cap,cur,e,h1,h2,h3,h4⟩
  ·cases h
  ·exact .inr ⟨g,off,cap,cur,e,h1,h2,Nat.le_trans B1.out.size h3,h4⟩
 ·rw [hbt] at HBT HM HM2
  simp only [if_true] at HM HM2
  clear hbt
  go_enter Tryz.func263,Tryz.ntmps263
  go_wp2_with (go_at_call 150;refine HBT.out.mono ?_;rintro e w1 ⟨rfl,hb1⟩;have B1:Hid (Below w.heap.size w w1):=HB0.out.trans (hb1.mono HB0.out.size);clear hb1)
  go_ret
  refine ⟨_,rfl,?_,B1.out.alloc B1.out.size _⟩
  have h:=litAt w1 3 [.int .i64 (a:Int),.int .i64 (b:Int)] 2 rfl (by decide)
  rw [HM.out,HM2.out]
  rcases h with ⟨h,_⟩|⟨g,off,cap,cur,e,h1,h2,h3,h4⟩
  ·cases h
  ·exact .inr ⟨g,off,cap,cur,e,h1,h2,Nat.le_trans B1.out.size h3,h4⟩
theorem sepApp1 {ops:Array Oper}{rest:List Oper}{o:Oper}{a:Act}{Q:Exit→Act→World→Prop}{t0:TypeId} (hgd:o.guard=none) (s y:Operand)
  (ho:o.op=.call { callee:=.builtin .append,args:=#[s,y],argTypes:=#[25,25] })
  (w:World) (lo k:Nat) (L:List RowV) (v:Value) (xs:List Int) (hS:SepL w lo L) (hlo:lo≤w.heap.size) (hk:L[k]? = some ⟨3,v,ints xs⟩) (hs:a.eval s=v) (z:Int)
  (hx:a.eval y=.slice (some ⟨w.heap.size,0,none⟩) 1 1) (hl:xs.length≤1048576)
  (h:∀v' w',SepL w' lo (L.set k ⟨3,v',ints (xs++[z])⟩)→Below lo w w'→w.heap.size≤w'.heap.size→wpList Tryz.prog ops Q rest (a.put o.dst v') w'):
  wpList Tryz.prog ops Q (o :: rest) a (w.alloc (.cells #[.int .i64 z] t0)):=by
 obtain ⟨i0,hi,hz0,hz1,hz2⟩:=info_parts infoInt
 refine sepApp hgd s y ho Tryz.underlying25 hi hz0 hz1 hz2 rfl (by decide) w lo k L ⟨3,v,ints xs⟩ hS hlo hk rfl hs (.int .i64 z) rfl hx (by simpa [ints] using hl) fun v' w' h1 h2 h3=>h v' w' ?_ h2 h3
 rw [ints_append];exact h1
theorem sepAppS {ops:Array Oper}{rest:List Oper}{o:Oper}{a:Act}{Q:Exit→Act→World→Prop}{t0:TypeId} (hgd:o.guard=none) (s y:Operand)
  (ho:o.op=.call { callee:=.builtin .append,args:=#[s,y],argTypes:=#[67,67] })
  (w:World) (lo k:Nat) (L:List RowV) (v:Value) (vs:List Value) (hS:SepL w lo L) (hlo:lo≤w.heap.size) (hk:L[k]? = some ⟨25,v,vs⟩) (hs:a.eval s=v) (A:Option Addr) (m c:Nat)
  (hx:a.eval y=.slice (some ⟨w.heap.size,0,none⟩) 1 1) (hl:vs.length≤1048576)
  (h:∀v' w',SepL w' lo (L.set k ⟨25,v',vs++[.slice A m c]⟩)→Below lo w w'→w.heap.size≤w'.heap.size→wpList Tryz.prog ops Q rest (a.put o.dst v') w'):
  wpList Tryz.prog ops Q (o :: rest) a (w.alloc (.cells #[.slice A m c] t0)):=by
 obtain ⟨i0,hi,hz0,hz1,hz2⟩:=info_parts infoIS
 exact sepApp hgd s y ho Tryz.underlying67 hi hz0 hz1 hz2 rfl (by decide) w lo k L ⟨25,v,vs⟩ hS hlo hk rfl hs (.slice A m c) rfl hx hl h
theorem sepStep1 {ops:Array Oper}{o:Oper}{a:Act}{K:Act→World→Prop}{Q:Exit→Act→World→Prop}{E:Prop}{t0:TypeId} (hgd:o.guard=none) (s y:Operand)
  (ho:o.op=.call { callee:=.builtin .append,args:=#[s,y],argTypes:=#[25,25] })
  (W w:World) (z:Int) (hW:W=w.alloc (.cells #[.int .i64 z] t0)) (lo k:Nat) (L:List RowV) (v:Value) (xs:List Int) (hS:SepL w lo L) (hlo:lo≤w.heap.size) (hk:L[k]? = some ⟨3,v,ints xs⟩) (hs:a.eval s=v)
  (hx:a.eval y=.slice (some ⟨w.heap.size,0,none⟩) 1 1) (hl:xs.length≤1048576)
  (h:∀v' w',SepL w' lo (L.set k ⟨3,v',ints (xs++[z])⟩)→Below lo w w'→w.heap.size≤w'.heap.size→K (a.put o.dst v') w'):
  if Region.wanted o (yielded ops a.tmps)=true then Oper.wp Tryz.prog o a W K Q else E:=by
 obtain ⟨i0,hi,hz0,hz1,hz2⟩:=info_parts infoInt
 refine sepStep hgd s y (.int .i64 z) ho Tryz.underlying25 hi hz0 hz1 hz2 rfl (by decide) W w hW lo k L ⟨3,v,ints xs⟩ hS hlo hk rfl hs rfl hx (by simpa [ints] using hl) fun v' w' h1 h2 h3=>h v' w' ?_ h2 h3
 rw [ints_append];exact h1
def RowOk (W:World) (q:Option Addr × Nat × List Int):Prop:=SlI W q.1 q.2.2∧(q.1=none→q.2.2 = []∧q.2.1=0)
def totR (rs:List (Option Addr × Nat × List Int)) (q:Nat):Nat:=((rs.take q).map fun r=>r.2.2.length).sum
def flatR (rs:List (Option Addr × Nat × List Int)) (q:Nat):List Int:=(rs.take q).flatMap fun r=>r.2.2
theorem takeR {rs:List (Option Addr × Nat × List Int)}{q:Nat}{r:Option Addr × Nat × List Int} (h:rs[q]? = some r):rs.take (q+1)=rs.take q++[r]:=by
 rw [List.take_add_one,h];rfl
theorem totR_succ {rs:List (Option Addr × Nat × List Int)}{q:Nat}{r:Option Addr × Nat × List Int} (h:rs[q]? = some r):totR rs (q+1)=totR rs q+r.2.2.length:=by
 unfold totR;rw [takeR h,List.map_append,List.sum_append];simp
theorem flatR_succ {rs:List (Option Addr × Nat × List Int)}{q:Nat}{r:Option Addr × Nat × List Int} (h:rs[q]? = some r):flatR rs (q+1)=flatR rs q++r.2.2:=by
 unfold flatR;rw [takeR h,List.flatMap_append];simp
theorem flatR_len (rs:List (Option Addr × Nat × List Int)) (q:Nat):(flatR rs q).length=totR rs q:=by
 unfold flatR totR;rw [List.length_flatMap]
theorem totR_bd {rs:List (Option Addr × Nat × List Int)} (h:∀r∈rs,r.2.2.length≤1000):∀q,q≤rs.length→totR rs q≤1000*q
 | 0,_=>by simp [totR]
 | q+1,hq=>by
  have hr:rs[q]? = some rs[q]:=List.getElem?_eq_getElem (by omega)
  have:=totR_bd h q (by omega)
  have:=h rs[q] (List.mem_of_getElem? hr)
  rw [totR_succ hr];omega
theorem concatG_any (b k:Nat) (rs:List (Option Addr × Nat × List Int)) (w:World) (hk:rs.length=k) (hk8:k≤8) (hc:∀j r,rs[j]? = some r→w.cell? ⟨b,j,none⟩=some (.slice r.1 r.2.2.length r.2.1)) (hr:∀r∈rs,RowOk w r) (hb:∀r∈rs,r.2.2.length≤1000):
  Calls Tryz.prog 264 #[.slice (some ⟨b,0,none⟩) k k] w fun e w'=>∃A c,e=.returned (.slice A (totR rs k) c)∧Fr w' w.heap.size w'.heap.size (.slice A (totR rs k) c) (flatR rs k)∧Below w.heap.size w w':=by
 have HC:Hid (∀W,Below w.heap.size w W→∀j r,rs[j]? = some r→W.cell? ⟨b,j,none⟩=some (.slice r.1 r.2.2.length r.2.1)):=fun W hW j r h=>(hW.cell (block_lt_of_cell (hc j r h))).trans (hc j r h)
 have HR:Hid (∀W,Below w.heap.size w W→∀r∈rs,RowOk W r):=fun W hW r h=>⟨(hr r h).1.below hW,(hr r h).2⟩
 have HG:Hid (∀q,q<k→∃r,rs[q]? = some r):=fun q hq=>⟨rs[q],List.getElem?_eq_getElem (by omega)⟩
 have HB:Hid (∀q,q≤k→totR rs q≤8000):=fun q hq=>by have:=totR_bd hb q (by omega);omega
 have HT0:Hid (totR rs 0=0∧flatR rs 0 = []):=⟨rfl,rfl⟩
 have HBR:=Lib.hid hb
 clear hc hr hb hk
 go_enter Tryz.func264,Tryz.ntmps264
 go_wp2
 go_loop [3,11] (fun s i=>∃q t:Nat,q≤k∧i=.int .i64 q∧s=.int .i64 (t:Int)∧t=totR rs q) (fun _ i=>k-(intOf i).toNat)
 case atStart=>exact ⟨0,0,by omega,rfl,rfl,HT0.out.1.symm⟩
 case round=>
  obtain ⟨q,t,hq,rfl,rfl,ht⟩:=hrel
  have HTQ:=Lib.hid ht
  clear ht
  by_cases hlt:q<k
  ·obtain ⟨r,hr⟩:=HG.out q hlt
   have cr:=HC.out w (Below.refl _ _) q r hr
   have HS:=Lib.hid (totR_succ hr)
   have h1:=HB.out (q+1) hlt
   rw [HS.out,←HTQ.out] at h1
   obtain ⟨rl,hrl⟩:∃rl,r.2.2.length=rl:=⟨_,rfl⟩
   rw [hrl] at cr h1
   have HRL:=Lib.hid hrl
   clear hr hrl
   have h2:¬((t:Int)+(rl:Int)<0):=by omega
   have h3:(t:Int)+(rl:Int)≤8000:=by omega
   go_wp2
   go_round
   case rel=>exact ⟨q+1,t+rl,by omega,by go_num,by go_num,by rw [HS.out,←HTQ.out,HRL.out]⟩
   case measure=>simp [intOf];omega
  ·obtain rfl:q=k:=by omega
   have hT:=HB.out q (Nat.le_refl _)
   rw [←HTQ.out] at hT
   have HGW:=Lib.hid (growI_any t w (by omega))
   go_wp2_with (go_at_call 339;refine HGW.out.mono ?_;rintro e w1 ⟨A,c,rfl,hf,hb⟩;have H1:Hid (Fr w1 w.heap.size w1.heap.size (.slice A 0 c) []∧Below w.heap.size w w1):=⟨hf,hb⟩;clear hf hb)
   go_loopw [6,27] (fun v i wr=>∃(p:Nat) (vv:Value),p≤q∧i=.int .i64 p∧vv=v∧Hid (Fr wr w.heap.size wr.heap.size vv (flatR rs p)∧Below w.heap.size w wr)) (fun _ i _=>q-(intOf i).toNat)
   case atStart=>exact ⟨0,_,by omega,rfl,rfl,by rw [HT0.out.2];exact H1.out⟩
   case round=>
    obtain ⟨p,vv,hp,rfl,rfl,HW⟩:=hrel
    by_cases hlt2:p<q
    ·obtain ⟨r,hr⟩:=HG.out p hlt2
     have cr:=HC.out wr HW.out.2 p r hr
     obtain ⟨hok1,hok2⟩:=HR.out wr HW.out.2 r (List.mem_of_getElem? hr)
     have HS:=Lib.hid (flatR_succ hr)
     have h1:=HB.out (p+1) (by omega)
     rw [totR_succ hr] at h1
     have HFL:=Lib.hid (flatR_len rs p)
     obtain ⟨A,c,ys⟩:=r
     simp only at cr hok1 hok2 HS h1
     clear hr
     cases A with
     | none=>
      have hok0:True:=trivial
      obtain ⟨e1,e2⟩:=hok2 rfl
      subst e1;subst e2
      have H2:Hid (Fr wr w.heap.size wr.heap.size vv (flatR rs (p+1))∧Below w.heap.size w wr):=by
       have h:=HW.out
       rw [HS.out,List.append_nil];exact h
      obtain ⟨A3,c3,rfl,hc3,hm3⟩:=HW.out.1.form
      simp only [List.length_nil] at cr
      unfold maxLen at hm3
      clear hok1 hok2 hok0
      rw [HFL.out] at hc3 H2 ⊢
      cases A3
      all_goals
       go_wp2
       go_roundw
       case rel=>exact ⟨p+1,_,by omega,by go_num,rfl,H2.out⟩
       case measure=>simp [intOf];omega
     | some a=>
      have hok0:True:=trivial
      have H1b:=HB.out p (by omega)
      obtain ⟨yl,hyl⟩:∃yl,ys.length=yl:=⟨_,rfl⟩
      rw [hyl] at cr h1
      have HYL:=Lib.hid hyl
      have HSL:=Lib.hid hok1
      clear hok1 hok2 hyl hok0
      go_wp2_with (at_builtin;refine appSrc rfl _ _ rfl wr w.heap.size vv (totR rs p) (flatR rs p) rfl (by have:=HW.out.1.own;rw [HFL.out] at this;exact this) a yl c ys HYL.out rfl HSL.out (by omega) HW.out.2.size ?_;intro v2 w2 hown hb2 _;have H2:Hid (Fr w2 w.heap.size w2.heap.size v2 (flatR rs (p+1))∧Below w.heap.size w w2):=⟨Fr.of_own (by rw [HS.out,List.length_append,HFL.out,HYL.out];exact hown),HW.out.2.trans (hb2 _ (Nat.le_refl _) HW.out.2.size)⟩;clear hown hb2)
      go_roundw
      case rel=>exact ⟨p+1,_,by omega,by go_num,rfl,H2.out⟩
      case measure=>simp [intOf];omega
    ·obtain rfl:p=q:=by omega
     go_wp2
     go_ret
     obtain ⟨A',c',rfl,_⟩:=HW.out.1.form
     have HFL:=flatR_len rs p
     exact ⟨A',c',by rw [HFL];rfl,by have:=HW.out.1;rw [HFL] at this;exact this,HW.out.2⟩
theorem dbStep_perm (W:List Int) (fi se pl:List Int):((dbStep W fi se pl).1++(dbStep W fi se pl).2.1++(dbStep W fi se pl).2.2).Perm (fi++se++pl):=by
 have two:∀a b:Int,[meetW W a b,meetL W a b].Perm [a,b]:=fun a b=>by
  rcases meet_cases W a b with ⟨e1,e2⟩|⟨e1,e2⟩
  ·rw [e1,e2]
  ·rw [e1,e2];exact List.Perm.swap ..
 have sec:∀(fi:List Int) (a b:Int) (r:List Int),(fi++(r++[meetW W a b])++(pl++[meetL W a b])).Perm (fi++(a :: b :: r)++pl):=fun fi a b r=>by
  rw [List.append_assoc fi,List.append_assoc fi]
  refine List.Perm.append_left fi ?_
  calc ((r++[meetW W a b])++(pl++[meetL W a b])).Perm (([meetW W a b]++r)++([meetL W a b]++pl)):=List.Perm.append List.perm_append_comm List.perm_append_comm
   List.Perm _ ([meetW W a b,meetL W a b]++(r++pl)):=by
    simp only [List.cons_append,List.nil_append]
    exact (List.perm_middle (l₁:=r)).cons _
   List.Perm _ ([a,b]++(r++pl)):=(two a b).append_right _
   List.Perm _ _:=by simp
 match fi,se with
 | a :: b :: r,se=>
  show ((r++[meetW W a b])++(se++[meetL W a b])++pl).Perm ((a :: b :: r)++se++pl)
  refine List.Perm.append_right pl ?_
  calc ((r++[meetW W a b])++(se++[meetL W a b])).Perm (([meetW W a b]++r)++([meetL W a b]++se)):=List.Perm.append List.perm_append_comm List.perm_append_comm
   List.Perm _ ([meetW W a b,meetL W a b]++(r++se)):=by
    simp only [List.cons_append,List.nil_append]
    exact (List.perm_middle (l₁:=r)).cons _
   List.Perm _ ([a,b]++(r++se)):=(two a b).append_right _
   List.Perm _ _:=by simp
 | [],a :: b :: r=>exact sec [] a b r
 | [x],a :: b :: r=>exact sec [x] a b r
 | [a],[b]=>
  simp only [dbStep]
  split
  ·show ([a]++[]++(pl++[b])).Perm ([a]++[b]++pl)
   simp only [List.append_nil,List.cons_append,List.nil_append]
   exact (List.perm_append_comm (l₁:=pl) (l₂:=[b])).cons a
  ·exact List.Perm.refl _
 | [],[]=>exact List.Perm.refl _
 | [],[_]=>exact List.Perm.refl _
 | [_],[]=>exact List.Perm.refl _
def dbRows (vf vs vp vg:Value) (fi se pl:List Int) (gs:List Value):List RowV:=[⟨3,vf,ints fi⟩,⟨3,vs,ints se⟩,⟨3,vp,ints pl⟩,⟨25,vg,gs⟩]
structure DbW (w wr:World) (z u:Value) (L:List RowV):Prop where
 sep:SepL wr (w.heap.size+1) L
 be:Below w.heap.size w wr
 bx:Bx wr w.heap.size z u
theorem DbW.app {w wr w':World}{z u:Value}{L L':List RowV} (h:DbW w wr z u L) (h1:SepL w' (w.heap.size+1) L') (hb:Below (w.heap.size+1) wr w'):DbW w w' z u L':=
 ⟨h1,h.be.trans (hb.mono (Nat.le_succ _)),⟨(hb.cell (p:=⟨w.heap.size,0,none⟩) (Nat.lt_succ_self _)).trans h.bx.1,(hb.cell (p:=⟨w.heap.size,1,none⟩) (Nat.lt_succ_self _)).trans h.bx.2.1,Nat.lt_of_lt_of_le h.bx.2.2 hb.size⟩⟩
theorem DbW.sz {w wr:World}{z u:Value}{L:List RowV} (h:DbW w wr z u L):w.heap.size+1≤wr.heap.size:=h.bx.2.2
theorem DbW.below {w wr w':World}{z u:Value}{L:List RowV} (h:DbW w wr z u L) (hb:Below wr.heap.size wr w'):DbW w w' z u L:=
 h.app (h.sep.below hb) (hb.mono h.sz)
theorem DbW.push {w wr w':World}{z u:Value}{L:List RowV}{r:RowV} (h:DbW w wr z u L) (hb:Below wr.heap.size wr w') (hr:r.At w' wr.heap.size):DbW w w' z u (L++[r]):=by
 refine h.app (h.sep.push hb ?_ fun g hg=>(hr.lt hg).1) (hb.mono h.sz)
 rcases hr with hr|⟨g,off,cap,cur,e,h1,h2,h3,h4⟩
 ·exact .inl hr
 ·exact .inr ⟨g,off,cap,cur,e,h1,h2,Nat.le_trans h.sz h3,h4⟩
theorem DbW.drewN {w wr:World}{z u:Value}{L:List RowV} (h:DbW w wr z u L) (q:Nat):DbW w (wr.drewN q) z u L:=⟨h.sep.drewN q,below_drewN h.be q,h.bx⟩
theorem SepL.pushNil {W:World}{lo:Nat}{L:List RowV} (h:SepL W lo L) (t:TypeId):SepL W lo (L++[⟨t,.slice none 0 0,[]⟩]):=h.push (Below.refl _ _) (.inl ⟨rfl,rfl⟩) fun g hg=>by cases hg
theorem DbW.start {w w0 w1:World}{z u v:Value}{l:List Int} (hb0:Below w.heap.size w w0) (hx:Bx w0 w.heap.size z u) (hz:w0.heap.size=w.heap.size+1) (hf:Fr w1 w0.heap.size w1.heap.size v l) (hb:Below w0.heap.size w0 w1):DbW w w1 z u (dbRows v (.slice none 0 0) (.slice none 0 0) (.slice none 0 0) l [] [] []):=by
 refine ⟨?_,hb0.trans (hb.mono hb0.size),hx.below hb⟩
 have h1:=(SepL.nil w0 (w.heap.size+1)).push (r:=⟨3,v,ints l⟩) hb (RowV.At.of_own (by rw [←hz];exact hf.1)) (fun g hg=>(hf.1.lt g hg).1)
 exact ((h1.pushNil 3).pushNil 3).pushNil 25
theorem ints_len (xs:List Int):(ints xs).length=xs.length:=by simp [ints]
theorem ints_at {xs:List Int}{j:Nat}{a:Int} (h:xs[j]? = some a):(ints xs)[j]? = some (.int .i64 a):=by simp [ints,h]
theorem DbW.four {w wr:World}{z u vf vs vp vg:Value}{fi se pl:List Int}{gs:List Value}{x:RowV} (h:DbW w wr z u (dbRows vf vs vp vg fi se pl gs++[x])):DbW w wr z u (dbRows vf vs vp vg fi se pl gs):=
 ⟨h.sep.pick id (fun i r hr=>by rw [id,List.getElem?_append_left (List.getElem?_eq_some_iff.1 hr).1];exact hr) (fun i j _ _ hne=>hne),h.be,h.bx⟩
theorem RowV.At.rowOk {W:World}{lo:Nat}{v:Value}{xs:List Int} (h:(⟨3,v,ints xs⟩:RowV).At W lo):∃A c,v=.slice A xs.length c∧RowOk W (A,c,xs):=by
 rcases h with ⟨e,h⟩|⟨g,off,cap,cur,e,h1,h2,h3,h4,h5,h6⟩
 ·have hx:xs = []:=List.eq_nil_of_length_eq_zero (by rw [←ints_len];show (ints xs).length=0;rw [show ints xs = [] from h];rfl)
  subst hx
  exact ⟨none,0,e,.inl rfl,fun _=>⟨rfl,rfl⟩⟩
 ·refine ⟨_,cap,by rw [←ints_len];exact e,.inr ⟨g,off,rfl,fun k x hk=>?_⟩,fun h=>by cases h⟩
  simp only [World.cell?,h4]
  exact h6 k _ (ints_at hk)
theorem DbW.nilAt1 {w wr:World}{z u vf vs vp vg:Value}{fi se pl:List Int}{gs:List Value}{x:RowV} (h:DbW w wr z u (dbRows vf vs vp vg fi se pl gs++[x])):DbW w wr z u (dbRows vf (.slice none 0 0) vp vg fi [] pl gs++[x]):=
 ⟨h.sep.view (k:=1) (r':=⟨3,.slice none 0 0,ints []⟩) rfl (.inl ⟨rfl,rfl⟩) (fun g hg=>by cases hg),h.be,h.bx⟩
theorem DbW.swapOut {w wr:World}{z u vf vs vp vg:Value}{fi se pl:List Int}{gs:List Value}{x:RowV}{a b:Int} (h:DbW w wr z u (dbRows vf vs vp vg fi se pl gs++[x])):
  DbW w (wr.alloc (.cells #[.int .i64 a,.int .i64 b] 3)) z u (dbRows (.slice none 0 0) (.slice (some ⟨wr.heap.size,0,none⟩) 2 2) vp vg [] [a,b] pl gs++[x]):=by
 have hb:Below wr.heap.size wr (wr.alloc (.cells #[.int .i64 a,.int .i64 b] 3)):=(Below.refl _ _).alloc (Nat.le_refl _) _
 have h1:DbW w wr z u (dbRows (.slice none 0 0) vs vp vg [] se pl gs++[x]):=⟨h.sep.view (k:=0) (r':=⟨3,.slice none 0 0,ints []⟩) rfl (.inl ⟨rfl,rfl⟩) (fun g hg=>by cases hg),h.be,h.bx⟩
 have hr:=litAt wr 3 [.int .i64 a,.int .i64 b] 2 rfl (by decide)
 refine h1.app (h1.sep.put (k:=1) (r':=⟨3,.slice (some ⟨wr.heap.size,0,none⟩) 2 2,ints [a,b]⟩) rfl ?_ (fun g hg=>.inr (hr.lt hg).1) fun c hc _=>hb.block c hc) (hb.mono h.sz)
 rcases hr with hr|⟨g,off,cap,cur,e,q1,q2,q3,q4⟩
 ·cases hr.1
 ·exact .inr ⟨g,off,cap,cur,e,q1,q2,Nat.le_trans h.sz q3,q4⟩
theorem dbNext {W:List Int}{f:Nat}{fi se pl fi' se' pl' l:List Int}{R:List Int × List Int × List Int}{gs:List Value} (hs:dbStep W fi se pl=(fi',se',pl')) (hlt:1<fi.length+se.length) (hM:dbM fi' se'<dbM fi se)
  (h:dbRun W f fi se pl=R∧dbM fi se≤f∧gs.length+dbM fi se≤16∧(fi++se++pl).Perm l) (x:Value):∃f',dbRun W f' fi' se' pl'=R∧dbM fi' se'≤f'∧(gs++[x]).length+dbM fi' se'≤16∧(fi'++se'++pl').Perm l:=by
 obtain ⟨h1,h2,h3,h4⟩:=h
 cases f with
 | zero=>omega
 | succ f=>
  rw [dbRun,if_neg (by omega),hs] at h1
  have hp:=dbStep_perm W fi se pl
  rw [hs] at hp
  exact ⟨f,h1,by omega,by simp;omega,hp.trans h4⟩
theorem double_any (v:Value) (x:TourV) (A:Option Addr) (c:Nat) (l:List Int) (w:World) (hs:InT w v x) (hok:tourB x=true) (hl:SlI w A l) (hn:l.length≤8) (hn0:0<l.length) (hr:∀y∈l,0≤y∧y<x.wins.length):
  Calls Tryz.prog 179 #[v,.slice A l.length c] w fun e w'=>∃vg vp,e=.returned (.tuple #[vg,vp])∧Fr w' w.heap.size w'.heap.size vp ((dbRun x.wins (2*l.length) l [] []).2.2++(dbRun x.wins (2*l.length) l [] []).1++(dbRun x.wins (2*l.length) l [] []).2.1).reverse∧Below w.heap.size w w':=by
 obtain ⟨t1,t2,t3,t4,_⟩:=tourB_t hok
 have HIT:=Lib.hid hs
 have HOK:=Lib.hid hok
 obtain ⟨u,rfl,A0,c0,rfl,hc,hm,hsl⟩:=hs
 have HB0:Hid (Below w.heap.size w (w.alloc (.cells #[.int .i64 x.size,.slice A0 x.wins.length c0] 27))∧Bx (w.alloc (.cells #[.int .i64 x.size,.slice A0 x.wins.length c0] 27)) w.heap.size (.int .i64 x.size) (.slice A0 x.wins.length c0)):=⟨(Below.refl _ w).alloc (Nat.le_refl _) _,⟨by simp,by simp,by simp⟩⟩
 have HCL:=Lib.hid (cloneI_any A c l (w.alloc (.cells #[.int .i64 x.size,.slice A0 x.wins.length c0] 27)) (hl.below HB0.out.1) (by omega))
 have HRG:=Lib.hid hr
 obtain ⟨R,hR⟩:∃R,dbRun x.wins (2*l.length) l [] []=R:=⟨_,rfl⟩
 have HRR:=Lib.hid hR
 rw [hR]
 have HN:=Lib.hid hn
 have HNZ:=Lib.hid hn0
 clear hsl hl hr hn0 hR hc hm t1 t2 t3 t4 hok
 go_enter Tryz.func179,Tryz.ntmps179
 go_wp2_with (go_at_call 59;refine HCL.out.mono ?_;rintro e w1 ⟨A1,c1,rfl,hf,hb⟩;have hbx:=HB0.out.2.below hb;have H1:Hid (DbW w w1 (.int .i64 x.size) (.slice A0 x.wins.length c0) (dbRows (.slice A1 l.length c1) (.slice none 0 0) (.slice none 0 0) (.slice none 0 0) l [] [] [])):=DbW.start HB0.out.1 HB0.out.2 (by simp) hf hb;clear hf hb hbx)
 go_loopw [6,7,8,9] (fun vf vs vp vg wr=>∃(fi se pl:List Int) (gs:List Value) (f:Nat) (vf' vs' vp' vg':Value),vf'=vf∧vs'=vs∧vp'=vp∧vg'=vg∧Hid (DbW w wr (.int .i64 x.size) (.slice A0 x.wins.length c0) (dbRows vf' vs' vp' vg' fi se pl gs)∧dbRun x.wins f fi se pl=R∧dbM fi se≤f∧gs.length+dbM fi se≤16∧(fi++se++pl).Perm l)) (fun vf vs _ _ _=>2*lenV vf+lenV vs)
 case atStart=>exact ⟨l,[],[],[],2*l.length,_,_,_,_,rfl,rfl,rfl,rfl,H1.out,HRR.out,by simp [dbM],by have:=HN.out;simp [dbM];omega,by simp⟩
 case round=>
  obtain ⟨fi,se,pl,gs,f,vf,vs,vp,vg,rfl,rfl,rfl,rfl,HR⟩:=hrel
  have hbd:fi.length≤8∧se.length≤8∧pl.length≤8∧gs.length≤16:=by
   have h1:=HR.out.2.2.2.2.length_eq
   have h2:=HN.out
   have h3:=HR.out.2.2.2.1
   simp only [List.length_append] at h1
   omega
  have HS:=Lib.hid HR.out.1
  have HRG2:Hid (∀y,y∈fi∨y∈se→∃k:Nat,y=(k:Int)∧k<x.wins.length):=fun y hy=>by
   have h1:y∈l:=HR.out.2.2.2.2.mem_iff.1 (by simp only [List.mem_append];exact .inl hy)
   have h2:=HRG.out y h1
   exact ⟨y.toNat,by omega,by omega⟩
  obtain ⟨b1,b2,b3,b4⟩:=hbd
  obtain ⟨q0,q1,-⟩:=id HS.out.bx
  have q0':wr.drew.cell? ⟨w.heap.size,0,none⟩=some (.int .i64 x.size):=q0
  have q1':wr.drew.cell? ⟨w.heap.size,1,none⟩=some (.slice A0 x.wins.length c0):=q1
  have HRO:=Lib.hid (And.intro HR.out.2 (And.intro b3 b4))
  clear q0 q1
  by_cases hlt:1<fi.length+se.length
  case neg=>
   obtain ⟨Af,cf,e,hof⟩:=(HS.out.sep.at_ 0 _ rfl).rowOk
   subst e
   obtain ⟨As,cs,e,hos⟩:=(HS.out.sep.at_ 1 _ rfl).rowOk
   subst e
   obtain ⟨Ap,cp,e,hop⟩:=(HS.out.sep.at_ 2 _ rfl).rowOk
   subst e
   have HFIN:Hid (R=(fi,se,pl)):=by
    have h:=HR.out.2.1
    cases f with
    | zero=>exact h.symm
    | succ f=>rw [dbRun,if_pos (by omega)] at h;exact h.symm
   have HTOT:Hid (0<(pl++fi++se).length):=by
    have h:=HR.out.2.2.2.2.length_eq
    have:=HNZ.out
    simp only [List.length_append] at h ⊢
    show _<_
    omega
   have hx:¬(1:Int)<(fi.length:Int)+(se.length:Int):=by omega
   have HW:Hid (Below w.heap.size w (wr.alloc (.cells #[.slice Ap pl.length cp,.slice Af fi.length cf,.slice As se.length cs] 25))):=HS.out.be.alloc HS.out.be.size _
   have HCC:Hid (Calls Tryz.prog 264 #[.slice (some ⟨wr.heap.size,0,none⟩) 3 3] (wr.alloc (.cells #[.slice Ap pl.length cp,.slice Af fi.length cf,.slice As se.length cs] 25)) fun e w'=>∃A c,e=.returned (.slice A (pl++fi++se).length c)∧Fr w' w.heap.size w'.heap.size (.slice A (pl++fi++se).length c) (pl++fi++se)∧Below w.heap.size w w'):=by
    have bl:Below wr.heap.size wr (wr.alloc (.cells #[.slice Ap pl.length cp,.slice Af fi.length cf,.slice As se.length cs] 25)):=(Below.refl _ _).alloc (Nat.le_refl _) _
    have ef:flatR [(Ap,cp,pl),(Af,cf,fi),(As,cs,se)] 3=pl++fi++se:=by simp [flatR]
    have hc:=concatG_any wr.heap.size 3 [(Ap,cp,pl),(Af,cf,fi),(As,cs,se)] (wr.alloc (.cells #[.slice Ap pl.length cp,.slice Af fi.length cf,.slice As se.length cs] 25)) rfl (by decide) (fun j r hj=>by
      match j,hj with
      | 0,hj=>simp at hj;subst hj;simp
      | 1,hj=>simp at hj;subst hj;simp
      | 2,hj=>simp at hj;subst hj;simp
      | j+3,hj=>simp at hj) (fun r hr=>by
      simp only [List.mem_cons,List.not_mem_nil,or_false] at hr
      rcases hr with rfl|rfl|rfl
      ·exact ⟨hop.1.below bl,hop.2⟩
      ·exact ⟨hof.1.below bl,hof.2⟩
      ·exact ⟨hos.1.below bl,hos.2⟩) (fun r hr=>by
      simp only [List.mem_cons,List.not_mem_nil,or_false] at hr
      rcases hr with rfl|rfl|rfl
      ·show pl.length≤1000;omega
      ·show fi.length≤1000;omega
      ·show se.length≤1000;omega)
    rw [←flatR_len,ef] at hc
    refine hc.mono ?_
    rintro e w' ⟨A',c',rfl,hf,hb⟩
    exact ⟨A',c',rfl,hf.wide HW.out.size (Nat.le_refl _) (Nat.le_refl _),HW.out.trans (hb.mono HW.out.size)⟩
   have HLN:Hid ((pl++fi++se).length≤1048576):=by show _≤_;simp only [List.length_append];omega
   clear hof hos hop hlt b1 b2 b3 b4 HR HS H1 HB0 HCL
   obtain ⟨P,hP⟩:∃P,pl++fi++se=P:=⟨_,rfl⟩
   have HPP:=Lib.hid hP
   rw [hP] at HCC HTOT HLN
   clear hP
   go_wp2_with (go_at_call 264;refine HCC.out.mono ?_;rintro e w5 ⟨A5,c5,rfl,hf,hb⟩;obtain ⟨g5,y5,rfl,-⟩:=hf.at_ HTOT.out;have H5:=Lib.hid (And.intro hf hb);clear hf hb)
   have HRV:=Lib.hid (reverseI_any g5 P.length c5 w.heap.size w5.heap.size 0 c5 P w5 rfl HLN.out H5.out.1 (Nat.zero_le _))
   rw [Nat.sub_zero] at HRV
   go_wp2_with (go_at_call 265;refine HRV.out.mono ?_;rintro e w6 ⟨rfl,hf,hk⟩;have H6:=Lib.hid (And.intro hf hk);clear hf hk)
   refine bodyPost_ret (v:=.tuple #[vg,.slice (some ⟨g5,0,none⟩) P.length c5]) (by simp [results,Tryz.results179,go_sem]) rfl ?_
   refine ⟨_,_,rfl,?_,H5.out.2.trans (H6.out.2.below (Nat.le_refl _) H5.out.2.size)⟩
   have h:=H6.out.1
   rw [HFIN.out]
   show Fr w6 _ _ _ (pl++fi++se).reverse
   rw [HPP.out]
   simp only [List.take_zero,List.drop_zero,List.nil_append] at h
   exact h.wide (Nat.le_refl _) H6.out.2.size (Nat.le_refl _)
  match fi,se with
  | a :: b :: r,se=>
   obtain ⟨a,rfl,ha⟩:=HRG2.out a (by simp)
   obtain ⟨b,rfl,hb⟩:=HRG2.out b (by simp)
   obtain ⟨k,hk⟩:∃k,r.length+2=k:=⟨_,rfl⟩
   obtain ⟨sn,hsn⟩:∃sn,se.length=sn:=⟨_,rfl⟩
   have hk8:k≤8:=by simp only [List.length_cons] at b1;omega
   have hk2:2≤k:=by omega
   have hk2i:(2:Int)≤(k:Int):=by omega
   have hk0n:0<k:=by omega
   have hk1n:1<k:=by omega
   have hk0:(0:Int)<(k:Int):=by omega
   have hk1:(1:Int)<(k:Int):=by omega
   have hks:(1:Int)<(k:Int)+(sn:Int):=by omega
   have hsn8:sn≤8:=by omega
   have e1:(ints ((a:Int) :: (b:Int) :: r)).length=k:=by simp [ints,←hk]
   have e2:(ints se).length=sn:=by rw [ints_len,hsn]
   obtain ⟨g,off,cap,e,hc1,hc2,-,-,hcells⟩:=(HS.out.sep.at_ 0 _ rfl).addr (by show 0<(ints ((a:Int) :: (b:Int) :: r)).length;omega)
   simp only [e1] at e hc1 hcells
   subst e
   obtain ⟨A2,cs,e,-,-⟩:=(HS.out.sep.at_ 1 _ rfl).form
   simp only [e2] at e
   subst e
   have ca:wr.drew.cell? ⟨g,off,none⟩=some (.int .i64 (a:Int)):=(hcells 0 _ rfl).1
   have cb:wr.drew.cell? ⟨g,off+1,none⟩=some (.int .i64 (b:Int)):=(hcells 1 _ rfl).1
   have HKL:=Lib.hid (And.intro hk hsn)
   clear hk hsn e1 e2 hcells b1 b2 b3 b4
   have HD:Hid (DbW w wr.drew (.int .i64 x.size) (.slice A0 x.wins.length c0) (dbRows (.slice (some ⟨g,off,none⟩) k cap) (.slice A2 sn cs) vp vg ((a:Int) :: (b:Int) :: r) se pl gs)):=HS.out.drewN 1
   clear HR HS H1 HB0 HCL
   go_wp2_with fail
   refine wp_region_still_tail 7 (by kernel_rfl) (by kernel_rfl) ?_
   simp only [List.take_succ_cons,List.take_zero,List.drop_succ_cons,List.drop_zero]
   repeat still_step
   refine wpStill_nil ?_
   change wpList _ _ _ _ _ wr.drew
   have HIT2:Hid (InT wr.drew (.agg #[.int .i64 x.size,.slice A0 x.wins.length c0]) x):=HIT.out.below HD.out.be
   clear ca cb q0' q1'
   generalize wr.drew=wd at *
   go_wp2_with (go_at_call 263;refine (play_any _ x a b wd HIT2.out HOK.out ha hb).mono ?_;rintro e w2 ⟨g2,rfl,hrow,hb2⟩;have H2:=Lib.hid (HD.out.push hb2 hrow);clear hrow hb2)
   obtain ⟨mw,hmw⟩:∃m,meetW x.wins (a:Int) (b:Int)=m:=⟨_,rfl⟩
   obtain ⟨ml,hml⟩:∃m,meetL x.wins (a:Int) (b:Int)=m:=⟨_,rfl⟩
   rw [hmw,hml] at H2
   have HM:=Lib.hid (And.intro hmw hml)
   obtain ⟨Ad,hif⟩:∃Ad:Addr,(if cap=2 then some (⟨g,off,none⟩:Addr) else some ⟨g,off+2,none⟩)=some Ad:=by
    by_cases h:cap=2
    ·exact ⟨_,if_pos h⟩
    ·exact ⟨_,if_neg h⟩
   have HIF:=Lib.hid hif
   have HCUT:Hid (DbW w w2.drew (.int .i64 x.size) (.slice A0 x.wins.length c0) (dbRows (.slice (some Ad) (k-2) (cap-2)) (.slice A2 sn cs) vp vg r se pl gs++[⟨3,.slice (some ⟨g2,0,none⟩) 2 2,[.int .i64 mw,.int .i64 ml]⟩])):=by
    have h:=H2.out.drewN 1
    obtain ⟨h1,h2⟩:=(h.sep.at_ 0 _ rfl).cut (k:=2) (by show 2≤(ints ((a:Int) :: (b:Int) :: r)).length;rw [ints_len];simp) (some Ad) HIF.out.symm
    have e3:(ints ((a:Int) :: (b:Int) :: r)).drop 2=ints r:=rfl
    have e4:(ints r).length=k-2:=by rw [ints_len];have:=HKL.out.1;omega
    rw [e3,e4] at h1 h2
    exact ⟨h.sep.view (k:=0) rfl h1 (fun g' hg'=>by rw [h2] at hg';exact hg'),h.be,h.bx⟩
   have cg0:w2.drew.cell? ⟨g2,0,none⟩=some (.int .i64 mw):=((HCUT.out.sep.at_ 4 _ rfl).cells (j:=0) rfl).1
   have cgA:∀o,(w2.alloc o).drew.cell? ⟨g2,0,none⟩=some (.int .i64 mw):=fun o=>(((Below.refl _ w2).alloc (Nat.le_refl _) o).cell (p:=⟨g2,0,none⟩) (block_lt_of_cell (a:=⟨g2,0,none⟩) cg0)).trans cg0
   clear H2 hmw hml HD HIT2
   have hkc:(k:Int)≤(cap:Int):=by omega
   go_wp2_with fail
   go_region_held3 (fun W=>W.cell? ⟨g2,0,none⟩=some (.int .i64 mw)) (first|exact cg0|exact cgA _|exact cg3) (first|(refine sepStep1 rfl (.tmp 60) (.tmp 64) rfl _ w2.drew mw rfl (w.heap.size+1) 0 _ (.slice (some Ad) (k-2) (cap-2)) r HCUT.out.sep HCUT.out.sz rfl rfl rfl (by have:=HKL.out.1;omega) ?_;intro v3 w3 h31 h32 h33;have H3:Hid (DbW w w3 (.int .i64 x.size) (.slice A0 x.wins.length c0) (dbRows v3 (.slice A2 sn cs) vp vg (r++[mw]) se pl gs++[⟨3,.slice (some ⟨g2,0,none⟩) 2 2,[.int .i64 mw,.int .i64 ml]⟩])):=HCUT.out.app h31 h32;have cg3:w3.cell? ⟨g2,0,none⟩=some (.int .i64 mw):=((H3.out.sep.at_ 4 _ rfl).cells (j:=0) rfl).1;clear h31 h32 h33))
   obtain ⟨A3,c3,e,-,-⟩:=(H3.out.sep.at_ 0 _ rfl).form
   simp only at e
   subst e
   obtain ⟨n3,hn3⟩:∃n3,(ints (r++[mw])).length=n3:=⟨_,rfl⟩
   rw [hn3] at H3 ⊢
   have HN3:Hid (n3=k-1):=by show _=_;rw [←hn3,ints_len,List.length_append,←HKL.out.1];simp
   have cg4:w3.cell? ⟨g2,1,none⟩=some (.int .i64 ml):=by have:=((H3.out.sep.at_ 4 _ rfl).cells (j:=1) rfl).1;rwa [Nat.zero_add] at this
   clear hn3 HCUT cg0 cgA hif HIF
   go_wp2_with (first
    | (at_builtin;refine sepApp1 rfl _ _ rfl w3 (w.heap.size+1) 1 _ (.slice A2 sn cs) se H3.out.sep H3.out.sz rfl rfl ml rfl (by have:=HKL.out.2;omega) ?_;intro v4 w4 h1 h2 h3;have H4:Hid (DbW w w4 (.int .i64 x.size) (.slice A0 x.wins.length c0) (dbRows (.slice A3 n3 c3) v4 vp vg (r++[mw]) (se++[ml]) pl gs++[⟨3,.slice (some ⟨g2,0,none⟩) 2 2,[.int .i64 mw,.int .i64 ml]⟩])):=H3.out.app h1 h2;obtain ⟨A4,c4,e,-,-⟩:=(H4.out.sep.at_ 1 _ rfl).form;simp only at e;subst e;obtain ⟨n4,hn4⟩:∃n4,(ints (se++[ml])).length=n4:=⟨_,rfl⟩;rw [hn4] at H4 ⊢;have HN4:Hid (n4=sn+1):=(by show _=_;rw [←hn4,ints_len,List.length_append,HKL.out.2];rfl);clear h1 h2 h3 hn4)
    | (at_builtin;refine sepAppS rfl _ _ rfl w4 (w.heap.size+1) 3 _ vg gs H4.out.sep H4.out.sz rfl rfl (some ⟨g2,0,none⟩) 2 2 rfl (by have:=HRO.out.2.2;omega) ?_;intro v5 w5 h1 h2 h3;have H5:Hid (DbW w w5 (.int .i64 x.size) (.slice A0 x.wins.length c0) (dbRows (.slice A3 n3 c3) (.slice A4 n4 c4) vp v5 (r++[mw]) (se++[ml]) pl (gs++[.slice (some ⟨g2,0,none⟩) 2 2]))):=(H4.out.app h1 h2).four;clear h1 h2 h3))
   go_roundw
   case rel=>
    obtain ⟨f',hf⟩:=dbNext (fi':=r++[mw]) (se':=se++[ml]) (pl':=pl) (by show (_,_,_)=_;rw [HM.out.1,HM.out.2]) (by have:=HKL.out;simp only [List.length_cons];omega) (by unfold dbM;simp only [List.length_append,List.length_cons,List.length_nil];omega) HRO.out.1 (.slice (some ⟨g2,0,none⟩) 2 2)
    exact ⟨r++[mw],se++[ml],pl,_,f',_,_,_,_,rfl,rfl,rfl,rfl,H5.out,hf⟩
   case measure=>have:=HN3.out;have:=HN4.out;simp only [lenV];omega
  | [],a :: b :: r=>
   obtain ⟨a,rfl,ha⟩:=HRG2.out a (by simp)
   obtain ⟨b,rfl,hb⟩:=HRG2.out b (by simp)
   obtain ⟨k,hk⟩:∃k,r.length+2=k:=⟨_,rfl⟩
   obtain ⟨sn,hsn⟩:∃sn,([]:List Int).length=sn:=⟨_,rfl⟩
   have hk8:k≤8:=by simp only [List.length_cons] at b2;omega
   have hk2:2≤k:=by omega
   have hk2i:(2:Int)≤(k:Int):=by omega
   have hk0n:0<k:=by omega
   have hk1n:1<k:=by omega
   have hk0:(0:Int)<(k:Int):=by omega
   have hk1:(1:Int)<(k:Int):=by omega
   have hks:(1:Int)<(sn:Int)+(k:Int):=by omega
   have hsn1:sn≤1:=by rw [←hsn];simp
   have hsn2:¬(2:Int)≤(sn:Int):=by omega
   have e1:(ints ((a:Int) :: (b:Int) :: r)).length=k:=by simp [ints,←hk]
   have e2:(ints []).length=sn:=by rw [ints_len,hsn]
   obtain ⟨g,off,cap,e,hc1,hc2,-,-,hcells⟩:=(HS.out.sep.at_ 1 _ rfl).addr (by show 0<(ints ((a:Int) :: (b:Int) :: r)).length;omega)
   simp only [e1] at e hc1 hcells
   subst e
   obtain ⟨A2,cs,e,-,-⟩:=(HS.out.sep.at_ 0 _ rfl).form
   simp only [e2] at e
   subst e
   have ca:wr.drew.cell? ⟨g,off,none⟩=some (.int .i64 (a:Int)):=(hcells 0 _ rfl).1
   have cb:wr.drew.cell? ⟨g,off+1,none⟩=some (.int .i64 (b:Int)):=(hcells 1 _ rfl).1
   have HKL:=Lib.hid (And.intro hk hsn)
   clear hk hsn e1 e2 hcells b1 b2 b3 b4
   have HD:Hid (DbW w wr.drew (.int .i64 x.size) (.slice A0 x.wins.length c0) (dbRows (.slice A2 sn cs) (.slice (some ⟨g,off,none⟩) k cap) vp vg [] ((a:Int) :: (b:Int) :: r) pl gs)):=HS.out.drewN 1
   clear HR HS H1 HB0 HCL
   go_wp2_with fail
   refine wp_region_still_tail 7 (by kernel_rfl) (by kernel_rfl) ?_
   simp only [List.take_succ_cons,List.take_zero,List.drop_succ_cons,List.drop_zero]
   repeat still_step
   refine wpStill_nil ?_
   change wpList _ _ _ _ _ wr.drew
   have HIT2:Hid (InT wr.drew (.agg #[.int .i64 x.size,.slice A0 x.wins.length c0]) x):=HIT.out.below HD.out.be
   clear ca cb q0' q1'
   generalize wr.drew=wd at *
   go_wp2_with (go_at_call 263;refine (play_any _ x a b wd HIT2.out HOK.out ha hb).mono ?_;rintro e w2 ⟨g2,rfl,hrow,hb2⟩;have H2:=Lib.hid (HD.out.push hb2 hrow);clear hrow hb2)
   obtain ⟨mw,hmw⟩:∃m,meetW x.wins (a:Int) (b:Int)=m:=⟨_,rfl⟩
   obtain ⟨ml,hml⟩:∃m,meetL x.wins (a:Int) (b:Int)=m:=⟨_,rfl⟩
   rw [hmw,hml] at H2
   have HM:=Lib.hid (And.intro hmw hml)
   obtain ⟨Ad,hif⟩:∃Ad:Addr,(if cap=2 then some (⟨g,off,none⟩:Addr) else some ⟨g,off+2,none⟩)=some Ad:=by
    by_cases h:cap=2
    ·exact ⟨_,if_pos h⟩
    ·exact ⟨_,if_neg h⟩
   have HIF:=Lib.hid hif
   have HCUT:Hid (DbW w w2.drew (.int .i64 x.size) (.slice A0 x.wins.length c0) (dbRows (.slice A2 sn cs) (.slice (some Ad) (k-2) (cap-2)) vp vg [] r pl gs++[⟨3,.slice (some ⟨g2,0,none⟩) 2 2,[.int .i64 mw,.int .i64 ml]⟩])):=by
    have h:=H2.out.drewN 1
    obtain ⟨h1,h2⟩:=(h.sep.at_ 1 _ rfl).cut (k:=2) (by show 2≤(ints ((a:Int) :: (b:Int) :: r)).length;rw [ints_len];simp) (some Ad) HIF.out.symm
    have e3:(ints ((a:Int) :: (b:Int) :: r)).drop 2=ints r:=rfl
    have e4:(ints r).length=k-2:=by rw [ints_len];have:=HKL.out.1;omega
    rw [e3,e4] at h1 h2
    exact ⟨h.sep.view (k:=1) rfl h1 (fun g' hg'=>by rw [h2] at hg';exact hg'),h.be,h.bx⟩
   have cg0:w2.drew.cell? ⟨g2,0,none⟩=some (.int .i64 mw):=((HCUT.out.sep.at_ 4 _ rfl).cells (j:=0) rfl).1
   have cgA:∀o,(w2.alloc o).drew.cell? ⟨g2,0,none⟩=some (.int .i64 mw):=fun o=>(((Below.refl _ w2).alloc (Nat.le_refl _) o).cell (p:=⟨g2,0,none⟩) (block_lt_of_cell (a:=⟨g2,0,none⟩) cg0)).trans cg0
   clear H2 hmw hml HD HIT2
   have hkc:(k:Int)≤(cap:Int):=by omega
   go_wp2_with fail
   go_region_held3 (fun W=>W.cell? ⟨g2,0,none⟩=some (.int .i64 mw)) (first|exact cg0|exact cgA _|exact cg3) (first|(refine sepStep1 rfl (.tmp 85) (.tmp 89) rfl _ w2.drew mw rfl (w.heap.size+1) 1 _ (.slice (some Ad) (k-2) (cap-2)) r HCUT.out.sep HCUT.out.sz rfl rfl rfl (by have:=HKL.out.1;omega) ?_;intro v3 w3 h31 h32 h33;have H3:Hid (DbW w w3 (.int .i64 x.size) (.slice A0 x.wins.length c0) (dbRows (.slice A2 sn cs) v3 vp vg [] (r++[mw]) pl gs++[⟨3,.slice (some ⟨g2,0,none⟩) 2 2,[.int .i64 mw,.int .i64 ml]⟩])):=HCUT.out.app h31 h32;have cg3:w3.cell? ⟨g2,0,none⟩=some (.int .i64 mw):=((H3.out.sep.at_ 4 _ rfl).cells (j:=0) rfl).1;clear h31 h32 h33))
   obtain ⟨A3,c3,e,-,-⟩:=(H3.out.sep.at_ 1 _ rfl).form
   simp only at e
   subst e
   obtain ⟨n3,hn3⟩:∃n3,(ints (r++[mw])).length=n3:=⟨_,rfl⟩
   rw [hn3] at H3 ⊢
   have HN3:Hid (n3=k-1):=by show _=_;rw [←hn3,ints_len,List.length_append,←HKL.out.1];simp
   have cg4:w3.cell? ⟨g2,1,none⟩=some (.int .i64 ml):=by have:=((H3.out.sep.at_ 4 _ rfl).cells (j:=1) rfl).1;rwa [Nat.zero_add] at this
   clear hn3 HCUT cg0 cgA hif HIF
   go_wp2_with (first
    | (at_builtin;refine sepApp1 rfl _ _ rfl w3 (w.heap.size+1) 2 _ vp pl H3.out.sep H3.out.sz rfl rfl ml rfl (by have:=HRO.out.2.1;omega) ?_;intro v4 w4 h1 h2 h3;have H4:Hid (DbW w w4 (.int .i64 x.size) (.slice A0 x.wins.length c0) (dbRows (.slice A2 sn cs) (.slice A3 n3 c3) v4 vg [] (r++[mw]) (pl++[ml]) gs++[⟨3,.slice (some ⟨g2,0,none⟩) 2 2,[.int .i64 mw,.int .i64 ml]⟩])):=H3.out.app h1 h2;clear h1 h2 h3)
    | (at_builtin;refine sepAppS rfl _ _ rfl w4 (w.heap.size+1) 3 _ vg gs H4.out.sep H4.out.sz rfl rfl (some ⟨g2,0,none⟩) 2 2 rfl (by have:=HRO.out.2.2;omega) ?_;intro v5 w5 h1 h2 h3;have H5:Hid (DbW w w5 (.int .i64 x.size) (.slice A0 x.wins.length c0) (dbRows (.slice A2 sn cs) (.slice A3 n3 c3) v4 v5 [] (r++[mw]) (pl++[ml]) (gs++[.slice (some ⟨g2,0,none⟩) 2 2]))):=(H4.out.app h1 h2).four;clear h1 h2 h3))
   go_roundw
   case rel=>
    obtain ⟨f',hf⟩:=dbNext (fi':=[]) (se':=r++[mw]) (pl':=pl++[ml]) (by show (_,_,_)=_;rw [HM.out.1,HM.out.2]) (by have:=HKL.out;simp only [List.length_cons];omega) (by unfold dbM;simp only [List.length_append,List.length_cons,List.length_nil];omega) HRO.out.1 (.slice (some ⟨g2,0,none⟩) 2 2)
    exact ⟨[],r++[mw],pl++[ml],_,f',_,_,_,_,rfl,rfl,rfl,rfl,H5.out,hf⟩
   case measure=>have:=HN3.out;simp only [lenV];omega
  | [q],a :: b :: r=>
   obtain ⟨a,rfl,ha⟩:=HRG2.out a (by simp)
   obtain ⟨b,rfl,hb⟩:=HRG2.out b (by simp)
   obtain ⟨k,hk⟩:∃k,r.length+2=k:=⟨_,rfl⟩
   obtain ⟨sn,hsn⟩:∃sn,([q]:List Int).length=sn:=⟨_,rfl⟩
   have hk8:k≤8:=by simp only [List.length_cons] at b2;omega
   have hk2:2≤k:=by omega
   have hk2i:(2:Int)≤(k:Int):=by omega
   have hk0n:0<k:=by omega
   have hk1n:1<k:=by omega
   have hk0:(0:Int)<(k:Int):=by omega
   have hk1:(1:Int)<(k:Int):=by omega
   have hks:(1:Int)<(sn:Int)+(k:Int):=by omega
   have hsn1:sn≤1:=by rw [←hsn];simp
   have hsn2:¬(2:Int)≤(sn:Int):=by omega
   have e1:(ints ((a:Int) :: (b:Int) :: r)).length=k:=by simp [ints,←hk]
   have e2:(ints [q]).length=sn:=by rw [ints_len,hsn]
   obtain ⟨g,off,cap,e,hc1,hc2,-,-,hcells⟩:=(HS.out.sep.at_ 1 _ rfl).addr (by show 0<(ints ((a:Int) :: (b:Int) :: r)).length;omega)
   simp only [e1] at e hc1 hcells
   subst e
   obtain ⟨A2,cs,e,-,-⟩:=(HS.out.sep.at_ 0 _ rfl).form
   simp only [e2] at e
   subst e
   have ca:wr.drew.cell? ⟨g,off,none⟩=some (.int .i64 (a:Int)):=(hcells 0 _ rfl).1
   have cb:wr.drew.cell? ⟨g,off+1,none⟩=some (.int .i64 (b:Int)):=(hcells 1 _ rfl).1
   have HKL:=Lib.hid (And.intro hk hsn)
   clear hk hsn e1 e2 hcells b1 b2 b3 b4
   have HD:Hid (DbW w wr.drew (.int .i64 x.size) (.slice A0 x.wins.length c0) (dbRows (.slice A2 sn cs) (.slice (some ⟨g,off,none⟩) k cap) vp vg [q] ((a:Int) :: (b:Int) :: r) pl gs)):=HS.out.drewN 1
   clear HR HS H1 HB0 HCL
   go_wp2_with fail
   refine wp_region_still_tail 7 (by kernel_rfl) (by kernel_rfl) ?_
   simp only [List.take_succ_cons,List.take_zero,List.drop_succ_cons,List.drop_zero]
   repeat still_step
   refine wpStill_nil ?_
   change wpList _ _ _ _ _ wr.drew
   have HIT2:Hid (InT wr.drew (.agg #[.int .i64 x.size,.slice A0 x.wins.length c0]) x):=HIT.out.below HD.out.be
   clear ca cb q0' q1'
   generalize wr.drew=wd at *
   go_wp2_with (go_at_call 263;refine (play_any _ x a b wd HIT2.out HOK.out ha hb).mono ?_;rintro e w2 ⟨g2,rfl,hrow,hb2⟩;have H2:=Lib.hid (HD.out.push hb2 hrow);clear hrow hb2)
   obtain ⟨mw,hmw⟩:∃m,meetW x.wins (a:Int) (b:Int)=m:=⟨_,rfl⟩
   obtain ⟨ml,hml⟩:∃m,meetL x.wins (a:Int) (b:Int)=m:=⟨_,rfl⟩
   rw [hmw,hml] at H2
   have HM:=Lib.hid (And.intro hmw hml)
   obtain ⟨Ad,hif⟩:∃Ad:Addr,(if cap=2 then some (⟨g,off,none⟩:Addr) else some ⟨g,off+2,none⟩)=some Ad:=by
    by_cases h:cap=2
    ·exact ⟨_,if_pos h⟩
    ·exact ⟨_,if_neg h⟩
   have HIF:=Lib.hid hif
   have HCUT:Hid (DbW w w2.drew (.int .i64 x.size) (.slice A0 x.wins.length c0) (dbRows (.slice A2 sn cs) (.slice (some Ad) (k-2) (cap-2)) vp vg [q] r pl gs++[⟨3,.slice (some ⟨g2,0,none⟩) 2 2,[.int .i64 mw,.int .i64 ml]⟩])):=by
    have h:=H2.out.drewN 1
    obtain ⟨h1,h2⟩:=(h.sep.at_ 1 _ rfl).cut (k:=2) (by show 2≤(ints ((a:Int) :: (b:Int) :: r)).length;rw [ints_len];simp) (some Ad) HIF.out.symm
    have e3:(ints ((a:Int) :: (b:Int) :: r)).drop 2=ints r:=rfl
    have e4:(ints r).length=k-2:=by rw [ints_len];have:=HKL.out.1;omega
    rw [e3,e4] at h1 h2
    exact ⟨h.sep.view (k:=1) rfl h1 (fun g' hg'=>by rw [h2] at hg';exact hg'),h.be,h.bx⟩
   have cg0:w2.drew.cell? ⟨g2,0,none⟩=some (.int .i64 mw):=((HCUT.out.sep.at_ 4 _ rfl).cells (j:=0) rfl).1
   have cgA:∀o,(w2.alloc o).drew.cell? ⟨g2,0,none⟩=some (.int .i64 mw):=fun o=>(((Below.refl _ w2).alloc (Nat.le_refl _) o).cell (p:=⟨g2,0,none⟩) (block_lt_of_cell (a:=⟨g2,0,none⟩) cg0)).trans cg0
   clear H2 hmw hml HD HIT2
   have hkc:(k:Int)≤(cap:Int):=by omega
   go_wp2_with fail
   go_region_held3 (fun W=>W.cell? ⟨g2,0,none⟩=some (.int .i64 mw)) (first|exact cg0|exact cgA _|exact cg3) (first|(refine sepStep1 rfl (.tmp 85) (.tmp 89) rfl _ w2.drew mw rfl (w.heap.size+1) 1 _ (.slice (some Ad) (k-2) (cap-2)) r HCUT.out.sep HCUT.out.sz rfl rfl rfl (by have:=HKL.out.1;omega) ?_;intro v3 w3 h31 h32 h33;have H3:Hid (DbW w w3 (.int .i64 x.size) (.slice A0 x.wins.length c0) (dbRows (.slice A2 sn cs) v3 vp vg [q] (r++[mw]) pl gs++[⟨3,.slice (some ⟨g2,0,none⟩) 2 2,[.int .i64 mw,.int .i64 ml]⟩])):=HCUT.out.app h31 h32;have cg3:w3.cell? ⟨g2,0,none⟩=some (.int .i64 mw):=((H3.out.sep.at_ 4 _ rfl).cells (j:=0) rfl).1;clear h31 h32 h33))
   obtain ⟨A3,c3,e,-,-⟩:=(H3.out.sep.at_ 1 _ rfl).form
   simp only at e
   subst e
   obtain ⟨n3,hn3⟩:∃n3,(ints (r++[mw])).length=n3:=⟨_,rfl⟩
   rw [hn3] at H3 ⊢
   have HN3:Hid (n3=k-1):=by show _=_;rw [←hn3,ints_len,List.length_append,←HKL.out.1];simp
   have cg4:w3.cell? ⟨g2,1,none⟩=some (.int .i64 ml):=by have:=((H3.out.sep.at_ 4 _ rfl).cells (j:=1) rfl).1;rwa [Nat.zero_add] at this
   clear hn3 HCUT cg0 cgA hif HIF
   go_wp2_with (first
    | (at_builtin;refine sepApp1 rfl _ _ rfl w3 (w.heap.size+1) 2 _ vp pl H3.out.sep H3.out.sz rfl rfl ml rfl (by have:=HRO.out.2.1;omega) ?_;intro v4 w4 h1 h2 h3;have H4:Hid (DbW w w4 (.int .i64 x.size) (.slice A0 x.wins.length c0) (dbRows (.slice A2 sn cs) (.slice A3 n3 c3) v4 vg [q] (r++[mw]) (pl++[ml]) gs++[⟨3,.slice (some ⟨g2,0,none⟩) 2 2,[.int .i64 mw,.int .i64 ml]⟩])):=H3.out.app h1 h2;clear h1 h2 h3)
    | (at_builtin;refine sepAppS rfl _ _ rfl w4 (w.heap.size+1) 3 _ vg gs H4.out.sep H4.out.sz rfl rfl (some ⟨g2,0,none⟩) 2 2 rfl (by have:=HRO.out.2.2;omega) ?_;intro v5 w5 h1 h2 h3;have H5:Hid (DbW w w5 (.int .i64 x.size) (.slice A0 x.wins.length c0) (dbRows (.slice A2 sn cs) (.slice A3 n3 c3) v4 v5 [q] (r++[mw]) (pl++[ml]) (gs++[.slice (some ⟨g2,0,none⟩) 2 2]))):=(H4.out.app h1 h2).four;clear h1 h2 h3))
   go_roundw
   case rel=>
    obtain ⟨f',hf⟩:=dbNext (fi':=[q]) (se':=r++[mw]) (pl':=pl++[ml]) (by show (_,_,_)=_;rw [HM.out.1,HM.out.2]) (by have:=HKL.out;simp only [List.length_cons];omega) (by unfold dbM;simp only [List.length_append,List.length_cons,List.length_nil];omega) HRO.out.1 (.slice (some ⟨g2,0,none⟩) 2 2)
    exact ⟨[q],r++[mw],pl++[ml],_,f',_,_,_,_,rfl,rfl,rfl,rfl,H5.out,hf⟩
   case measure=>have:=HN3.out;simp only [lenV];omega
  | [a],[b]=>
   obtain ⟨a,rfl,ha⟩:=HRG2.out a (by simp)
   obtain ⟨b,rfl,hb⟩:=HRG2.out b (by simp)
   have e1:(ints [(a:Int)]).length=1:=rfl
   have e2:(ints [(b:Int)]).length=1:=rfl
   obtain ⟨g,off,cap,e,hc1,hc2,-,-,hcells⟩:=(HS.out.sep.at_ 0 _ rfl).addr (by show 0<(ints [(a:Int)]).length;omega)
   simp only [e1] at e hc1 hcells
   subst e
   obtain ⟨g',off',cap',e,hc1',hc2',-,-,hcells'⟩:=(HS.out.sep.at_ 1 _ rfl).addr (by show 0<(ints [(b:Int)]).length;omega)
   simp only [e2] at e hc1' hcells'
   subst e
   have ca:wr.drew.cell? ⟨g,off,none⟩=some (.int .i64 (a:Int)):=(hcells 0 _ rfl).1
   have cb:wr.drew.cell? ⟨g',off',none⟩=some (.int .i64 (b:Int)):=(hcells' 0 _ rfl).1
   clear e1 e2 hcells hcells' b1 b2 b3 b4
   have HD:Hid (DbW w wr.drew (.int .i64 x.size) (.slice A0 x.wins.length c0) (dbRows (.slice (some ⟨g,off,none⟩) 1 cap) (.slice (some ⟨g',off',none⟩) 1 cap') vp vg [(a:Int)] [(b:Int)] pl gs)):=HS.out.drewN 1
   clear HR HS H1 HB0 HCL
   go_wp2_with fail
   refine wp_region_still_tail 7 (by kernel_rfl) (by kernel_rfl) ?_
   simp only [List.take_succ_cons,List.take_zero,List.drop_succ_cons,List.drop_zero]
   repeat still_step
   refine wpStill_nil ?_
   change wpList _ _ _ _ _ wr.drew
   have HIT2:Hid (InT wr.drew (.agg #[.int .i64 x.size,.slice A0 x.wins.length c0]) x):=HIT.out.below HD.out.be
   clear ca cb q0' q1'
   generalize wr.drew=wd at *
   go_wp2_with (go_at_call 263;refine (play_any _ x a b wd HIT2.out HOK.out ha hb).mono ?_;rintro e w2 ⟨g2,rfl,hrow,hb2⟩;have H2:=Lib.hid (HD.out.push hb2 hrow);clear hrow hb2)
   obtain ⟨mw,hmw⟩:∃m,meetW x.wins (a:Int) (b:Int)=m:=⟨_,rfl⟩
   obtain ⟨ml,hml⟩:∃m,meetL x.wins (a:Int) (b:Int)=m:=⟨_,rfl⟩
   rw [hmw,hml] at H2
   have HM:=Lib.hid (And.intro hmw hml)
   have ca:w2.cell? ⟨g,off,none⟩=some (.int .i64 (a:Int)):=by have:=((H2.out.sep.at_ 0 _ rfl).cells (j:=0) rfl).1;rwa [Nat.add_zero] at this
   have cb:w2.cell? ⟨g',off',none⟩=some (.int .i64 (b:Int)):=by have:=((H2.out.sep.at_ 1 _ rfl).cells (j:=0) rfl).1;rwa [Nat.add_zero] at this
   have cg0:w2.cell? ⟨g2,0,none⟩=some (.int .i64 mw):=((H2.out.sep.at_ 4 _ rfl).cells (j:=0) rfl).1
   have HST:Hid (dbStep x.wins [(a:Int)] [(b:Int)] pl=if meetW x.wins (a:Int) (b:Int)=(a:Int) then ([(a:Int)],[],pl++[(b:Int)]) else ([],[(a:Int),(b:Int)],pl)):=rfl
   rw [hmw] at HST
   have HMC:=Lib.hid (meet_cases x.wins (a:Int) (b:Int))
   rw [hmw,hml] at HMC
   clear hmw hml HD HIT2
   by_cases hw:mw=(a:Int)
   ·have hml:ml=(b:Int):=by
     rcases HMC.out with h|h
     ·exact h.2
     ·rw [h.2,←h.1,hw]
    subst hw;subst hml
    have HST2:Hid (dbStep x.wins [(a:Int)] [(b:Int)] pl=([(a:Int)],[],pl++[(b:Int)])):=by show _=_;rw [HST.out,if_pos rfl]
    clear HST HMC
    go_wp2_with fail
    go_quiet (fail)
    have H3:Hid (DbW w (w2.drewN nq) (.int .i64 x.size) (.slice A0 x.wins.length c0) (dbRows (.slice (some ⟨g,off,none⟩) 1 cap) (.slice (some ⟨g',off',none⟩) 1 cap') vp vg [(a:Int)] [(b:Int)] pl gs++[⟨3,.slice (some ⟨g2,0,none⟩) 2 2,[.int .i64 (a:Int),.int .i64 (b:Int)]⟩])):=H2.out.drewN nq
    clear H2 ca cb cg0
    generalize w2.drewN nq=w3 at *
    have cg4:w3.cell? ⟨g2,1,none⟩=some (.int .i64 (b:Int)):=by have:=((H3.out.sep.at_ 4 _ rfl).cells (j:=1) rfl).1;rwa [Nat.zero_add] at this
    go_wp2_with (first
     | (at_builtin;refine sepApp1 rfl _ _ rfl w3 (w.heap.size+1) 2 _ vp pl H3.out.sep H3.out.sz rfl rfl (b:Int) rfl (by have:=HRO.out.2.1;omega) ?_;intro v4 w4 h1 h2 h3;have H4:Hid (DbW w w4 (.int .i64 x.size) (.slice A0 x.wins.length c0) (dbRows (.slice (some ⟨g,off,none⟩) 1 cap) (.slice none 0 0) v4 vg [(a:Int)] [] (pl++[(b:Int)]) gs++[⟨3,.slice (some ⟨g2,0,none⟩) 2 2,[.int .i64 (a:Int),.int .i64 (b:Int)]⟩])):=(H3.out.app h1 h2).nilAt1;clear h1 h2 h3)
     | (at_builtin;refine sepAppS rfl _ _ rfl w4 (w.heap.size+1) 3 _ vg gs H4.out.sep H4.out.sz rfl rfl (some ⟨g2,0,none⟩) 2 2 rfl (by have:=HRO.out.2.2;omega) ?_;intro v5 w5 h1 h2 h3;have H5:Hid (DbW w w5 (.int .i64 x.size) (.slice A0 x.wins.length c0) (dbRows (.slice (some ⟨g,off,none⟩) 1 cap) (.slice none 0 0) v4 v5 [(a:Int)] [] (pl++[(b:Int)]) (gs++[.slice (some ⟨g2,0,none⟩) 2 2]))):=(H4.out.app h1 h2).four;clear h1 h2 h3))
    go_roundw
    case rel=>
     obtain ⟨f',hf⟩:=dbNext HST2.out (by simp) (by simp [dbM]) HRO.out.1 (.slice (some ⟨g2,0,none⟩) 2 2)
     exact ⟨[(a:Int)],[],pl++[(b:Int)],_,f',_,_,_,_,rfl,rfl,rfl,rfl,H5.out,hf⟩
    case measure=>simp only [lenV];omega
   ·have hmb:mw=(b:Int)∧ml=(a:Int):=by
     rcases HMC.out with h|h
     ·exact absurd h.1 hw
     ·exact h
    obtain ⟨hm1,hml⟩:=hmb
    have HST2:Hid (dbStep x.wins [(a:Int)] [(b:Int)] pl=([],[(a:Int),(b:Int)],pl)):=by show _=_;rw [HST.out,if_neg hw]
    clear HST HMC
    subst hm1;subst hml
    have hab:((b:Int)==(a:Int))=false:=by rw [beq_eq_false_iff_ne];exact hw
    clear hw
    go_wp2_with fail
    go_quiet (fail)
    have H3:Hid (DbW w (w2.drewN nq) (.int .i64 x.size) (.slice A0 x.wins.length c0) (dbRows (.slice (some ⟨g,off,none⟩) 1 cap) (.slice (some ⟨g',off',none⟩) 1 cap') vp vg [(a:Int)] [(b:Int)] pl gs++[⟨3,.slice (some ⟨g2,0,none⟩) 2 2,[.int .i64 (b:Int),.int .i64 (a:Int)]⟩])):=H2.out.drewN nq
    have ca3:(w2.drewN nq).drew.cell? ⟨g,off,none⟩=some (.int .i64 (a:Int)):=ca
    have cb3:(w2.drewN nq).drew.cell? ⟨g',off',none⟩=some (.int .i64 (b:Int)):=cb
    have HCA:Hid ((w2.drewN nq).cell? ⟨g,off,none⟩=some (.int .i64 (a:Int))∧(w2.drewN nq).cell? ⟨g',off',none⟩=some (.int .i64 (b:Int))):=⟨ca,cb⟩
    clear H2 ca cb cg0
    generalize w2.drewN nq=w3 at *
    go_wp2_with fail
    refine wp_region_still_tail 6 (by kernel_rfl) (by kernel_rfl) ?_
    simp only [List.take_succ_cons,List.take_zero,List.drop_succ_cons,List.drop_zero]
    repeat still_step
    refine wpStill_nil ?_
    change wpList _ _ _ _ _ w3.drew
    have H4:Hid (DbW w (w3.drew.alloc (.cells #[.int .i64 (a:Int),.int .i64 (b:Int)] 3)) (.int .i64 x.size) (.slice A0 x.wins.length c0) (dbRows (.slice none 0 0) (.slice (some ⟨w3.drew.heap.size,0,none⟩) 2 2) vp vg [] [(a:Int),(b:Int)] pl gs++[⟨3,.slice (some ⟨g2,0,none⟩) 2 2,[.int .i64 (b:Int),.int .i64 (a:Int)]⟩])):=(H3.out.drewN 1).swapOut
    clear H3 ca3 cb3 HCA
    generalize w3.drew=w4 at *
    go_wp2_with (at_builtin;refine sepAppS rfl _ _ rfl (w4.alloc (.cells #[.int .i64 (a:Int),.int .i64 (b:Int)] 3)) (w.heap.size+1) 3 _ vg gs H4.out.sep H4.out.sz rfl rfl (some ⟨g2,0,none⟩) 2 2 (by first|rfl|(rw [World.size_alloc];rfl)) (by have:=HRO.out.2.2;omega) ?_;intro v5 w5 h1 h2 h3;have H5:Hid (DbW w w5 (.int .i64 x.size) (.slice A0 x.wins.length c0) (dbRows (.slice none 0 0) (.slice (some ⟨w4.heap.size,0,none⟩) 2 2) vp v5 [] [(a:Int),(b:Int)] pl (gs++[.slice (some ⟨g2,0,none⟩) 2 2]))):=(H4.out.app h1 h2).four;clear h1 h2 h3)
    go_roundw
    case rel=>
     obtain ⟨f',hf⟩:=dbNext HST2.out (by simp) (by simp [dbM]) HRO.out.1 (.slice (some ⟨g2,0,none⟩) 2 2)
     exact ⟨[],[(a:Int),(b:Int)],pl,_,f',_,_,_,_,rfl,rfl,rfl,rfl,H5.out,hf⟩
    case measure=>simp only [lenV];omega
  | [],[]=>
   exact absurd hlt (by simp)
  | [],[q]=>
   exact absurd hlt (by simp)
  | [q],[]=>
   exact absurd hlt (by simp)
end Go.Proofs.YtkapoldjcpfdgaaGreatDoor
