/- A bracket for a winner: the program's. -/
import Derived.Test.YtkapoldjcpfdgaaGreatDoorMbc
import Derived.Test.YtkapoldjcpfdgaaGreatDoorMbf
set_option maxHeartbeats 8000000
set_option maxRecDepth 100000
namespace Go.Proofs.YtkapoldjcpfdgaaGreatDoor
open Go.ChangeShapes Go.WideShapes Go.ChangeAt Go.RowKit
attribute [local go_sem] Oper.semAt_some
theorem orC_of {W:World}{l rv rb lb gl n cl:Nat} (hl:l<W.heap.size) (hrv:rv<W.heap.size) (hrb:rb<W.heap.size) (hlb:lb<W.heap.size) (hgl:gl<W.heap.size)
  (clb:W.cell? ⟨lb,0,none⟩=some (.slice (some ⟨gl,0,none⟩) n cl)) (ncl:n≤cl∧cl≤maxLen) (cgl:∀k,k<n→W.cell? ⟨gl,k,none⟩=some (.int .i64 (k:Int))):
  OrC (ordStart W l lb) (W.heap.size+3) (W.heap.size+1) l rv rb lb gl W.heap.size (W.heap.size+1+1) n cl:=by
 obtain ⟨b,z,h1,h2,h3⟩:=ordStart_facts W l lb
 exact ⟨by omega,by omega,by omega,by omega,⟨by omega,by omega,by omega⟩,⟨by omega,by omega⟩,⟨by omega,by omega⟩,⟨by omega,by omega⟩,⟨by omega,by omega⟩,
  (b.cell (p:=⟨lb,0,none⟩) hlb).trans clb,ncl,fun k hk=>(b.cell (p:=⟨gl,k,none⟩) hgl).trans (cgl k hk),(box_cell h1).1,(box_cell h3).1⟩
theorem orS_of (W:World) (l lb:Nat):OrS (ordStart W l lb) (ordStart W l lb) (W.heap.size+3) (W.heap.size+1) (.slice none 0 0) []:=by
 obtain ⟨bl,z,k1,k2,k3⟩:=ordStart_facts W l lb
 exact ⟨fun _ _ _=>rfl,⟨rfl,rfl,rfl⟩,by omega,k2,⟨(Fr.nil _ (by omega)),(Fr.nil _ (by omega)),fun g hg=>by simp [Value.ownBlock] at hg⟩⟩
theorem orders1T {W:World}{l rv rb lb gl n cl m:Nat}{rc:Loop}{p:List Int→Bool} (C:OrC (ordStart W l lb) (W.heap.size+3) (W.heap.size+1) l rv rb lb gl W.heap.size (W.heap.size+1+1) n cl) (hn:n≤8)
  (hY:RoundsT (ordStart W l lb) (W.heap.size+3) (W.heap.size+1) l rv rb rc p n):
  CallsIn Fence.wide m Tryz.prog 268 #[.func (.yield l) #[] #[],.pointer (some ⟨lb,0,none⟩)] W
   (fun e W'=>(∃v,e=.returned v)∧∃e',OrRes (ordStart W l lb) (W.heap.size+3) (W.heap.size+1) l rv rb rc [] e' W' ((allO n).find? p)):=by
 have HE:=Lib.hid (extendT C hn hY n (m-1) _ _ [] (by simp) (fun y hy=>by simp at hy) (orS_of W l lb))
 have HA:Hid (visit n n []=allO n):=rfl
 rw [HA.out] at HE
 cases hx:(allO n).find? p with
 | none=>
  rw [hx] at HE
  clear hx
  refine callsIn_of_wp Tryz.func268 rfl trivial ?_ rfl
  simp only [Tryz.ntmps268,List.size_toArray,List.length_cons,List.length_nil,Nat.reduceAdd,Nat.reduceSub,Array.replicate_succ,Array.replicate_zero,List.push_toArray,List.append_toArray,List.nil_append,List.cons_append]
  gi_wp2_with (refine ⟨trivial,fun h=>(by cases h),?_⟩;refine HE.out.mono ?_;rintro e w6 ⟨rfl,H6⟩;have H6h:=Lib.hid H6;clear H6)
  go_end0
  exact ⟨⟨_,rfl⟩,_,rfl,H6h.out⟩
 | some best=>
  rw [hx] at HE
  clear hx
  refine callsIn_of_wp Tryz.func268 rfl trivial ?_ rfl
  simp only [Tryz.ntmps268,List.size_toArray,List.length_cons,List.length_nil,Nat.reduceAdd,Nat.reduceSub,Array.replicate_succ,Array.replicate_zero,List.push_toArray,List.append_toArray,List.nil_append,List.cons_append]
  gi_wp2_with (refine ⟨trivial,fun h=>(by cases h),?_⟩;refine HE.out.mono ?_;rintro e w6 ⟨rfl,H6⟩;have H6h:=Lib.hid H6;clear H6)
  go_end0
  exact ⟨⟨_,rfl⟩,_,rfl,H6h.out⟩
theorem keep_put (W:World) (l:Nat) (o:Obj):Keep l (l+1) W (W.putObj l o):=⟨rfl,rfl,rfl,by simp,fun k _ hk=>World.putObj_heap_other (by omega)⟩
theorem OrS.round {W0 W W3:World}{lo ob l:Nat}{r r':Loop}{ov:Value}{cur:List Int} (h:OrS W0 W lo ob ov cur) (hr:W0.heap[l]? = some (.loop r)) (hl:l<lo) (ho:ob<lo) (hne:ob≠l) (hb:Below (W.putObj l (.loop r')).heap.size (W.putObj l (.loop r')) W3):
  W3.heap[l]? = some (.loop r')∧OrS W0 (W3.putObj l (.loop r)) lo ob ov cur:=by
 have hz:=h.sz
 have K1:=keep_put W l (.loop r')
 have h1:=two_keep h.two K1 hl
 have hb1:(W.putObj l (.loop r')).heap[l]? = some (.loop r'):=World.putObj_heap_same (by omega)
 have hz1:(W.putObj l (.loop r')).heap.size=W.heap.size:=World.putObj_size ..
 have h2:=h1.below hb
 have hl3:W3.heap[l]? = some (.loop r'):=(hb.block l (by omega)).trans hb1
 have K3:=keep_put W3 l (.loop r)
 have h3:=two_keep h2 K3 hl
 have hz3:=hb.size
 refine ⟨hl3,fun k hk h4=>?_,⟨K3.os.trans (hb.os.trans (K1.os.trans h.env.1)),K3.tape.trans (hb.tape.trans (K1.tape.trans h.env.2.1)),K3.output.trans (hb.output.trans (K1.output.trans h.env.2.2))⟩,by rw [World.putObj_size];omega,?_,h3⟩
 ·by_cases e:k=l
  ·subst e
   rw [hr];exact World.putObj_heap_same (by omega)
  ·exact (World.putObj_heap_other e).trans ((hb.block k (by omega)).trans ((World.putObj_heap_other e).trans (h.fix k hk h4)))
 ·exact (World.putObj_heap_other hne).trans ((hb.block ob (by omega)).trans ((World.putObj_heap_other hne).trans h.hob))
theorem OrS.fits {W0 W W2:World}{lo ob l rv rb:Nat}{r' rc:Loop}{ov vb v0 v1:Value}{cur:List Int} (h:OrS W0 W lo ob ov cur) (hl:l<lo) (ho:ob<lo) (hrv:rv<lo) (hrb:rb<lo) (hne:ob≠l∧ob≠rv∧ob≠rb) (hne2:l≠rv∧l≠rb∧rv≠rb)
  (h0:W0.heap[rv]? = some (.cells #[v0] 25 (0,0))) (h1:W0.heap[rb]? = some (.cells #[v1] 4 (0,0))) (hb:Below (W.putObj l (.loop r')).heap.size (W.putObj l (.loop r')) W2) (hf:Fr W2 (W.putObj l (.loop r')).heap.size W2.heap.size vb cur):
  ((W2.setCell ⟨rv,0,none⟩ vb).setCell ⟨rb,0,none⟩ (.bool true)).heap[l]? = some (.loop r')∧OrT W0 (((W2.setCell ⟨rv,0,none⟩ vb).setCell ⟨rb,0,none⟩ (.bool true)).putObj l (.loop rc)) lo ob l rv rb rc ov cur cur vb:=by
 have hz:=h.sz
 have K1:=keep_put W l (.loop r')
 have t1:=two_keep h.two K1 hl
 have hz1:(W.putObj l (.loop r')).heap.size=W.heap.size:=World.putObj_size ..
 have b1:(W.putObj l (.loop r')).heap[l]? = some (.loop r'):=World.putObj_heap_same (by omega)
 have g1:∀k,k≠l→(W.putObj l (.loop r')).heap[k]? = W.heap[k]?:=fun k hk=>World.putObj_heap_other hk
 have en1:(W.putObj l (.loop r')).os=W0.os∧(W.putObj l (.loop r')).tape=W0.tape∧(W.putObj l (.loop r')).output=W0.output:=h.env
 generalize W.putObj l (.loop r')=Wb at *
 have t2:Two W2 lo ov vb cur cur:=by
  refine ⟨(t1.fb.below hb (Nat.le_refl _)).wide (Nat.le_refl _) hb.size (Nat.le_refl _),hf.wide (by omega) (Nat.le_refl _) (Nat.le_refl _),fun g hg hg2=>?_⟩
  have:=t1.fb.2.1 g hg
  have:=(hf.1.lt g hg2).1
  omega
 have blk2:∀k,k<lo→k≠l→W2.heap[k]? = W.heap[k]?:=fun k hk hkl=>(hb.block k (by omega)).trans (g1 k hkl)
 have l2:W2.heap[l]? = some (.loop r'):=(hb.block l (by omega)).trans b1
 have a0:=((blk2 rv hrv (fun e=>hne2.1 e.symm)).trans (h.fix rv hrv (fun e=>hne.2.1 e.symm))).trans h0
 have a1:=((blk2 rb hrb (fun e=>hne2.2.1 e.symm)).trans (h.fix rb hrb (fun e=>hne.2.2 e.symm))).trans h1
 have ao:=(blk2 ob ho hne.1).trans h.hob
 have fx:∀k,k<lo→k≠ob→k≠l→W2.heap[k]? = W0.heap[k]?:=fun k hk h4 h5=>(blk2 k hk h5).trans (h.fix k hk h4)
 have en2:W2.os=W0.os∧W2.tape=W0.tape∧W2.output=W0.output:=⟨hb.os.trans en1.1,hb.tape.trans en1.2.1,hb.output.trans en1.2.2⟩
 have hz2:=hb.size
 have KA:=keep_set W2 rv vb
 have t3:=two_keep t2 KA hrv
 have c0:=box_set (u:=vb) a0
 have blkA:∀k,k<lo→k≠rv→(W2.setCell ⟨rv,0,none⟩ vb).heap[k]? = W2.heap[k]?:=fun k hk hkv=>KA.block k (by omega) (by omega)
 have hzA:=KA.size
 have enA:(W2.setCell ⟨rv,0,none⟩ vb).os=W0.os∧(W2.setCell ⟨rv,0,none⟩ vb).tape=W0.tape∧(W2.setCell ⟨rv,0,none⟩ vb).output=W0.output:=en2
 generalize W2.setCell ⟨rv,0,none⟩ vb=WA at *
 have KB:=keep_set WA rb (.bool true)
 have t4:=two_keep t3 KB hrb
 have blkB:∀k,k<lo→k≠rb→(WA.setCell ⟨rb,0,none⟩ (.bool true)).heap[k]? = WA.heap[k]?:=fun k hk hkv=>KB.block k (by omega) (by omega)
 have d1:=box_set (u:=.bool true) ((blkA rb hrb (fun e=>hne2.2.2 e.symm)).trans a1)
 have d0:=(blkB rv hrv hne2.2.2).trans c0
 have dl:=(blkB l hl hne2.2.1).trans ((blkA l hl hne2.1).trans l2)
 have dO:=(blkB ob ho hne.2.2).trans ((blkA ob ho hne.2.1).trans ao)
 have hzB:=KB.size
 have fB:∀k,k<lo→k≠ob→k≠l→k≠rv→k≠rb→(WA.setCell ⟨rb,0,none⟩ (.bool true)).heap[k]? = W0.heap[k]?:=fun k hk q1 q2 q3 q4=>(blkB k hk q4).trans ((blkA k hk q3).trans (fx k hk q1 q2))
 have enB:(WA.setCell ⟨rb,0,none⟩ (.bool true)).os=W0.os∧(WA.setCell ⟨rb,0,none⟩ (.bool true)).tape=W0.tape∧(WA.setCell ⟨rb,0,none⟩ (.bool true)).output=W0.output:=enA
 generalize WA.setCell ⟨rb,0,none⟩ (.bool true)=WB at *
 refine ⟨dl,fun k hk q1 q2 q3 q4=>(World.putObj_heap_other q2).trans (fB k hk q1 q2 q3 q4),enB,by rw [World.putObj_size];omega,(World.putObj_heap_other hne.1).trans dO,World.putObj_heap_same (by omega),(World.putObj_heap_other (fun e=>hne2.1 e.symm)).trans d0,(World.putObj_heap_other (fun e=>hne2.2.1 e.symm)).trans d1,two_keep t4 (keep_put WB l (.loop rc)) hl⟩
def LR (w:World) (e:Ending) (w':World) (o:Option (List Int)):Prop:=
 Below w.heap.size w w'∧match o with
  | none=>e=.returned (.tuple #[.slice none 0 0,.bool false])
  | some l=>∃v',e=.returned (.tuple #[v',.bool true])∧Fr w' w.heap.size w'.heap.size v' l
structure BfQ (w W:World) (a:Int) (A0:Option Addr) (c0 n lb gl cl:Nat):Prop where
 bx:Bx W w.heap.size (.int .i64 (n:Int)) (.slice A0 n c0)
 ha:W.heap[w.heap.size+1]? = some (.cells #[.int .i64 a] 3 (0,0))
 hrv:W.heap[w.heap.size+2]? = some (.cells #[.slice none 0 0] 25 (0,0))
 hrb:W.heap[w.heap.size+3]? = some (.cells #[.bool false] 4 (0,0))
 hl:W.heap[lb]? = some (.cells #[.slice (some ⟨gl,0,none⟩) n cl] 25 (0,0))
 lb1:w.heap.size+4≤lb∧lb<W.heap.size
 gl1:w.heap.size+4≤gl∧gl<W.heap.size
 row:∀k,k<n→W.cell? ⟨gl,k,none⟩=some (.int .i64 (k:Int))
 ncl:n≤cl∧cl≤maxLen
 be:Below w.heap.size w W
def bfStart (w:World) (z u:Value) (a:Int):World:=(((w.alloc (.cells #[z,u] 27)).alloc (.cells #[.int .i64 a] 3)).alloc (.cells #[.slice none 0 0] 25)).alloc (.cells #[.bool false] 4)
theorem bfStart_facts (w:World) (z u:Value) (a:Int):Below w.heap.size w (bfStart w z u a)∧(bfStart w z u a).heap.size=w.heap.size+4∧Bx (bfStart w z u a) w.heap.size z u ∧
  (bfStart w z u a).heap[w.heap.size+1]? = some (.cells #[.int .i64 a] 3 (0,0))∧(bfStart w z u a).heap[w.heap.size+2]? = some (.cells #[.slice none 0 0] 25 (0,0))∧(bfStart w z u a).heap[w.heap.size+3]? = some (.cells #[.bool false] 4 (0,0)):=by
 have step:∀(W:World) (o:Obj) (k:Nat) (x:Obj),W.heap[k]? = some x→(W.alloc o).heap[k]? = some x:=fun W o k x h=>(Below.heap_alloc W o k (Array.getElem?_eq_some_iff.1 h).1).trans h
 have new:∀(W:World) (o:Obj) (k:Nat),W.heap.size=k→(W.alloc o).heap[k]? = some o:=fun W o k h=>by subst h;exact World.alloc_heap_new W o
 refine ⟨((((Below.refl _ w).alloc (Nat.le_refl _) _).alloc (by simp) _).alloc (by simp;omega) _).alloc (by simp;omega) _,by simp [bfStart],?_,step _ _ _ _ (step _ _ _ _ (new _ _ _ (by simp))),step _ _ _ _ (new _ _ _ (by simp)),new _ _ _ (by simp)⟩
 have h0:(bfStart w z u a).heap[w.heap.size]? = some (.cells #[z,u] 27 (0,0)):=step _ _ _ _ (step _ _ _ _ (step _ _ _ _ (new w _ _ rfl)))
 exact ⟨by simp [World.cell?,h0],by simp [World.cell?,h0],(Array.getElem?_eq_some_iff.1 h0).1⟩
theorem bfQ_of {w w0 w2:World}{a:Int}{A0:Option Addr}{c0 n gl cl:Nat} (h0:Bx w0 w.heap.size (.int .i64 (n:Int)) (.slice A0 n c0)) (ha:w0.heap[w.heap.size+1]? = some (.cells #[.int .i64 a] 3 (0,0)))
  (hrv:w0.heap[w.heap.size+2]? = some (.cells #[.slice none 0 0] 25 (0,0))) (hrb:w0.heap[w.heap.size+3]? = some (.cells #[.bool false] 4 (0,0))) (hbe:Below w.heap.size w w0)
  (hf:Fr w2 w0.heap.size w2.heap.size (.slice (some ⟨gl,0,none⟩) n cl) (idxs n)) (hb:Below w0.heap.size w0 w2):
  BfQ w (w2.alloc (.cells #[.slice (some ⟨gl,0,none⟩) n cl] 25)) a A0 c0 n w2.heap.size gl cl:=by
 have step:∀(W:World) (o:Obj) (k:Nat) (x:Obj),W.heap[k]? = some x→(W.alloc o).heap[k]? = some x:=fun W o k x h=>(Below.heap_alloc W o k (Array.getElem?_eq_some_iff.1 h).1).trans h
 have hbl:Below w2.heap.size w2 (w2.alloc (.cells #[.slice (some ⟨gl,0,none⟩) n cl] 25)):=(Below.refl _ w2).alloc (Nat.le_refl _) _
 have hz3:=(Array.getElem?_eq_some_iff.1 hrb).1
 have hz:=hb.size
 have hg1:=(hf.1.lt gl rfl).1
 have hg2:=hf.2.1 gl rfl
 obtain ⟨A',c',e,hc1,hc2⟩:=hf.form
 injection e with e1 e2 e3
 subst e3
 rw [idxs_length] at hc1
 refine ⟨(h0.below hb).below hbl,step _ _ _ _ ((hb.block _ (by omega)).trans ha),step _ _ _ _ ((hb.block _ (by omega)).trans hrv),step _ _ _ _ ((hb.block _ (by omega)).trans hrb),World.alloc_heap_new w2 _,⟨by omega,by simp⟩,⟨by omega,by simp;omega⟩,fun k hk=>?_,⟨hc1,hc2⟩,hbe.trans ((hb.mono hbe.size).trans (hbl.mono (by omega)))⟩
 obtain ⟨g',y,e,_,_,hy,cy,_⟩:=hf.at_ (k:=k) (by rw [idxs_length];exact hk)
 injection e with e;injection e with e;subst e
 rw [idxs_get hk] at hy
 injection hy with hy;subst hy
 exact (hbl.cell (p:=⟨gl,k,none⟩) hg2).trans cy
theorem bf_final {w W:World}{b d:Nat}{v0 v1:Value} (k0:W.heap[b]? = some (.cells #[v0] 25 (0,0))) (k1:W.heap[b+1]? = some (.cells #[v1] 4 (0,0))) (hB:Below w.heap.size w W) (hw:w.heap.size≤b) (hd:b+2≤d) (hD:W.heap[d]? = some (.deferred (some []))) (u0 u1:Value):
  ((W.setCell ⟨b,0,none⟩ u0).setCell ⟨b+1,0,none⟩ u1).heap[d]? = some (.deferred (some [])) ∧
  (((W.setCell ⟨b,0,none⟩ u0).setCell ⟨b+1,0,none⟩ u1).putObj d (.deferred none)).cell? ⟨b,0,none⟩=some u0 ∧
  (((W.setCell ⟨b,0,none⟩ u0).setCell ⟨b+1,0,none⟩ u1).putObj d (.deferred none)).cell? ⟨b+1,0,none⟩=some u1 ∧
  Below w.heap.size w (((W.setCell ⟨b,0,none⟩ u0).setCell ⟨b+1,0,none⟩ u1).putObj d (.deferred none)):=by
 have hd2:=(Array.getElem?_eq_some_iff.1 hD).1
 have K1:=keep_set W b u0
 have e0:=box_set (u:=u0) k0
 have e1:(W.setCell ⟨b,0,none⟩ u0).heap[b+1]? = some (.cells #[v1] 4 (0,0)):=(K1.block _ (by omega) (by omega)).trans k1
 have e6:(W.setCell ⟨b,0,none⟩ u0).heap[d]? = some (.deferred (some [])):=(K1.block _ (by omega) (by omega)).trans hD
 have s1:=K1.size
 have B1:Below w.heap.size w (W.setCell ⟨b,0,none⟩ u0):=hB.trans (K1.below hw (by omega))
 generalize W.setCell ⟨b,0,none⟩ u0=W1 at *
 have K2:=keep_set W1 (b+1) u1
 have f0:=(K2.block b (by omega) (by omega)).trans e0
 have f1:=box_set (u:=u1) e1
 have f6:=(K2.block d (by omega) (by omega)).trans e6
 have s2:=K2.size
 have B2:Below w.heap.size w (W1.setCell ⟨b+1,0,none⟩ u1):=B1.trans (K2.below (by omega) (by omega))
 generalize W1.setCell ⟨b+1,0,none⟩ u1=W2 at *
 have K3:=keep_put W2 d (.deferred none)
 exact ⟨f6,(box_cell ((K3.block b (by omega) (by omega)).trans f0)).1,(box_cell ((K3.block (b+1) (by omega) (by omega)).trans f1)).1,B2.trans (K3.below (by omega) (by omega))⟩
theorem OrS.be {W0 W w:World}{lo ob B:Nat}{ov:Value}{cur:List Int} (h:OrS W0 W lo ob ov cur) (hb:Below B w W0) (hlo:B≤lo) (ho:B≤ob) (hw:w.heap.size≤W.heap.size):Below B w W:=
 ⟨h.env.1.trans hb.os,h.env.2.1.trans hb.tape,h.env.2.2.trans hb.output,hw,fun k hk=>(h.fix k (by omega) (by omega)).trans (hb.block k hk)⟩
theorem OrT.be {W0 W w:World}{lo ob l rv rb B:Nat}{rc:Loop}{ov vb:Value}{cur best:List Int} (h:OrT W0 W lo ob l rv rb rc ov cur best vb) (hb:Below B w W0) (hlo:B≤lo) (ho:B≤ob) (hl:B≤l) (hrv:B≤rv) (hrb:B≤rb) (hw:w.heap.size≤W.heap.size):Below B w W:=
 ⟨h.env.1.trans hb.os,h.env.2.1.trans hb.tape,h.env.2.2.trans hb.output,hw,fun k hk=>(h.fix k (by omega) (by omega) (by omega) (by omega) (by omega)).trans (hb.block k hk)⟩
theorem LR.none_of {w w':World}{e:Ending}{o:Option (List Int)} (ho:o=none) (he:e=.returned (.tuple #[.slice none 0 0,.bool false])) (hb:Below w.heap.size w w'):LR w e w' o:=by subst ho;exact ⟨hb,he⟩
theorem bracketFor_go (x:TourV) (n c0:Nat) (A0:Option Addr) (a:Int) (w:World) (hn:x.wins.length=n) (hs:InT w (.agg #[.int .i64 (n:Int),.slice A0 n c0]) x) (hok:tourB x=true) (hbs:brSize n=true) (hin:inB a 0 ((n:Int)-1)=true):
  Calls Tryz.prog 102 #[.agg #[.int .i64 (n:Int),.slice A0 n c0],.int .i64 a] w fun e w'=>LR w e w' ((allO n).find? fun o=>wnrF x.wins 3 o==a):=by
 have HIT:=Lib.hid hs
 have HOK:=Lib.hid (And.intro hok hn)
 have hsz:x.size=(n:Int):=by obtain ⟨_,_,h,_⟩:=tourB_t hok;rw [←h,hn]
 have hn8:1≤n∧n≤8∧∃k,n=2^k∧k≤3:=by
  rcases brSize_le hbs with h|h|h|h<;>subst h
  ·exact ⟨by decide,by decide,0,by decide,by decide⟩
  ·exact ⟨by decide,by decide,1,by decide,by decide⟩
  ·exact ⟨by decide,by decide,2,by decide,by decide⟩
  ·exact ⟨by decide,by decide,3,by decide,by decide⟩
 obtain ⟨hn1,hn8,k3,hk3,hk33⟩:=hn8
 have HK3:=Lib.hid (And.intro hk3 hk33)
 have HIF:Hid (∀W,Below w.heap.size w W→Calls Tryz.prog 182 #[.agg #[.int .i64 (n:Int),.slice A0 n c0]] W fun e w'=>e=.returned (.bool true)∧Below W.heap.size W w'):=fun W hW=>by
  have h:=isFixed_any _ x W (HIT.out.below hW)
  rw [hok,hn,hbs] at h;exact h
 have HHS:Hid (∀W,Below w.heap.size w W→Calls Tryz.prog 151 #[.agg #[.int .i64 (n:Int),.slice A0 n c0],.int .i64 a] W fun e w'=>e=.returned (.bool true)∧Below W.heap.size W w'):=fun W hW=>by
  have h:=hasT_any _ x a W (HIT.out.below hW) (by omega)
  rw [hsz,hin] at h;exact h
 have HIX:Hid (∀W,Calls Tryz.prog 157 #[.int .i64 (n:Int)] W fun e w'=>∃g c,e=.returned (.slice (some ⟨g,0,none⟩) n c)∧Fr w' W.heap.size w'.heap.size (.slice (some ⟨g,0,none⟩) n c) (idxs n)∧Below W.heap.size W w'):=fun W=>by
  refine (indices_any n W (by omega)).mono fun e w' ⟨v',he,hf,hb⟩=>?_
  obtain ⟨A',c',rfl,hc1,hc2⟩:=hf.form
  obtain ⟨g,y,rfl,_⟩:=hf.at_ (k:=0) (by rw [idxs_length];omega)
  rw [idxs_length] at he hf
  exact ⟨g,c',he,hf,hb⟩
 obtain ⟨p,hp⟩:∃p:List Int→Bool,(fun o=>wnrF x.wins 3 o==a)=p:=⟨_,rfl⟩
 rw [hp]
 have HP:=Lib.hid hp
 clear hp
 have HST:=Lib.hid (bfStart_facts w (.int .i64 (n:Int)) (.slice A0 n c0) a)
 clear hs hok hn hsz hbs hin hk3 hk33
 refine (callsIn_wide (n:=8)).1 ?_
 refine callsIn_of_wp_marks Tryz.func102 rfl trivial ?_ rfl
 simp only [Tryz.ntmps102,List.size_toArray,List.length_cons,List.length_nil,Nat.reduceAdd,Nat.reduceSub,Array.replicate_succ,Array.replicate_zero,List.push_toArray,List.append_toArray,List.nil_append,List.cons_append]
 gi_upto_region 1 with fail
 change Code.wpIn _ _ _ _ _ _ (bfStart w (.int .i64 (n:Int)) (.slice A0 n c0) a)
 generalize bfStart w (.int .i64 (n:Int)) (.slice A0 n c0) a=w0 at *
 have HC:Hid (∀W,Below w0.heap.size w0 W→Bx W w.heap.size (.int .i64 (n:Int)) (.slice A0 n c0)∧W.cell? ⟨w.heap.size+1,0,none⟩=some (.int .i64 a)):=fun W hb=>
  ⟨HST.out.2.2.1.below hb,(box_cell ((hb.block _ (Array.getElem?_eq_some_iff.1 HST.out.2.2.2.1).1).trans HST.out.2.2.2.1)).1⟩
 obtain ⟨⟨q0,q1,-⟩,ca⟩:=HC.out w0 (Below.refl _ _)
 gi_wp2_with (first
  | (refine ⟨trivial,?_⟩;gi_at_call 182;refine (callsIn_wide.2 (HIF.out _ HST.out.1)).mono ?_;rintro e w1 ⟨rfl,hb⟩;have B1:=Lib.hid hb;clear q0 q1 ca;obtain ⟨⟨q0,q1,-⟩,ca⟩:=HC.out w1 hb;clear hb)
  | (refine ⟨trivial,?_⟩;gi_at_call 151;refine (callsIn_wide.2 (HHS.out _ (HST.out.1.trans (B1.out.mono HST.out.1.size)))).mono ?_;rintro e w2 ⟨rfl,hb⟩;have B2:Hid (Below w0.heap.size w0 w2):=B1.out.trans (hb.mono B1.out.size);clear q0 q1 ca hb;obtain ⟨⟨q0,q1,-⟩,ca⟩:=HC.out w2 B2.out)
  | (refine ⟨trivial,?_⟩;gi_at_call 157;refine (callsIn_wide.2 (HIX.out _)).mono ?_;rintro e w3 ⟨gl,cl,rfl,hfl,hb3⟩;have H3:=Lib.hid (bfQ_of (a:=a) (A0:=A0) (c0:=c0) (n:=n) (HST.out.2.2.1.below B2.out) ((B2.out.block _ (Array.getElem?_eq_some_iff.1 HST.out.2.2.2.1).1).trans HST.out.2.2.2.1) ((B2.out.block _ (Array.getElem?_eq_some_iff.1 HST.out.2.2.2.2.1).1).trans HST.out.2.2.2.2.1) ((B2.out.block _ (Array.getElem?_eq_some_iff.1 HST.out.2.2.2.2.2).1).trans HST.out.2.2.2.2.2) (HST.out.1.trans (B2.out.mono HST.out.1.size)) hfl hb3);clear hfl hb3)
  | (refine ⟨trivial,?_⟩;gi_at_call 183;refine (callsIn_wide.2 (orders_any _ _ _ _)).mono ?_;rintro e w4 ⟨rfl,rfl⟩))
 obtain ⟨lb,hlb⟩:∃lb,w3.heap.size=lb:=⟨_,rfl⟩
 rw [hlb] at H3 ⊢
 clear hlb
 generalize w3.alloc (.cells #[.slice (some ⟨gl,0,none⟩) n cl] 25)=wq at *
 clear q0 q1 ca B1 B2 HC HIX HHS HIF HST
 refine range_of (gf:=268) (lb:=#[.pointer (some ⟨lb,0,none⟩)]) rfl (enters_of Tryz.func268 (by kernel_rfl) rfl)
  (fun W'=>(allO n).find? p=none∧W'.heap[w.heap.size+2]? = some (.cells #[.slice none 0 0] 25 (0,0))∧W'.heap[w.heap.size+3]? = some (.cells #[.bool false] 4 (0,0))∧Below w.heap.size w W')
  (fun c W'=>c=.ret∧∃best vb,(allO n).find? p=some best∧W'.heap[w.heap.size+2]? = some (.cells #[vb] 25 (0,0))∧W'.heap[w.heap.size+3]? = some (.cells #[.bool true] 4 (0,0))∧Fr W' (wq.heap.size+2) W'.heap.size vb best∧Below w.heap.size w W') ?call ?done ?stop
 case stop=>
  rintro c W o ⟨rfl,best,vb,hu,k0,k1,hfr,hbe⟩ hD
  have hq:=H3.out.lb1
  have KP:=keep_put W (wq.heap.size+1) o
  have hD2:(W.putObj (wq.heap.size+1) o).heap[wq.heap.size]? = some (.deferred (some [])):=(World.putObj_heap_other (by omega)).trans hD
  have k0':=(KP.block (w.heap.size+2) (Array.getElem?_eq_some_iff.1 k0).1 (by omega)).trans k0
  have k1':=(KP.block (w.heap.size+3) (Array.getElem?_eq_some_iff.1 k1).1 (by omega)).trans k1
  have HF2:=(hfr.keep KP (.inr (by omega))).wide (Nat.le_refl _) KP.size (Nat.le_refl _)
  have HB:Hid (Below w.heap.size w (W.putObj (wq.heap.size+1) o)):=hbe.trans (KP.below (by omega) hbe.size)
  have HU:=Lib.hid hu
  clear hu k0 k1 hbe hD KP hfr
  generalize W.putObj (wq.heap.size+1) o=W2 at *
  have K6:=keep_put W2 wq.heap.size (.deferred none)
  have z0:=(box_cell ((K6.block (w.heap.size+2) (Array.getElem?_eq_some_iff.1 k0').1 (by omega)).trans k0')).1
  have z1:=(box_cell ((K6.block (w.heap.size+3) (Array.getElem?_eq_some_iff.1 k1').1 (by omega)).trans k1')).1
  have HF3:=Lib.hid ((HF2.keep K6 (.inr (by omega))).wide (lo':=w.heap.size) (by omega) K6.size (Nat.le_refl _))
  have HB3:Hid (Below w.heap.size w (W2.putObj wq.heap.size (.deferred none))):=HB.out.trans (K6.below (by omega) HB.out.size)
  have HD:=Lib.hid hD2
  clear k0' k1' hD2 HF2 K6
  dsimp only
  gi_wp2
  refine ⟨by simp,.inl ⟨_,_,rfl,run_takeDeferred HD.out,?_⟩⟩
  refine ⟨.tuple #[vb,.bool true],by simp [results,Tryz.results102,go_sem,z0,z1],HB3.out,?_⟩
  rw [HU.out]
  exact ⟨vb,rfl,HF3.out⟩
 case done=>
  rintro W o ⟨hu,k0,k1,hbe⟩ hD
  have hq:=H3.out.lb1
  have KP:=keep_put W (wq.heap.size+1) o
  have hD2:(W.putObj (wq.heap.size+1) o).heap[wq.heap.size]? = some (.deferred (some [])):=(World.putObj_heap_other (by omega)).trans hD
  have k0':=(KP.block (w.heap.size+2) (Array.getElem?_eq_some_iff.1 k0).1 (by omega)).trans k0
  have k1':=(KP.block (w.heap.size+3) (Array.getElem?_eq_some_iff.1 k1).1 (by omega)).trans k1
  have HB:Hid (Below w.heap.size w (W.putObj (wq.heap.size+1) o)):=hbe.trans (KP.below (by omega) hbe.size)
  have HU:=Lib.hid hu
  clear hu k0 k1 hbe hD KP
  generalize W.putObj (wq.heap.size+1) o=W2 at *
  obtain ⟨c0',f0'⟩:=box_cell k0'
  obtain ⟨c1',f1'⟩:=box_cell k1'
  have HFN:=Lib.hid (bf_final (b:=w.heap.size+2) k0' k1' HB.out (by omega) (by omega) hD2 (.slice none 0 0) (.bool false))
  clear k0' k1' hD2
  dsimp only
  gi_wp2
  refine ⟨by simp,.inl ⟨_,_,rfl,run_takeDeferred HFN.out.1,?_⟩⟩
  obtain ⟨-,z0,z1,z2⟩:=HFN.out
  refine ⟨.tuple #[.slice none 0 0,.bool false],by simp [results,Tryz.results102,go_sem,z0,z1],?_⟩
  exact LR.none_of HU.out rfl z2
 case call=>
  intro fn
  dsimp only
  generalize hr:recOf fn _ #[20] _ _ wq.heap.size=r
  have hst:r.state=.ready:=by rw [←hr];rfl
  have hpe:r.pending=none:=by rw [←hr];rfl
  have hpa:r.params.size=1:=by rw [←hr];rfl
  have bS:=rangeStart_below wq r
  have zS:=rangeStart_size wq r
  have recS:=rangeStart_rec wq r
  have defS:=rangeStart_def wq r
  generalize rangeStart wq r=W1 at *
  obtain ⟨q0,q1,q2,q3,q4,q5,q6,q7,q8,q9⟩:=H3.out
  have hwz:=q9.size
  have hw4:=(Array.getElem?_eq_some_iff.1 q3).1
  have C:=orC_of (W:=W1) (l:=wq.heap.size+1) (rv:=w.heap.size+2) (rb:=w.heap.size+3) (lb:=lb) (gl:=gl) (n:=n) (cl:=cl) (by omega) (by omega) (by omega) (by omega) (by omega)
   ((bS.cell (p:=⟨lb,0,none⟩) q5.2).trans (box_cell q4).1) q8 (fun k hk=>(bS.cell (p:=⟨gl,k,none⟩) q6.2).trans (q7 k hk))
  obtain ⟨bO,zO,-⟩:=ordStart_facts W1 (wq.heap.size+1) lb
  have HO:=orders1T (m:=8-1) (p:=p) (rc:={ r with state:=.done,pending:=some .ret }) C hn8
  have HREC:Hid ((ordStart W1 (wq.heap.size+1) lb).heap[wq.heap.size+1]? = some (.loop r)):=(bO.block _ (by omega)).trans recS
  have HDEF:Hid ((ordStart W1 (wq.heap.size+1) lb).heap[wq.heap.size]? = some (.deferred (some []))):=(bO.block _ (by omega)).trans defS
  have HB0:Hid (Bx (ordStart W1 (wq.heap.size+1) lb) w.heap.size (.int .i64 (n:Int)) (.slice A0 n c0)∧(ordStart W1 (wq.heap.size+1) lb).heap[w.heap.size+1]? = some (.cells #[.int .i64 a] 3 (0,0))∧(ordStart W1 (wq.heap.size+1) lb).heap[w.heap.size+2]? = some (.cells #[.slice none 0 0] 25 (0,0))∧(ordStart W1 (wq.heap.size+1) lb).heap[w.heap.size+3]? = some (.cells #[.bool false] 4 (0,0))):=
   ⟨(q0.below bS).below bO,(bO.block _ (by omega)).trans ((bS.block _ (by omega)).trans q1),(bO.block _ (by omega)).trans ((bS.block _ (by omega)).trans q2),(bO.block _ (by omega)).trans ((bS.block _ (by omega)).trans q3)⟩
  have B0:Hid (Below w.heap.size w (ordStart W1 (wq.heap.size+1) lb)):=q9.trans ((bS.trans (bO.mono (by omega))).mono (by omega))
  have hO0:=bO.size
  clear C bO bS recS defS q0 q1 q2 q3 q4 q7 q8 q9
  generalize ordStart W1 (wq.heap.size+1) lb=W0 at *
  have hY:RoundsT W0 (W1.heap.size+3) (W1.heap.size+1) (wq.heap.size+1) (w.heap.size+2) (w.heap.size+3) { r with state:=.done,pending:=some .ret } p n:=by
   intro m W ov cur hcl hcr H
   cases hp:p cur
   case false=>
    simp only [Bool.false_eq_true,if_false]
    refine YieldAt.mono (yield_of (r:=r) (On:=fun W'=>OrS W0 W' (W1.heap.size+3) (W1.heap.size+1) ov cur) (Stop:=fun _ _=>False) ((H.fix _ (by omega) (by omega)).trans HREC.out) hst hpe (by rw [hpa];rfl) ?_) ?_
    case refine_2=>
     rintro e W' (⟨he,h⟩|⟨_,_,h⟩)
     ·exact ⟨he,ov,h⟩
     ·exact h.elim
    generalize hrb:({ r with state:=LoopState.busy }:Loop)=rb'
    obtain ⟨e1,e2,e3,e4⟩:r.assign=_∧r.body=_∧r.params=_∧r.tmps=_:=by rw [←hr];exact ⟨rfl,rfl,rfl,rfl⟩
    rw [e1,e2,e3,e4]
    clear e1 e2 e3 e4 hr hst hpe hpa hrb HO
    dsimp only [recOf]
    have HH:=Lib.hid H
    clear H
    gi_wp2
    refine ⟨(HH.out.fix _ (by omega) (by omega)).trans HREC.out,?_⟩
    have hz:=HH.out.sz
    have K1:=keep_put W (wq.heap.size+1) (.loop rb')
    have T1:=two_keep HH.out.two K1 (by omega)
    have hbe:Below w.heap.size w (W.putObj (wq.heap.size+1) (.loop rb')):=(HH.out.be B0.out (by omega) (by omega) (by omega)).trans (K1.below (by omega) (by omega))
    have g0:=(World.putObj_heap_other (w:=W) (o:=.loop rb') (show w.heap.size≠wq.heap.size+1 by omega)).trans (HH.out.fix w.heap.size (by omega) (by omega))
    have g1:=(World.putObj_heap_other (w:=W) (o:=.loop rb') (show w.heap.size+1≠wq.heap.size+1 by omega)).trans (HH.out.fix (w.heap.size+1) (by omega) (by omega))
    have g2:=(World.putObj_heap_other (w:=W) (o:=.loop rb') (show w.heap.size+2≠wq.heap.size+1 by omega)).trans (HH.out.fix (w.heap.size+2) (by omega) (by omega))
    have g3:=(World.putObj_heap_other (w:=W) (o:=.loop rb') (show w.heap.size+3≠wq.heap.size+1 by omega)).trans (HH.out.fix (w.heap.size+3) (by omega) (by omega))
    have gz:(W.putObj (wq.heap.size+1) (.loop rb')).heap.size=W.heap.size:=World.putObj_size ..
    have HRND:Hid (∀W3,Below (W.putObj (wq.heap.size+1) (.loop rb')).heap.size (W.putObj (wq.heap.size+1) (.loop rb')) W3→W3.heap[wq.heap.size+1]? = some (.loop rb')∧OrS W0 (W3.putObj (wq.heap.size+1) (.loop r)) (W1.heap.size+3) (W1.heap.size+1) ov cur):=fun W3 hb=>HH.out.round HREC.out (by omega) (by omega) (by omega) hb
    generalize W.putObj (wq.heap.size+1) (.loop rb')=Wb at *
    obtain ⟨Ao,cap,hov,hao,ham⟩:=T1.fb.form
    rw [hcl] at hov hao
    subst hov
    obtain ⟨q0,q1,-⟩:=HB0.out.1
    have hq0:Wb.cell? ⟨w.heap.size,0,none⟩=some (.int .i64 (n:Int)):=(cell_heap g0).trans q0
    have hq1:Wb.cell? ⟨w.heap.size,1,none⟩=some (.slice A0 n c0):=(cell_heap g0).trans q1
    have hca:Wb.cell? ⟨w.heap.size+1,0,none⟩=some (.int .i64 a):=(cell_heap g1).trans (box_cell HB0.out.2.1).1
    have HWN:Hid (Calls Tryz.prog 184 #[.agg #[.int .i64 (n:Int),.slice A0 n c0],.slice Ao n cap] Wb.drew fun e w'=>e=.returned (.int .i64 (wnrF x.wins 3 cur))∧Below Wb.drew.heap.size Wb.drew w'):=by
     have hin:=T1.fb.in_
     refine winner_any _ x _ cur k3 Wb.drew (HIT.out.below (below_drewL hbe)) (InI.below (w:=Wb) hin (below_of_drewN _ Wb 1)) HOK.out.1 (fun y hy=>?_) (by rw [hcl];exact HK3.out.1) HK3.out.2
     have:=hcr y hy
     rw [HOK.out.2];omega
    have hpc:(wnrF x.wins 3 cur==a)=false:=by have:=congrFun HP.out cur;rw [hp] at this;exact this
    have hz2:∀o:Nat,o<w.heap.size+4→o<Wb.heap.size:=fun o ho=>by omega
    have HCE:Hid (∀W5,Below Wb.drew.heap.size Wb.drew W5→(W5.cell? ⟨w.heap.size,0,none⟩=some (.int .i64 (n:Int))∧W5.cell? ⟨w.heap.size,1,none⟩=some (.slice A0 n c0)∧W5.cell? ⟨w.heap.size+1,0,none⟩=some (.int .i64 a))∧W5.heap[w.heap.size+2]? = some (.cells #[.slice none 0 0] 25 (0,0))∧W5.heap[w.heap.size+3]? = some (.cells #[.bool false] 4 (0,0))):=fun W5 hb=>
     ⟨⟨(hb.cell (p:=⟨w.heap.size,0,none⟩) (hz2 w.heap.size (by omega))).trans hq0,(hb.cell (p:=⟨w.heap.size,1,none⟩) (hz2 w.heap.size (by omega))).trans hq1,(hb.cell (p:=⟨w.heap.size+1,0,none⟩) (hz2 (w.heap.size+1) (by omega))).trans hca⟩,(hb.block _ (hz2 _ (by omega))).trans (g2.trans HB0.out.2.2.1),(hb.block _ (hz2 _ (by omega))).trans (g3.trans HB0.out.2.2.2)⟩
    obtain ⟨wn,hwn⟩:∃m,wnrF x.wins 3 cur=m:=⟨_,rfl⟩
    rw [hwn] at HWN hpc
    have HBW:Hid (∀W5,Below Wb.drew.heap.size Wb.drew W5→Below Wb.heap.size Wb W5):=fun W5 hb=>(below_of_drewN _ Wb 1).trans hb
    have T1h:=Lib.hid T1
    have HCL:=Lib.hid hcl
    obtain ⟨⟨d0,d1,d2⟩,-,-⟩:=HCE.out Wb.drew (Below.refl _ _)
    clear hcl hcr hp g0 g1 g2 g3 hq0 hq1 hca hbe K1 T1 q0 q1 HH hwn
    unfold maxLen at ham
    gi_upto_region 5 with fail
    refine region_round (S:=fun W=>W.cell? ⟨w.heap.size,0,none⟩=some (.int .i64 (n:Int))∧W.cell? ⟨w.heap.size,1,none⟩=some (.slice A0 n c0)∧W.cell? ⟨w.heap.size+1,0,none⟩=some (.int .i64 a)) (by kernel_rfl) (by kernel_rfl) ⟨d0,d1,d2⟩ (fun hHeld=>?_)
    refine wT 0 (.agg #[.int .i64 (n:Int),.slice A0 n c0]) ?_
    try simp only [pu]
    refine wT 1 (.slice Ao n cap) ?_
    try simp only [pu]
    refine wT 3 (.int .i64 a) ?_
    try simp only [pu]
    refine wR 2 (fun K hK=>?_)
    go_simp
    go_at_call 184
    (with_reducible refine (HWN.out).mono ?_)
    rintro e w5 ⟨rfl,hb5⟩
    have H5:=Lib.hid hb5;clear hb5
    try (go_wp2_with fail)
    refine hK.out _ _ (HCE.out w5 H5.out).1 (fun hHeld=>?_)
    clear hK K
    try simp only [pu]
    refine wR 4 (fun K hK=>?_)
    go_simp
    refine hK.out _ _ (HCE.out w5 H5.out).1 (fun hHeld=>?_)
    clear hK K
    try simp only [pu]
    refine wpAnyH_done (by kernel_rfl) ?_ _
    refine OnN.intro ?_
    have HEND:=Lib.hid (HRND.out w5 (HBW.out w5 H5.out))
    clear HRND
    gi_wp2
    have e:=HEND.out
    rw [zS] at e
    exact e
   case true=>
    simp only [if_true]
    refine YieldAt.mono (yield_of (r:=r) (On:=fun _=>False) (Stop:=fun c W'=>∃vb,OrT W0 W' (W1.heap.size+3) (W1.heap.size+1) (wq.heap.size+1) (w.heap.size+2) (w.heap.size+3) { r with state:=.done,pending:=some .ret } ov cur cur vb) ((H.fix _ (by omega) (by omega)).trans HREC.out) hst hpe (by rw [hpa];rfl) ?_) ?_
    case refine_2=>
     rintro e W' (⟨_,h⟩|⟨he,_,vb,h⟩)
     ·exact h.elim
     ·exact ⟨he,ov,vb,h⟩
    generalize hrb:({ r with state:=LoopState.busy }:Loop)=rb'
    generalize hrc:({ r with state:=LoopState.done,pending:=some Code.ret }:Loop)=rc
    obtain ⟨e1,e2,e3,e4⟩:r.assign=_∧r.body=_∧r.params=_∧r.tmps=_:=by rw [←hr];exact ⟨rfl,rfl,rfl,rfl⟩
    rw [e1,e2,e3,e4]
    clear e1 e2 e3 e4 hr hst hpe hpa hrb hrc HO
    dsimp only [recOf]
    have HH:=Lib.hid H
    clear H
    gi_wp2
    refine ⟨(HH.out.fix _ (by omega) (by omega)).trans HREC.out,?_⟩
    have hz:=HH.out.sz
    have K1:=keep_put W (wq.heap.size+1) (.loop rb')
    have T1:=two_keep HH.out.two K1 (by omega)
    have hbe:Below w.heap.size w (W.putObj (wq.heap.size+1) (.loop rb')):=(HH.out.be B0.out (by omega) (by omega) (by omega)).trans (K1.below (by omega) (by omega))
    have g0:=(World.putObj_heap_other (w:=W) (o:=.loop rb') (show w.heap.size≠wq.heap.size+1 by omega)).trans (HH.out.fix w.heap.size (by omega) (by omega))
    have g1:=(World.putObj_heap_other (w:=W) (o:=.loop rb') (show w.heap.size+1≠wq.heap.size+1 by omega)).trans (HH.out.fix (w.heap.size+1) (by omega) (by omega))
    have g2:=(World.putObj_heap_other (w:=W) (o:=.loop rb') (show w.heap.size+2≠wq.heap.size+1 by omega)).trans (HH.out.fix (w.heap.size+2) (by omega) (by omega))
    have g3:=(World.putObj_heap_other (w:=W) (o:=.loop rb') (show w.heap.size+3≠wq.heap.size+1 by omega)).trans (HH.out.fix (w.heap.size+3) (by omega) (by omega))
    have gz:(W.putObj (wq.heap.size+1) (.loop rb')).heap.size=W.heap.size:=World.putObj_size ..
    have HRND:Hid (∀W3 vb,Below (W.putObj (wq.heap.size+1) (.loop rb')).heap.size (W.putObj (wq.heap.size+1) (.loop rb')) W3→Fr W3 (W.putObj (wq.heap.size+1) (.loop rb')).heap.size W3.heap.size vb cur→((W3.setCell ⟨w.heap.size+2,0,none⟩ vb).setCell ⟨w.heap.size+3,0,none⟩ (.bool true)).heap[wq.heap.size+1]? = some (.loop rb')∧OrT W0 (((W3.setCell ⟨w.heap.size+2,0,none⟩ vb).setCell ⟨w.heap.size+3,0,none⟩ (.bool true)).putObj (wq.heap.size+1) (.loop rc)) (W1.heap.size+3) (W1.heap.size+1) (wq.heap.size+1) (w.heap.size+2) (w.heap.size+3) rc ov cur cur vb):=fun W3 vb hb hf=>HH.out.fits (by omega) (by omega) (by omega) (by omega) ⟨by omega,by omega,by omega⟩ ⟨by omega,by omega,by omega⟩ HB0.out.2.2.1 HB0.out.2.2.2 hb hf
    generalize W.putObj (wq.heap.size+1) (.loop rb')=Wb at *
    obtain ⟨Ao,cap,hov,hao,ham⟩:=T1.fb.form
    rw [hcl] at hov hao
    subst hov
    obtain ⟨q0,q1,-⟩:=HB0.out.1
    have hq0:Wb.cell? ⟨w.heap.size,0,none⟩=some (.int .i64 (n:Int)):=(cell_heap g0).trans q0
    have hq1:Wb.cell? ⟨w.heap.size,1,none⟩=some (.slice A0 n c0):=(cell_heap g0).trans q1
    have hca:Wb.cell? ⟨w.heap.size+1,0,none⟩=some (.int .i64 a):=(cell_heap g1).trans (box_cell HB0.out.2.1).1
    have HWN:Hid (Calls Tryz.prog 184 #[.agg #[.int .i64 (n:Int),.slice A0 n c0],.slice Ao n cap] Wb.drew fun e w'=>e=.returned (.int .i64 (wnrF x.wins 3 cur))∧Below Wb.drew.heap.size Wb.drew w'):=by
     have hin:=T1.fb.in_
     refine winner_any _ x _ cur k3 Wb.drew (HIT.out.below (below_drewL hbe)) (InI.below (w:=Wb) hin (below_of_drewN _ Wb 1)) HOK.out.1 (fun y hy=>?_) (by rw [hcl];exact HK3.out.1) HK3.out.2
     have:=hcr y hy
     rw [HOK.out.2];omega
    have hpc:(wnrF x.wins 3 cur==a)=true:=by have:=congrFun HP.out cur;rw [hp] at this;exact this
    have hz2:∀o:Nat,o<w.heap.size+4→o<Wb.heap.size:=fun o ho=>by omega
    have HCE:Hid (∀W5,Below Wb.drew.heap.size Wb.drew W5→(W5.cell? ⟨w.heap.size,0,none⟩=some (.int .i64 (n:Int))∧W5.cell? ⟨w.heap.size,1,none⟩=some (.slice A0 n c0)∧W5.cell? ⟨w.heap.size+1,0,none⟩=some (.int .i64 a))∧W5.heap[w.heap.size+2]? = some (.cells #[.slice none 0 0] 25 (0,0))∧W5.heap[w.heap.size+3]? = some (.cells #[.bool false] 4 (0,0))):=fun W5 hb=>
     ⟨⟨(hb.cell (p:=⟨w.heap.size,0,none⟩) (hz2 w.heap.size (by omega))).trans hq0,(hb.cell (p:=⟨w.heap.size,1,none⟩) (hz2 w.heap.size (by omega))).trans hq1,(hb.cell (p:=⟨w.heap.size+1,0,none⟩) (hz2 (w.heap.size+1) (by omega))).trans hca⟩,(hb.block _ (hz2 _ (by omega))).trans (g2.trans HB0.out.2.2.1),(hb.block _ (hz2 _ (by omega))).trans (g3.trans HB0.out.2.2.2)⟩
    obtain ⟨wn,hwn⟩:∃m,wnrF x.wins 3 cur=m:=⟨_,rfl⟩
    rw [hwn] at HWN hpc
    have HBW:Hid (∀W5,Below Wb.drew.heap.size Wb.drew W5→Below Wb.heap.size Wb W5):=fun W5 hb=>(below_of_drewN _ Wb 1).trans hb
    have T1h:=Lib.hid T1
    have HCL:=Lib.hid hcl
    obtain ⟨⟨d0,d1,d2⟩,-,-⟩:=HCE.out Wb.drew (Below.refl _ _)
    clear hcl hcr hp g0 g1 g2 g3 hq0 hq1 hca hbe K1 T1 q0 q1 HH hwn
    unfold maxLen at ham
    gi_upto_region 5 with fail
    refine region_round (S:=fun W=>W.cell? ⟨w.heap.size,0,none⟩=some (.int .i64 (n:Int))∧W.cell? ⟨w.heap.size,1,none⟩=some (.slice A0 n c0)∧W.cell? ⟨w.heap.size+1,0,none⟩=some (.int .i64 a)) (by kernel_rfl) (by kernel_rfl) ⟨d0,d1,d2⟩ (fun hHeld=>?_)
    refine wT 0 (.agg #[.int .i64 (n:Int),.slice A0 n c0]) ?_
    try simp only [pu]
    refine wT 1 (.slice Ao n cap) ?_
    try simp only [pu]
    refine wT 3 (.int .i64 a) ?_
    try simp only [pu]
    refine wR 2 (fun K hK=>?_)
    go_simp
    go_at_call 184
    (with_reducible refine (HWN.out).mono ?_)
    rintro e w5 ⟨rfl,hb5⟩
    have H5:=Lib.hid hb5;clear hb5
    try (go_wp2_with fail)
    refine hK.out _ _ (HCE.out w5 H5.out).1 (fun hHeld=>?_)
    clear hK K
    try simp only [pu]
    refine wR 4 (fun K hK=>?_)
    go_simp
    refine hK.out _ _ (HCE.out w5 H5.out).1 (fun hHeld=>?_)
    clear hK K
    try simp only [pu]
    refine wpAnyH_done (by kernel_rfl) ?_ _
    refine OnN.intro ?_
    have HCLN:Hid (Calls Tryz.prog 59 #[.slice Ao n cap] w5 fun e w'=>∃g c',e=.returned (.slice (some ⟨g,0,none⟩) n c')∧Fr w' w5.heap.size w'.heap.size (.slice (some ⟨g,0,none⟩) n c') cur∧Below w5.heap.size w5 w'):=by
     have h:=cloneI_any Ao cap cur w5 ((T1h.out.fb.sl).below (HBW.out w5 H5.out)) (by have:=HCL.out;omega)
     rw [HCL.out] at h
     refine h.mono fun e w' ⟨A',c',he,hf,hb⟩=>?_
     obtain ⟨g,y,rfl,-⟩:=hf.at_ (k:=0) (by rw [HCL.out];omega)
     exact ⟨g,c',he,hf,hb⟩
    gi_wp2_with (refine ⟨trivial,fun h=>(by cases h),?_⟩;gi_at_call 59;refine (CallsIn.inRound _ (callsIn_wide.2 HCLN.out)).mono ?_;rintro e w6 ⟨g6,c6,rfl,hf6,hb6⟩;have HB6:Hid (Below Wb.drew.heap.size Wb.drew w6):=H5.out.trans (hb6.mono H5.out.size);have HF6:Hid (Fr w6 Wb.heap.size w6.heap.size (.slice (some ⟨g6,0,none⟩) n c6) cur):=hf6.wide H5.out.size (Nat.le_refl _) (Nat.le_refl _);obtain ⟨-,k2,k3⟩:=HCE.out w6 HB6.out;obtain ⟨ce2,fe2⟩:=box_cell k2;obtain ⟨ce3,fe3⟩:=box_cell ((keep_set w6 (w.heap.size+2) (.slice (some ⟨g6,0,none⟩) n c6)).block (w.heap.size+3) (Array.getElem?_eq_some_iff.1 k3).1 (by omega) |>.trans k3);clear hf6 hb6 k2 k3)
    have e:=HRND.out w6 _ (HBW.out w6 HB6.out) HF6.out
    rw [zS] at e
    exact ⟨e.1,_,e.2⟩
  refine (HO hY).mono ?_
  rintro e W' ⟨hv,e',hres⟩
  cases hx:(allO n).find? p with
  | none=>
   rw [hx] at hres
   obtain ⟨-,ov,H⟩:=hres
   have hz:=H.sz
   exact ⟨hv,(H.fix wq.heap.size (by omega) (by omega)).trans HDEF.out,.inl ⟨(H.fix (wq.heap.size+1) (by omega) (by omega)).trans HREC.out,rfl,(H.fix (w.heap.size+2) (by omega) (by omega)).trans HB0.out.2.2.1,(H.fix (w.heap.size+3) (by omega) (by omega)).trans HB0.out.2.2.2,H.be B0.out (by omega) (by omega) (by omega)⟩⟩
  | some best=>
   rw [hx] at hres
   obtain ⟨-,ov,vb,H⟩:=hres
   have hz:=H.sz
   exact ⟨hv,(H.fix wq.heap.size (by omega) (by omega) (by omega) (by omega) (by omega)).trans HDEF.out,.inr ⟨.ret,H.hl,rfl,best,vb,rfl,H.hrv,H.hrb,H.two.fw.wide (by omega) (Nat.le_refl _) (Nat.le_refl _),H.be B0.out (by omega) (by omega) (by omega) (by omega) (by omega) (by omega)⟩⟩
theorem bfNone {w W:World}{b:Nat}{v0 v1:Value} (_k0:W.heap[b]? = some (.cells #[v0] 25 (0,0))) (_k1:W.heap[b+1]? = some (.cells #[v1] 4 (0,0))) (hB:Below w.heap.size w W) (hw:w.heap.size≤b) (u0 u1:Value):
  Below w.heap.size w ((W.setCell ⟨b,0,none⟩ u0).setCell ⟨b+1,0,none⟩ u1):=by
 have K1:=keep_set W b u0
 have K2:=keep_set (W.setCell ⟨b,0,none⟩ u0) (b+1) u1
 exact (hB.trans (K1.below hw hB.size)).trans (K2.below (by omega) (Nat.le_trans hB.size K1.size))
theorem implBracketFor_any (v:Value) (x:TourV) (a:Int) (w:World) (hs:InT w v x):
  Calls Tryz.prog 102 #[v,.int .i64 a] w fun e w'=>LR w e w' (bfF x a):=by
 have HIT:=Lib.hid hs
 have hs0:=hs
 obtain ⟨u,rfl,A0,c0,rfl,hc,hm,hsl⟩:=hs
 have HFX:Hid (∀W,Below w.heap.size w W→Calls Tryz.prog 182 #[.agg #[.int .i64 x.size,.slice A0 x.wins.length c0]] W fun e w'=>e=.returned (.bool (tourB x && brSize x.wins.length))∧Below W.heap.size W w'):=fun W hW=>isFixed_any _ x W (HIT.out.below hW)
 have HST:=Lib.hid (bfStart_facts w (.int .i64 x.size) (.slice A0 x.wins.length c0) a)
 clear hsl hc hm
 cases h1:(tourB x && brSize x.wins.length)
 case false=>
  have HE:Hid (bfF x a=none):=by
   show _=_
   unfold bfF
   rw [←Bool.and_assoc,h1];rfl
  rw [h1] at HFX
  clear h1 hs0
  obtain ⟨q0,q1,-⟩:=HST.out.2.2.1
  go_enter Tryz.func102,Tryz.ntmps102
  go_upto_region 1 with fail
  change Code.wp _ _ _ _ (bfStart w (.int .i64 x.size) (.slice A0 x.wins.length c0) a)
  generalize bfStart w (.int .i64 x.size) (.slice A0 x.wins.length c0) a=w0 at *
  go_wp2_with (go_at_call 182;refine (HFX.out _ HST.out.1).mono ?_;rintro e w1 ⟨rfl,hb⟩;have B1:Hid (Below w.heap.size w w1):=HST.out.1.trans (hb.mono HST.out.1.size);have k0:=(hb.block _ (Array.getElem?_eq_some_iff.1 HST.out.2.2.2.2.1).1).trans HST.out.2.2.2.2.1;have k1:=(hb.block _ (Array.getElem?_eq_some_iff.1 HST.out.2.2.2.2.2).1).trans HST.out.2.2.2.2.2;have HN:=Lib.hid (bfNone k0 k1 B1.out (by omega) (.slice none 0 0) (.bool false));obtain ⟨z0,f0⟩:=box_cell k0;obtain ⟨z1,f1⟩:=box_cell k1;clear hb k0 k1)
  refine bodyPost_ret (v:=.tuple #[.slice none 0 0,.bool false]) (by simp [results,Tryz.results102,go_sem,z0,z1]) rfl ?_
  exact LR.none_of HE.out rfl HN.out
 rw [Bool.and_eq_true] at h1
 obtain ⟨t1,t2,t3,_⟩:=tourB_t h1.1
 have hsz:x.size=(x.wins.length:Int):=t3.symm
 cases h2:inB a 0 (x.size-1)
 case false=>
  have HE:Hid (bfF x a=none):=by
   show _=_
   unfold bfF
   rw [h1.1,h1.2,←hsz,h2];rfl
  rw [h1.1,h1.2] at HFX
  have HHS:Hid (∀W,Below w.heap.size w W→Calls Tryz.prog 151 #[.agg #[.int .i64 x.size,.slice A0 x.wins.length c0],.int .i64 a] W fun e w'=>e=.returned (.bool false)∧Below W.heap.size W w'):=fun W hW=>by
   have h:=hasT_any _ x a W (HIT.out.below hW) (by omega)
   rw [h2] at h;exact h
  clear h1 hs0 t1 t2 t3 hsz h2
  obtain ⟨q0,q1,-⟩:=HST.out.2.2.1
  go_enter Tryz.func102,Tryz.ntmps102
  go_upto_region 1 with fail
  change Code.wp _ _ _ _ (bfStart w (.int .i64 x.size) (.slice A0 x.wins.length c0) a)
  generalize bfStart w (.int .i64 x.size) (.slice A0 x.wins.length c0) a=w0 at *
  go_wp2_with (first
   | (go_at_call 182;refine (HFX.out _ HST.out.1).mono ?_;rintro e w1 ⟨rfl,hb⟩;have B1:Hid (Below w0.heap.size w0 w1):=hb;clear q0 q1;obtain ⟨q0,q1,-⟩:=HST.out.2.2.1.below hb;have ca:=(box_cell ((hb.block _ (Array.getElem?_eq_some_iff.1 HST.out.2.2.2.1).1).trans HST.out.2.2.2.1)).1;clear hb)
   | (go_at_call 151;refine (HHS.out _ (HST.out.1.trans (B1.out.mono HST.out.1.size))).mono ?_;rintro e w2 ⟨rfl,hb2⟩;have hb:Below w0.heap.size w0 w2:=B1.out.trans (hb2.mono B1.out.size);have B2:Hid (Below w.heap.size w w2):=HST.out.1.trans (hb.mono HST.out.1.size);have k0:=(hb.block _ (Array.getElem?_eq_some_iff.1 HST.out.2.2.2.2.1).1).trans HST.out.2.2.2.2.1;have k1:=(hb.block _ (Array.getElem?_eq_some_iff.1 HST.out.2.2.2.2.2).1).trans HST.out.2.2.2.2.2;have HN:=Lib.hid (bfNone k0 k1 B2.out (by omega) (.slice none 0 0) (.bool false));obtain ⟨z0,f0⟩:=box_cell k0;obtain ⟨z1,f1⟩:=box_cell k1;clear hb hb2 k0 k1))
  refine bodyPost_ret (v:=.tuple #[.slice none 0 0,.bool false]) (by simp [results,Tryz.results102,go_sem,z0,z1]) rfl ?_
  exact LR.none_of HE.out rfl HN.out
 have HE:bfF x a=(allO x.wins.length).find? fun o=>wnrF x.wins 3 o==a:=by
  unfold bfF
  rw [h1.1,h1.2,←hsz,h2];rfl
 rw [HE]
 rw [hsz] at hs0 ⊢
 exact bracketFor_go x _ c0 A0 a w rfl hs0 h1.1 h1.2 (by rw [←hsz];exact h2)
end Go.Proofs.YtkapoldjcpfdgaaGreatDoor
