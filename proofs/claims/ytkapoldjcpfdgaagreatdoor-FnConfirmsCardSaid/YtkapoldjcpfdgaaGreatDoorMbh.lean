/- The pairings' iterator: its start, the next pairing. -/
import Derived.Test.YtkapoldjcpfdgaaGreatDoorMbg
set_option maxHeartbeats 8000000
set_option maxRecDepth 100000
namespace Go.Proofs.YtkapoldjcpfdgaaGreatDoor
open Go.ChangeShapes Go.WideShapes Go.ChangeAt Go.RowKit
attribute [local go_sem] Oper.semAt_some
structure PaB (W:World) (l rv rb ob mb go co gm om cm n:Nat) (order met:List Int):Prop where
 l1:l<W.heap.size
 rv1:rv<W.heap.size
 rb1:rb<W.heap.size
 ob1:ob<W.heap.size
 mb1:mb<W.heap.size
 go1:go<W.heap.size
 gm1:gm<W.heap.size
 cob:W.cell? ⟨ob,0,none⟩=some (.slice (some ⟨go,0,none⟩) n co)
 cmb:W.cell? ⟨mb,0,none⟩=some (.slice (some ⟨gm,om,none⟩) n cm)
 nco:n≤co∧co≤maxLen
 ol:order.length=n
 ml:met.length=n
 orr:∀y∈order,0≤y∧y<n
 ond:order.Nodup
 mr:∀y∈met,0≤y∧y≤255
 cgo:∀k y,order[k]? = some y→W.cell? ⟨go,k,none⟩=some (.int .i64 y)
 cgm:∀k y,met[k]? = some y→W.cell? ⟨gm,om+k,none⟩=some (.int .i64 y)
def pagW (w3:World) (g n yb ob mb:Nat):World:=
 (w3.alloc (.cells #[.slice (some ⟨g,0,none⟩) n n] 25)).alloc (.cells #[.func (.func 376) #[] #[.pointer (some ⟨ob,0,none⟩),.pointer (some ⟨w3.heap.size,0,none⟩),.pointer (some ⟨yb,0,none⟩),.pointer (some ⟨mb,0,none⟩),.pointer (some ⟨w3.heap.size+1,0,none⟩)]] 177)
theorem pagW_facts {W w3:World}{l rv rb ob mb go co gm om cm n g:Nat}{order met:List Int} (B:PaB W l rv rb ob mb go co gm om cm n order met) (hb:Below W.heap.size W w3) (hg:W.heap.size+2≤g) (hrow:w3.heap[g]? = some (.cells (ints (List.replicate n (-1))).toArray 3 (0,0)))
  (cy:w3.cell? ⟨W.heap.size,0,none⟩=some (.func (.yield l) #[] #[])):
  PaC (pagW w3 g n W.heap.size ob mb) (w3.heap.size+2) g l rv rb ob mb w3.heap.size W.heap.size (w3.heap.size+1) go co gm om cm n order met∧PaS (pagW w3 g n W.heap.size ob mb) (pagW w3 g n W.heap.size ob mb) (w3.heap.size+2) g (List.replicate n (-1))∧Below W.heap.size W (pagW w3 g n W.heap.size ob mb):=by
 unfold pagW
 have hg3:=(Array.getElem?_eq_some_iff.1 hrow).1
 have hz:=hb.size
 obtain ⟨W1,e1⟩:∃W1,W1=w3.alloc (.cells #[.slice (some ⟨g,0,none⟩) n n] 25):=⟨_,rfl⟩
 have z1:W1.heap.size=w3.heap.size+1:=by rw [e1];simp
 have h1:W1.heap[w3.heap.size]? = some (.cells #[.slice (some ⟨g,0,none⟩) n n] 25 (0,0)):=by rw [e1];exact World.alloc_heap_new w3 _
 have b1:Below w3.heap.size w3 W1:=by rw [e1];exact (Below.refl _ w3).alloc (Nat.le_refl _) _
 rw [←e1]
 obtain ⟨W2,e2⟩:∃W2,W2=W1.alloc (.cells #[.func (.func 376) #[] #[.pointer (some ⟨ob,0,none⟩),.pointer (some ⟨w3.heap.size,0,none⟩),.pointer (some ⟨W.heap.size,0,none⟩),.pointer (some ⟨mb,0,none⟩),.pointer (some ⟨w3.heap.size+1,0,none⟩)]] 177):=⟨_,rfl⟩
 have z2:W2.heap.size=w3.heap.size+2:=by rw [e2,World.size_alloc,z1]
 have h2:W2.heap[w3.heap.size+1]? = some (.cells #[.func (.func 376) #[] #[.pointer (some ⟨ob,0,none⟩),.pointer (some ⟨w3.heap.size,0,none⟩),.pointer (some ⟨W.heap.size,0,none⟩),.pointer (some ⟨mb,0,none⟩),.pointer (some ⟨w3.heap.size+1,0,none⟩)]] 177 (0,0)):=by rw [e2,←z1];exact World.alloc_heap_new W1 _
 have b2:Below W1.heap.size W1 W2:=by rw [e2];exact (Below.refl _ W1).alloc (Nat.le_refl _) _
 rw [←e2]
 have b3:Below w3.heap.size w3 W2:=b1.trans (b2.mono (by omega))
 have bW:Below W.heap.size W W2:=hb.trans (b3.mono hz)
 have L:=B.l1
 have R:=B.rv1
 have R2:=B.rb1
 have O:=B.ob1
 have M:=B.mb1
 have G1:=B.go1
 have G2:=B.gm1
 refine ⟨⟨by omega,by omega,by omega,by omega,⟨by omega,by omega,by omega⟩,⟨by omega,by omega⟩,⟨by omega,by omega⟩,⟨by omega,by omega⟩,⟨by omega,by omega,by omega⟩,⟨by omega,by omega⟩,⟨by omega,by omega⟩,⟨by omega,by omega⟩,⟨by omega,by omega⟩,
  (bW.cell (p:=⟨ob,0,none⟩) O).trans B.cob,(bW.cell (p:=⟨mb,0,none⟩) M).trans B.cmb,(box_cell ((b2.block _ (by omega)).trans h1)).1,(b3.cell (p:=⟨W.heap.size,0,none⟩) (by show W.heap.size<_;omega)).trans cy,(box_cell h2).1,B.nco,B.ol,B.ml,B.orr,B.ond,B.mr,fun k y h=>(bW.cell (p:=⟨go,k,none⟩) G1).trans (B.cgo k y h),fun k y h=>(bW.cell (p:=⟨gm,om+k,none⟩) G2).trans (B.cgm k y h)⟩,
  ⟨fun _ _ _=>rfl,⟨rfl,rfl,rfl⟩,by omega,(b3.block _ hg3).trans hrow⟩,bW⟩
theorem pairings1T {W:World}{l rv rb ob mb go co gm om cm n m:Nat}{order met:List Int}{rc:Loop} (hn1:1≤n) (hn:n≤8) (B:PaB W l rv rb ob mb go co gm om cm n order met)
  (hY:∀W0 lo gp pb fb,PaC W0 lo gp l rv rb ob mb pb W.heap.size fb go co gm om cm n order met→Below W.heap.size W W0→W.heap.size≤gp→W.heap.size≤lo→RoundsP W0 lo gp l rv rb rc n):
  CallsIn Fence.wide m Tryz.prog 374 #[.func (.yield l) #[] #[],.pointer (some ⟨ob,0,none⟩),.pointer (some ⟨mb,0,none⟩)] W
   (fun e W'=>(∃v,e=.returned v)∧∃W0 lo gp e',Below W.heap.size W W0∧W.heap.size≤gp∧W.heap.size≤lo∧PaRes W0 lo gp l rv rb rc (List.replicate n (-1)) e' W' (pairF met n order (List.replicate n (-1)))):=by
 have HB:=Lib.hid B
 have HN:=Lib.hid hn1
 have HZ:Hid (W.heap.size+1+1=W.heap.size+2):=rfl
 have HFR:Hid (freeL order (List.replicate n (-1))=order):=by
  show _=_
  unfold freeL
  rw [List.filter_eq_self]
  intro y hy
  have:=B.orr y hy
  rw [List.getD_eq_getElem?_getD,List.getElem?_replicate,if_pos (by omega)]
  rfl
 have bA:∀o1 o2,Below W.heap.size W ((W.alloc o1).alloc o2):=fun o1 o2=>((Below.refl _ W).alloc (Nat.le_refl _) o1).alloc (by simp) o2
 have cO:∀o1 o2,((W.alloc o1).alloc o2).cell? ⟨ob,0,none⟩=some (.slice (some ⟨go,0,none⟩) n co):=fun o1 o2=>((bA o1 o2).cell (p:=⟨ob,0,none⟩) B.ob1).trans B.cob
 have HA:Hid (∀a b,Below W.heap.size W ((W.alloc (.cells #[a] b)).alloc (.cells #[.int .i64 (-1)] 3))∧((W.alloc (.cells #[a] b)).alloc (.cells #[.int .i64 (-1)] 3)).cell? ⟨W.heap.size+1,0,none⟩=some (.int .i64 (-1))∧((W.alloc (.cells #[a] b)).alloc (.cells #[.int .i64 (-1)] 3)).cell? ⟨W.heap.size,0,none⟩=some a∧((W.alloc (.cells #[a] b)).alloc (.cells #[.int .i64 (-1)] 3)).heap.size=W.heap.size+2):=fun a b=>by
  have hs:(W.alloc (.cells #[a] b)).heap.size=W.heap.size+1:=by simp
  refine ⟨bA _ _,(box_cell (by rw [←hs];exact World.alloc_heap_new _ _)).1,(box_cell (b:=W.heap.size) ((Below.heap_alloc (W.alloc (.cells #[a] b)) _ W.heap.size (by omega)).trans (World.alloc_heap_new W _))).1,by rw [World.size_alloc,hs]⟩
 refine callsIn_of_wp Tryz.func374 rfl trivial ?_ rfl
 simp only [Tryz.ntmps374,List.size_toArray,List.length_cons,List.length_nil,Nat.reduceAdd,Nat.reduceSub,Array.replicate_succ,Array.replicate_zero,List.push_toArray,List.append_toArray,List.nil_append,List.cons_append]
 clear B bA
 gi_wp2_with (first
  | (refine ⟨trivial,fun h=>(by cases h),?_⟩;gi_at_call 375;refine (callsIn_wide.2 (repeat_any (W.heap.size+1) n (-1) _ HN.out (by omega) (HA.out _ _).2.1)).mono ?_;rintro e w2 ⟨g,rfl,hrow,hg,hb⟩;have H2:=Lib.hid (pagW_facts HB.out ((HA.out _ _).1.trans (hb.mono (HA.out _ _).1.size)) (by rw [(HA.out _ _).2.2.2] at hg;exact hg) hrow ((hb.cell (p:=⟨W.heap.size,0,none⟩) (by rw [(HA.out _ _).2.2.2];show W.heap.size<_;omega)).trans (HA.out _ _).2.2.1));have HGE:Hid (W.heap.size≤g):=(by show _≤_;rw [(HA.out _ _).2.2.2] at hg;omega);have HSZ:Hid (W.heap.size≤w2.heap.size+2):=(by show _≤_;have:=hb.size;rw [(HA.out _ _).2.2.2] at this;omega);clear hrow hg hb cO)
  )
 refine ⟨trivial,fun h=>(by cases h),?_⟩
 change CallsIn _ _ _ _ _ (pagW w2 g n W.heap.size ob mb) _
 obtain ⟨C,S,bl⟩:=H2.out
 have HF:=fillT C hn (hY _ _ _ _ _ C bl HGE.out HSZ.out) n (m-1) _ (List.replicate n (-1)) (by simp) (fun y hy=>.inl (List.eq_of_mem_replicate hy)) (by rw [HFR.out,C.ol];exact Nat.le_refl _) S
 rw [HFR.out] at HF
 clear C S
 cases hx:pairF met n order (List.replicate n (-1)) with
 | none=>
  rw [hx] at HF
  refine HF.mono ?_
  rintro e w6 ⟨rfl,h6⟩
  have H6:=Lib.hid h6
  have HX:=Lib.hid hx
  clear hx HF h6
  gi_wp2
  go_end0
  exact ⟨⟨_,rfl⟩,_,_,_,.returned (.bool true),bl,HGE.out,HSZ.out,by rw [HX.out];exact ⟨rfl,H6.out⟩⟩
 | some best=>
  rw [hx] at HF
  refine HF.mono ?_
  rintro e w6 ⟨rfl,h6⟩
  have H6:=Lib.hid h6
  have HX:=Lib.hid hx
  clear hx HF h6
  gi_wp2
  go_end0
  exact ⟨⟨_,rfl⟩,_,_,_,.returned (.bool false),bl,HGE.out,HSZ.out,by rw [HX.out];exact ⟨rfl,H6.out⟩⟩
theorem PaS.fits {W0 W W2:World}{lo gp l rv rb:Nat}{r' rc:Loop}{vb v0 v1:Value}{p:List Int} (h:PaS W0 W lo gp p) (hl:l<lo) (ho:gp<lo) (hrv:rv<lo) (hrb:rb<lo) (hne:gp≠l∧gp≠rv∧gp≠rb) (hne2:l≠rv∧l≠rb∧rv≠rb)
  (h0:W0.heap[rv]? = some (.cells #[v0] 25 (0,0))) (h1:W0.heap[rb]? = some (.cells #[v1] 4 (0,0))) (hb:Below (W.putObj l (.loop r')).heap.size (W.putObj l (.loop r')) W2) (hf:Fr W2 (W.putObj l (.loop r')).heap.size W2.heap.size vb p):
  ((W2.setCell ⟨rv,0,none⟩ vb).setCell ⟨rb,0,none⟩ (.bool true)).heap[l]? = some (.loop r')∧PaT W0 (((W2.setCell ⟨rv,0,none⟩ vb).setCell ⟨rb,0,none⟩ (.bool true)).putObj l (.loop rc)) lo gp l rv rb rc p p vb:=by
 have hz:=h.sz
 have hz1:(W.putObj l (.loop r')).heap.size=W.heap.size:=World.putObj_size ..
 have b1:(W.putObj l (.loop r')).heap[l]? = some (.loop r'):=World.putObj_heap_same (by omega)
 have g1:∀k,k≠l→(W.putObj l (.loop r')).heap[k]? = W.heap[k]?:=fun k hk=>World.putObj_heap_other hk
 have en1:(W.putObj l (.loop r')).os=W0.os∧(W.putObj l (.loop r')).tape=W0.tape∧(W.putObj l (.loop r')).output=W0.output:=h.env
 generalize W.putObj l (.loop r')=Wb at *
 have t2:Fr W2 lo W2.heap.size vb p:=hf.wide (by omega) (Nat.le_refl _) (Nat.le_refl _)
 have blk2:∀k,k<lo→k≠l→W2.heap[k]? = W.heap[k]?:=fun k hk hkl=>(hb.block k (by omega)).trans (g1 k hkl)
 have l2:W2.heap[l]? = some (.loop r'):=(hb.block l (by omega)).trans b1
 have a0:=((blk2 rv hrv (fun e=>hne2.1 e.symm)).trans (h.fix rv hrv (fun e=>hne.2.1 e.symm))).trans h0
 have a1:=((blk2 rb hrb (fun e=>hne2.2.1 e.symm)).trans (h.fix rb hrb (fun e=>hne.2.2 e.symm))).trans h1
 have ao:=(blk2 gp ho hne.1).trans h.row
 have fx:∀k,k<lo→k≠gp→k≠l→W2.heap[k]? = W0.heap[k]?:=fun k hk h4 h5=>(blk2 k hk h5).trans (h.fix k hk h4)
 have en2:W2.os=W0.os∧W2.tape=W0.tape∧W2.output=W0.output:=⟨hb.os.trans en1.1,hb.tape.trans en1.2.1,hb.output.trans en1.2.2⟩
 have hz2:=hb.size
 have KA:=keep_set W2 rv vb
 have t3:=(t2.keep KA (.inr hrv)).wide (Nat.le_refl _) KA.size (Nat.le_refl _)
 have c0:=box_set (u:=vb) a0
 have blkA:∀k,k<lo→k≠rv→(W2.setCell ⟨rv,0,none⟩ vb).heap[k]? = W2.heap[k]?:=fun k hk hkv=>KA.block k (by omega) (by omega)
 have hzA:=KA.size
 have enA:(W2.setCell ⟨rv,0,none⟩ vb).os=W0.os∧(W2.setCell ⟨rv,0,none⟩ vb).tape=W0.tape∧(W2.setCell ⟨rv,0,none⟩ vb).output=W0.output:=en2
 generalize W2.setCell ⟨rv,0,none⟩ vb=WA at *
 have KB:=keep_set WA rb (.bool true)
 have t4:=(t3.keep KB (.inr hrb)).wide (Nat.le_refl _) KB.size (Nat.le_refl _)
 have blkB:∀k,k<lo→k≠rb→(WA.setCell ⟨rb,0,none⟩ (.bool true)).heap[k]? = WA.heap[k]?:=fun k hk hkv=>KB.block k (by omega) (by omega)
 have d1:=box_set (u:=.bool true) ((blkA rb hrb (fun e=>hne2.2.2 e.symm)).trans a1)
 have d0:=(blkB rv hrv hne2.2.2).trans c0
 have dl:=(blkB l hl hne2.2.1).trans ((blkA l hl hne2.1).trans l2)
 have dO:=(blkB gp ho hne.2.2).trans ((blkA gp ho hne.2.1).trans ao)
 have hzB:=KB.size
 have fB:∀k,k<lo→k≠gp→k≠l→k≠rv→k≠rb→(WA.setCell ⟨rb,0,none⟩ (.bool true)).heap[k]? = W0.heap[k]?:=fun k hk q1 q2 q3 q4=>(blkB k hk q4).trans ((blkA k hk q3).trans (fx k hk q1 q2))
 have enB:(WA.setCell ⟨rb,0,none⟩ (.bool true)).os=W0.os∧(WA.setCell ⟨rb,0,none⟩ (.bool true)).tape=W0.tape∧(WA.setCell ⟨rb,0,none⟩ (.bool true)).output=W0.output:=enA
 generalize WA.setCell ⟨rb,0,none⟩ (.bool true)=WB at *
 have KP:=keep_put WB l (.loop rc)
 exact ⟨dl,fun k hk q1 q2 q3 q4=>(World.putObj_heap_other q2).trans (fB k hk q1 q2 q3 q4),enB,by rw [World.putObj_size];omega,(World.putObj_heap_other hne.1).trans dO,World.putObj_heap_same (by omega),(World.putObj_heap_other (fun e=>hne2.1 e.symm)).trans d0,(World.putObj_heap_other (fun e=>hne2.2.1 e.symm)).trans d1,(t4.keep KP (.inr hl)).wide (Nat.le_refl _) KP.size (Nat.le_refl _)⟩
theorem PaS.be {W0 W w:World}{lo gp B:Nat}{p:List Int} (h:PaS W0 W lo gp p) (hb:Below B w W0) (hlo:B≤lo) (ho:B≤gp) (hw:w.heap.size≤W.heap.size):Below B w W:=
 ⟨h.env.1.trans hb.os,h.env.2.1.trans hb.tape,h.env.2.2.trans hb.output,hw,fun k hk=>(h.fix k (by omega) (by omega)).trans (hb.block k hk)⟩
theorem PaT.be {W0 W w:World}{lo gp l rv rb B:Nat}{rc:Loop}{p best:List Int}{vb:Value} (h:PaT W0 W lo gp l rv rb rc p best vb) (hb:Below B w W0) (hlo:B≤lo) (ho:B≤gp) (hl:B≤l) (hrv:B≤rv) (hrb:B≤rb) (hw:w.heap.size≤W.heap.size):Below B w W:=
 ⟨h.env.1.trans hb.os,h.env.2.1.trans hb.tape,h.env.2.2.trans hb.output,hw,fun k hk=>(h.fix k (by omega) (by omega) (by omega) (by omega) (by omega)).trans (hb.block k hk)⟩
theorem pairings_any (A C:Option Addr) (n c m d:Nat) (w:World):
  Calls Tryz.prog 341 #[.slice A n c,.slice C m d] w fun e w'=>e=.returned (.func (.func 374) #[] #[.pointer (some ⟨w.heap.size,0,none⟩),.pointer (some ⟨w.heap.size+1,0,none⟩)])∧w'=(w.alloc (.cells #[.slice A n c] 25)).alloc (.cells #[.slice C m d] 25):=by
 go_enter Tryz.func341,Tryz.ntmps341
 go_wp2
 go_ret
 exact ⟨rfl,rfl⟩
theorem PaB.grow {W W':World}{l l' rv rb ob mb go co gm om cm n:Nat}{order met:List Int} (h:PaB W l rv rb ob mb go co gm om cm n order met) (hb:Below W.heap.size W W') (hl:l'<W'.heap.size):PaB W' l' rv rb ob mb go co gm om cm n order met:=by
 have hz:=hb.size
 exact ⟨hl,by have:=h.rv1;omega,by have:=h.rb1;omega,by have:=h.ob1;omega,by have:=h.mb1;omega,by have:=h.go1;omega,by have:=h.gm1;omega,(hb.cell (p:=⟨ob,0,none⟩) h.ob1).trans h.cob,(hb.cell (p:=⟨mb,0,none⟩) h.mb1).trans h.cmb,h.nco,h.ol,h.ml,h.orr,h.ond,h.mr,fun k y hk=>(hb.cell (p:=⟨go,k,none⟩) h.go1).trans (h.cgo k y hk),fun k y hk=>(hb.cell (p:=⟨gm,om+k,none⟩) h.gm1).trans (h.cgm k y hk)⟩
structure PsQ (w W:World) (ob mb go co gm om cm n:Nat) (order met:List Int):Prop where
 pb:PaB W 0 w.heap.size (w.heap.size+1) ob mb go co gm om cm n order met
 hrv:W.heap[w.heap.size]? = some (.cells #[.slice none 0 0] 25 (0,0))
 hrb:W.heap[w.heap.size+1]? = some (.cells #[.bool false] 4 (0,0))
 be:Below w.heap.size w W
def psStartG (w:World):World:=(w.alloc (.cells #[.slice none 0 0] 25)).alloc (.cells #[.bool false] 4)
theorem psStart_facts (w:World):Below w.heap.size w (psStartG w)∧(psStartG w).heap.size=w.heap.size+2∧(psStartG w).heap[w.heap.size]? = some (.cells #[.slice none 0 0] 25 (0,0))∧(psStartG w).heap[w.heap.size+1]? = some (.cells #[.bool false] 4 (0,0)):=by
 have hs:(w.alloc (.cells #[.slice none 0 0] 25)).heap.size=w.heap.size+1:=by simp
 refine ⟨((Below.refl _ w).alloc (Nat.le_refl _) _).alloc (by simp) _,by simp [psStartG],?_,?_⟩
 ·exact (Below.heap_alloc (w.alloc (.cells #[.slice none 0 0] 25)) _ w.heap.size (by omega)).trans (World.alloc_heap_new w _)
 ·rw [←hs];exact World.alloc_heap_new _ _
theorem psQ_of {w w2:World}{g co gm om cm n:Nat}{order met:List Int} (hn:1≤n) (hrv:w2.heap[w.heap.size]? = some (.cells #[.slice none 0 0] 25 (0,0))) (hrb:w2.heap[w.heap.size+1]? = some (.cells #[.bool false] 4 (0,0))) (hbe:Below w.heap.size w w2)
  (hf:Fr w2 w.heap.size w2.heap.size (.slice (some ⟨g,0,none⟩) n co) order) (ol:order.length=n) (ml:met.length=n) (orr:∀y∈order,0≤y∧y<n) (ond:order.Nodup) (mr:∀y∈met,0≤y∧y≤255) (cgm:∀k y,met[k]? = some y→w2.cell? ⟨gm,om+k,none⟩=some (.int .i64 y)):
  PsQ w ((w2.alloc (.cells #[.slice (some ⟨g,0,none⟩) n co] 25)).alloc (.cells #[.slice (some ⟨gm,om,none⟩) n cm] 25)) w2.heap.size (w2.heap.size+1) g co gm om cm n order met:=by
 have z2:=(Array.getElem?_eq_some_iff.1 hrb).1
 have hg2:=hf.2.1 g rfl
 obtain ⟨A',c',e,hc1,hc2⟩:=hf.form
 injection e with e1 e2 e3
 subst e3
 rw [ol] at hc1
 have hm0:gm<w2.heap.size:=by
  obtain ⟨y,hy⟩:∃y,met[0]? = some y:=⟨_,List.getElem?_eq_getElem (by omega)⟩
  exact block_lt_of_cell (a:=⟨gm,om+0,none⟩) (cgm 0 y hy)
 obtain ⟨W1,e1⟩:∃W1,W1=w2.alloc (.cells #[.slice (some ⟨g,0,none⟩) n co] 25):=⟨_,rfl⟩
 have z1:W1.heap.size=w2.heap.size+1:=by rw [e1];simp
 have h1:W1.heap[w2.heap.size]? = some (.cells #[.slice (some ⟨g,0,none⟩) n co] 25 (0,0)):=by rw [e1];exact World.alloc_heap_new w2 _
 have b1:Below w2.heap.size w2 W1:=by rw [e1];exact (Below.refl _ w2).alloc (Nat.le_refl _) _
 rw [←e1]
 obtain ⟨W2,e2⟩:∃W2,W2=W1.alloc (.cells #[.slice (some ⟨gm,om,none⟩) n cm] 25):=⟨_,rfl⟩
 have z3:W2.heap.size=w2.heap.size+2:=by rw [e2,World.size_alloc,z1]
 have h2:W2.heap[w2.heap.size+1]? = some (.cells #[.slice (some ⟨gm,om,none⟩) n cm] 25 (0,0)):=by rw [e2,←z1];exact World.alloc_heap_new W1 _
 have b2:Below W1.heap.size W1 W2:=by rw [e2];exact (Below.refl _ W1).alloc (Nat.le_refl _) _
 rw [←e2]
 have b3:Below w2.heap.size w2 W2:=b1.trans (b2.mono (by omega))
 have hz:=hbe.size
 refine ⟨⟨by omega,by omega,by omega,by omega,by omega,by omega,by omega,(box_cell ((b2.block _ (by omega)).trans h1)).1,(box_cell h2).1,⟨hc1,hc2⟩,ol,ml,orr,ond,mr,fun k y hk=>?_,fun k y hk=>(b3.cell (p:=⟨gm,om+k,none⟩) hm0).trans (cgm k y hk)⟩,(b3.block _ (by omega)).trans hrv,(b3.block _ (by omega)).trans hrb,hbe.trans (b3.mono hz)⟩
 have hk2:=(List.getElem?_eq_some_iff.1 hk).1
 obtain ⟨g',y',e,_,_,hy,cy,_⟩:=hf.at_ (k:=k) hk2
 injection e with e;injection e with e;subst e
 rw [hk] at hy
 injection hy with hy;subst hy
 exact (b3.cell (p:=⟨g,k,none⟩) hg2).trans cy
theorem swB_t {points met:List Int} (h:swB points met=true):2≤points.length∧points.length≤8∧met.length=points.length∧(∀y∈met,0≤y∧y≤255)∧isSwB points=true:=by
 unfold swB at h
 simp only [Bool.and_eq_true,decide_eq_true_eq] at h
 obtain ⟨h0,h1,h2,_⟩:=h
 have h3:=h0
 unfold isSwB at h3
 simp only [Bool.and_eq_true,decide_eq_true_eq] at h3
 refine ⟨h3.1,h3.2.1,h1,fun y hy=>?_,h0⟩
 obtain ⟨k,hk⟩:=List.getElem?_of_mem hy
 exact winsB_at h3.2.1 h2 hk
theorem implPairSwiss_any (A:Option Addr) (c gm om d n:Nat) (points met:List Int) (w:World) (hs:SlI w A points) (cgm:∀k y,met[k]? = some y→w.cell? ⟨gm,om+k,none⟩=some (.int .i64 y)) (hsw:swB points met=true) (hn:points.length=n):
  Calls Tryz.prog 270 #[.slice A n c,.slice (some ⟨gm,om,none⟩) n d] w fun e w'=>LR w e w' (pairF met n (ordBy points) (List.replicate n (-1))):=by
 obtain ⟨n2,n8,mn,mr,isw⟩:=swB_t hsw
 rw [hn] at n2 n8 mn
 have hgm:gm<w.heap.size:=by
  obtain ⟨y,hy⟩:∃y,met[0]? = some y:=⟨_,List.getElem?_eq_getElem (by omega)⟩
  exact block_lt_of_cell (a:=⟨gm,om+0,none⟩) (cgm 0 y hy)
 have HOK:Hid (∀W,Below w.heap.size w W→Calls Tryz.prog 340 #[.slice A n c,.slice (some ⟨gm,om,none⟩) n d] W fun e w'=>e=.returned (.bool true)∧Below W.heap.size W w'):=fun W hW=>by
  have h:=implSwissOk_any A (some ⟨gm,om,none⟩) c d points met W (hs.below hW) (.inr ⟨gm,om,rfl,fun k y hk=>(hW.cell (p:=⟨gm,om+k,none⟩) hgm).trans (cgm k y hk)⟩) (by omega) (by omega)
  rw [hsw,hn,mn] at h;exact h
 have HOD:Hid (∀W,Below w.heap.size w W→Calls Tryz.prog 342 #[.slice A n c] W fun e w'=>∃g co,e=.returned (.slice (some ⟨g,0,none⟩) n co)∧Fr w' W.heap.size w'.heap.size (.slice (some ⟨g,0,none⟩) n co) (ordBy points)∧Below W.heap.size W w'):=fun W hW=>by
  have h:=implSwissOrder_any A c points W (hs.below hW) isw
  rw [hn] at h
  refine h.mono fun e w' ⟨v',he,hf,hb⟩=>?_
  have hl:(ordBy points).length=n:=by rw [ordBy_len,hn]
  obtain ⟨A',c',rfl,hc1,hc2⟩:=hf.form
  obtain ⟨g,y,rfl,_⟩:=hf.at_ (k:=0) (by rw [hl];omega)
  rw [hl] at he hf
  exact ⟨g,c',he,hf,hb⟩
 have HPS:Hid ((ordBy points).length=n∧met.length=n∧(∀y∈ordBy points,0≤y∧y<n)∧(ordBy points).Nodup∧(∀y∈met,0≤y∧y≤255)):=⟨by rw [ordBy_len,hn],mn,fun y hy=>by have:=ordBy_mem.1 hy;omega,ordBy_nodup points,mr⟩
 have HGM:Hid (∀W,Below w.heap.size w W→∀k y,met[k]? = some y→W.cell? ⟨gm,om+k,none⟩=some (.int .i64 y)):=fun W hW k y hk=>(hW.cell (p:=⟨gm,om+k,none⟩) hgm).trans (cgm k y hk)
 have HST:=Lib.hid (psStart_facts w)
 have hn1:1≤n:=by omega
 have HN:=Lib.hid (And.intro hn1 n8)
 obtain ⟨order,hord⟩:∃o,ordBy points=o:=⟨_,rfl⟩
 rw [hord] at HOD HPS ⊢
 clear hs cgm hsw hn mn mr isw n2 hgm hord
 refine (callsIn_wide (n:=8)).1 ?_
 refine callsIn_of_wp_marks Tryz.func270 rfl trivial ?_ rfl
 simp only [Tryz.ntmps270,List.size_toArray,List.length_cons,List.length_nil,Nat.reduceAdd,Nat.reduceSub,Array.replicate_succ,Array.replicate_zero,List.push_toArray,List.append_toArray,List.nil_append,List.cons_append]
 gi_upto_region 1 with fail
 change Code.wpIn _ _ _ _ _ _ (psStartG w)
 generalize psStartG w=w0 at *
 gi_wp2_with (first
  | (refine ⟨trivial,?_⟩;gi_at_call 340;refine (callsIn_wide.2 (HOK.out _ HST.out.1)).mono ?_;rintro e w1 ⟨rfl,hb⟩;have B1:=Lib.hid hb;have BW1:Hid (Below w.heap.size w w1):=HST.out.1.trans (hb.mono HST.out.1.size);clear hb)
  | (refine ⟨trivial,?_⟩;gi_at_call 342;refine (callsIn_wide.2 (HOD.out _ BW1.out)).mono ?_;rintro e w2 ⟨g,co,rfl,hfr,hb⟩;have B2:Hid (Below w0.heap.size w0 w2):=B1.out.trans (hb.mono B1.out.size);have HQ:=Lib.hid (psQ_of (gm:=gm) (om:=om) (cm:=d) (met:=met) HN.out.1 ((B2.out.block _ (by rw [HST.out.2.1];omega)).trans HST.out.2.2.1) ((B2.out.block _ (by rw [HST.out.2.1];omega)).trans HST.out.2.2.2) (HST.out.1.trans (B2.out.mono HST.out.1.size)) (hfr.wide BW1.out.size (Nat.le_refl _) (Nat.le_refl _)) HPS.out.1 HPS.out.2.1 HPS.out.2.2.1 HPS.out.2.2.2.1 HPS.out.2.2.2.2 (HGM.out _ (HST.out.1.trans (B2.out.mono HST.out.1.size))));clear hfr hb)
  | (refine ⟨trivial,?_⟩;gi_at_call 341;refine (callsIn_wide.2 (pairings_any _ _ _ _ _ _ _)).mono ?_;rintro e w4 ⟨rfl,rfl⟩))
 obtain ⟨ob,hob⟩:∃ob,w2.heap.size=ob:=⟨_,rfl⟩
 rw [hob] at HQ ⊢
 clear hob
 generalize ((w2.alloc (.cells #[.slice (some ⟨g,0,none⟩) n co] 25)).alloc (.cells #[.slice (some ⟨gm,om,none⟩) n d] 25))=wq at *
 clear B1 B2 BW1 HST HOK HOD HGM
 refine range_of (gf:=374) (lb:=#[.pointer (some ⟨ob,0,none⟩),.pointer (some ⟨ob+1,0,none⟩)]) rfl (enters_of Tryz.func374 (by kernel_rfl) rfl)
  (fun W'=>pairF met n order (List.replicate n (-1))=none∧W'.heap[w.heap.size]? = some (.cells #[.slice none 0 0] 25 (0,0))∧W'.heap[w.heap.size+1]? = some (.cells #[.bool false] 4 (0,0))∧Below w.heap.size w W')
  (fun c W'=>c=.ret∧∃best vb,pairF met n order (List.replicate n (-1))=some best∧W'.heap[w.heap.size]? = some (.cells #[vb] 25 (0,0))∧W'.heap[w.heap.size+1]? = some (.cells #[.bool true] 4 (0,0))∧Fr W' (wq.heap.size+2) W'.heap.size vb best∧Below w.heap.size w W') ?call ?done ?stop
 case stop=>
  rintro c W o ⟨rfl,best,vb,hu,k0,k1,hfr,hbe⟩ hD
  have hq:=(Array.getElem?_eq_some_iff.1 HQ.out.hrb).1
  have KP:=keep_put W (wq.heap.size+1) o
  have hD2:(W.putObj (wq.heap.size+1) o).heap[wq.heap.size]? = some (.deferred (some [])):=(World.putObj_heap_other (by omega)).trans hD
  have k0':=(KP.block w.heap.size (Array.getElem?_eq_some_iff.1 k0).1 (by omega)).trans k0
  have k1':=(KP.block (w.heap.size+1) (Array.getElem?_eq_some_iff.1 k1).1 (by omega)).trans k1
  have HF2:=(hfr.keep KP (.inr (by omega))).wide (Nat.le_refl _) KP.size (Nat.le_refl _)
  have HB:Hid (Below w.heap.size w (W.putObj (wq.heap.size+1) o)):=hbe.trans (KP.below (by omega) hbe.size)
  have HU:=Lib.hid hu
  clear hu k0 k1 hbe hD KP hfr
  generalize W.putObj (wq.heap.size+1) o=W2 at *
  have K6:=keep_put W2 wq.heap.size (.deferred none)
  have z0:=(box_cell ((K6.block w.heap.size (Array.getElem?_eq_some_iff.1 k0').1 (by omega)).trans k0')).1
  have z1:=(box_cell ((K6.block (w.heap.size+1) (Array.getElem?_eq_some_iff.1 k1').1 (by omega)).trans k1')).1
  have HF3:=Lib.hid ((HF2.keep K6 (.inr (by omega))).wide (lo':=w.heap.size) (by omega) K6.size (Nat.le_refl _))
  have HB3:Hid (Below w.heap.size w (W2.putObj wq.heap.size (.deferred none))):=HB.out.trans (K6.below (by omega) HB.out.size)
  have HD:=Lib.hid hD2
  clear k0' k1' hD2 HF2 K6
  dsimp only
  gi_wp2
  refine ⟨by simp,.inl ⟨_,_,rfl,run_takeDeferred HD.out,?_⟩⟩
  refine ⟨.tuple #[vb,.bool true],by simp [results,Tryz.results270,go_sem,z0,z1],HB3.out,?_⟩
  rw [HU.out]
  exact ⟨vb,rfl,HF3.out⟩
 case done=>
  rintro W o ⟨hu,k0,k1,hbe⟩ hD
  have hq:=(Array.getElem?_eq_some_iff.1 HQ.out.hrb).1
  have KP:=keep_put W (wq.heap.size+1) o
  have hD2:(W.putObj (wq.heap.size+1) o).heap[wq.heap.size]? = some (.deferred (some [])):=(World.putObj_heap_other (by omega)).trans hD
  have k0':=(KP.block w.heap.size (Array.getElem?_eq_some_iff.1 k0).1 (by omega)).trans k0
  have k1':=(KP.block (w.heap.size+1) (Array.getElem?_eq_some_iff.1 k1).1 (by omega)).trans k1
  have HB:Hid (Below w.heap.size w (W.putObj (wq.heap.size+1) o)):=hbe.trans (KP.below (by omega) hbe.size)
  have HU:=Lib.hid hu
  clear hu k0 k1 hbe hD KP
  generalize W.putObj (wq.heap.size+1) o=W2 at *
  obtain ⟨c0',f0'⟩:=box_cell k0'
  obtain ⟨c1',f1'⟩:=box_cell k1'
  have HFN:=Lib.hid (bf_final (b:=w.heap.size) k0' k1' HB.out (by omega) (by omega) hD2 (.slice none 0 0) (.bool false))
  clear k0' k1' hD2
  dsimp only
  gi_wp2
  refine ⟨by simp,.inl ⟨_,_,rfl,run_takeDeferred HFN.out.1,?_⟩⟩
  obtain ⟨-,z0,z1,z2⟩:=HFN.out
  refine ⟨.tuple #[.slice none 0 0,.bool false],by simp [results,Tryz.results270,go_sem,z0,z1],?_⟩
  exact LR.none_of HU.out rfl z2
 case call=>
  intro fn
  dsimp only
  generalize hr:recOf fn _ #[15] _ _ wq.heap.size=r
  have hst:r.state=.ready:=by rw [←hr];rfl
  have hpe:r.pending=none:=by rw [←hr];rfl
  have hpa:r.params.size=1:=by rw [←hr];rfl
  have bS:=rangeStart_below wq r
  have zS:=rangeStart_size wq r
  have recS:=rangeStart_rec wq r
  have defS:=rangeStart_def wq r
  generalize rangeStart wq r=W1 at *
  have hwb:=(Array.getElem?_eq_some_iff.1 HQ.out.hrb).1
  have B1:=HQ.out.pb.grow (l':=wq.heap.size+1) bS (by omega)
  have r1:W1.heap[w.heap.size]? = some (.cells #[.slice none 0 0] 25 (0,0)):=(bS.block _ (by omega)).trans HQ.out.hrv
  have r2:W1.heap[w.heap.size+1]? = some (.cells #[.bool false] 4 (0,0)):=(bS.block _ (by omega)).trans HQ.out.hrb
  have be1:Below w.heap.size w W1:=HQ.out.be.trans (bS.mono HQ.out.be.size)
  have HO:=pairings1T (m:=8-1) (rc:={ r with state:=.done,pending:=some .ret }) HN.out.1 n8 B1
  have hY:∀W0 lo gp pb fb,PaC W0 lo gp (wq.heap.size+1) w.heap.size (w.heap.size+1) ob (ob+1) pb W1.heap.size fb g co gm om d n order met→Below W1.heap.size W1 W0→W1.heap.size≤gp→W1.heap.size≤lo→RoundsP W0 lo gp (wq.heap.size+1) w.heap.size (w.heap.size+1) { r with state:=.done,pending:=some .ret } n:=by
   intro W0 lo gp pb fb C hb0 hgp hlo m W p hpl H
   have recW:W.heap[wq.heap.size+1]? = some (.loop r):=(H.fix _ (by omega) (by omega)).trans ((hb0.block _ (by omega)).trans recS)
   have q1:W0.heap[w.heap.size]? = some (.cells #[.slice none 0 0] 25 (0,0)):=(hb0.block _ (by omega)).trans r1
   have q2:W0.heap[w.heap.size+1]? = some (.cells #[.bool false] 4 (0,0)):=(hb0.block _ (by omega)).trans r2
   refine YieldAt.mono (yield_of (r:=r) (On:=fun _=>False) (Stop:=fun c W'=>∃vb,PaT W0 W' lo gp (wq.heap.size+1) w.heap.size (w.heap.size+1) { r with state:=.done,pending:=some .ret } p p vb) recW hst hpe (by rw [hpa];rfl) ?_) ?_
   case refine_2=>
    rintro e W' (⟨_,h⟩|⟨he,_,vb,h⟩)
    ·exact h.elim
    ·exact ⟨he,vb,h⟩
   generalize hrb:({ r with state:=LoopState.busy }:Loop)=rb'
   generalize hrc:({ r with state:=LoopState.done,pending:=some Code.ret }:Loop)=rc
   obtain ⟨e1,e2,e3,e4⟩:r.assign=_∧r.body=_∧r.params=_∧r.tmps=_:=by rw [←hr];exact ⟨rfl,rfl,rfl,rfl⟩
   rw [e1,e2,e3,e4]
   clear e1 e2 e3 e4 hr hst hpe hpa hrb hrc HO
   dsimp only [recOf]
   have HH:=Lib.hid H
   have HP:=Lib.hid hpl
   clear H
   gi_wp2
   refine ⟨recW,?_⟩
   have hz:=HH.out.sz
   have hgn:=C.gp1
   have K1:=keep_put W (wq.heap.size+1) (.loop rb')
   have gz:(W.putObj (wq.heap.size+1) (.loop rb')).heap.size=W.heap.size:=World.putObj_size ..
   have g1:(W.putObj (wq.heap.size+1) (.loop rb')).heap[w.heap.size]? = _:=(World.putObj_heap_other (w:=W) (o:=.loop rb') (show w.heap.size≠wq.heap.size+1 by omega)).trans ((HH.out.fix w.heap.size (by omega) (by omega)).trans q1)
   have g2:(W.putObj (wq.heap.size+1) (.loop rb')).heap[w.heap.size+1]? = _:=(World.putObj_heap_other (w:=W) (o:=.loop rb') (show w.heap.size+1≠wq.heap.size+1 by omega)).trans ((HH.out.fix (w.heap.size+1) (by omega) (by omega)).trans q2)
   have g3:(W.putObj (wq.heap.size+1) (.loop rb')).heap[gp]? = _:=(World.putObj_heap_other (w:=W) (o:=.loop rb') (show gp≠wq.heap.size+1 by omega)).trans HH.out.row
   have HRND:Hid (∀W3 vb,Below (W.putObj (wq.heap.size+1) (.loop rb')).heap.size (W.putObj (wq.heap.size+1) (.loop rb')) W3→Fr W3 (W.putObj (wq.heap.size+1) (.loop rb')).heap.size W3.heap.size vb p→((W3.setCell ⟨w.heap.size,0,none⟩ vb).setCell ⟨w.heap.size+1,0,none⟩ (.bool true)).heap[wq.heap.size+1]? = some (.loop rb')∧PaT W0 (((W3.setCell ⟨w.heap.size,0,none⟩ vb).setCell ⟨w.heap.size+1,0,none⟩ (.bool true)).putObj (wq.heap.size+1) (.loop rc)) lo gp (wq.heap.size+1) w.heap.size (w.heap.size+1) rc p p vb):=fun W3 vb hb hf=>HH.out.fits (by omega) (by omega) (by omega) (by omega) ⟨by omega,by omega,by omega⟩ ⟨by omega,by omega,by omega⟩ q1 q2 hb hf
   generalize W.putObj (wq.heap.size+1) (.loop rb')=Wb at *
   have HCLN:Hid (Calls Tryz.prog 59 #[.slice (some ⟨gp,0,none⟩) n n] Wb fun e w'=>∃g c',e=.returned (.slice (some ⟨g,0,none⟩) n c')∧Fr w' Wb.heap.size w'.heap.size (.slice (some ⟨g,0,none⟩) n c') p∧Below Wb.heap.size Wb w'):=by
    have h:=cloneI_any (some ⟨gp,0,none⟩) n p Wb (.inr ⟨gp,0,rfl,fun k y hk=>by rw [Nat.zero_add];exact (row_cell g3 hk).1⟩) (by rw [HP.out];omega)
    rw [HP.out] at h
    refine h.mono fun e w' ⟨A',c',he,hf,hb⟩=>?_
    obtain ⟨g,y,rfl,-⟩:=hf.at_ (k:=0) (by rw [HP.out];omega)
    exact ⟨g,c',he,hf,hb⟩
   have HG:=Lib.hid (And.intro g1 g2)
   clear g1 g2 g3 q1 q2 K1 recW C hb0 HH hpl
   gi_wp2_with (refine ⟨trivial,fun h=>(by cases h),?_⟩;gi_at_call 59;refine (CallsIn.inRound _ (callsIn_wide.2 HCLN.out)).mono ?_;rintro e w6 ⟨g6,c6,rfl,hf6,hb6⟩;have HB6:=Lib.hid hb6;have HF6:=Lib.hid hf6;have k2:=(hb6.block w.heap.size (by omega)).trans HG.out.1;have k3:=(hb6.block (w.heap.size+1) (by omega)).trans HG.out.2;obtain ⟨ce2,fe2⟩:=box_cell k2;obtain ⟨ce3,fe3⟩:=box_cell ((keep_set w6 w.heap.size (.slice (some ⟨g6,0,none⟩) n c6)).block (w.heap.size+1) (Array.getElem?_eq_some_iff.1 k3).1 (by omega) |>.trans k3);clear hf6 hb6 k2 k3)
   have e:=HRND.out w6 _ HB6.out HF6.out
   exact ⟨e.1,_,e.2⟩
  refine (HO hY).mono ?_
  rintro e W' ⟨hv,W0,lo,gp,e',hb0,hgp,hlo,hres⟩
  have hz0:=hb0.size
  have defW:W0.heap[wq.heap.size]? = some (.deferred (some [])):=(hb0.block _ (by omega)).trans defS
  have recW:W0.heap[wq.heap.size+1]? = some (.loop r):=(hb0.block _ (by omega)).trans recS
  have q1:=(hb0.block w.heap.size (by omega)).trans r1
  have q2:=(hb0.block (w.heap.size+1) (by omega)).trans r2
  have B0:Below w.heap.size w W0:=be1.trans (hb0.mono (by omega))
  cases hx:pairF met n order (List.replicate n (-1)) with
  | none=>
   rw [hx] at hres
   obtain ⟨-,H⟩:=hres
   have hz:=H.sz
   exact ⟨hv,(H.fix wq.heap.size (by omega) (by omega)).trans defW,.inl ⟨(H.fix (wq.heap.size+1) (by omega) (by omega)).trans recW,rfl,(H.fix w.heap.size (by omega) (by omega)).trans q1,(H.fix (w.heap.size+1) (by omega) (by omega)).trans q2,H.be B0 (by omega) (by omega) (by omega)⟩⟩
  | some best=>
   rw [hx] at hres
   obtain ⟨-,vb,H⟩:=hres
   have hz:=H.sz
   exact ⟨hv,(H.fix wq.heap.size (by omega) (by omega) (by omega) (by omega) (by omega)).trans defW,.inr ⟨.ret,H.hl,rfl,best,vb,rfl,H.hrv,H.hrb,H.fr.wide (by omega) (Nat.le_refl _) (Nat.le_refl _),H.be B0 (by omega) (by omega) (by omega) (by omega) (by omega) (by omega)⟩⟩
theorem implPairSwissOff_any (A B:Option Addr) (c d:Nat) (points met:List Int) (w:World) (hs:SlI w A points) (ht:SlI w B met) (hn:points.length≤1048576) (hm:met.length≤1048576) (hsw:swB points met=false):
  Calls Tryz.prog 270 #[.slice A points.length c,.slice B met.length d] w fun e w'=>LR w e w' none:=by
 have HOK:Hid (∀W,Below w.heap.size w W→Calls Tryz.prog 340 #[.slice A points.length c,.slice B met.length d] W fun e w'=>e=.returned (.bool false)∧Below W.heap.size W w'):=fun W hW=>by
  have h:=implSwissOk_any A B c d points met W (hs.below hW) (ht.below hW) hn hm
  rw [hsw] at h;exact h
 have HST:=Lib.hid (psStart_facts w)
 clear hs ht hn hm hsw
 go_enter Tryz.func270,Tryz.ntmps270
 go_upto_region 1 with fail
 change Code.wp _ _ _ _ (psStartG w)
 generalize psStartG w=w0 at *
 go_wp2_with (go_at_call 340;refine (HOK.out _ HST.out.1).mono ?_;rintro e w1 ⟨rfl,hb⟩;have B1:Hid (Below w.heap.size w w1):=HST.out.1.trans (hb.mono HST.out.1.size);have k0:=(hb.block _ (Array.getElem?_eq_some_iff.1 HST.out.2.2.1).1).trans HST.out.2.2.1;have k1:=(hb.block _ (Array.getElem?_eq_some_iff.1 HST.out.2.2.2).1).trans HST.out.2.2.2;have HN:=Lib.hid (bfNone k0 k1 B1.out (by omega) (.slice none 0 0) (.bool false));obtain ⟨z0,f0⟩:=box_cell k0;obtain ⟨z1,f1⟩:=box_cell k1;clear hb k0 k1)
 refine bodyPost_ret (v:=.tuple #[.slice none 0 0,.bool false]) (by simp [results,Tryz.results270,go_sem,z0,z1]) rfl ?_
 exact LR.none_of rfl rfl HN.out
theorem pairSwiss_any (A B:Option Addr) (c d:Nat) (points met:List Int) (w:World) (hs:SlI w A points) (ht:SlI w B met) (hn:points.length≤1048576) (hm:met.length≤1048576):
  Calls Tryz.prog 270 #[.slice A points.length c,.slice B met.length d] w fun e w'=>LR w e w' (pairSw ordBy points met):=by
 unfold pairSw
 cases h:swB points met
 ·exact implPairSwissOff_any A B c d points met w hs ht hn hm h
 ·rw [if_pos rfl]
  obtain ⟨n2,n8,mn,mr,isw⟩:=swB_t h
  rcases ht with h0|⟨gm,om,rfl,cgm⟩
  ·rw [h0] at mn;simp only [List.length_nil] at mn;omega
  ·rw [mn]
   exact implPairSwiss_any A c gm om d points.length points met w hs cgm h rfl
end Go.Proofs.YtkapoldjcpfdgaaGreatDoor
