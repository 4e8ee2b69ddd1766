/- The pairings of an order, the first one: the program's iterator. -/
import Derived.Test.YtkapoldjcpfdgaaGreatDoorMba
set_option maxHeartbeats 8000000
set_option maxRecDepth 100000
namespace Go.Proofs.YtkapoldjcpfdgaaGreatDoor
open Go.ChangeShapes Go.WideShapes Go.ChangeAt Go.RowKit
attribute [local go_sem] Oper.semAt_some
theorem two_keep {W W':World}{lo:Nat}{ov vb:Value}{cur best:List Int}{b:Nat} (h:Two W lo ov vb cur best) (hk:Keep b (b+1) W W') (hb:b<lo):Two W' lo ov vb cur best:=
 ⟨(h.fb.keep hk (.inr hb)).wide (Nat.le_refl _) hk.size (Nat.le_refl _),(h.fw.keep hk (.inr hb)).wide (Nat.le_refl _) hk.size (Nat.le_refl _),h.ne⟩
theorem keep_set (W:World) (b:Nat) (u:Value):Keep b (b+1) W (W.setCell ⟨b,0,none⟩ u):=(Keep.refl _ _ _).setCell (p:=⟨b,0,none⟩) (Nat.le_refl _) (Nat.lt_succ_self _) _
theorem two_cut {W:World}{lo:Nat}{ov vb:Value}{cur best:List Int}{x:Int} (h:Two W lo ov vb (cur++[x]) best):∃g cap,ov=.slice (some ⟨g,0,none⟩) (cur.length+1) cap∧cur.length+1≤cap∧cap≤maxLen∧Two W lo (.slice (some ⟨g,0,none⟩) cur.length cap) vb cur best:=by
 obtain ⟨A,cap,rfl,hc,hm⟩:=h.fb.form
 obtain ⟨g,y,rfl,_⟩:=h.fb.at_ (k:=0) (by simp)
 have hl:(cur++[x]).length=cur.length+1:=by simp
 rw [hl] at hc
 obtain ⟨us,hu1,hu2,hu3,hu4⟩:=own_full h.fb.own
 have h5:=own_cut hu4 (k:=cur.length) (by omega)
 have e:us.take cur.length=ints cur:=by
  have h6:(us.take (cur++[x]).length).take cur.length=(ints (cur++[x])).take cur.length:=by rw [hu2]
  rw [List.take_take,Nat.min_eq_left (by omega)] at h6
  rw [h6,ints_append,List.take_append_of_le_length (by rw [ints_length];exact Nat.le_refl _),List.take_of_length_le (by rw [ints_length];exact Nat.le_refl _)]
 rw [e] at h5
 exact ⟨g,cap,by rw [hl],hc,hm,Fr.of_own h5,h.fw,fun k hk=>h.ne k hk⟩
def visT (n f:Nat) (cur:List Int) (j:Nat):List (List Int):=((idxs n).take j).flatMap fun x=>if cur.contains x then [] else visit n f (cur++[x])
theorem visT_in {n f:Nat}{cur:List Int}{j:Nat} (hj:j<n) (h:cur.contains (j:Int)=false):visT n f cur (j+1)=visT n f cur j++visit n f (cur++[(j:Int)]):=by
 rw [visT,take_snoc (idxs_get hj),List.flatMap_append]
 simp only [List.flatMap_cons,List.flatMap_nil,List.append_nil,h,Bool.false_eq_true,if_false]
 rfl
theorem visT_out {n f:Nat}{cur:List Int}{j:Nat} (hj:j<n) (h:cur.contains (j:Int)=true):visT n f cur (j+1)=visT n f cur j:=by
 rw [visT,take_snoc (idxs_get hj),List.flatMap_append]
 simp only [List.flatMap_cons,List.flatMap_nil,List.append_nil,h,if_true]
 rfl
theorem visT_all (n f:Nat) (cur:List Int):visT n f cur n=visit n (f+1) cur:=by
 rw [visT,List.take_of_length_le (by rw [idxs_length];exact Nat.le_refl _)];rfl
def ordStart (W:World) (l lb:Nat):World:=
 ((W.alloc (.cells #[.func (.yield l) #[] #[]] 118)).alloc (.cells #[.slice none 0 0] 25)).alloc (.cells #[.func (.func 269) #[] #[.pointer (some ⟨W.heap.size+1,0,none⟩),.pointer (some ⟨lb,0,none⟩),.pointer (some ⟨W.heap.size,0,none⟩),.pointer (some ⟨W.heap.size+1+1,0,none⟩)]] 177)
theorem ordStart_facts (W:World) (l lb:Nat):Below W.heap.size W (ordStart W l lb)∧(ordStart W l lb).heap.size=W.heap.size+3 ∧
  (ordStart W l lb).heap[W.heap.size]? = some (.cells #[.func (.yield l) #[] #[]] 118 (0,0))∧(ordStart W l lb).heap[W.heap.size+1]? = some (.cells #[.slice none 0 0] 25 (0,0)) ∧
  (ordStart W l lb).heap[W.heap.size+1+1]? = some (.cells #[.func (.func 269) #[] #[.pointer (some ⟨W.heap.size+1,0,none⟩),.pointer (some ⟨lb,0,none⟩),.pointer (some ⟨W.heap.size,0,none⟩),.pointer (some ⟨W.heap.size+1+1,0,none⟩)]] 177 (0,0)):=by
 unfold ordStart
 obtain ⟨W1,e1⟩:∃W1,W1=W.alloc (.cells #[.func (.yield l) #[] #[]] 118):=⟨_,rfl⟩
 have z1:W1.heap.size=W.heap.size+1:=by rw [e1];simp
 have h1:W1.heap[W.heap.size]? = some (.cells #[.func (.yield l) #[] #[]] 118 (0,0)):=by rw [e1];exact World.alloc_heap_new W _
 have b1:Below W.heap.size W W1:=by rw [e1];exact (Below.refl _ W).alloc (Nat.le_refl _) _
 rw [←e1]
 obtain ⟨W2,e2⟩:∃W2,W2=W1.alloc (.cells #[.slice none 0 0] 25):=⟨_,rfl⟩
 have z2:W2.heap.size=W.heap.size+1+1:=by rw [e2,World.size_alloc,z1]
 have h2:W2.heap[W.heap.size+1]? = some (.cells #[.slice none 0 0] 25 (0,0)):=by rw [e2,←z1];exact World.alloc_heap_new W1 _
 have b2:Below W1.heap.size W1 W2:=by rw [e2];exact (Below.refl _ W1).alloc (Nat.le_refl _) _
 rw [←e2]
 have b3:Below W2.heap.size W2 (W2.alloc (.cells #[.func (.func 269) #[] #[.pointer (some ⟨W.heap.size+1,0,none⟩),.pointer (some ⟨lb,0,none⟩),.pointer (some ⟨W.heap.size,0,none⟩),.pointer (some ⟨W.heap.size+1+1,0,none⟩)]] 177)):=(Below.refl _ W2).alloc (Nat.le_refl _) _
 refine ⟨b1.trans ((b2.trans (b3.mono b2.size)).mono b1.size),by rw [World.size_alloc,z2],?_,?_,?_⟩
 ·exact (b3.block _ (by omega)).trans ((b2.block _ (by omega)).trans h1)
 ·exact (b3.block _ (by omega)).trans h2
 ·rw [←z2];exact World.alloc_heap_new W2 _
theorem orders_any (A:Option Addr) (n c:Nat) (w:World):
  Calls Tryz.prog 183 #[.slice A n c] w fun e w'=>e=.returned (.func (.func 268) #[] #[.pointer (some ⟨w.heap.size,0,none⟩)])∧w'=w.alloc (.cells #[.slice A n c] 25):=by
 go_enter Tryz.func183,Tryz.ntmps183
 go_wp2
 go_ret
 exact ⟨rfl,rfl⟩
end Go.Proofs.YtkapoldjcpfdgaaGreatDoor
namespace Go.Proofs.YtkapoldjcpfdgaaGreatDoor
open Go.ChangeShapes Go.WideShapes Go.ChangeAt Go.RowKit
attribute [local go_sem] Oper.semAt_some
theorem indexFuncIn_any (A:Option Addr) (c:Nat) (xs:List Int) (w:World) (hs:SlI w A xs) (hn:xs.length≤1048576) (G:FuncId) (caps:Array Value) (p:Int→Bool)
  (hG:∀(args:Array Value) (W:World),(callFunc G args).run Tryz.prog W=.ok (.enter G args) W)
  (hp:∀q,∀x∈xs,Calls Tryz.prog G (#[.int .i64 x]++caps) (w.drewN q) fun e w'=>e=.returned (.bool (p x))∧∃q',w'=w.drewN q'):
  Calls Tryz.prog 333 #[.slice A xs.length c,.func (.func G) #[] caps] w fun e w'=>e=.returned (.int .i64 (idxF p xs))∧∃q,w'=w.drewN q:=by
 have HP:=Lib.hid hp
 clear hp
 generalize hl:xs.length=n at *
 have Hl:=Lib.hid hl
 clear hl
 go_enter Tryz.func333,Tryz.ntmps333
 go_wp2
 go_loopw [8] (fun i wr=>∃j:Nat,j≤n∧i=.int .i64 j∧Hid ((xs.take j).all (fun y=>!p y)=true)∧Hid (∃q,wr=w.drewN q)) (fun i _=>n-(intOf i).toNat)
 case atStart=>exact ⟨0,Nat.zero_le _,rfl,rfl,0,rfl⟩
 case round=>
  obtain ⟨j,hj,rfl,HT,HQ⟩:=hrel
  obtain ⟨q0,rfl⟩:=HQ
  by_cases hlt:j<n
  ·obtain ⟨b,off,x,rfl,hx1,hx2,_⟩:=(hs.drewN q0).at_ (k:=j) (by rw [Hl.out];exact hlt)
   have Hx:=Lib.hid hx1
   have hx3:=hx2
   clear hx1 hs hx2
   have hpx:=HP.out q0 x (List.mem_of_getElem? Hx.out)
   obtain ⟨w0,hw0⟩:∃w0,w0=w.drewN q0:=⟨_,rfl⟩
   rw [←hw0] at hx3 hpx ⊢
   have HPX:=Lib.hid hpx
   have HW:=Lib.hid hw0
   clear hpx hw0
   go_wp2_with fail
   refine (HPX.out).mono ?_
   rintro e w1 ⟨rfl,q1,rfl⟩
   cases hpc:p x
   ·go_wp2
    go_roundw
    case rel=>exact ⟨j+1,by omega,by go_num,all_take_snoc HT.out Hx.out (by simp [hpc]),q1,rfl⟩
    case measure=>simp [intOf];omega
   ·go_wp2
    go_ret
    exact ⟨ret_int (idxF_hit HT.out Hx.out hpc).symm,q1,rfl⟩
  ·obtain rfl:j=n:=by omega
   go_wp2
   go_ret
   have h:=HT.out
   rw [List.take_of_length_le (by rw [Hl.out];exact Nat.le_refl _)] at h
   exact ⟨ret_int (idxF_none h).symm,q0,rfl⟩
structure PaC (W0:World) (lo gp l rv rb ob mb pb yb fb go co gm om cm n:Nat) (order met:List Int):Prop where
 gp1:gp<lo
 l1:l<lo
 rv1:rv<lo
 rb1:rb<lo
 ne:gp≠l∧gp≠rv∧gp≠rb
 obn:ob<lo∧ob≠gp
 mbn:mb<lo∧mb≠gp
 pbn:pb<lo∧pb≠gp
 pbx:pb≠l∧pb≠rv∧pb≠rb
 ybn:yb<lo∧yb≠gp
 fbn:fb<lo∧fb≠gp
 gon:go<lo∧go≠gp
 gmn:gm<lo∧gm≠gp
 cob:W0.cell? ⟨ob,0,none⟩=some (.slice (some ⟨go,0,none⟩) n co)
 cmb:W0.cell? ⟨mb,0,none⟩=some (.slice (some ⟨gm,om,none⟩) n cm)
 cpb:W0.cell? ⟨pb,0,none⟩=some (.slice (some ⟨gp,0,none⟩) n n)
 cyb:W0.cell? ⟨yb,0,none⟩=some (.func (.yield l) #[] #[])
 cfb:W0.cell? ⟨fb,0,none⟩=some (.func (.func 376) #[] #[.pointer (some ⟨ob,0,none⟩),.pointer (some ⟨pb,0,none⟩),.pointer (some ⟨yb,0,none⟩),.pointer (some ⟨mb,0,none⟩),.pointer (some ⟨fb,0,none⟩)])
 nco:n≤co∧co≤maxLen
 ol:order.length=n
 ml:met.length=n
 orr:∀y∈order,0≤y∧y<n
 ond:order.Nodup
 mr:∀y∈met,0≤y∧y≤255
 cgo:∀k y,order[k]? = some y→W0.cell? ⟨go,k,none⟩=some (.int .i64 y)
 cgm:∀k y,met[k]? = some y→W0.cell? ⟨gm,om+k,none⟩=some (.int .i64 y)
structure PaS (W0 W:World) (lo gp:Nat) (p:List Int):Prop where
 fix:∀k,k<lo→k≠gp→W.heap[k]? = W0.heap[k]?
 env:W.os=W0.os∧W.tape=W0.tape∧W.output=W0.output
 sz:lo≤W.heap.size
 row:W.heap[gp]? = some (.cells (ints p).toArray 3 (0,0))
structure PaT (W0 W:World) (lo gp l rv rb:Nat) (rc:Loop) (p best:List Int) (vb:Value):Prop where
 fix:∀k,k<lo→k≠gp→k≠l→k≠rv→k≠rb→W.heap[k]? = W0.heap[k]?
 env:W.os=W0.os∧W.tape=W0.tape∧W.output=W0.output
 sz:lo≤W.heap.size
 row:W.heap[gp]? = some (.cells (ints p).toArray 3 (0,0))
 hl:W.heap[l]? = some (.loop rc)
 hrv:W.heap[rv]? = some (.cells #[vb] 25 (0,0))
 hrb:W.heap[rb]? = some (.cells #[.bool true] 4 (0,0))
 fr:Fr W lo W.heap.size vb best
theorem row_cell {W:World}{g i:Nat}{p:List Int}{x:Int} (h:W.heap[g]? = some (.cells (ints p).toArray 3 (0,0))) (hi:p[i]? = some x):W.cell? ⟨g,i,none⟩=some (.int .i64 x)∧W.frozen? ⟨g,i,none⟩=false:=by
 constructor
 ·simp only [World.cell?,h,List.getElem?_toArray];exact ints_get hi
 ·simp [World.frozen?,h]
theorem row_set {W:World}{g i:Nat}{p:List Int}{y:Int} (h:W.heap[g]? = some (.cells (ints p).toArray 3 (0,0))):(W.setCell ⟨g,i,none⟩ (.int .i64 y)).heap[g]? = some (.cells (ints (p.set i y)).toArray 3 (0,0)):=by
 show (W.heap.modify g _)[g]? = _
 rw [Array.getElem?_modify,if_pos rfl,h,←ints_set]
 simp
theorem setCell_other (W:World) {g i b:Nat}{v:Value} (h:b≠g):(W.setCell ⟨g,i,none⟩ v).heap[b]? = W.heap[b]?:=by
 show (W.heap.modify g _)[b]? = _
 rw [Array.getElem?_modify,if_neg (fun e=>h e.symm)]
theorem setCell_sz (W:World) (a:Addr) (v:Value):(W.setCell a v).heap.size=W.heap.size:=by simp [World.setCell]
theorem PaS.set {W0 W:World}{lo gp i:Nat}{p:List Int} (h:PaS W0 W lo gp p) (y:Int):PaS W0 (W.setCell ⟨gp,i,none⟩ (.int .i64 y)) lo gp (p.set i y):=
 ⟨fun k hk hne=>(setCell_other W hne).trans (h.fix k hk hne),h.env,by rw [setCell_sz];exact h.sz,row_set h.row⟩
theorem PaS.drewN {W0 W:World}{lo gp:Nat}{p:List Int} (h:PaS W0 W lo gp p) (q:Nat):PaS W0 (W.drewN q) lo gp p:=⟨h.fix,h.env,h.sz,h.row⟩
theorem PaT.set {W0 W:World}{lo gp l rv rb i:Nat}{rc:Loop}{p best:List Int}{vb:Value} (h:PaT W0 W lo gp l rv rb rc p best vb) (hg:gp<lo) (hne:gp≠l∧gp≠rv∧gp≠rb) (y:Int):PaT W0 (W.setCell ⟨gp,i,none⟩ (.int .i64 y)) lo gp l rv rb rc (p.set i y) best vb:=by
 have KP:Keep gp (gp+1) W (W.setCell ⟨gp,i,none⟩ (.int .i64 y)):=(Keep.refl _ _ _).setCell (p:=⟨gp,i,none⟩) (Nat.le_refl _) (Nat.lt_succ_self _) _
 exact ⟨fun k hk h1 h2 h3 h4=>(setCell_other W h1).trans (h.fix k hk h1 h2 h3 h4),h.env,by rw [setCell_sz];exact h.sz,row_set h.row,(setCell_other W (fun e=>hne.1 e.symm)).trans h.hl,(setCell_other W (fun e=>hne.2.1 e.symm)).trans h.hrv,(setCell_other W (fun e=>hne.2.2 e.symm)).trans h.hrb,
  (h.fr.keep KP (.inr hg)).wide (Nat.le_refl _) KP.size (Nat.le_refl _)⟩
theorem PaT.drewN {W0 W:World}{lo gp l rv rb:Nat}{rc:Loop}{p best:List Int}{vb:Value} (h:PaT W0 W lo gp l rv rb rc p best vb) (q:Nat):PaT W0 (W.drewN q) lo gp l rv rb rc p best vb:=⟨h.fix,h.env,h.sz,h.row,h.hl,h.hrv,h.hrb,h.fr⟩
def PaRes (W0:World) (lo gp l rv rb:Nat) (rc:Loop) (p:List Int) (e:Ending) (W':World):Option (List Int)→Prop
 | none=>e=.returned (.bool true)∧PaS W0 W' lo gp p
 | some best=>e=.returned (.bool false)∧∃vb,PaT W0 W' lo gp l rv rb rc p best vb
def RoundsP (W0:World) (lo gp l rv rb:Nat) (rc:Loop) (n:Nat):Prop:=
 ∀(m:Nat) (W:World) (p:List Int),p.length=n→PaS W0 W lo gp p→YieldAt Fence.wide m Tryz.prog l #[.slice (some ⟨gp,0,none⟩) n n] W (fun e W'=>e=.returned (.bool false)∧∃vb,PaT W0 W' lo gp l rv rb rc p p vb)
theorem putP_back {p:List Int}{a b:Nat} (_hne:a≠b) (ha:p[a]? = some (-1)) (hb:p[b]? = some (-1)):((putP p (a:Int) (b:Int)).set a (-1)).set b (-1)=p:=by
 apply List.ext_getElem?
 intro i
 unfold putP
 rw [Int.toNat_natCast,Int.toNat_natCast]
 have hal:=(List.getElem?_eq_some_iff.1 ha).1
 have hbl:=(List.getElem?_eq_some_iff.1 hb).1
 by_cases h1:b=i
 ·subst h1
  rw [List.getElem?_set_self (by simp;omega),hb]
 ·rw [List.getElem?_set_ne h1]
  by_cases h2:a=i
  ·subst h2
   rw [List.getElem?_set_self (by simp;omega),ha]
  ·rw [List.getElem?_set_ne h2,List.getElem?_set_ne h1,List.getElem?_set_ne h2]
theorem paiLess_any (pb gp n:Nat) (p:List Int) (a:Nat) (W:World) (hn:p.length=n) (ha:a<n) (c0:W.cell? ⟨pb,0,none⟩=some (.slice (some ⟨gp,0,none⟩) n n)) (hr:W.heap[gp]? = some (.cells (ints p).toArray 3 (0,0))):
  Calls Tryz.prog 377 #[.int .i64 (a:Int),.pointer (some ⟨pb,0,none⟩)] W fun e w'=>e=.returned (.bool (decide (p.getD a 0<0)))∧∃q,w'=W.drewN q:=by
 have hx:p[a]? = some p[a]:=List.getElem?_eq_getElem (by omega)
 obtain ⟨cx,-⟩:=row_cell hr hx
 have HX:Hid (p.getD a 0=p[a]):=by show _=_;rw [List.getD_eq_getElem?_getD,hx];rfl
 generalize p[a]=x at *
 have f1:(0:Int)≤(a:Int)∧(a:Int)<(n:Int):=by omega
 clear hx hr hn
 go_enter Tryz.func377,Tryz.ntmps377
 go_wp2
 go_ret
 exact ⟨by rw [HX.out];rfl,0,rfl⟩
theorem free_cut {order p:List Int} (hall:order.all (fun y=>!decide (p.getD y.toNat 0<0))=false):∃(k:Nat) (a:Int),order[k]? = some a∧p.getD a.toNat 0<0∧idxF (fun y=>decide (p.getD y.toNat 0<0)) order=(k:Int)∧freeL order p=a :: freeL (order.drop (k+1)) p:=by
 induction order with
 | nil=>cases hall
 | cons x xs ih=>
  rw [List.all_cons] at hall
  by_cases hx:p.getD x.toNat 0<0
  ·refine ⟨0,x,rfl,hx,idxF_hit (k:=0) (x:=x) rfl rfl (by simpa using hx),?_⟩
   unfold freeL
   rw [List.filter_cons_of_pos (by simpa using hx)];rfl
  ·rw [decide_eq_false hx] at hall
   obtain ⟨k,a,h1,h2,h3,h4⟩:=ih (by simpa using hall)
   refine ⟨k+1,a,by simpa using h1,h2,?_,?_⟩
   ·unfold idxF at h3 ⊢
    rw [List.findIdx?_cons,if_neg (by simpa using hx)]
    cases hf:xs.findIdx? fun y=>decide (p.getD y.toNat 0<0) with
    | none=>rw [hf] at h3;simp at h3
    | some j=>rw [hf] at h3;simp at h3 ⊢;omega
   ·unfold freeL at h4 ⊢
    rw [List.filter_cons_of_neg (by simpa using hx),h4];rfl
theorem free_none {order p:List Int} (hall:order.all (fun y=>!decide (p.getD y.toNat 0<0))=true):idxF (fun y=>decide (p.getD y.toNat 0<0)) order = -1∧freeL order p = []:=by
 refine ⟨idxF_none hall,?_⟩
 unfold freeL
 rw [List.filter_eq_nil_iff]
 intro a ha
 have:=List.all_eq_true.1 hall a ha
 simpa using this
def tryP (met:List Int) (f:Nat) (a:Int) (rest p:List Int) (b:Int):Option (List Int):=if decide (p.getD b.toNat 0<0) then (if metB met a b then none else pairF met f (rest.erase b) (putP p a b)) else none
theorem pairF_try {met:List Int}{f:Nat}{a:Int}{post p:List Int}:pairF met (f+1) (a :: freeL post p) p=post.findSome? (tryP met f a (freeL post p) p):=by
 rw [pairF]
 unfold freeL
 rw [filter_findSome]
 rfl
theorem pairF_nil (met:List Int) (f:Nat) (p:List Int):pairF met f [] p=some p:=by cases f<;>rfl
theorem try_snoc {α:Type}{g:Int→Option α}{l:List Int}{j:Nat}{b:Int} (hb:l[j]? = some b) (h:(l.take j).findSome? g=none) (hg:g b=none):(l.take (j+1)).findSome? g=none:=by
 rw [take_snoc hb,List.findSome?_append,h]
 simp [hg]
theorem try_hit {α:Type}{g:Int→Option α}{l:List Int}{j:Nat}{b:Int}{x:α} (hb:l[j]? = some b) (h:(l.take j).findSome? g=none) (hg:g b=some x):l.findSome? g=some x:=by
 have hl:=(List.getElem?_eq_some_iff.1 hb).1
 have e:l=l.take (j+1)++l.drop (j+1):=(List.take_append_drop _ _).symm
 rw [e,List.findSome?_append,take_snoc hb,List.findSome?_append,h]
 simp [hg]
theorem PaS.cells {W0 W:World}{lo gp l rv rb ob mb pb yb fb go co gm om cm n:Nat}{order met p:List Int} (C:PaC W0 lo gp l rv rb ob mb pb yb fb go co gm om cm n order met) (h:PaS W0 W lo gp p):
  W.cell? ⟨ob,0,none⟩=some (.slice (some ⟨go,0,none⟩) n co)∧W.cell? ⟨mb,0,none⟩=some (.slice (some ⟨gm,om,none⟩) n cm)∧W.cell? ⟨pb,0,none⟩=some (.slice (some ⟨gp,0,none⟩) n n)∧W.cell? ⟨yb,0,none⟩=some (.func (.yield l) #[] #[])∧W.cell? ⟨fb,0,none⟩=some (.func (.func 376) #[] #[.pointer (some ⟨ob,0,none⟩),.pointer (some ⟨pb,0,none⟩),.pointer (some ⟨yb,0,none⟩),.pointer (some ⟨mb,0,none⟩),.pointer (some ⟨fb,0,none⟩)])∧(∀k y,order[k]? = some y→W.cell? ⟨go,k,none⟩=some (.int .i64 y))∧(∀k y,met[k]? = some y→W.cell? ⟨gm,om+k,none⟩=some (.int .i64 y)):=
 ⟨(cell_heap (h.fix _ C.obn.1 C.obn.2)).trans C.cob,(cell_heap (h.fix _ C.mbn.1 C.mbn.2)).trans C.cmb,(cell_heap (h.fix _ C.pbn.1 C.pbn.2)).trans C.cpb,(cell_heap (h.fix _ C.ybn.1 C.ybn.2)).trans C.cyb,(cell_heap (h.fix _ C.fbn.1 C.fbn.2)).trans C.cfb,fun k y hk=>(cell_heap (h.fix _ C.gon.1 C.gon.2)).trans (C.cgo k y hk),fun k y hk=>(cell_heap (h.fix _ C.gmn.1 C.gmn.2)).trans (C.cgm k y hk)⟩
theorem fillFirst {W0 W:World}{lo gp l rv rb ob mb pb yb fb go co gm om cm n:Nat}{order met p:List Int} (C:PaC W0 lo gp l rv rb ob mb pb yb fb go co gm om cm n order met) (hn:n≤8) (hp:p.length=n) (h:PaS W0 W lo gp p):
  Calls Tryz.prog 333 #[.slice (some ⟨go,0,none⟩) n co,.func (.func 377) #[] #[.pointer (some ⟨pb,0,none⟩)]] W fun e w'=>e=.returned (.int .i64 (idxF (fun y=>decide (p.getD y.toNat 0<0)) order))∧∃q,w'=W.drewN q:=by
 have hx:=indexFuncIn_any (some ⟨go,0,none⟩) co order W (.inr ⟨go,0,rfl,fun k y hk=>by rw [Nat.zero_add];exact (h.cells C).2.2.2.2.2.1 k y hk⟩) (by have:=C.ol;omega) 377 #[.pointer (some ⟨pb,0,none⟩)] (fun y=>decide (p.getD y.toNat 0<0)) (fun _ _=>by kernel_rfl) (fun q x hx=>by
  obtain ⟨x1,x2⟩:=C.orr x hx
  obtain ⟨x,rfl⟩:=Int.eq_ofNat_of_zero_le x1
  refine (paiLess_any pb gp n p x (W.drewN q) hp (by omega) (h.cells C).2.2.1 h.row).mono ?_
  rintro e w' ⟨rfl,q',rfl⟩
  exact ⟨by rw [Int.toNat_natCast],q+q',by simp [World.drewN,Nat.add_assoc]⟩)
 rw [C.ol] at hx
 exact hx
theorem fillDone {W0:World}{lo gp l rv rb ob mb pb yb fb go co gm om cm n:Nat}{order met:List Int}{rc:Loop} (C:PaC W0 lo gp l rv rb ob mb pb yb fb go co gm om cm n order met) (hn:n≤8) (hY:RoundsP W0 lo gp l rv rb rc n) (m:Nat) (W:World) (p:List Int) (hp:p.length=n) (H:PaS W0 W lo gp p) (hall:order.all (fun y=>!decide (p.getD y.toNat 0<0))=true):
  CallsIn Fence.wide m Tryz.prog 376 #[.pointer (some ⟨ob,0,none⟩),.pointer (some ⟨pb,0,none⟩),.pointer (some ⟨yb,0,none⟩),.pointer (some ⟨mb,0,none⟩),.pointer (some ⟨fb,0,none⟩)] W
   (fun e W'=>PaRes W0 lo gp l rv rb rc p e W' (some p)):=by
 have HI:=Lib.hid (fillFirst C hn hp H)
 rw [(free_none hall).1] at HI
 obtain ⟨k1,k2,k3,k4,-,-,-⟩:=H.cells C
 have HP:=Lib.hid H
 clear hall H
 refine callsIn_of_wp Tryz.func376 rfl trivial ?_ rfl
 simp only [Tryz.ntmps376,List.size_toArray,List.length_cons,List.length_nil,Nat.reduceAdd,Nat.reduceSub,Array.replicate_succ,Array.replicate_zero,List.push_toArray,List.append_toArray,List.nil_append,List.cons_append]
 gi_wp2_with (first
  | (refine ⟨trivial,fun h=>(by cases h),?_⟩;gi_at_call 333;refine (callsIn_wide.2 HI.out).mono ?_;rintro e w2 ⟨rfl,q,rfl⟩;have HQ:=Lib.hid (HP.out.drewN q);clear k1 k2 k3 k4;obtain ⟨k1,k2,k3,k4,-,-,-⟩:=HQ.out.cells C;obtain ⟨fn,tmps,assign,body,hy,hR⟩:=hY (m-1) (W.drewN q) p hp HQ.out;generalize W.drewN q=w3 at *)
  )
 refine ⟨fun h=>(by cases h),hR.mono ?_⟩
 rintro e W' ⟨rfl,vb,H'⟩
 gi_wp2
 go_ret
 exact ⟨rfl,vb,H'⟩
theorem fillT {W0:World}{lo gp l rv rb ob mb pb yb fb go co gm om cm n:Nat}{order met:List Int}{rc:Loop} (C:PaC W0 lo gp l rv rb ob mb pb yb fb go co gm om cm n order met) (hn:n≤8) (hY:RoundsP W0 lo gp l rv rb rc n):
  ∀(f m:Nat) (W:World) (p:List Int),p.length=n→(∀y∈p,y = -1∨0≤y)→(freeL order p).length≤f→PaS W0 W lo gp p →
   CallsIn Fence.wide m Tryz.prog 376 #[.pointer (some ⟨ob,0,none⟩),.pointer (some ⟨pb,0,none⟩),.pointer (some ⟨yb,0,none⟩),.pointer (some ⟨mb,0,none⟩),.pointer (some ⟨fb,0,none⟩)] W
    (fun e W'=>PaRes W0 lo gp l rv rb rc p e W' (pairF met f (freeL order p) p)):=by
 intro f
 induction f with
 | zero=>
  intro m W p hp hpr hfl H
  have h0:freeL order p = []:=List.length_eq_zero_iff.1 (by omega)
  rw [h0]
  refine fillDone C hn hY m W p hp H ?_
  rw [List.all_eq_true]
  intro y hy
  unfold freeL at h0
  rw [List.filter_eq_nil_iff] at h0
  simpa using h0 y hy
 | succ f ih=>
  intro m W p hp hpr hfl H
  cases hall:order.all (fun y=>!decide (p.getD y.toNat 0<0))
  case true=>
   rw [(free_none hall).2,pairF_nil]
   exact fillDone C hn hY m W p hp H hall
  obtain ⟨k,a,hk,ha,hix,hfr⟩:=free_cut hall
  have HI:=Lib.hid (fillFirst C hn hp H)
  rw [hix] at HI
  have hkn:k<n:=by have:=(List.getElem?_eq_some_iff.1 hk).1;have:=C.ol;omega
  obtain ⟨a1,a2⟩:=C.orr a (List.mem_of_getElem? hk)
  obtain ⟨a,rfl⟩:=Int.eq_ofNat_of_zero_le a1
  have HFR:Hid (∀x,(order.drop (k+1)).findSome? (tryP met f a (freeL (order.drop (k+1)) p) p)=x→pairF met (f+1) (freeL order p) p=x):=fun x hx=>by rw [hfr,pairF_try];exact hx
  have HPL:Hid (p.length=n∧(freeL order p).length≤f+1∧freeL order p=(a:Int) :: freeL (order.drop (k+1)) p∧(∀y∈p,y = -1∨0≤y)∧p.getD a 0<0):=⟨hp,hfl,hfr,hpr,ha⟩
  have HK:=Lib.hid hk
  have HP:=Lib.hid H
  obtain ⟨k1,k2,k3,k4,k5,k6,k7⟩:=H.cells C
  have cak:=k6 k a hk
  have hco:=C.nco
  have hml:=C.ml
  unfold maxLen at hco
  have f1:(0:Int)≤(k:Int)∧(k:Int)<(n:Int):=by omega
  have f2:(k:Int)+1≤(n:Int):=by omega
  obtain ⟨Ad,hif⟩:∃Ad:Addr,(if co=k+1 then some (⟨go,0,none⟩:Addr) else some ⟨go,k+1,none⟩)=some Ad:=by
   by_cases h:co=k+1
   ·exact ⟨_,if_pos h⟩
   ·exact ⟨_,if_neg h⟩
  have HIF:=Lib.hid hif
  clear hall hk ha hix hfr hp hfl hpr H k6 k7
  refine callsIn_of_wp Tryz.func376 rfl trivial ?_ rfl
  simp only [Tryz.ntmps376,List.size_toArray,List.length_cons,List.length_nil,Nat.reduceAdd,Nat.reduceSub,Array.replicate_succ,Array.replicate_zero,List.push_toArray,List.append_toArray,List.nil_append,List.cons_append]
  gi_wp2_with (first
   | (refine ⟨trivial,fun h=>(by cases h),?_⟩;gi_at_call 333;refine (callsIn_wide.2 HI.out).mono ?_;rintro e w2 ⟨rfl,q,rfl⟩;have HQ:=Lib.hid (HP.out.drewN q);clear k1 k2 k3 k4 k5 cak;obtain ⟨k1,k2,k3,k4,k5,k6,k7⟩:=HQ.out.cells C;have cak:=k6 k a HK.out;clear k6 k7;generalize W.drewN q=w3 at *)
   )
  clear cak hif f1 f2
  gi_loopw [28] (fun i wr=>∃j:Nat,j≤n-(k+1)∧i=.int .i64 (j:Int)∧Hid (PaS W0 wr lo gp p∧((order.drop (k+1)).take j).findSome? (tryP met f a (freeL (order.drop (k+1)) p) p)=none)) (fun i _=>(n-(k+1))-(intOf i).toNat)
  case atStart=>exact ⟨0,Nat.zero_le _,rfl,HQ.out,rfl⟩
  case round=>
   obtain ⟨j,hj,rfl,HR⟩:=hrel
   clear HQ HP k1 k2 k3 k4 k5
   by_cases hlt:j<n-(k+1)
   case neg=>
    obtain rfl:j=n-(k+1):=by omega
    have HX:Hid (pairF met (f+1) (freeL order p) p=none):=HFR.out _ (by
     have h:=HR.out.2
     rwa [List.take_of_length_le (by rw [List.length_drop,C.ol];exact Nat.le_refl _)] at h)
    gi_wp2
    go_ret
    rw [HX.out]
    exact ⟨rfl,HR.out.1⟩
   obtain ⟨x,hx⟩:∃x,order[k+1+j]? = some x:=⟨_,List.getElem?_eq_getElem (by rw [C.ol];omega)⟩
   obtain ⟨b1,b2⟩:=C.orr x (List.mem_of_getElem? hx)
   obtain ⟨b,rfl⟩:=Int.eq_ofNat_of_zero_le b1
   have HB:Hid ((order.drop (k+1))[j]? = some (b:Int)):=by show _=_;rw [List.getElem?_drop];exact hx
   obtain ⟨k1,k2,k3,k4,k5,k6,k7⟩:=HR.out.1.cells C
   have cb:=k6 _ _ hx
   have hAd:Ad=⟨go,k+1,none⟩:=by
    have h:=HIF.out
    rw [if_neg (by omega)] at h
    injection h with h
    exact h.symm
   subst hAd
   obtain ⟨pv,hpb⟩:∃y,p[b]? = some y:=⟨_,List.getElem?_eq_getElem (by rw [HPL.out.1];omega)⟩
   obtain ⟨pa,hpa⟩:∃y,p[a]? = some y:=⟨_,List.getElem?_eq_getElem (by rw [HPL.out.1];omega)⟩
   obtain ⟨mv,hma⟩:∃y,met[a]? = some y:=⟨_,List.getElem?_eq_getElem (by rw [hml];omega)⟩
   obtain ⟨m1,m2⟩:=C.mr mv (List.mem_of_getElem? hma)
   have cm_:=k7 _ _ hma
   obtain ⟨cpb,fpb⟩:=row_cell HR.out.1.row hpb
   obtain ⟨cpa,fpa⟩:=row_cell HR.out.1.row hpa
   have e1:=bit_at (w:=mv) (b:=b) m1 m2 (by omega)
   have HPB:Hid (p.getD b 0=pv∧p[b]? = some pv∧metB met (a:Int) (b:Int)=mv.toNat.testBit b):=⟨by rw [List.getD_eq_getElem?_getD,hpb];rfl,hpb,by unfold metB;rw [Int.toNat_natCast,Int.toNat_natCast,List.getD_eq_getElem?_getD,hma];rfl⟩
   have g1:(0:Int)≤(a:Int)∧(a:Int)<(n:Int):=by omega
   have g2:(0:Int)≤(b:Int)∧(b:Int)<(n:Int):=by omega
   have g3:(0:Int)≤(j:Int)∧(j:Int)<((n-(k+1):Nat):Int):=by omega
   clear k6 k7 hx hma HIF
   by_cases hfree:0≤pv
   case pos=>
    have HN:Hid (tryP met f a (freeL (order.drop (k+1)) p) p b=none):=by
     show _=_
     unfold tryP
     rw [Int.toNat_natCast,HPB.out.1,if_neg (by simpa using hfree)]
    clear hpa hpb
    gi_wp2
    go_roundw
    case rel=>exact ⟨j+1,by omega,by go_num,HR.out.1,try_snoc HB.out HR.out.2 HN.out⟩
    case measure=>simp [intOf];omega
   cases hbit:mv.toNat.testBit b
   case true=>
    have HN:Hid (tryP met f a (freeL (order.drop (k+1)) p) p b=none):=by
     show _=_
     unfold tryP
     rw [HPB.out.2.2,hbit]
     split<;>rfl
    rw [hbit,if_pos rfl] at e1
    clear hbit hpa hpb
    gi_wp2
    go_roundw
    case rel=>exact ⟨j+1,by omega,by go_num,HR.out.1,try_snoc HB.out HR.out.2 HN.out⟩
    case measure=>simp [intOf];omega
   rw [hbit,if_neg (by simp)] at e1
   have HFREE:Hid (pa = -1∧pv = -1∧a≠b):=by
    refine ⟨?_,?_,?_⟩
    ·have h1:=HPL.out.2.2.2.2
     rw [List.getD_eq_getElem?_getD,hpa] at h1
     have h2:pa<0:=h1
     rcases HPL.out.2.2.2.1 pa (List.mem_of_getElem? hpa) with h|h<;>omega
    ·rcases HPL.out.2.2.2.1 pv (List.mem_of_getElem? hpb) with h|h<;>omega
    ·intro e
     have h1:=HK.out
     have h2:=HB.out
     rw [List.getElem?_drop,←e] at h2
     have hl:=(List.getElem?_eq_some_iff.1 h1).1
     have hl2:=(List.getElem?_eq_some_iff.1 h2).1
     have h3:=(List.getElem?_inj hl C.ond).1 (h1.trans h2.symm)
     omega
   have HBACK:Hid (((putP p (a:Int) (b:Int)).set a (-1)).set b (-1)=p):=putP_back HFREE.out.2.2 (by rw [hpa,HFREE.out.1]) (by rw [hpb,HFREE.out.2.1])
   have hbm:(b:Int)∈freeL (order.drop (k+1)) p:=List.mem_filter.2 ⟨List.mem_of_getElem? HB.out,by rw [Int.toNat_natCast,HPB.out.1];simpa using hfree⟩
   have HFP:=Lib.hid (freeL_put HPL.out.1 C.orr C.ond HPL.out.2.2.1 hbm)
   have HIH:Hid (∀m W,PaS W0 W lo gp (putP p (a:Int) (b:Int))→CallsIn Fence.wide m Tryz.prog 376 #[.pointer (some ⟨ob,0,none⟩),.pointer (some ⟨pb,0,none⟩),.pointer (some ⟨yb,0,none⟩),.pointer (some ⟨mb,0,none⟩),.pointer (some ⟨fb,0,none⟩)] W (fun e W'=>PaRes W0 lo gp l rv rb rc (putP p (a:Int) (b:Int)) e W' (pairF met f (freeL order (putP p (a:Int) (b:Int))) (putP p (a:Int) (b:Int))))):=fun m W h=>ih m W _ (by rw [putP_len];exact HPL.out.1) (fun y hy=>by
    unfold putP at hy
    rcases List.mem_or_eq_of_mem_set hy with hy|rfl
    ·rcases List.mem_or_eq_of_mem_set hy with hy|rfl
     ·exact HPL.out.2.2.2.1 y hy
     ·exact .inr (by omega)
    ·exact .inr (by omega)) (by
     rw [HFP.out,List.length_erase_of_mem hbm]
     have h1:=HPL.out.2.1
     rw [HPL.out.2.2.1,List.length_cons] at h1
     omega) h
   have HTRY:Hid (tryP met f a (freeL (order.drop (k+1)) p) p b=pairF met f (freeL order (putP p (a:Int) (b:Int))) (putP p (a:Int) (b:Int))):=by
    show _=_
    rw [HFP.out]
    unfold tryP
    rw [Int.toNat_natCast,HPB.out.1,if_pos (by simpa using hfree),HPB.out.2.2,hbit]
    rfl
   have hgpb:gp≠pb:=C.pbn.2.symm
   have hab:¬a=b:=HFREE.out.2.2
   have hba:¬b=a:=fun e=>hab e.symm
   have HAFT:Hid (∀W,PaS W0 W lo gp p→PaS W0 ((W.setCell ⟨gp,a,none⟩ (.int .i64 (b:Int))).setCell ⟨gp,b,none⟩ (.int .i64 (a:Int))).drew lo gp (putP p (a:Int) (b:Int))):=fun W h=>by
    have h2:=((h.set (i:=a) (b:Int)).set (i:=b) (a:Int)).drewN 1
    unfold putP
    rw [Int.toNat_natCast,Int.toNat_natCast]
    exact h2
   clear hbit hpa hpb hbm ih
   have HLOW:Hid (¬ 0≤pv):=hfree
   cases hres:pairF met f (freeL order (putP p (a:Int) (b:Int))) (putP p (a:Int) (b:Int)) with
   | none=>
    rw [hres] at HIH HTRY
    clear hres
    gi_wp2_with fail
    gi_region
    have H2:=Lib.hid (HAFT.out wr HR.out.1)
    generalize ((wr.setCell ⟨gp,a,none⟩ (.int .i64 (b:Int))).setCell ⟨gp,b,none⟩ (.int .i64 (a:Int))).drew=w4 at *
    clear k1 k2 k3 k4 k5 cb cpb fpb cpa fpa cm_ e1
    obtain ⟨k1,k2,k3,k4,k5,-,-⟩:=H2.out.cells C
    obtain ⟨za,hza⟩:∃y,(putP p (a:Int) (b:Int))[a]? = some y:=⟨_,List.getElem?_eq_getElem (by rw [putP_len,HPL.out.1];omega)⟩
    obtain ⟨zb,hzb⟩:∃y,(putP p (a:Int) (b:Int))[b]? = some y:=⟨_,List.getElem?_eq_getElem (by rw [putP_len,HPL.out.1];omega)⟩
    have HZ:=Lib.hid (And.intro hza hzb)
    clear hza hzb
    gi_wp2_with (first
     | ((first|refine ⟨trivial,fun h=>(by cases h),?_⟩|refine ⟨fun h=>(by cases h),?_⟩|skip);refine (HIH.out _ _ H2.out).mono ?_;rintro e w5 ⟨rfl,H5⟩;have H5:=Lib.hid H5;have k3:=(H5.out.cells C).2.2.1;obtain ⟨cza,fza⟩:=row_cell H5.out.row HZ.out.1;obtain ⟨czb,fzb⟩:=row_cell H5.out.row HZ.out.2)
     )
    gi_region
    have H6:Hid (PaS W0 ((w5.setCell ⟨gp,a,none⟩ (.int .i64 (-1))).setCell ⟨gp,b,none⟩ (.int .i64 (-1))).drew lo gp p):=by
     have h:=((H5.out.set (i:=a) (-1)).set (i:=b) (-1)).drewN 1
     rw [HBACK.out] at h
     exact h
    generalize ((w5.setCell ⟨gp,a,none⟩ (.int .i64 (-1))).setCell ⟨gp,b,none⟩ (.int .i64 (-1))).drew=w6 at *
    gi_wp2
    go_roundw
    case rel=>exact ⟨j+1,by omega,by go_num,H6.out,try_snoc HB.out HR.out.2 HTRY.out⟩
    case measure=>simp [intOf];omega
   | some best=>
    rw [hres] at HIH HTRY
    clear hres
    gi_wp2_with fail
    gi_region
    have H2:=Lib.hid (HAFT.out wr HR.out.1)
    generalize ((wr.setCell ⟨gp,a,none⟩ (.int .i64 (b:Int))).setCell ⟨gp,b,none⟩ (.int .i64 (a:Int))).drew=w4 at *
    clear k1 k2 k3 k4 k5 cb cpb fpb cpa fpa cm_ e1
    obtain ⟨k1,k2,k3,k4,k5,-,-⟩:=H2.out.cells C
    obtain ⟨za,hza⟩:∃y,(putP p (a:Int) (b:Int))[a]? = some y:=⟨_,List.getElem?_eq_getElem (by rw [putP_len,HPL.out.1];omega)⟩
    obtain ⟨zb,hzb⟩:∃y,(putP p (a:Int) (b:Int))[b]? = some y:=⟨_,List.getElem?_eq_getElem (by rw [putP_len,HPL.out.1];omega)⟩
    have HZ:=Lib.hid (And.intro hza hzb)
    clear hza hzb
    gi_wp2_with (first
     | ((first|refine ⟨trivial,fun h=>(by cases h),?_⟩|refine ⟨fun h=>(by cases h),?_⟩|skip);refine (HIH.out _ _ H2.out).mono ?_;rintro e w5 ⟨rfl,vb,H5⟩;have H5:=Lib.hid H5;have k3:=(cell_heap (o:=0) (H5.out.fix pb C.pbn.1 C.pbn.2 C.pbx.1 C.pbx.2.1 C.pbx.2.2)).trans C.cpb;obtain ⟨cza,fza⟩:=row_cell H5.out.row HZ.out.1;obtain ⟨czb,fzb⟩:=row_cell H5.out.row HZ.out.2)
     )
    gi_region
    have H6:Hid (PaT W0 ((w5.setCell ⟨gp,a,none⟩ (.int .i64 (-1))).setCell ⟨gp,b,none⟩ (.int .i64 (-1))).drew lo gp l rv rb rc p best vb):=by
     have h:=((H5.out.set C.gp1 C.ne (i:=a) (-1)).set C.gp1 C.ne (i:=b) (-1)).drewN 1
     rw [HBACK.out] at h
     exact h
    generalize ((w5.setCell ⟨gp,a,none⟩ (.int .i64 (-1))).setCell ⟨gp,b,none⟩ (.int .i64 (-1))).drew=w6 at *
    gi_wp2
    go_ret
    rw [HFR.out _ (try_hit HB.out HR.out.2 HTRY.out)]
    exact ⟨rfl,vb,H6.out⟩
end Go.Proofs.YtkapoldjcpfdgaaGreatDoor
