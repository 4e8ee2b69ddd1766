/- Integers as texts: the reference's contract. -/
import Derived.Sort.OwnSortedInts
import Derived.Lib.ItoaNum
import Derived.Lib.ItoaLen
import Derived.Lib.ItoaMem
import Derived.Below
import Derived.Laws.IdiomStrings
import Derived.Laws.Concat
import Derived.Test.YtkapoldjcpfdgaaGreatDoorMap
import Derived.Test.YtkapoldjcpfdgaaGreatDoorMaq
set_option maxHeartbeats 8000000
set_option maxRecDepth 100000
namespace Go.Proofs.YtkapoldjcpfdgaaGreatDoor
open Go.ChangeShapes Go.WideShapes Go.ChangeAt Go.RowKit
def rzKey (sc:List Int) (a:Int):Int:=-(sc.getD a.toNat 0*16+a)
def rzStep (p:Int) (rest:List Int) (ws:List Int × List Int):Nat→List Int × List Int
 | 0=>ws
 | k+1=>
  let q:=rzStep p rest ws k
  let l:=rest.getD k 0
  if (k:Int)<q.2.getD p.toNat 0 then (q.1.set p.toNat (orN (q.1.getD p.toNat 0) l.toNat),q.2)
  else (q.1.set l.toNat (orN (q.1.getD l.toNat 0) p.toNat),q.2.set l.toNat (q.2.getD l.toNat 0-1))
def rzRun:Nat→List Int→List Int × List Int→List Int × List Int
 | 0,_,q=>q
 | f+1,left,q=>match insF (rzKey q.2) left with
  | []=>q
  | p :: rest=>rzRun f rest (rzStep p rest q rest.length)
def sortI (xs:List Int):List Int:=xs.mergeSort fun x y=>decide (x≤y)
def rzF (sc:List Int):Option TourV:=if landB (sortI sc) then some ⟨sc.length,(rzRun sc.length (idxs sc.length) (List.replicate sc.length 0,sc)).1⟩ else none
theorem rzStep_len (p:Int) (rest:List Int) (ws:List Int × List Int):∀k,(rzStep p rest ws k).1.length=ws.1.length∧(rzStep p rest ws k).2.length=ws.2.length
 | 0=>⟨rfl,rfl⟩
 | k+1=>by
  obtain ⟨h1,h2⟩:=rzStep_len p rest ws k
  rw [rzStep]
  split
  ·exact ⟨by rw [List.length_set,h1],h2⟩
  ·exact ⟨by rw [List.length_set,h1],by rw [List.length_set,h2]⟩
theorem sortI_len (xs:List Int):(sortI xs).length=xs.length:=by unfold sortI;rw [List.length_mergeSort]
theorem sortI_any (w:World) (lo hi c:Nat) (A:Option Addr) (xs:List Int) (hf:Fr w lo hi (.slice A xs.length c) xs) (hn:xs.length≤1048576):
  Calls Tryz.prog 155 #[.slice A xs.length c] w fun e w'=>e=.returned (.tuple #[])∧Fr w' lo w'.heap.size (.slice A xs.length c) (sortI xs)∧Below lo w w':=by
 rcases hf.1.2 with ⟨e,h0⟩|⟨g,cap,cur,e,h1,h2,h3,h4,h5,h6⟩
 ·have hx:xs = []:=List.eq_nil_of_length_eq_zero h0
  subst hx
  refine (Tryz.slices_Sort_int_none A c w).mono ?_
  rintro e w' ⟨rfl,rfl⟩
  exact ⟨rfl,by rw [show sortI [] = [] from by unfold sortI;simp];exact hf.wide (Nat.le_refl _) hf.2.2 (Nat.le_refl _),Below.refl _ _⟩
 ·injection e with e1 e2 e3
  subst e1;subst e3
  have h6':cur.toList.take xs.length=xs.map (Value.int .i64):=by rw [←Nat.mul_one xs.length];exact h6
  have hg:=(Array.getElem?_eq_some_iff.1 h2).1
  refine (Tryz.slices_Sort_int g 0 c xs w (Go.holds_of_blockI h2 h6') hg (by omega)).mono ?_
  rintro e w' ⟨rfl,n,os,rfl⟩
  have ho:=Go.ownsRow_sortedI (n:=n) (os:=os) (ss:=xs) (ts:=sortI xs) (base:=lo) (cap:=c) (sortI_len xs) h1 h2 h3 h4 h5
  have hgr:=Go.grownBy_sortedI (w:=w) (g:=g) (n:=n) (os:=os) (sortI xs).toArray
  refine ⟨rfl,?_,hgr.os,hgr.tape,hgr.output,hgr.size,fun k hk=>hgr.block k (by omega) (by intro e;injection e with e;omega)⟩
  have:=Fr.of_own (xs:=sortI xs) (by rw [sortI_len];exact ho)
  exact this
theorem slI_new2 (w:World) (a b:Int):SlI (w.alloc (.cells #[.int .i64 a,.int .i64 b] 3)) (some ⟨w.heap.size,0,none⟩) [a,b]:=by
 refine .inr ⟨_,_,rfl,fun k x hk=>?_⟩
 match k,hk with
 | 0,hk=>simp at hk;subst hk;simp
 | 1,hk=>simp at hk;subst hk;simp
theorem rzKey_lt {sc:List Int}{a b:Nat}{x y:Int} (hx:sc.getD a 0=x) (hy:sc.getD b 0=y) (ha:a<16) (hb:b<16):orL [cmpI x y,cmpI a b]<0↔rzKey sc b<rzKey sc a:=by
 unfold rzKey cmpI
 rw [Int.toNat_natCast,Int.toNat_natCast,hx,hy]
 simp only [orL]
 repeat' split
 all_goals omega
theorem realize1_any (A:Option Addr) (n c bq:Nat) (sc:List Int) (a b:Nat) (W:World) (ha:a<n) (hb:b<n) (hl:sc.length=n) (hn:n≤16) (hs:SlI W A sc) (q0:W.cell? ⟨bq,0,none⟩=some (.slice A n c)):
  Calls Tryz.prog 158 #[.int .i64 (a:Int),.int .i64 (b:Int),.pointer (some ⟨bq,0,none⟩)] W fun e W'=>∃c:Int,e=.returned (.int .i64 c)∧(c<0↔rzKey sc b<rzKey sc a)∧Below W.heap.size W W':=by
 obtain ⟨g,o,x,e,hx,cx,-⟩:=hs.at_ (k:=a) (by omega)
 subst e
 obtain ⟨g2,o2,y,e,hy,cy,-⟩:=hs.at_ (k:=b) (by omega)
 injection e with e;injection e with e1 e2;subst e1;subst e2
 have HL:=Lib.hid (rzKey_lt (sc:=sc) (a:=a) (b:=b) (x:=x) (y:=y) (by rw [List.getD_eq_getElem?_getD,hx];rfl) (by rw [List.getD_eq_getElem?_getD,hy];rfl) (by omega) (by omega))
 have f1:(0:Int)≤(a:Int)∧(a:Int)<(n:Int):=by omega
 have f2:(0:Int)≤(b:Int)∧(b:Int)<(n:Int):=by omega
 clear hx hy hs ha hb hl
 have HC:Hid (∀m,Calls Tryz.prog 160 #[.int .i64 x,.int .i64 y] (W.drewN m) fun e w'=>e=.returned (.int .i64 (cmpI x y))∧∃m',w'=(W.drewN m).drewN m'):=fun m=>(cmpCompare_any x y _).mono fun e w' ⟨h1,h2⟩=>⟨h1,0,h2.symm⟩
 have HD:Hid (∀m,Calls Tryz.prog 160 #[.int .i64 (a:Int),.int .i64 (b:Int)] (W.drewN m) fun e w'=>e=.returned (.int .i64 (cmpI a b))∧∃m',w'=(W.drewN m).drewN m'):=fun m=>(cmpCompare_any a b _).mono fun e w' ⟨h1,h2⟩=>⟨h1,0,h2.symm⟩
 have HO:Hid (∀W w2,w2=(W:World).alloc (.cells #[.int .i64 (cmpI x y),.int .i64 (cmpI a b)] 3)→∀k,Calls Tryz.prog 159 #[.slice (some ⟨W.heap.size,0,none⟩) 2 k] w2 fun e w'=>e=.returned (.int .i64 (orL [cmpI x y,cmpI a b]))∧w2=w'):=fun W w2 h k=>by
  subst h
  exact cmpOr_any _ k [cmpI x y,cmpI a b] _ (slI_new2 W _ _) (by simp)
 generalize cmpI x y=z1 at *
 generalize cmpI (a:Int) (b:Int)=z2 at *
 go_enter Tryz.func158,Tryz.ntmps158
 go_wp2_with fail
 refine region_quiet_tail 12 (by kernel_rfl) (by kernel_rfl) ?_
 simp only [List.take_succ_cons,List.take_zero,List.drop_succ_cons,List.drop_zero]
 repeat (go_big_quiet_step (first|(go_at_call 160;with_reducible exact Calls.quiet_of (HC.out _))|(go_at_call 160;with_reducible exact Calls.quiet_of (HD.out _))))
 refine wpQuiet_nil ?_
 intro _ hw'
 obtain ⟨nq,hw''⟩:=hw'
 subst hw''
 have HB:Hid (Below W.heap.size W (W.drewN nq)):=below_of_drewN _ W nq
 generalize W.drewN nq=w1 at *
 go_wp2_with (go_at_call 159;refine (HO.out w1 _ rfl _).mono ?_;rintro e w3 ⟨rfl,rfl⟩)
 go_ret
 exact ⟨_,rfl,HL.out,HB.out.alloc HB.out.size _⟩
structure RzA (w W:World) (b5 b6 gw gs gl n cs cl:Nat) (wins sc row:List Int):Prop where
 rs:RsAt w W w.heap.size
 bx:Bx W b5 (.int .i64 (n:Int)) (.slice (some ⟨gw,0,none⟩) n n)
 c6:W.cell? ⟨b6,0,none⟩=some (.slice (some ⟨gs,0,none⟩) n cs)
 l6:b6<W.heap.size
 fw:Fr W gw (gw+1) (.slice (some ⟨gw,0,none⟩) n n) wins
 fs:Fr W gs (gs+1) (.slice (some ⟨gs,0,none⟩) n cs) sc
 fl:Fr W gl (gl+1) (.slice (some ⟨gl,0,none⟩) n cl) row
 lw:w.heap.size<gw∧w.heap.size<gs∧w.heap.size<gl
 ne:gw≠gs∧gw≠gl∧gs≠gl
 n5:b5≠gw∧b5≠gs∧b5≠gl
 n6:b6≠gw∧b6≠gs∧b6≠gl
theorem RsAt.keepK {w W W2:World}{r k:Nat} (h:RsAt w W r) (K:Keep k (k+1) W W2) (hk:r<k):RsAt w W2 r:=
 ⟨(K.cell (p:=⟨r,0,none⟩) h.lt (.inl hk)).trans h.z0,(K.cell (p:=⟨r,1,none⟩) h.lt (.inl hk)).trans h.z1,(K.frozen (p:=⟨r,0,none⟩) h.lt (.inl hk)).trans h.f0,(K.frozen (p:=⟨r,1,none⟩) h.lt (.inl hk)).trans h.f1,Nat.lt_of_lt_of_le h.lt K.size,h.lo,h.be.trans (K.below (by have:=h.lo;omega) h.be.size)⟩
theorem RzA.chg {w W W2:World}{b5 b6 gw gs gl n cs cl k:Nat}{wins sc row wins' sc' row':List Int} (h:RzA w W b5 b6 gw gs gl n cs cl wins sc row) (hk:w.heap.size<k) (h5:k≠b5) (h6:k≠b6) (K:Keep k (k+1) W W2)
  (fw':Fr W2 gw (gw+1) (.slice (some ⟨gw,0,none⟩) n n) wins') (fs':Fr W2 gs (gs+1) (.slice (some ⟨gs,0,none⟩) n cs) sc') (fl':Fr W2 gl (gl+1) (.slice (some ⟨gl,0,none⟩) n cl) row'):RzA w W2 b5 b6 gw gs gl n cs cl wins' sc' row':=
 ⟨h.rs.keepK K hk,h.bx.keep K (by omega),(K.cell (p:=⟨b6,0,none⟩) h.l6 (by show b6<k∨k+1≤b6;omega)).trans h.c6,Nat.lt_of_lt_of_le h.l6 K.size,fw',fs',fl',h.lw,h.ne,h.n5,h.n6⟩
theorem RzA.setW {w W:World}{b5 b6 gw gs gl n cs cl j:Nat}{wins sc row:List Int} (h:RzA w W b5 b6 gw gs gl n cs cl wins sc row) (hj:j<wins.length):
  ∃z,wins[j]? = some z∧W.cell? ⟨gw,j,none⟩=some (.int .i64 z)∧W.frozen? ⟨gw,j,none⟩=false∧∀y,RzA w (W.setCell ⟨gw,j,none⟩ (.int .i64 y)) b5 b6 gw gs gl n cs cl (wins.set j y) sc row:=by
 obtain ⟨g,z,e,_,_,hz,c,f,s⟩:=h.fw.at_ (k:=j) hj
 injection e with e
 injection e with e
 subst e
 refine ⟨z,hz,c,f,fun y=>?_⟩
 obtain ⟨F,K⟩:=s y
 have N:=h.ne
 exact h.chg h.lw.1 h.n5.1.symm h.n6.1.symm K F (h.fs.keep K (by omega)) (h.fl.keep K (by omega))
theorem RzA.setS {w W:World}{b5 b6 gw gs gl n cs cl j:Nat}{wins sc row:List Int} (h:RzA w W b5 b6 gw gs gl n cs cl wins sc row) (hj:j<sc.length):
  ∃z,sc[j]? = some z∧W.cell? ⟨gs,j,none⟩=some (.int .i64 z)∧W.frozen? ⟨gs,j,none⟩=false∧∀y,RzA w (W.setCell ⟨gs,j,none⟩ (.int .i64 y)) b5 b6 gw gs gl n cs cl wins (sc.set j y) row:=by
 obtain ⟨g,z,e,_,_,hz,c,f,s⟩:=h.fs.at_ (k:=j) hj
 injection e with e
 injection e with e
 subst e
 refine ⟨z,hz,c,f,fun y=>?_⟩
 obtain ⟨F,K⟩:=s y
 have N:=h.ne
 exact h.chg h.lw.2.1 h.n5.2.1.symm h.n6.2.1.symm K (h.fw.keep K (by omega)) F (h.fl.keep K (by omega))
theorem RzA.sort {w W W2:World}{b5 b6 gw gs gl n cs cl:Nat}{wins sc row row':List Int} (h:RzA w W b5 b6 gw gs gl n cs cl wins sc row) (K:Keep gl (gl+1) W W2) (F:Fr W2 gl (gl+1) (.slice (some ⟨gl,0,none⟩) n cl) row'):RzA w W2 b5 b6 gw gs gl n cs cl wins sc row':=by
 have N:=h.ne
 exact h.chg h.lw.2.2 h.n5.2.2.symm h.n6.2.2.symm K (h.fw.keep K (by omega)) (h.fs.keep K (by omega)) F
theorem RzA.drewN {w W:World}{b5 b6 gw gs gl n cs cl:Nat}{wins sc row:List Int} (h:RzA w W b5 b6 gw gs gl n cs cl wins sc row) (q:Nat):RzA w (W.drewN q) b5 b6 gw gs gl n cs cl wins sc row:=by
 have K:∀k,Keep k (k+1) W (W.drewN q):=fun k=>Keep.of_below (below_of_drewN W.heap.size W q) (Nat.le_refl _)
 have N:=h.ne
 exact h.sort (K gl) (h.fl.below (below_of_drewN _ W q) h.fl.2.2)
theorem Fr.one {w:World}{lo hi g n c:Nat}{xs:List Int} (h:Fr w lo hi (.slice (some ⟨g,0,none⟩) n c) xs):Fr w g (g+1) (.slice (some ⟨g,0,none⟩) n c) xs:=by
 obtain ⟨⟨h1,h2⟩,h3,h4⟩:=h
 have hg:=h3 g rfl
 refine ⟨⟨h1,?_⟩,fun g' hg'=>by simp only [Value.ownBlock,Option.some.injEq] at hg';omega,by omega⟩
 rcases h2 with ⟨e,_⟩|⟨g',cap,cur,e,q1,q2⟩
 ·cases e
 ·refine .inr ⟨g',cap,cur,e,?_,q2⟩
  injection e with e
  injection e with e
  injection e with e
  omega
theorem rzA_start {w w3 w5 w6:World}{n gs gl cs cl:Nat}{sc:List Int} (hn:n≤1048576) (h3:RsAt w w3 w.heap.size)
  (hf5:Fr w5 ((w3.alloc (mkO n)).alloc (.cells #[.int .i64 (n:Int),.slice (some ⟨w3.heap.size,0,none⟩) n n] 27)).heap.size w5.heap.size (.slice (some ⟨gs,0,none⟩) n cs) sc) (hb5:Below ((w3.alloc (mkO n)).alloc (.cells #[.int .i64 (n:Int),.slice (some ⟨w3.heap.size,0,none⟩) n n] 27)).heap.size ((w3.alloc (mkO n)).alloc (.cells #[.int .i64 (n:Int),.slice (some ⟨w3.heap.size,0,none⟩) n n] 27)) w5)
  (hf6:Fr w6 w5.heap.size w6.heap.size (.slice (some ⟨gl,0,none⟩) n cl) (idxs n)) (hb6:Below w5.heap.size w5 w6):
  RzA w (w6.alloc (.cells #[.slice (some ⟨gs,0,none⟩) n cs] 25)) (w3.heap.size+1) w6.heap.size w3.heap.size gs gl n cs cl (List.replicate n 0) sc (idxs n):=by
 have f1:=fr_mkO hn w3
 obtain ⟨W1,e1⟩:∃W1,W1=w3.alloc (mkO n):=⟨_,rfl⟩
 have z1:W1.heap.size=w3.heap.size+1:=by rw [e1];exact World.size_alloc _ _
 have b1:Below w3.heap.size w3 W1:=by rw [e1];exact (Below.refl _ w3).alloc (Nat.le_refl _) _
 rw [←e1] at hf5 hb5 f1
 obtain ⟨W2,e2⟩:∃W2,W2=W1.alloc (.cells #[.int .i64 (n:Int),.slice (some ⟨w3.heap.size,0,none⟩) n n] 27):=⟨_,rfl⟩
 have z2:W2.heap.size=w3.heap.size+2:=by rw [e2,World.size_alloc,z1]
 have b2:Below W1.heap.size W1 W2:=by rw [e2];exact (Below.refl _ W1).alloc (Nat.le_refl _) _
 have hx:Bx W2 (w3.heap.size+1) (.int .i64 (n:Int)) (.slice (some ⟨w3.heap.size,0,none⟩) n n):=by rw [e2,←z1];exact ⟨by simp,by simp,by simp⟩
 rw [←e2] at hf5 hb5
 have hw:=h3.lt
 have s5:=hb5.size
 have s6:=hb6.size
 have g5:=(hf5.1.lt gs rfl)
 have g5':=hf5.2.1 gs rfl
 have g6:=(hf6.1.lt gl rfl)
 have g6':=hf6.2.1 gl rfl
 have b7:Below w6.heap.size w6 (w6.alloc (.cells #[.slice (some ⟨gs,0,none⟩) n cs] 25)):=(Below.refl _ w6).alloc (Nat.le_refl _) _
 have r6:=((((h3.below b1).below b2).below hb5).below hb6).below b7
 have x6:=((hx.below hb5).below hb6).below b7
 have fw:=((((f1.below b2 (Nat.le_refl _)).below hb5 (by omega)).below hb6 (by omega)).below b7 (by omega)).one
 have fs:=((hf5.below hb6 (Nat.le_refl _)).below b7 s6).one
 have fl:=(hf6.below b7 (Nat.le_refl _)).one
 exact ⟨r6,x6,by simp,by simp,fw,fs,fl,⟨by omega,by omega,by omega⟩,⟨by omega,by omega,by omega⟩,⟨by omega,by omega,by omega⟩,⟨by omega,by omega,by omega⟩⟩
def lenS:Value→Nat
 | .slice _ n _=>n
 | _=>0
theorem rzStep_bd {p:Int}{rest wins sc:List Int}{n:Nat}{d:Int} (hn:n≤8) (hp:0≤p∧p<n) (hrr:∀y∈rest,0≤y∧y<n) (hw:∀y∈wins,0≤y∧y≤255) (hs:∀y∈sc,-d≤y∧y≤8) (hwl:wins.length=n) (hsl:sc.length=n):∀k,k≤rest.length →
  (∀y∈(rzStep p rest (wins,sc) k).1,0≤y∧y≤255)∧∀y∈(rzStep p rest (wins,sc) k).2,-d-k≤y∧y≤8
 | 0,_=>⟨hw,fun y hy=>by have:=hs y hy;omega⟩
 | k+1,hk=>by
  obtain ⟨h1,h2⟩:=rzStep_bd hn hp hrr hw hs hwl hsl k (by omega)
  obtain ⟨l1,l2⟩:=rzStep_len p rest (wins,sc) k
  have hl:=hrr (rest.getD k 0) (by rw [List.getD_eq_getElem?_getD,List.getElem?_eq_getElem (by omega)];exact List.getElem_mem _)
  rw [rzStep]
  have gd:∀(L:List Int) (j:Int),L.length=n→0≤j∧j<n→L.getD j.toNat 0∈L:=fun L j h3 h4=>by
   rw [List.getD_eq_getElem?_getD,List.getElem?_eq_getElem (by omega)];exact List.getElem_mem _
  split
  ·refine ⟨fun y hy=>?_,fun y hy=>by have:=h2 y hy;omega⟩
   rcases List.mem_or_eq_of_mem_set hy with hy|rfl
   ·exact h1 y hy
   ·have h5:=h1 _ (gd _ p (by rw [l1];exact hwl) hp)
    exact (or_at (b:=(rest.getD k 0).toNat) h5.1 h5.2 (by omega)).2
  ·refine ⟨fun y hy=>?_,fun y hy=>?_⟩
   ·rcases List.mem_or_eq_of_mem_set hy with hy|rfl
    ·exact h1 y hy
    ·have h5:=h1 _ (gd _ (rest.getD k 0) (by rw [l1];exact hwl) hl)
     exact (or_at (b:=p.toNat) h5.1 h5.2 (by omega)).2
   ·rcases List.mem_or_eq_of_mem_set hy with hy|rfl
    ·have:=h2 y hy;omega
    ·have h5:=h2 _ (gd _ (rest.getD k 0) (by rw [l2];exact hsl) hl)
     omega
theorem realize_go (A:Option Addr) (c n:Nat) (sc:List Int) (w:World) (hs:SlI w A sc) (hn:sc.length=n) (hn1:1≤n) (hn8:n≤8) (hld:landB (sortI sc)=true) (hr:∀y∈sc,0≤y∧y≤8):
  Calls Tryz.prog 72 #[.slice A n c] w fun e w'=>TR w e w' (some ⟨(n:Int),(rzRun n (idxs n) (List.replicate n 0,sc)).1⟩):=by
 have H0:Hid (RsAt w (w.alloc (.cells #[.int .i64 0,.slice none 0 0] 27)) w.heap.size):=RsAt.start (Below.refl _ w)
 have HCL:Hid (∀W,Below w.heap.size w W→Calls Tryz.prog 59 #[.slice A n c] W fun e w'=>∃g c',e=.returned (.slice (some ⟨g,0,none⟩) n c')∧Fr w' W.heap.size w'.heap.size (.slice (some ⟨g,0,none⟩) n c') sc∧Below W.heap.size W w'):=fun W hW=>by
  have h:=cloneI_any A c sc W (hs.below hW) (by omega)
  rw [hn] at h
  refine h.mono fun e w' ⟨A',c',he,hf,hb⟩=>?_
  obtain ⟨g,y,rfl,-⟩:=hf.at_ (k:=0) (by omega)
  exact ⟨g,c',he,hf,hb⟩
 have HSO:Hid (∀W lo hi g c',Fr W lo hi (.slice (some ⟨g,0,none⟩) n c') sc→Calls Tryz.prog 155 #[.slice (some ⟨g,0,none⟩) n c'] W fun e w'=>e=.returned (.tuple #[])∧Fr w' lo w'.heap.size (.slice (some ⟨g,0,none⟩) n c') (sortI sc)∧Below lo W w'):=fun W lo hi g c' hf=>by
  have h:=sortI_any W lo hi c' (some ⟨g,0,none⟩) sc (by rw [hn];exact hf) (by omega)
  rw [hn] at h;exact h
 have HLA:Hid (∀W B d,SlI W B (sortI sc)→Calls Tryz.prog 156 #[.slice B n d] W fun e w'=>e=.returned (.bool true)∧Below W.heap.size W w'):=fun W B d h=>by
  have h2:=implIsLandau_any B d (sortI sc) W h (by rw [sortI_len];omega)
  rw [sortI_len,hn,hld] at h2;exact h2
 have HIX:Hid (∀W,Calls Tryz.prog 157 #[.int .i64 (n:Int)] W fun e w'=>∃g c',e=.returned (.slice (some ⟨g,0,none⟩) n c')∧Fr w' W.heap.size w'.heap.size (.slice (some ⟨g,0,none⟩) n c') (idxs n)∧Below W.heap.size W w'):=fun W=>by
  refine (indices_any n W (by omega)).mono fun e w' ⟨v',he,hf,hb⟩=>?_
  obtain ⟨A',c',rfl,_,_⟩:=hf.form
  obtain ⟨g,y,rfl,_⟩:=hf.at_ (k:=0) (by rw [idxs_length];omega)
  rw [idxs_length] at he hf
  exact ⟨g,c',he,hf,hb⟩
 have hmk:=run_mkI (n:=n) (by omega)
 have HZ0:Hid ((w.alloc (.cells #[.int .i64 0,.slice none 0 0] 27)).heap.size=w.heap.size+1):=World.size_alloc _ _
 clear hs hld
 go_enter Tryz.func72,Tryz.ntmps72
 go_upto_region 1 with fail
 generalize w.alloc (.cells #[.int .i64 0,.slice none 0 0] 27)=w0 at *
 go_wp2_with (first
  | (go_at_call 59;refine (HCL.out _ H0.out.be).mono ?_;rintro e w1 ⟨g1,c1,rfl,hf1,hb1⟩;have F1:=Lib.hid (And.intro hf1 hb1);clear hf1 hb1)
  | (go_at_call 155;refine (HSO.out _ _ _ _ _ F1.out.1).mono ?_;rintro e w2 ⟨rfl,hf2,hb2⟩;have F2:Hid (Fr w2 w0.heap.size w2.heap.size (.slice (some ⟨g1,0,none⟩) n c1) (sortI sc)∧Below w0.heap.size w0 w2):=⟨hf2,F1.out.2.trans hb2⟩;clear hf2 hb2 F1)
  | (go_at_call 156;refine (HLA.out _ _ _ F2.out.1.sl).mono ?_;rintro e w3 ⟨rfl,hb3⟩;have F3:Hid (Below w0.heap.size w0 w3):=F2.out.2.trans (hb3.mono F2.out.2.size);clear hb3 F2)
  | (go_at_call 59;refine (HCL.out _ ((H0.out.below F3.out).be.trans ((((Below.refl _ w3).alloc (Nat.le_refl _) _).alloc (by simp) _).mono (H0.out.below F3.out).be.size))).mono ?_;rintro e w5 ⟨gs,cs,rfl,hf5,hb5⟩;have F5:=Lib.hid (And.intro hf5 hb5);clear hf5 hb5)
  | (go_at_call 157;refine (HIX.out _).mono ?_;rintro e w6 ⟨gl,cl,rfl,hf6,hb6⟩;have F6:=Lib.hid (rzA_start (n:=n) (by omega) (H0.out.below F3.out) F5.out.1 F5.out.2 hf6 hb6);clear hf6 hb6 F5))
 generalize w6.alloc (.cells #[.slice (some ⟨gs,0,none⟩) n cs] 25)=wz at *
 obtain ⟨b5,hb5⟩:∃b,w3.heap.size+1=b:=⟨_,rfl⟩
 obtain ⟨b6,hb6⟩:∃b,w6.heap.size=b:=⟨_,rfl⟩
 obtain ⟨gw,hgw⟩:∃b,w3.heap.size=b:=⟨_,rfl⟩
 rw [hb5,hb6,hgw] at F6
 rw [hb5,hb6,hgw]
 clear hb5 hb6 hgw F3 HCL HSO HLA HIX hmk
 have HCLF:Hid (n≤cl∧cl≤9223372036854775807):=by
  obtain ⟨A',c',e,h1,h2⟩:=F6.out.fl.form
  injection e with e1 e2 e3
  subst e3
  rw [idxs_length] at h1
  exact ⟨h1,h2⟩
 go_loopw [7] (fun v7 wr=>∃(o m c7:Nat) (Ad:Option Addr) (pre left wins sc':List Int),v7=.slice Ad m c7∧(0<m→Ad=some ⟨gl,o,none⟩)∧m≤c7∧c7≤9223372036854775807∧Hid (RzA w wr b5 b6 gw gs gl n cs cl wins sc' (pre++left)∧pre.length=o∧left.length=m∧rzRun m left (wins,sc')=rzRun n (idxs n) (List.replicate n 0,sc)∧(∀y∈left,0≤y∧y<n)∧(∀y∈wins,0≤y∧y≤255)∧(∀y∈sc',-(8*(o:Int))≤y∧y≤8)∧wins.length=n∧sc'.length=n∧o+m=n)) (fun v7 _=>lenS v7)
 case atStart=>exact ⟨0,n,cl,some ⟨gl,0,none⟩,[],idxs n,List.replicate n 0,sc,rfl,fun _=>rfl,HCLF.out.1,HCLF.out.2,F6.out,rfl,by rw [idxs_length],rfl,fun y hy=>idxs_mem.1 hy,fun y hy=>by rw [List.eq_of_mem_replicate hy];omega,fun y hy=>by have:=hr y hy;omega,by simp,hn,by omega⟩
 case round=>
  obtain ⟨o,m,c7,Ad,pre,left,wins,sc',rfl,hAd,hm7,hc7,HR⟩:=hrel
  clear F6
  cases m with
  | zero=>
   have HE:Hid (wins=(rzRun n (idxs n) (List.replicate n 0,sc)).1):=by
    show _=_
    rw [←HR.out.2.2.2.1];rfl
   obtain ⟨z0,z1,f0,f1,-⟩:=id HR.out.1.rs
   obtain ⟨x0,x1,-⟩:=HR.out.1.bx
   have HST:Hid (∃A c,(Value.agg #[.int .i64 (n:Int),.slice (some ⟨gw,0,none⟩) n n])=.agg #[.int .i64 (n:Int),.slice A n c]∧OwT ((wr.setCell ⟨w.heap.size,0,none⟩ (.int .i64 (n:Int))).setCell ⟨w.heap.size,1,none⟩ (.slice A n c)) w.heap.size ((wr.setCell ⟨w.heap.size,0,none⟩ (.int .i64 (n:Int))).setCell ⟨w.heap.size,1,none⟩ (.slice A n c)).heap.size (.agg #[.int .i64 (n:Int),.slice (some ⟨gw,0,none⟩) n n]) ⟨(n:Int),wins⟩ ∧
     Below w.heap.size w ((wr.setCell ⟨w.heap.size,0,none⟩ (.int .i64 (n:Int))).setCell ⟨w.heap.size,1,none⟩ (.slice A n c))):=by
    have h:=HR.out.1.rs.store (W0:=w0) (v:=.agg #[.int .i64 (n:Int),.slice (some ⟨gw,0,none⟩) n n]) (z:=⟨(n:Int),wins⟩) (by rw [HZ0.out];exact Nat.le_refl _) ⟨_,rfl,HR.out.1.fw.wide (by rw [HZ0.out];exact HR.out.1.lw.1) HR.out.1.fw.2.2 (Nat.le_refl _)⟩
    simp only [HR.out.2.2.2.2.2.2.2.1] at h
    exact h
   have HST2:Hid (OwT ((wr.setCell ⟨w.heap.size,0,none⟩ (.int .i64 (n:Int))).setCell ⟨w.heap.size,1,none⟩ (.slice (some ⟨gw,0,none⟩) n n)) w.heap.size ((wr.setCell ⟨w.heap.size,0,none⟩ (.int .i64 (n:Int))).setCell ⟨w.heap.size,1,none⟩ (.slice (some ⟨gw,0,none⟩) n n)).heap.size (.agg #[.int .i64 (n:Int),.slice (some ⟨gw,0,none⟩) n n]) ⟨(n:Int),wins⟩ ∧
     Below w.heap.size w ((wr.setCell ⟨w.heap.size,0,none⟩ (.int .i64 (n:Int))).setCell ⟨w.heap.size,1,none⟩ (.slice (some ⟨gw,0,none⟩) n n))):=by
    obtain ⟨A',c',e,h1,h2⟩:=HST.out
    injection e with e
    have e2:(Value.slice (some ⟨gw,0,none⟩) n n)=.slice A' n c':=by
     have:=congrArg (fun a:Array Value=>a[1]?) e
     simpa using this
    injection e2 with e3 _ e4
    subst e3;subst e4
    exact ⟨h1,h2⟩
   clear HST
   go_wp2
   refine bodyPost_ret (v:=.tuple #[.agg #[.int .i64 (n:Int),.slice (some ⟨gw,0,none⟩) n n],.bool true]) (by simp [results,Tryz.results72,go_sem,z0,z1]) rfl ?_
   rw [←HE.out]
   exact ⟨HST2.out.2,_,rfl,HST2.out.1⟩
  | succ m=>
   obtain rfl:=hAd (by omega)
   have HKEY:Hid (∃p rest,insF (rzKey sc') left=p :: rest∧rest.length=m∧(0≤p∧p<n)∧(∀y∈rest,0≤y∧y<n)∧rzRun m rest (rzStep p rest (wins,sc') m)=rzRun n (idxs n) (List.replicate n 0,sc)):=by
    have hl:(insF (rzKey sc') left).length=m+1:=by rw [insF_length];exact HR.out.2.2.1
    have hmem:∀y∈insF (rzKey sc') left,y∈left:=fun y hy=>(insF_perm _ _).mem_iff.1 hy
    cases hx:insF (rzKey sc') left with
    | nil=>rw [hx] at hl;simp at hl
    | cons p rest=>
     rw [hx] at hl hmem
     have hrl:rest.length=m:=by simpa using hl
     refine ⟨p,rest,rfl,hrl,HR.out.2.2.2.2.1 p (hmem p (by simp)),fun y hy=>HR.out.2.2.2.2.1 y (hmem y (by simp [hy])),?_⟩
     have h:=HR.out.2.2.2.1
     rw [rzRun] at h
     simp only [hx] at h
     rw [hrl] at h
     exact h
   obtain ⟨p,rest,hins,hrl,hpr,hrr,hrun⟩:=HKEY.out
   obtain ⟨p,rfl⟩:=Int.eq_ofNat_of_zero_le hpr.1
   have HPR:=Lib.hid (And.intro hrl (And.intro hpr (And.intro hrr hrun)))
   have HSF:Hid (Calls Tryz.prog 161 #[.slice (some ⟨gl,o,none⟩) (m+1) c7,.func (.func 158) #[] #[.pointer (some ⟨b6,0,none⟩)]] wr fun e w'=>e=.returned (.tuple #[])∧RzA w w' b5 b6 gw gs gl n cs cl wins sc' (pre++(p:Int) :: rest)):=by
    have h:=sortFuncO_any wr gl (gl+1) gl cl c7 n o pre left (rzKey sc') 158 #[.pointer (some ⟨b6,0,none⟩)] HR.out.1.fl HR.out.2.1 (by rw [HR.out.2.2.1];omega) (by rw [HR.out.2.2.1];have:=HR.out.2.2.2.2.2.2.2.2.2;omega) (fun _ _=>by kernel_rfl) (by
     intro W a b K ha hb
     obtain ⟨a1,a2⟩:=HR.out.2.2.2.2.1 a ha
     obtain ⟨b1,b2⟩:=HR.out.2.2.2.2.1 b hb
     obtain ⟨a,rfl⟩:=Int.eq_ofNat_of_zero_le a1
     obtain ⟨b,rfl⟩:=Int.eq_ofNat_of_zero_le b1
     have N:=HR.out.1.ne
     have N6:=HR.out.1.n6
     have hfs:=HR.out.1.fs.keep K (by omega)
     exact realize1_any (some ⟨gs,0,none⟩) n cs b6 sc' a b W (by omega) (by omega) HR.out.2.2.2.2.2.2.2.2.1 (by omega) hfs.sl ((K.cell (p:=⟨b6,0,none⟩) HR.out.1.l6 (by show b6<gl∨gl+1≤b6;omega)).trans HR.out.1.c6))
    rw [HR.out.2.2.1,hins] at h
    exact h.mono fun e w' ⟨he,hf,hk⟩=>⟨he,HR.out.1.sort hk hf⟩
   have HOM:Hid (pre.length=o∧o+(m+1)=n):=⟨HR.out.2.1,HR.out.2.2.2.2.2.2.2.2.2⟩
   have HBD:Hid (∀k,k≤m→((∀y∈(rzStep (p:Int) rest (wins,sc') k).1,0≤y∧y≤255)∧∀y∈(rzStep (p:Int) rest (wins,sc') k).2,-(8*(o:Int))-k≤y∧y≤8)∧(rzStep (p:Int) rest (wins,sc') k).1.length=n∧(rzStep (p:Int) rest (wins,sc') k).2.length=n):=fun k hk=>by
    have hh:=HR.out.2.2.2.2.2
    obtain ⟨l1,l2⟩:=rzStep_len (p:Int) rest (wins,sc') k
    exact ⟨rzStep_bd hn8 HPR.out.2.1 HPR.out.2.2.1 hh.1 hh.2.1 hh.2.2.1 hh.2.2.2.1 k (by rw [HPR.out.1];exact hk),by rw [l1];exact hh.2.2.1,by rw [l2];exact hh.2.2.2.1⟩
   have HCP:Hid (∀W wins sc row,row=pre++(p:Int) :: rest→RzA w W b5 b6 gw gs gl n cs cl wins sc row→W.cell? ⟨gl,o,none⟩=some (.int .i64 (p:Int))∧∀k y,rest[k]? = some y→W.cell? ⟨gl,o+1+k,none⟩=some (.int .i64 y)):=fun W wins sc row hrow h=>by
    subst hrow
    have hlen:(pre++(p:Int) :: rest).length=n:=by rw [List.length_append,List.length_cons,HOM.out.1,HPR.out.1];have:=HOM.out.2;omega
    refine ⟨?_,fun k y hk=>?_⟩
    ·obtain ⟨g,x,e,_,_,hx,cx,_⟩:=h.fl.at_ (k:=o) (by rw [hlen];have:=HOM.out.2;omega)
     injection e with e
     injection e with e
     subst e
     rw [List.getElem?_append_right (by rw [HOM.out.1];exact Nat.le_refl _),HOM.out.1,Nat.sub_self] at hx
     injection hx with hx
     rw [hx];exact cx
    ·have hkl:=(List.getElem?_eq_some_iff.1 hk).1
     obtain ⟨g,x,e,_,_,hx,cx,_⟩:=h.fl.at_ (k:=o+1+k) (by rw [hlen];have:=HOM.out.2;have:=HPR.out.1;omega)
     injection e with e
     injection e with e
     subst e
     rw [List.getElem?_append_right (by rw [HOM.out.1];omega),HOM.out.1,show o+1+k-o=k+1 by omega,List.getElem?_cons_succ,hk] at hx
     injection hx with hx
     rw [hx];exact cx
   obtain ⟨Ad,hif⟩:∃Ad:Addr,(if c7=1 then some (⟨gl,o,none⟩:Addr) else some ⟨gl,o+1,none⟩)=some Ad:=by
    by_cases h:c7=1
    ·exact ⟨_,if_pos h⟩
    ·exact ⟨_,if_neg h⟩
   have HIF:=Lib.hid hif
   have hc1:(1:Int)≤(c7:Int):=by omega
   clear hins hrl hpr hrr hrun HKEY hAd
   go_wp2_with (go_at_call 161;refine HSF.out.mono ?_;rintro e w2 ⟨rfl,h2⟩;have H2:=Lib.hid h2;clear h2;have cp:=(HCP.out _ _ _ _ rfl H2.out).1)
   clear cp hif
   go_loopw [45] (fun v45 wi=>∃k:Nat,k≤m∧v45=.int .i64 (k:Int)∧Hid (RzA w wi b5 b6 gw gs gl n cs cl (rzStep (p:Int) rest (wins,sc') k).1 (rzStep (p:Int) rest (wins,sc') k).2 (pre++(p:Int) :: rest))) (fun v45 _=>m-(intOf v45).toNat)
   case atStart=>exact ⟨0,Nat.zero_le _,rfl,H2.out⟩
   case round=>
    obtain ⟨k,hk,rfl,HI⟩:=hrel
    clear H2
    by_cases hlt:k<m
    case neg=>
     obtain rfl:k=m:=by omega
     have HN:Hid (RzA w wr b5 b6 gw gs gl n cs cl (rzStep (p:Int) rest (wins,sc') k).1 (rzStep (p:Int) rest (wins,sc') k).2 ((pre++[(p:Int)])++rest)):=by
      show RzA _ _ _ _ _ _ _ _ _ _ _ _ _
      rw [List.append_assoc];exact HI.out
     have HAD:Hid (0<k→some Ad=some ⟨gl,o+1,none⟩):=fun h=>by
      have h2:=HIF.out
      rw [if_neg (by omega)] at h2
      exact h2.symm
     go_wp2
     go_roundw
     case rel=>exact ⟨o+1,k,c7-1,some Ad,pre++[(p:Int)],rest,_,_,rfl,HAD.out,by omega,by omega,HN.out,by rw [List.length_append,HOM.out.1];rfl,HPR.out.1,HPR.out.2.2.2,HPR.out.2.2.1,(HBD.out k (Nat.le_refl _)).1.1,fun y hy=>by have:=(HBD.out k (Nat.le_refl _)).1.2 y hy;have:=HOM.out.2;omega,(HBD.out k (Nat.le_refl _)).2.1,(HBD.out k (Nat.le_refl _)).2.2,by have:=HOM.out.2;omega⟩
     case measure=>simp [lenS]
    obtain rfl:Ad=⟨gl,o+1,none⟩:=by
     have h2:=HIF.out
     rw [if_neg (by omega)] at h2
     injection h2 with h2
     exact h2.symm
    obtain ⟨l,hl⟩:∃y,rest[k]? = some y:=⟨_,List.getElem?_eq_getElem (by rw [HPR.out.1];exact hlt)⟩
    obtain ⟨l1,l2⟩:=HPR.out.2.2.1 l (List.mem_of_getElem? hl)
    obtain ⟨l,rfl⟩:=Int.eq_ofNat_of_zero_le l1
    have cl_:=(HCP.out _ _ _ _ rfl HI.out).2 k _ hl
    have hpn:=HPR.out.2.1.2
    obtain ⟨⟨BW,BS⟩,LW,LS⟩:=HBD.out k hk
    obtain ⟨s,hs,cs1,fs1,-⟩:=HI.out.setS (j:=p) (by rw [LS];omega)
    obtain ⟨x0,x1,-⟩:=HI.out.bx
    have c6:=HI.out.c6
    have HRL:Hid (rest.getD k 0=(l:Int)):=by show _=_;rw [List.getD_eq_getElem?_getD,hl];rfl
    have HSP:Hid ((rzStep (p:Int) rest (wins,sc') k).2.getD p 0=s):=by show _=_;rw [List.getD_eq_getElem?_getD,hs];rfl
    have g1:(0:Int)≤(p:Int)∧(p:Int)<(n:Int):=by omega
    have g2:(0:Int)≤(l:Int)∧(l:Int)<(n:Int):=by omega
    have g3:(0:Int)≤(l:Int)∧(l:Int)<64:=by omega
    have g4:(0:Int)≤(p:Int)∧(p:Int)<64:=by omega
    have g5:(0:Int)≤(k:Int)∧(k:Int)<(m:Int):=by omega
    have pw:∀j:Fin 8,wrap64 (2^j.val)=(2:Int)^j.val:=by decide +kernel
    by_cases hc:(k:Int)<s
    case pos=>
     obtain ⟨wp,hwp,cw1,fw1,hset⟩:=HI.out.setW (j:=p) (by rw [LW];omega)
     have hb:=BW wp (List.mem_of_getElem? hwp)
     obtain ⟨o1,o2,o3⟩:=or_at (v:=wp) (b:=l) hb.1 hb.2 (by omega)
     have e2:wrap64 (2^l)=(2:Int)^l:=pw ⟨l,by omega⟩
     have HSTEP:Hid (rzStep (p:Int) rest (wins,sc') (k+1)=((rzStep (p:Int) rest (wins,sc') k).1.set p (orN wp l),(rzStep (p:Int) rest (wins,sc') k).2)):=by
      have hwg:(rzStep (p:Int) rest (wins,sc') k).1.getD p 0=wp:=by rw [List.getD_eq_getElem?_getD,hwp];rfl
      show _=_
      rw [rzStep,HRL.out]
      simp only [Int.toNat_natCast]
      rw [HSP.out,if_pos hc,hwg]
     have H3:Hid (RzA w (wr.setCell ⟨gw,p,none⟩ (.int .i64 (orN wp l))).drew b5 b6 gw gs gl n cs cl (rzStep (p:Int) rest (wins,sc') (k+1)).1 (rzStep (p:Int) rest (wins,sc') (k+1)).2 (pre++(p:Int) :: rest)):=by
      have h:=(hset (orN wp l)).drewN 1
      rw [HSTEP.out];exact h
     clear hl hs hwp hset pw BW BS LW LS hb
     go_wp2_with fail
     go_region
     generalize (wr.setCell ⟨gw,p,none⟩ (.int .i64 (orN wp l))).drew=w4 at *
     go_wp2
     go_roundw
     case rel=>exact ⟨k+1,by omega,by go_num,H3.out⟩
     case measure=>simp [intOf];omega
    case neg=>
     obtain ⟨wl,hwl,cw1,fw1,hset⟩:=HI.out.setW (j:=l) (by rw [LW];omega)
     have hb:=BW wl (List.mem_of_getElem? hwl)
     obtain ⟨o1,o2,o3⟩:=or_at (v:=wl) (b:=p) hb.1 hb.2 (by omega)
     have e2:wrap64 (2^p)=(2:Int)^p:=pw ⟨p,by omega⟩
     have H3:Hid (RzA w (wr.setCell ⟨gw,l,none⟩ (.int .i64 (orN wl p))).drew b5 b6 gw gs gl n cs cl ((rzStep (p:Int) rest (wins,sc') k).1.set l (orN wl p)) (rzStep (p:Int) rest (wins,sc') k).2 (pre++(p:Int) :: rest)):=(hset (orN wl p)).drewN 1
     have HS2:Hid (∃sl,(rzStep (p:Int) rest (wins,sc') k).2[l]? = some sl∧-72≤sl∧sl≤8∧rzStep (p:Int) rest (wins,sc') (k+1)=((rzStep (p:Int) rest (wins,sc') k).1.set l (orN wl p),(rzStep (p:Int) rest (wins,sc') k).2.set l (sl-1))):=by
      obtain ⟨sl,hsl⟩:∃y,(rzStep (p:Int) rest (wins,sc') k).2[l]? = some y:=⟨_,List.getElem?_eq_getElem (by rw [LS];omega)⟩
      have hb2:=BS sl (List.mem_of_getElem? hsl)
      have hom:=HOM.out.2
      refine ⟨sl,hsl,by omega,by omega,?_⟩
      have hwg:(rzStep (p:Int) rest (wins,sc') k).1.getD l 0=wl:=by rw [List.getD_eq_getElem?_getD,hwl];rfl
      have hsg:(rzStep (p:Int) rest (wins,sc') k).2.getD l 0=sl:=by rw [List.getD_eq_getElem?_getD,hsl];rfl
      rw [rzStep,HRL.out]
      simp only [Int.toNat_natCast]
      rw [HSP.out,if_neg hc,hwg,hsg]
     have HLS:Hid ((rzStep (p:Int) rest (wins,sc') k).2.length=n):=LS
     clear hl hs hwl hset pw BW BS LW LS hb
     go_wp2_with fail
     go_region
     generalize (wr.setCell ⟨gw,l,none⟩ (.int .i64 (orN wl p))).drew=w4 at *
     obtain ⟨sl,hsl,hs1,hs2,hstep⟩:=HS2.out
     obtain ⟨sl',hsl',cs2,fs2,hset2⟩:=H3.out.setS (j:=l) (by rw [HLS.out];omega)
     obtain rfl:sl=sl':=by rw [hsl] at hsl';injection hsl'
     have c6':=H3.out.c6
     have f3:IntKind.i64.wrap (sl-1)=sl-1:=by rw [IntKind.wrap_i64];omega
     have H5:Hid (RzA w (w4.setCell ⟨gs,l,none⟩ (.int .i64 (sl-1))) b5 b6 gw gs gl n cs cl (rzStep (p:Int) rest (wins,sc') (k+1)).1 (rzStep (p:Int) rest (wins,sc') (k+1)).2 (pre++(p:Int) :: rest)):=by
      rw [hstep];exact hset2 (sl-1)
     clear hsl hsl' hset2 hstep cw1 fw1 o1 o2 o3 e2 x0 x1 cs1 fs1 c6 cl_
     go_wp2
     go_roundw
     case rel=>exact ⟨k+1,by omega,by go_num,H5.out⟩
     case measure=>simp [intOf];omega
theorem implRealize_any (A:Option Addr) (c:Nat) (sc:List Int) (w:World) (hs:SlI w A sc) (hn:sc.length≤1048576):
  Calls Tryz.prog 72 #[.slice A sc.length c] w fun e w'=>TR w e w' (rzF sc):=by
 cases hld:landB (sortI sc)
 case true=>
  have hE:rzF sc=some ⟨(sc.length:Int),(rzRun sc.length (idxs sc.length) (List.replicate sc.length 0,sc)).1⟩:=by unfold rzF;rw [hld];rfl
  rw [hE]
  have h:=hld
  unfold landB at h
  simp only [Bool.and_eq_true] at h
  obtain ⟨h1,h2,_⟩:=h
  rw [sortI_len] at h1
  have h3:=inB_t.1 h1
  refine realize_go A c sc.length sc w hs rfl (by omega) (by omega) hld fun y hy=>?_
  have h4:=List.all_eq_true.1 h2 y (by unfold sortI;exact List.mem_mergeSort.2 hy)
  exact inB_t.1 h4
 have HE:Hid (rzF sc=none):=by show _=_;unfold rzF;rw [hld];rfl
 have H0:Hid (RsAt w (w.alloc (.cells #[.int .i64 0,.slice none 0 0] 27)) w.heap.size):=RsAt.start (Below.refl _ w)
 have HCL:Hid (∀W,Below w.heap.size w W→Calls Tryz.prog 59 #[.slice A sc.length c] W fun e w'=>∃A' c',e=.returned (.slice A' sc.length c')∧Fr w' W.heap.size w'.heap.size (.slice A' sc.length c') sc∧Below W.heap.size W w'):=fun W hW=>cloneI_any A c sc W (hs.below hW) hn
 have HSO:Hid (∀W lo hi B c',Fr W lo hi (.slice B sc.length c') sc→Calls Tryz.prog 155 #[.slice B sc.length c'] W fun e w'=>e=.returned (.tuple #[])∧Fr w' lo w'.heap.size (.slice B sc.length c') (sortI sc)∧Below lo W w'):=fun W lo hi B c' hf=>sortI_any W lo hi c' B sc hf hn
 have HLA:Hid (∀W B d,SlI W B (sortI sc)→Calls Tryz.prog 156 #[.slice B sc.length d] W fun e w'=>e=.returned (.bool false)∧Below W.heap.size W w'):=fun W B d h=>by
  have h2:=implIsLandau_any B d (sortI sc) W h (by rw [sortI_len];omega)
  rw [sortI_len,hld] at h2;exact h2
 clear hs hld hn
 generalize sc.length=n at *
 go_enter Tryz.func72,Tryz.ntmps72
 go_upto_region 1 with fail
 generalize w.alloc (.cells #[.int .i64 0,.slice none 0 0] 27)=w0 at *
 go_wp2_with (first
  | (go_at_call 59;refine (HCL.out _ H0.out.be).mono ?_;rintro e w1 ⟨A1,c1,rfl,hf1,hb1⟩;have F1:=Lib.hid (And.intro hf1 hb1);clear hf1 hb1)
  | (go_at_call 155;refine (HSO.out _ _ _ _ _ F1.out.1).mono ?_;rintro e w2 ⟨rfl,hf2,hb2⟩;have F2:Hid (Fr w2 w0.heap.size w2.heap.size (.slice A1 n c1) (sortI sc)∧Below w0.heap.size w0 w2):=⟨hf2,F1.out.2.trans hb2⟩;clear hf2 hb2 F1)
  | (go_at_call 156;refine (HLA.out _ _ _ F2.out.1.sl).mono ?_;rintro e w3 ⟨rfl,hb3⟩;have F3:Hid (Below w0.heap.size w0 w3):=F2.out.2.trans (hb3.mono F2.out.2.size);clear hb3 F2;have H3:=Lib.hid (H0.out.below F3.out);obtain ⟨z0,z1,f0,f1,-⟩:=id H3.out))
 refine bodyPost_ret (v:=.tuple #[.agg #[.int .i64 0,.slice none 0 0],.bool false]) (by simp [results,Tryz.results72,go_sem,z0,z1]) rfl ?_
 rw [HE.out]
 exact ⟨H3.out.zero,rfl⟩
theorem bcat (a b:List UInt8):(⟨a.toArray⟩:ByteArray)++⟨b.toArray⟩=⟨(a++b).toArray⟩:=by
 apply ByteArray.ext;simp
end Go.Proofs.YtkapoldjcpfdgaaGreatDoor
