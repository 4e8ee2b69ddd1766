/- The console's closures that take a new tour: the program's. -/
import Derived.Test.YtkapoldjcpfdgaaGreatDoorMav
set_option maxHeartbeats 4000000
set_option maxRecDepth 100000
namespace Go.Proofs.YtkapoldjcpfdgaaGreatDoor
open Go.ChangeShapes Go.WideShapes Go.ChangeAt Go.RowKit
theorem copied_any (v:Value) (x:TourV) (w:World) (hs:InT w v x) (hn:x.wins.length≤1048576):
  Calls Tryz.prog 27 #[v] w fun e w'=>∃v',e=.returned v'∧OwT w' w.heap.size w'.heap.size v' x∧Below w.heap.size w w':=by
 obtain ⟨u,rfl,A0,c0,rfl,hc,hm,hsl⟩:=hs
 have HCL:Hid (∀W,Below w.heap.size w W→Calls Tryz.prog 59 #[.slice A0 x.wins.length c0] W fun e w'=>∃A' c',e=.returned (.slice A' x.wins.length c')∧Fr w' W.heap.size w'.heap.size (.slice A' x.wins.length c') x.wins∧Below W.heap.size W w'):=fun W hW=>cloneI_any A0 c0 x.wins W (hsl.below hW) hn
 have HB0:Hid (Bx ((w.alloc (.cells #[.int .i64 x.size,.slice A0 x.wins.length c0] 27)).alloc (.cells #[.int .i64 0,.slice none 0 0] 27)) w.heap.size (.int .i64 x.size) (.slice A0 x.wins.length c0)):=
  (show Bx (w.alloc (.cells #[.int .i64 x.size,.slice A0 x.wins.length c0] 27)) w.heap.size (.int .i64 x.size) (.slice A0 x.wins.length c0) from ⟨by simp,by simp,by simp⟩).below ((Below.refl _ _).alloc (Nat.le_refl _) _)
 have HRS:Hid (RsAt w ((w.alloc (.cells #[.int .i64 x.size,.slice A0 x.wins.length c0] 27)).alloc (.cells #[.int .i64 0,.slice none 0 0] 27)) (w.heap.size+1)):=by
  have h:=RsAt.start (w:=w) (W:=w.alloc (.cells #[.int .i64 x.size,.slice A0 x.wins.length c0] 27)) ((Below.refl _ w).alloc (Nat.le_refl _) _)
  rw [World.size_alloc] at h;exact h
 clear hc hm hsl
 go_enter Tryz.func27,Tryz.ntmps27
 go_upto_region 1 with fail
 generalize ((w.alloc (.cells #[.int .i64 x.size,.slice A0 x.wins.length c0] 27)).alloc (.cells #[.int .i64 0,.slice none 0 0] 27))=w0 at *
 have HBD:Hid (Below w.heap.size w w0.drew):=below_drewL HRS.out.be
 obtain ⟨q0,q1,-⟩:=HB0.out
 go_region_held3 (fun W=>W.cell? ⟨w.heap.size,0,none⟩=some (.int .i64 x.size)∧W.cell? ⟨w.heap.size,1,none⟩=some (.slice A0 x.wins.length c0)) (first|exact ⟨q0,q1⟩|exact ⟨X5.out.1,X5.out.2.1⟩|go_keep) (first|(go_at_call 59;refine (HCL.out _ HBD.out).mono ?_;rintro e w5 ⟨A5,c5,rfl,hf5,hb5⟩;have X5:Hid (Bx w5 w.heap.size (.int .i64 x.size) (.slice A0 x.wins.length c0)):=HB0.out.below (w':=w5) (Below.trans (below_of_drewN _ w0 1) hb5);have R5:Hid (RsAt w w5 (w.heap.size+1)):=HRS.out.below (Below.trans (below_of_drewN _ w0 1) hb5);obtain ⟨z0,z1,f0,f1,-⟩:=id R5.out;have HF5:=Lib.hid hf5;clear hf5 hb5))
 have HST:Hid (OwT ((w5.setCell ⟨w.heap.size+1,0,none⟩ (.int .i64 x.size)).setCell ⟨w.heap.size+1,1,none⟩ (.slice A5 x.wins.length c5)) w.heap.size ((w5.setCell ⟨w.heap.size+1,0,none⟩ (.int .i64 x.size)).setCell ⟨w.heap.size+1,1,none⟩ (.slice A5 x.wins.length c5)).heap.size (.agg #[.int .i64 x.size,.slice A5 x.wins.length c5]) x ∧
   Below w.heap.size w ((w5.setCell ⟨w.heap.size+1,0,none⟩ (.int .i64 x.size)).setCell ⟨w.heap.size+1,1,none⟩ (.slice A5 x.wins.length c5))):=by
  obtain ⟨A',c',e,h1,h2⟩:=R5.out.store (W0:=w0.drew) (v:=.agg #[.int .i64 x.size,.slice A5 x.wins.length c5]) (z:=x) HRS.out.lt ⟨_,rfl,HF5.out⟩
  injection e with e
  have e2:(Value.slice A5 x.wins.length c5)=.slice A' x.wins.length c':=by
   have:=congrArg (fun a:Array Value=>a[1]?) e
   simpa using this
  injection e2 with e3 _ e4
  subst e3;subst e4
  exact ⟨h1,h2⟩
 clear HF5 X5 R5 HCL
 go_wp2
 refine bodyPost_ret (v:=.agg #[.int .i64 x.size,.slice A5 x.wins.length c5]) (by simp [results,Tryz.results27,go_sem,z0,z1]) rfl ?_
 exact ⟨_,rfl,HST.out.1,HST.out.2⟩
def lstF (xs:List Int) (ok:Bool):List UInt8:=if ok then fmtF xs else [110,111,110,101]
theorem listed_any (v:Value) (xs:List Int) (ok:Bool) (w:World) (hs:ok=true→InI w v xs∧xs.length≤1048576∧wfI xs) (ht:tabP w):
  Calls Tryz.prog 101 #[v,.bool ok] w fun e w'=>e=.returned (.string ⟨(lstF xs ok).toArray⟩)∧Below w.heap.size w w':=by
 cases ok with
 | false=>
  go_enter Tryz.func101,Tryz.ntmps101
  go_wp2
  go_ret
  exact ⟨rfl,Below.refl _ _⟩
 | true=>
  obtain ⟨h1,h2,h3⟩:=hs rfl
  have HF:=Lib.hid (implFormatNumbers_any v xs w h1 h2 h3 ht)
  clear hs h1 h2 h3
  go_enter Tryz.func101,Tryz.ntmps101
  go_wp2_with (go_at_call 96;refine HF.out.mono ?_;rintro e w1 ⟨rfl,hb⟩;have B1:=Lib.hid hb;clear hb)
  go_ret
  exact ⟨rfl,B1.out⟩
theorem con_cells {W:World}{b:Nat}{t:TypeId}{x0 x1 x2 x3:Value} (h:W.heap[b]? = some (.cells #[x0,x1,x2,x3] t (0,0))):W.cell? ⟨b,0,none⟩=some x0∧W.cell? ⟨b,1,none⟩=some x1∧W.cell? ⟨b,2,none⟩=some x2∧W.cell? ⟨b,3,none⟩=some x3∧∀o,W.frozen? ⟨b,o,none⟩=false:=by
 simp [World.cell?,World.frozen?,h]
theorem con_set3 {W:World}{b:Nat}{t:TypeId}{x0 x1 x2 x3:Value} (h:W.heap[b]? = some (.cells #[x0,x1,x2,x3] t (0,0))) (y:Value):(W.setCell ⟨b,3,none⟩ y).heap[b]? = some (.cells #[x0,x1,x2,y] t (0,0)):=by
 show (W.heap.modify b _)[b]? = _
 rw [Array.getElem?_modify,if_pos rfl,h]
 simp
theorem number_any (W:World) (b n c i:Nat) (t:TypeId) (A:Option Addr) (x0 x1:Value) (bad:Bool) (ws:List (List UInt8)) (l:List UInt8) (hb:W.heap[b]? = some (.cells #[x0,x1,.slice A n c,.bool bad] t (0,0))) (hs:SlV W A (strs ws)) (hn:ws.length=n) (hi:ws[i]? = some l) (hll:l.length≤1048576) (he:errP W) (ht:tabP W):
  Calls Tryz.prog 68 #[.pointer (some ⟨b,0,none⟩),.int .i64 (i:Int)] W fun e w'=>e=.returned (.int .i64 ((numOf l).getD 0))∧∃W1,Below W.heap.size W W1∧w'=W1.setCell ⟨b,3,none⟩ (.bool (bad || !(numOf l).isSome)):=by
 obtain ⟨-,-,c2,c3,f3⟩:=con_cells hb
 have hbs:=(Array.getElem?_eq_some_iff.1 hb).1
 have hil:=(List.getElem?_eq_some_iff.1 hi).1
 obtain ⟨g,off,u,rfl,hu,cu,-⟩:=hs.at_ (k:=i) (by simp [strs];omega)
 have hu2:u=.string ⟨l.toArray⟩:=by
  simp only [strs,List.getElem?_map,hi,Option.map_some,Option.some.injEq] at hu
  exact hu.symm
 subst hu2
 have HPI:Hid (Calls Tryz.prog 146 #[.string ⟨l.toArray⟩] W fun e w'=>e=.returned (.tuple #[.int .i64 ((numOf l).getD 0),.bool (numOf l).isSome])∧Below W.heap.size W w'):=by
  have h:=implParseInt_any ⟨l.toArray⟩ W (by show l.toArray.size≤_;rw [List.size_toArray];exact hll) he ht
  exact h
 have HCE:Hid (∀W1,Below W.heap.size W W1→W1.cell? ⟨b,3,none⟩=some (.bool bad)∧W1.frozen? ⟨b,3,none⟩=false):=fun W1 h=>by
  obtain ⟨-,-,-,d3,g3⟩:=con_cells ((h.block _ hbs).trans hb)
  exact ⟨d3,g3 3⟩
 have g1:(0:Int)≤(i:Int)∧(i:Int)<(n:Int):=by omega
 clear hs he ht hu hi hb hil
 generalize (numOf l).getD 0=v at *
 generalize (numOf l).isSome=ok at *
 cases bad<;>cases ok
 all_goals
  go_enter Tryz.func68,Tryz.ntmps68
  go_wp2_with (go_at_call 146;refine HPI.out.mono ?_;rintro e w1 ⟨rfl,hb1⟩;have B1:=Lib.hid hb1;obtain ⟨d3,g3⟩:=HCE.out _ hb1;clear hb1 c2 c3 f3 cu)
  go_ret
  exact ⟨rfl,_,B1.out,rfl⟩
theorem numbers_any (W:World) (b n c i:Nat) (t:TypeId) (A:Option Addr) (x0 x1:Value) (bad:Bool) (ws:List (List UInt8)) (l:List UInt8) (hb:W.heap[b]? = some (.cells #[x0,x1,.slice A n c,.bool bad] t (0,0))) (hs:SlV W A (strs ws)) (hn:ws.length=n) (hi:ws[i]? = some l) (hll:l.length≤1048576) (he:errP W) (ht:tabP W):
  Calls Tryz.prog 73 #[.pointer (some ⟨b,0,none⟩),.int .i64 (i:Int)] W fun e w'=>∃v' W1,e=.returned v'∧Fr W1 W.heap.size W1.heap.size v' (pnF l)∧Below W.heap.size W W1∧w'=W1.setCell ⟨b,3,none⟩ (.bool (bad || !pnB l)):=by
 obtain ⟨-,-,c2,c3,f3⟩:=con_cells hb
 have hbs:=(Array.getElem?_eq_some_iff.1 hb).1
 have hil:=(List.getElem?_eq_some_iff.1 hi).1
 obtain ⟨g,off,u,rfl,hu,cu,-⟩:=hs.at_ (k:=i) (by simp [strs];omega)
 have hu2:u=.string ⟨l.toArray⟩:=by
  simp only [strs,List.getElem?_map,hi,Option.map_some,Option.some.injEq] at hu
  exact hu.symm
 subst hu2
 have HPI:Hid (Calls Tryz.prog 162 #[.string ⟨l.toArray⟩] W fun e w'=>∃v',e=.returned (.tuple #[v',.bool (pnB l)])∧Fr w' W.heap.size w'.heap.size v' (pnF l)∧Below W.heap.size W w'):=by
  have h:=implParseNumbers_any ⟨l.toArray⟩ W (by show l.toArray.size≤_;rw [List.size_toArray];exact hll) he ht
  exact h
 have HCE:Hid (∀W1,Below W.heap.size W W1→W1.cell? ⟨b,3,none⟩=some (.bool bad)∧W1.frozen? ⟨b,3,none⟩=false):=fun W1 h=>by
  obtain ⟨-,-,-,d3,g3⟩:=con_cells ((h.block _ hbs).trans hb)
  exact ⟨d3,g3 3⟩
 have g1:(0:Int)≤(i:Int)∧(i:Int)<(n:Int):=by omega
 clear hs he ht hu hi hb hil
 generalize pnB l=ok at *
 cases bad<;>cases ok
 all_goals
  go_enter Tryz.func73,Tryz.ntmps73
  go_wp2_with (go_at_call 162;refine HPI.out.mono ?_;rintro e w1 ⟨v1,rfl,hf1,hb1⟩;have B1:=Lib.hid (And.intro hf1 hb1);obtain ⟨d3,g3⟩:=HCE.out _ hb1;clear hb1 hf1 c2 c3 f3 cu)
  go_ret
  exact ⟨v1,_,rfl,B1.out.1,B1.out.2,rfl⟩
theorem con_set0 {W:World}{b:Nat}{t:TypeId}{x0 x1 x2 x3:Value} (h:W.heap[b]? = some (.cells #[x0,x1,x2,x3] t (0,0))) (y:Value):(W.setCell ⟨b,0,none⟩ y).heap[b]? = some (.cells #[y,x1,x2,x3] t (0,0)):=by
 show (W.heap.modify b _)[b]? = _
 rw [Array.getElem?_modify,if_pos rfl,h]
 simp
theorem con_set1 {W:World}{b:Nat}{t:TypeId}{x0 x1 x2 x3:Value} (h:W.heap[b]? = some (.cells #[x0,x1,x2,x3] t (0,0))) (y:Value):(W.setCell ⟨b,1,none⟩ y).heap[b]? = some (.cells #[x0,y,x2,x3] t (0,0)):=by
 show (W.heap.modify b _)[b]? = _
 rw [Array.getElem?_modify,if_pos rfl,h]
 simp
theorem becomeNone_any (W:World) (v:Value) (x:TourV) (b:Nat) (hs:InT W v x):Calls Tryz.prog 62 #[.pointer (some ⟨b,0,none⟩),v,.bool false] W fun e w'=>e=.returned (.string ⟨[110,111,110,101].toArray⟩)∧Below W.heap.size W w':=by
 obtain ⟨u,rfl,A,c,rfl,_⟩:=hs
 go_enter Tryz.func62,Tryz.ntmps62
 go_wp2
 go_ret
 exact ⟨rfl,(Below.refl _ W).alloc (Nat.le_refl _) _⟩
theorem become_any (W:World) (lo hi b:Nat) (t:TypeId) (x0 x1 x2 x3 v:Value) (x:TourV) (hb:W.heap[b]? = some (.cells #[x0,x1,x2,x3] t (0,0))) (hs:OwT W lo hi v x) (hbl:b<lo) (w0:World) (ht:tabP w0) (hbase:Below w0.heap.size w0 W) (hb0:w0.heap.size≤b):
  Calls Tryz.prog 62 #[.pointer (some ⟨b,0,none⟩),v,.bool true] W fun e w'=>e=.returned (.string ⟨(tourText x).toArray⟩)∧Keep b (b+1) W w'∧∃A c,v=.agg #[.int .i64 x.size,.slice A x.wins.length c]∧w'.heap[b]? = some (.cells #[.int .i64 x.size,.slice A x.wins.length c,x2,x3] t (0,0)):=by
 obtain ⟨A,c,rfl⟩:=hs.form
 have hbs:=(Array.getElem?_eq_some_iff.1 hb).1
 obtain ⟨W1,e1⟩:∃W1,W1=W.alloc (.cells #[.int .i64 x.size,.slice A x.wins.length c] 27):=⟨_,rfl⟩
 have B1:Below W.heap.size W W1:=by rw [e1];exact (Below.refl _ W).alloc (Nat.le_refl _) _
 have X1:Bx W1 W.heap.size (.int .i64 x.size) (.slice A x.wins.length c):=by rw [e1];exact ⟨by simp,by simp,by simp⟩
 have hb1:=(B1.block _ hbs).trans hb
 obtain ⟨c0,c1,-,-,fz⟩:=con_cells hb1
 have f0:=fz 0
 have f1:=fz 1
 have K2:Keep b (b+1) W1 ((W1.setCell ⟨b,0,none⟩ (.int .i64 x.size)).setCell ⟨b,1,none⟩ (.slice A x.wins.length c)):=
  ((Keep.refl _ _ _).setCell (p:=⟨b,0,none⟩) (Nat.le_refl _) (Nat.lt_succ_self _) _).setCell (p:=⟨b,1,none⟩) (Nat.le_refl _) (Nat.lt_succ_self _) _
 have H2:=con_set1 (con_set0 hb1 (.int .i64 x.size)) (.slice A x.wins.length c)
 have X2:=X1.keep K2 (.inr (by omega))
 have hin:InT ((W1.setCell ⟨b,0,none⟩ (.int .i64 x.size)).setCell ⟨b,1,none⟩ (.slice A x.wins.length c)) (.agg #[.int .i64 x.size,.slice A x.wins.length c]) x:=((hs.grow B1).keep K2 (.inr (by omega))).in_
 have ht2:tabP ((W1.setCell ⟨b,0,none⟩ (.int .i64 x.size)).setCell ⟨b,1,none⟩ (.slice A x.wins.length c)):=by
  have hw:=hbase.size
  have h1:Below w0.heap.size w0 W1:=hbase.trans (B1.mono hw)
  exact ht.below (h1.trans (K2.below hb0 h1.size)) (Nat.le_refl _)
 have HFT:=Lib.hid (implFormatTour_any _ x _ hin ht2)
 obtain ⟨q0,q1,-⟩:=X1
 obtain ⟨p0,p1,-⟩:=X2
 have HK:Hid (Keep b (b+1) W ((W1.setCell ⟨b,0,none⟩ (.int .i64 x.size)).setCell ⟨b,1,none⟩ (.slice A x.wins.length c))):=(Keep.of_below B1 (Nat.le_refl _)).trans K2
 have HH:=Lib.hid H2
 clear hs hb hb1 hin ht2 K2 H2 B1 hbase ht fz
 go_enter Tryz.func62,Tryz.ntmps62
 go_upto_region 1 with fail
 rw [←e1]
 clear e1
 go_wp2_with (go_at_call 82;refine HFT.out.mono ?_;rintro e w2 ⟨rfl,hb2⟩;have B2:=Lib.hid hb2;clear hb2)
 go_ret
 refine ⟨rfl,HK.out.trans (Keep.of_below B2.out (Nat.le_refl _)),A,c,rfl,(B2.out.block _ ?_).trans HH.out⟩
 exact (Array.getElem?_eq_some_iff.1 HH.out).1
theorem clipZ_any (A:Option Addr) (n c:Nat) (w:World) (h1:n≤c) (_h2:c≤9223372036854775807):
  Calls Tryz.prog 36 #[.slice A n c] w fun e w'=>e=.returned (.slice A n n)∧w=w':=by
 have g1:(n:Int)≤(c:Int):=by omega
 go_enter Tryz.func36,Tryz.ntmps36
 go_wp2
 go_ret
 exact ⟨rfl,rfl⟩
def linesL (s:ByteArray):List ByteArray:=if ((Lib.splitB ⟨#[10]⟩ 0 (Lib.countB s ⟨#[10]⟩) s)[Lib.countB s ⟨#[10]⟩]?.map fun l=>l.toList.isEmpty)=some true then (Lib.splitB ⟨#[10]⟩ 0 (Lib.countB s ⟨#[10]⟩) s).take (Lib.countB s ⟨#[10]⟩) else Lib.splitB ⟨#[10]⟩ 0 (Lib.countB s ⟨#[10]⟩) s
theorem implSplitLines_any (s:ByteArray) (w:World) (hs:s.size≤1048576) (hm:mlP w):
  Calls Tryz.prog 14 #[.string s] w fun e w'=>∃g,w.heap.size≤g∧e=.returned (.slice (some ⟨g,0,none⟩) (linesL s).length (linesL s).length)∧SlV w' (some ⟨g,0,none⟩) ((linesL s).map Value.string)∧Below w.heap.size w w':=by
 obtain ⟨m,hm⟩:=hm
 have HSP:=Lib.hid (Tryz.strings_Split s ⟨#[10]⟩ m w (by omega) hm (by decide))
 have HL:Hid ((Lib.splitB ⟨#[10]⟩ 0 (Lib.countB s ⟨#[10]⟩) s).length=Lib.countB s ⟨#[10]⟩+1):=Lib.splitB_all ⟨#[10]⟩ (by decide) 0 _ s rfl
 have HE:Hid (linesL s=if ((Lib.splitB ⟨#[10]⟩ 0 (Lib.countB s ⟨#[10]⟩) s)[Lib.countB s ⟨#[10]⟩]?.map fun l=>l.toList.isEmpty)=some true then (Lib.splitB ⟨#[10]⟩ 0 (Lib.countB s ⟨#[10]⟩) s).take (Lib.countB s ⟨#[10]⟩) else Lib.splitB ⟨#[10]⟩ 0 (Lib.countB s ⟨#[10]⟩) s):=rfl
 have HK:Hid (Lib.countB s ⟨#[10]⟩≤2000000):=by
  have:=Lib.countB_le ⟨#[10]⟩ (by decide) s.size s (Nat.le_refl _)
  show _≤_
  omega
 clear hs hm
 generalize Lib.splitB ⟨#[10]⟩ 0 (Lib.countB s ⟨#[10]⟩) s=L at *
 generalize Lib.countB s ⟨#[10]⟩=k at *
 generalize linesL s=R at *
 obtain ⟨l,hl⟩:∃l,L[k]? = some l:=⟨_,List.getElem?_eq_getElem (by rw [HL.out];omega)⟩
 have hk:=HK.out
 have HW:Hid (∀j y,L[j]? = some y→(w.alloc (.cells (L.map Value.string).toArray 9)).cell? ⟨w.heap.size,j,none⟩=some (.string y)):=fun j y hj=>by simp [hj]
 have cl:=HW.out k l hl
 rw [hl] at HE
 have f1:(0:Int)≤(k:Int)∧(k:Int)<((k+1:Nat):Int):=by omega
 have HWA:Hid (Below w.heap.size w (w.alloc (.cells (L.map Value.string).toArray 9))):=(Below.refl _ w).alloc (Nat.le_refl _) _
 have HCP:Hid (∀(n c:Nat) W,n≤c→c≤9223372036854775807→Calls Tryz.prog 36 #[.slice (some ⟨w.heap.size,0,none⟩) n c] W fun e w'=>e=.returned (.slice (some ⟨w.heap.size,0,none⟩) n n)∧W=w'):=fun n c W h1 h2=>clipZ_any _ n c W h1 h2
 clear hl
 cases hE:l.toList.isEmpty
 case true=>
  have HR:Hid (R=L.take k∧R.length=k):=by
   have h:R=L.take k:=by rw [HE.out,if_pos (by simp [hE])]
   exact ⟨h,by rw [h,List.length_take,HL.out];omega⟩
  go_enter Tryz.func14,Tryz.ntmps14
  go_wp2_with (first|(go_at_call 28;refine HSP.out.mono ?_;rintro e w1 ⟨rfl,rfl⟩)|(go_at_call 36;refine (HCP.out _ _ _ (by omega) (by omega)).mono ?_;rintro e w2 ⟨rfl,rfl⟩))
  go_ret
  refine ⟨w.heap.size,Nat.le_refl _,by rw [HR.out.2];rfl,.inr ⟨_,_,rfl,fun j v hj=>?_⟩,HWA.out⟩
  rw [HR.out.1,List.getElem?_map,List.getElem?_take] at hj
  split at hj
  ·cases hy:L[j]? with
   | none=>rw [hy] at hj;simp at hj
   | some y=>rw [hy] at hj;simp at hj;subst hj;rw [Nat.zero_add];exact HW.out j y hy
  ·simp at hj
 case false=>
  have HR:Hid (R=L∧R.length=k+1):=by
   have h:R=L:=by rw [HE.out,if_neg (by simp [hE])]
   exact ⟨h,by rw [h,HL.out]⟩
  go_enter Tryz.func14,Tryz.ntmps14
  go_wp2_with (first|(go_at_call 28;refine HSP.out.mono ?_;rintro e w1 ⟨rfl,rfl⟩)|(go_at_call 36;refine (HCP.out _ _ _ (by omega) (by omega)).mono ?_;rintro e w2 ⟨rfl,rfl⟩))
  go_ret
  refine ⟨w.heap.size,Nat.le_refl _,by rw [HR.out.2];rfl,.inr ⟨_,_,rfl,fun j v hj=>?_⟩,HWA.out⟩
  rw [HR.out.1,List.getElem?_map] at hj
  cases hy:L[j]? with
  | none=>rw [hy] at hj;simp at hj
  | some y=>rw [hy] at hj;simp at hj;subst hj;rw [Nat.zero_add];exact HW.out j y hy
structure CoW (w0 W:World) (b:Nat) (x:TourV) (ws:List (List UInt8)) (bad:Bool):Prop where
 be:Below w0.heap.size w0 W
 hb:w0.heap.size≤b
 st:∃A c B d lo hi,W.heap[b]? = some (.cells #[.int .i64 x.size,.slice A x.wins.length c,.slice B ws.length d,.bool bad] 54 (0,0))∧OwT W lo hi (.agg #[.int .i64 x.size,.slice A x.wins.length c]) x∧(w0.heap.size≤lo∧(b<lo∨hi≤b))∧SlV W B (strs ws)∧∀a,B=some a→a.block≠b
def CoP (w0 W:World) (b:Nat) (out:List UInt8) (x:TourV) (ws:List (List UInt8)) (bad:Bool) (e:Ending) (w':World):Prop:=
 e=.returned (.string ⟨out.toArray⟩)∧Keep b (b+1) W w'∧CoW w0 w' b x ws bad
theorem slV_keep {W W':World}{lo hi:Nat}{B:Option Addr}{vs:List Value} (h:SlV W B vs) (K:Keep lo hi W W') (hne:∀a,B=some a→a.block<lo∨hi≤a.block):SlV W' B vs:=by
 rcases h with h|⟨g,off,e,h⟩
 ·exact .inl h
 ·refine .inr ⟨g,off,e,fun k v hk=>?_⟩
  have hc:=h k v hk
  exact (K.cell (p:=⟨g,off+k,none⟩) (block_lt_of_cell (a:=⟨g,off+k,none⟩) hc) (show g<lo∨hi≤g from hne ⟨g,off,none⟩ e)).trans hc
theorem CoW.grow {w0 W W':World}{b:Nat}{x:TourV}{ws:List (List UInt8)}{bad:Bool} (h:CoW w0 W b x ws bad) (hb:Below W.heap.size W W'):CoW w0 W' b x ws bad:=by
 obtain ⟨be,h1,A,c,B,d,lo,hi,q1,q2,q3,q4,q5⟩:=h
 have hbs:=(Array.getElem?_eq_some_iff.1 q1).1
 have K:Keep W.heap.size W.heap.size W W':=Keep.of_below hb (Nat.le_refl _)
 refine ⟨be.trans (hb.mono be.size),h1,A,c,B,d,lo,hi,(hb.block _ hbs).trans q1,q2.grow hb,q3,slV_keep q4 (lo:=0) (hi:=0) (Keep.of_below hb (Nat.le_refl _)) (fun a _=>.inr (Nat.zero_le _)),q5⟩
def outT:Option TourV→List UInt8
 | none=>[110,111,110,101]
 | some y=>tourText y
theorem becomeCo {w0 W w1:World}{b:Nat}{x:TourV}{ws:List (List UInt8)}{bad:Bool}{v:Value}{ok:Bool}{o:Option TourV}{e:Ending} (h:CoW w0 W b x ws bad) (ht:tabP w0) (he:e=.returned (.tuple #[v,.bool ok])) (hr:TR W e w1 o):
  Calls Tryz.prog 62 #[.pointer (some ⟨b,0,none⟩),v,.bool ok] w1 fun e w'=>CoP w0 w1 b (outT o) (o.getD x) ws bad e w':=by
 obtain ⟨hb,hm⟩:=hr
 have h1:=h.grow hb
 subst he
 cases o with
 | none=>
  simp only [Ending.returned.injEq,Value.tuple.injEq] at hm
  have hv:v=.agg #[.int .i64 0,.slice none 0 0]:=by have:=congrArg (fun a:Array Value=>a[0]?) hm;simpa using this
  have ho:ok=false:=by have:=congrArg (fun a:Array Value=>a[1]?) hm;simpa using this
  subst hv;subst ho
  refine (becomeNone_any w1 _ ⟨0,[]⟩ b ⟨_,rfl,none,0,rfl,Nat.le_refl _,by decide,.inl rfl⟩).mono ?_
  rintro e w' ⟨rfl,hb2⟩
  exact ⟨rfl,Keep.of_below hb2 (Nat.le_refl _),h1.grow hb2⟩
 | some y=>
  obtain ⟨v',hv',ho⟩:=hm
  simp only [Ending.returned.injEq,Value.tuple.injEq] at hv'
  have hv:v=v':=by have:=congrArg (fun a:Array Value=>a[0]?) hv';simpa using this
  have hok:ok=true:=by have:=congrArg (fun a:Array Value=>a[1]?) hv';simpa using this
  subst hv;subst hok
  obtain ⟨be,hb0,A,c,B,d,lo,hi,q1,q2,q3,q4,q5⟩:=h1
  obtain ⟨be0,_,_,_,_,_,_,_,q1',_⟩:=h
  have hbs:=(Array.getElem?_eq_some_iff.1 q1').1
  refine (become_any w1 W.heap.size w1.heap.size b _ _ _ _ _ v y q1 ho hbs w0 ht be hb0).mono ?_
  rintro e w' ⟨rfl,K,A2,c2,rfl,q⟩
  exact ⟨rfl,K,be.trans (K.below hb0 be.size),hb0,A2,c2,B,d,W.heap.size,w1.heap.size,q,ho.keep K (.inr (by omega)),⟨be0.size,.inl hbs⟩,slV_keep q4 K (fun a ha=>by have:=q5 a ha;omega),q5⟩
theorem run2_any (w0 W:World) (b bq:Nat) (x:TourV) (ws:List (List UInt8)) (bad:Bool) (h:CoW w0 W b x ws bad) (ht:tabP w0) (hq:W.cell? ⟨bq,0,none⟩=some (.pointer (some ⟨b,0,none⟩))) (hbq:bq≠b):
  Calls Tryz.prog 64 #[.pointer (some ⟨bq,0,none⟩)] W fun e w'=>CoP w0 W b (outT (turnF x)) ((turnF x).getD x) ws bad e w':=by
 have hD:CoW w0 W.drew b x ws bad:=h.grow (below_of_drewN _ W 1)
 obtain ⟨be,hb0,A,c,B,d,lo,hi,q1,q2,q3,q4,q5⟩:=id h
 obtain ⟨c0,c1,-,-,-⟩:=con_cells q1
 have HTT0:=implTurnTour_any _ x W.drew (InT.below (w:=W) q2.in_ (below_of_drewN _ W 1))
 have HBC:Hid (∀w1 e v ok,e=.returned (.tuple #[v,.bool ok])→TR W.drew e w1 (turnF x)→Calls Tryz.prog 62 #[.pointer (some ⟨b,0,none⟩),v,.bool ok] w1 fun e w'=>CoP w0 w1 b (outT (turnF x)) ((turnF x).getD x) ws bad e w'):=fun w1 e v ok he hr=>becomeCo hD ht he hr
 have HTF:Hid (∀e w1,TR W.drew e w1 (turnF x)→∃v ok,e=.returned (.tuple #[v,.bool ok])):=fun e w1 hr=>by
  obtain ⟨_,hm⟩:=hr
  cases ho:turnF x with
  | none=>rw [ho] at hm;exact ⟨_,_,hm⟩
  | some y=>rw [ho] at hm;obtain ⟨v',hv,_⟩:=hm;exact ⟨_,_,hv⟩
 have HTT:Hid (Calls Tryz.prog 65 #[.agg #[.int .i64 x.size,.slice A x.wins.length c]] W.drew fun e w'=>∃v ok,e=.returned (.tuple #[v,.bool ok])∧TR W.drew e w' (turnF x)):=HTT0.mono fun e w' hr=>by
  obtain ⟨v,ok,he⟩:=HTF.out e w' hr
  exact ⟨v,ok,he,hr⟩
 clear hD q1 q2 q3 q4 q5 be h ht HTT0 HTF
 go_enter Tryz.func64,Tryz.ntmps64
 go_wp2_with fail
 have hqs:=block_lt_of_cell (a:=⟨bq,0,none⟩) hq
 have e0:W.drew.cell? ⟨b,0,none⟩=some (.int .i64 x.size):=c0
 have e1:W.drew.cell? ⟨b,1,none⟩=some (.slice A x.wins.length c):=c1
 have eq_:W.drew.cell? ⟨bq,0,none⟩=some (.pointer (some ⟨b,0,none⟩)):=hq
 have HQ1:Hid (∀w1,Below W.drew.heap.size W.drew w1→w1.cell? ⟨bq,0,none⟩=some (.pointer (some ⟨b,0,none⟩))∧bq<w1.heap.size):=fun w1 hb=>⟨(hb.cell (p:=⟨bq,0,none⟩) hqs).trans hq,Nat.lt_of_lt_of_le hqs hb.size⟩
 have HQ2:Hid (∀w1 w2,Below W.drew.heap.size W.drew w1→Keep b (b+1) w1 w2→w2.cell? ⟨bq,0,none⟩=some (.pointer (some ⟨b,0,none⟩))):=fun w1 w2 hb K=>(K.cell (p:=⟨bq,0,none⟩) (HQ1.out w1 hb).2 (by show bq<b∨b+1≤bq;omega)).trans (HQ1.out w1 hb).1
 refine wp_region_noPanic ?_
 refine wp_region_held_drew (S:=fun W=>W.cell? ⟨bq,0,none⟩=some (.pointer (some ⟨b,0,none⟩))) (by kernel_rfl) eq_ (fun hHeld=>?_)
 refine wT 0 (.pointer (some ⟨b,0,none⟩)) ?_
 try simp only [pu]
 refine wT 1 (.pointer (some ⟨b,0,none⟩)) ?_
 try simp only [pu]
 refine wT 2 (.pointer (some ⟨b,0,none⟩)) ?_
 try simp only [pu]
 refine wT 3 (.pointer (some ⟨b,0,none⟩)) ?_
 try simp only [pu]
 refine wR 4 (fun K hK=>?_)
 go_simp
 refine hK.out _ _ eq_ (fun hHeld=>?_)
 clear hK K
 try simp only [pu]
 refine wR 5 (fun K hK=>?_)
 go_simp
 go_at_call 65
 (with_reducible refine (HTT.out).mono ?_)
 rintro e w1 ⟨v1,ok1,rfl,hr1⟩
 have HR1:=Lib.hid hr1;clear hr1
 try (go_wp2_with fail)
 refine hK.out _ _ (HQ1.out w1 HR1.out.1).1 (fun hHeld=>?_)
 clear hK K
 try simp only [pu]
 refine wT 6 (v1) ?_
 try simp only [pu]
 refine wT 7 (.bool ok1) ?_
 try simp only [pu]
 refine wR 8 (fun K hK=>?_)
 go_simp
 go_at_call 62
 (with_reducible refine ((HBC.out _ _ _ _ rfl HR1.out)).mono ?_)
 rintro e w2 ⟨rfl,K2,h2⟩
 have H2:=Lib.hid (And.intro K2 h2);clear K2 h2
 try (go_wp2_with fail)
 refine hK.out _ _ (HQ2.out w1 w2 HR1.out.1 H2.out.1) (fun hHeld=>?_)
 clear hK K
 try simp only [pu]
 refine wR 9 (fun K hK=>?_)
 go_simp
 refine hK.out _ _ (HQ2.out w1 w2 HR1.out.1 H2.out.1) (fun hHeld=>?_)
 clear hK K
 try simp only [pu]
 refine wpAnyH_done (by kernel_rfl) ?_ _
 refine NoPanic.normal ?_
 go_wp2
 go_ret
 exact ⟨rfl,(Keep.of_below (Below.trans (below_of_drewN W.heap.size W 1) HR1.out.1) (Nat.le_refl _)).trans H2.out.1,H2.out.2⟩
theorem run1_any (w0 W:World) (b bq:Nat) (x:TourV) (ws:List (List UInt8)) (bad:Bool) (l:List UInt8) (h:CoW w0 W b x ws bad) (ht:tabP w0) (hl:ws[0]? = some l) (hll:l.length≤1048576) (he:errP W.drew) (hm:mlP W.drew) (hq:W.cell? ⟨bq,0,none⟩=some (.pointer (some ⟨b,0,none⟩))) (hbq:bq≠b):
  Calls Tryz.prog 61 #[.pointer (some ⟨bq,0,none⟩)] W fun e w'=>CoP w0 W b (outT (parF l)) ((parF l).getD x) ws bad e w':=by
 have hD:CoW w0 W.drew b x ws bad:=h.grow (below_of_drewN _ W 1)
 obtain ⟨be,hb0,A,c,B,d,lo,hi,q1,q2,q3,q4,q5⟩:=id h
 obtain ⟨-,-,c2,-,-⟩:=con_cells q1
 obtain ⟨g,off,u,rfl,hu,cu,-⟩:=q4.at_ (k:=0) (by rw [strs_length];have:=(List.getElem?_eq_some_iff.1 hl).1;omega)
 rw [strs_at hl] at hu
 injection hu with hu
 subst hu
 rw [Nat.add_zero] at cu
 have htD:tabP W.drew:=ht.below (below_drewL be) (Nat.le_refl _)
 have HTT0:=implParseTour_any ⟨l.toArray⟩ W.drew (by show l.toArray.size≤_;rw [List.size_toArray];exact hll) he htD hm
 have hn0:0<ws.length:=(List.getElem?_eq_some_iff.1 hl).1
 generalize ws.length=n at *
 have f1:¬n=0:=by omega
 have f2:0<n:=hn0
 have HBC:Hid (∀w1 e v ok,e=.returned (.tuple #[v,.bool ok])→TR W.drew e w1 (parF l)→Calls Tryz.prog 62 #[.pointer (some ⟨b,0,none⟩),v,.bool ok] w1 fun e w'=>CoP w0 w1 b (outT (parF l)) ((parF l).getD x) ws bad e w'):=fun w1 e v ok he hr=>becomeCo hD ht he hr
 have HTT:Hid (Calls Tryz.prog 63 #[.string ⟨l.toArray⟩] W.drew fun e w'=>∃v ok,e=.returned (.tuple #[v,.bool ok])∧TR W.drew e w' (parF l)):=HTT0.mono fun e w' hr=>by
  have hr2:TR W.drew e w' (parF l):=hr
  obtain ⟨_,hm⟩:=id hr2
  cases ho:parF l with
  | none=>rw [ho] at hm hr2;exact ⟨_,_,hm,hr2⟩
  | some y=>rw [ho] at hm hr2;obtain ⟨v',hv,_⟩:=hm;exact ⟨_,_,hv,hr2⟩
 clear hD q1 q2 q3 q4 q5 be h ht HTT0 htD he hm hll hl hn0
 go_enter Tryz.func61,Tryz.ntmps61
 go_wp2_with fail
 have hqs:=block_lt_of_cell (a:=⟨bq,0,none⟩) hq
 have e2:W.drew.cell? ⟨b,2,none⟩=some (.slice (some ⟨g,off,none⟩) n d):=c2
 have e3:W.drew.cell? ⟨g,off,none⟩=some (.string ⟨l.toArray⟩):=cu
 have eq_:W.drew.cell? ⟨bq,0,none⟩=some (.pointer (some ⟨b,0,none⟩)):=hq
 have HQ1:Hid (∀w1,Below W.drew.heap.size W.drew w1→w1.cell? ⟨bq,0,none⟩=some (.pointer (some ⟨b,0,none⟩))∧bq<w1.heap.size):=fun w1 hb=>⟨(hb.cell (p:=⟨bq,0,none⟩) hqs).trans hq,Nat.lt_of_lt_of_le hqs hb.size⟩
 have HQ2:Hid (∀w1 w2,Below W.drew.heap.size W.drew w1→Keep b (b+1) w1 w2→w2.cell? ⟨bq,0,none⟩=some (.pointer (some ⟨b,0,none⟩))):=fun w1 w2 hb K=>(K.cell (p:=⟨bq,0,none⟩) (HQ1.out w1 hb).2 (by show bq<b∨b+1≤bq;omega)).trans (HQ1.out w1 hb).1
 refine wp_region_noPanic ?_
 refine wp_region_held_drew (S:=fun W=>W.cell? ⟨bq,0,none⟩=some (.pointer (some ⟨b,0,none⟩))) (by kernel_rfl) eq_ (fun hHeld=>?_)
 refine wT 0 (.pointer (some ⟨b,0,none⟩)) ?_
 try simp only [pu]
 refine wT 1 (.pointer (some ⟨b,0,none⟩)) ?_
 try simp only [pu]
 refine wT 2 (.pointer (some ⟨b,0,none⟩)) ?_
 try simp only [pu]
 refine wT 3 (.pointer (some ⟨b,2,none⟩)) ?_
 try simp only [pu]
 refine wR 4 (fun K hK=>?_)
 go_simp
 refine hK.out _ _ eq_ (fun hHeld=>?_)
 clear hK K
 try simp only [pu]
 refine wT 5 (.pointer (some ⟨g,off,none⟩)) ?_
 try simp only [pu]
 refine wR 6 (fun K hK=>?_)
 go_simp
 refine hK.out _ _ eq_ (fun hHeld=>?_)
 clear hK K
 try simp only [pu]
 refine wR 7 (fun K hK=>?_)
 go_simp
 go_at_call 63
 (with_reducible refine (HTT.out).mono ?_)
 rintro e w1 ⟨v1,ok1,rfl,hr1⟩
 have HR1:=Lib.hid hr1;clear hr1
 try (go_wp2_with fail)
 refine hK.out _ _ (HQ1.out w1 HR1.out.1).1 (fun hHeld=>?_)
 clear hK K
 try simp only [pu]
 refine wT 8 (v1) ?_
 try simp only [pu]
 refine wT 9 (.bool ok1) ?_
 try simp only [pu]
 refine wR 10 (fun K hK=>?_)
 go_simp
 go_at_call 62
 (with_reducible refine ((HBC.out _ _ _ _ rfl HR1.out)).mono ?_)
 rintro e w2 ⟨rfl,K2,h2⟩
 have H2:=Lib.hid (And.intro K2 h2);clear K2 h2
 try (go_wp2_with fail)
 refine hK.out _ _ (HQ2.out w1 w2 HR1.out.1 H2.out.1) (fun hHeld=>?_)
 clear hK K
 try simp only [pu]
 refine wR 11 (fun K hK=>?_)
 go_simp
 refine hK.out _ _ (HQ2.out w1 w2 HR1.out.1 H2.out.1) (fun hHeld=>?_)
 clear hK K
 try simp only [pu]
 refine wpAnyH_done (by kernel_rfl) ?_ _
 refine NoPanic.normal ?_
 go_wp2
 go_ret
 exact ⟨rfl,(Keep.of_below (Below.trans (below_of_drewN W.heap.size W 1) HR1.out.1) (Nat.le_refl _)).trans H2.out.1,H2.out.2⟩
end Go.Proofs.YtkapoldjcpfdgaaGreatDoor
