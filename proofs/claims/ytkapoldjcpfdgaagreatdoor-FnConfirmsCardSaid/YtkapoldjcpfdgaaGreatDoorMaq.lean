/- SquareTour: the program's (printed by print/csq.py). -/
import Derived.Test.YtkapoldjcpfdgaaGreatDoorMaj
set_option maxHeartbeats 2000000
set_option maxRecDepth 100000
namespace Go.Proofs.YtkapoldjcpfdgaaGreatDoor
open Go.ChangeShapes Go.WideShapes Go.ChangeAt Go.RowKit
def rotL (n:Nat) (l:List Int):List Int:=rwL (fun a b=>l.contains (((b:Int)-a+n)%n)) n
def squareF (p:Int):Option TourV:=if p=3 then some ⟨3,rotL 3 [1]⟩ else if p=7 then some ⟨7,rotL 7 [1,2,4]⟩ else none
theorem isConn3_any (A:Option Addr) (c:Nat) (w:World) (hs:SlI w A [1]):
  Calls Tryz.prog 251 #[.int .i64 3,.slice A 1 c] w fun e w'=>e=.returned (.bool true)∧Below w.heap.size w w':=by
 have HS:=Lib.hid hs
 have HC:Hid (∀W (y:Int),Below w.heap.size w W→Calls Tryz.prog 253 #[.slice A 1 c,.int .i64 y] W fun e w'=>e=.returned (.bool (([1]:List Int).contains y))∧W=w'):=fun W y hW=>containsI_any A c [1] y W (HS.out.below hW) (by decide)
 clear hs
 go_enter Tryz.func251,Tryz.ntmps251
 go_wp2
 go_loopw [23] (fun i wr=>∃k:Nat,k≤1∧i=.int .i64 (k:Int)∧Hid (Below w.heap.size w wr)) (fun i _=>1-(intOf i).toNat)
 case atStart=>exact ⟨0,by omega,rfl,Below.refl _ _⟩
 case round=>
  obtain ⟨k,hk,rfl,HR⟩:=hrel
  by_cases hlt:k<1
  case neg=>
   obtain rfl:k=1:=by omega
   go_wp2
   go_ret
   exact ⟨rfl,HR.out⟩
  obtain ⟨b,off,y,rfl,hy,cy,-⟩:=(HS.out.below HR.out).at_ (k:=k) hlt
  obtain rfl:k=0:=by omega
  obtain rfl:1=y:=by simpa using hy
  rw [Nat.add_zero] at cy
  clear hy
  go_wp2_with fail
  refine (within_any 1 1 2 _).mono ?_
  rintro e w1 ⟨rfl,rfl⟩
  rw [show inB 1 1 2=true by decide]
  go_wp2_with fail
  refine (HC.out _ _ HR.out).mono ?_
  rintro e w1 ⟨rfl,rfl⟩
  rw [show ([1]:List Int).contains 2=false by decide]
  go_wp2
  go_roundw
  case rel=>exact ⟨1,by omega,rfl,HR.out⟩
  case measure=>simp [intOf]
theorem isConn7_any (A:Option Addr) (c:Nat) (w:World) (hs:SlI w A [1,2,4]):
  Calls Tryz.prog 251 #[.int .i64 7,.slice A 3 c] w fun e w'=>e=.returned (.bool true)∧Below w.heap.size w w':=by
 have HS:=Lib.hid hs
 have HC:Hid (∀W (y:Int),Below w.heap.size w W→Calls Tryz.prog 253 #[.slice A 3 c,.int .i64 y] W fun e w'=>e=.returned (.bool (([1,2,4]:List Int).contains y))∧W=w'):=fun W y hW=>containsI_any A c [1,2,4] y W (HS.out.below hW) (by decide)
 clear hs
 go_enter Tryz.func251,Tryz.ntmps251
 go_wp2
 go_loopw [23] (fun i wr=>∃k:Nat,k≤3∧i=.int .i64 (k:Int)∧Hid (Below w.heap.size w wr)) (fun i _=>3-(intOf i).toNat)
 case atStart=>exact ⟨0,by omega,rfl,Below.refl _ _⟩
 case round=>
  obtain ⟨k,hk,rfl,HR⟩:=hrel
  by_cases hlt:k<3
  case neg=>
   obtain rfl:k=3:=by omega
   go_wp2
   go_ret
   exact ⟨rfl,HR.out⟩
  obtain ⟨b,off,y,rfl,hy,cy,-⟩:=(HS.out.below HR.out).at_ (k:=k) hlt
  rcases (by omega:k=0∨k=1∨k=2) with rfl|rfl|rfl
  ·obtain rfl:1=y:=by simpa using hy
   rw [Nat.add_zero] at cy
   clear hy
   go_wp2_with fail
   refine (within_any 1 1 6 _).mono ?_
   rintro e w1 ⟨rfl,rfl⟩
   rw [show inB 1 1 6=true by decide]
   go_wp2_with fail
   refine (HC.out _ _ HR.out).mono ?_
   rintro e w1 ⟨rfl,rfl⟩
   rw [show ([1,2,4]:List Int).contains 6=false by decide]
   go_wp2
   go_roundw
   case rel=>exact ⟨1,by omega,rfl,HR.out⟩
   case measure=>simp [intOf]
  ·obtain rfl:2=y:=by simpa using hy
   obtain ⟨b2,off2,y2,e2,hy2,cy2,-⟩:=(HS.out.below HR.out).at_ (k:=0) (by decide)
   injection e2 with e2;injection e2 with e2 e3;subst e2;subst e3
   obtain rfl:1=y2:=by simpa using hy2
   clear hy2
   rw [Nat.add_zero] at cy2
   clear hy
   go_wp2_with fail
   refine (within_any 2 1 6 _).mono ?_
   rintro e w1 ⟨rfl,rfl⟩
   rw [show inB 2 1 6=true by decide]
   go_wp2_with fail
   refine (HC.out _ _ HR.out).mono ?_
   rintro e w1 ⟨rfl,rfl⟩
   rw [show ([1,2,4]:List Int).contains 5=false by decide]
   go_wp2
   go_roundw
   case rel=>exact ⟨2,by omega,rfl,HR.out⟩
   case measure=>simp [intOf]
  ·obtain rfl:4=y:=by simpa using hy
   obtain ⟨b2,off2,y2,e2,hy2,cy2,-⟩:=(HS.out.below HR.out).at_ (k:=1) (by decide)
   injection e2 with e2;injection e2 with e2 e3;subst e2;subst e3
   obtain rfl:2=y2:=by simpa using hy2
   clear hy2
   clear hy
   go_wp2_with fail
   refine (within_any 4 1 6 _).mono ?_
   rintro e w1 ⟨rfl,rfl⟩
   rw [show inB 4 1 6=true by decide]
   go_wp2_with fail
   refine (HC.out _ _ HR.out).mono ?_
   rintro e w1 ⟨rfl,rfl⟩
   rw [show ([1,2,4]:List Int).contains 3=false by decide]
   go_wp2
   go_roundw
   case rel=>exact ⟨3,by omega,rfl,HR.out⟩
   case measure=>simp [intOf]
structure RsAt (w W:World) (r:Nat):Prop where
 z0:W.cell? ⟨r,0,none⟩=some (.int .i64 0)
 z1:W.cell? ⟨r,1,none⟩=some (.slice none 0 0)
 f0:W.frozen? ⟨r,0,none⟩=false
 f1:W.frozen? ⟨r,1,none⟩=false
 lt:r<W.heap.size
 lo:w.heap.size≤r
 be:Below w.heap.size w W
theorem RsAt.below {w W W2:World}{r:Nat} (h:RsAt w W r) (hb:Below W.heap.size W W2):RsAt w W2 r:=by
 have kz:Keep 0 0 W W2:=Keep.of_below hb (Nat.le_refl _)
 exact ⟨(hb.cell (p:=⟨r,0,none⟩) h.lt).trans h.z0,(hb.cell (p:=⟨r,1,none⟩) h.lt).trans h.z1,(kz.frozen (p:=⟨r,0,none⟩) h.lt (.inr (Nat.zero_le _))).trans h.f0,(kz.frozen (p:=⟨r,1,none⟩) h.lt (.inr (Nat.zero_le _))).trans h.f1,
  Nat.lt_of_lt_of_le h.lt hb.size,h.lo,h.be.trans (hb.mono h.be.size)⟩
theorem RsAt.start {w W:World} (hb:Below w.heap.size w W):RsAt w (W.alloc (.cells #[.int .i64 0,.slice none 0 0] 27)) W.heap.size:=
 ⟨by simp,by simp,by rw [frozen?_alloc_cells];simp [World.frozen?],by rw [frozen?_alloc_cells];simp [World.frozen?],by simp,hb.size,hb.alloc hb.size _⟩
theorem RsAt.zero {w W:World}{r:Nat} (h:RsAt w W r):Below w.heap.size w ((W.setCell ⟨r,0,none⟩ (.int .i64 0)).setCell ⟨r,1,none⟩ (.slice none 0 0)):=by
 have KP:Keep r (r+1) W ((W.setCell ⟨r,0,none⟩ (.int .i64 0)).setCell ⟨r,1,none⟩ (.slice none 0 0)):=
  ((Keep.refl _ _ _).setCell (p:=⟨r,0,none⟩) (Nat.le_refl _) (Nat.lt_succ_self _) _).setCell (p:=⟨r,1,none⟩) (Nat.le_refl _) (Nat.lt_succ_self _) _
 exact h.be.trans (KP.below h.lo h.be.size)
theorem RsAt.store {w W:World}{r:Nat}{v:Value}{z:TourV} (h:RsAt w W r) {W0:World} (hz:r+1≤W0.heap.size) (ho:OwT W W0.heap.size W.heap.size v z):
  ∃A c,v=.agg #[.int .i64 z.size,.slice A z.wins.length c]∧OwT ((W.setCell ⟨r,0,none⟩ (.int .i64 z.size)).setCell ⟨r,1,none⟩ (.slice A z.wins.length c)) w.heap.size ((W.setCell ⟨r,0,none⟩ (.int .i64 z.size)).setCell ⟨r,1,none⟩ (.slice A z.wins.length c)).heap.size v z ∧
   Below w.heap.size w ((W.setCell ⟨r,0,none⟩ (.int .i64 z.size)).setCell ⟨r,1,none⟩ (.slice A z.wins.length c)):=by
 obtain ⟨A,c,rfl⟩:=ho.form
 have KP:Keep r (r+1) W ((W.setCell ⟨r,0,none⟩ (.int .i64 z.size)).setCell ⟨r,1,none⟩ (.slice A z.wins.length c)):=
  ((Keep.refl _ _ _).setCell (p:=⟨r,0,none⟩) (Nat.le_refl _) (Nat.lt_succ_self _) _).setCell (p:=⟨r,1,none⟩) (Nat.le_refl _) (Nat.lt_succ_self _) _
 obtain ⟨u,e,hf⟩:=ho
 refine ⟨A,c,rfl,⟨u,e,(hf.keep KP (.inr hz)).wide (Nat.le_trans (Nat.le_trans h.lo (Nat.le_succ r)) hz) KP.size (Nat.le_refl _)⟩,h.be.trans (KP.below h.lo h.be.size)⟩
theorem rot1_any (n L c g o bn bl:Nat) (l:List Int) (a b:Nat) (W:World) (hn:1≤n∧n≤8) (ha:a<n) (hb:b<n) (hl:l.length=L) (hL:L≤8) (hs:SlI W (some ⟨g,o,none⟩) l) (c0:W.cell? ⟨bn,0,none⟩=some (.int .i64 (n:Int))) (c1:W.cell? ⟨bl,0,none⟩=some (.slice (some ⟨g,o,none⟩) L c)):
  Calls Tryz.prog 252 #[.int .i64 (a:Int),.int .i64 (b:Int),.pointer (some ⟨bl,0,none⟩),.pointer (some ⟨bn,0,none⟩)] W fun e W'=>e=.returned (.bool (l.contains (((b:Int)-a+n)%n)))∧Below W.heap.size W W':=by
 have HC:Hid (∀(y:Int),Calls Tryz.prog 253 #[.slice (some ⟨g,o,none⟩) L c,.int .i64 y] W.drew fun e w'=>e=.returned (.bool (l.contains y))∧W.drew=w'):=fun y=>by
  have h:=containsI_any (some ⟨g,o,none⟩) c l y W.drew hs.drew (by omega)
  rw [hl] at h
  exact h
 have f1:IntKind.i64.wrap ((b:Int)-a)=(b:Int)-a:=by rw [IntKind.wrap_i64];omega
 have f2:IntKind.i64.wrap ((b:Int)-a+n)=(b:Int)-a+n:=by rw [IntKind.wrap_i64];omega
 have f3:((n:Int)==0)=false:=by simp;omega
 have f7:¬((n:Int)=0):=by omega
 have f8:¬(n=0):=by omega
 have f4:Int.tmod ((b:Int)-a+n) (n:Int)=((b:Int)-a+n)%n:=Int.tmod_eq_emod_of_nonneg (by omega)
 have f5:0≤((b:Int)-a+n)%n∧((b:Int)-a+n)%n<n:=⟨Int.emod_nonneg _ (by omega),Int.emod_lt_of_pos _ (by omega)⟩
 obtain ⟨Z,hZ⟩:∃Z,((b:Int)-a+n)%n=Z:=⟨_,rfl⟩
 rw [hZ] at f4 f5
 rw [hZ]
 have f6:IntKind.i64.wrap Z=Z:=by rw [IntKind.wrap_i64];omega
 clear hs hZ f5 hl ha hb
 go_enter Tryz.func252,Tryz.ntmps252
 go_wp2_with fail
 go_region_held3 (fun V=>V.cell? ⟨bn,0,none⟩=some (.int .i64 (n:Int))∧V.cell? ⟨bl,0,none⟩=some (.slice (some ⟨g,o,none⟩) L c)) (exact ⟨c0,c1⟩) ((go_at_call 253;refine (HC.out _).mono ?_;rintro e w1 ⟨rfl,rfl⟩))
 go_wp2
 go_ret
 exact ⟨ret_bool (by simp),below_drewL (Below.refl _ _)⟩
theorem rot3_any (g o c:Nat) (w:World) (hs:SlI w (some ⟨g,o,none⟩) [1]):
  Calls Tryz.prog 167 #[.int .i64 3,.slice (some ⟨g,o,none⟩) 1 c] w fun e w'=>TR w e w' (some ⟨3,rotL 3 [1]⟩):=by
 have HS:=Lib.hid hs
 have HB1:Hid (Below w.heap.size w ((w.alloc (.cells #[.int .i64 3] 3)).alloc (.cells #[.slice (some ⟨g,o,none⟩) 1 c] 25))):=((Below.refl _ w).alloc (Nat.le_refl _) _).alloc (by simp) _
 have H0:Hid (RsAt w (((w.alloc (.cells #[.int .i64 3] 3)).alloc (.cells #[.slice (some ⟨g,o,none⟩) 1 c] 25)).alloc (.cells #[.int .i64 0,.slice none 0 0] 27)) (w.heap.size+2) ∧
   (((w.alloc (.cells #[.int .i64 3] 3)).alloc (.cells #[.slice (some ⟨g,o,none⟩) 1 c] 25)).alloc (.cells #[.int .i64 0,.slice none 0 0] 27)).cell? ⟨w.heap.size,0,none⟩=some (.int .i64 3) ∧
   (((w.alloc (.cells #[.int .i64 3] 3)).alloc (.cells #[.slice (some ⟨g,o,none⟩) 1 c] 25)).alloc (.cells #[.int .i64 0,.slice none 0 0] 27)).cell? ⟨w.heap.size+1,0,none⟩=some (.slice (some ⟨g,o,none⟩) 1 c)):=
  ⟨by have h:=RsAt.start HB1.out;rw [World.size_alloc,World.size_alloc] at h;exact h,by simp [go_sem],by simp [go_sem]⟩
 have HBX:Hid (∀W W2,RsAt w W (w.heap.size+2)∧W.cell? ⟨w.heap.size,0,none⟩=some (.int .i64 3)∧W.cell? ⟨w.heap.size+1,0,none⟩=some (.slice (some ⟨g,o,none⟩) 1 c)→Below W.heap.size W W2→RsAt w W2 (w.heap.size+2)∧W2.cell? ⟨w.heap.size,0,none⟩=some (.int .i64 3)∧W2.cell? ⟨w.heap.size+1,0,none⟩=some (.slice (some ⟨g,o,none⟩) 1 c)):=fun W W2 h hb=>
  ⟨h.1.below hb,(hb.cell (p:=⟨w.heap.size,0,none⟩) (by have:=h.1.lt;show w.heap.size<_;omega)).trans h.2.1,(hb.cell (p:=⟨w.heap.size+1,0,none⟩) (by have:=h.1.lt;show w.heap.size+1<_;omega)).trans h.2.2⟩
 clear hs
 go_enter Tryz.func167,Tryz.ntmps167
 go_wp2_with fail
 refine (isConn3_any _ c _ (SlI.below HS.out H0.out.1.be)).mono ?_
 rintro e w1 ⟨rfl,hb1⟩
 have H1:=Lib.hid (HBX.out _ _ H0.out hb1)
 clear hb1
 obtain ⟨q0,q1⟩:=id H1.out.2
 go_wp2_with fail
 refine (tourOf_any 3 252 #[.pointer (some ⟨w.heap.size+1,0,none⟩),.pointer (some ⟨w.heap.size,0,none⟩)] (fun a b=>([1]:List Int).contains (((b:Int)-a+(3:Nat))%(3:Nat))) w1 (by decide) (by decide) (fun _ _=>by kernel_rfl) (fun V a b hV ha hb=>by
  obtain ⟨k1,k2,k3⟩:=HBX.out _ _ H1.out hV
  exact rot1_any 3 1 c g o w.heap.size (w.heap.size+1) [1] a b V (by decide) ha hb rfl (by decide) (SlI.below HS.out k1.be) k2 k3)).mono ?_
 rintro e w9 ⟨v9,rfl,hf9,hb9⟩
 have H9:=Lib.hid (HBX.out _ _ H1.out hb9)
 have ho9:OwT w9 w1.heap.size w9.heap.size (.agg #[.int .i64 3,v9]) ⟨3,rotL 3 [1]⟩:=⟨_,rfl,hf9⟩
 have z2:=H1.out.1.lt
 obtain ⟨A9,c9,e9,hst9,hbe9⟩:=H9.out.1.store z2 ho9
 obtain rfl:v9=.slice A9 (rotL 3 [1]).length c9:=by simpa using e9
 have HST9:=Lib.hid (And.intro hst9 hbe9)
 clear hb9 ho9 hst9 hbe9 q0 q1 z2 hf9 e9
 obtain ⟨z0,z1,f0,f1,-⟩:=id H9.out.1
 go_wp2
 refine bodyPost_ret (v:=.tuple #[.agg #[.int .i64 3,.slice A9 (rotL 3 [1]).length c9],.bool true]) (by simp [results,Tryz.results167,go_sem,z0,z1]) rfl ?_
 exact ⟨HST9.out.2,_,rfl,HST9.out.1⟩
theorem rot7_any (g o c:Nat) (w:World) (hs:SlI w (some ⟨g,o,none⟩) [1,2,4]):
  Calls Tryz.prog 167 #[.int .i64 7,.slice (some ⟨g,o,none⟩) 3 c] w fun e w'=>TR w e w' (some ⟨7,rotL 7 [1,2,4]⟩):=by
 have HS:=Lib.hid hs
 have HB1:Hid (Below w.heap.size w ((w.alloc (.cells #[.int .i64 7] 3)).alloc (.cells #[.slice (some ⟨g,o,none⟩) 3 c] 25))):=((Below.refl _ w).alloc (Nat.le_refl _) _).alloc (by simp) _
 have H0:Hid (RsAt w (((w.alloc (.cells #[.int .i64 7] 3)).alloc (.cells #[.slice (some ⟨g,o,none⟩) 3 c] 25)).alloc (.cells #[.int .i64 0,.slice none 0 0] 27)) (w.heap.size+2) ∧
   (((w.alloc (.cells #[.int .i64 7] 3)).alloc (.cells #[.slice (some ⟨g,o,none⟩) 3 c] 25)).alloc (.cells #[.int .i64 0,.slice none 0 0] 27)).cell? ⟨w.heap.size,0,none⟩=some (.int .i64 7) ∧
   (((w.alloc (.cells #[.int .i64 7] 3)).alloc (.cells #[.slice (some ⟨g,o,none⟩) 3 c] 25)).alloc (.cells #[.int .i64 0,.slice none 0 0] 27)).cell? ⟨w.heap.size+1,0,none⟩=some (.slice (some ⟨g,o,none⟩) 3 c)):=
  ⟨by have h:=RsAt.start HB1.out;rw [World.size_alloc,World.size_alloc] at h;exact h,by simp [go_sem],by simp [go_sem]⟩
 have HBX:Hid (∀W W2,RsAt w W (w.heap.size+2)∧W.cell? ⟨w.heap.size,0,none⟩=some (.int .i64 7)∧W.cell? ⟨w.heap.size+1,0,none⟩=some (.slice (some ⟨g,o,none⟩) 3 c)→Below W.heap.size W W2→RsAt w W2 (w.heap.size+2)∧W2.cell? ⟨w.heap.size,0,none⟩=some (.int .i64 7)∧W2.cell? ⟨w.heap.size+1,0,none⟩=some (.slice (some ⟨g,o,none⟩) 3 c)):=fun W W2 h hb=>
  ⟨h.1.below hb,(hb.cell (p:=⟨w.heap.size,0,none⟩) (by have:=h.1.lt;show w.heap.size<_;omega)).trans h.2.1,(hb.cell (p:=⟨w.heap.size+1,0,none⟩) (by have:=h.1.lt;show w.heap.size+1<_;omega)).trans h.2.2⟩
 clear hs
 go_enter Tryz.func167,Tryz.ntmps167
 go_wp2_with fail
 refine (isConn7_any _ c _ (SlI.below HS.out H0.out.1.be)).mono ?_
 rintro e w1 ⟨rfl,hb1⟩
 have H1:=Lib.hid (HBX.out _ _ H0.out hb1)
 clear hb1
 obtain ⟨q0,q1⟩:=id H1.out.2
 go_wp2_with fail
 refine (tourOf_any 7 252 #[.pointer (some ⟨w.heap.size+1,0,none⟩),.pointer (some ⟨w.heap.size,0,none⟩)] (fun a b=>([1,2,4]:List Int).contains (((b:Int)-a+(7:Nat))%(7:Nat))) w1 (by decide) (by decide) (fun _ _=>by kernel_rfl) (fun V a b hV ha hb=>by
  obtain ⟨k1,k2,k3⟩:=HBX.out _ _ H1.out hV
  exact rot1_any 7 3 c g o w.heap.size (w.heap.size+1) [1,2,4] a b V (by decide) ha hb rfl (by decide) (SlI.below HS.out k1.be) k2 k3)).mono ?_
 rintro e w9 ⟨v9,rfl,hf9,hb9⟩
 have H9:=Lib.hid (HBX.out _ _ H1.out hb9)
 have ho9:OwT w9 w1.heap.size w9.heap.size (.agg #[.int .i64 7,v9]) ⟨7,rotL 7 [1,2,4]⟩:=⟨_,rfl,hf9⟩
 have z2:=H1.out.1.lt
 obtain ⟨A9,c9,e9,hst9,hbe9⟩:=H9.out.1.store z2 ho9
 obtain rfl:v9=.slice A9 (rotL 7 [1,2,4]).length c9:=by simpa using e9
 have HST9:=Lib.hid (And.intro hst9 hbe9)
 clear hb9 ho9 hst9 hbe9 q0 q1 z2 hf9 e9
 obtain ⟨z0,z1,f0,f1,-⟩:=id H9.out.1
 go_wp2
 refine bodyPost_ret (v:=.tuple #[.agg #[.int .i64 7,.slice A9 (rotL 7 [1,2,4]).length c9],.bool true]) (by simp [results,Tryz.results167,go_sem,z0,z1]) rfl ?_
 exact ⟨HST9.out.2,_,rfl,HST9.out.1⟩
theorem square3_any (w:World):Calls Tryz.prog 78 #[.int .i64 3] w fun e w'=>TR w e w' (some ⟨3,rotL 3 [1]⟩):=by
 have H0:=Lib.hid (RsAt.start (w:=w) (W:=w) (Below.refl _ _))
 have HB:Hid (Below w.heap.size w ((w.alloc (.cells #[.int .i64 0,.slice none 0 0] 27)).alloc (.cells #[.int .i64 1] 3))∧RsAt w ((w.alloc (.cells #[.int .i64 0,.slice none 0 0] 27)).alloc (.cells #[.int .i64 1] 3)) w.heap.size):=
  ⟨(((Below.refl _ w).alloc (Nat.le_refl _) _).alloc (by simp) _),H0.out.below ((Below.refl _ _).alloc (Nat.le_refl _) _)⟩
 have HS:Hid (SlI ((w.alloc (.cells #[.int .i64 0,.slice none 0 0] 27)).alloc (.cells #[.int .i64 1] 3)) (some ⟨w.heap.size+1,0,none⟩) [1]):=by
  have h:=(Fr.of_own (xs:=[1]) (World.ownsRow_lit (base:=w.heap.size+1) (e:=3) (size:=1) (w.alloc (.cells #[.int .i64 0,.slice none 0 0] 27)) #[.int .i64 1] 1 (by simp) (by unfold maxLen;omega) rfl)).sl
  rw [World.size_alloc] at h
  exact h
 go_enter Tryz.func78,Tryz.ntmps78
 go_wp2_with fail
 refine (rot3_any (w.heap.size+1) 0 1 _ HS.out).mono ?_
 rintro e w9 ⟨hb9,v9,rfl,ho9⟩
 have hb9':=hb9
 have H9:=Lib.hid (HB.out.2.below hb9')
 have z2:=H0.out.lt
 obtain ⟨A9,c9,rfl,hst9,hbe9⟩:=H9.out.store (by have:=HB.out.2.lt;simp [go_sem]) ho9
 have HST9:=Lib.hid (And.intro hst9 hbe9)
 clear hb9 hb9' ho9 hst9 hbe9 z2
 obtain ⟨z0,z1,f0,f1,-⟩:=id H9.out
 go_wp2
 refine bodyPost_ret (v:=.tuple #[.agg #[.int .i64 3,.slice A9 (rotL 3 [1]).length c9],.bool true]) (by simp [results,Tryz.results78,go_sem,z0,z1]) rfl ?_
 exact ⟨HST9.out.2,_,rfl,HST9.out.1⟩
theorem square7_any (w:World):Calls Tryz.prog 78 #[.int .i64 7] w fun e w'=>TR w e w' (some ⟨7,rotL 7 [1,2,4]⟩):=by
 have H0:=Lib.hid (RsAt.start (w:=w) (W:=w) (Below.refl _ _))
 have HB:Hid (Below w.heap.size w ((w.alloc (.cells #[.int .i64 0,.slice none 0 0] 27)).alloc (.cells #[.int .i64 1,.int .i64 2,.int .i64 4] 3))∧RsAt w ((w.alloc (.cells #[.int .i64 0,.slice none 0 0] 27)).alloc (.cells #[.int .i64 1,.int .i64 2,.int .i64 4] 3)) w.heap.size):=
  ⟨(((Below.refl _ w).alloc (Nat.le_refl _) _).alloc (by simp) _),H0.out.below ((Below.refl _ _).alloc (Nat.le_refl _) _)⟩
 have HS:Hid (SlI ((w.alloc (.cells #[.int .i64 0,.slice none 0 0] 27)).alloc (.cells #[.int .i64 1,.int .i64 2,.int .i64 4] 3)) (some ⟨w.heap.size+1,0,none⟩) [1,2,4]):=by
  have h:=(Fr.of_own (xs:=[1,2,4]) (World.ownsRow_lit (base:=w.heap.size+1) (e:=3) (size:=1) (w.alloc (.cells #[.int .i64 0,.slice none 0 0] 27)) #[.int .i64 1,.int .i64 2,.int .i64 4] 3 (by simp) (by unfold maxLen;omega) rfl)).sl
  rw [World.size_alloc] at h
  exact h
 go_enter Tryz.func78,Tryz.ntmps78
 go_wp2_with fail
 refine (rot7_any (w.heap.size+1) 0 3 _ HS.out).mono ?_
 rintro e w9 ⟨hb9,v9,rfl,ho9⟩
 have hb9':=hb9
 have H9:=Lib.hid (HB.out.2.below hb9')
 have z2:=H0.out.lt
 obtain ⟨A9,c9,rfl,hst9,hbe9⟩:=H9.out.store (by have:=HB.out.2.lt;simp [go_sem]) ho9
 have HST9:=Lib.hid (And.intro hst9 hbe9)
 clear hb9 hb9' ho9 hst9 hbe9 z2
 obtain ⟨z0,z1,f0,f1,-⟩:=id H9.out
 go_wp2
 refine bodyPost_ret (v:=.tuple #[.agg #[.int .i64 7,.slice A9 (rotL 7 [1,2,4]).length c9],.bool true]) (by simp [results,Tryz.results78,go_sem,z0,z1]) rfl ?_
 exact ⟨HST9.out.2,_,rfl,HST9.out.1⟩
theorem implSquare_any (p:Int) (w:World):Calls Tryz.prog 78 #[.int .i64 p] w fun e w'=>TR w e w' (squareF p):=by
 unfold squareF
 by_cases h3:p=3
 ·rw [if_pos h3,h3];exact square3_any w
 by_cases h7:p=7
 ·rw [if_neg h3,if_pos h7,h7];exact square7_any w
 rw [if_neg h3,if_neg h7]
 have e3:(p==3)=false:=by simpa using h3
 have e7:(p==7)=false:=by simpa using h7
 have H0:=Lib.hid (RsAt.start (w:=w) (W:=w) (Below.refl _ _))
 clear h3 h7
 go_enter Tryz.func78,Tryz.ntmps78
 go_wp2
 refine bodyPost_ret (v:=.tuple #[.agg #[.int .i64 0,.slice none 0 0],.bool false]) (by simp [results,Tryz.results78,go_sem]) rfl ⟨(Below.refl _ w).alloc (Nat.le_refl _) _,rfl⟩
end Go.Proofs.YtkapoldjcpfdgaaGreatDoor
