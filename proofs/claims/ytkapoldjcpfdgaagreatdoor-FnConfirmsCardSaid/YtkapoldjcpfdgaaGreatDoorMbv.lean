/- strings.Builder.WriteString at a builder: the walk (the shelf's does not fit this program's copyCheck). -/
import Derived.Lib.Builder
import Derived.Lib.AppendStr
import Derived.Lib.UnsafeStr
import Derived.Laws.Externs
import Derived.Test.YtkapoldjcpfdgaaGreatDoorMbu
set_option maxHeartbeats 4000000
set_option maxRecDepth 100000
namespace Go.Proofs.YtkapoldjcpfdgaaGreatDoor
open Go.ChangeShapes Go.WideShapes Go.ChangeAt Go.RowKit
theorem splitB_cut (sp:UInt8):∀(k:Nat) (s:ByteArray),Lib.countB s ⟨#[sp]⟩=k→(Lib.splitB ⟨#[sp]⟩ 0 k s).map (fun b=>b.data.toList)=cutB sp s.data.toList:=by
 intro k
 induction k with
 | zero=>
  intro s hk
  rcases Lib.indexB_cases s ⟨#[sp]⟩ with h|⟨i,h,hi⟩
  ·rw [Lib.splitB_miss _ _ _ _ h]
   have h':Lib.indexByte s.data.toList sp = -1:=(Lib.index_one s.data.toList sp).symm.trans h
   rw [cut_miss h'];rfl
  ·rw [Lib.countB_hit s ⟨#[sp]⟩ i (Nat.le_refl 1) h] at hk;omega
 | succ k ih=>
  intro s hk
  rcases Lib.indexB_cases s ⟨#[sp]⟩ with h|⟨i,h,hi⟩
  ·rw [Lib.countB_miss s _ h] at hk;omega
  ·rw [Lib.countB_hit s ⟨#[sp]⟩ i (Nat.le_refl 1) h] at hk
   have h':Lib.indexByte s.data.toList sp=(i:Int):=(Lib.index_one s.data.toList sp).symm.trans h
   rw [Lib.splitB_hit _ _ _ _ i h,(cut_hit h').1,List.map_cons,ih _ (by omega),Lib.extract_from_zero,Lib.extract_to_end]
   rfl
theorem splitB_strs (sp:UInt8) (s:ByteArray):(Lib.splitB ⟨#[sp]⟩ 0 (Lib.countB s ⟨#[sp]⟩) s).map Value.string=strs (cutB sp s.data.toList):=by
 rw [←splitB_cut sp _ s rfl]
 unfold strs
 rw [List.map_map]
 refine List.map_congr_left fun b _=>?_
 simp
def linesF (l:List UInt8):List (List UInt8):=if (cutB 10 l).getLast? = some [] then (cutB 10 l).dropLast else cutB 10 l
theorem linesL_strs (s:ByteArray):(linesL s).map Value.string=strs (linesF s.data.toList):=by
 have h:=splitB_cut 10 _ s rfl
 have hl:(Lib.splitB ⟨#[10]⟩ 0 (Lib.countB s ⟨#[10]⟩) s).length=Lib.countB s ⟨#[10]⟩+1:=Lib.splitB_all ⟨#[10]⟩ (by decide) 0 _ s rfl
 unfold linesL linesF
 rw [←h]
 generalize Lib.splitB ⟨#[10]⟩ 0 (Lib.countB s ⟨#[10]⟩) s=L at *
 generalize Lib.countB s ⟨#[10]⟩=k at *
 have key:∀M:List ByteArray,M.map Value.string=strs (M.map fun b=>b.data.toList):=fun M=>by
  unfold strs
  rw [List.map_map]
  refine List.map_congr_left fun b _=>?_
  simp
 have e1:(L.map fun b=>b.data.toList).getLast? = L[k]?.map fun b=>b.data.toList:=by
  rw [List.getLast?_eq_getElem?,List.length_map,hl,List.getElem?_map];rfl
 have e2:(L.map fun b=>b.data.toList).dropLast=(L.take k).map fun b=>b.data.toList:=by
  rw [List.dropLast_eq_take,List.length_map,hl,List.map_take];rfl
 rw [e1,e2]
 obtain ⟨x,hx⟩:∃x,L[k]? = some x:=⟨_,List.getElem?_eq_getElem (by omega)⟩
 rw [hx]
 have hc:((some x).map fun l=>l.toList.isEmpty)=some true↔((some x).map fun b:ByteArray=>b.data.toList)=some []:=by
  simp only [Option.map_some,Option.some.injEq]
  rw [ByteArray.toList_eq x]
  cases x.data.toList<;>simp
 by_cases hE:((some x).map fun l=>l.toList.isEmpty)=some true
 ·rw [if_pos hE,if_pos (hc.1 hE)];exact key _
 ·rw [if_neg hE,if_neg (fun e=>hE (hc.2 e))];exact key _
theorem linesL_len (s:ByteArray):(linesL s).length=(linesF s.data.toList).length:=by
 have:=congrArg List.length (linesL_strs s)
 rwa [List.length_map,strs_length] at this
theorem splitLines_any (l:List UInt8) (w:World) (hs:l.length≤1048576) (hm:mlP w):
  Calls Tryz.prog 14 #[.string ⟨l.toArray⟩] w fun e w'=>∃g,w.heap.size≤g∧e=.returned (.slice (some ⟨g,0,none⟩) (linesF l).length (linesF l).length)∧SlV w' (some ⟨g,0,none⟩) (strs (linesF l))∧Below w.heap.size w w':=by
 have h:=implSplitLines_any ⟨l.toArray⟩ w (by show l.toArray.size≤_;rw [List.size_toArray];exact hs) hm
 rw [linesL_len,linesL_strs] at h
 exact h
def unkW:List UInt8:=[117,110,107,110,111,119,110,32,99,111,109,109,97,110,100]
def ansL (x:TourV):Option (List UInt8 × TourV)→TourV × List UInt8
 | none=>(x,unkW)
 | some r=>(r.2,r.1)
def lineA (x:TourV) (l:List UInt8):TourV × List UInt8:=
 if l = []∨l.head? = some 35 then (x,[]) else ansL x (runF x ((cutB 32 l).headD []) (cutB 32 l).tail)
theorem OwT.hi {w:World}{lo hi:Nat}{v:Value}{x:TourV} (h:OwT w lo hi v x):hi≤w.heap.size:=by
 obtain ⟨u,_,hf⟩:=h
 exact hf.2.2
structure RlB (w V:World) (x:TourV) (A:Option Addr) (c:Nat):Prop where
 bx:Bx V w.heap.size (.int .i64 x.size) (.slice A x.wins.length c)
 rs:RsAt w V (w.heap.size+1)
 sz:V.heap.size=w.heap.size+2
theorem rlB_start (w:World) (x:TourV) (A:Option Addr) (c:Nat):RlB w ((w.alloc (.cells #[.int .i64 x.size,.slice A x.wins.length c] 27)).alloc (.cells #[.int .i64 0,.slice none 0 0] 27)) x A c:=by
 have hb:Below w.heap.size w (w.alloc (.cells #[.int .i64 x.size,.slice A x.wins.length c] 27)):=(Below.refl _ w).alloc (Nat.le_refl _) _
 have h:=RsAt.start (w:=w) (W:=w.alloc (.cells #[.int .i64 x.size,.slice A x.wins.length c] 27)) hb
 have s1:(w.alloc (.cells #[.int .i64 x.size,.slice A x.wins.length c] 27)).heap.size=w.heap.size+1:=World.size_alloc _ _
 refine ⟨?_,?_,?_⟩
 ·exact (show Bx (w.alloc (.cells #[.int .i64 x.size,.slice A x.wins.length c] 27)) w.heap.size (.int .i64 x.size) (.slice A x.wins.length c) from ⟨by simp,by simp,by simp⟩).below ((Below.refl _ _).alloc (Nat.le_refl _) _)
 ·rw [←s1];exact h
 ·rw [World.size_alloc,s1]
theorem rlStore {w V W:World}{x z:TourV}{A:Option Addr}{c lo hi:Nat}{A1:Option Addr}{c1:Nat} (h:RlB w V x A c) (hb:Below V.heap.size V W) (ho:OwT W lo hi (.agg #[.int .i64 z.size,.slice A1 z.wins.length c1]) z) (hlo:V.heap.size≤lo):
  OwT ((W.setCell ⟨w.heap.size+1,0,none⟩ (.int .i64 z.size)).setCell ⟨w.heap.size+1,1,none⟩ (.slice A1 z.wins.length c1)) w.heap.size ((W.setCell ⟨w.heap.size+1,0,none⟩ (.int .i64 z.size)).setCell ⟨w.heap.size+1,1,none⟩ (.slice A1 z.wins.length c1)).heap.size (.agg #[.int .i64 z.size,.slice A1 z.wins.length c1]) z ∧
  Below w.heap.size w ((W.setCell ⟨w.heap.size+1,0,none⟩ (.int .i64 z.size)).setCell ⟨w.heap.size+1,1,none⟩ (.slice A1 z.wins.length c1)):=by
 have ho2:OwT W V.heap.size W.heap.size (.agg #[.int .i64 z.size,.slice A1 z.wins.length c1]) z:=ho.wide hlo ho.hi (Nat.le_refl _)
 obtain ⟨A',c',e,h1,h2⟩:=(h.rs.below hb).store (W0:=V) (by have:=h.sz;omega) ho2
 injection e with e
 have e2:(Value.slice A1 z.wins.length c1)=.slice A' z.wins.length c':=by
  have:=congrArg (fun a:Array Value=>a[1]?) e
  simpa using this
 injection e2 with e3 _ e4
 subst e3;subst e4
 exact ⟨h1,h2⟩
theorem runLine_same (v:Value) (x:TourV) (l:List UInt8) (w:World) (hs:InT w v x) (hx:x.wins.length≤1048576) (hl:l.length≤1048576) (hn:l = []∨l.head? = some 35):
  Calls Tryz.prog 9 #[v,.string ⟨l.toArray⟩] w fun e w'=>∃v',e=.returned (.tuple #[v',.string ⟨#[]⟩])∧OwT w' w.heap.size w'.heap.size v' x∧Below w.heap.size w w':=by
 have HIT:=Lib.hid hs
 obtain ⟨u,rfl,A,c,rfl,hc,hm,hts⟩:=hs
 obtain ⟨V0,hV0⟩:∃V,V=((w.alloc (.cells #[.int .i64 x.size,.slice A x.wins.length c] 27)).alloc (.cells #[.int .i64 0,.slice none 0 0] 27)):=⟨_,rfl⟩
 have HR:Hid (RlB w V0 x A c):=by rw [hV0];exact rlB_start w x A c
 have HCP:Hid (∀W,Below w.heap.size w W→Calls Tryz.prog 27 #[.agg #[.int .i64 x.size,.slice A x.wins.length c]] W fun e w'=>∃A2 c2,e=.returned (.agg #[.int .i64 x.size,.slice A2 x.wins.length c2])∧OwT w' W.heap.size w'.heap.size (.agg #[.int .i64 x.size,.slice A2 x.wins.length c2]) x∧Below W.heap.size W w'):=fun W hW=>
  (copied_any _ x W (HIT.out.below hW) hx).mono fun e w' ⟨v',he,ho,hb⟩=>by
   obtain ⟨A2,c2,rfl⟩:=ho.form
   exact ⟨A2,c2,he,ho,hb⟩
 clear hts hc hm
 rcases hn with rfl|hn
 ·go_enter Tryz.func9,Tryz.ntmps9
  go_wp2_with fail
  rw [←hV0]
  clear hV0
  refine (HCP.out V0 HR.out.rs.be).mono ?_
  rintro e w2 ⟨A2,c2,rfl,ho,hb⟩
  obtain ⟨z0,z1,f0,f1,-⟩:=id (HR.out.rs.below hb)
  have HS:=Lib.hid (rlStore HR.out hb ho (Nat.le_refl _))
  clear ho hb
  go_wp2
  refine bodyPost_ret (v:=.tuple #[.agg #[.int .i64 x.size,.slice A2 x.wins.length c2],.string ⟨#[]⟩]) (by simp [results,Tryz.results9,go_sem,z0,z1]) rfl ?_
  exact ⟨_,rfl,HS.out.1,HS.out.2⟩
 ·cases l with
  | nil=>simp at hn
  | cons y r=>
   simp only [List.head?_cons,Option.some.injEq] at hn
   subst hn
   go_enter Tryz.func9,Tryz.ntmps9
   go_wp2_with fail
   rw [←hV0]
   clear hV0
   refine (HCP.out V0 HR.out.rs.be).mono ?_
   rintro e w2 ⟨A2,c2,rfl,ho,hb⟩
   obtain ⟨z0,z1,f0,f1,-⟩:=id (HR.out.rs.below hb)
   have HS:=Lib.hid (rlStore HR.out hb ho (Nat.le_refl _))
   clear ho hb
   go_wp2
   refine bodyPost_ret (v:=.tuple #[.agg #[.int .i64 x.size,.slice A2 x.wins.length c2],.string ⟨#[]⟩]) (by simp [results,Tryz.results9,go_sem,z0,z1]) rfl ?_
   exact ⟨_,rfl,HS.out.1,HS.out.2⟩
theorem splitW_any (l:List UInt8) (w:World) (hs:l.length≤1048576) (hm:mlP w):
  Calls Tryz.prog 28 #[.string ⟨l.toArray⟩,.string ⟨#[32]⟩] w fun e w'=>∃g,e=.returned (.slice (some ⟨g,0,none⟩) (cutB 32 l).length (cutB 32 l).length)∧SlV w' (some ⟨g,0,none⟩) (strs (cutB 32 l))∧g<w'.heap.size∧Below w.heap.size w w':=by
 obtain ⟨m,hm⟩:=hm
 have hl:(Lib.splitB ⟨#[32]⟩ 0 (Lib.countB ⟨l.toArray⟩ ⟨#[32]⟩) ⟨l.toArray⟩).length=Lib.countB ⟨l.toArray⟩ ⟨#[32]⟩+1:=Lib.splitB_all ⟨#[32]⟩ (by decide) 0 _ _ rfl
 have e:=splitB_strs 32 ⟨l.toArray⟩
 have e2:(cutB 32 l).length=Lib.countB ⟨l.toArray⟩ ⟨#[32]⟩+1:=by
  have:=congrArg List.length e
  rw [List.length_map,strs_length] at this
  rw [←hl];exact this.symm
 have ea:(⟨l.toArray⟩:ByteArray).data.toList=l:=rfl
 rw [ea] at e
 refine (Tryz.strings_Split ⟨l.toArray⟩ ⟨#[32]⟩ m w (by show l.toArray.size<_;rw [List.size_toArray];omega) hm (by decide)).mono ?_
 rintro e' w' ⟨rfl,rfl⟩
 rw [e]
 refine ⟨w.heap.size,by rw [e2],.inr ⟨_,_,rfl,fun j v hj=>?_⟩,by simp,(Below.refl _ w).alloc (Nat.le_refl _) _⟩
 rw [Nat.zero_add]
 simp [hj]
theorem rl_word {W:World}{g:Nat}{w0:List UInt8}{rest:List (List UInt8)} (h:SlV W (some ⟨g,0,none⟩) (strs (w0 :: rest))):W.cell? ⟨g,0,none⟩=some (.string ⟨w0.toArray⟩):=by
 rcases h with h|⟨b,off,e,h⟩
 ·simp [strs] at h
 ·injection e with e
  injection e with e1 e2
  subst e1;subst e2
  exact h 0 _ rfl
theorem rl_rest {W W2:World}{B g:Nat}{w0:List UInt8}{rest:List (List UInt8)} (h:SlV W (some ⟨g,0,none⟩) (strs (w0 :: rest))) (hb:Below B W W2) (hg:g<W.heap.size) (hB:W.heap.size≤B:=by exact Nat.le_refl _):SlV W2 (some ⟨g,1,none⟩) (strs rest):=by
 rcases h with h|⟨b,off,e,h⟩
 ·simp [strs] at h
 ·injection e with e
  injection e with e1 e2
  subst e1;subst e2
  refine .inr ⟨_,_,rfl,fun j v hj=>?_⟩
  have h1:=h (j+1) v (by rw [show strs (w0 :: rest)=.string ⟨w0.toArray⟩ :: strs rest from rfl,List.getElem?_cons_succ];exact hj)
  rw [show 0+(j+1)=1+j by omega] at h1
  exact ((hb.mono hB).cell (p:=⟨g,1+j,none⟩) hg).trans h1
theorem conBox {V W:World}{x:TourV}{ws:List (List UInt8)}{A B:Option Addr}{c d lo hi:Nat} (h:OwT W lo hi (.agg #[.int .i64 x.size,.slice A x.wins.length c]) x) (hb:Below V.heap.size V W) (hlo:V.heap.size≤lo) (hw:SlV W B (strs ws)) (hB:∀a,B=some a→a.block<W.heap.size):
  CoW V (W.alloc (.cells #[.int .i64 x.size,.slice A x.wins.length c,.slice B ws.length d,.bool false] 54)) W.heap.size x ws false:=by
 have hal:Below W.heap.size W (W.alloc (.cells #[.int .i64 x.size,.slice A x.wins.length c,.slice B ws.length d,.bool false] 54)):=(Below.refl _ W).alloc (Nat.le_refl _) _
 refine ⟨hb.trans (hal.mono hb.size),hb.size,A,c,B,d,lo,hi,(MapKept.heap_alloc W _).1,h.grow hal,⟨hlo,.inr h.hi⟩,hw.keep fun p hp=>hal.cell hp,fun a ha=>?_⟩
 have:=hB a ha
 omega
theorem runLine_go (v:Value) (x:TourV) (y:UInt8) (r:List UInt8) (w0':List UInt8) (rest:List (List UInt8)) (w:World) (hs:InT w v x) (hx:x.wins.length≤1048576) (hc:ComP w) (hl:(y :: r).length≤1048576) (hn:y≠35) (hw:cutB 32 (y :: r)=w0' :: rest):
  Calls Tryz.prog 9 #[v,.string ⟨(y :: r).toArray⟩] w fun e w'=>∃v',e=.returned (.tuple #[v',.string ⟨(ansL x (runF x w0' rest)).2.toArray⟩])∧OwT w' w.heap.size w'.heap.size v' (ansL x (runF x w0' rest)).1∧Below w.heap.size w w':=by
 have HIT:=Lib.hid hs
 obtain ⟨u,rfl,A,c,rfl,hc2,hm,hts⟩:=hs
 obtain ⟨V0,hV0⟩:∃V,V=((w.alloc (.cells #[.int .i64 x.size,.slice A x.wins.length c] 27)).alloc (.cells #[.int .i64 0,.slice none 0 0] 27)):=⟨_,rfl⟩
 have HR:Hid (RlB w V0 x A c):=by rw [hV0];exact rlB_start w x A c
 have HC0:Hid (ComP V0):=hc.below HR.out.rs.be
 have HCP:Hid (∀W,Below w.heap.size w W→Calls Tryz.prog 27 #[.agg #[.int .i64 x.size,.slice A x.wins.length c]] W fun e w'=>∃A2 c2,e=.returned (.agg #[.int .i64 x.size,.slice A2 x.wins.length c2])∧OwT w' W.heap.size w'.heap.size (.agg #[.int .i64 x.size,.slice A2 x.wins.length c2]) x∧Below W.heap.size W w'):=fun W hW=>
  (copied_any _ x W (HIT.out.below hW) hx).mono fun e w' ⟨v',he,ho,hb⟩=>by
   obtain ⟨A2,c2,rfl⟩:=ho.form
   exact ⟨A2,c2,he,ho,hb⟩
 have HSP0:=splitW_any (y :: r) V0 hl HC0.out.2.2
 rw [hw] at HSP0
 have hwl:(w0' :: rest).length≤1048577∧∀z∈w0' :: rest,z.length≤1048576:=by
  rw [←hw]
  have h1:=cutB_length 32 (y :: r)
  exact ⟨by omega,fun z hz=>Nat.le_trans (cutB_word 32 _ z hz) hl⟩
 have HWL:=Lib.hid hwl
 obtain ⟨n,hn'⟩:∃n,rest.length=n:=⟨_,rfl⟩
 have HN:Hid (rest.length=n):=hn'
 rw [List.length_cons,hn'] at HSP0
 have HSP:=Lib.hid HSP0
 have hy:∀h,((((⟨(y :: r).toArray⟩:ByteArray)[0]'h).toNat:Int)==35)=false:=fun h=>by
  show ((y.toNat:Int)==35)=false
  rw [beq_eq_false_iff_ne]
  intro e
  exact hn (UInt8.toNat_inj.1 (by show y.toNat=35;omega))
 clear hts hc2 hm hc HSP0 hwl hn' hw hl hn
 go_enter Tryz.func9,Tryz.ntmps9
 go_wp2_with fail
 rw [←hV0]
 clear hV0 hy
 refine HSP.out.mono ?_
 rintro e w1 ⟨g,rfl,hsl,hg,hb⟩
 have B1:=Lib.hid hb
 have S1:=Lib.hid (And.intro hsl hg)
 have X1:Hid (Bx w1 w.heap.size (.int .i64 x.size) (.slice A x.wins.length c)):=HR.out.bx.below hb
 obtain ⟨q0,q1,-⟩:=id X1.out
 have BW1:Hid (Below w.heap.size w w1.drew):=below_drewL (HR.out.rs.be.trans (hb.mono HR.out.rs.be.size))
 have D1:Hid (Below V0.heap.size V0 w1.drew):=below_drewL hb
 clear hb hsl hg HSP
 cases n with
 | zero=>
  go_wp2_with fail
  go_region_held3 (fun W=>W.cell? ⟨w.heap.size,0,none⟩=some (.int .i64 x.size)∧W.cell? ⟨w.heap.size,1,none⟩=some (.slice A x.wins.length c)) (first|exact ⟨q0,q1⟩|exact ⟨X2.out.1,X2.out.2.1⟩|exact ⟨X3.out.1,X3.out.2.1⟩|go_keep) (first
   | (go_at_call 27;refine (HCP.out _ BW1.out).mono ?_;rintro e w2 ⟨A2,c2,rfl,ho,hb⟩;have X2:Hid (Bx w2 w.heap.size (.int .i64 x.size) (.slice A x.wins.length c)):=X1.out.below (w':=w2) ((below_of_drewN _ w1 1).trans hb);have H2:=Lib.hid (And.intro ho hb);clear ho hb))
  have HCO:Hid (CoW V0 (w2.alloc (.cells #[.int .i64 x.size,.slice A2 x.wins.length c2,.slice (some ⟨g,0,none⟩) 0 0,.bool false] 54)) w2.heap.size x rest false):=by
   have h:=conBox (V:=V0) (ws:=rest) (d:=0) H2.out.1 (D1.out.trans (H2.out.2.mono D1.out.size)) D1.out.size (B:=some ⟨g,0,none⟩) (.inl (by rw [List.eq_nil_of_length_eq_zero HN.out];rfl)) (fun a ha=>by
    injection ha with ha
    subst ha
    exact Nat.lt_of_lt_of_le S1.out.2 H2.out.2.size)
   rw [HN.out] at h
   exact h
  have hwc:(w2.alloc (.cells #[.int .i64 x.size,.slice A2 x.wins.length c2,.slice (some ⟨g,0,none⟩) 0 0,.bool false] 54)).cell? ⟨g,0,none⟩=some (.string ⟨w0'.toArray⟩):=by
   have h1:=rl_word S1.out.1
   have hal:Below w2.heap.size w2 (w2.alloc (.cells #[.int .i64 x.size,.slice A2 x.wins.length c2,.slice (some ⟨g,0,none⟩) 0 0,.bool false] 54)):=(Below.refl _ w2).alloc (Nat.le_refl _) _
   have h2:w2.cell? ⟨g,0,none⟩=some (.string ⟨w0'.toArray⟩):=(H2.out.2.cell (p:=⟨g,0,none⟩) S1.out.2).trans h1
   exact (hal.cell (p:=⟨g,0,none⟩) (block_lt_of_cell (a:=⟨g,0,none⟩) h2)).trans h2
  clear X1 X2 D1 BW1 S1 B1 q0 q1
  generalize hb3:w2.heap.size=b3 at *
  generalize w2.alloc (.cells #[.int .i64 x.size,.slice A2 x.wins.length c2,.slice (some ⟨g,0,none⟩) 0 0,.bool false] 54)=w3 at *
  clear H2 hb3
  have HWL2:Hid ((∀z∈rest,z.length≤1048576)∧w0'.length≤1048576):=⟨fun z hz=>HWL.out.2 z (List.mem_cons_of_mem _ hz),HWL.out.2 _ (List.mem_cons_self ..)⟩
  go_wp2_with fail
  refine (run_any V0 w3 b3 x rest w0' HCO.out HC0.out HWL2.out.1 HWL2.out.2).mono ?_
  rintro e w4 ⟨out,yy,bad,⟨rfl,hK,hC⟩,hob⟩
  have hbe:=hC.be
  obtain ⟨A5,c5,B5,d5,lo5,hi5,hA5⟩:=hC.names
  obtain ⟨k0,k1,k2,k3,-⟩:=con_cells hA5.cl
  obtain ⟨q0,q1,-⟩:=HR.out.bx.below hbe
  have B4:=Lib.hid hbe
  have A5':=Lib.hid hA5
  clear hK hC hbe HCO hA5 hwc k2
  cases bad with
  | true=>
   have HE:Hid (runF x w0' rest=none):=hob
   clear hob k0 k1
   go_wp2_with fail
   refine (HCP.out w4 (HR.out.rs.be.trans (B4.out.mono HR.out.rs.be.size))).mono ?_
   rintro e w5 ⟨A6,c6,rfl,ho,hb⟩
   have hb6:Below V0.heap.size V0 w5:=B4.out.trans (hb.mono B4.out.size)
   obtain ⟨z0,z1,f0,f1,-⟩:=id (HR.out.rs.below hb6)
   have HS:=Lib.hid (rlStore HR.out hb6 ho B4.out.size)
   clear ho hb hb6 q0 q1 k3
   go_wp2
   refine bodyPost_ret (v:=.tuple #[.agg #[.int .i64 x.size,.slice A6 x.wins.length c6],.string ⟨unkW.toArray⟩]) (by simp [results,Tryz.results9,go_sem,z0,z1];rfl) rfl ?_
   rw [HE.out]
   exact ⟨_,rfl,HS.out.1,HS.out.2⟩
  | false=>
   have HE:Hid (runF x w0' rest=some (out,yy)):=hob
   clear hob
   obtain ⟨z0,z1,f0,f1,-⟩:=id (HR.out.rs.below B4.out)
   have HS:=Lib.hid (rlStore HR.out B4.out A5'.out.ow A5'.out.ap.1)
   clear q0 q1
   go_wp2
   refine bodyPost_ret (v:=.tuple #[.agg #[.int .i64 yy.size,.slice A5 yy.wins.length c5],.string ⟨out.toArray⟩]) (by simp [results,Tryz.results9,go_sem,z0,z1]) rfl ?_
   rw [HE.out]
   exact ⟨_,rfl,HS.out.1,HS.out.2⟩
 | succ k=>
  have hk1:(1:Int)≤(k:Int)+1+1:=by omega
  have hk2:¬(k:Int)+1+1<1:=by omega
  go_wp2_with fail
  go_region_held3 (fun W=>W.cell? ⟨w.heap.size,0,none⟩=some (.int .i64 x.size)∧W.cell? ⟨w.heap.size,1,none⟩=some (.slice A x.wins.length c)) (first|exact ⟨q0,q1⟩|exact ⟨X2.out.1,X2.out.2.1⟩|exact ⟨X3.out.1,X3.out.2.1⟩|go_keep) (first
   | (go_at_call 27;refine (HCP.out _ BW1.out).mono ?_;rintro e w2 ⟨A2,c2,rfl,ho,hb⟩;have X2:Hid (Bx w2 w.heap.size (.int .i64 x.size) (.slice A x.wins.length c)):=X1.out.below (w':=w2) ((below_of_drewN _ w1 1).trans hb);have H2:=Lib.hid (And.intro ho hb);clear ho hb))
  have HCO:Hid (CoW V0 (w2.alloc (.cells #[.int .i64 x.size,.slice A2 x.wins.length c2,.slice (some ⟨g,1,none⟩) (k+1) (k+1),.bool false] 54)) w2.heap.size x rest false):=by
   have h:=conBox (V:=V0) (ws:=rest) (d:=(k+1)) H2.out.1 (D1.out.trans (H2.out.2.mono D1.out.size)) D1.out.size (B:=some ⟨g,1,none⟩) (rl_rest S1.out.1 ((below_of_drewN _ w1 1).trans H2.out.2) S1.out.2) (fun a ha=>by
    injection ha with ha
    subst ha
    exact Nat.lt_of_lt_of_le S1.out.2 H2.out.2.size)
   rw [HN.out] at h
   exact h
  have hwc:(w2.alloc (.cells #[.int .i64 x.size,.slice A2 x.wins.length c2,.slice (some ⟨g,1,none⟩) (k+1) (k+1),.bool false] 54)).cell? ⟨g,0,none⟩=some (.string ⟨w0'.toArray⟩):=by
   have h1:=rl_word S1.out.1
   have hal:Below w2.heap.size w2 (w2.alloc (.cells #[.int .i64 x.size,.slice A2 x.wins.length c2,.slice (some ⟨g,1,none⟩) (k+1) (k+1),.bool false] 54)):=(Below.refl _ w2).alloc (Nat.le_refl _) _
   have h2:w2.cell? ⟨g,0,none⟩=some (.string ⟨w0'.toArray⟩):=(H2.out.2.cell (p:=⟨g,0,none⟩) S1.out.2).trans h1
   exact (hal.cell (p:=⟨g,0,none⟩) (block_lt_of_cell (a:=⟨g,0,none⟩) h2)).trans h2
  clear X1 X2 D1 BW1 S1 B1 q0 q1
  generalize hb3:w2.heap.size=b3 at *
  generalize w2.alloc (.cells #[.int .i64 x.size,.slice A2 x.wins.length c2,.slice (some ⟨g,1,none⟩) (k+1) (k+1),.bool false] 54)=w3 at *
  clear H2 hb3
  have HWL2:Hid ((∀z∈rest,z.length≤1048576)∧w0'.length≤1048576):=⟨fun z hz=>HWL.out.2 z (List.mem_cons_of_mem _ hz),HWL.out.2 _ (List.mem_cons_self ..)⟩
  go_wp2_with fail
  refine (run_any V0 w3 b3 x rest w0' HCO.out HC0.out HWL2.out.1 HWL2.out.2).mono ?_
  rintro e w4 ⟨out,yy,bad,⟨rfl,hK,hC⟩,hob⟩
  have hbe:=hC.be
  obtain ⟨A5,c5,B5,d5,lo5,hi5,hA5⟩:=hC.names
  obtain ⟨k0,k1,k2,k3,-⟩:=con_cells hA5.cl
  obtain ⟨q0,q1,-⟩:=HR.out.bx.below hbe
  have B4:=Lib.hid hbe
  have A5':=Lib.hid hA5
  clear hK hC hbe HCO hA5 hwc k2
  cases bad with
  | true=>
   have HE:Hid (runF x w0' rest=none):=hob
   clear hob k0 k1
   go_wp2_with fail
   refine (HCP.out w4 (HR.out.rs.be.trans (B4.out.mono HR.out.rs.be.size))).mono ?_
   rintro e w5 ⟨A6,c6,rfl,ho,hb⟩
   have hb6:Below V0.heap.size V0 w5:=B4.out.trans (hb.mono B4.out.size)
   obtain ⟨z0,z1,f0,f1,-⟩:=id (HR.out.rs.below hb6)
   have HS:=Lib.hid (rlStore HR.out hb6 ho B4.out.size)
   clear ho hb hb6 q0 q1 k3
   go_wp2
   refine bodyPost_ret (v:=.tuple #[.agg #[.int .i64 x.size,.slice A6 x.wins.length c6],.string ⟨unkW.toArray⟩]) (by simp [results,Tryz.results9,go_sem,z0,z1];rfl) rfl ?_
   rw [HE.out]
   exact ⟨_,rfl,HS.out.1,HS.out.2⟩
  | false=>
   have HE:Hid (runF x w0' rest=some (out,yy)):=hob
   clear hob
   obtain ⟨z0,z1,f0,f1,-⟩:=id (HR.out.rs.below B4.out)
   have HS:=Lib.hid (rlStore HR.out B4.out A5'.out.ow A5'.out.ap.1)
   clear q0 q1
   go_wp2
   refine bodyPost_ret (v:=.tuple #[.agg #[.int .i64 yy.size,.slice A5 yy.wins.length c5],.string ⟨out.toArray⟩]) (by simp [results,Tryz.results9,go_sem,z0,z1]) rfl ?_
   rw [HE.out]
   exact ⟨_,rfl,HS.out.1,HS.out.2⟩
theorem runLine_any (v:Value) (x:TourV) (l:List UInt8) (w:World) (hs:InT w v x) (hx:x.wins.length≤1048576) (hc:ComP w) (hl:l.length≤1048576):
  Calls Tryz.prog 9 #[v,.string ⟨l.toArray⟩] w fun e w'=>∃v',e=.returned (.tuple #[v',.string ⟨(lineA x l).2.toArray⟩])∧OwT w' w.heap.size w'.heap.size v' (lineA x l).1∧Below w.heap.size w w':=by
 by_cases hn:l = []∨l.head? = some 35
 ·have e:lineA x l=(x,[]):=by unfold lineA;rw [if_pos hn]
  rw [e]
  exact runLine_same v x l w hs hx hl hn
 ·have e:lineA x l=ansL x (runF x ((cutB 32 l).headD []) (cutB 32 l).tail):=by unfold lineA;rw [if_neg hn]
  rw [e]
  cases l with
  | nil=>exact absurd (.inl rfl) hn
  | cons y r=>
   cases hw:cutB 32 (y :: r) with
   | nil=>exact absurd hw (cutB_ne 32 _)
   | cons w0' rest=>exact runLine_go v x y r w0' rest w hs hx hc hl (fun h=>hn (.inr (by rw [h];rfl))) hw
theorem copyCheck_used (b:Nat) (w:World) (h0:w.cell? ⟨b,0,none⟩=some (.pointer (some ⟨b,0,none⟩))):
  Calls Tryz.prog 109 #[.pointer (some ⟨b,0,none⟩)] w fun e w'=>e=.returned (.tuple #[])∧w'=w:=by
 obtain ⟨j,hj,_⟩:=Option.map_eq_some_iff.1 (show (Tryz.prog.info? 58).map (·.size)=some 2 from by kernel_rfl)
 go_enter Tryz.func109,Tryz.ntmps109
 go_wp2
 rw [Lib.run_neq_ptr_same w _ Tryz.underlying56 hj]
 go_wp2
 refine bodyPost_end (v:=.tuple #[]) (by simp [results,go_sem]) rfl ?_
 exact ⟨rfl,rfl⟩
theorem copyCheck_fresh (b:Nat) (w:World) (h0:w.cell? ⟨b,0,none⟩=some (.pointer none)) (hsh:w.shape? b=some (58,2)) (hfz:w.frozen? ⟨b,0,none⟩=false):
  Calls Tryz.prog 109 #[.pointer (some ⟨b,0,none⟩)] w fun e w'=>e=.returned (.tuple #[])∧w'=w.setCell ⟨b,0,none⟩ (.pointer (some ⟨b,0,none⟩)):=by
 obtain ⟨j,hj,hjs⟩:=Option.map_eq_some_iff.1 (show (Tryz.prog.info? 58).map (·.size)=some 2 from by kernel_rfl)
 go_enter Tryz.func109,Tryz.ntmps109
 go_wp2
 rw [Lib.run_to_unsafe w ⟨b,0,none⟩ Tryz.underlying56 Tryz.underlying144 hj (by rw [hjs];decide) hsh (Nat.zero_lt_succ 1)]
 simp only [Result.andThen]
 rw [Oper.upon_value]
 go_wp2
 rw [run_callFunc_extern Tryz.func191 (by kernel_rfl) (by kernel_rfl) (by kernel_rfl) (e:=Extern.AbiNoEscape.same) (by kernel_rfl)]
 rw [Lib.run_noEscape]
 simp only [Result.andThen]
 rw [Oper.upon_value]
 go_wp2
 rw [Lib.run_from_unsafe w ⟨b,0,none⟩ Tryz.underlying144 Tryz.underlying56 hj hsh (by kernel_rfl)]
 simp only [Result.andThen]
 rw [Oper.upon_value]
 go_wp2
 refine bodyPost_end (v:=.tuple #[]) (by simp [results,go_sem]) rfl ?_
 exact ⟨rfl,rfl⟩
abbrev IsBu (B b:Nat) (bs:List Value) (w:World):Prop:=Lib.IsBuilder 58 5 B b bs w
abbrev BuAt (B b:Nat) (bs:List Value) (w:World):Prop:=Lib.BuilderAt 58 5 B b (.pointer (some ⟨b,0,none⟩)) bs w
theorem copyCheck_any (B b:Nat) (bs:List Value) (w:World) (h:IsBu B b bs w):
  Calls Tryz.prog 109 #[.pointer (some ⟨b,0,none⟩)] w fun e w'=>e=.returned (.tuple #[])∧BuAt B b bs w'∧Below B w w'∧Keep b (b+1) w w':=by
 rcases h with h|h
 ·refine (copyCheck_fresh b w h.cell0 h.shape h.frozen0).mono ?_
  rintro e w' ⟨rfl,rfl⟩
  exact ⟨rfl,h.used _,(Below.refl B w).setCell (p:=⟨b,0,none⟩) h.1 _,Keep.setCell (p:=⟨b,0,none⟩) (Keep.refl b (b+1) w) (Nat.le_refl _) (Nat.lt_succ_self _) _⟩
 ·refine (copyCheck_used b w h.cell0).mono ?_
  rintro e w' ⟨rfl,rfl⟩
  exact ⟨rfl,h,Below.refl B _,Keep.refl _ _ _⟩
def OthK (b:Nat) (w w':World):Prop:=∀k,k<w.heap.size→k≠b→(∀cs m,w.heap[k]?≠some (.cells cs 5 m))→w'.heap[k]? = w.heap[k]?
theorem writeString_any (B b:Nat) (bs:List Value) (s:ByteArray) (w:World) (h:IsBu B b bs w) (hlen:bs.length+s.size≤140737488355328) (hBw:B≤w.heap.size):
  Calls Tryz.prog 30 #[.pointer (some ⟨b,0,none⟩),.string s] w fun e w'=>(∃u,e=.returned u)∧BuAt B b (bs++Lib.strCells s) w'∧Below B w w'∧OthK b w w':=by
 obtain ⟨i0,hi,hz⟩:=Option.map_eq_some_iff.1 (show (Tryz.prog.info? 5).map (fun i=>(i.zero,i.size,i.bytes))=some (some (.int .u8 0),1,1) from by kernel_rfl)
 simp only [Prod.mk.injEq] at hz
 obtain ⟨hz0,hz1,hz2⟩:=hz
 go_enter Tryz.func30,Tryz.ntmps30
 go_wp2_with (go_at_call 109;refine (copyCheck_any B b bs _ h).mono ?_)
 rintro e w1 ⟨rfl,h1,hb1,hk1⟩
 obtain ⟨hB,v,hbk,hown,hne⟩:=h1
 have c0:w1.cell? ⟨b,0,none⟩=some (.pointer (some ⟨b,0,none⟩)):=by rw [Lib.cell_of_heap hbk];rfl
 have c1:w1.cell? ⟨b,1,none⟩=some v:=by rw [Lib.cell_of_heap hbk];rfl
 go_wp2_with (at_builtin;refine Lib.wpList_append_own_string _ rfl _ _ 22 9 rfl B 5 i0 Tryz.underlying22 Tryz.underlying9 hi hz0 hz1 hz2 _ _ _ rfl hown s rfl ?c3 ?c4 ?c5 ?_)
 case c3=>unfold maxLen;omega
 case c4=>omega
 case c5=>have:=hb1.size;omega
 intro v' w2 hown' hgrow _
 have hlt:b<w1.heap.size:=by
  rcases Nat.lt_or_ge b w1.heap.size with h' | h'
  ·exact h'
  ·simp [Array.getElem?_eq_none h'] at hbk
 have hb2:w2.heap[b]? = some (.cells #[.pointer (some ⟨b,0,none⟩),v] 58 (0,0)):=by
  rw [hgrow.block b hlt (fun e=>hne e.symm)]
  exact hbk
 have d0:w2.cell? ⟨b,0,none⟩=some (.pointer (some ⟨b,0,none⟩)):=by rw [Lib.cell_of_heap hb2];rfl
 have d1:w2.cell? ⟨b,1,none⟩=some v:=by rw [Lib.cell_of_heap hb2];rfl
 have f1:w2.frozen? ⟨b,1,none⟩=false:=Lib.frozen_of_heap hb2 1
 obtain ⟨ao,n',cap,rfl⟩:∃ao n' cap,v'=.slice ao n' cap:=by
  rcases hown'.2 with ⟨hv,_⟩|⟨g,cap,cur,hv,_⟩
  ·exact ⟨_,_,_,hv⟩
  ·exact ⟨_,_,_,hv⟩
 have HOK:Hid (OthK b w (w2.setCell ⟨b,1,none⟩ (.slice ao n' cap))):=fun k hk hkb hty=>by
  have hk1':w1.heap[k]? = w.heap[k]?:=hk1.block k hk (by omega)
  have hlt1:k<w1.heap.size:=Nat.lt_of_lt_of_le hk hk1.size
  have hne2:some k≠v.ownBlock:=fun e=>by
   rcases hown.2 with ⟨hv,_⟩|⟨g,cap0,cur,hv,_,hh,_⟩
   ·rw [hv] at e;simp [Value.ownBlock] at e
   ·rw [hv] at e
    simp only [Value.ownBlock,Option.some.injEq] at e
    subst e
    rw [hk1'] at hh
    exact hty _ _ hh
  have h2:w2.heap[k]? = w1.heap[k]?:=hgrow.block k hlt1 hne2
  have h3:(w2.setCell ⟨b,1,none⟩ (.slice ao n' cap)).heap[k]? = w2.heap[k]?:=by
   show (w2.heap.modify b _)[k]? = _
   rw [Array.getElem?_modify,if_neg (fun e=>hkb e.symm)]
  rw [h3,h2,hk1']
 go_wp2
 refine bodyPost_ret (v:=.tuple #[.int .i64 s.size,.nilIface]) (by simp [results,Tryz.results30,go_sem]) rfl ?_
 refine ⟨⟨_,rfl⟩,?_,?_,HOK.out⟩
 ·exact Lib.BuilderAt.put (T:=58) (e:=5) hB hb2 (bs':=bs++Lib.strCells s) (by simpa [Lib.strCells_length] using hown') (by decide)
 ·exact (hb1.grown hgrow (by have:=hb1.size;omega) (fun k hk=>(hown.lt k hk).1)).setCell (p:=⟨b,1,none⟩) hB _
end Go.Proofs.YtkapoldjcpfdgaaGreatDoor
