/- FnConsole: the walk of the law. -/
import Derived.Test.YtkapoldjcpfdgaaGreatDoorMbw
set_option maxHeartbeats 8000000
set_option maxRecDepth 100000
namespace Go.Proofs.YtkapoldjcpfdgaaGreatDoor
open Go.ChangeShapes Go.WideShapes Go.ChangeAt Go.RowKit
def firstL:List (List UInt8):=[[115,104,111,119],[116,111,117,114,32,53,58,49,48,49,48,48,49,48,49,49,48],[115,99,111,114,101,115],[115,113,117,97,114,101,115,32,55],[114,101,97,108,105,122,101,32,49,44,49,44,50,44,50]]
def linesA:List (List UInt8):=[[116,111,117,114,32,51,58,49,48,49],[116,111,117,114,32,52,58,49,49,49,49,49,49],[116,117,114,110],[102,108,105,112,32,48,32,49],[102,108,105,112,32,50,32,48],[112,97,114,116,32,55],[114,101,97,108,105,122,101,32,49,44,49,44,49],[114,101,97,108,105,122,101,32,48,44,49,44,51,44,51,44,51],[115,116,114,97,105,103,104,116],[115,113,117,97,114,101,115,32,55],[115,113,117,97,114,101,115,32,51],[110,97,109,101,115,32,49,44,50,44,51,44,48]]
def linesB:List (List UInt8):=[[115,104,111,119],[115,99,111,114,101,115],[107,105,110,103,115],[111,114,100,101,114],[115,97,102,101],[119,97,121,115],[99,121,99,108,101,115],[100,111,117,98,108,101]]
def linesC:List (List UInt8):=[[98,114,97,99,107,101,116,32,48,44,49,44,50,44,51],[98,114,97,99,107,101,116,32,48,44,45,49,44,50,44,49],[119,105,110,32,48],[119,105,110,32,50],[115,119,105,115,115,32,50],[115,119,105,115,115,32,51],[99,105,114,99,108,101,32,54,32,48],[99,105,114,99,108,101,32,52,32,50],[112,108,97,110,32,54],[112,108,97,110,32,56],[109,97,116,99,104,32,51,32,50],[108,97,110,100,97,117,32,49,44,49,44,49],[108,97,110,100,97,117,32,48,44,48,44,51]]
def linesD:List (List UInt8):=[[],[35,32,110,111,116,101],[119,104,97,116],[116,111,117,114,32,120],[116,111,117,114,32,51,58,49,49,49,120],[102,108,105,112,32,48,32,48],[102,108,105,112,32,120,32,49],[112,97,114,116,32,57,57],[114,101,97,108,105,122,101,32,48,44,48],[114,101,97,108,105,122,101,32,120],[115,113,117,97,114,101,115,32,53],[110,97,109,101,115,32,48,44,48],[98,114,97,99,107,101,116,32,48,44,49,44,50],[98,114,97,99,107,101,116,32,120],[119,105,110,32,57],[115,119,105,115,115,32,57],[99,105,114,99,108,101,32,53,32,48],[112,108,97,110,32,55],[109,97,116,99,104,32,48,32,49],[108,97,110,100,97,117,32,45],[115,104,111,119,32,49],[102,108,105,112,32,49]]
def goodL (l:List UInt8):Bool:=decide (l.length≤30) && !l.contains 10
theorem l01Str_any (p:Nat) (v:Value) (n:Nat) (L:List (List UInt8)) (m:Nat) (W:World) (hc:Cur W p v n) (hn:n≤1048576) (hL:L.length=m) (h0:0<m) (h1:m≤256):
  Calls Tryz.prog 56 #[.pointer (some ⟨p,0,none⟩),.slice (some ⟨W.heap.size,0,none⟩) m m] (W.alloc (.cells (strs L).toArray 9)) fun e w'=>∃l,l∈L∧e=.returned (.string ⟨l.toArray⟩)∧Cur w' p v n∧Keep p (p+1) W w':=by
 have hp:=hc.lt
 have hb:Below W.heap.size W (W.alloc (.cells (strs L).toArray 9)):=(Below.refl _ W).alloc (Nat.le_refl _) _
 have HC:Hid (Cur (W.alloc (.cells (strs L).toArray 9)) p v n∧Keep p (p+1) W (W.alloc (.cells (strs L).toArray 9))∧W.heap.size<(W.alloc (.cells (strs L).toArray 9)).heap.size ∧
   (∀k l,L[k]? = some l→(W.alloc (.cells (strs L).toArray 9)).cell? ⟨W.heap.size,k,none⟩=some (.string ⟨l.toArray⟩))):=
  ⟨hc.far hc (Nat.le_refl _) hb,(Keep.refl _ _ _).far hb (Nat.le_refl _),by simp,fun k l hk=>by simp [strs,hk]⟩
 clear hc hb
 generalize hg:W.heap.size=g at *
 generalize W.alloc (.cells (strs L).toArray 9)=W1 at *
 have hm0:(0:Int)<(m:Int):=by omega
 go_enter Tryz.func56,Tryz.ntmps56
 go_wp2_with fail
 refine (l01Below_any p v n m _ HC.out.1 hn hm0 (by omega)).mono ?_
 rintro e w2 ⟨x,hx,rfl,hc2,hk2⟩
 obtain ⟨k,rfl⟩:=Int.eq_ofNat_of_zero_le hx.1
 have hkm:k<m:=by omega
 obtain ⟨l,hl⟩:∃l,L[k]? = some l:=⟨_,List.getElem?_eq_getElem (by omega)⟩
 have hcell:w2.cell? ⟨g,k,none⟩=some (.string ⟨l.toArray⟩):=(hk2.cell (p:=⟨g,k,none⟩) HC.out.2.2.1 (.inr (by show p+1≤g;omega))).trans (HC.out.2.2.2 k l hl)
 have H2:Hid (Cur w2 p v n∧Keep p (p+1) W w2):=⟨hc2,HC.out.2.1.trans hk2⟩
 have HL:Hid (l∈L):=List.mem_of_getElem? hl
 have hki:(k:Int)<(m:Int):=by omega
 clear hc2 hk2 hL hl hx hg
 go_wp2
 go_ret
 exact ⟨l,HL.out,rfl,H2.out⟩
theorem l31Line_any (p:Nat) (v:Value) (n:Nat) (w:World) (hc:Cur w p v n) (hn:n≤1048576):
  Calls Tryz.prog 58 #[.pointer (some ⟨p,0,none⟩)] w fun e w'=>∃l,goodL l=true∧e=.returned (.string ⟨l.toArray⟩)∧Cur w' p v n∧Keep p (p+1) w w':=by
 have HC:=Lib.hid hc
 clear hc
 have HG:Hid ((∀l∈linesA,goodL l=true)∧(∀l∈linesB,goodL l=true)∧(∀l∈linesC,goodL l=true)∧(∀l∈linesD,goodL l=true)):=by
  show _∧_∧_∧_
  decide +kernel
 go_enter Tryz.func58,Tryz.ntmps58
 go_wp2_with fail
 refine (l01Below_any p v n 4 _ HC.out hn (by omega) (by omega)).mono ?_
 rintro e w1 ⟨x,hx,rfl,hc1,hk1⟩
 have H1:Hid (Cur w1 p v n∧Keep p (p+1) w w1):=⟨hc1,hk1⟩
 clear hc1 hk1
 have hx4:x=0∨x=1∨x=2∨x=3:=by omega
 rcases hx4 with rfl|rfl|rfl|rfl
 ·go_wp2_with fail
  refine (l01Str_any p v n linesA 12 w1 H1.out.1 hn rfl (by omega) (by omega)).mono ?_
  rintro e w2 ⟨l,hl,rfl,hc2,hk2⟩
  have H2:Hid (Cur w2 p v n∧Keep p (p+1) w w2):=⟨hc2,H1.out.2.trans hk2⟩
  have HL:Hid (goodL l=true):=HG.out.1 l hl
  clear hc2 hk2 hl
  go_wp2
  go_ret
  exact ⟨l,HL.out,rfl,H2.out⟩
 ·go_wp2_with fail
  refine (l01Str_any p v n linesB 8 w1 H1.out.1 hn rfl (by omega) (by omega)).mono ?_
  rintro e w2 ⟨l,hl,rfl,hc2,hk2⟩
  have H2:Hid (Cur w2 p v n∧Keep p (p+1) w w2):=⟨hc2,H1.out.2.trans hk2⟩
  have HL:Hid (goodL l=true):=HG.out.2.1 l hl
  clear hc2 hk2 hl
  go_wp2
  go_ret
  exact ⟨l,HL.out,rfl,H2.out⟩
 ·go_wp2_with fail
  refine (l01Str_any p v n linesC 13 w1 H1.out.1 hn rfl (by omega) (by omega)).mono ?_
  rintro e w2 ⟨l,hl,rfl,hc2,hk2⟩
  have H2:Hid (Cur w2 p v n∧Keep p (p+1) w w2):=⟨hc2,H1.out.2.trans hk2⟩
  have HL:Hid (goodL l=true):=HG.out.2.2.1 l hl
  clear hc2 hk2 hl
  go_wp2
  go_ret
  exact ⟨l,HL.out,rfl,H2.out⟩
 ·go_wp2_with fail
  refine (l01Str_any p v n linesD 22 w1 H1.out.1 hn rfl (by omega) (by omega)).mono ?_
  rintro e w2 ⟨l,hl,rfl,hc2,hk2⟩
  have H2:Hid (Cur w2 p v n∧Keep p (p+1) w w2):=⟨hc2,H1.out.2.trans hk2⟩
  have HL:Hid (goodL l=true):=HG.out.2.2.2 l hl
  clear hc2 hk2 hl
  go_wp2
  go_ret
  exact ⟨l,HL.out,rfl,H2.out⟩
structure DrL (w:World) (lo:Nat) (wr:World) (p:Nat) (v:Value) (n:Nat) (vv:Value) (ls:List (List UInt8)):Prop where
 cu:Cur wr p v n
 fr:FrZ wr lo wr.heap.size vv ls
 kp:Keep p (p+1) w wr
theorem DrL.draw {w wr w2:World}{lo p n:Nat}{v vv:Value}{ls:List (List UInt8)} (h:DrL w lo wr p v n vv ls) (hp:p+1≤lo) (hc:Cur w2 p v n) (hk:Keep p (p+1) wr w2):DrL w lo w2 p v n vv ls:=by
 have h2:=h.fr.keep hk (.inr hp)
 exact ⟨hc,⟨h2.1,fun g hg=>Nat.lt_of_lt_of_le (h2.2.1 g hg) hk.size,Nat.le_refl _⟩,h.kp.trans hk⟩
def MkLines (ls:List (List UInt8)):Prop:=∃l0 rest,ls=l0 :: rest∧l0∈firstL∧(∀l∈rest,goodL l=true)∧1≤rest.length∧rest.length≤8
theorem drL_app {w w3 w7:World}{p n:Nat}{v v5 v7:Value}{l0 l:List UInt8}{rest:List (List UInt8)} (h0:Cur w p v n) (h:DrL w w.heap.size w3 p v n v5 (l0 :: rest)) (hown:w7.ownsRow w.heap.size 9 1 v7 ((l0 :: rest).length+1) (strs ((l0 :: rest)++[l]))) (hb:∀B,B≤w.heap.size→B≤w3.heap.size→Below B w3 w7):DrL w w.heap.size w7 p v n v7 (l0 :: (rest++[l])):=by
 have h1:=hb w.heap.size (Nat.le_refl _) h.kp.size
 have e:((l0 :: rest).length+1)=(l0 :: (rest++[l])).length:=by simp
 rw [e] at hown
 refine ⟨?_,FrZ.of_own hown,⟨h1.os.trans h.kp.os,h1.tape.trans h.kp.tape,h1.output.trans h.kp.output,Nat.le_trans h.kp.size h1.size,fun k hk hd=>(h1.block k hk).trans (h.kp.block k hk hd)⟩⟩
 exact Cur.far h0 h.cu (Nat.le_refl _) h1
theorem l31Script_any (p:Nat) (v:Value) (n:Nat) (w:World) (hc:Cur w p v n) (hn:n≤1048576):
  Calls Tryz.prog 23 #[.pointer (some ⟨p,0,none⟩),.int .i64 8] w fun e w'=>∃ls vv,MkLines ls∧e=.returned vv∧FrZ w' w.heap.size w'.heap.size vv ls∧Cur w' p v n∧Keep p (p+1) w w':=by
 have HC:=Lib.hid hc
 have hp:=hc.lt
 clear hc
 go_enter Tryz.func23,Tryz.ntmps23
 go_wp2_with fail
 refine (l01Str_any p v n firstL 5 w HC.out hn rfl (by omega) (by omega)).mono ?_
 rintro e w1 ⟨l0,hl,rfl,hc1,hk1⟩
 have H1:Hid (Cur w1 p v n∧Keep p (p+1) w w1):=⟨hc1,hk1⟩
 have HL:=Lib.hid hl
 have hz1:=hk1.size
 have HD:Hid (DrL w w.heap.size (w1.alloc (.cells #[.string ⟨l0.toArray⟩] 9)) p v n (.slice (some ⟨w1.heap.size,0,none⟩) 1 1) [l0]):=by
  have hal:Below w1.heap.size w1 (w1.alloc (.cells #[.string ⟨l0.toArray⟩] 9)):=(Below.refl _ w1).alloc (Nat.le_refl _) _
  have ho:=World.ownsRow_lit (base:=w.heap.size) (e:=9) (size:=1) w1 #[.string ⟨l0.toArray⟩] 1 hz1 (by unfold maxLen;omega) rfl
  exact ⟨hc1.far hc1 (Nat.le_refl _) hal,FrZ.of_own (ls:=[l0]) ho,hk1.far hal hz1⟩
 clear hc1 hk1 hl
 go_wp2_with fail
 refine (l01Below_any p v n 8 _ HD.out.cu hn (by omega) (by omega)).mono ?_
 rintro e w2 ⟨x,hx,rfl,hc2,hk2⟩
 obtain ⟨k0,rfl⟩:=Int.eq_ofNat_of_zero_le hx.1
 have H2:=Lib.hid (HD.out.draw hp hc2 hk2)
 have hk8:k0<8:=by omega
 clear hc2 hk2 hx H1 HD hz1
 generalize w1.heap.size=g1 at *
 go_wp2_with fail
 go_loopw [5,6] (fun vv q wr=>∃(k:Nat) (v5:Value) (rest:List (List UInt8)),v5=vv∧q=.int .i64 k∧rest.length+k=k0+1∧Hid (DrL w w.heap.size wr p v n v5 (l0 :: rest)∧∀l∈rest,goodL l=true)) (fun _ q _=>(intOf q).toNat)
 case atStart=>exact ⟨k0+1,_,[],rfl,by go_num,by simp,H2.out,fun l hl=>by simp at hl⟩
 case round=>
  obtain ⟨k,v5,rest,rfl,rfl,hrl,HR⟩:=hrel
  obtain ⟨wo,rfl⟩:∃W,W=wr:=⟨wr,rfl⟩
  clear H2
  by_cases hk:0<k
  case neg=>
   obtain rfl:k=0:=by omega
   go_wp2
   go_ret
   exact ⟨l0 :: rest,_,⟨l0,rest,rfl,HL.out,HR.out.2,by omega,by omega⟩,rfl,HR.out.1.fr,HR.out.1.cu,HR.out.1.kp⟩
  have hki:(0:Int)<(k:Int):=by omega
  go_wp2_with fail
  refine (l31Line_any p v n wo HR.out.1.cu hn).mono ?_
  rintro e w3 ⟨l,hg,rfl,hc3,hk3⟩
  have H3:=Lib.hid (And.intro (HR.out.1.draw hp hc3 hk3) hg)
  have hl8:(l0 :: rest).length≤1048576:=by simp only [List.length_cons];omega
  have HO:Hid (w3.ownsRow w.heap.size 9 1 v5 (l0 :: rest).length (strs (l0 :: rest))):=(HR.out.1.draw hp hc3 hk3).fr.1
  have hz3:w.heap.size≤w3.heap.size:=Nat.le_trans HR.out.1.kp.size hk3.size
  have HL8:=Lib.hid (And.intro hl8 hz3)
  clear hc3 hk3 hg hl8 hz3
  go_wp2_with (at_builtin;refine appZ rfl _ _ rfl w3 w.heap.size v5 (l0 :: rest).length (l0 :: rest) rfl HO.out l rfl HL8.out.1 HL8.out.2 ?_;intro v7 w7 hown7 hb7 hsz7 hg7;have H7:Hid (DrL w w.heap.size w7 p v n v7 (l0 :: (rest++[l]))):=(drL_app HC.out H3.out.1 hown7 hb7);clear hown7 hb7 hsz7 hg7)
  go_roundw
  case rel=>exact ⟨k-1,v7,rest++[l],rfl,by go_num,by rw [List.length_append,List.length_singleton];omega,H7.out,fun z hz=>by
   rcases List.mem_append.1 hz with hz|hz
   ·exact HR.out.2 z hz
   ·rw [List.mem_singleton] at hz;subst hz;exact H3.out.2⟩
  case measure=>simp [intOf];omega
theorem frzWide {w:World}{lo lo' hi:Nat}{v:Value}{ls:List (List UInt8)} (h:FrZ w lo hi v ls) (h1:lo'≤lo):FrZ w lo' hi v ls:=by
 obtain ⟨h,hg,hs⟩:=h
 refine ⟨⟨h.1,?_⟩,hg,hs⟩
 rcases h.2 with h|⟨g,cap,cur,rfl,hb,r⟩
 ·exact .inl h
 ·exact .inr ⟨g,cap,cur,rfl,by omega,r⟩
theorem makeLines_any (v:Value) (n:Nat) (w:World) (hv:InB w v n) (hn:n≤1048576):
  Calls Tryz.prog 7 #[v] w fun e w'=>∃ls vv,MkLines ls∧e=.returned vv∧FrZ w' w.heap.size w'.heap.size vv ls∧Below w.heap.size w w':=by
 have HV:=Lib.hid hv
 clear hv
 go_enter Tryz.func7,Tryz.ntmps7
 go_wp2_with (first
  | (go_at_call 24;refine (l01New_any v n w HV.out hn).mono ?_;rintro e w1 ⟨rfl,hc,hb⟩;have HC:Hid (Cur w1 w.heap.size v n∧Below w.heap.size w w1):=⟨hc,hb⟩;clear hc hb)
  | (go_at_call 23;refine (l31Script_any w.heap.size v n w1 HC.out.1 hn).mono ?_;rintro e w2 ⟨ls,vv,hmk,rfl,hf,hc,hk⟩;have H2:Hid (MkLines ls∧FrZ w2 w.heap.size w2.heap.size vv ls∧Below w.heap.size w w2):=⟨hmk,frzWide hf HC.out.2.size,HC.out.2.trans (hk.below (Nat.le_refl _) HC.out.2.size)⟩;clear hmk hf hc hk))
 go_ret
 exact ⟨ls,vv,H2.out.1,rfl,H2.out.2⟩
theorem join_two (x y:List UInt8) (r:List (List UInt8)) (sep:List UInt8):Lib.join (x :: y :: r) sep=x++sep++Lib.join (y :: r) sep:=by
 rw [Lib.join_cons,Lib.join_cons]
 simp [Lib.joinTail]
theorem cutB_join {s:UInt8}:∀(ls:List (List UInt8)),ls≠[]→(∀l∈ls,s ∉ l)→cutB s (Lib.join ls [s])=ls
 | [],h,_=>absurd rfl h
 | [x],_,h=>by rw [Lib.join_one];exact cutB_none (h x (by simp))
 | x :: y :: r,_,h=>by
  rw [join_two]
  have ih:=cutB_join (y :: r) (by simp) (fun l hl=>h l (List.mem_cons_of_mem _ hl))
  have h1:s ∉ (x++[s]++Lib.join (y :: r) [s]).take x.length:=by
   rw [List.append_assoc,List.take_left];exact h x (by simp)
  have h2:(x++[s]++Lib.join (y :: r) [s])[x.length]? = some s:=by
   rw [List.append_assoc,List.getElem?_append_right (Nat.le_refl _)];simp
  rw [cutB_at h1 h2,List.append_assoc,List.take_left]
  have e:(x++([s]++Lib.join (y :: r) [s])).drop (x.length+1)=Lib.join (y :: r) [s]:=by
   rw [←List.append_assoc,List.drop_append_of_le_length (by simp)]
   simp
  rw [e,ih]
theorem sessF_snoc (ls:List (List UInt8)) (l:List UInt8):sessF (ls++[l])=sessStep (sessF ls) l:=by
 unfold sessF
 rw [List.foldl_append];rfl
theorem lineA_nil (x:TourV):lineA x []=(x,[]):=by unfold lineA;rw [if_pos (.inl rfl)]
theorem sessF_drop (ls:List (List UInt8)):(sessF (ls++[[]])).2=(sessF ls).2:=by
 rw [sessF_snoc]
 unfold sessStep
 rw [lineA_nil]
 simp
theorem sess_join {ls:List (List UInt8)} (h0:ls≠[]) (h:∀l∈ls,(10:UInt8) ∉ l) (hl:ls.length≤40):
  outS (Lib.join ls [10])=(sessF ls).2∧((ls.length:Int)-1≤numS (Lib.join ls [10])∧numS (Lib.join ls [10])≤ls.length):=by
 have hc:=cutB_join ls h0 h
 have hlf:(linesF (Lib.join ls [10])=ls)∨(∃ms,ls=ms++[[]]∧linesF (Lib.join ls [10])=ms):=by
  unfold linesF
  rw [hc]
  by_cases hg:ls.getLast? = some []
  ·rw [if_pos hg]
   refine .inr ⟨ls.dropLast,?_,rfl⟩
   rw [List.getLast?_eq_some_getLast h0] at hg
   injection hg with hg
   rw [←hg]
   exact (List.dropLast_concat_getLast h0).symm
  ·rw [if_neg hg];exact .inl rfl
 unfold outS numS
 rcases hlf with e|⟨ms,e1,e2⟩
 ·rw [e,if_neg (by omega),if_neg (by omega)]
  exact ⟨rfl,by omega,by omega⟩
 ·have hml:ms.length+1=ls.length:=by rw [e1];simp
  rw [e2,if_neg (by omega),if_neg (by omega)]
  refine ⟨?_,by omega,by omega⟩
  rw [e1,sessF_drop]
theorem sessF_pos {ls:List (List UInt8)}{l0:List UInt8}{rest:List (List UInt8)} (h:ls=l0 :: rest) (hp:(lineA console4 l0).2≠[]):(sessF ls).2≠[]:=by
 have key:∀(r:List (List UInt8)) (s:TourV × List UInt8),s.2≠[]→(r.foldl sessStep s).2≠[]:=by
  intro r
  induction r with
  | nil=>intro s hs;exact hs
  | cons a r ih=>
   intro s hs
   refine ih _ ?_
   unfold sessStep
   simp only
   intro e
   exact hs (List.append_eq_nil_iff.1 e).1
 subst h
 unfold sessF
 rw [List.foldl_cons]
 refine key rest _ ?_
 unfold sessStep
 simp only
 rw [if_neg hp]
 simp
theorem sortI_id {l:List Int} (h:l.Pairwise (·≤·)):sortI l=l:=by
 unfold sortI
 exact List.mergeSort_of_pairwise (h.imp fun {a b} hab=>by simpa using hab)
theorem first_show:(lineA console4 [115,104,111,119]).2≠[]:=by decide +kernel
theorem first_tour:(lineA console4 [116,111,117,114,32,53,58,49,48,49,48,48,49,48,49,49,48]).2≠[]:=by decide +kernel
theorem first_scores:(lineA console4 [115,99,111,114,101,115]).2≠[]:=by decide +kernel
theorem first_squares:(lineA console4 [115,113,117,97,114,101,115,32,55]).2≠[]:=by decide +kernel
theorem runF_realize (x:TourV) (l:List UInt8):runF x [114,101,97,108,105,122,101] [l]=setA x (pnB l) (rzF (pnF l)):=by kernel_rfl
theorem first_realize:(lineA console4 [114,101,97,108,105,122,101,32,49,44,49,44,50,44,50]).2≠[]:=by
 have e1:cutB 32 [114,101,97,108,105,122,101,32,49,44,49,44,50,44,50] = [[114,101,97,108,105,122,101],[49,44,49,44,50,44,50]]:=by decide +kernel
 have e2:pnB [49,44,49,44,50,44,50]=true∧pnF [49,44,49,44,50,44,50] = [1,1,2,2]:=by decide +kernel
 have e3:rzF [1,1,2,2]=some ⟨4,(rzRun 4 (idxs 4) (List.replicate 4 0,[1,1,2,2])).1⟩:=by
  unfold rzF
  rw [sortI_id (by decide)]
  rw [if_pos (by decide +kernel)]
  rfl
 unfold lineA
 rw [if_neg (by decide),e1]
 show (ansL console4 (runF console4 [114,101,97,108,105,122,101] [[49,44,49,44,50,44,50]])).2≠[]
 rw [runF_realize,e2.1,e2.2,e3]
 decide +kernel
theorem first_all:∀l∈firstL,(lineA console4 l).2≠[]∧goodL l=true:=by
 intro l hl
 simp only [firstL,List.mem_cons,List.not_mem_nil,or_false] at hl
 rcases hl with rfl|rfl|rfl|rfl|rfl
 ·exact ⟨first_show,by decide⟩
 ·exact ⟨first_tour,by decide⟩
 ·exact ⟨first_scores,by decide⟩
 ·exact ⟨first_squares,by decide⟩
 ·exact ⟨first_realize,by decide⟩
theorem mk_facts {ls:List (List UInt8)} (h:MkLines ls):ls≠[]∧(∀l∈ls,(10:UInt8) ∉ l∧l.length≤30)∧ls.length≤9∧2≤ls.length∧(sessF ls).2≠[]:=by
 obtain ⟨l0,rest,rfl,h1,h2,h3,h4⟩:=h
 obtain ⟨f1,f2⟩:=first_all l0 h1
 have hg:∀l,goodL l=true→(10:UInt8) ∉ l∧l.length≤30:=fun l hl=>by
  unfold goodL at hl
  simp at hl
  exact ⟨hl.2,hl.1⟩
 refine ⟨by simp,fun l hl=>?_,by simp only [List.length_cons];omega,by simp only [List.length_cons];omega,sessF_pos rfl f1⟩
 rcases List.mem_cons.1 hl with rfl|hl
 ·exact hg _ f2
 ·exact hg _ (h2 l hl)
structure LcS (w wr:World) (tb:Nat) (lv:Value) (ls:List (List UInt8)) (x:TourV):Prop where
 be:Below w.heap.size w wr
 lo:w.heap.size≤tb
 tl:tb<wr.heap.size
 bx:∃A c lo hi,wr.heap[tb]? = some (.cells #[.int .i64 x.size,.slice A x.wins.length c] 27 (0,0))∧OwT wr lo hi (.agg #[.int .i64 x.size,.slice A x.wins.length c]) x
 li:FrZ wr w.heap.size tb lv ls
theorem lcS_start {w w1 w2:World}{lv:Value}{ls:List (List UInt8)}{A:Option Addr}{c:Nat} (hb1:Below w.heap.size w w1) (hf:FrZ w1 w.heap.size w1.heap.size lv ls) (ho:OwT w2 w1.heap.size w2.heap.size (.agg #[.int .i64 console4.size,.slice A console4.wins.length c]) console4) (hb2:Below w1.heap.size w1 w2):
  LcS w (w2.alloc (.cells #[.int .i64 console4.size,.slice A console4.wins.length c] 27)) w2.heap.size lv ls console4:=by
 have b3:Below w2.heap.size w2 (w2.alloc (.cells #[.int .i64 console4.size,.slice A console4.wins.length c] 27)):=(Below.refl _ _).alloc (Nat.le_refl _) _
 have h12:=hb1.size
 have h22:=hb2.size
 have bw1:Below w1.heap.size w1 (w2.alloc (.cells #[.int .i64 console4.size,.slice A console4.wins.length c] 27)):=hb2.trans (b3.mono h22)
 have hg:=hf.grow bw1
 refine ⟨hb1.trans (bw1.mono h12),by omega,by simp,⟨A,c,_,_,(MapKept.heap_alloc w2 _).1,ho.grow b3⟩,⟨hg.1,fun g hg2=>Nat.lt_of_lt_of_le (hg.2.1 g hg2) h22,by simp⟩⟩
theorem lcS_line {w wr w4:World}{tb:Nat}{lv:Value}{ls:List (List UInt8)}{x y:TourV}{A A4:Option Addr}{c c4 lo hi:Nat} (h:LcS w wr tb lv ls x) (htb:wr.heap[tb]? = some (.cells #[.int .i64 x.size,.slice A x.wins.length c] 27 (0,0))) (ho:OwT w4 lo hi (.agg #[.int .i64 y.size,.slice A4 y.wins.length c4]) y) (hb:Below wr.heap.size wr w4):
  ∃w5,w5=w4.alloc (.cells #[.int .i64 y.size,.slice A4 y.wins.length c4] 27)∧w5.cell? ⟨tb,0,none⟩=some (.int .i64 x.size)∧w5.cell? ⟨tb,1,none⟩=some (.slice A x.wins.length c)∧w5.frozen? ⟨tb,0,none⟩=false∧w5.frozen? ⟨tb,1,none⟩=false ∧
   w5.cell? ⟨w4.heap.size,0,none⟩=some (.int .i64 y.size)∧w5.cell? ⟨w4.heap.size,1,none⟩=some (.slice A4 y.wins.length c4) ∧
   LcS w ((w5.setCell ⟨tb,0,none⟩ (.int .i64 y.size)).setCell ⟨tb,1,none⟩ (.slice A4 y.wins.length c4)) tb lv ls y:=by
 have b5:Below w4.heap.size w4 (w4.alloc (.cells #[.int .i64 y.size,.slice A4 y.wins.length c4] 27)):=(Below.refl _ _).alloc (Nat.le_refl _) _
 have n0:(w4.alloc (.cells #[.int .i64 y.size,.slice A4 y.wins.length c4] 27)).cell? ⟨w4.heap.size,0,none⟩=some (.int .i64 y.size):=by simp
 have n1:(w4.alloc (.cells #[.int .i64 y.size,.slice A4 y.wins.length c4] 27)).cell? ⟨w4.heap.size,1,none⟩=some (.slice A4 y.wins.length c4):=by simp
 have hb5:Below wr.heap.size wr (w4.alloc (.cells #[.int .i64 y.size,.slice A4 y.wins.length c4] 27)):=hb.trans (b5.mono hb.size)
 have ho5:=ho.grow b5
 generalize w4.alloc (.cells #[.int .i64 y.size,.slice A4 y.wins.length c4] 27)=w5 at *
 have htl:=h.tl
 have hlo:=h.lo
 have htb5:w5.heap[tb]? = some (.cells #[.int .i64 x.size,.slice A x.wins.length c] 27 (0,0)):=(hb5.block tb htl).trans htb
 have KP:Keep tb (tb+1) w5 ((w5.setCell ⟨tb,0,none⟩ (.int .i64 y.size)).setCell ⟨tb,1,none⟩ (.slice A4 y.wins.length c4)):=
  ((Keep.refl _ _ _).setCell (p:=⟨tb,0,none⟩) (Nat.le_refl _) (Nat.lt_succ_self _) _).setCell (p:=⟨tb,1,none⟩) (Nat.le_refl _) (Nat.lt_succ_self _) _
 have hbe:Below w.heap.size w w5:=h.be.trans (hb5.mono h.be.size)
 refine ⟨w5,rfl,by rw [Lib.cell_of_heap htb5];rfl,by rw [Lib.cell_of_heap htb5];rfl,Lib.frozen_of_heap htb5 0,Lib.frozen_of_heap htb5 1,n0,n1,hbe.trans (KP.below hlo hbe.size),hlo,Nat.lt_of_lt_of_le htl (Nat.le_trans hb5.size KP.size),⟨A4,c4,lo,hi,bx_set1 (bx_set0 htb5 _) _,OwT.keepTy ho5 KP.size (fun k cs m hc=>KP.block k (Array.getElem?_eq_some_iff.1 hc).1 ?_)⟩,(h.li.grow hb5).keep KP (.inl (Nat.le_refl _))⟩
 have:k≠tb:=fun e=>by
  subst e
  rw [htb5] at hc
  injection hc with hc
  injection hc with _ hc _
  revert hc
  decide
 omega
theorem lawFnConsole (v:Value) (n:Nat) (w:World) (hv:InB w v n) (hc:ComP w):
  Calls Tryz.prog 3 #[v] w fun e w'=>e=.returned (.bool true)∧Below w.heap.size w w':=by
 have HV:=Lib.hid hv
 have HC:=Lib.hid hc
 obtain ⟨A0,c0,rfl,hcn,hcm,hby⟩:=hv
 clear hby hc
 by_cases hbig:1048576<n
 ·have hbi:(1048576:Int)<(n:Int):=by omega
  go_enter Tryz.func3,Tryz.ntmps3
  go_wp2
  go_ret
  exact ⟨rfl,Below.refl _ _⟩
 have hbi:¬(1048576:Int)<(n:Int):=by omega
 have HML:Hid (∀W,Below w.heap.size w W→Calls Tryz.prog 7 #[.slice A0 n c0] W fun e w'=>∃ls vv,MkLines ls∧e=.returned vv∧FrZ w' W.heap.size w'.heap.size vv ls∧Below W.heap.size W w'):=fun W hW=>makeLines_any _ n W (HV.out.below hW) (by omega)
 clear hcn hcm
 go_enter Tryz.func3,Tryz.ntmps3
 go_wp2_with fail
 refine (HML.out _ (Below.refl _ _)).mono ?_
 rintro e w1 ⟨ls,lv,hmk,rfl,hf,hb⟩
 have B1:=Lib.hid (And.intro hf hb)
 obtain ⟨q1,q2,q3,q4,q5⟩:=mk_facts hmk
 have HQ:=Lib.hid (And.intro q1 (And.intro q2 q5))
 obtain ⟨A1,c1,rfl,hcl⟩:=hf.form
 have HSJ:=Lib.hid (sess_join q1 (fun l hl=>(q2 l hl).1) (by omega))
 have HJL:Hid ((Lib.join ls [10]).length≤1000):=by
  have:=join_bound (ls:=ls) (b:=30) 10 (fun l hl=>(q2 l hl).2)
  show _≤_
  omega
 have HBD:=Lib.hid (sessF_bd ls)
 have HST:=Lib.hid (fun j l (h:ls[j]? = some l)=>sessF_take h)
 obtain ⟨m,hm⟩:∃m,ls.length=m:=⟨_,rfl⟩
 have HM:Hid (ls.length=m):=hm
 rw [hm] at HSJ B1 q3 q4 ⊢
 clear hf hb hmk q1 q2 q5 hm hcl
 go_wp2_with (go_at_call 8;refine (implNewConsole_any _).mono ?_;rintro e w2 ⟨v2,rfl,ho,hb⟩;obtain ⟨A2,c2,rfl⟩:=ho.form;have O2:=Lib.hid (And.intro ho hb);clear ho hb)
 have HS0:Hid (LcS w (w2.alloc (.cells #[.int .i64 console4.size,.slice A2 console4.wins.length c2] 27)) w2.heap.size (.slice A1 m c1) ls console4):=lcS_start B1.out.2 B1.out.1 O2.out.1 O2.out.2
 obtain ⟨tb,htb⟩:∃tb,w2.heap.size=tb:=⟨_,rfl⟩
 rw [htb] at HS0 ⊢
 generalize (w2.alloc (.cells #[.int .i64 console4.size,.slice A2 console4.wins.length c2] 27))=w3 at *
 clear O2 B1 htb
 go_loopw [5,20] (fun sv i wr=>∃(j:Nat) (x:TourV) (acc:List UInt8),j≤m∧i=.int .i64 j∧sv=.string ⟨acc.toArray⟩∧Hid (sessF (ls.take j)=(x,acc))∧Hid (LcS w wr tb (.slice A1 m c1) ls x)) (fun _ i _=>m-(intOf i).toNat)
 case atStart=>exact ⟨0,console4,[],Nat.zero_le _,rfl,rfl,rfl,HS0.out⟩
 case round=>
  obtain ⟨j,x,acc,hj,rfl,rfl,HX,HR⟩:=hrel
  clear HS0
  by_cases hlt:j<m
  case neg=>
   obtain rfl:j=m:=by omega
   have HE:Hid (sessF ls=(x,acc)):=by
    have h:=HX.out
    rw [←HM.out,List.take_length] at h
    exact h
   have HJ:=Lib.hid (implJoin_any (.slice A1 j c1) w.heap.size j ls [10] wr (by have h:=HR.out.li.1;rw [HM.out] at h;exact h) (by omega) (by omega) (by have:=HJL.out;omega))
   have hsj:=HSJ.out
   have hne:=HQ.out.2.2
   rw [HE.out] at hsj hne
   simp only at hsj hne
   obtain ⟨s1,s2,s3⟩:=hsj
   have HRS:Hid (∀W,Below w.heap.size w W→Calls Tryz.prog 10 #[.string ⟨(Lib.join ls [10]).toArray⟩] W fun e w'=>e=.returned (.tuple #[.string ⟨acc.toArray⟩,.int .i64 (numS (Lib.join ls [10]))])∧Below W.heap.size W w'):=fun W hW=>by
    have h:=runSession_any (Lib.join ls [10]) W (HC.out.below hW) (by have:=HJL.out;omega)
    rw [s1] at h
    exact h
   have HBE:Hid (Below w.heap.size w wr):=HR.out.be
   generalize numS (Lib.join ls [10])=q at *
   generalize Lib.join ls [10]=J at *
   clear s1 HST HBD HSJ HM HR HQ HX HE HML HV
   cases acc with
   | nil=>exact absurd rfl hne
   | cons a1 as1=>
    clear hne
    go_wp2_with (first
     | (go_at_call 11;refine HJ.out.mono ?_;rintro e w5 ⟨rfl,hb⟩;have B5:Hid (Below w.heap.size w w5):=HBE.out.trans (hb.mono HBE.out.size);clear hb)
     | (go_at_call 10;refine (HRS.out _ B5.out).mono ?_;rintro e w6 ⟨rfl,hb⟩;have B6:Hid (Below w.heap.size w w6):=B5.out.trans (hb.mono B5.out.size);clear hb))
    go_ret
    exact ⟨rfl,B6.out⟩
  obtain ⟨lj,hlj⟩:∃lj,ls[j]? = some lj:=⟨_,List.getElem?_eq_getElem (by rw [HM.out];exact hlt)⟩
  have hst:=HST.out j lj hlj
  have hbd:=HBD.out j
  rw [HX.out] at hst hbd
  simp only at hbd
  have hsh:=lineA_short x lj
  have hstep:sessStep (x,acc) lj=((lineA x lj).1,acc++(if (lineA x lj).2 = [] then [] else (lineA x lj).2++[10])):=rfl
  rw [hstep] at hst
  obtain ⟨A,c,lo,hi,htb,ho⟩:=HR.out.bx
  have HRL0:=runLine_any _ x lj wr ho.in_ (by omega) (HC.out.below HR.out.be) (by have:=(HQ.out.2.1 lj (List.mem_of_getElem? hlj)).2;omega)
  generalize (lineA x lj).1=y at *
  generalize (lineA x lj).2=o at *
  have HRL:=Lib.hid HRL0
  have HS1:=Lib.hid hst
  have HACC:Hid (acc.length≤50001*j):=hbd.2
  obtain ⟨g,off,u,rfl,hu,cu,-⟩:=HR.out.li.sl.at_ (k:=j) (by rw [strs_length,HM.out];exact hlt)
  have hu2:u=.string ⟨lj.toArray⟩:=by
   have hs:(strs ls)[j]? = some (.string ⟨lj.toArray⟩):=by simp [strs,hlj]
   rw [hs] at hu
   exact (Option.some.inj hu).symm
  subst hu2
  have c0:wr.cell? ⟨tb,0,none⟩=some (.int .i64 x.size):=by rw [Lib.cell_of_heap htb];rfl
  have c1':wr.cell? ⟨tb,1,none⟩=some (.slice A x.wins.length c):=by rw [Lib.cell_of_heap htb];rfl
  have HTB:Hid (wr.heap[tb]? = some (.cells #[.int .i64 x.size,.slice A x.wins.length c] 27 (0,0))):=htb
  have hji:(j:Int)<m:=by omega
  have ha1:acc.length≤1000000:=by have:=HACC.out;omega
  clear hst hstep htb ho HRL0 hbd hlj HBD hu
  cases o with
  | nil=>
   have HE:Hid (sessF (ls.take (j+1))=(y,acc)):=by show _=_;rw [HS1.out];simp
   go_wp2_with fail
   refine HRL.out.mono ?_
   rintro e w4 ⟨v4,rfl,ho4,hb4⟩
   obtain ⟨A4,c4,rfl⟩:=ho4.form
   obtain ⟨w5,hw5,d0,d1,f0,f1,n0,n1,hs5⟩:=lcS_line HR.out HTB.out ho4 hb4
   have HS5:=Lib.hid hs5
   clear hs5 ho4 hb4 c0 c1' cu
   go_upto_region 10 with fail
   rw [←hw5]
   generalize w4.heap.size=b9 at *
   clear hw5
   go_wp2
   go_roundw
   case rel=>exact ⟨j+1,y,acc,by omega,by go_num,rfl,HE,HS5⟩
   case measure=>simp [intOf];omega
  | cons o1 os=>
   have HE:Hid (sessF (ls.take (j+1))=(y,acc++(o1 :: os)++[10])):=by show _=_;rw [HS1.out,if_neg (by simp),List.append_assoc]
   go_wp2_with fail
   refine HRL.out.mono ?_
   rintro e w4 ⟨v4,rfl,ho4,hb4⟩
   obtain ⟨A4,c4,rfl⟩:=ho4.form
   obtain ⟨w5,hw5,d0,d1,f0,f1,n0,n1,hs5⟩:=lcS_line HR.out HTB.out ho4 hb4
   have HS5:=Lib.hid hs5
   clear hs5 ho4 hb4 c0 c1' cu
   go_upto_region 10 with fail
   rw [←hw5]
   generalize w4.heap.size=b9 at *
   clear hw5
   have hsum:¬(9223372036854775807<acc.length+(os.length+1)):=by
    simp only [List.length_cons] at hsh;omega
   have hsum2:¬(9223372036854775807<acc.length+(os.length+1)+1):=by
    simp only [List.length_cons] at hsh;omega
   have hcat:(⟨acc.toArray⟩:ByteArray)++⟨(o1 :: os).toArray⟩=⟨(acc++(o1 :: os)).toArray⟩:=bcat acc (o1 :: os)
   have hcat2:(⟨(acc++(o1 :: os)).toArray⟩:ByteArray)++⟨#[10]⟩=⟨(acc++(o1 :: os)++[10]).toArray⟩:=bcat (acc++(o1 :: os)) [10]
   go_wp2_with fail
   go_roundw
   case rel=>exact ⟨j+1,y,acc++(o1 :: os)++[10],by omega,by go_num,by first|rfl|simp,HE,HS5⟩
   case measure=>simp [intOf];omega
end Go.Proofs.YtkapoldjcpfdgaaGreatDoor
