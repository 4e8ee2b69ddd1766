/- FnConsole: plain. -/
import Derived.Test.YtkapoldjcpfdgaaGreatDoorMbv
set_option maxHeartbeats 4000000
set_option maxRecDepth 100000
namespace Go.Proofs.YtkapoldjcpfdgaaGreatDoor
open Go.ChangeShapes Go.WideShapes Go.ChangeAt Go.RowKit
theorem fmt_le {xs:List Int}{n:Nat} (h:wfI xs) (hn:xs.length≤n):(fmtF xs).length≤22*n+1:=by
 unfold fmtF
 split
 ·simp
 ·have:=fmt_bound h
  have:=Nat.mul_le_mul (Nat.le_refl 22) hn
  omega
theorem noneW_le:([110,111,110,101]:List UInt8).length≤50000:=by decide
theorem tourText_le (x:TourV):(tourText x).length≤50000:=by
 unfold tourText
 split
 ·rename_i h
  obtain ⟨t1,t2,t3,_⟩:=tourB_t h
  have h1:=headD_len h
  have h2:=allD_len x x.wins.length x.wins.length
  have h3:x.wins.length*x.wins.length≤8*8:=Nat.mul_le_mul (by omega) (by omega)
  rw [List.length_append];omega
 ·simp
theorem scoreText_le (x:TourV):(scoreText x).length≤50000:=by
 unfold scoreText
 split
 ·rename_i h
  obtain ⟨t1,t2,t3,_⟩:=tourB_t h
  have h8:x.wins.length≤8:=by omega
  have h1:=scores_fmt h8
  have h2:=triF_bd h8
  have h3:=partN_le h
  have h4:=Lib.itoa_length_le (triF x) (by omega) (by omega)
  have h5:=Lib.itoa_length_le (partN x:Nat) (by omega) (by omega)
  unfold scoreTextT
  have:=join_bound (ls:=[scW,fmtF (scoresL x),trW,Lib.itoa (triF x),paW,Lib.itoa (partN x:Nat)]) (b:=200) 32 (fun l hl=>by
   simp only [List.mem_cons,List.not_mem_nil,or_false] at hl
   rcases hl with rfl|rfl|rfl|rfl|rfl|rfl
   ·decide
   ·exact h1
   ·decide
   ·omega
   ·decide
   ·omega)
  simp only [List.length_cons,List.length_nil] at this
  omega
 ·exact noneW_le
theorem kingText_le (x:TourV):(kingText x).length≤50000:=by
 unfold kingText
 split
 ·unfold kingTextT
  have h1:=memK_fmt (kingsF x)
  have h2:=memK_fmt (banksF x)
  have:=join_bound (ls:=[kiW,fmtF (memL (kingsF x)),baW,fmtF (memL (banksF x))]) (b:=200) 32 (fun l hl=>by
   simp only [List.mem_cons,List.not_mem_nil,or_false] at hl
   rcases hl with rfl|rfl|rfl|rfl
   ·decide
   ·exact h1
   ·decide
   ·exact h2)
  simp only [List.length_cons,List.length_nil] at this
  omega
 ·exact noneW_le
theorem orderText_le (x:TourV):(orderText x).length≤50000:=by
 unfold orderText
 split
 ·rename_i h
  obtain ⟨t1,t2,t3,_⟩:=tourB_t h
  have h1:=order_fmt x
  have h2:=orderF_bd (x:=x) (by omega)
  have h3:=Lib.itoa_length_le (orderF x) (by omega) (by omega)
  simp only [List.length_append,List.length_cons,List.length_nil];omega
 ·exact noneW_le
theorem safeText_le (x:TourV):(safeText x).length≤50000:=by
 unfold safeText
 split
 ·rename_i q h
  obtain ⟨h1,h2⟩:=safeF_facts h
  have:=fmt_le (n:=8) (fun y hy=>by have:=h2 y hy;omega) h1
  omega
 ·exact noneW_le
theorem roundsF_le (W:List Int) {n:Nat}:∀(f:Nat) (l:List Int),rngB n l→l.length≤8→(roundsF W f l).length≤f+1∧∀p∈roundsF W f l,rngB n p∧p.length≤8
 | 0,l,h,hl=>⟨by simp [roundsF],fun p hp=>by
  rw [roundsF,List.mem_singleton] at hp
  subst hp;exact ⟨h,hl⟩⟩
 | f+1,l,h,hl=>by
  rw [roundsF]
  split
  ·exact ⟨by simp,fun p hp=>by rw [List.mem_singleton] at hp;subst hp;exact ⟨h,hl⟩⟩
  ·obtain ⟨h1,h2⟩:=roundsF_le W f (brNextTo W l (l.length/2)) (brNextTo_rng h _ (by omega)) (by rw [brNextTo_len];omega)
   refine ⟨by rw [List.length_cons];omega,fun p hp=>?_⟩
   rcases List.mem_cons.1 hp with rfl|hp
   ·exact ⟨h,hl⟩
   ·exact h2 p hp
theorem brText_le (x:TourV) (l:List Int):(brText x l).length≤50000:=by
 unfold brText
 split
 ·rename_i h
  obtain ⟨h1,h2,h3,h4⟩:=brB_t h
  obtain ⟨t1,t2,t3,_⟩:=tourB_t h1
  have hr:=brB_rng h t3.symm
  have hl:l.length≤8:=by
   unfold brSize at h2
   simp at h2
   omega
  obtain ⟨h5,h6⟩:=roundsF_le x.wins 3 l hr hl
  have:=join_bound (ls:=(roundsF x.wins 3 l).map fmtF) (b:=200) 32 (fun p hp=>by
   obtain ⟨q,hq,rfl⟩:=List.mem_map.1 hp
   obtain ⟨h7,h8⟩:=h6 q hq
   exact fmtF_len (rng_wf h7 (by omega)) h8)
  rw [List.length_map] at this
  have h9:=Nat.mul_le_mul (Nat.le_refl (200+1)) h5
  omega
 ·exact noneW_le
theorem roundText_le (n:Int) (P:List (List Int)) (r:Int):(roundText n P r).length≤50000:=by
 unfold roundText
 split
 ·rename_i h
  unfold roundOk at h
  rw [Bool.and_eq_true] at h
  have hr:=inB_t.1 h.2
  have hlt:r.toNat<P.length:=by omega
  have hm:P.getD r.toNat []∈P:=by
   rw [List.getD_eq_getElem?_getD,List.getElem?_eq_getElem hlt];exact List.getElem_mem hlt
  obtain ⟨k,hk⟩:=List.mem_iff_getElem?.1 hm
  obtain ⟨q1,q2,q3,q4⟩:=planB_row h.1 hk
  have:=wordsJoin_len (R:=P.getD r.toNat []) (j:=(P.getD r.toNat []).length) (by omega) (fun k hk=>by have:=q4 k hk;omega)
  omega
 ·exact noneW_le
theorem planText_le (n:Int) (P:List (List Int)):(planText n P).length≤50000:=by
 by_cases h:planB n P=true
 ·obtain ⟨m,hm⟩:∃m:Nat,n=(m:Int):=by
   have:=inB_t.1 (by have:=(planB_p h).1;unfold clubsB at this;rw [Bool.and_eq_true] at this;exact this.1)
   exact ⟨n.toNat,by omega⟩
  subst hm
  have hcap:=planB_cap h
  have hbs:=brkSum_le P hcap.2.2 m
  have hcv:=carV_cap h
  have hl1:=Lib.itoa_length_le ((brkSum P m:Nat):Int) (by omega) (by omega)
  have hl2:=Lib.itoa_length_le (carV m P) (by omega) (by omega)
  rw [planText_t h]
  have e1:brkW.length≤100:=by decide
  have e2:carW.length≤100:=by decide
  simp only [List.length_append];omega
 ·unfold planText
  rw [if_neg h]
  exact noneW_le
theorem lstF_le {o:Option (List Int)} (h:∀l,o=some l→l.length≤8∧wfI l):(lstF (o.getD []) o.isSome).length≤50000:=by
 cases o with
 | none=>exact noneW_le
 | some l=>
  obtain ⟨h1,h2⟩:=h l rfl
  have:=fmt_le (n:=8) h2 h1
  simp only [Option.getD_some,Option.isSome_some,lstF,if_pos]
  omega
def shortA (o:Option (List UInt8 × TourV)):Prop:=∀r,o=some r→r.1.length≤50000
theorem shortA.outA {x:TourV}{ok:Bool}{t:List UInt8} (h:t.length≤50000):shortA (outA x ok t):=by
 intro r hr
 unfold Go.Proofs.YtkapoldjcpfdgaaGreatDoor.outA at hr
 split at hr
 ·injection hr with hr;subst hr;exact h
 ·cases hr
theorem shortA.setA {x:TourV}{ok:Bool}{o:Option TourV}:shortA (setA x ok o):=by
 intro r hr
 unfold Go.Proofs.YtkapoldjcpfdgaaGreatDoor.setA at hr
 split at hr
 ·injection hr with hr;subst hr
  cases o with
  | none=>exact noneW_le
  | some y=>exact tourText_le y
 ·cases hr
theorem shortA.gate {n m:Nat}{o:Option (List UInt8 × TourV)} (h:shortA o):shortA (gate n m o):=by
 intro r hr
 unfold Go.Proofs.YtkapoldjcpfdgaaGreatDoor.gate at hr
 split at hr
 ·exact h r hr
 ·cases hr
theorem dbF_small (x:TourV):(dbF x).length≤100:=by
 unfold dbF
 split
 ·rename_i h
  obtain ⟨t1,t2,t3,_⟩:=tourB_t h
  rw [(dbPlaces_perm x.wins x.wins.length).length_eq,idxs_length];omega
 ·simp
theorem itoa_le {n:Int} (h:-9223372036854775808≤n∧n≤9223372036854775807):(Lib.itoa n).length≤50000:=by
 have:=Lib.itoa_length_le n h.1 h.2
 omega
theorem short_ite {c:Prop} [Decidable c] {a b:Option (List UInt8 × TourV)} (h1:shortA a) (h2:shortA b):shortA (if c then a else b):=by
 split
 ·exact h1
 ·exact h2
theorem runF_short (x:TourV) (s:List UInt8) (ws:List (List UInt8)):shortA (runF x s ws):=by
 unfold runF
 refine short_ite ((shortA.outA (by split<;>decide)).gate) ?_
 refine short_ite ((shortA.outA (itoa_le (waysF_bd _ _))).gate) ?_
 refine short_ite ((shortA.outA (by split;exact planText_le _ _;exact noneW_le)).gate) ?_
 refine short_ite ((shortA.outA (roundText_le _ _ _)).gate) ?_
 refine short_ite ((shortA.outA (lstF_le fun l h=>⟨(spF_bd h).2.1,(spF_bd h).2.2⟩)).gate) ?_
 refine short_ite ((shortA.outA (lstF_le fun l h=>⟨(bfF_in h).1,fun y hy=>by have:=(bfF_in h).2 y hy;omega⟩)).gate) ?_
 refine short_ite ((shortA.outA (brText_le _ _)).gate) ?_
 refine short_ite ((shortA.outA (Nat.le_trans (fmt_le (n:=100) (dbF_bd x).2 (dbF_small x)) (by omega))).gate) ?_
 refine short_ite ((shortA.outA (itoa_le (fullCF_bd x))).gate) ?_
 refine short_ite ((shortA.outA (itoa_le (fullWF_bd x))).gate) ?_
 refine short_ite ((shortA.outA (safeText_le x)).gate) ?_
 refine short_ite ((shortA.outA (orderText_le x)).gate) ?_
 refine short_ite ((shortA.outA (kingText_le x)).gate) ?_
 refine short_ite ((shortA.outA (scoreText_le x)).gate) ?_
 refine short_ite ((shortA.outA (tourText_le x)).gate) ?_
 refine short_ite ((shortA.setA).gate) ?_
 refine short_ite ((shortA.setA).gate) ?_
 refine short_ite ((shortA.setA).gate) ?_
 refine short_ite ((shortA.setA).gate) ?_
 refine short_ite ((shortA.setA).gate) ?_
 refine short_ite ((shortA.setA).gate) ?_
 refine short_ite ((shortA.setA).gate) ?_
 refine short_ite ((shortA.setA).gate) ?_
 intro r hr;cases hr
theorem lineA_short (x:TourV) (l:List UInt8):(lineA x l).2.length≤50000:=by
 unfold lineA
 split
 ·simp
 ·have:=runF_short x ((cutB 32 l).headD []) (cutB 32 l).tail
  cases h:runF x ((cutB 32 l).headD []) (cutB 32 l).tail with
  | none=>show unkW.length≤_;decide
  | some r=>exact this r h
theorem rzRun_len:∀(f:Nat) (left:List Int) (q:List Int × List Int),(rzRun f left q).1.length=q.1.length
 | 0,_,_=>rfl
 | f+1,left,q=>by
  rw [rzRun]
  split
  ·rfl
  ·rename_i p rest _
   rw [rzRun_len f rest _,(rzStep_len p rest q rest.length).1]
theorem rzF_small {sc:List Int}{y:TourV} (h:rzF sc=some y):y.wins.length≤8:=by
 unfold rzF at h
 split at h
 ·rename_i h1
  injection h with h
  subst h
  unfold landB at h1
  rw [Bool.and_eq_true,sortI_len] at h1
  have:=inB_t.1 h1.1
  show (rzRun _ _ _).1.length≤8
  rw [rzRun_len]
  show (List.replicate sc.length (0:Int)).length≤8
  rw [List.length_replicate];omega
 ·cases h
def smallA (N:Nat) (o:Option (List UInt8 × TourV)):Prop:=∀r,o=some r→r.2.wins.length≤N
theorem smallA.outA {N:Nat}{x:TourV}{ok:Bool}{t:List UInt8} (h:x.wins.length≤N):smallA N (outA x ok t):=by
 intro r hr
 unfold Go.Proofs.YtkapoldjcpfdgaaGreatDoor.outA at hr
 split at hr
 ·injection hr with hr;subst hr;exact h
 ·cases hr
theorem smallA.setA {N:Nat}{x:TourV}{ok:Bool}{o:Option TourV} (h:x.wins.length≤N) (ho:∀y,o=some y→y.wins.length≤N):smallA N (setA x ok o):=by
 intro r hr
 unfold Go.Proofs.YtkapoldjcpfdgaaGreatDoor.setA at hr
 split at hr
 ·injection hr with hr;subst hr
  cases o with
  | none=>exact h
  | some y=>exact ho y rfl
 ·cases hr
theorem smallA.gate {N n m:Nat}{o:Option (List UInt8 × TourV)} (h:smallA N o):smallA N (gate n m o):=by
 intro r hr
 unfold Go.Proofs.YtkapoldjcpfdgaaGreatDoor.gate at hr
 split at hr
 ·exact h r hr
 ·cases hr
theorem small_ite {N:Nat}{c:Prop} [Decidable c] {a b:Option (List UInt8 × TourV)} (h1:smallA N a) (h2:smallA N b):smallA N (if c then a else b):=by
 split
 ·exact h1
 ·exact h2
theorem runF_small (x:TourV) (s:List UInt8) (ws:List (List UInt8)) (N:Nat) (h8:8≤N) (hx:x.wins.length≤N):smallA N (runF x s ws):=by
 unfold runF
 refine small_ite (smallA.outA hx).gate ?_
 refine small_ite (smallA.outA hx).gate ?_
 refine small_ite (smallA.outA hx).gate ?_
 refine small_ite (smallA.outA hx).gate ?_
 refine small_ite (smallA.outA hx).gate ?_
 refine small_ite (smallA.outA hx).gate ?_
 refine small_ite (smallA.outA hx).gate ?_
 refine small_ite (smallA.outA hx).gate ?_
 refine small_ite (smallA.outA hx).gate ?_
 refine small_ite (smallA.outA hx).gate ?_
 refine small_ite (smallA.outA hx).gate ?_
 refine small_ite (smallA.outA hx).gate ?_
 refine small_ite (smallA.outA hx).gate ?_
 refine small_ite (smallA.outA hx).gate ?_
 refine small_ite (smallA.outA hx).gate ?_
 refine small_ite (smallA.setA hx (fun y hy=>by
  unfold rnmF at hy
  split at hy
  ·injection hy with hy;subst hy;show (renL _ _).length≤N;rw [renL_len];exact hx
  ·cases hy)).gate ?_
 refine small_ite (smallA.setA hx (fun y hy=>by
  unfold squareF at hy
  split at hy
  ·injection hy with hy;subst hy;show (rotL _ _).length≤N;unfold rotL;rw [rwL_len];omega
  ·split at hy
   ·injection hy with hy;subst hy;show (rotL _ _).length≤N;unfold rotL;rw [rwL_len];omega
   ·cases hy)).gate ?_
 refine small_ite (smallA.setA hx (fun y hy=>by
  unfold strF at hy
  split at hy
  ·injection hy with hy;subst hy;show (strR _ _).length≤N;rw [strR_len];exact hx
  ·cases hy)).gate ?_
 refine small_ite (smallA.setA hx (fun y hy=>Nat.le_trans (rzF_small hy) h8)).gate ?_
 refine small_ite (smallA.setA hx (fun y hy=>by
  unfold partF at hy
  split at hy
  ·injection hy with hy;subst hy;show (pwL _ _).length≤N;rw [pwL_len,memL_len];have:=cntL_le (numV (wd ws 0)).toNat;omega
  ·cases hy)).gate ?_
 refine small_ite (smallA.setA hx (fun y hy=>by
  unfold flipF at hy
  split at hy
  ·injection hy with hy;subst hy;show (flipW _ _ _).length≤N;rw [flipW_length];exact hx
  ·cases hy)).gate ?_
 refine small_ite (smallA.setA hx (fun y hy=>by
  unfold turnF at hy
  split at hy
  ·injection hy with hy;subst hy;show (turnL x).length≤N;rw [turnL_len];exact hx
  ·cases hy)).gate ?_
 refine small_ite (smallA.setA hx (fun y hy=>by
  obtain ⟨t1,t2,t3,_⟩:=tourB_t (parF_iff.1 hy).1
  omega)).gate ?_
 intro r hr;cases hr
theorem lineA_small (x:TourV) (l:List UInt8) (N:Nat) (h8:8≤N) (hx:x.wins.length≤N):(lineA x l).1.wins.length≤N:=by
 unfold lineA
 split
 ·exact hx
 ·have:=runF_small x ((cutB 32 l).headD []) (cutB 32 l).tail N h8 hx
  cases h:runF x ((cutB 32 l).headD []) (cutB 32 l).tail with
  | none=>exact hx
  | some r=>exact this r h
def sessStep (s:TourV × List UInt8) (l:List UInt8):TourV × List UInt8:=((lineA s.1 l).1,s.2++(if (lineA s.1 l).2 = [] then [] else (lineA s.1 l).2++[10]))
def sessF (ls:List (List UInt8)):TourV × List UInt8:=ls.foldl sessStep (console4,[])
theorem sessF_take {ls:List (List UInt8)}{j:Nat}{l:List UInt8} (h:ls[j]? = some l):sessF (ls.take (j+1))=sessStep (sessF (ls.take j)) l:=by
 unfold sessF
 rw [take_snoc h,List.foldl_append];rfl
theorem sessF_bd (ls:List (List UInt8)):∀j,(sessF (ls.take j)).1.wins.length≤8∧(sessF (ls.take j)).2.length≤50001*j
 | 0=>⟨by show console4.wins.length≤8;decide,by show ([]:List UInt8).length≤_;simp⟩
 | j+1=>by
  obtain ⟨h1,h2⟩:=sessF_bd ls j
  cases h:ls[j]? with
  | none=>
   have hl:ls.length≤j:=by
    rcases Nat.lt_or_ge j ls.length with h' | h'
    ·rw [List.getElem?_eq_getElem h'] at h;cases h
    ·exact h'
   rw [List.take_of_length_le (by omega)]
   rw [List.take_of_length_le hl] at h1 h2
   exact ⟨h1,by omega⟩
  | some l=>
   rw [sessF_take h]
   generalize sessF (ls.take j)=s at *
   have h3:=lineA_short s.1 l
   refine ⟨lineA_small s.1 l 8 (Nat.le_refl _) h1,?_⟩
   unfold sessStep
   simp only
   split
   ·simp;omega
   ·simp only [List.length_append,List.length_singleton];omega
theorem OwT.keepTy {W W':World}{lo hi:Nat}{v:Value}{x:TourV} (h:OwT W lo hi v x) (hs:W.heap.size≤W'.heap.size) (hk:∀(k:Nat) cs m,W.heap[k]? = some (Obj.cells cs 3 m)→W'.heap[k]? = W.heap[k]?):OwT W' lo hi v x:=by
 obtain ⟨u,e,⟨h1,h2⟩,h3,h4⟩:=h
 refine ⟨u,e,⟨h1,?_⟩,h3,Nat.le_trans h4 hs⟩
 rcases h2 with h2|⟨g,cap,cur,e1,e2,e3,e4⟩
 ·exact .inl h2
 ·exact .inr ⟨g,cap,cur,e1,e2,(hk g cur _ e3).trans e3,e4⟩
theorem IsBu.keepTy {W W':World}{B b:Nat}{bs:List Value} (h:IsBu B b bs W) (hb:W'.heap[b]? = W.heap[b]?) (hk:∀(k:Nat) cs m,W.heap[k]? = some (Obj.cells cs 5 m)→W'.heap[k]? = W.heap[k]?):IsBu B b bs W':=by
 have key:∀p,Lib.BuilderAt 58 5 B b p bs W→Lib.BuilderAt 58 5 B b p bs W':=fun p ⟨q1,v,q2,⟨q3,q4⟩,q5⟩=>by
  refine ⟨q1,v,hb.trans q2,⟨q3,?_⟩,q5⟩
  rcases q4 with q4|⟨g,cap,cur,e1,e2,e3,e4⟩
  ·exact .inl q4
  ·exact .inr ⟨g,cap,cur,e1,e2,(hk g cur _ e3).trans e3,e4⟩
 exact h.imp (key _) (key _)
structure SeS (w wr:World) (tb bB gl:Nat) (ls:List (List UInt8)) (x:TourV) (acc:List UInt8):Prop where
 be:Below w.heap.size w wr
 lo:w.heap.size≤tb
 tl:tb<bB
 gl':ls = []∨gl<tb
 sz:bB<wr.heap.size
 bx:∃A c lo hi,wr.heap[tb]? = some (.cells #[.int .i64 x.size,.slice A x.wins.length c] 27 (0,0))∧OwT wr lo hi (.agg #[.int .i64 x.size,.slice A x.wins.length c]) x
 bu:IsBu bB bB (Lib.byteCells acc) wr
 li:SlV wr (some ⟨gl,0,none⟩) (strs ls)
theorem SeS.move {w wr W:World}{tb bB gl:Nat}{ls:List (List UInt8)}{x y:TourV}{acc:List UInt8} (h:SeS w wr tb bB gl ls x acc) (hs:wr.heap.size≤W.heap.size) (hb:Below w.heap.size w W) (hk:∀k,k<wr.heap.size→k≠tb→W.heap[k]? = wr.heap[k]?)
  {A:Option Addr}{c lo hi:Nat} (ht:W.heap[tb]? = some (.cells #[.int .i64 y.size,.slice A y.wins.length c] 27 (0,0))) (ho:OwT W lo hi (.agg #[.int .i64 y.size,.slice A y.wins.length c]) y):SeS w W tb bB gl ls y acc:=by
 obtain ⟨A0,c0,lo0,hi0,hx,_⟩:=h.bx
 have h1:=h.tl
 have h2:=h.sz
 have h3:=h.gl'
 refine ⟨hb,h.lo,h.tl,h.gl',by omega,⟨A,c,lo,hi,ht,ho⟩,IsBu.keepTy h.bu (hk bB h2 (by omega)) (fun k cs m hc=>hk k (Array.getElem?_eq_some_iff.1 hc).1 (fun e=>?_)),?_⟩
 ·subst e
  rw [hx] at hc
  injection hc with hc
  injection hc with _ hc _
  revert hc
  decide
 ·rcases h.li with h4|⟨b,off,e,h4⟩
  ·exact .inl h4
  ·injection e with e
   injection e with e1 e2
   subst e1;subst e2
   rcases h3 with h3|h3
   ·exact .inl (by rw [h3];rfl)
   ·exact .inr ⟨_,_,rfl,fun k v hv=>(World.cell?_of_block (a:=⟨gl,0+k,none⟩) (hk gl (by omega) (by omega))).trans (h4 k v hv)⟩
theorem SeS.wrote {w wr W:World}{tb bB gl:Nat}{ls:List (List UInt8)}{x:TourV}{acc l:List UInt8} (h:SeS w wr tb bB gl ls x acc) (hu:BuAt bB bB (Lib.byteCells acc++Lib.strCells ⟨l.toArray⟩) W) (hb:Below bB wr W) (hk:OthK bB wr W):SeS w W tb bB gl ls x (acc++l):=by
 obtain ⟨A0,c0,lo0,hi0,hx,ho⟩:=h.bx
 have h1:=h.tl
 have h2:=h.sz
 have h3:=h.gl'
 have h4:=h.lo
 refine ⟨h.be.trans (hb.mono (by omega)),h.lo,h.tl,h.gl',Nat.lt_of_lt_of_le h2 hb.size,⟨A0,c0,lo0,hi0,(hb.block tb h1).trans hx,OwT.keepTy ho hb.size (fun k cs m hc=>hk k (Array.getElem?_eq_some_iff.1 hc).1 (fun e=>?_) (fun cs' m' hc'=>?_))⟩,?_,?_⟩
 ·subst e
  obtain ⟨p,_,v,q2,_⟩:∃p,Lib.BuilderAt 58 5 k k p (Lib.byteCells acc) wr:=by
   rcases h.bu with q|q
   ·exact ⟨_,q⟩
   ·exact ⟨_,q⟩
  rw [q2] at hc
  injection hc with hc
  injection hc with _ hc _
  revert hc
  decide
 ·rw [hc] at hc'
  injection hc' with hc'
  injection hc' with _ hc' _
  revert hc'
  decide
 ·rw [Lib.byteCells_append]
  exact .inr hu
 ·rcases h.li with h5|⟨b,off,e,h5⟩
  ·exact .inl h5
  ·injection e with e
   injection e with e1 e2
   subst e1;subst e2
   rcases h3 with h3|h3
   ·exact .inl (by rw [h3];rfl)
   ·exact .inr ⟨_,_,rfl,fun k v hv=>(World.cell?_of_block (a:=⟨gl,0+k,none⟩) (hb.block gl (by omega))).trans (h5 k v hv)⟩
theorem linesF_word {l:List UInt8}{z:List UInt8} (h:z∈linesF l):z.length≤l.length:=by
 unfold linesF at h
 split at h
 ·exact cutB_word 10 l z ((List.dropLast_sublist _).subset h)
 ·exact cutB_word 10 l z h
def outS (l:List UInt8):List UInt8:=if 40<(linesF l).length then [] else (sessF (linesF l)).2
def numS (l:List UInt8):Int:=if 40<(linesF l).length then -1 else ((linesF l).length:Int)
theorem seS_start {w w1 w2:World}{gl:Nat}{ls:List (List UInt8)}{A:Option Addr}{c:Nat} (hb1:Below w.heap.size w w1) (hgl:SlV w1 (some ⟨gl,0,none⟩) (strs ls)) (ho:OwT w2 w1.heap.size w2.heap.size (.agg #[.int .i64 console4.size,.slice A console4.wins.length c]) console4) (hb2:Below w1.heap.size w1 w2):
  SeS w ((w2.alloc (.cells #[.int .i64 console4.size,.slice A console4.wins.length c] 27)).alloc (.cells #[.pointer none,.slice none 0 0] 58)) w2.heap.size (w2.heap.size+1) gl ls console4 []:=by
 have s1:(w2.alloc (.cells #[.int .i64 console4.size,.slice A console4.wins.length c] 27)).heap.size=w2.heap.size+1:=World.size_alloc _ _
 have b3:Below w2.heap.size w2 (w2.alloc (.cells #[.int .i64 console4.size,.slice A console4.wins.length c] 27)):=(Below.refl _ _).alloc (Nat.le_refl _) _
 have h3:=(MapKept.heap_alloc w2 (.cells #[.int .i64 console4.size,.slice A console4.wins.length c] 27)).1
 generalize w2.alloc (.cells #[.int .i64 console4.size,.slice A console4.wins.length c] 27)=w3 at *
 have b4:Below w3.heap.size w3 (w3.alloc (.cells #[.pointer none,.slice none 0 0] 58)):=(Below.refl _ _).alloc (Nat.le_refl _) _
 have h4:=(MapKept.heap_alloc w3 (.cells #[.pointer none,.slice none 0 0] 58)).1
 have s4:(w3.alloc (.cells #[.pointer none,.slice none 0 0] 58)).heap.size=w3.heap.size+1:=World.size_alloc _ _
 have h12:=hb1.size
 have h22:=hb2.size
 rw [s1] at h4
 have hlt:ls = []∨gl<w2.heap.size:=by
  cases ls with
  | nil=>exact .inl rfl
  | cons a r=>
   have hc:=rl_word hgl
   have:=block_lt_of_cell (a:=⟨gl,0,none⟩) hc
   exact .inr (Nat.lt_of_lt_of_le this h22)
 have bw2:Below w2.heap.size w2 (w3.alloc (.cells #[.pointer none,.slice none 0 0] 58)):=b3.trans (b4.mono (by omega))
 have bw1:Below w1.heap.size w1 (w3.alloc (.cells #[.pointer none,.slice none 0 0] 58)):=hb2.trans (bw2.mono h22)
 refine ⟨hb1.trans (bw1.mono h12),by omega,by omega,hlt,by omega,⟨A,c,_,_,(b4.block _ (by omega)).trans h3,ho.grow bw2⟩,.inl ⟨Nat.le_refl _,_,h4,⟨by simp [Lib.byteCells],.inl ⟨rfl,by simp [Lib.byteCells]⟩⟩,by simp [Value.ownBlock]⟩,?_⟩
 exact slV_keep hgl (lo:=0) (hi:=0) (Keep.of_below bw1 (Nat.le_refl _)) (fun a _=>.inr (Nat.zero_le _))
theorem bx_set0 {W:World}{b:Nat}{t:TypeId}{x0 x1:Value} (h:W.heap[b]? = some (.cells #[x0,x1] t (0,0))) (y:Value):(W.setCell ⟨b,0,none⟩ y).heap[b]? = some (.cells #[y,x1] t (0,0)):=by
 show (W.heap.modify b _)[b]? = _
 rw [Array.getElem?_modify,if_pos rfl,h]
 simp
theorem bx_set1 {W:World}{b:Nat}{t:TypeId}{x0 x1:Value} (h:W.heap[b]? = some (.cells #[x0,x1] t (0,0))) (y:Value):(W.setCell ⟨b,1,none⟩ y).heap[b]? = some (.cells #[x0,y] t (0,0)):=by
 show (W.heap.modify b _)[b]? = _
 rw [Array.getElem?_modify,if_pos rfl,h]
 simp
theorem seS_line {w wr w4:World}{tb bB gl:Nat}{ls:List (List UInt8)}{x y:TourV}{acc:List UInt8}{A A4:Option Addr}{c c4 lo hi:Nat} (h:SeS w wr tb bB gl ls x acc) (htb:wr.heap[tb]? = some (.cells #[.int .i64 x.size,.slice A x.wins.length c] 27 (0,0))) (ho:OwT w4 lo hi (.agg #[.int .i64 y.size,.slice A4 y.wins.length c4]) y) (hb:Below wr.heap.size wr w4):
  ∃w5,w5=w4.alloc (.cells #[.int .i64 y.size,.slice A4 y.wins.length c4] 27)∧w5.cell? ⟨tb,0,none⟩=some (.int .i64 x.size)∧w5.cell? ⟨tb,1,none⟩=some (.slice A x.wins.length c)∧w5.frozen? ⟨tb,0,none⟩=false∧w5.frozen? ⟨tb,1,none⟩=false ∧
   w5.cell? ⟨w4.heap.size,0,none⟩=some (.int .i64 y.size)∧w5.cell? ⟨w4.heap.size,1,none⟩=some (.slice A4 y.wins.length c4) ∧
   SeS w ((w5.setCell ⟨tb,0,none⟩ (.int .i64 y.size)).setCell ⟨tb,1,none⟩ (.slice A4 y.wins.length c4)) tb bB gl ls y acc:=by
 have b5:Below w4.heap.size w4 (w4.alloc (.cells #[.int .i64 y.size,.slice A4 y.wins.length c4] 27)):=(Below.refl _ _).alloc (Nat.le_refl _) _
 have n0:(w4.alloc (.cells #[.int .i64 y.size,.slice A4 y.wins.length c4] 27)).cell? ⟨w4.heap.size,0,none⟩=some (.int .i64 y.size):=by simp
 have n1:(w4.alloc (.cells #[.int .i64 y.size,.slice A4 y.wins.length c4] 27)).cell? ⟨w4.heap.size,1,none⟩=some (.slice A4 y.wins.length c4):=by simp
 have hb5:Below wr.heap.size wr (w4.alloc (.cells #[.int .i64 y.size,.slice A4 y.wins.length c4] 27)):=hb.trans (b5.mono hb.size)
 have ho5:=ho.grow b5
 generalize w4.alloc (.cells #[.int .i64 y.size,.slice A4 y.wins.length c4] 27)=w5 at *
 have htl:=h.tl
 have hsz:=h.sz
 have hlo:=h.lo
 have htb5:w5.heap[tb]? = some (.cells #[.int .i64 x.size,.slice A x.wins.length c] 27 (0,0)):=(hb5.block tb (by omega)).trans htb
 have KP:Keep tb (tb+1) w5 ((w5.setCell ⟨tb,0,none⟩ (.int .i64 y.size)).setCell ⟨tb,1,none⟩ (.slice A4 y.wins.length c4)):=
  ((Keep.refl _ _ _).setCell (p:=⟨tb,0,none⟩) (Nat.le_refl _) (Nat.lt_succ_self _) _).setCell (p:=⟨tb,1,none⟩) (Nat.le_refl _) (Nat.lt_succ_self _) _
 have hbe:Below w.heap.size w w5:=h.be.trans (hb5.mono h.be.size)
 refine ⟨w5,rfl,by rw [Lib.cell_of_heap htb5];rfl,by rw [Lib.cell_of_heap htb5];rfl,Lib.frozen_of_heap htb5 0,Lib.frozen_of_heap htb5 1,n0,n1,h.move (Nat.le_trans hb5.size KP.size) (hbe.trans (KP.below hlo hbe.size)) (fun k hk hne=>?_) (A:=A4) (c:=c4) (lo:=lo) (hi:=hi) ?_ (OwT.keepTy ho5 KP.size (fun k cs m hc=>KP.block k (Array.getElem?_eq_some_iff.1 hc).1 ?_))⟩
 ·rw [KP.block k (Nat.lt_of_lt_of_le hk hb5.size) (by omega)]
  exact hb5.block k hk
 ·exact bx_set1 (bx_set0 htb5 _) _
 ·have:k≠tb:=fun e=>by
   subst e
   rw [htb5] at hc
   injection hc with hc
   injection hc with _ hc _
   revert hc
   decide
  omega
theorem runSession_any (l:List UInt8) (w:World) (hc:ComP w) (hl:l.length≤1048576):
  Calls Tryz.prog 10 #[.string ⟨l.toArray⟩] w fun e w'=>e=.returned (.tuple #[.string ⟨(outS l).toArray⟩,.int .i64 (numS l)])∧Below w.heap.size w w':=by
 have HC:=Lib.hid hc
 have HSL:=Lib.hid (splitLines_any l w hl hc.2.2)
 have HLW:Hid (∀z∈linesF l,z.length≤1048576):=fun z hz=>Nat.le_trans (linesF_word hz) hl
 have hO:outS l=if 40<(linesF l).length then [] else (sessF (linesF l)).2:=rfl
 have hN:numS l=if 40<(linesF l).length then -1 else ((linesF l).length:Int):=rfl
 have hnl:(linesF l).length≤1048577:=by
  have h1:=cutB_length 10 l
  unfold linesF
  split
  ·rw [List.length_dropLast];omega
  ·omega
 generalize outS l=out at *
 generalize numS l=num at *
 generalize linesF l=ls at *
 obtain ⟨n,hn⟩:∃n,ls.length=n:=⟨_,rfl⟩
 have HLN:Hid (ls.length=n):=hn
 rw [hn] at hO hN hnl HSL
 by_cases h40:40<n
 ·have HO:Hid (out = []∧num = -1):=⟨by rw [hO,if_pos h40],by rw [hN,if_pos h40]⟩
  have h40i:(40:Int)<(n:Int):=by omega
  clear hO hN hn hc hl
  go_enter Tryz.func10,Tryz.ntmps10
  go_wp2_with (go_at_call 14;refine HSL.out.mono ?_;rintro e w1 ⟨gl,hgl,rfl,hsl,hb⟩;have B1:=Lib.hid hb;clear hb hsl hgl)
  go_ret2
  exact ⟨by rw [HO.out.1,HO.out.2];rfl,B1.out⟩
 have HO:Hid (out=(sessF ls).2∧num=(n:Int)):=⟨by rw [hO,if_neg h40],by rw [hN,if_neg h40]⟩
 have h40i:¬(40:Int)<(n:Int):=by omega
 have h40n:n≤40:=by omega
 clear hO hN hn hc hl h40
 go_enter Tryz.func10,Tryz.ntmps10
 go_wp2_with (first
  | (go_at_call 14;refine HSL.out.mono ?_;rintro e w1 ⟨gl,hgl,rfl,hsl,hb⟩;have B1:=Lib.hid hb;have S1:=Lib.hid hsl;have G1:=Lib.hid hgl;clear hb hsl hgl)
  | (go_at_call 8;refine (implNewConsole_any _).mono ?_;rintro e w2 ⟨v2,rfl,ho,hb⟩;obtain ⟨A2,c2,rfl⟩:=ho.form;have O2:=Lib.hid (And.intro ho hb);clear ho hb))
 have HS0:Hid (SeS w ((w2.alloc (.cells #[.int .i64 console4.size,.slice A2 console4.wins.length c2] 27)).alloc (.cells #[.pointer none,.slice none 0 0] 58)) w2.heap.size (w2.heap.size+1) gl ls console4 []):=seS_start B1.out S1.out O2.out.1 O2.out.2
 obtain ⟨tb,htb⟩:∃tb,w2.heap.size=tb:=⟨_,rfl⟩
 rw [htb] at HS0 ⊢
 generalize ((w2.alloc (.cells #[.int .i64 console4.size,.slice A2 console4.wins.length c2] 27)).alloc (.cells #[.pointer none,.slice none 0 0] 58))=w3 at *
 clear O2 S1 B1 htb G1
 have HBD:=Lib.hid (sessF_bd ls)
 go_loopw [19] (fun i wr=>∃j:Nat,j≤n∧i=.int .i64 j∧Hid (SeS w wr tb (tb+1) gl ls (sessF (ls.take j)).1 (sessF (ls.take j)).2)) (fun i _=>n-(intOf i).toNat)
 case atStart=>exact ⟨0,Nat.zero_le _,rfl,HS0.out⟩
 case round=>
  obtain ⟨j,hj,rfl,HR⟩:=hrel
  clear HS0
  by_cases hlt:j<n
  case neg=>
   obtain rfl:j=n:=by omega
   have HE:Hid (sessF (ls.take j)=sessF ls):=by show _=_;rw [←HLN.out,List.take_length]
   have HBS:Hid (Calls Tryz.prog 31 #[.pointer (some ⟨tb+1,0,none⟩)] wr fun e w'=>e=.returned (.string ⟨(sessF ls).2.toArray⟩)∧Below (tb+1) wr w'):=by
    have h:=HR.out.bu
    rw [HE.out] at h
    exact Tryz.Builder_String_any (tb+1) (tb+1) (sessF ls).2 wr h (Nat.le_of_lt HR.out.sz)
   go_wp2_with (go_at_call 31;refine HBS.out.mono ?_;rintro e w4 ⟨rfl,hb⟩;have B4:=Lib.hid hb;clear hb)
   go_ret2
   exact ⟨by rw [HO.out.1,HO.out.2];rfl,HR.out.be.trans (B4.out.mono (by have:=HR.out.lo;omega))⟩
  obtain ⟨lj,hlj⟩:∃lj,ls[j]? = some lj:=⟨_,List.getElem?_eq_getElem (by rw [HLN.out];exact hlt)⟩
  have hst:=sessF_take hlj
  have hbd:=HBD.out j
  obtain ⟨⟨x,acc⟩,hxa⟩:∃s,sessF (ls.take j)=s:=⟨_,rfl⟩
  rw [hxa] at hst HR hbd
  simp only at HR hbd
  have hsh:=lineA_short x lj
  have hstep:sessStep (x,acc) lj=((lineA x lj).1,acc++(if (lineA x lj).2 = [] then [] else (lineA x lj).2++[10])):=rfl
  rw [hstep] at hst
  obtain ⟨A,c,lo,hi,htb,ho⟩:=HR.out.bx
  have HRL0:=runLine_any _ x lj wr ho.in_ (by omega) (HC.out.below HR.out.be) (HLW.out lj (List.mem_of_getElem? hlj))
  generalize (lineA x lj).1=y at *
  generalize (lineA x lj).2=o at *
  have HRL:=Lib.hid HRL0
  have HST:=Lib.hid hst
  have HACC:Hid (acc.length≤50001*j):=hbd.2
  obtain ⟨cl,cl2⟩:wr.cell? ⟨gl,j,none⟩=some (.string ⟨lj.toArray⟩)∧True:=by
   have hs:(strs ls)[j]? = some (.string ⟨lj.toArray⟩):=by simp [strs,hlj]
   rcases HR.out.li with h4|⟨b,off,e,h4⟩
   ·rw [h4] at hs;simp at hs
   ·injection e with e
    injection e with e1 e2
    subst e1;subst e2
    have h5:=h4 j _ hs
    rw [Nat.zero_add] at h5
    exact ⟨h5,trivial⟩
  have c0:wr.cell? ⟨tb,0,none⟩=some (.int .i64 x.size):=by rw [Lib.cell_of_heap htb];rfl
  have c1:wr.cell? ⟨tb,1,none⟩=some (.slice A x.wins.length c):=by rw [Lib.cell_of_heap htb];rfl
  have HTB:Hid (wr.heap[tb]? = some (.cells #[.int .i64 x.size,.slice A x.wins.length c] 27 (0,0))):=htb
  have hji:(j:Int)<n:=by omega
  clear hxa hst hstep htb ho HRL0 hbd cl2 hlj HBD
  cases o with
  | nil=>
   have HE:Hid (sessF (ls.take (j+1))=(y,acc)):=by show _=_;rw [HST.out];simp
   go_wp2_with fail
   refine HRL.out.mono ?_
   rintro e w4 ⟨v4,rfl,ho4,hb4⟩
   obtain ⟨A4,c4,rfl⟩:=ho4.form
   obtain ⟨w5,hw5,d0,d1,f0,f1,n0,n1,hs5⟩:=seS_line HR.out HTB.out ho4 hb4
   have HS5:=Lib.hid hs5
   clear hs5 ho4 hb4 c0 c1 cl
   go_upto_region 10 with fail
   rw [←hw5]
   generalize w4.heap.size=b9 at *
   clear hw5
   go_wp2
   go_roundw
   case rel=>exact ⟨j+1,by omega,by go_num,by rw [HE.out];exact HS5.out⟩
   case measure=>simp [intOf];omega
  | cons o1 os=>
   have HE:Hid (sessF (ls.take (j+1))=(y,acc++(o1 :: os++[10]))):=by show _=_;rw [HST.out,if_neg (by simp)]
   go_wp2_with fail
   refine HRL.out.mono ?_
   rintro e w4 ⟨v4,rfl,ho4,hb4⟩
   obtain ⟨A4,c4,rfl⟩:=ho4.form
   obtain ⟨w5,hw5,d0,d1,f0,f1,n0,n1,hs5⟩:=seS_line HR.out HTB.out ho4 hb4
   have HS5:=Lib.hid hs5
   clear hs5 ho4 hb4 c0 c1 cl
   go_upto_region 10 with fail
   rw [←hw5]
   generalize w4.heap.size=b9 at *
   clear hw5
   have hsum:¬(9223372036854775807<os.length+1+1):=by
    simp only [List.length_cons] at hsh;omega
   have hcat:(⟨(o1 :: os).toArray⟩:ByteArray)++⟨#[10]⟩=⟨(o1 :: os++[10]).toArray⟩:=bcat (o1 :: os) [10]
   go_wp2_with fail
   refine (writeString_any (tb+1) (tb+1) (Lib.byteCells acc) ⟨(o1 :: (os++[10])).toArray⟩ _ HS5.out.bu ?_ (Nat.le_of_lt HS5.out.sz)).mono ?_
   ·have h1:=HACC.out
    have h2:(⟨(o1 :: (os++[10])).toArray⟩:ByteArray).size=os.length+2:=by show (o1 :: (os++[10])).toArray.size=_;simp
    rw [h2,Lib.byteCells_length]
    simp only [List.length_cons] at hsh
    have h3:50001*j≤50001*40:=Nat.mul_le_mul (Nat.le_refl _) (by omega)
    omega
   rintro e w6 ⟨⟨u6,rfl⟩,hu6,hb6,hk6⟩
   have HS6:=Lib.hid (HS5.out.wrote (l:=o1 :: (os++[10])) hu6 hb6 hk6)
   clear hu6 hb6 hk6 hcat hsum d0 d1 f0 f1 n0 n1
   go_wp2
   go_roundw
   case rel=>exact ⟨j+1,by omega,by go_num,by rw [HE.out];exact HS6.out⟩
   case measure=>simp [intOf];omega
theorem sortI_id {l:List Int} (h:l.Pairwise (·≤·)):sortI l=l:=by
 unfold sortI
 exact List.mergeSort_of_pairwise (h.imp fun {a b} hab=>by simpa using hab)
theorem runF_realize (x:TourV) (l:List UInt8):runF x [114,101,97,108,105,122,101] [l]=setA x (pnB l) (rzF (pnF l)):=by kernel_rfl
end Go.Proofs.YtkapoldjcpfdgaaGreatDoor
