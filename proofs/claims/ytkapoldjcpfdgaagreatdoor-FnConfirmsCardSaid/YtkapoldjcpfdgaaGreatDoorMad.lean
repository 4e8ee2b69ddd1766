/- Triangles: both packages' contracts. -/
import Derived.Test.YtkapoldjcpfdgaaGreatDoorMac
set_option maxHeartbeats 4000000
set_option maxRecDepth 100000
namespace Go.Proofs.YtkapoldjcpfdgaaGreatDoor
open Go.ChangeShapes Go.WideShapes Go.ChangeAt Go.RowKit
def posR (key:Int→Int) (l:List Int) (x:Int):Nat→Nat
 | 0=>0
 | k+1=>if key (l.getD k 0)<key x then posR key l x k else k+1
def insR (key:Int→Int) (l:List Int) (x:Int):List Int:=l.take (posR key l x l.length)++x :: l.drop (posR key l x l.length)
def insF (key:Int→Int) (xs:List Int):List Int:=xs.foldl (insR key) []
theorem posR_le (key:Int→Int) (l:List Int) (x:Int):∀k,posR key l x k≤k
 | 0=>Nat.le_refl _
 | k+1=>by
  unfold posR
  split
  ·exact Nat.le_succ_of_le (posR_le key l x k)
  ·exact Nat.le_refl _
theorem posR_go {key:Int→Int}{l:List Int}{x y:Int}{k:Nat} (hy:l[k]? = some y) (h:key y<key x):posR key l x (k+1)=posR key l x k:=by
 have:l.getD k 0=y:=by rw [List.getD_eq_getElem?_getD,hy];rfl
 rw [posR,if_pos (by rw [this];exact h)]
theorem posR_stop {key:Int→Int}{l:List Int}{x y:Int}{k:Nat} (hy:l[k]? = some y) (h:¬key y<key x):posR key l x (k+1)=k+1:=by
 have:l.getD k 0=y:=by rw [List.getD_eq_getElem?_getD,hy];rfl
 rw [posR,if_neg (by rw [this];exact h)]
theorem insR_length (key:Int→Int) (l:List Int) (x:Int):(insR key l x).length=l.length+1:=by
 have:=posR_le key l x l.length
 simp [insR];omega
theorem insF_snoc (key:Int→Int) (xs:List Int) (x:Int):insF key (xs++[x])=insR key (insF key xs) x:=by
 simp [insF,List.foldl_append]
theorem insF_take {key:Int→Int}{xs:List Int}{k:Nat}{x:Int} (h:xs[k]? = some x):insF key (xs.take (k+1))=insR key (insF key (xs.take k)) x:=by
 rw [take_snoc h,insF_snoc]
theorem insFold_length (key:Int→Int):∀(xs l:List Int),(xs.foldl (insR key) l).length=l.length+xs.length
 | [],l=>rfl
 | x :: xs,l=>by rw [List.foldl_cons,insFold_length key xs,insR_length,List.length_cons];omega
theorem insF_length (key:Int→Int) (xs:List Int):(insF key xs).length=xs.length:=by
 rw [insF,insFold_length];simp
theorem insR_perm (key:Int→Int) (l:List Int) (x:Int):(insR key l x).Perm (x :: l):=by
 unfold insR
 generalize posR key l x l.length=k
 exact List.perm_middle.trans (by rw [List.take_append_drop])
theorem insFold_perm (key:Int→Int):∀(xs l:List Int),(xs.foldl (insR key) l).Perm (xs++l)
 | [],l=>.refl _
 | x :: xs,l=>by
  rw [List.foldl_cons]
  exact (insFold_perm key xs _).trans ((List.Perm.append_left xs (insR_perm key l x)).trans (by simp))
theorem insF_perm (key:Int→Int) (xs:List Int):(insF key xs).Perm xs:=by
 have:=insFold_perm key xs []
 simpa [insF] using this
def rowJ (P:List Int) (x:Int) (j:Nat) (rest:List Int):List Int:=P.take j++x :: (P.drop j++rest)
theorem rowJ_length {P:List Int}{x:Int}{j:Nat}{rest:List Int} (h:j≤P.length):(rowJ P x j rest).length=P.length+1+rest.length:=by
 simp [rowJ];omega
theorem rowJ_at {P:List Int}{x:Int}{j:Nat}{rest:List Int} (h:j≤P.length):(rowJ P x j rest)[j]? = some x:=by
 unfold rowJ
 rw [List.getElem?_append_right (by simp;omega)]
 simp [Nat.min_eq_left h]
theorem rowJ_before {P:List Int}{x y:Int}{j:Nat}{rest:List Int} (h:P[j]? = some y):(rowJ P x (j+1) rest)[j]? = some y:=by
 unfold rowJ
 have hl:j<P.length:=(List.getElem?_eq_some_iff.1 h).1
 rw [List.getElem?_append_left (by simp;omega),List.getElem?_take_of_lt (by omega)];exact h
theorem rowJ_swap {P:List Int}{x y:Int}{j:Nat}{rest:List Int} (h:P[j]? = some y):((rowJ P x (j+1) rest).set (j+1) y).set j x=rowJ P x j rest:=by
 have hl:j<P.length:=(List.getElem?_eq_some_iff.1 h).1
 have hd:P.drop j=y :: P.drop (j+1):=by
  obtain ⟨_,e⟩:=List.getElem?_eq_some_iff.1 h
  rw [←e,List.drop_eq_getElem_cons hl]
 unfold rowJ
 rw [take_snoc h,List.append_assoc,hd]
 have e1:(P.take j++([y]++x :: (P.drop (j+1)++rest)))=P.take j++(y :: x :: (P.drop (j+1)++rest)):=by simp
 rw [e1,List.set_append_right _ _ (by simp;omega),List.set_append_right _ _ (by simp;omega)]
 have m:(P.take j).length=j:=by simp;omega
 rw [m,Nat.sub_self,show j+1-j=1 from by omega]
 simp
theorem rowJ_swap' {P:List Int}{x y:Int}{j:Nat}{rest:List Int} (h:P[j]? = some y):((rowJ P x (j+1) rest).set j x).set (j+1) y=rowJ P x j rest:=by
 rw [List.set_comm _ _ (by omega),rowJ_swap h]
theorem rowJ_start {P:List Int}{x:Int}{rest:List Int}:rowJ P x P.length rest=P++x :: rest:=by
 simp [rowJ]
theorem rowJ_end {key:Int→Int}{P:List Int}{x:Int}{j:Nat}{rest:List Int} (h:posR key P x P.length=j):rowJ P x j rest=insR key P x++rest:=by
 subst h
 simp [rowJ,insR]
def orT (x:TourV) (s:Nat):Nat→Nat
 | 0=>s
 | k+1=>if s.testBit k then orT x s k ||| winN x k else orT x s k
def stepR (x:TourV) (s:Nat):Nat:=orT x s 8
def reachT (x:TourV):Nat→Nat→Nat
 | 0,s=>s
 | f+1,s=>reachT x f (stepR x s)
def reachF (x:TourV) (a:Nat):Nat:=reachT x 256 (2^a)
def Sub (s t:Nat):Prop:=∀i,s.testBit i=true→t.testBit i=true
theorem Sub.le {s t:Nat} (h:Sub s t):s≤t:=by
 have e:s &&& t=s:=by
  apply Nat.eq_of_testBit_eq
  intro i
  rw [Nat.testBit_and]
  cases hs:s.testBit i
  ·rfl
  ·rw [h i hs];rfl
 rw [←e];exact Nat.and_le_right
theorem Sub.eq {s t:Nat} (h:Sub s t) (h2:Sub t s):s=t:=Nat.le_antisymm h.le h2.le
theorem Sub.refl (s:Nat):Sub s s:=fun _ h=>h
theorem Sub.trans {a b c:Nat} (h:Sub a b) (h2:Sub b c):Sub a c:=fun i hi=>h2 i (h i hi)
theorem orT_bit (x:TourV) (s:Nat):∀k i,(orT x s k).testBit i=true↔s.testBit i=true∨∃b,b<k∧s.testBit b=true∧(winN x b).testBit i=true:=by
 intro k
 induction k with
 | zero=>intro i;simp [orT]
 | succ k ih=>
  intro i
  rw [orT]
  split
  ·next hb=>
   rw [Nat.testBit_or,Bool.or_eq_true,ih]
   constructor
   ·rintro ((h|⟨b,h1,h2,h3⟩)|h)
    ·exact .inl h
    ·exact .inr ⟨b,by omega,h2,h3⟩
    ·exact .inr ⟨k,Nat.lt_succ_self _,hb,h⟩
   ·rintro (h|⟨b,h1,h2,h3⟩)
    ·exact .inl (.inl h)
    ·rcases Nat.eq_or_lt_of_le (Nat.le_of_lt_succ h1) with rfl|h1
     ·exact .inr h3
     ·exact .inl (.inr ⟨b,h1,h2,h3⟩)
  ·next hb=>
   rw [ih]
   constructor
   ·rintro (h|⟨b,h1,h2,h3⟩)
    ·exact .inl h
    ·exact .inr ⟨b,by omega,h2,h3⟩
   ·rintro (h|⟨b,h1,h2,h3⟩)
    ·exact .inl h
    ·rcases Nat.eq_or_lt_of_le (Nat.le_of_lt_succ h1) with rfl|h1
     ·exact absurd h2 hb
     ·exact .inr ⟨b,h1,h2,h3⟩
theorem orT_sub (x:TourV) (s k:Nat):Sub s (orT x s k):=fun i h=>(orT_bit x s k i).2 (.inl h)
theorem orT_lt {x:TourV}{s n:Nat} (hs:s<2^n) (hw:∀b,winN x b<2^n):∀k,orT x s k<2^n:=by
 intro k
 induction k with
 | zero=>exact hs
 | succ k ih=>
  rw [orT]
  split
  ·exact Nat.or_lt_two_pow ih (hw k)
  ·exact ih
theorem orT_mem (x:TourV) (s:Nat):∀k,(memT s k).foldl (fun (acc:Nat) (b:Int)=>acc ||| winN x b.toNat) s=orT x s k:=by
 intro k
 induction k with
 | zero=>rfl
 | succ k ih=>
  cases h:s.testBit k
  ·rw [memT_out h,ih,orT,h];rfl
  ·rw [memT_in h,List.foldl_append,ih,orT,h];simp
theorem win_all {x:TourV} (hok:tourB x=true) (b:Nat):winN x b<2^x.wins.length:=by
 obtain ⟨h1,h2,h3,h4,h5⟩:=tourB_t hok
 have hp:0<2^x.wins.length:=Nat.pow_pos (by omega)
 rcases Nat.lt_or_ge b x.wins.length with h|h
 ·have hy:x.wins[b]? = some x.wins[b]:=List.getElem?_eq_getElem h
  have hin:=inB_t.1 (List.all_eq_true.1 h4 _ (List.mem_of_getElem? hy))
  have h6:(2:Int)^x.wins.length=((2^x.wins.length:Nat):Int):=by rw [Int.natCast_pow];rfl
  rw [h6] at hin
  rw [winN,List.getD_eq_getElem?_getD,hy,Option.getD_some]
  omega
 ·rw [winN,List.getD_eq_getElem?_getD,List.getElem?_eq_none h];exact hp
def Cl (x:TourV) (s:Nat):Prop:=∀b i,s.testBit b=true→(winN x b).testBit i=true→s.testBit i=true
theorem cl_step {x:TourV}{s:Nat} (hs:s<256):stepR x s=s↔Cl x s:=by
 constructor
 ·intro h b i hb hi
  have hb8:b<8:=by
   rcases Nat.lt_or_ge b 8 with h|h
   ·exact h
   ·rw [bit_hi hs h] at hb;cases hb
  have:=(orT_bit x s 8 i).2 (.inr ⟨b,hb8,hb,hi⟩)
  unfold stepR at h
  rwa [h] at this
 ·intro h
  refine (Sub.eq (orT_sub x s 8) ?_).symm
  intro i hi
  rcases (orT_bit x s 8 i).1 hi with h1|⟨b,_,h1,h2⟩
  ·exact h1
  ·exact h b i h1 h2
theorem reach_fix {x:TourV}{s:Nat} (h:stepR x s=s):∀f,reachT x f s=s:=by
 intro f
 induction f with
 | zero=>rfl
 | succ f ih=>rw [reachT,h];exact ih
theorem step_grow {x:TourV}{s:Nat} (h:stepR x s≠s):s<stepR x s:=Nat.lt_of_le_of_ne (orT_sub x s 8).le (Ne.symm h)
theorem reach_end {x:TourV}{n:Nat} (hn:n≤8) (hw:∀b,winN x b<2^n):∀f s,s<2^n→256≤s+f→Cl x (reachT x f s)∧Sub s (reachT x f s)∧reachT x f s<2^n:=by
 intro f
 have h256:2^n≤256:=Nat.pow_le_pow_right (by omega) hn
 induction f with
 | zero=>intro s hs hf;omega
 | succ f ih=>
  intro s hs hf
  by_cases h:stepR x s=s
  ·rw [reach_fix h];exact ⟨(cl_step (by omega)).1 h,Sub.refl s,hs⟩
  ·have h1:=step_grow h
   obtain ⟨a1,a2,a3⟩:=ih (stepR x s) (orT_lt hs hw 8) (by omega)
   exact ⟨a1,(orT_sub x s 8).trans a2,a3⟩
theorem reach_min {x:TourV}{C:Nat} (hC:Cl x C):∀f s,Sub s C→Sub (reachT x f s) C:=by
 intro f
 induction f with
 | zero=>intro s h;exact h
 | succ f ih=>
  intro s h
  refine ih _ ?_
  intro i hi
  rcases (orT_bit x s 8 i).1 hi with h1|⟨b,_,h1,h2⟩
  ·exact h i h1
  ·exact hC b i (h b h1) h2
theorem reach_ok {x:TourV} (hok:tourB x=true) {a:Nat} (ha:a<x.wins.length):Cl x (reachF x a)∧(reachF x a).testBit a=true∧reachF x a<2^x.wins.length:=by
 obtain ⟨t1,t2,t3,_,_⟩:=tourB_t hok
 have hn8:x.wins.length≤8:=by omega
 have hlt:2^a<2^x.wins.length:=Nat.pow_lt_pow_right (by omega) ha
 obtain ⟨h1,h2,h3⟩:=reach_end hn8 (win_all hok) 256 (2^a) hlt (Nat.le_add_left _ _)
 exact ⟨h1,h2 a (by rw [Nat.testBit_two_pow_self]),h3⟩
theorem reach_le {x:TourV}{C a:Nat} (hC:Cl x C) (ha:C.testBit a=true):Sub (reachF x a) C:=
 reach_min hC 256 (2^a) (fun i hi=>by rw [Nat.testBit_two_pow] at hi;simp at hi;rw [←hi];exact ha)
theorem bit_in {x:TourV}{s i:Nat} (hs:s<2^x.wins.length) (h:s.testBit i=true):i<x.wins.length:=by
 rcases Nat.lt_or_ge i x.wins.length with h1|h1
 ·exact h1
 ·rw [Nat.testBit_lt_two_pow (Nat.lt_of_lt_of_le hs (Nat.pow_le_pow_right (by omega) h1))] at h;cases h
theorem cl_chain {x:TourV} (hok:tourB x=true) {s t:Nat} (hs:s<2^x.wins.length) (ht:t<2^x.wins.length) (h1:Cl x s) (h2:Cl x t):Sub s t∨Sub t s:=by
 by_cases h:Sub s t
 ·exact .inl h
 ·refine .inr ?_
  have ⟨a,ha⟩:∃a,¬(s.testBit a=true→t.testBit a=true):=Classical.not_forall.1 h
  have ha1:s.testBit a=true:=Classical.byContradiction fun hh=>ha (fun h3=>absurd h3 hh)
  have ha2:¬t.testBit a=true:=fun h3=>ha (fun _=>h3)
  intro b hb
  refine Classical.byContradiction fun hb2=>?_
  have hne:a≠b:=fun e=>ha2 (e ▸ hb)
  have hanti:=tourB_anti hok (bit_in hs ha1) (bit_in ht hb) hne
  cases hab:bt x.wins a b
  ·rw [hab] at hanti
   have hba:bt x.wins b a=true:=by
    cases h3:bt x.wins b a
    ·rw [h3] at hanti;exact absurd rfl hanti
    ·rfl
   exact ha2 (h2 b a hb hba)
  ·exact hb2 (h1 a b ha1 hab)
theorem cl_or {x:TourV}{s t:Nat} (h1:Cl x s) (h2:Cl x t):Cl x (s ||| t):=by
 intro b i hb hi
 rw [Nat.testBit_or,Bool.or_eq_true] at hb ⊢
 rcases hb with hb|hb
 ·exact .inl (h1 b i hb hi)
 ·exact .inr (h2 b i hb hi)
def clB (x:TourV) (t:Nat):Bool:=decide (t≠0) && decide (stepR x t=t)
def clN (x:TourV) (s:Nat):Nat:=((List.range (s+1)).filter (clB x)).length
theorem clN_zero (x:TourV):clN x 0=0:=by simp [clN,clB,List.range_succ]
theorem clN_skip {x:TourV}:∀ {s t:Nat},s≤t→(∀k,s<k→k≤t→clB x k=false)→clN x t=clN x s:=by
 intro s t
 induction t with
 | zero=>
      intro h _;obtain rfl:s=0:=by omega
      rfl
 | succ t ih=>
  intro h hk
  rcases Nat.eq_or_lt_of_le h with rfl|h
  ·rfl
  ·rw [←ih (by omega) (fun k h1 h2=>hk k h1 (by omega))]
   unfold clN
   rw [List.range_succ,List.filter_append,List.filter_cons,hk (t+1) h (Nat.le_refl _)]
   simp
theorem clN_next {x:TourV}{s t:Nat} (h:s<t) (ht:clB x t=true) (hk:∀k,s<k→k<t→clB x k=false):clN x t=clN x s+1:=by
 obtain ⟨t',rfl⟩:∃t',t=t'+1:=⟨t-1,by omega⟩
 rw [←clN_skip (x:=x) (s:=s) (t:=t') (by omega) (fun k h1 h2=>hk k h1 (by omega))]
 unfold clN
 rw [List.range_succ,List.filter_append,List.filter_cons,ht]
 simp
theorem clB_t {x:TourV}{t:Nat} (ht:t<256):clB x t=true↔t≠0∧Cl x t:=by
 rw [clB,Bool.and_eq_true,decide_eq_true_eq,decide_eq_true_eq,cl_step ht]
theorem clB_f {x:TourV}{t:Nat} (ht:t<256) (h:¬(t≠0∧Cl x t)):clB x t=false:=by
 cases h2:clB x t
 ·rfl
 ·exact absurd ((clB_t ht).1 h2) h
def scoreF (x:TourV) (a:Int):Int:=((cntL (winN x a.toNat):Nat):Int)
theorem cnt_sub_le {s t:Nat} (h:Sub s t):cntL s≤cntL t:=by
 unfold cntL cntT
 have h2:∀k,((List.range k).filter (fun a=>s.testBit a)).length≤((List.range k).filter (fun a=>t.testBit a)).length:=by
  intro k
  induction k with
  | zero=>simp
  | succ k ih=>
   rw [List.range_succ,List.filter_append,List.filter_append,List.length_append,List.length_append]
   have:([k].filter (fun a=>s.testBit a)).length≤([k].filter (fun a=>t.testBit a)).length:=by
    cases hs:s.testBit k
    ·simp [hs]
    ·simp [hs,h k hs]
   omega
 exact h2 8
theorem cnt_sub_lt {s t a:Nat} (h:Sub s t) (ha:a<8) (hs:s.testBit a=false) (ht:t.testBit a=true):cntL s<cntL t:=by
 unfold cntL cntT
 have h2:∀k,((List.range k).filter (fun a=>s.testBit a)).length+(if a<k then 1 else 0)≤((List.range k).filter (fun a=>t.testBit a)).length:=by
  intro k
  induction k with
  | zero=>simp
  | succ k ih=>
   rw [List.range_succ,List.filter_append,List.filter_append,List.length_append,List.length_append]
   rcases Nat.lt_trichotomy a k with h3|h3|h3
   ·rw [if_pos h3] at ih
    rw [if_pos (by omega)]
    have:([k].filter (fun a=>s.testBit a)).length≤([k].filter (fun a=>t.testBit a)).length:=by
     cases hs:s.testBit k
     ·simp [hs]
     ·simp [hs,h k hs]
    omega
   ·subst h3
    rw [if_neg (Nat.lt_irrefl _)] at ih
    rw [if_pos (by omega)]
    simp only [List.filter_cons,hs,ht,List.filter_nil]
    simp
    omega
   ·rw [if_neg (by omega)] at ih
    rw [if_neg (by omega)]
    have:([k].filter (fun a=>s.testBit a)).length≤([k].filter (fun a=>t.testBit a)).length:=by
     cases hs:s.testBit k
     ·simp [hs]
     ·simp [hs,h k hs]
    omega
 have:=h2 8
 rw [if_pos ha] at this
 omega
theorem cl_more {x:TourV} (hok:tourB x=true) {k p:Nat} (hk:k<2^x.wins.length) (hc:Cl x k) (hp:p<x.wins.length) (hpk:k.testBit p=false)
  (hq:∀q,q<x.wins.length→k.testBit q=false→scoreF x (p:Int)≤scoreF x (q:Int)):clN x (k ||| reachF x p)=clN x k+1:=by
 obtain ⟨t1,t2,t3,_,_⟩:=tourB_t hok
 have hn8:x.wins.length≤8:=by omega
 have h256:2^x.wins.length≤256:=Nat.pow_le_pow_right (by omega) hn8
 obtain ⟨r1,r2,r3⟩:=reach_ok hok hp
 have hsub:Sub k (reachF x p):=by
  rcases cl_chain hok hk r3 hc r1 with h|h
  ·exact h
  ·rw [h p r2] at hpk;cases hpk
 have e:k ||| reachF x p=reachF x p:=by
  refine Sub.eq (fun i hi=>?_) (fun i hi=>?_)
  ·rw [Nat.testBit_or,Bool.or_eq_true] at hi
   rcases hi with hi|hi
   ·exact hsub i hi
   ·exact hi
  ·rw [Nat.testBit_or,hi];simp
 rw [e]
 have hlt:k<reachF x p:=Nat.lt_of_le_of_ne hsub.le (fun h=>by rw [h,r2] at hpk;cases hpk)
 have h0:reachF x p≠0:=by omega
 refine clN_next hlt ((clB_t (by omega)).2 ⟨h0,r1⟩) (fun t h1 h2=>clB_f (by omega) ?_)
 rintro ⟨ht0,htc⟩
 have htp:t.testBit p=false:=by
  cases h:t.testBit p
  ·rfl
  ·have:=(reach_le htc h).le;omega
 have hnot:¬Sub t k:=fun h=>by have:=h.le;omega
 have ⟨q,hq0⟩:∃i,¬(t.testBit i=true→k.testBit i=true):=Classical.not_forall.1 hnot
 have hq1:t.testBit q=true:=Classical.byContradiction fun hh=>hq0 (fun h3=>absurd h3 hh)
 have hq2:k.testBit q=false:=by
  cases h:k.testBit q
  ·rfl
  ·exact absurd (fun _=>h) hq0
 have hql:=bit_in (x:=x) (by omega) hq1
 have hs:=hq q hql hq2
 have hwp:Sub t (winN x p):=by
  intro u hu
  have hul:=bit_in (x:=x) (by omega) hu
  have hne:u≠p:=fun e=>by rw [e,htp] at hu;cases hu
  have hanti:=tourB_anti hok hul hp hne
  have hup:bt x.wins u p=false:=by
   cases h:bt x.wins u p
   ·rfl
   ·have:=htc u p hu h;rw [htp] at this;cases this
  rw [hup] at hanti
  cases h:bt x.wins p u
  ·rw [h] at hanti;exact absurd rfl hanti
  ·exact h
 have hwq:Sub (winN x q) t:=fun u hu=>htc q u hq1 hu
 have hqq:(winN x q).testBit q=false:=tourB_irr hok hql
 have l1:=cnt_sub_lt hwq (by omega) hqq hq1
 have l2:=cnt_sub_le hwp
 unfold scoreF at hs
 rw [Int.toNat_natCast,Int.toNat_natCast] at hs
 omega
theorem cl_zero (x:TourV):Cl x 0:=fun b i h _=>by rw [Nat.zero_testBit] at h;cases h
theorem cl_all {x:TourV} (hok:tourB x=true):Cl x (2^x.wins.length-1):=by
 intro b i _ hi
 rw [Nat.testBit_two_pow_sub_one]
 exact decide_eq_true (bit_in (win_all hok b) hi)
theorem or_small {a b:Nat} (ha:a<256) (hb:b<256):bits BinOp.or IntKind.i64 (a:Int) (b:Int)=((a ||| b:Nat):Int):=(bits_nat .i64 8 (by decide) i64_small a b ha hb).2
theorem win_cells {w:World}{A:Option Addr}{x:TourV} (hok:tourB x=true) (hs:SlI w A x.wins):∃bk off,A=some ⟨bk,off,none⟩∧bk<w.heap.size∧∀b,b<x.wins.length→w.cell? ⟨bk,off+b,none⟩=some (.int .i64 (winN x b:Nat)):=by
 obtain ⟨t1,t2,t3,_,_⟩:=tourB_t hok
 obtain ⟨bk,off,rfl,_,hlt,_,_⟩:=win_at hok hs (show 0<x.wins.length by omega)
 refine ⟨bk,off,rfl,hlt,fun b hb=>?_⟩
 obtain ⟨b',o',e,c1,_⟩:=win_at hok hs hb
 injection e with e
 injection e with e1 e2
 subst e1;subst e2
 exact c1
theorem Bx.under {w w':World}{b B:Nat}{x y:Value} (h:Bx w b x y) (hb:Below B w w') (hB:b<B):Bx w' b x y:=
 ⟨(hb.cell (p:=⟨b,0,none⟩) hB).trans h.1,(hb.cell (p:=⟨b,1,none⟩) hB).trans h.2.1,Nat.lt_of_lt_of_le h.2.2 hb.size⟩
theorem pow_wrap8:∀k:Fin 8,wrap64 ((2:Int)^k.val)=((2^k.val:Nat):Int):=by decide +kernel
theorem pow_lt8 {a:Nat} (h:a<8):wrap64 ((2:Int)^a)=((2^a:Nat):Int):=pow_wrap8 ⟨a,h⟩
def orM (x:TourV) (s:Nat) (l:List Int):Nat:=l.foldl (fun (acc:Nat) (b:Int)=>acc ||| winN x b.toNat) s
theorem orM_lt {x:TourV}{n:Nat} (hw:∀b,winN x b<2^n):∀(l:List Int) (s:Nat),s<2^n→orM x s l<2^n:=by
 intro l
 induction l with
 | nil=>intro s h;exact h
 | cons y l ih=>intro s h;exact ih _ (Nat.or_lt_two_pow h (hw _))
theorem orM_snoc {x:TourV}{s j:Nat}{l:List Int}{y:Int} (h:l[j]? = some y):orM x s (l.take (j+1))=orM x s (l.take j) ||| winN x y.toNat:=by
 rw [take_snoc h,orM,List.foldl_append];rfl
theorem implReach_any (v:Value) (x:TourV) (a:Nat) (w:World) (hs:InT w v x) (hok:tourB x=true) (ha:a<x.wins.length):
  Calls Tryz.prog 331 #[v,.int .i64 (a:Int)] w fun e w'=>e=.returned (.int .i64 (reachF x a:Nat))∧Below w.heap.size w w':=by
 have HOK:=Lib.hid hok
 obtain ⟨u,rfl,A,c,rfl,hc,hm,hsl⟩:=hs
 obtain ⟨t1,t2,t3,_,_⟩:=tourB_t hok
 have hn8:x.wins.length≤8:=by omega
 obtain ⟨bk,off,rfl,hlt,hcell⟩:=win_cells hok hsl
 have HC:=Lib.hid (And.intro hlt hcell)
 have hwn:=win_all hok
 have h256:(2:Nat)^x.wins.length≤256:=Nat.pow_le_pow_right (by omega) hn8
 have HW:Hid (∀b,winN x b<2^x.wins.length):=hwn
 have HN:Hid ((2:Nat)^x.wins.length≤256):=h256
 have HP:Hid (2^a<2^x.wins.length):=Nat.pow_lt_pow_right (by omega) ha
 have hsh:=pow_lt8 (a:=a) (by omega)
 have ha64:(a:Int)<64:=by omega
 obtain ⟨Q,HQ⟩:∃Q:Nat,Hid (2^a=Q):=⟨_,rfl⟩
 rw [HQ.out] at hsh
 have HR0:Hid (Q<2^x.wins.length∧256≤Q+256∧reachT x 256 Q=reachF x a):=⟨by rw [←HQ.out];exact HP.out,Nat.le_add_left _ _,by rw [←HQ.out];rfl⟩
 have HBX:Hid (Bx (w.alloc (.cells #[.int .i64 x.size,.slice (some ⟨bk,off,none⟩) x.wins.length c] 27)) w.heap.size (.int .i64 x.size) (.slice (some ⟨bk,off,none⟩) x.wins.length c)∧Below w.heap.size w (w.alloc (.cells #[.int .i64 x.size,.slice (some ⟨bk,off,none⟩) x.wins.length c] 27))):=⟨⟨by simp,by simp,by simp⟩,(Below.refl _ w).alloc (Nat.le_refl _) _⟩
 clear hsl hok hcell hwn h256 t1 t2 t3 hm hlt
 go_enter Tryz.func331,Tryz.ntmps331
 go_wp2
 go_loopw [5] (fun v wr=>∃(s f:Nat),v=.int .i64 (s:Int)∧Hid (s<2^x.wins.length∧256≤s+f∧reachT x f s=reachF x a)∧Hid (Bx wr w.heap.size (.int .i64 x.size) (.slice (some ⟨bk,off,none⟩) x.wins.length c)∧Below w.heap.size w wr)) (fun v _=>256-(intOf v).toNat)
 case atStart=>exact ⟨Q,256,by rw [hsh],HR0.out,HBX.out⟩
 case round=>
  obtain ⟨s,f,rfl,HR,HB⟩:=hrel
  obtain ⟨wo,rfl⟩:∃W,W=wr:=⟨wr,rfl⟩
  clear HR0 hsh HBX
  have hs256:s<256:=Nat.lt_of_lt_of_le HR.out.1 HN.out
  go_wp2_with (go_at_call 153;refine (membersOf_any s _ hs256).mono ?_;rintro e w3 ⟨v3,rfl,hf,hb⟩;have H3:Hid (Bx w3 w.heap.size (.int .i64 x.size) (.slice (some ⟨bk,off,none⟩) x.wins.length c)∧Below w.heap.size w w3∧InI w3 v3 (memL s)):=⟨HB.out.1.below hb,HB.out.2.trans (hb.mono HB.out.2.size),hf.in_⟩;obtain ⟨A3,c3,rfl,-⟩:=hf.in_;clear hb hf HB)
  go_loop [6,15] (fun g i=>∃(j:Nat),j≤(memL s).length∧i=.int .i64 j∧g=.int .i64 (orM x s ((memL s).take j):Nat)) (fun _ i=>(memL s).length-(intOf i).toNat)
  case atStart=>exact ⟨0,Nat.zero_le _,rfl,rfl⟩
  case round=>
   obtain ⟨j,hj,rfl,rfl⟩:=hrel
   have HO:Hid (orM x s ((memL s).take j)<2^x.wins.length):=orM_lt HW.out _ _ HR.out.1
   have ho256:orM x s ((memL s).take j)<256:=Nat.lt_of_lt_of_le HO.out HN.out
   have hjm:(memL s).length≤8:=by rw [memL_len];exact cntL_le _
   by_cases hlt2:j<(memL s).length
   case pos=>
    obtain ⟨A4,c4,e4,_,_,hsl4⟩:=H3.out.2.2
    injection e4 with e4 _ e5;subst e4;subst e5
    obtain ⟨b3,o3,y,rfl,ey,qy,_⟩:=hsl4.at_ (k:=j) hlt2
    obtain ⟨b,rfl,hb8,hbit⟩:=memT_mem.1 (List.mem_of_getElem? ey)
    have hbn:b<x.wins.length:=bit_in HR.out.1 hbit
    have HX:=Lib.hid (orM_snoc (x:=x) (s:=s) ey)
    rw [Int.toNat_natCast] at HX
    have hbl:(b:Int)<x.wins.length:=by omega
    have q:w3.cell? ⟨bk,off+b,none⟩=some (.int .i64 (winN x b:Nat)):=(H3.out.2.1.cell (p:=⟨bk,off+b,none⟩) HC.out.1).trans (HC.out.2 b hbn)
    have hw256:winN x b<256:=Nat.lt_of_lt_of_le (HW.out b) HN.out
    have hor:=or_small ho256 hw256
    obtain ⟨q0,q1,-⟩:=id H3.out.1
    clear hsl4 ey hbit
    generalize orM x s ((memL s).take j)=G at *
    generalize winN x b=WB at *
    go_wp2
    exact ⟨⟨j+1,by omega,by go_num,by rw [HX.out]⟩,by simp [intOf];omega⟩
   case neg=>
    obtain rfl:j=(memL s).length:=by omega
    have HS:Hid (orM x s ((memL s).take (memL s).length)=stepR x s):=by show _=_;rw [List.take_length];exact orT_mem x s 8
    rw [HS.out] at ho256 HO ⊢
    obtain ⟨S,HSe⟩:∃S,Hid (stepR x s=S):=⟨_,rfl⟩
    rw [HSe.out] at ho256 HO ⊢
    by_cases he:S=s
    ·have HE:Hid (s=reachF x a):=by
      show _=_
      rw [←HR.out.2.2,reach_fix]
      rw [HSe.out,he]
     subst he
     go_wp2
     go_ret
     exact ⟨by rw [←HE.out];rfl,H3.out.2.1⟩
    ·have hgr:s<S:=by
      have:=step_grow (x:=x) (s:=s) (by rw [HSe.out];exact he)
      rwa [HSe.out] at this
     have hsf:=HR.out.2.1
     obtain ⟨f',rfl⟩:∃f',f=f'+1:=⟨f-1,by omega⟩
     have HN2:Hid (S<2^x.wins.length∧256≤S+f'∧reachT x f' S=reachF x a):=⟨HO.out,by omega,by rw [←HR.out.2.2,reachT,HSe.out]⟩
     go_wp2
     go_roundw
     case rel=>exact ⟨S,f',rfl,HN2.out,H3.out.1,H3.out.2.1⟩
     case measure=>simp [intOf];omega
def scN (x:TourV) (a:Nat):Nat:=cntL (winN x a)
def scoresL (x:TourV):List Int:=(List.range x.wins.length).map (fun a=>((scN x a:Nat):Int))
theorem scoresL_len (x:TourV):(scoresL x).length=x.wins.length:=by simp [scoresL]
theorem scoresL_at {x:TourV}{a:Nat} (h:a<x.wins.length):(scoresL x)[a]? = some ((scN x a:Nat):Int):=by simp [scoresL,h]
theorem scN_le (x:TourV) (a:Nat):scN x a≤8:=cntL_le _
theorem scoresL_take {x:TourV}{a:Nat} (h:a<x.wins.length):(scoresL x).take (a+1)=(scoresL x).take a++[((scN x a:Nat):Int)]:=take_snoc (scoresL_at h)
theorem scoresL_all (x:TourV):(scoresL x).take x.wins.length=scoresL x:=List.take_of_length_le (by rw [scoresL_len];exact Nat.le_refl _)
theorem scoresL_bd {x:TourV}:∀y∈scoresL x,0≤y∧y≤8:=by
 intro y hy
 simp only [scoresL,List.mem_map,List.mem_range] at hy
 obtain ⟨a,_,rfl⟩:=hy
 have:=scN_le x a
 omega
theorem implScore_any (v:Value) (x:TourV) (a:Nat) (w:World) (hs:InT w v x) (hok:tourB x=true) (ha:a<x.wins.length):
  Calls Tryz.prog 254 #[v,.int .i64 (a:Int)] w fun e w'=>e=.returned (.int .i64 (scN x a:Nat))∧Below w.heap.size w w':=by
 obtain ⟨u,rfl,A,c,rfl,hc,hm,hsl⟩:=hs
 obtain ⟨t1,t2,t3,_,_⟩:=tourB_t hok
 have hn8:x.wins.length≤8:=by omega
 obtain ⟨b,off,rfl,qc,hlt,hw2,hwb⟩:=win_at hok hsl ha
 have hw256:winN x a<256:=Nat.lt_of_lt_of_le hw2 (Nat.pow_le_pow_right (by omega) hn8)
 have HCO:=Lib.hid (fun W=>onesCount_any _ W hw256)
 have HE:Hid (scN x a=cntL (winN x a)):=rfl
 have hal:(a:Int)<x.wins.length:=by omega
 have hne:¬b=w.heap.size:=by omega
 generalize winN x a=W at *
 obtain ⟨C,hC⟩:∃C,cntL W=C:=⟨_,rfl⟩
 rw [hC] at HCO HE
 clear hC hsl hok hwb hw2
 go_enter Tryz.func254,Tryz.ntmps254
 go_wp2_with (go_at_call 249;refine (HCO.out _).mono ?_;rintro e w' ⟨rfl,rfl⟩)
 go_ret
 exact ⟨by rw [HE.out];rfl,(Below.refl _ w).alloc (Nat.le_refl _) _⟩
theorem implScoresOf_any (v:Value) (x:TourV) (w:World) (hs:InT w v x) (hok:tourB x=true):
  Calls Tryz.prog 170 #[v] w fun e w'=>∃v',e=.returned v'∧Fr w' w.heap.size w'.heap.size v' (scoresL x)∧Below w.heap.size w w':=by
 have HIT:=Lib.hid hs
 have HOK:=Lib.hid hok
 obtain ⟨u,rfl,A,c,rfl,hc,hm,hsl⟩:=hs
 obtain ⟨t1,t2,t3,_,_⟩:=tourB_t hok
 have hn8:x.wins.length≤8:=by omega
 have HTO:Hid (∀W,Below w.heap.size w W→Calls Tryz.prog 148 #[.agg #[.int .i64 x.size,.slice A x.wins.length c]] W fun e w'=>e=.returned (.bool true)∧Below W.heap.size W w'):=fun W hW=>by
  have h:=implTourOk_any _ x W (HIT.out.below hW)
  rwa [HOK.out] at h
 have HSC:Hid (∀W (a:Nat),Below w.heap.size w W→a<x.wins.length→Calls Tryz.prog 254 #[.agg #[.int .i64 x.size,.slice A x.wins.length c],.int .i64 (a:Int)] W fun e w'=>e=.returned (.int .i64 (scN x a:Nat))∧Below W.heap.size W w'):=fun W a hW ha=>implScore_any _ x a W (HIT.out.below hW) HOK.out ha
 have HSZ:Hid (x.size=(x.wins.length:Int)):=t3.symm
 have HBX:Hid (Bx (w.alloc (.cells #[.int .i64 x.size,.slice A x.wins.length c] 27)) w.heap.size (.int .i64 x.size) (.slice A x.wins.length c)∧Below w.heap.size w (w.alloc (.cells #[.int .i64 x.size,.slice A x.wins.length c] 27))∧w.heap.size<(w.alloc (.cells #[.int .i64 x.size,.slice A x.wins.length c] 27)).heap.size):=⟨⟨by simp,by simp,by simp⟩,(Below.refl _ w).alloc (Nat.le_refl _) _,by simp⟩
 rw [HSZ.out] at HBX HTO HSC
 rw [HSZ.out]
 clear hsl hok t1 t2 t3
 go_enter Tryz.func170,Tryz.ntmps170
 go_wp2_with (go_at_call 148;refine (HTO.out _ HBX.out.2.1).mono ?_;rintro e w0 ⟨rfl,hb⟩;have H0:Hid (Fr w0 (w.heap.size+1) w0.heap.size (.slice none 0 0) ((scoresL x).take 0)∧Bx w0 w.heap.size (.int .i64 (x.wins.length:Int)) (.slice A x.wins.length c)∧Below w.heap.size w w0∧w.heap.size+1≤w0.heap.size):=(show _∧_ from ⟨by simpa using Fr.nil w0 (lo:=w.heap.size+1) (Nat.le_refl _),HBX.out.1.below hb,HBX.out.2.1.trans (hb.mono (Nat.le_of_lt HBX.out.2.2)),Nat.lt_of_lt_of_le HBX.out.2.2 hb.size⟩);clear hb HBX;obtain ⟨q0,q1,q2⟩:=id H0.out.2.1)
 go_loopw [3,10] (fun v i wr=>∃(j:Nat) (vv:Value),j≤x.wins.length∧i=.int .i64 j∧vv=v∧Hid (Fr wr (w.heap.size+1) wr.heap.size vv ((scoresL x).take j)∧Bx wr w.heap.size (.int .i64 (x.wins.length:Int)) (.slice A x.wins.length c)∧Below w.heap.size w wr∧w.heap.size+1≤wr.heap.size)) (fun _ i _=>x.wins.length-(intOf i).toNat)
 case atStart=>exact ⟨0,_,Nat.zero_le _,rfl,rfl,H0.out⟩
 case round=>
  obtain ⟨j,vv,hj,rfl,rfl,HR⟩:=hrel
  clear H0 q0 q1 q2
  by_cases hlt:j<x.wins.length
  case neg=>
   obtain rfl:j=x.wins.length:=by omega
   have h:=HR.out.1
   rw [scoresL_all] at h
   have HF:=Lib.hid h
   clear h
   go_wp2
   go_ret
   exact ⟨_,rfl,HF.out.wide (by omega) (Nat.le_refl _) (Nat.le_refl _),HR.out.2.2.1⟩
  obtain ⟨q0,q1,q2⟩:=id HR.out.2.1
  have HTK:=Lib.hid (scoresL_take hlt)
  have HS:=Lib.hid (HSC.out wr j HR.out.2.2.1 hlt)
  have HL:Hid (((scoresL x).take j).length=j):=by show _=_;rw [List.length_take,scoresL_len];omega
  obtain ⟨C,HC⟩:∃C:Nat,Hid (scN x j=C):=⟨_,rfl⟩
  rw [HC.out] at HTK HS
  go_wp2_with (first
   | (go_at_call 254;refine HS.out.mono ?_;rintro e w2 ⟨rfl,hb⟩;have H2:Hid (Fr w2 (w.heap.size+1) w2.heap.size vv ((scoresL x).take j)∧Bx w2 w.heap.size (.int .i64 (x.wins.length:Int)) (.slice A x.wins.length c)∧Below w.heap.size w w2∧w.heap.size+1≤w2.heap.size):=(show _∧_ from ⟨(HR.out.1.grow hb).wide (Nat.le_refl _) hb.size (Nat.le_refl _),HR.out.2.1.below hb,HR.out.2.2.1.trans (hb.mono HR.out.2.2.1.size),Nat.le_trans HR.out.2.2.2 hb.size⟩);clear hb q0 q1 q2)
   | (at_builtin;refine app1 rfl _ _ rfl w2 (w.heap.size+1) vv j ((scoresL x).take j) rfl (by have h:=H2.out.1.1;rw [HL.out] at h;exact h) (C:Int) rfl (by omega) H2.out.2.2.2 ?_;intro v3 w3 hown hb3 _ _;have hB:=hb3 _ (Nat.le_refl _) H2.out.2.2.2;have H3:Hid (Fr w3 (w.heap.size+1) w3.heap.size v3 ((scoresL x).take (j+1))∧Bx w3 w.heap.size (.int .i64 (x.wins.length:Int)) (.slice A x.wins.length c)∧Below w.heap.size w w3∧w.heap.size+1≤w3.heap.size):=(show _∧_ from ⟨by rw [HTK.out];exact Fr.of_own (by rw [List.length_append,HL.out];exact hown),H2.out.2.1.under hB (Nat.lt_succ_self _),H2.out.2.2.1.trans (hB.mono (Nat.le_succ _)),Nat.le_trans H2.out.2.2.2 hB.size⟩);clear hown hb3 hB))
  go_roundw
  case rel=>exact ⟨j+1,_,by omega,by go_num,rfl,H3.out⟩
  case measure=>simp [intOf];omega
def triT (x:TourV):Nat→Int
 | 0=>(bin x.wins.length 3:Nat)
 | k+1=>triT x k-(bin (scN x k) 2:Nat)
def triF (x:TourV):Int:=triT x x.wins.length
theorem bin3:∀n:Fin 9,bin n.val 3=n.val*(n.val-1)*(n.val-2)/6∧bin n.val 3≤56:=by decide +kernel
theorem bin2:∀n:Fin 9,bin n.val 2=n.val*(n.val-1)/2∧bin n.val 2≤28:=by decide +kernel
theorem triT_bd {x:TourV} (hn:x.wins.length≤8):∀k,triT x k≤56∧-28*(k:Int)≤triT x k:=by
 intro k
 induction k with
 | zero=>have:=(bin3 ⟨x.wins.length,by omega⟩).2;simp only at this;unfold triT;omega
 | succ k ih=>
  have:=(bin2 ⟨scN x k,Nat.lt_succ_of_le (scN_le x k)⟩).2
  simp only at this
  unfold triT
  rw [Int.natCast_add,Int.natCast_one]
  omega
theorem implTriangles_any (v:Value) (x:TourV) (w:World) (hs:InT w v x) (hok:tourB x=true):
  Calls Tryz.prog 171 #[v] w fun e w'=>e=.returned (.int .i64 (triF x))∧Below w.heap.size w w':=by
 have HIT:=Lib.hid hs
 have HOK:=Lib.hid hok
 obtain ⟨u,rfl,A,c,rfl,hc,hm,hsl⟩:=hs
 obtain ⟨t1,t2,t3,_,_⟩:=tourB_t hok
 have hn8:x.wins.length≤8:=by omega
 have HTO:Hid (∀W,Below w.heap.size w W→Calls Tryz.prog 148 #[.agg #[.int .i64 x.size,.slice A x.wins.length c]] W fun e w'=>e=.returned (.bool true)∧Below W.heap.size W w'):=fun W hW=>by
  have h:=implTourOk_any _ x W (HIT.out.below hW)
  rwa [HOK.out] at h
 have HSC:Hid (∀W (a:Nat),Below w.heap.size w W→a<x.wins.length→Calls Tryz.prog 254 #[.agg #[.int .i64 x.size,.slice A x.wins.length c],.int .i64 (a:Int)] W fun e w'=>e=.returned (.int .i64 (scN x a:Nat))∧Below W.heap.size W w'):=fun W a hW ha=>implScore_any _ x a W (HIT.out.below hW) HOK.out ha
 have HSZ:Hid (x.size=(x.wins.length:Int)):=t3.symm
 have HBX:Hid (Bx (w.alloc (.cells #[.int .i64 x.size,.slice A x.wins.length c] 27)) w.heap.size (.int .i64 x.size) (.slice A x.wins.length c)∧Below w.heap.size w (w.alloc (.cells #[.int .i64 x.size,.slice A x.wins.length c] 27))∧w.heap.size<(w.alloc (.cells #[.int .i64 x.size,.slice A x.wins.length c] 27)).heap.size):=⟨⟨by simp,by simp,by simp⟩,(Below.refl _ w).alloc (Nat.le_refl _) _,by simp⟩
 have HC3:Hid (∀W,Calls Tryz.prog 255 #[.int .i64 (x.wins.length:Int),.int .i64 3] W fun e w'=>e=.returned (.int .i64 (triT x 0))∧W=w'):=fun W=>choose_any (x.wins.length:Int) 3 W (by omega) (by omega) (by omega)
 rw [HSZ.out] at HBX HTO HSC
 rw [HSZ.out]
 clear hsl hok t1 t2 t3
 go_enter Tryz.func171,Tryz.ntmps171
 go_wp2_with (first
  | (go_at_call 148;refine (HTO.out _ HBX.out.2.1).mono ?_;rintro e w0 ⟨rfl,hb⟩;have H0:Hid (Bx w0 w.heap.size (.int .i64 (x.wins.length:Int)) (.slice A x.wins.length c)∧Below w.heap.size w w0):=(show _∧_ from ⟨HBX.out.1.below hb,HBX.out.2.1.trans (hb.mono (Nat.le_of_lt HBX.out.2.2))⟩);clear hb HBX;obtain ⟨q0,q1,q2⟩:=id H0.out.1)
  | (go_at_call 255;refine (HC3.out _).mono ?_;rintro e w' ⟨rfl,rfl⟩))
 go_loopw [3,13] (fun v i wr=>∃(j:Nat),j≤x.wins.length∧i=.int .i64 j∧v=.int .i64 (triT x j)∧Hid (Bx wr w.heap.size (.int .i64 (x.wins.length:Int)) (.slice A x.wins.length c)∧Below w.heap.size w wr)) (fun _ i _=>x.wins.length-(intOf i).toNat)
 case atStart=>exact ⟨0,Nat.zero_le _,rfl,rfl,H0.out⟩
 case round=>
  obtain ⟨j,hj,rfl,rfl,HR⟩:=hrel
  clear H0 q0 q1 q2
  by_cases hlt:j<x.wins.length
  case neg=>
   obtain rfl:j=x.wins.length:=by omega
   have HE:Hid (triF x=triT x x.wins.length):=rfl
   go_wp2
   go_ret
   exact ⟨by rw [HE.out];rfl,HR.out.2⟩
  obtain ⟨q0,q1,q2⟩:=id HR.out.1
  have HX:Hid (triT x (j+1)=triT x j-(bin (scN x j) 2:Nat)):=rfl
  have hb:=triT_bd hn8 j
  have hb2:=(bin2 ⟨scN x j,Nat.lt_succ_of_le (scN_le x j)⟩).2
  have hsc:=scN_le x j
  simp only at hb2
  have HS:=Lib.hid (HSC.out wr j HR.out.2 hlt)
  have HC2:Hid (∀W,Calls Tryz.prog 255 #[.int .i64 ((scN x j:Nat):Int),.int .i64 2] W fun e w'=>e=.returned (.int .i64 (bin (scN x j) 2:Nat))∧W=w'):=fun W=>choose_any ((scN x j:Nat):Int) 2 W (by omega) (by omega) (by omega)
  generalize bin (scN x j) 2=D at *
  obtain ⟨C,HC⟩:∃C:Nat,Hid (scN x j=C):=⟨_,rfl⟩
  rw [HC.out] at HS HC2
  generalize triT x j=R at *
  go_wp2_with (first
   | (go_at_call 254;refine HS.out.mono ?_;rintro e w2 ⟨rfl,hb⟩;have H2:Hid (Bx w2 w.heap.size (.int .i64 (x.wins.length:Int)) (.slice A x.wins.length c)∧Below w.heap.size w w2):=(show _∧_ from ⟨HR.out.1.below hb,HR.out.2.trans (hb.mono HR.out.2.size)⟩);clear hb q0 q1 q2)
   | (go_at_call 255;refine (HC2.out _).mono ?_;rintro e w' ⟨rfl,rfl⟩))
  go_roundw
  case rel=>exact ⟨j+1,by omega,by go_num,by rw [HX.out];try go_num,H2.out⟩
  case measure=>simp [intOf];omega
end Go.Proofs.YtkapoldjcpfdgaaGreatDoor
