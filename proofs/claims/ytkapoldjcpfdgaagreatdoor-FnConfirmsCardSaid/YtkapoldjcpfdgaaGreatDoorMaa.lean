/- Contracts of the laws' own helpers on slices of integers, and of Go's small slice functions. -/
import Derived.Test.YtkapoldjcpfdgaaGreatDoorRows
import Derived.WalkKit
import Derived.ProofKit
import Derived.OpenShut
import Derived.BigQuiet
import Derived.Deep.QuietTactic
import Derived.Lib.Hide
import Derived.Laws.OwnMore
import Derived.Deep.Draws
import Derived.WalkSpells
set_option maxHeartbeats 400000
set_option maxRecDepth 100000
namespace Go.Proofs.YtkapoldjcpfdgaaGreatDoor
open Go.ChangeShapes Go.WideShapes Go.ChangeAt Go.RowKit
def inB (n lo hi:Int):Bool:=decide (lo≤n) && decide (n≤hi)
theorem inB_t {n lo hi:Int}:inB n lo hi=true↔lo≤n∧n≤hi:=by simp [inB]
theorem inB_f {n lo hi:Int}:inB n lo hi=false↔n<lo∨hi<n:=by
 simp only [inB,Bool.and_eq_false_iff,decide_eq_false_iff_not];omega
theorem inB_mk {n lo hi:Int} (h1:lo≤n) (h2:n≤hi):inB n lo hi=true:=inB_t.2 ⟨h1,h2⟩
theorem ret_int {k:IntKind}{a b:Int} (h:a=b):Ending.returned (.int k a)=.returned (.int k b):=by rw [h]
theorem ret_bool {a b:Bool} (h:a=b):Ending.returned (.bool a)=.returned (.bool b):=by rw [h]
def bin:Nat→Nat→Nat
 | _,0=>1
 | 0,_+1=>0
 | n+1,k+1=>bin n k+bin n (k+1)
theorem bin_zero (n:Nat):bin n 0=1:=by cases n<;>rfl
theorem bin_lt:∀(n k:Nat),n<k→bin n k=0
 | 0,k+1,_=>rfl
 | n+1,k+1,h=>by rw [bin,bin_lt n k (by omega),bin_lt n (k+1) (by omega)]
theorem bin_le (n:Nat):∀k,bin n k≤2^n:=by
 induction n with
 | zero=>intro k;cases k<;>simp [bin]
 | succ n ih=>
  intro k
  cases k with
  | zero=>rw [bin_zero];exact Nat.one_le_two_pow
  | succ k=>rw [bin];have:=ih k;have:=ih (k+1);omega
theorem bin_mul (n:Nat):∀k,(k+1)*bin (n+1) (k+1)=(n+1)*bin n k:=by
 induction n with
 | zero=>
  intro k
  cases k with
  | zero=>rfl
  | succ k=>simp [bin]
 | succ n ih=>
  intro k
  cases k with
  | zero=>
   have h:=ih 0
   simp only [bin,bin_zero] at h ⊢
   omega
  | succ k=>
   have h1:=ih k
   have h2:=ih (k+1)
   have e1:bin (n+1+1) (k+1+1)=bin (n+1) (k+1)+bin (n+1) (k+1+1):=rfl
   have e2:bin (n+1) (k+1)=bin n k+bin n (k+1):=rfl
   calc (k+1+1)*bin (n+1+1) (k+1+1)
     = (k+1)*bin (n+1) (k+1)+bin (n+1) (k+1)+(k+1+1)*bin (n+1) (k+1+1):=by rw [e1,Nat.mul_add];congr 1;rw [Nat.add_mul,Nat.one_mul]
    _=(n+1)*bin n k+bin (n+1) (k+1)+(n+1)*bin n (k+1):=by rw [h1,h2]
    _=(n+1)*bin (n+1) (k+1)+bin (n+1) (k+1):=by rw [e2,Nat.mul_add];omega
    _=(n+1+1)*bin (n+1) (k+1):=by rw [Nat.add_mul (n+1) 1,Nat.one_mul]
theorem bin_next (n:Nat):∀k,k≤n→(k+1)*bin n (k+1)=(n-k)*bin n k:=by
 intro k hk
 cases n with
 | zero=>cases k with|zero=>simp [bin] | succ k=>omega
 | succ n=>
  have h1:=bin_mul n k
  cases k with
  | zero=>simp [bin_zero] at h1 ⊢;exact h1
  | succ k=>
   have h2:=bin_mul n k
   have e:bin (n+1) (k+1)=bin n k+bin n (k+1):=rfl
   have h3:(n+1)*bin (n+1) (k+1)=(n+1)*bin n k+(n+1)*bin n (k+1):=by rw [e,Nat.mul_add]
   have h4:(n+1-(k+1))*bin (n+1) (k+1)+(k+1)*bin (n+1) (k+1)=(n+1)*bin (n+1) (k+1):=by
    rw [←Nat.add_mul];congr 1;omega
   omega
theorem bin_step (n k:Nat) (hk:k≤n):bin n k*(n-k)/(k+1)=bin n (k+1):=by
 have h:=bin_next n k hk
 rw [Nat.mul_comm (bin n k),←h,Nat.mul_comm (k+1)]
 exact Nat.mul_div_cancel _ (by omega)
theorem bin_cap {n:Nat} (h:n≤50) (k:Nat):bin n k≤1125899906842624:=by
 have h1:=bin_le n k
 have h2:2^n≤2^50:=Nat.pow_le_pow_right (by omega) h
 omega
def wsum (m i:Nat):Nat→Nat
 | 0=>0
 | t+1=>wsum m i t+bin m (i+t)
theorem wsum_shift (m i:Nat):∀t,wsum (m+1) (i+1) t=wsum m i t+wsum m (i+1) t
 | 0=>rfl
 | t+1=>by
  have h:=wsum_shift m i t
  have e:bin (m+1) (i+1+t)=bin m (i+t)+bin m (i+1+t):=by
   rw [show i+1+t=i+t+1 from by omega];rfl
  simp only [wsum];omega
theorem wsum_front (m i:Nat):∀t,wsum m i (t+1)=bin m i+wsum m (i+1) t
 | 0=>by simp [wsum]
 | t+1=>by
  have h:=wsum_front m i t
  have e:i+(t+1)=i+1+t:=by omega
  rw [wsum,h,e];simp only [wsum];omega
theorem wsum_le (m:Nat):∀i t,wsum m i t≤2^m:=by
 induction m with
 | zero=>
  intro i t
  have h:∀t,wsum 0 i t≤(if i=0∧0<t then 1 else 0):=by
   intro t
   induction t with
   | zero=>simp [wsum]
   | succ t ih=>
    rw [wsum]
    by_cases h0:i+t=0
    ·obtain rfl:i=0:=by omega
     obtain rfl:t=0:=by omega
     simp [wsum,bin]
    ·have e:bin 0 (i+t)=0:=bin_lt 0 _ (by omega)
     rw [e];split at ih<;>split<;>omega
  have:=h t
  split at this<;>simp<;>omega
 | succ m ih=>
  intro i t
  cases i with
  | zero=>
   cases t with
   | zero=>simp [wsum]
   | succ t=>
    have h1:=ih 0 (t+1)
    have h2:=ih 1 t
    have e1:=wsum_front (m+1) 0 t
    have e2:=wsum_shift m 0 t
    have e3:=wsum_front m 0 t
    have e4:=bin_zero (m+1)
    have e5:=bin_zero m
    simp only [Nat.zero_add] at e1 e2 e3
    have h0:=ih 0 t
    omega
  | succ i=>
   rw [wsum_shift]
   have:=ih i t
   have:=ih (i+1) t
   omega
theorem wsum_cap {m:Nat} (h:m≤40) (i t:Nat):wsum m i t≤1099511627776:=by
 have h1:=wsum_le m i t
 have h2:2^m≤2^40:=Nat.pow_le_pow_right (by omega) h
 omega
def ways (i k:Nat):Nat:=wsum (i+k-1) i k
theorem ways_cap {i k:Nat} (h:i+k≤41):ways i k≤1099511627776:=wsum_cap (by omega) _ _
theorem quiet_left {P:Program}{f:FuncId}{args:Array Value}{w:World}{n:Nat}{v:Value}
  (h:Calls P f args (w.drewN n) fun e w'=>e=.returned v∧w.drewN n=w'):Calls P f args (w.drewN n) fun e w''=>e=.returned v∧∃m,w''=w.drewN m:=
 h.mono fun _ _ ⟨he,hm⟩=>⟨he,n,hm.symm⟩
def SlI (w:World) (A:Option Addr) (xs:List Int):Prop:=
 xs = []∨∃b off,A=some ⟨b,off,none⟩∧∀k x,xs[k]? = some x→w.cell? ⟨b,off+k,none⟩=some (.int .i64 x)
theorem SlI.at_ {w:World}{A:Option Addr}{xs:List Int} (h:SlI w A xs) {k:Nat} (hk:k<xs.length):
  ∃b off x,A=some ⟨b,off,none⟩∧xs[k]? = some x∧w.cell? ⟨b,off+k,none⟩=some (.int .i64 x)∧b<w.heap.size:=by
 rcases h with rfl|⟨b,off,rfl,h⟩
 ·simp at hk
 ·have h0:xs[k]? = some xs[k]:=List.getElem?_eq_getElem hk
  exact ⟨b,off,xs[k],rfl,h0,h k _ h0,block_lt_of_cell (h k _ h0)⟩
theorem SlI.keep {w w':World}{A:Option Addr}{xs:List Int} (h:SlI w A xs) (hk:∀p:Addr,p.block<w.heap.size→w'.cell? p=w.cell? p):SlI w' A xs:=by
 rcases h with rfl|⟨b,off,rfl,h⟩
 ·exact .inl rfl
 ·exact .inr ⟨b,off,rfl,fun k x hx=>by rw [hk _ (block_lt_of_cell (h k x hx))];exact h k x hx⟩
theorem SlI.below {w w':World}{A:Option Addr}{xs:List Int} (h:SlI w A xs) (hb:Below w.heap.size w w'):SlI w' A xs:=h.keep fun _ hp=>hb.cell hp
theorem SlI.drewN {w:World}{A:Option Addr}{xs:List Int} (h:SlI w A xs) (q:Nat):SlI (w.drewN q) A xs:=h
theorem SlI.drew {w:World}{A:Option Addr}{xs:List Int} (h:SlI w A xs):SlI w.drew A xs:=h
theorem SlI.alloc {w:World}{A:Option Addr}{xs:List Int} (h:SlI w A xs) (o:Obj):SlI (w.alloc o) A xs:=h.keep fun p hp=>World.cell?_alloc_lt w o p hp
theorem take_snoc {α:Type}{xs:List α}{k:Nat}{x:α} (h:xs[k]? = some x):xs.take (k+1)=xs.take k++[x]:=by
 rw [List.take_add_one,h];rfl
theorem below_drewN {B:Nat}{a w:World} (h:Below B a w) (n:Nat):Below B a (w.drewN n):=⟨h.os,h.tape,h.output,h.size,h.block⟩
theorem below_of_drewN (B:Nat) (w:World) (n:Nat):Below B w (w.drewN n):=below_drewN (Below.refl _ _) n
theorem below_undraw {B q:Nat}{a w:World} (h:Below B (a.drewN q) w):Below B a w:=⟨h.os,h.tape,h.output,h.size,h.block⟩
structure Keep (lo hi:Nat) (w w':World):Prop where
 os:w'.os=w.os
 tape:w'.tape=w.tape
 output:w'.output=w.output
 size:w.heap.size≤w'.heap.size
 block:∀k,k<w.heap.size→k<lo∨hi≤k→w'.heap[k]? = w.heap[k]?
theorem Keep.refl (lo hi:Nat) (w:World):Keep lo hi w w:=⟨rfl,rfl,rfl,Nat.le_refl _,fun _ _ _=>rfl⟩
theorem Keep.of_below {lo hi B:Nat}{w w':World} (h:Below B w w') (hB:w.heap.size≤B):Keep lo hi w w':=
 ⟨h.os,h.tape,h.output,h.size,fun k hk _=>h.block k (by omega)⟩
theorem Keep.trans {lo hi:Nat}{a b c:World} (h:Keep lo hi a b) (k:Keep lo hi b c):Keep lo hi a c:=
 ⟨k.os.trans h.os,k.tape.trans h.tape,k.output.trans h.output,Nat.le_trans h.size k.size,fun i hi hd=>(k.block i (Nat.lt_of_lt_of_le hi h.size) hd).trans (h.block i hi hd)⟩
theorem Keep.wide {lo hi lo' hi':Nat}{w w':World} (h:Keep lo hi w w') (h1:lo'≤lo) (h2:hi≤hi'):Keep lo' hi' w w':=
 ⟨h.os,h.tape,h.output,h.size,fun k hk hd=>h.block k hk (by omega)⟩
theorem Keep.below {lo hi B:Nat}{w w':World} (h:Keep lo hi w w') (h1:B≤lo) (h2:B≤w.heap.size):Below B w w':=
 ⟨h.os,h.tape,h.output,h.size,fun k hk=>h.block k (by omega) (by omega)⟩
theorem Keep.drewN {lo hi:Nat}{w w':World} (h:Keep lo hi w w') (q:Nat):Keep lo hi w (w'.drewN q):=⟨h.os,h.tape,h.output,h.size,h.block⟩
theorem Keep.setCell {lo hi:Nat}{w w':World} (h:Keep lo hi w w') {p:Addr} (h1:lo≤p.block) (h2:p.block<hi) (u:Value):Keep lo hi w (w'.setCell p u):=
 h.trans ⟨rfl,rfl,rfl,by simp [World.setCell],fun k _ hd=>Below.heap_setCell _ _ _ _ (by omega)⟩
theorem Keep.alloc {lo hi:Nat}{w w':World} (h:Keep lo hi w w') (o:Obj):Keep lo hi w (w'.alloc o):=
 h.trans ⟨rfl,rfl,rfl,by simp,fun k hk _=>Below.heap_alloc _ _ _ hk⟩
def ints (xs:List Int):List Value:=xs.map (Value.int .i64)
theorem ints_length (xs:List Int):(ints xs).length=xs.length:=by simp [ints]
theorem ints_append (xs ys:List Int):ints (xs++ys)=ints xs++ints ys:=by simp [ints]
theorem ints_get {xs:List Int}{k:Nat}{x:Int} (h:xs[k]? = some x):(ints xs)[k]? = some (.int .i64 x):=by simp [ints,h]
theorem ints_set (xs:List Int) (j:Nat) (x:Int):(ints xs).set j (.int .i64 x)=ints (xs.set j x):=by simp [ints,List.map_set]
theorem ints_replicate (n:Nat):(madeCells (Value.int .i64 0).cells (n*1)).toList=ints (List.replicate n 0):=by
 show (madeCells #[Value.int .i64 0] (n*1)).toList=_
 rw [toList_madeCells_one];simp [ints]
def Fr (w:World) (lo hi:Nat) (v:Value) (xs:List Int):Prop:=
 w.ownsRow lo 3 1 v xs.length (ints xs)∧(∀g,v.ownBlock=some g→g<hi)∧hi≤w.heap.size
theorem Fr.own {w:World}{lo hi:Nat}{v:Value}{xs:List Int} (h:Fr w lo hi v xs):w.ownsRow lo 3 1 v xs.length (ints xs):=h.1
theorem Fr.form {w:World}{lo hi:Nat}{v:Value}{xs:List Int} (h:Fr w lo hi v xs):∃A c,v=.slice A xs.length c∧xs.length≤c∧c≤maxLen:=by
 rcases h.1.2 with ⟨rfl,hn⟩|⟨g,cap,cur,rfl,_,_,hc,hm,_⟩
 ·exact ⟨none,0,by rw [hn],by omega,by unfold maxLen;omega⟩
 ·exact ⟨_,cap,rfl,hc,hm⟩
theorem Fr.sl {w:World}{lo hi n c:Nat}{A:Option Addr}{xs:List Int} (h:Fr w lo hi (.slice A n c) xs):SlI w A xs:=by
 rcases h.1.2 with ⟨he,hn⟩|⟨g,cap,cur,he,_,hh,hc,hm,hs,ht⟩
 ·exact .inl (List.eq_nil_of_length_eq_zero hn)
 ·injection he with h1 h2 h3
  subst h1
  refine .inr ⟨g,0,rfl,fun k x hx=>?_⟩
  have hk:k<xs.length:=by
   rcases Nat.lt_or_ge k xs.length with h|h
   ·exact h
   ·rw [List.getElem?_eq_none h] at hx;cases hx
  rw [cell_of_row w g (0+k) cur _ _ hh,Nat.zero_add]
  have h5:(ints xs)[k]? = some (.int .i64 x):=ints_get hx
  rw [←ht,List.getElem?_take,if_pos (by omega)] at h5
  simpa using h5
theorem Fr.len {w:World}{lo hi n c:Nat}{A:Option Addr}{xs:List Int} (h:Fr w lo hi (.slice A n c) xs):n=xs.length:=by
 obtain ⟨A',c',he,_⟩:=h.form
 injection he
theorem Fr.keep {w w':World}{lo hi l2 h2:Nat}{v:Value}{xs:List Int} (h:Fr w lo hi v xs) (hk:Keep l2 h2 w w') (hd:hi≤l2∨h2≤lo):Fr w' lo hi v xs:=by
 obtain ⟨h1,hg,hs⟩:=h
 refine ⟨⟨h1.1,?_⟩,hg,Nat.le_trans hs hk.size⟩
 rcases h1.2 with h1|⟨g,cap,cur,rfl,hb,hh,r⟩
 ·exact .inl h1
 ·have hgh:=hg g rfl
  exact .inr ⟨g,cap,cur,rfl,hb,by rw [hk.block g (by omega) (by omega)];exact hh,r⟩
theorem Fr.below {w w':World}{lo hi B:Nat}{v:Value}{xs:List Int} (h:Fr w lo hi v xs) (hb:Below B w w') (hB:hi≤B):Fr w' lo hi v xs:=by
 obtain ⟨h1,hg,hs⟩:=h
 refine ⟨⟨h1.1,?_⟩,hg,Nat.le_trans hs hb.size⟩
 rcases h1.2 with h1|⟨g,cap,cur,rfl,hb',hh,r⟩
 ·exact .inl h1
 ·have hgh:=hg g rfl
  exact .inr ⟨g,cap,cur,rfl,hb',by rw [hb.block g (by omega)];exact hh,r⟩
theorem Fr.drewN {w:World}{lo hi:Nat}{v:Value}{xs:List Int} (h:Fr w lo hi v xs) (q:Nat):Fr (w.drewN q) lo hi v xs:=h
theorem Fr.of_own {w:World}{lo:Nat}{v:Value}{xs:List Int} (h:w.ownsRow lo 3 1 v xs.length (ints xs)):Fr w lo w.heap.size v xs:=
 ⟨h,fun g hg=>(h.lt g hg).2,Nat.le_refl _⟩
theorem Fr.wide {w:World}{lo hi lo' hi':Nat}{v:Value}{xs:List Int} (h:Fr w lo hi v xs) (h1:lo'≤lo) (h2:hi≤hi') (h3:hi'≤w.heap.size):Fr w lo' hi' v xs:=by
 obtain ⟨h,hg,hs⟩:=h
 refine ⟨⟨h.1,?_⟩,fun g e=>Nat.lt_of_lt_of_le (hg g e) h2,h3⟩
 rcases h.2 with h|⟨g,cap,cur,rfl,hb,r⟩
 ·exact .inl h
 ·exact .inr ⟨g,cap,cur,rfl,by omega,r⟩
theorem Fr.nil (w:World) {lo hi:Nat} (h:hi≤w.heap.size):Fr w lo hi (.slice none 0 0) []:=
 ⟨World.ownsRow_nil _ _ _ _,fun g hg=>by simp [Value.ownBlock] at hg,h⟩
theorem Fr.at_ {w:World}{lo hi n c:Nat}{A:Option Addr}{xs:List Int} (h:Fr w lo hi (.slice A n c) xs) {k:Nat} (hk:k<xs.length):
  ∃g x,A=some ⟨g,0,none⟩∧lo≤g∧g<hi∧xs[k]? = some x∧w.cell? ⟨g,k,none⟩=some (.int .i64 x)∧w.frozen? ⟨g,k,none⟩=false ∧
   ∀y,Fr (w.setCell ⟨g,k,none⟩ (.int .i64 y)) lo hi (.slice A n c) (xs.set k y)∧Keep lo hi w (w.setCell ⟨g,k,none⟩ (.int .i64 y)):=by
 have hn:=h.len
 subst hn
 obtain ⟨h1,hg,hs⟩:=h
 have h1':=h1
 rcases h1.2 with ⟨he,hn⟩|⟨g,cap,cur,he,hb,hh,r⟩
 ·omega
 ·injection he with e1 e2 e3
  subst e1;subst e3
  have hgh:=hg g rfl
  have hx:xs[k]? = some xs[k]:=List.getElem?_eq_getElem hk
  refine ⟨g,xs[k],rfl,hb,hgh,hx,by rw [h1'.cellAt k (by omega)];exact ints_get hx,h1'.frozenAt k,fun y=>?_⟩
  have hst:=h1'.stored k (.int .i64 y)
  refine ⟨⟨?_,fun g' hg'=>?_,by simpa [World.setCell] using hs⟩,(Keep.refl _ _ _).setCell hb hgh _⟩
  ·rw [List.length_set,←ints_set];exact hst.1
  ·exact hg g' hg'
theorem infoInt:(Tryz.prog.info? 3).map (fun i=>(i.zero,i.size,i.bytes))=some (some (.int .i64 0),1,8):=by kernel_rfl
theorem app1 {ops:Array Oper}{rest:List Oper}{o:Oper}{a:Act}{Q:Exit→Act→World→Prop} (hgd:o.guard=none) (s y:Operand)
  (ho:o.op=.call { callee:=.builtin .append,args:=#[s,y],argTypes:=#[25,25] })
  (w:World) (base:Nat) (v:Value) (n:Nat) (xs:List Int) (hs:a.eval s=v) (hown:w.ownsRow base 3 1 v n (ints xs)) (x:Int)
  (hx:a.eval y=.slice (some ⟨w.heap.size,0,none⟩) 1 1) (hl:n≤1048576) (hbase:base≤w.heap.size)
  (h:∀v' w',w'.ownsRow base 3 1 v' (n+1) (ints (xs++[x]))→(∀B,B≤base→B≤w.heap.size→Below B w w')→w.heap.size<w'.heap.size→w.grownBy w' v.ownBlock→wpList Tryz.prog ops Q rest (a.put o.dst v') w'):
  wpList Tryz.prog ops Q (o :: rest) a (w.alloc (.cells #[.int .i64 x] 3)):=by
 obtain ⟨i0,hi,hz0,hz1,hz2⟩:=info_parts infoInt
 refine wpList_append_own _ hgd s y _ ho base 3 i0 (.int .i64 0) 1 8 Tryz.underlying25 hi hz0 hz1 hz2 rfl (by decide) v n (ints xs) hs (hown.alloc _) ⟨w.heap.size,0,none⟩ 1 1 [.int .i64 x] hx rfl ?_ ?_ (by unfold maxLen;omega) (by omega) (by simp;omega) ?_
 ·intro j u hj
  match j,hj with
  | 0,hj=>simp at hj;subst hj;simp [Addr.add]
 ·intro u hu;simp at hu;subst hu;rfl
 ·intro v' w' h2 h3 _
  have hsz:=h3.size
  simp only [World.size_alloc] at hsz
  refine h v' w' (by rw [ints_append];exact h2) (fun B h4 h5=>?_) (by omega) ?_
  ·refine ((Below.refl B w).alloc h5 _).grown h3 (by simp;omega) (fun k hk=>?_)
   have:=(hown.lt k hk).1;omega
  ·exact ⟨h3.os,h3.tape,h3.output,by omega,fun k hk hne=>by rw [h3.block k (by simp;omega) hne];exact Below.heap_alloc _ _ _ hk⟩
theorem makeI {ops:Array Oper}{rest:List Oper}{o:Oper}{a:Act}{Q:Exit→Act→World→Prop} (hgd:o.guard=none) (l c:Operand)
  (ho:o.op=Op.makeSlice 25 l c) (w:World) (n:Nat) (hl:a.eval l=.int .i64 n) (hc:a.eval c=.int .i64 n) (hn:n≤1048576)
  (h:∀w',Fr w' w.heap.size w'.heap.size (.slice (some ⟨w.heap.size,0,none⟩) n n) (List.replicate n 0)→Below w.heap.size w w'→w'.heap.size=w.heap.size+1→wpList Tryz.prog ops Q rest (a.put o.dst (.slice (some ⟨w.heap.size,0,none⟩) n n)) w'):
  wpList Tryz.prog ops Q (o :: rest) a w:=by
 obtain ⟨i0,hi,hz0,hz1,hz2⟩:=info_parts infoInt
 refine wpList_plain hgd fun K hK'=>?_
 have hr:=run_make (P:=Tryz.prog) w 25 3 i0 (.int .i64 0) Tryz.underlying25 hi hz0 .i64 .i64 n n (by omega) (Int.le_refl _) (by rw [hz2];omega) (by omega)
 simp only [Int.toNat_natCast] at hr
 unfold Oper.wp
 simp [execOp,ho,hl,hc,hr,Result.andThen]
 refine hK' _ _ (h _ ?_ ((Below.refl _ w).alloc (Nat.le_refl _) _) (by simp))
 rw [hz1]
 have h1:=World.ownsRow_lit (base:=w.heap.size) (e:=3) (size:=1) w (madeCells (Value.int .i64 0).cells (n*1)) n (Nat.le_refl _) (by unfold maxLen;omega) (size_madeCells _ _)
 rw [ints_replicate] at h1
 exact Fr.of_own (by rw [List.length_replicate];exact h1)
theorem within_any (n lo hi:Int) (w:World):
  Calls Tryz.prog 147 #[.int .i64 n,.int .i64 lo,.int .i64 hi] w fun e w'=>e=.returned (.bool (inB n lo hi))∧w=w':=by
 by_cases h:lo≤n
 all_goals
  go_enter Tryz.func147,Tryz.ntmps147
  go_wp2
  go_ret
  exact ⟨by unfold inB;simp [*];try omega,rfl⟩
theorem l01In_any (n lo hi:Int) (w:World):
  Calls Tryz.prog 127 #[.int .i64 n,.int .i64 lo,.int .i64 hi] w fun e w'=>e=.returned (.bool (inB n lo hi))∧w=w':=by
 by_cases h:lo≤n
 all_goals
  go_enter Tryz.func127,Tryz.ntmps127
  go_wp2
  go_ret
  exact ⟨by unfold inB;simp [*];try omega,rfl⟩
def mOk (i k:Int):Bool:=inB i 1 20 && inB k 1 20
theorem mOk_t {i k:Int}:mOk i k=true↔(1≤i∧i≤20)∧1≤k∧k≤20:=by simp [mOk,inB_t]
theorem isMatch_any (i k:Int) (w:World):
  Calls Tryz.prog 189 #[.int .i64 i,.int .i64 k] w fun e w'=>e=.returned (.bool (mOk i k))∧w=w':=by
 cases h:inB i 1 20
 all_goals
  go_enter Tryz.func189,Tryz.ntmps189
  go_wp2_with (go_at_call 147;refine (within_any _ _ _ _).mono ?_;rintro e w' ⟨rfl,rfl⟩)
  go_ret
  exact ⟨by simp [mOk,h],rfl⟩
theorem choose_any (n k:Int) (w:World) (hn:0≤n) (hn':n≤50) (hk:0≤k):
  Calls Tryz.prog 255 #[.int .i64 n,.int .i64 k] w fun e w'=>e=.returned (.int .i64 (bin n.toNat k.toNat))∧w=w':=by
 obtain ⟨n,rfl⟩:=Int.eq_ofNat_of_zero_le hn
 obtain ⟨k,rfl⟩:=Int.eq_ofNat_of_zero_le hk
 rw [Int.toNat_natCast,Int.toNat_natCast]
 by_cases hkn:n<k
 ·go_enter Tryz.func255,Tryz.ntmps255
  go_wp2
  go_ret
  exact ⟨ret_int (by rw [bin_lt n k hkn];rfl),rfl⟩
 ·go_enter Tryz.func255,Tryz.ntmps255
  go_wp2
  go_loop [5,11] (fun o i=>∃j:Nat,j≤k∧i=.int .i64 j∧o=.int .i64 (bin n j:Nat)) (fun _ i=>k-(intOf i).toNat)
  case atStart=>exact ⟨0,Nat.zero_le _,rfl,by rw [bin_zero];rfl⟩
  case round=>
   obtain ⟨j,hj,rfl,rfl⟩:=hrel
   have hb:(bin n j:Int)≤1125899906842624:=by have:=bin_cap (n:=n) (by omega) j;omega
   have hb0:(0:Int)≤(bin n j:Int):=by omega
   by_cases hlt:j<k
   ·have hm1:(0:Int)≤(bin n j:Int)*((n:Int)-j):=Int.mul_nonneg hb0 (by omega)
    have hm2:(bin n j:Int)*((n:Int)-j)≤1125899906842624*50:=Int.mul_le_mul hb (by omega) (by omega) (by omega)
    have HS:Hid ((bin n j:Int)*((n:Int)-j)/((j:Int)+1)=(bin n (j+1):Nat)):=by
     have h:=bin_step n j (by omega)
     have e:((n:Int)-j)=((n-j:Nat):Int):=by omega
     show _=_
     rw [e,←h];push_cast;rfl
    go_wp2
    go_round
    case rel=>exact ⟨j+1,by omega,by go_num,by rw [HS.out]⟩
    case measure=>simp [intOf];omega
   ·go_wp2
    go_ret
    obtain rfl:j=k:=by omega
    exact ⟨rfl,rfl⟩
theorem waysFor_any (i k:Int) (w:World) (h1:1≤i) (h2:i≤20) (h3:0≤k) (h4:k≤20):
  Calls Tryz.prog 190 #[.int .i64 i,.int .i64 k] w fun e w'=>e=.returned (.int .i64 (ways i.toNat k.toNat))∧w=w':=by
 obtain ⟨i,rfl⟩:=Int.eq_ofNat_of_zero_le (show 0≤i by omega)
 obtain ⟨k,rfl⟩:=Int.eq_ofNat_of_zero_le (show 0≤k by omega)
 rw [Int.toNat_natCast,Int.toNat_natCast]
 go_enter Tryz.func190,Tryz.ntmps190
 go_wp2
 go_loop [5,6] (fun s n=>∃t:Nat,t≤k∧n=.int .i64 ((i:Int)+t)∧s=.int .i64 (wsum (i+k-1) i t:Nat)) (fun _ n=>i+k-(intOf n).toNat)
 case atStart=>exact ⟨0,Nat.zero_le _,by simp,rfl⟩
 case round=>
  obtain ⟨t,ht,rfl,rfl⟩:=hrel
  have hb:=wsum_cap (m:=i+k-1) (by omega) i t
  have hc:=bin_cap (n:=i+k-1) (by omega) (i+t)
  by_cases hlt:t<k
  ·go_wp2_with fail
   refine (choose_any _ _ _ (by omega) (by omega) (by omega)).mono ?_
   rintro e w' ⟨rfl,rfl⟩
   rw [show ((i:Int)+k-1).toNat=i+k-1 from by omega,show ((i:Int)+t).toNat=i+t from by omega]
   go_wp2
   go_round
   case rel=>exact ⟨t+1,by omega,by go_num,by rw [wsum];go_num⟩
   case measure=>simp [intOf];omega
  ·go_wp2
   go_ret
   obtain rfl:t=k:=by omega
   exact ⟨rfl,rfl⟩
def waysF (i k:Int):Int:=if mOk i k then (ways i.toNat k.toNat:Nat) else -1
theorem implWaysFor_any (i k:Int) (w:World):
  Calls Tryz.prog 107 #[.int .i64 i,.int .i64 k] w fun e w'=>e=.returned (.int .i64 (waysF i k))∧w=w':=by
 cases h:mOk i k
 ·go_enter Tryz.func107,Tryz.ntmps107
  go_wp2_with (go_at_call 189;refine (isMatch_any _ _ _).mono ?_;rintro e w' ⟨rfl,rfl⟩)
  go_ret
  exact ⟨by simp [waysF,h],rfl⟩
 ·obtain ⟨⟨h1,h2⟩,h3,h4⟩:=mOk_t.1 h
  go_enter Tryz.func107,Tryz.ntmps107
  go_wp2_with (first|(go_at_call 189;refine (isMatch_any _ _ _).mono ?_;rintro e w' ⟨rfl,rfl⟩)|(go_at_call 190;refine (waysFor_any _ _ _ (by omega) (by omega) (by omega) (by omega)).mono ?_;rintro e w' ⟨rfl,rfl⟩))
  go_ret
  exact ⟨by simp [waysF,h],rfl⟩
def idxF (p:Int→Bool) (xs:List Int):Int:=match xs.findIdx? p with|some k=>(k:Int)|none=>-1
theorem findIdx?_take {α:Type}{p:α→Bool}{xs:List α}{k:Nat}{x:α} (h:(xs.take k).all (fun y=>!p y)=true) (hx:xs[k]? = some x) (hp:p x=true):xs.findIdx? p=some k:=by
 have hk:k<xs.length:=by
  rcases Nat.lt_or_ge k xs.length with h' | h'
  ·exact h'
  ·rw [List.getElem?_eq_none h'] at hx;cases hx
 rw [List.findIdx?_eq_some_iff_getElem]
 refine ⟨hk,by rw [List.getElem?_eq_getElem hk] at hx;injection hx with hx;rw [hx];exact hp,fun j hj=>?_⟩
 rw [List.all_eq_true] at h
 have hjm:xs[j]'(by omega)∈xs.take k:=by
  rw [List.mem_take_iff_getElem]
  exact ⟨j,by omega,rfl⟩
 simpa using h _ hjm
theorem findIdx?_nope {α:Type}{p:α→Bool}{xs:List α} (h:xs.all (fun y=>!p y)=true):xs.findIdx? p=none:=by
 rw [List.findIdx?_eq_none_iff]
 intro x hx
 rw [List.all_eq_true] at h
 simpa using h x hx
theorem idxF_hit {p:Int→Bool}{xs:List Int}{k:Nat}{x:Int} (h:(xs.take k).all (fun y=>!p y)=true) (hx:xs[k]? = some x) (hp:p x=true):idxF p xs=k:=by
 unfold idxF;rw [findIdx?_take h hx hp]
theorem idxF_none {p:Int→Bool}{xs:List Int} (h:xs.all (fun y=>!p y)=true):idxF p xs = -1:=by
 unfold idxF;rw [findIdx?_nope h]
theorem all_take_snoc {α:Type}{p:α→Bool}{xs:List α}{k:Nat}{x:α} (h:(xs.take k).all p=true) (hx:xs[k]? = some x) (hp:p x=true):(xs.take (k+1)).all p=true:=by
 rw [take_snoc hx,List.all_append,h];simp [hp]
theorem idxF_ge (p:Int→Bool) (xs:List Int):decide (0≤idxF p xs)=xs.any p:=by
 unfold idxF
 cases h:xs.findIdx? p with
 | none=>
  rw [List.findIdx?_eq_none_iff] at h
  have:xs.any p=false:=by rw [List.any_eq_false];intro x hx;rw [h x hx];simp
  rw [this];rfl
 | some k=>
  have:xs.any p=true:=by
   rw [List.findIdx?_eq_some_iff_getElem] at h
   obtain ⟨hk,hp,_⟩:=h
   rw [List.any_eq_true];exact ⟨_,List.getElem_mem hk,hp⟩
  rw [this];simp
theorem indexFuncI_any (A:Option Addr) (c:Nat) (xs:List Int) (w:World) (hs:SlI w A xs) (hn:xs.length≤1048576) (G:FuncId) (caps:Array Value) (p:Int→Bool)
  (hG:∀(args:Array Value) (W:World),(callFunc G args).run Tryz.prog W=.ok (.enter G args) W)
  (hp:∀q x,Calls Tryz.prog G (#[.int .i64 x]++caps) (w.drewN q) fun e w'=>e=.returned (.bool (p x))∧∃q',w'=w.drewN q'):
  Calls Tryz.prog 333 #[.slice A xs.length c,.func (.func G) #[] caps] w fun e w'=>e=.returned (.int .i64 (idxF p xs))∧∃q,w'=w.drewN q:=by
 have HP:=Lib.hid hp
 clear hp
 generalize hl:xs.length=n at *
 have Hl:=Lib.hid hl
 clear hl
 go_enter Tryz.func333,Tryz.ntmps333
 go_wp2
 go_loopw [8] (fun i wr=>∃j:Nat,j≤n∧i=.int .i64 j∧Hid ((xs.take j).all (fun y=>!p y)=true)∧Hid (∃q,wr=w.drewN q)) (fun i _=>n-(intOf i).toNat)
 case atStart=>exact ⟨0,Nat.zero_le _,rfl,rfl,0,rfl⟩
 case round=>
  obtain ⟨j,hj,rfl,HT,HQ⟩:=hrel
  obtain ⟨q0,rfl⟩:=HQ
  by_cases hlt:j<n
  ·obtain ⟨b,off,x,rfl,hx1,hx2,_⟩:=(hs.drewN q0).at_ (k:=j) (by rw [Hl.out];exact hlt)
   have Hx:=Lib.hid hx1
   have hx3:=hx2
   clear hx1 hs hx2
   have hpx:=HP.out q0 x
   obtain ⟨w0,hw0⟩:∃w0,w0=w.drewN q0:=⟨_,rfl⟩
   rw [←hw0] at hx3 hpx ⊢
   have HPX:=Lib.hid hpx
   have HW:=Lib.hid hw0
   clear hpx hw0
   go_wp2_with fail
   refine (HPX.out).mono ?_
   rintro e w1 ⟨rfl,q1,rfl⟩
   cases hpc:p x
   ·go_wp2
    go_roundw
    case rel=>exact ⟨j+1,by omega,by go_num,all_take_snoc HT.out Hx.out (by simp [hpc]),q1,rfl⟩
    case measure=>simp [intOf];omega
   ·go_wp2
    go_ret
    exact ⟨ret_int (idxF_hit HT.out Hx.out hpc).symm,q1,rfl⟩
  ·obtain rfl:j=n:=by omega
   go_wp2
   go_ret
   have h:=HT.out
   rw [List.take_of_length_le (by rw [Hl.out];exact Nat.le_refl _)] at h
   exact ⟨ret_int (idxF_none h).symm,q0,rfl⟩
theorem containsFuncI_any (A:Option Addr) (c:Nat) (xs:List Int) (w:World) (hs:SlI w A xs) (hn:xs.length≤1048576) (G:FuncId) (caps:Array Value) (p:Int→Bool)
  (hG:∀(args:Array Value) (W:World),(callFunc G args).run Tryz.prog W=.ok (.enter G args) W)
  (hp:∀q x,Calls Tryz.prog G (#[.int .i64 x]++caps) (w.drewN q) fun e w'=>e=.returned (.bool (p x))∧∃q',w'=w.drewN q'):
  Calls Tryz.prog 259 #[.slice A xs.length c,.func (.func G) #[] caps] w fun e w'=>e=.returned (.bool (xs.any p))∧∃q,w'=w.drewN q:=by
 have HC:=Lib.hid (indexFuncI_any A c xs w hs hn G caps p hG hp)
 clear hs hp hG
 go_enter Tryz.func259,Tryz.ntmps259
 go_wp2_with fail
 refine HC.out.mono ?_
 rintro e w1 ⟨rfl,q1,rfl⟩
 go_wp2
 go_ret
 exact ⟨ret_bool (idxF_ge p xs),q1,rfl⟩
theorem all_not_any {α:Type} (p:α→Bool) (xs:List α):(!xs.any (fun x=>!p x))=xs.all p:=by
 rw [List.not_any_eq_all_not];simp
theorem allWithin1_any (x lo hi:Int) (bl bh:Nat) (w:World) (h1:w.cell? ⟨bl,0,none⟩=some (.int .i64 lo)) (h2:w.cell? ⟨bh,0,none⟩=some (.int .i64 hi)):
  Calls Tryz.prog 307 #[.int .i64 x,.pointer (some ⟨bl,0,none⟩),.pointer (some ⟨bh,0,none⟩)] w fun e w'=>e=.returned (.bool (!inB x lo hi))∧w=w':=by
 go_enter Tryz.func307,Tryz.ntmps307
 go_wp2_with (go_at_call 147;refine (within_any _ _ _ _).mono ?_;rintro e w' ⟨rfl,rfl⟩)
 go_ret
 exact ⟨rfl,rfl⟩
theorem allWithin_any (A:Option Addr) (c:Nat) (xs:List Int) (lo hi:Int) (w:World) (hs:SlI w A xs) (hn:xs.length≤1048576):
  Calls Tryz.prog 239 #[.slice A xs.length c,.int .i64 lo,.int .i64 hi] w fun e w'=>e=.returned (.bool (xs.all (fun x=>inB x lo hi)))∧Below w.heap.size w w':=by
 go_enter Tryz.func239,Tryz.ntmps239
 go_wp2_with fail
 refine (containsFuncI_any A c xs _ ((hs.alloc _).alloc _) hn 307 _ (fun x=>!inB x lo hi) (fun _ _=>by kernel_rfl) (fun q x=>?_)).mono ?_
 ·refine (allWithin1_any x lo hi w.heap.size (w.heap.size+1) _ ?_ ?_).mono ?_
  ·simp [go_sem]
  ·simp [go_sem]
  ·rintro e w' ⟨rfl,rfl⟩;exact ⟨rfl,q,rfl⟩
 ·rintro e w1 ⟨rfl,q1,rfl⟩
  go_wp2
  go_ret
  exact ⟨ret_bool (all_not_any _ _),below_drewN (((Below.refl _ w).alloc (Nat.le_refl _) _).alloc (by simp) _) _⟩
theorem appSrc {ops:Array Oper}{rest:List Oper}{o:Oper}{a:Act}{Q:Exit→Act→World→Prop} (hgd:o.guard=none) (s y:Operand)
  (ho:o.op=.call { callee:=.builtin .append,args:=#[s,y],argTypes:=#[25,25] })
  (w:World) (base:Nat) (v:Value) (n:Nat) (xs:List Int) (hs:a.eval s=v) (hown:w.ownsRow base 3 1 v n (ints xs)) (ad:Addr) (m c:Nat) (ys:List Int) (hm:ys.length=m)
  (hx:a.eval y=.slice (some ad) m c) (hys:SlI w (some ad) ys) (hl:n+m≤1048576) (hbase:base≤w.heap.size)
  (h:∀v' w',w'.ownsRow base 3 1 v' (n+m) (ints (xs++ys))→(∀B,B≤base→B≤w.heap.size→Below B w w')→w.grownBy w' v.ownBlock→wpList Tryz.prog ops Q rest (a.put o.dst v') w'):
  wpList Tryz.prog ops Q (o :: rest) a w:=by
 obtain ⟨i0,hi,hz0,hz1,hz2⟩:=info_parts infoInt
 refine wpList_append_own _ hgd s y _ ho base 3 i0 (.int .i64 0) 1 8 Tryz.underlying25 hi hz0 hz1 hz2 rfl (by decide) v n (ints xs) hs hown ad m c (ints ys) hx (by simp [ints,hm]) ?_ ?_ (by unfold maxLen;omega) (by omega) hbase ?_
 ·intro j u hj
  rcases hys with rfl|⟨b,off,hA,hc⟩
  ·simp [ints] at hj
  ·injection hA with hA
   subst hA
   simp only [ints,List.getElem?_map,Option.map_eq_some_iff] at hj
   obtain ⟨y,hy,rfl⟩:=hj
   rw [Go.WideShapes.add_plain];exact hc j y hy
 ·intro u hu
  simp only [ints,List.mem_map] at hu
  obtain ⟨y,_,rfl⟩:=hu;rfl
 ·intro v' w' h2 h3 _
  refine h v' w' (by rw [ints_append];exact h2) (fun B h4 h5=>?_) h3
  refine (Below.refl B w).grown h3 h5 (fun k hk=>?_)
  have:=(hown.lt k hk).1;omega
theorem slI_none {w:World}{xs:List Int} (h:SlI w none xs):xs = []:=by
 rcases h with rfl|⟨b,off,h,_⟩
 ·rfl
 ·cases h
theorem cloneI_any (A:Option Addr) (c:Nat) (xs:List Int) (w:World) (hs:SlI w A xs) (hn:xs.length≤1048576):
  Calls Tryz.prog 59 #[.slice A xs.length c] w fun e w'=>∃A' c',e=.returned (.slice A' xs.length c')∧Fr w' w.heap.size w'.heap.size (.slice A' xs.length c') xs∧Below w.heap.size w w':=by
 have qT:∀(w:World) (a:Option Addr) (n c n' c':Nat),(binOp .eql 25 (.slice a n c) (.slice none n' c')).run Tryz.prog w=.ok (.bool a.isNone) w:=fun w a n c n' c'=>Lib.run_eql_slice_nil w _ _ a n c n' c' Tryz.underlying25
 cases A with
 | none=>
  obtain rfl:=slI_none hs
  go_enter Tryz.func59,Tryz.ntmps59
  go_wp2
  go_ret
  exact ⟨none,0,rfl,Fr.nil w (Nat.le_refl _),Below.refl _ _⟩
 | some ad=>
  generalize hl:xs.length=n at *
  have HL:=Lib.hid hl
  clear hl
  go_enter Tryz.func59,Tryz.ntmps59
  go_wp2_with (at_builtin;refine appSrc rfl _ _ rfl (w.alloc (.cells #[] 3)) w.heap.size _ 0 [] rfl (World.ownsRow_made w #[] 0 (Nat.le_refl _) (by unfold maxLen;omega) rfl) ad n c xs HL.out rfl (hs.alloc _) (by omega) (by simp) ?_;intro v' w1 hown hb _)
  have hb':=(((Below.refl w.heap.size w).alloc (Nat.le_refl _) (.cells #[] 3)).trans (hb w.heap.size (Nat.le_refl _) (by simp)))
  have HF:Hid (Fr w1 w.heap.size w1.heap.size v' xs):=Fr.of_own (by rw [HL.out];simpa using hown)
  have HB:=Lib.hid hb'
  clear hown hb hb' hs
  go_wp2
  go_ret
  obtain ⟨A',c',rfl,_⟩:=HF.out.form
  rw [HL.out] at HF ⊢
  exact ⟨A',c',rfl,HF.out,HB.out⟩
end Go.Proofs.YtkapoldjcpfdgaaGreatDoor
