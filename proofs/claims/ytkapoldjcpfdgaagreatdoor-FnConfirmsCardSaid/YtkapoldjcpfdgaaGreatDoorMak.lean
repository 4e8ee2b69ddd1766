/- Short forms of the held law's moves: an operation taken first; one operation alone may come up. -/
import Derived.Lib.AppendZeros
import Derived.Test.YtkapoldjcpfdgaaGreatDoorMab
set_option maxHeartbeats 2000000
set_option maxRecDepth 100000
namespace Go.Proofs.YtkapoldjcpfdgaaGreatDoor
open Go.ChangeShapes Go.WideShapes Go.ChangeAt Go.RowKit
def alt (f:Nat→List Nat→Int):List Nat→Int
 | []=>0
 | x :: l=>f x l-alt (fun y r=>f y (x :: r)) l
def pf (M:Nat→Nat→Int):Nat→List Nat→Int
 | 0,_=>1
 | _+1,[]=>0
 | k+1,x :: l=>alt (fun y r=>M x y*pf M k r) l
def smN (f:Nat→Int):Nat→Int
 | 0=>0
 | n+1=>smN f n+f n
theorem smN_congr {f g:Nat→Int}:∀ {n:Nat},(∀i,i<n→f i=g i)→smN f n=smN g n
 | 0,_=>rfl
 | n+1,h=>by rw [smN,smN,smN_congr fun i hi=>h i (by omega),h n (by omega)]
def Pk (l:List Nat) (y:Nat) (r:List Nat):Prop:=∃A B,l=A++y :: B∧r=A++B
theorem Pk.head (x:Nat) (l:List Nat):Pk (x :: l) x l:=⟨[],l,rfl,rfl⟩
theorem Pk.cons {l r:List Nat}{y:Nat} (x:Nat) (h:Pk l y r):Pk (x :: l) y (x :: r):=by
 obtain ⟨A,B,rfl,rfl⟩:=h
 exact ⟨x :: A,B,rfl,rfl⟩
theorem Pk.len {l r:List Nat}{y:Nat} (h:Pk l y r):l.length=r.length+1:=by obtain ⟨A,B,rfl,rfl⟩:=h;simp;omega
def altL (f:Nat→List Nat→Int):List Nat→List Int
 | []=>[]
 | x :: l=>f x l :: (altL (fun y r=>f y (x :: r)) l).map fun z=>-z
theorem altL_length {f:Nat→List Nat→Int}:∀l:List Nat,(altL f l).length=l.length
 | []=>rfl
 | x :: l=>by rw [altL,List.length_cons,List.length_map,altL_length l,List.length_cons]
theorem sum_neg:∀l:List Int,(l.map fun z=>-z).sum = - l.sum
 | []=>rfl
 | x :: l=>by rw [List.map_cons,List.sum_cons,List.sum_cons,sum_neg l];omega
theorem alt_sum {f:Nat→List Nat→Int}:∀l:List Nat,alt f l=(altL f l).sum
 | []=>rfl
 | x :: l=>by rw [alt,altL,List.sum_cons,sum_neg,←alt_sum l];omega
theorem altL_all {P:Int→Prop} (hP:∀z,P z→P (-z)):∀ {l:List Nat}{f:Nat→List Nat→Int},(∀y r,Pk l y r→P (f y r))→∀z∈altL f l,P z
 | [],f,_=>by simp [altL]
 | x :: l,f,h=>by
  intro z hz
  rw [altL,List.mem_cons] at hz
  rcases hz with rfl|hz
  ·exact h _ _ (Pk.head x l)
  ·obtain ⟨u,hu,rfl⟩:=List.mem_map.1 hz
   exact hP _ (altL_all hP (fun y r hp=>h y (x :: r) (hp.cons x)) u hu)
theorem abs_sum {B:Nat}:∀ {l:List Int},(∀z∈l,z.natAbs≤B)→l.sum.natAbs≤l.length*B
 | [],_=>by simp
 | x :: l,h=>by
  have h1:=abs_sum (l:=l) fun z hz=>h z (List.mem_cons_of_mem _ hz)
  have h2:=h x (List.mem_cons_self ..)
  rw [List.sum_cons,List.length_cons,Nat.add_mul]
  have:=Int.natAbs_add_le x l.sum
  omega
def dfact:Nat→Nat
 | 0=>1
 | k+1=>(2*k+1)*dfact k
theorem pf_abs {M:Nat→Nat→Int} (hM:∀x y,(M x y).natAbs≤1):∀(k:Nat) (l:List Nat),l.length=2*k→(pf M k l).natAbs≤dfact k
 | 0,l,_=>by simp [pf,dfact]
 | k+1,[],h=>by simp at h
 | k+1,x :: l,h=>by
  have h2:=abs_sum (B:=dfact k) (l:=altL (fun y r=>M x y*pf M k r) l) (altL_all (P:=fun z=>z.natAbs≤dfact k) (fun z hz=>by rw [Int.natAbs_neg];exact hz) fun y r hp=>by
   have h3:=pf_abs hM k r (by have:=hp.len;simp at h;omega)
   rw [Int.natAbs_mul]
   exact Nat.le_trans (Nat.mul_le_mul (hM x y) h3) (by omega))
  rw [pf,alt_sum,dfact]
  rw [altL_length] at h2
  rw [show 2*k+1=l.length from by simp at h;omega]
  exact h2
def pfs (M:Nat→Nat→Int) (k:Nat) (l:List Nat):List Int:=altL (fun _ r=>pf M k r) l
theorem pfs_length {M:Nat→Nat→Int}{k:Nat}{l:List Nat}:(pfs M k l).length=l.length:=altL_length l
theorem pfs_abs {M:Nat→Nat→Int}{k:Nat}{l:List Nat} (hM:∀x y,(M x y).natAbs≤1) (hl:l.length=2*k+1):∀z∈pfs M k l,z.natAbs≤dfact k:=
 altL_all (fun z hz=>by rw [Int.natAbs_neg];exact hz) fun y r hp=>pf_abs hM k r (by have:=hp.len;omega)
def gcdL (l:List Int):Nat:=l.foldl (fun g x=>Nat.gcd g x.natAbs) 0
theorem gcd_fold:∀(l:List Int) (g d:Nat),d ∣ l.foldl (fun g x=>Nat.gcd g x.natAbs) g↔d ∣ g∧∀x∈l,d ∣ x.natAbs
 | [],g,d=>by simp
 | x :: l,g,d=>by
  rw [List.foldl_cons,gcd_fold l,Nat.dvd_gcd_iff]
  simp only [List.mem_cons,forall_eq_or_imp]
  exact and_assoc
theorem dvd_gcdL {l:List Int}{d:Nat}:d ∣ gcdL l↔∀x∈l,d ∣ x.natAbs:=by
 unfold gcdL;rw [gcd_fold];simp
theorem gcdL_dvd {l:List Int}{x:Int} (h:x∈l):gcdL l ∣ x.natAbs:=dvd_gcdL.1 (Nat.dvd_refl _) x h
theorem gcdL_zero {l:List Int}:gcdL l=0↔∀x∈l,x=0:=by
 constructor
 ·intro h x hx
  have:=gcdL_dvd hx
  rw [h] at this
  have:=Nat.eq_zero_of_zero_dvd this
  omega
 ·intro h
  have:0 ∣ gcdL l:=dvd_gcdL.2 fun x hx=>by rw [h x hx];simp
  exact Nat.eq_zero_of_zero_dvd this
def fn (l:List Int):Nat→Int:=fun j=>l.getD j 0
theorem fn_mem {l:List Int}{j:Nat} (h:j<l.length):fn l j∈l:=by
 unfold fn
 rw [List.getD_eq_getElem?_getD,List.getElem?_eq_getElem h]
 exact List.getElem_mem _
theorem mem_fn {l:List Int}{x:Int} (h:x∈l):∃j,j<l.length∧fn l j=x:=by
 obtain ⟨j,hj⟩:=List.getElem?_of_mem h
 have:=(List.getElem?_eq_some_iff.1 hj).1
 exact ⟨j,this,by unfold fn;rw [List.getD_eq_getElem?_getD,hj];rfl⟩
theorem getD_set {α:Type} (l:List α) (i j:Nat) (x d:α) (hi:i<l.length):(l.set i x).getD j d=if j=i then x else l.getD j d:=by
 rw [List.getD_eq_getElem?_getD,List.getD_eq_getElem?_getD,List.getElem?_set]
 by_cases h:i=j
 ·subst h;simp [hi]
 ·have h':¬j=i:=fun e=>h e.symm
  simp [h,h']
theorem fn_map {a:List Int}{f:Int→Int}{i:Nat} (h:i<a.length):fn (a.map f) i=f (fn a i):=by
 unfold fn
 rw [List.getD_eq_getElem?_getD,List.getD_eq_getElem?_getD,List.getElem?_map,List.getElem?_eq_getElem h];rfl
theorem all_fn {a:List Int}{n:Nat} (ha:a.length=n):a.all (fun x=>decide (0<x))=true↔∀i,i<n→0<fn a i:=by
 rw [List.all_eq_true]
 constructor
 ·intro h i hi;exact of_decide_eq_true (h _ (fn_mem (by omega)))
 ·intro h x hx
  obtain ⟨j,hj,rfl⟩:=mem_fn hx
  exact decide_eq_true (h j (by omega))
def sgnL (ps:List Int):List Int:=if fn ps 0<0 then ps.map fun z=>-z else ps
def lowL (l:List Int):List Int:=l.map fun z=>z.tdiv (gcdL l:Int)
def kerF (ps:List Int):Option (List Int):=if (sgnL ps).all (fun x=>decide (0<x)) then some (lowL (sgnL ps)) else none
theorem sgnL_length (ps:List Int):(sgnL ps).length=ps.length:=by unfold sgnL;split<;>simp
def sg (i:Nat):Int:=if i%2=0 then 1 else -1
theorem sg_succ (i:Nat):sg (i+1) = - sg i:=by
 unfold sg
 rcases Nat.mod_two_eq_zero_or_one i with h|h
 ·have h2:(i+1)%2=1:=by omega
  simp [h,h2]
 ·have h2:(i+1)%2=0:=by omega
  simp [h,h2]
theorem altL_at {f:Nat→List Nat→Int}:∀ {l:List Nat}{i:Nat},i<l.length→fn (altL f l) i=sg i*f (l.getD i 0) (l.eraseIdx i)
 | [],_,h=>by simp at h
 | x :: l,0,_=>by simp [altL,fn,sg]
 | x :: l,i+1,h=>by
  have h':i<l.length:=by simpa using h
  have ih:=altL_at (f:=fun y r=>f y (x :: r)) h'
  have hm:fn (altL f (x :: l)) (i+1)=fn ((altL (fun y r=>f y (x :: r)) l).map fun z=>-z) i:=by simp [altL,fn]
  rw [hm,fn_map (by rw [altL_length];exact h'),ih,sg_succ,Int.neg_mul]
  simp
def altP (f:Nat→List Nat→Int) (l:List Nat) (i:Nat):Int:=smN (fn (altL f l)) i
theorem sum_smN (l:List Int):l.sum=smN (fn l) l.length:=by
 have key:∀(n:Nat) (l:List Int),l.length=n→l.sum=smN (fn l) n:=by
  intro n
  induction n with
  | zero=>intro l hl;obtain rfl:=List.eq_nil_of_length_eq_zero hl;rfl
  | succ n ih=>
   intro l hl
   obtain ⟨l',x,rfl⟩:∃l' x,l=l'++[x]:=(by simpa using (List.eq_nil_or_concat l).resolve_left (by rintro rfl;simp at hl))
   simp at hl
   rw [List.sum_append,ih l' hl,smN]
   congr 1
   ·refine smN_congr fun i hi=>?_
    unfold fn
    rw [List.getD_eq_getElem?_getD,List.getD_eq_getElem?_getD,List.getElem?_append_left (by omega)]
   ·unfold fn
    rw [List.getD_eq_getElem?_getD,List.getElem?_append_right (by omega),hl,Nat.sub_self];simp
 exact key _ l rfl
theorem altP_all {f:Nat→List Nat→Int}{l:List Nat}:altP f l l.length=alt f l:=by
 unfold altP
 rw [alt_sum,sum_smN,altL_length]
theorem altP_succ {f:Nat→List Nat→Int}{l:List Nat}{i:Nat} (h:i<l.length):altP f l (i+1)=altP f l i+sg i*f (l.getD i 0) (l.eraseIdx i):=by
 unfold altP
 rw [smN,altL_at h]
def Mb (B:Nat→Nat→Bool) (x y:Nat):Int:=(if B x y then 1 else 0)-(if B y x then 1 else 0)
theorem Mb_abs (B:Nat→Nat→Bool) (x y:Nat):(Mb B x y).natAbs≤1:=by unfold Mb;split<;>split<;>decide
theorem Mb_t {B:Nat→Nat→Bool}{x y:Nat} (h:B x y=true) (hne:B x y≠B y x):Mb B x y=1:=by
 have:B y x=false:=by cases e:B y x<;>simp_all
 unfold Mb;rw [h,this];rfl
theorem Mb_f {B:Nat→Nat→Bool}{x y:Nat} (h:B x y=false) (hne:B x y≠B y x):Mb B x y = -1:=by
 have:B y x=true:=by cases e:B y x<;>simp_all
 unfold Mb;rw [h,this];rfl
theorem growI_any (n:Nat) (w:World) (hn:n≤1048576):
  Calls Tryz.prog 339 #[.slice none 0 0,.int .i64 n] w fun e w'=>∃A c,e=.returned (.slice A 0 c)∧Fr w' w.heap.size w'.heap.size (.slice A 0 c) []∧Below w.heap.size w w':=by
 by_cases h0:n=0
 ·subst h0
  go_enter Tryz.func339,Tryz.ntmps339
  go_wp2
  go_ret
  exact ⟨none,0,rfl,Fr.nil w (Nat.le_refl _),Below.refl _ _⟩
 ·obtain ⟨i0,hi,hz0,hz1,hz2⟩:=info_parts infoInt
  have happ:=Lib.run_append_nil_zeros (P:=Tryz.prog) w 25 3 25 3 i0 (.int .i64 0) .i64 .i64 Tryz.underlying25 Tryz.underlying3 hi hz0 n (by omega) (by omega) (by omega) (by rw [hz2];omega)
  generalize hcap:grownCap w n 0 3=cap2 at happ
  have hcapge:n≤cap2:=by rw [←hcap];exact grownCap_ge w _ 0 _
  have hcaple:cap2≤maxLen:=by rw [←hcap];exact grownCap_le_maxLen w _ 0 _ (by unfold maxLen;omega)
  generalize hZ:(Builtin.zeroCells (Value.int .i64 0).cells n++Builtin.zeroCells (Value.int .i64 0).cells (cap2-n))=Z at happ
  have hZs:Z.size=cap2:=by rw [←hZ];simp [size_zeroCells,Value.cells];omega
  clear hcap hZ
  have HF:Hid (Fr (w.drew.alloc (.cells Z 3)) w.heap.size (w.drew.alloc (.cells Z 3)).heap.size (.slice (some ⟨w.heap.size,0,none⟩) 0 cap2) []∧Below w.heap.size w (w.drew.alloc (.cells Z 3))):=⟨Fr.of_own (World.ownsRow_made w.drew Z cap2 (Nat.le_refl _) hcaple (by omega)),((Below.refl _ w).drew).alloc (Nat.le_refl _) _⟩
  have HA:=Lib.hid happ
  have h1:(0:Int)<n:=by omega
  clear happ
  go_enter Tryz.func339,Tryz.ntmps339
  go_wp2_with (at_builtin;refine Lib.wpList_append_run _ rfl _ _ _ _ rfl _ _ rfl rfl _ _ HA.out ?_)
  go_ret
  exact ⟨_,_,rfl,HF.out⟩
theorem concatI_any (b:Nat) (A1 A2:Addr) (c1 c2:Nat) (xs ys:List Int) (w:World) (h0:w.cell? ⟨b,0,none⟩=some (.slice (some A1) xs.length c1)) (h1:w.cell? ⟨b,1,none⟩=some (.slice (some A2) ys.length c2)) (hx:SlI w (some A1) xs) (hy:SlI w (some A2) ys) (hxl:xs.length≤10000) (hyl:ys.length≤10000):
  Calls Tryz.prog 264 #[.slice (some ⟨b,0,none⟩) 2 2] w fun e w'=>∃A c,e=.returned (.slice A (xs++ys).length c)∧Fr w' w.heap.size w'.heap.size (.slice A (xs++ys).length c) (xs++ys)∧Below w.heap.size w w':=by
 have HX:=Lib.hid hx
 have HY:=Lib.hid hy
 have HC:Hid (∀W,Below w.heap.size w W→W.cell? ⟨b,0,none⟩=some (.slice (some A1) xs.length c1)∧W.cell? ⟨b,1,none⟩=some (.slice (some A2) ys.length c2)):=fun W hW=>⟨(hW.cell (block_lt_of_cell h0)).trans h0,(hW.cell (block_lt_of_cell h1)).trans h1⟩
 generalize hl1:xs.length=n1 at *
 generalize hl2:ys.length=n2 at *
 have HL1:=Lib.hid hl1
 have HL2:=Lib.hid hl2
 have HSZ:Hid ((xs++ys).length=n1+n2):=by show _=_;rw [List.length_append,hl1,hl2]
 clear hx hy hl1 hl2
 go_enter Tryz.func264,Tryz.ntmps264
 go_wp2
 go_loop [3,11] (fun s i=>∃q:Nat,q≤2∧i=.int .i64 q∧s=.int .i64 (if q=0 then (0:Int) else if q=1 then (n1:Int) else (n1+n2:Int))) (fun _ i=>2-(intOf i).toNat)
 case atStart=>exact ⟨0,by omega,rfl,rfl⟩
 case round=>
  obtain ⟨q,hq,rfl,rfl⟩:=hrel
  match q,hq with
  | 0,_=>
   simp only [if_true]
   go_wp2
   go_round
   case rel=>exact ⟨1,by omega,rfl,by simp⟩
   case measure=>simp [intOf]
  | 1,_=>
   simp only [Nat.one_ne_zero,if_true,if_false]
   have h2:¬((n1:Int)+n2<0):=by omega
   go_wp2
   go_round
   case rel=>exact ⟨2,by omega,rfl,by simp⟩
   case measure=>simp [intOf]
  | 2,_=>
   simp only [show ¬(2:Nat)=0 by omega,show ¬(2:Nat)=1 by omega,if_false]
   have HG:Hid (Calls Tryz.prog 339 #[.slice none 0 0,.int .i64 ((n1:Int)+n2)] w fun e w'=>∃A c,e=.returned (.slice A 0 c)∧Fr w' w.heap.size w'.heap.size (.slice A 0 c) []∧Below w.heap.size w w'):=growI_any (n1+n2) w (by omega)
   clear h0 h1
   go_wp2_with (go_at_call 339;refine HG.out.mono ?_;rintro e w1 ⟨A,c,rfl,hf,hb⟩;have H1:Hid (Fr w1 w.heap.size w1.heap.size (.slice A 0 c) []∧Below w.heap.size w w1):=⟨hf,hb⟩;clear hf hb;obtain ⟨h0,h1⟩:=HC.out w1 H1.out.2)
   go_loopw [6,27] (fun v i wr=>∃(q:Nat) (vv:Value),q≤2∧i=.int .i64 q∧vv=v∧Hid (Fr wr w.heap.size wr.heap.size vv (if q=0 then [] else if q=1 then xs else xs++ys)∧Below w.heap.size w wr)) (fun _ i _=>2-(intOf i).toNat)
   case atStart=>exact ⟨0,_,by omega,rfl,rfl,H1.out⟩
   case round=>
    obtain ⟨q,vv,hq,rfl,rfl,HR⟩:=hrel
    obtain ⟨h0',h1'⟩:=HC.out wr HR.out.2
    match q,hq,HR with
    | 0,_,HR=>
     go_wp2_with (at_builtin;refine appSrc rfl _ _ rfl wr w.heap.size vv 0 [] rfl HR.out.1.own A1 n1 c1 xs HL1.out rfl (SlI.below HX.out HR.out.2) (by omega) HR.out.2.size ?_;intro v2 w2 hown hb2 _;have H2:Hid (Fr w2 w.heap.size w2.heap.size v2 xs∧Below w.heap.size w w2):=⟨Fr.of_own (by rw [HL1.out];simpa using hown),HR.out.2.trans (hb2 _ (Nat.le_refl _) HR.out.2.size)⟩;clear hown hb2)
     go_roundw
     case rel=>exact ⟨1,_,by omega,rfl,rfl,H2.out⟩
     case measure=>simp [intOf]
    | 1,_,HR=>
     have HR1:Hid (Fr wr w.heap.size wr.heap.size vv xs∧Below w.heap.size w wr):=HR.out
     clear HR
     go_wp2_with (at_builtin;refine appSrc rfl _ _ rfl wr w.heap.size vv n1 xs rfl (by have:=HR1.out.1.own;rw [HL1.out] at this;exact this) A2 n2 c2 ys HL2.out rfl (SlI.below HY.out HR1.out.2) (by omega) HR1.out.2.size ?_;intro v2 w2 hown hb2 _;have H2:Hid (Fr w2 w.heap.size w2.heap.size v2 (xs++ys)∧Below w.heap.size w w2):=⟨Fr.of_own (by rw [HSZ.out];exact hown),HR1.out.2.trans (hb2 _ (Nat.le_refl _) HR1.out.2.size)⟩;clear hown hb2)
     go_roundw
     case rel=>exact ⟨2,_,by omega,rfl,rfl,H2.out⟩
     case measure=>simp [intOf]
    | 2,_,HR=>
     have HR2:Hid (Fr wr w.heap.size wr.heap.size vv (xs++ys)∧Below w.heap.size w wr):=HR.out
     clear HR
     go_wp2
     go_ret
     obtain ⟨A',c',rfl,_⟩:=HR2.out.1.form
     exact ⟨A',c',by rw [HSZ.out];rfl,by have:=HR2.out.1;rw [HSZ.out] at this ⊢;exact this,HR2.out.2⟩
theorem pu:(∀(t:Array Value) d k v,(⟨t,d⟩:Act).put (some k) v=⟨t.setIfInBounds k v,d⟩)∧(∀(t:Array Value) d v,(⟨t,d⟩:Act).put none v=⟨t,d⟩)∧(∀(l:List Value) k v,l.toArray.setIfInBounds k v=(l.set k v).toArray)∧(∀(a b:Value) l,(a :: l).set 0 b=b :: l)∧(∀(a b:Value) l n,(a :: l).set (n+1) b=a :: l.set n b):=
 ⟨fun _ _ _ _=>rfl,fun _ _ _=>rfl,fun _ _ _=>List.setIfInBounds_toArray ..,fun _ _ _=>rfl,fun _ _ _ _=>rfl⟩
theorem wT {P:Program}{md:Region.Mode}{ops:Array Oper}{Q:Exit→Act→World→Prop}{S:World→Prop}{fuel:Nat}{listed:Array Bool}{a:Act}{w:World} (i:Nat) (v:Value) {oi:Oper}
  (h:wpAnyH P md ops Q S fuel (listed.setIfInBounds i true) (a.put oi.dst v) w)
  (hi:ops[i]? = some oi:=by simp only [List.getElem?_toArray,List.getElem?_cons_succ,List.getElem?_cons_zero];exact rfl)
  (hs:Region.noSelect ops=true:=by kernel_rfl) (hf:Region.free md ops listed i=true:=by kernel_rfl) (hr:(Region.ready md ops listed).contains i=true:=by kernel_rfl)
  (hQ:∀c a w,Q (.panic c) (a.put oi.dst v) w→Q (.panic c) a w:=by exact fun _ _ _ h=>h)
  (hw:Region.wanted oi (yielded ops a.tmps)=true:=by kernel_rfl) (hS:S w:=by assumption)
  (hy:∀w,S w→(execOp a.eval oi).run P w=.ok (.value v) w:=by intro w hSw;(try dsimp only at hSw);go_simp<;>(try with_reducible rfl)):
  wpAnyH P md ops Q S (fuel+1) listed a w:=wpAnyH_take hi hs hf hr hQ (.inl ⟨hw,hy⟩) hS h
theorem wR {P:Program}{md:Region.Mode}{ops:Array Oper}{Q:Exit→Act→World→Prop}{S:World→Prop}{fuel:Nat}{listed:Array Bool}{a:Act}{w:World} (i:Nat) {o:Oper}
  (h:∀K':Act→World→Prop,Shut (∀a w,S w→(S w→wpAnyH P md ops Q S fuel (listed.setIfInBounds i true) a w)→K' a w)→if Region.wanted o (yielded ops a.tmps)=true then Oper.wp P o a w K' Q else K' (a.put o.dst undef) w)
  (ho:ops[i]? = some o:=by exact rfl) (hr:Region.ready md ops listed = [i]:=by kernel_rfl):wpAnyH P md ops Q S (fuel+1) listed a w:=
 wpAnyH_ready hr (by simp) (AllReadyH.cons ho h AllReadyH.nil)
def upTo (n k:Nat):Array Bool:=((List.range n).map fun i=>decide (i<k)).toArray
theorem upTo_get (n k j:Nat):(upTo n k)[j]? = if j<n then some (decide (j<k)) else none:=by
 unfold upTo
 rw [List.getElem?_toArray,List.getElem?_map]
 by_cases h:j<n
 ·rw [List.getElem?_range h,if_pos h];rfl
 ·rw [List.getElem?_eq_none (by simpa using Nat.le_of_not_lt h),if_neg h];rfl
theorem upTo_getD (n k j:Nat) (d:Bool):(upTo n k).getD j d=if j<n then decide (j<k) else d:=by
 rw [Array.getD_eq_getD_getElem?,upTo_get]
 split<;>rfl
theorem upTo_set (n i:Nat) (h:i<n):(upTo n i).setIfInBounds i true=upTo n (i+1):=by
 apply Array.ext_getElem?
 intro j
 rw [Array.getElem?_setIfInBounds,upTo_get,upTo_get]
 have hz:(upTo n i).size=n:=by simp [upTo]
 by_cases hj:i=j
 ·subst hj
  rw [if_pos rfl,if_pos (by rw [hz];exact h),if_pos h]
  simp
 ·rw [if_neg hj]
  split
  ·congr 1
   exact decide_eq_decide.2 ⟨fun h=>by omega,fun h=>by omega⟩
  ·rfl
theorem upTo_zero {n:Nat}:Array.replicate n false=upTo n 0:=by
 apply Array.ext_getElem?
 intro j
 rw [upTo_get]
 by_cases h:j<n
 ·rw [if_pos h,Array.getElem?_replicate,if_pos h];simp
 ·rw [if_neg h,Array.getElem?_replicate,if_neg h]
def sqcB (md:Region.Mode) (ops:Array Oper) (i:Nat):Bool:=
 match ops[i]? with
 | none=>false
 | some oi=>(oi.after.all fun e=>!Region.binds md e || decide (e.on<i)) && (List.range ops.size).all fun j=>decide (j≤i) || match ops[j]? with
  | some oj=>oj.after.any (fun e=>Region.binds md e && e.on==i) || oi.apart ops oj
  | none=>true
theorem sqcB_free {md:Region.Mode}{ops:Array Oper}{i n:Nat} (h:sqcB md ops i=true) (hn:i<n):Region.free md ops (upTo n i) i=true:=by
 unfold sqcB at h
 unfold Region.free
 cases ho:ops[i]? with
 | none=>rw [ho] at h;cases h
 | some oi=>
  rw [ho] at h
  simp only [Bool.and_eq_true,List.all_eq_true] at h ⊢
  intro j hj
  have h2:=h.2 j hj
  rw [upTo_getD]
  by_cases h1:j=i
  ·simp [h1]
  ·by_cases h3:j<i
   ·simp [h3,Nat.lt_trans h3 hn]
   ·have h4:decide (j≤i)=false:=by simp;omega
    rw [h4,Bool.false_or] at h2
    exact (Bool.or_eq_true _ _).mpr (.inr h2)
theorem sqcB_ready {md:Region.Mode}{ops:Array Oper}{i n:Nat} (h:sqcB md ops i=true) (hn:i<n):(Region.ready md ops (upTo n i)).contains i=true:=by
 rw [List.contains_iff_mem]
 refine mem_ready.2 ⟨by rw [upTo_getD,if_pos hn];simp,?_⟩
 unfold sqcB at h
 cases ho:ops[i]? with
 | none=>rw [ho] at h;cases h
 | some oi=>
  rw [ho] at h
  simp only [Bool.and_eq_true] at h
  refine ⟨oi,rfl,fun e he hb=>?_⟩
  have h1:=Array.all_eq_true_iff_forall_mem.1 h.1 e he
  rw [hb] at h1
  have h2:e.on<i:=by simpa using h1
  rw [upTo_getD,if_pos (by omega)]
  simpa using h2
theorem wS {P:Program}{md:Region.Mode}{ops:Array Oper}{Q:Exit→Act→World→Prop}{S:World→Prop}{fuel n:Nat}{a:Act}{w:World} (i:Nat) (v:Value) {oi:Oper}
  (h:wpAnyH P md ops Q S fuel (upTo n (i+1)) (a.put oi.dst v) w)
  (hi:ops[i]? = some oi:=by simp only [List.getElem?_toArray,List.getElem?_cons_succ,List.getElem?_cons_zero];exact rfl)
  (hs:Region.noSelect ops=true:=by kernel_rfl) (hq:sqcB md ops i=true:=by kernel_rfl) (hn:i<n:=by decide)
  (hQ:∀c a w,Q (.panic c) (a.put oi.dst v) w→Q (.panic c) a w:=by exact fun _ _ _ h=>h)
  (hw:Region.wanted oi (yielded ops a.tmps)=true:=by kernel_rfl) (hS:S w:=by assumption)
  (hy:∀w,S w→(execOp a.eval oi).run P w=.ok (.value v) w:=by intro w hSw;(try dsimp only at hSw);go_simp<;>(try with_reducible rfl)):
  wpAnyH P md ops Q S (fuel+1) (upTo n i) a w:=
 wpAnyH_take hi hs (sqcB_free hq hn) (sqcB_ready hq hn) hQ (.inl ⟨hw,hy⟩) hS (by rw [upTo_set n i hn];exact h)
theorem wRs {P:Program}{md:Region.Mode}{ops:Array Oper}{Q:Exit→Act→World→Prop}{S:World→Prop}{fuel n:Nat}{a:Act}{w:World} (i:Nat) {o:Oper}
  (h:∀K':Act→World→Prop,Shut (∀a w,S w→(S w→wpAnyH P md ops Q S fuel (upTo n (i+1)) a w)→K' a w)→if Region.wanted o (yielded ops a.tmps)=true then Oper.wp P o a w K' Q else K' (a.put o.dst undef) w)
  (ho:ops[i]? = some o:=by exact rfl) (hr:Region.ready md ops (upTo n i) = [i]:=by kernel_rfl) (hn:i<n:=by decide):wpAnyH P md ops Q S (fuel+1) (upTo n i) a w:=
 wpAnyH_ready hr (by simp) (AllReadyH.cons ho (by rw [upTo_set n i hn];exact h) AllReadyH.nil)
theorem wS0 {P:Program}{md:Region.Mode}{ops:Array Oper}{Q:Exit→Act→World→Prop}{S:World→Prop} (n:Nat) {fuel k:Nat}{a:Act}{w:World}
  (h:wpAnyH P md ops Q S fuel (upTo n 0) a w) (hk:k=n:=by rfl):wpAnyH P md ops Q S fuel (Array.replicate k false) a w:=by
 subst hk;rw [upTo_zero];exact h
end Go.Proofs.YtkapoldjcpfdgaaGreatDoor
