/- Orders with few reversals: the spec's table. -/
import Derived.Test.YtkapoldjcpfdgaaGreatDoorMal
set_option maxHeartbeats 2000000
set_option maxRecDepth 100000
namespace Go.Proofs.YtkapoldjcpfdgaaGreatDoor
open Go.ChangeShapes Go.WideShapes Go.ChangeAt Go.RowKit
structure FillS (lo:Nat) (wr:World) (n j:Nat) (us:List Value) (xss:List (List Int)):Prop where
 ul:us.length=j
 xl:xss.length=n
 sz:lo<wr.heap.size
 own:wr.ownsRow lo 25 1 (.slice (some ⟨lo,0,none⟩) n n) n (us++List.replicate (n-j) (.slice none 0 0))
 rows:∀(k:Nat) (u:Value) (xs:List Int),us[k]? = some u→xss[k]? = some xs→Fr wr (lo+1) wr.heap.size u xs
 ap:∀(i j:Nat) (u u':Value),i≠j→us[i]? = some u→us[j]? = some u'→∀g,u.ownBlock=some g→u'.ownBlock≠some g
theorem FillS.next {lo:Nat}{wr w2:World}{n j c':Nat}{A':Option Addr}{us:List Value}{xss:List (List Int)}{xs:List Int} (h:FillS lo wr n j us xss) (hj:j<n) (hx:xss[j]? = some xs)
  (hfr:Fr w2 wr.heap.size w2.heap.size (.slice A' xs.length c') xs) (hb:Below wr.heap.size wr w2):
  (∃x,w2.cell? ⟨lo,j,none⟩=some x)∧w2.frozen? ⟨lo,j,none⟩=false∧FillS lo (w2.setCell ⟨lo,j,none⟩ (.slice A' xs.length c')) n (j+1) (us++[.slice A' xs.length c']) xss∧Keep lo (lo+1) w2 (w2.setCell ⟨lo,j,none⟩ (.slice A' xs.length c')):=by
 obtain ⟨hul,hxl,hsz,hown,hrows,hap⟩:=h
 have hown2:=ownsRow_keep hown (hi:=lo+1) (fun g hg=>by simp only [Value.ownBlock,Option.some.injEq] at hg;omega) (by omega) (Keep.of_below (lo:=wr.heap.size) (hi:=wr.heap.size) hb (Nat.le_refl _)) (.inl hsz)
 obtain ⟨hcell,hf,hst,hkp⟩:=own_at hown2 hj (.slice A' xs.length c')
 have hz2:=hb.size
 have hz3:=hkp.size
 refine ⟨hcell,hf,⟨by simp [hul],hxl,by omega,?_,?_,?_⟩,hkp⟩
 ·have e:(us++List.replicate (n-j) (Value.slice none 0 0)).set j (Value.slice A' xs.length c')=us++[Value.slice A' xs.length c']++List.replicate (n-(j+1)) (Value.slice none 0 0):=by
   rw [show n-j=(n-(j+1))+1 from by omega,List.replicate_succ,List.set_append_right _ _ (by rw [hul];exact Nat.le_refl _),hul,Nat.sub_self,List.set_cons_zero]
   simp
  rw [e] at hst
  exact hst
 ·intro k u1 xs1 h1 h2
  rcases Nat.lt_or_ge k us.length with hk|hk
  ·rw [List.getElem?_append_left hk] at h1
   have h3:=hrows k u1 xs1 h1 h2
   refine ((h3.grow hb).apart hkp (fun g hg=>?_)).wide (Nat.le_refl _) (by omega) (Nat.le_refl _)
   have h4:=(h3.1.lt g hg).1
   omega
  ·have hk':k=us.length:=by
    rcases Nat.lt_or_ge k (us++[Value.slice A' xs.length c']).length with h|h
    ·simp at h;omega
    ·rw [List.getElem?_eq_none h] at h1;cases h1
   subst hk'
   rw [List.getElem?_append_right (Nat.le_refl _),Nat.sub_self] at h1
   injection h1 with h1
   subst h1
   rw [hul,hx] at h2
   injection h2 with h2
   subst h2
   exact (hfr.keep hkp (.inr (by omega))).wide (by omega) (by omega) (Nat.le_refl _)
 ·intro i1 j1 u1 u2 hne h1 h2 g hg1 hg2
  have hold:∀(k:Nat) (u1:Value),us[k]? = some u1→∀g,u1.ownBlock=some g→g<wr.heap.size:=by
   intro k u1 h1 g hg
   obtain ⟨hk,_⟩:=List.getElem?_eq_some_iff.1 h1
   have h2:xss[k]? = some xss[k]!:=by
    rw [getElem!_pos xss k (by omega)]
    exact List.getElem?_eq_getElem _
   exact (hrows k u1 _ h1 h2).2.1 g hg
  have hnew:∀g,(Value.slice A' xs.length c').ownBlock=some g→wr.heap.size≤g:=fun g hg=>(hfr.1.lt g hg).1
  have hcase:∀(k:Nat) (u1:Value),(us++[Value.slice A' xs.length c'])[k]? = some u1→(us[k]? = some u1∧k<us.length)∨(u1=.slice A' xs.length c'∧k=us.length):=by
   intro k u1 h1
   rcases Nat.lt_or_ge k us.length with hk|hk
   ·rw [List.getElem?_append_left hk] at h1;exact .inl ⟨h1,hk⟩
   ·have hk':k=us.length:=by
     rcases Nat.lt_or_ge k (us++[Value.slice A' xs.length c']).length with h|h
     ·simp at h;omega
     ·rw [List.getElem?_eq_none h] at h1;cases h1
    subst hk'
    rw [List.getElem?_append_right (Nat.le_refl _),Nat.sub_self] at h1
    injection h1 with h1
    exact .inr ⟨h1.symm,rfl⟩
  rcases hcase i1 u1 h1 with ⟨a1,b1⟩|⟨a1,b1⟩<;>rcases hcase j1 u2 h2 with ⟨a2,b2⟩|⟨a2,b2⟩
  ·exact hap i1 j1 u1 u2 hne a1 a2 g hg1 hg2
  ·subst a2;have:=hold i1 u1 a1 g hg1;have:=hnew g hg2;omega
  ·subst a1;have:=hold j1 u2 a2 g hg2;have:=hnew g hg1;omega
  ·omega
theorem FillS.done {lo:Nat}{wr:World}{n:Nat}{us:List Value}{xss:List (List Int)} (h:FillS lo wr n n us xss):OwS wr lo wr.heap.size (.slice (some ⟨lo,0,none⟩) n n) xss:=by
 obtain ⟨hul,hxl,hsz,hown,hrows,hap⟩:=h
 refine ⟨us,by omega,by rw [hxl];simpa using hown,fun g hg=>?_,by omega,Nat.le_refl _,fun k u xs h1 h2=>(hrows k u xs h1 h2).wide (by omega) (Nat.le_refl _) (Nat.le_refl _),hap⟩
 simp only [Value.ownBlock,Option.some.injEq] at hg;omega
theorem FillS.zero {w:World}{n:Nat}{xss:List (List Int)}{w':World} (hxl:xss.length=n) (hown:w'.ownsRow w.heap.size 25 1 (.slice (some ⟨w.heap.size,0,none⟩) n n) n (List.replicate n (.slice none 0 0))) (hsz:w'.heap.size=w.heap.size+1):FillS w.heap.size w' n 0 [] xss:=
 ⟨rfl,hxl,by omega,by simpa using hown,by simp,by simp⟩
theorem OwS.drewN {w:World}{lo hi:Nat}{v:Value}{xss:List (List Int)} (h:OwS w lo hi v xss) (q:Nat):OwS (w.drewN q) lo hi v xss:=h
theorem OwS.top {w:World}{lo hi h':Nat}{v:Value}{xss:List (List Int)} (h:OwS w lo hi v xss) (h1:hi≤h') (h2:h'≤w.heap.size):OwS w lo h' v xss:=by
 obtain ⟨vs,a,b,c,d,e,f,g⟩:=h
 exact ⟨vs,a,b,fun x hx=>Nat.lt_of_lt_of_le (c x hx) h1,by omega,h2,fun k u xs p q=>(f k u xs p q).wide (Nat.le_refl _) h1 h2,g⟩
theorem OwS.cellAt {w:World}{lo hi n c:Nat}{A:Option Addr}{xss:List (List Int)} (h:OwS w lo hi (.slice A n c) xss) {a b:Nat}{xs:List Int} (hx:xss[a]? = some xs) (hb:b<xs.length):
  ∃g g1 c1 x,A=some ⟨g,0,none⟩∧a<n∧n≤c∧w.cell? ⟨g,a,none⟩=some (.slice (some ⟨g1,0,none⟩) xs.length c1)∧xs.length≤c1∧xs[b]? = some x∧w.cell? ⟨g1,b,none⟩=some (.int .i64 x)∧w.frozen? ⟨g1,b,none⟩=false ∧
   ∀y,OwS (w.setCell ⟨g1,b,none⟩ (.int .i64 y)) lo hi (.slice A n c) (xss.set a (xs.set b y))∧Keep lo hi w (w.setCell ⟨g1,b,none⟩ (.int .i64 y)):=by
 have ha:a<xss.length:=(List.getElem?_eq_some_iff.1 hx).1
 obtain ⟨A',c',he,hcl,_⟩:=h.form
 injection he with e1 e2 e3
 subst e1;subst e2;subst e3
 obtain ⟨g,u,xs',l,h',rfl,hx',hcell,a1,a2,a3,hfr,hset⟩:=h.rowAt ha
 rw [hx] at hx'
 injection hx' with hx'
 subst hx'
 obtain ⟨A1,c1,rfl,hc1,_⟩:=hfr.form
 obtain ⟨g1,x,rfl,hg1,hg2,hxb,hc,hf,hst⟩:=hfr.at_ hb
 refine ⟨g,g1,c1,x,rfl,ha,hcl,hcell,hc1,hxb,hc,hf,fun y=>?_⟩
 have hs:=hst y
 exact ⟨hset _ _ (by rw [List.length_set]) hs.1 hs.2,hs.2.wide a1 a3⟩
theorem appS {ops:Array Oper}{rest:List Oper}{o:Oper}{a:Act}{Q:Exit→Act→World→Prop} (hgd:o.guard=none) (s y:Operand)
  (ho:o.op=.call { callee:=.builtin .append,args:=#[s,y],argTypes:=#[67,67] })
  (w:World) (base:Nat) (v:Value) (n:Nat) (vs:List Value) (hs:a.eval s=v) (hown:w.ownsRow base 25 1 v n vs) (A:Option Addr) (m c:Nat)
  (hx:a.eval y=.slice (some ⟨w.heap.size,0,none⟩) 1 1) (hl:n≤1048576) (hbase:base≤w.heap.size)
  (h:∀v' w',w'.ownsRow base 25 1 v' (n+1) (vs++[.slice A m c])→(∀B,B≤base→B≤w.heap.size→Below B w w')→w.heap.size<w'.heap.size→w.grownBy w' v.ownBlock→wpList Tryz.prog ops Q rest (a.put o.dst v') w'):
  wpList Tryz.prog ops Q (o :: rest) a (w.alloc (.cells #[.slice A m c] 25)):=by
 obtain ⟨i0,hi,hz0,hz1,hz2⟩:=info_parts infoIS
 refine wpList_append_own _ hgd s y _ ho base 25 i0 (.slice none 0 0) 1 24 Tryz.underlying67 hi hz0 hz1 hz2 rfl (by decide) v n vs hs (hown.alloc _) ⟨w.heap.size,0,none⟩ 1 1 [.slice A m c] hx rfl ?_ ?_ (by unfold maxLen;omega) (by omega) (by simp;omega) ?_
 ·intro j u hj
  match j,hj with
  | 0,hj=>simp at hj;subst hj;simp [Addr.add]
 ·intro u hu;simp at hu;subst hu;rfl
 ·intro v' w' h2 h3 _
  have hsz:=h3.size
  simp only [World.size_alloc] at hsz
  refine h v' w' h2 (fun B h4 h5=>?_) (by omega) ?_
  ·refine ((Below.refl B w).alloc h5 _).grown h3 (by simp;omega) (fun k hk=>?_)
   have:=(hown.lt k hk).1;omega
  ·exact ⟨h3.os,h3.tape,h3.output,by omega,fun k hk hne=>by rw [h3.block k (by simp;omega) hne];exact Below.heap_alloc _ _ _ hk⟩
theorem OwS.pushed {wr w1:World}{lo:Nat}{v u:Value}{xss:List (List Int)}{xs:List Int} (h:OwS wr lo wr.heap.size v xss) (hb:Below wr.heap.size wr w1) (hu:Fr w1 wr.heap.size w1.heap.size u xs):
  ∃vs,w1.ownsRow lo 25 1 v xss.length vs∧∀v' w2,w2.ownsRow lo 25 1 v' (xss.length+1) (vs++[u])→w1.grownBy w2 v.ownBlock→OwS w2 lo w2.heap.size v' (xss++[xs]):=by
 have h1:=h.grow hb
 obtain ⟨vs,a,b,c,d,e,f,g⟩:=h1
 exact ⟨vs,b,fun v' w2 ho hg=>OwS.push (w:=wr) d b a (fun k y ys p q=>(f k y ys p q)) g hu hb.size ho hg⟩
def ByI (w:World) (A:Option Addr) (n:Nat):Prop:=n=0∨∃b off,A=some ⟨b,off,none⟩∧∀k,k<n→∃x:Int,0≤x∧x≤255∧w.cell? ⟨b,off+k,none⟩=some (.int .u8 x)
theorem ByI.at_ {w:World}{A:Option Addr}{n k:Nat} (h:ByI w A n) (hk:k<n):∃b off x,A=some ⟨b,off,none⟩∧0≤x∧x≤255∧w.cell? ⟨b,off+k,none⟩=some (.int .u8 x)∧b<w.heap.size:=by
 rcases h with rfl|⟨b,off,rfl,h⟩
 ·omega
 ·obtain ⟨x,h0,h1,h2⟩:=h k hk
  exact ⟨b,off,x,rfl,h0,h1,h2,block_lt_of_cell h2⟩
theorem ByI.keep {w w':World}{A:Option Addr}{n:Nat} (h:ByI w A n) (hk:∀p:Addr,p.block<w.heap.size→∀x:Int,w.cell? p=some (.int .u8 x)→w'.cell? p=some (.int .u8 x)):ByI w' A n:=by
 rcases h with rfl|⟨b,off,rfl,h⟩
 ·exact .inl rfl
 ·refine .inr ⟨b,off,rfl,fun k hk'=>?_⟩
  obtain ⟨x,h0,h1,h2⟩:=h k hk'
  exact ⟨x,h0,h1,hk _ (block_lt_of_cell h2) x h2⟩
theorem ByI.below {w w':World}{A:Option Addr}{n:Nat} (h:ByI w A n) (hb:Below w.heap.size w w'):ByI w' A n:=h.keep fun _ hp _ hx=>(hb.cell hp).trans hx
def InB (w:World) (v:Value) (n:Nat):Prop:=∃A c,v=.slice A n c∧n≤c∧c≤maxLen∧ByI w A n
theorem InB.below {w w':World}{v:Value}{n:Nat} (h:InB w v n) (hb:Below w.heap.size w w'):InB w' v n:=by
 obtain ⟨A,c,rfl,h1,h2,h3⟩:=h;exact ⟨A,c,rfl,h1,h2,h3.below hb⟩
theorem and_rng (x:Int) (m:Nat) (hm:m<9223372036854775808):0≤bits BinOp.and IntKind.i64 x (m:Int)∧bits BinOp.and IntKind.i64 x (m:Int)≤m:=by
 have h1:(BitVec.ofInt 64 (m:Int)).toNat=m:=by rw [BitVec.ofInt_natCast,BitVec.toNat_ofNat];exact Nat.mod_eq_of_lt (by omega)
 have h2:(BitVec.ofInt 64 x &&& BitVec.ofInt 64 (m:Int)).toNat≤m:=by rw [BitVec.toNat_and,h1];exact Nat.and_le_right
 show 0≤IntKind.i64.wrap _∧IntKind.i64.wrap _≤_
 have h3:bits BinOp.and IntKind.i64 x (m:Int)=IntKind.i64.wrap (((BitVec.ofInt 64 x &&& BitVec.ofInt 64 (m:Int)).toNat:Nat):Int):=rfl
 rw [IntKind.wrap_i64] at h3
 show 0≤bits BinOp.and IntKind.i64 x (m:Int)∧bits BinOp.and IntKind.i64 x (m:Int)≤m
 rw [h3]
 omega
theorem and_255 (x:Int):0≤bits BinOp.and IntKind.i64 x 255∧bits BinOp.and IntKind.i64 x 255≤255:=and_rng x 255 (by decide)
theorem and_big (x:Int):0≤bits BinOp.and IntKind.i64 x 1073741823∧bits BinOp.and IntKind.i64 x 1073741823≤1073741823:=and_rng x 1073741823 (by decide)
structure Cur (w:World) (p:Nat) (v:Value) (n:Nat):Prop where
 b:w.cell? ⟨p,0,none⟩=some v
 i:∃i:Nat,i≤n∧w.cell? ⟨p,1,none⟩=some (.int .i64 (i:Int))
 h:∃h:Int,w.cell? ⟨p,2,none⟩=some (.int .i64 h)
 f1:w.frozen? ⟨p,1,none⟩=false
 f2:w.frozen? ⟨p,2,none⟩=false
 lt:p<w.heap.size
 inb:InB w v n
theorem byI_setCell {w:World}{A:Option Addr}{n p k:Nat}{y u:Value} (h:ByI w A n) (hp:w.cell? ⟨p,k,none⟩=some y) (hy:∀x:Int,y≠.int .u8 x):ByI (w.setCell ⟨p,k,none⟩ u) A n:=by
 refine h.keep fun q hq x hx=>?_
 rw [World.cell?_setCell_other _ _ _ _ (fun e=>by rw [←e,hp] at hx;injection hx with hx;exact hy x hx)]
 exact hx
theorem Cur.set1 {w:World}{p n:Nat}{v:Value} (h:Cur w p v n) {j:Nat} (hj:j≤n):Cur (w.setCell ⟨p,1,none⟩ (.int .i64 (j:Int))) p v n:=by
 obtain ⟨i,_,hi⟩:=h.i
 obtain ⟨hh,h2⟩:=h.h
 obtain ⟨A,c,rfl,h1,h3,h4⟩:=h.inb
 exact ⟨(World.cell?_setCell_other _ _ _ _ (by simp)).trans h.b,⟨j,hj,World.cell?_setCell_same _ _ _ hi⟩,⟨hh,(World.cell?_setCell_other _ _ _ _ (by simp)).trans h2⟩,by rw [World.frozen?_setCell];exact h.f1,by rw [World.frozen?_setCell];exact h.f2,by have:=h.lt;simpa [World.setCell] using this,
  A,c,rfl,h1,h3,byI_setCell h4 hi (fun x=>by simp)⟩
theorem Cur.set2 {w:World}{p n:Nat}{v:Value} (h:Cur w p v n) (y:Int):Cur (w.setCell ⟨p,2,none⟩ (.int .i64 y)) p v n:=by
 obtain ⟨i,hi0,hi⟩:=h.i
 obtain ⟨hh,h2⟩:=h.h
 obtain ⟨A,c,rfl,h1,h3,h4⟩:=h.inb
 exact ⟨(World.cell?_setCell_other _ _ _ _ (by simp)).trans h.b,⟨i,hi0,(World.cell?_setCell_other _ _ _ _ (by simp)).trans hi⟩,⟨y,World.cell?_setCell_same _ _ _ h2⟩,by rw [World.frozen?_setCell];exact h.f1,by rw [World.frozen?_setCell];exact h.f2,by have:=h.lt;simpa [World.setCell] using this,
  A,c,rfl,h1,h3,byI_setCell h4 h2 (fun x=>by simp)⟩
theorem Cur.drewN {w:World}{p n:Nat}{v:Value} (h:Cur w p v n) (q:Nat):Cur (w.drewN q) p v n:=⟨h.b,h.i,h.h,h.f1,h.f2,h.lt,h.inb⟩
theorem l01New_any (v:Value) (n:Nat) (w:World) (hv:InB w v n) (hn:n≤1048576):
  Calls Tryz.prog 24 #[v] w fun e w'=>e=.returned (.pointer (some ⟨w.heap.size,0,none⟩))∧Cur w' w.heap.size v n∧Below w.heap.size w w':=by
 have HV:=Lib.hid hv
 obtain ⟨A,c,rfl,hc,hm,hb⟩:=hv
 have HB:=Lib.hid hb
 clear hb
 unfold maxLen at hm
 go_enter Tryz.func24,Tryz.ntmps24
 go_wp2
 go_loop [3,4] (fun hv i=>∃(hh:Int) (q:Nat),q≤n∧0≤hh∧hh≤1073741823∧hv=.int .i64 hh∧i=.int .i64 q) (fun _ i=>n-(intOf i).toNat)
 case atStart=>exact ⟨2142+n,0,Nat.zero_le _,by omega,by omega,rfl,rfl⟩
 case round=>
  obtain ⟨hh,q,hq,h0,h1,rfl,rfl⟩:=hrel
  by_cases hlt:q<n
  case neg=>
   obtain rfl:n=q:=by omega
   go_wp2
   go_ret
   refine ⟨rfl,⟨by simp,⟨0,Nat.zero_le _,by simp⟩,⟨hh,by simp⟩,by simp,by simp,by simp,HV.out.below ((Below.refl _ w).alloc (Nat.le_refl _) _)⟩,(Below.refl _ w).alloc (Nat.le_refl _) _⟩
  by_cases h4:q<4000
  case neg=>
   go_wp2
   go_ret
   refine ⟨rfl,⟨by simp,⟨0,Nat.zero_le _,by simp⟩,⟨hh,by simp⟩,by simp,by simp,by simp,HV.out.below ((Below.refl _ w).alloc (Nat.le_refl _) _)⟩,(Below.refl _ w).alloc (Nat.le_refl _) _⟩
  obtain ⟨b,off,x,rfl,hx0,hx1,hcx,_⟩:=HB.out.at_ hlt
  have hr:=and_big (hh*163+x+7)
  go_wp2
  go_round
  case rel=>exact ⟨_,q+1,by omega,hr.1,hr.2,rfl,by go_num⟩
  case measure=>simp [intOf];omega
theorem Cur.keep1 {w:World}{p n:Nat}{v:Value} (h:Cur w p v n) {j:Nat} (hj:j≤n):Cur (w.setCell ⟨p,1,none⟩ (.int .i64 (j:Int))) p v n∧Keep p (p+1) w (w.setCell ⟨p,1,none⟩ (.int .i64 (j:Int))):=
 ⟨h.set1 hj,Keep.setCell (p:=⟨p,1,none⟩) (Keep.refl p (p+1) w) (Nat.le_refl p) (Nat.lt_succ_self p) _⟩
theorem Cur.keep2 {w:World}{p n:Nat}{v:Value} (h:Cur w p v n) (y:Int):Cur (w.setCell ⟨p,2,none⟩ (.int .i64 y)) p v n∧Keep p (p+1) w (w.setCell ⟨p,2,none⟩ (.int .i64 y)):=
 ⟨h.set2 y,Keep.setCell (p:=⟨p,2,none⟩) (Keep.refl p (p+1) w) (Nat.le_refl p) (Nat.lt_succ_self p) _⟩
theorem l01Byte_any (p:Nat) (v:Value) (n:Nat) (w:World) (hc:Cur w p v n) (_hn:n≤1048576):
  Calls Tryz.prog 34 #[.pointer (some ⟨p,0,none⟩)] w fun e w'=>∃x:Int,(0≤x∧x≤255)∧e=.returned (.int .i64 x)∧Cur w' p v n∧Keep p (p+1) w w':=by
 have HN:Hid (∀y:Int,Cur (w.setCell ⟨p,2,none⟩ (.int .i64 y)) p v n∧Keep p (p+1) w (w.setCell ⟨p,2,none⟩ (.int .i64 y))):=fun y=>hc.keep2 y
 obtain ⟨h,hh⟩:=hc.h
 have hf2:=hc.f2
 clear hc
 go_enter Tryz.func34,Tryz.ntmps34
 go_wp2
 obtain ⟨hc1,hk1⟩:=HN.out (wrap64 (wrap64 (h*6364136223846793005)+1442695040888963407))
 generalize w.setCell ⟨p,2,none⟩ (Value.int IntKind.i64 (wrap64 (wrap64 (h*6364136223846793005)+1442695040888963407)))=w1 at hc1 hk1 ⊢
 have HC:=Lib.hid hc1
 have HK:=Lib.hid hk1
 obtain ⟨i,hi,hci⟩:=hc1.i
 obtain ⟨h',hh'⟩:=hc1.h
 have hcb:=hc1.b
 obtain ⟨A,c,rfl,hle,hmx,HB⟩:=hc1.inb
 have HB:=Lib.hid HB
 have hf1:=hc1.f1
 unfold maxLen at hmx
 clear hc1 hk1 hh hf2 HN
 go_quiet (fail)
 go_wp2
 go_quiet (fail)
 by_cases hlt:i<n
 case neg=>
  go_wp2
  go_ret
  exact ⟨_,and_255 _,rfl,(HC.out.drewN _).drewN _,(HK.out.drewN _).drewN _⟩
 obtain ⟨b,off,x,rfl,hx0,hx1,hcx,_⟩:=HB.out.at_ hlt
 have hx:=and_255 (bits BinOp.xor IntKind.i64 (h'/8589934592) (h'/35184372088832))
 go_wp2
 generalize bits BinOp.and IntKind.i64 (bits BinOp.xor IntKind.i64 (h'/8589934592) (h'/35184372088832)) 255=y at hx ⊢
 go_quiet (fail)
 have hy:=and_255 (y+x)
 go_wp2
 go_ret
 exact ⟨_,hy,rfl,(Cur.keep1 (HC.out.drewN _) (j:=i+1) hlt).1,(HK.out.drewN _).trans (Cur.keep1 (HC.out.drewN _) (j:=i+1) hlt).2⟩
theorem l32New_any (v:Value) (n m:Nat) (w:World) (hv:InB w v n) (hn:n≤1048576) (hm:m≤1048576):
  Calls Tryz.prog 33 #[v,.int .i64 (m:Int)] w fun e w'=>e=.returned (.pointer (some ⟨w.heap.size,0,none⟩))∧Cur w' w.heap.size v n∧Below w.heap.size w w':=by
 have HV:=Lib.hid hv
 clear hv
 go_enter Tryz.func33,Tryz.ntmps33
 go_wp2_with (go_at_call 24;refine (l01New_any v n w HV.out hn).mono ?_;rintro e w1 ⟨rfl,hc,hb⟩;have HC:Hid (Cur w1 w.heap.size v n∧Below w.heap.size w w1):=⟨hc,hb⟩;clear hc hb)
 go_loopw [6] (fun i wr=>∃q:Nat,q≤m∧i=.int .i64 q∧Hid (Cur wr w.heap.size v n∧Below w.heap.size w wr)) (fun i _=>m-(intOf i).toNat)
 case atStart=>exact ⟨0,Nat.zero_le _,rfl,HC⟩
 case round=>
  obtain ⟨q,hq,rfl,HR⟩:=hrel
  by_cases hlt:q<m
  case neg=>
   go_wp2
   go_ret
   exact ⟨rfl,HR.out.1,HR.out.2⟩
  go_wp2_with (go_at_call 34;refine (l01Byte_any w.heap.size v n _ HR.out.1 hn).mono ?_;rintro e w2 ⟨x,hx,rfl,hc2,hk2⟩;have H2:Hid (Cur w2 w.heap.size v n∧Below w.heap.size w w2):=⟨hc2,HR.out.2.trans (hk2.below (Nat.le_refl _) (Nat.le_of_lt HR.out.1.lt))⟩;clear hc2 hk2)
  go_round
  case rel=>exact ⟨q+1,by omega,by go_num,H2⟩
  case measure=>simp [intOf];omega
theorem makeNum_any (v:Value) (n m:Nat) (w:World) (hv:InB w v n) (hn:n≤1048576) (hm:m≤1048576):
  Calls Tryz.prog 12 #[v,.int .i64 (m:Int)] w fun e w'=>∃q:Nat,q≤65535∧e=.returned (.int .i64 (q:Int))∧Below w.heap.size w w':=by
 have HV:=Lib.hid hv
 clear hv
 go_enter Tryz.func12,Tryz.ntmps12
 go_wp2_with (first
  | (go_at_call 33;refine (l32New_any v n m w HV.out hn hm).mono ?_;rintro e w1 ⟨rfl,hc,hb⟩;have HC:Hid (Cur w1 w.heap.size v n∧Below w.heap.size w w1):=⟨hc,hb⟩;clear hc hb)
  | (go_at_call 34;refine (l01Byte_any w.heap.size v n _ HC.out.1 hn).mono ?_;rintro e w2 ⟨x,hx,rfl,hc2,hk2⟩;have H2:Hid (Cur w2 w.heap.size v n∧Below w.heap.size w w2):=⟨hc2,HC.out.2.trans (hk2.below (Nat.le_refl _) (Nat.le_of_lt HC.out.1.lt))⟩;clear hc2 hk2 HC)
  | (go_at_call 34;refine (l01Byte_any w.heap.size v n _ H2.out.1 hn).mono ?_;rintro e w3 ⟨y,hy,rfl,hc3,hk3⟩;have H3:Hid (Cur w3 w.heap.size v n∧Below w.heap.size w w3):=⟨hc3,H2.out.2.trans (hk3.below (Nat.le_refl _) (Nat.le_of_lt H2.out.1.lt))⟩;clear hc3 hk3 H2))
 go_ret
 exact ⟨(x*256+y).toNat,by omega,by go_num,H3.out.2⟩
def fsts (x:TourV) (s:Nat):List Int:=(tabF x s).map (·.1)
def snds (x:TourV) (s:Nat):List Int:=(tabF x s).map (·.2)
theorem fsts_len (x:TourV) (s:Nat):(fsts x s).length=s:=by rw [fsts,List.length_map,tabF_len]
theorem snds_len (x:TourV) (s:Nat):(snds x s).length=s:=by rw [snds,List.length_map,tabF_len]
theorem fsts_succ (x:TourV) (s:Nat):fsts x (s+1)=fsts x s++[(entF x (tabF x s) s).1]:=by simp [fsts,tabF]
theorem snds_succ (x:TourV) (s:Nat):snds x (s+1)=snds x s++[(entF x (tabF x s) s).2]:=by simp [snds,tabF]
theorem fsts_at {x:TourV}{t s:Nat} (h:t<s):(fsts x s)[t]? = some ((tabF x s).getD t (0,0)).1:=by
 rw [fsts,List.getElem?_map,List.getD_eq_getElem?_getD,tabF_at x h];rfl
theorem snds_at {x:TourV}{t s:Nat} (h:t<s):(snds x s)[t]? = some ((tabF x s).getD t (0,0)).2:=by
 rw [snds,List.getElem?_map,List.getD_eq_getElem?_getD,tabF_at x h];rfl
theorem bit_ge' {s n a:Nat} (hs:s<2^n) (ha:n≤a):s.testBit a=false:=Nat.testBit_lt_two_pow (Nat.lt_of_lt_of_le hs (Nat.pow_le_pow_right (by omega) ha))
structure InF (x:TourV) (s j:Nat) (p:Int × Int) (a Q L M C:Nat) (K z z':Int):Prop where
 a8:a<8
 an:a<x.wins.length
 ls:L<s
 hL:Hid (s-2^a=L)
 hQ:Hid ((2:Int)^a=(Q:Int))
 e1:Hid (wrap64 ((2:Int)^a)=(Q:Int))
 Q8:Q≤256
 eL:(s:Int)-(Q:Int)=(L:Int)
 w8:winN x a<256
 hM:Hid (bits BinOp.andNot IntKind.i64 (L:Int) (winN x a:Int)=(M:Int))
 M8:M<256
 hC:Hid (cntL M=C)
 hN:Hid (costN x a s=C)
 ez:(fsts x s)[L]? = some z
 ez':(snds x s)[L]? = some z'
 z0:0≤z
 z1:z≤64
 z2:0≤z'
 z3:z'≤16777216
 hK:Hid (IntKind.i64.wrap (z+(C:Int))=K)
 hK':Hid (IntKind.i64.wrap ((C:Int)+z)=K)
 K0:0≤K
 K1:K≤72
 C8:C≤8
 fo:Hid (((memL s).take (j+1)).foldl (stepM x (tabF x s) s) (-1,0)=stepC p K z')
 hp:(p.1 = -1∧p.2=0)∨(0≤p.1∧p.1≤72∧0≤p.2∧p.2≤(j:Int)*16777216)
theorem inFacts {x:TourV}{s j:Nat}{p:Int × Int}{y:Int} (hok:tourB x=true) (hs256:s<256) (hsp:s<2^x.wins.length) (hj:j<(memL s).length)
  (ey:(memL s)[j]? = some y) (HP:p=((memL s).take j).foldl (stepM x (tabF x s) s) (-1,0)) {w:World}{A:Option Addr} (hsl:SlI w A x.wins):
  ∃(a Q L M C:Nat) (K z z':Int),y=(a:Int)∧InF x s j p a Q L M C K z z':=by
 have hj8:(memL s).length≤8:=by rw [memL_len];exact cntL_le _
 obtain ⟨a,rfl,ha8,hba⟩:=memT_mem.1 (List.mem_of_getElem? ey)
 have hfb:=fold_bd (x:=x) hs256 j (by omega)
 rw [←HP] at hfb
 have HSN:=fold_snoc (x:=x) (l:=tabF x s) (s:=s) ey
 have han:a<x.wins.length:=by
  rcases Nat.lt_or_ge a x.wins.length with h|h
  ·exact h
  ·rw [bit_ge' hsp h] at hba;cases hba
 have hle:2^a≤s:=(sub_all ⟨s,hs256⟩ ⟨a,ha8⟩ hba).1
 have hq0:0<2^a:=Nat.pow_pos (by omega)
 obtain ⟨b5,o5,rfl,qw0,hlw,hW2,hWb⟩:=win_at hok hsl han
 have hlt4:s-2^a<s:=by omega
 have ez:=fsts_at (x:=x) hlt4
 have ez':=snds_at (x:=x) hlt4
 have hCE:=cost_eq hok han hsp hba hW2 hWb
 have hn8:x.wins.length≤8:=by obtain ⟨t1,t2,t3,_,_⟩:=tourB_t hok;omega
 have hW256:winN x a<256:=Nat.lt_of_lt_of_le hW2 (Nat.pow_le_pow_right (by omega) hn8)
 have hent:=entF_ok x (s-2^a) (by omega)
 have hgd:(tabF x s).getD (s-2^a) (0,0)=entF x (tabF x (s-2^a)) (s-2^a):=by rw [List.getD_eq_getElem?_getD,tabF_at x hlt4];rfl
 have hstep:stepM x (tabF x s) s p (a:Int)=stepC p ((costN x a s:Int)+((tabF x s).getD (s-2^a) (0,0)).1) ((tabF x s).getD (s-2^a) (0,0)).2:=by rw [stepM,Int.toNat_natCast]
 have hz0:=hent.lo
 have hz1:=hent.hi
 have hz2:=hent.w0
 have hz3:(entF x (tabF x (s-2^a)) (s-2^a)).2≤16777216:=by
  have h1:∀c:Fin 9,(8:Int)^c.val≤16777216:=by decide
  exact Int.le_trans hent.w1 (h1 ⟨cntL (s-2^a),Nat.lt_succ_of_le (cntL_le _)⟩)
 have hcl:=cntL_le (s-2^a)
 have hcn:=costN_le x a s
 rw [←hgd] at hz0 hz1 hz2 hz3
 rw [←HP,hstep] at HSN
 have hM256:(s-2^a) &&& (255 ^^^ winN x a)<256:=Nat.lt_of_le_of_lt Nat.and_le_left (by omega)
 have hM:=andNot_small (s:=s-2^a) (w:=winN x a) (by omega) hW256
 have hQ2:(2:Int)^a=((2^a:Nat):Int):=by rw [Int.natCast_pow];rfl
 generalize ((tabF x s).getD (s-2^a) (0,0)).1=z at *
 generalize ((tabF x s).getD (s-2^a) (0,0)).2=z' at *
 generalize (s-2^a) &&& (255 ^^^ winN x a)=M at *
 obtain ⟨C,hCo⟩:∃C,costN x a s=C:=⟨_,rfl⟩
 rw [hCo] at hCE hcn HSN
 have hzz:z≤64:=by omega
 have hC8:C≤8:=hcn
 clear hent hgd hstep hcl hz1 qw0 hsl hWb hW2
 have hE1:wrap64 ((2:Int)^a)=((2^a:Nat):Int):=by
  rw [hQ2]
  clear hM hQ2
  generalize 2^a=Q at *
  unfold wrap64;omega
 have hK:IntKind.i64.wrap (z+(C:Int))=z+C:=by clear hM hE1 hQ2;rw [IntKind.wrap_i64];omega
 have HM:=Lib.hid hM
 have HQ2:=Lib.hid hQ2
 have HE1:=Lib.hid hE1
 have HK:=Lib.hid hK
 clear hM hQ2 hE1 hK
 have hQ8:2^a≤256:=by omega
 have heL:(s:Int)-((2^a:Nat):Int)=((s-2^a:Nat):Int):=by clear hfb hcn;omega
 have hK0:0≤z+(C:Int):=by omega
 have hK1:z+(C:Int)≤72:=by omega
 refine ⟨a,2^a,s-2^a,M,C,z+C,z,z',rfl,ha8,han,hlt4,Lib.hid rfl,HQ2,HE1,hQ8,heL,hW256,HM,hM256,Lib.hid hCE,Lib.hid hCo,ez,ez',hz0,hzz,hz2,hz3,HK,?_,hK0,hK1,hC8,?_,?_⟩
 ·show Hid _
  rw [Int.add_comm];exact HK
 ·show Hid _
  rw [Int.add_comm];exact Lib.hid HSN
 ·rcases hfb with h|h
  ·rw [h];exact .inl ⟨rfl,rfl⟩
  ·exact .inr h
end Go.Proofs.YtkapoldjcpfdgaaGreatDoor
