/- Tours: when a tour is valid; who beats whom. -/
import Derived.Deep.RegionHeld3
import Derived.Deep.Cut
import Derived.Deep.CutRange
import Derived.Test.YtkapoldjcpfdgaaGreatDoorMaa
set_option maxHeartbeats 8000000
set_option maxRecDepth 100000
namespace Go.Proofs.YtkapoldjcpfdgaaGreatDoor
open Go.ChangeShapes Go.WideShapes Go.ChangeAt Go.RowKit
def InI (w:World) (v:Value) (xs:List Int):Prop:=∃A c,v=.slice A xs.length c∧xs.length≤c∧c≤maxLen∧SlI w A xs
theorem InI.below {w w':World}{v:Value}{xs:List Int} (h:InI w v xs) (hb:Below w.heap.size w w'):InI w' v xs:=by
 obtain ⟨A,c,rfl,hc,hm,h⟩:=h;exact ⟨A,c,rfl,hc,hm,h.below hb⟩
theorem Fr.in_ {w:World}{lo hi:Nat}{v:Value}{xs:List Int} (h:Fr w lo hi v xs):InI w v xs:=by
 obtain ⟨A,c,rfl,hc,hm⟩:=h.form;exact ⟨A,c,rfl,hc,hm,h.sl⟩
theorem Fr.grow {w w':World}{lo hi:Nat}{v:Value}{xs:List Int} (h:Fr w lo hi v xs) (hb:Below w.heap.size w w'):Fr w' lo hi v xs:=h.below hb h.2.2
def SlV (w:World) (A:Option Addr) (vs:List Value):Prop:=
 vs = []∨∃b off,A=some ⟨b,off,none⟩∧∀k v,vs[k]? = some v→w.cell? ⟨b,off+k,none⟩=some v
theorem SlV.at_ {w:World}{A:Option Addr}{xs:List Value} (h:SlV w A xs) {k:Nat} (hk:k<xs.length):
  ∃b off x,A=some ⟨b,off,none⟩∧xs[k]? = some x∧w.cell? ⟨b,off+k,none⟩=some x∧b<w.heap.size:=by
 rcases h with rfl|⟨b,off,rfl,h⟩
 ·simp at hk
 ·have h0:xs[k]? = some xs[k]:=List.getElem?_eq_getElem hk
  exact ⟨b,off,xs[k],rfl,h0,h k _ h0,block_lt_of_cell (h k _ h0)⟩
theorem SlV.keep {w w':World}{A:Option Addr}{xs:List Value} (h:SlV w A xs) (hk:∀p:Addr,p.block<w.heap.size→w'.cell? p=w.cell? p):SlV w' A xs:=by
 rcases h with rfl|⟨b,off,rfl,h⟩
 ·exact .inl rfl
 ·exact .inr ⟨b,off,rfl,fun k x hx=>by rw [hk _ (block_lt_of_cell (h k x hx))];exact h k x hx⟩
theorem SlV.below {w w':World}{A:Option Addr}{xs:List Value} (h:SlV w A xs) (hb:Below w.heap.size w w'):SlV w' A xs:=h.keep fun _ hp=>hb.cell hp
theorem SlV.of_own {w:World}{lo n c:Nat}{e:TypeId}{A:Option Addr}{vs:List Value} (h:w.ownsRow lo e 1 (.slice A n c) n vs):SlV w A vs:=by
 have hl:vs.length=n:=by simpa using h.1
 rcases h.2 with ⟨he,hn⟩|⟨g,cap,cur,he,_,hh,hc,hm,hs,ht⟩
 ·exact .inl (List.eq_nil_of_length_eq_zero (by omega))
 ·injection he with h1 h2 h3
  subst h1
  refine .inr ⟨g,0,rfl,fun k x hx=>?_⟩
  have hk:k<vs.length:=by
   rcases Nat.lt_or_ge k vs.length with h|h
   ·exact h
   ·rw [List.getElem?_eq_none h] at hx;cases hx
  rw [cell_of_row w g (0+k) cur _ _ hh,Nat.zero_add]
  rw [←ht,List.getElem?_take,if_pos (by omega)] at hx
  simpa using hx
def InS (w:World) (v:Value) (xss:List (List Int)):Prop:=
 ∃(A:Option Addr) (c:Nat) (vs:List Value),v=.slice A xss.length c∧vs.length=xss.length∧xss.length≤c∧c≤maxLen∧SlV w A vs∧∀(k:Nat) (u:Value) (xs:List Int),vs[k]? = some u→xss[k]? = some xs→InI w u xs
theorem InS.below {w w':World}{v:Value}{xss:List (List Int)} (h:InS w v xss) (hb:Below w.heap.size w w'):InS w' v xss:=by
 obtain ⟨A,c,vs,rfl,hl,hc,hm,hv,hr⟩:=h
 exact ⟨A,c,vs,rfl,hl,hc,hm,hv.below hb,fun k u xs h1 h2=>(hr k u xs h1 h2).below hb⟩
theorem InS.at_ {w:World}{A:Option Addr}{n c:Nat}{xss:List (List Int)} (h:InS w (.slice A n c) xss) {k:Nat} (hk:k<xss.length):
  ∃b off u xs,A=some ⟨b,off,none⟩∧xss[k]? = some xs∧w.cell? ⟨b,off+k,none⟩=some u∧InI w u xs∧b<w.heap.size:=by
 obtain ⟨A',c',vs,he,hl,hc,hm,hv,hr⟩:=h
 injection he with h1 h2 h3
 subst h1
 obtain ⟨b,off,u,rfl,hu,hcell,hb⟩:=hv.at_ (k:=k) (by omega)
 have h0:xss[k]? = some xss[k]:=List.getElem?_eq_getElem hk
 exact ⟨b,off,u,xss[k],rfl,h0,hcell,hr k u _ hu h0,hb⟩
def bulk (xss:List (List Int)):Nat:=xss.length+(xss.map List.length).sum
theorem bulk_row {xss:List (List Int)}{k:Nat}{xs:List Int} (h:xss[k]? = some xs):xs.length≤bulk xss:=by
 have hm:xs.length∈xss.map List.length:=List.mem_map.2 ⟨xs,List.mem_of_getElem? h,rfl⟩
 have:∀(l:List Nat) (x:Nat),x∈l→x≤l.sum:=by
  intro l
  induction l with
  | nil=>intro x hx;cases hx
  | cons a l ih=>
   intro x hx
   rw [List.sum_cons]
   rcases List.mem_cons.1 hx with rfl|hx
   ·omega
   ·have:=ih x hx;omega
 have:=this _ _ hm
 unfold bulk;omega
theorem bulk_len (xss:List (List Int)):xss.length≤bulk xss:=by unfold bulk;omega
def OwS (w:World) (lo hi:Nat) (v:Value) (xss:List (List Int)):Prop:=
 ∃(vs:List Value),vs.length=xss.length∧w.ownsRow lo 25 1 v xss.length vs∧(∀g,v.ownBlock=some g→g<hi)∧lo≤hi∧hi≤w.heap.size ∧
  (∀(k:Nat) (u:Value) (xs:List Int),vs[k]? = some u→xss[k]? = some xs→Fr w lo hi u xs)∧∀(i j:Nat) (u u':Value),i≠j→vs[i]? = some u→vs[j]? = some u'→∀g,u.ownBlock=some g→u'.ownBlock≠some g
theorem OwS.form {w:World}{lo hi:Nat}{v:Value}{xss:List (List Int)} (h:OwS w lo hi v xss):∃A c,v=.slice A xss.length c∧xss.length≤c∧c≤maxLen:=by
 obtain ⟨vs,hl,h1,_⟩:=h
 rcases h1.2 with ⟨rfl,hn⟩|⟨g,cap,cur,rfl,_,_,hc,hm,_⟩
 ·exact ⟨none,0,by rw [hn],by omega,by unfold maxLen;omega⟩
 ·exact ⟨_,cap,rfl,hc,hm⟩
theorem OwS.in_ {w:World}{lo hi:Nat}{v:Value}{xss:List (List Int)} (h:OwS w lo hi v xss):InS w v xss:=by
 obtain ⟨A,c,rfl,hc,hm⟩:=h.form
 obtain ⟨vs,hl,h1,h2,h3,h4,h5,h6⟩:=h
 exact ⟨A,c,vs,rfl,hl,hc,hm,SlV.of_own h1,fun k u xs hu hx=>(h5 k u xs hu hx).in_⟩
theorem ownsRow_keep {w w':World}{lo hi l2 h2 n:Nat}{e:TypeId}{v:Value}{vs:List Value} (h:w.ownsRow lo e 1 v n vs) (hg:∀g,v.ownBlock=some g→g<hi) (hs:hi≤w.heap.size) (hk:Keep l2 h2 w w') (hd:hi≤l2∨h2≤lo):
  w'.ownsRow lo e 1 v n vs:=by
 refine ⟨h.1,?_⟩
 rcases h.2 with h1|⟨g,cap,cur,rfl,hb,hh,r⟩
 ·exact .inl h1
 ·have hgh:=hg g rfl
  exact .inr ⟨g,cap,cur,rfl,hb,by rw [hk.block g (by omega) (by omega)];exact hh,r⟩
theorem OwS.keep {w w':World}{lo hi l2 h2:Nat}{v:Value}{xss:List (List Int)} (h:OwS w lo hi v xss) (hk:Keep l2 h2 w w') (hd:hi≤l2∨h2≤lo):OwS w' lo hi v xss:=by
 obtain ⟨vs,hl,h1,h2,h3,h4,h5,h6⟩:=h
 exact ⟨vs,hl,ownsRow_keep h1 h2 h4 hk hd,h2,h3,Nat.le_trans h4 hk.size,fun k u xs hu hx=>(h5 k u xs hu hx).keep hk hd,h6⟩
theorem OwS.grow {w w':World}{lo hi:Nat}{v:Value}{xss:List (List Int)} (h:OwS w lo hi v xss) (hb:Below w.heap.size w w'):OwS w' lo hi v xss:=by
 have h':=h
 obtain ⟨vs,hl,h1,h2,h3,h4,h5,h6⟩:=h
 exact h'.keep (Keep.of_below (lo:=hi) (hi:=hi) hb (Nat.le_refl _)) (.inl (Nat.le_refl _))
theorem OwS.nil (w:World) {lo hi:Nat} (h:hi≤w.heap.size) (h':lo≤hi):OwS w lo hi (.slice none 0 0) []:=
 ⟨[],rfl,World.ownsRow_nil _ _ _ _,fun g hg=>by simp [Value.ownBlock] at hg,h',h,fun k u xs hu=>by simp at hu,fun i j u u' _ hu=>by simp at hu⟩
theorem Fr.tight {w:World}{lo hi:Nat}{u:Value}{xs:List Int} (h:Fr w lo hi u xs) (hle:lo≤hi):
  ∃l h',lo≤l∧l≤h'∧h'≤hi∧Fr w l h' u xs∧∀g,l≤g→g<h'→u.ownBlock=some g:=by
 obtain ⟨h1,h2,h3⟩:=h
 rcases h1.2 with ⟨rfl,hn⟩|⟨g,cap,cur,rfl,hb,r⟩
 ·refine ⟨hi,hi,hle,Nat.le_refl _,Nat.le_refl _,⟨⟨h1.1,.inl ⟨rfl,hn⟩⟩,fun g hg=>by simp [Value.ownBlock] at hg,h3⟩,fun g h4 h5=>by omega⟩
 ·have hgh:=h2 g rfl
  refine ⟨g,g+1,hb,by omega,by omega,⟨⟨h1.1,.inr ⟨g,cap,cur,rfl,Nat.le_refl _,r⟩⟩,fun g' hg'=>?_,by omega⟩,fun g' h4 h5=>?_⟩
  ·simp only [Value.ownBlock,Option.some.injEq] at hg';omega
  ·simp only [Value.ownBlock,Option.some.injEq];omega
theorem Fr.apart {w w':World}{lo hi l2 h2:Nat}{u:Value}{xs:List Int} (h:Fr w lo hi u xs) (hk:Keep l2 h2 w w') (hd:∀g,u.ownBlock=some g→g<l2∨h2≤g):Fr w' lo hi u xs:=by
 obtain ⟨h1,hg,hs⟩:=h
 refine ⟨⟨h1.1,?_⟩,hg,Nat.le_trans hs hk.size⟩
 rcases h1.2 with h1|⟨g,cap,cur,rfl,hb,hh,r⟩
 ·exact .inl h1
 ·have hgh:=hg g rfl
  have hgd:=hd g rfl
  exact .inr ⟨g,cap,cur,rfl,hb,by rw [hk.block g (by omega) hgd];exact hh,r⟩
theorem InI.drewN {w:World}{v:Value}{xs:List Int} (h:InI w v xs) (q:Nat):InI (w.drewN q) v xs:=h
theorem infoIS:(Tryz.prog.info? 25).map (fun i=>(i.zero,i.size,i.bytes))=some (some (.slice none 0 0),1,24):=by kernel_rfl
theorem makeS {ops:Array Oper}{rest:List Oper}{o:Oper}{a:Act}{Q:Exit→Act→World→Prop} (hgd:o.guard=none) (l c:Operand)
  (ho:o.op=Op.makeSlice 67 l c) (w:World) (n:Nat) (hl:a.eval l=.int .i64 n) (hc:a.eval c=.int .i64 n) (hn:n≤1048576)
  (h:∀w',w'.ownsRow w.heap.size 25 1 (.slice (some ⟨w.heap.size,0,none⟩) n n) n (List.replicate n (.slice none 0 0))→Below w.heap.size w w'→w'.heap.size=w.heap.size+1→wpList Tryz.prog ops Q rest (a.put o.dst (.slice (some ⟨w.heap.size,0,none⟩) n n)) w'):
  wpList Tryz.prog ops Q (o :: rest) a w:=by
 obtain ⟨i0,hi,hz0,hz1,hz2⟩:=info_parts infoIS
 refine wpList_plain hgd fun K hK'=>?_
 have hr:=run_make (P:=Tryz.prog) w 67 25 i0 (.slice none 0 0) Tryz.underlying67 hi hz0 .i64 .i64 n n (by omega) (Int.le_refl _) (by rw [hz2];omega) (by omega)
 simp only [Int.toNat_natCast] at hr
 unfold Oper.wp
 simp [execOp,ho,hl,hc,hr,Result.andThen]
 refine hK' _ _ (h _ ?_ ((Below.refl _ w).alloc (Nat.le_refl _) _) (by simp))
 rw [hz1]
 have h1:=World.ownsRow_lit (base:=w.heap.size) (e:=25) (size:=1) w (madeCells (Value.slice none 0 0).cells (n*1)) n (Nat.le_refl _) (by unfold maxLen;omega) (size_madeCells _ _)
 have e:(madeCells (Value.slice none 0 0).cells (n*1)).toList=List.replicate n (.slice none 0 0):=by
  show (madeCells #[Value.slice none 0 0] (n*1)).toList=_
  rw [toList_madeCells_one,Nat.mul_one]
 rw [e] at h1
 exact h1
theorem own_at {w:World}{lo g n c:Nat}{e:TypeId}{vs:List Value} (h:w.ownsRow lo e 1 (.slice (some ⟨g,0,none⟩) n c) n vs) {k:Nat} (hk:k<n) (u:Value):
  (∃x,w.cell? ⟨g,k,none⟩=some x)∧w.frozen? ⟨g,k,none⟩=false∧(w.setCell ⟨g,k,none⟩ u).ownsRow lo e 1 (.slice (some ⟨g,0,none⟩) n c) n (vs.set k u)∧Keep g (g+1) w (w.setCell ⟨g,k,none⟩ u):=by
 have hl:vs.length=n:=by simpa using h.1
 refine ⟨⟨vs[k],?_⟩,h.frozenAt k,(h.stored k u).1,(Keep.refl _ _ _).setCell (p:=⟨g,k,none⟩) (Nat.le_refl _) (Nat.lt_succ_self _) _⟩
 rw [h.cellAt k (by omega)];exact List.getElem?_eq_getElem (by omega)
theorem OwS.rowAt {w:World}{lo hi n c:Nat}{A:Option Addr}{xss:List (List Int)} (h:OwS w lo hi (.slice A n c) xss) {k:Nat} (hk:k<xss.length):
  ∃g u xs l h',A=some ⟨g,0,none⟩∧xss[k]? = some xs∧w.cell? ⟨g,k,none⟩=some u∧lo≤l∧l≤h'∧h'≤hi∧Fr w l h' u xs ∧
   ∀w' ys,ys.length=xs.length→Fr w' l h' u ys→Keep l h' w w'→OwS w' lo hi (.slice A n c) (xss.set k ys):=by
 have hin:=h.in_
 obtain ⟨vs,hl,h1,h2,h3,h4,h5,h6⟩:=h
 obtain ⟨A',c',he,_⟩:∃A' c',Value.slice A n c=.slice A' xss.length c'∧True:=by
  obtain ⟨A',c',_,he,_⟩:=hin;exact ⟨A',c',he,trivial⟩
 injection he with e1 e2 e3
 subst e2
 rcases h1.2 with ⟨he,hn⟩|⟨g,cap,cur,he,hb,hh,r⟩
 ·omega
 ·injection he with e1 e2 e3
  subst e1;subst e3
  have hv0:vs[k]? = some vs[k]:=List.getElem?_eq_getElem (by omega)
  have hx0:xss[k]? = some xss[k]:=List.getElem?_eq_getElem hk
  have hfr:=h5 k _ _ hv0 hx0
  obtain ⟨l,h',a1,a2,a3,a4,a5⟩:=hfr.tight h3
  refine ⟨g,vs[k],xss[k],l,h',rfl,hx0,?_,a1,a2,a3,a4,fun w' ys hy hf hk'=>?_⟩
  ·have:=h1.cellAt k (by omega)
   rw [this];exact hv0
  ·have hg':∀g',l≤g'→g'<h'→g'≠g:=by
    rintro g' b1 b2 rfl
    have hob:=a5 _ b1 b2
    rcases a4.1.2 with ⟨e,_⟩|⟨g2,cap2,cur2,e,_,hh2,_⟩
    ·rw [e] at hob;simp [Value.ownBlock] at hob
    ·rw [e] at hob
     simp only [Value.ownBlock,Option.some.injEq] at hob
     subst hob
     rw [hh] at hh2
     injection hh2 with hh2
     injection hh2 with _ hh2
     exact absurd hh2 (by decide)
   have hgap:g<l∨h'≤g:=by
    rcases Nat.lt_or_ge g l with c1|c1
    ·exact .inl c1
    ·rcases Nat.lt_or_ge g h' with c2|c2
     ·exact absurd rfl (hg' g c1 c2)
     ·exact .inr c2
   refine ⟨vs,by simp [hl],?_,h2,h3,Nat.le_trans h4 hk'.size,?_,h6⟩
   ·rw [List.length_set]
    refine ⟨h1.1,.inr ⟨g,c,cur,rfl,hb,?_,r⟩⟩
    have hgs:g<w.heap.size:=by
     rcases Nat.lt_or_ge g w.heap.size with d|d
     ·exact d
     ·rw [Array.getElem?_eq_none d] at hh;cases hh
    rw [hk'.block g hgs hgap];exact hh
   ·intro i u xs hu hx
    by_cases hik:i=k
    ·subst hik
     rw [List.getElem?_set_self (by omega)] at hx
     injection hx with hx
     subst hx
     rw [hv0] at hu
     injection hu with hu
     subst hu
     exact hf.wide a1 a3 (Nat.le_trans h4 hk'.size)
    ·rw [List.getElem?_set_ne (fun e=>hik e.symm)] at hx
     refine (h5 i u xs hu hx).apart hk' (fun g2 hg2=>?_)
     rcases Nat.lt_or_ge g2 l with c1|c1
     ·exact .inl c1
     ·rcases Nat.lt_or_ge g2 h' with c2|c2
      ·exact absurd (a5 g2 c1 c2) (h6 i k u _ hik hu hv0 g2 hg2)
      ·exact .inr c2
theorem Keep.cell {lo hi:Nat}{w w':World} (h:Keep lo hi w w') {p:Addr} (hp:p.block<w.heap.size) (hd:p.block<lo∨hi≤p.block):w'.cell? p=w.cell? p:=by
 unfold World.cell?
 rw [h.block p.block hp hd]
theorem Keep.frozen {lo hi:Nat}{w w':World} (h:Keep lo hi w w') {p:Addr} (hp:p.block<w.heap.size) (hd:p.block<lo∨hi≤p.block):w'.frozen? p=w.frozen? p:=by
 unfold World.frozen?
 rw [h.block p.block hp hd]
def Bx (w:World) (b:Nat) (x y:Value):Prop:=w.cell? ⟨b,0,none⟩=some x∧w.cell? ⟨b,1,none⟩=some y∧b<w.heap.size
theorem Bx.below {w w':World}{b:Nat}{x y:Value} (h:Bx w b x y) (hb:Below w.heap.size w w'):Bx w' b x y:=
 ⟨(hb.cell (p:=⟨b,0,none⟩) h.2.2).trans h.1,(hb.cell (p:=⟨b,1,none⟩) h.2.2).trans h.2.1,Nat.lt_of_lt_of_le h.2.2 hb.size⟩
theorem Bx.keep {w w':World}{b lo hi:Nat}{x y:Value} (h:Bx w b x y) (hk:Keep lo hi w w') (hd:b<lo∨hi≤b):Bx w' b x y:=
 ⟨(hk.cell (p:=⟨b,0,none⟩) h.2.2 hd).trans h.1,(hk.cell (p:=⟨b,1,none⟩) h.2.2 hd).trans h.2.1,Nat.lt_of_lt_of_le h.2.2 hk.size⟩
theorem Bx.drew {w:World}{b:Nat}{x y:Value} (h:Bx w b x y):Bx w.drew b x y:=h
theorem below_drewL {B:Nat}{a w:World} (h:Below B a w):Below B a w.drew:=⟨h.os,h.tape,h.output,h.size,h.block⟩
theorem Fr.drew {w:World}{lo hi:Nat}{v:Value}{xs:List Int} (h:Fr w lo hi v xs):Fr w.drew lo hi v xs:=h
structure TourV where
 size:Int
 wins:List Int
def InT (w:World) (v:Value) (x:TourV):Prop:=∃u,v=.agg #[.int .i64 x.size,u]∧InI w u x.wins
theorem InT.below {w w':World}{v:Value}{x:TourV} (h:InT w v x) (hb:Below w.heap.size w w'):InT w' v x:=by
 obtain ⟨u,rfl,h⟩:=h;exact ⟨u,rfl,h.below hb⟩
def OwT (w:World) (lo hi:Nat) (v:Value) (x:TourV):Prop:=∃u,v=.agg #[.int .i64 x.size,u]∧Fr w lo hi u x.wins
theorem OwT.in_ {w:World}{lo hi:Nat}{v:Value}{x:TourV} (h:OwT w lo hi v x):InT w v x:=by
 obtain ⟨u,rfl,h⟩:=h;exact ⟨u,rfl,h.in_⟩
theorem OwT.keep {w w':World}{lo hi l2 h2:Nat}{v:Value}{x:TourV} (h:OwT w lo hi v x) (hk:Keep l2 h2 w w') (hd:hi≤l2∨h2≤lo):OwT w' lo hi v x:=by
 obtain ⟨u,rfl,h⟩:=h;exact ⟨u,rfl,h.keep hk hd⟩
theorem OwT.grow {w w':World}{lo hi:Nat}{v:Value}{x:TourV} (h:OwT w lo hi v x) (hb:Below w.heap.size w w'):OwT w' lo hi v x:=by
 obtain ⟨u,rfl,h⟩:=h;exact ⟨u,rfl,h.grow hb⟩
theorem OwT.form {w:World}{lo hi:Nat}{v:Value}{x:TourV} (h:OwT w lo hi v x):∃A c,v=.agg #[.int .i64 x.size,.slice A x.wins.length c]:=by
 obtain ⟨u,rfl,h⟩:=h
 obtain ⟨A,c,rfl,_⟩:=h.form
 exact ⟨A,c,rfl⟩
def console4:TourV:=⟨4,[6,12,8,1]⟩
def ncB (a b:Nat):Bool:=(a==3 && b==0) || (decide (a<b) && !(a==0 && b==3))
theorem nc1_any (a b:Nat) (ha:a<4) (hb:b<4) (w:World):
  Calls Tryz.prog 26 #[.int .i64 a,.int .i64 b] w fun e w'=>e=.returned (.bool (ncB a b))∧w=w':=by
 have ha':a=0∨a=1∨a=2∨a=3:=by omega
 have hb':b=0∨b=1∨b=2∨b=3:=by omega
 rcases ha' with rfl|rfl|rfl|rfl<;>rcases hb' with rfl|rfl|rfl|rfl
 all_goals
  go_enter Tryz.func26,Tryz.ntmps26
  go_wp2
  go_ret
  exact ⟨rfl,rfl⟩
def bitsTo (p:Nat):Nat→Int
 | 0=>0
 | b+1=>if p≠b∧ncB p b=true then bitsTo p b+2^b else bitsTo p b
def ncT (a b:Nat):List Int:=(List.range 4).map fun p=>if p<a then bitsTo p 4 else if p=a then bitsTo p b else 0
theorem ncT_roll:∀a,a<4→ncT a 4=ncT (a+1) 0:=by decide
theorem ncT_zero:ncT 0 0=List.replicate 4 0:=by decide
theorem ncT_all:ncT 4 0 = [6,12,8,1]:=by decide
theorem ncT_skip:∀a,a<4→∀b,b<4→¬(a≠b∧ncB a b=true)→ncT a (b+1)=ncT a b:=by decide
theorem ncT_get:∀a,a<4→∀b,b<4→(ncT a b)[a]? = some (bitsTo a b):=by decide
theorem ncT_set:∀a,a<4→∀b,b<4→(a≠b∧ncB a b=true)→(ncT a b).set a (bitsTo a b+2^b)=ncT a (b+1):=by decide
theorem ncT_six (a:Nat) (ha:a<4) (b:Nat) (hb:b<4) (h:a≠b∧ncB a b=true):(a=0∧b=1)∨(a=0∧b=2)∨(a=1∧b=2)∨(a=1∧b=3)∨(a=2∧b=3)∨(a=3∧b=0):=by
 have ha':a=0∨a=1∨a=2∨a=3:=by omega
 have hb':b=0∨b=1∨b=2∨b=3:=by omega
 rcases ha' with rfl|rfl|rfl|rfl<;>rcases hb' with rfl|rfl|rfl|rfl<;>first|(exfalso;revert h;decide)|simp
theorem tourOf_console (w:World):
  Calls Tryz.prog 25 #[.int .i64 4,.func (.func 26) #[] #[]] w fun e w'=>∃v',e=.returned v'∧OwT w' w.heap.size w'.heap.size v' console4∧Below w.heap.size w w':=by
 go_enter Tryz.func25,Tryz.ntmps25
 go_wp2_with (at_make;refine makeI rfl _ _ rfl _ 4 rfl rfl (by omega) ?_;intro w1 hfr hb hsz;simp only [World.size_alloc] at hfr hb hsz;have r0:w1.cell? ⟨w.heap.size,0,none⟩=some (.int .i64 0):=(by rw [hb.cell (by simp)];simp);have r1:w1.cell? ⟨w.heap.size,1,none⟩=some (.slice none 0 0):=(by rw [hb.cell (by simp)];simp);have r2:w1.frozen? ⟨w.heap.size,0,none⟩=false:=(by rw [hb.frozen (by simp)];simp);have r3:w1.frozen? ⟨w.heap.size,1,none⟩=false:=(by rw [hb.frozen (by simp)];simp);have HF:=Lib.hid hfr;have HB:=Lib.hid hb;clear hfr hb)
 have W2:Hid ((Fr (w1.alloc (.cells #[.int .i64 4,.slice (some ⟨w.heap.size+1,0,none⟩) 4 4] 27)) (w.heap.size+1) (w.heap.size+2) (.slice (some ⟨w.heap.size+1,0,none⟩) 4 4) (ncT 0 0))∧Below w.heap.size w (w1.alloc (.cells #[.int .i64 4,.slice (some ⟨w.heap.size+1,0,none⟩) 4 4] 27))∧(w1.alloc (.cells #[.int .i64 4,.slice (some ⟨w.heap.size+1,0,none⟩) 4 4] 27)).heap.size=w.heap.size+3):=by
  refine ⟨?_,(((Below.refl _ w).alloc (Nat.le_refl _) _).trans (HB.out.mono (by omega))).alloc (by omega) _,by simp [hsz]⟩
  rw [ncT_zero]
  have h:=HF.out
  rw [hsz] at h
  exact h.keep ((Keep.refl (w.heap.size+2) (w.heap.size+2) w1).alloc _) (.inl (Nat.le_refl _))
 have C2:Hid ((w1.alloc (.cells #[.int .i64 4,.slice (some ⟨w.heap.size+1,0,none⟩) 4 4] 27)).cell? ⟨w.heap.size,0,none⟩=some (.int .i64 0)∧(w1.alloc (.cells #[.int .i64 4,.slice (some ⟨w.heap.size+1,0,none⟩) 4 4] 27)).cell? ⟨w.heap.size,1,none⟩=some (.slice none 0 0) ∧
   (w1.alloc (.cells #[.int .i64 4,.slice (some ⟨w.heap.size+1,0,none⟩) 4 4] 27)).frozen? ⟨w.heap.size,0,none⟩=false∧(w1.alloc (.cells #[.int .i64 4,.slice (some ⟨w.heap.size+1,0,none⟩) 4 4] 27)).frozen? ⟨w.heap.size,1,none⟩=false ∧
   (w1.alloc (.cells #[.int .i64 4,.slice (some ⟨w.heap.size+1,0,none⟩) 4 4] 27)).cell? ⟨w1.heap.size,0,none⟩=some (.int .i64 4)∧(w1.alloc (.cells #[.int .i64 4,.slice (some ⟨w.heap.size+1,0,none⟩) 4 4] 27)).cell? ⟨w1.heap.size,1,none⟩=some (.slice (some ⟨w.heap.size+1,0,none⟩) 4 4)):=by
  refine ⟨?_,?_,?_,?_,?_,?_⟩
  ·rw [World.cell?_alloc_lt _ _ _ (by show w.heap.size<_;omega)];exact r0
  ·rw [World.cell?_alloc_lt _ _ _ (by show w.heap.size<_;omega)];exact r1
  ·rw [(((Below.refl w1.heap.size w1).alloc (Nat.le_refl _) _)).frozen (by show w.heap.size<_;omega)];exact r2
  ·rw [(((Below.refl w1.heap.size w1).alloc (Nat.le_refl _) _)).frozen (by show w.heap.size<_;omega)];exact r3
  ·simp
  ·simp
 rw [hsz] at C2
 clear r0 r1 r2 r3 HF HB
 generalize w1.alloc (.cells #[.int .i64 4,.slice (some ⟨w.heap.size+1,0,none⟩) 4 4] 27)=w2 at *
 clear hsz
 go_loopw [13] (fun i wr=>∃a:Nat,a≤4∧i=.int .i64 a∧Hid (Fr wr (w.heap.size+1) (w.heap.size+2) (.slice (some ⟨w.heap.size+1,0,none⟩) 4 4) (ncT a 0)∧Keep (w.heap.size+1) (w.heap.size+2) w2 wr)) (fun i _=>4-(intOf i).toNat)
 case atStart=>exact ⟨0,by omega,rfl,W2.out.1,Keep.refl _ _ _⟩
 case round=>
  obtain ⟨a,ha,rfl,HR⟩:=hrel
  have hsz2:=HR.out.2.size
  have hw2:=W2.out.2.2
  have k0:wr.cell? ⟨w.heap.size,0,none⟩=some (.int .i64 0):=(HR.out.2.cell (by show w.heap.size<_;omega) (.inl (by show w.heap.size<_;omega))).trans C2.out.1
  have k1:wr.cell? ⟨w.heap.size,1,none⟩=some (.slice none 0 0):=(HR.out.2.cell (by show w.heap.size<_;omega) (.inl (by show w.heap.size<_;omega))).trans C2.out.2.1
  have k2:wr.frozen? ⟨w.heap.size,0,none⟩=false:=(HR.out.2.frozen (by show w.heap.size<_;omega) (.inl (by show w.heap.size<_;omega))).trans C2.out.2.2.1
  have k3:wr.frozen? ⟨w.heap.size,1,none⟩=false:=(HR.out.2.frozen (by show w.heap.size<_;omega) (.inl (by show w.heap.size<_;omega))).trans C2.out.2.2.2.1
  have k4:wr.cell? ⟨w.heap.size+1+1,0,none⟩=some (.int .i64 4):=(HR.out.2.cell (by show w.heap.size+1+1<_;omega) (.inr (by show _≤w.heap.size+1+1;omega))).trans C2.out.2.2.2.2.1
  have k5:wr.cell? ⟨w.heap.size+1+1,1,none⟩=some (.slice (some ⟨w.heap.size+1,0,none⟩) 4 4):=(HR.out.2.cell (by show w.heap.size+1+1<_;omega) (.inr (by show _≤w.heap.size+1+1;omega))).trans C2.out.2.2.2.2.2
  by_cases hlt:a<4
  case neg=>
   obtain rfl:a=4:=by omega
   have hT:=HR.out.1
   rw [ncT_all] at hT
   have HT:=Lib.hid hT
   clear hT
   go_wp2
   have KP:Hid (Keep w.heap.size (w.heap.size+1) wr ((wr.setCell ⟨w.heap.size,0,none⟩ (.int .i64 4)).setCell ⟨w.heap.size,1,none⟩ (.slice (some ⟨w.heap.size+1,0,none⟩) 4 4))):=
    ((Keep.refl _ _ _).setCell (p:=⟨w.heap.size,0,none⟩) (Nat.le_refl _) (Nat.lt_succ_self _) _).setCell (p:=⟨w.heap.size,1,none⟩) (Nat.le_refl _) (Nat.lt_succ_self _) _
   have B1:=W2.out.2.1.trans (HR.out.2.below (B:=w.heap.size) (by omega) (by omega))
   refine bodyPost_ret (v:=.agg #[.int .i64 4,.slice (some ⟨w.heap.size+1,0,none⟩) 4 4]) (by simp [results,Tryz.results25,go_sem,k0,k1]) rfl ⟨_,rfl,⟨_,rfl,(HT.out.keep KP.out (.inr (Nat.le_refl _))).wide (by omega) (by have:=KP.out.size;omega) (Nat.le_refl _)⟩,B1.trans (KP.out.below (Nat.le_refl _) B1.size)⟩
  clear k0 k1 k2 k3 k4 k5 hsz2
  obtain ⟨wo,rfl⟩:∃W,W=wr:=⟨wr,rfl⟩
  have da:decide ((a:Int)<4)=true:=by simp;omega
  go_wp2
  go_loopw [17] (fun i wx=>∃b:Nat,b≤4∧i=.int .i64 b∧Hid (Fr wx (w.heap.size+1) (w.heap.size+2) (.slice (some ⟨w.heap.size+1,0,none⟩) 4 4) (ncT a b)∧Keep (w.heap.size+1) (w.heap.size+2) w2 wx)) (fun i _=>4-(intOf i).toNat)
  case atStart=>exact ⟨0,by omega,rfl,HR.out⟩
  case round=>
   obtain ⟨b,hb,rfl,HX⟩:=hrel
   clear HR
   by_cases hbt:b<4
   case neg=>
    obtain rfl:b=4:=by omega
    have hX:=HX.out
    rw [ncT_roll a hlt] at hX
    have HN:=Lib.hid hX
    clear hX
    go_wp2
    go_roundw
    all_goals first|exact ⟨a+1,by omega,by go_num,HN.out⟩|(simp [intOf];try omega)
   have db:decide ((b:Int)<4)=true:=by simp;omega
   by_cases hs:a≠b∧ncB a b=true
   case neg=>
    have HN:Hid (Fr wr (w.heap.size+1) (w.heap.size+2) (.slice (some ⟨w.heap.size+1,0,none⟩) 4 4) (ncT a (b+1))∧Keep (w.heap.size+1) (w.heap.size+2) w2 wr):=by
     rw [ncT_skip a hlt b hbt hs];exact HX.out
    by_cases hab:a=b
    ·have dab:((a:Int) != (b:Int))=false:=by simp [hab]
     clear hab hs
     go_wp2
     go_roundw
     all_goals first|exact ⟨b+1,by omega,by go_num,HN.out⟩|(simp [intOf];try omega)
    ·have dab:((a:Int) != (b:Int))=true:=by simp;omega
     have hn:ncB a b=false:=by
      cases h:ncB a b
      ·rfl
      ·exact absurd ⟨hab,h⟩ hs
     clear hab hs
     go_wp2_with (go_at_call 26;refine (nc1_any a b hlt hbt _).mono ?_;rintro e w' ⟨rfl,rfl⟩)
     go_roundw
     all_goals first|exact ⟨b+1,by omega,by go_num,HN.out⟩|(simp [intOf];try omega)
   have hsz3:=HX.out.2.size
   have k4:wr.cell? ⟨w.heap.size+1+1,0,none⟩=some (.int .i64 4):=(HX.out.2.cell (by show w.heap.size+1+1<_;omega) (.inr (by show _≤w.heap.size+1+1;omega))).trans C2.out.2.2.2.2.1
   have k5:wr.cell? ⟨w.heap.size+1+1,1,none⟩=some (.slice (some ⟨w.heap.size+1,0,none⟩) 4 4):=(HX.out.2.cell (by show w.heap.size+1+1<_;omega) (.inr (by show _≤w.heap.size+1+1;omega))).trans C2.out.2.2.2.2.2
   obtain ⟨g,s0,hg,-,-,hs0,hc0,hf0,hst⟩:=HX.out.1.at_ (k:=a) (by rw [show (ncT a b).length=4 from rfl];exact hlt)
   obtain rfl:w.heap.size+1=g:=congrArg Addr.block (Option.some.inj hg)
   rw [ncT_get a hlt b hbt] at hs0
   injection hs0 with hs0
   have hst2:=hst (bitsTo a b+2^b)
   rw [ncT_set a hlt b hbt hs] at hst2
   have HST:=Lib.hid (And.intro hst2.1 (HX.out.2.trans hst2.2))
   rw [←hs0] at hc0
   have hab:=ncT_six a hlt b hbt hs
   clear hst hst2 hg hs0 HX hs
   rcases hab with ⟨rfl,rfl⟩|⟨rfl,rfl⟩|⟨rfl,rfl⟩|⟨rfl,rfl⟩|⟨rfl,rfl⟩|⟨rfl,rfl⟩
   ·rw [show bitsTo 0 1=0 from by decide] at hc0 HST
    rw [show (0:Int)+2^1=bits BinOp.or IntKind.i64 0 2 from by decide] at HST
    go_wp2_with (go_at_call 26;refine (nc1_any 0 1 (by omega) (by omega) _).mono ?_;rintro e w' ⟨rfl,rfl⟩;rw [show ncB 0 1=true from rfl])
    go_region
    all_goals go_wp2
    all_goals go_roundw
    all_goals first|exact ⟨2,by omega,by go_num,HST.out.1,HST.out.2.drewN 1⟩|((repeat (apply Exists.intro));refine ⟨?_,rfl⟩;exact ⟨2,by omega,rfl,HST.out.1,HST.out.2.drewN 1⟩)|(simp [intOf];try omega)
   ·rw [show bitsTo 0 2=2 from by decide] at hc0 HST
    rw [show (2:Int)+2^2=bits BinOp.or IntKind.i64 2 4 from by decide] at HST
    go_wp2_with (go_at_call 26;refine (nc1_any 0 2 (by omega) (by omega) _).mono ?_;rintro e w' ⟨rfl,rfl⟩;rw [show ncB 0 2=true from rfl])
    go_region
    all_goals go_wp2
    all_goals go_roundw
    all_goals first|exact ⟨3,by omega,by go_num,HST.out.1,HST.out.2.drewN 1⟩|((repeat (apply Exists.intro));refine ⟨?_,rfl⟩;exact ⟨3,by omega,rfl,HST.out.1,HST.out.2.drewN 1⟩)|(simp [intOf];try omega)
   ·rw [show bitsTo 1 2=0 from by decide] at hc0 HST
    rw [show (0:Int)+2^2=bits BinOp.or IntKind.i64 0 4 from by decide] at HST
    go_wp2_with (go_at_call 26;refine (nc1_any 1 2 (by omega) (by omega) _).mono ?_;rintro e w' ⟨rfl,rfl⟩;rw [show ncB 1 2=true from rfl])
    go_region
    all_goals go_wp2
    all_goals go_roundw
    all_goals first|exact ⟨3,by omega,by go_num,HST.out.1,HST.out.2.drewN 1⟩|((repeat (apply Exists.intro));refine ⟨?_,rfl⟩;exact ⟨3,by omega,rfl,HST.out.1,HST.out.2.drewN 1⟩)|(simp [intOf];try omega)
   ·rw [show bitsTo 1 3=4 from by decide] at hc0 HST
    rw [show (4:Int)+2^3=bits BinOp.or IntKind.i64 4 8 from by decide] at HST
    go_wp2_with (go_at_call 26;refine (nc1_any 1 3 (by omega) (by omega) _).mono ?_;rintro e w' ⟨rfl,rfl⟩;rw [show ncB 1 3=true from rfl])
    go_region
    all_goals go_wp2
    all_goals go_roundw
    all_goals first|exact ⟨4,by omega,by go_num,HST.out.1,HST.out.2.drewN 1⟩|((repeat (apply Exists.intro));refine ⟨?_,rfl⟩;exact ⟨4,by omega,rfl,HST.out.1,HST.out.2.drewN 1⟩)|(simp [intOf];try omega)
   ·rw [show bitsTo 2 3=0 from by decide] at hc0 HST
    rw [show (0:Int)+2^3=bits BinOp.or IntKind.i64 0 8 from by decide] at HST
    go_wp2_with (go_at_call 26;refine (nc1_any 2 3 (by omega) (by omega) _).mono ?_;rintro e w' ⟨rfl,rfl⟩;rw [show ncB 2 3=true from rfl])
    go_region
    all_goals go_wp2
    all_goals go_roundw
    all_goals first|exact ⟨4,by omega,by go_num,HST.out.1,HST.out.2.drewN 1⟩|((repeat (apply Exists.intro));refine ⟨?_,rfl⟩;exact ⟨4,by omega,rfl,HST.out.1,HST.out.2.drewN 1⟩)|(simp [intOf];try omega)
   ·rw [show bitsTo 3 0=0 from by decide] at hc0 HST
    rw [show (0:Int)+2^0=bits BinOp.or IntKind.i64 0 1 from by decide] at HST
    go_wp2_with (go_at_call 26;refine (nc1_any 3 0 (by omega) (by omega) _).mono ?_;rintro e w' ⟨rfl,rfl⟩;rw [show ncB 3 0=true from rfl])
    go_region
    all_goals go_wp2
    all_goals go_roundw
    all_goals first|exact ⟨1,by omega,by go_num,HST.out.1,HST.out.2.drewN 1⟩|((repeat (apply Exists.intro));refine ⟨?_,rfl⟩;exact ⟨1,by omega,rfl,HST.out.1,HST.out.2.drewN 1⟩)|(simp [intOf];try omega)
theorem implNewConsole_any (w:World):
  Calls Tryz.prog 8 #[] w fun e w'=>∃v',e=.returned v'∧OwT w' w.heap.size w'.heap.size v' console4∧Below w.heap.size w w':=by
 go_enter Tryz.func8,Tryz.ntmps8
 go_wp2_with (go_at_call 25;refine (tourOf_console _).mono ?_;rintro e w1 ⟨v1,rfl,ho,hb⟩;simp only [World.size_alloc] at ho hb;obtain ⟨A1,c1,rfl⟩:=ho.form;have r0:w1.cell? ⟨w.heap.size,0,none⟩=some (.int .i64 0):=(by rw [hb.cell (by simp)];simp);have r1:w1.cell? ⟨w.heap.size,1,none⟩=some (.slice none 0 0):=(by rw [hb.cell (by simp)];simp);have r2:w1.frozen? ⟨w.heap.size,0,none⟩=false:=(by rw [hb.frozen (by simp)];simp);have r3:w1.frozen? ⟨w.heap.size,1,none⟩=false:=(by rw [hb.frozen (by simp)];simp);have HO:=Lib.hid (And.intro ho hb);clear ho hb)
 have KP:Hid (Keep w.heap.size (w.heap.size+1) w1 ((w1.setCell ⟨w.heap.size,0,none⟩ (.int .i64 console4.size)).setCell ⟨w.heap.size,1,none⟩ (.slice A1 console4.wins.length c1))):=
  ((Keep.refl _ _ _).setCell (p:=⟨w.heap.size,0,none⟩) (Nat.le_refl _) (Nat.lt_succ_self _) _).setCell (p:=⟨w.heap.size,1,none⟩) (Nat.le_refl _) (Nat.lt_succ_self _) _
 have B1:Below w.heap.size w w1:=((Below.refl _ w).alloc (Nat.le_refl _) _).trans (HO.out.2.mono (by omega))
 refine bodyPost_ret (v:=.agg #[.int .i64 console4.size,.slice A1 console4.wins.length c1]) (by simp [results,Tryz.results8,go_sem,r0,r1]) rfl ⟨_,rfl,?_,B1.trans (KP.out.below (Nat.le_refl _) B1.size)⟩
 obtain ⟨u,he,hf⟩:=HO.out.1.keep KP.out (.inr (Nat.le_refl _))
 exact ⟨u,he,hf.wide (by omega) KP.out.size (Nat.le_refl _)⟩
def bt (xs:List Int) (a b:Nat):Bool:=(xs.getD a 0).toNat.testBit b
def rowB (xs:List Int) (a:Nat):Bool:=(List.range a).all (fun b=>bt xs a b != bt xs b a) && !bt xs a a
def winsB (n:Nat) (xs:List Int):Bool:=xs.all fun w=>inB w 0 (2^n-1)
def tourB (x:TourV):Bool:=inB x.size 1 8 && (decide ((x.wins.length:Int)=x.size) && (winsB x.wins.length x.wins && (List.range x.wins.length).all (rowB x.wins)))
theorem bit_and:∀w:Fin 256,∀b:Fin 8,bits BinOp.and IntKind.i64 ((w.val:Int)/2^b.val) 1=if w.val.testBit b.val then 1 else 0:=by decide +kernel
theorem bit_at {w:Int}{b:Nat} (h1:0≤w) (h2:w≤255) (hb:b≤7):bits BinOp.and IntKind.i64 (w/2^b) 1=if w.toNat.testBit b then 1 else 0:=by
 have h:=bit_and ⟨w.toNat,by omega⟩ ⟨b,by omega⟩
 simp only [Int.toNat_of_nonneg h1] at h
 exact h
theorem tourB_size {x:TourV} (h:inB x.size 1 8=false):tourB x=false:=by simp [tourB,h]
theorem tourB_len {x:TourV} (h:¬(x.wins.length:Int)=x.size):tourB x=false:=by simp [tourB,h]
theorem tourB_wins {x:TourV} (h:winsB x.wins.length x.wins=false):tourB x=false:=by simp [tourB,h]
theorem tourB_go {x:TourV} (h1:inB x.size 1 8=true) (h2:(x.wins.length:Int)=x.size) (h3:winsB x.wins.length x.wins=true):tourB x=(List.range x.wins.length).all (rowB x.wins):=by simp [tourB,h1,h2,h3]
theorem tourB_t {x:TourV} (h:tourB x=true):1≤x.size∧x.size≤8∧(x.wins.length:Int)=x.size∧winsB x.wins.length x.wins=true∧∀a,a<x.wins.length→rowB x.wins a=true:=by
 unfold tourB at h
 simp only [Bool.and_eq_true,decide_eq_true_eq,List.all_eq_true,List.mem_range] at h
 obtain ⟨h1,h2,h3,h4⟩:=h
 exact ⟨(inB_t.1 h1).1,(inB_t.1 h1).2,h2,h3,h4⟩
theorem winsB_at {n:Nat}{xs:List Int}{a:Nat}{w:Int} (hn:n≤8) (h:winsB n xs=true) (ha:xs[a]? = some w):0≤w∧w≤255:=by
 have h1:=List.all_eq_true.1 h w (List.mem_of_getElem? ha)
 obtain ⟨h2,h3⟩:=inB_t.1 h1
 refine ⟨h2,?_⟩
 have:∀n:Fin 9,(2:Int)^n.val-1≤255:=by decide
 have:=this ⟨n,by omega⟩
 simp only at this
 omega
theorem rowB_hit {xs:List Int}{a b:Nat} (hb:b<a) (h:bt xs a b=bt xs b a):rowB xs a=false:=by
 unfold rowB
 rw [Bool.and_eq_false_iff]
 exact .inl (List.all_eq_false.2 ⟨b,List.mem_range.2 hb,by simp [h]⟩)
theorem rowB_self {xs:List Int}{a:Nat} (h:bt xs a a=true):rowB xs a=false:=by simp [rowB,h]
theorem rowB_all {xs:List Int}{a:Nat} (h1:∀b,b<a→bt xs a b≠bt xs b a) (h2:bt xs a a=false):rowB xs a=true:=by
 unfold rowB
 rw [Bool.and_eq_true,List.all_eq_true]
 exact ⟨fun b hb=>by simpa using h1 b (List.mem_range.1 hb),by simp [h2]⟩
theorem rows_hit {xs:List Int}{a n:Nat} (ha:a<n) (h:rowB xs a=false):(List.range n).all (rowB xs)=false:=List.all_eq_false.2 ⟨a,List.mem_range.2 ha,by simp [h]⟩
theorem rows_all {xs:List Int}{n:Nat} (h:∀a,a<n→rowB xs a=true):(List.range n).all (rowB xs)=true:=by
 rw [List.all_eq_true];exact fun a ha=>h a (List.mem_range.1 ha)
theorem tourB_anti {x:TourV} (h:tourB x=true) {a b:Nat} (ha:a<x.wins.length) (hb:b<x.wins.length) (hne:a≠b):bt x.wins a b≠bt x.wins b a:=by
 obtain ⟨_,_,_,_,h5⟩:=tourB_t h
 have key:∀a b,a<x.wins.length→b<a→bt x.wins a b≠bt x.wins b a:=by
  intro a b ha hb
  have h6:=h5 a ha
  unfold rowB at h6
  rw [Bool.and_eq_true,List.all_eq_true] at h6
  simpa using h6.1 b (List.mem_range.2 hb)
 rcases Nat.lt_or_gt_of_ne hne with h6|h6
 ·exact (key b a hb h6).symm
 ·exact key a b ha h6
theorem tourB_irr {x:TourV} (h:tourB x=true) {a:Nat} (ha:a<x.wins.length):bt x.wins a a=false:=by
 obtain ⟨_,_,_,_,h5⟩:=tourB_t h
 have h6:=h5 a ha
 unfold rowB at h6
 rw [Bool.and_eq_true] at h6
 simpa using h6.2
theorem implBeats_any (v:Value) (x:TourV) (a b:Nat) (w:World) (hs:InT w v x) (hn:x.wins.length≤8) (hwb:winsB x.wins.length x.wins=true) (ha:a<x.wins.length) (hb:b≤7):
  Calls Tryz.prog 150 #[v,.int .i64 a,.int .i64 b] w fun e w'=>e=.returned (.bool (bt x.wins a b))∧Below w.heap.size w w':=by
 obtain ⟨u,rfl,A,c,rfl,hc,hm,hsl⟩:=hs
 obtain ⟨bk,off,y,rfl,hy,c1,hlt⟩:=hsl.at_ ha
 obtain ⟨h1,h2⟩:=winsB_at hn hwb hy
 have e1:=bit_at h1 h2 hb
 have HB:Hid (bt x.wins a b=y.toNat.testBit b):=by show _=_;rw [bt,List.getD_eq_getElem?_getD,hy];rfl
 have hne:¬bk=w.heap.size:=by omega
 clear hsl hy
 cases ht:y.toNat.testBit b
 all_goals
  have HT:=Lib.hid ht
  rw [ht] at e1
  simp only [Bool.false_eq_true,if_true,if_false] at e1
  clear ht
  go_enter Tryz.func150,Tryz.ntmps150
  go_wp2
  go_ret
  exact ⟨ret_bool (by rw [HB.out,HT.out]),(Below.refl _ w).alloc (Nat.le_refl _) _⟩
end Go.Proofs.YtkapoldjcpfdgaaGreatDoor
