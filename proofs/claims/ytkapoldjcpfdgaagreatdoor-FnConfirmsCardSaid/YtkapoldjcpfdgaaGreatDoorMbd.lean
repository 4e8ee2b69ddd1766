/- Rows of one's own side by side: what is done to one leaves the others. -/
import Derived.ArgAppend
import Derived.Test.YtkapoldjcpfdgaaGreatDoorMas
set_option maxRecDepth 100000
namespace Go.Proofs.YtkapoldjcpfdgaaGreatDoor
open Go.ChangeShapes Go.WideShapes Go.ChangeAt Go.RowKit
structure RowV where
 t:TypeId
 v:Value
 vs:List Value
def RowV.At (r:RowV) (W:World) (lo:Nat):Prop:=
 (r.v=.slice none 0 0∧r.vs = [])∨∃g off cap cur,r.v=.slice (some ⟨g,off,none⟩) r.vs.length cap∧r.vs.length≤cap∧cap≤maxLen∧lo≤g∧W.heap[g]? = some (.cells cur r.t (0,0))∧(cap=0∨off+cap=cur.size)∧∀j u,r.vs[j]? = some u→cur[off+j]? = some u
def Apart (v u:Value):Prop:=∀g,v.ownBlock=some g→u.ownBlock≠some g
theorem Apart.symm {v u:Value} (h:Apart v u):Apart u v:=fun g h1 h2=>h g h2 h1
structure SepL (W:World) (lo:Nat) (L:List RowV):Prop where
 at_:∀(i:Nat) (r:RowV),L[i]? = some r→r.At W lo
 ap:∀(i j:Nat) (r s:RowV),i≠j→L[i]? = some r→L[j]? = some s→Apart r.v s.v
theorem RowV.At.lt {r:RowV}{W:World}{lo g:Nat} (h:r.At W lo) (hg:r.v.ownBlock=some g):lo≤g∧g<W.heap.size:=by
 rcases h with ⟨e,_⟩|⟨g',off,cap,cur,e,_,_,h1,h2,_⟩
 ·rw [e] at hg;cases hg
 ·rw [e] at hg
  simp only [Value.ownBlock,Option.some.injEq] at hg
  subst hg
  exact ⟨h1,(Array.getElem?_eq_some_iff.1 h2).1⟩
theorem RowV.At.kept {r:RowV}{W W':World}{lo:Nat} (h:r.At W lo) (hk:∀g,r.v.ownBlock=some g→W'.heap[g]? = W.heap[g]?):r.At W' lo:=by
 rcases h with h|⟨g,off,cap,cur,e,h1,h2,h3,h4,h5,h6⟩
 ·exact .inl h
 ·exact .inr ⟨g,off,cap,cur,e,h1,h2,h3,(hk g (by rw [e];rfl)).trans h4,h5,h6⟩
theorem RowV.At.form {r:RowV}{W:World}{lo:Nat} (h:r.At W lo):∃A c,r.v=.slice A r.vs.length c∧r.vs.length≤c∧c≤9223372036854775807:=by
 rcases h with ⟨e,h⟩|⟨g,off,cap,cur,e,h1,h2,_⟩
 ·exact ⟨none,0,by rw [e,h];rfl,by rw [h];exact Nat.le_refl _,by omega⟩
 ·exact ⟨_,cap,e,h1,h2⟩
theorem RowV.At.addr {r:RowV}{W:World}{lo:Nat} (h:r.At W lo) (h0:0<r.vs.length):∃g off cap,r.v=.slice (some ⟨g,off,none⟩) r.vs.length cap∧r.vs.length≤cap∧cap≤9223372036854775807∧lo≤g∧g<W.heap.size∧∀j u,r.vs[j]? = some u→W.cell? ⟨g,off+j,none⟩=some u∧W.frozen? ⟨g,off+j,none⟩=false:=by
 rcases h with ⟨_,h⟩|⟨g,off,cap,cur,e,h1,h2,h3,h4,h5,h6⟩
 ·rw [h] at h0;simp at h0
 ·refine ⟨g,off,cap,e,h1,h2,h3,(Array.getElem?_eq_some_iff.1 h4).1,fun j u hj=>⟨?_,by simp [World.frozen?,h4]⟩⟩
  simp only [World.cell?,h4]
  exact h6 j u hj
theorem RowV.At.cells {t:TypeId}{W:World}{lo g off n cap:Nat}{vs:List Value} (h:(⟨t,.slice (some ⟨g,off,none⟩) n cap,vs⟩:RowV).At W lo) {j:Nat}{u:Value} (hj:vs[j]? = some u):W.cell? ⟨g,off+j,none⟩=some u∧W.frozen? ⟨g,off+j,none⟩=false:=by
 obtain ⟨g',off',cap',e,_,_,_,_,hc⟩:=h.addr (by have:=(List.getElem?_eq_some_iff.1 hj).1;show 0<vs.length;omega)
 injection e with e1
 injection e1 with e1
 injection e1 with e2 e3
 subst e2;subst e3
 exact hc j u hj
theorem SepL.put {W W':World}{lo k:Nat}{L:List RowV}{r r':RowV} (h:SepL W lo L) (hk:L[k]? = some r) (hr:r'.At W' lo) (hb:∀g,r'.v.ownBlock=some g→r.v.ownBlock=some g∨W.heap.size≤g)
  (hw:∀b,b<W.heap.size→r.v.ownBlock≠some b→W'.heap[b]? = W.heap[b]?):SepL W' lo (L.set k r'):=by
 have hkl:=(List.getElem?_eq_some_iff.1 hk).1
 refine ⟨fun i s hs=>?_,fun i j s u hne hs hu=>?_⟩
 ·by_cases e:k=i
  ·subst e
   rw [List.getElem?_set_self hkl] at hs
   injection hs with hs;subst hs;exact hr
  ·rw [List.getElem?_set_ne e] at hs
   refine (h.at_ i s hs).kept fun g hg=>hw g ((h.at_ i s hs).lt hg).2 (fun e2=>h.ap k i r s e hk hs g e2 hg)
 ·have old:∀i s,k≠i→L[i]? = some s→Apart r'.v s.v:=fun i s e hs g h1 h2=>by
   rcases hb g h1 with h3|h3
   ·exact h.ap k i r s e hk hs g h3 h2
   ·have:=((h.at_ i s hs).lt h2).2;omega
  by_cases e1:k=i
  ·subst e1
   rw [List.getElem?_set_self hkl] at hs
   injection hs with hs;subst hs
   rw [List.getElem?_set_ne hne] at hu
   exact old j u hne hu
  ·rw [List.getElem?_set_ne e1] at hs
   by_cases e2:k=j
   ·subst e2
    rw [List.getElem?_set_self hkl] at hu
    injection hu with hu;subst hu
    exact (old i s e1 hs).symm
   ·rw [List.getElem?_set_ne e2] at hu
    exact h.ap i j s u hne hs hu
theorem SepL.view {W:World}{lo k:Nat}{L:List RowV}{r r':RowV} (h:SepL W lo L) (hk:L[k]? = some r) (hr:r'.At W lo) (hb:∀g,r'.v.ownBlock=some g→r.v.ownBlock=some g):SepL W lo (L.set k r'):=
 h.put hk hr (fun g hg=>.inl (hb g hg)) fun _ _ _=>rfl
theorem SepL.below {W W':World}{lo:Nat}{L:List RowV} (h:SepL W lo L) (hb:Below W.heap.size W W'):SepL W' lo L:=
 ⟨fun i r hr=>(h.at_ i r hr).kept fun g hg=>hb.block g ((h.at_ i r hr).lt hg).2,h.ap⟩
theorem SepL.drewN {W:World}{lo:Nat}{L:List RowV} (h:SepL W lo L) (q:Nat):SepL (W.drewN q) lo L:=⟨h.at_,h.ap⟩
theorem SepL.push {W W':World}{lo:Nat}{L:List RowV}{r:RowV} (h:SepL W lo L) (hb:Below W.heap.size W W') (hr:r.At W' lo) (hn:∀g,r.v.ownBlock=some g→W.heap.size≤g):SepL W' lo (L++[r]):=by
 have h1:=h.below hb
 have old:∀(i:Nat) (s:RowV),L[i]? = some s→Apart s.v r.v:=fun i s hs g h2 h3=>by
  have:=((h.at_ i s hs).lt h2).2
  have:=hn g h3;omega
 have get:∀(i:Nat) (s:RowV),(L++[r])[i]? = some s→L[i]? = some s∨(i=L.length∧s=r):=fun i s hs=>by
  rcases Nat.lt_or_ge i L.length with h2|h2
  ·rw [List.getElem?_append_left h2] at hs;exact .inl hs
  ·rw [List.getElem?_append_right h2] at hs
   cases hk:i-L.length with
   | zero=>rw [hk] at hs;simp at hs;exact .inr ⟨by omega,hs.symm⟩
   | succ k=>rw [hk] at hs;simp at hs
 refine ⟨fun i s hs=>?_,fun i j s u hne hs hu=>?_⟩
 ·rcases get i s hs with h2|⟨_,rfl⟩
  ·exact h1.at_ i s h2
  ·exact hr
 ·rcases get i s hs with h2|⟨h2,rfl⟩<;>rcases get j u hu with h3|⟨h3,rfl⟩
  ·exact h.ap i j s u hne h2 h3
  ·exact old i s h2
  ·exact (old j u h3).symm
  ·omega
theorem SepL.pick {W:World}{lo:Nat}{L M:List RowV} (h:SepL W lo L) (f:Nat→Nat) (hf:∀i r,M[i]? = some r→L[f i]? = some r) (hi:∀i j,i<M.length→j<M.length→i≠j→f i≠f j):SepL W lo M:=
 ⟨fun i r hr=>h.at_ (f i) r (hf i r hr),fun i j r s hne hr hs=>h.ap (f i) (f j) r s (hi i j (List.getElem?_eq_some_iff.1 hr).1 (List.getElem?_eq_some_iff.1 hs).1 hne) (hf i r hr) (hf j s hs)⟩
theorem SepL.nil (W:World) (lo:Nat):SepL W lo []:=⟨fun _ _ h=>by simp at h,fun _ _ _ _ _ h=>by simp at h⟩
theorem RowV.At.of_own {W:World}{lo n:Nat}{t:TypeId}{v:Value}{vs:List Value} (h:W.ownsRow lo t 1 v n vs):(⟨t,v,vs⟩:RowV).At W lo:=by
 have hl:vs.length=n:=by simpa using h.1
 rcases h.2 with ⟨e,hn⟩|⟨g,cap,cur,e,h1,h2,h3,h4,h5,h6⟩
 ·exact .inl ⟨e,List.eq_nil_of_length_eq_zero (by show vs.length=0;omega)⟩
 ·refine .inr ⟨g,0,cap,cur,by show v=.slice _ vs.length _;rw [e,hl],by show vs.length≤_;omega,h4,h1,h2,.inr (by omega),fun j u hj=>?_⟩
  replace hj:vs[j]? = some u:=hj
  rw [←h6,List.getElem?_take] at hj
  rw [Nat.zero_add]
  split at hj
  ·simpa using hj
  ·cases hj
theorem RowV.At.cut {W:World}{lo g off cap n k:Nat}{t:TypeId}{vs:List Value} (h:(⟨t,.slice (some ⟨g,off,none⟩) n cap,vs⟩:RowV).At W lo) (hk:k≤vs.length) (ao:Option Addr) (ha:ao=(if cap=k then some ⟨g,off,none⟩ else some ⟨g,off+k,none⟩)):
  (⟨t,.slice ao (vs.drop k).length (cap-k),vs.drop k⟩:RowV).At W lo∧(Value.slice ao (vs.drop k).length (cap-k)).ownBlock=some g:=by
 rcases h with ⟨e,_⟩|⟨g',off',cap',cur,e,h1,h2,h3,h4,h5,h6⟩
 ·cases e
 ·injection e with e1 e2 e3
  injection e1 with e1
  injection e1 with e4 e5
  subst e4;subst e5;subst e3
  by_cases hc:cap=k
  ·rw [if_pos hc] at ha
   subst ha
   have hl:(vs.drop k).length=0:=by simp only [List.length_drop];simp only at h1;omega
   have hn:vs.drop k = []:=List.eq_nil_of_length_eq_zero hl
   refine ⟨.inr ⟨g,off,cap-k,cur,rfl,by show (vs.drop k).length≤_;omega,by omega,h3,h4,.inl (by omega),fun j u hj=>?_⟩,rfl⟩
   replace hj:(vs.drop k)[j]? = some u:=hj
   rw [hn] at hj;simp at hj
  ·rw [if_neg hc] at ha
   subst ha
   refine ⟨.inr ⟨g,off+k,cap-k,cur,rfl,?_,by omega,h3,h4,?_,fun j u hj=>?_⟩,rfl⟩
   ·simp only [List.length_drop] at *;omega
   ·simp only at h1;rcases h5 with h5|h5
    ·exact .inl (by omega)
    ·exact .inr (by omega)
   ·replace hj:(vs.drop k)[j]? = some u:=hj
    rw [List.getElem?_drop] at hj
    rw [Nat.add_assoc];exact h6 _ _ hj
theorem SepL.store {W:World}{lo k j:Nat}{L:List RowV}{r:RowV} (h:SepL W lo L) (_hlo:lo≤W.heap.size) (hk:L[k]? = some r) (hj:j<r.vs.length) (u:Value):
  ∃g off cap,r.v=.slice (some ⟨g,off,none⟩) r.vs.length cap∧SepL (W.setCell ⟨g,off+j,none⟩ u) lo (L.set k ⟨r.t,r.v,r.vs.set j u⟩)∧Below lo W (W.setCell ⟨g,off+j,none⟩ u):=by
 have hr:=h.at_ k r hk
 rcases hr with ⟨_,e⟩|⟨g,off,cap,cur,e,h1,h2,h3,h4,h5,h6⟩
 ·rw [e] at hj;simp at hj
 ·refine ⟨g,off,cap,e,?_,(Below.refl _ _).setCell (p:=⟨g,off+j,none⟩) h3 _⟩
  have hg:(W.setCell ⟨g,off+j,none⟩ u).heap[g]? = some (.cells (cur.setIfInBounds (off+j) u) r.t (0,0)):=by
   show (W.heap.modify g _)[g]? = _
   rw [Array.getElem?_modify,if_pos rfl,h4];rfl
  have ho:∀b,b≠g→(W.setCell ⟨g,off+j,none⟩ u).heap[b]? = W.heap[b]?:=fun b hb=>by
   show (W.heap.modify g _)[b]? = _
   rw [Array.getElem?_modify,if_neg (fun e=>hb e.symm)]
  refine h.put hk (r':=⟨r.t,r.v,r.vs.set j u⟩) (.inr ⟨g,off,cap,_,by show r.v=.slice _ (r.vs.set j u).length _;rw [List.length_set];exact e,by show (r.vs.set j u).length≤_;rw [List.length_set];exact h1,h2,h3,hg,by rw [Array.size_setIfInBounds];exact h5,fun i y hi=>?_⟩) (fun g' hg'=>.inl hg') fun b _ hb=>ho b fun e2=>hb (by rw [e,e2];rfl)
  replace hi:(r.vs.set j u)[i]? = some y:=hi
  have hjs:off+j<cur.size:=by
   have:=h6 j r.vs[j] (List.getElem?_eq_getElem hj)
   exact (Array.getElem?_eq_some_iff.1 this).1
  by_cases e2:j=i
  ·subst e2
   rw [List.getElem?_set_self hj] at hi
   injection hi with hi;subst hi
   rw [Array.getElem?_setIfInBounds_self_of_lt hjs]
  ·rw [List.getElem?_set_ne e2] at hi
   rw [Array.getElem?_setIfInBounds_ne (by omega)]
   exact h6 i y hi
theorem run_sepApp {sl e t0 ty:TypeId}{i0:TypeInfo}{z:Value}{bytes:Nat} (u1:Tryz.prog.underlying sl=some (.slice e)) (u2:Tryz.prog.info? e=some i0) (u3:i0.zero=some z) (u4:i0.size=1) (u5:i0.bytes=bytes) (u6:z.cells.size=1) (u7:bytes≤24)
  (w:World) (lo k:Nat) (L:List RowV) (r:RowV) (hS:SepL w lo L) (hlo:lo≤w.heap.size) (hk:L[k]? = some r) (ht:r.t=e) (u:Value) (hu:u.oneCell'=true) (hl:r.vs.length≤1048576):
  ∃v' w',(Builtin.append_ #[sl,sl] ty #[r.v,.slice (some ⟨w.heap.size,0,none⟩) 1 1]).run Tryz.prog (w.alloc (.cells #[u] t0))=.ok v' w'∧SepL w' lo (L.set k ⟨e,v',r.vs++[u]⟩)∧Below lo w w'∧w.heap.size≤w'.heap.size:=by
 subst ht
 have hB:Below w.heap.size w (w.alloc (.cells #[u] t0)):=(Below.refl _ w).alloc (Nat.le_refl _) _
 have hsz:(w.alloc (.cells #[u] t0)).heap.size=w.heap.size+1:=by simp
 have grows:∀v' w',w'.ownsRow (w.alloc (.cells #[u] t0)).heap.size r.t 1 v' (r.vs.length+1) (r.vs++[u])→(w.alloc (.cells #[u] t0)).grownBy w' none→SepL w' lo (L.set k ⟨r.t,v',r.vs++[u]⟩)∧Below lo w w'∧w.heap.size≤w'.heap.size:=by
  intro v' w' hown hgr
  have h1:=RowV.At.of_own hown
  have blk:∀b,b<w.heap.size→w'.heap[b]? = w.heap[b]?:=fun b hb=>(hgr.block b (by rw [hsz];omega) (fun e=>by cases e)).trans (hB.block b hb)
  have hb2:∀g,v'.ownBlock=some g→w.heap.size≤g:=fun g hg=>by have:=(hown.lt g hg).1;rw [hsz] at this;omega
  have hz:w.heap.size≤w'.heap.size:=Nat.le_trans (by rw [hsz];omega) hgr.size
  refine ⟨hS.put hk ?_ (fun g hg=>.inr (hb2 g hg)) fun b hb _=>blk b hb,⟨hgr.os.trans hB.os,hgr.tape.trans hB.tape,hgr.output.trans hB.output,hz,fun b hb=>blk b (by omega)⟩,hz⟩
  rcases h1 with h1|⟨g,off,cap,cur,e,q1,q2,q3,q4,q5,q6⟩
  ·exact .inl h1
  ·exact .inr ⟨g,off,cap,cur,e,q1,q2,by rw [hsz] at q3;omega,q4,q5,q6⟩
 have hnew:∀(j:Nat) (u':Value),[u][j]? = some u'→(w.alloc (.cells #[u] t0)).cell? ((⟨w.heap.size,0,none⟩:Addr).add j)=some u':=fun j u' hj=>by
  match j,hj with
  | 0,hj=>simp at hj;subst hj;simp [Addr.add]
 have hone:∀u'∈[u],u'.oneCell'=true:=fun u' hu'=>by simp at hu';subst hu';exact hu
 have hmul:(r.vs.length+1)*bytes≤140737488355328:=by
  have:=Nat.mul_le_mul (show r.vs.length+1≤1048577 by omega) u7
  omega
 rcases hS.at_ k r hk with ⟨e,e2⟩|⟨g,off,cap,cur,e,h1,h2,h3,h4,h5,h6⟩
 ·have hl0:r.vs.length=0:=by rw [e2];rfl
  obtain ⟨v',w',hrun,r1,r2,_⟩:=run_append_own (P:=Tryz.prog) (w.alloc (.cells #[u] t0)) (w.alloc (.cells #[u] t0)).heap.size sl ty r.t i0 z 1 bytes u1 u2 u3 u4 u5 u6 (by decide) (.slice none 0 0) 0 [] (World.ownsRow_nil _ _ r.t 1) ⟨w.heap.size,0,none⟩ 1 1 [u] rfl hnew hone (by unfold maxLen;omega) (by rw [hl0] at hmul;exact hmul) (Nat.le_refl _)
  refine ⟨v',w',by rw [e];exact hrun,grows v' w' (by rw [hl0,e2];exact r1) r2⟩
 ·have hg:=(Array.getElem?_eq_some_iff.1 h4).1
  have h4':(w.alloc (.cells #[u] t0)).heap[g]? = some (.cells cur r.t (0,0)):=(Below.heap_alloc _ _ _ hg).trans h4
  have hcell:∀q,(w.alloc (.cells #[u] t0)).cell? ⟨g,q,none⟩=cur[q]?:=fun q=>by simp [World.cell?,h4']
  by_cases hr:r.vs.length+1≤cap
  ·have hrun:=run_append_room_cells (P:=Tryz.prog) (w.alloc (.cells #[u] t0)) sl ty r.t i0 u1 u2 g off r.vs.length cap ⟨w.heap.size,0,none⟩ 1 1 [u] (by rw [u4];rfl) hnew hone hr (fun j hj=>by
     have hj0:j=0:=by simpa using hj
     subst hj0
     rw [hcell,Array.getElem?_eq_getElem (by rw [u4];omega)];rfl) (fun j hj=>by simp [World.frozen?,h4'])
   rw [u4] at hrun
   have hblk:∀b,b≠g→((w.alloc (.cells #[u] t0)).setCells g (off+r.vs.length*1) [u]).heap[b]? = (w.alloc (.cells #[u] t0)).heap[b]?:=fun b hb=>by
    show ((w.alloc (.cells #[u] t0)).heap.modify g _)[b]? = _
    rw [Array.getElem?_modify,if_neg (fun e=>hb e.symm)]
   have hg2:((w.alloc (.cells #[u] t0)).setCells g (off+r.vs.length*1) [u]).heap[g]? = some (.cells (cur.setIfInBounds (off+r.vs.length*1) u) r.t (0,0)):=by
    show ((w.alloc (.cells #[u] t0)).heap.modify g _)[g]? = _
    rw [Array.getElem?_modify,if_pos rfl,h4'];rfl
   have hz:w.heap.size≤((w.alloc (.cells #[u] t0)).setCells g (off+r.vs.length*1) [u]).heap.size:=by
    show _≤((w.alloc (.cells #[u] t0)).heap.modify g _).size
    rw [Array.size_modify,hsz];omega
   refine ⟨_,_,by rw [e];exact hrun,hS.put hk ?_ (fun g' hg'=>.inl ?_) fun b hb hne=>?_,?_,hz⟩
   ·refine .inr ⟨g,off,cap,_,by show _=Value.slice _ (r.vs++[u]).length _;rw [List.length_append,List.length_singleton],by show (r.vs++[u]).length≤_;rw [List.length_append,List.length_singleton];omega,h2,h3,hg2,by rw [Array.size_setIfInBounds];exact h5,fun j u' hj=>?_⟩
    replace hj:(r.vs++[u])[j]? = some u':=hj
    rcases Nat.lt_or_ge j r.vs.length with hj2|hj2
    ·rw [List.getElem?_append_left hj2] at hj
     rw [Array.getElem?_setIfInBounds_ne (by omega)]
     exact h6 j u' hj
    ·rw [List.getElem?_append_right hj2] at hj
     have hj3:j=r.vs.length:=by
      cases hk:j-r.vs.length with
      | zero=>omega
      | succ q=>rw [hk] at hj;simp at hj
     subst hj3
     simp only [Nat.sub_self,List.getElem?_cons_zero,Option.some.injEq] at hj
     subst hj
     rw [Nat.mul_one,Array.getElem?_setIfInBounds_self_of_lt (by omega)]
   ·rw [e];exact hg'
   ·have hbg:b≠g:=fun e2=>hne (by rw [e,e2];rfl)
    exact (hblk b hbg).trans (hB.block b hb)
   ·exact (hB.mono hlo).trans ((Below.refl _ _).setCell (p:=⟨g,off+r.vs.length*1,none⟩) h3 _)
  ·obtain ⟨v',w',hrun,r1,r2⟩:=run_append_arg_grows (P:=Tryz.prog) (w.alloc (.cells #[u] t0)) sl ty r.t i0 z 1 bytes u1 u2 u3 u4 u5 u6 (by decide) ⟨g,off,none⟩ r.vs.length cap r.vs (by simp) (fun j u' hj=>by rw [Addr.add_lit,hcell];exact h6 j u' hj) ⟨w.heap.size,0,none⟩ 1 1 [u] rfl hnew (by omega) (by unfold maxLen;omega) hmul
   exact ⟨v',w',by rw [e];exact hrun,grows v' w' r1 r2⟩
theorem sepApp {ops:Array Oper}{rest:List Oper}{o:Oper}{a:Act}{Q:Exit→Act→World→Prop} (hgd:o.guard=none) (s y:Operand) {sl e t0:TypeId}{i0:TypeInfo}{z:Value}{bytes:Nat}
  (ho:o.op=.call { callee:=.builtin .append,args:=#[s,y],argTypes:=#[sl,sl] }) (u1:Tryz.prog.underlying sl=some (.slice e)) (u2:Tryz.prog.info? e=some i0) (u3:i0.zero=some z) (u4:i0.size=1) (u5:i0.bytes=bytes) (u6:z.cells.size=1) (u7:bytes≤24)
  (w:World) (lo k:Nat) (L:List RowV) (r:RowV) (hS:SepL w lo L) (hlo:lo≤w.heap.size) (hk:L[k]? = some r) (ht:r.t=e) (hs:a.eval s=r.v) (u:Value) (hu:u.oneCell'=true)
  (hx:a.eval y=.slice (some ⟨w.heap.size,0,none⟩) 1 1) (hl:r.vs.length≤1048576)
  (h:∀v' w',SepL w' lo (L.set k ⟨e,v',r.vs++[u]⟩)→Below lo w w'→w.heap.size≤w'.heap.size→wpList Tryz.prog ops Q rest (a.put o.dst v') w'):
  wpList Tryz.prog ops Q (o :: rest) a (w.alloc (.cells #[u] t0)):=by
 refine wpList_plain hgd fun K hK=>?_
 obtain ⟨v',w',hrun,r1,r2,r3⟩:=run_sepApp (ty:=o.type) (t0:=t0) u1 u2 u3 u4 u5 u6 u7 w lo k L r hS hlo hk ht u hu hl
 unfold Oper.wp
 simp [execOp,ho,resolve,invoke,builtin,hs,hx,hrun,Result.andThen]
 exact hK _ _ (h v' w' r1 r2 r3)
theorem sepStep {ops:Array Oper}{o:Oper}{a:Act}{K:Act→World→Prop}{Q:Exit→Act→World→Prop}{E:Prop} (hgd:o.guard=none) (s y:Operand) {sl e t0:TypeId}{i0:TypeInfo}{z:Value}{bytes:Nat} (u:Value)
  (ho:o.op=.call { callee:=.builtin .append,args:=#[s,y],argTypes:=#[sl,sl] }) (u1:Tryz.prog.underlying sl=some (.slice e)) (u2:Tryz.prog.info? e=some i0) (u3:i0.zero=some z) (u4:i0.size=1) (u5:i0.bytes=bytes) (u6:z.cells.size=1) (u7:bytes≤24)
  (W w:World) (hW:W=w.alloc (.cells #[u] t0)) (lo k:Nat) (L:List RowV) (r:RowV) (hS:SepL w lo L) (hlo:lo≤w.heap.size) (hk:L[k]? = some r) (ht:r.t=e) (hs:a.eval s=r.v) (hu:u.oneCell'=true)
  (hx:a.eval y=.slice (some ⟨w.heap.size,0,none⟩) 1 1) (hl:r.vs.length≤1048576)
  (h:∀v' w',SepL w' lo (L.set k ⟨e,v',r.vs++[u]⟩)→Below lo w w'→w.heap.size≤w'.heap.size→K (a.put o.dst v') w'):
  if Region.wanted o (yielded ops a.tmps)=true then Oper.wp Tryz.prog o a W K Q else E:=by
 subst hW
 have hw:Region.wanted o (yielded ops a.tmps)=true:=by simp [Region.wanted,hgd]
 rw [if_pos hw]
 obtain ⟨v',w',hrun,r1,r2,r3⟩:=run_sepApp (ty:=o.type) (t0:=t0) u1 u2 u3 u4 u5 u6 u7 w lo k L r hS hlo hk ht u hu hl
 unfold Oper.wp
 simp [execOp,ho,resolve,invoke,builtin,hs,hx,hrun,Result.andThen]
 exact h v' w' r1 r2 r3
end Go.Proofs.YtkapoldjcpfdgaaGreatDoor
