/- The console's table of commands: the program's. -/
import Derived.Maps.OwnSet
import Derived.Maps.OwnOps
import Derived.Test.YtkapoldjcpfdgaaGreatDoorMbt
set_option maxHeartbeats 4000000
set_option maxRecDepth 100000
namespace Go.Proofs.YtkapoldjcpfdgaaGreatDoor
open Go.ChangeShapes Go.WideShapes Go.ChangeAt Go.RowKit
def selfR (v:Value):Option (DataW Value × List MemPlace):=some (.held v,[])
theorem strK:Maps.Keyed Tryz.prog 9:=Maps.string_keyed Tryz.underlying9
def tabD:List (List UInt8 × Value)→DataW Value
 | []=>.map []
 | p :: r=>(tabD r).put (.string p.1) (.held p.2)
theorem tabD_map:∀T,Maps.IsMap (tabD T)
 | []=>⟨_,rfl⟩
 | p :: r=>by
  obtain ⟨es,h⟩:=tabD_map r
  rw [tabD,h]
  exact ⟨_,rfl⟩
def lookT:List (List UInt8 × Value)→List UInt8→Option Value
 | [],_=>none
 | p :: r,s=>if p.1=s then some p.2 else lookT r s
theorem tabD_at:∀(T:List (List UInt8 × Value)) (s:List UInt8) (z:Value),Maps.has (tabD T) (.string s)=(lookT T s).isSome∧(tabD T).atKey (.string s) (.held z)=.held ((lookT T s).getD z)
 | [],s,z=>⟨rfl,rfl⟩
 | p :: r,s,z=>by
  obtain ⟨h1,h2⟩:=tabD_at r s z
  rw [tabD,lookT]
  by_cases h:p.1=s
  ·rw [if_pos h,←h]
   exact ⟨Maps.has_put_same (tabD_map r) (by trivial) _,Maps.atKey_put_same (tabD_map r) (by trivial) _ _⟩
  ·have hne:(Lit.string s)≠.string p.1:=fun e=>by injection e with e;exact h e.symm
   rw [if_neg h,Maps.has_put_other hne,Maps.atKey_put_other hne]
   exact ⟨h1,h2⟩
structure RunM (W V:World) (b:Nat) (n:Nat) (T:List (List UInt8 × Value)):Prop where
 own:V.ownsMap Tryz.prog 9 selfR (W.heap.size+1) n (tabD T)
 q:V.cell? ⟨W.heap.size,0,none⟩=some (.pointer (some ⟨b,0,none⟩))
 be:Below W.heap.size W V
theorem runMStart (W:World) (b:Nat):RunM W ((W.alloc (.cells #[.pointer (some ⟨b,0,none⟩)] 52)).alloc (.map #[] 0)) b 0 []:=by
 have b1:Below W.heap.size W (W.alloc (.cells #[.pointer (some ⟨b,0,none⟩)] 52)):=(Below.refl _ W).alloc (Nat.le_refl _) _
 have c0:(W.alloc (.cells #[.pointer (some ⟨b,0,none⟩)] 52)).cell? ⟨W.heap.size,0,none⟩=some (.pointer (some ⟨b,0,none⟩)):=by simp
 have s1:(W.alloc (.cells #[.pointer (some ⟨b,0,none⟩)] 52)).heap.size=W.heap.size+1:=World.size_alloc _ _
 generalize W.alloc (.cells #[.pointer (some ⟨b,0,none⟩)] 52)=V at *
 have b2:Below V.heap.size V (V.alloc (.map #[] 0)):=(Below.refl _ V).alloc (Nat.le_refl _) _
 refine ⟨?_,(b2.cell (p:=⟨W.heap.size,0,none⟩) (by show W.heap.size<_;omega)).trans c0,b1.trans (b2.mono (by omega))⟩
 rw [←s1]
 exact World.ownsMap_made _ _ _ _
theorem RunM.put {W V:World}{b n:Nat}{T:List (List UInt8 × Value)} (h:RunM W V b n T) (l:List UInt8) (u:Value) (hn:n<100) (hs:l.length≤100):
  ∃V',(Instr.mapUpdate 109 (.map (some (W.heap.size+1))) (.string ⟨l.toArray⟩) u).run Tryz.prog V=.ok () V'∧RunM W V' b (n+1) ((l,u) :: T):=by
 obtain ⟨V',h1,h2,h3⟩:=h.own.update strK Tryz.underlying109 (by unfold maxLen;omega) (key:=.string ⟨l.toArray⟩) (val:=u) (WideMaps.keyOf_string_mk (P:=Tryz.prog) Tryz.underlying9 (by show l.toArray.size≤_;rw [List.size_toArray];unfold maxLen;omega)) (d:=.held u) (ps:=[]) rfl
 have hs2:=h3.size
 have hlt:=h.own.lt
 have h2':V'.ownsMap Tryz.prog 9 selfR (W.heap.size+1) (n+1) (tabD ((l,u) :: T)):=by simpa [tabD] using h2
 refine ⟨V',h1,h2',?_,h.be.grown h3 h.be.size (fun k hk=>by cases hk;omega)⟩
 have hq:=h.q
 have hb:V'.heap[W.heap.size]? = V.heap[W.heap.size]?:=h3.block _ (by omega) (by simp)
 unfold World.cell? at hq ⊢
 simp only at hq ⊢
 rw [hb]
 exact hq
def gate (n m:Nat) (o:Option (List UInt8 × TourV)):Option (List UInt8 × TourV):=if n=m then o else none
def runF (x:TourV) (s:List UInt8) (ws:List (List UInt8)):Option (List UInt8 × TourV):=
 if ([108,97,110,100,97,117]:List UInt8)=s then gate ws.length 1 (outA x (pnB (wd ws 0)) (if landB (pnF (wd ws 0)) then [121,101,115] else [110,111])) else
 if ([109,97,116,99,104]:List UInt8)=s then gate ws.length 2 (outA x (numB (wd ws 0) && numB (wd ws 1)) (Lib.itoa (waysF (numV (wd ws 0)) (numV (wd ws 1))))) else
 if ([112,108,97,110]:List UInt8)=s then gate ws.length 1 (planA x (numB (wd ws 0)) (numV (wd ws 0))) else
 if ([99,105,114,99,108,101]:List UInt8)=s then gate ws.length 2 (outA x (numB (wd ws 0) && numB (wd ws 1)) (roundText (numV (wd ws 0)) (circF (numV (wd ws 0))) (numV (wd ws 1)))) else
 if ([115,119,105,115,115]:List UInt8)=s then gate ws.length 1 (outA x (numB (wd ws 0)) (lstF ((spF x (numV (wd ws 0))).getD []) (spF x (numV (wd ws 0))).isSome)) else
 if ([119,105,110]:List UInt8)=s then gate ws.length 1 (outA x (numB (wd ws 0)) (lstF ((bfF x (numV (wd ws 0))).getD []) (bfF x (numV (wd ws 0))).isSome)) else
 if ([98,114,97,99,107,101,116]:List UInt8)=s then gate ws.length 1 (outA x (pnB (wd ws 0)) (brText x (pnF (wd ws 0)))) else
 if ([100,111,117,98,108,101]:List UInt8)=s then gate ws.length 0 (outA x true (fmtF (dbF x))) else
 if ([99,121,99,108,101,115]:List UInt8)=s then gate ws.length 0 (outA x true (Lib.itoa (fullCF x))) else
 if ([119,97,121,115]:List UInt8)=s then gate ws.length 0 (outA x true (Lib.itoa (fullWF x))) else
 if ([115,97,102,101]:List UInt8)=s then gate ws.length 0 (outA x true (safeText x)) else
 if ([111,114,100,101,114]:List UInt8)=s then gate ws.length 0 (outA x true (orderText x)) else
 if ([107,105,110,103,115]:List UInt8)=s then gate ws.length 0 (outA x true (kingText x)) else
 if ([115,99,111,114,101,115]:List UInt8)=s then gate ws.length 0 (outA x true (scoreText x)) else
 if ([115,104,111,119]:List UInt8)=s then gate ws.length 0 (outA x true (tourText x)) else
 if ([110,97,109,101,115]:List UInt8)=s then gate ws.length 1 (setA x (pnB (wd ws 0)) (rnmF x (pnF (wd ws 0)))) else
 if ([115,113,117,97,114,101,115]:List UInt8)=s then gate ws.length 1 (setA x (numB (wd ws 0)) (squareF (numV (wd ws 0)))) else
 if ([115,116,114,97,105,103,104,116]:List UInt8)=s then gate ws.length 0 (setA x true (strF x (bstF x))) else
 if ([114,101,97,108,105,122,101]:List UInt8)=s then gate ws.length 1 (setA x (pnB (wd ws 0)) (rzF (pnF (wd ws 0)))) else
 if ([112,97,114,116]:List UInt8)=s then gate ws.length 1 (setA x (numB (wd ws 0)) (partF x (numV (wd ws 0)))) else
 if ([102,108,105,112]:List UInt8)=s then gate ws.length 2 (setA x (numB (wd ws 0) && numB (wd ws 1)) (flipF x (numV (wd ws 0)) (numV (wd ws 1)))) else
 if ([116,117,114,110]:List UInt8)=s then gate ws.length 0 (setA x true (turnF x)) else
 if ([116,111,117,114]:List UInt8)=s then gate ws.length 1 (setA x true (parF (wd ws 0))) else
 none
def tabT (W:World) (b:Nat):List (List UInt8 × Value):=[([108,97,110,100,97,117],.agg #[.int .i64 1,.func (.func 108) #[.pointer (some ⟨b,0,none⟩)] #[]]),([109,97,116,99,104],.agg #[.int .i64 2,.func (.func 106) #[] #[.pointer (some ⟨W.heap.size,0,none⟩)]]),([112,108,97,110],.agg #[.int .i64 1,.func (.func 105) #[.pointer (some ⟨b,0,none⟩)] #[]]),([99,105,114,99,108,101],.agg #[.int .i64 2,.func (.func 104) #[.pointer (some ⟨b,0,none⟩)] #[]]),([115,119,105,115,115],.agg #[.int .i64 1,.func (.func 103) #[.pointer (some ⟨b,0,none⟩)] #[]]),([119,105,110],.agg #[.int .i64 1,.func (.func 100) #[] #[.pointer (some ⟨W.heap.size,0,none⟩)]]),([98,114,97,99,107,101,116],.agg #[.int .i64 1,.func (.func 98) #[] #[.pointer (some ⟨W.heap.size,0,none⟩)]]),([100,111,117,98,108,101],.agg #[.int .i64 0,.func (.func 95) #[] #[.pointer (some ⟨W.heap.size,0,none⟩)]]),([99,121,99,108,101,115],.agg #[.int .i64 0,.func (.func 93) #[] #[.pointer (some ⟨W.heap.size,0,none⟩)]]),([119,97,121,115],.agg #[.int .i64 0,.func (.func 91) #[] #[.pointer (some ⟨W.heap.size,0,none⟩)]]),([115,97,102,101],.agg #[.int .i64 0,.func (.func 89) #[] #[.pointer (some ⟨W.heap.size,0,none⟩)]]),([111,114,100,101,114],.agg #[.int .i64 0,.func (.func 87) #[] #[.pointer (some ⟨W.heap.size,0,none⟩)]]),([107,105,110,103,115],.agg #[.int .i64 0,.func (.func 85) #[] #[.pointer (some ⟨W.heap.size,0,none⟩)]]),([115,99,111,114,101,115],.agg #[.int .i64 0,.func (.func 83) #[] #[.pointer (some ⟨W.heap.size,0,none⟩)]]),([115,104,111,119],.agg #[.int .i64 0,.func (.func 81) #[] #[.pointer (some ⟨W.heap.size,0,none⟩)]]),([110,97,109,101,115],.agg #[.int .i64 1,.func (.func 79) #[] #[.pointer (some ⟨W.heap.size,0,none⟩)]]),([115,113,117,97,114,101,115],.agg #[.int .i64 1,.func (.func 77) #[] #[.pointer (some ⟨W.heap.size,0,none⟩)]]),([115,116,114,97,105,103,104,116],.agg #[.int .i64 0,.func (.func 74) #[] #[.pointer (some ⟨W.heap.size,0,none⟩)]]),([114,101,97,108,105,122,101],.agg #[.int .i64 1,.func (.func 71) #[] #[.pointer (some ⟨W.heap.size,0,none⟩)]]),([112,97,114,116],.agg #[.int .i64 1,.func (.func 69) #[] #[.pointer (some ⟨W.heap.size,0,none⟩)]]),([102,108,105,112],.agg #[.int .i64 2,.func (.func 66) #[] #[.pointer (some ⟨W.heap.size,0,none⟩)]]),([116,117,114,110],.agg #[.int .i64 0,.func (.func 64) #[] #[.pointer (some ⟨W.heap.size,0,none⟩)]]),([116,111,117,114],.agg #[.int .i64 1,.func (.func 61) #[] #[.pointer (some ⟨W.heap.size,0,none⟩)]])]
theorem gate_no {n m:Nat}{o:Option (List UInt8 × TourV)} (h:n≠m):gate n m o=none:=by unfold gate;rw [if_neg h]
theorem gate_yes {n m:Nat}{o:Option (List UInt8 × TourV)} (h:n=m):gate n m o=o:=by unfold gate;rw [if_pos h]
structure EntB (w0:World) (b bq:Nat) (x:TourV) (ws:List (List UInt8)) (o:Option (List UInt8 × TourV)) (G many:Nat):Prop where
 go:∀V,CoW w0 V b x ws false→ws.length=many→V.cell? ⟨bq,0,none⟩=some (.pointer (some ⟨b,0,none⟩))→Calls Tryz.prog G #[.pointer (some ⟨bq,0,none⟩)] V fun e w'=>CoR w0 V b ws o e w'
 no:ws.length≠many→o=none
 en:∀(args:Array Value) (V:World),(callFunc G args).run Tryz.prog V=.ok (.enter G args) V
structure EntM (w0:World) (b:Nat) (x:TourV) (ws:List (List UInt8)) (o:Option (List UInt8 × TourV)) (G many:Nat):Prop where
 go:∀V,CoW w0 V b x ws false→ws.length=many→Calls Tryz.prog G #[.pointer (some ⟨b,0,none⟩)] V fun e w'=>CoR w0 V b ws o e w'
 no:ws.length≠many→o=none
 en:∀(args:Array Value) (V:World),(callFunc G args).run Tryz.prog V=.ok (.enter G args) V
theorem tab_cases (w0 W:World) (b:Nat) (x:TourV) (ws:List (List UInt8)) (s:List UInt8) (hc:ComP w0) (hl:∀l∈ws,l.length≤1048576) (hbq:W.heap.size≠b):
  (lookT (tabT W b) s=none∧runF x s ws=none) ∨
  (∃G many,lookT (tabT W b) s=some (.agg #[.int .i64 (many:Nat),.func (.func G) #[] #[.pointer (some ⟨W.heap.size,0,none⟩)]])∧EntB w0 b W.heap.size x ws (runF x s ws) G many∧many≤2) ∨
  (∃G many,lookT (tabT W b) s=some (.agg #[.int .i64 (many:Nat),.func (.func G) #[.pointer (some ⟨b,0,none⟩)] #[]])∧EntM w0 b x ws (runF x s ws) G many∧many≤2):=by
 unfold tabT runF
 by_cases h22:([108,97,110,100,97,117]:List UInt8)=s
 ·exact .inr (.inr ⟨108,1,by rw [lookT,if_pos h22];rfl,by rw [if_pos h22];exact ⟨fun V hV hm=>by rw [gate_yes hm];exact landau_co w0 V b x ws hV hc hl hm,fun hm=>gate_no hm,fun _ _=>by kernel_rfl⟩,by decide⟩)
 rw [lookT,if_neg h22,if_neg h22]
 by_cases h21:([109,97,116,99,104]:List UInt8)=s
 ·exact .inr (.inl ⟨106,2,by rw [lookT,if_pos h21];rfl,by rw [if_pos h21];exact ⟨fun V hV hm hq=>by rw [gate_yes hm];exact run19_co w0 V b W.heap.size x ws hV hc hl hm hq hbq,fun hm=>gate_no hm,fun _ _=>by kernel_rfl⟩,by decide⟩)
 rw [lookT,if_neg h21,if_neg h21]
 by_cases h20:([112,108,97,110]:List UInt8)=s
 ·exact .inr (.inr ⟨105,1,by rw [lookT,if_pos h20];rfl,by rw [if_pos h20];exact ⟨fun V hV hm=>by rw [gate_yes hm];exact plan_co w0 V b x ws hV hc hl hm,fun hm=>gate_no hm,fun _ _=>by kernel_rfl⟩,by decide⟩)
 rw [lookT,if_neg h20,if_neg h20]
 by_cases h19:([99,105,114,99,108,101]:List UInt8)=s
 ·exact .inr (.inr ⟨104,2,by rw [lookT,if_pos h19];rfl,by rw [if_pos h19];exact ⟨fun V hV hm=>by rw [gate_yes hm];exact circle_co w0 V b x ws hV hc hl hm,fun hm=>gate_no hm,fun _ _=>by kernel_rfl⟩,by decide⟩)
 rw [lookT,if_neg h19,if_neg h19]
 by_cases h18:([115,119,105,115,115]:List UInt8)=s
 ·exact .inr (.inr ⟨103,1,by rw [lookT,if_pos h18];rfl,by rw [if_pos h18];exact ⟨fun V hV hm=>by rw [gate_yes hm];exact swiss_co w0 V b x ws hV hc hl hm,fun hm=>gate_no hm,fun _ _=>by kernel_rfl⟩,by decide⟩)
 rw [lookT,if_neg h18,if_neg h18]
 by_cases h17:([119,105,110]:List UInt8)=s
 ·exact .inr (.inl ⟨100,1,by rw [lookT,if_pos h17];rfl,by rw [if_pos h17];exact ⟨fun V hV hm hq=>by rw [gate_yes hm];exact run18_co w0 V b W.heap.size x ws hV hc hl hm hq hbq,fun hm=>gate_no hm,fun _ _=>by kernel_rfl⟩,by decide⟩)
 rw [lookT,if_neg h17,if_neg h17]
 by_cases h16:([98,114,97,99,107,101,116]:List UInt8)=s
 ·exact .inr (.inl ⟨98,1,by rw [lookT,if_pos h16];rfl,by rw [if_pos h16];exact ⟨fun V hV hm hq=>by rw [gate_yes hm];exact run17_co w0 V b W.heap.size x ws hV hc hl hm hq hbq,fun hm=>gate_no hm,fun _ _=>by kernel_rfl⟩,by decide⟩)
 rw [lookT,if_neg h16,if_neg h16]
 by_cases h15:([100,111,117,98,108,101]:List UInt8)=s
 ·exact .inr (.inl ⟨95,0,by rw [lookT,if_pos h15];rfl,by rw [if_pos h15];exact ⟨fun V hV hm hq=>by rw [gate_yes hm];exact run16_co w0 V b W.heap.size x ws hV hc hl hm hq hbq,fun hm=>gate_no hm,fun _ _=>by kernel_rfl⟩,by decide⟩)
 rw [lookT,if_neg h15,if_neg h15]
 by_cases h14:([99,121,99,108,101,115]:List UInt8)=s
 ·exact .inr (.inl ⟨93,0,by rw [lookT,if_pos h14];rfl,by rw [if_pos h14];exact ⟨fun V hV hm hq=>by rw [gate_yes hm];exact run15_co w0 V b W.heap.size x ws hV hc hl hm hq hbq,fun hm=>gate_no hm,fun _ _=>by kernel_rfl⟩,by decide⟩)
 rw [lookT,if_neg h14,if_neg h14]
 by_cases h13:([119,97,121,115]:List UInt8)=s
 ·exact .inr (.inl ⟨91,0,by rw [lookT,if_pos h13];rfl,by rw [if_pos h13];exact ⟨fun V hV hm hq=>by rw [gate_yes hm];exact run14_co w0 V b W.heap.size x ws hV hc hl hm hq hbq,fun hm=>gate_no hm,fun _ _=>by kernel_rfl⟩,by decide⟩)
 rw [lookT,if_neg h13,if_neg h13]
 by_cases h12:([115,97,102,101]:List UInt8)=s
 ·exact .inr (.inl ⟨89,0,by rw [lookT,if_pos h12];rfl,by rw [if_pos h12];exact ⟨fun V hV hm hq=>by rw [gate_yes hm];exact run13_co w0 V b W.heap.size x ws hV hc hl hm hq hbq,fun hm=>gate_no hm,fun _ _=>by kernel_rfl⟩,by decide⟩)
 rw [lookT,if_neg h12,if_neg h12]
 by_cases h11:([111,114,100,101,114]:List UInt8)=s
 ·exact .inr (.inl ⟨87,0,by rw [lookT,if_pos h11];rfl,by rw [if_pos h11];exact ⟨fun V hV hm hq=>by rw [gate_yes hm];exact run12_co w0 V b W.heap.size x ws hV hc hl hm hq hbq,fun hm=>gate_no hm,fun _ _=>by kernel_rfl⟩,by decide⟩)
 rw [lookT,if_neg h11,if_neg h11]
 by_cases h10:([107,105,110,103,115]:List UInt8)=s
 ·exact .inr (.inl ⟨85,0,by rw [lookT,if_pos h10];rfl,by rw [if_pos h10];exact ⟨fun V hV hm hq=>by rw [gate_yes hm];exact run11_co w0 V b W.heap.size x ws hV hc hl hm hq hbq,fun hm=>gate_no hm,fun _ _=>by kernel_rfl⟩,by decide⟩)
 rw [lookT,if_neg h10,if_neg h10]
 by_cases h9:([115,99,111,114,101,115]:List UInt8)=s
 ·exact .inr (.inl ⟨83,0,by rw [lookT,if_pos h9];rfl,by rw [if_pos h9];exact ⟨fun V hV hm hq=>by rw [gate_yes hm];exact run10_co w0 V b W.heap.size x ws hV hc hl hm hq hbq,fun hm=>gate_no hm,fun _ _=>by kernel_rfl⟩,by decide⟩)
 rw [lookT,if_neg h9,if_neg h9]
 by_cases h8:([115,104,111,119]:List UInt8)=s
 ·exact .inr (.inl ⟨81,0,by rw [lookT,if_pos h8];rfl,by rw [if_pos h8];exact ⟨fun V hV hm hq=>by rw [gate_yes hm];exact run9_co w0 V b W.heap.size x ws hV hc hl hm hq hbq,fun hm=>gate_no hm,fun _ _=>by kernel_rfl⟩,by decide⟩)
 rw [lookT,if_neg h8,if_neg h8]
 by_cases h7:([110,97,109,101,115]:List UInt8)=s
 ·exact .inr (.inl ⟨79,1,by rw [lookT,if_pos h7];rfl,by rw [if_pos h7];exact ⟨fun V hV hm hq=>by rw [gate_yes hm];exact run8_co w0 V b W.heap.size x ws hV hc hl hm hq hbq,fun hm=>gate_no hm,fun _ _=>by kernel_rfl⟩,by decide⟩)
 rw [lookT,if_neg h7,if_neg h7]
 by_cases h6:([115,113,117,97,114,101,115]:List UInt8)=s
 ·exact .inr (.inl ⟨77,1,by rw [lookT,if_pos h6];rfl,by rw [if_pos h6];exact ⟨fun V hV hm hq=>by rw [gate_yes hm];exact run7_co w0 V b W.heap.size x ws hV hc hl hm hq hbq,fun hm=>gate_no hm,fun _ _=>by kernel_rfl⟩,by decide⟩)
 rw [lookT,if_neg h6,if_neg h6]
 by_cases h5:([115,116,114,97,105,103,104,116]:List UInt8)=s
 ·exact .inr (.inl ⟨74,0,by rw [lookT,if_pos h5];rfl,by rw [if_pos h5];exact ⟨fun V hV hm hq=>by rw [gate_yes hm];exact run6_co w0 V b W.heap.size x ws hV hc hl hm hq hbq,fun hm=>gate_no hm,fun _ _=>by kernel_rfl⟩,by decide⟩)
 rw [lookT,if_neg h5,if_neg h5]
 by_cases h4:([114,101,97,108,105,122,101]:List UInt8)=s
 ·exact .inr (.inl ⟨71,1,by rw [lookT,if_pos h4];rfl,by rw [if_pos h4];exact ⟨fun V hV hm hq=>by rw [gate_yes hm];exact run5_co w0 V b W.heap.size x ws hV hc hl hm hq hbq,fun hm=>gate_no hm,fun _ _=>by kernel_rfl⟩,by decide⟩)
 rw [lookT,if_neg h4,if_neg h4]
 by_cases h3:([112,97,114,116]:List UInt8)=s
 ·exact .inr (.inl ⟨69,1,by rw [lookT,if_pos h3];rfl,by rw [if_pos h3];exact ⟨fun V hV hm hq=>by rw [gate_yes hm];exact run4_co w0 V b W.heap.size x ws hV hc hl hm hq hbq,fun hm=>gate_no hm,fun _ _=>by kernel_rfl⟩,by decide⟩)
 rw [lookT,if_neg h3,if_neg h3]
 by_cases h2:([102,108,105,112]:List UInt8)=s
 ·exact .inr (.inl ⟨66,2,by rw [lookT,if_pos h2];rfl,by rw [if_pos h2];exact ⟨fun V hV hm hq=>by rw [gate_yes hm];exact run3_co w0 V b W.heap.size x ws hV hc hl hm hq hbq,fun hm=>gate_no hm,fun _ _=>by kernel_rfl⟩,by decide⟩)
 rw [lookT,if_neg h2,if_neg h2]
 by_cases h1:([116,117,114,110]:List UInt8)=s
 ·exact .inr (.inl ⟨64,0,by rw [lookT,if_pos h1];rfl,by rw [if_pos h1];exact ⟨fun V hV hm hq=>by rw [gate_yes hm];exact run2_co w0 V b W.heap.size x ws hV hc hl hm hq hbq,fun hm=>gate_no hm,fun _ _=>by kernel_rfl⟩,by decide⟩)
 rw [lookT,if_neg h1,if_neg h1]
 by_cases h0:([116,111,117,114]:List UInt8)=s
 ·exact .inr (.inl ⟨61,1,by rw [lookT,if_pos h0];rfl,by rw [if_pos h0];exact ⟨fun V hV hm hq=>by rw [gate_yes hm];exact run1_co w0 V b W.heap.size x ws hV hc hl hm hq hbq,fun hm=>gate_no hm,fun _ _=>by kernel_rfl⟩,by decide⟩)
 rw [lookT,if_neg h0,if_neg h0]
 exact .inl ⟨rfl,rfl⟩
theorem zero92 (w:World):(zeroValue 92).run Tryz.prog w=.ok (.agg #[.int .i64 0,.nilFunc]) w:=by kernel_rfl
theorem RunM.look {W V:World}{b n:Nat}{T:List (List UInt8 × Value)} (h:RunM W V b n T) (s:List UInt8) (hs:s.length≤1048576):
  (Instr.lookup 109 (.map (some (W.heap.size+1))) (.string ⟨s.toArray⟩) true).run Tryz.prog V=.ok (.tuple #[(lookT T s).getD (.agg #[.int .i64 0,.nilFunc]),.bool (lookT T s).isSome]) V:=by
 obtain ⟨v,ps,h1,h2⟩:=h.own.look_ok strK Tryz.underlying109 (zero92 V) (zd:=.held (.agg #[.int .i64 0,.nilFunc])) (zp:=[]) rfl (key:=.string ⟨s.toArray⟩) (WideMaps.keyOf_string_mk (P:=Tryz.prog) Tryz.underlying9 (by show s.toArray.size≤_;rw [List.size_toArray];unfold maxLen;omega))
 obtain ⟨t1,t2⟩:=tabD_at T s (.agg #[.int .i64 0,.nilFunc])
 have e1:(⟨s.toArray⟩:ByteArray).data.toList=s:=rfl
 rw [e1] at h1 h2
 rw [t2] at h2
 unfold selfR at h2
 injection h2 with h2
 injection h2 with h2 _
 injection h2 with h2
 rw [h1,t1,h2]
theorem runEnt {w0 W V:World}{b n:Nat}{T:List (List UInt8 × Value)}{x:TourV}{ws:List (List UInt8)} (h:RunM W V b n T) (hA:CoW w0 W b x ws false) (u0 u1:Value):
  ∃V',V'=V.alloc (.cells #[u0,u1] 92)∧CoW w0 V' b x ws false∧V'.cell? ⟨V.heap.size,0,none⟩=some u0∧V'.cell? ⟨V.heap.size,1,none⟩=some u1∧V'.cell? ⟨W.heap.size,0,none⟩=some (.pointer (some ⟨b,0,none⟩))∧Keep b (b+1) W V':=by
 have b1:Below V.heap.size V (V.alloc (.cells #[u0,u1] 92)):=(Below.refl _ V).alloc (Nat.le_refl _) _
 have c0:(V.alloc (.cells #[u0,u1] 92)).cell? ⟨V.heap.size,0,none⟩=some u0:=by simp
 have c1:(V.alloc (.cells #[u0,u1] 92)).cell? ⟨V.heap.size,1,none⟩=some u1:=by simp
 have hlt:=h.own.lt
 have BW:Below W.heap.size W (V.alloc (.cells #[u0,u1] 92)):=h.be.trans (b1.mono (by omega))
 exact ⟨_,rfl,hA.grow BW,c0,c1,(b1.cell (p:=⟨W.heap.size,0,none⟩) (by show W.heap.size<_;omega)).trans h.q,Keep.ofBe BW⟩
theorem CoR.bad {w0 W V V':World}{b:Nat}{x:TourV}{ws:List (List UInt8)} (h:CoW w0 V b x ws false) (K:Keep b (b+1) W V) (hV:V'=V.setCell ⟨b,3,none⟩ (.bool true)) {o:Option (List UInt8 × TourV)} (ho:o=none):
  CoR w0 W b ws o (.returned (.string ⟨#[]⟩)) V':=by
 obtain ⟨A,c,B,d,lo,hi,hA⟩:=h.names
 obtain ⟨h1,h2⟩:=hA.setBad true
 subst hV
 exact ⟨[],x,true,⟨rfl,K.trans h2,h1.co⟩,ho⟩
theorem run_none (w0 W:World) (b:Nat) (x:TourV) (ws:List (List UInt8)) (s:List UInt8) (o:Option (List UInt8 × TourV)) (h:CoW w0 W b x ws false) (hs:s.length≤1048576) (hk:lookT (tabT W b) s=none) (ho:o=none):
  Calls Tryz.prog 29 #[.pointer (some ⟨b,0,none⟩),.string ⟨s.toArray⟩] W fun e w'=>CoR w0 W b ws o e w':=by
 have HM0:=runMStart W b
 obtain ⟨V1,e1,HM1⟩:=HM0.put [116,111,117,114] (.agg #[.int .i64 1,.func (.func 61) #[] #[.pointer (some ⟨W.heap.size,0,none⟩)]]) (by decide) (by decide)
 clear HM0
 obtain ⟨V2,e2,HM2⟩:=HM1.put [116,117,114,110] (.agg #[.int .i64 0,.func (.func 64) #[] #[.pointer (some ⟨W.heap.size,0,none⟩)]]) (by decide) (by decide)
 clear HM1
 obtain ⟨V3,e3,HM3⟩:=HM2.put [102,108,105,112] (.agg #[.int .i64 2,.func (.func 66) #[] #[.pointer (some ⟨W.heap.size,0,none⟩)]]) (by decide) (by decide)
 clear HM2
 obtain ⟨V4,e4,HM4⟩:=HM3.put [112,97,114,116] (.agg #[.int .i64 1,.func (.func 69) #[] #[.pointer (some ⟨W.heap.size,0,none⟩)]]) (by decide) (by decide)
 clear HM3
 obtain ⟨V5,e5,HM5⟩:=HM4.put [114,101,97,108,105,122,101] (.agg #[.int .i64 1,.func (.func 71) #[] #[.pointer (some ⟨W.heap.size,0,none⟩)]]) (by decide) (by decide)
 clear HM4
 obtain ⟨V6,e6,HM6⟩:=HM5.put [115,116,114,97,105,103,104,116] (.agg #[.int .i64 0,.func (.func 74) #[] #[.pointer (some ⟨W.heap.size,0,none⟩)]]) (by decide) (by decide)
 clear HM5
 obtain ⟨V7,e7,HM7⟩:=HM6.put [115,113,117,97,114,101,115] (.agg #[.int .i64 1,.func (.func 77) #[] #[.pointer (some ⟨W.heap.size,0,none⟩)]]) (by decide) (by decide)
 clear HM6
 obtain ⟨V8,e8,HM8⟩:=HM7.put [110,97,109,101,115] (.agg #[.int .i64 1,.func (.func 79) #[] #[.pointer (some ⟨W.heap.size,0,none⟩)]]) (by decide) (by decide)
 clear HM7
 obtain ⟨V9,e9,HM9⟩:=HM8.put [115,104,111,119] (.agg #[.int .i64 0,.func (.func 81) #[] #[.pointer (some ⟨W.heap.size,0,none⟩)]]) (by decide) (by decide)
 clear HM8
 obtain ⟨V10,e10,HM10⟩:=HM9.put [115,99,111,114,101,115] (.agg #[.int .i64 0,.func (.func 83) #[] #[.pointer (some ⟨W.heap.size,0,none⟩)]]) (by decide) (by decide)
 clear HM9
 obtain ⟨V11,e11,HM11⟩:=HM10.put [107,105,110,103,115] (.agg #[.int .i64 0,.func (.func 85) #[] #[.pointer (some ⟨W.heap.size,0,none⟩)]]) (by decide) (by decide)
 clear HM10
 obtain ⟨V12,e12,HM12⟩:=HM11.put [111,114,100,101,114] (.agg #[.int .i64 0,.func (.func 87) #[] #[.pointer (some ⟨W.heap.size,0,none⟩)]]) (by decide) (by decide)
 clear HM11
 obtain ⟨V13,e13,HM13⟩:=HM12.put [115,97,102,101] (.agg #[.int .i64 0,.func (.func 89) #[] #[.pointer (some ⟨W.heap.size,0,none⟩)]]) (by decide) (by decide)
 clear HM12
 obtain ⟨V14,e14,HM14⟩:=HM13.put [119,97,121,115] (.agg #[.int .i64 0,.func (.func 91) #[] #[.pointer (some ⟨W.heap.size,0,none⟩)]]) (by decide) (by decide)
 clear HM13
 obtain ⟨V15,e15,HM15⟩:=HM14.put [99,121,99,108,101,115] (.agg #[.int .i64 0,.func (.func 93) #[] #[.pointer (some ⟨W.heap.size,0,none⟩)]]) (by decide) (by decide)
 clear HM14
 obtain ⟨V16,e16,HM16⟩:=HM15.put [100,111,117,98,108,101] (.agg #[.int .i64 0,.func (.func 95) #[] #[.pointer (some ⟨W.heap.size,0,none⟩)]]) (by decide) (by decide)
 clear HM15
 obtain ⟨V17,e17,HM17⟩:=HM16.put [98,114,97,99,107,101,116] (.agg #[.int .i64 1,.func (.func 98) #[] #[.pointer (some ⟨W.heap.size,0,none⟩)]]) (by decide) (by decide)
 clear HM16
 obtain ⟨V18,e18,HM18⟩:=HM17.put [119,105,110] (.agg #[.int .i64 1,.func (.func 100) #[] #[.pointer (some ⟨W.heap.size,0,none⟩)]]) (by decide) (by decide)
 clear HM17
 obtain ⟨V19,e19,HM19⟩:=HM18.put [115,119,105,115,115] (.agg #[.int .i64 1,.func (.func 103) #[.pointer (some ⟨b,0,none⟩)] #[]]) (by decide) (by decide)
 have q18:=HM18.q
 clear HM18
 obtain ⟨V20,e20,HM20⟩:=HM19.put [99,105,114,99,108,101] (.agg #[.int .i64 2,.func (.func 104) #[.pointer (some ⟨b,0,none⟩)] #[]]) (by decide) (by decide)
 have q19:=HM19.q
 clear HM19
 obtain ⟨V21,e21,HM21⟩:=HM20.put [112,108,97,110] (.agg #[.int .i64 1,.func (.func 105) #[.pointer (some ⟨b,0,none⟩)] #[]]) (by decide) (by decide)
 have q20:=HM20.q
 clear HM20
 obtain ⟨V22,e22,HM22⟩:=HM21.put [109,97,116,99,104] (.agg #[.int .i64 2,.func (.func 106) #[] #[.pointer (some ⟨W.heap.size,0,none⟩)]]) (by decide) (by decide)
 clear HM21
 obtain ⟨V23,e23,HM23⟩:=HM22.put [108,97,110,100,97,117] (.agg #[.int .i64 1,.func (.func 108) #[.pointer (some ⟨b,0,none⟩)] #[]]) (by decide) (by decide)
 have q22:=HM22.q
 clear HM22
 have HM:RunM W V23 b 23 (tabT W b):=HM23
 clear HM23
 have hlook:=HM.look s hs
 rw [hk] at hlook
 have hmk:=@run_makeMap Tryz.prog
 simp only [Option.getD_none,Option.isSome_none] at hlook
 obtain ⟨V',hV',HC,g0,g1,gq,hK⟩:=runEnt HM h (.int .i64 0) (.nilFunc)
 obtain ⟨A,c,B,d,lo,hi,hA⟩:=HC.names
 obtain ⟨-,-,c2,-,-⟩:=con_cells hA.cl
 have HCO:=Lib.hid HC
 have HK:=Lib.hid hK
 obtain ⟨n,hn⟩:∃n,ws.length=n:=⟨_,rfl⟩
 have HN:Hid (ws.length=n):=hn
 rw [hn] at c2
 clear hA HC hK HM h hs hn
 go_enter Tryz.func29,Tryz.ntmps29
 go_wp2_with fail
 rw [←hV']
 clear hV' e1 e2 e3 e4 e5 e6 e7 e8 e9 e10 e11 e12 e13 e14 e15 e16 e17 e18 e19 e20 e21 e22 e23 q18 q19 q20 q22 hlook hmk hk
 go_quiet (fail)
 rename_i nq
 have HCD:Hid (CoW w0 (V'.drewN nq) b x ws false):=HCO.out.grow (below_of_drewN _ V' nq)
 have gqd:(V'.drewN nq).cell? ⟨W.heap.size,0,none⟩=some (.pointer (some ⟨b,0,none⟩)):=gq
 have HKD:Hid (Keep b (b+1) W (V'.drewN nq)):=HK.out.trans (Keep.ofBe (below_of_drewN _ V' nq))
 clear g0 g1 gq c2 HCO HK
 generalize V'.drewN nq=V2 at *
 obtain ⟨A1,c1,B1,d1,lo1,hi1,hA1⟩:=HCD.out.names
 obtain ⟨-,-,-,c3,f3⟩:=con_cells hA1.cl
 have f3:=f3 3
 have gq2:V2.cell? ⟨W.heap.size,0,none⟩=some (.pointer (some ⟨b,0,none⟩)):=gqd
 clear hA1
 go_wp2
 go_ret
 exact CoR.bad HCD.out HKD.out rfl ho
theorem run_len (w0 W:World) (b:Nat) (x:TourV) (ws:List (List UInt8)) (s:List UInt8) (o:Option (List UInt8 × TourV)) (h:CoW w0 W b x ws false) (hs:s.length≤1048576) (G many:Nat) (pre caps:Array Value) (hk:lookT (tabT W b) s=some (.agg #[.int .i64 (many:Nat),.func (.func G) pre caps])) (hm:ws.length≠many) (ho:o=none):
  Calls Tryz.prog 29 #[.pointer (some ⟨b,0,none⟩),.string ⟨s.toArray⟩] W fun e w'=>CoR w0 W b ws o e w':=by
 have HM0:=runMStart W b
 obtain ⟨V1,e1,HM1⟩:=HM0.put [116,111,117,114] (.agg #[.int .i64 1,.func (.func 61) #[] #[.pointer (some ⟨W.heap.size,0,none⟩)]]) (by decide) (by decide)
 clear HM0
 obtain ⟨V2,e2,HM2⟩:=HM1.put [116,117,114,110] (.agg #[.int .i64 0,.func (.func 64) #[] #[.pointer (some ⟨W.heap.size,0,none⟩)]]) (by decide) (by decide)
 clear HM1
 obtain ⟨V3,e3,HM3⟩:=HM2.put [102,108,105,112] (.agg #[.int .i64 2,.func (.func 66) #[] #[.pointer (some ⟨W.heap.size,0,none⟩)]]) (by decide) (by decide)
 clear HM2
 obtain ⟨V4,e4,HM4⟩:=HM3.put [112,97,114,116] (.agg #[.int .i64 1,.func (.func 69) #[] #[.pointer (some ⟨W.heap.size,0,none⟩)]]) (by decide) (by decide)
 clear HM3
 obtain ⟨V5,e5,HM5⟩:=HM4.put [114,101,97,108,105,122,101] (.agg #[.int .i64 1,.func (.func 71) #[] #[.pointer (some ⟨W.heap.size,0,none⟩)]]) (by decide) (by decide)
 clear HM4
 obtain ⟨V6,e6,HM6⟩:=HM5.put [115,116,114,97,105,103,104,116] (.agg #[.int .i64 0,.func (.func 74) #[] #[.pointer (some ⟨W.heap.size,0,none⟩)]]) (by decide) (by decide)
 clear HM5
 obtain ⟨V7,e7,HM7⟩:=HM6.put [115,113,117,97,114,101,115] (.agg #[.int .i64 1,.func (.func 77) #[] #[.pointer (some ⟨W.heap.size,0,none⟩)]]) (by decide) (by decide)
 clear HM6
 obtain ⟨V8,e8,HM8⟩:=HM7.put [110,97,109,101,115] (.agg #[.int .i64 1,.func (.func 79) #[] #[.pointer (some ⟨W.heap.size,0,none⟩)]]) (by decide) (by decide)
 clear HM7
 obtain ⟨V9,e9,HM9⟩:=HM8.put [115,104,111,119] (.agg #[.int .i64 0,.func (.func 81) #[] #[.pointer (some ⟨W.heap.size,0,none⟩)]]) (by decide) (by decide)
 clear HM8
 obtain ⟨V10,e10,HM10⟩:=HM9.put [115,99,111,114,101,115] (.agg #[.int .i64 0,.func (.func 83) #[] #[.pointer (some ⟨W.heap.size,0,none⟩)]]) (by decide) (by decide)
 clear HM9
 obtain ⟨V11,e11,HM11⟩:=HM10.put [107,105,110,103,115] (.agg #[.int .i64 0,.func (.func 85) #[] #[.pointer (some ⟨W.heap.size,0,none⟩)]]) (by decide) (by decide)
 clear HM10
 obtain ⟨V12,e12,HM12⟩:=HM11.put [111,114,100,101,114] (.agg #[.int .i64 0,.func (.func 87) #[] #[.pointer (some ⟨W.heap.size,0,none⟩)]]) (by decide) (by decide)
 clear HM11
 obtain ⟨V13,e13,HM13⟩:=HM12.put [115,97,102,101] (.agg #[.int .i64 0,.func (.func 89) #[] #[.pointer (some ⟨W.heap.size,0,none⟩)]]) (by decide) (by decide)
 clear HM12
 obtain ⟨V14,e14,HM14⟩:=HM13.put [119,97,121,115] (.agg #[.int .i64 0,.func (.func 91) #[] #[.pointer (some ⟨W.heap.size,0,none⟩)]]) (by decide) (by decide)
 clear HM13
 obtain ⟨V15,e15,HM15⟩:=HM14.put [99,121,99,108,101,115] (.agg #[.int .i64 0,.func (.func 93) #[] #[.pointer (some ⟨W.heap.size,0,none⟩)]]) (by decide) (by decide)
 clear HM14
 obtain ⟨V16,e16,HM16⟩:=HM15.put [100,111,117,98,108,101] (.agg #[.int .i64 0,.func (.func 95) #[] #[.pointer (some ⟨W.heap.size,0,none⟩)]]) (by decide) (by decide)
 clear HM15
 obtain ⟨V17,e17,HM17⟩:=HM16.put [98,114,97,99,107,101,116] (.agg #[.int .i64 1,.func (.func 98) #[] #[.pointer (some ⟨W.heap.size,0,none⟩)]]) (by decide) (by decide)
 clear HM16
 obtain ⟨V18,e18,HM18⟩:=HM17.put [119,105,110] (.agg #[.int .i64 1,.func (.func 100) #[] #[.pointer (some ⟨W.heap.size,0,none⟩)]]) (by decide) (by decide)
 clear HM17
 obtain ⟨V19,e19,HM19⟩:=HM18.put [115,119,105,115,115] (.agg #[.int .i64 1,.func (.func 103) #[.pointer (some ⟨b,0,none⟩)] #[]]) (by decide) (by decide)
 have q18:=HM18.q
 clear HM18
 obtain ⟨V20,e20,HM20⟩:=HM19.put [99,105,114,99,108,101] (.agg #[.int .i64 2,.func (.func 104) #[.pointer (some ⟨b,0,none⟩)] #[]]) (by decide) (by decide)
 have q19:=HM19.q
 clear HM19
 obtain ⟨V21,e21,HM21⟩:=HM20.put [112,108,97,110] (.agg #[.int .i64 1,.func (.func 105) #[.pointer (some ⟨b,0,none⟩)] #[]]) (by decide) (by decide)
 have q20:=HM20.q
 clear HM20
 obtain ⟨V22,e22,HM22⟩:=HM21.put [109,97,116,99,104] (.agg #[.int .i64 2,.func (.func 106) #[] #[.pointer (some ⟨W.heap.size,0,none⟩)]]) (by decide) (by decide)
 clear HM21
 obtain ⟨V23,e23,HM23⟩:=HM22.put [108,97,110,100,97,117] (.agg #[.int .i64 1,.func (.func 108) #[.pointer (some ⟨b,0,none⟩)] #[]]) (by decide) (by decide)
 have q22:=HM22.q
 clear HM22
 have HM:RunM W V23 b 23 (tabT W b):=HM23
 clear HM23
 have hlook:=HM.look s hs
 rw [hk] at hlook
 have hmk:=@run_makeMap Tryz.prog
 simp only [Option.getD_some,Option.isSome_some] at hlook
 obtain ⟨V',hV',HC,g0,g1,gq,hK⟩:=runEnt HM h (.int .i64 (many:Nat)) (.func (.func G) pre caps)
 obtain ⟨A,c,B,d,lo,hi,hA⟩:=HC.names
 obtain ⟨-,-,c2,-,-⟩:=con_cells hA.cl
 have HCO:=Lib.hid HC
 have HK:=Lib.hid hK
 obtain ⟨n,hn⟩:∃n,ws.length=n:=⟨_,rfl⟩
 have HN:Hid (ws.length=n):=hn
 rw [hn] at c2
 clear hA HC hK HM h hs hn
 have hmn:((many:Int) != (n:Int))=true:=by
  have:=HN.out
  simp only [bne_iff_ne,ne_eq];omega
 clear hm
 go_enter Tryz.func29,Tryz.ntmps29
 go_wp2_with fail
 rw [←hV']
 clear hV' e1 e2 e3 e4 e5 e6 e7 e8 e9 e10 e11 e12 e13 e14 e15 e16 e17 e18 e19 e20 e21 e22 e23 q18 q19 q20 q22 hlook hmk hk
 go_quiet (fail)
 rename_i nq
 have HCD:Hid (CoW w0 (V'.drewN nq) b x ws false):=HCO.out.grow (below_of_drewN _ V' nq)
 have gqd:(V'.drewN nq).cell? ⟨W.heap.size,0,none⟩=some (.pointer (some ⟨b,0,none⟩)):=gq
 have HKD:Hid (Keep b (b+1) W (V'.drewN nq)):=HK.out.trans (Keep.ofBe (below_of_drewN _ V' nq))
 clear g0 g1 gq c2 HCO HK
 generalize V'.drewN nq=V2 at *
 obtain ⟨A1,c1,B1,d1,lo1,hi1,hA1⟩:=HCD.out.names
 obtain ⟨-,-,-,c3,f3⟩:=con_cells hA1.cl
 have f3:=f3 3
 have gq2:V2.cell? ⟨W.heap.size,0,none⟩=some (.pointer (some ⟨b,0,none⟩)):=gqd
 clear hA1
 go_wp2
 go_ret
 exact CoR.bad HCD.out HKD.out rfl ho
theorem run_box (w0 W:World) (b:Nat) (x:TourV) (ws:List (List UInt8)) (s:List UInt8) (o:Option (List UInt8 × TourV)) (h:CoW w0 W b x ws false) (hs:s.length≤1048576) (G many:Nat) (hk:lookT (tabT W b) s=some (.agg #[.int .i64 (many:Nat),.func (.func G) #[] #[.pointer (some ⟨W.heap.size,0,none⟩)]])) (he:EntB w0 b W.heap.size x ws o G many) (hm:ws.length=many):
  Calls Tryz.prog 29 #[.pointer (some ⟨b,0,none⟩),.string ⟨s.toArray⟩] W fun e w'=>CoR w0 W b ws o e w':=by
 have HM0:=runMStart W b
 obtain ⟨V1,e1,HM1⟩:=HM0.put [116,111,117,114] (.agg #[.int .i64 1,.func (.func 61) #[] #[.pointer (some ⟨W.heap.size,0,none⟩)]]) (by decide) (by decide)
 clear HM0
 obtain ⟨V2,e2,HM2⟩:=HM1.put [116,117,114,110] (.agg #[.int .i64 0,.func (.func 64) #[] #[.pointer (some ⟨W.heap.size,0,none⟩)]]) (by decide) (by decide)
 clear HM1
 obtain ⟨V3,e3,HM3⟩:=HM2.put [102,108,105,112] (.agg #[.int .i64 2,.func (.func 66) #[] #[.pointer (some ⟨W.heap.size,0,none⟩)]]) (by decide) (by decide)
 clear HM2
 obtain ⟨V4,e4,HM4⟩:=HM3.put [112,97,114,116] (.agg #[.int .i64 1,.func (.func 69) #[] #[.pointer (some ⟨W.heap.size,0,none⟩)]]) (by decide) (by decide)
 clear HM3
 obtain ⟨V5,e5,HM5⟩:=HM4.put [114,101,97,108,105,122,101] (.agg #[.int .i64 1,.func (.func 71) #[] #[.pointer (some ⟨W.heap.size,0,none⟩)]]) (by decide) (by decide)
 clear HM4
 obtain ⟨V6,e6,HM6⟩:=HM5.put [115,116,114,97,105,103,104,116] (.agg #[.int .i64 0,.func (.func 74) #[] #[.pointer (some ⟨W.heap.size,0,none⟩)]]) (by decide) (by decide)
 clear HM5
 obtain ⟨V7,e7,HM7⟩:=HM6.put [115,113,117,97,114,101,115] (.agg #[.int .i64 1,.func (.func 77) #[] #[.pointer (some ⟨W.heap.size,0,none⟩)]]) (by decide) (by decide)
 clear HM6
 obtain ⟨V8,e8,HM8⟩:=HM7.put [110,97,109,101,115] (.agg #[.int .i64 1,.func (.func 79) #[] #[.pointer (some ⟨W.heap.size,0,none⟩)]]) (by decide) (by decide)
 clear HM7
 obtain ⟨V9,e9,HM9⟩:=HM8.put [115,104,111,119] (.agg #[.int .i64 0,.func (.func 81) #[] #[.pointer (some ⟨W.heap.size,0,none⟩)]]) (by decide) (by decide)
 clear HM8
 obtain ⟨V10,e10,HM10⟩:=HM9.put [115,99,111,114,101,115] (.agg #[.int .i64 0,.func (.func 83) #[] #[.pointer (some ⟨W.heap.size,0,none⟩)]]) (by decide) (by decide)
 clear HM9
 obtain ⟨V11,e11,HM11⟩:=HM10.put [107,105,110,103,115] (.agg #[.int .i64 0,.func (.func 85) #[] #[.pointer (some ⟨W.heap.size,0,none⟩)]]) (by decide) (by decide)
 clear HM10
 obtain ⟨V12,e12,HM12⟩:=HM11.put [111,114,100,101,114] (.agg #[.int .i64 0,.func (.func 87) #[] #[.pointer (some ⟨W.heap.size,0,none⟩)]]) (by decide) (by decide)
 clear HM11
 obtain ⟨V13,e13,HM13⟩:=HM12.put [115,97,102,101] (.agg #[.int .i64 0,.func (.func 89) #[] #[.pointer (some ⟨W.heap.size,0,none⟩)]]) (by decide) (by decide)
 clear HM12
 obtain ⟨V14,e14,HM14⟩:=HM13.put [119,97,121,115] (.agg #[.int .i64 0,.func (.func 91) #[] #[.pointer (some ⟨W.heap.size,0,none⟩)]]) (by decide) (by decide)
 clear HM13
 obtain ⟨V15,e15,HM15⟩:=HM14.put [99,121,99,108,101,115] (.agg #[.int .i64 0,.func (.func 93) #[] #[.pointer (some ⟨W.heap.size,0,none⟩)]]) (by decide) (by decide)
 clear HM14
 obtain ⟨V16,e16,HM16⟩:=HM15.put [100,111,117,98,108,101] (.agg #[.int .i64 0,.func (.func 95) #[] #[.pointer (some ⟨W.heap.size,0,none⟩)]]) (by decide) (by decide)
 clear HM15
 obtain ⟨V17,e17,HM17⟩:=HM16.put [98,114,97,99,107,101,116] (.agg #[.int .i64 1,.func (.func 98) #[] #[.pointer (some ⟨W.heap.size,0,none⟩)]]) (by decide) (by decide)
 clear HM16
 obtain ⟨V18,e18,HM18⟩:=HM17.put [119,105,110] (.agg #[.int .i64 1,.func (.func 100) #[] #[.pointer (some ⟨W.heap.size,0,none⟩)]]) (by decide) (by decide)
 clear HM17
 obtain ⟨V19,e19,HM19⟩:=HM18.put [115,119,105,115,115] (.agg #[.int .i64 1,.func (.func 103) #[.pointer (some ⟨b,0,none⟩)] #[]]) (by decide) (by decide)
 have q18:=HM18.q
 clear HM18
 obtain ⟨V20,e20,HM20⟩:=HM19.put [99,105,114,99,108,101] (.agg #[.int .i64 2,.func (.func 104) #[.pointer (some ⟨b,0,none⟩)] #[]]) (by decide) (by decide)
 have q19:=HM19.q
 clear HM19
 obtain ⟨V21,e21,HM21⟩:=HM20.put [112,108,97,110] (.agg #[.int .i64 1,.func (.func 105) #[.pointer (some ⟨b,0,none⟩)] #[]]) (by decide) (by decide)
 have q20:=HM20.q
 clear HM20
 obtain ⟨V22,e22,HM22⟩:=HM21.put [109,97,116,99,104] (.agg #[.int .i64 2,.func (.func 106) #[] #[.pointer (some ⟨W.heap.size,0,none⟩)]]) (by decide) (by decide)
 clear HM21
 obtain ⟨V23,e23,HM23⟩:=HM22.put [108,97,110,100,97,117] (.agg #[.int .i64 1,.func (.func 108) #[.pointer (some ⟨b,0,none⟩)] #[]]) (by decide) (by decide)
 have q22:=HM22.q
 clear HM22
 have HM:RunM W V23 b 23 (tabT W b):=HM23
 clear HM23
 have hlook:=HM.look s hs
 rw [hk] at hlook
 have hmk:=@run_makeMap Tryz.prog
 simp only [Option.getD_some,Option.isSome_some] at hlook
 obtain ⟨V',hV',HC,g0,g1,gq,hK⟩:=runEnt HM h (.int .i64 (many:Nat)) (.func (.func G) #[] #[.pointer (some ⟨W.heap.size,0,none⟩)])
 obtain ⟨A,c,B,d,lo,hi,hA⟩:=HC.names
 obtain ⟨-,-,c2,-,-⟩:=con_cells hA.cl
 have HCO:=Lib.hid HC
 have HK:=Lib.hid hK
 obtain ⟨n,hn⟩:∃n,ws.length=n:=⟨_,rfl⟩
 have HN:Hid (ws.length=n):=hn
 rw [hn] at c2
 clear hA HC hK HM h hs hn
 have hmn:((many:Int) != (n:Int))=false:=by
  have:=HN.out
  simp only [bne_eq_false_iff_eq];omega
 have HE:=Lib.hid he
 have hen:=he.en
 clear he
 go_enter Tryz.func29,Tryz.ntmps29
 go_wp2_with fail
 rw [←hV']
 clear hV' e1 e2 e3 e4 e5 e6 e7 e8 e9 e10 e11 e12 e13 e14 e15 e16 e17 e18 e19 e20 e21 e22 e23 q18 q19 q20 q22 hlook hmk hk
 go_quiet (fail)
 rename_i nq
 have HCD:Hid (CoW w0 (V'.drewN nq) b x ws false):=HCO.out.grow (below_of_drewN _ V' nq)
 have gqd:(V'.drewN nq).cell? ⟨W.heap.size,0,none⟩=some (.pointer (some ⟨b,0,none⟩)):=gq
 have HKD:Hid (Keep b (b+1) W (V'.drewN nq)):=HK.out.trans (Keep.ofBe (below_of_drewN _ V' nq))
 have g0d:(V'.drewN nq).cell? ⟨V23.heap.size,0,none⟩=some (.int .i64 (many:Nat)):=g0
 have g1d:(V'.drewN nq).cell? ⟨V23.heap.size,1,none⟩=some (.func (.func G) #[] #[.pointer (some ⟨W.heap.size,0,none⟩)]):=g1
 clear g0 g1 gq c2 HCO HK
 generalize V'.drewN nq=V2 at *
 go_wp2_with fail
 refine (HE.out.go V2 HCD.out hm gqd).mono ?_
 rintro e w2 ⟨out,y,bad,⟨rfl,hK2,hC2⟩,hob⟩
 have HF:=Lib.hid (And.intro hK2 (And.intro hC2 hob))
 clear hK2 hC2 hob
 go_wp2
 go_ret
 exact ⟨out,y,bad,⟨rfl,HKD.out.trans HF.out.1,HF.out.2.1⟩,HF.out.2.2⟩
theorem run_meth (w0 W:World) (b:Nat) (x:TourV) (ws:List (List UInt8)) (s:List UInt8) (o:Option (List UInt8 × TourV)) (h:CoW w0 W b x ws false) (hs:s.length≤1048576) (G many:Nat) (hk:lookT (tabT W b) s=some (.agg #[.int .i64 (many:Nat),.func (.func G) #[.pointer (some ⟨b,0,none⟩)] #[]])) (he:EntM w0 b x ws o G many) (hm:ws.length=many):
  Calls Tryz.prog 29 #[.pointer (some ⟨b,0,none⟩),.string ⟨s.toArray⟩] W fun e w'=>CoR w0 W b ws o e w':=by
 have HM0:=runMStart W b
 obtain ⟨V1,e1,HM1⟩:=HM0.put [116,111,117,114] (.agg #[.int .i64 1,.func (.func 61) #[] #[.pointer (some ⟨W.heap.size,0,none⟩)]]) (by decide) (by decide)
 clear HM0
 obtain ⟨V2,e2,HM2⟩:=HM1.put [116,117,114,110] (.agg #[.int .i64 0,.func (.func 64) #[] #[.pointer (some ⟨W.heap.size,0,none⟩)]]) (by decide) (by decide)
 clear HM1
 obtain ⟨V3,e3,HM3⟩:=HM2.put [102,108,105,112] (.agg #[.int .i64 2,.func (.func 66) #[] #[.pointer (some ⟨W.heap.size,0,none⟩)]]) (by decide) (by decide)
 clear HM2
 obtain ⟨V4,e4,HM4⟩:=HM3.put [112,97,114,116] (.agg #[.int .i64 1,.func (.func 69) #[] #[.pointer (some ⟨W.heap.size,0,none⟩)]]) (by decide) (by decide)
 clear HM3
 obtain ⟨V5,e5,HM5⟩:=HM4.put [114,101,97,108,105,122,101] (.agg #[.int .i64 1,.func (.func 71) #[] #[.pointer (some ⟨W.heap.size,0,none⟩)]]) (by decide) (by decide)
 clear HM4
 obtain ⟨V6,e6,HM6⟩:=HM5.put [115,116,114,97,105,103,104,116] (.agg #[.int .i64 0,.func (.func 74) #[] #[.pointer (some ⟨W.heap.size,0,none⟩)]]) (by decide) (by decide)
 clear HM5
 obtain ⟨V7,e7,HM7⟩:=HM6.put [115,113,117,97,114,101,115] (.agg #[.int .i64 1,.func (.func 77) #[] #[.pointer (some ⟨W.heap.size,0,none⟩)]]) (by decide) (by decide)
 clear HM6
 obtain ⟨V8,e8,HM8⟩:=HM7.put [110,97,109,101,115] (.agg #[.int .i64 1,.func (.func 79) #[] #[.pointer (some ⟨W.heap.size,0,none⟩)]]) (by decide) (by decide)
 clear HM7
 obtain ⟨V9,e9,HM9⟩:=HM8.put [115,104,111,119] (.agg #[.int .i64 0,.func (.func 81) #[] #[.pointer (some ⟨W.heap.size,0,none⟩)]]) (by decide) (by decide)
 clear HM8
 obtain ⟨V10,e10,HM10⟩:=HM9.put [115,99,111,114,101,115] (.agg #[.int .i64 0,.func (.func 83) #[] #[.pointer (some ⟨W.heap.size,0,none⟩)]]) (by decide) (by decide)
 clear HM9
 obtain ⟨V11,e11,HM11⟩:=HM10.put [107,105,110,103,115] (.agg #[.int .i64 0,.func (.func 85) #[] #[.pointer (some ⟨W.heap.size,0,none⟩)]]) (by decide) (by decide)
 clear HM10
 obtain ⟨V12,e12,HM12⟩:=HM11.put [111,114,100,101,114] (.agg #[.int .i64 0,.func (.func 87) #[] #[.pointer (some ⟨W.heap.size,0,none⟩)]]) (by decide) (by decide)
 clear HM11
 obtain ⟨V13,e13,HM13⟩:=HM12.put [115,97,102,101] (.agg #[.int .i64 0,.func (.func 89) #[] #[.pointer (some ⟨W.heap.size,0,none⟩)]]) (by decide) (by decide)
 clear HM12
 obtain ⟨V14,e14,HM14⟩:=HM13.put [119,97,121,115] (.agg #[.int .i64 0,.func (.func 91) #[] #[.pointer (some ⟨W.heap.size,0,none⟩)]]) (by decide) (by decide)
 clear HM13
 obtain ⟨V15,e15,HM15⟩:=HM14.put [99,121,99,108,101,115] (.agg #[.int .i64 0,.func (.func 93) #[] #[.pointer (some ⟨W.heap.size,0,none⟩)]]) (by decide) (by decide)
 clear HM14
 obtain ⟨V16,e16,HM16⟩:=HM15.put [100,111,117,98,108,101] (.agg #[.int .i64 0,.func (.func 95) #[] #[.pointer (some ⟨W.heap.size,0,none⟩)]]) (by decide) (by decide)
 clear HM15
 obtain ⟨V17,e17,HM17⟩:=HM16.put [98,114,97,99,107,101,116] (.agg #[.int .i64 1,.func (.func 98) #[] #[.pointer (some ⟨W.heap.size,0,none⟩)]]) (by decide) (by decide)
 clear HM16
 obtain ⟨V18,e18,HM18⟩:=HM17.put [119,105,110] (.agg #[.int .i64 1,.func (.func 100) #[] #[.pointer (some ⟨W.heap.size,0,none⟩)]]) (by decide) (by decide)
 clear HM17
 obtain ⟨V19,e19,HM19⟩:=HM18.put [115,119,105,115,115] (.agg #[.int .i64 1,.func (.func 103) #[.pointer (some ⟨b,0,none⟩)] #[]]) (by decide) (by decide)
 have q18:=HM18.q
 clear HM18
 obtain ⟨V20,e20,HM20⟩:=HM19.put [99,105,114,99,108,101] (.agg #[.int .i64 2,.func (.func 104) #[.pointer (some ⟨b,0,none⟩)] #[]]) (by decide) (by decide)
 have q19:=HM19.q
 clear HM19
 obtain ⟨V21,e21,HM21⟩:=HM20.put [112,108,97,110] (.agg #[.int .i64 1,.func (.func 105) #[.pointer (some ⟨b,0,none⟩)] #[]]) (by decide) (by decide)
 have q20:=HM20.q
 clear HM20
 obtain ⟨V22,e22,HM22⟩:=HM21.put [109,97,116,99,104] (.agg #[.int .i64 2,.func (.func 106) #[] #[.pointer (some ⟨W.heap.size,0,none⟩)]]) (by decide) (by decide)
 clear HM21
 obtain ⟨V23,e23,HM23⟩:=HM22.put [108,97,110,100,97,117] (.agg #[.int .i64 1,.func (.func 108) #[.pointer (some ⟨b,0,none⟩)] #[]]) (by decide) (by decide)
 have q22:=HM22.q
 clear HM22
 have HM:RunM W V23 b 23 (tabT W b):=HM23
 clear HM23
 have hlook:=HM.look s hs
 rw [hk] at hlook
 have hmk:=@run_makeMap Tryz.prog
 simp only [Option.getD_some,Option.isSome_some] at hlook
 obtain ⟨V',hV',HC,g0,g1,gq,hK⟩:=runEnt HM h (.int .i64 (many:Nat)) (.func (.func G) #[.pointer (some ⟨b,0,none⟩)] #[])
 obtain ⟨A,c,B,d,lo,hi,hA⟩:=HC.names
 obtain ⟨-,-,c2,-,-⟩:=con_cells hA.cl
 have HCO:=Lib.hid HC
 have HK:=Lib.hid hK
 obtain ⟨n,hn⟩:∃n,ws.length=n:=⟨_,rfl⟩
 have HN:Hid (ws.length=n):=hn
 rw [hn] at c2
 clear hA HC hK HM h hs hn
 have hmn:((many:Int) != (n:Int))=false:=by
  have:=HN.out
  simp only [bne_eq_false_iff_eq];omega
 have HE:=Lib.hid he
 have hen:=he.en
 clear he
 go_enter Tryz.func29,Tryz.ntmps29
 go_wp2_with fail
 rw [←hV']
 clear hV' e1 e2 e3 e4 e5 e6 e7 e8 e9 e10 e11 e12 e13 e14 e15 e16 e17 e18 e19 e20 e21 e22 e23 q18 q19 q20 q22 hlook hmk hk
 go_quiet (fail)
 rename_i nq
 have HCD:Hid (CoW w0 (V'.drewN nq) b x ws false):=HCO.out.grow (below_of_drewN _ V' nq)
 have gqd:(V'.drewN nq).cell? ⟨W.heap.size,0,none⟩=some (.pointer (some ⟨b,0,none⟩)):=gq
 have HKD:Hid (Keep b (b+1) W (V'.drewN nq)):=HK.out.trans (Keep.ofBe (below_of_drewN _ V' nq))
 have g0d:(V'.drewN nq).cell? ⟨V23.heap.size,0,none⟩=some (.int .i64 (many:Nat)):=g0
 have g1d:(V'.drewN nq).cell? ⟨V23.heap.size,1,none⟩=some (.func (.func G) #[.pointer (some ⟨b,0,none⟩)] #[]):=g1
 clear g0 g1 gq c2 HCO HK
 generalize V'.drewN nq=V2 at *
 go_wp2_with fail
 refine (HE.out.go V2 HCD.out hm).mono ?_
 rintro e w2 ⟨out,y,bad,⟨rfl,hK2,hC2⟩,hob⟩
 have HF:=Lib.hid (And.intro hK2 (And.intro hC2 hob))
 clear hK2 hC2 hob
 go_wp2
 go_ret
 exact ⟨out,y,bad,⟨rfl,HKD.out.trans HF.out.1,HF.out.2.1⟩,HF.out.2.2⟩
theorem run_any (w0 W:World) (b:Nat) (x:TourV) (ws:List (List UInt8)) (s:List UInt8) (h:CoW w0 W b x ws false) (hc:ComP w0) (hl:∀l∈ws,l.length≤1048576) (hs:s.length≤1048576):
  Calls Tryz.prog 29 #[.pointer (some ⟨b,0,none⟩),.string ⟨s.toArray⟩] W fun e w'=>CoR w0 W b ws (runF x s ws) e w':=by
 have hbq:W.heap.size≠b:=by
  obtain ⟨A,c,B,d,lo,hi,hA⟩:=h.names
  have:=(Array.getElem?_eq_some_iff.1 hA.cl).1
  omega
 rcases tab_cases w0 W b x ws s hc hl hbq with ⟨h1,h2⟩|⟨G,many,h1,h2,h3⟩|⟨G,many,h1,h2,h3⟩
 ·exact run_none w0 W b x ws s _ h hs h1 h2
 ·by_cases hm:ws.length=many
  ·exact run_box w0 W b x ws s _ h hs G many h1 h2 hm
  ·exact run_len w0 W b x ws s _ h hs G many _ _ h1 hm (h2.no hm)
 ·by_cases hm:ws.length=many
  ·exact run_meth w0 W b x ws s _ h hs G many h1 h2 hm
  ·exact run_len w0 W b x ws s _ h hs G many _ _ h1 hm (h2.no hm)
end Go.Proofs.YtkapoldjcpfdgaaGreatDoor
