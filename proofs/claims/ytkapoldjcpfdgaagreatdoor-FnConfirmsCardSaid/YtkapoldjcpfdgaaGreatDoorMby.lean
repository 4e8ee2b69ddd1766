/- A law's argument of type []byte. -/
import Derived.Test.YtkapoldjcpfdgaaGreatDoorMam
set_option maxRecDepth 100000
namespace Go.Proofs.YtkapoldjcpfdgaaGreatDoor
open Go.ChangeShapes Go.WideShapes Go.ChangeAt Go.RowKit
theorem openB {H:Type}{enc:TypeId × Value→H}{W:World}{base:Nat}{v:Value}{d:DataW H}{p:List MemPlace}
  (hok:Value.okWide Tryz.prog W .any base 22 v) (h:DataW.Trod enc Tryz.prog W 0 (fun _=>true) true 22 v d p):∃n:Nat,InB W v n:=by
 obtain ⟨a0,len0,cap0,rfl⟩:=okWide_slice Tryz.underlying22 hok
 obtain ⟨fuel,hf⟩:=h
 rcases open_ints Tryz.underlying22 Tryz.underlying5 (by kernel_rfl) hf with ⟨hcs,_⟩|⟨x,l,c,zs,hcs,_,hl,hm,hz,_,hcell,hwz⟩
 ·simp [Value.cells] at hcs
  obtain ⟨rfl,rfl,rfl⟩:=hcs
  exact ⟨0,none,0,rfl,Nat.le_refl _,by unfold maxLen;omega,.inl rfl⟩
 ·simp [Value.cells] at hcs
  obtain ⟨rfl,rfl,rfl⟩:=hcs
  by_cases h0:0<len0
  ·have hz':zs.length=cap0:=by simpa using hz
   obtain ⟨b,off,rfl,hc'⟩:=ints_at hcell (by omega)
   refine ⟨len0,_,cap0,rfl,hl,hm,.inr ⟨b,off,rfl,fun j hj=>?_⟩⟩
   have hj':j<zs.length:=by omega
   have hw:=hwz (zs.getD j 0) (by rw [List.getD_eq_getElem?_getD,List.getElem?_eq_getElem hj'];exact List.getElem_mem hj')
   have hr:0≤zs.getD j 0∧zs.getD j 0≤255:=by simpa [Lit.wf,IntKind.min,IntKind.max,IntKind.signed,IntKind.bits] using hw
   exact ⟨_,hr.1,hr.2,hc' j hj'⟩
  ·exact ⟨len0,some x,cap0,rfl,hl,hm,.inl (by omega)⟩
end Go.Proofs.YtkapoldjcpfdgaaGreatDoor
