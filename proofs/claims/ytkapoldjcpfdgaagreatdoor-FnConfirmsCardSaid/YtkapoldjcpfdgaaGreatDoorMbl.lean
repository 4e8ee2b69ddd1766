/- Valid plans of rounds: the plain law. -/
import Derived.Test.YtkapoldjcpfdgaaGreatDoorMab
namespace Go.Proofs.YtkapoldjcpfdgaaGreatDoor
open Go.ChangeShapes Go.WideShapes Go.ChangeAt Go.RowKit
def allTo (p:Nat→Bool):Nat→Bool
 | 0=>true
 | j+1=>allTo p j && p j
theorem allTo_hit {p:Nat→Bool}{k n:Nat} (hk:k<n) (hp:p k=false):allTo p n=false:=by
 induction n with
 | zero=>omega
 | succ n ih=>
  unfold allTo
  by_cases h:k=n
  ·subst h;rw [hp];simp
  ·rw [ih (by omega)];rfl
theorem allTo_t {p:Nat→Bool}{n:Nat}:allTo p n=true↔∀k,k<n→p k=true:=by
 induction n with
 | zero=>simp [allTo]
 | succ n ih=>
  unfold allTo
  rw [Bool.and_eq_true,ih]
  constructor
  ·rintro ⟨h1,h2⟩ k hk
   by_cases h:k=n
   ·subst h;exact h2
   ·exact h1 k (by omega)
  ·intro h
   exact ⟨fun k hk=>h k (by omega),h n (by omega)⟩
def opp (x:Int):Int:=max x (-x)-1
def sgn (x:Int):Int:=if 0<x then 1 else -1
def elB (n:Int) (R:List Int) (k:Nat):Bool:=
 !(R.getD k 0==0) && (inB (R.getD k 0) (-n) n && (!(opp (R.getD k 0)==(k:Int)) && (R.getD (opp (R.getD k 0)).toNat 0==((k:Int)+1)*sgn (-(R.getD k 0)))))
def roundB (n:Int) (R:List Int):Bool:=decide ((R.length:Int)=n) && allTo (elB n R) R.length
theorem opp_eq (x:Int):opp x=if 0<x then x-1 else -x-1:=by unfold opp;split<;>omega
theorem roundB_len {n:Int}{R:List Int} (h:¬(R.length:Int)=n):roundB n R=false:=by simp [roundB,h]
theorem roundB_hit {n:Int}{R:List Int}{k:Nat} (hk:k<R.length) (h:elB n R k=false):roundB n R=false:=by
 unfold roundB;rw [allTo_hit hk h,Bool.and_false]
theorem roundB_t {n:Int}{R:List Int} (hl:(R.length:Int)=n) (h:allTo (elB n R) R.length=true):roundB n R=true:=by
 unfold roundB;rw [h,decide_eq_true hl];rfl
def clubsB (n:Int):Bool:=inB n 2 10 && n%2==0
def planB (n:Int) (P:List (List Int)):Bool:=clubsB n && (decide (P.length≤36) && P.all (roundB n))
theorem planB_n {n:Int}{P:List (List Int)} (h:clubsB n=false):planB n P=false:=by simp [planB,h]
theorem planB_len {n:Int}{P:List (List Int)} (h:¬P.length≤36):planB n P=false:=by simp [planB,h]
theorem planB_hit {n:Int}{P:List (List Int)}{R:List Int}{k:Nat} (hk:P[k]? = some R) (h:roundB n R=false):planB n P=false:=by
 unfold planB
 rw [show P.all (roundB n)=false from List.all_eq_false.2 ⟨R,List.mem_of_getElem? hk,by simp [h]⟩]
 simp
theorem planB_t {n:Int}{P:List (List Int)} (h1:clubsB n=true) (h2:P.length≤36) (h3:(P.take P.length).all (roundB n)=true):planB n P=true:=by
 rw [List.take_length] at h3
 simp [planB,h1,h2,h3]
theorem all_snocP {P:List (List Int)}{p:List Int→Bool}{R:List Int}{k:Nat} (hk:P[k]? = some R) (h:(P.take k).all p=true) (hr:p R=true):(P.take (k+1)).all p=true:=by
 rw [take_snoc hk,List.all_append,h];simp [hr]
theorem isClubs_any (n:Int) (w:World):
  Calls Tryz.prog 271 #[.int .i64 n] w fun e w'=>e=.returned (.bool (clubsB n))∧w=w':=by
 cases h:inB n 2 10
 case false=>
  go_enter Tryz.func271,Tryz.ntmps271
  go_wp2_with (go_at_call 147;refine (within_any _ _ _ _).mono ?_;rintro e w' ⟨rfl,rfl⟩)
  go_ret
  exact ⟨by simp [clubsB,h],rfl⟩
 have hb:=inB_t.1 h
 have hm:Int.tmod n 2=n%2:=Int.tmod_eq_emod_of_nonneg (by omega)
 go_enter Tryz.func271,Tryz.ntmps271
 go_wp2_with (go_at_call 147;refine (within_any _ _ _ _).mono ?_;rintro e w' ⟨rfl,rfl⟩)
 go_ret
 exact ⟨by simp [clubsB,h],rfl⟩
theorem l16Size_any (n:Int) (w:World):
  Calls Tryz.prog 112 #[.int .i64 n] w fun e w'=>e=.returned (.bool (clubsB n))∧w=w':=by
 cases h:inB n 2 10
 case false=>
  go_enter Tryz.func112,Tryz.ntmps112
  go_wp2_with (go_at_call 127;refine (l01In_any _ _ _ _).mono ?_;rintro e w' ⟨rfl,rfl⟩)
  go_ret
  exact ⟨by simp [clubsB,h],rfl⟩
 have hb:=inB_t.1 h
 have hm:Int.tmod n 2=n%2:=Int.tmod_eq_emod_of_nonneg (by omega)
 go_enter Tryz.func112,Tryz.ntmps112
 go_wp2_with (go_at_call 127;refine (l01In_any _ _ _ _).mono ?_;rintro e w' ⟨rfl,rfl⟩)
 go_ret
 exact ⟨by simp [clubsB,h],rfl⟩
theorem sign_any (v s:Int) (w:World) (hs:sgn v=s):
  Calls Tryz.prog 344 #[.int .i64 v] w fun e w'=>e=.returned (.int .i64 s)∧w=w':=by
 subst hs
 by_cases h:0<v
 all_goals
  go_enter Tryz.func344,Tryz.ntmps344
  go_wp2
  go_ret
  exact ⟨by simp [sgn,h],rfl⟩
theorem l16Other_any (x o:Int) (w:World) (ho:opp x=o) (h0:-1000≤x) (h1:x≤1000):
  Calls Tryz.prog 194 #[.int .i64 x] w fun e w'=>e=.returned (.int .i64 o)∧w=w':=by
 subst ho
 by_cases h:0<x
 all_goals
  go_enter Tryz.func194,Tryz.ntmps194
  go_wp2
  all_goals
   go_ret
   exact ⟨ret_int (by rw [opp_eq];split<;>omega),rfl⟩
theorem opponent_any (A:Option Addr) (c n:Nat) (R:List Int) (k:Nat) (x o:Int) (w:World) (hs:SlI w A R) (hl:R.length=n) (hk:k<n) (hx:R.getD k 0=x) (ho:opp x=o) (h0:-1000≤x) (h1:x≤1000):
  Calls Tryz.prog 343 #[.slice A n c,.int .i64 k] w fun e w'=>e=.returned (.int .i64 o)∧∃m,w'=w.drewN m:=by
 obtain ⟨b,off,x',rfl,hx',hc,-⟩:=hs.at_ (k:=k) (by omega)
 obtain rfl:x'=x:=by rw [←hx,List.getD_eq_getElem?_getD,hx'];rfl
 clear hx hx' hs
 rw [opp_eq] at ho
 rcases Int.lt_trichotomy x' 0 with h|rfl|h
 ·rw [if_neg (by omega)] at ho
  have HO:=Lib.hid ho
  clear ho
  go_enter Tryz.func343,Tryz.ntmps343
  go_wp2
  go_quiet (fail)
  go_wp2
  go_ret
  exact ⟨ret_int HO.out,_,rfl⟩
 ·have HO:=Lib.hid ho
  clear ho
  go_enter Tryz.func343,Tryz.ntmps343
  go_wp2
  go_quiet (fail)
  go_wp2
  go_ret
  exact ⟨ret_int HO.out,_,rfl⟩
 ·rw [if_pos h] at ho
  have HO:=Lib.hid ho
  clear ho
  go_enter Tryz.func343,Tryz.ntmps343
  go_wp2
  go_quiet (fail)
  go_wp2
  go_ret
  exact ⟨ret_int HO.out,_,rfl⟩
theorem dd {w wt:World} (h:∃d,wt=w.drewN d) (n:Nat):∃d,wt.drewN n=w.drewN d:=by
 obtain ⟨d,rfl⟩:=h
 exact ⟨_,World.drewN_drewN _ _ _⟩
theorem wrapS (q:Nat) (s:Int) (x:Int) (hs:sgn x=s) (hq:q≤1000):IntKind.i64.wrap (((q:Int)+1)*s)=((q:Int)+1)*s:=by
 subst hs
 unfold sgn
 split
 ·rw [IntKind.wrap_i64];omega
 ·rw [IntKind.wrap_i64];omega
end Go.Proofs.YtkapoldjcpfdgaaGreatDoor
