/- One part of the proofs on this program: functions of the program as plain functions, that the code comes to them, and facts on them. -/
import Derived.Deep.Cut
import Derived.Deep.RegionHeld3
import Derived.Lib.SliceRun
import Derived.Test.YtlhfcmbkjddgiaaYAll1
import Derived.Test.YtlhfcmbkjddgiaaYAll2
import Derived.Test.YtlhfcmbkjddgiaaYAll3
import Derived.Test.YtlhfcmbkjddgiaaYAll4
import Derived.Test.YtlhfcmbkjddgiaaYAll5
import Derived.Test.YtlhfcmbkjddgiaaYWAuto
section
namespace Go.Proofs.Ytlhfcmbkjddgiaa.P
open Go.RowKit Go.Proofs.YtlhfcmbkjddgiaaW.PrintWords Go.Proofs.YtlhfcmbkjddgiaaW.PrintLast Go.Proofs.YtlhfcmbkjddgiaaW.PrintMore
attribute [local go_sem] jha jfa jqa jpa jW jV jga jea jl
set_option linter.unusedVariables false
set_option linter.unusedSimpArgs false
def jKb.l0 : Nat → List Int → Int → Int → Option (Bool)
 | 0,_,_,_=>none
 | k+1,x0,x1,x5=>if x5<(x0.length:Int) then (if 0≤x5 then (if (rd x0 x5)=x1 then (some true) else (jKb.l0 k x0 x1 (wrap64 (x5+1)))) else (none)) else (some false)
def jKb.f (k : Nat) (l0 : List Int) (a1 : Int) : Option (Bool) := jKb.l0 k l0 a1 0
def soPos (l : List Int) (x : Int) : Nat → Nat → Nat
 | 0,k=>k
 | n+1,k=>if (k:Int)<(l.length:Int)∧rd l (k:Int)<x then soPos l x n (k+1) else k
def soIns (l : List Int) (x : Int) : List Int := if soPos l x l.length 0 = l.length ∨ rd l (soPos l x l.length 0 : Nat) ≠ x then l.take (soPos l x l.length 0) ++ [x] ++ l.drop (soPos l x l.length 0) else l
def soAll : List Int → List Int → Option (List Int)
 | [],out=>some out
 | x :: r,out=>if out.length<17592186044410 then soAll r (soIns out x) else none
def spec_sorted.f (l0 : List Int) : Option (List Int) := soAll l0 []
mutual
def jeb.j0 : Nat → Int → List Int → Bool → List (S90) → Option (List Int)
 | 0,_,_,_,_=>none
 | k+1,x1,x2,x13,x172000=>if x13=true then (some x2) else (if x2.length<17592186044416 then (if 0≤x1 then (if x1<(x172000.length:Int) then ((jeb.f k x172000 ((jo x172000 x1).f2) (x2 ++ [x1])).bind fun t177=>((jeb.f k x172000 ((jo x172000 x1).f3) t177).bind fun t181=>(some t181))) else (none)) else (none)) else (none))
def jeb.f : Nat → List (S90) → Int → List Int → Option (List Int)
 | 0,_,_,_=>none
 | k+1,l0_0,a1,l2=>if a1<0 then (jeb.j0 k a1 l2 true l0_0) else ((jKb.f k l2 a1).bind fun t172=>(jeb.j0 k a1 l2 t172 l0_0))
end
def jjb.l0 : Nat → List Int → Int → Int → Option (Int)
 | 0,_,_,_=>none
 | k+1,x0,x1,x5=>if x5<(x0.length:Int) then (if 0≤x5 then (if (rd x0 x5)=x1 then (some x5) else (jjb.l0 k x0 x1 (wrap64 (x5+1)))) else (none)) else (some (-1))
def jjb.f (k : Nat) (l0 : List Int) (a1 : Int) : Option (Int) := jjb.l0 k l0 a1 0
def jpb.l0 : Nat → Int → List Int → Int → List (S90) → List (S90) → Option ((List (S90)) × Int)
 | 0,_,_,_,_,_=>none
 | k+1,x1,x6,x8,x186000,x200000=>if x8<(x6.length:Int) then (if 0≤x8 then (if 0≤(rd x6 x8) then (if (rd x6 x8)<(x186000.length:Int) then ((jjb.f k x6 ((jo x186000 (rd x6 x8)).f2)).bind fun t204=>((jjb.f k x6 ((jo x186000 (rd x6 x8)).f3)).bind fun t205=>(if x200000.length<3518437208883 then (jpb.l0 k x1 x6 (wrap64 (x8+1)) x186000 (x200000 ++ [(⟨(jo x186000 (rd x6 x8)).f0,(jo x186000 (rd x6 x8)).f1,t204,t205,(jo x186000 (rd x6 x8)).f4⟩:S90)])) else (none)))) else (none)) else (none)) else (none)) else ((jjb.f k x6 x1).bind fun t200=>(some (x200000,t200)))
def jpb.f (k : Nat) (l0_0 : List (S90)) (a1 : Int) : Option ((List (S90)) × Int) := (jeb.f k l0_0 a1 (([] : List Int))).bind fun t190 => ((spec_sorted.f t190).bind fun t193 => (jpb.l0 k a1 t193 0 l0_0 (([] : List (S90)))))
abbrev ScSt := List Int × List S90 × Int
structure scM (n Bc : Nat) (w0 W : World) (vl vh : Value) (s : ScSt) : Prop where
 c:W.heap[Bc]?=some (.cells #[vl,vh, .int .i64 s.2.2] 101 (0,0))
 l:Kd.R (Kd.int .i64) 3 W n (fun _=>True) vl s.1
 h:Kd.R k90 90 W n (fun _=>True) vh s.2.1
 b:Below n w0 W
theorem scM.below {n Bc : Nat} {w0 W W' : World} {vl vh : Value} {s : ScSt} (h : scM n Bc w0 W vl vh s) (hn : n ≤ W.heap.size) (hb : Below W.heap.size W W') : scM n Bc w0 W' vl vh s :=
 ⟨je h.c hb,Kd.jM h.l hb,Kd.jM h.h hb,h.b.trans (hb.mono hn)⟩
theorem scM.set {n Bc : Nat} {w0 W W' : World} {vl vh v0 v1 : Value} {s s' : ScSt} (h : scM n Bc w0 W vl vh s) (hn : n ≤ W.heap.size) (hB : n ≤ Bc) (hc : W'.heap[Bc]? = some (.cells #[vl, vh, .int .i64 s.2.2] 101 (0, 0))) (h0 : Kd.R (Kd.int .i64) 3 W' n (fun _ => True) v0 s'.1) (h1 : Kd.R k90 90 W' n (fun _ => True) v1 s'.2.1) (hb : Below n W W') :
  scM n Bc w0 (((W'.setCell ⟨Bc,0,none⟩ v0).setCell ⟨Bc,1,none⟩ v1).setCell ⟨Bc,2,none⟩ (.int .i64 s'.2.2)) v0 v1 s':=by
 have c1:=jO hc 0 v0 rfl
 have c2:=jO c1 1 v1 rfl
 have c3:=jO c2 2 (.int .i64 s'.2.2) rfl
 exact ⟨c3,Kd.jub (Kd.jub (Kd.jub h0 hc (by decide) 0 _) c1 (by decide) 1 _) c2 (by decide) 2 _,Kd.jub (Kd.jub (Kd.jub h1 hc (by decide) 0 _) c1 (by decide) 1 _) c2 (by decide) 2 _,(((h.b.trans hb).setCell (p:=⟨Bc,0,none⟩) hB _).setCell (p:=⟨Bc,1,none⟩) hB _).setCell (p:=⟨Bc,2,none⟩) hB _⟩
section
open Go
variable {P : Program} {md : Region.Mode} {ops : Array Oper} {Q : Exit → Act → World → Prop} {S : World → Prop}
end
end Go.Proofs.Ytlhfcmbkjddgiaa.P
end
