/- One part of the proofs on this program: functions of the program as plain functions, that the code comes to them, and facts on them. -/
import Derived.Test.YtpfaohdpnegjnaaDoorYWWords
section
namespace Go.Proofs.YtpfaohdpnegjnaaDoorW.PrintWords
open Go.RowKit
theorem jo (w : World) (a p : Addr) (v : Value) : ((w.setCell a v).cell? p).isSome = (w.cell? p).isSome := by
 simp only [World.setCell, World.cell?, Array.getElem?_modify]
 by_cases hb : a.block = p.block
 ·simp only [hb, if_true]
  cases hh : w.heap[p.block]? with
  | none => simp
  | some x =>
   cases x with
   | cells c e f =>
    simp only [Option.map_some]
    by_cases hs : p.spot.isSome
    ·simp [hs]
    ·by_cases ha : a.spot.isSome
     ·simp [hs, ha]
     ·simp only [hs, ha, Bool.false_eq_true, if_false, Array.getElem?_setIfInBounds]
      split
      ·rename_i he
       split
       ·rename_i hl
        rw [Array.getElem?_eq_getElem (by omega)]; rfl
       ·rename_i hl
        rw [Array.getElem?_eq_none (by omega)]
      ·rfl
   | _ => simp
 ·simp [hb]
end Go.Proofs.YtpfaohdpnegjnaaDoorW.PrintWords
end
