/- One part of the proofs on this program: functions of the program as plain functions, that the code comes to them, and facts on them. -/
import Derived.Test.YtpfaohdpnegjnaaDoorYAll1
import Derived.Test.YtpfaohdpnegjnaaDoorYAll3
import Derived.Test.YtpfaohdpnegjnaaDoorYMx
section
set_option linter.unusedSimpArgs false
set_option linter.unusedVariables false
namespace Go.Proofs.YtpfaohdpnegjnaaDoor.Pure
open Go Go.RowKit Go.Proofs.YtpfaohdpnegjnaaDoor.P Go.Proofs.YtpfaohdpnegjnaaDoorW.PrintWords
set_option linter.unusedVariables false
abbrev Cl := S59
def nmN (s : ByteArray) : Nat → Nat → Bool
 | 0,_=>bw s.size 1 6
 | n+1,i=>if i<s.size then (if bt s i<97 then false else if bt s i > 122 then false else nmN s n (i+1)) else bw s.size 1 6
def nameB (s : ByteArray) : Bool := nmN s s.size 0
theorem ev_validName {s : ByteArray} (hs : s.size ≤ 1048576) : Ev (fun k => jca.f k s) (nameB s) := by
 have:∀ (n i:Nat),s.size≤n+i→Ev (fun k=>jca.l0 k s i) (nmN s n i):=by
  intro n
  induction n with
  | zero =>
   intro i h
   refine Ev.step (fun k=>by rw [jca.l0]) ?_
   rw [iR]
   exact Ev.neg (by omega) (Ev.now _)
  | succ n ih =>
   intro i h
   refine Ev.step (fun k=>by rw [jca.l0]) ?_
   rw [iR,nmN]
   by_cases h1:i<s.size
   ·rw [if_pos h1]
    refine Ev.pos (by omega) (Ev.pos (by omega) ?_)
    by_cases h2:bt s i<97
    ·rw [if_pos h2];exact Ev.pos h2 (Ev.now _)
    ·rw [if_neg h2]
     refine Ev.neg h2 ?_
     by_cases h3:bt s i > 122
     ·rw [if_pos h3];exact Ev.pos h3 (Ev.now _)
     ·rw [if_neg h3,wS (by omega)]
      exact Ev.neg h3 (ih (i+1) (by omega))
   ·rw [if_neg h1]
    exact Ev.neg (by omega) (Ev.now _)
 exact this s.size 0 (by omega)
theorem ev_nameOk {s : ByteArray} (hs : s.size ≤ 1048576) : Ev (fun k => jfa.f k s) (nameB s) := by
 have:∀ (n i:Nat),s.size≤n+i→Ev (fun k=>jfa.l0 k s s.size i) (nmN s n i):=by
  intro n
  induction n with
  | zero =>
   intro i h
   refine Ev.step (fun k=>by rw [jfa.l0]) ?_
   rw [iW]
   exact Ev.neg (by omega) (Ev.now _)
  | succ n ih =>
   intro i h
   refine Ev.step (fun k=>by rw [jfa.l0]) ?_
   rw [iW,nmN]
   by_cases h1:i<s.size
   ·rw [if_pos h1]
    refine Ev.pos (by omega) (Ev.pos (by omega) (Ev.pos (by omega) ?_))
    by_cases h2:bt s i<97
    ·rw [if_pos h2];exact Ev.pos h2 (Ev.now _)
    ·rw [if_neg h2]
     refine Ev.neg h2 ?_
     by_cases h3:bt s i > 122
     ·rw [if_pos h3];exact Ev.pos h3 (Ev.now _)
     ·rw [if_neg h3,wS (by omega)]
      exact Ev.neg h3 (ih (i+1) (by omega))
   ·rw [if_neg h1]
    exact Ev.neg (by omega) (Ev.now _)
 exact this s.size 0 (by omega)
def cn (t : List Cl) (i : Nat) : ByteArray := (t.getD i z59).f0
def cp (t : List Cl) (i : Nat) : Int := (t.getD i z59).f1
theorem c0 (t : List Cl) (i : Nat) : (jB t (i : Int)).f0 = cn t i := rfl
theorem c1 (t : List Cl) (i : Nat) : (jB t (i : Int)).f1 = cp t i := rfl
def TS (t : List Cl) : Prop := t.length ≤ 1048576 ∧ ∀ i, i < t.length → (cn t i).size ≤ 1048576
def fiD (s : ByteArray) : List Cl → Nat → Int
 | [],_=>-1
 | c :: r,i=>if c.f0.toList=s.toList then (i:Int) else fiD s r (i+1)
theorem fiD_lt (s : ByteArray) : ∀ (l : List Cl) (i : Nat), fiD s l i = -1 ∨ ((i : Int) ≤ fiD s l i ∧ fiD s l i < i + l.length)
 | [],_=>.inl rfl
 | c :: r,i=>by
  simp only [fiD]
  split
  ·right;simp only [List.length_cons];omega
  ·rcases fiD_lt s r (i+1) with h | h
   ·exact .inl h
   ·right;simp only [List.length_cons];omega
theorem fiD_at (s : ByteArray) (c : Cl) (r : List Cl) (hc : c.f0.toList = s.toList) : ∀ (l : List Cl) (i : Nat), fiD s (l ++ c :: r) i = (if 0 ≤ fiD s l i then fiD s l i else ((i + l.length : Nat) : Int))
 | [],i=>by simp [fiD,hc]
 | x :: l,i=>by
  simp only [List.cons_append,fiD]
  split
  ·rw [if_pos (by omega)]
  ·rw [fiD_at s c r hc l (i+1)]
   simp only [List.length_cons,show i+1+l.length=i+(l.length+1) from by omega]
theorem fiD_first {t : List Cl} {i : Nat} (h : i < t.length) : fiD (cn t i) t 0 = (i : Int) ↔ ¬ (0 ≤ fiD (cn t i) (t.take i) 0) := by
 have e:t=t.take i ++ t[i] :: t.drop (i+1):=by rw [← List.drop_eq_getElem_cons h,List.take_append_drop]
 have hn:(t[i]).f0.toList=(cn t i).toList:=by simp [cn,List.getD_eq_getElem?_getD,h]
 have hl:(t.take i).length=i:=by rw [List.length_take];omega
 have key:=fiD_at (cn t i) t[i] (t.drop (i+1)) hn (t.take i) 0
 rw [← e,hl] at key
 rw [key]
 have hb:=fiD_lt (cn t i) (t.take i) 0
 rw [hl] at hb
 split
 ·constructor
  ·intro h;omega
  ·intro h;omega
 ·constructor
  ·intro _;assumption
  ·intro _;omega
theorem ev_classNamed {s : ByteArray} {t : List Cl} (ht : t.length ≤ 1048576) : Ev (fun k => jU.f k t s) (fiD s t 0) := by
 have:∀ (r:List Cl) (i:Nat),t.drop i=r→Ev (fun k=>jU.l0 k t s i) (fiD s r i):=by
  intro r
  induction r with
  | nil =>
   intro i h
   have:t.length≤i:=by simpa using h
   refine Ev.step (fun k=>by rw [jU.l0]) ?_
   exact Ev.neg (by omega) (Ev.now _)
  | cons c r ih =>
   intro i h
   have hi:i<t.length:=by
    rcases Nat.lt_or_ge i t.length with h1 | h1
    ·exact h1
    ·rw [List.drop_eq_nil_of_le h1] at h;cases h
   rw [List.drop_eq_getElem_cons hi] at h
   injection h with h1 h2
   refine Ev.step (fun k=>by rw [jU.l0]) ?_
   have e:(jB t (i:Int)).f0=c.f0:=by rw [c0,cn,List.getD_eq_getElem?_getD,List.getElem?_eq_getElem hi,h1];rfl
   rw [e,fiD]
   refine Ev.pos (by omega) (Ev.pos (by omega) ?_)
   by_cases hc:c.f0.toList=s.toList
   ·rw [if_pos hc];exact Ev.pos hc (Ev.now _)
   ·rw [if_neg hc,wS (by omega)];exact Ev.neg hc (ih (i+1) h2)
 exact this t 0 rfl
theorem named_eq (s : ByteArray) : ∀ (t : List Cl) (i : Nat), idxFrom (fun x : Cl => some (x.f0.toList == s.toList)) t i = some (fiD s t i)
 | [],_=>rfl
 | c :: t,i=>by
  simp only [idxFrom,Option.bind_some,fiD]
  by_cases hc:c.f0.toList=s.toList
  ·rw [if_pos hc,if_pos (by simpa using hc)]
  ·rw [if_neg hc,if_neg (by simpa using hc)];exact named_eq s t (i+1)
def parB (t : List Cl) (i : Nat) : Bool := if i = 0 then decide (cp t 0 = -1) else bw (cp t i) 0 ((i : Int) - 1)
def trN (t : List Cl) : Nat → Nat → Bool
 | 0,_=>bw t.length 1 8
 | n+1,i=>if i<t.length then nameB (cn t i) && !decide (0≤fiD (cn t i) (t.take i) 0) && parB t i && trN t n (i+1) else bw t.length 1 8
def treeB (t : List Cl) : Bool := trN t t.length 0
theorem take_len {t : List Cl} (i : Nat) (h : t.length ≤ 1048576) : (t.take i).length ≤ 1048576 := by rw [List.length_take]; omega
theorem ev_validTree {t : List Cl} (ht : TS t) : Ev (fun k => jw.f k t) (treeB t) := by
 have hl:=ht.1
 have:∀ (n i:Nat),t.length≤n+i→Ev (fun k=>jw.l0 k i t) (trN t n i):=by
  intro n
  induction n with
  | zero =>
   intro i h
   refine Ev.step (fun k=>by rw [jw.l0]) ?_
   simp only [iR,Option.bind_some,trN]
   exact Ev.neg (by omega) (Ev.now _)
  | succ n ih =>
   intro i h
   refine Ev.step (fun k=>by rw [jw.l0]) ?_
   simp only [c0,c1,iR,Option.bind_some]
   rw [trN]
   by_cases h1:i<t.length
   ·rw [if_pos h1]
    have stop:Ev (fun k=>jw.j1 k i true t) false:=by
     refine Ev.step (fun k=>by rw [jw.j1]) ?_
     exact Ev.pos rfl (Ev.now _)
    have fin:∀ b:Bool,b=parB t i→Ev (fun k=>jw.j1 k i (!b) t) (b && trN t n (i+1)):=by
     intro b hb
     refine Ev.step (fun k=>by rw [jw.j1]) ?_
     cases b with
     | true=>rw [wS (by omega)];exact Ev.neg (by simp) (by simpa using ih (i+1) (by omega))
     | false=>exact Ev.pos rfl (by simpa using Ev.now false)
    refine Ev.pos (by omega) (Ev.pos (by omega) (Ev.bind (ev_validName (ht.2 i h1)) ?_))
    cases nameB (cn t i) with
    | false=>exact Ev.neg (by simp) (by simpa using stop)
    | true =>
     refine Ev.pos rfl (Ev.pos (by omega) ?_)
     rw [show ((i:Int)).toNat=i from rfl]
     refine Ev.bind (ev_classNamed (take_len i hl)) ?_
     by_cases h2:0≤fiD (cn t i) (t.take i) 0
     ·rw [decide_eq_true h2]
      simp only [Bool.not_true,Bool.and_false,Bool.false_and]
      exact Ev.pos h2 stop
     ·rw [decide_eq_false h2]
      simp only [Bool.not_false,Bool.and_true,Bool.true_and]
      refine Ev.neg h2 ?_
      by_cases h3:i=0
      ·subst h3
       refine Ev.pos rfl ?_
       by_cases h4:cp t 0 = -1
       ·refine Ev.pos h4 (Ev.neg (by omega) ?_)
        have:=fin true (by simp [parB,h4])
        rw [show parB t 0=true from by simp [parB,h4]]
        exact this
       ·refine Ev.neg h4 ?_
        rw [show parB t 0=false from by simp [parB,h4]]
        simpa using stop
      ·refine Ev.neg (by omega) (Ev.pos (by omega) ?_)
       rw [show wrap64 ((i:Int) - 1)=(i:Int) - 1 from wr (by omega)]
       have e:parB t i=bw (cp t i) 0 ((i:Int) - 1):=by rw [parB,if_neg h3]
       have:=fin _ e.symm
       rw [e]
       exact this
   ·rw [if_neg h1]
    exact Ev.neg (by omega) (Ev.now _)
 exact this t.length 0 (by omega)
theorem ev_ValidTree {t : List Cl} (ht : TS t) : Ev (fun k => jm.f k t) (treeB t) := by
 have hl:=ht.1
 have:∀ (n i:Nat),t.length≤n+i→Ev (fun k=>jm.l0 k t t.length i t) (trN t n i):=by
  intro n
  induction n with
  | zero =>
   intro i h
   refine Ev.step (fun k=>by rw [jm.l0]) ?_
   simp only [iW,Option.bind_some,trN]
   exact Ev.neg (by omega) (Ev.now _)
  | succ n ih =>
   intro i h
   refine Ev.step (fun k=>by rw [jm.l0]) ?_
   simp only [c0,c1,iW,Option.bind_some]
   rw [trN]
   by_cases h1:i<t.length
   ·rw [if_pos h1]
    have stop:Ev (fun k=>jm.j1 k t t.length i true t) false:=by
     refine Ev.step (fun k=>by rw [jm.j1]) ?_
     exact Ev.pos rfl (Ev.now _)
    have fin:∀ b:Bool,b=parB t i→Ev (fun k=>jm.j1 k t t.length i (!b) t) (b && trN t n (i+1)):=by
     intro b hb
     refine Ev.step (fun k=>by rw [jm.j1]) ?_
     cases b with
     | true=>rw [wS (by omega)];exact Ev.neg (by simp) (by simpa using ih (i+1) (by omega))
     | false=>exact Ev.pos rfl (by simpa using Ev.now false)
    refine Ev.pos (by omega) (Ev.pos (by omega) (Ev.pos (by omega) (Ev.bind (ev_nameOk (ht.2 i h1)) ?_)))
    cases nameB (cn t i) with
    | false=>exact Ev.neg (by simp) (by simpa using stop)
    | true =>
     refine Ev.pos rfl ?_
     simp only [jma.f,named_eq,Option.bind_some]
     by_cases h2:0≤fiD (cn t i) (t.take i) 0
     ·rw [decide_eq_true h2]
      simp only [Bool.not_true,Bool.and_false,Bool.false_and]
      exact Ev.neg (fun h=>(fiD_first h1).mp h h2) stop
     ·rw [decide_eq_false h2]
      simp only [Bool.not_false,Bool.and_true,Bool.true_and]
      refine Ev.pos ((fiD_first h1).mpr h2) ?_
      by_cases h3:i=0
      ·subst h3
       refine Ev.pos rfl ?_
       by_cases h4:cp t 0 = -1
       ·refine Ev.pos h4 (Ev.neg (by omega) ?_)
        have:=fin true (by simp [parB,h4])
        rw [show parB t 0=true from by simp [parB,h4]]
        exact this
       ·refine Ev.neg h4 ?_
        rw [show parB t 0=false from by simp [parB,h4]]
        simpa using stop
      ·refine Ev.neg (by omega) (Ev.pos (by omega) ?_)
       rw [show wrap64 ((i:Int) - 1)=(i:Int) - 1 from wr (by omega)]
       have e:parB t i=bw (cp t i) 0 ((i:Int) - 1):=by rw [parB,if_neg h3]
       have:=fin _ e.symm
       rw [e]
       exact this
   ·rw [if_neg h1]
    exact Ev.neg (by omega) (Ev.now _)
 exact this t.length 0 (by omega)
def hasB (t : List Cl) (a : Int) : Bool := bw a 0 ((t.length : Int) - 1)
theorem sHas {t : List Cl} (ht : t.length ≤ 1048576) (a : Int) : jM.f t a = some (hasB t a) := by
 unfold jM.f hasB
 rw [wr (by omega),iR];rfl
theorem iHas {t : List Cl} (ht : t.length ≤ 1048576) (a : Int) : jja.f t a = some (hasB t a) := by
 unfold jja.f hasB
 rw [wr (by omega),iW];rfl
end Go.Proofs.YtpfaohdpnegjnaaDoor.Pure
end
