/- One part of the proofs on this program: functions of the program as plain functions, that the code comes to them, and facts on them. -/
import Derived.Test.YtkokajljeebgdaaYA2
import Derived.Test.YtkokajljeebgdaaYA3
import Derived.Test.YtkokajljeebgdaaYMe
section
set_option linter.unusedSimpArgs false
set_option linter.unusedVariables false
namespace Go.Proofs.Ytkokajljeebgdaa.Pure
open Go Go.RowKit Go.Proofs.Ytkokajljeebgdaa.P Go.Proofs.YtkokajljeebgdaaW.PrintWords
set_option linter.unusedVariables false
def deepL (d : Int) (l : List Ln) : List Ln := l.takeWhile fun x => decide (d < x.f0)
def restL (d : Int) (l : List Ln) : List Ln := l.dropWhile fun x => decide (d < x.f0)
theorem deep_rest (d : Int) (l : List Ln) : deepL d l ++ restL d l = l := List.takeWhile_append_dropWhile
theorem rest_len (d : Int) (l : List Ln) : (restL d l).length ≤ l.length := by have := congrArg List.length (deep_rest d l); rw [List.length_append] at this; omega
theorem deep_len (d : Int) (l : List Ln) : (deepL d l).length ≤ l.length := by have := congrArg List.length (deep_rest d l); rw [List.length_append] at this; omega
def isW (x : Ln) : Bool := decide (x.f1 = 11) && decide (x.f3 ≠ 1)
def opn (x : Ln) : List Ln := [⟨x.f0, 1, x.f2, 0⟩, ⟨x.f0, 7, 0, 0⟩]
def cls (x : Ln) : List Ln := [⟨x.f0, 10, 0, 0⟩, ⟨x.f0 + 1, 1, x.f2, 0⟩]
def lowS : Nat → List Ln → List Ln
 | 0, _ => []
 | _ + 1, [] => []
 | n + 1, x :: r => if isW x = true then opn x ++ lowS n (deepL x.f0 r) ++ cls x ++ lowS n (restL x.f0 r) else x :: lowS n r
def lowI : Nat → List Ln → List Ln
 | 0, _ => []
 | _ + 1, [] => []
 | n + 1, x :: r => (if isW x = true then opn x ++ lowI n (deepL x.f0 r) ++ cls x else x :: lowI n (deepL x.f0 r)) ++ lowI n (restL x.f0 r)
theorem deep_app {d e : Int} (hde : e ≤ d) : ∀ (b r : List Ln), (∀ x ∈ b, e < x.f0) → (∀ x, r.head? = some x → x.f0 ≤ e) → deepL d (b ++ r) = deepL d b ∧ restL d (b ++ r) = restL d b ++ r
 | [], r, _, hr => by
  cases r with
  | nil => exact ⟨rfl, rfl⟩
  | cons x r =>
   have := hr x rfl
   have hd : ¬ d < x.f0 := by omega
   simp [deepL, restL, hd]
 | x :: b, r, hb, hr => by
  obtain ⟨h1, h2⟩ := deep_app hde b r (fun y hy => hb y (by simp [hy])) hr
  unfold deepL restL at *
  by_cases hd : d < x.f0
  ·simp only [List.cons_append, List.takeWhile_cons, List.dropWhile_cons, hd, decide_true, if_true, h1, h2]
   exact ⟨trivial, trivial⟩
  ·simp only [List.cons_append, List.takeWhile_cons, List.dropWhile_cons, hd, decide_false, Bool.false_eq_true, if_false]
   exact ⟨trivial, trivial⟩
theorem rest_sub {d : Int} {l : List Ln} : ∀ x ∈ restL d l, x ∈ l := fun x hx => (List.dropWhile_sublist _).subset hx
theorem deep_sub {d : Int} {l : List Ln} : ∀ x ∈ deepL d l, x ∈ l := fun x hx => (List.takeWhile_sublist _).subset hx
theorem deep_all {d : Int} : ∀ {l : List Ln}, ∀ x ∈ deepL d l, d < x.f0
 | [], x, hx => by simp [deepL] at hx
 | y :: l, x, hx => by
  unfold deepL at hx
  rw [List.takeWhile_cons] at hx
  split at hx
  ·rename_i hy
   rcases List.mem_cons.mp hx with rfl | hx
   ·simpa using hy
   ·exact deep_all (l := l) x hx
  ·simp at hx
theorem rest_head {d : Int} {l : List Ln} : ∀ x, (restL d l).head? = some x → x.f0 ≤ d := by
 intro x hx
 have := List.head?_dropWhile_not (fun x : Ln => decide (d < x.f0)) l
 rw [show List.dropWhile (fun x : Ln => decide (d < x.f0)) l = restL d l from rfl, hx] at this
 simpa using this
theorem lowS_more : ∀ (n m : Nat) (l : List Ln), l.length ≤ n → n ≤ m → lowS m l = lowS n l
 | 0, 0, _, _, _ => rfl
 | 0, m + 1, l, h, _ => by
  obtain rfl : l = [] := List.eq_nil_of_length_eq_zero (by omega)
  rfl
 | n + 1, 0, _, _, h => by omega
 | n + 1, m + 1, [], _, _ => rfl
 | n + 1, m + 1, x :: r, h, h2 => by
  simp only [List.length_cons] at h
  have h3 := deep_len x.f0 r
  have h4 := rest_len x.f0 r
  simp only [lowS]
  rw [lowS_more n m r (by omega) (by omega), lowS_more n m (deepL x.f0 r) (by omega) (by omega), lowS_more n m (restL x.f0 r) (by omega) (by omega)]
theorem lowS_app {e : Int} : ∀ (n : Nat) (b r : List Ln), b.length + r.length ≤ n → (∀ x ∈ b, e < x.f0) → (∀ x, r.head? = some x → x.f0 ≤ e) → lowS n (b ++ r) = lowS n b ++ lowS n r
 | 0, [], [], _, _, _ => rfl
 | 0, x :: b, r, h, _, _ => by simp at h
 | 0, [], x :: r, h, _, _ => by simp at h
 | n + 1, [], r, _, _, _ => by simp [lowS]
 | n + 1, x :: b, r, h, hb, hr => by
  simp only [List.length_cons] at h
  have hx := hb x (by simp)
  have hb' : ∀ y ∈ b, e < y.f0 := fun y hy => hb y (by simp [hy])
  obtain ⟨h1, h2⟩ := deep_app (d := x.f0) (by omega) b r hb' hr
  have h3 := deep_len x.f0 b
  have h4 := rest_len x.f0 b
  simp only [List.cons_append, lowS]
  have er : lowS (n + 1) r = lowS n r := lowS_more n (n + 1) r (by omega) (by omega)
  rw [er, h1, h2, lowS_app n (restL x.f0 b) r (by omega) (fun y hy => hb' y (rest_sub y hy)) hr, lowS_app n b r (by omega) hb' hr]
  split <;> simp [List.append_assoc]
theorem low_eq : ∀ (n : Nat) (l : List Ln), l.length ≤ n → lowI n l = lowS n l
 | 0, _, _ => rfl
 | n + 1, [], _ => rfl
 | n + 1, x :: r, h => by
  simp only [List.length_cons] at h
  have h3 := deep_len x.f0 r
  have h4 := rest_len x.f0 r
  simp only [lowI, lowS]
  rw [low_eq n (deepL x.f0 r) (by omega), low_eq n (restL x.f0 r) (by omega)]
  have hsum := congrArg List.length (deep_rest x.f0 r)
  rw [List.length_append] at hsum
  have key := lowS_app n (deepL x.f0 r) (restL x.f0 r) (by omega) deep_all rest_head
  rw [deep_rest] at key
  split
  ·simp [List.append_assoc]
  ·rw [key]; simp
theorem lowS_len : ∀ (n : Nat) (l : List Ln), (lowS n l).length ≤ 4 * l.length
 | 0, _ => by simp [lowS]
 | n + 1, [] => by simp [lowS]
 | n + 1, x :: r => by
  have hsum := congrArg List.length (deep_rest x.f0 r)
  rw [List.length_append] at hsum
  have h1 := lowS_len n (deepL x.f0 r)
  have h2 := lowS_len n (restL x.f0 r)
  have h3 := lowS_len n r
  simp only [lowS]
  split
  ·simp only [List.length_append, List.length_cons, opn, cls, List.length_nil]; omega
  ·simp only [List.length_cons]; omega
theorem bEnd_list {p : List Ln} {i : Nat} (hi : i < p.length) : bEnd p i = i + 1 + (deepL (dp p i) (p.drop (i + 1))).length := by
 have hd := deep_rest (dp p i) (p.drop (i + 1))
 have ha := fun x hx => deep_all (d := dp p i) (l := p.drop (i + 1)) x hx
 have hh := rest_head (d := dp p i) (l := p.drop (i + 1))
 have hsum := congrArg List.length hd
 rw [List.length_append, List.length_drop] at hsum
 generalize deepL (dp p i) (p.drop (i + 1)) = D at *
 generalize restL (dp p i) (p.drop (i + 1)) = R at *
 have at_ : ∀ j, i + 1 ≤ j → j < p.length → dp p j = ((D ++ R).getD (j - (i + 1)) z52).f0 := by
  intro j h1 h2
  unfold dp
  rw [hd, List.getD_eq_getElem?_getD, List.getD_eq_getElem?_getD, List.getElem?_drop, show i + 1 + (j - (i + 1)) = j from by omega]
 refine bEnd_uniq (by omega) (by omega) (fun j h1 h2 => ?_) (fun h => ?_)
 ·rw [at_ j (by omega) (by omega)]
  have hj : j - (i + 1) < D.length := by omega
  rw [List.getD_eq_getElem?_getD, List.getElem?_append_left hj, List.getElem?_eq_getElem hj]
  exact ha _ (List.getElem_mem hj)
 ·rw [at_ _ (by omega) h, show i + 1 + D.length - (i + 1) = D.length from by omega]
  refine hh _ ?_
  rw [List.head?_eq_getElem?, List.getD_eq_getElem?_getD, List.getElem?_append_right (Nat.le_refl _), Nat.sub_self]
  rw [List.getElem?_eq_getElem (by omega)]; rfl
theorem cut_deep {p : List Ln} {i : Nat} (hi : i < p.length) : (p.take (bEnd p i)).drop (i + 1) = deepL (dp p i) (p.drop (i + 1)) ∧ p.drop (bEnd p i) = restL (dp p i) (p.drop (i + 1)) := by
 have e := bEnd_list hi
 have hd := deep_rest (dp p i) (p.drop (i + 1))
 generalize deepL (dp p i) (p.drop (i + 1)) = D at *
 generalize restL (dp p i) (p.drop (i + 1)) = R at *
 constructor
 ·rw [List.drop_take, e, show i + 1 + D.length - (i + 1) = D.length from by omega, ← hd]
  exact List.take_left
 ·rw [e, ← List.drop_drop, ← hd]
  exact List.drop_left
def Fit (l : List Ln) : Prop := ∀ x ∈ l, (0 ≤ x.f0 ∧ x.f0 ≤ 5) ∧ (x.f1 = 11 → x.f3 = 0 ∨ x.f3 = 1)
theorem ValidP.fit {t : List Cl} {p : List Ln} (hv : ValidP t p) : Fit p := by
 intro x hx
 obtain ⟨i, hi, rfl⟩ := List.mem_iff_getElem.mp hx
 have h := hv.2.2 i hi
 have e : p.getD i z52 = p[i] := by rw [List.getD_eq_getElem?_getD, List.getElem?_eq_getElem hi]; rfl
 have h1 := h.1
 have h2 := bw_iff.mp h.2.1
 unfold kd la lb at h1
 unfold dp at h2
 rw [e] at h1 h2
 refine ⟨h2, fun h11 => ?_⟩
 rw [h11] at h1
 have : numB t 11 p[i].f2 p[i].f3 = (bw p[i].f2 0 9 && bw p[i].f3 0 1) := rfl
 rw [this, Bool.and_eq_true] at h1
 have := bw_iff.mp h1.2
 omega
theorem ev_sLow : ∀ (n : Nat) (l : List Ln), l.length ≤ n → l.length ≤ 1048576 → Fit l → Ev (fun k => spec_lowered.f k l) (lowS n l) := by
 intro n
 induction n with
 | zero =>
  intro l h _ _
  obtain rfl : l = [] := List.eq_nil_of_length_eq_zero (by omega)
  refine Ev.step (fun k => by rw [spec_lowered.f]) ?_
  refine Ev.step (fun k => by rw [spec_lowered.l0]) ?_
  exact Ev.neg (by simp) (Ev.now _)
 | succ n ih =>
  intro l hn hl hf
  have go : ∀ (m i : Nat) (x : List Ln), l.length ≤ m + i → i ≤ l.length → x.length ≤ 4 * i → Ev (fun k => spec_lowered.l0 k l x i) (x ++ lowS m (l.drop i)) := by
   intro m
   induction m with
   | zero =>
    intro i x h h2 hx
    refine Ev.step (fun k => by rw [spec_lowered.l0]) ?_
    rw [lowS, List.append_nil]
    exact Ev.neg (by omega) (Ev.now _)
   | succ m ihm =>
    intro i x h h2 hx
    by_cases hi : i < l.length
    ·have ed : l.drop i = l[i] :: l.drop (i + 1) := List.drop_eq_getElem_cons hi
     have eg : rd_T52 l (i : Int) = l[i] := by simp [rd_T52, List.getD_eq_getElem?_getD, hi]
     have hd : dp l i = l[i].f0 := by rw [← eg]; rfl
     have hfi := hf l[i] (List.getElem_mem hi)
     have g := bEnd_gt l i
     have gl := bEnd_le hi
     obtain ⟨c1, c2⟩ := cut_deep hi
     rw [hd] at c1 c2
     have hdl := deep_len l[i].f0 (l.drop (i + 1))
     have hdn : (l.drop (i + 1)).length = l.length - (i + 1) := List.length_drop
     have hbe := bEnd_list hi
     rw [hd] at hbe
     have j1 : ∀ q : Bool, q = (!isW l[i]) → Ev (fun k => spec_lowered.j1 k l x i q l[i].f0 l[i].f1 l[i].f2 l[i].f3) (x ++ lowS (m + 1) (l.drop i)) := by
      intro q hq
      refine Ev.step (fun k => by rw [spec_lowered.j1]) ?_
      rw [ed, lowS]
      by_cases hw : isW l[i] = true
      ·rw [if_pos hw]
       have hq2 : ¬ q = true := by rw [hq, hw]; simp
       have hlen := lowS_len n (deepL l[i].f0 (l.drop (i + 1)))
       have hk := ih (deepL l[i].f0 (l.drop (i + 1))) (by omega) (by omega) (fun y hy => hf y (List.mem_of_mem_drop (deep_sub y hy)))
       have em : lowS m (deepL l[i].f0 (l.drop (i + 1))) = lowS n (deepL l[i].f0 (l.drop (i + 1))) := by
        rcases Nat.le_total m n with hmn | hmn
        ·exact (lowS_more m n _ (by omega) hmn).symm
        ·exact lowS_more n m _ (by omega) hmn
       have hz := ihm (bEnd l i) (x ++ (opn l[i] ++ lowS n (deepL l[i].f0 (l.drop (i + 1))) ++ cls l[i])) (by omega) gl (by simp only [List.length_append, opn, cls, List.length_cons, List.length_nil]; omega)
       rw [c2] at hz
       rw [em]
       refine Ev.neg hq2 (Ev.bind (ev_blockEnd hl hi) (Ev.bind (Ev.now (opn l[i])) (Ev.pos (by simp only [List.length_append, opn, cls, List.length_cons, List.length_nil]; omega) (Ev.bind (Ev.now (x ++ opn l[i])) ?_))))
       rw [wS (by omega)]
       refine Ev.pos (by omega) (Ev.pos (by omega) (Ev.pos (by omega) ?_))
       rw [show ((bEnd l i : Nat) : Int).toNat = bEnd l i from rfl, show ((i + 1 : Nat) : Int).toNat = i + 1 from rfl, c1]
       have ew : ([(⟨l[i].f0, 10, 0, 0⟩ : Ln), (⟨wrap64 (l[i].f0 + 1), 1, l[i].f2, 0⟩ : Ln)] : List Ln) = cls l[i] := by rw [wr (x := l[i].f0 + 1) (by omega)]; rfl
       rw [ew]
       refine Ev.bind hk (Ev.pos (by simp only [List.length_append, opn, cls, List.length_cons, List.length_nil]; omega) (Ev.bind (Ev.now (x ++ opn l[i] ++ lowS n (deepL l[i].f0 (l.drop (i + 1))))) (Ev.bind (Ev.now (cls l[i])) (Ev.pos (by simp only [List.length_append, opn, cls, List.length_cons, List.length_nil]; omega) ?_))))
       simpa only [List.append_assoc] using hz
      ·rw [if_neg hw]
       have hq2 : q = true := by rw [hq]; simpa using hw
       have hz := ihm (i + 1) (x ++ [l[i]]) (by omega) (by omega) (by rw [List.length_append, List.length_singleton]; omega)
       rw [List.append_assoc] at hz
       have eη : (⟨l[i].f0, l[i].f1, l[i].f2, l[i].f3⟩ : Ln) = l[i] := rfl
       rw [wS (by omega), eη]
       exact Ev.pos hq2 (Ev.pos (by omega) hz)
     refine Ev.step (fun k => by rw [spec_lowered.l0]) ?_
     rw [eg]
     have e1 : (l[i].f3 == 1) = decide (l[i].f3 = 1) := eqd _ _
     rw [e1]
     refine Ev.pos (by omega) (Ev.pos (by omega) (Ev.both (fun c => j1 _ (by simp [isW, c])) (fun c => j1 _ (by simp [isW, c]))))
    ·refine Ev.step (fun k => by rw [spec_lowered.l0]) ?_
     rw [List.drop_eq_nil_of_le (by omega), lowS, List.append_nil]
     exact Ev.neg (by omega) (Ev.now _)
  refine Ev.step (fun k => by rw [spec_lowered.f]) ?_
  have hz := go (n + 1) 0 [] (by omega) (by omega) (by simp)
  rw [List.drop_zero, List.nil_append] at hz
  exact hz
theorem ev_iLow : ∀ (n : Nat) (l : List Ln), l.length ≤ n → l.length ≤ 1048576 → Fit l → Ev (fun k => impl_lowered.f k l) (lowI n l) := by
 intro n
 induction n with
 | zero =>
  intro l h _ _
  obtain rfl : l = [] := List.eq_nil_of_length_eq_zero (by omega)
  refine Ev.step (fun k => by rw [impl_lowered.f]) ?_
  refine Ev.step (fun k => by rw [impl_lowered.l0]) ?_
  exact Ev.neg (by simp) (Ev.now _)
 | succ n ih =>
  intro l hn hl hf
  have go : ∀ (m i : Nat) (x : List Ln), l.length ≤ m + i → i ≤ l.length → x.length ≤ 4 * i → Ev (fun k => impl_lowered.l0 k l x i) (x ++ lowI m (l.drop i)) := by
   intro m
   induction m with
   | zero =>
    intro i x h h2 hx
    refine Ev.step (fun k => by rw [impl_lowered.l0]) ?_
    rw [lowI, List.append_nil]
    exact Ev.neg (by omega) (Ev.now _)
   | succ m ihm =>
    intro i x h h2 hx
    by_cases hi : i < l.length
    ·have ed : l.drop i = l[i] :: l.drop (i + 1) := List.drop_eq_getElem_cons hi
     have eg : rd_T52 l (i : Int) = l[i] := by simp [rd_T52, List.getD_eq_getElem?_getD, hi]
     have hd : dp l i = l[i].f0 := by rw [← eg]; rfl
     have hfi := hf l[i] (List.getElem_mem hi)
     have g := bEnd_gt l i
     have gl := bEnd_le hi
     obtain ⟨c1, c2⟩ := cut_deep hi
     rw [hd] at c1 c2
     have hdl := deep_len l[i].f0 (l.drop (i + 1))
     have hdn : (l.drop (i + 1)).length = l.length - (i + 1) := List.length_drop
     have hbe := bEnd_list hi
     rw [hd] at hbe
     have hlen := lowS_len n (deepL l[i].f0 (l.drop (i + 1)))
     have hk := ih (deepL l[i].f0 (l.drop (i + 1))) (by omega) (by omega) (fun y hy => hf y (List.mem_of_mem_drop (deep_sub y hy)))
     rw [low_eq n _ (by omega)] at hk
     have em : lowI m (deepL l[i].f0 (l.drop (i + 1))) = lowS n (deepL l[i].f0 (l.drop (i + 1))) := by
      rw [low_eq m _ (by omega)]
      rcases Nat.le_total m n with hmn | hmn
      ·exact (lowS_more m n _ (by omega) hmn).symm
      ·exact lowS_more n m _ (by omega) hmn
     refine Ev.step (fun k => by rw [impl_lowered.l0]) ?_
     rw [eg, wS (by omega), ed, lowI]
     refine Ev.pos (by omega) (Ev.pos (by omega) (Ev.bind (ev_endOf hl hi) (Ev.pos (by omega) (Ev.pos (by omega) (Ev.pos (by omega) ?_)))))
     rw [show ((bEnd l i : Nat) : Int).toNat = bEnd l i from rfl, show ((i + 1 : Nat) : Int).toNat = i + 1 from rfl, c1, em]
     refine Ev.bind hk ?_
     simp only [Option.bind_some, List.length_append, List.length_cons, List.length_nil]
     have plain : isW l[i] = false → Ev (fun k => if x.length < 4398046511104 then (if x.length + (0 + 1) + (lowS n (deepL l[i].f0 (l.drop (i + 1)))).length < 4398046511104 then (impl_lowered.l0 k l (x ++ [l[i]] ++ lowS n (deepL l[i].f0 (l.drop (i + 1)))) ((bEnd l i : Nat) : Int)) else none) else none) (x ++ ((if isW l[i] = true then opn l[i] ++ lowS n (deepL l[i].f0 (l.drop (i + 1))) ++ cls l[i] else l[i] :: lowS n (deepL l[i].f0 (l.drop (i + 1)))) ++ lowI m (restL l[i].f0 (l.drop (i + 1))))) := by
      intro hw
      rw [hw]
      simp only [Bool.false_eq_true, if_false]
      have := ihm (bEnd l i) (x ++ [l[i]] ++ lowS n (deepL l[i].f0 (l.drop (i + 1)))) (by omega) gl (by simp only [List.length_append, List.length_cons, List.length_nil]; omega)
      rw [c2] at this
      refine Ev.pos (by omega) (Ev.pos (by omega) ?_)
      simpa only [List.append_assoc, List.cons_append, List.nil_append] using this
     refine Ev.both (fun c => Ev.both (fun cw => ?_) (fun cw => plain ?_)) (fun c => plain ?_)
     ·have hw : isW l[i] = true := by simp [isW, c, cw]
      rw [hw]
      simp only [if_true]
      rw [wr (x := l[i].f0 + 1) (by omega)]
      have := ihm (bEnd l i) (x ++ (opn l[i] ++ lowS n (deepL l[i].f0 (l.drop (i + 1))) ++ cls l[i])) (by omega) gl (by simp only [List.length_append, opn, cls, List.length_cons, List.length_nil]; omega)
      rw [c2] at this
      refine Ev.pos (by omega) (Ev.pos (by omega) (Ev.pos (by omega) ?_))
      simpa only [opn, cls, List.append_assoc] using this
     ·have := hfi.2 c
      simp [isW]; omega
     ·simp [isW, c]
    ·refine Ev.step (fun k => by rw [impl_lowered.l0]) ?_
     rw [List.drop_eq_nil_of_le (by omega), lowI, List.append_nil]
     exact Ev.neg (by omega) (Ev.now _)
  refine Ev.step (fun k => by rw [impl_lowered.f]) ?_
  have hz := go (n + 1) 0 [] (by omega) (by omega) (by simp)
  rw [List.drop_zero, List.nil_append] at hz
  exact hz
end Go.Proofs.Ytkokajljeebgdaa.Pure
end
