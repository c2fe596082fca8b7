/- The program's LoopOf returns what the reference's returns, for all trees, programs and places, and leaves its arguments as they were. Part 23 of 27: functions and facts used for it. -/
import Derived.Test.YtbclgpgolbmlpaaXFnExactLoopOfP1
import Derived.Test.YtbclgpgolbmlpaaXFnExactLoopOfP2
import Derived.Test.YtbclgpgolbmlpaaXFnExactLoopOfP3
import Derived.Test.YtbclgpgolbmlpaaXFnExactLoopOfP4
import Derived.Test.YtbclgpgolbmlpaaXFnExactLoopOfP5
section
namespace Go.Proofs.Ytbclgpgolbmlpaa.Pure
open Go.Proofs.Ytbclgpgolbmlpaa.P
set_option linter.unusedVariables false
abbrev Ln := S50
abbrev Cl := S68
def dp (p : List Ln) (i : Nat) : Int := (p.getD i z50).f0
def kd (p : List Ln) (i : Nat) : Int := (p.getD i z50).f1
def la (p : List Ln) (i : Nat) : Int := (p.getD i z50).f2
def lb (p : List Ln) (i : Nat) : Int := (p.getD i z50).f3
def isF (k : Int) : Bool := decide (8 ≤ k) && decide (k ≤ 10)
def isO (k : Int) : Bool := decide (7 ≤ k) && decide (k ≤ 12)
theorem isF_iff {k : Int} : isF k = true ↔ 8 ≤ k ∧ k ≤ 10 := by simp [isF]
theorem isO_iff {k : Int} : isO k = true ↔ 7 ≤ k ∧ k ≤ 12 := by simp [isO]
theorem isO_not {k : Int} : isO k = false ↔ ¬ (7 ≤ k ∧ k ≤ 12) := by rw [← isO_iff]; simp
def endN (p : List Ln) (d : Int) : Nat → Nat → Nat
  | 0, k => k
  | n + 1, k => if k < p.length then (if dp p k > d then endN p d n (k + 1) else k) else k
def bEnd (p : List Ln) (i : Nat) : Nat := endN p (dp p i) p.length (i + 1)
theorem endN_spec (p : List Ln) (d : Int) : ∀ (n k : Nat), p.length ≤ n + k →
    k ≤ endN p d n k ∧ (k ≤ p.length → endN p d n k ≤ p.length) ∧ (∀ j, k ≤ j → j < endN p d n k → d < dp p j) ∧ (endN p d n k < p.length → dp p (endN p d n k) ≤ d)
  | 0, k, h => ⟨Nat.le_refl _, fun h => h, fun j h1 h2 => absurd h2 (by simp only [endN]; omega), fun h2 => absurd h2 (by simp only [endN]; omega)⟩
  | n + 1, k, h => by
    simp only [endN]
    by_cases h1 : k < p.length
    · rw [if_pos h1]
      by_cases h2 : dp p k > d
      · rw [if_pos h2]
        obtain ⟨a, b, c, e⟩ := endN_spec p d n (k + 1) (by omega)
        refine ⟨by omega, fun _ => b h1, fun j hj1 hj2 => ?_, e⟩
        by_cases hj : j = k
        · rw [hj]; exact h2
        · exact c j (by omega) hj2
      · rw [if_neg h2]
        exact ⟨Nat.le_refl _, fun h => h, fun j h1 h2 => absurd h2 (by omega), fun _ => by omega⟩
    · rw [if_neg h1]
      exact ⟨Nat.le_refl _, fun h => h, fun j h1 h2 => absurd h2 (by omega), fun h => absurd h h1⟩
theorem bEnd_gt (p : List Ln) (i : Nat) : i < bEnd p i := (endN_spec p (dp p i) p.length (i + 1) (by omega)).1
theorem bEnd_le {p : List Ln} {i : Nat} (h : i < p.length) : bEnd p i ≤ p.length := (endN_spec p (dp p i) p.length (i + 1) (by omega)).2.1 h
theorem bEnd_in {p : List Ln} {i j : Nat} (h1 : i < j) (h2 : j < bEnd p i) : dp p i < dp p j := (endN_spec p (dp p i) p.length (i + 1) (by omega)).2.2.1 j h1 h2
theorem bEnd_at {p : List Ln} {i : Nat} (h : bEnd p i < p.length) : dp p (bEnd p i) ≤ dp p i := (endN_spec p (dp p i) p.length (i + 1) (by omega)).2.2.2 h
theorem bEnd_uniq {p : List Ln} {i e : Nat} (h1 : i < e) (h2 : e ≤ p.length) (h3 : ∀ j, i < j → j < e → dp p i < dp p j) (h4 : e < p.length → dp p e ≤ dp p i) : bEnd p i = e := by
  have g := bEnd_gt p i
  have l : bEnd p i ≤ p.length := bEnd_le (by omega)
  rcases Nat.lt_trichotomy (bEnd p i) e with h | h | h
  · have a := h3 (bEnd p i) g h
    have b := bEnd_at (p := p) (i := i) (by omega)
    omega
  · exact h
  · have a := bEnd_in (p := p) h1 h
    have b := h4 (by omega)
    omega
theorem bEnd_lt_iff {p : List Ln} {k i : Nat} (h : k < i) (hi : i < p.length) : i < bEnd p k ↔ ∀ j, k < j → j ≤ i → dp p k < dp p j := by
  constructor
  · intro h1 j h2 h3
    exact bEnd_in h2 (by omega)
  · intro h1
    rcases Nat.lt_or_ge i (bEnd p k) with h2 | h2
    · exact h2
    · have g := bEnd_gt p k
      have a := h1 (bEnd p k) g h2
      have b := bEnd_at (p := p) (i := k) (by omega)
      omega
def chainN (p : List Ln) (d : Int) : Nat → Nat → List Nat
  | 0, _ => []
  | n + 1, k => if k < p.length ∧ dp p k = d ∧ isF (kd p k) = true then k :: chainN p d n (bEnd p k) else []
def chainT (p : List Ln) (i : Nat) : List Nat := chainN p (dp p i) p.length (bEnd p i)
def chain (p : List Ln) (i : Nat) : List Nat := i :: chainT p i
def lastOf (l : List Nat) (i : Nat) : Nat := l.getLastD i
def sibs (p : List Ln) (b : Nat) : Nat → Nat → List Nat
  | 0, _ => []
  | n + 1, i => if i < b then i :: sibs p b n (bEnd p i) else []
theorem sibs_more (p : List Ln) (b : Nat) : ∀ (n m k : Nat), b ≤ n + k → n ≤ m → sibs p b m k = sibs p b n k
  | 0, 0, _, _, _ => rfl
  | 0, m + 1, k, h, _ => by simp only [sibs]; rw [if_neg (by omega)]
  | n + 1, 0, _, _, h => by omega
  | n + 1, m + 1, k, h, h2 => by
    simp only [sibs]
    have g := bEnd_gt p k
    rw [sibs_more p b n m (bEnd p k) (by omega) (by omega)]
theorem chainN_mem {p : List Ln} {d : Int} : ∀ {n k j : Nat}, j ∈ chainN p d n k → k ≤ j ∧ j < p.length ∧ dp p j = d ∧ isF (kd p j) = true
  | 0, _, _, h => by simp [chainN] at h
  | n + 1, k, j, h => by
    simp only [chainN] at h
    split at h
    · rename_i hc
      rcases List.mem_cons.mp h with rfl | h
      · exact ⟨Nat.le_refl _, hc⟩
      · have := chainN_mem h
        have g := bEnd_gt p k
        exact ⟨by omega, this.2⟩
    · simp at h
def okGo : List Int → Int → Int → Option Int
  | [], ex, _ => some ex
  | k :: ks, ex, last => if k = 8 then (if last ≤ 8 then okGo ks (ex + 1) k else none) else if k = 9 then (if last = 8 then okGo ks ex k else none) else if k = 10 then (if last < 10 then okGo ks ex k else none) else none
def finB (n : Nat) (o : Option Int) : Bool := match o with | none => false | some ex => decide (1 ≤ n) && decide (ex ≤ 6)
def okB (ks : List Int) : Bool := finB ks.length (okGo ks 0 7)
def badK (k ex : Int) (q : Option Int) : Bool := (match q with | some q => decide (k < q) || (decide (k = q) && decide (k ≠ 8)) | none => false) || (decide (k = 9) && decide (ex = 0))
def vcGo : List Int → Int → Option Int → Option Int
  | [], ex, _ => some ex
  | k :: ks, ex, q => if badK k (if k = 8 then ex + 1 else ex) q = true then none else vcGo ks (if k = 8 then ex + 1 else ex) (some k)
def vcB (ks : List Int) : Bool := finB ks.length (vcGo ks 0 none)
theorem okGo_vc : ∀ (ks : List Int) (ex last : Int) (q : Option Int), (∀ k ∈ ks, isF k = true) → (0 ≤ ex) → ((q = none ∧ last = 7 ∧ ex = 0) ∨ (q = some last ∧ 8 ≤ last ∧ last ≤ 10 ∧ (last = 8 → 1 ≤ ex))) → okGo ks ex last = vcGo ks ex q
  | [], _, _, _, _, _, _ => rfl
  | k :: ks, ex, last, q, hk, he, hq => by
    have h1 := isF_iff.mp (hk k (by simp))
    have hk' : ∀ k ∈ ks, isF k = true := fun x hx => hk x (by simp [hx])
    simp only [okGo, vcGo, badK]
    rcases (by omega : k = 8 ∨ k = 9 ∨ k = 10) with rfl | rfl | rfl
    · rcases hq with ⟨rfl, rfl, rfl⟩ | ⟨rfl, a, b, c⟩
      · simp; exact okGo_vc ks _ _ _ hk' (by omega) (.inr ⟨rfl, by omega, by omega, by omega⟩)
      · by_cases h : last ≤ 8
        · obtain rfl : last = 8 := by omega
          simp; exact okGo_vc ks _ _ _ hk' (by omega) (.inr ⟨rfl, by omega, by omega, by omega⟩)
        · simp [h]
    · rcases hq with ⟨rfl, rfl, rfl⟩ | ⟨rfl, a, b, c⟩
      · simp
      · by_cases h : last = 8
        · subst h
          have : ex ≠ 0 := by have := c rfl; omega
          simp [this]; exact okGo_vc ks _ _ _ hk' (by omega) (.inr ⟨rfl, by omega, by omega, by omega⟩)
        · have : 9 < last ∨ 9 = last := by omega
          rcases this with h2 | h2 <;> simp [h, h2] <;> omega
    · rcases hq with ⟨rfl, rfl, rfl⟩ | ⟨rfl, a, b, c⟩
      · simp; exact okGo_vc ks _ _ _ hk' (by omega) (.inr ⟨rfl, by omega, by omega, by omega⟩)
      · by_cases h : last < 10
        · have h1 : ¬ (10 < last) := by omega
          have h2 : ¬ (10 = last) := by omega
          simp [h, h1, h2]; exact okGo_vc ks _ _ _ hk' (by omega) (.inr ⟨rfl, by omega, by omega, by omega⟩)
        · obtain rfl : last = 10 := by omega
          simp
theorem okB_vcB (ks : List Int) (h : ∀ k ∈ ks, isF k = true) : okB ks = vcB ks := by
  unfold okB vcB
  rw [okGo_vc ks 0 7 none h (by omega) (.inl ⟨rfl, rfl, rfl⟩)]
structure DR (p : List Ln) : Prop where
  first : 0 < p.length → dp p 0 = 0
  deeper : ∀ i, i + 1 < p.length → isO (kd p i) = true → dp p (i + 1) = dp p i + 1
  none : ∀ i, i + 1 < p.length → isO (kd p i) = false → dp p (i + 1) ≤ dp p i
  last : ∀ i, i + 1 = p.length → isO (kd p i) = false
structure Blk (p : List Ln) (d : Int) (a i b : Nat) : Prop where
  ai : a ≤ i
  ib : i ≤ b
  bl : b ≤ p.length
  low : ∀ j, a ≤ j → j < b → d ≤ dp p j
  at_ : i < b → dp p i = d
  out : b < p.length → dp p b < d
theorem Blk.next {p : List Ln} {d : Int} {a i b : Nat} (h : Blk p d a i b) (hi : i < b) : bEnd p i ≤ b ∧ Blk p d a (bEnd p i) b := by
  have hd := h.at_ hi
  have h1 := h.bl
  have h2 := h.ai
  have g := bEnd_gt p i
  have hb : bEnd p i ≤ b := by
    rcases Nat.lt_or_ge b (bEnd p i) with h3 | h3
    · have a1 := bEnd_in hi h3
      have a2 := bEnd_le (p := p) (i := i) (by omega)
      have a3 := h.out (by omega)
      omega
    · exact h3
  refine ⟨hb, by omega, hb, h.bl, h.low, fun h3 => ?_, h.out⟩
  have a1 := bEnd_at (p := p) (i := i) (by omega)
  have a2 := h.low (bEnd p i) (by omega) h3
  omega
theorem Blk.inner {p : List Ln} {d : Int} {a i b : Nat} (hr : DR p) (h : Blk p d a i b) (hi : i < b) : Blk p (d + 1) (i + 1) (i + 1) (bEnd p i) := by
  have hd := h.at_ hi
  have h1 := h.bl
  have g := bEnd_gt p i
  have l := bEnd_le (p := p) (i := i) (by omega)
  refine ⟨Nat.le_refl _, g, l, fun j h2 h3 => ?_, fun h2 => ?_, fun h2 => ?_⟩
  · have := bEnd_in (p := p) (i := i) (j := j) (by omega) h3
    omega
  · have a1 := bEnd_in (p := p) (i := i) (j := i + 1) (by omega) h2
    cases ho : isO (kd p i) with
    | true => rw [hr.deeper i (by omega) ho, hd]
    | false => have := hr.none i (by omega) ho; omega
  · have := bEnd_at (p := p) (i := i) h2
    omega
theorem chain_in {p : List Ln} {d : Int} {a b : Nat} : ∀ (n i : Nat), Blk p d a i b → i < b → p.length ≤ n + bEnd p i →
    (∀ j ∈ chainN p d n (bEnd p i), j < b ∧ a ≤ j) ∧ Blk p d a (bEnd p (lastOf (chainN p d n (bEnd p i)) i)) b ∧ i ≤ lastOf (chainN p d n (bEnd p i)) i ∧ lastOf (chainN p d n (bEnd p i)) i < b ∧ dp p (lastOf (chainN p d n (bEnd p i)) i) = d ∧
    ¬ (bEnd p (lastOf (chainN p d n (bEnd p i)) i) < b ∧ isF (kd p (bEnd p (lastOf (chainN p d n (bEnd p i)) i))) = true)
  | 0, i, h, hi, hn => by
    obtain ⟨h1, h2⟩ := h.next hi
    have := h.bl
    simp only [chainN, lastOf, List.getLastD_nil]
    exact ⟨by simp, h2, Nat.le_refl _, hi, h.at_ hi, fun hh => by omega⟩
  | n + 1, i, h, hi, hn => by
    obtain ⟨h1, h2⟩ := h.next hi
    have hbl := h.bl
    have g := bEnd_gt p i
    have hai := h.ai
    simp only [chainN]
    by_cases hc : bEnd p i < p.length ∧ dp p (bEnd p i) = d ∧ isF (kd p (bEnd p i)) = true
    · rw [if_pos hc]
      have hlt : bEnd p i < b := by
        rcases Nat.lt_or_ge (bEnd p i) b with h3 | h3
        · exact h3
        · have : bEnd p i = b := by omega
          have a2 := h.out (by omega)
          rw [this] at hc
          omega
      have g2 := bEnd_gt p (bEnd p i)
      obtain ⟨c1, c2, c3, c4, c5, c6⟩ := chain_in n (bEnd p i) h2 hlt (by omega)
      have e : lastOf (bEnd p i :: chainN p d n (bEnd p (bEnd p i))) i = lastOf (chainN p d n (bEnd p (bEnd p i))) (bEnd p i) := by
        simp only [lastOf, List.getLastD_cons]
      rw [e]
      refine ⟨fun j hj => ?_, c2, by omega, c4, c5, c6⟩
      rcases List.mem_cons.mp hj with rfl | hj
      · exact ⟨hlt, by omega⟩
      · exact c1 j hj
    · rw [if_neg hc]
      simp only [lastOf, List.getLastD_nil]
      refine ⟨by simp, h2, Nat.le_refl _, hi, h.at_ hi, fun hh => hc ⟨by omega, h2.at_ hh.1, hh.2⟩⟩
def bOk (p : List Ln) : Nat → Nat → Nat → Bool → Bool
  | 0, _, _, _ => true
  | n + 1, i, b, lp => if i < b then
      (if kd p i = 5 ∨ kd p i = 6 then lp && bOk p n (bEnd p i) b lp
      else if isF (kd p i) = true then false
      else if kd p i = 7 then okB ((chainT p i).map (kd p)) && (chain p i).all (fun k => bOk p n (k + 1) (bEnd p k) lp) && bOk p n (bEnd p (lastOf (chainT p i) i)) b lp
      else if kd p i = 11 ∨ kd p i = 12 then bOk p n (i + 1) (bEnd p i) (lp || decide (kd p i = 12)) && bOk p n (bEnd p i) b lp
      else bOk p n (bEnd p i) b lp)
    else true
def Good (p : List Ln) (a : Nat) (lp : Bool) (i : Nat) : Prop :=
  (kd p i = 7 → vcB ((chainT p i).map (kd p)) = true) ∧
  ((kd p i = 5 ∨ kd p i = 6) → lp = true ∨ ∃ m, a ≤ m ∧ m < i ∧ kd p m = 12 ∧ i < bEnd p m) ∧
  (isF (kd p i) = true → ∃ m, a ≤ m ∧ m < i ∧ bEnd p m = i ∧ dp p m = dp p i ∧ (kd p m = 7 ∨ isF (kd p m) = true))
theorem good_inner {p : List Ln} {d : Int} {a i b : Nat} (lp : Bool) (h : Blk p d a i b) (hi : i < b) (j : Nat) (h1 : i < j) (h2 : j < bEnd p i) :
    Good p (i + 1) (lp || decide (kd p i = 12)) j ↔ Good p a lp j := by
  have hd := h.at_ hi
  have hai := h.ai
  have hj := bEnd_in h1 h2
  have key : ∀ m, a ≤ m → m < j → j ≤ bEnd p m → dp p m ≤ dp p j → m < i → False := by
    intro m e1 e2 e3 _ e5
    have := bEnd_in (p := p) e5 (by omega)
    have := h.low m e1 (by omega)
    omega
  refine and_congr Iff.rfl (and_congr (imp_congr Iff.rfl ?_) (imp_congr Iff.rfl ?_))
  · constructor
    · rintro (h3 | ⟨m, e1, e2, e3, e4⟩)
      · simp only [Bool.or_eq_true, decide_eq_true_eq] at h3
        rcases h3 with h3 | h3
        · exact .inl h3
        · exact .inr ⟨i, hai, h1, h3, h2⟩
      · exact .inr ⟨m, by omega, e2, e3, e4⟩
    · rintro (h3 | ⟨m, e1, e2, e3, e4⟩)
      · exact .inl (by rw [h3]; rfl)
      · rcases Nat.lt_trichotomy m i with e5 | e5 | e5
        · have := bEnd_in (p := p) e5 (by omega)
          have := h.low m e1 (by omega)
          omega
        · subst e5; exact .inl (by simp [e3])
        · exact .inr ⟨m, e5, e2, e3, e4⟩
  · constructor
    · rintro ⟨m, e1, e⟩
      exact ⟨m, by omega, e⟩
    · rintro ⟨m, e1, e2, e3, e4, e5⟩
      rcases Nat.lt_trichotomy m i with e6 | e6 | e6
      · have := bEnd_in (p := p) e6 (by omega)
        have := h.low m e1 (by omega)
        omega
      · subst e6; omega
      · exact ⟨m, e6, e2, e3, e4, e5⟩
theorem all_split {P : Nat → Prop} {i e b : Nat} (h1 : i < e) (h2 : e ≤ b) : (∀ j, i ≤ j → j < b → P j) ↔ P i ∧ (∀ j, i + 1 ≤ j → j < e → P j) ∧ (∀ j, e ≤ j → j < b → P j) := by
  constructor
  · intro h
    exact ⟨h i (Nat.le_refl _) (by omega), fun j h3 h4 => h j (by omega) (by omega), fun j h3 h4 => h j (by omega) h4⟩
  · rintro ⟨h3, h4, h5⟩ j h6 h7
    by_cases e1 : j = i
    · rw [e1]; exact h3
    · by_cases e2 : j < e
      · exact h4 j (by omega) e2
      · exact h5 j (by omega) h7
def NoHead (p : List Ln) (a i b : Nat) : Prop := i < b → isF (kd p i) = true → ∀ m, a ≤ m → m < i → bEnd p m = i → dp p m = dp p i → ¬ (kd p m = 7 ∨ isF (kd p m) = true)
theorem head_one {p : List Ln} {d : Int} {a i b m : Nat} (h : Blk p d a i b) (hi : i < b) (h1 : a ≤ m) (h2 : m < bEnd p i) (h3 : bEnd p m = bEnd p i) (h4 : bEnd p i < b) (h5 : dp p m = dp p (bEnd p i)) : m = i := by
  have hd := h.at_ hi
  have hn := (h.next hi).2.at_ h4
  rcases Nat.lt_trichotomy m i with e | e | e
  · have := bEnd_in (p := p) e (by have := bEnd_gt p i; omega)
    omega
  · exact e
  · have := bEnd_in (p := p) e h2
    omega
theorem NoHead.not {p : List Ln} {a i b : Nat} {lp : Bool} (h : NoHead p a i b) (hi : i < b) (hg : Good p a lp i) : ¬ isF (kd p i) = true := by
  intro hf
  obtain ⟨m, h1, h2, h3, h4, h5⟩ := hg.2.2 hf
  exact h hi hf m h1 h2 h3 h4 h5
theorem bOk_iff {p : List Ln} (hr : DR p) : ∀ (n : Nat) (d : Int) (a i b : Nat) (lp : Bool), Blk p d a i b → b ≤ n + i → NoHead p a i b →
    (bOk p n i b lp = true ↔ ∀ j, i ≤ j → j < b → Good p a lp j) := by
  intro n
  induction n with
  | zero => intro d a i b lp h hn _; exact ⟨fun _ j h1 h2 => by omega, fun _ => rfl⟩
  | succ n ih =>
  intro d a i b lp h hn hno
  by_cases hi : i < b
  case neg => simp only [bOk]; rw [if_neg hi]; exact ⟨fun _ j h1 h2 => by omega, fun _ => rfl⟩
  have g := bEnd_gt p i
  obtain ⟨hle, hnx⟩ := h.next hi
  have hin := h.inner hr hi
  have hd := h.at_ hi
  have hai := h.ai
  have hbl := h.bl
  have noin : ∀ k e, NoHead p (k + 1) (k + 1) e := fun k e _ _ m h1 h2 => by omega
  have nonx : ¬ (kd p i = 7 ∨ isF (kd p i) = true) → NoHead p a (bEnd p i) b := by
    intro hk hb _ m e1 e2 e3 e4
    rw [head_one h hi e1 e2 e3 hb e4]; exact hk
  have chains : ∀ (m i : Nat), Blk p d a i b → i < b → b ≤ n + bEnd p i → (kd p i = 7 ∨ isF (kd p i) = true) → p.length ≤ m + bEnd p i →
      (((chainN p d m (bEnd p i)).all (fun k => bOk p n (k + 1) (bEnd p k) lp) = true ∧ bOk p n (bEnd p (lastOf (chainN p d m (bEnd p i)) i)) b lp = true) ↔ ∀ j, bEnd p i ≤ j → j < b → Good p a lp j) := by
    intro m
    induction m with
    | zero =>
      intro i h hi hn hk hm
      have := h.bl
      have := (h.next hi).1
      simp only [chainN, lastOf, List.getLastD_nil, List.all_nil, true_and]
      exact ⟨fun _ j h1 h2 => by omega, fun _ => by cases n with | zero => rfl | succ n => simp only [bOk]; rw [if_neg (by omega)]⟩
    | succ m ihm =>
      intro i h hi hn hk hm
      obtain ⟨hle, hnx⟩ := h.next hi
      have hbl := h.bl
      have g := bEnd_gt p i
      have hai := h.ai
      simp only [chainN]
      by_cases hc : bEnd p i < p.length ∧ dp p (bEnd p i) = d ∧ isF (kd p (bEnd p i)) = true
      · rw [if_pos hc]
        have hlt : bEnd p i < b := by
          rcases Nat.lt_or_ge (bEnd p i) b with h3 | h3
          · exact h3
          · have e : bEnd p i = b := by omega
            have a2 := h.out (by omega)
            rw [e] at hc
            omega
        have g2 := bEnd_gt p (bEnd p i)
        have hf := isF_iff.mp hc.2.2
        have e : lastOf (bEnd p i :: chainN p d m (bEnd p (bEnd p i))) i = lastOf (chainN p d m (bEnd p (bEnd p i))) (bEnd p i) := by
          simp only [lastOf, List.getLastD_cons]
        have hin := hnx.inner hr hlt
        have hgk : Good p a lp (bEnd p i) := ⟨fun h => by omega, fun h => by omega, fun _ => ⟨i, hai, g, rfl, by rw [h.at_ hi, hc.2.1], hk⟩⟩
        rw [e, all_split g2 (hnx.next hlt).1, ← ihm (bEnd p i) hnx hlt (by omega) (.inr hc.2.2) (by omega), List.all_cons]
        simp only [Bool.and_eq_true]
        have hi2 := ih (d + 1) (bEnd p i + 1) (bEnd p i + 1) (bEnd p (bEnd p i)) lp hin (by have := (hnx.next hlt).1; omega) (noin _ _)
        have e12 : (lp || decide (kd p (bEnd p i) = 12)) = lp := by simp; intro h; omega
        rw [hi2]
        constructor
        · rintro ⟨⟨h1, h2⟩, h3⟩
          exact ⟨hgk, fun j h4 h5 => by rw [← good_inner lp hnx hlt j (by omega) h5, e12]; exact h1 j h4 h5, h2, h3⟩
        · rintro ⟨_, h1, h2, h3⟩
          exact ⟨⟨fun j h4 h5 => by rw [← e12, good_inner lp hnx hlt j (by omega) h5]; exact h1 j h4 h5, h2⟩, h3⟩
      · rw [if_neg hc]
        simp only [lastOf, List.getLastD_nil, List.all_nil, true_and]
        exact ih d a (bEnd p i) b lp hnx (by omega) (fun hb hf => absurd ⟨by omega, hnx.at_ hb, hf⟩ hc)
  have inner : ∀ (lp' : Bool), lp' = (lp || decide (kd p i = 12)) → ((bOk p n (i + 1) (bEnd p i) lp' = true) ↔ ∀ j, i + 1 ≤ j → j < bEnd p i → Good p a lp j) := by
    intro lp' he
    rw [ih (d + 1) (i + 1) (i + 1) (bEnd p i) lp' hin (by omega) (noin i _)]
    constructor
    · intro h1 j h2 h3; rw [← good_inner lp h hi j (by omega) h3, ← he]; exact h1 j h2 h3
    · intro h1 j h2 h3; rw [he, good_inner lp h hi j (by omega) h3]; exact h1 j h2 h3
  have next : ¬ (kd p i = 7 ∨ isF (kd p i) = true) → ((bOk p n (bEnd p i) b lp = true) ↔ ∀ j, bEnd p i ≤ j → j < b → Good p a lp j) := fun hk => ih d a (bEnd p i) b lp hnx (by omega) (nonx hk)
  have flat : isO (kd p i) = false → ∀ j, i + 1 ≤ j → j < bEnd p i → Good p a lp j := by
    intro ho j h2 h3
    have h4 := bEnd_in (p := p) (i := i) (j := i + 1) (by omega) (by omega)
    have h5 := hr.none i (by omega) ho
    omega
  simp only [bOk]
  rw [if_pos hi, all_split g hle]
  by_cases hk1 : kd p i = 5 ∨ kd p i = 6
  · have nF : ¬ isF (kd p i) = true := by rw [isF_iff]; omega
    rw [if_pos hk1]
    simp only [Bool.and_eq_true]
    rw [next (by rw [isF_iff]; omega)]
    have ho : isO (kd p i) = false := isO_not.mpr (by omega)
    constructor
    · rintro ⟨h1, h2⟩
      exact ⟨⟨fun h => by omega, fun _ => .inl h1, fun h => absurd h nF⟩, flat ho, h2⟩
    · rintro ⟨h1, _, h3⟩
      refine ⟨?_, h3⟩
      rcases h1.2.1 hk1 with h4 | ⟨m, e1, e2, e3, e4⟩
      · exact h4
      · have x1 := bEnd_in (p := p) e2 e4
        have x2 := h.low m e1 (by omega)
        omega
  rw [if_neg hk1]
  by_cases hk2 : isF (kd p i) = true
  · rw [if_pos hk2]
    constructor
    · intro h; cases h
    · rintro ⟨h1, _⟩
      exact absurd hk2 (hno.not hi h1)
  rw [if_neg hk2]
  by_cases hk3 : kd p i = 7
  · rw [if_pos hk3]
    have hvc : okB ((chainT p i).map (kd p)) = vcB ((chainT p i).map (kd p)) := okB_vcB _ (by
      intro k hk
      obtain ⟨j, hj, rfl⟩ := List.mem_map.mp hk
      exact (chainN_mem hj).2.2.2)
    have hch := chains p.length i h hi (by omega) (.inl hk3) (by omega)
    simp only [chain, List.all_cons, Bool.and_eq_true, chainT, hd] at hch hvc ⊢
    rw [hvc, inner lp (by simp; intro h; omega), ← hch]
    constructor
    · rintro ⟨⟨h1, h2, h3⟩, h4⟩
      exact ⟨⟨fun _ => by simpa only [chainT, hd] using h1, fun h => absurd h hk1, fun h => absurd h hk2⟩, h2, h3, h4⟩
    · rintro ⟨h1, h2, h3, h4⟩
      exact ⟨⟨by simpa only [chainT, hd] using h1.1 hk3, h2, h3⟩, h4⟩
  rw [if_neg hk3]
  have hn7 : ¬ (kd p i = 7 ∨ isF (kd p i) = true) := by rintro (h | h); exact hk3 h; exact hk2 h
  have gi : Good p a lp i := ⟨fun h => absurd h hk3, fun h => absurd h hk1, fun h => absurd h hk2⟩
  by_cases hk4 : kd p i = 11 ∨ kd p i = 12
  · rw [if_pos hk4]
    simp only [Bool.and_eq_true]
    rw [next hn7, inner _ rfl]
    exact ⟨fun h => ⟨gi, h.1, h.2⟩, fun h => ⟨h.2.1, h.2.2⟩⟩
  · rw [if_neg hk4, next hn7]
    have ho : isO (kd p i) = false := isO_not.mpr (by rw [isF_iff] at hk2; omega)
    exact ⟨fun h => ⟨gi, flat ho, h⟩, fun h => h.2.2⟩
end Go.Proofs.Ytbclgpgolbmlpaa.Pure
end

section
namespace Go.Proofs.Ytbclgpgolbmlpaa.Pure
open Go Go.RowKit Go.Proofs.Ytbclgpgolbmlpaa.P Go.Proofs.YtbclgpgolbmlpaaW.PrintWords
set_option linter.unusedVariables false
theorem Ev.pos {α : Type} {c : Prop} [Decidable c] {f g : Nat → Option α} {r : α} (h : c) (e : Ev f r) : Ev (fun k => if c then f k else g k) r := by simpa only [if_pos h] using e
theorem Ev.neg {α : Type} {c : Prop} [Decidable c] {f g : Nat → Option α} {r : α} (h : ¬ c) (e : Ev g r) : Ev (fun k => if c then f k else g k) r := by simpa only [if_neg h] using e
theorem Ev.both {α : Type} {c : Prop} [Decidable c] {f g : Nat → Option α} {r : α} (h1 : c → Ev f r) (h2 : ¬ c → Ev g r) : Ev (fun k => if c then f k else g k) r := by
  by_cases h : c
  · exact Ev.pos h (h1 h)
  · exact Ev.neg h (h2 h)
theorem wr {x : Int} (h : -9223372036854775808 ≤ x ∧ x ≤ 9223372036854775807) : wrap64 x = x := by unfold wrap64; omega
theorem wS {i : Nat} (h : i ≤ 4611686018427387904) : wrap64 ((i : Int) + 1) = ((i + 1 : Nat) : Int) := by rw [wr (by omega)]; omega
def ci (l : List Nat) : List Int := l.map fun n : Nat => (n : Int)
theorem ci_len (l : List Nat) : (ci l).length = l.length := by simp [ci]
theorem ci_snoc (l : List Nat) (k : Nat) : ci l ++ [(k : Int)] = ci (l ++ [k]) := by simp [ci]
theorem ci_cons (k : Nat) (l : List Nat) : ci (k :: l) = (k : Int) :: ci l := rfl
theorem ci_drop {l r : List Nat} {j a : Nat} (h : l.drop j = a :: r) : j < l.length ∧ rd (ci l) (j : Int) = (a : Int) ∧ l.drop (j + 1) = r := by
  have hj : j < l.length := by
    rcases Nat.lt_or_ge j l.length with h1 | h1
    · exact h1
    · rw [List.drop_eq_nil_of_le h1] at h; cases h
  rw [List.drop_eq_getElem_cons hj] at h
  injection h with h1 h2
  refine ⟨hj, ?_, h2⟩
  simp [rd, ci, List.getD_eq_getElem?_getD, hj, h1]
theorem ci_end {l : List Nat} {j : Nat} (h : l.drop j = []) : l.length ≤ j := by simpa using h
theorem r0 (p : List Ln) (i : Nat) : (rd_T50 p (i : Int)).f0 = dp p i := rfl
theorem r1 (p : List Ln) (i : Nat) : (rd_T50 p (i : Int)).f1 = kd p i := rfl
theorem r2 (p : List Ln) (i : Nat) : (rd_T50 p (i : Int)).f2 = la p i := rfl
theorem r3 (p : List Ln) (i : Nat) : (rd_T50 p (i : Int)).f3 = lb p i := rfl
theorem ev_blockEnd_l0 {p : List Ln} (hp : p.length ≤ 1048576) {a : Nat} (ha : a < p.length) : ∀ (n i : Nat), p.length ≤ n + i → Ev (fun k => spec_blockEnd.l0 k p a i) ((endN p (dp p a) n i : Nat) : Int)
  | 0, i, h => by
    refine Ev.step (fun k => by rw [spec_blockEnd.l0]) ?_
    exact Ev.neg (by omega) (Ev.now _)
  | n + 1, i, h => by
    refine Ev.step (fun k => by rw [spec_blockEnd.l0]) ?_
    simp only [endN, r0]
    by_cases h1 : i < p.length
    · refine Ev.pos (by omega) (Ev.pos (by omega) (Ev.pos (by omega) (Ev.pos (by omega) ?_)))
      rw [if_pos h1]
      by_cases h2 : dp p i > dp p a
      · rw [if_pos h2, wS (by omega)]
        exact Ev.pos h2 (ev_blockEnd_l0 hp ha n (i + 1) (by omega))
      · rw [if_neg h2]
        exact Ev.neg h2 (Ev.now _)
    · rw [if_neg h1]
      exact Ev.neg (by omega) (Ev.now _)
theorem ev_blockEnd {p : List Ln} (hp : p.length ≤ 1048576) {a : Nat} (ha : a < p.length) : Ev (fun k => spec_blockEnd.f k p a) ((bEnd p a : Nat) : Int) := by
  unfold spec_blockEnd.f
  rw [wS (by omega)]
  exact ev_blockEnd_l0 hp ha p.length (a + 1) (by omega)
theorem ev_endOf_l0 {p : List Ln} (hp : p.length ≤ 1048576) {a : Nat} (ha : a < p.length) : ∀ (n i : Nat), p.length ≤ n + i → Ev (fun k => impl_endOf.l0 k p a i) ((endN p (dp p a) n i : Nat) : Int)
  | 0, i, h => by
    refine Ev.step (fun k => by rw [impl_endOf.l0]) ?_
    exact Ev.neg (by omega) (Ev.now _)
  | n + 1, i, h => by
    refine Ev.step (fun k => by rw [impl_endOf.l0]) ?_
    simp only [endN, r0]
    by_cases h1 : i < p.length
    · refine Ev.pos (by omega) (Ev.pos (by omega) (Ev.pos (by omega) (Ev.pos (by omega) ?_)))
      rw [if_pos h1]
      by_cases h2 : dp p i > dp p a
      · rw [if_pos h2, wS (by omega)]
        exact Ev.pos h2 (ev_endOf_l0 hp ha n (i + 1) (by omega))
      · rw [if_neg h2]
        exact Ev.neg h2 (Ev.now _)
    · rw [if_neg h1]
      exact Ev.neg (by omega) (Ev.now _)
theorem ev_endOf {p : List Ln} (hp : p.length ≤ 1048576) {a : Nat} (ha : a < p.length) : Ev (fun k => impl_endOf.f k p a) ((bEnd p a : Nat) : Int) := by
  unfold impl_endOf.f
  rw [wS (by omega)]
  exact ev_endOf_l0 hp ha p.length (a + 1) (by omega)
theorem inR (a b c : Int) : spec_inRange.f a b c = some (decide (b ≤ a) && decide (a ≤ c)) := by
  unfold spec_inRange.f
  by_cases h : b ≤ a <;> simp [h]
theorem inW (a b c : Int) : impl_within.f a b c = some (decide (b ≤ a) && decide (a ≤ c)) := by
  unfold impl_within.f
  by_cases h : b ≤ a
  · rw [if_pos h]; simp [h]
  · rw [if_neg h]; simp [h]
theorem fol (a : Int) : spec_follows.f a = some (isF a) := by unfold spec_follows.f; rw [inR]; rfl
theorem opi (a b c d : Int) : impl_Line_opens.f a b c d = some (isO b) := by unfold impl_Line_opens.f; rw [inW]; rfl
theorem ev_sameNext {p : List Ln} (hp : p.length ≤ 1048576) {a : Nat} (ha : a < p.length) : Ev (fun k => spec_sameNext.f k p a) ((if bEnd p a < p.length ∧ dp p (bEnd p a) = dp p a then bEnd p a else p.length : Nat) : Int) := by
  unfold spec_sameNext.f
  refine Ev.bind (ev_blockEnd hp ha) ?_
  have g := bEnd_gt p a
  simp only [r0]
  by_cases h1 : bEnd p a < p.length
  · refine Ev.pos (by omega) (Ev.pos (by omega) (Ev.pos (by omega) (Ev.pos (by omega) ?_)))
    by_cases h2 : dp p (bEnd p a) = dp p a
    · rw [if_pos ⟨h1, h2⟩]; exact Ev.pos h2 (Ev.now _)
    · rw [if_neg (show ¬ (bEnd p a < p.length ∧ _) from fun h => h2 h.2)]; exact Ev.neg h2 (Ev.now _)
  · rw [if_neg (show ¬ (bEnd p a < p.length ∧ dp p (bEnd p a) = dp p a) from fun h => h1 h.1)]; exact Ev.neg (by omega) (Ev.now _)
theorem chainN_end (p : List Ln) (d : Int) (n : Nat) : chainN p d n p.length = [] := by
  cases n with
  | zero => rfl
  | succ n => simp [chainN]
theorem ev_chainOf_l0 {p : List Ln} (hp : p.length ≤ 1048576) {d : Int} : ∀ (n i : Nat) (l : List Nat), p.length ≤ n + i → l.length + p.length ≤ 1048576 * 2 + i → (i < p.length → dp p i = d) →
    Ev (fun k => spec_chainOf.l0 k p (ci l) i) (ci (l ++ chainN p d n i))
  | 0, i, l, h, _, _ => by
    simp only [chainN, List.append_nil]
    refine Ev.step (fun k => by rw [spec_chainOf.l0]) ?_
    exact (Ev.neg (by omega) (Ev.now _))
  | n + 1, i, l, h, hl, hd => by
    refine Ev.step (fun k => by rw [spec_chainOf.l0]) ?_
    simp only [chainN, r1, fol, Option.bind_some, ci_snoc, ci_len]
    by_cases h1 : i < p.length
    · have hd := hd h1
      refine Ev.pos (by omega) (Ev.pos (by omega) ?_)
      by_cases h2 : isF (kd p i) = true
      · rw [if_pos ⟨h1, hd, h2⟩]
        refine Ev.pos h2 (Ev.pos (by omega) (Ev.bind (ev_sameNext hp h1) ?_))
        have g := bEnd_gt p i
        by_cases h3 : bEnd p i < p.length ∧ dp p (bEnd p i) = dp p i
        · rw [if_pos h3]
          have := ev_chainOf_l0 hp n (bEnd p i) (l ++ [i]) (by omega) (by rw [List.length_append, List.length_singleton]; omega) (fun _ => by rw [h3.2, hd])
          rw [List.append_assoc] at this
          exact this
        · rw [if_neg h3]
          have := ev_chainOf_l0 (d := d) hp n p.length (l ++ [i]) (by omega) (by rw [List.length_append, List.length_singleton]; omega) (fun h => by omega)
          rw [List.append_assoc] at this
          have e := chainN_end p d n
          have e2 : chainN p d n (bEnd p i) = [] := by cases n with | zero => rfl | succ n => simp only [chainN]; rw [if_neg (fun h => h3 ⟨h.1, by rw [h.2.1, hd]⟩)]
          rw [e] at this
          rw [e2]
          exact this
      · rw [if_neg (fun h => h2 h.2.2), List.append_nil]
        exact Ev.neg h2 (Ev.now _)
    · rw [if_neg (fun h => h1 h.1), List.append_nil]
      exact Ev.neg (by omega) (Ev.now _)
theorem ev_chainOf {p : List Ln} (hp : p.length ≤ 1048576) {a : Nat} (ha : a < p.length) : Ev (fun k => spec_chainOf.f k p a) (ci (chain p a)) := by
  unfold spec_chainOf.f
  rw [show ([(a : Int)] : List Int) = ci [a] from rfl]
  refine Ev.bind (ev_sameNext hp ha) ?_
  have g := bEnd_gt p a
  by_cases h3 : bEnd p a < p.length ∧ dp p (bEnd p a) = dp p a
  · rw [if_pos h3]
    exact ev_chainOf_l0 (d := dp p a) hp p.length (bEnd p a) [a] (by omega) (by rw [List.length_singleton]; omega) (fun _ => h3.2)
  · rw [if_neg h3]
    have := ev_chainOf_l0 (d := dp p a) hp p.length p.length [a] (by omega) (by rw [List.length_singleton]; omega) (fun h => by omega)
    have e := chainN_end p (dp p a) p.length
    have e2 : chainT p a = [] := by
      unfold chainT
      cases hq : p.length with
      | zero => rfl
      | succ n => simp only [chainN]; rw [if_neg (fun h => h3 ⟨h.1, h.2.1⟩)]
    rw [e] at this
    rw [chain, e2]
    exact this
theorem ev_tryFrom_l0 {p : List Ln} (hp : p.length ≤ 1048576) {a : Nat} (ha : a < p.length) : ∀ (n i : Nat) (l : List Nat), p.length ≤ n + i → l.length + p.length ≤ 1048576 * 2 + i →
    Ev (fun k => impl_tryFrom.l0 k p a (ci l) i) (ci (l ++ chainN p (dp p a) n i))
  | 0, i, l, h, _ => by
    simp only [chainN, List.append_nil]
    refine Ev.step (fun k => by rw [impl_tryFrom.l0]) ?_
    refine Ev.neg (by omega) ?_
    refine Ev.step (fun k => by rw [impl_tryFrom.j1]) ?_
    exact (Ev.neg (by simp) (Ev.now _))
  | n + 1, i, l, h, hl => by
    refine Ev.step (fun k => by rw [impl_tryFrom.l0]) ?_
    have stop : Ev (fun k => impl_tryFrom.j1 k p a (ci l) i false) (ci l) := by
      refine Ev.step (fun k => by rw [impl_tryFrom.j1]) ?_
      exact Ev.neg (by simp) (Ev.now _)
    simp only [chainN, r1, r0, inW, Option.bind_some]
    by_cases h1 : i < p.length
    · refine Ev.pos (by omega) (Ev.pos (by omega) (Ev.pos (by omega) (Ev.pos (by omega) ?_)))
      by_cases h2 : dp p i = dp p a
      · refine Ev.pos h2 ?_
        by_cases h3 : isF (kd p i) = true
        · rw [if_pos ⟨h1, h2, h3⟩, show (decide (8 ≤ kd p i) && decide (kd p i ≤ 10)) = true from h3]
          refine Ev.step (fun k => by rw [impl_tryFrom.j1]) (Ev.pos rfl ?_)
          simp only [ci_snoc, ci_len]
          refine Ev.pos (by omega) (Ev.bind (ev_endOf hp h1) ?_)
          have g := bEnd_gt p i
          have := ev_tryFrom_l0 hp ha n (bEnd p i) (l ++ [i]) (by omega) (by rw [List.length_append, List.length_singleton]; omega)
          rw [List.append_assoc] at this
          exact this
        · rw [if_neg (fun h => h3 h.2.2), List.append_nil, show (decide (8 ≤ kd p i) && decide (kd p i ≤ 10)) = false from by simpa [isF] using h3]
          exact stop
      · rw [if_neg (fun h => h2 h.2.1), List.append_nil]
        exact Ev.neg h2 stop
    · rw [if_neg (fun h => h1 h.1), List.append_nil]
      exact Ev.neg (by omega) stop
theorem ev_tryFrom {p : List Ln} (hp : p.length ≤ 1048576) {a : Nat} (ha : a < p.length) : Ev (fun k => impl_tryFrom.f k p a) (ci (chain p a)) := by
  unfold impl_tryFrom.f
  rw [show ([(a : Int)] : List Int) = ci [a] from rfl]
  refine Ev.bind (ev_endOf hp ha) ?_
  have g := bEnd_gt p a
  exact ev_tryFrom_l0 hp ha p.length (bEnd p a) [a] (by omega) (by rw [List.length_singleton]; omega)
theorem ev_validChain_l0 {p : List Ln} (hp : p.length ≤ 1048576) (l : List Nat) (hl : ∀ j ∈ l, j < p.length) (hl2 : l.length ≤ 1048577) : ∀ (r : List Nat) (j : Nat) (ex : Nat) (q : Option Int), l.drop j = r → 1 ≤ j → ex ≤ j → (q = if j > 1 then some (kd p (l.getD (j - 1) 0)) else none) →
    Ev (fun k => spec_validChain.l0 k p (ci l) (ex : Int) (j : Int)) (finB (l.length - 1) (vcGo (r.map (kd p)) ex q))
  | [], j, ex, q, hr, hj, he, hq => by
    have h1 := ci_end hr
    refine Ev.step (fun k => by rw [spec_validChain.l0]) ?_
    simp only [List.map_nil, vcGo, ci_len]
    refine Ev.neg (by omega) ?_
    by_cases h2 : 1 < l.length
    · refine Ev.pos (by omega) ?_
      have e : finB (l.length - 1) (some (ex : Int)) = decide ((ex : Int) ≤ 6) := by simp [finB]; omega
      rw [e]
      exact Ev.now _
    · refine Ev.neg (by omega) ?_
      have e : finB (l.length - 1) (some (ex : Int)) = false := by simp [finB]; omega
      rw [e]
      exact Ev.now _
  | a :: r, j, ex, q, hr, hj, he, hq => by
    obtain ⟨h1, h2, h3⟩ := ci_drop hr
    have ha : a < p.length := hl a (List.mem_of_mem_drop (by rw [hr]; simp))
    have go : ∀ ex' : Nat, ex' ≤ j + 1 → ex' = (if kd p a = 8 then ex + 1 else ex) → Ev (fun k => spec_validChain.j1 k p (ci l) (ex' : Int) (j : Int) (kd p a)) (finB (l.length - 1) (vcGo ((a :: r).map (kd p)) ex q)) := by
      intro ex' hex heq
      have hcast : (if kd p a = 8 then (ex : Int) + 1 else (ex : Int)) = (ex' : Int) := by
        by_cases h8 : kd p a = 8
        · rw [if_pos h8]; rw [if_pos h8] at heq; omega
        · rw [if_neg h8]; rw [if_neg h8] at heq; omega
      have j2 : ∀ b : Bool, b = badK (kd p a) (ex' : Int) q →
          Ev (fun k => spec_validChain.j2 k p (ci l) (ex' : Int) (j : Int) b) (finB (l.length - 1) (vcGo ((a :: r).map (kd p)) ex q)) := by
        intro b hb
        refine Ev.step (fun k => by rw [spec_validChain.j2]) ?_
        simp only [List.map_cons, vcGo, hcast, ← hb]
        cases b with
        | true => exact Ev.pos rfl (by simpa only [if_true, finB] using Ev.now false)
        | false =>
          refine Ev.neg (by simp) ?_
          simp only [Bool.false_eq_true, if_false]
          rw [wS (by omega)]
          exact ev_validChain_l0 hp l hl hl2 r (j + 1) ex' _ h3 (by omega) hex (by rw [if_pos (by omega)]; simp only [Nat.add_sub_cancel]; rw [show l.getD j 0 = a from by have := h2; simp only [rd, ci, Int.toNat_natCast, List.getD_eq_getElem?_getD, List.getElem?_map] at this; rw [List.getD_eq_getElem?_getD]; cases hh : l[j]? with | none => rw [List.getElem?_eq_none_iff] at hh; omega | some v => rw [hh] at this; simp only [Option.map_some, Option.getD_some] at this ⊢; omega])
      refine Ev.step (fun k => by rw [spec_validChain.j1]) ?_
      have e0 : ((ex' : Int) == 0) = decide (ex' = 0) := by rw [Bool.eq_iff_iff]; simp
      rw [e0]
      by_cases hj1 : j > 1
      · rw [if_pos hj1] at hq
        subst hq
        have hjm : l.getD (j - 1) 0 < p.length := hl _ (by rw [List.getD_eq_getElem?_getD, List.getElem?_eq_getElem (by omega)]; exact List.getElem_mem _)
        have hrd : rd (ci l) ((j - 1 : Nat) : Int) = ((l.getD (j - 1) 0 : Nat) : Int) := by
          simp only [rd, ci, Int.toNat_natCast, List.getD_eq_getElem?_getD, List.getElem?_map]
          rw [List.getElem?_eq_getElem (by omega)]; rfl
        have hw : wrap64 ((j : Int) - 1) = ((j - 1 : Nat) : Int) := by rw [wr (by omega)]; omega
        rw [hw, hrd]
        generalize l.getD (j - 1) 0 = u at *
        simp only [r1, ci_len]
        refine Ev.pos (by omega) (Ev.pos (by omega) (Ev.pos (by omega) (Ev.pos (by omega) (Ev.pos (by omega) ?_))))
        refine Ev.both (fun c1 => j2 _ (by rw [Bool.eq_iff_iff]; simp [badK] <;> omega)) (fun c1 => ?_)
        refine Ev.both (fun c2 => ?_) (fun c2 => ?_)
        · refine Ev.both (fun c3 => ?_) (fun c3 => j2 _ (by rw [Bool.eq_iff_iff]; simp [badK] <;> omega))
          refine Ev.both (fun c4 => by omega) (fun c4 => j2 _ (by rw [Bool.eq_iff_iff]; simp [badK] <;> omega))
        · refine Ev.both (fun c4 => j2 _ (by rw [Bool.eq_iff_iff]; simp [badK] <;> omega)) (fun c4 => j2 _ (by rw [Bool.eq_iff_iff]; simp [badK] <;> omega))
      · rw [if_neg hj1] at hq
        subst hq
        refine Ev.neg (by omega) ?_
        refine Ev.both (fun c4 => j2 _ (by rw [Bool.eq_iff_iff]; simp [badK] <;> omega)) (fun c4 => j2 _ (by rw [Bool.eq_iff_iff]; simp [badK] <;> omega))
    refine Ev.step (fun k => by rw [spec_validChain.l0]) ?_
    rw [h2]
    simp only [ci_len, r1]
    refine Ev.pos (by omega) (Ev.pos (by omega) (Ev.pos (by omega) (Ev.pos (by omega) ?_)))
    rw [show wrap64 ((ex : Int) + 1) = ((ex + 1 : Nat) : Int) from wS (by omega)]
    refine Ev.both (fun c => go (ex + 1) (by omega) (by rw [if_pos c])) (fun c => go ex (by omega) (by rw [if_neg c]))
theorem chain_len (p : List Ln) (d : Int) : ∀ (n k : Nat), (chainN p d n k).length ≤ n
  | 0, k => Nat.le_refl _
  | n + 1, k => by
    simp only [chainN]
    split
    · have := chain_len p d n (bEnd p k); simp only [List.length_cons]; omega
    · simp
theorem chain_lt {p : List Ln} {a : Nat} (ha : a < p.length) : ∀ j ∈ chain p a, j < p.length := by
  intro j hj
  rcases List.mem_cons.mp hj with rfl | hj
  · exact ha
  · exact (chainN_mem hj).2.1
theorem ev_validChain {p : List Ln} (hp : p.length ≤ 1048576) {a : Nat} (ha : a < p.length) : Ev (fun k => spec_validChain.f k p a) (vcB ((chainT p a).map (kd p))) := by
  unfold spec_validChain.f
  refine Ev.bind (ev_chainOf hp ha) ?_
  have hl := chain_len p (dp p a) p.length (bEnd p a)
  have h := ev_validChain_l0 hp (chain p a) (chain_lt ha) (by simp only [chain, chainT, List.length_cons]; omega) (chainT p a) 1 0 none rfl (by omega) (by omega) (by simp)
  have e : (chain p a).length - 1 = ((chainT p a).map (kd p)).length := by simp [chain]
  rw [e] at h
  exact h
end Go.Proofs.Ytbclgpgolbmlpaa.Pure
end

section
namespace Go.Proofs.Ytbclgpgolbmlpaa.Pure
open Go Go.RowKit Go.Proofs.Ytbclgpgolbmlpaa.P Go.Proofs.YtbclgpgolbmlpaaW.PrintWords
set_option linter.unusedVariables false
def SB (p : List Ln) (b i : Nat) : List Nat := sibs p b b i
theorem SB_cons {p : List Ln} {b i : Nat} (h : i < b) : SB p b i = i :: SB p b (bEnd p i) := by
  unfold SB
  obtain ⟨m, rfl⟩ : ∃ m, b = m + 1 := ⟨b - 1, by omega⟩
  have g := bEnd_gt p i
  rw [sibs_more p (m + 1) m (m + 1) (bEnd p i) (by omega) (by omega)]
  rw [sibs, if_pos h]
theorem SB_nil {p : List Ln} {b i : Nat} (h : b ≤ i) : SB p b i = [] := by
  unfold SB
  cases b with
  | zero => rfl
  | succ m => rw [sibs, if_neg (by omega)]
theorem SB_len (p : List Ln) (b : Nat) : ∀ (n i : Nat), b ≤ n + i → (SB p b i).length ≤ n
  | 0, i, h => by rw [SB_nil (by omega)]; simp
  | n + 1, i, h => by
    by_cases h1 : i < b
    · have g := bEnd_gt p i
      rw [SB_cons h1, List.length_cons]
      have := SB_len p b n (bEnd p i) (by omega)
      omega
    · rw [SB_nil (by omega)]; simp
theorem SB_chain {p : List Ln} {d : Int} {a b : Nat} : ∀ (n i : Nat), Blk p d a i b → i < b → p.length ≤ n + bEnd p i →
    (SB p b i).drop ((chainN p d n (bEnd p i)).length + 1) = SB p b (bEnd p (lastOf (chainN p d n (bEnd p i)) i))
  | 0, i, h, hi, hn => by
    simp only [chainN, lastOf, List.getLastD_nil, List.length_nil]
    rw [SB_cons hi]; rfl
  | n + 1, i, h, hi, hn => by
    obtain ⟨h1, h2⟩ := h.next hi
    have hbl := h.bl
    have g := bEnd_gt p i
    simp only [chainN]
    by_cases hc : bEnd p i < p.length ∧ dp p (bEnd p i) = d ∧ isF (kd p (bEnd p i)) = true
    · rw [if_pos hc]
      have hlt : bEnd p i < b := by
        rcases Nat.lt_or_ge (bEnd p i) b with h3 | h3
        · exact h3
        · have e : bEnd p i = b := by omega
          have a2 := h.out (by omega)
          rw [e] at hc
          omega
      have g2 := bEnd_gt p (bEnd p i)
      have e : lastOf (bEnd p i :: chainN p d n (bEnd p (bEnd p i))) i = lastOf (chainN p d n (bEnd p (bEnd p i))) (bEnd p i) := by
        simp only [lastOf, List.getLastD_cons]
      rw [e, SB_cons hi, List.length_cons, List.drop_succ_cons]
      exact SB_chain n (bEnd p i) h2 hlt (by omega)
    · rw [if_neg hc, SB_cons hi]
      simp only [lastOf, List.getLastD_nil]
      rfl
theorem ev_siblings_l0 {p : List Ln} (hp : p.length ≤ 1048576) {b : Nat} (hb : b ≤ p.length) : ∀ (n i : Nat) (l : List Nat), b ≤ n + i → l.length ≤ i →
    Ev (fun k => impl_siblings.l0 k p b (ci l) i) (ci (l ++ SB p b i))
  | 0, i, l, h, _ => by
    rw [SB_nil (by omega), List.append_nil]
    refine Ev.step (fun k => by rw [impl_siblings.l0]) ?_
    exact Ev.neg (by omega) (Ev.now _)
  | n + 1, i, l, h, hl => by
    by_cases h1 : i < b
    · refine Ev.step (fun k => by rw [impl_siblings.l0]) ?_
      simp only [ci_len, ci_snoc]
      have g := bEnd_gt p i
      rw [SB_cons h1]
      refine Ev.pos (by omega) (Ev.pos (by omega) (Ev.bind (ev_endOf hp (by omega)) ?_))
      have := ev_siblings_l0 hp hb n (bEnd p i) (l ++ [i]) (by omega) (by rw [List.length_append, List.length_singleton]; omega)
      rw [List.append_assoc] at this
      exact this
    · rw [SB_nil (by omega), List.append_nil]
      refine Ev.step (fun k => by rw [impl_siblings.l0]) ?_
      exact Ev.neg (by omega) (Ev.now _)
theorem ev_siblings {p : List Ln} (hp : p.length ≤ 1048576) {a b : Nat} (hb : b ≤ p.length) : Ev (fun k => impl_siblings.f k p a b) (ci (SB p b a)) :=
  ev_siblings_l0 hp hb b a [] (by omega) (by simp)
theorem tryOk_go {p : List Ln} : ∀ (l : List Nat) (ex last : Int), (∀ j ∈ l, j < p.length) → impl_tryOk.go p (ci l) ex last = some (okGo (l.map (kd p)) ex last)
  | [], _, _, _ => rfl
  | a :: l, ex, last, h => by
    have ha : a < p.length := h a (by simp)
    have hl : ∀ j ∈ l, j < p.length := fun j hj => h j (by simp [hj])
    simp only [ci_cons, impl_tryOk.go, r1, List.map_cons, okGo]
    rw [if_pos (by omega), if_pos (by omega)]
    by_cases h8 : kd p a = 8
    · simp only [h8, ↓reduceIte]
      by_cases c : last ≤ 8
      · simp only [c, ↓reduceIte]; exact tryOk_go l _ _ hl
      · simp only [c, ↓reduceIte]
    simp only [h8, ↓reduceIte]
    by_cases h9 : kd p a = 9
    · simp only [h9, ↓reduceIte]
      by_cases c : last = 8
      · simp only [c, ↓reduceIte]; exact tryOk_go l _ _ hl
      · simp only [c, ↓reduceIte]
    simp only [h9, ↓reduceIte]
    by_cases h10 : kd p a = 10
    · simp only [h10, ↓reduceIte]
      by_cases c : last < 10
      · simp only [c, ↓reduceIte]; exact tryOk_go l _ _ hl
      · simp only [c, ↓reduceIte]
    simp only [h10, ↓reduceIte]
theorem tryOk_eq {p : List Ln} (a : Nat) (l : List Nat) (h : ∀ j ∈ l, j < p.length) : impl_tryOk.f p (ci (a :: l)) = some (okB (l.map (kd p))) := by
  unfold impl_tryOk.f
  rw [if_pos (by simp [ci]), show (ci (a :: l)).drop 1 = ci l from rfl, tryOk_go l 0 7 h, Option.bind_some]
  unfold okB finB
  cases okGo (l.map (kd p)) 0 7 with
  | none => rfl
  | some ex =>
    simp only [List.length_map]
    congr 2
    simp only [ci_len, List.length_cons]
    rw [decide_eq_decide]; omega
theorem ev_blockOk_l0 {p : List Ln} (hp : p.length ≤ 1048576) (hr : DR p) : ∀ (n : Nat) (d : Int) (a i b : Nat) (lp : Bool) (S : List Nat) (j : Nat), Blk p d a i b → b ≤ n + i → S.drop j = SB p b i → S.length ≤ 1048576 →
    Ev (fun k => impl_blockOk.l0 k p lp (ci S) j) (bOk p n i b lp) := by
  intro n
  induction n with
  | zero =>
    intro d a i b lp S j h hn hS hS2
    rw [SB_nil (by omega)] at hS
    have := ci_end hS
    refine Ev.step (fun k => by rw [impl_blockOk.l0]) ?_
    rw [ci_len]
    exact Ev.neg (by omega) (Ev.now _)
  | succ n ih =>
  intro d a i b lp S j h hn hS hS2
  by_cases hi : i < b
  case neg =>
    rw [SB_nil (by omega)] at hS
    have := ci_end hS
    refine Ev.step (fun k => by rw [impl_blockOk.l0]) ?_
    rw [ci_len, bOk, if_neg hi]
    exact Ev.neg (by omega) (Ev.now _)
  have g := bEnd_gt p i
  obtain ⟨hle, hnx⟩ := h.next hi
  have hin := h.inner hr hi
  have hd := h.at_ hi
  have hai := h.ai
  have hbl := h.bl
  have hS0 := hS
  rw [SB_cons hi] at hS
  obtain ⟨hj, hrd, hS'⟩ := ci_drop hS
  have inner : ∀ (e : Nat) (lp' : Bool), Blk p d a e b → e < b → i ≤ e → Ev (fun k => impl_blockOk.f k p ((e + 1 : Nat) : Int) ((bEnd p e : Nat) : Int) lp') (bOk p n (e + 1) (bEnd p e) lp') := by
    intro e lp' he heb hie
    obtain ⟨hle2, hnx2⟩ := he.next heb
    have g2 := bEnd_gt p e
    refine Ev.step (fun k => by rw [impl_blockOk.f]) ?_
    refine Ev.bind (ev_siblings hp (by omega)) ?_
    exact ih (d + 1) (e + 1) (e + 1) (bEnd p e) lp' _ 0 (he.inner hr heb) (by omega) rfl (by have := SB_len p (bEnd p e) (bEnd p e) (e + 1) (by omega); omega)
  have next : Ev (fun k => impl_blockOk.l0 k p lp (ci S) (wrap64 ((j : Int) + 1))) (bOk p n (bEnd p i) b lp) := by
    rw [wS (by omega)]
    exact ih d a (bEnd p i) b lp S (j + 1) hnx (by omega) hS' hS2
  refine Ev.step (fun k => by rw [impl_blockOk.l0]) ?_
  rw [hrd, bOk, if_pos hi]
  simp only [ci_len, r1]
  refine Ev.pos (by omega) (Ev.pos (by omega) (Ev.pos (by omega) (Ev.pos (by omega) ?_)))
  have j4 : ∀ q : Bool, q = decide (kd p i = 11 ∨ kd p i = 12) → Ev (fun k => impl_blockOk.j4 k p lp (ci S) j i (kd p i) q) (if kd p i = 11 ∨ kd p i = 12 then bOk p n (i + 1) (bEnd p i) (lp || decide (kd p i = 12)) && bOk p n (bEnd p i) b lp else bOk p n (bEnd p i) b lp) := by
    intro q hq
    refine Ev.step (fun k => by rw [impl_blockOk.j4]) ?_
    by_cases hk : kd p i = 11 ∨ kd p i = 12
    · rw [if_pos hk]
      refine Ev.pos (by rw [hq]; simpa using hk) (Ev.bind (ev_endOf hp (by omega)) ?_)
      have ee : wrap64 ((i : Int) + 1) = ((i + 1 : Nat) : Int) := wS (by omega)
      have e12 : (kd p i == 12) = decide (kd p i = 12) := by rw [Bool.eq_iff_iff]; simp
      rw [ee, e12]
      cases lp with
      | true =>
        refine Ev.pos rfl (Ev.bind (inner i true h hi (Nat.le_refl _)) ?_)
        simp only [Bool.true_or]
        cases bOk p n (i + 1) (bEnd p i) true with
        | true => exact Ev.pos rfl (by simpa using next)
        | false => exact Ev.neg (by simp) (by simpa using Ev.now false)
      | false =>
        refine Ev.neg (by simp) (Ev.bind (inner i (decide (kd p i = 12)) h hi (Nat.le_refl _)) ?_)
        simp only [Bool.false_or]
        cases bOk p n (i + 1) (bEnd p i) (decide (kd p i = 12)) with
        | true => exact Ev.pos rfl (by simpa using next)
        | false => exact Ev.neg (by simp) (by simpa using Ev.now false)
    · rw [if_neg hk]
      exact Ev.neg (by rw [hq]; simpa using hk) next
  have l1 : kd p i = 7 → ∀ (r : List Nat) (jj : Nat), (chain p i).drop jj = r → Ev (fun k => impl_blockOk.l1 k p lp (ci S) j (ci (chain p i)) (ci (chain p i)) ((chain p i).length : Int) jj) (r.all (fun e => bOk p n (e + 1) (bEnd p e) lp) && bOk p n (bEnd p (lastOf (chainT p i) i)) b lp) := by
    intro hk
    obtain ⟨c1, c2, c3, c4, c5, c6⟩ := chain_in (a := a) (b := b) p.length i h hi (by omega)
    have hT : chainT p i = chainN p d p.length (bEnd p i) := by rw [chainT, hd]
    have hlen := chain_len p d p.length (bEnd p i)
    intro r
    induction r with
    | nil =>
      intro jj hjj
      have := ci_end hjj
      refine Ev.step (fun k => by rw [impl_blockOk.l1]) ?_
      refine Ev.neg (by omega) ?_
      simp only [List.all_nil, Bool.true_and, ci_len]
      have e1 : (chain p i).length = (chainN p d p.length (bEnd p i)).length + 1 := by rw [chain, hT, List.length_cons]
      have e2 : wrap64 (wrap64 ((j : Int) + wrap64 (((chain p i).length : Int) - 1)) + 1) = ((j + ((chainN p d p.length (bEnd p i)).length + 1) : Nat) : Int) := by
        rw [e1, wr (x := (((chainN p d p.length (bEnd p i)).length + 1 : Nat) : Int) - 1) (by omega), wr (x := (j : Int) + _) (by omega), wr (by omega)]; omega
      rw [e2, hT]
      have e3 : S.drop (j + ((chainN p d p.length (bEnd p i)).length + 1)) = SB p b (bEnd p (lastOf (chainN p d p.length (bEnd p i)) i)) := by
        rw [← List.drop_drop, hS0, SB_chain p.length i h hi (by omega)]
      have g3 := bEnd_gt p (lastOf (chainN p d p.length (bEnd p i)) i)
      exact ih d a _ b lp S _ c2 (by omega) e3 hS2
    | cons e r ihr =>
      intro jj hjj
      obtain ⟨x1, x2, x3⟩ := ci_drop hjj
      have hlen2 : (chain p i).length ≤ 1048577 := by rw [chain, hT, List.length_cons]; omega
      have hmem : e ∈ chain p i := List.mem_of_mem_drop (by rw [hjj]; simp)
      have heb : e < b ∧ a ≤ e ∧ dp p e = d ∧ i ≤ e := by
        rcases List.mem_cons.mp hmem with rfl | hm
        · exact ⟨hi, hai, hd, Nat.le_refl _⟩
        · rw [hT] at hm
          have y1 := c1 e hm
          have y2 := chainN_mem hm
          exact ⟨y1.1, y1.2, y2.2.2.1, by omega⟩
      have hbk : Blk p d a e b := ⟨heb.2.1, by omega, hbl, h.low, fun _ => heb.2.2.1, h.out⟩
      refine Ev.step (fun k => by rw [impl_blockOk.l1]) ?_
      rw [x2, wS (by omega), wS (by omega)]
      refine Ev.pos (by omega) (Ev.pos (by omega) (Ev.pos (by rw [ci_len]; omega) (Ev.bind (ev_endOf hp (by omega)) (Ev.bind (inner e lp hbk heb.1 heb.2.2.2) ?_))))
      simp only [List.all_cons]
      cases bOk p n (e + 1) (bEnd p e) lp with
      | true => exact Ev.pos rfl (by simpa using ihr (jj + 1) x3)
      | false => exact Ev.neg (by simp) (by simpa using Ev.now false)
  have j2 : ¬ (kd p i = 5 ∨ kd p i = 6) → ∀ q : Bool, q = isF (kd p i) → Ev (fun k => impl_blockOk.j2 k p lp (ci S) j i (kd p i) (kd p i) q)
      (if isF (kd p i) = true then false
      else if kd p i = 7 then okB ((chainT p i).map (kd p)) && (chain p i).all (fun k => bOk p n (k + 1) (bEnd p k) lp) && bOk p n (bEnd p (lastOf (chainT p i) i)) b lp
      else if kd p i = 11 ∨ kd p i = 12 then bOk p n (i + 1) (bEnd p i) (lp || decide (kd p i = 12)) && bOk p n (bEnd p i) b lp
      else bOk p n (bEnd p i) b lp) := by
    intro hk56 q hq
    refine Ev.step (fun k => by rw [impl_blockOk.j2]) ?_
    rw [← hq]
    cases q with
    | true => exact Ev.pos rfl (by simpa using Ev.now false)
    | false =>
      refine Ev.neg (by simp) ?_
      simp only [Bool.false_eq_true, if_false]
      by_cases h7 : kd p i = 7
      · rw [if_pos h7]
        refine Ev.pos h7 (Ev.bind (ev_tryFrom hp (by omega)) ?_)
        have ht := tryOk_eq (p := p) i (chainT p i) (fun j hj => chain_lt (a := i) (by omega) j (List.mem_cons_of_mem _ hj))
        rw [show ci (i :: chainT p i) = ci (chain p i) from rfl] at ht
        rw [ht]
        simp only [Option.bind_some]
        cases okB ((chainT p i).map (kd p)) with
        | true =>
          refine Ev.pos rfl ?_
          rw [ci_len]
          simpa using l1 h7 (chain p i) 0 rfl
        | false => exact Ev.neg (by simp) (by simpa using Ev.now false)
      · rw [if_neg h7]
        refine Ev.neg h7 ?_
        have e11 : (kd p i == 11) = decide (kd p i = 11) := by rw [Bool.eq_iff_iff]; simp
        have e12 : (kd p i == 12) = decide (kd p i = 12) := by rw [Bool.eq_iff_iff]; simp
        rw [e11, e12]
        exact Ev.both (fun c => j4 _ (by simp [c])) (fun c => j4 _ (by simp [c]))
  have eb : ∀ z : Int, (kd p i == z) = decide (kd p i = z) := fun z => by rw [Bool.eq_iff_iff]; simp
  have j1 : ∀ q : Bool, q = decide (kd p i = 5 ∨ kd p i = 6) → Ev (fun k => impl_blockOk.j1 k p lp (ci S) j i (kd p i) (kd p i) q)
      (if kd p i = 5 ∨ kd p i = 6 then lp && bOk p n (bEnd p i) b lp
      else if isF (kd p i) = true then false
      else if kd p i = 7 then okB ((chainT p i).map (kd p)) && (chain p i).all (fun k => bOk p n (k + 1) (bEnd p k) lp) && bOk p n (bEnd p (lastOf (chainT p i) i)) b lp
      else if kd p i = 11 ∨ kd p i = 12 then bOk p n (i + 1) (bEnd p i) (lp || decide (kd p i = 12)) && bOk p n (bEnd p i) b lp
      else bOk p n (bEnd p i) b lp) := by
    intro q hq
    refine Ev.step (fun k => by rw [impl_blockOk.j1]) ?_
    by_cases hk : kd p i = 5 ∨ kd p i = 6
    · rw [if_pos hk]
      refine Ev.pos (by rw [hq]; simpa using hk) ?_
      cases lp with
      | true => exact Ev.pos rfl (by simpa using next)
      | false => exact Ev.neg (by simp) (by simpa using Ev.now false)
    · rw [if_neg hk]
      refine Ev.neg (by rw [hq]; simpa using hk) ?_
      simp only [eb]
      exact Ev.both (fun c => j2 hk _ (by simp [c, isF])) (fun c => Ev.both (fun c2 => j2 hk _ (by simp [c2, isF])) (fun c2 => j2 hk _ (by rw [Bool.eq_iff_iff]; simp [isF]; omega)))
  simp only [eb]
  exact Ev.both (fun c => j1 _ (by simp [c])) (fun c => j1 _ (by simp [c]))
theorem Blk.all {p : List Ln} (hr : DR p) (hl : ∀ j, j < p.length → 0 ≤ dp p j) : Blk p 0 0 0 p.length :=
  ⟨Nat.le_refl _, by omega, Nat.le_refl _, fun j _ h => hl j h, fun h => hr.first h, fun h => by omega⟩
theorem ev_blockOk {p : List Ln} (hp : p.length ≤ 1048576) (hr : DR p) (hl : ∀ j, j < p.length → 0 ≤ dp p j) : Ev (fun k => impl_blockOk.f k p 0 (p.length : Int) false) (bOk p p.length 0 p.length false) := by
  refine Ev.step (fun k => by rw [impl_blockOk.f]) ?_
  refine Ev.bind (ev_siblings (a := 0) hp (Nat.le_refl _)) ?_
  exact ev_blockOk_l0 hp hr p.length 0 0 0 p.length false (SB p p.length 0) 0 (Blk.all hr hl) (by omega) rfl (by have := SB_len p p.length p.length 0 (by omega); omega)
end Go.Proofs.Ytbclgpgolbmlpaa.Pure
end

section
namespace Go.Proofs.Ytbclgpgolbmlpaa.Pure
open Go Go.RowKit Go.Proofs.Ytbclgpgolbmlpaa.P Go.Proofs.YtbclgpgolbmlpaaW.PrintWords
set_option linter.unusedVariables false
def bw (a lo hi : Int) : Bool := decide (lo ≤ a) && decide (a ≤ hi)
theorem bw_iff {a lo hi : Int} : bw a lo hi = true ↔ lo ≤ a ∧ a ≤ hi := by simp [bw]
theorem iR (a b c : Int) : spec_inRange.f a b c = some (bw a b c) := inR a b c
theorem iW (a b c : Int) : impl_within.f a b c = some (bw a b c) := inW a b c
def nmN (s : ByteArray) : Nat → Nat → Bool
  | 0, _ => bw s.size 1 6
  | n + 1, i => if i < s.size then (if bt s i < 97 then false else if bt s i > 122 then false else nmN s n (i + 1)) else bw s.size 1 6
def nameB (s : ByteArray) : Bool := nmN s s.size 0
theorem ev_validName {s : ByteArray} (hs : s.size ≤ 1048576) : Ev (fun k => spec_validName.f k s) (nameB s) := by
  have : ∀ (n i : Nat), s.size ≤ n + i → Ev (fun k => spec_validName.l0 k s i) (nmN s n i) := by
    intro n
    induction n with
    | zero =>
      intro i h
      refine Ev.step (fun k => by rw [spec_validName.l0]) ?_
      rw [iR]
      exact Ev.neg (by omega) (Ev.now _)
    | succ n ih =>
      intro i h
      refine Ev.step (fun k => by rw [spec_validName.l0]) ?_
      rw [iR, nmN]
      by_cases h1 : i < s.size
      · rw [if_pos h1]
        refine Ev.pos (by omega) (Ev.pos (by omega) ?_)
        by_cases h2 : bt s i < 97
        · rw [if_pos h2]; exact Ev.pos h2 (Ev.now _)
        · rw [if_neg h2]
          refine Ev.neg h2 ?_
          by_cases h3 : bt s i > 122
          · rw [if_pos h3]; exact Ev.pos h3 (Ev.now _)
          · rw [if_neg h3, wS (by omega)]
            exact Ev.neg h3 (ih (i + 1) (by omega))
      · rw [if_neg h1]
        exact Ev.neg (by omega) (Ev.now _)
  exact this s.size 0 (by omega)
theorem ev_nameOk {s : ByteArray} (hs : s.size ≤ 1048576) : Ev (fun k => impl_nameOk.f k s) (nameB s) := by
  have : ∀ (n i : Nat), s.size ≤ n + i → Ev (fun k => impl_nameOk.l0 k s s.size i) (nmN s n i) := by
    intro n
    induction n with
    | zero =>
      intro i h
      refine Ev.step (fun k => by rw [impl_nameOk.l0]) ?_
      rw [iW]
      exact Ev.neg (by omega) (Ev.now _)
    | succ n ih =>
      intro i h
      refine Ev.step (fun k => by rw [impl_nameOk.l0]) ?_
      rw [iW, nmN]
      by_cases h1 : i < s.size
      · rw [if_pos h1]
        refine Ev.pos (by omega) (Ev.pos (by omega) (Ev.pos (by omega) ?_))
        by_cases h2 : bt s i < 97
        · rw [if_pos h2]; exact Ev.pos h2 (Ev.now _)
        · rw [if_neg h2]
          refine Ev.neg h2 ?_
          by_cases h3 : bt s i > 122
          · rw [if_pos h3]; exact Ev.pos h3 (Ev.now _)
          · rw [if_neg h3, wS (by omega)]
            exact Ev.neg h3 (ih (i + 1) (by omega))
      · rw [if_neg h1]
        exact Ev.neg (by omega) (Ev.now _)
  exact this s.size 0 (by omega)
def cn (t : List Cl) (i : Nat) : ByteArray := (t.getD i z68).f0
def cp (t : List Cl) (i : Nat) : Int := (t.getD i z68).f1
theorem c0 (t : List Cl) (i : Nat) : (rd_T68 t (i : Int)).f0 = cn t i := rfl
theorem c1 (t : List Cl) (i : Nat) : (rd_T68 t (i : Int)).f1 = cp t i := rfl
def TS (t : List Cl) : Prop := t.length ≤ 1048576 ∧ ∀ i, i < t.length → (cn t i).size ≤ 1048576
def fiD (s : ByteArray) : List Cl → Nat → Int
  | [], _ => -1
  | c :: r, i => if c.f0.toList = s.toList then (i : Int) else fiD s r (i + 1)
theorem fiD_lt (s : ByteArray) : ∀ (l : List Cl) (i : Nat), fiD s l i = -1 ∨ ((i : Int) ≤ fiD s l i ∧ fiD s l i < i + l.length)
  | [], _ => .inl rfl
  | c :: r, i => by
    simp only [fiD]
    split
    · right; simp only [List.length_cons]; omega
    · rcases fiD_lt s r (i + 1) with h | h
      · exact .inl h
      · right; simp only [List.length_cons]; omega
theorem fiD_at (s : ByteArray) (c : Cl) (r : List Cl) (hc : c.f0.toList = s.toList) : ∀ (l : List Cl) (i : Nat), fiD s (l ++ c :: r) i = (if 0 ≤ fiD s l i then fiD s l i else ((i + l.length : Nat) : Int))
  | [], i => by simp [fiD, hc]
  | x :: l, i => by
    simp only [List.cons_append, fiD]
    split
    · rw [if_pos (by omega)]
    · rw [fiD_at s c r hc l (i + 1)]
      simp only [List.length_cons, show i + 1 + l.length = i + (l.length + 1) from by omega]
theorem fiD_first {t : List Cl} {i : Nat} (h : i < t.length) : fiD (cn t i) t 0 = (i : Int) ↔ ¬ (0 ≤ fiD (cn t i) (t.take i) 0) := by
  have e : t = t.take i ++ t[i] :: t.drop (i + 1) := by rw [← List.drop_eq_getElem_cons h, List.take_append_drop]
  have hn : (t[i]).f0.toList = (cn t i).toList := by simp [cn, List.getD_eq_getElem?_getD, h]
  have hl : (t.take i).length = i := by rw [List.length_take]; omega
  have key := fiD_at (cn t i) t[i] (t.drop (i + 1)) hn (t.take i) 0
  rw [← e, hl] at key
  rw [key]
  have hb := fiD_lt (cn t i) (t.take i) 0
  rw [hl] at hb
  split
  · constructor
    · intro h; omega
    · intro h; omega
  · constructor
    · intro _; assumption
    · intro _; omega
theorem ev_classNamed {s : ByteArray} {t : List Cl} (ht : t.length ≤ 1048576) : Ev (fun k => spec_classNamed.f k t s) (fiD s t 0) := by
  have : ∀ (r : List Cl) (i : Nat), t.drop i = r → Ev (fun k => spec_classNamed.l0 k t s i) (fiD s r i) := by
    intro r
    induction r with
    | nil =>
      intro i h
      have : t.length ≤ i := by simpa using h
      refine Ev.step (fun k => by rw [spec_classNamed.l0]) ?_
      exact Ev.neg (by omega) (Ev.now _)
    | cons c r ih =>
      intro i h
      have hi : i < t.length := by
        rcases Nat.lt_or_ge i t.length with h1 | h1
        · exact h1
        · rw [List.drop_eq_nil_of_le h1] at h; cases h
      rw [List.drop_eq_getElem_cons hi] at h
      injection h with h1 h2
      refine Ev.step (fun k => by rw [spec_classNamed.l0]) ?_
      have e : (rd_T68 t (i : Int)).f0 = c.f0 := by rw [c0, cn, List.getD_eq_getElem?_getD, List.getElem?_eq_getElem hi, h1]; rfl
      rw [e, fiD]
      refine Ev.pos (by omega) (Ev.pos (by omega) ?_)
      by_cases hc : c.f0.toList = s.toList
      · rw [if_pos hc]; exact Ev.pos hc (Ev.now _)
      · rw [if_neg hc, wS (by omega)]; exact Ev.neg hc (ih (i + 1) h2)
  exact this t 0 rfl
theorem named_eq (s : ByteArray) : ∀ (t : List Cl) (i : Nat), idxFrom (fun x : Cl => some (x.f0.toList == s.toList)) t i = some (fiD s t i)
  | [], _ => rfl
  | c :: t, i => by
    simp only [idxFrom, Option.bind_some, fiD]
    by_cases hc : c.f0.toList = s.toList
    · rw [if_pos hc, if_pos (by simpa using hc)]
    · rw [if_neg hc, if_neg (by simpa using hc)]; exact named_eq s t (i + 1)
def parB (t : List Cl) (i : Nat) : Bool := if i = 0 then decide (cp t 0 = -1) else bw (cp t i) 0 ((i : Int) - 1)
def trN (t : List Cl) : Nat → Nat → Bool
  | 0, _ => bw t.length 1 8
  | n + 1, i => if i < t.length then nameB (cn t i) && !decide (0 ≤ fiD (cn t i) (t.take i) 0) && parB t i && trN t n (i + 1) else bw t.length 1 8
def treeB (t : List Cl) : Bool := trN t t.length 0
theorem take_len {t : List Cl} (i : Nat) (h : t.length ≤ 1048576) : (t.take i).length ≤ 1048576 := by rw [List.length_take]; omega
theorem ev_validTree {t : List Cl} (ht : TS t) : Ev (fun k => spec_validTree.f k t) (treeB t) := by
  have hl := ht.1
  have : ∀ (n i : Nat), t.length ≤ n + i → Ev (fun k => spec_validTree.l0 k i t) (trN t n i) := by
    intro n
    induction n with
    | zero =>
      intro i h
      refine Ev.step (fun k => by rw [spec_validTree.l0]) ?_
      simp only [iR, Option.bind_some, trN]
      exact Ev.neg (by omega) (Ev.now _)
    | succ n ih =>
      intro i h
      refine Ev.step (fun k => by rw [spec_validTree.l0]) ?_
      simp only [c0, c1, iR, Option.bind_some]
      rw [trN]
      by_cases h1 : i < t.length
      · rw [if_pos h1]
        have stop : Ev (fun k => spec_validTree.j1 k i true t) false := by
          refine Ev.step (fun k => by rw [spec_validTree.j1]) ?_
          exact Ev.pos rfl (Ev.now _)
        have fin : ∀ b : Bool, b = parB t i → Ev (fun k => spec_validTree.j1 k i (!b) t) (b && trN t n (i + 1)) := by
          intro b hb
          refine Ev.step (fun k => by rw [spec_validTree.j1]) ?_
          cases b with
          | true => rw [wS (by omega)]; exact Ev.neg (by simp) (by simpa using ih (i + 1) (by omega))
          | false => exact Ev.pos rfl (by simpa using Ev.now false)
        refine Ev.pos (by omega) (Ev.pos (by omega) (Ev.bind (ev_validName (ht.2 i h1)) ?_))
        cases nameB (cn t i) with
        | false => exact Ev.neg (by simp) (by simpa using stop)
        | true =>
          refine Ev.pos rfl (Ev.pos (by omega) ?_)
          rw [show ((i : Int)).toNat = i from rfl]
          refine Ev.bind (ev_classNamed (take_len i hl)) ?_
          by_cases h2 : 0 ≤ fiD (cn t i) (t.take i) 0
          · rw [decide_eq_true h2]
            simp only [Bool.not_true, Bool.and_false, Bool.false_and]
            exact Ev.pos h2 stop
          · rw [decide_eq_false h2]
            simp only [Bool.not_false, Bool.and_true, Bool.true_and]
            refine Ev.neg h2 ?_
            by_cases h3 : i = 0
            · subst h3
              refine Ev.pos rfl ?_
              by_cases h4 : cp t 0 = -1
              · refine Ev.pos h4 (Ev.neg (by omega) ?_)
                have := fin true (by simp [parB, h4])
                rw [show parB t 0 = true from by simp [parB, h4]]
                exact this
              · refine Ev.neg h4 ?_
                rw [show parB t 0 = false from by simp [parB, h4]]
                simpa using stop
            · refine Ev.neg (by omega) (Ev.pos (by omega) ?_)
              rw [show wrap64 ((i : Int) - 1) = (i : Int) - 1 from wr (by omega)]
              have e : parB t i = bw (cp t i) 0 ((i : Int) - 1) := by rw [parB, if_neg h3]
              have := fin _ e.symm
              rw [e]
              exact this
      · rw [if_neg h1]
        exact Ev.neg (by omega) (Ev.now _)
  exact this t.length 0 (by omega)
theorem ev_ValidTree {t : List Cl} (ht : TS t) : Ev (fun k => impl_ValidTree.f k t) (treeB t) := by
  have hl := ht.1
  have : ∀ (n i : Nat), t.length ≤ n + i → Ev (fun k => impl_ValidTree.l0 k t t.length i t) (trN t n i) := by
    intro n
    induction n with
    | zero =>
      intro i h
      refine Ev.step (fun k => by rw [impl_ValidTree.l0]) ?_
      simp only [iW, Option.bind_some, trN]
      exact Ev.neg (by omega) (Ev.now _)
    | succ n ih =>
      intro i h
      refine Ev.step (fun k => by rw [impl_ValidTree.l0]) ?_
      simp only [c0, c1, iW, Option.bind_some]
      rw [trN]
      by_cases h1 : i < t.length
      · rw [if_pos h1]
        have stop : Ev (fun k => impl_ValidTree.j1 k t t.length i true t) false := by
          refine Ev.step (fun k => by rw [impl_ValidTree.j1]) ?_
          exact Ev.pos rfl (Ev.now _)
        have fin : ∀ b : Bool, b = parB t i → Ev (fun k => impl_ValidTree.j1 k t t.length i (!b) t) (b && trN t n (i + 1)) := by
          intro b hb
          refine Ev.step (fun k => by rw [impl_ValidTree.j1]) ?_
          cases b with
          | true => rw [wS (by omega)]; exact Ev.neg (by simp) (by simpa using ih (i + 1) (by omega))
          | false => exact Ev.pos rfl (by simpa using Ev.now false)
        refine Ev.pos (by omega) (Ev.pos (by omega) (Ev.pos (by omega) (Ev.bind (ev_nameOk (ht.2 i h1)) ?_)))
        cases nameB (cn t i) with
        | false => exact Ev.neg (by simp) (by simpa using stop)
        | true =>
          refine Ev.pos rfl ?_
          simp only [impl_Tree_named.f, named_eq, Option.bind_some]
          by_cases h2 : 0 ≤ fiD (cn t i) (t.take i) 0
          · rw [decide_eq_true h2]
            simp only [Bool.not_true, Bool.and_false, Bool.false_and]
            exact Ev.neg (fun h => (fiD_first h1).mp h h2) stop
          · rw [decide_eq_false h2]
            simp only [Bool.not_false, Bool.and_true, Bool.true_and]
            refine Ev.pos ((fiD_first h1).mpr h2) ?_
            by_cases h3 : i = 0
            · subst h3
              refine Ev.pos rfl ?_
              by_cases h4 : cp t 0 = -1
              · refine Ev.pos h4 (Ev.neg (by omega) ?_)
                have := fin true (by simp [parB, h4])
                rw [show parB t 0 = true from by simp [parB, h4]]
                exact this
              · refine Ev.neg h4 ?_
                rw [show parB t 0 = false from by simp [parB, h4]]
                simpa using stop
            · refine Ev.neg (by omega) (Ev.pos (by omega) ?_)
              rw [show wrap64 ((i : Int) - 1) = (i : Int) - 1 from wr (by omega)]
              have e : parB t i = bw (cp t i) 0 ((i : Int) - 1) := by rw [parB, if_neg h3]
              have := fin _ e.symm
              rw [e]
              exact this
      · rw [if_neg h1]
        exact Ev.neg (by omega) (Ev.now _)
  exact this t.length 0 (by omega)
def hasB (t : List Cl) (a : Int) : Bool := bw a 0 ((t.length : Int) - 1)
def numB (t : List Cl) (k a b : Int) : Bool :=
  if k = 1 ∨ k = 4 then bw a 0 99 && decide (b = 0) else if k = 2 then hasB t a && bw b 0 99 else if k = 8 then hasB t a && decide (b = 0) else if k = 11 then bw a 0 9 && bw b 0 1 else if k = 12 then bw a 0 3 && decide (b = 0) else bw k 0 10 && (decide (a = 0) && decide (b = 0))
theorem sHas {t : List Cl} (ht : t.length ≤ 1048576) (a : Int) : spec_hasClass.f t a = some (hasB t a) := by
  unfold spec_hasClass.f hasB
  rw [wr (by omega), iR]; rfl
theorem iHas {t : List Cl} (ht : t.length ≤ 1048576) (a : Int) : impl_Tree_has.f t a = some (hasB t a) := by
  unfold impl_Tree_has.f hasB
  rw [wr (by omega), iW]; rfl
theorem iCode (a : Int) : impl_codeOk.f a = some (bw a 0 99) := by
  unfold impl_codeOk.f
  rw [iW]; rfl
theorem eqd (a z : Int) : (a == z) = decide (a = z) := by rw [Bool.eq_iff_iff]; simp
theorem Ev.andB {b c : Bool} : Ev (fun _ : Nat => if b = true then some c else some false) (b && c) := by
  cases b with
  | true => exact Ev.pos rfl (by simpa using Ev.now c)
  | false => exact Ev.neg (by simp) (by simpa using Ev.now false)
theorem ev_validNumbers {t : List Cl} (ht : t.length ≤ 1048576) (d k a b : Int) : Ev (fun n => spec_validNumbers.f n t d k a b) (numB t k a b) := by
  have j : ∀ q : Bool, q = decide (k = 1 ∨ k = 4) → Ev (fun n => spec_validNumbers.j0 n k q t d k a b) (numB t k a b) := by
    intro q hq
    refine Ev.step (fun n => by rw [spec_validNumbers.j0]) ?_
    simp only [iR, sHas ht, Option.bind_some, eqd]
    unfold numB
    by_cases h1 : k = 1 ∨ k = 4
    · refine Ev.pos (by rw [hq]; simpa using h1) ?_; rw [if_pos h1]; exact Ev.andB
    refine Ev.neg (by rw [hq]; simpa using h1) ?_
    rw [if_neg h1]
    by_cases h2 : k = 2
    · refine Ev.pos h2 ?_; rw [if_pos h2]; exact Ev.andB
    refine Ev.neg h2 ?_
    rw [if_neg h2]
    by_cases h3 : k = 8
    · refine Ev.pos h3 ?_; rw [if_pos h3]; exact Ev.andB
    refine Ev.neg h3 ?_
    rw [if_neg h3]
    by_cases h4 : k = 11
    · refine Ev.pos h4 ?_; rw [if_pos h4]; exact Ev.andB
    refine Ev.neg h4 ?_
    rw [if_neg h4]
    by_cases h5 : k = 12
    · refine Ev.pos h5 ?_; rw [if_pos h5]; exact Ev.andB
    refine Ev.neg h5 ?_
    rw [if_neg h5]
    cases bw k 0 10 with
    | false => exact Ev.neg (by simp) (by simpa using Ev.now false)
    | true =>
      refine Ev.pos rfl ?_
      by_cases h6 : a = 0
      · refine Ev.pos h6 ?_; simp only [h6, decide_true, Bool.true_and]; exact Ev.now _
      · refine Ev.neg h6 ?_; simp only [h6, decide_false, Bool.false_and, Bool.and_false]; exact Ev.now _
  unfold spec_validNumbers.f
  simp only [eqd]
  exact Ev.both (fun c => j _ (by simp [c])) (fun c => j _ (by simp [c]))
theorem ev_argued {t : List Cl} (ht : t.length ≤ 1048576) (d k a b : Int) : Ev (fun n => impl_Line_argued.f n d k a b t) (numB t k a b) := by
  have j : ∀ q : Bool, q = decide (k = 1 ∨ k = 4) → Ev (fun n => impl_Line_argued.j0 n k q d k a b t) (numB t k a b) := by
    intro q hq
    refine Ev.step (fun n => by rw [impl_Line_argued.j0]) ?_
    simp only [iW, iHas ht, iCode, Option.bind_some, eqd]
    unfold numB
    by_cases h1 : k = 1 ∨ k = 4
    · refine Ev.pos (by rw [hq]; simpa using h1) ?_; rw [if_pos h1]; exact Ev.andB
    refine Ev.neg (by rw [hq]; simpa using h1) ?_
    rw [if_neg h1]
    by_cases h2 : k = 2
    · refine Ev.pos h2 ?_; rw [if_pos h2]; exact Ev.andB
    refine Ev.neg h2 ?_
    rw [if_neg h2]
    by_cases h3 : k = 8
    · refine Ev.pos h3 ?_; rw [if_pos h3]; exact Ev.andB
    refine Ev.neg h3 ?_
    rw [if_neg h3]
    by_cases h4 : k = 11
    · refine Ev.pos h4 ?_; rw [if_pos h4]; exact Ev.andB
    refine Ev.neg h4 ?_
    rw [if_neg h4]
    by_cases h5 : k = 12
    · refine Ev.pos h5 ?_; rw [if_pos h5]; exact Ev.andB
    refine Ev.neg h5 ?_
    rw [if_neg h5]
    rw [show bw k 0 12 = bw k 0 10 from by rw [Bool.eq_iff_iff, bw_iff, bw_iff]; omega]
    cases bw k 0 10 with
    | false => exact Ev.neg (by simp) (by simpa using Ev.now false)
    | true =>
      refine Ev.pos rfl ?_
      by_cases h6 : a = 0
      · refine Ev.pos h6 ?_; simp only [h6, decide_true, Bool.true_and]; exact Ev.now _
      · refine Ev.neg h6 ?_; simp only [h6, decide_false, Bool.false_and, Bool.and_false]; exact Ev.now _
  unfold impl_Line_argued.f
  simp only [eqd]
  exact Ev.both (fun c => j _ (by simp [c])) (fun c => j _ (by simp [c]))
end Go.Proofs.Ytbclgpgolbmlpaa.Pure
end

section
namespace Go.Proofs.Ytbclgpgolbmlpaa.Pure
open Go Go.RowKit Go.Proofs.Ytbclgpgolbmlpaa.P Go.Proofs.YtbclgpgolbmlpaaW.PrintWords
set_option linter.unusedVariables false
def inLN (p : List Ln) : Nat → Int → Bool
  | 0, _ => false
  | i + 1, d => if dp p i < d then (if kd p i = 12 then true else inLN p i (dp p i)) else inLN p i d
def hdN (p : List Ln) (d : Int) : Nat → Option Nat
  | 0 => none
  | i + 1 => if dp p i < d then none else if dp p i = d then some i else hdN p d i
theorem iP (m : Nat) : ((m + 1 : Nat) : Int) - 1 = (m : Int) := by omega
theorem iM {m : Nat} (h : m ≤ 1048576) : wrap64 ((m : Int) - 1) = (m : Int) - 1 := wr (by omega)
theorem ev_inLoop_l0 {p : List Ln} (hp : p.length ≤ 1048576) : ∀ (i : Nat) (d : Int), i ≤ p.length → Ev (fun k => spec_inLoop.l0 k p d ((i : Int) - 1)) (inLN p i d)
  | 0, d, h => by
    refine Ev.step (fun k => by rw [spec_inLoop.l0]) ?_
    exact Ev.neg (by omega) (Ev.now _)
  | i + 1, d, h => by
    refine Ev.step (fun k => by rw [spec_inLoop.l0]) ?_
    rw [iP]
    simp only [r0, r1]
    refine Ev.pos (by omega) (Ev.pos (by omega) (Ev.pos (by omega) ?_))
    rw [iM (by omega)]
    by_cases h1 : dp p i < d
    · refine Ev.pos h1 ?_
      rw [inLN, if_pos h1]
      by_cases h2 : kd p i = 12
      · refine Ev.pos h2 ?_
        rw [if_pos h2]; exact Ev.now _
      · refine Ev.neg h2 ?_
        rw [if_neg h2]; exact ev_inLoop_l0 hp i _ (by omega)
    · refine Ev.neg h1 ?_
      rw [inLN, if_neg h1]; exact ev_inLoop_l0 hp i _ (by omega)
theorem ev_inLoop {p : List Ln} (hp : p.length ≤ 1048576) {a : Nat} (ha : a < p.length) : Ev (fun k => spec_inLoop.f k p a) (inLN p a (dp p a)) := by
  unfold spec_inLoop.f
  simp only [r0]
  rw [iM (by omega)]
  exact Ev.pos (by omega) (Ev.pos (by omega) (ev_inLoop_l0 hp a _ (by omega)))
def oi (o : Option Nat) : Int := match o with | none => -1 | some m => (m : Int)
theorem ev_headOf_l0 {p : List Ln} (hp : p.length ≤ 1048576) {a : Nat} (ha : a < p.length) : ∀ (i : Nat), i ≤ p.length → Ev (fun k => spec_headOf.l0 k p a ((i : Int) - 1)) (oi (hdN p (dp p a) i))
  | 0, h => by
    refine Ev.step (fun k => by rw [spec_headOf.l0]) ?_
    exact Ev.neg (by omega) (Ev.now _)
  | i + 1, h => by
    refine Ev.step (fun k => by rw [spec_headOf.l0]) ?_
    rw [iP]
    simp only [r0]
    refine Ev.pos (by omega) (Ev.pos (by omega) (Ev.pos (by omega) (Ev.pos (by omega) (Ev.pos (by omega) ?_))))
    rw [iM (by omega)]
    by_cases h1 : dp p i < dp p a
    · refine Ev.pos h1 ?_
      rw [hdN, if_pos h1]; exact Ev.now _
    · refine Ev.neg h1 ?_
      rw [hdN, if_neg h1]
      by_cases h2 : dp p i = dp p a
      · refine Ev.pos h2 ?_
        rw [if_pos h2]; exact Ev.now _
      · refine Ev.neg h2 ?_
        rw [if_neg h2]; exact ev_headOf_l0 hp ha i (by omega)
theorem ev_headOf {p : List Ln} (hp : p.length ≤ 1048576) {a : Nat} (ha : a < p.length) : Ev (fun k => spec_headOf.f k p a) (oi (hdN p (dp p a) a)) := by
  unfold spec_headOf.f
  rw [iM (by omega)]
  exact ev_headOf_l0 hp ha a (by omega)
theorem inLN_iff (p : List Ln) : ∀ (i : Nat) (d : Int), inLN p i d = true ↔ ∃ m, m < i ∧ kd p m = 12 ∧ dp p m < d ∧ ∀ j, m < j → j < i → dp p m < dp p j
  | 0, d => by simp [inLN]
  | i + 1, d => by
    rw [inLN]
    by_cases h1 : dp p i < d
    · rw [if_pos h1]
      by_cases h2 : kd p i = 12
      · rw [if_pos h2]
        exact ⟨fun _ => ⟨i, by omega, h2, h1, fun j a b => by omega⟩, fun _ => rfl⟩
      · rw [if_neg h2, inLN_iff p i]
        constructor
        · rintro ⟨m, a, b, c, e⟩
          refine ⟨m, by omega, b, by omega, fun j x y => ?_⟩
          by_cases hj : j = i
          · rw [hj]; exact c
          · exact e j x (by omega)
        · rintro ⟨m, a, b, c, e⟩
          have hm : m ≠ i := fun h => h2 (by rw [← h]; exact b)
          exact ⟨m, by omega, b, e i (by omega) (by omega), fun j x y => e j x (by omega)⟩
    · rw [if_neg h1, inLN_iff p i]
      constructor
      · rintro ⟨m, a, b, c, e⟩
        refine ⟨m, by omega, b, c, fun j x y => ?_⟩
        by_cases hj : j = i
        · rw [hj]; omega
        · exact e j x (by omega)
      · rintro ⟨m, a, b, c, e⟩
        have hm : m ≠ i := fun h => h1 (by rw [← h]; exact c)
        exact ⟨m, by omega, b, c, fun j x y => e j x (by omega)⟩
theorem hdN_iff (p : List Ln) (d : Int) : ∀ (i m : Nat), hdN p d i = some m ↔ m < i ∧ dp p m = d ∧ ∀ j, m < j → j < i → d < dp p j
  | 0, m => by simp [hdN]
  | i + 1, m => by
    rw [hdN]
    by_cases h1 : dp p i < d
    · rw [if_pos h1]
      constructor
      · intro h; cases h
      · rintro ⟨a, b, c⟩
        by_cases hm : m = i
        · subst hm; omega
        · have := c i (by omega) (by omega); omega
    · rw [if_neg h1]
      by_cases h2 : dp p i = d
      · rw [if_pos h2]
        constructor
        · intro h
          injection h with h
          subst h
          exact ⟨by omega, h2, fun j a b => by omega⟩
        · rintro ⟨a, b, c⟩
          by_cases hm : m = i
          · rw [hm]
          · have := c i (by omega) (by omega); omega
      · rw [if_neg h2, hdN_iff p d i]
        constructor
        · rintro ⟨a, b, c⟩
          refine ⟨by omega, b, fun j x y => ?_⟩
          by_cases hj : j = i
          · rw [hj]; omega
          · exact c j x (by omega)
        · rintro ⟨a, b, c⟩
          have hm : m ≠ i := fun h => h2 (by rw [← h]; exact b)
          exact ⟨by omega, b, fun j x y => c j x (by omega)⟩
theorem good_top {p : List Ln} {i : Nat} (hi : i < p.length) : Good p 0 false i ↔ (kd p i = 7 → vcB ((chainT p i).map (kd p)) = true) ∧ ((kd p i = 5 ∨ kd p i = 6) → inLN p i (dp p i) = true) ∧
    (isF (kd p i) = true → ∃ m, hdN p (dp p i) i = some m ∧ (kd p m = 7 ∨ isF (kd p m) = true)) := by
  refine and_congr Iff.rfl (and_congr (imp_congr Iff.rfl ?_) (imp_congr Iff.rfl ?_))
  · rw [inLN_iff]
    constructor
    · rintro (h | ⟨m, a, b, c, e⟩)
      · cases h
      · refine ⟨m, b, c, bEnd_in b e, fun j x y => bEnd_in x (by omega)⟩
    · rintro ⟨m, b, c, e, g⟩
      refine .inr ⟨m, by omega, b, c, (bEnd_lt_iff b hi).mpr fun j x y => ?_⟩
      by_cases hj : j = i
      · rw [hj]; exact e
      · exact g j x (by omega)
  · constructor
    · rintro ⟨m, a, b, c, e, g⟩
      exact ⟨m, (hdN_iff p _ i m).mpr ⟨b, e, fun j x y => by rw [← e]; exact bEnd_in x (by omega)⟩, g⟩
    · rintro ⟨m, h, g⟩
      obtain ⟨a, b, c⟩ := (hdN_iff p _ i m).mp h
      exact ⟨m, by omega, a, bEnd_uniq a (by omega) (fun j x y => by rw [b]; exact c j x y) (fun _ => by omega), b, g⟩
def offB (p : List Ln) (i : Nat) : Bool :=
  (if i = 0 then decide (dp p i ≠ 0) else decide (dp p (i - 1) + 1 < dp p i) || (isO (kd p (i - 1)) != decide (dp p i = dp p (i - 1) + 1))) || (decide (i + 1 = p.length) && isO (kd p i))
theorem off_DR (p : List Ln) : (∀ i, i < p.length → offB p i = false) ↔ DR p := by
  constructor
  · intro h
    refine ⟨fun h0 => ?_, fun i hi ho => ?_, fun i hi ho => ?_, fun i hi => ?_⟩
    · have := h 0 h0; simp [offB] at this; exact this.1
    · have := h (i + 1) hi; simp [offB, ho] at this; exact this.1.2
    · have := h (i + 1) hi; simp [offB, ho] at this; omega
    · have := h i (by omega)
      simp only [offB, Bool.or_eq_false_iff, Bool.and_eq_false_iff, decide_eq_false_iff_not] at this
      rcases this.2 with h2 | h2
      · exact absurd hi h2
      · exact h2
  · intro h i hi
    simp only [offB, Bool.or_eq_false_iff, Bool.and_eq_false_iff, decide_eq_false_iff_not]
    refine ⟨?_, ?_⟩
    · by_cases h0 : i = 0
      · subst h0; rw [if_pos rfl]; simp [h.first hi]
      · rw [if_neg h0]
        obtain ⟨m, rfl⟩ : ∃ m, i = m + 1 := ⟨i - 1, by omega⟩
        simp only [Nat.add_sub_cancel]
        cases ho : isO (kd p m) with
        | true => have := h.deeper m hi ho; simp [this]
        | false => have := h.none m hi ho; simp; omega
    · by_cases hl : i + 1 = p.length
      · exact .inr (h.last i hl)
      · exact .inl hl
def LineOk (t : List Cl) (p : List Ln) (i : Nat) : Prop := numB t (kd p i) (la p i) (lb p i) = true ∧ bw (dp p i) 0 5 = true ∧ offB p i = false ∧ Good p 0 false i
theorem sB (a lo hi : Int) : spec_validLine.inB a lo hi = bw a lo hi := rfl
theorem off_eq {p : List Ln} {i : Nat} (hi : i < p.length) (hprev : ∀ m, i = m + 1 → bw (dp p m) 0 5 = true) : spec_validLine.off p i (rd_T50 p (i : Int)) = offB p i := by
  have e0 : spec_validLine.off p i (rd_T50 p (i : Int)) = (if (if (i : Int) = 0 then decide (dp p i ≠ 0) else if wrap64 ((rd_T50 p ((i : Int) - 1)).f0 + 1) < dp p i then true else (bw (rd_T50 p ((i : Int) - 1)).f1 7 12 != (dp p i == wrap64 ((rd_T50 p ((i : Int) - 1)).f0 + 1)))) = true then true else decide ((i : Int) + 1 = (p.length : Int)) && isO (kd p i)) := rfl
  rw [e0]
  unfold offB
  have e1 : decide ((i : Int) + 1 = (p.length : Int)) = decide (i + 1 = p.length) := by rw [decide_eq_decide]; omega
  rw [e1]
  by_cases h0 : i = 0
  · subst h0
    rw [if_pos (show ((0 : Nat) : Int) = 0 from rfl), if_pos (show (0 : Nat) = 0 from rfl)]
    by_cases h1 : dp p 0 = 0 <;> simp [h1]
  · obtain ⟨m, rfl⟩ : ∃ m, i = m + 1 := ⟨i - 1, by omega⟩
    have hb := bw_iff.mp (hprev m rfl)
    have e2 : (rd_T50 p (((m + 1 : Nat) : Int) - 1)) = rd_T50 p (m : Int) := by rw [iP]
    rw [if_neg (show ¬ ((m + 1 : Nat) : Int) = 0 by omega), if_neg h0, e2, show (rd_T50 p (m : Int)).f0 = dp p m from rfl, show bw (rd_T50 p (m : Int)).f1 7 12 = isO (kd p m) from rfl, wr (x := dp p m + 1) (by omega), eqd]
    simp only [Nat.add_sub_cancel]
    by_cases h1 : dp p m + 1 < dp p (m + 1)
    · simp [h1]
    · simp only [h1, if_false, decide_false, Bool.false_or]
      cases (isO (kd p m) != decide (dp p (m + 1) = dp p m + 1)) <;> simp
theorem ev_validLine {t : List Cl} {p : List Ln} (hp : p.length ≤ 1048576) (ht : t.length ≤ 1048576) {i : Nat} (hi : i < p.length) (hprev : ∀ m, i = m + 1 → bw (dp p m) 0 5 = true) :
    ∃ b, Ev (fun k => spec_validLine.f k t p i) b ∧ (b = true ↔ LineOk t p i) := by
  unfold LineOk
  rw [good_top hi]
  have e : ∀ b : Bool, Ev (fun k =>
    (spec_validNumbers.f k t (dp p i) (kd p i) (la p i) (lb p i)).bind fun v =>
    if v = false then some false else if bw (dp p i) 0 5 = false then some false else
    if offB p i then some false else
    (if kd p i = 7 then spec_validChain.f k p i else some true).bind fun c1 => if c1 = false then some false else
    (if kd p i = 5 ∨ kd p i = 6 then spec_inLoop.f k p i else some true).bind fun c2 => if c2 = false then some false else
    if isF (kd p i) = false then some true else
    (spec_headOf.f k p i).bind fun h => if 0 ≤ h then if h < (p.length : Int) then some ((rd_T50 p h).f1 == 7 || spec_validLine.inB (rd_T50 p h).f1 8 10) else none else some false) b → Ev (fun k => spec_validLine.f k t p i) b := by
    intro b h
    unfold spec_validLine.f
    rw [off_eq hi hprev]
    exact Ev.pos (by omega) (Ev.pos (by omega) h)
  have hn := ev_validNumbers ht (dp p i) (kd p i) (la p i) (lb p i)
  cases h1 : numB t (kd p i) (la p i) (lb p i) with
  | false => rw [h1] at hn; exact ⟨false, e _ (Ev.bind hn (Ev.pos rfl (Ev.now _))), by simp⟩
  | true =>
  rw [h1] at hn
  cases h2 : bw (dp p i) 0 5 with
  | false => exact ⟨false, e _ (Ev.bind hn (Ev.neg (by simp) (Ev.pos h2 (Ev.now _)))), by simp⟩
  | true =>
  cases h3 : offB p i with
  | true => exact ⟨false, e _ (Ev.bind hn (Ev.neg (by simp) (Ev.neg (by simp [h2]) (Ev.pos h3 (Ev.now _))))), by simp⟩
  | false =>
  have hc1 : Ev (fun k => if kd p i = 7 then spec_validChain.f k p i else some true) (!decide (kd p i = 7) || vcB ((chainT p i).map (kd p))) := by
    refine Ev.both (fun c => ?_) (fun c => ?_)
    · simp only [c, decide_true, Bool.not_true, Bool.false_or]; exact ev_validChain hp hi
    · simp only [c, decide_false, Bool.not_false, Bool.true_or]; exact Ev.now _
  have hc2 : Ev (fun k => if kd p i = 5 ∨ kd p i = 6 then spec_inLoop.f k p i else some true) (!decide (kd p i = 5 ∨ kd p i = 6) || inLN p i (dp p i)) := by
    refine Ev.both (fun c => ?_) (fun c => ?_)
    · rw [decide_eq_true c]; simp only [Bool.not_true, Bool.false_or]; exact ev_inLoop hp hi
    · rw [decide_eq_false c]; simp only [Bool.not_false, Bool.true_or]; exact Ev.now _
  cases h4 : (!decide (kd p i = 7) || vcB ((chainT p i).map (kd p))) with
  | false =>
    rw [h4] at hc1
    refine ⟨false, e _ (Ev.bind hn (Ev.neg (by simp) (Ev.neg (by simp [h2]) (Ev.neg (by simp [h3]) (Ev.bind hc1 (Ev.pos rfl (Ev.now _))))))), ?_⟩
    simp at h4
    simp [h4]
  | true =>
  rw [h4] at hc1
  have g1 : kd p i = 7 → vcB ((chainT p i).map (kd p)) = true := by
    intro h; simpa [h] using h4
  cases h5 : (!decide (kd p i = 5 ∨ kd p i = 6) || inLN p i (dp p i)) with
  | false =>
    rw [h5] at hc2
    refine ⟨false, e _ (Ev.bind hn (Ev.neg (by simp) (Ev.neg (by simp [h2]) (Ev.neg (by simp [h3]) (Ev.bind hc1 (Ev.neg (by simp) (Ev.bind hc2 (Ev.pos rfl (Ev.now _))))))))), ?_⟩
    simp only [Bool.or_eq_false_iff, Bool.not_eq_false', decide_eq_true_eq] at h5
    constructor
    · intro h; cases h
    · rintro ⟨_, _, _, _, h, _⟩
      rw [h h5.1] at h5
      exact absurd h5.2 (by simp)
  | true =>
  rw [h5] at hc2
  have g2 : (kd p i = 5 ∨ kd p i = 6) → inLN p i (dp p i) = true := by
    intro h
    simp only [Bool.or_eq_true, Bool.not_eq_true', decide_eq_false_iff_not] at h5
    rcases h5 with h5 | h5
    · exact absurd h h5
    · exact h5
  have e2 := fun b hb => e b (Ev.bind hn (Ev.neg (by simp) (Ev.neg (by simp [h2]) (Ev.neg (by simp [h3]) (Ev.bind hc1 (Ev.neg (by simp) (Ev.bind hc2 (Ev.neg (by simp) hb))))))))
  cases h6 : isF (kd p i) with
  | false => exact ⟨true, e2 _ (Ev.pos h6 (Ev.now _)), ⟨fun _ => ⟨rfl, rfl, rfl, g1, g2, fun h => by cases h⟩, fun _ => rfl⟩⟩
  | true =>
  have hh := ev_headOf hp hi
  cases h7 : hdN p (dp p i) i with
  | none =>
    rw [h7] at hh
    exact ⟨false, e2 _ (Ev.neg (by simp [h6]) (Ev.bind hh (Ev.neg (by simp [oi]) (Ev.now _)))), by simp⟩
  | some m =>
    rw [h7] at hh
    have hm := (hdN_iff p _ i m).mp h7
    refine ⟨decide (kd p m = 7) || isF (kd p m), e2 _ (Ev.neg (by simp [h6]) (Ev.bind hh (Ev.pos (by simp [oi]) (Ev.pos (by simp only [oi]; omega) ?_)))), ?_⟩
    · simp only [oi, r1, eqd, sB]; exact Ev.now _
    · constructor
      · intro h
        exact ⟨rfl, rfl, rfl, g1, g2, fun _ => ⟨m, rfl, by simpa using h⟩⟩
      · rintro ⟨_, _, _, _, _, h⟩
        obtain ⟨m', x, y⟩ := h rfl
        injection x with x
        subst x
        simpa using y
def ValidP (t : List Cl) (p : List Ln) : Prop := treeB t = true ∧ p.length ≤ 24 ∧ ∀ i, i < p.length → LineOk t p i
theorem ev_validProgram {t : List Cl} {p : List Ln} (hp : p.length ≤ 1048576) (ht : TS t) : ∃ b, Ev (fun k => spec_validProgram.f k t p) b ∧ (b = true ↔ ValidP t p) := by
  have : ∀ (n i : Nat), p.length ≤ n + i → (∀ j, j < i → LineOk t p j) → ∃ b, Ev (fun k => spec_validProgram.l0 k p i t) b ∧ (b = true ↔ ValidP t p) := by
    intro n
    induction n with
    | zero =>
      intro i h hok
      have hv := ev_validTree ht
      have step : ∀ b : Bool, Ev (fun k => if (i : Int) < (p.length : Int) then ((spec_validLine.f k t p i).bind fun t156 => (if t156 = true then (spec_validProgram.l0 k p (wrap64 ((i : Int) + 1)) t) else (some false))) else ((spec_validTree.f k t).bind fun t155 => (if t155 = true then (some (decide ((p.length : Int) ≤ 24))) else (some false)))) b → Ev (fun k => spec_validProgram.l0 k p i t) b :=
        fun b hb => Ev.step (fun k => by rw [spec_validProgram.l0]) hb
      cases h1 : treeB t with
      | false =>
        rw [h1] at hv
        exact ⟨false, step _ (Ev.neg (by omega) (Ev.bind hv (Ev.neg (by simp) (Ev.now _)))), by simp [ValidP, h1]⟩
      | true =>
        rw [h1] at hv
        refine ⟨decide ((p.length : Int) ≤ 24), step _ (Ev.neg (by omega) (Ev.bind hv (Ev.pos rfl (Ev.now _)))), ?_⟩
        rw [decide_eq_true_eq]
        exact ⟨fun h2 => ⟨h1, by omega, fun j hj => hok j (by omega)⟩, fun h2 => by have := h2.2.1; omega⟩
    | succ n ih =>
      intro i h hok
      by_cases hi : i < p.length
      · obtain ⟨b, hb1, hb2⟩ := ev_validLine hp ht.1 hi (fun m hm => (hok m (by omega)).2.1)
        cases b with
        | false =>
          refine ⟨false, ?_, ?_⟩
          · refine Ev.step (fun k => by rw [spec_validProgram.l0]) ?_
            exact Ev.pos (by omega) (Ev.bind hb1 (Ev.neg (by simp) (Ev.now _)))
          constructor
          · intro h; cases h
          · intro h2; exact hb2.mpr (h2.2.2 i hi)
        | true =>
          obtain ⟨b, hc1, hc2⟩ := ih (i + 1) (by omega) (fun j hj => by
            by_cases hj2 : j = i
            · rw [hj2]; exact hb2.mp rfl
            · exact hok j (by omega))
          refine ⟨b, ?_, hc2⟩
          refine Ev.step (fun k => by rw [spec_validProgram.l0]) ?_
          refine Ev.pos (by omega) (Ev.bind hb1 (Ev.pos rfl ?_))
          rw [wS (by omega)]
          exact hc1
      · have hv := ev_validTree ht
        have step : ∀ b : Bool, Ev (fun k => if (i : Int) < (p.length : Int) then ((spec_validLine.f k t p i).bind fun t156 => (if t156 = true then (spec_validProgram.l0 k p (wrap64 ((i : Int) + 1)) t) else (some false))) else ((spec_validTree.f k t).bind fun t155 => (if t155 = true then (some (decide ((p.length : Int) ≤ 24))) else (some false)))) b → Ev (fun k => spec_validProgram.l0 k p i t) b :=
          fun b hb => Ev.step (fun k => by rw [spec_validProgram.l0]) hb
        cases h1 : treeB t with
        | false =>
          rw [h1] at hv
          exact ⟨false, step _ (Ev.neg (by omega) (Ev.bind hv (Ev.neg (by simp) (Ev.now _)))), by simp [ValidP, h1]⟩
        | true =>
          rw [h1] at hv
          refine ⟨decide ((p.length : Int) ≤ 24), step _ (Ev.neg (by omega) (Ev.bind hv (Ev.pos rfl (Ev.now _)))), ?_⟩
          rw [decide_eq_true_eq]
          exact ⟨fun h2 => ⟨h1, by omega, fun j hj => hok j (by omega)⟩, fun h2 => by have := h2.2.1; omega⟩
  exact this p.length 0 (by omega) (fun j hj => by omega)
def lastAt (p : List Ln) (i : Nat) : Ln := if i = 0 then ⟨-1, 7, 0, 0⟩ else p.getD (i - 1) z50
theorem ev_go {t : List Cl} {p : List Ln} (hp : p.length ≤ 1048576) (ht : t.length ≤ 1048576) : ∀ (r : List Ln) (i : Nat), p.drop i = r → i ≤ p.length →
    ∃ b, Ev (fun k => impl_ValidProgram.go k t r (lastAt p i)) (if b = true then some (lastAt p p.length) else none) ∧ (b = true ↔ ∀ j, i ≤ j → j < p.length → numB t (kd p j) (la p j) (lb p j) = true ∧ impl_ValidProgram.bad (p.getD j z50) (lastAt p j) = false)
  | [], i, h, hi => by
    have : p.length ≤ i := by simpa using h
    obtain rfl : i = p.length := by omega
    exact ⟨true, Ev.now _, ⟨fun _ j a b => by omega, fun _ => rfl⟩⟩
  | x :: r, i, h, hi => by
    have hlt : i < p.length := by
      rcases Nat.lt_or_ge i p.length with h1 | h1
      · exact h1
      · rw [List.drop_eq_nil_of_le h1] at h; cases h
    rw [List.drop_eq_getElem_cons hlt] at h
    injection h with h1 h2
    have hx : p.getD i z50 = x := by rw [List.getD_eq_getElem?_getD, List.getElem?_eq_getElem hlt, h1]; rfl
    have e : lastAt p (i + 1) = x := by rw [lastAt, if_neg (by omega)]; exact hx
    have hn := ev_argued ht x.f0 x.f1 x.f2 x.f3
    have hn2 : numB t x.f1 x.f2 x.f3 = numB t (kd p i) (la p i) (lb p i) := by unfold kd la lb; rw [hx]
    rw [hn2] at hn
    simp only [impl_ValidProgram.go]
    cases h3 : numB t (kd p i) (la p i) (lb p i) with
    | false =>
      rw [h3] at hn
      refine ⟨false, Ev.bind hn (Ev.pos rfl (Ev.now _)), ?_⟩
      constructor
      · intro h; cases h
      · intro h; have := (h i (Nat.le_refl _) hlt).1; rw [h3] at this; cases this
    | true =>
    rw [h3] at hn
    cases h4 : impl_ValidProgram.bad x (lastAt p i) with
    | true =>
      refine ⟨false, Ev.bind hn (Ev.neg (by simp) (Ev.pos rfl (Ev.now _))), ?_⟩
      constructor
      · intro h; cases h
      · intro h; have := (h i (Nat.le_refl _) hlt).2; rw [hx, h4] at this; cases this
    | false =>
      obtain ⟨b, hb1, hb2⟩ := ev_go hp ht r (i + 1) h2 (by omega)
      rw [e] at hb1
      refine ⟨b, Ev.bind hn (Ev.neg (by simp) (Ev.neg (by simp) hb1)), ?_⟩
      rw [hb2]
      constructor
      · intro h j a c
        by_cases hj : j = i
        · subst hj; exact ⟨h3, by rw [hx]; exact h4⟩
        · exact h j (by omega) c
      · intro h j a c; exact h j (by omega) c
theorem bad_iff {p : List Ln} : ((∀ j, j < p.length → impl_ValidProgram.bad (p.getD j z50) (lastAt p j) = false) ∧ (∀ i, i + 1 = p.length → isO (kd p i) = false)) ↔ ((∀ j, j < p.length → bw (dp p j) 0 5 = true) ∧ DR p) := by
  have key : ∀ j, j < p.length → (impl_ValidProgram.bad (p.getD j z50) (lastAt p j) = false ↔ (bw (dp p j) 0 5 = true ∧ (j = 0 → dp p 0 = 0) ∧ ∀ m, j = m + 1 → (isO (kd p m) = true → dp p j = dp p m + 1) ∧ (isO (kd p m) = false → dp p j ≤ dp p m))) := by
    intro j hj
    unfold impl_ValidProgram.bad
    rw [show (p.getD j z50).f0 = dp p j from rfl, show inB (dp p j) 0 5 = bw (dp p j) 0 5 from rfl]
    by_cases h0 : j = 0
    · subst h0
      rw [lastAt, if_pos rfl]
      have e7 : inB 7 7 12 = true := by decide
      simp only [e7, Bool.true_and, Bool.not_true, Bool.false_and, Bool.or_false, Bool.or_eq_false_iff, Bool.not_eq_false', decide_eq_false_iff_not]
      constructor
      · rintro ⟨a, b⟩; exact ⟨a, fun _ => by omega, fun m hm => by omega⟩
      · rintro ⟨a, b, _⟩; exact ⟨a, by have := b (by simp); omega⟩
    · obtain ⟨m, rfl⟩ : ∃ m, j = m + 1 := ⟨j - 1, by omega⟩
      rw [lastAt, if_neg h0, Nat.add_sub_cancel, show (p.getD m z50).f0 = dp p m from rfl, show inB (p.getD m z50).f1 7 12 = isO (kd p m) from rfl]
      cases ho : isO (kd p m) with
      | true =>
        simp only [Bool.true_and, Bool.not_true, Bool.false_and, Bool.or_false, Bool.or_eq_false_iff, Bool.not_eq_false', decide_eq_false_iff_not]
        constructor
        · rintro ⟨a, b⟩
          refine ⟨a, fun h => by omega, fun m' hm => ?_⟩
          obtain rfl : m' = m := by omega
          exact ⟨fun _ => by omega, fun h => (by rw [ho] at h; cases h)⟩
        · rintro ⟨a, _, b⟩; exact ⟨a, by have := (b m rfl).1 ho; omega⟩
      | false =>
        simp only [Bool.false_and, Bool.not_false, Bool.true_and, Bool.or_false, Bool.or_eq_false_iff, Bool.not_eq_false', decide_eq_false_iff_not]
        constructor
        · rintro ⟨a, b⟩
          refine ⟨a, fun h => by omega, fun m' hm => ?_⟩
          obtain rfl : m' = m := by omega
          exact ⟨fun h => (by rw [ho] at h; cases h), fun _ => by omega⟩
        · rintro ⟨a, _, b⟩; exact ⟨a, by have := (b m rfl).2 ho; omega⟩
  constructor
  · rintro ⟨h1, h2⟩
    refine ⟨fun j hj => ((key j hj).mp (h1 j hj)).1, fun h0 => ((key 0 h0).mp (h1 0 h0)).2.1 rfl, fun i hi ho => (((key _ hi).mp (h1 _ hi)).2.2 i rfl).1 ho, fun i hi ho => (((key _ hi).mp (h1 _ hi)).2.2 i rfl).2 ho, h2⟩
  · rintro ⟨h1, h2⟩
    refine ⟨fun j hj => (key j hj).mpr ⟨h1 j hj, fun h0 => h2.first (by omega), fun m hm => ?_⟩, h2.last⟩
    subst hm
    exact ⟨h2.deeper m hj, h2.none m hj⟩
theorem ValidP_iff {t : List Cl} {p : List Ln} : ValidP t p ↔ treeB t = true ∧ p.length ≤ 24 ∧ (∀ j, j < p.length → numB t (kd p j) (la p j) (lb p j) = true) ∧ ((∀ j, j < p.length → bw (dp p j) 0 5 = true) ∧ DR p) ∧ ∀ j, j < p.length → Good p 0 false j := by
  constructor
  · rintro ⟨a, b, c⟩
    exact ⟨a, b, fun j hj => (c j hj).1, ⟨fun j hj => (c j hj).2.1, (off_DR p).mp fun j hj => (c j hj).2.2.1⟩, fun j hj => (c j hj).2.2.2⟩
  · rintro ⟨a, b, c, ⟨e, f⟩, g⟩
    exact ⟨a, b, fun j hj => ⟨c j hj, e j hj, (off_DR p).mpr f j hj, g j hj⟩⟩
theorem ev_ValidProgram {t : List Cl} {p : List Ln} (hp : p.length ≤ 1048576) (ht : TS t) : ∃ b, Ev (fun k => impl_ValidProgram.f k t p) b ∧ (b = true ↔ ValidP t p) := by
  rw [ValidP_iff]
  unfold impl_ValidProgram.f
  have hv := ev_ValidTree ht
  cases h1 : treeB t with
  | false => rw [h1] at hv; exact ⟨false, Ev.bind hv (Ev.pos rfl (Ev.now _)), by simp⟩
  | true =>
  rw [h1] at hv
  by_cases h2 : 24 < p.length
  · refine ⟨false, Ev.bind hv (Ev.neg (by simp) (Ev.pos h2 (Ev.now _))), ?_⟩
    constructor
    · intro h; cases h
    · rintro ⟨_, h, _⟩; omega
  obtain ⟨b, hb1, hb2⟩ := ev_go (t := t) (p := p) hp ht.1 p 0 rfl (by omega)
  rw [show lastAt p 0 = ⟨-1, 7, 0, 0⟩ from rfl] at hb1
  have hb2' : b = true ↔ ((∀ j, j < p.length → numB t (kd p j) (la p j) (lb p j) = true) ∧ ∀ j, j < p.length → impl_ValidProgram.bad (p.getD j z50) (lastAt p j) = false) := by
    rw [hb2]
    exact ⟨fun h => ⟨fun j hj => (h j (by omega) hj).1, fun j hj => (h j (by omega) hj).2⟩, fun h j _ hj => ⟨h.1 j hj, h.2 j hj⟩⟩
  cases b with
  | false =>
    refine ⟨false, Ev.bind hv (Ev.neg (by simp) (Ev.neg h2 (Ev.bind hb1 (Ev.now _)))), ?_⟩
    constructor
    · intro h; cases h
    · rintro ⟨_, _, h3, h4, _⟩
      exact hb2'.mpr ⟨h3, (bad_iff.mpr h4).1⟩
  | true =>
    obtain ⟨hn, hbad⟩ := hb2'.mp rfl
    rw [if_pos rfl] at hb1
    have hbk : ((∀ i, i + 1 = p.length → isO (kd p i) = false)) → ∃ b, Ev (fun k => impl_blockOk.f k p 0 (p.length : Int) false) b ∧ (b = true ↔ true = true ∧ p.length ≤ 24 ∧ (∀ j, j < p.length → numB t (kd p j) (la p j) (lb p j) = true) ∧ ((∀ j, j < p.length → bw (dp p j) 0 5 = true) ∧ DR p) ∧ ∀ j, j < p.length → Good p 0 false j) := by
      intro hlast
      obtain ⟨g1, g2⟩ := bad_iff.mp ⟨hbad, hlast⟩
      have hl : ∀ j, j < p.length → 0 ≤ dp p j := fun j hj => (bw_iff.mp (g1 j hj)).1
      refine ⟨_, ev_blockOk hp g2 hl, ?_⟩
      rw [bOk_iff g2 p.length 0 0 0 p.length false (Blk.all g2 hl) (by omega) (fun _ _ m a b => by omega)]
      exact ⟨fun h => ⟨rfl, by omega, hn, ⟨g1, g2⟩, fun j hj => h j (by omega) hj⟩, fun h j _ hj => h.2.2.2.2 j hj⟩
    by_cases h3 : p.length = 0
    · obtain ⟨b, hc1, hc2⟩ := hbk (fun i hi => by omega)
      exact ⟨b, Ev.bind hv (Ev.neg (by simp) (Ev.neg h2 (Ev.bind hb1 (Ev.pos h3 hc1)))), hc2⟩
    · have hla : inB (lastAt p p.length).f1 7 12 = isO (kd p (p.length - 1)) := by rw [lastAt, if_neg h3]; rfl
      cases h4 : isO (kd p (p.length - 1)) with
      | true =>
        refine ⟨false, Ev.bind hv (Ev.neg (by simp) (Ev.neg h2 (Ev.bind hb1 (Ev.neg h3 (Ev.pos (by rw [hla]; exact h4) (Ev.now _)))))), ?_⟩
        constructor
        · intro h; cases h
        · rintro ⟨_, _, _, ⟨_, h⟩, _⟩
          have := h.last (p.length - 1) (by omega)
          rw [h4] at this; cases this
      | false =>
        obtain ⟨b, hc1, hc2⟩ := hbk (fun i hi => by rw [show i = p.length - 1 from by omega]; exact h4)
        exact ⟨b, Ev.bind hv (Ev.neg (by simp) (Ev.neg h2 (Ev.bind hb1 (Ev.neg h3 (Ev.neg (by rw [hla, h4]; simp) hc1))))), hc2⟩
noncomputable def vB (t : List Cl) (p : List Ln) : Bool := @decide (ValidP t p) (Classical.propDecidable _)
theorem vB_iff {t : List Cl} {p : List Ln} : vB t p = true ↔ ValidP t p := by simp [vB]
theorem sValid {t : List Cl} {p : List Ln} (hp : p.length ≤ 1048576) (ht : TS t) : Ev (fun k => spec_validProgram.f k t p) (vB t p) := by
  obtain ⟨b, h1, h2⟩ := ev_validProgram hp ht
  have : vB t p = b := by rw [Bool.eq_iff_iff, vB_iff, h2]
  rw [this]; exact h1
theorem iValid {t : List Cl} {p : List Ln} (hp : p.length ≤ 1048576) (ht : TS t) : Ev (fun k => impl_ValidProgram.f k t p) (vB t p) := by
  obtain ⟨b, h1, h2⟩ := ev_ValidProgram hp ht
  have : vB t p = b := by rw [Bool.eq_iff_iff, vB_iff, h2]
  rw [this]; exact h1
end Go.Proofs.Ytbclgpgolbmlpaa.Pure
end
