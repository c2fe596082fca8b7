/- One part of the proofs on this program: functions of the program as plain functions, that the code comes to them, and facts on them. -/
import Derived.Test.YtlhfcmbkjddgiaaYAll1
import Derived.Test.YtlhfcmbkjddgiaaYMx
section
set_option linter.unusedSimpArgs false
set_option linter.unusedVariables false
namespace Go.Proofs.Ytlhfcmbkjddgiaa.Pure
open Go Go.RowKit Go.Proofs.Ytlhfcmbkjddgiaa.P Go.Proofs.YtlhfcmbkjddgiaaW.PrintWords
set_option linter.unusedVariables false
def Rd (s : List Int) : Prop := s.length ≤ 2000 ∧ ∀ x ∈ s, 0 ≤ x ∧ x ≤ 255
theorem rd_bound {s : List Int} (hs : ∀ x ∈ s, 0 ≤ x ∧ x ≤ 255) (i : Int) : 0 ≤ rd s i ∧ rd s i ≤ 255 := by
 unfold rd
 rw [List.getD_eq_getElem?_getD]
 cases h:s[i.toNat]? with
 | none=>simp
 | some v=>simpa using hs v (List.mem_of_getElem? h)
theorem xor_nonneg {a b : Int} (ha : 0 ≤ a) (hb : 0 ≤ b) (ha2 : a < 4611686018427387904) (hb2 : b < 4611686018427387904) : 0 ≤ Go.bits .xor .i64 a b ∧ Go.bits .xor .i64 a b < 9223372036854775808 := by
 obtain ⟨m,rfl⟩:=Int.eq_ofNat_of_zero_le ha
 obtain ⟨n,rfl⟩:=Int.eq_ofNat_of_zero_le hb
 have hm:m<2 ^ 62:=by omega
 have hn:n<2 ^ 62:=by omega
 have hp:(2:Nat) ^ 62≤2 ^ IntKind.i64.bits:=by decide
 have ha':m % 2 ^ IntKind.i64.bits=m:=Nat.mod_eq_of_lt (Nat.lt_of_lt_of_le hm hp)
 have hb':n % 2 ^ IntKind.i64.bits=n:=Nat.mod_eq_of_lt (Nat.lt_of_lt_of_le hn hp)
 have hx:=Nat.xor_lt_two_pow hm hn
 have e:Go.bits .xor .i64 (m:Int) (n:Int)=((m ^^^ n:Nat):Int):=by
  simp only [bits,BitVec.ofInt_natCast,BitVec.toNat_xor,BitVec.toNat_ofNat,ha',hb']
  rw [IntKind.wrap_i64]
  omega
 rw [e]
 omega
theorem tmod_range {x n : Int} (hx : 0 ≤ x) (hn : 0 < n) : 0 ≤ Int.tmod x n ∧ Int.tmod x n < n := by
 rw [Int.tmod_eq_emod_of_nonneg hx]
 exact ⟨Int.emod_nonneg _ (by omega),Int.emod_lt_of_pos _ hn⟩
theorem jBc {s : List Int} (hs : Rd s) {p : Int} (h0 : 0 ≤ p) (h1 : p ≤ 1099511627776) (n : Int) (hn2 : n ≤ 1099511627776) : ∃ v, Ev (fun k => jA.f k s p n) (v, p + 1) ∧ 0 ≤ v ∧ (1 ≤ n → v < n) ∧ (n < 1 → v = 0) := by
 have hl:=hs.1
 unfold jA.f
 rw [wr (x:=p+1) (by omega),eqd]
 have stop:Ev (fun k=>jA.j0 k n true s (p+1)) (0,p+1):=by
  refine Ev.step (fun k=>by rw [jA.j0]) ?_
  exact Ev.pos rfl (Ev.now _)
 by_cases hn:n<1
 ·exact ⟨0,Ev.pos hn stop,by omega,fun h=>by omega,fun _=>rfl⟩
 by_cases hz:(s.length:Int)=0
 ·rw [decide_eq_true hz]
  exact ⟨0,Ev.neg hn stop,by omega,fun h=>by omega,fun h=>rfl⟩
 rw [decide_eq_false hz]
 by_cases hp:p<(s.length:Int)
 ·obtain ⟨b0,b1⟩:=rd_bound hs.2 p
  obtain ⟨t0,t1⟩:=tmod_range (x:=rd s p) (n:=n) b0 (by omega)
  refine ⟨Int.tmod (rd s p) n,Ev.neg hn ?_,t0,fun _=>t1,fun h=>by omega⟩
  refine Ev.step (fun k=>by rw [jA.j0]) ?_
  rw [wr (x:=p+1 - 1) (by omega),show p+1 - 1=p from by omega,wr (x:=rd s p) (by omega)]
  exact Ev.neg (by simp) (Ev.pos hp (Ev.pos h0 (Ev.neg (by omega) (Ev.now _))))
 ·obtain ⟨u0,u1⟩:=tmod_range (x:=p) (n:=(s.length:Int)) h0 (by omega)
  obtain ⟨v0,v1⟩:=tmod_range (x:=p * 7+3) (n:=(s.length:Int)) (by omega) (by omega)
  obtain ⟨b0,b1⟩:=rd_bound hs.2 (Int.tmod p (s.length:Int))
  obtain ⟨c0,c1⟩:=rd_bound hs.2 (Int.tmod (p * 7+3) (s.length:Int))
  have d0:0≤Int.tdiv p (s.length:Int):=Int.tdiv_nonneg h0 (by omega)
  have d1:Int.tdiv p (s.length:Int)≤p:=by
   rw [Int.tdiv_eq_ediv_of_nonneg h0]
   exact Int.ediv_le_self _ h0
  generalize hx:rd s (Int.tmod p (s.length:Int)) * 131+rd s (Int.tmod (p * 7+3) (s.length:Int)) * 1117+p * 29+Int.tdiv p (s.length:Int) * 53=x
  have hx0:0≤x:=by omega
  have hx1:x≤1099511627776 * 100:=by omega
  have e0:0≤Int.tdiv x 64:=Int.tdiv_nonneg hx0 (by omega)
  have e1:Int.tdiv x 64≤x:=by
   rw [Int.tdiv_eq_ediv_of_nonneg hx0]
   exact Int.ediv_le_self _ hx0
  obtain ⟨y0,y1⟩:=xor_nonneg hx0 e0 (by omega) (by omega)
  obtain ⟨t0,t1⟩:=tmod_range (n:=n) y0 (by omega)
  refine ⟨Int.tmod (Go.bits .xor .i64 x (Int.tdiv x 64)) n,Ev.neg hn ?_,t0,fun _=>t1,fun h=>by omega⟩
  refine Ev.step (fun k=>by rw [jA.j0]) ?_
  rw [wr (x:=p+1 - 1) (by omega),show p+1 - 1=p from by omega,wr (x:=p * 7) (by omega),wr (x:=p * 7+3) (by omega),wr (x:=rd s (Int.tmod p (s.length:Int))) (by omega),wr (x:=rd s (Int.tmod (p * 7+3) (s.length:Int))) (by omega),
   wr (x:=rd s (Int.tmod p (s.length:Int)) * 131) (by omega),wr (x:=rd s (Int.tmod (p * 7+3) (s.length:Int)) * 1117) (by omega),wr (x:=rd s (Int.tmod p (s.length:Int)) * 131+rd s (Int.tmod (p * 7+3) (s.length:Int)) * 1117) (by omega),
   wr (x:=p * 29) (by omega),wr (x:=rd s (Int.tmod p (s.length:Int)) * 131+rd s (Int.tmod (p * 7+3) (s.length:Int)) * 1117+p * 29) (by omega),wr (x:=Int.tdiv p (s.length:Int)) (by omega),wr (x:=Int.tdiv p (s.length:Int) * 53) (by omega),hx,
   wr (x:=x) (by omega),wr (x:=Int.tdiv x 64) (by omega)]
  exact Ev.neg (by simp) (Ev.neg hp (Ev.neg hz (Ev.pos u0 (Ev.pos u1 (Ev.pos v0 (Ev.pos v1 (Ev.neg (by omega) (Ev.now _))))))))
theorem ev_one {s : List Int} (hs : Rd s) {p : Int} (h0 : 0 ≤ p) (h1 : p ≤ 1099511627776) (l : List Int) (hl : 1 ≤ l.length) (hl2 : l.length ≤ 1000) : ∃ v, Ev (fun k => jG.f k s p l) (v, p + 1) ∧ v ∈ l := by
 obtain ⟨v,e,v0,v1,_⟩:=jBc hs h0 h1 (l.length:Int) (by omega)
 have:=v1 (by omega)
 refine ⟨rd l v,?_,?_⟩
 ·unfold jG.f
  exact Ev.bind e (Ev.pos v0 (Ev.pos this (Ev.now _)))
 ·unfold rd
  rw [List.getD_eq_getElem?_getD,List.getElem?_eq_getElem (by omega)]
  exact List.getElem_mem _
theorem newReader_eq {code : List Int} (hc : ∀ x ∈ code, 0 ≤ x ∧ x ≤ 255) : ∃ s, jsb.f code = some (s, 0) ∧ Rd s := by
 unfold jsb.f
 by_cases h:(code.length:Int) > 2000
 ·rw [if_pos h,if_pos (by omega)]
  exact ⟨_,rfl,by rw [List.length_take];omega,fun x hx=>hc x (List.mem_of_mem_take hx)⟩
 ·rw [if_neg h]
  exact ⟨_,rfl,by omega,hc⟩
theorem bytes_of {l : List Int} (h : ∀ x ∈ l, (Lit.int .u8 x).wf = true) : ∀ x ∈ l, 0 ≤ x ∧ x ≤ 255 := by
 intro x hx
 have:=h x hx
 simp [Lit.wf,IntKind.min,IntKind.max,IntKind.signed,IntKind.bits] at this
 omega
end Go.Proofs.Ytlhfcmbkjddgiaa.Pure
end
