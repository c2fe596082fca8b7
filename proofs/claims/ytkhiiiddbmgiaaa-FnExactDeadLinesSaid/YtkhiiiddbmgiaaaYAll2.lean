/- One part of the proofs on this program: functions of the program as plain functions, that the code comes to them, and facts on them. -/
import Derived.Test.YtkhiiiddbmgiaaaYAll1
import Derived.Test.YtkhiiiddbmgiaaaYWAuto
section
namespace Go.Proofs.Ytkhiiiddbmgiaaa.P
open Go.RowKit Go.Proofs.YtkhiiiddbmgiaaaW.PrintWords Go.Proofs.YtkhiiiddbmgiaaaW.PrintLast Go.Proofs.YtkhiiiddbmgiaaaW.PrintMore
attribute [local go_sem] jU jS jia jha jM jL jT jR jc
set_option linter.unusedVariables false
set_option linter.unusedSimpArgs false
def jI.l0 : Nat → List (S52) → Int → Int → Option (Int × (List (S52)))
 | 0,_,_,_=>none
 | k+1,x0,x1,x5=>if x5<(x0.length:Int) then (if 0≤x5 then ((some (x0.set (x5:Int).toNat (⟨x1,(jb x0 x5).f1,(jb x0 x5).f2,(jb x0 x5).f3⟩:S52):List (S52))).bind fun y290=>((some (y290.set (x5:Int).toNat (⟨(jb y290 x5).f0,wrap64 (x1+1),(jb y290 x5).f2,(jb y290 x5).f3⟩:S52):List (S52))).bind fun y291=>((some (y291.set (x5:Int).toNat (⟨(jb y291 x5).f0,(jb y291 x5).f1,wrap64 ((wrap64 (x1+1))+1),(jb y291 x5).f3⟩:S52):List (S52))).bind fun y292=>(jI.l0 k (y292.set (x5:Int).toNat (⟨(jb y292 x5).f0,(jb y292 x5).f1,(jb y292 x5).f2,wrap64 ((wrap64 ((wrap64 (x1+1))+1))+1)⟩:S52)) (wrap64 ((wrap64 ((wrap64 ((wrap64 (x1+1))+1))+1))+1)) (wrap64 (x5+1)))))) else (none)) else (some (x1,x0))
def jI.f (k : Nat) (l0 : List (S52)) (a1 : Int) : Option (Int × (List (S52))) := jI.l0 k l0 a1 0
set_option maxHeartbeats 8000000 in
set_option maxRecDepth 100000 in
theorem jI.calls (k : Nat) (P0_ : Nat → Prop) (u9000_ : Value) (l0 : List (S52)) (a1 : Int) (r1 : Int) (r2 : List (S52)) (w0 w : World) (hB : Below w0.heap.size w0 w) (ho0 : Kd.R k52 52 w w0.heap.size P0_ u9000_ l0) (h : jI.f k l0 a1 = some (r1, r2)) :
  Calls Try.prog 16 #[u9000_, .int .i64 a1] w fun e w'=>e=.returned (.int .i64 r1)∧Kd.R k52 52 w' w0.heap.size (fun k_=>(P0_ k_∨w.heap.size≤k_)) u9000_ r2∧Below w0.heap.size w0 w'∧Kept w w' (fun k_=>P0_ k_):=by
 have HO0:=am (show Kd.R k52 52 w w0.heap.size (fun k_=>(P0_ k_∨w.heap.size≤k_)) u9000_ l0 from Kd.jSa ho0 (fun k_ hk=>(.inl hk)))
 have HK:=am (Kept.refl w (fun k_=>P0_ k_))
 have HW0:=am hB.size
 have HB:=am hB
 clear hB
 have H:(jI.l0 k l0 a1 0)=some (r1,r2):=h
 clear h
 have H':=am H
 clear H
 go_enter Try.func16,Try.ntmps16
 go_wp2
 go_loopg [1,5] k (fun kq v1 v5 w'=>∃ (x0_1:List (S52)) (x1_1:Int) (x5_1:Int),v1=.int .i64 x1_1∧v5=.int .i64 x5_1∧jk (jI.l0 kq x0_1 x1_1 x5_1=some (r1,r2))∧jk (kq≤k)∧jk (Kd.R k52 52 w' w0.heap.size (fun k_=>(P0_ k_∨w.heap.size≤k_)) u9000_ x0_1)∧jk (Kept w w' (fun k_=>P0_ k_))∧jk (Below w0.heap.size w0 w'))
 case atStart=>exact ⟨(l0),(a1),(0),(sq),(sq),H',⟨Nat.le_refl _⟩,⟨rq HO0.out⟩,⟨Y7⟩,⟨bq⟩⟩
 case round =>
  clear H'
  try clear c1
  try clear p2
  obtain ⟨x0_1,x1_1,x5_1,rfl,rfl,HA,HK1,HO_0,HK,HB⟩:=hrel
  cases gk with
  | zero=>exact absurd HA.out (by simp [jI.l0])
  | succ k1 =>
   have H:=HA.out
   clear HA
   simp only [jI.l0] at H
   by_cases c3:x5_1<(x0_1.length:Int)
   ·rw [if_pos c3] at H
    have c3b0:decide (x5_1<(x0_1.length:Int))=true:=dzT c3
    clear c3
    by_cases c4:0≤x5_1
    ·rw [if_pos c4] at H
     have c4b0:decide (0≤x5_1)=true:=dzT c4
     clear c4
     obtain ⟨y290,hy290⟩:∃ y_:List (S52),y_=(x0_1.set (x5_1:Int).toNat (⟨x1_1,(jb x0_1 x5_1).f1,(jb x0_1 x5_1).f2,(jb x0_1 x5_1).f3⟩:S52)):=⟨_,rfl⟩
     replace H:((some (y290.set (x5_1:Int).toNat (⟨(jb y290 x5_1).f0,wrap64 (x1_1+1),(jb y290 x5_1).f2,(jb y290 x5_1).f3⟩:S52):List (S52))).bind fun y291=>((some (y291.set (x5_1:Int).toNat (⟨(jb y291 x5_1).f0,(jb y291 x5_1).f1,wrap64 ((wrap64 (x1_1+1))+1),(jb y291 x5_1).f3⟩:S52):List (S52))).bind fun y292=>(jI.l0 k1 (y292.set (x5_1:Int).toNat (⟨(jb y292 x5_1).f0,(jb y292 x5_1).f1,(jb y292 x5_1).f2,wrap64 ((wrap64 ((wrap64 (x1_1+1))+1))+1)⟩:S52)) (wrap64 ((wrap64 ((wrap64 ((wrap64 (x1_1+1))+1))+1))+1)) (wrap64 (x5_1+1)))))=some (r1,r2):=by first |(rw [hy290];with_reducible exact H) |(have H2_:=(Option.bind_some _ _).symm.trans H;rw [hy290];with_reducible exact H2_) |(have H2_:=(Option.bind_some _ _).symm.trans H;with_reducible exact H2_) | with_reducible exact H |(rw [hy290];exact H) | exact H
     have Ny290:=am hy290
     clear hy290
     obtain ⟨y291,hy291⟩:∃ y_:List (S52),y_=(y290.set (x5_1:Int).toNat (⟨(jb y290 x5_1).f0,wrap64 (x1_1+1),(jb y290 x5_1).f2,(jb y290 x5_1).f3⟩:S52)):=⟨_,rfl⟩
     replace H:((some (y291.set (x5_1:Int).toNat (⟨(jb y291 x5_1).f0,(jb y291 x5_1).f1,wrap64 ((wrap64 (x1_1+1))+1),(jb y291 x5_1).f3⟩:S52):List (S52))).bind fun y292=>(jI.l0 k1 (y292.set (x5_1:Int).toNat (⟨(jb y292 x5_1).f0,(jb y292 x5_1).f1,(jb y292 x5_1).f2,wrap64 ((wrap64 ((wrap64 (x1_1+1))+1))+1)⟩:S52)) (wrap64 ((wrap64 ((wrap64 ((wrap64 (x1_1+1))+1))+1))+1)) (wrap64 (x5_1+1))))=some (r1,r2):=by first |(rw [hy291];with_reducible exact H) |(have H2_:=(Option.bind_some _ _).symm.trans H;rw [hy291];with_reducible exact H2_) |(have H2_:=(Option.bind_some _ _).symm.trans H;with_reducible exact H2_) | with_reducible exact H |(rw [hy291];exact H) | exact H
     have Ny291:=am hy291
     clear hy291
     obtain ⟨y292,hy292⟩:∃ y_:List (S52),y_=(y291.set (x5_1:Int).toNat (⟨(jb y291 x5_1).f0,(jb y291 x5_1).f1,wrap64 ((wrap64 (x1_1+1))+1),(jb y291 x5_1).f3⟩:S52)):=⟨_,rfl⟩
     replace H:(jI.l0 k1 (y292.set (x5_1:Int).toNat (⟨(jb y292 x5_1).f0,(jb y292 x5_1).f1,(jb y292 x5_1).f2,wrap64 ((wrap64 ((wrap64 (x1_1+1))+1))+1)⟩:S52)) (wrap64 ((wrap64 ((wrap64 ((wrap64 (x1_1+1))+1))+1))+1)) (wrap64 (x5_1+1)))=some (r1,r2):=by first |(rw [hy292];with_reducible exact H) |(have H2_:=(Option.bind_some _ _).symm.trans H;rw [hy292];with_reducible exact H2_) |(have H2_:=(Option.bind_some _ _).symm.trans H;with_reducible exact H2_) | with_reducible exact H |(rw [hy292];exact H) | exact H
     have Ny292:=am hy292
     clear hy292
     obtain ⟨y293,hy293⟩:∃ y_:List (S52),y_=(y292.set (x5_1:Int).toNat (⟨(jb y292 x5_1).f0,(jb y292 x5_1).f1,(jb y292 x5_1).f2,wrap64 ((wrap64 ((wrap64 (x1_1+1))+1))+1)⟩:S52)):=⟨_,rfl⟩
     replace H:(jI.l0 k1 y293 (wrap64 ((wrap64 ((wrap64 ((wrap64 (x1_1+1))+1))+1))+1)) (wrap64 (x5_1+1)))=some (r1,r2):=by first |(rw [hy293];with_reducible exact H) |(have H2_:=(Option.bind_some _ _).symm.trans H;rw [hy293];with_reducible exact H2_) |(have H2_:=(Option.bind_some _ _).symm.trans H;with_reducible exact H2_) | with_reducible exact H |(rw [hy293];exact H) | exact H
     have Ny293:=am hy293
     clear hy293
     have H':=am H
     clear H
     obtain ⟨Ao9,co9,eo9⟩:=Kd.jGa HO_0.out
     subst eo9
     have p5:0≤(x5_1:Int):=ozD (uq)
     have q5:(x5_1:Int)<((x0_1.length:Int):Int):=ozD (uq)
     obtain ⟨go5,co5,eo5,gb5,gl5,cl5,HG5⟩:=Kd.R_form HO_0.out (by omega)
     (first | cases eo5 |(injection eo5 with ea_ en_ ec_;(first | subst ea_ |(injection ea_ with ea_;subst ea_));subst ec_;clear en_))
     have GB5:=am gb5
     have GG5:=am HG5
     clear gb5 gl5 HG5
     have HMgo5:=am (show (P0_ go5∨w.heap.size≤go5) from (HO_0.out.1 _ rfl))
     obtain ⟨ce5,hcl5,hM5,hcc5,hfr5⟩:=Kd.jYb HO_0.out z52 (x5_1:Int) p5 q5
     obtain rfl:=jFb hM5
     have hx5_0:wr.cell? ⟨go5,(x5_1:Int).toNat * 4,none⟩=some (.int .i64 ((jb x0_1 x5_1).f0)):=hcc5 0 _ rfl
     have hx5_1:wr.cell? ⟨go5,(x5_1:Int).toNat * 4+1,none⟩=some (.int .i64 ((jb x0_1 x5_1).f1)):=hcc5 1 _ rfl
     have hx5_2:wr.cell? ⟨go5,(x5_1:Int).toNat * 4+2,none⟩=some (.int .i64 ((jb x0_1 x5_1).f2)):=hcc5 2 _ rfl
     have hx5_3:wr.cell? ⟨go5,(x5_1:Int).toNat * 4+3,none⟩=some (.int .i64 ((jb x0_1 x5_1).f3)):=hcc5 3 _ rfl
     have hf5_0:wr.frozen? ⟨go5,(x5_1:Int).toNat * 4,none⟩=false:=hfr5 0
     have hf5_1:wr.frozen? ⟨go5,(x5_1:Int).toNat * 4+1,none⟩=false:=hfr5 1
     have hf5_2:wr.frozen? ⟨go5,(x5_1:Int).toNat * 4+2,none⟩=false:=hfr5 2
     have hf5_3:wr.frozen? ⟨go5,(x5_1:Int).toNat * 4+3,none⟩=false:=hfr5 3
     clear hcl5 hcc5 hfr5 hM5
     replace p5:=ezT p5
     replace q5:=ezT q5
     have HX10:=am (show Kd.R k52 52 wr w0.heap.size (fun k_=>(P0_ k_∨w.heap.size≤k_)) (.slice (some ⟨go5,0,none⟩) x0_1.length co9) x0_1 from (rq HO_0.out))
     obtain ⟨ce10,hcl10,hM10,hcc10,hfr10⟩:=Kd.jYb HX10.out z52 (x5_1:Int) (ozD (uq)) (by have h_:(x5_1:Int)<((x0_1.length:Int):Int):=ozD (uq);first | exact h_ |(have e_:=(Kd.jA HO_0.out).1;omega) | simpa using h_)
     obtain rfl:=jFb hM10
     have HP10:=Kd.R_seg HX10.out (x5_1:Int) (ozD (uq)) (by have h_:(x5_1:Int)<((x0_1.length:Int):Int):=ozD (uq);first | exact h_ |(have e_:=(Kd.jA HO_0.out).1;omega) | simpa using h_) (seg:=[.int .i64 x1_1]) (j:=0) hcl10 hcc10 (show 1≤4 from by decide) (x':=(⟨x1_1,(jb x0_1 x5_1).f1,(jb x0_1 x5_1).f2,(jb x0_1 x5_1).f3⟩:S52)) (k52_mkM _ _ _ (⟨x1_1,(jb x0_1 x5_1).f1,(jb x0_1 x5_1).f2,(jb x0_1 x5_1).f3⟩:S52) ) (fun _ hk=>hk)
     have hx10_0:=hcc10 0 _ rfl
     (try simp only [show (k52).sz=4 from rfl,Nat.mul_one,Nat.add_zero] at hx10_0)
     have hf10_0:=hfr10 0
     (try simp only [show (k52).sz=4 from rfl,Nat.mul_one,Nat.add_zero] at hf10_0)
     clear hcl10 hcc10 hfr10 hM10
     go_wp2_with (first |((with_reducible refine jBb (t:=3) (p:=16) rfl ?_);refine jqb (t:=3) (p:=16) (v:=?vo_w11) (w1:=(wr.setCell ⟨go5,(x5_1:Int).toNat * 4,none⟩ (.int .i64 x1_1))) ?hg ?ho ?hn ?hr ?_;(case ho=>rfl);(case hg=>rfl);(case hn=>rfl);(case hr=>exact Y4);intro w11 hw;have hg:wr.grownBy w11 (some go5):=(by rw [hw];exact HP10.2);have hp_:Kd.R k52 52 w11 w0.heap.size (fun k_=>(P0_ k_∨w.heap.size≤k_)) (.slice (some ⟨go5,0,none⟩) x0_1.length co9) y290:=(by rw [hw,Ny290.out];exact HP10.1);clear HP10;replace HB:=am ((by rw [hw];exact jw (HB.out) GB5.out:Below w0.heap.size w0 w11));replace HK:=am (Kept.jec (S:=(fun k_=>P0_ k_)) hg (Y7) (fun k_ e_=>(HO_0.out.1 k_ e_)));replace HO_0:=am (hp_);clear hg hw hp_;have p6:0≤(x5_1:Int):=ozD (uq);have q6:(x5_1:Int)<((x0_1.length:Int):Int):=ozD (uq);obtain ⟨ce6,hcl6,hM6,hcc6,hfr6⟩:=Kd.jYb HO_0.out z52 (x5_1:Int) p6 q6;obtain rfl:=jFb hM6;have hx6_0:w11.cell? ⟨go5,(x5_1:Int).toNat * 4,none⟩=some (.int .i64 ((jb y290 x5_1).f0)):=hcc6 0 _ rfl;have hx6_1:w11.cell? ⟨go5,(x5_1:Int).toNat * 4+1,none⟩=some (.int .i64 ((jb y290 x5_1).f1)):=hcc6 1 _ rfl;have hx6_2:w11.cell? ⟨go5,(x5_1:Int).toNat * 4+2,none⟩=some (.int .i64 ((jb y290 x5_1).f2)):=hcc6 2 _ rfl;have hx6_3:w11.cell? ⟨go5,(x5_1:Int).toNat * 4+3,none⟩=some (.int .i64 ((jb y290 x5_1).f3)):=hcc6 3 _ rfl;have hf6_0:w11.frozen? ⟨go5,(x5_1:Int).toNat * 4,none⟩=false:=hfr6 0;have hf6_1:w11.frozen? ⟨go5,(x5_1:Int).toNat * 4+1,none⟩=false:=hfr6 1;have hf6_2:w11.frozen? ⟨go5,(x5_1:Int).toNat * 4+2,none⟩=false:=hfr6 2;have hf6_3:w11.frozen? ⟨go5,(x5_1:Int).toNat * 4+3,none⟩=false:=hfr6 3;clear hcl6 hcc6 hfr6 hM6;replace p6:=ezT p6;replace q6:=ezT q6;have HX12:=am (show Kd.R k52 52 w11 w0.heap.size (fun k_=>(P0_ k_∨w.heap.size≤k_)) (.slice (some ⟨go5,0,none⟩) x0_1.length co9) y290 from (rq HO_0.out));obtain ⟨ce12,hcl12,hM12,hcc12,hfr12⟩:=Kd.jYb HX12.out z52 (x5_1:Int) (ozD (uq)) (by have h_:(x5_1:Int)<((x0_1.length:Int):Int):=ozD (uq);first | exact h_ |(have e_:=(Kd.jA HO_0.out).1;omega) | simpa using h_);obtain rfl:=jFb hM12;have HP12:=Kd.R_seg HX12.out (x5_1:Int) (ozD (uq)) (by have h_:(x5_1:Int)<((x0_1.length:Int):Int):=ozD (uq);first | exact h_ |(have e_:=(Kd.jA HO_0.out).1;omega) | simpa using h_) (seg:=[.int .i64 (wrap64 (x1_1+1))]) (j:=1) hcl12 hcc12 (show 2≤4 from by decide) (x':=(⟨(jb y290 x5_1).f0,wrap64 (x1_1+1),(jb y290 x5_1).f2,(jb y290 x5_1).f3⟩:S52)) (k52_mkM _ _ _ (⟨(jb y290 x5_1).f0,wrap64 (x1_1+1),(jb y290 x5_1).f2,(jb y290 x5_1).f3⟩:S52) ) (fun _ hk=>hk);have hx12_1:=hcc12 1 _ rfl;(try simp only [show (k52).sz=4 from rfl,Nat.mul_one,Nat.add_zero] at hx12_1);have hf12_1:=hfr12 1;(try simp only [show (k52).sz=4 from rfl,Nat.mul_one,Nat.add_zero] at hf12_1);clear hcl12 hcc12 hfr12 hM12) |((with_reducible refine jBb (t:=3) (p:=23) rfl ?_);refine jqb (t:=3) (p:=23) (v:=?vo_w13) (w1:=(w11.setCell ⟨go5,(x5_1:Int).toNat * 4+1,none⟩ (.int .i64 (wrap64 (x1_1+1))))) ?hg ?ho ?hn ?hr ?_;(case ho=>rfl);(case hg=>rfl);(case hn=>rfl);(case hr=>exact Y4);intro w13 hw;have hg:w11.grownBy w13 (some go5):=(by rw [hw];exact HP12.2);have hp_:Kd.R k52 52 w13 w0.heap.size (fun k_=>(P0_ k_∨w.heap.size≤k_)) (.slice (some ⟨go5,0,none⟩) x0_1.length co9) y291:=(by rw [hw,Ny291.out];exact HP12.1);clear HP12;replace HB:=am ((by rw [hw];exact jw (HB.out) GB5.out:Below w0.heap.size w0 w13));replace HK:=am (Kept.jec (S:=(fun k_=>P0_ k_)) hg (Y7) (fun k_ e_=>(HO_0.out.1 k_ e_)));replace HO_0:=am (hp_);clear hg hw hp_;have p7:0≤(x5_1:Int):=ozD (uq);have q7:(x5_1:Int)<((x0_1.length:Int):Int):=ozD (uq);obtain ⟨ce7,hcl7,hM7,hcc7,hfr7⟩:=Kd.jYb HO_0.out z52 (x5_1:Int) p7 q7;obtain rfl:=jFb hM7;have hx7_0:w13.cell? ⟨go5,(x5_1:Int).toNat * 4,none⟩=some (.int .i64 ((jb y291 x5_1).f0)):=hcc7 0 _ rfl;have hx7_1:w13.cell? ⟨go5,(x5_1:Int).toNat * 4+1,none⟩=some (.int .i64 ((jb y291 x5_1).f1)):=hcc7 1 _ rfl;have hx7_2:w13.cell? ⟨go5,(x5_1:Int).toNat * 4+2,none⟩=some (.int .i64 ((jb y291 x5_1).f2)):=hcc7 2 _ rfl;have hx7_3:w13.cell? ⟨go5,(x5_1:Int).toNat * 4+3,none⟩=some (.int .i64 ((jb y291 x5_1).f3)):=hcc7 3 _ rfl;have hf7_0:w13.frozen? ⟨go5,(x5_1:Int).toNat * 4,none⟩=false:=hfr7 0;have hf7_1:w13.frozen? ⟨go5,(x5_1:Int).toNat * 4+1,none⟩=false:=hfr7 1;have hf7_2:w13.frozen? ⟨go5,(x5_1:Int).toNat * 4+2,none⟩=false:=hfr7 2;have hf7_3:w13.frozen? ⟨go5,(x5_1:Int).toNat * 4+3,none⟩=false:=hfr7 3;clear hcl7 hcc7 hfr7 hM7;replace p7:=ezT p7;replace q7:=ezT q7;have HX14:=am (show Kd.R k52 52 w13 w0.heap.size (fun k_=>(P0_ k_∨w.heap.size≤k_)) (.slice (some ⟨go5,0,none⟩) x0_1.length co9) y291 from (rq HO_0.out));obtain ⟨ce14,hcl14,hM14,hcc14,hfr14⟩:=Kd.jYb HX14.out z52 (x5_1:Int) (ozD (uq)) (by have h_:(x5_1:Int)<((x0_1.length:Int):Int):=ozD (uq);first | exact h_ |(have e_:=(Kd.jA HO_0.out).1;omega) | simpa using h_);obtain rfl:=jFb hM14;have HP14:=Kd.R_seg HX14.out (x5_1:Int) (ozD (uq)) (by have h_:(x5_1:Int)<((x0_1.length:Int):Int):=ozD (uq);first | exact h_ |(have e_:=(Kd.jA HO_0.out).1;omega) | simpa using h_) (seg:=[.int .i64 (wrap64 ((wrap64 (x1_1+1))+1))]) (j:=2) hcl14 hcc14 (show 3≤4 from by decide) (x':=(⟨(jb y291 x5_1).f0,(jb y291 x5_1).f1,wrap64 ((wrap64 (x1_1+1))+1),(jb y291 x5_1).f3⟩:S52)) (k52_mkM _ _ _ (⟨(jb y291 x5_1).f0,(jb y291 x5_1).f1,wrap64 ((wrap64 (x1_1+1))+1),(jb y291 x5_1).f3⟩:S52) ) (fun _ hk=>hk);have hx14_2:=hcc14 2 _ rfl;(try simp only [show (k52).sz=4 from rfl,Nat.mul_one,Nat.add_zero] at hx14_2);have hf14_2:=hfr14 2;(try simp only [show (k52).sz=4 from rfl,Nat.mul_one,Nat.add_zero] at hf14_2);clear hcl14 hcc14 hfr14 hM14) |((with_reducible refine jBb (t:=3) (p:=30) rfl ?_);refine jqb (t:=3) (p:=30) (v:=?vo_w15) (w1:=(w13.setCell ⟨go5,(x5_1:Int).toNat * 4+2,none⟩ (.int .i64 (wrap64 ((wrap64 (x1_1+1))+1))))) ?hg ?ho ?hn ?hr ?_;(case ho=>rfl);(case hg=>rfl);(case hn=>rfl);(case hr=>exact Y4);intro w15 hw;have hg:w13.grownBy w15 (some go5):=(by rw [hw];exact HP14.2);have hp_:Kd.R k52 52 w15 w0.heap.size (fun k_=>(P0_ k_∨w.heap.size≤k_)) (.slice (some ⟨go5,0,none⟩) x0_1.length co9) y292:=(by rw [hw,Ny292.out];exact HP14.1);clear HP14;replace HB:=am ((by rw [hw];exact jw (HB.out) GB5.out:Below w0.heap.size w0 w15));replace HK:=am (Kept.jec (S:=(fun k_=>P0_ k_)) hg (Y7) (fun k_ e_=>(HO_0.out.1 k_ e_)));replace HO_0:=am (hp_);clear hg hw hp_;have p8:0≤(x5_1:Int):=ozD (uq);have q8:(x5_1:Int)<((x0_1.length:Int):Int):=ozD (uq);obtain ⟨ce8,hcl8,hM8,hcc8,hfr8⟩:=Kd.jYb HO_0.out z52 (x5_1:Int) p8 q8;obtain rfl:=jFb hM8;have hx8_0:w15.cell? ⟨go5,(x5_1:Int).toNat * 4,none⟩=some (.int .i64 ((jb y292 x5_1).f0)):=hcc8 0 _ rfl;have hx8_1:w15.cell? ⟨go5,(x5_1:Int).toNat * 4+1,none⟩=some (.int .i64 ((jb y292 x5_1).f1)):=hcc8 1 _ rfl;have hx8_2:w15.cell? ⟨go5,(x5_1:Int).toNat * 4+2,none⟩=some (.int .i64 ((jb y292 x5_1).f2)):=hcc8 2 _ rfl;have hx8_3:w15.cell? ⟨go5,(x5_1:Int).toNat * 4+3,none⟩=some (.int .i64 ((jb y292 x5_1).f3)):=hcc8 3 _ rfl;have hf8_0:w15.frozen? ⟨go5,(x5_1:Int).toNat * 4,none⟩=false:=hfr8 0;have hf8_1:w15.frozen? ⟨go5,(x5_1:Int).toNat * 4+1,none⟩=false:=hfr8 1;have hf8_2:w15.frozen? ⟨go5,(x5_1:Int).toNat * 4+2,none⟩=false:=hfr8 2;have hf8_3:w15.frozen? ⟨go5,(x5_1:Int).toNat * 4+3,none⟩=false:=hfr8 3;clear hcl8 hcc8 hfr8 hM8;replace p8:=ezT p8;replace q8:=ezT q8;have HX16:=am (show Kd.R k52 52 w15 w0.heap.size (fun k_=>(P0_ k_∨w.heap.size≤k_)) (.slice (some ⟨go5,0,none⟩) x0_1.length co9) y292 from (rq HO_0.out));obtain ⟨ce16,hcl16,hM16,hcc16,hfr16⟩:=Kd.jYb HX16.out z52 (x5_1:Int) (ozD (uq)) (by have h_:(x5_1:Int)<((x0_1.length:Int):Int):=ozD (uq);first | exact h_ |(have e_:=(Kd.jA HO_0.out).1;omega) | simpa using h_);obtain rfl:=jFb hM16;have HP16:=Kd.R_seg HX16.out (x5_1:Int) (ozD (uq)) (by have h_:(x5_1:Int)<((x0_1.length:Int):Int):=ozD (uq);first | exact h_ |(have e_:=(Kd.jA HO_0.out).1;omega) | simpa using h_) (seg:=[.int .i64 (wrap64 ((wrap64 ((wrap64 (x1_1+1))+1))+1))]) (j:=3) hcl16 hcc16 (show 4≤4 from by decide) (x':=(⟨(jb y292 x5_1).f0,(jb y292 x5_1).f1,(jb y292 x5_1).f2,wrap64 ((wrap64 ((wrap64 (x1_1+1))+1))+1)⟩:S52)) (k52_mkM _ _ _ (⟨(jb y292 x5_1).f0,(jb y292 x5_1).f1,(jb y292 x5_1).f2,wrap64 ((wrap64 ((wrap64 (x1_1+1))+1))+1)⟩:S52) ) (fun _ hk=>hk);have hx16_3:=hcc16 3 _ rfl;(try simp only [show (k52).sz=4 from rfl,Nat.mul_one,Nat.add_zero] at hx16_3);have hf16_3:=hfr16 3;(try simp only [show (k52).sz=4 from rfl,Nat.mul_one,Nat.add_zero] at hf16_3);clear hcl16 hcc16 hfr16 hM16) |((with_reducible refine jBb (t:=3) (p:=37) rfl ?_);refine jqb (t:=3) (p:=37) (v:=?vo_w17) (w1:=(w15.setCell ⟨go5,(x5_1:Int).toNat * 4+3,none⟩ (.int .i64 (wrap64 ((wrap64 ((wrap64 (x1_1+1))+1))+1))))) ?hg ?ho ?hn ?hr ?_;(case ho=>rfl);(case hg=>rfl);(case hn=>rfl);(case hr=>exact Y4);intro w17 hw;have hg:w15.grownBy w17 (some go5):=(by rw [hw];exact HP16.2);have hp_:Kd.R k52 52 w17 w0.heap.size (fun k_=>(P0_ k_∨w.heap.size≤k_)) (.slice (some ⟨go5,0,none⟩) x0_1.length co9) y293:=(by rw [hw,Ny293.out];exact HP16.1);clear HP16;replace HB:=am ((by rw [hw];exact jw (HB.out) GB5.out:Below w0.heap.size w0 w17));replace HK:=am (Kept.jec (S:=(fun k_=>P0_ k_)) hg (Y7) (fun k_ e_=>(HO_0.out.1 k_ e_)));replace HO_0:=am (hp_);clear hg hw hp_))
     go_roundg k1
     case measure=>have:=HK1.out;omega
     case rel=>exact ⟨(y293),(wrap64 ((wrap64 ((wrap64 ((wrap64 (x1_1+1))+1))+1))+1)),(wrap64 (x5_1+1)),(sq),(sq),H',⟨by have:=HK1.out;omega⟩,⟨rq HO_0.out⟩,⟨Y7⟩,⟨bq⟩⟩
    ·rw [if_neg c4] at H
     exact absurd H (by simp)
   ·rw [if_neg c3] at H
    have c3b0:decide (x5_1<(x0_1.length:Int))=false:=dzF c3
    clear c3
    simp only [Option.some.injEq,Prod.mk.injEq] at H
    obtain ⟨rfl,rfl⟩:=H
    obtain ⟨Ao18,co18,eo18⟩:=Kd.jGa HO_0.out
    subst eo18
    go_wp2
    go_ret
    exact ⟨Y0,rq HO_0.out,bq,Y7⟩
def jla.j0 : Nat → Int → Bool → List (S78) → Int → Int → Int → Int → Option (Bool)
 | 0,_,_,_,_,_,_,_=>none
 | k+1,x6,x7,x109000,x110000,x110001,x110002,x110003=>if x7=true then ((jB.f x110002 0 99).bind fun t110=>(if t110=true then (some (x110003 == 0)) else (some false))) else (if x6=2 then ((jWa.f x109000 x110002).bind fun t111=>(if t111=true then ((jB.f x110003 0 99).bind fun t112=>(some t112)) else (some false))) else (if x6=8 then ((jWa.f x109000 x110002).bind fun t113=>(if t113=true then (some (x110003 == 0)) else (some false))) else (if x6=11 then ((jB.f x110002 0 9).bind fun t114=>(if t114=true then ((jB.f x110003 0 1).bind fun t115=>(some t115)) else (some false))) else (if x6=12 then ((jB.f x110002 0 3).bind fun t116=>(if t116=true then (some (x110003 == 0)) else (some false))) else ((jB.f x110001 0 10).bind fun t117=>(if t117=true then (if x110002=0 then (some (x110003 == 0)) else (some false)) else (some false)))))))
def jla.f (k : Nat) (l0_0 : List (S78)) (a1_0 : Int) (a1_1 : Int) (a1_2 : Int) (a1_3 : Int) : Option (Bool) := if a1_1 = 1 then (jla.j0 k a1_1 (a1_1 == 1) l0_0 a1_0 a1_1 a1_2 a1_3) else (jla.j0 k a1_1 (a1_1 == 4) l0_0 a1_0 a1_1 a1_2 a1_3)
set_option maxHeartbeats 8000000 in
set_option maxRecDepth 100000 in
theorem jla.calls (k : Nat) (A0_0 : Option Addr) (c0_0 : Nat) (l0_0 : List (S78)) (a1_0 : Int) (a1_1 : Int) (a1_2 : Int) (a1_3 : Int) (r : Bool) (w : World) (hr0_0 : Kd.C k78 w A0_0 l0_0.length l0_0) (hc0_0 : l0_0.length ≤ c0_0) (h : jla.f k l0_0 a1_0 a1_1 a1_2 a1_3 = some r) :
  Calls Try.prog 84 #[.agg #[.slice A0_0 l0_0.length c0_0], .agg #[.int .i64 a1_0, .int .i64 a1_1, .int .i64 a1_2, .int .i64 a1_3]] w fun e w'=>e=.returned (.bool r)∧Below w.heap.size w w':=by
 have hu32:=Try.underlying32
 have hu52:=Try.underlying52
 have HR0_0:=am hr0_0
 have HC0_0:=am hc0_0
 clear hr0_0 hc0_0
 have HB:=am (Below.refl w.heap.size w)
 have H:(if a1_1=1 then (jla.j0 k a1_1 (a1_1 == 1) l0_0 a1_0 a1_1 a1_2 a1_3) else (jla.j0 k a1_1 (a1_1 == 4) l0_0 a1_0 a1_1 a1_2 a1_3))=some r:=h
 clear h
 have HC3:=am H
 clear H
 go_enter Try.func84,Try.ntmps84
 go_upto_if 7 with (first |((with_reducible refine jP (N:=2) rfl ?_);refine bE (N:=2) (cs:=#[.slice A0_0 l0_0.length c0_0]) (t:=32) ?_;intro gb108 hg w4 hbox hb;have BK108:=am (hbox);have GW108:=am ((Y1:w.heap.size≤gb108));have GE108:=am ((Y1:w.heap.size≤gb108));replace HB:=am (jd (bq) hb);clear hb hbox hg) |((with_reducible refine jP (N:=3) rfl ?_);refine bE (N:=3) (cs:=#[.int .i64 a1_0, .int .i64 a1_1, .int .i64 a1_2, .int .i64 a1_3]) (t:=52) ?_;intro gb109 hg w5 hbox hb;have BK109:=am (hbox);have GW109:=am ((Y50:w.heap.size≤gb109));have GE109:=am ((Y50:w.heap.size≤gb109));have NB108_109:=am ((by rw [hg];exact Nat.ne_of_lt (jVa (g:=gb108) (o:=.cells #[.slice A0_0 l0_0.length c0_0] 32 (0,0)) (kq BK108.out)):gb108≠gb109));have NB109_108:=am ((by rw [hg];exact Nat.ne_of_gt (jVa (g:=gb108) (o:=.cells #[.slice A0_0 l0_0.length c0_0] 32 (0,0)) (kq BK108.out)):gb109≠gb108));replace BK108:=am (jm (g:=gb108) (o:=.cells #[.slice A0_0 l0_0.length c0_0] 32 (0,0)) (kq BK108.out) hb);replace HB:=am (jd (by repeat (first |(with_reducible first | exact HB.out | apply jv | apply jg | apply jr | refine jw ?_ GE108.out) | exact HB.out)) hb);clear hb hbox hg;have hnb6:=NB109_108.out;have hnc6:=NB108_109.out;have hcz7_0:=bc0 BK109.out;have hcz7_1:=bc1 BK109.out;have hcz7_2:=bc2 BK109.out;have hcz7_3:=bc3 BK109.out;have hfz7_0:=ja BK109.out 0;have hfz7_1:=ja BK109.out 1;have hfz7_2:=ja BK109.out 2;have hfz7_3:=ja BK109.out 3))
 (try simp only [Act.put,List.setIfInBounds_toArray,List.set_cons_zero,List.set_cons_succ])
 go_cut [7] (fun v7 wc=>∃ (kq:Nat) (x7_2:Bool),v7=.bool x7_2∧jk (jla.j0 kq a1_1 x7_2 l0_0 a1_0 a1_1 a1_2 a1_3=some r)∧jk (kq≤k)∧jk (wc.heap[gb108]?=some (.cells #[(.slice A0_0 l0_0.length c0_0)] 32 (0,0)))∧jk (wc.heap[gb109]?=some (.cells #[.int .i64 a1_0, .int .i64 a1_1, .int .i64 a1_2, .int .i64 a1_3] 52 (0,0)))∧jk (Below w.heap.size w wc))
 case first =>
  have H:=HC3.out
  clear HC3
  by_cases c8:a1_1=1
  ·rw [if_pos c8] at H
   have c8b0:(a1_1 == 1)=true:=beq_iff_eq.mpr c8
   have c8b1:(a1_1 != 1)=false:=bne_eq_false_iff_eq.mpr c8
   clear c8
   (first | rw [c8b0] |(simp only [jub,jvb];rw [c8b0]) | skip)
   have H':=am H
   clear H
   go_wp2
   go_meet
   case rel=>exact ⟨_,((a1_1 == 1)),(sq),H',⟨Y19⟩,⟨kq BK108.out⟩,⟨kq BK109.out⟩,⟨Y8⟩⟩
  ·rw [if_neg c8] at H
   have c8b0:(a1_1 == 1)=false:=beq_eq_false_iff_ne.mpr c8
   have c8b1:(a1_1 != 1)=true:=bne_iff_ne.mpr c8
   (first | rw [c8b0] |(simp only [jub,jvb];rw [c8b0]) | skip)
   have H':=am H
   clear H
   go_wp2
   go_meet
   case rel=>exact ⟨_,((a1_1 == 4)),(sq),H',⟨Y19⟩,⟨kq BK108.out⟩,⟨kq BK109.out⟩,⟨Y8⟩⟩
 case rest =>
  clear HC3
  try clear p2
  try clear c6
  try clear c8
  try clear c8b0
  try clear c8b1
  try clear hcz7_0
  try clear hcz7_1
  try clear hcz7_2
  try clear hcz7_3
  try clear hfz7_0
  try clear hfz7_1
  try clear hfz7_2
  try clear hfz7_3
  obtain ⟨kq,x7_2,rfl,HA,HJ2,BK108,BK109,HB⟩:=hcut
  cases kq with
  | zero=>exact absurd HA.out (by simp [jla.j0])
  | succ kj2 =>
   have H:=HA.out
   clear HA
   simp only [jla.j0] at H
   by_cases c9:x7_2=true
   ·subst c9
    have H1:((jB.f a1_2 0 99).bind fun t110=>(if t110=true then (some (a1_3 == 0)) else (some false)))=some r:=by rw [if_pos rfl] at H;exact H
    clear H
    have H:=H1
    clear H1
    replace H:=bzS H
    obtain ⟨t110,A100,H⟩:=H
    replace H:(if t110=true then (some (a1_3 == 0)) else (some false))=some r:=H
    have A10:=am A100
    clear A100
    by_cases c11:t110=true
    ·subst c11
     have H1:(some (a1_3 == 0))=some r:=by rw [if_pos rfl] at H;exact H
     clear H
     have H:=H1
     clear H1
     obtain rfl:=Option.some.inj H
     have hnb12:=NB109_108.out
     have hnc12:=NB108_109.out
     have hcz13_0:=bc0 BK109.out
     have hcz13_1:=bc1 BK109.out
     have hcz13_2:=bc2 BK109.out
     have hcz13_3:=bc3 BK109.out
     have hfz13_0:=ja BK109.out 0
     have hfz13_1:=ja BK109.out 1
     have hfz13_2:=ja BK109.out 2
     have hfz13_3:=ja BK109.out 3
     go_wp2_with (first |((with_reducible refine je (f:=85) rfl ?_);refine gL (some 12) Try.func85 #[.int .i64 a1_2, .int .i64 0, .int .i64 99] ?_;(with_reducible refine (jB.calls a1_2 0 99 true _ A10.out).mono ?_);rintro e w' ⟨rfl,⟨nd,rfl⟩⟩;refine ⟨_,rfl,?_⟩))
     go_ret
     exact ⟨Y0,Y8⟩
    ·replace c11:=Bool.eq_false_iff.mpr c11
     subst c11
     have H1:(some false)=some r:=by rw [if_neg (show ¬ (false=true) by decide)] at H;exact H
     clear H
     have H:=H1
     clear H1
     obtain rfl:=Option.some.inj H
     have hnb14:=NB109_108.out
     have hnc14:=NB108_109.out
     have hcz15_0:=bc0 BK109.out
     have hcz15_1:=bc1 BK109.out
     have hcz15_2:=bc2 BK109.out
     have hcz15_3:=bc3 BK109.out
     have hfz15_0:=ja BK109.out 0
     have hfz15_1:=ja BK109.out 1
     have hfz15_2:=ja BK109.out 2
     have hfz15_3:=ja BK109.out 3
     go_wp2_with (first |((with_reducible refine je (f:=85) rfl ?_);refine gL (some 12) Try.func85 #[.int .i64 a1_2, .int .i64 0, .int .i64 99] ?_;(with_reducible refine (jB.calls a1_2 0 99 false _ A10.out).mono ?_);rintro e w' ⟨rfl,⟨nd,rfl⟩⟩;refine ⟨_,rfl,?_⟩))
     go_ret
     exact ⟨Y0,Y8⟩
   ·replace c9:=Bool.eq_false_iff.mpr c9
    subst c9
    have H1:(if a1_1=2 then ((jWa.f l0_0 a1_2).bind fun t111=>(if t111=true then ((jB.f a1_3 0 99).bind fun t112=>(some t112)) else (some false))) else (if a1_1=8 then ((jWa.f l0_0 a1_2).bind fun t113=>(if t113=true then (some (a1_3 == 0)) else (some false))) else (if a1_1=11 then ((jB.f a1_2 0 9).bind fun t114=>(if t114=true then ((jB.f a1_3 0 1).bind fun t115=>(some t115)) else (some false))) else (if a1_1=12 then ((jB.f a1_2 0 3).bind fun t116=>(if t116=true then (some (a1_3 == 0)) else (some false))) else ((jB.f a1_1 0 10).bind fun t117=>(if t117=true then (if a1_2=0 then (some (a1_3 == 0)) else (some false)) else (some false)))))))=some r:=by rw [if_neg (show ¬ (false=true) by decide)] at H;exact H
    clear H
    have H:=H1
    clear H1
    by_cases c16:a1_1=2
    ·rw [if_pos c16] at H
     have c16b0:(a1_1 == 2)=true:=beq_iff_eq.mpr c16
     have c16b1:(a1_1 != 2)=false:=bne_eq_false_iff_eq.mpr c16
     clear c16
     replace H:=bzS H
     obtain ⟨t111,A170,H⟩:=H
     replace H:(if t111=true then ((jB.f a1_3 0 99).bind fun t112=>(some t112)) else (some false))=some r:=H
     have A17:=am A170
     clear A170
     by_cases c18:t111=true
     ·subst c18
      have H1:((jB.f a1_3 0 99).bind fun t112=>(some t112))=some r:=by rw [if_pos rfl] at H;exact H
      clear H
      have H:=H1
      clear H1
      replace H:=bzS H
      obtain ⟨t112,A190,H⟩:=H
      replace H:(some t112)=some r:=H
      have A19:=am A190
      clear A190
      obtain rfl:=Option.some.inj H
      have hnb20:=NB108_109.out
      have hnc20:=NB109_108.out
      have hcz21_0:=bc0 BK108.out
      have hfz21_0:=ja BK108.out 0
      have hcz22_0:=bc0 BK109.out
      have hcz22_1:=bc1 BK109.out
      have hcz22_2:=bc2 BK109.out
      have hcz22_3:=bc3 BK109.out
      have hfz22_0:=ja BK109.out 0
      have hfz22_1:=ja BK109.out 1
      have hfz22_2:=ja BK109.out 2
      have hfz22_3:=ja BK109.out 3
      go_wp2_with (first |((with_reducible refine je (f:=103) rfl ?_);refine gL (some 23) Try.func103 #[.agg #[.slice A0_0 l0_0.length c0_0], .int .i64 a1_2] ?_;(with_reducible refine (jWa.calls _ _ l0_0 a1_2 true _ ?side1 ?side2 A17.out).mono ?_);(case side1=>exact cq (Kd.jF HR0_0.out HB.out));(case side2=>exact HC0_0.out);rintro e w23 ⟨rfl,hb⟩;refine ⟨_,rfl,?_⟩;replace BK108:=am (jm (g:=gb108) (o:=.cells #[.slice A0_0 l0_0.length c0_0] 32 (0,0)) (kq BK108.out) hb);replace BK109:=am (jm (g:=gb109) (o:=.cells #[.int .i64 a1_0, .int .i64 a1_1, .int .i64 a1_2, .int .i64 a1_3] 52 (0,0)) (kq BK109.out) hb);replace HB:=am (jd (Y8) hb);(try clear hb);(try clear hb2);(try clear hk);(try clear hi);have hcz24_0:=bc0 BK109.out;have hcz24_1:=bc1 BK109.out;have hcz24_2:=bc2 BK109.out;have hcz24_3:=bc3 BK109.out;have hfz24_0:=ja BK109.out 0;have hfz24_1:=ja BK109.out 1;have hfz24_2:=ja BK109.out 2;have hfz24_3:=ja BK109.out 3) |(go_at_call 85;(with_reducible refine (jB.calls a1_3 0 99 t112 _ A19.out).mono ?_);rintro e w' ⟨rfl,⟨nd,rfl⟩⟩))
      go_ret
      exact ⟨Y0,Y8⟩
     ·replace c18:=Bool.eq_false_iff.mpr c18
      subst c18
      have H1:(some false)=some r:=by rw [if_neg (show ¬ (false=true) by decide)] at H;exact H
      clear H
      have H:=H1
      clear H1
      obtain rfl:=Option.some.inj H
      have hnb25:=NB108_109.out
      have hnc25:=NB109_108.out
      have hcz26_0:=bc0 BK108.out
      have hfz26_0:=ja BK108.out 0
      have hcz27_0:=bc0 BK109.out
      have hcz27_1:=bc1 BK109.out
      have hcz27_2:=bc2 BK109.out
      have hcz27_3:=bc3 BK109.out
      have hfz27_0:=ja BK109.out 0
      have hfz27_1:=ja BK109.out 1
      have hfz27_2:=ja BK109.out 2
      have hfz27_3:=ja BK109.out 3
      go_wp2_with (first |((with_reducible refine je (f:=103) rfl ?_);refine gL (some 23) Try.func103 #[.agg #[.slice A0_0 l0_0.length c0_0], .int .i64 a1_2] ?_;(with_reducible refine (jWa.calls _ _ l0_0 a1_2 false _ ?side1 ?side2 A17.out).mono ?_);(case side1=>exact cq (Kd.jF HR0_0.out HB.out));(case side2=>exact HC0_0.out);rintro e w28 ⟨rfl,hb⟩;refine ⟨_,rfl,?_⟩;replace BK108:=am (jm (g:=gb108) (o:=.cells #[.slice A0_0 l0_0.length c0_0] 32 (0,0)) (kq BK108.out) hb);replace BK109:=am (jm (g:=gb109) (o:=.cells #[.int .i64 a1_0, .int .i64 a1_1, .int .i64 a1_2, .int .i64 a1_3] 52 (0,0)) (kq BK109.out) hb);replace HB:=am (jd (Y8) hb);(try clear hb);(try clear hb2);(try clear hk);(try clear hi)))
      go_ret
      exact ⟨Y0,Y8⟩
    ·rw [if_neg c16] at H
     have c16b0:(a1_1 == 2)=false:=beq_eq_false_iff_ne.mpr c16
     have c16b1:(a1_1 != 2)=true:=bne_iff_ne.mpr c16
     by_cases c29:a1_1=8
     ·rw [if_pos c29] at H
      have c29b0:(a1_1 == 8)=true:=beq_iff_eq.mpr c29
      have c29b1:(a1_1 != 8)=false:=bne_eq_false_iff_eq.mpr c29
      clear c29
      replace H:=bzS H
      obtain ⟨t113,A300,H⟩:=H
      replace H:(if t113=true then (some (a1_3 == 0)) else (some false))=some r:=H
      have A30:=am A300
      clear A300
      by_cases c31:t113=true
      ·subst c31
       have H1:(some (a1_3 == 0))=some r:=by rw [if_pos rfl] at H;exact H
       clear H
       have H:=H1
       clear H1
       obtain rfl:=Option.some.inj H
       have hnb32:=NB108_109.out
       have hnc32:=NB109_108.out
       have hcz33_0:=bc0 BK108.out
       have hfz33_0:=ja BK108.out 0
       have hcz34_0:=bc0 BK109.out
       have hcz34_1:=bc1 BK109.out
       have hcz34_2:=bc2 BK109.out
       have hcz34_3:=bc3 BK109.out
       have hfz34_0:=ja BK109.out 0
       have hfz34_1:=ja BK109.out 1
       have hfz34_2:=ja BK109.out 2
       have hfz34_3:=ja BK109.out 3
       go_wp2_with (first |((with_reducible refine je (f:=103) rfl ?_);refine gL (some 34) Try.func103 #[.agg #[.slice A0_0 l0_0.length c0_0], .int .i64 a1_2] ?_;(with_reducible refine (jWa.calls _ _ l0_0 a1_2 true _ ?side1 ?side2 A30.out).mono ?_);(case side1=>exact cq (Kd.jF HR0_0.out HB.out));(case side2=>exact HC0_0.out);rintro e w35 ⟨rfl,hb⟩;refine ⟨_,rfl,?_⟩;replace BK108:=am (jm (g:=gb108) (o:=.cells #[.slice A0_0 l0_0.length c0_0] 32 (0,0)) (kq BK108.out) hb);replace BK109:=am (jm (g:=gb109) (o:=.cells #[.int .i64 a1_0, .int .i64 a1_1, .int .i64 a1_2, .int .i64 a1_3] 52 (0,0)) (kq BK109.out) hb);replace HB:=am (jd (Y8) hb);(try clear hb);(try clear hb2);(try clear hk);(try clear hi);have hcz36_0:=bc0 BK109.out;have hcz36_1:=bc1 BK109.out;have hcz36_2:=bc2 BK109.out;have hcz36_3:=bc3 BK109.out;have hfz36_0:=ja BK109.out 0;have hfz36_1:=ja BK109.out 1;have hfz36_2:=ja BK109.out 2;have hfz36_3:=ja BK109.out 3))
       go_ret
       exact ⟨Y0,Y8⟩
      ·replace c31:=Bool.eq_false_iff.mpr c31
       subst c31
       have H1:(some false)=some r:=by rw [if_neg (show ¬ (false=true) by decide)] at H;exact H
       clear H
       have H:=H1
       clear H1
       obtain rfl:=Option.some.inj H
       have hnb37:=NB108_109.out
       have hnc37:=NB109_108.out
       have hcz38_0:=bc0 BK108.out
       have hfz38_0:=ja BK108.out 0
       have hcz39_0:=bc0 BK109.out
       have hcz39_1:=bc1 BK109.out
       have hcz39_2:=bc2 BK109.out
       have hcz39_3:=bc3 BK109.out
       have hfz39_0:=ja BK109.out 0
       have hfz39_1:=ja BK109.out 1
       have hfz39_2:=ja BK109.out 2
       have hfz39_3:=ja BK109.out 3
       go_wp2_with (first |((with_reducible refine je (f:=103) rfl ?_);refine gL (some 34) Try.func103 #[.agg #[.slice A0_0 l0_0.length c0_0], .int .i64 a1_2] ?_;(with_reducible refine (jWa.calls _ _ l0_0 a1_2 false _ ?side1 ?side2 A30.out).mono ?_);(case side1=>exact cq (Kd.jF HR0_0.out HB.out));(case side2=>exact HC0_0.out);rintro e w40 ⟨rfl,hb⟩;refine ⟨_,rfl,?_⟩;replace BK108:=am (jm (g:=gb108) (o:=.cells #[.slice A0_0 l0_0.length c0_0] 32 (0,0)) (kq BK108.out) hb);replace BK109:=am (jm (g:=gb109) (o:=.cells #[.int .i64 a1_0, .int .i64 a1_1, .int .i64 a1_2, .int .i64 a1_3] 52 (0,0)) (kq BK109.out) hb);replace HB:=am (jd (Y8) hb);(try clear hb);(try clear hb2);(try clear hk);(try clear hi)))
       go_ret
       exact ⟨Y0,Y8⟩
     ·rw [if_neg c29] at H
      have c29b0:(a1_1 == 8)=false:=beq_eq_false_iff_ne.mpr c29
      have c29b1:(a1_1 != 8)=true:=bne_iff_ne.mpr c29
      by_cases c41:a1_1=11
      ·rw [if_pos c41] at H
       have c41b0:(a1_1 == 11)=true:=beq_iff_eq.mpr c41
       have c41b1:(a1_1 != 11)=false:=bne_eq_false_iff_eq.mpr c41
       clear c41
       replace H:=bzS H
       obtain ⟨t114,A420,H⟩:=H
       replace H:(if t114=true then ((jB.f a1_3 0 1).bind fun t115=>(some t115)) else (some false))=some r:=H
       have A42:=am A420
       clear A420
       by_cases c43:t114=true
       ·subst c43
        have H1:((jB.f a1_3 0 1).bind fun t115=>(some t115))=some r:=by rw [if_pos rfl] at H;exact H
        clear H
        have H:=H1
        clear H1
        replace H:=bzS H
        obtain ⟨t115,A440,H⟩:=H
        replace H:(some t115)=some r:=H
        have A44:=am A440
        clear A440
        obtain rfl:=Option.some.inj H
        have hnb45:=NB109_108.out
        have hnc45:=NB108_109.out
        have hcz46_0:=bc0 BK109.out
        have hcz46_1:=bc1 BK109.out
        have hcz46_2:=bc2 BK109.out
        have hcz46_3:=bc3 BK109.out
        have hfz46_0:=ja BK109.out 0
        have hfz46_1:=ja BK109.out 1
        have hfz46_2:=ja BK109.out 2
        have hfz46_3:=ja BK109.out 3
        go_wp2_with (first |((with_reducible refine je (f:=85) rfl ?_);refine gL (some 44) Try.func85 #[.int .i64 a1_2, .int .i64 0, .int .i64 9] ?_;(with_reducible refine (jB.calls a1_2 0 9 true _ A42.out).mono ?_);rintro e w' ⟨rfl,⟨nd,rfl⟩⟩;refine ⟨_,rfl,?_⟩) |(go_at_call 85;(with_reducible refine (jB.calls a1_3 0 1 t115 _ A44.out).mono ?_);rintro e w' ⟨rfl,⟨nd,rfl⟩⟩))
        go_ret
        exact ⟨Y0,Y8⟩
       ·replace c43:=Bool.eq_false_iff.mpr c43
        subst c43
        have H1:(some false)=some r:=by rw [if_neg (show ¬ (false=true) by decide)] at H;exact H
        clear H
        have H:=H1
        clear H1
        obtain rfl:=Option.some.inj H
        have hnb47:=NB109_108.out
        have hnc47:=NB108_109.out
        have hcz48_0:=bc0 BK109.out
        have hcz48_1:=bc1 BK109.out
        have hcz48_2:=bc2 BK109.out
        have hcz48_3:=bc3 BK109.out
        have hfz48_0:=ja BK109.out 0
        have hfz48_1:=ja BK109.out 1
        have hfz48_2:=ja BK109.out 2
        have hfz48_3:=ja BK109.out 3
        go_wp2_with (first |((with_reducible refine je (f:=85) rfl ?_);refine gL (some 44) Try.func85 #[.int .i64 a1_2, .int .i64 0, .int .i64 9] ?_;(with_reducible refine (jB.calls a1_2 0 9 false _ A42.out).mono ?_);rintro e w' ⟨rfl,⟨nd,rfl⟩⟩;refine ⟨_,rfl,?_⟩))
        go_ret
        exact ⟨Y0,Y8⟩
      ·rw [if_neg c41] at H
       have c41b0:(a1_1 == 11)=false:=beq_eq_false_iff_ne.mpr c41
       have c41b1:(a1_1 != 11)=true:=bne_iff_ne.mpr c41
       by_cases c49:a1_1=12
       ·rw [if_pos c49] at H
        have c49b0:(a1_1 == 12)=true:=beq_iff_eq.mpr c49
        have c49b1:(a1_1 != 12)=false:=bne_eq_false_iff_eq.mpr c49
        clear c49
        replace H:=bzS H
        obtain ⟨t116,A500,H⟩:=H
        replace H:(if t116=true then (some (a1_3 == 0)) else (some false))=some r:=H
        have A50:=am A500
        clear A500
        by_cases c51:t116=true
        ·subst c51
         have H1:(some (a1_3 == 0))=some r:=by rw [if_pos rfl] at H;exact H
         clear H
         have H:=H1
         clear H1
         obtain rfl:=Option.some.inj H
         have hnb52:=NB109_108.out
         have hnc52:=NB108_109.out
         have hcz53_0:=bc0 BK109.out
         have hcz53_1:=bc1 BK109.out
         have hcz53_2:=bc2 BK109.out
         have hcz53_3:=bc3 BK109.out
         have hfz53_0:=ja BK109.out 0
         have hfz53_1:=ja BK109.out 1
         have hfz53_2:=ja BK109.out 2
         have hfz53_3:=ja BK109.out 3
         go_wp2_with (first |((with_reducible refine je (f:=85) rfl ?_);refine gL (some 54) Try.func85 #[.int .i64 a1_2, .int .i64 0, .int .i64 3] ?_;(with_reducible refine (jB.calls a1_2 0 3 true _ A50.out).mono ?_);rintro e w' ⟨rfl,⟨nd,rfl⟩⟩;refine ⟨_,rfl,?_⟩))
         go_ret
         exact ⟨Y0,Y8⟩
        ·replace c51:=Bool.eq_false_iff.mpr c51
         subst c51
         have H1:(some false)=some r:=by rw [if_neg (show ¬ (false=true) by decide)] at H;exact H
         clear H
         have H:=H1
         clear H1
         obtain rfl:=Option.some.inj H
         have hnb54:=NB109_108.out
         have hnc54:=NB108_109.out
         have hcz55_0:=bc0 BK109.out
         have hcz55_1:=bc1 BK109.out
         have hcz55_2:=bc2 BK109.out
         have hcz55_3:=bc3 BK109.out
         have hfz55_0:=ja BK109.out 0
         have hfz55_1:=ja BK109.out 1
         have hfz55_2:=ja BK109.out 2
         have hfz55_3:=ja BK109.out 3
         go_wp2_with (first |((with_reducible refine je (f:=85) rfl ?_);refine gL (some 54) Try.func85 #[.int .i64 a1_2, .int .i64 0, .int .i64 3] ?_;(with_reducible refine (jB.calls a1_2 0 3 false _ A50.out).mono ?_);rintro e w' ⟨rfl,⟨nd,rfl⟩⟩;refine ⟨_,rfl,?_⟩))
         go_ret
         exact ⟨Y0,Y8⟩
       ·rw [if_neg c49] at H
        have c49b0:(a1_1 == 12)=false:=beq_eq_false_iff_ne.mpr c49
        have c49b1:(a1_1 != 12)=true:=bne_iff_ne.mpr c49
        replace H:=bzS H
        obtain ⟨t117,A560,H⟩:=H
        replace H:(if t117=true then (if a1_2=0 then (some (a1_3 == 0)) else (some false)) else (some false))=some r:=H
        have A56:=am A560
        clear A560
        by_cases c57:t117=true
        ·subst c57
         have H1:(if a1_2=0 then (some (a1_3 == 0)) else (some false))=some r:=by rw [if_pos rfl] at H;exact H
         clear H
         have H:=H1
         clear H1
         by_cases c58:a1_2=0
         ·rw [if_pos c58] at H
          have c58b0:(a1_2 == 0)=true:=beq_iff_eq.mpr c58
          have c58b1:(a1_2 != 0)=false:=bne_eq_false_iff_eq.mpr c58
          clear c58
          obtain rfl:=Option.some.inj H
          have hnb59:=NB109_108.out
          have hnc59:=NB108_109.out
          have hcz60_0:=bc0 BK109.out
          have hcz60_1:=bc1 BK109.out
          have hcz60_2:=bc2 BK109.out
          have hcz60_3:=bc3 BK109.out
          have hfz60_0:=ja BK109.out 0
          have hfz60_1:=ja BK109.out 1
          have hfz60_2:=ja BK109.out 2
          have hfz60_3:=ja BK109.out 3
          go_wp2_with (first |((with_reducible refine je (f:=85) rfl ?_);refine gL (some 62) Try.func85 #[.int .i64 a1_1, .int .i64 0, .int .i64 10] ?_;(with_reducible refine (jB.calls a1_1 0 10 true _ A56.out).mono ?_);rintro e w' ⟨rfl,⟨nd,rfl⟩⟩;refine ⟨_,rfl,?_⟩))
          go_ret
          exact ⟨Y0,Y8⟩
         ·rw [if_neg c58] at H
          have c58b0:(a1_2 == 0)=false:=beq_eq_false_iff_ne.mpr c58
          have c58b1:(a1_2 != 0)=true:=bne_iff_ne.mpr c58
          obtain rfl:=Option.some.inj H
          have hnb61:=NB109_108.out
          have hnc61:=NB108_109.out
          have hcz62_0:=bc0 BK109.out
          have hcz62_1:=bc1 BK109.out
          have hcz62_2:=bc2 BK109.out
          have hcz62_3:=bc3 BK109.out
          have hfz62_0:=ja BK109.out 0
          have hfz62_1:=ja BK109.out 1
          have hfz62_2:=ja BK109.out 2
          have hfz62_3:=ja BK109.out 3
          go_wp2_with (first |((with_reducible refine je (f:=85) rfl ?_);refine gL (some 62) Try.func85 #[.int .i64 a1_1, .int .i64 0, .int .i64 10] ?_;(with_reducible refine (jB.calls a1_1 0 10 true _ A56.out).mono ?_);rintro e w' ⟨rfl,⟨nd,rfl⟩⟩;refine ⟨_,rfl,?_⟩))
          go_ret
          exact ⟨Y0,Y8⟩
        ·replace c57:=Bool.eq_false_iff.mpr c57
         subst c57
         have H1:(some false)=some r:=by rw [if_neg (show ¬ (false=true) by decide)] at H;exact H
         clear H
         have H:=H1
         clear H1
         obtain rfl:=Option.some.inj H
         have hnb63:=NB109_108.out
         have hnc63:=NB108_109.out
         have hcz64_0:=bc0 BK109.out
         have hcz64_1:=bc1 BK109.out
         have hcz64_2:=bc2 BK109.out
         have hcz64_3:=bc3 BK109.out
         have hfz64_0:=ja BK109.out 0
         have hfz64_1:=ja BK109.out 1
         have hfz64_2:=ja BK109.out 2
         have hfz64_3:=ja BK109.out 3
         go_wp2_with (first |((with_reducible refine je (f:=85) rfl ?_);refine gL (some 62) Try.func85 #[.int .i64 a1_1, .int .i64 0, .int .i64 10] ?_;(with_reducible refine (jB.calls a1_1 0 10 false _ A56.out).mono ?_);rintro e w' ⟨rfl,⟨nd,rfl⟩⟩;refine ⟨_,rfl,?_⟩))
         go_ret
         exact ⟨Y0,Y8⟩
def jjc.f (a0 : Int) : Option (Bool) := (jB.f a0 7 12).bind fun t118 => (some t118)
set_option maxHeartbeats 8000000 in
set_option maxRecDepth 100000 in
theorem jjc.calls (a0 : Int) (r : Bool) (w : World) (h : jjc.f a0 = some r) :
  Calls Try.prog 86 #[.int .i64 a0] w fun e w'=>e=.returned (.bool r)∧jKa w w':=by
 have H:((jB.f a0 7 12).bind fun t118=>(some t118))=some r:=h
 clear h
 replace H:=bzS H
 obtain ⟨t118,A20,H⟩:=H
 replace H:(some t118)=some r:=H
 have A2:=am A20
 clear A20
 obtain rfl:=Option.some.inj H
 go_enter Try.func86,Try.ntmps86
 go_wp2_with (first |((with_reducible refine je (f:=85) rfl ?_);refine gL (some 4) Try.func85 #[.int .i64 a0, .int .i64 7, .int .i64 12] ?_;(with_reducible refine (jB.calls a0 7 12 t118 _ A2.out).mono ?_);rintro e w' ⟨rfl,⟨nd,rfl⟩⟩;refine ⟨_,rfl,?_⟩))
 go_ret
 exact ⟨sq,Y2⟩
def jdb.f (a0 : Int) : Option (Bool) := (jB.f a0 8 10).bind fun t119 => (some t119)
set_option maxHeartbeats 8000000 in
set_option maxRecDepth 100000 in
theorem jdb.calls (a0 : Int) (r : Bool) (w : World) (h : jdb.f a0 = some r) :
  Calls Try.prog 89 #[.int .i64 a0] w fun e w'=>e=.returned (.bool r)∧jKa w w':=by
 have H:((jB.f a0 8 10).bind fun t119=>(some t119))=some r:=h
 clear h
 replace H:=bzS H
 obtain ⟨t119,A20,H⟩:=H
 replace H:(some t119)=some r:=H
 have A2:=am A20
 clear A20
 obtain rfl:=Option.some.inj H
 go_enter Try.func89,Try.ntmps89
 go_wp2_with (first |((with_reducible refine je (f:=85) rfl ?_);refine gL (some 4) Try.func85 #[.int .i64 a0, .int .i64 8, .int .i64 10] ?_;(with_reducible refine (jB.calls a0 8 10 t119 _ A2.out).mono ?_);rintro e w' ⟨rfl,⟨nd,rfl⟩⟩;refine ⟨_,rfl,?_⟩))
 go_ret
 exact ⟨sq,Y2⟩
def jja.l0 : Nat → List (S52) → Int → Int → Option (Int)
 | 0,_,_,_=>none
 | k+1,x0,x1,x5=>if x5<(x0.length:Int) then (if 0≤x5 then (if 0≤x1 then (if x1<(x0.length:Int) then (if ((jb x0 x5).f0) > ((jb x0 x1).f0) then (jja.l0 k x0 x1 (wrap64 (x5+1))) else (some x5)) else (none)) else (none)) else (none)) else (some x5)
def jja.f (k : Nat) (l0 : List (S52)) (a1 : Int) : Option (Int) := jja.l0 k l0 a1 (wrap64 (a1 + 1))
set_option maxHeartbeats 8000000 in
set_option maxRecDepth 100000 in
theorem jja.calls (k : Nat) (A0 : Option Addr) (c0 : Nat) (l0 : List (S52)) (a1 : Int) (r : Int) (w : World) (hr0 : Kd.C k52 w A0 l0.length l0) (hc0 : l0.length ≤ c0) (h : jja.f k l0 a1 = some r) :
  Calls Try.prog 31 #[.slice A0 l0.length c0, .int .i64 a1] w fun e w'=>e=.returned (.int .i64 r)∧jKa w w':=by
 have HR0:=am hr0
 have HC0:=am hc0
 clear hr0 hc0
 have H:(jja.l0 k l0 a1 (wrap64 (a1+1)))=some r:=h
 clear h
 have H':=am H
 clear H
 go_enter Try.func31,Try.ntmps31
 go_wp2
 repeat (go_quiet (fail);try go_wp2)
 go_loopg [5] k (fun kq v5 w'=>∃ (x5_1:Int),v5=.int .i64 x5_1∧jk (jja.l0 kq l0 a1 x5_1=some r)∧jk (kq≤k)∧jKa w w')
 case atStart=>exact ⟨(wrap64 (a1+1)),(sq),H',⟨Nat.le_refl _⟩,Y2⟩
 case round =>
  clear H'
  try clear p2
  obtain ⟨x5_1,rfl,HA,HK1,⟨m1,rfl⟩⟩:=hrel
  cases gk with
  | zero=>exact absurd HA.out (by simp [jja.l0])
  | succ k1 =>
   have H:=HA.out
   clear HA
   simp only [jja.l0] at H
   by_cases c3:x5_1<(l0.length:Int)
   ·rw [if_pos c3] at H
    have c3b0:decide (x5_1<(l0.length:Int))=true:=dzT c3
    clear c3
    by_cases c4:0≤x5_1
    ·rw [if_pos c4] at H
     have c4b0:decide (0≤x5_1)=true:=dzT c4
     clear c4
     by_cases c5:0≤a1
     ·rw [if_pos c5] at H
      have c5b0:decide (0≤a1)=true:=dzT c5
      clear c5
      by_cases c6:a1<(l0.length:Int)
      ·rw [if_pos c6] at H
       have c6b0:decide (a1<(l0.length:Int))=true:=dzT c6
       clear c6
       by_cases c7:((jb l0 x5_1).f0) > ((jb l0 a1).f0)
       ·rw [if_pos c7] at H
        have c7b0:decide (((jb l0 a1).f0)<((jb l0 x5_1).f0))=true:=dzT c7
        clear c7
        have H':=am H
        clear H
        have p120:0≤(x5_1:Int):=ozD (uq)
        have q120:x5_1<(l0.length:Int):=ozD (uq)
        obtain ⟨ad120,e120,hx120_0,hx120_1,hx120_2,hx120_3⟩:=jba HR0.out x5_1 p120 q120
        cases e120
        replace p120:=ezT p120
        replace q120:=ezT q120
        have p121:0≤(a1:Int):=ozD (uq)
        have q121:a1<(l0.length:Int):=ozD (uq)
        obtain ⟨ad121,e121,hx121_0,hx121_1,hx121_2,hx121_3⟩:=jba HR0.out a1 p121 q121
        obtain rfl:ad120=ad121:=(by injection e121)
        replace p121:=ezT p121
        replace q121:=ezT q121
        go_wp2
        repeat (go_quiet (fail);try go_wp2)
        go_roundg k1
        case measure=>have:=HK1.out;omega
        case rel=>exact ⟨(wrap64 (x5_1+1)),(sq),H',⟨by have:=HK1.out;omega⟩,Y2⟩
       ·rw [if_neg c7] at H
        have c7b0:decide (((jb l0 a1).f0)<((jb l0 x5_1).f0))=false:=dzF c7
        clear c7
        obtain rfl:=Option.some.inj H
        have p120:0≤(x5_1:Int):=ozD (uq)
        have q120:x5_1<(l0.length:Int):=ozD (uq)
        obtain ⟨ad120,e120,hx120_0,hx120_1,hx120_2,hx120_3⟩:=jba HR0.out x5_1 p120 q120
        cases e120
        replace p120:=ezT p120
        replace q120:=ezT q120
        have p121:0≤(a1:Int):=ozD (uq)
        have q121:a1<(l0.length:Int):=ozD (uq)
        obtain ⟨ad121,e121,hx121_0,hx121_1,hx121_2,hx121_3⟩:=jba HR0.out a1 p121 q121
        obtain rfl:ad120=ad121:=(by injection e121)
        replace p121:=ezT p121
        replace q121:=ezT q121
        go_wp2
        repeat (go_quiet (fail);try go_wp2)
        go_ret
        exact ⟨sq,Y2⟩
      ·rw [if_neg c6] at H
       exact absurd H (by simp)
     ·rw [if_neg c5] at H
      exact absurd H (by simp)
    ·rw [if_neg c4] at H
     exact absurd H (by simp)
   ·rw [if_neg c3] at H
    have c3b0:decide (x5_1<(l0.length:Int))=false:=dzF c3
    clear c3
    obtain rfl:=Option.some.inj H
    go_wp2
    repeat (go_quiet (fail);try go_wp2)
    go_ret
    exact ⟨sq,Y2⟩
def jTa.f (k : Nat) (l0 : List (S52)) (a1 : Int) : Option (Int) := (jja.f k l0 a1).bind fun t122 => (if t122 < (l0.length : Int) then (if 0 ≤ t122 then (if 0 ≤ a1 then (if a1 < (l0.length : Int) then (if ((jb l0 t122).f0) = ((jb l0 a1).f0) then (some t122) else (some (l0.length : Int))) else (none)) else (none)) else (none)) else (some (l0.length : Int)))
set_option maxHeartbeats 8000000 in
set_option maxRecDepth 100000 in
theorem jTa.calls (k : Nat) (A0 : Option Addr) (c0 : Nat) (l0 : List (S52)) (a1 : Int) (r : Int) (w : World) (hr0 : Kd.C k52 w A0 l0.length l0) (hc0 : l0.length ≤ c0) (h : jTa.f k l0 a1 = some r) :
  Calls Try.prog 93 #[.slice A0 l0.length c0, .int .i64 a1] w fun e w'=>e=.returned (.int .i64 r)∧jKa w w':=by
 have HR0:=am hr0
 have HC0:=am hc0
 clear hr0 hc0
 have H:((jja.f k l0 a1).bind fun t122=>(if t122<(l0.length:Int) then (if 0≤t122 then (if 0≤a1 then (if a1<(l0.length:Int) then (if ((jb l0 t122).f0)=((jb l0 a1).f0) then (some t122) else (some (l0.length:Int))) else (none)) else (none)) else (none)) else (some (l0.length:Int))))=some r:=h
 clear h
 replace H:=bzS H
 obtain ⟨t122,A30,H⟩:=H
 replace H:(if t122<(l0.length:Int) then (if 0≤t122 then (if 0≤a1 then (if a1<(l0.length:Int) then (if ((jb l0 t122).f0)=((jb l0 a1).f0) then (some t122) else (some (l0.length:Int))) else (none)) else (none)) else (none)) else (some (l0.length:Int)))=some r:=H
 have A3:=am A30
 clear A30
 by_cases c4:t122<(l0.length:Int)
 ·rw [if_pos c4] at H
  have c4b0:decide (t122<(l0.length:Int))=true:=dzT c4
  clear c4
  by_cases c5:0≤t122
  ·rw [if_pos c5] at H
   have c5b0:decide (0≤t122)=true:=dzT c5
   clear c5
   by_cases c6:0≤a1
   ·rw [if_pos c6] at H
    have c6b0:decide (0≤a1)=true:=dzT c6
    clear c6
    by_cases c7:a1<(l0.length:Int)
    ·rw [if_pos c7] at H
     have c7b0:decide (a1<(l0.length:Int))=true:=dzT c7
     clear c7
     by_cases c8:((jb l0 t122).f0)=((jb l0 a1).f0)
     ·rw [if_pos c8] at H
      have c8b0:(((jb l0 t122).f0) == ((jb l0 a1).f0))=true:=beq_iff_eq.mpr c8
      have c8b1:(((jb l0 t122).f0) != ((jb l0 a1).f0))=false:=bne_eq_false_iff_eq.mpr c8
      clear c8
      obtain rfl:=Option.some.inj H
      go_enter Try.func93,Try.ntmps93
      go_wp2_with (first |(go_at_call 31;(with_reducible refine (jja.calls k _ _ l0 a1 t122 _ ?side1 ?side2 A3.out).mono ?_);(case side1=>exact Y11);(case side2=>exact HC0.out);rintro e w' ⟨rfl,⟨nd,rfl⟩⟩;(try first | exact ⟨rfl,_,World.drewN_drewN _ _ _⟩ | exact ⟨rfl,_,Eq.trans (World.drewN_drewN _ _ _) (congrArg (World.drewN _) (Nat.add_assoc _ _ _))⟩);have p123:0≤(t122:Int):=ozD (uq);have q123:t122<(l0.length:Int):=ozD (uq);obtain ⟨ad123,e123,hx123_0,hx123_1,hx123_2,hx123_3⟩:=jba HR0.out t122 p123 q123;cases e123;replace p123:=ezT p123;replace q123:=ezT q123;have p124:0≤(a1:Int):=ozD (uq);have q124:a1<(l0.length:Int):=ozD (uq);obtain ⟨ad124,e124,hx124_0,hx124_1,hx124_2,hx124_3⟩:=jba HR0.out a1 p124 q124;obtain rfl:ad123=ad124:=(by injection e124);replace p124:=ezT p124;replace q124:=ezT q124))
      repeat (go_quiet (first |(go_at_call 31;(with_reducible refine (jja.calls k _ _ l0 a1 t122 _ ?side1 ?side2 A3.out).mono ?_);(case side1=>exact Y11);(case side2=>exact HC0.out);rintro e w' ⟨rfl,⟨nd,rfl⟩⟩;(try first | exact ⟨rfl,_,World.drewN_drewN _ _ _⟩ | exact ⟨rfl,_,Eq.trans (World.drewN_drewN _ _ _) (congrArg (World.drewN _) (Nat.add_assoc _ _ _))⟩);have p123:0≤(t122:Int):=ozD (uq);have q123:t122<(l0.length:Int):=ozD (uq);obtain ⟨ad123,e123,hx123_0,hx123_1,hx123_2,hx123_3⟩:=jba HR0.out t122 p123 q123;cases e123;replace p123:=ezT p123;replace q123:=ezT q123;have p124:0≤(a1:Int):=ozD (uq);have q124:a1<(l0.length:Int):=ozD (uq);obtain ⟨ad124,e124,hx124_0,hx124_1,hx124_2,hx124_3⟩:=jba HR0.out a1 p124 q124;obtain rfl:ad123=ad124:=(by injection e124);replace p124:=ezT p124;replace q124:=ezT q124));try go_wp2_with (first |(go_at_call 31;(with_reducible refine (jja.calls k _ _ l0 a1 t122 _ ?side1 ?side2 A3.out).mono ?_);(case side1=>exact Y11);(case side2=>exact HC0.out);rintro e w' ⟨rfl,⟨nd,rfl⟩⟩;(try first | exact ⟨rfl,_,World.drewN_drewN _ _ _⟩ | exact ⟨rfl,_,Eq.trans (World.drewN_drewN _ _ _) (congrArg (World.drewN _) (Nat.add_assoc _ _ _))⟩);have p123:0≤(t122:Int):=ozD (uq);have q123:t122<(l0.length:Int):=ozD (uq);obtain ⟨ad123,e123,hx123_0,hx123_1,hx123_2,hx123_3⟩:=jba HR0.out t122 p123 q123;cases e123;replace p123:=ezT p123;replace q123:=ezT q123;have p124:0≤(a1:Int):=ozD (uq);have q124:a1<(l0.length:Int):=ozD (uq);obtain ⟨ad124,e124,hx124_0,hx124_1,hx124_2,hx124_3⟩:=jba HR0.out a1 p124 q124;obtain rfl:ad123=ad124:=(by injection e124);replace p124:=ezT p124;replace q124:=ezT q124)))
      go_ret
      exact ⟨sq,Y2⟩
     ·rw [if_neg c8] at H
      have c8b0:(((jb l0 t122).f0) == ((jb l0 a1).f0))=false:=beq_eq_false_iff_ne.mpr c8
      have c8b1:(((jb l0 t122).f0) != ((jb l0 a1).f0))=true:=bne_iff_ne.mpr c8
      obtain rfl:=Option.some.inj H
      go_enter Try.func93,Try.ntmps93
      go_wp2_with (first |(go_at_call 31;(with_reducible refine (jja.calls k _ _ l0 a1 t122 _ ?side1 ?side2 A3.out).mono ?_);(case side1=>exact Y11);(case side2=>exact HC0.out);rintro e w' ⟨rfl,⟨nd,rfl⟩⟩;(try first | exact ⟨rfl,_,World.drewN_drewN _ _ _⟩ | exact ⟨rfl,_,Eq.trans (World.drewN_drewN _ _ _) (congrArg (World.drewN _) (Nat.add_assoc _ _ _))⟩);have p123:0≤(t122:Int):=ozD (uq);have q123:t122<(l0.length:Int):=ozD (uq);obtain ⟨ad123,e123,hx123_0,hx123_1,hx123_2,hx123_3⟩:=jba HR0.out t122 p123 q123;cases e123;replace p123:=ezT p123;replace q123:=ezT q123;have p124:0≤(a1:Int):=ozD (uq);have q124:a1<(l0.length:Int):=ozD (uq);obtain ⟨ad124,e124,hx124_0,hx124_1,hx124_2,hx124_3⟩:=jba HR0.out a1 p124 q124;obtain rfl:ad123=ad124:=(by injection e124);replace p124:=ezT p124;replace q124:=ezT q124))
      repeat (go_quiet (first |(go_at_call 31;(with_reducible refine (jja.calls k _ _ l0 a1 t122 _ ?side1 ?side2 A3.out).mono ?_);(case side1=>exact Y11);(case side2=>exact HC0.out);rintro e w' ⟨rfl,⟨nd,rfl⟩⟩;(try first | exact ⟨rfl,_,World.drewN_drewN _ _ _⟩ | exact ⟨rfl,_,Eq.trans (World.drewN_drewN _ _ _) (congrArg (World.drewN _) (Nat.add_assoc _ _ _))⟩);have p123:0≤(t122:Int):=ozD (uq);have q123:t122<(l0.length:Int):=ozD (uq);obtain ⟨ad123,e123,hx123_0,hx123_1,hx123_2,hx123_3⟩:=jba HR0.out t122 p123 q123;cases e123;replace p123:=ezT p123;replace q123:=ezT q123;have p124:0≤(a1:Int):=ozD (uq);have q124:a1<(l0.length:Int):=ozD (uq);obtain ⟨ad124,e124,hx124_0,hx124_1,hx124_2,hx124_3⟩:=jba HR0.out a1 p124 q124;obtain rfl:ad123=ad124:=(by injection e124);replace p124:=ezT p124;replace q124:=ezT q124));try go_wp2_with (first |(go_at_call 31;(with_reducible refine (jja.calls k _ _ l0 a1 t122 _ ?side1 ?side2 A3.out).mono ?_);(case side1=>exact Y11);(case side2=>exact HC0.out);rintro e w' ⟨rfl,⟨nd,rfl⟩⟩;(try first | exact ⟨rfl,_,World.drewN_drewN _ _ _⟩ | exact ⟨rfl,_,Eq.trans (World.drewN_drewN _ _ _) (congrArg (World.drewN _) (Nat.add_assoc _ _ _))⟩);have p123:0≤(t122:Int):=ozD (uq);have q123:t122<(l0.length:Int):=ozD (uq);obtain ⟨ad123,e123,hx123_0,hx123_1,hx123_2,hx123_3⟩:=jba HR0.out t122 p123 q123;cases e123;replace p123:=ezT p123;replace q123:=ezT q123;have p124:0≤(a1:Int):=ozD (uq);have q124:a1<(l0.length:Int):=ozD (uq);obtain ⟨ad124,e124,hx124_0,hx124_1,hx124_2,hx124_3⟩:=jba HR0.out a1 p124 q124;obtain rfl:ad123=ad124:=(by injection e124);replace p124:=ezT p124;replace q124:=ezT q124)))
      go_ret
      exact ⟨sq,Y2⟩
    ·rw [if_neg c7] at H
     exact absurd H (by simp)
   ·rw [if_neg c6] at H
    exact absurd H (by simp)
  ·rw [if_neg c5] at H
   exact absurd H (by simp)
 ·rw [if_neg c4] at H
  have c4b0:decide (t122<(l0.length:Int))=false:=dzF c4
  clear c4
  obtain rfl:=Option.some.inj H
  go_enter Try.func93,Try.ntmps93
  go_wp2_with (first |(go_at_call 31;(with_reducible refine (jja.calls k _ _ l0 a1 t122 _ ?side1 ?side2 A3.out).mono ?_);(case side1=>exact Y11);(case side2=>exact HC0.out);rintro e w' ⟨rfl,⟨nd,rfl⟩⟩;(try first | exact ⟨rfl,_,World.drewN_drewN _ _ _⟩ | exact ⟨rfl,_,Eq.trans (World.drewN_drewN _ _ _) (congrArg (World.drewN _) (Nat.add_assoc _ _ _))⟩)))
  repeat (go_quiet (first |(go_at_call 31;(with_reducible refine (jja.calls k _ _ l0 a1 t122 _ ?side1 ?side2 A3.out).mono ?_);(case side1=>exact Y11);(case side2=>exact HC0.out);rintro e w' ⟨rfl,⟨nd,rfl⟩⟩;(try first | exact ⟨rfl,_,World.drewN_drewN _ _ _⟩ | exact ⟨rfl,_,Eq.trans (World.drewN_drewN _ _ _) (congrArg (World.drewN _) (Nat.add_assoc _ _ _))⟩)));try go_wp2_with (first |(go_at_call 31;(with_reducible refine (jja.calls k _ _ l0 a1 t122 _ ?side1 ?side2 A3.out).mono ?_);(case side1=>exact Y11);(case side2=>exact HC0.out);rintro e w' ⟨rfl,⟨nd,rfl⟩⟩;(try first | exact ⟨rfl,_,World.drewN_drewN _ _ _⟩ | exact ⟨rfl,_,Eq.trans (World.drewN_drewN _ _ _) (congrArg (World.drewN _) (Nat.add_assoc _ _ _))⟩))))
  go_ret
  exact ⟨sq,Y2⟩
def jma.l0 : Nat → List (S52) → List Int → Int → Option (List Int)
 | 0,_,_,_=>none
 | k+1,x0,x5,x6=>if x6<(x0.length:Int) then (if 0≤x6 then ((jdb.f ((jb x0 x6).f1)).bind fun t130=>(if t130=true then (if x5.length<17592186044416 then ((jTa.f k x0 x6).bind fun t134=>(jma.l0 k x0 (x5 ++ [x6]) t134)) else (none)) else (some x5))) else (none)) else (some x5)
def jma.f (k : Nat) (l0 : List (S52)) (a1 : Int) : Option (List Int) := (jTa.f k l0 a1).bind fun t128 => (jma.l0 k l0 (([a1] : List Int)) t128)
set_option maxHeartbeats 8000000 in
set_option maxRecDepth 100000 in
theorem jma.calls (k : Nat) (A0 : Option Addr) (c0 : Nat) (l0 : List (S52)) (a1 : Int) (r : List Int) (w : World) (hr0 : Kd.C k52 w A0 l0.length l0) (hc0 : l0.length ≤ c0) (h : jma.f k l0 a1 = some r) :
  Calls Try.prog 66 #[.slice A0 l0.length c0, .int .i64 a1] w fun e w'=>∃ v0_:Value,e=.returned (v0_)∧Kd.R (Kd.int .i64) 3 w' w.heap.size (fun _=>True) v0_ r∧Below w.heap.size w w':=by
 have HR0:=am hr0
 have HC0:=am hc0
 clear hr0 hc0
 have HB:=am (Below.refl w.heap.size w)
 have H:((jTa.f k l0 a1).bind fun t128=>(jma.l0 k l0 (([a1]:List Int)) t128))=some r:=h
 clear h
 obtain ⟨y125,hy125⟩:∃ y_:List Int,y_=(([a1]:List Int)):=⟨_,rfl⟩
 replace H:((jTa.f k l0 a1).bind fun t128=>(jma.l0 k l0 y125 t128))=some r:=by first |(rw [hy125];with_reducible exact H) |(have H2_:=(Option.bind_some _ _).symm.trans H;rw [hy125];with_reducible exact H2_) |(have H2_:=(Option.bind_some _ _).symm.trans H;with_reducible exact H2_) | with_reducible exact H |(rw [hy125];exact H) | exact H
 have Ny125:=am hy125
 clear hy125
 replace H:=bzS H
 obtain ⟨t128,A30,H⟩:=H
 replace H:(jma.l0 k l0 y125 t128)=some r:=H
 have A3:=am A30
 clear A30
 have H':=am H
 clear H
 go_enter Try.func66,Try.ntmps66
 go_wp2_with (first |((with_reducible refine jP (N:=8) rfl ?_);refine Kd.R_lit (Kd.int .i64) _ 3 ?hg (N:=8) ?hd (xs:=([a1]:List Int)) (inner:=[.int .i64 a1]) (ok:=fun _=>True) (okp:=fun _=>True) ?hr ?hp (fun _ hk=>hk) trivial (Below.refl _ _) (Nat.le_refl _) (by simp) ?_;(case hd=>rfl);(case hg=>rfl);(case hr=>exact Y4);(case hp=>exact (Reps.one (show Kd.M (Kd.int .i64) _ _ _ a1 [.int .i64 a1] from rfl) (Reps.none _ _)));intro v126 w4 ho5 hb hg_ hnew_;clear hg_ hnew_;(first | rw [← Ny125.out] at ho5 |(simp only [Int.reduceToNat] at ho5;rw [← Ny125.out] at ho5));have HO127:=am (Kd.jRa ho5 (jH (bq)));replace HB:=am (jd (bq) hb);clear hb ho5) |((with_reducible refine je (f:=93) rfl ?_);refine gL (some 11) Try.func93 #[.slice A0 l0.length c0, .int .i64 a1] ?_;(with_reducible refine (jTa.calls k _ _ l0 a1 t128 _ ?side1 ?side2 A3.out).mono ?_);(case side1=>exact cq (Kd.jF HR0.out HB.out));(case side2=>exact HC0.out);rintro e w' ⟨rfl,⟨nd,rfl⟩⟩;refine ⟨_,rfl,?_⟩))
 go_loopg [5,6] k (fun kq v5 v6 w'=>∃ (x5_1:List Int) (x6_1:Int),v6=.int .i64 x6_1∧jk (jma.l0 kq l0 x5_1 x6_1=some r)∧jk (kq≤k)∧jk (Kd.R (Kd.int .i64) 3 w' w.heap.size (fun _=>True) v5 x5_1)∧jk (Below w.heap.size w w'))
 case atStart=>exact ⟨(y125),(t128),(sq),H',⟨Nat.le_refl _⟩,⟨rq HO127.out⟩,⟨bq⟩⟩
 case round =>
  clear H'
  try clear p2
  obtain ⟨x5_1,x6_1,rfl,HA,HK1,HO_5,HB⟩:=hrel
  cases gk with
  | zero=>exact absurd HA.out (by simp [jma.l0])
  | succ k1 =>
   have H:=HA.out
   clear HA
   simp only [jma.l0] at H
   by_cases c6:x6_1<(l0.length:Int)
   ·rw [if_pos c6] at H
    have c6b0:decide (x6_1<(l0.length:Int))=true:=dzT c6
    clear c6
    by_cases c7:0≤x6_1
    ·rw [if_pos c7] at H
     have c7b0:decide (0≤x6_1)=true:=dzT c7
     clear c7
     replace H:=bzS H
     obtain ⟨t130,A80,H⟩:=H
     replace H:(if t130=true then (if x5_1.length<17592186044416 then ((jTa.f k1 l0 x6_1).bind fun t134=>(jma.l0 k1 l0 (x5_1 ++ [x6_1]) t134)) else (none)) else (some x5_1))=some r:=H
     have A8:=am A80
     clear A80
     by_cases c9:t130=true
     ·subst c9
      have H1:(if x5_1.length<17592186044416 then ((jTa.f k1 l0 x6_1).bind fun t134=>(jma.l0 k1 l0 (x5_1 ++ [x6_1]) t134)) else (none))=some r:=by rw [if_pos rfl] at H;exact H
      clear H
      have H:=H1
      clear H1
      by_cases c10:x5_1.length<17592186044416
      ·rw [if_pos c10] at H
       have LMc10:=am c10
       clear c10
       obtain ⟨y131,hy131⟩:∃ y_:List Int,y_=(x5_1 ++ [x6_1]):=⟨_,rfl⟩
       replace H:((jTa.f k1 l0 x6_1).bind fun t134=>(jma.l0 k1 l0 y131 t134))=some r:=by first |(rw [hy131];with_reducible exact H) |(have H2_:=(Option.bind_some _ _).symm.trans H;rw [hy131];with_reducible exact H2_) |(have H2_:=(Option.bind_some _ _).symm.trans H;with_reducible exact H2_) | with_reducible exact H |(rw [hy131];exact H) | exact H
       have Ny131:=am hy131
       clear hy131
       replace H:=bzS H
       obtain ⟨t134,A110,H⟩:=H
       replace H:(jma.l0 k1 l0 y131 t134)=some r:=H
       have A11:=am A110
       clear A110
       have H':=am H
       clear H
       have p129:0≤(x6_1:Int):=ozD (uq)
       have q129:x6_1<(l0.length:Int):=ozD (uq)
       obtain ⟨ad129,e129,hx129_0,hx129_1,hx129_2,hx129_3⟩:=jba HR0.out x6_1 p129 q129
       cases e129
       replace hx129_0:=cb HB.out hx129_0
       replace hx129_1:=cb HB.out hx129_1
       replace hx129_2:=cb HB.out hx129_2
       replace hx129_3:=cb HB.out hx129_3
       replace p129:=ezT p129
       replace q129:=ezT q129
       go_wp2_with (first |(go_at_call 89;(with_reducible refine (jdb.calls ((jb l0 x6_1).f1) true _ A8.out).mono ?_);rintro e w' ⟨rfl,⟨nd,rfl⟩⟩) |((with_reducible refine jPa (b:=.append) (xs:=#[.tmp 27, .tmp 29]) rfl ?_);at_builtin;refine Kd.job (Kd.int .i64) (w0:=w) w.heap.size rfl (.tmp 27) (.tmp 29) 40 3 (.int .i64 0) 8 rfl Try.underlying40 info3 rfl (by decide) (by omega) u5 x5_1 x6_1 [.int .i64 x6_1] (fun _=>True) (fun _=>False) rfl rfl ?aP (fun _ hk=>hk.elim) ?aF ?aO ?aB ?aS ?aL ?_;(case aP=>exact rfl);(case aB=>exact (bq));(case aF=>exact (fun _ _=>trivial));(case aO=>exact (rq HO_5.out));(case aS=>exact (jH (bq)));(case aL=>have:=LMc10.out;omega);intro v132 w12 ho hb hg hat;rw [← Ny131.out] at ho;have n0_:=am (hb);have n1_:=am (ho);clear HB HO_5;have HB:=n0_;have HO133:=n1_;clear n0_ n1_ ho hb hg hat) |((with_reducible refine je (f:=93) rfl ?_);refine gL (some 26) Try.func93 #[.slice (some ad129) l0.length c0, .int .i64 x6_1] ?_;(with_reducible refine (jTa.calls k1 _ _ l0 x6_1 t134 _ ?side1 ?side2 A11.out).mono ?_);(case side1=>exact cq (Kd.jF HR0.out HB.out));(case side2=>exact HC0.out);rintro e w' ⟨rfl,⟨nd,rfl⟩⟩;refine ⟨_,rfl,?_⟩))
       go_roundg k1
       case measure=>have:=HK1.out;omega
       case rel=>exact ⟨(y131),(t134),(sq),H',⟨by have:=HK1.out;omega⟩,⟨rq HO133.out⟩,⟨bq⟩⟩
      ·rw [if_neg c10] at H
       exact absurd H (by simp)
     ·replace c9:=Bool.eq_false_iff.mpr c9
      subst c9
      have H1:(some x5_1)=some r:=by rw [if_neg (show ¬ (false=true) by decide)] at H;exact H
      clear H
      have H:=H1
      clear H1
      obtain rfl:=Option.some.inj H
      have p129:0≤(x6_1:Int):=ozD (uq)
      have q129:x6_1<(l0.length:Int):=ozD (uq)
      obtain ⟨ad129,e129,hx129_0,hx129_1,hx129_2,hx129_3⟩:=jba HR0.out x6_1 p129 q129
      cases e129
      replace hx129_0:=cb HB.out hx129_0
      replace hx129_1:=cb HB.out hx129_1
      replace hx129_2:=cb HB.out hx129_2
      replace hx129_3:=cb HB.out hx129_3
      replace p129:=ezT p129
      replace q129:=ezT q129
      go_wp2_with (first |(go_at_call 89;(with_reducible refine (jdb.calls ((jb l0 x6_1).f1) false _ A8.out).mono ?_);rintro e w' ⟨rfl,⟨nd,rfl⟩⟩))
      go_ret
      exact ⟨_,Y0,rq HO_5.out,bq⟩
    ·rw [if_neg c7] at H
     exact absurd H (by simp)
   ·rw [if_neg c6] at H
    have c6b0:decide (x6_1<(l0.length:Int))=false:=dzF c6
    clear c6
    obtain rfl:=Option.some.inj H
    go_wp2
    go_ret
    exact ⟨_,Y0,rq HO_5.out,bq⟩
mutual
def jq.l0 : Nat → List (S52) → List Int → Int → Int → Option (Bool)
 | 0,_,_,_,_=>none
 | k+1,x0,x5,x6,x7=>if x7<(x5.length:Int) then (if 0≤x7 then (if 0≤(rd x5 x7) then (if (rd x5 x7)<(x0.length:Int) then (if ((jb x0 (rd x5 x7)).f1)=8 then (jq.j1 k x0 x5 (wrap64 (x6+1)) x7 ((jb x0 (rd x5 x7)).f1)) else (jq.j1 k x0 x5 x6 x7 ((jb x0 (rd x5 x7)).f1))) else (none)) else (none)) else (none)) else (if (x5.length:Int) > 1 then (some (decide (x6≤6))) else (some false))
def jq.j1 : Nat → List (S52) → List Int → Int → Int → Int → Option (Bool)
 | 0,_,_,_,_,_=>none
 | k+1,x0,x5,x6,x7,x8=>if x7 > 1 then (if 0≤(wrap64 (x7 - 1)) then (if (wrap64 (x7 - 1))<(x5.length:Int) then (if 0≤(rd x5 (wrap64 (x7 - 1))) then (if (rd x5 (wrap64 (x7 - 1)))<(x0.length:Int) then (if x8<((jb x0 (rd x5 (wrap64 (x7 - 1)))).f1) then (jq.j2 k x0 x5 x6 x7 true) else (if x8=((jb x0 (rd x5 (wrap64 (x7 - 1)))).f1) then (if x8=8 then (if x8=9 then (jq.j2 k x0 x5 x6 x7 (x6 == 0)) else (jq.j2 k x0 x5 x6 x7 false)) else (jq.j2 k x0 x5 x6 x7 true)) else (if x8=9 then (jq.j2 k x0 x5 x6 x7 (x6 == 0)) else (jq.j2 k x0 x5 x6 x7 false)))) else (none)) else (none)) else (none)) else (none)) else (if x8=9 then (jq.j2 k x0 x5 x6 x7 (x6 == 0)) else (jq.j2 k x0 x5 x6 x7 false))
def jq.j2 : Nat → List (S52) → List Int → Int → Int → Bool → Option (Bool)
 | 0,_,_,_,_,_=>none
 | k+1,x0,x5,x6,x7,x69=>if x69=true then (some false) else (jq.l0 k x0 x5 x6 (wrap64 (x7+1)))
end
def jq.f (k : Nat) (l0 : List (S52)) (a1 : Int) : Option (Bool) := (jma.f k l0 a1).bind fun t135 => (jq.l0 k l0 t135 0 1)
set_option maxHeartbeats 8000000 in
set_option maxRecDepth 100000 in
theorem jq.calls (k : Nat) (A0 : Option Addr) (c0 : Nat) (l0 : List (S52)) (a1 : Int) (r : Bool) (w : World) (hr0 : Kd.C k52 w A0 l0.length l0) (hc0 : l0.length ≤ c0) (h : jq.f k l0 a1 = some r) :
  Calls Try.prog 87 #[.slice A0 l0.length c0, .int .i64 a1] w fun e w'=>e=.returned (.bool r)∧Below w.heap.size w w':=by
 have HR0:=am hr0
 have HC0:=am hc0
 clear hr0 hc0
 have HB:=am (Below.refl w.heap.size w)
 have H:((jma.f k l0 a1).bind fun t135=>(jq.l0 k l0 t135 0 1))=some r:=h
 clear h
 replace H:=bzS H
 obtain ⟨t135,A30,H⟩:=H
 replace H:(jq.l0 k l0 t135 0 1)=some r:=H
 have A3:=am A30
 clear A30
 have H':=am H
 clear H
 go_enter Try.func87,Try.ntmps87
 go_wp2_with (first |((with_reducible refine je (f:=66) rfl ?_);refine gL (some 11) Try.func66 #[.slice A0 l0.length c0, .int .i64 a1] ?_;(with_reducible refine (jma.calls k _ _ l0 a1 t135 _ ?side1 ?side2 A3.out).mono ?_);(case side1=>exact Y11);(case side2=>exact HC0.out);rintro e w4 ⟨v136,rfl,ho0,hb⟩;refine ⟨_,rfl,?_⟩;have HO137:=am (Kd.jRa ho0 (jH (bq)));replace HB:=am (jd (bq) hb);(try clear hb);(try clear hb2);(try clear hk);(try clear hi);(try clear ho0)))
 go_loopg [6,7] k (fun kq v6 v7 w'=>∃ (x6_1:Int) (x7_1:Int),v6=.int .i64 x6_1∧v7=.int .i64 x7_1∧jk (jq.l0 kq l0 t135 x6_1 x7_1=some r)∧jk (kq≤k)∧jk (Kd.R (Kd.int .i64) 3 w' w.heap.size (fun _=>True) v136 t135)∧jk (Below w.heap.size w w'))
 case atStart=>exact ⟨(0),(1),(sq),(sq),H',⟨Nat.le_refl _⟩,⟨rq HO137.out⟩,⟨bq⟩⟩
 case round =>
  clear H'
  try clear p2
  obtain ⟨x6_1,x7_1,rfl,rfl,HA,HK1,HO_5,HB⟩:=hrel
  cases gk with
  | zero=>exact absurd HA.out (by simp [jq.l0])
  | succ k1 =>
   have H:=HA.out
   clear HA
   simp only [jq.l0] at H
   by_cases c5:x7_1<(t135.length:Int)
   ·rw [if_pos c5] at H
    have c5b0:decide (x7_1<(t135.length:Int))=true:=dzT c5
    clear c5
    by_cases c6:0≤x7_1
    ·rw [if_pos c6] at H
     have c6b0:decide (0≤x7_1)=true:=dzT c6
     clear c6
     by_cases c7:0≤(rd t135 x7_1)
     ·rw [if_pos c7] at H
      have c7b0:decide (0≤(rd t135 x7_1))=true:=dzT c7
      clear c7
      by_cases c8:(rd t135 x7_1)<(l0.length:Int)
      ·rw [if_pos c8] at H
       have c8b0:decide ((rd t135 x7_1)<(l0.length:Int))=true:=dzT c8
       clear c8
       have HC9:=am H
       clear H
       obtain ⟨Ao10,co10,eo10⟩:=Kd.jGa HO_5.out
       subst eo10
       have p138:0≤(x7_1:Int):=ozD (uq)
       have q138:x7_1<(t135.length:Int):=ozD (uq)
       obtain ⟨ad138,e138,hx138_0⟩:=Kd.jcb (Kd.jA HO_5.out).2.2 x7_1 p138 q138
       cases e138
       replace p138:=ezT p138
       replace q138:=ezT q138
       have p139:0≤((rd t135 x7_1):Int):=ozD (uq)
       have q139:(rd t135 x7_1)<(l0.length:Int):=ozD (uq)
       obtain ⟨ad139,e139,hx139_0,hx139_1,hx139_2,hx139_3⟩:=jba HR0.out (rd t135 x7_1) p139 q139
       cases e139
       replace hx139_0:=cb HB.out hx139_0
       replace hx139_1:=cb HB.out hx139_1
       replace hx139_2:=cb HB.out hx139_2
       replace hx139_3:=cb HB.out hx139_3
       replace p139:=ezT p139
       replace q139:=ezT q139
       go_upto_if 27 with (fail)
       go_cut [6] (fun v6 wc=>∃ (kq:Nat) (x6_8:Int),v6=.int .i64 x6_8∧jk (jq.j1 kq l0 t135 x6_8 x7_1 ((jb l0 (rd t135 x7_1)).f1)=some r)∧jk (kq≤k1)∧jk (Kd.R (Kd.int .i64) 3 wc w.heap.size (fun _=>True) (.slice (some ad138) t135.length co10) t135)∧jk (Below w.heap.size w wc))
       case first =>
        have H:=HC9.out
        clear HC9
        by_cases c11:((jb l0 (rd t135 x7_1)).f1)=8
        ·rw [if_pos c11] at H
         have c11b0:(((jb l0 (rd t135 x7_1)).f1) == 8)=true:=beq_iff_eq.mpr c11
         have c11b1:(((jb l0 (rd t135 x7_1)).f1) != 8)=false:=bne_eq_false_iff_eq.mpr c11
         clear c11
         (first | rw [c11b0] |(simp only [jub,jvb];rw [c11b0]) | skip)
         have H':=am H
         clear H
         go_wp2
         go_meet
         case rel=>exact ⟨_,(wrap64 (x6_1+1)),(sq),H',⟨by have:=HK1.out;first | omega | exact Nat.le_refl _⟩,⟨rq HO_5.out⟩,⟨bq⟩⟩
        ·rw [if_neg c11] at H
         have c11b0:(((jb l0 (rd t135 x7_1)).f1) == 8)=false:=beq_eq_false_iff_ne.mpr c11
         have c11b1:(((jb l0 (rd t135 x7_1)).f1) != 8)=true:=bne_iff_ne.mpr c11
         (first | rw [c11b0] |(simp only [jub,jvb];rw [c11b0]) | skip)
         have H':=am H
         clear H
         go_wp2
         go_meet
         case rel=>exact ⟨_,(x6_1),(sq),H',⟨by have:=HK1.out;first | omega | exact Nat.le_refl _⟩,⟨rq HO_5.out⟩,⟨bq⟩⟩
       case rest =>
        clear HC9
        try clear c1
        try clear p1
        try clear q1
        try clear hx1
        try clear p2
        try clear c5
        try clear c5b0
        try clear c6
        try clear c6b0
        try clear p6
        try clear c7
        try clear c7b0
        try clear c8
        try clear c8b0
        try clear c11
        try clear c11b0
        try clear c11b1
        try clear hx138_0
        try clear hx139_0
        try clear hx139_1
        try clear hx139_2
        try clear hx139_3
        try clear p138
        try clear p139
        try clear p2
        try clear q138
        try clear q139
        obtain ⟨kq,x6_8,rfl,HA,HJ8,HO_5,HB⟩:=hcut
        cases kq with
        | zero=>exact absurd HA.out (by simp [jq.j1])
        | succ kj8 =>
         have H:=HA.out
         clear HA
         simp only [jq.j1] at H
         have HC12:=am H
         clear H
         go_upto_region 9 with (fail)
         go_cut [69] (fun v69 wc=>∃ (kq:Nat) (x69_11:Bool),v69=.bool x69_11∧jk (jq.j2 kq l0 t135 x6_8 x7_1 x69_11=some r)∧jk (kq≤kj8)∧jk (Kd.R (Kd.int .i64) 3 wc w.heap.size (fun _=>True) (.slice (some ad138) t135.length co10) t135)∧jk (Below w.heap.size w wc))
         case first =>
          have H:=HC12.out
          clear HC12
          by_cases c13:x7_1 > 1
          ·rw [if_pos c13] at H
           have c13b0:decide (1<x7_1)=true:=dzT c13
           clear c13
           (first | rw [c13b0] |(simp only [jub,jvb];rw [c13b0]) | skip)
           obtain ⟨ji14,hji14⟩:∃ j_:Int,(wrap64 (x7_1 - 1))=j_:=⟨_,rfl⟩
           replace H:(if 0≤(ji14) then (if (ji14)<(t135.length:Int) then (if 0≤(rd t135 (ji14)) then (if (rd t135 (ji14))<(l0.length:Int) then (if ((jb l0 (rd t135 x7_1)).f1)<((jb l0 (rd t135 (ji14))).f1) then (jq.j2 kj8 l0 t135 x6_8 x7_1 true) else (if ((jb l0 (rd t135 x7_1)).f1)=((jb l0 (rd t135 (ji14))).f1) then (if ((jb l0 (rd t135 x7_1)).f1)=8 then (if ((jb l0 (rd t135 x7_1)).f1)=9 then (jq.j2 kj8 l0 t135 x6_8 x7_1 (x6_8 == 0)) else (jq.j2 kj8 l0 t135 x6_8 x7_1 false)) else (jq.j2 kj8 l0 t135 x6_8 x7_1 true)) else (if ((jb l0 (rd t135 x7_1)).f1)=9 then (jq.j2 kj8 l0 t135 x6_8 x7_1 (x6_8 == 0)) else (jq.j2 kj8 l0 t135 x6_8 x7_1 false)))) else (none)) else (none)) else (none)) else (none))=some r:=by first |(rw [hji14] at H;exact H) |(simp only [hji14] at H ⊢;exact H)
           have hji14w:(IntKind.i64.wrap (x7_1 - 1))=ji14:=(jub _).trans hji14
           by_cases c15:0≤(ji14)
           ·rw [if_pos c15] at H
            have c15b0:decide (0≤(ji14))=true:=dzT c15
            clear c15
            by_cases c16:(ji14)<(t135.length:Int)
            ·rw [if_pos c16] at H
             have c16b0:decide ((ji14)<(t135.length:Int))=true:=dzT c16
             clear c16
             by_cases c17:0≤(rd t135 (ji14))
             ·rw [if_pos c17] at H
              have c17b0:decide (0≤(rd t135 (ji14)))=true:=dzT c17
              clear c17
              by_cases c18:(rd t135 (ji14))<(l0.length:Int)
              ·rw [if_pos c18] at H
               have c18b0:decide ((rd t135 (ji14))<(l0.length:Int))=true:=dzT c18
               clear c18
               by_cases c19:((jb l0 (rd t135 x7_1)).f1)<((jb l0 (rd t135 (ji14))).f1)
               ·rw [if_pos c19] at H
                have c19b0:decide (((jb l0 (rd t135 x7_1)).f1)<((jb l0 (rd t135 (ji14))).f1))=true:=dzT c19
                clear c19
                have H':=am H
                clear H
                have p140:0≤((ji14):Int):=ozD (uq)
                have q140:(ji14)<(t135.length:Int):=ozD (uq)
                obtain ⟨ad140,e140,hx140_0⟩:=Kd.jcb (Kd.jA HO_5.out).2.2 (ji14) p140 q140
                obtain rfl:ad138=ad140:=(by injection e140)
                replace p140:=ezT p140
                replace q140:=ezT q140
                have p141:0≤((rd t135 (ji14)):Int):=ozD (uq)
                have q141:(rd t135 (ji14))<(l0.length:Int):=ozD (uq)
                obtain ⟨ad141,e141,hx141_0,hx141_1,hx141_2,hx141_3⟩:=jba HR0.out (rd t135 (ji14)) p141 q141
                obtain rfl:ad139=ad141:=(by injection e141)
                replace hx141_0:=cb HB.out hx141_0
                replace hx141_1:=cb HB.out hx141_1
                replace hx141_2:=cb HB.out hx141_2
                replace hx141_3:=cb HB.out hx141_3
                replace p141:=ezT p141
                replace q141:=ezT q141
                go_wp2
                go_meet
                case rel=>exact ⟨_,(true),(sq),H',⟨by have:=HK1.out;have:=HJ8.out;first | omega | exact Nat.le_refl _⟩,⟨rq HO_5.out⟩,⟨bq⟩⟩
               ·rw [if_neg c19] at H
                have c19b0:decide (((jb l0 (rd t135 x7_1)).f1)<((jb l0 (rd t135 (ji14))).f1))=false:=dzF c19
                clear c19
                by_cases c20:((jb l0 (rd t135 x7_1)).f1)=((jb l0 (rd t135 (ji14))).f1)
                ·rw [if_pos c20] at H
                 have c20b0:(((jb l0 (rd t135 x7_1)).f1) == ((jb l0 (rd t135 (ji14))).f1))=true:=beq_iff_eq.mpr c20
                 have c20b1:(((jb l0 (rd t135 x7_1)).f1) != ((jb l0 (rd t135 (ji14))).f1))=false:=bne_eq_false_iff_eq.mpr c20
                 clear c20
                 by_cases c21:((jb l0 (rd t135 x7_1)).f1)=8
                 ·rw [if_pos c21] at H
                  have c21b0:(((jb l0 (rd t135 x7_1)).f1) == 8)=true:=beq_iff_eq.mpr c21
                  have c21b1:(((jb l0 (rd t135 x7_1)).f1) != 8)=false:=bne_eq_false_iff_eq.mpr c21
                  clear c21
                  by_cases c22:((jb l0 (rd t135 x7_1)).f1)=9
                  ·rw [if_pos c22] at H
                   have c22b0:(((jb l0 (rd t135 x7_1)).f1) == 9)=true:=beq_iff_eq.mpr c22
                   have c22b1:(((jb l0 (rd t135 x7_1)).f1) != 9)=false:=bne_eq_false_iff_eq.mpr c22
                   clear c22
                   have H':=am H
                   clear H
                   have p140:0≤((ji14):Int):=ozD (uq)
                   have q140:(ji14)<(t135.length:Int):=ozD (uq)
                   obtain ⟨ad140,e140,hx140_0⟩:=Kd.jcb (Kd.jA HO_5.out).2.2 (ji14) p140 q140
                   obtain rfl:ad138=ad140:=(by injection e140)
                   replace p140:=ezT p140
                   replace q140:=ezT q140
                   have p141:0≤((rd t135 (ji14)):Int):=ozD (uq)
                   have q141:(rd t135 (ji14))<(l0.length:Int):=ozD (uq)
                   obtain ⟨ad141,e141,hx141_0,hx141_1,hx141_2,hx141_3⟩:=jba HR0.out (rd t135 (ji14)) p141 q141
                   obtain rfl:ad139=ad141:=(by injection e141)
                   replace hx141_0:=cb HB.out hx141_0
                   replace hx141_1:=cb HB.out hx141_1
                   replace hx141_2:=cb HB.out hx141_2
                   replace hx141_3:=cb HB.out hx141_3
                   replace p141:=ezT p141
                   replace q141:=ezT q141
                   have p142:0≤((ji14):Int):=ozD (uq)
                   have q142:(ji14)<(t135.length:Int):=ozD (uq)
                   obtain ⟨ad142,e142,hx142_0⟩:=Kd.jcb (Kd.jA HO_5.out).2.2 (ji14) p142 q142
                   obtain rfl:ad138=ad142:=(by injection e142)
                   replace p142:=ezT p142
                   replace q142:=ezT q142
                   have p143:0≤((rd t135 (ji14)):Int):=ozD (uq)
                   have q143:(rd t135 (ji14))<(l0.length:Int):=ozD (uq)
                   obtain ⟨ad143,e143,hx143_0,hx143_1,hx143_2,hx143_3⟩:=jba HR0.out (rd t135 (ji14)) p143 q143
                   obtain rfl:ad139=ad143:=(by injection e143)
                   replace hx143_0:=cb HB.out hx143_0
                   replace hx143_1:=cb HB.out hx143_1
                   replace hx143_2:=cb HB.out hx143_2
                   replace hx143_3:=cb HB.out hx143_3
                   replace p143:=ezT p143
                   replace q143:=ezT q143
                   go_wp2
                   go_meet
                   case rel=>exact ⟨_,((x6_8 == 0)),(sq),H',⟨by have:=HK1.out;have:=HJ8.out;first | omega | exact Nat.le_refl _⟩,⟨rq HO_5.out⟩,⟨bq⟩⟩
                  ·rw [if_neg c22] at H
                   have c22b0:(((jb l0 (rd t135 x7_1)).f1) == 9)=false:=beq_eq_false_iff_ne.mpr c22
                   have c22b1:(((jb l0 (rd t135 x7_1)).f1) != 9)=true:=bne_iff_ne.mpr c22
                   have H':=am H
                   clear H
                   have p140:0≤((ji14):Int):=ozD (uq)
                   have q140:(ji14)<(t135.length:Int):=ozD (uq)
                   obtain ⟨ad140,e140,hx140_0⟩:=Kd.jcb (Kd.jA HO_5.out).2.2 (ji14) p140 q140
                   obtain rfl:ad138=ad140:=(by injection e140)
                   replace p140:=ezT p140
                   replace q140:=ezT q140
                   have p141:0≤((rd t135 (ji14)):Int):=ozD (uq)
                   have q141:(rd t135 (ji14))<(l0.length:Int):=ozD (uq)
                   obtain ⟨ad141,e141,hx141_0,hx141_1,hx141_2,hx141_3⟩:=jba HR0.out (rd t135 (ji14)) p141 q141
                   obtain rfl:ad139=ad141:=(by injection e141)
                   replace hx141_0:=cb HB.out hx141_0
                   replace hx141_1:=cb HB.out hx141_1
                   replace hx141_2:=cb HB.out hx141_2
                   replace hx141_3:=cb HB.out hx141_3
                   replace p141:=ezT p141
                   replace q141:=ezT q141
                   have p142:0≤((ji14):Int):=ozD (uq)
                   have q142:(ji14)<(t135.length:Int):=ozD (uq)
                   obtain ⟨ad142,e142,hx142_0⟩:=Kd.jcb (Kd.jA HO_5.out).2.2 (ji14) p142 q142
                   obtain rfl:ad138=ad142:=(by injection e142)
                   replace p142:=ezT p142
                   replace q142:=ezT q142
                   have p143:0≤((rd t135 (ji14)):Int):=ozD (uq)
                   have q143:(rd t135 (ji14))<(l0.length:Int):=ozD (uq)
                   obtain ⟨ad143,e143,hx143_0,hx143_1,hx143_2,hx143_3⟩:=jba HR0.out (rd t135 (ji14)) p143 q143
                   obtain rfl:ad139=ad143:=(by injection e143)
                   replace hx143_0:=cb HB.out hx143_0
                   replace hx143_1:=cb HB.out hx143_1
                   replace hx143_2:=cb HB.out hx143_2
                   replace hx143_3:=cb HB.out hx143_3
                   replace p143:=ezT p143
                   replace q143:=ezT q143
                   go_wp2
                   go_meet
                   case rel=>exact ⟨_,(false),(sq),H',⟨by have:=HK1.out;have:=HJ8.out;first | omega | exact Nat.le_refl _⟩,⟨rq HO_5.out⟩,⟨bq⟩⟩
                 ·rw [if_neg c21] at H
                  have c21b0:(((jb l0 (rd t135 x7_1)).f1) == 8)=false:=beq_eq_false_iff_ne.mpr c21
                  have c21b1:(((jb l0 (rd t135 x7_1)).f1) != 8)=true:=bne_iff_ne.mpr c21
                  have H':=am H
                  clear H
                  have p140:0≤((ji14):Int):=ozD (uq)
                  have q140:(ji14)<(t135.length:Int):=ozD (uq)
                  obtain ⟨ad140,e140,hx140_0⟩:=Kd.jcb (Kd.jA HO_5.out).2.2 (ji14) p140 q140
                  obtain rfl:ad138=ad140:=(by injection e140)
                  replace p140:=ezT p140
                  replace q140:=ezT q140
                  have p141:0≤((rd t135 (ji14)):Int):=ozD (uq)
                  have q141:(rd t135 (ji14))<(l0.length:Int):=ozD (uq)
                  obtain ⟨ad141,e141,hx141_0,hx141_1,hx141_2,hx141_3⟩:=jba HR0.out (rd t135 (ji14)) p141 q141
                  obtain rfl:ad139=ad141:=(by injection e141)
                  replace hx141_0:=cb HB.out hx141_0
                  replace hx141_1:=cb HB.out hx141_1
                  replace hx141_2:=cb HB.out hx141_2
                  replace hx141_3:=cb HB.out hx141_3
                  replace p141:=ezT p141
                  replace q141:=ezT q141
                  have p142:0≤((ji14):Int):=ozD (uq)
                  have q142:(ji14)<(t135.length:Int):=ozD (uq)
                  obtain ⟨ad142,e142,hx142_0⟩:=Kd.jcb (Kd.jA HO_5.out).2.2 (ji14) p142 q142
                  obtain rfl:ad138=ad142:=(by injection e142)
                  replace p142:=ezT p142
                  replace q142:=ezT q142
                  have p143:0≤((rd t135 (ji14)):Int):=ozD (uq)
                  have q143:(rd t135 (ji14))<(l0.length:Int):=ozD (uq)
                  obtain ⟨ad143,e143,hx143_0,hx143_1,hx143_2,hx143_3⟩:=jba HR0.out (rd t135 (ji14)) p143 q143
                  obtain rfl:ad139=ad143:=(by injection e143)
                  replace hx143_0:=cb HB.out hx143_0
                  replace hx143_1:=cb HB.out hx143_1
                  replace hx143_2:=cb HB.out hx143_2
                  replace hx143_3:=cb HB.out hx143_3
                  replace p143:=ezT p143
                  replace q143:=ezT q143
                  go_wp2
                  go_meet
                  case rel=>exact ⟨_,(true),(sq),H',⟨by have:=HK1.out;have:=HJ8.out;first | omega | exact Nat.le_refl _⟩,⟨rq HO_5.out⟩,⟨bq⟩⟩
                ·rw [if_neg c20] at H
                 have c20b0:(((jb l0 (rd t135 x7_1)).f1) == ((jb l0 (rd t135 (ji14))).f1))=false:=beq_eq_false_iff_ne.mpr c20
                 have c20b1:(((jb l0 (rd t135 x7_1)).f1) != ((jb l0 (rd t135 (ji14))).f1))=true:=bne_iff_ne.mpr c20
                 by_cases c23:((jb l0 (rd t135 x7_1)).f1)=9
                 ·rw [if_pos c23] at H
                  have c23b0:(((jb l0 (rd t135 x7_1)).f1) == 9)=true:=beq_iff_eq.mpr c23
                  have c23b1:(((jb l0 (rd t135 x7_1)).f1) != 9)=false:=bne_eq_false_iff_eq.mpr c23
                  clear c23
                  have H':=am H
                  clear H
                  have p140:0≤((ji14):Int):=ozD (uq)
                  have q140:(ji14)<(t135.length:Int):=ozD (uq)
                  obtain ⟨ad140,e140,hx140_0⟩:=Kd.jcb (Kd.jA HO_5.out).2.2 (ji14) p140 q140
                  obtain rfl:ad138=ad140:=(by injection e140)
                  replace p140:=ezT p140
                  replace q140:=ezT q140
                  have p141:0≤((rd t135 (ji14)):Int):=ozD (uq)
                  have q141:(rd t135 (ji14))<(l0.length:Int):=ozD (uq)
                  obtain ⟨ad141,e141,hx141_0,hx141_1,hx141_2,hx141_3⟩:=jba HR0.out (rd t135 (ji14)) p141 q141
                  obtain rfl:ad139=ad141:=(by injection e141)
                  replace hx141_0:=cb HB.out hx141_0
                  replace hx141_1:=cb HB.out hx141_1
                  replace hx141_2:=cb HB.out hx141_2
                  replace hx141_3:=cb HB.out hx141_3
                  replace p141:=ezT p141
                  replace q141:=ezT q141
                  have p142:0≤((ji14):Int):=ozD (uq)
                  have q142:(ji14)<(t135.length:Int):=ozD (uq)
                  obtain ⟨ad142,e142,hx142_0⟩:=Kd.jcb (Kd.jA HO_5.out).2.2 (ji14) p142 q142
                  obtain rfl:ad138=ad142:=(by injection e142)
                  replace p142:=ezT p142
                  replace q142:=ezT q142
                  have p143:0≤((rd t135 (ji14)):Int):=ozD (uq)
                  have q143:(rd t135 (ji14))<(l0.length:Int):=ozD (uq)
                  obtain ⟨ad143,e143,hx143_0,hx143_1,hx143_2,hx143_3⟩:=jba HR0.out (rd t135 (ji14)) p143 q143
                  obtain rfl:ad139=ad143:=(by injection e143)
                  replace hx143_0:=cb HB.out hx143_0
                  replace hx143_1:=cb HB.out hx143_1
                  replace hx143_2:=cb HB.out hx143_2
                  replace hx143_3:=cb HB.out hx143_3
                  replace p143:=ezT p143
                  replace q143:=ezT q143
                  go_wp2
                  go_meet
                  case rel=>exact ⟨_,((x6_8 == 0)),(sq),H',⟨by have:=HK1.out;have:=HJ8.out;first | omega | exact Nat.le_refl _⟩,⟨rq HO_5.out⟩,⟨bq⟩⟩
                 ·rw [if_neg c23] at H
                  have c23b0:(((jb l0 (rd t135 x7_1)).f1) == 9)=false:=beq_eq_false_iff_ne.mpr c23
                  have c23b1:(((jb l0 (rd t135 x7_1)).f1) != 9)=true:=bne_iff_ne.mpr c23
                  have H':=am H
                  clear H
                  have p140:0≤((ji14):Int):=ozD (uq)
                  have q140:(ji14)<(t135.length:Int):=ozD (uq)
                  obtain ⟨ad140,e140,hx140_0⟩:=Kd.jcb (Kd.jA HO_5.out).2.2 (ji14) p140 q140
                  obtain rfl:ad138=ad140:=(by injection e140)
                  replace p140:=ezT p140
                  replace q140:=ezT q140
                  have p141:0≤((rd t135 (ji14)):Int):=ozD (uq)
                  have q141:(rd t135 (ji14))<(l0.length:Int):=ozD (uq)
                  obtain ⟨ad141,e141,hx141_0,hx141_1,hx141_2,hx141_3⟩:=jba HR0.out (rd t135 (ji14)) p141 q141
                  obtain rfl:ad139=ad141:=(by injection e141)
                  replace hx141_0:=cb HB.out hx141_0
                  replace hx141_1:=cb HB.out hx141_1
                  replace hx141_2:=cb HB.out hx141_2
                  replace hx141_3:=cb HB.out hx141_3
                  replace p141:=ezT p141
                  replace q141:=ezT q141
                  have p142:0≤((ji14):Int):=ozD (uq)
                  have q142:(ji14)<(t135.length:Int):=ozD (uq)
                  obtain ⟨ad142,e142,hx142_0⟩:=Kd.jcb (Kd.jA HO_5.out).2.2 (ji14) p142 q142
                  obtain rfl:ad138=ad142:=(by injection e142)
                  replace p142:=ezT p142
                  replace q142:=ezT q142
                  have p143:0≤((rd t135 (ji14)):Int):=ozD (uq)
                  have q143:(rd t135 (ji14))<(l0.length:Int):=ozD (uq)
                  obtain ⟨ad143,e143,hx143_0,hx143_1,hx143_2,hx143_3⟩:=jba HR0.out (rd t135 (ji14)) p143 q143
                  obtain rfl:ad139=ad143:=(by injection e143)
                  replace hx143_0:=cb HB.out hx143_0
                  replace hx143_1:=cb HB.out hx143_1
                  replace hx143_2:=cb HB.out hx143_2
                  replace hx143_3:=cb HB.out hx143_3
                  replace p143:=ezT p143
                  replace q143:=ezT q143
                  go_wp2
                  go_meet
                  case rel=>exact ⟨_,(false),(sq),H',⟨by have:=HK1.out;have:=HJ8.out;first | omega | exact Nat.le_refl _⟩,⟨rq HO_5.out⟩,⟨bq⟩⟩
              ·rw [if_neg c18] at H
               exact absurd H (by simp)
             ·rw [if_neg c17] at H
              exact absurd H (by simp)
            ·rw [if_neg c16] at H
             exact absurd H (by simp)
           ·rw [if_neg c15] at H
            exact absurd H (by simp)
          ·rw [if_neg c13] at H
           have c13b0:decide (1<x7_1)=false:=dzF c13
           clear c13
           (first | rw [c13b0] |(simp only [jub,jvb];rw [c13b0]) | skip)
           by_cases c24:((jb l0 (rd t135 x7_1)).f1)=9
           ·rw [if_pos c24] at H
            have c24b0:(((jb l0 (rd t135 x7_1)).f1) == 9)=true:=beq_iff_eq.mpr c24
            have c24b1:(((jb l0 (rd t135 x7_1)).f1) != 9)=false:=bne_eq_false_iff_eq.mpr c24
            clear c24
            have H':=am H
            clear H
            go_wp2
            go_meet
            case rel=>exact ⟨_,((x6_8 == 0)),(sq),H',⟨by have:=HK1.out;have:=HJ8.out;first | omega | exact Nat.le_refl _⟩,⟨rq HO_5.out⟩,⟨bq⟩⟩
           ·rw [if_neg c24] at H
            have c24b0:(((jb l0 (rd t135 x7_1)).f1) == 9)=false:=beq_eq_false_iff_ne.mpr c24
            have c24b1:(((jb l0 (rd t135 x7_1)).f1) != 9)=true:=bne_iff_ne.mpr c24
            have H':=am H
            clear H
            go_wp2
            go_meet
            case rel=>exact ⟨_,(false),(sq),H',⟨by have:=HK1.out;have:=HJ8.out;first | omega | exact Nat.le_refl _⟩,⟨rq HO_5.out⟩,⟨bq⟩⟩
         case rest =>
          clear HC12
          try clear c1
          try clear p1
          try clear q1
          try clear hx1
          try clear c2
          try clear p2
          try clear c5
          try clear c5b0
          try clear c6
          try clear c6b0
          try clear p6
          try clear c7
          try clear c7b0
          try clear c8
          try clear c8b0
          try clear c11
          try clear c11b0
          try clear c11b1
          try clear c13
          try clear c13b0
          try clear p13
          try clear q13
          try clear hx13
          try clear p14
          try clear q14
          try clear hx14
          try clear c15
          try clear c15b0
          try clear c16
          try clear c16b0
          try clear c17
          try clear c17b0
          try clear c18
          try clear c18b0
          try clear c19
          try clear c19b0
          try clear c20
          try clear c20b0
          try clear c20b1
          try clear c21
          try clear c21b0
          try clear c21b1
          try clear c22
          try clear c22b0
          try clear c22b1
          try clear c23
          try clear c23b0
          try clear c23b1
          try clear c24
          try clear c24b0
          try clear c24b1
          try clear hx138_0
          try clear hx139_0
          try clear hx139_1
          try clear hx139_2
          try clear hx139_3
          try clear hx140_0
          try clear hx141_0
          try clear hx141_1
          try clear hx141_2
          try clear hx141_3
          try clear hx142_0
          try clear hx143_0
          try clear hx143_1
          try clear hx143_2
          try clear hx143_3
          try clear p1
          try clear p138
          try clear p139
          try clear p140
          try clear p141
          try clear p142
          try clear p143
          try clear p2
          try clear p6
          try clear q1
          try clear q138
          try clear q139
          try clear q140
          try clear q141
          try clear q142
          try clear q143
          obtain ⟨kq,x69_11,rfl,HA,HJ11,HO_5,HB⟩:=hcut
          cases kq with
          | zero=>exact absurd HA.out (by simp [jq.j2])
          | succ kj11 =>
           have H:=HA.out
           clear HA
           simp only [jq.j2] at H
           by_cases c25:x69_11=true
           ·subst c25
            have H1:(some false)=some r:=by rw [if_pos rfl] at H;exact H
            clear H
            have H:=H1
            clear H1
            obtain rfl:=Option.some.inj H
            go_wp2
            go_ret
            exact ⟨Y0,bq⟩
           ·replace c25:=Bool.eq_false_iff.mpr c25
            subst c25
            have H1:(jq.l0 kj11 l0 t135 x6_8 (wrap64 (x7_1+1)))=some r:=by rw [if_neg (show ¬ (false=true) by decide)] at H;exact H
            clear H
            have H:=H1
            clear H1
            have H':=am H
            clear H
            go_wp2
            go_roundg kj11
            case measure=>have:=HK1.out;have:=HJ8.out;have:=HJ11.out;omega
            case rel=>exact ⟨(x6_8),(wrap64 (x7_1+1)),(sq),(sq),H',⟨by have:=HK1.out;have:=HJ8.out;have:=HJ11.out;omega⟩,⟨rq HO_5.out⟩,⟨bq⟩⟩
      ·rw [if_neg c8] at H
       exact absurd H (by simp)
     ·rw [if_neg c7] at H
      exact absurd H (by simp)
    ·rw [if_neg c6] at H
     exact absurd H (by simp)
   ·rw [if_neg c5] at H
    have c5b0:decide (x7_1<(t135.length:Int))=false:=dzF c5
    clear c5
    by_cases c26:(t135.length:Int) > 1
    ·rw [if_pos c26] at H
     have c26b0:decide (1<(t135.length:Int))=true:=dzT c26
     have c26b1:decide (1<t135.length)=true:=dzT (by omega)
     clear c26
     obtain rfl:=Option.some.inj H
     obtain ⟨Ao27,co27,eo27⟩:=Kd.jGa HO_5.out
     subst eo27
     go_wp2
     go_ret
     exact ⟨Y0,bq⟩
    ·rw [if_neg c26] at H
     have c26b0:decide (1<(t135.length:Int))=false:=dzF c26
     have c26b1:decide (1<t135.length)=false:=dzF (by omega)
     clear c26
     obtain rfl:=Option.some.inj H
     obtain ⟨Ao28,co28,eo28⟩:=Kd.jGa HO_5.out
     subst eo28
     go_wp2
     go_ret
     exact ⟨Y0,bq⟩
def jLa.l0 : Nat → List (S52) → Int → Int → Option (Bool)
 | 0,_,_,_=>none
 | k+1,x0,x5,x6=>if x6≥0 then (if 0≤x6 then (if x6<(x0.length:Int) then (if ((jb x0 x6).f0)<x5 then (if ((jb x0 x6).f1)=12 then (some true) else (jLa.l0 k x0 ((jb x0 x6).f0) (wrap64 (x6 - 1)))) else (jLa.l0 k x0 x5 (wrap64 (x6 - 1)))) else (none)) else (none)) else (some false)
def jLa.f (k : Nat) (l0 : List (S52)) (a1 : Int) : Option (Bool) := if 0 ≤ a1 then (if a1 < (l0.length : Int) then (jLa.l0 k l0 ((jb l0 a1).f0) (wrap64 (a1 - 1))) else (none)) else (none)
set_option maxHeartbeats 8000000 in
set_option maxRecDepth 100000 in
theorem jLa.calls (k : Nat) (A0 : Option Addr) (c0 : Nat) (l0 : List (S52)) (a1 : Int) (r : Bool) (w : World) (hr0 : Kd.C k52 w A0 l0.length l0) (hc0 : l0.length ≤ c0) (h : jLa.f k l0 a1 = some r) :
  Calls Try.prog 88 #[.slice A0 l0.length c0, .int .i64 a1] w fun e w'=>e=.returned (.bool r)∧jKa w w':=by
 have HR0:=am hr0
 have HC0:=am hc0
 clear hr0 hc0
 have H:(if 0≤a1 then (if a1<(l0.length:Int) then (jLa.l0 k l0 ((jb l0 a1).f0) (wrap64 (a1 - 1))) else (none)) else (none))=some r:=h
 clear h
 by_cases c3:0≤a1
 ·rw [if_pos c3] at H
  have c3b0:decide (0≤a1)=true:=dzT c3
  clear c3
  by_cases c4:a1<(l0.length:Int)
  ·rw [if_pos c4] at H
   have c4b0:decide (a1<(l0.length:Int))=true:=dzT c4
   clear c4
   have H':=am H
   clear H
   have p144:0≤(a1:Int):=ozD (uq)
   have q144:a1<(l0.length:Int):=ozD (uq)
   obtain ⟨ad144,e144,hx144_0,hx144_1,hx144_2,hx144_3⟩:=jba HR0.out a1 p144 q144
   cases e144
   replace p144:=ezT p144
   replace q144:=ezT q144
   go_enter Try.func88,Try.ntmps88
   go_wp2
   go_loopg [5,6] k (fun kq v5 v6 w'=>∃ (x5_1:Int) (x6_1:Int),v5=.int .i64 x5_1∧v6=.int .i64 x6_1∧jk (jLa.l0 kq l0 x5_1 x6_1=some r)∧jk (kq≤k)∧jKa w w')
   case atStart=>exact ⟨((jb l0 a1).f0),(wrap64 (a1 - 1)),(sq),(sq),H',⟨Nat.le_refl _⟩,Y2⟩
   case round =>
    clear H'
    try clear p1
    try clear q1
    try clear hx1
    try clear p2
    try clear c3
    try clear c3b0
    try clear c4
    try clear c4b0
    try clear hx144_0
    try clear hx144_1
    try clear hx144_2
    try clear hx144_3
    try clear p144
    try clear q144
    obtain ⟨x5_1,x6_1,rfl,rfl,HA,HK1,⟨m1,rfl⟩⟩:=hrel
    cases gk with
    | zero=>exact absurd HA.out (by simp [jLa.l0])
    | succ k1 =>
     have H:=HA.out
     clear HA
     simp only [jLa.l0] at H
     by_cases c5:x6_1≥0
     ·rw [if_pos c5] at H
      have c5b0:decide (0≤x6_1)=true:=dzT c5
      clear c5
      by_cases c6:0≤x6_1
      ·rw [if_pos c6] at H
       have c6b0:decide (0≤x6_1)=true:=dzT c6
       clear c6
       by_cases c7:x6_1<(l0.length:Int)
       ·rw [if_pos c7] at H
        have c7b0:decide (x6_1<(l0.length:Int))=true:=dzT c7
        clear c7
        by_cases c8:((jb l0 x6_1).f0)<x5_1
        ·rw [if_pos c8] at H
         have c8b0:decide (((jb l0 x6_1).f0)<x5_1)=true:=dzT c8
         clear c8
         by_cases c9:((jb l0 x6_1).f1)=12
         ·rw [if_pos c9] at H
          have c9b0:(((jb l0 x6_1).f1) == 12)=true:=beq_iff_eq.mpr c9
          have c9b1:(((jb l0 x6_1).f1) != 12)=false:=bne_eq_false_iff_eq.mpr c9
          clear c9
          obtain rfl:=Option.some.inj H
          have p145:0≤(x6_1:Int):=ozD (uq)
          have q145:x6_1<(l0.length:Int):=ozD (uq)
          obtain ⟨ad145,e145,hx145_0,hx145_1,hx145_2,hx145_3⟩:=jba HR0.out x6_1 p145 q145
          obtain rfl:ad144=ad145:=(by injection e145)
          replace p145:=ezT p145
          replace q145:=ezT q145
          have p146:0≤(x6_1:Int):=ozD (uq)
          have q146:x6_1<(l0.length:Int):=ozD (uq)
          obtain ⟨ad146,e146,hx146_0,hx146_1,hx146_2,hx146_3⟩:=jba HR0.out x6_1 p146 q146
          obtain rfl:ad144=ad146:=(by injection e146)
          replace p146:=ezT p146
          replace q146:=ezT q146
          have p147:0≤(x6_1:Int):=ozD (uq)
          have q147:x6_1<(l0.length:Int):=ozD (uq)
          obtain ⟨ad147,e147,hx147_0,hx147_1,hx147_2,hx147_3⟩:=jba HR0.out x6_1 p147 q147
          obtain rfl:ad144=ad147:=(by injection e147)
          replace p147:=ezT p147
          replace q147:=ezT q147
          go_wp2
          go_ret
          exact ⟨sq,Y2⟩
         ·rw [if_neg c9] at H
          have c9b0:(((jb l0 x6_1).f1) == 12)=false:=beq_eq_false_iff_ne.mpr c9
          have c9b1:(((jb l0 x6_1).f1) != 12)=true:=bne_iff_ne.mpr c9
          have H':=am H
          clear H
          have p145:0≤(x6_1:Int):=ozD (uq)
          have q145:x6_1<(l0.length:Int):=ozD (uq)
          obtain ⟨ad145,e145,hx145_0,hx145_1,hx145_2,hx145_3⟩:=jba HR0.out x6_1 p145 q145
          obtain rfl:ad144=ad145:=(by injection e145)
          replace p145:=ezT p145
          replace q145:=ezT q145
          have p146:0≤(x6_1:Int):=ozD (uq)
          have q146:x6_1<(l0.length:Int):=ozD (uq)
          obtain ⟨ad146,e146,hx146_0,hx146_1,hx146_2,hx146_3⟩:=jba HR0.out x6_1 p146 q146
          obtain rfl:ad144=ad146:=(by injection e146)
          replace p146:=ezT p146
          replace q146:=ezT q146
          have p147:0≤(x6_1:Int):=ozD (uq)
          have q147:x6_1<(l0.length:Int):=ozD (uq)
          obtain ⟨ad147,e147,hx147_0,hx147_1,hx147_2,hx147_3⟩:=jba HR0.out x6_1 p147 q147
          obtain rfl:ad144=ad147:=(by injection e147)
          replace p147:=ezT p147
          replace q147:=ezT q147
          go_wp2
          go_roundg k1
          case measure=>have:=HK1.out;omega
          case rel=>exact ⟨((jb l0 x6_1).f0),(wrap64 (x6_1 - 1)),(sq),(sq),H',⟨by have:=HK1.out;omega⟩,Y2⟩
        ·rw [if_neg c8] at H
         have c8b0:decide (((jb l0 x6_1).f0)<x5_1)=false:=dzF c8
         clear c8
         have H':=am H
         clear H
         have p145:0≤(x6_1:Int):=ozD (uq)
         have q145:x6_1<(l0.length:Int):=ozD (uq)
         obtain ⟨ad145,e145,hx145_0,hx145_1,hx145_2,hx145_3⟩:=jba HR0.out x6_1 p145 q145
         obtain rfl:ad144=ad145:=(by injection e145)
         replace p145:=ezT p145
         replace q145:=ezT q145
         go_wp2
         go_roundg k1
         case measure=>have:=HK1.out;omega
         case rel=>exact ⟨(x5_1),(wrap64 (x6_1 - 1)),(sq),(sq),H',⟨by have:=HK1.out;omega⟩,Y2⟩
       ·rw [if_neg c7] at H
        exact absurd H (by simp)
      ·rw [if_neg c6] at H
       exact absurd H (by simp)
     ·rw [if_neg c5] at H
      have c5b0:decide (0≤x6_1)=false:=dzF c5
      clear c5
      obtain rfl:=Option.some.inj H
      go_wp2
      go_ret
      exact ⟨sq,Y2⟩
  ·rw [if_neg c4] at H
   exact absurd H (by simp)
 ·rw [if_neg c3] at H
  exact absurd H (by simp)
def jMa.l0 : Nat → List (S52) → Int → Int → Option (Int)
 | 0,_,_,_=>none
 | k+1,x0,x1,x5=>if x5≥0 then (if 0≤x5 then (if x5<(x0.length:Int) then (if 0≤x1 then (if x1<(x0.length:Int) then (if ((jb x0 x5).f0)<((jb x0 x1).f0) then (some (-1)) else (if ((jb x0 x5).f0)=((jb x0 x1).f0) then (some x5) else (jMa.l0 k x0 x1 (wrap64 (x5 - 1))))) else (none)) else (none)) else (none)) else (none)) else (some (-1))
def jMa.f (k : Nat) (l0 : List (S52)) (a1 : Int) : Option (Int) := jMa.l0 k l0 a1 (wrap64 (a1 - 1))
set_option maxHeartbeats 8000000 in
set_option maxRecDepth 100000 in
theorem jMa.calls (k : Nat) (A0 : Option Addr) (c0 : Nat) (l0 : List (S52)) (a1 : Int) (r : Int) (w : World) (hr0 : Kd.C k52 w A0 l0.length l0) (hc0 : l0.length ≤ c0) (h : jMa.f k l0 a1 = some r) :
  Calls Try.prog 90 #[.slice A0 l0.length c0, .int .i64 a1] w fun e w'=>e=.returned (.int .i64 r)∧jKa w w':=by
 have HR0:=am hr0
 have HC0:=am hc0
 clear hr0 hc0
 have H:(jMa.l0 k l0 a1 (wrap64 (a1 - 1)))=some r:=h
 clear h
 have H':=am H
 clear H
 go_enter Try.func90,Try.ntmps90
 go_wp2
 repeat (go_quiet (fail);try go_wp2)
 go_loopg [5] k (fun kq v5 w'=>∃ (x5_1:Int),v5=.int .i64 x5_1∧jk (jMa.l0 kq l0 a1 x5_1=some r)∧jk (kq≤k)∧jKa w w')
 case atStart=>exact ⟨(wrap64 (a1 - 1)),(sq),H',⟨Nat.le_refl _⟩,Y2⟩
 case round =>
  clear H'
  try clear p2
  obtain ⟨x5_1,rfl,HA,HK1,⟨m1,rfl⟩⟩:=hrel
  cases gk with
  | zero=>exact absurd HA.out (by simp [jMa.l0])
  | succ k1 =>
   have H:=HA.out
   clear HA
   simp only [jMa.l0] at H
   by_cases c3:x5_1≥0
   ·rw [if_pos c3] at H
    have c3b0:decide (0≤x5_1)=true:=dzT c3
    clear c3
    by_cases c4:0≤x5_1
    ·rw [if_pos c4] at H
     have c4b0:decide (0≤x5_1)=true:=dzT c4
     clear c4
     by_cases c5:x5_1<(l0.length:Int)
     ·rw [if_pos c5] at H
      have c5b0:decide (x5_1<(l0.length:Int))=true:=dzT c5
      clear c5
      by_cases c6:0≤a1
      ·rw [if_pos c6] at H
       have c6b0:decide (0≤a1)=true:=dzT c6
       clear c6
       by_cases c7:a1<(l0.length:Int)
       ·rw [if_pos c7] at H
        have c7b0:decide (a1<(l0.length:Int))=true:=dzT c7
        clear c7
        by_cases c8:((jb l0 x5_1).f0)<((jb l0 a1).f0)
        ·rw [if_pos c8] at H
         have c8b0:decide (((jb l0 x5_1).f0)<((jb l0 a1).f0))=true:=dzT c8
         clear c8
         obtain rfl:=Option.some.inj H
         have p148:0≤(x5_1:Int):=ozD (uq)
         have q148:x5_1<(l0.length:Int):=ozD (uq)
         obtain ⟨ad148,e148,hx148_0,hx148_1,hx148_2,hx148_3⟩:=jba HR0.out x5_1 p148 q148
         cases e148
         replace p148:=ezT p148
         replace q148:=ezT q148
         have p149:0≤(a1:Int):=ozD (uq)
         have q149:a1<(l0.length:Int):=ozD (uq)
         obtain ⟨ad149,e149,hx149_0,hx149_1,hx149_2,hx149_3⟩:=jba HR0.out a1 p149 q149
         obtain rfl:ad148=ad149:=(by injection e149)
         replace p149:=ezT p149
         replace q149:=ezT q149
         go_wp2
         repeat (go_quiet (fail);try go_wp2)
         go_ret
         exact ⟨sq,Y2⟩
        ·rw [if_neg c8] at H
         have c8b0:decide (((jb l0 x5_1).f0)<((jb l0 a1).f0))=false:=dzF c8
         clear c8
         by_cases c9:((jb l0 x5_1).f0)=((jb l0 a1).f0)
         ·rw [if_pos c9] at H
          have c9b0:(((jb l0 x5_1).f0) == ((jb l0 a1).f0))=true:=beq_iff_eq.mpr c9
          have c9b1:(((jb l0 x5_1).f0) != ((jb l0 a1).f0))=false:=bne_eq_false_iff_eq.mpr c9
          clear c9
          obtain rfl:=Option.some.inj H
          have p148:0≤(x5_1:Int):=ozD (uq)
          have q148:x5_1<(l0.length:Int):=ozD (uq)
          obtain ⟨ad148,e148,hx148_0,hx148_1,hx148_2,hx148_3⟩:=jba HR0.out x5_1 p148 q148
          cases e148
          replace p148:=ezT p148
          replace q148:=ezT q148
          have p149:0≤(a1:Int):=ozD (uq)
          have q149:a1<(l0.length:Int):=ozD (uq)
          obtain ⟨ad149,e149,hx149_0,hx149_1,hx149_2,hx149_3⟩:=jba HR0.out a1 p149 q149
          obtain rfl:ad148=ad149:=(by injection e149)
          replace p149:=ezT p149
          replace q149:=ezT q149
          have p150:0≤(x5_1:Int):=ozD (uq)
          have q150:x5_1<(l0.length:Int):=ozD (uq)
          obtain ⟨ad150,e150,hx150_0,hx150_1,hx150_2,hx150_3⟩:=jba HR0.out x5_1 p150 q150
          obtain rfl:ad148=ad150:=(by injection e150)
          replace p150:=ezT p150
          replace q150:=ezT q150
          have p151:0≤(a1:Int):=ozD (uq)
          have q151:a1<(l0.length:Int):=ozD (uq)
          obtain ⟨ad151,e151,hx151_0,hx151_1,hx151_2,hx151_3⟩:=jba HR0.out a1 p151 q151
          obtain rfl:ad148=ad151:=(by injection e151)
          replace p151:=ezT p151
          replace q151:=ezT q151
          go_wp2
          repeat (go_quiet (fail);try go_wp2)
          go_ret
          exact ⟨sq,Y2⟩
         ·rw [if_neg c9] at H
          have c9b0:(((jb l0 x5_1).f0) == ((jb l0 a1).f0))=false:=beq_eq_false_iff_ne.mpr c9
          have c9b1:(((jb l0 x5_1).f0) != ((jb l0 a1).f0))=true:=bne_iff_ne.mpr c9
          have H':=am H
          clear H
          have p148:0≤(x5_1:Int):=ozD (uq)
          have q148:x5_1<(l0.length:Int):=ozD (uq)
          obtain ⟨ad148,e148,hx148_0,hx148_1,hx148_2,hx148_3⟩:=jba HR0.out x5_1 p148 q148
          cases e148
          replace p148:=ezT p148
          replace q148:=ezT q148
          have p149:0≤(a1:Int):=ozD (uq)
          have q149:a1<(l0.length:Int):=ozD (uq)
          obtain ⟨ad149,e149,hx149_0,hx149_1,hx149_2,hx149_3⟩:=jba HR0.out a1 p149 q149
          obtain rfl:ad148=ad149:=(by injection e149)
          replace p149:=ezT p149
          replace q149:=ezT q149
          have p150:0≤(x5_1:Int):=ozD (uq)
          have q150:x5_1<(l0.length:Int):=ozD (uq)
          obtain ⟨ad150,e150,hx150_0,hx150_1,hx150_2,hx150_3⟩:=jba HR0.out x5_1 p150 q150
          obtain rfl:ad148=ad150:=(by injection e150)
          replace p150:=ezT p150
          replace q150:=ezT q150
          have p151:0≤(a1:Int):=ozD (uq)
          have q151:a1<(l0.length:Int):=ozD (uq)
          obtain ⟨ad151,e151,hx151_0,hx151_1,hx151_2,hx151_3⟩:=jba HR0.out a1 p151 q151
          obtain rfl:ad148=ad151:=(by injection e151)
          replace p151:=ezT p151
          replace q151:=ezT q151
          go_wp2
          repeat (go_quiet (fail);try go_wp2)
          go_roundg k1
          case measure=>have:=HK1.out;omega
          case rel=>exact ⟨(wrap64 (x5_1 - 1)),(sq),H',⟨by have:=HK1.out;omega⟩,Y2⟩
       ·rw [if_neg c7] at H
        exact absurd H (by simp)
      ·rw [if_neg c6] at H
       exact absurd H (by simp)
     ·rw [if_neg c5] at H
      exact absurd H (by simp)
    ·rw [if_neg c4] at H
     exact absurd H (by simp)
   ·rw [if_neg c3] at H
    have c3b0:decide (0≤x5_1)=false:=dzF c3
    clear c3
    obtain rfl:=Option.some.inj H
    go_wp2
    repeat (go_quiet (fail);try go_wp2)
    go_ret
    exact ⟨sq,Y2⟩
end Go.Proofs.Ytkhiiiddbmgiaaa.P
end
