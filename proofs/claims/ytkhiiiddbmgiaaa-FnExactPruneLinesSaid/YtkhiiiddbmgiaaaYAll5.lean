/- One part of the proofs on this program: functions of the program as plain functions, that the code comes to them, and facts on them. -/
import Derived.Test.YtkhiiiddbmgiaaaYAll1
import Derived.Test.YtkhiiiddbmgiaaaYAll2
import Derived.Test.YtkhiiiddbmgiaaaYAll3
import Derived.Test.YtkhiiiddbmgiaaaYAll4
import Derived.Test.YtkhiiiddbmgiaaaYWAuto
section
namespace Go.Proofs.Ytkhiiiddbmgiaaa.P
open Go.RowKit Go.Proofs.YtkhiiiddbmgiaaaW.PrintWords Go.Proofs.YtkhiiiddbmgiaaaW.PrintLast Go.Proofs.YtkhiiiddbmgiaaaW.PrintMore
attribute [local go_sem] jca jaa jpa joa jS jR jba jZ jg
set_option linter.unusedVariables false
set_option linter.unusedSimpArgs false
def jr.l0 : Nat → List (S52) → Int → Int → Option (Int × (List (S52)))
 | 0,_,_,_=>none
 | k+1,x0,x1,x5=>if x5<(x0.length:Int) then (if 0≤x5 then ((some (x0.set (x5:Int).toNat (⟨x1,(jb x0 x5).f1,(jb x0 x5).f2,(jb x0 x5).f3⟩:S52):List (S52))).bind fun y290=>((some (y290.set (x5:Int).toNat (⟨(jb y290 x5).f0,wrap64 (x1+1),(jb y290 x5).f2,(jb y290 x5).f3⟩:S52):List (S52))).bind fun y291=>((some (y291.set (x5:Int).toNat (⟨(jb y291 x5).f0,(jb y291 x5).f1,wrap64 ((wrap64 (x1+1))+1),(jb y291 x5).f3⟩:S52):List (S52))).bind fun y292=>(jr.l0 k (y292.set (x5:Int).toNat (⟨(jb y292 x5).f0,(jb y292 x5).f1,(jb y292 x5).f2,wrap64 ((wrap64 ((wrap64 (x1+1))+1))+1)⟩:S52)) (wrap64 ((wrap64 ((wrap64 ((wrap64 (x1+1))+1))+1))+1)) (wrap64 (x5+1)))))) else (none)) else (some (x1,x0))
def jr.f (k : Nat) (l0 : List (S52)) (a1 : Int) : Option (Int × (List (S52))) := jr.l0 k l0 a1 0
set_option maxHeartbeats 8000000 in
set_option maxRecDepth 100000 in
theorem jr.calls (k : Nat) (P0_ : Nat → Prop) (u9000_ : Value) (l0 : List (S52)) (a1 : Int) (r1 : Int) (r2 : List (S52)) (w0 w : World) (hB : Below w0.heap.size w0 w) (ho0 : Kd.R k52 52 w w0.heap.size P0_ u9000_ l0) (h : jr.f k l0 a1 = some (r1, r2)) :
  Calls Try.prog 16 #[u9000_, .int .i64 a1] w fun e w'=>e=.returned (.int .i64 r1)∧Kd.R k52 52 w' w0.heap.size (fun k_=>(P0_ k_∨w.heap.size≤k_)) u9000_ r2∧Below w0.heap.size w0 w'∧Kept w w' (fun k_=>P0_ k_):=by
 have HO0:=am (show Kd.R k52 52 w w0.heap.size (fun k_=>(P0_ k_∨w.heap.size≤k_)) u9000_ l0 from Kd.jGa ho0 (fun k_ hk=>(.inl hk)))
 have HK:=am (Kept.refl w (fun k_=>P0_ k_))
 have HW0:=am hB.size
 have HB:=am hB
 clear hB
 have H:(jr.l0 k l0 a1 0)=some (r1,r2):=h
 clear h
 have H':=am H
 clear H
 go_enter Try.func16,Try.ntmps16
 go_wp2
 go_loopg [1,5] k (fun kq v1 v5 w'=>∃ (x0_1:List (S52)) (x1_1:Int) (x5_1:Int),v1=.int .i64 x1_1∧v5=.int .i64 x5_1∧jv (jr.l0 kq x0_1 x1_1 x5_1=some (r1,r2))∧jv (kq≤k)∧jv (Kd.R k52 52 w' w0.heap.size (fun k_=>(P0_ k_∨w.heap.size≤k_)) u9000_ x0_1)∧jv (Kept w w' (fun k_=>P0_ k_))∧jv (Below w0.heap.size w0 w'))
 case atStart=>exact ⟨(l0),(a1),(0),(sq),(sq),H',⟨Nat.le_refl _⟩,⟨rq HO0.out⟩,⟨Y8⟩,⟨bq⟩⟩
 case round =>
  clear H'
  try clear c1
  try clear p2
  obtain ⟨x0_1,x1_1,x5_1,rfl,rfl,HA,HK1,HO_0,HK,HB⟩:=hrel
  cases gk with
  | zero=>exact absurd HA.out (by simp [jr.l0])
  | succ k1 =>
   have H:=HA.out
   clear HA
   simp only [jr.l0] at H
   by_cases c3:x5_1<(x0_1.length:Int)
   ·rw [if_pos c3] at H
    have c3b0:decide (x5_1<(x0_1.length:Int))=true:=dzT c3
    clear c3
    by_cases c4:0≤x5_1
    ·rw [if_pos c4] at H
     have c4b0:decide (0≤x5_1)=true:=dzT c4
     clear c4
     obtain ⟨y290,hy290⟩:∃ y_:List (S52),y_=(x0_1.set (x5_1:Int).toNat (⟨x1_1,(jb x0_1 x5_1).f1,(jb x0_1 x5_1).f2,(jb x0_1 x5_1).f3⟩:S52)):=⟨_,rfl⟩
     replace H:((some (y290.set (x5_1:Int).toNat (⟨(jb y290 x5_1).f0,wrap64 (x1_1+1),(jb y290 x5_1).f2,(jb y290 x5_1).f3⟩:S52):List (S52))).bind fun y291=>((some (y291.set (x5_1:Int).toNat (⟨(jb y291 x5_1).f0,(jb y291 x5_1).f1,wrap64 ((wrap64 (x1_1+1))+1),(jb y291 x5_1).f3⟩:S52):List (S52))).bind fun y292=>(jr.l0 k1 (y292.set (x5_1:Int).toNat (⟨(jb y292 x5_1).f0,(jb y292 x5_1).f1,(jb y292 x5_1).f2,wrap64 ((wrap64 ((wrap64 (x1_1+1))+1))+1)⟩:S52)) (wrap64 ((wrap64 ((wrap64 ((wrap64 (x1_1+1))+1))+1))+1)) (wrap64 (x5_1+1)))))=some (r1,r2):=by first |(rw [hy290];with_reducible exact H) |(have H2_:=(Option.bind_some _ _).symm.trans H;rw [hy290];with_reducible exact H2_) |(have H2_:=(Option.bind_some _ _).symm.trans H;with_reducible exact H2_) | with_reducible exact H |(rw [hy290];exact H) | exact H
     have Ny290:=am hy290
     clear hy290
     obtain ⟨y291,hy291⟩:∃ y_:List (S52),y_=(y290.set (x5_1:Int).toNat (⟨(jb y290 x5_1).f0,wrap64 (x1_1+1),(jb y290 x5_1).f2,(jb y290 x5_1).f3⟩:S52)):=⟨_,rfl⟩
     replace H:((some (y291.set (x5_1:Int).toNat (⟨(jb y291 x5_1).f0,(jb y291 x5_1).f1,wrap64 ((wrap64 (x1_1+1))+1),(jb y291 x5_1).f3⟩:S52):List (S52))).bind fun y292=>(jr.l0 k1 (y292.set (x5_1:Int).toNat (⟨(jb y292 x5_1).f0,(jb y292 x5_1).f1,(jb y292 x5_1).f2,wrap64 ((wrap64 ((wrap64 (x1_1+1))+1))+1)⟩:S52)) (wrap64 ((wrap64 ((wrap64 ((wrap64 (x1_1+1))+1))+1))+1)) (wrap64 (x5_1+1))))=some (r1,r2):=by first |(rw [hy291];with_reducible exact H) |(have H2_:=(Option.bind_some _ _).symm.trans H;rw [hy291];with_reducible exact H2_) |(have H2_:=(Option.bind_some _ _).symm.trans H;with_reducible exact H2_) | with_reducible exact H |(rw [hy291];exact H) | exact H
     have Ny291:=am hy291
     clear hy291
     obtain ⟨y292,hy292⟩:∃ y_:List (S52),y_=(y291.set (x5_1:Int).toNat (⟨(jb y291 x5_1).f0,(jb y291 x5_1).f1,wrap64 ((wrap64 (x1_1+1))+1),(jb y291 x5_1).f3⟩:S52)):=⟨_,rfl⟩
     replace H:(jr.l0 k1 (y292.set (x5_1:Int).toNat (⟨(jb y292 x5_1).f0,(jb y292 x5_1).f1,(jb y292 x5_1).f2,wrap64 ((wrap64 ((wrap64 (x1_1+1))+1))+1)⟩:S52)) (wrap64 ((wrap64 ((wrap64 ((wrap64 (x1_1+1))+1))+1))+1)) (wrap64 (x5_1+1)))=some (r1,r2):=by first |(rw [hy292];with_reducible exact H) |(have H2_:=(Option.bind_some _ _).symm.trans H;rw [hy292];with_reducible exact H2_) |(have H2_:=(Option.bind_some _ _).symm.trans H;with_reducible exact H2_) | with_reducible exact H |(rw [hy292];exact H) | exact H
     have Ny292:=am hy292
     clear hy292
     obtain ⟨y293,hy293⟩:∃ y_:List (S52),y_=(y292.set (x5_1:Int).toNat (⟨(jb y292 x5_1).f0,(jb y292 x5_1).f1,(jb y292 x5_1).f2,wrap64 ((wrap64 ((wrap64 (x1_1+1))+1))+1)⟩:S52)):=⟨_,rfl⟩
     replace H:(jr.l0 k1 y293 (wrap64 ((wrap64 ((wrap64 ((wrap64 (x1_1+1))+1))+1))+1)) (wrap64 (x5_1+1)))=some (r1,r2):=by first |(rw [hy293];with_reducible exact H) |(have H2_:=(Option.bind_some _ _).symm.trans H;rw [hy293];with_reducible exact H2_) |(have H2_:=(Option.bind_some _ _).symm.trans H;with_reducible exact H2_) | with_reducible exact H |(rw [hy293];exact H) | exact H
     have Ny293:=am hy293
     clear hy293
     have H':=am H
     clear H
     obtain ⟨Ao9,co9,eo9⟩:=Kd.jOa HO_0.out
     subst eo9
     have p5:0≤(x5_1:Int):=ozD (uq)
     have q5:(x5_1:Int)<((x0_1.length:Int):Int):=ozD (uq)
     obtain ⟨go5,co5,eo5,gb5,gl5,cl5,HG5⟩:=Kd.R_form HO_0.out (by omega)
     (first | cases eo5 |(injection eo5 with ea_ en_ ec_;(first | subst ea_ |(injection ea_ with ea_;subst ea_));subst ec_;clear en_))
     have GB5:=am gb5
     have GG5:=am HG5
     clear gb5 gl5 HG5
     have HMgo5:=am (show (P0_ go5∨w.heap.size≤go5) from (HO_0.out.1 _ rfl))
     obtain ⟨ce5,hcl5,hM5,hcc5,hfr5⟩:=Kd.jGb HO_0.out z52 (x5_1:Int) p5 q5
     obtain rfl:=jjb hM5
     have hx5_0:wr.cell? ⟨go5,(x5_1:Int).toNat * 4,none⟩=some (.int .i64 ((jb x0_1 x5_1).f0)):=hcc5 0 _ rfl
     have hx5_1:wr.cell? ⟨go5,(x5_1:Int).toNat * 4+1,none⟩=some (.int .i64 ((jb x0_1 x5_1).f1)):=hcc5 1 _ rfl
     have hx5_2:wr.cell? ⟨go5,(x5_1:Int).toNat * 4+2,none⟩=some (.int .i64 ((jb x0_1 x5_1).f2)):=hcc5 2 _ rfl
     have hx5_3:wr.cell? ⟨go5,(x5_1:Int).toNat * 4+3,none⟩=some (.int .i64 ((jb x0_1 x5_1).f3)):=hcc5 3 _ rfl
     have hf5_0:wr.frozen? ⟨go5,(x5_1:Int).toNat * 4,none⟩=false:=hfr5 0
     have hf5_1:wr.frozen? ⟨go5,(x5_1:Int).toNat * 4+1,none⟩=false:=hfr5 1
     have hf5_2:wr.frozen? ⟨go5,(x5_1:Int).toNat * 4+2,none⟩=false:=hfr5 2
     have hf5_3:wr.frozen? ⟨go5,(x5_1:Int).toNat * 4+3,none⟩=false:=hfr5 3
     clear hcl5 hcc5 hfr5 hM5
     replace p5:=ezT p5
     replace q5:=ezT q5
     have HX10:=am (show Kd.R k52 52 wr w0.heap.size (fun k_=>(P0_ k_∨w.heap.size≤k_)) (.slice (some ⟨go5,0,none⟩) x0_1.length co9) x0_1 from (rq HO_0.out))
     obtain ⟨ce10,hcl10,hM10,hcc10,hfr10⟩:=Kd.jGb HX10.out z52 (x5_1:Int) (ozD (uq)) (by have h_:(x5_1:Int)<((x0_1.length:Int):Int):=ozD (uq);first | exact h_ |(have e_:=(Kd.jG HO_0.out).1;omega) | simpa using h_)
     obtain rfl:=jjb hM10
     have HP10:=Kd.R_seg HX10.out (x5_1:Int) (ozD (uq)) (by have h_:(x5_1:Int)<((x0_1.length:Int):Int):=ozD (uq);first | exact h_ |(have e_:=(Kd.jG HO_0.out).1;omega) | simpa using h_) (seg:=[.int .i64 x1_1]) (j:=0) hcl10 hcc10 (show 1≤4 from by decide) (x':=(⟨x1_1,(jb x0_1 x5_1).f1,(jb x0_1 x5_1).f2,(jb x0_1 x5_1).f3⟩:S52)) (k52_mkM _ _ _ (⟨x1_1,(jb x0_1 x5_1).f1,(jb x0_1 x5_1).f2,(jb x0_1 x5_1).f3⟩:S52) ) (fun _ hk=>hk)
     have hx10_0:=hcc10 0 _ rfl
     (try simp only [show (k52).sz=4 from rfl,Nat.mul_one,Nat.add_zero] at hx10_0)
     have hf10_0:=hfr10 0
     (try simp only [show (k52).sz=4 from rfl,Nat.mul_one,Nat.add_zero] at hf10_0)
     clear hcl10 hcc10 hfr10 hM10
     go_wp2_with (first |((with_reducible refine jqb (t:=3) (p:=16) rfl ?_);refine jZa (t:=3) (p:=16) (v:=?vo_w11) (w1:=(wr.setCell ⟨go5,(x5_1:Int).toNat * 4,none⟩ (.int .i64 x1_1))) ?hg ?ho ?hn ?hr ?_;(case ho=>rfl);(case hg=>rfl);(case hn=>rfl);(case hr=>exact Y7);intro w11 hw;have hg:wr.grownBy w11 (some go5):=(by rw [hw];exact HP10.2);have hp_:Kd.R k52 52 w11 w0.heap.size (fun k_=>(P0_ k_∨w.heap.size≤k_)) (.slice (some ⟨go5,0,none⟩) x0_1.length co9) y290:=(by rw [hw,Ny290.out];exact HP10.1);clear HP10;replace HB:=am ((by rw [hw];exact jA (HB.out) GB5.out:Below w0.heap.size w0 w11));replace HK:=am (Kept.jSb (S:=(fun k_=>P0_ k_)) hg (Y8) (fun k_ e_=>(HO_0.out.1 k_ e_)));replace HO_0:=am (hp_);clear hg hw hp_;have p6:0≤(x5_1:Int):=ozD (uq);have q6:(x5_1:Int)<((x0_1.length:Int):Int):=ozD (uq);obtain ⟨ce6,hcl6,hM6,hcc6,hfr6⟩:=Kd.jGb HO_0.out z52 (x5_1:Int) p6 q6;obtain rfl:=jjb hM6;have hx6_0:w11.cell? ⟨go5,(x5_1:Int).toNat * 4,none⟩=some (.int .i64 ((jb y290 x5_1).f0)):=hcc6 0 _ rfl;have hx6_1:w11.cell? ⟨go5,(x5_1:Int).toNat * 4+1,none⟩=some (.int .i64 ((jb y290 x5_1).f1)):=hcc6 1 _ rfl;have hx6_2:w11.cell? ⟨go5,(x5_1:Int).toNat * 4+2,none⟩=some (.int .i64 ((jb y290 x5_1).f2)):=hcc6 2 _ rfl;have hx6_3:w11.cell? ⟨go5,(x5_1:Int).toNat * 4+3,none⟩=some (.int .i64 ((jb y290 x5_1).f3)):=hcc6 3 _ rfl;have hf6_0:w11.frozen? ⟨go5,(x5_1:Int).toNat * 4,none⟩=false:=hfr6 0;have hf6_1:w11.frozen? ⟨go5,(x5_1:Int).toNat * 4+1,none⟩=false:=hfr6 1;have hf6_2:w11.frozen? ⟨go5,(x5_1:Int).toNat * 4+2,none⟩=false:=hfr6 2;have hf6_3:w11.frozen? ⟨go5,(x5_1:Int).toNat * 4+3,none⟩=false:=hfr6 3;clear hcl6 hcc6 hfr6 hM6;replace p6:=ezT p6;replace q6:=ezT q6;have HX12:=am (show Kd.R k52 52 w11 w0.heap.size (fun k_=>(P0_ k_∨w.heap.size≤k_)) (.slice (some ⟨go5,0,none⟩) x0_1.length co9) y290 from (rq HO_0.out));obtain ⟨ce12,hcl12,hM12,hcc12,hfr12⟩:=Kd.jGb HX12.out z52 (x5_1:Int) (ozD (uq)) (by have h_:(x5_1:Int)<((x0_1.length:Int):Int):=ozD (uq);first | exact h_ |(have e_:=(Kd.jG HO_0.out).1;omega) | simpa using h_);obtain rfl:=jjb hM12;have HP12:=Kd.R_seg HX12.out (x5_1:Int) (ozD (uq)) (by have h_:(x5_1:Int)<((x0_1.length:Int):Int):=ozD (uq);first | exact h_ |(have e_:=(Kd.jG HO_0.out).1;omega) | simpa using h_) (seg:=[.int .i64 (wrap64 (x1_1+1))]) (j:=1) hcl12 hcc12 (show 2≤4 from by decide) (x':=(⟨(jb y290 x5_1).f0,wrap64 (x1_1+1),(jb y290 x5_1).f2,(jb y290 x5_1).f3⟩:S52)) (k52_mkM _ _ _ (⟨(jb y290 x5_1).f0,wrap64 (x1_1+1),(jb y290 x5_1).f2,(jb y290 x5_1).f3⟩:S52) ) (fun _ hk=>hk);have hx12_1:=hcc12 1 _ rfl;(try simp only [show (k52).sz=4 from rfl,Nat.mul_one,Nat.add_zero] at hx12_1);have hf12_1:=hfr12 1;(try simp only [show (k52).sz=4 from rfl,Nat.mul_one,Nat.add_zero] at hf12_1);clear hcl12 hcc12 hfr12 hM12) |((with_reducible refine jqb (t:=3) (p:=23) rfl ?_);refine jZa (t:=3) (p:=23) (v:=?vo_w13) (w1:=(w11.setCell ⟨go5,(x5_1:Int).toNat * 4+1,none⟩ (.int .i64 (wrap64 (x1_1+1))))) ?hg ?ho ?hn ?hr ?_;(case ho=>rfl);(case hg=>rfl);(case hn=>rfl);(case hr=>exact Y7);intro w13 hw;have hg:w11.grownBy w13 (some go5):=(by rw [hw];exact HP12.2);have hp_:Kd.R k52 52 w13 w0.heap.size (fun k_=>(P0_ k_∨w.heap.size≤k_)) (.slice (some ⟨go5,0,none⟩) x0_1.length co9) y291:=(by rw [hw,Ny291.out];exact HP12.1);clear HP12;replace HB:=am ((by rw [hw];exact jA (HB.out) GB5.out:Below w0.heap.size w0 w13));replace HK:=am (Kept.jSb (S:=(fun k_=>P0_ k_)) hg (Y8) (fun k_ e_=>(HO_0.out.1 k_ e_)));replace HO_0:=am (hp_);clear hg hw hp_;have p7:0≤(x5_1:Int):=ozD (uq);have q7:(x5_1:Int)<((x0_1.length:Int):Int):=ozD (uq);obtain ⟨ce7,hcl7,hM7,hcc7,hfr7⟩:=Kd.jGb HO_0.out z52 (x5_1:Int) p7 q7;obtain rfl:=jjb hM7;have hx7_0:w13.cell? ⟨go5,(x5_1:Int).toNat * 4,none⟩=some (.int .i64 ((jb y291 x5_1).f0)):=hcc7 0 _ rfl;have hx7_1:w13.cell? ⟨go5,(x5_1:Int).toNat * 4+1,none⟩=some (.int .i64 ((jb y291 x5_1).f1)):=hcc7 1 _ rfl;have hx7_2:w13.cell? ⟨go5,(x5_1:Int).toNat * 4+2,none⟩=some (.int .i64 ((jb y291 x5_1).f2)):=hcc7 2 _ rfl;have hx7_3:w13.cell? ⟨go5,(x5_1:Int).toNat * 4+3,none⟩=some (.int .i64 ((jb y291 x5_1).f3)):=hcc7 3 _ rfl;have hf7_0:w13.frozen? ⟨go5,(x5_1:Int).toNat * 4,none⟩=false:=hfr7 0;have hf7_1:w13.frozen? ⟨go5,(x5_1:Int).toNat * 4+1,none⟩=false:=hfr7 1;have hf7_2:w13.frozen? ⟨go5,(x5_1:Int).toNat * 4+2,none⟩=false:=hfr7 2;have hf7_3:w13.frozen? ⟨go5,(x5_1:Int).toNat * 4+3,none⟩=false:=hfr7 3;clear hcl7 hcc7 hfr7 hM7;replace p7:=ezT p7;replace q7:=ezT q7;have HX14:=am (show Kd.R k52 52 w13 w0.heap.size (fun k_=>(P0_ k_∨w.heap.size≤k_)) (.slice (some ⟨go5,0,none⟩) x0_1.length co9) y291 from (rq HO_0.out));obtain ⟨ce14,hcl14,hM14,hcc14,hfr14⟩:=Kd.jGb HX14.out z52 (x5_1:Int) (ozD (uq)) (by have h_:(x5_1:Int)<((x0_1.length:Int):Int):=ozD (uq);first | exact h_ |(have e_:=(Kd.jG HO_0.out).1;omega) | simpa using h_);obtain rfl:=jjb hM14;have HP14:=Kd.R_seg HX14.out (x5_1:Int) (ozD (uq)) (by have h_:(x5_1:Int)<((x0_1.length:Int):Int):=ozD (uq);first | exact h_ |(have e_:=(Kd.jG HO_0.out).1;omega) | simpa using h_) (seg:=[.int .i64 (wrap64 ((wrap64 (x1_1+1))+1))]) (j:=2) hcl14 hcc14 (show 3≤4 from by decide) (x':=(⟨(jb y291 x5_1).f0,(jb y291 x5_1).f1,wrap64 ((wrap64 (x1_1+1))+1),(jb y291 x5_1).f3⟩:S52)) (k52_mkM _ _ _ (⟨(jb y291 x5_1).f0,(jb y291 x5_1).f1,wrap64 ((wrap64 (x1_1+1))+1),(jb y291 x5_1).f3⟩:S52) ) (fun _ hk=>hk);have hx14_2:=hcc14 2 _ rfl;(try simp only [show (k52).sz=4 from rfl,Nat.mul_one,Nat.add_zero] at hx14_2);have hf14_2:=hfr14 2;(try simp only [show (k52).sz=4 from rfl,Nat.mul_one,Nat.add_zero] at hf14_2);clear hcl14 hcc14 hfr14 hM14) |((with_reducible refine jqb (t:=3) (p:=30) rfl ?_);refine jZa (t:=3) (p:=30) (v:=?vo_w15) (w1:=(w13.setCell ⟨go5,(x5_1:Int).toNat * 4+2,none⟩ (.int .i64 (wrap64 ((wrap64 (x1_1+1))+1))))) ?hg ?ho ?hn ?hr ?_;(case ho=>rfl);(case hg=>rfl);(case hn=>rfl);(case hr=>exact Y7);intro w15 hw;have hg:w13.grownBy w15 (some go5):=(by rw [hw];exact HP14.2);have hp_:Kd.R k52 52 w15 w0.heap.size (fun k_=>(P0_ k_∨w.heap.size≤k_)) (.slice (some ⟨go5,0,none⟩) x0_1.length co9) y292:=(by rw [hw,Ny292.out];exact HP14.1);clear HP14;replace HB:=am ((by rw [hw];exact jA (HB.out) GB5.out:Below w0.heap.size w0 w15));replace HK:=am (Kept.jSb (S:=(fun k_=>P0_ k_)) hg (Y8) (fun k_ e_=>(HO_0.out.1 k_ e_)));replace HO_0:=am (hp_);clear hg hw hp_;have p8:0≤(x5_1:Int):=ozD (uq);have q8:(x5_1:Int)<((x0_1.length:Int):Int):=ozD (uq);obtain ⟨ce8,hcl8,hM8,hcc8,hfr8⟩:=Kd.jGb HO_0.out z52 (x5_1:Int) p8 q8;obtain rfl:=jjb hM8;have hx8_0:w15.cell? ⟨go5,(x5_1:Int).toNat * 4,none⟩=some (.int .i64 ((jb y292 x5_1).f0)):=hcc8 0 _ rfl;have hx8_1:w15.cell? ⟨go5,(x5_1:Int).toNat * 4+1,none⟩=some (.int .i64 ((jb y292 x5_1).f1)):=hcc8 1 _ rfl;have hx8_2:w15.cell? ⟨go5,(x5_1:Int).toNat * 4+2,none⟩=some (.int .i64 ((jb y292 x5_1).f2)):=hcc8 2 _ rfl;have hx8_3:w15.cell? ⟨go5,(x5_1:Int).toNat * 4+3,none⟩=some (.int .i64 ((jb y292 x5_1).f3)):=hcc8 3 _ rfl;have hf8_0:w15.frozen? ⟨go5,(x5_1:Int).toNat * 4,none⟩=false:=hfr8 0;have hf8_1:w15.frozen? ⟨go5,(x5_1:Int).toNat * 4+1,none⟩=false:=hfr8 1;have hf8_2:w15.frozen? ⟨go5,(x5_1:Int).toNat * 4+2,none⟩=false:=hfr8 2;have hf8_3:w15.frozen? ⟨go5,(x5_1:Int).toNat * 4+3,none⟩=false:=hfr8 3;clear hcl8 hcc8 hfr8 hM8;replace p8:=ezT p8;replace q8:=ezT q8;have HX16:=am (show Kd.R k52 52 w15 w0.heap.size (fun k_=>(P0_ k_∨w.heap.size≤k_)) (.slice (some ⟨go5,0,none⟩) x0_1.length co9) y292 from (rq HO_0.out));obtain ⟨ce16,hcl16,hM16,hcc16,hfr16⟩:=Kd.jGb HX16.out z52 (x5_1:Int) (ozD (uq)) (by have h_:(x5_1:Int)<((x0_1.length:Int):Int):=ozD (uq);first | exact h_ |(have e_:=(Kd.jG HO_0.out).1;omega) | simpa using h_);obtain rfl:=jjb hM16;have HP16:=Kd.R_seg HX16.out (x5_1:Int) (ozD (uq)) (by have h_:(x5_1:Int)<((x0_1.length:Int):Int):=ozD (uq);first | exact h_ |(have e_:=(Kd.jG HO_0.out).1;omega) | simpa using h_) (seg:=[.int .i64 (wrap64 ((wrap64 ((wrap64 (x1_1+1))+1))+1))]) (j:=3) hcl16 hcc16 (show 4≤4 from by decide) (x':=(⟨(jb y292 x5_1).f0,(jb y292 x5_1).f1,(jb y292 x5_1).f2,wrap64 ((wrap64 ((wrap64 (x1_1+1))+1))+1)⟩:S52)) (k52_mkM _ _ _ (⟨(jb y292 x5_1).f0,(jb y292 x5_1).f1,(jb y292 x5_1).f2,wrap64 ((wrap64 ((wrap64 (x1_1+1))+1))+1)⟩:S52) ) (fun _ hk=>hk);have hx16_3:=hcc16 3 _ rfl;(try simp only [show (k52).sz=4 from rfl,Nat.mul_one,Nat.add_zero] at hx16_3);have hf16_3:=hfr16 3;(try simp only [show (k52).sz=4 from rfl,Nat.mul_one,Nat.add_zero] at hf16_3);clear hcl16 hcc16 hfr16 hM16) |((with_reducible refine jqb (t:=3) (p:=37) rfl ?_);refine jZa (t:=3) (p:=37) (v:=?vo_w17) (w1:=(w15.setCell ⟨go5,(x5_1:Int).toNat * 4+3,none⟩ (.int .i64 (wrap64 ((wrap64 ((wrap64 (x1_1+1))+1))+1))))) ?hg ?ho ?hn ?hr ?_;(case ho=>rfl);(case hg=>rfl);(case hn=>rfl);(case hr=>exact Y7);intro w17 hw;have hg:w15.grownBy w17 (some go5):=(by rw [hw];exact HP16.2);have hp_:Kd.R k52 52 w17 w0.heap.size (fun k_=>(P0_ k_∨w.heap.size≤k_)) (.slice (some ⟨go5,0,none⟩) x0_1.length co9) y293:=(by rw [hw,Ny293.out];exact HP16.1);clear HP16;replace HB:=am ((by rw [hw];exact jA (HB.out) GB5.out:Below w0.heap.size w0 w17));replace HK:=am (Kept.jSb (S:=(fun k_=>P0_ k_)) hg (Y8) (fun k_ e_=>(HO_0.out.1 k_ e_)));replace HO_0:=am (hp_);clear hg hw hp_))
     go_roundg k1
     case measure=>have:=HK1.out;omega
     case rel=>exact ⟨(y293),(wrap64 ((wrap64 ((wrap64 ((wrap64 (x1_1+1))+1))+1))+1)),(wrap64 (x5_1+1)),(sq),(sq),H',⟨by have:=HK1.out;omega⟩,⟨rq HO_0.out⟩,⟨Y8⟩,⟨bq⟩⟩
    ·rw [if_neg c4] at H
     exact absurd H (by simp)
   ·rw [if_neg c3] at H
    have c3b0:decide (x5_1<(x0_1.length:Int))=false:=dzF c3
    clear c3
    simp only [Option.some.injEq,Prod.mk.injEq] at H
    obtain ⟨rfl,rfl⟩:=H
    obtain ⟨Ao18,co18,eo18⟩:=Kd.jOa HO_0.out
    subst eo18
    go_wp2
    go_ret
    exact ⟨Y0,rq HO_0.out,bq,Y8⟩
def jQ.l0 : Nat → List (S52) → Int → Int → Option (Int)
 | 0,_,_,_=>none
 | k+1,x0,x1,x5=>if x5<(x0.length:Int) then (if 0≤x5 then (if ((jb x0 x5).f0)=x1 then (if ((jb x0 x5).f1)=(wrap64 (x1+1)) then (if ((jb x0 x5).f2)=(wrap64 ((wrap64 (x1+1))+1)) then (if ((jb x0 x5).f3)=(wrap64 ((wrap64 ((wrap64 (x1+1))+1))+1)) then (jQ.l0 k x0 (wrap64 ((wrap64 ((wrap64 ((wrap64 (x1+1))+1))+1))+1)) (wrap64 (x5+1))) else (some (-1))) else (some (-1))) else (some (-1))) else (some (-1))) else (none)) else (some x1)
def jQ.f (k : Nat) (l0 : List (S52)) (a1 : Int) : Option (Int) := jQ.l0 k l0 a1 0
set_option maxHeartbeats 8000000 in
set_option maxRecDepth 100000 in
theorem jQ.calls (k : Nat) (A0 : Option Addr) (c0 : Nat) (l0 : List (S52)) (a1 : Int) (r : Int) (w : World) (hr0 : Kd.C k52 w A0 l0.length l0) (hc0 : l0.length ≤ c0) (h : jQ.f k l0 a1 = some r) :
  Calls Try.prog 17 #[.slice A0 l0.length c0, .int .i64 a1] w fun e w'=>e=.returned (.int .i64 r)∧jEa w w':=by
 have HR0:=am hr0
 have HC0:=am hc0
 clear hr0 hc0
 have H:(jQ.l0 k l0 a1 0)=some r:=h
 clear h
 have H':=am H
 clear H
 go_enter Try.func17,Try.ntmps17
 go_wp2
 go_loopg [1,5] k (fun kq v1 v5 w'=>∃ (x1_1:Int) (x5_1:Int),v1=.int .i64 x1_1∧v5=.int .i64 x5_1∧jv (jQ.l0 kq l0 x1_1 x5_1=some r)∧jv (kq≤k)∧jEa w w')
 case atStart=>exact ⟨(a1),(0),(sq),(sq),H',⟨Nat.le_refl _⟩,Y2⟩
 case round =>
  clear H'
  try clear c1
  try clear p2
  obtain ⟨x1_1,x5_1,rfl,rfl,HA,HK1,⟨m1,rfl⟩⟩:=hrel
  cases gk with
  | zero=>exact absurd HA.out (by simp [jQ.l0])
  | succ k1 =>
   have H:=HA.out
   clear HA
   simp only [jQ.l0] at H
   by_cases c3:x5_1<(l0.length:Int)
   ·rw [if_pos c3] at H
    have c3b0:decide (x5_1<(l0.length:Int))=true:=dzT c3
    clear c3
    by_cases c4:0≤x5_1
    ·rw [if_pos c4] at H
     have c4b0:decide (0≤x5_1)=true:=dzT c4
     clear c4
     by_cases c5:((jb l0 x5_1).f0)=x1_1
     ·rw [if_pos c5] at H
      have c5b0:(((jb l0 x5_1).f0) == x1_1)=true:=beq_iff_eq.mpr c5
      have c5b1:(((jb l0 x5_1).f0) != x1_1)=false:=bne_eq_false_iff_eq.mpr c5
      clear c5
      by_cases c6:((jb l0 x5_1).f1)=(wrap64 (x1_1+1))
      ·rw [if_pos c6] at H
       have c6b0:(((jb l0 x5_1).f1) == (wrap64 (x1_1+1)))=true:=beq_iff_eq.mpr c6
       have c6b1:(((jb l0 x5_1).f1) != (wrap64 (x1_1+1)))=false:=bne_eq_false_iff_eq.mpr c6
       clear c6
       by_cases c7:((jb l0 x5_1).f2)=(wrap64 ((wrap64 (x1_1+1))+1))
       ·rw [if_pos c7] at H
        have c7b0:(((jb l0 x5_1).f2) == (wrap64 ((wrap64 (x1_1+1))+1)))=true:=beq_iff_eq.mpr c7
        have c7b1:(((jb l0 x5_1).f2) != (wrap64 ((wrap64 (x1_1+1))+1)))=false:=bne_eq_false_iff_eq.mpr c7
        clear c7
        by_cases c8:((jb l0 x5_1).f3)=(wrap64 ((wrap64 ((wrap64 (x1_1+1))+1))+1))
        ·rw [if_pos c8] at H
         have c8b0:(((jb l0 x5_1).f3) == (wrap64 ((wrap64 ((wrap64 (x1_1+1))+1))+1)))=true:=beq_iff_eq.mpr c8
         have c8b1:(((jb l0 x5_1).f3) != (wrap64 ((wrap64 ((wrap64 (x1_1+1))+1))+1)))=false:=bne_eq_false_iff_eq.mpr c8
         clear c8
         have H':=am H
         clear H
         have p294:0≤(x5_1:Int):=ozD (uq)
         have q294:x5_1<(l0.length:Int):=ozD (uq)
         obtain ⟨ad294,e294,hx294_0,hx294_1,hx294_2,hx294_3⟩:=jX HR0.out x5_1 p294 q294
         cases e294
         replace p294:=ezT p294
         replace q294:=ezT q294
         have p295:0≤(x5_1:Int):=ozD (uq)
         have q295:x5_1<(l0.length:Int):=ozD (uq)
         obtain ⟨ad295,e295,hx295_0,hx295_1,hx295_2,hx295_3⟩:=jX HR0.out x5_1 p295 q295
         obtain rfl:ad294=ad295:=(by injection e295)
         replace p295:=ezT p295
         replace q295:=ezT q295
         have p296:0≤(x5_1:Int):=ozD (uq)
         have q296:x5_1<(l0.length:Int):=ozD (uq)
         obtain ⟨ad296,e296,hx296_0,hx296_1,hx296_2,hx296_3⟩:=jX HR0.out x5_1 p296 q296
         obtain rfl:ad294=ad296:=(by injection e296)
         replace p296:=ezT p296
         replace q296:=ezT q296
         have p297:0≤(x5_1:Int):=ozD (uq)
         have q297:x5_1<(l0.length:Int):=ozD (uq)
         obtain ⟨ad297,e297,hx297_0,hx297_1,hx297_2,hx297_3⟩:=jX HR0.out x5_1 p297 q297
         obtain rfl:ad294=ad297:=(by injection e297)
         replace p297:=ezT p297
         replace q297:=ezT q297
         go_wp2
         go_roundg k1
         case measure=>have:=HK1.out;omega
         case rel=>exact ⟨(wrap64 ((wrap64 ((wrap64 ((wrap64 (x1_1+1))+1))+1))+1)),(wrap64 (x5_1+1)),(sq),(sq),H',⟨by have:=HK1.out;omega⟩,Y2⟩
        ·rw [if_neg c8] at H
         have c8b0:(((jb l0 x5_1).f3) == (wrap64 ((wrap64 ((wrap64 (x1_1+1))+1))+1)))=false:=beq_eq_false_iff_ne.mpr c8
         have c8b1:(((jb l0 x5_1).f3) != (wrap64 ((wrap64 ((wrap64 (x1_1+1))+1))+1)))=true:=bne_iff_ne.mpr c8
         obtain rfl:=Option.some.inj H
         have p294:0≤(x5_1:Int):=ozD (uq)
         have q294:x5_1<(l0.length:Int):=ozD (uq)
         obtain ⟨ad294,e294,hx294_0,hx294_1,hx294_2,hx294_3⟩:=jX HR0.out x5_1 p294 q294
         cases e294
         replace p294:=ezT p294
         replace q294:=ezT q294
         have p295:0≤(x5_1:Int):=ozD (uq)
         have q295:x5_1<(l0.length:Int):=ozD (uq)
         obtain ⟨ad295,e295,hx295_0,hx295_1,hx295_2,hx295_3⟩:=jX HR0.out x5_1 p295 q295
         obtain rfl:ad294=ad295:=(by injection e295)
         replace p295:=ezT p295
         replace q295:=ezT q295
         have p296:0≤(x5_1:Int):=ozD (uq)
         have q296:x5_1<(l0.length:Int):=ozD (uq)
         obtain ⟨ad296,e296,hx296_0,hx296_1,hx296_2,hx296_3⟩:=jX HR0.out x5_1 p296 q296
         obtain rfl:ad294=ad296:=(by injection e296)
         replace p296:=ezT p296
         replace q296:=ezT q296
         have p297:0≤(x5_1:Int):=ozD (uq)
         have q297:x5_1<(l0.length:Int):=ozD (uq)
         obtain ⟨ad297,e297,hx297_0,hx297_1,hx297_2,hx297_3⟩:=jX HR0.out x5_1 p297 q297
         obtain rfl:ad294=ad297:=(by injection e297)
         replace p297:=ezT p297
         replace q297:=ezT q297
         go_wp2
         go_ret
         exact ⟨sq,Y2⟩
       ·rw [if_neg c7] at H
        have c7b0:(((jb l0 x5_1).f2) == (wrap64 ((wrap64 (x1_1+1))+1)))=false:=beq_eq_false_iff_ne.mpr c7
        have c7b1:(((jb l0 x5_1).f2) != (wrap64 ((wrap64 (x1_1+1))+1)))=true:=bne_iff_ne.mpr c7
        obtain rfl:=Option.some.inj H
        have p294:0≤(x5_1:Int):=ozD (uq)
        have q294:x5_1<(l0.length:Int):=ozD (uq)
        obtain ⟨ad294,e294,hx294_0,hx294_1,hx294_2,hx294_3⟩:=jX HR0.out x5_1 p294 q294
        cases e294
        replace p294:=ezT p294
        replace q294:=ezT q294
        have p295:0≤(x5_1:Int):=ozD (uq)
        have q295:x5_1<(l0.length:Int):=ozD (uq)
        obtain ⟨ad295,e295,hx295_0,hx295_1,hx295_2,hx295_3⟩:=jX HR0.out x5_1 p295 q295
        obtain rfl:ad294=ad295:=(by injection e295)
        replace p295:=ezT p295
        replace q295:=ezT q295
        have p296:0≤(x5_1:Int):=ozD (uq)
        have q296:x5_1<(l0.length:Int):=ozD (uq)
        obtain ⟨ad296,e296,hx296_0,hx296_1,hx296_2,hx296_3⟩:=jX HR0.out x5_1 p296 q296
        obtain rfl:ad294=ad296:=(by injection e296)
        replace p296:=ezT p296
        replace q296:=ezT q296
        go_wp2
        go_ret
        exact ⟨sq,Y2⟩
      ·rw [if_neg c6] at H
       have c6b0:(((jb l0 x5_1).f1) == (wrap64 (x1_1+1)))=false:=beq_eq_false_iff_ne.mpr c6
       have c6b1:(((jb l0 x5_1).f1) != (wrap64 (x1_1+1)))=true:=bne_iff_ne.mpr c6
       obtain rfl:=Option.some.inj H
       have p294:0≤(x5_1:Int):=ozD (uq)
       have q294:x5_1<(l0.length:Int):=ozD (uq)
       obtain ⟨ad294,e294,hx294_0,hx294_1,hx294_2,hx294_3⟩:=jX HR0.out x5_1 p294 q294
       cases e294
       replace p294:=ezT p294
       replace q294:=ezT q294
       have p295:0≤(x5_1:Int):=ozD (uq)
       have q295:x5_1<(l0.length:Int):=ozD (uq)
       obtain ⟨ad295,e295,hx295_0,hx295_1,hx295_2,hx295_3⟩:=jX HR0.out x5_1 p295 q295
       obtain rfl:ad294=ad295:=(by injection e295)
       replace p295:=ezT p295
       replace q295:=ezT q295
       go_wp2
       go_ret
       exact ⟨sq,Y2⟩
     ·rw [if_neg c5] at H
      have c5b0:(((jb l0 x5_1).f0) == x1_1)=false:=beq_eq_false_iff_ne.mpr c5
      have c5b1:(((jb l0 x5_1).f0) != x1_1)=true:=bne_iff_ne.mpr c5
      obtain rfl:=Option.some.inj H
      have p294:0≤(x5_1:Int):=ozD (uq)
      have q294:x5_1<(l0.length:Int):=ozD (uq)
      obtain ⟨ad294,e294,hx294_0,hx294_1,hx294_2,hx294_3⟩:=jX HR0.out x5_1 p294 q294
      cases e294
      replace p294:=ezT p294
      replace q294:=ezT q294
      go_wp2
      go_ret
      exact ⟨sq,Y2⟩
    ·rw [if_neg c4] at H
     exact absurd H (by simp)
   ·rw [if_neg c3] at H
    have c3b0:decide (x5_1<(l0.length:Int))=false:=dzF c3
    clear c3
    obtain rfl:=Option.some.inj H
    go_wp2
    go_ret
    exact ⟨sq,Y2⟩
def jc.j0 : Nat → List (S55) → List (S52) → List (S52) → Bool → List (S77) → Option (Bool)
 | 0,_,_,_,_,_=>none
 | k+1,x1,x6,x9,x63,x299000=>if x63=true then (some false) else ((jr.f k x9 1).bind fun bt334=>((jQ.f k bt334.2 1).bind fun t336=>(if t336<0 then (some false) else (if t336=bt334.1 then ((jW.f k x299000).bind fun t337=>((jy.f k x1).bind fun t340=>((jda.f k t337 t340).bind fun t343=>((ji.f k t343 x6).bind fun t346=>(if t346=true then ((jQ.f k bt334.2 1).bind fun t347=>(if t347<0 then (some false) else (if t347=bt334.1 then (some true) else (some false)))) else (some false)))))) else (some false)))))
def jc.f (k : Nat) (l0_0 : List (S77)) (l1 : List (S55)) : Option (Bool) := (jWa.f k l0_0 1048576).bind fun t299 => (if t299 < 0 then (some true) else ((jSa.f l1 t299).bind fun t300 => (if t300 < 0 then (some true) else ((jW.f k l0_0).bind fun t301 => ((jy.f k l1).bind fun t304 => ((jH.f k t301 t304).bind fun t307 => ((jW.f k l0_0).bind fun t310 => ((jy.f k l1).bind fun t314 => ((jda.f k t310 t314).bind fun t317 => ((ji.f k t317 t307).bind fun t320 => (if t320 = true then ((jW.f k l0_0).bind fun t321 => ((jAa.f k t310 t321).bind fun t324 => (if t324 = true then ((jy.f k l1).bind fun t325 => ((ji.f k t314 t325).bind fun t328 => (if t328 = true then ((jha.f k t310 1).bind fun bt329 => ((jr.f k t314 bt329.1).bind fun bt331 => (if bt331.1 < 0 then (jc.j0 k l1 t307 t317 true l0_0) else ((ji.f k t317 t307).bind fun t333 => (jc.j0 k l1 t307 t317 (!t333) l0_0))))) else (some false)))) else (some false)))) else (some false))))))))))))
set_option maxHeartbeats 8000000 in
set_option maxRecDepth 100000 in
theorem jc.calls (k : Nat) (A0_0 : Option Addr) (c0_0 : Nat) (l0_0 : List (S77)) (A1 : Option Addr) (c1 : Nat) (l1 : List (S55)) (r : Bool) (w : World) (hr0_0 : Kd.C k77 w A0_0 l0_0.length l0_0) (hc0_0 : l0_0.length ≤ c0_0) (hr1 : Kd.C k55 w A1 l1.length l1) (hc1 : l1.length ≤ c1) (hT : r = true) (h : jc.f k l0_0 l1 = some r) :
  Calls Try.prog 3 #[.agg #[.slice A0_0 l0_0.length c0_0], .slice A1 l1.length c1] w fun e w'=>e=.returned (.bool r)∧Below w.heap.size w w':=by
 have hu24:=Try.underlying24
 have hu32:=Try.underlying32
 have HR0_0:=am hr0_0
 have HC0_0:=am hc0_0
 clear hr0_0 hc0_0
 have HR1:=am hr1
 have HC1:=am hc1
 clear hr1 hc1
 have HB:=am (Below.refl w.heap.size w)
 have H:((jWa.f k l0_0 1048576).bind fun t299=>(if t299<0 then (some true) else ((jSa.f l1 t299).bind fun t300=>(if t300<0 then (some true) else ((jW.f k l0_0).bind fun t301=>((jy.f k l1).bind fun t304=>((jH.f k t301 t304).bind fun t307=>((jW.f k l0_0).bind fun t310=>((jy.f k l1).bind fun t314=>((jda.f k t310 t314).bind fun t317=>((ji.f k t317 t307).bind fun t320=>(if t320=true then ((jW.f k l0_0).bind fun t321=>((jAa.f k t310 t321).bind fun t324=>(if t324=true then ((jy.f k l1).bind fun t325=>((ji.f k t314 t325).bind fun t328=>(if t328=true then ((jha.f k t310 1).bind fun bt329=>((jr.f k t314 bt329.1).bind fun bt331=>(if bt331.1<0 then (jc.j0 k l1 t307 t317 true l0_0) else ((ji.f k t317 t307).bind fun t333=>(jc.j0 k l1 t307 t317 (!t333) l0_0))))) else (some false)))) else (some false)))) else (some false)))))))))))))=some r:=h
 clear h
 replace H:=bzS H
 obtain ⟨t299,A30,H⟩:=H
 replace H:(if t299<0 then (some true) else ((jSa.f l1 t299).bind fun t300=>(if t300<0 then (some true) else ((jW.f k l0_0).bind fun t301=>((jy.f k l1).bind fun t304=>((jH.f k t301 t304).bind fun t307=>((jW.f k l0_0).bind fun t310=>((jy.f k l1).bind fun t314=>((jda.f k t310 t314).bind fun t317=>((ji.f k t317 t307).bind fun t320=>(if t320=true then ((jW.f k l0_0).bind fun t321=>((jAa.f k t310 t321).bind fun t324=>(if t324=true then ((jy.f k l1).bind fun t325=>((ji.f k t314 t325).bind fun t328=>(if t328=true then ((jha.f k t310 1).bind fun bt329=>((jr.f k t314 bt329.1).bind fun bt331=>(if bt331.1<0 then (jc.j0 k l1 t307 t317 true l0_0) else ((ji.f k t317 t307).bind fun t333=>(jc.j0 k l1 t307 t317 (!t333) l0_0))))) else (some false)))) else (some false)))) else (some false))))))))))))=some r:=H
 have A3:=am A30
 clear A30
 by_cases c4:t299<0
 ·rw [if_pos c4] at H
  have c4b0:decide (t299<0)=true:=dzT c4
  clear c4
  obtain rfl:=Option.some.inj H
  go_enter Try.func3,Try.ntmps3
  go_wp2_with (first |((with_reducible refine jO (N:=2) rfl ?_);refine bE (N:=2) (cs:=#[.slice A0_0 l0_0.length c0_0]) (t:=24) ?_;intro gb298 hg w5 hbox hb;have BK298:=am (hbox);have GW298:=am ((Y1:w.heap.size≤gb298));have GE298:=am ((Y1:w.heap.size≤gb298));replace HB:=am (jd (bq) hb);clear hb hbox hg;have hcz6_0:=bc0 BK298.out;have hfz6_0:=ja BK298.out 0) |((with_reducible refine jf (f:=7) rfl ?_);refine gL (some 16) Try.func7 #[.agg #[.slice A0_0 l0_0.length c0_0], .int .i64 1048576] ?_;(with_reducible refine (jWa.calls k _ _ l0_0 1048576 t299 _ ?side1 ?side2 A3.out).mono ?_);(case side1=>exact cq (Kd.jJ HR0_0.out HB.out));(case side2=>exact HC0_0.out);rintro e w7 ⟨rfl,hb⟩;refine ⟨_,rfl,?_⟩;replace BK298:=am (jl (g:=gb298) (o:=.cells #[.slice A0_0 l0_0.length c0_0] 24 (0,0)) (kq BK298.out) hb);replace HB:=am (jd (Y9) hb);(try clear hb);(try clear hb2);(try clear hk);(try clear hi)))
  go_ret
  exact ⟨Y0,Y9⟩
 ·rw [if_neg c4] at H
  have c4b0:decide (t299<0)=false:=dzF c4
  clear c4
  replace H:=bzS H
  obtain ⟨t300,A80,H⟩:=H
  replace H:(if t300<0 then (some true) else ((jW.f k l0_0).bind fun t301=>((jy.f k l1).bind fun t304=>((jH.f k t301 t304).bind fun t307=>((jW.f k l0_0).bind fun t310=>((jy.f k l1).bind fun t314=>((jda.f k t310 t314).bind fun t317=>((ji.f k t317 t307).bind fun t320=>(if t320=true then ((jW.f k l0_0).bind fun t321=>((jAa.f k t310 t321).bind fun t324=>(if t324=true then ((jy.f k l1).bind fun t325=>((ji.f k t314 t325).bind fun t328=>(if t328=true then ((jha.f k t310 1).bind fun bt329=>((jr.f k t314 bt329.1).bind fun bt331=>(if bt331.1<0 then (jc.j0 k l1 t307 t317 true l0_0) else ((ji.f k t317 t307).bind fun t333=>(jc.j0 k l1 t307 t317 (!t333) l0_0))))) else (some false)))) else (some false)))) else (some false))))))))))=some r:=H
  have A8:=am A80
  clear A80
  by_cases c9:t300<0
  ·rw [if_pos c9] at H
   have c9b0:decide (t300<0)=true:=dzT c9
   clear c9
   obtain rfl:=Option.some.inj H
   go_enter Try.func3,Try.ntmps3
   go_wp2_with (first |((with_reducible refine jO (N:=2) rfl ?_);refine bE (N:=2) (cs:=#[.slice A0_0 l0_0.length c0_0]) (t:=24) ?_;intro gb298 hg w10 hbox hb;have BK298:=am (hbox);have GW298:=am ((Y1:w.heap.size≤gb298));have GE298:=am ((Y1:w.heap.size≤gb298));replace HB:=am (jd (bq) hb);clear hb hbox hg;have hcz11_0:=bc0 BK298.out;have hfz11_0:=ja BK298.out 0) |((with_reducible refine jf (f:=7) rfl ?_);refine gL (some 16) Try.func7 #[.agg #[.slice A0_0 l0_0.length c0_0], .int .i64 1048576] ?_;(with_reducible refine (jWa.calls k _ _ l0_0 1048576 t299 _ ?side1 ?side2 A3.out).mono ?_);(case side1=>exact cq (Kd.jJ HR0_0.out HB.out));(case side2=>exact HC0_0.out);rintro e w12 ⟨rfl,hb⟩;refine ⟨_,rfl,?_⟩;replace BK298:=am (jl (g:=gb298) (o:=.cells #[.slice A0_0 l0_0.length c0_0] 24 (0,0)) (kq BK298.out) hb);replace HB:=am (jd (Y9) hb);(try clear hb);(try clear hb2);(try clear hk);(try clear hi)) |((with_reducible refine jf (f:=8) rfl ?_);refine gL (some 21) Try.func8 #[.slice A1 l1.length c1, .int .i64 t299] ?_;(with_reducible refine (jSa.calls _ _ l1 t299 t300 _ ?side1 ?side2 A8.out).mono ?_);(case side1=>exact cq (Kd.jJ HR1.out HB.out));(case side2=>exact HC1.out);rintro e w' ⟨rfl,⟨nd,rfl⟩⟩;refine ⟨_,rfl,?_⟩))
   go_ret
   exact ⟨Y0,Y9⟩
  ·rw [if_neg c9] at H
   have c9b0:decide (t300<0)=false:=dzF c9
   clear c9
   replace H:=bzS H
   obtain ⟨t301,A130,H⟩:=H
   replace H:((jy.f k l1).bind fun t304=>((jH.f k t301 t304).bind fun t307=>((jW.f k l0_0).bind fun t310=>((jy.f k l1).bind fun t314=>((jda.f k t310 t314).bind fun t317=>((ji.f k t317 t307).bind fun t320=>(if t320=true then ((jW.f k l0_0).bind fun t321=>((jAa.f k t310 t321).bind fun t324=>(if t324=true then ((jy.f k l1).bind fun t325=>((ji.f k t314 t325).bind fun t328=>(if t328=true then ((jha.f k t310 1).bind fun bt329=>((jr.f k t314 bt329.1).bind fun bt331=>(if bt331.1<0 then (jc.j0 k l1 t307 t317 true l0_0) else ((ji.f k t317 t307).bind fun t333=>(jc.j0 k l1 t307 t317 (!t333) l0_0))))) else (some false)))) else (some false)))) else (some false))))))))=some r:=H
   have A13:=am A130
   clear A130
   replace H:=bzS H
   obtain ⟨t304,A140,H⟩:=H
   replace H:((jH.f k t301 t304).bind fun t307=>((jW.f k l0_0).bind fun t310=>((jy.f k l1).bind fun t314=>((jda.f k t310 t314).bind fun t317=>((ji.f k t317 t307).bind fun t320=>(if t320=true then ((jW.f k l0_0).bind fun t321=>((jAa.f k t310 t321).bind fun t324=>(if t324=true then ((jy.f k l1).bind fun t325=>((ji.f k t314 t325).bind fun t328=>(if t328=true then ((jha.f k t310 1).bind fun bt329=>((jr.f k t314 bt329.1).bind fun bt331=>(if bt331.1<0 then (jc.j0 k l1 t307 t317 true l0_0) else ((ji.f k t317 t307).bind fun t333=>(jc.j0 k l1 t307 t317 (!t333) l0_0))))) else (some false)))) else (some false)))) else (some false)))))))=some r:=H
   have A14:=am A140
   clear A140
   replace H:=bzS H
   obtain ⟨t307,A150,H⟩:=H
   replace H:((jW.f k l0_0).bind fun t310=>((jy.f k l1).bind fun t314=>((jda.f k t310 t314).bind fun t317=>((ji.f k t317 t307).bind fun t320=>(if t320=true then ((jW.f k l0_0).bind fun t321=>((jAa.f k t310 t321).bind fun t324=>(if t324=true then ((jy.f k l1).bind fun t325=>((ji.f k t314 t325).bind fun t328=>(if t328=true then ((jha.f k t310 1).bind fun bt329=>((jr.f k t314 bt329.1).bind fun bt331=>(if bt331.1<0 then (jc.j0 k l1 t307 t317 true l0_0) else ((ji.f k t317 t307).bind fun t333=>(jc.j0 k l1 t307 t317 (!t333) l0_0))))) else (some false)))) else (some false)))) else (some false))))))=some r:=H
   have A15:=am A150
   clear A150
   replace H:=bzS H
   obtain ⟨t310,A160,H⟩:=H
   replace H:((jy.f k l1).bind fun t314=>((jda.f k t310 t314).bind fun t317=>((ji.f k t317 t307).bind fun t320=>(if t320=true then ((jW.f k l0_0).bind fun t321=>((jAa.f k t310 t321).bind fun t324=>(if t324=true then ((jy.f k l1).bind fun t325=>((ji.f k t314 t325).bind fun t328=>(if t328=true then ((jha.f k t310 1).bind fun bt329=>((jr.f k t314 bt329.1).bind fun bt331=>(if bt331.1<0 then (jc.j0 k l1 t307 t317 true l0_0) else ((ji.f k t317 t307).bind fun t333=>(jc.j0 k l1 t307 t317 (!t333) l0_0))))) else (some false)))) else (some false)))) else (some false)))))=some r:=H
   have A16:=am A160
   clear A160
   replace H:=bzS H
   obtain ⟨t314,A170,H⟩:=H
   replace H:((jda.f k t310 t314).bind fun t317=>((ji.f k t317 t307).bind fun t320=>(if t320=true then ((jW.f k l0_0).bind fun t321=>((jAa.f k t310 t321).bind fun t324=>(if t324=true then ((jy.f k l1).bind fun t325=>((ji.f k t314 t325).bind fun t328=>(if t328=true then ((jha.f k t310 1).bind fun bt329=>((jr.f k t314 bt329.1).bind fun bt331=>(if bt331.1<0 then (jc.j0 k l1 t307 t317 true l0_0) else ((ji.f k t317 t307).bind fun t333=>(jc.j0 k l1 t307 t317 (!t333) l0_0))))) else (some false)))) else (some false)))) else (some false))))=some r:=H
   have A17:=am A170
   clear A170
   replace H:=bzS H
   obtain ⟨t317,A180,H⟩:=H
   replace H:((ji.f k t317 t307).bind fun t320=>(if t320=true then ((jW.f k l0_0).bind fun t321=>((jAa.f k t310 t321).bind fun t324=>(if t324=true then ((jy.f k l1).bind fun t325=>((ji.f k t314 t325).bind fun t328=>(if t328=true then ((jha.f k t310 1).bind fun bt329=>((jr.f k t314 bt329.1).bind fun bt331=>(if bt331.1<0 then (jc.j0 k l1 t307 t317 true l0_0) else ((ji.f k t317 t307).bind fun t333=>(jc.j0 k l1 t307 t317 (!t333) l0_0))))) else (some false)))) else (some false)))) else (some false)))=some r:=H
   have A18:=am A180
   clear A180
   replace H:=bzS H
   obtain ⟨t320,A190,H⟩:=H
   replace H:(if t320=true then ((jW.f k l0_0).bind fun t321=>((jAa.f k t310 t321).bind fun t324=>(if t324=true then ((jy.f k l1).bind fun t325=>((ji.f k t314 t325).bind fun t328=>(if t328=true then ((jha.f k t310 1).bind fun bt329=>((jr.f k t314 bt329.1).bind fun bt331=>(if bt331.1<0 then (jc.j0 k l1 t307 t317 true l0_0) else ((ji.f k t317 t307).bind fun t333=>(jc.j0 k l1 t307 t317 (!t333) l0_0))))) else (some false)))) else (some false)))) else (some false))=some r:=H
   have A19:=am A190
   clear A190
   by_cases c20:t320=true
   ·subst c20
    have H1:((jW.f k l0_0).bind fun t321=>((jAa.f k t310 t321).bind fun t324=>(if t324=true then ((jy.f k l1).bind fun t325=>((ji.f k t314 t325).bind fun t328=>(if t328=true then ((jha.f k t310 1).bind fun bt329=>((jr.f k t314 bt329.1).bind fun bt331=>(if bt331.1<0 then (jc.j0 k l1 t307 t317 true l0_0) else ((ji.f k t317 t307).bind fun t333=>(jc.j0 k l1 t307 t317 (!t333) l0_0))))) else (some false)))) else (some false))))=some r:=by rw [if_pos rfl] at H;exact H
    clear H
    have H:=H1
    clear H1
    replace H:=bzS H
    obtain ⟨t321,A210,H⟩:=H
    replace H:((jAa.f k t310 t321).bind fun t324=>(if t324=true then ((jy.f k l1).bind fun t325=>((ji.f k t314 t325).bind fun t328=>(if t328=true then ((jha.f k t310 1).bind fun bt329=>((jr.f k t314 bt329.1).bind fun bt331=>(if bt331.1<0 then (jc.j0 k l1 t307 t317 true l0_0) else ((ji.f k t317 t307).bind fun t333=>(jc.j0 k l1 t307 t317 (!t333) l0_0))))) else (some false)))) else (some false)))=some r:=H
    have A21:=am A210
    clear A210
    replace H:=bzS H
    obtain ⟨t324,A220,H⟩:=H
    replace H:(if t324=true then ((jy.f k l1).bind fun t325=>((ji.f k t314 t325).bind fun t328=>(if t328=true then ((jha.f k t310 1).bind fun bt329=>((jr.f k t314 bt329.1).bind fun bt331=>(if bt331.1<0 then (jc.j0 k l1 t307 t317 true l0_0) else ((ji.f k t317 t307).bind fun t333=>(jc.j0 k l1 t307 t317 (!t333) l0_0))))) else (some false)))) else (some false))=some r:=H
    have A22:=am A220
    clear A220
    by_cases c23:t324=true
    ·subst c23
     have H1:((jy.f k l1).bind fun t325=>((ji.f k t314 t325).bind fun t328=>(if t328=true then ((jha.f k t310 1).bind fun bt329=>((jr.f k t314 bt329.1).bind fun bt331=>(if bt331.1<0 then (jc.j0 k l1 t307 t317 true l0_0) else ((ji.f k t317 t307).bind fun t333=>(jc.j0 k l1 t307 t317 (!t333) l0_0))))) else (some false))))=some r:=by rw [if_pos rfl] at H;exact H
     clear H
     have H:=H1
     clear H1
     replace H:=bzS H
     obtain ⟨t325,A240,H⟩:=H
     replace H:((ji.f k t314 t325).bind fun t328=>(if t328=true then ((jha.f k t310 1).bind fun bt329=>((jr.f k t314 bt329.1).bind fun bt331=>(if bt331.1<0 then (jc.j0 k l1 t307 t317 true l0_0) else ((ji.f k t317 t307).bind fun t333=>(jc.j0 k l1 t307 t317 (!t333) l0_0))))) else (some false)))=some r:=H
     have A24:=am A240
     clear A240
     replace H:=bzS H
     obtain ⟨t328,A250,H⟩:=H
     replace H:(if t328=true then ((jha.f k t310 1).bind fun bt329=>((jr.f k t314 bt329.1).bind fun bt331=>(if bt331.1<0 then (jc.j0 k l1 t307 t317 true l0_0) else ((ji.f k t317 t307).bind fun t333=>(jc.j0 k l1 t307 t317 (!t333) l0_0))))) else (some false))=some r:=H
     have A25:=am A250
     clear A250
     by_cases c26:t328=true
     ·subst c26
      have H1:((jha.f k t310 1).bind fun bt329=>((jr.f k t314 bt329.1).bind fun bt331=>(if bt331.1<0 then (jc.j0 k l1 t307 t317 true l0_0) else ((ji.f k t317 t307).bind fun t333=>(jc.j0 k l1 t307 t317 (!t333) l0_0)))))=some r:=by rw [if_pos rfl] at H;exact H
      clear H
      have H:=H1
      clear H1
      replace H:=bzS H
      obtain ⟨⟨t329,t330⟩,A270,H⟩:=H
      replace H:((jr.f k t314 t329).bind fun bt331=>(if bt331.1<0 then (jc.j0 k l1 t307 t317 true l0_0) else ((ji.f k t317 t307).bind fun t333=>(jc.j0 k l1 t307 t317 (!t333) l0_0))))=some r:=H
      have A27:=am A270
      clear A270
      replace H:=bzS H
      obtain ⟨⟨t331,t332⟩,A280,H⟩:=H
      replace H:(if t331<0 then (jc.j0 k l1 t307 t317 true l0_0) else ((ji.f k t317 t307).bind fun t333=>(jc.j0 k l1 t307 t317 (!t333) l0_0)))=some r:=H
      have A28:=am A280
      clear A280
      have HC29:=am H
      clear H
      go_enter Try.func3,Try.ntmps3
      try go_wp2_with (first |((with_reducible refine jO (N:=2) rfl ?_);refine bE (N:=2) (cs:=#[.slice A0_0 l0_0.length c0_0]) (t:=24) ?_;intro gb298 hg w30 hbox hb;have BK298:=am (hbox);have GW298:=am ((Y1:w.heap.size≤gb298));have GE298:=am ((Y1:w.heap.size≤gb298));replace HB:=am (jd (bq) hb);clear hb hbox hg;have hcz31_0:=bc0 BK298.out;have hfz31_0:=ja BK298.out 0) |((with_reducible refine jf (f:=7) rfl ?_);refine gL (some 16) Try.func7 #[.agg #[.slice A0_0 l0_0.length c0_0], .int .i64 1048576] ?_;(with_reducible refine (jWa.calls k _ _ l0_0 1048576 t299 _ ?side1 ?side2 A3.out).mono ?_);(case side1=>exact cq (Kd.jJ HR0_0.out HB.out));(case side2=>exact HC0_0.out);rintro e w32 ⟨rfl,hb⟩;refine ⟨_,rfl,?_⟩;replace BK298:=am (jl (g:=gb298) (o:=.cells #[.slice A0_0 l0_0.length c0_0] 24 (0,0)) (kq BK298.out) hb);replace HB:=am (jd (Y9) hb);(try clear hb);(try clear hb2);(try clear hk);(try clear hi)) |((with_reducible refine jf (f:=8) rfl ?_);refine gL (some 21) Try.func8 #[.slice A1 l1.length c1, .int .i64 t299] ?_;(with_reducible refine (jSa.calls _ _ l1 t299 t300 _ ?side1 ?side2 A8.out).mono ?_);(case side1=>exact cq (Kd.jJ HR1.out HB.out));(case side2=>exact HC1.out);rintro e w' ⟨rfl,⟨nd,rfl⟩⟩;refine ⟨_,rfl,?_⟩;(try (rw [drewN_self w32];generalize hq_:World.drewN w32 _=w32;have n0_:jv (w32.heap[gb298]?=some (.cells #[.slice A0_0 l0_0.length c0_0] 24 (0,0))):=⟨by rw [← hq_];exact (kq BK298.out)⟩;have n1_:jv (Below w.heap.size w w32):=⟨by rw [← hq_];exact (Y9)⟩;clear BK298 HB hq_;have BK298:=n0_;have HB:=n1_;clear n0_ n1_));have hcz33_0:=bc0 BK298.out;have hfz33_0:=ja BK298.out 0) |((with_reducible refine jf (f:=10) rfl ?_);refine gL (some 25) Try.func10 #[.agg #[.slice A0_0 l0_0.length c0_0]] ?_;(with_reducible refine (jW.calls k _ _ l0_0 t301 _ ?side1 ?side2 A13.out).mono ?_);(case side1=>exact cq (Kd.jJ HR0_0.out HB.out));(case side2=>exact HC0_0.out);rintro e w34 ⟨v302,rfl,ho0,hb⟩;refine ⟨_,rfl,?_⟩;have HO303:=am (Kd.jLa ho0 (jL (Y9)));replace BK298:=am (jl (g:=gb298) (o:=.cells #[.slice A0_0 l0_0.length c0_0] 24 (0,0)) (kq BK298.out) hb);replace HB:=am (jd (Y9) hb);(try clear hb);(try clear hb2);(try clear hk);(try clear hi);(try clear ho0)) |((with_reducible refine jf (f:=11) rfl ?_);refine gL (some 27) Try.func11 #[.slice A1 l1.length c1] ?_;(with_reducible refine (jy.calls k _ _ l1 t304 _ ?side1 ?side2 A14.out).mono ?_);(case side1=>exact cq (Kd.jJ HR1.out HB.out));(case side2=>exact HC1.out);rintro e w35 ⟨v305,rfl,ho0,hb⟩;refine ⟨_,rfl,?_⟩;have HO306:=am (Kd.jLa ho0 (jL (Y9)));replace HO303:=am (Kd.jP (rq HO303.out) hb);replace BK298:=am (jl (g:=gb298) (o:=.cells #[.slice A0_0 l0_0.length c0_0] 24 (0,0)) (kq BK298.out) hb);replace HB:=am (jd (Y9) hb);(try clear hb);(try clear hb2);(try clear hk);(try clear hi);(try clear ho0);obtain ⟨Ao36,co36,eo36⟩:=Kd.jOa HO303.out;subst eo36;obtain ⟨Ao37,co37,eo37⟩:=Kd.jOa HO306.out;subst eo37) |((with_reducible refine jf (f:=9) rfl ?_);refine gL (some 28) Try.func9 #[.agg #[.slice Ao36 t301.length co36], .slice Ao37 t304.length co37] ?_;(with_reducible refine (jH.calls k _ _ t301 _ _ t304 t307 _ ?side1 ?side2 ?side3 ?side4 A15.out).mono ?_);(case side1=>exact cq (Kd.jG HO303.out).2.2);(case side2=>exact (Kd.jG HO303.out).2.1);(case side3=>exact cq (Kd.jG HO306.out).2.2);(case side4=>exact (Kd.jG HO306.out).2.1);rintro e w38 ⟨v308,rfl,ho0,hb⟩;refine ⟨_,rfl,?_⟩;have HO309:=am (Kd.jLa (Kd.jkb ho0 (Kd.R_lt (rq HO306.out))) (jL (Y9)));replace HO303:=am (Kd.jP (rq HO303.out) hb);replace HO306:=am (Kd.jNa (rq HO306.out) (Kd.jlb ho0) hb);replace BK298:=am (jl (g:=gb298) (o:=.cells #[.slice A0_0 l0_0.length c0_0] 24 (0,0)) (kq BK298.out) hb);replace HB:=am (jd (Y9) hb);(try clear hb);(try clear hb2);(try clear hk);(try clear hi);(try clear ho0);have hcz39_0:=bc0 BK298.out;have hfz39_0:=ja BK298.out 0) |((with_reducible refine jf (f:=10) rfl ?_);refine gL (some 30) Try.func10 #[.agg #[.slice A0_0 l0_0.length c0_0]] ?_;(with_reducible refine (jW.calls k _ _ l0_0 t310 _ ?side1 ?side2 A16.out).mono ?_);(case side1=>exact cq (Kd.jJ HR0_0.out HB.out));(case side2=>exact HC0_0.out);rintro e w40 ⟨v311,rfl,ho0,hb⟩;refine ⟨_,rfl,?_⟩;have HO312:=am (Kd.jLa (Kd.jkb ho0 (Kd.R_lt (rq HO303.out))) (jL (Y9)));replace HO303:=am (Kd.jNa (rq HO303.out) (Kd.jlb ho0) hb);replace HO306:=am (Kd.jP (rq HO306.out) hb);replace HO309:=am (Kd.jP (rq HO309.out) hb);replace BK298:=am (jl (g:=gb298) (o:=.cells #[.slice A0_0 l0_0.length c0_0] 24 (0,0)) (kq BK298.out) hb);replace HB:=am (jd (Y9) hb);(try clear hb);(try clear hb2);(try clear hk);(try clear hi);(try clear ho0)) |((with_reducible refine jO (N:=7) rfl ?_);refine bE (N:=7) (cs:=#[.slice none 0 0]) (t:=32) ?_;intro gb313 hg w41 hbox hb;have BK313:=am (hbox);have GW313:=am ((Y50:w.heap.size≤gb313));have GE313:=am ((Y50:w.heap.size≤gb313));have NB298_313:=am ((by rw [hg];exact Nat.ne_of_lt (jHa (g:=gb298) (o:=.cells #[.slice A0_0 l0_0.length c0_0] 24 (0,0)) (kq BK298.out)):gb298≠gb313));have NB313_298:=am ((by rw [hg];exact Nat.ne_of_gt (jHa (g:=gb298) (o:=.cells #[.slice A0_0 l0_0.length c0_0] 24 (0,0)) (kq BK298.out)):gb313≠gb298));replace HO303:=am (Kd.jP (rq HO303.out) hb);replace HO306:=am (Kd.jP (rq HO306.out) hb);replace HO309:=am (Kd.jP (rq HO309.out) hb);replace HO312:=am (Kd.jP (rq HO312.out) hb);replace BK298:=am (jl (g:=gb298) (o:=.cells #[.slice A0_0 l0_0.length c0_0] 24 (0,0)) (kq BK298.out) hb);replace HB:=am (jd (Y9) hb);clear hb hbox hg;obtain ⟨Ao42,co42,eo42⟩:=Kd.jOa HO312.out;subst eo42;have hnb43:=NB313_298.out;have hnc43:=NB298_313.out;have hcz44_0:=bc0 BK313.out;have hfz44_0:=ja BK313.out 0) |((with_reducible refine jf (f:=11) rfl ?_);refine gL (some 32) Try.func11 #[.slice A1 l1.length c1] ?_;(with_reducible refine (jy.calls k _ _ l1 t314 _ ?side1 ?side2 A17.out).mono ?_);(case side1=>exact Kd.jJ HR1.out (Y3));(case side2=>exact HC1.out);rintro e w45 ⟨v315,rfl,ho0,hb⟩;refine ⟨_,rfl,?_⟩;have HO316:=am (Kd.jLa (Kd.jkb (Kd.jkb ho0 (Kd.R_lt (Y51))) (Kd.R_lt (Y52))) (jL (Y3)));replace HO303:=am (Kd.jP (by (with_reducible repeat (first | apply Kd.jib | apply Kd.jhb | apply Kd.jfb));exact (Kd.jGa (Kd.R_far (p:=⟨gb313,0,none⟩) (Kd.R_types HO303.out BK313.out (by decide)) (fun _ hk=>hk.2) (.slice Ao42 t310.length co42)) (fun _ h_=>h_.1))) hb);replace HO306:=am (Kd.jNa (Y51) (Kd.jlb ho0) hb);replace HO309:=am (Kd.jNa (Y52) (Kd.jlb ho0) hb);replace HO312:=am (Kd.jP (by (with_reducible repeat (first | apply Kd.jib | apply Kd.jhb | apply Kd.jfb));exact (Kd.jGa (Kd.R_far (p:=⟨gb313,0,none⟩) (Kd.R_types HO312.out BK313.out (by decide)) (fun _ hk=>hk.2) (.slice Ao42 t310.length co42)) (fun _ h_=>h_.1))) hb);replace BK298:=am (jl (g:=gb298) (o:=.cells #[.slice A0_0 l0_0.length c0_0] 24 (0,0)) (by (with_reducible repeat (first | refine jU ?_ _ | refine jna ?_ | refine jga ?_ _));refine jwb ?_ NB298_313.out _;(with_reducible repeat (first | refine jU ?_ _ | refine jna ?_ | refine jga ?_ _));exact BK298.out) hb);replace BK313:=am (jl (g:=gb313) (o:=.cells #[.slice Ao42 t310.length co42] 32 (0,0)) (by (with_reducible repeat (first | refine jU ?_ _ | refine jna ?_ | refine jga ?_ _));refine jvb (cs:=#[.slice none 0 0]) ?_ 0 _ rfl;(with_reducible repeat (first | refine jU ?_ _ | refine jna ?_ | refine jga ?_ _));exact BK313.out) hb);replace HB:=am (jd (Y3) hb);(try clear hb);(try clear hb2);(try clear hk);(try clear hi);(try clear ho0);have hcz46_0:=bc0 BK313.out;have hfz46_0:=ja BK313.out 0;obtain ⟨Ao47,co47,eo47⟩:=Kd.jOa HO316.out;subst eo47) |((with_reducible refine jf (f:=12) rfl ?_);refine gL (some 35) Try.func12 #[.agg #[.slice Ao42 t310.length co42], .slice Ao47 t314.length co47] ?_;(with_reducible refine (jda.calls k _ _ t310 _ _ t314 t317 _ ?side1 ?side2 ?side3 ?side4 A18.out).mono ?_);(case side1=>exact cq (Kd.jG HO312.out).2.2);(case side2=>exact (Kd.jG HO312.out).2.1);(case side3=>exact cq (Kd.jG HO316.out).2.2);(case side4=>exact (Kd.jG HO316.out).2.1);rintro e w48 ⟨v318,rfl,ho0,hb⟩;refine ⟨_,rfl,?_⟩;have HO319:=am (Kd.jLa (Kd.jkb (Kd.jkb (Kd.jkb ho0 (Kd.R_lt (rq HO306.out))) (Kd.R_lt (rq HO309.out))) (Kd.R_lt (rq HO316.out))) (jL (Y3)));replace HO303:=am (Kd.jP (rq HO303.out) hb);replace HO306:=am (Kd.jNa (rq HO306.out) (Kd.jlb ho0) hb);replace HO309:=am (Kd.jNa (rq HO309.out) (Kd.jlb ho0) hb);replace HO312:=am (Kd.jP (rq HO312.out) hb);replace HO316:=am (Kd.jNa (rq HO316.out) (Kd.jlb ho0) hb);replace BK298:=am (jl (g:=gb298) (o:=.cells #[.slice A0_0 l0_0.length c0_0] 24 (0,0)) (kq BK298.out) hb);replace BK313:=am (jl (g:=gb313) (o:=.cells #[.slice Ao42 t310.length co42] 32 (0,0)) (kq BK313.out) hb);replace HB:=am (jd (Y3) hb);(try clear hb);(try clear hb2);(try clear hk);(try clear hi);(try clear ho0);obtain ⟨Ao49,co49,eo49⟩:=Kd.jOa HO319.out;subst eo49;obtain ⟨Ao50,co50,eo50⟩:=Kd.jOa HO309.out;subst eo50) |((with_reducible refine jf (f:=13) rfl ?_);refine gL (some 38) Try.func13 #[.slice Ao49 t317.length co49, .slice Ao50 t307.length co50] ?_;(with_reducible refine (ji.calls k _ _ t317 _ _ t307 true _ ?side1 ?side2 ?side3 ?side4 A19.out).mono ?_);(case side1=>exact cq (Kd.jG HO319.out).2.2);(case side2=>exact (Kd.jG HO319.out).2.1);(case side3=>exact cq (Kd.jG HO309.out).2.2);(case side4=>exact (Kd.jG HO309.out).2.1);rintro e w51 ⟨rfl,hb⟩;refine ⟨_,rfl,?_⟩;replace HO303:=am (Kd.jP (rq HO303.out) hb);replace HO306:=am (Kd.jP (rq HO306.out) hb);replace HO309:=am (Kd.jP (rq HO309.out) hb);replace HO312:=am (Kd.jP (rq HO312.out) hb);replace HO316:=am (Kd.jP (rq HO316.out) hb);replace HO319:=am (Kd.jP (rq HO319.out) hb);replace BK298:=am (jl (g:=gb298) (o:=.cells #[.slice A0_0 l0_0.length c0_0] 24 (0,0)) (kq BK298.out) hb);replace BK313:=am (jl (g:=gb313) (o:=.cells #[.slice Ao42 t310.length co42] 32 (0,0)) (kq BK313.out) hb);replace HB:=am (jd (Y3) hb);(try clear hb);(try clear hb2);(try clear hk);(try clear hi)))
      replace HO303:=am (Kd.jfb HO303.out)
      replace HO306:=am (Kd.jfb HO306.out)
      replace HO309:=am (Kd.jfb HO309.out)
      replace HO312:=am (Kd.jfb HO312.out)
      replace HO316:=am (Kd.jfb HO316.out)
      replace HO319:=am (Kd.jfb HO319.out)
      replace BK298:=am (jna BK298.out)
      replace BK313:=am (jna BK313.out)
      replace HB:=am (jC HB.out)
      refine start_ (n:=5) (S:=fun w'=>w'.cell? ⟨gb313,0,none⟩=some (.slice Ao42 t310.length co42)∧w'.cell? ⟨gb298,0,none⟩=some (.slice A0_0 l0_0.length c0_0)) (ds:=[]) #[false,false,false,false,false] (by kernel_rfl) rfl rfl ⟨(jFa BK313.out 0).trans rfl,(jFa BK298.out 0).trans rfl⟩ (fun hHeld=>?_)
      generalize w51.drew=w52 at HO303 HO306 HO309 HO312 HO316 HO319 BK298 BK313 HB hHeld ⊢
      refine take_ (i:=0) (N:=some 40) (v:=?_) (a':=?_) #[true,false,false,false,false] rfl rfl (by kernel_rfl) (fun _ _ _ h=>h) (Or.inl ⟨by rfl,?_⟩) hHeld ?_ ?_
      rotate_left
      ·rintro w' ⟨s0,s1⟩
       go_simp
       with_reducible rfl
      rotate_left
      ·exact sa
      refine take_ (i:=1) (N:=some 41) (v:=?_) (a':=?_) #[true,true,false,false,false] rfl rfl (by kernel_rfl) (fun _ _ _ h=>h) (Or.inl ⟨by rfl,?_⟩) hHeld ?_ ?_
      rotate_left
      ·rintro w' ⟨s0,s1⟩
       go_simp
       with_reducible rfl
      rotate_left
      ·exact sa
      refine one_ (i:=2) (N:=some 42) #[true,true,true,false,false] rfl rfl (by kernel_rfl) (by decide) (fun K hK=>?_)
      refine goes_ Try.func10 (by kernel_rfl) rfl #[.agg #[.slice A0_0 l0_0.length c0_0]] (by rfl) rfl rfl (aq) ?_
      with_reducible refine (jW.calls k _ _ l0_0 t321 _ ?side1 ?side2 A21.out).mono ?_
      (case side1=>exact cq (Kd.jJ HR0_0.out HB.out))
      (case side2=>exact HC0_0.out)
      rintro e w53 ⟨v322,rfl,ho0,hb⟩
      refine ⟨_,rfl,?_⟩
      have HO323:=am (Kd.jLa (Kd.jkb (Kd.jkb ho0 (Kd.R_lt (rq HO303.out))) (Kd.R_lt (rq HO312.out))) (jL (Y3)))
      replace HO303:=am (Kd.jNa (rq HO303.out) (Kd.jlb ho0) hb)
      replace HO306:=am (Kd.jP (rq HO306.out) hb)
      replace HO309:=am (Kd.jP (rq HO309.out) hb)
      replace HO312:=am (Kd.jNa (rq HO312.out) (Kd.jlb ho0) hb)
      replace HO316:=am (Kd.jP (rq HO316.out) hb)
      replace HO319:=am (Kd.jP (rq HO319.out) hb)
      replace BK298:=am (jl (g:=gb298) (o:=.cells #[.slice A0_0 l0_0.length c0_0] 24 (0,0)) (kq BK298.out) hb)
      replace BK313:=am (jl (g:=gb313) (o:=.cells #[.slice Ao42 t310.length co42] 32 (0,0)) (kq BK313.out) hb)
      replace HB:=am (jd (Y3) hb)
      (try clear hb)
      (try clear hb2)
      (try clear hk)
      (try clear hi)
      (try clear ho0)
      obtain ⟨Ao54,co54,eo54⟩:=Kd.jOa HO323.out
      (first | subst eo54 |(injection eo54 with f1_ f2_ f3_;have f4_:=f1_.symm;have f5_:=f3_.symm;clear f1_ f2_ f3_;subst f4_;subst f5_))
      refine hK.out _ _ ⟨(jFa BK313.out 0).trans rfl,(jFa BK298.out 0).trans rfl⟩ (fun hHeld=>?_)
      clear hK K
      refine norm_ (a':=?_) ?_ ?_
      rotate_left
      ·show Act.put _ (some 42) _=_
       simp only [Act.put,List.setIfInBounds_toArray,List.set_cons_zero,List.set_cons_succ,jnb,jrb]
       rfl
      refine one_ (i:=3) (N:=some 43) #[true,true,true,true,false] rfl rfl (by kernel_rfl) (by decide) (fun K hK=>?_)
      refine goes_ Try.func14 (by kernel_rfl) rfl #[.agg #[.slice Ao42 t310.length co42], .agg #[.slice Ao54 t321.length co54]] (by rfl) rfl rfl (aq) ?_
      with_reducible refine (jAa.calls k _ _ t310 _ _ t321 true _ ?side1 ?side2 ?side3 ?side4 A22.out).mono ?_
      (case side1=>exact cq (Kd.jG HO312.out).2.2)
      (case side2=>exact (Kd.jG HO312.out).2.1)
      (case side3=>exact cq (Kd.jG HO323.out).2.2)
      (case side4=>exact (Kd.jG HO323.out).2.1)
      rintro e w55 ⟨rfl,hb⟩
      refine ⟨_,rfl,?_⟩
      replace HO303:=am (Kd.jP (rq HO303.out) hb)
      replace HO306:=am (Kd.jP (rq HO306.out) hb)
      replace HO309:=am (Kd.jP (rq HO309.out) hb)
      replace HO312:=am (Kd.jP (rq HO312.out) hb)
      replace HO316:=am (Kd.jP (rq HO316.out) hb)
      replace HO319:=am (Kd.jP (rq HO319.out) hb)
      replace HO323:=am (Kd.jP (rq HO323.out) hb)
      replace BK298:=am (jl (g:=gb298) (o:=.cells #[.slice A0_0 l0_0.length c0_0] 24 (0,0)) (kq BK298.out) hb)
      replace BK313:=am (jl (g:=gb313) (o:=.cells #[.slice Ao42 t310.length co42] 32 (0,0)) (kq BK313.out) hb)
      replace HB:=am (jd (Y3) hb)
      (try clear hb)
      (try clear hb2)
      (try clear hk)
      (try clear hi)
      refine hK.out _ _ ⟨(jFa BK313.out 0).trans rfl,(jFa BK298.out 0).trans rfl⟩ (fun hHeld=>?_)
      clear hK K
      refine norm_ (a':=?_) ?_ ?_
      rotate_left
      ·show Act.put _ (some 43) _=_
       simp only [Act.put,List.setIfInBounds_toArray,List.set_cons_zero,List.set_cons_succ,jnb,jrb]
       rfl
      refine pure_ (i:=4) (N:=some 44) (v:=?_) (a':=?_) #[true,true,true,true,true] rfl rfl (by kernel_rfl) (fun _ _ _ h=>h) (Or.inl ⟨by rfl,?_⟩) ?_ ?_
      rotate_left
      ·exact sb
      rotate_left
      ·exact sa
      refine done_ (by kernel_rfl) ?_
      go_upto_region 21 with (first |((with_reducible refine jf (f:=11) rfl ?_);refine gL (some 47) Try.func11 #[.slice A1 l1.length c1] ?_;(with_reducible refine (jy.calls k _ _ l1 t325 _ ?side1 ?side2 A24.out).mono ?_);(case side1=>exact cq (Kd.jJ HR1.out HB.out));(case side2=>exact HC1.out);rintro e w56 ⟨v326,rfl,ho0,hb⟩;refine ⟨_,rfl,?_⟩;have HO327:=am (Kd.jLa (Kd.jkb (Kd.jkb (Kd.jkb (Kd.jkb ho0 (Kd.R_lt (rq HO306.out))) (Kd.R_lt (rq HO309.out))) (Kd.R_lt (rq HO316.out))) (Kd.R_lt (rq HO319.out))) (jL (Y3)));replace HO303:=am (Kd.jP (rq HO303.out) hb);replace HO306:=am (Kd.jNa (rq HO306.out) (Kd.jlb ho0) hb);replace HO309:=am (Kd.jNa (rq HO309.out) (Kd.jlb ho0) hb);replace HO312:=am (Kd.jP (rq HO312.out) hb);replace HO316:=am (Kd.jNa (rq HO316.out) (Kd.jlb ho0) hb);replace HO319:=am (Kd.jNa (rq HO319.out) (Kd.jlb ho0) hb);replace HO323:=am (Kd.jP (rq HO323.out) hb);replace BK298:=am (jl (g:=gb298) (o:=.cells #[.slice A0_0 l0_0.length c0_0] 24 (0,0)) (kq BK298.out) hb);replace BK313:=am (jl (g:=gb313) (o:=.cells #[.slice Ao42 t310.length co42] 32 (0,0)) (kq BK313.out) hb);replace HB:=am (jd (Y3) hb);(try clear hb);(try clear hb2);(try clear hk);(try clear hi);(try clear ho0);obtain ⟨Ao57,co57,eo57⟩:=Kd.jOa HO327.out;subst eo57) |((with_reducible refine jf (f:=13) rfl ?_);refine gL (some 48) Try.func13 #[.slice Ao47 t314.length co47, .slice Ao57 t325.length co57] ?_;(with_reducible refine (ji.calls k _ _ t314 _ _ t325 true _ ?side1 ?side2 ?side3 ?side4 A25.out).mono ?_);(case side1=>exact cq (Kd.jG HO316.out).2.2);(case side2=>exact (Kd.jG HO316.out).2.1);(case side3=>exact cq (Kd.jG HO327.out).2.2);(case side4=>exact (Kd.jG HO327.out).2.1);rintro e w58 ⟨rfl,hb⟩;refine ⟨_,rfl,?_⟩;replace HO303:=am (Kd.jP (rq HO303.out) hb);replace HO306:=am (Kd.jP (rq HO306.out) hb);replace HO309:=am (Kd.jP (rq HO309.out) hb);replace HO312:=am (Kd.jP (rq HO312.out) hb);replace HO316:=am (Kd.jP (rq HO316.out) hb);replace HO319:=am (Kd.jP (rq HO319.out) hb);replace HO323:=am (Kd.jP (rq HO323.out) hb);replace HO327:=am (Kd.jP (rq HO327.out) hb);replace BK298:=am (jl (g:=gb298) (o:=.cells #[.slice A0_0 l0_0.length c0_0] 24 (0,0)) (kq BK298.out) hb);replace BK313:=am (jl (g:=gb313) (o:=.cells #[.slice Ao42 t310.length co42] 32 (0,0)) (kq BK313.out) hb);replace HB:=am (jd (Y3) hb);(try clear hb);(try clear hb2);(try clear hk);(try clear hi);have hcz59_0:=bc0 BK313.out;have hfz59_0:=ja BK313.out 0) |((with_reducible refine jf (f:=15) rfl ?_);refine gL (some 52) Try.func15 #[.agg #[.slice Ao42 t310.length co42], .int .i64 1] ?_;(with_reducible refine (jha.calls k (fun k_=>some k_=(.slice Ao42 t310.length co42:Value).ownBlock) (.slice Ao42 t310.length co42) t310 1 t329 t330 w _ ?side1 ?side2 A27.out).mono ?_);(case side1=>exact Y3);(case side2=>exact Kd.R_tight rfl HO312.out);rintro e w60 ⟨rfl,hy0,hb,hkp⟩;refine ⟨_,rfl,?_⟩;replace BK298:=am (jTb (kq BK298.out) hkp (fun hs_=>(fun e_=>(Kd.R_ne HO312.out BK298.out (by decide)) e_) hs_));replace HO303:=am (Kd.jGa (ok':=fun k_=>some k_≠(.slice Ao42 t310.length co42:Value).ownBlock∧some k_≠(.slice Ao54 t321.length co54:Value).ownBlock) (Kd.jgb (HO303.out) hkp (fun k_ hk_ hs_=>(hk_.1.2) hs_)) (fun k_ hk_=>⟨hk_.1.1.2,hk_.1.2⟩));replace HO306:=am (Kd.jGa (ok':=fun k_=>some k_≠(.slice Ao50 t307.length co50:Value).ownBlock∧some k_≠(.slice Ao47 t314.length co47:Value).ownBlock∧some k_≠(.slice Ao49 t317.length co49:Value).ownBlock∧some k_≠(.slice Ao57 t325.length co57:Value).ownBlock) (Kd.jgb ((Kd.jIb HO306.out (Kd.jUb HO312.out) (by decide))) hkp (fun k_ hk_ hs_=>(hk_.2) hs_)) (fun k_ hk_=>⟨hk_.1.1.1.1.1.2,hk_.1.1.1.1.2,hk_.1.1.1.2,hk_.1.1.2⟩));replace HO309:=am (Kd.jGa (ok':=fun k_=>some k_≠(.slice Ao37 t304.length co37:Value).ownBlock∧some k_≠(.slice Ao47 t314.length co47:Value).ownBlock∧some k_≠(.slice Ao49 t317.length co49:Value).ownBlock∧some k_≠(.slice Ao57 t325.length co57:Value).ownBlock) (Kd.jgb ((Kd.jIb HO309.out (Kd.jUb HO312.out) (by decide))) hkp (fun k_ hk_ hs_=>(hk_.2) hs_)) (fun k_ hk_=>⟨hk_.1.1.1.1.1.2,hk_.1.1.1.1.2,hk_.1.1.1.2,hk_.1.1.2⟩));replace BK313:=am (jTb (kq BK313.out) hkp (fun hs_=>(fun e_=>(Kd.R_ne HO312.out BK313.out (by decide)) e_) hs_));replace HO316:=am (Kd.jGa (ok':=fun k_=>some k_≠(.slice Ao37 t304.length co37:Value).ownBlock∧some k_≠(.slice Ao50 t307.length co50:Value).ownBlock∧some k_≠(.slice Ao49 t317.length co49:Value).ownBlock∧some k_≠(.slice Ao57 t325.length co57:Value).ownBlock) (Kd.jgb ((Kd.jIb HO316.out (Kd.jUb HO312.out) (by decide))) hkp (fun k_ hk_ hs_=>(hk_.2) hs_)) (fun k_ hk_=>⟨hk_.1.1.1.1.1.2,hk_.1.1.1.1.2,hk_.1.1.1.2,hk_.1.1.2⟩));replace HO319:=am (Kd.jGa (ok':=fun k_=>some k_≠(.slice Ao37 t304.length co37:Value).ownBlock∧some k_≠(.slice Ao50 t307.length co50:Value).ownBlock∧some k_≠(.slice Ao47 t314.length co47:Value).ownBlock∧some k_≠(.slice Ao57 t325.length co57:Value).ownBlock) (Kd.jgb ((Kd.jIb HO319.out (Kd.jUb HO312.out) (by decide))) hkp (fun k_ hk_ hs_=>(hk_.2) hs_)) (fun k_ hk_=>⟨hk_.1.1.1.1.1.2,hk_.1.1.1.1.2,hk_.1.1.1.2,hk_.1.1.2⟩));replace HO323:=am (Kd.jGa (ok':=fun k_=>some k_≠(.slice Ao36 t301.length co36:Value).ownBlock∧some k_≠(.slice Ao42 t310.length co42:Value).ownBlock) (Kd.jgb (HO323.out) hkp (fun k_ hk_ hs_=>(hk_.2) hs_)) (fun k_ hk_=>⟨hk_.1.1.2,hk_.1.2⟩));replace HO327:=am (Kd.jGa (ok':=fun k_=>some k_≠(.slice Ao37 t304.length co37:Value).ownBlock∧some k_≠(.slice Ao50 t307.length co50:Value).ownBlock∧some k_≠(.slice Ao47 t314.length co47:Value).ownBlock∧some k_≠(.slice Ao49 t317.length co49:Value).ownBlock) (Kd.jgb ((Kd.jIb HO327.out (Kd.jUb HO312.out) (by decide))) hkp (fun k_ hk_ hs_=>(hk_.2) hs_)) (fun k_ hk_=>⟨hk_.1.1.1.1.1.2,hk_.1.1.1.1.2,hk_.1.1.1.2,hk_.1.1.2⟩));replace HO312:=am (Kd.R_reok rfl hy0 (fun k_ e_=>HO312.out.1 k_ e_));replace HB:=am (hb);(try clear hb);(try clear hkp);(try clear hy0)) |((with_reducible refine jf (f:=16) rfl ?_);refine gL (some 55) Try.func16 #[.slice Ao47 t314.length co47, .int .i64 t329] ?_;(with_reducible refine (jr.calls k (fun k_=>some k_=(.slice Ao47 t314.length co47:Value).ownBlock) (.slice Ao47 t314.length co47) t314 t329 t331 t332 w _ ?side1 ?side2 A28.out).mono ?_);(case side1=>exact Y3);(case side2=>exact Kd.R_tight rfl HO316.out);rintro e w61 ⟨rfl,hy0,hb,hkp⟩;refine ⟨_,rfl,?_⟩;replace BK298:=am (jTb (kq BK298.out) hkp (fun hs_=>(fun e_=>(Kd.R_ne HO316.out BK298.out (by decide)) e_) hs_));replace HO303:=am (Kd.jGa (ok':=fun k_=>some k_≠(.slice Ao42 t310.length co42:Value).ownBlock∧some k_≠(.slice Ao54 t321.length co54:Value).ownBlock) (Kd.jgb ((Kd.jIb HO303.out (Kd.jUb HO316.out) (by decide))) hkp (fun k_ hk_ hs_=>(hk_.2) hs_)) (fun k_ hk_=>⟨hk_.1.1.1,hk_.1.1.2⟩));replace HO306:=am (Kd.jGa (ok':=fun k_=>some k_≠(.slice Ao50 t307.length co50:Value).ownBlock∧some k_≠(.slice Ao47 t314.length co47:Value).ownBlock∧some k_≠(.slice Ao49 t317.length co49:Value).ownBlock∧some k_≠(.slice Ao57 t325.length co57:Value).ownBlock) (Kd.jgb (HO306.out) hkp (fun k_ hk_ hs_=>(hk_.2.1) hs_)) (fun k_ hk_=>⟨hk_.1.1,hk_.1.2.1,hk_.1.2.2.1,hk_.1.2.2.2⟩));replace HO309:=am (Kd.jGa (ok':=fun k_=>some k_≠(.slice Ao37 t304.length co37:Value).ownBlock∧some k_≠(.slice Ao47 t314.length co47:Value).ownBlock∧some k_≠(.slice Ao49 t317.length co49:Value).ownBlock∧some k_≠(.slice Ao57 t325.length co57:Value).ownBlock) (Kd.jgb (HO309.out) hkp (fun k_ hk_ hs_=>(hk_.2.1) hs_)) (fun k_ hk_=>⟨hk_.1.1,hk_.1.2.1,hk_.1.2.2.1,hk_.1.2.2.2⟩));replace HO312:=am (Kd.jGa (ok':=fun k_=>some k_≠(.slice Ao36 t301.length co36:Value).ownBlock∧some k_≠(.slice Ao54 t321.length co54:Value).ownBlock) (Kd.jgb ((Kd.jIb HO312.out (Kd.jUb HO316.out) (by decide))) hkp (fun k_ hk_ hs_=>(hk_.2) hs_)) (fun k_ hk_=>⟨hk_.1.1.1.2,hk_.1.1.2⟩));replace BK313:=am (jTb (kq BK313.out) hkp (fun hs_=>(fun e_=>(Kd.R_ne HO316.out BK313.out (by decide)) e_) hs_));replace HO319:=am (Kd.jGa (ok':=fun k_=>some k_≠(.slice Ao37 t304.length co37:Value).ownBlock∧some k_≠(.slice Ao50 t307.length co50:Value).ownBlock∧some k_≠(.slice Ao47 t314.length co47:Value).ownBlock∧some k_≠(.slice Ao57 t325.length co57:Value).ownBlock) (Kd.jgb (HO319.out) hkp (fun k_ hk_ hs_=>(hk_.2.2.1) hs_)) (fun k_ hk_=>⟨hk_.1.1,hk_.1.2.1,hk_.1.2.2.1,hk_.1.2.2.2⟩));replace HO323:=am (Kd.jGa (ok':=fun k_=>some k_≠(.slice Ao36 t301.length co36:Value).ownBlock∧some k_≠(.slice Ao42 t310.length co42:Value).ownBlock) (Kd.jgb ((Kd.jIb HO323.out (Kd.jUb HO316.out) (by decide))) hkp (fun k_ hk_ hs_=>(hk_.2) hs_)) (fun k_ hk_=>⟨hk_.1.1.1,hk_.1.1.2⟩));replace HO316:=am (Kd.R_reok rfl hy0 (fun k_ e_=>HO316.out.1 k_ e_));replace HO327:=am (Kd.jGa (ok':=fun k_=>some k_≠(.slice Ao37 t304.length co37:Value).ownBlock∧some k_≠(.slice Ao50 t307.length co50:Value).ownBlock∧some k_≠(.slice Ao47 t314.length co47:Value).ownBlock∧some k_≠(.slice Ao49 t317.length co49:Value).ownBlock) (Kd.jgb (HO327.out) hkp (fun k_ hk_ hs_=>(hk_.2.2.1) hs_)) (fun k_ hk_=>⟨hk_.1.1,hk_.1.2.1,hk_.1.2.2.1,hk_.1.2.2.2⟩));replace HB:=am (hb);(try clear hb);(try clear hkp);(try clear hy0)))
      (try simp only [Act.put,List.setIfInBounds_toArray,List.set_cons_zero,List.set_cons_succ])
      go_cut [63] (fun v63 wc=>∃ (kq:Nat) (x63_28:Bool),v63=.bool x63_28∧jv (jc.j0 kq l1 t307 t317 x63_28 l0_0=some r)∧jv (kq≤k)∧jv (Kd.R k52 52 wc w.heap.size (fun k_=>some k_≠((.slice Ao49 t317.length co49):Value).ownBlock) (.slice Ao50 t307.length co50) t307)∧jv (Kd.R k52 52 wc w.heap.size (fun k_=>some k_≠((.slice Ao50 t307.length co50):Value).ownBlock) (.slice Ao49 t317.length co49) t317)∧jv (Kd.R k78 78 wc w.heap.size (fun _=>True) (.slice Ao42 t310.length co42) t330)∧jv (wc.heap[gb298]?=some (.cells #[(.slice A0_0 l0_0.length c0_0)] 24 (0,0)))∧jv (wc.heap[gb313]?=some (.cells #[(.slice Ao42 t310.length co42)] 32 (0,0)))∧jv (Below w.heap.size w wc))
      case first =>
       have H:=HC29.out
       clear HC29
       by_cases c62:t331<0
       ·rw [if_pos c62] at H
        have c62b0:decide (t331<0)=true:=dzT c62
        clear c62
        (first | rw [c62b0] |(simp only [jnb,jrb];rw [c62b0]) | skip)
        have H':=am H
        clear H
        go_wp2
        go_meet
        case rel=>exact ⟨_,(true),(sq),H',⟨Y14⟩,⟨by (with_reducible repeat (first | apply Kd.jib | apply Kd.jhb | apply Kd.jfb));exact Kd.jGa HO309.out (fun _ hk=>hk.2.2.1)⟩,⟨by (with_reducible repeat (first | apply Kd.jib | apply Kd.jhb | apply Kd.jfb));exact Kd.jGa HO319.out (fun _ hk=>hk.2.1)⟩,⟨by (with_reducible repeat (first | apply Kd.jib | apply Kd.jhb | apply Kd.jfb));exact Kd.jGa HO312.out (fun _ hk=>trivial)⟩,⟨kq BK298.out⟩,⟨kq BK313.out⟩,⟨Y3⟩⟩
       ·rw [if_neg c62] at H
        have c62b0:decide (t331<0)=false:=dzF c62
        clear c62
        (first | rw [c62b0] |(simp only [jnb,jrb];rw [c62b0]) | skip)
        replace H:=bzS H
        obtain ⟨t333,A630,H⟩:=H
        replace H:(jc.j0 k l1 t307 t317 (!t333) l0_0)=some r:=H
        have A63:=am A630
        clear A630
        have H':=am H
        clear H
        go_wp2_with (first |(go_at_call 13;(with_reducible refine (ji.calls k _ _ t317 _ _ t307 t333 _ ?side1 ?side2 ?side3 ?side4 A63.out).mono ?_);(case side1=>exact cq (Kd.jG HO319.out).2.2);(case side2=>exact (Kd.jG HO319.out).2.1);(case side3=>exact cq (Kd.jG HO309.out).2.2);(case side4=>exact (Kd.jG HO309.out).2.1);rintro e w64 ⟨rfl,hb⟩;replace HO303:=am (Kd.jP (rq HO303.out) hb);replace HO306:=am (Kd.jP (rq HO306.out) hb);replace HO309:=am (Kd.jP (rq HO309.out) hb);replace HO312:=am (Kd.jP (rq HO312.out) hb);replace HO316:=am (Kd.jP (rq HO316.out) hb);replace HO319:=am (Kd.jP (rq HO319.out) hb);replace HO323:=am (Kd.jP (rq HO323.out) hb);replace HO327:=am (Kd.jP (rq HO327.out) hb);replace BK298:=am (jl (g:=gb298) (o:=.cells #[.slice A0_0 l0_0.length c0_0] 24 (0,0)) (kq BK298.out) hb);replace BK313:=am (jl (g:=gb313) (o:=.cells #[.slice Ao42 t310.length co42] 32 (0,0)) (kq BK313.out) hb);replace HB:=am (jd (Y3) hb);(try clear hb);(try clear hb2);(try clear hk);(try clear hi)))
        go_meet
        case rel=>exact ⟨_,(!t333),(sq),H',⟨Y14⟩,⟨by (with_reducible repeat (first | apply Kd.jib | apply Kd.jhb | apply Kd.jfb));exact Kd.jGa HO309.out (fun _ hk=>hk.2.2.1)⟩,⟨by (with_reducible repeat (first | apply Kd.jib | apply Kd.jhb | apply Kd.jfb));exact Kd.jGa HO319.out (fun _ hk=>hk.2.1)⟩,⟨by (with_reducible repeat (first | apply Kd.jib | apply Kd.jhb | apply Kd.jfb));exact Kd.jGa HO312.out (fun _ hk=>trivial)⟩,⟨kq BK298.out⟩,⟨kq BK313.out⟩,⟨Y3⟩⟩
      case rest =>
       clear HC29
       try clear c1
       try clear c2
       try clear p2
       try clear c3
       try clear c4
       try clear c4b0
       try clear c6
       try clear c7
       try clear c8
       try clear c9
       try clear c9b0
       try clear c10
       try clear c11
       try clear c12
       try clear c13
       try clear c14
       try clear c15
       try clear c16
       try clear c20
       try clear c23
       try clear c26
       try clear c43
       try clear c62
       try clear c62b0
       try clear hcz11_0
       try clear hcz31_0
       try clear hcz33_0
       try clear hcz39_0
       try clear hcz44_0
       try clear hcz46_0
       try clear hcz59_0
       try clear hcz6_0
       try clear hfz11_0
       try clear hfz31_0
       try clear hfz33_0
       try clear hfz39_0
       try clear hfz44_0
       try clear hfz46_0
       try clear hfz59_0
       try clear hfz6_0
       obtain ⟨kq,x63_28,rfl,HA,HJ28,HO_6,HO_9,HO_314000,BK298,BK313,HB⟩:=hcut
       have hl314000_28:=(Kd.jG HO_314000.out).1
       rw [hl314000_28] at HO_314000
       (try simp only [hl314000_28])
       (try simp only [hl314000_28] at BK298)
       (try simp only [hl314000_28] at BK313)
       (try simp only [hl314000_28] at HO_6)
       (try simp only [hl314000_28] at HO_9)
       cases kq with
       | zero=>exact absurd HA.out (by simp [jc.j0])
       | succ kj28 =>
        have H:=HA.out
        clear HA
        simp only [jc.j0] at H
        by_cases c65:x63_28=true
        ·subst c65
         have H1:(some false)=some r:=by rw [if_pos rfl] at H;exact H
         clear H
         have H:=H1
         clear H1
         exact absurd ((Option.some.inj H).trans hT) Bool.false_ne_true
        ·replace c65:=Bool.eq_false_iff.mpr c65
         subst c65
         have H1:((jr.f kj28 t317 1).bind fun bt334=>((jQ.f kj28 bt334.2 1).bind fun t336=>(if t336<0 then (some false) else (if t336=bt334.1 then ((jW.f kj28 l0_0).bind fun t337=>((jy.f kj28 l1).bind fun t340=>((jda.f kj28 t337 t340).bind fun t343=>((ji.f kj28 t343 t307).bind fun t346=>(if t346=true then ((jQ.f kj28 bt334.2 1).bind fun t347=>(if t347<0 then (some false) else (if t347=bt334.1 then (some true) else (some false)))) else (some false)))))) else (some false)))))=some r:=by rw [if_neg (show ¬ (false=true) by decide)] at H;exact H
         clear H
         have H:=H1
         clear H1
         replace H:=bzS H
         obtain ⟨⟨t334,t335⟩,A660,H⟩:=H
         replace H:((jQ.f kj28 t335 1).bind fun t336=>(if t336<0 then (some false) else (if t336=t334 then ((jW.f kj28 l0_0).bind fun t337=>((jy.f kj28 l1).bind fun t340=>((jda.f kj28 t337 t340).bind fun t343=>((ji.f kj28 t343 t307).bind fun t346=>(if t346=true then ((jQ.f kj28 t335 1).bind fun t347=>(if t347<0 then (some false) else (if t347=t334 then (some true) else (some false)))) else (some false)))))) else (some false))))=some r:=H
         have A66:=am A660
         clear A660
         replace H:=bzS H
         obtain ⟨t336,A670,H⟩:=H
         replace H:(if t336<0 then (some false) else (if t336=t334 then ((jW.f kj28 l0_0).bind fun t337=>((jy.f kj28 l1).bind fun t340=>((jda.f kj28 t337 t340).bind fun t343=>((ji.f kj28 t343 t307).bind fun t346=>(if t346=true then ((jQ.f kj28 t335 1).bind fun t347=>(if t347<0 then (some false) else (if t347=t334 then (some true) else (some false)))) else (some false)))))) else (some false)))=some r:=H
         have A67:=am A670
         clear A670
         by_cases c68:t336<0
         ·rw [if_pos c68] at H
          have c68b0:decide (t336<0)=true:=dzT c68
          clear c68
          exact absurd ((Option.some.inj H).trans hT) Bool.false_ne_true
         ·rw [if_neg c68] at H
          have c68b0:decide (t336<0)=false:=dzF c68
          clear c68
          by_cases c69:t336=t334
          ·rw [if_pos c69] at H
           have c69b0:(t336 == t334)=true:=beq_iff_eq.mpr c69
           have c69b1:(t336 != t334)=false:=bne_eq_false_iff_eq.mpr c69
           clear c69
           replace H:=bzS H
           obtain ⟨t337,A700,H⟩:=H
           replace H:((jy.f kj28 l1).bind fun t340=>((jda.f kj28 t337 t340).bind fun t343=>((ji.f kj28 t343 t307).bind fun t346=>(if t346=true then ((jQ.f kj28 t335 1).bind fun t347=>(if t347<0 then (some false) else (if t347=t334 then (some true) else (some false)))) else (some false)))))=some r:=H
           have A70:=am A700
           clear A700
           replace H:=bzS H
           obtain ⟨t340,A710,H⟩:=H
           replace H:((jda.f kj28 t337 t340).bind fun t343=>((ji.f kj28 t343 t307).bind fun t346=>(if t346=true then ((jQ.f kj28 t335 1).bind fun t347=>(if t347<0 then (some false) else (if t347=t334 then (some true) else (some false)))) else (some false))))=some r:=H
           have A71:=am A710
           clear A710
           replace H:=bzS H
           obtain ⟨t343,A720,H⟩:=H
           replace H:((ji.f kj28 t343 t307).bind fun t346=>(if t346=true then ((jQ.f kj28 t335 1).bind fun t347=>(if t347<0 then (some false) else (if t347=t334 then (some true) else (some false)))) else (some false)))=some r:=H
           have A72:=am A720
           clear A720
           replace H:=bzS H
           obtain ⟨t346,A730,H⟩:=H
           replace H:(if t346=true then ((jQ.f kj28 t335 1).bind fun t347=>(if t347<0 then (some false) else (if t347=t334 then (some true) else (some false)))) else (some false))=some r:=H
           have A73:=am A730
           clear A730
           by_cases c74:t346=true
           ·subst c74
            have H1:((jQ.f kj28 t335 1).bind fun t347=>(if t347<0 then (some false) else (if t347=t334 then (some true) else (some false))))=some r:=by rw [if_pos rfl] at H;exact H
            clear H
            have H:=H1
            clear H1
            replace H:=bzS H
            obtain ⟨t347,A750,H⟩:=H
            replace H:(if t347<0 then (some false) else (if t347=t334 then (some true) else (some false)))=some r:=H
            have A75:=am A750
            clear A750
            by_cases c76:t347<0
            ·rw [if_pos c76] at H
             have c76b0:decide (t347<0)=true:=dzT c76
             clear c76
             exact absurd ((Option.some.inj H).trans hT) Bool.false_ne_true
            ·rw [if_neg c76] at H
             have c76b0:decide (t347<0)=false:=dzF c76
             clear c76
             by_cases c77:t347=t334
             ·rw [if_pos c77] at H
              have c77b0:(t347 == t334)=true:=beq_iff_eq.mpr c77
              have c77b1:(t347 != t334)=false:=bne_eq_false_iff_eq.mpr c77
              clear c77
              obtain rfl:=Option.some.inj H
              go_wp2_with (first |((with_reducible refine jf (f:=16) rfl ?_);refine gL (some 66) Try.func16 #[.slice Ao49 t317.length co49, .int .i64 1] ?_;(with_reducible refine (jr.calls kj28 (fun k_=>some k_=(.slice Ao49 t317.length co49:Value).ownBlock) (.slice Ao49 t317.length co49) t317 1 t334 t335 w _ ?side1 ?side2 A66.out).mono ?_);(case side1=>exact Y3);(case side2=>exact Kd.R_tight rfl HO_9.out);rintro e w78 ⟨rfl,hy0,hb,hkp⟩;refine ⟨_,rfl,?_⟩;replace HO_6:=am (Kd.jGa (ok':=fun k_=>some k_≠(.slice Ao49 t317.length co49:Value).ownBlock) (Kd.jgb (HO_6.out) hkp (fun k_ hk_ hs_=>(hk_) hs_)) (fun k_ hk_=>hk_.1));replace HO_314000:=am (Kd.jGa (ok':=fun k_=>True) (Kd.jgb ((Kd.jIb HO_314000.out (Kd.jUb HO_9.out) (by decide))) hkp (fun k_ hk_ hs_=>(hk_.2) hs_)) (fun k_ hk_=>trivial));replace BK298:=am (jTb (kq BK298.out) hkp (fun hs_=>(fun e_=>(Kd.R_ne HO_9.out BK298.out (by decide)) e_) hs_));replace BK313:=am (jTb (kq BK313.out) hkp (fun hs_=>(fun e_=>(Kd.R_ne HO_9.out BK313.out (by decide)) e_) hs_));replace HO_9:=am (Kd.R_reok rfl hy0 (fun k_ e_=>HO_9.out.1 k_ e_));replace HB:=am (hb);(try clear hb);(try clear hkp);(try clear hy0)) |((with_reducible refine jf (f:=17) rfl ?_);refine goesL_ (some 69) rfl rfl Try.func17 (by kernel_rfl) rfl #[.slice Ao49 t335.length co49, .int .i64 1] rfl (by (try simp only [List.map_toArray,List.map_cons,List.map_nil]);first | done |(rw [show t335.length=t317.length from (Kd.jG HO_9.out).1.symm] <;> rfl) | rfl |(simp only [List.length_drop,List.length_take];rfl)) ?_;(with_reducible refine (jQ.calls kj28 _ _ t335 1 t336 _ ?side1 ?side2 A67.out).mono ?_);(case side1=>exact cq (Kd.jG HO_9.out).2.2);(case side2=>rw [show t335.length=t317.length from (Kd.jG HO_9.out).1.symm];exact (Kd.jG HO_9.out).2.1);rintro e w' ⟨rfl,⟨nd,rfl⟩⟩;refine ⟨_,rfl,?_⟩;have hnb79:=NB298_313.out;have hnc79:=NB313_298.out;have hcz80_0:=bc0 BK298.out;have hfz80_0:=ja BK298.out 0) |((with_reducible refine jf (f:=10) rfl ?_);refine gL (some 76) Try.func10 #[.agg #[.slice A0_0 l0_0.length c0_0]] ?_;(with_reducible refine (jW.calls kj28 _ _ l0_0 t337 _ ?side1 ?side2 A70.out).mono ?_);(case side1=>repeat (first | exact (Kd.jJ HR0_0.out (by repeat (first |(with_reducible first | exact HB.out | apply jD | apply jh | apply jC | refine jA ?_ GE298.out | refine jA ?_ GE313.out) | exact HB.out))) |(with_reducible refine Kd.C_alloc ?_ _) |(with_reducible refine Kd.C_drewN ?_ _) |(with_reducible refine Kd.C_drew ?_)));(case side2=>exact HC0_0.out);rintro e w81 ⟨v338,rfl,ho0,hb⟩;refine ⟨_,rfl,?_⟩;have HO339:=am (Kd.jLa (Kd.jkb ho0 (Kd.R_lt (rq HO_314000.out))) (jL (Y3)));replace HO_6:=am (Kd.jP (rq HO_6.out) hb);replace HO_9:=am (Kd.jP (rq HO_9.out) hb);replace HO_314000:=am (Kd.jNa (rq HO_314000.out) (Kd.jlb ho0) hb);replace BK298:=am (jl (g:=gb298) (o:=.cells #[.slice A0_0 l0_0.length c0_0] 24 (0,0)) (kq BK298.out) hb);replace BK313:=am (jl (g:=gb313) (o:=.cells #[.slice Ao42 t330.length co42] 32 (0,0)) (kq BK313.out) hb);replace HB:=am (jd (Y3) hb);(try clear hb);(try clear hb2);(try clear hk);(try clear hi);(try clear ho0)) |((with_reducible refine jf (f:=11) rfl ?_);refine gL (some 78) Try.func11 #[.slice A1 l1.length c1] ?_;(with_reducible refine (jy.calls kj28 _ _ l1 t340 _ ?side1 ?side2 A71.out).mono ?_);(case side1=>exact cq (Kd.jJ HR1.out HB.out));(case side2=>exact HC1.out);rintro e w82 ⟨v341,rfl,ho0,hb⟩;refine ⟨_,rfl,?_⟩;have HO342:=am (Kd.jLa (Kd.jkb (Kd.jkb ho0 (Kd.R_lt (rq HO_6.out))) (Kd.R_lt (rq HO_9.out))) (jL (Y3)));replace HO_6:=am (Kd.jNa (rq HO_6.out) (Kd.jlb ho0) hb);replace HO_9:=am (Kd.jNa (rq HO_9.out) (Kd.jlb ho0) hb);replace HO_314000:=am (Kd.jP (rq HO_314000.out) hb);replace HO339:=am (Kd.jP (rq HO339.out) hb);replace BK298:=am (jl (g:=gb298) (o:=.cells #[.slice A0_0 l0_0.length c0_0] 24 (0,0)) (kq BK298.out) hb);replace BK313:=am (jl (g:=gb313) (o:=.cells #[.slice Ao42 t330.length co42] 32 (0,0)) (kq BK313.out) hb);replace HB:=am (jd (Y3) hb);(try clear hb);(try clear hb2);(try clear hk);(try clear hi);(try clear ho0);obtain ⟨Ao83,co83,eo83⟩:=Kd.jOa HO339.out;subst eo83;obtain ⟨Ao84,co84,eo84⟩:=Kd.jOa HO342.out;subst eo84) |((with_reducible refine jf (f:=12) rfl ?_);refine gL (some 79) Try.func12 #[.agg #[.slice Ao83 t337.length co83], .slice Ao84 t340.length co84] ?_;(with_reducible refine (jda.calls kj28 _ _ t337 _ _ t340 t343 _ ?side1 ?side2 ?side3 ?side4 A72.out).mono ?_);(case side1=>exact cq (Kd.jG HO339.out).2.2);(case side2=>exact (Kd.jG HO339.out).2.1);(case side3=>exact cq (Kd.jG HO342.out).2.2);(case side4=>exact (Kd.jG HO342.out).2.1);rintro e w85 ⟨v344,rfl,ho0,hb⟩;refine ⟨_,rfl,?_⟩;have HO345:=am (Kd.jLa (Kd.jkb (Kd.jkb (Kd.jkb ho0 (Kd.R_lt (rq HO_6.out))) (Kd.R_lt (rq HO_9.out))) (Kd.R_lt (rq HO342.out))) (jL (Y3)));replace HO_6:=am (Kd.jNa (rq HO_6.out) (Kd.jlb ho0) hb);replace HO_9:=am (Kd.jNa (rq HO_9.out) (Kd.jlb ho0) hb);replace HO_314000:=am (Kd.jP (rq HO_314000.out) hb);replace HO339:=am (Kd.jP (rq HO339.out) hb);replace HO342:=am (Kd.jNa (rq HO342.out) (Kd.jlb ho0) hb);replace BK298:=am (jl (g:=gb298) (o:=.cells #[.slice A0_0 l0_0.length c0_0] 24 (0,0)) (kq BK298.out) hb);replace BK313:=am (jl (g:=gb313) (o:=.cells #[.slice Ao42 t330.length co42] 32 (0,0)) (kq BK313.out) hb);replace HB:=am (jd (Y3) hb);(try clear hb);(try clear hb2);(try clear hk);(try clear hi);(try clear ho0);obtain ⟨Ao86,co86,eo86⟩:=Kd.jOa HO345.out;subst eo86) |((with_reducible refine jf (f:=13) rfl ?_);refine gL (some 82) Try.func13 #[.slice Ao86 t343.length co86, .slice Ao50 t307.length co50] ?_;(with_reducible refine (ji.calls kj28 _ _ t343 _ _ t307 true _ ?side1 ?side2 ?side3 ?side4 A73.out).mono ?_);(case side1=>exact cq (Kd.jG HO345.out).2.2);(case side2=>exact (Kd.jG HO345.out).2.1);(case side3=>exact cq (Kd.jG HO_6.out).2.2);(case side4=>exact (Kd.jG HO_6.out).2.1);rintro e w87 ⟨rfl,hb⟩;refine ⟨_,rfl,?_⟩;replace HO_6:=am (Kd.jP (rq HO_6.out) hb);replace HO_9:=am (Kd.jP (rq HO_9.out) hb);replace HO_314000:=am (Kd.jP (rq HO_314000.out) hb);replace HO339:=am (Kd.jP (rq HO339.out) hb);replace HO342:=am (Kd.jP (rq HO342.out) hb);replace HO345:=am (Kd.jP (rq HO345.out) hb);replace BK298:=am (jl (g:=gb298) (o:=.cells #[.slice A0_0 l0_0.length c0_0] 24 (0,0)) (kq BK298.out) hb);replace BK313:=am (jl (g:=gb313) (o:=.cells #[.slice Ao42 t330.length co42] 32 (0,0)) (kq BK313.out) hb);replace HB:=am (jd (Y3) hb);(try clear hb);(try clear hb2);(try clear hk);(try clear hi)) |((with_reducible refine jf (f:=17) rfl ?_);refine goesL_ (some 86) rfl rfl Try.func17 (by kernel_rfl) rfl #[.slice Ao49 t335.length co49, .int .i64 1] rfl (by (try simp only [List.map_toArray,List.map_cons,List.map_nil]);first | done |(rw [show t335.length=t317.length from (Kd.jG HO_9.out).1.symm] <;> rfl) | rfl |(simp only [List.length_drop,List.length_take];rfl)) ?_;(with_reducible refine (jQ.calls kj28 _ _ t335 1 t347 _ ?side1 ?side2 A75.out).mono ?_);(case side1=>exact cq (Kd.jG HO_9.out).2.2);(case side2=>rw [show t335.length=t317.length from (Kd.jG HO_9.out).1.symm];exact (Kd.jG HO_9.out).2.1);rintro e w' ⟨rfl,⟨nd,rfl⟩⟩;refine ⟨_,rfl,?_⟩))
              go_ret
              exact ⟨Y0,Y3⟩
             ·rw [if_neg c77] at H
              have c77b0:(t347 == t334)=false:=beq_eq_false_iff_ne.mpr c77
              have c77b1:(t347 != t334)=true:=bne_iff_ne.mpr c77
              exact absurd ((Option.some.inj H).trans hT) Bool.false_ne_true
           ·replace c74:=Bool.eq_false_iff.mpr c74
            subst c74
            have H1:(some false)=some r:=by rw [if_neg (show ¬ (false=true) by decide)] at H;exact H
            clear H
            have H:=H1
            clear H1
            exact absurd ((Option.some.inj H).trans hT) Bool.false_ne_true
          ·rw [if_neg c69] at H
           have c69b0:(t336 == t334)=false:=beq_eq_false_iff_ne.mpr c69
           have c69b1:(t336 != t334)=true:=bne_iff_ne.mpr c69
           exact absurd ((Option.some.inj H).trans hT) Bool.false_ne_true
     ·replace c26:=Bool.eq_false_iff.mpr c26
      subst c26
      have H1:(some false)=some r:=by rw [if_neg (show ¬ (false=true) by decide)] at H;exact H
      clear H
      have H:=H1
      clear H1
      exact absurd ((Option.some.inj H).trans hT) Bool.false_ne_true
    ·replace c23:=Bool.eq_false_iff.mpr c23
     subst c23
     have H1:(some false)=some r:=by rw [if_neg (show ¬ (false=true) by decide)] at H;exact H
     clear H
     have H:=H1
     clear H1
     exact absurd ((Option.some.inj H).trans hT) Bool.false_ne_true
   ·replace c20:=Bool.eq_false_iff.mpr c20
    subst c20
    have H1:(some false)=some r:=by rw [if_neg (show ¬ (false=true) by decide)] at H;exact H
    clear H
    have H:=H1
    clear H1
    exact absurd ((Option.some.inj H).trans hT) Bool.false_ne_true
end Go.Proofs.Ytkhiiiddbmgiaaa.P
end
