
/- Several texts in one: PlnM, PlnN. -/
import Derived.Test.YtmemlkmnhcealaaGreatMrg13
set_option linter.unusedVariables false
set_option maxRecDepth 100000
set_option maxHeartbeats 8000000
namespace Go.Proofs.YtmemlkmnhcealaaGreat
open Value renaming int→O
open IntKind renaming i64→Z
open Obj renaming cells→Zv
open Go.RowKit
open Lib(hid)
def placeVal(t r m p:Int):Value:=.agg #[O Z t,O Z r,O Z m,O Z p]
def stripeOf(M C b:Nat):Nat:=b/((M-1)*C)
def rowOf(M C b:Nat):Nat:=stripeOf M C b*C+b%((M-1)*C)%C
def membOf(M C b:Nat):Nat:=memOf M (stripeOf M C b) (b%((M-1)*C)/C)
theorem Zkr(M C S:Nat)(b:Int)(w:World)(h:geoIs M C S=true)(hb:b<0\/(S:Int)*C*((M:Int)-1)≤b):Calls Tryz.prog 67 #[geo M C S,O Z b] w fun e w'=>e=.returned (.tuple #[placeVal 0 0 0 0,.int .u16 3])/\Below w.heap.size w w':=by
 obtain⟨h1,h2,h3,h4,h5,h6⟩:=(Zam M C S).1 h;have hk:=hid (fun W=>Zg6 M C S W);have hro:=hid (fun d W=>Zdj M C S d W h);obtain⟨hlo,hhi⟩:=Za0 h;unfold geoCode at hk;rw[h]at hk;simp only [if_true]at hk;generalize (S:Int)*(C:Int)=q at*;have hp0:0≤q*((M:Int)-1):=Int.mul_nonneg hlo (by omega);have hp1:q*((M:Int)-1)≤4096*15:=Int.mul_le_mul hhi (by omega) (by omega) (by omega);have hpw:IntKind.i64.wrap (q*((M:Int)-1))=q*((M:Int)-1):=(IntWalk.i64_left _).trans (IntWalk.wrap64_in _ ⟨by omega,by omega⟩);have hpw':RowKit.wrap64 (q*((M:Int)-1))=q*((M:Int)-1):=IntWalk.wrap64_in _ ⟨by omega,by omega⟩;have hb0:Below w.heap.size w ((w.alloc (Zv #[O Z M,O Z C,O Z S] 26)).alloc (Zv #[O Z 0,O Z 0,O Z 0,O Z 0] 124)):=((Zb _ _).alloc (Za _) _).alloc (by rw[Zaa];omega) _;have HR0:Hid (At ((w.alloc (Zv #[O Z M,O Z C,O Z S] 26)).alloc (Zv #[O Z 0,O Z 0,O Z 0,O Z 0] 124)) (w.heap.size+1) #[O Z 0,O Z 0,O Z 0,O Z 0] 124):=At.new2 _ _ _ _;unfold geo shp placeVal at*;by_cases hneg:b<0
 focus
  have hn1:decide (b<0)=true:=decide_eq_true hneg
  clear hb
  go_enter Tryz.func67,Tryz.ntmps67
  go_wp2_with (go_at_call 70;(with_reducible refine(hk.out _).mono ?_);rintro e w1 ⟨d,rfl,hd,hb1⟩;have hr1:=(HR0.out.below hb1 HR0.out.lt).alloc (Zv #[O Z M,O Z C,O Z S,O Z ((M:Int)-1)] 135);have HR1:=hid hr1;have HB1:=hid ((Zac hb0 hb1).alloc (Zac hb0 hb1).size (Zv #[O Z M,O Z C,O Z S,O Z ((M:Int)-1)] 135));have HA1:Hid (At (w1.alloc (Zv #[O Z M,O Z C,O Z S,O Z ((M:Int)-1)] 135)) w1.heap.size #[O Z M,O Z C,O Z S,O Z ((M:Int)-1)] 135):=At.new _ _ _;clear hr1 hb1)
  generalize w1.alloc (Zv #[O Z M,O Z C,O Z S,O Z ((M:Int)-1)] 135)=W1 at*
  go_quiet (fail)
  have HRX:Hid (At (W1.drewN nq) (w.heap.size+1) #[O Z 0,O Z 0,O Z 0,O Z 0] 124):=HR1.out
  have HBX:=hid (below_drewN HB1.out nq)
  generalize W1.drewN nq=W2 at*
 rotate_left
 focus
  have hn1:decide (b<0)=false:=decide_eq_false hneg
  have hn2:decide (q*((M:Int)-1)≤b)=true:=decide_eq_true (by omega)
  clear hb
  go_enter Tryz.func67,Tryz.ntmps67
  go_wp2_with (go_at_call 70;(with_reducible refine(hk.out _).mono ?_);rintro e w1 ⟨d,rfl,hd,hb1⟩;have hr1:=(HR0.out.below hb1 HR0.out.lt).alloc (Zv #[O Z M,O Z C,O Z S,O Z ((M:Int)-1)] 135);have HR1:=hid hr1;have HB1:=hid ((Zac hb0 hb1).alloc (Zac hb0 hb1).size (Zv #[O Z M,O Z C,O Z S,O Z ((M:Int)-1)] 135));have HA1:Hid (At (w1.alloc (Zv #[O Z M,O Z C,O Z S,O Z ((M:Int)-1)] 135)) w1.heap.size #[O Z M,O Z C,O Z S,O Z ((M:Int)-1)] 135):=At.new _ _ _;clear hr1 hb1)
  generalize w1.alloc (Zv #[O Z M,O Z C,O Z S,O Z ((M:Int)-1)] 135)=W1 at*
  have HAD:Hid (At W1.drew w1.heap.size #[O Z M,O Z C,O Z S,O Z ((M:Int)-1)] 135):=HA1.out.drew
  have HH:Hid (∀X,At X w1.heap.size #[O Z M,O Z C,O Z S,O Z ((M:Int)-1)] 135->X.cell? ⟨w1.heap.size,0,none⟩=some (O Z M)/\X.cell? ⟨w1.heap.size,1,none⟩=some (O Z C)/\X.cell? ⟨w1.heap.size,2,none⟩=some (O Z S)/\X.cell? ⟨w1.heap.size,3,none⟩=some (O Z ((M:Int)-1))):=fun X h=>⟨h.cell 0,h.cell 1,h.cell 2,h.cell 3⟩
  go_region_held3 (fun w'=>w'.cell? ⟨w1.heap.size,0,none⟩=some (O Z M)/\w'.cell? ⟨w1.heap.size,1,none⟩=some (O Z C)/\w'.cell? ⟨w1.heap.size,2,none⟩=some (O Z S)/\w'.cell? ⟨w1.heap.size,3,none⟩=some (O Z ((M:Int)-1)))
   (first|with_reducible exact HH.out _ HA1.out|with_reducible exact HH.out _ HAD.out|with_reducible exact HH.out _ HAE.out)
   (first|(go_at_call 71;(with_reducible refine(hro.out _ _).mono ?_);rintro e w3 ⟨rfl,hb3⟩;have HAE:=hid (HAD.out.below hb3 HAD.out.lt);have HRX:=hid (HR1.out.drew.below hb3 HR1.out.lt);have HBX:=hid (Zac HB1.out.drew hb3)))
  generalize w3=W2 at*
 rotate_left
 all_goals
  have HR2:Hid (At W2 (w.heap.size+1) #[O Z 0,O Z 0,O Z 0,O Z 0] 124):=HRX.out
  have d0:=HR2.out.cell 0
  have d1:=HR2.out.cell 1
  have d2:=HR2.out.cell 2
  have d3:=HR2.out.cell 3
  have f0:=HR2.out.free 0
  have f1:=HR2.out.free 1
  have f2:=HR2.out.free 2
  have f3:=HR2.out.free 3
  go_wp2
  have HF:=(((HR2.out.set 0 (O Z 0)).set 1 (O Z 0)).set 2 (O Z 0)).set 3 (O Z 0)
  have r0:=HF.cell 0
  have r1:=HF.cell 1
  have r2:=HF.cell 2
  have r3:=HF.cell 3
  clear d0 d1 d2 d3 f0 f1 f2 f3
  (try simp only [Exit.inBlock,Exit.then])
  refine bodyPost_ret (v:=.tuple #[.agg #[O Z 0,O Z 0,O Z 0,O Z 0],.int .u16 3]) ?_ rfl ⟨rfl,(((HBX.out.setCell (p:=⟨w.heap.size+1,0,none⟩) (Nat.le_succ _) _).setCell (p:=⟨w.heap.size+1,1,none⟩) (Nat.le_succ _) _).setCell (p:=⟨w.heap.size+1,2,none⟩) (Nat.le_succ _) _).setCell (p:=⟨w.heap.size+1,3,none⟩) (Nat.le_succ _) _⟩
  rw[results_cell_tmp rfl]
  go_simp
  try rfl
open Go.RowKit
theorem Zg5{x:Nat}(h:x≤100000):(x:Int)≤100000000:=by omega
theorem Zrb{x y:Nat}(h:x+y≤100000):(x:Int)+(y:Int)≤100000000:=by omega
theorem Zdr{x:Int}(h0:0≤x)(h1:x≤100000000):IntKind.i64.wrap x=x:=(IntWalk.i64_left _).trans (IntWalk.wrap64_in _ ⟨by omega,by omega⟩)
theorem Zcz{x:Int}(h0:0≤x)(h1:x≤100000000):RowKit.wrap64 x=x:=IntWalk.wrap64_in _ ⟨by omega,by omega⟩
theorem Zpr(M C S b:Nat)(w:World)(h:geoIs M C S=true)(hb:b<S*C*(M-1)):Calls Tryz.prog 67 #[geo M C S,O Z b] w fun e w'=>(∃t p:Int,e=.returned (.tuple #[placeVal t (rowOf M C b:Nat) (membOf M C b:Nat) p,.int .u16 0]))/\Below w.heap.size w w':=by
 obtain⟨h1,h2,h3,h4,h5,h6⟩:=(Zam M C S).1 h;have hk:=hid (fun W=>Zg6 M C S W);have hro:=hid (fun d W=>Zdj M C S d W h);obtain⟨hlo,hhi⟩:=Za0 h;have hSC:S*C≤4096:=by exact_mod_cast hhi
 unfold geoCode at hk;rw[h]at hk;simp only [if_true]at hk;have hb':(b:Int)<(S:Int)*C*((M:Int)-1):=by
  have e1:((M-1:Nat):Int)=(M:Int)-1:=by omega
  rw[<-e1];exact_mod_cast hb
 have hD0:0<(M-1)*C:=Nat.mul_pos (by omega) (by omega);have hD1:(M-1)*C≤15*16:=Nat.mul_le_mul (by omega) (by omega);have hDe:((M:Int)-1)*(C:Int)=(((M-1)*C:Nat):Int):=by
  rw[Int.natCast_mul];congr 1;omega
 have hbl:b≤4096*15:=by
  have:S*C*(M-1)≤4096*15:=Nat.mul_le_mul hSC (by omega);omega
 have hT0:b/((M-1)*C)≤4096:=by
  rw[Nat.div_le_iff_le_mul_add_pred hD0];have:S*C*(M-1)=S*((M-1)*C):=by rw[Nat.mul_assoc,Nat.mul_comm C]
  have h3:b<S*((M-1)*C):=by omega
  have h4:S*((M-1)*C)≤256*((M-1)*C):=Nat.mul_le_mul_right _ (by omega);have h5:256*((M-1)*C)≤4096*((M-1)*C):=Nat.mul_le_mul_right _ (by omega);rw[Nat.mul_comm ((M-1)*C) 4096];omega
 have hI0:b%((M-1)*C)<(M-1)*C:=Nat.mod_lt _ hD0;unfold rowOf membOf stripeOf;generalize hD:(M-1)*C=D at*;have hTe:(b:Int)/(D:Int)=((b/D:Nat):Int):=rfl;have hIe:Int.tmod (b:Int) (D:Int)=((b%D:Nat):Int):=rfl;have hme:=hid (fun d W=>Zgg M C S (b/D) (b%D/C) d W h hT0 (by have:=Nat.div_le_self (b%D) C;omega));have hpa:=hid (fun d W=>Zd8 M C S (b/D) d W h hT0);have hX0:b/D*C≤4096*16:=Nat.mul_le_mul hT0 (by omega);have hXe:((b/D:Nat):Int)*(C:Int)=((b/D*C:Nat):Int):=(Int.natCast_mul _ _).symm;have hJe:((b%D:Nat):Int)/(C:Int)=((b%D/C:Nat):Int):=rfl;have hKe:Int.tmod ((b%D:Nat):Int) (C:Int)=((b%D%C:Nat):Int):=rfl;have hK0:b%D%C<C:=Nat.mod_lt _ (by omega);have hJ0:b%D/C≤300:=by have:=Nat.div_le_self (b%D) C;omega
 generalize memOf M (b/D) (b%D/C)=mm at*;generalize M-1-b/D%M=pp at*;generalize b/D*C=X at*;generalize b%D/C=J at*;generalize b%D%C=K at*;generalize b/D=T at*;generalize b%D=I at*;have hX1:X≤65536:=hX0;have hXK:X+K≤100000:=by clear hb hb' hbl hD0 hD1 hI0 hme hpa hk hro hhi hlo hSC;omega
 have hD2:D≤240:=hD1;have hb2:b≤61440:=hbl;have hhi2:(S:Int)*(C:Int)≤4096:=hhi;have hlo2:0≤(S:Int)*(C:Int):=hlo;clear hb hI0 hSC hD hX0 hbl hD1 hlo hhi hK0;have hCn:¬(C:Int)=0:=by clear hb' hhi2 hlo2;omega
 have hDn:¬(D:Int)=0:=by clear hb' hhi2 hlo2;omega
 have hCn':¬C=0:=by clear hb' hhi2 hlo2;omega
 have hDn':¬D=0:=by clear hb' hhi2 hlo2;omega
 have i1:(D:Int)≤100000000:=Zg5 (Zc hD2 (by decide));have i2:(T:Int)≤100000000:=Zg5 (Zc hT0 (by decide));have i3:(X:Int)≤100000000:=Zg5 (Zc hX1 (by decide));have i4:(X:Int)+(K:Int)≤100000000:=Zrb hXK;have i5:(J:Int)≤100000000:=Zg5 (Zc hJ0 (by decide));have w1':=Zdr (Int.natCast_nonneg D) i1;have w2':=Zcz (Int.natCast_nonneg D) i1;have w3':=Zdr (Int.natCast_nonneg T) i2;have w4':=Zcz (Int.natCast_nonneg T) i2;have w5':=Zdr (Int.natCast_nonneg X) i3;have w6':=Zcz (Int.natCast_nonneg X) i3;have w7':=Zdr (Int.add_nonneg (Int.natCast_nonneg X) (Int.natCast_nonneg K)) i4;have w8':=Zcz (Int.add_nonneg (Int.natCast_nonneg X) (Int.natCast_nonneg K)) i4;have w9':=Zdr (Int.natCast_nonneg J) i5;have wa':=Zcz (Int.natCast_nonneg J) i5;clear i1 i2 i3 i4 i5;generalize (S:Int)*(C:Int)=q at*;have hM15:(M:Int)-1≤15:=by clear hb' hhi2 hlo2;omega
 have hM0:0≤(M:Int)-1:=by clear hb' hhi2 hlo2;omega
 have hp1:q*((M:Int)-1)≤4096*15:=Int.mul_le_mul hhi2 hM15 hM0 (by decide);have hp0:0≤q*((M:Int)-1):=Int.mul_nonneg hlo2 hM0;have hpw:=Zdr hp0 (Int.le_trans hp1 (by decide));have hpw':=Zcz hp0 (Int.le_trans hp1 (by decide));have hn1:decide ((b:Int)<0)=false:=decide_eq_false (Int.not_lt.2 (Int.natCast_nonneg b));have hn2:decide (q*((M:Int)-1)≤(b:Int))=false:=decide_eq_false (Int.not_le.2 hb');have hb0:Below w.heap.size w ((w.alloc (Zv #[O Z M,O Z C,O Z S] 26)).alloc (Zv #[O Z 0,O Z 0,O Z 0,O Z 0] 124)):=((Zb _ _).alloc (Za _) _).alloc (by rw[Zaa];omega) _;have HR0:Hid (At ((w.alloc (Zv #[O Z M,O Z C,O Z S] 26)).alloc (Zv #[O Z 0,O Z 0,O Z 0,O Z 0] 124)) (w.heap.size+1) #[O Z 0,O Z 0,O Z 0,O Z 0] 124):=At.new2 _ _ _ _;clear hb' hT0 hlo2 hhi2 hp0 hp1 hD0 hX1 hXK hD2 hb2 hJ0 hM15 hM0;unfold geo shp placeVal at*;go_enter Tryz.func67,Tryz.ntmps67;go_wp2_with (go_at_call 70;(with_reducible refine(hk.out _).mono ?_);rintro e w1 ⟨d,rfl,hd,hb1⟩;have hr1:=(HR0.out.below hb1 HR0.out.lt).alloc (Zv #[O Z M,O Z C,O Z S,O Z ((M:Int)-1)] 135);have HR1:=hid hr1;have HB1:=hid ((Zac hb0 hb1).alloc (Zac hb0 hb1).size (Zv #[O Z M,O Z C,O Z S,O Z ((M:Int)-1)] 135));have HA1:Hid (At (w1.alloc (Zv #[O Z M,O Z C,O Z S,O Z ((M:Int)-1)] 135)) w1.heap.size #[O Z M,O Z C,O Z S,O Z ((M:Int)-1)] 135):=At.new _ _ _;clear hr1 hb1);generalize w1.alloc (Zv #[O Z M,O Z C,O Z S,O Z ((M:Int)-1)] 135)=W1 at*;have HAD:Hid (At W1.drew w1.heap.size #[O Z M,O Z C,O Z S,O Z ((M:Int)-1)] 135):=HA1.out.drew;have HH:Hid (∀X,At X w1.heap.size #[O Z M,O Z C,O Z S,O Z ((M:Int)-1)] 135->X.cell? ⟨w1.heap.size,0,none⟩=some (O Z M)/\X.cell? ⟨w1.heap.size,1,none⟩=some (O Z C)/\X.cell? ⟨w1.heap.size,2,none⟩=some (O Z S)/\X.cell? ⟨w1.heap.size,3,none⟩=some (O Z ((M:Int)-1))):=fun X h=>⟨h.cell 0,h.cell 1,h.cell 2,h.cell 3⟩
 go_region_held3 (fun w'=>w'.cell? ⟨w1.heap.size,0,none⟩=some (O Z M)/\w'.cell? ⟨w1.heap.size,1,none⟩=some (O Z C)/\w'.cell? ⟨w1.heap.size,2,none⟩=some (O Z S)/\w'.cell? ⟨w1.heap.size,3,none⟩=some (O Z ((M:Int)-1)))
  (first|with_reducible exact HH.out _ HA1.out|with_reducible exact HH.out _ HAD.out|with_reducible exact HH.out _ HAE.out)
  (first|(go_at_call 71;(with_reducible refine(hro.out _ _).mono ?_);rintro e w3 ⟨rfl,hb3⟩;have HAE:=hid (HAD.out.below hb3 HAD.out.lt);have HR3:=hid (HR1.out.drew.below hb3 HR1.out.lt);have HB3:=hid (Zac HB1.out.drew hb3);clear hb3))
 clear HAD HA1 HR1 HB1;obtain⟨k0,k1,k2,k3⟩:=HH.out _ HAE.out;go_wp2;go_quiet (fail);have HA4:Hid (At (w3.drewN nq) w1.heap.size #[O Z M,O Z C,O Z S,O Z ((M:Int)-1)] 135):=HAE.out;have HR4:Hid (At (w3.drewN nq) (w.heap.size+1) #[O Z 0,O Z 0,O Z 0,O Z 0] 124):=HR3.out;have HB4:=hid (below_drewN HB3.out nq);clear k0 k1 k2 k3 HAE HR3 HB3 hTe hIe hDe hpw hpw' hn1 hn2;generalize w3.drewN nq=w4 at*;have HAD:Hid (At w4.drew w1.heap.size #[O Z M,O Z C,O Z S,O Z ((M:Int)-1)] 135):=HA4.out.drew;have HRD:Hid (At w4.drew (w.heap.size+1) #[O Z 0,O Z 0,O Z 0,O Z 0] 124):=HR4.out.drew;have HBD:Hid (Below w.heap.size w w4.drew):=HB4.out.drew;have hne:w1.heap.size≠w.heap.size+1:=fun e=>by
  have h1:=HA4.out;have h2:=HR4.out;rw[e]at h1;unfold At at h1 h2;rw[h1]at h2;simp only [Zg,Obj.cells.injEq]at h2;exact absurd h2.2.1 (by decide)
 go_wp2;go_region_held3 (fun w'=>w'.cell? ⟨w1.heap.size,0,none⟩=some (O Z M)/\w'.cell? ⟨w1.heap.size,1,none⟩=some (O Z C)/\w'.cell? ⟨w1.heap.size,2,none⟩=some (O Z S)/\w'.cell? ⟨w1.heap.size,3,none⟩=some (O Z ((M:Int)-1)))
  (first|with_reducible exact HH.out _ HA4.out|with_reducible exact HH.out _ HAD.out|with_reducible exact HH.out _ HA5.out|with_reducible exact HH.out _ HA6.out|with_reducible exact HH.out _ HA7.out)
  (first
   |(go_at_call 110;(with_reducible refine(hme.out _ w4.drew).mono ?_);rintro e w5 ⟨rfl,hb5⟩;have HA5:=hid (HAD.out.below hb5 HAD.out.lt);have HR5:=hid (HRD.out.below hb5 HRD.out.lt);have HB5:=hid (Zac HBD.out hb5);clear hb5)
   |(go_at_call 111;(with_reducible refine(hpa.out _ w4.drew).mono ?_);rintro e w5 ⟨rfl,hb5⟩;have HA5:=hid (HAD.out.below hb5 HAD.out.lt);have HR5:=hid (HRD.out.below hb5 HRD.out.lt);have HB5:=hid (Zac HBD.out hb5);clear hb5)
   |(go_at_call 110;(with_reducible refine(hme.out _ w5).mono ?_);rintro e w6 ⟨rfl,hb6⟩;have HA6:=hid (HA5.out.below hb6 HA5.out.lt);have hr6:=HR5.out.below hb6 HR5.out.lt;have HB6:=hid (Zac HB5.out hb6);have d0:=hr6.cell 0;have d1:=hr6.cell 1;have d2:=hr6.cell 2;have d3:=hr6.cell 3;have f0:=hr6.free 0;have f1:=hr6.free 1;have f2:=hr6.free 2;have f3:=hr6.free 3;have HR6:=hid hr6;have HA7:=hid ((((HA6.out.setOther (a:=⟨w.heap.size+1,0,none⟩) hne (O Z T)).setOther (a:=⟨w.heap.size+1,1,none⟩) hne (O Z ((X:Int)+(K:Int)))).setOther (a:=⟨w.heap.size+1,2,none⟩) hne (O Z mm)).setOther (a:=⟨w.heap.size+1,3,none⟩) hne (O Z pp));clear hr6 hb6)
   |(go_at_call 111;(with_reducible refine(hpa.out _ w5).mono ?_);rintro e w6 ⟨rfl,hb6⟩;have HA6:=hid (HA5.out.below hb6 HA5.out.lt);have hr6:=HR5.out.below hb6 HR5.out.lt;have HB6:=hid (Zac HB5.out hb6);have d0:=hr6.cell 0;have d1:=hr6.cell 1;have d2:=hr6.cell 2;have d3:=hr6.cell 3;have f0:=hr6.free 0;have f1:=hr6.free 1;have f2:=hr6.free 2;have f3:=hr6.free 3;have HR6:=hid hr6;have HA7:=hid ((((HA6.out.setOther (a:=⟨w.heap.size+1,0,none⟩) hne (O Z T)).setOther (a:=⟨w.heap.size+1,1,none⟩) hne (O Z ((X:Int)+(K:Int)))).setOther (a:=⟨w.heap.size+1,2,none⟩) hne (O Z mm)).setOther (a:=⟨w.heap.size+1,3,none⟩) hne (O Z pp));clear hr6 hb6))
 all_goals
  have HF:=(((HR6.out.set 0 (O Z T)).set 1 (O Z ((X:Int)+(K:Int)))).set 2 (O Z mm)).set 3 (O Z pp)
  have r0:=HF.cell 0
  have r1:=HF.cell 1
  have r2:=HF.cell 2
  have r3:=HF.cell 3
  clear d0 d1 d2 d3 f0 f1 f2 f3
  go_wp2
  (try simp only [Exit.inBlock,Exit.then])
  refine bodyPost_ret (v:=.tuple #[.agg #[O Z T,O Z ((X:Int)+(K:Int)),O Z mm,O Z pp],.int .u16 0]) ?_ rfl ⟨⟨T,pp,by rw[Int.natCast_add]⟩,(((HB6.out.setCell (p:=⟨w.heap.size+1,0,none⟩) (Nat.le_succ _) _).setCell (p:=⟨w.heap.size+1,1,none⟩) (Nat.le_succ _) _).setCell (p:=⟨w.heap.size+1,2,none⟩) (Nat.le_succ _) _).setCell (p:=⟨w.heap.size+1,3,none⟩) (Nat.le_succ _) _⟩
  rw[results_cell_tmp rfl]
  go_simp
  try rfl
end Go.Proofs.YtmemlkmnhcealaaGreat
