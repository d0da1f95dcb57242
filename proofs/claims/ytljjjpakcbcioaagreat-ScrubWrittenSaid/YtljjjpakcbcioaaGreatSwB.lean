/- Several texts in one: LawD, LawE, MaxW, GeoO, SwA, SwB, SwM. -/
import Derived.Test.YtljjjpakcbcioaaGreatScr
import Derived.Deep.RegionHeld3
import Derived.Test.YtljjjpakcbcioaaGreatMrg1
import Derived.Test.YtljjjpakcbcioaaGreatRows
import Derived.WalkSpells
import Derived.WalkLawsBesides
import Derived.BigFrame
import Derived.OwnWalk
import Derived.Deep.Slices
import Derived.ChangeArms
import Derived.Test.YtljjjpakcbcioaaGreatRlA
import Derived.Test.YtljjjpakcbcioaaGreatMrg31
import Derived.Test.YtljjjpakcbcioaaGreatMrg33
set_option linter.unusedVariables false
set_option maxRecDepth 100000
set_option maxHeartbeats 4000000
namespace Go.Proofs.YtljjjpakcbcioaaGreat
open Go.RowKit
abbrev geo312:Value:=.agg #[.int .i64 3,.int .i64 1,.int .i64 2]
abbrev noTrouble:Value:=.agg #[.int .i64 0,.int .u16 0]
def knownX:Sec:=zsec.set 7 5
theorem knownX_length:knownX.length=128:=by simp[knownX,zsec]
theorem knownX_at:knownX.getD 7 0≠0:=by decide
structure KnownStates (s1 s4:BaySt):Prop where
 e1:(newBay 3 2).write 0 2 knownX=(0,s1)
 n1:s1.n=4
 small1:s1.small 1
 c10:s1.cnt 0=0
 c11:s1.cnt 1=1
 c12:s1.cnt 2=0
 calm1:CalmBay s1 (newSz 3 2)
 un1:uneven s1 3 2= [1]
 lost1:sumL (xorTo (fun j=>s1.sec j 2) 1 3) 128=knownX
 e4:((s1.ticks 0 6).ticks 0 2).mend 3 1 1=(none,s4)
 n4:s4.n=4
 small4:s4.small 2
 calm4:CalmBay s4 (newSz 3 2)
 un4:uneven s4 3 2= []
 c40:s4.cnt 0=10
 c41:s4.cnt 1=2
 c42:s4.cnt 2=1
theorem known_states:∃s1 s4,KnownStates s1 s4:=by
 obtain⟨s1,e1,hc,hn,hsm,c0,c1,c2,hsec⟩:=one_written (M:=3) (R:=2) (m:=0) (k:=1) (by omega) (by omega) (by omega) knownX_length;have hc3:CalmBay ((s1.ticks 0 6).ticks 0 2) (newSz 3 2):=(hc.ticks 0 6).ticks 0 2;obtain⟨s4,e4,hm⟩:=calm_mend_plain hc3 3 2 1 1 hn (fun m hm=>newSz_at m hm) (by omega) (by omega);have hlost:sumL (xorTo (fun j=>s1.sec j 2) 1 3) 128=knownX:=by
  refine sumL_eq knownX_length fun i hi=> ?_
  rw[xorTo_one (f:=fun j=>s1.sec j 2) (m:=0) (x:=knownX) (by show s1.sec 0 2=_;rw[hsec 0 2 (by omega),if_pos ⟨rfl,rfl⟩]) 1 i 3 (fun j hj hj0=>by show s1.sec j 2=_;rw[hsec j 2 (by omega),if_neg (by omega)]),if_pos (by omega)]
 have hsec4:∀j q,j<3->q<3->s4.sec j q=if j=1/\q=2 then knownX else s1.sec j q:=fun j q hj hq=>by
  rw[hm.sec j q (by show j<s1.n;omega) (by rw[newSz_at j hj];omega)];by_cases h:j=1/\q=1+1
  ·rw[if_pos h,if_pos h];exact hlost
  ·rw[if_neg h,if_neg h];rfl
 refine⟨s1,s4,⟨e1,hn,hsm,c0,c1,c2,hc,one_uneven hsec (by omega) (by omega) (by omega:7<128) knownX_at,hlost,e4,hm.n.trans hn,hm.small 1 hsm,hm.calm,?_,?_,?_,?_⟩⟩
 ·refine allZero_nil s4 3 2 fun r hr i hi=> ?_
  by_cases hr1:r=1
  ·subst hr1
   refine mended_even (f:=fun j=>s1.sec j 2) (g:=fun j=>s4.sec j 2) (M:=3) (p:=1) (by omega) ?_ (fun j hj hj1=> ?_) i hi
   ·show s4.sec 1 2=_
    rw[hsec4 1 2 (by omega) (by omega),if_pos ⟨rfl,rfl⟩];exact hlost.symm
   ·show s4.sec j 2=s1.sec j 2
    rw[hsec4 j 2 hj (by omega),if_neg (by omega)]
  ·obtain rfl:r=0:=by omega
   exact xorTo_zero _ _ i 3 (fun j hj _=>by show s4.sec j 1=_;rw[hsec4 j 1 hj (by omega),if_neg (by omega),hsec j 1 (by omega),if_neg (by omega)])
 ·rw[hm.c0]
  show(s1.cnt 0+((6:Nat):Int))+((2:Nat):Int)+((3-1:Nat):Int)=10
  rw[c0];rfl
 ·rw[hm.c1]
  show s1.cnt 1+1=2
  rw[c1];rfl
 ·rw[hm.c2]
  show s1.cnt 2+1=1
  rw[c2];rfl
theorem geo312_ok:geoIs ((3:Nat):Int) ((1:Nat):Int) ((2:Nat):Int)=true:=by decide
theorem law_known (w:World):Calls Tryz.prog 20 #[] w fun e w'=>e=.returned (.bool true)/\Below w.heap.size w w':=by
 obtain⟨s1,s4,K⟩:=known_states;have KS:Hid (∀W,Calls Tryz.prog 18 #[geo312] W fun e w'=>∃v,e=.returned v/\w'.ownsRow (W.heap.size+1) 3 1 v (sizeL 3 2).length (kcells (sizeL 3 2))/\Below W.heap.size W w'):=fun W=>law_sizes 3 1 2 W geo312_ok
 have KN:Hid (∀W v B,W.ownsRow B 3 1 v (sizeL 3 2).length (kcells (sizeL 3 2))->Calls Tryz.prog 19 #[v] W fun e w'=>∃b T,e=.returned (.tuple #[.pointer (some ⟨b,0,none⟩),.int .u16 0])/\BayAt w' T b (newBay 3 2)/\(∀q,q<W.heap.size->T q=0)/\Below W.heap.size W w'):=fun W v B hv=>law_newBay 3 2 v B W (by omega) (by omega) hv
 have KX:Hid (∀W,Calls Tryz.prog 58 #[.int .u8 5] W fun e w'=>e=.returned (.slice (some ⟨W.heap.size,0,none⟩) 128 128)/\At w' W.heap.size (ucells knownX).toArray 5/\Below W.heap.size W w'):=fun W=>law_sector 5 W
 have KW:Hid (∀W T b g,BayAt W T b (newBay 3 2)->At W g (ucells knownX).toArray 5->T g=0->Calls Tryz.prog 55 #[.pointer (some ⟨b,0,none⟩),.int .i64 0,.int .i64 2,.slice (some ⟨g,0,none⟩) 128 128] W fun e w'=>e=.returned (.int .u16 0)/\BayPost W T b s1 w'):=fun W T b g hB hA hT=>by
  have:=bay_write hB 0 2 (.slice (some ⟨g,0,none⟩) 128 128) knownX (by show(0:Int)≤_;omega) (newBay_small 3 2 _) (seg_of_sec (seg_row hA knownX_length)) (fun a n c hv=>by simp only [Value.slice.injEq,Option.some.injEq]at hv;rw[<-hv.1];exact hT);rw[K.e1]at this;exact this
 have KR:Hid (∀W T b,BayAt W T b s1->Calls Tryz.prog 25 #[.pointer (some ⟨b,0,none⟩),geo312] W fun e w'=>∃v,e=.returned (.tuple #[v,noTrouble])/\w'.ownsRow W.heap.size 3 1 v 1 (kcells [1])/\BayAt w' T b (s1.ticks 0 6)/\Chg (fun q=>T q≠0) W w'):=fun W T b hB=>by
  have:=calm_rows hB K.calm1 3 1 2 geo312_ok K.n1 (fun m hm=>newSz_at m hm) (by rw[K.c10];omega) (fun i hi x hx=>Nat.le_trans (K.small1 i hi x hx) (by omega));rw[K.un1]at this;exact this
 have KL:Hid (∀W T b,BayAt W T b (s1.ticks 0 6)->Calls Tryz.prog 26 #[.pointer (some ⟨b,0,none⟩),geo312,.int .i64 1,.int .i64 1] W fun e w'=>∃v,e=.returned (.tuple #[v,noTrouble])/\w'.ownsRow W.heap.size 5 1 v 128 (ucells knownX)/\BayAt w' T b ((s1.ticks 0 6).ticks 0 2)/\Chg (fun q=>T q≠0) W w'):=fun W T b hB=>by
  have:=calm_lost hB (K.calm1.ticks 0 6) 3 1 2 1 1 geo312_ok K.n1 (fun m hm=>newSz_at m hm) (by omega) (by omega) (by rw[cnt_ticks,K.c10];omega) (fun i hi x hx=>Nat.le_trans (K.small1 i hi x hx) (by omega));rw[show sumL (xorTo (fun j=>(s1.ticks 0 6).sec j (1+1)) ((1:Nat):Int) 3) 128=knownX from K.lost1]at this;exact this
 have KM:Hid (∀W T b,BayAt W T b ((s1.ticks 0 6).ticks 0 2)->Calls Tryz.prog 59 #[.pointer (some ⟨b,0,none⟩),geo312,.int .i64 1] W fun e w'=>e=.returned noTrouble/\BayPost W T b s4 w'):=fun W T b hB=>by
  refine calm_mend hB 3 1 2 1 geo312_ok K.n1 (by omega) (by rw[cnt_ticks,cnt_ticks,K.c10];decide) (by show s1.cnt 1≤_;rw[K.c11];omega) (by show s1.cnt 2≤_;rw[K.c12];omega) (fun i hi x hx=>Nat.le_trans (K.small1 i hi x hx) (by omega)) K.e4
 have KR2:Hid (∀W T b,BayAt W T b s4->Calls Tryz.prog 25 #[.pointer (some ⟨b,0,none⟩),geo312] W fun e w'=>∃v,e=.returned (.tuple #[v,noTrouble])/\w'.ownsRow W.heap.size 3 1 v 0 []/\BayAt w' T b (s4.ticks 0 6)/\Chg (fun q=>T q≠0) W w'):=fun W T b hB=>by
  have:=calm_rows hB K.calm4 3 1 2 geo312_ok K.n4 (fun m hm=>newSz_at m hm) (by rw[K.c40];omega) (fun i hi x hx=>Nat.le_trans (K.small4 i hi x hx) (by omega));rw[K.un4]at this;exact this
 have KC:Hid (∀W T b,BayAt W T b (s4.ticks 0 6)->Calls Tryz.prog 14 #[.pointer (some ⟨b,0,none⟩)] W fun e w'=>e=.returned (.agg #[.int .i64 16,.int .i64 2,.int .i64 1])/\Below W.heap.size W w'):=fun W T b hB=>by
  have:=bay_counts hB;unfold cntVal at this;rw[cnt_ticks,cnt_ticks_ne _ _ _ 1 (by omega),cnt_ticks_ne _ _ _ 2 (by omega),K.c40,K.c41,K.c42]at this;exact this
 have KSB:Hid (∀u v W,Seg W u knownX->Seg W v knownX->Calls Tryz.prog 28 #[u,v] W fun e w'=>e=.returned (.bool true)/\Below W.heap.size W w'):=fun u v W h1 h2=>(same_any u v knownX knownX W (by rw[knownX_length];omega) (by rw[knownX_length];omega) h1 h2).mono fun e w' ⟨x1,x2⟩=>⟨by rw[x1];simp,x2⟩
 have KSR:Hid (∀W g,At W g (ucells knownX).toArray 5->Seg W (.slice (some ⟨g,0,none⟩) 128 128) knownX):=fun W g hA=>seg_of_sec (seg_row hA knownX_length)
 have KSG:Hid (∀(W:World) (v:Value) (W':World),(∃B,(W.alloc (.cells #[.int .i64 0,.int .u16 0] 33)).ownsRow B 5 1 v 128 (ucells knownX))->Below (W.alloc (.cells #[.int .i64 0,.int .u16 0] 33)).heap.size (W.alloc (.cells #[.int .i64 0,.int .u16 0] 33)) W'->Seg W' v knownX):=fun W v W' ho hb=>by obtain⟨B,ho⟩:=ho;exact(seg_of_sec ho).below hb
 clear K;generalize knownX=X at*;generalize newBay 3 2=s0 at*;generalize s1.ticks 0 6=s2 at*;generalize s2.ticks 0 2=s3 at*;generalize s4.ticks 0 6=s5 at*;go_enter Tryz.func20,Tryz.ntmps20
 go_wp2_with (first
  |(go_at_call 18;refine(KS.out _).mono ?_;rintro e w2 ⟨v,rfl,hv,hb2⟩)
  |(go_at_call 19;refine(KN.out _ _ _ hv).mono ?_;rintro e w3 ⟨b,T,rfl,hB3,hT,hb3⟩;have kb3:Kept w3 T w.heap.size #[.int .i64 3,.int .i64 1,.int .i64 2] 23:=⟨((At.new w _ _).below hb2 (by rw[size_alloc];omega)).below hb3 (by have:=hb2.size;rw[size_alloc]at this;omega),hT _ (by have:=hb2.size;rw[size_alloc]at this;omega)⟩;have hl3:Below w.heap.size w w3:=below_then (below_then ((Below.refl _ _).alloc (Nat.le_refl _) _) hb2) hb3;have ht3:∀q,T q≠0->w.heap.size≤q:=(fun q hq=>Nat.le_of_not_lt fun hlt=>hq (hT q (by have:=hb2.size;rw[size_alloc]at this;omega)));have HB3:=Lib.hid hB3;have HTT:=Lib.hid hT;have KB3:=Lib.hid kb3;have HL3:=Lib.hid hl3;have HT3:=Lib.hid ht3;clear hB3 hT kb3 hl3 ht3)
  |(go_at_call 58;refine(KX.out w3).mono ?_;rintro e w4 ⟨rfl,hA4,hb4⟩;have hB4:=HB3.out.below hb4;have kb4:=KB3.out.chg (Chg.ofBelow hb4 _);have hl4:=below_then HL3.out hb4;have tg4:T w3.heap.size=0:=HB3.out.virgin _ (Nat.le_refl _);have HA4:=Lib.hid hA4;have HB4:=Lib.hid hB4;have KB4:=Lib.hid kb4;have HL4:=Lib.hid hl4;have TG4:=Lib.hid tg4;clear hA4 hB4 kb4 hl4 tg4)
  |(go_at_call 55;refine(KW.out w4 T b _ HB4.out HA4.out TG4.out).mono ?_;rintro e w5 ⟨rfl,T5,hB5,hT5,hc5⟩;have kb5:=KB4.out.post hT5 hc5;have hl5:=Chg.own HL4.out hc5 HT3.out;have ht5:∀q,T5 q≠0->w.heap.size≤q:=(fun q hq=>Nat.le_of_not_lt fun hlt=>hq ((hT5 q (Nat.lt_of_lt_of_le hlt HL4.out.size)).trans (Classical.byContradiction fun e=>absurd (HT3.out q e) (by omega))));have c0:=kb5.at'.cell 0;have c1:=kb5.at'.cell 1;have c2:=kb5.at'.cell 2;have HB5:=Lib.hid hB5;have HTT5:=Lib.hid hT5;have KB5:=Lib.hid kb5;have HL5:=Lib.hid hl5;have HT5':=Lib.hid ht5;clear hB5 hT5 kb5 hl5 ht5)
  |(go_at_call 25;refine(KR.out w5 T5 b HB5.out).mono ?_;rintro e w6 ⟨vl,rfl,hown6,hB6,hc6⟩;obtain⟨gl,cl,rfl,-,-⟩:=ownsRow_full hown6 (by omega);have kb6:=(KB5.out.chg hc6).alloc (.cells #[.int .i64 0,.int .u16 0] 33);have hd6:=(Held.new hown6 HB5.out.virgin).alloc (.cells #[.int .i64 0,.int .u16 0] 33);have kt6:Kept (w6.alloc (.cells #[.int .i64 0,.int .u16 0] 33)) T5 w6.heap.size #[.int .i64 0,.int .u16 0] 33:=⟨At.new _ _ _,hB6.virgin _ (Nat.le_refl _)⟩;have hBB6:=hB6.more (.cells #[.int .i64 0,.int .u16 0] 33);have hl6:=(Chg.own HL5.out hc6 HT5'.out).alloc (Chg.own HL5.out hc6 HT5'.out).size (.cells #[.int .i64 0,.int .u16 0] 33);have c0:=kb6.at'.cell 0;have c1:=kb6.at'.cell 1;have c2:=kb6.at'.cell 2;have HB6:=Lib.hid hB6;have HBB6:=Lib.hid hBB6;have KB6:=Lib.hid kb6;have HD6:=Lib.hid hd6;have KT6:=Lib.hid kt6;have HL6:=Lib.hid hl6;clear hB6 hBB6 kb6 hd6 kt6 hl6)
  |(go_at_call 26;refine(KL.out _ T5 b HBB6.out).mono ?_;rintro e w7 ⟨vx,rfl,hown7,hB7,hc7⟩;obtain⟨gx,cx,rfl,-,-⟩:=ownsRow_full hown7 (by omega);have kb7:=(KB6.out.chg hc7).alloc (.cells #[.int .i64 0,.int .u16 0] 33);have hd7:=(HD6.out.chg hc7).alloc (.cells #[.int .i64 0,.int .u16 0] 33);have kt67:=(KT6.out.chg hc7).alloc (.cells #[.int .i64 0,.int .u16 0] 33);have hx7:=(Held.new hown7 HBB6.out.virgin).alloc (.cells #[.int .i64 0,.int .u16 0] 33);have kt7:Kept (w7.alloc (.cells #[.int .i64 0,.int .u16 0] 33)) T5 w7.heap.size #[.int .i64 0,.int .u16 0] 33:=⟨At.new _ _ _,hB7.virgin _ (Nat.le_refl _)⟩;have hBB7:=hB7.more (.cells #[.int .i64 0,.int .u16 0] 33);have hl7:=(Chg.own HL6.out hc7 HT5'.out).alloc (Chg.own HL6.out hc7 HT5'.out).size (.cells #[.int .i64 0,.int .u16 0] 33);have c0:=kb7.at'.cell 0;have c1:=kb7.at'.cell 1;have c2:=kb7.at'.cell 2;have HB7:=Lib.hid hB7;have HBB7:=Lib.hid hBB7;have KB7:=Lib.hid kb7;have HD7:=Lib.hid hd7;have KT67:=Lib.hid kt67;have HX7:=Lib.hid hx7;have KT7:=Lib.hid kt7;have HL7:=Lib.hid hl7;clear hB7 hBB7 kb7 hd7 kt67 hx7 kt7 hl7)
  |(go_at_call 59;refine(KM.out _ T5 b HBB7.out).mono ?_;rintro e w8 ⟨rfl,T8,hB8,hT8,hc8⟩;have kb8:=(KB7.out.post hT8 hc8).alloc (.cells #[.int .i64 0,.int .u16 0] 33);have hd8:=(HD7.out.post hT8 hc8).alloc (.cells #[.int .i64 0,.int .u16 0] 33);have kt68:=(KT67.out.post hT8 hc8).alloc (.cells #[.int .i64 0,.int .u16 0] 33);have hx8:=(HX7.out.post hT8 hc8).alloc (.cells #[.int .i64 0,.int .u16 0] 33);have kt78:=(KT7.out.post hT8 hc8).alloc (.cells #[.int .i64 0,.int .u16 0] 33);have kt8:Kept (w8.alloc (.cells #[.int .i64 0,.int .u16 0] 33)) T8 w8.heap.size #[.int .i64 0,.int .u16 0] 33:=⟨At.new _ _ _,hB8.virgin _ (Nat.le_refl _)⟩;have hBB8:=hB8.more (.cells #[.int .i64 0,.int .u16 0] 33);have hl8:=(Chg.own HL7.out hc8 HT5'.out).alloc (Chg.own HL7.out hc8 HT5'.out).size (.cells #[.int .i64 0,.int .u16 0] 33);have ht8:∀q,T8 q≠0->w.heap.size≤q:=(fun q hq=>Nat.le_of_not_lt fun hlt=>hq ((hT8 q (Nat.lt_of_lt_of_le hlt HL7.out.size)).trans (Classical.byContradiction fun e=>absurd (HT5'.out q e) (by omega))));have c0:=kb8.at'.cell 0;have c1:=kb8.at'.cell 1;have c2:=kb8.at'.cell 2;have HB8:=Lib.hid hB8;have HBB8:=Lib.hid hBB8;have HTT8:=Lib.hid hT8;have KB8:=Lib.hid kb8;have HD8:=Lib.hid hd8;have KT68:=Lib.hid kt68;have HX8:=Lib.hid hx8;have KT78:=Lib.hid kt78;have KT8:=Lib.hid kt8;have HL8:=Lib.hid hl8;have HT8:=Lib.hid ht8;clear hB8 hBB8 hT8 kb8 hd8 kt68 hx8 kt78 kt8 hl8 ht8)
  |(go_at_call 25;refine(KR2.out _ T8 b HBB8.out).mono ?_;rintro e w9 ⟨vm,rfl,hown9,hB9,hc9⟩;obtain⟨am,cm,rfl⟩:=ownsRow_shape hown9;have hd9:=(HD8.out.chg hc9).alloc (.cells #[.int .i64 0,.int .u16 0] 33);have kt69:=(KT68.out.chg hc9).alloc (.cells #[.int .i64 0,.int .u16 0] 33);have hx9:=(HX8.out.chg hc9).alloc (.cells #[.int .i64 0,.int .u16 0] 33);have kt79:=(KT78.out.chg hc9).alloc (.cells #[.int .i64 0,.int .u16 0] 33);have kt89:=(KT8.out.chg hc9).alloc (.cells #[.int .i64 0,.int .u16 0] 33);have hBB9:=hB9.more (.cells #[.int .i64 0,.int .u16 0] 33);have hl9:=(Chg.own HL8.out hc9 HT8.out).alloc (Chg.own HL8.out hc9 HT8.out).size (.cells #[.int .i64 0,.int .u16 0] 33);have x0:=kt69.at'.cell 0;have x1:=kt69.at'.cell 1;have y0:=kt79.at'.cell 0;have y1:=kt79.at'.cell 1;have z0:=kt89.at'.cell 0;have z1:=kt89.at'.cell 1;have l0:(w9.alloc (.cells #[.int .i64 0,.int .u16 0] 33)).cell? ⟨gl,0,none⟩=some (.int .i64 1):=hd9.cell (by omega) 0 (by omega);have HB9:=Lib.hid hB9;have HBB9:=Lib.hid hBB9;have HD9:=Lib.hid hd9;have KT69:=Lib.hid kt69;have HX9:=Lib.hid hx9;have KT79:=Lib.hid kt79;have KT89:=Lib.hid kt89;have HL9:=Lib.hid hl9;clear hB9 hBB9 hd9 kt69 hx9 kt79 kt89 hl9)
  |(go_at_call 58;refine(KX.out _).mono ?_;rintro e w10 ⟨rfl,hA10,hb10⟩;have hs10:Seg w10 (.slice (some ⟨gx,0,none⟩) 128 cx) X:=(KSG.out w9 _ _ HX9.out.own hb10);have hu10:=KSR.out w10 _ hA10;rw[size_alloc]at hu10;have hBB10:=HBB9.out.below hb10;have hl10:=below_then HL9.out hb10;have HS10:=Lib.hid hs10;have HU10:=Lib.hid hu10;have HBB10:=Lib.hid hBB10;have HL10:=Lib.hid hl10;clear hs10 hu10 hBB10 hl10)
  |(go_at_call 28;refine(KSB.out _ _ w10 HS10.out HU10.out).mono ?_;rintro e w11 ⟨rfl,hb11⟩;have hBB11:=HBB10.out.below hb11;have hl11:=below_then HL10.out hb11;have HBB11:=Lib.hid hBB11;have HL11:=Lib.hid hl11;clear hBB11 hl11)
  |(go_at_call 14;refine(KC.out w11 T8 b HBB11.out).mono ?_;rintro e w12 ⟨rfl,hb12⟩;have hl12:=below_then HL11.out hb12;have HL12:=Lib.hid hl12;clear hl12))
 go_ret;exact⟨rfl,HL12.out⟩
open Go.RowKit
def Acts (w:World) (v:Value) (l:List (Int×Int×List UInt8)):Prop:=
 ∃a cap,v=.slice a l.length cap/\l.length≤9223372036854775807/\
  (l= []\/∃b off,a=some ⟨b,off,none⟩/\b<w.heap.size/\∀j (h:j<l.length),∃u,w.cell? ⟨b,off+j*4+1,none⟩=some (.int .i64 l[j].1)/\w.cell? ⟨b,off+j*4+2,none⟩=some (.int .i64 l[j].2.1)/\w.cell? ⟨b,off+j*4+3,none⟩=some u/\Seg w u l[j].2.2/\l[j].2.2.length≤9223372036854775807)
theorem Acts.below {w w':World} {v:Value} {l:List (Int×Int×List UInt8)} (h:Acts w v l) (hb:Below w.heap.size w w'):Acts w' v l:=by
 obtain⟨a,cap,hv,hc,h⟩:=h;refine⟨a,cap,hv,hc,?_⟩;rcases h with h|⟨b,off,ha,hlt,hx⟩
 ·exact .inl h
 ·refine .inr ⟨b,off,ha,Nat.lt_of_lt_of_le hlt hb.size,fun j hj=> ?_⟩
  obtain⟨u,h1,h2,h3,h4,h5⟩:=hx j hj;exact⟨u,(hb.cell (p:=⟨b,off+j*4+1,none⟩) hlt).trans h1,(hb.cell (p:=⟨b,off+j*4+2,none⟩) hlt).trans h2,(hb.cell (p:=⟨b,off+j*4+3,none⟩) hlt).trans h3,h4.below hb,h5⟩
theorem Acts.shape {w:World} {v:Value} {l:List (Int×Int×List UInt8)} (h:Acts w v l):∃a cap,v=.slice a l.length cap:=by
 obtain⟨a,cap,hv,_⟩:=h;exact⟨a,cap,hv⟩
theorem Acts.full {w:World} {a:Option Addr} {n c:Nat} {l:List (Int×Int×List UInt8)} (h:Acts w (.slice a n c) l) (hl:0<l.length):
  ∃b off,a=some ⟨b,off,none⟩/\b<w.heap.size/\∀j (h:j<l.length),∃u,w.cell? ⟨b,off+j*4+1,none⟩=some (.int .i64 l[j].1)/\w.cell? ⟨b,off+j*4+2,none⟩=some (.int .i64 l[j].2.1)/\w.cell? ⟨b,off+j*4+3,none⟩=some u/\Seg w u l[j].2.2/\l[j].2.2.length≤9223372036854775807:=by
 obtain⟨a',cap,hv,_,h⟩:=h;simp only [Value.slice.injEq]at hv;obtain⟨rfl,-,-⟩:=hv;rcases h with rfl|h
 ·simp at hl
 ·exact h
theorem Acts.nil (w:World):Acts w (.slice none 0 0) []:=⟨none,0,rfl,by simp,.inl rfl⟩
theorem law_much (m c s:Int) (v:Value) (l:List (Int×Int×List UInt8)) (w:World) (hv:Acts w v l) (hg0:geoIs m c s=true):
  Calls Tryz.prog 17 #[geo m c s,v] w fun e w'=>∃r:Bool,e=.returned (.bool r)/\(r=false->l.length≤20000)/\(l= []->r=false)/\Below w.heap.size w w':=by
 have hk:=Lib.hid (fun W=>ref_check m c s W);have hr:=Lib.hid (fun W=>ref_rows m c s W);have hb0:Below w.heap.size w (w.alloc (.cells #[.int .i64 m,.int .i64 c,.int .i64 s] 23)):=(Below.refl _ _).alloc (Nat.le_refl _) _;have ha0:At (w.alloc (.cells #[.int .i64 m,.int .i64 c,.int .i64 s] 23)) w.heap.size #[.int .i64 m,.int .i64 c,.int .i64 s] 23:=At.new _ _ _;have hv0:=hv.below hb0;obtain⟨va,vc,rfl⟩:=hv.shape;have hlen:l.length≤9223372036854775807:=by obtain⟨_,_,_,h,_⟩:=hv;exact h
 have HV:=Lib.hid hv0;have HA0:=Lib.hid ha0;have HHH:Hid (∀X,At X w.heap.size #[.int .i64 m,.int .i64 c,.int .i64 s] 23->X.cell? ⟨w.heap.size,0,none⟩=some (.int .i64 m)/\X.cell? ⟨w.heap.size,1,none⟩=some (.int .i64 c)/\X.cell? ⟨w.heap.size,2,none⟩=some (.int .i64 s)):=fun X h=>⟨h.cell 0,h.cell 1,h.cell 2⟩
 clear hv hv0 ha0;unfold geoRows geoCode geo at*;go_enter Tryz.func17,Tryz.ntmps17;go_wp2;go_loopw [5,6] (fun n i wr=>∃(k N:Nat),k≤l.length/\i=.int .i64 k/\n=.int .i64 N/\l.length≤N/\N≤9223372036854775807/\(l= []->N=0)/\Below w.heap.size w wr/\wr=w.alloc (.cells #[.int .i64 m,.int .i64 c,.int .i64 s] 23)) (fun _ i _=>l.length-(intOf i).toNat);case atStart=>exact⟨0,l.length,by omega,rfl,rfl,Nat.le_refl _,hlen,fun h=>by rw[h];rfl,hb0,rfl⟩
 case round=>
  obtain⟨k,N,hk',rfl,rfl,hN,hN2,hnil,hbel,rfl⟩:=hrel;have HN:=Lib.hid hnil;have HHN:=Lib.hid hN;clear hnil;by_cases hgo:k<l.length/\N≤20000
  ·obtain⟨hkl,hN3⟩:=hgo
   have K1:Hid (k+1≤l.length):=hkl;obtain⟨b,off,rfl,hlt,hx⟩:=HV.out.full (by omega);obtain⟨u,x1,x2,x3,x4,x5⟩:=hx k hkl;obtain⟨ua,uc,rfl⟩:=x4.shape;generalize (l[k]).2.2.length=B at*;clear x1 x2 x4 hx;have hdv:((B/64:Nat):Int)=(B:Int)/64:=by omega
   as_aux_lemma=>
    go_wp2;refine⟨⟨k+1,N+B/64,K1.out,by go_num,?_,by omega,by omega,fun h=> ?_,hbel,trivial⟩,by simp[intOf];omega⟩
    ·rw[Int.natCast_add,hdv]
    ·subst h;simp at hkl
  ·by_cases hbig:20000<N
   ·have hnn:¬l= []:=fun h=>by have:=HN.out h;omega
    have hbd:decide ((20000:Int)<(N:Int))=true:=decide_eq_true (by omega);have hbd2:decide ((N:Int)≤20000)=false:=decide_eq_false (by omega);clear hgo;by_cases hkl:k<l.length
    ·as_aux_lemma=>
      go_wp2;go_quiet (fail);go_wp2;go_ret;exact⟨true,rfl,fun h=>(by cases h),fun h=>absurd h hnn,below_drewN hbel _⟩
    ·have hkl':(l.length:Int)≤(k:Int):=by omega
     as_aux_lemma=>
      go_wp2;go_quiet (fail);go_wp2;go_ret;exact⟨true,rfl,fun h=>(by cases h),fun h=>absurd h hnn,below_drewN hbel _⟩
   ·obtain rfl:k=l.length:=by omega
    clear hgo;have hN3:l.length≤20000:=by have:=HHN.out;omega
    have HN3:=Lib.hid hN3;have hbd:decide ((20000:Int)<(N:Int))=false:=decide_eq_false (by omega);have hg:=hg0
    ·obtain⟨g1,g2,-⟩:=(geoIs_iff m c s).1 hg
     obtain⟨b1,b2⟩:=geo_bounds hg;rw[hg]at hk hr;simp only [if_true]at*;obtain⟨z,hz,hk⟩:∃z:Int,(z==0)=true/\Hid (∀W,Calls Tryz.prog 16 #[.agg #[.int .i64 m,.int .i64 c,.int .i64 s]] W fun e w'=>e=.returned (.int .i64 z)/\Below W.heap.size W w'):=⟨0,rfl,hk⟩;generalize s*c=q at*;have p1:0≤q*m:=Int.mul_nonneg b1 (by omega);have p2:q*m≤4096*16:=Int.mul_le_mul b2 g2 (by omega) (by omega);have hw1:Hid (IntKind.i64.wrap (q*m)=q*m):=(IntWalk.i64_left _).trans (IntWalk.wrap64_in _ ⟨by omega,by omega⟩);have hw2:Hid (IntKind.i64.wrap ((l.length:Int)+1)=(l.length:Int)+1):=(IntWalk.i64_left _).trans (IntWalk.wrap64_in _ ⟨by omega,by omega⟩);have p3:0≤q*m*((l.length:Int)+1):=Int.mul_nonneg p1 (by omega);have p4:q*m*((l.length:Int)+1)≤65536*20001:=Int.mul_le_mul (by omega) (by omega) (by omega) (by omega);have hw3:Hid (IntKind.i64.wrap (q*m*((l.length:Int)+1))=q*m*((l.length:Int)+1)):=(IntWalk.i64_left _).trans (IntWalk.wrap64_in _ ⟨by omega,by omega⟩);by_cases hp:262144<q*m*((l.length:Int)+1)
     ·have hpd:decide ((262144:Int)<q*m*((l.length:Int)+1))=true:=decide_eq_true hp
      have hnn:¬l= []:=fun h=>by
       rw[h]at hp;simp at hp;omega
      as_aux_lemma=>
       go_wp2;go_region_held3 (fun w'=>w'.cell? ⟨w.heap.size,0,none⟩=some (.int .i64 m)/\w'.cell? ⟨w.heap.size,1,none⟩=some (.int .i64 c)/\w'.cell? ⟨w.heap.size,2,none⟩=some (.int .i64 s))
        (first|exact HHH.out _ HA0.out|exact HHH.out _ HA0.out.drew|exact HHH.out _ HB.out|exact HHH.out _ HC.out)
        (first|(go_at_call 16;(with_reducible refine(hk.out _).mono ?_);rintro e w1 ⟨rfl,hb1⟩;have HB:=Lib.hid (HA0.out.drew.below hb1 HA0.out.lt);have HBW:=Lib.hid hb1;clear hb1)|(go_at_call 24;(with_reducible refine(hr.out _).mono ?_);rintro e w2 ⟨rfl,hb2⟩;have HC:=Lib.hid (HB.out.below hb2 HB.out.lt);have HCW:=Lib.hid hb2;clear hb2))
       go_wp2;go_ret;exact⟨true,(by show Ending.returned (.bool (decide (262144<IntKind.i64.wrap (IntKind.i64.wrap (q*m)*IntKind.i64.wrap ((l.length:Int)+1)))))=_;rw[hw1.out,hw2.out,hw3.out,hpd]),fun h=>(by cases h),fun h=>absurd h hnn,below_then (below_then hbel.drew HBW.out) HCW.out⟩
     ·have hpd:decide ((262144:Int)<q*m*((l.length:Int)+1))=false:=decide_eq_false hp
      as_aux_lemma=>
       go_wp2;go_region_held3 (fun w'=>w'.cell? ⟨w.heap.size,0,none⟩=some (.int .i64 m)/\w'.cell? ⟨w.heap.size,1,none⟩=some (.int .i64 c)/\w'.cell? ⟨w.heap.size,2,none⟩=some (.int .i64 s))
        (first|exact HHH.out _ HA0.out|exact HHH.out _ HA0.out.drew|exact HHH.out _ HB.out|exact HHH.out _ HC.out)
        (first|(go_at_call 16;(with_reducible refine(hk.out _).mono ?_);rintro e w1 ⟨rfl,hb1⟩;have HB:=Lib.hid (HA0.out.drew.below hb1 HA0.out.lt);have HBW:=Lib.hid hb1;clear hb1)|(go_at_call 24;(with_reducible refine(hr.out _).mono ?_);rintro e w2 ⟨rfl,hb2⟩;have HC:=Lib.hid (HB.out.below hb2 HB.out.lt);have HCW:=Lib.hid hb2;clear hb2))
       go_wp2;go_ret;exact⟨false,(by show Ending.returned (.bool (decide (262144<IntKind.i64.wrap (IntKind.i64.wrap (q*m)*IntKind.i64.wrap ((l.length:Int)+1)))))=_;rw[hw1.out,hw2.out,hw3.out,hpd]),fun _=>HN3.out,fun _=>rfl,below_then (below_then hbel.drew HBW.out) HCW.out⟩
end Go.Proofs.YtljjjpakcbcioaaGreat
namespace Go
theorem wpList_max {P:Program} {ops:Array Oper} {rest:List Oper} {o:Oper} {a:Act} {Q:Exit->Act->World->Prop} {w:World} (hg:o.guard=none) (x y:Operand) (t:TypeId) (hop:o.op=Op.call {callee:=Callee.builtin Builtin.max,args:= #[x,y],argTypes:= #[t,t]})
  (p q r:Int) (hx:a.eval x=.int .i64 p) (hy:a.eval y=.int .i64 q) (hr:r=if p<q then q else p)
  (h:wpList P ops Q rest (a.put o.dst (.int .i64 r)) w):wpList P ops Q (o::rest) a w:=by
 refine wpList_plain hg fun K' hK'=> ?_
 have hrun:(Builtin.max_ #[t,t] o.type #[.int .i64 p,.int .i64 q]).run P w=.ok (.int .i64 r) w:=by
  subst hr;by_cases hpq:p<q
  ·simp[Builtin.max_,Builtin.max2,hpq]
  ·simp[Builtin.max_,Builtin.max2,hpq]
 unfold Oper.wp;simp[execOp,hop,resolve,invoke,builtin,hx,hy,hrun,Result.andThen];exact hK' _ _ h
open Go.RowKit
end Go
namespace Go
open Go.RowKit Go.ChangeShapes Go.WideShapes Go.ChangeAt
theorem agg3_of_trod {H:Type} {enc:TypeId×Value->H} {P:Program} {W:World} {T base:Nat} {v:Value} {d:DataW H} {ps:List MemPlace} {f0 f1 f2:Field}
  (hT:P.underlying T=some (.struct #[f0,f1,f2])) (ce:P.cellsOf T=3) (o0:f0.offset=0) (o1:f1.offset=1) (o2:f2.offset=2) (c0:P.cellsOf f0.type=1) (c1:P.cellsOf f1.type=1) (c2:P.cellsOf f2.type=1)
  (t0:P.underlying f0.type=some (.int .i64)) (t1:P.underlying f1.type=some (.int .i64)) (t2:P.underlying f2.type=some (.int .i64))
  (hv:Value.okWide P W .any base T v) (h:DataW.Trod enc P W 0 (fun _=>true) true T v d ps):∃a b c:Int,v=.agg #[.int .i64 a,.int .i64 b,.int .i64 c]:=by
 obtain⟨cs,rfl,hs⟩:=okWide_struct hT hv;obtain⟨fuel,hf⟩:=h;obtain⟨xs,n,-,-,hlen,hxl,hall⟩:=DataW.trod_struct hT hf;have hx:xs.length=3:=hxl;rw[ce]at hs;have h0:=hall 0 f0 rfl;have h1:=hall 1 f1 rfl;have h2:=hall 2 f2 rfl;rw[o0,c0,List.getElem?_eq_getElem (by omega)]at h0;rw[o1,c1,List.getElem?_eq_getElem (by omega)]at h1;rw[o2,c2,List.getElem?_eq_getElem (by omega)]at h2;obtain⟨a,e0,-⟩:=DataW.trod_int t0 h0;obtain⟨b,e1,-⟩:=DataW.trod_int t1 h1;obtain⟨c,e2,-⟩:=DataW.trod_int t2 h2;refine⟨a,b,c,?_⟩;obtain⟨l⟩:=cs;match l,hs with
 | [x,y,z],_=>
  simp[Value.cells]at e0 e1 e2;rw[e0,e1,e2]
end Go
namespace Go.Proofs.YtljjjpakcbcioaaGreat
open Go.RowKit
theorem geo_of_trod {H:Type} {enc:TypeId×Value->H} {W:World} {base:Nat} {v:Value} {d:DataW H} {ps:List MemPlace}
  (hv:Value.okWide Tryz.prog W .any base 23 v) (h:DataW.Trod enc Tryz.prog W 0 (fun _=>true) true 23 v d ps):∃m c s:Int,v=geo m c s:=
 agg3_of_trod Tryz.underlying23 (by kernel_rfl) rfl rfl rfl (by kernel_rfl) (by kernel_rfl) (by kernel_rfl) Tryz.underlying3 Tryz.underlying3 Tryz.underlying3 hv h
open Go.RowKit Go.ChangeShapes Go.WideShapes Go.ChangeAt Go.Deep
def BatSeg (w:World) (v:Value) (l:List (List (Int×List UInt8))):Prop:=
 ∃a c,v=.slice a l.length c/\l.length≤140737488355328/\(l= []\/∃b o,a=some ⟨b,o,none⟩/\b<w.heap.size/\∀j (h:j<l.length),∃u,w.cell? ⟨b,o+j,none⟩=some u/\PutSeg w u l[j])
theorem BatSeg.below {w w':World} {v:Value} {l:List (List (Int×List UInt8))} (h:BatSeg w v l) (hb:Below w.heap.size w w'):BatSeg w' v l:=by
 obtain⟨a,c,h1,h2,h3⟩:=h;refine⟨a,c,h1,h2,?_⟩;rcases h3 with e|⟨b,o,e1,e2,e3⟩
 ·exact .inl e
 ·refine .inr ⟨b,o,e1,Nat.lt_of_lt_of_le e2 hb.size,fun j hj=> ?_⟩
  obtain⟨u,k1,k2⟩:=e3 j hj;exact⟨u,(hb.cell (p:=⟨b,o+j,none⟩) e2).trans k1,k2.below hb⟩
theorem BatSeg.shape {w:World} {v:Value} {l:List (List (Int×List UInt8))} (h:BatSeg w v l):∃a c,v=.slice a l.length c:=by
 obtain⟨a,c,h1,-⟩:=h;exact⟨a,c,h1⟩
theorem BatSeg.few {w:World} {v:Value} {l:List (List (Int×List UInt8))} (h:BatSeg w v l):l.length≤140737488355328:=by
 obtain⟨a,c,-,h2,-⟩:=h;exact h2
theorem BatSeg.full {w:World} {a:Option Addr} {n c:Nat} {l:List (List (Int×List UInt8))} (h:BatSeg w (.slice a n c) l) (hl:0<l.length):∃b o,a=some ⟨b,o,none⟩/\b<w.heap.size/\∀j (h:j<l.length),∃u,w.cell? ⟨b,o+j,none⟩=some u/\PutSeg w u l[j]:=by
 obtain⟨a',c',h1,h2,h3⟩:=h;simp only [Value.slice.injEq]at h1;obtain⟨rfl,rfl,rfl⟩:=h1;rcases h3 with e|e
 ·rw[e]at hl
  exact absurd hl (by simp)
 ·exact e
theorem bats_of_trod' {H:Type} {enc:TypeId×Value->H} {P:Program} {W:World} {T E base:Nat} {v:Value} {d:DataW H} {ps:List MemPlace}
  (hT:P.underlying T=some (.slice E)) (ce:P.cellsOf E=1) (be:0<P.bytesOf E)
  (hE:∀fuel v x,DataW.trod enc P W 0 (fun _=>true) true fuel E [v]=some x->(∀n∈x.1.weights P E,n≤reachBytes)->∃us,PutSeg W v us)
  (hv:Value.okWide P W .any base T v) (h:DataW.Trod enc P W 0 (fun _=>true) true T v d ps) (hw:∀n∈d.weights P T,n≤reachBytes):∃l,BatSeg W v l:=by
 obtain⟨a,len,cap,rfl⟩:=Go.WideShapes.okWide_slice hT hv;obtain⟨fuel,hf⟩:=h;rcases Go.Deep.open_slice hT hf with ⟨hcs,_⟩|⟨x,l,c,m,n,D,Pl,hcs,_,hl,hm,hmm,hd,hx⟩
 ·simp[Value.cells]at hcs
  obtain⟨rfl,rfl,rfl⟩:=hcs;exact⟨[],none,0,rfl,by simp,.inl rfl⟩
 ·simp[Value.cells]at hcs
  obtain⟨rfl,rfl,rfl⟩:=hcs;simp only [if_true]at hmm;subst hmm;simp only [Prod.mk.injEq]at hd;have hlenb:len≤140737488351232:=by
   have hmem:(((List.range len).map D).length+((List.range (m-len)).map fun j=>D (len+j)).length)*P.bytesOf E≤reachBytes:=by
    apply hw;rw[hd.1];simp only [DataW.weights,hT];exact List.mem_cons_self
   simp only [List.length_map,List.length_range,reachBytes]at hmem;have:=Nat.le_mul_of_pos_right (len+(m-len)) be;omega
  rw[ce]at hx;have each:∀i,i<len->∃z:List (Int×List UInt8),∃u,W.cell? (x.add (i*1))=some u/\PutSeg W u z:=by
   intro i hi;obtain⟨cs',h1,h2⟩:=hx i (by omega);obtain⟨_,hlen,hcell⟩:=World.cells?_some h1;match cs',hlen with
   | [v0],_=>
    have e0:=hcell 0 (by omega);rw[add_add]at e0
    obtain⟨us,r⟩:=hE _ _ _ h2 (fun n hn=>hw n (by
     rw[hd.1]
     simp only [DataW.weights,hT]
     exact List.mem_cons_of_mem _ (List.mem_append_left _ (weights_all_mem (i:=i) (d:=D i) (by simp[hi]) _ hn))))
    exact⟨us,v0,by simpa using e0,r⟩
  haveI:Inhabited (List (Int×List UInt8)):=⟨[]⟩;obtain⟨F,hF⟩:=choose_lt (α:=List (Int×List UInt8)) each;have hlen:((List.range len).map F).length=len:=by simp
  refine⟨(List.range len).map F,some x,m,by rw[hlen],by rw[hlen];omega,?_⟩;rcases Nat.eq_zero_or_pos len with h0|h0
  ·left;rw[h0];rfl
  ·right
   obtain⟨b,off,spot⟩:=x;have hspot:spot=none:=by
    obtain⟨u,h0',_⟩:=hF 0 (by omega);simpa [Addr.add]using World.cell?_spot h0'
   subst hspot;refine⟨b,off,rfl,?_,fun j hj=> ?_⟩
   ·obtain⟨u,h1,_⟩:=hF 0 (by omega)
    rw[Go.WideShapes.add_plain]at h1;exact block_lt_of_cell h1
   ·rw[hlen]at hj
    obtain⟨u,h1,h2⟩:=hF j hj;rw[Go.WideShapes.add_plain,Nat.mul_one]at h1;rw[List.getElem_map,List.getElem_range];exact⟨u,h1,h2⟩
theorem bats_of_trod {H:Type} {enc:TypeId×Value->H} {W:World} {base:Nat} {v:Value} {d:DataW H} {ps:List MemPlace}
  (hv:Value.okWide Tryz.prog W .any base 50 v) (h:DataW.Trod enc Tryz.prog W 0 (fun _=>true) true 50 v d ps) (hw:∀n∈d.weights Tryz.prog 50,n≤reachBytes):∃l,BatSeg W v l:=
 bats_of_trod' Tryz.underlying50 (by decide+kernel) (by decide+kernel)
  (fun fuel v x hf hw=>puts_of_cell14 Tryz.underlying41 Tryz.underlying53 (by kernel_rfl) (by decide+kernel) rfl rfl (by kernel_rfl) (by kernel_rfl) Tryz.underlying3 Tryz.underlying51 Tryz.underlying5 (by kernel_rfl) (by kernel_rfl) hf hw)
  hv h hw
def batsSum (l:List (List (Int×List UInt8))):Nat:=(l.map fun o=>1+o.length).sum
theorem batsSum_succ (l:List (List (Int×List UInt8))) (k:Nat) (h:k<l.length):batsSum (l.take (k+1))=batsSum (l.take k)+(1+l[k].length):=by
 unfold batsSum;rw[List.take_succ_eq_append_getElem h,List.map_append,List.sum_append];simp
theorem batsSum_le (l:List (List (Int×List UInt8))) (k:Nat):batsSum (l.take k)≤batsSum l:=by
 unfold batsSum;conv=>rhs;rw[<-List.take_append_drop k l,List.map_append,List.sum_append]
 omega
theorem batsSum_len (l:List (List (Int×List UInt8))):l.length≤batsSum l:=by
 unfold batsSum;induction l with
 |nil=>simp
 |cons x l ih=>simp only [List.map_cons,List.sum_cons,List.length_cons];omega
def swA (k:Nat):Nat:=10000+10000000*k
def swB (l:List (List (Int×List UInt8))) (k:Nat):Nat:=3000+8*batsSum (l.take k)
theorem swA_succ (k:Nat):swA (k+1)=swA k+10000000:=by unfold swA;omega
theorem swB_succ {l:List (List (Int×List UInt8))} {k:Nat} (h:k<l.length):swB l (k+1)=swB l k+8*(1+l[k].length):=by
 unfold swB;rw[batsSum_succ l k h];omega
theorem sw_in {l:List (List (Int×List UInt8))} {k:Nat} (h:batsSum l≤10000) (hk:k≤l.length):Within (swA k+50000000) (swB l k+4):=by
 have h1:=batsSum_le l k;have h2:=batsSum_len l;exact⟨by unfold swA;omega,by unfold swB;omega⟩
open Go.RowKit
theorem sizeL_set (M R ring:Nat):(sizeL M R).set M (2+ring)=rszL M R ring:=by
 unfold sizeL rszL;rw[List.set_append_right _ _ (by simp)];simp
theorem kcells_set (l:List Nat) (i x:Nat):(kcells l).set i (.int .i64 (x:Int))=kcells (l.set i x):=by
 unfold kcells;rw[List.map_set]
theorem ownsRow_put {w:World} {B n:Nat} {e:TypeId} {v:Value} {xs:List Value} (h:w.ownsRow B e 1 v n xs) (i:Nat) (hi:i<n) (u:Value):∃g c,v=.slice (some ⟨g,0,none⟩) n c/\B≤g/\g<w.heap.size/\w.cell? ⟨g,i,none⟩=xs[i]?/\w.frozen? ⟨g,i,none⟩=false/\(w.setCell ⟨g,i,none⟩ u).ownsRow B e 1 v n (xs.set i u):=by
 obtain⟨h1,h2⟩:=h;rcases h2 with ⟨-,h2⟩|⟨g,cap,cur,rfl,hb,hg,hc1,hc2,hs,ht⟩
 ·omega
 ·have ha:At w g cur e:=hg
  refine⟨g,cap,rfl,hb,ha.lt,?_,ha.free i,by simpa using h1,.inr ⟨g,cap,cur.setIfInBounds i u,rfl,hb,ha.set i u,hc1,hc2,by simpa using hs,?_⟩⟩
  ·rw[ha.cell,<-ht,List.getElem?_take_of_lt (by omega),Array.getElem?_toList]
  ·rw[Array.toList_setIfInBounds,List.take_set,ht]
theorem hand_fit {s:BaySt} {G:Nat->Prop} {sz:Nat->Nat} (h:Fit s G sz) (z:Nat) (but:Int):∀k:Nat,k≤s.n->(∀j:Nat,j<k->(j:Int)≠but->G j)->(∀j,j<k->z<sz j)->s.hand z but k=⟨none,xorTo (fun m=>s.sec m z) but k,s.ticks 0 (handed but k)⟩
 |0,_,_,_=>by
  show(⟨none,fun _=>0,s⟩:Handed)=⟨none,_,s.ticks 0 0⟩
  rw[ticks_zero];rfl
 |k+1,hk,hG,hz=>by
  have ih:=hand_fit h z but k (by omega) (fun j hj=>hG j (by omega)) (fun j hj=>hz j (by omega));by_cases hb:(k:Int)=but
  ·rw[hand_but s z but k hb,ih]
   show _=(⟨none,(if (k:Int)=but then xorTo (fun m=>s.sec m z) but k else _),s.ticks 0 (if (k:Int)=but then handed but k else handed but k+1)⟩:Handed)
   rw[if_pos hb,if_pos hb]
  ·have hr:=read_fit (h.ticks 0 (handed but k)) k z (by show k<s.n;omega) (hG k (by omega) hb) (hz k (by omega))
   rw[sec_ticks,ticks_ticks]at hr;rw[hand_ok s z but k (by rw[ih]) hb (s.sec k z) (by rw[ih];show((s.ticks 0 (handed but k)).read k z).2.1=_;rw[hr]),ih];show(⟨none,_,((s.ticks 0 (handed but k)).read k z).2.2⟩:Handed)=⟨none,(if (k:Int)=but then xorTo (fun m=>s.sec m z) but k else _),s.ticks 0 (if (k:Int)=but then handed but k else handed but k+1)⟩
   rw[hr,if_neg hb,if_neg hb]
theorem look_fit {s:BaySt} {G:Nat->Prop} {sz:Nat->Nat} (h:Fit s G sz) (M:Nat) (hM:M≤s.n) (hG:∀j,j<M->G j):∀r,(∀j,j<M->r<sz j)->s.look M r=⟨none,uneven s M r,s.ticks 0 (r*M)⟩
 |0,_=>by
  show(⟨none,[],s⟩:Looked)=⟨none,[],s.ticks 0 (0*M)⟩
  rw[Nat.zero_mul,ticks_zero]
 |r+1,hr=>by
  have ih:=look_fit h M hM hG r (fun j hj=>by have:=hr j hj;omega);have hh:=hand_fit (h.ticks 0 (r*M)) (1+r) (-1) M (by show M≤s.n;omega) (fun j hj _=>hG j hj) (fun j hj=>by have:=hr j hj;omega);rw[sec_ticks,ticks_ticks,handed_all (-1) M (by omega)]at hh;rw[look_ok s M r (by rw[ih]) (by rw[ih];show((s.ticks 0 (r*M)).hand _ _ _).t=_;rw[hh]),ih];show(⟨none,(if allZero ((s.ticks 0 (r*M)).hand _ _ _).f 128 then uneven s M r else uneven s M r++ [r]),((s.ticks 0 (r*M)).hand _ _ _).s⟩:Looked)=⟨none,(if allZero (xorTo (fun m=>s.sec m (1+r)) (-1) M) 128 then uneven s M r else uneven s M r++ [r]),s.ticks 0 ((r+1)*M)⟩
  rw[hh,Nat.succ_mul]
theorem xorTo_sum (f:Nat->Sec) (i:Nat):∀k:Nat,xorTo f (-1) k i=xsum (fun m=>(f m).getD i 0) k
 |0=>rfl
 |k+1=>by
  show(if (k:Int)= -1 then xorTo f (-1) k else fun i=>xorTo f (-1) k i^^^(f k).getD i 0) i=xsum (fun m=>(f m).getD i 0) k^^^(f k).getD i 0
  rw[if_neg (by omega)];show xorTo f (-1) k i^^^_=_
  rw[xorTo_sum f i k]
structure EvenAt (M C S:Nat) (s:BaySt) (V:Nat->Nat->Sec) (c:Nat):Prop where
 geo:geoIs M C S=true
 n:s.n=M+1
 fit:Fit s (fun j=>j<M) (fun _=>1+S*C)
 sec:∀m r,m<M->r<S*C->s.sec m (1+r)=V m r
 len:∀m r,m<M->r<S*C->(V m r).length=128
 even:∀r,r<S*C->∀i,i<128->xsum (fun m=>(V m r).getD i 0) M=0
 cnt:s.cnt 0≤c
 small:s.small 1000000
theorem EvenAt.ticks {M C S:Nat} {s:BaySt} {V:Nat->Nat->Sec} {c:Nat} (h:EvenAt M C S s V c) (k:Nat):EvenAt M C S (s.ticks 0 k) V (c+k):=
 ⟨h.geo,h.n,h.fit.ticks 0 k,h.sec,h.len,h.even,by rw[cnt_ticks];have:=h.cnt;omega,h.small⟩
theorem EvenAt.mono {M C S:Nat} {s:BaySt} {V:Nat->Nat->Sec} {c d:Nat} (h:EvenAt M C S s V c) (hcd:c≤d):EvenAt M C S s V d:=⟨h.geo,h.n,h.fit,h.sec,h.len,h.even,by have:=h.cnt;omega,h.small⟩
theorem EvenAt.zero {M C S:Nat} {s:BaySt} {V:Nat->Nat->Sec} {c:Nat} (h:EvenAt M C S s V c) {r:Nat} (hr:r<S*C):allZero (xorTo (fun m=>s.sec m (1+r)) (-1) M) 128:=by
 intro i hi;exact(xorTo_sum _ i M).trans ((xsum_congr fun m hm=>by rw[h.sec m r hm hr]).trans (h.even r hr i hi))
theorem Good.evenAt {R:RS} {V:Nat->Nat->Sec} (h:Good R V) (hw:R.wait= []) (hf:R.fr=fun _=> -1) {c:Nat} (hc:R.s.cnt 0≤c) (hs:R.s.small 1000000):EvenAt R.M R.C R.S R.s V c:=by
 have hd:∀m r,R.dn m r=false:=fun m r=>by unfold RS.dn;rw[hf];simp
 refine⟨h.geo,h.n,?_,fun m r hm hr=>h.sec m r hm hr (by rw[hw];rfl) (hd m r),h.len,h.even,hc,hs⟩;refine⟨h.fit.dark,h.fit.trip,fun k hk hkM=> ?_⟩;obtain⟨x,h1,h2⟩:=h.fit.dev k hk (RS.G_up h.geo hkM (hd k 0));refine⟨x,h1,?_⟩;unfold RS.szs at h2;rw[if_pos hkM]at h2;exact h2
theorem RnAt.evenAt {w0 W:World} {T:Nat->Nat} {A:Adr} {R:RS} {V:Nat->Nat->Sec} {M C S ring:Nat} {lazy:Bool} {a b:Nat} (h:RnAt w0 W T A R V M C S ring lazy a b) (hw:R.wait= []) (hf:R.fr=fun _=> -1) (hb:b≤1000000):EvenAt M C S R.s V a:=by
 obtain⟨m,h4,h5⟩:=h.bud.small;have:=h.at'.good.evenAt hw hf (c:=a) h.bud.c0 (h4.mono (by omega));rw[h.M,h.C,h.S]at this;exact this
structure SwAt (w0 W:World) (T:Nat->Nat) (b:Nat) (s:BaySt):Prop where
 bay:BayAt W T b s
 old:∀q,q<w0.heap.size->T q=0
 bel:Below w0.heap.size w0 W
theorem SwAt.step {w0 W W':World} {T:Nat->Nat} {b:Nat} {s s':BaySt} (h:SwAt w0 W T b s) (hb:BayAt W' T b s') (hc:Chg (fun q=>T q≠0) W W'):SwAt w0 W' T b s':=
 ⟨hb,h.old,h.bel.trans (hc.below fun q hq=>⟨Nat.lt_of_lt_of_le hq h.bel.size,fun e=>e (h.old q hq)⟩)⟩
theorem SwAt.below {w0 W W':World} {T:Nat->Nat} {b:Nat} {s:BaySt} (h:SwAt w0 W T b s) (hb:Below W.heap.size W W'):SwAt w0 W' T b s:=⟨h.bay.below hb,h.old,h.bel.trans (hb.mono h.bel.size)⟩
theorem LAt.sw {w0 W:World} {T:Nat->Nat} {A:Adr} {R:RS} {V:Nat->Nat->Sec} (h:LAt w0 W T A R V):SwAt w0 W T A.b R.s:=by
 obtain⟨lg,vw,X,hr⟩:=h.rw;exact⟨hr.bay,fun q hq=>(h.old q hq).1,h.bel⟩
theorem sw_rows {w0 W:World} {T:Nat->Nat} {b:Nat} {s:BaySt} {M C S:Nat} {V:Nat->Nat->Sec} {c:Nat} (h:SwAt w0 W T b s) (he:EvenAt M C S s V c) (hc:c≤999998000000):
  Calls Tryz.prog 25 #[.pointer (some ⟨b,0,none⟩),.agg #[.int .i64 M,.int .i64 C,.int .i64 S]] W fun e w'=>∃x xc,e=.returned (.tuple #[.slice x 0 xc,.agg #[.int .i64 0,.int .u16 0]])/\SwAt w0 w' T b (s.ticks 0 (S*C*M))/\EvenAt M C S (s.ticks 0 (S*C*M)) V (c+65536)/\Chg (fun q=>T q≠0) W w':=by
 have hn:=he.n;have hl:=look_fit he.fit M (by omega) (fun j hj=>hj) (S*C) (fun j hj=>by show S*C<1+S*C;omega);have hu:uneven s M (S*C)= []:=allZero_nil s M (S*C) fun r hr=>he.zero hr
 obtain⟨g1,g2,g3,g4⟩:=geo_pos he.geo;have hk:S*C*M≤4096*16:=Nat.mul_le_mul g4 (by omega);refine(scrub_rows h.bay M C S he.geo hn (by have:=he.cnt;omega) he.small).mono ?_;rintro e w' ⟨v,h1,h2,h3,h4,h5⟩;rw[hl,hu]at h1 h2;rw[hl]at h4;have h2:=h2 rfl;obtain⟨x,xc,rfl⟩:=ownsRow_shape h2;exact⟨x,xc,h1,h.step h4 h5,(he.ticks _).mono (by omega),h5⟩
theorem sw_lost {w0 W:World} {T:Nat->Nat} {b:Nat} {s:BaySt} {M C S:Nat} {V:Nat->Nat->Sec} {c m r:Nat} (h:SwAt w0 W T b s) (he:EvenAt M C S s V c) (hc:c≤999998000000) (hm:m<M) (hr:r<S*C):
  Calls Tryz.prog 26 #[.pointer (some ⟨b,0,none⟩),.agg #[.int .i64 M,.int .i64 C,.int .i64 S],.int .i64 m,.int .i64 r] W fun e w'=>∃x xc,e=.returned (.tuple #[.slice x 128 xc,.agg #[.int .i64 0,.int .u16 0]])/\ByteRow w' T (.slice x 128 xc) (V m r)/\SwAt w0 w' T b (s.ticks 0 (M-1))/\EvenAt M C S (s.ticks 0 (M-1)) V (c+16)/\Chg (fun q=>T q≠0) W w':=by
 have hn:=he.n;obtain⟨g1,g2,g3,g4⟩:=geo_pos he.geo;have hh:=hand_fit he.fit (1+r) (m:Int) M (by omega) (fun j hj _=>hj) (fun j hj=>by show 1+r<1+S*C;omega);have hM:=handed_but (m:Int) M (by omega) (by omega);rw[show handed (m:Int) M=M-1 by omega,show((1+r:Nat):Int)=1+(r:Int) by omega]at hh;have hev:=lost_even (f:=fun j=>s.sec j (1+r)) hm (by show(s.sec m (1+r)).length=128;rw[he.sec m r hm hr];exact he.len m r hm hr) (he.zero hr);refine(scrub_lost h.bay M C S m r he.geo hn hm hr (by have:=he.cnt;omega) he.small).mono ?_;rintro e w' ⟨v,h1,h2,h3,h4⟩;rw[hh]at h1 h2 h3;have h2:=h2.1 rfl;rw[hev]at h2;have h2:w'.ownsRow W.heap.size 5 1 v 128 (ucells (V m r)):=by rw[<-he.sec m r hm hr];exact h2
 obtain⟨x,xc,rfl⟩:=ownsRow_shape h2;refine⟨x,xc,h1,⟨⟨W.heap.size,by rw[he.len m r hm hr];exact h2⟩,fun g hg=>h.bay.virgin g (h2.lt g hg).1⟩,h.step h3 h4,(he.ticks _).mono (by omega),h4⟩
theorem sw_read {w0 W:World} {T:Nat->Nat} {b:Nat} {s:BaySt} {M C S:Nat} {V:Nat->Nat->Sec} {c m r:Nat} (h:SwAt w0 W T b s) (he:EvenAt M C S s V c) (hc:c≤999998000000) (hm:m<M) (hr:r<S*C) {u:Value} {L:List UInt8} (hu:ByteRow W T u L) (hL:L=V m r):
  Calls Tryz.prog 27 #[.pointer (some ⟨b,0,none⟩),.int .i64 m,.int .i64 ((1:Int)+r)] W fun e w'=>∃v,e=.returned (.tuple #[v,.int .u16 0])/\Seg w' u L/\Seg w' v L/\SwAt w0 w' T b (s.ticks 0 1)/\Chg (fun q=>T q≠0) W w':=by
 have hn:=he.n;have hrd:=read_fit he.fit m (1+r) (by omega) hm (by show 1+r<1+S*C;omega);rw[show((1+r:Nat):Int)=1+(r:Int) by omega]at hrd;refine(bay_read h.bay m (1+(r:Int)) (by have:=he.cnt;omega) he.small).mono ?_;rintro e w' ⟨v,h1,h2,h3,h4,-⟩;rw[hrd]at h1 h2 h4;have h4:=h4 _ rfl;have h4:w'.ownsRow W.heap.size 5 1 v 128 (ucells (V m r)):=by rw[<-he.sec m r hm hr];exact h4
 obtain⟨⟨B,ho⟩,ht⟩:=hu;refine⟨v,h1,seg_of_row (ownsRow_mod ho h3 fun q hq e=>e (ht q hq)),?_,h.step h2 h3,h3⟩;rw[hL];exact seg_of_row h4
end Go.Proofs.YtljjjpakcbcioaaGreat
namespace Go
open Go.RowKit
theorem owp_make_cells {P:Program} {o:Oper} {a:Act} {Q:Exit->Act->World->Prop} {K':Act->World->Prop} {w:World} (l c:Operand) (t e:TypeId) (sz bytes:Nat)
  (hop:o.op=Op.makeSlice t l c) (hT:SliceOf P t e sz bytes) (zs:Array Value) (hz:((P.info? e).bind (·.zero)).map (·.cells)=some zs)
  (kl kc:IntKind) (L C:Int) (n:Nat) (hl:a.eval l=.int kl L) (hc:a.eval c=.int kc C) (hL:L=(n:Int)) (hC:C=(n:Int))
  (b2:bytes*n≤281474976710656) (b3:n≤maxLen)
  (hK:∀w' cs,At w' w.heap.size cs e->(∀j,j<n*sz->cs[j]?=some (zs[j%zs.size]!))->Below w.heap.size w w'->K' (a.put o.dst (.slice (some ⟨w.heap.size,0,none⟩) n n)) w'):
  Oper.wp P o a w K' Q:=by
 obtain⟨h1,h0,i,z',h2,h3,h4,h5,h6⟩:=hT;have hcells:z'.cells=zs:=by
  rw[h2]at hz;simpa [h3]using hz
 obtain⟨w',hrun,hown,hgr⟩:=run_make_full (P:=P) w w.heap.size t e i z' sz h1 h2 h3 h4 kl kc n (by rw[h5];exact b2) b3 (Nat.le_refl _);subst hL;subst hC;unfold Oper.wp;simp[execOp,hop,hl,hc,hrun,Result.andThen];obtain⟨hlen,hh⟩:=hown;rcases hh with ⟨hh,_⟩|⟨g',cap,cur,hv,hb,hg',hc',_,hs,ht⟩
 ·cases hh
 ·simp only [Value.slice.injEq,Option.some.injEq,Addr.mk.injEq]at hv
  obtain⟨⟨rfl,_,_⟩,_,rfl⟩:=hv;refine hK w' cur hg' (fun j hj=> ?_) ?_
  ·rw[List.take_of_length_le (by simp[hs])]at ht
   rw[<-Array.getElem?_toList,ht];simp[madeCells,hj,hcells]
  ·exact(Below.refl _ _).grown hgr (Nat.le_refl _) (fun k hk=>by simp at hk)
end Go
