/- Several texts in one: RlP, RlPe. -/
import Derived.Test.YtebmephdnjccjaaGreatExt1
set_option linter.unusedVariables false
set_option maxRecDepth 100000
set_option maxHeartbeats 32000000
namespace Go.Proofs.YtebmephdnjccjaaGreat
open Go.RowKit
theorem RowsTells_no (m c s ring:Int) (lazy:Bool) (more down:Int) (v:Value) (l:List ROp) (w:World) (hv:ROpSeg w v l) (h:mayIs m c s ring=false):
  Calls Tryz.prog 3 #[madeVal m c s ring lazy more,.int .i64 down,v] w fun e w'=>e=.returned (.bool true)/\Below w.heap.size w w':=by
 have hb0:Below w.heap.size w (w.alloc (.cells #[.int .i64 m,.int .i64 c,.int .i64 s,.int .i64 ring,.bool lazy,.int .i64 more] 25)):=(Below.refl _ _).alloc (Nat.le_refl _) _;have ha0:At (w.alloc (.cells #[.int .i64 m,.int .i64 c,.int .i64 s,.int .i64 ring,.bool lazy,.int .i64 more] 25)) w.heap.size #[.int .i64 m,.int .i64 c,.int .i64 s,.int .i64 ring,.bool lazy,.int .i64 more] 25:=At.new _ _ _;have KU:=Lib.hid (r14_much m c s v l _ (hv.below hb0));have KK:Hid (∀W,Calls Tryz.prog 10 #[] W fun e w'=>e=.returned (.bool true)/\Below W.heap.size W w'):=r14_known;have KB:=Lib.hid (fun W=>r14_begun_no m c s ring lazy more down W h);have KM:=Lib.hid (fun W=>r14_may m c s ring lazy more W h);have HB0:=Lib.hid hb0;have HA0:=Lib.hid ha0;have hl0:=ha0.lt;unfold madeVal geo at*;clear hb0 ha0 h hv;go_enter Tryz.func3,Tryz.ntmps3
 go_wp2_with (first
  |(go_at_call 9;(with_reducible refine KU.out.mono ?_);rintro e w1 ⟨r,rfl,hr,hb1⟩;have HB1:=Lib.hid (below_then HB0.out hb1);have HA1:=Lib.hid (HA0.out.below hb1 HA0.out.lt);clear hr hb1)
  |(go_at_call 10;(with_reducible refine(KK.out _).mono ?_);rintro e w2 ⟨rfl,hb2⟩;have HB2:=Lib.hid (below_then HB1.out hb2);have ha2:=HA1.out.below hb2 HA1.out.lt;have c0:=ha2.cell 0;have c1:=ha2.cell 1;have c2:=ha2.cell 2;have c3:=ha2.cell 3;have c4:=ha2.cell 4;have c5:=ha2.cell 5;have hl2:=ha2.lt;have HA2:=Lib.hid ha2;clear ha2 hb2)
  |(go_at_call 11;(with_reducible refine(KB.out _).mono ?_);rintro e w3 ⟨rfl,hb3⟩;clear c0 c1 c2 c3 c4 c5;have HB3:=Lib.hid (below_then HB2.out hb3);have ha3:=HA2.out.below hb3 HA2.out.lt;have c0:=ha3.cell 0;have c1:=ha3.cell 1;have c2:=ha3.cell 2;have c3:=ha3.cell 3;have c4:=ha3.cell 4;have c5:=ha3.cell 5;have hl3:=ha3.lt;clear ha3 hb3)
  |(go_at_call 12;(with_reducible refine(KM.out _).mono ?_);rintro e w4 ⟨rfl,hb4⟩;have HB4:=Lib.hid (below_then HB3.out hb4);clear hb4))
 all_goals (first|(go_ret;exact⟨rfl,HB4.out⟩)|(go_ret;exact⟨rfl,HB1.out⟩))
theorem RowsTells_go (M C S ring:Nat) (lazy:Bool) (more down:Int) (v:Value) (l:List ROp) (w:World) (hv:ROpSeg w v l) (hg:geoIs M C S=true) (h5:5≤ring) (h6:ring≤2048):
  Calls Tryz.prog 3 #[madeVal M C S ring lazy more,.int .i64 down,v] w fun e w'=>e=.returned (.bool true)/\Below w.heap.size w w':=by
 have hb0:Below w.heap.size w (w.alloc (.cells #[.int .i64 M,.int .i64 C,.int .i64 S,.int .i64 ring,.bool lazy,.int .i64 more] 25)):=(Below.refl _ _).alloc (Nat.le_refl _) _;have ha0:At (w.alloc (.cells #[.int .i64 M,.int .i64 C,.int .i64 S,.int .i64 ring,.bool lazy,.int .i64 more] 25)) w.heap.size #[.int .i64 M,.int .i64 C,.int .i64 S,.int .i64 ring,.bool lazy,.int .i64 more] 25:=At.new _ _ _;have KU:=Lib.hid (r14_much M C S v l _ (hv.below hb0));have KK:Hid (∀W,Calls Tryz.prog 10 #[] W fun e w'=>e=.returned (.bool true)/\Below W.heap.size W w'):=r14_known;have KB:=Lib.hid (fun W=>r14_begun M C S ring lazy more down W hg h5 h6);have HBK:Hid (∀W,Calls Tryz.prog 13 #[.agg #[.int .i64 M,.int .i64 C,.int .i64 S]] W fun e w'=>e=.returned (.int .i64 (S*C*(M-1):Nat))/\Below W.heap.size W w'):=fun W=>by
  have:=ref_blocks M C S W hg;rw[blocks_nat hg]at this;exact this
 have hbf:S*C*(M-1)≤61440:=blocks_few' hg;have HGE:=Lib.hid hg;have HSB:=Lib.hid hbf;have HRG:Hid (1≤ring):=by show _≤_;omega
 generalize hBB:S*C*(M-1)=B at*;have HBB:=Lib.hid hBB;clear hBB;have HB0:=Lib.hid hb0;have HA0:=Lib.hid ha0;have hl0:=ha0.lt;have HV:=Lib.hid hv;have HR6:=Lib.hid h6;have hlf:=hv.few;obtain⟨va,vc,rfl⟩:=hv.shape;unfold madeVal geo at*;clear hb0 ha0 hv h5 h6;go_enter Tryz.func3,Tryz.ntmps3
 go_wp2_with (first
  |(go_at_call 9;(with_reducible refine KU.out.mono ?_);rintro e w1 ⟨r,rfl,hr,hb1⟩;have HMU:=Lib.hid hr;have HB1:=Lib.hid (below_then HB0.out hb1);have HA1:=Lib.hid (HA0.out.below hb1 HA0.out.lt);clear hr hb1)
  |(go_at_call 10;(with_reducible refine(KK.out _).mono ?_);rintro e w2 ⟨rfl,hb2⟩;have HB2:=Lib.hid (below_then HB1.out hb2);have ha2:=HA1.out.below hb2 HA1.out.lt;have c0:=ha2.cell 0;have c1:=ha2.cell 1;have c2:=ha2.cell 2;have c3:=ha2.cell 3;have c4:=ha2.cell 4;have c5:=ha2.cell 5;have hl2:=ha2.lt;have HA2:=Lib.hid ha2;clear ha2 hb2)
  |(go_at_call 11;(with_reducible refine(KB.out w2).mono ?_);rintro e w3 ⟨T,A,R,rfl,hl3,hbg⟩;clear c0 c1 c2 c3 c4 c5;have HRN:=Lib.hid (hbg.run HR6.out hl3);have HBG:=Lib.hid hbg;have HMD:Hid (∀W,Below w2.heap.size w2 W->At W w.heap.size #[.int .i64 M,.int .i64 C,.int .i64 S,.int .i64 ring,.bool lazy,.int .i64 more] 25):=(fun W hW=>HA2.out.below hW HA2.out.lt);have HVV:Hid (∀W,Below w2.heap.size w2 W->ROpSeg W (.slice va l.length vc) l):=(fun W hW=>HV.out.below (HB2.out.trans (hW.mono HB2.out.size)));have HBE:Hid (∀W,Below w2.heap.size w2 W->Below w.heap.size w W):=(fun W hW=>HB2.out.trans (hW.mono HB2.out.size));have HM3:=Lib.hid (HMD.out w3 hl3.bel);have hm3:=HMD.out w3 hl3.bel;have c0:=hm3.cell 0;have c1:=hm3.cell 1;have c2:=hm3.cell 2;have hml3:=hm3.lt;clear hm3 hl3 hbg)
  |(go_at_call 13;(with_reducible refine(HBK.out _).mono ?_);rintro e w4 ⟨rfl,hb4⟩;have HB4:=Lib.hid hb4;clear hb4 c0 c1 c2)
  |(refine wpList_make_same rfl _ _ 35 5 1 1 rfl slice_bytes (.int .u8 0) (by kernel_rfl) _ _ _ _ (128*B) rfl rfl rfl rfl (by omega) (by unfold maxLen;omega) ?_;intro w5 a1 b1;have HM5:=Lib.hid (And.intro a1 b1);clear a1 b1))
 any_goals (first|(go_ret;exact⟨rfl,HB1.out⟩)|skip)
 have HFW:Hid (FewOps M C S l):=HMU.out (by first|assumption|(exact Bool.eq_false_iff.2 (by assumption))|(cases r<;>simp_all));go_loopw [10,11] (fun al q wr=>∃k:Nat,k≤l.length/\q=.int .i64 k/\∃T R V,TlAt w2 wr T A R V M C S ring lazy (spentA k) (spentB l k) al) (fun _ q _=>l.length-(intOf q).toNat);case atStart=>exact⟨0,by omega,rfl,T,R,zeroV,by have h:=tl_start HRN.out HB4.out HM5.out.2 (by rw[HBB.out];exact HM5.out.1) (by rw[HBB.out];exact HSB.out);rw[HBB.out]at h;unfold spentA spentB;exact h⟩
 case round=>
  clear HRN HBG HM5 HB4 T R;obtain⟨k,hk,rfl,T,R,V,htl⟩:=hrel;have HTL:=Lib.hid htl;clear htl;by_cases hkl:k<l.length
  ·have K1:Hid (k+1≤l.length):=hkl
   have hsel:=HVV.out w2 (Below.refl _ _);obtain⟨bb,off,rfl,hlt,hx⟩:=hsel.full (by omega);obtain⟨x0,x1,x2,x3,⟨u4,x4,q4⟩,⟨u5,x5,q5⟩,u6,x6,q6⟩:=hx k hkl;obtain⟨pa,pc,rfl⟩:=q4.shape;obtain⟨qa,qc,rfl⟩:=q5.shape;obtain⟨ka,kc,rfl⟩:=q6.shape;have hbw:=HTL.out.run.at'.bel;have y0:=(hbw.cell (p:=⟨bb,off+k*7,none⟩) hlt).trans x0;have y1:=(hbw.cell (p:=⟨bb,off+k*7+1,none⟩) hlt).trans x1;have y2:=(hbw.cell (p:=⟨bb,off+k*7+2,none⟩) hlt).trans x2;have y3:=(hbw.cell (p:=⟨bb,off+k*7+3,none⟩) hlt).trans x3;have y4:=(hbw.cell (p:=⟨bb,off+k*7+4,none⟩) hlt).trans x4;have y5:=(hbw.cell (p:=⟨bb,off+k*7+5,none⟩) hlt).trans x5;have y6:=(hbw.cell (p:=⟨bb,off+k*7+6,none⟩) hlt).trans x6;have hlt':bb<wr.heap.size:=Nat.lt_of_lt_of_le hlt hbw.size;have HQ4:=Lib.hid q4;have hin:=spent_in HFW.out hk;have hsb:=spentB_succ hkl;have hsa:=spentA_succ k;have hbb:spentB l k+8*(l[k]'hkl).puts.length+4≤600000:=by
    have:=(spent_in HFW.out (show k+1≤l.length from hkl)).b;omega
   have HNX:Hid (∀W T R V a b al,TlAt w2 W T A R V M C S ring lazy a b al->a≤spentA k+10000000->b≤spentB l k+8*(l[k]'hkl).puts.length+4->TlAt w2 W T A R V M C S ring lazy (spentA (k+1)) (spentB l (k+1)) al):=fun W T R V a b al h h1 h2=>h.mono (by omega) (by omega)
   have HIN:Hid (∀a b,a≤spentA k+10000000->b≤spentB l k+8*(l[k]'hkl).puts.length+4->Within a b):=fun a b h1 h2=>⟨by have:=hin.a;omega,by omega⟩
   clear x0 x1 x2 x3 x4 x5 x6 q4 q5 q6 hx hsel hin hsb hsa hbb hbw;generalize hkd:(l[k]'hkl).kind=kd at*;generalize (l[k]'hkl).puts=us at*;generalize (l[k]'hkl).pats=ps at*;generalize (l[k]'hkl).keeps=ks at*;generalize (l[k]'hkl).m=mm at*;generalize (l[k]'hkl).n=nn at*;generalize (l[k]'hkl).down=dd at*;generalize spentB l k=sb at*;generalize spentA k=sa at*;clear hkd;have hOA:=At.new wr #[.int .i64 kd,.int .i64 mm,.int .i64 nn,.bool dd,.slice pa us.length pc,.slice qa ps.length qc,.slice ka ks.length kc] 41;have HOB:Hid (Below wr.heap.size wr (wr.alloc (.cells #[.int .i64 kd,.int .i64 mm,.int .i64 nn,.bool dd,.slice pa us.length pc,.slice qa ps.length qc,.slice ka ks.length kc] 41))):=(Below.refl _ _).alloc (Nat.le_refl _) _;have HTO:=Lib.hid (HTL.out.below HOB.out);by_cases hk1:kd=1
   ·as_aux_lemma=>
     subst hk1;have HI6:Hid (Within sa sb):=HIN.out _ _ (by omega) (by omega);have HTZ:Hid (T wr.heap.size=0):=HTL.out.run.at'.virg _ (Nat.le_refl _);have HBR:Hid (R.S*R.C*(R.M-1)=B):=by show _=_;rw[HTL.out.run.M,HTL.out.run.C,HTL.out.run.S];exact HBB.out
     have hn0:nn<0\/(0≤nn/\(B:Int)≤nn)\/(0≤nn/\nn<(B:Int)):=by omega
     rcases hn0 with hn0|⟨hn0,hn1⟩|⟨hn0,hn1⟩
     ·have HRD:=Lib.hid (l_read_no HTO.out.run.at' nn (by rw[blocks_nat HTO.out.run.at'.good.geo,HBR.out];omega))
      have hneg:decide (nn<0)=true:=decide_eq_true hn0
      go_wp2_with (first
       |(go_at_call 14;(with_reducible refine HRD.out.mono ?_);rintro e w6 ⟨rfl,hb6⟩;have HT6:=Lib.hid (HTO.out.below hb6);have HOP6:=Lib.hid ((At.new wr #[.int .i64 1,.int .i64 mm,.int .i64 nn,.bool dd,.slice pa us.length pc,.slice qa ps.length qc,.slice ka ks.length kc] 41).below hb6 (by show wr.heap.size<(wr.alloc _).heap.size;rw[size_alloc];omega));clear hb6))
      have h1:At (w6.alloc (.cells #[.int .i64 0,.int .u16 3] 45)) w6.heap.size #[.int .i64 0,.int .u16 3] 45:=At.new _ _ _;have h2:=HOP6.out.alloc (.cells #[.int .i64 0,.int .u16 3] 45);have hal:Below w6.heap.size w6 (w6.alloc (.cells #[.int .i64 0,.int .u16 3] 45)):=(Below.refl _ _).alloc (Nat.le_refl _) _;have HT7:=Lib.hid (HT6.out.below hal);have h3:=HMD.out _ HT7.out.run.at'.bel;generalize hW7:w6.alloc (.cells #[.int .i64 0,.int .u16 3] 45)=W7 at*;obtain⟨tb,htb⟩:∃tb,tb=w6.heap.size:=⟨_,rfl⟩;rw[<-htb]at h1 ⊢;have HTB:=Lib.hid h1;have HAL:=Lib.hid hal;have HAL0:=Lib.hid hal;have hg1:=h1.lt;have hg2:=h2.lt;have hg3:=h3.lt;have e2:=h2.cell 2;have b0:=h1.cell 0;have b1:=h1.cell 1;clear h1 h2 h3 hal htb hW7;go_quiet (fail);have HT:=Lib.hid (HT7.out.below (below_drewN (Below.refl _ _) nq));have hus:=tl_us HT.out;have hmz:=HMD.out _ HT.out.run.at'.bel;have c4:=hmz.cell 4;have hmzl:=hmz.lt;clear hmz;cases lazy
      all_goals
       try have HW6:=Lib.hid HT.out.nowait
       go_wp2_with (first
        |(go_at_call 22;(with_reducible refine(l_used HT.out.run.at').mono ?_);rintro e wu ⟨rfl,hwu⟩;subst wu)
        |(go_at_call 23;(with_reducible refine(l_size HT.out.run.at').mono ?_);rintro e wu ⟨rfl,hwu⟩;subst wu)
        |(go_at_call 20;(with_reducible refine(l_pending0 HT.out.run.at' HW6.out).mono ?_);rintro e wu ⟨rfl,hwu⟩;subst wu))
       exact⟨⟨k+1,K1.out,by go_num,_,_,_,HNX.out _ _ _ _ _ _ _ HT.out (by omega) (by omega)⟩,by simp[intOf];omega⟩
     ·have HRD:=Lib.hid (l_read_no HTO.out.run.at' nn (by rw[blocks_nat HTO.out.run.at'.good.geo,HBR.out];omega))
      have hneg:decide (nn<0)=false:=decide_eq_false (by omega);have hge:decide ((B:Int)≤nn)=true:=decide_eq_true hn1
      go_wp2_with (first
       |(go_at_call 14;(with_reducible refine HRD.out.mono ?_);rintro e w6 ⟨rfl,hb6⟩;have HT6:=Lib.hid (HTO.out.below hb6);have HOP6:=Lib.hid ((At.new wr #[.int .i64 1,.int .i64 mm,.int .i64 nn,.bool dd,.slice pa us.length pc,.slice qa ps.length qc,.slice ka ks.length kc] 41).below hb6 (by show wr.heap.size<(wr.alloc _).heap.size;rw[size_alloc];omega));clear hb6))
      have h1:At (w6.alloc (.cells #[.int .i64 0,.int .u16 3] 45)) w6.heap.size #[.int .i64 0,.int .u16 3] 45:=At.new _ _ _;have h2:=HOP6.out.alloc (.cells #[.int .i64 0,.int .u16 3] 45);have hal:Below w6.heap.size w6 (w6.alloc (.cells #[.int .i64 0,.int .u16 3] 45)):=(Below.refl _ _).alloc (Nat.le_refl _) _;have HT7:=Lib.hid (HT6.out.below hal);have h3:=HMD.out _ HT7.out.run.at'.bel;generalize hW7:w6.alloc (.cells #[.int .i64 0,.int .u16 3] 45)=W7 at*;obtain⟨tb,htb⟩:∃tb,tb=w6.heap.size:=⟨_,rfl⟩;rw[<-htb]at h1 ⊢;have HTB:=Lib.hid h1;have HAL:=Lib.hid hal;have HAL0:=Lib.hid hal;have hg1:=h1.lt;have hg2:=h2.lt;have hg3:=h3.lt;have HSS:Hid (∀X,Below W7.heap.size W7 X->X.cell? ⟨wr.heap.size,2,none⟩=some (.int .i64 nn)/\X.cell? ⟨w.heap.size,0,none⟩=some (.int .i64 M)/\X.cell? ⟨w.heap.size,1,none⟩=some (.int .i64 C)/\X.cell? ⟨w.heap.size,2,none⟩=some (.int .i64 S)):=fun X hX=>⟨(h2.below hX h2.lt).cell 2,(h3.below hX h3.lt).cell 0,(h3.below hX h3.lt).cell 1,(h3.below hX h3.lt).cell 2⟩
      clear h1 h2 h3 hal htb hW7;have HDR:Hid (Below W7.heap.size W7 W7.drew):=(Below.refl _ _).drew;go_region_held3 (fun X=>X.cell? ⟨wr.heap.size,2,none⟩=some (.int .i64 nn)/\X.cell? ⟨w.heap.size,0,none⟩=some (.int .i64 M)/\X.cell? ⟨w.heap.size,1,none⟩=some (.int .i64 C)/\X.cell? ⟨w.heap.size,2,none⟩=some (.int .i64 S))
       (first|with_reducible exact HSS.out _ (Below.refl _ _)|with_reducible exact HSS.out _ HDR.out|with_reducible exact HSS.out _ HB8.out)
       (first
        |(go_at_call 13;(with_reducible refine(HBK.out W7).mono ?_);rintro e w8 ⟨rfl,hb8⟩;have HB8:Hid (Below W7.heap.size W7 w8):=hb8;clear hb8)
        |(go_at_call 13;(with_reducible refine(HBK.out W7.drew).mono ?_);rintro e w8 ⟨rfl,hb8⟩;have HB8:Hid (Below W7.heap.size W7 w8):=HDR.out.trans hb8;clear hb8))
      obtain⟨e2,-,-,-⟩:=HSS.out _ HB8.out;have hs8:=HB8.out.size;have hg1:tb<w8.heap.size:=by omega
      have hg2:wr.heap.size<w8.heap.size:=by omega
      have ht8:=HTB.out.below HB8.out HTB.out.lt;have b0:=ht8.cell 0;have b1:=ht8.cell 1;have HT:=Lib.hid (HT7.out.below HB8.out);clear hs8 HSS HAL HDR ht8;have hus:=tl_us HT.out;have hmz:=HMD.out _ HT.out.run.at'.bel;have c4:=hmz.cell 4;have hmzl:=hmz.lt;clear hmz;cases lazy
      all_goals
       try have HW6:=Lib.hid HT.out.nowait
       go_wp2_with (first
        |(go_at_call 22;(with_reducible refine(l_used HT.out.run.at').mono ?_);rintro e wu ⟨rfl,hwu⟩;subst wu)
        |(go_at_call 23;(with_reducible refine(l_size HT.out.run.at').mono ?_);rintro e wu ⟨rfl,hwu⟩;subst wu)
        |(go_at_call 20;(with_reducible refine(l_pending0 HT.out.run.at' HW6.out).mono ?_);rintro e wu ⟨rfl,hwu⟩;subst wu))
       exact⟨⟨k+1,K1.out,by go_num,_,_,_,HNX.out _ _ _ _ _ _ _ HT.out (by omega) (by omega)⟩,by simp[intOf];omega⟩
     ·obtain⟨n,rfl⟩:=Int.eq_ofNat_of_zero_le hn0
      have hnB:n<B:=by omega
      have hneg:decide ((n:Int)<0)=false:=decide_eq_false (by omega);have hge:decide ((B:Int)≤(n:Int))=false:=decide_eq_false (by omega);have hlnA:=allOf_length HTO.out.run.at'.good;have HBL:Hid (R.blocks=B):=HBR.out;have hsegA:=HTO.out.row.seg;obtain⟨ag,ao,ac,rfl,-,-⟩:=hsegA.full (by rw[hlnA,HBL.out];omega);rw[hlnA,HBL.out]at*;have HRD:=Lib.hid (l_read HTO.out.run.at' HTO.out.run.bud HI6.out n (by rw[HBR.out];exact hnB));clear hlnA hsegA
      go_wp2_with (first
       |(go_at_call 14;((with_reducible refine HRD.out.mono ?_);rintro e w6 ⟨v6,c6,rfl,hc6,ho6,hl6,hch6⟩;obtain⟨x6,d6,rfl⟩:=ownsRow_shape ho6;have HT6:=Lib.hid (HTO.out.step hl6 (Stp.ofBay hch6) (HTO.out.run.bud.ticks c6) (Same.ticks R c6));have HOP6:=Lib.hid (HTO.out.run.at'.keep (Stp.ofBay hch6) (At.new wr #[.int .i64 1,.int .i64 mm,.int .i64 (n:Int),.bool dd,.slice pa us.length pc,.slice qa ps.length qc,.slice ka ks.length kc] 41) HTZ.out (by decide) (by decide) (by decide) (by decide)).1;have HSG6:=Lib.hid (seg_of_row ho6);have HC6:=Lib.hid hc6;clear ho6 hl6 hch6 hc6)))
      have h1:At (w6.alloc (.cells #[.int .i64 0,.int .u16 0] 45)) w6.heap.size #[.int .i64 0,.int .u16 0] 45:=At.new _ _ _;have h2:=HOP6.out.alloc (.cells #[.int .i64 0,.int .u16 0] 45);have hal:Below w6.heap.size w6 (w6.alloc (.cells #[.int .i64 0,.int .u16 0] 45)):=(Below.refl _ _).alloc (Nat.le_refl _) _;have HT7:=Lib.hid (HT6.out.below hal);have h3:=HMD.out _ HT7.out.run.at'.bel;generalize hW7:w6.alloc (.cells #[.int .i64 0,.int .u16 0] 45)=W7 at*;obtain⟨tb,htb⟩:∃tb,tb=w6.heap.size:=⟨_,rfl⟩;rw[<-htb]at h1 ⊢;have HTB:=Lib.hid h1;have HAL:=Lib.hid hal;have HAL0:=Lib.hid hal;have hg1:=h1.lt;have hg2:=h2.lt;have hg3:=h3.lt;have HSS:Hid (∀X,Below W7.heap.size W7 X->X.cell? ⟨wr.heap.size,2,none⟩=some (.int .i64 (n:Int))/\X.cell? ⟨w.heap.size,0,none⟩=some (.int .i64 M)/\X.cell? ⟨w.heap.size,1,none⟩=some (.int .i64 C)/\X.cell? ⟨w.heap.size,2,none⟩=some (.int .i64 S)):=fun X hX=>⟨(h2.below hX h2.lt).cell 2,(h3.below hX h3.lt).cell 0,(h3.below hX h3.lt).cell 1,(h3.below hX h3.lt).cell 2⟩
      clear h1 h2 h3 hal htb hW7;have HDR:Hid (Below W7.heap.size W7 W7.drew):=(Below.refl _ _).drew;go_region_held3 (fun X=>X.cell? ⟨wr.heap.size,2,none⟩=some (.int .i64 (n:Int))/\X.cell? ⟨w.heap.size,0,none⟩=some (.int .i64 M)/\X.cell? ⟨w.heap.size,1,none⟩=some (.int .i64 C)/\X.cell? ⟨w.heap.size,2,none⟩=some (.int .i64 S))
       (first|with_reducible exact HSS.out _ (Below.refl _ _)|with_reducible exact HSS.out _ HDR.out|with_reducible exact HSS.out _ HB8.out)
       (first
        |(go_at_call 13;(with_reducible refine(HBK.out W7).mono ?_);rintro e w8 ⟨rfl,hb8⟩;have HB8:Hid (Below W7.heap.size W7 w8):=hb8;clear hb8)
        |(go_at_call 13;(with_reducible refine(HBK.out W7.drew).mono ?_);rintro e w8 ⟨rfl,hb8⟩;have HB8:Hid (Below W7.heap.size W7 w8):=HDR.out.trans hb8;clear hb8))
      obtain⟨e2,-,-,-⟩:=HSS.out _ HB8.out;have hs8:=HB8.out.size;have hg1:tb<w8.heap.size:=by omega
      have hg2:wr.heap.size<w8.heap.size:=by omega
      have ht8:=HTB.out.below HB8.out HTB.out.lt;have b0:=ht8.cell 0;have b1:=ht8.cell 1;have HT:=Lib.hid (HT7.out.below HB8.out);clear hs8 HSS HAL HDR ht8;have HSG8:=Lib.hid ((HSG6.out.below HAL0.out).below HB8.out);have HSA8:Hid (Seg w8 (.slice (some ⟨ag,ao,none⟩) (128*B) ac) (flatD (blkOf M C V) B)):=by
       have h:Seg w8 (.slice (some ⟨ag,ao,none⟩) (128*B) ac) (flatD (blkOf R.M R.C V) (R.S*R.C*(R.M-1))):=HT.out.row.seg;rw[HBR.out,HTO.out.run.M,HTO.out.run.C]at h;exact h
      have HLN:Hid (∀k,k<B->(blkOf M C V k).length=128):=fun k hk=>by
       have h:=blk_len HTO.out.run.at'.good (k:=k) (by rw[HBR.out];exact hk);rw[HTO.out.run.M,HTO.out.run.C]at h;exact h
      have HSM:Hid (∀c,128≤c->Calls Tryz.prog 15 #[.slice x6 128 d6,.slice (some ⟨ag,ao+128*n,none⟩) 128 c] w8 fun e w'=>e=.returned (.bool true)/\Below w8.heap.size w8 w'):=fun c hc=>by
       have h:=HSG8.out;rw[HTO.out.run.M,HTO.out.run.C]at h;exact same_eq (by rw[HLN.out n hnB];omega) h (seg_mid HSA8.out hnB HLN.out c hc)
      have hc6:=HC6.out;have HACC:Hid (128*B≤ac):=by
       obtain⟨a',cap',hv',hcap,-⟩:=HSA8.out;simp only [Value.slice.injEq]at hv';have hl:=flatD_length (D:=blkOf M C V) (n:=B) (fun k hk=>HLN.out k hk);show _≤_
       omega
      have hacc:=HACC.out;have hmul:128*n+128≤128*B:=by omega
      cases lazy
      all_goals
       go_wp2_with (first
        |(go_at_call 15;go_loud ((with_reducible refine(HSM.out _ ?_).mono ?_);omega;rintro e w9 ⟨rfl,hb9⟩;have HT:=Lib.hid (HT.out.below hb9);(try have HW6:=Lib.hid HT.out.nowait);have hus:=tl_us HT.out;have hmz:=HMD.out _ HT.out.run.at'.bel;have c4:=hmz.cell 4;have hmzl:=hmz.lt;clear hmz;clear hb9))
        |(go_at_call 22;(with_reducible refine(l_used HT.out.run.at').mono ?_);rintro e wu ⟨rfl,hwu⟩;subst wu)
        |(go_at_call 23;(with_reducible refine(l_size HT.out.run.at').mono ?_);rintro e wu ⟨rfl,hwu⟩;subst wu)
        |(go_at_call 20;(with_reducible refine(l_pending0 HT.out.run.at' HW6.out).mono ?_);rintro e wu ⟨rfl,hwu⟩;subst wu))
       exact⟨⟨k+1,K1.out,by go_num,_,_,_,HNX.out _ _ _ _ _ _ _ HT.out (by omega) (by omega)⟩,by simp[intOf];omega⟩
   by_cases hk2:kd=2
   ·as_aux_lemma=>
     subst hk2;have HI6:Hid (Within sa sb):=HIN.out _ _ (by omega) (by omega);have HTZ:Hid (T wr.heap.size=0):=HTL.out.run.at'.virg _ (Nat.le_refl _);by_cases hwc:wcode M C S ring us=0
     ·have HW:=Lib.hid (tl_write_ok HTO.out HI6.out _ us HQ4.out hwc)
      have HGD:Hid (∀W,Below w2.heap.size w2 W->Calls Tryz.prog 17 #[.agg #[.int .i64 M,.int .i64 C,.int .i64 S,.int .i64 ring,.bool lazy,.int .i64 more],.slice pa us.length pc] W fun e w'=>e=.returned (.bool true)/\Below W.heap.size W w'):=fun W hW=>(r14_good M C S ring lazy more _ us W (HQ4.out.below hW) HGE.out HRG.out HR6.out).mono fun e w' h=>by rw[decide_eq_true hwc]at h;exact h
      have HBT:=Lib.hid (wcode_batch hwc);clear hwc
      go_wp2_with (first
       |(go_at_call 16;(with_reducible refine HW.out.mono ?_);rintro e w6 ⟨rfl,T6,R6,V6,hrn6,hst6,hbr6,hln6,hbk6⟩;have HRN6:=Lib.hid hrn6;have HBR6:=Lib.hid hbr6;have HLN6:=Lib.hid hln6;have HBK6:=Lib.hid hbk6;clear hbr6 hln6 hbk6;have HOP6:=Lib.hid (HTO.out.run.at'.keep hst6 (At.new wr #[.int .i64 2,.int .i64 mm,.int .i64 nn,.bool dd,.slice pa us.length pc,.slice qa ps.length qc,.slice ka ks.length kc] 41) HTZ.out (by decide) (by decide) (by decide) (by decide)).1;have HBE6:=Lib.hid hrn6.at'.bel;clear hrn6 hst6))
      have h1:At (w6.alloc (.cells #[.int .i64 0,.int .u16 0] 45)) w6.heap.size #[.int .i64 0,.int .u16 0] 45:=At.new _ _ _;have h2:=HOP6.out.alloc (.cells #[.int .i64 0,.int .u16 0] 45);have hal:Below w6.heap.size w6 (w6.alloc (.cells #[.int .i64 0,.int .u16 0] 45)):=(Below.refl _ _).alloc (Nat.le_refl _) _;have hbe7:=HBE6.out.trans (hal.mono HBE6.out.size);have h3:=HMD.out _ hbe7;generalize hW7:w6.alloc (.cells #[.int .i64 0,.int .u16 0] 45)=W7 at*;obtain⟨tb,htb⟩:∃tb,tb=w6.heap.size:=⟨_,rfl⟩;rw[<-htb]at h1 ⊢;have HAL:=Lib.hid hal;have HBE7:=Lib.hid hbe7;have HBE7d:=Lib.hid hbe7.drew;have hg1:=h1.lt;have hg2:=h2.lt;have hg3:=h3.lt;have HSS:Hid (∀X,Below W7.heap.size W7 X->X.cell? ⟨tb,0,none⟩=some (.int .i64 0)/\X.cell? ⟨tb,1,none⟩=some (.int .u16 0)/\X.cell? ⟨wr.heap.size,4,none⟩=some (.slice pa us.length pc)/\X.cell? ⟨w.heap.size,0,none⟩=some (.int .i64 M)/\X.cell? ⟨w.heap.size,1,none⟩=some (.int .i64 C)/\X.cell? ⟨w.heap.size,2,none⟩=some (.int .i64 S)/\X.cell? ⟨w.heap.size,3,none⟩=some (.int .i64 ring)/\X.cell? ⟨w.heap.size,4,none⟩=some (.bool lazy)/\X.cell? ⟨w.heap.size,5,none⟩=some (.int .i64 more)):=fun X hX=>⟨(h1.below hX h1.lt).cell 0,(h1.below hX h1.lt).cell 1,(h2.below hX h2.lt).cell 4,(h3.below hX h3.lt).cell 0,(h3.below hX h3.lt).cell 1,(h3.below hX h3.lt).cell 2,(h3.below hX h3.lt).cell 3,(h3.below hX h3.lt).cell 4,(h3.below hX h3.lt).cell 5⟩
      have HDR:Hid (Below W7.heap.size W7 W7.drew):=(Below.refl _ _).drew;clear h1 h2 h3 hal hbe7 htb hW7;go_region_held3 (fun X=>X.cell? ⟨tb,0,none⟩=some (.int .i64 0)/\X.cell? ⟨tb,1,none⟩=some (.int .u16 0)/\X.cell? ⟨wr.heap.size,4,none⟩=some (.slice pa us.length pc)/\X.cell? ⟨w.heap.size,0,none⟩=some (.int .i64 M)/\X.cell? ⟨w.heap.size,1,none⟩=some (.int .i64 C)/\X.cell? ⟨w.heap.size,2,none⟩=some (.int .i64 S)/\X.cell? ⟨w.heap.size,3,none⟩=some (.int .i64 ring)/\X.cell? ⟨w.heap.size,4,none⟩=some (.bool lazy)/\X.cell? ⟨w.heap.size,5,none⟩=some (.int .i64 more))
       (first|with_reducible exact HSS.out _ (Below.refl _ _)|with_reducible exact HSS.out _ HDR.out|with_reducible exact HSS.out _ HB8.out)
       (first
        |(go_at_call 17;(with_reducible refine(HGD.out W7 HBE7.out).mono ?_);rintro e w8 ⟨rfl,hb8⟩;have HB8:Hid (Below W7.heap.size W7 w8):=hb8;clear hb8)
        |(go_at_call 17;(with_reducible refine(HGD.out W7.drew HBE7d.out).mono ?_);rintro e w8 ⟨rfl,hb8⟩;have HB8:Hid (Below W7.heap.size W7 w8):=HDR.out.trans hb8;clear hb8))
      obtain⟨e0,e1,e2,-,-,-,-,e7,-⟩:=HSS.out _ HB8.out;have hs8:=HB8.out.size;have hg1:tb<w8.heap.size:=by omega
      have hg2:wr.heap.size<w8.heap.size:=by omega
      have hg3:w.heap.size<w8.heap.size:=by omega
      have hb68:=HAL.out.trans (HB8.out.mono HAL.out.size);have HRN8:=Lib.hid (HRN6.out.below hb68);have HLD:=Lib.hid (r14_laid M C S _ _ (blkOf M C V) us w8 HGE.out HBT.out (HQ4.out.below HRN8.out.at'.bel) HLN6.out (HBR6.out.below hb68).seg);have HLT:Hid (∀w9 al,Below w8.heap.size w8 w9->w9.ownsRow w8.heap.size 5 1 al (128*(S*C*(M-1))) (ucells (flatD (layK (blkOf M C V) us us.length) (S*C*(M-1))))->TlAt w2 w9 T6 A R6 V6 M C S ring lazy (sa+1000000) (sb+8*us.length+4) al):=fun w9 al hb ho=>TlAt.laid HRN8.out (Nat.le_refl _) hb ho HBK6.out
      clear hb68 hs8 HSS HAL HBE7 HBE7d HDR;cases lazy
      all_goals
       go_wp2_with (first
        |(go_at_call 18;(with_reducible refine HLD.out.mono ?_);rintro e w9 ⟨x9,n9,c9,rfl,ho9,hb9⟩;have HT:=Lib.hid (HLT.out _ _ hb9 ho9);(try have HW6:=Lib.hid HT.out.nowait);have hus:=tl_us HT.out;have hmz:=HMD.out _ HT.out.run.at'.bel;have c4:=hmz.cell 4;have hmzl:=hmz.lt;clear hmz;clear ho9 hb9)
        |(go_at_call 22;(with_reducible refine(l_used HT.out.run.at').mono ?_);rintro e wu ⟨rfl,hwu⟩;subst wu)
        |(go_at_call 23;(with_reducible refine(l_size HT.out.run.at').mono ?_);rintro e wu ⟨rfl,hwu⟩;subst wu)
        |(go_at_call 20;(with_reducible refine(l_pending0 HT.out.run.at' HW6.out).mono ?_);rintro e wu ⟨rfl,hwu⟩;subst wu))
       exact⟨⟨k+1,K1.out,by go_num,_,_,_,HNX.out _ _ _ _ _ _ _ HT.out (by omega) (by omega)⟩,by simp[intOf];omega⟩
     ·have HW:=Lib.hid (tl_write_no HTO.out HI6.out _ us HQ4.out hwc)
      have HGD:Hid (∀W,Below w2.heap.size w2 W->Calls Tryz.prog 17 #[.agg #[.int .i64 M,.int .i64 C,.int .i64 S,.int .i64 ring,.bool lazy,.int .i64 more],.slice pa us.length pc] W fun e w'=>e=.returned (.bool false)/\Below W.heap.size W w'):=fun W hW=>(r14_good M C S ring lazy more _ us W (HQ4.out.below hW) HGE.out HRG.out HR6.out).mono fun e w' h=>by rw[decide_eq_false hwc]at h;exact h
      generalize wcode M C S ring us=wc at*;have hwz:((wc:Int)==0)=false:=beq_eq_false_iff_ne.2 (by omega);clear hwc
      go_wp2_with (first
       |(go_at_call 16;(with_reducible refine HW.out.mono ?_);rintro e w6 ⟨rfl,T6,R6,V6,htl6,hst6⟩;have hrn6:=htl6.run;have HTN6:=Lib.hid htl6;clear htl6;have HOP6:=Lib.hid (HTO.out.run.at'.keep hst6 (At.new wr #[.int .i64 2,.int .i64 mm,.int .i64 nn,.bool dd,.slice pa us.length pc,.slice qa ps.length qc,.slice ka ks.length kc] 41) HTZ.out (by decide) (by decide) (by decide) (by decide)).1;have HBE6:=Lib.hid hrn6.at'.bel;clear hrn6 hst6))
      have h1:At (w6.alloc (.cells #[.int .i64 0,.int .u16 (wc:Nat)] 45)) w6.heap.size #[.int .i64 0,.int .u16 (wc:Nat)] 45:=At.new _ _ _;have h2:=HOP6.out.alloc (.cells #[.int .i64 0,.int .u16 (wc:Nat)] 45);have hal:Below w6.heap.size w6 (w6.alloc (.cells #[.int .i64 0,.int .u16 (wc:Nat)] 45)):=(Below.refl _ _).alloc (Nat.le_refl _) _;have hbe7:=HBE6.out.trans (hal.mono HBE6.out.size);have h3:=HMD.out _ hbe7;generalize hW7:w6.alloc (.cells #[.int .i64 0,.int .u16 (wc:Nat)] 45)=W7 at*;obtain⟨tb,htb⟩:∃tb,tb=w6.heap.size:=⟨_,rfl⟩;rw[<-htb]at h1 ⊢;have HAL:=Lib.hid hal;have HBE7:=Lib.hid hbe7;have HBE7d:=Lib.hid hbe7.drew;have hg1:=h1.lt;have hg2:=h2.lt;have hg3:=h3.lt;have HSS:Hid (∀X,Below W7.heap.size W7 X->X.cell? ⟨tb,0,none⟩=some (.int .i64 0)/\X.cell? ⟨tb,1,none⟩=some (.int .u16 (wc:Nat))/\X.cell? ⟨wr.heap.size,4,none⟩=some (.slice pa us.length pc)/\X.cell? ⟨w.heap.size,0,none⟩=some (.int .i64 M)/\X.cell? ⟨w.heap.size,1,none⟩=some (.int .i64 C)/\X.cell? ⟨w.heap.size,2,none⟩=some (.int .i64 S)/\X.cell? ⟨w.heap.size,3,none⟩=some (.int .i64 ring)/\X.cell? ⟨w.heap.size,4,none⟩=some (.bool lazy)/\X.cell? ⟨w.heap.size,5,none⟩=some (.int .i64 more)):=fun X hX=>⟨(h1.below hX h1.lt).cell 0,(h1.below hX h1.lt).cell 1,(h2.below hX h2.lt).cell 4,(h3.below hX h3.lt).cell 0,(h3.below hX h3.lt).cell 1,(h3.below hX h3.lt).cell 2,(h3.below hX h3.lt).cell 3,(h3.below hX h3.lt).cell 4,(h3.below hX h3.lt).cell 5⟩
      have HDR:Hid (Below W7.heap.size W7 W7.drew):=(Below.refl _ _).drew;clear h1 h2 h3 hal hbe7 htb hW7;go_region_held3 (fun X=>X.cell? ⟨tb,0,none⟩=some (.int .i64 0)/\X.cell? ⟨tb,1,none⟩=some (.int .u16 (wc:Nat))/\X.cell? ⟨wr.heap.size,4,none⟩=some (.slice pa us.length pc)/\X.cell? ⟨w.heap.size,0,none⟩=some (.int .i64 M)/\X.cell? ⟨w.heap.size,1,none⟩=some (.int .i64 C)/\X.cell? ⟨w.heap.size,2,none⟩=some (.int .i64 S)/\X.cell? ⟨w.heap.size,3,none⟩=some (.int .i64 ring)/\X.cell? ⟨w.heap.size,4,none⟩=some (.bool lazy)/\X.cell? ⟨w.heap.size,5,none⟩=some (.int .i64 more))
       (first|with_reducible exact HSS.out _ (Below.refl _ _)|with_reducible exact HSS.out _ HDR.out|with_reducible exact HSS.out _ HB8.out)
       (first
        |(go_at_call 17;(with_reducible refine(HGD.out W7 HBE7.out).mono ?_);rintro e w8 ⟨rfl,hb8⟩;have HB8:Hid (Below W7.heap.size W7 w8):=hb8;clear hb8)
        |(go_at_call 17;(with_reducible refine(HGD.out W7.drew HBE7d.out).mono ?_);rintro e w8 ⟨rfl,hb8⟩;have HB8:Hid (Below W7.heap.size W7 w8):=HDR.out.trans hb8;clear hb8))
      obtain⟨e0,e1,e2,-,-,-,-,e7,-⟩:=HSS.out _ HB8.out;have hs8:=HB8.out.size;have hg1:tb<w8.heap.size:=by omega
      have HT:=Lib.hid (HTN6.out.below (HAL.out.trans (HB8.out.mono HAL.out.size)));clear hs8 HSS HAL HBE7 HBE7d HDR;have hus:=tl_us HT.out;have hmz:=HMD.out _ HT.out.run.at'.bel;have c4:=hmz.cell 4;have hmzl:=hmz.lt;clear hmz;cases lazy
      all_goals
       try have HW6:=Lib.hid HT.out.nowait
       go_wp2_with (first
        |(go_at_call 22;(with_reducible refine(l_used HT.out.run.at').mono ?_);rintro e wu ⟨rfl,hwu⟩;subst wu)
        |(go_at_call 23;(with_reducible refine(l_size HT.out.run.at').mono ?_);rintro e wu ⟨rfl,hwu⟩;subst wu)
        |(go_at_call 20;(with_reducible refine(l_pending0 HT.out.run.at' HW6.out).mono ?_);rintro e wu ⟨rfl,hwu⟩;subst wu))
       exact⟨⟨k+1,K1.out,by go_num,_,_,_,HNX.out _ _ _ _ _ _ _ HT.out (by omega) (by omega)⟩,by simp[intOf];omega⟩
   by_cases hk3:kd=3
   ·as_aux_lemma=>
     subst hk3;have HI6:Hid (Within sa sb):=HIN.out _ _ (by omega) (by omega);cases lazy
     all_goals
      go_wp2_with (first
       |(go_at_call 19;(with_reducible refine(l_settle HTO.out.run.at' HTO.out.run.bud HI6.out).mono ?_);rintro e w6 ⟨rfl,T6,R6,hl6,hs6,hb6,hsm6,hw6,-,-⟩;have HT:=Lib.hid (HTO.out.step hl6 hs6 hb6 hsm6);have HW6:=Lib.hid hw6;have hus:=tl_us HT.out;have hmz:=HMD.out _ HT.out.run.at'.bel;have c4:=hmz.cell 4;have hmzl:=hmz.lt;clear hmz;clear hl6 hs6 hb6 hsm6 hw6)
       |(go_at_call 22;(with_reducible refine(l_used HT.out.run.at').mono ?_);rintro e wu ⟨rfl,hwu⟩;subst wu)
       |(go_at_call 23;(with_reducible refine(l_size HT.out.run.at').mono ?_);rintro e wu ⟨rfl,hwu⟩;subst wu)
       |(go_at_call 20;(with_reducible refine(l_pending0 HT.out.run.at' HW6.out).mono ?_);rintro e wu ⟨rfl,hwu⟩;subst wu))
      exact⟨⟨k+1,K1.out,by go_num,_,_,_,HNX.out _ _ _ _ _ _ _ HT.out (by omega) (by omega)⟩,by simp[intOf];omega⟩
   by_cases hk8:kd=8
   ·as_aux_lemma=>
     subst hk8;have HI6:Hid (Within sa sb):=HIN.out _ _ (by omega) (by omega);cases lazy
     all_goals
      go_wp2_with (first
       |(go_at_call 21;(with_reducible refine(l_empty HTO.out.run.at' HTO.out.run.bud HI6.out).mono ?_);rintro e w6 ⟨rfl,T6,R6,hl6,hs6,hb6,hsm6,hw6,hu6,-⟩;have HT:=Lib.hid (HTO.out.step hl6 hs6 hb6 hsm6);have HW6:=Lib.hid hw6;have HU6:=Lib.hid hu6;have hus:=tl_us HT.out;have hmz:=HMD.out _ HT.out.run.at'.bel;have c4:=hmz.cell 4;have hmzl:=hmz.lt;clear hmz;clear hl6 hs6 hb6 hsm6 hw6 hu6)
       |(go_at_call 22;(with_reducible refine(l_used0 HT.out.run.at' HU6.out).mono ?_);rintro e wu ⟨rfl,hwu⟩;subst wu)
       |(go_at_call 23;(with_reducible refine(l_size HT.out.run.at').mono ?_);rintro e wu ⟨rfl,hwu⟩;subst wu)
       |(go_at_call 20;(with_reducible refine(l_pending0 HT.out.run.at' HW6.out).mono ?_);rintro e wu ⟨rfl,hwu⟩;subst wu))
      exact⟨⟨k+1,K1.out,by go_num,_,_,_,HNX.out _ _ _ _ _ _ _ HT.out (by omega) (by omega)⟩,by simp[intOf];omega⟩
   ·as_aux_lemma=>
     have hd1:(kd==1)=false:=beq_eq_false_iff_ne.2 hk1;have hd2:(kd==2)=false:=beq_eq_false_iff_ne.2 hk2;have hd3:(kd==3)=false:=beq_eq_false_iff_ne.2 hk3;have hd8:(kd==8)=false:=beq_eq_false_iff_ne.2 hk8;have HT:=HTO;have hus:=tl_us HT.out;have hmz:=HMD.out _ HT.out.run.at'.bel;have c4:=hmz.cell 4;have hmzl:=hmz.lt;clear hmz;cases lazy
     all_goals
      try have HW6:=Lib.hid HT.out.nowait
      go_wp2_with (first
       |(go_at_call 22;(with_reducible refine(l_used HT.out.run.at').mono ?_);rintro e wu ⟨rfl,hwu⟩;subst wu)
       |(go_at_call 23;(with_reducible refine(l_size HT.out.run.at').mono ?_);rintro e wu ⟨rfl,hwu⟩;subst wu)
       |(go_at_call 20;(with_reducible refine(l_pending0 HT.out.run.at' HW6.out).mono ?_);rintro e wu ⟨rfl,hwu⟩;subst wu))
      exact⟨⟨k+1,K1.out,by go_num,_,_,_,HNX.out _ _ _ _ _ _ _ HT.out (by omega) (by omega)⟩,by simp[intOf];omega⟩
  ·obtain rfl:k=l.length:=by omega
   have hsp:=spent_in HFW.out (Nat.le_refl l.length);have HI5:Hid (Within (spentA l.length+2000000) (spentB l l.length)):=⟨by have:=hsp.a;omega,by have:=hsp.b;omega⟩;have HPM:Hid ((M:Int)=((R.M:Nat):Int)/\(C:Int)=((R.C:Nat):Int)/\(S:Int)=((R.S:Nat):Int)):=⟨by rw[HTL.out.run.M],by rw[HTL.out.run.C],by rw[HTL.out.run.S]⟩;have HFEW:Hid ((allOf R V).length≤9223372036854775807):=Nat.le_trans (allOf_few HTL.out.run.at'.good) (by omega);have hmd:=HMD.out wr HTL.out.run.at'.bel;have c0:=hmd.cell 0;have c1:=hmd.cell 1;have c2:=hmd.cell 2;have hmdl:=hmd.lt;clear hmd hsp
   go_wp2_with (first
    |(go_at_call 24;(with_reducible refine(l_reads HTL.out.run.at' HTL.out.run.bud HI5.out HPM.out.1 HPM.out.2.1 HPM.out.2.2).mono ?_);rintro e w5 ⟨x5,n5,c5,R5,rfl,hv5,hl5,hs5,-,-,-,-,-⟩;have HL5:=Lib.hid hl5;have HU5:=Lib.hid (HTL.out.run.at'.bytes hs5 HTL.out.row).seg;have HV5:=Lib.hid hv5.seg;clear hv5 hl5 hs5)
    |(go_at_call 15;(with_reducible refine(same_eq HFEW.out HV5.out HU5.out).mono ?_);rintro e w6 ⟨rfl,hb6⟩;have HL6:=Lib.hid (HL5.out.below hb6);clear hb6))
   go_ret;exact⟨rfl,HBE.out _ HL6.out.bel⟩
open Go.RowKit Go.ChangeShapes Go.WideShapes Go.ChangeAt Go.Deep
theorem rowsTells_walk {H:Type} (w:World) (enc:TypeId×Value->H) (base:Nat) (v:Value) (d:DataW H) (ps:List MemPlace) (hok:Value.okWide Tryz.prog w .any base 25 v) (h:DataW.Trod enc Tryz.prog w 0 (fun _=>true) true 25 v d ps)
  (a:Int) (_:(Lit.int .i64 a).wf=true)
  (enc':TypeId×Value->H) (base':Nat) (v':Value) (d':DataW H) (ps':List MemPlace) (hok':Value.okWide Tryz.prog w .any base' 26 v') (h':DataW.Trod enc' Tryz.prog w 0 (fun _=>true) true 26 v' d' ps') (hw':∀n∈d'.weights Tryz.prog 26,n≤reachBytes):
  Calls Tryz.prog 3 #[v,.int .i64 a,v'] w fun e w'=>e=.returned (.bool true)/\Below w.heap.size w w':=by
 obtain⟨m,c,s,ring,lazy,more,rfl⟩:=made_of_trod hok h;obtain⟨l,hv⟩:=rops_of_trod hok' h' hw';cases hm:mayIs m c s ring
 ·exact RowsTells_no m c s ring lazy more a v' l w hv hm
 ·obtain⟨M,C,S,r,rfl,rfl,rfl,rfl,hg,h5,h6⟩:=may_nat hm
  exact RowsTells_go M C S r lazy more a v' l w hv hg h5 h6
end Go.Proofs.YtebmephdnjccjaaGreat
