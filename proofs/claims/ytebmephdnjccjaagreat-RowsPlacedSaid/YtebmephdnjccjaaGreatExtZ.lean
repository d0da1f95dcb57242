/- Several texts in one: RlX, RlY, MaxW, RlZ, RlZe. -/
import Derived.Test.YtebmephdnjccjaaGreatExtY
import Derived.Test.YtebmephdnjccjaaGreatMrg1
import Derived.Test.YtebmephdnjccjaaGreatRows
import Derived.WalkSpells
import Derived.WalkLawsBesides
import Derived.BigFrame
import Derived.OwnWalk
import Derived.Deep.CutBlock
set_option linter.unusedVariables false
set_option maxRecDepth 100000
set_option maxHeartbeats 32000000
namespace Go.Proofs.YtebmephdnjccjaaGreat
open Go.RowKit
structure InRow (M N:Nat) (p:Pat):Prop where
 m0:0≤p.m
 m1:p.m<M
 r0:0≤p.r
 r1:p.r<N
theorem lift_put_len {w:World} (lp:Nat) (x y:Int) (hx:0≤x/\x≤15) (hy:0≤y/\y≤4095) (a:Option Addr) (n c:Nat) (hn:n≠128):
  Calls Tryz.prog 72 #[.pointer (some ⟨lp,0,none⟩),.agg #[.int .i64 x,.int .i64 y,.slice a n c]] w fun e w'=>e=.returned (.int .u16 4)/\Below w.heap.size w w':=by
 have hb:=(Below.refl w.heap.size w).alloc (Nat.le_refl _) (.cells #[.int .i64 x,.int .i64 y,.slice a n c] 76);have ha:At (w.alloc (.cells #[.int .i64 x,.int .i64 y,.slice a n c] 76)) w.heap.size #[.int .i64 x,.int .i64 y,.slice a n c] 76:=At.new _ _ _;have c0:=ha.cell 0;have c1:=ha.cell 1;have c2:=ha.cell 2;have hal:=ha.lt;have HB:=Lib.hid hb;clear ha hb;obtain⟨hx0,hx1⟩:=hx;obtain⟨hy0,hy1⟩:=hy;go_enter Tryz.func72,Tryz.ntmps72;go_wp2;go_ret;exact⟨rfl,HB.out⟩
theorem rows_place_range {w:World} {T:Nat->Nat} {A:Adr} {R:RS} {lg:Option Nat} {vw:Value} {X:List OP} (h:RwIn w T A R lg vw X) (hg:geoIs R.M R.C R.S=true) (v:Value) (ps:List Pat) (hv:PSeg w v ps) (i:Nat) (hi:i<ps.length) (hp:∀j (hj:j<i),InRow R.M (R.S*R.C) (ps[j]'(Nat.lt_trans hj hi))) (hbad:¬InRow R.M (R.S*R.C) ps[i]) (hfew:ps.length≤80000):
  Calls Tryz.prog 33 #[.pointer (some ⟨A.q,0,none⟩),v] w fun e w'=>e=.returned (.agg #[.int .i64 0,.int .u16 3])/\Below w.heap.size w w':=by
 obtain⟨va,vc,rfl⟩:=hv.shape;have hb0:Below w.heap.size w (w.alloc (.cells #[.int .i64 0,.int .u16 0] 45)):=(Below.refl _ _).alloc (Nat.le_refl _) _;have HV:=Lib.hid hv;have HP:=Lib.hid hp;have HBD:=Lib.hid hbad;have H:=Lib.hid h;have HBW:=Lib.hid hb0
 have HGR:Hid (∀W,Calls Tryz.prog 70 #[.agg #[.int .i64 R.M,.int .i64 R.C,.int .i64 R.S]] W fun e w'=>e=.returned (.int .i64 (R.S*R.C:Nat))/\Below W.heap.size W w'):=fun W=>(geom_rows R.M R.C R.S W).mono (by
  rintro e w' ⟨rfl,hb'⟩
  exact⟨by rw[geo_rows hg],hb'⟩)
 have HTR:Hid (∀W,Calls Tryz.prog 51 #[.int .i64 0,.int .u16 3] W fun e w'=>e=.returned (.agg #[.int .i64 0,.int .u16 3])/\Below W.heap.size W w'):=fun W=>trouble_err 0 3 W (by decide)
 have HI:=Lib.hid hi;clear h hb0 hv hp hg hbad;go_enter Tryz.func33,Tryz.ntmps33;go_wp2;go_loopw [17] (fun q wr=>∃k:Nat,k≤i/\q=.int .i64 k/\Below (w.alloc (.cells #[.int .i64 0,.int .u16 0] 45)).heap.size (w.alloc (.cells #[.int .i64 0,.int .u16 0] 45)) wr) (fun q _=>ps.length-(intOf q).toNat);case atStart=>exact⟨0,by omega,rfl,Below.refl _ _⟩
 case round=>
  obtain⟨k,hk,rfl,hbw⟩:=hrel;have HBR:=Lib.hid hbw;have HBA:Hid (Below w.heap.size w wr):=HBW.out.trans (hbw.mono HBW.out.size);clear hbw;have hkn:k<ps.length:=by omega
  obtain⟨b,o,rfl,hlt,hx⟩:=PSeg.full (HV.out.below HBA.out) (by omega);obtain⟨d0,d1,u,d2,hu⟩:=hx k hkn;obtain⟨ua,uc,rfl⟩:=hu.shape;have K1:Hid (k+1≤ps.length):=hkn;have HB1:Hid (Below w.heap.size w (wr.alloc (.cells #[.int .i64 ps[k].m,.int .i64 ps[k].r,.slice ua ps[k].d.length uc] 76))):=HBA.out.alloc HBA.out.size _;have HB2:Hid (Below (w.alloc (.cells #[.int .i64 0,.int .u16 0] 45)).heap.size (w.alloc (.cells #[.int .i64 0,.int .u16 0] 45)) (wr.alloc (.cells #[.int .i64 ps[k].m,.int .i64 ps[k].r,.slice ua ps[k].d.length uc] 76))):=HBR.out.alloc HBR.out.size _;have HBX:Hid (At (wr.alloc (.cells #[.int .i64 ps[k].m,.int .i64 ps[k].r,.slice ua ps[k].d.length uc] 76)) wr.heap.size #[.int .i64 ps[k].m,.int .i64 ps[k].r,.slice ua ps[k].d.length uc] 76):=At.new _ _ _;have hsz1:(wr.alloc (.cells #[.int .i64 ps[k].m,.int .i64 ps[k].r,.slice ua ps[k].d.length uc] 76)).heap.size=wr.heap.size+1:=size_alloc _ _;have hsz2:=HBA.out.size;have hRH:=(H.out.below HB1.out);have hways:(k<i/\InRow R.M (R.S*R.C) ps[k])\/(k=i/\¬InRow R.M (R.S*R.C) ps[k]):=by
   by_cases e:k=i
   ·subst e;exact .inr ⟨rfl,HBD.out⟩
   ·exact .inl ⟨by omega,HP.out k (by omega)⟩
  clear hx hu;generalize ps[k].d.length=nd at*;generalize hxx:ps[k].m=x at*;generalize hyy:ps[k].r=y at*;have hway2:(k<i/\0≤x/\x<R.M/\0≤y/\y<((R.S*R.C:Nat):Int))\/(k=i/\(x<0\/(R.M:Int)≤x))\/(k=i/\(0≤x/\x<R.M)/\y<0)\/(k=i/\(0≤x/\x<R.M)/\0≤y/\((R.S*R.C:Nat):Int)≤y):=by
   rcases hways with ⟨e,h1,h2,h3,h4⟩|⟨e,h⟩
   ·exact .inl ⟨e,by omega,by omega,by omega,by omega⟩
   ·right
    by_cases q1:x<0\/(R.M:Int)≤x
    ·exact .inl ⟨e,q1⟩
    ·right
     by_cases q2:y<0
     ·exact .inl ⟨e,by omega,q2⟩
     ·refine .inr ⟨e,by omega,by omega,?_⟩
      by_cases q3:((R.S*R.C:Nat):Int)≤y
      ·exact q3
      ·exact absurd ⟨by omega,by omega,by omega,by omega⟩ h
  clear hways hxx hyy;have HSX:Hid (∀W,Below (wr.alloc (.cells #[.int .i64 x,.int .i64 y,.slice ua nd uc] 76)).heap.size (wr.alloc (.cells #[.int .i64 x,.int .i64 y,.slice ua nd uc] 76)) W->W.cell? ⟨wr.heap.size,0,none⟩=some (.int .i64 x)/\W.cell? ⟨wr.heap.size,1,none⟩=some (.int .i64 y)/\W.cell? ⟨A.q,1,none⟩=some (.int .i64 R.M)/\W.cell? ⟨A.q,2,none⟩=some (.int .i64 R.C)/\W.cell? ⟨A.q,3,none⟩=some (.int .i64 R.S)):=fun W hb=>⟨(HBX.out.below hb HBX.out.lt).cell 0,(HBX.out.below hb HBX.out.lt).cell 1,(hRH.below hb).rw.cell 1,(hRH.below hb).rw.cell 2,(hRH.below hb).rw.cell 3⟩
  have HIS:Hid (∀W,Below (wr.alloc (.cells #[.int .i64 x,.int .i64 y,.slice ua nd uc] 76)).heap.size (wr.alloc (.cells #[.int .i64 x,.int .i64 y,.slice ua nd uc] 76)) W->Calls Tryz.prog 69 #[.pointer (some ⟨A.q,0,none⟩),.int .i64 x] W fun e w'=>e=.returned (.bool (decide (0≤x)&&decide (x<(R.M:Int))))/\w'=W):=fun W hb=>rows_is x W (hRH.below hb).rw
  have HTBX:Hid (At (w.alloc (.cells #[.int .i64 0,.int .u16 0] 45)) w.heap.size #[.int .i64 0,.int .u16 0] 45):=At.new _ _ _;clear hRH;generalize R.M=M at*;generalize R.C=C at*;generalize R.S=S at*;generalize hSC:S*C=N at*;rcases hway2 with ⟨e,q1,q2,q3,q4⟩|⟨-,q1⟩|⟨-,q1,q2⟩|⟨-,q1,q2,q3⟩
  ·as_aux_lemma=>
    have KI:=Lib.hid e;clear e;have hi1:(decide ((0:Int)≤x)&&decide (x<(M:Int)))=true:=by simp;omega
    rw[hi1]at HIS;have hy1:decide (y<0)=false:=by simp;omega
    have hy2:decide ((N:Int)≤y)=false:=by simp;omega
    have hy3:¬(N:Int)≤y:=by omega
    have hy4:¬y<0:=by omega
    clear hi1;go_wp2;go_region_held3 (fun W=>W.cell? ⟨wr.heap.size,0,none⟩=some (.int .i64 x)/\W.cell? ⟨wr.heap.size,1,none⟩=some (.int .i64 y)/\W.cell? ⟨A.q,1,none⟩=some (.int .i64 M)/\W.cell? ⟨A.q,2,none⟩=some (.int .i64 C)/\W.cell? ⟨A.q,3,none⟩=some (.int .i64 S))
     (first|exact HSX.out _ (Below.refl _ _)|exact HSX.out _ (Below.refl _ _).drew|exact HSX.out _ HBG.out)
     (first
      |(go_at_call 69;(with_reducible refine(HIS.out _ ?_).mono ?_);(first|exact(Below.refl _ _).drew|exact Below.refl _ _|exact below_drewN (Below.refl _ _) _|exact HBG.out);rintro e w1 ⟨rfl,hw1⟩;subst hw1)
      |(go_at_call 70;(with_reducible refine(HGR.out _).mono ?_);rintro e w2 ⟨rfl,hb2⟩;have HBG:Hid (Below (wr.alloc (.cells #[.int .i64 x,.int .i64 y,.slice ua nd uc] 76)).heap.size (wr.alloc (.cells #[.int .i64 x,.int .i64 y,.slice ua nd uc] 76)) w2):=(Below.refl _ _).drew.trans hb2;clear hb2))
    go_wp2;exact⟨⟨k+1,KI.out,by go_num,HB2.out.trans (HBG.out.mono HB2.out.size)⟩,by simp[intOf];omega⟩
  ·as_aux_lemma=>
    have hi1:(decide ((0:Int)≤x)&&decide (x<(M:Int)))=false:=by
     rcases q1 with q1|q1
     ·simp;omega
     ·simp;omega
    rw[hi1]at HIS;obtain⟨y0,y1,-,-,-⟩:=HSX.out _ (Below.refl _ _);have HISq:Hid (∀n,Calls Tryz.prog 69 #[.pointer (some ⟨A.q,0,none⟩),.int .i64 x] ((wr.alloc (.cells #[.int .i64 x,.int .i64 y,.slice ua nd uc] 76)).drewN n) fun e W'=>e=.returned (.bool false)/\∃m,W'=(wr.alloc (.cells #[.int .i64 x,.int .i64 y,.slice ua nd uc] 76)).drewN m):=fun n=>(HIS.out _ (below_drewN (Below.refl _ _) _)).mono fun e W' ⟨h1,h2⟩=>⟨h1,n,h2⟩
    clear hi1;go_wp2;go_quiet ((go_at_call 69;exact HISq.out _));have htq:=HTBX.out.below (HB2.out.trans ((below_drewN (Below.refl _ _) nq).mono HB2.out.size)) HTBX.out.lt;have HBQ:Hid (Below w.heap.size w ((wr.alloc (.cells #[.int .i64 x,.int .i64 y,.slice ua nd uc] 76)).drewN nq)):=HB1.out.trans ((below_drewN (Below.refl _ _) nq).mono HB1.out.size);have HTQ:=Lib.hid htq;have HTW:Hid (w.heap.size<((wr.alloc (.cells #[.int .i64 x,.int .i64 y,.slice ua nd uc] 76)).drewN nq).heap.size):=htq.lt;clear htq
    go_wp2_with (first
     |(go_at_call 51;(with_reducible refine(HTR.out _).mono ?_);rintro e w7 ⟨rfl,hb7⟩;have ht7:=HTQ.out.below hb7 HTQ.out.lt;have k0:=ht7.cell 0;have k1:=ht7.cell 1;have f0:=ht7.free 0;have f1:=ht7.free 1;have htl:=ht7.lt;have HT7:=Lib.hid ht7;have HB7:Hid (Below w.heap.size w w7):=HBQ.out.trans (hb7.mono HBQ.out.size);clear ht7 hb7))
    have hF:=(HT7.out.set 0 (.int .i64 0)).set 1 (.int .u16 3);have r0:=hF.cell 0;have r1:=hF.cell 1;have HEND:Hid (Below w.heap.size w ((w7.setCell ⟨w.heap.size,0,none⟩ (.int .i64 0)).setCell ⟨w.heap.size,1,none⟩ (.int .u16 3))):=HB7.out.trans ((box2 w7 w.heap.size (.int .i64 0) (.int .u16 3)).below fun q hq=>⟨by have:=HB7.out.size;omega,fun e=>by omega⟩);clear hF HT7 HTQ HBQ;(try simp only [Exit.inBlock,Exit.then]);refine bodyPost_ret (v:=.agg #[.int .i64 0,.int .u16 3]) ?_ rfl ⟨rfl,HEND.out⟩;rw[results_cell rfl];go_simp;try rfl
  ·as_aux_lemma=>
    obtain⟨q0,q1⟩:=q1;have hi1:(decide ((0:Int)≤x)&&decide (x<(M:Int)))=true:=by simp;omega
    rw[hi1]at HIS;have hy1:decide (y<0)=true:=by simp;omega
    obtain⟨y0,y1,-,-,-⟩:=HSX.out _ (Below.refl _ _);have HISq:Hid (∀n,Calls Tryz.prog 69 #[.pointer (some ⟨A.q,0,none⟩),.int .i64 x] ((wr.alloc (.cells #[.int .i64 x,.int .i64 y,.slice ua nd uc] 76)).drewN n) fun e W'=>e=.returned (.bool true)/\∃m,W'=(wr.alloc (.cells #[.int .i64 x,.int .i64 y,.slice ua nd uc] 76)).drewN m):=fun n=>(HIS.out _ (below_drewN (Below.refl _ _) _)).mono fun e W' ⟨h1,h2⟩=>⟨h1,n,h2⟩
    clear hi1;go_wp2;go_quiet ((go_at_call 69;exact HISq.out _));have htq:=HTBX.out.below (HB2.out.trans ((below_drewN (Below.refl _ _) nq).mono HB2.out.size)) HTBX.out.lt;have HBQ:Hid (Below w.heap.size w ((wr.alloc (.cells #[.int .i64 x,.int .i64 y,.slice ua nd uc] 76)).drewN nq)):=HB1.out.trans ((below_drewN (Below.refl _ _) nq).mono HB1.out.size);have HTQ:=Lib.hid htq;have HTW:Hid (w.heap.size<((wr.alloc (.cells #[.int .i64 x,.int .i64 y,.slice ua nd uc] 76)).drewN nq).heap.size):=htq.lt;clear htq
    go_wp2_with (first
     |(go_at_call 51;(with_reducible refine(HTR.out _).mono ?_);rintro e w7 ⟨rfl,hb7⟩;have ht7:=HTQ.out.below hb7 HTQ.out.lt;have k0:=ht7.cell 0;have k1:=ht7.cell 1;have f0:=ht7.free 0;have f1:=ht7.free 1;have htl:=ht7.lt;have HT7:=Lib.hid ht7;have HB7:Hid (Below w.heap.size w w7):=HBQ.out.trans (hb7.mono HBQ.out.size);clear ht7 hb7))
    have hF:=(HT7.out.set 0 (.int .i64 0)).set 1 (.int .u16 3);have r0:=hF.cell 0;have r1:=hF.cell 1;have HEND:Hid (Below w.heap.size w ((w7.setCell ⟨w.heap.size,0,none⟩ (.int .i64 0)).setCell ⟨w.heap.size,1,none⟩ (.int .u16 3))):=HB7.out.trans ((box2 w7 w.heap.size (.int .i64 0) (.int .u16 3)).below fun q hq=>⟨by have:=HB7.out.size;omega,fun e=>by omega⟩);clear hF HT7 HTQ HBQ;(try simp only [Exit.inBlock,Exit.then]);refine bodyPost_ret (v:=.agg #[.int .i64 0,.int .u16 3]) ?_ rfl ⟨rfl,HEND.out⟩;rw[results_cell rfl];go_simp;try rfl
  ·as_aux_lemma=>
    obtain⟨q0,q1⟩:=q1;have hi1:(decide ((0:Int)≤x)&&decide (x<(M:Int)))=true:=by simp;omega
    rw[hi1]at HIS;have hy1:decide (y<0)=false:=by simp;omega
    have hy2:decide ((N:Int)≤y)=true:=by simp;omega
    have hy4:¬y<0:=by omega
    clear hi1;go_wp2;go_region_held3 (fun W=>W.cell? ⟨wr.heap.size,0,none⟩=some (.int .i64 x)/\W.cell? ⟨wr.heap.size,1,none⟩=some (.int .i64 y)/\W.cell? ⟨A.q,1,none⟩=some (.int .i64 M)/\W.cell? ⟨A.q,2,none⟩=some (.int .i64 C)/\W.cell? ⟨A.q,3,none⟩=some (.int .i64 S))
     (first|exact HSX.out _ (Below.refl _ _)|exact HSX.out _ (Below.refl _ _).drew|exact HSX.out _ HBG.out)
     (first
      |(go_at_call 69;(with_reducible refine(HIS.out _ ?_).mono ?_);(first|exact(Below.refl _ _).drew|exact Below.refl _ _|exact below_drewN (Below.refl _ _) _|exact HBG.out);rintro e w1 ⟨rfl,hw1⟩;subst hw1)
      |(go_at_call 70;(with_reducible refine(HGR.out _).mono ?_);rintro e w2 ⟨rfl,hb2⟩;have HBG:Hid (Below (wr.alloc (.cells #[.int .i64 x,.int .i64 y,.slice ua nd uc] 76)).heap.size (wr.alloc (.cells #[.int .i64 x,.int .i64 y,.slice ua nd uc] 76)) w2):=(Below.refl _ _).drew.trans hb2;clear hb2))
    have htq:=HTBX.out.below (HB2.out.trans ((HBG.out).mono HB2.out.size)) HTBX.out.lt;have HBQ:Hid (Below w.heap.size w w2):=HB1.out.trans ((HBG.out).mono HB1.out.size);have HTQ:=Lib.hid htq;have HTW:Hid (w.heap.size<w2.heap.size):=htq.lt;clear htq
    go_wp2_with (first
     |(go_at_call 51;(with_reducible refine(HTR.out _).mono ?_);rintro e w7 ⟨rfl,hb7⟩;have ht7:=HTQ.out.below hb7 HTQ.out.lt;have k0:=ht7.cell 0;have k1:=ht7.cell 1;have f0:=ht7.free 0;have f1:=ht7.free 1;have htl:=ht7.lt;have HT7:=Lib.hid ht7;have HB7:Hid (Below w.heap.size w w7):=HBQ.out.trans (hb7.mono HBQ.out.size);clear ht7 hb7))
    have hF:=(HT7.out.set 0 (.int .i64 0)).set 1 (.int .u16 3);have r0:=hF.cell 0;have r1:=hF.cell 1;have HEND:Hid (Below w.heap.size w ((w7.setCell ⟨w.heap.size,0,none⟩ (.int .i64 0)).setCell ⟨w.heap.size,1,none⟩ (.int .u16 3))):=HB7.out.trans ((box2 w7 w.heap.size (.int .i64 0) (.int .u16 3)).below fun q hq=>⟨by have:=HB7.out.size;omega,fun e=>by omega⟩);clear hF HT7 HTQ HBQ;(try simp only [Exit.inBlock,Exit.then]);refine bodyPost_ret (v:=.agg #[.int .i64 0,.int .u16 3]) ?_ rfl ⟨rfl,HEND.out⟩;rw[results_cell rfl];go_simp;try rfl
theorem rows_place_len {w:World} {T:Nat->Nat} {A:Adr} {R:RS} {lg:Option Nat} {vw:Value} {X:List OP} (h:RwIn w T A R lg vw X) (hg:geoIs R.M R.C R.S=true) (v:Value) (ps:List Pat) (hv:PSeg w v ps) (hall:∀p∈ps,InRow R.M (R.S*R.C) p) (i:Nat) (hi:i<ps.length) (hp:∀j (hj:j<i),(ps[j]'(Nat.lt_trans hj hi)).d.length=128) (hbad:ps[i].d.length≠128) (hfew:ps.length≤80000):
  Calls Tryz.prog 33 #[.pointer (some ⟨A.q,0,none⟩),v] w fun e w'=>e=.returned (.agg #[.int .i64 0,.int .u16 4])/\Below w.heap.size w w':=by
 obtain⟨va,vc,rfl⟩:=hv.shape;have hb0:Below w.heap.size w (w.alloc (.cells #[.int .i64 0,.int .u16 0] 45)):=(Below.refl _ _).alloc (Nat.le_refl _) _;have hM:R.M≤16:=(geo_pos hg).2.1;have hrow:R.S*R.C≤4096:=(geo_pos hg).2.2.2;have HV:=Lib.hid hv;have HA:=Lib.hid hall;have HL:=Lib.hid hp;have HBD:=Lib.hid hbad;have H:=Lib.hid h;have HBW:=Lib.hid hb0;have HTB:Hid (At (w.alloc (.cells #[.int .i64 0,.int .u16 0] 45)) w.heap.size #[.int .i64 0,.int .u16 0] 45):=At.new _ _ _
 have HGR:Hid (∀W,Calls Tryz.prog 70 #[.agg #[.int .i64 R.M,.int .i64 R.C,.int .i64 R.S]] W fun e w'=>e=.returned (.int .i64 (R.S*R.C:Nat))/\Below W.heap.size W w'):=fun W=>(geom_rows R.M R.C R.S W).mono (by
  rintro e w' ⟨rfl,hb'⟩
  exact⟨by rw[geo_rows hg],hb'⟩)
 have HTR:Hid (∀W,Calls Tryz.prog 51 #[.int .i64 0,.int .u16 4] W fun e w'=>e=.returned (.agg #[.int .i64 0,.int .u16 4])/\Below W.heap.size W w'):=fun W=>trouble_err 0 4 W (by decide)
 have HI:=Lib.hid hi;clear h hb0 hv hall hp hg hbad;go_enter Tryz.func33,Tryz.ntmps33;go_wp2;go_loopw [17] (fun q wr=>∃k:Nat,k≤ps.length/\q=.int .i64 k/\Below (w.alloc (.cells #[.int .i64 0,.int .u16 0] 45)).heap.size (w.alloc (.cells #[.int .i64 0,.int .u16 0] 45)) wr) (fun q _=>ps.length-(intOf q).toNat);case atStart=>exact⟨0,by omega,rfl,Below.refl _ _⟩
 case round=>
  obtain⟨k,hk,rfl,hbw⟩:=hrel;have HBR:=Lib.hid hbw;have HBA:Hid (Below w.heap.size w wr):=HBW.out.trans (hbw.mono HBW.out.size);clear hbw;by_cases hkn:k<ps.length
  ·as_aux_lemma=>
    obtain⟨b,o,rfl,hlt,hx⟩:=PSeg.full (HV.out.below HBA.out) (by omega);obtain⟨d0,d1,u,d2,hu⟩:=hx k hkn;obtain⟨ua,uc,rfl⟩:=hu.shape;obtain⟨p1,p2,p3,p4⟩:=HA.out _ (List.getElem_mem hkn);have K1:Hid (k+1≤ps.length):=hkn;have HB1:Hid (Below w.heap.size w (wr.alloc (.cells #[.int .i64 ps[k].m,.int .i64 ps[k].r,.slice ua ps[k].d.length uc] 76))):=HBA.out.alloc HBA.out.size _;have HB2:Hid (Below (w.alloc (.cells #[.int .i64 0,.int .u16 0] 45)).heap.size (w.alloc (.cells #[.int .i64 0,.int .u16 0] 45)) (wr.alloc (.cells #[.int .i64 ps[k].m,.int .i64 ps[k].r,.slice ua ps[k].d.length uc] 76))):=HBR.out.alloc HBR.out.size _;have HBX:Hid (At (wr.alloc (.cells #[.int .i64 ps[k].m,.int .i64 ps[k].r,.slice ua ps[k].d.length uc] 76)) wr.heap.size #[.int .i64 ps[k].m,.int .i64 ps[k].r,.slice ua ps[k].d.length uc] 76):=At.new _ _ _;have hsz1:(wr.alloc (.cells #[.int .i64 ps[k].m,.int .i64 ps[k].r,.slice ua ps[k].d.length uc] 76)).heap.size=wr.heap.size+1:=size_alloc _ _;have hsz2:=HBA.out.size;have hRH:=(H.out.below HB1.out);clear hx hu;generalize ps[k].d.length=nd at*;generalize ps[k].m=x at*;generalize ps[k].r=y at*;have HSX:Hid (∀W,Below (wr.alloc (.cells #[.int .i64 x,.int .i64 y,.slice ua nd uc] 76)).heap.size (wr.alloc (.cells #[.int .i64 x,.int .i64 y,.slice ua nd uc] 76)) W->W.cell? ⟨wr.heap.size,0,none⟩=some (.int .i64 x)/\W.cell? ⟨wr.heap.size,1,none⟩=some (.int .i64 y)/\W.cell? ⟨A.q,1,none⟩=some (.int .i64 R.M)/\W.cell? ⟨A.q,2,none⟩=some (.int .i64 R.C)/\W.cell? ⟨A.q,3,none⟩=some (.int .i64 R.S)):=fun W hb=>⟨(HBX.out.below hb HBX.out.lt).cell 0,(HBX.out.below hb HBX.out.lt).cell 1,(hRH.below hb).rw.cell 1,(hRH.below hb).rw.cell 2,(hRH.below hb).rw.cell 3⟩
    have HIS:Hid (∀W,Below (wr.alloc (.cells #[.int .i64 x,.int .i64 y,.slice ua nd uc] 76)).heap.size (wr.alloc (.cells #[.int .i64 x,.int .i64 y,.slice ua nd uc] 76)) W->Calls Tryz.prog 69 #[.pointer (some ⟨A.q,0,none⟩),.int .i64 x] W fun e w'=>e=.returned (.bool true)/\w'=W):=fun W hb=>(rows_is x W (hRH.below hb).rw).mono (by
     rintro e w' ⟨rfl,rfl⟩
     refine⟨?_,rfl⟩
     have:(decide ((0:Int)≤x)&&decide (x<(R.M:Int)))=true:=by simp;omega
     rw[this])
    clear hRH;generalize R.M=M at*;generalize R.C=C at*;generalize R.S=S at*;generalize hSC:S*C=N at*;have hy1:decide (y<0)=false:=by simp;omega
    have hy2:decide ((N:Int)≤y)=false:=by simp;omega
    have hy3:¬(N:Int)≤y:=by omega
    have hy4:¬y<0:=by omega
    go_wp2;go_region_held3 (fun W=>W.cell? ⟨wr.heap.size,0,none⟩=some (.int .i64 x)/\W.cell? ⟨wr.heap.size,1,none⟩=some (.int .i64 y)/\W.cell? ⟨A.q,1,none⟩=some (.int .i64 M)/\W.cell? ⟨A.q,2,none⟩=some (.int .i64 C)/\W.cell? ⟨A.q,3,none⟩=some (.int .i64 S))
     (first|exact HSX.out _ (Below.refl _ _)|exact HSX.out _ (Below.refl _ _).drew|exact HSX.out _ HBG.out)
     (first
      |(go_at_call 69;(with_reducible refine(HIS.out _ ?_).mono ?_);(first|exact(Below.refl _ _).drew|exact Below.refl _ _|exact below_drewN (Below.refl _ _) _|exact HBG.out);rintro e w1 ⟨rfl,hw1⟩;subst hw1)
      |(go_at_call 70;(with_reducible refine(HGR.out _).mono ?_);rintro e w2 ⟨rfl,hb2⟩;have HBG:Hid (Below (wr.alloc (.cells #[.int .i64 x,.int .i64 y,.slice ua nd uc] 76)).heap.size (wr.alloc (.cells #[.int .i64 x,.int .i64 y,.slice ua nd uc] 76)) w2):=(Below.refl _ _).drew.trans hb2;clear hb2))
    go_wp2;exact⟨⟨k+1,K1.out,by go_num,HB2.out.trans (HBG.out.mono HB2.out.size)⟩,by simp[intOf];omega⟩
  ·obtain rfl:k=ps.length:=by omega
   obtain⟨wl,rfl⟩:∃wl:World,wl=wr:=⟨_,rfl⟩;have HLN:=Lib.hid (lift_new wl (fun _=>undef))
   go_wp2_with (first
    |(go_at_call 71;(with_reducible refine HLN.out.mono ?_);rintro e w2 ⟨lp,hm,rfl,hl2,hb2⟩;have HL2:=Lib.hid hl2;have HB2:=Lib.hid hb2;clear hl2 hb2))
   have hszB:=HBA.out.size;go_loopw [53] (fun q wx=>∃k:Nat,k≤i/\q=.int .i64 k/\Below wl.heap.size wl wx/\∃dv va A,LiftAt wx wl.heap.size lp 0 hm k (gTo ps k) dv va A) (fun q _=>ps.length-(intOf q).toNat);case atStart=>exact⟨0,by omega,rfl,HB2.out,_,_,_,HL2.out⟩
   case round=>
    obtain⟨k,hk,rfl,hbx,dv,vq,Aq,hla⟩:=hrel;have HBX:=Lib.hid hbx;have HLA:=Lib.hid hla;have HBZ:Hid (Below w.heap.size w wr):=HBA.out.trans (hbx.mono hszB);clear hbx hla HL2 HB2;have hin0:=HI.out;have hkn:k<ps.length:=by omega
    by_cases hki:k<i
    ·as_aux_lemma=>
      obtain⟨b,o,rfl,hlt,hx⟩:=PSeg.full (HV.out.below HBZ.out) (by omega);obtain⟨d0,d1,u,d2,hu⟩:=hx k hkn;obtain⟨ua,uc,hue⟩:=hu.shape;subst hue;have hin:InPlace R.M (R.S*R.C) (ps[k]'hkn):=⟨(HA.out _ (List.getElem_mem hkn)).m0,(HA.out _ (List.getElem_mem hkn)).m1,(HA.out _ (List.getElem_mem hkn)).r0,(HA.out _ (List.getElem_mem hkn)).r1,HL.out k hki⟩;obtain⟨e1,e2,e3,e4⟩:=pk_in hin hM hrow;have hl:=hin.len;have K1:Hid (k+1≤i):=hki;have hub:∀a m c,(Value.slice ua 128 uc)=.slice (some a) m c->a.block<wl.heap.size:=by
       obtain⟨b',o',ha',hlt',hx'⟩:=PSeg.full HV.out (by omega);simp only [Option.some.injEq,Addr.mk.injEq]at ha';obtain⟨rfl,rfl,-⟩:=ha';obtain⟨-,-,u',d2',hu'⟩:=hx' k hkn;have hcell:wr.cell? ⟨b,o+k*3+2,none⟩=w.cell? ⟨b,o+k*3+2,none⟩:=HBZ.out.cell (p:=⟨b,o+k*3+2,none⟩) hlt';rw[hcell,d2',hl]at d2;simp only [Option.some.injEq]at d2;subst d2;obtain⟨a2,cap2,hv2,-,h2⟩:=hu';intro a m c e;simp only [Value.slice.injEq]at e hv2;rcases h2 with h2|⟨b2,off2,ha2,hlt2,-⟩
       ·rw[h2]at hl;simp at hl
       ·have:a=⟨b2,off2,none⟩:=by
         have:=e.1.symm.trans (hv2.1.trans ha2);simpa using this
        rw[this];show b2<_
        omega
      rw[hl]at d2 hu;have HLP:Hid (∀W,Below wr.heap.size wr W->Calls Tryz.prog 72 #[.pointer (some ⟨lp,0,none⟩),.agg #[.int .i64 (ps[k]'hkn).m,.int .i64 (ps[k]'hkn).r,.slice ua 128 uc]] W fun e w'=>e=.returned (.int .u16 0)/\(∃dv va A,LiftAt w' wl.heap.size lp 0 hm (k+1) (gTo ps (k+1)) dv va A)/\Below wl.heap.size wl w'):=fun W hb=>by
       rw[e1,e2]
       exact(lift_put (HLA.out.below hb) (Nat.le_trans HBX.out.size hb.size) (pkOf (ps[k]'hkn)) (.slice ua 128 uc) (ps[k]'hkn).d (hu.below hb) hub hl (by omega)).mono (by
        rintro e w' ⟨rfl,dv',va',A',h1,-,h3⟩
        refine⟨rfl,⟨dv',va',A',?_⟩,(HBX.out.trans (hb.mono HBX.out.size)).trans h3⟩
        have e:gTo ps (k+1)=fun i=>if i=pkOf (ps[k]'hkn)then some (ps[k]'hkn).d else gTo ps k i:=by
         funext i
         show(if i=pkOf (ps.getD k pat0)then some (ps.getD k pat0).d else gTo ps k i)=_
         rw[getD_of ps k hkn]
        rw[e]
        exact h1)
      clear hx hu hub e1 e2 e3 e4 hin;generalize ps[k].m=x at*;generalize ps[k].r=y at*
      go_wp2_with (first
       |(go_at_call 72;(with_reducible refine(HLP.out _ ((Below.refl _ _).alloc (Nat.le_refl _) _)).mono ?_);rintro e w8 ⟨rfl,hl8,hb8⟩;have HL8:=Lib.hid hl8;have HB8:=Lib.hid hb8;clear hl8 hb8))
      exact⟨⟨k+1,K1.out,by go_num,HB8.out,HL8.out⟩,by simp[intOf];omega⟩
    ·as_aux_lemma=>
      obtain rfl:k=i:=by omega
      obtain⟨b,o,rfl,hlt,hx⟩:=PSeg.full (HV.out.below HBZ.out) (by omega);obtain⟨d0,d1,u,d2,hu⟩:=hx k hkn;obtain⟨ua,uc,hue⟩:=hu.shape;subst hue;obtain⟨p1,p2,p3,p4⟩:=HA.out _ (List.getElem_mem hkn);have hbd:=HBD.out;have HLP:Hid (∀W,Calls Tryz.prog 72 #[.pointer (some ⟨lp,0,none⟩),.agg #[.int .i64 (ps[k]'hkn).m,.int .i64 (ps[k]'hkn).r,.slice ua (ps[k]'hkn).d.length uc]] W fun e w'=>e=.returned (.int .u16 4)/\Below W.heap.size W w'):=fun W=>lift_put_len lp _ _ (by omega) (by omega) ua _ uc hbd
      clear hx hu p1 p2 p3 p4 hbd;generalize ps[k].m=x at*;generalize ps[k].r=y at*;generalize ps[k].d.length=nd at*;have HAP:Hid (Below wr.heap.size wr (wr.alloc (.cells #[.int .i64 x,.int .i64 y,.slice ua nd uc] 76))):=(Below.refl _ _).alloc (Nat.le_refl _) _;have htb0:=(HTB.out.below HBR.out HTB.out.lt).below HBX.out (HTB.out.below HBR.out HTB.out.lt).lt;have HT0:=Lib.hid (htb0.below HAP.out htb0.lt);have HB0:Hid (Below w.heap.size w (wr.alloc (.cells #[.int .i64 x,.int .i64 y,.slice ua nd uc] 76))):=HBZ.out.trans (HAP.out.mono HBZ.out.size);clear htb0
      go_wp2_with (first
       |(go_at_call 72;(with_reducible refine(HLP.out _).mono ?_);rintro e w8 ⟨rfl,hb8⟩;have HT8:=Lib.hid (HT0.out.below hb8 HT0.out.lt);have HB8:Hid (Below w.heap.size w w8):=HB0.out.trans (hb8.mono HB0.out.size);clear hb8)
       |(go_at_call 51;(with_reducible refine(HTR.out _).mono ?_);rintro e w7 ⟨rfl,hb7⟩;have ht7:=HT8.out.below hb7 HT8.out.lt;have k0:=ht7.cell 0;have k1:=ht7.cell 1;have f0:=ht7.free 0;have f1:=ht7.free 1;have htl:=ht7.lt;have HT7:=Lib.hid ht7;have HB7:Hid (Below w.heap.size w w7):=HB8.out.trans (hb7.mono HB8.out.size);clear ht7 hb7))
      have hF:=(HT7.out.set 0 (.int .i64 0)).set 1 (.int .u16 4);have r0:=hF.cell 0;have r1:=hF.cell 1;have HEND:Hid (Below w.heap.size w ((w7.setCell ⟨w.heap.size,0,none⟩ (.int .i64 0)).setCell ⟨w.heap.size,1,none⟩ (.int .u16 4))):=HB7.out.trans ((box2 w7 w.heap.size (.int .i64 0) (.int .u16 4)).below fun q hq=>⟨by have:=HB7.out.size;omega,fun e=>by omega⟩);clear hF HT7 HT8;(try simp only [Exit.inBlock,Exit.then]);refine bodyPost_ret (v:=.agg #[.int .i64 0,.int .u16 4]) ?_ rfl ⟨rfl,HEND.out⟩;rw[results_cell rfl];go_simp;try rfl
open Go.RowKit
theorem first_not {P:Pat->Prop}:∀(ps:List Pat),(¬∀p∈ps,P p)->∃i,∃h:i<ps.length,(∀j (hj:j<i),P (ps[j]'(Nat.lt_trans hj h)))/\¬P (ps[i]'h)
 | [],h=>absurd (fun p hp=>(by cases hp)) h
 |a::l,h=>by
  by_cases ha:P a
  ·have h':¬∀p∈l,P p:=fun hl=>h fun p hp=>(List.mem_cons.1 hp).elim (fun e=>e ▸ ha) (hl p)
   obtain⟨i,hi,h1,h2⟩:=first_not l h';refine⟨i+1,by simp;omega,fun j hj=> ?_,h2⟩;cases j with
   |zero=>exact ha
   |succ j=>exact h1 j (by omega)
  ·exact⟨0,by simp,fun j hj=>absurd hj (by omega),ha⟩
open Classical in
noncomputable def placeCode (M N:Nat) (ps:List Pat):Nat:=if ∀p∈ps,InRow M N p then (if ∀p∈ps,p.d.length=128 then 0 else 4)else 3
theorem place_ok {M N:Nat} {ps:List Pat} (h:placeCode M N ps=0):∀p∈ps,InPlace M N p:=by
 unfold placeCode at h;by_cases h1:∀p∈ps,InRow M N p
 ·rw[if_pos h1]at h
  by_cases h2:∀p∈ps,p.d.length=128
  ·exact fun p hp=>⟨(h1 p hp).m0,(h1 p hp).m1,(h1 p hp).r0,(h1 p hp).r1,h2 p hp⟩
  ·rw[if_neg h2]at h;cases h
 ·rw[if_neg h1]at h;cases h
theorem place_zero {M N:Nat} {ps:List Pat} (h:∀p∈ps,InPlace M N p):placeCode M N ps=0:=by
 unfold placeCode;rw[if_pos fun p hp=>⟨(h p hp).m0,(h p hp).m1,(h p hp).r0,(h p hp).r1⟩,if_pos fun p hp=>(h p hp).len]
theorem place_parts (M N:Nat) (ps:List Pat) (k:Nat):placeCode M N ps=0↔placeCode M N (ps.take k)=0/\placeCode M N (ps.drop k)=0:=by
 constructor
 ·intro h
  have:=place_ok h;exact⟨place_zero fun p hp=>this p (List.mem_of_mem_take hp),place_zero fun p hp=>this p (List.mem_of_mem_drop hp)⟩
 ·rintro ⟨h1,h2⟩
  refine place_zero fun p hp=> ?_
  rw[<-List.take_append_drop k ps]at hp;rcases List.mem_append.1 hp with hp|hp
  ·exact place_ok h1 p hp
  ·exact place_ok h2 p hp
def Lays (R:RS) (s s':BaySt) (ps:List Pat):Prop:=∃L:List PK,L.Nodup/\(∀k,k∈L↔∃p∈ps,pkOf p=k)/\Laid R s s' L (gTo ps ps.length)
structure PdOne (R:RS) (fr0:Nat->Int) (M C S ring:Nat) (c:Nat):Prop where
 geo:geoIs R.M R.C R.S=true
 n:R.s.n=R.M+1
 fit:Fit R.s R.G R.szs
 sec0:∀m,m<M->fr0 m≠0->R.s.sec m 0=zsec
 lost:∀m,m<M->fr0 m=0->∃x,R.s.pos (m*3)=some x/\x.d.failed=true
 M:R.M=M
 C:R.C=C
 S:R.S=S
 fr:R.fr=fr0
 c1:R.s.cnt 1≤c
 c2:R.s.cnt 2≤100
 small:R.s.small c
theorem lays_few {R:RS} {L:List PK} {ps:List Pat} (hnd:L.Nodup) (hm:∀k,k∈L↔∃p∈ps,pkOf p=k):L.length≤ps.length:=by
 have:=length_le_sub L (ps.map pkOf) hnd fun k hk=>by
  obtain⟨p,hp,e⟩:=(hm k).1 hk;exact List.mem_map.2 ⟨p,hp,e⟩
 rwa [List.length_map]at this
theorem PdOne.lays {R:RS} {fr0:Nat->Int} {M C S ring c:Nat} {s':BaySt} {ps:List Pat} (h:PdOne R fr0 M C S ring c) (hl:Lays R R.s s' ps):PdOne {R with s:=s'} fr0 M C S ring (c+ps.length):=by
 obtain⟨L,hnd,hm,hld⟩:=hl;have hf:=lays_few (R:=R) hnd hm;have h1:=h.c1;have hfl:(L.filter R.upAt).length≤L.length:=List.length_filter_le _ _;refine⟨h.geo,hld.n.trans h.n,hld.fit,fun m hm' e=> ?_,fun m hm' e=> ?_,h.M,h.C,h.S,h.fr,?_,?_,?_⟩
 ·show s'.sec m 0=zsec
  rw[hld.off m 0 fun k _ _ e2=>by omega];exact h.sec0 m hm' e
 ·show ∃x,s'.pos (m*3)=some x/\_
  rw[hld.pos (m*3) fun k hk hu e2=> ?_]
  ·exact h.lost m hm' e
  ·have e3:k.1.val=m:=by omega
   unfold RS.upAt at hu;rw[e3,dn_zero (by rw[h.fr];exact e)]at hu;cases hu
 ·show s'.cnt 1≤_
  rw[hld.c1];push_cast;omega
 ·show s'.cnt 2≤_
  rw[hld.c2];exact h.c2
 ·exact fun i hi x hx=>Nat.le_trans (hld.small c h.small i hi x hx) (by omega)
theorem PdOne.mono {R:RS} {fr0:Nat->Int} {M C S ring c d:Nat} (h:PdOne R fr0 M C S ring c) (hc:c≤d):PdOne R fr0 M C S ring d:=
 ⟨h.geo,h.n,h.fit,h.sec0,h.lost,h.M,h.C,h.S,h.fr,by have:=h.c1;omega,h.c2,fun i hi x hx=>Nat.le_trans (h.small i hi x hx) hc⟩
theorem ln_place {w0 W:World} {T:Nat->Nat} {A:Adr} {R:RS} {fr0:Nat->Int} {M C S ring c:Nat} (h:Ln w0 W T A R) (o:PdOne R fr0 M C S ring c) (hc:c≤800000) (v:Value) (ps:List Pat) (hv:PSeg W v ps) (hfew:ps.length≤20000):
  Calls Tryz.prog 33 #[.pointer (some ⟨A.q,0,none⟩),v] W fun e w'=>e=.returned (.agg #[.int .i64 0,.int .u16 (placeCode M (S*C) ps:Nat)])/\∃T' s',Ln w0 w' T' A {R with s:=s'}/\Stp W T A w' T'/\PdOne {R with s:=s'} fr0 M C S ring (c+ps.length)/\(placeCode M (S*C) ps=0->Lays R R.s s' ps)/\(placeCode M (S*C) ps≠0->s'=R.s):=by
 obtain⟨lg,vw,X,hr⟩:=h.rw;have h1:=o.c1;have hMN:R.M=M/\R.S*R.C=S*C:=⟨o.M,by rw[o.S,o.C]⟩;by_cases hz:placeCode M (S*C) ps=0
 ·have hp:=place_ok hz
  rw[<-hMN.1,<-hMN.2]at hp;refine(rows_place hr o.geo o.n o.fit v ps hv hp (by omega) (by omega) (fun i hi x hx=>Nat.le_trans (o.small i hi x hx) (by omega))).mono ?_;rintro e w' ⟨rfl,s',L,T',k1,k2,k3,k4,k5,k6⟩;have hst:Stp W T A w' T':=⟨k5,k6.mono fun q e=>.inl e⟩;have hl:Lays R R.s s' ps:=⟨L,k1,k2,k3⟩;exact⟨by rw[hz];rfl,T',s',h.step ⟨lg,vw,X,k4⟩ hst,hst,o.lays hl,fun _=>hl,fun e=>absurd hz e⟩
 ·have fin:∀w',Below W.heap.size W w'->∃T' s',Ln w0 w' T' A {R with s:=s'}/\Stp W T A w' T'/\PdOne {R with s:=s'} fr0 M C S ring (c+ps.length)/\(placeCode M (S*C) ps=0->Lays R R.s s' ps)/\(placeCode M (S*C) ps≠0->s'=R.s):=fun w' hb=>
   ⟨T,R.s,h.below hb,Stp.ofBelow hb,o.mono (by omega),fun e=>absurd e hz,fun _=>rfl⟩
  by_cases h1:∀p∈ps,InRow M (S*C) p
  ·by_cases h2:∀p∈ps,p.d.length=128
   ·exact absurd (place_zero fun p hp=>⟨(h1 p hp).m0,(h1 p hp).m1,(h1 p hp).r0,(h1 p hp).r1,h2 p hp⟩) hz
   ·have hcd:placeCode M (S*C) ps=4:=by unfold placeCode;rw[if_pos h1,if_neg h2]
    obtain⟨i,hi,k1,k2⟩:=first_not (P:=fun p=>p.d.length=128) ps h2;have h1':=h1;rw[<-hMN.1,<-hMN.2]at h1';refine(rows_place_len hr o.geo v ps hv h1' i hi k1 k2 (by omega)).mono ?_;rintro e w' ⟨rfl,hb⟩;exact⟨by rw[hcd];rfl,fin w' hb⟩
  ·have hcd:placeCode M (S*C) ps=3:=by unfold placeCode;rw[if_neg h1]
   have h1':=h1;rw[<-hMN.1,<-hMN.2]at h1';obtain⟨i,hi,k1,k2⟩:=first_not (P:=fun p=>InRow R.M (R.S*R.C) p) ps h1';refine(rows_place_range hr o.geo v ps hv i hi k1 k2 (by omega)).mono ?_;rintro e w' ⟨rfl,hb⟩;exact⟨by rw[hcd];rfl,fin w' hb⟩
theorem lays_same {R R':RS} {s0 s1 t0 t1 t2 t3:BaySt} {ps:List Pat} {k:Nat} (hfr:R'.fr=R.fr) (h1:Lays R s0 s1 ps) (h2:Lays R' t0 t1 (ps.take k)) (h3:Lays R' t1 t2 (ps.drop k)) (h4:Lays R' t2 t3 ps) {m:Nat} (hm:m<16) (hd:∀r,R.dn m r=false) {z:Nat} (hz:z<4097) (h0:s0.sec m z=t0.sec m z):s1.sec m z=t3.sec m z:=by
 obtain⟨L1,-,m1,l1⟩:=h1;obtain⟨L2,-,m2,l2⟩:=h2;obtain⟨L3,-,m3,l3⟩:=h3;obtain⟨L4,-,m4,l4⟩:=h4;have hup:∀j:PK,R'.upAt j=R.upAt j:=fun j=>by unfold RS.upAt RS.dn;rw[hfr]
 by_cases hin:∃p∈ps,(pkOf p).1.val=m/\z=1+(pkOf p).2.val
 ·obtain⟨p,hp,e1,e2⟩:=hin
  have hu:R.upAt (pkOf p)=true:=by
   show(!R.dn (pkOf p).1.val _)=true
   rw[e1,hd];rfl
  have a1:=l1.at' (pkOf p) ((m1 _).2 ⟨p,hp,rfl⟩) hu;have a4:=l4.at' (pkOf p) ((m4 _).2 ⟨p,hp,rfl⟩) ((hup _).trans hu);rw[e1,<-e2]at a1 a4;rw[a1,a4]
 ·have off:∀qs:List Pat,(∀p∈qs,p∈ps)->∀L:List PK,(∀j,j∈L↔∃p∈qs,pkOf p=j)->∀j∈L,¬(m=j.1.val/\z=1+j.2.val):=fun qs hq L hL j hj e=>by
   obtain⟨p,hp,rfl⟩:=(hL j).1 hj;exact hin ⟨p,hq p hp,e.1.symm,e.2⟩
  rw[l1.off m z fun j hj _=>off ps (fun _ h=>h) L1 m1 j hj,l4.off m z fun j hj _=>off ps (fun _ h=>h) L4 m4 j hj,l3.off m z fun j hj _=>off _ (fun _ h=>List.mem_of_mem_drop h) L3 m3 j hj,l2.off m z fun j hj _=>off _ (fun _ h=>List.mem_of_mem_take h) L2 m2 j hj];exact h0
theorem ln_place_ok {w0 W:World} {T:Nat->Nat} {A:Adr} {R:RS} {fr0:Nat->Int} {M C S ring c:Nat} (h:Ln w0 W T A R) (o:PdOne R fr0 M C S ring c) (hc:c≤800000) (v:Value) (ps:List Pat) (hv:PSeg W v ps) (hfew:ps.length≤20000) (hz:placeCode M (S*C) ps=0):
  Calls Tryz.prog 33 #[.pointer (some ⟨A.q,0,none⟩),v] W fun e w'=>e=.returned (.agg #[.int .i64 0,.int .u16 0])/\∃T' s',Ln w0 w' T' A {R with s:=s'}/\Stp W T A w' T'/\PdOne {R with s:=s'} fr0 M C S ring (c+ps.length)/\Lays R R.s s' ps:=by
 refine(ln_place h o hc v ps hv hfew).mono ?_;rintro e w' ⟨rfl,T',s',h1,h2,h3,h4,-⟩;exact⟨by rw[hz];rfl,T',s',h1,h2,h3,h4 hz⟩
theorem ln_place_any {w0 W:World} {T:Nat->Nat} {A:Adr} {R:RS} {fr0:Nat->Int} {M C S ring c:Nat} (h:Ln w0 W T A R) (o:PdOne R fr0 M C S ring c) (hc:c≤800000) (v:Value) (ps:List Pat) (hv:PSeg W v ps) (hfew:ps.length≤20000) (x:Int) (hx:x=(placeCode M (S*C) ps:Nat)):
  Calls Tryz.prog 33 #[.pointer (some ⟨A.q,0,none⟩),v] W fun e w'=>e=.returned (.agg #[.int .i64 0,.int .u16 x])/\∃T' s',Ln w0 w' T' A {R with s:=s'}/\Stp W T A w' T'/\PdOne {R with s:=s'} fr0 M C S ring (c+ps.length)/\(placeCode M (S*C) ps≠0->s'=R.s):=by
 subst hx;refine(ln_place h o hc v ps hv hfew).mono ?_;rintro e w' ⟨rfl,T',s',h1,h2,h3,-,h4⟩;exact⟨rfl,T',s',h1,h2,h3,h4⟩
theorem Two.keepBx {w0 W W':World} {T1 T2 T1':Nat->Nat} {A1 A2:Adr} {R1 R2:RS} (h:Two w0 W T1 A1 R1 T2 A2 R2) (hs:Stp W T1 A1 W' T1') {g:Nat} {cs:Array Value} {t:TypeId} (k:Bx W T1 T2 g cs t) (h1:93≠t) (h2:3≠t) (h3:110≠t) (h4:167≠t):Bx W' (tidy W' T1') (tidy W' T2) g cs t:=by
 obtain⟨lg,vw,X,hr⟩:=h.one.rw;exact⟨k.at'.mod hs.chg fun e=>e.elim (fun e=>e k.t1) (hr.offAt k.at' h1 h2 h3 h4),tidy_zero ((hs.tags g k.at'.lt).trans k.t1),tidy_zero k.t2⟩
theorem Two.newBx {w0 W:World} {T1 T2:Nat->Nat} {A1 A2:Adr} {R1 R2:RS} (h:Two w0 W T1 A1 R1 T2 A2 R2) (cs:Array Value) (t:TypeId):Bx (W.alloc (.cells cs t)) (tidy (W.alloc (.cells cs t)) T1) (tidy (W.alloc (.cells cs t)) T2) W.heap.size cs t:=⟨At.new _ _ _,tidy_zero (h.one.virg _ (Nat.le_refl _)),tidy_zero (h.two.virg _ (Nat.le_refl _))⟩
theorem placed_much (m c s:Int) (g:Nat) (pv:Value) (ps:List Pat) (W:World) (ha:At W g #[.int .i64 0,.int .i64 0,.int .i64 0,.bool false,.slice none 0 0,pv,.slice none 0 0] 41) (hp:PSeg W pv ps):
  Calls Tryz.prog 9 #[geo m c s,.slice (some ⟨g,0,none⟩) 1 1] W fun e w'=>∃r:Bool,e=.returned (.bool r)/\(r=false->ps.length≤20000)/\Below W.heap.size W w':=by
 have hv:ROpSeg W (.slice (some ⟨g,0,none⟩) 1 1) [⟨0,0,0,false,[],ps,[]⟩]:=by
  refine⟨some ⟨g,0,none⟩,1,rfl,by simp,.inr ⟨g,0,rfl,ha.lt,fun j hj=> ?_⟩⟩;obtain rfl:j=0:=by simp at hj;omega
  exact⟨ha.cell 0,ha.cell 1,ha.cell 2,ha.cell 3,⟨_,ha.cell 4,⟨none,0,rfl,by simp,by simp,.inl rfl⟩⟩,⟨_,ha.cell 5,hp⟩,_,ha.cell 6,⟨none,0,rfl,by simp,by simp,.inl rfl⟩⟩
 refine(r14_much m c s _ _ W hv).mono ?_;rintro e w' ⟨r,rfl,h1,h2⟩;refine⟨r,rfl,fun hr=> ?_,h2⟩;have:=(h1 hr).sum;unfold opsSum at this;simp at this;omega
theorem PSeg.take' {W:World} {a:Option Addr} {n c:Nat} {ps:List Pat} (h:PSeg W (.slice a n c) ps) (k:Nat) (hk:k≤ps.length):PSeg W (.slice a k c) (ps.take k):=by
 obtain⟨a',c',h1,h2,h3,h4⟩:=h;simp only [Value.slice.injEq]at h1;obtain⟨rfl,-,rfl⟩:=h1;refine⟨a,c,by rw[List.length_take,Nat.min_eq_left hk],by rw[List.length_take];omega,fun p hp=>h3 p (List.mem_of_mem_take hp),?_⟩;rcases h4 with e|⟨b,o,e1,e2,e3⟩
 ·left;rw[e];simp
 ·refine .inr ⟨b,o,e1,e2,fun j hj=> ?_⟩
  have hj':j<ps.length:=by rw[List.length_take]at hj;omega
  rw[List.getElem_take];exact e3 j hj'
theorem PSeg.drop' {W:World} {b o n c:Nat} {ps:List Pat} (h:PSeg W (.slice (some ⟨b,o,none⟩) n c) ps) (k:Nat) (hk:k≤ps.length) (d:Nat):PSeg W (.slice (some ⟨b,o+k*3,none⟩) (ps.length-k) d) (ps.drop k):=by
 obtain⟨a',c',h1,h2,h3,h4⟩:=h;simp only [Value.slice.injEq]at h1;obtain⟨rfl,-,rfl⟩:=h1;refine⟨_,d,by rw[List.length_drop],by rw[List.length_drop];omega,fun p hp=>h3 p (List.mem_of_mem_drop hp),?_⟩;rcases h4 with e|⟨b',o',e1,e2,e3⟩
 ·left;rw[e];simp
 ·simp only [Option.some.injEq,Addr.mk.injEq,and_true]at e1
  obtain⟨rfl,rfl⟩:=e1;refine .inr ⟨b,o+k*3,rfl,e2,fun j hj=> ?_⟩;have hj':k+j<ps.length:=by rw[List.length_drop]at hj;omega
  rw[List.getElem_drop];have:=e3 (k+j) hj';rw[show o+(k+j)*3=o+k*3+j*3 by omega]at this;exact this
theorem PSeg.nil' (W:World) (a:Option Addr) (c:Nat):PSeg W (.slice a 0 c) []:=⟨a,c,rfl,by simp,by simp,.inl rfl⟩
theorem Begun.pd {M C S ring:Nat} {lazy:Bool} {down:Int} {R:RS} (h:Begun M C S ring lazy down R) (hr:ring≤2048) (g:Good R zeroV):PdOne R (fun j:Nat=>if (j:Int)=goneOf M down then 0 else -1) M C S ring 3000:=by
 refine⟨g.geo,g.n,g.fit,fun m hm e=>h.sec0 m hm fun e2=>e (if_pos e2),fun m hm e=>h.lost m hm ?_,h.M',h.C',h.S',h.fr,by rw[h.c1];omega,by rw[h.c2];omega,h.small.mono (by omega)⟩;by_cases e2:(m:Int)=goneOf M down
 ·exact e2
 ·rw[if_neg e2]at e;omega
theorem begun_secs {M C S ring:Nat} {lazy:Bool} {down:Int} {R:RS} (h:Begun M C S ring lazy down R) (g:Good R zeroV) {m z:Nat} (hm:m<M) (hz:z<1+S*C) (hn:(m:Int)≠goneOf M down):R.s.sec m z=zsec:=by
 by_cases h0:z=0
 ·subst h0;exact h.sec0 m hm hn
 ·obtain⟨r,rfl⟩:∃r,z=1+r:=⟨z-1,by omega⟩
  have e:R.fr m= -1:=by rw[h.fr];exact if_neg hn
  exact g.sec m r (by rw[h.M'];exact hm) (by rw[h.S',h.C'];omega) (by rw[h.wait];rfl) (by unfold RS.dn;rw[e];simp)
theorem ln_barrier {w0 W:World} {T:Nat->Nat} {A:Adr} {R:RS} {fr0:Nat->Int} {M C S ring c:Nat} (h:Ln w0 W T A R) (o:PdOne R fr0 M C S ring c) (hc:c≤900000):
  Calls Tryz.prog 34 #[.pointer (some ⟨A.q,0,none⟩)] W fun e w'=>e=.returned (.agg #[.int .i64 0,.int .u16 0])/\∃T',Ln w0 w' T' A {R with s:=R.dries R.M}/\Stp W T A w' T':=by
 obtain⟨lg,vw,X,hr⟩:=h.rw;have h2:=o.c2;refine(rows_barrier hr o.geo o.n o.fit (by omega) (fun i hi x hx=>Nat.le_trans (o.small i hi x hx) (by omega))).mono ?_;rintro e w' ⟨rfl,T',k1,k2,k3⟩;have hst:Stp W T A w' T':=⟨k2,k3⟩;exact⟨rfl,T',h.step ⟨lg,vw,X,k1⟩ hst,hst⟩
theorem placed_images {R1 R2:RS} {fr0:Nat->Int} {M C S ring c d:Nat} (o1:PdOne R1 fr0 M C S ring c) (o2:PdOne R2 fr0 M C S ring d) (hf:∀m,fr0 m=0\/fr0 m= -1) (hsec:∀m z,m<M->fr0 m= -1->z<1+S*C->R1.s.sec m z=R2.s.sec m z) {m:Nat} (hm:m<M):
  ((R1.dries R1.M).image (m:Int)=(0,none)/\(R2.dries R2.M).image (m:Int)=(0,none))\/∃L:List Sec,(∀s∈L,s.length=128)/\L.length≤4097/\(R1.dries R1.M).image (m:Int)=(0,some L)/\(R2.dries R2.M).image (m:Int)=(0,some L):=by
 have hgp:=geo_pos o1.geo;rw[o1.M,o1.S,o1.C]at hgp;have one:∀{R:RS} {c:Nat},PdOne R fr0 M C S ring c->(fr0 m=0->(R.dries R.M).image (m:Int)=(0,none))/\(fr0 m= -1->∃L:List Sec,(R.dries R.M).image (m:Int)=(0,some L)/\L.length=1+S*C/\(∀s∈L,s.length=128)/\∀z,z<1+S*C->L[z]?=some (R.s.sec m z)):=fun {R c} o=>by
  have hd:=dries_is o.geo o.n o.fit R.M (Nat.le_refl _);have hn:m<(R.dries R.M).n:=by rw[hd.n,o.n,o.M];omega
  refine⟨fun e=> ?_,fun e=> ?_⟩
  ·obtain⟨x,p1,f1⟩:=o.lost m hm e
   have hp:(R.dries R.M).pos (m*3)=some x:=by
    rw[hd.pos (m*3) fun k hk hdk e2=> ?_]
    ·exact p1
    ·have e3:k=m:=by omega
     rw[e3,dn_zero (by rw[o.fr];exact e)]at hdk;cases hdk
   rw[image_some hn hp,if_pos f1]
  ·have hdn:R.dn m 0=false:=by unfold RS.dn;rw[o.fr,e];simp
   obtain⟨x,h1,h2⟩:=hd.dry m (by rw[o.M];exact hm) hdn;obtain⟨y,e1,e2⟩:=hd.fit.dev m hn (RS.G_up o.geo (by rw[o.M];exact hm) hdn);have hxy:y=x:=Option.some.inj (e1.symm.trans h1);subst hxy;unfold RS.szs at e2;rw[if_pos (by rw[o.M];exact hm),o.S,o.C]at e2;refine⟨y.d.last,by rw[image_some hn h1,if_neg (by rw[e2.failed];simp)],e2.len,e2.secs,fun z hz=> ?_⟩;have hs:=hd.sec m z (fun _=>by rw[o.S,o.C];exact hz);rw[sec_some h1]at hs;unfold Dsk.cur at hs;rw[h2]at hs;have hl:z<y.d.last.length:=by rw[e2.len];exact hz
   have hs':y.d.last.getD z zsec=R.s.sec m z:=hs;rw[List.getElem?_eq_getElem hl,<-hs',List.getD_eq_getElem?_getD,List.getElem?_eq_getElem hl];rfl
 rcases hf m with e|e
 ·exact .inl ⟨(one o1).1 e,(one o2).1 e⟩
 ·obtain⟨L,i1,i2,i3,i4⟩:=(one o1).2 e
  obtain⟨L',j1,j2,j3,j4⟩:=(one o2).2 e;have hL:L=L':=by
   refine List.ext_getElem? fun z=> ?_
   by_cases hz:z<1+S*C
   ·rw[i4 z hz,j4 z hz,hsec m z hm e hz]
   ·rw[List.getElem?_eq_none (by omega),List.getElem?_eq_none (by omega)]
  subst hL;exact .inr ⟨L,i3,by rw[i2];omega,i1,j1⟩
theorem Lays.of {R:RS} {x a b:BaySt} {ps:List Pat} (h:Lays {R with s:=x} a b ps):Lays R a b ps:=by
 obtain⟨L,h1,h2,h3⟩:=h;exact⟨L,h1,h2,⟨h3.fit,h3.n,h3.c0,h3.c1,h3.c2,h3.small,h3.at',h3.off,h3.pos⟩⟩
theorem sliced_take {W:World} {a:Option Addr} {n c:Nat} {ps:List Pat} (h:PSeg W (.slice a n c) ps) (k:Nat) (hk:k≤ps.length):PSeg W (sliced a 0 k c 3) (ps.take k):=by
 have h':=h.take' k hk;unfold sliced;by_cases hc:c=0
 ·rw[if_pos hc];exact h'
 ·rw[if_neg hc]
  obtain⟨a',c',h1,h2,h3,h4⟩:=h';simp only [Value.slice.injEq]at h1;obtain⟨rfl,e2,rfl⟩:=h1;refine⟨_,c,by rw[<-e2];rfl,h2,h3,h4.imp id ?_⟩;rintro ⟨b,o,rfl,hlt,hx⟩;exact⟨b,o,rfl,hlt,hx⟩
theorem sliced_drop {W:World} {a:Option Addr} {n c:Nat} {ps:List Pat} (h:PSeg W (.slice a n c) ps) (hnc:ps.length≤c) (k:Nat) (hk:k≤ps.length):PSeg W (sliced a k ps.length c 3) (ps.drop k):=by
 unfold sliced;by_cases hc:c=k
 ·rw[if_pos hc,show ps.length-k=0 by omega,List.drop_of_length_le (by omega)]
  exact PSeg.nil' W a _
 ·rw[if_neg hc]
  by_cases hp:ps= []
  ·subst hp
   obtain rfl:k=0:=by simpa using hk
   exact PSeg.nil' W _ _
  ·obtain⟨b,o,rfl,-,-⟩:=PSeg.full h (List.length_pos_iff.2 hp)
   show PSeg W (.slice (some (Addr.add ⟨b,o,none⟩ (k*3))) (ps.length-k) (c-k)) (ps.drop k)
   rw[Addr.add_lit];exact h.drop' k hk (c-k)
theorem ln_counts {w0 W:World} {T:Nat->Nat} {A:Adr} {R:RS} (h:Ln w0 W T A R) {y:Int} (h1:R.s.cnt 1=y):
  Calls Tryz.prog 26 #[.pointer (some ⟨A.b,0,none⟩)] W fun e w'=>∃x z,e=.returned (.agg #[.int .i64 x,.int .i64 y,.int .i64 z])/\Below W.heap.size W w':=by
 obtain⟨lg,vw,X,hr⟩:=h.rw;refine(bay_counts hr.bay).mono ?_;rintro e w' ⟨rfl,hb⟩;refine⟨R.s.cnt 0,R.s.cnt 2,?_,hb⟩;unfold cntVal;rw[<-h1]
theorem ln_image {w0 W:World} {T:Nat->Nat} {A:Adr} {R:RS} (h:Ln w0 W T A R) (m:Nat) {L:List Sec} (hL:R.s.image (m:Int)=(0,some L)):
  Calls Tryz.prog 31 #[.pointer (some ⟨A.b,0,none⟩),.int .i64 m] W fun e w'=>∃v,e=.returned (.tuple #[v,.int .u16 0])/\Below W.heap.size W w'/\w'.ownsRow W.heap.size 5 1 v (128*L.length) (ucells L.flatten):=by
 obtain⟨lg,vw,X,hr⟩:=h.rw;have:=bay_image hr.bay (m:Int);rw[hL]at this;refine this.mono ?_;rintro e w' ⟨v,rfl,h1,h2,-⟩;obtain⟨-,k⟩:=h2 L rfl;rw[secCells_flat,Nat.mul_comm]at k;exact⟨v,rfl,h1,k⟩
theorem ln_image_none {w0 W:World} {T:Nat->Nat} {A:Adr} {R:RS} (h:Ln w0 W T A R) (m:Nat) (hL:R.s.image (m:Int)=(0,none)):
  Calls Tryz.prog 31 #[.pointer (some ⟨A.b,0,none⟩),.int .i64 m] W fun e w'=>e=.returned (.tuple #[.slice none 0 0,.int .u16 0])/\Below W.heap.size W w':=by
 obtain⟨lg,vw,X,hr⟩:=h.rw;have:=bay_image hr.bay (m:Int);rw[hL]at this;refine this.mono ?_;rintro e w' ⟨v,rfl,h1,-,h2⟩;exact⟨by rw[h2 rfl];rfl,h1⟩
end Go.Proofs.YtebmephdnjccjaaGreat
namespace Go
theorem wpList_max {P:Program} {ops:Array Oper} {rest:List Oper} {o:Oper} {a:Act} {Q:Exit->Act->World->Prop} {w:World} (hg:o.guard=none) (x y:Operand) (t:TypeId) (hop:o.op=Op.call {callee:=Callee.builtin Builtin.max,args:= #[x,y],argTypes:= #[t,t]})
  (p q r:Int) (hx:a.eval x=.int .i64 p) (hy:a.eval y=.int .i64 q) (hr:r=if p<q then q else p)
  (h:wpList P ops Q rest (a.put o.dst (.int .i64 r)) w):wpList P ops Q (o::rest) a w:=by
 refine wpList_plain hg fun K' hK'=> ?_
 have hrun:(Builtin.max_ #[t,t] o.type #[.int .i64 p,.int .i64 q]).run P w=.ok (.int .i64 r) w:=by
  subst hr;by_cases hpq:p<q
  ·simp[Builtin.max_,Builtin.max2,hpq]
  ·simp[Builtin.max_,Builtin.max2,hpq]
 unfold Oper.wp;simp[execOp,hop,resolve,invoke,builtin,hx,hy,hrun,Result.andThen];exact hK' _ _ h
theorem wpList_min {P:Program} {ops:Array Oper} {rest:List Oper} {o:Oper} {a:Act} {Q:Exit->Act->World->Prop} {w:World} (hg:o.guard=none) (x y:Operand) (t:TypeId) (hop:o.op=Op.call {callee:=Callee.builtin Builtin.min,args:= #[x,y],argTypes:= #[t,t]})
  (p q r:Int) (hx:a.eval x=.int .i64 p) (hy:a.eval y=.int .i64 q) (hr:r=if q<p then q else p)
  (h:wpList P ops Q rest (a.put o.dst (.int .i64 r)) w):wpList P ops Q (o::rest) a w:=by
 refine wpList_plain hg fun K' hK'=> ?_
 have hrun:(Builtin.min_ #[t,t] o.type #[.int .i64 p,.int .i64 q]).run P w=.ok (.int .i64 r) w:=by
  subst hr;by_cases hpq:q<p
  ·simp[Builtin.min_,Builtin.min2,hpq]
  ·simp[Builtin.min_,Builtin.min2,hpq]
 unfold Oper.wp;simp[execOp,hop,resolve,invoke,builtin,hx,hy,hrun,Result.andThen];exact hK' _ _ h
theorem wpList_slice_h {P:Program} {ops:Array Oper} {rest:List Oper} {o:Oper} {a:Act} {Q:Exit->Act->World->Prop} {w:World} (hg:o.guard=none) (t:TypeId) (x y:Operand) (hop:o.op=Op.slice t x none (some y) none) (ht:P.underlying t=some (.slice (P.elem t))) (sz:Nat) (hs:∀w,(sizeOf (P.elem t)).run P w=.ok sz w)
  (va:Option Addr) (n c k:Nat) (hx:a.eval x=.slice va n c) (hy:a.eval y=.int .i64 k) (hk:k≤c) (h:∀v,v=sliced va 0 k c sz->wpList P ops Q rest (a.put o.dst v) w):wpList P ops Q (o::rest) a w:=by
 refine wpList_plain hg fun K' hK'=> ?_
 have hrun:(Instr.sliceAt t (.slice va n c) none (some (.int .i64 k)) none).run P w=.ok (sliced va 0 k c sz) w:=by
  rw[run_sliceAt_slice (h:=ht),run_slice_h (ht:=ht) (h0:=by omega) (h2:=by omega),hs];rfl
 unfold Oper.wp;simp[execOp,hop,hx,hy,hrun,Result.andThen];exact hK' _ _ (h _ rfl)
theorem wpList_slice_l {P:Program} {ops:Array Oper} {rest:List Oper} {o:Oper} {a:Act} {Q:Exit->Act->World->Prop} {w:World} (hg:o.guard=none) (t:TypeId) (x y:Operand) (hop:o.op=Op.slice t x (some y) none none) (ht:P.underlying t=some (.slice (P.elem t))) (sz:Nat) (hs:∀w,(sizeOf (P.elem t)).run P w=.ok sz w)
  (va:Option Addr) (n c k:Nat) (hx:a.eval x=.slice va n c) (hy:a.eval y=.int .i64 k) (hk:k≤n) (h:∀v,v=sliced va k n c sz->wpList P ops Q rest (a.put o.dst v) w):wpList P ops Q (o::rest) a w:=by
 refine wpList_plain hg fun K' hK'=> ?_
 have hrun:(Instr.sliceAt t (.slice va n c) (some (.int .i64 k)) none none).run P w=.ok (sliced va k n c sz) w:=by
  rw[run_sliceAt_slice (h:=ht),run_slice_l (ht:=ht) (h0:=by omega) (h1:=by omega),hs];rfl
 unfold Oper.wp;simp[execOp,hop,hx,hy,hrun,Result.andThen];exact hK' _ _ (h _ rfl)
open Go.RowKit
end Go
namespace Go.Proofs.YtebmephdnjccjaaGreat
open Go.RowKit
theorem RowsPlaced_no (m c s ring:Int) (lazy:Bool) (more down at':Int) (pv:Value) (ps:List Pat) (w:World) (hv:PSeg w pv ps) (h:mayIs m c s ring=false):
  Calls Tryz.prog 7 #[madeVal m c s ring lazy more,.int .i64 down,pv,.int .i64 at'] w fun e w'=>e=.returned (.bool true)/\Below w.heap.size w w':=by
 have hb0:Below w.heap.size w (w.alloc (.cells #[.int .i64 m,.int .i64 c,.int .i64 s,.int .i64 ring,.bool lazy,.int .i64 more] 25)):=(Below.refl _ _).alloc (Nat.le_refl _) _;have ha0:At (w.alloc (.cells #[.int .i64 m,.int .i64 c,.int .i64 s,.int .i64 ring,.bool lazy,.int .i64 more] 25)) w.heap.size #[.int .i64 m,.int .i64 c,.int .i64 s,.int .i64 ring,.bool lazy,.int .i64 more] 25:=At.new _ _ _;have hb1:Below w.heap.size w ((w.alloc (.cells #[.int .i64 m,.int .i64 c,.int .i64 s,.int .i64 ring,.bool lazy,.int .i64 more] 25)).alloc (.cells #[.int .i64 0,.int .i64 0,.int .i64 0,.bool false,.slice none 0 0,pv,.slice none 0 0] 41)):=hb0.alloc hb0.size _;have ha1:=ha0.alloc (.cells #[.int .i64 0,.int .i64 0,.int .i64 0,.bool false,.slice none 0 0,pv,.slice none 0 0] 41);obtain⟨va,vc,rfl⟩:=hv.shape;have ku:=placed_much m c s _ _ ps _ (At.new (w.alloc (.cells #[.int .i64 m,.int .i64 c,.int .i64 s,.int .i64 ring,.bool lazy,.int .i64 more] 25)) #[.int .i64 0,.int .i64 0,.int .i64 0,.bool false,.slice none 0 0,(.slice va ps.length vc),.slice none 0 0] 41) (hv.below hb1);rw[size_alloc w (.cells #[.int .i64 m,.int .i64 c,.int .i64 s,.int .i64 ring,.bool lazy,.int .i64 more] 25)]at ku;have KU:=Lib.hid ku;clear ku;have KK:Hid (∀W,Calls Tryz.prog 10 #[] W fun e w'=>e=.returned (.bool true)/\Below W.heap.size W w'):=r14_known;have HB1:=Lib.hid hb1;have HA1:=Lib.hid ha1;have hl0:=ha0.lt;have HSZ:Hid ((w.alloc (.cells #[.int .i64 m,.int .i64 c,.int .i64 s,.int .i64 ring,.bool lazy,.int .i64 more] 25)).heap.size=w.heap.size+1):=size_alloc _ _;have HV:=Lib.hid hv;obtain⟨hlf,-⟩:ps.length≤140737488355328/\True:=⟨by obtain⟨_,_,_,h,_⟩:=hv;exact h,trivial⟩;have KB:=Lib.hid (fun W=>r14_begun_no m c s ring lazy more down W h);have KM:=Lib.hid (fun W=>r14_may m c s ring lazy more W h);unfold madeVal geo at*;clear hb0 ha0 hb1 ha1 h hv;go_enter Tryz.func7,Tryz.ntmps7
 go_wp2_with (first
  |(go_at_call 9;(with_reducible refine KU.out.mono ?_);rintro e w1 ⟨r,rfl,hr,hbw⟩;have HMU:=Lib.hid hr;have HB2:=Lib.hid (below_then HB1.out hbw);have HA2:=Lib.hid (HA1.out.below hbw HA1.out.lt);clear hr hbw)
  |(go_at_call 10;(with_reducible refine(KK.out _).mono ?_);rintro e w2 ⟨rfl,hb2⟩;have HB3:=Lib.hid (below_then HB2.out hb2);have ha2:=HA2.out.below hb2 HA2.out.lt;have c0:=ha2.cell 0;have c1:=ha2.cell 1;have c2:=ha2.cell 2;have c3:=ha2.cell 3;have c4:=ha2.cell 4;have c5:=ha2.cell 5;have hl2:=ha2.lt;have HA3:=Lib.hid ha2;clear ha2 hb2)
  |(go_at_call 11;(with_reducible refine(KB.out w2).mono ?_);rintro e w3 ⟨rfl,hb3⟩;clear c0 c1 c2 c3 c4 c5;have ha3:=HA3.out.below hb3 HA3.out.lt;have c0:=ha3.cell 0;have c1:=ha3.cell 1;have c2:=ha3.cell 2;have c3:=ha3.cell 3;have c4:=ha3.cell 4;have c5:=ha3.cell 5;have hl3:=ha3.lt;have HA4:=Lib.hid ha3;have HB4:=Lib.hid (below_then HB3.out hb3);clear ha3 hb3)
  |(go_at_call 11;(with_reducible refine(KB.out w3).mono ?_);rintro e w4 ⟨rfl,hb4⟩;clear c0 c1 c2 c3 c4 c5;have ha4:=HA4.out.below hb4 HA4.out.lt;have c0:=ha4.cell 0;have c1:=ha4.cell 1;have c2:=ha4.cell 2;have c3:=ha4.cell 3;have c4:=ha4.cell 4;have c5:=ha4.cell 5;have hl4:=ha4.lt;have HB5:=Lib.hid (below_then HB4.out hb4);clear ha4 hb4)
  |(go_at_call 12;(with_reducible refine(KM.out _).mono ?_);rintro e w5 ⟨rfl,hb5⟩;have HB6:=Lib.hid (below_then HB5.out hb5);clear hb5))
 all_goals (first|(go_ret;exact⟨rfl,HB6.out⟩)|(go_ret;exact⟨rfl,HB2.out⟩))
theorem RowsPlaced_go (M C S ring:Nat) (lazy:Bool) (more down at':Int) (pv:Value) (ps:List Pat) (w:World) (hv:PSeg w pv ps) (hg:geoIs M C S=true) (h5:5≤ring) (h6:ring≤2048) (hcp:∀a n c,pv=.slice a n c->n≤c):
  Calls Tryz.prog 7 #[madeVal M C S ring lazy more,.int .i64 down,pv,.int .i64 at'] w fun e w'=>e=.returned (.bool true)/\Below w.heap.size w w':=by
 have hb0:Below w.heap.size w (w.alloc (.cells #[.int .i64 M,.int .i64 C,.int .i64 S,.int .i64 ring,.bool lazy,.int .i64 more] 25)):=(Below.refl _ _).alloc (Nat.le_refl _) _;have ha0:At (w.alloc (.cells #[.int .i64 M,.int .i64 C,.int .i64 S,.int .i64 ring,.bool lazy,.int .i64 more] 25)) w.heap.size #[.int .i64 M,.int .i64 C,.int .i64 S,.int .i64 ring,.bool lazy,.int .i64 more] 25:=At.new _ _ _;have hb1:Below w.heap.size w ((w.alloc (.cells #[.int .i64 M,.int .i64 C,.int .i64 S,.int .i64 ring,.bool lazy,.int .i64 more] 25)).alloc (.cells #[.int .i64 0,.int .i64 0,.int .i64 0,.bool false,.slice none 0 0,pv,.slice none 0 0] 41)):=hb0.alloc hb0.size _;have ha1:=ha0.alloc (.cells #[.int .i64 0,.int .i64 0,.int .i64 0,.bool false,.slice none 0 0,pv,.slice none 0 0] 41);obtain⟨va,vc,rfl⟩:=hv.shape;have ku:=placed_much M C S _ _ ps _ (At.new (w.alloc (.cells #[.int .i64 M,.int .i64 C,.int .i64 S,.int .i64 ring,.bool lazy,.int .i64 more] 25)) #[.int .i64 0,.int .i64 0,.int .i64 0,.bool false,.slice none 0 0,(.slice va ps.length vc),.slice none 0 0] 41) (hv.below hb1);rw[size_alloc w (.cells #[.int .i64 M,.int .i64 C,.int .i64 S,.int .i64 ring,.bool lazy,.int .i64 more] 25)]at ku;have KU:=Lib.hid ku;clear ku;have KK:Hid (∀W,Calls Tryz.prog 10 #[] W fun e w'=>e=.returned (.bool true)/\Below W.heap.size W w'):=r14_known;have HB1:=Lib.hid hb1;have HA1:=Lib.hid ha1;have hl0:=ha0.lt;have HSZ:Hid ((w.alloc (.cells #[.int .i64 M,.int .i64 C,.int .i64 S,.int .i64 ring,.bool lazy,.int .i64 more] 25)).heap.size=w.heap.size+1):=size_alloc _ _;have HV:=Lib.hid hv;obtain⟨hlf,-⟩:ps.length≤140737488355328/\True:=⟨by obtain⟨_,_,_,h,_⟩:=hv;exact h,trivial⟩;have hcap:ps.length≤vc:=hcp _ _ _ rfl;have KB:=Lib.hid (fun W=>r14_begun M C S ring lazy more down W hg h5 h6);have HR6:=Lib.hid h6;have hgp:=geo_pos hg;have hm2:=hgp.2.1;have HB42:Hid (S*C≤4096):=hgp.2.2.2;clear hgp;obtain⟨kk,hkk⟩:∃kk:Nat,(kk:Int)=if (0:Int)<(if (ps.length:Int)<at' then (ps.length:Int)else at')then (if (ps.length:Int)<at' then (ps.length:Int)else at')else 0:=⟨(if (0:Int)<(if (ps.length:Int)<at' then (ps.length:Int)else at')then (if (ps.length:Int)<at' then (ps.length:Int)else at')else 0).toNat,by split<;>split<;>omega⟩;have hkl:kk≤ps.length:=by
  by_cases e1:(ps.length:Int)<at'
  ·rw[if_pos e1]at hkk
   split at hkk<;>omega
  ·rw[if_neg e1]at hkk
   split at hkk<;>omega
 have HKK:=Lib.hid hkk;have HKL:=Lib.hid hkl;unfold madeVal geo at*;clear hb0 ha0 hb1 ha1 hv h5 h6 hg hkk hcp;go_enter Tryz.func7,Tryz.ntmps7;go_upto_region 9 with
  (first
  |(go_at_call 9;(with_reducible refine KU.out.mono ?_);rintro e w1 ⟨r,rfl,hr,hbw⟩;have HMU:=Lib.hid hr;have HB2:=Lib.hid (below_then HB1.out hbw);have HA2:=Lib.hid (HA1.out.below hbw HA1.out.lt);clear hr hbw)
  |(go_at_call 10;(with_reducible refine(KK.out _).mono ?_);rintro e w2 ⟨rfl,hb2⟩;have HB3:=Lib.hid (below_then HB2.out hb2);have ha2:=HA2.out.below hb2 HA2.out.lt;have c0:=ha2.cell 0;have c1:=ha2.cell 1;have c2:=ha2.cell 2;have c3:=ha2.cell 3;have c4:=ha2.cell 4;have c5:=ha2.cell 5;have hl2:=ha2.lt;have HA3:=Lib.hid ha2;clear ha2 hb2)
  |(go_at_call 11;(with_reducible refine(KB.out w2).mono ?_);rintro e w3 ⟨T1,A1,R1,rfl,hl3,hbg3⟩;clear c0 c1 c2 c3 c4 c5;have ha3:=HA3.out.below hl3.bel HA3.out.lt;have c0:=ha3.cell 0;have c1:=ha3.cell 1;have c2:=ha3.cell 2;have c3:=ha3.cell 3;have c4:=ha3.cell 4;have c5:=ha3.cell 5;have hl3':=ha3.lt;have HL3:=Lib.hid hl3;have HG3:=Lib.hid hbg3;clear ha3 hl3 hbg3)
  |(go_at_call 11;(with_reducible refine(KB.out w3).mono ?_);rintro e w4 ⟨T2,A2,R2,rfl,hl4,hbg4⟩;clear c0 c1 c2 c3 c4 c5;have HL4:=Lib.hid hl4;have HG4:=Lib.hid hbg4;clear hl4 hbg4))
 any_goals (first|(go_ret;exact⟨rfl,HB2.out⟩)|skip)
 have HFW:Hid (ps.length≤20000):=HMU.out (by first|assumption|(exact Bool.eq_false_iff.2 (by assumption))|(cases r<;>simp_all));have HBE:Hid (∀W,Below w2.heap.size w2 W->Below w.heap.size w W):=fun W hW=>HB3.out.trans (hW.mono HB3.out.size)
 have HPV:Hid (∀W,Below w2.heap.size w2 W->PSeg W (.slice va ps.length vc) ps):=fun W hW=>HV.out.below (HBE.out W hW)
 have HMD:Hid (∀W,Below w2.heap.size w2 W->At W w.heap.size #[.int .i64 M,.int .i64 C,.int .i64 S,.int .i64 ring,.bool lazy,.int .i64 more] 25):=fun W hW=>HA3.out.below hW HA3.out.lt
 have HW4:Hid (Below w2.heap.size w2 w4):=HL3.out.bel.trans (HL4.out.bel.mono HL3.out.bel.size);have H0:=Lib.hid (Two.start HL3.out.ln HL4.out.ln);have HO1:=Lib.hid (HG3.out.pd HR6.out HL3.out.good);have HO2:=Lib.hid (HG4.out.pd HR6.out HL4.out.good);have HCN:Hid (R1.s.cnt 1=(ring:Int)+1):=HG3.out.c1;have HSE:Hid (∀m z,m<M->(fun j:Nat=>if (j:Int)=goneOf M down then (0:Int)else -1) m= -1->z<1+S*C->R1.s.sec m z=R2.s.sec m z):=fun m z hm hf hz=>by
  have hn:(m:Int)≠goneOf M down:=fun e=>by
   have hf':(if (m:Int)=goneOf M down then (0:Int)else -1)= -1:=hf;rw[if_pos e]at hf';omega
  rw[begun_secs HG3.out HL3.out.good hm hz hn,begun_secs HG4.out HL4.out.good hm hz hn]
 have HFR:Hid (∀m:Nat,(fun j:Nat=>if (j:Int)=goneOf M down then (0:Int)else -1) m=0\/(fun j:Nat=>if (j:Int)=goneOf M down then (0:Int)else -1) m= -1):=fun m=>by
  by_cases h:(m:Int)=goneOf M down
  ·left;exact if_pos h
  ·right;exact if_neg h
 generalize (fun j:Nat=>if (j:Int)=goneOf M down then (0:Int)else -1)=fr0 at*;generalize tidy w4 T1=U1 at*;generalize tidy w4 T2=U2 at*;clear HL3 HL4 HG3 HG4 HA3 HB3 HB2 HMU KU KK KB;obtain⟨mn,hmn⟩:∃mn:Int,mn=if (ps.length:Int)<at' then (ps.length:Int)else at':=⟨_,rfl⟩;have HK1:=HKK.out;rw[<-hmn]at HK1;have HMN:=Lib.hid hmn;have HKX:=Lib.hid HK1;have HCP:Hid (ps.length≤vc):=hcap;clear HK1 hmn HKK hcap;have HT2:Hid (∀W,Below w2.heap.size w2 W->∀v,v=sliced va 0 kk vc 3->PSeg W v (ps.take kk)):=fun W hW v e=>by rw[e];exact sliced_take (HPV.out W hW) kk HKL.out
 have HT3:Hid (∀W,Below w2.heap.size w2 W->∀v,v=sliced va kk ps.length vc 3->PSeg W v (ps.drop kk)):=fun W hW v e=>by rw[e];exact sliced_drop (HPV.out W hW) HCP.out kk HKL.out
 have hkc:kk≤vc:=Nat.le_trans HKL.out HCP.out;have hkn:=HKL.out;have HFT:Hid ((ps.take kk).length≤20000):=by show _≤_;rw[List.length_take];have:=HFW.out;omega
 have HFD:Hid ((ps.drop kk).length≤20000):=by show _≤_;rw[List.length_drop];have:=HFW.out;omega
 have HSL:Hid (∀w,(sizeOf (Tryz.prog.elem 38)).run Tryz.prog w=.ok 3 w):=fun w=>by rfl
 by_cases hz:placeCode M (S*C) ps=0
 ·have hzu:=(place_parts M (S*C) ps kk).1 hz
  have HZ:=Lib.hid hz;have HZU:=Lib.hid hzu.1;have HZV:=Lib.hid hzu.2;clear hz hzu
  go_wp2_with (first
   |(refine wpList_min rfl _ _ 3 rfl _ _ mn rfl rfl HMN.out ?_)
   |(refine wpList_max rfl _ _ 3 rfl _ _ (kk:Int) rfl rfl HKX.out ?_)
   |(refine wpList_slice_h rfl 38 _ _ rfl (by kernel_rfl) 3 HSL.out va ps.length vc kk rfl rfl hkc ?_;intro v1 hv1;have HV1:=Lib.hid hv1;clear hv1)
   |(refine wpList_slice_l rfl 38 _ _ rfl (by kernel_rfl) 3 HSL.out va ps.length vc kk rfl rfl hkn ?_;intro v2 hv2;have HV2:=Lib.hid hv2;clear hv2)
   |(go_at_call 33;(with_reducible refine(ln_place_ok H0.out.one HO1.out (by first|omega|(have:=HFT.out;omega)|(have:=HFT.out;have:=HFD.out;omega)) (.slice va ps.length vc) ps (HPV.out _ (HW4.out)) HFW.out HZ.out).mono ?_);rintro e w5 ⟨rfl,T5,s5,hl,hs,hp,hy⟩;have ht:=H0.out.step hl hs;have hal:=(Below.refl w5.heap.size w5).alloc (Nat.le_refl _) (.cells #[.int .i64 0,.int .u16 0] 45);have HX16:=Lib.hid ((ht.newBx #[.int .i64 0,.int .u16 0] 45));have HT5:=Lib.hid ((ht.below hal));have HP5:=Lib.hid hp;have HY5:=Lib.hid hy;clear hy;clear ht hal hl hs hp)
   |(go_at_call 33;(with_reducible refine(ln_place_ok HT5.out.swap.one HO2.out (by first|omega|(have:=HFT.out;omega)|(have:=HFT.out;have:=HFD.out;omega)) v1 (ps.take kk) (HT2.out _ (HT5.out.one.bel) v1 HV1.out) HFT.out HZU.out).mono ?_);rintro e w6 ⟨rfl,T6,s6,hl,hs,hp,hy⟩;have ht:=HT5.out.swap.step hl hs;have bx16:=HT5.out.swap.keepBx hs HX16.out.swap (by decide) (by decide) (by decide) (by decide);have hal:=(Below.refl w6.heap.size w6).alloc (Nat.le_refl _) (.cells #[.int .i64 0,.int .u16 0] 45);have HX17:=Lib.hid ((ht.newBx #[.int .i64 0,.int .u16 0] 45).swap);clear HX16;have HX16:=Lib.hid ((bx16.below hal).swap);clear bx16;have HT6:=Lib.hid ((ht.below hal).swap);have HP6:=Lib.hid hp;have HY6:=Lib.hid hy;clear hy;clear ht hal hl hs hp)
   |(go_at_call 33;(with_reducible refine(ln_place_ok HT6.out.swap.one HP6.out (by first|omega|(have:=HFT.out;omega)|(have:=HFT.out;have:=HFD.out;omega)) v2 (ps.drop kk) (HT3.out _ (HT6.out.one.bel) v2 HV2.out) HFD.out HZV.out).mono ?_);rintro e w7 ⟨rfl,T7,s7,hl,hs,hp,hy⟩;have ht:=HT6.out.swap.step hl hs;have bx16:=HT6.out.swap.keepBx hs HX16.out.swap (by decide) (by decide) (by decide) (by decide);have bx17:=HT6.out.swap.keepBx hs HX17.out.swap (by decide) (by decide) (by decide) (by decide);have hal:=(Below.refl w7.heap.size w7).alloc (Nat.le_refl _) (.cells #[.int .i64 0,.int .u16 0] 45);have HX18:=Lib.hid ((ht.newBx #[.int .i64 0,.int .u16 0] 45).swap);clear HX16;have HX16:=Lib.hid ((bx16.below hal).swap);clear bx16;clear HX17;have HX17:=Lib.hid ((bx17.below hal).swap);clear bx17;have HT7:=Lib.hid ((ht.below hal).swap);have HP7:=Lib.hid hp;have HY7:=Lib.hid hy;clear hy;clear ht hal hl hs hp)
   |(go_at_call 33;(with_reducible refine(ln_place_ok HT7.out.swap.one HP7.out (by first|omega|(have:=HFT.out;omega)|(have:=HFT.out;have:=HFD.out;omega)) (.slice va ps.length vc) ps (HPV.out _ (HT7.out.one.bel)) HFW.out HZ.out).mono ?_);rintro e w8 ⟨rfl,T8,s8,hl,hs,hp,hy⟩;have ht:=HT7.out.swap.step hl hs;have bx16:=HT7.out.swap.keepBx hs HX16.out.swap (by decide) (by decide) (by decide) (by decide);have bx17:=HT7.out.swap.keepBx hs HX17.out.swap (by decide) (by decide) (by decide) (by decide);have bx18:=HT7.out.swap.keepBx hs HX18.out.swap (by decide) (by decide) (by decide) (by decide);have hal:=(Below.refl w8.heap.size w8).alloc (Nat.le_refl _) (.cells #[.int .i64 0,.int .u16 0] 45);have HX19:=Lib.hid ((ht.newBx #[.int .i64 0,.int .u16 0] 45).swap);clear HX16;have HX16:=Lib.hid ((bx16.below hal).swap);clear bx16;clear HX17;have HX17:=Lib.hid ((bx17.below hal).swap);clear bx17;clear HX18;have HX18:=Lib.hid ((bx18.below hal).swap);clear bx18;have HT8:=Lib.hid ((ht.below hal).swap);have HP8:=Lib.hid hp;have HY8:=Lib.hid hy;clear hy;clear ht hal hl hs hp))
  obtain⟨W9,hW9⟩:∃W9,W9=w8.alloc (.cells #[.int .i64 0,.int .u16 0] 45):=⟨_,rfl⟩;rw[<-hW9]at HT8 HX16 HX17 HX18 HX19 ⊢;generalize tidy W9 _=U5 at*;have hx16:=HX16.out.at';have q160:=hx16.cell 0;have q161:=hx16.cell 1;have hl16:=hx16.lt;clear hx16;have hx17:=HX17.out.at';have q170:=hx17.cell 0;have q171:=hx17.cell 1;have hl17:=hx17.lt;clear hx17;have hx18:=HX18.out.at';have q180:=hx18.cell 0;have q181:=hx18.cell 1;have hl18:=hx18.lt;clear hx18;have hx19:=HX19.out.at';have q190:=hx19.cell 0;have q191:=hx19.cell 1;have hl19:=hx19.lt;clear hx19;have HFRE:Hid (R2.fr=R1.fr):=HO2.out.fr.trans HO1.out.fr.symm;have HIM:Hid (∀m,m<M->((RS.dries {R1 with s:=s5} R1.M).image (m:Int)=(0,none)/\(RS.dries {R2 with s:=s8} R2.M).image (m:Int)=(0,none))\/∃L:List Sec,(∀s∈L,s.length=128)/\L.length≤4097/\(RS.dries {R1 with s:=s5} R1.M).image (m:Int)=(0,some L)/\(RS.dries {R2 with s:=s8} R2.M).image (m:Int)=(0,some L)):=fun m hm=>
   placed_images HP5.out HP8.out HFR.out (fun m z hm hf hz=>lays_same (k:=kk) HFRE.out HY5.out HY6.out HY7.out.of HY8.out.of (by omega) (fun r=>by unfold RS.dn;rw[HO1.out.fr,hf];simp) (by have:=HB42.out;omega) (HSE.out m z hm hf hz)) hm
  clear HX16 HX17 HX18 HX19 HY5 HY6 HY7 HY8 HP6 HP7 hW9;go_quiet (fail);have HT9:=Lib.hid (HT8.out.below (below_drewN (Below.refl _ _) nq))
  go_wp2_with (first
   |(go_at_call 34;(with_reducible refine(ln_barrier HT9.out.one HP5.out (by have:=HFW.out;omega)).mono ?_);rintro e wa ⟨rfl,Ta,hla,hsa⟩;have HTA:=Lib.hid (HT9.out.step hla hsa);clear hla hsa)
   |(go_at_call 34;(with_reducible refine(ln_barrier HTA.out.swap.one HP8.out (by have:=HFW.out;have:=HFT.out;have:=HFD.out;omega)).mono ?_);rintro e wb ⟨rfl,Tb,hlb,hsb⟩;have HTB:=Lib.hid (HTA.out.swap.step hlb hsb);clear hlb hsb))
  have HL1:=Lib.hid HTB.out.two;have HL2:=Lib.hid HTB.out.one;clear HTA HTB HT9 HT8 HP5 HP8;go_loopw [20] (fun q wr=>∃m:Nat,m≤M/\q=.int .i64 m/\Below wb.heap.size wb wr) (fun q _=>M-(intOf q).toNat);case atStart=>exact⟨0,by omega,rfl,Below.refl _ _⟩
  case round=>
   obtain⟨m,hm,rfl,hbw⟩:=hrel;have HBW:=Lib.hid hbw;have hxm:=HMD.out wr (HL1.out.bel.trans (hbw.mono HL1.out.bel.size));have c0:=hxm.cell 0;have hxl:=hxm.lt;clear hxm hbw;by_cases hmM:m<M
   ·have M1:Hid (m+1≤M):=hmM
    rcases HIM.out m hmM with ⟨i1,i2⟩|⟨L,hls,hlf,i1,i2⟩
    ·have J1:=Lib.hid i1
     have J2:=Lib.hid i2;clear i1 i2
     go_wp2_with (first
      |(go_at_call 31;(with_reducible refine(ln_image_none (HL1.out.below HBW.out) m J1.out).mono ?_);rintro e w6' ⟨rfl,hb6⟩;have HB6:Hid (Below wb.heap.size wb w6'):=HBW.out.trans (hb6.mono HBW.out.size);clear hb6 c0)
      |(go_at_call 31;(with_reducible refine(ln_image_none (HL2.out.below HB6.out) m J2.out).mono ?_);rintro e w7' ⟨rfl,hb7⟩;have HB7:Hid (Below wb.heap.size wb w7'):=HB6.out.trans (hb7.mono HB6.out.size);clear hb7)
      |(go_at_call 15;(with_reducible refine(same_eq (l:= []) (by simp) (Seg.nil _) (Seg.nil _)).mono ?_);rintro e w8' ⟨rfl,hb8⟩;have HB8:Hid (Below wb.heap.size wb w8'):=HB7.out.trans (hb8.mono HB7.out.size);clear hb8))
     exact⟨⟨m+1,M1.out,by go_num,HB8.out⟩,by simp[intOf];omega⟩
    ·have J1:=Lib.hid i1
     have J2:=Lib.hid i2;have HFE:Hid (L.flatten.length≤9223372036854775807):=by show _≤_;rw[flatten_length hls];omega
     clear i1 i2 hls hlf
     go_wp2_with (first
      |(go_at_call 31;(with_reducible refine(ln_image (HL1.out.below HBW.out) m J1.out).mono ?_);rintro e w6' ⟨v6,rfl,hb6,ho6⟩;obtain⟨x6,d6,rfl⟩:=ownsRow_shape ho6;have HO6:=Lib.hid ho6;have HB6:Hid (Below wb.heap.size wb w6'):=HBW.out.trans (hb6.mono HBW.out.size);clear hb6 c0 ho6)
      |(go_at_call 31;(with_reducible refine(ln_image (HL2.out.below HB6.out) m J2.out).mono ?_);rintro e w7' ⟨v7,rfl,hb7,ho7⟩;obtain⟨x7,d7,rfl⟩:=ownsRow_shape ho7;have HSG6:=Lib.hid (seg_of_row (ownsRow_mod HO6.out (Chg.ofBelow hb7 (fun _=>False)) (fun _ _ e=>e)));have HSG7:=Lib.hid (seg_of_row ho7);have HB7:Hid (Below wb.heap.size wb w7'):=HB6.out.trans (hb7.mono HB6.out.size);clear hb7 ho7)
      |(go_at_call 15;(with_reducible refine(same_eq HFE.out HSG6.out HSG7.out).mono ?_);rintro e w8' ⟨rfl,hb8⟩;have HB8:Hid (Below wb.heap.size wb w8'):=HB7.out.trans (hb8.mono HB7.out.size);clear hb8))
     exact⟨⟨m+1,M1.out,by go_num,HB8.out⟩,by simp[intOf];omega⟩
   ·obtain rfl:M=m:=by omega
    go_wp2;go_ret;exact⟨rfl,HBE.out _ (HL1.out.bel.trans (HBW.out.mono HL1.out.bel.size))⟩
 ·obtain⟨x,hx⟩:∃x:Int,x=((placeCode M (S*C) ps:Nat):Int):=⟨_,rfl⟩
  obtain⟨xu,hxu⟩:∃x:Int,x=((placeCode M (S*C) (ps.take kk):Nat):Int):=⟨_,rfl⟩;obtain⟨xv,hxv⟩:∃x:Int,x=((placeCode M (S*C) (ps.drop kk):Nat):Int):=⟨_,rfl⟩;have hpp:=place_parts M (S*C) ps kk;have hx0:¬x=0:=by omega
  have hxb:(x==0)=false:=beq_eq_false_iff_ne.2 hx0;have huv:¬xu=0\/(xu=0/\¬xv=0):=by
   by_cases e:xu=0
   ·refine .inr ⟨e,fun e2=>hz (hpp.2 ⟨by omega,by omega⟩)⟩
   ·exact .inl e
  have HX:=Lib.hid hx;have HXV:=Lib.hid hxv;have HZN:=Lib.hid hz;clear hz hpp hx hxv;rcases huv with hu|⟨hu,hv0⟩
  ·have hub:(xu==0)=false:=beq_eq_false_iff_ne.2 hu
   have HXU:=Lib.hid hxu;clear hxu
   go_wp2_with (first
    |(refine wpList_min rfl _ _ 3 rfl _ _ mn rfl rfl HMN.out ?_)
    |(refine wpList_max rfl _ _ 3 rfl _ _ (kk:Int) rfl rfl HKX.out ?_)
    |(refine wpList_slice_h rfl 38 _ _ rfl (by kernel_rfl) 3 HSL.out va ps.length vc kk rfl rfl hkc ?_;intro v1 hv1;have HV1:=Lib.hid hv1;clear hv1)
    |(refine wpList_slice_l rfl 38 _ _ rfl (by kernel_rfl) 3 HSL.out va ps.length vc kk rfl rfl hkn ?_;intro v2 hv2;have HV2:=Lib.hid hv2;clear hv2)
    |(go_at_call 33;(with_reducible refine(ln_place_any H0.out.one HO1.out (by first|omega|(have:=HFT.out;omega)|(have:=HFT.out;have:=HFD.out;omega)) (.slice va ps.length vc) ps (HPV.out _ (HW4.out)) HFW.out x HX.out).mono ?_);rintro e w5 ⟨rfl,T5,s5,hl,hs,hp,hy⟩;have ht:=H0.out.step hl hs;have hal:=(Below.refl w5.heap.size w5).alloc (Nat.le_refl _) (.cells #[.int .i64 0,.int .u16 x] 45);have HX16:=Lib.hid ((ht.newBx #[.int .i64 0,.int .u16 x] 45));have HT5:=Lib.hid ((ht.below hal));have HP5:=Lib.hid hp;have HY5:=Lib.hid hy;clear hy;clear ht hal hl hs hp)
    |(go_at_call 33;(with_reducible refine(ln_place_any HT5.out.swap.one HO2.out (by first|omega|(have:=HFT.out;omega)|(have:=HFT.out;have:=HFD.out;omega)) v1 (ps.take kk) (HT2.out _ (HT5.out.one.bel) v1 HV1.out) HFT.out xu HXU.out).mono ?_);rintro e w6 ⟨rfl,T6,s6,hl,hs,hp,hy⟩;have ht:=HT5.out.swap.step hl hs;have bx16:=HT5.out.swap.keepBx hs HX16.out.swap (by decide) (by decide) (by decide) (by decide);have hal:=(Below.refl w6.heap.size w6).alloc (Nat.le_refl _) (.cells #[.int .i64 0,.int .u16 xu] 45);have HX17:=Lib.hid ((ht.newBx #[.int .i64 0,.int .u16 xu] 45).swap);clear HX16;have HX16:=Lib.hid ((bx16.below hal).swap);clear bx16;have HT6:=Lib.hid ((ht.below hal).swap);have HP6:=Lib.hid hp;have HY6:=Lib.hid hy;clear hy;clear ht hal hl hs hp)
    |(go_at_call 33;(with_reducible refine(ln_place_any HT6.out.swap.one HP6.out (by first|omega|(have:=HFT.out;omega)|(have:=HFT.out;have:=HFD.out;omega)) v2 (ps.drop kk) (HT3.out _ (HT6.out.one.bel) v2 HV2.out) HFD.out xv HXV.out).mono ?_);rintro e w7 ⟨rfl,T7,s7,hl,hs,hp,hy⟩;have ht:=HT6.out.swap.step hl hs;have bx16:=HT6.out.swap.keepBx hs HX16.out.swap (by decide) (by decide) (by decide) (by decide);have bx17:=HT6.out.swap.keepBx hs HX17.out.swap (by decide) (by decide) (by decide) (by decide);have hal:=(Below.refl w7.heap.size w7).alloc (Nat.le_refl _) (.cells #[.int .i64 0,.int .u16 xv] 45);have HX18:=Lib.hid ((ht.newBx #[.int .i64 0,.int .u16 xv] 45).swap);clear HX16;have HX16:=Lib.hid ((bx16.below hal).swap);clear bx16;clear HX17;have HX17:=Lib.hid ((bx17.below hal).swap);clear bx17;have HT7:=Lib.hid ((ht.below hal).swap);have HP7:=Lib.hid hp;have HY7:=Lib.hid hy;clear hy;clear ht hal hl hs hp)
    |(go_at_call 33;(with_reducible refine(ln_place_any HT7.out.swap.one HP7.out (by first|omega|(have:=HFT.out;omega)|(have:=HFT.out;have:=HFD.out;omega)) (.slice va ps.length vc) ps (HPV.out _ (HT7.out.one.bel)) HFW.out x HX.out).mono ?_);rintro e w8 ⟨rfl,T8,s8,hl,hs,hp,hy⟩;have ht:=HT7.out.swap.step hl hs;have bx16:=HT7.out.swap.keepBx hs HX16.out.swap (by decide) (by decide) (by decide) (by decide);have bx17:=HT7.out.swap.keepBx hs HX17.out.swap (by decide) (by decide) (by decide) (by decide);have bx18:=HT7.out.swap.keepBx hs HX18.out.swap (by decide) (by decide) (by decide) (by decide);have hal:=(Below.refl w8.heap.size w8).alloc (Nat.le_refl _) (.cells #[.int .i64 0,.int .u16 x] 45);have HX19:=Lib.hid ((ht.newBx #[.int .i64 0,.int .u16 x] 45).swap);clear HX16;have HX16:=Lib.hid ((bx16.below hal).swap);clear bx16;clear HX17;have HX17:=Lib.hid ((bx17.below hal).swap);clear bx17;clear HX18;have HX18:=Lib.hid ((bx18.below hal).swap);clear bx18;have HT8:=Lib.hid ((ht.below hal).swap);have HP8:=Lib.hid hp;have HY8:=Lib.hid hy;clear hy;clear ht hal hl hs hp))
   obtain⟨W9,hW9⟩:∃W9,W9=w8.alloc (.cells #[.int .i64 0,.int .u16 x] 45):=⟨_,rfl⟩;rw[<-hW9]at HT8 HX16 HX17 HX18 HX19 ⊢;generalize tidy W9 _=U5 at*;have hx16:=HX16.out.at';have q160:=hx16.cell 0;have q161:=hx16.cell 1;have hl16:=hx16.lt;clear hx16;have hx17:=HX17.out.at';have q170:=hx17.cell 0;have q171:=hx17.cell 1;have hl17:=hx17.lt;clear hx17;have hx18:=HX18.out.at';have q180:=hx18.cell 0;have q181:=hx18.cell 1;have hl18:=hx18.lt;clear hx18;have hx19:=HX19.out.at';have q190:=hx19.cell 0;have q191:=hx19.cell 1;have hl19:=hx19.lt;clear hx19;have HQ16:=Lib.hid HX16.out.at';clear HX16 HX17 HX18 HX19 hW9;go_quiet (fail);have HT9:=Lib.hid (HT8.out.below (below_drewN (Below.refl _ _) nq));have hq:=HQ16.out.below (below_drewN (Below.refl _ _) nq) HQ16.out.lt;have r0:=hq.cell 0;have r1:=hq.cell 1;have hrl:=hq.lt;clear hq;generalize W9.drewN nq=Wq at*;have HT9':=HT9;have HMX:=HMD.out Wq HT9.out.one.bel;have hmx3:=HMX.cell 3;have hmxl:=HMX.lt;have HCT:Hid (({R1 with s:=s5}:RS).s.cnt 1=(ring:Int)+1):=by show s5.cnt 1=_;rw[HY5.out HZN.out];exact HCN.out
   have HSS:Hid (∀X,Below Wq.heap.size Wq X->X.cell? ⟨w.heap.size,3,none⟩=some (.int .i64 ring)):=fun X hX=>(HMX.below hX HMX.lt).cell 3
   have HDR : Hid (Below Wq.heap.size Wq Wq.drew) := (Below.refl _ _).drew; clear HMX; go_wp2; have HS0 := Lib.hid (HSS.out _ HDR.out); have HCC := Lib.hid (ln_counts (HT9.out.one.below HDR.out) HCT.out); clear r0 r1 hrl; have hwr : IntKind.i64.wrap ((ring : Int) + 1) = (ring : Int) + 1 := (IntWalk.i64_left _).trans (IntWalk.wrap64_in _ ⟨by omega, by have := HR6.out; omega⟩); refine wp_region_held_drew (S := fun X => X.cell? ⟨w.heap.size, 3, none⟩ = some (.int .i64 ring)) (by kernel_rfl) HS0.out (fun hHeld => ?_); refine wpAnyH_take (i := 0) (v := (.pointer (some ⟨A1.b, 0, none⟩))) rfl (by kernel_rfl) (by kernel_rfl) (by kernel_rfl) (fun _ _ _ h => h) (Or.inl ⟨by rfl, fun w hSw => by go_simp⟩) hHeld ?_; (try simp only [Act.put, List.setIfInBounds_toArray, List.set_cons_zero, List.set_cons_succ, List.getElem_toArray, List.getElem_cons_zero]); refine wpAnyH_take (i := 3) (v := (.pointer (some ⟨w.heap.size, 3, none⟩))) rfl (by kernel_rfl) (by kernel_rfl) (by kernel_rfl) (fun _ _ _ h => h) (Or.inl ⟨by rfl, fun w hSw => by go_simp⟩) hHeld ?_; (try simp only [Act.put, List.setIfInBounds_toArray, List.set_cons_zero, List.set_cons_succ, List.getElem_toArray, List.getElem_cons_succ, List.getElem_cons_zero]); refine wpAnyH_take (i := 4) (v := (.int .i64 (ring : Int))) rfl (by kernel_rfl) (by kernel_rfl) (by kernel_rfl) (fun _ _ _ h => h) (Or.inl ⟨by rfl, fun w hSw => by go_simp⟩) hHeld ?_; (try simp only [Act.put, List.setIfInBounds_toArray, List.set_cons_zero, List.set_cons_succ, List.getElem_toArray, List.getElem_cons_succ, List.getElem_cons_zero]); refine wpAnyH_take (i := 5) (v := (.int .i64 ((ring : Int) + 1))) rfl (by kernel_rfl) (by kernel_rfl) (by kernel_rfl) (fun _ _ _ h => h) (Or.inl ⟨by rfl, fun w hSw => by go_simp⟩) hHeld ?_; (try simp only [Act.put, List.setIfInBounds_toArray, List.set_cons_zero, List.set_cons_succ, List.getElem_toArray, List.getElem_cons_succ, List.getElem_cons_zero]); refine wpAnyH_ready (rs := [1]) (by kernel_rfl) (by simp) ?_; refine AllReadyH.cons (o := { dst := some 98, op := Op.call { callee := Callee.value (Operand.func 26), args := #[Operand.tmp 97], argTypes := #[29] }, type := 58, pos := "more.go:154", after := #[{ on := 0, ground := Ground.data }], guard := none }) rfl (fun K hK => ?_) AllReadyH.nil; go_simp; go_at_call 26; (with_reducible refine HCC.out.mono ?_); rintro e wc ⟨c0', c2', rfl, hbc⟩; have hfd : ∀ w : World, (Instr.field 58 (.agg #[.int .i64 c0', .int .i64 ((ring : Int) + 1), .int .i64 c2']) 1).run Tryz.prog w = .ok (.int .i64 ((ring : Int) + 1)) w := fun _ => by kernel_rfl
   have HBC:Hid (Below Wq.heap.size Wq wc):=HDR.out.trans hbc;clear hbc;refine hK.out _ _ (HSS.out _ HBC.out) (fun hHeld=> ?_);clear hK K;(try simp only [Act.put,List.setIfInBounds_toArray,List.set_cons_zero,List.set_cons_succ,List.getElem_toArray,List.getElem_cons_succ,List.getElem_cons_zero]);refine wpAnyH_take (i:=2) (v:=(.int .i64 ((ring:Int)+1))) rfl (by kernel_rfl) (by kernel_rfl) (by kernel_rfl) (fun _ _ _ h=>h) (Or.inl ⟨by rfl,fun w hSw=>by go_simp⟩) hHeld ?_;(try simp only [Act.put,List.setIfInBounds_toArray,List.set_cons_zero,List.set_cons_succ,List.getElem_toArray,List.getElem_cons_succ,List.getElem_cons_zero]);refine wpAnyH_take (i:=6) (v:=(.bool true)) rfl (by kernel_rfl) (by kernel_rfl) (by kernel_rfl) (fun _ _ _ h=>h) (Or.inl ⟨by rfl,fun w hSw=>by go_simp⟩) hHeld ?_;(try simp only [Act.put,List.setIfInBounds_toArray,List.set_cons_zero,List.set_cons_succ,List.getElem_toArray,List.getElem_cons_succ,List.getElem_cons_zero]);refine wpAnyH_take (i:=7) (v:=(.bool true)) rfl (by kernel_rfl) (by kernel_rfl) (by kernel_rfl) (fun _ _ _ h=>h) (Or.inl ⟨by rfl,fun w hSw=>by go_simp⟩) hHeld ?_;(try simp only [Act.put,List.setIfInBounds_toArray,List.set_cons_zero,List.set_cons_succ,List.getElem_toArray,List.getElem_cons_succ,List.getElem_cons_zero]);refine wpAnyH_done (by kernel_rfl) ?_ _;go_wp2;go_ret;exact⟨rfl,HBE.out _ (HT9.out.one.bel.trans (HBC.out.mono HT9.out.one.bel.size))⟩
  ·subst hu
   have hvb:(xv==0)=false:=beq_eq_false_iff_ne.2 hv0;have HXU:=Lib.hid hxu;clear hxu
   go_wp2_with (first
    |(refine wpList_min rfl _ _ 3 rfl _ _ mn rfl rfl HMN.out ?_)
    |(refine wpList_max rfl _ _ 3 rfl _ _ (kk:Int) rfl rfl HKX.out ?_)
    |(refine wpList_slice_h rfl 38 _ _ rfl (by kernel_rfl) 3 HSL.out va ps.length vc kk rfl rfl hkc ?_;intro v1 hv1;have HV1:=Lib.hid hv1;clear hv1)
    |(refine wpList_slice_l rfl 38 _ _ rfl (by kernel_rfl) 3 HSL.out va ps.length vc kk rfl rfl hkn ?_;intro v2 hv2;have HV2:=Lib.hid hv2;clear hv2)
    |(go_at_call 33;(with_reducible refine(ln_place_any H0.out.one HO1.out (by first|omega|(have:=HFT.out;omega)|(have:=HFT.out;have:=HFD.out;omega)) (.slice va ps.length vc) ps (HPV.out _ (HW4.out)) HFW.out x HX.out).mono ?_);rintro e w5 ⟨rfl,T5,s5,hl,hs,hp,hy⟩;have ht:=H0.out.step hl hs;have hal:=(Below.refl w5.heap.size w5).alloc (Nat.le_refl _) (.cells #[.int .i64 0,.int .u16 x] 45);have HX16:=Lib.hid ((ht.newBx #[.int .i64 0,.int .u16 x] 45));have HT5:=Lib.hid ((ht.below hal));have HP5:=Lib.hid hp;have HY5:=Lib.hid hy;clear hy;clear ht hal hl hs hp)
    |(go_at_call 33;(with_reducible refine(ln_place_any HT5.out.swap.one HO2.out (by first|omega|(have:=HFT.out;omega)|(have:=HFT.out;have:=HFD.out;omega)) v1 (ps.take kk) (HT2.out _ (HT5.out.one.bel) v1 HV1.out) HFT.out (0:Int) HXU.out).mono ?_);rintro e w6 ⟨rfl,T6,s6,hl,hs,hp,hy⟩;have ht:=HT5.out.swap.step hl hs;have bx16:=HT5.out.swap.keepBx hs HX16.out.swap (by decide) (by decide) (by decide) (by decide);have hal:=(Below.refl w6.heap.size w6).alloc (Nat.le_refl _) (.cells #[.int .i64 0,.int .u16 0] 45);have HX17:=Lib.hid ((ht.newBx #[.int .i64 0,.int .u16 0] 45).swap);clear HX16;have HX16:=Lib.hid ((bx16.below hal).swap);clear bx16;have HT6:=Lib.hid ((ht.below hal).swap);have HP6:=Lib.hid hp;have HY6:=Lib.hid hy;clear hy;clear ht hal hl hs hp)
    |(go_at_call 33;(with_reducible refine(ln_place_any HT6.out.swap.one HP6.out (by first|omega|(have:=HFT.out;omega)|(have:=HFT.out;have:=HFD.out;omega)) v2 (ps.drop kk) (HT3.out _ (HT6.out.one.bel) v2 HV2.out) HFD.out xv HXV.out).mono ?_);rintro e w7 ⟨rfl,T7,s7,hl,hs,hp,hy⟩;have ht:=HT6.out.swap.step hl hs;have bx16:=HT6.out.swap.keepBx hs HX16.out.swap (by decide) (by decide) (by decide) (by decide);have bx17:=HT6.out.swap.keepBx hs HX17.out.swap (by decide) (by decide) (by decide) (by decide);have hal:=(Below.refl w7.heap.size w7).alloc (Nat.le_refl _) (.cells #[.int .i64 0,.int .u16 xv] 45);have HX18:=Lib.hid ((ht.newBx #[.int .i64 0,.int .u16 xv] 45).swap);clear HX16;have HX16:=Lib.hid ((bx16.below hal).swap);clear bx16;clear HX17;have HX17:=Lib.hid ((bx17.below hal).swap);clear bx17;have HT7:=Lib.hid ((ht.below hal).swap);have HP7:=Lib.hid hp;have HY7:=Lib.hid hy;clear hy;clear ht hal hl hs hp)
    |(go_at_call 33;(with_reducible refine(ln_place_any HT7.out.swap.one HP7.out (by first|omega|(have:=HFT.out;omega)|(have:=HFT.out;have:=HFD.out;omega)) (.slice va ps.length vc) ps (HPV.out _ (HT7.out.one.bel)) HFW.out x HX.out).mono ?_);rintro e w8 ⟨rfl,T8,s8,hl,hs,hp,hy⟩;have ht:=HT7.out.swap.step hl hs;have bx16:=HT7.out.swap.keepBx hs HX16.out.swap (by decide) (by decide) (by decide) (by decide);have bx17:=HT7.out.swap.keepBx hs HX17.out.swap (by decide) (by decide) (by decide) (by decide);have bx18:=HT7.out.swap.keepBx hs HX18.out.swap (by decide) (by decide) (by decide) (by decide);have hal:=(Below.refl w8.heap.size w8).alloc (Nat.le_refl _) (.cells #[.int .i64 0,.int .u16 x] 45);have HX19:=Lib.hid ((ht.newBx #[.int .i64 0,.int .u16 x] 45).swap);clear HX16;have HX16:=Lib.hid ((bx16.below hal).swap);clear bx16;clear HX17;have HX17:=Lib.hid ((bx17.below hal).swap);clear bx17;clear HX18;have HX18:=Lib.hid ((bx18.below hal).swap);clear bx18;have HT8:=Lib.hid ((ht.below hal).swap);have HP8:=Lib.hid hp;have HY8:=Lib.hid hy;clear hy;clear ht hal hl hs hp))
   obtain⟨W9,hW9⟩:∃W9,W9=w8.alloc (.cells #[.int .i64 0,.int .u16 x] 45):=⟨_,rfl⟩;rw[<-hW9]at HT8 HX16 HX17 HX18 HX19 ⊢;generalize tidy W9 _=U5 at*;have hx16:=HX16.out.at';have q160:=hx16.cell 0;have q161:=hx16.cell 1;have hl16:=hx16.lt;clear hx16;have hx17:=HX17.out.at';have q170:=hx17.cell 0;have q171:=hx17.cell 1;have hl17:=hx17.lt;clear hx17;have hx18:=HX18.out.at';have q180:=hx18.cell 0;have q181:=hx18.cell 1;have hl18:=hx18.lt;clear hx18;have hx19:=HX19.out.at';have q190:=hx19.cell 0;have q191:=hx19.cell 1;have hl19:=hx19.lt;clear hx19;have HQ16:=Lib.hid HX16.out.at';clear HX16 HX17 HX18 HX19 hW9;go_quiet (fail);have HT9:=Lib.hid (HT8.out.below (below_drewN (Below.refl _ _) nq));have hq:=HQ16.out.below (below_drewN (Below.refl _ _) nq) HQ16.out.lt;have r0:=hq.cell 0;have r1:=hq.cell 1;have hrl:=hq.lt;clear hq;generalize W9.drewN nq=Wq at*;have HT9':=HT9;have HMX:=HMD.out Wq HT9.out.one.bel;have hmx3:=HMX.cell 3;have hmxl:=HMX.lt;have HCT:Hid (({R1 with s:=s5}:RS).s.cnt 1=(ring:Int)+1):=by show s5.cnt 1=_;rw[HY5.out HZN.out];exact HCN.out
   have HSS:Hid (∀X,Below Wq.heap.size Wq X->X.cell? ⟨w.heap.size,3,none⟩=some (.int .i64 ring)):=fun X hX=>(HMX.below hX HMX.lt).cell 3
   have HDR : Hid (Below Wq.heap.size Wq Wq.drew) := (Below.refl _ _).drew; clear HMX; go_wp2; have HS0 := Lib.hid (HSS.out _ HDR.out); have HCC := Lib.hid (ln_counts (HT9.out.one.below HDR.out) HCT.out); clear r0 r1 hrl; have hwr : IntKind.i64.wrap ((ring : Int) + 1) = (ring : Int) + 1 := (IntWalk.i64_left _).trans (IntWalk.wrap64_in _ ⟨by omega, by have := HR6.out; omega⟩); refine wp_region_held_drew (S := fun X => X.cell? ⟨w.heap.size, 3, none⟩ = some (.int .i64 ring)) (by kernel_rfl) HS0.out (fun hHeld => ?_); refine wpAnyH_take (i := 0) (v := (.pointer (some ⟨A1.b, 0, none⟩))) rfl (by kernel_rfl) (by kernel_rfl) (by kernel_rfl) (fun _ _ _ h => h) (Or.inl ⟨by rfl, fun w hSw => by go_simp⟩) hHeld ?_; (try simp only [Act.put, List.setIfInBounds_toArray, List.set_cons_zero, List.set_cons_succ, List.getElem_toArray, List.getElem_cons_zero]); refine wpAnyH_take (i := 3) (v := (.pointer (some ⟨w.heap.size, 3, none⟩))) rfl (by kernel_rfl) (by kernel_rfl) (by kernel_rfl) (fun _ _ _ h => h) (Or.inl ⟨by rfl, fun w hSw => by go_simp⟩) hHeld ?_; (try simp only [Act.put, List.setIfInBounds_toArray, List.set_cons_zero, List.set_cons_succ, List.getElem_toArray, List.getElem_cons_succ, List.getElem_cons_zero]); refine wpAnyH_take (i := 4) (v := (.int .i64 (ring : Int))) rfl (by kernel_rfl) (by kernel_rfl) (by kernel_rfl) (fun _ _ _ h => h) (Or.inl ⟨by rfl, fun w hSw => by go_simp⟩) hHeld ?_; (try simp only [Act.put, List.setIfInBounds_toArray, List.set_cons_zero, List.set_cons_succ, List.getElem_toArray, List.getElem_cons_succ, List.getElem_cons_zero]); refine wpAnyH_take (i := 5) (v := (.int .i64 ((ring : Int) + 1))) rfl (by kernel_rfl) (by kernel_rfl) (by kernel_rfl) (fun _ _ _ h => h) (Or.inl ⟨by rfl, fun w hSw => by go_simp⟩) hHeld ?_; (try simp only [Act.put, List.setIfInBounds_toArray, List.set_cons_zero, List.set_cons_succ, List.getElem_toArray, List.getElem_cons_succ, List.getElem_cons_zero]); refine wpAnyH_ready (rs := [1]) (by kernel_rfl) (by simp) ?_; refine AllReadyH.cons (o := { dst := some 98, op := Op.call { callee := Callee.value (Operand.func 26), args := #[Operand.tmp 97], argTypes := #[29] }, type := 58, pos := "more.go:154", after := #[{ on := 0, ground := Ground.data }], guard := none }) rfl (fun K hK => ?_) AllReadyH.nil; go_simp; go_at_call 26; (with_reducible refine HCC.out.mono ?_); rintro e wc ⟨c0', c2', rfl, hbc⟩; have hfd : ∀ w : World, (Instr.field 58 (.agg #[.int .i64 c0', .int .i64 ((ring : Int) + 1), .int .i64 c2']) 1).run Tryz.prog w = .ok (.int .i64 ((ring : Int) + 1)) w := fun _ => by kernel_rfl
   have HBC:Hid (Below Wq.heap.size Wq wc):=HDR.out.trans hbc;clear hbc;refine hK.out _ _ (HSS.out _ HBC.out) (fun hHeld=> ?_);clear hK K;(try simp only [Act.put,List.setIfInBounds_toArray,List.set_cons_zero,List.set_cons_succ,List.getElem_toArray,List.getElem_cons_succ,List.getElem_cons_zero]);refine wpAnyH_take (i:=2) (v:=(.int .i64 ((ring:Int)+1))) rfl (by kernel_rfl) (by kernel_rfl) (by kernel_rfl) (fun _ _ _ h=>h) (Or.inl ⟨by rfl,fun w hSw=>by go_simp⟩) hHeld ?_;(try simp only [Act.put,List.setIfInBounds_toArray,List.set_cons_zero,List.set_cons_succ,List.getElem_toArray,List.getElem_cons_succ,List.getElem_cons_zero]);refine wpAnyH_take (i:=6) (v:=(.bool true)) rfl (by kernel_rfl) (by kernel_rfl) (by kernel_rfl) (fun _ _ _ h=>h) (Or.inl ⟨by rfl,fun w hSw=>by go_simp⟩) hHeld ?_;(try simp only [Act.put,List.setIfInBounds_toArray,List.set_cons_zero,List.set_cons_succ,List.getElem_toArray,List.getElem_cons_succ,List.getElem_cons_zero]);refine wpAnyH_take (i:=7) (v:=(.bool true)) rfl (by kernel_rfl) (by kernel_rfl) (by kernel_rfl) (fun _ _ _ h=>h) (Or.inl ⟨by rfl,fun w hSw=>by go_simp⟩) hHeld ?_;(try simp only [Act.put,List.setIfInBounds_toArray,List.set_cons_zero,List.set_cons_succ,List.getElem_toArray,List.getElem_cons_succ,List.getElem_cons_zero]);refine wpAnyH_done (by kernel_rfl) ?_ _;go_wp2;go_ret;exact⟨rfl,HBE.out _ (HT9.out.one.bel.trans (HBC.out.mono HT9.out.one.bel.size))⟩
open Go.RowKit Go.ChangeShapes Go.WideShapes Go.ChangeAt Go.Deep
theorem pats_of_trod' {H:Type} {enc:TypeId×Value->H} {P:Program} {W:World} {T E EB base:Nat} {v:Value} {d:DataW H} {ps:List MemPlace} {f0 f1 f2:Field}
  (hT:P.underlying T=some (.slice E)) (hE:P.underlying E=some (.struct #[f0,f1,f2])) (ce:P.cellsOf E=3) (be:0<P.bytesOf E) (o0:f0.offset=0) (o1:f1.offset=1) (o2:f2.offset=2) (c0:P.cellsOf f0.type=1) (c1:P.cellsOf f1.type=1) (c2:P.cellsOf f2.type=1)
  (t0:P.underlying f0.type=some (.int .i64)) (t1:P.underlying f1.type=some (.int .i64)) (t2:P.underlying f2.type=some (.slice EB)) (tb:P.underlying EB=some (.int .u8)) (cb:P.cellsOf EB=1) (bb:P.bytesOf EB=1)
  (hv:Value.okWide P W .any base T v) (h:DataW.Trod enc P W 0 (fun _=>true) true T v d ps) (hw:∀n∈d.weights P T,n≤reachBytes):∃us,PSeg W v us:=by
 obtain⟨a,len,cap,rfl⟩:=Go.WideShapes.okWide_slice hT hv;obtain⟨fuel,hf⟩:=h;rcases Go.Deep.open_slice hT hf with ⟨hcs,_⟩|⟨x,l,c,m,n,D,Pl,hcs,_,hl,hm,hmm,hd,hx⟩
 ·simp[Value.cells]at hcs
  obtain⟨rfl,rfl,rfl⟩:=hcs;exact⟨[],none,0,rfl,by simp,by simp,.inl rfl⟩
 ·simp[Value.cells]at hcs
  obtain⟨rfl,rfl,rfl⟩:=hcs;simp only [if_true]at hmm;subst hmm;simp only [Prod.mk.injEq]at hd;have hlenb:len≤140737488351232:=by
   have hmem:(((List.range len).map D).length+((List.range (m-len)).map fun j=>D (len+j)).length)*P.bytesOf E≤reachBytes:=by
    apply hw;rw[hd.1];simp only [DataW.weights,hT];exact List.mem_cons_self
   simp only [List.length_map,List.length_range,reachBytes]at hmem;have:=Nat.le_mul_of_pos_right (len+(m-len)) be;omega
  rw[ce]at hx;have each:∀i,i<len->∃z:Pat,∃u,W.cell? (x.add (i*3))=some (.int .i64 z.m)/\W.cell? (x.add (i*3+1))=some (.int .i64 z.r)/\W.cell? (x.add (i*3+2))=some u/\Seg W u z.d/\z.d.length≤140737488351232:=by
   intro i hi;obtain⟨cs',h1,h2⟩:=hx i (by omega);obtain⟨_,hlen,hcell⟩:=World.cells?_some h1;obtain⟨xs,k,hk,hxy,_,hxl,hfld⟩:=DataW.trod_struct hE h2;match xs,hxl,cs',hlen with
   | [y0,y1,y2],_,[v0,v1,v2],_=>
    have g0:=hfld 0 f0 rfl;have g1:=hfld 1 f1 rfl;have g2:=hfld 2 f2 rfl;simp[o0,o1,o2,c0,c1,c2]at g0 g1 g2;have e0:=hcell 0 (by omega);have e1:=hcell 1 (by omega);have e2:=hcell 2 (by omega);rw[add_add]at e0 e1 e2;obtain⟨z0,q0,_⟩:=DataW.trod_int t0 g0;obtain⟨z1,q1,_⟩:=DataW.trod_int t1 g1;have hDi:D i=.agg [y0.1,y1.1,y2.1]:=by
     have:=congrArg Prod.fst hxy;simpa using this
    obtain⟨lb,q3,q4⟩:=seg_of_cell_w t2 tb cb bb g2 (fun n hn=>hw n (by
     rw[hd.1]
     simp only [DataW.weights,hT]
     refine List.mem_cons_of_mem _ (List.mem_append_left _ (weights_all_mem (i:=i) (d:=D i) (by simp[hi]) _ ?_))
     rw[hDi]
     simp only [DataW.weights,hE,DataW.weightsEach,List.map_cons,List.map_nil,List.append_nil]
     exact List.mem_append_right _ (List.mem_append_right _ hn)))
    simp at q0 q1;subst q0;subst q1;exact⟨⟨z0,z1,lb⟩,v2,by simpa using e0,by simpa using e1,by simpa using e2,q3,q4⟩
  haveI:Inhabited Pat:=⟨⟨0,0,[]⟩⟩;obtain⟨F,hF⟩:=choose_lt (α:=Pat) each;have hlen:((List.range len).map F).length=len:=by simp
  refine⟨(List.range len).map F,some x,m,by rw[hlen],by rw[hlen];omega,fun u hu=> ?_,?_⟩
  ·obtain⟨i,hi,rfl⟩:=List.mem_map.1 hu
   obtain⟨_,_,_,_,_,h5⟩:=hF i (by simpa using hi);omega
  ·rcases Nat.eq_zero_or_pos len with h0|h0
   ·left;rw[h0];rfl
   ·right
    obtain⟨b,off,spot⟩:=x;have hspot:spot=none:=by
     obtain⟨u,h0',_⟩:=hF 0 (by omega);simpa [Addr.add]using World.cell?_spot h0'
    subst hspot;refine⟨b,off,rfl,?_,fun j hj=> ?_⟩
    ·obtain⟨u,h1,_⟩:=hF 0 (by omega)
     rw[Go.WideShapes.add_plain]at h1;exact block_lt_of_cell h1
    ·rw[hlen]at hj
     obtain⟨u,h1,h2,h3,h4,_⟩:=hF j hj;rw[Go.WideShapes.add_plain]at h1 h2 h3;rw[List.getElem_map,List.getElem_range];exact⟨h1,by rw[show off+j*3+1=off+(j*3+1) by omega];exact h2,u,by rw[show off+j*3+2=off+(j*3+2) by omega];exact h3,h4⟩
theorem pats_of_trod {H:Type} {enc:TypeId×Value->H} {W:World} {base:Nat} {v:Value} {d:DataW H} {ps:List MemPlace}
  (hv:Value.okWide Tryz.prog W .any base 38 v) (h:DataW.Trod enc Tryz.prog W 0 (fun _=>true) true 38 v d ps) (hw:∀n∈d.weights Tryz.prog 38,n≤reachBytes):∃us,PSeg W v us:=
 pats_of_trod' Tryz.underlying38 Tryz.underlying76 (by kernel_rfl) (by decide+kernel) rfl rfl rfl (by kernel_rfl) (by kernel_rfl) (by kernel_rfl) Tryz.underlying3 Tryz.underlying3 Tryz.underlying35 Tryz.underlying5 (by kernel_rfl) (by kernel_rfl) hv h hw
theorem slice_capped {H:Type} {enc:TypeId×Value->H} {P:Program} {W:World} {T E base:Nat} {v:Value} {d:DataW H} {ps:List MemPlace} (hT:P.underlying T=some (.slice E)) (hv:Value.okWide P W .any base T v) (h:DataW.Trod enc P W 0 (fun _=>true) true T v d ps):∀a n c,v=.slice a n c->n≤c:=by
 intro a n c hvv;subst hvv;obtain⟨fuel,hf⟩:=h;rcases Go.Deep.open_slice hT hf with ⟨hcs,_⟩|⟨x,l,c',m,n',D,Pl,hcs,_,hl,hm,hmm,hd,hx⟩
 ·simp[Value.cells]at hcs
  omega
 ·simp[Value.cells]at hcs
  omega
theorem rowsPlaced_walk {H:Type} (w:World) (enc:TypeId×Value->H) (base:Nat) (v:Value) (d:DataW H) (ps:List MemPlace) (hok:Value.okWide Tryz.prog w .any base 25 v) (h:DataW.Trod enc Tryz.prog w 0 (fun _=>true) true 25 v d ps)
  (a:Int) (_:(Lit.int .i64 a).wf=true)
  (enc':TypeId×Value->H) (base':Nat) (v':Value) (d':DataW H) (ps':List MemPlace) (hok':Value.okWide Tryz.prog w .any base' 38 v') (h':DataW.Trod enc' Tryz.prog w 0 (fun _=>true) true 38 v' d' ps') (hw':∀n∈d'.weights Tryz.prog 38,n≤reachBytes)
  (b:Int) (_:(Lit.int .i64 b).wf=true):
  Calls Tryz.prog 7 #[v,.int .i64 a,v',.int .i64 b] w fun e w'=>e=.returned (.bool true)/\Below w.heap.size w w':=by
 obtain⟨m,c,s,ring,lazy,more,rfl⟩:=made_of_trod hok h;have hcp:=slice_capped Tryz.underlying38 hok' h';obtain⟨us,hv⟩:=pats_of_trod hok' h' hw';cases hm:mayIs m c s ring
 ·exact RowsPlaced_no m c s ring lazy more a b v' us w hv hm
 ·obtain⟨M,C,S,r,rfl,rfl,rfl,rfl,hg,h5,h6⟩:=may_nat hm
  exact RowsPlaced_go M C S r lazy more a b v' us w hv hg h5 h6 hcp
end Go.Proofs.YtebmephdnjccjaaGreat
