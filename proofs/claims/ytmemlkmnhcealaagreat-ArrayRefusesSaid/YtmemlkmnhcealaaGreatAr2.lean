/- What the law wants besides. -/
import Derived.Test.YtmemlkmnhcealaaGreatAr1
import Derived.Deep.CutBlock
import Derived.Deep.CutRange
import Derived.Deep.RegionHeld3
import Derived.Defers
import Derived.Recover
set_option linter.unusedVariables false
set_option maxRecDepth 100000
set_option maxHeartbeats 16000000
namespace Go.Proofs.YtmemlkmnhcealaaGreat
open Go.RowKit
section
theorem ar_guard (p:Addr) (w:World):CallsD Tryz.prog 22 #[.pointer (some p)] .returning w fun e u' w'=>e=.returned (.tuple #[])/\u'=.returning/\w'=w:=by
  refine callsD_of_wpS Tryz.func22 rfl fun c₀ cs hu=> ?_
  apply wpS_seq;apply wpS_region;simp[wpOpsS,go_sem,recoverD,hu,Tryz.ntmps22,Exit.thenS];apply wpS_seq;apply wpS_region;simp[wpOpsS,go_sem,recoverD,hu,Exit.thenS];refine wpS_cond (t:=false) (by simp[Act.eval,Array.replicate]) ?_;simp only [Bool.false_eq_true,if_false];refine wpS_of_wp (wp_skip ?_);cases c₀
  simp_all [bodyPostS,results,Tryz.results22]
theorem geom_Blocks (M C S:Nat) (w:World) (h:geoIs M C S=true):Calls Tryz.prog 21 #[geo M C S] w fun e w'=>e=.returned (.int .i64 ((S:Int)*C*((M:Int)-1)))/\Below w.heap.size w w':=by
  obtain⟨h1,h2,h3,h4,h5,h6⟩:=(Zam M C S).1 h;have hk:=Lib.hid (fun W=>Zfc M C S W);obtain⟨hlo,hhi⟩:=Za0 h;unfold geoRows at hk;rw[h]at hk;simp only [if_true]at hk;generalize (S:Int)*(C:Int)=q at*;have hM15:(M:Int)-1≤15:=by clear hhi hlo;omega
  have hM0:0≤(M:Int)-1:=by clear hhi hlo;omega
  have hp1:q*((M:Int)-1)≤4096*15:=Int.mul_le_mul hhi hM15 hM0 (by decide);have hp0:0≤q*((M:Int)-1):=Int.mul_nonneg hlo hM0;have hpw:=Zdr hp0 (Int.le_trans hp1 (by decide));have hpw':=Zcz hp0 (Int.le_trans hp1 (by decide));have hmw:IntKind.i64.wrap ((M:Int)-1)=(M:Int)-1:=by clear hpw hpw' hp1 hp0;rw[IntKind.wrap_i64];omega
  have hb:Below w.heap.size w (w.alloc (.cells #[.int .i64 M,.int .i64 C,.int .i64 S] 26)):=(Below.refl _ _).alloc (Nat.le_refl _) _;have ha:At (w.alloc (.cells #[.int .i64 M,.int .i64 C,.int .i64 S] 26)) w.heap.size #[.int .i64 M,.int .i64 C,.int .i64 S] 26:=At.new _ _ _;have HB:=Lib.hid hb;have HA:=Lib.hid ha;clear ha hb hp1 hp0 hM15 hM0;unfold geo at*;go_enter Tryz.func21,Tryz.ntmps21;go_wp2;generalize hw1:w.alloc (.cells #[.int .i64 M,.int .i64 C,.int .i64 S] 26)=w1 at*;clear hw1;have HC:Hid (∀w',At w' w.heap.size #[.int .i64 M,.int .i64 C,.int .i64 S] 26->w'.cell? ⟨w.heap.size,0,none⟩=some (.int .i64 M)/\w'.cell? ⟨w.heap.size,1,none⟩=some (.int .i64 C)/\w'.cell? ⟨w.heap.size,2,none⟩=some (.int .i64 S)):=fun w' h=>⟨h.cell 0,h.cell 1,h.cell 2⟩
  go_region_held3 (fun w'=>w'.cell? ⟨w.heap.size,0,none⟩=some (.int .i64 M)/\w'.cell? ⟨w.heap.size,1,none⟩=some (.int .i64 C)/\w'.cell? ⟨w.heap.size,2,none⟩=some (.int .i64 S))
    (first|with_reducible exact HC.out _ HA.out|exact HC.out _ HA.out.drew|with_reducible exact HC.out _ HA2.out)
    (first
      |(go_at_call 40;(with_reducible refine(hk.out _).mono ?_);rintro e w2 ⟨rfl,hb2⟩;have HB2:Hid (Below w.heap.size w w2):=(Zac (HB.out.drew) hb2);have HA2:Hid (At w2 w.heap.size #[.int .i64 M,.int .i64 C,.int .i64 S] 26):=(HA.out.drew.below hb2 HA.out.lt);clear hb2))
  go_wp2;go_ret;exact⟨rfl,HB2.out⟩
section
variable {w:World} {ap b stg wp id ev sf M C S ring:Nat} {vr:Value} {lazy:Bool}
theorem ar_alive (ha:At w ap (arCells b stg vr wp id ev sf M C S ring lazy) 68):Calls Tryz.prog 23 #[.pointer (some ⟨ap,0,none⟩)] w fun e w'=>e=.returned (.tuple #[])/\w'=w:=by
  have c16:w.cell? ⟨ap,16,none⟩=some (.int .u16 0):=ha.cell 16;clear ha;go_enter Tryz.func23,Tryz.ntmps23;go_wp2;go_end0;exact⟨rfl,rfl⟩
theorem ar_journal (ha:At w ap (arCells b stg vr wp id ev sf M C S ring lazy) 68):Calls Tryz.prog 27 #[.pointer (some ⟨ap,0,none⟩)] w fun e w'=>e=.returned (.int .i64 M)/\w'=w:=by
  have c5:w.cell? ⟨ap,5,none⟩=some (.int .i64 M):=ha.cell 5;have c6:w.cell? ⟨ap,6,none⟩=some (.int .i64 C):=ha.cell 6;have c7:w.cell? ⟨ap,7,none⟩=some (.int .i64 S):=ha.cell 7;clear ha;go_enter Tryz.func27,Tryz.ntmps27;go_wp2;go_ret;exact⟨rfl,rfl⟩
theorem ar_takes {f:Nat->Nat} (ha:At w ap (arCells b stg vr wp id ev sf M C S ring lazy) 68) (hs:StAt w stg M f) (m:Nat) (hm:m<M) (hM:M≤16):Calls Tryz.prog 108 #[.pointer (some ⟨ap,0,none⟩),.int .i64 m] w fun e w'=>e=.returned (.bool (decide (f m=1)))/\w'=w:=by
  have c11:w.cell? ⟨ap,11,none⟩=some (.slice (some ⟨stg,0,none⟩) M M):=ha.cell 11;have cm:=hs.cell m hm;have hf:=hs.2 m;clear ha hs;generalize f m=x at*;rcases hf with rfl|rfl
  all_goals
    go_enter Tryz.func108,Tryz.ntmps108
    go_wp2
    go_ret
    exact⟨rfl,rfl⟩
theorem ar_nought:Calls Tryz.prog 90 #[.pointer (some ⟨ap,0,none⟩)] w fun e w'=>e=.returned (.int .i64 0)/\w'=w:=by
  go_enter Tryz.func90,Tryz.ntmps90;go_wp2;go_ret;exact⟨rfl,rfl⟩
theorem ar_blocks (ha:At w ap (arCells b stg vr wp id ev sf M C S ring lazy) 68) (hg:geoIs M C S=true):Calls Tryz.prog 9 #[.pointer (some ⟨ap,0,none⟩)] w fun e w'=>e=.returned (.int .i64 ((S:Int)*C*((M:Int)-1)))/\Below w.heap.size w w':=by
  have c5:w.cell? ⟨ap,5,none⟩=some (.int .i64 M):=ha.cell 5;have c6:w.cell? ⟨ap,6,none⟩=some (.int .i64 C):=ha.cell 6;have c7:w.cell? ⟨ap,7,none⟩=some (.int .i64 S):=ha.cell 7;have HB:=Lib.hid (geom_Blocks M C S w hg);unfold geo at HB;clear ha;generalize (S:Int)*C*((M:Int)-1)=n at*;go_enter Tryz.func9,Tryz.ntmps9;go_wp2_with (go_at_call 21;(with_reducible refine HB.out.mono ?_);rintro e w1 ⟨rfl,hb1⟩;have HB1:=Lib.hid hb1;clear hb1);go_ret;exact⟨rfl,HB1.out⟩
theorem ar_tell {T:Nat->Nat} {s:BaySt} {f:Nat->Nat} (hb:BayAt w T b s) {G:Nat->Prop} {sz:Nat->Nat} (hf:Fit s G sz) (slot:Nat) (hk:slot<s.n) (hg:G slot) (hz:0<sz slot) (ha:At w ap (arCells b stg vr wp id ev sf M C S ring lazy) 68) (hst:StAt w stg M f) (ok:SuOk ev sf slot M C S ring) (hid:id<18446744073709551616) (hcnt:s.cnt 1≤999999000000) (hsm:s.small 900000):
    Calls Tryz.prog 46 #[.pointer (some ⟨ap,0,none⟩),.int .i64 slot] w fun e w'=>e=.returned (.int .u16 0)/\∃l:List UInt8,l.length=128/\BayPost w T b (s.put slot 0 l) w':=by
  have hal:=ha.lt;have c0:w.cell? ⟨ap,0,none⟩=some (.pointer (some ⟨b,0,none⟩)):=ha.cell 0;have c1:w.cell? ⟨ap,1,none⟩=some (.int .u64 id):=ha.cell 1;have c2:w.cell? ⟨ap,2,none⟩=some (.int .u64 ev):=ha.cell 2;have c3:w.cell? ⟨ap,3,none⟩=some (.int .u64 sf):=ha.cell 3;have c4:w.cell? ⟨ap,4,none⟩=some (.int .i64 0):=ha.cell 4;have c5:w.cell? ⟨ap,5,none⟩=some (.int .i64 M):=ha.cell 5;have c6:w.cell? ⟨ap,6,none⟩=some (.int .i64 C):=ha.cell 6;have c7:w.cell? ⟨ap,7,none⟩=some (.int .i64 S):=ha.cell 7;have c8:w.cell? ⟨ap,8,none⟩=some (.int .i64 ring):=ha.cell 8;have c9:w.cell? ⟨ap,9,none⟩=some (.bool lazy):=ha.cell 9;have c10:w.cell? ⟨ap,10,none⟩=some (.bool false):=ha.cell 10;have c11:w.cell? ⟨ap,11,none⟩=some (.slice (some ⟨stg,0,none⟩) M M):=ha.cell 11;have c12:w.cell? ⟨ap,12,none⟩=some (.int .i64 0):=ha.cell 12;have HA:=Lib.hid ha;have HENC:Hid (∀W,Below w.heap.size w W->Calls Tryz.prog 84 #[suV id ev sf slot M C S ring lazy stg] W fun e w'=>∃v,e=.returned (.tuple #[v,.int .u16 0])/\(∃l:List UInt8,l.length=128/\w'.ownsRow W.heap.size 5 1 v 128 (ucells l))/\Below W.heap.size W w'):=fun W hW=>sb_encode id ev sf slot M C S ring lazy (hst.below hW) ok hid
  have HWR:Hid (∀W v l B,Below w.heap.size w W->w.heap.size≤B->l.length=128->W.ownsRow B 5 1 v 128 (ucells l)->Calls Tryz.prog 43 #[.pointer (some ⟨b,0,none⟩),.int .i64 slot,.int .i64 0,v] W fun e w'=>e=.returned (.int .u16 0)/\BayPost w T b (s.put slot 0 l) w'):=fun W v l B hW hB hl hv=>by
    have h:=Zh4 (hb.below hW) (slot:Int) ((0:Nat):Int) v l (by omega) (fun i hi x hx=>Nat.le_trans (hsm i hi x hx) (by omega)) (seg_of_128 hv) (fun a n c e=>hb.virgin _ (Nat.le_trans hB (hv.lt _ (by rw[e];rfl)).1));rw[Zb4 hf slot 0 l hk hg hz hl]at h;refine h.mono ?_;rintro e w' ⟨rfl,hp⟩;exact⟨rfl,hp.trans (fun _ _=>rfl) (Chg.ofBelow hW _)⟩
  clear hb hf hk hg hz hst ok hid hcnt hsm ha;have HB1:Hid (Below w.heap.size w (w.alloc (.cells (suBox id ev sf slot M C S ring lazy (.slice (some ⟨stg,0,none⟩) M M)) 64))):=(Below.refl _ _).alloc (Nat.le_refl _) _;go_enter Tryz.func46,Tryz.ntmps46
  go_wp2_with (first
    |(go_at_call 84;(with_reducible refine(HENC.out _ HB1.out).mono ?_);rintro e w2 ⟨v,rfl,⟨l,hl,hv⟩,hb2⟩;clear c0 c1 c2 c3 c4 c5 c6 c7 c8 c9 c10 c11 c12;have HB2:=Lib.hid (Zac HB1.out hb2);have c0:w2.cell? ⟨ap,0,none⟩=some (.pointer (some ⟨b,0,none⟩)):=(HA.out.below HB2.out hal).cell 0;have HV:=Lib.hid hv;have HL:=Lib.hid hl;obtain⟨xa,xc,rfl⟩:=Zab hv;clear hv hb2 hl)
    |(go_at_call 43;(with_reducible refine(HWR.out _ _ l _ HB2.out HB1.out.size HL.out HV.out).mono ?_);rintro e w3 ⟨rfl,hp3⟩;have HP3:=Lib.hid hp3;clear hp3))
  go_ret;exact⟨rfl,l,HL.out,HP3.out⟩
end
end
theorem rows_mark_up {w:World} {T:Nat->Nat} {A:Adr} {R:RS} {lg:Option Nat} {vw:Value} {X:List OP} (h:RwIn w T A R lg vw X) (m:Nat) (fr:Int) (hm:m<R.M):
    Calls Tryz.prog 92 #[.pointer (some ⟨A.q,0,none⟩),.int .i64 m,.bool false,.int .i64 fr] w fun e w'=>e=.returned (.tuple #[])/\RwIn w' T A (R.marked m false) lg vw X/\Chg (fun q=>A.has q) w w':=by
  have hi:(decide ((0:Int)≤m)&&decide ((m:Int)<(R.M:Int)))=true:=by simp;omega
  have HI:=Zf1 (A:=A) (R:=R) (vw:=vw) m w h.rw;rw[hi]at HI;have HI:=Lib.hid HI;have c6:w.cell? ⟨A.q,6,none⟩=some (.slice (some ⟨A.fg,0,none⟩) R.M R.M):=h.rw.cell 6;have cm:w.cell? ⟨A.fg,m,none⟩=some (.int .i64 (R.fr m)):=(h.fr.cell m).trans (Zjc _ _ _ hm);have fm:=h.fr.free m;have hqf:A.q≠A.fg:=Zaw h.rw h.fr (by decide);have H1:=Lib.hid (h.setF m (-1) hm);have HC1:Hid (Chg (fun q=>A.has q) w (w.setCell ⟨A.fg,m,none⟩ (.int .i64 (-1)))):=Chg.setCell (S:=fun q=>A.has q) (Chg.refl _ _) ⟨A.fg,m,none⟩ (.inl (.inr (.inr (.inr rfl)))) _;clear h hi;go_enter Tryz.func92,Tryz.ntmps92;go_wp2_with (go_at_call 112;(with_reducible refine HI.out.mono ?_);rintro e w1 ⟨rfl,hw1⟩;subst hw1);(try simp only [Exit.inBlock,Exit.then]);refine bodyPost_end (results_none rfl _ _ _) rfl ⟨rfl,H1.out,HC1.out⟩
def stF (g:Int) (m:Nat):Nat:=if (m:Int)=g then 2 else 1
theorem stAt_of {W:World} {stg M:Nat} {g:Int} (h:At W stg (stCells g M) 102):StAt W stg M (stF g):=by
  refine⟨⟨_,h,fun i hi=> ?_⟩,fun i=> ?_⟩
  · rw[stCells_at g M i hi]
    unfold stF;split<;>rfl
  · unfold stF
    split
    · exact .inr rfl
    · exact .inl rfl
def frMix (g:Int) (fr:Nat->Int) (k:Nat):Nat->Int:=fun m=>if m<k then frOf g m else fr m
theorem frMix_zero (g:Int) (fr:Nat->Int):frMix g fr 0=fr:=by funext m;exact if_neg (by omega)
theorem frMix_succ (g:Int) (fr:Nat->Int) (k:Nat):(fun j=>if j=k then frOf g k else frMix g fr k j)=frMix g fr (k+1):=by
  funext j;unfold frMix;by_cases h:j=k
  · rw[if_pos h,h,if_pos (by omega)]
  · rw[if_neg h]
    by_cases h2:j<k
    · rw[if_pos h2,if_pos (by omega)]
    · rw[if_neg h2,if_neg (by omega)]
theorem RwIn.frCong {W:World} {T:Nat->Nat} {A:Adr} {R:RS} {lg:Option Nat} {vw:Value} {X:List OP} {f f':Nat->Int} (h:RwIn W T A {R with fr:=f} lg vw X) (he:∀m,m<R.M->f m=f' m):RwIn W T A {R with fr:=f'} lg vw X:=by
  have e:frCells f R.M=frCells f' R.M:=by
    unfold frCells;congr 1;exact List.map_congr_left fun m hm=>by rw[he m (List.mem_range.1 hm)]
  exact⟨h.bay,h.rw,by have:=h.fr;rw[show frCells ({R with fr:=f}:RS).fr ({R with fr:=f}:RS).M=frCells f' R.M from e]at this;exact this,h.wt,h.wtT,h.wtX,h.wtM,h.wal,h.ring,h.tq,h.tf,h.tw,h.tr⟩
theorem marked_mix {R:RS} {g:Int} {k:Nat} (dn:Bool) (h:dn=decide ((k:Int)=g)):({R with fr:=frMix g R.fr k}:RS).marked k dn={R with fr:=frMix g R.fr (k+1)}:=by
  unfold RS.marked;rw[<-frMix_succ];congr 1;funext j;by_cases e:j=k
  · rw[if_pos e,if_pos e,h]
    unfold frOf;by_cases e2:(k:Int)=g
    · rw[if_pos (by simp[e2]),if_pos e2]
    · rw[if_neg (by simp[e2]),if_neg e2]
  · rw[if_neg e,if_neg e]
theorem ar_beyond {w:World} {ap M C S:Nat} {gr:Int} (c5:w.cell? ⟨ap,5,none⟩=some (.int .i64 M)) (c6:w.cell? ⟨ap,6,none⟩=some (.int .i64 C)) (c7:w.cell? ⟨ap,7,none⟩=some (.int .i64 S)) (hr:∀W,Calls Tryz.prog 40 #[.agg #[.int .i64 M,.int .i64 C,.int .i64 S]] W fun e w'=>e=.returned (.int .i64 gr)/\Below W.heap.size W w'):
    Calls Tryz.prog 89 #[.pointer (some ⟨ap,0,none⟩)] w fun e w'=>e=.returned (.int .i64 gr)/\Below w.heap.size w w':=by
  have HR:=Lib.hid hr;clear hr;go_enter Tryz.func89,Tryz.ntmps89;go_wp2_with (go_at_call 40;(with_reducible refine(HR.out _).mono ?_);rintro e w1 ⟨rfl,hb1⟩;have HB1:=Lib.hid hb1;clear hb1);go_ret;exact⟨rfl,HB1.out⟩
structure MkAt (w wr:World) (T:Nat->Nat) (A:Adr) (R:RS) (lg:Option Nat) (vw:Value) (X:List OP) (g:Int) (mb:Nat) (F:Int->Option Value) (k:Nat):Prop where
  rw:RwIn wr T A {R with fr:=frMix g R.fr k} lg vw X
  mp:wr.vmap Tryz.prog 102 .u8 mb 3 F
  chg:Chg (fun q=>A.has q) w wr
theorem ar_mark {w:World} {T:Nat->Nat} {A:Adr} {R:RS} {lg:Option Nat} {vw:Value} {X:List OP} (h:RwIn w T A R lg vw X) (g:Int) {ap stg id ev sf ring:Nat} {lazy:Bool} (ha:At w ap (arCells A.b stg (.pointer (some ⟨A.q,0,none⟩)) A.wp id ev sf R.M R.C R.S ring lazy) 68) (hs:At w stg (stCells g R.M) 102) (hg:geoIs R.M R.C R.S=true):
    Calls Tryz.prog 49 #[.pointer (some ⟨ap,0,none⟩)] w fun e w'=>e=.returned (.tuple #[])/\RwIn w' T A {R with fr:=frOf g} lg vw X/\Chg (fun q=>A.has q) w w':=by
  have HR:=Lib.hid h;have HA:=Lib.hid ha;have HS:=Lib.hid hs;have hM:R.M≤16:=(Zbe hg).2.1;have hap:=ha.lt;have hql:=h.low;have HAN:Hid (∀q,w.heap.size≤q->¬A.has q):=fun q hq=>h.low.ne hq
  have c11:w.cell? ⟨ap,11,none⟩=some (.slice (some ⟨stg,0,none⟩) R.M R.M):=ha.cell 11;have wf1:(Lit.int IntKind.u8 1).wf=true:=by decide
  have wf2:(Lit.int IntKind.u8 2).wf=true:=by decide
  have wf3:(Lit.int IntKind.u8 3).wf=true:=by decide
  have HM0:Hid ((w.alloc (.map #[] 0)).vmap Tryz.prog 102 .u8 w.heap.size 0 (fun _=>none)):=World.vmap_made w Tryz.prog 102 .u8;clear h ha hs;have hmm:= @run_makeMap Tryz.prog;go_enter Tryz.func49,Tryz.ntmps49
  go_wp2_with (first
    |(refine Zbm rfl _ _ _ 158 rfl Tryz.underlying158 Tryz.underlying102 rfl HM2.out (by unfold maxLen;omega) 3 _ rfl rfl wf3 ?_;intro w3 hm3 hc3;have HM3:=Lib.hid hm3;have HB3:Hid (Below w.heap.size w w3):=((((Below.refl w.heap.size w).alloc (Nat.le_refl _) (.map #[] 0)).trans (HC1.out.below fun q hq=>⟨by rw[Zaa];omega,fun e=>by omega⟩)).trans (HC2.out.below fun q hq=>⟨Nat.lt_of_lt_of_le hq (Nat.le_trans (by rw[Zaa];omega) HC1.out.size),fun e=>by omega⟩)).trans (hc3.below fun q hq=>⟨Nat.lt_of_lt_of_le hq (Nat.le_trans (Nat.le_trans (by rw[Zaa];omega) HC1.out.size) HC2.out.size),fun e=>by omega⟩);have d11:w3.cell? ⟨ap,11,none⟩=some (.slice (some ⟨stg,0,none⟩) R.M R.M):=(HB3.out.cell (p:=⟨ap,11,none⟩) hap).trans c11;clear hm3 hc3)
    |(refine Zbm rfl _ _ _ 158 rfl Tryz.underlying158 Tryz.underlying102 rfl HM1.out (by unfold maxLen;omega) 2 _ rfl rfl wf2 ?_;intro w2 hm2 hc2;have HM2:=Lib.hid hm2;have HC2:=Lib.hid hc2;clear hm2 hc2)
    |(refine Zbm rfl _ _ _ 158 rfl Tryz.underlying158 Tryz.underlying102 rfl HM0.out (by unfold maxLen;omega) 1 _ rfl rfl wf1 ?_;intro w1 hm1 hc1;have HM1:=Lib.hid hm1;have HC1:=Lib.hid hc1;clear hm1 hc1))
  have HF1:Hid ((fun i:Int=>if i=3 then some (Value.func (.func 91) #[] #[])else if i=2 then some (.func (.func 90) #[] #[])else if i=1 then some (.func (.func 89) #[] #[])else none) 1=some (.func (.func 89) #[] #[])):=rfl;have HF2:Hid ((fun i:Int=>if i=3 then some (Value.func (.func 91) #[] #[])else if i=2 then some (.func (.func 90) #[] #[])else if i=1 then some (.func (.func 89) #[] #[])else none) 2=some (.func (.func 90) #[] #[])):=rfl;have HM3':Hid (w3.vmap Tryz.prog 102 .u8 w.heap.size 3 (fun i:Int=>if i=3 then some (Value.func (.func 91) #[] #[])else if i=2 then some (.func (.func 90) #[] #[])else if i=1 then some (.func (.func 89) #[] #[])else none)):=HM3.out;clear HM3;generalize (fun i:Int=>if i=3 then some (Value.func (.func 91) #[] #[])else if i=2 then some (.func (.func 90) #[] #[])else if i=1 then some (.func (.func 89) #[] #[])else none)=F at*;have HK0:Hid (MkAt w w3 T A R lg vw X g w.heap.size F 0):=⟨by rw[frMix_zero];exact HR.out.below HB3.out,HM3'.out,Chg.ofBelow HB3.out _⟩;have HKA:Hid (∀W,Chg (fun q=>A.has q) w W->At W ap (arCells A.b stg (.pointer (some ⟨A.q,0,none⟩)) A.wp id ev sf R.M R.C R.S ring lazy) 68/\At W stg (stCells g R.M) 102):=fun W hc=>⟨HA.out.mod hc (HR.out.offAt HA.out (by decide) (by decide) (by decide) (by decide)),HS.out.mod hc (HR.out.offAt HS.out (by decide) (by decide) (by decide) (by decide))⟩
  have HRW:=Lib.hid (fun W=>Zfc R.M R.C R.S W);clear c11 HC1 HC2 HM1 HM2 HM0 HB3;go_loopw [13] (fun q wr=>∃k:Nat,k≤R.M/\q=.int .i64 k/\MkAt w wr T A R lg vw X g w.heap.size F k) (fun q _=>R.M-(intOf q).toNat);case atStart=>exact⟨0,Nat.zero_le _,rfl,HK0.out⟩
  case round=>
    obtain⟨k,hk,rfl,hmk⟩:=hrel;have HK:=Lib.hid hmk;clear hmk;by_cases hk2:k<R.M
    · obtain⟨hA,hS⟩:=HKA.out wr HK.out.chg
      have ck:wr.cell? ⟨stg,k,none⟩=some (.int .u8 (if (k:Int)=g then 2 else 1)):=(hS.cell k).trans (stCells_at g R.M k hk2);have c13:wr.cell? ⟨ap,13,none⟩=some (.pointer (some ⟨A.q,0,none⟩)):=hA.cell 13;have c5:wr.cell? ⟨ap,5,none⟩=some (.int .i64 R.M):=hA.cell 5;have c6:wr.cell? ⟨ap,6,none⟩=some (.int .i64 R.C):=hA.cell 6;have c7:wr.cell? ⟨ap,7,none⟩=some (.int .i64 R.S):=hA.cell 7;have hzf:∀W,(zeroValue 157).run Tryz.prog W=.ok .nilFunc W:=fun W=>Tryz.zeroValue157 W
      have HNX:Hid (∀W dn,dn=decide ((k:Int)=g)->RwIn W T A ({R with fr:=frMix g R.fr k}:RS) lg vw X->∀fr:Int,(dn=true->fr=0)->Calls Tryz.prog 92 #[.pointer (some ⟨A.q,0,none⟩),.int .i64 k,.bool dn,.int .i64 fr] W fun e w'=>e=.returned (.tuple #[])/\RwIn w' T A ({R with fr:=frMix g R.fr (k+1)}:RS) lg vw X/\Chg (fun q=>A.has q) W w'):=fun W dn hdn hW fr hfr=>by
        rw[<-marked_mix dn hdn];cases dn
        · exact rows_mark_up hW k fr hk2
        · rw[hfr rfl]
          exact Zs9 hW k true hk2
      have HL:Hid (∀W z y,W.vmap Tryz.prog 102 .u8 w.heap.size 3 F->(Lit.int IntKind.u8 z).wf=true->F z=some y->(Instr.lookup 158 (.map (some w.heap.size)) (.int .u8 z) false).run Tryz.prog W=.ok y W):=fun W z y hW hwf hy=>hW.run Tryz.underlying158 Tryz.underlying102 .nilFunc (hzf W) z hwf y hy
      have hgl:=hA.lt;have HAK:=Lib.hid hA;clear hA hS;have HVD:Hid (wr.drew.vmap Tryz.prog 102 .u8 w.heap.size 3 F):=HK.out.mp.below (Below.refl _ _).drew;have HSM:Hid (∀W,Chg (fun q=>A.has q) wr.drew W->W.cell? ⟨ap,13,none⟩=some (.pointer (some ⟨A.q,0,none⟩))/\W.vmap Tryz.prog 102 .u8 w.heap.size 3 F):=fun W hc=>⟨(HAK.out.drew.mod hc (HR.out.offAt HA.out (by decide) (by decide) (by decide) (by decide))).cell 13,HVD.out.mod hc (HAN.out _ (Nat.le_refl _))⟩
      by_cases hkg:(k:Int)=g
      · rw[if_pos hkg]at ck
        have HKG:=Lib.hid hkg;have HL2:Hid (∀W,Chg (fun q=>A.has q) wr.drew W->W.cell? ⟨ap,13,none⟩=some (.pointer (some ⟨A.q,0,none⟩))/\(Instr.lookup 158 (.map (some w.heap.size)) (.int .u8 2) false).run Tryz.prog W=.ok (.func (.func 90) #[] #[]) W):=fun W hc=>⟨(HSM.out W hc).1,HL.out W 2 _ (HSM.out W hc).2 wf2 HF2.out⟩
        have HNO:Hid (∀W,Calls Tryz.prog 90 #[.pointer (some ⟨ap,0,none⟩)] W fun e w'=>e=.returned (.int .i64 0)/\w'=W):=fun W=>ar_nought
        have HMK:Hid (Calls Tryz.prog 92 #[.pointer (some ⟨A.q,0,none⟩),.int .i64 k,.bool true,.int .i64 0] wr.drew fun e w'=>e=.returned (.tuple #[])/\RwIn w' T A ({R with fr:=frMix g R.fr (k+1)}:RS) lg vw X/\Chg (fun q=>A.has q) wr.drew w'):=HNX.out _ true (by rw[decide_eq_true hkg]) (HK.out.rw.below (Below.refl _ _).drew) 0 (fun _=>rfl);clear hkg HNX;go_wp2;go_region_held3 (fun w'=>w'.cell? ⟨ap,13,none⟩=some (.pointer (some ⟨A.q,0,none⟩))/\(Instr.lookup 158 (.map (some w.heap.size)) (.int .u8 2) false).run Tryz.prog w'=.ok (.func (.func 90) #[] #[]) w')
          (first|exact HL2.out _ (Chg.refl _ _)|exact HL2.out _ HC6.out)
          (first
            |(go_at_call 90;(with_reducible refine(HNO.out _).mono ?_);rintro e w5 ⟨rfl,hw5⟩;subst hw5)
            |(go_at_call 92;(with_reducible refine HMK.out.mono ?_);rintro e w6 ⟨rfl,hr6,hc6⟩;have HC6:=Lib.hid hc6;have HR6:=Lib.hid hr6;clear hr6 hc6))
        go_wp2;exact⟨⟨k+1,hk2,by go_num,HR6.out,HVD.out.mod HC6.out (HAN.out _ (Nat.le_refl _)),HK.out.chg.trans ((Chg.refl _ _).drew.trans HC6.out)⟩,by simp[intOf];omega⟩
      · rw[if_neg hkg]at ck
        have HB0:Hid (∀W,Calls Tryz.prog 40 #[.agg #[.int .i64 R.M,.int .i64 R.C,.int .i64 R.S]] W fun e w'=>e=.returned (.int .i64 (geoRows R.M R.C R.S))/\Below W.heap.size W w'):=fun W=>HRW.out W
        have HBE:Hid (∀W,W.cell? ⟨ap,5,none⟩=some (.int .i64 R.M)->W.cell? ⟨ap,6,none⟩=some (.int .i64 R.C)->W.cell? ⟨ap,7,none⟩=some (.int .i64 R.S)->Calls Tryz.prog 89 #[.pointer (some ⟨ap,0,none⟩)] W fun e w'=>e=.returned (.int .i64 (geoRows R.M R.C R.S))/\Below W.heap.size W w'):=fun W h5 h6 h7=>ar_beyond h5 h6 h7 HB0.out
        generalize geoRows R.M R.C R.S=gr at*;have HL1:Hid (∀W,Chg (fun q=>A.has q) wr.drew W->W.cell? ⟨ap,13,none⟩=some (.pointer (some ⟨A.q,0,none⟩))/\(Instr.lookup 158 (.map (some w.heap.size)) (.int .u8 1) false).run Tryz.prog W=.ok (.func (.func 89) #[] #[]) W):=fun W hc=>⟨(HSM.out W hc).1,HL.out W 1 _ (HSM.out W hc).2 wf1 HF1.out⟩
        have HBD:Hid (Calls Tryz.prog 89 #[.pointer (some ⟨ap,0,none⟩)] wr.drew fun e w'=>e=.returned (.int .i64 gr)/\Below wr.heap.size wr.drew w'):=HBE.out wr.drew c5 c6 c7;have HMK:Hid (∀W,Below wr.heap.size wr.drew W->Calls Tryz.prog 92 #[.pointer (some ⟨A.q,0,none⟩),.int .i64 k,.bool false,.int .i64 gr] W fun e w'=>e=.returned (.tuple #[])/\RwIn w' T A ({R with fr:=frMix g R.fr (k+1)}:RS) lg vw X/\Chg (fun q=>A.has q) W w'):=fun W hW=>HNX.out W false (by rw[decide_eq_false hkg]) ((HK.out.rw.below (Below.refl _ _).drew).below hW) gr (fun e=>by cases e)
        clear hkg HNX HBE HB0;go_wp2;go_region_held3 (fun w'=>w'.cell? ⟨ap,13,none⟩=some (.pointer (some ⟨A.q,0,none⟩))/\(Instr.lookup 158 (.map (some w.heap.size)) (.int .u8 1) false).run Tryz.prog w'=.ok (.func (.func 89) #[] #[]) w')
          (first|exact HL1.out _ (Chg.refl _ _)|exact HL1.out _ (Chg.ofBelow HB5.out _)|exact HL1.out _ ((Chg.ofBelow HB5.out _).trans HC6.out))
          (first
            |(go_at_call 89;(with_reducible refine HBD.out.mono ?_);rintro e w5 ⟨rfl,hb5⟩;have HB5:=Lib.hid hb5;clear hb5)
            |(go_at_call 92;(with_reducible refine(HMK.out _ HB5.out).mono ?_);rintro e w6 ⟨rfl,hr6,hc6⟩;have HC6:=Lib.hid hc6;have HR6:=Lib.hid hr6;clear hr6 hc6))
        go_wp2;exact⟨⟨k+1,hk2,by go_num,HR6.out,(HVD.out.below HB5.out).mod HC6.out (HAN.out _ (Nat.le_refl _)),HK.out.chg.trans ((Chg.refl _ _).drew.trans ((Chg.ofBelow HB5.out _).trans HC6.out))⟩,by simp[intOf];omega⟩
    · obtain rfl:k=R.M:=by omega
      go_wp2;go_end0;exact⟨rfl,RwIn.frCong HK.out.rw fun m hm=>if_pos hm,HK.out.chg⟩
section
abbrev arB (ap stg:Nat) (A:Adr) (M C S ring:Nat) (lazy:Bool) (id ev sf:Nat):Nat×Array Value×TypeId:=(ap,arCells A.b stg (.pointer (some ⟨A.q,0,none⟩)) A.wp id ev sf M C S ring lazy,68)
abbrev stB (stg:Nat) (g:Int) (M:Nat):Nat×Array Value×TypeId:=(stg,stCells g M,102)
abbrev erB (n:Nat):Nat×Array Value×TypeId:=(n,#[.int .u16 0],34)
structure ArP (R:RS) (V:Nat->Nat->Sec) (M C S ring:Nat) (lazy:Bool) (g:Int) (a b:Nat):Prop where
  good:Good R V
  idle:R.lazy=true\/R.wait= []
  bud:Bud R a b
  M:R.M=M
  C:R.C=C
  S:R.S=S
  size:R.size=ring
  lazy:R.lazy=lazy
  fr:R.fr=frOf g
theorem ArP.mono {R:RS} {V:Nat->Nat->Sec} {M C S ring:Nat} {lazy:Bool} {g:Int} {a b a' b':Nat} (h:ArP R V M C S ring lazy g a b) (ha:a≤a') (hb:b≤b'):ArP R V M C S ring lazy g a' b':=⟨h.good,h.idle,h.bud.mono ha hb,h.M,h.C,h.S,h.size,h.lazy,h.fr⟩
theorem ArP.geo {R:RS} {V:Nat->Nat->Sec} {M C S ring:Nat} {lazy:Bool} {g:Int} {a b:Nat} (h:ArP R V M C S ring lazy g a b):geoIs M C S=true:=by
  have:=h.good.geo;rw[h.M,h.C,h.S]at this;exact this
theorem ArP.next {R R':RS} {V V':Nat->Nat->Sec} {M C S ring:Nat} {lazy:Bool} {g:Int} {a b a' b':Nat} (h:ArP R V M C S ring lazy g a b) (hg:Good R' V') (hi:R'.lazy=true\/R'.wait= []) (hb:Bud R' a' b') (hs:Same R R'):ArP R' V' M C S ring lazy g a' b':=
  ⟨hg,hi,hb,hs.M.trans h.M,hs.C.trans h.C,hs.S.trans h.S,hs.size.trans h.size,hs.lazy.trans h.lazy,hs.fr.trans h.fr⟩
theorem ArP.ticks {R:RS} {V:Nat->Nat->Sec} {M C S ring:Nat} {lazy:Bool} {g:Int} {a b:Nat} (h:ArP R V M C S ring lazy g a b) (c:Nat):ArP {R with s:=R.s.ticks 0 c} V M C S ring lazy g (a+c) b:=
  h.next (h.good.ticks c) h.idle (h.bud.ticks c) (Same.ticks R c)
theorem Ab.lt {w0 W:World} {T:Nat->Nat} {A:Adr} {R:RS} {L:List (Nat×Array Value×TypeId)} (h:Ab w0 W T A R L):∀x∈L,x.1<W.heap.size:=fun x hx=>(h.box x hx).1.lt
theorem Ab.done {w0 W:World} {T:Nat->Nat} {A:Adr} {R:RS} {L:List (Nat×Array Value×TypeId)} {n:Nat} (h:Ab w0 W T A R (erB n::L)) (hn:w0.heap.size≤n) (hL:∀x∈L,x.1<n) (v:Value):Ab w0 (W.setCell ⟨n,0,none⟩ v) T A R L:=
  (h.set (by decide) (by decide) hn (fun x hx=>by have:=hL x hx;omega) 0 v).sub fun x hx=>List.mem_cons_of_mem _ hx
theorem stp_done {W W1 W2:World} {T T2:Nat->Nat} {A:Adr} {n:Nat} {v:Value} (hb:Below W.heap.size W W1) (hs:Stp W1 T A W2 T2) (hn:W.heap.size≤n):Stp W T A (W2.setCell ⟨n,0,none⟩ v) T2:=by
  have h:=(Stp.ofBelow (A:=A) (T:=T) hb).trans hs;refine⟨h.tags,Zaj h.chg (Chg.setCell (S:=fun p=>p=n) (Chg.refl _ _) ⟨n,0,none⟩ (.inl rfl) v) fun q hq e=>by omega⟩
theorem l_write_ok {w0 W:World} {T:Nat->Nat} {A:Adr} {R:RS} {V:Nat->Nat->Sec} {a b:Nat} (h:LAt w0 W T A R V) (hb:Bud R a b) (hin:Within a b) (pv:Value) (us:List (Int×List UInt8)) (hp:∀W',Chg (fun q=>q=A.q) W W'->PutSeg W' pv us) (ok:BatchOk R.M R.C R.S us) (hu:us≠ []) (hz:2*mostIn R.M (R.S*R.C) (tabAll R.M R.C us)+1≤R.size):
    Calls Tryz.prog 25 #[.pointer (some ⟨A.q,0,none⟩),pv] W fun e w'=>e=.returned (.agg #[.int .i64 0,.int .u16 0])/\∃T' R' V',LAt w0 w' T' A R' V'/\Stp W T A w' T'/\Bud R' (a+1000000) (b+8*us.length+4)/\Same R R'/\(∀k,k<R.S*R.C*(R.M-1)->blkOf R.M R.C V' k=layK (blkOf R.M R.C V) us us.length k)/\∃ps R1 R4 sec,Batched R V us ps R1 R4 R' sec:=by
  obtain⟨lg,vw,X,hr⟩:=h.rw;have h1:=hin.a;have h2:=hin.b;have h30:=hb.c0;have h31:=hb.c1;have h32:=hb.c2;have h33:=hb.next;refine(Zjv hr h.good pv us hp ok hu hz (by omega) (by omega) (by omega) (by omega) (hb.small' (by omega))).mono ?_;rintro e w' ⟨rfl,ps,R1,R4,R',sec,lg',vw',X',hbt,T',k1,k2,k3⟩;have hst:Stp W T A w' T':=⟨k2,k3⟩;obtain⟨k4,k5⟩:=h.next hst;have hres:=hbt.res h.good ok hu hz (by omega);exact⟨rfl,T',R',vNext R V us,⟨⟨lg',vw',X',k1⟩,hres.good,hres.done,k4,k5⟩,hst,hb.batched hres ok.few h.good.few,hres.cost.same hres.base,fun k hk=>Zlg h.good ok hk,ps,R1,R4,sec,hbt⟩
def WrPost (w0 W:World) (T:Nat->Nat) (A:Adr) (R:RS) (V:Nat->Nat->Sec) (M C S ring:Nat) (lazy:Bool) (g:Int) (a b:Nat) (L:List (Nat×Array Value×TypeId)) (us:List (Int×List UInt8)) (e:Ending) (w':World):Prop:=
  e=.returned (.int .u16 (wcode M C S ring us:Nat))/\∃T' R' V',Ab w0 w' T' A R' L/\Stp W T A w' T'/\ArP R' V' M C S ring lazy g (a+1000000) (b+8*us.length+4)/\(∀k,k<S*C*(M-1)->blkOf M C V' k=wLaid M C S ring us (blkOf M C V) k)/\(wcode M C S ring us≠0->R'=R)/\(us≠ []->wcode M C S ring us=0->∃ps R1 R4 sec,Batched R V us ps R1 R4 R' sec)
section
variable {w0 W W1 W2:World} {T:Nat->Nat} {A:Adr} {R:RS} {V:Nat->Nat->Sec} {M C S ring a b:Nat} {lazy:Bool} {g:Int} {L:List (Nat×Array Value×TypeId)} {us:List (Int×List UInt8)}
theorem WrPost.no (h:Ab w0 W T A R L) (p:ArP R V M C S ring lazy g a b) (hw0:w0.heap.size≤W.heap.size) (hb:Below W.heap.size W W2) (v:Value) (hc:wcode M C S ring us≠0\/us= []):WrPost w0 W T A R V M C S ring lazy g a b L us (.returned (.int .u16 (wcode M C S ring us:Nat))) (W2.setCell ⟨W.heap.size,0,none⟩ v):=by
  have hb':Below W.heap.size W (W2.setCell ⟨W.heap.size,0,none⟩ v):=hb.setCell (p:=⟨W.heap.size,0,none⟩) (Nat.le_refl _) v;refine⟨rfl,T,R,V,h.below hb',Stp.ofBelow hb',p.mono (by omega) (by omega),fun k _=> ?_,fun _=>rfl,fun h1 h2=>(hc.elim (fun e=>absurd h2 e) (fun e=>absurd e h1))⟩;unfold wLaid;rcases hc with e|e
  · rw[if_neg e]
  · subst e
    split<;>rfl
theorem ar_write_no {ap stg id ev sf:Nat} (h:Ab w0 W T A R L) (hbx:arB ap stg A M C S ring lazy id ev sf∈L) (p:ArP R V M C S ring lazy g a b) (pv:Value) (hp:∀W',Chg (fun q=>q=A.q) W W'->PutSeg W' pv us) (h5:5≤ring) (hc:wcode M C S ring us≠0\/us= []):
    Calls Tryz.prog 11 #[.pointer (some ⟨ap,0,none⟩),pv] W (WrPost w0 W T A R V M C S ring lazy g a b L us):=by
  have ha:=(h.box _ hbx).1;have hal:=ha.lt;have hwl:w0.heap.size≤W.heap.size:=h.ln.bel.size;obtain⟨W1,hW1⟩:∃W1,W1=W.alloc (.cells #[.int .u16 0] 34):=⟨_,rfl⟩;have hB1:Below W.heap.size W W1:=by rw[hW1];exact(Below.refl _ _).alloc (Nat.le_refl _) _
  have hE1:At W1 W.heap.size #[.int .u16 0] 34:=by rw[hW1];exact At.new _ _ _
  have ha1:=ha.below hB1 hal;have HAL:=Lib.hid (ar_alive ha1);have hp1:PutSeg W1 pv us:=hp W1 (Chg.ofBelow hB1 _);have HM:Hid (∃most code:Nat,Calls Tryz.prog 24 #[geo M C S,pv] W1 (fun e w'=>e=.returned (.tuple #[.int .i64 most,.int .u16 code])/\Below W1.heap.size W1 w')/\most≤100000/\((code=0/\(ring<2*most+1/\wcode M C S ring us=122\/2*most+1≤ring/\us= []/\wcode M C S ring us=0))\/code≠0/\wcode M C S ring us=code)):=by
    by_cases hs:splitCode M C S us=0
    · have ok:=Zj6 hs
      have hmf:=Zc2 (M:=M) (C:=C) (S:=S) ok.few;refine⟨mostIn M (S*C) (tabAll M C us),0,Zll M C S pv us W1 ok hp1,by omega,.inl ⟨rfl,?_⟩⟩;have e1:wcode M C S ring us=if us= []then 0 else if ring<2*mostIn M (S*C) (tabAll M C us)+1 then 122 else 0:=by
        unfold wcode;rw[if_neg (by rw[hs];simp)]
      by_cases hu:us= []
      · have e2:mostIn M (S*C) (tabAll M C us)=0:=by rw[hu];exact Zub M (S*C)
        exact .inr ⟨by rw[e2];omega,hu,by rw[e1,if_pos hu]⟩
      · rw[if_neg hu]at e1
        by_cases hz:ring<2*mostIn M (S*C) (tabAll M C us)+1
        · rw[if_pos hz]at e1
          exact .inl ⟨hz,e1⟩
        · rw[if_neg hz]at e1
          rcases hc with e|e
          · exact absurd e1 e
          · exact absurd e hu
    · have h0:=Zik M C S us
      obtain⟨n,hn⟩:=Int.eq_ofNat_of_zero_le h0;have hm:=most_refused M C S pv us W1 hp1 hs;rw[hn]at hm;refine⟨0,n,hm,by omega,.inr ⟨by omega,?_⟩⟩;unfold wcode;rw[if_pos hs,hn];rfl
  obtain⟨most,code,hmc,hml,hway⟩:=HM.out;have HMC:=Lib.hid hmc;obtain⟨pa,pc,rfl⟩:=hp1.shape;have c15:W1.cell? ⟨ap,15,none⟩=some (.bool false):=ha1.cell 15;have c5:W1.cell? ⟨ap,5,none⟩=some (.int .i64 M):=ha1.cell 5;have c6:W1.cell? ⟨ap,6,none⟩=some (.int .i64 C):=ha1.cell 6;have c7:W1.cell? ⟨ap,7,none⟩=some (.int .i64 S):=ha1.cell 7;have HEND:=Lib.hid (fun (W2:World) (v:Value) (hb:Below W.heap.size W W2)=>WrPost.no h p hwl hb v hc);have HE1:=Lib.hid hE1;have HA1:=Lib.hid ha1;have HB1:=Lib.hid hB1;unfold geo at HMC;generalize hcd:wcode M C S ring us=cd at*;generalize hun:us.length=un at*;clear h hbx p hp hc ha hwl hB1 hE1 ha1 hp1 HM hmc;subst hW1;rcases hway with ⟨rfl,⟨hz,rfl⟩|⟨hz,rfl,rfl⟩⟩|⟨h0,rfl⟩
  · have hz':decide ((ring:Int)<2*(most:Int)+1)=true:=decide_eq_true (by omega)
    go_enter_defers Tryz.func11,Tryz.ntmps11;go_wp2_with
    (first
      |(go_at_call 23;(with_reducible refine HAL.out.mono ?_);rintro e w2 ⟨rfl,hw2⟩;subst hw2)
      |(go_at_call 24;(with_reducible refine HMC.out.mono ?_);rintro e w3 ⟨rfl,hb3⟩;clear c15 c5 c6 c7;have ha3:=HA1.out.below hb3 HA1.out.lt;have he3:=HE1.out.below hb3 HE1.out.lt;have c8:w3.cell? ⟨ap,8,none⟩=some (.int .i64 ring):=ha3.cell 8;have ce:w3.cell? ⟨W.heap.size,0,none⟩=some (.int .u16 0):=he3.cell 0;have fe:=he3.free 0;have HB3:=Lib.hid (Zac HB1.out hb3);clear hb3 ha3 he3))
    (try simp only [Exit.inBlock,Exit.then]);refine leaves_cons (f:=22) (args:= #[.pointer (some ⟨W.heap.size,0,none⟩)]) (by simp) (by simp[go_sem]) ?_;refine(ar_guard _ _).mono ?_;rintro e u' w'' ⟨rfl,rfl,rfl⟩;refine⟨.int .u16 (122:Nat),?_,HEND.out _ _ (HB3.out.setCell (p:=⟨W.heap.size,0,none⟩) (Nat.le_refl _) _)⟩;rw[Zai rfl];go_simp;try rfl
  · obtain rfl:un=0:=hun.symm
    have hz':decide ((ring:Int)<2*(most:Int)+1)=false:=decide_eq_false (by omega);go_enter_defers Tryz.func11,Tryz.ntmps11;go_wp2_with
    (first
      |(go_at_call 23;(with_reducible refine HAL.out.mono ?_);rintro e w2 ⟨rfl,hw2⟩;subst hw2)
      |(go_at_call 24;(with_reducible refine HMC.out.mono ?_);rintro e w3 ⟨rfl,hb3⟩;clear c15 c5 c6 c7;have ha3:=HA1.out.below hb3 HA1.out.lt;have he3:=HE1.out.below hb3 HE1.out.lt;have c8:w3.cell? ⟨ap,8,none⟩=some (.int .i64 ring):=ha3.cell 8;have ce:w3.cell? ⟨W.heap.size,0,none⟩=some (.int .u16 0):=he3.cell 0;have fe:=he3.free 0;have HB3:=Lib.hid (Zac HB1.out hb3);clear hb3 ha3 he3))
    (try simp only [Exit.inBlock,Exit.then]);refine leaves_cons (f:=22) (args:= #[.pointer (some ⟨W.heap.size,0,none⟩)]) (by simp) (by simp[go_sem]) ?_;refine(ar_guard _ _).mono ?_;rintro e u' w'' ⟨rfl,rfl,rfl⟩;refine⟨.int .u16 (0:Nat),?_,HEND.out _ _ (HB3.out.setCell (p:=⟨W.heap.size,0,none⟩) (Nat.le_refl _) _)⟩;rw[Zai rfl];go_simp;try rfl
  · have h0':((cd:Int) !=0)=true:=by simp;omega
    go_enter_defers Tryz.func11,Tryz.ntmps11;go_wp2_with
    (first
      |(go_at_call 23;(with_reducible refine HAL.out.mono ?_);rintro e w2 ⟨rfl,hw2⟩;subst hw2)
      |(go_at_call 24;(with_reducible refine HMC.out.mono ?_);rintro e w3 ⟨rfl,hb3⟩;clear c15 c5 c6 c7;have ha3:=HA1.out.below hb3 HA1.out.lt;have he3:=HE1.out.below hb3 HE1.out.lt;have c8:w3.cell? ⟨ap,8,none⟩=some (.int .i64 ring):=ha3.cell 8;have ce:w3.cell? ⟨W.heap.size,0,none⟩=some (.int .u16 0):=he3.cell 0;have fe:=he3.free 0;have HB3:=Lib.hid (Zac HB1.out hb3);clear hb3 ha3 he3))
    (try simp only [Exit.inBlock,Exit.then]);refine leaves_cons (f:=22) (args:= #[.pointer (some ⟨W.heap.size,0,none⟩)]) (by simp) (by simp[go_sem]) ?_;refine(ar_guard _ _).mono ?_;rintro e u' w'' ⟨rfl,rfl,rfl⟩;refine⟨.int .u16 (cd:Nat),?_,HEND.out _ _ (HB3.out.setCell (p:=⟨W.heap.size,0,none⟩) (Nat.le_refl _) _)⟩;rw[Zai rfl];go_simp;try rfl
theorem ar_write {ap stg id ev sf:Nat} (h:Ab w0 W T A R L) (hbx:arB ap stg A M C S ring lazy id ev sf∈L) (p:ArP R V M C S ring lazy g a b) (hin:Within a b) (pv:Value) (hp:∀W',Chg (fun q=>q=A.q) W W'->PutSeg W' pv us) (h5:5≤ring):
    Calls Tryz.prog 11 #[.pointer (some ⟨ap,0,none⟩),pv] W (WrPost w0 W T A R V M C S ring lazy g a b L us):=by
  by_cases hc:wcode M C S ring us≠0\/us= []
  · exact ar_write_no h hbx p pv hp h5 hc
  have hcw:wcode M C S ring us=0:=Classical.byContradiction fun e=>hc (.inl e)
  have hus:us≠ []:=fun e=>hc (.inr e)
  have hsc:splitCode M C S us=0:=Classical.byContradiction fun e=>by
    have h0:=Zik M C S us;unfold wcode at hcw;rw[if_pos e]at hcw;omega
  have ok:=Zj6 hsc;have hfit:2*mostIn M (S*C) (tabAll M C us)+1≤ring:=Classical.byContradiction fun e=>by
    unfold wcode at hcw;rw[if_neg (by rw[hsc];simp),if_neg hus,if_pos (by omega)]at hcw;omega
  have hmf:=Zc2 (M:=M) (C:=C) (S:=S) ok.few;have ha:=(h.box _ hbx).1;have hal:=ha.lt;have hwl:w0.heap.size≤W.heap.size:=h.ln.bel.size;obtain⟨W1,hW1⟩:∃W1,W1=W.alloc (.cells #[.int .u16 0] 34):=⟨_,rfl⟩;have hB1:Below W.heap.size W W1:=by rw[hW1];exact(Below.refl _ _).alloc (Nat.le_refl _) _
  have HK1:Hid (Ab w0 W1 T A R (erB W.heap.size::L)):=by rw[hW1];exact h.push _ _ (by decide) (by decide) (by decide) (by decide)
  have ha1:=ha.below hB1 hal;have HAL:=Lib.hid (ar_alive ha1);have hp1:PutSeg W1 pv us:=hp W1 (Chg.ofBelow hB1 _);have HMC:Hid (Calls Tryz.prog 24 #[geo M C S,pv] W1 (fun e w'=>e=.returned (.tuple #[.int .i64 (mostIn M (S*C) (tabAll M C us):Nat),.int .u16 0])/\Below W1.heap.size W1 w')):=Zll M C S pv us W1 ok hp1;have hu0:0<us.length:=List.length_pos_iff.2 hus;obtain⟨pa,pc,rfl⟩:=hp1.shape;have HW:Hid (∀W3,Below W.heap.size W W3->Ab w0 W3 T A R (erB W.heap.size::L)->Calls Tryz.prog 25 #[.pointer (some ⟨A.q,0,none⟩),.slice pa us.length pc] W3 fun e w'=>e=.returned (.agg #[.int .i64 0,.int .u16 0])/\∃T' R' V',Ab w0 w' T' A R' (erB W.heap.size::L)/\Stp W3 T A w' T'/\ArP R' V' M C S ring lazy g (a+1000000) (b+8*us.length+4)/\(∀k,k<S*C*(M-1)->blkOf M C V' k=layK (blkOf M C V) us us.length k)/\∃ps R1 R4 sec,Batched R V us ps R1 R4 R' sec):=fun W3 hW3 hA3=>by
    have hl:=hA3.lat p.good p.idle;have eM:=p.M;have eC:=p.C;have eS:=p.S;have eZ:=p.size;refine(l_write_ok hl p.bud hin _ us (fun W' hc=>hp W' (Zaj (Chg.ofBelow hW3 _) hc fun q hq e=>e)) (by rw[eM,eC,eS];exact ok) hus (by rw[eM,eC,eS,eZ];exact hfit)).mono ?_;rintro e w' ⟨rfl,T',R',V',k1,k2,k3,k4,k5,k6⟩;rw[eM,eC,eS]at k5;exact⟨rfl,T',R',V',hA3.step k1.ln k2,k2,p.next k1.good k1.idle k3 k4,k5,k6⟩
  have HL:Hid (∀x∈L,x.1<W.heap.size):=h.lt;have HE1:Hid (At W1 W.heap.size #[.int .u16 0] 34):=by rw[hW1];exact At.new _ _ _
  have c15:W1.cell? ⟨ap,15,none⟩=some (.bool false):=ha1.cell 15;have c5:W1.cell? ⟨ap,5,none⟩=some (.int .i64 M):=ha1.cell 5;have c6:W1.cell? ⟨ap,6,none⟩=some (.int .i64 C):=ha1.cell 6;have c7:W1.cell? ⟨ap,7,none⟩=some (.int .i64 S):=ha1.cell 7;have HA1:=Lib.hid ha1;have HB1:=Lib.hid hB1;have HCW:=Lib.hid hcw;have HUS:Hid (∀k V',blkOf M C V' k=layK (blkOf M C V) us us.length k->blkOf M C V' k=wLaid M C S ring us (blkOf M C V) k):=fun k V' e=>by
    unfold wLaid;rw[if_pos hcw];exact e
  have hz':decide ((ring:Int)<2*((mostIn M (S*C) (tabAll M C us):Nat):Int)+1)=false:=decide_eq_false (by omega);generalize mostIn M (S*C) (tabAll M C us)=most at*;unfold geo at HMC;have hun0:¬(us.length:Int)=0:=by omega
  have HUN:Hid (∃un,un=us.length):=⟨_,rfl⟩;clear h hbx p hp ha hB1 ha1 hp1 hcw hsc ok hfit hus hin hc hu0;subst hW1;go_enter_defers Tryz.func11,Tryz.ntmps11
  go_wp2_with (first
    |(go_at_call 23;(with_reducible refine HAL.out.mono ?_);rintro e w2 ⟨rfl,hw2⟩;subst hw2)
    |(go_at_call 24;(with_reducible refine HMC.out.mono ?_);rintro e w3 ⟨rfl,hb3⟩;clear c15 c5 c6 c7;have ha3:=HA1.out.below hb3 HA1.out.lt;have he3:=HE1.out.below hb3 HE1.out.lt;have c8:w3.cell? ⟨ap,8,none⟩=some (.int .i64 ring):=ha3.cell 8;have c13:w3.cell? ⟨ap,13,none⟩=some (.pointer (some ⟨A.q,0,none⟩)):=ha3.cell 13;have ce:w3.cell? ⟨W.heap.size,0,none⟩=some (.int .u16 0):=he3.cell 0;have fe:=he3.free 0;have hne:ap≠W.heap.size:=(by omega);have HB3:=Lib.hid (Zac HB1.out hb3);have HK3:=Lib.hid (HK1.out.below hb3);clear hb3 ha3 he3))
  have HB4:Hid (Below W.heap.size W (w3.setCell ⟨W.heap.size,0,none⟩ (.int .u16 0))):=HB3.out.setCell (p:=⟨W.heap.size,0,none⟩) (Nat.le_refl _) _;have HK4:Hid (Ab w0 (w3.setCell ⟨W.heap.size,0,none⟩ (.int .u16 0)) T A R (erB W.heap.size::L)):=HK3.out.set (by decide) (by decide) hwl (fun x hx=>by have:=HL.out x hx;omega) 0 (.int .u16 0);have d13:(w3.setCell ⟨W.heap.size,0,none⟩ (.int .u16 0)).cell? ⟨ap,13,none⟩=some (.pointer (some ⟨A.q,0,none⟩)):=(World.cell?_setCell_far _ _ _ _ (fun e=>hne e.symm)).trans c13;generalize hw4:w3.setCell ⟨W.heap.size,0,none⟩ (.int .u16 0)=w4 at*;clear hw4 ce fe c8 c13 HB3 HK3;go_loopw [] (fun wr=>wr=w4) (fun _=>0);case atStart=>rfl
  case round=>
    obtain rfl:=hrel
    go_wp2_with (first
      |(go_at_call 25;(with_reducible refine(HW.out _ HB4.out HK4.out).mono ?_);rintro e w5 ⟨rfl,T',R',V',k1,k2,k3,k4,k5⟩;have hbx5:=k1.get 0 rfl;have ce:w5.cell? ⟨W.heap.size,0,none⟩=some (.int .u16 0):=hbx5.cell 0;have fe:=hbx5.free 0;have HK5:=Lib.hid k1;have HS5:=Lib.hid k2;have HP5:=Lib.hid k3;have HV5:=Lib.hid k4;have HT5:=Lib.hid k5;have hlt5:=hbx5.lt;clear k1 k2 k3 k4 k5 hbx5))
    (try simp only [Exit.inBlock,Exit.then]);refine leaves_cons (f:=22) (args:= #[.pointer (some ⟨W.heap.size,0,none⟩)]) (by simp) (by simp[go_sem]) ?_;refine(ar_guard _ _).mono ?_;rintro e u' w'' ⟨rfl,rfl,rfl⟩;refine⟨.int .u16 ((wcode M C S ring us:Nat)),?_,rfl,T',R',V',(HK5.out.done hwl HL.out _).below ((Below.refl _ _).alloc (Nat.le_refl _) _),(stp_done HB4.out HS5.out (Nat.le_refl _)).trans (Stp.ofBelow ((Below.refl _ _).alloc (Nat.le_refl _) _)),HP5.out,fun k hk=>HUS.out k V' (HV5.out k hk),fun e=>absurd HCW.out e,fun _ _=>HT5.out⟩;rw[HCW.out,Zai rfl];go_simp;try rfl
end
end
section
section
variable {W:World} {T:Nat->Nat} {A:Adr} {R:RS} {V:Nat->Nat->Sec} {M C S ring a b:Nat} {lazy:Bool} {g:Int} {ap stg id ev sf n:Nat} {lg:Option Nat} {vw:Value} {X:List OP}
def RdPost (W:World) (T:Nat->Nat) (A:Adr) (R:RS) (lg:Option Nat) (vw:Value) (X:List OP) (D:Sec) (bb:Nat) (w':World):Prop:=
  ∃v c,c≤17/\At w' bb #[v] 36/\w'.ownsRow W.heap.size 5 1 v 128 (ucells D)/\RwIn w' T A {R with s:=R.s.ticks 0 c} lg vw X/\Chg (fun q=>T q≠0\/q=bb) W w'
theorem rd_end {W1 w5:World} {D:Sec} {bb tb c:Nat} {v:Value} (hW1:Below W.heap.size W W1) (htb:tb=W.heap.size) (hc:c≤17) (hb:At W bb #[.slice none 0 0] 36) (hT:∀q,W.heap.size≤q->T q=0) (hTb:T bb=0) (hlow:RwLow A vw X n) (hnb:n≤bb)
    (h5:RwIn w5 T A {R with s:=R.s.ticks 0 c} lg vw X) (hown:w5.ownsRow W1.heap.size 5 1 v 128 (ucells D)) (hch:Chg (fun q=>T q≠0) W1 w5) (t0:At w5 tb #[.int .i64 0,.int .u16 0] 76) (x0 x1:Value):
    RdPost W T A R lg vw X D bb (((((w5.setCell ⟨bb,0,none⟩ v).setCell ⟨tb,0,none⟩ x0).setCell ⟨tb,1,none⟩ x1).setCell ⟨tb,0,none⟩ x0).setCell ⟨tb,1,none⟩ x1):=by
  have hbb:=hb.lt;have hb5:At w5 bb #[.slice none 0 0] 36:=(hb.below hW1 hbb).mod hch (fun e=>e hTb);have hne:bb≠tb:=by omega
  have hch0:Chg (fun q=>T q≠0\/q=bb) W w5:=(Chg.ofBelow hW1 _).trans (hch.mono fun q e=>.inl e);have hown0:w5.ownsRow W.heap.size 5 1 v 128 (ucells D):=Zc9 hown hW1.size;have hst:Chg (fun q=>q=bb\/q=tb) w5 (((((w5.setCell ⟨bb,0,none⟩ v).setCell ⟨tb,0,none⟩ x0).setCell ⟨tb,1,none⟩ x1).setCell ⟨tb,0,none⟩ x0).setCell ⟨tb,1,none⟩ x1):=
    (((((Chg.refl _ w5).setCell ⟨bb,0,none⟩ (.inl (.inl rfl)) v).setCell ⟨tb,0,none⟩ (.inl (.inr rfl)) x0).setCell ⟨tb,1,none⟩ (.inl (.inr rfl)) x1).setCell ⟨tb,0,none⟩ (.inl (.inr rfl)) x0).setCell ⟨tb,1,none⟩ (.inl (.inr rfl)) x1
  refine⟨v,c,hc,?_,Zad hown0 hst (fun q hq e=> ?_),h5.apart hlow hst (fun q e=> ?_),Zaj hch0 hst fun q hq e=> ?_⟩
  · have hne':(⟨tb,0,none⟩:Addr).block≠bb:=fun e=>hne e.symm
    exact((((hb5.set 0 v).setOther (a:=⟨tb,0,none⟩) hne x0).setOther (a:=⟨tb,1,none⟩) hne x1).setOther (a:=⟨tb,0,none⟩) hne x0).setOther (a:=⟨tb,1,none⟩) hne x1
  · rcases e with e|e
    · exact Za4 hown0 hb5 (by decide) (by rw[hq,e])
    · exact Za4 hown0 t0 (by decide) (by rw[hq,e])
  · have hsz:=hlow
    rcases e with e|e
    · subst e;exact⟨hTb,hnb⟩
    · subst e;exact⟨hT _ (by omega),by omega⟩
  · rcases e with e|e
    · exact .inr e
    · omega
theorem ar_rd2 (hr:RwIn W T A R lg vw X) (hlow:RwLow A vw X n) (ha:At W ap (arCells A.b stg (.pointer (some ⟨A.q,0,none⟩)) A.wp id ev sf M C S ring lazy) 68) (hta:T ap=0) (p:ArP R V M C S ring lazy g a b) (hin:Within a b) {n0 n1 ib bb k i:Nat} (h0:At W n0 #[.pointer (some ⟨ap,0,none⟩)] 24) (h1:At W n1 #[.int .i64 k] 3) (h2:At W ib #[.int .i64 i] 3) (h3:At W bb #[.slice none 0 0] 36) (t0:T n0=0) (t1:T n1=0) (t2:T ib=0) (t3:T bb=0) (hnb:n≤bb) (hk:k+i<S*C*(M-1)):
    Calls Tryz.prog 35 #[.pointer (some ⟨n0,0,none⟩),.pointer (some ⟨n1,0,none⟩),.pointer (some ⟨ib,0,none⟩),.pointer (some ⟨bb,0,none⟩)] W fun e w'=>e=.returned (.agg #[.int .i64 0,.int .u16 0])/\RdPost W T A R lg vw X (blkOf M C V (k+i)) bb w':=by
  have hblk:=Zxp p.good.geo;have hbm:S*C*(M-1)≤61440:=by
    unfold RS.blocks at hblk;rw[p.M,p.C,p.S]at hblk;exact hblk
  obtain⟨W1,hW1⟩:∃W1,W1=W.alloc (.cells #[.int .i64 0,.int .u16 0] 76):=⟨_,rfl⟩;have hB1:Below W.heap.size W W1:=by rw[hW1];exact(Below.refl _ _).alloc (Nat.le_refl _) _
  have hBD:Below W.heap.size W W1.drew:=hB1.drew;have hTB:At W1 W.heap.size #[.int .i64 0,.int .u16 0] 76:=by rw[hW1];exact At.new _ _ _
  have hv:∀q,W.heap.size≤q->T q=0:=fun q hq=>Zae hr.bay q hq
  have HRD:Hid (Calls Tryz.prog 36 #[.pointer (some ⟨A.q,0,none⟩),.int .i64 ((k:Int)+i)] W1.drew fun e w'=>∃v c,e=.returned (.tuple #[v,.agg #[.int .i64 0,.int .u16 0]])/\c≤17/\w'.ownsRow W1.drew.heap.size 5 1 v 128 (ucells (blkOf M C V (k+i)))/\RwIn w' T A {R with s:=R.s.ticks 0 c} lg vw X/\Chg (fun q=>T q≠0) W1.drew w'):=by
    have h1:=hin.a;have h2:=hin.b;have h3:=p.bud.c0;have hM:=(Zbe p.good.geo).2.1;refine(Zya (hr.below hBD) p.good.sound (k+i) (by rw[p.M,p.C,p.S];exact hk) (by omega) (p.bud.small' (by omega))).mono ?_;rintro e w' ⟨v,rfl,k1,k2,k3⟩;rw[p.M,p.C]at k1;exact⟨v,_,rfl,Nat.le_trans (R.rc_le _ _) (by omega),k1,k2,k3⟩
  have c0:W1.cell? ⟨n0,0,none⟩=some (.pointer (some ⟨ap,0,none⟩)):=(h0.below hB1 h0.lt).cell 0;have c1:W1.cell? ⟨n1,0,none⟩=some (.int .i64 k):=(h1.below hB1 h1.lt).cell 0;have c2:W1.cell? ⟨ib,0,none⟩=some (.int .i64 i):=(h2.below hB1 h2.lt).cell 0;have c3:W1.cell? ⟨ap,13,none⟩=some (.pointer (some ⟨A.q,0,none⟩)):=(ha.below hB1 ha.lt).cell 13;have HC:Hid (∀w',Chg (fun q=>T q≠0) W1.drew w'->w'.cell? ⟨n0,0,none⟩=some (.pointer (some ⟨ap,0,none⟩))/\w'.cell? ⟨n1,0,none⟩=some (.int .i64 k)/\w'.cell? ⟨ib,0,none⟩=some (.int .i64 i)/\w'.cell? ⟨ap,13,none⟩=some (.pointer (some ⟨A.q,0,none⟩))):=fun w' hc=>
    ⟨((h0.below hB1 h0.lt).drew.mod hc (fun e=>e t0)).cell 0,((h1.below hB1 h1.lt).drew.mod hc (fun e=>e t1)).cell 0,((h2.below hB1 h2.lt).drew.mod hc (fun e=>e t2)).cell 0,((ha.below hB1 ha.lt).drew.mod hc (fun e=>e hta)).cell 13⟩
  have HE:Hid (∀w5 v c x0 x1,c≤17->w5.ownsRow W1.drew.heap.size 5 1 v 128 (ucells (blkOf M C V (k+i)))->RwIn w5 T A {R with s:=R.s.ticks 0 c} lg vw X->Chg (fun q=>T q≠0) W1.drew w5->RdPost W T A R lg vw X (blkOf M C V (k+i)) bb (((((w5.setCell ⟨bb,0,none⟩ v).setCell ⟨W.heap.size,0,none⟩ x0).setCell ⟨W.heap.size,1,none⟩ x1).setCell ⟨W.heap.size,0,none⟩ x0).setCell ⟨W.heap.size,1,none⟩ x1)):=fun w5 v c x0 x1 k1 k2 k3 k4=>rd_end hBD rfl k1 h3 hv t3 hlow hnb k3 k2 k4 (hTB.drew.mod k4 (fun e=>e (hv _ (Nat.le_refl _)))) x0 x1
  have HTB:Hid (∀w5,Chg (fun q=>T q≠0) W1.drew w5->At w5 W.heap.size #[.int .i64 0,.int .u16 0] 76/\At w5 bb #[.slice none 0 0] 36):=fun w5 hc=>⟨hTB.drew.mod hc (fun e=>e (hv _ (Nat.le_refl _))),((h3.below hB1 h3.lt).drew.mod hc (fun e=>e t3))⟩
  have hbne0:bb≠n0:=fun e=>Zaw h3 h0 (by decide) e
  have hbne1:bb≠n1:=fun e=>Zaw h3 h1 (by decide) e
  have hbne2:bb≠ib:=fun e=>Zaw h3 h2 (by decide) e
  have hbne3:bb≠ap:=fun e=>Zaw h3 ha (by decide) e
  have hl0:=h0.lt;have hl1:=h1.lt;have hl2:=h2.lt;have hl3:=h3.lt;have hl4:ap<W.heap.size:=ha.lt;have htn0:W.heap.size≠n0:=by omega
  have htn1:W.heap.size≠n1:=by omega
  have htn2:W.heap.size≠ib:=by omega
  have htn3:W.heap.size≠ap:=by omega
  have htn4:W.heap.size≠bb:=by omega
  have htn5:bb≠W.heap.size:=by omega
  have hwr:IntKind.i64.wrap ((k:Int)+i)=(k:Int)+i:=by rw[IntKind.wrap_i64];omega
  clear hr hlow ha p hin h0 h1 h2 h3 t0 t1 t2 t3 hk hta hblk hB1 hBD hTB hv;go_enter Tryz.func35,Tryz.ntmps35;go_wp2;rw[<-hW1];clear hW1;go_region_held3 (fun w'=>w'.cell? ⟨n0,0,none⟩=some (.pointer (some ⟨ap,0,none⟩))/\w'.cell? ⟨n1,0,none⟩=some (.int .i64 k)/\w'.cell? ⟨ib,0,none⟩=some (.int .i64 i)/\w'.cell? ⟨ap,13,none⟩=some (.pointer (some ⟨A.q,0,none⟩)))
    (first|with_reducible exact HC.out _ (Chg.refl _ _)|with_reducible exact HC.out _ HC5.out|(simp[*,World.cell?_setCell_far]))
    (first
      |(go_at_call 36;(with_reducible refine HRD.out.mono ?_);rintro e w5 ⟨v,c,rfl,hc,hv5,hk5,hc5⟩;obtain⟨ht5,hb5⟩:=HTB.out w5 hc5;obtain⟨e0,e1,e2,e3⟩:=HC.out w5 hc5;have b0:w5.cell? ⟨bb,0,none⟩=some (.slice none 0 0):=hb5.cell 0;have f0:=hb5.free 0;have q0:w5.cell? ⟨W.heap.size,0,none⟩=some (.int .i64 0):=ht5.cell 0;have q1:w5.cell? ⟨W.heap.size,1,none⟩=some (.int .u16 0):=ht5.cell 1;have g0:=ht5.free 0;have g1:=ht5.free 1;have HC5:=Lib.hid hc5;have HT5:=Lib.hid ht5;have HF:=Lib.hid (HE.out w5 v c (.int .i64 0) (.int .u16 0) hc hv5 hk5 hc5);obtain⟨va,vc,rfl⟩:=Zab hv5;clear hc hv5 hk5 hc5 ht5 hb5))
  go_wp2;(try simp only [Exit.inBlock,Exit.then]);have hs4:=(((HT5.out.setOther (a:=⟨bb,0,none⟩) htn4 (.slice va 128 vc)).set 0 (.int .i64 0)).set 1 (.int .u16 0)).set 0 (.int .i64 0);have r4:_=some (Value.int .i64 0):=hs4.cell 0;have hs5:=hs4.set 1 (.int .u16 0);have r5:_=some (Value.int .i64 0):=hs5.cell 0;have r6:_=some (Value.int .u16 0):=hs5.cell 1;clear hs4 hs5 HRD HC HE HTB HC5;refine bodyPost_ret (v:=.agg #[.int .i64 0,.int .u16 0]) ?_ rfl ⟨rfl,HF.out⟩;rw[Zai rfl];go_simp;try rfl
theorem ar_again_rd (hr:RwIn W T A R lg vw X) (hlow:RwLow A vw X n) (ha:At W ap (arCells A.b stg (.pointer (some ⟨A.q,0,none⟩)) A.wp id ev sf M C S ring lazy) 68) (hta:T ap=0) (p:ArP R V M C S ring lazy g a b) (hin:Within a b) {n0 n1 ib bb k i:Nat} (h0:At W n0 #[.pointer (some ⟨ap,0,none⟩)] 24) (h1:At W n1 #[.int .i64 k] 3) (h2:At W ib #[.int .i64 i] 3) (h3:At W bb #[.slice none 0 0] 36) (t0:T n0=0) (t1:T n1=0) (t2:T ib=0) (t3:T bb=0) (hnb:n≤bb) (hk:k+i<S*C*(M-1)):
    Calls Tryz.prog 32 #[.pointer (some ⟨ap,0,none⟩),.func (.func 35) #[] #[.pointer (some ⟨n0,0,none⟩),.pointer (some ⟨n1,0,none⟩),.pointer (some ⟨ib,0,none⟩),.pointer (some ⟨bb,0,none⟩)]] W fun e w'=>e=.returned (.bool true)/\RdPost W T A R lg vw X (blkOf M C V (k+i)) bb w':=by
  have HR:=Lib.hid (ar_rd2 hr hlow ha hta p hin h0 h1 h2 h3 t0 t1 t2 t3 hnb hk);have HE:Hid (∀w5 o,RdPost W T A R lg vw X (blkOf M C V (k+i)) bb w5->RdPost W T A R lg vw X (blkOf M C V (k+i)) bb (w5.alloc o)):=fun w5 o ⟨v,c,k1,k2,k3,k4,k5⟩=>⟨v,c,k1,k2.alloc o,k3.alloc o,k4.below ((Below.refl _ _).alloc (Nat.le_refl _) o),k5.alloc o⟩
  clear hr hlow ha hta p hin h0 h1 h2 h3 t0 t1 t2 t3 hnb hk;go_enter Tryz.func32,Tryz.ntmps32;go_wp2;go_loopw [] (fun wr=>wr=W) (fun _=>0);case atStart=>rfl
  case round=>
    obtain rfl:=hrel
    go_wp2_with (first
      |(go_at_call 35;(with_reducible refine HR.out.mono ?_);rintro e w5 ⟨rfl,hp5⟩;have HP5:=Lib.hid hp5;clear hp5))
    go_ret;exact⟨rfl,HE.out _ _ HP5.out⟩
end
end
section
theorem ar_rd1 (p q:Addr) (w:World) (h:w.cell? p=some (.int .u16 0)):CallsD Tryz.prog 34 #[.pointer (some p),.pointer (some q)] .returning w fun e u' w'=>e=.returned (.tuple #[])/\u'=.returning/\w'=w:=by
  refine(callsD_of_wp (R:=fun e w'=>e=.returned (.tuple #[])/\w'=w) Tryz.func34 rfl ?_).mono (fun e u' w' ⟨h1,h2,h3⟩=>⟨h2,h1,h3⟩);simp only [Tryz.ntmps34];simp;go_wp2;go_end0;exact⟨rfl,rfl⟩
section
variable {w0 W:World} {T:Nat->Nat} {A:Adr} {R:RS} {V:Nat->Nat->Sec} {M C S ring a b:Nat} {lazy:Bool} {g:Int} {L:List (Nat×Array Value×TypeId)} {ap stg id ev sf:Nat}
structure RdLoop (W wr:World) (T:Nat->Nat) (A:Adr) (R:RS) (lg:Option Nat) (vw:Value) (X:List OP) (D:Nat->Sec) (ap k i:Nat) (v:Value):Prop where
  rw:∃c,c≤17*i/\RwIn wr T A {R with s:=R.s.ticks 0 c} lg vw X
  b0:At wr W.heap.size #[.pointer (some ⟨ap,0,none⟩)] 24
  b1:At wr (W.heap.size+1) #[.int .i64 k] 3
  b2:At wr (W.heap.size+1+1) #[v] 36
  b3:At wr (W.heap.size+1+1+1) #[.int .u16 0] 34
  own:wr.ownsRow W.heap.size 5 1 v (128*i) (ucells (flatD D i))
  chg:Chg (fun q=>T q≠0) W wr
theorem RdLoop.step {W wr wa w5 w6:World} {lg:Option Nat} {vw:Value} {X:List OP} {D:Nat->Sec} {k i bb:Nat} {v v':Value} (h:RdLoop W wr T A R lg vw X D ap k i v) (hT:∀q,W.heap.size≤q->T q=0) (hlow:RwLow A vw X W.heap.size) (hwa:Below wr.heap.size wr wa) (hbb:wr.heap.size≤bb) {c:Nat} (hc:c≤17*(i+1)) (h5:RwIn w5 T A {R with s:=R.s.ticks 0 c} lg vw X) (ht:At w5 bb #[v'] 36) (hch:Chg (fun q=>T q≠0\/q=bb) wa w5) {v6:Value} (ho:w6.ownsRow W.heap.size 5 1 v6 (128*i+128) (ucells (flatD D i)++ucells (D i))) (hg:w5.grownBy w6 v.ownBlock):
    RdLoop W (w6.setCell ⟨W.heap.size+1+1,0,none⟩ v6) T A R lg vw X D ap k (i+1) v6:=by
  have hsz:=h.b3.lt;have hs2:=h.chg.size;have hkeep:∀{q:Nat} {cs:Array Value} {t:TypeId},W.heap.size≤q->q<wr.heap.size->5≠t->At wr q cs t->At w5 q cs t/\At w6 q cs t:=fun {q cs t} h1 h2 h3 h4=>by
    have e5:=(h4.below hwa h4.lt).mod hch (fun e=>e.elim (fun e=>e (hT q h1)) fun e=>by omega);refine⟨e5,e5.mod (Chg.ofGrown (S:=fun q=>v.ownBlock=some q) hg (fun q hq=>.inl hq)) ?_⟩;exact Za4 h.own h4 h3
  have hlow5:∀q,v.ownBlock=some q->W.heap.size≤q:=fun q hq=>(h.own.lt q hq).1
  have hc6:Chg (fun q=>v.ownBlock=some q) w5 w6:=Chg.ofGrown hg (fun q hq=>.inl hq);have hset:Chg (fun q=>q=W.heap.size+1+1) w6 (w6.setCell ⟨W.heap.size+1+1,0,none⟩ v6):=Chg.setCell (S:=fun q=>q=W.heap.size+1+1) (Chg.refl _ _) ⟨W.heap.size+1+1,0,none⟩ (.inl rfl) _;obtain⟨-,k0⟩:=hkeep (Nat.le_refl _) (by omega) (by decide) h.b0;obtain⟨-,k1⟩:=hkeep (by omega) (by omega) (by decide) h.b1;obtain⟨-,k2⟩:=hkeep (by omega) (by omega) (by decide) h.b2;obtain⟨-,k3⟩:=hkeep (by omega) (by omega) (by decide) h.b3;refine⟨⟨c,hc,(h5.apart hlow hc6 (fun q e=>⟨hT q (hlow5 q e),hlow5 q e⟩)).apart hlow hset (fun q e=>⟨hT q (by omega),by omega⟩)⟩,k0.mod hset (by omega),k1.mod hset (by omega),k2.set 0 v6,k3.mod hset (by omega),?_,?_⟩
  · rw[Zx3,show 128*(i+1)=128*i+128 by omega,show ucells (flatD D i++D i)=ucells (flatD D i)++ucells (D i) by simp[ucells]]
    exact Zad ho hset (fun q hq e=>Za4 ho k2 (by decide) (by rw[hq,e]))
  · have e1:Chg (fun q=>T q≠0) W w5:=Zaj (h.chg.trans (Chg.ofBelow hwa _)) hch (fun q hq e=>e.elim id fun e=>by omega)
    have e2:=Zaj e1 hc6 (fun q hq e=>by have:=hlow5 q e;omega);exact Zaj e2 hset (fun q hq e=>by omega)
theorem results_cell_cell {fn:Func} {p q:Tmp} {ty ty':TypeId} (h:fn.results= #[.cell p ty,.cell q ty']) (tmps:Array Value) (P:Program) (w:World):
    (results fn tmps).run P w=((asAddr (tmps.getD p undef)).run P w).andThen fun a w1=>((loadVar ty a).run P w1).andThen fun v w2=>((asAddr (tmps.getD q undef)).run P w2).andThen fun a' w3=>((loadVar ty' a').run P w3).andThen fun v' w4=>.ok (.tuple #[v,v']) w4:=by
  simp only [results,h];simp[Sem.run_bind,Result.andThen]
theorem RdLoop.fin {W wr:World} {lg:Option Nat} {vw:Value} {X:List OP} {D:Nat->Sec} {k i:Nat} {v:Value} (h:RdLoop W wr T A R lg vw X D ap k i v) (hA:Ab w0 W T A R L) (hlow:RwLow A vw X W.heap.size):
    ∃c,c≤17*i/\((wr.setCell ⟨W.heap.size+1+1,0,none⟩ v).setCell ⟨W.heap.size+1+1+1,0,none⟩ (.int .u16 0)).ownsRow W.heap.size 5 1 v (128*i) (ucells (flatD D i))/\Ab w0 ((wr.setCell ⟨W.heap.size+1+1,0,none⟩ v).setCell ⟨W.heap.size+1+1+1,0,none⟩ (.int .u16 0)) T A {R with s:=R.s.ticks 0 c} L/\Chg (fun q=>T q≠0) W ((wr.setCell ⟨W.heap.size+1+1,0,none⟩ v).setCell ⟨W.heap.size+1+1+1,0,none⟩ (.int .u16 0)):=by
  obtain⟨c,hc,hr⟩:=h.rw;have hT:∀q,W.heap.size≤q->T q=0:=hA.ln.virg;have hst:Chg (fun q=>q=W.heap.size+1+1\/q=W.heap.size+1+1+1) wr ((wr.setCell ⟨W.heap.size+1+1,0,none⟩ v).setCell ⟨W.heap.size+1+1+1,0,none⟩ (.int .u16 0)):=((Chg.refl _ wr).setCell ⟨W.heap.size+1+1,0,none⟩ (.inl (.inl rfl)) v).setCell ⟨W.heap.size+1+1+1,0,none⟩ (.inl (.inr rfl)) (.int .u16 0);have hch:Chg (fun q=>T q≠0) W ((wr.setCell ⟨W.heap.size+1+1,0,none⟩ v).setCell ⟨W.heap.size+1+1+1,0,none⟩ (.int .u16 0)):=Zaj h.chg hst fun q hq e=>by omega
  have hrw:=hr.apart hlow hst (fun q e=>⟨hT q (by omega),by omega⟩);refine⟨c,hc,Zad h.own hst (fun q hq e=> ?_),hA.step (hA.ln.step ⟨lg,vw,X,hrw⟩ (Stp.ofBay hch)) (Stp.ofBay hch),hch⟩;rcases e with e|e
  · exact Za4 h.own h.b2 (by decide) (by rw[hq,e])
  · exact Za4 h.own h.b3 (by decide) (by rw[hq,e])
theorem ar_read (h:Ab w0 W T A R L) (hbx:arB ap stg A M C S ring lazy id ev sf∈L) (p:ArP R V M C S ring lazy g a b) (hin:Within (a+2000000) b) (k n:Nat) (hk:k+n≤S*C*(M-1)):
    Calls Tryz.prog 12 #[.pointer (some ⟨ap,0,none⟩),.int .i64 k,.int .i64 n] W fun e w'=>∃v c,e=.returned (.tuple #[v,.int .u16 0])/\c≤17*n/\w'.ownsRow W.heap.size 5 1 v (128*n) (ucells (flatD (fun i=>blkOf M C V (k+i)) n))/\Ab w0 w' T A {R with s:=R.s.ticks 0 c} L/\Chg (fun q=>T q≠0) W w':=by
  obtain⟨lg,vw,X,hr⟩:=h.ln.rw;have hlow:=hr.low;have ha:At W ap (arCells A.b stg (.pointer (some ⟨A.q,0,none⟩)) A.wp id ev sf M C S ring lazy) 68:=(h.box _ hbx).1;have hta:T ap=0:=(h.box _ hbx).2.1;have hv:∀q,W.heap.size≤q->T q=0:=h.ln.virg;have hgeo:=p.geo;have hblk:=Zxp p.good.geo;have hbm:S*C*(M-1)≤61440:=by
    unfold RS.blocks at hblk;rw[p.M,p.C,p.S]at hblk;exact hblk
  have hM3:=(Zbe hgeo).1;obtain⟨Bn,hBn⟩:∃Bn,Bn=S*C*(M-1):=⟨_,rfl⟩;have hBi:(S:Int)*C*((M:Int)-1)=(Bn:Int):=by
    rw[hBn,Int.natCast_mul,Int.natCast_mul,Int.natCast_sub (by omega)];rfl
  obtain⟨W4,hW4⟩:∃W4,W4=(((W.alloc (.cells #[.pointer (some ⟨ap,0,none⟩)] 24)).alloc (.cells #[.int .i64 k] 3)).alloc (.cells #[.slice none 0 0] 36)).alloc (.cells #[.int .u16 0] 34):=⟨_,rfl⟩;have z1:(W.alloc (.cells #[.pointer (some ⟨ap,0,none⟩)] 24)).heap.size=W.heap.size+1:=Zaa _ _;have z2:((W.alloc (.cells #[.pointer (some ⟨ap,0,none⟩)] 24)).alloc (.cells #[.int .i64 k] 3)).heap.size=W.heap.size+1+1:=by rw[Zaa,z1]
  have z3:(((W.alloc (.cells #[.pointer (some ⟨ap,0,none⟩)] 24)).alloc (.cells #[.int .i64 k] 3)).alloc (.cells #[.slice none 0 0] 36)).heap.size=W.heap.size+1+1+1:=by rw[Zaa,z2]
  have hB4:Below W.heap.size W W4:=by
    rw[hW4];exact((((Below.refl W.heap.size W).alloc (Nat.le_refl _) _).alloc (by rw[z1];omega) _).alloc (by rw[z2];omega) _).alloc (by rw[z3];omega) _
  have HI:Hid (RdLoop W W4 T A R lg vw X (fun i=>blkOf M C V (k+i)) ap k 0 (.slice none 0 0)):=by
    refine⟨⟨0,by omega,by rw[Zei];exact hr.below hB4⟩,?_,?_,?_,?_,World.ownsRow_nil _ _ _ _,Chg.ofBelow hB4 _⟩
    · rw[hW4];exact(((At.new W _ _).alloc _).alloc _).alloc _
    · rw[hW4]
      have:=At.new (W.alloc (.cells #[.pointer (some ⟨ap,0,none⟩)] 24)) #[.int .i64 (k:Int)] 3;rw[z1]at this;exact(this.alloc _).alloc _
    · rw[hW4]
      have:=At.new ((W.alloc (.cells #[.pointer (some ⟨ap,0,none⟩)] 24)).alloc (.cells #[.int .i64 k] 3)) #[.slice none 0 0] 36;rw[z2]at this;exact this.alloc _
    · rw[hW4]
      have:=At.new (((W.alloc (.cells #[.pointer (some ⟨ap,0,none⟩)] 24)).alloc (.cells #[.int .i64 k] 3)).alloc (.cells #[.slice none 0 0] 36)) #[.int .u16 0] 34;rw[z3]at this;exact this
  have HAA:Hid (∀w',Chg (fun q=>T q≠0) W w'->At w' ap (arCells A.b stg (.pointer (some ⟨A.q,0,none⟩)) A.wp id ev sf M C S ring lazy) 68):=fun w' hc=>ha.mod hc (fun e=>e hta)
  have HAL:Hid (Calls Tryz.prog 23 #[.pointer (some ⟨ap,0,none⟩)] W4 fun e w'=>e=.returned (.tuple #[])/\w'=W4):=ar_alive (HAA.out W4 (Chg.ofBelow hB4 _));have HBL:Hid (∀w',Below W4.heap.size W4 w'->Calls Tryz.prog 9 #[.pointer (some ⟨ap,0,none⟩)] w' fun e w''=>e=.returned (.int .i64 Bn)/\Below w'.heap.size w' w''):=fun w' hw=>by
    have:=ar_blocks (HAA.out w' ((Chg.ofBelow hB4 _).trans (Chg.ofBelow hw _))) hgeo;rw[hBi]at this;exact this
  have HRB:Hid (∀w',Below W4.heap.size W4 w'->RdLoop W w' T A R lg vw X (fun i=>blkOf M C V (k+i)) ap k 0 (.slice none 0 0)):=fun w' hw=>by
    obtain⟨⟨c,hc,h1⟩,h2,h3,h4,h5,h6,h7⟩:=HI.out;exact⟨⟨c,hc,h1.below hw⟩,h2.below hw h2.lt,h3.below hw h3.lt,h4.below hw h4.lt,h5.below hw h5.lt,Zaf h6 hw (Nat.le_refl _),h7.trans (Chg.ofBelow hw _)⟩
  have HRD:Hid (∀wr i v,i<n->RdLoop W wr T A R lg vw X (fun i=>blkOf M C V (k+i)) ap k i v->Calls Tryz.prog 32 #[.pointer (some ⟨ap,0,none⟩),.func (.func 35) #[] #[.pointer (some ⟨W.heap.size,0,none⟩),.pointer (some ⟨W.heap.size+1,0,none⟩),.pointer (some ⟨wr.heap.size,0,none⟩),.pointer (some ⟨wr.heap.size+1,0,none⟩)]] ((wr.alloc (.cells #[.int .i64 i] 3)).alloc (.cells #[.slice none 0 0] 36)) fun e w'=>e=.returned (.bool true)/\∃x xc c,c≤17*(i+1)/\At w' (wr.heap.size+1) #[.slice (some ⟨x,0,none⟩) 128 xc] 36/\w'.ownsRow W.heap.size 5 1 (.slice (some ⟨x,0,none⟩) 128 xc) 128 (ucells (blkOf M C V (k+i)))/\RwIn w' T A {R with s:=R.s.ticks 0 c} lg vw X/\Chg (fun q=>T q≠0\/q=wr.heap.size+1) ((wr.alloc (.cells #[.int .i64 i] 3)).alloc (.cells #[.slice none 0 0] 36)) w'/\At w' (W.heap.size+1+1) #[v] 36):=fun wr i v hi hl=>by
    obtain⟨c,hc,hrw⟩:=hl.rw;have e1:(wr.alloc (.cells #[.int .i64 i] 3)).heap.size=wr.heap.size+1:=Zaa _ _;have hwa:Below wr.heap.size wr ((wr.alloc (.cells #[.int .i64 i] 3)).alloc (.cells #[.slice none 0 0] 36)):=((Below.refl wr.heap.size wr).alloc (Nat.le_refl _) _).alloc (by rw[e1];omega) _;have hsz:=hl.chg.size;have hs3:=hl.b3.lt;have h2:At ((wr.alloc (.cells #[.int .i64 i] 3)).alloc (.cells #[.slice none 0 0] 36)) wr.heap.size #[.int .i64 i] 3:=(At.new wr _ _).alloc _;have h3:=At.new (wr.alloc (.cells #[.int .i64 i] 3)) #[.slice none 0 0] 36;rw[e1]at h3;have h1:=hin.a;have h22:=hin.b;refine(ar_again_rd (hrw.below hwa) (n:=W.heap.size) hlow (HAA.out _ (hl.chg.trans (Chg.ofBelow hwa _))) hta (p.ticks c) ⟨by omega,h22⟩ (hl.b0.below hwa hl.b0.lt) (hl.b1.below hwa hl.b1.lt) h2 h3 (hv _ (Nat.le_refl _)) (hv _ (by omega)) (hv _ (by omega)) (hv _ (by omega)) (by omega) (by omega)).mono ?_;rintro e w' ⟨rfl,v2,c2,k1,k2,k3,k4,k5⟩;obtain⟨x,xc,rfl,-,-⟩:=Zas k3 (by omega);refine⟨rfl,x,xc,c+c2,by omega,k2,Zc9 k3 (Nat.le_trans hsz hwa.size),?_,k5,(hl.b2.below hwa hl.b2.lt).mod k5 (fun e=>e.elim (fun e=>e (hv _ (by omega))) fun e=>by omega)⟩;rw[<-Zeu];exact k4
  have HLN:Hid (∀i,i<n->(blkOf M C V (k+i)).length=128):=fun i hi=>by
    have:=Zxw p.good (k:=k+i) (by rw[p.M,p.C,p.S];omega);rw[p.M,p.C]at this;exact this
  have HTV:=Lib.hid hv;have HST:Hid (∀wr wa w5 w6 i bb (v v' v6:Value) c,RdLoop W wr T A R lg vw X (fun i=>blkOf M C V (k+i)) ap k i v->Below wr.heap.size wr wa->wr.heap.size≤bb->c≤17*(i+1)->RwIn w5 T A {R with s:=R.s.ticks 0 c} lg vw X->At w5 bb #[v'] 36->Chg (fun q=>T q≠0\/q=bb) wa w5->w6.ownsRow W.heap.size 5 1 v6 (128*i+128) (ucells (flatD (fun i=>blkOf M C V (k+i)) i)++ucells (blkOf M C V (k+i)))->w5.grownBy w6 v.ownBlock->RdLoop W (w6.setCell ⟨W.heap.size+1+1,0,none⟩ v6) T A R lg vw X (fun i=>blkOf M C V (k+i)) ap k (i+1) v6):=fun wr wa w5 w6 i bb v v' v6 c k1 k2 k3 k4 k5 k6 k7 k8 k9=>k1.step hv hlow k2 k3 k4 k5 k6 k7 k8 k9
  have HFN:Hid (∀wr v,RdLoop W wr T A R lg vw X (fun i=>blkOf M C V (k+i)) ap k n v->∃c,c≤17*n/\((wr.setCell ⟨W.heap.size+1+1,0,none⟩ v).setCell ⟨W.heap.size+1+1+1,0,none⟩ (.int .u16 0)).ownsRow W.heap.size 5 1 v (128*n) (ucells (flatD (fun i=>blkOf M C V (k+i)) n))/\Ab w0 ((wr.setCell ⟨W.heap.size+1+1,0,none⟩ v).setCell ⟨W.heap.size+1+1+1,0,none⟩ (.int .u16 0)) T A {R with s:=R.s.ticks 0 c} L/\Chg (fun q=>T q≠0) W ((wr.setCell ⟨W.heap.size+1+1,0,none⟩ v).setCell ⟨W.heap.size+1+1+1,0,none⟩ (.int .u16 0))):=fun wr v hl=>hl.fin h hlow
  have hmf:∀(fn:Fn) (first cap:Array Value) (w:World),(Instr.makeFunc fn first cap).run Tryz.prog w=.ok (.func fn first cap) w:=fun _ _ _ _=>rfl
  have d1:decide ((n:Int)<0)=false:=decide_eq_false (by omega);have d2:decide ((k:Int)<0)=false:=decide_eq_false (by omega);have d3:decide ((Bn:Int)<(k:Int))=false:=decide_eq_false (by omega);have d3':decide (Bn<k)=false:=decide_eq_false (by omega);have hwr:IntKind.i64.wrap ((Bn:Int)-k)=(Bn:Int)-k:=by rw[IntKind.wrap_i64];omega
  have d4:decide ((Bn:Int)-k<(n:Int))=false:=decide_eq_false (by omega);have hn6:n≤61440:=by omega
  have c0:W4.cell? ⟨W.heap.size,0,none⟩=some (.pointer (some ⟨ap,0,none⟩)):=HI.out.b0.cell 0;have c1:W4.cell? ⟨W.heap.size+1,0,none⟩=some (.int .i64 k):=HI.out.b1.cell 0;have HB0:=Lib.hid HI.out.b0;have HB1:=Lib.hid HI.out.b1;have hl1:=HI.out.b1.lt;clear h hbx p hin hr hlow ha hta hv hgeo hblk hbm hM3 hBn hBi hB4 z1 z2 z3;subst hW4;go_enter_defers Tryz.func12,Tryz.ntmps12
  go_wp2_with (first
    |(go_at_call 23;(with_reducible refine HAL.out.mono ?_);rintro e w2 ⟨rfl,hw2⟩;subst hw2))
  generalize hW4:(((W.alloc (.cells #[.pointer (some ⟨ap,0,none⟩)] 24)).alloc (.cells #[.int .i64 k] 3)).alloc (.cells #[.slice none 0 0] 36)).alloc (.cells #[.int .u16 0] 34)=W4 at*;clear hW4;have HSS:Hid (∀w',Below W4.heap.size W4 w'->w'.cell? ⟨W.heap.size,0,none⟩=some (.pointer (some ⟨ap,0,none⟩))/\w'.cell? ⟨W.heap.size+1,0,none⟩=some (.int .i64 k)):=fun w' hb=>⟨(HB0.out.below hb HB0.out.lt).cell 0,(HB1.out.below hb HB1.out.lt).cell 0⟩
  have HBD:Hid (Below W4.heap.size W4 W4.drew):=(Below.refl _ _).drew;go_region_held3 (fun w'=>w'.cell? ⟨W.heap.size,0,none⟩=some (.pointer (some ⟨ap,0,none⟩))/\w'.cell? ⟨W.heap.size+1,0,none⟩=some (.int .i64 k))
    (first|with_reducible exact HSS.out _ HBD.out|with_reducible exact HSS.out _ HX6.out|with_reducible exact HSS.out _ HX5.out)
    (first
      |(go_at_call 9;(with_reducible refine(HBL.out _ HX5.out).mono ?_);rintro e w6 ⟨rfl,hb6⟩;have HX6:=Lib.hid (Zac HX5.out hb6);clear hb6)
      |(go_at_call 9;(with_reducible refine(HBL.out _ HBD.out).mono ?_);rintro e w5 ⟨rfl,hb5⟩;have HX5:=Lib.hid (Zac HBD.out hb5);clear hb5))
  go_wp2;have HLI:=Lib.hid (HRB.out _ HX6.out);clear HX5 HX6 HSS HBD HB0 HB1 HRB HBL HI c0 c1 HAL;go_loopw [34] (fun q wr=>∃i:Nat,i≤n/\q=.int .i64 i/\∃v,RdLoop W wr T A R lg vw X (fun i=>blkOf M C V (k+i)) ap k i v) (fun q _=>n-(intOf q).toNat);case atStart=>exact⟨0,Nat.zero_le _,rfl,_,HLI.out⟩
  case round=>
    obtain⟨i,hi,rfl,v,hl⟩:=hrel;have HL:=Lib.hid hl;have b0:wr.cell? ⟨W.heap.size,0,none⟩=some (.pointer (some ⟨ap,0,none⟩)):=hl.b0.cell 0;have b2:wr.cell? ⟨W.heap.size+1+1,0,none⟩=some v:=hl.b2.cell 0;have f2:=hl.b2.free 0;have b3:wr.cell? ⟨W.heap.size+1+1+1,0,none⟩=some (.int .u16 0):=hl.b3.cell 0;have f3:=hl.b3.free 0;have hsz:=hl.b3.lt;obtain⟨va,vc,rfl⟩:=Zab hl.own;by_cases hi2:i<n
    · have HCA:=Lib.hid (HRD.out wr i _ hi2 hl)
      have HOW:=Lib.hid hl.own;have hwa:Below wr.heap.size wr ((wr.alloc (.cells #[.int .i64 i] 3)).alloc (.cells #[.slice none 0 0] 36)):=((Below.refl wr.heap.size wr).alloc (Nat.le_refl _) _).alloc (by rw[Zaa];omega) _;have HWA:=Lib.hid hwa;have HSZ:Hid (W.heap.size≤wr.heap.size):=hl.chg.size;have ba:((wr.alloc (.cells #[.int .i64 i] 3)).alloc (.cells #[.slice none 0 0] 36)).cell? ⟨W.heap.size,0,none⟩=some (.pointer (some ⟨ap,0,none⟩)):=(hl.b0.below hwa hl.b0.lt).cell 0;clear hl hwa
      go_wp2_with (first
        |(go_at_call 32;(with_reducible refine HCA.out.mono ?_);rintro e w5 ⟨rfl,x,xc,c,hc,hb5,ho5,hr5,hc5,h25⟩;have e2:w5.cell? ⟨W.heap.size+1+1,0,none⟩=some (.slice va (128*i) vc):=h25.cell 0;have eb:w5.cell? ⟨wr.heap.size+1,0,none⟩=some (.slice (some ⟨x,0,none⟩) 128 xc):=hb5.cell 0;have HB5:=Lib.hid hb5;have HO5:=Lib.hid ho5;have HR5:=Lib.hid hr5;have HC5:=Lib.hid hc5;have H25:=Lib.hid h25;have HOV:Hid (w5.ownsRow W.heap.size 5 1 (.slice va (128*i) vc) (128*i) (ucells (flatD (fun i=>blkOf M C V (k+i)) i))):=Zad (Zaf HOW.out HWA.out (Nat.le_refl _)) hc5 (fun q hq e=>e.elim (fun e=>e (HTV.out q (HOW.out.lt q hq).1)) fun e=>by have:=(HOW.out.lt q hq).2;omega);clear hb5 ho5 hr5 hc5 h25)
        |(refine Zbb rfl _ _ 36 5 1 1 rfl Zat W.heap.size (.slice va (128*i) vc) (128*i) _ rfl HOV.out (some ⟨x,0,none⟩) 128 xc (ucells (blkOf M C V (k+i))) rfl (by rw[Zag,HLN.out i hi2]) (fun e=>by cases e) (fun ad e=>by simp only [Option.some.injEq]at e;subst e;exact HO5.out.cells rfl) (Za8 _) (by unfold maxLen;omega) (by omega) (Nat.le_trans HSZ.out (Nat.le_trans HWA.out.size HC5.out.size)) ?_;intro v6 w6 hown6 hb6 hg6;have h26:=H25.out.mod (Chg.ofGrown (S:=fun q=>(Value.slice va (128*i) vc).ownBlock=some q) hg6 (fun q hq=>.inl hq)) (Za4 HOV.out H25.out (by decide));have e6:w6.cell? ⟨W.heap.size+1+1,0,none⟩=some (.slice va (128*i) vc):=h26.cell 0;have f6:=h26.free 0;have HO6:=Lib.hid hown6;have HG6:=Lib.hid hg6;obtain⟨ya,yc,rfl⟩:=Zab hown6;clear hown6 hb6 hg6 h26))
      exact⟨⟨i+1,hi2,by go_num,_,HST.out wr _ w5 w6 i (wr.heap.size+1) _ _ _ c HL.out HWA.out (by omega) hc HR5.out HB5.out HC5.out HO6.out HG6.out⟩,by simp[intOf];omega⟩
    · obtain rfl:i=n:=by omega
      have HFI:=Lib.hid (HFN.out wr _ hl);have hz3:=(hl.b2.set 0 (.slice va (128*i) vc));have hb3:=hl.b3;clear hl;go_wp2;(try simp only [Exit.inBlock,Exit.then]);refine leaves_cons (f:=22) (args:= #[.pointer (some ⟨W.heap.size+1+1+1,0,none⟩)]) (by simp) (by simp[go_sem]) ?_;refine(ar_guard _ _).mono ?_;rintro e u' w'' ⟨rfl,rfl,rfl⟩;refine leaves_cons (f:=34) (args:= #[.pointer (some ⟨W.heap.size+1+1+1,0,none⟩),.pointer (some ⟨W.heap.size+1+1,0,none⟩)]) (by simp[settle]) (by simp[go_sem]) ?_;have hw3:=hb3.mod (Chg.setCell (S:=fun q=>q=W.heap.size+1+1) (Chg.refl _ wr) ⟨W.heap.size+1+1,0,none⟩ (.inl rfl) (.slice va (128*i) vc)) (by omega);have hw4:=hw3.set 0 (.int .u16 0);have hw2:=hz3.setOther (a:=⟨W.heap.size+1+1+1,0,none⟩) (by show W.heap.size+1+1≠W.heap.size+1+1+1;omega) (.int .u16 0);have k4:_=some (Value.int .u16 0):=hw4.cell 0;have k2:_=some (Value.slice va (128*i) vc):=hw2.cell 0;refine(ar_rd1 _ _ _ k4).mono ?_;rintro e u' w'' ⟨rfl,rfl,rfl⟩;obtain⟨c,g1,g2,g3,g4⟩:=HFI.out;refine⟨.tuple #[.slice va (128*i) vc,.int .u16 0],?_,_,c,rfl,g1,g2,g3,g4⟩;clear HFI g2 g3 g4 HFN HST HRD HAA;rw[results_cell_cell rfl];go_simp;try rfl
end
end
theorem Zni (T:Nat->Nat) (t p:Nat) (d:Dsk) (w:World) (h:DiskAt w T t p d):
    Calls Tryz.prog 73 #[.pointer (some ⟨p,0,none⟩)] w fun e w'=>e=.returned (.bool d.failed)/\w'=w:=by
  obtain⟨gl,gm,cv,f,h1,_⟩:=h.at';have c3:w.cell? ⟨p,3,none⟩=some (.bool d.failed):=h1.cell 3;clear h1 h;generalize d.failed=b at*;go_enter Tryz.func73,Tryz.ntmps73;go_wp2;go_ret;exact⟨rfl,rfl⟩
theorem bay_has_some {w:World} {T:Nat->Nat} {b:Nat} {s:BaySt} (h:BayAt w T b s) (k:Nat) (hk:k<s.n) {x:Dev} (hx:s.pos (k*3)=some x) (hf:x.d.failed=false):
    Calls Tryz.prog 41 #[.pointer (some ⟨b,0,none⟩),.int .i64 k] w fun e w'=>e=.returned (.bool true)/\w'=w:=by
  obtain⟨gs,ptr,tg,dp,h⟩:=h;obtain⟨dv,hp,hD⟩:=h.some' (k*3) (by omega) x hx;have hin:=Lib.hid (Zve h k hk);rw[hp]at hin;unfold pcell at hin;have d0:w.cell? ⟨dv,0,none⟩=some (.pointer (some ⟨dp (k*3),0,none⟩)):=hD.dev.cell 0;have HF:=Zni T (tg (k*3)) (dp (k*3)) x.d w hD.disk;rw[hf]at HF;have HF:=Lib.hid HF;clear h hp hD hx;generalize dp (k*3)=gd at*;go_enter Tryz.func41,Tryz.ntmps41
  go_wp2_with (first
    |(go_at_call 72;(with_reducible refine hin.out.mono ?_);rintro e w1 ⟨rfl,hw⟩;subst hw)
    |(go_at_call 73;(with_reducible refine HF.out.mono ?_);rintro e w1 ⟨rfl,hw⟩;subst hw))
  go_ret;exact⟨rfl,rfl⟩
section
theorem disk_sectors (T:Nat->Nat) (t p:Nat) (d:Dsk) (w:World) (h:DiskAt w T t p d):
    Calls Tryz.prog 74 #[.pointer (some ⟨p,0,none⟩)] w fun e w'=>e=.returned (.int .i64 (d.last.length:Nat))/\w'=w:=by
  obtain⟨gl,gm,cv,f,h1,_⟩:=h.at';have hf:=h.few;generalize d.last.length=n at*;have c0:w.cell? ⟨p,0,none⟩=some (.slice (some ⟨gl,0,none⟩) n n):=h1.cell 0;clear h1 h;go_enter Tryz.func74,Tryz.ntmps74;go_wp2;go_ret;exact⟨rfl,rfl⟩
theorem bay_sectors {w:World} {T:Nat->Nat} {b:Nat} {s:BaySt} (h:BayAt w T b s) (k:Nat) (hk:k<s.n) {x:Dev} (hx:s.pos (k*3)=some x):
    Calls Tryz.prog 42 #[.pointer (some ⟨b,0,none⟩),.int .i64 k] w fun e w'=>e=.returned (.int .i64 (x.d.last.length:Nat))/\w'=w:=by
  obtain⟨gs,ptr,tg,dp,h⟩:=h;obtain⟨dv,hp,hD⟩:=h.some' (k*3) (by omega) x hx;have hin:=Lib.hid (Zve h k hk);rw[hp]at hin;unfold pcell at hin;have d0:w.cell? ⟨dv,0,none⟩=some (.pointer (some ⟨dp (k*3),0,none⟩)):=hD.dev.cell 0;have HF:=Lib.hid (disk_sectors T (tg (k*3)) (dp (k*3)) x.d w hD.disk);clear h hp hD hx;generalize dp (k*3)=gd at*;generalize x.d.last.length=n at*;go_enter Tryz.func42,Tryz.ntmps42
  go_wp2_with (first
    |(go_at_call 72;(with_reducible refine hin.out.mono ?_);rintro e w1 ⟨rfl,hw⟩;subst hw)
    |(go_at_call 74;(with_reducible refine HF.out.mono ?_);rintro e w1 ⟨rfl,hw⟩;subst hw))
  go_ret;exact⟨rfl,rfl⟩
structure Cb (W w:World) (T0 T:Nat->Nat) (b:Nat) (s:BaySt) (L:List (Nat×Array Value×TypeId)):Prop where
  bay:BayAt w T b s
  tags:∀q,q<W.heap.size->T q=T0 q
  chg:Chg (fun q=>T0 q≠0) W w
  box:∀x∈L,At w x.1 x.2.1 x.2.2/\T x.1=0/\W.heap.size≤x.1
section
variable {W w w':World} {T0 T:Nat->Nat} {b:Nat} {s s':BaySt} {L:List (Nat×Array Value×TypeId)}
theorem Cb.below (h:Cb W w T0 T b s L) (hb:Below w.heap.size w w'):Cb W w' T0 T b s L:=
  ⟨h.bay.below hb,h.tags,h.chg.trans (Chg.ofBelow hb _),fun x hx=>⟨(h.box x hx).1.below hb (h.box x hx).1.lt,(h.box x hx).2⟩⟩
theorem Cb.post (h:Cb W w T0 T b s L) (hp:BayPost w T b s' w'):∃T',Cb W w' T0 T' b s' L:=by
  obtain⟨T',h1,h2,h3⟩:=hp;have hs:=h.chg.size;exact⟨T',h1,fun q hq=>(h2 q (by omega)).trans (h.tags q hq),Zaj h.chg h3 (fun q hq e=>by rw[<-h.tags q hq];exact e),fun x hx=>⟨(h.box x hx).1.mod h3 (fun e=>e (h.box x hx).2.1),(h2 _ (h.box x hx).1.lt).trans (h.box x hx).2.1,(h.box x hx).2.2⟩⟩
theorem Cb.virg (h:Cb W w T0 T b s L) (q:Nat) (hq:w.heap.size≤q):T q=0:=h.bay.virgin q hq
theorem Cb.add (h:Cb W w T0 T b s L) {g:Nat} {cs:Array Value} {t:TypeId} (ha:At w g cs t) (ht:T g=0) (hg:W.heap.size≤g):Cb W w T0 T b s ((g,cs,t)::L):=
  ⟨h.bay, h.tags, h.chg, fun x hx => by
    rcases List.mem_cons.1 hx with e|e
    · subst e;exact⟨ha,ht,hg⟩
    · exact h.box x e⟩
theorem Cb.push (h:Cb W w T0 T b s L) (cs:Array Value) (t:TypeId):Cb W (w.alloc (.cells cs t)) T0 T b s ((w.heap.size,cs,t)::L):=
  (h.below ((Below.refl _ _).alloc (Nat.le_refl _) _)).add (At.new _ _ _) (h.virg _ (Nat.le_refl _)) h.chg.size
theorem Cb.get (h:Cb W w T0 T b s L) (i:Nat) {g:Nat} {cs:Array Value} {t:TypeId} (hi:L[i]?=some (g,cs,t)):At w g cs t:=(h.box _ (List.mem_of_getElem? hi)).1
theorem Cb.sub {L':List (Nat×Array Value×TypeId)} (h:Cb W w T0 T b s L) (hs:∀x∈L',x∈L):Cb W w T0 T b s L':=⟨h.bay,h.tags,h.chg,fun x hx=>h.box x (hs x hx)⟩
theorem Cb.set {g:Nat} {cs:Array Value} {t:TypeId} (h:Cb W w T0 T b s ((g,cs,t)::L)) (hL:∀x∈L,x.1≠g) (i:Nat) (v:Value):Cb W (w.setCell ⟨g,i,none⟩ v) T0 T b s ((g,cs.setIfInBounds i v,t)::L):=by
  obtain⟨b1,b2,b3⟩:=h.box _ List.mem_cons_self;have hst:Chg (fun p=>p=g) w (w.setCell ⟨g,i,none⟩ v):=Chg.setCell (S:=fun p=>p=g) (Chg.refl _ _) ⟨g,i,none⟩ (.inl rfl) _;refine⟨h.bay.keep hst (fun k hk e=>hk (by rw[e];exact b2)),h.tags,Zaj h.chg hst (fun q hq e=>by have:=b3;omega),fun x hx=> ?_⟩;rcases List.mem_cons.1 hx with e|e
  · subst e
    exact⟨b1.set i v,b2,b3⟩
  · obtain⟨k1,k2⟩:=h.box x (List.mem_cons_of_mem _ e)
    exact⟨k1.mod hst (hL x e),k2⟩
end
theorem Cb.lt {W w:World} {T0 T:Nat->Nat} {b:Nat} {s:BaySt} {L:List (Nat×Array Value×TypeId)} (h:Cb W w T0 T b s L):∀x∈L,x.1<w.heap.size:=fun x hx=>(h.box x hx).1.lt
theorem Cb.grow {W w w':World} {T0 T:Nat->Nat} {b:Nat} {s:BaySt} {L:List (Nat×Array Value×TypeId)} (h:Cb W w T0 T b s L) {S:Nat->Prop} (hc:Chg S w w') (hS:∀q,S q->T q=0/\W.heap.size≤q/\∀x∈L,x.1≠q):Cb W w' T0 T b s L:=
  ⟨h.bay.keep hc (fun k hk e=>hk (hS k e).1),h.tags,Zaj h.chg hc (fun q hq e=>by have:=(hS q e).2.1;omega),fun x hx=>⟨(h.box x hx).1.mod hc (fun e=>(hS _ e).2.2 x hx rfl),(h.box x hx).2⟩⟩
theorem row_box {w:World} {B n:Nat} {e:TypeId} {v:Value} {xs:List Value} (h:w.ownsRow B e 1 v n xs) (hn:0<n):∃g cap cur,v=.slice (some ⟨g,0,none⟩) n cap/\At w g cur e/\B≤g/\∀i:Nat,i<n->cur[i]?=xs[i]?:=by
  rcases h.2 with ⟨rfl,h0⟩|⟨g',cap,cur,rfl,hb,hgt,hc,hm,hs,ht⟩
  · omega
  · refine⟨g',cap,cur,rfl,hgt,hb,fun i hi=> ?_⟩
    rw[<-ht,List.getElem?_take,if_pos (by omega)];simp
theorem RwIn.boxed {W W':World} {T:Nat->Nat} {A:Adr} {R:RS} {lg:Option Nat} {vw:Value} {X:List OP} (hr:RwIn W T A R lg vw X) {g:Nat} {cs:Array Value} {t:TypeId} (ha:At W g cs t) (ht:T g=0) (h1:116≠t) (h2:3≠t) (h3:148≠t) (h4:190≠t) (h5:5≠t) (h6:167≠t) (hc:Chg (fun q=>q=g) W W'):RwIn W' T A R lg vw X:=
  ⟨hr.bay.keep hc (fun k hk e=>hk (by rw[e];exact ht)),hr.rw.mod hc (Zaw hr.rw ha h1),hr.fr.mod hc (Zaw hr.fr ha h2),hr.wt.mod hc (fun k hk e=>hr.wOff ha h6 (by rw[hk,e])) (fun x hx k hk e=>hr.xOff ha h5 x hx (by rw[hk,e])),hr.wtT,hr.wtX,hr.wtM,hr.wal.mod hc (Zaw hr.wal ha h3),hr.ring.mod hc (Zaw hr.ring ha h4),hr.tq,hr.tf,hr.tw,hr.tr⟩
def ordOf (M i:Nat):Nat:=if i=0 then M else i-1
theorem ordOf_le {M i:Nat} (h:i≤M):ordOf M i≤M:=by
  unfold ordOf;split<;>omega
def ordCells (M k:Nat):List Value:=(List.range k).map fun i=>.int .i64 (ordOf M i)
theorem ordCells_succ (M k:Nat):ordCells M (k+1)=ordCells M k++ [.int .i64 (ordOf M k)]:=by
  unfold ordCells;rw[List.range_succ,List.map_append];rfl
theorem ordCells_at (M k i:Nat) (h:i<k):(ordCells M k)[i]?=some (.int .i64 (ordOf M i)):=by simp[ordCells,h]
end
section
def RS.ws (R:RS) (s:BaySt):RS:={R with s:=s}
def AnW (w0 W w:World) (T0:Nat->Nat) (A:Adr) (E:Nat->Prop) (R:RS) (L:List (Nat×Array Value×TypeId)):Prop:=
  ∃T,Ab w0 w T A R L/\(∀q,q<W.heap.size->T q=T0 q)/\Chg (fun q=>T0 q≠0\/A.has q\/E q) W w
section
variable {w0 W w w':World} {T0:Nat->Nat} {A:Adr} {E:Nat->Prop} {R R':RS} {L:List (Nat×Array Value×TypeId)}
theorem AnW.start (h:Ab w0 W T0 A R L):AnW w0 W W T0 A E R L:=⟨T0,h,fun _ _=>rfl,Chg.refl _ _⟩
theorem AnW.next {T T':Nat->Nat} (h2:∀q,q<W.heap.size->T q=T0 q) (h3:Chg (fun q=>T0 q≠0\/A.has q\/E q) W w) (k1:Ab w0 w' T' A R' L) (k2:Stp w T A w' T'):AnW w0 W w' T0 A E R' L:=by
  have hs:=h3.size;exact⟨T',k1,fun q hq=>(k2.tags q (by omega)).trans (h2 q hq),Zaj h3 k2.chg (fun q hq e=>by rw[<-h2 q hq];exact e.elim .inl fun e=>.inr (.inl e))⟩
theorem AnW.push (h:AnW w0 W w T0 A E R L) (cs:Array Value) (t:TypeId) (h1:116≠t) (h2:3≠t) (h3:148≠t) (h4:190≠t):AnW w0 W (w.alloc (.cells cs t)) T0 A E R ((w.heap.size,cs,t)::L):=by
  obtain⟨T,k1,k2,k3⟩:=h;exact⟨T,k1.push cs t h1 h2 h3 h4,k2,k3.trans (Chg.ofBelow ((Below.refl _ _).alloc (Nat.le_refl _) _) _)⟩
theorem AnW.has (h:AnW w0 W w T0 A E R L) {x:Nat×Array Value×TypeId} (hx:x∈L):At w x.1 x.2.1 x.2.2:=by
  obtain⟨T,k1,k2,k3⟩:=h;exact(k1.box x hx).1
theorem AnW.get (h:AnW w0 W w T0 A E R L) (i:Nat) {g:Nat} {cs:Array Value} {t:TypeId} (hi:L[i]?=some (g,cs,t)):At w g cs t:=h.has (List.mem_of_getElem? hi)
theorem AnW.sub {L':List (Nat×Array Value×TypeId)} (h:AnW w0 W w T0 A E R L) (hs:∀x∈L',x∈L):AnW w0 W w T0 A E R L':=by
  obtain⟨T,k1,k2,k3⟩:=h;exact⟨T,k1.sub hs,k2,k3⟩
theorem AnW.set {g:Nat} {cs:Array Value} {t:TypeId} (h:AnW w0 W w T0 A E R ((g,cs,t)::L)) (hE:E g) (h5:5≠t) (h6:167≠t) (hg:w0.heap.size≤g) (hL:∀x∈L,x.1≠g) (i:Nat) (v:Value):AnW w0 W (w.setCell ⟨g,i,none⟩ v) T0 A E R ((g,cs.setIfInBounds i v,t)::L):=by
  obtain⟨T,k1,k2,k3⟩:=h;exact⟨T,k1.set h5 h6 hg hL i v,k2,Zaj k3 (Chg.setCell (S:=fun p=>p=g) (Chg.refl _ _) ⟨g,i,none⟩ (.inl rfl) v) (fun q hq e=>.inr (.inr (by rw[e];exact hE)))⟩
theorem Ab.bay {T:Nat->Nat} {R:RS} {s':BaySt} (h:Ab w0 w T A R L) (hp:BayPost w T A.b s' w'):∃T',Ab w0 w' T' A {R with s:=s'} L/\Stp w T A w' T':=by
  obtain⟨T',k1,k2,k3⟩:=hp;obtain⟨lg,vw,X,hr⟩:=h.ln.rw;have hst:Stp w T A w' T':=⟨k2,k3.mono fun q e=>.inl e⟩;exact⟨T',h.step (h.ln.step ⟨lg,vw,X,hr.turn k1 k2 k3⟩ hst) hst,hst⟩
variable {R0:RS} {s:BaySt} {ap stg M C S ring id ev sf a c aa bb:Nat} {g:Int} {lazy:Bool}
theorem told_small (ht:Told R0 s a c) (hb:Bud R0 aa bb) (hin:Within aa bb) (ha:a≤100):s.small 900000:=by
  have:=ht.small _ (hb.small' (Nat.le_refl _));have h2:=hin.b;exact this.mono (by omega)
theorem an_tell (h:AnW w0 W w T0 A E (R0.ws s) L) (hbx:(ap,arCells A.b stg (.pointer (some ⟨A.q,0,none⟩)) A.wp id ev sf M C S ring lazy,68)∈L) (hsx:(stg,stCells g M,102)∈L) (ht:Told R0 s a c) (hn:R0.s.n=R0.M+1) (eM:R0.M=M) (slot:Nat) (hs:slot≤M) (hg:R0.G slot) (ok:SuOk ev sf slot M C S ring) (hid:id<18446744073709551616) (hb:Bud R0 aa bb) (hin:Within aa bb) (ha:a≤100):
    Calls Tryz.prog 46 #[.pointer (some ⟨ap,0,none⟩),.int .i64 slot] w fun e w'=>e=.returned (.int .u16 0)/\∃s',AnW w0 W w' T0 A E (R0.ws s') L/\Told R0 s' (a+1) c:=by
  obtain⟨T,h1,h2,h3⟩:=h;obtain⟨lg,vw,X,hr⟩:=h1.ln.rw;have hz:0<R0.szs slot:=by unfold RS.szs;split<;>omega
  have hc1:=ht.c1;have hb1:=hb.c1;have hin1:=hin.a;refine(ar_tell (f:=stF g) hr.bay ht.fit slot (by show slot<s.n;rw[ht.n,hn,eM];omega) hg hz (h1.box _ hbx).1 (stAt_of (h1.box _ hsx).1) ok hid (by show s.cnt 1≤_;omega) (told_small ht hb hin ha)).mono ?_;rintro e w' ⟨rfl,l,hl,hp⟩;obtain⟨T',k1,k2⟩:=h1.bay hp;exact⟨rfl,s.put slot 0 l,AnW.next h2 h3 k1 k2,ht.put hn (by omega) hg hl⟩
theorem an_flush (h:AnW w0 W w T0 A E (R0.ws s) L) (ht:Told R0 s a c) (hn:R0.s.n=R0.M+1) (slot:Nat) (hs:slot≤R0.M) (hg:R0.G slot) (hb:Bud R0 aa bb) (hin:Within aa bb) (ha:a≤100) (hc:c≤100):
    Calls Tryz.prog 47 #[.pointer (some ⟨A.b,0,none⟩),.int .i64 slot] w fun e w'=>e=.returned (.int .u16 0)/\∃s',AnW w0 W w' T0 A E (R0.ws s') L/\Told R0 s' a (c+1):=by
  obtain⟨T,h1,h2,h3⟩:=h;obtain⟨lg,vw,X,hr⟩:=h1.ln.rw;have hc1:=ht.c2;have hb1:=hb.c2;have hin1:=hin.a;have hfl:=Zh8 hr.bay (slot:Int) (by show s.cnt 2≤_;omega) (fun i hi x hx=>Nat.le_trans (told_small ht hb hin ha i hi x hx) (by omega));rw[show((R0.ws s).s.flush slot)=(0,s.dried slot)from Zco ht.fit slot (by rw[ht.n,hn];omega) hg]at hfl;refine hfl.mono ?_;rintro e w' ⟨rfl,hp⟩;obtain⟨T',k1,k2⟩:=h1.bay hp;exact⟨rfl,s.dried slot,AnW.next h2 h3 k1 k2,ht.dry hn (by omega) hg⟩
theorem an_journal (h:AnW w0 W w T0 A E R L) (hbx:(ap,arCells A.b stg (.pointer (some ⟨A.q,0,none⟩)) A.wp id ev sf M C S ring lazy,68)∈L):Calls Tryz.prog 27 #[.pointer (some ⟨ap,0,none⟩)] w fun e w'=>e=.returned (.int .i64 M)/\w'=w:=ar_journal (h.has hbx)
theorem an_takes (h:AnW w0 W w T0 A E R L) (hbx:(ap,arCells A.b stg (.pointer (some ⟨A.q,0,none⟩)) A.wp id ev sf M C S ring lazy,68)∈L) (hsx:(stg,stCells g M,102)∈L) (m:Nat) (hm:m<M) (hM:M≤16):Calls Tryz.prog 108 #[.pointer (some ⟨ap,0,none⟩),.int .i64 m] w fun e w'=>e=.returned (.bool (decide (stF g m=1)))/\w'=w:=ar_takes (h.has hbx) (stAt_of (h.has hsx)) m hm hM
theorem an_mark (h:AnW w0 W w T0 A E R L) (hbx:(ap,arCells A.b stg (.pointer (some ⟨A.q,0,none⟩)) A.wp id ev sf M C S ring lazy,68)∈L) (hsx:(stg,stCells g M,102)∈L) (eM:R.M=M) (eC:R.C=C) (eS:R.S=S) (hg:geoIs M C S=true):
    Calls Tryz.prog 49 #[.pointer (some ⟨ap,0,none⟩)] w fun e w'=>e=.returned (.tuple #[])/\AnW w0 W w' T0 A E {R with fr:=frOf g} L:=by
  obtain⟨T,h1,h2,h3⟩:=h;obtain⟨lg,vw,X,hr⟩:=h1.ln.rw;subst eM;subst eC;subst eS;refine(ar_mark hr g (h1.box _ hbx).1 (h1.box _ hsx).1 hg).mono ?_;rintro e w' ⟨rfl,k1,k2⟩;have hst:Stp w T A w' T:=⟨fun _ _=>rfl,k2.mono fun q e=>.inr e⟩;exact⟨rfl,AnW.next h2 h3 (h1.step (h1.ln.step ⟨lg,vw,X,k1⟩ hst) hst) hst⟩
end
end
section
section
variable {w0 W:World} {T0:Nat->Nat} {A:Adr} {E:Nat->Prop} {R0:RS} {V:Nat->Nat->Sec} {L:List (Nat×Array Value×TypeId)} {ap stg M C S ring id ev a b:Nat} {g:Int} {lazy:Bool}
theorem told_G (hg:geoIs M C S=true) (eM:R0.M=M) (eC:R0.C=C) (eS:R0.S=S) (hf:R0.fr=frOf g) {m:Nat} (hm:m<M) (hu:¬(m:Int)=g):R0.G m:=by
  obtain⟨g1,g2,g3,g4⟩:=Zbe hg;exact .inr ⟨by omega,0,by rw[eS,eC];exact g3,by rw[dn_frOf hf];exact decide_eq_false hu⟩
theorem ar_announce {w:World} (h:AnW w0 W w T0 A E R0 ((ap,arCells A.b stg (.pointer (some ⟨A.q,0,none⟩)) A.wp id ev ev M C S ring lazy,68)::(stg,stCells g M,102)::L)) (hE:E ap) (hlo:w0.heap.size≤ap) (hL:∀x∈L,x.1≠ap) (p:ArP R0 V M C S ring lazy g a b) (hin:Within a b) (hev:1≤ev/\ev<1000000) (h5:5≤ring/\ring≤2048) (hid:id<18446744073709551616):
    Calls Tryz.prog 64 #[.pointer (some ⟨ap,0,none⟩)] w fun e w'=>e=.returned (.tuple #[])/\∃s',AnW w0 W w' T0 A E (R0.ws s') ((ap,arCells A.b stg (.pointer (some ⟨A.q,0,none⟩)) A.wp id (ev+1) (ev+1) M C S ring lazy,68)::(stg,stCells g M,102)::L)/\∃x y,x≤50/\y≤50/\Told R0 s' x y:=by
  obtain⟨ev1,hev1⟩:∃x,x=ev+1:=⟨_,rfl⟩;rw[<-hev1];have hg:=p.geo;obtain⟨g1,g2,g3,g4⟩:=Zbe hg;obtain⟨q1,q2,q3,q4,q5,q6⟩:=(Zam _ _ _).1 hg;have hn:R0.s.n=R0.M+1:=p.good.n;have hfit:Fit R0.s R0.G R0.szs:=p.good.fit;have ok:∀slot,slot≤M->SuOk ev1 ev slot M C S ring:=fun slot hs=>⟨g1,g2,by omega,by omega,by omega,by omega,by omega,by omega,hev.1,by omega,hs,h5.1,h5.2⟩
  have hst:ap≠stg:=Zaw (h.get 0 rfl) (h.get 1 rfl) (by decide);have hL':∀x∈(stg,stCells g M,102)::L,x.1≠ap:=fun x hx=>by
    rcases List.mem_cons.1 hx with e|e
    · subst e;exact fun e=>hst e.symm
    · exact hL x e
  have HTL : Hid (∀ w s x y (L1 : List (Nat × Array Value × TypeId)) (slot : Nat), slot ≤ M -> (slot = M \/ ¬ (slot : Int) = g) -> (ap, arCells A.b stg (.pointer (some ⟨A.q, 0, none⟩)) A.wp id ev1 ev M C S ring lazy, 68) ∈ L1 -> (stg, stCells g M, 102) ∈ L1 -> AnW w0 W w T0 A E (R0.ws s) L1 -> Told R0 s x y -> x ≤ 40 -> Calls Tryz.prog 46 #[.pointer (some ⟨ap, 0, none⟩), .int .i64 slot] w fun e w' => e = .returned (.int .u16 0) /\ ∃ s', AnW w0 W w' T0 A E (R0.ws s') L1 /\ Told R0 s' (x + 1) y) := fun w s x y L1 slot hs hu m1 m2 h ht hx => an_tell h m1 m2 ht hn p.M slot hs (by
    by_cases e:slot=M
    · exact .inl (by rw[p.M];exact e)
    · exact told_G hg p.M p.C p.S p.fr (by omega) (hu.resolve_left e)) (ok slot hs) hid p.bud hin (by omega)
  have HFL : Hid (∀ w s x y (L1 : List (Nat × Array Value × TypeId)) (slot : Nat), slot ≤ M -> (slot = M \/ ¬ (slot : Int) = g) -> AnW w0 W w T0 A E (R0.ws s) L1 -> Told R0 s x y -> x ≤ 40 -> y ≤ 40 -> Calls Tryz.prog 47 #[.pointer (some ⟨A.b, 0, none⟩), .int .i64 slot] w fun e w' => e = .returned (.int .u16 0) /\ ∃ s', AnW w0 W w' T0 A E (R0.ws s') L1 /\ Told R0 s' x (y + 1)) := fun w s x y L1 slot hs hu h ht hx hy => an_flush h ht hn slot (by rw [p.M]; exact hs) (by
    by_cases e:slot=M
    · exact .inl (by rw[p.M];exact e)
    · exact told_G hg p.M p.C p.S p.fr (by omega) (hu.resolve_left e)) p.bud hin (by omega) (by omega)
  have HJN:Hid (∀w R (L1:List (Nat×Array Value×TypeId)),(ap,arCells A.b stg (.pointer (some ⟨A.q,0,none⟩)) A.wp id ev1 ev M C S ring lazy,68)∈L1->AnW w0 W w T0 A E R L1->Calls Tryz.prog 27 #[.pointer (some ⟨ap,0,none⟩)] w fun e w'=>e=.returned (.int .i64 M)/\w'=w):=fun w R L1 m1 h=>an_journal h m1
  have HTP : Hid (∀ w R (L1 : List (Nat × Array Value × TypeId)) (m : Nat), m < M -> (ap, arCells A.b stg (.pointer (some ⟨A.q, 0, none⟩)) A.wp id ev1 ev M C S ring lazy, 68) ∈ L1 -> (stg, stCells g M, 102) ∈ L1 -> AnW w0 W w T0 A E R L1 -> Calls Tryz.prog 108 #[.pointer (some ⟨ap, 0, none⟩), .int .i64 m] w fun e w' => e = .returned (.bool (decide ¬ (m : Int) = g)) /\ w' = w) := fun w R L1 m hm m1 m2 h => (an_takes h m1 m2 m hm g2).mono fun e w' ⟨k1, k2⟩ => ⟨by
    rw[k1]
    unfold stF
    by_cases e:(m:Int)=g
    · simp[e]
    · simp[e],k2⟩
  have HMK:Hid (∀w s,AnW w0 W w T0 A E (R0.ws s) ((ap,arCells A.b stg (.pointer (some ⟨A.q,0,none⟩)) A.wp id ev1 ev1 M C S ring lazy,68)::(stg,stCells g M,102)::L)->Calls Tryz.prog 49 #[.pointer (some ⟨ap,0,none⟩)] w fun e w'=>e=.returned (.tuple #[])/\AnW w0 W w' T0 A E (R0.ws s) ((ap,arCells A.b stg (.pointer (some ⟨A.q,0,none⟩)) A.wp id ev1 ev1 M C S ring lazy,68)::(stg,stCells g M,102)::L)):=fun w s h=>by
    refine(an_mark h List.mem_cons_self (List.mem_cons_of_mem _ List.mem_cons_self) p.M p.C p.S hg).mono ?_;rintro e w' ⟨rfl,k⟩;have e1:({R0.ws s with fr:=frOf g}:RS)=R0.ws s:=by rw[<-p.fr];rfl
    rw[e1]at k;exact⟨rfl,k⟩
  have ha:=h.get 0 rfl;have HEV:Hid (AnW w0 W (w.setCell ⟨ap,2,none⟩ (.int .u64 (ev1:Int))) T0 A E (R0.ws R0.s) ((ap,arCells A.b stg (.pointer (some ⟨A.q,0,none⟩)) A.wp id ev1 ev M C S ring lazy,68)::(stg,stCells g M,102)::L)):=h.set hE (by decide) (by decide) hlo hL' 2 _;have HT0:Hid (Told R0 R0.s 0 0):=Told.refl hfit;have HSF:Hid (∀w s,AnW w0 W w T0 A E (R0.ws s) ((ap,arCells A.b stg (.pointer (some ⟨A.q,0,none⟩)) A.wp id ev1 ev M C S ring lazy,68)::(stg,stCells g M,102)::L)->AnW w0 W (w.setCell ⟨ap,3,none⟩ (.int .u64 (ev1:Int))) T0 A E (R0.ws s) ((ap,arCells A.b stg (.pointer (some ⟨A.q,0,none⟩)) A.wp id ev1 ev1 M C S ring lazy,68)::(stg,stCells g M,102)::L)):=fun w s h=>h.set hE (by decide) (by decide) hlo hL' 3 _
  have c2:w.cell? ⟨ap,2,none⟩=some (.int .u64 ev):=ha.cell 2;have f2:=ha.free 2;have c15:w.cell? ⟨ap,15,none⟩=some (.bool false):=ha.cell 15;have c17:w.cell? ⟨ap,17,none⟩=some (.bool true):=ha.cell 17;have hev2:(ev:Int)+1=(ev1:Int):=by omega
  have hev3:(ev1:Int)≤1000000:=by omega
  have hevb:(ev:Int)<1000000:=by omega
  have hcmp:decide ((4611686018427387904:Int)≤(ev:Int))=false:=decide_eq_false (by omega);have hcmp2:¬((4611686018427387904:Int)≤(ev:Int)):=by omega
  have hmf:∀(fn:Fn) (first cap:Array Value) (w:World),(Instr.makeFunc fn first cap).run Tryz.prog w=.ok (.func fn first cap) w:=fun _ _ _ _=>rfl
  have h5c:=HEV.out.get 0 rfl;have d0:(w.setCell ⟨ap,2,none⟩ (.int .u64 (ev1:Int))).cell? ⟨ap,0,none⟩=some (.pointer (some ⟨A.b,0,none⟩)):=h5c.cell 0;have d15:(w.setCell ⟨ap,2,none⟩ (.int .u64 (ev1:Int))).cell? ⟨ap,15,none⟩=some (.bool false):=h5c.cell 15;clear hev1 h ha hg ok hst hL' hfit hn p h5c;go_enter Tryz.func64,Tryz.ntmps64;obtain⟨fz,hfz⟩:∃fz,fz=w.heap.size:=⟨_,rfl⟩;have HK0:Hid (AnW w0 W ((w.setCell ⟨ap,2,none⟩ (.int .u64 (ev1:Int))).alloc (.cells #[.func (.func 46) #[.pointer (some ⟨ap,0,none⟩)] #[],.func (.func 47) #[.pointer (some ⟨A.b,0,none⟩)] #[]] 48)) T0 A E (R0.ws R0.s) ((fz,#[.func (.func 46) #[.pointer (some ⟨ap,0,none⟩)] #[],.func (.func 47) #[.pointer (some ⟨A.b,0,none⟩)] #[]],48)::(ap,arCells A.b stg (.pointer (some ⟨A.q,0,none⟩)) A.wp id ev1 ev M C S ring lazy,68)::(stg,stCells g M,102)::L)):=by
    have:=HEV.out.push #[.func (.func 46) #[.pointer (some ⟨ap,0,none⟩)] #[],.func (.func 47) #[.pointer (some ⟨A.b,0,none⟩)] #[]] 48 (by decide) (by decide) (by decide) (by decide);rw[Za6,<-hfz]at this;exact this
  have mA:(ap,arCells A.b stg (.pointer (some ⟨A.q,0,none⟩)) A.wp id ev1 ev M C S ring lazy,68)∈((fz,#[.func (.func 46) #[.pointer (some ⟨ap,0,none⟩)] #[],.func (.func 47) #[.pointer (some ⟨A.b,0,none⟩)] #[]],48)::(ap,arCells A.b stg (.pointer (some ⟨A.q,0,none⟩)) A.wp id ev1 ev M C S ring lazy,68)::(stg,stCells g M,102)::L):=by simp
  have mS:(stg,stCells g M,102)∈((fz,#[.func (.func 46) #[.pointer (some ⟨ap,0,none⟩)] #[],.func (.func 47) #[.pointer (some ⟨A.b,0,none⟩)] #[]],48)::(ap,arCells A.b stg (.pointer (some ⟨A.q,0,none⟩)) A.wp id ev1 ev M C S ring lazy,68)::(stg,stCells g M,102)::L):=by simp
  go_upto_region 4 with fail
  go_wp2;rw[<-hfz];clear hfz c2 f2 c15 c17 d0 d15 HEV;go_loopw [53] (fun q wr=>∃j:Nat,j≤2/\q=.int .i64 j/\∃s,AnW w0 W wr T0 A E (R0.ws s) ((fz,#[.func (.func 46) #[.pointer (some ⟨ap,0,none⟩)] #[],.func (.func 47) #[.pointer (some ⟨A.b,0,none⟩)] #[]],48)::(ap,arCells A.b stg (.pointer (some ⟨A.q,0,none⟩)) A.wp id ev1 ev M C S ring lazy,68)::(stg,stCells g M,102)::L)/\Told R0 s (min j 1) (j-1)) (fun q _=>2-(intOf q).toNat);case atStart=>exact⟨0,Nat.zero_le _,rfl,R0.s,HK0.out,HT0.out⟩
  case round=>
    obtain⟨j,hj,rfl,s,hk,ht⟩:=hrel;have HK:=Lib.hid hk;have HT:=Lib.hid ht;clear HK0 HT0;rcases (show j=0\/j=1\/j=2 by omega)with rfl|rfl|rfl
    · have e0:wr.cell? ⟨fz,0,none⟩=some (.func (.func 46) #[.pointer (some ⟨ap,0,none⟩)] #[]):=(hk.get 0 rfl).cell 0
      clear hk ht;rw[show((0:Nat):Int)=0 from rfl]
      go_wp2_with (first
        |(go_at_call 27;(with_reducible refine(HJN.out _ _ _ mA HK.out).mono ?_);rintro e w1 ⟨rfl,hw1⟩;subst hw1)
        |(go_at_call 46;(with_reducible refine(HTL.out _ s _ _ _ M (Nat.le_refl _) (Or.inl rfl) mA mS HK.out HT.out (by simp)).mono ?_);rintro e w2 ⟨rfl,s',hk2,ht2⟩;have HK2:=Lib.hid hk2;have HT2:=Lib.hid ht2;clear hk2 ht2))
      exact⟨⟨1,by omega,rfl,s',HK2.out,HT2.out⟩,by simp[intOf]⟩
    · have e1:wr.cell? ⟨fz,1,none⟩=some (.func (.func 47) #[.pointer (some ⟨A.b,0,none⟩)] #[]):=(hk.get 0 rfl).cell 1
      clear hk ht;rw[show((1:Nat):Int)=1 from rfl]
      go_wp2_with (first
        |(go_at_call 27;(with_reducible refine(HJN.out _ _ _ mA HK.out).mono ?_);rintro e w1 ⟨rfl,hw1⟩;subst hw1)
        |(go_at_call 47;(with_reducible refine(HFL.out _ s _ _ _ M (Nat.le_refl _) (Or.inl rfl) HK.out HT.out (by simp) (by simp)).mono ?_);rintro e w2 ⟨rfl,s',hk2,ht2⟩;have HK2:=Lib.hid hk2;have HT2:=Lib.hid ht2;clear hk2 ht2))
      exact⟨⟨2,by omega,rfl,s',HK2.out,HT2.out⟩,by simp[intOf]⟩
    · have hka:=hk.has mA
      have d0:wr.cell? ⟨ap,0,none⟩=some (.pointer (some ⟨A.b,0,none⟩)):=hka.cell 0;have HKY:Hid (AnW w0 W (wr.alloc (.cells #[.func (.func 46) #[.pointer (some ⟨ap,0,none⟩)] #[],.func (.func 47) #[.pointer (some ⟨A.b,0,none⟩)] #[]] 48)) T0 A E (R0.ws s) ((wr.heap.size,#[.func (.func 46) #[.pointer (some ⟨ap,0,none⟩)] #[],.func (.func 47) #[.pointer (some ⟨A.b,0,none⟩)] #[]],48)::(fz,#[.func (.func 46) #[.pointer (some ⟨ap,0,none⟩)] #[],.func (.func 47) #[.pointer (some ⟨A.b,0,none⟩)] #[]],48)::(ap,arCells A.b stg (.pointer (some ⟨A.q,0,none⟩)) A.wp id ev1 ev M C S ring lazy,68)::(stg,stCells g M,102)::L)):=hk.push #[.func (.func 46) #[.pointer (some ⟨ap,0,none⟩)] #[],.func (.func 47) #[.pointer (some ⟨A.b,0,none⟩)] #[]] 48 (by decide) (by decide) (by decide) (by decide);have HTY:Hid (Told R0 s 1 1):=ht;clear hk ht hka HK HT mA mS;rw[show((2:Nat):Int)=2 from rfl];obtain⟨fy,hfy⟩:∃fy,fy=wr.heap.size:=⟨_,rfl⟩;rw[<-hfy]at HKY;have mA:(ap,arCells A.b stg (.pointer (some ⟨A.q,0,none⟩)) A.wp id ev1 ev M C S ring lazy,68)∈((fy,#[.func (.func 46) #[.pointer (some ⟨ap,0,none⟩)] #[],.func (.func 47) #[.pointer (some ⟨A.b,0,none⟩)] #[]],48)::(fz,#[.func (.func 46) #[.pointer (some ⟨ap,0,none⟩)] #[],.func (.func 47) #[.pointer (some ⟨A.b,0,none⟩)] #[]],48)::(ap,arCells A.b stg (.pointer (some ⟨A.q,0,none⟩)) A.wp id ev1 ev M C S ring lazy,68)::(stg,stCells g M,102)::L):=by simp
      have mS:(stg,stCells g M,102)∈((fy,#[.func (.func 46) #[.pointer (some ⟨ap,0,none⟩)] #[],.func (.func 47) #[.pointer (some ⟨A.b,0,none⟩)] #[]],48)::(fz,#[.func (.func 46) #[.pointer (some ⟨ap,0,none⟩)] #[],.func (.func 47) #[.pointer (some ⟨A.b,0,none⟩)] #[]],48)::(ap,arCells A.b stg (.pointer (some ⟨A.q,0,none⟩)) A.wp id ev1 ev M C S ring lazy,68)::(stg,stCells g M,102)::L):=by simp
      go_wp2;rw[<-hfy];clear hfy d0;go_loopw [79] (fun q wr=>∃j:Nat,j≤2/\q=.int .i64 j/\∃s x y,AnW w0 W wr T0 A E (R0.ws s) ((fy,#[.func (.func 46) #[.pointer (some ⟨ap,0,none⟩)] #[],.func (.func 47) #[.pointer (some ⟨A.b,0,none⟩)] #[]],48)::(fz,#[.func (.func 46) #[.pointer (some ⟨ap,0,none⟩)] #[],.func (.func 47) #[.pointer (some ⟨A.b,0,none⟩)] #[]],48)::(ap,arCells A.b stg (.pointer (some ⟨A.q,0,none⟩)) A.wp id ev1 ev M C S ring lazy,68)::(stg,stCells g M,102)::L)/\Told R0 s x y/\x≤1+20*j/\y≤1+20*j) (fun q _=>2-(intOf q).toNat);case atStart=>exact⟨0,Nat.zero_le _,rfl,s,1,1,HKY.out,HTY.out,Nat.le_refl _,Nat.le_refl _⟩
      case round=>
        obtain⟨j,hj,rfl,s2,x2,y2,hk,ht,hx,hy⟩:=hrel;have HK:=Lib.hid hk;have HT:=Lib.hid ht;clear HKY HTY;have hka:=hk.has mA;have d5:wr.cell? ⟨ap,5,none⟩=some (.int .i64 M):=hka.cell 5;rcases (show j=0\/j=1\/j=2 by omega)with rfl|rfl|rfl
        · have e0:wr.cell? ⟨fy,0,none⟩=some (.func (.func 46) #[.pointer (some ⟨ap,0,none⟩)] #[]):=(hk.get 0 rfl).cell 0
          clear hk ht hka;rw[show((0:Nat):Int)=0 from rfl];go_wp2;go_loopw [89] (fun q wr=>∃m:Nat,m≤M/\q=.int .i64 m/\∃s x y,AnW w0 W wr T0 A E (R0.ws s) ((fy,#[.func (.func 46) #[.pointer (some ⟨ap,0,none⟩)] #[],.func (.func 47) #[.pointer (some ⟨A.b,0,none⟩)] #[]],48)::(fz,#[.func (.func 46) #[.pointer (some ⟨ap,0,none⟩)] #[],.func (.func 47) #[.pointer (some ⟨A.b,0,none⟩)] #[]],48)::(ap,arCells A.b stg (.pointer (some ⟨A.q,0,none⟩)) A.wp id ev1 ev M C S ring lazy,68)::(stg,stCells g M,102)::L)/\Told R0 s x y/\x≤1+m/\y≤1) (fun q _=>M-(intOf q).toNat);case atStart=>exact⟨0,Nat.zero_le _,rfl,s2,x2,y2,HK.out,HT.out,by omega,by omega⟩
          case round=>
            obtain⟨m,hm,rfl,s3,x3,y3,hk3,ht3,hx3,hy3⟩:=hrel;have HK3:=Lib.hid hk3;have HT3:=Lib.hid ht3;clear hk3 ht3 HK HT;by_cases hm2:m<M
            · have hmm:(m:Int)<(M:Int):=by omega
              have HX3:Hid (x3≤1+m/\y3≤1):=⟨hx3,hy3⟩;have HX4:Hid (x3≤40/\y3≤40):=⟨by omega,by omega⟩;by_cases hmg:(m:Int)=g
              · have HTW:Hid (Calls Tryz.prog 108 #[.pointer (some ⟨ap,0,none⟩),.int .i64 m] wr fun e w'=>e=.returned (.bool false)/\w'=wr):=(HTP.out wr _ _ m hm2 mA mS HK3.out).mono fun e w' ⟨k1,k2⟩=>⟨by rw[k1];simp[hmg],k2⟩
                clear hmg hx3 hy3;go_wp2_with (go_at_call 108;(with_reducible refine HTW.out.mono ?_);rintro e w1 ⟨rfl,hw1⟩;subst hw1);go_roundw;case rel=>exact⟨m+1,hm2,by go_num,s3,x3,y3,HK3.out,HT3.out,by have:=HX3.out;omega,by have:=HX3.out;omega⟩
                case measure=>simp[intOf];omega
              · have HTW:Hid (Calls Tryz.prog 108 #[.pointer (some ⟨ap,0,none⟩),.int .i64 m] wr fun e w'=>e=.returned (.bool true)/\w'=wr):=(HTP.out wr _ _ m hm2 mA mS HK3.out).mono fun e w' ⟨k1,k2⟩=>⟨by rw[k1];simp[hmg],k2⟩
                have HNG:Hid (m=M\/¬(m:Int)=g):=.inr hmg;have HLE:Hid (m≤M):=hm;clear hmg hx3 hy3
                go_wp2_with (first
                  |(go_at_call 108;(with_reducible refine HTW.out.mono ?_);rintro e w1 ⟨rfl,hw1⟩;subst hw1)
                  |(go_at_call 46;(with_reducible refine(HTL.out _ s3 _ _ _ m HLE.out HNG.out mA mS HK3.out HT3.out HX4.out.1).mono ?_);rintro e w2 ⟨rfl,s',hk2,ht2⟩;have HK2:=Lib.hid hk2;have HT2:=Lib.hid ht2;clear hk2 ht2))
                go_roundw;case rel=>exact⟨m+1,hm2,by go_num,s',x3+1,y3,HK2.out,HT2.out,by have:=HX3.out;omega,by have:=HX3.out;omega⟩
                case measure=>simp[intOf];omega
            · obtain rfl:M=m:=by omega
              have HX3:Hid (x3≤1+20*(0+1)/\y3≤1+20*(0+1)):=⟨by omega,by omega⟩;clear hx3 hy3;go_wp2;go_roundw;case rel=>exact⟨0+1,by omega,by go_num,s3,x3,y3,HK3.out,HT3.out,HX3.out.1,HX3.out.2⟩
              case measure=>simp[intOf]
        · have e0:wr.cell? ⟨fy,1,none⟩=some (.func (.func 47) #[.pointer (some ⟨A.b,0,none⟩)] #[]):=(hk.get 0 rfl).cell 1
          clear hk ht hka;rw[show((1:Nat):Int)=1 from rfl];go_wp2;go_loopw [89] (fun q wr=>∃m:Nat,m≤M/\q=.int .i64 m/\∃s x y,AnW w0 W wr T0 A E (R0.ws s) ((fy,#[.func (.func 46) #[.pointer (some ⟨ap,0,none⟩)] #[],.func (.func 47) #[.pointer (some ⟨A.b,0,none⟩)] #[]],48)::(fz,#[.func (.func 46) #[.pointer (some ⟨ap,0,none⟩)] #[],.func (.func 47) #[.pointer (some ⟨A.b,0,none⟩)] #[]],48)::(ap,arCells A.b stg (.pointer (some ⟨A.q,0,none⟩)) A.wp id ev1 ev M C S ring lazy,68)::(stg,stCells g M,102)::L)/\Told R0 s x y/\x≤21/\y≤21+m) (fun q _=>M-(intOf q).toNat);case atStart=>exact⟨0,Nat.zero_le _,rfl,s2,x2,y2,HK.out,HT.out,by omega,by omega⟩
          case round=>
            obtain⟨m,hm,rfl,s3,x3,y3,hk3,ht3,hx3,hy3⟩:=hrel;have HK3:=Lib.hid hk3;have HT3:=Lib.hid ht3;clear hk3 ht3 HK HT;by_cases hm2:m<M
            · have hmm:(m:Int)<(M:Int):=by omega
              have HX3:Hid (x3≤21/\y3≤21+m):=⟨hx3,hy3⟩;have HX4:Hid (x3≤40/\y3≤40):=⟨by omega,by omega⟩;by_cases hmg:(m:Int)=g
              · have HTW:Hid (Calls Tryz.prog 108 #[.pointer (some ⟨ap,0,none⟩),.int .i64 m] wr fun e w'=>e=.returned (.bool false)/\w'=wr):=(HTP.out wr _ _ m hm2 mA mS HK3.out).mono fun e w' ⟨k1,k2⟩=>⟨by rw[k1];simp[hmg],k2⟩
                clear hmg hx3 hy3;go_wp2_with (go_at_call 108;(with_reducible refine HTW.out.mono ?_);rintro e w1 ⟨rfl,hw1⟩;subst hw1);go_roundw;case rel=>exact⟨m+1,hm2,by go_num,s3,x3,y3,HK3.out,HT3.out,by have:=HX3.out;omega,by have:=HX3.out;omega⟩
                case measure=>simp[intOf];omega
              · have HTW:Hid (Calls Tryz.prog 108 #[.pointer (some ⟨ap,0,none⟩),.int .i64 m] wr fun e w'=>e=.returned (.bool true)/\w'=wr):=(HTP.out wr _ _ m hm2 mA mS HK3.out).mono fun e w' ⟨k1,k2⟩=>⟨by rw[k1];simp[hmg],k2⟩
                have HNG:Hid (m=M\/¬(m:Int)=g):=.inr hmg;have HLE:Hid (m≤M):=hm;clear hmg hx3 hy3
                go_wp2_with (first
                  |(go_at_call 108;(with_reducible refine HTW.out.mono ?_);rintro e w1 ⟨rfl,hw1⟩;subst hw1)
                  |(go_at_call 47;(with_reducible refine(HFL.out _ s3 _ _ _ m HLE.out HNG.out HK3.out HT3.out HX4.out.1 HX4.out.2).mono ?_);rintro e w2 ⟨rfl,s',hk2,ht2⟩;have HK2:=Lib.hid hk2;have HT2:=Lib.hid ht2;clear hk2 ht2))
                go_roundw;case rel=>exact⟨m+1,hm2,by go_num,s',x3,y3+1,HK2.out,HT2.out,by have:=HX3.out;omega,by have:=HX3.out;omega⟩
                case measure=>simp[intOf];omega
            · obtain rfl:M=m:=by omega
              have HX3:Hid (x3≤1+20*(1+1)/\y3≤1+20*(1+1)):=⟨by omega,by omega⟩;clear hx3 hy3;go_wp2;go_roundw;case rel=>exact⟨1+1,by omega,by go_num,s3,x3,y3,HK3.out,HT3.out,HX3.out.1,HX3.out.2⟩
              case measure=>simp[intOf]
        · have HKA:Hid (AnW w0 W wr T0 A E (R0.ws s2) ((ap,arCells A.b stg (.pointer (some ⟨A.q,0,none⟩)) A.wp id ev1 ev M C S ring lazy,68)::(stg,stCells g M,102)::L)):=hk.sub fun x hx=>List.mem_cons_of_mem _ (List.mem_cons_of_mem _ hx)
          have d2:wr.cell? ⟨ap,2,none⟩=some (.int .u64 ev1):=hka.cell 2;have d3:wr.cell? ⟨ap,3,none⟩=some (.int .u64 ev):=hka.cell 3;have f3:wr.frozen? ⟨ap,3,none⟩=false:=hka.free 3;have HKB:=Lib.hid (HSF.out wr s2 HKA.out);have hkb:=HKB.out.get 0 rfl;have d10:(wr.setCell ⟨ap,3,none⟩ (.int .u64 (ev1:Int))).cell? ⟨ap,10,none⟩=some (.bool false):=hkb.cell 10;have HX2:Hid (x2≤50/\y2≤50):=⟨by omega,by omega⟩;clear hk ht hka hkb d5 hx hy;rw[show((2:Nat):Int)=2 from rfl];go_wp2_with (go_at_call 49;(with_reducible refine(HMK.out _ s2 HKB.out).mono ?_);rintro e w9 ⟨rfl,hk9⟩;have HK9:=Lib.hid hk9;clear hk9);go_end0;exact⟨rfl,s2,HK9.out,x2,y2,HX2.out.1,HX2.out.2,HT.out⟩
end
end
section
theorem lose_small {s:BaySt} {k m:Nat} (h:s.small m):(s.lose k).small m:=fun i hi x hx=>by
  have hx':(if i=k*3 then (s.pos i).map fun x=>(⟨⟨x.d.last,[],true⟩,x.worn,x.left⟩:Dev)else s.pos i)=some x:=hx;split at hx'
  · obtain⟨y,hy,rfl⟩:=Option.map_eq_some_iff.1 hx'
    exact Nat.zero_le _
  · exact h i hi x hx'
theorem ArP.lost {R:RS} {V:Nat->Nat->Sec} {M C S ring a b:Nat} {lazy:Bool} (p:ArP R V M C S ring lazy (-1) a b) {k:Nat} (hk:k<M):ArP (R.lost k) V M C S ring lazy (k:Int) a b:=by
  have hf:R.fr=fun _=> -1:=by rw[p.fr,frOf_none]
  obtain⟨m,h4,h5⟩:=p.bud.small;exact⟨p.good.lost hf (by rw[p.M];exact hk),p.idle,⟨p.bud.c0,p.bud.c1,p.bud.c2,p.bud.next,m,lose_small h4,h5⟩,p.M,p.C,p.S,p.size,p.lazy,rfl⟩
theorem stCells_down {M k:Nat} (hk:k<M):(stCells (-1) M).setIfInBounds k (.int .u8 2)=stCells (k:Int) M:=by
  apply Array.ext_getElem?;intro i;by_cases hi:i<M
  · rw[stCells_at _ _ _ hi]
    by_cases e:i=k
    · subst e
      have hs:i<(stCells (-1) M).size:=by simp[stCells,hi]
      simp[hs]
    · rw[Array.getElem?_setIfInBounds,if_neg (fun x=>e x.symm),stCells_at _ _ _ hi,if_neg (by omega),if_neg (by omega)]
  · have h1:(stCells (k:Int) M).size=M:=by simp[stCells]
    have h2:((stCells (-1) M).setIfInBounds k (.int .u8 2)).size=M:=by simp[stCells]
    rw[Array.getElem?_eq_none (by omega),Array.getElem?_eq_none (by omega)]
section
variable {w0 W:World} {T0:Nat->Nat} {A:Adr} {E:Nat->Prop} {R0:RS} {V:Nat->Nat->Sec} {L:List (Nat×Array Value×TypeId)} {ap stg M C S ring id ev a b:Nat} {lazy:Bool}
theorem ar_drop {w:World} {k:Nat} (h:AnW w0 W w T0 A E (R0.ws (R0.s.lose k)) ((ap,arCells A.b stg (.pointer (some ⟨A.q,0,none⟩)) A.wp id ev ev M C S ring lazy,68)::(stg,stCells (-1) M,102)::L)) (hE:E ap) (hE2:E stg) (hlo:w0.heap.size≤ap) (hlo2:w0.heap.size≤stg) (hL:∀x∈L,x.1≠ap/\x.1≠stg) (hk:k<M) (p:ArP R0 V M C S ring lazy (-1) a b) (hin:Within a b) (hev:1≤ev/\ev<1000000) (h5:5≤ring/\ring≤2048) (hid:id<18446744073709551616):
    Calls Tryz.prog 51 #[.pointer (some ⟨ap,0,none⟩),.int .i64 k] w fun e w'=>e=.returned (.tuple #[])/\∃s',AnW w0 W w' T0 A E ((R0.lost k).ws s') ((ap,arCells A.b stg (.pointer (some ⟨A.q,0,none⟩)) A.wp id (ev+1) (ev+1) M C S ring lazy,68)::(stg,stCells (k:Int) M,102)::L)/\∃x y,x≤50/\y≤50/\Told (R0.lost k) s' x y:=by
  have hg:=p.geo;obtain⟨g1,g2,g3,g4⟩:=Zbe hg;have hst:ap≠stg:=Zaw (h.get 0 rfl) (h.get 1 rfl) (by decide);have ha:=h.get 0 rfl;have hs:=h.get 1 rfl;have H1:AnW w0 W (w.setCell ⟨stg,k,none⟩ (.int .u8 2)) T0 A E (R0.ws (R0.s.lose k)) ((ap,arCells A.b stg (.pointer (some ⟨A.q,0,none⟩)) A.wp id ev ev M C S ring lazy,68)::(stg,stCells (k:Int) M,102)::L):=by
    have h1:AnW w0 W w T0 A E (R0.ws (R0.s.lose k)) ((stg,stCells (-1) M,102)::(ap,arCells A.b stg (.pointer (some ⟨A.q,0,none⟩)) A.wp id ev ev M C S ring lazy,68)::L):=h.sub fun x hx=>by
      simp only [List.mem_cons]at hx ⊢;rcases hx with e|e|e
      · exact .inr (.inl e)
      · exact .inl e
      · exact .inr (.inr e)
    have h2 := h1.set hE2 (by decide) (by decide) hlo2 (fun x hx => by
      rcases List.mem_cons.1 hx with e|e
      · subst e;exact hst
      · exact(hL x e).2) k (.int .u8 2)
    rw[stCells_down hk]at h2;exact h2.sub fun x hx=>by
      simp only [List.mem_cons]at hx ⊢;rcases hx with e|e|e
      · exact .inr (.inl e)
      · exact .inl e
      · exact .inr (.inr e)
  have H2 : AnW w0 W ((w.setCell ⟨stg, k, none⟩ (.int .u8 2)).setCell ⟨ap, 12, none⟩ (.int .i64 0)) T0 A E (R0.ws (R0.s.lose k)) ((ap, arCells A.b stg (.pointer (some ⟨A.q, 0, none⟩)) A.wp id ev ev M C S ring lazy, 68) :: (stg, stCells (k : Int) M, 102) :: L) := H1.set hE (by decide) (by decide) hlo (fun x hx => by
      rcases List.mem_cons.1 hx with e|e
      · subst e;exact fun e=>hst e.symm
      · exact(hL x e).1) 12 (.int .i64 0)
  have HMK:Hid (Calls Tryz.prog 49 #[.pointer (some ⟨ap,0,none⟩)] ((w.setCell ⟨stg,k,none⟩ (.int .u8 2)).setCell ⟨ap,12,none⟩ (.int .i64 0)) fun e w'=>e=.returned (.tuple #[])/\AnW w0 W w' T0 A E (R0.lost k) ((ap,arCells A.b stg (.pointer (some ⟨A.q,0,none⟩)) A.wp id ev ev M C S ring lazy,68)::(stg,stCells (k:Int) M,102)::L)):=an_mark H2 List.mem_cons_self (List.mem_cons_of_mem _ List.mem_cons_self) p.M p.C p.S hg;have HAN:Hid (∀w,AnW w0 W w T0 A E (R0.lost k) ((ap,arCells A.b stg (.pointer (some ⟨A.q,0,none⟩)) A.wp id ev ev M C S ring lazy,68)::(stg,stCells (k:Int) M,102)::L)->Calls Tryz.prog 64 #[.pointer (some ⟨ap,0,none⟩)] w fun e w'=>e=.returned (.tuple #[])/\∃s',AnW w0 W w' T0 A E ((R0.lost k).ws s') ((ap,arCells A.b stg (.pointer (some ⟨A.q,0,none⟩)) A.wp id (ev+1) (ev+1) M C S ring lazy,68)::(stg,stCells (k:Int) M,102)::L)/\∃x y,x≤50/\y≤50/\Told (R0.lost k) s' x y):=fun w h=>ar_announce h hE hlo (fun x hx=>(hL x hx).1) (p.lost hk) hin hev h5 hid
  have HC:Hid (∀i:Nat,i<M->w.cell? ⟨stg,i,none⟩=some (.int .u8 1)):=fun i hi=>(hs.cell i).trans ((stCells_at _ _ _ hi).trans (by rw[if_neg (by omega)]))
  have c11:w.cell? ⟨ap,11,none⟩=some (.slice (some ⟨stg,0,none⟩) M M):=ha.cell 11;have ck:w.cell? ⟨stg,k,none⟩=some (.int .u8 1):=HC.out k hk;have fk:w.frozen? ⟨stg,k,none⟩=false:=hs.free k;have hb1:=H1.get 0 rfl;have d12:(w.setCell ⟨stg,k,none⟩ (.int .u8 2)).cell? ⟨ap,12,none⟩=some (.int .i64 0):=hb1.cell 12;have df12:(w.setCell ⟨stg,k,none⟩ (.int .u8 2)).frozen? ⟨ap,12,none⟩=false:=hb1.free 12;have hkm:(k:Int)<(M:Int):=by omega
  clear h hg ha hs H1 H2 p hb1 hL;go_enter Tryz.func51,Tryz.ntmps51;go_wp2;go_loopw [23] (fun q wr=>∃i:Nat,i≤M/\q=.int .i64 i/\wr=w) (fun q _=>M-(intOf q).toNat);case atStart=>exact⟨0,Nat.zero_le _,rfl,rfl⟩
  case round=>
    obtain⟨i,hi,rfl,hww⟩:=hrel;subst hww;by_cases hi2:i<M
    · have hii:(i:Int)<(M:Int):=by omega
      have ci:wr.cell? ⟨stg,i,none⟩=some (.int .u8 1):=HC.out i hi2;go_wp2;all_goals
        go_roundw
        case rel=>exact⟨i+1,hi2,by go_num,trivial⟩
        case measure=>simp[intOf];omega
    · obtain rfl:M=i:=by omega
      go_wp2_with (first
        |(go_at_call 49;(with_reducible refine HMK.out.mono ?_);rintro e w5 ⟨rfl,hk5⟩;have HK5:=Lib.hid hk5;clear hk5)
        |(go_at_call 64;(with_reducible refine(HAN.out _ HK5.out).mono ?_);rintro e w6 ⟨rfl,hk6⟩;have HK6:=Lib.hid hk6;clear hk6))
      go_end0;exact⟨rfl,HK6.out⟩
end
end
section
section
variable {w0 W w w':World} {T0:Nat->Nat} {A:Adr} {E:Nat->Prop} {R R0:RS} {V:Nat->Nat->Sec} {L:List (Nat×Array Value×TypeId)} {ap stg M C S ring id ev a b:Nat} {g:Int} {lazy:Bool}
theorem AnW.setNew {g:Nat} {cs:Array Value} {t:TypeId} (h:AnW w0 W w T0 A E R ((g,cs,t)::L)) (hE:W.heap.size≤g) (h5:5≠t) (h6:167≠t) (hg:w0.heap.size≤g) (hL:∀x∈L,x.1≠g) (i:Nat) (v:Value):AnW w0 W (w.setCell ⟨g,i,none⟩ v) T0 A E R L:=by
  obtain⟨T,k1,k2,k3⟩:=h;exact⟨T,(k1.set h5 h6 hg hL i v).sub fun x hx=>List.mem_cons_of_mem _ hx,k2,Zaj k3 (Chg.setCell (S:=fun p=>p=g) (Chg.refl _ _) ⟨g,i,none⟩ (.inl rfl) v) (fun q hq e=>by omega)⟩
theorem ArP.told {x y:Nat} {s':BaySt} (p:ArP R V M C S ring lazy g a b) (ht:Told R s' x y) (hx:x≤50) (hy:y≤50):ArP (R.ws s') V M C S ring lazy g (a+50) (b+50):=by
  obtain⟨m,h4,h5⟩:=p.bud.small;refine⟨ht.good p.good,p.idle,⟨?_,?_,?_,?_,m+x,ht.small m h4,?_⟩,p.M,p.C,p.S,p.size,p.lazy,p.fr⟩
  · have h1:=ht.c0
    have h2:=p.bud.c0;show s'.cnt 0≤_
    omega
  · have h1:=ht.c1
    have h2:=p.bud.c1;show s'.cnt 1≤_
    omega
  · have h1:=ht.c2
    have h2:=p.bud.c2;show s'.cnt 2≤_
    omega
  · have h2:=p.bud.next
    show R.next≤_
    omega
  · show m+x+R.wait.length≤_
    omega
theorem an_fail (h:AnW w0 W w T0 A E R0 L) (p:ArP R0 V M C S ring lazy (-1) a b) (hin:Within a b) (k:Nat) (hk:k≤M):
    Calls Tryz.prog 50 #[.pointer (some ⟨A.b,0,none⟩),.int .i64 k] w fun e w'=>e=.returned (.int .u16 0)/\AnW w0 W w' T0 A E (R0.ws (R0.s.lose k)) L:=by
  obtain⟨T,h1,h2,h3⟩:=h;obtain⟨lg,vw,X,hr⟩:=h1.ln.rw;obtain⟨gs,ptr,tg,dp,hi⟩:=hr.bay;have hf:R0.fr=fun _=> -1:=by rw[p.fr,frOf_none]
  have hn:k<R0.s.n:=by rw[p.good.n,p.M];omega
  obtain⟨x,hx,-⟩:=(p.good.allFit hf).dev k hn trivial;have hb2:=hin.b;refine(Zkg hi k hn x hx (Nat.le_trans (p.bud.small' (Nat.le_refl _) (k*3) (by omega) x hx) (by omega))).mono ?_;rintro e w' ⟨rfl,m1,m2⟩;have m1':BayAt w' T A.b (R0.s.lose k):=by
    rw[<-Zsb hx];exact⟨gs,ptr,tg,dp,m1⟩
  obtain⟨T',k1,k2⟩:=h1.bay ⟨T,m1',fun _ _=>rfl,m2⟩;exact⟨rfl,AnW.next h2 h3 k1 k2⟩
theorem ar_fail {k:Nat} (h:Ab w0 w T0 A R0 ((ap,arCells A.b stg (.pointer (some ⟨A.q,0,none⟩)) A.wp id ev ev M C S ring lazy,68)::(stg,stCells (-1) M,102)::L)) (hlo:w0.heap.size≤ap) (hlo2:w0.heap.size≤stg) (hL:∀x∈L,x.1≠ap/\x.1≠stg) (hk:k<M) (p:ArP R0 V M C S ring lazy (-1) a b) (hin:Within a b) (hev:1≤ev/\ev<1000000) (h5:5≤ring/\ring≤2048) (hid:id<18446744073709551616):
    Calls Tryz.prog 16 #[.pointer (some ⟨ap,0,none⟩),.int .i64 k] w fun e w'=>e=.returned (.int .u16 0)/\∃R',AnW w0 w w' T0 A (fun q=>q=ap\/q=stg) R' ((ap,arCells A.b stg (.pointer (some ⟨A.q,0,none⟩)) A.wp id (ev+1) (ev+1) M C S ring lazy,68)::(stg,stCells (k:Int) M,102)::L)/\ArP R' V M C S ring lazy (k:Int) (a+50) (b+50):=by
  have hwl:w0.heap.size≤w.heap.size:=h.ln.bel.size;have HL:Hid (∀x∈(ap,arCells A.b stg (.pointer (some ⟨A.q,0,none⟩)) A.wp id ev ev M C S ring lazy,68)::(stg,stCells (-1) M,102)::L,x.1<w.heap.size):=h.lt;have H1:AnW w0 w (w.alloc (.cells #[.int .u16 0] 34)) T0 A (fun q=>q=ap\/q=stg) R0 ((w.heap.size,#[.int .u16 0],34)::(ap,arCells A.b stg (.pointer (some ⟨A.q,0,none⟩)) A.wp id ev ev M C S ring lazy,68)::(stg,stCells (-1) M,102)::L):=(AnW.start h).push _ _ (by decide) (by decide) (by decide) (by decide);have ha:=H1.get 1 rfl;have HAL:Hid (Calls Tryz.prog 23 #[.pointer (some ⟨ap,0,none⟩)] (w.alloc (.cells #[.int .u16 0] 34)) fun e w'=>e=.returned (.tuple #[])/\w'=w.alloc (.cells #[.int .u16 0] 34)):=ar_alive ha;have HJN:Hid (Calls Tryz.prog 27 #[.pointer (some ⟨ap,0,none⟩)] (w.alloc (.cells #[.int .u16 0] 34)) fun e w'=>e=.returned (.int .i64 M)/\w'=w.alloc (.cells #[.int .u16 0] 34)):=ar_journal ha;have HFA:Hid (Calls Tryz.prog 50 #[.pointer (some ⟨A.b,0,none⟩),.int .i64 k] (w.alloc (.cells #[.int .u16 0] 34)) fun e w'=>e=.returned (.int .u16 0)/\AnW w0 w w' T0 A (fun q=>q=ap\/q=stg) (R0.ws (R0.s.lose k)) ((w.heap.size,#[.int .u16 0],34)::(ap,arCells A.b stg (.pointer (some ⟨A.q,0,none⟩)) A.wp id ev ev M C S ring lazy,68)::(stg,stCells (-1) M,102)::L)):=an_fail H1 p hin k (by omega);have HJ2:Hid (∀w1 R,AnW w0 w w1 T0 A (fun q=>q=ap\/q=stg) R ((w.heap.size,#[.int .u16 0],34)::(ap,arCells A.b stg (.pointer (some ⟨A.q,0,none⟩)) A.wp id ev ev M C S ring lazy,68)::(stg,stCells (-1) M,102)::L)->Calls Tryz.prog 27 #[.pointer (some ⟨ap,0,none⟩)] w1 fun e w'=>e=.returned (.int .i64 M)/\w'=w1):=fun w1 R h=>ar_journal (h.get 1 rfl)
  have HDR:Hid (∀w1,AnW w0 w w1 T0 A (fun q=>q=ap\/q=stg) (R0.ws (R0.s.lose k)) ((w.heap.size,#[.int .u16 0],34)::(ap,arCells A.b stg (.pointer (some ⟨A.q,0,none⟩)) A.wp id ev ev M C S ring lazy,68)::(stg,stCells (-1) M,102)::L)->Calls Tryz.prog 51 #[.pointer (some ⟨ap,0,none⟩),.int .i64 k] w1 fun e w'=>e=.returned (.tuple #[])/\∃s',AnW w0 w w' T0 A (fun q=>q=ap\/q=stg) ((R0.lost k).ws s') ((w.heap.size,#[.int .u16 0],34)::(ap,arCells A.b stg (.pointer (some ⟨A.q,0,none⟩)) A.wp id (ev+1) (ev+1) M C S ring lazy,68)::(stg,stCells (k:Int) M,102)::L)/\∃x y,x≤50/\y≤50/\Told (R0.lost k) s' x y):=fun w1 h1=>by
    have h2:AnW w0 w w1 T0 A (fun q=>q=ap\/q=stg) (R0.ws (R0.s.lose k)) ((ap,arCells A.b stg (.pointer (some ⟨A.q,0,none⟩)) A.wp id ev ev M C S ring lazy,68)::(stg,stCells (-1) M,102)::(w.heap.size,#[.int .u16 0],34)::L):=h1.sub fun x hx=>by
      simp only [List.mem_cons]at hx ⊢;rcases hx with e|e|e|e
      · exact .inr (.inl e)
      · exact .inr (.inr (.inl e))
      · exact .inl e
      · exact .inr (.inr (.inr e))
    refine(ar_drop h2 (.inl rfl) (.inr rfl) hlo hlo2 (fun x hx=> ?_) hk p hin hev h5 hid).mono ?_
    · rcases List.mem_cons.1 hx with e|e
      · subst e
        have k1:=HL.out _ List.mem_cons_self;have k2:=HL.out _ (List.mem_cons_of_mem _ List.mem_cons_self);exact⟨fun e=>absurd k1 (by rw[<-e];exact Nat.lt_irrefl _),fun e=>absurd k2 (by rw[<-e];exact Nat.lt_irrefl _)⟩
      · exact hL x e
    · rintro e w' ⟨rfl,s',k1,k2⟩
      exact ⟨rfl, s', k1.sub fun x hx => by
        simp only [List.mem_cons]at hx ⊢
        rcases hx with e|e|e|e
        · exact .inr (.inr (.inl e))
        · exact .inl e
        · exact .inr (.inl e)
        · exact .inr (.inr (.inr e)),k2⟩
  have HEN : Hid (∀ w1 R' v, AnW w0 w w1 T0 A (fun q => q = ap \/ q = stg) R' ((w.heap.size, #[.int .u16 0], 34) :: (ap, arCells A.b stg (.pointer (some ⟨A.q, 0, none⟩)) A.wp id (ev + 1) (ev + 1) M C S ring lazy, 68) :: (stg, stCells (k : Int) M, 102) :: L) -> AnW w0 w (w1.setCell ⟨w.heap.size, 0, none⟩ v) T0 A (fun q => q = ap \/ q = stg) R' ((ap, arCells A.b stg (.pointer (some ⟨A.q, 0, none⟩)) A.wp id (ev + 1) (ev + 1) M C S ring lazy, 68) :: (stg, stCells (k : Int) M, 102) :: L)) := fun w1 R' v h1 => h1.setNew (Nat.le_refl _) (by decide) (by decide) hwl (fun x hx => by
    have k1:ap<w.heap.size:=HL.out _ List.mem_cons_self
    have k2:stg<w.heap.size:=HL.out _ (List.mem_cons_of_mem _ List.mem_cons_self)
    simp only [List.mem_cons]at hx
    rcases hx with rfl|rfl|e
    · dsimp only;omega
    · dsimp only;omega
    · have:=HL.out x (List.mem_cons_of_mem _ (List.mem_cons_of_mem _ e))
      omega) 0 v
  have HP:=Lib.hid (fun x y s' (ht:Told (R0.lost k) s' x y) hx hy=>(p.lost hk).told ht hx hy);have c0:(w.alloc (.cells #[.int .u16 0] 34)).cell? ⟨ap,0,none⟩=some (.pointer (some ⟨A.b,0,none⟩)):=ha.cell 0;have hk0:decide ((k:Int)<0)=false:=decide_eq_false (by omega);have hk1:decide ((M:Int)<(k:Int))=false:=decide_eq_false (by omega);have hk2:((k:Int)==(M:Int))=false:=by simp;omega
  have hk3:¬(k:Int)=(M:Int):=by omega
  have hk4:¬k=M:=by omega
  clear h p ha H1 hL;go_enter_defers Tryz.func16,Tryz.ntmps16
  go_wp2_with (first
    |(go_at_call 23;(with_reducible refine HAL.out.mono ?_);rintro e w2 ⟨rfl,hw2⟩;subst hw2)
    |(go_at_call 27;(with_reducible refine(HJ2.out w3 _ HK3.out).mono ?_);rintro e w4 ⟨rfl,hw4⟩;subst hw4)
    |(go_at_call 27;(with_reducible refine HJN.out.mono ?_);rintro e w2 ⟨rfl,hw2⟩;subst hw2)
    |(go_at_call 50;(with_reducible refine HFA.out.mono ?_);rintro e w3 ⟨rfl,hk3'⟩;have HK3:=Lib.hid hk3';clear hk3' c0)
    |(go_at_call 51;(with_reducible refine(HDR.out _ HK3.out).mono ?_);rintro e w5 ⟨rfl,s',hk5,x,y,hx,hy,ht⟩;have HK5:=Lib.hid hk5;have HR5:=Lib.hid (HP.out x y s' ht hx hy);have he5:=hk5.get 0 rfl;have ce:w5.cell? ⟨w.heap.size,0,none⟩=some (.int .u16 0):=he5.cell 0;have fe:=he5.free 0;clear hk5 hx hy ht he5))
  (try simp only [Exit.inBlock,Exit.then]);refine leaves_cons (f:=22) (args:= #[.pointer (some ⟨w.heap.size,0,none⟩)]) (by simp) (by simp[go_sem]) ?_;refine(ar_guard _ _).mono ?_;rintro e u' w'' ⟨rfl,rfl,rfl⟩;refine⟨.int .u16 0,?_,rfl,_,HEN.out _ _ _ HK5.out,HR5.out⟩;rw[Zai rfl];go_simp;try rfl
end
end
section
section
variable {w0 W w w':World} {T:Nat->Nat} {A:Adr} {R:RS} {V:Nat->Nat->Sec} {L:List (Nat×Array Value×TypeId)} {ap stg M C S ring id ev sf a b:Nat} {g:Int} {lazy:Bool}
def EmPost (w0 w:World) (T:Nat->Nat) (A:Adr) (V:Nat->Nat->Sec) (M C S ring:Nat) (lazy:Bool) (g:Int) (a b:Nat) (L:List (Nat×Array Value×TypeId)) (w':World):Prop:=∃T' R',Ab w0 w' T' A R' L/\Stp w T A w' T'/\ArP R' V M C S ring lazy g (a+1000) (b+1)
theorem EmPost.below (h:EmPost w0 w T A V M C S ring lazy g a b L w') {w2:World} (hb:Below w'.heap.size w' w2):EmPost w0 w T A V M C S ring lazy g a b L w2:=by
  obtain⟨T',R',h1,h2,h3⟩:=h;exact⟨T',R',h1.below hb,h2.trans (Stp.ofBelow hb),h3⟩
theorem ar_empty (h:Ab w0 w T A R L) (p:ArP R V M C S ring lazy g a b) (hin:Within a b):
    Calls Tryz.prog 53 #[.pointer (some ⟨A.q,0,none⟩)] w fun e w'=>e=.returned (.agg #[.int .i64 0,.int .u16 0])/\EmPost w0 w T A V M C S ring lazy g a b L w':=by
  refine(l_empty (h.lat p.good p.idle) p.bud hin).mono ?_;rintro e w' ⟨rfl,T',R',k1,k2,k3,k4,-⟩;exact⟨rfl,T',R',h.step k1.ln k2,k2,p.next k1.good k1.idle k3 k4⟩
theorem ar_again_em (h:Ab w0 w T A R L) (p:ArP R V M C S ring lazy g a b) (hin:Within a b):
    Calls Tryz.prog 32 #[.pointer (some ⟨ap,0,none⟩),.func (.func 53) #[.pointer (some ⟨A.q,0,none⟩)] #[]] w fun e w'=>e=.returned (.bool true)/\EmPost w0 w T A V M C S ring lazy g a b L w':=by
  have HR:=Lib.hid (ar_empty h p hin);have HE:Hid (∀w5 o,EmPost w0 w T A V M C S ring lazy g a b L w5->EmPost w0 w T A V M C S ring lazy g a b L (w5.alloc o)):=fun w5 o h=>h.below ((Below.refl _ _).alloc (Nat.le_refl _) o)
  clear h p hin;go_enter Tryz.func32,Tryz.ntmps32;go_wp2;go_loopw [] (fun wr=>wr=w) (fun _=>0);case atStart=>rfl
  case round=>
    obtain rfl:=hrel
    go_wp2_with (first
      |(go_at_call 53;(with_reducible refine HR.out.mono ?_);rintro e w5 ⟨rfl,hp5⟩;have HP5:=Lib.hid hp5;clear hp5))
    go_ret;exact⟨rfl,HE.out _ _ HP5.out⟩
theorem ar_sure_em (h:Ab w0 w T A R L) (hbx:(ap,arCells A.b stg (.pointer (some ⟨A.q,0,none⟩)) A.wp id ev sf M C S ring lazy,68)∈L) (p:ArP R V M C S ring lazy g a b) (hin:Within a b):
    Calls Tryz.prog 52 #[.pointer (some ⟨ap,0,none⟩),.func (.func 53) #[.pointer (some ⟨A.q,0,none⟩)] #[]] w fun e w'=>e=.returned (.tuple #[])/\EmPost w0 w T A V M C S ring lazy g a b L w':=by
  have HR:=Lib.hid (ar_again_em (ap:=ap) h p hin);have c15:w.cell? ⟨ap,15,none⟩=some (.bool false):=(h.box _ hbx).1.cell 15;have HB:Hid (∀w5,EmPost w0 w T A V M C S ring lazy g a b L w5->w5.cell? ⟨ap,15,none⟩=some (.bool false)):=fun w5 ⟨T',R',k1,k2,k3⟩=>(k1.box _ hbx).1.cell 15
  clear h p hin hbx;go_enter Tryz.func52,Tryz.ntmps52;go_wp2_with (go_at_call 32;(with_reducible refine HR.out.mono ?_);rintro e w5 ⟨rfl,hp5⟩;clear c15;have HP5:=Lib.hid hp5;have d15:=HB.out _ hp5;clear hp5);go_end0;exact⟨rfl,HP5.out⟩
theorem ar_flush (h:Ab w0 w T A R L) (hbx:(ap,arCells A.b stg (.pointer (some ⟨A.q,0,none⟩)) A.wp id ev sf M C S ring lazy,68)∈L) (p:ArP R V M C S ring lazy g a b) (hin:Within a b):
    Calls Tryz.prog 19 #[.pointer (some ⟨ap,0,none⟩)] w fun e w'=>e=.returned (.int .u16 0)/\EmPost w0 w T A V M C S ring lazy g a b L w':=by
  have ha:=(h.box _ hbx).1;have hal:=ha.lt;have hwl:w0.heap.size≤w.heap.size:=h.ln.bel.size;have HL:Hid (∀x∈L,x.1<w.heap.size):=h.lt;have hB1:Below w.heap.size w (w.alloc (.cells #[.int .u16 0] 34)):=(Below.refl _ _).alloc (Nat.le_refl _) _;have HK1:Hid (Ab w0 (w.alloc (.cells #[.int .u16 0] 34)) T A R (erB w.heap.size::L)):=h.push _ _ (by decide) (by decide) (by decide) (by decide);have ha1:=ha.below hB1 hal;have HAL:Hid (Calls Tryz.prog 23 #[.pointer (some ⟨ap,0,none⟩)] (w.alloc (.cells #[.int .u16 0] 34)) fun e w'=>e=.returned (.tuple #[])/\w'=w.alloc (.cells #[.int .u16 0] 34)):=ar_alive ha1;have HSU:=Lib.hid (ar_sure_em HK1.out (List.mem_cons_of_mem _ hbx) p hin);have HEN:Hid (∀w5 v,EmPost w0 (w.alloc (.cells #[.int .u16 0] 34)) T A V M C S ring lazy g a b (erB w.heap.size::L) w5->EmPost w0 w T A V M C S ring lazy g a b L (w5.setCell ⟨w.heap.size,0,none⟩ v)):=fun w5 v ⟨T',R',k1,k2,k3⟩=>⟨T',R',k1.done hwl HL.out v,stp_done hB1 k2 (Nat.le_refl _),k3⟩
  have HCE:Hid (∀w5,EmPost w0 (w.alloc (.cells #[.int .u16 0] 34)) T A V M C S ring lazy g a b (erB w.heap.size::L) w5->At w5 w.heap.size #[.int .u16 0] 34):=fun w5 ⟨T',R',k1,k2,k3⟩=>k1.get 0 rfl
  have hmf:∀(fn:Fn) (first cap:Array Value) (w:World),(Instr.makeFunc fn first cap).run Tryz.prog w=.ok (.func fn first cap) w:=fun _ _ _ _=>rfl
  have c15:(w.alloc (.cells #[.int .u16 0] 34)).cell? ⟨ap,15,none⟩=some (.bool false):=ha1.cell 15;have c13:(w.alloc (.cells #[.int .u16 0] 34)).cell? ⟨ap,13,none⟩=some (.pointer (some ⟨A.q,0,none⟩)):=ha1.cell 13;clear h p hin hbx ha ha1 HK1;go_enter_defers Tryz.func19,Tryz.ntmps19
  go_wp2_with (first
    |(go_at_call 23;(with_reducible refine HAL.out.mono ?_);rintro e w2 ⟨rfl,hw2⟩;subst hw2)
    |(go_at_call 52;(with_reducible refine HSU.out.mono ?_);rintro e w5 ⟨rfl,hk5⟩;clear c15 c13;have HK5:=Lib.hid hk5;have he5:=HCE.out _ hk5;have ce:w5.cell? ⟨w.heap.size,0,none⟩=some (.int .u16 0):=he5.cell 0;have fe:=he5.free 0;clear hk5 he5))
  (try simp only [Exit.inBlock,Exit.then]);refine leaves_cons (f:=22) (args:= #[.pointer (some ⟨w.heap.size,0,none⟩)]) (by simp) (by simp[go_sem]) ?_;refine(ar_guard _ _).mono ?_;rintro e u' w'' ⟨rfl,rfl,rfl⟩;refine⟨.int .u16 0,?_,rfl,HEN.out _ _ HK5.out⟩;rw[Zai rfl];go_simp;try rfl
end
end
abbrev geB (n M C S:Nat):Nat×Array Value×TypeId:=(n,#[.int .i64 M,.int .i64 C,.int .i64 S],26)
abbrev raB (ap b:Nat) (id M C S ring:Nat) (lazy:Bool) (wp:Nat) (vst vr:Value):Nat×Array Value×TypeId:=(ap,#[.pointer (some ⟨b,0,none⟩),.int .u64 id,.int .u64 1,.int .u64 1,.int .i64 0,.int .i64 M,.int .i64 C,.int .i64 S,.int .i64 ring,.bool lazy,.bool false,vst,.int .i64 0,vr,.pointer (some ⟨wp,0,none⟩),.bool false,.int .u16 0,.bool true,.bool false],68)
abbrev waB (b M wp rp:Nat):Nat×Array Value×TypeId:=(wp,walCells b M 1 rp 1 true none 0,148)
abbrev rgB (rp ring:Nat):Nat×Array Value×TypeId:=(rp,#[.int .i64 (ring:Int),.int .i64 ((0:Nat):Int),.int .i64 ((0:Nat):Int)],190)
def CrPost (W:World) (T:Nat->Nat) (b id M C S ring:Nat) (lazy:Bool) (e:Ending) (w':World):Prop:=
  ∃ap stg A T' s,e=.returned (.tuple #[.pointer (some ⟨ap,0,none⟩),.int .u16 0])/\A.b=b/\RwIn w' T' A (RS.made M C S ring lazy s) none (.slice none 0 0) []/\At w' ap (arCells b stg (.pointer (some ⟨A.q,0,none⟩)) A.wp id 1 1 M C S ring lazy) 68/\At w' stg (stCells (-1) M) 102/\T' ap=0/\T' stg=0/\Blank M C S ring s (M*(S*C)+ring+1+(M+1)) (1+(M+1))/\(W.heap.size≤ap/\W.heap.size≤stg/\W.heap.size≤A.q/\W.heap.size≤A.wp/\W.heap.size≤A.rp/\W.heap.size≤A.fg)/\(∀q,q<W.heap.size->T' q=T q)/\Chg (fun q=>T q≠0) W w'
theorem slice_intsC:SliceOf Tryz.prog 41 3 1 8:=SliceOf.mk' (z:=.int .i64 0) Tryz.underlying41 (by decide) (by kernel_rfl) rfl
theorem Blank.has {M C S ring c1 c2:Nat} {s:BaySt} (h:Blank M C S ring s c1 c2) {k:Nat} (hk:k≤M):∃x,s.pos (k*3)=some x/\x.d.failed=false/\x.d.last.length=arSz M C S ring k:=by
  obtain⟨x,h1,h2⟩:=h.fit.dev k (by rw[h.n];omega) trivial;exact⟨x,h1,h2.failed,h2.len⟩
theorem ar_create {W:World} {T:Nat->Nat} {b M C S ring id:Nat} (hb:BayAt W T b (rBay M (S*C) ring)) (lazy:Bool) (hg:geoIs M C S=true) (h5:5≤ring) (h6:ring≤2048) (hid:id<18446744073709551616):
    Calls Tryz.prog 15 #[.pointer (some ⟨b,0,none⟩),.int .u64 id,.agg #[.int .i64 M,.int .i64 C,.int .i64 S],.int .i64 ring,.bool lazy] W (CrPost W T b id M C S ring lazy):=by
  obtain⟨g1,g2,g3,g4⟩:=Zbe hg;have hblank:=blank_new M C S ring g4 h6;generalize rBay M (S*C) ring=s0 at*;obtain⟨W1,hW1⟩:∃W1,W1=W.alloc (.cells #[.int .i64 M,.int .i64 C,.int .i64 S] 26):=⟨_,rfl⟩;have hC0:Cb W W1 T T b s0 [geB W.heap.size M C S]:=by
    rw[hW1];exact Cb.push (L:= []) ⟨hb,fun _ _=>rfl,Chg.refl _ _,fun x hx=>by cases hx⟩ _ _
  have HC0:=Lib.hid hC0;have HS0:=Lib.hid hblank
  have HCK : Hid (∀ w, Calls Tryz.prog 38 #[.agg #[.int .i64 M, .int .i64 C, .int .i64 S]] w fun e w' => e = .returned (.int .u16 0) /\ Below w.heap.size w w') := fun w => (Zb1 M C S w).mono (by
    rintro e w' ⟨rfl,hb'⟩
    refine⟨?_,hb'⟩
    unfold geoCode
    rw[if_pos hg])
  have HRW : Hid (∀ w, Calls Tryz.prog 40 #[.agg #[.int .i64 M, .int .i64 C, .int .i64 S]] w fun e w' => e = .returned (.int .i64 (S * C : Nat)) /\ Below w.heap.size w w') := fun w => (Zfc M C S w).mono (by
    rintro e w' ⟨rfl,hb'⟩
    refine⟨?_,hb'⟩
    unfold geoRows
    rw[if_pos hg,Int.natCast_mul])
  have HSL:Hid (∀w T' s c1 c2 L,Cb W w T T' b s L->Blank M C S ring s c1 c2->Calls Tryz.prog 39 #[.pointer (some ⟨b,0,none⟩)] w fun e w'=>e=.returned (.int .i64 ((M:Int)+1))/\w'=w):=fun w T' s c1 c2 L h1 h2=>by
    have:=Zl1 h1.bay;rw[h2.n,show((M+1:Nat):Int)=(M:Int)+1 by omega]at this;exact this
  have HHS:Hid (∀w T' s c1 c2 L (k:Nat),k≤M->Cb W w T T' b s L->Blank M C S ring s c1 c2->Calls Tryz.prog 41 #[.pointer (some ⟨b,0,none⟩),.int .i64 k] w fun e w'=>e=.returned (.bool true)/\w'=w):=fun w T' s c1 c2 L k hk h1 h2=>by
    obtain⟨x,hx,hf,-⟩:=h2.has hk;exact bay_has_some h1.bay k (by rw[h2.n];omega) hx hf
  have HSC:Hid (∀w T' s c1 c2 L (k z:Nat),k≤M->z=arSz M C S ring k->Cb W w T T' b s L->Blank M C S ring s c1 c2->Calls Tryz.prog 42 #[.pointer (some ⟨b,0,none⟩),.int .i64 k] w fun e w'=>e=.returned (.int .i64 z)/\w'=w):=fun w T' s c1 c2 L k z hk hz h1 h2=>by
    obtain⟨x,hx,-,hl⟩:=h2.has hk;rw[hz,<-hl];exact bay_sectors h1.bay k (by rw[h2.n];omega) hx
  have HWZ:Hid (∀w T' s c1 L (m r g:Nat),m<M->r<S*C->c1≤70000->Cb W w T T' b s L->Blank M C S ring s c1 0->At w g (ucells zsec).toArray 5->T' g=0->Calls Tryz.prog 43 #[.pointer (some ⟨b,0,none⟩),.int .i64 m,.int .i64 (1+(r:Int)),.slice (some ⟨g,0,none⟩) 128 128] w fun e w'=>e=.returned (.int .u16 0)/\∃T'' s',Cb W w' T T'' b s' L/\Blank M C S ring s' (c1+1) 0):=fun w T' s c1 L m r g hm hr hc h1 h2 ha ht=>by
    have hz:1+r<arSz M C S ring m:=by rw[arSz_in hm];omega
    have h := Zh4 h1.bay (m : Int) ((1 + r : Nat) : Int) _ zsec (by rw [h2.c1]; omega) (fun i hi x hx => Nat.le_trans (h2.small i hi x hx) (by omega)) (Zk9 ha Znj) (fun a n c e => by
      simp only [Value.slice.injEq,Option.some.injEq]at e
      obtain⟨rfl,-,-⟩:=e
      exact ht)
    rw[Zb4 h2.fit m (1+r) zsec (by rw[h2.n];omega) trivial hz Znj,show((1+r:Nat):Int)=1+(r:Int) by omega]at h;refine h.mono ?_;rintro e w' ⟨rfl,hp⟩;obtain⟨T'',hp'⟩:=h1.post hp;exact⟨rfl,T'',_,hp',h2.put m (1+r) zsec (Nat.le_of_lt hm) hz Znj (.inr (.inr rfl))⟩
  have HFO:Hid (∀w T' s c1 L,c1≤70000->Cb W w T T' b s L->Blank M C S ring s c1 0->Calls Tryz.prog 44 #[.pointer (some ⟨b,0,none⟩),.int .i64 M,.int .i64 ring,.int .u64 1] w fun e w'=>∃wp rp T'' s',e=.returned (.tuple #[.pointer (some ⟨wp,0,none⟩),.int .u16 0])/\Cb W w' T T'' b s' (waB b M wp rp::rgB rp ring::L)/\Blank M C S ring s' (c1+ring+1) 1):=fun w T' s c1 L hc h1 h2=>by
    refine(Zp1 h1.bay M ring 1 h2.fit (by rw[h2.n];omega) trivial (by rw[arSz_M];omega) h5 h6 (by omega) (by rw[h2.c1];omega) (by rw[h2.c2];omega) (fun i hi x hx=>Nat.le_trans (h2.small i hi x hx) (by omega))).mono ?_;rintro e w' ⟨wp,rp,T'',rfl,hwp,hrp,twp,trp,k1,k2,k3,k4,k5⟩;obtain⟨T3,hp'⟩:=h1.post ⟨T'',k1,k2,k3⟩;have hs:=h1.chg.size;have hpp:Cb W w' T T'' b (formed s M ring 1) L:=⟨k1,fun q hq=>(k2 q (by omega)).trans (h1.tags q hq),Zaj h1.chg k3 (fun q hq e=>by rw[<-h1.tags q hq];exact e),fun x hx=>⟨(h1.box x hx).1.mod k3 (fun e=>e (h1.box x hx).2.1),(k2 _ (h1.box x hx).1.lt).trans (h1.box x hx).2.1,(h1.box x hx).2.2⟩⟩;exact⟨wp,rp,T'',_,rfl,(hpp.add k5 trp (by omega)).add k4 twp (by omega),h2.form⟩
  have HTE:Hid (∀w T' s c1 c2 L ap stg wp (i:Nat),i≤M->c1≤80000->stB stg (-1) M∈L->raB ap b id M C S ring lazy wp (.slice (some ⟨stg,0,none⟩) M M) (.pointer none)∈L->Cb W w T T' b s L->Blank M C S ring s c1 c2->Calls Tryz.prog 46 #[.pointer (some ⟨ap,0,none⟩),.int .i64 (ordOf M i)] w fun e w'=>e=.returned (.int .u16 0)/\∃T'' s',Cb W w' T T'' b s' L/\Blank M C S ring s' (c1+1) c2):=fun w T' s c1 c2 L ap stg wp i hi hc1 hst hra h1 h2=>by
    have ho:=ordOf_le hi;have hz:0<arSz M C S ring (ordOf M i):=by unfold arSz;split<;>omega
    have ha:At w ap (arCells b stg (.pointer none) wp id 1 1 M C S ring lazy) 68:=(h1.box _ hra).1;obtain⟨q1,q2,q3,q4,q5,q6⟩:=(Zam M C S).1 hg;refine(ar_tell h1.bay h2.fit (ordOf M i) (by rw[h2.n];omega) trivial hz ha (stAt_of (h1.box _ hst).1) ⟨by omega,by omega,by omega,by omega,by omega,by omega,by omega,by omega,by omega,by omega,ho,h5,h6⟩ hid (by rw[h2.c1];omega) (fun i hi x hx=>Nat.le_trans (h2.small i hi x hx) (by omega))).mono ?_;rintro e w' ⟨rfl,l,hl,hp⟩;obtain⟨T'',hp'⟩:=h1.post hp;exact⟨rfl,T'',_,hp',h2.put _ 0 l ho hz hl (.inr (.inl rfl))⟩
  have HFL:Hid (∀w T' s c1 c2 L (i:Nat),i≤M->c1≤80000->c2≤1000->Cb W w T T' b s L->Blank M C S ring s c1 c2->Calls Tryz.prog 47 #[.pointer (some ⟨b,0,none⟩),.int .i64 (ordOf M i)] w fun e w'=>e=.returned (.int .u16 0)/\∃T'' s',Cb W w' T T'' b s' L/\Blank M C S ring s' c1 (c2+1)):=fun w T' s c1 c2 L i hi hc1 hc2 h1 h2=>by
    have ho:=ordOf_le hi;have h:=Zh8 h1.bay (ordOf M i:Int) (by rw[h2.c2];omega) (fun i hi x hx=>Nat.le_trans (h2.small i hi x hx) (by omega));rw[Zco h2.fit (ordOf M i) (by rw[h2.n];omega) trivial]at h;refine h.mono ?_;rintro e w' ⟨rfl,hp⟩;obtain⟨T'',hp'⟩:=h1.post hp;exact⟨rfl,T'',_,hp',h2.dry _ ho⟩
  have HRP:Hid (∀w g z,w.heap.size=z->At w g #[.int .u8 1] 102->Calls Tryz.prog 45 #[.slice (some ⟨g,0,none⟩) 1 1,.int .i64 M] w fun e w'=>e=.returned (.slice (some ⟨z,0,none⟩) M M)/\At w' z (stCells (-1) M) 102/\Below w.heap.size w w'):=fun w g z hz ha=>by
    subst hz;exact repeat_st M g g1 g2 w ha
  have HRN:Hid (∀w T' s c1 c2 L wp rp,Cb W w T T' b s L->Blank M C S ring s c1 c2->waB b M wp rp∈L->rgB rp ring∈L->Calls Tryz.prog 48 #[.pointer (some ⟨b,0,none⟩),.agg #[.int .i64 M,.int .i64 C,.int .i64 S],.pointer (some ⟨wp,0,none⟩),.bool lazy] w fun e w'=>∃q fg,e=.returned (.tuple #[.pointer (some ⟨q,0,none⟩),.int .u16 0])/\w.heap.size≤q/\w.heap.size≤fg/\RwIn w' T' ⟨b,q,wp,rp,fg⟩ (RS.made M C S ring lazy s) none (.slice none 0 0) []/\Below w.heap.size w w'):=fun w T' s c1 c2 L wp rp h1 h2 h3 h4=>
    Zuj h1.bay M C S hg h2.n wp rp 1 1 ring 0 0 true lazy none (h1.box _ h3).1 (h1.box _ h4).1 (h1.box _ h3).2.1 (h1.box _ h4).2.1
  have r5:decide ((ring:Int)<5)=false:=decide_eq_false (by omega);have r6:decide ((2048:Int)<(ring:Int))=false:=decide_eq_false (by omega);have r5':decide (ring<5)=false:=decide_eq_false (by omega);have r6':decide (2048<ring)=false:=decide_eq_false (by omega);have hbe:((M:Int)+1 !=(M:Int)+1)=false:=by simp
  have HG:=Lib.hid hg;have H5:=Lib.hid h5;have H6:=Lib.hid h6;have H4:=Lib.hid g4;have hc00:=HC0.out.get 0 rfl;have c0:W1.cell? ⟨W.heap.size,0,none⟩=some (.int .i64 M):=hc00.cell 0;have c1:W1.cell? ⟨W.heap.size,1,none⟩=some (.int .i64 C):=hc00.cell 1;have c2:W1.cell? ⟨W.heap.size,2,none⟩=some (.int .i64 S):=hc00.cell 2;clear hb hblank hC0 hg h5 h6 hc00;subst hW1;go_enter Tryz.func15,Tryz.ntmps15
  go_wp2_with (first
    |(go_at_call 38;(with_reducible refine(HCK.out _).mono ?_);rintro e w2 ⟨rfl,hb2⟩;have HC2:=Lib.hid (HC0.out.below hb2);clear c0 c1 c2 hb2))
  have HGC:Hid (∀w T' s L,Cb W w T T' b s (geB W.heap.size M C S::L)->w.cell? ⟨W.heap.size,0,none⟩=some (.int .i64 M)/\w.cell? ⟨W.heap.size,1,none⟩=some (.int .i64 C)/\w.cell? ⟨W.heap.size,2,none⟩=some (.int .i64 S)):=fun w T' s L h=>⟨(h.get 0 rfl).cell 0,(h.get 0 rfl).cell 1,(h.get 0 rfl).cell 2⟩
  have HCD:Hid (Cb W w2.drew T T b s0 [geB W.heap.size M C S]):=HC2.out.below (Below.refl _ _).drew;have hwm:IntKind.i64.wrap ((M:Int)+1)=(M:Int)+1:=by rw[IntKind.wrap_i64];omega
  go_region_held3 (fun w'=>w'.cell? ⟨W.heap.size,0,none⟩=some (.int .i64 M)/\w'.cell? ⟨W.heap.size,1,none⟩=some (.int .i64 C)/\w'.cell? ⟨W.heap.size,2,none⟩=some (.int .i64 S))
    (first|with_reducible exact HGC.out _ _ _ _ HC2.out|with_reducible exact HGC.out _ _ _ _ HCD.out)
    (first
      |(go_at_call 39;(with_reducible refine(HSL.out _ _ _ _ _ _ HCD.out HS0.out).mono ?_);rintro e w3 ⟨rfl,hw3⟩;subst hw3))
  go_wp2_with (first
    |(go_at_call 39;(with_reducible refine(HSL.out _ _ _ _ _ _ HCD.out HS0.out).mono ?_);rintro e w3 ⟨rfl,hw3⟩;subst hw3))
  go_loopw [47] (fun q wr=>∃k:Nat,k≤M+1/\q=.int .i64 k/\Cb W wr T T b s0 [geB W.heap.size M C S]) (fun q _=>M+1-(intOf q).toNat);case atStart=>exact⟨0,Nat.zero_le _,rfl,HCD.out⟩
  case round=>
    obtain⟨k,hk,rfl,hc⟩:=hrel;have HC:=Lib.hid hc;obtain⟨c0,c1,c2⟩:=HGC.out _ _ _ _ hc;clear hc;by_cases hk2:k<M
    · have hke:¬((k:Int)=(M:Int)):=by omega
      have hkm:(k:Int)<(M:Int)+1:=by omega
      have HHK:=Lib.hid (fun w h=>HHS.out w T s0 0 0 [geB W.heap.size M C S] k (Nat.le_of_lt hk2) h HS0.out);have HSK:Hid (∀w,Cb W w T T b s0 [geB W.heap.size M C S]->Calls Tryz.prog 42 #[.pointer (some ⟨b,0,none⟩),.int .i64 k] w fun e w'=>e=.returned (.int .i64 (1+(S*C:Nat)))/\w'=w):=fun w h=>by
        have:=HSC.out w T s0 0 0 _ k (1+S*C) (Nat.le_of_lt hk2) (arSz_in hk2).symm h HS0.out;rw[show((1+S*C:Nat):Int)=1+((S*C:Nat):Int) by omega]at this;exact this
      generalize S*C=P at*;have hp4:P≤4096:=H4.out
      go_wp2_with (first
        |(go_at_call 40;(with_reducible refine(HRW.out _).mono ?_);rintro e w5 ⟨rfl,hb5⟩;have HC5:=Lib.hid (HC.out.below hb5);obtain⟨d0,d1,d2⟩:=HGC.out _ _ _ _ HC5.out;clear c0 c1 c2 hb5)
        |(go_at_call 41;(with_reducible refine(HHK.out _ HC5.out).mono ?_);rintro e w6 ⟨rfl,hw6⟩;subst hw6)
        |(go_at_call 42;(with_reducible refine(HSK.out _ HC5.out).mono ?_);rintro e w6 ⟨rfl,hw6⟩;subst hw6))
      exact⟨⟨k+1,by omega,by go_num,HC5.out⟩,by simp[intOf];omega⟩
    · by_cases hk3:k=M
      · obtain rfl:M=k:=hk3.symm
        have hkm:(M:Int)<(M:Int)+1:=by omega
        have hw2:Go.RowKit.wrap64 (2+(ring:Int))=2+(ring:Int):=IntWalk.wrap64_in _ ⟨by omega,by have:=H6.out;omega⟩;have HHK:=Lib.hid (fun w h=>HHS.out w T s0 0 0 [geB W.heap.size M C S] M (by omega) h HS0.out);have HSK:Hid (∀w,Cb W w T T b s0 [geB W.heap.size M C S]->Calls Tryz.prog 42 #[.pointer (some ⟨b,0,none⟩),.int .i64 M] w fun e w'=>e=.returned (.int .i64 (2+(ring:Int)))/\w'=w):=fun w h=>by
          have:=HSC.out w T s0 0 0 _ M (2+ring) (by omega) (by rw[arSz_M]) h HS0.out;rw[show((2+ring:Nat):Int)=2+(ring:Int) by omega]at this;exact this
        generalize S*C=P at*;have hp4:P≤4096:=H4.out
        go_wp2_with (first
          |(go_at_call 40;(with_reducible refine(HRW.out _).mono ?_);rintro e w5 ⟨rfl,hb5⟩;have HC5:=Lib.hid (HC.out.below hb5);obtain⟨d0,d1,d2⟩:=HGC.out _ _ _ _ HC5.out;clear c0 c1 c2 hb5)
          |(go_at_call 41;(with_reducible refine(HHK.out _ HC5.out).mono ?_);rintro e w6 ⟨rfl,hw6⟩;subst hw6)
          |(go_at_call 42;(with_reducible refine(HSK.out _ HC5.out).mono ?_);rintro e w6 ⟨rfl,hw6⟩;subst hw6))
        exact⟨⟨M+1,by omega,by go_num,HC5.out⟩,by simp[intOf]⟩
      · obtain rfl:k=M+1:=by omega
        rw[show((M+1:Nat):Int)=(M:Int)+1 by omega];go_wp2;clear c0 c1 c2 HCD HSL HHS HSC HC2 HCK;obtain⟨P,hP⟩:∃P,P=S*C:=⟨_,rfl⟩;rw[<-hP]at H4 HRW HWZ g3 g4;have hp4:P≤4096:=H4.out;have HMP:Hid (∀m,m≤M->m*P≤65536):=fun m hm=>Nat.le_trans (Nat.mul_le_mul hm hp4) (by omega)
        go_loopw [73] (fun q wr=>∃m:Nat,m≤M/\q=.int .i64 m/\∃T' s,Cb W wr T T' b s [geB W.heap.size M C S]/\Blank M C S ring s (m*P) 0) (fun q _=>M-(intOf q).toNat);case atStart=>exact⟨0,Nat.zero_le _,rfl,T,s0,HC.out,by rw[Nat.zero_mul];exact HS0.out⟩
        case round=>
          obtain⟨m,hm,rfl,T1,s1,hc1,hs1⟩:=hrel;have HC1:=Lib.hid hc1;have HS1:=Lib.hid hs1;obtain⟨c0,c1,c2⟩:=HGC.out _ _ _ _ hc1;clear hc1 hs1;by_cases hm2:m<M
          · have hmm:(m:Int)<(M:Int):=by omega
            go_wp2_with (first
              |(go_at_call 40;(with_reducible refine(HRW.out _).mono ?_);rintro e w5 ⟨rfl,hb5⟩;have HC5:=Lib.hid (HC1.out.below hb5);clear c0 c1 c2 hb5))
            obtain⟨wo,hwo⟩:∃wo:World,wo=wr:=⟨_,rfl⟩;obtain⟨mp,hmp⟩:∃mp,mp=m*P:=⟨_,rfl⟩;have hmpb:mp≤65536:=by rw[hmp];exact HMP.out m hm
            have HS1':Hid (Blank M C S ring s1 mp 0):=by rw[hmp];exact HS1.out
            clear HS1 HC1 hwo;go_loopw [78] (fun q wr=>∃r:Nat,r≤P/\q=.int .i64 r/\∃T' s,Cb W wr T T' b s [geB W.heap.size M C S]/\Blank M C S ring s (mp+r) 0) (fun q _=>P-(intOf q).toNat);case atStart=>exact⟨0,Nat.zero_le _,rfl,T1,s1,HC5.out,HS1'.out⟩
            case round=>
              obtain⟨r,hr,rfl,T2,s2,hc2,hs2⟩:=hrel;have HC2:=Lib.hid hc2;have HS2:=Lib.hid hs2;clear hc2 hs2;by_cases hr2:r<P
              · have hrr:(r:Int)<(P:Int):=by omega
                have hmpr:mp+r≤70000:=by omega
                go_wp2_with (first
                  |(refine Zaq rfl _ _ 36 5 1 1 rfl Zat (.int .u8 0) (by kernel_rfl) _ _ _ _ 128 rfl rfl rfl rfl (by omega) (by unfold maxLen;omega) ?_;intro w7 a7 b7;rw[Zq9]at a7;have HC7:=Lib.hid (HC2.out.below b7);have HA7:=Lib.hid a7;have HT7:Hid (T2 wr.heap.size=0):=(HC2.out.virg _ (Nat.le_refl _));clear a7 b7)
                  |(go_at_call 43;(with_reducible refine(HWZ.out _ T2 s2 (mp+r) _ m r _ hm2 hr2 hmpr HC7.out HS2.out HA7.out HT7.out).mono ?_);rintro e w8 ⟨rfl,T8,s8,hc8,hs8⟩;have HC8:=Lib.hid hc8;have HS8:=Lib.hid hs8;clear hc8 hs8))
                exact⟨⟨r+1,hr2,by go_num,T8,s8,HC8.out,HS8.out⟩,by simp[intOf];omega⟩
              · obtain rfl:r=P:=by omega
                go_wp2;go_roundw;case rel=>exact⟨m+1,hm2,by go_num,T2,s2,HC2.out,by rw[Nat.succ_mul,<-hmp];exact HS2.out⟩
                case measure=>simp[intOf];omega
          · obtain rfl:M=m:=by omega
            have hsz:∀(w:World) (o o':Obj),((w.alloc o).alloc o').heap.size=w.heap.size+1+1:=fun w o o'=>by rw[Zaa,Zaa]
            have hat:∀(w:World) (o:Obj),At ((w.alloc o).alloc (.cells #[.int .u8 1] 102)) (w.heap.size+1) #[.int .u8 1] 102:=fun w o=>by
              have:=At.new (w.alloc o) #[.int .u8 1] 102;rwa [Zaa]at this
            obtain⟨K,hK⟩:∃K,K=M*P+ring+1:=⟨_,rfl⟩;have hKb:K≤70000:=by have:=HMP.out M hm;have:=H6.out;omega
            go_wp2_with (first
              | (go_at_call 44; (with_reducible refine (HFO.out _ T1 s1 (M * P) _ (Nat.le_trans (HMP.out M hm) (by omega)) HC1.out HS1.out).mono ?_); rintro e w9 ⟨wp, rp, T9, s9, rfl, hc9, hs9⟩; rw [<- hK] at hs9; have HC9 := Lib.hid hc9; have HS9 := Lib.hid hs9; clear hc9 hs9 c0 c1 c2; obtain ⟨d0, d1, d2⟩ : w9.cell? ⟨W.heap.size, 0, none⟩ = some (.int .i64 M) /\ w9.cell? ⟨W.heap.size, 1, none⟩ = some (.int .i64 C) /\ w9.cell? ⟨W.heap.size, 2, none⟩ = some (.int .i64 S) := ⟨(HC9.out.get 2 rfl).cell 0, (HC9.out.get 2 rfl).cell 1, (HC9.out.get 2 rfl).cell 2⟩
                 have HCA:Hid (Cb W ((w9.alloc (.cells #[.pointer (some ⟨b,0,none⟩),.int .u64 id,.int .u64 1,.int .u64 1,.int .i64 0,.int .i64 M,.int .i64 C,.int .i64 S,.int .i64 ring,.bool lazy,.bool false,.slice none 0 0,.int .i64 0,.pointer none,.pointer (some ⟨wp,0,none⟩),.bool false,.int .u16 0,.bool true,.bool false] 68)).alloc (.cells #[.int .u8 1] 102)) T T9 b s9 [(w9.heap.size+1,#[.int .u8 1],102),raB w9.heap.size b id M C S ring lazy wp (.slice none 0 0) (.pointer none),waB b M wp rp,rgB rp ring,geB W.heap.size M C S]):=by
                   have:=(HC9.out.push #[.pointer (some ⟨b,0,none⟩),.int .u64 id,.int .u64 1,.int .u64 1,.int .i64 0,.int .i64 M,.int .i64 C,.int .i64 S,.int .i64 ring,.bool lazy,.bool false,.slice none 0 0,.int .i64 0,.pointer none,.pointer (some ⟨wp,0,none⟩),.bool false,.int .u16 0,.bool true,.bool false] 68).push #[.int .u8 1] 102
                   rwa [Zaa]at this
                 have e0:((w9.alloc (.cells #[.pointer (some ⟨b,0,none⟩),.int .u64 id,.int .u64 1,.int .u64 1,.int .i64 0,.int .i64 M,.int .i64 C,.int .i64 S,.int .i64 ring,.bool lazy,.bool false,.slice none 0 0,.int .i64 0,.pointer none,.pointer (some ⟨wp,0,none⟩),.bool false,.int .u16 0,.bool true,.bool false] 68)).alloc (.cells #[.int .u8 1] 102)).cell? ⟨W.heap.size,0,none⟩=some (.int .i64 M):=(HCA.out.get 4 rfl).cell 0)
              | (go_at_call 45; (with_reducible refine (HRP.out _ (w9.heap.size + 1) (w9.heap.size + 1 + 1) (hsz _ _ _) (hat _ _)).mono ?_); rintro e w10 ⟨rfl, ha10, hb10⟩
                 have HCB:Hid (Cb W w10 T T9 b s9 [raB w9.heap.size b id M C S ring lazy wp (.slice none 0 0) (.pointer none),stB (w9.heap.size+1+1) (-1) M,waB b M wp rp,rgB rp ring,geB W.heap.size M C S]):=by
                   have h1:=HCA.out.below hb10
                   have h2:=h1.add ha10 (HCA.out.virg _ (by rw[hsz];exact Nat.le_refl _)) (by have:=HCA.out.chg.size;rw[hsz]at this;exact this)
                   refine h2.sub fun x hx=> ?_
                   simp only [List.mem_cons,List.not_mem_nil,or_false]at hx ⊢
                   rcases hx with rfl|rfl|rfl|rfl|rfl<;>simp
                 have HW9:Hid (W.heap.size≤w9.heap.size):=HC9.out.chg.size
                 have f11:w10.cell? ⟨w9.heap.size,11,none⟩=some (.slice none 0 0):=(HCB.out.get 0 rfl).cell 11
                 have f11z:w10.frozen? ⟨w9.heap.size,11,none⟩=false:=(HCB.out.get 0 rfl).free 11
                 have HCC:Hid (Cb W (w10.setCell ⟨w9.heap.size,11,none⟩ (.slice (some ⟨w9.heap.size+1+1,0,none⟩) M M)) T T9 b s9 [raB w9.heap.size b id M C S ring lazy wp (.slice (some ⟨w9.heap.size+1+1,0,none⟩) M M) (.pointer none),stB (w9.heap.size+1+1) (-1) M,waB b M wp rp,rgB rp ring,geB W.heap.size M C S]):=by
                   refine HCB.out.set (fun x hx=> ?_) 11 _
                   have k1:wp<w9.heap.size:=HC9.out.lt _ List.mem_cons_self
                   have k2:rp<w9.heap.size:=HC9.out.lt _ (List.mem_cons_of_mem _ List.mem_cons_self)
                   have k3:W.heap.size<w9.heap.size:=HC9.out.lt _ (List.mem_cons_of_mem _ (List.mem_cons_of_mem _ List.mem_cons_self))
                   simp only [List.mem_cons,List.not_mem_nil,or_false]at hx
                   rcases hx with rfl|rfl|rfl|rfl<;>(dsimp only;omega)
                 have HSS:Hid ((w10.setCell ⟨w9.heap.size,11,none⟩ (.slice (some ⟨w9.heap.size+1+1,0,none⟩) M M)).heap.size=w10.heap.size):=Za6 _ _ _
                 have g0:(w10.setCell ⟨w9.heap.size,11,none⟩ (.slice (some ⟨w9.heap.size+1+1,0,none⟩) M M)).cell? ⟨W.heap.size,0,none⟩=some (.int .i64 M):=(HCC.out.get 4 rfl).cell 0
                 have h0:((w10.setCell ⟨w9.heap.size,11,none⟩ (.slice (some ⟨w9.heap.size+1+1,0,none⟩) M M)).alloc (.cells #[.int .i64 M] 3)).cell? ⟨W.heap.size,0,none⟩=some (.int .i64 M):=((HCC.out.push #[.int .i64 M] 3).get 5 rfl).cell 0
                 have HOX:Hid (((w10.setCell ⟨w9.heap.size,11,none⟩ (.slice (some ⟨w9.heap.size+1+1,0,none⟩) M M)).alloc (.cells #[.int .i64 M] 3)).ownsRow w10.heap.size 3 1 (.slice (some ⟨w10.heap.size,0,none⟩) 1 1) 1 (ordCells M 1)):=by
                   have:=At.new (w10.setCell ⟨w9.heap.size,11,none⟩ (.slice (some ⟨w9.heap.size+1+1,0,none⟩) M M)) #[.int .i64 M] 3
                   rw[Za6]at this
                   exact⟨rfl,.inr ⟨_,1,_,rfl,Nat.le_refl _,this,Nat.le_refl _,by unfold maxLen;omega,rfl,rfl⟩⟩
                 have HBX:Hid (Below w10.heap.size (w10.setCell ⟨w9.heap.size,11,none⟩ (.slice (some ⟨w9.heap.size+1+1,0,none⟩) M M)) ((w10.setCell ⟨w9.heap.size,11,none⟩ (.slice (some ⟨w9.heap.size+1+1,0,none⟩) M M)).alloc (.cells #[.int .i64 M] 3))):=by
                   have:=(Below.refl (w10.setCell ⟨w9.heap.size,11,none⟩ (.slice (some ⟨w9.heap.size+1+1,0,none⟩) M M)).heap.size (w10.setCell ⟨w9.heap.size,11,none⟩ (.slice (some ⟨w9.heap.size+1+1,0,none⟩) M M))).alloc (Nat.le_refl _) (.cells #[.int .i64 M] 3)
                   rwa [Za6]at this
                 clear ha10 hb10 e0 d0 d1 d2 HCB HCA))
            clear f11 f11z;obtain⟨z,hz⟩:∃z,z=w10.heap.size:=⟨_,rfl⟩;have HZS:Hid (z=w10.heap.size):=hz;rw[<-hz]at HOX HBX;rw[<-hz];clear hz;go_loopw [19,125] (fun o q wr=>∃k:Nat,k≤M/\q=.int .i64 k/\wr.ownsRow z 3 1 o (k+1) (ordCells M (k+1))/\Below z (w10.setCell ⟨w9.heap.size,11,none⟩ (.slice (some ⟨w9.heap.size+1+1,0,none⟩) M M)) wr) (fun _ q _=>M-(intOf q).toNat);case atStart=>exact⟨0,Nat.zero_le _,rfl,HOX.out,HBX.out⟩
            case round=>
              clear HOX HBX h0 g0;obtain⟨k,hk,rfl,ho,hbw⟩:=hrel;have HO:=Lib.hid ho;have HB:=Lib.hid hbw;have hzs:z≤wr.heap.size:=by
                have h1:=hbw.size;have h2:=HSS.out;have h3:=HZS.out;omega
              by_cases hk2:k<M
              · have hkm:(k:Int)<(M:Int):=by omega
                have HNX:Hid (ordCells M (k+1+1)=ordCells M (k+1)++ [.int .i64 (k:Int)]):=by
                  show _=_
                  rw[ordCells_succ];rfl
                clear ho hbw
                go_wp2_with (first
                  |(refine Zay rfl _ _ 41 3 8 rfl slice_intsC z _ (k+1) _ rfl HO.out _ rfl rfl (by unfold maxLen;omega) (by omega) hzs ?_;intro v' w12 hown hbw2 hgr))
                go_roundw;case rel=>exact⟨k+1,hk2,by go_num,by rw[HNX.out];exact hown,HB.out.trans hbw2⟩
                case measure=>simp[intOf];omega
              · obtain rfl:M=k:=by omega
                obtain⟨g,cap,cur,rfl,hcur,hg0,hcells⟩:=row_box ho (by omega);have HCE:Hid (Cb W wr T T9 b s9 [raB w9.heap.size b id M C S ring lazy wp (.slice (some ⟨w9.heap.size+1+1,0,none⟩) M M) (.pointer none),stB (w9.heap.size+1+1) (-1) M,waB b M wp rp,rgB rp ring,geB W.heap.size M C S]):=by
                  refine HCC.out.grow (S:=fun q=>z≤q) ⟨hbw.os,hbw.tape,hbw.output,hbw.size,fun q hq hs=>hbw.block q (by omega)⟩ (fun q hq=>⟨HCC.out.virg q (by rw[HSS.out,<-HZS.out];exact hq),?_,fun x hx=> ?_⟩)
                  · have h1:=HCC.out.chg.size
                    rw[HSS.out,<-HZS.out]at h1;exact Nat.le_trans h1 hq
                  · have h1:=HCC.out.lt x hx
                    rw[HSS.out,<-HZS.out]at h1;omega
                have HCF : Hid (Cb W wr T T9 b s9 ((g, cur, 3) :: [raB w9.heap.size b id M C S ring lazy wp (.slice (some ⟨w9.heap.size + 1 + 1, 0, none⟩) M M) (.pointer none), stB (w9.heap.size + 1 + 1) (-1) M, waB b M wp rp, rgB rp ring, geB W.heap.size M C S])) := HCE.out.add hcur (HCC.out.virg g (by rw [HSS.out, <- HZS.out]; exact hg0)) (by
                    have h1:=HCC.out.chg.size
                    rw[HSS.out,<-HZS.out]at h1
                    exact Nat.le_trans h1 hg0)
                have HCU:Hid (∀i:Nat,i<M+1->cur[i]?=some (.int .i64 (ordOf M i))):=fun i hi=>(hcells i hi).trans (ordCells_at M (M+1) i hi)
                have hmf:∀(fn:Fn) (first cap:Array Value) (w:World),(Instr.makeFunc fn first cap).run Tryz.prog w=.ok (.func fn first cap) w:=fun _ _ _ _=>rfl
                have HCG:Hid (Cb W (wr.alloc (.cells #[.func (.func 46) #[.pointer (some ⟨w9.heap.size,0,none⟩)] #[],.func (.func 47) #[.pointer (some ⟨b,0,none⟩)] #[]] 48)) T T9 b s9 ((wr.heap.size,#[.func (.func 46) #[.pointer (some ⟨w9.heap.size,0,none⟩)] #[],.func (.func 47) #[.pointer (some ⟨b,0,none⟩)] #[]],48)::((g,cur,3):: [raB w9.heap.size b id M C S ring lazy wp (.slice (some ⟨w9.heap.size+1+1,0,none⟩) M M) (.pointer none),stB (w9.heap.size+1+1) (-1) M,waB b M wp rp,rgB rp ring,geB W.heap.size M C S]))):=HCF.out.push _ _;clear ho hbw hcur hcells HO HB HCE HCF HCC HSS HZS hg0 hzs;obtain⟨fz,hfz⟩:∃fz,fz=wr.heap.size:=⟨_,rfl⟩;rw[<-hfz]at HCG;go_wp2;rw[<-hfz];clear hfz;have hmst:stB (w9.heap.size+1+1) (-1) M∈((fz,#[.func (.func 46) #[.pointer (some ⟨w9.heap.size,0,none⟩)] #[],.func (.func 47) #[.pointer (some ⟨b,0,none⟩)] #[]],48)::(g,cur,3):: [raB w9.heap.size b id M C S ring lazy wp (.slice (some ⟨w9.heap.size+1+1,0,none⟩) M M) (.pointer none),stB (w9.heap.size+1+1) (-1) M,waB b M wp rp,rgB rp ring,geB W.heap.size M C S]):=by simp
                have hmra:raB w9.heap.size b id M C S ring lazy wp (.slice (some ⟨w9.heap.size+1+1,0,none⟩) M M) (.pointer none)∈((fz,#[.func (.func 46) #[.pointer (some ⟨w9.heap.size,0,none⟩)] #[],.func (.func 47) #[.pointer (some ⟨b,0,none⟩)] #[]],48)::(g,cur,3):: [raB w9.heap.size b id M C S ring lazy wp (.slice (some ⟨w9.heap.size+1+1,0,none⟩) M M) (.pointer none),stB (w9.heap.size+1+1) (-1) M,waB b M wp rp,rgB rp ring,geB W.heap.size M C S]):=by simp
                go_loopw [10,139] (fun a q w'=>a=.pointer (some ⟨w9.heap.size,0,none⟩)/\∃j:Nat,j≤2/\q=.int .i64 j/\∃T' s,Cb W w' T T' b s ((fz,#[.func (.func 46) #[.pointer (some ⟨w9.heap.size,0,none⟩)] #[],.func (.func 47) #[.pointer (some ⟨b,0,none⟩)] #[]],48)::(g,cur,3):: [raB w9.heap.size b id M C S ring lazy wp (.slice (some ⟨w9.heap.size+1+1,0,none⟩) M M) (.pointer none),stB (w9.heap.size+1+1) (-1) M,waB b M wp rp,rgB rp ring,geB W.heap.size M C S])/\Blank M C S ring s (K+min j 1*(M+1)) (1+(j-1)*(M+1))) (fun _ q _=>2-(intOf q).toNat);case atStart=>exact⟨rfl,0,Nat.zero_le _,rfl,T9,s9,HCG.out,by simpa using HS9.out⟩
                case round=>
                  obtain⟨rfl,j,hj,rfl,T2,s2,hc2,hs2⟩:=hrel;clear HCG HS9 hmf;rcases (show j=0\/j=1\/j=2 by omega)with rfl|rfl|rfl
                  · have HC2:=Lib.hid hc2
                    have hs2':Blank M C S ring s2 K 1:=by simpa using hs2
                    have HS2:=Lib.hid hs2';have e0:wr.cell? ⟨fz,0,none⟩=some (.func (.func 46) #[.pointer (some ⟨w9.heap.size,0,none⟩)] #[]):=(hc2.get 0 rfl).cell 0;clear hc2 hs2 hs2';rw[show((0:Nat):Int)=0 from rfl];go_wp2;try rw[show((M+1:Nat):Int)=(M:Int)+1 by omega]
                    go_loopw [10,145] (fun a q w'=>a=.pointer (some ⟨w9.heap.size,0,none⟩)/\∃i:Nat,i≤M+1/\q=.int .i64 i/\∃T' s,Cb W w' T T' b s ((fz,#[.func (.func 46) #[.pointer (some ⟨w9.heap.size,0,none⟩)] #[],.func (.func 47) #[.pointer (some ⟨b,0,none⟩)] #[]],48)::(g,cur,3):: [raB w9.heap.size b id M C S ring lazy wp (.slice (some ⟨w9.heap.size+1+1,0,none⟩) M M) (.pointer none),stB (w9.heap.size+1+1) (-1) M,waB b M wp rp,rgB rp ring,geB W.heap.size M C S])/\Blank M C S ring s (K+i) 1) (fun _ q _=>M+1-(intOf q).toNat);case atStart=>exact⟨rfl,0,Nat.zero_le _,rfl,T2,s2,HC2.out,HS2.out⟩
                    case round=>
                      obtain⟨rfl,i,hi,rfl,T3,s3,hc3,hs3⟩:=hrel;have HC3:=Lib.hid hc3;have HS3:=Lib.hid hs3;by_cases hi2:i<M+1
                      · have him:(i:Int)<(M:Int)+1:=by omega
                        have e1:wr.cell? ⟨g,i,none⟩=some (.int .i64 (ordOf M i)):=((hc3.get 1 rfl).cell i).trans (HCU.out i hi2);have HIB:Hid (i≤M):=Nat.le_of_lt_succ hi2;have hkm1:K+i≤80000:=by omega
                        clear hc3 hs3
                        go_wp2_with (first
                          |(go_at_call 46;(with_reducible refine(HTE.out _ T3 s3 (K+i) 1 _ _ _ _ i HIB.out hkm1 hmst hmra HC3.out HS3.out).mono ?_);rintro e w4 ⟨rfl,T4,s4,hc4,hs4⟩;have HC4:=Lib.hid hc4;have HS4:=Lib.hid hs4;clear hc4 hs4))
                        go_roundw;case rel=>exact⟨rfl,i+1,hi2,by go_num,T4,s4,HC4.out,HS4.out⟩
                        case measure=>simp[intOf];omega
                      · obtain rfl:i=M+1:=by omega
                        clear hc3 hs3;go_wp2;go_roundw;case rel=>exact⟨rfl,1,by omega,by go_num,T3,s3,HC3.out,by simpa using HS3.out⟩
                        case measure=>simp[intOf]
                  · have HC2:=Lib.hid hc2
                    have hs2':Blank M C S ring s2 (K+(M+1)) 1:=by simpa using hs2
                    have HS2:=Lib.hid hs2';have e0:wr.cell? ⟨fz,1,none⟩=some (.func (.func 47) #[.pointer (some ⟨b,0,none⟩)] #[]):=(hc2.get 0 rfl).cell 1;clear hc2 hs2 hs2';rw[show((1:Nat):Int)=1 from rfl];go_wp2;try rw[show((M+1:Nat):Int)=(M:Int)+1 by omega]
                    go_loopw [10,145] (fun a q w'=>a=.pointer (some ⟨w9.heap.size,0,none⟩)/\∃i:Nat,i≤M+1/\q=.int .i64 i/\∃T' s,Cb W w' T T' b s ((fz,#[.func (.func 46) #[.pointer (some ⟨w9.heap.size,0,none⟩)] #[],.func (.func 47) #[.pointer (some ⟨b,0,none⟩)] #[]],48)::(g,cur,3):: [raB w9.heap.size b id M C S ring lazy wp (.slice (some ⟨w9.heap.size+1+1,0,none⟩) M M) (.pointer none),stB (w9.heap.size+1+1) (-1) M,waB b M wp rp,rgB rp ring,geB W.heap.size M C S])/\Blank M C S ring s (K+(M+1)) (1+i)) (fun _ q _=>M+1-(intOf q).toNat);case atStart=>exact⟨rfl,0,Nat.zero_le _,rfl,T2,s2,HC2.out,HS2.out⟩
                    case round=>
                      obtain⟨rfl,i,hi,rfl,T3,s3,hc3,hs3⟩:=hrel;have HC3:=Lib.hid hc3;have HS3:=Lib.hid hs3;by_cases hi2:i<M+1
                      · have him:(i:Int)<(M:Int)+1:=by omega
                        have e1:wr.cell? ⟨g,i,none⟩=some (.int .i64 (ordOf M i)):=((hc3.get 1 rfl).cell i).trans (HCU.out i hi2);have HIB:Hid (i≤M):=Nat.le_of_lt_succ hi2;have hkm2:K+(M+1)≤80000:=by omega
                        have hkm3:1+i≤1000:=by omega
                        clear hc3 hs3
                        go_wp2_with (first
                          |(go_at_call 47;(with_reducible refine(HFL.out _ T3 s3 (K+(M+1)) (1+i) _ i HIB.out hkm2 hkm3 HC3.out HS3.out).mono ?_);rintro e w4 ⟨rfl,T4,s4,hc4,hs4⟩;have HC4:=Lib.hid hc4;have HS4:=Lib.hid hs4;clear hc4 hs4))
                        go_roundw;case rel=>exact⟨rfl,i+1,hi2,by go_num,T4,s4,HC4.out,HS4.out⟩
                        case measure=>simp[intOf];omega
                      · obtain rfl:i=M+1:=by omega
                        clear hc3 hs3;go_wp2;go_roundw;case rel=>exact⟨rfl,2,by omega,by go_num,T3,s3,HC3.out,by simpa using HS3.out⟩
                        case measure=>simp[intOf]
                  · have hs2':Blank M C S ring s2 (K+(M+1)) (1+(M+1)):=by simpa using hs2
                    have HS2:=Lib.hid hs2';have HC2:=Lib.hid hc2;obtain⟨c0,c1,c2⟩:wr.cell? ⟨W.heap.size,0,none⟩=some (.int .i64 M)/\wr.cell? ⟨W.heap.size,1,none⟩=some (.int .i64 C)/\wr.cell? ⟨W.heap.size,2,none⟩=some (.int .i64 S):=⟨(hc2.get 6 rfl).cell 0,(hc2.get 6 rfl).cell 1,(hc2.get 6 rfl).cell 2⟩;have HNW:=Lib.hid (HRN.out wr T2 s2 _ _ _ wp rp hc2 hs2' (by simp) (by simp));clear hc2 hs2 hs2'
                    go_wp2_with (first
                      | (go_at_call 48; (with_reducible refine HNW.out.mono ?_); rintro e w20 ⟨q, fg, rfl, hq, hfg, hr20, hb20⟩
                         have H20:Hid (Cb W w20 T T2 b s2 [raB w9.heap.size b id M C S ring lazy wp (.slice (some ⟨w9.heap.size+1+1,0,none⟩) M M) (.pointer none),stB (w9.heap.size+1+1) (-1) M]):=(HC2.out.below hb20).sub (by simp)
                         have f13:w20.cell? ⟨w9.heap.size,13,none⟩=some (.pointer none):=(H20.out.get 0 rfl).cell 13
                         have f13z:w20.frozen? ⟨w9.heap.size,13,none⟩=false:=(H20.out.get 0 rfl).free 13
                         have H21:Hid (Cb W (w20.setCell ⟨w9.heap.size,13,none⟩ (.pointer (some ⟨q,0,none⟩))) T T2 b s2 [raB w9.heap.size b id M C S ring lazy wp (.slice (some ⟨w9.heap.size+1+1,0,none⟩) M M) (.pointer (some ⟨q,0,none⟩)),stB (w9.heap.size+1+1) (-1) M]):=H20.out.set (fun x hx=>by simp only [List.mem_cons,List.not_mem_nil,or_false]at hx;subst hx;dsimp only;omega) 13 _
                         have R21:Hid (RwIn (w20.setCell ⟨w9.heap.size,13,none⟩ (.pointer (some ⟨q,0,none⟩))) T2 ⟨b,q,wp,rp,fg⟩ (RS.made M C S ring lazy s2) none (.slice none 0 0) []):=hr20.boxed (H20.out.get 0 rfl) (H20.out.box _ List.mem_cons_self).2.1 (by decide) (by decide) (by decide) (by decide) (by decide) (by decide) (Chg.setCell (S:=fun p=>p=w9.heap.size) (Chg.refl _ _) ⟨w9.heap.size,13,none⟩ (.inl rfl) _)
                         have HMK:=Lib.hid (ar_mark R21.out (-1) (ap:=w9.heap.size) (stg:=w9.heap.size+1+1) (id:=id) (ev:=1) (sf:=1) (ring:=ring) (lazy:=lazy) (H21.out.get 0 rfl) (H21.out.get 1 rfl) HG.out)
                         have HQF:Hid (W.heap.size≤q/\W.heap.size≤fg):=⟨Nat.le_trans HC2.out.chg.size hq,Nat.le_trans HC2.out.chg.size hfg⟩
                         clear c0 c1 c2 hr20 hb20 hq hfg)
                      |(go_at_call 49;(with_reducible refine HMK.out.mono ?_);rintro e w22 ⟨rfl,hr22,hc22⟩;have HR22:=Lib.hid hr22;have HC22:=Lib.hid hc22;clear hr22 hc22 f13 f13z))
                    go_ret2;have ra:=H21.out.get 0 rfl;have rs:=H21.out.get 1 rfl;have hr:=R21.out
                    have H22 := H21.out.grow HC22.out (fun p hp => by
                      have k1:=HQF.out.1
                      have k2:=HQF.out.2
                      have k3:=(HC2.out.box (waB b M wp rp) (by simp)).2.2
                      have k4:=(HC2.out.box (rgB rp ring) (by simp)).2.2
                      rcases hp with rfl|rfl|rfl|rfl
                      · exact ⟨hr.tq, k1, fun x hx => by
                          simp only [List.mem_cons,List.not_mem_nil,or_false]at hx
                          rcases hx with rfl|rfl
                          · exact(Zaw hr.rw ra (by decide)).symm
                          · exact(Zaw hr.rw rs (by decide)).symm⟩
                      · exact ⟨hr.tw, k3, fun x hx => by
                          simp only [List.mem_cons,List.not_mem_nil,or_false]at hx
                          rcases hx with rfl|rfl
                          · exact(Zaw hr.wal ra (by decide)).symm
                          · exact(Zaw hr.wal rs (by decide)).symm⟩
                      · exact ⟨hr.tr, k4, fun x hx => by
                          simp only [List.mem_cons,List.not_mem_nil,or_false]at hx
                          rcases hx with rfl|rfl
                          · exact(Zaw hr.ring ra (by decide)).symm
                          · exact(Zaw hr.ring rs (by decide)).symm⟩
                      · exact ⟨hr.tf, k2, fun x hx => by
                          simp only [List.mem_cons,List.not_mem_nil,or_false]at hx
                          rcases hx with rfl|rfl
                          · exact(Zaw hr.fr ra (by decide)).symm
                          · exact(Zaw hr.fr rs (by decide)).symm⟩)
                    have hrr:=HR22.out;have hre:({RS.made M C S ring lazy s2 with fr:=frOf (-1)}:RS)=RS.made M C S ring lazy s2:=by
                      rw[frOf_none];rfl
                    rw[hre]at hrr;have b0:=H22.box _ List.mem_cons_self;have b1:=H22.box _ (List.mem_cons_of_mem _ List.mem_cons_self);exact⟨w9.heap.size,w9.heap.size+1+1,⟨b,q,wp,rp,fg⟩,T2,s2,rfl,rfl,hrr,b0.1,b1.1,b0.2.1,b1.2.1,by rw[<-hP,<-hK];exact HS2.out,⟨b0.2.2,b1.2.2,HQF.out.1,(HC2.out.box (waB b M wp rp) (by simp)).2.2,(HC2.out.box (rgB rp ring) (by simp)).2.2,HQF.out.2⟩,H22.tags,H22.chg⟩
end Go.Proofs.YtmemlkmnhcealaaGreat
