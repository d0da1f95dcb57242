/- The rows laws' beginning: whether there is too much to do. -/
import Derived.Test.YtebmephdnjccjaaGreatRlA
import Derived.Test.YtebmephdnjccjaaGreatMrg8
import Derived.Test.YtebmephdnjccjaaGreatMrg31
set_option linter.unusedVariables false
set_option maxRecDepth 100000
set_option maxHeartbeats 16000000
namespace Go.Proofs.YtebmephdnjccjaaGreat
open Go.RowKit
theorem putsFull {w:World} {a:Option Addr} {n c:Nat} {us:List (Int×List UInt8)} (h:PutSeg w (.slice a n c) us) (hl:0<us.length):∃b o,a=some ⟨b,o,none⟩/\b<w.heap.size/\∀j (h:j<us.length),w.cell? ⟨b,o+j*2,none⟩=some (.int .i64 us[j].1)/\∃x,w.cell? ⟨b,o+j*2+1,none⟩=some x/\Seg w x us[j].2:=by
 obtain⟨a',c',h1,h2,h3,h4⟩:=h;simp only [Value.slice.injEq]at h1;obtain⟨rfl,rfl,rfl⟩:=h1;rcases h4 with e|e
 ·rw[e]at hl
  exact absurd hl (by simp)
 ·exact e
theorem putsLen {w:World} {v:Value} {us:List (Int×List UInt8)} (h:PutSeg w v us) (j:Nat) (hj:j<us.length):(us[j]'hj).2.length≤140737488355328:=by
 obtain⟨a',c',h1,h2,h3,h4⟩:=h;have:=h3 _ (List.getElem_mem hj);omega
theorem patsLen {w:World} {v:Value} {us:List Pat} (h:PSeg w v us) (j:Nat) (hj:j<us.length):(us[j]'hj).d.length≤140737488355328:=by
 obtain⟨a',c',h1,h2,h3,h4⟩:=h;have:=h3 _ (List.getElem_mem hj);omega
theorem keepsFull {w:World} {a:Option Addr} {n c:Nat} {ks:List Nat} (h:KSeg w (.slice a n c) ks) (hl:0<ks.length):∃b o,a=some ⟨b,o,none⟩/\b<w.heap.size/\∀j (h:j<ks.length),∃x cc,w.cell? ⟨b,o+j,none⟩=some (.slice x ks[j] cc):=by
 obtain⟨a',c',h1,h2,h3,h4⟩:=h;simp only [Value.slice.injEq]at h1;obtain⟨rfl,rfl,rfl⟩:=h1;rcases h4 with e|e
 ·rw[e]at hl
  exact absurd hl (by simp)
 ·exact e
theorem keepsLen {w:World} {v:Value} {ks:List Nat} (h:KSeg w v ks) (j:Nat) (hj:j<ks.length):(ks[j]'hj)≤140737488355328:=by
 obtain⟨a',c',h1,h2,h3,h4⟩:=h;exact h3 _ (List.getElem_mem hj)
def opsSum (l:List ROp):Nat:=(l.map fun o=>1+o.puts.length+o.pats.length+o.keeps.length).sum
theorem opsSum_succ (l:List ROp) (k:Nat) (h:k<l.length):opsSum (l.take (k+1))=opsSum (l.take k)+(1+l[k].puts.length+l[k].pats.length+l[k].keeps.length):=by
 unfold opsSum;rw[List.take_succ_eq_append_getElem h,List.map_append,List.sum_append];simp
structure FewOps (m c s:Int) (l:List ROp):Prop where
 few:l.length≤5000
 sum:opsSum l≤20000
 blocks:geoIs m c s=true->s*c*(m-1)*(l.length+1)≤1048576
theorem geo_small {m c s:Int} (h:geoIs m c s=true):0≤s*c*(m-1)/\s*c*(m-1)≤61440:=by
 obtain⟨g1,g2,g3,g4,g5,g6⟩:=(geoIs_iff m c s).1 h;obtain⟨b1,b2⟩:=geo_bounds h;have p1:0≤s*c*(m-1):=Int.mul_nonneg b1 (by omega);have p2:s*c*(m-1)≤4096*15:=Int.mul_le_mul b2 (by omega) (by omega) (by omega);exact⟨p1,by omega⟩
theorem r14_much (m c s:Int) (v:Value) (l:List ROp) (w:World) (hv:ROpSeg w v l):
  Calls Tryz.prog 9 #[geo m c s,v] w fun e w'=>∃r:Bool,e=.returned (.bool r)/\(r=false->FewOps m c s l)/\Below w.heap.size w w':=by
 have hk:=Lib.hid (fun W=>ref_check m c s W);have hb0:Below w.heap.size w (w.alloc (.cells #[.int .i64 m,.int .i64 c,.int .i64 s] 23)):=(Below.refl _ _).alloc (Nat.le_refl _) _;have ha0:At (w.alloc (.cells #[.int .i64 m,.int .i64 c,.int .i64 s] 23)) w.heap.size #[.int .i64 m,.int .i64 c,.int .i64 s] 23:=At.new _ _ _;have hv0:=hv.below hb0;obtain⟨va,vc,rfl⟩:=hv.shape;have hlen:=hv.few;have HV:=Lib.hid hv0;have HB0:=Lib.hid hb0;have HA0:=Lib.hid ha0;have hlt0:=ha0.lt;have HBL:Hid (geoIs m c s=true->∀W,Calls Tryz.prog 13 #[geo m c s] W fun e w'=>e=.returned (.int .i64 (s*c*(m-1)))/\Below W.heap.size W w'):=fun hg W=>by
  obtain⟨g1,g2,g3,g4,g5,g6⟩:=(geoIs_iff m c s).1 hg;obtain⟨M,rfl⟩:=Int.eq_ofNat_of_zero_le (show 0≤m by omega);obtain⟨C,rfl⟩:=Int.eq_ofNat_of_zero_le (show 0≤c by omega);obtain⟨S,rfl⟩:=Int.eq_ofNat_of_zero_le (show 0≤s by omega);exact ref_blocks M C S W hg
 have HGS:Hid (geoIs m c s=true->0≤s*c*(m-1)/\s*c*(m-1)≤61440):=fun hg=>geo_small hg
 clear hv hv0 hb0 ha0;unfold geoCode geo at*;go_enter Tryz.func9,Tryz.ntmps9;by_cases h5:5000<l.length
 ·go_wp2
  go_ret;exact⟨true,rfl,fun e=>(by cases e),HB0.out⟩
 go_wp2;go_loopw [5,6] (fun n i wr=>∃k N:Nat,k≤l.length/\i=.int .i64 k/\n=.int .i64 N/\opsSum (l.take k)≤N/\N≤1152921504606846976/\Below (w.alloc (.cells #[.int .i64 m,.int .i64 c,.int .i64 s] 23)).heap.size (w.alloc (.cells #[.int .i64 m,.int .i64 c,.int .i64 s] 23)) wr) (fun _ i _=>l.length-(intOf i).toNat);case atStart=>exact⟨0,0,by omega,rfl,rfl,by simp[opsSum],by omega,Below.refl _ _⟩
 case round=>
  obtain⟨k,N,hk',rfl,rfl,hsum,hN,hbel⟩:=hrel;have HBE:=Lib.hid hbel;have HSU:=Lib.hid hsum;clear hsum;by_cases hgo:k<l.length/\N≤20000
  ·as_aux_lemma=>
    obtain⟨hkl,hN3⟩:=hgo;have K1:Hid (k+1≤l.length):=hkl;have HS1:=Lib.hid (opsSum_succ l k hkl);obtain⟨b,off,rfl,hlt,hx⟩:=(HV.out.below hbel).full (by omega);obtain⟨x0,x1,x2,x3,⟨u4,x4,q4⟩,⟨u5,x5,q5⟩,u6,x6,q6⟩:=hx k hkl;obtain⟨pa,pc,rfl⟩:=q4.shape;obtain⟨qa,qc,rfl⟩:=q5.shape;obtain⟨ka,kc,rfl⟩:=q6.shape;have hU:=q4.few';have hP:=q5.few;have HQ4:=Lib.hid q4;have HQ5:=Lib.hid q5;have HQ6:=Lib.hid q6;have hK:(l[k]'hkl).keeps.length≤140737488355328:=by
     obtain⟨_,_,_,h2,_⟩:=q6;exact h2
    clear x0 x1 x2 x3 q4 q5 q6 hx hbel;generalize (l[k]'hkl).puts=us at*;generalize (l[k]'hkl).pats=ps at*;generalize (l[k]'hkl).keeps=ks at*;have HC:Hid (∀W,Below wr.heap.size wr W->W.cell? ⟨b,off+k*7+4,none⟩=some (.slice pa us.length pc)/\W.cell? ⟨b,off+k*7+5,none⟩=some (.slice qa ps.length qc)/\W.cell? ⟨b,off+k*7+6,none⟩=some (.slice ka ks.length kc)):=fun W hW=>⟨(hW.cell hlt).trans x4,(hW.cell hlt).trans x5,(hW.cell hlt).trans x6⟩
    go_wp2;go_quiet (fail);obtain⟨N1,hN1⟩:∃N1:Nat,(N:Int)+(1+(us.length:Int)+(ps.length:Int)+(ks.length:Int))=N1:=⟨N+(1+us.length+ps.length+ks.length),by omega⟩;rw[hN1];have HN1:Hid (N1=N+(1+us.length+ps.length+ks.length)):=by show _=_;omega
    have hN1b:N1≤1000000000000000:=by omega
    have hbw:Below wr.heap.size wr (wr.drewN nq):=below_drewN (Below.refl _ _) _;have HBW:Hid (Below (w.alloc (.cells #[.int .i64 m,.int .i64 c,.int .i64 s] 23)).heap.size (w.alloc (.cells #[.int .i64 m,.int .i64 c,.int .i64 s] 23)) (wr.drewN nq)):=below_drewN HBE.out _;obtain⟨y4,y5,y6⟩:=HC.out _ hbw;have HQ4:=Lib.hid (HQ4.out.below hbw);have HQ5:=Lib.hid (HQ5.out.below hbw);have HQ6:=Lib.hid (HQ6.out.below hbw);have hlt:b<(wr.drewN nq).heap.size:=hlt;clear hN1 hbw x4 x5 x6;generalize wr.drewN nq=wo at*;go_wp2;go_loopw [5,7] (fun n j wr2=>∃(j2 N2:Nat),j2≤us.length/\j=.int .i64 j2/\n=.int .i64 N2/\N1≤N2/\N2≤1152921504606846976/\wr2=wo) (fun _ j _=>us.length-(intOf j).toNat);case atStart=>exact⟨0,N1,by omega,rfl,rfl,by omega,by omega,rfl⟩
    case round=>
     obtain⟨j2,N2,hj2,rfl,rfl,hlo2,hhi2,hw2⟩:=hrel;rw[hw2];clear hw2;by_cases hg2:j2<us.length/\N2≤20000
     ·as_aux_lemma=>
       obtain⟨hjl,hn2⟩:=hg2;have K2:Hid (j2+1≤us.length):=hjl;obtain⟨eb,eo,rfl,helt,hex⟩:=putsFull HQ4.out (by omega);obtain⟨_,ex,hec,hes⟩:=hex j2 hjl;obtain⟨ea,ec,rfl⟩:=hes.shape;have hel:=putsLen HQ4.out j2 hjl;generalize (us[j2]'hjl).2.length=B at*;have hdv:((B/64:Nat):Int)=(B:Int)/64:=by omega
       go_wp2;exact⟨⟨j2+1,N2+B/64,K2.out,by go_num,by rw[Int.natCast_add,hdv],by omega,by omega,(by first|rfl|trivial)⟩,by simp[intOf];omega⟩
     ·have hway2:(j2<us.length/\decide ((N2:Int)≤20000)=false/\20000<N2)\/((us.length:Int)≤(j2:Int)):=by
       by_cases h:j2<us.length
       ·exact .inl ⟨h,decide_eq_false (by omega),by omega⟩
       ·exact .inr (by omega)
      rcases hway2 with ⟨hl2,hd2,hb2⟩|hl2
      all_goals
       go_wp2
       go_loopw [5,8] (fun n j wr2=>∃(j4 N4:Nat),j4≤ps.length/\j=.int .i64 j4/\n=.int .i64 N4/\N2≤N4/\N4≤1152921504606846976/\wr2=wo) (fun _ j _=>ps.length-(intOf j).toNat)
       case atStart=>exact⟨0,N2,by omega,rfl,rfl,by omega,by omega,rfl⟩
       case round=>
        obtain⟨j4,N4,hj4,rfl,rfl,hlo4,hhi4,hw4⟩:=hrel;rw[hw4];clear hw4;by_cases hg4:j4<ps.length/\N4≤20000
        ·first
          |exact absurd hg4.2 (by omega)
          |(as_aux_lemma=>
            obtain⟨hjl,hn2⟩:=hg4
            have K2:Hid (j4+1≤ps.length):=hjl
            obtain⟨eb,eo,rfl,helt,hex⟩:=HQ5.out.full (by omega)
            obtain⟨-,-,ex,hec,hes⟩:=hex j4 hjl
            obtain⟨ea,ec,rfl⟩:=hes.shape
            have hel:=patsLen HQ5.out j4 hjl
            generalize (ps[j4]'hjl).d.length=B at*
            have hdv:((B/64:Nat):Int)=(B:Int)/64:=by omega
            go_wp2
            exact⟨⟨j4+1,N4+B/64,K2.out,by go_num,by rw[Int.natCast_add,hdv],by omega,by omega,(by first|rfl|trivial)⟩,by simp[intOf];omega⟩)
        ·have hway4:(j4<ps.length/\decide ((N4:Int)≤20000)=false/\20000<N4)\/((ps.length:Int)≤(j4:Int)):=by
          by_cases h:j4<ps.length
          ·exact .inl ⟨h,decide_eq_false (by omega),by omega⟩
          ·exact .inr (by omega)
         rcases hway4 with ⟨hl4,hd4,hb4⟩|hl4
         all_goals
          go_wp2
          go_loopw [5,9] (fun n j wr2=>∃(j6 N6:Nat),j6≤ks.length/\j=.int .i64 j6/\n=.int .i64 N6/\N4≤N6/\N6≤1152921504606846976/\wr2=wo) (fun _ j _=>ks.length-(intOf j).toNat)
          case atStart=>exact⟨0,N4,by omega,rfl,rfl,by omega,by omega,rfl⟩
          case round=>
           obtain⟨j6,N6,hj6,rfl,rfl,hlo6,hhi6,hw6⟩:=hrel;rw[hw6];clear hw6;by_cases hg6:j6<ks.length/\N6≤20000
           ·first
             |exact absurd hg6.2 (by omega)
             |(as_aux_lemma=>
               obtain⟨hjl,hn2⟩:=hg6
               have K2:Hid (j6+1≤ks.length):=hjl
               obtain⟨eb,eo,rfl,helt,hex⟩:=keepsFull HQ6.out (by omega)
               obtain⟨ex,ecc,hec⟩:=hex j6 hjl
               have hel:=keepsLen HQ6.out j6 hjl
               generalize (ks[j6]'hjl)=B at*
               go_wp2
               exact⟨⟨j6+1,N6+B,K2.out,by go_num,by rw[Int.natCast_add],by omega,by omega,(by first|rfl|trivial)⟩,by simp[intOf];omega⟩)
           ·have hway6:(j6<ks.length/\decide ((N6:Int)≤20000)=false/\20000<N6)\/((ks.length:Int)≤(j6:Int)):=by
             by_cases h:j6<ks.length
             ·exact .inl ⟨h,decide_eq_false (by omega),by omega⟩
             ·exact .inr (by omega)
            rcases hway6 with ⟨hl6,hd6,hb6⟩|hl6
            all_goals
             go_wp2
             exact⟨⟨k+1,N6,K1.out,by go_num,rfl,by have:=HS1.out;have:=HSU.out;have:=HN1.out;omega,by omega,HBW.out⟩,by simp[intOf];omega⟩
  ·by_cases hbig:20000<N
   ·have hbd:decide ((20000:Int)<(N:Int))=true:=decide_eq_true (by omega)
    have hbd2:decide ((N:Int)≤20000)=false:=decide_eq_false (by omega);clear hgo;by_cases hkl:k<l.length
    ·as_aux_lemma=>
      go_wp2;go_ret;exact⟨true,rfl,fun e=>(by cases e),below_then HB0.out HBE.out⟩
    ·have hkl':(l.length:Int)≤(k:Int):=by omega
     as_aux_lemma=>
      go_wp2;go_ret;exact⟨true,rfl,fun e=>(by cases e),below_then HB0.out HBE.out⟩
   ·obtain rfl:k=l.length:=by omega
    clear hgo;have HN3:Hid (opsSum l≤20000):=by have:=HSU.out;rw[List.take_length]at this;show _≤_;omega
    have hbd:decide ((20000:Int)<(N:Int))=false:=decide_eq_false (by omega);have ha:=HA0.out.below hbel hlt0;have c0:=ha.cell 0;have c1:=ha.cell 1;have c2:=ha.cell 2;have hltr:=ha.lt;have HAR:=Lib.hid ha;clear ha;by_cases hg:geoIs m c s=true
    ·as_aux_lemma=>
      have HK0:Hid (∀W,Calls Tryz.prog 41 #[.agg #[.int .i64 m,.int .i64 c,.int .i64 s]] W fun e w'=>e=.returned (.int .i64 0)/\Below W.heap.size W w'):=fun W=>by
       have:=hk.out W;rw[if_pos hg]at this;exact this
      have HBG:Hid (∀W,Calls Tryz.prog 13 #[.agg #[.int .i64 m,.int .i64 c,.int .i64 s]] W fun e w'=>e=.returned (.int .i64 (s*c*(m-1)))/\Below W.heap.size W w'):=HBL.out hg;obtain⟨z1,z2⟩:=HGS.out hg;have HFW:Hid (s*c*(m-1)*((l.length:Int)+1)≤1048576->FewOps m c s l):=fun e=>⟨by omega,HN3.out,fun _=>e⟩
      clear hk HBL HGS;generalize s*c*(m-1)=z at*;have p1:0≤z*((l.length:Int)+1):=Int.mul_nonneg z1 (by omega);have p2:z*((l.length:Int)+1)≤61440*5001:=Int.mul_le_mul z2 (by omega) (by omega) (by omega);by_cases hp:1048576<z*((l.length:Int)+1)
      ·go_wp2_with (first
        |(go_at_call 41;(with_reducible refine(HK0.out _).mono ?_);rintro e w1 ⟨rfl,hb1⟩;clear c0 c1 c2;have ha1:=HAR.out.below hb1 hltr;have c0:=ha1.cell 0;have c1:=ha1.cell 1;have c2:=ha1.cell 2;have hlt1:=ha1.lt;have HB1:=Lib.hid (below_then (below_then HB0.out HBE.out) hb1);clear ha1 hb1)
        |(go_at_call 13;(with_reducible refine(HBG.out _).mono ?_);rintro e w2 ⟨rfl,hb2⟩;have HB2:=Lib.hid (below_then HB1.out hb2);clear hb2))
       go_ret
       exact⟨true,rfl,fun e=>(by cases e),HB2.out⟩
      ·go_wp2_with (first
        |(go_at_call 41;(with_reducible refine(HK0.out _).mono ?_);rintro e w1 ⟨rfl,hb1⟩;clear c0 c1 c2;have ha1:=HAR.out.below hb1 hltr;have c0:=ha1.cell 0;have c1:=ha1.cell 1;have c2:=ha1.cell 2;have hlt1:=ha1.lt;have HB1:=Lib.hid (below_then (below_then HB0.out HBE.out) hb1);clear ha1 hb1)
        |(go_at_call 13;(with_reducible refine(HBG.out _).mono ?_);rintro e w2 ⟨rfl,hb2⟩;have HB2:=Lib.hid (below_then HB1.out hb2);clear hb2))
       go_ret
       exact⟨_,rfl,fun _=>HFW.out (by omega),HB2.out⟩
    ·as_aux_lemma=>
      have HK0:Hid (∀W,Calls Tryz.prog 41 #[.agg #[.int .i64 m,.int .i64 c,.int .i64 s]] W fun e w'=>e=.returned (.int .i64 60)/\Below W.heap.size W w'):=fun W=>by
       have:=hk.out W;rw[if_neg hg]at this;exact this
      clear hk HBL HGS
      go_wp2_with (first
       |(go_at_call 41;(with_reducible refine(HK0.out _).mono ?_);rintro e w1 ⟨rfl,hb1⟩;have HB1:=Lib.hid (below_then (below_then HB0.out HBE.out) hb1);clear hb1))
      go_ret;exact⟨_,rfl,fun _=>⟨by omega,HN3.out,fun e=>absurd e hg⟩,HB1.out⟩
end Go.Proofs.YtebmephdnjccjaaGreat
