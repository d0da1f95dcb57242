/- Several texts in one: RlI, RlG, RlH. -/
import Derived.Test.YtebmephdnjccjaaGreatMrg32
import Derived.Test.YtebmephdnjccjaaGreatRlB
import Derived.Test.YtebmephdnjccjaaGreatMrg5
import Derived.ChangeArms
set_option linter.unusedVariables false
set_option maxRecDepth 100000
set_option maxHeartbeats 16000000
/- What the rows laws share:a law's own words for calls that tell one thing;how rows are made,as an argument brings it. -/
namespace Go.Proofs.YtebmephdnjccjaaGreat
open Go.RowKit Go.ChangeShapes Go.WideShapes Go.ChangeAt Go.Deep
theorem l_sure' {w0 W:World} {T:Nat->Nat} {A:Adr} {R:RS} {V:Nat->Nat->Sec} (h:LAt w0 W T A R V) (hs:R.sure=true):
  Calls Tryz.prog 25 #[.pointer (some ⟨A.wp,0,none⟩)] W fun e w'=>e=.returned (.bool true)/\w'=W:=by
 have:=l_sure h;rw[hs]at this;exact this
theorem l_pending0 {w0 W:World} {T:Nat->Nat} {A:Adr} {R:RS} {V:Nat->Nat->Sec} (h:LAt w0 W T A R V) (hw:R.wait= []):
  Calls Tryz.prog 20 #[.pointer (some ⟨A.q,0,none⟩)] W fun e w'=>e=.returned (.int .i64 0)/\w'=W:=by
 have:=l_pending h;rw[hw]at this;exact this
theorem l_counts' {w0 W:World} {T:Nat->Nat} {A:Adr} {R:RS} {V:Nat->Nat->Sec} (h:LAt w0 W T A R V) {x y z:Int} (h0:R.s.cnt 0=x) (h1:R.s.cnt 1=y) (h2:R.s.cnt 2=z):
  Calls Tryz.prog 26 #[.pointer (some ⟨A.b,0,none⟩)] W fun e w'=>e=.returned (.agg #[.int .i64 x,.int .i64 y,.int .i64 z])/\Below W.heap.size W w':=by
 have:=l_counts h;unfold cntVal at this;rw[h0,h1,h2]at this;exact this
theorem seg_of_row {w:World} {B n:Nat} {v:Value} {l:List UInt8} (h:w.ownsRow B 5 1 v n (ucells l)):Seg w v l:=by
 have hl:l.length=n:=by
  have:=h.1;rw[ucells_length]at this;omega
 subst hl;exact seg_of_owns (base:=B) h
theorem same_eq {u v:Value} {l:List UInt8} {w:World} (hl:l.length≤9223372036854775807) (hu:Seg w u l) (hv:Seg w v l):
  Calls Tryz.prog 15 #[u,v] w fun e w'=>e=.returned (.bool true)/\Below w.heap.size w w':=
 (same_any u v l l w hl hl hu hv).mono fun e w' ⟨x1,x2⟩=>⟨by rw[x1];simp,x2⟩
theorem ByteRow.seg {W:World} {T:Nat->Nat} {v:Value} {l:List UInt8} (h:ByteRow W T v l):Seg W v l:=by
 obtain⟨⟨B,ho⟩,-⟩:=h;exact seg_of_row ho
def allOf (R:RS) (V:Nat->Nat->Sec):List UInt8:=flatD (blkOf R.M R.C V) R.blocks
theorem allOf_length {R:RS} {V:Nat->Nat->Sec} (h:Good R V):(allOf R V).length=128*R.blocks:=flatD_length (fun k hk=>blk_len h hk)
theorem allOf_few {R:RS} {V:Nat->Nat->Sec} (h:Good R V):(allOf R V).length≤7864320:=by
 rw[allOf_length h];have:=blocks_few h.geo;omega
theorem allOf_same {R R':RS} (V:Nat->Nat->Sec) (h:Same R R'):allOf R' V=allOf R V:=by
 unfold allOf RS.blocks;rw[h.M,h.C,h.S]
theorem l_reads {w0 W:World} {T:Nat->Nat} {A:Adr} {R:RS} {V:Nat->Nat->Sec} {a b:Nat} (h:LAt w0 W T A R V) (hb:Bud R a b) (hin:Within (a+2000000) b) {m c s:Int} (hm:m=R.M) (hc:c=R.C) (hs:s=R.S):
  Calls Tryz.prog 24 #[.pointer (some ⟨A.q,0,none⟩),.agg #[.int .i64 m,.int .i64 c,.int .i64 s]] W fun e w'=>∃x xn xc R',e=.returned (.tuple #[.slice x xn xc,.bool true])/\ByteRow w' T (.slice x xn xc) (allOf R V)/\LAt w0 w' T A R' V/\Stp W T A w' T/\Bud R' (a+1044480) b/\Same R R'/\R'.wait=R.wait/\R'.sure=R.sure/\R'.used=R.used:=by
 subst hm;subst hc;subst hs;refine(r14_reads h hb hin).mono ?_;rintro e w' ⟨v,c,rfl,k1,k2,k3,k4⟩;obtain⟨x,xc,rfl⟩:=ownsRow_shape k1;have hst:Stp W T A w' T:=Stp.ofBay k3;refine⟨x,_,xc,_,rfl,⟨⟨W.heap.size,?_⟩,fun g hg=>h.virg g (k1.lt g hg).1⟩,k2,hst,(hb.ticks c).mono (by omega) (by omega),Same.ticks R c,rfl,rfl,rfl⟩;rw[allOf_length h.good];exact k1
theorem made_of_trod' {H:Type} {enc:TypeId×Value->H} {P:Program} {W:World} {T base:Nat} {v:Value} {d:DataW H} {ps:List MemPlace} {f0 f1 f2 f3 g0 g1 g2:Field}
  (hT:P.underlying T=some (.struct #[f0,f1,f2,f3])) (ce:P.cellsOf T=6) (o0:f0.offset=0) (o1:f1.offset=3) (o2:f2.offset=4) (o3:f3.offset=5)
  (c0:P.cellsOf f0.type=3) (c1:P.cellsOf f1.type=1) (c2:P.cellsOf f2.type=1) (c3:P.cellsOf f3.type=1)
  (t0:P.underlying f0.type=some (.struct #[g0,g1,g2])) (t1:P.underlying f1.type=some (.int .i64)) (t2:P.underlying f2.type=some .bool) (t3:P.underlying f3.type=some (.int .i64))
  (p0:g0.offset=0) (p1:g1.offset=1) (p2:g2.offset=2) (d0:P.cellsOf g0.type=1) (d1:P.cellsOf g1.type=1) (d2:P.cellsOf g2.type=1)
  (u0:P.underlying g0.type=some (.int .i64)) (u1:P.underlying g1.type=some (.int .i64)) (u2:P.underlying g2.type=some (.int .i64))
  (hv:Value.okWide P W .any base T v) (h:DataW.Trod enc P W 0 (fun _=>true) true T v d ps):
  ∃(m c s ring:Int) (lazy:Bool) (more:Int),v=madeVal m c s ring lazy more:=by
 obtain⟨cs,rfl,hs⟩:=okWide_struct hT hv;obtain⟨fuel,hf⟩:=h;obtain⟨xs,n,-,hxy,hlen,hxl,hall⟩:=DataW.trod_struct hT hf;have hx:xs.length=4:=hxl;rw[ce]at hs;have h0:=hall 0 f0 rfl;have h1:=hall 1 f1 rfl;have h2:=hall 2 f2 rfl;have h3:=hall 3 f3 rfl;rw[o0,c0]at h0;rw[o1,c1]at h1;rw[o2,c2]at h2;rw[o3,c3]at h3;obtain⟨l⟩:=cs;match xs,hx,l,hs with
 | [y0,y1,y2,y3],_,[a,b,c,e,f,g],_=>
  simp[Value.cells]at h0 h1 h2 h3;obtain⟨zs,k,-,hzy,hzlen,hzl,hzall⟩:=DataW.trod_struct t0 h0;have hz:zs.length=3:=hzl;have k0:=hzall 0 g0 rfl;have k1:=hzall 1 g1 rfl;have k2:=hzall 2 g2 rfl;rw[p0,d0]at k0;rw[p1,d1]at k1;rw[p2,d2]at k2;match zs,hz with
  | [z0,z1,z2],_=>
   simp at k0 k1 k2;obtain⟨m,e0,-⟩:=DataW.trod_int u0 k0;obtain⟨cc,e1,-⟩:=DataW.trod_int u1 k1;obtain⟨ss,e2,-⟩:=DataW.trod_int u2 k2;obtain⟨ring,e3,-⟩:=DataW.trod_int t1 h1;obtain⟨lazy,e4,-⟩:=DataW.trod_bool t2 h2;obtain⟨more,e5,-⟩:=DataW.trod_int t3 h3;simp at e0 e1 e2 e3 e4 e5;subst e0;subst e1;subst e2;subst e3;subst e4;subst e5;exact⟨m,cc,ss,ring,lazy,more,rfl⟩
theorem made_of_trod {H:Type} {enc:TypeId×Value->H} {W:World} {base:Nat} {v:Value} {d:DataW H} {ps:List MemPlace}
  (hv:Value.okWide Tryz.prog W .any base 25 v) (h:DataW.Trod enc Tryz.prog W 0 (fun _=>true) true 25 v d ps):∃(m c s ring:Int) (lazy:Bool) (more:Int),v=madeVal m c s ring lazy more:=
 made_of_trod' Tryz.underlying25 (by kernel_rfl) rfl rfl rfl rfl (by kernel_rfl) (by kernel_rfl) (by kernel_rfl) (by kernel_rfl) Tryz.underlying23 Tryz.underlying3 Tryz.underlying4 Tryz.underlying3
  rfl rfl rfl (by kernel_rfl) (by kernel_rfl) (by kernel_rfl) Tryz.underlying3 Tryz.underlying3 Tryz.underlying3 hv h
theorem may_nat {m c s ring:Int} (h:mayIs m c s ring=true):∃M C S r:Nat,m=M/\c=C/\s=S/\ring=r/\geoIs M C S=true/\5≤r/\r≤2048:=by
 unfold mayIs at h;rw[Bool.and_eq_true,Bool.and_eq_true,decide_eq_true_eq,decide_eq_true_eq]at h;obtain⟨hg,h5,h6⟩:=h;obtain⟨g1,g2,g3,g4,g5,g6⟩:=(geoIs_iff m c s).1 hg;obtain⟨M,rfl⟩:=Int.eq_ofNat_of_zero_le (show 0≤m by omega);obtain⟨C,rfl⟩:=Int.eq_ofNat_of_zero_le (show 0≤c by omega);obtain⟨S,rfl⟩:=Int.eq_ofNat_of_zero_le (show 0≤s by omega);obtain⟨r,rfl⟩:=Int.eq_ofNat_of_zero_le (show 0≤ring by omega);exact⟨M,C,S,r,rfl,rfl,rfl,rfl,hg,by omega,by omega⟩
structure RnAt (w0 W:World) (T:Nat->Nat) (A:Adr) (R:RS) (V:Nat->Nat->Sec) (M C S ring:Nat) (lazy:Bool) (a b:Nat):Prop where
 at':LAt w0 W T A R V
 bud:Bud R a b
 M:R.M=M
 C:R.C=C
 S:R.S=S
 size:R.size=ring
 lazy:R.lazy=lazy
theorem RnAt.geo {w0 W:World} {T:Nat->Nat} {A:Adr} {R:RS} {V:Nat->Nat->Sec} {M C S ring:Nat} {lazy:Bool} {a b:Nat} (h:RnAt w0 W T A R V M C S ring lazy a b) {R':RS} (s:Same R R'):R'.M=M/\R'.C=C/\R'.S=S/\R'.size=ring/\R'.lazy=lazy:=⟨s.M.trans h.M,s.C.trans h.C,s.S.trans h.S,s.size.trans h.size,s.lazy.trans h.lazy⟩
theorem Begun.bud {M C S ring:Nat} {lazy:Bool} {down:Int} {R:RS} (h:Begun M C S ring lazy down R) (hr:ring≤2048):Bud R 10000 3000:=by
 refine⟨by rw[h.c0];omega,by rw[h.c1];omega,by rw[h.c2];omega,by rw[h.next];omega,ring+1,h.small,by rw[h.wait];simp;omega⟩
theorem Begun.run {M C S ring:Nat} {lazy:Bool} {down:Int} {R:RS} {w0 W:World} {T:Nat->Nat} {A:Adr} {V:Nat->Nat->Sec} (h:Begun M C S ring lazy down R) (hr:ring≤2048) (hl:LAt w0 W T A R V):RnAt w0 W T A R V M C S ring lazy 10000 3000:=
 ⟨hl,h.bud hr,h.M',h.C',h.S',h.size,h.lazy'⟩
theorem RnAt.mk' {w0 W W':World} {T T':Nat->Nat} {A:Adr} {R R':RS} {V V':Nat->Nat->Sec} {M C S ring:Nat} {lazy:Bool} {a b a' b':Nat} (h:RnAt w0 W T A R V M C S ring lazy a b) (hl:LAt w0 W' T' A R' V') (hb:Bud R' a' b') (s:Same R R'):RnAt w0 W' T' A R' V' M C S ring lazy a' b':=by
 obtain⟨h1,h2,h3,h4,h5⟩:=h.geo s;exact⟨hl,hb,h1,h2,h3,h4,h5⟩
def spentA (k:Nat):Nat:=10000+10000000*k
def spentB (l:List ROp) (k:Nat):Nat:=3000+8*opsSum (l.take k)+4*k
theorem opsSum_le (l:List ROp):∀k,opsSum (l.take k)≤opsSum l:=fun k=>by
 have h:l=l.take k++l.drop k:=(List.take_append_drop k l).symm;unfold opsSum;conv=>rhs;rw[h]
 rw[List.map_append,List.sum_append];omega
theorem spent_in {m c s:Int} {l:List ROp} (h:FewOps m c s l) {k:Nat} (hk:k≤l.length):Within (spentA k+10000000) (spentB l k+4):=by
 have h1:=h.few;have h2:=h.sum;have h3:=opsSum_le l k;unfold spentA spentB;exact⟨by omega,by omega⟩
theorem spentB_succ {l:List ROp} {k:Nat} (hk:k<l.length):spentB l k+8*(l[k]'hk).puts.length+4≤spentB l (k+1):=by
 unfold spentB;rw[opsSum_succ l k hk];omega
theorem spentA_succ (k:Nat):spentA (k+1)=spentA k+10000000:=by unfold spentA;omega
open Go.RowKit
def kR (s:BaySt):RS:=RS.made 3 1 2 10 false s
def kU (x:Sec):List (Int×List UInt8):= [(0,x)]
theorem k_rows (s:BaySt) (x:Sec):batRows (kR s) (kU x)= [0]:=by kernel_rfl
theorem k_pats (s:BaySt) (x:Sec):batPats (kR s) (kU x) 0= [⟨0,0,x⟩]:=by kernel_rfl
theorem k_most (x:Sec):mostIn 3 (2*1) (tabAll 3 1 (kU x))=2:=by kernel_rfl
theorem k_dn (s:BaySt) (m r:Nat):(kR s).dn m r=false:=by
 unfold RS.dn kR RS.made;simp
theorem k_z (s:BaySt):zOf (kR s) 0= -1:=by
 rcases zOf_is (kR s) 0 with ⟨k,-,-,h,-⟩|⟨h,-⟩
 ·have h':(kR s).dn k 0=true:=h
  rw[k_dn]at h';cases h'
 ·exact h
theorem k_rds (s:BaySt) (x:Sec):batRds (kR s) (kU x) 0= [1]:=by
 unfold batRds;rw[k_z,k_pats];kernel_rfl
theorem k_cnt (s:BaySt) (x:Sec):batCnt (kR s) (kU x) 1=1:=by
 unfold batCnt;rw[k_rows];show(([0]:List Nat).map fun r=>(kR s).rcs r (batRds (kR s) (kU x) r)).sum=1
 simp only [List.map_cons,List.map_nil,List.sum_cons,List.sum_nil];rw[k_rds];unfold RS.rcs;simp only [List.map_cons,List.map_nil,List.sum_cons,List.sum_nil];unfold RS.rc;rw[k_dn];rfl
theorem k_outs (s:BaySt) (x newp:Sec):outPats (fun m=>(kR s).dn m 0) [⟨0,0,x⟩] 2 0 newp= [⟨0,0,x⟩,⟨2,0,newp⟩]:=by
 rw[show(fun m=>(kR s).dn m 0)=fun _=>false from funext fun m=>k_dn s m 0];kernel_rfl
theorem k_out (s:BaySt) (V:Nat->Nat->Sec) (x:Sec):∃newp,batOut (kR s) V (kU x) 0= [⟨0,0,x⟩,⟨2,0,newp⟩]:=by
 unfold batOut outOf;rw[k_pats,show parOf (kR s).M (kR s).C 0=2 by kernel_rfl];exact⟨_,k_outs s x _⟩
theorem k_all (s:BaySt) (V:Nat->Nat->Sec) (x:Sec):∃newp,batAll (kR s) V (kU x) 1= [⟨0,0,x⟩,⟨2,0,newp⟩]:=by
 obtain⟨newp,h⟩:=k_out s V x;refine⟨newp,?_⟩;unfold batAll;rw[k_rows];show(([0]:List Nat).flatMap (batOut (kR s) V (kU x)))=_
 simp only [List.flatMap_cons,List.flatMap_nil,List.append_nil];exact h
theorem placed_cnt {R R1:RS} (h:PlacedR R R1) (L:List PK) (hn:L.Nodup) (hm:∀k,k∈L↔∃p∈R.wait,pkOf p=k) (hu:∀k∈L,R.upAt k=true):R1.s.cnt 1=R.s.cnt 1+(L.length:Nat):=by
 obtain⟨s',rfl,L',h1,h2,h3⟩:=h;have hp:L'.Perm L:=(List.perm_ext_iff_of_nodup h1 hn).2 fun k=>(h2 k).trans (hm k).symm
 show s'.cnt 1=_
 rw[h3.c1,List.filter_eq_self.2 (fun k hk=>hu k (hp.mem_iff.1 hk)),hp.length_eq]
structure KnownRes (R':RS):Prop where
 c0:R'.s.cnt 0=1
 c1:R'.s.cnt 1=18
 c2:R'.s.cnt 2=3
 sealed:R'.sealed=true
 wait:R'.wait= []
 M:R'.M=3
 C:R'.C=1
 S:R'.S=2
 fr:R'.fr=fun _=> -1
 small:R'.s.small 100
 next:R'.next≤10
theorem known_ok (x:Sec) (hx:x.length=128):BatchOk 3 1 2 (kU x):=by
 refine⟨by decide,by show 1≤256;omega,fun u hu=> ?_,fun u hu=> ?_⟩
 ·unfold kU at hu
  rw[List.mem_singleton]at hu;subst hu;exact⟨by show(0:Int)≤0;omega,by show(0:Int)<2*1*(3-1);omega⟩
 ·unfold kU at hu
  rw[List.mem_singleton]at hu;subst hu;exact hx
theorem known_res {s:BaySt} {x:Sec} {ps:List Pat} {R1 R4 R':RS} {sec:List UInt8} (hm:Made0 3 1 2 10 s) (hx:x.length=128) (h:Batched (kR s) zeroV (kU x) ps R1 R4 R' sec):KnownRes R':=by
 have hg:Good (kR s) zeroV:=good_none (by decide) (by omega) (by omega) hm;have ok:=known_ok x hx;have e1:R1=kR s:=by
  rcases h.room with ⟨-,e⟩|⟨hr,-⟩
  ·exact e
  ·exfalso
   have hr':10-0<2*mostIn 3 (2*1) (tabAll 3 1 (kU x))+1:=hr;rw[k_most]at hr';omega
 obtain⟨-,hpats,hahead,hslen,hfin⟩:=h;subst e1;rw[k_rows]at hpats hahead;have hpats':ps.Perm (batAll (kR s) zeroV (kU x) 1):=hpats;have hahead':PlacedR (({kR s with s:=(kR s).s.ticks 0 (batCnt (kR s) (kU x) 1)}:RS).logged ps) R4:=hahead;obtain⟨newp,hall⟩:=k_all s zeroV x;have hlen:ps.length=2:=by rw[hpats'.length_eq,hall];rfl
 have hlg:Loggable ps:=bat_loggable hg ok (by rw[k_rows];simp) (by rw[k_rows];exact hpats');rw[k_cnt]at hahead';have g2:=hg.ticks 1;obtain⟨g3,l0,l1,l2,l3,-⟩:=g2.logged hlg;have hw3:(({kR s with s:=(kR s).s.ticks 0 1}:RS).logged ps).wait= []:=rfl;have p1:=placed_cnt hahead' [] List.nodup_nil (fun k=>⟨fun e=>(by cases e),fun ⟨p,hp,_⟩=>(by rw[hw3]at hp;cases hp)⟩) (fun k hk=>by cases hk);obtain⟨g4,hw4⟩:=g3.placed hahead';obtain⟨-,p0,-,p2,p3,s4,e4⟩:=hahead'.facts g3.ready;have q0:({kR s with s:=(kR s).s.ticks 0 1}:RS).s.cnt 0=1:=by
  show(s.ticks 0 1).cnt 0=1
  rw[cnt_ticks,hm.c0];rfl
 have q1:({kR s with s:=(kR s).s.ticks 0 1}:RS).s.cnt 1=11:=by
  show(s.ticks 0 1).cnt 1=11
  rw[cnt_ticks_ne _ _ _ _ (by decide),hm.c1];rfl
 have q2:({kR s with s:=(kR s).s.ticks 0 1}:RS).s.cnt 2=1:=by
  show(s.ticks 0 1).cnt 2=1
  rw[cnt_ticks_ne _ _ _ _ (by decide),hm.c2]
 have r0:R4.s.cnt 0=1:=by rw[p0,l0,q0]
 have r1:R4.s.cnt 1=15:=by rw[p1,l1,q1,hlen];rfl
 have r2:R4.s.cnt 2=2:=by rw[p2,l2,q2];rfl
 have hM4:R4.M=3:=by rw[e4];rfl
 have hC4:R4.C=1:=by rw[e4];rfl
 have hS4:R4.S=2:=by rw[e4];rfl
 have hfr4:R4.fr=fun _=> -1:=by rw[e4];rfl
 have hsz4:R4.size=10:=by rw[e4];rfl
 have hus4:R4.used=0:=by rw[e4];rfl
 have hnx4:R4.next=1:=by rw[e4];rfl
 have hlz4:R4.lazy=false:=by rw[e4];rfl
 have ok4:BatchOk (kR s).M (kR s).C (kR s).S (kU x):=ok;have hdn4:∀m r,R4.dn m r=(kR s).dn m r:=fun m r=>by unfold RS.dn;rw[hfr4];rfl
 have hperm:ps.Perm (batAll (kR s) zeroV (kU x) (batRows (kR s) (kU x)).length):=by rw[k_rows];exact hpats'
 obtain⟨g5,hp5⟩:=g4.seal (V':=vNext (kR s) zeroV (kU x)) hw4 hslen (cost:=2*ps.length+1) (ps:=ps) (by rw[hsz4,hus4];omega) (by rw[hnx4];omega)
  (fun m r hm' hr=>by rw[hM4]at hm';rw[hS4,hC4]at hr;exact vNext_len hg ok4 hm' hr)
  (fun r hr i hi=>by rw[hM4];rw[hS4,hC4]at hr;exact vNext_even hg ok4 hr i hi)
  (fun p hp=>by rw[hM4,hS4,hC4];exact(batAll_is hg ok4 (hperm.mem_iff.1 hp)).1)
  (fun p hp=>(batAll_is hg ok4 (hperm.mem_iff.1 hp)).2)
  (fun m r hm' hr hw hd=>by
   rw[hM4]at hm'
   rw[hS4,hC4]at hr
   rw[hdn4]at hd
   exact vNext_stays hg ok4 hperm hm' hr hw hd)
  (by omega)
 have c5:=cost_seal hp5;obtain⟨g6,h61,h62,-,h64,-⟩:=g5.end' hfin;have hlz5:(R4.sealedR (2*ps.length+1) sec ps).lazy=false:=hlz4;rcases hfin with ⟨hl,-⟩|⟨-,hpl⟩
 ·rw[hlz5]at hl
  cases hl
 have hsu5:(R4.sealedR (2*ps.length+1) sec ps).sure=false:=rfl;have hsyn:(R4.sealedR (2*ps.length+1) sec ps).synced={R4.sealedR (2*ps.length+1) sec ps with s:=(R4.sealedR (2*ps.length+1) sec ps).s.dried (R4.sealedR (2*ps.length+1) sec ps).M,sure:=true}:=by
  unfold RS.synced;rw[hsu5];rfl
 obtain⟨-,d2⟩:=dried_fit g5.fit (R4.sealedR (2*ps.length+1) sec ps).M (by rw[g5.n];omega) (.inl rfl);have y0:(R4.sealedR (2*ps.length+1) sec ps).synced.s.cnt 0=1:=by
  rw[hsyn];show((R4.sealedR (2*ps.length+1) sec ps).s.dried _).cnt 0=1
  rw[d2.c0,hp5.c0,r0]
 have y1:(R4.sealedR (2*ps.length+1) sec ps).synced.s.cnt 1=16:=by
  rw[hsyn];show((R4.sealedR (2*ps.length+1) sec ps).s.dried _).cnt 1=16
  rw[d2.c1,hp5.c1,r1];rfl
 have y2:(R4.sealedR (2*ps.length+1) sec ps).synced.s.cnt 2=3:=by
  rw[hsyn];show((R4.sealedR (2*ps.length+1) sec ps).s.dried _).cnt 2=3
  rw[d2.c2,hp5.c2,r2];rfl
 have hws:(R4.sealedR (2*ps.length+1) sec ps).synced.wait=ps:=by rw[hsyn];rfl
 have hfs:(R4.sealedR (2*ps.length+1) sec ps).synced.fr=fun _=> -1:=by rw[hsyn];exact hfr4
 obtain⟨-,z0,-,z2,z3,s6,e6⟩:=hpl.facts g5.synced.ready
 have z1:=placed_cnt hpl [pkOf ⟨0,0,x⟩,pkOf ⟨2,0,newp⟩] (by rw[List.nodup_cons];exact⟨fun e=>by rw[List.mem_singleton]at e;exact absurd (congrArg (fun k:PK=>k.1.val) e) (by show ¬(0=2);omega),List.nodup_cons.2 ⟨by simp,List.nodup_nil⟩⟩) (fun k=>by
  rw[hws]
  constructor
  ·intro hk
   rcases List.mem_cons.1 hk with e|hk
   ·exact⟨⟨0,0,x⟩,hpats'.mem_iff.2 (by rw[hall];simp),e.symm⟩
   ·rw[List.mem_singleton]at hk
    exact⟨⟨2,0,newp⟩,hpats'.mem_iff.2 (by rw[hall];simp),hk.symm⟩
  ·rintro ⟨p,hp,rfl⟩
   have hp':=hpats'.mem_iff.1 hp
   rw[hall]at hp'
   rcases List.mem_cons.1 hp' with e|hp'
   ·rw[e];exact List.mem_cons_self
   ·rw[List.mem_singleton]at hp'
    rw[hp']
    exact List.mem_cons_of_mem _ List.mem_cons_self) (fun k _=>by
  unfold RS.upAt RS.dn
  rw[hfs]
  rfl)
 have hcs:Cost (kR s) R' 139264 2000 24 2000 1:=((((hg.cost_ticks 1).trans (g2.cost_logged hlg)).trans (g3.cost_placed hahead')).trans c5).trans (g5.cost_synced.trans (g5.synced.cost_placed hpl))|>.mono (by omega) (by rw[hw3,hws,hlen];show 0+2*2+0+1+(0+2)≤2000;omega) (by omega) (by rw[hw3,hws,hlen];show 0+2*2+0+1+(0+2)≤2000;omega) (by omega)
 have hcs2:∀m,(kR s).s.small m->R'.s.small (m+7):=fun m hm=>by
  have:=(((((hg.cost_ticks 1).trans (g2.cost_logged hlg)).trans (g3.cost_placed hahead')).trans c5).trans (g5.cost_synced.trans (g5.synced.cost_placed hpl))).small m hm;rw[hw3,hws,hlen]at this;exact this.mono (by show m+(0+2*2+0+1+(0+2))≤m+7;omega)
 refine⟨by rw[z0,y0],by rw[z1,y1];rfl,by rw[z2,y2],by rw[<-h64];rfl,?_,?_,?_,?_,?_,?_,?_⟩
 ·rw[e6]
 ·exact hcs.M
 ·exact hcs.C
 ·exact hcs.S
 ·exact hcs.fr
 ·exact(hcs2 _ hm.small).mono (by omega)
 ·have:=hcs.next
  have e:(kR s).next=1:=rfl;omega
theorem Good.mark {R:RS} {V:Nat->Nat->Sec} (h:Good R V) (hf:R.fr=fun _=> -1) (k:Nat):Good (R.marked k true) V:=by
 have hd:∀m r,R.dn m r=false:=fun m r=>by unfold RS.dn;rw[hf];simp
 have hd':∀m r,(R.marked k true).dn m r=decide (m=k):=fun m r=>by
  unfold RS.dn RS.marked;rw[hf];by_cases e:m=k
  ·simp[e]
  ·simp[e]
 refine⟨h.geo,h.n,h.fit.sub fun j hj=> ?_,h.len,h.even,fun r hr i j hi hj e1 e2=> ?_,fun m r hm hr hw _=>h.sec m r hm hr hw (hd m r),⟨h.jrn.z1,h.jrn.z2,h.jrn.tl,h.jrn.us,h.jrn.ep,h.jrn.nx,h.jrn.nx2⟩,h.inp,h.wv,h.few⟩
 ·rcases hj with hj|⟨hj,r,hr,-⟩
  ·exact .inl hj
  ·exact .inr ⟨hj,r,hr,hd j r⟩
 ·have e1':(R.marked k true).dn i r=true:=e1
  have e2':(R.marked k true).dn j r=true:=e2;rw[hd',decide_eq_true_eq]at e1' e2';rw[e1',e2']
open Go.RowKit
theorem rows_sealed {A:Adr} {R:RS} {vw:Value} (w:World) (h:At w A.q (rwCells A R vw) 93):
  Calls Tryz.prog 48 #[.pointer (some ⟨A.q,0,none⟩)] w fun e w'=>e=.returned (.bool R.sealed)/\w'=w:=by
 have c8:w.cell? ⟨A.q,8,none⟩=some (.bool R.sealed):=h.cell 8;clear h;go_enter Tryz.func48,Tryz.ntmps48;go_wp2;go_ret;exact⟨rfl,rfl⟩
theorem l_mark {w0 W:World} {T:Nat->Nat} {A:Adr} {R:RS} {V:Nat->Nat->Sec} (h:LAt w0 W T A R V) (hf:R.fr=fun _=> -1) (k:Nat) (hk:k<R.M):
  Calls Tryz.prog 32 #[.pointer (some ⟨A.q,0,none⟩),.int .i64 k,.bool true,.int .i64 0] W fun e w'=>e=.returned (.tuple #[])/\LAt w0 w' T A (R.marked k true) V/\Stp W T A w' T:=by
 obtain⟨lg,vw,X,hr⟩:=h.rw;refine(rows_mark hr k true hk).mono ?_;rintro e w' ⟨rfl,h1,h2⟩;have hst:Stp W T A w' T:=⟨fun _ _=>rfl,h2.mono fun q e=>.inr e⟩;obtain⟨k4,k5⟩:=h.next hst;exact⟨rfl,⟨⟨lg,vw,X,h1⟩,h.good.mark hf k,h.idle,k4,k5⟩,hst⟩
theorem seg_of_at128 {w:World} {g:Nat} {l:List UInt8} (h:At w g (ucells l).toArray 5) (hl:l.length=128):Seg w (.slice (some ⟨g,0,none⟩) 128 128) l:=by
 have:=seg_of_at (l:=l) (cap:=128) h (by omega) (fun j hj=>by unfold ucells;rw[List.getElem?_toArray,List.getElem?_map,List.getElem?_eq_getElem hj];rfl);rw[hl]at this;exact this
theorem seg_of_128 {w:World} {B:Nat} {v:Value} {l:List UInt8} (h:w.ownsRow B 5 1 v 128 (ucells l)):Seg w v l:=by
 have hl:l.length=128:=by
  have:=h.1;rw[ucells_length]at this;omega
 refine seg_of_owns (base:=B) ?_;rw[hl];exact h
def knownS:Sec:=zsec.set 7 5
theorem knownS_length:knownS.length=128:=by simp[knownS,zsec]
theorem knownS_blk (V:Nat->Nat->Sec) (s:BaySt) (hg:Good (kR s) V):blkOf 3 1 (vNext (kR s) V (kU knownS)) 0=knownS:=by
 have h:=vNext_blk hg (known_ok knownS knownS_length) (b:=0) (by show 0<2*1*(3-1);omega);exact h
theorem puts_one {w:World} {g p:Nat} {x:Sec} (h:At w p #[.int .i64 0,.slice (some ⟨g,0,none⟩) 128 128] 74) (hg:At w g (ucells x).toArray 5) (hx:x.length=128):PutSeg w (.slice (some ⟨p,0,none⟩) 1 1) (kU x):=by
 refine⟨some ⟨p,0,none⟩,1,rfl,by show 1≤140737488355328;omega,fun u hu=> ?_,.inr ⟨p,0,rfl,h.lt,fun j hj=> ?_⟩⟩
 ·unfold kU at hu
  rw[List.mem_singleton]at hu;subst hu;show x.length≤_
  omega
 ·have hj0:j=0:=by
   have:(kU x).length=1:=rfl;omega
  subst hj0;exact⟨h.cell 0,_,h.cell 1,seg_of_at128 hg hx⟩
theorem r14_known (W:World):Calls Tryz.prog 10 #[] W fun e w'=>e=.returned (.bool true)/\Below W.heap.size W w':=by
 have hg:geoIs ((3:Nat):Int) ((1:Nat):Int) ((2:Nat):Int)=true:=by decide
 have hmade:=formed_made (M:=3) (C:=1) (S:=2) (ring:=10) (by omega) (by omega) (by omega);have HSM:Hid (∀w,Calls Tryz.prog 42 #[] w fun e w'=>e=.returned (.agg #[.int .i64 3,.int .i64 1,.int .i64 2])/\Below w.heap.size w w'):=fun w=>r14_small w
 have HSZ:Hid (∀w,Calls Tryz.prog 44 #[.agg #[.int .i64 3,.int .i64 1,.int .i64 2],.int .i64 10] w fun e w'=>∃v,e=.returned v/\w'.ownsRow (w.heap.size+1) 3 1 v (rszL 3 2 10).length (kcells (rszL 3 2 10))/\Below w.heap.size w w'):=fun w=>r14_sizes 3 1 2 10 w hg (by omega)
 have HBN:Hid (∀w v B,w.ownsRow B 3 1 v (rszL 3 2 10).length (kcells (rszL 3 2 10))->Calls Tryz.prog 43 #[v] w fun e w'=>∃b,e=.returned (.tuple #[.pointer (some ⟨b,0,none⟩),.int .u16 0])/\BayMade w (rBay 3 (2*1) 10) b w'):=fun w v B hv=>bay_new (rszL 3 2 10) v B w hv (by rw[rszL_length];omega) (by rw[rszL_length];omega) (fun x hx=>(rsz_ok (by omega) (by omega) x hx).2)
 have HFO:Hid (∀w T b,BayAt w T b (rBay 3 (2*1) 10)->Calls Tryz.prog 45 #[.pointer (some ⟨b,0,none⟩),.int .i64 3,.int .i64 10,.int .u64 1] w fun e w'=>∃wp rp T',e=.returned (.tuple #[.pointer (some ⟨wp,0,none⟩),.int .u16 0])/\w.heap.size≤wp/\w.heap.size≤rp/\T' wp=0/\T' rp=0/\
   BayAt w' T' b (formed (rBay 3 (2*1) 10) 3 10 1)/\(∀q,q<w.heap.size->T' q=T q)/\Chg (fun q=>T q≠0) w w'/\At w' wp (walCells b 3 1 rp 1 true none 0) 110/\RingAt w' rp 10 0 0):=fun w T b hb=>by
  refine wal_format hb 3 10 1 (rBay_fit (by omega) (by omega)) (by rw[rBay_n];omega) trivial ?_ (by omega) (by omega) (by omega) ?_ ?_ (fresh_small _ _)
  ·show 2+10≤(fun j=>if j<3 then 1+2*1 else 2+10) 3
   decide
  ·show(0:Int)≤_;omega
  ·show(0:Int)≤_;omega
 have HRN:Hid (∀w T b wp rp,BayAt w T b (formed (rBay 3 (2*1) 10) 3 10 1)->At w wp (walCells b 3 1 rp 1 true none 0) 110->RingAt w rp 10 0 0->T wp=0->T rp=0->Calls Tryz.prog 46 #[.pointer (some ⟨b,0,none⟩),.agg #[.int .i64 3,.int .i64 1,.int .i64 2],.pointer (some ⟨wp,0,none⟩),.bool false] w fun e w'=>∃q fg,e=.returned (.tuple #[.pointer (some ⟨q,0,none⟩),.int .u16 0])/\w.heap.size≤q/\w.heap.size≤fg/\RwIn w' T ⟨b,q,wp,rp,fg⟩ (kR (formed (rBay 3 (2*1) 10) 3 10 1)) none (.slice none 0 0) []/\Below w.heap.size w w'):=fun w T b wp rp hb hw hr tw tr=>rows_new hb 3 1 2 hg hmade.n wp rp 1 1 10 0 0 true false none hw hr tw tr
 have HGK:Hid (Good (kR (formed (rBay 3 (2*1) 10) 3 10 1)) zeroV):=good_none hg (by omega) (by omega) hmade;have HSE:Hid (∀w,Calls Tryz.prog 36 #[.int .u8 5] w fun e w'=>e=.returned (.slice (some ⟨w.heap.size,0,none⟩) 128 128)/\At w' w.heap.size (ucells knownS).toArray 5/\Below w.heap.size w w'):=fun w=>r14_sector 5 w
 generalize hs0:formed (rBay 3 (2*1) 10) 3 10 1=s0 at*;have HCN:Hid (∀w T A,LAt W w T A (kR s0) zeroV->Calls Tryz.prog 26 #[.pointer (some ⟨A.b,0,none⟩)] w fun e w'=>e=.returned (.agg #[.int .i64 0,.int .i64 11,.int .i64 1])/\Below w.heap.size w w'):=fun w T A h=>by
  have:=l_counts h;unfold cntVal at this;have e0:(kR s0).s.cnt 0=0:=hmade.c0;have e1:(kR s0).s.cnt 1=11:=hmade.c1;have e2:(kR s0).s.cnt 2=1:=hmade.c2;rw[e0,e1,e2]at this;exact this
 have HWR:Hid (∀w T A g p,LAt W w T A (kR s0) zeroV->At w p #[.int .i64 0,.slice (some ⟨g,0,none⟩) 128 128] 74->At w g (ucells knownS).toArray 5->Calls Tryz.prog 16 #[.pointer (some ⟨A.q,0,none⟩),.slice (some ⟨p,0,none⟩) 1 1] w fun e w'=>e=.returned (.agg #[.int .i64 0,.int .u16 0])/\∃T' R' V',LAt W w' T' A R' V'/\Stp w T A w' T'/\KnownRes R'/\blkOf 3 1 V' 0=knownS):=fun w T A g p h hp hgb=>by
  obtain⟨lg,vw,X,hr⟩:=h.rw;have hpW:∀W',Chg (fun q=>q=A.q) w W'->PutSeg W' (.slice (some ⟨p,0,none⟩) 1 1) (kU knownS):=fun W' hc=>puts_one (hp.mod hc (at_ne hp hr.rw (by decide))) (hgb.mod hc (at_ne hgb hr.rw (by decide))) knownS_length
  have hfit:2*mostIn (kR s0).M ((kR s0).S*(kR s0).C) (tabAll (kR s0).M (kR s0).C (kU knownS))+1≤(kR s0).size:=by
   have:=k_most knownS;show 2*mostIn 3 (2*1) (tabAll 3 1 (kU knownS))+1≤10
   rw[this];omega
  refine(rows_write hr h.good _ (kU knownS) hpW (known_ok knownS knownS_length) (by simp[kU]) hfit (by show 1≤1000000000000;omega) ?_ ?_ ?_ ?_).mono ?_
  ·show s0.cnt 0≤_;rw[hmade.c0];omega
  ·show s0.cnt 1≤_;rw[hmade.c1];omega
  ·show s0.cnt 2≤_;rw[hmade.c2];omega
  ·exact hmade.small.mono (by omega)
  ·rintro e w' ⟨rfl,ps,R1,R4,R',sec,lg',vw',X',hbt,T',k1,k2,k3⟩
   have hst:Stp w T A w' T':=⟨k2,k3⟩;obtain⟨k4,k5⟩:=h.next hst;have hres:=hbt.res h.good (known_ok knownS knownS_length) (by simp[kU]) hfit (by show 1≤1000000000000;omega);exact⟨rfl,T',R',_,⟨⟨lg',vw',X',k1⟩,hres.good,hres.done,k4,k5⟩,hst,known_res hmade knownS_length hbt,knownS_blk zeroV s0 h.good⟩
 clear hmade hs0;have HC2:Hid (∀w T A R V,LAt W w T A R V->KnownRes R->Calls Tryz.prog 26 #[.pointer (some ⟨A.b,0,none⟩)] w fun e w'=>e=.returned (.agg #[.int .i64 1,.int .i64 18,.int .i64 3])/\Below w.heap.size w w'):=fun w T A R V h hk=>by
  have:=l_counts h;unfold cntVal at this;rw[hk.c0,hk.c1,hk.c2]at this;exact this
 have HMK:Hid (∀w T A R V,LAt W w T A R V->KnownRes R->Calls Tryz.prog 32 #[.pointer (some ⟨A.q,0,none⟩),.int .i64 0,.bool true,.int .i64 0] w fun e w'=>e=.returned (.tuple #[])/\LAt W w' T A (R.marked 0 true) V/\Stp w T A w' T):=fun w T A R V h hk=>l_mark h hk.fr 0 (by rw[hk.M];omega)
 have HRD:Hid (∀w T A R V,LAt W w T A (R.marked 0 true) V->KnownRes R->blkOf 3 1 V 0=knownS->Calls Tryz.prog 14 #[.pointer (some ⟨A.q,0,none⟩),.int .i64 0] w fun e w'=>∃v c,e=.returned (.tuple #[v,.agg #[.int .i64 0,.int .u16 0]])/\w'.ownsRow w.heap.size 5 1 v 128 (ucells knownS)/\LAt W w' T A {R.marked 0 true with s:=R.s.ticks 0 c} V/\Chg (fun q=>T q≠0) w w'):=fun w T A R V h hk hb=>by
  have hbud:Bud (R.marked 0 true) 100 100:=⟨by show R.s.cnt 0≤_;rw[hk.c0];omega,by show R.s.cnt 1≤_;rw[hk.c1];omega,by show R.s.cnt 2≤_;rw[hk.c2];omega,by show R.next≤_;have:=hk.next;omega,100,hk.small,by show 100+R.wait.length≤100;rw[hk.wait];simp⟩;have e1:(R.marked 0 true).M=3:=hk.M;have e2:(R.marked 0 true).C=1:=hk.C;have e3:(R.marked 0 true).S=2:=hk.S;refine(l_read h hbud ⟨by omega,by omega⟩ 0 (by rw[e1,e2,e3];omega)).mono ?_;rintro e w' ⟨v,c,rfl,-,k1,k2,k3⟩;rw[e1,e2,hb]at k1;exact⟨v,c,rfl,k1,k2,k3⟩
 have HDN:Hid (∀w T A R V c,LAt W w T A {R.marked 0 true with s:=R.s.ticks 0 c} V->KnownRes R->Calls Tryz.prog 47 #[.pointer (some ⟨A.q,0,none⟩),.int .i64 0,.int .i64 1] w fun e w'=>e=.returned (.bool true)/\w'=w):=fun w T A R V c h hk=>by
  obtain⟨lg,vw,X,hr⟩:=h.rw;have:=rows_down 0 1 w hr.rw hr.fr (by show 0<R.M;rw[hk.M];omega);exact this
 have HSL:Hid (∀w T A R V c,LAt W w T A {R.marked 0 true with s:=R.s.ticks 0 c} V->KnownRes R->Calls Tryz.prog 48 #[.pointer (some ⟨A.q,0,none⟩)] w fun e w'=>e=.returned (.bool true)/\w'=w):=fun w T A R V c h hk=>by
  obtain⟨lg,vw,X,hr⟩:=h.rw;have:=rows_sealed w hr.rw;have e:({R.marked 0 true with s:=R.s.ticks 0 c}:RS).sealed=true:=hk.sealed;rw[e]at this;exact this
 have HPE:Hid (∀w T A R V c,LAt W w T A {R.marked 0 true with s:=R.s.ticks 0 c} V->KnownRes R->Calls Tryz.prog 20 #[.pointer (some ⟨A.q,0,none⟩)] w fun e w'=>e=.returned (.int .i64 0)/\w'=w):=fun w T A R V c h hk=>by
  have:=l_pending h;have e:({R.marked 0 true with s:=R.s.ticks 0 c}:RS).wait.length=0:=by show R.wait.length=0;rw[hk.wait];rfl
  rw[e]at this;exact this
 have HSB:Hid (∀u v w,Seg w u knownS->Seg w v knownS->Calls Tryz.prog 15 #[u,v] w fun e w'=>e=.returned (.bool true)/\Below w.heap.size w w'):=fun u v w h1 h2=>(same_any u v knownS knownS w (by rw[knownS_length];omega) (by rw[knownS_length];omega) h1 h2).mono fun e w' ⟨x1,x2⟩=>⟨by rw[x1];simp,x2⟩
 have HTR:Hid (5=5):=rfl;go_enter Tryz.func10,Tryz.ntmps10
 go_wp2_with (first
  |(go_at_call 42;(with_reducible refine(HSM.out _).mono ?_);rintro e w1 ⟨rfl,hb1⟩;have HG1:=Lib.hid (At.new w1 #[.int .i64 3,.int .i64 1,.int .i64 2] 23);have HL1:=Lib.hid (below_then hb1 ((Below.refl w1.heap.size w1).alloc (Nat.le_refl _) (.cells #[.int .i64 3,.int .i64 1,.int .i64 2] 23)));have hw1:=hb1.size;have c0:=HG1.out.cell 0;have c1:=HG1.out.cell 1;have c2:=HG1.out.cell 2;clear hb1)
  |(go_at_call 44;(with_reducible refine(HSZ.out _).mono ?_);rintro e w2 ⟨v2,rfl,hv2,hb2⟩;clear c0 c1 c2;have HG2:=Lib.hid (HG1.out.below hb2 HG1.out.lt);have HL2:=Lib.hid (below_then HL1.out hb2);have HV2:=Lib.hid hv2;obtain⟨xa,xc,rfl⟩:=ownsRow_shape hv2;clear hv2 hb2)
  |(go_at_call 43;(with_reducible refine(HBN.out _ _ _ HV2.out).mono ?_);rintro e w3 ⟨b,rfl,hbm⟩;have HBM:=Lib.hid hbm;have HG3:Hid (At w3 w1.heap.size #[.int .i64 3,.int .i64 1,.int .i64 2] 23):=(by obtain⟨T,-,-,-,h4⟩:=hbm;exact HG2.out.below h4 HG2.out.lt);clear hbm)
  |(go_at_call 45;(obtain⟨T,hba,htz,hbw,hbe⟩:=HBM.out);(with_reducible refine(HFO.out w3 T b hba).mono ?_);rintro e w4 ⟨wp,rp,T4,rfl,hwp,hrp,twp,trp,hba4,htg4,hch4,hwal4,hring4⟩;have HG4:Hid (At w4 w1.heap.size #[.int .i64 3,.int .i64 1,.int .i64 2] 23):=(HG3.out.mod hch4 (fun e=>e (htz _ HG2.out.lt)));have hz2:=HL2.out.size;have hz3:=hbe.size;have HTZ:Hid (∀q,q<W.heap.size->T4 q=0):=(fun q hq=>(htg4 q (by omega)).trans (htz q (by omega)));have HL4:Hid (Below W.heap.size W w4):=((HL2.out.trans (hbe.mono hz2)).trans (hch4.below fun q hq=>⟨by omega,fun e=>e (htz q (by omega))⟩));have HB4:=Lib.hid hba4;have HW4:=Lib.hid hwal4;have HR4:=Lib.hid hring4;have HT4:Hid (T4 wp=0/\T4 rp=0):=⟨twp,trp⟩;have HI4:Hid (W.heap.size≤wp/\W.heap.size≤rp):=⟨by omega,by omega⟩;have c0:=HG4.out.cell 0;have c1:=HG4.out.cell 1;have c2:=HG4.out.cell 2;have hlt4:=HG4.out.lt;clear hba htz hbw hbe hwp hrp twp trp hba4 htg4 hch4 hwal4 hring4)
  |(go_at_call 46;(with_reducible refine(HRN.out w4 T4 b wp rp HB4.out HW4.out HR4.out HT4.out.1 HT4.out.2).mono ?_);rintro e w5 ⟨q,fg,rfl,hq,hfg,hrw,hb5⟩;clear c0 c1 c2;have hz4:=HL4.out.size;have HL5:Hid (LAt W w5 T4 ⟨b,q,wp,rp,fg⟩ (kR s0) zeroV):=(BgAt.lat ⟨hrw,HTZ.out,⟨by show W.heap.size≤q;omega,HI4.out.1,HI4.out.2,by show W.heap.size≤fg;omega⟩,HL4.out.trans (hb5.mono hz4)⟩ HGK.out rfl);clear hq hfg hrw hb5)
  |(go_at_call 26;(with_reducible refine(HC2.out (w9.alloc (.cells #[.int .i64 0,.int .u16 0] 45)) T9 ⟨b,q,wp,rp,fg⟩ R9 V9 HL9.out HK9.out).mono ?_);rintro e w10 ⟨rfl,hb10⟩;have HL10:=Lib.hid ((HL9.out.below hb10).below ((Below.refl w10.heap.size w10).alloc (Nat.le_refl _) (.cells #[.int .i64 1,.int .i64 18,.int .i64 3] 58)));have HX10:=Lib.hid ((HX9.out.below hb10 HX9.out.lt).alloc (.cells #[.int .i64 1,.int .i64 18,.int .i64 3] 58));have HC10:=Lib.hid ((HC9.out.1.below hb10 HC9.out.1.lt).alloc (.cells #[.int .i64 1,.int .i64 18,.int .i64 3] 58));have HD10:=Lib.hid (At.new w10 #[.int .i64 1,.int .i64 18,.int .i64 3] 58);have HU10:Hid (T9 w10.heap.size=0):=(HL9.out.virg _ hb10.size);clear hb10)
  |(go_at_call 26;(with_reducible refine(HCN.out w5 T4 ⟨b,q,wp,rp,fg⟩ HL5.out).mono ?_);rintro e w6 ⟨rfl,hb6⟩;have HL6:=Lib.hid ((HL5.out.below hb6).below ((Below.refl w6.heap.size w6).alloc (Nat.le_refl _) (.cells #[.int .i64 0,.int .i64 11,.int .i64 1] 58)));have HB8:=Lib.hid (At.new w6 #[.int .i64 0,.int .i64 11,.int .i64 1] 58);have HU6:Hid (T4 w6.heap.size=0):=(HL5.out.virg _ hb6.size);have hz6:(w6.alloc (.cells #[.int .i64 0,.int .i64 11,.int .i64 1] 58)).heap.size=w6.heap.size+1:=(size_alloc _ _);clear hb6)
  |(go_at_call 36;(with_reducible refine(HSE.out (w12.alloc (.cells #[.int .i64 0,.int .u16 0] 45))).mono ?_);rintro e w13 ⟨rfl,hs13,hb13⟩;clear a0 a1 a2 a3;rw[size_alloc]at hs13;have HS13:=Lib.hid (seg_of_at128 hs13 knownS_length);have HV13:=Lib.hid (HV12.out.below hb13);have HL13:=Lib.hid (HL12.out.below hb13);have HC13:=Lib.hid (HC12.out.below hb13 HC12.out.lt);have HD13:=Lib.hid (HD12.out.below hb13 HD12.out.lt);clear hs13 hb13)
  |(go_at_call 36;(with_reducible refine(HSE.out (w6.alloc (.cells #[.int .i64 0,.int .i64 11,.int .i64 1] 58))).mono ?_);rintro e w7 ⟨rfl,hs7,hb7⟩;rw[hz6]at hs7;have HL8:=Lib.hid ((HL6.out.below hb7).below ((Below.refl w7.heap.size w7).alloc (Nat.le_refl _) (.cells #[.int .i64 0,.slice (some ⟨w6.heap.size+1,0,none⟩) 128 128] 74)));have HS8:=Lib.hid (hs7.alloc (.cells #[.int .i64 0,.slice (some ⟨w6.heap.size+1,0,none⟩) 128 128] 74));have HP8:=Lib.hid (At.new w7 #[.int .i64 0,.slice (some ⟨w6.heap.size+1,0,none⟩) 128 128] 74);have HB9:=Lib.hid ((HB8.out.below hb7 HB8.out.lt).alloc (.cells #[.int .i64 0,.slice (some ⟨w6.heap.size+1,0,none⟩) 128 128] 74));clear hs7 hb7)
  |(go_at_call 16;(with_reducible refine(HWR.out (w7.alloc (.cells #[.int .i64 0,.slice (some ⟨w6.heap.size+1,0,none⟩) 128 128] 74)) T4 ⟨b,q,wp,rp,fg⟩ (w6.heap.size+1) w7.heap.size HL8.out HP8.out HS8.out).mono ?_);rintro e w9 ⟨rfl,T9,R9,V9,hl9,hs9,hk9,hv9⟩;have HL9:=Lib.hid (hl9.below ((Below.refl w9.heap.size w9).alloc (Nat.le_refl _) (.cells #[.int .i64 0,.int .u16 0] 45)));have HK9:=Lib.hid hk9;have HV9:=Lib.hid hv9;have HC9:Hid (At (w9.alloc (.cells #[.int .i64 0,.int .u16 0] 45)) w6.heap.size #[.int .i64 0,.int .i64 11,.int .i64 1] 58/\T9 w6.heap.size=0):=(by have:=HL8.out.keep hs9 HB9.out HU6.out (by decide) (by decide) (by decide) (by decide);exact⟨this.1.alloc _,this.2⟩);have HX9:=Lib.hid (At.new w9 #[.int .i64 0,.int .u16 0] 45);have HU9:Hid (T9 w9.heap.size=0):=(hl9.virg _ (Nat.le_refl _));clear hl9 hs9 hk9 hv9)
  |(go_at_call 32;(with_reducible refine(HMK.out (w10.alloc (.cells #[.int .i64 1,.int .i64 18,.int .i64 3] 58)) T9 ⟨b,q,wp,rp,fg⟩ R9 V9 HL10.out HK9.out).mono ?_);rintro e w11 ⟨rfl,hl11,hs11⟩;have HL11:=Lib.hid hl11;have HX11:=Lib.hid (HL10.out.keep hs11 HX10.out HU9.out (by decide) (by decide) (by decide) (by decide)).1;have HC11:=Lib.hid (HL10.out.keep hs11 HC10.out HC9.out.2 (by decide) (by decide) (by decide) (by decide)).1;have HD11:=Lib.hid (HL10.out.keep hs11 HD10.out HU10.out (by decide) (by decide) (by decide) (by decide)).1;clear hl11 hs11)
  |(go_at_call 14;(with_reducible refine(HRD.out w11 T9 ⟨b,q,wp,rp,fg⟩ R9 V9 HL11.out HK9.out HV9.out).mono ?_);rintro e w12 ⟨v12,c12,rfl,ho12,hl12,hc12⟩;have HL12:=Lib.hid (hl12.below ((Below.refl w12.heap.size w12).alloc (Nat.le_refl _) (.cells #[.int .i64 0,.int .u16 0] 45)));have HV12:Hid (Seg (w12.alloc (.cells #[.int .i64 0,.int .u16 0] 45)) v12 knownS):=(seg_of_128 (World.ownsRow.alloc ho12 _));have HX12:=Lib.hid ((HX11.out.mod hc12 (fun e=>e HU9.out)).alloc (.cells #[.int .i64 0,.int .u16 0] 45));have HC12:=Lib.hid ((HC11.out.mod hc12 (fun e=>e HC9.out.2)).alloc (.cells #[.int .i64 0,.int .u16 0] 45));have HD12:=Lib.hid ((HD11.out.mod hc12 (fun e=>e HU10.out)).alloc (.cells #[.int .i64 0,.int .u16 0] 45));have hn12:=At.new w12 #[.int .i64 0,.int .u16 0] 45;have a0:=HX12.out.cell 0;have a1:=HX12.out.cell 1;have a2:=hn12.cell 0;have a3:=hn12.cell 1;have a4:=HX12.out.lt;obtain⟨xa2,xc2,rfl⟩:=ownsRow_shape ho12;clear ho12 hl12 hc12 hn12)
  |(go_at_call 15;(with_reducible refine(HSB.out _ _ w13 HV13.out HS13.out).mono ?_);rintro e w14 ⟨rfl,hb14⟩;have HL14:=Lib.hid (HL13.out.below hb14);have hc14:=HC13.out.below hb14 HC13.out.lt;have hd14:=HD13.out.below hb14 HD13.out.lt;have i0:=hc14.cell 0;have i1:=hc14.cell 1;have i2:=hc14.cell 2;have j0:=hd14.cell 0;have j1:=hd14.cell 1;have j2:=hd14.cell 2;have hci:=hc14.lt;have hdi:=hd14.lt;clear hb14 hc14 hd14)
  |(go_at_call 47;(with_reducible refine(HDN.out w14 T9 ⟨b,q,wp,rp,fg⟩ R9 V9 c12 HL14.out HK9.out).mono ?_);rintro e w15 ⟨rfl,hw15⟩;subst w15)
  |(go_at_call 48;(with_reducible refine(HSL.out w14 T9 ⟨b,q,wp,rp,fg⟩ R9 V9 c12 HL14.out HK9.out).mono ?_);rintro e w15 ⟨rfl,hw15⟩;subst w15)
  |(go_at_call 20;(with_reducible refine(HPE.out w14 T9 ⟨b,q,wp,rp,fg⟩ R9 V9 c12 HL14.out HK9.out).mono ?_);rintro e w15 ⟨rfl,hw15⟩;subst w15))
 go_ret;exact⟨rfl,HL14.out.bel⟩
end Go.Proofs.YtebmephdnjccjaaGreat