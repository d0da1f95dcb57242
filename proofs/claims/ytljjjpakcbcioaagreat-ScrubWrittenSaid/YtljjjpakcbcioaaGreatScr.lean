/- Several texts in one: ScrA, ScrB, ScrC, ScrD, ScrE, ScrF, ScrG, LawA, LawB, LawC. -/
import Derived.Test.YtljjjpakcbcioaaGreatMrg8
import Derived.Test.YtljjjpakcbcioaaGreatMrg26
import Derived.Test.YtljjjpakcbcioaaGreatMrg12
import Derived.Test.YtljjjpakcbcioaaGreatMrg7
set_option linter.unusedVariables false
set_option maxRecDepth 100000
set_option maxHeartbeats 8000000
namespace Go.Proofs.YtljjjpakcbcioaaGreat
open Go.RowKit
def mayCode (n:Nat) (m c s member row:Int):Int:=
 if geoIs m c s then (if (n:Int)=m+1 then (if 0≤member/\member<m/\0≤row/\row<s*c then 0 else 3)else 1)else 60
theorem scrub_may {w:World} {T:Nat->Nat} {b:Nat} {st:BaySt} (h:BayAt w T b st) (m c s member row:Int):
  Calls Tryz.prog 69 #[.pointer (some ⟨b,0,none⟩),geo m c s,.int .i64 member,.int .i64 row] w fun e w'=>e=.returned (.int .u16 (mayCode st.n m c s member row))/\Below w.heap.size w w':=by
 have hk:=Lib.hid (fun W=>geom_check m c s W);have hr:=Lib.hid (fun W=>geom_rows m c s W);have hfew:=bay_slots_few h;have hb:Below w.heap.size w (w.alloc (.cells #[.int .i64 m,.int .i64 c,.int .i64 s] 23)):=(Below.refl _ _).alloc (Nat.le_refl _) _;have ha:At (w.alloc (.cells #[.int .i64 m,.int .i64 c,.int .i64 s] 23)) w.heap.size #[.int .i64 m,.int .i64 c,.int .i64 s] 23:=At.new _ _ _;have HS:Hid (∀W,Below w.heap.size w W->Calls Tryz.prog 33 #[.pointer (some ⟨b,0,none⟩)] W fun e w'=>e=.returned (.int .i64 (st.n:Int))/\w'=W):=fun W hW=>bay_slots (h.below hW)
 have HA:=Lib.hid ha;have HL:=Lib.hid ha.lt;clear ha h;generalize st.n=n at*;unfold mayCode geoCode geoRows at*;cases hg:geoIs m c s
 ·rw[hg]at hk
  simp only [if_false,Bool.false_eq_true]at*;unfold geo at*;go_enter Tryz.func69,Tryz.ntmps69;go_wp2_with (go_at_call 64;(with_reducible refine(hk.out _).mono ?_);rintro e w1 ⟨rfl,hb1⟩);go_ret;exact⟨rfl,below_then hb hb1⟩
 ·obtain⟨hlo,hhi⟩:=geo_bounds hg
  obtain⟨h1,h2,-⟩:=(geoIs_iff m c s).1 hg;rw[hg]at hk hr;simp only [if_true]at*;unfold geo at*;by_cases hn:(n:Int)=m+1
  ·rw[if_pos hn]
   have hn':((n:Int) !=(m+1))=false:=by simp[hn]
   generalize s*c=q at*;clear hn;by_cases hin:0≤member/\member<m/\0≤row/\row<q
   ·rw[if_pos hin]
    obtain⟨i1,i2,i3,i4⟩:=hin;go_enter Tryz.func69,Tryz.ntmps69;go_wp2_with (go_at_call 64;(with_reducible refine(hk.out _).mono ?_);rintro e w1 ⟨rfl,hb1⟩;have hA1:=HA.out.below hb1 HL.out;have c0:=hA1.cell 0;have c1:=hA1.cell 1;have c2:=hA1.cell 2;clear hA1;have hbb:=below_then hb hb1;have HS1:Hid (∀k,Calls Tryz.prog 33 #[.pointer (some ⟨b,0,none⟩)] (w1.drewN k) fun e w'=>e=.returned (.int .i64 (n:Int))/\∃j,w'=w1.drewN j):=fun k=>(HS.out _ (below_drewN hbb k)).mono fun e w' ⟨x1,x2⟩=>⟨x1,k,x2⟩);go_quiet ((go_at_call 33;exact HS1.out _));go_wp2_with (go_at_call 70;(with_reducible refine(hr.out _).mono ?_);rintro e w2 ⟨rfl,hb2⟩);go_ret;exact⟨rfl,below_then (below_drewN hbb _) hb2⟩
   ·rw[if_neg hin]
    have hin':(0≤member/\member<m/\0≤row/\q≤row)\/member<0\/(0≤member/\m≤member)\/(0≤member/\member<m/\row<0):=by omega
    clear hin;rcases hin' with ⟨i1,i2,i3,i4⟩|hin'
    ·go_enter Tryz.func69,Tryz.ntmps69
     go_wp2_with (go_at_call 64;(with_reducible refine(hk.out _).mono ?_);rintro e w1 ⟨rfl,hb1⟩;have hA1:=HA.out.below hb1 HL.out;have c0:=hA1.cell 0;have c1:=hA1.cell 1;have c2:=hA1.cell 2;clear hA1;have hbb:=below_then hb hb1;have HS1:Hid (∀k,Calls Tryz.prog 33 #[.pointer (some ⟨b,0,none⟩)] (w1.drewN k) fun e w'=>e=.returned (.int .i64 (n:Int))/\∃j,w'=w1.drewN j):=fun k=>(HS.out _ (below_drewN hbb k)).mono fun e w' ⟨x1,x2⟩=>⟨x1,k,x2⟩);go_quiet ((go_at_call 33;exact HS1.out _));go_wp2_with (go_at_call 70;(with_reducible refine(hr.out _).mono ?_);rintro e w2 ⟨rfl,hb2⟩);go_ret;exact⟨rfl,below_then (below_drewN hbb _) hb2⟩
    ·rcases hin' with i1|⟨i1,i2⟩|⟨i1,i2,i3⟩
     all_goals
      go_enter Tryz.func69,Tryz.ntmps69
      go_wp2_with (go_at_call 64;(with_reducible refine(hk.out _).mono ?_);rintro e w1 ⟨rfl,hb1⟩;have hA1:=HA.out.below hb1 HL.out;have c0:=hA1.cell 0;have c1:=hA1.cell 1;have c2:=hA1.cell 2;clear hA1;have hbb:=below_then hb hb1;have HS1:Hid (∀k,Calls Tryz.prog 33 #[.pointer (some ⟨b,0,none⟩)] (w1.drewN k) fun e w'=>e=.returned (.int .i64 (n:Int))/\∃j,w'=w1.drewN j):=fun k=>(HS.out _ (below_drewN hbb k)).mono fun e w' ⟨x1,x2⟩=>⟨x1,k,x2⟩)
      go_quiet ((go_at_call 33;exact HS1.out _))
      go_wp2
      go_ret
      exact⟨rfl,below_drewN hbb _⟩
  ·rw[if_neg hn]
   have hn':((n:Int) !=(m+1))=true:=by simp[hn]
   clear hn;go_enter Tryz.func69,Tryz.ntmps69;go_wp2_with (go_at_call 64;(with_reducible refine(hk.out _).mono ?_);rintro e w1 ⟨rfl,hb1⟩;have hA1:=HA.out.below hb1 HL.out;have c0:=hA1.cell 0;have c1:=hA1.cell 1;have c2:=hA1.cell 2;clear hA1;have hbb:=below_then hb hb1;have HS1:Hid (∀k,Calls Tryz.prog 33 #[.pointer (some ⟨b,0,none⟩)] (w1.drewN k) fun e w'=>e=.returned (.int .i64 (n:Int))/\∃j,w'=w1.drewN j):=fun k=>(HS.out _ (below_drewN hbb k)).mono fun e w' ⟨x1,x2⟩=>⟨x1,k,x2⟩);go_quiet ((go_at_call 33;exact HS1.out _));go_wp2;go_ret;exact⟨rfl,below_drewN hbb _⟩
open Go.RowKit
def trVal (t:Option (Nat×Nat)):Value:=.agg #[.int .i64 (((t.getD (0,0)).1:Nat):Int),.int .u16 (((t.getD (0,0)).2:Nat):Int)]
theorem trouble_set {w:World} {r:Nat} {a c:Value} (h:At w r #[a,c] 33) (x y:Value):
  ((w.setCell ⟨r,0,none⟩ x).setCell ⟨r,1,none⟩ y).cell? ⟨r,0,none⟩=some x/\((w.setCell ⟨r,0,none⟩ x).setCell ⟨r,1,none⟩ y).cell? ⟨r,1,none⟩=some y/\Chg (fun q=>q=r) w ((w.setCell ⟨r,0,none⟩ x).setCell ⟨r,1,none⟩ y):=by
 have h2:=(h.set 0 x).set 1 y;exact⟨h2.cell 0,h2.cell 1,Chg.setCell (S:=fun q=>q=r) (Chg.setCell (S:=fun q=>q=r) (Chg.refl _ _) ⟨r,0,none⟩ (.inl rfl) _) ⟨r,1,none⟩ (.inl rfl) _⟩
structure ScrEach (w:World) (T:Nat->Nat) (b g gb:Nat) (H:Handed) (k:Nat) (wr:World):Prop where
 bay:BayAt wr T b H.s
 sum:∃many:Int,0≤many/\many≤k/\SumAt wr g gb 128 H.f many
 chg:Chg (fun q=>T q≠0\/q=g\/q=gb) w wr
theorem scrub_each {w:World} {T:Nat->Nat} {b:Nat} {st:BaySt} (h:BayAt w T b st) (M:Nat) (c s:Int) (row:Nat) (but:Int) (g gb:Nat) (hs:SumAt w g gb 128 (fun _=>0) 0) (hg:T g=0) (hgb:T gb=0)
  (hM:M≤16) (hrow:row≤4096) (hcnt:st.cnt 0≤999999000000) (hsm:st.small 1000000):
  Calls Tryz.prog 126 #[.pointer (some ⟨b,0,none⟩),geo M c s,.int .i64 row,.int .i64 but,.func (.func 127) #[.pointer (some ⟨g,0,none⟩)] #[]] w fun e w'=>
   e=.returned (trVal (st.hand (1+row) but M).t)/\ScrEach w T b g gb (st.hand (1+row) but M) M w':=by
 have hzg:=hs.sum.lt;have hzb:=hs.row.lt;have H:=Lib.hid h;have HS:=Lib.hid hs;have HC:=Lib.hid hcnt;have HM:=Lib.hid hsm;have e1:(w.alloc (.cells #[.int .i64 M,.int .i64 c,.int .i64 s] 23)).heap.size=w.heap.size+1:=size_alloc _ _;have HNR:Hid (¬(T (w.heap.size+1)≠0\/w.heap.size+1=g\/w.heap.size+1=gb)):=by
  have:=h.virgin (w.heap.size+1) (by omega);rintro (e|e|e)
  ·exact e this
  ·omega
  ·omega
 clear h hs hcnt hsm;unfold geo;go_enter Tryz.func126,Tryz.ntmps126;go_wp2;go_loopw [16] (fun q wr=>∃k:Nat,k≤M/\q=.int .i64 k/\(st.hand (1+row) but k).t=none/\ScrEach w T b g gb (st.hand (1+row) but k) k wr/\At wr (w.heap.size+1) #[.int .i64 0,.int .u16 0] 33) (fun q _=>M-(intOf q).toNat);case atStart=>
  refine⟨0,by omega,rfl,rfl,⟨H.out.keep (S:=fun _=>False) (((Chg.refl _ _).alloc _).alloc _) (fun _ _ h=>h),⟨0,by omega,by omega,(HS.out.mod (S:=fun _=>False) (((Chg.refl _ _).alloc _).alloc _) (fun h=>h) (fun h=>h))⟩,((Chg.refl _ _).alloc _).alloc _⟩,At.new2 _ _ _ _⟩
 case round=>
  obtain⟨k,hk,rfl,hnone,hE,hR⟩:=hrel;have HR:=Lib.hid hR;have HN:=Lib.hid hnone;have HE:=Lib.hid hE;clear hR hnone hE;by_cases hkM:k<M
  ·have K1:Hid (k+1≤M):=hkM
   by_cases hb:(k:Int)=but
   ·subst hb
    go_wp2;refine⟨⟨k+1,K1.out,by go_num,?_,?_,HR.out⟩,by simp[intOf];omega⟩
    ·rw[hand_but _ _ _ _ rfl];exact HN.out
    ·rw[hand_but _ _ _ _ rfl]
     obtain⟨many,m1,m2,m3⟩:=HE.out.sum;exact⟨HE.out.bay,⟨many,m1,by omega,m3⟩,HE.out.chg⟩
   ·have hrd:=hand_reads st (1+row) but k
    have hread:=bay_read HE.out.bay k (1+row) (by have:=hrd.hi;have:=HC.out;omega) (hrd.small _ HM.out);have hreads:=read_reads (st.hand (1+row) but k).s k (1+row);by_cases hc:((st.hand (1+row) but k).s.read k (1+row)).1=0
    ·obtain⟨x,hx⟩:=(read_code _ _ _).1.1 hc
     have hok:=Lib.hid (hand_ok st (1+row) but k HN.out hb x hx);have hb':((k:Int)==but)=false:=by simp[hb]
     have hread':Hid (Calls Tryz.prog 27 #[.pointer (some ⟨b,0,none⟩),.int .i64 (k:Int),.int .i64 (1+(row:Int))] wr fun e w'=>∃v,e=.returned (.tuple #[v,.int .u16 0])/\BayAt w' T b (st.hand (1+row) but (k+1)).s/\Chg (fun q=>T q≠0) wr w'/\w'.ownsRow wr.heap.size 5 1 v 128 (ucells x)):=by
      refine Lib.hid (hread.mono fun e w' ⟨v,h1,h2,h3,h4,h5⟩=>⟨v,?_,?_,h3,h4 x hx⟩)
      ·rw[h1,hc];try rfl
      ·rw[hok.out]
       exact h2
     obtain⟨many,hm0,hm1,hsum⟩:=HE.out.sum;have HSU:=Lib.hid hsum;have HX:Hid (∀W v,W.ownsRow wr.heap.size 5 1 v 128 (ucells x)->Seg W v x/\x.length=128/\∀a q c,v=.slice (some a) q c->a.block≠gb):=fun W v ho=>by
      have hl:x.length=128:=by have:=ho.1;rw[ucells_length]at this;omega
      refine⟨seg_of_owns (by rw[hl];exact ho),hl,fun a q c hv=> ?_⟩;obtain⟨g',cap,hv2,hle,-⟩:=ownsRow_full ho (by omega);rw[hv2]at hv;simp only [Value.slice.injEq,Option.some.injEq]at hv;rw[<-hv.1];have:=HE.out.chg.size;show g'≠gb
      omega
     clear hread hreads hrd hb hsum
     go_wp2_with (first
      |(go_at_call 27;refine hread'.out.mono ?_;rintro e w1 ⟨v,rfl,hB1,hc1,hown⟩;have HB1:=Lib.hid hB1;have HO:=Lib.hid hown;clear hB1 hown)
      |(go_at_call 127;refine(xor_add g gb 128 _ many v x w1 (HSU.out.mod hc1 (by simp[hg]) (by simp[hgb])) (by omega) (HX.out w1 v HO.out).1 (HX.out w1 v HO.out).2.1 (HX.out w1 v HO.out).2.2 hm0 (by omega)).mono ?_;rintro e w2 ⟨rfl,hs2,hc2⟩;have HS2:=Lib.hid hs2;clear hs2))
     have hC2:Chg (fun q=>T q≠0\/q=g\/q=gb) wr w2:=(hc1.mono fun q hq=>.inl hq).trans (hc2.mono fun q hq=>.inr hq);refine⟨⟨k+1,K1.out,by go_num,?_,?_,HR.out.mod hC2 HNR.out⟩,by simp[intOf];omega⟩
     ·rw[hok.out]
     ·refine⟨HB1.out.keep hc2 (fun q hq hq2=> ?_),⟨many+1,by omega,by omega,?_⟩,HE.out.chg.trans hC2⟩
      ·rcases hq2 with rfl|rfl
       ·exact hq hg
       ·exact hq hgb
      ·rw[hok.out];exact HS2.out
    ·have hok:=Lib.hid (hand_bad st (1+row) but k HN.out hb hc)
     have hcode:=Lib.hid (hand_code st (1+row) but (k+1));have hst:=Lib.hid (hand_stop st (1+row) but (k+1) (by rw[hok.out];simp) M hkM);have hb':((k:Int)==but)=false:=by simp[hb]
     generalize hcd:((st.hand (1+row) but k).s.read k (1+row)).1=cd at*;have hcd1:((cd:Int)==0)=false:=by simp;exact hc
     have hcd2:((cd:Int) !=0)=true:=by simp;exact hc
     have hread':Hid (Calls Tryz.prog 27 #[.pointer (some ⟨b,0,none⟩),.int .i64 (k:Int),.int .i64 (1+(row:Int))] wr fun e w'=>∃v,e=.returned (.tuple #[v,.int .u16 (cd:Int)])/\BayAt w' T b (st.hand (1+row) but (k+1)).s/\Chg (fun q=>T q≠0) wr w'):=by
      refine Lib.hid (hread.mono fun e w' ⟨v,h1,h2,h3,h4,h5⟩=>⟨v,?_,?_,h3⟩)
      ·rw[h1,hcd]
      ·rw[hok.out]
       exact h2
     have HO:=Lib.hid hok.out;clear hread hreads hrd hb hc hcd hok;go_wp2_with (go_at_call 27;refine hread'.out.mono ?_;rintro e w1 ⟨v,rfl,hB1,hc1⟩;have HB1:=Lib.hid hB1;have hC1:Chg (fun q=>T q≠0\/q=g\/q=gb) wr w1:=hc1.mono (fun q hq=>.inl hq);have HC1:=Lib.hid hC1;have HC0:=Lib.hid hc1;have hR1:=HR.out.mod hC1 HNR.out;have d0:w1.cell? ⟨w.heap.size+1,0,none⟩=some (.int .i64 0):=hR1.cell 0;have d1:w1.cell? ⟨w.heap.size+1,1,none⟩=some (.int .u16 0):=hR1.cell 1;have f0:=hR1.free 0;have f1:=hR1.free 1;have HR1:=Lib.hid hR1;clear hB1 hc1 hC1 hR1);obtain⟨r0,r1,hset⟩:=trouble_set HR1.out (.int .i64 (k:Int)) (.int .u16 (cd:Int));clear d0 d1 f0 f1;(try simp only [Exit.inBlock,Exit.then]);refine bodyPost_ret (v:=trVal (some (k,cd))) ?_ rfl ⟨?_,?_⟩
     ·rw[results_cell rfl]
      go_simp;rfl
     ·rw[hst.out,HO.out]
     ·rw[hst.out]
      obtain⟨many,m1,m2,m3⟩:=HE.out.sum;have hHs:(st.hand (1+row) but (k+1)).f=(st.hand (1+row) but k).f:=by rw[HO.out]
      refine⟨HB1.out.keep hset (fun q hq e=> ?_),⟨many,m1,by omega,?_⟩,chg_and (HE.out.chg.trans HC1.out) hset (fun q hq e=>by omega)⟩
      ·subst e;exact HNR.out (.inl hq)
      ·rw[hHs]
       exact(m3.mod HC0.out (by simp[hg]) (by simp[hgb])).mod hset (by omega) (by omega)
  ·obtain rfl:k=M:=by omega
   have d0:wr.cell? ⟨w.heap.size+1,0,none⟩=some (.int .i64 0):=HR.out.cell 0;have d1:wr.cell? ⟨w.heap.size+1,1,none⟩=some (.int .u16 0):=HR.out.cell 1;have f0:=HR.out.free 0;have f1:=HR.out.free 1;obtain⟨r0,r1,hset⟩:=trouble_set HR.out (.int .i64 0) (.int .u16 0);go_wp2;clear d0 d1 f0 f1;(try simp only [Exit.inBlock,Exit.then]);refine bodyPost_ret (v:=trVal none) ?_ rfl ⟨?_,?_⟩
   ·rw[results_cell rfl]
    go_simp;rfl
   ·rw[HN.out]
   ·obtain⟨many,m1,m2,m3⟩:=HE.out.sum
    exact⟨HE.out.bay.keep hset (fun q hq e=>by subst e;exact HNR.out (.inl hq)),⟨many,m1,m2,m3.mod hset (by omega) (by omega)⟩,chg_and HE.out.chg hset (fun q hq e=>by omega)⟩
open Go.RowKit
structure SumPost (w:World) (T:Nat->Nat) (b:Nat) (H:Handed) (p:Value) (w':World):Prop where
 bay:BayAt w' T b H.s
 chg:Chg (fun q=>T q≠0) w w'
 ok:H.t=none->∃g gb many,p=.pointer (some ⟨g,0,none⟩)/\0≤many/\many≤16/\SumAt w' g gb 128 H.f many/\w.heap.size≤g/\w.heap.size≤gb
 bad:H.t≠none->p=.pointer none
theorem scrub_sum {w:World} {T:Nat->Nat} {b:Nat} {st:BaySt} (h:BayAt w T b st) (M:Nat) (c s:Int) (row:Nat) (but:Int)
  (hM:M≤16) (hrow:row≤4096) (hcnt:st.cnt 0≤999999000000) (hsm:st.small 1000000):
  Calls Tryz.prog 71 #[.pointer (some ⟨b,0,none⟩),geo M c s,.int .i64 row,.int .i64 but] w fun e w'=>
   ∃p,e=.returned (.tuple #[p,trVal (st.hand (1+row) but M).t])/\SumPost w T b (st.hand (1+row) but M) p w':=by
 have hv:=h.virgin;have hvir:=Lib.hid hv;have hnew:Hid (∀W,Calls Tryz.prog 125 #[.int .i64 128] W fun e w'=>∃g gb,e=.returned (.tuple #[.pointer (some ⟨g,0,none⟩),.int .u16 0])/\SumAt w' g gb 128 (fun _=>0) 0/\W.heap.size≤g/\W.heap.size≤gb/\Below W.heap.size W w'):=fun W=>xor_new 128 W (by omega)
 have e1:(w.alloc (.cells #[.int .i64 M,.int .i64 c,.int .i64 s] 23)).heap.size=w.heap.size+1:=size_alloc _ _;have e2:((w.alloc (.cells #[.int .i64 M,.int .i64 c,.int .i64 s] 23)).alloc (.cells #[.int .i64 0,.int .u16 0] 33)).heap.size=w.heap.size+2:=by rw[size_alloc,e1]
 have hb0:Below w.heap.size w ((w.alloc (.cells #[.int .i64 M,.int .i64 c,.int .i64 s] 23)).alloc (.cells #[.int .i64 0,.int .u16 0] 33)):=((Below.refl _ _).alloc (Nat.le_refl _) _).alloc (by omega) _;have ha:At ((w.alloc (.cells #[.int .i64 M,.int .i64 c,.int .i64 s] 23)).alloc (.cells #[.int .i64 0,.int .u16 0] 33)) w.heap.size #[.int .i64 M,.int .i64 c,.int .i64 s] 23:=(At.new _ _ _).alloc _;have hr:At ((w.alloc (.cells #[.int .i64 M,.int .i64 c,.int .i64 s] 23)).alloc (.cells #[.int .i64 0,.int .u16 0] 33)) (w.heap.size+1) #[.int .i64 0,.int .u16 0] 33:=At.new2 _ _ _ _;have hba:BayAt ((w.alloc (.cells #[.int .i64 M,.int .i64 c,.int .i64 s] 23)).alloc (.cells #[.int .i64 0,.int .u16 0] 33)) T b st:=h.below hb0
 have HE:Hid (∀w1 g gb,Below ((w.alloc (.cells #[.int .i64 M,.int .i64 c,.int .i64 s] 23)).alloc (.cells #[.int .i64 0,.int .u16 0] 33)).heap.size ((w.alloc (.cells #[.int .i64 M,.int .i64 c,.int .i64 s] 23)).alloc (.cells #[.int .i64 0,.int .u16 0] 33)) w1->SumAt w1 g gb 128 (fun _=>0) 0->w.heap.size+2≤g->w.heap.size+2≤gb->Calls Tryz.prog 126 #[.pointer (some ⟨b,0,none⟩),geo M c s,.int .i64 row,.int .i64 but,.func (.func 127) #[.pointer (some ⟨g,0,none⟩)] #[]] w1 fun e w'=>
   e=.returned (trVal (st.hand (1+row) but M).t)/\ScrEach w1 T b g gb (st.hand (1+row) but M) M w'):=fun w1 g gb hb hs hg hgb=>scrub_each (hba.below hb) M c s row but g gb hs (hv _ (by omega)) (hv _ (by omega)) hM hrow hcnt hsm
 have hcode:=Lib.hid (hand_code st (1+row) but M);have HA:=Lib.hid ha;have HR:=Lib.hid hr;have HAL:=Lib.hid ha.lt;clear ha hr hba h hv hcnt hsm;cases ht:(st.hand (1+row) but M).t with
 |none=>
  have HT:=Lib.hid ht;rw[ht]at HE;clear ht;unfold geo at*;unfold trVal at*;simp only [Option.getD_none]at*;go_enter Tryz.func71,Tryz.ntmps71
  go_wp2_with (first
   |(go_at_call 125;refine(hnew.out _).mono ?_;rintro e w1 ⟨g,gb,rfl,hsum,hg,hgb,hb1⟩;rw[e2]at hg hgb;have ha1:=HA.out.below hb1 HAL.out;have c0:=ha1.cell 0;have c1:=ha1.cell 1;have c2:=ha1.cell 2;clear ha1;have hR1:=HR.out.below hb1 (by rw[e2];omega);have HSU:=Lib.hid hsum;have HR1:=Lib.hid hR1;clear hsum hR1)
   |(go_at_call 126;refine(HE.out w1 g gb hb1 HSU.out hg hgb).mono ?_;rintro e w2 ⟨rfl,hE⟩;have hR2:=(HR1.out.mod hE.chg (by rintro (e|e|e);exact e (hvir.out _ (by omega));omega;omega)).alloc (.cells #[.int .i64 0,.int .u16 0] 33);have d0:=hR2.cell 0;have d1:=hR2.cell 1;have f0:=hR2.free 0;have f1:=hR2.free 1;have HE2:=Lib.hid hE;have HR2:=Lib.hid hR2;clear hE hR2))
  obtain⟨r0,r1,hset⟩:=trouble_set HR2.out (.int .i64 0) (.int .u16 0);clear d0 d1 f0 f1 c0 c1 c2;(try simp only [Exit.inBlock,Exit.then]);refine bodyPost_ret (v:=.tuple #[.pointer (some ⟨g,0,none⟩),.agg #[.int .i64 0,.int .u16 0]]) ?_ rfl ⟨_,rfl,?_⟩
  ·rw[results_tmp_cell rfl]
   go_simp
  ·have hz2:=HE2.out.chg.size
   have hz1:=hb1.size;have hal:Chg (fun q=>q=w.heap.size+1) w2 (w2.alloc (.cells #[.int .i64 0,.int .u16 0] 33)):=(Chg.refl _ _).alloc _;have hch:=hal.trans hset;obtain⟨many,m1,m2,m3⟩:=HE2.out.sum;refine⟨HE2.out.bay.keep hch (fun q hq e=>by subst e;exact hq (hvir.out _ (by omega))),?_,fun _=>⟨g,gb,many,rfl,m1,by omega,m3.mod hch (by omega) (by omega),by omega,by omega⟩,fun e=>absurd HT.out e⟩;refine chg_and (chg_and (S:=fun q=>T q≠0) (Chg.ofBelow (below_then hb0 hb1) _) HE2.out.chg (fun q hq e=> ?_)) hch (fun q hq e=>by omega);rcases e with e|e|e
   ·exact e
   ·omega
   ·omega
 |some t=>
  obtain⟨k,cd⟩:=t;obtain⟨-,hcd0,-⟩:=hcode.out (k,cd) ht;have hcd2:((cd:Int) !=0)=true:=by simp;exact hcd0
  have HT:=Lib.hid ht;rw[ht]at HE;clear ht hcd0;unfold geo at*;unfold trVal at*;simp only [Option.getD_some]at*;go_enter Tryz.func71,Tryz.ntmps71
  go_wp2_with (first
   |(go_at_call 125;refine(hnew.out _).mono ?_;rintro e w1 ⟨g,gb,rfl,hsum,hg,hgb,hb1⟩;rw[e2]at hg hgb;have ha1:=HA.out.below hb1 HAL.out;have c0:=ha1.cell 0;have c1:=ha1.cell 1;have c2:=ha1.cell 2;clear ha1;have hR1:=HR.out.below hb1 (by rw[e2];omega);have HSU:=Lib.hid hsum;have HR1:=Lib.hid hR1;clear hsum hR1)
   |(go_at_call 126;refine(HE.out w1 g gb hb1 HSU.out hg hgb).mono ?_;rintro e w2 ⟨rfl,hE⟩;have hR2:=(HR1.out.mod hE.chg (by rintro (e|e|e);exact e (hvir.out _ (by omega));omega;omega)).alloc (.cells #[.int .i64 (k:Int),.int .u16 (cd:Int)] 33);have d0:=hR2.cell 0;have d1:=hR2.cell 1;have f0:=hR2.free 0;have f1:=hR2.free 1;have HE2:=Lib.hid hE;have HR2:=Lib.hid hR2;clear hE hR2))
  go_region;go_wp2;obtain⟨r0,r1,hset⟩:=trouble_set HR2.out (.int .i64 (k:Int)) (.int .u16 (cd:Int));clear d0 d1 f0 f1 c0 c1 c2;(try simp only [Exit.inBlock,Exit.then]);refine bodyPost_ret (v:=.tuple #[.pointer none,.agg #[.int .i64 (k:Int),.int .u16 (cd:Int)]]) ?_ rfl ⟨_,rfl,?_⟩
  ·rw[results_tmp_cell rfl]
   go_simp
  ·have hz2:=HE2.out.chg.size
   have hz1:=hb1.size;have hal:Chg (fun q=>q=w.heap.size+1) w2 (w2.alloc (.cells #[.int .i64 (k:Int),.int .u16 (cd:Int)] 33)):=(Chg.refl _ _).alloc _;have hch:=(hal.trans hset).drew;refine⟨HE2.out.bay.keep hch (fun q hq e=>by subst e;exact hq (hvir.out _ (by omega))),?_,fun e=>(by rw[HT.out]at e;cases e),fun _=>rfl⟩;refine chg_and (chg_and (S:=fun q=>T q≠0) (Chg.ofBelow (below_then hb0 hb1) _) HE2.out.chg (fun q hq e=> ?_)) hch (fun q hq e=>by omega);rcases e with e|e|e
   ·exact e
   ·omega
   ·omega
open Go.RowKit
theorem ownsRow_lower {w:World} {B B':Nat} {e:TypeId} {size:Nat} {v:Value} {n:Nat} {xs:List Value} (h:w.ownsRow B e size v n xs) (hB:B'≤B):w.ownsRow B' e size v n xs:=by
 refine⟨h.1,?_⟩;rcases h.2 with hn|⟨g,cap,cur,hv,hg,r⟩
 ·exact .inl hn
 ·exact .inr ⟨g,cap,cur,hv,Nat.le_trans hB hg,r⟩
def lostVal (H:Handed) (v:Value) (w':World) (B:Nat):Prop:=
 (H.t=none->w'.ownsRow B 5 1 v 128 (ucells (sumL H.f 128)))/\(H.t≠none->v=.slice none 0 0)
theorem scrub_lost {w:World} {T:Nat->Nat} {b:Nat} {st:BaySt} (h:BayAt w T b st) (M C S m r:Nat) (hg:geoIs M C S=true) (hn:st.n=M+1) (hm:m<M) (hr:r<S*C)
  (hcnt:st.cnt 0≤999999000000) (hsm:st.small 1000000):
  Calls Tryz.prog 26 #[.pointer (some ⟨b,0,none⟩),geo M C S,.int .i64 m,.int .i64 r] w fun e w'=>
   ∃v,e=.returned (.tuple #[v,trVal (st.hand (1+r) m M).t])/\lostVal (st.hand (1+r) m M) v w' w.heap.size/\BayAt w' T b (st.hand (1+r) m M).s/\Chg (fun q=>T q≠0) w w':=by
 obtain⟨g1,g2,g3,g4,g5,g6⟩:=(geoIs_iff M C S).1 hg;have hrr:(r:Int)<(S:Int)*(C:Int):=by exact_mod_cast hr
 have hbd:=geo_bounds hg;have hr4:r≤4096:=by omega
 have hv:=h.virgin;have hvir:=Lib.hid hv;have hcode0:mayCode st.n M C S m r=0:=by
  unfold mayCode;rw[if_pos hg,if_pos (by rw[hn];omega),if_pos ⟨by omega,by omega,by omega,hrr⟩]
 have e1:(w.alloc (.cells #[.int .i64 M,.int .i64 C,.int .i64 S] 23)).heap.size=w.heap.size+1:=size_alloc _ _;have e2:((w.alloc (.cells #[.int .i64 M,.int .i64 C,.int .i64 S] 23)).alloc (.cells #[.int .i64 0,.int .u16 0] 33)).heap.size=w.heap.size+2:=by rw[size_alloc,e1]
 have hb0:Below w.heap.size w ((w.alloc (.cells #[.int .i64 M,.int .i64 C,.int .i64 S] 23)).alloc (.cells #[.int .i64 0,.int .u16 0] 33)):=((Below.refl _ _).alloc (Nat.le_refl _) _).alloc (by omega) _;have ha:At ((w.alloc (.cells #[.int .i64 M,.int .i64 C,.int .i64 S] 23)).alloc (.cells #[.int .i64 0,.int .u16 0] 33)) w.heap.size #[.int .i64 M,.int .i64 C,.int .i64 S] 23:=(At.new _ _ _).alloc _;have hre:At ((w.alloc (.cells #[.int .i64 M,.int .i64 C,.int .i64 S] 23)).alloc (.cells #[.int .i64 0,.int .u16 0] 33)) (w.heap.size+1) #[.int .i64 0,.int .u16 0] 33:=At.new2 _ _ _ _;have hba:BayAt ((w.alloc (.cells #[.int .i64 M,.int .i64 C,.int .i64 S] 23)).alloc (.cells #[.int .i64 0,.int .u16 0] 33)) T b st:=h.below hb0;have hmay:=Lib.hid (scrub_may hba M C S m r);rw[hcode0]at hmay;have HSM:Hid (∀w1,Below ((w.alloc (.cells #[.int .i64 M,.int .i64 C,.int .i64 S] 23)).alloc (.cells #[.int .i64 0,.int .u16 0] 33)).heap.size ((w.alloc (.cells #[.int .i64 M,.int .i64 C,.int .i64 S] 23)).alloc (.cells #[.int .i64 0,.int .u16 0] 33)) w1->Calls Tryz.prog 71 #[.pointer (some ⟨b,0,none⟩),geo M C S,.int .i64 r,.int .i64 m] w1 fun e w'=>∃p,e=.returned (.tuple #[p,trVal (st.hand (1+r) m M).t])/\SumPost w1 T b (st.hand (1+r) m M) p w'):=fun w1 hb=>scrub_sum (hba.below hb) M C S r m (by omega) hr4 hcnt hsm
 have hcode:=Lib.hid (hand_code st (1+r) m M);have HA:=Lib.hid ha;have HR:=Lib.hid hre;have HAL:=Lib.hid ha.lt;clear ha hre hba h hv hcnt hsm hcode0 hbd hrr;cases ht:(st.hand (1+r) m M).t with
 |none=>
  have HT:=Lib.hid ht;rw[ht]at HSM;clear ht;unfold geo at*;unfold trVal at*;simp only [Option.getD_none]at*;go_enter Tryz.func26,Tryz.ntmps26
  go_wp2_with (first
   |(go_at_call 69;refine hmay.out.mono ?_;rintro e w1 ⟨rfl,hb1⟩;have ha1:=HA.out.below hb1 HAL.out;have c0:=ha1.cell 0;have c1:=ha1.cell 1;have c2:=ha1.cell 2;clear ha1;have hR1:=HR.out.below hb1 (by rw[e2];omega);have HR1:=Lib.hid hR1;clear hR1)
   |(go_at_call 71;refine(HSM.out w1 hb1).mono ?_;rintro e w2 ⟨p,rfl,hS⟩;obtain⟨g,gb,many,rfl,m1,m2,hsum,hg1,hg2⟩:=hS.ok HT.out;have HS:=Lib.hid hS;have HSU:=Lib.hid (hsum.mod (S:=fun _=>False) ((Chg.refl _ _).alloc (.cells #[.int .i64 0,.int .u16 0] 33)) (fun h=>h) (fun h=>h));clear hS hsum;have hR2:=(HR1.out.mod HS.out.chg (fun e=>e (hvir.out _ (by omega)))).alloc (.cells #[.int .i64 0,.int .u16 0] 33);have HR2:=Lib.hid hR2;clear hR2)
   |(go_at_call 73;refine(xor_value g gb 128 _ many _ HSU.out (by omega)).mono ?_;rintro e w3 ⟨v,rfl,hown,hb3⟩;have hR3:=HR2.out.below hb3 HR2.out.lt;have d0:=hR3.cell 0;have d1:=hR3.cell 1;have f0:=hR3.free 0;have f1:=hR3.free 1;have HR3:=Lib.hid hR3;have HO:=Lib.hid hown;clear hR3 hown))
  obtain⟨r0,r1,hset⟩:=trouble_set HR3.out (.int .i64 0) (.int .u16 0);clear d0 d1 f0 f1 c0 c1 c2;(try simp only [Exit.inBlock,Exit.then]);refine bodyPost_ret (v:=.tuple #[v,.agg #[.int .i64 0,.int .u16 0]]) ?_ rfl ⟨_,rfl,?_⟩
  ·rw[results_tmp_cell rfl]
   go_simp
  ·have hz1:=hb1.size
   have hz2:=HS.out.chg.size;have hz3:=hb3.size;rw[size_alloc]at hz3;have hal:Chg (fun q=>q=w.heap.size+1) w2 (w2.alloc (.cells #[.int .i64 0,.int .u16 0] 33)):=(Chg.refl _ _).alloc _;have hch:=(hal.trans (Chg.ofBelow hb3 _)).trans hset;refine⟨⟨fun _=> ?_,fun e=>absurd HT.out e⟩,HS.out.bay.keep hch (fun q hq e=>by subst e;exact hq (hvir.out _ (by omega))),?_⟩
   ·refine ownsRow_mod (ownsRow_lower HO.out ?_) hset (fun g' hg' e=> ?_)
    ·rw[size_alloc];omega
    ·have:=(HO.out.lt g' hg').1
     rw[size_alloc]at this;omega
   ·exact chg_and (chg_and (S:=fun q=>T q≠0) (Chg.ofBelow (below_then hb0 hb1) _) HS.out.chg (fun q hq e=>e)) hch (fun q hq e=>by omega)
 |some t=>
  obtain⟨k,cd⟩:=t;obtain⟨-,hcd0,-⟩:=hcode.out (k,cd) ht;have hcd2:((cd:Int) !=0)=true:=by simp;exact hcd0
  have HT:=Lib.hid ht;rw[ht]at HSM;clear ht hcd0;unfold geo at*;unfold trVal at*;simp only [Option.getD_some]at*;go_enter Tryz.func26,Tryz.ntmps26
  go_wp2_with (first
   |(go_at_call 69;refine hmay.out.mono ?_;rintro e w1 ⟨rfl,hb1⟩;have ha1:=HA.out.below hb1 HAL.out;have c0:=ha1.cell 0;have c1:=ha1.cell 1;have c2:=ha1.cell 2;clear ha1;have hR1:=HR.out.below hb1 (by rw[e2];omega);have HR1:=Lib.hid hR1;clear hR1)
   |(go_at_call 71;refine(HSM.out w1 hb1).mono ?_;rintro e w2 ⟨p,rfl,hS⟩;obtain rfl:=hS.bad (by rw[HT.out];simp);have HS:=Lib.hid hS;clear hS;have hR2:=(HR1.out.mod HS.out.chg (fun e=>e (hvir.out _ (by omega)))).alloc (.cells #[.int .i64 (k:Int),.int .u16 (cd:Int)] 33);have d0:=hR2.cell 0;have d1:=hR2.cell 1;have f0:=hR2.free 0;have f1:=hR2.free 1;have HR2:=Lib.hid hR2;clear hR2))
  go_region;go_wp2;obtain⟨r0,r1,hset⟩:=trouble_set HR2.out (.int .i64 (k:Int)) (.int .u16 (cd:Int));clear d0 d1 f0 f1 c0 c1 c2;(try simp only [Exit.inBlock,Exit.then]);refine bodyPost_ret (v:=.tuple #[.slice none 0 0,.agg #[.int .i64 (k:Int),.int .u16 (cd:Int)]]) ?_ rfl ⟨_,rfl,?_⟩
  ·rw[results_tmp_cell rfl]
   go_simp
  ·have hz1:=hb1.size
   have hz2:=HS.out.chg.size;have hal:Chg (fun q=>q=w.heap.size+1) w2 (w2.alloc (.cells #[.int .i64 (k:Int),.int .u16 (cd:Int)] 33)):=(Chg.refl _ _).alloc _;have hch:=(hal.trans hset).drew;refine⟨⟨fun e=>(by rw[HT.out]at e;cases e),fun _=>rfl⟩,HS.out.bay.keep hch (fun q hq e=>by subst e;exact hq (hvir.out _ (by omega))),?_⟩;exact chg_and (chg_and (S:=fun q=>T q≠0) (Chg.ofBelow (below_then hb0 hb1) _) HS.out.chg (fun q hq e=>e)) hch (fun q hq e=>by omega)
open Go.RowKit
theorem parOf_lt {M C r:Nat} (h:0<M):parOf M C r<M:=by unfold parOf;omega
structure Went (s s':BaySt) (j:Nat) (up:Nat):Prop where
 n:s'.n=s.n
 small:∀m,s.small m->s'.small (m+up)
 lo:s.cnt j≤s'.cnt j
 hi:s'.cnt j≤s.cnt j+1
 rest:∀q,q≠j->s'.cnt q=s.cnt q
theorem start_went (s:BaySt) (j:Nat) (k:Int):Went s (s.start j k).1 j 0/\∀m,s.small m->∀x,(s.start j k).2=.inr x->x.d.cache.length≤m:=by
 unfold BaySt.start;by_cases hk:0≤k/\k<(s.n:Int)
 ·rw[if_neg (by simpa using hk)]
  by_cases ht:s.trip=0
  ·rw[if_pos ht];exact⟨⟨rfl,fun m h=>h,by show s.cnt j≤s.cnt j;omega,by show s.cnt j≤_;omega,fun _ _=>rfl⟩,fun m _ x hx=>(by cases hx)⟩
  ·rw[if_neg ht]
   by_cases hd:s.dark=true
   ·rw[if_pos hd];exact⟨⟨rfl,fun m h=>h,by show s.cnt j≤s.cnt j;omega,by show s.cnt j≤_;omega,fun _ _=>rfl⟩,fun m _ x hx=>(by cases hx)⟩
   ·rw[if_neg hd]
    cases hx:s.pos (k.toNat*3)with
    |none=>exact⟨⟨rfl,fun m h=>h,by show s.cnt j≤(if j=j then s.cnt j+1 else s.cnt j);rw[if_pos rfl];omega,by show(if j=j then s.cnt j+1 else s.cnt j)≤_;rw[if_pos rfl];omega,fun q hq=>if_neg hq⟩,fun m _ x hx=>(by cases hx)⟩
    |some x=>
     refine⟨⟨rfl,fun m h=>small_pos h (use_small (h _ (by omega) x hx)) _ rfl rfl,by show s.cnt j≤(if j=j then s.cnt j+1 else s.cnt j);rw[if_pos rfl];omega,by show(if j=j then s.cnt j+1 else s.cnt j)≤_;rw[if_pos rfl];omega,fun q hq=>if_neg hq⟩,fun m h y hy=> ?_⟩;simp only [Sum.inr.injEq]at hy;subst hy;exact use_small (h _ (by omega) x hx)
 ·rw[if_pos (by simpa using hk)];exact⟨⟨rfl,fun m h=>h,by show s.cnt j≤s.cnt j;omega,by show s.cnt j≤_;omega,fun _ _=>rfl⟩,fun m _ x hx=>(by cases hx)⟩
theorem write_cache (d:Dsk) (z:Int) (l:List UInt8):(d.write z l).2.cache.length≤d.cache.length+1:=by
 unfold Dsk.write;split
 ·show d.cache.length≤_;omega
 ·split
  ·show d.cache.length≤_;omega
  ·simp
theorem write_went (s:BaySt) (k z:Int) (l:List UInt8):Went s (s.write k z l).2 1 1:=by
 obtain⟨h1,h2⟩:=start_went s 1 k;unfold BaySt.write;cases h:s.start 1 k with
 |mk a b=>
  rw[h]at h1 h2;cases b with
  |inl c=>exact⟨h1.n,fun m hm i hi x hx=>Nat.le_succ_of_le (h1.small m hm i hi x hx),h1.lo,h1.hi,h1.rest⟩
  |inr x=>
   refine⟨h1.n,fun m hm=>small_pos (s:=a) (i:=k.toNat*3) (fun i hi y hy=>Nat.le_succ_of_le (h1.small m hm i hi y hy)) (Nat.le_trans (write_cache x.d z l) (Nat.succ_le_succ (h2 m hm x rfl))) _ rfl rfl,h1.lo,h1.hi,h1.rest⟩
def BaySt.mend (s:BaySt) (M p r:Nat):Option (Nat×Nat)×BaySt:=
 if (s.hand (1+r) p M).t≠none then ((s.hand (1+r) p M).t,(s.hand (1+r) p M).s)
 else if ((s.hand (1+r) p M).s.write p (1+r) (sumL (s.hand (1+r) p M).f 128)).1≠0 then (some (p,((s.hand (1+r) p M).s.write p (1+r) (sumL (s.hand (1+r) p M).f 128)).1),((s.hand (1+r) p M).s.write p (1+r) (sumL (s.hand (1+r) p M).f 128)).2)
 else if (((s.hand (1+r) p M).s.write p (1+r) (sumL (s.hand (1+r) p M).f 128)).2.flush p).1≠0 then (some (p,(((s.hand (1+r) p M).s.write p (1+r) (sumL (s.hand (1+r) p M).f 128)).2.flush p).1),(((s.hand (1+r) p M).s.write p (1+r) (sumL (s.hand (1+r) p M).f 128)).2.flush p).2)
 else (none,(((s.hand (1+r) p M).s.write p (1+r) (sumL (s.hand (1+r) p M).f 128)).2.flush p).2)
open Go.RowKit
theorem scrub_mend {w:World} {T:Nat->Nat} {b:Nat} {st:BaySt} (h:BayAt w T b st) (M C S r:Nat) (hg:geoIs M C S=true) (hn:st.n=M+1) (hr:r<S*C)
  (hcnt:st.cnt 0≤999999000000) (hcnt1:st.cnt 1≤999999000000) (hcnt2:st.cnt 2≤999999000000) (hsm:st.small 999999):
  Calls Tryz.prog 59 #[.pointer (some ⟨b,0,none⟩),geo M C S,.int .i64 r] w fun e w'=>
   e=.returned (trVal (st.mend M (parOf M C r) r).1)/\BayPost w T b (st.mend M (parOf M C r) r).2 w':=by
 obtain⟨g1,g2,g3,g4,g5,g6⟩:=(geoIs_iff M C S).1 hg;have hrr:(r:Int)<(S:Int)*(C:Int):=by exact_mod_cast hr
 have hbd:=geo_bounds hg;have hr4:r≤4096:=by omega
 have hv:=h.virgin;have hvir:=Lib.hid hv;have hsm':st.small 1000000:=fun i hi x hx=>Nat.le_succ_of_le (hsm i hi x hx)
 have hcode0:mayCode st.n M C S 0 r=0:=by
  unfold mayCode;rw[if_pos hg,if_pos (by rw[hn];omega),if_pos ⟨by omega,by omega,by omega,hrr⟩]
 have e1:(w.alloc (.cells #[.int .i64 M,.int .i64 C,.int .i64 S] 23)).heap.size=w.heap.size+1:=size_alloc _ _;have e2:((w.alloc (.cells #[.int .i64 M,.int .i64 C,.int .i64 S] 23)).alloc (.cells #[.int .i64 0,.int .u16 0] 33)).heap.size=w.heap.size+2:=by rw[size_alloc,e1]
 have hb0:Below w.heap.size w ((w.alloc (.cells #[.int .i64 M,.int .i64 C,.int .i64 S] 23)).alloc (.cells #[.int .i64 0,.int .u16 0] 33)):=((Below.refl _ _).alloc (Nat.le_refl _) _).alloc (by omega) _;have ha:At ((w.alloc (.cells #[.int .i64 M,.int .i64 C,.int .i64 S] 23)).alloc (.cells #[.int .i64 0,.int .u16 0] 33)) w.heap.size #[.int .i64 M,.int .i64 C,.int .i64 S] 23:=(At.new _ _ _).alloc _;have hre:At ((w.alloc (.cells #[.int .i64 M,.int .i64 C,.int .i64 S] 23)).alloc (.cells #[.int .i64 0,.int .u16 0] 33)) (w.heap.size+1) #[.int .i64 0,.int .u16 0] 33:=At.new2 _ _ _ _;have hba:BayAt ((w.alloc (.cells #[.int .i64 M,.int .i64 C,.int .i64 S] 23)).alloc (.cells #[.int .i64 0,.int .u16 0] 33)) T b st:=h.below hb0;have hmay:=Lib.hid (scrub_may hba M C S 0 r);rw[hcode0]at hmay;have hpar:=Lib.hid (fun W=>geom_parity M C S r W hg hr);have hpl:parOf M C r<M:=parOf_lt (by omega);generalize parOf M C r=p at*;have HSM:Hid (∀w1,Below ((w.alloc (.cells #[.int .i64 M,.int .i64 C,.int .i64 S] 23)).alloc (.cells #[.int .i64 0,.int .u16 0] 33)).heap.size ((w.alloc (.cells #[.int .i64 M,.int .i64 C,.int .i64 S] 23)).alloc (.cells #[.int .i64 0,.int .u16 0] 33)) w1->Calls Tryz.prog 71 #[.pointer (some ⟨b,0,none⟩),geo M C S,.int .i64 r,.int .i64 p] w1 fun e w'=>∃q,e=.returned (.tuple #[q,trVal (st.hand (1+r) p M).t])/\SumPost w1 T b (st.hand (1+r) p M) q w'):=fun w1 hb=>scrub_sum (hba.below hb) M C S r p (by omega) hr4 hcnt hsm'
 have hcode:=Lib.hid (hand_code st (1+r) p M);have hrd:=hand_reads st (1+r) p M;have HSG:Hid (∀W v B,W.ownsRow B 5 1 v 128 (ucells (sumL (st.hand (1+r) p M).f 128))->Seg W v (sumL (st.hand (1+r) p M).f 128)/\∀a n c,v=.slice (some a) n c->B≤a.block):=fun W v B ho=>by
  refine⟨seg_of_owns (by rw[sumL_length];exact ho),fun a n c hv=> ?_⟩;obtain⟨g',cap,hv2,hle,-⟩:=ownsRow_full ho (by omega);rw[hv2]at hv;simp only [Value.slice.injEq,Option.some.injEq]at hv;rw[<-hv.1];exact hle
 have HA:=Lib.hid ha;have HR:=Lib.hid hre;have HAL:=Lib.hid ha.lt;unfold BaySt.mend;cases ht:(st.hand (1+r) p M).t with
 |some t=>
  rw[if_pos (by simp)];obtain⟨k,cd⟩:=t;obtain⟨-,hcd0,-⟩:=hcode.out (k,cd) ht;have hcd2:((cd:Int) !=0)=true:=by simp;exact hcd0
  have HT:=Lib.hid ht;rw[ht]at HSM;clear ht hcd0 hrd ha hre hba h hv hcnt hcnt1 hcnt2 hsm hsm' hcode0 hbd hrr;unfold geo at*;unfold trVal at*;simp only [Option.getD_some]at*;go_enter Tryz.func59,Tryz.ntmps59
  go_wp2_with (first
   |(go_at_call 69;refine hmay.out.mono ?_;rintro e w1 ⟨rfl,hb1⟩;have ha1:=HA.out.below hb1 HAL.out;have c0:=ha1.cell 0;have c1:=ha1.cell 1;have c2:=ha1.cell 2;have HA1:=Lib.hid ha1;have HA1L:=Lib.hid ha1.lt;clear ha1;have hR1:=HR.out.below hb1 (by rw[e2];omega);have HR1:=Lib.hid hR1;clear hR1)
   |(go_at_call 114;refine(hpar.out _).mono ?_;rintro e w2 ⟨rfl,hb2⟩;have ha2:=HA1.out.below hb2 HA1L.out;have c0:=ha2.cell 0;have c1:=ha2.cell 1;have c2:=ha2.cell 2;clear ha2;have hbb2:=below_then hb1 hb2;have hR2:=HR1.out.below hb2 HR1.out.lt;have HR2:=Lib.hid hR2;clear hR2)
   |(go_at_call 71;refine(HSM.out w2 hbb2).mono ?_;rintro e w3 ⟨q,rfl,hS⟩;obtain rfl:=hS.bad (by rw[HT.out];simp);have HS:=Lib.hid hS;have hR3:=(HR2.out.mod hS.chg (fun e=>e (hvir.out _ (by omega)))).alloc (.cells #[.int .i64 (k:Int),.int .u16 (cd:Int)] 33);have d0:=hR3.cell 0;have d1:=hR3.cell 1;have f0:=hR3.free 0;have f1:=hR3.free 1;have HR3:=Lib.hid hR3;have hz3:w.heap.size≤(w3.alloc (.cells #[.int .i64 (k:Int),.int .u16 (cd:Int)] 33)).heap.size:=(by have a1:=hbb2.size;have a2:=hS.chg.size;rw[e2]at a1;rw[size_alloc];omega);clear hS hR3))
  obtain⟨r0,r1,hset⟩:=trouble_set HR3.out (.int .i64 (k:Int)) (.int .u16 (cd:Int));clear d0 d1 f0 f1 c0 c1 c2;(try simp only [Exit.inBlock,Exit.then]);refine bodyPost_ret (v:=.agg #[.int .i64 (k:Int),.int .u16 (cd:Int)]) ?_ rfl ⟨rfl,?_⟩
  ·rw[results_cell rfl]
   go_simp
  ·have hz1:=hbb2.size
   have hz2:=HS.out.chg.size;have hal:Chg (fun q=>q=w.heap.size+1) w3 (w3.alloc (.cells #[.int .i64 (k:Int),.int .u16 (cd:Int)] 33)):=(Chg.refl _ _).alloc _;have hch:=hal.trans hset;exact .same (HS.out.bay.keep hch (fun q hq e=>by subst e;exact hq (hvir.out _ (by omega)))) (chg_and (chg_and (S:=fun q=>T q≠0) (Chg.ofBelow (below_then hb0 hbb2) _) HS.out.chg (fun q hq e=>e)) hch (fun q hq e=>by omega))
 |none=>
  rw[if_neg (by simp)];have HT:=Lib.hid ht;rw[ht]at HSM;have hww:=write_went (st.hand (1+r) p M).s p (1+r) (sumL (st.hand (1+r) p M).f 128);have hs1:=hrd.small _ hsm;have HW:Hid (∀W v,BayAt W T b (st.hand (1+r) p M).s->Seg W v (sumL (st.hand (1+r) p M).f 128)->(∀a n c,v=.slice (some a) n c->w.heap.size≤a.block)->Calls Tryz.prog 55 #[.pointer (some ⟨b,0,none⟩),.int .i64 p,.int .i64 (1+(r:Int)),v] W fun e w'=>e=.returned (.int .u16 (((st.hand (1+r) p M).s.write p (1+r) (sumL (st.hand (1+r) p M).f 128)).1:Nat))/\BayPost W T b ((st.hand (1+r) p M).s.write p (1+r) (sumL (st.hand (1+r) p M).f 128)).2 w'):=fun W v hB hs hb=>bay_write hB p (1+r) v _ (by rw[hrd.c1];omega) (fun i hi x hx=>Nat.le_succ_of_le (hs1 i hi x hx)) hs (fun a n c hv'=>hv _ (hb a n c hv'))
  have HBY:Hid (∀w2 w3 w4,Below ((w.alloc (.cells #[.int .i64 M,.int .i64 C,.int .i64 S] 23)).alloc (.cells #[.int .i64 0,.int .u16 0] 33)).heap.size ((w.alloc (.cells #[.int .i64 M,.int .i64 C,.int .i64 S] 23)).alloc (.cells #[.int .i64 0,.int .u16 0] 33)) w2->∀{q},SumPost w2 T b (st.hand (1+r) p M) q w3->∀{o},Below (w3.alloc o).heap.size (w3.alloc o) w4->BayAt w4 T b (st.hand (1+r) p M).s):=fun w2 w3 w4 h2 q h3 o h4=>(h3.bay.keep (S:=fun _=>False) ((Chg.refl _ _).alloc _) (fun _ _ h=>h)).below h4
  have HF:Hid (∀W T',BayAt W T' b ((st.hand (1+r) p M).s.write p (1+r) (sumL (st.hand (1+r) p M).f 128)).2->Calls Tryz.prog 56 #[.pointer (some ⟨b,0,none⟩),.int .i64 p] W fun e w'=>e=.returned (.int .u16 ((((st.hand (1+r) p M).s.write p (1+r) (sumL (st.hand (1+r) p M).f 128)).2.flush p).1:Nat))/\BayPost W T' b (((st.hand (1+r) p M).s.write p (1+r) (sumL (st.hand (1+r) p M).f 128)).2.flush p).2 w'):=fun W T' hB=>bay_flush hB p (by rw[hww.rest 2 (by omega),hrd.c2];omega) (hww.small _ hs1)
  have HSG:Hid (∀W v B,W.ownsRow B 5 1 v 128 (ucells (sumL (st.hand (1+r) p M).f 128))->Seg W v (sumL (st.hand (1+r) p M).f 128)/\(w.heap.size≤B->∀a n c,v=.slice (some a) n c->w.heap.size≤a.block)):=fun W v B ho=>⟨(HSG.out W v B ho).1,fun hB a n c hv=>Nat.le_trans hB ((HSG.out W v B ho).2 a n c hv)⟩
  clear ht hrd ha hre hba h hv hcnt hcnt1 hcnt2 hsm hsm' hcode0 hbd hrr hww hs1 hcode;unfold geo at*;unfold trVal at*;simp only [Option.getD_none]at*;generalize hWr:(st.hand (1+r) p M).s.write p (1+r) (sumL (st.hand (1+r) p M).f 128)=wr at*;generalize hFl:wr.2.flush p=fl at*;obtain⟨c1',s1'⟩:=wr;obtain⟨c2',s2'⟩:=fl;clear hWr hFl;simp only at*;generalize st.hand (1+(r:Int)) (p:Int) M=H at*;by_cases hc1:c1'=0
  ·rw[if_neg (by simpa using hc1)]
   subst hc1;have HW:Hid (∀W v,BayAt W T b H.s->Seg W v (sumL H.f 128)->(∀a n c,v=.slice (some a) n c->w.heap.size≤a.block)->Calls Tryz.prog 55 #[.pointer (some ⟨b,0,none⟩),.int .i64 p,.int .i64 (1+(r:Int)),v] W fun e w'=>e=.returned (.int .u16 0)/\BayPost W T b s1' w'):=fun W v x1 x2 x3=>HW.out W v x1 x2 x3
   by_cases hc2:c2'=0
   ·rw[if_neg (by simpa using hc2)]
    subst hc2;have HF:Hid (∀W T',BayAt W T' b s1'->Calls Tryz.prog 56 #[.pointer (some ⟨b,0,none⟩),.int .i64 p] W fun e w'=>e=.returned (.int .u16 0)/\BayPost W T' b s2' w'):=fun W T' x1=>HF.out W T' x1
    simp only [Option.getD_none];as_aux_lemma=>
     go_enter Tryz.func59,Tryz.ntmps59
     go_wp2_with (first
      |(go_at_call 69;refine hmay.out.mono ?_;rintro e w1 ⟨rfl,hb1⟩;have ha1:=HA.out.below hb1 HAL.out;have c0:=ha1.cell 0;have c1:=ha1.cell 1;have c2:=ha1.cell 2;have HA1:=Lib.hid ha1;have HA1L:=Lib.hid ha1.lt;clear ha1;have hR1:=HR.out.below hb1 (by rw[e2];omega);have HR1:=Lib.hid hR1;clear hR1)
      |(go_at_call 114;refine(hpar.out _).mono ?_;rintro e w2 ⟨rfl,hb2⟩;have ha2:=HA1.out.below hb2 HA1L.out;have c0:=ha2.cell 0;have c1:=ha2.cell 1;have c2:=ha2.cell 2;clear ha2;have hbb2:=below_then hb1 hb2;have hR2:=HR1.out.below hb2 HR1.out.lt;have HR2:=Lib.hid hR2;clear hR2)
      |(go_at_call 71;refine(HSM.out w2 hbb2).mono ?_;rintro e w3 ⟨q,rfl,hS⟩;obtain⟨g,gb,many,rfl,m1,m2,hsum,hg1,hg2⟩:=hS.ok HT.out;have HS:=Lib.hid hS;have HSU:=Lib.hid (hsum.mod (S:=fun _=>False) ((Chg.refl _ _).alloc (.cells #[.int .i64 0,.int .u16 0] 33)) (fun h=>h) (fun h=>h));clear hsum;have hR3:=(HR2.out.mod hS.chg (fun e=>e (hvir.out _ (by omega)))).alloc (.cells #[.int .i64 0,.int .u16 0] 33);have d0:=hR3.cell 0;have d1:=hR3.cell 1;have f0:=hR3.free 0;have f1:=hR3.free 1;have HR3:=Lib.hid hR3;have hz3:w.heap.size≤(w3.alloc (.cells #[.int .i64 0,.int .u16 0] 33)).heap.size:=(by have a1:=hbb2.size;have a2:=hS.chg.size;rw[e2]at a1;rw[size_alloc];omega);clear hS hR3)
      |(go_at_call 73;refine(xor_value g gb 128 _ many _ HSU.out (by omega)).mono ?_;rintro e w4 ⟨v,rfl,hown,hb4⟩;have hR4:=HR3.out.below hb4 HR3.out.lt;have HR4:=Lib.hid hR4;have HO:=Lib.hid hown;clear hR4 hown)
      |(go_at_call 55;refine(HW.out w4 v (HBY.out w2 w3 w4 hbb2 HS.out hb4) (HSG.out w4 v _ HO.out).1 ((HSG.out w4 v _ HO.out).2 hz3)).mono ?_;rintro e w5 ⟨rfl,T5,hB5,hT5,hc5⟩;have hR5:=HR4.out.mod hc5 (fun e=>e (hvir.out _ (by omega)));have HR5:=Lib.hid hR5;have HB5:=Lib.hid hB5;clear hR5 hB5)
      |(go_at_call 56;refine(HF.out w5 T5 HB5.out).mono ?_;rintro e w6 ⟨rfl,T6,hB6,hT6,hc6⟩;have hR6:=HR5.out.mod hc6 (fun e=>e (by rw[hT5 _ HR4.out.lt];exact hvir.out _ (by omega)));have d0:=hR6.cell 0;have d1:=hR6.cell 1;have f0:=hR6.free 0;have f1:=hR6.free 1;have HR6:=Lib.hid hR6;have HB6:=Lib.hid hB6;clear hR6 hB6))
     obtain⟨r0,r1,hset⟩:=trouble_set HR6.out (.int .i64 0) (.int .u16 0);clear d0 d1 f0 f1 c0 c1 c2;(try simp only [Exit.inBlock,Exit.then]);refine bodyPost_ret (v:=.agg #[.int .i64 0,.int .u16 0]) ?_ rfl ⟨rfl,?_⟩
     ·rw[results_cell rfl]
      go_simp
     ·have hch0:Chg (fun q=>T q≠0) w w3:=chg_and (S:=fun q=>T q≠0) (Chg.ofBelow (below_then hb0 hbb2) _) HS.out.chg (fun q hq e=>e)
      have hal:Chg (fun q=>T q≠0) w w4:=(hch0.alloc (.cells #[.int .i64 0,.int .u16 0] 33)).trans (Chg.ofBelow hb4 _);have hz4:=hal.size;have hz34:=hb4.size;have hz5:=hc5.size;refine⟨T6,HB6.out.keep hset (fun q hq e=>by subst e;exact hq ((hT6 _ HR5.out.lt).trans ((hT5 _ HR4.out.lt).trans (hvir.out _ (by omega))))),fun q hq=>(hT6 q (by omega)).trans (hT5 q (by omega)),?_⟩;exact chg_and (chg_and (hal.trans hc5) hc6 (fun q hq e=>by rw[hT5 q (by omega)]at e;exact e)) hset (fun q hq e=>by omega)
   ·rw[if_pos (by simpa using hc2)]
    simp only [Option.getD_some];have hcd1:((c2':Int)==0)=false:=by simp;exact hc2
    have hcd2:((c2':Int) !=0)=true:=by simp;exact hc2
    clear hc2;as_aux_lemma=>
     go_enter Tryz.func59,Tryz.ntmps59
     go_wp2_with (first
      |(go_at_call 69;refine hmay.out.mono ?_;rintro e w1 ⟨rfl,hb1⟩;have ha1:=HA.out.below hb1 HAL.out;have c0:=ha1.cell 0;have c1:=ha1.cell 1;have c2:=ha1.cell 2;have HA1:=Lib.hid ha1;have HA1L:=Lib.hid ha1.lt;clear ha1;have hR1:=HR.out.below hb1 (by rw[e2];omega);have HR1:=Lib.hid hR1;clear hR1)
      |(go_at_call 114;refine(hpar.out _).mono ?_;rintro e w2 ⟨rfl,hb2⟩;have ha2:=HA1.out.below hb2 HA1L.out;have c0:=ha2.cell 0;have c1:=ha2.cell 1;have c2:=ha2.cell 2;clear ha2;have hbb2:=below_then hb1 hb2;have hR2:=HR1.out.below hb2 HR1.out.lt;have HR2:=Lib.hid hR2;clear hR2)
      |(go_at_call 71;refine(HSM.out w2 hbb2).mono ?_;rintro e w3 ⟨q,rfl,hS⟩;obtain⟨g,gb,many,rfl,m1,m2,hsum,hg1,hg2⟩:=hS.ok HT.out;have HS:=Lib.hid hS;have HSU:=Lib.hid (hsum.mod (S:=fun _=>False) ((Chg.refl _ _).alloc (.cells #[.int .i64 0,.int .u16 0] 33)) (fun h=>h) (fun h=>h));clear hsum;have hR3:=(HR2.out.mod hS.chg (fun e=>e (hvir.out _ (by omega)))).alloc (.cells #[.int .i64 0,.int .u16 0] 33);have d0:=hR3.cell 0;have d1:=hR3.cell 1;have f0:=hR3.free 0;have f1:=hR3.free 1;have HR3:=Lib.hid hR3;have hz3:w.heap.size≤(w3.alloc (.cells #[.int .i64 0,.int .u16 0] 33)).heap.size:=(by have a1:=hbb2.size;have a2:=hS.chg.size;rw[e2]at a1;rw[size_alloc];omega);clear hS hR3)
      |(go_at_call 73;refine(xor_value g gb 128 _ many _ HSU.out (by omega)).mono ?_;rintro e w4 ⟨v,rfl,hown,hb4⟩;have hR4:=HR3.out.below hb4 HR3.out.lt;have HR4:=Lib.hid hR4;have HO:=Lib.hid hown;clear hR4 hown)
      |(go_at_call 55;refine(HW.out w4 v (HBY.out w2 w3 w4 hbb2 HS.out hb4) (HSG.out w4 v _ HO.out).1 ((HSG.out w4 v _ HO.out).2 hz3)).mono ?_;rintro e w5 ⟨rfl,T5,hB5,hT5,hc5⟩;have hR5:=HR4.out.mod hc5 (fun e=>e (hvir.out _ (by omega)));have HR5:=Lib.hid hR5;have HB5:=Lib.hid hB5;clear hR5 hB5)
      |(go_at_call 56;refine(HF.out w5 T5 HB5.out).mono ?_;rintro e w6 ⟨rfl,T6,hB6,hT6,hc6⟩;have hR6:=HR5.out.mod hc6 (fun e=>e (by rw[hT5 _ HR4.out.lt];exact hvir.out _ (by omega)));have d0:=hR6.cell 0;have d1:=hR6.cell 1;have f0:=hR6.free 0;have f1:=hR6.free 1;have HR6:=Lib.hid hR6;have HB6:=Lib.hid hB6;clear hR6 hB6))
     obtain⟨r0,r1,hset⟩:=trouble_set HR6.out (.int .i64 (p:Int)) (.int .u16 (c2':Int));clear d0 d1 f0 f1 c0 c1 c2;(try simp only [Exit.inBlock,Exit.then]);refine bodyPost_ret (v:=.agg #[.int .i64 (p:Int),.int .u16 (c2':Int)]) ?_ rfl ⟨rfl,?_⟩
     ·rw[results_cell rfl]
      go_simp
     ·have hch0:Chg (fun q=>T q≠0) w w3:=chg_and (S:=fun q=>T q≠0) (Chg.ofBelow (below_then hb0 hbb2) _) HS.out.chg (fun q hq e=>e)
      have hal:Chg (fun q=>T q≠0) w w4:=(hch0.alloc (.cells #[.int .i64 0,.int .u16 0] 33)).trans (Chg.ofBelow hb4 _);have hz4:=hal.size;have hz34:=hb4.size;have hz5:=hc5.size;refine⟨T6,HB6.out.keep hset (fun q hq e=>by subst e;exact hq ((hT6 _ HR5.out.lt).trans ((hT5 _ HR4.out.lt).trans (hvir.out _ (by omega))))),fun q hq=>(hT6 q (by omega)).trans (hT5 q (by omega)),?_⟩;exact chg_and (chg_and (hal.trans hc5) hc6 (fun q hq e=>by rw[hT5 q (by omega)]at e;exact e)) hset (fun q hq e=>by omega)
  ·rw[if_pos (by simpa using hc1)]
   simp only [Option.getD_some];have hcd1:((c1':Int)==0)=false:=by simp;exact hc1
   have hcd2:((c1':Int) !=0)=true:=by simp;exact hc1
   clear hc1;as_aux_lemma=>
    go_enter Tryz.func59,Tryz.ntmps59
    go_wp2_with (first
     |(go_at_call 69;refine hmay.out.mono ?_;rintro e w1 ⟨rfl,hb1⟩;have ha1:=HA.out.below hb1 HAL.out;have c0:=ha1.cell 0;have c1:=ha1.cell 1;have c2:=ha1.cell 2;have HA1:=Lib.hid ha1;have HA1L:=Lib.hid ha1.lt;clear ha1;have hR1:=HR.out.below hb1 (by rw[e2];omega);have HR1:=Lib.hid hR1;clear hR1)
     |(go_at_call 114;refine(hpar.out _).mono ?_;rintro e w2 ⟨rfl,hb2⟩;have ha2:=HA1.out.below hb2 HA1L.out;have c0:=ha2.cell 0;have c1:=ha2.cell 1;have c2:=ha2.cell 2;clear ha2;have hbb2:=below_then hb1 hb2;have hR2:=HR1.out.below hb2 HR1.out.lt;have HR2:=Lib.hid hR2;clear hR2)
     |(go_at_call 71;refine(HSM.out w2 hbb2).mono ?_;rintro e w3 ⟨q,rfl,hS⟩;obtain⟨g,gb,many,rfl,m1,m2,hsum,hg1,hg2⟩:=hS.ok HT.out;have HS:=Lib.hid hS;have HSU:=Lib.hid (hsum.mod (S:=fun _=>False) ((Chg.refl _ _).alloc (.cells #[.int .i64 0,.int .u16 0] 33)) (fun h=>h) (fun h=>h));clear hsum;have hR3:=(HR2.out.mod hS.chg (fun e=>e (hvir.out _ (by omega)))).alloc (.cells #[.int .i64 0,.int .u16 0] 33);have d0:=hR3.cell 0;have d1:=hR3.cell 1;have f0:=hR3.free 0;have f1:=hR3.free 1;have HR3:=Lib.hid hR3;have hz3:w.heap.size≤(w3.alloc (.cells #[.int .i64 0,.int .u16 0] 33)).heap.size:=(by have a1:=hbb2.size;have a2:=hS.chg.size;rw[e2]at a1;rw[size_alloc];omega);clear hS hR3)
     |(go_at_call 73;refine(xor_value g gb 128 _ many _ HSU.out (by omega)).mono ?_;rintro e w4 ⟨v,rfl,hown,hb4⟩;have hR4:=HR3.out.below hb4 HR3.out.lt;have HR4:=Lib.hid hR4;have HO:=Lib.hid hown;clear hR4 hown)
     |(go_at_call 55;refine(HW.out w4 v (HBY.out w2 w3 w4 hbb2 HS.out hb4) (HSG.out w4 v _ HO.out).1 ((HSG.out w4 v _ HO.out).2 hz3)).mono ?_;rintro e w5 ⟨rfl,T5,hB5,hT5,hc5⟩;have hR5:=HR4.out.mod hc5 (fun e=>e (hvir.out _ (by omega)));have d0:=hR5.cell 0;have d1:=hR5.cell 1;have f0:=hR5.free 0;have f1:=hR5.free 1;have HR5:=Lib.hid hR5;have HB5:=Lib.hid hB5;clear hR5 hB5))
    obtain⟨r0,r1,hset⟩:=trouble_set HR5.out (.int .i64 (p:Int)) (.int .u16 (c1':Int));clear d0 d1 f0 f1 c0 c1 c2;(try simp only [Exit.inBlock,Exit.then]);refine bodyPost_ret (v:=.agg #[.int .i64 (p:Int),.int .u16 (c1':Int)]) ?_ rfl ⟨rfl,?_⟩
    ·rw[results_cell rfl]
     go_simp
    ·have hch0:Chg (fun q=>T q≠0) w w3:=chg_and (S:=fun q=>T q≠0) (Chg.ofBelow (below_then hb0 hbb2) _) HS.out.chg (fun q hq e=>e)
     have hal:Chg (fun q=>T q≠0) w w4:=(hch0.alloc (.cells #[.int .i64 0,.int .u16 0] 33)).trans (Chg.ofBelow hb4 _);have hz4:=hal.size;have hz34:=hb4.size;have hz5:=hc5.size;refine⟨T5,HB5.out.keep hset (fun q hq e=>by subst e;exact hq ((hT5 _ HR4.out.lt).trans (hvir.out _ (by omega)))),fun q hq=>hT5 q (by omega),?_⟩;exact chg_and (hal.trans hc5) hset (fun q hq e=>by omega)
open Go.RowKit
theorem slice_ints:SliceOf Tryz.prog 57 3 1 8:=SliceOf.mk' (z:=.int .i64 0) Tryz.underlying57 (by decide) (by kernel_rfl) rfl
structure ScrRowsAt (w:World) (T:Nat->Nat) (b:Nat) (L:Looked) (v:Value) (g:List Value) (wr:World):Prop where
 none':L.t=none
 bay:BayAt wr T b L.s
 row:wr.ownsRow (w.heap.size+2) 3 1 v L.l.length (kcells L.l)
 chg:Chg (fun q=>T q≠0) w wr
 box:At wr w.heap.size g.toArray 23
 res:At wr (w.heap.size+1) #[.int .i64 0,.int .u16 0] 33
theorem kcells_snoc (l:List Nat) (k:Nat):kcells (l++ [k])=kcells l++ [.int .i64 (k:Int)]:=by simp[kcells]
theorem ScrRowsAt.next {w wr w3 w5:World} {T:Nat->Nat} {b:Nat} {L:Looked} {v v':Value} {g:List Value} {s':BaySt} {l':List Nat} (h:ScrRowsAt w T b L v g wr) (hvir:∀k,w.heap.size≤k->T k=0) (hb:BayAt w3 T b s') (hc:Chg (fun q=>T q≠0) wr w3) (h5:Chg (fun q=>w.heap.size+2≤q) w3 w5)
  (hrow:w5.ownsRow (w.heap.size+2) 3 1 v' l'.length (kcells l')):ScrRowsAt w T b ⟨none,l',s'⟩ v' g w5:=by
 refine⟨rfl,hb.keep h5 (fun q hq e=>hq (hvir q (by omega))),hrow,chg_and (h.chg.trans hc) h5 (fun q hq e=>by omega),?_,?_⟩
 ·exact(h.box.mod hc (fun e=>e (hvir _ (by omega)))).mod h5 (by omega)
 ·exact(h.res.mod hc (fun e=>e (hvir _ (by omega)))).mod h5 (by omega)
theorem scrub_rows {w:World} {T:Nat->Nat} {b:Nat} {st:BaySt} (h:BayAt w T b st) (M C S:Nat) (hg:geoIs M C S=true) (hn:st.n=M+1)
  (hcnt:st.cnt 0≤999998000000) (hsm:st.small 1000000):
  Calls Tryz.prog 25 #[.pointer (some ⟨b,0,none⟩),geo M C S] w fun e w'=>
   ∃v,e=.returned (.tuple #[v,trVal (st.look M (S*C)).t])/\((st.look M (S*C)).t=none->w'.ownsRow w.heap.size 3 1 v (st.look M (S*C)).l.length (kcells (st.look M (S*C)).l))/\((st.look M (S*C)).t≠none->v=.slice none 0 0)/\BayAt w' T b (st.look M (S*C)).s/\Chg (fun q=>T q≠0) w w':=by
 obtain⟨g1,g2,g3,g4,g5,g6⟩:=(geoIs_iff M C S).1 hg;have hbd:=geo_bounds hg;have hv:=h.virgin;have hvir:=Lib.hid hv;have hM16:M≤16:=by omega
 have hR0:0<S*C:=Nat.mul_pos (by omega) (by omega);have hR1:S*C≤4096:=by have:=hbd.2;exact_mod_cast this
 have hcode0:mayCode st.n M C S 0 0=0:=by
  unfold mayCode;rw[if_pos hg,if_pos (by rw[hn];omega),if_pos ⟨by omega,by omega,by omega,by exact_mod_cast hR0⟩]
 have e1:(w.alloc (.cells #[.int .i64 M,.int .i64 C,.int .i64 S] 23)).heap.size=w.heap.size+1:=size_alloc _ _;have e2:((w.alloc (.cells #[.int .i64 M,.int .i64 C,.int .i64 S] 23)).alloc (.cells #[.int .i64 0,.int .u16 0] 33)).heap.size=w.heap.size+2:=by rw[size_alloc,e1]
 have hb0:Below w.heap.size w ((w.alloc (.cells #[.int .i64 M,.int .i64 C,.int .i64 S] 23)).alloc (.cells #[.int .i64 0,.int .u16 0] 33)):=((Below.refl _ _).alloc (Nat.le_refl _) _).alloc (by omega) _;have ha:At ((w.alloc (.cells #[.int .i64 M,.int .i64 C,.int .i64 S] 23)).alloc (.cells #[.int .i64 0,.int .u16 0] 33)) w.heap.size #[.int .i64 M,.int .i64 C,.int .i64 S] 23:=(At.new _ _ _).alloc _;have hre:At ((w.alloc (.cells #[.int .i64 M,.int .i64 C,.int .i64 S] 23)).alloc (.cells #[.int .i64 0,.int .u16 0] 33)) (w.heap.size+1) #[.int .i64 0,.int .u16 0] 33:=At.new2 _ _ _ _;have hba:BayAt ((w.alloc (.cells #[.int .i64 M,.int .i64 C,.int .i64 S] 23)).alloc (.cells #[.int .i64 0,.int .u16 0] 33)) T b st:=h.below hb0;have hmay:=Lib.hid (scrub_may hba M C S 0 0);rw[hcode0]at hmay;have hrows:Hid (∀W,Calls Tryz.prog 70 #[geo M C S] W fun e w'=>e=.returned (.int .i64 ((S*C:Nat):Int))/\Below W.heap.size W w'):=fun W=>(geom_rows M C S W).mono fun e w' ⟨x1,x2⟩=>⟨by rw[x1];unfold geoRows;rw[if_pos hg,Int.natCast_mul],x2⟩
 have HSM:Hid (∀k W,k≤4096->BayAt W T b (st.look M k).s->Calls Tryz.prog 71 #[.pointer (some ⟨b,0,none⟩),geo M C S,.int .i64 k,.int .i64 (-1)] W fun e w'=>∃p,e=.returned (.tuple #[p,trVal ((st.look M k).s.hand ((1+k:Nat):Int) (-1) M).t])/\SumPost W T b ((st.look M k).s.hand ((1+k:Nat):Int) (-1) M) p w'):=fun k W hk hB=>by
  have hlr:=look_reads st M k;have hkM:k*M≤4096*16:=Nat.mul_le_mul hk hM16;have:=scrub_sum hB M C S k (-1) hM16 hk (by have:=hlr.hi;omega) (hlr.small _ hsm);rw[show(1+(k:Int))=((1+k:Nat):Int) by omega]at this;exact this
 have HA:=Lib.hid ha;have HR:=Lib.hid hre;have HAL:=Lib.hid ha.lt;have HBA:=Lib.hid hba;clear ha hre hba h hv hcnt hsm hcode0 hbd;generalize S*C=R at*;unfold geo at*;go_enter Tryz.func25,Tryz.ntmps25
 go_wp2_with (first
  |(go_at_call 69;refine hmay.out.mono ?_;rintro e w1 ⟨rfl,hb1⟩;have ha1:=HA.out.below hb1 HAL.out;have c0:=ha1.cell 0;have c1:=ha1.cell 1;have c2:=ha1.cell 2;have HA1:=Lib.hid ha1;clear ha1;have hR1:=HR.out.below hb1 (by rw[e2];omega);have HR1:=Lib.hid hR1;clear hR1)
  |(go_at_call 70;refine(hrows.out _).mono ?_;rintro e w2 ⟨rfl,hb2⟩;have HA2:=Lib.hid (HA1.out.below hb2 HA1.out.lt);have HR2:=Lib.hid (HR1.out.below hb2 HR1.out.lt)))
 clear c0 c1 c2;go_loopw [7,20] (fun v q wr=>∃k:Nat,k≤R/\q=.int .i64 k/\ScrRowsAt w T b (st.look M k) v [.int .i64 M,.int .i64 C,.int .i64 S] wr) (fun _ q _=>R-(intOf q).toNat);case atStart=>exact⟨0,by omega,rfl,rfl,(HBA.out.below hb1).below hb2,World.ownsRow_nil _ _ _ _,Chg.ofBelow (below_then (below_then hb0 hb1) hb2) _,HA2.out,HR2.out⟩
 case round=>
  obtain⟨k,hk,rfl,hL⟩:=hrel;have HL:=Lib.hid hL;have c0:=hL.box.cell 0;have c1:=hL.box.cell 1;have c2:=hL.box.cell 2;clear hL;by_cases hkR:k<R
  ·have K1:Hid (k+1≤R):=hkR
   have HK:=Lib.hid (HSM.out k wr (by omega) HL.out.bay);have hsz:=HL.out.res.lt;cases ht:((st.look M k).s.hand ((1+k:Nat):Int) (-1) M).t with
   |some t=>
    have hbad:=Lib.hid (look_bad st M k HL.out.none' (by rw[ht];simp));have hst:=Lib.hid (look_stop st M (k+1) (by rw[hbad.out];show((st.look M k).s.hand ((1+k:Nat):Int) (-1) M).t≠none;rw[ht];simp) R hkR);obtain⟨m,cd⟩:=t;obtain⟨-,hcd0,-⟩:=hand_code _ _ _ _ (m,cd) ht;have hcd2:((cd:Int) !=0)=true:=by simp;exact hcd0
    have HT:=Lib.hid ht;rw[ht]at HK hbad;clear ht hcd0;unfold trVal at*;simp only [Option.getD_some]at*;generalize (st.look M k).s.hand ((1+k:Nat):Int) (-1) M=H at*;as_aux_lemma=>
     go_wp2_with (first
      |(go_at_call 71;refine HK.out.mono ?_;rintro e w3 ⟨p,rfl,hS⟩;obtain rfl:=hS.bad (by rw[HT.out];simp);have HS:=Lib.hid hS;clear hS;have hR3:=(HL.out.res.mod HS.out.chg (fun e=>e (hvir.out _ (by omega)))).alloc (.cells #[.int .i64 (m:Int),.int .u16 (cd:Int)] 33);have d0:=hR3.cell 0;have d1:=hR3.cell 1;have f0:=hR3.free 0;have f1:=hR3.free 1;have HR3:=Lib.hid hR3;clear hR3))
     go_region;go_wp2;obtain⟨r0,r1,hset⟩:=trouble_set HR3.out (.int .i64 (m:Int)) (.int .u16 (cd:Int));clear d0 d1 f0 f1 c0 c1 c2;(try simp only [Exit.inBlock,Exit.then]);refine bodyPost_ret (v:=.tuple #[.slice none 0 0,.agg #[.int .i64 (m:Int),.int .u16 (cd:Int)]]) ?_ rfl ⟨.slice none 0 0,?_,?_⟩
     ·rw[results_tmp_cell rfl]
      go_simp
     ·rw[hst.out,hbad.out]
      rfl
     ·rw[hst.out,hbad.out]
      have hal:Chg (fun q=>q=w.heap.size+1) w3 (w3.alloc (.cells #[.int .i64 (m:Int),.int .u16 (cd:Int)] 33)):=(Chg.refl _ _).alloc _;have hch:=(hal.trans hset).drew;exact⟨fun e=>(by cases e),fun _=>rfl,HS.out.bay.keep hch (fun q hq e=>by subst e;exact hq (hvir.out _ (by omega))),chg_and (HL.out.chg.trans HS.out.chg) hch (fun q hq e=>by omega)⟩
   |none=>
    have hok:=Lib.hid (look_ok st M k HL.out.none' ht);have HT:=Lib.hid ht;rw[ht]at HK;clear ht;unfold trVal at*;simp only [Option.getD_none]at*;by_cases hz:allZero ((st.look M k).s.hand ((1+k:Nat):Int) (-1) M).f 128
    ·have hnz:Hid (∀(g gb:Nat) (many:Int) (W:World),SumAt W g gb 128 ((st.look M k).s.hand ((1+k:Nat):Int) (-1) M).f many->Calls Tryz.prog 72 #[.pointer (some ⟨g,0,none⟩)] W fun e w'=>w'=W/\e=.returned (.bool true)):=fun g gb many W hs=>(xor_nought g gb 128 _ many W hs (by omega)).mono fun e w' ⟨x1,r,x2,x3⟩=>⟨x1,by rw[x2,x3.2 hz]⟩
     rw[if_pos hz]at hok;clear hz;generalize (st.look M k).s.hand ((1+k:Nat):Int) (-1) M=H at*;as_aux_lemma=>
      go_wp2_with (first
       |(go_at_call 71;refine HK.out.mono ?_;rintro e w3 ⟨p,rfl,hS⟩;obtain⟨g,gb,many,rfl,m1,m2,hsum,hg1,hg2⟩:=hS.ok HT.out;have HS:=Lib.hid hS;have HSU:=Lib.hid (hsum.mod (S:=fun _=>False) ((Chg.refl _ _).alloc (.cells #[.int .i64 0,.int .u16 0] 33)) (fun h=>h) (fun h=>h));clear hS hsum;have hown:=(ownsRow_mod HL.out.row HS.out.chg (fun g' hg' e=>e (hvir.out _ (by have:=(HL.out.row.lt g' hg').1;omega)))).alloc (.cells #[.int .i64 0,.int .u16 0] 33))
       |(go_at_call 72;refine(hnz.out g gb many _ HSU.out).mono ?_;rintro e w4 ⟨rfl,rfl⟩))
      refine⟨⟨k+1,K1.out,by go_num,?_⟩,by simp[intOf];omega⟩;rw[hok.out];exact HL.out.next hvir.out HS.out.bay HS.out.chg ((Chg.refl _ _).alloc _) hown
    ·have hnz:Hid (∀(g gb:Nat) (many:Int) (W:World),SumAt W g gb 128 ((st.look M k).s.hand ((1+k:Nat):Int) (-1) M).f many->Calls Tryz.prog 72 #[.pointer (some ⟨g,0,none⟩)] W fun e w'=>w'=W/\e=.returned (.bool false)):=fun g gb many W hs=>(xor_nought g gb 128 _ many W hs (by omega)).mono fun e w' ⟨x1,r,x2,x3⟩=>⟨x1,by rw[x2];cases r;rfl;exact absurd (x3.1 rfl) hz⟩
     rw[if_neg hz]at hok;clear hz;generalize (st.look M k).s.hand ((1+k:Nat):Int) (-1) M=H at*;as_aux_lemma=>
      go_wp2_with (first
       |(go_at_call 71;refine HK.out.mono ?_;rintro e w3 ⟨p,rfl,hS⟩;obtain⟨g,gb,many,rfl,m1,m2,hsum,hg1,hg2⟩:=hS.ok HT.out;have HS:=Lib.hid hS;have HSU:=Lib.hid (hsum.mod (S:=fun _=>False) ((Chg.refl _ _).alloc (.cells #[.int .i64 0,.int .u16 0] 33)) (fun h=>h) (fun h=>h));clear hS hsum;have hown:=(ownsRow_mod HL.out.row HS.out.chg (fun g' hg' e=>e (hvir.out _ (by have:=(HL.out.row.lt g' hg').1;omega)))).alloc (.cells #[.int .i64 0,.int .u16 0] 33))
       |(go_at_call 72;refine(hnz.out g gb many _ HSU.out).mono ?_;rintro e w4 ⟨rfl,rfl⟩)
       |(refine wpList_append_one rfl _ _ 57 3 8 rfl slice_ints (w.heap.size+2) u7 (st.look M k).l.length _ rfl hown _ rfl (by rw[size_alloc];rfl) (by have:=look_length st M k;unfold maxLen;omega) (by have:=look_length st M k;omega) (by have:=HL.out.res.lt;have:=HS.out.chg.size;rw[size_alloc];omega) ?_;intro v' w5 hown5 hb5 hgr5))
      refine⟨⟨k+1,K1.out,by go_num,?_⟩,by simp[intOf];omega⟩;rw[hok.out];refine HL.out.next hvir.out HS.out.bay HS.out.chg (w5:=w5) (((Chg.refl _ _).alloc _).trans (Chg.ofGrown hgr5 (fun q hq=>.inl ((hown.lt q hq).1)))) ?_;rw[kcells_snoc,List.length_append];exact hown5
  ·obtain rfl:k=R:=by omega
   have hsz:=HL.out.res.lt;have d0:=HL.out.res.cell 0;have d1:=HL.out.res.cell 1;have f0:=HL.out.res.free 0;have f1:=HL.out.res.free 1;as_aux_lemma=>
    go_wp2;obtain⟨r0,r1,hset⟩:=trouble_set HL.out.res (.int .i64 0) (.int .u16 0);clear d0 d1 f0 f1 c0 c1 c2;(try simp only [Exit.inBlock,Exit.then]);refine bodyPost_ret (v:=.tuple #[u7,.agg #[.int .i64 0,.int .u16 0]]) ?_ rfl ⟨u7,?_,?_,fun e=>absurd HL.out.none' e,?_,?_⟩
    ·rw[results_tmp_cell rfl]
     go_simp
    ·rw[HL.out.none']
     rfl
    ·exact fun _=>ownsRow_lower (ownsRow_mod HL.out.row hset (fun g' hg' e=>by have:=(HL.out.row.lt g' hg').1;omega)) (by omega)
    ·exact HL.out.bay.keep hset (fun q hq e=>by subst e;exact hq (hvir.out _ (by omega)))
    ·exact chg_and HL.out.chg hset (fun q hq e=>by omega)
open Go.RowKit
theorem calm_rows {w:World} {T:Nat->Nat} {b:Nat} {s:BaySt} {sz:Nat->Nat} (h:BayAt w T b s) (hc:CalmBay s sz) (M C S:Nat) (hg:geoIs M C S=true) (hn:s.n=M+1) (hsz:∀m,m<M->sz m=1+S*C)
  (hcnt:s.cnt 0≤999998000000) (hsm:s.small 1000000):
  Calls Tryz.prog 25 #[.pointer (some ⟨b,0,none⟩),geo M C S] w fun e w'=>
   ∃v,e=.returned (.tuple #[v,.agg #[.int .i64 0,.int .u16 0]])/\w'.ownsRow w.heap.size 3 1 v (uneven s M (S*C)).length (kcells (uneven s M (S*C)))/\BayAt w' T b (s.ticks 0 (S*C*M))/\Chg (fun q=>T q≠0) w w':=by
 have hl:=look_calm hc M (by omega) (S*C) (fun j hj=>by rw[hsz j hj];omega);refine(scrub_rows h M C S hg hn hcnt hsm).mono fun e w' ⟨v,h1,h2,h3,h4,h5⟩=> ?_
 rw[hl]at h1 h2 h4;exact⟨v,h1,h2 rfl,h4,h5⟩
theorem calm_lost {w:World} {T:Nat->Nat} {b:Nat} {s:BaySt} {sz:Nat->Nat} (h:BayAt w T b s) (hc:CalmBay s sz) (M C S m r:Nat) (hg:geoIs M C S=true) (hn:s.n=M+1) (hsz:∀m,m<M->sz m=1+S*C) (hm:m<M) (hr:r<S*C)
  (hcnt:s.cnt 0≤999998000000) (hsm:s.small 1000000):
  Calls Tryz.prog 26 #[.pointer (some ⟨b,0,none⟩),geo M C S,.int .i64 m,.int .i64 r] w fun e w'=>
   ∃v,e=.returned (.tuple #[v,.agg #[.int .i64 0,.int .u16 0]])/\w'.ownsRow w.heap.size 5 1 v 128 (ucells (sumL (xorTo (fun j=>s.sec j (1+r)) m M) 128))/\BayAt w' T b (s.ticks 0 (M-1))/\Chg (fun q=>T q≠0) w w':=by
 have hh:=hand_calm hc (1+r) (m:Int) M (by omega) (fun j hj=>by rw[hsz j hj];omega);have hM:=handed_but (m:Int) M (by omega) (by omega);rw[show handed (m:Int) M=M-1 by omega,show((1+r:Nat):Int)=1+(r:Int) by omega]at hh;refine(scrub_lost h M C S m r hg hn hm hr (by omega) hsm).mono fun e w' ⟨v,h1,h2,h3,h4⟩=> ?_
 rw[hh]at h1 h2 h3;exact⟨v,h1,h2.1 rfl,h3,h4⟩
structure Mended (s s':BaySt) (sz:Nat->Nat) (M p r:Nat):Prop where
 calm:CalmBay s' sz
 n:s'.n=s.n
 small:∀m,s.small m->s'.small (m+1)
 c0:s'.cnt 0=s.cnt 0+((M-1:Nat):Int)
 c1:s'.cnt 1=s.cnt 1+1
 c2:s'.cnt 2=s.cnt 2+1
 sec:∀j q,j<s.n->q<sz j->s'.sec j q=if j=p/\q=1+r then sumL (xorTo (fun j=>s.sec j (1+r)) p M) 128 else s.sec j q
 dry:∀j,s.dry j->s'.dry j
 dryp:s'.dry p
theorem calm_mend_plain {s:BaySt} {sz:Nat->Nat} (hc:CalmBay s sz) (M R p r:Nat) (hn:s.n=M+1) (hsz:∀m,m<M->sz m=1+R) (hp:p<M) (hr:r<R):∃s',s.mend M p r=(none,s')/\Mended s s' sz M p r:=by
 have hh:=hand_calm hc (1+r) (p:Int) M (by omega) (fun j hj=>by rw[hsz j hj];omega);have hM:=handed_but (p:Int) M (by omega) (by omega);rw[show handed (p:Int) M=M-1 by omega,show((1+r:Nat):Int)=1+(r:Int) by omega]at hh;have hc1:=hc.ticks 0 (M-1);obtain⟨s1,e1,hw,hsec,hdry,hcnt⟩:=write_calm hc1 p (1+r) (sumL (xorTo (fun j=>s.sec j (1+r)) p M) 128) (by show p<s.n;omega) (by rw[hsz p hp];omega) (sumL_length _ _);have hn1:s1.n=s.n:=hw.n;obtain⟨s2,e2,hf⟩:=flush_calm hw.calm p (by omega);rw[show((1+r:Nat):Int)=1+(r:Int) by omega]at e1;have hsec':∀j q,j<s.n->q<sz j->s2.sec j q=if j=p/\q=1+r then sumL (xorTo (fun j=>s.sec j (1+r)) p M) 128 else s.sec j q:=fun j q hj hq=>by
  rw[hf.sec j q (by omega) hq,hsec j q];rfl
 refine⟨s2,?_,⟨hf.calm,hf.n.trans hn1,fun m hm=>hf.small _ (hw.small m hm),?_,?_,?_,hsec',fun j hd=> ?_,hf.dry⟩⟩
 ·unfold BaySt.mend
  rw[hh];simp only [ne_eq,not_true_eq_false,if_false];rw[e1];simp only [not_true_eq_false,if_false];rw[e2];simp
 ·rw[hf.c0,hw.c0,cnt_ticks]
 ·rw[hf.c1,hcnt];rfl
 ·rw[hf.hi,hw.c2];rfl
 ·by_cases hj:j=p
  ·subst hj;exact hf.dry
  ·exact hf.rest j hj (hdry j hj hd)
theorem calm_mend {w:World} {T:Nat->Nat} {b:Nat} {s s':BaySt} (h:BayAt w T b s) (M C S r:Nat) (hg:geoIs M C S=true) (hn:s.n=M+1) (hr:r<S*C)
  (hcnt:s.cnt 0≤999998000000) (hcnt1:s.cnt 1≤999998000000) (hcnt2:s.cnt 2≤999998000000) (hsm:s.small 999999) (he:s.mend M (parOf M C r) r=(none,s')):
  Calls Tryz.prog 59 #[.pointer (some ⟨b,0,none⟩),geo M C S,.int .i64 r] w fun e w'=>
   e=.returned (.agg #[.int .i64 0,.int .u16 0])/\BayPost w T b s' w':=by
 refine(scrub_mend h M C S r hg hn hr (by omega) (by omega) (by omega) hsm).mono fun e' w' ⟨h1,h2⟩=> ?_
 rw[he]at h1 h2;exact⟨h1,h2⟩
open Go.RowKit
theorem zsec_ucells:(List.replicate (128*1) (Value.int .u8 0))=ucells zsec:=by
 unfold zsec ucells;rw[List.map_replicate];rfl
theorem ucells_set (l:List UInt8) (i:Nat) (x:UInt8):(ucells l).toArray.setIfInBounds i (.int .u8 ((x.toNat:Nat):Int))=(ucells (l.set i x)).toArray:=by
 apply Array.ext_getElem?;intro j;rw[Array.getElem?_setIfInBounds];simp only [List.getElem?_toArray,List.size_toArray,ucells_length];unfold ucells;rw[List.getElem?_map,List.getElem?_map,List.getElem?_set];by_cases h:i=j
 ·subst h
  by_cases hi:i<l.length
  ·simp[hi]
  ·simp[hi]
 ·simp[h]
theorem seg_row {w:World} {g:Nat} {l:List UInt8} (h:At w g (ucells l).toArray 5) (hl:l.length=128):w.ownsRow 0 5 1 (.slice (some ⟨g,0,none⟩) 128 128) 128 (ucells l):=by
 refine⟨by rw[ucells_length,hl],.inr ⟨g,128,(ucells l).toArray,rfl,Nat.zero_le _,h,Nat.le_refl _,by decide,by simp[ucells_length,hl],?_⟩⟩;rw[List.take_of_length_le (by rw[ucells_length];omega)]
theorem law_sector (x:UInt8) (w:World):
  Calls Tryz.prog 58 #[.int .u8 ((x.toNat:Nat):Int)] w fun e w'=>e=.returned (.slice (some ⟨w.heap.size,0,none⟩) 128 128)/\At w' w.heap.size (ucells (zsec.set 7 x)).toArray 5/\Below w.heap.size w w':=by
 have hset:=Lib.hid (ucells_set zsec 7 x);generalize hy:((x.toNat:Nat):Int)=y at*;clear hy;go_enter Tryz.func58,Tryz.ntmps58;go_wp2_with (refine wpList_make_same rfl _ _ 51 5 1 1 rfl slice_bytes (.int .u8 0) (by kernel_rfl) _ _ _ _ 128 rfl rfl rfl rfl (by omega) (by unfold maxLen;omega) ?_;intro w1 a1 b1;rw[zsec_ucells]at a1;have f0:=a1.free 7;have d0:w1.cell? ⟨w.heap.size,7,none⟩=some (.int .u8 0):=(a1.cell 7).trans (by simp[ucells,zsec]);have A1:=Lib.hid a1;clear a1);go_ret;refine⟨rfl,?_,b1.setCell (p:=⟨w.heap.size,7,none⟩) (Nat.le_refl _) _⟩;rw[<-hset.out];exact A1.out.set 7 _
def sizeL (M R:Nat):List Nat:=List.replicate M (1+R)++ [7]
theorem sizeL_length (M R:Nat):(sizeL M R).length=M+1:=by simp[sizeL]
theorem sizeL_at (M R m:Nat) (h:m<M):(sizeL M R).getD m 0=1+R:=by
 unfold sizeL;rw[List.getD_eq_getElem?_getD,List.getElem?_append_left (by simpa using h),List.getElem?_replicate,if_pos h];rfl
theorem law_sizes (M C S:Nat) (w:World) (hg:geoIs M C S=true):
  Calls Tryz.prog 18 #[geo M C S] w fun e w'=>∃v,e=.returned v/\w'.ownsRow (w.heap.size+1) 3 1 v (sizeL M (S*C)).length (kcells (sizeL M (S*C)))/\Below w.heap.size w w':=by
 obtain⟨g1,g2,g3,g4,g5,g6⟩:=(geoIs_iff M C S).1 hg;have hbd:=geo_bounds hg;have hR1:S*C≤4096:=by have:=hbd.2;exact_mod_cast this
 have hrows:Hid (∀W,Calls Tryz.prog 24 #[geo M C S] W fun e w'=>e=.returned (.int .i64 ((S*C:Nat):Int))/\Below W.heap.size W w'):=fun W=>(ref_rows M C S W).mono fun e w' ⟨x1,x2⟩=>⟨by rw[x1];unfold geoRows;rw[if_pos hg,Int.natCast_mul],x2⟩
 have e1:(w.alloc (.cells #[.int .i64 M,.int .i64 C,.int .i64 S] 23)).heap.size=w.heap.size+1:=size_alloc _ _;clear hbd;generalize S*C=R at*;unfold geo at*;go_enter Tryz.func18,Tryz.ntmps18;go_wp2;go_loopw [3,4] (fun v q wr=>∃k:Nat,k≤M/\q=.int .i64 k/\wr.ownsRow (w.heap.size+1) 3 1 v k (kcells (List.replicate k (1+R)))/\Below w.heap.size w wr/\At wr w.heap.size #[.int .i64 M,.int .i64 C,.int .i64 S] 23) (fun _ q _=>M-(intOf q).toNat);case atStart=>exact⟨0,by omega,rfl,World.ownsRow_nil _ _ _ _,(Below.refl _ _).alloc (Nat.le_refl _) _,At.new _ _ _⟩
 case round=>
  obtain⟨k,hk,rfl,hown,hbel,hA⟩:=hrel;have c0:=hA.cell 0;have c1:=hA.cell 1;have c2:=hA.cell 2;have HA:=Lib.hid hA;have HO:=Lib.hid hown;have hzl:=hA.lt;clear hA hown;by_cases hkM:k<M
  ·have K1:Hid (k+1≤M):=hkM
   go_wp2_with (first
    |(go_at_call 24;refine(hrows.out _).mono ?_;rintro e w2 ⟨rfl,hb2⟩;have hown2:=ownsRow_below HO.out hb2 (Nat.le_refl _))
    |(refine wpList_append_one rfl _ _ 57 3 8 rfl slice_ints (w.heap.size+1) u3 k _ rfl hown2 _ rfl rfl (by unfold maxLen;omega) (by omega) (by have:=hb2.size;omega) ?_;intro v' w5 hown5 hb5 hgr5))
   refine⟨⟨k+1,K1.out,by go_num,?_,(below_then hbel hb2).trans (hb5.mono (Nat.le_succ _)),(HA.out.below hb2 hzl).below hb5 (Nat.lt_succ_self _)⟩,by simp[intOf];omega⟩;rw[List.replicate_succ',kcells_snoc,show(((1+R:Nat)):Int)=1+(R:Int) by omega];exact hown5
  ·obtain rfl:k=M:=by omega
   go_wp2_with (first
    |(refine wpList_append_one rfl _ _ 57 3 8 rfl slice_ints (w.heap.size+1) u3 k _ rfl HO.out _ rfl rfl (by unfold maxLen;omega) (by omega) (by omega) ?_;intro v' w5 hown5 hb5 hgr5))
   go_ret;refine⟨v',rfl,?_,hbel.trans (hb5.mono (Nat.le_succ _))⟩;rw[sizeL_length];unfold sizeL;rw[kcells_snoc];exact hown5
open Go.RowKit
theorem seg_of_sec {w:World} {B:Nat} {v:Value} {l:List UInt8} (h:w.ownsRow B 5 1 v 128 (ucells l)):Seg w v l:=by
 have hl:l.length=128:=by have:=h.1;rw[ucells_length]at this;omega
 exact seg_of_owns (by rw[hl];exact h)
theorem sizeL_ok {M R:Nat} (hR:R≤4096):∀x∈sizeL M R,0<x/\x≤8192:=fun x hx=>by
 unfold sizeL at hx;rcases List.mem_append.1 hx with hx|hx
 ·obtain rfl:=List.eq_of_mem_replicate hx;omega
 ·simp at hx;omega
def newBay (M R:Nat):BaySt:=freshBay (sizeL M R) (sizeL M R).length
def newSz (M R:Nat):Nat->Nat:=fun k=>(sizeL M R).getD k 0
theorem newBay_calm {M R:Nat} (hR:R≤4096):CalmBay (newBay M R) (newSz M R):=fresh_calm _ fun x hx=>(sizeL_ok hR x hx).1
theorem newBay_n (M R:Nat):(newBay M R).n=M+1:=sizeL_length M R
theorem newSz_at {M R:Nat} (m:Nat) (h:m<M):newSz M R m=1+R:=sizeL_at M R m h
theorem newBay_small (M R m:Nat):(newBay M R).small m:=fresh_small _ m
theorem newBay_sec {M R:Nat} (k z:Nat) (hk:k<M+1) (hR:R≤4096):(newBay M R).sec k z=zsec:=by
 refine fresh_sec _ k z (by rw[sizeL_length];exact hk) ?_;have:(sizeL M R).getD k 0∈sizeL M R:=by
  rw[List.getD_eq_getElem?_getD,List.getElem?_eq_getElem (by rw[sizeL_length];exact hk)];exact List.getElem_mem _
 exact(sizeL_ok hR _ this).1
theorem law_newBay (M R:Nat) (v:Value) (B:Nat) (w:World) (hM:M≤16) (hR:R≤4096) (hv:w.ownsRow B 3 1 v (sizeL M R).length (kcells (sizeL M R))):
  Calls Tryz.prog 19 #[v] w fun e w'=>∃b T,e=.returned (.tuple #[.pointer (some ⟨b,0,none⟩),.int .u16 0])/\BayAt w' T b (newBay M R)/\(∀q,q<w.heap.size->T q=0)/\Below w.heap.size w w':=by
 refine(bay_new (sizeL M R) v B w hv (by rw[sizeL_length];omega) (by rw[sizeL_length];omega) (fun x hx=>(sizeL_ok hR x hx).2)).mono fun e w' ⟨b,h1,T,h2,h3,h4,h5⟩=>⟨b,T,h1,h2,h3,h5⟩
theorem one_written {M R m k:Nat} {x:Sec} (hR:R≤4096) (hm:m<M) (hk:k<R) (hx:x.length=128):
  ∃s',(newBay M R).write m (1+(k:Int)) x=(0,s')/\CalmBay s' (newSz M R)/\s'.n=M+1/\s'.small 1/\s'.cnt 0=0/\s'.cnt 1=1/\s'.cnt 2=0/\(∀j q,j<M+1->s'.sec j q=if j=m/\q=1+k then x else zsec):=by
 obtain⟨s',e,hw,hsec,-,hc⟩:=write_calm (newBay_calm (M:=M) hR) m (1+k) x (by rw[newBay_n];omega) (by rw[newSz_at m hm];omega) hx;rw[show((1+k:Nat):Int)=1+(k:Int) by omega]at e;exact⟨s',e,hw.calm,hw.n.trans (newBay_n M R),hw.small 0 (newBay_small M R 0),hw.c0,hc,hw.c2,fun j q hj=>by rw[hsec,newBay_sec j q hj hR]⟩
theorem one_uneven {s:BaySt} {M R m k i:Nat} {x:Sec} (hs:∀j q,j<M+1->s.sec j q=if j=m/\q=1+k then x else zsec) (hm:m<M) (hk:k<R) (hi:i<128) (hx:x.getD i 0≠0):uneven s M R= [k]:=by
 refine uneven_one s M k R hk (fun r hr hrk i hi=> ?_) fun hz=>hx ?_
 ·exact xorTo_zero _ _ i M (fun j hj _=>by rw[hs j _ (by omega),if_neg (by omega)])
 ·have:=hz i hi
  rw[xorTo_one (f:=fun m=>s.sec m (1+k)) (m:=m) (x:=x) (by show s.sec m (1+k)=x;rw[hs m _ (by omega),if_pos ⟨rfl,rfl⟩]) (-1) i M (fun j hj hjm=>by show s.sec j (1+k)=zsec;rw[hs j _ (by omega),if_neg (by omega)]),if_pos ⟨hm,by omega⟩]at this;exact this
structure Held (w:World) (T:Nat->Nat) (v:Value) (e:TypeId) (n:Nat) (xs:List Value):Prop where
 own:∃B,w.ownsRow B e 1 v n xs
 tag:∀g,v.ownBlock=some g->T g=0
theorem Held.chg {w w':World} {T:Nat->Nat} {v:Value} {e:TypeId} {n:Nat} {xs:List Value} (h:Held w T v e n xs) (hc:Chg (fun q=>T q≠0) w w'):Held w' T v e n xs:=by
 obtain⟨⟨B,h1⟩,h2⟩:=h;exact⟨⟨B,ownsRow_mod h1 hc (fun g hg e=>e (h2 g hg))⟩,h2⟩
theorem Held.alloc {w:World} {T:Nat->Nat} {v:Value} {e:TypeId} {n:Nat} {xs:List Value} (h:Held w T v e n xs) (o:Obj):Held (w.alloc o) T v e n xs:=h.chg ((Chg.refl _ _).alloc _)
theorem Held.retag {w:World} {T T':Nat->Nat} {v:Value} {e:TypeId} {n:Nat} {xs:List Value} (h:Held w T v e n xs) (hT:∀q,q<w.heap.size->T' q=T q):Held w T' v e n xs:=by
 obtain⟨⟨B,h1⟩,h2⟩:=h;exact⟨⟨B,h1⟩,fun g hg=>by rw[hT g (h1.lt g hg).2];exact h2 g hg⟩
theorem Held.new {w:World} {T:Nat->Nat} {v:Value} {e:TypeId} {n B:Nat} {xs:List Value} (h:w.ownsRow B e 1 v n xs) (hT:∀q,B≤q->T q=0):Held w T v e n xs:=⟨⟨B,h⟩,fun g hg=>hT g (h.lt g hg).1⟩
structure Kept (w:World) (T:Nat->Nat) (g:Nat) (cs:Array Value) (t:TypeId):Prop where
 at':At w g cs t
 tag:T g=0
theorem Kept.chg {w w':World} {T:Nat->Nat} {g:Nat} {cs:Array Value} {t:TypeId} (h:Kept w T g cs t) (hc:Chg (fun q=>T q≠0) w w'):Kept w' T g cs t:=⟨h.at'.mod hc (fun e=>e h.tag),h.tag⟩
theorem Kept.alloc {w:World} {T:Nat->Nat} {g:Nat} {cs:Array Value} {t:TypeId} (h:Kept w T g cs t) (o:Obj):Kept (w.alloc o) T g cs t:=h.chg ((Chg.refl _ _).alloc _)
theorem Kept.retag {w:World} {T T':Nat->Nat} {g:Nat} {cs:Array Value} {t:TypeId} (h:Kept w T g cs t) (hT:∀q,q<w.heap.size->T' q=T q):Kept w T' g cs t:=⟨h.at',by rw[hT g h.at'.lt];exact h.tag⟩
theorem Kept.post {w w':World} {T T':Nat->Nat} {g:Nat} {cs:Array Value} {t:TypeId} (h:Kept w T g cs t) (hT:∀q,q<w.heap.size->T' q=T q) (hc:Chg (fun q=>T q≠0) w w'):Kept w' T' g cs t:=⟨h.at'.mod hc (fun e=>e h.tag),by rw[hT g h.at'.lt];exact h.tag⟩
theorem Held.post {w w':World} {T T':Nat->Nat} {v:Value} {e:TypeId} {n:Nat} {xs:List Value} (h:Held w T v e n xs) (hT:∀q,q<w.heap.size->T' q=T q) (hc:Chg (fun q=>T q≠0) w w'):Held w' T' v e n xs:=by
 obtain⟨⟨B,h1⟩,h2⟩:=h;exact⟨⟨B,ownsRow_mod h1 hc (fun g hg e=>e (h2 g hg))⟩,fun g hg=>by rw[hT g (h1.lt g hg).2];exact h2 g hg⟩
theorem Held.cell {w:World} {T:Nat->Nat} {g c n:Nat} {e:TypeId} {xs:List Value} (h:Held w T (.slice (some ⟨g,0,none⟩) n c) e n xs) (hn:0<n) (i:Nat) (hi:i<n):w.cell? ⟨g,i,none⟩=xs[i]?:=by
 obtain⟨⟨B,h1⟩,-⟩:=h;obtain⟨g',cap,hv,-,-,hc,-⟩:=ownsRow_cell h1 hn;simp only [Value.slice.injEq,Option.some.injEq,Addr.mk.injEq]at hv;obtain⟨⟨rfl,-,-⟩,-,-⟩:=hv;exact hc i hi
theorem BayAt.more {w:World} {T:Nat->Nat} {b:Nat} {s:BaySt} (h:BayAt w T b s) (o:Obj):BayAt (w.alloc o) T b s:=h.keep (S:=fun _=>False) ((Chg.refl _ _).alloc _) (fun _ _ h=>h)
end Go.Proofs.YtljjjpakcbcioaaGreat
