/- Several texts in one: Img, RlQ, RlS, RlT. -/
import Derived.Test.YtebmephdnjccjaaGreatMrg32
import Derived.Test.YtebmephdnjccjaaGreatMrg5
import Derived.Test.YtebmephdnjccjaaGreatMrg31
import Derived.Test.YtebmephdnjccjaaGreatMrg33
import Derived.Deep.RegionLaw
import Derived.Laws.CopyOwn
import Derived.Test.YtebmephdnjccjaaGreatMrg7
set_option linter.unusedVariables false
set_option maxRecDepth 100000
set_option maxHeartbeats 4000000
namespace Go.Proofs.YtebmephdnjccjaaGreat
open Go.RowKit
theorem secCells_take_succ {l:List Sec} {k:Nat} (hk:k<l.length):secCells (l.take (k+1))=secCells (l.take k)++ucells l[k]:=by
 rw[List.take_succ_eq_append_getElem hk];unfold secCells;rw[List.flatMap_append,List.flatMap_singleton]
theorem disk_image (T:Nat->Nat) (t p:Nat) (d:Dsk) (w:World) (h:DiskAt w T t p d):
  Calls Tryz.prog 68 #[.pointer (some ⟨p,0,none⟩)] w fun e w'=>∃v,e=.returned v/\Below w.heap.size w w'/\(d.failed=false->w'.ownsRow w.heap.size 5 1 v (d.last.length*128) (secCells d.last))/\(d.failed=true->v=.slice none 0 0):=by
 obtain⟨gl,gm,cv,f,h1,h2,h3,h4,h5,h6,h7,h8⟩:=h.at';have hfew:=h.few;have hlen:=Lib.hid h.len;have c0:w.cell? ⟨p,0,none⟩=some (.slice (some ⟨gl,0,none⟩) d.last.length d.last.length):=h1.cell 0;have c3:w.cell? ⟨p,3,none⟩=some (.bool d.failed):=h1.cell 3;have H1:=Lib.hid h1;have H2:=Lib.hid h2;clear h h1 h2 h3 h4 h5 h6 h7 h8;cases hf:d.failed
 ·rw[hf]at c3
  obtain⟨n,hn⟩:∃n,n=d.last.length:=⟨_,rfl⟩;have HN:=Lib.hid hn;rw[<-hn]at c0 hfew;rw[<-hn];clear hn;go_enter Tryz.func68,Tryz.ntmps68;obtain⟨u1,u0,ui,uz,u2,u3,u4,u5,u6⟩:=slice_bytes;go_wp2_with (refine wpList_make_own w rfl _ _ 35 rfl w.heap.size 5 ui uz 1 u1 u2 u3 u4 _ _ _ (n*128) rfl rfl (by omega) (by rw[u5];omega) (by unfold maxLen;omega) (Nat.le_refl _) ?_;intro w1 a1 b1;have HA1:=Lib.hid a1;have HB1:Hid (Below w.heap.size w w1):=(Below.refl _ _).grown b1 (Nat.le_refl _) (fun k hk=>by simp at hk);have d0:w1.cell? ⟨p,0,none⟩=some (.slice (some ⟨gl,0,none⟩) n n):=(HB1.out.cell (p:=⟨p,0,none⟩) H1.out.lt).trans c0;clear a1 b1);clear c0 c3 d0;go_loopw [3,4,21] (fun b s4 q wx=>∃k:Nat,k≤n/\q=.int .i64 k/\wx.ownsRow w.heap.size 5 1 b (k*128) (secCells (d.last.take k))/\Below w.heap.size w wx) (fun _ _ q _=>n-(intOf q).toNat);case atStart=>exact⟨0,by omega,rfl,by simpa [secCells]using HA1.out,HB1.out⟩
  case round=>
   obtain⟨k,hk,rfl,hown,hb⟩:=hrel;have HO:=Lib.hid hown;have HB:=Lib.hid hb;have c0:wr.cell? ⟨p,0,none⟩=some (.slice (some ⟨gl,0,none⟩) n n):=by
    have:=(hb.cell (p:=⟨p,0,none⟩) H1.out.lt).trans (H1.out.cell 0);rw[<-HN.out]at this;exact this
   clear hown hb;by_cases hk2:k<n
   ·have K1:Hid (k+1≤n):=hk2
    have hkl:k<d.last.length:=by rw[<-HN.out];exact hk2
    obtain⟨s0,hs0⟩:∃s0,s0=d.last[k]:=⟨_,rfl⟩;have HS:Hid (secCells (d.last.take (k+1))=secCells (d.last.take k)++ucells s0):=by rw[hs0];exact secCells_take_succ hkl
    have HL:Hid (s0.length=128):=by rw[hs0];exact hlen.out _ (List.getElem_mem hkl)
    have HG:Hid (wr.heap.size≥w.heap.size):=HB.out.size;have HC:Hid (∀ad:Addr,some (⟨gl,k*128,none⟩:Addr)=some ad->∀j u,(ucells s0)[j]?=some u->wr.cell? (ad.add j)=some u):=by
     intro ad had j u hu;obtain rfl:=Option.some.inj had;have hj:j<128:=by have:=(List.getElem?_eq_some_iff.1 hu).1;rw[ucells_length,HL.out]at this;exact this
     rw[Addr.add_lit,HB.out.cell (p:=⟨gl,k*128+j,none⟩) H2.out.lt,H2.out.cell,List.getElem?_toArray,secCells_at hlen.out k j hkl hj,<-hs0];exact hu
    clear hs0 hkl;go_wp2_with (refine wpList_append_many rfl _ _ 35 5 1 1 rfl slice_bytes w.heap.size _ (k*128) _ rfl HO.out (some ⟨gl,k*128,none⟩) 128 128 (ucells s0) rfl (by rw[ucells_length,HL.out]) (fun e=>by cases e) HC.out (ucells_one _) (by unfold maxLen;omega) (by omega) HG.out ?_;intro v1 w2 hown1 hb1 hg1;have HO1:=Lib.hid hown1;have HB1:=Lib.hid (HB.out.trans hb1);clear hown1 hb1 hg1);go_roundw;case rel=>exact⟨k+1,K1.out,by go_num,by rw[HS.out,Nat.add_mul,Nat.one_mul];exact HO1.out,HB1.out⟩
    case measure=>simp[intOf];have:=K1.out;omega
   ·obtain rfl:k=n:=by omega
    have HT:Hid (d.last.take k=d.last):=List.take_of_length_le (by rw[HN.out];omega);rw[HT.out]at HO;go_wp2;go_ret;exact⟨_,rfl,HB.out,fun _=>HO.out,fun e=>by cases e⟩
 ·rw[hf]at c3
  go_enter Tryz.func68,Tryz.ntmps68;go_wp2;go_ret;exact⟨_,rfl,Below.refl _ _,fun e=>(by cases e),fun _=>rfl⟩
def BaySt.image (s:BaySt) (k:Int):Nat×Option (List Sec):=
 if 0≤k/\k<(s.n:Int)then (match s.pos (k.toNat*3)with|none=>(51,none)|some x=>(0,if x.d.failed=true then none else some x.d.last))else (1,none)
def ImagePost (w:World) (r:Nat×Option (List Sec)) (e:Ending) (w':World):Prop:=
 ∃v,e=.returned (.tuple #[v,.int .u16 ((r.1:Nat):Int)])/\Below w.heap.size w w'/\(∀l,r.2=some l->l.length≤8192/\w'.ownsRow w.heap.size 5 1 v (l.length*128) (secCells l))/\(r.2=none->v=.slice none 0 0)
theorem bay_image {w:World} {T:Nat->Nat} {b:Nat} {s:BaySt} (h:BayAt w T b s) (k:Int):
  Calls Tryz.prog 31 #[.pointer (some ⟨b,0,none⟩),.int .i64 k] w (ImagePost w (s.image k)):=by
 obtain⟨gs,ptr,tg,dp,h⟩:=h;by_cases hno:¬s.is k\/(s.is k/\s.pos (k.toNat*3)=none)
 ·have hth:=Lib.hid (there_none h k hno)
  have hne:s.why k=51\/s.why k=1:=s.why_is k;have hr:s.image k=((s.why k).toNat,none):=by
   unfold BaySt.image BaySt.why;rcases hno with hno|⟨h1,h2⟩
   ·unfold BaySt.is at hno;rw[if_neg hno,if_neg hno];rfl
   ·unfold BaySt.is at h1;rw[if_pos h1,if_pos h1,h2];rfl
  rw[hr];clear hr h hno;generalize s.why k=z at*;rcases hne with rfl|rfl
  all_goals
   go_enter Tryz.func31,Tryz.ntmps31
   go_wp2_with (first
    |(go_at_call 67;(with_reducible refine hth.out.mono ?_);rintro e w1 ⟨rfl,hw⟩;obtain rfl:w=w1:=hw.symm))
   go_ret2
   exact⟨_,rfl,Below.refl _ _,fun l hl=>(by cases hl),fun _=>rfl⟩
 ·have his:s.is k:=Classical.byContradiction fun e=>hno (.inl e)
  have hsome:s.pos (k.toNat*3)≠none:=fun e=>hno (.inr ⟨his,e⟩)
  have his2:0≤k/\k<(s.n:Int):=his;obtain⟨k,rfl⟩:∃q:Nat,k=q:=⟨k.toNat,by omega⟩;rw[Int.toNat_natCast]at hsome;obtain⟨x,hx⟩:∃x,s.pos (k*3)=some x:=by
   cases hq:s.pos (k*3)with
   |none=>exact absurd hq hsome
   |some x=>exact⟨x,rfl⟩
  have hr:s.image (k:Int)=(0,if x.d.failed=true then none else some x.d.last):=by
   unfold BaySt.image;rw[if_pos his2,Int.toNat_natCast,hx]
  rw[hr];obtain⟨o,ho⟩:∃o,o=if x.d.failed=true then none else some x.d.last:=⟨_,rfl⟩;rw[<-ho];have HO:=Lib.hid ho;obtain⟨dv,hp,hD⟩:=h.some' (k*3) (by omega) x hx;have hth:=Lib.hid (bay_there h k dv (by omega) hp);have d0:w.cell? ⟨dv,0,none⟩=some (.pointer (some ⟨dp (k*3),0,none⟩)):=hD.dev.cell 0;have HF:=Lib.hid (disk_image T (tg (k*3)) (dp (k*3)) x.d w hD.disk);have hfw:=Lib.hid hD.disk.few;clear hr h hno his his2 hsome hx hp hD ho;generalize dp (k*3)=gd at*;go_enter Tryz.func31,Tryz.ntmps31
  go_wp2_with (first
   |(go_at_call 67;(with_reducible refine hth.out.mono ?_);rintro e w1 ⟨rfl,hw⟩;obtain rfl:w=w1:=hw.symm)
   |(go_at_call 68;(with_reducible refine HF.out.mono ?_);rintro e w2 ⟨v,rfl,hb,hv1,hv2⟩;have HV1:=Lib.hid hv1;have HV2:=Lib.hid hv2;have HB:=Lib.hid hb;clear hv1 hv2 hb d0))
  go_ret2;refine⟨_,rfl,HB.out,fun l hl=> ?_,fun hl=> ?_⟩
  ·have hl2:o=some l:=hl
   rw[HO.out]at hl2;cases hf:x.d.failed
   ·rw[hf,if_neg (by simp)]at hl2
    obtain rfl:=Option.some.inj hl2;exact⟨hfw.out,HV1.out hf⟩
   ·rw[hf,if_pos rfl]at hl2;cases hl2
  ·have hl2:o=none:=hl
   rw[HO.out]at hl2;cases hf:x.d.failed
   ·rw[hf,if_neg (by simp)]at hl2;cases hl2
   ·exact HV2.out hf
theorem image_some {s:BaySt} {i:Nat} {x:Dev} (hi:i<s.n) (hx:s.pos (i*3)=some x):s.image (i:Int)=(0,if x.d.failed=true then none else some x.d.last):=by
 unfold BaySt.image;rw[if_pos (by omega),Int.toNat_natCast,hx]
open Go.RowKit
theorem secCells_flat (L:List Sec):secCells L=ucells L.flatten:=by
 unfold secCells ucells;rw[List.map_flatten,List.flatMap_def]
theorem flatten_length {L:List Sec} (h:∀s∈L,s.length=128):L.flatten.length=128*L.length:=by
 have:=secCells_length h;rw[secCells_flat,ucells_length]at this;omega
open Go.RowKit
def Tidy (W:World) (T:Nat->Nat):Prop:=∀q cs,(At W q cs 5\/At W q cs 76)->T q=0
open Classical in
noncomputable def tidy (W:World) (T:Nat->Nat) (q:Nat):Nat:=if ∃cs,At W q cs 5\/At W q cs 76 then 0 else T q
theorem tidy_is (W:World) (T:Nat->Nat):Tidy W (tidy W T):=fun q cs h=>if_pos ⟨cs,h⟩
theorem tidy_zero {W:World} {T:Nat->Nat} {q:Nat} (h:T q=0):tidy W T q=0:=by
 unfold tidy;split
 ·rfl
 ·exact h
theorem tidy_no {W:World} {T:Nat->Nat} {q:Nat} (h:∀cs,¬At W q cs 5/\¬At W q cs 76):tidy W T q=T q:=if_neg fun ⟨cs,e⟩=>e.elim (h cs).1 (h cs).2
theorem at_type {w:World} {g:Nat} {cs cs':Array Value} {t t':TypeId} (h:At w g cs t) (h':At w g cs' t'):t=t':=by
 unfold At at h h';rw[h]at h';simp only [Option.some.injEq,Obj.cells.injEq]at h';exact h'.2.1
theorem tidy_at {W:World} {T:Nat->Nat} {g:Nat} {cs:Array Value} {t:TypeId} (h:At W g cs t) (h1:t≠5) (h2:t≠76):tidy W T g=T g:=tidy_no fun cs'=>⟨fun e=>h1 (at_type h e),fun e=>h2 (at_type h e)⟩
theorem tidy_ne {W:World} {T:Nat->Nat} {q:Nat} (h:tidy W T q≠0):T q≠0:=fun e=>h (tidy_zero e)
theorem DiskAt.tidy {W:World} {T:Nat->Nat} {t p:Nat} {d:Dsk} (h:DiskAt W T t p d):DiskAt W (tidy W T) t p d:=by
 obtain⟨gl,gm,cv,f,h1,h2,h3,h4,h5,h6,h7,h8⟩:=h.at';exact⟨⟨gl,gm,cv,f,h1,h2,h3,h4,h5,(tidy_at h2 (by decide) (by decide)).trans h6,(tidy_no fun cs=>⟨h4.noCells,h4.noCells⟩).trans h7,fun g hg=>(tidy_no fun cs=>⟨fun e=>own_ne_at h3 e (by decide) hg,fun e=>own_ne_at h3 e (by decide) hg⟩).trans (h8 g hg)⟩,(tidy_at h1 (by decide) (by decide)).trans h.tag,h.len,h.clen,h.cin,h.few,h.some'⟩
theorem BayAt.tidy {W:World} {T:Nat->Nat} {b:Nat} {s:BaySt} (h:BayAt W T b s):BayAt W (tidy W T) b s:=by
 obtain⟨gs,ptr,tg,dp,h⟩:=h;refine⟨gs,ptr,tg,dp,h.bay,h.slots,(tidy_at h.bay (by decide) (by decide)).trans h.tb,(tidy_at h.slots (by decide) (by decide)).trans h.ts,fun i hi x hx=> ?_,h.none',h.apart,h.own,fun k hk=>tidy_zero (h.virgin k hk),h.few,h.cl,h.trl,h.trh⟩;obtain⟨dv,h1,h2⟩:=h.some' i hi x hx;exact⟨dv,h1,h2.dev,(tidy_at h2.dev (by decide) (by decide)).trans h2.tag,h2.two,h2.disk.tidy,h2.lo,h2.hi⟩
theorem RwIn.tidy {W:World} {T:Nat->Nat} {A:Adr} {R:RS} {lg:Option Nat} {vw:Value} {X:List OP} (h:RwIn W T A R lg vw X):RwIn W (tidy W T) A R lg vw X:=
 ⟨h.bay.tidy,h.rw,h.fr,h.wt,fun g hg=>tidy_zero (h.wtT g hg),fun x hx g hg=>tidy_zero (h.wtX x hx g hg),h.wtM,h.wal,h.ring,tidy_zero h.tq,tidy_zero h.tf,tidy_zero h.tw,tidy_zero h.tr⟩
theorem own_block {w:World} {B n sz:Nat} {t:TypeId} {v:Value} {xs:List Value} (h:w.ownsRow B t sz v n xs) {g:Nat} (hg:v.ownBlock=some g):∃cs,At w g cs t:=by
 rcases h.2 with ⟨h,_⟩|⟨g',cap,cur,hv,hb,hgt,hc,hm,hs,ht⟩
 ·rw[h]at hg;cases hg
 ·rw[hv]at hg
  have:g'=g:=Option.some.inj hg;subst this;exact⟨cur,hgt⟩
theorem Tidy.own {W:World} {T:Nat->Nat} (h:Tidy W T) {B n sz:Nat} {t:TypeId} {v:Value} {xs:List Value} (ho:W.ownsRow B t sz v n xs) (ht:t=5\/t=76) {g:Nat} (hg:v.ownBlock=some g):T g=0:=by
 obtain⟨cs,hc⟩:=own_block ho hg;rcases ht with rfl|rfl
 ·exact h g cs (.inl hc)
 ·exact h g cs (.inr hc)
structure Ln (w0 W:World) (T:Nat->Nat) (A:Adr) (R:RS):Prop where
 rw:∃lg vw X,RwIn W T A R lg vw X
 old:∀q,q<w0.heap.size->T q=0/\¬A.has q
 bel:Below w0.heap.size w0 W
section
variable {w0 W W':World} {T T':Nat->Nat} {A:Adr} {R R':RS} {V:Nat->Nat->Sec}
theorem LAt.ln (h:LAt w0 W T A R V):Ln w0 W T A R:=⟨h.rw,h.old,h.bel⟩
theorem Ln.below (h:Ln w0 W T A R) (hb:Below W.heap.size W W'):Ln w0 W' T A R:=by
 obtain⟨lg,vw,X,hr⟩:=h.rw;exact⟨⟨lg,vw,X,hr.below hb⟩,h.old,h.bel.trans (hb.mono h.bel.size)⟩
theorem Ln.virg (h:Ln w0 W T A R) (q:Nat) (hq:W.heap.size≤q):T q=0:=by
 obtain⟨lg,vw,X,hr⟩:=h.rw;exact bay_virgin' hr.bay q hq
theorem Ln.off (h:Ln w0 W T A R) (q:Nat) (hq:W.heap.size≤q):¬A.has q:=by
 obtain⟨lg,vw,X,hr⟩:=h.rw;exact hr.low.ne hq
theorem Ln.tidy (h:Ln w0 W T A R):Ln w0 W (tidy W T) A R:=by
 obtain⟨lg,vw,X,hr⟩:=h.rw;exact⟨⟨lg,vw,X,hr.tidy⟩,fun q hq=>⟨tidy_zero (h.old q hq).1,(h.old q hq).2⟩,h.bel⟩
theorem Ln.next (h:Ln w0 W T A R) (s:Stp W T A W' T'):(∀q,q<w0.heap.size->T' q=0/\¬A.has q)/\Below w0.heap.size w0 W':=by
 have hs:=h.bel.size;refine⟨fun q hq=>⟨(s.tags q (by omega)).trans (h.old q hq).1,(h.old q hq).2⟩,h.bel.trans (s.chg.below fun q hq=>⟨by omega,fun e=>e.elim (fun e=>e (h.old q hq).1) (h.old q hq).2⟩)⟩
theorem Ln.step (h:Ln w0 W T A R) (hr:∃lg vw X,RwIn W' T' A R' lg vw X) (s:Stp W T A W' T'):Ln w0 W' T' A R':=⟨hr,(h.next s).1,(h.next s).2⟩
end
structure Two (w0 W:World) (T1:Nat->Nat) (A1:Adr) (R1:RS) (T2:Nat->Nat) (A2:Adr) (R2:RS):Prop where
 one:Ln w0 W T1 A1 R1
 two:Ln w0 W T2 A2 R2
 t1:Tidy W T1
 t2:Tidy W T2
 tt:∀q,T1 q≠0->T2 q=0
 ta:∀q,A2.has q->T1 q=0
 at':∀q,A1.has q->T2 q=0
 aa:∀q,A1.has q->¬A2.has q
section
variable {w0 W W':World} {T1 T2 T1':Nat->Nat} {A1 A2:Adr} {R1 R2 R1':RS}
theorem Two.swap (h:Two w0 W T1 A1 R1 T2 A2 R2):Two w0 W T2 A2 R2 T1 A1 R1:=
 ⟨h.two,h.one,h.t2,h.t1,fun q hq=>Classical.byContradiction fun e=>hq (h.tt q e),h.at',h.ta,fun q h1 h2=>h.aa q h2 h1⟩
theorem Ln.hasAt (h:Ln w0 W T1 A1 R1) {q:Nat} (hq:A1.has q):∃cs t,At W q cs t/\(t=93\/t=110\/t=167\/t=3):=by
 obtain⟨lg,vw,X,hr⟩:=h.rw;rcases hq with e|e|e|e<;>subst e
 ·exact⟨_,_,hr.rw,.inl rfl⟩
 ·exact⟨_,_,hr.wal,.inr (.inl rfl)⟩
 ·exact⟨_,_,hr.ring,.inr (.inr (.inl rfl))⟩
 ·exact⟨_,_,hr.fr,.inr (.inr (.inr rfl))⟩
theorem Two.offRow (h:Two w0 W T1 A1 R1 T2 A2 R2) {B n sz:Nat} {t:TypeId} {v:Value} {xs:List Value} (ho:W.ownsRow B t sz v n xs) (ht:t=5\/t=76) {g:Nat} (hg:v.ownBlock=some g):¬(T1 g≠0\/A1.has g):=by
 rintro (e|e)
 ·exact e (h.t1.own ho ht hg)
 ·obtain⟨cs,t',ha,ht'⟩:=h.one.hasAt e
  refine own_ne_at ho ha ?_ hg;rcases ht with rfl|rfl<;>rcases ht' with rfl|rfl|rfl|rfl<;>decide
theorem Two.below (h:Two w0 W T1 A1 R1 T2 A2 R2) (hb:Below W.heap.size W W'):Two w0 W' (tidy W' T1) A1 R1 (tidy W' T2) A2 R2:=
 ⟨(h.one.below hb).tidy,(h.two.below hb).tidy,tidy_is _ _,tidy_is _ _,fun q hq=>tidy_zero (h.tt q (tidy_ne hq)),fun q hq=>tidy_zero (h.ta q hq),fun q hq=>tidy_zero (h.at' q hq),h.aa⟩
theorem Two.step (h:Two w0 W T1 A1 R1 T2 A2 R2) (hl:Ln w0 W' T1' A1 R1') (hs:Stp W T1 A1 W' T1'):Two w0 W' (tidy W' T1') A1 R1' (tidy W' T2) A2 R2:=by
 have hS:∀q,(T1 q≠0\/A1.has q)->T2 q=0/\¬A2.has q:=by
  rintro q (e|e)
  ·exact⟨h.tt q e,fun e2=>e (h.ta q e2)⟩
  ·exact⟨h.at' q e,h.aa q e⟩
 have hold:∀q,q<W.heap.size->T1' q=T1 q:=hs.tags;obtain⟨lg,vw,X,hr⟩:=h.two.rw;have hr':RwIn W' T2 A2 R2 lg vw X:=by
  have hc:=hs.chg;refine⟨hr.bay.keep hc (fun k hk e=>hk (hS k e).1),hr.rw.mod hc (fun e=>(hS _ e).2 (.inl rfl)),hr.fr.mod hc (fun e=>(hS _ e).2 (.inr (.inr (.inr rfl)))),hr.wt.mod hc (fun g hg=>h.offRow hr.wt.row (.inr rfl) hg) (fun x hx g hg=>h.offRow (hr.wt.dat x hx) (.inl rfl) hg),hr.wtT,hr.wtX,hr.wtM,hr.wal.mod hc (fun e=>(hS _ e).2 (.inr (.inl rfl))),hr.ring.mod hc (fun e=>(hS _ e).2 (.inr (.inr (.inl rfl)))),hr.tq,hr.tf,hr.tw,hr.tr⟩
 have htwo:Ln w0 W' T2 A2 R2:=⟨⟨lg,vw,X,hr'⟩,h.two.old,hl.bel⟩;refine⟨hl.tidy,htwo.tidy,tidy_is _ _,tidy_is _ _,fun q hq=>tidy_zero ?_,fun q hq=>tidy_zero ?_,fun q hq=>tidy_zero (h.at' q hq),h.aa⟩
 ·by_cases hlt:q<W.heap.size
  ·exact h.tt q (by rw[<-hold q hlt];exact tidy_ne hq)
  ·exact h.two.virg q (by omega)
 ·have hlt:q<W.heap.size:=Classical.byContradiction fun e=>h.two.off q (by omega) hq
  rw[hold q hlt];exact h.ta q hq
theorem Two.start {w3 w4:World} (h1:Ln w0 w3 T1 A1 R1) (h2:Ln w3 w4 T2 A2 R2):Two w0 w4 (tidy w4 T1) A1 R1 (tidy w4 T2) A2 R2:=by
 have hs:=h1.bel.size;have h1':=h1.below h2.bel;have h2':Ln w0 w4 T2 A2 R2:=⟨h2.rw,fun q hq=>h2.old q (by omega),h1'.bel⟩;have hv:∀q,T1 q≠0->q<w3.heap.size:=fun q e=>Classical.byContradiction fun e2=>e (h1.virg q (by omega))
 have ha:∀q,A1.has q->q<w3.heap.size:=fun q e=>Classical.byContradiction fun e2=>h1.off q (by omega) e
 refine⟨h1'.tidy,h2'.tidy,tidy_is _ _,tidy_is _ _,fun q hq=>tidy_zero (h2.old q (hv q (tidy_ne hq))).1,fun q hq=>tidy_zero (Classical.byContradiction fun e=>(h2.old q (hv q e)).2 hq),fun q hq=>tidy_zero (h2.old q (ha q hq)).1,fun q hq=>(h2.old q (ha q hq)).2⟩
end
open Go.RowKit
structure Bx (W:World) (T1 T2:Nat->Nat) (g:Nat) (cs:Array Value) (t:TypeId):Prop where
 at':At W g cs t
 t1:T1 g=0
 t2:T2 g=0
section
variable {w0 W W':World} {T1 T2 T1':Nat->Nat} {A1 A2:Adr} {R1 R2 R1':RS} {V1 V2 V1':Nat->Nat->Sec} {fr0:Nat->Int} {M C S ring a b a' b':Nat} {D1 D2 D1':Nat->Sec}
theorem Bx.swap {g:Nat} {cs:Array Value} {t:TypeId} (k:Bx W T1 T2 g cs t):Bx W T2 T1 g cs t:=⟨k.at',k.t2,k.t1⟩
theorem Bx.below {g:Nat} {cs:Array Value} {t:TypeId} (k:Bx W T1 T2 g cs t) (hb:Below W.heap.size W W'):Bx W' (tidy W' T1) (tidy W' T2) g cs t:=⟨k.at'.below hb k.at'.lt,tidy_zero k.t1,tidy_zero k.t2⟩
end
end Go.Proofs.YtebmephdnjccjaaGreat
