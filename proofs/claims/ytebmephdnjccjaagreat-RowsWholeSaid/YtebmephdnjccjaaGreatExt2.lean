/- Several texts in one: Img, RlQ, RlS, RlT. -/
import Derived.Test.YtebmephdnjccjaaGreatMrg32
import Derived.Test.YtebmephdnjccjaaGreatMrg5
import Derived.Test.YtebmephdnjccjaaGreatExt1
import Derived.Test.YtebmephdnjccjaaGreatMrg7
import Derived.Test.YtebmephdnjccjaaGreatMrg31
set_option linter.unusedVariables false
set_option maxRecDepth 100000
set_option maxHeartbeats 4000000
namespace Go.Proofs.YtebmephdnjccjaaGreat
open Go.RowKit
theorem secCells_take_succ {l:List Sec} {k:Nat} (hk:k<l.length):secCells (l.take (k+1))=secCells (l.take k)++ucells l[k]:=by
 rw[List.take_succ_eq_append_getElem hk];unfold secCells;rw[List.flatMap_append,List.flatMap_singleton]
theorem disk_image (T:Nat->Nat) (t p:Nat) (d:Dsk) (w:World) (h:DiskAt w T t p d):
  Calls Tryz.prog 68 #[.pointer (some ⟨p,0,none⟩)] w fun e w'=>∃v,e=.returned v/\Below w.heap.size w w'/\(d.failed=false->w'.ownsRow w.heap.size 5 1 v (d.last.length*128) (secCells d.last))/\(d.failed=true->v=.slice none 0 0):=by
 obtain⟨gl,gm,cv,f,h1,h2,h3,h4,h5,h6,h7,h8⟩:=h.at';have hfew:=h.few;have hlen:=Lib.hid h.len;have c0:w.cell? ⟨p,0,none⟩=some (.slice (some ⟨gl,0,none⟩) d.last.length d.last.length):=h1.cell 0;have c3:w.cell? ⟨p,3,none⟩=some (.bool d.failed):=h1.cell 3;have H1:=Lib.hid h1;have H2:=Lib.hid h2;clear h h1 h2 h3 h4 h5 h6 h7 h8;cases hf:d.failed
 ·rw[hf]at c3
  obtain⟨n,hn⟩:∃n,n=d.last.length:=⟨_,rfl⟩;have HN:=Lib.hid hn;rw[<-hn]at c0 hfew;rw[<-hn];clear hn;go_enter Tryz.func68,Tryz.ntmps68;obtain⟨u1,u0,ui,uz,u2,u3,u4,u5,u6⟩:=slice_bytes;go_wp2_with (refine wpList_make_own w rfl _ _ 35 rfl w.heap.size 5 ui uz 1 u1 u2 u3 u4 _ _ _ (n*128) rfl rfl (by omega) (by rw[u5];omega) (by unfold maxLen;omega) (Nat.le_refl _) ?_;intro w1 a1 b1;have HA1:=Lib.hid a1;have HB1:Hid (Below w.heap.size w w1):=(Below.refl _ _).grown b1 (Nat.le_refl _) (fun k hk=>by simp at hk);have d0:w1.cell? ⟨p,0,none⟩=some (.slice (some ⟨gl,0,none⟩) n n):=(HB1.out.cell (p:=⟨p,0,none⟩) H1.out.lt).trans c0;clear a1 b1);clear c0 c3 d0;go_loopw [3,4,21] (fun b s4 q wx=>∃k:Nat,k≤n/\q=.int .i64 k/\wx.ownsRow w.heap.size 5 1 b (k*128) (secCells (d.last.take k))/\Below w.heap.size w wx) (fun _ _ q _=>n-(intOf q).toNat);case atStart=>exact⟨0,by omega,rfl,by simpa [secCells]using HA1.out,HB1.out⟩
  case round=>
   obtain⟨k,hk,rfl,hown,hb⟩:=hrel;have HO:=Lib.hid hown;have HB:=Lib.hid hb;have c0:wr.cell? ⟨p,0,none⟩=some (.slice (some ⟨gl,0,none⟩) n n):=by
    have:=(hb.cell (p:=⟨p,0,none⟩) H1.out.lt).trans (H1.out.cell 0);rw[<-HN.out]at this;exact this
   clear hown hb;by_cases hk2:k<n
   ·have K1:Hid (k+1≤n):=hk2
    have hkl:k<d.last.length:=by rw[<-HN.out];exact hk2
    obtain⟨s0,hs0⟩:∃s0,s0=d.last[k]:=⟨_,rfl⟩;have HS:Hid (secCells (d.last.take (k+1))=secCells (d.last.take k)++ucells s0):=by rw[hs0];exact secCells_take_succ hkl
    have HL:Hid (s0.length=128):=by rw[hs0];exact hlen.out _ (List.getElem_mem hkl)
    have HG:Hid (wr.heap.size≥w.heap.size):=HB.out.size;have HC:Hid (∀ad:Addr,some (⟨gl,k*128,none⟩:Addr)=some ad->∀j u,(ucells s0)[j]?=some u->wr.cell? (ad.add j)=some u):=by
     intro ad had j u hu;obtain rfl:=Option.some.inj had;have hj:j<128:=by have:=(List.getElem?_eq_some_iff.1 hu).1;rw[ucells_length,HL.out]at this;exact this
     rw[Addr.add_lit,HB.out.cell (p:=⟨gl,k*128+j,none⟩) H2.out.lt,H2.out.cell,List.getElem?_toArray,secCells_at hlen.out k j hkl hj,<-hs0];exact hu
    clear hs0 hkl;go_wp2_with (refine wpList_append_many rfl _ _ 35 5 1 1 rfl slice_bytes w.heap.size _ (k*128) _ rfl HO.out (some ⟨gl,k*128,none⟩) 128 128 (ucells s0) rfl (by rw[ucells_length,HL.out]) (fun e=>by cases e) HC.out (ucells_one _) (by unfold maxLen;omega) (by omega) HG.out ?_;intro v1 w2 hown1 hb1 hg1;have HO1:=Lib.hid hown1;have HB1:=Lib.hid (HB.out.trans hb1);clear hown1 hb1 hg1);go_roundw;case rel=>exact⟨k+1,K1.out,by go_num,by rw[HS.out,Nat.add_mul,Nat.one_mul];exact HO1.out,HB1.out⟩
    case measure=>simp[intOf];have:=K1.out;omega
   ·obtain rfl:k=n:=by omega
    have HT:Hid (d.last.take k=d.last):=List.take_of_length_le (by rw[HN.out];omega);rw[HT.out]at HO;go_wp2;go_ret;exact⟨_,rfl,HB.out,fun _=>HO.out,fun e=>by cases e⟩
 ·rw[hf]at c3
  go_enter Tryz.func68,Tryz.ntmps68;go_wp2;go_ret;exact⟨_,rfl,Below.refl _ _,fun e=>(by cases e),fun _=>rfl⟩
def BaySt.image (s:BaySt) (k:Int):Nat×Option (List Sec):=
 if 0≤k/\k<(s.n:Int)then (match s.pos (k.toNat*3)with|none=>(51,none)|some x=>(0,if x.d.failed=true then none else some x.d.last))else (1,none)
def ImagePost (w:World) (r:Nat×Option (List Sec)) (e:Ending) (w':World):Prop:=
 ∃v,e=.returned (.tuple #[v,.int .u16 ((r.1:Nat):Int)])/\Below w.heap.size w w'/\(∀l,r.2=some l->l.length≤8192/\w'.ownsRow w.heap.size 5 1 v (l.length*128) (secCells l))/\(r.2=none->v=.slice none 0 0)
theorem bay_image {w:World} {T:Nat->Nat} {b:Nat} {s:BaySt} (h:BayAt w T b s) (k:Int):
  Calls Tryz.prog 31 #[.pointer (some ⟨b,0,none⟩),.int .i64 k] w (ImagePost w (s.image k)):=by
 obtain⟨gs,ptr,tg,dp,h⟩:=h;by_cases hno:¬s.is k\/(s.is k/\s.pos (k.toNat*3)=none)
 ·have hth:=Lib.hid (there_none h k hno)
  have hne:s.why k=51\/s.why k=1:=s.why_is k;have hr:s.image k=((s.why k).toNat,none):=by
   unfold BaySt.image BaySt.why;rcases hno with hno|⟨h1,h2⟩
   ·unfold BaySt.is at hno;rw[if_neg hno,if_neg hno];rfl
   ·unfold BaySt.is at h1;rw[if_pos h1,if_pos h1,h2];rfl
  rw[hr];clear hr h hno;generalize s.why k=z at*;rcases hne with rfl|rfl
  all_goals
   go_enter Tryz.func31,Tryz.ntmps31
   go_wp2_with (first
    |(go_at_call 67;(with_reducible refine hth.out.mono ?_);rintro e w1 ⟨rfl,hw⟩;obtain rfl:w=w1:=hw.symm))
   go_ret2
   exact⟨_,rfl,Below.refl _ _,fun l hl=>(by cases hl),fun _=>rfl⟩
 ·have his:s.is k:=Classical.byContradiction fun e=>hno (.inl e)
  have hsome:s.pos (k.toNat*3)≠none:=fun e=>hno (.inr ⟨his,e⟩)
  have his2:0≤k/\k<(s.n:Int):=his;obtain⟨k,rfl⟩:∃q:Nat,k=q:=⟨k.toNat,by omega⟩;rw[Int.toNat_natCast]at hsome;obtain⟨x,hx⟩:∃x,s.pos (k*3)=some x:=by
   cases hq:s.pos (k*3)with
   |none=>exact absurd hq hsome
   |some x=>exact⟨x,rfl⟩
  have hr:s.image (k:Int)=(0,if x.d.failed=true then none else some x.d.last):=by
   unfold BaySt.image;rw[if_pos his2,Int.toNat_natCast,hx]
  rw[hr];obtain⟨o,ho⟩:∃o,o=if x.d.failed=true then none else some x.d.last:=⟨_,rfl⟩;rw[<-ho];have HO:=Lib.hid ho;obtain⟨dv,hp,hD⟩:=h.some' (k*3) (by omega) x hx;have hth:=Lib.hid (bay_there h k dv (by omega) hp);have d0:w.cell? ⟨dv,0,none⟩=some (.pointer (some ⟨dp (k*3),0,none⟩)):=hD.dev.cell 0;have HF:=Lib.hid (disk_image T (tg (k*3)) (dp (k*3)) x.d w hD.disk);have hfw:=Lib.hid hD.disk.few;clear hr h hno his his2 hsome hx hp hD ho;generalize dp (k*3)=gd at*;go_enter Tryz.func31,Tryz.ntmps31
  go_wp2_with (first
   |(go_at_call 67;(with_reducible refine hth.out.mono ?_);rintro e w1 ⟨rfl,hw⟩;obtain rfl:w=w1:=hw.symm)
   |(go_at_call 68;(with_reducible refine HF.out.mono ?_);rintro e w2 ⟨v,rfl,hb,hv1,hv2⟩;have HV1:=Lib.hid hv1;have HV2:=Lib.hid hv2;have HB:=Lib.hid hb;clear hv1 hv2 hb d0))
  go_ret2;refine⟨_,rfl,HB.out,fun l hl=> ?_,fun hl=> ?_⟩
  ·have hl2:o=some l:=hl
   rw[HO.out]at hl2;cases hf:x.d.failed
   ·rw[hf,if_neg (by simp)]at hl2
    obtain rfl:=Option.some.inj hl2;exact⟨hfw.out,HV1.out hf⟩
   ·rw[hf,if_pos rfl]at hl2;cases hl2
  ·have hl2:o=none:=hl
   rw[HO.out]at hl2;cases hf:x.d.failed
   ·rw[hf,if_neg (by simp)]at hl2;cases hl2
   ·exact HV2.out hf
theorem image_some {s:BaySt} {i:Nat} {x:Dev} (hi:i<s.n) (hx:s.pos (i*3)=some x):s.image (i:Int)=(0,if x.d.failed=true then none else some x.d.last):=by
 unfold BaySt.image;rw[if_pos (by omega),Int.toNat_natCast,hx]
open Go.RowKit
def Clean (R:RS):Prop:=∀m,m<R.M->R.dn m 0=false->∃x,R.s.pos (m*3)=some x/\x.d.cache= []/\CalmDev x (1+R.S*R.C)
theorem Good.clean {R R':RS} {V:Nat->Nat->Sec} (h:Good R V) (he:EmptyR R R'):Clean R':=by
 obtain⟨R2,hp,rfl⟩:=he;obtain⟨h2,hw⟩:=h.synced.placed hp;have hd:=dries_is h2.geo h2.n h2.fit R2.M (Nat.le_refl _);have h3:=h2.dries;have hr:=reclaimed_is h3.n h3.fit;intro m hm hdn;have hm:m<R2.M:=hm;have hdn:R2.dn m 0=false:=hdn;obtain⟨x,k1,k2⟩:=hd.dry m hm hdn;obtain⟨y,e1,e2⟩:=hd.fit.dev m (by rw[hd.n,h2.n];omega) (RS.G_up h2.geo hm hdn);have hxy:y=x:=Option.some.inj (e1.symm.trans k1);subst hxy;refine⟨y,(hr.pos (m*3) (fun e=>by have:m*3=R2.M*3:=e;omega)).trans k1,k2,?_⟩;unfold RS.szs at e2;rw[if_pos hm]at e2;exact e2
theorem Clean.ticks {R:RS} (h:Clean R) (c:Nat):Clean {R with s:=R.s.ticks 0 c}:=h
theorem Clean.whole {R:RS} {V:Nat->Nat->Sec} (h:Clean R) (hg:Good R V) {m:Nat} (hm:m<R.M) (hd:R.dn m 0=false):∃L:List Sec,R.s.image (m:Int)=(0,some L)/\L.length=1+R.S*R.C/\(∀s∈L,s.length=128)/\∀z,z<1+R.S*R.C->L[z]?=some (R.s.sec m z):=by
 obtain⟨x,h1,h2,h3⟩:=h m hm hd;refine⟨x.d.last,?_,h3.len,h3.secs,fun z hz=> ?_⟩
 ·rw[image_some (by rw[hg.n];omega) h1,if_neg (by rw[h3.failed];simp)]
 ·rw[sec_some h1]
  unfold Dsk.cur;rw[h2];have hl:z<x.d.last.length:=by rw[h3.len];exact hz
  show _=some (x.d.last.getD z zsec)
  rw[List.getElem?_eq_getElem hl,List.getD_eq_getElem?_getD,List.getElem?_eq_getElem hl];rfl
theorem Clean.image {R:RS} {V:Nat->Nat->Sec} (h:Clean R) (hg:Good R V) (hw:R.wait= []) {m:Nat} (hm:m<R.M) (hd:∀r,R.dn m r=false):∃L:List Sec,R.s.image (m:Int)=(0,some L)/\L.length=1+R.S*R.C/\(∀s∈L,s.length=128)/\∀r,r<R.S*R.C->L[1+r]?=some (V m r):=by
 obtain⟨L,h1,h2,h3,h4⟩:=h.whole hg hm (hd 0);exact⟨L,h1,h2,h3,fun r hr=>(h4 (1+r) (by omega)).trans (congrArg some (hg.sec m r hm hr (by rw[hw];rfl) (hd r)))⟩
theorem secCells_flat (L:List Sec):secCells L=ucells L.flatten:=by
 unfold secCells ucells;rw[List.map_flatten,List.flatMap_def]
theorem flatten_length {L:List Sec} (h:∀s∈L,s.length=128):L.flatten.length=128*L.length:=by
 have:=secCells_length h;rw[secCells_flat,ucells_length]at this;omega
theorem flatten_at {L:List Sec} (h:∀s∈L,s.length=128) {i j:Nat} (hi:i<L.length) (hj:j<128):L.flatten[128*i+j]?=L[i][j]?:=by
 have hs:=h _ (List.getElem_mem hi);have hl:=flatten_length h;have e:=secCells_at h i j hi hj;rw[secCells_flat]at e;unfold ucells at e;rw[List.getElem?_map,List.getElem?_map,Nat.mul_comm i 128]at e;rw[List.getElem?_eq_getElem (by omega),List.getElem?_eq_getElem (by omega)]at e ⊢;simp only [Option.map_some,Option.some.injEq,Value.int.injEq,true_and]at e;exact congrArg some (UInt8.toNat_inj.1 (by exact_mod_cast e))
def byteOf (V:Nat->Nat->Sec) (m i:Nat):UInt8:=(V m (i/128)).getD (i%128) 0
theorem image_byte {R:RS} {V:Nat->Nat->Sec} (hg:Good R V) {L:List Sec} {m:Nat} (hm:m<R.M) (h1:L.length=1+R.S*R.C) (h2:∀s∈L,s.length=128) (h3:∀r,r<R.S*R.C->L[1+r]?=some (V m r)) {i:Nat} (hi:i<128*(R.S*R.C)):L.flatten[128+i]?=some (byteOf V m i):=by
 have hr:i/128<R.S*R.C:=by omega
 have e:=flatten_at h2 (i:=1+i/128) (j:=i%128) (by omega) (by omega);rw[show 128*(1+i/128)+i%128=128+i by omega]at e;have e3:=h3 _ hr;rw[List.getElem?_eq_getElem (by omega)]at e3;rw[e,Option.some.inj e3];unfold byteOf;have hl:=hg.len m (i/128) hm hr;rw[List.getD_eq_getElem?_getD,List.getElem?_eq_getElem (by omega)];rfl
def sumOf (V:Nat->Nat->Sec) (m i:Nat):UInt8:=xsum (fun q=>byteOf V q i) m
theorem sumOf_succ (V:Nat->Nat->Sec) (m i:Nat):sumOf V (m+1) i=sumOf V m i^^^byteOf V m i:=rfl
theorem sumOf_all {R:RS} {V:Nat->Nat->Sec} (hg:Good R V) {i:Nat} (hi:i<128*(R.S*R.C)):sumOf V R.M i=0:=hg.even (i/128) (by omega) (i%128) (by omega)
theorem l_reads2 {w0 W:World} {T:Nat->Nat} {A:Adr} {R:RS} {V:Nat->Nat->Sec} {a b:Nat} (h:LAt w0 W T A R V) (hb:Bud R a b) (hin:Within (a+2000000) b) {m c s:Int} (hm:m=R.M) (hc:c=R.C) (hs:s=R.S):
  Calls Tryz.prog 24 #[.pointer (some ⟨A.q,0,none⟩),.agg #[.int .i64 m,.int .i64 c,.int .i64 s]] W fun e w'=>∃x xn xc k,e=.returned (.tuple #[.slice x xn xc,.bool true])/\ByteRow w' T (.slice x xn xc) (allOf R V)/\LAt w0 w' T A {R with s:=R.s.ticks 0 k} V/\Stp W T A w' T/\k≤1044480:=by
 subst hm;subst hc;subst hs;refine(r14_reads h hb hin).mono ?_;rintro e w' ⟨v,c,rfl,k1,k2,k3,k4⟩;obtain⟨x,xc,rfl⟩:=ownsRow_shape k1;have hst:Stp W T A w' T:=Stp.ofBay k3;refine⟨x,_,xc,c,rfl,⟨⟨W.heap.size,?_⟩,fun g hg=>h.virg g (k1.lt g hg).1⟩,k2,hst,k4⟩;rw[allOf_length h.good];exact k1
theorem l_image {w0 W:World} {T:Nat->Nat} {A:Adr} {R:RS} {V:Nat->Nat->Sec} (h:LAt w0 W T A R V) (m:Nat) {L:List Sec} (hL:R.s.image (m:Int)=(0,some L)):
  Calls Tryz.prog 31 #[.pointer (some ⟨A.b,0,none⟩),.int .i64 m] W fun e w'=>∃v,e=.returned (.tuple #[v,.int .u16 0])/\Below W.heap.size W w'/\w'.ownsRow W.heap.size 5 1 v (128*L.length) (ucells L.flatten):=by
 obtain⟨lg,vw,X,hr⟩:=h.rw;have:=bay_image hr.bay (m:Int);rw[hL]at this;refine this.mono ?_;rintro e w' ⟨v,rfl,h1,h2,-⟩;obtain⟨-,k⟩:=h2 L rfl;rw[secCells_flat,Nat.mul_comm]at k;exact⟨v,rfl,h1,k⟩
theorem l_image_none {w0 W:World} {T:Nat->Nat} {A:Adr} {R:RS} {V:Nat->Nat->Sec} (h:LAt w0 W T A R V) (m:Nat) (hL:R.s.image (m:Int)=(0,none)):
  Calls Tryz.prog 31 #[.pointer (some ⟨A.b,0,none⟩),.int .i64 m] W fun e w'=>e=.returned (.tuple #[.slice none 0 0,.int .u16 0])/\Below W.heap.size W w':=by
 obtain⟨lg,vw,X,hr⟩:=h.rw;have:=bay_image hr.bay (m:Int);rw[hL]at this;refine this.mono ?_;rintro e w' ⟨v,rfl,h1,-,h2⟩;exact⟨by rw[h2 rfl];rfl,h1⟩
theorem l_unmark {w0 W:World} {T:Nat->Nat} {A:Adr} {R:RS} {V:Nat->Nat->Sec} {c k:Nat} (h:LAt w0 W T A {R.marked k true with s:=R.s.ticks 0 c} V) (hg:Good R V) (hf:R.fr=fun _=> -1) (hk:k<R.M):
  Calls Tryz.prog 32 #[.pointer (some ⟨A.q,0,none⟩),.int .i64 k,.bool false,.int .i64 0] W fun e w'=>e=.returned (.tuple #[])/\LAt w0 w' T A {R with s:=R.s.ticks 0 c} V/\Stp W T A w' T:=by
 obtain⟨lg,vw,X,hr⟩:=h.rw;refine(rows_mark hr k false hk).mono ?_;rintro e w' ⟨rfl,h1,h2⟩;have hst:Stp W T A w' T:=⟨fun _ _=>rfl,h2.mono fun q e=>.inr e⟩;obtain⟨k4,k5⟩:=h.next hst;have e:RS.marked {R.marked k true with s:=R.s.ticks 0 c} k false={R with s:=R.s.ticks 0 c}:=by
  unfold RS.marked;rw[hf];congr 1;funext j;by_cases hj:j=k
  ·simp[hj]
  ·simp[hj]
 rw[e]at h1;exact⟨rfl,⟨⟨lg,vw,X,h1⟩,hg.ticks c,h.idle,k4,k5⟩,hst⟩
theorem l_reads_marked {w0 W:World} {T:Nat->Nat} {A:Adr} {R:RS} {V:Nat->Nat->Sec} {a b k:Nat} (h:LAt w0 W T A (R.marked k true) V) (hb:Bud R a b) (hin:Within (a+2000000) b) {m c s:Int} (hm:m=R.M) (hc:c=R.C) (hs:s=R.S) {L:List UInt8} (hL:allOf R V=L):
  Calls Tryz.prog 24 #[.pointer (some ⟨A.q,0,none⟩),.agg #[.int .i64 m,.int .i64 c,.int .i64 s]] W fun e w'=>∃x xn xc c,e=.returned (.tuple #[.slice x xn xc,.bool true])/\ByteRow w' T (.slice x xn xc) L/\LAt w0 w' T A {R.marked k true with s:=R.s.ticks 0 c} V/\Stp W T A w' T/\c≤1044480:=by
 have hb':Bud (R.marked k true) a b:=⟨hb.c0,hb.c1,hb.c2,hb.next,hb.small⟩;subst hL;exact l_reads2 h hb' hin hm hc hs
structure WhAt (w0 W:World) (T:Nat->Nat) (A:Adr) (R:RS) (V:Nat->Nat->Sec) (M C S ring:Nat) (lazy:Bool) (a b:Nat) (al:Value) (sb n:Nat) (f:Nat->UInt8):Prop where
 tl:TlAt w0 W T A R V M C S ring lazy a b al
 low:∃lg vw X,RwIn W T A R lg vw X/\RwLow A vw X sb
 alo:∀g,al.ownBlock=some g->g<sb
 sum:At W sb (ufn f n) 5
 ts:T sb=0
 w0:w0.heap.size≤sb
theorem WhAt.below {w0 W W':World} {T:Nat->Nat} {A:Adr} {R:RS} {V:Nat->Nat->Sec} {M C S ring:Nat} {lazy:Bool} {a b:Nat} {al:Value} {sb n:Nat} {f:Nat->UInt8} (h:WhAt w0 W T A R V M C S ring lazy a b al sb n f) (hb:Below W.heap.size W W'):WhAt w0 W' T A R V M C S ring lazy a b al sb n f:=by
 obtain⟨lg,vw,X,h1,h2⟩:=h.low;exact⟨h.tl.below hb,⟨lg,vw,X,h1.below hb,h2⟩,h.alo,h.sum.below hb h.sum.lt,h.ts,h.w0⟩
theorem WhAt.set {w0 W:World} {T:Nat->Nat} {A:Adr} {R:RS} {V:Nat->Nat->Sec} {M C S ring:Nat} {lazy:Bool} {a b:Nat} {al:Value} {sb n:Nat} {f g:Nat->UInt8} (h:WhAt w0 W T A R V M C S ring lazy a b al sb n f) (k:Nat) (x:UInt8) (hg:∀i,i<n->g i=if i=k then x else f i):WhAt w0 (W.setCell ⟨sb,k,none⟩ (.int .u8 ((x.toNat:Nat):Int))) T A R V M C S ring lazy a b al sb n g:=by
 have hc:Chg (fun q=>q=sb) W (W.setCell ⟨sb,k,none⟩ (.int .u8 ((x.toNat:Nat):Int))):=Chg.setCell (S:=fun q=>q=sb) (Chg.refl _ _) ⟨sb,k,none⟩ (.inl rfl) _;obtain⟨lg,vw,X,h1,h2⟩:=h.low;have h3:=h1.apart h2 hc (fun q e=>by subst e;exact⟨h.ts,Nat.le_refl _⟩);have hl:=h.tl.run.at';refine⟨⟨⟨⟨⟨lg,vw,X,h3⟩,hl.good,hl.idle,hl.old,hl.bel.trans (hc.below fun q hq=>⟨by have:=hl.bel.size;omega,fun e=>by have:=h.w0;omega⟩)⟩,h.tl.run.bud,h.tl.run.M,h.tl.run.C,h.tl.run.S,h.tl.run.size,h.tl.run.lazy⟩,?_⟩,⟨lg,vw,X,h3,h2⟩,h.alo,?_,h.ts,h.w0⟩
 ·obtain⟨⟨B,ho⟩,ht⟩:=h.tl.row
  exact⟨⟨B,ownsRow_mod ho hc fun q hq e=>by have:=h.alo q hq;omega⟩,ht⟩
 ·rw[<-ufn_set f g n k x hg]
  exact h.sum.set k _
theorem WhAt.congr {w0 W:World} {T:Nat->Nat} {A:Adr} {R:RS} {V:Nat->Nat->Sec} {M C S ring:Nat} {lazy:Bool} {a b:Nat} {al:Value} {sb n:Nat} {f g:Nat->UInt8} (h:WhAt w0 W T A R V M C S ring lazy a b al sb n f) (hfg:∀j,j<n->f j=g j):WhAt w0 W T A R V M C S ring lazy a b al sb n g:=⟨h.tl,h.low,h.alo,by rw[<-ufn_eq hfg];exact h.sum,h.ts,h.w0⟩
theorem ufn_zeros (n:Nat):(List.replicate (n*1) (Value.int .u8 0)).toArray=ufn (fun _=>0) n:=by
 apply Array.ext_getElem?;intro i;simp only [ufn,List.getElem?_toArray,Nat.mul_one,List.getElem?_replicate,List.getElem?_map,List.getElem?_range];by_cases hi:i<n<;>simp[hi]
open Go.RowKit
def Tidy (W:World) (T:Nat->Nat):Prop:=∀q cs,(At W q cs 5\/At W q cs 76)->T q=0
open Classical in
noncomputable def tidy (W:World) (T:Nat->Nat) (q:Nat):Nat:=if ∃cs,At W q cs 5\/At W q cs 76 then 0 else T q
theorem tidy_is (W:World) (T:Nat->Nat):Tidy W (tidy W T):=fun q cs h=>if_pos ⟨cs,h⟩
theorem tidy_zero {W:World} {T:Nat->Nat} {q:Nat} (h:T q=0):tidy W T q=0:=by
 unfold tidy;split
 ·rfl
 ·exact h
theorem tidy_no {W:World} {T:Nat->Nat} {q:Nat} (h:∀cs,¬At W q cs 5/\¬At W q cs 76):tidy W T q=T q:=if_neg fun ⟨cs,e⟩=>e.elim (h cs).1 (h cs).2
theorem at_type {w:World} {g:Nat} {cs cs':Array Value} {t t':TypeId} (h:At w g cs t) (h':At w g cs' t'):t=t':=by
 unfold At at h h';rw[h]at h';simp only [Option.some.injEq,Obj.cells.injEq]at h';exact h'.2.1
theorem tidy_at {W:World} {T:Nat->Nat} {g:Nat} {cs:Array Value} {t:TypeId} (h:At W g cs t) (h1:t≠5) (h2:t≠76):tidy W T g=T g:=tidy_no fun cs'=>⟨fun e=>h1 (at_type h e),fun e=>h2 (at_type h e)⟩
theorem tidy_ne {W:World} {T:Nat->Nat} {q:Nat} (h:tidy W T q≠0):T q≠0:=fun e=>h (tidy_zero e)
theorem DiskAt.tidy {W:World} {T:Nat->Nat} {t p:Nat} {d:Dsk} (h:DiskAt W T t p d):DiskAt W (tidy W T) t p d:=by
 obtain⟨gl,gm,cv,f,h1,h2,h3,h4,h5,h6,h7,h8⟩:=h.at';exact⟨⟨gl,gm,cv,f,h1,h2,h3,h4,h5,(tidy_at h2 (by decide) (by decide)).trans h6,(tidy_no fun cs=>⟨h4.noCells,h4.noCells⟩).trans h7,fun g hg=>(tidy_no fun cs=>⟨fun e=>own_ne_at h3 e (by decide) hg,fun e=>own_ne_at h3 e (by decide) hg⟩).trans (h8 g hg)⟩,(tidy_at h1 (by decide) (by decide)).trans h.tag,h.len,h.clen,h.cin,h.few,h.some'⟩
theorem BayAt.tidy {W:World} {T:Nat->Nat} {b:Nat} {s:BaySt} (h:BayAt W T b s):BayAt W (tidy W T) b s:=by
 obtain⟨gs,ptr,tg,dp,h⟩:=h;refine⟨gs,ptr,tg,dp,h.bay,h.slots,(tidy_at h.bay (by decide) (by decide)).trans h.tb,(tidy_at h.slots (by decide) (by decide)).trans h.ts,fun i hi x hx=> ?_,h.none',h.apart,h.own,fun k hk=>tidy_zero (h.virgin k hk),h.few,h.cl,h.trl,h.trh⟩;obtain⟨dv,h1,h2⟩:=h.some' i hi x hx;exact⟨dv,h1,h2.dev,(tidy_at h2.dev (by decide) (by decide)).trans h2.tag,h2.two,h2.disk.tidy,h2.lo,h2.hi⟩
theorem RwIn.tidy {W:World} {T:Nat->Nat} {A:Adr} {R:RS} {lg:Option Nat} {vw:Value} {X:List OP} (h:RwIn W T A R lg vw X):RwIn W (tidy W T) A R lg vw X:=
 ⟨h.bay.tidy,h.rw,h.fr,h.wt,fun g hg=>tidy_zero (h.wtT g hg),fun x hx g hg=>tidy_zero (h.wtX x hx g hg),h.wtM,h.wal,h.ring,tidy_zero h.tq,tidy_zero h.tf,tidy_zero h.tw,tidy_zero h.tr⟩
theorem own_block {w:World} {B n sz:Nat} {t:TypeId} {v:Value} {xs:List Value} (h:w.ownsRow B t sz v n xs) {g:Nat} (hg:v.ownBlock=some g):∃cs,At w g cs t:=by
 rcases h.2 with ⟨h,_⟩|⟨g',cap,cur,hv,hb,hgt,hc,hm,hs,ht⟩
 ·rw[h]at hg;cases hg
 ·rw[hv]at hg
  have:g'=g:=Option.some.inj hg;subst this;exact⟨cur,hgt⟩
theorem Tidy.own {W:World} {T:Nat->Nat} (h:Tidy W T) {B n sz:Nat} {t:TypeId} {v:Value} {xs:List Value} (ho:W.ownsRow B t sz v n xs) (ht:t=5\/t=76) {g:Nat} (hg:v.ownBlock=some g):T g=0:=by
 obtain⟨cs,hc⟩:=own_block ho hg;rcases ht with rfl|rfl
 ·exact h g cs (.inl hc)
 ·exact h g cs (.inr hc)
structure Ln (w0 W:World) (T:Nat->Nat) (A:Adr) (R:RS):Prop where
 rw:∃lg vw X,RwIn W T A R lg vw X
 old:∀q,q<w0.heap.size->T q=0/\¬A.has q
 bel:Below w0.heap.size w0 W
section
variable {w0 W W':World} {T T':Nat->Nat} {A:Adr} {R R':RS} {V:Nat->Nat->Sec}
theorem LAt.ln (h:LAt w0 W T A R V):Ln w0 W T A R:=⟨h.rw,h.old,h.bel⟩
theorem Ln.lat (h:Ln w0 W T A R) (g:Good R V) (i:R.lazy=true\/R.wait= []):LAt w0 W T A R V:=⟨h.rw,g,i,h.old,h.bel⟩
theorem Ln.below (h:Ln w0 W T A R) (hb:Below W.heap.size W W'):Ln w0 W' T A R:=by
 obtain⟨lg,vw,X,hr⟩:=h.rw;exact⟨⟨lg,vw,X,hr.below hb⟩,h.old,h.bel.trans (hb.mono h.bel.size)⟩
theorem Ln.virg (h:Ln w0 W T A R) (q:Nat) (hq:W.heap.size≤q):T q=0:=by
 obtain⟨lg,vw,X,hr⟩:=h.rw;exact bay_virgin' hr.bay q hq
theorem Ln.off (h:Ln w0 W T A R) (q:Nat) (hq:W.heap.size≤q):¬A.has q:=by
 obtain⟨lg,vw,X,hr⟩:=h.rw;exact hr.low.ne hq
theorem Ln.tidy (h:Ln w0 W T A R):Ln w0 W (tidy W T) A R:=by
 obtain⟨lg,vw,X,hr⟩:=h.rw;exact⟨⟨lg,vw,X,hr.tidy⟩,fun q hq=>⟨tidy_zero (h.old q hq).1,(h.old q hq).2⟩,h.bel⟩
theorem Ln.next (h:Ln w0 W T A R) (s:Stp W T A W' T'):(∀q,q<w0.heap.size->T' q=0/\¬A.has q)/\Below w0.heap.size w0 W':=by
 have hs:=h.bel.size;refine⟨fun q hq=>⟨(s.tags q (by omega)).trans (h.old q hq).1,(h.old q hq).2⟩,h.bel.trans (s.chg.below fun q hq=>⟨by omega,fun e=>e.elim (fun e=>e (h.old q hq).1) (h.old q hq).2⟩)⟩
theorem Ln.step (h:Ln w0 W T A R) (hr:∃lg vw X,RwIn W' T' A R' lg vw X) (s:Stp W T A W' T'):Ln w0 W' T' A R':=⟨hr,(h.next s).1,(h.next s).2⟩
end
structure Two (w0 W:World) (T1:Nat->Nat) (A1:Adr) (R1:RS) (T2:Nat->Nat) (A2:Adr) (R2:RS):Prop where
 one:Ln w0 W T1 A1 R1
 two:Ln w0 W T2 A2 R2
 t1:Tidy W T1
 t2:Tidy W T2
 tt:∀q,T1 q≠0->T2 q=0
 ta:∀q,A2.has q->T1 q=0
 at':∀q,A1.has q->T2 q=0
 aa:∀q,A1.has q->¬A2.has q
section
variable {w0 W W':World} {T1 T2 T1':Nat->Nat} {A1 A2:Adr} {R1 R2 R1':RS}
theorem Two.swap (h:Two w0 W T1 A1 R1 T2 A2 R2):Two w0 W T2 A2 R2 T1 A1 R1:=
 ⟨h.two,h.one,h.t2,h.t1,fun q hq=>Classical.byContradiction fun e=>hq (h.tt q e),h.at',h.ta,fun q h1 h2=>h.aa q h2 h1⟩
theorem Ln.hasAt (h:Ln w0 W T1 A1 R1) {q:Nat} (hq:A1.has q):∃cs t,At W q cs t/\(t=93\/t=110\/t=167\/t=3):=by
 obtain⟨lg,vw,X,hr⟩:=h.rw;rcases hq with e|e|e|e<;>subst e
 ·exact⟨_,_,hr.rw,.inl rfl⟩
 ·exact⟨_,_,hr.wal,.inr (.inl rfl)⟩
 ·exact⟨_,_,hr.ring,.inr (.inr (.inl rfl))⟩
 ·exact⟨_,_,hr.fr,.inr (.inr (.inr rfl))⟩
theorem Two.offRow (h:Two w0 W T1 A1 R1 T2 A2 R2) {B n sz:Nat} {t:TypeId} {v:Value} {xs:List Value} (ho:W.ownsRow B t sz v n xs) (ht:t=5\/t=76) {g:Nat} (hg:v.ownBlock=some g):¬(T1 g≠0\/A1.has g):=by
 rintro (e|e)
 ·exact e (h.t1.own ho ht hg)
 ·obtain⟨cs,t',ha,ht'⟩:=h.one.hasAt e
  refine own_ne_at ho ha ?_ hg;rcases ht with rfl|rfl<;>rcases ht' with rfl|rfl|rfl|rfl<;>decide
theorem Two.row (h:Two w0 W T1 A1 R1 T2 A2 R2) {B n:Nat} {v:Value} {xs:List Value} (ho:W.ownsRow B 5 1 v n xs) (hc:Chg (fun q=>T1 q≠0\/A1.has q) W W'):W'.ownsRow B 5 1 v n xs:=
 ownsRow_mod ho hc fun g hg=>h.offRow ho (.inl rfl) hg
theorem Two.below (h:Two w0 W T1 A1 R1 T2 A2 R2) (hb:Below W.heap.size W W'):Two w0 W' (tidy W' T1) A1 R1 (tidy W' T2) A2 R2:=
 ⟨(h.one.below hb).tidy,(h.two.below hb).tidy,tidy_is _ _,tidy_is _ _,fun q hq=>tidy_zero (h.tt q (tidy_ne hq)),fun q hq=>tidy_zero (h.ta q hq),fun q hq=>tidy_zero (h.at' q hq),h.aa⟩
theorem Two.step (h:Two w0 W T1 A1 R1 T2 A2 R2) (hl:Ln w0 W' T1' A1 R1') (hs:Stp W T1 A1 W' T1'):Two w0 W' (tidy W' T1') A1 R1' (tidy W' T2) A2 R2:=by
 have hS:∀q,(T1 q≠0\/A1.has q)->T2 q=0/\¬A2.has q:=by
  rintro q (e|e)
  ·exact⟨h.tt q e,fun e2=>e (h.ta q e2)⟩
  ·exact⟨h.at' q e,h.aa q e⟩
 have hold:∀q,q<W.heap.size->T1' q=T1 q:=hs.tags;obtain⟨lg,vw,X,hr⟩:=h.two.rw;have hr':RwIn W' T2 A2 R2 lg vw X:=by
  have hc:=hs.chg;refine⟨hr.bay.keep hc (fun k hk e=>hk (hS k e).1),hr.rw.mod hc (fun e=>(hS _ e).2 (.inl rfl)),hr.fr.mod hc (fun e=>(hS _ e).2 (.inr (.inr (.inr rfl)))),hr.wt.mod hc (fun g hg=>h.offRow hr.wt.row (.inr rfl) hg) (fun x hx g hg=>h.offRow (hr.wt.dat x hx) (.inl rfl) hg),hr.wtT,hr.wtX,hr.wtM,hr.wal.mod hc (fun e=>(hS _ e).2 (.inr (.inl rfl))),hr.ring.mod hc (fun e=>(hS _ e).2 (.inr (.inr (.inl rfl)))),hr.tq,hr.tf,hr.tw,hr.tr⟩
 have htwo:Ln w0 W' T2 A2 R2:=⟨⟨lg,vw,X,hr'⟩,h.two.old,hl.bel⟩;refine⟨hl.tidy,htwo.tidy,tidy_is _ _,tidy_is _ _,fun q hq=>tidy_zero ?_,fun q hq=>tidy_zero ?_,fun q hq=>tidy_zero (h.at' q hq),h.aa⟩
 ·by_cases hlt:q<W.heap.size
  ·exact h.tt q (by rw[<-hold q hlt];exact tidy_ne hq)
  ·exact h.two.virg q (by omega)
 ·have hlt:q<W.heap.size:=Classical.byContradiction fun e=>h.two.off q (by omega) hq
  rw[hold q hlt];exact h.ta q hq
theorem Two.start {w3 w4:World} (h1:Ln w0 w3 T1 A1 R1) (h2:Ln w3 w4 T2 A2 R2):Two w0 w4 (tidy w4 T1) A1 R1 (tidy w4 T2) A2 R2:=by
 have hs:=h1.bel.size;have h1':=h1.below h2.bel;have h2':Ln w0 w4 T2 A2 R2:=⟨h2.rw,fun q hq=>h2.old q (by omega),h1'.bel⟩;have hv:∀q,T1 q≠0->q<w3.heap.size:=fun q e=>Classical.byContradiction fun e2=>e (h1.virg q (by omega))
 have ha:∀q,A1.has q->q<w3.heap.size:=fun q e=>Classical.byContradiction fun e2=>h1.off q (by omega) e
 refine⟨h1'.tidy,h2'.tidy,tidy_is _ _,tidy_is _ _,fun q hq=>tidy_zero (h2.old q (hv q (tidy_ne hq))).1,fun q hq=>tidy_zero (Classical.byContradiction fun e=>(h2.old q (hv q e)).2 hq),fun q hq=>tidy_zero (h2.old q (ha q hq)).1,fun q hq=>(h2.old q (ha q hq)).2⟩
end
open Go.RowKit
theorem at_block {M C S m r:Nat} (hg:geoIs M C S=true) (hm:m<M) (hr:r<S*C) (hp:m≠parOf M C r):∃b,b<S*C*(M-1)/\membOf M C b=m/\rowOf M C b=r:=by
 obtain⟨h1,h2,h3,h4,h5,h6⟩:=(geoIs_iff M C S).1 hg;have hC:0<C:=by omega
 have hpl:parOf M C r<M:=by unfold parOf;omega
 obtain⟨i,hi,hmi⟩:∃i,i<M-1/\(parOf M C r+1+i)%M=m:=by
  by_cases h:parOf M C r<m
  ·exact⟨m-parOf M C r-1,by omega,by rw[show parOf M C r+1+(m-parOf M C r-1)=m by omega,Nat.mod_eq_of_lt hm]⟩
  ·exact⟨m+M-parOf M C r-1,by omega,by rw[show parOf M C r+1+(m+M-parOf M C r-1)=m+M by omega,Nat.add_mod_right,Nat.mod_eq_of_lt hm]⟩
 have hrm:r%C<C:=Nat.mod_lt _ hC;have hrd:r/C<S:=(Nat.div_lt_iff_lt_mul hC).2 hr;have hE:0<(M-1)*C:=Nat.mul_pos (by omega) hC;have hin:i*C+r%C<(M-1)*C:=by
  have:(i+1)*C≤(M-1)*C:=Nat.mul_le_mul_right C (by omega);rw[Nat.add_mul,Nat.one_mul]at this;omega
 have hb:((M-1)*C)*(r/C)+(i*C+r%C)<S*C*(M-1):=by
  have:((M-1)*C)*(r/C+1)≤((M-1)*C)*S:=Nat.mul_le_mul_left _ (by omega);rw[Nat.mul_add,Nat.mul_one]at this;have e:((M-1)*C)*S=S*C*(M-1):=by rw[Nat.mul_comm,Nat.mul_comm (M-1) C,Nat.mul_assoc]
  omega
 have L:=lies hg hb;have hmod:(((M-1)*C)*(r/C)+(i*C+r%C))%((M-1)*C)=i*C+r%C:=by rw[Nat.mul_add_mod,Nat.mod_eq_of_lt hin]
 have hq:(i*C+r%C)/C=i:=by rw[Nat.mul_comm,Nat.mul_add_div hC,Nat.div_eq_of_lt hrm,Nat.add_zero]
 have hst:stripeOf M C (((M-1)*C)*(r/C)+(i*C+r%C))=r/C:=by unfold stripeOf;rw[Nat.mul_add_div hE,Nat.div_eq_of_lt hin,Nat.add_zero]
 have hrow:rowOf M C (((M-1)*C)*(r/C)+(i*C+r%C))=r:=by
  unfold rowOf;rw[hst,hmod,Nat.mul_comm i C,Nat.mul_add_mod,Nat.mod_mod];exact Nat.div_add_mod' r C
 refine⟨_,hb,?_,hrow⟩;rw[L.mem,hrow,hmod,hq];exact hmi
theorem V_same {R1 R2:RS} {V1 V2:Nat->Nat->Sec} (h1:Good R1 V1) (h2:Good R2 V2) (hM:R2.M=R1.M) (hC:R2.C=R1.C) (hS:R2.S=R1.S) (h:∀k,k<R1.S*R1.C*(R1.M-1)->blkOf R1.M R1.C V1 k=blkOf R1.M R1.C V2 k) {m r:Nat} (hm:m<R1.M) (hr:r<R1.S*R1.C):V1 m r=V2 m r:=by
 have key:∀m,m<R1.M->m≠parOf R1.M R1.C r->V1 m r=V2 m r:=fun m hm hp=>by
  obtain⟨b,hb,e1,e2⟩:=at_block h1.geo hm hr hp;have:=h b hb;unfold blkOf at this;rw[e1,e2]at this;exact this
 by_cases hp:m=parOf R1.M R1.C r
 ·have l1:=h1.len m r hm hr
  have l2:=h2.len m r (by rw[hM];exact hm) (by rw[hS,hC];exact hr);refine List.ext_getElem (by omega) fun i hi1 hi2=> ?_
  have e1:=h1.even r hr i (by omega);have e2:=h2.even r (by rw[hS,hC];exact hr) i (by omega);rw[hM]at e2;rw[xbut_all _ hm]at e1 e2;have e3:xbut (fun m=>(V1 m r).getD i 0) m R1.M=xbut (fun m=>(V2 m r).getD i 0) m R1.M:=by
   unfold xbut;refine xsum_congr fun j hj=> ?_
   by_cases hjm:j=m
   ·rw[if_pos hjm,if_pos hjm]
   ·rw[if_neg hjm,if_neg hjm]
    show(V1 j r).getD i 0=(V2 j r).getD i 0
    rw[key j hj (by omega)]
  rw[e3]at e1;have e4:=(UInt8.xor_right_inj (xbut (fun m=>(V2 m r).getD i 0) m R1.M)).1 (e1.trans e2.symm);simp only [List.getD_eq_getElem?_getD]at e4;rw[List.getElem?_eq_getElem hi1,List.getElem?_eq_getElem hi2]at e4;exact e4
 ·exact key m hm hp
theorem layK_congr {D E:Nat->Sec} (us:List (Int×List UInt8)) {b:Nat} (h:D b=E b):∀n,layK D us n b=layK E us n b
 |0=>h
 |n+1=>by
  show(if _ then _ else layK D us n b)=if _ then _ else layK E us n b
  rw[layK_congr us h n]
theorem wLaid_congr {D E:Nat->Sec} {M C S size:Nat} (us:List (Int×List UInt8)) {b:Nat} (h:D b=E b):wLaid M C S size us D b=wLaid M C S size us E b:=by
 unfold wLaid;split
 ·exact layK_congr us h _
 ·exact h
structure LzOne (R:RS) (V:Nat->Nat->Sec) (fr0:Nat->Int) (M C S ring:Nat) (a b:Nat):Prop where
 good:Good R V
 idle:R.lazy=true\/R.wait= []
 bud:Bud R a b
 sec0:∀m,m<M->fr0 m≠0->R.s.sec m 0=zsec
 lost:∀m,m<M->fr0 m=0->∃x,R.s.pos (m*3)=some x/\x.d.failed=true
 M:R.M=M
 C:R.C=C
 S:R.S=S
 size:R.size=ring
 fr:R.fr=fr0
theorem LzOne.step {R R':RS} {V V':Nat->Nat->Sec} {fr0:Nat->Int} {M C S ring a b a' b':Nat} (h:LzOne R V fr0 M C S ring a b) (s:Same R R') (g:Good R' V') (i:R'.lazy=true\/R'.wait= []) (hb:Bud R' a' b'):LzOne R' V' fr0 M C S ring a' b':=by
 have hbs:=s.base;rw[h.M,h.fr]at hbs;refine⟨g,i,hb,fun m hm e=>(hbs.sec0 m hm).trans (h.sec0 m hm e),fun m hm e=> ?_,s.M.trans h.M,s.C.trans h.C,s.S.trans h.S,s.size.trans h.size,s.fr.trans h.fr⟩;rw[hbs.gone m hm e];exact h.lost m hm e
theorem LzOne.mono {R:RS} {V:Nat->Nat->Sec} {fr0:Nat->Int} {M C S ring a b a' b':Nat} (h:LzOne R V fr0 M C S ring a b) (ha:a≤a') (hb:b≤b'):LzOne R V fr0 M C S ring a' b':=
 ⟨h.good,h.idle,h.bud.mono ha hb,h.sec0,h.lost,h.M,h.C,h.S,h.size,h.fr⟩
theorem Begun.one {M C S ring:Nat} {lazy:Bool} {down:Int} {R:RS} (h:Begun M C S ring lazy down R) (hr:ring≤2048) {V:Nat->Nat->Sec} (g:Good R V) (i:R.lazy=true\/R.wait= []):LzOne R V (fun j:Nat=>if (j:Int)=goneOf M down then 0 else -1) M C S ring 10000 3000:=by
 refine⟨g,i,h.bud hr,fun m hm e=>h.sec0 m hm fun e2=>e (if_pos e2),fun m hm e=>h.lost m hm ?_,h.M',h.C',h.S',h.size,h.fr⟩;by_cases e2:(m:Int)=goneOf M down
 ·exact e2
 ·rw[if_neg e2]at e;omega
structure LzAt (w0 W:World) (T1:Nat->Nat) (A1:Adr) (R1:RS) (V1:Nat->Nat->Sec) (T2:Nat->Nat) (A2:Adr) (R2:RS) (V2:Nat->Nat->Sec) (fr0:Nat->Int) (M C S ring:Nat) (a b:Nat) (D1 D2:Nat->Sec):Prop where
 two:Two w0 W T1 A1 R1 T2 A2 R2
 o1:LzOne R1 V1 fr0 M C S ring a b
 o2:LzOne R2 V2 fr0 M C S ring a b
 b1:∀k,k<S*C*(M-1)->blkOf M C V1 k=D1 k
 b2:∀k,k<S*C*(M-1)->blkOf M C V2 k=D2 k
structure Bx (W:World) (T1 T2:Nat->Nat) (g:Nat) (cs:Array Value) (t:TypeId):Prop where
 at':At W g cs t
 t1:T1 g=0
 t2:T2 g=0
section
variable {w0 W W':World} {T1 T2 T1':Nat->Nat} {A1 A2:Adr} {R1 R2 R1':RS} {V1 V2 V1':Nat->Nat->Sec} {fr0:Nat->Int} {M C S ring a b a' b':Nat} {D1 D2 D1':Nat->Sec}
theorem LzAt.swap (h:LzAt w0 W T1 A1 R1 V1 T2 A2 R2 V2 fr0 M C S ring a b D1 D2):LzAt w0 W T2 A2 R2 V2 T1 A1 R1 V1 fr0 M C S ring a b D2 D1:=⟨h.two.swap,h.o2,h.o1,h.b2,h.b1⟩
theorem LzAt.mono (h:LzAt w0 W T1 A1 R1 V1 T2 A2 R2 V2 fr0 M C S ring a b D1 D2) (ha:a≤a') (hb:b≤b'):LzAt w0 W T1 A1 R1 V1 T2 A2 R2 V2 fr0 M C S ring a' b' D1 D2:=⟨h.two,h.o1.mono ha hb,h.o2.mono ha hb,h.b1,h.b2⟩
theorem LzAt.below (h:LzAt w0 W T1 A1 R1 V1 T2 A2 R2 V2 fr0 M C S ring a b D1 D2) (hb:Below W.heap.size W W'):LzAt w0 W' (tidy W' T1) A1 R1 V1 (tidy W' T2) A2 R2 V2 fr0 M C S ring a b D1 D2:=⟨h.two.below hb,h.o1,h.o2,h.b1,h.b2⟩
theorem LzAt.one (h:LzAt w0 W T1 A1 R1 V1 T2 A2 R2 V2 fr0 M C S ring a b D1 D2):LAt w0 W T1 A1 R1 V1:=h.two.one.lat h.o1.good h.o1.idle
theorem LzAt.did (h:LzAt w0 W T1 A1 R1 V1 T2 A2 R2 V2 fr0 M C S ring a b D1 D2) (hl:LAt w0 W' T1' A1 R1' V1') (hs:Stp W T1 A1 W' T1') (hb:Bud R1' a' b') (s:Same R1 R1') (ha:a≤a') (hb':b≤b') (hk:∀k,k<S*C*(M-1)->blkOf M C V1' k=D1' k):LzAt w0 W' (tidy W' T1') A1 R1' V1' (tidy W' T2) A2 R2 V2 fr0 M C S ring a' b' D1' D2:=
 ⟨h.two.step hl.ln hs,h.o1.step s hl.good hl.idle hb,h.o2.mono ha hb',hk,h.b2⟩
theorem Bx.swap {g:Nat} {cs:Array Value} {t:TypeId} (k:Bx W T1 T2 g cs t):Bx W T2 T1 g cs t:=⟨k.at',k.t2,k.t1⟩
theorem Bx.below {g:Nat} {cs:Array Value} {t:TypeId} (k:Bx W T1 T2 g cs t) (hb:Below W.heap.size W W'):Bx W' (tidy W' T1) (tidy W' T2) g cs t:=⟨k.at'.below hb k.at'.lt,tidy_zero k.t1,tidy_zero k.t2⟩
theorem LzAt.newBx (h:LzAt w0 W T1 A1 R1 V1 T2 A2 R2 V2 fr0 M C S ring a b D1 D2) (cs:Array Value) (t:TypeId):Bx (W.alloc (.cells cs t)) (tidy (W.alloc (.cells cs t)) T1) (tidy (W.alloc (.cells cs t)) T2) W.heap.size cs t:=⟨At.new _ _ _,tidy_zero (h.two.one.virg _ (Nat.le_refl _)),tidy_zero (h.two.two.virg _ (Nat.le_refl _))⟩
theorem LzAt.keep (h:LzAt w0 W T1 A1 R1 V1 T2 A2 R2 V2 fr0 M C S ring a b D1 D2) (hs:Stp W T1 A1 W' T1') {g:Nat} {cs:Array Value} {t:TypeId} (k:Bx W T1 T2 g cs t) (h1:93≠t) (h2:3≠t) (h3:110≠t) (h4:167≠t):Bx W' (tidy W' T1') (tidy W' T2) g cs t:=by
 obtain⟨k1,k2⟩:=h.one.keep hs k.at' k.t1 h1 h2 h3 h4;exact⟨k1,tidy_zero k2,tidy_zero k.t2⟩
theorem lz_write (h:LzAt w0 W T1 A1 R1 V1 T2 A2 R2 V2 fr0 M C S ring a b D1 D2) (hin:Within a b) (pv:Value) (us:List (Int×List UInt8)) (hp:PutSeg w0 pv us):
  Calls Tryz.prog 16 #[.pointer (some ⟨A1.q,0,none⟩),pv] W fun e w'=>e=.returned (.agg #[.int .i64 0,.int .u16 (wcode M C S ring us:Nat)])/\∃T1' R1' V1',LzAt w0 w' (tidy w' T1') A1 R1' V1' (tidy w' T2) A2 R2 V2 fr0 M C S ring (a+1000000) (b+8*us.length+4) (wLaid M C S ring us D1) D2/\Stp W T1 A1 w' T1':=by
 have:=l_write h.one h.o1.bud hin pv us hp;rw[h.o1.M,h.o1.C,h.o1.S,h.o1.size]at this;refine this.mono ?_;rintro e w' ⟨rfl,T',R',V',h1,h2,h3,h4,h5⟩;exact⟨rfl,T',R',V',h.did h1 h2 h3 h4 (by omega) (by omega) (fun k hk=>(h5 k hk).trans (wLaid_congr us (h.b1 k hk))),h2⟩
theorem lz_settle (h:LzAt w0 W T1 A1 R1 V1 T2 A2 R2 V2 fr0 M C S ring a b D1 D2) (hin:Within a b):
  Calls Tryz.prog 19 #[.pointer (some ⟨A1.q,0,none⟩)] W fun e w'=>e=.returned (.agg #[.int .i64 0,.int .u16 0])/\∃T1' R1',LzAt w0 w' (tidy w' T1') A1 R1' V1 (tidy w' T2) A2 R2 V2 fr0 M C S ring (a+1000) b D1 D2/\Stp W T1 A1 w' T1':=by
 refine(l_settle h.one h.o1.bud hin).mono ?_;rintro e w' ⟨rfl,T',R',h1,h2,h3,h4,-⟩;exact⟨rfl,T',R',h.did h1 h2 h3 h4 (by omega) (by omega) h.b1,h2⟩
theorem lz_empty (h:LzAt w0 W T1 A1 R1 V1 T2 A2 R2 V2 fr0 M C S ring a b D1 D2) (hin:Within a b):
  Calls Tryz.prog 21 #[.pointer (some ⟨A1.q,0,none⟩)] W fun e w'=>e=.returned (.agg #[.int .i64 0,.int .u16 0])/\∃T1' R1',LzAt w0 w' (tidy w' T1') A1 R1' V1 (tidy w' T2) A2 R2 V2 fr0 M C S ring (a+1000) (b+1) D1 D2/\Stp W T1 A1 w' T1'/\R1'.wait= []/\Clean R1':=by
 refine(l_empty h.one h.o1.bud hin).mono ?_;rintro e w' ⟨rfl,T',R',h1,h2,h3,h4,h5,-,h6⟩;exact⟨rfl,T',R',h.did h1 h2 h3 h4 (by omega) (by omega) h.b1,h2,h5,h.o1.good.clean h6⟩
theorem lz_read (h:LzAt w0 W T1 A1 R1 V1 T2 A2 R2 V2 fr0 M C S ring a b D1 D2) (hin:Within a b) (k:Nat) (hk:k<S*C*(M-1)):
  Calls Tryz.prog 14 #[.pointer (some ⟨A1.q,0,none⟩),.int .i64 k] W fun e w'=>∃v R1',e=.returned (.tuple #[v,.agg #[.int .i64 0,.int .u16 0]])/\w'.ownsRow W.heap.size 5 1 v 128 (ucells (D1 k))/\LzAt w0 w' (tidy w' T1) A1 R1' V1 (tidy w' T2) A2 R2 V2 fr0 M C S ring (a+17) b D1 D2/\Stp W T1 A1 w' T1:=by
 have hB:k<R1.S*R1.C*(R1.M-1):=by rw[h.o1.M,h.o1.C,h.o1.S];exact hk
 refine(l_read h.one h.o1.bud hin k hB).mono ?_;rintro e w' ⟨v,c,rfl,hc,h1,h2,h3⟩;rw[h.o1.M,h.o1.C,h.b1 k hk]at h1;have hs:Stp W T1 A1 w' T1:=Stp.ofBay h3;exact⟨v,_,rfl,h1,h.did h2 hs ((h.o1.bud.ticks c).mono (by omega) (by omega)) (Same.ticks R1 c) (by omega) (by omega) h.b1,hs⟩
theorem lz_read_no (h:LzAt w0 W T1 A1 R1 V1 T2 A2 R2 V2 fr0 M C S ring a b D1 D2) (k:Int) (hk:k<0\/((S*C*(M-1):Nat):Int)≤k):
  Calls Tryz.prog 14 #[.pointer (some ⟨A1.q,0,none⟩),.int .i64 k] W fun e w'=>e=.returned (.tuple #[.slice none 0 0,.agg #[.int .i64 0,.int .u16 3]])/\Below W.heap.size W w':=by
 refine l_read_no h.one k ?_;have hg:=h.o1.good.geo;have h3:=(geo_pos hg).1;rw[h.o1.M]at h3;rw[h.o1.M,h.o1.C,h.o1.S];have e:(S:Int)*C*((M:Int)-1)=((S*C*(M-1):Nat):Int):=by rw[Int.natCast_mul,Int.natCast_mul,Int.natCast_sub (by omega)];rfl
 rw[e];exact hk
end
theorem RwIn.boxG {W W':World} {T:Nat->Nat} {A:Adr} {R:RS} {lg:Option Nat} {vw:Value} {X:List OP} (h:RwIn W T A R lg vw X) {tb:Nat} {cs:Array Value} {t:TypeId} (hbx:At W tb cs t) (ht:T tb=0) (h1:93≠t) (h2:3≠t) (h3:110≠t) (h4:167≠t) (h5:76≠t) (h6:5≠t) (hc:Chg (fun q=>q=tb) W W'):RwIn W' T A R lg vw X:=
 ⟨h.bay.keep hc (fun k hk e=>hk (by rw[e];exact ht)),h.rw.mod hc (at_ne h.rw hbx h1),h.fr.mod hc (at_ne h.fr hbx h2),h.wt.mod hc (fun g hg e=>own_ne_at h.wt.row hbx h5 (by rw[hg,e])) (fun x hx g hg e=>own_ne_at (h.wt.dat x hx) hbx h6 (by rw[hg,e])),h.wtT,h.wtX,h.wtM,h.wal.mod hc (at_ne h.wal hbx h3),h.ring.mod hc (at_ne h.ring hbx h4),h.tq,h.tf,h.tw,h.tr⟩
theorem Ln.rebase {w0 w1 W:World} {T:Nat->Nat} {A:Adr} {R:RS} (h:Ln w1 W T A R) (hb:Below w0.heap.size w0 w1):Ln w0 W T A R:=
 ⟨h.rw,fun q hq=>h.old q (by have:=hb.size;omega),hb.trans (h.bel.mono hb.size)⟩
theorem chg_set (W:World) (tb i:Nat) (u:Value):Chg (fun q=>q=tb) W (W.setCell ⟨tb,i,none⟩ u):=Chg.setCell (S:=fun q=>q=tb) (Chg.refl _ _) ⟨tb,i,none⟩ (.inl rfl) _
theorem lz_start {w w2 w3 w4:World} {tb M C S ring:Nat} {lz:Bool} {more down:Int} {T1 T2:Nat->Nat} {A1 A2:Adr} {R1 R2:RS} (hb2:Below w.heap.size w w2) (hbx:At w2 tb #[.int .i64 M,.int .i64 C,.int .i64 S,.int .i64 ring,.bool lz,.int .i64 more] 25) (htb:w.heap.size≤tb)
  (h3:LAt (w2.setCell ⟨tb,4,none⟩ (.bool false)) w3 T1 A1 R1 zeroV) (g3:Begun M C S ring false down R1) (h4:LAt (w3.setCell ⟨tb,4,none⟩ (.bool true)) w4 T2 A2 R2 zeroV) (g4:Begun M C S ring true down R2) (hr:ring≤2048):
  LzAt w w4 (tidy w4 T1) A1 R1 zeroV (tidy w4 T2) A2 R2 zeroV (fun j:Nat=>if (j:Int)=goneOf M down then 0 else -1) M C S ring 10000 3000 (fun _=>zsec) (fun _=>zsec)/\Bx w4 (tidy w4 T1) (tidy w4 T2) tb #[.int .i64 M,.int .i64 C,.int .i64 S,.int .i64 ring,.bool true,.int .i64 more] 25:=by
 have e2:=hb2.size;have c2:=chg_set w2 tb 4 (.bool false);have hbs:Below w.heap.size w (w2.setCell ⟨tb,4,none⟩ (.bool false)):=hb2.trans (c2.below fun q hq=>⟨by omega,fun e=>by omega⟩);have hx2:At (w2.setCell ⟨tb,4,none⟩ (.bool false)) tb _ 25:=hbx.set 4 (.bool false);have hx3:=hx2.below h3.bel hx2.lt;have t1:T1 tb=0:=(h3.old tb hx2.lt).1;have c3:=chg_set w3 tb 4 (.bool true);have l3:Ln w (w3.setCell ⟨tb,4,none⟩ (.bool true)) T1 A1 R1:=by
  have l:=h3.ln.rebase hbs;obtain⟨lg,vw,X,hr⟩:=l.rw;have e3:=l.bel.size;exact⟨⟨lg,vw,X,hr.boxG hx3 t1 (by decide) (by decide) (by decide) (by decide) (by decide) (by decide) c3⟩,l.old,l.bel.trans (c3.below fun q hq=>⟨by omega,fun e=>by omega⟩)⟩
 have hx4:At (w3.setCell ⟨tb,4,none⟩ (.bool true)) tb _ 25:=hx3.set 4 (.bool true);refine⟨⟨Two.start l3 h4.ln,(g3.one hr h3.good h3.idle),(g4.one hr h4.good h4.idle),fun _ _=>rfl,fun _ _=>rfl⟩,(hx4.below h4.bel hx4.lt),tidy_zero t1,tidy_zero (h4.old tb hx4.lt).1⟩
theorem images_same {R1 R2:RS} {V1 V2:Nat->Nat->Sec} {fr0:Nat->Int} {M C S ring a b a' b':Nat} (o1:LzOne R1 V1 fr0 M C S ring a b) (o2:LzOne R2 V2 fr0 M C S ring a' b') (c1:Clean R1) (c2:Clean R2) (w1:R1.wait= []) (w2:R2.wait= []) {D:Nat->Sec} (hb1:∀k,k<S*C*(M-1)->blkOf M C V1 k=D k) (hb2:∀k,k<S*C*(M-1)->blkOf M C V2 k=D k) (hf:∀m,fr0 m=0\/fr0 m= -1) {m:Nat} (hm:m<M):
  (R1.s.image (m:Int)=(0,none)/\R2.s.image (m:Int)=(0,none))\/∃L:List Sec,(∀s∈L,s.length=128)/\L.length≤4097/\R1.s.image (m:Int)=(0,some L)/\R2.s.image (m:Int)=(0,some L):=by
 have h:∀k,k<S*C*(M-1)->blkOf M C V1 k=blkOf M C V2 k:=fun k hk=>(hb1 k hk).trans (hb2 k hk).symm
 have g1:=o1.good;have g2:=o2.good;have hgp:=geo_pos g1.geo;rw[o1.M,o1.S,o1.C]at hgp;rcases hf m with e|e
 ·left
  obtain⟨x,p1,f1⟩:=o1.lost m hm e;obtain⟨y,p2,f2⟩:=o2.lost m hm e;exact⟨by rw[image_some (by rw[g1.n,o1.M];omega) p1,if_pos f1],by rw[image_some (by rw[g2.n,o2.M];omega) p2,if_pos f2]⟩
 ·right
  have d1:∀r,R1.dn m r=false:=fun r=>by unfold RS.dn;rw[o1.fr,e];simp
  have d2:∀r,R2.dn m r=false:=fun r=>by unfold RS.dn;rw[o2.fr,e];simp
  obtain⟨L,i1,i2,i3,i4⟩:=c1.whole g1 (by rw[o1.M];exact hm) (d1 0);obtain⟨L',j1,j2,j3,j4⟩:=c2.whole g2 (by rw[o2.M];exact hm) (d2 0);rw[o1.S,o1.C]at i2 i4;rw[o2.S,o2.C]at j2 j4;have hL:L=L':=by
   refine List.ext_getElem? fun z=> ?_
   by_cases hz:z<1+S*C
   ·rw[i4 z hz,j4 z hz]
    congr 1;by_cases h0:z=0
    ·subst h0
     rw[o1.sec0 m hm (by omega),o2.sec0 m hm (by omega)]
    ·obtain⟨r,rfl⟩:∃r,z=1+r:=⟨z-1,by omega⟩
     rw[g1.sec m r (by rw[o1.M];exact hm) (by rw[o1.S,o1.C];omega) (by rw[w1];rfl) (d1 r),g2.sec m r (by rw[o2.M];exact hm) (by rw[o2.S,o2.C];omega) (by rw[w2];rfl) (d2 r)];exact V_same g1 g2 (o2.M.trans o1.M.symm) (o2.C.trans o1.C.symm) (o2.S.trans o1.S.symm) (by rw[o1.M,o1.C,o1.S];exact h) (by rw[o1.M];exact hm) (by rw[o1.S,o1.C];omega)
   ·rw[List.getElem?_eq_none (by omega),List.getElem?_eq_none (by omega)]
  subst hL;exact⟨L,i3,by rw[i2];omega,i1,j1⟩
end Go.Proofs.YtebmephdnjccjaaGreat
