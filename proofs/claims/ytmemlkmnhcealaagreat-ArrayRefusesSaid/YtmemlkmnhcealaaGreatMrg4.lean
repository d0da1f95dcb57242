
/- Several texts in one: BayF, BayG. -/
import Derived.Test.YtmemlkmnhcealaaGreatBayE
import Derived.Laws.ResultCell
set_option linter.unusedVariables false
set_option maxRecDepth 100000
set_option maxHeartbeats 4000000
namespace Go.Proofs.YtmemlkmnhcealaaGreat
open Value renaming int→O,slice→Zt
open IntKind renaming i64→Z
open Obj renaming cells→Zv
open Go.RowKit
variable {s:BaySt} {b gs:Nat} {T dp tg:Nat->Nat} {ptr:Nat->Option Nat} {w:World}
def Dsk.read(d:Dsk)(z:Int):Nat×Option Sec:=if d.may z=0 then (0,some (d.cur z.toNat))else (d.may z,none)
theorem Zvd{d:Dsk}{z:Int}(h:d.may z=0):d.failed=false/\∃i:Nat,z=i/\i<d.last.length:=by
 unfold Dsk.may at h;cases hf:d.failed
 ·rw[hf,Ze (by simp)]at h
  by_cases hz:z<0\/(d.last.length:Int)≤z
  ·rw[Zf hz]at h;omega
  ·exact⟨rfl,z.toNat,by omega,by omega⟩
 ·rw[hf,Zf rfl]at h;omega
def BayRead(w:World)(T:Nat->Nat)(b:Nat)(s':BaySt)(gs:Nat)(ptr:Nat->Option Nat)(tg dp:Nat->Nat)(code:Nat)(so:Option Sec)(e:Ending)(w':World):Prop:=
 ∃v,e=.returned (.tuple #[v,.int .u16 code])/\BayIn w' T b s' gs ptr tg dp/\Chg (fun k=>T k≠0) w w'/\(∀x,so=some x->w'.ownsRow w.heap.size 5 1 v 128 (ucells x))/\(so=none->v=Zt none 0 0)
theorem Zvv(T:Nat->Nat)(t dv dp ab db:Nat)(z:Int)(v0:Value)(x:Dev)(w:World)(h:DevAt w T t dv dp x)(ha:At w ab #[O Z z] 3)(hd:At w db #[v0] 36)(n1:db≠dv)(n2:db≠ab):
  Calls Tryz.prog 158 #[.pointer (some ⟨dv,0,none⟩),.pointer (some ⟨ab,0,none⟩),.pointer (some ⟨db,0,none⟩)] w (ReadDo w db (x.d.read z).1 (x.d.read z).2):=by
 unfold Dsk.read;by_cases hz:x.d.may z=0
 ·rw[Zf hz]
  obtain⟨hf,i,rfl,hi⟩:=Zvd hz;exact Zqq T t dv dp ab db i v0 x w h hf hi ha hd n1 n2
 ·rw[Ze hz]
  exact Zmw T t dv dp ab db z v0 x w h hz ha hd n1 n2
theorem Zkf(h:BayIn w T b s gs ptr tg dp)(k:Nat)(z:Int)(hk:k<s.n)(ht:s.trip≠0)(hd:s.dark=false)(hcnt:s.cnt 0≤1000000000000)
  (x:Dev) (hx:s.pos (k*3)=some x) (hm:x.d.cache.length≤1000000):
  Calls Tryz.prog 116 #[.pointer (some ⟨b,0,none⟩),O Z k,O Z z] w (BayRead w T b (s.begun 0 (k*3) x.use) gs ptr tg dp (x.use.d.read z).1 (x.use.d.read z).2):=by
 obtain⟨dv,hp,hdv⟩:=h.some' (k*3) (by omega) x hx;have hB1:BayIn ((w.alloc (Zv #[O Z z] 3)).alloc (Zv #[Zt none 0 0] 36)) T b s gs ptr tg dp:=h.keep (S:=fun _=>False) (((Zl _ _).alloc _).alloc _) (fun _ _ h=>h);have e1:(w.alloc (Zv #[O Z z] 3)).heap.size=w.heap.size+1:=Zaa _ _;have e2:((w.alloc (Zv #[O Z z] 3)).alloc (Zv #[Zt none 0 0] 36)).heap.size=w.heap.size+2:=by rw[Zaa,e1]
 have hv0:=h.virgin (w.heap.size) (Za _);have hv1:=h.virgin (w.heap.size+1) (by omega);have hA1:At ((w.alloc (Zv #[O Z z] 3)).alloc (Zv #[Zt none 0 0] 36)) w.heap.size #[O Z z] 3:=(At.new _ _ _).alloc _;have hD1:At ((w.alloc (Zv #[O Z z] 3)).alloc (Zv #[Zt none 0 0] 36)) (w.heap.size+1) #[Zt none 0 0] 36:=At.new2 _ _ _ _
 have hop:=Lib.hid (Zsf hB1 w.heap.size (w.heap.size+1) k hk ht hd hcnt x hx dv hp hm
  (fun c W'=>c=((x.use.d.read z).1:Int)/\BayIn W' T b (s.begun 0 (k*3) x.use) gs ptr tg dp/\∃v,At W' (w.heap.size+1) #[v] 36/\Chg (fun q=>T q≠0) w W'/\(∀y,(x.use.d.read z).2=some y->W'.ownsRow w.heap.size 5 1 v 128 (ucells y)/\∀g,v.ownBlock=some g->w.heap.size+1<g)/\((x.use.d.read z).2=none->v=Zt none 0 0))
  (fun W hB hc=>by
   obtain⟨dv',p1,p2⟩:=hB.some' (k*3) (by show k*3<3*s.n;omega) x.use (by show(if k*3=k*3 then some x.use else s.pos (k*3))=some x.use;rw[Zf rfl])
   rw[hp]at p1
   simp only [Zg]at p1
   subst p1
   have ha:=hA1.mod hc (by rw[hv0];simp)
   have hdd:=hD1.mod hc (by rw[hv1];simp)
   have hsz:=hc.size
   rw[e2]at hsz
   have nd:w.heap.size+1≠dv:=fun e=>by have:=p2.tag;rw[<-e]at this;omega
   refine(Zvv T (tg (k*3)) dv (dp (k*3)) w.heap.size (w.heap.size+1) z _ x.use W p2 ha hdd nd (by omega)).mono fun e W' ⟨he,v,k1,k2,k3,k4⟩=>⟨_,he,rfl,hB.keep k2 (fun q hq e=>by subst e;omega),v,k1,?_,fun y hy=>⟨Zan (k3 y hy) (by omega),fun g hg=>by have:=((k3 y hy).lt g hg).1;omega⟩,k4⟩
   have h0:Chg (fun q=>T q≠0) w ((w.alloc (Zv #[O Z z] 3)).alloc (Zv #[Zt none 0 0] 36)):=((Zl _ _).alloc _).alloc _
   have h1:=h0.trans hc
   exact⟨k2.os.trans h1.os,k2.tape.trans h1.tape,k2.output.trans h1.output,Zc h1.size k2.size,fun q hq hn=>(k2.block q (Zd hq h1.size) (by omega)).trans (h1.block q hq hn)⟩))
 clear hB1 hA1 hD1 hdv h;go_enter Tryz.func116,Tryz.ntmps116;go_wp2_with (go_at_call 75;refine hop.out.mono ?_;rintro e w2 ⟨c,rfl,rfl,hB,v,k1,k2,k3,k4⟩;have hshape:∃a n c,v=Zt a n c:=(by cases hq:(x.use.d.read z).2 with|none=>exact⟨_,_,_,k4 hq⟩|some y=>(obtain⟨a,cap,e⟩:=Zab (k3 y hq).1;exact⟨_,_,_,e⟩));obtain⟨va,vn,vc,rfl⟩:=hshape;have d0:w2.cell? ⟨w.heap.size+1,0,none⟩=some (Zt va vn vc):=k1.cell 0;have f0:=k1.free 0;have K1:=Lib.hid k1;have HB:=Lib.hid hB;clear k1 hB);have hset:Chg (fun q=>q=w.heap.size+1) w2 (w2.setCell ⟨w.heap.size+1,0,none⟩ (Zt va vn vc)):=Zk (S:=fun q=>q=w.heap.size+1) (Zl _ _) ⟨w.heap.size+1,0,none⟩ (.inl rfl) _;have hrd:(w2.setCell ⟨w.heap.size+1,0,none⟩ (Zt va vn vc)).cell? ⟨w.heap.size+1,0,none⟩=some (Zt va vn vc):=(K1.out.set 0 (Zt va vn vc)).cell 0;have hb:=HB.out.keep hset (fun q hq e=>by subst e;omega);have hch:Chg (fun q=>T q≠0) w (w2.setCell ⟨w.heap.size+1,0,none⟩ (Zt va vn vc)):=⟨hset.os.trans k2.os,hset.tape.trans k2.tape,hset.output.trans k2.output,Zc k2.size hset.size,fun q hq hn=>(hset.block q (Zd hq k2.size) (by omega)).trans (k2.block q hq hn)⟩;(try simp only [Exit.inBlock,Exit.then]);refine bodyPost_ret (v:=.tuple #[Zt va vn vc,.int .u16 ((x.use.d.read z).1:Nat)]) ?_ rfl ⟨Zt va vn vc,rfl,hb,hch,fun y hy=>Zad (k3 y hy).1 hset (fun g hg e=>by have:=(k3 y hy).2 g hg;omega),k4⟩;rw[results_cell_tmp rfl];go_simp
open Go.RowKit
def Dsk.write(d:Dsk)(z:Int)(l:List UInt8):Nat×Dsk:=if d.may z≠0 then (d.may z,d)else if l.length≠128 then (4,d)else (0,{d with cache:=d.cache++ [(z.toNat,l)]})
def Dsk.flush(d:Dsk):Nat×Dsk:=if d.failed=true then (2,d)else (0,d.settled)
theorem Zht(s:BaySt)(j i:Nat)(x y:Dev):({s.begun j i x with pos:=fun q=>if q=i then some y else (s.begun j i x).pos q}:BaySt)=s.begun j i y:=by
 have e:(fun q=>if q=i then some y else (s.begun j i x).pos q)=fun q=>if q=i then some y else s.pos q:=by
  funext q;show(if q=i then some y else if q=i then some x else s.pos q)=_
  by_cases h:q=i
  ·rw[Zf h,Zf h]
  ·rw[Ze h,Ze h,Ze h]
 rw[e];rfl
def BayDone(w:World)(T:Nat->Nat)(b:Nat)(s':BaySt)(gs:Nat)(ptr:Nat->Option Nat)(tg dp:Nat->Nat)(w':World):Prop:=
 ∃T',BayIn w' T' b s' gs ptr tg dp/\(∀q,q<w.heap.size->T' q=T q)/\Chg (fun q=>T q≠0) w w'
theorem BayIn.did{W W':World}{j i dv:Nat}{x y:Dev}(hB:BayIn W T b (s.begun j i x) gs ptr tg dp)(hi:i<3*s.n)(hp:ptr i=some dv)(hd:DevPost W T (tg i) dv (dp i) y W')(hc:Chg (fun q=>T q≠0) w W):
  BayDone w T b (s.begun j i y) gs ptr tg dp W':=by
 obtain⟨T',d1,d2,d3⟩:=hB.device (i:=i) (x:=x) hi (by show(if i=i then some x else s.pos i)=some x;rw[Zf rfl]) hp hd;rw[Zht]at d1;exact⟨T',d1,fun q hq=>d2 q (Zd hq hc.size),hc.trans d3⟩
theorem Zit(h:BayIn w T b s gs ptr tg dp)(k:Nat)(z:Int)(v:Value)(l:List UInt8)(hk:k<s.n)(ht:s.trip≠0)(hd:s.dark=false)(hcnt:s.cnt 1≤1000000000000)
  (x:Dev) (hx:s.pos (k*3)=some x) (hm:x.d.cache.length≤1000000) (hm2:x.use.d.cache.length≤1000000) (hv:Seg w v l) (hvT:l.length=128->∀a n c,v=Zt (some a) n c->T a.block=0):
  Calls Tryz.prog 43 #[.pointer (some ⟨b,0,none⟩),O Z k,O Z z,v] w fun e w'=>e=.returned (.int .u16 ((x.use.d.write z l).1:Nat))/\BayDone w T b (s.begun 1 (k*3) ⟨(x.use.d.write z l).2,x.use.worn,x.use.left⟩) gs ptr tg dp w':=by
 obtain⟨dv,hp,hdv⟩:=h.some' (k*3) (by omega) x hx;obtain⟨va,vc,rfl⟩:=hv.shape;have hB1:BayIn ((w.alloc (Zv #[O Z z] 3)).alloc (Zv #[Zt va l.length vc] 36)) T b s gs ptr tg dp:=h.keep (S:=fun _=>False) (((Zl _ _).alloc _).alloc _) (fun _ _ h=>h);have e1:(w.alloc (Zv #[O Z z] 3)).heap.size=w.heap.size+1:=Zaa _ _;have e2:((w.alloc (Zv #[O Z z] 3)).alloc (Zv #[Zt va l.length vc] 36)).heap.size=w.heap.size+2:=by rw[Zaa,e1]
 have hv0:=h.virgin (w.heap.size) (Za _);have hv1:=h.virgin (w.heap.size+1) (by omega);have hA1:At ((w.alloc (Zv #[O Z z] 3)).alloc (Zv #[Zt va l.length vc] 36)) w.heap.size #[O Z z] 3:=(At.new _ _ _).alloc _;have hD1:At ((w.alloc (Zv #[O Z z] 3)).alloc (Zv #[Zt va l.length vc] 36)) (w.heap.size+1) #[Zt va l.length vc] 36:=At.new2 _ _ _ _;have h0:Chg (fun q=>T q≠0) w ((w.alloc (Zv #[O Z z] 3)).alloc (Zv #[Zt va l.length vc] 36)):=((Zl _ _).alloc _).alloc _
 have hop:=Lib.hid (Zpg hB1 w.heap.size (w.heap.size+1) k hk ht hd hcnt x hx dv hp hm
  (fun c W'=>c=((x.use.d.write z l).1:Int)/\BayDone w T b (s.begun 1 (k*3) ⟨(x.use.d.write z l).2,x.use.worn,x.use.left⟩) gs ptr tg dp W')
  (fun W hB hc=>by
   obtain⟨dv',p1,p2⟩:=hB.some' (k*3) (by show k*3<3*s.n;omega) x.use (by show(if k*3=k*3 then some x.use else s.pos (k*3))=some x.use;rw[Zf rfl])
   rw[hp]at p1
   simp only [Zg]at p1
   subst p1
   have ha:=hA1.mod hc (by rw[hv0];simp)
   have hdd:=hD1.mod hc (by rw[hv1];simp)
   have htwo:=p2.two
   have hcw:=h0.trans hc
   by_cases hgood:x.use.d.may z=0/\l.length=128
   ·obtain⟨g1,g2⟩:=hgood
    have hvT:=hvT g2
    obtain⟨hf,i,rfl,hi⟩:=Zvd g1
    have hsegW:Seg W (Zt va l.length vc) l:=by
     obtain⟨vb,vo,vc',hve,hvb,hcells⟩:=hv.full (by omega)
     have hvt:=hvT _ _ _ hve
     obtain⟨a',cap',q1,q2,q3⟩:=hv
     refine⟨a',cap',q1,q2,?_⟩
     rcases q3 with q3|⟨b',o',q3,q4,q5⟩
     ·exact .inl q3
     ·refine .inr ⟨b',o',q3,Zd q4 hcw.size,fun j hj=> ?_⟩
      have hb0:T b'=0:=hvT ⟨b',o',none⟩ _ _ (by rw[q1,q3])
      exact(hcw.cell (p:=⟨b',o'+j,none⟩) q4 (by rw[hb0];simp)).trans (q5 j hj)
    have e3:x.use.d.write (i:Int) l=(0,{x.use.d with cache:=x.use.d.cache++ [(i,l)]}):=by unfold Dsk.write;rw[Ze (by omega),Ze (by omega)];rfl
    rw[e3]
    refine(Zm5 T (tg (k*3)) dv (dp (k*3)) w.heap.size (w.heap.size+1) i _ l x.use W p2 hf hi ha hdd hsegW g2 hm2 (fun a n c he e=>by rw[hvT a n c he]at e;omega) (by omega) (by omega)).mono fun e W' ⟨he,hpost⟩=>⟨_,he,rfl,hB.did (by omega) hp hpost hcw⟩
   ·have hcode:(x.use.d.may z≠0/\(x.use.d.write z l).1=x.use.d.may z)\/(x.use.d.may z=0/\l.length≠128/\(x.use.d.write z l).1=4):=by
     unfold Dsk.write
     by_cases g1:x.use.d.may z=0
     ·right
      have g2:l.length≠128:=fun g2=>hgood ⟨g1,g2⟩
      rw[Ze (by omega),Zf g2]
      exact⟨g1,g2,rfl⟩
     ·left
      rw[Zf g1]
      exact⟨g1,rfl⟩
    have hsame:(x.use.d.write z l).2=x.use.d:=by
     unfold Dsk.write
     by_cases g1:x.use.d.may z=0
     ·have g2:l.length≠128:=fun g2=>hgood ⟨g1,g2⟩
      rw[Ze (by omega),Zf g2]
     ·rw[Zf g1]
    rw[hsame]
    refine(Zl2 T (tg (k*3)) dv (dp (k*3)) w.heap.size (w.heap.size+1) z va l.length vc _ x.use W p2 ha hdd hcode).mono fun e W' ⟨he,hw⟩=>⟨_,he,rfl,T,?_,fun _ _=>rfl,?_⟩
    ·rw[hw]
     exact hB.keep (S:=fun _=>False) ((Zl _ _).drew) (fun _ _ h=>h)
    ·rw[hw]
     exact hcw.drew))
 clear hB1 hA1 hD1 hdv h h0 hvT hv;generalize x.use.d.write z l=r at*;go_enter Tryz.func43,Tryz.ntmps43;go_wp2_with (go_at_call 75;refine hop.out.mono ?_;rintro e w2 ⟨c,rfl,rfl,hB⟩);go_ret;exact⟨rfl,hB⟩
theorem Zi2(h:BayIn w T b s gs ptr tg dp)(k:Nat)(hk:k<s.n)(ht:s.trip≠0)(hd:s.dark=false)(hcnt:s.cnt 2≤1000000000000)
  (x:Dev) (hx:s.pos (k*3)=some x) (hm:x.d.cache.length≤1000000) (hm2:x.use.d.cache.length≤1000000):
  Calls Tryz.prog 47 #[.pointer (some ⟨b,0,none⟩),O Z k] w fun e w'=>e=.returned (.int .u16 (x.use.d.flush.1:Nat))/\BayDone w T b (s.begun 2 (k*3) ⟨x.use.d.flush.2,x.use.worn,x.use.left⟩) gs ptr tg dp w':=by
 obtain⟨dv,hp,hdv⟩:=h.some' (k*3) (by omega) x hx
 have hop:=Lib.hid (Zqu h k hk ht hd hcnt x hx dv hp hm
  (fun c W'=>c=(x.use.d.flush.1:Int)/\BayDone w T b (s.begun 2 (k*3) ⟨x.use.d.flush.2,x.use.worn,x.use.left⟩) gs ptr tg dp W')
  (fun W hB hc=>by
   obtain⟨dv',p1,p2⟩:=hB.some' (k*3) (by show k*3<3*s.n;omega) x.use (by show(if k*3=k*3 then some x.use else s.pos (k*3))=some x.use;rw[Zf rfl])
   rw[hp]at p1
   simp only [Zg]at p1
   subst p1
   unfold Dsk.flush
   cases hf:x.use.d.failed
   ·rw[Ze (by simp)]
    exact(Zn7 T (tg (k*3)) dv (dp (k*3)) x.use W p2 hf hm2).mono fun e W' ⟨he,hpost⟩=>⟨_,he,rfl,hB.did (by omega) hp hpost hc⟩
   ·rw[Zf rfl]
    refine(Zmd T (tg (k*3)) dv (dp (k*3)) x.use W p2 hf).mono fun e W' ⟨he,hw⟩=>⟨_,he,rfl,T,?_,fun _ _=>rfl,?_⟩
    ·rw[hw];exact hB
    ·rw[hw];exact hc))
 clear hdv h;generalize x.use.d.flush=r at*;go_enter Tryz.func47,Tryz.ntmps47;go_wp2_with (go_at_call 75;refine hop.out.mono ?_;rintro e w2 ⟨c,rfl,rfl,hB⟩);go_ret;exact⟨rfl,hB⟩
end Go.Proofs.YtmemlkmnhcealaaGreat
