
/- Several texts in one: BayI, BayJ, BayK, Calm, Calm2, Calm3, Fit. -/
import Derived.Test.YtmemlkmnhcealaaGreatMrg7
set_option linter.unusedVariables false
set_option maxRecDepth 100000
set_option maxHeartbeats 4000000
namespace Go.Proofs.YtmemlkmnhcealaaGreat
open Value renaming int→O,pointer→Zs
open IntKind renaming i64→Z
open Go.RowKit
open Lib(hid)
variable {s s':BaySt} {x y:Dev} {l:List UInt8} {i j k n z:Nat} {T sz:Nat->Nat} {G S:Nat->Prop} {v:Value} {w w':World}
theorem BayIn.lay{W:World}{b:Nat}{gs:Nat}{ptr:Nat->Option Nat}{tg dp:Nat->Nat}(h:BayIn w T b s gs ptr tg dp){t p:Nat}{d:Dsk}(hi:i<3*s.n)(hd:DiskNew w T t p d W)(ht:2≤t)(hap:∀j,j<3*s.n->j≠i->s.pos j≠none->tg j≠t):
  ∃T',BayIn ((W.alloc (.cells #[Zs (some ⟨p,0,none⟩),.bool false,O Z 0] 92)).setCell ⟨gs,i,none⟩ (Zs (some ⟨W.heap.size,0,none⟩))) T' b (s.laid i ⟨d,false,0⟩) gs (fun q=>if q=i then some W.heap.size else ptr q) (fun q=>if q=i then t else tg q) (fun q=>if q=i then p else dp q)/\
   (∀q,q<w.heap.size->T' q=T q)/\Chg (fun q=>q=gs) w ((W.alloc (.cells #[Zs (some ⟨p,0,none⟩),.bool false,O Z 0] 92)).setCell ⟨gs,i,none⟩ (Zs (some ⟨W.heap.size,0,none⟩))):=by
 obtain⟨T1,d1,d2,d3,d4,d5⟩:=hd;have hsz:=d4.size;have hc0:Chg (fun q=>q=gs) w W:=Zm d4 _;have hc1:Chg (fun q=>q=gs) w (W.alloc (.cells #[Zs (some ⟨p,0,none⟩),.bool false,O Z 0] 92)):=hc0.alloc _;have hc:Chg (fun q=>q=gs) w ((W.alloc (.cells #[Zs (some ⟨p,0,none⟩),.bool false,O Z 0] 92)).setCell ⟨gs,i,none⟩ (Zs (some ⟨W.heap.size,0,none⟩))):=Zk (S:=fun q=>q=gs) hc1 ⟨gs,i,none⟩ (.inl rfl) _;have hgs:=h.slots.lt;have hset:Chg (fun q=>q=gs) (W.alloc (.cells #[Zs (some ⟨p,0,none⟩),.bool false,O Z 0] 92)) ((W.alloc (.cells #[Zs (some ⟨p,0,none⟩),.bool false,O Z 0] 92)).setCell ⟨gs,i,none⟩ (Zs (some ⟨W.heap.size,0,none⟩))):=Zk (S:=fun q=>q=gs) (Zl _ _) ⟨gs,i,none⟩ (.inl rfl) _;have e3:((W.alloc (.cells #[Zs (some ⟨p,0,none⟩),.bool false,O Z 0] 92)).setCell ⟨gs,i,none⟩ (Zs (some ⟨W.heap.size,0,none⟩))).heap.size=W.heap.size+1:=by rw[Za6,Zaa]
 let T':Nat->Nat:=tagAt T1 W.heap.size 1;have hT:∀q,q<W.heap.size->T' q=T1 q:=fun q hq=>Zux _ _ _ _ hq
 have hTo:∀q,q<w.heap.size->T' q=T q:=fun q hq=>(hT q (by omega)).trans (d2 q (.inl hq))
 have hne:∀g cs ty,At w g cs ty->ty≠94->g≠gs:=fun g cs ty ha hty e=>by
  subst e;have c:=h.slots;unfold At at ha c;rw[ha]at c;simp only [Zg,Obj.cells.injEq]at c;exact hty c.2.1
 refine⟨T',⟨h.bay.mod hc (hne b _ _ h.bay (by decide)),?_,by rw[hTo b h.bay.lt];exact h.tb,by rw[hTo gs hgs];exact h.ts,fun j hj y hy=> ?_,fun j hj hy=> ?_,fun j l hj hl hjl a c=> ?_,fun j l hj hl hjl dv hdv=> ?_,fun k hk=> ?_,h.few,h.cl,h.trl,h.trh⟩,hTo,hc⟩
 ·have h1:At (W.alloc (.cells #[Zs (some ⟨p,0,none⟩),.bool false,O Z 0] 92)) gs (slotCells ptr s.n) 94:=(h.slots.below d4 hgs).alloc _
  have h2:=h1.set i (Zs (some ⟨W.heap.size,0,none⟩));have e:(slotCells ptr s.n).setIfInBounds i (Zs (some ⟨W.heap.size,0,none⟩))=slotCells (fun q=>if q=i then some W.heap.size else ptr q) s.n:=by
   apply Array.ext_getElem?;intro j;rw[Array.getElem?_setIfInBounds];have hs:(slotCells ptr s.n).size=3*s.n:=by simp[slotCells]
   rw[hs];by_cases hj:j<3*s.n
   ·rw[Zbh _ _ _ hj,Zbh _ _ _ hj]
    by_cases hji:i=j
    ·subst hji;rw[Zf rfl,Zf hj,Zf rfl];rfl
    ·rw[Ze hji,Ze (Ne.symm hji)]
   ·rw[Ze (by omega)]
    have q1:∀f,(slotCells f s.n)[j]?=none:=fun f=>by rw[Array.getElem?_eq_none];simp[slotCells];omega
    rw[q1,q1]
  rw[e]at h2;exact h2
 ·by_cases hji:j=i
  ·subst hji
   have hy':(some (⟨d,false,0⟩:Dev))=some y:=by simpa [BaySt.laid]using hy
   simp only [Zg]at hy';subst hy';refine⟨W.heap.size,by simp,?_⟩;show DevAt _ T' (if j=j then t else tg j) W.heap.size (if j=j then p else dp j) _
   rw[Zf rfl,Zf rfl];have hgw:gs≠W.heap.size:=by omega
   refine⟨(At.new W _ _).setOther (Ne.symm hgw) _,Zjn _ _ _,ht,?_,by show(0:Int)≤0;omega,by show(0:Int)≤9223372036854775807;omega⟩;refine((d1.retag hT).below (Zb _ _|>.alloc (Za _) _)).keep hset (fun k hk e=> ?_);subst e;rw[hT k (by omega),d2 k (.inl hgs),h.ts]at hk;omega
  ·have hy':s.pos j=some y:=by simpa [BaySt.laid,hji]using hy
   obtain⟨dv2,e1,e2⟩:=h.some' j hj y hy';refine⟨dv2,by simp[hji,e1],?_⟩;show DevAt _ T' (if j=i then t else tg j) dv2 (if j=i then p else dp j) _
   rw[Ze hji,Ze hji];refine(e2.retag hTo).keep hc (fun q hq e=> ?_);subst e;have:=h.ts;have:=e2.two;rcases hq with hq|hq
   ·rw[hTo q hgs]at hq;omega
   ·exact hne dv2 _ _ e2.dev (by decide) hq.symm
 ·by_cases hji:j=i
  ·subst hji;simp[BaySt.laid]at hy
  ·have hy':s.pos j=none:=by simpa [BaySt.laid,hji]using hy
   show(if j=i then some W.heap.size else ptr j)=none
   rw[Ze hji];exact h.none' j hj hy'
 ·show(if j=i then t else tg j)≠(if l=i then t else tg l)
  by_cases hji:j=i
  ·by_cases hli:l=i
   ·omega
   ·rw[Zf hji,Ze hli]
    exact(hap l hl hli (by simpa [BaySt.laid,hli]using c)).symm
  ·rw[Ze hji]
   by_cases hli:l=i
   ·rw[Zf hli]
    exact hap j hj hji (by simpa [BaySt.laid,hji]using a)
   ·rw[Ze hli]
    exact h.apart j l hj hl hjl (by simpa [BaySt.laid,hji]using a) (by simpa [BaySt.laid,hli]using c)
 ·have old:∀m,m<3*s.n->∀dv,ptr m=some dv->dv<w.heap.size:=fun m hm dv hdv=>by
   cases hx:s.pos m with
   |none=>rw[h.none' m hm hx]at hdv;cases hdv
   |some x=>
    obtain⟨dv2,e1,e2⟩:=h.some' m hm x hx;rw[hdv]at e1;simp only [Zg]at e1;subst e1;exact e2.dev.lt
  have hdv':(if j=i then some W.heap.size else ptr j)=some dv:=hdv;show(if l=i then some W.heap.size else ptr l)≠some dv
  intro hl';by_cases hji:j=i
  ·rw[Zf hji]at hdv'
   rw[Ze (by omega)]at hl';have:=old l hl dv hl';simp only [Zg]at hdv';omega
  ·rw[Ze hji]at hdv'
   by_cases hli:l=i
   ·rw[Zf hli]at hl'
    have:=old j hj dv hdv';simp only [Zg]at hl';omega
   ·rw[Ze hli]at hl'
    exact h.own j l hj hl hjl dv hdv' hl'
 ·rw[e3]at hk
  show tagAt T1 W.heap.size 1 k=0
  unfold tagAt;rw[Ze (by omega),d2 k (.inr (by omega))];exact h.virgin k (by omega)
def kcells(l:List Nat):List Value:=l.map fun x:Nat=>O Z (x:Int)
theorem Zlr(l:List Nat)(i:Nat)(h:i<l.length):(kcells l)[i]?=some (O Z ((l[i]:Nat):Int)):=by simp[kcells,h]
def freshBay(l:List Nat)(i:Nat):BaySt:=⟨l.length,fun q=>if q%3=0/\q/3<i/\0<l.getD (q/3) 0 then some ⟨freshDsk (l.getD (q/3) 0),false,0⟩else none,false,-1,fun _=>0⟩
theorem Zfm(l:List Nat)(k:Nat)(h:l.getD k 0=0):freshBay l (k+1)=freshBay l k:=by
 unfold freshBay;congr 1;funext q;by_cases hq:q%3=0/\q/3<k+1/\0<l.getD (q/3) 0
 ·have hne:q/3≠k:=fun e=>by rw[e]at hq;omega
  rw[Zf hq,Zf ⟨hq.1,by omega,hq.2.2⟩]
 ·rw[Ze hq,Ze (fun h=>hq ⟨h.1,by omega,h.2.2⟩)]
theorem Zl8(l:List Nat)(k:Nat)(h:0<l.getD k 0):freshBay l (k+1)=(freshBay l k).laid (k*3) ⟨freshDsk (l.getD k 0),false,0⟩:=by
 unfold freshBay BaySt.laid;congr 1;funext q;show _=if q=k*3 then _ else if _ then _ else _
 by_cases hq:q=k*3
 ·subst hq
  have e:k*3/3=k:=by omega
  rw[Zf rfl,e,Zf ⟨by omega,by omega,h⟩]
 ·rw[Ze hq]
  by_cases hq2:q%3=0/\q/3<k+1/\0<l.getD (q/3) 0
  ·rw[Zf hq2,Zf ⟨hq2.1,by omega,hq2.2.2⟩]
  ·rw[Ze hq2,Ze (fun h=>hq2 ⟨h.1,by omega,h.2.2⟩)]
theorem Zm6:SliceOf Tryz.prog 84 94 3 24:=
 SliceOf.mk' (z:=.agg (List.replicate 3 (.pointer none)).toArray) Tryz.underlying84 (by decide) (by kernel_rfl) (by kernel_rfl)
theorem Zv8{w1:World}(l:List Nat)(h2:l.length≤17)(a1:At w1 w.heap.size (List.replicate (l.length*3) (.pointer none)).toArray 94)(b1:Below w.heap.size w w1):
  ∃T,BayIn (w1.alloc (.cells #[.slice (some ⟨w.heap.size,0,none⟩) l.length l.length,.bool false,O Z (-1),O Z 0,O Z 0,O Z 0] 86)) T w1.heap.size (freshBay l 0) w.heap.size (fun _=>none) (fun q=>q+2) (fun _=>0)/\(∀q,q<w.heap.size->T q=0):=by
 have hsz:=b1.size;have hl:=a1.lt;refine⟨fun q=>if q=w.heap.size\/q=w1.heap.size then 1 else 0,⟨At.new _ _ _,?_,by simp,by simp,fun i hi x hx=> ?_,fun i hi _=>rfl,fun i j hi hj hij ha=> ?_,fun i j hi hj hij dv hdv=>by simp at hdv,fun k hk=> ?_,h2,fun j=>by show(0:Int)≤0;omega,by show(-1:Int)≤ -1;omega,by show(-1:Int)≤9223372036854775807;omega⟩,fun q hq=>by show(if _ then _ else _)=_;rw[Ze (by omega)]⟩
 ·have:=a1.alloc (.cells #[.slice (some ⟨w.heap.size,0,none⟩) l.length l.length,.bool false,O Z (-1),O Z 0,O Z 0,O Z 0] 86)
  have e:slotCells (fun _=>none) l.length=(List.replicate (l.length*3) (Value.pointer none)).toArray:=by
   apply Array.ext_getElem?;intro j;by_cases hj:j<3*l.length
   ·rw[Zbh _ _ _ hj]
    have hj':j<l.length*3:=by omega
    simp[hj',pcell]
   ·have hj':¬j<l.length*3:=by omega
    rw[Array.getElem?_eq_none (by simp[slotCells];omega),Array.getElem?_eq_none (by simp;omega)]
  show At _ _ (slotCells (fun _=>none) l.length) _
  rw[e];exact this
 ·simp[freshBay]at hx
 ·simp[freshBay]at ha
 ·rw[Zaa]at hk
  show(if _ then _ else _)=_
  rw[Ze (by omega)]
def BayMade(w:World)(s:BaySt)(b:Nat)(w':World):Prop:=∃T,BayAt w' T b s/\(∀q,q<w.heap.size->T q=0)/\w.heap.size≤b/\Below w.heap.size w w'
theorem Zvx(l:List Nat)(v:Value)(B:Nat)(w:World)(hv:w.ownsRow B 3 1 v l.length (kcells l))(h1:1≤l.length)(h2:l.length≤17)(hl:∀x∈l,x≤8192):
  Calls Tryz.prog 14 #[v] w fun e w'=>∃b,e=.returned (.tuple #[Zs (some ⟨b,0,none⟩),.int .u16 0])/\BayMade w (freshBay l l.length) b w':=by
 obtain⟨g,cap,rfl,hBg,hg⟩:=Zas hv (by omega);have HV:=hid hv;have HL:=hid hl;clear hv hl;go_enter Tryz.func14,Tryz.ntmps14;go_wp2_with (refine Zaq rfl _ _ 84 94 3 24 rfl Zm6 (.pointer none) (by kernel_rfl) _ _ _ _ l.length rfl rfl rfl rfl (by omega) (by unfold maxLen;omega) ?_;intro w1 a1 b1);go_loopw [24] (fun q wr=>∃k:Nat,k≤l.length/\q=O Z k/\∃T gs ptr tg dp,BayIn wr T w1.heap.size (freshBay l k) gs ptr tg dp/\(∀q,q<w.heap.size->T q=0)/\(∀j,j<3*l.length->(freshBay l k).pos j≠none->tg j=j+2)/\w.heap.size≤gs/\Below w.heap.size w wr) (fun q _=>l.length-(intOf q).toNat);case atStart=>
  obtain⟨T,k1,k2⟩:=Zv8 l h2 a1 b1;exact⟨0,by omega,rfl,T,_,_,_,_,k1,k2,fun j _ _=>rfl,Za _,b1.alloc b1.size _⟩
 case round=>
  obtain⟨k,hk,rfl,T,gs,ptr,tg,dp,hB,hT,htg,hgs,hbel⟩:=hrel;have HB:=hid hB;have HT:=hid hT;have HG:=hid htg;have c0:wr.cell? ⟨w1.heap.size,0,none⟩=some (.slice (some ⟨gs,0,none⟩) l.length l.length):=hB.bay.cell 0;have hgl:=hB.slots.lt;have fg:=hB.slots.free (k*3);clear hB hT htg;by_cases hkn:k<l.length
  ·have d0:wr.cell? ⟨g,k,none⟩=some (O Z ((l[k]:Nat):Int)):=by
    have:=HV.out.cells (g:=g) rfl k _ (Zlr l k hkn);rw[Go.WideShapes.add_plain,Nat.zero_add]at this;exact(hbel.cell (p:=⟨g,k,none⟩) hg).trans this
   have hx8:=HL.out l[k] (Zj hkn);have egd:l.getD k 0=l[k]:=by rw[Zi,Zh hkn];rfl
   have EG:=hid egd;clear egd;have K1:Hid (k+1≤l.length):=hkn;generalize hx:l[k]=x at*;clear hx;by_cases hx0:x=0
   ·subst hx0
    go_wp2;refine⟨⟨k+1,K1.out,by go_num,T,gs,ptr,tg,dp,?_,HT.out,?_,hgs,hbel⟩,by simp[intOf];omega⟩
    ·rw[Zfm l k EG.out];exact HB.out
    ·rw[Zfm l k EG.out];exact HG.out
   ·have HN:=hid (Zoi T (k*3+2) x wr (by omega) hx8)
    go_wp2_with (go_at_call 37;refine HN.out.mono ?_;rintro e w2 ⟨p,rfl,hd⟩;have c2:w2.cell? ⟨w1.heap.size,0,none⟩=some (.slice (some ⟨gs,0,none⟩) l.length l.length):=(by obtain⟨_,_,_,_,hb,_⟩:=hd;exact(hb.cell (p:=⟨w1.heap.size,0,none⟩) HB.out.bay.lt).trans c0);have a2:At (w2.alloc (.cells #[Zs (some ⟨p,0,none⟩),.bool false,O Z 0] 92)) gs (slotCells ptr l.length) 94:=(At.below HB.out.slots (by obtain⟨_,_,_,_,hb,_⟩:=hd;exact hb) HB.out.slots.lt).alloc _;have f2:=a2.free (k*3);have c3:=(a2.cell (k*3)).trans (Zbh ptr l.length (k*3) (by have:=K1.out;omega));have HD:=hid hd;clear hd a2);have K0:k*3<3*l.length:=by have:=K1.out;omega
    obtain⟨T',m1,m2,m3⟩:=HB.out.lay (i:=k*3) (t:=k*3+2) K0 HD.out (by omega) (fun j hj hjk hp=>by have:=HG.out j hj hp;omega);have ef:freshBay l (k+1)=(freshBay l k).laid (k*3) ⟨freshDsk x,false,0⟩:=by rw[Zl8 l k (by rw[EG.out];omega),EG.out]
    rw[<-ef]at m1;refine⟨⟨k+1,K1.out,by go_num,T',gs,_,_,_,m1,fun q hq=>(m2 q (Zd hq hbel.size)).trans (HT.out q hq),fun j hj hp=> ?_,hgs,?_⟩,by simp[intOf];omega⟩
    ·show(if j=k*3 then k*3+2 else tg j)=j+2
     by_cases hj3:j=k*3
     ·rw[Zf hj3,hj3]
     ·rw[Ze hj3]
      refine HG.out j hj fun h0=>hp ?_
      rw[ef];show(if j=k*3 then _ else (freshBay l k).pos j)=none
      rw[Ze hj3,h0]
    ·exact Chg.own hbel m3 (fun q hq=>by subst hq;exact hgs)
  ·obtain rfl:k=l.length:=by omega
   go_wp2;go_ret2;exact⟨_,rfl,T,⟨gs,ptr,tg,dp,HB.out⟩,HT.out,b1.size,hbel⟩
open Go.RowKit
def Bits(w:World)(T:Nat->Nat)(v:Value)(l:List Bool):Prop:=
 ∃a c,v=.slice a l.length c/\l.length≤1000000000/\(l= []\/∃b o,a=some ⟨b,o,none⟩/\b<w.heap.size/\T b=0/\∀j (h:j<l.length),w.cell? ⟨b,o+j,none⟩=some (.bool l[j]))
def Bitss(w:World)(T:Nat->Nat)(v:Value)(ls:List (List Bool)):Prop:=
 ∃a c,v=.slice a ls.length c/\ls.length≤1000000000/\(ls= []\/∃b o,a=some ⟨b,o,none⟩/\b<w.heap.size/\T b=0/\∀j (h:j<ls.length),∃u,w.cell? ⟨b,o+j,none⟩=some u/\Bits w T u ls[j])
theorem Bits.keep{l:List Bool}(h:Bits w T v l)(hc:Chg S w w')(hS:∀k,S k->T k≠0):Bits w' T v l:=by
 obtain⟨a,c,h1,h2,h3⟩:=h;refine⟨a,c,h1,h2,?_⟩;rcases h3 with h3|⟨b,o,h3,h4,h5,h6⟩
 ·exact .inl h3
 ·exact .inr ⟨b,o,h3,Zd h4 hc.size,h5,fun j hj=>(hc.cell (p:=⟨b,o+j,none⟩) h4 (fun hs=>hS b hs h5)).trans (h6 j hj)⟩
theorem Bitss.keep{l:List (List Bool)}(h:Bitss w T v l)(hc:Chg S w w')(hS:∀k,S k->T k≠0):Bitss w' T v l:=by
 obtain⟨a,c,h1,h2,h3⟩:=h;refine⟨a,c,h1,h2,?_⟩;rcases h3 with h3|⟨b,o,h3,h4,h5,h6⟩
 ·exact .inl h3
 ·refine .inr ⟨b,o,h3,Zd h4 hc.size,h5,fun j hj=> ?_⟩
  obtain⟨u,q1,q2⟩:=h6 j hj;exact⟨u,(hc.cell (p:=⟨b,o+j,none⟩) h4 (fun hs=>hS b hs h5)).trans q1,q2.keep hc hS⟩
open Go.RowKit
open Go.RowKit
structure Reads (s s':BaySt) (k:Nat):Prop where
 n:s'.n=s.n
 small:∀m,s.small m->s'.small m
 lo:s.cnt 0≤s'.cnt 0
 hi:s'.cnt 0≤s.cnt 0+k
 c1:s'.cnt 1=s.cnt 1
 c2:s'.cnt 2=s.cnt 2
theorem Reads.refl(s:BaySt)(k:Nat):Reads s s k:=⟨rfl,fun m h=>h,by omega,by omega,rfl,rfl⟩
theorem Reads.trans{s1 s2:BaySt}(h1:Reads s s1 k)(h2:Reads s1 s2 j):Reads s s2 (k+j):=⟨h2.n.trans h1.n,fun m h=>h2.small m (h1.small m h),by have:=h1.lo;have:=h2.lo;omega,by have:=h1.hi;have:=h2.hi;omega,h2.c1.trans h1.c1,h2.c2.trans h1.c2⟩
theorem Reads.mono(h:Reads s s' k)(hk:k≤j):Reads s s' j:=⟨h.n,h.small,h.lo,by have:=h.hi;omega,h.c1,h.c2⟩
theorem Ze6{m:Nat}(h:s.small m)(hy:y.d.cache.length≤m)(s':BaySt)(hn:s'.n=s.n)(hp:s'.pos=fun q=>if q=i then some y else s.pos q):s'.small m:=fun q hq x hx=>by
 rw[hp]at hx;rw[hn]at hq;by_cases hqi:q=i
 ·have:some y=some x:=by simpa [hqi]using hx
  simp only [Zg]at this;subst this;exact hy
 ·exact h q hq x (by simpa [hqi]using hx)
theorem Zjg{k:Int}{c:Nat}(h:s.start j k=(s',.inl c)):c≠0/\c<65536:=by
 have h2:(s.start j k).2=.inl c:=by rw[h]
 unfold BaySt.start at h2;split at h2
 ·simp only [Sum.inl.injEq]at h2;omega
 ·split at h2
  ·simp only [Sum.inl.injEq]at h2;omega
  ·split at h2
   ·simp only [Sum.inl.injEq]at h2;omega
   ·split at h2
    ·simp only [Sum.inl.injEq]at h2;omega
    ·cases h2
open Go.RowKit
structure CalmDev (x:Dev) (n:Nat):Prop where
 worn:x.worn=false
 failed:x.d.failed=false
 len:x.d.last.length=n
 secs:∀s∈x.d.last,s.length=128
 csecs:∀y∈x.d.cache,y.2.length=128
 cin:∀y∈x.d.cache,y.1<x.d.last.length
structure CalmBay (s:BaySt) (sz:Nat->Nat):Prop where
 dark:s.dark=false
 trip:s.trip= -1
 dev:∀k,k<s.n->∃x,s.pos (k*3)=some x/\CalmDev x (sz k)
 rest:∀q,q%3≠0->s.pos q=none
def BaySt.sec(s:BaySt)(k z:Nat):Sec:=match s.pos (k*3)with
 |some x=>x.d.cur z
 |none=>zsec
def BaySt.dry(s:BaySt)(k:Nat):Prop:=∃x,s.pos (k*3)=some x/\x.d.cache= []
theorem Zdt(h:s.pos (k*3)=some x):s.sec k z=x.d.cur z:=by
 unfold BaySt.sec;rw[h]
def BaySt.ticks(s:BaySt)(j c:Nat):BaySt:={s with cnt:=fun q=>if q=j then s.cnt j+c else s.cnt q}
theorem Zei(s:BaySt)(j:Nat):s.ticks j 0=s:=by
 unfold BaySt.ticks;have e:(fun q=>if q=j then s.cnt j+((0:Nat):Int)else s.cnt q)=s.cnt:=by
  funext q;by_cases hq:q=j
  ·subst hq;rw[Zf rfl];omega
  ·rw[Ze hq]
 rw[e]
theorem Zeu(s:BaySt)(j a c:Nat):(s.ticks j a).ticks j c=s.ticks j (a+c):=by
 unfold BaySt.ticks;congr 1;funext q;show(if q=j then (if j=j then s.cnt j+(a:Int)else s.cnt j)+(c:Int)else if q=j then s.cnt j+(a:Int)else s.cnt q)=_
 by_cases hq:q=j
 ·rw[Zf hq,Zf rfl,Zf hq];omega
 ·rw[Ze hq,Ze hq,Ze hq]
theorem Zb7(s:BaySt)(j c:Nat):(s.ticks j c).cnt j=s.cnt j+c:=Zf rfl
theorem Zbo(s:BaySt)(j c q:Nat)(h:q≠j):(s.ticks j c).cnt q=s.cnt q:=Ze h
theorem Zot(h:CalmDev x n):x.use=x:=by
 unfold Dev.use;rw[Zf h.worn]
theorem Zop(h:CalmDev x n)(hz:z<n):x.d.may z=0:=by
 unfold Dsk.may;rw[h.failed,Ze (by simp),Ze (by rw[h.len];omega)]
theorem CalmBay.laid(h:CalmBay s sz)(k:Nat)(hy:CalmDev y (sz k)):CalmBay (s.laid (k*3) y) sz:=by
 refine⟨h.dark,h.trip,fun j hj=> ?_,fun q hq=> ?_⟩
 ·by_cases hjk:j=k
  ·subst hjk;exact⟨y,Zf rfl,hy⟩
  ·obtain⟨x,h1,h2⟩:=h.dev j hj
   exact⟨x,(Ze (by omega)).trans h1,h2⟩
 ·exact(Ze (by omega)).trans (h.rest q hq)
theorem Zdo(s:BaySt)(k z:Nat)(y:Dev):(s.laid (k*3) y).sec k z=y.d.cur z:=Zdt (Zf rfl)
theorem Zdc(s:BaySt)(k j z:Nat)(y:Dev)(h:j≠k):(s.laid (k*3) y).sec j z=s.sec j z:=by
 unfold BaySt.sec;have:(s.laid (k*3) y).pos (j*3)=s.pos (j*3):=Ze (by omega);rw[this]
theorem Zfs(h:y.d.cache= []):(s.laid (k*3) y).dry k:=⟨y,Zf rfl,h⟩
theorem Zlc(h1:x.d.may z=0)(h2:l.length=128):x.d.write z l=(0,{x.d with cache:=x.d.cache++ [(z,l)]}):=by
 unfold Dsk.write;rw[Ze (by omega),Ze (by omega)];rfl
theorem CalmDev.written(h:CalmDev x n)(hz:z<n)(hl:l.length=128):CalmDev ⟨{x.d with cache:=x.d.cache++ [(z,l)]},x.worn,x.left⟩ n:=by
 refine⟨h.worn,h.failed,h.len,h.secs,fun y hy=> ?_,fun y hy=> ?_⟩
 ·rcases List.mem_append.1 hy with hy|hy
  ·exact h.csecs y hy
  ·obtain rfl:=List.mem_singleton.1 hy;exact hl
 ·rcases List.mem_append.1 hy with hy|hy
  ·exact h.cin y hy
  ·obtain rfl:=List.mem_singleton.1 hy
   show z<x.d.last.length
   rw[h.len];exact hz
theorem Zm8(x:Dsk)(z q:Nat)(l:List UInt8):({x with cache:=x.cache++ [(z,l)]}:Dsk).cur q=if q=z then l else x.cur q:=by
 unfold Dsk.cur;show(waits (x.cache++ [(z,l)]) q).getD _=_
 rw[Zfw];by_cases h:q=z
 ·subst h;rw[Zf rfl,Zf rfl];rfl
 ·rw[Ze (fun e=>h (by omega)),Ze h]
theorem Zgn(h:CalmDev x n)(a:Nat)(ha:a<n):x.d.settled.cur a=x.d.cur a:=by
 have:=Zgc x.d.last x.d.cache h.cin a (by rw[h.len];exact ha) x.d.cache.length (Za _);rw[List.take_length]at this;unfold Dsk.cur Dsk.settled;simp only [Zhg,Option.getD_none];exact this
theorem CalmDev.settled(h:CalmDev x n)(keep:Nat->Bool):CalmDev ⟨⟨settleTo x.d.last x.d.cache keep x.d.cache.length,[],x.d.failed⟩,x.worn,x.left⟩ n:=
 ⟨h.worn,h.failed,(Zak _ _ _ _).trans h.len,Zav h.secs h.csecs _ _,fun y hy=>(by cases hy),fun y hy=>(by cases hy)⟩
theorem Zqj(l:List Nat)(hl:∀x∈l,0<x):CalmBay (freshBay l l.length) (fun k=>l.getD k 0):=by
 refine⟨rfl,rfl,fun k hk=> ?_,fun q hq=>Ze (fun e=>hq e.1)⟩;have hk':k<l.length:=hk;have h0:0<l.getD k 0:=by rw[Zi,Zh hk'];exact hl _ (Zj hk')
 refine⟨⟨freshDsk (l.getD k 0),false,0⟩,?_,rfl,rfl,?_,fun s hs=> ?_,fun y hy=>(by cases hy),fun y hy=>(by cases hy)⟩
 ·show(if k*3%3=0/\k*3/3<l.length/\0<l.getD (k*3/3) 0 then some (⟨freshDsk (l.getD (k*3/3) 0),false,0⟩:Dev)else none)=_
  rw[show k*3/3=k by omega,Zf ⟨by omega,hk',h0⟩]
 ·show(List.replicate _ zsec).length=_
  rw[List.length_replicate]
 ·obtain rfl:=List.eq_of_mem_replicate (show s∈List.replicate _ zsec from hs)
  simp[zsec]
theorem Zst(l:List Nat)(k z:Nat)(hk:k<l.length)(h0:0<l.getD k 0):(freshBay l l.length).sec k z=zsec:=by
 have:(freshBay l l.length).pos (k*3)=some ⟨freshDsk (l.getD k 0),false,0⟩:=by
  show(if k*3%3=0/\k*3/3<l.length/\0<l.getD (k*3/3) 0 then some (⟨freshDsk (l.getD (k*3/3) 0),false,0⟩:Dev)else none)=_
  rw[show k*3/3=k by omega,Zf ⟨by omega,hk,h0⟩]
 rw[Zdt this];unfold Dsk.cur;show((waits [] z).getD ((List.replicate _ zsec).getD z zsec))=zsec
 rw[Zhg,Option.getD_none,Zi,List.getElem?_replicate];split<;>rfl
theorem Ze1(l:List Nat)(m:Nat):(freshBay l l.length).small m:=fun q hq x hx=>by
 change (if q%3=0/\q/3<l.length/\0<l.getD (q/3) 0 then some (⟨freshDsk (l.getD (q/3) 0),false,0⟩:Dev)else none)=some x at hx;split at hx
 ·simp only [Zg]at hx
  subst hx;show 0≤m
  omega
 ·cases hx
open Go.RowKit
open Go.RowKit
structure Fit (s:BaySt) (G:Nat->Prop) (sz:Nat->Nat):Prop where
 dark:s.dark=false
 trip:s.trip= -1
 dev:∀k,k<s.n->G k->∃x,s.pos (k*3)=some x/\CalmDev x (sz k)
theorem Fit.sub{G':Nat->Prop}(h:Fit s G sz)(hG:∀k,G' k->G k):Fit s G' sz:=⟨h.dark,h.trip,fun k hk hg=>h.dev k hk (hG k hg)⟩
theorem Fit.ofCalm(h:CalmBay s sz):Fit s (fun _=>True) sz:=⟨h.dark,h.trip,fun k hk _=>h.dev k hk⟩
theorem Fit.ticks(h:Fit s G sz)(j c:Nat):Fit (s.ticks j c) G sz:=⟨h.dark,h.trip,h.dev⟩
theorem Fit.laid(h:Fit s G sz)(k:Nat)(hy:CalmDev y (sz k)):Fit (s.laid (k*3) y) G sz:=by
 refine⟨h.dark,h.trip,fun j hj hg=> ?_⟩;by_cases hjk:j=k
 ·subst hjk;exact⟨y,Zf rfl,hy⟩
 ·obtain⟨x,h1,h2⟩:=h.dev j hj hg
  exact⟨x,(Ze (by omega)).trans h1,h2⟩
theorem Zhk(h:Fit s G sz)(j k:Nat)(hk:k<s.n)(hx:s.pos (k*3)=some x)(hd:CalmDev x (sz k)):s.start j k=(s.ticks j 1,.inr x):=by
 have hb:s.begun j (k*3) x=s.ticks j 1:=by
  unfold BaySt.begun BaySt.ticks;have e:(fun q=>if q=k*3 then some x else s.pos q)=s.pos:=by
   funext q;by_cases hq:q=k*3
   ·subst hq;rw[Zf rfl,hx]
   ·rw[Ze hq]
  rw[e,h.trip,Ze (by omega)];rfl
 unfold BaySt.start;rw[Ze (by omega),Ze (by rw[h.trip];omega),Ze (by rw[h.dark];simp),show((k:Int)).toNat=k by omega,hx];show(s.begun j (k*3) x.use,_)=_
 rw[Zot hd,hb]
theorem Zul(h:Fit s G sz)(k z:Nat)(hk:k<s.n)(hg:G k)(hz:z<sz k):s.read k z=(0,some (s.sec k z),s.ticks 0 1):=by
 obtain⟨x,h1,h2⟩:=h.dev k hk hg;unfold BaySt.read;rw[Zhk h 0 k hk h1 h2,Zdt h1];show((x.d.read z).1,(x.d.read z).2,s.ticks 0 1)=_
 unfold Dsk.read;rw[Zf (Zop h2 hz)];rfl
def BaySt.put(s:BaySt)(k z:Nat)(l:Sec):BaySt:=match s.pos (k*3)with
 |some x=>(s.ticks 1 1).laid (k*3) ⟨{x.d with cache:=x.d.cache++ [(z,l)]},x.worn,x.left⟩
 |none=>s
def BaySt.dried(s:BaySt)(k:Nat):BaySt:=match s.pos (k*3)with
 |some x=>(s.ticks 2 1).laid (k*3) ⟨x.d.settled,x.worn,x.left⟩
 |none=>s
theorem Zo5{l:Sec}(h:s.pos (k*3)=some x):s.put k z l=(s.ticks 1 1).laid (k*3) ⟨{x.d with cache:=x.d.cache++ [(z,l)]},x.worn,x.left⟩:=by
 unfold BaySt.put;rw[h]
theorem Zjl(h:s.pos (k*3)=some x):s.dried k=(s.ticks 2 1).laid (k*3) ⟨x.d.settled,x.worn,x.left⟩:=by
 unfold BaySt.dried;rw[h]
theorem Zb4(h:Fit s G sz)(k z:Nat)(l:Sec)(hk:k<s.n)(hg:G k)(hz:z<sz k)(hl:l.length=128):s.write k z l=(0,s.put k z l):=by
 obtain⟨x,h1,h2⟩:=h.dev k hk hg;have hw:=Zlc (Zop h2 hz) hl;unfold BaySt.write;rw[Zhk h 1 k hk h1 h2,Zo5 h1];show((x.d.write z l).1,(s.ticks 1 1).laid (((k:Int)).toNat*3) ⟨(x.d.write z l).2,x.worn,x.left⟩)=_
 rw[hw,show((k:Int)).toNat=k by omega]
theorem Zco(h:Fit s G sz)(k:Nat)(hk:k<s.n)(hg:G k):s.flush k=(0,s.dried k):=by
 obtain⟨x,h1,h2⟩:=h.dev k hk hg;unfold BaySt.flush;rw[Zhk h 2 k hk h1 h2,Zjl h1];show((x.d.flush).1,(s.ticks 2 1).laid (((k:Int)).toNat*3) ⟨(x.d.flush).2,x.worn,x.left⟩)=_
 have:x.d.flush=(0,x.d.settled):=by unfold Dsk.flush;rw[h2.failed,Ze (by simp)]
 rw[this,show((k:Int)).toNat=k by omega]
structure Put1 (s s':BaySt) (k z:Nat) (l:Sec):Prop where
 n:s'.n=s.n
 c0:s'.cnt 0=s.cnt 0
 c1:s'.cnt 1=s.cnt 1+1
 c2:s'.cnt 2=s.cnt 2
 small:∀m,s.small m->s'.small (m+1)
 sec:∀j q,s'.sec j q=if j=k/\q=z then l else s.sec j q
 pos:∀q,q≠k*3->s'.pos q=s.pos q
 dark:s'.dark=s.dark
 trip:s'.trip=s.trip
theorem Zdd(h:Fit s G sz)(k z:Nat)(l:Sec)(hk:k<s.n)(hg:G k)(hz:z<sz k)(hl:l.length=128):Fit (s.put k z l) G sz/\Put1 s (s.put k z l) k z l:=by
 obtain⟨x,h1,h2⟩:=h.dev k hk hg;rw[Zo5 h1];refine⟨(h.ticks 1 1).laid k (h2.written hz hl),rfl,rfl,Zb7 s 1 1,rfl,fun m hm=> ?_,fun j q=> ?_,fun q hq=>Ze hq,rfl,rfl⟩
 ·refine Ze6 (s:=s) (i:=k*3) (y:=⟨{x.d with cache:=x.d.cache++ [(z,l)]},x.worn,x.left⟩) (fun i hi y hy=>Nat.le_succ_of_le (hm i hi y hy)) ?_ _ rfl rfl
  have:=hm (k*3) (by omega) x h1;simp only [Zo,List.length_singleton];omega
 ·by_cases hj:j=k
  ·subst hj
   rw[Zdo];show({x.d with cache:=x.d.cache++ [(z,l)]}:Dsk).cur q=_
   rw[Zm8,Zdt h1];by_cases hq:q=z
   ·rw[Zf hq,Zf ⟨rfl,hq⟩]
   ·rw[Ze hq,Ze (fun e=>hq e.2)]
  ·rw[Zdc _ _ _ _ _ hj,Ze (fun e=>hj e.1)]
   rfl
structure Dry1 (s s':BaySt) (sz:Nat->Nat) (k:Nat):Prop where
 n:s'.n=s.n
 c0:s'.cnt 0=s.cnt 0
 c1:s'.cnt 1=s.cnt 1
 c2:s'.cnt 2=s.cnt 2+1
 small:∀m,s.small m->s'.small m
 sec:∀j q,(j=k->q<sz k)->s'.sec j q=s.sec j q
 pos:∀q,q≠k*3->s'.pos q=s.pos q
 dry:s'.dry k
 dark:s'.dark=s.dark
 trip:s'.trip=s.trip
theorem Zbk(h:Fit s G sz)(k:Nat)(hk:k<s.n)(hg:G k):Fit (s.dried k) G sz/\Dry1 s (s.dried k) sz k:=by
 obtain⟨x,h1,h2⟩:=h.dev k hk hg;rw[Zjl h1];refine⟨(h.ticks 2 1).laid k (h2.settled _),rfl,rfl,rfl,Zb7 s 2 1,fun m hm=>Ze6 (s:=s) (i:=k*3) (y:=⟨x.d.settled,x.worn,x.left⟩) hm (by show 0≤m;omega) _ rfl rfl,fun j q hq=> ?_,fun q hq=>Ze hq,Zfs rfl,rfl,rfl⟩;by_cases hjk:j=k
 ·subst hjk
  rw[Zdo,Zdt h1];exact Zgn h2 q (hq rfl)
 ·rw[Zdc _ _ _ _ _ hjk]
  rfl
end Go.Proofs.YtmemlkmnhcealaaGreat
