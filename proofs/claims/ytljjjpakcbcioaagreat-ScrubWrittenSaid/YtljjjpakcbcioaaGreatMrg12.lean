/- Several texts in one: BayI, BayJ, BayK, Calm, Calm2, Calm3, Fit. -/
import Derived.Test.YtljjjpakcbcioaaGreatMrg5
import Derived.Test.YtljjjpakcbcioaaGreatMrg7
set_option linter.unusedVariables false
set_option maxRecDepth 100000
set_option maxHeartbeats 4000000
namespace Go.Proofs.YtljjjpakcbcioaaGreat
open Go.RowKit
theorem BayIn.lay {w W:World} {T:Nat->Nat} {b:Nat} {s:BaySt} {gs:Nat} {ptr:Nat->Option Nat} {tg dp:Nat->Nat} (h:BayIn w T b s gs ptr tg dp) {i t p:Nat} {d:Dsk} (hi:i<3*s.n) (hd:DiskNew w T t p d W) (ht:2≤t) (hap:∀j,j<3*s.n->j≠i->s.pos j≠none->tg j≠t):
  ∃T',BayIn ((W.alloc (.cells #[.pointer (some ⟨p,0,none⟩),.bool false,.int .i64 0] 124)).setCell ⟨gs,i,none⟩ (.pointer (some ⟨W.heap.size,0,none⟩))) T' b (s.laid i ⟨d,false,0⟩) gs (fun q=>if q=i then some W.heap.size else ptr q) (fun q=>if q=i then t else tg q) (fun q=>if q=i then p else dp q)/\
   (∀q,q<w.heap.size->T' q=T q)/\Chg (fun q=>q=gs) w ((W.alloc (.cells #[.pointer (some ⟨p,0,none⟩),.bool false,.int .i64 0] 124)).setCell ⟨gs,i,none⟩ (.pointer (some ⟨W.heap.size,0,none⟩))):=by
 obtain⟨T1,d1,d2,d3,d4,d5⟩:=hd;have hsz:=d4.size;have hc0:Chg (fun q=>q=gs) w W:=Chg.ofBelow d4 _;have hc1:Chg (fun q=>q=gs) w (W.alloc (.cells #[.pointer (some ⟨p,0,none⟩),.bool false,.int .i64 0] 124)):=hc0.alloc _;have hc:Chg (fun q=>q=gs) w ((W.alloc (.cells #[.pointer (some ⟨p,0,none⟩),.bool false,.int .i64 0] 124)).setCell ⟨gs,i,none⟩ (.pointer (some ⟨W.heap.size,0,none⟩))):=Chg.setCell (S:=fun q=>q=gs) hc1 ⟨gs,i,none⟩ (.inl rfl) _;have hgs:=h.slots.lt;have hset:Chg (fun q=>q=gs) (W.alloc (.cells #[.pointer (some ⟨p,0,none⟩),.bool false,.int .i64 0] 124)) ((W.alloc (.cells #[.pointer (some ⟨p,0,none⟩),.bool false,.int .i64 0] 124)).setCell ⟨gs,i,none⟩ (.pointer (some ⟨W.heap.size,0,none⟩))):=Chg.setCell (S:=fun q=>q=gs) (Chg.refl _ _) ⟨gs,i,none⟩ (.inl rfl) _;have e3:((W.alloc (.cells #[.pointer (some ⟨p,0,none⟩),.bool false,.int .i64 0] 124)).setCell ⟨gs,i,none⟩ (.pointer (some ⟨W.heap.size,0,none⟩))).heap.size=W.heap.size+1:=by rw[size_setCell,size_alloc]
 let T':Nat->Nat:=tagAt T1 W.heap.size 1;have hT:∀q,q<W.heap.size->T' q=T1 q:=fun q hq=>tagAt_lt _ _ _ _ hq
 have hTo:∀q,q<w.heap.size->T' q=T q:=fun q hq=>(hT q (by omega)).trans (d2 q (.inl hq))
 have hne:∀g cs ty,At w g cs ty->ty≠126->g≠gs:=fun g cs ty ha hty e=>by
  subst e;have c:=h.slots;unfold At at ha c;rw[ha]at c;simp only [Option.some.injEq,Obj.cells.injEq]at c;exact hty c.2.1
 refine⟨T',⟨h.bay.mod hc (hne b _ _ h.bay (by decide)),?_,by rw[hTo b h.bay.lt];exact h.tb,by rw[hTo gs hgs];exact h.ts,fun j hj y hy=> ?_,fun j hj hy=> ?_,fun j l hj hl hjl a c=> ?_,fun j l hj hl hjl dv hdv=> ?_,fun k hk=> ?_,h.few,h.cl,h.trl,h.trh⟩,hTo,hc⟩
 ·have h1:At (W.alloc (.cells #[.pointer (some ⟨p,0,none⟩),.bool false,.int .i64 0] 124)) gs (slotCells ptr s.n) 126:=(h.slots.below d4 hgs).alloc _
  have h2:=h1.set i (.pointer (some ⟨W.heap.size,0,none⟩));have e:(slotCells ptr s.n).setIfInBounds i (.pointer (some ⟨W.heap.size,0,none⟩))=slotCells (fun q=>if q=i then some W.heap.size else ptr q) s.n:=by
   apply Array.ext_getElem?;intro j;rw[Array.getElem?_setIfInBounds];have hs:(slotCells ptr s.n).size=3*s.n:=by simp[slotCells]
   rw[hs];by_cases hj:j<3*s.n
   ·rw[slotCells_at _ _ _ hj,slotCells_at _ _ _ hj]
    by_cases hji:i=j
    ·subst hji;rw[if_pos rfl,if_pos hj,if_pos rfl];rfl
    ·rw[if_neg hji,if_neg (Ne.symm hji)]
   ·rw[if_neg (by omega)]
    have q1:∀f,(slotCells f s.n)[j]?=none:=fun f=>by rw[Array.getElem?_eq_none];simp[slotCells];omega
    rw[q1,q1]
  rw[e]at h2;exact h2
 ·by_cases hji:j=i
  ·subst hji
   have hy':(some (⟨d,false,0⟩:Dev))=some y:=by simpa [BaySt.laid]using hy
   simp only [Option.some.injEq]at hy';subst hy';refine⟨W.heap.size,by simp,?_⟩;show DevAt _ T' (if j=j then t else tg j) W.heap.size (if j=j then p else dp j) _
   rw[if_pos rfl,if_pos rfl];have hgw:gs≠W.heap.size:=by omega
   refine⟨(At.new W _ _).setOther (Ne.symm hgw) _,tagAt_same _ _ _,ht,?_,by show(0:Int)≤0;omega,by show(0:Int)≤9223372036854775807;omega⟩;refine((d1.retag hT).below (Below.refl _ _|>.alloc (Nat.le_refl _) _)).keep hset (fun k hk e=> ?_);subst e;rw[hT k (by omega),d2 k (.inl hgs),h.ts]at hk;omega
  ·have hy':s.pos j=some y:=by simpa [BaySt.laid,hji]using hy
   obtain⟨dv2,e1,e2⟩:=h.some' j hj y hy';refine⟨dv2,by simp[hji,e1],?_⟩;show DevAt _ T' (if j=i then t else tg j) dv2 (if j=i then p else dp j) _
   rw[if_neg hji,if_neg hji];refine(e2.retag hTo).keep hc (fun q hq e=> ?_);subst e;have:=h.ts;have:=e2.two;rcases hq with hq|hq
   ·rw[hTo q hgs]at hq;omega
   ·exact hne dv2 _ _ e2.dev (by decide) hq.symm
 ·by_cases hji:j=i
  ·subst hji;simp[BaySt.laid]at hy
  ·have hy':s.pos j=none:=by simpa [BaySt.laid,hji]using hy
   show(if j=i then some W.heap.size else ptr j)=none
   rw[if_neg hji];exact h.none' j hj hy'
 ·show(if j=i then t else tg j)≠(if l=i then t else tg l)
  by_cases hji:j=i
  ·by_cases hli:l=i
   ·omega
   ·rw[if_pos hji,if_neg hli]
    exact(hap l hl hli (by simpa [BaySt.laid,hli]using c)).symm
  ·rw[if_neg hji]
   by_cases hli:l=i
   ·rw[if_pos hli]
    exact hap j hj hji (by simpa [BaySt.laid,hji]using a)
   ·rw[if_neg hli]
    exact h.apart j l hj hl hjl (by simpa [BaySt.laid,hji]using a) (by simpa [BaySt.laid,hli]using c)
 ·have old:∀m,m<3*s.n->∀dv,ptr m=some dv->dv<w.heap.size:=fun m hm dv hdv=>by
   cases hx:s.pos m with
   |none=>rw[h.none' m hm hx]at hdv;cases hdv
   |some x=>
    obtain⟨dv2,e1,e2⟩:=h.some' m hm x hx;rw[hdv]at e1;simp only [Option.some.injEq]at e1;subst e1;exact e2.dev.lt
  have hdv':(if j=i then some W.heap.size else ptr j)=some dv:=hdv;show(if l=i then some W.heap.size else ptr l)≠some dv
  intro hl';by_cases hji:j=i
  ·rw[if_pos hji]at hdv'
   rw[if_neg (by omega)]at hl';have:=old l hl dv hl';simp only [Option.some.injEq]at hdv';omega
  ·rw[if_neg hji]at hdv'
   by_cases hli:l=i
   ·rw[if_pos hli]at hl'
    have:=old j hj dv hdv';simp only [Option.some.injEq]at hl';omega
   ·rw[if_neg hli]at hl'
    exact h.own j l hj hl hjl dv hdv' hl'
 ·rw[e3]at hk
  show tagAt T1 W.heap.size 1 k=0
  unfold tagAt;rw[if_neg (by omega),d2 k (.inr (by omega))];exact h.virgin k (by omega)
def kcells (l:List Nat):List Value:=l.map fun x:Nat=>.int .i64 (x:Int)
theorem kcells_at (l:List Nat) (i:Nat) (h:i<l.length):(kcells l)[i]?=some (.int .i64 ((l[i]:Nat):Int)):=by simp[kcells,h]
def freshBay (l:List Nat) (i:Nat):BaySt:=⟨l.length,fun q=>if q%3=0/\q/3<i/\0<l.getD (q/3) 0 then some ⟨freshDsk (l.getD (q/3) 0),false,0⟩else none,false,-1,fun _=>0⟩
theorem freshBay_skip (l:List Nat) (k:Nat) (h:l.getD k 0=0):freshBay l (k+1)=freshBay l k:=by
 unfold freshBay;congr 1;funext q;by_cases hq:q%3=0/\q/3<k+1/\0<l.getD (q/3) 0
 ·have hne:q/3≠k:=fun e=>by rw[e]at hq;omega
  rw[if_pos hq,if_pos ⟨hq.1,by omega,hq.2.2⟩]
 ·rw[if_neg hq,if_neg (fun h=>hq ⟨h.1,by omega,h.2.2⟩)]
theorem freshBay_lay (l:List Nat) (k:Nat) (h:0<l.getD k 0):freshBay l (k+1)=(freshBay l k).laid (k*3) ⟨freshDsk (l.getD k 0),false,0⟩:=by
 unfold freshBay BaySt.laid;congr 1;funext q;show _=if q=k*3 then _ else if _ then _ else _
 by_cases hq:q=k*3
 ·subst hq
  have e:k*3/3=k:=by omega
  rw[if_pos rfl,e,if_pos ⟨by omega,by omega,h⟩]
 ·rw[if_neg hq]
  by_cases hq2:q%3=0/\q/3<k+1/\0<l.getD (q/3) 0
  ·rw[if_pos hq2,if_pos ⟨hq2.1,by omega,hq2.2.2⟩]
  ·rw[if_neg hq2,if_neg (fun h=>hq2 ⟨h.1,by omega,h.2.2⟩)]
theorem slice_slots:SliceOf Tryz.prog 111 126 3 24:=
 SliceOf.mk' (z:=.agg (List.replicate 3 (.pointer none)).toArray) Tryz.underlying111 (by decide) (by kernel_rfl) (by kernel_rfl)
theorem new_bay {w w1:World} (l:List Nat) (h2:l.length≤17) (a1:At w1 w.heap.size (List.replicate (l.length*3) (.pointer none)).toArray 126) (b1:Below w.heap.size w w1):
  ∃T,BayIn (w1.alloc (.cells #[.slice (some ⟨w.heap.size,0,none⟩) l.length l.length,.bool false,.int .i64 (-1),.int .i64 0,.int .i64 0,.int .i64 0] 113)) T w1.heap.size (freshBay l 0) w.heap.size (fun _=>none) (fun q=>q+2) (fun _=>0)/\(∀q,q<w.heap.size->T q=0):=by
 have hsz:=b1.size;have hl:=a1.lt;refine⟨fun q=>if q=w.heap.size\/q=w1.heap.size then 1 else 0,⟨At.new _ _ _,?_,by simp,by simp,fun i hi x hx=> ?_,fun i hi _=>rfl,fun i j hi hj hij ha=> ?_,fun i j hi hj hij dv hdv=>by simp at hdv,fun k hk=> ?_,h2,fun j=>by show(0:Int)≤0;omega,by show(-1:Int)≤ -1;omega,by show(-1:Int)≤9223372036854775807;omega⟩,fun q hq=>by show(if _ then _ else _)=_;rw[if_neg (by omega)]⟩
 ·have:=a1.alloc (.cells #[.slice (some ⟨w.heap.size,0,none⟩) l.length l.length,.bool false,.int .i64 (-1),.int .i64 0,.int .i64 0,.int .i64 0] 113)
  have e:slotCells (fun _=>none) l.length=(List.replicate (l.length*3) (Value.pointer none)).toArray:=by
   apply Array.ext_getElem?;intro j;by_cases hj:j<3*l.length
   ·rw[slotCells_at _ _ _ hj]
    have hj':j<l.length*3:=by omega
    simp[hj',pcell]
   ·have hj':¬j<l.length*3:=by omega
    rw[Array.getElem?_eq_none (by simp[slotCells];omega),Array.getElem?_eq_none (by simp;omega)]
  show At _ _ (slotCells (fun _=>none) l.length) _
  rw[e];exact this
 ·simp[freshBay]at hx
 ·simp[freshBay]at ha
 ·rw[size_alloc]at hk
  show(if _ then _ else _)=_
  rw[if_neg (by omega)]
def BayMade (w:World) (s:BaySt) (b:Nat) (w':World):Prop:=∃T,BayAt w' T b s/\(∀q,q<w.heap.size->T q=0)/\w.heap.size≤b/\Below w.heap.size w w'
theorem bay_new (l:List Nat) (v:Value) (B:Nat) (w:World) (hv:w.ownsRow B 3 1 v l.length (kcells l)) (h1:1≤l.length) (h2:l.length≤17) (hl:∀x∈l,x≤8192):
  Calls Tryz.prog 19 #[v] w fun e w'=>∃b,e=.returned (.tuple #[.pointer (some ⟨b,0,none⟩),.int .u16 0])/\BayMade w (freshBay l l.length) b w':=by
 obtain⟨g,cap,rfl,hBg,hg⟩:=ownsRow_full hv (by omega);have HV:=Lib.hid hv;have HL:=Lib.hid hl;clear hv hl;go_enter Tryz.func19,Tryz.ntmps19;go_wp2_with (refine wpList_make_same rfl _ _ 111 126 3 24 rfl slice_slots (.pointer none) (by kernel_rfl) _ _ _ _ l.length rfl rfl rfl rfl (by omega) (by unfold maxLen;omega) ?_;intro w1 a1 b1);go_loopw [24] (fun q wr=>∃k:Nat,k≤l.length/\q=.int .i64 k/\∃T gs ptr tg dp,BayIn wr T w1.heap.size (freshBay l k) gs ptr tg dp/\(∀q,q<w.heap.size->T q=0)/\(∀j,j<3*l.length->(freshBay l k).pos j≠none->tg j=j+2)/\w.heap.size≤gs/\Below w.heap.size w wr) (fun q _=>l.length-(intOf q).toNat);case atStart=>
  obtain⟨T,k1,k2⟩:=new_bay l h2 a1 b1;exact⟨0,by omega,rfl,T,_,_,_,_,k1,k2,fun j _ _=>rfl,Nat.le_refl _,b1.alloc b1.size _⟩
 case round=>
  obtain⟨k,hk,rfl,T,gs,ptr,tg,dp,hB,hT,htg,hgs,hbel⟩:=hrel;have HB:=Lib.hid hB;have HT:=Lib.hid hT;have HG:=Lib.hid htg;have c0:wr.cell? ⟨w1.heap.size,0,none⟩=some (.slice (some ⟨gs,0,none⟩) l.length l.length):=hB.bay.cell 0;have hgl:=hB.slots.lt;have fg:=hB.slots.free (k*3);clear hB hT htg;by_cases hkn:k<l.length
  ·have d0:wr.cell? ⟨g,k,none⟩=some (.int .i64 ((l[k]:Nat):Int)):=by
    have:=HV.out.cells (g:=g) rfl k _ (kcells_at l k hkn);rw[Go.WideShapes.add_plain,Nat.zero_add]at this;exact(hbel.cell (p:=⟨g,k,none⟩) hg).trans this
   have hx8:=HL.out l[k] (List.getElem_mem hkn);have egd:l.getD k 0=l[k]:=by rw[List.getD_eq_getElem?_getD,List.getElem?_eq_getElem hkn];rfl
   have EG:=Lib.hid egd;clear egd;have K1:Hid (k+1≤l.length):=hkn;generalize hx:l[k]=x at*;clear hx;by_cases hx0:x=0
   ·subst hx0
    go_wp2;refine⟨⟨k+1,K1.out,by go_num,T,gs,ptr,tg,dp,?_,HT.out,?_,hgs,hbel⟩,by simp[intOf];omega⟩
    ·rw[freshBay_skip l k EG.out];exact HB.out
    ·rw[freshBay_skip l k EG.out];exact HG.out
   ·have HN:=Lib.hid (disk_new T (k*3+2) x wr (by omega) hx8)
    go_wp2_with (go_at_call 57;refine HN.out.mono ?_;rintro e w2 ⟨p,rfl,hd⟩;have c2:w2.cell? ⟨w1.heap.size,0,none⟩=some (.slice (some ⟨gs,0,none⟩) l.length l.length):=(by obtain⟨_,_,_,_,hb,_⟩:=hd;exact(hb.cell (p:=⟨w1.heap.size,0,none⟩) HB.out.bay.lt).trans c0);have a2:At (w2.alloc (.cells #[.pointer (some ⟨p,0,none⟩),.bool false,.int .i64 0] 124)) gs (slotCells ptr l.length) 126:=(At.below HB.out.slots (by obtain⟨_,_,_,_,hb,_⟩:=hd;exact hb) HB.out.slots.lt).alloc _;have f2:=a2.free (k*3);have c3:=(a2.cell (k*3)).trans (slotCells_at ptr l.length (k*3) (by have:=K1.out;omega));have HD:=Lib.hid hd;clear hd a2);have K0:k*3<3*l.length:=by have:=K1.out;omega
    obtain⟨T',m1,m2,m3⟩:=HB.out.lay (i:=k*3) (t:=k*3+2) K0 HD.out (by omega) (fun j hj hjk hp=>by have:=HG.out j hj hp;omega);have ef:freshBay l (k+1)=(freshBay l k).laid (k*3) ⟨freshDsk x,false,0⟩:=by rw[freshBay_lay l k (by rw[EG.out];omega),EG.out]
    rw[<-ef]at m1;refine⟨⟨k+1,K1.out,by go_num,T',gs,_,_,_,m1,fun q hq=>(m2 q (Nat.lt_of_lt_of_le hq hbel.size)).trans (HT.out q hq),fun j hj hp=> ?_,hgs,?_⟩,by simp[intOf];omega⟩
    ·show(if j=k*3 then k*3+2 else tg j)=j+2
     by_cases hj3:j=k*3
     ·rw[if_pos hj3,hj3]
     ·rw[if_neg hj3]
      refine HG.out j hj fun h0=>hp ?_
      rw[ef];show(if j=k*3 then _ else (freshBay l k).pos j)=none
      rw[if_neg hj3,h0]
    ·exact Chg.own hbel m3 (fun q hq=>by subst hq;exact hgs)
  ·obtain rfl:k=l.length:=by omega
   go_wp2;go_ret2;exact⟨_,rfl,T,⟨gs,ptr,tg,dp,HB.out⟩,HT.out,b1.size,hbel⟩
open Go.RowKit
def Bits (w:World) (T:Nat->Nat) (v:Value) (l:List Bool):Prop:=
 ∃a c,v=.slice a l.length c/\l.length≤1000000000/\(l= []\/∃b o,a=some ⟨b,o,none⟩/\b<w.heap.size/\T b=0/\∀j (h:j<l.length),w.cell? ⟨b,o+j,none⟩=some (.bool l[j]))
def Bitss (w:World) (T:Nat->Nat) (v:Value) (ls:List (List Bool)):Prop:=
 ∃a c,v=.slice a ls.length c/\ls.length≤1000000000/\(ls= []\/∃b o,a=some ⟨b,o,none⟩/\b<w.heap.size/\T b=0/\∀j (h:j<ls.length),∃u,w.cell? ⟨b,o+j,none⟩=some u/\Bits w T u ls[j])
theorem Bits.keep {S:Nat->Prop} {w w':World} {T:Nat->Nat} {v:Value} {l:List Bool} (h:Bits w T v l) (hc:Chg S w w') (hS:∀k,S k->T k≠0):Bits w' T v l:=by
 obtain⟨a,c,h1,h2,h3⟩:=h;refine⟨a,c,h1,h2,?_⟩;rcases h3 with h3|⟨b,o,h3,h4,h5,h6⟩
 ·exact .inl h3
 ·exact .inr ⟨b,o,h3,Nat.lt_of_lt_of_le h4 hc.size,h5,fun j hj=>(hc.cell (p:=⟨b,o+j,none⟩) h4 (fun hs=>hS b hs h5)).trans (h6 j hj)⟩
theorem Bitss.keep {S:Nat->Prop} {w w':World} {T:Nat->Nat} {v:Value} {l:List (List Bool)} (h:Bitss w T v l) (hc:Chg S w w') (hS:∀k,S k->T k≠0):Bitss w' T v l:=by
 obtain⟨a,c,h1,h2,h3⟩:=h;refine⟨a,c,h1,h2,?_⟩;rcases h3 with h3|⟨b,o,h3,h4,h5,h6⟩
 ·exact .inl h3
 ·refine .inr ⟨b,o,h3,Nat.lt_of_lt_of_le h4 hc.size,h5,fun j hj=> ?_⟩
  obtain⟨u,q1,q2⟩:=h6 j hj;exact⟨u,(hc.cell (p:=⟨b,o+j,none⟩) h4 (fun hs=>hS b hs h5)).trans q1,q2.keep hc hS⟩
theorem Bits.nil (w:World) (T:Nat->Nat):Bits w T (.slice none 0 0) []:=⟨none,0,rfl,by simp,.inl rfl⟩
theorem Bitss.nil (w:World) (T:Nat->Nat):Bitss w T (.slice none 0 0) []:=⟨none,0,rfl,by simp,.inl rfl⟩
theorem Bits.shape {w:World} {T:Nat->Nat} {v:Value} {l:List Bool} (h:Bits w T v l):∃a c,v=.slice a l.length c:=by
 obtain⟨a,c,h1,_⟩:=h;exact⟨a,c,h1⟩
theorem Bitss.shape {w:World} {T:Nat->Nat} {v:Value} {l:List (List Bool)} (h:Bitss w T v l):∃a c,v=.slice a l.length c:=by
 obtain⟨a,c,h1,_⟩:=h;exact⟨a,c,h1⟩
open Go.RowKit
def BaySt.smallIn (s:BaySt) (m:Nat):Prop:=∀k,k<s.n->∀x,s.pos (k*3)=some x->x.d.cache.length≤m
theorem BaySt.small.in {s:BaySt} {m:Nat} (h:s.small m):s.smallIn m:=fun k hk x hx=>h (k*3) (by omega) x hx
open Go.RowKit
structure Reads (s s':BaySt) (k:Nat):Prop where
 n:s'.n=s.n
 small:∀m,s.small m->s'.small m
 lo:s.cnt 0≤s'.cnt 0
 hi:s'.cnt 0≤s.cnt 0+k
 c1:s'.cnt 1=s.cnt 1
 c2:s'.cnt 2=s.cnt 2
theorem Reads.refl (s:BaySt) (k:Nat):Reads s s k:=⟨rfl,fun m h=>h,by omega,by omega,rfl,rfl⟩
theorem Reads.trans {s s1 s2:BaySt} {k j:Nat} (h1:Reads s s1 k) (h2:Reads s1 s2 j):Reads s s2 (k+j):=⟨h2.n.trans h1.n,fun m h=>h2.small m (h1.small m h),by have:=h1.lo;have:=h2.lo;omega,by have:=h1.hi;have:=h2.hi;omega,h2.c1.trans h1.c1,h2.c2.trans h1.c2⟩
theorem Reads.mono {s s':BaySt} {k j:Nat} (h:Reads s s' k) (hk:k≤j):Reads s s' j:=⟨h.n,h.small,h.lo,by have:=h.hi;omega,h.c1,h.c2⟩
theorem small_pos {s:BaySt} {i:Nat} {y:Dev} {m:Nat} (h:s.small m) (hy:y.d.cache.length≤m) (s':BaySt) (hn:s'.n=s.n) (hp:s'.pos=fun q=>if q=i then some y else s.pos q):s'.small m:=fun q hq x hx=>by
 rw[hp]at hx;rw[hn]at hq;by_cases hqi:q=i
 ·have:some y=some x:=by simpa [hqi]using hx
  simp only [Option.some.injEq]at this;subst this;exact hy
 ·exact h q hq x (by simpa [hqi]using hx)
theorem start_reads (s:BaySt) (k:Int):Reads s (s.start 0 k).1 1:=by
 unfold BaySt.start;by_cases hk:0≤k/\k<(s.n:Int)
 ·rw[if_neg (by simpa using hk)]
  by_cases ht:s.trip=0
  ·rw[if_pos ht];exact⟨rfl,fun m h=>h,by show s.cnt 0≤s.cnt 0;omega,by show s.cnt 0≤_;omega,rfl,rfl⟩
  ·rw[if_neg ht]
   by_cases hd:s.dark=true
   ·rw[if_pos hd];exact .refl _ _
   ·rw[if_neg hd]
    cases hx:s.pos (k.toNat*3)with
    |none=>exact⟨rfl,fun m h=>h,by show s.cnt 0≤(if 0=0 then s.cnt 0+1 else s.cnt 0);rw[if_pos rfl];omega,by show(if 0=0 then s.cnt 0+1 else s.cnt 0)≤_;rw[if_pos rfl];omega,rfl,rfl⟩
    |some x=>exact⟨rfl,fun m h=>small_pos h (use_small (h _ (by omega) x hx)) _ rfl rfl,by show s.cnt 0≤(if 0=0 then s.cnt 0+1 else s.cnt 0);rw[if_pos rfl];omega,by show(if 0=0 then s.cnt 0+1 else s.cnt 0)≤_;rw[if_pos rfl];omega,rfl,rfl⟩
 ·rw[if_pos (by simpa using hk)];exact .refl _ _
theorem read_state (s:BaySt) (k z:Int):(s.read k z).2.2=(s.start 0 k).1:=by
 unfold BaySt.read;cases h:s.start 0 k with
 |mk a b=>cases b<;>rfl
theorem read_reads (s:BaySt) (k z:Int):Reads s (s.read k z).2.2 1:=by rw[read_state];exact start_reads s k
theorem start_code {s:BaySt} {j:Nat} {k:Int} {s':BaySt} {c:Nat} (h:s.start j k=(s',.inl c)):c≠0/\c<65536:=by
 have h2:(s.start j k).2=.inl c:=by rw[h]
 unfold BaySt.start at h2;split at h2
 ·simp only [Sum.inl.injEq]at h2;omega
 ·split at h2
  ·simp only [Sum.inl.injEq]at h2;omega
  ·split at h2
   ·simp only [Sum.inl.injEq]at h2;omega
   ·split at h2
    ·simp only [Sum.inl.injEq]at h2;omega
    ·cases h2
theorem may_lt (d:Dsk) (z:Int):d.may z<65536:=by
 unfold Dsk.may;split
 ·omega
 ·split<;>omega
theorem read_code (s:BaySt) (k z:Int):((s.read k z).1=0↔∃x,(s.read k z).2.1=some x)/\(s.read k z).1<65536:=by
 unfold BaySt.read;cases h:s.start 0 k with
 |mk a b=>
  cases b with
  |inl c=>
   have:=start_code h;exact⟨⟨fun e=>absurd e this.1,fun ⟨x,e⟩=>by cases e⟩,this.2⟩
  |inr x=>
   show((x.d.read z).1=0↔∃y,(x.d.read z).2=some y)/\(x.d.read z).1<65536
   unfold Dsk.read;by_cases hz:x.d.may z=0
   ·rw[if_pos hz];exact⟨⟨fun _=>⟨_,rfl⟩,fun _=>rfl⟩,by show 0<65536;omega⟩
   ·rw[if_neg hz];exact⟨⟨fun e=>absurd e hz,fun ⟨y,e⟩=>by cases e⟩,may_lt _ _⟩
structure Handed where
 t:Option (Nat×Nat)
 f:Nat->UInt8
 s:BaySt
def Handed.step (h:Handed) (z but:Int) (k:Nat):Handed:=
 if h.t≠none\/(k:Int)=but then h
 else if (h.s.read k z).1=0 then ⟨none,fun i=>h.f i^^^((h.s.read k z).2.1.getD []).getD i 0,(h.s.read k z).2.2⟩
 else ⟨some (k,(h.s.read k z).1),h.f,(h.s.read k z).2.2⟩
def BaySt.hand (s:BaySt) (z but:Int):Nat->Handed
 |0=>⟨none,fun _=>0,s⟩
 |k+1=>(s.hand z but k).step z but k
theorem hand_stop (s:BaySt) (z but:Int) (k:Nat) (h:(s.hand z but k).t≠none):∀j,k≤j->s.hand z but j=s.hand z but k
 |0,hj=>by
  obtain rfl:k=0:=by omega
  rfl
 |j+1,hj=>by
  by_cases hk:k=j+1
  ·subst hk;rfl
  ·have ih:=hand_stop s z but k h j (by omega)
   show(s.hand z but j).step z but j=_
   unfold Handed.step;rw[if_pos (.inl (by rw[ih];exact h)),ih]
theorem hand_but (s:BaySt) (z but:Int) (k:Nat) (h:(k:Int)=but):s.hand z but (k+1)=s.hand z but k:=by
 show(s.hand z but k).step z but k=_
 unfold Handed.step;rw[if_pos (.inr h)]
theorem hand_ok (s:BaySt) (z but:Int) (k:Nat) (h0:(s.hand z but k).t=none) (h:(k:Int)≠but) (x:Sec) (hx:((s.hand z but k).s.read k z).2.1=some x):s.hand z but (k+1)=⟨none,fun i=>(s.hand z but k).f i^^^x.getD i 0,((s.hand z but k).s.read k z).2.2⟩:=by
 show(s.hand z but k).step z but k=_
 unfold Handed.step;have hne:¬((s.hand z but k).t≠none\/(k:Int)=but):=by simp[h0,h]
 rw[if_neg hne,if_pos ((read_code _ _ _).1.2 ⟨x,hx⟩),hx];rfl
theorem hand_bad (s:BaySt) (z but:Int) (k:Nat) (h0:(s.hand z but k).t=none) (h:(k:Int)≠but) (hx:((s.hand z but k).s.read k z).1≠0):s.hand z but (k+1)=⟨some (k,((s.hand z but k).s.read k z).1),(s.hand z but k).f,((s.hand z but k).s.read k z).2.2⟩:=by
 show(s.hand z but k).step z but k=_
 unfold Handed.step;have hne:¬((s.hand z but k).t≠none\/(k:Int)=but):=by simp[h0,h]
 rw[if_neg hne,if_neg hx]
theorem hand_reads (s:BaySt) (z but:Int):∀k,Reads s (s.hand z but k).s k
 |0=>.refl _ _
 |k+1=>by
  have ih:=hand_reads s z but k;show Reads s ((s.hand z but k).step z but k).s (k+1)
  unfold Handed.step;split
  ·exact ih.mono (by omega)
  ·split
   ·exact ih.trans (read_reads _ _ _)
   ·exact ih.trans (read_reads _ _ _)
theorem hand_code (s:BaySt) (z but:Int):∀k t,(s.hand z but k).t=some t->t.1<k/\t.2≠0/\t.2<65536
 |0,t,h=>by cases h
 |k+1,t,h=>by
  have ih:=hand_code s z but k;change ((s.hand z but k).step z but k).t=some t at h;unfold Handed.step at h;split at h
  ·have:=ih t h;omega
  ·split at h
   ·cases h
   ·rename_i h2
    simp only [Option.some.injEq]at h;subst h;exact⟨by show k<k+1;omega,h2,(read_code _ _ _).2⟩
structure Looked where
 t:Option (Nat×Nat)
 l:List Nat
 s:BaySt
instance (f:Nat->UInt8) (n:Nat):Decidable (allZero f n):=inferInstanceAs (Decidable (∀i,i<n->f i=0))
def Looked.step (h:Looked) (M r:Nat):Looked:=
 if h.t≠none then h
 else if (h.s.hand (1+r:Nat) (-1) M).t=none then ⟨none,if allZero (h.s.hand (1+r:Nat) (-1) M).f 128 then h.l else h.l++ [r],(h.s.hand (1+r:Nat) (-1) M).s⟩
 else ⟨(h.s.hand (1+r:Nat) (-1) M).t,h.l,(h.s.hand (1+r:Nat) (-1) M).s⟩
def BaySt.look (s:BaySt) (M:Nat):Nat->Looked
 |0=>⟨none,[],s⟩
 |r+1=>(s.look M r).step M r
theorem look_stop (s:BaySt) (M k:Nat) (h:(s.look M k).t≠none):∀j,k≤j->s.look M j=s.look M k
 |0,hj=>by
  obtain rfl:k=0:=by omega
  rfl
 |j+1,hj=>by
  by_cases hk:k=j+1
  ·subst hk;rfl
  ·have ih:=look_stop s M k h j (by omega)
   show(s.look M j).step M j=_
   unfold Looked.step;rw[if_pos (by rw[ih];exact h),ih]
theorem look_ok (s:BaySt) (M r:Nat) (h0:(s.look M r).t=none) (h:((s.look M r).s.hand (1+r:Nat) (-1) M).t=none):s.look M (r+1)=⟨none,if allZero ((s.look M r).s.hand (1+r:Nat) (-1) M).f 128 then (s.look M r).l else (s.look M r).l++ [r],((s.look M r).s.hand (1+r:Nat) (-1) M).s⟩:=by
 show(s.look M r).step M r=_
 unfold Looked.step;rw[if_neg (by simp[h0]),if_pos h]
theorem look_bad (s:BaySt) (M r:Nat) (h0:(s.look M r).t=none) (h:((s.look M r).s.hand (1+r:Nat) (-1) M).t≠none):s.look M (r+1)=⟨((s.look M r).s.hand (1+r:Nat) (-1) M).t,(s.look M r).l,((s.look M r).s.hand (1+r:Nat) (-1) M).s⟩:=by
 show(s.look M r).step M r=_
 unfold Looked.step;rw[if_neg (by simp[h0]),if_neg h]
theorem look_reads (s:BaySt) (M:Nat):∀r,Reads s (s.look M r).s (r*M)
 |0=>.refl _ _
 |r+1=>by
  have ih:=look_reads s M r;show Reads s ((s.look M r).step M r).s ((r+1)*M)
  rw[Nat.succ_mul];unfold Looked.step;split
  ·exact ih.mono (by omega)
  ·split
   ·exact ih.trans (hand_reads _ _ _ _)
   ·exact ih.trans (hand_reads _ _ _ _)
theorem look_length (s:BaySt) (M:Nat):∀r,(s.look M r).l.length≤r
 |0=>by show 0≤0;omega
 |r+1=>by
  have ih:=look_length s M r;show((s.look M r).step M r).l.length≤r+1
  unfold Looked.step;split
  ·omega
  ·split
   ·show(if _ then (s.look M r).l else (s.look M r).l++ [r]).length≤r+1
    split
    ·omega
    ·simp;omega
   ·show(s.look M r).l.length≤r+1
    omega
open Go.RowKit
structure CalmDev (x:Dev) (n:Nat):Prop where
 worn:x.worn=false
 failed:x.d.failed=false
 len:x.d.last.length=n
 secs:∀s∈x.d.last,s.length=128
 csecs:∀y∈x.d.cache,y.2.length=128
 cin:∀y∈x.d.cache,y.1<x.d.last.length
structure CalmBay (s:BaySt) (sz:Nat->Nat):Prop where
 dark:s.dark=false
 trip:s.trip= -1
 dev:∀k,k<s.n->∃x,s.pos (k*3)=some x/\CalmDev x (sz k)
 rest:∀q,q%3≠0->s.pos q=none
def BaySt.sec (s:BaySt) (k z:Nat):Sec:=match s.pos (k*3)with
 |some x=>x.d.cur z
 |none=>zsec
def BaySt.dry (s:BaySt) (k:Nat):Prop:=∃x,s.pos (k*3)=some x/\x.d.cache= []
theorem sec_some {s:BaySt} {k z:Nat} {x:Dev} (h:s.pos (k*3)=some x):s.sec k z=x.d.cur z:=by
 unfold BaySt.sec;rw[h]
def BaySt.ticks (s:BaySt) (j c:Nat):BaySt:={s with cnt:=fun q=>if q=j then s.cnt j+c else s.cnt q}
theorem ticks_zero (s:BaySt) (j:Nat):s.ticks j 0=s:=by
 unfold BaySt.ticks;have e:(fun q=>if q=j then s.cnt j+((0:Nat):Int)else s.cnt q)=s.cnt:=by
  funext q;by_cases hq:q=j
  ·subst hq;rw[if_pos rfl];omega
  ·rw[if_neg hq]
 rw[e]
theorem ticks_ticks (s:BaySt) (j a c:Nat):(s.ticks j a).ticks j c=s.ticks j (a+c):=by
 unfold BaySt.ticks;congr 1;funext q;show(if q=j then (if j=j then s.cnt j+(a:Int)else s.cnt j)+(c:Int)else if q=j then s.cnt j+(a:Int)else s.cnt q)=_
 by_cases hq:q=j
 ·rw[if_pos hq,if_pos rfl,if_pos hq];omega
 ·rw[if_neg hq,if_neg hq,if_neg hq]
theorem CalmBay.ticks {s:BaySt} {sz:Nat->Nat} (h:CalmBay s sz) (j c:Nat):CalmBay (s.ticks j c) sz:=⟨h.dark,h.trip,h.dev,h.rest⟩
theorem sec_ticks (s:BaySt) (j c:Nat):(s.ticks j c).sec=s.sec:=rfl
theorem cnt_ticks (s:BaySt) (j c:Nat):(s.ticks j c).cnt j=s.cnt j+c:=if_pos rfl
theorem cnt_ticks_ne (s:BaySt) (j c q:Nat) (h:q≠j):(s.ticks j c).cnt q=s.cnt q:=if_neg h
theorem use_calm {x:Dev} {n:Nat} (h:CalmDev x n):x.use=x:=by
 unfold Dev.use;rw[if_pos h.worn]
theorem begun_calm {s:BaySt} {sz:Nat->Nat} (h:CalmBay s sz) (j i:Nat) {x:Dev} (hx:s.pos i=some x):s.begun j i x=s.ticks j 1:=by
 unfold BaySt.begun BaySt.ticks;have e:(fun q=>if q=i then some x else s.pos q)=s.pos:=by
  funext q;by_cases hq:q=i
  ·subst hq;rw[if_pos rfl,hx]
  ·rw[if_neg hq]
 rw[e,h.trip,if_neg (by omega)];rfl
theorem start_calm {s:BaySt} {sz:Nat->Nat} (h:CalmBay s sz) (j k:Nat) (hk:k<s.n) {x:Dev} (hx:s.pos (k*3)=some x) (hd:CalmDev x (sz k)):s.start j k=(s.ticks j 1,.inr x):=by
 unfold BaySt.start;rw[if_neg (by omega),if_neg (by rw[h.trip];omega),if_neg (by rw[h.dark];simp),show((k:Int)).toNat=k by omega,hx];show(s.begun j (k*3) x.use,_)=_
 rw[use_calm hd,begun_calm h j _ hx]
theorem may_calm {x:Dev} {n z:Nat} (h:CalmDev x n) (hz:z<n):x.d.may z=0:=by
 unfold Dsk.may;rw[h.failed,if_neg (by simp),if_neg (by rw[h.len];omega)]
theorem read_calm {s:BaySt} {sz:Nat->Nat} (h:CalmBay s sz) (k z:Nat) (hk:k<s.n) (hz:z<sz k):s.read k z=(0,some (s.sec k z),s.ticks 0 1):=by
 obtain⟨x,h1,h2⟩:=h.dev k hk;unfold BaySt.read;rw[start_calm h 0 k hk h1 h2,sec_some h1];show((x.d.read z).1,(x.d.read z).2,s.ticks 0 1)=_
 unfold Dsk.read;rw[if_pos (may_calm h2 hz)];rfl
def xorTo (f:Nat->Sec) (but:Int):Nat->Nat->UInt8
 |0=>fun _=>0
 |k+1=>if (k:Int)=but then xorTo f but k else fun i=>xorTo f but k i^^^(f k).getD i 0
def handed (but:Int):Nat->Nat
 |0=>0
 |k+1=>if (k:Int)=but then handed but k else handed but k+1
theorem handed_all (but:Int):∀k:Nat,(but<0\/(k:Int)≤but)->handed but k=k
 |0,_=>rfl
 |k+1,h=>by
  show(if (k:Int)=but then handed but k else handed but k+1)=k+1
  rw[if_neg (by omega),handed_all but k (by omega)]
theorem handed_but (but:Int):∀k:Nat,0≤but->but<k->handed but k+1=k
 |0,h1,h2=>by omega
 |k+1,h1,h2=>by
  show(if (k:Int)=but then handed but k else handed but k+1)+1=k+1
  by_cases h:(k:Int)=but
  ·rw[if_pos h,handed_all but k (.inr (by omega))]
  ·rw[if_neg h,handed_but but k h1 (by omega)]
theorem hand_calm {s:BaySt} {sz:Nat->Nat} (h:CalmBay s sz) (z:Nat) (but:Int):∀k,k≤s.n->(∀j,j<k->z<sz j)->s.hand z but k=⟨none,xorTo (fun m=>s.sec m z) but k,s.ticks 0 (handed but k)⟩
 |0,_,_=>by
  show(⟨none,fun _=>0,s⟩:Handed)=⟨none,_,s.ticks 0 0⟩
  rw[ticks_zero];rfl
 |k+1,hk,hz=>by
  have ih:=hand_calm h z but k (by omega) (fun j hj=>hz j (by omega));by_cases hb:(k:Int)=but
  ·rw[hand_but s z but k hb,ih]
   show _=(⟨none,(if (k:Int)=but then xorTo (fun m=>s.sec m z) but k else _),s.ticks 0 (if (k:Int)=but then handed but k else handed but k+1)⟩:Handed)
   rw[if_pos hb,if_pos hb]
  ·have hr:=read_calm (h.ticks 0 (handed but k)) k z (by show k<s.n;omega) (hz k (by omega))
   rw[sec_ticks,ticks_ticks]at hr;rw[hand_ok s z but k (by rw[ih]) hb (s.sec k z) (by rw[ih];show((s.ticks 0 (handed but k)).read k z).2.1=_;rw[hr]),ih];show(⟨none,_,((s.ticks 0 (handed but k)).read k z).2.2⟩:Handed)=⟨none,(if (k:Int)=but then xorTo (fun m=>s.sec m z) but k else _),s.ticks 0 (if (k:Int)=but then handed but k else handed but k+1)⟩
   rw[hr,if_neg hb,if_neg hb]
def uneven (s:BaySt) (M:Nat):Nat->List Nat
 |0=> []
 |r+1=>if allZero (xorTo (fun m=>s.sec m (1+r)) (-1) M) 128 then uneven s M r else uneven s M r++ [r]
theorem look_calm {s:BaySt} {sz:Nat->Nat} (h:CalmBay s sz) (M:Nat) (hM:M≤s.n):∀r,(∀j,j<M->r<sz j)->s.look M r=⟨none,uneven s M r,s.ticks 0 (r*M)⟩
 |0,_=>by
  show(⟨none,[],s⟩:Looked)=⟨none,[],s.ticks 0 (0*M)⟩
  rw[Nat.zero_mul,ticks_zero]
 |r+1,hr=>by
  have ih:=look_calm h M hM r (fun j hj=>by have:=hr j hj;omega);have hh:=hand_calm (h.ticks 0 (r*M)) (1+r) (-1) M (by show M≤s.n;omega) (fun j hj=>by have:=hr j hj;omega);rw[sec_ticks,ticks_ticks,handed_all (-1) M (by omega)]at hh;rw[look_ok s M r (by rw[ih]) (by rw[ih];show((s.ticks 0 (r*M)).hand _ _ _).t=_;rw[hh]),ih];show(⟨none,(if allZero ((s.ticks 0 (r*M)).hand _ _ _).f 128 then uneven s M r else uneven s M r++ [r]),((s.ticks 0 (r*M)).hand _ _ _).s⟩:Looked)=⟨none,(if allZero (xorTo (fun m=>s.sec m (1+r)) (-1) M) 128 then uneven s M r else uneven s M r++ [r]),s.ticks 0 ((r+1)*M)⟩
  rw[hh,Nat.succ_mul]
theorem CalmBay.laid {s:BaySt} {sz:Nat->Nat} (h:CalmBay s sz) (k:Nat) {y:Dev} (hy:CalmDev y (sz k)):CalmBay (s.laid (k*3) y) sz:=by
 refine⟨h.dark,h.trip,fun j hj=> ?_,fun q hq=> ?_⟩
 ·by_cases hjk:j=k
  ·subst hjk;exact⟨y,if_pos rfl,hy⟩
  ·obtain⟨x,h1,h2⟩:=h.dev j hj
   exact⟨x,(if_neg (by omega)).trans h1,h2⟩
 ·exact(if_neg (by omega)).trans (h.rest q hq)
theorem sec_laid_same (s:BaySt) (k z:Nat) (y:Dev):(s.laid (k*3) y).sec k z=y.d.cur z:=sec_some (if_pos rfl)
theorem sec_laid_other (s:BaySt) (k j z:Nat) (y:Dev) (h:j≠k):(s.laid (k*3) y).sec j z=s.sec j z:=by
 unfold BaySt.sec;have:(s.laid (k*3) y).pos (j*3)=s.pos (j*3):=if_neg (by omega);rw[this]
theorem dry_laid_other {s:BaySt} {k j:Nat} {y:Dev} (h:j≠k):(s.laid (k*3) y).dry j↔s.dry j:=by
 unfold BaySt.dry;have:(s.laid (k*3) y).pos (j*3)=s.pos (j*3):=if_neg (by omega);rw[this]
theorem dry_laid_same {s:BaySt} {k:Nat} {y:Dev} (h:y.d.cache= []):(s.laid (k*3) y).dry k:=⟨y,if_pos rfl,h⟩
structure Wrote (s s':BaySt) (sz:Nat->Nat):Prop where
 calm:CalmBay s' sz
 n:s'.n=s.n
 small:∀m,s.small m->s'.small (m+1)
 lo:s.cnt 1≤s'.cnt 1
 hi:s'.cnt 1≤s.cnt 1+1
 c0:s'.cnt 0=s.cnt 0
 c2:s'.cnt 2=s.cnt 2
theorem write_dev_ok {x:Dev} {z:Nat} {l:List UInt8} (h1:x.d.may z=0) (h2:l.length=128):x.d.write z l=(0,{x.d with cache:=x.d.cache++ [(z,l)]}):=by
 unfold Dsk.write;rw[if_neg (by omega),if_neg (by omega)];rfl
theorem CalmDev.written {x:Dev} {n z:Nat} {l:List UInt8} (h:CalmDev x n) (hz:z<n) (hl:l.length=128):CalmDev ⟨{x.d with cache:=x.d.cache++ [(z,l)]},x.worn,x.left⟩ n:=by
 refine⟨h.worn,h.failed,h.len,h.secs,fun y hy=> ?_,fun y hy=> ?_⟩
 ·rcases List.mem_append.1 hy with hy|hy
  ·exact h.csecs y hy
  ·obtain rfl:=List.mem_singleton.1 hy;exact hl
 ·rcases List.mem_append.1 hy with hy|hy
  ·exact h.cin y hy
  ·obtain rfl:=List.mem_singleton.1 hy
   show z<x.d.last.length
   rw[h.len];exact hz
theorem cur_written (x:Dsk) (z q:Nat) (l:List UInt8):({x with cache:=x.cache++ [(z,l)]}:Dsk).cur q=if q=z then l else x.cur q:=by
 unfold Dsk.cur;show(waits (x.cache++ [(z,l)]) q).getD _=_
 rw[waits_snoc];by_cases h:q=z
 ·subst h;rw[if_pos rfl,if_pos rfl];rfl
 ·rw[if_neg (fun e=>h (by omega)),if_neg h]
theorem write_calm {s:BaySt} {sz:Nat->Nat} (h:CalmBay s sz) (k z:Nat) (l:List UInt8) (hk:k<s.n) (hz:z<sz k) (hl:l.length=128):
  ∃s',s.write k z l=(0,s')/\Wrote s s' sz/\(∀j q,s'.sec j q=if j=k/\q=z then l else s.sec j q)/\(∀j,j≠k->s.dry j->s'.dry j)/\s'.cnt 1=s.cnt 1+1:=by
 obtain⟨x,h1,h2⟩:=h.dev k hk;have hw:=write_dev_ok (may_calm h2 hz) hl;refine⟨(s.ticks 1 1).laid (k*3) ⟨{x.d with cache:=x.d.cache++ [(z,l)]},x.worn,x.left⟩,?_,⟨(h.ticks 1 1).laid k (h2.written hz hl),rfl,fun m hm=> ?_,?_,?_,rfl,rfl⟩,fun j q=> ?_,fun j hj hd=> ?_,cnt_ticks s 1 1⟩
 ·unfold BaySt.write
  rw[start_calm h 1 k hk h1 h2];show((x.d.write z l).1,(s.ticks 1 1).laid (((k:Int)).toNat*3) ⟨(x.d.write z l).2,x.worn,x.left⟩)=_
  rw[hw,show((k:Int)).toNat=k by omega]
 ·refine small_pos (s:=s) (i:=k*3) (y:=⟨{x.d with cache:=x.d.cache++ [(z,l)]},x.worn,x.left⟩) (fun i hi y hy=>Nat.le_succ_of_le (hm i hi y hy)) ?_ _ rfl rfl
  have:=hm (k*3) (by omega) x h1;simp only [List.length_append,List.length_singleton];omega
 ·show s.cnt 1≤(if 1=1 then s.cnt 1+((1:Nat):Int)else s.cnt 1)
  rw[if_pos rfl];omega
 ·show(if 1=1 then s.cnt 1+((1:Nat):Int)else s.cnt 1)≤_
  rw[if_pos rfl];omega
 ·by_cases hj:j=k
  ·subst hj
   rw[sec_laid_same];show({x.d with cache:=x.d.cache++ [(z,l)]}:Dsk).cur q=_
   rw[cur_written,sec_some h1];by_cases hq:q=z
   ·rw[if_pos hq,if_pos ⟨rfl,hq⟩]
   ·rw[if_neg hq,if_neg (fun e=>hq e.2)]
  ·rw[sec_laid_other _ _ _ _ _ hj,if_neg (fun e=>hj e.1)]
   rfl
 ·exact(dry_laid_other hj).2 hd
structure Flushed (s s':BaySt) (sz:Nat->Nat) (k:Nat):Prop where
 calm:CalmBay s' sz
 n:s'.n=s.n
 small:∀m,s.small m->s'.small m
 hi:s'.cnt 2=s.cnt 2+1
 c0:s'.cnt 0=s.cnt 0
 c1:s'.cnt 1=s.cnt 1
 sec:∀j q,j<s.n->q<sz j->s'.sec j q=s.sec j q
 dry:s'.dry k
 rest:∀j,j≠k->s.dry j->s'.dry j
theorem settled_calm {x:Dev} {n:Nat} (h:CalmDev x n) (a:Nat) (ha:a<n):x.d.settled.cur a=x.d.cur a:=by
 have:=settleTo_cur x.d.last x.d.cache h.cin a (by rw[h.len];exact ha) x.d.cache.length (Nat.le_refl _);rw[List.take_length]at this;unfold Dsk.cur Dsk.settled;simp only [waits_nil,Option.getD_none];exact this
theorem CalmDev.settled {x:Dev} {n:Nat} (h:CalmDev x n) (keep:Nat->Bool):CalmDev ⟨⟨settleTo x.d.last x.d.cache keep x.d.cache.length,[],x.d.failed⟩,x.worn,x.left⟩ n:=
 ⟨h.worn,h.failed,(settleTo_length _ _ _ _).trans h.len,settleTo_all h.secs h.csecs _ _,fun y hy=>(by cases hy),fun y hy=>(by cases hy)⟩
theorem flush_calm {s:BaySt} {sz:Nat->Nat} (h:CalmBay s sz) (k:Nat) (hk:k<s.n):∃s',s.flush k=(0,s')/\Flushed s s' sz k:=by
 obtain⟨x,h1,h2⟩:=h.dev k hk;refine⟨(s.ticks 2 1).laid (k*3) ⟨x.d.settled,x.worn,x.left⟩,?_,⟨(h.ticks 2 1).laid k (h2.settled _),rfl,fun m hm=>small_pos (s:=s) (i:=k*3) (y:=⟨x.d.settled,x.worn,x.left⟩) hm (by show 0≤m;omega) _ rfl rfl,cnt_ticks s 2 1,rfl,rfl,fun j q hj hq=> ?_,dry_laid_same rfl,fun j hj hd=>(dry_laid_other hj).2 hd⟩⟩
 ·unfold BaySt.flush
  rw[start_calm h 2 k hk h1 h2];show((x.d.flush).1,(s.ticks 2 1).laid (((k:Int)).toNat*3) ⟨(x.d.flush).2,x.worn,x.left⟩)=_
  have:x.d.flush=(0,x.d.settled):=by unfold Dsk.flush;rw[h2.failed,if_neg (by simp)]
  rw[this,show((k:Int)).toNat=k by omega]
 ·by_cases hjk:j=k
  ·subst hjk
   rw[sec_laid_same,sec_some h1];exact settled_calm h2 q hq
  ·rw[sec_laid_other _ _ _ _ _ hjk]
   rfl
theorem fresh_calm (l:List Nat) (hl:∀x∈l,0<x):CalmBay (freshBay l l.length) (fun k=>l.getD k 0):=by
 refine⟨rfl,rfl,fun k hk=> ?_,fun q hq=>if_neg (fun e=>hq e.1)⟩;have hk':k<l.length:=hk;have h0:0<l.getD k 0:=by rw[List.getD_eq_getElem?_getD,List.getElem?_eq_getElem hk'];exact hl _ (List.getElem_mem hk')
 refine⟨⟨freshDsk (l.getD k 0),false,0⟩,?_,rfl,rfl,?_,fun s hs=> ?_,fun y hy=>(by cases hy),fun y hy=>(by cases hy)⟩
 ·show(if k*3%3=0/\k*3/3<l.length/\0<l.getD (k*3/3) 0 then some (⟨freshDsk (l.getD (k*3/3) 0),false,0⟩:Dev)else none)=_
  rw[show k*3/3=k by omega,if_pos ⟨by omega,hk',h0⟩]
 ·show(List.replicate _ zsec).length=_
  rw[List.length_replicate]
 ·obtain rfl:=List.eq_of_mem_replicate (show s∈List.replicate _ zsec from hs)
  simp[zsec]
theorem fresh_sec (l:List Nat) (k z:Nat) (hk:k<l.length) (h0:0<l.getD k 0):(freshBay l l.length).sec k z=zsec:=by
 have:(freshBay l l.length).pos (k*3)=some ⟨freshDsk (l.getD k 0),false,0⟩:=by
  show(if k*3%3=0/\k*3/3<l.length/\0<l.getD (k*3/3) 0 then some (⟨freshDsk (l.getD (k*3/3) 0),false,0⟩:Dev)else none)=_
  rw[show k*3/3=k by omega,if_pos ⟨by omega,hk,h0⟩]
 rw[sec_some this];unfold Dsk.cur;show((waits [] z).getD ((List.replicate _ zsec).getD z zsec))=zsec
 rw[waits_nil,Option.getD_none,List.getD_eq_getElem?_getD,List.getElem?_replicate];split<;>rfl
theorem fresh_small (l:List Nat) (m:Nat):(freshBay l l.length).small m:=fun q hq x hx=>by
 change (if q%3=0/\q/3<l.length/\0<l.getD (q/3) 0 then some (⟨freshDsk (l.getD (q/3) 0),false,0⟩:Dev)else none)=some x at hx;split at hx
 ·simp only [Option.some.injEq]at hx
  subst hx;show 0≤m
  omega
 ·cases hx
open Go.RowKit
theorem xorTo_congr {f g:Nat->Sec} {but:Int}:∀k:Nat,(∀j:Nat,j<k->(j:Int)≠but->f j=g j)->xorTo f but k=xorTo g but k
 |0,_=>rfl
 |k+1,h=>by
  have ih:=xorTo_congr (f:=f) (g:=g) (but:=but) k (fun j hj=>h j (by omega));unfold xorTo;by_cases hb:(k:Int)=but
  ·rw[if_pos hb,if_pos hb,ih]
  ·rw[if_neg hb,if_neg hb,ih,h k (by omega) hb]
theorem xorTo_far (f:Nat->Sec) (but:Int):∀k:Nat,(but<0\/(k:Int)≤but)->xorTo f but k=xorTo f (-1) k
 |0,_=>rfl
 |k+1,h=>by
  have ih:=xorTo_far f but k (by omega);unfold xorTo;rw[if_neg (by omega),if_neg (by omega),ih]
theorem xorTo_out (f:Nat->Sec) (p:Nat) (i:Nat):∀k:Nat,p<k->xorTo f (-1) k i=xorTo f p k i^^^(f p).getD i 0
 |0,h=>by omega
 |k+1,h=>by
  show(if (k:Int)= -1 then _ else fun i=>xorTo f (-1) k i^^^(f k).getD i 0) i=(if (k:Int)=p then xorTo f p k else fun i=>xorTo f p k i^^^(f k).getD i 0) i^^^_
  rw[if_neg (by omega)];by_cases hp:k=p
  ·subst hp
   rw[if_pos rfl,xorTo_far f k k (.inr (by omega))]
  ·have ih:=xorTo_out f p i k (by omega)
   rw[if_neg (by omega)];show xorTo f (-1) k i^^^_=(xorTo f p k i^^^_)^^^_
   rw[ih,UInt8.xor_assoc,UInt8.xor_assoc,UInt8.xor_comm ((f p).getD i 0)]
theorem zsec_at (i:Nat):zsec.getD i 0=0:=by
 unfold zsec;rw[List.getD_eq_getElem?_getD,List.getElem?_replicate];split<;>rfl
theorem xorTo_zero (f:Nat->Sec) (but:Int) (i:Nat):∀k:Nat,(∀j:Nat,j<k->(j:Int)≠but->f j=zsec)->xorTo f but k i=0
 |0,_=>rfl
 |k+1,h=>by
  have ih:=xorTo_zero f but i k (fun j hj=>h j (by omega));unfold xorTo;by_cases hb:(k:Int)=but
  ·rw[if_pos hb,ih]
  ·rw[if_neg hb]
   show xorTo f but k i^^^(f k).getD i 0=0
   rw[ih,h k (by omega) hb,zsec_at];rfl
theorem allZero_nil (s:BaySt) (M:Nat):∀R,(∀r,r<R->allZero (xorTo (fun m=>s.sec m (1+r)) (-1) M) 128)->uneven s M R= []
 |0,_=>rfl
 |r+1,h=>by
  unfold uneven;rw[if_pos (h r (by omega)),allZero_nil s M r (fun q hq=>h q (by omega))]
theorem uneven_one (s:BaySt) (M k:Nat):∀R,k<R->(∀r,r<R->r≠k->allZero (xorTo (fun m=>s.sec m (1+r)) (-1) M) 128)->¬allZero (xorTo (fun m=>s.sec m (1+k)) (-1) M) 128->uneven s M R= [k]
 |0,h,_,_=>by omega
 |r+1,h,h1,h2=>by
  unfold uneven;by_cases hk:r=k
  ·subst hk
   rw[if_neg h2,allZero_nil s M r (fun q hq=>h1 q (by omega) (by omega))];rfl
  ·rw[if_pos (h1 r (by omega) hk),uneven_one s M k r (by omega) (fun q hq=>h1 q (by omega)) h2]
theorem sumL_at3 (f:Nat->UInt8) (n i:Nat) (h:i<n):(sumL f n).getD i 0=f i:=by
 rw[List.getD_eq_getElem?_getD];simp[sumL,h]
theorem sumL_eq {f:Nat->UInt8} {l:List UInt8} {n:Nat} (hl:l.length=n) (h:∀i,i<n->f i=l.getD i 0):sumL f n=l:=by
 apply List.ext_getElem?;intro i;simp only [sumL,List.getElem?_map];by_cases hi:i<n
 ·rw[show(List.range n)[i]?=some i by simp[hi]]
  have:=h i hi;rw[List.getD_eq_getElem?_getD,List.getElem?_eq_getElem (by omega)]at this;rw[List.getElem?_eq_getElem (by omega)];simpa using this
 ·have e:l[i]?=none:=List.getElem?_eq_none (by omega)
  rw[e];simp;omega
theorem xor_zero_eq {a b:UInt8} (h:a^^^b=0):a=b:=by
 have h2:(a^^^b)^^^b=0^^^b:=by rw[h]
 rw[UInt8.xor_assoc,UInt8.xor_self,UInt8.xor_zero,UInt8.zero_xor]at h2;exact h2
theorem lost_even {f:Nat->Sec} {M m:Nat} (hm:m<M) (hl:(f m).length=128) (h:allZero (xorTo f (-1) M) 128):sumL (xorTo f m M) 128=f m:=by
 refine sumL_eq hl fun i hi=>xor_zero_eq ?_
 rw[<-xorTo_out f m i M hm];exact h i hi
theorem xorTo_one {f:Nat->Sec} {m:Nat} {x:Sec} (hm:f m=x) (but:Int) (i:Nat):∀k:Nat,(∀j:Nat,j<k->j≠m->f j=zsec)->xorTo f but k i=if m<k/\(m:Int)≠but then x.getD i 0 else 0
 |0,_=>by rw[if_neg (by omega)];rfl
 |k+1,h=>by
  have ih:=xorTo_one hm but i k (fun j hj=>h j (by omega));unfold xorTo;by_cases hb:(k:Int)=but
  ·rw[if_pos hb,ih]
   by_cases h1:m<k/\(m:Int)≠but
   ·rw[if_pos h1,if_pos ⟨by omega,h1.2⟩]
   ·rw[if_neg h1,if_neg (by omega)]
  ·rw[if_neg hb]
   show xorTo f but k i^^^(f k).getD i 0=_
   rw[ih];by_cases hk:k=m
   ·subst hk
    rw[if_neg (by omega),if_pos ⟨by omega,hb⟩,hm,UInt8.zero_xor]
   ·rw[h k (by omega) hk,zsec_at,UInt8.xor_zero]
    by_cases h1:m<k/\(m:Int)≠but
    ·rw[if_pos h1,if_pos ⟨by omega,h1.2⟩]
    ·rw[if_neg h1,if_neg (by omega)]
theorem mended_even {f g:Nat->Sec} {M p:Nat} (hp:p<M) (hg:g p=sumL (xorTo f p M) 128) (h:∀j,j<M->j≠p->g j=f j):allZero (xorTo g (-1) M) 128:=by
 intro i hi;rw[xorTo_out g p i M hp,hg,sumL_at3 _ _ _ hi,xorTo_congr (f:=g) (g:=f) (but:=(p:Int)) M (fun j hj hne=>h j hj (by omega)),UInt8.xor_self]
open Go.RowKit
structure Fit (s:BaySt) (G:Nat->Prop) (sz:Nat->Nat):Prop where
 dark:s.dark=false
 trip:s.trip= -1
 dev:∀k,k<s.n->G k->∃x,s.pos (k*3)=some x/\CalmDev x (sz k)
theorem Fit.sub {s:BaySt} {G G':Nat->Prop} {sz:Nat->Nat} (h:Fit s G sz) (hG:∀k,G' k->G k):Fit s G' sz:=⟨h.dark,h.trip,fun k hk hg=>h.dev k hk (hG k hg)⟩
theorem Fit.ofCalm {s:BaySt} {sz:Nat->Nat} (h:CalmBay s sz):Fit s (fun _=>True) sz:=⟨h.dark,h.trip,fun k hk _=>h.dev k hk⟩
theorem Fit.ticks {s:BaySt} {G:Nat->Prop} {sz:Nat->Nat} (h:Fit s G sz) (j c:Nat):Fit (s.ticks j c) G sz:=⟨h.dark,h.trip,h.dev⟩
theorem Fit.laid {s:BaySt} {G:Nat->Prop} {sz:Nat->Nat} (h:Fit s G sz) (k:Nat) {y:Dev} (hy:CalmDev y (sz k)):Fit (s.laid (k*3) y) G sz:=by
 refine⟨h.dark,h.trip,fun j hj hg=> ?_⟩;by_cases hjk:j=k
 ·subst hjk;exact⟨y,if_pos rfl,hy⟩
 ·obtain⟨x,h1,h2⟩:=h.dev j hj hg
  exact⟨x,(if_neg (by omega)).trans h1,h2⟩
theorem start_fit {s:BaySt} {G:Nat->Prop} {sz:Nat->Nat} (h:Fit s G sz) (j k:Nat) (hk:k<s.n) {x:Dev} (hx:s.pos (k*3)=some x) (hd:CalmDev x (sz k)):s.start j k=(s.ticks j 1,.inr x):=by
 have hb:s.begun j (k*3) x=s.ticks j 1:=by
  unfold BaySt.begun BaySt.ticks;have e:(fun q=>if q=k*3 then some x else s.pos q)=s.pos:=by
   funext q;by_cases hq:q=k*3
   ·subst hq;rw[if_pos rfl,hx]
   ·rw[if_neg hq]
  rw[e,h.trip,if_neg (by omega)];rfl
 unfold BaySt.start;rw[if_neg (by omega),if_neg (by rw[h.trip];omega),if_neg (by rw[h.dark];simp),show((k:Int)).toNat=k by omega,hx];show(s.begun j (k*3) x.use,_)=_
 rw[use_calm hd,hb]
theorem read_fit {s:BaySt} {G:Nat->Prop} {sz:Nat->Nat} (h:Fit s G sz) (k z:Nat) (hk:k<s.n) (hg:G k) (hz:z<sz k):s.read k z=(0,some (s.sec k z),s.ticks 0 1):=by
 obtain⟨x,h1,h2⟩:=h.dev k hk hg;unfold BaySt.read;rw[start_fit h 0 k hk h1 h2,sec_some h1];show((x.d.read z).1,(x.d.read z).2,s.ticks 0 1)=_
 unfold Dsk.read;rw[if_pos (may_calm h2 hz)];rfl
def BaySt.put (s:BaySt) (k z:Nat) (l:Sec):BaySt:=match s.pos (k*3)with
 |some x=>(s.ticks 1 1).laid (k*3) ⟨{x.d with cache:=x.d.cache++ [(z,l)]},x.worn,x.left⟩
 |none=>s
def BaySt.dried (s:BaySt) (k:Nat):BaySt:=match s.pos (k*3)with
 |some x=>(s.ticks 2 1).laid (k*3) ⟨x.d.settled,x.worn,x.left⟩
 |none=>s
theorem put_some {s:BaySt} {k z:Nat} {l:Sec} {x:Dev} (h:s.pos (k*3)=some x):s.put k z l=(s.ticks 1 1).laid (k*3) ⟨{x.d with cache:=x.d.cache++ [(z,l)]},x.worn,x.left⟩:=by
 unfold BaySt.put;rw[h]
theorem dried_some {s:BaySt} {k:Nat} {x:Dev} (h:s.pos (k*3)=some x):s.dried k=(s.ticks 2 1).laid (k*3) ⟨x.d.settled,x.worn,x.left⟩:=by
 unfold BaySt.dried;rw[h]
theorem write_fit {s:BaySt} {G:Nat->Prop} {sz:Nat->Nat} (h:Fit s G sz) (k z:Nat) (l:Sec) (hk:k<s.n) (hg:G k) (hz:z<sz k) (hl:l.length=128):s.write k z l=(0,s.put k z l):=by
 obtain⟨x,h1,h2⟩:=h.dev k hk hg;have hw:=write_dev_ok (may_calm h2 hz) hl;unfold BaySt.write;rw[start_fit h 1 k hk h1 h2,put_some h1];show((x.d.write z l).1,(s.ticks 1 1).laid (((k:Int)).toNat*3) ⟨(x.d.write z l).2,x.worn,x.left⟩)=_
 rw[hw,show((k:Int)).toNat=k by omega]
theorem flush_fit {s:BaySt} {G:Nat->Prop} {sz:Nat->Nat} (h:Fit s G sz) (k:Nat) (hk:k<s.n) (hg:G k):s.flush k=(0,s.dried k):=by
 obtain⟨x,h1,h2⟩:=h.dev k hk hg;unfold BaySt.flush;rw[start_fit h 2 k hk h1 h2,dried_some h1];show((x.d.flush).1,(s.ticks 2 1).laid (((k:Int)).toNat*3) ⟨(x.d.flush).2,x.worn,x.left⟩)=_
 have:x.d.flush=(0,x.d.settled):=by unfold Dsk.flush;rw[h2.failed,if_neg (by simp)]
 rw[this,show((k:Int)).toNat=k by omega]
structure Put1 (s s':BaySt) (k z:Nat) (l:Sec):Prop where
 n:s'.n=s.n
 c0:s'.cnt 0=s.cnt 0
 c1:s'.cnt 1=s.cnt 1+1
 c2:s'.cnt 2=s.cnt 2
 small:∀m,s.small m->s'.small (m+1)
 sec:∀j q,s'.sec j q=if j=k/\q=z then l else s.sec j q
 pos:∀q,q≠k*3->s'.pos q=s.pos q
 dark:s'.dark=s.dark
 trip:s'.trip=s.trip
theorem put_fit {s:BaySt} {G:Nat->Prop} {sz:Nat->Nat} (h:Fit s G sz) (k z:Nat) (l:Sec) (hk:k<s.n) (hg:G k) (hz:z<sz k) (hl:l.length=128):Fit (s.put k z l) G sz/\Put1 s (s.put k z l) k z l:=by
 obtain⟨x,h1,h2⟩:=h.dev k hk hg;rw[put_some h1];refine⟨(h.ticks 1 1).laid k (h2.written hz hl),rfl,rfl,cnt_ticks s 1 1,rfl,fun m hm=> ?_,fun j q=> ?_,fun q hq=>if_neg hq,rfl,rfl⟩
 ·refine small_pos (s:=s) (i:=k*3) (y:=⟨{x.d with cache:=x.d.cache++ [(z,l)]},x.worn,x.left⟩) (fun i hi y hy=>Nat.le_succ_of_le (hm i hi y hy)) ?_ _ rfl rfl
  have:=hm (k*3) (by omega) x h1;simp only [List.length_append,List.length_singleton];omega
 ·by_cases hj:j=k
  ·subst hj
   rw[sec_laid_same];show({x.d with cache:=x.d.cache++ [(z,l)]}:Dsk).cur q=_
   rw[cur_written,sec_some h1];by_cases hq:q=z
   ·rw[if_pos hq,if_pos ⟨rfl,hq⟩]
   ·rw[if_neg hq,if_neg (fun e=>hq e.2)]
  ·rw[sec_laid_other _ _ _ _ _ hj,if_neg (fun e=>hj e.1)]
   rfl
structure Dry1 (s s':BaySt) (sz:Nat->Nat) (k:Nat):Prop where
 n:s'.n=s.n
 c0:s'.cnt 0=s.cnt 0
 c1:s'.cnt 1=s.cnt 1
 c2:s'.cnt 2=s.cnt 2+1
 small:∀m,s.small m->s'.small m
 sec:∀j q,(j=k->q<sz k)->s'.sec j q=s.sec j q
 pos:∀q,q≠k*3->s'.pos q=s.pos q
 dry:s'.dry k
 dark:s'.dark=s.dark
 trip:s'.trip=s.trip
theorem dried_fit {s:BaySt} {G:Nat->Prop} {sz:Nat->Nat} (h:Fit s G sz) (k:Nat) (hk:k<s.n) (hg:G k):Fit (s.dried k) G sz/\Dry1 s (s.dried k) sz k:=by
 obtain⟨x,h1,h2⟩:=h.dev k hk hg;rw[dried_some h1];refine⟨(h.ticks 2 1).laid k (h2.settled _),rfl,rfl,rfl,cnt_ticks s 2 1,fun m hm=>small_pos (s:=s) (i:=k*3) (y:=⟨x.d.settled,x.worn,x.left⟩) hm (by show 0≤m;omega) _ rfl rfl,fun j q hq=> ?_,fun q hq=>if_neg hq,dry_laid_same rfl,rfl,rfl⟩;by_cases hjk:j=k
 ·subst hjk
  rw[sec_laid_same,sec_some h1];exact settled_calm h2 q (hq rfl)
 ·rw[sec_laid_other _ _ _ _ _ hjk]
  rfl
end Go.Proofs.YtljjjpakcbcioaaGreat
