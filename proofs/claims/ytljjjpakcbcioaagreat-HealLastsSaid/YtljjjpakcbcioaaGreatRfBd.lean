/- Several texts in one: RfA, RfB, RfBa, RfBb, RfBc, RfBd, ScrE. -/
import Derived.Test.YtljjjpakcbcioaaGreatMrg26
set_option linter.unusedVariables false
set_option maxRecDepth 100000
set_option maxHeartbeats 4000000
namespace Go.Proofs.YtljjjpakcbcioaaGreat
open Value renaming int→O,pointer→Zs,slice→Zt
open IntKind renaming i64→Z
open Obj renaming cells→Zv
open Go.RowKit
open Lib(hid)
variable {d:Dsk} {xs:List Value} {B i n p sz:Nat} {D S:Nat->Prop} {e:TypeId} {cv lv v:Value} {W W' w:World}
theorem Zn0(h:w.ownsRow B e sz v n xs):n≤9223372036854775807:=by
 rcases h.2 with ⟨_,h0⟩|⟨g,cap,cur,hv,hb,hg,hc,hm,_⟩
 ·omega
 ·unfold maxLen at hm
  omega
theorem Zft{B':Nat}{t:TypeId}{sz' m g:Nat}{u:Value}{ys:List Value}(h:w.ownsRow B e sz v n xs)(h':w.ownsRow B' t sz' u m ys)(hne:e≠t)(hu:u.ownBlock=some g):v.ownBlock≠some g:=by
 rcases h'.2 with ⟨rfl,_⟩|⟨g',cap,cur,rfl,_,hg,_⟩
 ·cases hu
 ·simp only [Value.ownBlock,Zg]at hu
  subst hu;exact Za2 (cs:=cur) hg h (fun e=>hne e.symm)
abbrev WV:=Nat×Sec×Value
def rwcells(L:List WV):List Value:=L.flatMap fun x=> [O Z (x.1:Int),x.2.2]
def wvs(L:List WV):List (Nat×Sec):=L.map fun x=>(x.1,x.2.1)
theorem Zk7(L:List WV)(x:WV):rwcells (L++ [x])=rwcells L++ [O Z (x.1:Int),x.2.2]:=by simp[rwcells]
theorem Zjp(L:List WV):∀(i:Nat) (hi:i<L.length),(rwcells L)[i*2]?=some (O Z ((L[i].1:Nat):Int))/\(rwcells L)[i*2+1]?=some L[i].2.2:=by
 induction L with
 |nil=>intro i hi;simp at hi
 |cons x L ih=>
  intro i hi;match i with
  |0=>exact⟨rfl,rfl⟩
  |i+1=>
   obtain⟨h1,h2⟩:=ih i (by simpa using hi);refine⟨?_,?_⟩
   ·rw[show(i+1)*2=i*2+1+1 by omega]
    exact h1
   ·rw[show(i+1)*2+1=i*2+1+1+1 by omega]
    exact h2
theorem Ztk(L:List WV)(x:WV):wvs (L++ [x])=wvs L++ [(x.1,x.2.1)]:=by simp[wvs]
theorem Zi3(L:List WV):(wvs L).length=L.length:=by simp[wvs]
structure RDiskIn (W:World) (D:Nat->Prop) (p:Nat) (d:Dsk) (lv cv:Value) (L:List WV):Prop where
 dsk:At W p #[lv,cv,.bool d.failed] 235
 last:W.ownsRow 0 5 1 lv (d.last.length*128) (secCells d.last)
 cache:W.ownsRow 0 274 2 cv L.length (rwcells L)
 eq:d.cache=wvs L
 data:∀x∈L,W.ownsRow 0 5 1 x.2.2 128 (ucells x.2.1)
 inP:D p
 inL:∀g,lv.ownBlock=some g->D g
 inC:∀g,cv.ownBlock=some g->D g
 inD:∀x∈L,∀g,x.2.2.ownBlock=some g->D g
 lt:∀g,D g->g<W.heap.size
 len:∀s∈d.last,s.length=128
 clen:∀x∈d.cache,x.2.length=128
 cin:∀x∈d.cache,x.1<d.last.length
 few:d.last.length≤8192
 some':0<d.last.length
def RDisk(W:World)(D:Nat->Prop)(p:Nat)(d:Dsk):Prop:=∃lv cv L,RDiskIn W D p d lv cv L
theorem RDiskIn.keep{L:List WV}(h:RDiskIn W D p d lv cv L)(hc:Chg S W W')(hS:∀k,D k->¬S k):RDiskIn W' D p d lv cv L:=
 ⟨h.dsk.mod hc (hS p h.inP),Zap h.last hc (fun g hg=>hS g (h.inL g hg)),Zap h.cache hc (fun g hg=>hS g (h.inC g hg)),h.eq,
  fun x hx=>Zap (h.data x hx) hc (fun g hg=>hS g (h.inD x hx g hg)),h.inP,h.inL,h.inC,h.inD,fun g hg=>Zd (h.lt g hg) hc.size,h.len,h.clen,h.cin,h.few,h.some'⟩
theorem RDisk.keep(h:RDisk W D p d)(hc:Chg S W W')(hS:∀k,D k->¬S k):RDisk W' D p d:=by
 obtain⟨lv,cv,L,h⟩:=h;exact⟨lv,cv,L,h.keep hc hS⟩
theorem RDisk.below(h:RDisk W D p d)(hb:Below W.heap.size W W'):RDisk W' D p d:=
 h.keep (Zm hb (fun _=>False)) (fun _ _ h=>h)
theorem RDisk.lt(h:RDisk W D p d):∀g,D g->g<W.heap.size:=by
 obtain⟨_,_,_,h⟩:=h;exact h.lt
def RDPost(w:World)(D:Nat->Prop)(p:Nat)(d':Dsk)(w':World):Prop:=
 ∃D',RDisk w' D' p d'/\(∀q,D' q->D q\/w.heap.size≤q)/\Chg D w w'
theorem Zd2(l m:List Sec):secCells (l++m)=secCells l++secCells m:=by simp[secCells]
theorem Zlm(l:List Sec):∀u∈secCells l,u.oneCell'=true:=by
 intro u hu;simp only [secCells,List.mem_flatMap]at hu;obtain⟨s,_,hs⟩:=hu;exact Za8 s u hs
theorem Zl7{l:List Sec}(h:∀s∈l,s.length=128)(hi:i<l.length)(s:Sec):
  secCells (l.set i s)=(secCells l).take (128*i)++ucells s++(secCells l).drop (128*i+128):=by
 have e:l.set i s=l.take i++s::l.drop (i+1):=by
  rw[List.set_eq_take_append_cons_drop,Zf hi]
 have e0:l=l.take i++l[i]::l.drop (i+1):=by
  rw[List.getElem_cons_drop,List.take_append_drop]
 have hl:(secCells (l.take i)).length=128*i:=by
  rw[Zau (fun x hx=>h x (List.mem_of_mem_take hx)),List.length_take];omega
 have hm:(ucells l[i]).length=128:=by rw[Zag];exact h _ (Zj hi)
 have e1:secCells l=secCells (l.take i)++(ucells l[i]++secCells (l.drop (i+1))):=by
  conv=>lhs;rw[e0]
  rw[Zd2];rfl
 have e2:secCells (s::l.drop (i+1))=ucells s++secCells (l.drop (i+1)):=rfl;rw[e,Zd2,e1,e2];generalize secCells (l.take i)=A at*;generalize secCells (l.drop (i+1))=B at*;generalize ucells l[i]=M at*;have t1:(A++(M++B)).take (128*i)=A:=by rw[<-hl,List.take_left]
 have t2:(A++(M++B)).drop (128*i+128)=B:=by
  rw[<-List.append_assoc];have h3:(A++M).length=128*i+128:=by rw[Zo,hl,hm]
  rw[<-h3,List.drop_left]
 rw[t1,t2,List.append_assoc]
theorem RDiskIn.rows{L:List WV}(h:RDiskIn W D p d lv cv L):
  ∃g c,lv=Zt (some ⟨g,0,none⟩) (d.last.length*128) c/\g<W.heap.size/\d.last.length*128≤c/\∀j,j<d.last.length*128->W.cell? ⟨g,j,none⟩=(secCells d.last)[j]?:=by
 have h2:=h.some';obtain⟨g,c,h3,_,h4,h5,_⟩:=Zb2 h.last (by omega);refine⟨g,c,h3,h4,?_,fun j hj=>h5 j hj⟩;obtain⟨_,hh⟩:=h.last;rcases hh with ⟨_,hh⟩|⟨g',cap,cur,hv,_,_,hc',_⟩
 ·omega
 ·rw[h3]at hv
  simp only [Zn]at hv;omega
open Go.RowKit
theorem Zjx:SliceOf Tryz.prog 233 274 2 32:=SliceOf.mk' (z:=.agg #[.int .i64 0,.slice none 0 0]) Tryz.underlying233 (by decide) (by kernel_rfl) rfl
theorem Zqo(h:RDisk w D p d):
  Calls Tryz.prog 173 #[Zs (some ⟨p,0,none⟩)] w fun e w'=>e=.returned (.tuple #[])/\RDPost w D p ⟨d.last,[],true⟩ w':=by
 obtain⟨lv,cv,L,h⟩:=h;have c1:w.cell? ⟨p,1,none⟩=some cv:=h.dsk.cell 1;have c2:w.cell? ⟨p,2,none⟩=some (.bool d.failed):=h.dsk.cell 2;have f1:=h.dsk.free 1;have f2:=h.dsk.free 2;have HI:=hid h;have HCE:Hid (cv.ownBlock≠some p):=Za2 h.dsk h.cache (by decide);have HLE:Hid (lv.ownBlock≠some p):=Za2 h.dsk h.last (by decide);clear h;go_enter Tryz.func173,Tryz.ntmps173;go_wp2;have hc1:Chg (fun q=>q=p) w (w.setCell ⟨p,2,none⟩ (.bool true)):=Zk (S:=fun q=>q=p) (Zl _ _) ⟨p,2,none⟩ (.inl rfl) _;have hc2:Chg (fun q=>q=p) w ((w.setCell ⟨p,2,none⟩ (.bool true)).setCell ⟨p,1,none⟩ (Zt none 0 0)):=hc1.setCell ⟨p,1,none⟩ (.inl rfl) _;go_end0;refine⟨rfl,D,⟨lv,Zt none 0 0,[],?_⟩,fun q hq=>.inl hq,hc2.mono fun q hq=>hq ▸ HI.out.inP⟩;have H:=HI.out;exact⟨(H.dsk.set 2 (.bool true)).set 1 (Zt none 0 0),Zap H.last hc2 (fun g hg e=>HLE.out (e ▸ hg)),World.ownsRow_nil _ _ _ _,rfl,(fun x hx=>by simp at hx),H.inP,H.inL,(fun g hg=>by simp[Value.ownBlock]at hg),(fun x hx=>by simp at hx),fun g hg=>Zd (H.lt g hg) hc2.size,H.len,(fun x hx=>by simp at hx),(fun x hx=>by simp at hx),H.few,H.some'⟩
theorem Zmq{l:List UInt8}(h:w.ownsRow B 5 1 v 128 (ucells l)):Seg w v l/\l.length=128:=by
 have hl:l.length=128:=by
  have:=h.1;rw[Zag]at this;omega
 rw[<-hl]at h;exact⟨Zao h,hl⟩
open Go.RowKit
theorem Zsm(n:Nat)(w:World)(hn:0<n)(hn2:n≤8192):
  Calls Tryz.prog 89 #[O Z n] w fun e w'=>∃p D,e=.returned (.tuple #[Zs (some ⟨p,0,none⟩),O Z 0])/\RDisk w' D p (freshDsk n)/\(∀q,D q->w.heap.size≤q)/\Below w.heap.size w w':=by
 go_enter Tryz.func89,Tryz.ntmps89;go_wp2_with (refine Zaq rfl _ _ 51 5 1 1 rfl Zat (.int .u8 0) (by kernel_rfl) _ _ _ _ (128*n) rfl rfl (by omega) (by omega) (by omega) (by unfold maxLen;omega) ?_;intro w1 a1 b1;have HA1:=hid a1;have HB1:=hid b1;clear a1 b1);go_ret2;have hb:=HB1.out.alloc (by have:=HB1.out.size;omega) (Zv #[Zt (some ⟨w.heap.size,0,none⟩) (128*n) (128*n),Zt none 0 0,.bool false] 235);have hs:=HB1.out.size;have hlt:=HA1.out.lt;refine⟨w1.heap.size,fun q=>q=w.heap.size\/q=w1.heap.size,rfl,⟨Zt (some ⟨w.heap.size,0,none⟩) (128*n) (128*n),Zt none 0 0,[],?_⟩,fun q hq=>by rcases hq with rfl|rfl<;>omega,hb⟩;refine⟨At.new _ _ _,?_,World.ownsRow_nil _ _ _ _,rfl,fun x hx=>(by simp at hx),.inr rfl,fun g hg=> ?_,fun g hg=>(by simp[Value.ownBlock]at hg),fun x hx=>(by simp at hx),fun g hg=> ?_,fun s hs=> ?_,fun x hx=>(by simp[freshDsk]at hx),fun x hx=>(by simp[freshDsk]at hx),by simp[freshDsk];exact hn2,by simp[freshDsk];exact hn⟩
 ·have e:secCells (freshDsk n).last=List.replicate (128*n) (.int .u8 0):=by
   show secCells (List.replicate n zsec)=_
   rw[Zc0,Nat.mul_comm]
  have el:(freshDsk n).last.length*128=128*n:=by
   show(List.replicate n zsec).length*128=_
   rw[List.length_replicate,Nat.mul_comm]
  rw[e,el];have h1:=(HA1.out.alloc (Zv #[Zt (some ⟨w.heap.size,0,none⟩) (128*n) (128*n),Zt none 0 0,.bool false] 235));refine⟨by simp,.inr ⟨w.heap.size,128*n,_,rfl,Nat.zero_le _,h1,Za _,by unfold maxLen;omega,by simp,?_⟩⟩;simp
 ·simp only [Value.ownBlock,Zg]at hg
  exact .inl hg.symm
 ·rw[Zaa]
  rcases hg with rfl|rfl<;>omega
 ·simp only [freshDsk,List.mem_replicate]at hs
  rw[hs.2];rfl
theorem Zci(l:List Sec):secCells l=ucells l.flatten:=by
 induction l with
 |nil=>rfl
 |cons s l ih=>
  show ucells s++secCells l=ucells (s++l.flatten)
  rw[ih];simp[ucells]
open Go.RowKit
theorem Zt2(w:World)(a b:Value)(t:TypeId):∀ad:Addr,some (⟨w.heap.size,0,none⟩:Addr)=some ad->∀j u,[a,b][j]?=some u->(w.alloc (Zv #[a,b] t)).cell? (ad.add j)=some u:=by
 intro ad had j u hu;obtain rfl:=Option.some.inj had;rw[Addr.add_lit,Nat.zero_add];have h:=(At.new w #[a,b] t).cell j;rw[h];simpa using hu
theorem Zdb(h:w.ownsRow B e sz v n xs):w.ownsRow 0 e sz v n xs:=by
 refine⟨h.1,?_⟩;rcases h.2 with hn|⟨g,cap,cur,hv,hg,r⟩
 ·exact .inl hn
 ·exact .inr ⟨g,cap,cur,hv,Nat.zero_le _,r⟩
theorem Znc(h:RDisk w D p d)(z:Int)(v:Value)(l:List UInt8)(hv:Seg w v l)(hm:d.cache.length≤1000000):
  Calls Tryz.prog 139 #[Zs (some ⟨p,0,none⟩),O Z z,v] w fun e w'=>e=.returned (O Z (((d.write z l).1:Nat):Int))/\RDPost w D p (d.write z l).2 w':=by
 have hsame:RDPost w D p d w:=⟨D,h,fun q hq=>.inl hq,Zl _ _⟩;obtain⟨lv,cv,L,h⟩:=h;obtain⟨g,c,hlv,hg,hcap,hcells⟩:=h.rows;have c0:w.cell? ⟨p,0,none⟩=some lv:=h.dsk.cell 0;have c1:w.cell? ⟨p,1,none⟩=some cv:=h.dsk.cell 1;have c2:w.cell? ⟨p,2,none⟩=some (.bool d.failed):=h.dsk.cell 2;have hfew:=h.few;have HI:=hid h;have HLV:=hid hlv;have HSAME:=hid hsame;rw[hlv]at c0;obtain⟨N,hN⟩:∃N:Nat,N=d.last.length*128:=⟨_,rfl⟩;rw[<-hN]at c0 hcap;obtain⟨n,hn⟩:∃n:Nat,n=d.last.length:=⟨_,rfl⟩;have HNn:=hid hn;have hq:((N:Nat):Int).tdiv 128=(n:Int):=by
  rw[hN,Int.tdiv_eq_ediv_of_nonneg (by omega)];omega
 have hn8:n≤8192:=by omega
 have hNb:N≤1048576:=by omega
 clear h hlv hcells hN hn hfew hsame;have HV:=hid hv;obtain⟨va,vc,rfl⟩:=hv.shape;clear hv;cases hf:d.failed
 ·rw[hf]at c2
  by_cases hz:z<0
  ·have hr:d.write z l=(3,d):=by
    have hmay:d.may z=3:=by unfold Dsk.may;rw[hf,Ze (by simp),Zf (.inl hz)]
    unfold Dsk.write;rw[hmay,Zf (by omega)]
   rw[hr];clear hr;go_enter Tryz.func139,Tryz.ntmps139;go_wp2;go_ret;exact⟨rfl,HSAME.out⟩
  ·by_cases hn:(n:Int)≤z
   ·have hr:d.write z l=(3,d):=by
     have hn':(d.last.length:Int)≤z:=by rw[<-HNn.out];exact hn
     have hmay:d.may z=3:=by unfold Dsk.may;rw[hf,Ze (by simp),Zf (.inr hn')]
     unfold Dsk.write;rw[hmay,Zf (by omega)]
    rw[hr];clear hr;go_enter Tryz.func139,Tryz.ntmps139;go_wp2;go_ret;exact⟨rfl,HSAME.out⟩
   ·obtain⟨i,rfl⟩:∃i:Nat,z=i:=⟨z.toNat,by omega⟩
    have hi0:i<d.last.length:=by rw[<-HNn.out];omega
    have hmay:d.may (i:Int)=0:=by
     unfold Dsk.may;rw[hf,Ze (by simp),Ze (by omega)]
    by_cases hl:l.length=128
    ·have hr:d.write (i:Int) l=(0,{d with cache:=d.cache++ [(i,l)]}):=by
      unfold Dsk.write;rw[hmay,Ze (by omega),Ze (by omega)];rfl
     rw[hr];have HL:=hid hl;have hne:((l.length:Int) !=128)=false:=by simp;omega
     have hm2:L.length≤1000000:=by
      have:=HI.out.eq;rw[this,Zi3]at hm;exact hm
     have HC:=hid HV.out.cells;have hplt:=HI.out.dsk.lt;have hpc:cv.ownBlock≠some p:=Za2 HI.out.dsk HI.out.cache (by decide);have hi:i<n:=by omega
     clear hr hl hmay hm;go_enter Tryz.func139,Tryz.ntmps139
     go_wp2_with (first
      |(refine Zbb rfl _ _ 51 5 1 1 rfl Zat w.heap.size (Zt none 0 0) 0 [] rfl (World.ownsRow_nil _ _ _ _) va l.length vc (ucells l) rfl (by rw[Zag];omega) (fun e=>HC.out.2.1 e) HC.out.2.2 (Za8 _) (by unfold maxLen;have:=HL.out;omega) (by have:=HL.out;omega) (Za _) ?_;intro v1 w1 hown1 hb1 hg1;rw[Nat.zero_add,List.nil_append]at hown1;obtain⟨xa,xc,rfl⟩:=Zab hown1;have HO1:=hid hown1;have HB1:=hid hb1;have d1:w1.cell? ⟨p,1,none⟩=some cv:=(hb1.cell (p:=⟨p,1,none⟩) hplt).trans c1;have hw1:=hb1.size;clear hown1 hb1 hg1)
      |(refine Zar rfl _ _ 233 274 2 32 rfl Zjx 0 cv L.length (rwcells L) rfl ((Zaf HI.out.cache HB1.out (Za _)).alloc _) ⟨w1.heap.size,0,none⟩ 1 1 [O Z i,Zt xa l.length xc] rfl rfl (Zt2 _ _ _ _ _ rfl) (by intro u hu;simp at hu;rcases hu with rfl|rfl<;>rfl) (by unfold maxLen;omega) (by omega) (by omega) (by omega) ?_;intro v2 w2 hown2 hloc2 hch2 hkeep2;have hp2:=((HI.out.dsk.below HB1.out hplt).alloc (Zv #[O Z i,Zt xa l.length xc] 274)).mod hch2 hpc;have f2:=hp2.free 1;have d2:w2.cell? ⟨p,1,none⟩=some cv:=hp2.cell 1;have HP2:=hid hp2;obtain⟨ya,yc,rfl⟩:=Zab hown2;have HO2:=hid hown2;have HC2:=hid hch2;have HK2:=hid hkeep2;have HL2:=hid hloc2;clear hp2 hown2 hch2 hkeep2 hloc2))
     go_ret;have hp3:Chg (fun q=>q=p) w2 (w2.setCell ⟨p,1,none⟩ (Zt ya (L.length+1) yc)):=Zk (S:=fun q=>q=p) (Zl _ _) ⟨p,1,none⟩ (.inl rfl) _;have hal:Chg (fun _=>False) w (w1.alloc (Zv #[O Z i,Zt xa l.length xc] 274)):=(Zm HB1.out _).alloc _;have HIa:=HI.out.keep hal (fun _ _ h=>h);have hD:∀q,cv.ownBlock=some q->D q:=HI.out.inC;have hsz:=HC2.out.size;have hsz3:=hp3.size;rw[Zaa]at hsz;have hall:Chg D w (w2.setCell ⟨p,1,none⟩ (Zt ya (L.length+1) yc)):=((hal.mono (fun _ h=>h.elim)).trans (HC2.out.mono fun q hq=>hD q hq)).trans (hp3.mono fun q hq=>hq ▸ HI.out.inP);have hCrow:(w2.setCell ⟨p,1,none⟩ (Zt ya (L.length+1) yc)).ownsRow 0 274 2 (Zt ya (L.length+1) yc) (L.length+1) (rwcells L++ [O Z i,Zt xa l.length xc]):=Zap HO2.out hp3 (fun q hq e=>Za2 HP2.out HO2.out (by decide) (e ▸ hq));have hXrow:w1.ownsRow 0 5 1 (Zt xa l.length xc) 128 (ucells l):=by
      have:=Zdb HO1.out;rw[HL.out]at this;rw[HL.out];exact this
     have hXrow2:(w2.setCell ⟨p,1,none⟩ (Zt ya (L.length+1) yc)).ownsRow 0 5 1 (Zt xa l.length xc) 128 (ucells l):=by
      have h1:=hXrow.alloc (Zv #[O Z i,Zt xa l.length xc] 274);have h2:=Zap h1 HC2.out (fun q hq e=>Zft h1 HIa.cache (by decide) e hq);exact Zap h2 hp3 (fun q hq e=>Za2 HP2.out h2 (by decide) (e ▸ hq))
     have hxlt:∀q,(Value.slice xa l.length xc).ownBlock=some q->w.heap.size≤q/\q<w1.heap.size:=fun q hq=>HO1.out.lt q hq
     have hylt:∀q,(Value.slice ya (L.length+1) yc).ownBlock=some q->D q\/(w.heap.size≤q/\q<(w2.setCell ⟨p,1,none⟩ (Zt ya (L.length+1) yc)).heap.size):=fun q hq=>by
      rcases HL2.out with e|e
      ·rw[e]at hq;exact .inl (hD q hq)
      ·rw[e]at hq
       obtain rfl:=Option.some.inj hq;exact .inr ⟨by rw[Zaa];omega,by rw[Zaa];have:=(HO2.out.lt _ e).2;rw[Zaa]at this;omega⟩
     refine⟨rfl,fun q=>D q\/(w.heap.size≤q/\q<(w2.setCell ⟨p,1,none⟩ (Zt ya (L.length+1) yc)).heap.size),⟨lv,Zt ya (L.length+1) yc,L++ [(i,l,Zt xa l.length xc)],?_⟩,fun q hq=> ?_,hall⟩
     ·have H:=HI.out
      refine⟨?_,?_,?_,?_,?_,.inl H.inP,fun q hq=>.inl (H.inL q hq),hylt,?_,?_,H.len,?_,?_,H.few,H.some'⟩
      ·have:=HP2.out.set 1 (Zt ya (L.length+1) yc)
       rw[hf]at this;exact this
      ·have h2:=Zap HIa.last HC2.out (fun q hq e=>Zft HIa.last HIa.cache (by decide) e hq)
       exact Zap h2 hp3 (fun q hq e=>Za2 HP2.out h2 (by decide) (e ▸ hq))
      ·rw[Zk7,Zo,List.length_singleton]
       exact hCrow
      ·rw[Ztk,<-H.eq]
      ·intro x hx
       rcases List.mem_append.1 hx with hx|hx
       ·have h1:=HIa.data x hx
        have h2:=Zap h1 HC2.out (fun q hq e=>Zft h1 HIa.cache (by decide) e hq);exact Zap h2 hp3 (fun q hq e=>Za2 HP2.out h2 (by decide) (e ▸ hq))
       ·rw[List.mem_singleton]at hx
        subst hx;exact hXrow2
      ·intro x hx q hq
       rcases List.mem_append.1 hx with hx|hx
       ·exact .inl (H.inD x hx q hq)
       ·rw[List.mem_singleton]at hx
        subst hx;have:=hxlt q hq;exact .inr ⟨this.1,by omega⟩
      ·intro q hq
       rcases hq with hq|hq
       ·have:=H.lt q hq
        exact Zd this hall.size
       ·exact hq.2
      ·intro x hx
       rcases List.mem_append.1 hx with hx|hx
       ·exact H.clen x hx
       ·rw[List.mem_singleton]at hx
        subst hx;exact HL.out
      ·intro x hx
       rcases List.mem_append.1 hx with hx|hx
       ·exact H.cin x hx
       ·rw[List.mem_singleton]at hx
        subst hx;exact hi0
     ·rcases hq with hq|hq
      ·exact .inl hq
      ·exact .inr hq.1
    ·have hr:d.write (i:Int) l=(4,d):=by
      unfold Dsk.write;rw[hmay,Ze (by omega),Zf hl]
     rw[hr];have hne:((l.length:Int) !=128)=true:=by simp;omega
     clear hr hl hmay;go_enter Tryz.func139,Tryz.ntmps139;go_wp2;go_ret;exact⟨rfl,HSAME.out⟩
 ·rw[hf]at c2
  have hr:d.write z l=(2,d):=by
   have hmay:d.may z=2:=by unfold Dsk.may;rw[hf,Zf rfl]
   unfold Dsk.write;rw[hmay,Zf (by omega)]
  rw[hr];clear hr;go_enter Tryz.func139,Tryz.ntmps139;go_wp2;go_ret;exact⟨rfl,HSAME.out⟩
end Go.Proofs.YtljjjpakcbcioaaGreat
namespace Go
open Value renaming int→O,pointer→Zs,slice→Zt
open IntKind renaming i64→Z
open Obj renaming cells→Zv
open Go.RowKit
open Lib(hid)
section
variable {P:Program}
theorem Zda{o:Oper}{a:Act}{K:Act->World->Prop}{Q:Exit->Act->World->Prop}{w:World}(s x:Operand)(t e:TypeId)(size bytes:Nat)
  (hop:o.op=Op.call {callee:=Callee.builtin Builtin.append,args:= #[s,x],argTypes:= #[t,t]}) (hT:SliceOf P t e size bytes)
  (base:Nat) (v:Value) (n:Nat) (xs:List Value) (hs:a.eval s=v) (hown:w.ownsRow base e size v n xs) (ad:Addr) (m c:Nat) (news:List Value) (hx:a.eval x=Zt (some ad) m c) (hn:news.length=m*size)
  (hc:∀j u,news[j]?=some u->w.cell? (ad.add j)=some u) (h1c:∀u∈news,u.oneCell'=true)
  (h63:n+m≤maxLen) (hbytes:(n+m)*bytes≤140737488355328) (hbase:base≤w.heap.size)
  (hK:∀v' w',w'.ownsRow base e size v' (n+m) (xs++news)->Below base w w'->w.grownBy w' v.ownBlock->(v'.ownBlock=v.ownBlock\/v'.ownBlock=some w.heap.size)->K (a.put o.dst v') w'):
  o.wp P a w K Q:=by
 obtain⟨h1,h0,i,z,h2,h3,h4,h5,h6⟩:=hT;obtain⟨v',w',hr,k1,k2,_,k4⟩:=run_append_own_at (P:=P) w base t o.type e i z size bytes h1 h2 h3 h4 h5 h6 h0 v n xs hown ad m c news hn hc h1c h63 hbytes hbase;unfold Oper.wp execOp;simp only [hop,resolve,invoke,builtin,Sem.run_bind,Sem.run_pure,Result.andThen_ok,List.map_toArray,List.map_cons,List.map_nil,hs,hx,hr];exact hK v' w' k1 ((Zb _ _).grown k2 hbase (fun k hk=>(hown.lt k hk).1)) k2 k4
end
end Go
namespace Go.Proofs.YtljjjpakcbcioaaGreat
open Value renaming int→O,pointer→Zs,slice→Zt
open IntKind renaming i64→Z
open Obj renaming cells→Zv
open Go.RowKit
open Lib(hid)
variable {d:Dsk} {xs:List Value} {B i n p sz:Nat} {D S:Nat->Prop} {e:TypeId} {cv lv v:Value} {W W' w:World}
theorem Znq{L:List WV}(h:RDiskIn w D p d lv cv L)(i:Nat)(hi:i<d.last.length)(va:Option Addr)(vc:Nat)(s:Sec)(hv:Seg w (Zt va 128 vc) s):
  Calls Tryz.prog 212 #[Zs (some ⟨p,0,none⟩),.agg #[O Z i,Zt va 128 vc]] w fun e w'=>e=.returned (.tuple #[])/\
   ∃D' lv',RDiskIn w' D' p ⟨d.last.set i s,d.cache,d.failed⟩ lv' cv L/\(∀q,D' q->D q\/w.heap.size≤q)/\Chg (fun q=>q=p) w w':=by
 obtain⟨g,c,hlv,hg,hcap,hcells⟩:=h.rows;have c0:w.cell? ⟨p,0,none⟩=some lv:=h.dsk.cell 0;have hfew:=h.few;have HI:=hid h;have HLV:=hid hlv;rw[hlv]at c0;obtain⟨N,hN⟩:∃N:Nat,N=d.last.length*128:=⟨_,rfl⟩;rw[<-hN]at c0 hcap hcells;have hb1:128*i+128≤N:=by omega
 have hNb:N≤1048576:=by omega
 have hi8:i<8192:=by omega
 have hplt:=h.dsk.lt;have HV:=hid hv;have hA:At (w.alloc (Zv #[O Z i,Zt va 128 vc] 274)) w.heap.size #[O Z i,Zt va 128 vc] 274:=At.new _ _ _;have b0:(w.alloc (Zv #[O Z i,Zt va 128 vc] 274)).cell? ⟨w.heap.size,0,none⟩=some (O Z i):=hA.cell 0;have b1:(w.alloc (Zv #[O Z i,Zt va 128 vc] 274)).cell? ⟨w.heap.size,1,none⟩=some (Zt va 128 vc):=hA.cell 1;have HBL:Hid (Below w.heap.size w (w.alloc (Zv #[O Z i,Zt va 128 vc] 274))):=(Zb _ _).alloc (Za _) _;have a0:(w.alloc (Zv #[O Z i,Zt va 128 vc] 274)).cell? ⟨p,0,none⟩=some (Zt (some ⟨g,0,none⟩) N c):=(HBL.out.cell (p:=⟨p,0,none⟩) hplt).trans c0;have hz0:(w.alloc (Zv #[O Z i,Zt va 128 vc] 274)).heap.size=w.heap.size+1:=Zaa _ _;have HZ0:=hid hz0;have hle:∀x∈secCells d.last,x.oneCell'=true:=Zlm _;have hlen:(secCells d.last).length=N:=by rw[Zau h.len,hN]
 have HP:Hid (secCells (d.last.set i s)=(secCells d.last).take (128*i)++ucells s++(secCells d.last).drop (128*i+128)):=Zl7 h.len hi s;generalize hC:secCells d.last=C at*;have HT1:Hid ((C.take (128*i)).length=128*i*1):=by show _=_;rw[List.length_take];omega
 have HT2:Hid ((C.drop (128*i+128)).length=(N-(128*i+128))*1):=by show _=_;rw[List.length_drop];omega
 have HO1:Hid (∀u∈C.take (128*i),u.oneCell'=true):=fun u hu=>hle u (List.mem_of_mem_take hu)
 have HO2:Hid (∀u∈C.drop (128*i+128),u.oneCell'=true):=fun u hu=>hle u (List.mem_of_mem_drop hu)
 have HS1:Hid (∀W:World,Below w.heap.size w W->∀j u,(C.take (128*i))[j]?=some u->W.cell? ((⟨g,0,none⟩:Addr).add j)=some u):=fun W hW j u hu=>by
  have hj:=(List.getElem?_eq_some_iff.1 hu).1;rw[List.length_take]at hj;rw[List.getElem?_take,Zf (by omega)]at hu;rw[Addr.add_lit,Nat.zero_add];exact(hW.cell (p:=⟨g,j,none⟩) hg).trans ((hcells j (by omega)).trans hu)
 have HS2:Hid (∀W:World,Below w.heap.size w W->∀j u,(C.drop (128*i+128))[j]?=some u->W.cell? ((⟨g,128*i+128,none⟩:Addr).add j)=some u):=fun W hW j u hu=>by
  have hj:=(List.getElem?_eq_some_iff.1 hu).1;rw[List.length_drop]at hj;rw[List.getElem?_drop]at hu;rw[Addr.add_lit];exact(hW.cell (p:=⟨g,128*i+128+j,none⟩) hg).trans ((hcells (128*i+128+j) (by omega)).trans hu)
 have HEND:Hid (∀(w3:World) (va3:Option Addr) (vc3:Nat),Below w.heap.size w w3->Below (w.heap.size+1) (w.alloc (Zv #[O Z i,Zt va 128 vc] 274)) w3->
   w3.ownsRow (w.heap.size+1) 5 1 (Zt va3 N vc3) N (C.take (128*i)++ucells s++C.drop (128*i+128))->At w3 p #[lv,cv,.bool d.failed] 235->
   ∃D' lv',RDiskIn (w3.setCell ⟨p,0,none⟩ (Zt va3 N vc3)) D' p ⟨d.last.set i s,d.cache,d.failed⟩ lv' cv L/\(∀q,D' q->D q\/w.heap.size≤q)/\Chg (fun q=>q=p) w (w3.setCell ⟨p,0,none⟩ (Zt va3 N vc3))):=by
  intro w3 va3 vc3 q1 q2 q3 q4;rw[<-HP.out]at q3;rw[hN]at q3 ⊢;have hst:Chg (fun q=>q=p) w3 (w3.setCell ⟨p,0,none⟩ (Zt va3 (d.last.length*128) vc3)):=Zk (S:=fun q=>q=p) (Zl _ _) ⟨p,0,none⟩ (.inl rfl) _;have hall:Chg (fun q=>q=p) w (w3.setCell ⟨p,0,none⟩ (Zt va3 (d.last.length*128) vc3)):=(Zm q1 _).trans hst;have H:=h;have hk:=h.keep (Zm q1 (fun _=>False)) (fun _ _ h=>h);have hsl:=HV.out.cells.1;have hlen2:(d.last.set i s).length=d.last.length:=List.length_set;refine⟨fun q=>D q\/(w.heap.size≤q/\q<w3.heap.size),Zt va3 (d.last.length*128) vc3,⟨?_,?_,?_,H.eq,?_,.inl H.inP,?_,fun q hq=>.inl (H.inC q hq),fun x hx q hq=>.inl (H.inD x hx q hq),?_,?_,H.clen,?_,?_,?_⟩,?_,hall⟩
  ·exact q4.set 0 _
  ·have q5:=Zap q3 hst (fun q hq e=>Za2 q4 q3 (by decide) (e ▸ hq))
   show World.ownsRow _ 0 _ 1 _ ((d.last.set i s).length*128) _
   rw[hlen2];exact Zdb q5
  ·exact Zap hk.cache hst (fun q hq e=>Za2 q4 hk.cache (by decide) (e ▸ hq))
  ·intro x hx
   exact Zap (hk.data x hx) hst (fun q hq e=>Za2 q4 (hk.data x hx) (by decide) (e ▸ hq))
  ·intro q hq
   have:=q3.lt q hq;exact .inr ⟨by omega,this.2⟩
  ·intro q hq
   have:=hst.size;rcases hq with hq|hq
   ·exact Zd (hk.lt q hq) this
   ·omega
  ·intro x hx
   rcases List.mem_or_eq_of_mem_set hx with hx|hx
   ·exact H.len x hx
   ·rw[hx];omega
  ·intro x hx
   show x.1<(d.last.set i s).length
   rw[hlen2];exact H.cin x hx
  ·show(d.last.set i s).length≤8192
   rw[hlen2];exact H.few
  ·show 0<(d.last.set i s).length
   rw[hlen2];exact H.some'
  ·intro q hq
   rcases hq with hq|hq
   ·exact .inl hq
   ·exact .inr hq.1
 have HNI:Hid ((128:Int)*(i:Int)=((128*i:Nat):Int)):=by show _=_;omega
 have hc0:¬c=0:=by omega
 have hi1:(0:Int)≤128*(i:Int):=by omega
 have hi2:128*(i:Int)≤(c:Int):=by omega
 have hi3:128*(i:Int)≤(N:Int):=by omega
 have hw1:RowKit.wrap64 (128*(i:Int))=128*(i:Int):=IntWalk.wrap64_in _ ⟨by omega,by omega⟩;have hw2:IntKind.i64.wrap (128*(i:Int))=128*(i:Int):=(IntWalk.i64_left _).trans (IntWalk.wrap64_in _ ⟨by omega,by omega⟩);have HSA:Hid ((w.alloc (Zv #[O Z i,Zt va 128 vc] 274)).drew.cell? ⟨p,0,none⟩=some (Zt (some ⟨g,0,none⟩) N c)/\(w.alloc (Zv #[O Z i,Zt va 128 vc] 274)).drew.cell? ⟨w.heap.size,0,none⟩=some (O Z i)):=⟨a0,b0⟩;have HWL:Hid (∀W:World,Below (w.heap.size+1) (w.alloc (Zv #[O Z i,Zt va 128 vc] 274)) W->Below w.heap.size w W/\W.cell? ⟨p,0,none⟩=some (Zt (some ⟨g,0,none⟩) N c)/\W.cell? ⟨w.heap.size,0,none⟩=some (O Z i)/\W.cell? ⟨w.heap.size,1,none⟩=some (Zt va 128 vc)):=fun W hW=>by
  refine⟨HBL.out.trans (hW.mono (by omega)),?_,?_,?_⟩
  ·exact(hW.cell (p:=⟨p,0,none⟩) (by show p<_;omega)).trans a0
  ·exact(hW.cell (p:=⟨w.heap.size,0,none⟩) (by show w.heap.size<_;omega)).trans b0
  ·exact(hW.cell (p:=⟨w.heap.size,1,none⟩) (by show w.heap.size<_;omega)).trans b1
 have HDR:Hid (Below w.heap.size w (w.alloc (Zv #[O Z i,Zt va 128 vc] 274)).drew):=HBL.out.drew;have HEQ:Hid (Below (w.heap.size+1) (w.alloc (Zv #[O Z i,Zt va 128 vc] 274)) (w.alloc (Zv #[O Z i,Zt va 128 vc] 274)).drew):=(Zb _ _).drew;clear h hlv hA hv hfew c0 hle hlen hcells hz0 hN;go_enter Tryz.func212,Tryz.ntmps212;go_wp2;go_region_held3 (fun w'=>w'.cell? ⟨p,0,none⟩=some (Zt (some ⟨g,0,none⟩) N c)/\w'.cell? ⟨w.heap.size,0,none⟩=some (O Z i))
  (first|with_reducible exact HSA.out|with_reducible exact HSB)
  (first
   |(rw[Zf (by rfl)];refine Zda _ _ 51 5 1 1 rfl Zat (w.heap.size+1) (Zt none 0 0) 0 [] rfl (World.ownsRow_nil _ _ _ _) ⟨g,0,none⟩ (128*i) c (C.take (128*i)) rfl HT1.out (HS1.out _ HDR.out) HO1.out (by unfold maxLen;omega) (by omega) (Nat.le_of_eq HZ0.out.symm) ?_;intro v1 w1 hown1 hb1 hg1 hloc1;rw[Nat.zero_add,List.nil_append]at hown1;have HW1:=hid (HWL.out w1 (HEQ.out.trans hb1));have HSB:w1.cell? ⟨p,0,none⟩=some (Zt (some ⟨g,0,none⟩) N c)/\w1.cell? ⟨w.heap.size,0,none⟩=some (O Z i):=⟨HW1.out.2.1,HW1.out.2.2.1⟩;have HO3:=hid hown1;have HB3:=hid (HEQ.out.trans hb1);clear hown1 hb1 hg1 hloc1))
 have d1:=HW1.out.2.2.2;have hz1:w.heap.size+1≤w1.heap.size:=by have:=HB3.out.size;have:=HZ0.out;omega
 have hj1:(0:Int)≤128*(i:Int)+128:=by omega
 have hj2:128*(i:Int)+128≤(N:Int):=by omega
 have hj3:(N:Int)≤(c:Int):=by omega
 have hj4:128*(i:Int)+128≤(c:Int):=by omega
 have hw3:RowKit.wrap64 (128*(i:Int)+128)=128*(i:Int)+128:=IntWalk.wrap64_in _ ⟨by omega,by omega⟩;have hw4:IntKind.i64.wrap (128*(i:Int)+128)=128*(i:Int)+128:=(IntWalk.i64_left _).trans (IntWalk.wrap64_in _ ⟨by omega,by omega⟩);have HC1:=hid (HV.out.below HW1.out.1).cells;go_wp2_with (refine Zbb rfl _ _ 51 5 1 1 rfl Zat (w.heap.size+1) v1 (128*i) _ rfl HO3.out va 128 vc (ucells s) rfl (by rw[Zag,<-HC1.out.1]) (fun e=>by have h1:=HC1.out.1;have h2:=HC1.out.2.1 e;omega) HC1.out.2.2 (Za8 _) (by unfold maxLen;omega) (by omega) hz1 ?_;intro v2 w2 hown2 hb2 hg2;have HW2:=hid (HWL.out w2 (HB3.out.trans hb2));have HO4:=hid hown2;have HB4:=hid (HB3.out.trans hb2);have e0:w2.cell? ⟨p,0,none⟩=some (Zt (some ⟨g,0,none⟩) N c):=HW2.out.2.1;have e1:w2.cell? ⟨w.heap.size,0,none⟩=some (O Z i):=HW2.out.2.2.1;have hz2:=hb2.size;clear hown2 hb2 hg2);have HSC:Hid (w2.drew.cell? ⟨w.heap.size,0,none⟩=some (O Z i)):=HW2.out.2.2.1;have e0d:w2.drew.cell? ⟨p,0,none⟩=some (Zt (some ⟨g,0,none⟩) N c):=HW2.out.2.1;have hz3:w.heap.size+1≤w2.drew.heap.size:=by show _≤w2.heap.size;omega
 have HB5:Hid (Below (w.heap.size+1) (w.alloc (Zv #[O Z i,Zt va 128 vc] 274)) w2.drew):=HB4.out.drew;have HDP:Hid (At w2.drew p #[lv,cv,.bool d.failed] 235):=HI.out.dsk.below HW2.out.1.drew hplt;have ht:(128*(i:Int)+128).toNat=128*i+128:=by omega
 by_cases hce:c=128*i+128
 focus
  have hN2:N-(128*i+128)=0:=by omega
  have HSRC:Hid (∀j u,(C.drop (128*i+128))[j]?=some u->w2.drew.cell? ((⟨g,0,none⟩:Addr).add j)=some u):=fun j u hu=>by
   have h1:=(List.getElem?_eq_some_iff.1 hu).1;have h2:=HT2.out;omega
  refine wp_region_held_drew (S := fun w' => w'.cell? ⟨w.heap.size, 0, none⟩ = some (O Z i)) (by kernel_rfl) HSC.out (fun hHeld => ?_)
  refine Zq (i := 0) (v := (Zs (some ⟨p, 0, none⟩))) rfl (by kernel_rfl) (by kernel_rfl) (by kernel_rfl) (fun _ _ _ h => h) (Or.inl ⟨by rfl, fun w hSw => by go_simp⟩) hHeld ?_
  (try simp only [Act.put, List.setIfInBounds_toArray, List.set_cons_zero, List.set_cons_succ, List.getElem_toArray, List.getElem_cons_zero])
  refine Zq (i := 1) (v := (v2)) rfl (by kernel_rfl) (by kernel_rfl) (by kernel_rfl) (fun _ _ _ h => h) (Or.inl ⟨by rfl, fun w hSw => by go_simp⟩) hHeld ?_
  (try simp only[Act.put,Zx])
  refine Zq (i := 2) (v := (Zs (some ⟨p, 0, none⟩))) rfl (by kernel_rfl) (by kernel_rfl) (by kernel_rfl) (fun _ _ _ h => h) (Or.inl ⟨by rfl, fun w hSw => by go_simp⟩) hHeld ?_
  (try simp only[Act.put,Zx])
  refine Zq (i := 3) (v := (Zs (some ⟨p, 0, none⟩))) rfl (by kernel_rfl) (by kernel_rfl) (by kernel_rfl) (fun _ _ _ h => h) (Or.inl ⟨by rfl, fun w hSw => by go_simp⟩) hHeld ?_
  (try simp only[Act.put,Zx])
  refine Zq (i := 4) (v := (Zs (some ⟨p, 0, none⟩))) rfl (by kernel_rfl) (by kernel_rfl) (by kernel_rfl) (fun _ _ _ h => h) (Or.inl ⟨by rfl, fun w hSw => by go_simp⟩) hHeld ?_
  (try simp only[Act.put,Zx])
  refine Zq (i := 6) (v := (Zs (some ⟨w.heap.size, 0, none⟩))) rfl (by kernel_rfl) (by kernel_rfl) (by kernel_rfl) (fun _ _ _ h => h) (Or.inl ⟨by rfl, fun w hSw => by go_simp⟩) hHeld ?_
  (try simp only[Act.put,Zx])
  refine Zq (i := 7) (v := (O Z (i : Int))) rfl (by kernel_rfl) (by kernel_rfl) (by kernel_rfl) (fun _ _ _ h => h) (Or.inl ⟨by rfl, fun w hSw => by go_simp⟩) hHeld ?_
  (try simp only[Act.put,Zx])
  refine Zq (i := 8) (v := (O Z (128 * (i : Int)))) rfl (by kernel_rfl) (by kernel_rfl) (by kernel_rfl) (fun _ _ _ h => h) (Or.inl ⟨by rfl, fun w hSw => by go_simp⟩) hHeld ?_
  (try simp only[Act.put,Zx])
  refine Zq (i := 9) (v := (O Z (128 * (i : Int) + 128))) rfl (by kernel_rfl) (by kernel_rfl) (by kernel_rfl) (fun _ _ _ h => h) (Or.inl ⟨by rfl, fun w hSw => by go_simp⟩) hHeld ?_
  (try simp only[Act.put,Zx])
  refine wpAnyH_ready (rs := [5]) (by kernel_rfl) (by simp) ?_
  refine AllReadyH.cons (o := { dst := some 24, op := Op.load 51 (Operand.tmp 23), type := 51, pos := "ref.go:86", after := #[{ on := 4, ground := Ground.data }], guard := none }) rfl (fun K hK => ?_) AllReadyH.nil
  go_simp
  refine hK.out _ _ HSC.out (fun hHeld => ?_)
  clear hK K
  (try simp only[Act.put,Zx])
  refine Zq (i := 10) (v := (Zt (some ⟨g, 0, none⟩) (N - (128 * i + 128)) (c - (128 * i + 128)))) rfl (by kernel_rfl) (by kernel_rfl) (by kernel_rfl) (fun _ _ _ h => h) (Or.inl ⟨by rfl, fun w hSw => by go_simp⟩) hHeld ?_
  (try simp only[Act.put,Zx])
  refine wpAnyH_ready (rs := [11]) (by kernel_rfl) (by simp) ?_
  refine AllReadyH.cons (o := { dst := some 30, op := Op.call { callee := Callee.builtin Builtin.append, args := #[Operand.tmp 20, Operand.tmp 29], argTypes := #[51, 51] }, type := 51, pos := "ref.go:86", after := #[{ on := 1, ground := Ground.data }, { on := 10, ground := Ground.data }], guard := none }) rfl (fun K hK => ?_) AllReadyH.nil
  rw [Zf (by rfl)]
  refine Zda _ _ 51 5 1 1 rfl Zat (w.heap.size + 1) v2 (128 * i + 128) _ rfl HO4.out ⟨g, 0, none⟩ (N - (128 * i + 128)) (c - (128 * i + 128)) (C.drop (128 * i + 128)) rfl HT2.out HSRC.out HO2.out (by unfold maxLen; omega) (by omega) hz3 ?_
 rotate_left
 focus
  have HSRC:=hid (HS2.out _ HW2.out.1.drew)
  refine wp_region_held_drew (S := fun w' => w'.cell? ⟨w.heap.size, 0, none⟩ = some (O Z i)) (by kernel_rfl) HSC.out (fun hHeld => ?_)
  refine Zq (i := 0) (v := (Zs (some ⟨p, 0, none⟩))) rfl (by kernel_rfl) (by kernel_rfl) (by kernel_rfl) (fun _ _ _ h => h) (Or.inl ⟨by rfl, fun w hSw => by go_simp⟩) hHeld ?_
  (try simp only [Act.put, List.setIfInBounds_toArray, List.set_cons_zero, List.set_cons_succ, List.getElem_toArray, List.getElem_cons_zero])
  refine Zq (i := 1) (v := (v2)) rfl (by kernel_rfl) (by kernel_rfl) (by kernel_rfl) (fun _ _ _ h => h) (Or.inl ⟨by rfl, fun w hSw => by go_simp⟩) hHeld ?_
  (try simp only[Act.put,Zx])
  refine Zq (i := 2) (v := (Zs (some ⟨p, 0, none⟩))) rfl (by kernel_rfl) (by kernel_rfl) (by kernel_rfl) (fun _ _ _ h => h) (Or.inl ⟨by rfl, fun w hSw => by go_simp⟩) hHeld ?_
  (try simp only[Act.put,Zx])
  refine Zq (i := 3) (v := (Zs (some ⟨p, 0, none⟩))) rfl (by kernel_rfl) (by kernel_rfl) (by kernel_rfl) (fun _ _ _ h => h) (Or.inl ⟨by rfl, fun w hSw => by go_simp⟩) hHeld ?_
  (try simp only[Act.put,Zx])
  refine Zq (i := 4) (v := (Zs (some ⟨p, 0, none⟩))) rfl (by kernel_rfl) (by kernel_rfl) (by kernel_rfl) (fun _ _ _ h => h) (Or.inl ⟨by rfl, fun w hSw => by go_simp⟩) hHeld ?_
  (try simp only[Act.put,Zx])
  refine Zq (i := 6) (v := (Zs (some ⟨w.heap.size, 0, none⟩))) rfl (by kernel_rfl) (by kernel_rfl) (by kernel_rfl) (fun _ _ _ h => h) (Or.inl ⟨by rfl, fun w hSw => by go_simp⟩) hHeld ?_
  (try simp only[Act.put,Zx])
  refine Zq (i := 7) (v := (O Z (i : Int))) rfl (by kernel_rfl) (by kernel_rfl) (by kernel_rfl) (fun _ _ _ h => h) (Or.inl ⟨by rfl, fun w hSw => by go_simp⟩) hHeld ?_
  (try simp only[Act.put,Zx])
  refine Zq (i := 8) (v := (O Z (128 * (i : Int)))) rfl (by kernel_rfl) (by kernel_rfl) (by kernel_rfl) (fun _ _ _ h => h) (Or.inl ⟨by rfl, fun w hSw => by go_simp⟩) hHeld ?_
  (try simp only[Act.put,Zx])
  refine Zq (i := 9) (v := (O Z (128 * (i : Int) + 128))) rfl (by kernel_rfl) (by kernel_rfl) (by kernel_rfl) (fun _ _ _ h => h) (Or.inl ⟨by rfl, fun w hSw => by go_simp⟩) hHeld ?_
  (try simp only[Act.put,Zx])
  refine wpAnyH_ready (rs := [5]) (by kernel_rfl) (by simp) ?_
  refine AllReadyH.cons (o := { dst := some 24, op := Op.load 51 (Operand.tmp 23), type := 51, pos := "ref.go:86", after := #[{ on := 4, ground := Ground.data }], guard := none }) rfl (fun K hK => ?_) AllReadyH.nil
  go_simp
  refine hK.out _ _ HSC.out (fun hHeld => ?_)
  clear hK K
  (try simp only[Act.put,Zx])
  refine Zq (i := 10) (v := (Zt (some ⟨g, 128 * i + 128, none⟩) (N - (128 * i + 128)) (c - (128 * i + 128)))) rfl (by kernel_rfl) (by kernel_rfl) (by kernel_rfl) (fun _ _ _ h => h) (Or.inl ⟨by rfl, fun w hSw => by go_simp⟩) hHeld ?_
  (try simp only[Act.put,Zx])
  refine wpAnyH_ready (rs := [11]) (by kernel_rfl) (by simp) ?_
  refine AllReadyH.cons (o := { dst := some 30, op := Op.call { callee := Callee.builtin Builtin.append, args := #[Operand.tmp 20, Operand.tmp 29], argTypes := #[51, 51] }, type := 51, pos := "ref.go:86", after := #[{ on := 1, ground := Ground.data }, { on := 10, ground := Ground.data }], guard := none }) rfl (fun K hK => ?_) AllReadyH.nil
  rw [Zf (by rfl)]
  refine Zda _ _ 51 5 1 1 rfl Zat (w.heap.size + 1) v2 (128 * i + 128) _ rfl HO4.out ⟨g, 128 * i + 128, none⟩ (N - (128 * i + 128)) (c - (128 * i + 128)) (C.drop (128 * i + 128)) rfl HT2.out HSRC.out HO2.out (by unfold maxLen; omega) (by omega) hz3 ?_
 rotate_left
 all_goals
  intro v3 w3 hown3 hb3 hg3 hloc3
  rw [show 128 * i + 128 + (N - (128 * i + 128)) = N by omega] at hown3
  have HB6 := hid (HB5.out.trans hb3)
  have HW3 := hid (HWL.out w3 HB6.out)
  have hp3 : At w3 p #[lv, cv, .bool d.failed] 235 := HI.out.dsk.below HW3.out.1 hplt
  have p0 : w3.cell? ⟨p, 0, none⟩ = some (Zt (some ⟨g, 0, none⟩) N c) := HW3.out.2.1
  have p0f := hp3.free 0
  have HP3 := hid hp3
  have HO5 := hid hown3
  obtain ⟨va3, vc3, rfl⟩ := Zab hown3
  clear hown3 hb3 hg3 hloc3 hp3
  refine hK.out _ _ HW3.out.2.2.1 (fun hHeld => ?_)
  clear hK K
  (try simp only [Act.put, List.setIfInBounds_toArray, List.set_cons_zero, List.set_cons_succ])
  refine Zq (i := 12) (v := (Zs (some ⟨p, 0, none⟩))) rfl (by kernel_rfl) (by kernel_rfl) (by kernel_rfl) (fun _ _ _ h => h) (Or.inl ⟨by rfl, fun w hSw => by go_simp⟩) hHeld ?_
  (try simp only[Act.put,Zx])
  refine Zq (i := 13) (v := (Zs (some ⟨p, 0, none⟩))) rfl (by kernel_rfl) (by kernel_rfl) (by kernel_rfl) (fun _ _ _ h => h) (Or.inl ⟨by rfl, fun w hSw => by go_simp⟩) hHeld ?_
  (try simp only[Act.put,Zx])
  refine wpAnyH_ready (rs := [14]) (by kernel_rfl) (by simp) ?_
  refine AllReadyH.cons (o := { dst := none, op := Op.store 51 (Operand.tmp 32) (Operand.tmp 30), type := 0, pos := "ref.go:86", after := #[{ on := 13, ground := Ground.data }, { on := 11, ground := Ground.data }, { on := 11, ground := Ground.chain }, { on := 0, ground := Ground.phase }, { on := 1, ground := Ground.phase }, { on := 2, ground := Ground.phase }, { on := 3, ground := Ground.phase }, { on := 4, ground := Ground.phase }, { on := 5, ground := Ground.phase }, { on := 6, ground := Ground.phase }, { on := 7, ground := Ground.phase }, { on := 8, ground := Ground.phase }, { on := 9, ground := Ground.phase }, { on := 10, ground := Ground.phase }, { on := 11, ground := Ground.phase }], guard := none }) rfl (fun K hK => ?_) AllReadyH.nil
  have HSE : Hid ((w3.setCell ⟨p, 0, none⟩ (Zt va3 N vc3)).cell? ⟨w.heap.size, 0, none⟩ = some (O Z i)) := (World.cell?_of_block (heap_setCell_other w3 ⟨p, 0, none⟩ w.heap.size _ (by show w.heap.size ≠ p; omega))).trans HW3.out.2.2.1
  go_simp
  refine hK.out _ _ HSE.out (fun hHeld => ?_)
  clear hK K
  (try simp only[Act.put,Zx])
  refine wpAnyH_done (by kernel_rfl) ?_ _
  clear p0 p0f
  go_wp2
  go_end0
  exact ⟨rfl, HEND.out w3 va3 vc3 HW3.out.1 HB6.out HO5.out HP3.out⟩
open Go.RowKit
theorem Zn1(last:List Sec)(c:List (Nat×Sec))(keep:Nat->Bool)(x:Nat×Sec)(h:c[i]?=some x)(hk:keep i=true):settleTo last c keep (i+1)=(settleTo last c keep i).set x.1 x.2:=by
 have e:settleTo last c keep (i+1)=match c[i]? with
  |some x=>if keep i then (settleTo last c keep i).set x.1 x.2 else settleTo last c keep i
  |none=>settleTo last c keep i:=rfl
 rw[e,h];show(if keep i then (settleTo last c keep i).set x.1 x.2 else settleTo last c keep i)=_
 rw[hk,Zf rfl]
theorem RDiskIn.emptied{w1:World}{D':Nat->Prop}{last:List Sec}{L:List WV}(h:RDiskIn w1 D' p ⟨last,d.cache,d.failed⟩ lv cv L)(hp:D p)(h1:∀q,D' q->D q\/w.heap.size≤q)(h2:Chg (fun q=>q=p) w w1):
  RDPost w D p ⟨last,[],d.failed⟩ (w1.setCell ⟨p,1,none⟩ (Zt none 0 0)):=by
 have hc:Chg (fun q=>q=p) w1 (w1.setCell ⟨p,1,none⟩ (Zt none 0 0)):=Zk (S:=fun q=>q=p) (Zl _ _) ⟨p,1,none⟩ (.inl rfl) _;refine⟨D',⟨lv,Zt none 0 0,[],?_⟩,h1,(h2.trans hc).mono fun q hq=>hq ▸ hp⟩;exact⟨h.dsk.set 1 (Zt none 0 0),Zap h.last hc (fun g hg e=>Za2 h.dsk h.last (by decide) (e ▸ hg)),World.ownsRow_nil _ _ _ _,rfl,(fun x hx=>by simp at hx),h.inP,h.inL,(fun g hg=>by simp[Value.ownBlock]at hg),(fun x hx=>by simp at hx),fun g hg=>Zd (h.lt g hg) hc.size,h.len,(fun x hx=>by simp at hx),(fun x hx=>by simp at hx),h.few,h.some'⟩
theorem Znw(h:RDisk w D p d):
  Calls Tryz.prog 178 #[Zs (some ⟨p,0,none⟩)] w fun e w'=>e=.returned (O Z ((d.flush.1:Nat):Int))/\RDPost w D p d.flush.2 w':=by
 have hsame:Hid (RDPost w D p d w):=⟨D,h,fun q hq=>.inl hq,Zl _ _⟩;obtain⟨lv,cv,L,h⟩:=h;have c1:w.cell? ⟨p,1,none⟩=some cv:=h.dsk.cell 1;have c2:w.cell? ⟨p,2,none⟩=some (.bool d.failed):=h.dsk.cell 2;have HI:=hid h;have hlb:=Zn0 h.cache;obtain⟨ca,cc,rfl⟩:=Zab h.cache;clear h;cases hf:d.failed
 ·have hr:d.flush=(0,d.settled):=by unfold Dsk.flush;rw[hf,Ze (by simp)]
  rw[hr,show d.settled=⟨settleTo d.last d.cache (fun _=>true) L.length,[],d.failed⟩ by unfold Dsk.settled;rw[HI.out.eq,Zi3]];rw[hf]at c2;have HF:=hid hf;clear hr c1 hf;go_enter Tryz.func178,Tryz.ntmps178;go_wp2;clear c2;go_loopw [3] (fun q wx=>∃(k:Nat) (D':Nat->Prop) (lv':Value),k≤L.length/\q=O Z k/\RDiskIn wx D' p ⟨settleTo d.last d.cache (fun _=>true) k,d.cache,d.failed⟩ lv' (Zt ca L.length cc) L/\(∀q,D' q->D q\/w.heap.size≤q)/\Chg (fun q=>q=p) w wx) (fun q _=>L.length-(intOf q).toNat);case atStart=>exact⟨0,D,lv,by omega,rfl,HI.out,fun q hq=>.inl hq,Zl _ _⟩
  case round=>
   obtain⟨k,D',lv',hk,rfl,hin,hD,hch⟩:=hrel;have c1:wr.cell? ⟨p,1,none⟩=some (Zt ca L.length cc):=hin.dsk.cell 1;have f1:=hin.dsk.free 1;have HK:=hid hin;have HD:=hid hD;have HCH:=hid hch;by_cases hk2:k<L.length
   ·have K1:Hid (k+1≤L.length):=hk2
    obtain⟨gc,cc',hve,-,-⟩:=Zas hin.cache (by omega);simp only [Zn,true_and]at hve;obtain⟨rfl,rfl⟩:=hve;have e1:=(hin.cache.cellAt (k*2) (by omega)).trans (Zjp L k hk2).1;have e2:=(hin.cache.cellAt (k*2+1) (by omega)).trans (Zjp L k hk2).2;have hdat:=hin.data _ (Zj hk2);obtain⟨da,dc,hde⟩:=Zab hdat;obtain⟨hsd,hsl⟩:=Zmq hdat;rw[hde]at e2 hsd;have hck:d.cache[k]?=some ((L[k]'hk2).1,(L[k]'hk2).2.1):=by
     rw[HI.out.eq];simp[wvs,hk2]
    have ha0:(L[k]'hk2).1<d.last.length:=HI.out.cin _ (List.mem_of_getElem? hck);have HS:Hid (settleTo d.last d.cache (fun _=>true) (k+1)=(settleTo d.last d.cache (fun _=>true) k).set (L[k]'hk2).1 (L[k]'hk2).2.1):=by
     exact Zn1 _ _ _ _ hck rfl
    have HCALL:=hid (Znq hin (L[k]'hk2).1 (by show _<(settleTo _ _ _ _).length;rw[Zak];exact ha0) da dc (L[k]'hk2).2.1 hsd);clear hdat hde hsd hsl hck hin hD hch ha0;generalize (L[k]'hk2).1=a at*;generalize (L[k]'hk2).2.1=sd at*
    go_wp2_with (first
     |(go_at_call 212;(with_reducible refine HCALL.out.mono ?_);rintro e w2 ⟨rfl,D2,lv2,r1,r2,r3⟩;have HR1:=hid r1;have HR2:=hid r2;have HR3:=hid r3;clear r1 r2 r3))
    go_roundw;case rel=>
     refine⟨k+1,D2,lv2,K1.out,by go_num,?_,fun q hq=> ?_,HCH.out.trans HR3.out⟩
     ·rw[HS.out]
      exact HR1.out
     ·rcases HR2.out q hq with h|h
      ·exact HD.out q h
      ·exact .inr (Zc HCH.out.size h)
    case measure=>simp[intOf];have:=K1.out;omega
   ·obtain rfl:L.length=k:=by omega
    clear hin hD hch;go_wp2;go_ret;have:=HK.out.emptied HI.out.inP HD.out HCH.out;exact⟨rfl,this⟩
 ·have hr:d.flush=(2,d):=by unfold Dsk.flush;rw[hf,Zf rfl]
  rw[hr];rw[hf]at c2;clear hr;go_enter Tryz.func178,Tryz.ntmps178;go_wp2;go_ret;exact⟨rfl,hsame.out⟩
open Go.RowKit
structure Went (s s':BaySt) (j:Nat) (up:Nat):Prop where
 n:s'.n=s.n
 small:∀m,s.small m->s'.small (m+up)
 lo:s.cnt j≤s'.cnt j
 hi:s'.cnt j≤s.cnt j+1
 rest:∀q,q≠j->s'.cnt q=s.cnt q
theorem Zqz(s:BaySt)(j:Nat)(k:Int):Went s (s.start j k).1 j 0/\∀m,s.small m->∀x,(s.start j k).2=.inr x->x.d.cache.length≤m:=by
 unfold BaySt.start;by_cases hk:0≤k/\k<(s.n:Int)
 ·rw[Ze (by simpa using hk)]
  by_cases ht:s.trip=0
  ·rw[Zf ht];exact⟨⟨rfl,fun m h=>h,by show s.cnt j≤s.cnt j;omega,by show s.cnt j≤_;omega,fun _ _=>rfl⟩,fun m _ x hx=>(by cases hx)⟩
  ·rw[Ze ht]
   by_cases hd:s.dark=true
   ·rw[Zf hd];exact⟨⟨rfl,fun m h=>h,by show s.cnt j≤s.cnt j;omega,by show s.cnt j≤_;omega,fun _ _=>rfl⟩,fun m _ x hx=>(by cases hx)⟩
   ·rw[Ze hd]
    cases hx:s.pos (k.toNat*3)with
    |none=>exact⟨⟨rfl,fun m h=>h,by show s.cnt j≤(if j=j then s.cnt j+1 else s.cnt j);rw[Zf rfl];omega,by show(if j=j then s.cnt j+1 else s.cnt j)≤_;rw[Zf rfl];omega,fun q hq=>Ze hq⟩,fun m _ x hx=>(by cases hx)⟩
    |some x=>
     refine⟨⟨rfl,fun m h=>Ze6 h (Ze3 (h _ (by omega) x hx)) _ rfl rfl,by show s.cnt j≤(if j=j then s.cnt j+1 else s.cnt j);rw[Zf rfl];omega,by show(if j=j then s.cnt j+1 else s.cnt j)≤_;rw[Zf rfl];omega,fun q hq=>Ze hq⟩,fun m h y hy=> ?_⟩;simp only [Sum.inr.injEq]at hy;subst hy;exact Ze3 (h _ (by omega) x hx)
 ·rw[Zf (by simpa using hk)];exact⟨⟨rfl,fun m h=>h,by show s.cnt j≤s.cnt j;omega,by show s.cnt j≤_;omega,fun _ _=>rfl⟩,fun m _ x hx=>(by cases hx)⟩
end Go.Proofs.YtljjjpakcbcioaaGreat
