/- Several texts in one: MaxW, SwA, GeoO, BayN, Img, RlL, RlM, RlN, RlO, RlQ. -/
import Derived.WalkSpells
import Derived.WalkLawsBesides
import Derived.BigFrame
import Derived.OwnWalk
import Derived.Test.YtljjjpakcbcioaaGreatMrg33
import Derived.Test.YtljjjpakcbcioaaGreatRfBd
import Derived.Deep.Slices
import Derived.ChangeArms
import Derived.Deep.RegionLaw
import Derived.Laws.CopyOwn
set_option linter.unusedVariables false
set_option maxRecDepth 100000
set_option maxHeartbeats 4000000
namespace Go
open Value renaming int→O
open IntKind renaming i64→Z
open Lib(hid)
theorem Zi5{P:Program}{ops:Array Oper}{rest:List Oper}{o:Oper}{a:Act}{Q:Exit->Act->World->Prop}{w:World}(hg:o.guard=none)(x y:Operand)(t:TypeId)(hop:o.op=Op.call {callee:=Callee.builtin Builtin.max,args:= #[x,y],argTypes:= #[t,t]})
  (p q r:Int) (hx:a.eval x=O Z p) (hy:a.eval y=O Z q) (hr:r=if p<q then q else p)
  (h:wpList P ops Q rest (a.put o.dst (O Z r)) w):wpList P ops Q (o::rest) a w:=by
 refine wpList_plain hg fun K' hK'=> ?_
 have hrun:(Builtin.max_ #[t,t] o.type #[O Z p,O Z q]).run P w=.ok (O Z r) w:=by
  subst hr;by_cases hpq:p<q
  ·simp[Builtin.max_,Builtin.max2,hpq]
  ·simp[Builtin.max_,Builtin.max2,hpq]
 unfold Oper.wp;simp[execOp,hop,resolve,invoke,builtin,hx,hy,hrun,Result.andThen];exact hK' _ _ h
open Go.RowKit
end Go
namespace Go.Proofs.YtljjjpakcbcioaaGreat
open Value renaming int→O
open IntKind renaming i64→Z
open Go.RowKit Go.ChangeShapes Go.WideShapes Go.ChangeAt Go.Deep
open Lib(hid)
def batsSum(l:List (List (Int×List UInt8))):Nat:=(l.map fun o=>1+o.length).sum
theorem Zge(l:List (List (Int×List UInt8)))(k:Nat)(h:k<l.length):batsSum (l.take (k+1))=batsSum (l.take k)+(1+l[k].length):=by
 unfold batsSum;rw[List.take_succ_eq_append_getElem h,List.map_append,List.sum_append];simp
theorem Zp9(l:List (List (Int×List UInt8)))(k:Nat):batsSum (l.take k)≤batsSum l:=by
 unfold batsSum;conv=>rhs;rw[<-List.take_append_drop k l,List.map_append,List.sum_append]
 omega
def swA(k:Nat):Nat:=10000+10000000*k
def swB(l:List (List (Int×List UInt8)))(k:Nat):Nat:=3000+8*batsSum (l.take k)
theorem Zug(k:Nat):swA (k+1)=swA k+10000000:=by unfold swA;omega
theorem Zu6{l:List (List (Int×List UInt8))}{k:Nat}(h:k<l.length):swB l (k+1)=swB l k+8*(1+l[k].length):=by
 unfold swB;rw[Zge l k h];omega
end Go.Proofs.YtljjjpakcbcioaaGreat
namespace Go
open Value renaming int→O
open IntKind renaming i64→Z
open Go.RowKit Go.ChangeShapes Go.WideShapes Go.ChangeAt
open Lib(hid)
theorem Zmf{H:Type}{enc:TypeId×Value->H}{P:Program}{W:World}{T base:Nat}{v:Value}{d:DataW H}{ps:List MemPlace}{f0 f1 f2:Field}
  (hT:P.underlying T=some (.struct #[f0,f1,f2])) (ce:P.cellsOf T=3) (o0:f0.offset=0) (o1:f1.offset=1) (o2:f2.offset=2) (c0:P.cellsOf f0.type=1) (c1:P.cellsOf f1.type=1) (c2:P.cellsOf f2.type=1)
  (t0:P.underlying f0.type=some (.int .i64)) (t1:P.underlying f1.type=some (.int .i64)) (t2:P.underlying f2.type=some (.int .i64))
  (hv:Value.okWide P W .any base T v) (h:DataW.Trod enc P W 0 (fun _=>true) true T v d ps):∃a b c:Int,v=.agg #[O Z a,O Z b,O Z c]:=by
 obtain⟨cs,rfl,hs⟩:=okWide_struct hT hv;obtain⟨fuel,hf⟩:=h;obtain⟨xs,n,-,-,hlen,hxl,hall⟩:=DataW.trod_struct hT hf;have hx:xs.length=3:=hxl;rw[ce]at hs;have h0:=hall 0 f0 rfl;have h1:=hall 1 f1 rfl;have h2:=hall 2 f2 rfl;rw[o0,c0,Zh (by omega)]at h0;rw[o1,c1,Zh (by omega)]at h1;rw[o2,c2,Zh (by omega)]at h2;obtain⟨a,e0,-⟩:=DataW.trod_int t0 h0;obtain⟨b,e1,-⟩:=DataW.trod_int t1 h1;obtain⟨c,e2,-⟩:=DataW.trod_int t2 h2;refine⟨a,b,c,?_⟩;obtain⟨l⟩:=cs;match l,hs with
 | [x,y,z],_=>
  simp[Value.cells]at e0 e1 e2;rw[e0,e1,e2]
end Go
namespace Go.Proofs.YtljjjpakcbcioaaGreat
open Value renaming int→O
open IntKind renaming i64→Z
open Go.RowKit
open Lib(hid)
theorem Zns{H:Type}{enc:TypeId×Value->H}{W:World}{base:Nat}{v:Value}{d:DataW H}{ps:List MemPlace}
  (hv:Value.okWide Tryz.prog W .any base 23 v) (h:DataW.Trod enc Tryz.prog W 0 (fun _=>true) true 23 v d ps):∃m c s:Int,v=geo m c s:=
 Zmf Tryz.underlying23 (by kernel_rfl) rfl rfl rfl (by kernel_rfl) (by kernel_rfl) (by kernel_rfl) Tryz.underlying3 Tryz.underlying3 Tryz.underlying3 hv h
open Go.RowKit
theorem Zni(T:Nat->Nat)(t p:Nat)(d:Dsk)(w:World)(h:DiskAt w T t p d):
  Calls Tryz.prog 171 #[.pointer (some ⟨p,0,none⟩)] w fun e w'=>e=.returned (.bool d.failed)/\w'=w:=by
 obtain⟨gl,gm,cv,f,h1,_⟩:=h.at';have c3:w.cell? ⟨p,3,none⟩=some (.bool d.failed):=h1.cell 3;clear h1 h;generalize d.failed=b at*;go_enter Tryz.func171,Tryz.ntmps171;go_wp2;go_ret;exact⟨rfl,rfl⟩
open Go.RowKit
theorem Zff{l:List Sec}{k:Nat}(hk:k<l.length):secCells (l.take (k+1))=secCells (l.take k)++ucells l[k]:=by
 rw[List.take_succ_eq_append_getElem hk];unfold secCells;rw[List.flatMap_append,List.flatMap_singleton]
theorem Zp5(T:Nat->Nat)(t p:Nat)(d:Dsk)(w:World)(h:DiskAt w T t p d):
  Calls Tryz.prog 85 #[.pointer (some ⟨p,0,none⟩)] w fun e w'=>∃v,e=.returned v/\Below w.heap.size w w'/\(d.failed=false->w'.ownsRow w.heap.size 5 1 v (d.last.length*128) (secCells d.last))/\(d.failed=true->v=.slice none 0 0):=by
 obtain⟨gl,gm,cv,f,h1,h2,h3,h4,h5,h6,h7,h8⟩:=h.at';have hfew:=h.few;have hlen:=hid h.len;have c0:w.cell? ⟨p,0,none⟩=some (.slice (some ⟨gl,0,none⟩) d.last.length d.last.length):=h1.cell 0;have c3:w.cell? ⟨p,3,none⟩=some (.bool d.failed):=h1.cell 3;have H1:=hid h1;have H2:=hid h2;clear h h1 h2 h3 h4 h5 h6 h7 h8;cases hf:d.failed
 ·rw[hf]at c3
  obtain⟨n,hn⟩:∃n,n=d.last.length:=⟨_,rfl⟩;have HN:=hid hn;rw[<-hn]at c0 hfew;rw[<-hn];clear hn;go_enter Tryz.func85,Tryz.ntmps85;obtain⟨u1,u0,ui,uz,u2,u3,u4,u5,u6⟩:=Zat;go_wp2_with (refine wpList_make_own w rfl _ _ 51 rfl w.heap.size 5 ui uz 1 u1 u2 u3 u4 _ _ _ (n*128) rfl rfl (by omega) (by rw[u5];omega) (by unfold maxLen;omega) (Za _) ?_;intro w1 a1 b1;have HA1:=hid a1;have HB1:Hid (Below w.heap.size w w1):=(Zb _ _).grown b1 (Za _) (fun k hk=>by simp at hk);have d0:w1.cell? ⟨p,0,none⟩=some (.slice (some ⟨gl,0,none⟩) n n):=(HB1.out.cell (p:=⟨p,0,none⟩) H1.out.lt).trans c0;clear a1 b1);clear c0 c3 d0;go_loopw [3,4,21] (fun b s4 q wx=>∃k:Nat,k≤n/\q=O Z k/\wx.ownsRow w.heap.size 5 1 b (k*128) (secCells (d.last.take k))/\Below w.heap.size w wx) (fun _ _ q _=>n-(intOf q).toNat);case atStart=>exact⟨0,by omega,rfl,by simpa [secCells]using HA1.out,HB1.out⟩
  case round=>
   obtain⟨k,hk,rfl,hown,hb⟩:=hrel;have HO:=hid hown;have HB:=hid hb;have c0:wr.cell? ⟨p,0,none⟩=some (.slice (some ⟨gl,0,none⟩) n n):=by
    have:=(hb.cell (p:=⟨p,0,none⟩) H1.out.lt).trans (H1.out.cell 0);rw[<-HN.out]at this;exact this
   clear hown hb;by_cases hk2:k<n
   ·have K1:Hid (k+1≤n):=hk2
    have hkl:k<d.last.length:=by rw[<-HN.out];exact hk2
    obtain⟨s0,hs0⟩:∃s0,s0=d.last[k]:=⟨_,rfl⟩;have HS:Hid (secCells (d.last.take (k+1))=secCells (d.last.take k)++ucells s0):=by rw[hs0];exact Zff hkl
    have HL:Hid (s0.length=128):=by rw[hs0];exact hlen.out _ (Zj hkl)
    have HG:Hid (wr.heap.size≥w.heap.size):=HB.out.size;have HC:Hid (∀ad:Addr,some (⟨gl,k*128,none⟩:Addr)=some ad->∀j u,(ucells s0)[j]?=some u->wr.cell? (ad.add j)=some u):=by
     intro ad had j u hu;obtain rfl:=Option.some.inj had;have hj:j<128:=by have:=(List.getElem?_eq_some_iff.1 hu).1;rw[Zag,HL.out]at this;exact this
     rw[Addr.add_lit,HB.out.cell (p:=⟨gl,k*128+j,none⟩) H2.out.lt,H2.out.cell,List.getElem?_toArray,Zcp hlen.out k j hkl hj,<-hs0];exact hu
    clear hs0 hkl;go_wp2_with (refine Zbb rfl _ _ 51 5 1 1 rfl Zat w.heap.size _ (k*128) _ rfl HO.out (some ⟨gl,k*128,none⟩) 128 128 (ucells s0) rfl (by rw[Zag,HL.out]) (fun e=>by cases e) HC.out (Za8 _) (by unfold maxLen;omega) (by omega) HG.out ?_;intro v1 w2 hown1 hb1 hg1;have HO1:=hid hown1;have HB1:=hid (HB.out.trans hb1);clear hown1 hb1 hg1);go_roundw;case rel=>exact⟨k+1,K1.out,by go_num,by rw[HS.out,Nat.add_mul,Nat.one_mul];exact HO1.out,HB1.out⟩
    case measure=>simp[intOf];have:=K1.out;omega
   ·obtain rfl:k=n:=by omega
    have HT:Hid (d.last.take k=d.last):=List.take_of_length_le (by rw[HN.out];omega);rw[HT.out]at HO;go_wp2;go_ret;exact⟨_,rfl,HB.out,fun _=>HO.out,fun e=>by cases e⟩
 ·rw[hf]at c3
  go_enter Tryz.func85,Tryz.ntmps85;go_wp2;go_ret;exact⟨_,rfl,Zb _ _,fun e=>(by cases e),fun _=>rfl⟩
def BaySt.image(s:BaySt)(k:Int):Nat×Option (List Sec):=
 if 0≤k/\k<(s.n:Int)then (match s.pos (k.toNat*3)with|none=>(51,none)|some x=>(0,if x.d.failed=true then none else some x.d.last))else (1,none)
def ImagePost(w:World)(r:Nat×Option (List Sec))(e:Ending)(w':World):Prop:=
 ∃v,e=.returned (.tuple #[v,.int .u16 ((r.1:Nat):Int)])/\Below w.heap.size w w'/\(∀l,r.2=some l->l.length≤8192/\w'.ownsRow w.heap.size 5 1 v (l.length*128) (secCells l))/\(r.2=none->v=.slice none 0 0)
theorem Ztg{w:World}{T:Nat->Nat}{b:Nat}{s:BaySt}(h:BayAt w T b s)(k:Int):
  Calls Tryz.prog 34 #[.pointer (some ⟨b,0,none⟩),O Z k] w (ImagePost w (s.image k)):=by
 obtain⟨gs,ptr,tg,dp,h⟩:=h;by_cases hno:¬s.is k\/(s.is k/\s.pos (k.toNat*3)=none)
 ·have hth:=hid (Zo7 h k hno)
  have hne:s.why k=51\/s.why k=1:=s.why_is k;have hr:s.image k=((s.why k).toNat,none):=by
   unfold BaySt.image BaySt.why;rcases hno with hno|⟨h1,h2⟩
   ·unfold BaySt.is at hno;rw[Ze hno,Ze hno];rfl
   ·unfold BaySt.is at h1;rw[Zf h1,Zf h1,h2];rfl
  rw[hr];clear hr h hno;generalize s.why k=z at*;rcases hne with rfl|rfl
  all_goals
   go_enter Tryz.func34,Tryz.ntmps34
   go_wp2_with (first
    |(go_at_call 80;(with_reducible refine hth.out.mono ?_);rintro e w1 ⟨rfl,hw⟩;obtain rfl:w=w1:=hw.symm))
   go_ret2
   exact⟨_,rfl,Zb _ _,fun l hl=>(by cases hl),fun _=>rfl⟩
 ·have his:s.is k:=Classical.byContradiction fun e=>hno (.inl e)
  have hsome:s.pos (k.toNat*3)≠none:=fun e=>hno (.inr ⟨his,e⟩)
  have his2:0≤k/\k<(s.n:Int):=his;obtain⟨k,rfl⟩:∃q:Nat,k=q:=⟨k.toNat,by omega⟩;rw[Int.toNat_natCast]at hsome;obtain⟨x,hx⟩:∃x,s.pos (k*3)=some x:=by
   cases hq:s.pos (k*3)with
   |none=>exact absurd hq hsome
   |some x=>exact⟨x,rfl⟩
  have hr:s.image (k:Int)=(0,if x.d.failed=true then none else some x.d.last):=by
   unfold BaySt.image;rw[Zf his2,Int.toNat_natCast,hx]
  rw[hr];obtain⟨o,ho⟩:∃o,o=if x.d.failed=true then none else some x.d.last:=⟨_,rfl⟩;rw[<-ho];have HO:=hid ho;obtain⟨dv,hp,hD⟩:=h.some' (k*3) (by omega) x hx;have hth:=hid (Zcf h k dv (by omega) hp);have d0:w.cell? ⟨dv,0,none⟩=some (.pointer (some ⟨dp (k*3),0,none⟩)):=hD.dev.cell 0;have HF:=hid (Zp5 T (tg (k*3)) (dp (k*3)) x.d w hD.disk);have hfw:=hid hD.disk.few;clear hr h hno his his2 hsome hx hp hD ho;generalize dp (k*3)=gd at*;go_enter Tryz.func34,Tryz.ntmps34
  go_wp2_with (first
   |(go_at_call 80;(with_reducible refine hth.out.mono ?_);rintro e w1 ⟨rfl,hw⟩;obtain rfl:w=w1:=hw.symm)
   |(go_at_call 85;(with_reducible refine HF.out.mono ?_);rintro e w2 ⟨v,rfl,hb,hv1,hv2⟩;have HV1:=hid hv1;have HV2:=hid hv2;have HB:=hid hb;clear hv1 hv2 hb d0))
  go_ret2;refine⟨_,rfl,HB.out,fun l hl=> ?_,fun hl=> ?_⟩
  ·have hl2:o=some l:=hl
   rw[HO.out]at hl2;cases hf:x.d.failed
   ·rw[hf,Ze (by simp)]at hl2
    obtain rfl:=Option.some.inj hl2;exact⟨hfw.out,HV1.out hf⟩
   ·rw[hf,Zf rfl]at hl2;cases hl2
  ·have hl2:o=none:=hl
   rw[HO.out]at hl2;cases hf:x.d.failed
   ·rw[hf,Ze (by simp)]at hl2;cases hl2
   ·exact HV2.out hf
theorem Zpl{s:BaySt}{i:Nat}{x:Dev}(hi:i<s.n)(hx:s.pos (i*3)=some x):s.image (i:Int)=(0,if x.d.failed=true then none else some x.d.last):=by
 unfold BaySt.image;rw[Zf (by omega),Int.toNat_natCast,hx]
open Go.RowKit
open Go.RowKit
theorem Zip{L:List Sec}(h:∀s∈L,s.length=128):L.flatten.length=128*L.length:=by
 have:=Zau h;rw[Zci,Zag]at this;omega
theorem Zqs{L:List Sec}(h:∀s∈L,s.length=128){i j:Nat}(hi:i<L.length)(hj:j<128):L.flatten[128*i+j]?=L[i][j]?:=by
 have hs:=h _ (Zj hi);have hl:=Zip h;have e:=Zcp h i j hi hj;rw[Zci]at e;unfold ucells at e;rw[List.getElem?_map,List.getElem?_map,Nat.mul_comm i 128]at e;rw[Zh (by omega),Zh (by omega)]at e ⊢;simp only [Option.map_some,Zg,Value.int.injEq,true_and]at e;exact congrArg some (UInt8.toNat_inj.1 (by exact_mod_cast e))
end Go.Proofs.YtljjjpakcbcioaaGreat
