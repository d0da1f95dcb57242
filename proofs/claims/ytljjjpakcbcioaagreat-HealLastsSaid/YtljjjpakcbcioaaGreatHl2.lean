/- Several texts in one: HlD, HlE, HlF. -/
import Derived.Test.YtljjjpakcbcioaaGreatRfI
import Derived.Lib.AppendStr
set_option linter.unusedVariables false
set_option maxRecDepth 100000
set_option maxHeartbeats 16000000
namespace Go.Proofs.YtljjjpakcbcioaaGreat
open Value renaming int→O,pointer→Zs,slice→Zt
open IntKind renaming i64→Z
open Ending renaming returned→Zu
open Obj renaming cells→Zv
open Go.Proofs.Tryz renaming prog→Zw
open Go.RowKit
open Lib(hid)
variable {s:BaySt} {l:List UInt8} {B c n:Nat} {sz:Nat->Nat} {R:Nat->Prop} {v:Value} {w:World}
theorem Zm3(x:Int)(w:World):
  Calls Zw 267 #[.int .u32 x,O Z 8] w fun e w'=>(∃y,e=Zu (.int .u32 y))/\w'=w:=by
 go_enter Tryz.func267,Tryz.ntmps267;go_wp2;go_loopw [0,5] (fun n i wr=>∃k:Nat,k≤8/\i=O Z k/\(∃y:Int,n=.int .u32 y)/\wr=w) (fun _ i _=>8-(intOf i).toNat);case atStart=>exact⟨0,by omega,rfl,⟨_,rfl⟩,rfl⟩
 case round=>
  obtain⟨k,hk,rfl,⟨y,rfl⟩,rfl⟩:=hrel;by_cases hk8:k<8
  ·have K1:Hid (k+1≤8):=hk8
   go_wp2;all_goals exact⟨⟨k+1,K1.out,by go_num,⟨_,rfl⟩,by first|rfl|trivial⟩,by simp[intOf];omega⟩
  ·obtain rfl:k=8:=by omega
   go_wp2;go_ret;exact⟨⟨_,rfl⟩,rfl⟩
theorem Zuk(hv:w.ownsRow B 5 1 v 124 (ucells l)):
  Calls Zw 247 #[.int .u32 0,v] w fun e w'=>(∃y,e=Zu (.int .u32 y))/\w'=w:=by
 have hl:l.length=124:=by
  have:=hv.1;rw[Zag]at this;omega
 obtain⟨g,cap,rfl,hBg,hg⟩:=Zas hv (by omega);have HC:Hid (∀k (h:k<l.length),w.cell? ⟨g,k,none⟩=some (.int .u8 ((l[k].toNat:Nat):Int))):=fun k hk=>by
  have:=hv.cells (g:=g) rfl k _ (show(ucells l)[k]?=some (.int .u8 ((l[k].toNat:Nat):Int)) by unfold ucells;rw[List.getElem?_map,Zh hk];rfl);rw[Go.WideShapes.add_plain,Nat.zero_add]at this;exact this
 have HT:=hid (fun x W=>Zm3 x W);clear hv;go_enter Tryz.func247,Tryz.ntmps247;go_wp2;go_loopw [5,6] (fun n i wr=>∃k:Nat,k≤124/\i=O Z k/\(∃y:Int,n=.int .u32 y)/\wr=w) (fun _ i _=>124-(intOf i).toNat);case atStart=>exact⟨0,by omega,rfl,⟨_,rfl⟩,rfl⟩
 case round=>
  obtain⟨k,hk,rfl,⟨y,rfl⟩,rfl⟩:=hrel;by_cases hk8:k<124
  ·have K1:Hid (k+1≤124):=hk8
   have d0:=HC.out k (by omega);have hb:(l[k]'(by omega)).toNat<256:=UInt8.toNat_lt _;generalize (l[k]'(by omega)).toNat=z at*;go_wp2_with (go_at_call 267;(with_reducible refine(HT.out _ _).mono ?_);rintro e w1 ⟨⟨y1,rfl⟩,hw⟩;subst w1);exact⟨⟨k+1,K1.out,by go_num,⟨_,rfl⟩,by first|rfl|trivial⟩,by simp[intOf];omega⟩
  ·obtain rfl:k=124:=by omega
   go_wp2;go_ret;exact⟨⟨_,rfl⟩,rfl⟩
theorem Zvs(hv:w.ownsRow B 5 1 v 124 (ucells l)):
  Calls Zw 211 #[v] w fun e w'=>(∃y,e=Zu (.int .u32 y))/\w'=w:=by
 have HM:=hid (Zuk hv);obtain⟨xa,xc,rfl⟩:=Zab hv;clear hv;go_enter Tryz.func211,Tryz.ntmps211;go_wp2_with (go_at_call 247;(with_reducible refine HM.out.mono ?_);rintro e w1 ⟨⟨y1,rfl⟩,hw⟩;subst w1);go_ret;exact⟨⟨_,rfl⟩,rfl⟩
def PutRow(w:World)(B n:Nat)(e:Ending)(w':World):Prop:=
 ∃v' l',e=.returned v'/\w'.ownsRow B 5 1 v' n (ucells l')/\Below B w w'
theorem Zui(X:Int):∃z:UInt8,X%256=((z.toNat:Nat):Int):=
 ⟨UInt8.ofNat (X%256).toNat,by rw[UInt8.toNat_ofNat'];omega⟩
theorem Zho(m:List UInt8)(z:UInt8):ucells (m++ [z])=ucells m++ [.int .u8 ((z.toNat:Nat):Int)]:=by simp[ucells]
theorem Zh6{k n':Nat}(hv:w.ownsRow B 5 1 v n (ucells l))(x:Int)(hn:n≤1000)(hk:k≤8)(hB:B≤w.heap.size)(hn':n+k=n'):
  Calls Zw 176 #[v,.int .u64 x,O Z k] w (PutRow w B n'):=by
 subst hn';have HV:=hid hv;obtain⟨xa,xc,rfl⟩:=Zab hv;clear hv;go_enter Tryz.func176,Tryz.ntmps176;go_wp2;go_loopw [0,1,7] (fun b y i wr=>∃j:Nat,j≤k/\i=O Z j/\(∃x':Int,y=.int .u64 x')/\(∃m,wr.ownsRow B 5 1 b (n+j) (ucells m))/\Below B w wr) (fun _ _ i _=>k-(intOf i).toNat);case atStart=>exact⟨0,by omega,rfl,⟨_,rfl⟩,⟨l,HV.out⟩,Zb _ _⟩
 case round=>
  obtain⟨j,hj,rfl,⟨y,rfl⟩,⟨m,hm⟩,hb⟩:=hrel;have HM:=hid hm;have HB:=hid hb;obtain⟨ya,yc,rfl⟩:=Zab hm;have hz:=hb.size;clear hm hb;by_cases hk8:j<k
  ·have K1:Hid (j+1≤k):=hk8
   go_wp2_with (refine Zay rfl _ _ 51 5 1 rfl Zat B (Zt ya (n+j) yc) (n+j) _ rfl HM.out _ rfl rfl (by unfold maxLen;omega) (by omega) (by omega) ?_;intro v' w5 hown5 hb5 hgr5);obtain⟨z,hz5⟩:=Zui (bits BinOp.and IntKind.u64 y 255);rw[hz5,<-Zho]at hown5;exact⟨⟨j+1,K1.out,by go_num,⟨_,rfl⟩,⟨_,hown5⟩,HB.out.trans hb5⟩,by simp[intOf];omega⟩
  ·obtain rfl:j=k:=by omega
   go_wp2;go_ret;exact⟨_,m,rfl,HM.out,HB.out⟩
theorem Zv7:∃i,Tryz.prog.info? 5=some i/\i.zero=some (.int .u8 0)/\i.size=1/\i.bytes=1:=by
 have h:(Tryz.prog.info? 5).map (fun i=>(i.zero,i.size,i.bytes))=some (some (.int .u8 0),1,1):=by kernel_rfl
 cases hq:Tryz.prog.info? 5 with
 |none=>rw[hq]at h;cases h
 |some i=>
  rw[hq]at h;simp only [Option.map_some,Zg,Prod.mk.injEq]at h;exact⟨i,rfl,h.1,h.2.1,h.2.2⟩
theorem Zrd(w:World):
  Calls Zw 175 #[O Z 3,.int .u64 1,.int .u64 1] w (PutRow w w.heap.size 24):=by
 have HP4:Hid (∀W v l x,Below w.heap.size w W->W.ownsRow w.heap.size 5 1 v 4 (ucells l)->Calls Zw 176 #[v,.int .u64 x,O Z 4] W (PutRow W w.heap.size 8)):=fun W v l x hb hv=>Zh6 (k:=4) hv x (by omega) (by omega) hb.size rfl
 have HP8:Hid (∀W v l x,Below w.heap.size w W->W.ownsRow w.heap.size 5 1 v 8 (ucells l)->Calls Zw 176 #[v,.int .u64 x,O Z 8] W (PutRow W w.heap.size 16)):=fun W v l x hb hv=>Zh6 (k:=8) hv x (by omega) (by omega) hb.size rfl
 have HP16:Hid (∀W v l x,Below w.heap.size w W->W.ownsRow w.heap.size 5 1 v 16 (ucells l)->Calls Zw 176 #[v,.int .u64 x,O Z 8] W (PutRow W w.heap.size 24)):=fun W v l x hb hv=>Zh6 (k:=8) hv x (by omega) (by omega) hb.size rfl
 obtain⟨ui,u2,u3,u4,u5⟩:=Zv7;go_enter Tryz.func175,Tryz.ntmps175
 go_wp2_with (first
  |(refine Lib.wpList_append_own_string _ rfl _ _ 51 9 rfl w.heap.size 5 ui Tryz.underlying51 Tryz.underlying9 u2 u3 u4 u5 (.slice none 0 0) 0 [] rfl (World.ownsRow_nil _ _ _ _) ⟨#[83,80,74,76]⟩ rfl (by decide) (by decide) (Za _) ?_;intro v1 w1 hown1 hg1 hn1;have HO1:Hid (w1.ownsRow w.heap.size 5 1 v1 4 (ucells [83,80,74,76])):=hown1;have HB1:Hid (Below w.heap.size w w1):=((Zb _ _).grown hg1 (Za _) (fun k hk=>by cases hk));have ho1:=HO1.out;obtain⟨a1,c1,rfl⟩:=Zab ho1;clear hown1 ho1 hg1 hn1)
  |(go_at_call 176;(with_reducible refine(HP4.out w1 _ _ _ HB1.out HO1.out).mono ?_);rintro e w2 ⟨v2,l2,rfl,ho2,hb2⟩;have HO2:=hid ho2;have HB2:=hid (HB1.out.trans hb2);obtain⟨a2,c2,rfl⟩:=Zab ho2;clear ho2 hb2)
  |(go_at_call 176;(with_reducible refine(HP8.out w2 _ _ _ HB2.out HO2.out).mono ?_);rintro e w3 ⟨v3,l3,rfl,ho3,hb3⟩;have HO3:=hid ho3;have HB3:=hid (HB2.out.trans hb3);obtain⟨a3,c3,rfl⟩:=Zab ho3;clear ho3 hb3)
  |(go_at_call 176;(with_reducible refine(HP16.out w3 _ _ _ HB3.out HO3.out).mono ?_);rintro e w4 ⟨v4,l4,rfl,ho4,hb4⟩;have HO4:=hid ho4;have HB4:=hid (HB3.out.trans hb4);obtain⟨a4,c4,rfl⟩:=Zab ho4;clear ho4 hb4))
 go_ret;exact⟨_,l4,rfl,HO4.out,HB4.out⟩
theorem Zsy(hv:w.ownsRow B 5 1 v 28 (ucells l))(hB:B≤w.heap.size):
  Calls Zw 177 #[v] w (PutRow w B 128):=by
 have HV:=hid hv;obtain⟨xa,xc,rfl⟩:=Zab hv;have HS:Hid (∀W v l,W.ownsRow B 5 1 v 124 (ucells l)->Calls Zw 211 #[v] W fun e w'=>(∃y,e=Zu (.int .u32 y))/\w'=W):=fun W v l hv=>Zvs hv
 have HP:Hid (∀W v l x,B≤W.heap.size->W.ownsRow B 5 1 v 124 (ucells l)->Calls Zw 176 #[v,.int .u64 x,O Z 4] W (PutRow W B 128)):=fun W v l x hb hv=>Zh6 (k:=4) hv x (by omega) (by omega) hb rfl
 clear hv;go_enter Tryz.func177,Tryz.ntmps177;go_wp2;go_loopw [0] (fun b wr=>∃j:Nat,j≤96/\(∃m,wr.ownsRow B 5 1 b (28+j) (ucells m))/\Below B w wr) (fun b _=>124-(match b with| Zt _ n _=>n|_=>0));case atStart=>exact⟨0,by omega,⟨l,HV.out⟩,Zb _ _⟩
 case round=>
  obtain⟨j,hj,⟨m,hm⟩,hb⟩:=hrel;have HM:=hid hm;have HB:=hid hb;obtain⟨ya,yc,rfl⟩:=Zab hm;have hz:=hb.size;clear hm hb;by_cases hk8:j<96
  ·have K1:Hid (j+1≤96):=hk8
   go_wp2_with (refine Zay rfl _ _ 51 5 1 rfl Zat B (Zt ya (28+j) yc) (28+j) _ rfl HM.out _ rfl rfl (by unfold maxLen;omega) (by omega) (by omega) ?_;intro v' w5 hown5 hb5 hgr5);have e5:ucells (m++ [0])=ucells m++ [Value.int IntKind.u8 0]:=Zho m 0;rw[<-e5]at hown5;obtain⟨a5,c5,rfl⟩:=Zab hown5;exact⟨⟨j+1,K1.out,⟨_,hown5⟩,HB.out.trans hb5⟩,by simp;omega⟩
  ·obtain rfl:j=96:=by omega
   have HM':Hid (wr.ownsRow B 5 1 (Zt ya 124 yc) 124 (ucells m)):=HM.out
   go_wp2_with (first
    |(go_at_call 211;(with_reducible refine(HS.out _ _ _ HM'.out).mono ?_);rintro e w2 ⟨⟨y,rfl⟩,hw2⟩;subst w2)
    |(go_at_call 176;(with_reducible refine(HP.out _ _ _ _ (Zc hB hz) HM'.out).mono ?_);rintro e w3 ⟨v3,l3,rfl,ho3,hb3⟩;have HO3:=hid ho3;have HB3:=hid (HB.out.trans hb3);obtain⟨a3,c3,rfl⟩:=Zab ho3;clear ho3 hb3))
   go_ret;exact⟨_,l3,rfl,HO3.out,HB3.out⟩
theorem Zna(w:World):Calls Zw 174 #[.int .u64 1,.int .u64 1] w fun e w'=>e=Zu (.bool true)/\w'=w:=by
 go_enter Tryz.func174,Tryz.ntmps174;go_wp2;go_ret;exact⟨rfl,rfl⟩
theorem Zp6(w:World):
  Calls Zw 140 #[.agg #[.int .u64 1,.int .u64 1,O Z 0]] w fun e w'=>∃v l,e=Zu (.tuple #[v,O Z 0])/\w'.ownsRow w.heap.size 5 1 v 128 (ucells l)/\Below w.heap.size w w':=by
 have hb0:Below w.heap.size w (w.alloc (Zv #[.int .u64 1,.int .u64 1,O Z 0] 137)):=(Zb _ _).alloc (Za _) _;have ha0:At (w.alloc (Zv #[.int .u64 1,.int .u64 1,O Z 0] 137)) w.heap.size #[.int .u64 1,.int .u64 1,O Z 0] 137:=At.new _ _ _;have e1:(w.alloc (Zv #[.int .u64 1,.int .u64 1,O Z 0] 137)).heap.size=w.heap.size+1:=Zaa _ _;have HN:=hid (fun W=>Zna W);have HBG:Hid (Calls Zw 175 #[O Z 3,.int .u64 1,.int .u64 1] (w.alloc (Zv #[.int .u64 1,.int .u64 1,O Z 0] 137)) (PutRow (w.alloc (Zv #[.int .u64 1,.int .u64 1,O Z 0] 137)) (w.heap.size+1) 24)):=by
  have:=Zrd (w.alloc (Zv #[.int .u64 1,.int .u64 1,O Z 0] 137));rw[e1]at this;exact this
 have HP:Hid (∀W v l x,w.heap.size+1≤W.heap.size->W.ownsRow (w.heap.size+1) 5 1 v 24 (ucells l)->Calls Zw 176 #[v,.int .u64 x,O Z 4] W (PutRow W (w.heap.size+1) 28)):=fun W v l x hb hv=>Zh6 (k:=4) hv x (by omega) (by omega) hb rfl
 have HE:Hid (∀W v l,w.heap.size+1≤W.heap.size->W.ownsRow (w.heap.size+1) 5 1 v 28 (ucells l)->Calls Zw 177 #[v] W (PutRow W (w.heap.size+1) 128)):=fun W v l hb hv=>Zsy hv hb
 have HA0:=hid ha0;have HB0:=hid hb0;clear ha0 hb0;go_enter Tryz.func140,Tryz.ntmps140
 go_wp2_with (first
  |(go_at_call 174;(with_reducible refine(HN.out _).mono ?_);rintro e w1 ⟨rfl,hw1⟩;subst w1)
  |(go_at_call 175;(with_reducible refine HBG.out.mono ?_);rintro e w2 ⟨v2,l2,rfl,ho2,hb2⟩;have HO2:=hid ho2;have HB2:=hid hb2;obtain⟨a2,c2,rfl⟩:=Zab ho2;have hA2:=HA0.out.below hb2 (Nat.lt_succ_self _);have d2:=hA2.cell 2;have hl2:w.heap.size+1≤w2.heap.size:=hA2.lt;clear ho2 hb2 hA2)
  |(go_at_call 176;(with_reducible refine(HP.out w2 _ _ _ hl2 HO2.out).mono ?_);rintro e w3 ⟨v3,l3,rfl,ho3,hb3⟩;have HO3:=hid ho3;have HB3:=hid (HB2.out.trans hb3);obtain⟨a3,c3,rfl⟩:=Zab ho3;have hl3:w.heap.size+1≤w3.heap.size:=Zc hl2 hb3.size;clear ho3 hb3 d2)
  |(go_at_call 177;(with_reducible refine(HE.out w3 _ _ hl3 HO3.out).mono ?_);rintro e w4 ⟨v4,l4,rfl,ho4,hb4⟩;have HO4:=hid ho4;have HB4:=hid (HB3.out.trans hb4);obtain⟨a4,c4,rfl⟩:=Zab ho4;clear ho4 hb4))
 go_ret2;exact⟨_,l4,rfl,Zan HO4.out (Nat.le_succ _),HB0.out.trans (HB4.out.mono (Nat.le_succ _))⟩
open Go.RowKit
abbrev rwalCells(c slot:Nat)(ring:Value):Array Value:= #[Zs (some ⟨c,0,none⟩),O Z slot,.int .u64 1,ring,.int .u64 1,.bool true,O Z 0,Zt none 0 0,.int .u16 0]
theorem Zvy{W:World}{a:Option Addr}{xs:List Value}{t:TypeId}(ho:w.ownsRow B t 1 (Zt a n c) n xs)(hR:∀q,R q->q<B):∀a' n' c',Value.slice a n c=Zt (some a') n' c'->¬R a'.block:=fun a' n' c' e hq=>by
 simp only [Zn]at e;obtain⟨rfl,-,-⟩:=e;have:=hR _ hq;have:=(ho.lt a'.block (by simp[Value.ownBlock])).1;omega
theorem Zpp(h:RBayAt w R c s)(hf:Fit s (fun _=>True) sz)(slot wp:Nat)(rg:Nat)(hsl:slot<s.n)(hz:2≤sz slot)(hw:At w wp (rwalCells c slot (Zs (some ⟨rg,0,none⟩))) 170)(hwR:¬R wp)(hcnt:s.cnt 1≤999999000000)(hcnt2:s.cnt 2≤999999000000)(hm:s.small 900000):
  Calls Zw 93 #[Zs (some ⟨wp,0,none⟩),.int .u64 1,O Z 0] w fun e w'=>e=Zu (.int .u16 0)/\∃s',RBPost w R c s' w'/\s'.n=s.n:=by
 have HE:=hid (Zp6 w);have HWR:Hid (∀W va vc l,Below w.heap.size w W->W.ownsRow w.heap.size 5 1 (Zt va 128 vc) 128 (ucells l)->Calls Zw 91 #[Zs (some ⟨c,0,none⟩),O Z slot,O Z 1,Zt va 128 vc] W fun e w'=>e=Zu (.int .u16 0)/\∃s1 R1,RBayAt w' R1 c s1/\Fit s1 (fun _=>True) sz/\s1.n=s.n/\s1.cnt 2=s.cnt 2/\(∀q,R1 q->R q\/w.heap.size≤q)/\Chg R w w'):=fun W va vc l hb ho=>by
  have hl:l.length=128:=by
   have:=ho.1;rw[Zag]at this;omega
  obtain⟨f1,f2⟩:=Zdd hf slot 1 l hsl trivial (by omega) hl;have k:=Zjq (h.below hb) slot 1 (Zt va 128 vc) l (by omega) (fun i hi x hx=>Zc (hm i hi x hx) (by omega)) (Zao (by rw[hl];exact ho)) (fun _=>Zvy (W:=W) ho h.lt);have e1:s.write (slot:Int) 1 l=(0,s.put slot 1 l):=Zb4 hf slot 1 l hsl trivial (by omega) hl;rw[e1]at k;refine k.mono ?_;rintro e w' ⟨rfl,R1,k1,k2,k3⟩;exact⟨rfl,_,R1,k1,f1,f2.n,f2.c2,fun q hq=>(k2 q hq).imp id (fun e=>Zc hb.size e),(Zm hb _).trans k3⟩
 have HFL:Hid (∀W s1 R1,RBayAt W R1 c s1->Fit s1 (fun _=>True) sz->s1.n=s.n->s1.cnt 2=s.cnt 2->Calls Zw 141 #[Zs (some ⟨c,0,none⟩),O Z slot] W fun e w'=>e=Zu (.int .u16 0)/\∃s2 R2,RBayAt w' R2 c s2/\s2.n=s.n/\(∀q,R2 q->R1 q\/W.heap.size≤q)/\Chg R1 W w'):=fun W s1 R1 hb hf1 hn hc=>by
  obtain⟨f1,f2⟩:=Zbk hf1 slot (by omega) trivial;have k:=Zpt hb slot (by omega);rw[Zco hf1 slot (by omega) trivial]at k;refine k.mono ?_;rintro e w' ⟨rfl,R2,k1,k2,k3⟩;exact⟨rfl,_,R2,k1,f2.n.trans hn,k2,k3⟩
 have HSS:Hid (∀W,Chg R w W->W.cell? ⟨wp,0,none⟩=some (Zs (some ⟨c,0,none⟩))/\W.cell? ⟨wp,1,none⟩=some (O Z slot)):=fun W hc=>⟨(hw.mod hc hwR).cell 0,(hw.mod hc hwR).cell 1⟩
 have HR:Hid (∀W,Below w.heap.size w W->Chg R w W):=fun W hb=>Zm hb _
 have c4:w.cell? ⟨wp,4,none⟩=some (.int .u64 1):=hw.cell 4;have HN:=hid hwR;have hlt:=hw.lt;clear h hf hw hwR;go_enter Tryz.func93,Tryz.ntmps93;go_wp2_with (go_at_call 140;(with_reducible refine HE.out.mono ?_);rintro e w1 ⟨v1,l1,rfl,ho1,hb1⟩;obtain⟨a1,k1,rfl⟩:=Zab ho1;have HO1:=hid ho1;have HB1:=hid hb1;have HSA:=hid (HSS.out w1 (HR.out w1 hb1));clear ho1 hb1);go_region_held3 (fun W=>W.cell? ⟨wp,0,none⟩=some (Zs (some ⟨c,0,none⟩))/\W.cell? ⟨wp,1,none⟩=some (O Z slot))
  (first|exact HSA.out|exact HSB)
  (first|(go_at_call 91;(with_reducible refine(HWR.out _ _ _ l1 ?_ ?_).mono ?_);(first|exact HB1.out|exact HB1.out.drew|exact below_drewN HB1.out _);(first|exact HO1.out|exact Zaf HO1.out (Zb _ _).drew (Za _));rintro e w2 ⟨rfl,s2,R2,hr2,hf2,hn2,hc2,hq2,hch2⟩;have HP2:=hid (And.intro hr2 (And.intro hf2 (And.intro hn2 (And.intro hc2 hq2))));have HC2:=hid hch2;have HSB:=HSS.out w2 hch2;clear hr2 hf2 hn2 hc2 hq2 hch2))
 have HSA:=hid HSB;clear HSB;go_wp2;go_region_held3 (fun W=>W.cell? ⟨wp,0,none⟩=some (Zs (some ⟨c,0,none⟩))/\W.cell? ⟨wp,1,none⟩=some (O Z slot))
  (first|exact HSA.out|exact HSB)
  (first|(go_at_call 141;(with_reducible refine(HFL.out _ s2 R2 ?_ HP2.out.2.1 HP2.out.2.2.1 HP2.out.2.2.2.1).mono ?_);(first|exact HP2.out.1|exact HP2.out.1.below (Zb _ _).drew);rintro e w3 ⟨rfl,s3,R3,hr3,hn3,hq3,hch3⟩;have HP3:=hid (And.intro hr3 (And.intro hn3 (And.intro hq3 hch3)));have HC3:Hid (Chg R w w3):=(Zaj (HC2.out.trans (Zm (by first|exact Zb w2.heap.size w2|exact(Zb w2.heap.size w2).drew) R)) hch3 (fun q hq e=>(HP2.out.2.2.2.2 q e).resolve_right (by omega)));have HSB:=HSS.out w3 HC3.out;clear hr3 hn3 hq3 hch3))
 go_wp2;go_ret;obtain⟨k1,k2,k3,k4⟩:=HP3.out;refine⟨rfl,s3,⟨R3,k1,fun q hq=> ?_,HC3.out⟩,k2⟩;rcases k3 q hq with e|e
 ·exact HP2.out.2.2.2.2 q e
 ·exact .inr (Zc HC2.out.size (Zc (by first|exact Za _|exact(Zb w2.heap.size w2).drew.size) e))
theorem Zru(places:Nat)(w:World)(h5:5≤places)(h6:places≤2048):Calls Zw 90 #[O Z places] w fun e w'=>e=Zu (.bool true)/\w'=w:=by
 have hd:decide ((5:Int)≤(places:Int))=true:=decide_eq_true (by omega);have hd2:decide ((places:Int)≤2048)=true:=decide_eq_true (by omega);go_enter Tryz.func90,Tryz.ntmps90;go_wp2;go_ret;exact⟨rfl,rfl⟩
theorem Zuz(places:Nat)(w:World)(h5:5≤places)(h6:places≤2048):Calls Zw 92 #[O Z places,O Z 0,O Z 0] w fun e w'=>∃rg,e=Zu (.tuple #[Zs (some ⟨rg,0,none⟩),O Z 0])/\Below w.heap.size w w':=by
 have g1:decide ((places:Int)<5)=false:=decide_eq_false (by omega);have g2:decide ((2048:Int)<(places:Int))=false:=decide_eq_false (by omega);have g3:decide ((places:Int)≤0)=false:=decide_eq_false (by omega);have g4:decide ((places:Int)<0)=false:=decide_eq_false (by omega);go_enter Tryz.func92,Tryz.ntmps92;go_wp2;go_ret2;exact⟨_,rfl,(Zb _ _).alloc (Za _) _⟩
theorem Zp0(h:RBayAt w R c s)(hf:Fit s (fun _=>True) sz)(slot places:Nat)(hsl:slot<s.n)(hz:2+places≤sz slot)(h5:5≤places)(h6:places≤2048)(hcnt:s.cnt 1≤999998000000)(hcnt2:s.cnt 2≤999999000000)(hm:s.small 800000):
  Calls Zw 42 #[Zs (some ⟨c,0,none⟩),O Z slot,O Z places,.int .u64 1] w fun e w'=>∃wp s',e=Zu (.tuple #[Zs (some ⟨wp,0,none⟩),.int .u16 0])/\RBPost w R c s' w'/\s'.n=s.n:=by
 have HZ:Hid (∀p,p≤places->Zeroed s (zeroed s slot p) (fun _=>True) sz slot p):=fun p hp=>Zee hf slot hsl trivial p (by omega)
 have HWR:Hid (∀p W W1 R1 g,p<places->RBayAt W R1 c (zeroed s slot p)->Below W.heap.size W W1->W.heap.size≤g->At W1 g (ucells zsec).toArray 5->Calls Zw 91 #[Zs (some ⟨c,0,none⟩),O Z slot,O Z ((2:Int)+p),Zt (some ⟨g,0,none⟩) 128 128] W1 fun e w'=>e=Zu (.int .u16 0)/\RBPost W R1 c (zeroed s slot (p+1)) w'):=fun p W W1 R1 g hp hr hb hg ha=>by
  have hz:=HZ.out p (by omega);have hwf:=Zb4 hz.fit slot (2+p) zsec (by rw[hz.n'];exact hsl) trivial (by omega) (by simp[zsec]);have hv:Seg W1 (Zt (some ⟨g,0,none⟩) 128 128) zsec:=by
   refine⟨some ⟨g,0,none⟩,128,rfl,⟨fun h=>(by cases h),by simp[zsec]⟩,.inr ⟨g,0,rfl,ha.lt,fun j hj=> ?_⟩⟩;rw[ha.cell];simp[ucells];exact⟨_,Zh (by simpa [zsec]using hj),rfl⟩
  rw[show((2:Int)+p)=((2+p:Nat):Int) by omega]
  have k:=Zjq (hr.below hb) (slot:Int) ((2+p:Nat):Int) _ zsec (by rw[hz.c1];omega) (fun i hi x hx=>Zc (hz.small _ hm i hi x hx) (by omega)) hv (fun _ a n cc e hq=>by
   simp only [Zn,Zg]at e
   obtain⟨rfl,-,-⟩:=e
   have:=hr.lt _ hq
   have e2:(⟨g,0,none⟩:Addr).block=g:=rfl
   omega)
  rw[hwf]at k;refine k.mono ?_;rintro e w' ⟨rfl,R2,k1,k2,k3⟩;exact⟨rfl,R2,k1,fun q hq=>(k2 q hq).imp id (fun e=>Zc hb.size e),(Zm hb _).trans k3⟩
 have HCK:Hid (∀W R1 wp rg,RBayAt W R1 c (zeroed s slot places)->At W wp (rwalCells c slot (Zs (some ⟨rg,0,none⟩))) 170->¬R1 wp->Calls Zw 93 #[Zs (some ⟨wp,0,none⟩),.int .u64 1,O Z 0] W fun e w'=>e=Zu (.int .u16 0)/\∃s',RBPost W R1 c s' w'/\s'.n=s.n):=fun W R1 wp rg hr hw hn=>by
  have hz:=HZ.out places (Za _);refine(Zpp hr hz.fit slot wp rg (by rw[hz.n'];exact hsl) (by omega) hw hn (by rw[hz.c1];omega) (by rw[hz.c2];exact hcnt2) (fun i hi x hx=>Zc (hz.small _ hm i hi x hx) (by omega))).mono ?_;rintro e w' ⟨rfl,s',k1,k2⟩;exact⟨rfl,s',k1,k2.trans hz.n'⟩
 have HRG:Hid (∀W,Calls Zw 92 #[O Z places,O Z 0,O Z 0] W fun e w'=>∃rg,e=Zu (.tuple #[Zs (some ⟨rg,0,none⟩),O Z 0])/\Below W.heap.size W w'):=fun W=>Zuz places W h5 h6
 have HSD:=hid (fun W=>Zru places W h5 h6);have H0:Hid (RBayAt w R c (zeroed s slot 0)):=h;clear h hf hz hm hcnt hcnt2;go_enter Tryz.func42,Tryz.ntmps42;go_wp2_with (go_at_call 90;(with_reducible refine(HSD.out _).mono ?_);rintro e w1 ⟨rfl,hw1⟩;subst w1);go_loopw [10] (fun q wr=>∃p:Nat,p≤places/\q=O Z p/\∃R1,RBayAt wr R1 c (zeroed s slot p)/\(∀q,R1 q->R q\/w.heap.size≤q)/\Chg R w wr) (fun q _=>places-(intOf q).toNat);case atStart=>exact⟨0,by omega,rfl,R,H0.out,fun q hq=>.inl hq,Zl _ _⟩
 case round=>
  obtain⟨p,hp,rfl,R1,hr,hq,hch⟩:=hrel;have HR:=hid hr;have HQ:=hid hq;have HC:=hid hch;clear hr hq hch;by_cases hpn:p<places
  ·have K1:Hid (p+1≤places):=hpn
   go_wp2_with (first
    |(refine Zaq rfl _ _ 51 5 1 1 rfl Zat (.int .u8 0) (by kernel_rfl) _ _ _ _ 128 rfl rfl rfl rfl (by omega) (by unfold maxLen;omega) ?_;intro w7 a7 b7;rw[Zq9]at a7;have A7:=hid a7;have B7:=hid b7;clear a7 b7)
    |(go_at_call 91;(with_reducible refine(HWR.out p wr w7 R1 wr.heap.size hpn HR.out B7.out (Za _) A7.out).mono ?_);rintro e w8 ⟨rfl,hp8⟩;have HP8:=hid hp8;clear hp8))
   obtain⟨R2,k1,k2,k3⟩:=HP8.out;exact⟨⟨p+1,K1.out,by go_num,R2,k1,fun q hq=>(k2 q hq).elim (HQ.out q) (fun e=>.inr (Zc HC.out.size e)),Zaj HC.out k3 (fun q hq e=>(HQ.out q e).resolve_right (by omega))⟩,by simp[intOf];omega⟩
  ·obtain rfl:p=places:=by omega
   have hN:=At.new wr #[Zs (some ⟨c,0,none⟩),O Z slot,.int .u64 1,.pointer none,.int .u64 1,.bool true,O Z 0,Zt none 0 0,.int .u16 0] 170;have HNN:=hid hN;have hbN:Below wr.heap.size wr (wr.alloc (Zv #[Zs (some ⟨c,0,none⟩),O Z slot,.int .u64 1,.pointer none,.int .u64 1,.bool true,O Z 0,Zt none 0 0,.int .u16 0] 170)):=(Zb _ _).alloc (Za _) _;have HBN:=hid hbN;clear hN hbN
   go_wp2_with (first
    |(go_at_call 92;(with_reducible refine(HRG.out _).mono ?_);rintro e w2 ⟨rg,rfl,hb2⟩;have HB2:=hid (Zac HBN.out hb2);have HA2:=hid (HNN.out.below hb2 HNN.out.lt);have f3:=HA2.out.free 3;have c3:=HA2.out.cell 3;have hl2:=HA2.out.lt;clear hb2)
    |(go_at_call 93;(have hst:Chg (fun q=>q=wr.heap.size) w2 (w2.setCell ⟨wr.heap.size,3,none⟩ (Zs (some ⟨rg,0,none⟩))):=Zk (S:=fun q=>q=wr.heap.size) (Zl _ _) ⟨wr.heap.size,3,none⟩ (.inl rfl) _);(have hr3:RBayAt (w2.setCell ⟨wr.heap.size,3,none⟩ (Zs (some ⟨rg,0,none⟩))) R1 c (zeroed s slot p):=(HR.out.below HB2.out).keep hst (fun k hk e=>by have:=HR.out.lt k hk;omega));(have ha3:At (w2.setCell ⟨wr.heap.size,3,none⟩ (Zs (some ⟨rg,0,none⟩))) wr.heap.size (rwalCells c slot (Zs (some ⟨rg,0,none⟩))) 170:=HA2.out.set 3 _);(with_reducible refine(HCK.out _ R1 wr.heap.size rg hr3 ha3 (fun e=>by have:=HR.out.lt _ e;omega)).mono ?_);rintro e w3 ⟨rfl,s3,hp3,hn3⟩;have HP3:=hid hp3;have HN3:=hid hn3;have HST:=hid hst;clear hp3 hn3 hst hr3 ha3))
   go_ret2;obtain⟨R2,k1,k2,k3⟩:=HP3.out;have hch:Chg R w (w2.setCell ⟨wr.heap.size,3,none⟩ (Zs (some ⟨rg,0,none⟩))):=Zaj (HC.out.trans (Zm HB2.out _)) HST.out (fun q hq e=>by have:=HC.out.size;omega);have hz2:=HC.out.size;have hz3:=HB2.out.size;have hz4:=HST.out.size;refine⟨_,s3,rfl,⟨R2,k1,fun q hq=> ?_,Zaj hch k3 (fun q hq e=>(HQ.out q e).resolve_right (by omega))⟩,HN3.out⟩;rcases k2 q hq with e|e
   ·exact HQ.out q e
   ·exact .inr (by omega)
theorem Zez:SliceOf Zw 57 3 1 8:=SliceOf.mk' (z:=.int .i64 0) Tryz.underlying57 (by decide) (by kernel_rfl) rfl
abbrev rrowCells(c M C S wp:Nat)(lazy:Bool)(v:Value):Array Value:= #[Zs (some ⟨c,0,none⟩),O Z M,O Z C,O Z S,Zs (some ⟨wp,0,none⟩),.bool lazy,v,Zt none 0 0,.bool false]
theorem Zn9(h:RBayAt w R c s)(M C S:Nat)(hg:geoIs M C S=true)(hn:s.n=M+1)(wp:Nat)(lazy:Bool):
  Calls Zw 43 #[Zs (some ⟨c,0,none⟩),.agg #[O Z M,O Z C,O Z S],Zs (some ⟨wp,0,none⟩),.bool lazy] w fun e w'=>∃sp,e=Zu (.tuple #[Zs (some ⟨sp,0,none⟩),.int .u16 0])/\Below w.heap.size w w':=by
 obtain⟨gs,cap,ptr,D,h⟩:=h;have hM:M≤16:=by
  obtain⟨g1,g2,g3,g4,g5,g6⟩:=(Zam M C S).1 hg;omega
 have HCK:Hid (∀W,Calls Zw 16 #[.agg #[O Z M,O Z C,O Z S]] W fun e w'=>e=Zu (O Z 0)/\Below W.heap.size W w'):=fun W=>by
  have:=Zfg M C S W;unfold geoCode at this;rw[Zf hg]at this;exact this
 have ha0:At (w.alloc (Zv #[O Z M,O Z C,O Z S] 23)) w.heap.size #[O Z M,O Z C,O Z S] 23:=At.new _ _ _;have hb0:Below w.heap.size w (w.alloc (Zv #[O Z M,O Z C,O Z S] 23)):=(Zb _ _).alloc (Za _) _;have hbay:=h.bay;rw[hn]at hbay;have HSS:Hid (∀W,Below (w.alloc (Zv #[O Z M,O Z C,O Z S] 23)).heap.size (w.alloc (Zv #[O Z M,O Z C,O Z S] 23)) W->W.cell? ⟨w.heap.size,0,none⟩=some (O Z M)/\W.cell? ⟨w.heap.size,1,none⟩=some (O Z C)/\W.cell? ⟨w.heap.size,2,none⟩=some (O Z S)/\W.cell? ⟨c,0,none⟩=some (Zt (some ⟨gs,0,none⟩) (M+1) cap)):=fun W hb=>
  ⟨(ha0.below hb ha0.lt).cell 0,(ha0.below hb ha0.lt).cell 1,(ha0.below hb ha0.lt).cell 2,((hbay.below (hb0.trans (hb.mono hb0.size)) hbay.lt)).cell 0⟩
 have HB0:=hid hb0;have hwr:IntKind.i64.wrap ((M:Int)+1)=((M+1:Nat):Int):=by rw[IntKind.wrap_i64];omega
 have HBZ:Hid (w.heap.size≤(w.alloc (Zv #[O Z M,O Z C,O Z S] 23)).heap.size):=hb0.size;have HA0:=hid ha0;clear h hbay hb0 ha0;go_enter Tryz.func43,Tryz.ntmps43;go_wp2_with (go_at_call 16;(with_reducible refine(HCK.out _).mono ?_);rintro e w1 ⟨rfl,hb1⟩;have HB1:=hid hb1;have HSA:=hid (HSS.out w1 hb1);clear hb1);go_region_held3 (fun W=>W.cell? ⟨w.heap.size,0,none⟩=some (O Z M)/\W.cell? ⟨w.heap.size,1,none⟩=some (O Z C)/\W.cell? ⟨w.heap.size,2,none⟩=some (O Z S)/\W.cell? ⟨c,0,none⟩=some (Zt (some ⟨gs,0,none⟩) (M+1) cap))
  (exact HSA.out)
  (fail)
 have hbd:Below (w.alloc (Zv #[O Z M,O Z C,O Z S] 23)).heap.size (w.alloc (Zv #[O Z M,O Z C,O Z S] 23)) w1.drew:=HB1.out.drew;have HSD:=hid (HSS.out _ hbd);have HBD:=hid hbd;obtain⟨k0,k1,k2,-⟩:=HSD.out;have hzd:w.heap.size<w1.drew.heap.size:=Zd (by rw[Zaa];omega) hbd.size;clear hbd HSA;generalize w1.drew=wd at*;go_wp2;have HN:Hid (At (wd.alloc (Zv (rrowCells c M C S wp lazy (Zt none 0 0)) 175)) wd.heap.size (rrowCells c M C S wp lazy (Zt none 0 0)) 175):=At.new _ _ _;have HBN:Hid (Below (w.alloc (Zv #[O Z M,O Z C,O Z S] 23)).heap.size (w.alloc (Zv #[O Z M,O Z C,O Z S] 23)) (wd.alloc (Zv (rrowCells c M C S wp lazy (Zt none 0 0)) 175))):=HBD.out.alloc HBD.out.size _;go_loopw [12] (fun q wr=>∃k:Nat,k≤M/\q=O Z k/\∃v,At wr wd.heap.size (rrowCells c M C S wp lazy v) 175/\wr.ownsRow (wd.heap.size+1) 3 1 v k (List.replicate k (O Z (-1)))/\Below (w.alloc (Zv #[O Z M,O Z C,O Z S] 23)).heap.size (w.alloc (Zv #[O Z M,O Z C,O Z S] 23)) wr) (fun q _=>M-(intOf q).toNat);case atStart=>exact⟨0,by omega,rfl,_,HN.out,World.ownsRow_nil _ _ _ _,HBN.out⟩
 case round=>
  obtain⟨k,hk,rfl,v,ha,ho,hb⟩:=hrel;obtain⟨va,vc,rfl⟩:=Zab ho;have c6:=ha.cell 6;have hlr:=ha.lt;have HA:=hid ha;have HO:=hid ho;have HB:=hid hb;obtain⟨j0,j1,j2,-⟩:=HSS.out _ hb;clear ha ho hb k0 k1 k2;by_cases hkM:k<M
  ·have K1:Hid (k+1≤M):=hkM
   go_wp2_with (refine Zay rfl _ _ 57 3 8 rfl Zez (wd.heap.size+1) _ k _ rfl HO.out _ rfl rfl (by unfold maxLen;omega) (by omega) (by omega) ?_;intro v' w5 hown5 hb5 hgr5;obtain⟨xa,xc,rfl⟩:=Zab hown5;have ha5:=HA.out.below hb5 (Nat.lt_succ_self _);have f6:=ha5.free 6;have e6:=ha5.cell 6;have hl5:=ha5.lt;have HA5:=hid ha5;have HO5:=hid hown5;have HB5:=hid hb5;clear ha5 hown5 hb5 hgr5);have hst:Chg (fun q=>q=wd.heap.size) w5 (w5.setCell ⟨wd.heap.size,6,none⟩ (Zt xa (k+1) xc)):=Zk (S:=fun q=>q=wd.heap.size) (Zl _ _) ⟨wd.heap.size,6,none⟩ (.inl rfl) _;refine⟨⟨k+1,K1.out,by go_num,Zt xa (k+1) xc,HA5.out.set 6 _,?_,?_⟩,by simp[intOf];omega⟩
   ·rw[List.replicate_succ']
    exact Zad HO5.out hst (fun g hg e=>by have:=(HO5.out.lt g hg).1;omega)
   ·have hzb:=HBD.out.size
    exact(HB.out.trans (HB5.out.mono (by omega))).setCell (p:=⟨wd.heap.size,6,none⟩) hzb _
  ·obtain rfl:k=M:=by omega
   go_wp2;go_ret2;exact⟨_,rfl,HB0.out.trans (HB.out.mono HBZ.out)⟩
open Go.RowKit
theorem Zpx(x:UInt8)(w:World):
  Calls Zw 40 #[.int .u8 ((x.toNat:Nat):Int)] w fun e w'=>e=Zu (Zt (some ⟨w.heap.size,0,none⟩) 128 128)/\At w' w.heap.size (ucells (zsec.set 7 x)).toArray 5/\Below w.heap.size w w':=by
 have hset:=hid (Znh zsec 7 x);generalize hy:((x.toNat:Nat):Int)=y at*;clear hy;go_enter Tryz.func40,Tryz.ntmps40;go_wp2_with (refine Zaq rfl _ _ 51 5 1 1 rfl Zat (.int .u8 0) (by kernel_rfl) _ _ _ _ 128 rfl rfl rfl rfl (by omega) (by unfold maxLen;omega) ?_;intro w1 a1 b1;rw[Zq9]at a1;have f0:=a1.free 7;have d0:w1.cell? ⟨w.heap.size,7,none⟩=some (.int .u8 0):=(a1.cell 7).trans (by simp[ucells,zsec]);have A1:=hid a1;clear a1);go_ret;refine⟨rfl,?_,b1.setCell (p:=⟨w.heap.size,7,none⟩) (Za _) _⟩;rw[<-hset.out];exact A1.out.set 7 _
theorem Zri(m c s ring:Int)(w:World):
  Calls Zw 10 #[geo m c s,O Z ring] w fun e w'=>e=Zu (.bool (mayIs m c s ring))/\Below w.heap.size w w':=by
 have hb0:Below w.heap.size w (w.alloc (Zv #[O Z m,O Z c,O Z s] 23)):=(Zb _ _).alloc (Za _) _;have hck:=hid (fun w=>Zfg m c s w);have HB0:=hid hb0;unfold geoCode geo at*;unfold mayIs;clear hb0;by_cases hg:geoIs m c s=true
 ·rw[Zf hg]at hck
  rw[hg];by_cases h1:5≤ring
  ·by_cases h2:ring≤2048
   focus
    have d1:decide (5≤ring)=true:=decide_eq_true h1
    have d2:decide (ring≤2048)=true:=decide_eq_true h2
   rotate_left
   focus
    have d1:decide (5≤ring)=true:=decide_eq_true h1
    have d2:decide (ring≤2048)=false:=decide_eq_false h2
   rotate_left
   all_goals
    rw[d1,d2]
    go_enter Tryz.func10,Tryz.ntmps10
    go_wp2_with (go_at_call 16;(with_reducible refine(hck.out _).mono ?_);rintro e w1 ⟨rfl,hb1⟩;have HB1:=hid (Zac HB0.out hb1);clear hb1)
    go_ret
    exact⟨rfl,HB1.out⟩
  ·have d1:decide (5≤ring)=false:=decide_eq_false h1
   rw[d1];go_enter Tryz.func10,Tryz.ntmps10;go_wp2_with (go_at_call 16;(with_reducible refine(hck.out _).mono ?_);rintro e w1 ⟨rfl,hb1⟩;have HB1:=hid (Zac HB0.out hb1);clear hb1);go_ret;exact⟨rfl,HB1.out⟩
 ·rw[Ze hg]at hck
  have hg':geoIs m c s=false:=by cases h:geoIs m c s<;>simp_all
  rw[hg'];go_enter Tryz.func10,Tryz.ntmps10;go_wp2_with (go_at_call 16;(with_reducible refine(hck.out _).mono ?_);rintro e w1 ⟨rfl,hb1⟩;have HB1:=hid (Zac HB0.out hb1);clear hb1);go_ret;exact⟨rfl,HB1.out⟩
abbrev pairCells(A:Adr)(cp sp:Nat):Array Value:= #[Zs (some ⟨A.b,0,none⟩),Zs (some ⟨cp,0,none⟩),Zs (some ⟨A.q,0,none⟩),Zs (some ⟨sp,0,none⟩)]
abbrev made0R(M C S ring:Nat)(lazy:Bool):RS:=RS.made M C S ring lazy (formed (rBay M (S*C) ring) M ring 1)
structure DuoAt (W w:World) (T:Nat->Nat) (b c:Nat) (R:Nat->Prop) (s s':BaySt):Prop where
 bay:BayAt w T b s
 ref:RBayAt w R c s'
 off:∀q,R q->T q=0
 old:∀q,q<W.heap.size->T q=0/\¬R q
 bel:Below W.heap.size W w
theorem DuoAt.below{W w':World}{T:Nat->Nat}{b:Nat}{s':BaySt}(h:DuoAt W w T b c R s s')(hb:Below w.heap.size w w'):DuoAt W w' T b c R s s':=⟨h.bay.below hb,h.ref.below hb,h.off,h.old,h.bel.trans (hb.mono h.bel.size)⟩
theorem Zom(M C S ring:Nat)(lazy:Bool)(W:World)(hg:geoIs M C S=true)(h5:5≤ring)(h6:ring≤2048):
  Calls Zw 11 #[geo M C S,O Z ring,.bool lazy] W fun e w'=>∃T A pp cp sp,e=Zu (Zs (some ⟨pp,0,none⟩))/\LAt W w' T A (made0R M C S ring lazy) zeroV/\At w' pp (pairCells A cp sp) 39/\T pp=0/\W.heap.size≤pp:=by
 obtain⟨g1,g2,g3,g4⟩:=Zbe hg;have hmade:=Zey (M:=M) (C:=C) (S:=S) g4 h5 h6;have e1:(W.alloc (Zv #[O Z M,O Z C,O Z S] 23)).heap.size=W.heap.size+1:=Zaa _ _;have hrows:Hid (∀w,Calls Zw 24 #[.agg #[O Z M,O Z C,O Z S]] w fun e w'=>e=Zu (O Z ((S*C:Nat):Int))/\Below w.heap.size w w'):=fun w=>(Zo0 M C S w).mono fun e w' ⟨x1,x2⟩=>⟨by rw[x1];unfold geoRows;rw[Zf hg,Int.natCast_mul],x2⟩
 have HBN:Hid (∀w v B,w.ownsRow B 3 1 v (rszL M (S*C) ring).length (kcells (rszL M (S*C) ring))->Calls Zw 19 #[v] w fun e w'=>∃b,e=Zu (.tuple #[Zs (some ⟨b,0,none⟩),.int .u16 0])/\BayMade w (rBay M (S*C) ring) b w'):=fun w v B hv=>Zvx (rszL M (S*C) ring) v B w hv (by rw[Zby];omega) (by rw[Zby];omega) (fun x hx=>(Zq7 g4 h6 x hx).2)
 have HCN:Hid (∀w v B,w.ownsRow B 3 1 v (rszL M (S*C) ring).length (kcells (rszL M (S*C) ring))->Calls Zw 41 #[v] w fun e w'=>∃c,e=Zu (.tuple #[Zs (some ⟨c,0,none⟩),.int .u16 0])/\RBayMade w (rBay M (S*C) ring) c w'):=fun w v B hv=>Ztx (rszL M (S*C) ring) v B w hv (by rw[Zby];omega) (by rw[Zby];omega) (fun x hx=>Zq7 g4 h6 x hx)
 have hzM:(fun j=>if j<M then 1+S*C else 2+ring) M=2+ring:=Ze (by omega);have HFO:Hid (∀w T b c R,DuoAt W w T b c R (rBay M (S*C) ring) (rBay M (S*C) ring)->Calls Zw 21 #[Zs (some ⟨b,0,none⟩),O Z M,O Z ring,.int .u64 1] w fun e w'=>∃wp rp T',e=Zu (.tuple #[Zs (some ⟨wp,0,none⟩),.int .u16 0])/\w.heap.size≤wp/\w.heap.size≤rp/\T' wp=0/\T' rp=0/\DuoAt W w' T' b c R (formed (rBay M (S*C) ring) M ring 1) (rBay M (S*C) ring)/\At w' wp (walCells b M 1 rp 1 true none 0) 133/\RingAt w' rp ring 0 0/\(∀g cs t,W.heap.size≤g->T g=0->At w g cs t->At w' g cs t)/\¬R wp/\¬R rp):=fun w T b c R hd=>by
  refine(Zp1 hd.bay M ring 1 (Zkp g4 h6) (by rw[Zme];omega) trivial (by show 2+ring≤(fun j=>if j<M then 1+S*C else 2+ring) M;rw[hzM];omega) h5 h6 (by omega) (by show(0:Int)≤_;omega) (by show(0:Int)≤_;omega) (Ze1 _ _)).mono ?_;rintro e w' ⟨wp,rp,T',rfl,k1,k2,k3,k4,k5,k6,k7,k8,k9⟩;have hlt:=hd.ref.lt;exact⟨wp,rp,T',rfl,k1,k2,k3,k4,⟨k5,hd.ref.keep k7 (fun q hq e=>e (hd.off q hq)),fun q hq=>(k6 q (hlt q hq)).trans (hd.off q hq),fun q hq=>⟨(k6 q (Zd hq hd.bel.size)).trans (hd.old q hq).1,(hd.old q hq).2⟩,hd.bel.trans (k7.below fun q hq=>⟨Zd hq hd.bel.size,fun e=>e (hd.old q hq).1⟩)⟩,k8,k9,fun g cs t _ ht ha=>ha.mod k7 (fun e=>e ht),fun e=>by have:=hlt _ e;omega,fun e=>by have:=hlt _ e;omega⟩
 have HRF:Hid (∀w T b c R,DuoAt W w T b c R (formed (rBay M (S*C) ring) M ring 1) (rBay M (S*C) ring)->Calls Zw 42 #[Zs (some ⟨c,0,none⟩),O Z M,O Z ring,.int .u64 1] w fun e w'=>∃vp s' R',e=Zu (.tuple #[Zs (some ⟨vp,0,none⟩),.int .u16 0])/\DuoAt W w' T b c R' (formed (rBay M (S*C) ring) M ring 1) s'/\s'.n=M+1/\Chg R w w'):=fun w T b c R hd=>by
  refine(Zp0 hd.ref (Zkp g4 h6) M ring (by rw[Zme];omega) (by show 2+ring≤(fun j=>if j<M then 1+S*C else 2+ring) M;rw[hzM];omega) h5 h6 (by show(0:Int)≤_;omega) (by show(0:Int)≤_;omega) (Ze1 _ _)).mono ?_;rintro e w' ⟨vp,s',rfl,⟨R',k1,k2,k3⟩,k4⟩;refine⟨vp,s',R',rfl,⟨hd.bay.keep k3 (fun q hq e=>hq (hd.off q e)),k1,fun q hq=> ?_,fun q hq=>⟨(hd.old q hq).1,fun e=> ?_⟩,hd.bel.trans (k3.below fun q hq=>⟨Zd hq hd.bel.size,(hd.old q hq).2⟩)⟩,k4.trans (Zme M (S*C) ring),k3⟩
  ·rcases k2 q hq with e|e
   ·exact hd.off q e
   ·exact Zae hd.bay q e
  ·rcases k2 q e with e|e
   ·exact(hd.old q hq).2 e
   ·have:=hd.bel.size
    omega
 have HRN:Hid (∀w T b wp rp,BayAt w T b (formed (rBay M (S*C) ring) M ring 1)->At w wp (walCells b M 1 rp 1 true none 0) 133->RingAt w rp ring 0 0->T wp=0->T rp=0->Calls Zw 22 #[Zs (some ⟨b,0,none⟩),.agg #[O Z M,O Z C,O Z S],Zs (some ⟨wp,0,none⟩),.bool lazy] w fun e w'=>∃q fg,e=Zu (.tuple #[Zs (some ⟨q,0,none⟩),.int .u16 0])/\w.heap.size≤q/\w.heap.size≤fg/\RwIn w' T ⟨b,q,wp,rp,fg⟩ (made0R M C S ring lazy) none (Zt none 0 0) []/\Below w.heap.size w w'):=fun w T b wp rp hb hw hr tw tr=>Zuj hb M C S hg hmade.n wp rp 1 1 ring 0 0 true lazy none hw hr tw tr
 have HSN:Hid (∀w c R s' vp,RBayAt w R c s'->s'.n=M+1->Calls Zw 43 #[Zs (some ⟨c,0,none⟩),.agg #[O Z M,O Z C,O Z S],Zs (some ⟨vp,0,none⟩),.bool lazy] w fun e w'=>∃sp,e=Zu (.tuple #[Zs (some ⟨sp,0,none⟩),.int .u16 0])/\Below w.heap.size w w'):=fun w c R s' vp hr hn=>Zn9 hr M C S hg hn vp lazy
 have HGD:Hid (Good (made0R M C S ring lazy) zeroV):=Zfb hg h5 h6 hmade;clear hmade hg;unfold geo;go_enter Tryz.func11,Tryz.ntmps11;go_wp2;go_loopw [7,8] (fun v q wr=>∃k:Nat,k≤M/\q=O Z k/\wr.ownsRow (W.heap.size+1) 3 1 v k (kcells (List.replicate k (1+S*C)))/\Below W.heap.size W wr/\At wr W.heap.size #[O Z M,O Z C,O Z S] 23) (fun _ q _=>M-(intOf q).toNat);case atStart=>exact⟨0,by omega,rfl,World.ownsRow_nil _ _ _ _,(Zb _ _).alloc (Za _) _,At.new _ _ _⟩
 case round=>
  obtain⟨k,hk,rfl,hown,hbel,hA⟩:=hrel;have c0:=hA.cell 0;have c1:=hA.cell 1;have c2:=hA.cell 2;have HA:=hid hA;have HO:=hid hown;have hzl:=hA.lt;clear hA hown;by_cases hkM:k<M
  ·have K1:Hid (k+1≤M):=hkM
   have hsc:(((1+S*C:Nat)):Int)=1+((S*C:Nat):Int):=by omega
   have HSC:=hid hsc;clear hsc;generalize hR:S*C=R at*
   go_wp2_with (first
    |(go_at_call 24;refine(hrows.out _).mono ?_;rintro e w2 ⟨rfl,hb2⟩;have hown2:=Zaf HO.out hb2 (Za _))
    |(refine Zay rfl _ _ 57 3 8 rfl Zez (W.heap.size+1) _ k _ rfl hown2 _ rfl rfl (by unfold maxLen;omega) (by omega) (by have:=hb2.size;omega) ?_;intro v' w5 hown5 hb5 hgr5))
   refine⟨⟨k+1,K1.out,by go_num,?_,(Zac hbel hb2).trans (hb5.mono (Nat.le_succ _)),(HA.out.below hb2 hzl).below hb5 (Nat.lt_succ_self _)⟩,by simp[intOf];omega⟩;rw[List.replicate_succ',Zhe,HSC.out];exact hown5
  ·obtain rfl:M=k:=by omega
   have HLB:=hid hbel
   go_wp2_with (first
    |(refine Zay rfl _ _ 57 3 8 rfl Zez (W.heap.size+1) _ M _ rfl HO.out _ rfl rfl (by unfold maxLen;omega) (by omega) (by omega) ?_;intro v' w5 hown5 hb5 hgr5;have HV5:Hid (w5.ownsRow (W.heap.size+1) 3 1 v' (rszL M (S*C) ring).length (kcells (rszL M (S*C) ring))):=(by rw[Zby];unfold rszL;rw[Zhe,show(((2+ring:Nat)):Int)=2+(ring:Int) by omega];exact hown5);have HB5:Hid (Below W.heap.size W w5):=(HLB.out.trans (hb5.mono (Nat.le_succ _)));have HA5:=hid (HA.out.below hb5 (Nat.lt_succ_self _));have hs5:=HV5.out;obtain⟨va,vc,rfl⟩:=Zab hs5;clear hown5 hb5 hgr5 hs5 c0 c1 c2)
    |(go_at_call 19;(with_reducible refine(HBN.out _ _ _ HV5.out).mono ?_);rintro e w6 ⟨b,rfl,hbm⟩;obtain⟨T,hba,htz,hbw,hbe⟩:=hbm;have HV6:=hid (Zaf HV5.out hbe (Za _));have HA6:=hid (HA5.out.below hbe HA5.out.lt);have HBA6:=hid hba;have HTZ6:=hid htz;have HB6:=hid (HB5.out.trans (hbe.mono HB5.out.size));have HS6:=hid hbe.size;clear hba htz hbw hbe)
    |(go_at_call 41;(with_reducible refine(HCN.out _ _ _ HV6.out).mono ?_);rintro e w7 ⟨c,rfl,hcm⟩;obtain⟨hrb,hbe⟩:=hcm;have HA7:=hid (HA6.out.below hbe HA6.out.lt);have HD7:Hid (DuoAt W w7 T b c (fun q=>w6.heap.size≤q/\q<w7.heap.size) (rBay M (S*C) ring) (rBay M (S*C) ring)):=⟨HBA6.out.below hbe,hrb,fun q hq=>Zae HBA6.out q hq.1,fun q hq=>⟨HTZ6.out q (Zd hq HB5.out.size),fun e=>by have:=e.1;have:=HB6.out.size;omega⟩,HB6.out.trans (hbe.mono HB6.out.size)⟩;have HX7:Hid (T W.heap.size=0/\W.heap.size<w6.heap.size):=⟨HTZ6.out _ HA5.out.lt,HA6.out.lt⟩;have c0:=HA7.out.cell 0;have c1:=HA7.out.cell 1;have c2:=HA7.out.cell 2;have hl7:=HA7.out.lt;clear hrb hbe)
    |(go_at_call 21;(with_reducible refine(HFO.out w7 T b c _ HD7.out).mono ?_);rintro e w8 ⟨wp,rp,T8,rfl,hwp,hrp,twp,trp,hd8,hwal,hring,hkeep,hnw,hnr⟩;clear c0 c1 c2;have HA8:=hid (hkeep W.heap.size _ _ (Za _) HX7.out.1 HA7.out);have HD8:=hid hd8;have HW8:=hid hwal;have HR8:=hid hring;have HN8:=hid (And.intro hnw hnr);have HT8:=hid (And.intro twp trp);have HI8:Hid (W.heap.size≤wp/\W.heap.size≤rp):=⟨by omega,by omega⟩;have c0:=HA8.out.cell 0;have c1:=HA8.out.cell 1;have c2:=HA8.out.cell 2;have hl8:=HA8.out.lt;clear hd8 hwal hring hkeep hnw hnr twp trp hwp hrp)
    |(go_at_call 42;(with_reducible refine(HRF.out w8 T8 b c _ HD8.out).mono ?_);rintro e w9 ⟨vp,s',R',rfl,hd9,hn9,hch9⟩;clear c0 c1 c2;have HA9:=hid (HA8.out.mod hch9 (fun e=>by have:=e.1;have:=HX7.out.2;omega));have HW9:=hid (HW8.out.mod hch9 HN8.out.1);have HR9:Hid (RingAt w9 rp ring 0 0):=(HR8.out.mod hch9 HN8.out.2);have HD9:=hid hd9;have HN9:=hid hn9;have c0:=HA9.out.cell 0;have c1:=HA9.out.cell 1;have c2:=HA9.out.cell 2;have hl9:=HA9.out.lt;clear hd9 hn9 hch9)
    |(go_at_call 22;(with_reducible refine(HRN.out w9 T8 b wp rp HD9.out.bay HW9.out HR9.out HT8.out.1 HT8.out.2).mono ?_);rintro e w10 ⟨q,fg,rfl,hq,hfg,hrw,hb10⟩;clear c0 c1 c2;have HA10:=hid (HA9.out.below hb10 HA9.out.lt);have HD10:=hid (HD9.out.below hb10);have HRW10:=hid hrw;have HI10:Hid (W.heap.size≤q/\W.heap.size≤fg):=⟨by omega,by omega⟩;have c0:=HA10.out.cell 0;have c1:=HA10.out.cell 1;have c2:=HA10.out.cell 2;have hl10:=HA10.out.lt;clear hq hfg hrw hb10)
    |(go_at_call 43;(with_reducible refine(HSN.out w10 c R' s' vp HD10.out.ref HN9.out).mono ?_);rintro e w11 ⟨sp,rfl,hb11⟩;clear c0 c1 c2;have HRW11:=hid (HRW10.out.below hb11);have HB11:Hid (Below W.heap.size W w11):=(HD10.out.bel.trans (hb11.mono HD10.out.bel.size));clear hb11))
   go_ret;have hbA:Below w11.heap.size w11 (w11.alloc (Zv (pairCells ⟨b,q,wp,rp,fg⟩ c sp) 39)):=(Zb _ _).alloc (Za _) _;have hbg:BgAt W (w11.alloc (Zv (pairCells ⟨b,q,wp,rp,fg⟩ c sp) 39)) T8 ⟨b,q,wp,rp,fg⟩ (made0R M C S ring lazy):=
    ⟨HRW11.out.below hbA,fun q hq=>(HD10.out.old q hq).1,⟨HI10.out.1,HI8.out.1,HI8.out.2,HI10.out.2⟩,HB11.out.trans (hbA.mono HB11.out.size)⟩
   exact⟨T8,⟨b,q,wp,rp,fg⟩,_,c,sp,rfl,hbg.lat HGD.out rfl,At.new _ _ _,Zae HRW11.out.bay _ (Za _),HB11.out.size⟩
end Go.Proofs.YtljjjpakcbcioaaGreat
