
/- Several texts in one: RwE, RwF, RwG, HpA. -/
import Derived.Test.YtmemlkmnhcealaaGreatMrg20
import Derived.WalkSpells
import Derived.Lib.Hide
import Derived.Deep.QuietTactic
import Derived.BigQuiet
import Derived.Deep.RegionHeld3
import Derived.Deep.RegionWith
set_option linter.unusedVariables false
set_option maxRecDepth 100000
set_option maxHeartbeats 16000000
namespace Go.Proofs.YtmemlkmnhcealaaGreat
open Value renaming int→O,pointer→Zs,slice→Zt
open IntKind renaming i64→Z
open Ending renaming returned→Zu
open Obj renaming cells→Zv
open Go.Proofs.Tryz renaming prog→Zw
open Go.RowKit
open Lib(hid)
variable {A:Adr} {X:List OP} {B g tb:Nat} {F:Nat->List UInt8} {T:Nat->Nat} {V:Nat->Nat->Sec} {lg:Option Nat} {R:RS} {v vw:Value} {w wr wy:World}
def RS.one(R:RS)(j r:Nat):Nat:=if (waitAt R.wait j r).isSome=true then 0 else 1
def RS.others(R:RS)(m r:Nat):Nat->Nat
 |0=>0
 |k+1=>if k=m then R.others m r k else R.others m r k+R.one k r
theorem RS.others_le(R:RS)(m r:Nat):∀k,R.others m r k≤k
 |0=>Za _
 |k+1=>by
  have ih:=R.others_le m r k;show(if k=m then _ else _)≤_
  have:R.one k r≤1:=by unfold RS.one;split<;>omega
  split<;>omega
theorem Zie:SliceOf Zw 220 36 1 24:=SliceOf.mk' (z:=.slice none 0 0) Tryz.underlying220 (by decide) (by kernel_rfl) rfl
theorem RowsOf.fresh{n:Nat}{X:Nat->Prop}(h:At w g (List.replicate (n*1) (Value.slice none 0 0)).toArray 36):RowsOf w g n (fun _=> []) X:=by
 refine⟨fun _=>Zt none 0 0,?_,fun j hj=>⟨Seg.nil _,fun b q c hb=>by cases hb⟩⟩;have e:(List.replicate (n*1) (Value.slice none 0 0)).toArray=((List.range n).map fun _=>Value.slice none 0 0).toArray:=by
  congr 1;rw[Nat.mul_one];apply List.ext_getElem<;>simp
 rw[<-e];exact h
structure SolvAt (wr:World) (T:Nat->Nat) (A:Adr) (R:RS) (lg:Option Nat) (vw:Value) (X:List OP) (w:World) (tb g:Nat) (F:Nat->List UInt8):Prop where
 rw:RwIn wr T A R lg vw X
 box:At wr tb #[O Z 0,.int .u16 0] 76
 rows:RowsOf wr g R.M F (fun k=>T k≠0)
 chg:Chg (fun k=>T k≠0) w wr
 ttb:T tb=0
 ttg:T g=0
 hi:w.heap.size≤g/\w.heap.size≤tb
theorem SolvAt.below(h:SolvAt wr T A R lg vw X w tb g F)(hb:Below wr.heap.size wr wy):SolvAt wy T A R lg vw X w tb g F:=
 ⟨h.rw.below hb,h.box.below hb h.box.lt,h.rows.below hb,h.chg.trans (Zm hb _),h.ttb,h.ttg,h.hi⟩
theorem SolvAt.sec(h:SolvAt wr T A R lg vw X w tb g F){s':BaySt}(hr:RwIn wy T A {R with s:=s'} lg vw X)(hc:Chg (fun k=>T k≠0) wr wy):SolvAt wy T A {R with s:=s'} lg vw X w tb g F:=
 ⟨hr,h.box.mod hc (fun e=>e h.ttb),h.rows.chg hc (fun e=>e h.ttg) (fun k hk=>hk),h.chg.trans hc,h.ttb,h.ttg,h.hi⟩
theorem SolvAt.put(h:SolvAt wr T A R lg vw X w tb g F)(k:Nat)(hk:k<R.M){d:Sec}(ho:wr.ownsRow B 5 1 v 128 (ucells d))(hd:d.length=128)(hB:∀q,T q≠0->q<B):
  SolvAt (wr.setCell ⟨g,k,none⟩ v) T A R lg vw X w tb g (fun i=>if i=k then d else F i):=by
 obtain⟨U,hU,-⟩:=id h.rows;have hst:Chg (fun q=>q=g) wr (wr.setCell ⟨g,k,none⟩ v):=Zk (S:=fun q=>q=g) (Zl _ _) ⟨g,k,none⟩ (.inl rfl) _;have hsg:Seg wr v d:=Zao (base:=B) (by rw[hd];exact ho);have hr:=h.rw;have hq1:=Zaw hr.rw hU (by decide);have hq2:=Zaw hr.fr hU (by decide);have hq3:=Zaw hr.wal hU (by decide);have hq4:=Zaw hr.ring hU (by decide);refine⟨⟨hr.bay.keep hst (fun q hq e=>hq (by rw[e];exact h.ttg)),hr.rw.mod hst hq1,hr.fr.mod hst hq2,hr.wt.mod hst (fun q hq e=>hr.wOff hU (by decide) (by rw[hq,e])) (fun x hx q hq e=>hr.xOff hU (by decide) x hx (by rw[hq,e])),hr.wtT,hr.wtX,hr.wtM,hr.wal.mod hst hq3,hr.ring.mod hst hq4,hr.tq,hr.tf,hr.tw,hr.tr⟩,h.box.mod hst (Zaw h.box hU (by decide)),h.rows.set hk hsg (Off.own ho hB),?_,h.ttb,h.ttg,h.hi⟩;exact Zaj h.chg hst (fun q hq e=>by have:=h.hi;omega)
theorem Zod(h:RwIn w T A R lg vw X)(hs:Sound R V)(m r:Nat)(hm:m<R.M)(hr:r<R.S*R.C)(hd:R.dn m r=true)(hcnt:R.s.cnt 0≤999998000000)(hsm:R.s.small 1000000):
  Calls Zw 115 #[Zs (some ⟨A.q,0,none⟩),O Z m,O Z r] w (SecPost w T A R lg vw X (V m r) (R.others m r R.M)):=by
 have hb0:Below w.heap.size w (w.alloc (Zv #[O Z 0,.int .u16 0] 76)):=(Zb _ _).alloc (Za _) _;have hXf:X.length≤100000:=by
  have:=hs.wfew;rw[<-h.wtM,Zp]at this;omega
 have htb:T w.heap.size=0:=Zae h.bay _ (Za _);have hvirg:∀q,T q≠0->q<w.heap.size:=fun q hq=>by
  apply Classical.byContradiction;intro hn;exact hq (Zae h.bay q (by omega))
 have HVIRG:=hid hvirg;have h0:=h.below hb0;have hM:R.M≤16:=by
  have hg:=hs.geo;unfold geoIs at hg;simp only [Bool.and_eq_true,decide_eq_true_eq]at hg;omega
 have hrow:R.S*R.C≤4096:=by have:=Za0 hs.geo;exact_mod_cast this.2
 have hup:∀j,j<R.M->j≠m->R.dn j r=false:=fun j hj hjm=>by
  cases hdj:R.dn j r
  ·rfl
  ·exact absurd (hs.lone r hr j m hj hm hdj hd) hjm
 have HUP:=hid hup
 have HWA:Hid (∀j W,Below (w.alloc (Zv #[O Z 0,.int .u16 0] 76)).heap.size (w.alloc (Zv #[O Z 0,.int .u16 0] 76)) W->Calls Zw 113 #[Zs (some ⟨A.q,0,none⟩),O Z (j:Nat),O Z r] W fun e w'=>∃v ok,e=Zu (.tuple #[v,.bool ok])/\Below (w.alloc (Zv #[O Z 0,.int .u16 0] 76)).heap.size (w.alloc (Zv #[O Z 0,.int .u16 0] 76)) w'):=fun j W hb=>(Zc8 (h0.below hb) hXf j r).mono (by
  intro e w' hp
  rcases hp with ⟨-,rfl,hb'⟩|⟨d,v,-,rfl,-,hb'⟩
  ·exact⟨_,_,rfl,hb.trans (hb'.mono hb.size)⟩
  ·exact⟨_,_,rfl,hb.trans (hb'.mono hb.size)⟩)
 have HDN:Hid (∀j W,Below (w.alloc (Zv #[O Z 0,.int .u16 0] 76)).heap.size (w.alloc (Zv #[O Z 0,.int .u16 0] 76)) W->j<R.M->j≠m->Calls Zw 114 #[Zs (some ⟨A.q,0,none⟩),O Z (j:Nat),O Z r] W fun e w'=>e=Zu (.bool false)/\w'=W):=fun j W hb hj hjm=>(Zct j r W (h0.below hb).rw (h0.below hb).fr hj).mono (by
  rintro e w' ⟨rfl,rfl⟩
  rw[HUP.out j hj hjm]
  exact⟨rfl,rfl⟩)
 have HSS:Hid (∀W,Below (w.alloc (Zv #[O Z 0,.int .u16 0] 76)).heap.size (w.alloc (Zv #[O Z 0,.int .u16 0] 76)) W->W.cell? ⟨A.q,1,none⟩=some (O Z R.M)):=fun W hb=>(h0.below hb).rw.cell 1
 have HTB:Hid (At (w.alloc (Zv #[O Z 0,.int .u16 0] 76)) w.heap.size #[O Z 0,.int .u16 0] 76):=At.new _ _ _;have H:=hid h;have HS:=hid hs;have HBW:=hid hb0;have hqlt:=h.rw.lt;have s1:=HSS.out _ (Zb _ _);have hMI:(R.M:Int)≤16:=by omega
 obtain⟨M,hRM⟩:∃M,M=R.M:=⟨_,rfl⟩;have HRM:=hid hRM;rw[<-hRM]at hm hM hMI s1 HSS HDN;clear h hs hb0 h0 hvirg hup hRM;go_enter Tryz.func115,Tryz.ntmps115;go_wp2;go_loopw [22] (fun q wr=>∃k:Nat,k≤M/\q=O Z k/\Below (w.alloc (Zv #[O Z 0,.int .u16 0] 76)).heap.size (w.alloc (Zv #[O Z 0,.int .u16 0] 76)) wr) (fun q _=>M-(intOf q).toNat);case atStart=>exact⟨0,by omega,rfl,Zb _ _⟩
 case round=>
  obtain⟨k,hk,rfl,hbw⟩:=hrel;have HBR:=hid hbw;clear hbw;by_cases hkn:k<M
  ·have K1:Hid (k+1≤M):=hkn
   by_cases hkm:k=m
   ·as_aux_lemma=>
     subst hkm
     go_wp2_with (first
      |(go_at_call 113;(with_reducible refine(HWA.out _ _ HBR.out).mono ?_);rintro e w3 ⟨v,ok,rfl,hb3⟩;have HB3:=hid hb3;clear hb3))
     exact⟨⟨k+1,K1.out,by go_num,HB3.out⟩,by simp[intOf];omega⟩
   ·as_aux_lemma=>
     have hne:((k:Int) !=(m:Int))=true:=by simp;omega
     go_wp2_with (first
      |(go_at_call 113;(with_reducible refine(HWA.out _ _ HBR.out).mono ?_);rintro e w3 ⟨v,ok,rfl,hb3⟩;have HB3:=hid hb3;clear hb3)
      |(go_at_call 114;(with_reducible refine(HDN.out _ _ HB3.out hkn hkm).mono ?_);rintro e w4 ⟨rfl,hw4⟩;subst hw4))
     exact⟨⟨k+1,K1.out,by go_num,HB3.out⟩,by simp[intOf];omega⟩
  ·obtain rfl:k=M:=by omega
   have s2:=HSS.out _ HBR.out;clear HWA HDN s1
   go_wp2_with (first
    |(refine Zaq rfl _ _ 220 36 1 24 rfl Zie (Zt none 0 0) (by kernel_rfl) _ _ _ _ k rfl rfl rfl rfl (by omega) (by unfold maxLen;omega) ?_;intro w5 a5 b5;have A5:=hid a5;have B5:=hid b5;clear a5 b5))
   have HL0:Hid (SolvAt w5 T A {R with s:=R.s.ticks 0 (R.others m r 0)} lg vw X w w.heap.size wr.heap.size (fun i=>if i<0/\i≠m then V i r else [])):=by
    have hb5:Below w.heap.size w w5:=(HBW.out.trans (HBR.out.mono HBW.out.size)).trans (B5.out.mono (Zc HBW.out.size HBR.out.size));have e:({R with s:=R.s.ticks 0 (R.others m r 0)}:RS)=R:=by
     show({R with s:=R.s.ticks 0 0}:RS)=R
     rw[Zei]
    rw[e];refine⟨H.out.below hb5,(HTB.out.below HBR.out HTB.out.lt).below B5.out (HTB.out.below HBR.out HTB.out.lt).lt,?_,Zm hb5 _,htb,Zae H.out.bay _ (Zc HBW.out.size HBR.out.size),Zc HBW.out.size HBR.out.size,Za _⟩;have hro:=RowsOf.fresh (X:=fun k=>T k≠0) A5.out;rw[HRM.out]at hro;exact hro.congr fun j hj=>by simp
   have hgl:w.heap.size≤wr.heap.size:=Zc HBW.out.size HBR.out.size;clear HSS s2 A5 B5 HBR HTB;generalize wr.heap.size=g at*;go_loopw [55] (fun q wx=>∃j:Nat,j≤k/\q=O Z j/\SolvAt wx T A {R with s:=R.s.ticks 0 (R.others m r j)} lg vw X w w.heap.size g (fun i=>if i<j/\i≠m then V i r else [])) (fun q _=>k-(intOf q).toNat);case atStart=>exact⟨0,by omega,rfl,HL0.out⟩
   case round=>
    obtain⟨j,hj,rfl,hsv⟩:=hrel;have HSV:=hid hsv;clear hsv HL0;by_cases hjk:j<k
    ·have K1:Hid (j+1≤k):=hjk
     by_cases hjm:j=m
     ·as_aux_lemma=>
       subst hjm;have HN:Hid (SolvAt wr T A {R with s:=R.s.ticks 0 (R.others j r (j+1))} lg vw X w w.heap.size g (fun i=>if i<j+1/\i≠j then V i r else [])):=by
        have e:R.others j r (j+1)=R.others j r j:=Zf rfl;show SolvAt _ _ _ _ _ _ _ _ _ _ _
        rw[e];have hv:=HSV.out
        exact⟨hv.rw,hv.box,hv.rows.congr fun i hi=>by
         by_cases h1:i<j
         ·rw[Zf ⟨by omega,by omega⟩,Zf ⟨h1,by omega⟩]
         ·rw[Ze (by omega),Ze (by omega)],hv.chg,hv.ttb,hv.ttg,hv.hi⟩
       go_wp2;exact⟨⟨j+1,K1.out,by go_num,HN.out⟩,by simp[intOf];omega⟩
     ·as_aux_lemma=>
       have hne:((j:Int)==(m:Int))=false:=by simp;omega
       have hjR:j<R.M:=by rw[<-HRM.out];exact hjk
       have HSEC:Hid (Calls Zw 68 #[Zs (some ⟨A.q,0,none⟩),O Z j,O Z r] wr (SecPost wr T A {R with s:=R.s.ticks 0 (R.others m r j)} lg vw X (V j r) (R.one j r))):=by
        have hs':=HS.out.ticks (R.others m r j);cases hw:waitAt R.wait j r with
        |none=>
         have e:R.one j r=1:=by unfold RS.one;rw[hw];rfl
         rw[e];exact Zeq HSV.out.rw hs' j r hjR hr hw (HUP.out j hjR hjm) (by show(R.s.ticks 0 _).cnt 0≤_;rw[Zb7];have:=R.others_le m r j;omega) hsm
        |some d=>
         have e:R.one j r=0:=by unfold RS.one;rw[hw];rfl
         rw[e];exact Zdy HSV.out.rw hs' j r hjR hr d hw
       have HLV:Hid ((V j r).length=128):=HS.out.len j r hjR hr;have e1:R.others m r (j+1)=R.others m r j+R.one j r:=Ze hjm;have HE1:=hid e1;clear e1;have hkl:(j:Int)<(k:Int):=by omega
       go_wp2_with (first
        |(go_at_call 68;(with_reducible refine HSEC.out.mono ?_);rintro e w7 ⟨v7,rfl,ho7,hr7,hc7⟩;have HO7:=hid ho7;have HV7:=hid (HSV.out.sec hr7 hc7);obtain⟨a7,c7,rfl⟩:=Zab ho7;obtain⟨u7,d7,-,-⟩:=HV7.out.rows.cell hjR;have f7:=HV7.out.rows.free j;have hg7:=HV7.out.rows.lt;clear ho7 hr7 hc7))
       have HP7:=hid (HV7.out.put j hjR HO7.out HLV.out (fun q hq=>Zd (HVIRG.out q hq) HSV.out.chg.size));have HN:Hid (SolvAt ((w7.setCell ⟨g,j,none⟩ (Zt a7 128 c7)).alloc (Zv #[O Z 0,.int .u16 0] 76)) T A {R with s:=R.s.ticks 0 (R.others m r (j+1))} lg vw X w w.heap.size g (fun i=>if i<j+1/\i≠m then V i r else [])):=by
        have hv:=HP7.out.below ((Zb _ _).alloc (Za _) (Zv #[O Z 0,.int .u16 0] 76));show SolvAt _ _ _ _ _ _ _ _ _ _ _
        rw[HE1.out,<-Zeu]
        exact⟨hv.rw,hv.box,hv.rows.congr fun i hi=>by
         by_cases h1:i=j
         ·rw[Zf h1,h1,Zf ⟨by omega,hjm⟩]
         ·rw[Ze h1]
          by_cases h2:i<j/\i≠m
          ·rw[Zf h2,Zf ⟨by omega,h2.2⟩]
          ·rw[Ze h2,Ze (by omega)],hv.chg,hv.ttb,hv.ttg,hv.hi⟩
       exact⟨⟨j+1,K1.out,by go_num,HN.out⟩,by simp[intOf];omega⟩
    ·obtain rfl:j=k:=by omega
     have hmR:m<R.M:=by rw[<-HRM.out];exact hm
     have hpl:Hid (Calls Zw 156 #[.agg #[O Z R.M,O Z R.C,O Z R.S],O Z r,O Z m,Zt (some ⟨g,0,none⟩) R.M R.M] wr fun e w'=>∃v,e=Zu (.tuple #[v,.int .u16 0])/\w'.ownsRow wr.heap.size 5 1 v 128 (ucells (V m r))/\Below wr.heap.size wr w'):=by
      have hsg:=HSV.out.rows.segs;have hgd:∀i,i<R.M->i≠m->((List.range R.M).map fun i=>if i<j/\i≠m then V i r else []).getD i []=V i r:=fun i hi him=>by
       rw[Zlh _ hi,Zf ⟨by rw[HRM.out];exact hi,him⟩]
      have hc:=Zp8 R.M R.C R.S r m _ _ wr HS.out.geo hr hmR hsg (by simp) (fun i hi him=>by rw[hgd i hi him];exact HS.out.len i r hi hr);rw[solved (F:=fun i=>V i r) hmR (HS.out.even r hr) hgd (HS.out.len m r hmR hr)]at hc;exact hc
     have q1:wr.cell? ⟨A.q,1,none⟩=some (O Z R.M):=HSV.out.rw.rw.cell 1;have q2:wr.cell? ⟨A.q,2,none⟩=some (O Z R.C):=HSV.out.rw.rw.cell 2;have q3:wr.cell? ⟨A.q,3,none⟩=some (O Z R.S):=HSV.out.rw.rw.cell 3;rw[<-HRM.out]at q1 hpl;clear HUP
     go_wp2_with (first
      |(go_at_call 156;(with_reducible refine hpl.out.mono ?_);rintro e w7 ⟨v7,rfl,ho7,hb7⟩;have HO7:=hid ho7;have HB7:=hid hb7;obtain⟨a7,c7,rfl⟩:=Zab ho7;clear ho7 hb7)
      |(go_at_call 55;(with_reducible refine(Zdf _ _).mono ?_);rintro e w8 ⟨rfl,hb8⟩;have HV8:=hid ((HSV.out.below HB7.out).below hb8);have HO8:=hid (Zaf HO7.out hb8 (Za _));have k0:w8.cell? ⟨w.heap.size,0,none⟩=some (O Z 0):=HV8.out.box.cell 0;have k1:w8.cell? ⟨w.heap.size,1,none⟩=some (.int .u16 0):=HV8.out.box.cell 1;have f0:=HV8.out.box.free 0;have f1:=HV8.out.box.free 1;clear hb8))
     have hst:Chg (fun k=>k=w.heap.size) w8 ((w8.setCell ⟨w.heap.size,0,none⟩ (O Z 0)).setCell ⟨w.heap.size,1,none⟩ (.int .u16 0)):=Zk (S:=fun k=>k=w.heap.size) (Zk (S:=fun k=>k=w.heap.size) (Zl _ _) ⟨w.heap.size,0,none⟩ (.inl rfl) _) ⟨w.heap.size,1,none⟩ (.inl rfl) _;have hF:=(HV8.out.box.set 0 (O Z 0)).set 1 (.int .u16 0);have r0:=hF.cell 0;have r1:=hF.cell 1;have hcF:Chg (fun k=>T k≠0) w ((w8.setCell ⟨w.heap.size,0,none⟩ (O Z 0)).setCell ⟨w.heap.size,1,none⟩ (.int .u16 0)):=Zaj HV8.out.chg hst (fun q hq e=>by omega);have HEND:Hid (SecPost w T A R lg vw X (V m r) (R.others m r R.M) (Zu (.tuple #[Zt a7 128 c7,.agg #[O Z 0,.int .u16 0]])) ((w8.setCell ⟨w.heap.size,0,none⟩ (O Z 0)).setCell ⟨w.heap.size,1,none⟩ (.int .u16 0))):=by
      refine⟨_,rfl,Zan (Zad HO8.out hst (fun q hq e=>Za4 HO8.out HV8.out.box (by decide) (by rw[hq,e]))) HSV.out.chg.size,?_,hcF⟩;have hbay:=HV8.out.rw.bay.keep hst (fun k hk e=>hk (by rw[e];exact htb));have hrw:=H.out.turn (T':=T) (s':=R.s.ticks 0 (R.others m r j)) hbay (fun _ _=>rfl) hcF;rw[HRM.out]at hrw;exact hrw
     clear hst hF hcF HV8 HO8 HO7 HB7 hpl HSV HS H HVIRG;(try simp only [Exit.inBlock,Exit.then]);refine bodyPost_ret (v:=.tuple #[Zt a7 128 c7,.agg #[O Z 0,.int .u16 0]]) ?_ rfl HEND.out;rw[Zbw rfl];go_simp;try rfl
open Go.RowKit
theorem Zgo(h:RwIn w T A R lg vw X)(hs:Sound R V)(m r:Nat)(hm:m<R.M)(hr:r<R.S*R.C)(hw:waitAt R.wait m r=none)(hd:R.dn m r=true)(hcnt:R.s.cnt 0≤999998000000)(hsm:R.s.small 1000000):
  Calls Zw 68 #[Zs (some ⟨A.q,0,none⟩),O Z m,O Z r] w (SecPost w T A R lg vw X (V m r) (R.others m r R.M)):=by
 have hb0:Below w.heap.size w (w.alloc (Zv #[O Z 0,.int .u16 0] 76)):=(Zb _ _).alloc (Za _) _;have hXf:X.length≤100000:=by
  have:=hs.wfew;rw[<-h.wtM,Zp]at this;omega
 have htb:T w.heap.size=0:=Zae h.bay _ (Za _);have h0:=h.below hb0;have HSS:Hid (∀W,Below (w.alloc (Zv #[O Z 0,.int .u16 0] 76)).heap.size (w.alloc (Zv #[O Z 0,.int .u16 0] 76)) W->W.cell? ⟨A.q,0,none⟩=some (Zs (some ⟨A.b,0,none⟩))/\W.cell? ⟨A.q,1,none⟩=some (O Z R.M)/\W.cell? ⟨A.q,2,none⟩=some (O Z R.C)/\W.cell? ⟨A.q,3,none⟩=some (O Z R.S)):=fun W hb=>⟨(h0.below hb).rw.cell 0,(h0.below hb).rw.cell 1,(h0.below hb).rw.cell 2,(h0.below hb).rw.cell 3⟩
 have HIS:Hid (∀W,Below (w.alloc (Zv #[O Z 0,.int .u16 0] 76)).heap.size (w.alloc (Zv #[O Z 0,.int .u16 0] 76)) W->Calls Zw 112 #[Zs (some ⟨A.q,0,none⟩),O Z m] W fun e w'=>e=Zu (.bool true)/\w'=W):=fun W hb=>(Zf1 (m:Int) W (h0.below hb).rw).mono (by
  rintro e w' ⟨rfl,rfl⟩
  refine⟨?_,rfl⟩
  have:(decide ((0:Int)≤m)&&decide ((m:Int)<(R.M:Int)))=true:=by simp;omega
  rw[this])
 have HGR:Hid (∀W,Below (w.alloc (Zv #[O Z 0,.int .u16 0] 76)).heap.size (w.alloc (Zv #[O Z 0,.int .u16 0] 76)) W->Calls Zw 40 #[.agg #[O Z R.M,O Z R.C,O Z R.S]] W fun e w'=>e=Zu (O Z (R.S*R.C:Nat))/\Below (w.alloc (Zv #[O Z 0,.int .u16 0] 76)).heap.size (w.alloc (Zv #[O Z 0,.int .u16 0] 76)) w'):=fun W hb=>(Zfc R.M R.C R.S W).mono (by
  rintro e w' ⟨rfl,hb'⟩
  exact⟨by rw[Zg0 hs.geo],hb.trans (hb'.mono hb.size)⟩)
 have HWA:Hid (∀W,Below (w.alloc (Zv #[O Z 0,.int .u16 0] 76)).heap.size (w.alloc (Zv #[O Z 0,.int .u16 0] 76)) W->Calls Zw 113 #[Zs (some ⟨A.q,0,none⟩),O Z m,O Z r] W fun e w'=>e=Zu (.tuple #[Zt none 0 0,.bool false])/\Below (w.alloc (Zv #[O Z 0,.int .u16 0] 76)).heap.size (w.alloc (Zv #[O Z 0,.int .u16 0] 76)) w'):=fun W hb=>(Zc8 (h0.below hb) hXf m r).mono (by
  intro e w' hp
  rcases hp with ⟨-,rfl,hb'⟩|⟨d,v,hd',-⟩
  ·exact⟨rfl,hb.trans (hb'.mono hb.size)⟩
  ·rw[hw]at hd';cases hd')
 have HDN:Hid (∀W,Below (w.alloc (Zv #[O Z 0,.int .u16 0] 76)).heap.size (w.alloc (Zv #[O Z 0,.int .u16 0] 76)) W->Calls Zw 114 #[Zs (some ⟨A.q,0,none⟩),O Z m,O Z r] W fun e w'=>e=Zu (.bool true)/\w'=W):=fun W hb=>(Zct m r W (h0.below hb).rw (h0.below hb).fr hm).mono (by
  rintro e w' ⟨rfl,rfl⟩
  rw[hd]
  exact⟨rfl,rfl⟩)
 have HSO:Hid (∀W,Below (w.alloc (Zv #[O Z 0,.int .u16 0] 76)).heap.size (w.alloc (Zv #[O Z 0,.int .u16 0] 76)) W->Calls Zw 115 #[Zs (some ⟨A.q,0,none⟩),O Z m,O Z r] W (SecPost W T A R lg vw X (V m r) (R.others m r R.M))):=fun W hb=>Zod (h0.below hb) hs m r hm hr hd hcnt hsm
 obtain⟨cn,hcn⟩:∃cn,cn=R.others m r R.M:=⟨_,rfl⟩;rw[<-hcn]at HSO ⊢;clear hcn;have HB0:Hid (Below (w.alloc (Zv #[O Z 0,.int .u16 0] 76)).heap.size (w.alloc (Zv #[O Z 0,.int .u16 0] 76)) (w.alloc (Zv #[O Z 0,.int .u16 0] 76))):=Zb _ _;have HTB:Hid (At (w.alloc (Zv #[O Z 0,.int .u16 0] 76)) w.heap.size #[O Z 0,.int .u16 0] 76):=At.new _ _ _;have hrI:(r:Int)<((R.S*R.C:Nat):Int):=by exact_mod_cast hr
 have hrow:R.S*R.C≤4096:=by have:=Za0 hs.geo;exact_mod_cast this.2
 have H:=hid h;have HBW:=hid hb0;have hqlt:=h.rw.lt;obtain⟨s0,s1,s2,s3⟩:=HSS.out _ (Zb _ _);clear h hs hw hd hb0 h0;generalize R.M=M at*;generalize R.C=C at*;generalize R.S=S at*;generalize hSC:S*C=N at*;go_enter Tryz.func68,Tryz.ntmps68
 go_wp2_with (first
  |(go_at_call 112;(with_reducible refine(HIS.out _ HB0.out).mono ?_);rintro e w1 ⟨rfl,hw1⟩;subst hw1)
  |(go_at_call 40;(with_reducible refine(HGR.out _ HB0.out).mono ?_);rintro e w2 ⟨rfl,hb2⟩;have HB2:=hid hb2;clear hb2)
  |(go_at_call 113;(with_reducible refine(HWA.out _ HB2.out).mono ?_);rintro e w3 ⟨rfl,hb3⟩;have HB3:=hid hb3;obtain⟨u0,u1,u2,u3⟩:=HSS.out _ hb3;clear hb3)
  |(go_at_call 114;(with_reducible refine(HDN.out _ HB3.out).mono ?_);rintro e w4 ⟨rfl,hw4⟩;subst hw4)
  |(go_at_call 115;(with_reducible refine(HSO.out _ HB3.out).mono ?_);rintro e w6 ⟨v5,rfl,ho5,hr6,hc6⟩;have HO5:=hid (Zan ho5 (Zc HBW.out.size HB3.out.size));have HR6:=hid hr6;have HC6:Hid (Chg (fun k=>T k≠0) (w.alloc (Zv #[O Z 0,.int .u16 0] 76)) w6):=Zaj (Zm HB3.out _) hc6 (fun q _ hq=>hq);obtain⟨a5,c5,rfl⟩:=Zab ho5;have htb6:=HTB.out.mod HC6.out (fun e=>e htb);have k0:w6.cell? ⟨w.heap.size,0,none⟩=some (O Z 0):=htb6.cell 0;have k1:w6.cell? ⟨w.heap.size,1,none⟩=some (.int .u16 0):=htb6.cell 1;have f0:=htb6.free 0;have f1:=htb6.free 1;have HT6:=hid htb6;clear hr6 hc6 htb6 ho5))
 have hst:Chg (fun k=>k=w.heap.size) w6 ((w6.setCell ⟨w.heap.size,0,none⟩ (O Z 0)).setCell ⟨w.heap.size,1,none⟩ (.int .u16 0)):=Zk (S:=fun k=>k=w.heap.size) (Zk (S:=fun k=>k=w.heap.size) (Zl _ _) ⟨w.heap.size,0,none⟩ (.inl rfl) _) ⟨w.heap.size,1,none⟩ (.inl rfl) _;have hF:=(HT6.out.set 0 (O Z 0)).set 1 (.int .u16 0);have r0:=hF.cell 0;have r1:=hF.cell 1;have hc6:Chg (fun k=>T k≠0) w w6:=(Zaj (Zm HBW.out _) HC6.out (fun q _ hq=>hq));have hcF:Chg (fun k=>T k≠0) w ((w6.setCell ⟨w.heap.size,0,none⟩ (O Z 0)).setCell ⟨w.heap.size,1,none⟩ (.int .u16 0)):=Zaj hc6 hst (fun q hq e=>by omega);have HEND:Hid (SecPost w T A R lg vw X (V m r) cn (Zu (.tuple #[Zt a5 128 c5,.agg #[O Z 0,.int .u16 0]])) ((w6.setCell ⟨w.heap.size,0,none⟩ (O Z 0)).setCell ⟨w.heap.size,1,none⟩ (.int .u16 0))):=by
  refine⟨_,rfl,Zad HO5.out hst (fun q hq e=>Za4 HO5.out HT6.out (by decide) (by rw[hq,e])),H.out.turn (T':=T) (HR6.out.bay.keep hst (fun k hk e=>hk (by rw[e];exact htb))) (fun _ _=>rfl) hcF,hcF⟩
 clear hst hF hc6 hcF HT6 HO5 HR6 HC6;(try simp only [Exit.inBlock,Exit.then]);refine bodyPost_ret (v:=.tuple #[Zt a5 128 c5,.agg #[O Z 0,.int .u16 0]]) ?_ rfl HEND.out;rw[Zbw rfl];go_simp;try rfl
def RS.rc(R:RS)(m r:Nat):Nat:=if (waitAt R.wait m r).isSome=true then 0 else if R.dn m r=true then R.others m r R.M else 1
theorem RS.rc_le(R:RS)(m r:Nat):R.rc m r≤R.M+1:=by
 have:=R.others_le m r R.M;unfold RS.rc;split
 ·omega
 ·split<;>omega
theorem Zid(h:RwIn w T A R lg vw X)(hs:Sound R V)(m r:Nat)(hm:m<R.M)(hr:r<R.S*R.C)(hcnt:R.s.cnt 0≤999998000000)(hsm:R.s.small 1000000):
  Calls Zw 68 #[Zs (some ⟨A.q,0,none⟩),O Z m,O Z r] w (SecPost w T A R lg vw X (V m r) (R.rc m r)):=by
 unfold RS.rc;cases hw:waitAt R.wait m r with
 |some d=>exact Zdy h hs m r hm hr d hw
 |none=>
  cases hd:R.dn m r
  ·exact Zeq h hs m r hm hr hw hd (by omega) hsm
  ·exact Zgo h hs m r hm hr hw hd hcnt hsm
open Go.RowKit
open Go.RowKit
abbrev PL:=Int×Int
def plc(p:PL):List Value:= [O Z p.1,O Z p.2]
def plv(p:PL):Value:=.agg #[O Z p.1,O Z p.2]
def wayL(L:List PL):List Value:=L.flatMap plc
theorem Zbz:∀L:List PL,(wayL L).length=L.length*2
 | []=>rfl
 |p::L=>by
  have ih:=Zbz L;show(plc p++wayL L).length=_
  rw[Zo,ih];show 2+L.length*2=(L.length+1)*2
  omega
theorem Zj2:∀(L:List PL) (i:Nat) (h:i<L.length),(wayL L)[i*2]?=some (O Z L[i].1)/\(wayL L)[i*2+1]?=some (O Z L[i].2)
 |p::L,0,_=>⟨rfl,rfl⟩
 |p::L,i+1,h=>by
  have ih:=Zj2 L i (by simpa using h);have e:wayL (p::L)=O Z p.1::O Z p.2::wayL L:=rfl;rw[e,show(i+1)*2=i*2+1+1 by omega];simpa using ih
theorem Zhp(L M:List PL):wayL (L++M)=wayL L++wayL M:=List.flatMap_append
theorem Zry(L:List PL)(n:Nat):(wayL L).take (n*2)=wayL (L.take n):=by
 have e:wayL L=wayL (L.take n)++wayL (L.drop n):=by rw[<-Zhp,List.take_append_drop]
 rw[e];by_cases h:n≤L.length
 ·rw[List.take_left' (by rw[Zbz,List.length_take];omega)]
 ·rw[List.take_of_length_le (by rw[Zo,Zbz,Zbz,List.length_take,List.length_drop];omega),List.drop_of_length_le (by omega)]
  simp[wayL]
theorem Zo3(L:List PL)(i:Nat)(p:PL)(h:i<L.length):((wayL L).set (i*2) (O Z p.1)).set (i*2+1) (O Z p.2)=wayL (L.set i p):=by
 apply List.ext_getElem?;intro j;have hl:=Zbz L;by_cases hj:j<L.length*2
 ·obtain⟨a,b,rfl,hb⟩:∃a b,j=a*2+b/\b<2:=⟨j/2,j%2,by omega,by omega⟩
  have ha:a<L.length:=by omega
  obtain⟨h1,h2⟩:=Zj2 L a ha;obtain⟨k1,k2⟩:=Zj2 (L.set i p) a (by simpa using ha);simp only [List.getElem?_set];by_cases hai:a=i
  ·subst hai
   simp only [List.getElem_set_self]at k1 k2;have:b=0\/b=1:=by omega
   rcases this with rfl|rfl
   ·simp only [Nat.add_zero]
    rw[k1,Ze (by omega)];simp;omega
   ·rw[k2,Zf rfl,Zf (by rw[List.length_set];omega)]
  ·rw[List.getElem_set_ne (by omega)]at k1 k2
   rw[Ze (by omega),Ze (by omega)];have:b=0\/b=1:=by omega
   rcases this with rfl|rfl
   ·simp only [Nat.add_zero]
    rw[h1,k1]
   ·rw[h2,k2]
 ·rw[List.getElem?_eq_none (by simp;omega),List.getElem?_eq_none (by rw[Zbz];simp;omega)]
def swapL(L:List PL)(i j:Nat):List PL:=(L.set i (L.getD j (0,0))).set j (L.getD i (0,0))
theorem Za1(L:List PL)(i j:Nat):(swapL L i j).length=L.length:=by simp[swapL]
theorem Zdh(L:List PL)(i j:Nat)(hi:i<L.length)(hj:j<L.length):(swapL L i j).Perm L:=by
 unfold swapL;rw[Zi,Zi,Zh hi,Zh hj];exact List.set_set_perm hi hj
def lessL(p q:PL):Bool:=decide (p.2<q.2)||(decide (p.2=q.2)&&decide (p.1<q.1))
theorem Zli:SliceOf Zw 314 318 2 16:=SliceOf.mk' (z:=.agg #[.int .i64 0,.int .i64 0]) Tryz.underlying314 (by decide) (by kernel_rfl) rfl
def WayRow(w:World)(B:Nat)(v:Value)(L:List PL):Prop:=w.ownsRow B 318 2 v L.length (wayL L)
theorem WayRow.cells{L:List PL}(h:WayRow w B v L)(hn:0<L.length):∃g cap,v=Zt (some ⟨g,0,none⟩) L.length cap/\B≤g/\g<w.heap.size/\(∀i (hi:i<L.length),w.cell? ⟨g,i*2,none⟩=some (O Z L[i].1)/\w.cell? ⟨g,i*2+1,none⟩=some (O Z L[i].2))/\∀k,w.frozen? ⟨g,k,none⟩=false:=by
 obtain⟨h1,h2⟩:=h;rcases h2 with ⟨-,h2⟩|⟨g,cap,cur,rfl,hb,hg,hc1,hc2,hs,ht⟩
 ·omega
 ·refine⟨g,cap,rfl,hb,lt_of_block hg,fun i hi=> ?_,fun k=> ?_⟩
  ·have hcell:∀k,w.cell? ⟨g,k,none⟩=cur[k]?:=fun k=>by
    unfold World.cell?;simp[hg]
   obtain⟨k1,k2⟩:=Zj2 L i hi;rw[<-ht]at k1 k2;rw[List.getElem?_take_of_lt (by omega)]at k1 k2;rw[hcell,hcell];exact⟨by simpa using k1,by simpa using k2⟩
  ·unfold World.frozen?
   simp[hg]
theorem WayRow.swap{cap:Nat}{L:List PL}(h:WayRow w B (Zt (some ⟨g,0,none⟩) L.length cap) L)(i j:Nat)(hi:i<L.length)(hj:j<L.length):
  WayRow ((((w.setCell ⟨g,i*2,none⟩ (O Z L[j].1)).setCell ⟨g,i*2+1,none⟩ (O Z L[j].2)).setCell ⟨g,j*2,none⟩ (O Z L[i].1)).setCell ⟨g,j*2+1,none⟩ (O Z L[i].2)) B (Zt (some ⟨g,0,none⟩) L.length cap) (swapL L i j):=by
 have hset:∀(w:World) (xs:List Value) (k:Nat) (u:Value),w.ownsRow B 318 2 (Zt (some ⟨g,0,none⟩) L.length cap) L.length xs->k<L.length*2->(w.setCell ⟨g,k,none⟩ u).ownsRow B 318 2 (Zt (some ⟨g,0,none⟩) L.length cap) L.length (xs.set k u):=fun w xs k u h hk=>by
  obtain⟨h1,h2⟩:=h;refine⟨by simpa using h1,?_⟩;rcases h2 with ⟨h2,-⟩|⟨g',cap',cur,e,hb,hg,hc1,hc2,hs,ht⟩
  ·cases h2
  ·simp only [Zn,Zg,Addr.mk.injEq]at e
   obtain⟨⟨rfl,-,-⟩,-,rfl⟩:=e;refine .inr ⟨g,cap,cur.setIfInBounds k u,rfl,hb,?_,hc1,hc2,by simpa using hs,?_⟩
   ·simp[World.setCell,Array.getElem?_modify,hg]
   ·rw[Array.toList_setIfInBounds,List.take_set,ht]
 have h1:=hset _ _ (i*2) (O Z L[j].1) h (by omega);have h2:=hset _ _ (i*2+1) (O Z L[j].2) h1 (by omega);rw[Zo3 L i L[j] hi]at h2;have h3:=hset _ _ (j*2) (O Z L[i].1) h2 (by omega);have h4:=hset _ _ (j*2+1) (O Z L[i].2) h3 (by omega);rw[Zo3 (L.set i L[j]) j L[i] (by simpa using hj)]at h4;have e:swapL L i j=(L.set i L[j]).set j L[i]:=by
  unfold swapL;rw[Zi,Zi,Zh hi,Zh hj];rfl
 unfold WayRow;rw[Za1,e];exact h4
theorem Zsc(v:Value)(L:List PL)(B:Nat)(w:World)(h:WayRow w B v L):Calls Zw 325 #[v] w fun e w'=>e=Zu (O Z (L.length:Nat))/\w'=w:=by
 obtain⟨a,c,rfl⟩:=Zab h;clear h;go_enter Tryz.func325,Tryz.ntmps325;go_wp2;go_ret;exact⟨rfl,rfl⟩
theorem Zox(v:Value)(L:List PL)(B i j:Nat)(w:World)(h:WayRow w B v L)(hi:i<L.length)(hj:j<L.length)(hn:L.length≤1000000):Calls Zw 326 #[v,O Z i,O Z j] w fun e w'=>e=Zu (.bool (lessL L[i] L[j]))/\Below w.heap.size w w':=by
 obtain⟨g,cap,rfl,hB,hg,hc,-⟩:=h.cells (by omega);obtain⟨c1,c2⟩:=hc i hi;obtain⟨d1,d2⟩:=hc j hj;have hle:lessL L[i] L[j]=(decide (L[i].2<L[j].2)||(decide (L[i].2=L[j].2)&&decide (L[i].1<L[j].1))):=rfl;rw[hle];clear h hc hle;generalize L[i].1=x1 at*;generalize L[i].2=x2 at*;generalize L[j].1=y1 at*;generalize L[j].2=y2 at*;have hcases:(x2<y2)\/(x2=y2/\x1<y1)\/(x2=y2/\¬x1<y1)\/(¬x2<y2/\x2≠y2):=by omega
 rcases hcases with h|⟨h,h'⟩|⟨h,h'⟩|⟨h,h'⟩
 ·have e:(decide (x2<y2)||(decide (x2=y2)&&decide (x1<y1)))=true:=by simp[h]
  rw[e];go_enter Tryz.func326,Tryz.ntmps326;go_wp2;go_quiet (fail);go_wp2;go_ret;exact⟨rfl,below_drewN (Zb _ _) _⟩
 ·subst h
  have e:(decide (x2<x2)||(decide (x2=x2)&&decide (x1<y1)))=true:=by simp[h']
  rw[e];go_enter Tryz.func326,Tryz.ntmps326;go_wp2;go_quiet (fail);go_wp2;go_ret;exact⟨by simp,below_drewN (Zb _ _) _⟩
 ·subst h
  have e:(decide (x2<x2)||(decide (x2=x2)&&decide (x1<y1)))=false:=by simp[h']
  rw[e];go_enter Tryz.func326,Tryz.ntmps326;go_wp2;go_quiet (fail);go_wp2;go_ret;exact⟨by simp[h'],below_drewN (Zb _ _) _⟩
 ·have e:(decide (x2<y2)||(decide (x2=y2)&&decide (x1<y1)))=false:=by simp[h,h']
  rw[e];go_enter Tryz.func326,Tryz.ntmps326;go_wp2;go_quiet (fail);go_wp2;go_ret;exact⟨by simp;omega,below_drewN (Zb _ _) _⟩
end Go.Proofs.YtmemlkmnhcealaaGreat
