
/- plan.Split: a batch's blocks, given to their rows. -/
import Derived.Test.YtmemlkmnhcealaaGreatMrg19
import Derived.Carry
set_option linter.unusedVariables false
set_option maxRecDepth 100000
set_option maxHeartbeats 16000000
namespace Go.Proofs.YtmemlkmnhcealaaGreat
open Value renaming int→O,slice→Zt
open IntKind renaming i64→Z
open Obj renaming cells→Zv
open Go.RowKit
open Lib(hid)
def thereIs(M C S:Nat)(b:Int):Prop:=0≤b/\b<(S:Int)*C*((M:Int)-1)
theorem Zdv(us:List (Int×List UInt8))(k:Nat)(h:k<us.length):us.getD k put0=us[k]'h:=by rw[Zi,Zh h];rfl
theorem Zvw{M C:Nat}{us:List (Int×List UInt8)}{k:Nat}{R:Int->Bool}(hR:∀r,R r=true->∃m d,tabOf M C us k r m=some d):∀r:Int,(if r=((rowOf M C (us.getD k put0).1.toNat:Nat):Int)then true else R r)=true->∃m d,tabOf M C us (k+1) r m=some d:=fun r hr=>by
 by_cases h:r=((rowOf M C (us.getD k put0).1.toNat:Nat):Int)
 ·refine⟨(membOf M C (us.getD k put0).1.toNat:Nat),(us.getD k put0).2,?_⟩
  show tabSet _ _ _ _ r _=_
  unfold tabSet;rw[Zf ⟨h,rfl⟩]
 ·rw[Ze h]at hr
  obtain⟨m,d,hd⟩:=hR r hr;refine⟨m,d,?_⟩;show tabSet _ _ _ _ r m=_
  unfold tabSet;rw[Ze (fun e=>h e.1)];exact hd
theorem Zh0(m c s:Int)(v:Value)(us:List (Int×List UInt8))(w:World)(h:geoIs m c s=false):
  Calls Tryz.prog 54 #[geo m c s,v] w fun e w'=>e=.returned (.tuple #[Zt none 0 0,.int .u16 60])/\Below w.heap.size w w':=by
 have hk:=hid (fun W=>Zb1 m c s W);unfold geoCode at hk;rw[h]at hk;simp only [Bool.false_eq_true,if_false]at hk;have hb0:Below w.heap.size w (w.alloc (Zv #[O Z m,O Z c,O Z s] 26)):=(Zb _ _).alloc (Za _) _;unfold geo at*;go_enter Tryz.func54,Tryz.ntmps54;go_wp2_with (go_at_call 38;(with_reducible refine(hk.out _).mono ?_);rintro e w1 ⟨rfl,hb1⟩);go_ret2;exact⟨rfl,Zac hb0 hb1⟩
theorem Zhc(M C S:Nat)(v:Value)(us:List (Int×List UInt8))(w:World)(h:geoIs M C S=true)(hv:PutSeg w v us)(hn:256<us.length):
  Calls Tryz.prog 54 #[geo M C S,v] w fun e w'=>e=.returned (.tuple #[Zt none 0 0,.int .u16 1])/\Below w.heap.size w w':=by
 have hk:=hid (fun W=>Zb1 M C S W);unfold geoCode at hk;rw[h]at hk;simp only [if_true]at hk;have hb0:Below w.heap.size w (w.alloc (Zv #[O Z M,O Z C,O Z S] 26)):=(Zb _ _).alloc (Za _) _;have hfew:=hv.few;obtain⟨a,c,rfl⟩:=hv.shape;have hgt:(256:Int)<(us.length:Int):=by omega
 clear hv;unfold geo at*;go_enter Tryz.func54,Tryz.ntmps54;go_wp2_with (go_at_call 38;(with_reducible refine(hk.out _).mono ?_);rintro e w1 ⟨rfl,hb1⟩);go_ret2;exact⟨rfl,Zac hb0 hb1⟩
def SplitPost(M C S:Nat)(us:List (Int×List UInt8))(w:World)(e:Ending)(w':World):Prop:=
 ((∃u∈us,¬thereIs M C S u.1)/\e=.returned (.tuple #[Zt none 0 0,.int .u16 3]))\/
 ((∀u∈us,thereIs M C S u.1)/\(∃u∈us,u.2.length≠128)/\e=.returned (.tuple #[Zt none 0 0,.int .u16 4]))\/
 ((∀u∈us,thereIs M C S u.1)/\(∀u∈us,u.2.length=128)/\∃(v:Value) (rs:List Int) (L:List (Value×List OP)) (dv:Int->Int->Value),e=.returned (.tuple #[v,.int .u16 0])/\RowsAt w' w.heap.size v L/\rs.Pairwise (· < ·)/\L.length=rs.length/\
  (∀r,r∈rs↔((Lit.int .i64 r).wf=true/\∃m d,tabOf M C us us.length r m=some d))/\(∀i (hi:i<L.length),RowIs (tabOf M C us us.length) dv (rs.getD i 0) (L[i]'hi).2)/\
  (∀r m d r' m' d',tabOf M C us us.length r m=some d->tabOf M C us us.length r' m'=some d'->¬(r=r'/\m=m')->∀g,(dv r m).ownBlock=some g->(dv r' m').ownBlock≠some g)/\L.Pairwise fun x y=>∀g,x.1.ownBlock=some g->y.1.ownBlock≠some g)
theorem Zjf(M C S:Nat)(v:Value)(us:List (Int×List UInt8))(w:World)(hg:geoIs M C S=true)(hv:PutSeg w v us)(hn:us.length≤256):
  Calls Tryz.prog 54 #[geo M C S,v] w fun e w'=>SplitPost M C S us w e w'/\Below w.heap.size w w':=by
 obtain⟨h1,h2,h3,h4,h5,h6⟩:=(Zam M C S).1 hg;have hk:=hid (fun W=>Zb1 M C S W);unfold geoCode at hk;rw[hg]at hk;simp only [if_true]at hk;have hok:Hid (∀b:Int,thereIs M C S b->∀W,Calls Tryz.prog 67 #[geo M C S,O Z b] W fun e w'=>(∃t p:Int,e=.returned (.tuple #[placeVal t (rowOf M C b.toNat:Nat) (membOf M C b.toNat:Nat) p,.int .u16 0]))/\Below W.heap.size W w'):=fun b hb W=>by
  obtain⟨h0,h1⟩:=hb;obtain⟨n,rfl⟩:=Int.eq_ofNat_of_zero_le h0;have e1:((M-1:Nat):Int)=(M:Int)-1:=by omega
  rw[<-e1]at h1;exact Zpr M C S n W hg (by exact_mod_cast h1)
 have hbad:Hid (∀b:Int,¬thereIs M C S b->∀W,Calls Tryz.prog 67 #[geo M C S,O Z b] W fun e w'=>e=.returned (.tuple #[placeVal 0 0 0 0,.int .u16 3])/\Below W.heap.size W w'):=fun b hb W=>Zkr M C S b W hg (by unfold thereIs at hb;omega)
 have hrow:Hid (∀b:Int,thereIs M C S b->(Lit.int .i64 ((rowOf M C b.toNat:Nat):Int)).wf=true/\(Lit.int .i64 ((membOf M C b.toNat:Nat):Int)).wf=true):=fun b hb=>by
  have e1:rowOf M C b.toNat≤10000000:=by
   obtain⟨h0,hb1⟩:=hb;have hbn:b.toNat≤61440:=by
    have hhi:=(Za0 hg).2;have hM15:(M:Int)-1≤15:=by omega
    have hp1:(S:Int)*C*((M:Int)-1)≤4096*15:=Int.mul_le_mul hhi hM15 (by omega) (by decide);have hp2:b≤61440:=Int.le_of_lt (Int.lt_of_lt_of_le hb1 hp1);clear hhi hp1 hb1;omega
   unfold rowOf stripeOf;have hd:b.toNat/((M-1)*C)≤61440:=Zc (Nat.div_le_self _ _) hbn;have hm:b.toNat/((M-1)*C)*C≤61440*16:=Nat.mul_le_mul hd (by omega);have hx:b.toNat%((M-1)*C)%C≤61440:=Zc (Nat.mod_le _ _) (Zc (Nat.mod_le _ _) hbn);exact Zc (Nat.add_le_add hm hx) (by decide)
  have e2:membOf M C b.toNat≤16:=by
   unfold membOf memOf;have:=Nat.mod_lt (M-1-stripeOf M C b.toNat%M+1+b.toNat%((M-1)*C)/C) (show 0<M by omega);omega
  exact⟨Zjh _ (by omega),Zjh _ (by omega)⟩
 have hb0:Below w.heap.size w (w.alloc (Zv #[O Z M,O Z C,O Z S] 26)):=(Zb _ _).alloc (Za _) _;have HG0:Hid (At (w.alloc (Zv #[O Z M,O Z C,O Z S] 26)) w.heap.size #[O Z M,O Z C,O Z S] 26):=At.new _ _ _;have HV:=hid hv;obtain⟨a,c,rfl⟩:=hv.shape;clear hv;have hmm:= @run_makeMap Tryz.prog;unfold geo placeVal at*;go_enter Tryz.func54,Tryz.ntmps54;go_wp2_with (go_at_call 38;(with_reducible refine(hk.out _).mono ?_);rintro e w1 ⟨rfl,hb1⟩;have HG1:=hid ((HG0.out.below hb1 HG0.out.lt).alloc (.map #[] 0));have HB1:=hid ((Zac hb0 hb1).alloc (Zac hb0 hb1).size (.map #[] 0));have HS1:=hid (SplitAt.start w1);have hw1:=(Zac hb0 hb1).size;clear hb1);go_loopw [8,30] (fun lg t wr=>∃(k:Nat) (R:Int->Bool) (inn:Int->Nat) (dv:Int->Int->Value) (lb:Bool),k≤us.length/\t=O Z k/\lg=.bool lb/\(∀j,j<k->thereIs M C S (us.getD j put0).1)/\(lb=true↔∀j,j<k->(us.getD j put0).2.length=128)/\SplitAt wr w1.heap.size w1.heap.size (2*k) R (tabOf M C us k) inn dv/\(∀r,R r=true->∃m d,tabOf M C us k r m=some d)/\At wr w.heap.size #[O Z M,O Z C,O Z S] 26/\Below w.heap.size w wr) (fun _ t _=>us.length-(intOf t).toNat);case atStart=>exact⟨0,_,_,_,true,by omega,rfl,rfl,fun j hj=>by omega,⟨fun _ j hj=>by omega,fun _=>rfl⟩,HS1.out,fun r hr=>(by cases hr),HG1.out,HB1.out⟩
 case round=>
  obtain⟨k,R,inn,dv,lb,hk',rfl,rfl,hth,hlb,hsp,hfull,hgw,hbw⟩:=hrel;have HTH:=hid hth;have HLB:=hid hlb;have HSP:=hid hsp;have HF:=hid hfull;have HGW:=hid hgw;have HBW:=hid hbw;have g0:=hgw.cell 0;have g1:=hgw.cell 1;have g2:=hgw.cell 2;have hglt:=hgw.lt;clear hth hlb hsp hfull hgw HS1 HG1 HB1;by_cases hkn:k<us.length
  ·have K1:Hid (k+1≤us.length):=hkn
   obtain⟨b,o,rfl,hlt0,hx⟩:=PutSeg.full HV.out (by omega);obtain⟨p00,u,p10,hu⟩:=hx k hkn;have hlt:b<wr.heap.size:=Zd hlt0 hbw.size;have p0:=(hbw.cell (p:=⟨b,o+k*2,none⟩) hlt0).trans p00;have p1:=(hbw.cell (p:=⟨b,o+k*2+1,none⟩) hlt0).trans p10;clear p00 p10 hlt0;rw[<-Zdv us k hkn]at p0 hu;have hul:(us.getD k put0).2.length≤140737488355000:=by
    rw[Zdv us k hkn];obtain⟨_,_,_,_,h,_⟩:=HV.out;exact h _ (Zj hkn)
   obtain⟨ua,uc,rfl⟩:=hu.shape;have hcl:=hid (fun (W:World) (hW:Below w.heap.size w W)=>Zlt _ _ W hul (hu.below hW));by_cases hin:thereIs M C S (us.getD k put0).1
   ·obtain⟨wfr,wfm⟩:=hrow.out _ hin
    have hofk:=hid (hok.out _ hin);have HIN:=hid hin;clear hx hu hin hbw;have hx128:((((us.getD k put0).2.length:Nat):Int)==128)=decide ((us.getD k put0).2.length=128):=by
     by_cases h:(us.getD k put0).2.length=128
     ·rw[h];rfl
     ·rw[decide_eq_false h,beq_eq_false_iff_ne];omega
    have HFS:=hid (Zvw HF.out);have HTH1:Hid (∀j,j<k+1->thereIs M C S (us.getD j put0).1):=fun j hj=>by
     by_cases e:j=k
     ·rw[e];exact HIN.out
     ·exact HTH.out j (by omega)
    have HLB1:Hid ((lb&&decide ((us.getD k put0).2.length=128))=true↔∀j,j<k+1->(us.getD j put0).2.length=128):=by
     show _↔_
     rw[Bool.and_eq_true,decide_eq_true_eq,HLB.out];constructor
     ·intro h j hj
      by_cases e:j=k
      ·rw[e];exact h.2
      ·exact h.1 j (by omega)
     ·intro h
      exact⟨fun j hj=>h j (by omega),h k (by omega)⟩
    have HTS:Hid (tabOf M C us (k+1)=tabSet (tabOf M C us k) (rowOf M C (us.getD k put0).1.toNat:Nat) (membOf M C (us.getD k put0).1.toNat:Nat) (us.getD k put0).2):=rfl;generalize hrw:((rowOf M C (us.getD k put0).1.toNat:Nat):Int)=row at*;generalize hmw:((membOf M C (us.getD k put0).1.toNat:Nat):Int)=mem at*;generalize hdk:(us.getD k put0).2=dk at*;generalize hbk:(us.getD k put0).1=bk at*;have HALW:Hid (Below wr.heap.size wr (wr.alloc (.cells #[.int .i64 bk,.slice ua dk.length uc] 60))):=(Zb _ _).alloc (Za _) _;have HPUT:Hid (At (wr.alloc (.cells #[.int .i64 bk,.slice ua dk.length uc] 60)) wr.heap.size #[.int .i64 bk,.slice ua dk.length uc] 60):=At.new _ _ _;generalize decide (dk.length=128)=d128 at*;have hmeq:∀(W:World) (x:Option Nat),(binOp .eql 164 (.map x) (.map none)).run Tryz.prog W=.ok (.bool x.isNone) W:=fun W x=>run_eql_map_nil W _ _ _ x Tryz.underlying164
    have hwB:w1.heap.size≤wr.heap.size:=Nat.le_of_lt HSP.out.outer.lt;cases lb
    all_goals
     cases hRr:R row
     focus
      go_wp2_with (first
       |(go_at_call 67;(with_reducible refine(hofk.out _).mono ?_);rintro e w2 ⟨⟨tt,pp,rfl⟩,hb2⟩;have hb3:Below wr.heap.size wr (w2.alloc (Zv #[O Z tt,O Z row,O Z mem,O Z pp] 124)):=(HALW.out.trans (hb2.mono HALW.out.size)).alloc (Zc HALW.out.size hb2.size) _;have hput:=(HPUT.out.below hb2 HPUT.out.lt).alloc (Zv #[O Z tt,O Z row,O Z mem,O Z pp] 124);have q0:=hput.cell 0;have q1:=hput.cell 1;have HPUT3:=hid hput;have HPL3:Hid (At (w2.alloc (Zv #[O Z tt,O Z row,O Z mem,O Z pp] 124)) w2.heap.size #[O Z tt,O Z row,O Z mem,O Z pp] 124):=At.new _ _ _;have HB3:=hid hb3;have HSP3:=hid (HSP.out.below hb3);have hzp:wr.heap.size<w2.heap.size:=(by have:=hb2.size;rw[Zaa]at this;omega);clear hput hb3 hb2)
       |(refine Zgw rfl _ _ 163 rfl Tryz.underlying163 Tryz.underlying3 (.map none) (Tryz.zeroValue164 _) rfl HSP3.out.outer row rfl wfr (by rw[Ze (by rw[hRr];simp)]) ?_)
       |(refine Zhq rfl _ _ _ 163 rfl Tryz.underlying163 Tryz.underlying3 rfl (HSP3.out.outer.below ((Zb _ _).alloc (Za _) (.map #[] 0))) (by unfold maxLen;omega) row (.map (some (w2.heap.size+1))) rfl rfl wfr ?_;intro W5 hv5 hc5;have HSP5:=hid (HSP3.out.newRow (Zc hwB HB3.out.size) hRr (by rw[Zaa];exact hv5) hc5);have hgmlt:=HSP3.out.outer.lt;have HPUT5:=hid ((HPUT3.out.alloc (.map #[] 0)).mod hc5 (Zbr (HSP3.out.outer.below ((Zb _ _).alloc (Za _) (.map #[] 0))) (HPUT3.out.alloc (.map #[] 0))));have HPL5:=hid ((HPL3.out.alloc (.map #[] 0)).mod hc5 (Zbr (HSP3.out.outer.below ((Zb _ _).alloc (Za _) (.map #[] 0))) (HPL3.out.alloc (.map #[] 0))));have HC5:=hid hc5;clear hv5 hc5))
      have HB5:Hid (Chg (fun q=>q=w1.heap.size) wr W5):=((Zm HB3.out (fun q=>q=w1.heap.size)).trans ((Zl _ _).alloc _)).trans HC5.out
      have HFR:=hid HFS.out
      have hR5:(fun i=>if i=row then true else R i) row=true:=by show(if row=row then true else R row)=true;rw[Zf rfl]
      generalize (w2.alloc (Zv #[O Z tt,O Z row,O Z mem,O Z pp] 124)).heap.size=gnew at*
      clear q0 q1 HSP3 HPUT3 HPL3 HB3 HC5
      have HG5:Hid (At W5 w.heap.size #[O Z M,O Z C,O Z S] 26):=HGW.out.mod HB5.out (fun e=>Zbr HSP.out.outer HGW.out e)
      have HBW5:Hid (Below w.heap.size w W5):=Chg.own HBW.out HB5.out (fun q hq=>by subst hq;exact hw1)
     rotate_left
     focus
      go_wp2_with (first
       |(go_at_call 67;(with_reducible refine(hofk.out _).mono ?_);rintro e w2 ⟨⟨tt,pp,rfl⟩,hb2⟩;have hb3:Below wr.heap.size wr (w2.alloc (Zv #[O Z tt,O Z row,O Z mem,O Z pp] 124)):=(HALW.out.trans (hb2.mono HALW.out.size)).alloc (Zc HALW.out.size hb2.size) _;have hput:=(HPUT.out.below hb2 HPUT.out.lt).alloc (Zv #[O Z tt,O Z row,O Z mem,O Z pp] 124);have q0:=hput.cell 0;have q1:=hput.cell 1;have HPUT3:=hid hput;have HPL3:Hid (At (w2.alloc (Zv #[O Z tt,O Z row,O Z mem,O Z pp] 124)) w2.heap.size #[O Z tt,O Z row,O Z mem,O Z pp] 124):=At.new _ _ _;have HB3:=hid hb3;have HSP3:=hid (HSP.out.below hb3);have hzp:wr.heap.size<w2.heap.size:=(by have:=hb2.size;rw[Zaa]at this;omega);clear hput hb3 hb2)
       |(refine Zax rfl _ _ 163 rfl Tryz.underlying163 Tryz.underlying3 (.map none) (Tryz.zeroValue164 _) rfl HSP3.out.outer row rfl wfr (.map (some (inn row))) (by rw[Zf hRr]) ?_))
      have HSP5:=hid (HSP3.out.mono (Nat.le_succ (2*k)))
      have HPUT5:=hid HPUT3.out
      have HPL5:=hid HPL3.out
      have HB5:=hid HB3.out
      have HFR:Hid (∀r,R r=true->∃m d,tabOf M C us (k+1) r m=some d):=fun r hr=>HFS.out r (by by_cases e:r=row;rw[Zf e];rw[Ze e];exact hr)
      have hR5:R row=true:=hRr
      generalize (w2.alloc (Zv #[O Z tt,O Z row,O Z mem,O Z pp] 124))=W5 at*
      clear q0 q1 HSP3 HPUT3 HPL3 HB3
      have HG5:Hid (At W5 w.heap.size #[O Z M,O Z C,O Z S] 26):=HGW.out.below HB5.out HGW.out.lt
      have HBW5:Hid (Below w.heap.size w W5):=Zac HBW.out HB5.out
     rotate_left
     all_goals
      obtain⟨R5,inn5,HSP6,HFR6,hR6⟩:∃(R5:Int->Bool) (inn5:Int->Nat),Hid (SplitAt W5 w1.heap.size w1.heap.size (2*k+1) R5 (tabOf M C us k) inn5 dv)/\Hid (∀r,R5 r=true->∃m d,tabOf M C us (k+1) r m=some d)/\R5 row=true:=⟨_,_,HSP5,HFR,hR5⟩
      clear HSP5 HFR hR5 HB5 hofk hmeq HF HFS HALW HPUT HGW HBW HSP
      have HD:Hid (SplitAt W5.drew w1.heap.size w1.heap.size (2*k+1) R5 (tabOf M C us k) inn5 dv):=HSP6.out.below (Zb _ _).drew
      have HPLD:Hid (At W5.drew w2.heap.size #[O Z tt,O Z row,O Z mem,O Z pp] 124):=HPL5.out.drew
      have HPUTD:Hid (At W5.drew wr.heap.size #[O Z bk,Zt ua dk.length uc] 60):=HPUT5.out.drew
      have HH:Hid (∀W:World,At W w2.heap.size #[O Z tt,O Z row,O Z mem,O Z pp] 124->At W wr.heap.size #[O Z bk,Zt ua dk.length uc] 60->(W.cell? ⟨w2.heap.size,1,none⟩=some (O Z row)/\W.cell? ⟨w2.heap.size,2,none⟩=some (O Z mem)/\W.cell? ⟨wr.heap.size,1,none⟩=some (Zt ua dk.length uc))):=fun W h g=>⟨h.cell 1,h.cell 2,g.cell 1⟩
      have HBWD:Hid (Below w.heap.size w W5.drew):=HBW5.out.drew
      have hlk:=HD.out.outer.run (t:=163) Tryz.underlying163 Tryz.underlying3 (.map none) (Tryz.zeroValue164 _) row wfr (.map (some (inn5 row))) (by rw[Zf hR6])
      go_region_held3 (fun w'=>w'.cell? ⟨w2.heap.size,1,none⟩=some (O Z row)/\w'.cell? ⟨w2.heap.size,2,none⟩=some (O Z mem)/\w'.cell? ⟨wr.heap.size,1,none⟩=some (Zt ua dk.length uc))
       (first|with_reducible exact HH.out _ HPLD.out HPUTD.out|with_reducible exact HH.out _ HPL9.out HPUT9.out|with_reducible exact HH.out _ HPL10.out HPUT10.out)
       (first
        |(go_at_call 98;(with_reducible refine(hcl.out _ HBWD.out).mono ?_);rintro e w9 ⟨u9,rfl,hown9,hb9⟩;obtain⟨ua9,uc9,rfl⟩:=Zab hown9;have HSP9:=hid (HD.out.below hb9);have HPL9:=hid (HPLD.out.below hb9 HPLD.out.lt);have HPUT9:=hid (HPUTD.out.below hb9 HPUTD.out.lt);have hlk9:=HSP9.out.outer.run (t:=163) Tryz.underlying163 Tryz.underlying3 (.map none) (Tryz.zeroValue164 _) row wfr (.map (some (inn5 row))) (by rw[Zf hR6]);obtain⟨w10,hst,hv10,hc10⟩:=(HSP9.out.inner row hR6).store (t:=164) Tryz.underlying164 Tryz.underlying3 (by unfold maxLen;omega) mem wfm (patVal mem row (.slice ua9 dk.length uc9));have HSP10:=hid (HD.out.setPat (Nat.le_of_lt HD.out.outer.lt) hR6 hb9 hown9 hv10 hc10);have HPL10:=hid (HPL9.out.mod hc10 (Zbr (HSP9.out.inner row hR6) HPL9.out));have HPUT10:=hid (HPUT9.out.mod hc10 (Zbr (HSP9.out.inner row hR6) HPUT9.out));have HG9:=hid (HG5.out.drew.below hb9 HG5.out.drew.lt);have HG10:=hid (HG9.out.mod hc10 (Zbr (HSP9.out.inner row hR6) HG9.out));have HBW10:=hid (Chg.own (Zac HBWD.out hb9) hc10 (fun q hq=>by subst hq;exact Zc hw1 (HD.out.lows row hR6)));unfold patVal at hst;clear hown9 hb9 hv10 hc10))
      all_goals
       clear hlk hlk9 hst
       go_wp2
       exact⟨⟨k+1,R5,inn5,_,_,K1.out,by go_num,rfl,HTH1.out,HLB1.out,by rw[HTS.out];exact HSP10.out.mono (by omega),HFR6.out,HG10.out,HBW10.out⟩,by simp[intOf];omega⟩
   ·have hofk:=hid (hbad.out _ hin)
    have HIN:Hid (∃u∈us,¬thereIs M C S u.1):=⟨us[k]'hkn,Zj hkn,by rw[<-Zdv us k hkn];exact hin⟩;clear hx hu hin hbw;generalize (us.getD k put0).1=bk at*;generalize (us.getD k put0).2.length=dn at*;as_aux_lemma=>
     go_wp2_with (go_at_call 67;(with_reducible refine(hofk.out _).mono ?_);rintro e w2 ⟨rfl,hb2⟩);go_ret2;have hbb:=Zac (HBW.out.alloc HBW.out.size (Zv #[O Z bk,Zt ua dn uc] 60)) hb2;exact⟨.inl ⟨HIN.out,rfl⟩,hbb.alloc hbb.size _⟩
  ·obtain rfl:k=us.length:=by omega
   have hall:Hid (∀u∈us,thereIs M C S u.1):=fun u hu=>by
    obtain⟨j,hj,rfl⟩:=List.getElem_of_mem hu;rw[<-Zdv us j hj];exact HTH.out j hj
   have hlens:Hid (lb=true↔∀u∈us,u.2.length=128):=by
    show _↔_
    rw[HLB.out];constructor
    ·intro h u hu
     obtain⟨j,hj,rfl⟩:=List.getElem_of_mem hu;rw[<-Zdv us j hj];exact h j hj
    ·intro h j hj
     rw[Zdv us j hj];exact h _ (Zj hj)
   clear HTH HLB hok hbad hrow hmm;cases lb
   ·have hne:Hid (∃u∈us,u.2.length≠128):=by
     show ∃u,_
     by_cases h:∃u∈us,u.2.length≠128
     ·exact h
     ·exact absurd (hlens.out.2 fun u hu=>Decidable.byContradiction fun e=>h ⟨u,hu,e⟩) (by simp)
    clear hlens;go_wp2;go_ret2;exact⟨.inr (.inl ⟨hall.out,hne.out,rfl⟩),hbw⟩
   ·have hl128:Hid (∀u∈us,u.2.length=128):=hlens.out.1 rfl
    clear hlens;have hsorted:=hid (fun (W:World) (hW:Below wr.heap.size wr W)=>Zl3 (HSP.out.below hW).outer (by omega))
    go_wp2_with (first
     |(go_at_call 100;(with_reducible refine(Zo8 _ _).mono ?_);rintro e w2 ⟨rfl,rfl⟩)
     |(go_at_call 99;(with_reducible refine(hsorted.out _ (Zb _ _)).mono ?_);rintro e w3 ⟨vs,rs,rfl,hkeys,hlen,hown,hb3⟩;obtain⟨sa,sc,rfl⟩:=Zab hown))
    have HB3:Hid (Below wr.heap.size wr w3):=((Zb wr.heap.size wr).alloc (Za _) _).trans (hb3.mono (Nat.le_succ _));have HSP3:=hid (HSP.out.below HB3.out);have HBW3:=hid (Zac HBW.out HB3.out);have hz3:=HBW3.out.size;have HKEY:=hid hkeys;have HOWN:=hid hown;have HLN:Hid (∀r m d,tabOf M C us us.length r m=some d->d.length=128):=Zsx hl128.out us.length (Za _);clear hkeys hown hb3 HB3 HSP HGW g0 g1 g2 hglt hsorted;generalize hG:tabOf M C us us.length=G at*;have hnn:2*us.length≤512:=by omega
    generalize 2*us.length=nn at*;go_loopw [13,81] (fun vv t wq=>∃(j:Nat) (L:List (Value×List OP)),j≤rs.length/\t=O Z j/\RowsAt wq w.heap.size vv L/\L.length=j/\(∀i (hi:i<L.length),RowIs G dv (rs.getD i 0) (L[i]'hi).2)/\(∀q,vv.ownBlock=some q->w3.heap.size≤q)/\Below w3.heap.size w3 wq/\L.Pairwise (fun x y=>∀g,x.1.ownBlock=some g->y.1.ownBlock≠some g)) (fun _ t _=>rs.length-(intOf t).toNat);case atStart=>exact⟨0,[],by omega,rfl,RowsAt.nil _ _,rfl,fun i hi=>by simp at hi,fun q hq=>by simp[Value.ownBlock]at hq,Zb _ _,List.Pairwise.nil⟩
    case round=>
     obtain⟨j,L,hj,rfl,hrows,hL,hLi,hvq,hbq,hpw⟩:=hrel;have HPW:=hid hpw;clear hpw;have HROWS:=hid hrows;have HLI:=hid hLi;have HVQ:=hid hvq;have HBQ:=hid hbq;have hzq:=hbq.size;clear hrows hLi hvq;by_cases hjn:j<rs.length
     ·have J1:Hid (j+1≤rs.length):=hjn
      obtain⟨sg,rfl,hslt,hscell⟩:=Zln HOWN.out hjn;have k0:=(hbq.cell (p:=⟨sg,j,none⟩) hslt).trans (hscell j hjn);have hsq:sg<wr.heap.size:=Zd hslt hzq;have hmem:rs.getD j 0∈rs:=by rw[Zi,Zh hjn];exact Zj hjn
      obtain⟨wfr,hsome⟩:=(HKEY.out.2 _).1 hmem;have hRr:R (rs.getD j 0)=true:=by
       by_cases e:R (rs.getD j 0)=true
       ·exact e
       ·(dsimp only at hsome;rw[Ze e]at hsome;cases hsome)
      clear hmem hsome hscell hbq;generalize hrr:rs.getD j 0=r at*;have HSQ:=hid (HSP3.out.below HBQ.out);have hsB:=hid (fun (W:World) (hW:Below wr.heap.size wr W)=>Zk0 ((HSQ.out.below hW).inner r hRr) (by omega))
      go_wp2_with (first
       |(refine Zax rfl _ _ 163 rfl Tryz.underlying163 Tryz.underlying3 (.map none) (Tryz.zeroValue164 _) rfl HSQ.out.outer r rfl wfr (.map (some (inn r))) (by rw[Zf hRr]) ?_)
       |(go_at_call 101;(with_reducible refine(Zqm _ _).mono ?_);rintro e w4 ⟨rfl,rfl⟩)
       |(go_at_call 99;(with_reducible refine(hsB.out _ (Zb _ _)).mono ?_);rintro e w5 ⟨vm,ms,rfl,hmk,hml,hmo,hb5⟩;obtain⟨ma,mc,rfl⟩:=Zab hmo))
      have HB5:Hid (Below wr.heap.size wr w5):=((Zb wr.heap.size wr).alloc (Za _) _).trans (hb5.mono (Nat.le_succ _));have HSP5:=hid (HSQ.out.below HB5.out);have HROWS5:=hid (HROWS.out.below HB5.out);have HBW5:Hid (Below w3.heap.size w3 w5):=Zac HBQ.out HB5.out;have hz5:=HBW5.out.size;have HMK:=hid hmk;have HMO:=hid hmo;clear hmk hmo hb5 HB5 HSQ HROWS HBQ hsB k0 hsq;go_loopw [16,91] (fun rv t wi=>∃i:Nat,i≤ms.length/\t=O Z i/\ORow wi w.heap.size rv (rowX G dv r (ms.take i))/\(∀q,rv.ownBlock=some q->w5.heap.size≤q)/\Below w5.heap.size w5 wi) (fun _ t _=>ms.length-(intOf t).toNat);case atStart=>exact⟨0,by omega,rfl,ORow.nil _ _,fun q hq=>by simp[Value.ownBlock]at hq,Zb _ _⟩
      case round=>
       obtain⟨i,hi,rfl,hrow,hvq,hbi⟩:=hrel;have HROW:=hid hrow;have HVI:=hid hvq;have HBI:=hid hbi;have hzi:=hbi.size;clear hrow hvq;by_cases hin:i<ms.length
       ·have I1:Hid (i+1≤ms.length):=hin
        obtain⟨mg,rfl,hmlt,hmcell⟩:=Zln HMO.out hin;have m0:=(hbi.cell (p:=⟨mg,i,none⟩) hmlt).trans (hmcell i hin);have hmq:mg<wr.heap.size:=Zd hmlt hzi;have hmem:ms.getD i 0∈ms:=by rw[Zi,Zh hin];exact Zj hin
        obtain⟨wfm,hsome⟩:=(HMK.out.2 _).1 hmem;have hrx:=Zs2 G dv r ms i hin;have HOLDM:Hid (∀m'∈ms.take i,m'≠ms.getD i 0/\∃d',G r m'=some d'):=fun m' hm'=>by
         obtain⟨x,hx,rfl⟩:=List.getElem_of_mem hm';rw[List.length_take]at hx;have hxi:x<i:=by omega
         have h1:=List.pairwise_iff_getElem.1 HMK.out.1 x i (by omega) hin hxi;have h2:=((HMK.out.2 _).1 (List.mem_of_mem_take hm')).2;refine⟨?_,?_⟩
         ·rw[List.getElem_take,Zi,Zh hin]
          simp only [Option.getD_some];omega
         ·cases e:G r ((ms.take i)[x])with
          |none=>(dsimp only at h2;rw[e]at h2;cases h2)
          |some d'=>exact⟨d',rfl⟩
        have hXl:(rowX G dv r (ms.take i)).length=i:=by rw[Zok,List.length_take];omega
        clear hmem hmcell hbi;generalize ms.getD i 0=m at*;obtain⟨d,hd⟩:∃d,G r m=some d:=by
         cases e:G r m with
         |none=>(dsimp only at hsome;rw[e]at hsome;cases hsome)
         |some d=>exact⟨d,rfl⟩
        rw[hd]at hrx;have HRX:=hid hrx;have HSI:=hid (HSP5.out.below HBI.out);have hdat:=HSI.out.dat r m d hd;have hd128:=HLN.out r m d hd;rw[hd128]at hdat;obtain⟨da,dc,hdv⟩:=Zab hdat;have HDAT:=hid hdat;have hval:(G r m).map (fun _=>patVal m r (dv r m))=some (.agg #[O Z m,O Z r,Zt da 128 dc]):=by rw[hd,hdv];rfl
        have HROW8:=hid (HROW.out.below ((Zb wr.heap.size wr).alloc (Za _) (Zv #[O Z m,O Z r,Zt da 128 dc] 167)));have HNEW:=hid (Ze5 wr (O Z m) (O Z r) (Zt da 128 dc) 167);have HDV:=hid hdv;clear hdat hsome hrx hdv
        go_wp2_with (first
         |(refine Zax rfl _ _ 163 rfl Tryz.underlying163 Tryz.underlying3 (.map none) (Tryz.zeroValue164 _) rfl HSI.out.outer r rfl wfr (.map (some (inn r))) (by rw[Zf hRr]) ?_)
         |(refine Zax rfl _ _ 164 rfl Tryz.underlying164 Tryz.underlying3 (.agg #[.int .i64 0,.int .i64 0,.slice none 0 0]) (Tryz.zeroValue167 _) rfl (HSI.out.inner r hRr) m rfl wfm (.agg #[.int .i64 m,.int .i64 r,.slice da 128 dc]) hval ?_)
         |(refine Zar rfl _ _ 114 167 3 40 rfl Zdi w.heap.size u16 (rowX G dv r (ms.take i)).length _ rfl HROW8.out.row _ 1 1 [O Z m,O Z r,Zt da 128 dc] rfl rfl (HNEW.out _ (by first|rfl|simp)) (by intro u hu;simp at hu;rcases hu with rfl|rfl|rfl<;>rfl) (by unfold maxLen;omega) (by omega) (by rw[Zaa];omega) (by omega) ?_;intro v' w9 hrow9 hvb9 hc9 hkk9;clear hkk9;have HROW9:=hid hrow9;have HC9:=hid hc9;clear hrow9 hc9))
        refine⟨⟨i+1,I1.out,by go_num,?_,fun q hq=> ?_,?_⟩,by simp[intOf];omega⟩
        ·rw[HRX.out]
         refine HROW8.out.snoc HC9.out ((Zan HDAT.out hw1).alloc _) (fun y hy q hq=> ?_) ?_
         ·obtain⟨m',hm',rfl⟩:=List.mem_map.1 hy
          obtain⟨h1,d',h2⟩:=HOLDM.out m' hm';exact HSI.out.dap r m' d' r m d h2 hd (fun e=>h1 e.2) q hq
         ·have e:opCells ((⟨m,r,(some d).getD []⟩:Pat),dv r m)= [O Z m,O Z r,Zt da 128 dc]:=by
           unfold opCells;simp only [HDV.out]
          rw[e];exact HROW9.out
        ·rcases hvb9 with h|h
         ·exact HVI.out q (by rw[<-h];exact hq)
         ·rw[h]at hq
          simp only [Zg]at hq;rw[<-hq,Zaa];omega
        ·exact Chg.own (HBI.out.alloc hzi _) HC9.out (fun q hq=>HVI.out q hq)
       ·obtain rfl:i=ms.length:=by omega
        have hX:Hid (ORow wr w.heap.size u16 (rowX G dv r ms)):=by
         have:=HROW.out;rw[List.take_length]at this;exact this
        obtain⟨va,vc,rfl⟩:=Zab hX.out.row;rw[Zok]at*;have HAL:Hid (Below wr.heap.size wr (wr.alloc (Zv #[Zt va ms.length vc] 114))):=(Zb _ _).alloc (Za _) _;have HROWS8:=hid ((HROWS5.out.below HBI.out).below HAL.out);have HX8:=hid (hX.out.below HAL.out);have HNEW:=hid (Zvn wr (Zt va ms.length vc) 114);have HBW8:Hid (Below w3.heap.size w3 wr):=Zac HBW5.out HBI.out;have HPN:Hid (∀y∈L,∀q,y.1.ownBlock=some q->q<w5.heap.size):=fun y hy q hq=>((HROWS5.out.each y hy).row.lt q hq).2
        clear hX HROW HROWS5 HSP5;go_wp2_with (refine Zar rfl _ _ 111 114 1 24 rfl Zqh w.heap.size u13 L.length _ rfl HROWS8.out.row _ 1 1 [Zt va ms.length vc] rfl rfl (HNEW.out _ (by first|rfl|simp)) (by intro u hu;simp at hu;rcases hu with rfl;rfl) (by unfold maxLen;omega) (by omega) (by rw[Zaa];omega) (by omega) ?_;intro v' w9 hrow9 hvb9 hc9 hkk9;clear hkk9;have HROW9:=hid hrow9;have HC9:=hid hc9;clear hrow9 hc9);refine⟨⟨j+1,L++ [(Zt va ms.length vc,rowX G dv r ms)],J1.out,by go_num,HROWS8.out.snoc HC9.out HX8.out HROW9.out,by simp[hL],fun i' hi'=> ?_,fun q hq=> ?_,?_,?_⟩,by simp[intOf];omega⟩
        ·by_cases e:i'<L.length
         ·rw[List.getElem_append_left e]
          exact HLI.out i' e
         ·have e2:i'=L.length:=by simp at hi';omega
          subst e2;rw[List.getElem_append_right (Za _)];simp only [Nat.sub_self,List.getElem_cons_zero];rw[hL,hrr];exact⟨ms,HMK.out.1,fun m=>by have h:=HMK.out.2 m;dsimp only at h;rw[Option.isSome_map]at h;exact h,rfl⟩
        ·rcases hvb9 with h|h
         ·exact HVQ.out q (by rw[<-h];exact hq)
         ·rw[h]at hq
          simp only [Zg]at hq;rw[<-hq,Zaa];omega
        ·exact Chg.own (HBW8.out.alloc HBW8.out.size _) HC9.out (fun q hq=>HVQ.out q hq)
        ·show List.Pairwise _ (_++_)
         rw[List.pairwise_append];refine⟨HPW.out,List.pairwise_singleton _ _,fun y hy z hz g hg e=> ?_⟩;obtain rfl:z=(Zt va ms.length vc,rowX G dv r ms):=by simpa using hz
         have h1:=HPN.out y hy g hg;have h2:=HVI.out g e;omega
     ·obtain rfl:j=rs.length:=by omega
      go_wp2;go_ret2;subst hG;refine⟨.inr (.inr ⟨hall.out,hl128.out,_,rs,L,dv,rfl,HROWS.out,HKEY.out.1,hL,fun r=> ?_,HLI.out,HSP3.out.dap,HPW.out⟩),Zac HBW3.out HBQ.out⟩;rw[HKEY.out.2 r];dsimp only;constructor
      ·intro h
       refine⟨h.1,HF.out r ?_⟩;by_cases e:R r=true
       ·exact e
       ·have h2:=h.2
        rw[Ze e]at h2;cases h2
      ·rintro ⟨h,m,d,e⟩
       exact⟨h,by rw[Zf (HSP3.out.sub r m d e)];rfl⟩
end Go.Proofs.YtmemlkmnhcealaaGreat
