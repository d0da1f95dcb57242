
/- plan.Of: how a row is written. -/
import Derived.Test.YtmemlkmnhcealaaGreatMrg14
import Derived.Carry
set_option linter.unusedVariables false
set_option maxRecDepth 100000
set_option maxHeartbeats 8000000
namespace Go.Proofs.YtmemlkmnhcealaaGreat
open Value renaming int→O,pointer→Zs,slice→Zt
open IntKind renaming i64→Z
open Go.Proofs.Tryz renaming prog→Zw
open Go.RowKit
open Lib(hid)
variable {ps:List Pat} {C M S r:Nat} {d:Nat->Bool}
theorem PlanOk.rise(ok:PlanOk M C S d ps r):∀i (hi:i<ps.length),(i:Int)≤ps[i].m
  |0,hi=>ok.lo _ (Zj hi)
  |i+1,hi=>by
    have h1:=ok.rise i (by omega);have h2:=ok.rising i (i+1) (by omega) hi (by omega);omega
theorem PlanOk.fall(ok:PlanOk M C S d ps r):∀k i (hi:i<ps.length),i+k+1=ps.length->ps[i].m+(k:Int)<M
  |0,i,hi,_=>by have:=ok.hi _ (Zj hi);omega
  |k+1,i,hi,h=>by
    have h1:=ok.fall k (i+1) (by omega) (by omega);have h2:=ok.rising i (i+1) hi (by omega) (by omega);omega
theorem PlanOk.few(ok:PlanOk M C S d ps r):ps.length≤M-1:=by
  obtain⟨h1,h2,h3,h4,h5,h6⟩:=(Zam M C S).1 ok.hg;have hpl:parOf M C r<M:=by unfold parOf;omega
  apply Classical.byContradiction;intro hn;have hp:parOf M C r<ps.length:=by omega
  have e1:=ok.rise _ hp;have e2:=ok.fall (ps.length-1-parOf M C r) _ hp (by omega);exact ok.np _ (Zj hp) (by omega)
def readsOf(ps:List Pat)(par M md:Nat):List Nat:=if md=3 then whichTo (isRest ps par) M else if md=2 then whichTo (isOld ps par) M else []
theorem Zde(ps:List Pat)(par M md:Nat):(readsOf ps par M md).length≤M:=by
  unfold readsOf;split
  · exact Za7 _ _
  · split
    · exact Za7 _ _
    · simp
theorem Zs0(M:Nat)(ps:List Pat)(par:Nat)(z:Int):modeOf M ps par z=1\/modeOf M ps par z=2\/modeOf M ps par z=3\/modeOf M ps par z=4:=by
  unfold modeOf;split
  · exact .inl rfl
  · split
    · exact .inr (.inr (.inr rfl))
    · split
      · exact .inr (.inr (.inl rfl))
      · exact .inr (.inl rfl)
theorem Zrj(M C S r:Nat)(vd vp:Value)(d:Nat->Bool)(ps:List Pat)(w:World)(ok:PlanOk M C S d ps r)(hd:BSeg w vd d M)(hp:PSeg w vp ps)(z:Int)(hz:GoneIs d M z):
    Calls Zw 145 #[geo M C S,vd,vp] w fun e w'=>∃vq vr dv,e=.returned (.tuple #[.agg #[O Z r,.int .u8 (modeOf M ps (parOf M C r) z:Nat),O Z (parOf M C r:Nat),vq,vr],.int .u16 0])/\
      PRow w' w.heap.size vq ps ps.length dv/\w'.ownsRow w.heap.size 3 1 vr (readsOf ps (parOf M C r) M (modeOf M ps (parOf M C r) z)).length (mcells (readsOf ps (parOf M C r) M (modeOf M ps (parOf M C r) z)))/\Below w.heap.size w w':=by
  obtain⟨h1,h2,h3,h4,h5,h6⟩:=(Zam M C S).1 ok.hg;have hM16:M≤16:=by omega
  have hfew:=ok.few;have hn0:=ok.ne;have hof:Hid (∀W,Below w.heap.size w W->Calls Zw 208 #[geo M C S,vd,vp] W fun e w'=>∃q,e=.returned (.tuple #[Zs (some ⟨q,0,none⟩),.int .u16 0])/\RowAt w' q M C S vd vp d ps r/\Below W.heap.size W w'/\W.heap.size≤q):=fun W hW=>Zvl M C S r vd vp d ps W ok (hd.below hW) (hp.below hW)
  have hmo:Hid (∀q W,RowAt W q M C S vd vp d ps r->Calls Zw 212 #[Zs (some ⟨q,0,none⟩)] W fun e w'=>e=.returned (.int .u8 (modeOf M ps (parOf M C r) z:Nat))/\Below W.heap.size W w'):=fun q W hR=>Zt7 hR hM16 (by omega) hfew z hz
  have HP:=hid hp;have HO:=hid ok;obtain⟨pa,pc,rfl⟩:=hp.shape;have hb0:Below w.heap.size w ((w.alloc (.cells #[O Z M,O Z C,O Z S] 26)).alloc (.cells #[O Z 0,.int .u8 0,O Z 0,Zt none 0 0,Zt none 0 0] 217)):=((Zb _ _).alloc (Za _) _).alloc (by rw[Zaa];omega) _;have HR0:Hid (At ((w.alloc (.cells #[O Z M,O Z C,O Z S] 26)).alloc (.cells #[O Z 0,.int .u8 0,O Z 0,Zt none 0 0,Zt none 0 0] 217)) (w.heap.size+1) #[O Z 0,.int .u8 0,O Z 0,Zt none 0 0,Zt none 0 0] 217):=At.new2 _ _ _ _;clear hp hd ok;generalize hpp:parOf M C r=par at*;have hmd:=Zs0 M ps par z;generalize modeOf M ps par z=md at*;have hmm:= @run_makeMap Zw;unfold geo at*;go_enter Tryz.func145,Tryz.ntmps145
  go_wp2_with (first
    |(go_at_call 208;(with_reducible refine(hof.out _ hb0).mono ?_);rintro e w2 ⟨q,rfl,hrow,hb2,hq⟩;have HR2:=hid (HR0.out.below hb2 HR0.out.lt);have HRow:=hid hrow;have HM0:=hid (World.vmap_made w2 Zw 215 .u8);have HB0:=hid ((Zb w2.heap.size w2).alloc (Za _) (.map #[] 0));clear hrow)
    |(refine Zbm rfl _ _ _ 283 rfl Tryz.underlying283 Tryz.underlying215 rfl HM3.out (by unfold maxLen;omega) 2 (.func (.func 211) #[.pointer (some ⟨q,0,none⟩)] #[]) rfl rfl (by decide) ?_;intro w3 hm3 hc3;have HB4:=hid (Chg.own HB3.out hc3 (fun k hk=>by rw[hk];exact Za _));have HM4:=hid hm3;clear HM3 HB3 hm3 hc3)
    |(refine Zbm rfl _ _ _ 283 rfl Tryz.underlying283 Tryz.underlying215 rfl HM2.out (by unfold maxLen;omega) 3 (.func (.func 210) #[.pointer (some ⟨q,0,none⟩)] #[]) rfl rfl (by decide) ?_;intro w3 hm3 hc3;have HB3:=hid (Chg.own HB2.out hc3 (fun k hk=>by rw[hk];exact Za _));have HM3:=hid hm3;clear HM2 HB2 hm3 hc3)
    |(refine Zbm rfl _ _ _ 283 rfl Tryz.underlying283 Tryz.underlying215 rfl HM1.out (by unfold maxLen;omega) 4 (.func (.func 209) #[.pointer (some ⟨q,0,none⟩)] #[]) rfl rfl (by decide) ?_;intro w3 hm3 hc3;have HB2:=hid (Chg.own HB1.out hc3 (fun k hk=>by rw[hk];exact Za _));have HM2:=hid hm3;clear HM1 HB1 hm3 hc3)
    |(refine Zbm rfl _ _ _ 283 rfl Tryz.underlying283 Tryz.underlying215 rfl HM0.out (by unfold maxLen;omega) 1 (.func (.func 209) #[.pointer (some ⟨q,0,none⟩)] #[]) rfl rfl (by decide) ?_;intro w3 hm3 hc3;have HB1:=hid (Chg.own HB0.out hc3 (fun k hk=>by rw[hk];exact Za _));have HM1:=hid hm3;clear HM0 HB0 hm3 hc3))
  have hb3:Below w.heap.size w w3:=Zac (Zac hb0 hb2) HB4.out;have hq3:w.heap.size≤q:=by rw[Zaa,Zaa]at hq;omega
  have hR3:=HR2.out.below HB4.out HR2.out.lt;have HR3:=hid hR3;have hrow3:=HRow.out.below HB4.out;have HRow3:=hid hrow3;obtain⟨b,o,rfl,hlt,hx⟩:=PSeg.full (HP.out.below hb3) (by omega);have p1:w3.cell? ⟨b,o+1,none⟩=some (O Z r):=by
    have:=(hx 0 (by omega)).r;rw[HO.out.rows _ (Zj (by omega))]at this;simpa using this
  have c5:w3.cell? ⟨q,5,none⟩=some (O Z (par:Int)):=by rw[<-hpp];exact hrow3.at'.cell 5
  have hql:=hrow3.at'.lt;have HS:Hid (∀X,Below w3.heap.size w3 X->X.cell? ⟨b,o+1,none⟩=some (O Z r)/\X.cell? ⟨q,5,none⟩=some (O Z (par:Int))):=fun X hX=>⟨(hX.cell (p:=⟨b,o+1,none⟩) hlt).trans p1,(hX.cell (p:=⟨q,5,none⟩) hql).trans c5⟩
  have HB3:=hid hb3;clear hx hrow3 hR3 hb3 p1 c5 HRow HR2 HR0 hb2 hq HB4 hb0;have HAL:Hid (Below w3.heap.size w3 (w3.alloc (.cells #[O Z 0,.int .u8 0,O Z 0,Zt none 0 0,Zt none 0 0] 217))):=(Zb _ _).alloc (Za _) _;have HID:=hid (Zb w3.heap.size w3);have HDR:Hid (Below w3.heap.size w3 w3.drew):=(Zb _ _).drew;have HALD:Hid (Below w3.heap.size w3 (w3.alloc (.cells #[O Z 0,.int .u8 0,O Z 0,Zt none 0 0,Zt none 0 0] 217)).drew):=HAL.out.drew;go_region_held3 (fun w'=>w'.cell? ⟨b,o+1,none⟩=some (O Z r)/\w'.cell? ⟨q,5,none⟩=some (O Z (par:Int)))
    (first|with_reducible exact HS.out _ HID.out|with_reducible exact HS.out _ HDR.out|with_reducible exact HS.out _ HB5.out|with_reducible exact HS.out _ HB5A.out|with_reducible exact HS.out _ HB5Z.out|with_reducible exact HS.out _ HAL.out|with_reducible exact HS.out _ HALD.out|with_reducible exact HS.out _ HB6.out)
    (first
      |(go_at_call 212;(with_reducible refine(hmo.out q w3.drew (HRow3.out.below (Zb _ _).drew)).mono ?_);rintro e w4 ⟨rfl,hb4⟩;have HB5:=hid ((Zb w3.heap.size w3).drew.trans hb4);have HB5A:=hid (HB5.out.alloc HB5.out.size (.cells #[O Z r,.int .u8 md,O Z par,Zt none 0 0,Zt none 0 0] 217));have HB5Z:=hid (HB5.out.alloc HB5.out.size (.cells #[O Z 0,.int .u8 0,O Z 0,Zt none 0 0,Zt none 0 0] 217));clear hb4)
      |(go_at_call 212;(with_reducible refine(hmo.out q (w3.alloc (.cells #[O Z 0,.int .u8 0,O Z 0,Zt none 0 0,Zt none 0 0] 217)).drew (HRow3.out.below HAL.out.drew)).mono ?_);rintro e w4 ⟨rfl,hb4⟩;have HB5:Hid (Below w3.heap.size w3 w4):=HAL.out.drew.trans (hb4.mono (by show w3.heap.size≤(w3.alloc _).heap.size;rw[Zaa];omega));have hP4:At w4 w3.heap.size #[O Z 0,.int .u8 0,O Z 0,Zt none 0 0,Zt none 0 0] 217:=(At.new w3 _ _).drew.below hb4 (by show w3.heap.size<(w3.alloc _).heap.size;rw[Zaa];omega);have d0:=hP4.cell 0;have d1:=hP4.cell 1;have d2:=hP4.cell 2;have d3:=hP4.cell 3;have d4:=hP4.cell 4;have f0:=hP4.free 0;have f1:=hP4.free 1;have f2:=hP4.free 2;have f3:=hP4.free 3;have f4:=hP4.free 4;have HP4:=hid hP4;have HB6:=hid (((((HB5.out.setCell (p:=⟨w3.heap.size,0,none⟩) (Za _) (O Z (r:Int))).setCell (p:=⟨w3.heap.size,1,none⟩) (Za _) (.int .u8 (md:Int))).setCell (p:=⟨w3.heap.size,2,none⟩) (Za _) (O Z (par:Int))).setCell (p:=⟨w3.heap.size,3,none⟩) (Za _) (Zt none 0 0)).setCell (p:=⟨w3.heap.size,4,none⟩) (Za _) (Zt none 0 0));clear hb4 hP4))
  all_goals first
    | (
    have HP5:Hid (At (((((w4.setCell ⟨w3.heap.size,0,none⟩ (O Z r)).setCell ⟨w3.heap.size,1,none⟩ (.int .u8 md)).setCell ⟨w3.heap.size,2,none⟩ (O Z par)).setCell ⟨w3.heap.size,3,none⟩ (Zt none 0 0)).setCell ⟨w3.heap.size,4,none⟩ (Zt none 0 0)) w3.heap.size #[O Z r,.int .u8 md,O Z par,Zt none 0 0,Zt none 0 0] 217):=((((HP4.out.set 0 (O Z r)).set 1 (.int .u8 md)).set 2 (O Z par)).set 3 (Zt none 0 0)).set 4 (Zt none 0 0)
    have HB7:=hid HB6.out
    clear HB6 HP4 HB5 d0 d1 d2 d3 d4 f0 f1 f2 f3 f4
    generalize ((((w4.setCell ⟨w3.heap.size,0,none⟩ (O Z r)).setCell ⟨w3.heap.size,1,none⟩ (.int .u8 md)).setCell ⟨w3.heap.size,2,none⟩ (O Z par)).setCell ⟨w3.heap.size,3,none⟩ (Zt none 0 0)).setCell ⟨w3.heap.size,4,none⟩ (Zt none 0 0)=W5 at*
    obtain⟨pb,hpb0⟩:∃pb,pb=w3.heap.size:=⟨_,rfl⟩
    have hpb:w3.heap.size≤pb:=by omega
    rw[<-hpb0]at HP5 ⊢
    clear hpb0)
    | (
    have HP5:Hid (At (w4.alloc (.cells #[O Z r,.int .u8 md,O Z par,Zt none 0 0,Zt none 0 0] 217)) w4.heap.size #[O Z r,.int .u8 md,O Z par,Zt none 0 0,Zt none 0 0] 217):=At.new _ _ _
    have hpb:w3.heap.size≤w4.heap.size:=HB5.out.size
    have HB7:=hid HB5A.out
    clear HB5A HB5Z HB5
    generalize w4.alloc (.cells #[O Z r,.int .u8 md,O Z par,Zt none 0 0,Zt none 0 0] 217)=W5 at*
    generalize w4.heap.size=pb at*)
  all_goals
    clear HS HID HDR HAL HALD
    have HRow5:=hid (HRow3.out.below HB7.out)
    have HR5:=hid (HR3.out.below HB7.out HR3.out.lt)
    have HM5:=hid (HM4.out.below HB7.out)
    have hb5:Below w.heap.size w W5:=Zac HB3.out HB7.out
    have HB8:=hid hb5
    have hpw:w.heap.size+2≤pb:=by have:=HR3.out.lt;omega
    have c1:=HP5.out.cell 1
    have hnq:Hid (∀W,Calls Zw 209 #[Zs (some ⟨q,0,none⟩)] W fun e w'=>e=.returned (Zt none 0 0)/\Below W.heap.size W w'):=fun W=>(Zuc q W).mono fun e w' ⟨x1,x2⟩=>⟨x1,by rw[x2];exact Zb _ _⟩
    have hrq:=hid (fun (W:World) (hW:Below W5.heap.size W5 W)=>Zt6 (HRow5.out.below hW) hM16)
    have hoq:=hid (fun (W:World) (hW:Below W5.heap.size W5 W)=>Zwq (HRow5.out.below hW) hM16)
    rw[hpp]at hrq hoq
    have hIR:=hid (Zb W5.heap.size W5)
    have HF:=hid (fun (md':Int) (F:Value) (h:(if md'=2 then some (Value.func (.func 211) #[Zs (some ⟨q,0,none⟩)] #[])else if md'=3 then some (Value.func (.func 210) #[Zs (some ⟨q,0,none⟩)] #[])else if md'=4 then some (Value.func (.func 209) #[Zs (some ⟨q,0,none⟩)] #[])else if md'=1 then some (Value.func (.func 209) #[Zs (some ⟨q,0,none⟩)] #[])else none)=some F)=>h)
    clear hlt HRow3 HR3 HM4 HB3 HB7 hpb hql hof hmo hmm
    rcases hmd with h1|h2|h3|h4
    all_goals first
      | (obtain ⟨L, hrd, HQ⟩ : ∃ L : List Nat, Hid (readsOf ps par M md = L) /\ Hid (∀ W, Below W5.heap.size W5 W -> Calls Zw 209 #[Zs (some ⟨q, 0, none⟩)] W fun e w' => ∃ vr, e = .returned vr /\ w'.ownsRow W.heap.size 3 1 vr L.length (mcells L) /\ Below W.heap.size W w') := ⟨[], by rw [h1]; exact rfl, fun W _ => (hnq.out W).mono fun e w' ⟨x1, x2⟩ => ⟨Zt none 0 0, x1, World.ownsRow_nil _ _ _ _, x2⟩⟩
         have HK:Hid ((md:Int)=1):=(by rw[h1];rfl)
         clear h1
         go_wp2_with (first
           |(refine Zax rfl _ _ 283 rfl Tryz.underlying283 Tryz.underlying215 _ (Tryz.zeroValue282 _) rfl HM5.out 1 (by rw[<-HK.out];rfl) (by decide) (.func (.func 209) #[.pointer (some ⟨q,0,none⟩)] #[]) rfl ?_)
           |(go_at_call 209;(with_reducible refine(HQ.out _ hIR.out).mono ?_);rintro e w6 ⟨vr,rfl,hown6,hb6⟩;obtain⟨ra,rc,rfl⟩:=Zab hown6;have hP6:=HP5.out.below hb6 HP5.out.lt;have e4:=hP6.cell 4;have g4:=hP6.free 4;have HP6:=hid hP6;have HB9:=hid (Zac HB8.out hb6);have HR6:=hid (HR5.out.below hb6 HR5.out.lt);have HO6:=hid (Zan (b':=w.heap.size) hown6 (Zc (Nat.le_of_lt (Zd (Nat.lt_succ_self _) (Nat.le_of_lt HR5.out.lt))) (Za _)));clear hP6 hown6 hb6)))
      | (obtain ⟨L, hrd, HQ⟩ : ∃ L : List Nat, Hid (readsOf ps par M md = L) /\ Hid (∀ W, Below W5.heap.size W5 W -> Calls Zw 211 #[Zs (some ⟨q, 0, none⟩)] W fun e w' => ∃ vr, e = .returned vr /\ w'.ownsRow W.heap.size 3 1 vr L.length (mcells L) /\ Below W.heap.size W w') := ⟨whichTo (isOld ps par) M, by rw [h2]; exact rfl, fun W hW => hoq.out W hW⟩
         have HK:Hid ((md:Int)=2):=(by rw[h2];rfl)
         clear h2
         go_wp2_with (first
           |(refine Zax rfl _ _ 283 rfl Tryz.underlying283 Tryz.underlying215 _ (Tryz.zeroValue282 _) rfl HM5.out 2 (by rw[<-HK.out];rfl) (by decide) (.func (.func 211) #[.pointer (some ⟨q,0,none⟩)] #[]) rfl ?_)
           |(go_at_call 211;(with_reducible refine(HQ.out _ hIR.out).mono ?_);rintro e w6 ⟨vr,rfl,hown6,hb6⟩;obtain⟨ra,rc,rfl⟩:=Zab hown6;have hP6:=HP5.out.below hb6 HP5.out.lt;have e4:=hP6.cell 4;have g4:=hP6.free 4;have HP6:=hid hP6;have HB9:=hid (Zac HB8.out hb6);have HR6:=hid (HR5.out.below hb6 HR5.out.lt);have HO6:=hid (Zan (b':=w.heap.size) hown6 (Zc (Nat.le_of_lt (Zd (Nat.lt_succ_self _) (Nat.le_of_lt HR5.out.lt))) (Za _)));clear hP6 hown6 hb6)))
      | (obtain ⟨L, hrd, HQ⟩ : ∃ L : List Nat, Hid (readsOf ps par M md = L) /\ Hid (∀ W, Below W5.heap.size W5 W -> Calls Zw 210 #[Zs (some ⟨q, 0, none⟩)] W fun e w' => ∃ vr, e = .returned vr /\ w'.ownsRow W.heap.size 3 1 vr L.length (mcells L) /\ Below W.heap.size W w') := ⟨whichTo (isRest ps par) M, by rw [h3]; exact rfl, fun W hW => hrq.out W hW⟩
         have HK:Hid ((md:Int)=3):=(by rw[h3];rfl)
         clear h3
         go_wp2_with (first
           |(refine Zax rfl _ _ 283 rfl Tryz.underlying283 Tryz.underlying215 _ (Tryz.zeroValue282 _) rfl HM5.out 3 (by rw[<-HK.out];rfl) (by decide) (.func (.func 210) #[.pointer (some ⟨q,0,none⟩)] #[]) rfl ?_)
           |(go_at_call 210;(with_reducible refine(HQ.out _ hIR.out).mono ?_);rintro e w6 ⟨vr,rfl,hown6,hb6⟩;obtain⟨ra,rc,rfl⟩:=Zab hown6;have hP6:=HP5.out.below hb6 HP5.out.lt;have e4:=hP6.cell 4;have g4:=hP6.free 4;have HP6:=hid hP6;have HB9:=hid (Zac HB8.out hb6);have HR6:=hid (HR5.out.below hb6 HR5.out.lt);have HO6:=hid (Zan (b':=w.heap.size) hown6 (Zc (Nat.le_of_lt (Zd (Nat.lt_succ_self _) (Nat.le_of_lt HR5.out.lt))) (Za _)));clear hP6 hown6 hb6)))
      | (obtain ⟨L, hrd, HQ⟩ : ∃ L : List Nat, Hid (readsOf ps par M md = L) /\ Hid (∀ W, Below W5.heap.size W5 W -> Calls Zw 209 #[Zs (some ⟨q, 0, none⟩)] W fun e w' => ∃ vr, e = .returned vr /\ w'.ownsRow W.heap.size 3 1 vr L.length (mcells L) /\ Below W.heap.size W w') := ⟨[], by rw [h4]; exact rfl, fun W _ => (hnq.out W).mono fun e w' ⟨x1, x2⟩ => ⟨Zt none 0 0, x1, World.ownsRow_nil _ _ _ _, x2⟩⟩
         have HK:Hid ((md:Int)=4):=(by rw[h4];rfl)
         clear h4
         go_wp2_with (first
           |(refine Zax rfl _ _ 283 rfl Tryz.underlying283 Tryz.underlying215 _ (Tryz.zeroValue282 _) rfl HM5.out 4 (by rw[<-HK.out];rfl) (by decide) (.func (.func 209) #[.pointer (some ⟨q,0,none⟩)] #[]) rfl ?_)
           |(go_at_call 209;(with_reducible refine(HQ.out _ hIR.out).mono ?_);rintro e w6 ⟨vr,rfl,hown6,hb6⟩;obtain⟨ra,rc,rfl⟩:=Zab hown6;have hP6:=HP5.out.below hb6 HP5.out.lt;have e4:=hP6.cell 4;have g4:=hP6.free 4;have HP6:=hid hP6;have HB9:=hid (Zac HB8.out hb6);have HR6:=hid (HR5.out.below hb6 HR5.out.lt);have HO6:=hid (Zan (b':=w.heap.size) hown6 (Zc (Nat.le_of_lt (Zd (Nat.lt_succ_self _) (Nat.le_of_lt HR5.out.lt))) (Za _)));clear hP6 hown6 hb6)))
    all_goals
      have hPS:=HP6.out.set 4 (Zt ra L.length rc)
      have hcs:Chg (fun k=>k=pb) w6 (w6.setCell ⟨pb,4,none⟩ (Zt ra L.length rc)):=Zk (S:=fun k=>k=pb) (Zl _ _) ⟨pb,4,none⟩ (.inl rfl) _
      have HPS:=hid hPS
      have HRS:=hid (HR6.out.mod hcs (by omega))
      have HOS:=hid (Zad HO6.out hcs (fun g hg e=>Zah HO6.out HP6.out (by decide) (e ▸ hg)))
      have HBS:=hid (HB9.out.setCell (p:=⟨pb,4,none⟩) (by show w.heap.size≤pb;omega) (Zt ra L.length rc))
      clear hPS hcs e4 g4 HP6 HR6 HO6 HB9 c1 HP5 HR5 HB8 HM5 HRow5 hrq hoq hnq hIR HF hb5
      go_loopw [54] (fun t54 wr=>∃(k:Nat) (v:Value) (dv:Nat->Value),k≤ps.length/\t54=O Z k/\At wr pb #[O Z r,.int .u8 md,O Z par,v,Zt ra L.length rc] 217/\PRow wr w.heap.size v ps k dv/\wr.ownsRow w.heap.size 3 1 (Zt ra L.length rc) L.length (mcells L)/\At wr (w.heap.size+1) #[O Z 0,.int .u8 0,O Z 0,Zt none 0 0,Zt none 0 0] 217/\Below w.heap.size w wr) (fun t54 _=>ps.length-(intOf t54).toNat)
      case atStart=>exact⟨0,Zt none 0 0,fun _=>undef,by omega,rfl,HPS.out,PRow.nil _ _ _ _,HOS.out,HRS.out,HBS.out⟩
      case round=>
        obtain⟨k,v,dv,hk',rfl,hPw,hrowk,hvr,hRw,hbw⟩:=hrel;have HPW:=hid hPw;have HROW:=hid hrowk;have HVR:=hid hvr;have HRW:=hid hRw;have HBW:=hid hbw;have hplt:=hPw.lt;clear HPS HRS HOS HBS hPw hrowk hvr hRw;by_cases hkn:k<ps.length
        · have K1:Hid (k+1≤ps.length):=hkn
          obtain⟨b',o',hve,hlt,hx⟩:=PSeg.full (HP.out.below hbw) (by omega);simp only [Zg,Addr.mk.injEq,and_true]at hve;obtain⟨rfl,rfl⟩:=hve;obtain⟨p0,p1,u,p2,hu⟩:PatAt wr b (o+k*3) (ps.getD k pat0):=by rw[Zbx ps k hkn];exact hx k hkn
          have hl128:(ps.getD k pat0).d.length=128:=by rw[Zbx ps k hkn];exact HO.out.len _ (Zj hkn)
          obtain⟨ub,uo,uc,rfl,hul,-⟩:=Seg.full hu (by omega);have hcl:=hid (fun (W:World) (hW:Below wr.heap.size wr W)=>Zcw ⟨ub,uo,none⟩ uc (ps.getD k pat0).d W (by omega) (hu.below hW));rw[hl128]at p2;rw[hl128]at hcl;have hba:Below wr.heap.size wr (wr.alloc (.cells #[O Z (ps.getD k pat0).m,O Z (ps.getD k pat0).r,Zt (some ⟨ub,uo,none⟩) 128 uc] 167)):=(Zb _ _).alloc (Za _) _;have HTA:Hid (At (wr.alloc (.cells #[O Z (ps.getD k pat0).m,O Z (ps.getD k pat0).r,Zt (some ⟨ub,uo,none⟩) 128 uc] 167)) wr.heap.size #[O Z (ps.getD k pat0).m,O Z (ps.getD k pat0).r,Zt (some ⟨ub,uo,none⟩) 128 uc] 167):=At.new _ _ _;have HBA:=hid hba;clear hx hu hbw;generalize hxm:(ps.getD k pat0).m=xm at*;generalize hxr:(ps.getD k pat0).r=xr at*;as_aux_lemma=>
            go_wp2_with (first
              |(go_at_call 98;(with_reducible refine(hcl.out _ HBA.out).mono ?_);rintro e w7 ⟨u7,rfl,hou,hb7⟩;obtain⟨ua,uc7,rfl⟩:=Zab hou;have hbw7:=Zac HBA.out hb7;have hT7:=HTA.out.below hb7 HTA.out.lt;have t2:=hT7.cell 2;have tf2:=hT7.free 2;have hT8:=hT7.set 2 (Zt ua 128 uc7);have t80:=hT8.cell 0;have t81:=hT8.cell 1;have t82:=hT8.cell 2;have hc8:Chg (fun g=>g=wr.heap.size) w7 (w7.setCell ⟨wr.heap.size,2,none⟩ (Zt ua 128 uc7)):=Zk (S:=fun g=>g=wr.heap.size) (Zl _ _) ⟨wr.heap.size,2,none⟩ (.inl rfl) _;have hP7:=(HPW.out.below hbw7 HPW.out.lt).mod hc8 (by show ¬pb=wr.heap.size;omega);have s3:=hP7.cell 3;have hr7:=Zaf HROW.out.row hbw7 (Za _);have hr8:=(Zad hr7 hc8 (fun g hg e=>by have:=(HROW.out.row.lt g hg).2;omega)).alloc (.cells #[O Z xm,O Z xr,Zt ua 128 uc7] 167);have HR8:=hid hr8;have HP7:=hid hP7;have HOU:=hid hou;have HC8:=hid hc8;have HBW7:=hid hbw7;have HNEW:=hid (Ze5 (w7.setCell ⟨wr.heap.size,2,none⟩ (Zt ua 128 uc7)) (O Z xm) (O Z xr) (Zt ua 128 uc7) 167);have hz8:(w7.setCell ⟨wr.heap.size,2,none⟩ (Zt ua 128 uc7)).heap.size=w7.heap.size:=Za6 _ _ _;have hs7:=hbw7.size;clear hr7 hr8 hP7 hou hT7 hT8 hc8 hb7 hbw7)
              |(refine Zar rfl _ _ 114 167 3 40 rfl Zdi w.heap.size v k _ rfl HR8.out _ 1 1 [O Z xm,O Z xr,Zt ua 128 uc7] rfl rfl (HNEW.out _ (by first|rfl|simp)) (by intro u hu;simp at hu;rcases hu with rfl|rfl|rfl<;>rfl) (by unfold maxLen;omega) (by omega) (by rw[Zaa,hz8];have:=HBW.out.size;omega) (by omega) ?_;intro v' w9 hrow9 hvb9 hc9 hkk9;clear hkk9;obtain⟨va,vc,rfl⟩:=Zab hrow9;have hP9:=(HP7.out.alloc (.cells #[O Z xm,O Z xr,Zt ua 128 uc7] 167)).mod hc9 (Zah HR8.out (HP7.out.alloc _) (by decide));have s9:=hP9.cell 3;have sf9:=hP9.free 3;have HP9:=hid hP9;have HROW9:=hid hrow9;have HC9:=hid hc9;clear hP9 hrow9 hc9 s3))
            have hC:Chg (fun g=>g=wr.heap.size\/g=pb\/v.ownBlock=some g) w7 (w9.setCell ⟨pb,3,none⟩ (Zt va (k+1) vc)):=(((HC8.out.mono (fun g hg=>.inl hg)).trans ((Zl _ _).alloc _)).trans (HC9.out.mono (fun g hg=>.inr (.inr hg)))).trans (Zk (S:=fun g=>g=wr.heap.size\/g=pb\/v.ownBlock=some g) (Zl _ _) ⟨pb,3,none⟩ (.inl (.inr (.inl rfl))) _);have hpc:Chg (fun g=>g=pb) w9 (w9.setCell ⟨pb,3,none⟩ (Zt va (k+1) vc)):=Zk (S:=fun g=>g=pb) (Zl _ _) ⟨pb,3,none⟩ (.inl rfl) _;have hou0:=Zan (b':=wr.heap.size) HOU.out (by rw[Zaa];omega);have hwz:=HBW.out.size;refine⟨⟨k+1,Zt va (k+1) vc,fun j=>if j=k then Zt ua 128 uc7 else dv j,K1.out,by go_num,HP9.out.set 3 _,?_,?_,?_,?_⟩,by simp[intOf];omega⟩
            · refine HROW.out.next hwz hou0 HBW7.out hC (fun g hg=>⟨fun j hj e=> ?_,fun e=> ?_⟩) ?_
              · rcases hg with rfl|rfl|hg
                · have:=((HROW.out.dat j hj).lt _ e).2;omega
                · exact Zah (HROW.out.dat j hj) HPW.out (by decide) e
                · exact Zbl (HROW.out.dat j hj) HROW.out.row (by decide) hg e
              · rcases hg with rfl|rfl|hg
                · have:=(HOU.out.lt _ e).1;rw[Zaa]at this;omega
                · have:=(HOU.out.lt _ e).1;rw[Zaa]at this;omega
                · have h1:=(HOU.out.lt _ e).1;have h2:=(HROW.out.row.lt _ hg).2;rw[Zaa]at h1;omega
              · rw[hxm,hxr]
                exact Zad HROW9.out hpc (fun g hg e=>Zah HROW9.out HP9.out (by decide) (e ▸ hg))
            · refine Zad (Zaf HVR.out HBW7.out (Za _)) hC (fun g hg e=> ?_)
              rcases e with rfl|rfl|e
              · have:=(HVR.out.lt _ hg).2;omega
              · exact Zah HVR.out HPW.out (by decide) hg
              · exact Zbl HVR.out HROW.out.row (by decide) e hg
            · refine(HRW.out.below HBW7.out HRW.out.lt).mod hC (fun e=> ?_)
              rcases e with e|e|e
              · have:=HRW.out.lt;omega
              · omega
              · exact Zah HROW.out.row HRW.out (by decide) e
            · refine Chg.own (HBW.out.trans (HBW7.out.mono hwz)) hC (fun g hg=> ?_)
              rcases hg with rfl|rfl|hg
              · exact hwz
              · omega
              · exact(HROW.out.row.lt _ hg).1
        · obtain rfl:k=ps.length:=by omega
          obtain⟨va,vc,rfl⟩:=Zab HROW.out.row;have x0:=HPW.out.cell 0;have x1:=HPW.out.cell 1;have x2:=HPW.out.cell 2;have x3:=HPW.out.cell 3;have x4:=HPW.out.cell 4;have y0:=HRW.out.cell 0;have y1:=HRW.out.cell 1;have y2:=HRW.out.cell 2;have y3:=HRW.out.cell 3;have y4:=HRW.out.cell 4;have z0:=HRW.out.free 0;have z1:=HRW.out.free 1;have z2:=HRW.out.free 2;have z3:=HRW.out.free 3;have z4:=HRW.out.free 4;have HF:=hid (((((HRW.out.set 0 (O Z r)).set 1 (.int .u8 md)).set 2 (O Z par)).set 3 (Zt va ps.length vc)).set 4 (Zt ra L.length rc));have HCH:Hid (Chg (fun g=>g=w.heap.size+1) wr (((((wr.setCell ⟨w.heap.size+1,0,none⟩ (O Z r)).setCell ⟨w.heap.size+1,1,none⟩ (.int .u8 md)).setCell ⟨w.heap.size+1,2,none⟩ (O Z par)).setCell ⟨w.heap.size+1,3,none⟩ (Zt va ps.length vc)).setCell ⟨w.heap.size+1,4,none⟩ (Zt ra L.length rc))):=Zk (S:=fun g=>g=w.heap.size+1) (Zk (S:=fun g=>g=w.heap.size+1) (Zk (S:=fun g=>g=w.heap.size+1) (Zk (S:=fun g=>g=w.heap.size+1) (Zk (S:=fun g=>g=w.heap.size+1) (Zl _ _) ⟨w.heap.size+1,0,none⟩ (.inl rfl) _) ⟨w.heap.size+1,1,none⟩ (.inl rfl) _) ⟨w.heap.size+1,2,none⟩ (.inl rfl) _) ⟨w.heap.size+1,3,none⟩ (.inl rfl) _) ⟨w.heap.size+1,4,none⟩ (.inl rfl) _;go_wp2;have r0:=HF.out.cell 0;have r1:=HF.out.cell 1;have r2:=HF.out.cell 2;have r3:=HF.out.cell 3;have r4:=HF.out.cell 4;clear x0 x1 x2 x3 x4 y0 y1 y2 y3 y4 z0 z1 z2 z3 z4;(try simp only [Exit.inBlock,Exit.then]);refine bodyPost_ret (v:=.tuple #[.agg #[O Z r,.int .u8 md,O Z par,Zt va ps.length vc,Zt ra L.length rc],.int .u16 0]) ?_ rfl ⟨_,_,dv,rfl,HROW.out.mod HCH.out (fun g hg e=>Zah HROW.out.row HRW.out (by decide) (e ▸ hg)) (fun j hj g hg e=>Zah (HROW.out.dat j hj) HRW.out (by decide) (e ▸ hg)),?_,Chg.own HBW.out HCH.out (fun g hg=>by omega)⟩
          · rw[results_cell_tmp rfl]
            go_simp;try rfl
          · rw[hrd.out]
            exact Zad HVR.out HCH.out (fun g hg e=>Zah HVR.out HRW.out (by decide) (e ▸ hg))
end Go.Proofs.YtmemlkmnhcealaaGreat
