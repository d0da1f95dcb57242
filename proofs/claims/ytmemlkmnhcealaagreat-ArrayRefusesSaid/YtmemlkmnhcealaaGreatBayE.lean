
/- A bay of disks: an operation. -/
import Derived.Test.YtmemlkmnhcealaaGreatMrg3
set_option linter.unusedVariables false
set_option maxRecDepth 100000
set_option maxHeartbeats 4000000
namespace Go.Proofs.YtmemlkmnhcealaaGreat
open Value renaming int→O,pointer→Zs
open IntKind renaming i64→Z
open Ending renaming returned→Zu
open Go.Proofs.Tryz renaming prog→Zw
open Go.RowKit
open Lib(hid)
variable {s:BaySt} {b gs:Nat} {T dp tg:Nat->Nat} {ptr:Nat->Option Nat} {w:World}
theorem Zv0(h:BayIn w T b s gs ptr tg dp)(ab db:Nat)(k:Int)(hk:¬s.is k):Calls Zw 75 #[Zs (some ⟨b,0,none⟩),O Z k,.func (.func 157) #[] #[],.func (.func 158) #[] #[Zs (some ⟨ab,0,none⟩),Zs (some ⟨db,0,none⟩)]] w fun e w'=>e=Zu (.int .u16 1)/\w'=w:=by
 have hat:=hid (Zcr h k hk);clear h;go_enter Tryz.func75,Tryz.ntmps75;go_wp2_with (go_at_call 117;refine hat.out.mono ?_;rintro e w1 ⟨rfl,rfl⟩);go_ret;exact⟨rfl,rfl⟩
theorem Zth(h:BayIn w T b s gs ptr tg dp)(ab db:Nat)(k:Nat)(hk:k<s.n)(ht:s.trip≠0)(hd:s.dark=true):Calls Zw 75 #[Zs (some ⟨b,0,none⟩),O Z k,.func (.func 157) #[] #[],.func (.func 158) #[] #[Zs (some ⟨ab,0,none⟩),Zs (some ⟨db,0,none⟩)]] w fun e w'=>e=Zu (.int .u16 50)/\w'=w:=by
 have hat:=hid (Zcg h k hk);have c1:w.cell? ⟨b,1,none⟩=some (.bool true):=by rw[<-hd];exact h.bay.cell 1
 have c2:w.cell? ⟨b,2,none⟩=some (O Z s.trip):=h.bay.cell 2;have q0:(s.trip==0)=false:=beq_eq_false_iff_ne.2 ht;clear h;go_enter Tryz.func75,Tryz.ntmps75;go_wp2_with (go_at_call 117;refine hat.out.mono ?_;rintro e w1 ⟨rfl,rfl⟩);go_ret;exact⟨rfl,rfl⟩
theorem Zpm(h:BayIn w T b s gs ptr tg dp)(ab db:Nat)(k:Nat)(hk:k<s.n)(ht:s.trip=0):Calls Zw 75 #[Zs (some ⟨b,0,none⟩),O Z k,.func (.func 157) #[] #[],.func (.func 158) #[] #[Zs (some ⟨ab,0,none⟩),Zs (some ⟨db,0,none⟩)]] w fun e w'=>e=Zu (.int .u16 50)/\BayIn w' T b {s with dark:=true,trip:= -1} gs ptr tg dp/\Chg (fun k=>k=b) w w':=by
 have hat:=hid (Zcg h k hk);have c1:w.cell? ⟨b,1,none⟩=some (.bool s.dark):=h.bay.cell 1;have c2:w.cell? ⟨b,2,none⟩=some (O Z 0):=by rw[<-ht];exact h.bay.cell 2
 have f1:=h.bay.free 1;have f2:=h.bay.free 2;have H:=hid h;clear h;go_enter Tryz.func75,Tryz.ntmps75;go_wp2_with (go_at_call 117;refine hat.out.mono ?_;rintro e w1 ⟨rfl,rfl⟩);go_ret;have hc:Chg (fun k=>k=b) w1 ((w1.setCell ⟨b,1,none⟩ (.bool true)).setCell ⟨b,2,none⟩ (O Z (-1))):=Zk (S:=fun k=>k=b) (Zk (S:=fun k=>k=b) (Zl _ _) ⟨b,1,none⟩ (.inl rfl) _) ⟨b,2,none⟩ (.inl rfl) _;exact⟨rfl,H.out.cells' hc true (-1) s.cnt ((H.out.bay.set 1 (.bool true)).set 2 (O Z (-1))) H.out.cl (by omega) (by omega),hc⟩
theorem Zqw(h:BayIn w T b s gs ptr tg dp)(ab db:Nat)(k:Nat)(hk:k<s.n)(ht:s.trip≠0)(hd:s.dark=false)(hcnt:s.cnt 0≤1000000000000)(hx:ptr (k*3)=none):Calls Zw 75 #[Zs (some ⟨b,0,none⟩),O Z k,.func (.func 157) #[] #[],.func (.func 158) #[] #[Zs (some ⟨ab,0,none⟩),Zs (some ⟨db,0,none⟩)]] w fun e w'=>e=Zu (.int .u16 51)/\BayIn w' T b {s with trip:=(if 0<s.trip then s.trip-1 else s.trip),cnt:=fun q=>if q=0 then s.cnt 0+1 else s.cnt q} gs ptr tg dp/\Chg (fun k=>k=b) w w':=by
 have hat:=hid (Zcg h k hk);have c1:w.cell? ⟨b,1,none⟩=some (.bool false):=by rw[<-hd];exact h.bay.cell 1
 have c2:w.cell? ⟨b,2,none⟩=some (O Z s.trip):=h.bay.cell 2;have c3:w.cell? ⟨b,3,none⟩=some (O Z (s.cnt 0)):=h.bay.cell 3;have f2:=h.bay.free 2;have f3:=h.bay.free 3;have q0:(s.trip==0)=false:=beq_eq_false_iff_ne.2 ht;have hl:=h.trl;have hh:=h.trh;have hcl:=h.cl 0;have hkn:k*3<3*s.n:=by omega
 have H:=hid h;by_cases hpos:0<s.trip
 ·have hch:Chg (fun k=>k=b) w ((w.setCell ⟨b,2,none⟩ (O Z (s.trip-1))).setCell ⟨b,3,none⟩ (O Z (s.cnt 0+1))):=Zk (S:=fun k=>k=b) (Zk (S:=fun k=>k=b) (Zl _ _) ⟨b,2,none⟩ (.inl rfl) _) ⟨b,3,none⟩ (.inl rfl) _
  have hB:=H.out.cells' hch false (s.trip-1) (fun q=>if q=0 then s.cnt 0+1 else s.cnt q) (by simpa [bayCells,hd]using ((H.out.bay.set 2 (O Z (s.trip-1))).set 3 (O Z (s.cnt 0+1)))) (fun q=>by
   show 0≤if q=0 then s.cnt 0+1 else s.cnt q
   split
   ·omega
   ·exact H.out.cl q) (by omega) (by omega)
  have HB:=hid hB;have hth:=hid (Za9 hB k hk hx);clear h hB;go_enter Tryz.func75,Tryz.ntmps75
  go_wp2_with (first
   |(go_at_call 117;refine hat.out.mono ?_;rintro e w1 ⟨rfl,rfl⟩)
   |(go_at_call 157;refine(Ze4 b _).mono ?_;rintro e w1 ⟨rfl,rfl⟩)
   |(go_at_call 93;refine hth.out.mono ?_;rintro e w1 ⟨rfl,rfl⟩))
  go_ret;refine⟨rfl,?_,hch⟩;have ht2:(if 0<s.trip then s.trip-1 else s.trip)=(s.trip-1):=Zf (by omega);first
   |exact HB.out
   |(simp only [ht2];exact HB.out)
   |(simp only [ht2,hd];exact HB.out)
 ·have hch:Chg (fun k=>k=b) w (w.setCell ⟨b,3,none⟩ (O Z (s.cnt 0+1))):=Zk (S:=fun k=>k=b) (Zl _ _) ⟨b,3,none⟩ (.inl rfl) _
  have hB:=H.out.cells' hch false s.trip (fun q=>if q=0 then s.cnt 0+1 else s.cnt q) (by simpa [bayCells,hd]using (H.out.bay.set 3 (O Z (s.cnt 0+1)))) (fun q=>by
   show 0≤if q=0 then s.cnt 0+1 else s.cnt q
   split
   ·omega
   ·exact H.out.cl q) (by omega) (by omega)
  have HB:=hid hB;have hth:=hid (Za9 hB k hk hx);clear h hB;go_enter Tryz.func75,Tryz.ntmps75
  go_wp2_with (first
   |(go_at_call 117;refine hat.out.mono ?_;rintro e w1 ⟨rfl,rfl⟩)
   |(go_at_call 157;refine(Ze4 b _).mono ?_;rintro e w1 ⟨rfl,rfl⟩)
   |(go_at_call 93;refine hth.out.mono ?_;rintro e w1 ⟨rfl,rfl⟩))
  go_ret;refine⟨rfl,?_,hch⟩;have ht2:(if 0<s.trip then s.trip-1 else s.trip)=s.trip:=Ze (by omega);first
   |exact HB.out
   |(simp only [ht2];exact HB.out)
   |(simp only [ht2,hd];exact HB.out)
theorem Zsf(h:BayIn w T b s gs ptr tg dp)(ab db:Nat)(k:Nat)(hk:k<s.n)(ht:s.trip≠0)(hd:s.dark=false)(hcnt:s.cnt 0≤1000000000000)(x:Dev)(hx:s.pos (k*3)=some x)(dv:Nat)(hp:ptr (k*3)=some dv)(hm:x.d.cache.length≤1000000)(P:Int->World->Prop)(hdo:∀W,BayIn W T b (s.begun 0 (k*3) x.use) gs ptr tg dp->Chg (fun k=>T k≠0) w W->Calls Zw 158 #[Zs (some ⟨dv,0,none⟩),Zs (some ⟨ab,0,none⟩),Zs (some ⟨db,0,none⟩)] W fun e W'=>∃c,e=Zu (.int .u16 c)/\P c W'):Calls Zw 75 #[Zs (some ⟨b,0,none⟩),O Z k,.func (.func 157) #[] #[],.func (.func 158) #[] #[Zs (some ⟨ab,0,none⟩),Zs (some ⟨db,0,none⟩)]] w fun e w'=>∃c,e=Zu (.int .u16 c)/\P c w':=by
 have hat:=hid (Zcg h k hk);have c1:w.cell? ⟨b,1,none⟩=some (.bool false):=by rw[<-hd];exact h.bay.cell 1
 have c2:w.cell? ⟨b,2,none⟩=some (O Z s.trip):=h.bay.cell 2;have c3:w.cell? ⟨b,3,none⟩=some (O Z (s.cnt 0)):=h.bay.cell 3;have f2:=h.bay.free 2;have f3:=h.bay.free 3;have q0:(s.trip==0)=false:=beq_eq_false_iff_ne.2 ht;have hl:=h.trl;have hh:=h.trh;have hcl:=h.cl 0;have hkn:k*3<3*s.n:=by omega
 have H:=hid h;by_cases hpos:0<s.trip
 ·have hch:Chg (fun k=>k=b) w ((w.setCell ⟨b,2,none⟩ (O Z (s.trip-1))).setCell ⟨b,3,none⟩ (O Z (s.cnt 0+1))):=Zk (S:=fun k=>k=b) (Zk (S:=fun k=>k=b) (Zl _ _) ⟨b,2,none⟩ (.inl rfl) _) ⟨b,3,none⟩ (.inl rfl) _
  have hB:=H.out.cells' hch false (s.trip-1) (fun q=>if q=0 then s.cnt 0+1 else s.cnt q) (by simpa [bayCells,hd]using ((H.out.bay.set 2 (O Z (s.trip-1))).set 3 (O Z (s.cnt 0+1)))) (fun q=>by
   show 0≤if q=0 then s.cnt 0+1 else s.cnt q
   split
   ·omega
   ·exact H.out.cl q) (by omega) (by omega)
  have HB:=hid hB;have hth:=hid (Zcf hB k dv hk hp);obtain⟨dv0,p1,p2⟩:=hB.some' (k*3) hkn x hx;rw[hp]at p1;simp only [Zg]at p1;subst p1;have huse:=hid (Zf5 T (tg (k*3)) dv (dp (k*3)) x _ p2 hm);have hne:=H.out.tb;clear h hB p2;go_enter Tryz.func75,Tryz.ntmps75
  go_wp2_with (first
   |(go_at_call 117;refine hat.out.mono ?_;rintro e w1 ⟨rfl,rfl⟩)
   |(go_at_call 157;refine(Ze4 b _).mono ?_;rintro e w1 ⟨rfl,rfl⟩)
   |(go_at_call 93;refine hth.out.mono ?_;rintro e w1 ⟨rfl,rfl⟩)
   |(go_at_call 118;refine huse.out.mono ?_;rintro e w5 ⟨rfl,u1,u2⟩;obtain⟨m1,m2⟩:=HB.out.used hkn hx hp u1 u2;have HDO:=hid (hdo w5 (by unfold BaySt.begun;rw[Zf (by omega),hd];exact m1) ((hch.mono (fun k hk=>by subst hk;omega)).trans m2)))
   |(go_at_call 158;refine HDO.out.mono ?_;rintro e w6 ⟨c,rfl,hP⟩))
  go_ret;exact⟨c,rfl,hP⟩
 ·have hch:Chg (fun k=>k=b) w (w.setCell ⟨b,3,none⟩ (O Z (s.cnt 0+1))):=Zk (S:=fun k=>k=b) (Zl _ _) ⟨b,3,none⟩ (.inl rfl) _
  have hB:=H.out.cells' hch false s.trip (fun q=>if q=0 then s.cnt 0+1 else s.cnt q) (by simpa [bayCells,hd]using (H.out.bay.set 3 (O Z (s.cnt 0+1)))) (fun q=>by
   show 0≤if q=0 then s.cnt 0+1 else s.cnt q
   split
   ·omega
   ·exact H.out.cl q) (by omega) (by omega)
  have HB:=hid hB;have hth:=hid (Zcf hB k dv hk hp);obtain⟨dv0,p1,p2⟩:=hB.some' (k*3) hkn x hx;rw[hp]at p1;simp only [Zg]at p1;subst p1;have huse:=hid (Zf5 T (tg (k*3)) dv (dp (k*3)) x _ p2 hm);have hne:=H.out.tb;clear h hB p2;go_enter Tryz.func75,Tryz.ntmps75
  go_wp2_with (first
   |(go_at_call 117;refine hat.out.mono ?_;rintro e w1 ⟨rfl,rfl⟩)
   |(go_at_call 157;refine(Ze4 b _).mono ?_;rintro e w1 ⟨rfl,rfl⟩)
   |(go_at_call 93;refine hth.out.mono ?_;rintro e w1 ⟨rfl,rfl⟩)
   |(go_at_call 118;refine huse.out.mono ?_;rintro e w5 ⟨rfl,u1,u2⟩;obtain⟨m1,m2⟩:=HB.out.used hkn hx hp u1 u2;have HDO:=hid (hdo w5 (by unfold BaySt.begun;rw[Ze (by omega),hd];exact m1) ((hch.mono (fun k hk=>by subst hk;omega)).trans m2)))
   |(go_at_call 158;refine HDO.out.mono ?_;rintro e w6 ⟨c,rfl,hP⟩))
  go_ret;exact⟨c,rfl,hP⟩
theorem Zue(h:BayIn w T b s gs ptr tg dp)(ab db:Nat)(k:Int)(hk:¬s.is k):Calls Zw 75 #[Zs (some ⟨b,0,none⟩),O Z k,.func (.func 76) #[] #[],.func (.func 77) #[] #[Zs (some ⟨ab,0,none⟩),Zs (some ⟨db,0,none⟩)]] w fun e w'=>e=Zu (.int .u16 1)/\w'=w:=by
 have hat:=hid (Zcr h k hk);clear h;go_enter Tryz.func75,Tryz.ntmps75;go_wp2_with (go_at_call 117;refine hat.out.mono ?_;rintro e w1 ⟨rfl,rfl⟩);go_ret;exact⟨rfl,rfl⟩
theorem Zqd(h:BayIn w T b s gs ptr tg dp)(ab db:Nat)(k:Nat)(hk:k<s.n)(ht:s.trip≠0)(hd:s.dark=true):Calls Zw 75 #[Zs (some ⟨b,0,none⟩),O Z k,.func (.func 76) #[] #[],.func (.func 77) #[] #[Zs (some ⟨ab,0,none⟩),Zs (some ⟨db,0,none⟩)]] w fun e w'=>e=Zu (.int .u16 50)/\w'=w:=by
 have hat:=hid (Zcg h k hk);have c1:w.cell? ⟨b,1,none⟩=some (.bool true):=by rw[<-hd];exact h.bay.cell 1
 have c2:w.cell? ⟨b,2,none⟩=some (O Z s.trip):=h.bay.cell 2;have q0:(s.trip==0)=false:=beq_eq_false_iff_ne.2 ht;clear h;go_enter Tryz.func75,Tryz.ntmps75;go_wp2_with (go_at_call 117;refine hat.out.mono ?_;rintro e w1 ⟨rfl,rfl⟩);go_ret;exact⟨rfl,rfl⟩
theorem Znf(h:BayIn w T b s gs ptr tg dp)(ab db:Nat)(k:Nat)(hk:k<s.n)(ht:s.trip=0):Calls Zw 75 #[Zs (some ⟨b,0,none⟩),O Z k,.func (.func 76) #[] #[],.func (.func 77) #[] #[Zs (some ⟨ab,0,none⟩),Zs (some ⟨db,0,none⟩)]] w fun e w'=>e=Zu (.int .u16 50)/\BayIn w' T b {s with dark:=true,trip:= -1} gs ptr tg dp/\Chg (fun k=>k=b) w w':=by
 have hat:=hid (Zcg h k hk);have c1:w.cell? ⟨b,1,none⟩=some (.bool s.dark):=h.bay.cell 1;have c2:w.cell? ⟨b,2,none⟩=some (O Z 0):=by rw[<-ht];exact h.bay.cell 2
 have f1:=h.bay.free 1;have f2:=h.bay.free 2;have H:=hid h;clear h;go_enter Tryz.func75,Tryz.ntmps75;go_wp2_with (go_at_call 117;refine hat.out.mono ?_;rintro e w1 ⟨rfl,rfl⟩);go_ret;have hc:Chg (fun k=>k=b) w1 ((w1.setCell ⟨b,1,none⟩ (.bool true)).setCell ⟨b,2,none⟩ (O Z (-1))):=Zk (S:=fun k=>k=b) (Zk (S:=fun k=>k=b) (Zl _ _) ⟨b,1,none⟩ (.inl rfl) _) ⟨b,2,none⟩ (.inl rfl) _;exact⟨rfl,H.out.cells' hc true (-1) s.cnt ((H.out.bay.set 1 (.bool true)).set 2 (O Z (-1))) H.out.cl (by omega) (by omega),hc⟩
theorem Znx(h:BayIn w T b s gs ptr tg dp)(ab db:Nat)(k:Nat)(hk:k<s.n)(ht:s.trip≠0)(hd:s.dark=false)(hcnt:s.cnt 1≤1000000000000)(hx:ptr (k*3)=none):Calls Zw 75 #[Zs (some ⟨b,0,none⟩),O Z k,.func (.func 76) #[] #[],.func (.func 77) #[] #[Zs (some ⟨ab,0,none⟩),Zs (some ⟨db,0,none⟩)]] w fun e w'=>e=Zu (.int .u16 51)/\BayIn w' T b {s with trip:=(if 0<s.trip then s.trip-1 else s.trip),cnt:=fun q=>if q=1 then s.cnt 1+1 else s.cnt q} gs ptr tg dp/\Chg (fun k=>k=b) w w':=by
 have hat:=hid (Zcg h k hk);have c1:w.cell? ⟨b,1,none⟩=some (.bool false):=by rw[<-hd];exact h.bay.cell 1
 have c2:w.cell? ⟨b,2,none⟩=some (O Z s.trip):=h.bay.cell 2;have c3:w.cell? ⟨b,4,none⟩=some (O Z (s.cnt 1)):=h.bay.cell 4;have f2:=h.bay.free 2;have f3:=h.bay.free 4;have q0:(s.trip==0)=false:=beq_eq_false_iff_ne.2 ht;have hl:=h.trl;have hh:=h.trh;have hcl:=h.cl 1;have hkn:k*3<3*s.n:=by omega
 have H:=hid h;by_cases hpos:0<s.trip
 ·have hch:Chg (fun k=>k=b) w ((w.setCell ⟨b,2,none⟩ (O Z (s.trip-1))).setCell ⟨b,4,none⟩ (O Z (s.cnt 1+1))):=Zk (S:=fun k=>k=b) (Zk (S:=fun k=>k=b) (Zl _ _) ⟨b,2,none⟩ (.inl rfl) _) ⟨b,4,none⟩ (.inl rfl) _
  have hB:=H.out.cells' hch false (s.trip-1) (fun q=>if q=1 then s.cnt 1+1 else s.cnt q) (by simpa [bayCells,hd]using ((H.out.bay.set 2 (O Z (s.trip-1))).set 4 (O Z (s.cnt 1+1)))) (fun q=>by
   show 0≤if q=1 then s.cnt 1+1 else s.cnt q
   split
   ·omega
   ·exact H.out.cl q) (by omega) (by omega)
  have HB:=hid hB;have hth:=hid (Za9 hB k hk hx);clear h hB;go_enter Tryz.func75,Tryz.ntmps75
  go_wp2_with (first
   |(go_at_call 117;refine hat.out.mono ?_;rintro e w1 ⟨rfl,rfl⟩)
   |(go_at_call 76;refine(Zef b _).mono ?_;rintro e w1 ⟨rfl,rfl⟩)
   |(go_at_call 93;refine hth.out.mono ?_;rintro e w1 ⟨rfl,rfl⟩))
  go_ret;refine⟨rfl,?_,hch⟩;have ht2:(if 0<s.trip then s.trip-1 else s.trip)=(s.trip-1):=Zf (by omega);first
   |exact HB.out
   |(simp only [ht2];exact HB.out)
   |(simp only [ht2,hd];exact HB.out)
 ·have hch:Chg (fun k=>k=b) w (w.setCell ⟨b,4,none⟩ (O Z (s.cnt 1+1))):=Zk (S:=fun k=>k=b) (Zl _ _) ⟨b,4,none⟩ (.inl rfl) _
  have hB:=H.out.cells' hch false s.trip (fun q=>if q=1 then s.cnt 1+1 else s.cnt q) (by simpa [bayCells,hd]using (H.out.bay.set 4 (O Z (s.cnt 1+1)))) (fun q=>by
   show 0≤if q=1 then s.cnt 1+1 else s.cnt q
   split
   ·omega
   ·exact H.out.cl q) (by omega) (by omega)
  have HB:=hid hB;have hth:=hid (Za9 hB k hk hx);clear h hB;go_enter Tryz.func75,Tryz.ntmps75
  go_wp2_with (first
   |(go_at_call 117;refine hat.out.mono ?_;rintro e w1 ⟨rfl,rfl⟩)
   |(go_at_call 76;refine(Zef b _).mono ?_;rintro e w1 ⟨rfl,rfl⟩)
   |(go_at_call 93;refine hth.out.mono ?_;rintro e w1 ⟨rfl,rfl⟩))
  go_ret;refine⟨rfl,?_,hch⟩;have ht2:(if 0<s.trip then s.trip-1 else s.trip)=s.trip:=Ze (by omega);first
   |exact HB.out
   |(simp only [ht2];exact HB.out)
   |(simp only [ht2,hd];exact HB.out)
theorem Zpg(h:BayIn w T b s gs ptr tg dp)(ab db:Nat)(k:Nat)(hk:k<s.n)(ht:s.trip≠0)(hd:s.dark=false)(hcnt:s.cnt 1≤1000000000000)(x:Dev)(hx:s.pos (k*3)=some x)(dv:Nat)(hp:ptr (k*3)=some dv)(hm:x.d.cache.length≤1000000)(P:Int->World->Prop)(hdo:∀W,BayIn W T b (s.begun 1 (k*3) x.use) gs ptr tg dp->Chg (fun k=>T k≠0) w W->Calls Zw 77 #[Zs (some ⟨dv,0,none⟩),Zs (some ⟨ab,0,none⟩),Zs (some ⟨db,0,none⟩)] W fun e W'=>∃c,e=Zu (.int .u16 c)/\P c W'):Calls Zw 75 #[Zs (some ⟨b,0,none⟩),O Z k,.func (.func 76) #[] #[],.func (.func 77) #[] #[Zs (some ⟨ab,0,none⟩),Zs (some ⟨db,0,none⟩)]] w fun e w'=>∃c,e=Zu (.int .u16 c)/\P c w':=by
 have hat:=hid (Zcg h k hk);have c1:w.cell? ⟨b,1,none⟩=some (.bool false):=by rw[<-hd];exact h.bay.cell 1
 have c2:w.cell? ⟨b,2,none⟩=some (O Z s.trip):=h.bay.cell 2;have c3:w.cell? ⟨b,4,none⟩=some (O Z (s.cnt 1)):=h.bay.cell 4;have f2:=h.bay.free 2;have f3:=h.bay.free 4;have q0:(s.trip==0)=false:=beq_eq_false_iff_ne.2 ht;have hl:=h.trl;have hh:=h.trh;have hcl:=h.cl 1;have hkn:k*3<3*s.n:=by omega
 have H:=hid h;by_cases hpos:0<s.trip
 ·have hch:Chg (fun k=>k=b) w ((w.setCell ⟨b,2,none⟩ (O Z (s.trip-1))).setCell ⟨b,4,none⟩ (O Z (s.cnt 1+1))):=Zk (S:=fun k=>k=b) (Zk (S:=fun k=>k=b) (Zl _ _) ⟨b,2,none⟩ (.inl rfl) _) ⟨b,4,none⟩ (.inl rfl) _
  have hB:=H.out.cells' hch false (s.trip-1) (fun q=>if q=1 then s.cnt 1+1 else s.cnt q) (by simpa [bayCells,hd]using ((H.out.bay.set 2 (O Z (s.trip-1))).set 4 (O Z (s.cnt 1+1)))) (fun q=>by
   show 0≤if q=1 then s.cnt 1+1 else s.cnt q
   split
   ·omega
   ·exact H.out.cl q) (by omega) (by omega)
  have HB:=hid hB;have hth:=hid (Zcf hB k dv hk hp);obtain⟨dv0,p1,p2⟩:=hB.some' (k*3) hkn x hx;rw[hp]at p1;simp only [Zg]at p1;subst p1;have huse:=hid (Zf5 T (tg (k*3)) dv (dp (k*3)) x _ p2 hm);have hne:=H.out.tb;clear h hB p2;go_enter Tryz.func75,Tryz.ntmps75
  go_wp2_with (first
   |(go_at_call 117;refine hat.out.mono ?_;rintro e w1 ⟨rfl,rfl⟩)
   |(go_at_call 76;refine(Zef b _).mono ?_;rintro e w1 ⟨rfl,rfl⟩)
   |(go_at_call 93;refine hth.out.mono ?_;rintro e w1 ⟨rfl,rfl⟩)
   |(go_at_call 118;refine huse.out.mono ?_;rintro e w5 ⟨rfl,u1,u2⟩;obtain⟨m1,m2⟩:=HB.out.used hkn hx hp u1 u2;have HDO:=hid (hdo w5 (by unfold BaySt.begun;rw[Zf (by omega),hd];exact m1) ((hch.mono (fun k hk=>by subst hk;omega)).trans m2)))
   |(go_at_call 77;refine HDO.out.mono ?_;rintro e w6 ⟨c,rfl,hP⟩))
  go_ret;exact⟨c,rfl,hP⟩
 ·have hch:Chg (fun k=>k=b) w (w.setCell ⟨b,4,none⟩ (O Z (s.cnt 1+1))):=Zk (S:=fun k=>k=b) (Zl _ _) ⟨b,4,none⟩ (.inl rfl) _
  have hB:=H.out.cells' hch false s.trip (fun q=>if q=1 then s.cnt 1+1 else s.cnt q) (by simpa [bayCells,hd]using (H.out.bay.set 4 (O Z (s.cnt 1+1)))) (fun q=>by
   show 0≤if q=1 then s.cnt 1+1 else s.cnt q
   split
   ·omega
   ·exact H.out.cl q) (by omega) (by omega)
  have HB:=hid hB;have hth:=hid (Zcf hB k dv hk hp);obtain⟨dv0,p1,p2⟩:=hB.some' (k*3) hkn x hx;rw[hp]at p1;simp only [Zg]at p1;subst p1;have huse:=hid (Zf5 T (tg (k*3)) dv (dp (k*3)) x _ p2 hm);have hne:=H.out.tb;clear h hB p2;go_enter Tryz.func75,Tryz.ntmps75
  go_wp2_with (first
   |(go_at_call 117;refine hat.out.mono ?_;rintro e w1 ⟨rfl,rfl⟩)
   |(go_at_call 76;refine(Zef b _).mono ?_;rintro e w1 ⟨rfl,rfl⟩)
   |(go_at_call 93;refine hth.out.mono ?_;rintro e w1 ⟨rfl,rfl⟩)
   |(go_at_call 118;refine huse.out.mono ?_;rintro e w5 ⟨rfl,u1,u2⟩;obtain⟨m1,m2⟩:=HB.out.used hkn hx hp u1 u2;have HDO:=hid (hdo w5 (by unfold BaySt.begun;rw[Ze (by omega),hd];exact m1) ((hch.mono (fun k hk=>by subst hk;omega)).trans m2)))
   |(go_at_call 77;refine HDO.out.mono ?_;rintro e w6 ⟨c,rfl,hP⟩))
  go_ret;exact⟨c,rfl,hP⟩
theorem Ztp(h:BayIn w T b s gs ptr tg dp)(k:Int)(hk:¬s.is k):Calls Zw 75 #[Zs (some ⟨b,0,none⟩),O Z k,.func (.func 85) #[] #[],.func (.func 86) #[] #[]] w fun e w'=>e=Zu (.int .u16 1)/\w'=w:=by
 have hat:=hid (Zcr h k hk);clear h;go_enter Tryz.func75,Tryz.ntmps75;go_wp2_with (go_at_call 117;refine hat.out.mono ?_;rintro e w1 ⟨rfl,rfl⟩);go_ret;exact⟨rfl,rfl⟩
theorem Zpy(h:BayIn w T b s gs ptr tg dp)(k:Nat)(hk:k<s.n)(ht:s.trip≠0)(hd:s.dark=true):Calls Zw 75 #[Zs (some ⟨b,0,none⟩),O Z k,.func (.func 85) #[] #[],.func (.func 86) #[] #[]] w fun e w'=>e=Zu (.int .u16 50)/\w'=w:=by
 have hat:=hid (Zcg h k hk);have c1:w.cell? ⟨b,1,none⟩=some (.bool true):=by rw[<-hd];exact h.bay.cell 1
 have c2:w.cell? ⟨b,2,none⟩=some (O Z s.trip):=h.bay.cell 2;have q0:(s.trip==0)=false:=beq_eq_false_iff_ne.2 ht;clear h;go_enter Tryz.func75,Tryz.ntmps75;go_wp2_with (go_at_call 117;refine hat.out.mono ?_;rintro e w1 ⟨rfl,rfl⟩);go_ret;exact⟨rfl,rfl⟩
theorem Zn5(h:BayIn w T b s gs ptr tg dp)(k:Nat)(hk:k<s.n)(ht:s.trip=0):Calls Zw 75 #[Zs (some ⟨b,0,none⟩),O Z k,.func (.func 85) #[] #[],.func (.func 86) #[] #[]] w fun e w'=>e=Zu (.int .u16 50)/\BayIn w' T b {s with dark:=true,trip:= -1} gs ptr tg dp/\Chg (fun k=>k=b) w w':=by
 have hat:=hid (Zcg h k hk);have c1:w.cell? ⟨b,1,none⟩=some (.bool s.dark):=h.bay.cell 1;have c2:w.cell? ⟨b,2,none⟩=some (O Z 0):=by rw[<-ht];exact h.bay.cell 2
 have f1:=h.bay.free 1;have f2:=h.bay.free 2;have H:=hid h;clear h;go_enter Tryz.func75,Tryz.ntmps75;go_wp2_with (go_at_call 117;refine hat.out.mono ?_;rintro e w1 ⟨rfl,rfl⟩);go_ret;have hc:Chg (fun k=>k=b) w1 ((w1.setCell ⟨b,1,none⟩ (.bool true)).setCell ⟨b,2,none⟩ (O Z (-1))):=Zk (S:=fun k=>k=b) (Zk (S:=fun k=>k=b) (Zl _ _) ⟨b,1,none⟩ (.inl rfl) _) ⟨b,2,none⟩ (.inl rfl) _;exact⟨rfl,H.out.cells' hc true (-1) s.cnt ((H.out.bay.set 1 (.bool true)).set 2 (O Z (-1))) H.out.cl (by omega) (by omega),hc⟩
theorem Zny(h:BayIn w T b s gs ptr tg dp)(k:Nat)(hk:k<s.n)(ht:s.trip≠0)(hd:s.dark=false)(hcnt:s.cnt 2≤1000000000000)(hx:ptr (k*3)=none):Calls Zw 75 #[Zs (some ⟨b,0,none⟩),O Z k,.func (.func 85) #[] #[],.func (.func 86) #[] #[]] w fun e w'=>e=Zu (.int .u16 51)/\BayIn w' T b {s with trip:=(if 0<s.trip then s.trip-1 else s.trip),cnt:=fun q=>if q=2 then s.cnt 2+1 else s.cnt q} gs ptr tg dp/\Chg (fun k=>k=b) w w':=by
 have hat:=hid (Zcg h k hk);have c1:w.cell? ⟨b,1,none⟩=some (.bool false):=by rw[<-hd];exact h.bay.cell 1
 have c2:w.cell? ⟨b,2,none⟩=some (O Z s.trip):=h.bay.cell 2;have c3:w.cell? ⟨b,5,none⟩=some (O Z (s.cnt 2)):=h.bay.cell 5;have f2:=h.bay.free 2;have f3:=h.bay.free 5;have q0:(s.trip==0)=false:=beq_eq_false_iff_ne.2 ht;have hl:=h.trl;have hh:=h.trh;have hcl:=h.cl 2;have hkn:k*3<3*s.n:=by omega
 have H:=hid h;by_cases hpos:0<s.trip
 ·have hch:Chg (fun k=>k=b) w ((w.setCell ⟨b,2,none⟩ (O Z (s.trip-1))).setCell ⟨b,5,none⟩ (O Z (s.cnt 2+1))):=Zk (S:=fun k=>k=b) (Zk (S:=fun k=>k=b) (Zl _ _) ⟨b,2,none⟩ (.inl rfl) _) ⟨b,5,none⟩ (.inl rfl) _
  have hB:=H.out.cells' hch false (s.trip-1) (fun q=>if q=2 then s.cnt 2+1 else s.cnt q) (by simpa [bayCells,hd]using ((H.out.bay.set 2 (O Z (s.trip-1))).set 5 (O Z (s.cnt 2+1)))) (fun q=>by
   show 0≤if q=2 then s.cnt 2+1 else s.cnt q
   split
   ·omega
   ·exact H.out.cl q) (by omega) (by omega)
  have HB:=hid hB;have hth:=hid (Za9 hB k hk hx);clear h hB;go_enter Tryz.func75,Tryz.ntmps75
  go_wp2_with (first
   |(go_at_call 117;refine hat.out.mono ?_;rintro e w1 ⟨rfl,rfl⟩)
   |(go_at_call 85;refine(Zdq b _).mono ?_;rintro e w1 ⟨rfl,rfl⟩)
   |(go_at_call 93;refine hth.out.mono ?_;rintro e w1 ⟨rfl,rfl⟩))
  go_ret;refine⟨rfl,?_,hch⟩;have ht2:(if 0<s.trip then s.trip-1 else s.trip)=(s.trip-1):=Zf (by omega);first
   |exact HB.out
   |(simp only [ht2];exact HB.out)
   |(simp only [ht2,hd];exact HB.out)
 ·have hch:Chg (fun k=>k=b) w (w.setCell ⟨b,5,none⟩ (O Z (s.cnt 2+1))):=Zk (S:=fun k=>k=b) (Zl _ _) ⟨b,5,none⟩ (.inl rfl) _
  have hB:=H.out.cells' hch false s.trip (fun q=>if q=2 then s.cnt 2+1 else s.cnt q) (by simpa [bayCells,hd]using (H.out.bay.set 5 (O Z (s.cnt 2+1)))) (fun q=>by
   show 0≤if q=2 then s.cnt 2+1 else s.cnt q
   split
   ·omega
   ·exact H.out.cl q) (by omega) (by omega)
  have HB:=hid hB;have hth:=hid (Za9 hB k hk hx);clear h hB;go_enter Tryz.func75,Tryz.ntmps75
  go_wp2_with (first
   |(go_at_call 117;refine hat.out.mono ?_;rintro e w1 ⟨rfl,rfl⟩)
   |(go_at_call 85;refine(Zdq b _).mono ?_;rintro e w1 ⟨rfl,rfl⟩)
   |(go_at_call 93;refine hth.out.mono ?_;rintro e w1 ⟨rfl,rfl⟩))
  go_ret;refine⟨rfl,?_,hch⟩;have ht2:(if 0<s.trip then s.trip-1 else s.trip)=s.trip:=Ze (by omega);first
   |exact HB.out
   |(simp only [ht2];exact HB.out)
   |(simp only [ht2,hd];exact HB.out)
theorem Zqu(h:BayIn w T b s gs ptr tg dp)(k:Nat)(hk:k<s.n)(ht:s.trip≠0)(hd:s.dark=false)(hcnt:s.cnt 2≤1000000000000)(x:Dev)(hx:s.pos (k*3)=some x)(dv:Nat)(hp:ptr (k*3)=some dv)(hm:x.d.cache.length≤1000000)(P:Int->World->Prop)(hdo:∀W,BayIn W T b (s.begun 2 (k*3) x.use) gs ptr tg dp->Chg (fun k=>T k≠0) w W->Calls Zw 86 #[Zs (some ⟨dv,0,none⟩)] W fun e W'=>∃c,e=Zu (.int .u16 c)/\P c W'):Calls Zw 75 #[Zs (some ⟨b,0,none⟩),O Z k,.func (.func 85) #[] #[],.func (.func 86) #[] #[]] w fun e w'=>∃c,e=Zu (.int .u16 c)/\P c w':=by
 have hat:=hid (Zcg h k hk);have c1:w.cell? ⟨b,1,none⟩=some (.bool false):=by rw[<-hd];exact h.bay.cell 1
 have c2:w.cell? ⟨b,2,none⟩=some (O Z s.trip):=h.bay.cell 2;have c3:w.cell? ⟨b,5,none⟩=some (O Z (s.cnt 2)):=h.bay.cell 5;have f2:=h.bay.free 2;have f3:=h.bay.free 5;have q0:(s.trip==0)=false:=beq_eq_false_iff_ne.2 ht;have hl:=h.trl;have hh:=h.trh;have hcl:=h.cl 2;have hkn:k*3<3*s.n:=by omega
 have H:=hid h;by_cases hpos:0<s.trip
 ·have hch:Chg (fun k=>k=b) w ((w.setCell ⟨b,2,none⟩ (O Z (s.trip-1))).setCell ⟨b,5,none⟩ (O Z (s.cnt 2+1))):=Zk (S:=fun k=>k=b) (Zk (S:=fun k=>k=b) (Zl _ _) ⟨b,2,none⟩ (.inl rfl) _) ⟨b,5,none⟩ (.inl rfl) _
  have hB:=H.out.cells' hch false (s.trip-1) (fun q=>if q=2 then s.cnt 2+1 else s.cnt q) (by simpa [bayCells,hd]using ((H.out.bay.set 2 (O Z (s.trip-1))).set 5 (O Z (s.cnt 2+1)))) (fun q=>by
   show 0≤if q=2 then s.cnt 2+1 else s.cnt q
   split
   ·omega
   ·exact H.out.cl q) (by omega) (by omega)
  have HB:=hid hB;have hth:=hid (Zcf hB k dv hk hp);obtain⟨dv0,p1,p2⟩:=hB.some' (k*3) hkn x hx;rw[hp]at p1;simp only [Zg]at p1;subst p1;have huse:=hid (Zf5 T (tg (k*3)) dv (dp (k*3)) x _ p2 hm);have hne:=H.out.tb;clear h hB p2;go_enter Tryz.func75,Tryz.ntmps75
  go_wp2_with (first
   |(go_at_call 117;refine hat.out.mono ?_;rintro e w1 ⟨rfl,rfl⟩)
   |(go_at_call 85;refine(Zdq b _).mono ?_;rintro e w1 ⟨rfl,rfl⟩)
   |(go_at_call 93;refine hth.out.mono ?_;rintro e w1 ⟨rfl,rfl⟩)
   |(go_at_call 118;refine huse.out.mono ?_;rintro e w5 ⟨rfl,u1,u2⟩;obtain⟨m1,m2⟩:=HB.out.used hkn hx hp u1 u2;have HDO:=hid (hdo w5 (by unfold BaySt.begun;rw[Zf (by omega),hd];exact m1) ((hch.mono (fun k hk=>by subst hk;omega)).trans m2)))
   |(go_at_call 86;refine HDO.out.mono ?_;rintro e w6 ⟨c,rfl,hP⟩))
  go_ret;exact⟨c,rfl,hP⟩
 ·have hch:Chg (fun k=>k=b) w (w.setCell ⟨b,5,none⟩ (O Z (s.cnt 2+1))):=Zk (S:=fun k=>k=b) (Zl _ _) ⟨b,5,none⟩ (.inl rfl) _
  have hB:=H.out.cells' hch false s.trip (fun q=>if q=2 then s.cnt 2+1 else s.cnt q) (by simpa [bayCells,hd]using (H.out.bay.set 5 (O Z (s.cnt 2+1)))) (fun q=>by
   show 0≤if q=2 then s.cnt 2+1 else s.cnt q
   split
   ·omega
   ·exact H.out.cl q) (by omega) (by omega)
  have HB:=hid hB;have hth:=hid (Zcf hB k dv hk hp);obtain⟨dv0,p1,p2⟩:=hB.some' (k*3) hkn x hx;rw[hp]at p1;simp only [Zg]at p1;subst p1;have huse:=hid (Zf5 T (tg (k*3)) dv (dp (k*3)) x _ p2 hm);have hne:=H.out.tb;clear h hB p2;go_enter Tryz.func75,Tryz.ntmps75
  go_wp2_with (first
   |(go_at_call 117;refine hat.out.mono ?_;rintro e w1 ⟨rfl,rfl⟩)
   |(go_at_call 85;refine(Zdq b _).mono ?_;rintro e w1 ⟨rfl,rfl⟩)
   |(go_at_call 93;refine hth.out.mono ?_;rintro e w1 ⟨rfl,rfl⟩)
   |(go_at_call 118;refine huse.out.mono ?_;rintro e w5 ⟨rfl,u1,u2⟩;obtain⟨m1,m2⟩:=HB.out.used hkn hx hp u1 u2;have HDO:=hid (hdo w5 (by unfold BaySt.begun;rw[Ze (by omega),hd];exact m1) ((hch.mono (fun k hk=>by subst hk;omega)).trans m2)))
   |(go_at_call 86;refine HDO.out.mono ?_;rintro e w6 ⟨c,rfl,hP⟩))
  go_ret;exact⟨c,rfl,hP⟩
end Go.Proofs.YtmemlkmnhcealaaGreat
