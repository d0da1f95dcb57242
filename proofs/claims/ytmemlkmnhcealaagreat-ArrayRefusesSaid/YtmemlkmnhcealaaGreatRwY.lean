
/- A batch sealed (printed by gen_rwy.py). -/
import Derived.Test.YtmemlkmnhcealaaGreatMrg29
set_option linter.unusedVariables false
set_option maxRecDepth 100000
set_option maxHeartbeats 16000000
namespace Go.Proofs.YtmemlkmnhcealaaGreat
open Value renaming int→O,pointer→Zs
open IntKind renaming i64→Z
open Obj renaming cells→Zv
open Go.RowKit
open Lib(hid)
variable {A:Adr} {X:List OP} {sec:List UInt8} {N cost lp:Nat} {T:Nat->Nat} {R:RS} {u vw:Value} {w:World}
def RS.sealW(R:RS)(cost:Nat)(sec:List UInt8):RS:={R with s:=R.s.put R.M (2+((R.tail+R.used)%R.size+(cost-1))%R.size) sec,next:=R.next+1,sure:=false,used:=R.used+cost}
theorem Zrx(h:RwIn w T A R (some lp) vw X)(hn:R.s.n=R.M+1)(hf:Fit R.s R.G R.szs)(hj:Jrn R)(hl:Logd w T N lp cost u sec)(hsl:sec.length=128)(hc1:1≤cost)(hc2:cost≤R.size-R.used)(hcnt:R.s.cnt 1≤999998000000)(hsm:R.s.small 900000):
  Calls Tryz.prog 106 #[Zs (some ⟨A.wp,0,none⟩)] w fun e w'=>e=.returned (.int .u16 0)/\∃T',RwIn w' T' A (R.sealW cost sec) none vw X/\(∀q,q<w.heap.size->T' q=T q)/\Chg (fun q=>T q≠0\/q=A.wp\/q=A.rp) w w':=by
 obtain⟨z1,z2,tl,us,ep,nx,nx2⟩:=hj;have hz:2+((R.tail+R.used)%R.size+(cost-1))%R.size<R.szs R.M:=by
  unfold RS.szs;rw[Ze (by omega)];have:=Nat.mod_lt ((R.tail+R.used)%R.size+(cost-1)) (show 0<R.size by omega);omega
 have hwf:=Zb4 hf R.M (2+((R.tail+R.used)%R.size+(cost-1))%R.size) sec (by omega) (.inl rfl) hz hsl;refine(Zm2 h.bay R.M R.ep A.rp R.next A.wp lp R.sure h.wal h.tw R.size R.tail R.used cost h.ring h.tr (by omega) z2 tl us u sec hl.at' hl.tl hl.seg hl.nb hc1 hc2 (by omega) _ (by omega) (fun i hi x hx=>Zc (hsm i hi x hx) (by omega)) hwf).mono ?_;rintro e w' ⟨rfl,T',k1,k2,k3,k4,k5⟩;exact⟨rfl,T',h.walT (R':=R.sealW cost sec) k1 k2 k3 k4 k5 rfl ⟨rfl,rfl,rfl⟩,k2,k3⟩
structure SlAt (w W:World) (T T':Nat->Nat) (A:Adr) (R:RS) (vw:Value) (X:List OP) (bp:Nat) (pv rv xv:Value) (K:Nat) (XS:List OP):Prop where
 rw:RwIn W T' A R none vw X
 tags:∀q,q<w.heap.size->T' q=T q
 chg:Chg (fun q=>T q≠0\/A.has q) w W
 bat:At W bp (batCells A pv rv xv) 120
 xs:ORow W K xv XS
 xsT:∀g,xv.ownBlock=some g->T' g=0
 xdT:∀x∈XS,∀g,x.2.ownBlock=some g->T' g=0
 box:At W w.heap.size #[O Z 0,.int .u16 0] 76
 tb:T' w.heap.size=0
section
variable {w W W':World} {T T':Nat->Nat} {A:Adr} {R:RS} {vw:Value} {X:List OP} {bp:Nat} {pv rv xv:Value} {K:Nat} {XS:List OP}
theorem SlAt.below(h:SlAt w W T T' A R vw X bp pv rv xv K XS)(hb:Below W.heap.size W W'):SlAt w W' T T' A R vw X bp pv rv xv K XS:=
 ⟨h.rw.below hb,h.tags,h.chg.trans (Zm hb _),h.bat.below hb h.bat.lt,h.xs.below hb,h.xsT,h.xdT,h.box.below hb h.box.lt,h.tb⟩
theorem SlAt.fill(h:SlAt w W T T' A R vw X bp pv rv xv K XS){t3:Nat}{cs:Array Value}(hx:At W t3 cs 76)(ht:T' t3=0)(hl:w.heap.size<t3)(hc:Chg (fun q=>q=t3) W W'):SlAt w W' T T' A R vw X bp pv rv xv K XS:=
 ⟨h.rw.box hx ht hc,h.tags,Zaj h.chg hc (fun q hq e=>by omega),h.bat.mod hc (Zaw h.bat hx (by decide)),h.xs.mod hc (fun g hg e=>Zah h.xs.row hx (by decide) (by rw[hg,e])) (fun x hxx g hg e=>Zah (h.xs.dat x hxx) hx (by decide) (by rw[hg,e])),h.xsT,h.xdT,h.box.mod hc (fun e=>by omega),h.tb⟩
theorem SlAt.set(h:SlAt w W T T' A R vw X bp pv rv xv K XS)(i:Nat)(u:Value){R':RS}{vw':Value}{X':List OP}(hcells:(rwCells A R vw).setIfInBounds i u=rwCells A R' vw')(hv:(vw'=vw/\X'=X/\R'.wait=R.wait)\/(vw'=xv/\X'=XS/\R'.wait=XS.map (·.1)))
  (e1:R'.s=R.s) (e2:R'.fr=R.fr) (e3:R'.M=R.M) (e4:R'.ep=R.ep/\R'.next=R.next/\R'.sure=R.sure) (e5:R'.size=R.size/\R'.tail=R.tail/\R'.used=R.used):SlAt w (W.setCell ⟨A.q,i,none⟩ u) T T' A R' vw' X' bp pv rv xv K XS:=by
 have hst:Chg (fun q=>q=A.q) W (W.setCell ⟨A.q,i,none⟩ u):=Zk (S:=fun q=>q=A.q) (Zl _ _) ⟨A.q,i,none⟩ (.inl rfl) _;have hrw:RwIn (W.setCell ⟨A.q,i,none⟩ u) T' A R' none vw' X':=by
  rcases hv with ⟨rfl,rfl,hw⟩|⟨rfl,rfl,hw⟩
  ·exact h.rw.setQ i u hcells h.rw.wt h.rw.wtT h.rw.wtX (by rw[hw];exact h.rw.wtM) e1 e2 e3 e4 e5
  ·exact h.rw.setQ i u hcells (h.xs.lower (Nat.zero_le _)) h.xsT h.xdT hw.symm e1 e2 e3 e4 e5
 have hqw:=h.rw.rw;exact⟨hrw,h.tags,Zaj h.chg hst (fun q hq e=>.inr (.inl e)),h.bat.mod hst (Zaw h.bat hqw (by decide)),h.xs.mod hst (fun g hg e=>Zah h.xs.row hqw (by decide) (by rw[hg,e])) (fun x hxx g hg e=>Zah (h.xs.dat x hxx) hqw (by decide) (by rw[hg,e])),h.xsT,h.xdT,h.box.mod hst (Zaw h.box hqw (by decide)),h.tb⟩
end
theorem SlAt.fin{W:World}{T':Nat->Nat}{bp:Nat}{pv rv xv:Value}{K:Nat}{XS:List OP}(h:SlAt w W T T' A R vw X bp pv rv xv K XS):SlAt w ((W.setCell ⟨w.heap.size,0,none⟩ (O Z 0)).setCell ⟨w.heap.size,1,none⟩ (.int .u16 0)) T T' A R vw X bp pv rv xv K XS:=by
 have hc:=box2 W w.heap.size (O Z 0) (.int .u16 0);exact⟨h.rw.box h.box h.tb hc,h.tags,Zaj h.chg hc (fun q hq e=>by omega),h.bat.mod hc (Zaw h.bat h.box (by decide)),h.xs.mod hc (fun g hg e=>Zah h.xs.row h.box (by decide) (by rw[hg,e])) (fun x hxx g hg e=>Zah (h.xs.dat x hxx) h.box (by decide) (by rw[hg,e])),h.xsT,h.xdT,(h.box.set 0 (O Z 0)).set 1 (.int .u16 0),h.tb⟩
def RS.sealedR(R:RS)(cost:Nat)(sec:List UInt8)(ps:List Pat):RS:={R.sealW cost sec with sealed:=true,wait:=ps}
theorem Zuv(h:RwIn w T A R (some lp) vw X)(hn:R.s.n=R.M+1)(hf:Fit R.s R.G R.szs)(hj:Jrn R)(hl:Logd w T N lp cost u sec)(hsl:sec.length=128)(hc1:1≤cost)(hc2:cost≤R.size-R.used)(bp:Nat)(pv rv xv:Value)(K:Nat)(XS:List OP)(hb:At w bp (batCells A pv rv xv) 120)(tb:T bp=0)(hxs:ORow w K xv XS)(hxT:∀g,xv.ownBlock=some g->T g=0)(hxd:∀x∈XS,∀g,x.2.ownBlock=some g->T g=0)(hcnt:R.s.cnt 1≤999998000000)(hsm:R.s.small 900000):
  Calls Tryz.prog 60 #[Zs (some ⟨bp,0,none⟩)] w fun e w'=>e=.returned (.agg #[O Z 0,.int .u16 0])/\∃T',SlAt w w' T T' A (R.sealedR cost sec (XS.map (·.1))) xv XS bp pv rv xv K XS:=by
 have hb0:Below w.heap.size w (w.alloc (Zv #[O Z 0,.int .u16 0] 76)):=(Zb _ _).alloc (Za _) _;have hvirg:∀q,w.heap.size≤q->T q=0:=fun q hq=>Zae h.bay q hq
 have hlow:=h.low;have hoff:∀q,w.heap.size≤q->¬A.has q:=fun q hq=>hlow.ne hq
 have hbA:¬A.has bp:=h.offAt hb (by decide) (by decide) (by decide) (by decide);have h0:=h.below hb0;have HTB:Hid (At (w.alloc (.cells #[.int .i64 0,.int .u16 0] 76)) w.heap.size #[.int .i64 0,.int .u16 0] 76):=At.new _ _ _;have HSE:Hid (∀W,Below (w.alloc (.cells #[.int .i64 0,.int .u16 0] 76)).heap.size (w.alloc (.cells #[.int .i64 0,.int .u16 0] 76)) W->Calls Tryz.prog 106 #[.pointer (some ⟨A.wp,0,none⟩)] W fun e w'=>e=.returned (.int .u16 0)/\∃T',SlAt w w' T T' A (R.sealW cost sec) vw X bp pv rv xv K XS/\(∀q,q<W.heap.size->T' q=T q)/\Chg (fun q=>T q≠0\/A.has q) W w'):=fun W hW=>by
  have hbW:Below w.heap.size w W:=hb0.trans (hW.mono hb0.size);have hlW:Logd W T N lp cost u sec:=hl.keep hsl (Zm hbW (fun _=>False)) (fun _ _=>rfl) (fun q e=>e.elim);refine(Zrx (h.below hbW) hn hf hj hlW hsl hc1 hc2 hcnt hsm).mono ?_;rintro e w' ⟨rfl,T',k1,k2,k3⟩;have k3':Chg (fun q=>T q≠0\/A.has q) W w':=k3.mono fun q hq=>hq.imp id fun e=>e.elim (fun e=>.inr (.inl e)) (fun e=>.inr (.inr (.inl e)))
  have hs0:w.heap.size<W.heap.size:=by
   have h1:=hW.size;have h2:(w.alloc (Zv #[O Z 0,.int .u16 0] 76)).heap.size=w.heap.size+1:=Zaa _ _;omega
  have hbatW:=hb.below hbW hb.lt;have hxsW:=hxs.below hbW;refine⟨rfl,T',⟨k1,fun q hq=>k2 q (by omega),Zaj (Zm hbW _) k3' (fun q hq e=>e),hbatW.mod k3' (fun e=>e.elim (fun e=>e tb) hbA),hxsW.mod k3' (fun g hg e=>e.elim (fun e=>e (hxT g hg)) ((h.below hbW).offOwn hxsW.row hg)) (fun x hx g hg e=>e.elim (fun e=>e (hxd x hx g hg)) ?_),fun g hg=>(k2 g (hxsW.row.lt g hg).2).trans (hxT g hg),fun x hx g hg=>(k2 g ((hxsW.dat x hx).lt g hg).2).trans (hxd x hx g hg),(HTB.out.below hW HTB.out.lt).mod k3' (fun e=>e.elim (fun e=>e (hvirg _ (Za _))) (hoff _ (Za _))),(k2 _ hs0).trans (hvirg _ (Za _))⟩,k2,k3'⟩;have hr:=h.below hbW;have hd:=hxsW.dat x hx;rintro (e|e|e|e)
  ·exact Zah hd hr.rw (by decide) (by rw[hg,e])
  ·exact Zah hd hr.wal (by decide) (by rw[hg,e])
  ·exact Zah hd hr.ring (by decide) (by rw[hg,e])
  ·exact Zah hd hr.fr (by decide) (by rw[hg,e])
 have HSS:Hid (∀W,Below (w.alloc (Zv #[O Z 0,.int .u16 0] 76)).heap.size (w.alloc (Zv #[O Z 0,.int .u16 0] 76)) W->W.cell? ⟨bp,0,none⟩=some (Zs (some ⟨A.q,0,none⟩))/\W.cell? ⟨A.q,4,none⟩=some (Zs (some ⟨A.wp,0,none⟩))):=fun W hW=>⟨((hb.below hb0 hb.lt).below hW (hb.below hb0 hb.lt).lt).cell 0,(h0.below hW).rw.cell 4⟩
 have HS4:Hid (∀W T',SlAt w W T T' A (R.sealW cost sec) vw X bp pv rv xv K XS->W.cell? ⟨bp,0,none⟩=some (Zs (some ⟨A.q,0,none⟩))/\W.cell? ⟨A.q,4,none⟩=some (Zs (some ⟨A.wp,0,none⟩))):=fun W T' hW=>⟨hW.bat.cell 0,hW.rw.rw.cell 4⟩
 have HVG:=hid hvirg;have HOF:=hid hoff;have e0:(w.alloc (Zv #[O Z 0,.int .u16 0] 76)).heap.size=w.heap.size+1:=Zaa _ _;have hqlt:=h.rw.lt;have hblt:=hb.lt;obtain⟨xa,xc,hxe⟩:=Zab hxs.row;clear h hb0 h0 hb hl hj hn hf hxs hxT hxd hvirg hoff;go_enter Tryz.func60,Tryz.ntmps60;go_wp2;go_region_held3 (fun W=>W.cell? ⟨bp,0,none⟩=some (Zs (some ⟨A.q,0,none⟩))/\W.cell? ⟨A.q,4,none⟩=some (Zs (some ⟨A.wp,0,none⟩)))
  (first|exact HSS.out _ (Zb _ _)|exact HSS.out _ (Zb _ _).drew|exact HSS.out _ ((Zb _ _).alloc (Za _) _)|exact HSS.out _ ((Zb _ _).alloc (Za _) _).drew|exact HS4.out _ _ HK4.out|exact HS4.out _ _ (HK4.out.below ((Zb _ _).alloc (Za _) _))|exact HS4.out _ _ HK5.out|exact HS4.out _ _ (HK5.out.below ((Zb _ _).alloc (Za _) _))|exact HS4.out _ _ HK6.out)
  (first
   |(go_at_call 106;(with_reducible refine(HSE.out ((w.alloc (Zv #[O Z 0,.int .u16 0] 76)).alloc (Zv #[O Z 0,.int .u16 0] 76)).drew ((Zb _ _).alloc (Za _) _).drew).mono ?_);rintro e w4 ⟨rfl,T4,k4,t4,c4⟩;have HK4:=hid k4;have HB3:Hid (At w4 (w.heap.size+1) #[O Z 0,.int .u16 0] 76):=(by have hn3:At ((w.alloc (Zv #[O Z 0,.int .u16 0] 76)).alloc (Zv #[O Z 0,.int .u16 0] 76)).drew (w.heap.size+1) #[O Z 0,.int .u16 0] 76:=(by have:=At.new (w.alloc (Zv #[O Z 0,.int .u16 0] 76)) #[O Z 0,.int .u16 0] 76;rw[e0]at this;exact this);exact hn3.mod c4 (fun e=>e.elim (fun e=>e (HVG.out _ (Nat.le_succ _))) (HOF.out _ (Nat.le_succ _))));have HT3:Hid (T4 (w.heap.size+1)=0):=(by have hz:((w.alloc (Zv #[O Z 0,.int .u16 0] 76)).alloc (Zv #[O Z 0,.int .u16 0] 76)).drew.heap.size=w.heap.size+1+1:=(by show((w.alloc (Zv #[O Z 0,.int .u16 0] 76)).alloc (Zv #[O Z 0,.int .u16 0] 76)).heap.size=_;rw[Zaa,e0]);show T4 (w.heap.size+1)=0;rw[t4 _ (by rw[hz];omega)];exact HVG.out _ (Nat.le_succ _));have HA:Hid True:=trivial;clear k4 t4 c4)
   |(go_at_call 106;(with_reducible refine(HSE.out (w.alloc (Zv #[O Z 0,.int .u16 0] 76)).drew (Zb _ _).drew).mono ?_);rintro e w4 ⟨rfl,T4,k4,t4,c4⟩;have HK4:=hid k4;clear k4 t4 c4)
   |(go_at_call 96;(with_reducible refine(Zbn w4 HK4.out.rw.rw).mono ?_);rintro e w5 ⟨rfl,hb5⟩;have HB5:=hid hb5;have HK5:=hid (HK4.out.below hb5);clear hb5;(try (have hB5:=HB3.out.below HB5.out HB3.out.lt;have k0:w5.cell? ⟨w.heap.size+1,0,none⟩=some (O Z 0):=hB5.cell 0;have k1:w5.cell? ⟨w.heap.size+1,1,none⟩=some (.int .u16 0):=hB5.cell 1;have f0:=hB5.free 0;have f1:=hB5.free 1;have HK6:=hid (HK5.out.fill hB5 HT3.out (Nat.lt_succ_self _) (box2 w5 (w.heap.size+1) (O Z 0) (.int .u16 0)));have HF6:=hid ((hB5.set 0 (O Z 0)).set 1 (.int .u16 0));clear hB5)))
   |(go_at_call 96;(with_reducible refine(Zbn (w4.alloc (Zv #[O Z 0,.int .u16 0] 76)) (HK4.out.below ((Zb _ _).alloc (Za _) _)).rw.rw).mono ?_);rintro e w5 ⟨rfl,hb5⟩;have HB5:=hid hb5;have HK5:=hid ((HK4.out.below ((Zb _ _).alloc (Za _) (Zv #[O Z 0,.int .u16 0] 76))).below hb5);have hB5:=(At.new w4 #[O Z 0,.int .u16 0] 76).below hb5 (At.new w4 #[O Z 0,.int .u16 0] 76).lt;have k0:w5.cell? ⟨w4.heap.size,0,none⟩=some (O Z 0):=hB5.cell 0;have k1:w5.cell? ⟨w4.heap.size,1,none⟩=some (.int .u16 0):=hB5.cell 1;have f0:=hB5.free 0;have f1:=hB5.free 1;have HK6:=hid (HK5.out.fill hB5 (Zae HK4.out.rw.bay _ (Za _)) HK4.out.box.lt (box2 w5 w4.heap.size (O Z 0) (.int .u16 0)));have HF6:=hid ((hB5.set 0 (O Z 0)).set 1 (.int .u16 0));clear hB5 hb5))
 focus
  have HKW0:SlAt w (w5.alloc (Zv #[O Z 0,.int .u16 0] 76)) T T4 A (R.sealW cost sec) vw X bp pv rv xv K XS:=HK5.out.below ((Zb _ _).alloc (Za _) _)
  have HX30:At (w5.alloc (Zv #[O Z 0,.int .u16 0] 76)) (w5.heap.size) #[O Z 0,.int .u16 0] 76:=At.new w5 _ _
  obtain⟨W9,hW9⟩:∃W9,W9=(w5.alloc (Zv #[O Z 0,.int .u16 0] 76)):=⟨_,rfl⟩
  rw[<-hW9]at HKW0 HX30 ⊢
  have HKW:=hid HKW0
  have HX3:=hid HX30
  clear hW9 HKW0 HX30 HK4 HK5 HB5 HSE HSS HS4 HTB
  obtain⟨b3,hb3⟩:∃b3:Nat,b3=w5.heap.size:=⟨_,rfl⟩
 rotate_left
 focus
  have HKW0:SlAt w ((w5.setCell ⟨w4.heap.size,0,none⟩ (O Z 0)).setCell ⟨w4.heap.size,1,none⟩ (.int .u16 0)) T T4 A (R.sealW cost sec) vw X bp pv rv xv K XS:=HK6.out
  have HX30:At ((w5.setCell ⟨w4.heap.size,0,none⟩ (O Z 0)).setCell ⟨w4.heap.size,1,none⟩ (.int .u16 0)) (w4.heap.size) #[O Z 0,.int .u16 0] 76:=HF6.out
  obtain⟨W9,hW9⟩:∃W9,W9=((w5.setCell ⟨w4.heap.size,0,none⟩ (O Z 0)).setCell ⟨w4.heap.size,1,none⟩ (.int .u16 0)):=⟨_,rfl⟩
  rw[<-hW9]at HKW0 HX30 ⊢
  have HKW:=hid HKW0
  have HX3:=hid HX30
  clear hW9 HKW0 HX30 HK4 HK5 HB5 HK6 HF6 k0 k1 f0 f1 HSE HSS HS4 HTB
  obtain⟨b3,hb3⟩:∃b3:Nat,b3=w4.heap.size:=⟨_,rfl⟩
 rotate_left
 focus
  have HKW0:SlAt w ((w5.setCell ⟨w.heap.size+1,0,none⟩ (O Z 0)).setCell ⟨w.heap.size+1,1,none⟩ (.int .u16 0)) T T4 A (R.sealW cost sec) vw X bp pv rv xv K XS:=HK6.out
  have HX30:At ((w5.setCell ⟨w.heap.size+1,0,none⟩ (O Z 0)).setCell ⟨w.heap.size+1,1,none⟩ (.int .u16 0)) (w.heap.size+1) #[O Z 0,.int .u16 0] 76:=HF6.out
  obtain⟨W9,hW9⟩:∃W9,W9=((w5.setCell ⟨w.heap.size+1,0,none⟩ (O Z 0)).setCell ⟨w.heap.size+1,1,none⟩ (.int .u16 0)):=⟨_,rfl⟩
  rw[<-hW9]at HKW0 HX30 ⊢
  have HKW:=hid HKW0
  have HX3:=hid HX30
  clear hW9 HKW0 HX30 HK4 HK5 HB5 HK6 HF6 k0 k1 f0 f1 HB3 HT3 HSE HSS HS4 HTB
  obtain⟨b3,hb3⟩:∃b3:Nat,b3=w.heap.size+1:=⟨_,rfl⟩
 rotate_left
 all_goals
  rw[<-hb3]at HX3 ⊢
  clear hb3
  have hne3:(b3)≠A.q:=Zaw HX3.out HKW.out.rw.rw (by decide)
  have m1:W9.cell? ⟨b3,1,none⟩=some (.int .u16 0):=HX3.out.cell 1
  have c0:W9.cell? ⟨bp,0,none⟩=some (Zs (some ⟨A.q,0,none⟩)):=HKW.out.bat.cell 0
  have hqlt3:=HKW.out.rw.rw.lt
  have HSW:Hid (∀W',Chg (fun q=>q=A.q) W9 W'->W'.cell? ⟨bp,0,none⟩=some (Zs (some ⟨A.q,0,none⟩))/\W'.cell? ⟨bp,3,none⟩=some (.slice xa XS.length xc)):=fun W' hW=>by
   have hk:=HKW.out.bat.mod hW (Zaw HKW.out.bat HKW.out.rw.rw (by decide));exact⟨hk.cell 0,by rw[<-hxe];exact hk.cell 3⟩
  have hc2:Chg (fun q=>q=A.q) W9 ((W9.setCell ⟨A.q,8,none⟩ (.bool true)).setCell ⟨A.q,7,none⟩ (.slice xa XS.length xc)):=Zk (S:=fun q=>q=A.q) (Zk (S:=fun q=>q=A.q) (Zl _ _) ⟨A.q,8,none⟩ (.inl rfl) _) ⟨A.q,7,none⟩ (.inl rfl) _
  have HS0:Hid (W9.drew.cell? ⟨bp,0,none⟩=some (Zs (some ⟨A.q,0,none⟩))/\W9.drew.cell? ⟨bp,3,none⟩=some (.slice xa XS.length xc)):=HSW.out _ (Zm (Zb _ _).drew _)
  have HS00:Hid (W9.cell? ⟨bp,0,none⟩=some (Zs (some ⟨A.q,0,none⟩))/\W9.cell? ⟨bp,3,none⟩=some (.slice xa XS.length xc)):=HSW.out _ (Zl _ _)
  have HS1:Hid ((W9.setCell ⟨A.q,8,none⟩ (.bool true)).drew.cell? ⟨bp,0,none⟩=some (Zs (some ⟨A.q,0,none⟩))/\(W9.setCell ⟨A.q,8,none⟩ (.bool true)).drew.cell? ⟨bp,3,none⟩=some (.slice xa XS.length xc)):=HSW.out _ ((Zk (S:=fun q=>q=A.q) (Zl _ _) ⟨A.q,8,none⟩ (.inl rfl) _).trans (Zm (Zb _ _).drew _))
  have HS2:Hid (((W9.setCell ⟨A.q,8,none⟩ (.bool true)).setCell ⟨A.q,7,none⟩ (.slice xa XS.length xc)).drew.cell? ⟨bp,0,none⟩=some (Zs (some ⟨A.q,0,none⟩))/\((W9.setCell ⟨A.q,8,none⟩ (.bool true)).setCell ⟨A.q,7,none⟩ (.slice xa XS.length xc)).drew.cell? ⟨bp,3,none⟩=some (.slice xa XS.length xc)):=HSW.out _ (hc2.trans (Zm (Zb _ _).drew _))
  have HKF:Hid (SlAt w ((W9.setCell ⟨A.q,8,none⟩ (.bool true)).setCell ⟨A.q,7,none⟩ (.slice xa XS.length xc)) T T4 A (R.sealedR cost sec (XS.map (·.1))) xv XS bp pv rv xv K XS):=by
   have h1:=HKW.out.set 8 (.bool true) (R':={R.sealW cost sec with sealed:=true}) (vw':=vw) (X':=X) rfl (.inl ⟨rfl,rfl,rfl⟩) rfl rfl rfl ⟨rfl,rfl,rfl⟩ ⟨rfl,rfl,rfl⟩;exact h1.set 7 (.slice xa XS.length xc) (R':=R.sealedR cost sec (XS.map (·.1))) (vw':=xv) (X':=XS) (by rw[hxe];rfl) (.inr ⟨rfl,rfl,rfl⟩) rfl rfl rfl ⟨rfl,rfl,rfl⟩ ⟨rfl,rfl,rfl⟩
  have HX4:=hid (HX3.out.mod hc2 hne3)
  have q8:=HKW.out.rw.rw.free 8
  have q7:=HKW.out.rw.rw.free 7
  have e8:W9.cell? ⟨A.q,8,none⟩=some (.bool (R.sealW cost sec).sealed):=HKW.out.rw.rw.cell 8
  have e7:W9.cell? ⟨A.q,7,none⟩=some vw:=HKW.out.rw.rw.cell 7
  clear hc2
  go_wp2
  go_region_held3 (fun W=>W.cell? ⟨bp,0,none⟩=some (Zs (some ⟨A.q,0,none⟩))/\W.cell? ⟨bp,3,none⟩=some (.slice xa XS.length xc))
   (first|exact HS0.out|exact HS00.out|exact HS1.out|exact HS2.out)
   (first|fail)
  have l0:((W9.setCell ⟨A.q,8,none⟩ (.bool true)).setCell ⟨A.q,7,none⟩ (.slice xa XS.length xc)).cell? ⟨b3,0,none⟩=some (O Z 0):=HX4.out.cell 0
  have l1:((W9.setCell ⟨A.q,8,none⟩ (.bool true)).setCell ⟨A.q,7,none⟩ (.slice xa XS.length xc)).cell? ⟨b3,1,none⟩=some (.int .u16 0):=HX4.out.cell 1
  obtain⟨WF,hWF⟩:∃WF,WF=((W9.setCell ⟨A.q,8,none⟩ (.bool true)).setCell ⟨A.q,7,none⟩ (.slice xa XS.length xc)):=⟨_,rfl⟩
  rw[<-hWF]at HKF l0 l1 ⊢
  have k0:WF.cell? ⟨w.heap.size,0,none⟩=some (O Z 0):=HKF.out.box.cell 0
  have k1:WF.cell? ⟨w.heap.size,1,none⟩=some (.int .u16 0):=HKF.out.box.cell 1
  have f0:=HKF.out.box.free 0
  have f1:=HKF.out.box.free 1
  clear hWF HX4 HX3 HKW HSW HS0 HS00 HS1 HS2 q8 q7 e8 e7 m1 c0
  have hF:=HKF.out.fin.box
  have r0:=hF.cell 0
  have r1:=hF.cell 1
  have HEND:Hid (∃T',SlAt w ((WF.setCell ⟨w.heap.size,0,none⟩ (O Z 0)).setCell ⟨w.heap.size,1,none⟩ (.int .u16 0)).drew T T' A (R.sealedR cost sec (XS.map (·.1))) xv XS bp pv rv xv K XS):=⟨T4,HKF.out.fin.below (Zb _ _).drew⟩
  clear hF HKF
  go_wp2
  (try simp only [Exit.inBlock,Exit.then])
  refine bodyPost_ret (v:=.agg #[O Z 0,.int .u16 0]) ?_ rfl ⟨rfl,HEND.out⟩
  rw[Zai rfl]
  go_simp
  try rfl
end Go.Proofs.YtmemlkmnhcealaaGreat
