
/- A batch's six steps, each with what stands ahead of it and behind. -/
import Derived.Test.YtmemlkmnhcealaaGreatMrg30
set_option linter.unusedVariables false
set_option maxRecDepth 100000
set_option maxHeartbeats 1000000
namespace Go.Proofs.YtmemlkmnhcealaaGreat
open Value renaming int→O,pointer→Zs
open IntKind renaming i64→Z
open Go.RowKit
variable {A:Adr} {X:List OP} {T:Nat->Nat} {lg:Option Nat} {R1:RS} {vw:Value} {W w:World}
structure WC where
 w:World
 T:Nat->Nat
 A:Adr
 R:RS
 V:Nat->Nat->Sec
 us:List (Int×List UInt8)
 pv:Value
 rv:Value
 L:List (Value×List OP)
 bp:Nat
def WC.N(c:WC):Nat:=c.bp+2
def WC.n(c:WC):Nat:=mostIn c.R.M (c.R.S*c.R.C) (tabAll c.R.M c.R.C c.us)
structure WOk (c:WC):Prop where
 bp:c.w.heap.size<c.bp
 virg:∀q,c.w.heap.size≤q->c.T q=0
 off:∀q,c.w.heap.size≤q->¬c.A.has q
 good:Good c.R c.V
 ok:BatchOk c.R.M c.R.C c.R.S c.us
 ne:c.us≠ []
 fit:2*c.n+1≤c.R.size
 next:c.R.next≤1000000000000
 c0:c.R.s.cnt 0≤999990000000
 c1:c.R.s.cnt 1≤999990000000
 c2:c.R.s.cnt 2≤999990000000
 small:c.R.s.small 700000
 is:SplitIs c.R.M c.R.C c.R.S c.us c.L
 rN:∀g,c.rv.ownBlock=some g->g<c.bp
 xN:∀x∈c.L,∀g,x.1.ownBlock=some g->g<c.bp
 dN:∀x∈c.L,∀y∈x.2,∀g,y.2.ownBlock=some g->g<c.bp
def stepCells(bp:Nat):Array Value:= #[.func (.func 56) #[Zs (some ⟨bp,0,none⟩)] #[],.func (.func 57) #[Zs (some ⟨bp,0,none⟩)] #[],.func (.func 58) #[Zs (some ⟨bp,0,none⟩)] #[],.func (.func 59) #[Zs (some ⟨bp,0,none⟩)] #[],.func (.func 60) #[Zs (some ⟨bp,0,none⟩)] #[],.func (.func 61) #[Zs (some ⟨bp,0,none⟩)] #[]]
structure WAt (c:WC) (W:World) (T1:Nat->Nat) (R1:RS) (lg:Option Nat) (vw:Value) (X:List OP) (xv:Value):Prop where
 rw:RwIn W T1 c.A R1 lg vw X
 tags:∀q,q<c.N->T1 q=c.T q
 chg:Chg (fun q=>c.T q≠0\/c.A.has q) c.w W
 box:At W c.w.heap.size #[O Z 0,.int .u16 0] 76
 cl:At W (c.bp+1) (stepCells c.bp) 81
 bat:At W c.bp (batCells c.A c.pv c.rv xv) 120
 big:c.N≤W.heap.size
structure XsAt (c:WC) (W:World) (T1:Nat->Nat) (xv:Value) (XS:List OP):Prop where
 row:ORow W c.w.heap.size xv XS
 xT:∀g,xv.ownBlock=some g->T1 g=0
 dT:∀x∈XS,∀g,x.2.ownBlock=some g->T1 g=0
section
variable {c:WC} {W w5 w6:World} {T1 T2:Nat->Nat} {R1 R2:RS} {lg lg2:Option Nat} {vw vw2 xv xv2:Value} {X X2 XS:List OP}
theorem WAt.tbp(h:WAt c W T1 R1 lg vw X xv)(ok:WOk c):T1 c.bp=0:=by
 rw[h.tags _ (by unfold WC.N;omega)];exact ok.virg _ (Nat.le_of_lt ok.bp)
theorem WAt.step(h:WAt c W T1 R1 lg vw X xv)(ok:WOk c)(hr:RwIn w5 T2 c.A R2 lg2 vw2 X2)(ht:∀q,q<W.heap.size->T2 q=T1 q)(hc:Chg (fun q=>T1 q≠0\/c.A.has q\/q=c.bp) W w5)(hbat:At w5 c.bp (batCells c.A c.pv c.rv xv2) 120)(hb:Below w5.heap.size w5 w6):WAt c w6 T2 R2 lg2 vw2 X2 xv2:=by
 have hbig:=h.big;have hN:c.N=c.bp+2:=rfl;have hbp:=ok.bp;have hs:=hc.size;have hsb:=hb.size;have ho:∀q,c.w.heap.size≤q->q<c.N->q≠c.bp->¬(T1 q≠0\/c.A.has q\/q=c.bp):=fun q h1 h2 h3 e=>by
  rcases e with e|e|e
  ·exact e (by rw[h.tags q h2];exact ok.virg q h1)
  ·exact ok.off q h1 e
  ·exact h3 e
 refine⟨hr.below hb,fun q hq=>(ht q (by omega)).trans (h.tags q hq),?_,(h.box.mod hc (ho _ (Za _) (by omega) (by omega))).below hb (by omega),(h.cl.mod hc (ho _ (by omega) (by omega) (by omega))).below hb (by omega),hbat.below hb (by omega),by omega⟩;refine(Zaj h.chg hc (fun q hq e=> ?_)).trans (Zm hb _);rcases e with e|e|e
 ·exact .inl (by rw[<-h.tags q (by omega)];exact e)
 ·exact .inr e
 ·omega
theorem XsAt.keep(h:XsAt c W T1 xv XS)(hr:RwIn W T1 c.A R1 lg vw X)(hbat:At W c.bp (batCells c.A c.pv c.rv xv) 120)(ht:∀q,q<W.heap.size->T2 q=T1 q)(hc:Chg (fun q=>T1 q≠0\/c.A.has q\/q=c.bp) W w5)(hb:Below w5.heap.size w5 w6):XsAt c w6 T2 xv XS:=by
 refine⟨(h.row.mod hc (fun g hg e=> ?_) (fun x hx g hg e=> ?_)).below hb,fun g hg=>(ht g (h.row.row.lt g hg).2).trans (h.xT g hg),fun x hx g hg=>(ht g ((h.row.dat x hx).lt g hg).2).trans (h.dT x hx g hg)⟩
 ·rcases e with e|e|e
  ·exact e (h.xT g hg)
  ·exact hr.offOwn h.row.row hg e
  ·exact Zah h.row.row hbat (by decide) (by rw[hg,e])
 ·rcases e with e|(e|e|e|e)|e
  ·exact e (h.dT x hx g hg)
  ·exact Zah (h.row.dat x hx) hr.rw (by decide) (by rw[hg,e])
  ·exact Zah (h.row.dat x hx) hr.wal (by decide) (by rw[hg,e])
  ·exact Zah (h.row.dat x hx) hr.ring (by decide) (by rw[hg,e])
  ·exact Zah (h.row.dat x hx) hr.fr (by decide) (by rw[hg,e])
  ·exact Zah (h.row.dat x hx) hbat (by decide) (by rw[hg,e])
theorem rowsKeep(ok:WOk c)(h:WAt c W T1 R1 lg vw X xv)(hL:RowsAt W c.w.heap.size c.rv c.L)(hc:Chg (fun q=>T1 q≠0\/c.A.has q\/q=c.bp) W w5)(hb:Below w5.heap.size w5 w6):RowsAt w6 c.w.heap.size c.rv c.L:=by
 have hN:c.N=c.bp+2:=rfl;have hT:∀g,c.w.heap.size≤g->g<c.bp->¬(T1 g≠0\/c.A.has g\/g=c.bp):=fun g h1 h2 e=>by
  rcases e with e|e|e
  ·exact e (by rw[h.tags g (by omega)];exact ok.virg g h1)
  ·exact ok.off g h1 e
  ·omega
 exact(hL.tmod hc (fun g hg=>hT g (hL.row.lt g hg).1 (ok.rN g hg)) (fun x hx g hg=>hT g ((hL.each x hx).row.lt g hg).1 (ok.xN x hx g hg)) (fun x hx y hy g hg=>hT g (((hL.each x hx).dat y hy).lt g hg).1 (ok.dN x hx y hy g hg))).below hb
theorem rowsTag(ok:WOk c)(h:WAt c W T1 R1 lg vw X xv)(hL:RowsAt W c.w.heap.size c.rv c.L):RowsT T1 c.rv c.L:=by
 have hN:c.N=c.bp+2:=rfl;have hT:∀g,c.w.heap.size≤g->g<c.bp->T1 g=0:=fun g h1 h2=>by
  rw[h.tags g (by omega)];exact ok.virg g h1
 exact⟨fun g hg=>hT g (hL.row.lt g hg).1 (ok.rN g hg),fun x hx g hg=>hT g ((hL.each x hx).row.lt g hg).1 (ok.xN x hx g hg),fun x hx y hy g hg=>hT g (((hL.each x hx).dat y hy).lt g hg).1 (ok.dN x hx y hy g hg)⟩
end
theorem rowsLower{B B':Nat}{v:Value}{L:List (Value×List OP)}(h:RowsAt w B v L)(hB:B'≤B):RowsAt w B' v L:=⟨Zan h.row hB,fun x hx=>(h.each x hx).lower hB⟩
theorem RPost.wide{bp:Nat}{w':World}(h:Chg (fun q=>T q≠0\/A.has q) w w'):Chg (fun q=>T q≠0\/A.has q\/q=bp) w w':=h.mono fun q e=>e.imp id .inl
def S0(c:WC)(W:World):Prop:=∃lg vw X,WAt c W c.T c.R.fresh lg vw X (.slice none 0 0)/\PutSeg W c.pv c.us/\RowsAt W c.w.heap.size c.rv c.L
def S1(c:WC)(W:World):Prop:=∃T1 R1 lg vw X,RoomR c.R.fresh c.n R1/\WAt c W T1 R1 lg vw X (.slice none 0 0)/\RowsAt W c.w.heap.size c.rv c.L
noncomputable def RS.read(R:RS)(us:List (Int×List UInt8)):RS:={R with s:=R.s.ticks 0 (batCnt R us (batRows R us).length)}
def S2(c:WC)(W:World):Prop:=∃T1 R1 lg vw X xv XS,RoomR c.R.fresh c.n R1/\WAt c W T1 (R1.read c.us) lg vw X xv/\XsAt c W T1 xv XS/\(XS.map (·.1)).Perm (batAll R1 c.V c.us (batRows R1 c.us).length)
def S3(c:WC)(W:World):Prop:=∃T1 R1 lp u vw X xv XS sec,RoomR c.R.fresh c.n R1/\WAt c W T1 ((R1.read c.us).logged (XS.map (·.1))) (some lp) vw X xv/\XsAt c W T1 xv XS/\(XS.map (·.1)).Perm (batAll R1 c.V c.us (batRows R1 c.us).length)/\Logd W T1 c.N lp (2*XS.length+1) u sec/\sec.length=128
def S4(c:WC)(W:World):Prop:=∃T1 R1 R4 lp u vw X xv XS sec,RoomR c.R.fresh c.n R1/\PlacedR ((R1.read c.us).logged (XS.map (·.1))) R4/\WAt c W T1 R4 (some lp) vw X xv/\XsAt c W T1 xv XS/\(XS.map (·.1)).Perm (batAll R1 c.V c.us (batRows R1 c.us).length)/\Logd W T1 c.N lp (2*XS.length+1) u sec/\sec.length=128
def S5(c:WC)(W:World):Prop:=∃T1 R1 R4 lg vw X xv ps sec,RoomR c.R.fresh c.n R1/\PlacedR ((R1.read c.us).logged ps) R4/\WAt c W T1 (R4.sealedR (2*ps.length+1) sec ps) lg vw X xv/\ps.Perm (batAll R1 c.V c.us (batRows R1 c.us).length)/\sec.length=128
def S6(c:WC)(W:World):Prop:=∃T1 R1 R4 R' lg vw X xv ps sec,Batched c.R c.V c.us ps R1 R4 R' sec/\WAt c W T1 R' lg vw X xv
theorem Zeg{R:RS}(h:RwIn w T A R lg vw X):
  ∃W1,W1=(w.setCell ⟨A.q,8,none⟩ (.bool false)).alloc (.cells #[O Z 0,.int .u16 0] 76)/\RwIn W1 T A R.fresh lg vw X/\Chg (fun q=>q=A.q) w W1/\W1.heap.size=w.heap.size+1/\At W1 w.heap.size #[O Z 0,.int .u16 0] 76:=by
 have hs0:RwIn (w.setCell ⟨A.q,8,none⟩ (.bool false)) T A R.fresh lg vw X:=h.setQ 8 (.bool false) rfl h.wt h.wtT h.wtX h.wtM rfl rfl rfl ⟨rfl,rfl,rfl⟩ ⟨rfl,rfl,rfl⟩;have es0:(w.setCell ⟨A.q,8,none⟩ (.bool false)).heap.size=w.heap.size:=Za6 _ _ _;have hbs:=(Zb (w.setCell ⟨A.q,8,none⟩ (.bool false)).heap.size _).alloc (Za _) (.cells #[O Z 0,.int .u16 0] 76);refine⟨_,rfl,hs0.below hbs,(Zk (S:=fun q=>q=A.q) (Zl _ _) ⟨A.q,8,none⟩ (.inl rfl) _).trans (Zm hbs _),by rw[Zaa,es0],?_⟩;have:=At.new (w.setCell ⟨A.q,8,none⟩ (.bool false)) #[O Z 0,.int .u16 0] 76;rw[es0]at this;exact this
theorem Zqb{c:WC}{W1 w2:World}(h1:RwIn W1 c.T c.A c.R.fresh lg vw X)(hst:Chg (fun q=>q=c.A.q) c.w W1)(hB1:At W1 c.w.heap.size #[O Z 0,.int .u16 0] 76)(hp:PutSeg W1 c.pv c.us)(hL:RowsAt w2 W1.heap.size c.rv c.L)(hb2:Below W1.heap.size W1 w2)(hbp:c.bp=w2.heap.size):
  S0 c ((w2.alloc (.cells (batCells c.A c.pv c.rv (.slice none 0 0)) 120)).alloc (.cells (stepCells c.bp) 81)):=by
 have es:(w2.alloc (.cells (batCells c.A c.pv c.rv (.slice none 0 0)) 120)).heap.size=w2.heap.size+1:=Zaa _ _;have hbb:Below w2.heap.size w2 ((w2.alloc (.cells (batCells c.A c.pv c.rv (.slice none 0 0)) 120)).alloc (.cells (stepCells c.bp) 81)):=((Zb _ _).alloc (Za _) _).alloc (by rw[es];omega) _;have hb12:=hb2.trans (hbb.mono hb2.size);refine⟨lg,vw,X,⟨h1.below hb12,fun _ _=>rfl,(hst.mono (fun q e=>.inr (.inl e))).trans (Zm hb12 _),hB1.below hb12 hB1.lt,?_,?_,by show c.bp+2≤_;rw[Zaa,es,hbp];omega⟩,hp.below hb12,rowsLower (hL.below hbb) hst.size⟩
 ·rw[hbp,<-es]
  exact At.new _ _ _
 ·rw[hbp]
  exact(At.new w2 _ _).alloc _
structure Mid (c:WC) (R1:RS):Prop where
 good:Good R1 c.V
 cost:Cost c.R.fresh R1 0 (c.R.wait.length+1) 20 (c.R.wait.length+1) 0
 room:2*c.n+1≤R1.size-R1.used
 ok:BatchOk R1.M R1.C R1.S c.us
 wait:R1.wait= []\/R1.wait=c.R.wait
theorem mid{c:WC}(ok:WOk c)(h:RoomR c.R.fresh c.n R1):Mid c R1:=by
 have g0:=ok.good.fresh;have c1:=g0.cost_room h;obtain⟨h1,h2⟩:=g0.room_wait h ok.fit;have hM:R1.M=c.R.M:=c1.M;have hC:R1.C=c.R.C:=c1.C;have hS:R1.S=c.R.S:=c1.S;exact⟨g0.room h,c1,h1,by rw[hM,hC,hS];exact ok.ok,h2⟩
structure Mid2 (c:WC) (R1:RS) (ps:List Pat):Prop where
 log:Loggable ps
 few:ps.length≤c.n
 few2:ps.length≤512
 good:Good (R1.read c.us) c.V
 cost:Cost R1 (R1.read c.us) 139264 0 0 0 0
 good3:Good ((R1.read c.us).logged ps) c.V
 cost3:Cost (R1.read c.us) ((R1.read c.us).logged ps) 0 (2*ps.length) 1 (2*ps.length) 0
theorem mid2{c:WC}{ps:List Pat}(ok:WOk c)(m:Mid c R1)(hps:ps.Perm (batAll R1 c.V c.us (batRows R1 c.us).length)):Mid2 c R1 ps:=by
 have hlg:=Zd7 m.good m.ok (Zed m.ok ok.ne) hps;have hM:R1.M=c.R.M:=m.cost.M;have hC:R1.C=c.R.C:=m.cost.C;have hS:R1.S=c.R.S:=m.cost.S;have hpl:ps.length≤c.n:=by
  rw[hps.length_eq];have:=Zck R1 c.V c.us (batRows R1 c.us).length;rw[hM,hC,hS]at this;exact this
 have hfew:=Zc2 (M:=c.R.M) (C:=c.R.C) (S:=c.R.S) ok.ok.few;have hb:=Zd0 R1 c.us (batRows R1 c.us).length;have hbf:=Zcy (R:=R1) ok.ok.few;have hM16:=(Zbe m.good.geo).2.1;have hb1:R1.M*(R1.M+1)≤16*17:=Nat.mul_le_mul hM16 (by omega);have hb2:(batRows R1 c.us).length*(R1.M*(R1.M+1))≤512*272:=Nat.mul_le_mul hbf hb1;have g2:=m.good.ticks (batCnt R1 c.us (batRows R1 c.us).length);exact⟨hlg,hpl,Zc hpl hfew,g2,(m.good.cost_ticks _).mono (by omega) (Za _) (Za _) (Za _) (Za _),(g2.logged hlg).1,g2.cost_logged hlg⟩
theorem WOk.wfew{c:WC}(ok:WOk c):c.R.wait.length≤512:=ok.good.few
theorem Zwk{c:WC}(ok:WOk c)(h:S0 c W):Calls Tryz.prog 56 #[Zs (some ⟨c.bp,0,none⟩)] W fun e w'=>e=.returned (.agg #[O Z 0,.int .u16 0])/\∀w6,Below w'.heap.size w' w6->S1 c w6:=by
 obtain⟨lg,vw,X,h,hp,hL⟩:=h;have g0:=ok.good.fresh;have hcnt:c.R.fresh.s.cnt 1≤999997000000:=Int.le_trans ok.c1 (by omega);have hcnt2:c.R.fresh.s.cnt 2≤999997000000:=Int.le_trans ok.c2 (by omega);have hsm:c.R.fresh.s.small 800000:=ok.small.mono (by omega);refine(Ztq h.rw g0.ready g0.jrn hcnt hcnt2 hsm c.bp c.pv c.rv _ c.us h.bat (h.tbp ok) hp ok.ok ok.fit).mono ?_;rintro e w' ⟨rfl,R1,lg1,vw1,X1,hr,T1,k1,k2,k3⟩;refine⟨rfl,fun w6 hb=>⟨T1,R1,lg1,vw1,X1,hr,h.step ok k1 k2 (RPost.wide k3) ?_ hb,rowsKeep ok h hL (RPost.wide k3) hb⟩⟩;exact h.bat.mod k3 fun e=>e.elim (fun e=>e (h.tbp ok)) (ok.off _ (Nat.le_of_lt ok.bp))
theorem Zvi{c:WC}(ok:WOk c)(h:S1 c W):Calls Tryz.prog 57 #[Zs (some ⟨c.bp,0,none⟩)] W fun e w'=>e=.returned (.agg #[O Z 0,.int .u16 0])/\∀w6,Below w'.heap.size w' w6->S2 c w6:=by
 obtain⟨T1,R1,lg,vw,X,hr,h,hL⟩:=h;have m:=mid ok hr;have h0:=m.cost.c0;have hM:R1.M=c.R.M:=m.cost.M;have hC:R1.C=c.R.C:=m.cost.C;have hS:R1.S=c.R.S:=m.cost.S;have hc0:c.R.fresh.s.cnt 0≤999990000000:=ok.c0;have hwf:=ok.wfew;have hsm:R1.s.small 1000000:=(m.cost.small _ ok.small).mono (by omega);refine(Zum h.rw m.good.sound c.bp c.pv c.rv h.bat (h.tbp ok) c.us m.ok c.w.heap.size c.L hL (rowsTag ok h hL) (by rw[hM,hC,hS];exact ok.is) (by omega) hsm).mono ?_;rintro e w' ⟨rfl,xv,XS,k1,k2,k3,k4,k5⟩;have k5':Chg (fun q=>T1 q≠0\/c.A.has q\/q=c.bp) W w':=k5.mono fun q e=>e.elim .inl (fun e=>.inr (.inr e))
 refine⟨rfl,fun w6 hb=>⟨T1,R1,lg,vw,X,xv,XS,hr,h.step ok k1 (fun _ _=>rfl) k5' k2 hb,⟨(k3.lower h.chg.size).below hb,fun g hg=>Zae h.rw.bay g (k3.row.lt g hg).1,fun x hx g hg=>Zae h.rw.bay g ((k3.dat x hx).lt g hg).1⟩,k4⟩⟩
theorem Zw1{c:WC}(ok:WOk c)(h:S2 c W):Calls Tryz.prog 58 #[Zs (some ⟨c.bp,0,none⟩)] W fun e w'=>e=.returned (.agg #[O Z 0,.int .u16 0])/\∀w6,Below w'.heap.size w' w6->S3 c w6:=by
 obtain⟨T1,R1,lg,vw,X,xv,XS,hr,h,hx,hps⟩:=h;have m:=mid ok hr;have m2:=mid2 ok m hps;have e1:(R1.read c.us).size-(R1.read c.us).used=R1.size-R1.used:=rfl;have hlen:(XS.map (·.1)).length=XS.length:=Zp _;have hf:=m2.few;have hf2:=m2.few2;have hroom:=m.room;have hwf:=ok.wfew;have a1:=m.cost.c1;have a2:=m.cost.c2;have b1:=m2.cost.c1;have b2:=m2.cost.c2;have hc1:c.R.fresh.s.cnt 1≤999990000000:=ok.c1;have hc2:c.R.fresh.s.cnt 2≤999990000000:=ok.c2;have hsm:(R1.read c.us).s.small 900000:=(m2.cost.small _ (m.cost.small _ ok.small)).mono (by omega);refine(Zwd h.rw m2.good.n m2.good.fit m2.good.jrn c.bp c.pv c.rv xv (XS.map (·.1)) h.bat (h.tbp ok) (hx.row.pseg (by omega)) m2.log (by omega) (by omega) (by omega) hsm).mono ?_;rintro e w' ⟨rfl,T',lp,u,k1,k2,k3,k4⟩;have k3':Chg (fun q=>T1 q≠0\/c.A.has q\/q=c.bp) W w':=k3.mono fun q e=>e.elim .inl (fun e=>.inr (.inl (.inr (.inl e))))
 have hbat:At w' c.bp (batCells c.A c.pv c.rv xv) 120:=h.bat.mod k3 fun e=>e.elim (fun e=>e (h.tbp ok)) (fun e=>ok.off _ (Nat.le_of_lt ok.bp) (.inr (.inl e)))
 have hsl:((R1.read c.us).lastSec (XS.map (·.1))).length=128:=by
  unfold RS.lastSec;rw[Zi,Zh (by rw[Zb9];omega)];exact Zc5 _ _ _ m2.log _ (Zj _)
 refine⟨rfl,fun w6 hb=>⟨T',R1,lp,u,vw,X,xv,XS,_,hr,h.step ok k1 k2 k3' hbat hb,hx.keep h.rw h.bat k2 k3' hb,hps,?_,hsl⟩⟩;rw[hlen]at k4;have k5:=k4.keep hsl (Zm hb (fun _=>False)) (fun _ _=>rfl) (fun q e=>e.elim);have hbig:=h.big;exact⟨k5.at',k5.tl,k5.seg,k5.nb,Zc hbig k5.lo,fun a n q e=>Zc hbig (k5.lou a n q e)⟩
theorem Zu0{c:WC}(ok:WOk c)(h:S3 c W):Calls Tryz.prog 59 #[Zs (some ⟨c.bp,0,none⟩)] W fun e w'=>e=.returned (.agg #[O Z 0,.int .u16 0])/\∀w6,Below w'.heap.size w' w6->S4 c w6:=by
 obtain⟨T1,R1,lp,u,vw,X,xv,XS,sec,hr,h,hx,hps,hl,hsl⟩:=h;have m:=mid ok hr;have m2:=mid2 ok m hps;have hf2:=m2.few2;have hwf:=ok.wfew;have a1:=m.cost.c1;have b1:=m2.cost.c1;have d1:=m2.cost3.c1;have hc1:c.R.fresh.s.cnt 1≤999990000000:=ok.c1;have hsm:((R1.read c.us).logged (XS.map (·.1))).s.small 900000:=(m2.cost3.small _ (m2.cost.small _ (m.cost.small _ ok.small))).mono (by omega);refine(Zsk h.rw m2.good3.ready c.bp c.pv c.rv xv h.bat (by omega) hsm).mono ?_;rintro e w' ⟨rfl,R4,vw4,X4,hpl,T',k1,k2,k3⟩;have k3':=RPost.wide (bp:=c.bp) k3;have hbat:At w' c.bp (batCells c.A c.pv c.rv xv) 120:=h.bat.mod k3 fun e=>e.elim (fun e=>e (h.tbp ok)) (ok.off _ (Nat.le_of_lt ok.bp))
 refine⟨rfl,fun w6 hb=>⟨T',R1,R4,lp,u,vw4,X4,xv,XS,sec,hr,hpl,h.step ok k1 k2 k3' hbat hb,hx.keep h.rw h.bat k2 k3' hb,hps,?_,hsl⟩⟩;have k4:=hl.keep hsl k3 k2 (fun q e=>e.imp id fun e=> ?_)
 ·exact k4.keep hsl (Zm hb (fun _=>False)) (fun _ _=>rfl) (fun q e=>e.elim)
 ·have hbp:=ok.bp
  unfold WC.N;by_cases hq:q<c.w.heap.size
  ·omega
  ·exact absurd e (ok.off q (by omega))
theorem Zvh{c:WC}(ok:WOk c)(h:S4 c W):Calls Tryz.prog 60 #[Zs (some ⟨c.bp,0,none⟩)] W fun e w'=>e=.returned (.agg #[O Z 0,.int .u16 0])/\∀w6,Below w'.heap.size w' w6->S5 c w6:=by
 obtain⟨T1,R1,R4,lp,u,vw,X,xv,XS,sec,hr,hpl,h,hx,hps,hl,hsl⟩:=h;have m:=mid ok hr;have m2:=mid2 ok m hps;have hf:=m2.few;have hf2:=m2.few2;have hwf:=ok.wfew;have hlen:(XS.map (·.1)).length=XS.length:=Zp _;have c4:=m2.good3.cost_placed hpl;obtain⟨g4,hw4⟩:=m2.good3.placed hpl;obtain⟨-,-,-,-,-,s4,e4⟩:=hpl.facts m2.good3.ready;have hsz4:R4.size=R1.size:=by rw[e4];rfl
 have hus4:R4.used=R1.used:=by rw[e4];rfl
 have hroom:=m.room;have a1:=m.cost.c1;have b1:=m2.cost.c1;have d1:=m2.cost3.c1;have f1:=c4.c1;have hc1:c.R.fresh.s.cnt 1≤999990000000:=ok.c1;have hw3:((R1.read c.us).logged (XS.map (·.1))).wait.length≤512:=m2.good3.few;have hsm:R4.s.small 900000:=(c4.small _ (m2.cost3.small _ (m2.cost.small _ (m.cost.small _ ok.small)))).mono (by omega);refine(Zuv h.rw g4.n g4.fit g4.jrn hl hsl (by omega) (by rw[hsz4,hus4];omega) c.bp c.pv c.rv xv c.w.heap.size XS h.bat (h.tbp ok) hx.row hx.xT hx.dT (by omega) hsm).mono ?_;rintro e w' ⟨rfl,T',k⟩;refine⟨rfl,fun w6 hb=>⟨T',R1,R4,none,xv,XS,xv,XS.map (·.1),sec,hr,hpl,?_,hps,hsl⟩⟩;rw[hlen];exact h.step ok k.rw k.tags (RPost.wide k.chg) k.bat hb
theorem Zxb{c:WC}(ok:WOk c)(h:S5 c W):Calls Tryz.prog 61 #[Zs (some ⟨c.bp,0,none⟩)] W fun e w'=>e=.returned (.agg #[O Z 0,.int .u16 0])/\∀w6,Below w'.heap.size w' w6->S6 c w6:=by
 obtain⟨T1,R1,R4,lg,vw,X,xv,ps,sec,hr,hpl,h,hps,hsl⟩:=h;have m:=mid ok hr;have m2:=mid2 ok m hps;have hf:=m2.few;have hf2:=m2.few2;have hwf:=ok.wfew;have c4:=m2.good3.cost_placed hpl;obtain⟨g4,hw4⟩:=m2.good3.placed hpl;obtain⟨-,-,-,-,-,s4,e4⟩:=hpl.facts m2.good3.ready;have hsz4:R4.size=R1.size:=by rw[e4];rfl
 have hus4:R4.used=R1.used:=by rw[e4];rfl
 have hnx4:R4.next=R1.next:=by rw[e4];rfl
 have hM4:R4.M=R1.M:=by rw[e4];rfl
 have hC4:R4.C=R1.C:=by rw[e4];rfl
 have hS4:R4.S=R1.S:=by rw[e4];rfl
 have hfr4:R4.fr=R1.fr:=by rw[e4];rfl
 have hnx:=ok.next;have hn1:R1.next≤c.R.next:=m.cost.next;have hroom:=m.room;have g1:=m.good;obtain⟨g5,hp5⟩:=g4.seal (V':=vNext R1 c.V c.us) hw4 hsl (cost:=2*ps.length+1) (ps:=ps) (by rw[hsz4,hus4];omega) (by rw[hnx4];omega)
  (fun m' r hm hr=>by rw[hM4]at hm;rw[hS4,hC4]at hr;exact Zfp g1 m.ok hm hr)
  (fun r hr i hi=>by rw[hM4];rw[hS4,hC4]at hr;exact Zf7 g1 m.ok hr i hi)
  (fun p hp=>by rw[hM4,hS4,hC4];exact(Zcs g1 m.ok (hps.mem_iff.1 hp)).1)
  (fun p hp=>(Zcs g1 m.ok (hps.mem_iff.1 hp)).2)
  (fun m' r hm hr hw hd=>by
   rw[hM4]at hm
   rw[hS4,hC4]at hr
   refine Zet g1 m.ok hps hm hr hw ?_
   unfold RS.dn at hd ⊢
   rw[hfr4]at hd
   exact hd)
  (by omega)
 have c5:=Zh3 hp5;have a1:=m.cost.c1;have b1:=m2.cost.c1;have d1:=m2.cost3.c1;have f1:=c4.c1;have i1:=c5.c1;have a2:=m.cost.c2;have b2:=m2.cost.c2;have d2:=m2.cost3.c2;have f2:=c4.c2;have i2:=c5.c2;have hc1:c.R.fresh.s.cnt 1≤999990000000:=ok.c1;have hc2:c.R.fresh.s.cnt 2≤999990000000:=ok.c2;have hw3:((R1.read c.us).logged ps).wait.length≤512:=m2.good3.few;have hsm:(R4.sealedR (2*ps.length+1) sec ps).s.small 900000:=(c5.small _ (c4.small _ (m2.cost3.small _ (m2.cost.small _ (m.cost.small _ ok.small))))).mono (by omega);refine(Zwn h.rw g5.ready c.bp c.pv c.rv xv h.bat (by omega) (by omega) hsm).mono ?_;rintro e w' ⟨rfl,R',vw',X',he,T',k1,k2,k3⟩;have hbat:At w' c.bp (batCells c.A c.pv c.rv xv) 120:=h.bat.mod k3 fun e=>e.elim (fun e=>e (h.tbp ok)) (ok.off _ (Nat.le_of_lt ok.bp))
 exact⟨rfl,fun w6 hb=>⟨T',R1,R4,R',lg,vw',X',xv,ps,sec,⟨hr,hps,hpl,hsl,he⟩,h.step ok k1 k2 (RPost.wide k3) hbat hb⟩⟩
end Go.Proofs.YtmemlkmnhcealaaGreat
