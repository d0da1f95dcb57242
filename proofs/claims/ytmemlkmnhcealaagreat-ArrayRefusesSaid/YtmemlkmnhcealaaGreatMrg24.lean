
/- Several texts in one: RwJ, RwK, RwL. -/
import Derived.Test.YtmemlkmnhcealaaGreatRwI
set_option linter.unusedVariables false
set_option maxRecDepth 100000
set_option maxHeartbeats 8000000
namespace Go.Proofs.YtmemlkmnhcealaaGreat
open Value renaming int→O,pointer→Zs
open IntKind renaming i64→Z
open Obj renaming cells→Zv
open Go.RowKit
open Lib(hid)
variable {A:Adr} {cs:Array Value} {X:List OP} {tb:Nat} {T:Nat->Nat} {lg:Option Nat} {R R':RS} {vw:Value} {W w w0 w1 w2:World}
def RPost(w:World)(T:Nat->Nat)(A:Adr)(R':RS)(lg:Option Nat)(vw:Value)(X:List OP)(w':World):Prop:=∃T',RwIn w' T' A R' lg vw X/\(∀q,q<w.heap.size->T' q=T q)/\Chg (fun q=>T q≠0\/A.has q) w w'
theorem RPost.trans{T1:Nat->Nat}(hT:∀q,q<w.heap.size->T1 q=T q)(hc:Chg (fun q=>T q≠0\/A.has q) w w1)(h:RPost w1 T1 A R' lg vw X w2):RPost w T A R' lg vw X w2:=by
 obtain⟨T2,h1,h2,h3⟩:=h;exact⟨T2,h1,fun q hq=>(h2 q (Zd hq hc.size)).trans (hT q hq),Zaj hc h3 fun q hq hs=>by rw[<-hT q hq];exact hs⟩
theorem RPost.after(hb:Below w.heap.size w w1)(h:RPost w1 T A R' lg vw X w2):RPost w T A R' lg vw X w2:=
 RPost.trans (fun _ _=>rfl) (Zm hb _) h
theorem RwIn.setQ(h:RwIn W T A R lg vw X)(i:Nat)(u:Value){vw':Value}{X':List OP}(hcells:(rwCells A R vw).setIfInBounds i u=rwCells A R' vw')(hw:ORow W 0 vw' X')(hwT:∀g,vw'.ownBlock=some g->T g=0)(hX:∀x∈X',∀g,x.2.ownBlock=some g->T g=0)(hM:X'.map (·.1)=R'.wait)
  (e1:R'.s=R.s) (e2:R'.fr=R.fr) (e3:R'.M=R.M) (e4:R'.ep=R.ep/\R'.next=R.next/\R'.sure=R.sure) (e5:R'.size=R.size/\R'.tail=R.tail/\R'.used=R.used):RwIn (W.setCell ⟨A.q,i,none⟩ u) T A R' lg vw' X':=by
 have hst:Chg (fun q=>q=A.q) W (W.setCell ⟨A.q,i,none⟩ u):=Zk (S:=fun q=>q=A.q) (Zl _ _) ⟨A.q,i,none⟩ (.inl rfl) _;refine⟨?_,?_,?_,hw.mod hst (fun g hg e=>Zah hw.row h.rw (by decide) (by rw[hg,e])) (fun x hx g hg e=>Zah (hw.dat x hx) h.rw (by decide) (by rw[hg,e])),hwT,hX,hM,?_,?_,h.tq,h.tf,h.tw,h.tr⟩
 ·rw[e1];exact h.bay.keep hst (fun k hk e=>hk (by rw[e];exact h.tq))
 ·rw[<-hcells];exact h.rw.set i u
 ·rw[e2,e3];exact h.fr.mod hst (fun e=>Zaw h.fr h.rw (by decide) e)
 ·rw[e3,e4.1,e4.2.1,e4.2.2];exact h.wal.mod hst (fun e=>Zaw h.wal h.rw (by decide) e)
 ·rw[e5.1,e5.2.1,e5.2.2];exact h.ring.mod hst (fun e=>Zaw h.ring h.rw (by decide) e)
structure PlacedR (R R':RS):Prop where
 eq:∃s',R'={R with s:=s',wait:= []}/\∃L:List PK,L.Nodup/\(∀k,k∈L↔∃p∈R.wait,pkOf p=k)/\Laid R R.s s' L (gTo R.wait R.wait.length)
structure Ready (R:RS):Prop where
 geo:geoIs R.M R.C R.S=true
 n:R.s.n=R.M+1
 fit:Fit R.s R.G R.szs
 wait:∀p∈R.wait,InPlace R.M (R.S*R.C) p
 wfew:R.wait.length≤80000
theorem PlacedR.none(h:R.wait= [])(hf:Fit R.s R.G R.szs):PlacedR R R:=by
 refine⟨R.s,?_,[],List.nodup_nil,fun k=> ?_,?_⟩
 ·rw[<-h]
 ·rw[h];simp
 ·rw[h];exact Laid.nil hf
theorem Zgq(h:RwIn w T A R lg vw X)(hw:R.wait= []):
  Calls Tryz.prog 66 #[Zs (some ⟨A.q,0,none⟩)] w fun e w'=>e=.returned (.agg #[O Z 0,.int .u16 0])/\Below w.heap.size w w':=by
 obtain⟨a,c,hv⟩:=Zab h.wt.row;have hX:X.length=0:=by
  have:=congrArg List.length h.wtM;rw[Zp,hw]at this;exact this
 have hb0:Below w.heap.size w (w.alloc (Zv #[O Z 0,.int .u16 0] 76)):=(Zb _ _).alloc (Za _) _;rw[hX]at hv;have c7:(w.alloc (Zv #[O Z 0,.int .u16 0] 76)).cell? ⟨A.q,7,none⟩=some (.slice a 0 c):=by rw[<-hv];exact(h.below hb0).rw.cell 7
 have hqlt:=h.rw.lt;have hn:=At.new w #[O Z 0,.int .u16 0] 76;have HN:=hid hn;have HB0:=hid hb0;clear h hn hb0;go_enter Tryz.func66,Tryz.ntmps66;go_wp2;have r0:=HN.out.cell 0;have r1:=HN.out.cell 1;(try simp only [Exit.inBlock,Exit.then]);refine bodyPost_ret (v:=.agg #[O Z 0,.int .u16 0]) ?_ rfl ⟨rfl,HB0.out⟩;rw[Zai rfl];go_simp;try rfl
theorem Zno(h:RwIn w T A R lg vw X)(hr:Ready R)(hw:R.wait≠ [])(hcnt:R.s.cnt 1≤999998000000)(hsm:R.s.small 900000):
  Calls Tryz.prog 66 #[Zs (some ⟨A.q,0,none⟩)] w fun e w'=>e=.returned (.agg #[O Z 0,.int .u16 0])/\∃R',PlacedR R R'/\RPost w T A R' lg (.slice none 0 0) [] w':=by
 have hb0:Below w.heap.size w (w.alloc (Zv #[O Z 0,.int .u16 0] 76)):=(Zb _ _).alloc (Za _) _;have htb:T w.heap.size=0:=Zae h.bay _ (Za _);have h0:=h.below hb0;have hps:=h0.wt.pseg (by have:=hr.wfew;rw[<-h.wtM,Zp]at this;omega);rw[h.wtM]at hps;have HPL:=hid (Zqf h0 hr.geo hr.n hr.fit vw R.wait hps hr.wait hr.wfew hcnt hsm);obtain⟨a,c,hv⟩:=Zab h.wt.row;have hX:X.length=R.wait.length:=by
  have:=congrArg List.length h.wtM;rw[Zp]at this;exact this
 rw[hX]at hv;have hpos:0<R.wait.length:=List.length_pos_iff.2 hw;have c7:(w.alloc (Zv #[O Z 0,.int .u16 0] 76)).cell? ⟨A.q,7,none⟩=some (.slice a R.wait.length c):=by rw[<-hv];exact h0.rw.cell 7
 have hqlt:=h.rw.lt;have HTB:Hid (At (w.alloc (Zv #[O Z 0,.int .u16 0] 76)) w.heap.size #[O Z 0,.int .u16 0] 76):=At.new _ _ _;have H:=hid h;have HB0:=hid hb0;have hne:((R.wait.length:Int)==0)=false:=by simp;omega
 have hwl:R.wait.length≤80000:=hr.wfew;rw[hv]at HPL;clear h hb0 h0 hps hr;generalize hWL:R.wait.length=n at*;go_enter Tryz.func66,Tryz.ntmps66
 go_wp2_with (first
  |(go_at_call 109;((with_reducible refine HPL.out.mono ?_);rintro e w5 ⟨rfl,s',L,T',hnd,hmem,hld,hrw,hT,hc⟩;have HLD:Hid (L.Nodup/\(∀k,k∈L↔∃p∈R.wait,pkOf p=k)/\Laid R R.s s' L (gTo R.wait R.wait.length)):=(by rw[hWL];exact⟨hnd,hmem,hld⟩);have HRW:=hid hrw;have HT:=hid hT;have HC:=hid hc;have htb5:=HTB.out.mod hc (fun e=>e htb);have k0:w5.cell? ⟨w.heap.size,0,none⟩=some (O Z 0):=htb5.cell 0;have k1:w5.cell? ⟨w.heap.size,1,none⟩=some (.int .u16 0):=htb5.cell 1;have f0:=htb5.free 0;have f1:=htb5.free 1;have d7:w5.cell? ⟨A.q,7,none⟩=some (.slice a n c):=hrw.rw.cell 7;have fq:=hrw.rw.free 7;have hqlt5:=hrw.rw.lt;have hlt5:=htb5.lt;have hqne:A.q≠w.heap.size:=(by omega);have hqne2:w.heap.size≠A.q:=(by omega);have HT5:=hid htb5;clear hnd hmem hld hrw hT hc htb5 c7)))
 have hF:=((((HT5.out.mod (Zk (S:=fun q=>q=A.q) (Zl _ _) ⟨A.q,7,none⟩ (.inl rfl) (.slice none 0 0)) hqne2).set 0 (O Z 0)).set 1 (.int .u16 0)).alloc (Zv #[O Z 0,.int .u16 0] 76));have r0:=hF.cell 0;have r1:=hF.cell 1;have HEND:Hid (∃R',PlacedR R R'/\RPost w T A R' lg (.slice none 0 0) [] ((((w5.setCell ⟨A.q,7,none⟩ (.slice none 0 0)).setCell ⟨w.heap.size,0,none⟩ (O Z 0)).setCell ⟨w.heap.size,1,none⟩ (.int .u16 0)).alloc (Zv #[O Z 0,.int .u16 0] 76))):=by
  refine⟨{R with s:=s',wait:= []},⟨s',rfl,L,HLD.out.1,HLD.out.2.1,HLD.out.2.2⟩,?_⟩;have hsz:=HB0.out.size;have hQ:=HRW.out.setQ 7 (.slice none 0 0) (R':={R with s:=s',wait:= []}) (vw':=.slice none 0 0) (X':= []) rfl (ORow.nil _ _) (fun g hg=>by cases hg) (fun x hx=>by cases hx) rfl rfl rfl rfl ⟨rfl,rfl,rfl⟩ ⟨rfl,rfl,rfl⟩;have hl:=H.out.low;have hlow:RwLow A (.slice none 0 0) [] w.heap.size:=⟨hl.q,hl.fg,hl.wp,hl.rp,fun g hg=>(by cases hg),fun x hx=>(by cases hx)⟩;have hst:Chg (fun q=>q=w.heap.size) (w5.setCell ⟨A.q,7,none⟩ (.slice none 0 0)) (((w5.setCell ⟨A.q,7,none⟩ (.slice none 0 0)).setCell ⟨w.heap.size,0,none⟩ (O Z 0)).setCell ⟨w.heap.size,1,none⟩ (.int .u16 0)):=Zk (S:=fun q=>q=w.heap.size) (Zk (S:=fun q=>q=w.heap.size) (Zl _ _) ⟨w.heap.size,0,none⟩ (.inl rfl) _) ⟨w.heap.size,1,none⟩ (.inl rfl) _;have htb':T' w.heap.size=0:=by rw[HT.out _ (by rw[Zaa];omega)];exact htb
  have hal:Below (((w5.setCell ⟨A.q,7,none⟩ (.slice none 0 0)).setCell ⟨w.heap.size,0,none⟩ (O Z 0)).setCell ⟨w.heap.size,1,none⟩ (.int .u16 0)).heap.size (((w5.setCell ⟨A.q,7,none⟩ (.slice none 0 0)).setCell ⟨w.heap.size,0,none⟩ (O Z 0)).setCell ⟨w.heap.size,1,none⟩ (.int .u16 0)) ((((w5.setCell ⟨A.q,7,none⟩ (.slice none 0 0)).setCell ⟨w.heap.size,0,none⟩ (O Z 0)).setCell ⟨w.heap.size,1,none⟩ (.int .u16 0)).alloc (Zv #[O Z 0,.int .u16 0] 76)):=(Zb _ _).alloc (Za _) _;refine⟨T',(hQ.apart hlow hst (fun k e=>by rw[e];exact⟨htb',Za _⟩)).below hal,fun q hq=>HT.out q (by omega),?_⟩;exact Chg.trans (Zaj (Zaj (Zaj (Zm HB0.out _) HC.out (fun q hq e=>.inl e)) (Zk (S:=fun q=>q=A.q) (Zl _ _) ⟨A.q,7,none⟩ (.inl rfl) _) (fun q hq e=>.inr (.inl e))) hst (fun q hq e=>by omega)) (Zm hal _)
 clear hF HT5 HRW HC HT HLD HPL HTB H;(try simp only [Exit.inBlock,Exit.then]);refine bodyPost_ret (v:=.agg #[O Z 0,.int .u16 0]) ?_ rfl ⟨rfl,HEND.out⟩;rw[Zai rfl];go_simp;try rfl
open Go.RowKit
theorem RwIn.walT{W':World}{T':Nat->Nat}{lg':Option Nat}(h:RwIn W T A R lg vw X)(hb:BayAt W' T' A.b R'.s)(hT:∀q,q<W.heap.size->T' q=T q)(hc:Chg (fun q=>T q≠0\/q=A.wp\/q=A.rp) W W')(hw:At W' A.wp (walCells A.b R'.M R'.ep A.rp R'.next R'.sure lg' 0) 148)(hr:RingAt W' A.rp R'.size R'.tail R'.used)
  (e1:rwCells A R' vw=rwCells A R vw) (e2:R'.fr=R.fr/\R'.M=R.M/\R'.wait=R.wait):RwIn W' T' A R' lg' vw X:=by
 have hS:∀{g:Nat} {cs:Array Value} {t:TypeId},At W g cs t->T g=0->148≠t->190≠t->¬(T g≠0\/g=A.wp\/g=A.rp):=fun ha h0 h1 h2 e=>by
  rcases e with e|e|e
  ·exact e h0
  ·exact Zaw h.wal ha h1 e.symm
  ·exact Zaw h.ring ha h2 e.symm
 refine⟨hb,by rw[e1];exact h.rw.mod hc (hS h.rw h.tq (by decide) (by decide)),by rw[e2.1,e2.2.1];exact h.fr.mod hc (hS h.fr h.tf (by decide) (by decide)),h.wt.mod hc (fun g hg e=> ?_) (fun x hx g hg e=> ?_),fun g hg=>(hT g (h.wt.row.lt g hg).2).trans (h.wtT g hg),fun x hx g hg=>(hT g ((h.wt.dat x hx).lt g hg).2).trans (h.wtX x hx g hg),by rw[e2.2.2];exact h.wtM,hw,hr,(hT _ h.rw.lt).trans h.tq,(hT _ h.fr.lt).trans h.tf,(hT _ h.wal.lt).trans h.tw,(hT _ h.ring.lt).trans h.tr⟩
 ·rcases e with e|e|e
  ·exact e (h.wtT g hg)
  ·exact h.wOff h.wal (by decide) (by rw[hg,e])
  ·exact h.wOff h.ring (by decide) (by rw[hg,e])
 ·rcases e with e|e|e
  ·exact e (h.wtX x hx g hg)
  ·exact h.xOff h.wal (by decide) x hx (by rw[hg,e])
  ·exact h.xOff h.ring (by decide) x hx (by rw[hg,e])
theorem Zd3(h:RwIn w T A R lg vw X)(hr:Ready R)(hcnt:R.s.cnt 1≤999998000000)(hsm:R.s.small 900000):
  Calls Tryz.prog 66 #[Zs (some ⟨A.q,0,none⟩)] w fun e w'=>e=.returned (.agg #[O Z 0,.int .u16 0])/\∃R' vw' X',PlacedR R R'/\RPost w T A R' lg vw' X' w':=by
 by_cases hw:R.wait= []
 ·refine(Zgq h hw).mono ?_
  rintro e w' ⟨rfl,hb⟩;exact⟨rfl,R,vw,X,PlacedR.none hw hr.fit,T,h.below hb,fun _ _=>rfl,Zm hb _⟩
 ·refine(Zno h hr hw hcnt hsm).mono ?_
  rintro e w' ⟨rfl,R',h1,h2⟩;exact⟨rfl,R',_,_,h1,h2⟩
theorem RPost.out(hb:Below w.heap.size w w0)(h:RPost w0 T A R' lg vw X w1)(hbx:At w1 tb cs 76)(h1:w.heap.size≤tb)(h2:tb<w0.heap.size)(h3:T tb=0)(hc:Chg (fun q=>q=tb) w1 w2):RPost w T A R' lg vw X w2:=by
 obtain⟨T',k1,k2,k3⟩:=h;have ht:T' tb=0:=by rw[k2 tb h2];exact h3
 have hs:=hb.size;refine⟨T',⟨k1.bay.keep hc (fun k hk e=>hk (by rw[e];exact ht)),k1.rw.mod hc (Zaw k1.rw hbx (by decide)),k1.fr.mod hc (Zaw k1.fr hbx (by decide)),k1.wt.mod hc (fun g hg e=>k1.wOff hbx (by decide) (by rw[hg,e])) (fun x hx g hg e=>k1.xOff hbx (by decide) x hx (by rw[hg,e])),k1.wtT,k1.wtX,k1.wtM,k1.wal.mod hc (Zaw k1.wal hbx (by decide)),k1.ring.mod hc (Zaw k1.ring hbx (by decide)),k1.tq,k1.tf,k1.tw,k1.tr⟩,fun q hq=>k2 q (by omega),?_⟩;exact Zaj (Zaj (Zm hb _) k3 (fun q hq e=>e)) hc (fun q hq e=>by omega)
theorem RwLow.ne{n:Nat}(h:RwLow A vw X n)(ht:n≤tb):¬A.has tb:=fun e=>by
 have h1:=h.q;have h2:=h.fg;have h3:=h.wp;have h4:=h.rp;unfold Adr.has at e;omega
theorem RPost.keep(h:RPost w0 T A R' lg vw X w1){t:TypeId}(hbx:At w0 tb cs t)(h3:T tb=0)(hn:¬A.has tb):At w1 tb cs t:=by
 obtain⟨T',k1,k2,k3⟩:=h;exact hbx.mod k3 (fun e=>e.elim (fun e=>e h3) hn)
theorem box2(w:World)(tb:Nat)(u v:Value):Chg (fun q=>q=tb) w ((w.setCell ⟨tb,0,none⟩ u).setCell ⟨tb,1,none⟩ v):=Zk (S:=fun q=>q=tb) (Zk (S:=fun q=>q=tb) (Zl _ _) ⟨tb,0,none⟩ (.inl rfl) _) ⟨tb,1,none⟩ (.inl rfl) _
theorem Znb(h:RwIn w T A R lg vw X)(hr:Ready R)(hsu:R.sure=true)(hcnt:R.s.cnt 1≤999998000000)(hsm:R.s.small 900000):
  Calls Tryz.prog 33 #[Zs (some ⟨A.q,0,none⟩)] w fun e w'=>e=.returned (.agg #[O Z 0,.int .u16 0])/\∃R' vw' X',PlacedR R R'/\RPost w T A R' lg vw' X' w':=by
 have hb0:Below w.heap.size w (w.alloc (Zv #[O Z 0,.int .u16 0] 76)):=(Zb _ _).alloc (Za _) _;have htb:T w.heap.size=0:=Zae h.bay _ (Za _);have h0:=h.below hb0;have HPL:=hid (Zd3 h0 hr hcnt hsm);have HSU:Hid (Calls Tryz.prog 62 #[Zs (some ⟨A.wp,0,none⟩)] (w.alloc (Zv #[O Z 0,.int .u16 0] 76)) fun e w'=>e=.returned (.bool true)/\w'=(w.alloc (Zv #[O Z 0,.int .u16 0] 76))):=by
  have:=Zuq A.b R.M R.ep A.rp R.next 0 A.wp R.sure lg h0.wal;rw[hsu]at this;exact this
 have c4:(w.alloc (Zv #[O Z 0,.int .u16 0] 76)).cell? ⟨A.q,4,none⟩=some (Zs (some ⟨A.wp,0,none⟩)):=h0.rw.cell 4;have hqlt:=h.rw.lt;have HTB:Hid (At (w.alloc (Zv #[O Z 0,.int .u16 0] 76)) w.heap.size #[O Z 0,.int .u16 0] 76):=At.new _ _ _;have H:=hid h;have HB0:=hid hb0;clear h hb0 h0 hr;go_enter Tryz.func33,Tryz.ntmps33
 go_wp2_with (first
  |(go_at_call 62;(with_reducible refine HSU.out.mono ?_);rintro e w4 ⟨rfl,hw4⟩;subst w4)
  |(go_at_call 66;(with_reducible refine HPL.out.mono ?_);rintro e w5 ⟨rfl,R',vw',X',hpl,hp5⟩;have HP5:=hid hp5;have HPR:=hid hpl;have htb5:=hp5.keep HTB.out htb (H.out.low.ne (Za _));have k0:w5.cell? ⟨w.heap.size,0,none⟩=some (O Z 0):=htb5.cell 0;have k1:w5.cell? ⟨w.heap.size,1,none⟩=some (.int .u16 0):=htb5.cell 1;have f0:=htb5.free 0;have f1:=htb5.free 1;have HT5:=hid htb5;clear hpl hp5 htb5))
 have hF:=(HT5.out.set 0 (O Z 0)).set 1 (.int .u16 0);have r0:=hF.cell 0;have r1:=hF.cell 1;have HEND:Hid (∃R' vw' X',PlacedR R R'/\RPost w T A R' lg vw' X' ((w5.setCell ⟨w.heap.size,0,none⟩ (O Z 0)).setCell ⟨w.heap.size,1,none⟩ (.int .u16 0))):=⟨R',vw',X',HPR.out,HP5.out.out HB0.out HT5.out (Za _) (by rw[Zaa];omega) htb (box2 _ _ _ _)⟩;clear hF HT5 HP5 HPL HTB H HPR HSU;(try simp only [Exit.inBlock,Exit.then]);refine bodyPost_ret (v:=.agg #[O Z 0,.int .u16 0]) ?_ rfl ⟨rfl,HEND.out⟩;rw[Zai rfl];go_simp;try rfl
def RS.synced(R:RS):RS:=if R.sure=true then R else {R with s:=R.s.dried R.M,sure:=true}
theorem RS.synced_sure(R:RS):R.synced.sure=true:=by
 unfold RS.synced;split
 ·assumption
 ·rfl
theorem RS.synced_eq(R:RS):∃s',R.synced={R with s:=s',sure:=true}:=by
 unfold RS.synced;split
 ·rename_i h
  exact⟨R.s,by cases R;simp only at h;subst h;rfl⟩
 ·exact⟨_,rfl⟩
theorem Zq4(h:RwIn w T A R lg vw X)(hn:R.s.n=R.M+1)(hf:Fit R.s R.G R.szs)(hcnt:R.s.cnt 2≤999998000000)(hsm:R.s.small 1000000):
  Calls Tryz.prog 137 #[Zs (some ⟨A.wp,0,none⟩)] w fun e w'=>e=.returned (.int .u16 0)/\RPost w T A R.synced lg vw X w':=by
 have hwal:=h.wal;unfold RS.synced;cases hsu:R.sure
 ·rw[hsu]at hwal
  have k:=Zuy h.bay R.M R.ep A.rp R.next 0 A.wp lg hwal h.tw (by omega) hsm;have ht:tried 0 R.s (R.s.flush R.M)=(0,R.s.dried R.M):=by
   rw[Zco hf R.M (by omega) (.inl rfl)];rfl
  rw[ht]at k;refine k.mono ?_;rintro e w' ⟨rfl,T',k1,k2,k3,k4⟩;refine⟨rfl,T',?_,k2,k3.mono fun q hq=>hq.imp id fun e=>.inr (.inl e)⟩;rw[Ze (by simp)];exact h.walT (R':={R with s:=R.s.dried R.M,sure:=true}) k1 k2 (k3.mono fun q hq=>hq.imp id .inl) k4 (h.ring.mod k3 (fun e=>e.elim (fun e=>e h.tr) (fun e=>Zaw h.ring h.wal (by decide) e))) rfl ⟨rfl,rfl,rfl⟩
 ·rw[hsu]at hwal
  refine(Zko A.b R.M R.ep A.rp R.next 0 A.wp lg hwal).mono ?_;rintro e w' ⟨rfl,rfl⟩;rw[Zf rfl];exact⟨rfl,T,h,fun _ _=>rfl,Zl _ _⟩
theorem Ready.synced(h:Ready R):Ready R.synced:=by
 unfold RS.synced;split
 ·exact h
 ·obtain⟨h1,h2⟩:=Zbk h.fit R.M (by rw[h.n];omega) (.inl rfl)
  exact⟨h.geo,h2.n.trans h.n,h1,h.wait,h.wfew⟩
open Go.RowKit
theorem Ready.synced_s(h:Ready R):R.synced.s.cnt 1=R.s.cnt 1/\(∀m,R.s.small m->R.synced.s.small m):=by
 unfold RS.synced;split
 ·exact⟨rfl,fun m hm=>hm⟩
 ·obtain⟨h1,h2⟩:=Zbk h.fit R.M (by rw[h.n];omega) (.inl rfl)
  exact⟨h2.c1,h2.small⟩
theorem Zhy(h:RwIn w T A R lg vw X)(hr:Ready R)(hcnt:R.s.cnt 1≤999998000000)(hcnt2:R.s.cnt 2≤999998000000)(hsm:R.s.small 900000):
  Calls Tryz.prog 95 #[Zs (some ⟨A.q,0,none⟩)] w fun e w'=>e=.returned (.agg #[O Z 0,.int .u16 0])/\∃R' vw' X',PlacedR R.synced R'/\RPost w T A R' lg vw' X' w':=by
 have hb0:Below w.heap.size w (w.alloc (Zv #[O Z 0,.int .u16 0] 76)):=(Zb _ _).alloc (Za _) _;have htb:T w.heap.size=0:=Zae h.bay _ (Za _);have h0:=h.below hb0;have HSY:=hid (Zq4 h0 hr.n hr.fit hcnt2 (fun i hi x hx=>Zc (hsm i hi x hx) (by omega)));have HFI:Hid (∀W T',RwIn W T' A R.synced lg vw X->Calls Tryz.prog 33 #[Zs (some ⟨A.q,0,none⟩)] W fun e w'=>e=.returned (.agg #[O Z 0,.int .u16 0])/\∃R' vw' X',PlacedR R.synced R'/\RPost W T' A R' lg vw' X' w'):=fun W T' hW=>
  Znb hW hr.synced R.synced_sure (by rw[hr.synced_s.1];exact hcnt) (hr.synced_s.2 _ hsm)
 have c4:(w.alloc (Zv #[O Z 0,.int .u16 0] 76)).cell? ⟨A.q,4,none⟩=some (Zs (some ⟨A.wp,0,none⟩)):=h0.rw.cell 4;have hqlt:=h.rw.lt;have HTB:Hid (At (w.alloc (Zv #[O Z 0,.int .u16 0] 76)) w.heap.size #[O Z 0,.int .u16 0] 76):=At.new _ _ _;have H:=hid h;have HB0:=hid hb0;clear h hb0 h0 hr;go_enter Tryz.func95,Tryz.ntmps95
 go_wp2_with (first
  |(go_at_call 137;(with_reducible refine HSY.out.mono ?_);rintro e w4 ⟨rfl,hp4⟩;obtain⟨T4,k4,t4,c4'⟩:=hp4;have HK4:=hid k4;have HT4:=hid t4;have HC4:=hid c4';have d4:w4.cell? ⟨A.q,4,none⟩=some (Zs (some ⟨A.wp,0,none⟩)):=k4.rw.cell 4;have hqlt4:=k4.rw.lt;clear k4 c4 t4 c4')
  |(go_at_call 96;(with_reducible refine(Zbn w4 HK4.out.rw).mono ?_);rintro e w5 ⟨rfl,hb5⟩;have HB5:Hid (Below w4.heap.size w4 (w5.alloc (Zv #[O Z 0,.int .u16 0] 76))):=(hb5.alloc hb5.size _);have hN5:=At.new w5 #[O Z 0,.int .u16 0] 76;have m1:=hN5.cell 1;clear hN5 hb5)
  |(go_at_call 33;(with_reducible refine(HFI.out _ _ (HK4.out.below HB5.out)).mono ?_);rintro e w7 ⟨rfl,R',vw',X',hpl,hp7⟩;have HPR:=hid hpl;have hp07:=RPost.trans HT4.out HC4.out (RPost.after HB5.out hp7);have HP7:=hid hp07;have htb7:=hp07.keep HTB.out htb (H.out.low.ne (Za _));have k0:w7.cell? ⟨w.heap.size,0,none⟩=some (O Z 0):=htb7.cell 0;have k1:w7.cell? ⟨w.heap.size,1,none⟩=some (.int .u16 0):=htb7.cell 1;have f0:=htb7.free 0;have f1:=htb7.free 1;have HT7:=hid htb7;clear hpl hp7 hp07 htb7))
 have hF:=(HT7.out.set 0 (O Z 0)).set 1 (.int .u16 0);have r0:=hF.cell 0;have r1:=hF.cell 1;have HEND:Hid (∃R' vw' X',PlacedR R.synced R'/\RPost w T A R' lg vw' X' ((w7.setCell ⟨w.heap.size,0,none⟩ (O Z 0)).setCell ⟨w.heap.size,1,none⟩ (.int .u16 0))):=⟨R',vw',X',HPR.out,HP7.out.out HB0.out HT7.out (Za _) (by rw[Zaa];omega) htb (box2 _ _ _ _)⟩;clear hF HT7 HP7 HSY HFI HTB H HPR;(try simp only [Exit.inBlock,Exit.then]);refine bodyPost_ret (v:=.agg #[O Z 0,.int .u16 0]) ?_ rfl ⟨rfl,HEND.out⟩;rw[Zai rfl];go_simp;try rfl
end Go.Proofs.YtmemlkmnhcealaaGreat
