
/- Rows: patches laid in their place. -/
import Derived.Test.YtmemlkmnhcealaaGreatMrg23
set_option linter.unusedVariables false
set_option maxRecDepth 100000
set_option maxHeartbeats 16000000
namespace Go.Proofs.YtmemlkmnhcealaaGreat
open Value renaming int→O,slice→Zt
open IntKind renaming i64→Z
open Obj renaming cells→Zv
open Go.RowKit
open Lib(hid)
variable {A:Adr} {row:Int} {X:List OP} {B hm lp n:Nat} {T:Nat->Nat} {S:Nat->Prop} {lg:Option Nat} {g:PK->Option Sec} {dv:PK->Value} {R:RS} {va vw:Value} {W w:World}
structure LiftIn (w:World) (B N lp:Nat) (row:Int) (hm n:Nat) (g:PK->Option Sec) (dv:PK->Value) (va:Value) (A:List PK):Prop where
 at':LiftAt w B lp row hm n g dv va A
 lp':lp<N
 hm':hm<N
 va':∀q,va.ownBlock=some q->q<N
 dv':∀k s,g k=some s->∀q,(dv k).ownBlock=some q->q<N
theorem LiftIn.keep{w':World}{N:Nat}{A:List PK}(h:LiftIn w B N lp row hm n g dv va A)(hc:Chg S w w')(hS:∀q,B≤q->q<N->¬S q):LiftIn w' B N lp row hm n g dv va A:=by
 have a:=h.at';refine⟨⟨a.box.mod hc (hS lp a.blo h.lp'),a.map.mod hc (hS hm a.hlo h.hm'),fun k s hs=>Zad (a.dat k s hs) hc (fun q hq=>hS q ((a.dat k s hs).lt q hq).1 (h.dv' k s hs q hq)),Zad a.way hc (fun q hq=>hS q (a.way.lt q hq).1 (h.va' q hq)),a.has,a.nd,a.few,a.lfew,a.blo,a.hlo⟩,h.lp',h.hm',h.va',h.dv'⟩
theorem LiftAt.inN{A:List PK}(h:LiftAt w B lp row hm n g dv va A):LiftIn w B w.heap.size lp row hm n g dv va A:=
 ⟨h,h.box.lt,h.map.lt,fun q hq=>(h.way.lt q hq).2,fun k s hs q hq=>((h.dat k s hs).lt q hq).2⟩
structure RwLow (A:Adr) (vw:Value) (X:List OP) (n:Nat):Prop where
 q:A.q<n
 fg:A.fg<n
 wp:A.wp<n
 rp:A.rp<n
 vw:∀g,vw.ownBlock=some g->g<n
 X:∀x∈X,∀g,x.2.ownBlock=some g->g<n
theorem RwIn.low(h:RwIn W T A R lg vw X):RwLow A vw X W.heap.size:=
 ⟨h.rw.lt,h.fr.lt,h.wal.lt,h.ring.lt,fun g hg=>(h.wt.row.lt g hg).2,fun x hx g hg=>((h.wt.dat x hx).lt g hg).2⟩
theorem RwIn.apart{W':World}(h:RwIn W T A R lg vw X)(hl:RwLow A vw X n)(hc:Chg S W W')(hS:∀k,S k->T k=0/\n≤k):RwIn W' T A R lg vw X:=
 ⟨h.bay.keep hc (fun k hk e=>hk (hS k e).1),h.rw.mod hc (fun e=>by have:=(hS _ e).2;have:=hl.q;omega),h.fr.mod hc (fun e=>by have:=(hS _ e).2;have:=hl.fg;omega),h.wt.mod hc (fun g hg e=>by have:=(hS _ e).2;have:=hl.vw g hg;omega) (fun x hx g hg e=>by have:=(hS _ e).2;have:=hl.X x hx g hg;omega),h.wtT,h.wtX,h.wtM,h.wal.mod hc (fun e=>by have:=(hS _ e).2;have:=hl.wp;omega),h.ring.mod hc (fun e=>by have:=(hS _ e).2;have:=hl.rp;omega),h.tq,h.tf,h.tw,h.tr⟩
def wayN:Option Value->Nat
 |some (Zt _ n _)=>n
 |_=>0
structure PlAt (w wx:World) (T T1:Nat->Nat) (A:Adr) (R:RS) (lg:Option Nat) (vw:Value) (X:List OP) (B N lp hm n:Nat) (row:Int) (ps:List Pat) (s1:BaySt) (L1 A2 Aq:List PK) (g2:PK->Option Sec) (dv:PK->Value) (vq:Value):Prop where
 lift:LiftIn wx B N lp row hm n g2 dv vq A2
 val:∀k,k∈A2->g2 k=gTo ps ps.length k
 perm:(L1++A2).Perm Aq
 laid:Laid R R.s s1 L1 (gTo ps ps.length)
 rw:RwIn wx T1 A {R with s:=s1} lg vw X
 tags:∀q,q<N->T1 q=T q
 chg:Chg (fun q=>T q≠0) w wx
 box:At wx w.heap.size #[O Z 0,.int .u16 0] 76
 big:N≤wx.heap.size
theorem Zqf(h:RwIn w T A R lg vw X)(hg:geoIs R.M R.C R.S=true)(hn:R.s.n=R.M+1)(hf:Fit R.s R.G R.szs)(v:Value)(ps:List Pat)(hv:PSeg w v ps)(hp:∀p∈ps,InPlace R.M (R.S*R.C) p)(hfew:ps.length≤80000)(hcnt:R.s.cnt 1≤999998000000)(hsm:R.s.small 900000):
  Calls Tryz.prog 109 #[.pointer (some ⟨A.q,0,none⟩),v] w fun e w'=>e=.returned (.agg #[O Z 0,.int .u16 0])/\∃(s':BaySt) (L:List PK) (T':Nat->Nat),L.Nodup/\(∀k,k∈L↔∃p∈ps,pkOf p=k)/\Laid R R.s s' L (gTo ps ps.length)/\RwIn w' T' A {R with s:=s'} lg vw X/\(∀q,q<w.heap.size->T' q=T q)/\Chg (fun q=>T q≠0) w w':=by
 obtain⟨va,vc,rfl⟩:=hv.shape;have hb0:Below w.heap.size w (w.alloc (Zv #[O Z 0,.int .u16 0] 76)):=(Zb _ _).alloc (Za _) _;have htb:T w.heap.size=0:=Zae h.bay _ (Za _);have h0:=h.below hb0;have hM:R.M≤16:=by
  have hg:=hg;unfold geoIs at hg;simp only [Bool.and_eq_true,decide_eq_true_eq]at hg;omega
 have hrow:R.S*R.C≤4096:=by have:=Za0 hg;exact_mod_cast this.2
 have HV:=hid hv;have HP:=hid hp;have H:=hid h;have HBW:=hid hb0;have HTB:Hid (At (w.alloc (Zv #[O Z 0,.int .u16 0] 76)) w.heap.size #[O Z 0,.int .u16 0] 76):=At.new _ _ _
 have HGR:Hid (∀W,Calls Tryz.prog 40 #[.agg #[O Z R.M,O Z R.C,O Z R.S]] W fun e w'=>e=.returned (O Z (R.S*R.C:Nat))/\Below W.heap.size W w'):=fun W=>(Zfc R.M R.C R.S W).mono (by
  rintro e w' ⟨rfl,hb'⟩
  exact⟨by rw[Zg0 hg],hb'⟩)
 have HG:=hid hg;have HF:=hid hf;clear h hb0 h0 hv hp hg hf;go_enter Tryz.func109,Tryz.ntmps109;go_wp2;go_loopw [17] (fun q wr=>∃k:Nat,k≤ps.length/\q=O Z k/\Below (w.alloc (Zv #[O Z 0,.int .u16 0] 76)).heap.size (w.alloc (Zv #[O Z 0,.int .u16 0] 76)) wr) (fun q _=>ps.length-(intOf q).toNat);case atStart=>exact⟨0,by omega,rfl,Zb _ _⟩
 case round=>
  obtain⟨k,hk,rfl,hbw⟩:=hrel;have HBR:=hid hbw;have HBA:Hid (Below w.heap.size w wr):=HBW.out.trans (hbw.mono HBW.out.size);clear hbw;by_cases hkn:k<ps.length
  ·as_aux_lemma=>
    obtain⟨b,o,rfl,hlt,hx⟩:=PSeg.full (HV.out.below HBA.out) (by omega);obtain⟨d0,d1,u,d2,hu⟩:=hx k hkn;obtain⟨ua,uc,rfl⟩:=hu.shape;obtain⟨p1,p2,p3,p4,p5⟩:=HP.out _ (Zj hkn);have K1:Hid (k+1≤ps.length):=hkn;have HB1:Hid (Below w.heap.size w (wr.alloc (Zv #[O Z ps[k].m,O Z ps[k].r,.slice ua ps[k].d.length uc] 167))):=HBA.out.alloc HBA.out.size _;have HB2:Hid (Below (w.alloc (Zv #[O Z 0,.int .u16 0] 76)).heap.size (w.alloc (Zv #[O Z 0,.int .u16 0] 76)) (wr.alloc (Zv #[O Z ps[k].m,O Z ps[k].r,.slice ua ps[k].d.length uc] 167))):=HBR.out.alloc HBR.out.size _;have HBX:Hid (At (wr.alloc (Zv #[O Z ps[k].m,O Z ps[k].r,.slice ua ps[k].d.length uc] 167)) wr.heap.size #[O Z ps[k].m,O Z ps[k].r,.slice ua ps[k].d.length uc] 167):=At.new _ _ _;have hsz1:(wr.alloc (Zv #[O Z ps[k].m,O Z ps[k].r,.slice ua ps[k].d.length uc] 167)).heap.size=wr.heap.size+1:=Zaa _ _;have hsz2:=HBA.out.size;have hRH:=(H.out.below HB1.out);clear hx hu p5;generalize ps[k].d.length=nd at*;generalize ps[k].m=x at*;generalize ps[k].r=y at*;have HSX:Hid (∀W,Below (wr.alloc (Zv #[O Z x,O Z y,Zt ua nd uc] 167)).heap.size (wr.alloc (Zv #[O Z x,O Z y,Zt ua nd uc] 167)) W->W.cell? ⟨wr.heap.size,0,none⟩=some (O Z x)/\W.cell? ⟨wr.heap.size,1,none⟩=some (O Z y)/\W.cell? ⟨A.q,1,none⟩=some (O Z R.M)/\W.cell? ⟨A.q,2,none⟩=some (O Z R.C)/\W.cell? ⟨A.q,3,none⟩=some (O Z R.S)):=fun W hb=>⟨(HBX.out.below hb HBX.out.lt).cell 0,(HBX.out.below hb HBX.out.lt).cell 1,(hRH.below hb).rw.cell 1,(hRH.below hb).rw.cell 2,(hRH.below hb).rw.cell 3⟩
    have HIS:Hid (∀W,Below (wr.alloc (Zv #[O Z x,O Z y,Zt ua nd uc] 167)).heap.size (wr.alloc (Zv #[O Z x,O Z y,Zt ua nd uc] 167)) W->Calls Tryz.prog 112 #[.pointer (some ⟨A.q,0,none⟩),O Z x] W fun e w'=>e=.returned (.bool true)/\w'=W):=fun W hb=>(Zf1 x W (hRH.below hb).rw).mono (by
     rintro e w' ⟨rfl,rfl⟩
     refine⟨?_,rfl⟩
     have:(decide ((0:Int)≤x)&&decide (x<(R.M:Int)))=true:=by simp;omega
     rw[this])
    clear hRH;generalize R.M=M at*;generalize R.C=C at*;generalize R.S=S at*;generalize hSC:S*C=N at*;have hy1:decide (y<0)=false:=by simp;omega
    have hy2:decide ((N:Int)≤y)=false:=by simp;omega
    have hy3:¬(N:Int)≤y:=by omega
    have hy4:¬y<0:=by omega
    go_wp2;go_region_held3 (fun W=>W.cell? ⟨wr.heap.size,0,none⟩=some (O Z x)/\W.cell? ⟨wr.heap.size,1,none⟩=some (O Z y)/\W.cell? ⟨A.q,1,none⟩=some (O Z M)/\W.cell? ⟨A.q,2,none⟩=some (O Z C)/\W.cell? ⟨A.q,3,none⟩=some (O Z S))
     (first|exact HSX.out _ (Zb _ _)|exact HSX.out _ (Zb _ _).drew|exact HSX.out _ HBG.out)
     (first
      |(go_at_call 112;(with_reducible refine(HIS.out _ ?_).mono ?_);(first|exact(Zb _ _).drew|exact Zb _ _|exact below_drewN (Zb _ _) _|exact HBG.out);rintro e w1 ⟨rfl,hw1⟩;subst hw1)
      |(go_at_call 40;(with_reducible refine(HGR.out _).mono ?_);rintro e w2 ⟨rfl,hb2⟩;have HBG:Hid (Below (wr.alloc (Zv #[O Z x,O Z y,Zt ua nd uc] 167)).heap.size (wr.alloc (Zv #[O Z x,O Z y,Zt ua nd uc] 167)) w2):=(Zb _ _).drew.trans hb2;clear hb2))
    go_wp2;exact⟨⟨k+1,K1.out,by go_num,HB2.out.trans (HBG.out.mono HB2.out.size)⟩,by simp[intOf];omega⟩
  ·obtain rfl:k=ps.length:=by omega
   obtain⟨wl,rfl⟩:∃wl:World,wl=wr:=⟨_,rfl⟩;have HLN:=hid (Ztt wl (fun _=>undef))
   go_wp2_with (first
    |(go_at_call 151;(with_reducible refine HLN.out.mono ?_);rintro e w2 ⟨lp,hm,rfl,hl2,hb2⟩;have HL2:=hid hl2;have HB2:=hid hb2;clear hl2 hb2))
   have hszB:=HBA.out.size;go_loopw [53] (fun q wx=>∃k:Nat,k≤ps.length/\q=O Z k/\Below wl.heap.size wl wx/\∃dv va A,LiftAt wx wl.heap.size lp 0 hm k (gTo ps k) dv va A) (fun q _=>ps.length-(intOf q).toNat);case atStart=>exact⟨0,by omega,rfl,HB2.out,_,_,_,HL2.out⟩
   case round=>
    obtain⟨k,hk,rfl,hbx,dv,vq,Aq,hla⟩:=hrel;have HBX:=hid hbx;have HLA:=hid hla;have HBZ:Hid (Below w.heap.size w wr):=HBA.out.trans (hbx.mono hszB);clear hbx hla HL2 HB2;by_cases hkn:k<ps.length
    ·as_aux_lemma=>
      obtain⟨b,o,rfl,hlt,hx⟩:=PSeg.full (HV.out.below HBZ.out) (by omega);obtain⟨d0,d1,u,d2,hu⟩:=hx k hkn;obtain⟨ua,uc,hue⟩:=hu.shape;subst hue;have hin:=HP.out _ (Zj hkn);obtain⟨e1,e2,e3,e4⟩:=Zv6 hin hM hrow;have hl:=hin.len;have K1:Hid (k+1≤ps.length):=hkn;have hub:∀a m c,(Value.slice ua 128 uc)=Zt (some a) m c->a.block<wl.heap.size:=by
       obtain⟨b',o',ha',hlt',hx'⟩:=PSeg.full HV.out (by omega);simp only [Zg,Addr.mk.injEq]at ha';obtain⟨rfl,rfl,-⟩:=ha';obtain⟨-,-,u',d2',hu'⟩:=hx' k hkn;have hcell:wr.cell? ⟨b,o+k*3+2,none⟩=w.cell? ⟨b,o+k*3+2,none⟩:=HBZ.out.cell (p:=⟨b,o+k*3+2,none⟩) hlt';rw[hcell,d2',hl]at d2;simp only [Zg]at d2;subst d2;obtain⟨a2,cap2,hv2,-,h2⟩:=hu';intro a m c e;simp only [Zn]at e hv2;rcases h2 with h2|⟨b2,off2,ha2,hlt2,-⟩
       ·rw[h2]at hl;simp at hl
       ·have:a=⟨b2,off2,none⟩:=by
         have:=e.1.symm.trans (hv2.1.trans ha2);simpa using this
        rw[this];show b2<_
        omega
      rw[hl]at d2 hu;have HLP:Hid (∀W,Below wr.heap.size wr W->Calls Tryz.prog 152 #[.pointer (some ⟨lp,0,none⟩),.agg #[O Z (ps[k]'hkn).m,O Z (ps[k]'hkn).r,Zt ua 128 uc]] W fun e w'=>e=.returned (.int .u16 0)/\(∃dv va A,LiftAt w' wl.heap.size lp 0 hm (k+1) (gTo ps (k+1)) dv va A)/\Below wl.heap.size wl w'):=fun W hb=>by
       rw[e1,e2]
       exact(Zun (HLA.out.below hb) (Zc HBX.out.size hb.size) (pkOf (ps[k]'hkn)) (Zt ua 128 uc) (ps[k]'hkn).d (hu.below hb) hub hl (by omega)).mono (by
        rintro e w' ⟨rfl,dv',va',A',h1,-,h3⟩
        refine⟨rfl,⟨dv',va',A',?_⟩,(HBX.out.trans (hb.mono HBX.out.size)).trans h3⟩
        have e:gTo ps (k+1)=fun i=>if i=pkOf (ps[k]'hkn)then some (ps[k]'hkn).d else gTo ps k i:=by
         funext i
         show(if i=pkOf (ps.getD k pat0)then some (ps.getD k pat0).d else gTo ps k i)=_
         rw[Zbx ps k hkn]
        rw[e]
        exact h1)
      clear hx hu hub e1 e2 e3 e4 hin;generalize ps[k].m=x at*;generalize ps[k].r=y at*
      go_wp2_with (first
       |(go_at_call 152;(with_reducible refine(HLP.out _ ((Zb _ _).alloc (Za _) _)).mono ?_);rintro e w8 ⟨rfl,hl8,hb8⟩;have HL8:=hid hl8;have HB8:=hid hb8;clear hl8 hb8))
      exact⟨⟨k+1,K1.out,by go_num,HB8.out,HL8.out⟩,by simp[intOf];omega⟩
    ·obtain rfl:k=ps.length:=by omega
     obtain⟨wq,rfl⟩:∃wq:World,wq=wr:=⟨_,rfl⟩;have hBZ:=HBZ.out.size;have hMEM:∀k,k∈Aq↔∃p∈ps,pkOf p=k:=fun k=>by
      rw[HLA.out.has k,Zml ps k ps.length (Za _),List.take_length]
     have HMEM:=hid hMEM;have HND:=hid HLA.out.nd;have hAl:Aq.length≤ps.length:=HLA.out.lfew;have HLOW:=hid H.out.low;have HTAG:Hid (∀q,w.heap.size≤q->T q=0):=fun q hq=>Zae H.out.bay q hq
     have HP0:Hid (PlAt w wq T T A R lg vw X wl.heap.size wq.heap.size lp hm ps.length 0 ps R.s [] Aq Aq (gTo ps ps.length) dv vq):=by
      have hR:=H.out.below HBZ.out;refine⟨HLA.out.inN,fun k _=>rfl,List.Perm.refl _,Laid.nil HF.out,hR,fun _ _=>rfl,Zm HBZ.out _,?_,Za _⟩;exact(HTB.out.below HBR.out HTB.out.lt).below HBX.out (HTB.out.below HBR.out HTB.out.lt).lt
     clear HLA hMEM;go_wp2;go_loopw [13] (fun z wx=>∃(T1:Nat->Nat) (row:Int) (s1:BaySt) (L1 A2:List PK) (g2:PK->Option Sec) (v2:Value),PlAt w wx T T1 A R lg vw X wl.heap.size wq.heap.size lp hm ps.length row ps s1 L1 A2 Aq g2 dv v2) (fun z wx=>wayN (wx.cell? ⟨lp,2,none⟩));case atStart=>exact⟨_,_,_,_,_,_,_,HP0.out⟩
     case round=>
      obtain⟨T1,row,s1,L1,A2,g2,v2,hpl⟩:=hrel;have HPL:=hid hpl;have hBx:wl.heap.size≤wr.heap.size:=Zc HBX.out.size hpl.big;clear hpl HP0;by_cases hA2:A2= []
      ·as_aux_lemma=>
        subst hA2;have HNX:=hid (Zir HPL.out.lift.at' hBx);have HT1lp:Hid (T1 lp=0):=by
         show T1 lp=0
         rw[HPL.out.tags lp HPL.out.lift.lp'];exact HTAG.out lp (Zc hszB HPL.out.lift.at'.blo)
        have HT1tb:Hid (T1 w.heap.size=0):=by
         show T1 w.heap.size=0
         rw[HPL.out.tags _ (by have:=(HTB.out.below HBR.out HTB.out.lt).lt;have:=HBX.out.size;omega)];exact htb
        have hlplo:w.heap.size≤lp:=Zc hszB HPL.out.lift.at'.blo
        go_wp2_with (first
         |(go_at_call 153;(with_reducible refine HNX.out.mono ?_);rintro e w5 ⟨rfl,hc5⟩;have HC5:=hid hc5;have HR5:=hid (HPL.out.rw.apart HLOW.out hc5 (fun k e=>by rw[e];exact⟨HT1lp.out,hlplo⟩));have hbx5:=HPL.out.box.mod hc5 (fun e=>Zaw HPL.out.box HPL.out.lift.at'.box (by decide) e);have k0:w5.cell? ⟨w.heap.size,0,none⟩=some (O Z 0):=hbx5.cell 0;have k1:w5.cell? ⟨w.heap.size,1,none⟩=some (.int .u16 0):=hbx5.cell 1;have f0:=hbx5.free 0;have f1:=hbx5.free 1;have hltb:=hbx5.lt;have HBX5:=hid hbx5;clear hc5 hbx5))
        have hst:Chg (fun q=>q=w.heap.size) w5 ((w5.setCell ⟨w.heap.size,0,none⟩ (O Z 0)).setCell ⟨w.heap.size,1,none⟩ (.int .u16 0)):=Zk (S:=fun q=>q=w.heap.size) (Zk (S:=fun q=>q=w.heap.size) (Zl _ _) ⟨w.heap.size,0,none⟩ (.inl rfl) _) ⟨w.heap.size,1,none⟩ (.inl rfl) _;have hF:=((HBX5.out.set 0 (O Z 0)).set 1 (.int .u16 0)).alloc (Zv #[O Z 0,O Z 0,Zt none 0 0] 167);have r0:=hF.cell 0;have r1:=hF.cell 1;have HEND:Hid (∃(s':BaySt) (L:List PK) (T':Nat->Nat),L.Nodup/\(∀k,k∈L↔∃p∈ps,pkOf p=k)/\Laid R R.s s' L (gTo ps ps.length)/\RwIn (((w5.setCell ⟨w.heap.size,0,none⟩ (O Z 0)).setCell ⟨w.heap.size,1,none⟩ (.int .u16 0)).alloc (Zv #[O Z 0,O Z 0,Zt none 0 0] 167)) T' A {R with s:=s'} lg vw X/\(∀q,q<w.heap.size->T' q=T q)/\Chg (fun q=>T q≠0) w (((w5.setCell ⟨w.heap.size,0,none⟩ (O Z 0)).setCell ⟨w.heap.size,1,none⟩ (.int .u16 0)).alloc (Zv #[O Z 0,O Z 0,Zt none 0 0] 167))):=by
         have hpp:=HPL.out.perm;rw[List.append_nil]at hpp;refine⟨s1,L1,T1,hpp.nodup_iff.2 HND.out,fun k=>by rw[hpp.mem_iff];exact HMEM.out k,HPL.out.laid,?_,fun q hq=>HPL.out.tags q (by omega),?_⟩
         ·exact(HR5.out.apart HLOW.out hst (fun k e=>by rw[e];exact⟨HT1tb.out,Za _⟩)).below ((Zb _ _).alloc (Za _) _)
         ·exact(Zaj (Zaj HPL.out.chg HC5.out (fun q hq e=>by omega)) hst (fun q hq e=>by omega)).alloc _
        clear hst hF HBX5 HR5 HC5 HPL HNX HMEM HND HLOW HTAG HP HV H HBW HTB HBR HBA HBX HBZ HF HG HGR;(try simp only [Exit.inBlock,Exit.then]);refine bodyPost_ret (v:=.agg #[O Z 0,.int .u16 0]) ?_ rfl ⟨rfl,HEND.out⟩;rw[Zai rfl];go_simp;try rfl
      ·have HNX:=hid (Zin HPL.out.lift.at' hBx hA2)
       have HMEAS:Hid (wayN (wr.cell? ⟨lp,2,none⟩)=A2.length):=by
        have h2:=HPL.out.lift.at'.box.cell 2;obtain⟨a2,c2,hv2⟩:=Zab HPL.out.lift.at'.way;show wayN _=_
        rw[h2];show wayN (some v2)=_
        rw[hv2];show(A2.map toPL).length=_
        rw[Zp]
       go_wp2_with (first
        |(go_at_call 153;(with_reducible refine HNX.out.mono ?_);rintro e w5 ⟨k,s,v5,A5,rfl,hpk,hgk,ho5,hl5,hbb5,hvo,hc5⟩;obtain⟨da,dc,hdv⟩:=Zab ho5;rw[hdv];rw[hdv]at ho5;have HDV:=hid hdv;have HPK:=hid hpk;have HGK:=hid hgk;have HO5:=hid ho5;have HL5:=hid hl5;have HVO:=hid hvo;have HC5:=hid hc5;clear hdv hpk hgk ho5 hl5 hbb5 hvo hc5))
       have hmk:∃p∈ps,pkOf p=k:=(HMEM.out k).1 (HPL.out.perm.mem_iff.1 (List.mem_append_right _ (HPK.out.mem_iff.1 List.mem_cons_self)));obtain⟨p,hpp,hpk⟩:=hmk;obtain⟨-,-,hk1,hk2⟩:=Zv6 (HP.out p hpp) hM hrow;rw[hpk]at hk1 hk2;clear hpp hpk;have HS5:Hid (∀q,liftS lp hm v2 q->T1 q=0/\w.heap.size≤q):=fun q hq=>by
        have hin:=HPL.out.lift;have hqN:q<wq.heap.size/\wl.heap.size≤q:=by
         rcases hq with rfl|rfl|hq
         ·exact⟨hin.lp',hin.at'.blo⟩
         ·exact⟨hin.hm',hin.at'.hlo⟩
         ·exact⟨hin.va' q hq,(hin.at'.way.lt q hq).1⟩
        rw[HPL.out.tags q hqN.1];exact⟨HTAG.out q (by omega),by omega⟩
       have HR5:=hid (HPL.out.rw.apart HLOW.out HC5.out HS5.out);have hsz5:=HC5.out.size;have HL6:Hid (LiftIn (w5.alloc (Zv #[O Z (k.1.val:Int),O Z (k.2.val:Int),Zt da 128 dc] 167)) wl.heap.size wq.heap.size lp k.2.val hm ps.length (fun i=>if i=k then none else g2 i) dv v5 A5):=by
        have hin:=HPL.out.lift;refine⟨HL5.out.below ((Zb _ _).alloc (Za _) _),hin.lp',hin.hm',fun q hq=>hin.va' q (by rw[<-HVO.out];exact hq),fun i t ht q hq=> ?_⟩;by_cases hik:i=k
        ·simp[hik]at ht
        ·simp only [hik,if_false]at ht
         exact hin.dv' i t ht q hq
       have HR6:Hid (RwIn (w5.alloc (Zv #[O Z (k.1.val:Int),O Z (k.2.val:Int),Zt da 128 dc] 167)) T1 A {R with s:=s1} lg vw X):=HR5.out.below ((Zb _ _).alloc (Za _) _);have HBX6:Hid (At (w5.alloc (Zv #[O Z (k.1.val:Int),O Z (k.2.val:Int),Zt da 128 dc] 167)) w5.heap.size #[O Z (k.1.val:Int),O Z (k.2.val:Int),Zt da 128 dc] 167):=At.new _ _ _
       have HTB6:Hid (At (w5.alloc (Zv #[O Z (k.1.val:Int),O Z (k.2.val:Int),Zt da 128 dc] 167)) w.heap.size #[O Z 0,.int .u16 0] 76):=(HPL.out.box.mod HC5.out (fun e=>by
        rcases e with e|e|e
        ·exact Zaw HPL.out.box HPL.out.lift.at'.box (by decide) e
        ·exact Zcv HPL.out.lift.at'.map HPL.out.box e.symm
        ·exact Za4 HPL.out.lift.at'.way HPL.out.box (by decide) e)).alloc _
       have HO6:Hid ((w5.alloc (Zv #[O Z (k.1.val:Int),O Z (k.2.val:Int),Zt da 128 dc] 167)).ownsRow wl.heap.size 5 1 (Zt da 128 dc) 128 (ucells s)):=HO5.out.alloc _;have HCG6:Hid (Chg (fun q=>T q≠0) w (w5.alloc (Zv #[O Z (k.1.val:Int),O Z (k.2.val:Int),Zt da 128 dc] 167))):=(Zaj HPL.out.chg HC5.out (fun q hq e=>by have:=(HS5.out q e).2;omega)).alloc _;have HPERM:Hid (((k::L1)++A5).Perm Aq):=by
        refine List.Perm.trans ?_ HPL.out.perm;exact List.Perm.trans List.perm_middle.symm (HPK.out.append_left L1)
       have HVAL:Hid (∀i,i∈A5->(fun i=>if i=k then none else g2 i) i=gTo ps ps.length i):=fun i hi=>by
        have hnd:=(HPERM.out.nodup_iff.2 HND.out);have hik:i≠k:=fun e=>by
         have h1:=(List.nodup_append.1 hnd).2.2 k List.mem_cons_self i hi;exact h1 e.symm
        show(if i=k then none else g2 i)=_
        rw[Ze hik];exact HPL.out.val i (HPK.out.mem_iff.1 (List.mem_cons_of_mem _ hi))
       have HGV:Hid (gTo ps ps.length k=some s):=by
        rw[<-HPL.out.val k (HPK.out.mem_iff.1 List.mem_cons_self)];exact HGK.out
       have hlen5:A5.length+1=A2.length:=by
        have:=HPK.out.length_eq;simpa using this
       have hHD:R.dn k.1.val k.2.val=({R with s:=s1}:RS).dn k.1.val k.2.val:=rfl;have HDW:=hid (Zct k.1.val k.2.val _ HR6.out.rw HR6.out.fr hk1);rw[<-hHD]at HDW;have hbig5:wq.heap.size≤w5.heap.size:=Zc HPL.out.big hsz5;have HM6:Hid (wayN ((w5.alloc (Zv #[O Z (k.1.val:Int),O Z (k.2.val:Int),Zt da 128 dc] 167)).cell? ⟨lp,2,none⟩)=A5.length):=by
        have h2:=HL6.out.at'.box.cell 2;obtain⟨a2,c2,hv2⟩:=Zab HL6.out.at'.way;show wayN _=_
        rw[h2];show wayN (some v5)=_
        rw[hv2];show(A5.map toPL).length=_
        rw[Zp]
       clear HNX hHD HS5;cases hdn:R.dn k.1.val k.2.val
       ·have HDN:=hid hdn
        rw[hdn]at HDW;clear hdn;generalize hw6:w5.alloc (Zv #[O Z (k.1.val:Int),O Z (k.2.val:Int),Zt da 128 dc] 167)=w6 at*;have hsz6:w6.heap.size=w5.heap.size+1:=by rw[<-hw6];exact Zaa _ _
        have HSX:Hid (∀W:World,W.heap=w6.heap->W.cell? ⟨A.q,0,none⟩=some (.pointer (some ⟨A.b,0,none⟩))/\W.cell? ⟨w5.heap.size,0,none⟩=some (O Z (k.1.val:Int))/\W.cell? ⟨w5.heap.size,1,none⟩=some (O Z (k.2.val:Int))/\W.cell? ⟨w5.heap.size,2,none⟩=some (Zt da 128 dc)):=fun W hW=>by
         have e:∀a,W.cell? a=w6.cell? a:=fun a=>by unfold World.cell?;rw[hW]
         rw[e,e,e,e];exact⟨HR6.out.rw.cell 0,HBX6.out.cell 0,HBX6.out.cell 1,HBX6.out.cell 2⟩
        have hln:s.length=128:=by
         obtain⟨p,hpp,-,hpd⟩:=Zm7 ps k s ps.length (Za _) HGV.out;rw[<-hpd];exact(HP.out p hpp).len
        have hsn:s1.n=R.M+1:=by rw[HPL.out.laid.n];exact hn
        have hl1:L1.length≤ps.length:=by
         have:=HPL.out.perm.length_eq;rw[Zo]at this;omega
        have hG:R.G k.1.val:=.inr ⟨hk1,k.2.val,hk2,HDN.out⟩;have hwf:=Zb4 HPL.out.laid.fit k.1.val (1+k.2.val) s (by omega) hG (by unfold RS.szs;rw[Zf hk1];omega) hln;have hkL:k∉L1:=fun e=>by
         have hnd:=HPERM.out.nodup_iff.2 HND.out;rw[List.cons_append,List.nodup_cons]at hnd;exact hnd.1 (List.mem_append_left _ e)
        have HLD:Hid (Laid R R.s (s1.put k.1.val (1+k.2.val) s) (k::L1) (gTo ps ps.length)):=HPL.out.laid.put k s (by unfold RS.upAt;rw[HDN.out];rfl) hkL HGV.out hln hk1 hk2 hsn;have hown:=HO6.out;have hdB:∀a n c,(Value.slice da 128 dc)=Zt (some a) n c->T1 a.block=0:=fun a n c e=>by
         have hq:(dv k).ownBlock=some a.block:=by rw[HDV.out,e];rfl
         have hN:=HPL.out.lift.dv' k s HGK.out a.block hq;have hlo:=(hown.lt a.block (by rw[e];rfl)).1;rw[HPL.out.tags _ hN];exact HTAG.out _ (by omega)
        have HWR:Hid (∀W:World,W.heap=w6.heap->Below w6.heap.size w6 W->Calls Tryz.prog 43 #[.pointer (some ⟨A.b,0,none⟩),O Z (k.1.val:Int),O Z (1+(k.2.val:Int)),Zt da 128 dc] W fun e w'=>e=.returned (.int .u16 0)/\BayPost w6 T1 A.b (s1.put k.1.val (1+k.2.val) s) w'):=fun W _ hb=>by
         have hc:=Zh4 (HR6.out.below hb).bay (k.1.val:Int) (1+(k.2.val:Int)) (Zt da 128 dc) s (by show s1.cnt 1≤_;rw[HPL.out.laid.c1];have:=List.length_filter_le R.upAt L1;omega) (fun i hi x hx=>Zc (HPL.out.laid.small _ hsm i hi x hx) (by omega)) (Zao (base:=wl.heap.size) (by rw[hln];exact Zaf hown hb (Za _))) hdB;rw[show(1+(k.2.val:Int))=((1+k.2.val:Nat):Int) by omega]at hc ⊢;have e2:({R with s:=s1}:RS).s.write (k.1.val:Int) ((1+k.2.val:Nat):Int) s=(0,s1.put k.1.val (1+k.2.val) s):=hwf;rw[e2]at hc;refine hc.mono ?_;rintro e w' ⟨rfl,hp⟩;exact⟨rfl,BayPost.trans (fun _ _=>rfl) (Zm hb _) hp⟩
        clear hwf hown hdB;as_aux_lemma=>
         go_wp2_with (first
          |(go_at_call 114;(with_reducible refine HDW.out.mono ?_);rintro e w7 ⟨rfl,hw7⟩;subst w7))
         have HT1b:Hid (T1 w5.heap.size=0):=Zae HR5.out.bay _ (Za _);have HT1tb:Hid (T1 w.heap.size=0):=by
          show T1 w.heap.size=0
          rw[HPL.out.tags _ (by have:=(HTB.out.below HBR.out HTB.out.lt).lt;have:=HBX.out.size;omega)];exact htb
         have HNEW:Hid (∀w8,BayPost w6 T1 A.b (s1.put k.1.val (1+k.2.val) s) w8->(∃T2,PlAt w w8 T T2 A R lg vw X wl.heap.size wq.heap.size lp hm ps.length k.2.val ps (s1.put k.1.val (1+k.2.val) s) (k::L1) A5 Aq (fun i=>if i=k then none else g2 i) dv v5)/\(w8.cell? ⟨A.q,0,none⟩=some (.pointer (some ⟨A.b,0,none⟩))/\w8.cell? ⟨w5.heap.size,0,none⟩=some (O Z (k.1.val:Int))/\w8.cell? ⟨w5.heap.size,1,none⟩=some (O Z (k.2.val:Int))/\w8.cell? ⟨w5.heap.size,2,none⟩=some (Zt da 128 dc))/\wayN (w8.cell? ⟨lp,2,none⟩)=A5.length):=fun w8 hp8=>by
          obtain⟨T2,z1,z2,z3⟩:=hp8;have hrw:=HR6.out.turn z1 z2 z3;have hbx:=HBX6.out.mod z3 (fun e=>e HT1b.out);have hlf:=HL6.out.keep z3 (fun q hq1 hq2 e=>e (by rw[HPL.out.tags q hq2];exact HTAG.out q (by omega)));refine⟨⟨T2,hlf,HVAL.out,HPERM.out,HLD.out,hrw,fun q hq=> ?_,Zaj HCG6.out z3 (fun q hq e=>by rw[<-HPL.out.tags q (by omega)];exact e),HTB6.out.mod z3 (fun e=>e HT1tb.out),Zc (by omega) z3.size⟩,⟨hrw.rw.cell 0,hbx.cell 0,hbx.cell 1,hbx.cell 2⟩,?_⟩
          ·rw[z2 q (by omega)];exact HPL.out.tags q hq
          ·have h2:=hlf.at'.box.cell 2
           obtain⟨a2,c2,hv2⟩:=Zab hlf.at'.way;rw[h2];show wayN (some v5)=_
           rw[hv2];show(A5.map toPL).length=_
           rw[Zp]
         have hk2I:(k.2.val:Int)≤4096:=by omega
         have hwr:IntKind.i64.wrap (1+(k.2.val:Int))=1+(k.2.val:Int):=by rw[IntKind.wrap_i64];omega
         go_region_held3 (fun W=>W.cell? ⟨A.q,0,none⟩=some (.pointer (some ⟨A.b,0,none⟩))/\W.cell? ⟨w5.heap.size,0,none⟩=some (O Z (k.1.val:Int))/\W.cell? ⟨w5.heap.size,1,none⟩=some (O Z (k.2.val:Int))/\W.cell? ⟨w5.heap.size,2,none⟩=some (Zt da 128 dc))
          (first|exact HSX.out w6.drew rfl|exact HNW.out.2.1)
          (first
           |(go_at_call 43;(with_reducible refine(HWR.out w6.drew rfl (Zb _ _).drew).mono ?_);rintro e w8 ⟨rfl,hp8⟩;have HNW:=hid (HNEW.out w8 hp8);clear hp8))
         go_wp2;obtain⟨T2,hT2⟩:=HNW.out.1;refine⟨⟨_,_,_,_,_,_,_,hT2⟩,?_⟩;rw[HMEAS.out,HNW.out.2.2];omega
       ·have HDN:=hid hdn
        rw[hdn]at HDW;clear hdn;have HN:Hid (PlAt w (w5.alloc (Zv #[O Z (k.1.val:Int),O Z (k.2.val:Int),Zt da 128 dc] 167)) T T1 A R lg vw X wl.heap.size wq.heap.size lp hm ps.length k.2.val ps s1 (k::L1) A5 Aq (fun i=>if i=k then none else g2 i) dv v5):=
         ⟨HL6.out,HVAL.out,HPERM.out,HPL.out.laid.skip k (by unfold RS.upAt;rw[HDN.out];rfl),HR6.out,HPL.out.tags,HCG6.out,HTB6.out,by rw[Zaa];omega⟩
        as_aux_lemma=>
         go_wp2_with (first
          |(go_at_call 114;(with_reducible refine HDW.out.mono ?_);rintro e w7 ⟨rfl,hw7⟩;subst hw7))
         refine⟨⟨_,_,_,_,_,_,_,HN.out⟩,?_⟩;rw[HMEAS.out,HM6.out];omega
end Go.Proofs.YtmemlkmnhcealaaGreat
