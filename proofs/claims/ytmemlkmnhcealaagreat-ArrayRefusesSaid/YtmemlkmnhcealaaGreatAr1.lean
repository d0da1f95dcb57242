/- What the law wants besides. -/
import Derived.Test.YtmemlkmnhcealaaGreatMrg33
import Derived.Deep.MidRow
import Derived.Deep.WholeRow
import Derived.OneCell
import Derived.OwnWalk
import Derived.WalkKit
import Derived.WalkSmall
set_option linter.unusedVariables false
set_option maxRecDepth 100000
set_option maxHeartbeats 8000000
namespace Go.Proofs.YtmemlkmnhcealaaGreat
open Go.RowKit
theorem Zyn (x y:UInt8):(((x.toNat:Nat):Int) !=((y.toNat:Nat):Int))= !decide (x=y):=by
 by_cases h:x=y
 ·subst h;simp
 ·have:¬x.toNat=y.toNat:=fun e=>h (UInt8.toNat_inj.1 e)
  have h2:¬((x.toNat:Nat):Int)=((y.toNat:Nat):Int):=by omega
  simp[h,h2]
theorem Zxm {α:Type} {l m:List α} {k:Nat} (h:l.take k=m.take k) (hl:k<l.length) (hm:k<m.length) (he:l[k]=m[k]):l.take (k+1)=m.take (k+1):=by
 rw[List.take_succ_eq_append_getElem hl,List.take_succ_eq_append_getElem hm,h,he]
theorem _root_.Go.Seg.take {w:World} {a:Option Addr} {cap:Nat} {l:List UInt8} (h:Seg w (.slice a l.length cap) l) (n:Nat) (hn:n≤l.length):Seg w (.slice a n cap) (l.take n):=by
 obtain⟨a',cap',hv,h1,h2⟩:=h;simp only [Value.slice.injEq]at hv;obtain⟨rfl,_,rfl⟩:=hv;have e:(l.take n).length=n:=by simp;omega
 refine⟨a,cap,by rw[e],⟨fun h=>⟨by rw[e];have:=(h1.1 h).1;omega,(h1.1 h).2⟩,by rw[e];have:=h1.2;omega⟩,?_⟩;rcases h2 with rfl|⟨b,off,ha,hb,hc⟩
 ·left;simp
 ·refine .inr ⟨b,off,ha,hb,fun j hj=> ?_⟩
  rw[hc j (by omega),List.getElem_take]
theorem _root_.Go.Seg.new (w:World) (l:List UInt8) (t:TypeId) (cap:Nat) (hcap:l.length≤cap) (fr:Nat×Nat:=(0,0)):
  Seg (w.alloc (.cells (l.map fun u=>Value.int .u8 ((u.toNat:Nat):Int)).toArray t fr)) (.slice (some ⟨w.heap.size,0,none⟩) l.length cap) l:=
 ⟨_,cap,rfl,⟨fun h=>by simp at h,hcap⟩,.inr ⟨w.heap.size,0,rfl,by rw[Zaa];omega,fun j h=>by
  rw[cell_of_row _ _ _ _ t fr (heap_alloc_new w _),Nat.zero_add];simp[h]⟩⟩
theorem Zyg (u v:Value) (l m:List UInt8) (w:World) (hl:l.length≤9223372036854775807) (hm:m.length≤9223372036854775807) (hu:Seg w u l) (hv:Seg w v m):
  Calls Tryz.prog 13 #[u,v] w fun e w'=>e=.returned (.bool (decide (l=m)))/\Below w.heap.size w w':=by
 obtain⟨a,c,rfl⟩:=hu.shape;obtain⟨b,d,rfl⟩:=hv.shape;by_cases hlen:l.length=m.length
 ·have hne:((l.length:Int) !=(m.length:Int))=false:=by simp;omega
  go_enter Tryz.func13,Tryz.ntmps13;go_wp2_with fail;go_loopw [5] (fun i wr=>∃k:Nat,k≤l.length/\i=.int .i64 k/\l.take k=m.take k/\Below w.heap.size w wr) (fun i _=>l.length-(intOf i).toNat);case atStart=>exact⟨0,Nat.zero_le _,rfl,rfl,Below.refl _ _⟩
  case round=>
   obtain⟨k,hk,rfl,htake,hbw⟩:=hrel;have Hlen:=Lib.hid hlen;have Htake:=Lib.hid htake;clear htake hlen;by_cases hlt:k<l.length
   ·have hlt':k<m.length:=by have:=Hlen.out;omega
    obtain⟨b1,o1,c1,e1,hb1,h1⟩:=Seg.full (hu.below hbw) (by omega);obtain⟨b2,o2,c2,e2,hb2,h2⟩:=Seg.full (hv.below hbw) (by omega);simp only [Value.slice.injEq]at e1 e2;obtain⟨rfl,_,rfl⟩:=e1;obtain⟨rfl,_,rfl⟩:=e2;have c1:=h1 k hlt;have c2:=h2 k hlt';have hx:=Zyn l[k] m[k];clear h1 h2 hu hv;by_cases heq:l[k]=m[k]
    ·rw[decide_eq_true heq]at hx
     have Hn:=Lib.hid (Zxm Htake.out hlt hlt' heq);generalize l[k]=x at*;generalize m[k]=y at*;clear heq;go_wp2;go_quiet (fail);go_wp2;go_roundw;case rel=>exact⟨k+1,by omega,by go_num,Hn.out,below_drewN hbw _⟩
     case measure=>simp[intOf];omega
    ·rw[decide_eq_false heq]at hx
     have Hn:=Lib.hid (show decide (l=m)=false from decide_eq_false fun e=>heq (by subst e;rfl));generalize l[k]=x at*;generalize m[k]=y at*;clear heq;go_wp2;go_quiet (fail);go_wp2;go_ret;exact⟨by rw[Hn.out];rfl,below_drewN hbw _⟩
   ·have Hn:=Lib.hid (show decide (l=m)=true from decide_eq_true (by
     have h:=Htake.out
     rw[List.take_of_length_le (by omega),List.take_of_length_le (by have:=Hlen.out;omega)]at h
     exact h))
    clear hu hv
    go_wp2
    go_ret
    exact⟨by rw[Hn.out];rfl,hbw⟩
 ·have hne:((l.length:Int) !=(m.length:Int))=true:=by simp;omega
  have Hn:=Lib.hid (show decide (l=m)=false from decide_eq_false fun e=>hlen (by rw[e]));clear hlen hu hv;go_enter Tryz.func13,Tryz.ntmps13;go_wp2;go_ret;exact⟨by rw[Hn.out];rfl,Below.refl _ _⟩
theorem Zya {w:World} {T:Nat->Nat} {A:Adr} {R:RS} {lg:Option Nat} {vw:Value} {X:List OP} {V:Nat->Nat->Sec} (h:RwIn w T A R lg vw X) (hs:Sound R V) (b:Nat) (hb:b<R.S*R.C*(R.M-1)) (hcnt:R.s.cnt 0≤999998000000) (hsm:R.s.small 1000000):
  Calls Tryz.prog 36 #[.pointer (some ⟨A.q,0,none⟩),.int .i64 b] w (SecPost w T A R lg vw X (V (membOf R.M R.C b) (rowOf R.M R.C b)) (R.rc (membOf R.M R.C b) (rowOf R.M R.C b))):=by
 have hb0:Below w.heap.size w (w.alloc (.cells #[.int .i64 0,.int .u16 0] 76)):=(Below.refl _ _).alloc (Nat.le_refl _) _;have htb:T w.heap.size=0:=Zae h.bay _ (Nat.le_refl _);have h0:=h.below hb0;have HTB:Hid (At (w.alloc (.cells #[.int .i64 0,.int .u16 0] 76)) w.heap.size #[.int .i64 0,.int .u16 0] 76):=At.new _ _ _;have L:=lies hs.geo hb;have HOF:Hid (Calls Tryz.prog 67 #[.agg #[.int .i64 R.M,.int .i64 R.C,.int .i64 R.S],.int .i64 b] (w.alloc (.cells #[.int .i64 0,.int .u16 0] 76)) fun e w'=>(∃t p:Int,e=.returned (.tuple #[placeVal t (rowOf R.M R.C b:Nat) (membOf R.M R.C b:Nat) p,.int .u16 0]))/\Below (w.alloc (.cells #[.int .i64 0,.int .u16 0] 76)).heap.size (w.alloc (.cells #[.int .i64 0,.int .u16 0] 76)) w'):=Zpr R.M R.C R.S b _ hs.geo hb;have HSE:Hid (∀W,Below (w.alloc (.cells #[.int .i64 0,.int .u16 0] 76)).heap.size (w.alloc (.cells #[.int .i64 0,.int .u16 0] 76)) W->Calls Tryz.prog 68 #[.pointer (some ⟨A.q,0,none⟩),.int .i64 (membOf R.M R.C b:Nat),.int .i64 (rowOf R.M R.C b:Nat)] W (SecPost W T A R lg vw X (V (membOf R.M R.C b) (rowOf R.M R.C b)) (R.rc (membOf R.M R.C b) (rowOf R.M R.C b)))):=fun W hW=>Zid (h0.below hW) hs _ _ L.memb L.row hcnt hsm
 have q1:(w.alloc (.cells #[.int .i64 0,.int .u16 0] 76)).cell? ⟨A.q,1,none⟩=some (.int .i64 R.M):=h0.rw.cell 1;have q2:(w.alloc (.cells #[.int .i64 0,.int .u16 0] 76)).cell? ⟨A.q,2,none⟩=some (.int .i64 R.C):=h0.rw.cell 2;have q3:(w.alloc (.cells #[.int .i64 0,.int .u16 0] 76)).cell? ⟨A.q,3,none⟩=some (.int .i64 R.S):=h0.rw.cell 3;have H:=Lib.hid h;have HBW:=Lib.hid hb0;have hqlt:=h.rw.lt;clear h hs hb0 h0 L hb;generalize hmb:membOf R.M R.C b=mb at*;generalize hrb:rowOf R.M R.C b=rb at*;generalize R.rc mb rb=cn at*;go_enter Tryz.func36,Tryz.ntmps36
 go_wp2_with (first
  |(go_at_call 67;(with_reducible refine HOF.out.mono ?_);rintro e w2 ⟨⟨t2,p2,rfl⟩,hb2⟩;have HB2:=Lib.hid hb2;have hb3:Below (w.alloc (.cells #[.int .i64 0,.int .u16 0] 76)).heap.size (w.alloc (.cells #[.int .i64 0,.int .u16 0] 76)) (w2.alloc (.cells #[.int .i64 t2,.int .i64 (rb:Nat),.int .i64 (mb:Nat),.int .i64 p2] 124)):=hb2.alloc hb2.size _;have HB3:=Lib.hid hb3;unfold placeVal;clear hb2 hb3)
  |(go_at_call 68;(with_reducible refine(HSE.out _ HB3.out).mono ?_);rintro e w6 ⟨v5,rfl,ho5,hr6,hc6⟩;have HO5:=Lib.hid (Zan ho5 (Nat.le_trans HBW.out.size HB3.out.size));have HR6:=Lib.hid hr6;have HC6:Hid (Chg (fun k=>T k≠0) (w.alloc (.cells #[.int .i64 0,.int .u16 0] 76)) w6):=Zaj (Chg.ofBelow HB3.out _) hc6 (fun q _ hq=>hq);obtain⟨a5,c5,rfl⟩:=Zab ho5;have htb6:=HTB.out.mod HC6.out (fun e=>e htb);have k0:w6.cell? ⟨w.heap.size,0,none⟩=some (.int .i64 0):=htb6.cell 0;have k1:w6.cell? ⟨w.heap.size,1,none⟩=some (.int .u16 0):=htb6.cell 1;have f0:=htb6.free 0;have f1:=htb6.free 1;have HT6:=Lib.hid htb6;clear hr6 hc6 htb6 ho5))
 have hst:Chg (fun k=>k=w.heap.size) w6 ((w6.setCell ⟨w.heap.size,0,none⟩ (.int .i64 0)).setCell ⟨w.heap.size,1,none⟩ (.int .u16 0)):=Chg.setCell (S:=fun k=>k=w.heap.size) (Chg.setCell (S:=fun k=>k=w.heap.size) (Chg.refl _ _) ⟨w.heap.size,0,none⟩ (.inl rfl) _) ⟨w.heap.size,1,none⟩ (.inl rfl) _;have hF:=(HT6.out.set 0 (.int .i64 0)).set 1 (.int .u16 0);have r0:=hF.cell 0;have r1:=hF.cell 1;have hc6:Chg (fun k=>T k≠0) w w6:=(Zaj (Chg.ofBelow HBW.out _) HC6.out (fun q _ hq=>hq));have hcF:Chg (fun k=>T k≠0) w ((w6.setCell ⟨w.heap.size,0,none⟩ (.int .i64 0)).setCell ⟨w.heap.size,1,none⟩ (.int .u16 0)):=Zaj hc6 hst (fun q hq e=>by omega);have HEND:Hid (SecPost w T A R lg vw X (V mb rb) cn (.returned (.tuple #[.slice a5 128 c5,.agg #[.int .i64 0,.int .u16 0]])) ((w6.setCell ⟨w.heap.size,0,none⟩ (.int .i64 0)).setCell ⟨w.heap.size,1,none⟩ (.int .u16 0))):=by
  refine⟨_,rfl,Zad HO5.out hst (fun q hq e=>Za4 HO5.out HT6.out (by decide) (by rw[hq,e])),H.out.turn (T':=T) (HR6.out.bay.keep hst (fun k hk e=>hk (by rw[e];exact htb))) (fun _ _=>rfl) hcF,hcF⟩
 clear hst hF hc6 hcF HT6 HO5 HR6 HC6;(try simp only [Exit.inBlock,Exit.then]);refine bodyPost_ret (v:=.tuple #[.slice a5 128 c5,.agg #[.int .i64 0,.int .u16 0]]) ?_ rfl HEND.out;rw[Zbw rfl];go_simp;try rfl
theorem most_refused (m c s:Int) (v:Value) (us:List (Int×List UInt8)) (w:World) (hv:PutSeg w v us) (h:splitCode m c s us≠0):
  Calls Tryz.prog 24 #[geo m c s,v] w fun e w'=>e=.returned (.tuple #[.int .i64 0,.int .u16 (splitCode m c s us)])/\Below w.heap.size w w':=by
 have hb0:Below w.heap.size w (w.alloc (.cells #[.int .i64 m,.int .i64 c,.int .i64 s] 26)):=(Below.refl _ _).alloc (Nat.le_refl _) _;have hsp:Hid (∀W,Below w.heap.size w W->Calls Tryz.prog 54 #[geo m c s,v] W fun e w'=>e=.returned (.tuple #[.slice none 0 0,.int .u16 (splitCode m c s us)])/\Below W.heap.size W w'):=fun W hW=>Zka m c s v us W (hv.below hW) h
 generalize splitCode m c s us=q at*;clear hv h;unfold geo at*;go_enter Tryz.func24,Tryz.ntmps24;go_wp2_with (go_at_call 54;(with_reducible refine(hsp.out _ hb0).mono ?_);rintro e w2 ⟨rfl,hb2⟩;have HB2:=Lib.hid (Zac hb0 hb2);clear hb2);go_loopw [21,8] (fun q s wr=>q=.int .i64 0/\s=.int .i64 0/\wr=w2) (fun _ _ _=>0);case atStart=>exact⟨rfl,rfl,rfl⟩
 case round=>
  obtain⟨rfl,rfl,rfl⟩:=hrel;go_wp2;go_ret2;exact⟨rfl,HB2.out⟩
section
theorem Same.ticks (R:RS) (c:Nat):Same R {R with s:=R.s.ticks 0 c}:=⟨rfl,rfl,rfl,rfl,rfl,rfl,.ofPos fun _ _=>rfl⟩
section
variable {w0 W w':World} {T T':Nat->Nat} {A:Adr} {R R':RS} {V:Nat->Nat->Sec} {a b:Nat}
theorem Stp.ofBelow (hb:Below W.heap.size W w'):Stp W T A w' T:=⟨fun _ _=>rfl,Chg.ofBelow hb _⟩
theorem Stp.ofBay (hc:Chg (fun q=>T q≠0) W w'):Stp W T A w' T:=⟨fun _ _=>rfl,hc.mono fun q e=>.inl e⟩
theorem Bud.placed (h:Bud R a b) {k e1 e2:Nat} (hc:Cost R R' k (R.wait.length+e1) e2 (R.wait.length+e1) 0) (hg:R.wait.length≤512) (hw:R'.wait= []):Bud R' (a+k+512+e1+e2) (b+e1):=by
 obtain⟨h0,h1,h2,h3,m,h4,h5⟩:=h;obtain⟨k1,k2,k3,k4,k5,-⟩:=hc;exact⟨by omega,by omega,by omega,by omega,_,k4 m h4,by rw[hw];simp;omega⟩
theorem Bud.ticks (h:Bud R a b) (c:Nat):Bud {R with s:=R.s.ticks 0 c} (a+c) b:=by
 obtain⟨h0,h1,h2,h3,m,h4,h5⟩:=h;refine⟨?_,?_,?_,by show R.next≤_;omega,m,h4,h5⟩
 ·show(R.s.ticks 0 c).cnt 0≤_
  rw[Zb7];omega
 ·show(R.s.ticks 0 c).cnt 1≤_
  rw[Zbo _ _ _ _ (by decide)];omega
 ·show(R.s.ticks 0 c).cnt 2≤_
  rw[Zbo _ _ _ _ (by decide)];omega
end
theorem l_empty {w0 W:World} {T:Nat->Nat} {A:Adr} {R:RS} {V:Nat->Nat->Sec} {a b:Nat} (h:LAt w0 W T A R V) (hb:Bud R a b) (hin:Within a b):
  Calls Tryz.prog 53 #[.pointer (some ⟨A.q,0,none⟩)] W fun e w'=>e=.returned (.agg #[.int .i64 0,.int .u16 0])/\∃T' R',LAt w0 w' T' A R' V/\Stp W T A w' T'/\Bud R' (a+1000) (b+1)/\Same R R'/\R'.wait= []/\R'.used=0/\EmptyR R R':=by
 obtain⟨lg,vw,X,hr⟩:=h.rw;have h1:=hin.a;have h2:=hin.b;have h31:=hb.c1;have h32:=hb.c2;refine(Zpk hr h.good.ready h.good.jrn (by omega) (by omega) (hb.small' (by omega))).mono ?_;rintro e w' ⟨rfl,R',vw',X',he,T',k1,k2,k3⟩;have hst:Stp W T A w' T':=⟨k2,k3⟩;obtain⟨k4,k5⟩:=h.next hst;obtain⟨g',hw',hu',-⟩:=h.good.empty he;have c1:=h.good.cost_empty he;exact⟨rfl,T',R',⟨⟨_,vw',X',k1⟩,g',.inr hw',k4,k5⟩,hst,(hb.placed (k:=0) (e1:=1) (e2:=20) c1 h.good.few hw').mono (by omega) (by omega),c1.same (Zp3 h.good he),hw',hu',he⟩
end
def flatD (D:Nat->Sec) (n:Nat):List UInt8:=(List.range n).flatMap D
theorem Zx3 (D:Nat->Sec) (n:Nat):flatD D (n+1)=flatD D n++D n:=by
 unfold flatD;rw[List.range_succ,List.flatMap_append];simp
theorem Zxj {D:Nat->Sec}:∀{n:Nat},(∀k,k<n->(D k).length=128)->(flatD D n).length=128*n
 |0,_=>rfl
 |n+1,h=>by
  rw[Zx3,List.length_append,Zxj (fun k hk=>h k (by omega)),h n (by omega)];omega
theorem flatD_congr {D E:Nat->Sec} {n:Nat} (h:∀k,k<n->D k=E k):flatD D n=flatD E n:=by
 induction n with
 |zero=>rfl
 |succ n ih=>rw[Zx3,Zx3,ih (fun k hk=>h k (by omega)),h n (by omega)]
theorem Zxw {R:RS} {V:Nat->Nat->Sec} (h:Good R V) {k:Nat} (hk:k<R.S*R.C*(R.M-1)):(blkOf R.M R.C V k).length=128:=by
 have hl:=lies h.geo hk;exact h.len _ _ hl.memb hl.row
def RS.blocks (R:RS):Nat:=R.S*R.C*(R.M-1)
theorem Zxp {R:RS} (hg:geoIs R.M R.C R.S=true):R.blocks≤61440:=by
 obtain⟨h1,h2,h3,h4⟩:=Zbe hg;exact Nat.mul_le_mul h4 (by omega:R.M-1≤15)
theorem seg_of_128 {w:World} {B:Nat} {v:Value} {l:List UInt8} (h:w.ownsRow B 5 1 v 128 (ucells l)):Seg w v l:=by
 have hl:l.length=128:=by
  have:=h.1;rw[Zag]at this;omega
 refine Zao (base:=B) ?_;rw[hl];exact h
section
def Tidy (W:World) (T:Nat->Nat):Prop:=∀q cs,(At W q cs 5\/At W q cs 167)->T q=0
open Classical in
noncomputable def tidy (W:World) (T:Nat->Nat) (q:Nat):Nat:=if ∃cs,At W q cs 5\/At W q cs 167 then 0 else T q
theorem tidy_is (W:World) (T:Nat->Nat):Tidy W (tidy W T):=fun q cs h=>if_pos ⟨cs,h⟩
theorem tidy_zero {W:World} {T:Nat->Nat} {q:Nat} (h:T q=0):tidy W T q=0:=by
 unfold tidy;split
 ·rfl
 ·exact h
theorem tidy_no {W:World} {T:Nat->Nat} {q:Nat} (h:∀cs,¬At W q cs 5/\¬At W q cs 167):tidy W T q=T q:=if_neg fun ⟨cs,e⟩=>e.elim (h cs).1 (h cs).2
theorem at_type {w:World} {g:Nat} {cs cs':Array Value} {t t':TypeId} (h:At w g cs t) (h':At w g cs' t'):t=t':=by
 unfold At at h h';rw[h]at h';simp only [Option.some.injEq,Obj.cells.injEq]at h';exact h'.2.1
theorem tidy_at {W:World} {T:Nat->Nat} {g:Nat} {cs:Array Value} {t:TypeId} (h:At W g cs t) (h1:t≠5) (h2:t≠167):tidy W T g=T g:=tidy_no fun cs'=>⟨fun e=>h1 (at_type h e),fun e=>h2 (at_type h e)⟩
theorem tidy_ne {W:World} {T:Nat->Nat} {q:Nat} (h:tidy W T q≠0):T q≠0:=fun e=>h (tidy_zero e)
theorem DiskAt.tidy {W:World} {T:Nat->Nat} {t p:Nat} {d:Dsk} (h:DiskAt W T t p d):DiskAt W (tidy W T) t p d:=by
 obtain⟨gl,gm,cv,f,h1,h2,h3,h4,h5,h6,h7,h8⟩:=h.at';exact⟨⟨gl,gm,cv,f,h1,h2,h3,h4,h5,(tidy_at h2 (by decide) (by decide)).trans h6,(tidy_no fun cs=>⟨h4.noCells,h4.noCells⟩).trans h7,fun g hg=>(tidy_no fun cs=>⟨fun e=>Zah h3 e (by decide) hg,fun e=>Zah h3 e (by decide) hg⟩).trans (h8 g hg)⟩,(tidy_at h1 (by decide) (by decide)).trans h.tag,h.len,h.clen,h.cin,h.few,h.some'⟩
theorem BayAt.tidy {W:World} {T:Nat->Nat} {b:Nat} {s:BaySt} (h:BayAt W T b s):BayAt W (tidy W T) b s:=by
 obtain⟨gs,ptr,tg,dp,h⟩:=h;refine⟨gs,ptr,tg,dp,h.bay,h.slots,(tidy_at h.bay (by decide) (by decide)).trans h.tb,(tidy_at h.slots (by decide) (by decide)).trans h.ts,fun i hi x hx=> ?_,h.none',h.apart,h.own,fun k hk=>tidy_zero (h.virgin k hk),h.few,h.cl,h.trl,h.trh⟩;obtain⟨dv,h1,h2⟩:=h.some' i hi x hx;exact⟨dv,h1,h2.dev,(tidy_at h2.dev (by decide) (by decide)).trans h2.tag,h2.two,h2.disk.tidy,h2.lo,h2.hi⟩
theorem RwIn.tidy {W:World} {T:Nat->Nat} {A:Adr} {R:RS} {lg:Option Nat} {vw:Value} {X:List OP} (h:RwIn W T A R lg vw X):RwIn W (tidy W T) A R lg vw X:=
 ⟨h.bay.tidy,h.rw,h.fr,h.wt,fun g hg=>tidy_zero (h.wtT g hg),fun x hx g hg=>tidy_zero (h.wtX x hx g hg),h.wtM,h.wal,h.ring,tidy_zero h.tq,tidy_zero h.tf,tidy_zero h.tw,tidy_zero h.tr⟩
theorem own_block {w:World} {B n sz:Nat} {t:TypeId} {v:Value} {xs:List Value} (h:w.ownsRow B t sz v n xs) {g:Nat} (hg:v.ownBlock=some g):∃cs,At w g cs t:=by
 rcases h.2 with ⟨h,_⟩|⟨g',cap,cur,hv,hb,hgt,hc,hm,hs,ht⟩
 ·rw[h]at hg;cases hg
 ·rw[hv]at hg
  have:g'=g:=Option.some.inj hg;subst this;exact⟨cur,hgt⟩
theorem Tidy.own {W:World} {T:Nat->Nat} (h:Tidy W T) {B n sz:Nat} {t:TypeId} {v:Value} {xs:List Value} (ho:W.ownsRow B t sz v n xs) (ht:t=5\/t=167) {g:Nat} (hg:v.ownBlock=some g):T g=0:=by
 obtain⟨cs,hc⟩:=own_block ho hg;rcases ht with rfl|rfl
 ·exact h g cs (.inl hc)
 ·exact h g cs (.inr hc)
structure Ln (w0 W:World) (T:Nat->Nat) (A:Adr) (R:RS):Prop where
 rw:∃lg vw X,RwIn W T A R lg vw X
 old:∀q,q<w0.heap.size->T q=0/\¬A.has q
 bel:Below w0.heap.size w0 W
section
variable {w0 W W':World} {T T':Nat->Nat} {A:Adr} {R R':RS} {V:Nat->Nat->Sec}
theorem LAt.ln (h:LAt w0 W T A R V):Ln w0 W T A R:=⟨h.rw,h.old,h.bel⟩
theorem Ln.lat (h:Ln w0 W T A R) (g:Good R V) (i:R.lazy=true\/R.wait= []):LAt w0 W T A R V:=⟨h.rw,g,i,h.old,h.bel⟩
theorem Ln.below (h:Ln w0 W T A R) (hb:Below W.heap.size W W'):Ln w0 W' T A R:=by
 obtain⟨lg,vw,X,hr⟩:=h.rw;exact⟨⟨lg,vw,X,hr.below hb⟩,h.old,h.bel.trans (hb.mono h.bel.size)⟩
theorem Ln.virg (h:Ln w0 W T A R) (q:Nat) (hq:W.heap.size≤q):T q=0:=by
 obtain⟨lg,vw,X,hr⟩:=h.rw;exact Zae hr.bay q hq
theorem Ln.off (h:Ln w0 W T A R) (q:Nat) (hq:W.heap.size≤q):¬A.has q:=by
 obtain⟨lg,vw,X,hr⟩:=h.rw;exact hr.low.ne hq
theorem Ln.tidy (h:Ln w0 W T A R):Ln w0 W (tidy W T) A R:=by
 obtain⟨lg,vw,X,hr⟩:=h.rw;exact⟨⟨lg,vw,X,hr.tidy⟩,fun q hq=>⟨tidy_zero (h.old q hq).1,(h.old q hq).2⟩,h.bel⟩
theorem Ln.next (h:Ln w0 W T A R) (s:Stp W T A W' T'):(∀q,q<w0.heap.size->T' q=0/\¬A.has q)/\Below w0.heap.size w0 W':=by
 have hs:=h.bel.size;refine⟨fun q hq=>⟨(s.tags q (by omega)).trans (h.old q hq).1,(h.old q hq).2⟩,h.bel.trans (s.chg.below fun q hq=>⟨by omega,fun e=>e.elim (fun e=>e (h.old q hq).1) (h.old q hq).2⟩)⟩
theorem Ln.step (h:Ln w0 W T A R) (hr:∃lg vw X,RwIn W' T' A R' lg vw X) (s:Stp W T A W' T'):Ln w0 W' T' A R':=⟨hr,(h.next s).1,(h.next s).2⟩
end
structure Two (w0 W:World) (T1:Nat->Nat) (A1:Adr) (R1:RS) (T2:Nat->Nat) (A2:Adr) (R2:RS):Prop where
 one:Ln w0 W T1 A1 R1
 two:Ln w0 W T2 A2 R2
 t1:Tidy W T1
 t2:Tidy W T2
 tt:∀q,T1 q≠0->T2 q=0
 ta:∀q,A2.has q->T1 q=0
 at':∀q,A1.has q->T2 q=0
 aa:∀q,A1.has q->¬A2.has q
section
variable {w0 W W':World} {T1 T2 T1':Nat->Nat} {A1 A2:Adr} {R1 R2 R1':RS}
theorem Two.swap (h:Two w0 W T1 A1 R1 T2 A2 R2):Two w0 W T2 A2 R2 T1 A1 R1:=
 ⟨h.two,h.one,h.t2,h.t1,fun q hq=>Classical.byContradiction fun e=>hq (h.tt q e),h.at',h.ta,fun q h1 h2=>h.aa q h2 h1⟩
theorem Ln.hasAt (h:Ln w0 W T1 A1 R1) {q:Nat} (hq:A1.has q):∃cs t,At W q cs t/\(t=116\/t=148\/t=190\/t=3):=by
 obtain⟨lg,vw,X,hr⟩:=h.rw;rcases hq with e|e|e|e<;>subst e
 ·exact⟨_,_,hr.rw,.inl rfl⟩
 ·exact⟨_,_,hr.wal,.inr (.inl rfl)⟩
 ·exact⟨_,_,hr.ring,.inr (.inr (.inl rfl))⟩
 ·exact⟨_,_,hr.fr,.inr (.inr (.inr rfl))⟩
theorem Two.offRow (h:Two w0 W T1 A1 R1 T2 A2 R2) {B n sz:Nat} {t:TypeId} {v:Value} {xs:List Value} (ho:W.ownsRow B t sz v n xs) (ht:t=5\/t=167) {g:Nat} (hg:v.ownBlock=some g):¬(T1 g≠0\/A1.has g):=by
 rintro (e|e)
 ·exact e (h.t1.own ho ht hg)
 ·obtain⟨cs,t',ha,ht'⟩:=h.one.hasAt e
  refine Zah ho ha ?_ hg;rcases ht with rfl|rfl<;>rcases ht' with rfl|rfl|rfl|rfl<;>decide
theorem Two.below (h:Two w0 W T1 A1 R1 T2 A2 R2) (hb:Below W.heap.size W W'):Two w0 W' (tidy W' T1) A1 R1 (tidy W' T2) A2 R2:=
 ⟨(h.one.below hb).tidy,(h.two.below hb).tidy,tidy_is _ _,tidy_is _ _,fun q hq=>tidy_zero (h.tt q (tidy_ne hq)),fun q hq=>tidy_zero (h.ta q hq),fun q hq=>tidy_zero (h.at' q hq),h.aa⟩
theorem Two.step (h:Two w0 W T1 A1 R1 T2 A2 R2) (hl:Ln w0 W' T1' A1 R1') (hs:Stp W T1 A1 W' T1'):Two w0 W' (tidy W' T1') A1 R1' (tidy W' T2) A2 R2:=by
 have hS:∀q,(T1 q≠0\/A1.has q)->T2 q=0/\¬A2.has q:=by
  rintro q (e|e)
  ·exact⟨h.tt q e,fun e2=>e (h.ta q e2)⟩
  ·exact⟨h.at' q e,h.aa q e⟩
 have hold:∀q,q<W.heap.size->T1' q=T1 q:=hs.tags;obtain⟨lg,vw,X,hr⟩:=h.two.rw;have hr':RwIn W' T2 A2 R2 lg vw X:=by
  have hc:=hs.chg;refine⟨hr.bay.keep hc (fun k hk e=>hk (hS k e).1),hr.rw.mod hc (fun e=>(hS _ e).2 (.inl rfl)),hr.fr.mod hc (fun e=>(hS _ e).2 (.inr (.inr (.inr rfl)))),hr.wt.mod hc (fun g hg=>h.offRow hr.wt.row (.inr rfl) hg) (fun x hx g hg=>h.offRow (hr.wt.dat x hx) (.inl rfl) hg),hr.wtT,hr.wtX,hr.wtM,hr.wal.mod hc (fun e=>(hS _ e).2 (.inr (.inl rfl))),hr.ring.mod hc (fun e=>(hS _ e).2 (.inr (.inr (.inl rfl)))),hr.tq,hr.tf,hr.tw,hr.tr⟩
 have htwo:Ln w0 W' T2 A2 R2:=⟨⟨lg,vw,X,hr'⟩,h.two.old,hl.bel⟩;refine⟨hl.tidy,htwo.tidy,tidy_is _ _,tidy_is _ _,fun q hq=>tidy_zero ?_,fun q hq=>tidy_zero ?_,fun q hq=>tidy_zero (h.at' q hq),h.aa⟩
 ·by_cases hlt:q<W.heap.size
  ·exact h.tt q (by rw[<-hold q hlt];exact tidy_ne hq)
  ·exact h.two.virg q (by omega)
 ·have hlt:q<W.heap.size:=Classical.byContradiction fun e=>h.two.off q (by omega) hq
  rw[hold q hlt];exact h.ta q hq
theorem Two.start {w3 w4:World} (h1:Ln w0 w3 T1 A1 R1) (h2:Ln w3 w4 T2 A2 R2):Two w0 w4 (tidy w4 T1) A1 R1 (tidy w4 T2) A2 R2:=by
 have hs:=h1.bel.size;have h1':=h1.below h2.bel;have h2':Ln w0 w4 T2 A2 R2:=⟨h2.rw,fun q hq=>h2.old q (by omega),h1'.bel⟩;have hv:∀q,T1 q≠0->q<w3.heap.size:=fun q e=>Classical.byContradiction fun e2=>e (h1.virg q (by omega))
 have ha:∀q,A1.has q->q<w3.heap.size:=fun q e=>Classical.byContradiction fun e2=>h1.off q (by omega) e
 refine⟨h1'.tidy,h2'.tidy,tidy_is _ _,tidy_is _ _,fun q hq=>tidy_zero (h2.old q (hv q (tidy_ne hq))).1,fun q hq=>tidy_zero (Classical.byContradiction fun e=>(h2.old q (hv q e)).2 hq),fun q hq=>tidy_zero (h2.old q (ha q hq)).1,fun q hq=>(h2.old q (ha q hq)).2⟩
end
end
section
def arSz (M C S ring:Nat):Nat->Nat:=fun j=>if j<M then 1+S*C else 2+ring
theorem arSz_in {M C S ring k:Nat} (h:k<M):arSz M C S ring k=1+S*C:=if_pos h
theorem arSz_M (M C S ring:Nat):arSz M C S ring M=2+ring:=if_neg (by omega)
structure Blank (M C S ring:Nat) (s:BaySt) (a1 a2:Nat):Prop where
 n:s.n=M+1
 fit:Fit s (fun _=>True) (arSz M C S ring)
 small:s.small a1
 c0:s.cnt 0=0
 c1:s.cnt 1=(a1:Int)
 c2:s.cnt 2=(a2:Int)
 sec:∀m r,m<M->r<S*C->s.sec m (1+r)=zsec
 aside:∀q,q%3≠0->s.pos q=none
section
variable {M C S ring c1 c2:Nat} {s:BaySt}
theorem blank_new (M C S ring:Nat) (hR:S*C≤4096) (hr:ring≤2048):Blank M C S ring (rBay M (S*C) ring) 0 0:=by
 refine⟨Zme M (S*C) ring,Zkp hR hr,Ze1 _ 0,rfl,rfl,rfl,fun m r hm hr=> ?_,fun q hq=>if_neg fun e=>hq e.1⟩;exact Zst _ m (1+r) (by rw[Zby];omega) (by rw[Zr4 _ _ _ _ hm];omega)
theorem Blank.put (h:Blank M C S ring s c1 c2) (k z:Nat) (l:Sec) (hk:k≤M) (hz:z<arSz M C S ring k) (hl:l.length=128) (ho:k=M\/z=0\/l=zsec):Blank M C S ring (s.put k z l) (c1+1) c2:=by
 obtain⟨f1,f2⟩:=Zdd h.fit k z l (by rw[h.n];omega) trivial hz hl;refine⟨f2.n.trans h.n,f1,f2.small _ h.small,f2.c0.trans h.c0,by rw[f2.c1,h.c1];rfl,f2.c2.trans h.c2,fun m r hm hr=> ?_,fun q hq=>(f2.pos q (by omega)).trans (h.aside q hq)⟩;rw[f2.sec];split
 ·rename_i e
  rcases ho with e1|e1|e1
  ·omega
  ·omega
  ·exact e1
 ·exact h.sec m r hm hr
theorem Blank.dry (h:Blank M C S ring s c1 c2) (k:Nat) (hk:k≤M):Blank M C S ring (s.dried k) c1 (c2+1):=by
 obtain⟨f1,f2⟩:=Zbk h.fit k (by rw[h.n];omega) trivial;refine⟨f2.n.trans h.n,f1,f2.small _ h.small,f2.c0.trans h.c0,f2.c1.trans h.c1,by rw[f2.c2,h.c2];rfl,fun m r hm hr=> ?_,fun q hq=>(f2.pos q (by omega)).trans (h.aside q hq)⟩;rw[f2.sec m (1+r) (fun _=>by rw[← ‹m=k›,arSz_in hm];omega)];exact h.sec m r hm hr
theorem Blank.form (h:Blank M C S ring s c1 c2):Blank M C S ring (formed s M ring 1) (c1+ring+1) (c2+1):=by
 have hz:=Zee h.fit M (by rw[h.n];omega) trivial ring (by rw[arSz_M];omega);have h1:Blank M C S ring (zeroed s M ring) (c1+ring) c2:=by
  refine⟨hz.n'.trans h.n,hz.fit,hz.small _ h.small,hz.c0.trans h.c0,by rw[hz.c1,h.c1];push_cast;rfl,hz.c2.trans h.c2,fun m r hm hr=> ?_,fun q hq=>(hz.pos q (by omega)).trans (h.aside q hq)⟩;rw[Zcn (hz.pos (m*3) (by omega))];exact h.sec m r hm hr
 exact(h1.put M 1 (recSec 3 1 1 (leN 0 4)) (Nat.le_refl _) (by rw[arSz_M];omega) (Za5 _ _ _ _ (by simp[Zal])) (.inl rfl)).dry M (Nat.le_refl _)
theorem good_blank {lazy:Bool} (hg:geoIs M C S=true) (h5:5≤ring) (h6:ring≤2048) (h:Blank M C S ring s c1 c2):Good (RS.made M C S ring lazy s) zeroV:=by
 refine⟨hg,h.n,(h.fit.sub fun _ _=>trivial),fun _ _ _ _=>Znj,fun r hr i hi=> ?_,fun r hr i j hi hj e _=> ?_,fun m r hm hr _ _=>h.sec m r hm hr,⟨h5,h6,by show 0<ring;omega,Nat.zero_le _,by show 1≤4611686018427387904;omega,Nat.le_refl _,by show 1≤4611686018427387900;omega⟩,fun p hp=>(by cases hp),fun p hp=>(by cases hp),Nat.zero_le _⟩
 ·exact(Zaz fun m _=>Zus m r i).trans (Zic _)
 ·exfalso
  unfold RS.dn RS.made at e;simp at e
end
theorem Good.beside {R:RS} {V:Nat->Nat->Sec} (h:Good R V) {s':BaySt} (hn:s'.n=R.s.n) (hf:Fit s' R.G R.szs) (hs:∀m r,m<R.M->r<R.S*R.C->R.dn m r=false->s'.sec m (1+r)=R.s.sec m (1+r)):Good {R with s:=s'} V:=
 ⟨h.geo,hn.trans h.n,hf,h.len,h.even,h.lone,fun m r hm hr hw hd=>(hs m r hm hr hd).trans (h.sec m r hm hr hw hd),⟨h.jrn.z1,h.jrn.z2,h.jrn.tl,h.jrn.us,h.jrn.ep,h.jrn.nx,h.jrn.nx2⟩,h.inp,h.wv,h.few⟩
theorem Good.allFit {R:RS} {V:Nat->Nat->Sec} (h:Good R V) (hf:R.fr=fun _=> -1):Fit R.s (fun _=>True) R.szs:=by
 have hd:∀m r,R.dn m r=false:=fun m r=>by unfold RS.dn;rw[hf];simp
 refine⟨h.fit.dark,h.fit.trip,fun j hj _=>h.fit.dev j hj ?_⟩;have:=(Zbe h.geo).2.2.1;have hn:=h.n;by_cases e:j=R.M
 ·exact .inl e
 ·exact .inr ⟨by omega,0,this,hd j 0⟩
def frOf (g:Int):Nat->Int:=fun m=>if (m:Int)=g then 0 else -1
def RS.lost (R:RS) (k:Nat):RS:={R with s:=R.s.lose k,fr:=frOf k}
theorem frOf_none:frOf (-1)=fun _=> -1:=by
 funext m;exact if_neg (by omega)
theorem dn_frOf {R:RS} {g:Int} (h:R.fr=frOf g) (m r:Nat):R.dn m r=decide ((m:Int)=g):=by
 unfold RS.dn;rw[h];unfold frOf;by_cases e:(m:Int)=g
 ·simp[e]
 ·simp[e]
theorem Good.lost {R:RS} {V:Nat->Nat->Sec} (h:Good R V) (hf:R.fr=fun _=> -1) {k:Nat} (hk:k<R.M):Good (R.lost k) V:=by
 have e:R.lost k={R.marked k true with s:=R.s.lose k}:=by
  unfold RS.lost RS.marked;congr 1;funext j;unfold frOf;by_cases e:j=k
  ·show(if (j:Int)=(k:Int)then (0:Int)else -1)=if j=k then (if true=true then (0:Int)else -1)else R.fr j
   rw[if_pos e,if_pos (by rw[e])];rfl
  ·show(if (j:Int)=(k:Int)then (0:Int)else -1)=if j=k then (if true=true then (0:Int)else -1)else R.fr j
   rw[if_neg e,if_neg (by omega),hf]
 have hp:∀j,j≠k->(R.s.lose k).pos (j*3)=R.s.pos (j*3):=fun j hj=>if_neg (by omega)
 rw[e];have hd':∀m r,(R.marked k true).dn m r=decide (m=k):=fun m r=>by
  unfold RS.dn RS.marked;rw[hf];by_cases e:m=k
  ·simp[e]
  ·simp[e]
 refine(h.mark hf k).beside (s':=R.s.lose k) rfl ?_ fun m r hm hr hd=> ?_
 ·have ha:=h.allFit hf
  refine⟨ha.dark,ha.trip,fun j hj hg=> ?_⟩;obtain⟨x,hx,hc⟩:=ha.dev j hj trivial;refine⟨x,(hp j ?_).trans hx,hc⟩;rcases hg with hg|⟨-,r,-,hd⟩
  ·have:j=R.M:=hg
   omega
  ·have hd2:(R.marked k true).dn j r=false:=hd
   rw[hd',decide_eq_false_iff_not]at hd2;exact hd2
 ·rw[hd',decide_eq_false_iff_not]at hd
  exact Zcn (hp m hd) _
structure Told (R:RS) (s':BaySt) (a c:Nat):Prop where
 n:s'.n=R.s.n
 fit:Fit s' R.G R.szs
 c0:s'.cnt 0=R.s.cnt 0
 c1:s'.cnt 1=R.s.cnt 1+(a:Nat)
 c2:s'.cnt 2=R.s.cnt 2+(c:Nat)
 small:∀m,R.s.small m->s'.small (m+a)
 sec:∀m r,m<R.M->r<R.S*R.C->R.dn m r=false->s'.sec m (1+r)=R.s.sec m (1+r)
theorem Told.refl {R:RS} (hf:Fit R.s R.G R.szs):Told R R.s 0 0:=⟨rfl,hf,rfl,by simp,by simp,fun _ h=>h,fun _ _ _ _ _=>rfl⟩
theorem Told.put {R:RS} {s:BaySt} {a c:Nat} (h:Told R s a c) (hn:R.s.n=R.M+1) {k:Nat} (hk:k≤R.M) (hg:R.G k) {l:Sec} (hl:l.length=128):Told R (s.put k 0 l) (a+1) c:=by
 have hz:0<R.szs k:=by unfold RS.szs;split<;>omega
 obtain⟨f1,f2⟩:=Zdd h.fit k 0 l (by rw[h.n,hn];omega) hg hz hl;refine⟨f2.n.trans h.n,f1,f2.c0.trans h.c0,by rw[f2.c1,h.c1];push_cast;omega,f2.c2.trans h.c2,fun m hm=>f2.small _ (h.small m hm),fun m r hm hr hd=> ?_⟩;rw[f2.sec,if_neg (by omega)];exact h.sec m r hm hr hd
theorem Told.dry {R:RS} {s:BaySt} {a c:Nat} (h:Told R s a c) (hn:R.s.n=R.M+1) {k:Nat} (hk:k≤R.M) (hg:R.G k):Told R (s.dried k) a (c+1):=by
 obtain⟨f1,f2⟩:=Zbk h.fit k (by rw[h.n,hn];omega) hg;refine⟨f2.n.trans h.n,f1,f2.c0.trans h.c0,f2.c1.trans h.c1,by rw[f2.c2,h.c2];push_cast;omega,fun m hm=>f2.small _ (h.small m hm),fun m r hm hr hd=> ?_⟩;rw[f2.sec m (1+r) (fun e=>by rw[<-e];unfold RS.szs;rw[if_pos hm];omega)];exact h.sec m r hm hr hd
theorem Told.good {R:RS} {V:Nat->Nat->Sec} {s:BaySt} {a c:Nat} (h:Told R s a c) (hg:Good R V):Good {R with s:=s} V:=hg.beside h.n h.fit h.sec
end
section
structure Ab (w0 W:World) (T:Nat->Nat) (A:Adr) (R:RS) (L:List (Nat×Array Value×TypeId)):Prop where
 ln:Ln w0 W T A R
 box:∀x∈L,At W x.1 x.2.1 x.2.2/\T x.1=0/\116≠x.2.2/\3≠x.2.2/\148≠x.2.2/\190≠x.2.2
section
variable {w0 W W':World} {T T':Nat->Nat} {A:Adr} {R R':RS} {V:Nat->Nat->Sec} {L:List (Nat×Array Value×TypeId)}
theorem Ln.keep (h:Ln w0 W T A R) (s:Stp W T A W' T') {g:Nat} {cs:Array Value} {t:TypeId} (ha:At W g cs t) (ht:T g=0) (h1:116≠t) (h2:3≠t) (h3:148≠t) (h4:190≠t):At W' g cs t/\T' g=0:=by
 obtain⟨lg,vw,X,hr⟩:=h.rw;exact⟨ha.mod s.chg fun e=>e.elim (fun e=>e ht) (hr.offAt ha h1 h2 h3 h4),(s.tags g ha.lt).trans ht⟩
theorem Ab.below (h:Ab w0 W T A R L) (hb:Below W.heap.size W W'):Ab w0 W' T A R L:=
 ⟨h.ln.below hb,fun x hx=>⟨(h.box x hx).1.below hb (h.box x hx).1.lt,(h.box x hx).2⟩⟩
theorem Ab.step (h:Ab w0 W T A R L) (k:Ln w0 W' T' A R') (s:Stp W T A W' T'):Ab w0 W' T' A R' L:=
 ⟨k,fun x hx=>by
  obtain⟨h1,h2,h3,h4,h5,h6⟩:=h.box x hx
  obtain⟨k1,k2⟩:=h.ln.keep s h1 h2 h3 h4 h5 h6
  exact⟨k1,k2,h3,h4,h5,h6⟩⟩
theorem Ab.push (h:Ab w0 W T A R L) (cs:Array Value) (t:TypeId) (h1:116≠t) (h2:3≠t) (h3:148≠t) (h4:190≠t):Ab w0 (W.alloc (.cells cs t)) T A R ((W.heap.size,cs,t)::L):=by
 have hb:=h.below ((Below.refl W.heap.size W).alloc (Nat.le_refl _) (.cells cs t));refine⟨hb.ln,fun x hx=> ?_⟩;rcases List.mem_cons.1 hx with e|e
 ·subst e
  exact⟨At.new _ _ _,h.ln.virg _ (Nat.le_refl _),h1,h2,h3,h4⟩
 ·exact hb.box x e
theorem Ab.add (h:Ab w0 W T A R L) {g:Nat} {cs:Array Value} {t:TypeId} (ha:At W g cs t) (ht:T g=0) (h1:116≠t) (h2:3≠t) (h3:148≠t) (h4:190≠t):Ab w0 W T A R ((g,cs,t)::L):=
 ⟨h.ln,fun x hx=>by
  rcases List.mem_cons.1 hx with e|e
  ·subst e
   exact⟨ha,ht,h1,h2,h3,h4⟩
  ·exact h.box x e⟩
theorem Ab.get (h:Ab w0 W T A R L) (i:Nat) {g:Nat} {cs:Array Value} {t:TypeId} (hi:L[i]?=some (g,cs,t)):At W g cs t:=(h.box _ (List.mem_of_getElem? hi)).1
theorem Ab.lat (h:Ab w0 W T A R L) (g:Good R V) (i:R.lazy=true\/R.wait= []):LAt w0 W T A R V:=h.ln.lat g i
theorem Ab.sub {L':List (Nat×Array Value×TypeId)} (h:Ab w0 W T A R L) (hs:∀x∈L',x∈L):Ab w0 W T A R L':=⟨h.ln,fun x hx=>h.box x (hs x hx)⟩
theorem Ln.boxed (h:Ln w0 W T A R) {g:Nat} {cs:Array Value} {t:TypeId} (ha:At W g cs t) (ht:T g=0) (h1:116≠t) (h2:3≠t) (h3:148≠t) (h4:190≠t) (h5:5≠t) (h6:167≠t) (hg:w0.heap.size≤g) (hc:Chg (fun q=>q=g) W W'):Ln w0 W' T A R:=by
 obtain⟨lg,vw,X,hr⟩:=h.rw;refine⟨⟨lg,vw,X,hr.bay.keep hc (fun k hk e=>hk (by rw[e];exact ht)),hr.rw.mod hc (Zaw hr.rw ha h1),hr.fr.mod hc (Zaw hr.fr ha h2),hr.wt.mod hc (fun k hk e=>hr.wOff ha h6 (by rw[hk,e])) (fun x hx k hk e=>hr.xOff ha h5 x hx (by rw[hk,e])),hr.wtT,hr.wtX,hr.wtM,hr.wal.mod hc (Zaw hr.wal ha h3),hr.ring.mod hc (Zaw hr.ring ha h4),hr.tq,hr.tf,hr.tw,hr.tr⟩,h.old,h.bel.trans (hc.below fun q hq=>⟨Nat.lt_of_lt_of_le hq h.bel.size,fun e=>by omega⟩)⟩
theorem Ab.set {g:Nat} {cs:Array Value} {t:TypeId} (h:Ab w0 W T A R ((g,cs,t)::L)) (h5:5≠t) (h6:167≠t) (hg:w0.heap.size≤g) (hL:∀x∈L,x.1≠g) (i:Nat) (v:Value):Ab w0 (W.setCell ⟨g,i,none⟩ v) T A R ((g,cs.setIfInBounds i v,t)::L):=by
 obtain⟨b1,b2,b3,b4,b7,b8⟩:=h.box _ List.mem_cons_self;have hst:Chg (fun p=>p=g) W (W.setCell ⟨g,i,none⟩ v):=Chg.setCell (S:=fun p=>p=g) (Chg.refl _ _) ⟨g,i,none⟩ (.inl rfl) _;refine⟨h.ln.boxed b1 b2 b3 b4 b7 b8 h5 h6 hg hst,fun x hx=> ?_⟩;rcases List.mem_cons.1 hx with e|e
 ·subst e
  exact⟨b1.set i v,b2,b3,b4,b7,b8⟩
 ·obtain⟨k1,k2⟩:=h.box x (List.mem_cons_of_mem _ e)
  exact⟨k1.mod hst (hL x e),k2⟩
end
def stCells (g:Int) (M:Nat):Array Value:=((List.range M).map fun m=>.int .u8 (if (m:Int)=g then 2 else 1)).toArray
theorem stCells_at (g:Int) (M m:Nat) (h:m<M):(stCells g M)[m]?=some (.int .u8 (if (m:Int)=g then 2 else 1)):=by simp[stCells,h]
def arCells (b stg:Nat) (vr:Value) (wp id ev sf M C S ring:Nat) (lazy:Bool):Array Value:=
 #[.pointer (some ⟨b,0,none⟩),.int .u64 id,.int .u64 ev,.int .u64 sf,.int .i64 0,.int .i64 M,.int .i64 C,.int .i64 S,.int .i64 ring,.bool lazy,.bool false,.slice (some ⟨stg,0,none⟩) M M,.int .i64 0,vr,.pointer (some ⟨wp,0,none⟩),.bool false,.int .u16 0,.bool true,.bool false]
end
def upV (v z:Value) (n M:Nat):List Value:=List.replicate n v++List.replicate (M-n) z
theorem upV_length (v z:Value) {n M:Nat} (h:n≤M):(upV v z n M).length=M:=by simp[upV];omega
theorem upV_get (v z:Value) {n M j:Nat} (h:j<n):(upV v z n M)[j]?=some v:=by
 unfold upV;rw[List.getElem?_append_left (by simpa using h)];simp[h]
theorem upV_splice (v z:Value) (n k M:Nat) (h:n+k≤M):splice (upV v z n M) n (List.replicate k v)=upV v z (n+k) M:=by
 unfold splice upV;rw[List.take_append_of_le_length (by simp),List.take_of_length_le (by simp),List.drop_append,<-List.append_assoc];simp only [List.length_replicate,List.drop_replicate,List.replicate_append_replicate,show n-(n+k)=0 by omega,List.replicate_zero,List.nil_append,show M-n-(n+k-n)=M-(n+k) by omega]
theorem slice_states:SliceOf Tryz.prog 62 102 1 1:=SliceOf.mk' (z:=.int .u8 0) Tryz.underlying62 (by decide) (by kernel_rfl) rfl
theorem mul64_fill (n:Nat) (h1:64≤n) (h2:n≤77) (w:World):Calls Tryz.prog 125 #[.int .u64 1,.int .u64 n] w fun e w'=>e=.returned (.tuple #[.int .u64 0,.int .u64 n])/\w'=w:=by
 have h:n=64\/n=65\/n=66\/n=67\/n=68\/n=69\/n=70\/n=71\/n=72\/n=73\/n=74\/n=75\/n=76\/n=77:=by omega
 clear h1 h2;rcases h with rfl|rfl|rfl|rfl|rfl|rfl|rfl|rfl|rfl|rfl|rfl|rfl|rfl|rfl
 all_goals (go_enter Tryz.func125,Tryz.ntmps125;go_wp2;go_ret2;exact⟨rfl,rfl⟩)
theorem mul_fill (n:Nat) (h1:64≤n) (h2:n≤77) (w:World):Calls Tryz.prog 83 #[.int .u64 1,.int .u64 n] w fun e w'=>e=.returned (.tuple #[.int .u64 0,.int .u64 n])/\w'=w:=by
 go_enter Tryz.func83,Tryz.ntmps83;go_wp2_with (go_at_call 125;(with_reducible refine(mul64_fill n h1 h2 _).mono ?_);rintro e w1 ⟨rfl,hw1⟩;subst hw1);go_ret2;exact⟨rfl,rfl⟩
theorem repeat_st (M g:Nat) (h3:3≤M) (hM:M≤16) (w:World) (hx:At w g #[Value.int .u8 1] 102):Calls Tryz.prog 45 #[.slice (some ⟨g,0,none⟩) 1 1,.int .i64 M] w fun e w'=>e=.returned (.slice (some ⟨w.heap.size,0,none⟩) M M)/\At w' w.heap.size (stCells (-1) M) 102/\Below w.heap.size w w':=by
 have HX:=Lib.hid hx;have d1:decide ((M:Int)<0)=false:=by simp
 have d2:decide (9223372036854775807<(M:Int))=false:=by simp;omega
 clear hx;go_enter Tryz.func45,Tryz.ntmps45
 go_wp2_with (first
  |(go_at_call 83;(with_reducible refine(mul_one M hM _).mono ?_);rintro e w1 ⟨rfl,hw1⟩;subst hw1)
  |(refine Zaq rfl _ _ 62 102 1 1 rfl slice_states (.int .u8 0) (by kernel_rfl) _ _ _ _ M rfl rfl rfl rfl (by omega) (by unfold maxLen;omega) ?_;intro w2 a2 b2;have A2:Hid (At w2 w1.heap.size (List.replicate M (Value.int .u8 0)).toArray 102):=(by rw[Nat.mul_one]at a2;exact a2);have B2:=Lib.hid b2;clear a2 b2)
  |(refine wpList_copy_splice rfl _ _ 62 62 rfl 102 Tryz.underlying62 (by kernel_rfl) _ _ _ _ _ _ rfl rfl w1.heap.size 0 (List.replicate M (Value.int .u8 0)) 102 A2.out [Value.int .u8 1] (by show 1=Nat.min 1 M;exact(Nat.min_eq_left (by omega)).symm) (fun hp=>⟨rfl,_,rfl,fun j v hj=>by
     have hj0:j=0:=by
      rcases j with _|j
      ·rfl
      ·simp at hj
     subst hj0
     simp at hj
     subst hj
     exact(HX.out.below B2.out HX.out.lt).cell 0⟩) (by rw[List.length_replicate];show 0+1≤M;omega) (by intro v hv;simp at hv;subst hv;rfl) w1.heap.size w1 B2.out (Nat.le_refl _) ?_;intro w3 hg3 hb3;have HG3:=Lib.hid hg3.out;have HB3:=Lib.hid hb3;clear hg3 hb3))
 have HR0:Hid (At w3 w1.heap.size (upV (Value.int .u8 1) (.int .u8 0) 1 M).toArray 102):=by
  have e:=upV_splice (Value.int .u8 1) (.int .u8 0) 0 1 M (by omega);have h:=HG3.out;rw[show List.replicate M (Value.int .u8 0)=upV (Value.int .u8 1) (.int .u8 0) 0 M by simp[upV]]at h;have e2:splice (upV (Value.int .u8 1) (.int .u8 0) 0 M) 0 [Value.int .u8 1]=upV (Value.int .u8 1) (.int .u8 0) 1 M:=e;rw[e2]at h;exact h
 clear HG3;go_loopw [8] (fun q wr=>∃n:Nat,1≤n/\n≤M/\q=.int .i64 n/\At wr w1.heap.size (upV (Value.int .u8 1) (.int .u8 0) n M).toArray 102/\Below w1.heap.size w1 wr) (fun q _=>M-(intOf q).toNat);case atStart=>exact⟨1,by omega,by omega,rfl,HR0.out,HB3.out⟩
 case round=>
  obtain⟨n,hn1,hn,rfl,hat,hbw⟩:=hrel;have HA:=Lib.hid hat;have HB:=Lib.hid hbw;clear hat hbw;by_cases hnM:n<M
  ·obtain⟨k,hk⟩:∃k,k=Nat.min n (M-n):=⟨_,rfl⟩
   have hk1:1≤k/\k≤n/\k≤M-n:=by
    rw[hk];exact⟨Nat.le_min.2 ⟨hn1,by omega⟩,Nat.min_le_left _ _,Nat.min_le_right _ _⟩
   have HK:=Lib.hid hk;have hMn:¬M=n:=by omega
   clear hk;go_wp2;go_region_held3 (fun W=>Below w1.heap.size w1 W)
    (first|exact HB.out|exact HB.out.drew|exact HB4.out)
    (first
     |(refine step_copy_splice rfl _ _ 62 62 rfl 102 Tryz.underlying62 (by kernel_rfl) _ _ _ _ _ _ rfl rfl w1.heap.size n (upV (Value.int .u8 1) (.int .u8 0) n M) 102 HA.out (List.replicate k (Value.int .u8 1)) (by rw[List.length_replicate];exact HK.out) (fun hp=>⟨by (first|rfl|exact if_neg hMn),_,rfl,fun j v hj=>by
       rw[List.getElem?_replicate]at hj
       split at hj
       ·simp at hj
        subst hj
        rw[Addr.add_mid,Nat.zero_add]
        refine(HA.out.cell j).trans ?_
        rw[List.getElem?_toArray]
        exact upV_get (Value.int .u8 1) (.int .u8 0) (by omega)
       ·cases hj⟩) (by rw[List.length_replicate,upV_length (Value.int .u8 1) (.int .u8 0) hn];omega) (by intro v hv;rw[(List.mem_replicate.1 hv).2];rfl) w1.heap.size w1 (by first|exact HB.out|exact HB.out.drew) (Nat.le_refl _) ?_;intro w4 hg4 hb4;have HG4:=Lib.hid hg4.out;have HB4:=Lib.hid hb4;clear hg4 hb4))
   have HR4:Hid (At w4 w1.heap.size (upV (Value.int .u8 1) (.int .u8 0) (n+k) M).toArray 102):=by
    have h:=HG4.out;rw[upV_splice (Value.int .u8 1) (.int .u8 0) n k M (by omega)]at h;exact h
   have hnk:n+k≤M:=by omega
   have hwr:IntKind.i64.wrap ((n:Int)+k)=((n+k:Nat):Int):=by rw[IntKind.wrap_i64];omega
   clear HG4;rw[hwr];go_wp2;exact⟨⟨n+k,by omega,hnk,rfl,HR4.out,HB4.out⟩,by simp[intOf];omega⟩
  ·obtain rfl:n=M:=by omega
   go_wp2;go_ret;refine⟨rfl,?_,HB.out⟩;have h:=HA.out;have e:(upV (Value.int .u8 1) (.int .u8 0) n n).toArray=stCells (-1) n:=by
    have e1:(List.range n).map (fun m:Nat=>Value.int .u8 (if (m:Int)= -1 then 2 else 1))=List.replicate n (Value.int .u8 1):=by
     rw[show(fun m:Nat=>Value.int .u8 (if (m:Int)= -1 then 2 else 1))=fun _=>Value.int .u8 1 from funext fun m=>by rw[if_neg (by omega)],List.map_const',List.length_range]
    unfold stCells;rw[e1];simp[upV]
   rw[e]at h;exact h
theorem repeat_b (M g:Nat) (h3:64≤M) (hM:M≤77) (w:World) (hx:At w g #[Value.int .u8 0] 5):Calls Tryz.prog 200 #[.slice (some ⟨g,0,none⟩) 1 1,.int .i64 M] w fun e w'=>e=.returned (.slice (some ⟨w.heap.size,0,none⟩) M M)/\At w' w.heap.size (ucells (List.replicate M 0)).toArray 5/\Below w.heap.size w w':=by
 have HX:=Lib.hid hx;have d1:decide ((M:Int)<0)=false:=by simp
 have d2:decide (9223372036854775807<(M:Int))=false:=by simp;omega
 clear hx;go_enter Tryz.func200,Tryz.ntmps200
 go_wp2_with (first
  |(go_at_call 83;(with_reducible refine(mul_fill M h3 hM _).mono ?_);rintro e w1 ⟨rfl,hw1⟩;subst hw1)
  |(refine Zaq rfl _ _ 36 5 1 1 rfl Zat (.int .u8 0) (by kernel_rfl) _ _ _ _ M rfl rfl rfl rfl (by omega) (by unfold maxLen;omega) ?_;intro w2 a2 b2;have A2:Hid (At w2 w1.heap.size (List.replicate M (Value.int .u8 0)).toArray 5):=(by rw[Nat.mul_one]at a2;exact a2);have B2:=Lib.hid b2;clear a2 b2)
  |(refine wpList_copy_splice rfl _ _ 36 36 rfl 5 Tryz.underlying36 (by kernel_rfl) _ _ _ _ _ _ rfl rfl w1.heap.size 0 (List.replicate M (Value.int .u8 0)) 5 A2.out [Value.int .u8 0] (by show 1=Nat.min 1 M;exact(Nat.min_eq_left (by omega)).symm) (fun hp=>⟨rfl,_,rfl,fun j v hj=>by
     have hj0:j=0:=by
      rcases j with _|j
      ·rfl
      ·simp at hj
     subst hj0
     simp at hj
     subst hj
     exact(HX.out.below B2.out HX.out.lt).cell 0⟩) (by rw[List.length_replicate];show 0+1≤M;omega) (by intro v hv;simp at hv;subst hv;rfl) w1.heap.size w1 B2.out (Nat.le_refl _) ?_;intro w3 hg3 hb3;have HG3:=Lib.hid hg3.out;have HB3:=Lib.hid hb3;clear hg3 hb3))
 have HR0:Hid (At w3 w1.heap.size (upV (Value.int .u8 0) (.int .u8 0) 1 M).toArray 5):=by
  have e:=upV_splice (Value.int .u8 0) (.int .u8 0) 0 1 M (by omega);have h:=HG3.out;rw[show List.replicate M (Value.int .u8 0)=upV (Value.int .u8 0) (.int .u8 0) 0 M by simp[upV]]at h;have e2:splice (upV (Value.int .u8 0) (.int .u8 0) 0 M) 0 [Value.int .u8 0]=upV (Value.int .u8 0) (.int .u8 0) 1 M:=e;rw[e2]at h;exact h
 clear HG3;go_loopw [8] (fun q wr=>∃n:Nat,1≤n/\n≤M/\q=.int .i64 n/\At wr w1.heap.size (upV (Value.int .u8 0) (.int .u8 0) n M).toArray 5/\Below w1.heap.size w1 wr) (fun q _=>M-(intOf q).toNat);case atStart=>exact⟨1,by omega,by omega,rfl,HR0.out,HB3.out⟩
 case round=>
  obtain⟨n,hn1,hn,rfl,hat,hbw⟩:=hrel;have HA:=Lib.hid hat;have HB:=Lib.hid hbw;clear hat hbw;by_cases hnM:n<M
  ·obtain⟨k,hk⟩:∃k,k=Nat.min n (M-n):=⟨_,rfl⟩
   have hk1:1≤k/\k≤n/\k≤M-n:=by
    rw[hk];exact⟨Nat.le_min.2 ⟨hn1,by omega⟩,Nat.min_le_left _ _,Nat.min_le_right _ _⟩
   have HK:=Lib.hid hk;have hMn:¬M=n:=by omega
   clear hk;go_wp2;go_region_held3 (fun W=>Below w1.heap.size w1 W)
    (first|exact HB.out|exact HB.out.drew|exact HB4.out)
    (first
     |(refine step_copy_splice rfl _ _ 36 36 rfl 5 Tryz.underlying36 (by kernel_rfl) _ _ _ _ _ _ rfl rfl w1.heap.size n (upV (Value.int .u8 0) (.int .u8 0) n M) 5 HA.out (List.replicate k (Value.int .u8 0)) (by rw[List.length_replicate];exact HK.out) (fun hp=>⟨by (first|rfl|exact if_neg hMn),_,rfl,fun j v hj=>by
       rw[List.getElem?_replicate]at hj
       split at hj
       ·simp at hj
        subst hj
        rw[Addr.add_mid,Nat.zero_add]
        refine(HA.out.cell j).trans ?_
        rw[List.getElem?_toArray]
        exact upV_get (Value.int .u8 0) (.int .u8 0) (by omega)
       ·cases hj⟩) (by rw[List.length_replicate,upV_length (Value.int .u8 0) (.int .u8 0) hn];omega) (by intro v hv;rw[(List.mem_replicate.1 hv).2];rfl) w1.heap.size w1 (by first|exact HB.out|exact HB.out.drew) (Nat.le_refl _) ?_;intro w4 hg4 hb4;have HG4:=Lib.hid hg4.out;have HB4:=Lib.hid hb4;clear hg4 hb4))
   have HR4:Hid (At w4 w1.heap.size (upV (Value.int .u8 0) (.int .u8 0) (n+k) M).toArray 5):=by
    have h:=HG4.out;rw[upV_splice (Value.int .u8 0) (.int .u8 0) n k M (by omega)]at h;exact h
   have hnk:n+k≤M:=by omega
   have hwr:IntKind.i64.wrap ((n:Int)+k)=((n+k:Nat):Int):=by rw[IntKind.wrap_i64];omega
   clear HG4;rw[hwr];go_wp2;exact⟨⟨n+k,by omega,hnk,rfl,HR4.out,HB4.out⟩,by simp[intOf];omega⟩
  ·obtain rfl:n=M:=by omega
   go_wp2;go_ret;refine⟨rfl,?_,HB.out⟩;have h:=HA.out;have e:(upV (Value.int .u8 0) (.int .u8 0) n n).toArray=(ucells (List.replicate n 0)).toArray:=by
    unfold ucells;rw[List.map_replicate];simp[upV]
   rw[e]at h;exact h
theorem le_u8 {w:World} {B p size:Nat} {bv:Value} {l:List UInt8} (h:PackAt w B p size bv l) (v:Nat) (hv:v<256) (hn:l.length+1≤size):
  Calls Tryz.prog 180 #[.pointer (some ⟨p,0,none⟩),.int .u8 v] w fun e w'=>e=.returned (.tuple #[])/\PackPost w B p size (l++leN v 1) w':=by
 have HN:Hid (Calls Tryz.prog 201 #[.pointer (some ⟨p,0,none⟩),.int .u64 v,.int .i64 1] w fun e w'=>e=.returned (.tuple #[])/\PackPost w B p size (l++leN v 1) w'):=Zlk h v 1 (by omega) hn;have h64:(v:Int)%18446744073709551616=(v:Int):=by omega
 clear h;go_enter Tryz.func180,Tryz.ntmps180
 go_wp2_with (first
  |(go_at_call 201;(with_reducible refine HN.out.mono ?_);rintro e w1 ⟨rfl,hp⟩;have HP:=Lib.hid hp;clear hp))
 go_end0;exact⟨rfl,HP.out⟩
theorem le_u16 {w:World} {B p size:Nat} {bv:Value} {l:List UInt8} (h:PackAt w B p size bv l) (v:Nat) (hv:v<65536) (hn:l.length+2≤size):
  Calls Tryz.prog 189 #[.pointer (some ⟨p,0,none⟩),.int .u16 v] w fun e w'=>e=.returned (.tuple #[])/\PackPost w B p size (l++leN v 2) w':=by
 have HN:Hid (Calls Tryz.prog 201 #[.pointer (some ⟨p,0,none⟩),.int .u64 v,.int .i64 2] w fun e w'=>e=.returned (.tuple #[])/\PackPost w B p size (l++leN v 2) w'):=Zlk h v 2 (by omega) hn;have h64:(v:Int)%18446744073709551616=(v:Int):=by omega
 clear h;go_enter Tryz.func189,Tryz.ntmps189
 go_wp2_with (first
  |(go_at_call 201;(with_reducible refine HN.out.mono ?_);rintro e w1 ⟨rfl,hp⟩;have HP:=Lib.hid hp;clear hp))
 go_end0;exact⟨rfl,HP.out⟩
theorem le_at {w:World} {B p size:Nat} {bv:Value} {l:List UInt8} (h:PackAt w B p size bv l):
  Calls Tryz.prog 130 #[.pointer (some ⟨p,0,none⟩)] w fun e w'=>e=.returned (.int .i64 (l.length:Int))/\w'=w:=by
 have c1:w.cell? ⟨p,1,none⟩=some bv:=h.box.cell 1;obtain⟨a,c,rfl⟩:=Zab h.row;clear h;generalize l.length=n at*;go_enter Tryz.func130,Tryz.ntmps130;go_wp2;go_ret;exact⟨rfl,rfl⟩
theorem le_fill {w:World} {B p size:Nat} {bv:Value} {l:List UInt8} (h:PackAt w B p size bv l) (n:Nat) (h64:64≤n) (h77:n≤77) (hn:l.length+n≤size):
  Calls Tryz.prog 129 #[.pointer (some ⟨p,0,none⟩),.int .i64 n,.int .u8 0] w fun e w'=>e=.returned (.tuple #[])/\PackPost w B p size (l++List.replicate n 0) w':=by
 have HR:=Lib.hid (Zsh h n hn);have HP:=Lib.hid h;have h2:=h.few;have hlo:=h.lo;have hplt:=h.box.lt;obtain⟨ba,bc,rfl⟩:=Zab h.row;clear h;have d0:decide ((0:Int)<n)=true:=decide_eq_true (by omega);have HRP:Hid (∀W g,At W g #[.int .u8 0] 5->Calls Tryz.prog 200 #[.slice (some ⟨g,0,none⟩) 1 1,.int .i64 n] W fun e w'=>e=.returned (.slice (some ⟨W.heap.size,0,none⟩) n n)/\At w' W.heap.size (ucells (List.replicate n 0)).toArray 5/\Below W.heap.size W w'):=fun W g h=>repeat_b n g h64 h77 W h
 go_enter Tryz.func129,Tryz.ntmps129
 go_wp2_with (first
  |(go_at_call 199;(with_reducible refine HR.out.mono ?_);rintro e w1 ⟨rfl,hb0⟩;have HP1:=Lib.hid (HP.out.below hb0);have c1:w1.cell? ⟨p,1,none⟩=some (.slice ba l.length bc):=HP1.out.box.cell 1;have HB1:Hid (Below B w w1):=hb0.mono (Nat.le_of_lt (Nat.lt_of_le_of_lt hlo HP.out.box.lt));have HK1:=Lib.hid (Keeps.of hb0);have hlt1:=HP1.out.box.lt;clear hb0))
 have hlow1:B≤w1.heap.size:=Nat.le_of_lt (Nat.lt_of_le_of_lt hlo hlt1);have HA2:Hid (At (w1.alloc (.cells #[.int .u8 0] 5)).drew w1.heap.size #[.int .u8 0] 5):=(At.new w1 _ _).drew;have HBA:Hid (Below w1.heap.size w1 (w1.alloc (.cells #[.int .u8 0] 5)).drew):=((Below.refl w1.heap.size w1).alloc (Nat.le_refl _) _).drew;have HSZ:Hid ((w1.alloc (.cells #[.int .u8 0] 5)).drew.heap.size=w1.heap.size+1):=Zaa _ _;have c1d:w1.drew.cell? ⟨p,1,none⟩=some (.slice ba l.length bc):=c1;have c1a:(w1.alloc (.cells #[.int .u8 0] 5)).drew.cell? ⟨p,1,none⟩=some (.slice ba l.length bc):=(HBA.out.cell (p:=⟨p,1,none⟩) hlt1).trans c1;refine wp_region_noPanic ?_;refine wp_region_held_drew (S:=fun w'=>True) (by kernel_rfl) trivial (fun hHeld=> ?_);refine wpAnyH_take (i:=0) (v:=(.pointer (some ⟨p,0,none⟩))) rfl (by kernel_rfl) (by kernel_rfl) (by kernel_rfl) (fun _ _ _ h=>h) (Or.inl ⟨by rfl,fun w hSw=>by go_simp⟩) trivial ?_;try simp only [Act.put,List.setIfInBounds_toArray]
 refine wpAnyH_take (i:=1) (v:=(.pointer (some ⟨p,0,none⟩))) rfl (by kernel_rfl) (by kernel_rfl) (by kernel_rfl) (fun _ _ _ h=>h) (Or.inl ⟨by rfl,fun w hSw=>by go_simp⟩) trivial ?_;try simp only [Act.put]
 refine wpAnyH_take (i:=2) (v:=(.pointer (some ⟨p,0,none⟩))) rfl (by kernel_rfl) (by kernel_rfl) (by kernel_rfl) (fun _ _ _ h=>h) (Or.inl ⟨by rfl,fun w hSw=>by go_simp⟩) trivial ?_;try simp only [Act.put]
 refine wpAnyH_take (i:=3) (v:=(.pointer (some ⟨p,1,none⟩))) rfl (by kernel_rfl) (by kernel_rfl) (by kernel_rfl) (fun _ _ _ h=>h) (Or.inl ⟨by rfl,fun w hSw=>by go_simp⟩) trivial ?_;try simp only [Act.put]
 refine wpAnyH_take (i:=5) (v:=(.int .u8 0)) rfl (by kernel_rfl) (by kernel_rfl) (by kernel_rfl) (fun _ _ _ h=>h) (Or.inl ⟨by rfl,fun w hSw=>by go_simp⟩) trivial ?_;try simp only [Act.put]
 refine wpAnyH_take (i:=7) (v:=(.int .i64 n)) rfl (by kernel_rfl) (by kernel_rfl) (by kernel_rfl) (fun _ _ _ h=>h) (Or.inl ⟨by rfl,fun w hSw=>by go_simp⟩) trivial ?_;try simp only [Act.put]
 refine wpAnyH_ready (rs := [4, 6]) (by kernel_rfl) (by simp) ?_; refine AllReadyH.cons (o := { dst := some 17, op := Op.load 36 (Operand.tmp 16), type := 36, pos := "le.go:66", after := #[{ on := 3, ground := Ground.data }], guard := none }) rfl (fun K hK => ?_) (AllReadyH.cons (o := { dst := some 19, op := Op.buildSlice 36 1 #[(0, Operand.tmp 18)], type := 36, pos := "le.go:66", after := #[{ on := 5, ground := Ground.data }], guard := none }) rfl (fun K hK => ?_) (AllReadyH.nil)); focus
  go_simp
  refine hK.out _ _ trivial (fun hHeld=> ?_)
  clear hK K
  try simp only [Act.put,List.setIfInBounds_toArray,List.set_cons_zero,List.set_cons_succ]
  refine wpAnyH_ready (rs:= [6]) (by kernel_rfl) (by simp) ?_
  refine AllReadyH.cons (o := { dst := some 19, op := Op.buildSlice 36 1 #[(0, Operand.tmp 18)], type := 36, pos := "le.go:66", after := #[{ on := 5, ground := Ground.data }], guard := none }) rfl (fun K hK => ?_) (AllReadyH.nil)
  go_simp
  refine hK.out _ _ trivial (fun hHeld=> ?_)
  clear hK K
  try simp only [Act.put,List.setIfInBounds_toArray,List.set_cons_zero,List.set_cons_succ]
  refine wpAnyH_ready (rs:= [8]) (by kernel_rfl) (by simp) ?_
  refine AllReadyH.cons (o := { dst := some 21, op := Op.call { callee := Callee.value (Operand.func 200), args := #[Operand.tmp 19, Operand.tmp 20], argTypes := #[36, 3] }, type := 36, pos := "le.go:66", after := #[{ on := 6, ground := Ground.data }, { on := 7, ground := Ground.data }], guard := none }) rfl (fun K hK => ?_) (AllReadyH.nil)
  go_simp
  go_at_call 200
  (with_reducible refine(HRP.out _ _ HA2.out).mono ?_)
  rintro e w3 ⟨rfl,ha3,hb3⟩
  have HB3:Hid (Below w1.heap.size w1 w3):=Zac HBA.out hb3
  have HA3:Hid (At w3 (w1.heap.size+1) (ucells (List.replicate n 0)).toArray 5):=HSZ.out ▸ ha3
  have c3:w3.cell? ⟨p,1,none⟩=some (.slice ba l.length bc):=(HB3.out.cell (p:=⟨p,1,none⟩) hlt1).trans c1
  have HP3:=Lib.hid (HP1.out.below HB3.out)
  clear ha3 hb3
  refine hK.out _ _ trivial (fun hHeld=> ?_)
  clear hK K
  try simp only [Act.put,List.setIfInBounds_toArray,List.set_cons_zero,List.set_cons_succ]
 rotate_left;go_simp;refine hK.out _ _ trivial (fun hHeld=> ?_);clear hK K;try simp only [Act.put,List.setIfInBounds_toArray,List.set_cons_zero,List.set_cons_succ]
 refine wpAnyH_ready (rs := [4, 8]) (by kernel_rfl) (by simp) ?_; refine AllReadyH.cons (o := { dst := some 17, op := Op.load 36 (Operand.tmp 16), type := 36, pos := "le.go:66", after := #[{ on := 3, ground := Ground.data }], guard := none }) rfl (fun K hK => ?_) (AllReadyH.cons (o := { dst := some 21, op := Op.call { callee := Callee.value (Operand.func 200), args := #[Operand.tmp 19, Operand.tmp 20], argTypes := #[36, 3] }, type := 36, pos := "le.go:66", after := #[{ on := 6, ground := Ground.data }, { on := 7, ground := Ground.data }], guard := none }) rfl (fun K hK => ?_) (AllReadyH.nil)); focus
  go_simp
  refine hK.out _ _ trivial (fun hHeld=> ?_)
  clear hK K
  try simp only [Act.put,List.setIfInBounds_toArray,List.set_cons_zero,List.set_cons_succ]
  refine wpAnyH_ready (rs:= [8]) (by kernel_rfl) (by simp) ?_
  refine AllReadyH.cons (o := { dst := some 21, op := Op.call { callee := Callee.value (Operand.func 200), args := #[Operand.tmp 19, Operand.tmp 20], argTypes := #[36, 3] }, type := 36, pos := "le.go:66", after := #[{ on := 6, ground := Ground.data }, { on := 7, ground := Ground.data }], guard := none }) rfl (fun K hK => ?_) (AllReadyH.nil)
  go_simp
  go_at_call 200
  (with_reducible refine(HRP.out _ _ HA2.out).mono ?_)
  rintro e w3 ⟨rfl,ha3,hb3⟩
  have HB3:Hid (Below w1.heap.size w1 w3):=Zac HBA.out hb3
  have HA3:Hid (At w3 (w1.heap.size+1) (ucells (List.replicate n 0)).toArray 5):=HSZ.out ▸ ha3
  have c3:w3.cell? ⟨p,1,none⟩=some (.slice ba l.length bc):=(HB3.out.cell (p:=⟨p,1,none⟩) hlt1).trans c1
  have HP3:=Lib.hid (HP1.out.below HB3.out)
  clear ha3 hb3
  refine hK.out _ _ trivial (fun hHeld=> ?_)
  clear hK K
  try simp only [Act.put,List.setIfInBounds_toArray,List.set_cons_zero,List.set_cons_succ]
 rotate_left;focus
  go_simp
  go_at_call 200
  (with_reducible refine(HRP.out _ _ HA2.out).mono ?_)
  rintro e w3 ⟨rfl,ha3,hb3⟩
  have HB3:Hid (Below w1.heap.size w1 w3):=Zac HBA.out hb3
  have HA3:Hid (At w3 (w1.heap.size+1) (ucells (List.replicate n 0)).toArray 5):=HSZ.out ▸ ha3
  have c3:w3.cell? ⟨p,1,none⟩=some (.slice ba l.length bc):=(HB3.out.cell (p:=⟨p,1,none⟩) hlt1).trans c1
  have HP3:=Lib.hid (HP1.out.below HB3.out)
  clear ha3 hb3
  refine hK.out _ _ trivial (fun hHeld=> ?_)
  clear hK K
  try simp only [Act.put,List.setIfInBounds_toArray,List.set_cons_zero,List.set_cons_succ]
  refine wpAnyH_ready (rs:= [4]) (by kernel_rfl) (by simp) ?_
  refine AllReadyH.cons (o := { dst := some 17, op := Op.load 36 (Operand.tmp 16), type := 36, pos := "le.go:66", after := #[{ on := 3, ground := Ground.data }], guard := none }) rfl (fun K hK => ?_) (AllReadyH.nil)
  go_simp
  refine hK.out _ _ trivial (fun hHeld=> ?_)
  clear hK K
  try simp only [Act.put,List.setIfInBounds_toArray,List.set_cons_zero,List.set_cons_succ]
 rotate_left;all_goals
  refine wpAnyH_ready (rs:= [9]) (by kernel_rfl) (by simp) ?_
  refine AllReadyH.cons (o := { dst := some 22, op := Op.call { callee := Callee.builtin Builtin.append, args := #[Operand.tmp 17, Operand.tmp 21], argTypes := #[36, 36] }, type := 36, pos := "le.go:66", after := #[{ on := 4, ground := Ground.data }, { on := 8, ground := Ground.data }, { on := 8, ground := Ground.chain }], guard := none }) rfl (fun K hK => ?_) (AllReadyH.nil)
  rw[if_pos (by rfl)]
  refine Zia _ _ 36 5 1 1 rfl Zat B (.slice ba l.length bc) l.length _ rfl HP3.out.row _ n n (ucells (List.replicate n 0)) rfl (by rw[Zag,List.length_replicate];omega) (fun j u hj=>by rw[Addr.add_lit,Nat.zero_add];(try rw[HSZ.out]);refine(HA3.out.cell j).trans ?_;rw[List.getElem?_toArray];exact hj) (Za8 _) (by unfold maxLen;omega) (by omega) (Nat.le_of_lt (Nat.lt_of_le_of_lt hlo HP3.out.box.lt)) (by omega) ?_
  intro v' w5 hrow5 hvb5 hc5
  have hbx:=HP3.out.box.mod hc5 (Za4 HP3.out.row HP3.out.box (by decide))
  have d1:w5.cell? ⟨p,1,none⟩=some (.slice ba l.length bc):=hbx.cell 1
  have d1f:=hbx.free 1
  have HBX:=Lib.hid hbx
  have HO5:=Lib.hid hrow5
  have HC5:=Lib.hid hc5
  obtain⟨xa,xc,rfl⟩:=Zab hrow5
  clear hrow5 hvb5 hc5 hbx
  refine hK.out _ _ trivial (fun hHeld=> ?_)
  clear hK K
  try simp only [Act.put,List.setIfInBounds_toArray,List.set_cons_zero,List.set_cons_succ]
  refine wpAnyH_take (i:=10) (v:=(.pointer (some ⟨p,0,none⟩))) rfl (by kernel_rfl) (by kernel_rfl) (by kernel_rfl) (fun _ _ _ h=>h) (Or.inl ⟨by rfl,fun w hSw=>by go_simp⟩) trivial ?_
  try simp only [Act.put,List.setIfInBounds_toArray]
  refine wpAnyH_take (i:=11) (v:=(.pointer (some ⟨p,1,none⟩))) rfl (by kernel_rfl) (by kernel_rfl) (by kernel_rfl) (fun _ _ _ h=>h) (Or.inl ⟨by rfl,fun w hSw=>by go_simp⟩) trivial ?_
  try simp only [Act.put]
  refine wpAnyH_ready (rs:= [12]) (by kernel_rfl) (by simp) ?_
  refine AllReadyH.cons (o := { dst := none, op := Op.store 36 (Operand.tmp 24) (Operand.tmp 22), type := 0, pos := "le.go:66", after := #[{ on := 11, ground := Ground.data }, { on := 9, ground := Ground.data }, { on := 9, ground := Ground.chain }, { on := 0, ground := Ground.phase }, { on := 1, ground := Ground.phase }, { on := 2, ground := Ground.phase }, { on := 3, ground := Ground.phase }, { on := 4, ground := Ground.phase }, { on := 5, ground := Ground.phase }, { on := 6, ground := Ground.phase }, { on := 7, ground := Ground.phase }, { on := 8, ground := Ground.phase }, { on := 9, ground := Ground.phase }], guard := none }) rfl (fun K hK => ?_) (AllReadyH.nil)
  go_simp
  refine hK.out _ _ trivial (fun hHeld=> ?_)
  clear hK K
  try simp only [Act.put,List.setIfInBounds_toArray,List.set_cons_zero,List.set_cons_succ]
  refine wpAnyH_done (by kernel_rfl) ?_ _
  refine NoPanic.normal ?_
  go_end0
  have hset:Chg (fun q=>q=p) w5 (w5.setCell ⟨p,1,none⟩ (.slice xa (l.length+n) xc)):=Chg.setCell (S:=fun q=>q=p) (Chg.refl _ _) ⟨p,1,none⟩ (.inl rfl) _
  have hb5:Below B w w5:=Zcb (HB1.out.trans (HB3.out.mono hlow1)) (Nat.le_trans hlow1 HB3.out.size) HC5.out (fun q hq=>(HP3.out.row.lt q hq).1)
  have hk5:Keeps w w5:=(HK1.out.trans (Keeps.of HB3.out)).row HP3.out.row HC5.out
  refine⟨rfl,⟨.slice xa (l.length+n) xc,HBX.out.set 1 _,?_,hlo,by rw[List.length_append,List.length_replicate];exact hn,h2⟩,hb5.setCell (p:=⟨p,1,none⟩) hlo _,hk5.set HBX.out 1 _⟩
  have e:ucells (l++List.replicate n 0)=ucells l++ucells (List.replicate n 0):=by simp[ucells]
  rw[List.length_append,List.length_replicate,e]
  exact Zad HO5.out hset (fun g hg e=>Za4 HO5.out HBX.out (by decide) (e ▸ hg))
abbrev suVal (id ev sf role M C S ring:Nat) (lazy:Bool) (vs:Value):Value:=.agg #[.int .u64 id,.int .u64 ev,.int .u64 sf,.int .i64 role,.int .i64 M,.int .i64 C,.int .i64 S,.int .i64 ring,.bool lazy,.bool false,vs,.int .i64 0]
abbrev suBox (id ev sf role M C S ring:Nat) (lazy:Bool) (vs:Value):Array Value:= #[.int .u64 id,.int .u64 ev,.int .u64 sf,.int .i64 role,.int .i64 M,.int .i64 C,.int .i64 S,.int .i64 ring,.bool lazy,.bool false,vs,.int .i64 0]
def PutPost (W:World) (B p:Nat) (l:List UInt8) (n:Nat) (e:Ending) (W':World):Prop:=e=.returned (.tuple #[])/\∃l':List UInt8,l'.length=l.length+n/\PackPost W B p 128 l' W'
theorem PutPost.of {W W':World} {B p:Nat} {l m:List UInt8} {n:Nat} (hm:m.length=n) (h:PackPost W B p 128 (l++m) W'):PutPost W B p l n (.returned (.tuple #[])) W':=⟨rfl,_,by rw[List.length_append,hm],h⟩
theorem PackPost.after {W W1 W':World} {B p:Nat} {l:List UInt8} (hb:Below W.heap.size W W1) (hB:B≤W.heap.size) (h:PackPost W1 B p 128 l W'):PackPost W B p 128 l W':=⟨h.1,(hb.mono hB).trans h.2.1,(Keeps.of hb).trans h.2.2⟩
theorem PutPost.after {W W1 W':World} {B p:Nat} {l:List UInt8} {n:Nat} {e:Ending} (hb:Below W.heap.size W W1) (hB:B≤W.heap.size) (h:PutPost W1 B p l n e W'):PutPost W B p l n e W':=⟨h.1,h.2.imp fun l' k=>⟨k.1,k.2.after hb hB⟩⟩
def sbMagic:List UInt8:= [83,80,83,66,1,0,0,0]
theorem sb_magic (w:World):Calls Tryz.prog 170 #[] w fun e w'=>e=.returned (.slice (some ⟨w.heap.size,0,none⟩) 8 8)/\Seg w' (.slice (some ⟨w.heap.size,0,none⟩) 8 8) sbMagic/\Below w.heap.size w w':=by
 have kc:(convert 36 36 (.slice (some ⟨w.heap.size,0,none⟩) 8 8)).run Tryz.prog (w.alloc (.cells #[.int .u8 83,.int .u8 80,.int .u8 83,.int .u8 66,.int .u8 1,.int .u8 0,.int .u8 0,.int .u8 0] 5))=.ok (.slice (some ⟨w.heap.size,0,none⟩) 8 8) (w.alloc (.cells #[.int .u8 83,.int .u8 80,.int .u8 83,.int .u8 66,.int .u8 1,.int .u8 0,.int .u8 0,.int .u8 0] 5 (8,9))):=
  Lib.run_convert_bytes_const (P:=Tryz.prog) w 36 5 _ 8 8 Tryz.underlying36 Tryz.underlying5
 go_enter Tryz.func170,Tryz.ntmps170;go_wp2;go_ret;exact⟨rfl,Seg.new w sbMagic 5 8 (Nat.le_refl _) (8,9),(Below.refl _ _).alloc (Nat.le_refl _) _⟩
theorem put_magic {w:World} {B p:Nat} {bv su:Value} {l:List UInt8} (h:PackAt w B p 128 bv l) (hn:l.length+8≤128) (id ev sf role M C S ring:Nat) (lazy:Bool) (va:Option Addr) (vn vc:Nat) (hs:su=suVal id ev sf role M C S ring lazy (.slice va vn vc)):
  Calls Tryz.prog 168 #[.pointer (some ⟨p,0,none⟩),su] w (PutPost w B p l 8):=by
 subst hs;have HB1:Hid (Below w.heap.size w (w.alloc (.cells (suBox id ev sf role M C S ring lazy (.slice va vn vc)) 64))):=(Below.refl _ _).alloc (Nat.le_refl _) _;have HP:=Lib.hid h;have HN:Hid (l.length+sbMagic.length≤128):=hn;have hB:B≤w.heap.size:=Nat.le_of_lt (Nat.lt_of_le_of_lt h.lo h.box.lt);clear h hn;go_enter Tryz.func168,Tryz.ntmps168
 go_wp2_with (first
  |(go_at_call 170;(with_reducible refine(sb_magic _).mono ?_);rintro e w2 ⟨rfl,hs2,hb2⟩;rw[Zaa]at hs2;have HS2:=Lib.hid hs2;have HB2:=Lib.hid (Zac HB1.out hb2);have HP2:=Lib.hid (HP.out.below HB2.out);clear hs2 hb2)
  |(go_at_call 169;(with_reducible refine(Zjd HP2.out _ sbMagic HS2.out HN.out).mono ?_);rintro e w3 ⟨rfl,hp3⟩;have HP3:=Lib.hid hp3;clear hp3))
 go_end0;exact(PutPost.of rfl HP3.out).after HB2.out hB
theorem sb_bits (w:World) (id ev sf role M C S ring:Nat) (lazy:Bool) (va:Option Addr) (vn vc:Nat):Calls Tryz.prog 186 #[suVal id ev sf role M C S ring lazy (.slice va vn vc)] w fun e w'=>e=.returned (.int .u8 (if lazy then 1 else 0))/\Below w.heap.size w w':=by
 cases lazy
 all_goals
  go_enter Tryz.func186,Tryz.ntmps186
  go_wp2
  go_ret
  exact⟨rfl,(Below.refl _ _).alloc (Nat.le_refl _) _⟩
theorem put_bits {w:World} {B p:Nat} {bv su:Value} {l:List UInt8} (h:PackAt w B p 128 bv l) (hn:l.length+1≤128) (id ev sf role M C S ring:Nat) (lazy:Bool) (va:Option Addr) (vn vc:Nat) (hs:su=suVal id ev sf role M C S ring lazy (.slice va vn vc)):
  Calls Tryz.prog 185 #[.pointer (some ⟨p,0,none⟩),su] w (PutPost w B p l 1):=by
 subst hs;have HB1:Hid (Below w.heap.size w (w.alloc (.cells (suBox id ev sf role M C S ring lazy (.slice va vn vc)) 64))):=(Below.refl _ _).alloc (Nat.le_refl _) _;have HP:=Lib.hid h;have hB:B≤w.heap.size:=Nat.le_of_lt (Nat.lt_of_le_of_lt h.lo h.box.lt);have HBT:=Lib.hid (fun w=>sb_bits w id ev sf role M C S ring lazy va vn vc);obtain⟨v,hv,hv2⟩:∃v:Nat,(if lazy=true then (1:Int)else 0)=(v:Int)/\v<256:=by cases lazy;exact⟨0,rfl,by omega⟩;exact⟨1,rfl,by omega⟩
 rw[hv]at HBT;clear h hv;go_enter Tryz.func185,Tryz.ntmps185
 go_wp2_with (first
  |(go_at_call 186;(with_reducible refine(HBT.out _).mono ?_);rintro e w2 ⟨rfl,hb2⟩;have HB2:=Lib.hid (Zac HB1.out hb2);have HP2:=Lib.hid (HP.out.below HB2.out);clear hb2)
  |(go_at_call 180;(with_reducible refine(le_u8 HP2.out v hv2 hn).mono ?_);rintro e w3 ⟨rfl,hp3⟩;have HP3:=Lib.hid hp3;clear hp3))
 go_end0;exact(PutPost.of (Zal _ _) HP3.out).after HB2.out hB
theorem put_pad {w:World} {B p:Nat} {bv su:Value} {l:List UInt8} (h:PackAt w B p 128 bv l) (hn:l.length+2≤128) (id ev sf role M C S ring:Nat) (lazy:Bool) (va:Option Addr) (vn vc:Nat) (hs:su=suVal id ev sf role M C S ring lazy (.slice va vn vc)):
  Calls Tryz.prog 194 #[.pointer (some ⟨p,0,none⟩),su] w (PutPost w B p l 2):=by
 subst hs;have HB1:Hid (Below w.heap.size w (w.alloc (.cells (suBox id ev sf role M C S ring lazy (.slice va vn vc)) 64))):=(Below.refl _ _).alloc (Nat.le_refl _) _;have hB:B≤w.heap.size:=Nat.le_of_lt (Nat.lt_of_le_of_lt h.lo h.box.lt);have HU:Hid (∀W,PackAt W B p 128 bv l->Calls Tryz.prog 189 #[.pointer (some ⟨p,0,none⟩),.int .u16 0] W fun e w'=>e=.returned (.tuple #[])/\PackPost W B p 128 (l++leN 0 2) w'):=fun W hW=>le_u16 hW 0 (by omega) hn
 have HP:=Lib.hid (h.below HB1.out);clear h;go_enter Tryz.func194,Tryz.ntmps194
 go_wp2_with (first
  |(go_at_call 189;(with_reducible refine(HU.out _ HP.out).mono ?_);rintro e w3 ⟨rfl,hp3⟩;have HP3:=Lib.hid hp3;clear hp3))
 go_end0;exact(PutPost.of (Zal _ _) HP3.out).after HB1.out hB
theorem put_states {w:World} {B p g:Nat} {bv su:Value} {l:List UInt8} (h:PackAt w B p 128 bv l) (f:Nat->Nat) (hf:∀i,f i<256) (cs:Array Value) (hg:At w g cs 102) (id ev sf role M C S ring:Nat) (hcs:∀i,i<M->cs[i]?=some (.int .u8 (f i))) (hn:l.length+M≤128) (lazy:Bool) (hs:su=suVal id ev sf role M C S ring lazy (.slice (some ⟨g,0,none⟩) M M)):
  Calls Tryz.prog 197 #[.pointer (some ⟨p,0,none⟩),su] w (PutPost w B p l M):=by
 subst hs;obtain⟨w1,hw1⟩:∃w1,w1=w.alloc (.cells (suBox id ev sf role M C S ring lazy (.slice (some ⟨g,0,none⟩) M M)) 64):=⟨_,rfl⟩;have HB1:Hid (Below w.heap.size w w1):=by rw[hw1];exact(Below.refl _ _).alloc (Nat.le_refl _) _
 have hB:B≤w.heap.size:=Nat.le_of_lt (Nat.lt_of_le_of_lt h.lo h.box.lt);have HP1:=Lib.hid (h.below HB1.out);have HG1:=Lib.hid (hg.below HB1.out hg.lt);have HCS:=Lib.hid hcs;have HF:=Lib.hid hf;have HN:=Lib.hid hn;clear h hg hcs hf hn;have HG0:Hid (g<w1.heap.size):=HG1.out.lt;have HEND:Hid (∀wr l' bv',l'.length=l.length+M->PackAt wr B p 128 bv' l'->Below B w1 wr->Keeps w1 wr->PutPost w B p l M (.returned (.tuple #[])) wr):=fun wr l' bv' h1 h2 h3 h4=>PutPost.after HB1.out hB ⟨rfl,l',h1,⟨bv',h2⟩,h3,h4⟩
 have HKG:Hid (∀wr,Keeps w1 wr->At wr g cs 102):=fun wr hk=>hk g cs _ (by decide) (by decide) HG1.out
 have HM:Hid (M≤128):=by have:=HN.out;show M≤128;omega
 subst hw1;clear HB1;go_enter Tryz.func197,Tryz.ntmps197;go_wp2;generalize hw1:w.alloc (.cells (suBox id ev sf role M C S ring lazy (.slice (some ⟨g,0,none⟩) M M)) 64)=w1 at*;go_loopw [9] (fun q wr=>∃k:Nat,k≤M/\q=.int .i64 k/\∃l' bv',l'.length=l.length+k/\PackAt wr B p 128 bv' l'/\Below B w1 wr/\Keeps w1 wr) (fun q _=>M-(intOf q).toNat);case atStart=>exact⟨0,Nat.zero_le _,rfl,l,bv,rfl,HP1.out,Below.refl _ _,Keeps.refl _⟩
 case round=>
  obtain⟨k,hk,rfl,l',bv',hl,hp,hb,hkp⟩:=hrel;have HP:=Lib.hid hp;have HB:=Lib.hid hb;have HKP:=Lib.hid hkp;have HL:=Lib.hid hl;clear hp hb hkp hl;by_cases hk2:k<M
  ·have hg:=HKG.out wr HKP.out
   have ck:wr.cell? ⟨g,k,none⟩=some (.int .u8 (f k)):=(hg.cell k).trans (HCS.out k hk2);have hM:=HM.out;have HU8:Hid (∀x:Nat,x=f k->Calls Tryz.prog 180 #[.pointer (some ⟨p,0,none⟩),.int .u8 x] wr fun e w'=>e=.returned (.tuple #[])/\PackPost wr B p 128 (l'++leN x 1) w'):=fun x hx=>le_u8 HP.out x (by rw[hx];exact HF.out k) (by rw[HL.out];have:=HN.out;omega)
   generalize hfk:f k=x at*;clear hg
   go_wp2_with (first
    |(go_at_call 180;(with_reducible refine(HU8.out _ rfl).mono ?_);rintro e w3 ⟨rfl,hp3⟩;have HP3:=Lib.hid hp3;clear hp3))
   obtain⟨⟨bv3,h1⟩,h2,h3⟩:=HP3.out;exact⟨⟨k+1,hk2,by go_num,_,bv3,by rw[List.length_append,Zal,HL.out];omega,h1,HB.out.trans h2,HKP.out.trans h3⟩,by simp[intOf];omega⟩
  ·obtain rfl:k=M:=by omega
   have hM:=HM.out;go_wp2;go_end0;exact HEND.out wr l' bv' HL.out HP.out HB.out HKP.out
def FieldAt (af:FuncId) (off:Nat):Prop:=(∀(W:World) (b:Nat),Calls Tryz.prog af #[.pointer (some ⟨b,0,none⟩)] W fun e w'=>e=.returned (.pointer (some ⟨b,off,none⟩))/\w'=W)/\∀(args:Array Value) (W:World),(callFunc af args).run Tryz.prog W=.ok (.enter af args) W
theorem enter_of {P : Program} {f : FuncId} {fn : Func} {c : Code} (hf : P.funcs[f]? = some fn) (hname : (fn.name == "runtime.NumGoroutine") = false) (hb : fn.body = some c) (args : Array Value) (w : World) : (callFunc f args).run P w = .ok (.enter f args) w := by
 have h1 : fn.name ≠ "runtime.NumGoroutine" := by simpa using hname
 simp[callFunc,hf,h1,hb]
theorem at_id:FieldAt 176 0:=⟨fun W b=>by
 go_enter Tryz.func176,Tryz.ntmps176
 go_wp2
 go_ret
 exact⟨rfl,rfl⟩,fun args W=>enter_of Tryz.func176 (by kernel_rfl) rfl args W⟩
theorem at_events:FieldAt 177 1:=⟨fun W b=>by
 go_enter Tryz.func177,Tryz.ntmps177
 go_wp2
 go_ret
 exact⟨rfl,rfl⟩,fun args W=>enter_of Tryz.func177 (by kernel_rfl) rfl args W⟩
theorem at_safe:FieldAt 178 2:=⟨fun W b=>by
 go_enter Tryz.func178,Tryz.ntmps178
 go_wp2
 go_ret
 exact⟨rfl,rfl⟩,fun args W=>enter_of Tryz.func178 (by kernel_rfl) rfl args W⟩
theorem at_role:FieldAt 182 3:=⟨fun W b=>by
 go_enter Tryz.func182,Tryz.ntmps182
 go_wp2
 go_ret
 exact⟨rfl,rfl⟩,fun args W=>enter_of Tryz.func182 (by kernel_rfl) rfl args W⟩
theorem at_members:FieldAt 183 4:=⟨fun W b=>by
 go_enter Tryz.func183,Tryz.ntmps183
 go_wp2
 go_ret
 exact⟨rfl,rfl⟩,fun args W=>enter_of Tryz.func183 (by kernel_rfl) rfl args W⟩
theorem at_chunk:FieldAt 184 5:=⟨fun W b=>by
 go_enter Tryz.func184,Tryz.ntmps184
 go_wp2
 go_ret
 exact⟨rfl,rfl⟩,fun args W=>enter_of Tryz.func184 (by kernel_rfl) rfl args W⟩
theorem at_stripes:FieldAt 191 6:=⟨fun W b=>by
 go_enter Tryz.func191,Tryz.ntmps191
 go_wp2
 go_ret
 exact⟨rfl,rfl⟩,fun args W=>enter_of Tryz.func191 (by kernel_rfl) rfl args W⟩
theorem at_ring:FieldAt 192 7:=⟨fun W b=>by
 go_enter Tryz.func192,Tryz.ntmps192
 go_wp2
 go_ret
 exact⟨rfl,rfl⟩,fun args W=>enter_of Tryz.func192 (by kernel_rfl) rfl args W⟩
theorem at_cursor:FieldAt 193 11:=⟨fun W b=>by
 go_enter Tryz.func193,Tryz.ntmps193
 go_wp2
 go_ret
 exact⟨rfl,rfl⟩,fun args W=>enter_of Tryz.func193 (by kernel_rfl) rfl args W⟩
theorem put_u64 {w:World} {B p qp qa:Nat} {bv su:Value} {l:List UInt8} (h:PackAt w B p 128 bv l) (hn:l.length+8≤128) (af:FuncId) (off:Nat) (haf:FieldAt af off) (hqp:At w qp #[.func (.func 174) #[] #[]] 255) (hqa:At w qa #[.func (.func af) #[] #[]] 260)
  (id ev sf role M C S ring:Nat) (lazy:Bool) (va:Option Addr) (vn vc v:Nat) (hv:v<18446744073709551616) (hoff:(suBox id ev sf role M C S ring lazy (.slice va vn vc))[off]?=some (.int .u64 v)) (hs:su=suVal id ev sf role M C S ring lazy (.slice va vn vc)):
  Calls Tryz.prog 234 #[.pointer (some ⟨p,0,none⟩),su,.pointer (some ⟨qp,0,none⟩),.pointer (some ⟨qa,0,none⟩)] w (PutPost w B p l 8):=by
 subst hs;have hB:B≤w.heap.size:=Nat.le_of_lt (Nat.lt_of_le_of_lt h.lo h.box.lt);have HB1:Hid (Below w.heap.size w (w.alloc (.cells (suBox id ev sf role M C S ring lazy (.slice va vn vc)) 64))):=(Below.refl _ _).alloc (Nat.le_refl _) _;have hsb:=At.new w (suBox id ev sf role M C S ring lazy (.slice va vn vc)) 64;have cv:(w.alloc (.cells (suBox id ev sf role M C S ring lazy (.slice va vn vc)) 64)).cell? ⟨w.heap.size,off,none⟩=some (.int .u64 v):=(hsb.cell off).trans hoff;have cp:(w.alloc (.cells (suBox id ev sf role M C S ring lazy (.slice va vn vc)) 64)).cell? ⟨qp,0,none⟩=some (.func (.func 174) #[] #[]):=(hqp.below HB1.out hqp.lt).cell 0;have ca:(w.alloc (.cells (suBox id ev sf role M C S ring lazy (.slice va vn vc)) 64)).cell? ⟨qa,0,none⟩=some (.func (.func af) #[] #[]):=(hqa.below HB1.out hqa.lt).cell 0;have HU:Hid (∀W,PackAt W B p 128 bv l->Calls Tryz.prog 174 #[.pointer (some ⟨p,0,none⟩),.int .u64 v] W fun e w'=>e=.returned (.tuple #[])/\PackPost W B p 128 (l++leN v 8) w'):=fun W hW=>Zi4 hW v hv hn
 have HP1:=Lib.hid (h.below HB1.out);have HPD:=Lib.hid ((h.below HB1.out).below (Below.refl _ _).drew);have HAF:=Lib.hid haf.1;have hcf:=haf.2;have HQP:=Lib.hid (hqp.below HB1.out hqp.lt);have HQA:=Lib.hid (hqa.below HB1.out hqa.lt);have HSB:=Lib.hid hsb;have hmod:IntKind.u64.wrap (v:Int)=(v:Int):=by rw[IntKind.wrap_u64];omega
 clear h hqp hqa hsb hoff haf;go_enter Tryz.func234,Tryz.ntmps234;go_wp2;generalize hw1:w.alloc (.cells (suBox id ev sf role M C S ring lazy (.slice va vn vc)) 64)=w1 at*;have cvd:w1.drew.cell? ⟨w.heap.size,off,none⟩=some (.int .u64 v):=cv;have cpd:w1.drew.cell? ⟨qp,0,none⟩=some (.func (.func 174) #[] #[]):=cp;have cad:w1.drew.cell? ⟨qa,0,none⟩=some (.func (.func af) #[] #[]):=ca;have HS:Hid (∀w',Keeps w1.drew w'->w'.cell? ⟨w.heap.size,off,none⟩=some (.int .u64 v)/\w'.cell? ⟨qp,0,none⟩=some (.func (.func 174) #[] #[])/\w'.cell? ⟨qa,0,none⟩=some (.func (.func af) #[] #[])):=fun w' hk=>⟨by rw[<-cvd];exact((hk _ _ _ (by decide) (by decide) HSB.out.drew).cell off).trans (HSB.out.drew.cell off).symm,(hk _ _ _ (by decide) (by decide) HQP.out.drew).cell 0,(hk _ _ _ (by decide) (by decide) HQA.out.drew).cell 0⟩
 go_region_held3 (fun w'=>w'.cell? ⟨w.heap.size,off,none⟩=some (.int .u64 v)/\w'.cell? ⟨qp,0,none⟩=some (.func (.func 174) #[] #[])/\w'.cell? ⟨qa,0,none⟩=some (.func (.func af) #[] #[]))
  (first|exact⟨cvd,cpd,cad⟩|exact HS.out _ (Keeps.refl _)|exact HS.out _ HP3.out.2.2)
  (first
   |(go_at_call 174;(with_reducible refine(HU.out _ HPD.out).mono ?_);rintro e w3 ⟨rfl,hp3⟩;have HP3:=Lib.hid hp3;clear hp3)
   |(with_reducible refine(HAF.out _ _).mono ?_;rintro e w2 ⟨rfl,hw2⟩;subst hw2))
 go_end0;exact(PutPost.of (Zal _ _) HP3.out).after (HB1.out.trans ((Below.refl _ _).drew)) hB
theorem put_u8 {w:World} {B p qp qa:Nat} {bv su:Value} {l:List UInt8} (h:PackAt w B p 128 bv l) (hn:l.length+1≤128) (af:FuncId) (off:Nat) (haf:FieldAt af off) (hqp:At w qp #[.func (.func 180) #[] #[]] 262) (hqa:At w qa #[.func (.func af) #[] #[]] 266)
  (id ev sf role M C S ring:Nat) (lazy:Bool) (va:Option Addr) (vn vc v:Nat) (hv:v<256) (hoff:(suBox id ev sf role M C S ring lazy (.slice va vn vc))[off]?=some (.int .i64 v)) (hs:su=suVal id ev sf role M C S ring lazy (.slice va vn vc)):
  Calls Tryz.prog 237 #[.pointer (some ⟨p,0,none⟩),su,.pointer (some ⟨qp,0,none⟩),.pointer (some ⟨qa,0,none⟩)] w (PutPost w B p l 1):=by
 subst hs;have hB:B≤w.heap.size:=Nat.le_of_lt (Nat.lt_of_le_of_lt h.lo h.box.lt);have HB1:Hid (Below w.heap.size w (w.alloc (.cells (suBox id ev sf role M C S ring lazy (.slice va vn vc)) 64))):=(Below.refl _ _).alloc (Nat.le_refl _) _;have hsb:=At.new w (suBox id ev sf role M C S ring lazy (.slice va vn vc)) 64;have cv:(w.alloc (.cells (suBox id ev sf role M C S ring lazy (.slice va vn vc)) 64)).cell? ⟨w.heap.size,off,none⟩=some (.int .i64 v):=(hsb.cell off).trans hoff;have cp:(w.alloc (.cells (suBox id ev sf role M C S ring lazy (.slice va vn vc)) 64)).cell? ⟨qp,0,none⟩=some (.func (.func 180) #[] #[]):=(hqp.below HB1.out hqp.lt).cell 0;have ca:(w.alloc (.cells (suBox id ev sf role M C S ring lazy (.slice va vn vc)) 64)).cell? ⟨qa,0,none⟩=some (.func (.func af) #[] #[]):=(hqa.below HB1.out hqa.lt).cell 0;have HU:Hid (∀W,PackAt W B p 128 bv l->Calls Tryz.prog 180 #[.pointer (some ⟨p,0,none⟩),.int .u8 v] W fun e w'=>e=.returned (.tuple #[])/\PackPost W B p 128 (l++leN v 1) w'):=fun W hW=>le_u8 hW v hv hn
 have HP1:=Lib.hid (h.below HB1.out);have HPD:=Lib.hid ((h.below HB1.out).below (Below.refl _ _).drew);have HAF:=Lib.hid haf.1;have hcf:=haf.2;have HQP:=Lib.hid (hqp.below HB1.out hqp.lt);have HQA:=Lib.hid (hqa.below HB1.out hqa.lt);have HSB:=Lib.hid hsb;have hmod:IntKind.u8.wrap (v:Int)=(v:Int):=by rw[IntKind.wrap_u8];omega
 clear h hqp hqa hsb hoff haf;go_enter Tryz.func237,Tryz.ntmps237;go_wp2;generalize hw1:w.alloc (.cells (suBox id ev sf role M C S ring lazy (.slice va vn vc)) 64)=w1 at*;have cvd:w1.drew.cell? ⟨w.heap.size,off,none⟩=some (.int .i64 v):=cv;have cpd:w1.drew.cell? ⟨qp,0,none⟩=some (.func (.func 180) #[] #[]):=cp;have cad:w1.drew.cell? ⟨qa,0,none⟩=some (.func (.func af) #[] #[]):=ca;have HS:Hid (∀w',Keeps w1.drew w'->w'.cell? ⟨w.heap.size,off,none⟩=some (.int .i64 v)/\w'.cell? ⟨qp,0,none⟩=some (.func (.func 180) #[] #[])/\w'.cell? ⟨qa,0,none⟩=some (.func (.func af) #[] #[])):=fun w' hk=>⟨by rw[<-cvd];exact((hk _ _ _ (by decide) (by decide) HSB.out.drew).cell off).trans (HSB.out.drew.cell off).symm,(hk _ _ _ (by decide) (by decide) HQP.out.drew).cell 0,(hk _ _ _ (by decide) (by decide) HQA.out.drew).cell 0⟩
 go_region_held3 (fun w'=>w'.cell? ⟨w.heap.size,off,none⟩=some (.int .i64 v)/\w'.cell? ⟨qp,0,none⟩=some (.func (.func 180) #[] #[])/\w'.cell? ⟨qa,0,none⟩=some (.func (.func af) #[] #[]))
  (first|exact⟨cvd,cpd,cad⟩|exact HS.out _ (Keeps.refl _)|exact HS.out _ HP3.out.2.2)
  (first
   |(go_at_call 180;(with_reducible refine(HU.out _ HPD.out).mono ?_);rintro e w3 ⟨rfl,hp3⟩;have HP3:=Lib.hid hp3;clear hp3)
   |(with_reducible refine(HAF.out _ _).mono ?_;rintro e w2 ⟨rfl,hw2⟩;subst hw2))
 go_end0;exact(PutPost.of (Zal _ _) HP3.out).after (HB1.out.trans ((Below.refl _ _).drew)) hB
theorem put_u16 {w:World} {B p qp qa:Nat} {bv su:Value} {l:List UInt8} (h:PackAt w B p 128 bv l) (hn:l.length+2≤128) (af:FuncId) (off:Nat) (haf:FieldAt af off) (hqp:At w qp #[.func (.func 189) #[] #[]] 269) (hqa:At w qa #[.func (.func af) #[] #[]] 266)
  (id ev sf role M C S ring:Nat) (lazy:Bool) (va:Option Addr) (vn vc v:Nat) (hv:v<65536) (hoff:(suBox id ev sf role M C S ring lazy (.slice va vn vc))[off]?=some (.int .i64 v)) (hs:su=suVal id ev sf role M C S ring lazy (.slice va vn vc)):
  Calls Tryz.prog 239 #[.pointer (some ⟨p,0,none⟩),su,.pointer (some ⟨qp,0,none⟩),.pointer (some ⟨qa,0,none⟩)] w (PutPost w B p l 2):=by
 subst hs;have hB:B≤w.heap.size:=Nat.le_of_lt (Nat.lt_of_le_of_lt h.lo h.box.lt);have HB1:Hid (Below w.heap.size w (w.alloc (.cells (suBox id ev sf role M C S ring lazy (.slice va vn vc)) 64))):=(Below.refl _ _).alloc (Nat.le_refl _) _;have hsb:=At.new w (suBox id ev sf role M C S ring lazy (.slice va vn vc)) 64;have cv:(w.alloc (.cells (suBox id ev sf role M C S ring lazy (.slice va vn vc)) 64)).cell? ⟨w.heap.size,off,none⟩=some (.int .i64 v):=(hsb.cell off).trans hoff;have cp:(w.alloc (.cells (suBox id ev sf role M C S ring lazy (.slice va vn vc)) 64)).cell? ⟨qp,0,none⟩=some (.func (.func 189) #[] #[]):=(hqp.below HB1.out hqp.lt).cell 0;have ca:(w.alloc (.cells (suBox id ev sf role M C S ring lazy (.slice va vn vc)) 64)).cell? ⟨qa,0,none⟩=some (.func (.func af) #[] #[]):=(hqa.below HB1.out hqa.lt).cell 0;have HU:Hid (∀W,PackAt W B p 128 bv l->Calls Tryz.prog 189 #[.pointer (some ⟨p,0,none⟩),.int .u16 v] W fun e w'=>e=.returned (.tuple #[])/\PackPost W B p 128 (l++leN v 2) w'):=fun W hW=>le_u16 hW v hv hn
 have HP1:=Lib.hid (h.below HB1.out);have HPD:=Lib.hid ((h.below HB1.out).below (Below.refl _ _).drew);have HAF:=Lib.hid haf.1;have hcf:=haf.2;have HQP:=Lib.hid (hqp.below HB1.out hqp.lt);have HQA:=Lib.hid (hqa.below HB1.out hqa.lt);have HSB:=Lib.hid hsb;have hmod:IntKind.u16.wrap (v:Int)=(v:Int):=by rw[IntKind.wrap_u16];omega
 clear h hqp hqa hsb hoff haf;go_enter Tryz.func239,Tryz.ntmps239;go_wp2;generalize hw1:w.alloc (.cells (suBox id ev sf role M C S ring lazy (.slice va vn vc)) 64)=w1 at*;have cvd:w1.drew.cell? ⟨w.heap.size,off,none⟩=some (.int .i64 v):=cv;have cpd:w1.drew.cell? ⟨qp,0,none⟩=some (.func (.func 189) #[] #[]):=cp;have cad:w1.drew.cell? ⟨qa,0,none⟩=some (.func (.func af) #[] #[]):=ca;have HS:Hid (∀w',Keeps w1.drew w'->w'.cell? ⟨w.heap.size,off,none⟩=some (.int .i64 v)/\w'.cell? ⟨qp,0,none⟩=some (.func (.func 189) #[] #[])/\w'.cell? ⟨qa,0,none⟩=some (.func (.func af) #[] #[])):=fun w' hk=>⟨by rw[<-cvd];exact((hk _ _ _ (by decide) (by decide) HSB.out.drew).cell off).trans (HSB.out.drew.cell off).symm,(hk _ _ _ (by decide) (by decide) HQP.out.drew).cell 0,(hk _ _ _ (by decide) (by decide) HQA.out.drew).cell 0⟩
 go_region_held3 (fun w'=>w'.cell? ⟨w.heap.size,off,none⟩=some (.int .i64 v)/\w'.cell? ⟨qp,0,none⟩=some (.func (.func 189) #[] #[])/\w'.cell? ⟨qa,0,none⟩=some (.func (.func af) #[] #[]))
  (first|exact⟨cvd,cpd,cad⟩|exact HS.out _ (Keeps.refl _)|exact HS.out _ HP3.out.2.2)
  (first
   |(go_at_call 189;(with_reducible refine(HU.out _ HPD.out).mono ?_);rintro e w3 ⟨rfl,hp3⟩;have HP3:=Lib.hid hp3;clear hp3)
   |(with_reducible refine(HAF.out _ _).mono ?_;rintro e w2 ⟨rfl,hw2⟩;subst hw2))
 go_end0;exact(PutPost.of (Zal _ _) HP3.out).after (HB1.out.trans ((Below.refl _ _).drew)) hB
structure SuFit (W:World) (id ev sf role M C S ring stg:Nat):Prop where
 st:∃(f:Nat->Nat) (cs:Array Value),(∀i,f i<256)/\At W stg cs 102/\∀i:Nat,i<M->cs[i]?=some (Value.int .u8 (f i))
 id:id<18446744073709551616
 ev:ev<18446744073709551616
 sf:sf<18446744073709551616
 role:role<256
 M:M≤16
 C:C<256
 S:S<65536
 ring:ring<65536
abbrev suV (id ev sf role M C S ring:Nat) (lazy:Bool) (stg:Nat):Value:=suVal id ev sf role M C S ring lazy (.slice (some ⟨stg,0,none⟩) M M)
def Puts (W:World) (f:FuncId) (c:Array Value) (n:Nat) (su:Value):Prop:=(∀(args:Array Value) (w:World),(callFunc f args).run Tryz.prog w=.ok (.enter f args) w)/\∀(w:World) (B p:Nat) (bv:Value) (l:List UInt8),Keeps W w->PackAt w B p 128 bv l->l.length+n≤128->Calls Tryz.prog f (#[.pointer (some ⟨p,0,none⟩),su]++c) w (PutPost w B p l n)
theorem Puts.mono {W W':World} {f:FuncId} {c:Array Value} {n:Nat} {su:Value} (h:Puts W f c n su) (hk:Keeps W W'):Puts W' f c n su:=⟨h.1,fun w B p bv l k=>h.2 w B p bv l (hk.trans k)⟩
def sbLen (M k:Nat):Nat:= [8,8,8,8,1,1,1,1,2,2,2,2,M].getD k 0
def sbTo (M k:Nat):Nat:= [0,8,16,24,32,33,34,35,36,38,40,42,44].getD k (44+M)
theorem sbTo_succ (M k:Nat) (h:k<13):sbTo M (k+1)=sbTo M k+sbLen M k:=by
 have:k=0\/k=1\/k=2\/k=3\/k=4\/k=5\/k=6\/k=7\/k=8\/k=9\/k=10\/k=11\/k=12:=by omega
 rcases this with rfl|rfl|rfl|rfl|rfl|rfl|rfl|rfl|rfl|rfl|rfl|rfl|rfl<;>rfl
theorem sbTo_le (M k:Nat) (h:k≤13):sbTo M k≤44+M:=by
 have:k=0\/k=1\/k=2\/k=3\/k=4\/k=5\/k=6\/k=7\/k=8\/k=9\/k=10\/k=11\/k=12\/k=13:=by omega
 rcases this with rfl|rfl|rfl|rfl|rfl|rfl|rfl|rfl|rfl|rfl|rfl|rfl|rfl|rfl<;>(simp[sbTo]<;>omega)
def FieldsAt (W:World) (g M:Nat) (su:Value):Prop:=∃cs,At W g cs 207/\∀k,k<13->∃f c f2 c2,cs[k*2]?=some (.func (.func f) #[] c)/\cs[k*2+1]?=some (.func (.func f2) #[] c2)/\Puts W f c (sbLen M k) su
theorem FieldsAt.keeps {W W':World} {g M:Nat} {su:Value} (h:FieldsAt W g M su) (hk:Keeps W W'):FieldsAt W' g M su:=by
 obtain⟨cs,h1,h2⟩:=h;refine⟨cs,hk _ _ _ (by decide) (by decide) h1,fun k hk2=> ?_⟩;obtain⟨f,c,f2,c2,a,b,d⟩:=h2 k hk2;exact⟨f,c,f2,c2,a,b,d.mono hk⟩
theorem num_u64 (w:World) (af:FuncId):Calls Tryz.prog 173 #[.func (.func 174) #[] #[],.func (.func 175) #[] #[],.func (.func af) #[] #[]] w fun e w'=>∃qp qg qa,e=.returned (.agg #[.func (.func 234) #[] #[.pointer (some ⟨qp,0,none⟩),.pointer (some ⟨qa,0,none⟩)],.func (.func 235) #[] #[.pointer (some ⟨qg,0,none⟩),.pointer (some ⟨qa,0,none⟩)]])/\At w' qp #[.func (.func 174) #[] #[]] 255/\At w' qa #[.func (.func af) #[] #[]] 260/\Below w.heap.size w w':=by
 have hmf:∀(fn:Fn) (first cap:Array Value) (w:World),(Instr.makeFunc fn first cap).run Tryz.prog w=.ok (.func fn first cap) w:=fun _ _ _ _=>rfl
 have hsf:=fun (a:Addr) (fn:Fn) (c:Array Value) (w:World)=>run_store Tryz.prog w a (.func fn #[] c) .plain rfl
 go_enter Tryz.func173,Tryz.ntmps173;go_wp2;have e2:((w.alloc (.cells #[.func (.func 174) #[] #[]] 255)).alloc (.cells #[.func (.func 175) #[] #[]] 257)).heap.size=w.heap.size+1+1:=by rw[Zaa,Zaa]
 have e3:(((w.alloc (.cells #[.func (.func 174) #[] #[]] 255)).alloc (.cells #[.func (.func 175) #[] #[]] 257)).alloc (.cells #[.func (.func af) #[] #[]] 260)).heap.size=w.heap.size+1+1+1:=by rw[Zaa,Zaa,Zaa]
 have h0:=At.new w #[.func (.func 174) #[] #[]] 255;have h2:=At.new ((w.alloc (.cells #[.func (.func 174) #[] #[]] 255)).alloc (.cells #[.func (.func 175) #[] #[]] 257)) #[.func (.func af) #[] #[]] 260;rw[e2]at h2;have hA:=((h0.alloc (.cells #[.func (.func 175) #[] #[]] 257)).alloc (.cells #[.func (.func af) #[] #[]] 260)).alloc (.cells #[.func (.func 234) #[] #[.pointer (some ⟨w.heap.size,0,none⟩),.pointer (some ⟨w.heap.size+1+1,0,none⟩)],.func (.func 235) #[] #[.pointer (some ⟨w.heap.size+1,0,none⟩),.pointer (some ⟨w.heap.size+1+1,0,none⟩)]] 207);have hC:=h2.alloc (.cells #[.func (.func 234) #[] #[.pointer (some ⟨w.heap.size,0,none⟩),.pointer (some ⟨w.heap.size+1+1,0,none⟩)],.func (.func 235) #[] #[.pointer (some ⟨w.heap.size+1,0,none⟩),.pointer (some ⟨w.heap.size+1+1,0,none⟩)]] 207);have hB:=((((Below.refl w.heap.size w).alloc (Nat.le_refl _) (.cells #[.func (.func 174) #[] #[]] 255)).alloc (by rw[Zaa];omega) (.cells #[.func (.func 175) #[] #[]] 257)).alloc (by rw[e2];omega) (.cells #[.func (.func af) #[] #[]] 260)).alloc (by rw[e3];omega) (.cells #[.func (.func 234) #[] #[.pointer (some ⟨w.heap.size,0,none⟩),.pointer (some ⟨w.heap.size+1+1,0,none⟩)],.func (.func 235) #[] #[.pointer (some ⟨w.heap.size+1,0,none⟩),.pointer (some ⟨w.heap.size+1+1,0,none⟩)]] 207);refine bodyPost_ret (v:=.agg #[.func (.func 234) #[] #[.pointer (some ⟨w.heap.size,0,none⟩),.pointer (some ⟨w.heap.size+1+1,0,none⟩)],.func (.func 235) #[] #[.pointer (some ⟨w.heap.size+1,0,none⟩),.pointer (some ⟨w.heap.size+1+1,0,none⟩)]]) ?_ rfl ⟨_,_,_,rfl,hA,hC,hB⟩;rw[Zai rfl];go_simp;try rfl
theorem puts_u64 {W:World} {qp qa:Nat} {af:FuncId} {off:Nat} (haf:FieldAt af off) (hqp:At W qp #[.func (.func 174) #[] #[]] 255) (hqa:At W qa #[.func (.func af) #[] #[]] 260) (id ev sf role M C S ring stg v:Nat) (lazy:Bool) (hv:v<18446744073709551616) (hoff:(suBox id ev sf role M C S ring lazy (.slice (some ⟨stg,0,none⟩) M M))[off]?=some (.int .u64 v)):Puts W 234 #[.pointer (some ⟨qp,0,none⟩),.pointer (some ⟨qa,0,none⟩)] 8 (suV id ev sf role M C S ring lazy stg):=
 ⟨fun args w=>enter_of Tryz.func234 (by kernel_rfl) rfl args w,fun w B p bv l hk hp hl=>put_u64 hp hl af off haf (hk _ _ _ (by decide) (by decide) hqp) (hk _ _ _ (by decide) (by decide) hqa) id ev sf role M C S ring lazy _ M M v hv hoff rfl⟩
theorem num_u8 (w:World) (af:FuncId):Calls Tryz.prog 179 #[.func (.func 180) #[] #[],.func (.func 181) #[] #[],.func (.func af) #[] #[]] w fun e w'=>∃qp qg qa,e=.returned (.agg #[.func (.func 237) #[] #[.pointer (some ⟨qp,0,none⟩),.pointer (some ⟨qa,0,none⟩)],.func (.func 238) #[] #[.pointer (some ⟨qg,0,none⟩),.pointer (some ⟨qa,0,none⟩)]])/\At w' qp #[.func (.func 180) #[] #[]] 262/\At w' qa #[.func (.func af) #[] #[]] 266/\Below w.heap.size w w':=by
 have hmf:∀(fn:Fn) (first cap:Array Value) (w:World),(Instr.makeFunc fn first cap).run Tryz.prog w=.ok (.func fn first cap) w:=fun _ _ _ _=>rfl
 have hsf:=fun (a:Addr) (fn:Fn) (c:Array Value) (w:World)=>run_store Tryz.prog w a (.func fn #[] c) .plain rfl
 go_enter Tryz.func179,Tryz.ntmps179;go_wp2;have e2:((w.alloc (.cells #[.func (.func 180) #[] #[]] 262)).alloc (.cells #[.func (.func 181) #[] #[]] 264)).heap.size=w.heap.size+1+1:=by rw[Zaa,Zaa]
 have e3:(((w.alloc (.cells #[.func (.func 180) #[] #[]] 262)).alloc (.cells #[.func (.func 181) #[] #[]] 264)).alloc (.cells #[.func (.func af) #[] #[]] 266)).heap.size=w.heap.size+1+1+1:=by rw[Zaa,Zaa,Zaa]
 have h0:=At.new w #[.func (.func 180) #[] #[]] 262;have h2:=At.new ((w.alloc (.cells #[.func (.func 180) #[] #[]] 262)).alloc (.cells #[.func (.func 181) #[] #[]] 264)) #[.func (.func af) #[] #[]] 266;rw[e2]at h2;have hA:=((h0.alloc (.cells #[.func (.func 181) #[] #[]] 264)).alloc (.cells #[.func (.func af) #[] #[]] 266)).alloc (.cells #[.func (.func 237) #[] #[.pointer (some ⟨w.heap.size,0,none⟩),.pointer (some ⟨w.heap.size+1+1,0,none⟩)],.func (.func 238) #[] #[.pointer (some ⟨w.heap.size+1,0,none⟩),.pointer (some ⟨w.heap.size+1+1,0,none⟩)]] 207);have hC:=h2.alloc (.cells #[.func (.func 237) #[] #[.pointer (some ⟨w.heap.size,0,none⟩),.pointer (some ⟨w.heap.size+1+1,0,none⟩)],.func (.func 238) #[] #[.pointer (some ⟨w.heap.size+1,0,none⟩),.pointer (some ⟨w.heap.size+1+1,0,none⟩)]] 207);have hB:=((((Below.refl w.heap.size w).alloc (Nat.le_refl _) (.cells #[.func (.func 180) #[] #[]] 262)).alloc (by rw[Zaa];omega) (.cells #[.func (.func 181) #[] #[]] 264)).alloc (by rw[e2];omega) (.cells #[.func (.func af) #[] #[]] 266)).alloc (by rw[e3];omega) (.cells #[.func (.func 237) #[] #[.pointer (some ⟨w.heap.size,0,none⟩),.pointer (some ⟨w.heap.size+1+1,0,none⟩)],.func (.func 238) #[] #[.pointer (some ⟨w.heap.size+1,0,none⟩),.pointer (some ⟨w.heap.size+1+1,0,none⟩)]] 207);refine bodyPost_ret (v:=.agg #[.func (.func 237) #[] #[.pointer (some ⟨w.heap.size,0,none⟩),.pointer (some ⟨w.heap.size+1+1,0,none⟩)],.func (.func 238) #[] #[.pointer (some ⟨w.heap.size+1,0,none⟩),.pointer (some ⟨w.heap.size+1+1,0,none⟩)]]) ?_ rfl ⟨_,_,_,rfl,hA,hC,hB⟩;rw[Zai rfl];go_simp;try rfl
theorem puts_u8 {W:World} {qp qa:Nat} {af:FuncId} {off:Nat} (haf:FieldAt af off) (hqp:At W qp #[.func (.func 180) #[] #[]] 262) (hqa:At W qa #[.func (.func af) #[] #[]] 266) (id ev sf role M C S ring stg v:Nat) (lazy:Bool) (hv:v<256) (hoff:(suBox id ev sf role M C S ring lazy (.slice (some ⟨stg,0,none⟩) M M))[off]?=some (.int .i64 v)):Puts W 237 #[.pointer (some ⟨qp,0,none⟩),.pointer (some ⟨qa,0,none⟩)] 1 (suV id ev sf role M C S ring lazy stg):=
 ⟨fun args w=>enter_of Tryz.func237 (by kernel_rfl) rfl args w,fun w B p bv l hk hp hl=>put_u8 hp hl af off haf (hk _ _ _ (by decide) (by decide) hqp) (hk _ _ _ (by decide) (by decide) hqa) id ev sf role M C S ring lazy _ M M v hv hoff rfl⟩
theorem num_u16 (w:World) (af:FuncId):Calls Tryz.prog 188 #[.func (.func 189) #[] #[],.func (.func 190) #[] #[],.func (.func af) #[] #[]] w fun e w'=>∃qp qg qa,e=.returned (.agg #[.func (.func 239) #[] #[.pointer (some ⟨qp,0,none⟩),.pointer (some ⟨qa,0,none⟩)],.func (.func 240) #[] #[.pointer (some ⟨qg,0,none⟩),.pointer (some ⟨qa,0,none⟩)]])/\At w' qp #[.func (.func 189) #[] #[]] 269/\At w' qa #[.func (.func af) #[] #[]] 266/\Below w.heap.size w w':=by
 have hmf:∀(fn:Fn) (first cap:Array Value) (w:World),(Instr.makeFunc fn first cap).run Tryz.prog w=.ok (.func fn first cap) w:=fun _ _ _ _=>rfl
 have hsf:=fun (a:Addr) (fn:Fn) (c:Array Value) (w:World)=>run_store Tryz.prog w a (.func fn #[] c) .plain rfl
 go_enter Tryz.func188,Tryz.ntmps188;go_wp2;have e2:((w.alloc (.cells #[.func (.func 189) #[] #[]] 269)).alloc (.cells #[.func (.func 190) #[] #[]] 271)).heap.size=w.heap.size+1+1:=by rw[Zaa,Zaa]
 have e3:(((w.alloc (.cells #[.func (.func 189) #[] #[]] 269)).alloc (.cells #[.func (.func 190) #[] #[]] 271)).alloc (.cells #[.func (.func af) #[] #[]] 266)).heap.size=w.heap.size+1+1+1:=by rw[Zaa,Zaa,Zaa]
 have h0:=At.new w #[.func (.func 189) #[] #[]] 269;have h2:=At.new ((w.alloc (.cells #[.func (.func 189) #[] #[]] 269)).alloc (.cells #[.func (.func 190) #[] #[]] 271)) #[.func (.func af) #[] #[]] 266;rw[e2]at h2;have hA:=((h0.alloc (.cells #[.func (.func 190) #[] #[]] 271)).alloc (.cells #[.func (.func af) #[] #[]] 266)).alloc (.cells #[.func (.func 239) #[] #[.pointer (some ⟨w.heap.size,0,none⟩),.pointer (some ⟨w.heap.size+1+1,0,none⟩)],.func (.func 240) #[] #[.pointer (some ⟨w.heap.size+1,0,none⟩),.pointer (some ⟨w.heap.size+1+1,0,none⟩)]] 207);have hC:=h2.alloc (.cells #[.func (.func 239) #[] #[.pointer (some ⟨w.heap.size,0,none⟩),.pointer (some ⟨w.heap.size+1+1,0,none⟩)],.func (.func 240) #[] #[.pointer (some ⟨w.heap.size+1,0,none⟩),.pointer (some ⟨w.heap.size+1+1,0,none⟩)]] 207);have hB:=((((Below.refl w.heap.size w).alloc (Nat.le_refl _) (.cells #[.func (.func 189) #[] #[]] 269)).alloc (by rw[Zaa];omega) (.cells #[.func (.func 190) #[] #[]] 271)).alloc (by rw[e2];omega) (.cells #[.func (.func af) #[] #[]] 266)).alloc (by rw[e3];omega) (.cells #[.func (.func 239) #[] #[.pointer (some ⟨w.heap.size,0,none⟩),.pointer (some ⟨w.heap.size+1+1,0,none⟩)],.func (.func 240) #[] #[.pointer (some ⟨w.heap.size+1,0,none⟩),.pointer (some ⟨w.heap.size+1+1,0,none⟩)]] 207);refine bodyPost_ret (v:=.agg #[.func (.func 239) #[] #[.pointer (some ⟨w.heap.size,0,none⟩),.pointer (some ⟨w.heap.size+1+1,0,none⟩)],.func (.func 240) #[] #[.pointer (some ⟨w.heap.size+1,0,none⟩),.pointer (some ⟨w.heap.size+1+1,0,none⟩)]]) ?_ rfl ⟨_,_,_,rfl,hA,hC,hB⟩;rw[Zai rfl];go_simp;try rfl
theorem puts_u16 {W:World} {qp qa:Nat} {af:FuncId} {off:Nat} (haf:FieldAt af off) (hqp:At W qp #[.func (.func 189) #[] #[]] 269) (hqa:At W qa #[.func (.func af) #[] #[]] 266) (id ev sf role M C S ring stg v:Nat) (lazy:Bool) (hv:v<65536) (hoff:(suBox id ev sf role M C S ring lazy (.slice (some ⟨stg,0,none⟩) M M))[off]?=some (.int .i64 v)):Puts W 239 #[.pointer (some ⟨qp,0,none⟩),.pointer (some ⟨qa,0,none⟩)] 2 (suV id ev sf role M C S ring lazy stg):=
 ⟨fun args w=>enter_of Tryz.func239 (by kernel_rfl) rfl args w,fun w B p bv l hk hp hl=>put_u16 hp hl af off haf (hk _ _ _ (by decide) (by decide) hqp) (hk _ _ _ (by decide) (by decide) hqa) id ev sf role M C S ring lazy _ M M v hv hoff rfl⟩
section
section
variable {W:World} {id ev sf role M C S ring stg:Nat} {lazy:Bool}
theorem puts_magic:Puts W 168 #[] 8 (suV id ev sf role M C S ring lazy stg):=⟨fun args w=>enter_of Tryz.func168 (by kernel_rfl) rfl args w,fun w B p bv l _ hp hl=>put_magic hp hl id ev sf role M C S ring lazy _ M M rfl⟩
theorem puts_bits:Puts W 185 #[] 1 (suV id ev sf role M C S ring lazy stg):=⟨fun args w=>enter_of Tryz.func185 (by kernel_rfl) rfl args w,fun w B p bv l _ hp hl=>put_bits hp hl id ev sf role M C S ring lazy _ M M rfl⟩
theorem puts_pad:Puts W 194 #[] 2 (suV id ev sf role M C S ring lazy stg):=⟨fun args w=>enter_of Tryz.func194 (by kernel_rfl) rfl args w,fun w B p bv l _ hp hl=>put_pad hp hl id ev sf role M C S ring lazy _ M M rfl⟩
theorem puts_states (h:SuFit W id ev sf role M C S ring stg):Puts W 197 #[] M (suV id ev sf role M C S ring lazy stg):=by
 obtain⟨f,cs,h1,h2,h3⟩:=h.st;exact⟨fun args w=>enter_of Tryz.func197 (by kernel_rfl) rfl args w,fun w B p bv l hk hp hl=>put_states hp f h1 cs (hk _ _ _ (by decide) (by decide) h2) id ev sf role M C S ring h3 hl lazy rfl⟩
end
theorem sb_fields (w:World) (id ev sf role M C S ring stg:Nat) (lazy:Bool) (hs:SuFit w id ev sf role M C S ring stg):Calls Tryz.prog 128 #[] w fun e w'=>∃g,e=.returned (.slice (some ⟨g,0,none⟩) 13 13)/\FieldsAt w' g M (suV id ev sf role M C S ring lazy stg)/\Below w.heap.size w w':=by
 have HV1:Hid (id<18446744073709551616):=hs.id;have HV2:Hid (ev<18446744073709551616):=hs.ev;have HV3:Hid (sf<18446744073709551616):=hs.sf;have HV4:Hid (role<256):=hs.role;have HV5:Hid (M<256):=(by have:=hs.M;show M<256;omega);have HV6:Hid (C<256):=hs.C;have HV7:Hid (S<65536):=hs.S;have HV8:Hid (ring<65536):=hs.ring;have HV9:Hid (0<65536):=(by show 0<65536;omega);have HST:=Lib.hid (puts_states (lazy:=lazy) hs);clear hs;go_enter Tryz.func128,Tryz.ntmps128
 go_wp2_with (first
  |(go_at_call 173;(with_reducible refine(num_u64 _ 176).mono ?_);rintro e w1 ⟨qp1,qg1,qa1,rfl,hp1,ha1,hb1⟩;have HQ1:=Lib.hid (puts_u64 at_id hp1 ha1 id ev sf role M C S ring stg id lazy HV1.out rfl);have HB1:=Lib.hid hb1;clear hp1 ha1 hb1)
  |(go_at_call 173;(with_reducible refine(num_u64 _ 177).mono ?_);rintro e w2 ⟨qp2,qg2,qa2,rfl,hp2,ha2,hb2⟩;have HQ2:=Lib.hid (puts_u64 at_events hp2 ha2 id ev sf role M C S ring stg ev lazy HV2.out rfl);have HB2:=Lib.hid hb2;clear hp2 ha2 hb2)
  |(go_at_call 173;(with_reducible refine(num_u64 _ 178).mono ?_);rintro e w3 ⟨qp3,qg3,qa3,rfl,hp3,ha3,hb3⟩;have HQ3:=Lib.hid (puts_u64 at_safe hp3 ha3 id ev sf role M C S ring stg sf lazy HV3.out rfl);have HB3:=Lib.hid hb3;clear hp3 ha3 hb3)
  |(go_at_call 179;(with_reducible refine(num_u8 _ 182).mono ?_);rintro e w4 ⟨qp4,qg4,qa4,rfl,hp4,ha4,hb4⟩;have HQ4:=Lib.hid (puts_u8 at_role hp4 ha4 id ev sf role M C S ring stg role lazy HV4.out rfl);have HB4:=Lib.hid hb4;clear hp4 ha4 hb4)
  |(go_at_call 179;(with_reducible refine(num_u8 _ 183).mono ?_);rintro e w5 ⟨qp5,qg5,qa5,rfl,hp5,ha5,hb5⟩;have HQ5:=Lib.hid (puts_u8 at_members hp5 ha5 id ev sf role M C S ring stg M lazy HV5.out rfl);have HB5:=Lib.hid hb5;clear hp5 ha5 hb5)
  |(go_at_call 179;(with_reducible refine(num_u8 _ 184).mono ?_);rintro e w6 ⟨qp6,qg6,qa6,rfl,hp6,ha6,hb6⟩;have HQ6:=Lib.hid (puts_u8 at_chunk hp6 ha6 id ev sf role M C S ring stg C lazy HV6.out rfl);have HB6:=Lib.hid hb6;clear hp6 ha6 hb6)
  |(go_at_call 188;(with_reducible refine(num_u16 _ 191).mono ?_);rintro e w7 ⟨qp7,qg7,qa7,rfl,hp7,ha7,hb7⟩;have HQ7:=Lib.hid (puts_u16 at_stripes hp7 ha7 id ev sf role M C S ring stg S lazy HV7.out rfl);have HB7:=Lib.hid hb7;clear hp7 ha7 hb7)
  |(go_at_call 188;(with_reducible refine(num_u16 _ 192).mono ?_);rintro e w8 ⟨qp8,qg8,qa8,rfl,hp8,ha8,hb8⟩;have HQ8:=Lib.hid (puts_u16 at_ring hp8 ha8 id ev sf role M C S ring stg ring lazy HV8.out rfl);have HB8:=Lib.hid hb8;clear hp8 ha8 hb8)
  |(go_at_call 188;(with_reducible refine(num_u16 _ 193).mono ?_);rintro e w9 ⟨qp9,qg9,qa9,rfl,hp9,ha9,hb9⟩;have HQ9:=Lib.hid (puts_u16 at_cursor hp9 ha9 id ev sf role M C S ring stg 0 lazy HV9.out rfl);have HB9:=Lib.hid hb9;clear hp9 ha9 hb9))
 go_ret;obtain⟨wf,hwf⟩:∃wf,wf=w9.alloc (.cells #[.func (.func 168) #[] #[],.func (.func 171) #[] #[],.func (.func 234) #[] #[.pointer (some ⟨qp1,0,none⟩),.pointer (some ⟨qa1,0,none⟩)],.func (.func 235) #[] #[.pointer (some ⟨qg1,0,none⟩),.pointer (some ⟨qa1,0,none⟩)],.func (.func 234) #[] #[.pointer (some ⟨qp2,0,none⟩),.pointer (some ⟨qa2,0,none⟩)],.func (.func 235) #[] #[.pointer (some ⟨qg2,0,none⟩),.pointer (some ⟨qa2,0,none⟩)],.func (.func 234) #[] #[.pointer (some ⟨qp3,0,none⟩),.pointer (some ⟨qa3,0,none⟩)],.func (.func 235) #[] #[.pointer (some ⟨qg3,0,none⟩),.pointer (some ⟨qa3,0,none⟩)],.func (.func 237) #[] #[.pointer (some ⟨qp4,0,none⟩),.pointer (some ⟨qa4,0,none⟩)],.func (.func 238) #[] #[.pointer (some ⟨qg4,0,none⟩),.pointer (some ⟨qa4,0,none⟩)],.func (.func 237) #[] #[.pointer (some ⟨qp5,0,none⟩),.pointer (some ⟨qa5,0,none⟩)],.func (.func 238) #[] #[.pointer (some ⟨qg5,0,none⟩),.pointer (some ⟨qa5,0,none⟩)],.func (.func 237) #[] #[.pointer (some ⟨qp6,0,none⟩),.pointer (some ⟨qa6,0,none⟩)],.func (.func 238) #[] #[.pointer (some ⟨qg6,0,none⟩),.pointer (some ⟨qa6,0,none⟩)],.func (.func 185) #[] #[],.func (.func 187) #[] #[],.func (.func 239) #[] #[.pointer (some ⟨qp7,0,none⟩),.pointer (some ⟨qa7,0,none⟩)],.func (.func 240) #[] #[.pointer (some ⟨qg7,0,none⟩),.pointer (some ⟨qa7,0,none⟩)],.func (.func 239) #[] #[.pointer (some ⟨qp8,0,none⟩),.pointer (some ⟨qa8,0,none⟩)],.func (.func 240) #[] #[.pointer (some ⟨qg8,0,none⟩),.pointer (some ⟨qa8,0,none⟩)],.func (.func 239) #[] #[.pointer (some ⟨qp9,0,none⟩),.pointer (some ⟨qa9,0,none⟩)],.func (.func 240) #[] #[.pointer (some ⟨qg9,0,none⟩),.pointer (some ⟨qa9,0,none⟩)],.func (.func 194) #[] #[],.func (.func 195) #[] #[],.func (.func 197) #[] #[],.func (.func 198) #[] #[]] 207):=⟨_,rfl⟩;have k9:Keeps w9 wf:=by rw[hwf];exact Keeps.of ((Below.refl _ _).alloc (Nat.le_refl _) _)
 have b9:Below w9.heap.size w9 wf:=by rw[hwf];exact(Below.refl _ _).alloc (Nat.le_refl _) _
 have k8:=(Keeps.of HB9.out).trans k9;have b8:=Zac HB9.out b9;have k7:=(Keeps.of HB8.out).trans k8;have b7:=Zac HB8.out b8;have k6:=(Keeps.of HB7.out).trans k7;have b6:=Zac HB7.out b7;have k5:=(Keeps.of HB6.out).trans k6;have b5:=Zac HB6.out b6;have k4:=(Keeps.of HB5.out).trans k5;have b4:=Zac HB5.out b5;have k3:=(Keeps.of HB4.out).trans k4;have b3:=Zac HB4.out b4;have k2:=(Keeps.of HB3.out).trans k3;have b2:=Zac HB3.out b3;have k1:=(Keeps.of HB2.out).trans k2;have b1:=Zac HB2.out b2;have k0:=(Keeps.of HB1.out).trans k1;have b0:=Zac HB1.out b1;refine⟨w9.heap.size,rfl,?_,by rw[<-hwf];exact b0⟩;rw[<-hwf];refine⟨#[.func (.func 168) #[] #[],.func (.func 171) #[] #[],.func (.func 234) #[] #[.pointer (some ⟨qp1,0,none⟩),.pointer (some ⟨qa1,0,none⟩)],.func (.func 235) #[] #[.pointer (some ⟨qg1,0,none⟩),.pointer (some ⟨qa1,0,none⟩)],.func (.func 234) #[] #[.pointer (some ⟨qp2,0,none⟩),.pointer (some ⟨qa2,0,none⟩)],.func (.func 235) #[] #[.pointer (some ⟨qg2,0,none⟩),.pointer (some ⟨qa2,0,none⟩)],.func (.func 234) #[] #[.pointer (some ⟨qp3,0,none⟩),.pointer (some ⟨qa3,0,none⟩)],.func (.func 235) #[] #[.pointer (some ⟨qg3,0,none⟩),.pointer (some ⟨qa3,0,none⟩)],.func (.func 237) #[] #[.pointer (some ⟨qp4,0,none⟩),.pointer (some ⟨qa4,0,none⟩)],.func (.func 238) #[] #[.pointer (some ⟨qg4,0,none⟩),.pointer (some ⟨qa4,0,none⟩)],.func (.func 237) #[] #[.pointer (some ⟨qp5,0,none⟩),.pointer (some ⟨qa5,0,none⟩)],.func (.func 238) #[] #[.pointer (some ⟨qg5,0,none⟩),.pointer (some ⟨qa5,0,none⟩)],.func (.func 237) #[] #[.pointer (some ⟨qp6,0,none⟩),.pointer (some ⟨qa6,0,none⟩)],.func (.func 238) #[] #[.pointer (some ⟨qg6,0,none⟩),.pointer (some ⟨qa6,0,none⟩)],.func (.func 185) #[] #[],.func (.func 187) #[] #[],.func (.func 239) #[] #[.pointer (some ⟨qp7,0,none⟩),.pointer (some ⟨qa7,0,none⟩)],.func (.func 240) #[] #[.pointer (some ⟨qg7,0,none⟩),.pointer (some ⟨qa7,0,none⟩)],.func (.func 239) #[] #[.pointer (some ⟨qp8,0,none⟩),.pointer (some ⟨qa8,0,none⟩)],.func (.func 240) #[] #[.pointer (some ⟨qg8,0,none⟩),.pointer (some ⟨qa8,0,none⟩)],.func (.func 239) #[] #[.pointer (some ⟨qp9,0,none⟩),.pointer (some ⟨qa9,0,none⟩)],.func (.func 240) #[] #[.pointer (some ⟨qg9,0,none⟩),.pointer (some ⟨qa9,0,none⟩)],.func (.func 194) #[] #[],.func (.func 195) #[] #[],.func (.func 197) #[] #[],.func (.func 198) #[] #[]],by rw[hwf];exact At.new _ _ _,fun k hk=> ?_⟩;have hk13:k=0\/k=1\/k=2\/k=3\/k=4\/k=5\/k=6\/k=7\/k=8\/k=9\/k=10\/k=11\/k=12:=by omega
 clear hwf hk;rcases hk13 with rfl|rfl|rfl|rfl|rfl|rfl|rfl|rfl|rfl|rfl|rfl|rfl|rfl
 ·exact⟨_,_,_,_,rfl,rfl,(puts_magic (W:=w)).mono k0⟩
 ·exact⟨_,_,_,_,rfl,rfl,HQ1.out.mono k1⟩
 ·exact⟨_,_,_,_,rfl,rfl,HQ2.out.mono k2⟩
 ·exact⟨_,_,_,_,rfl,rfl,HQ3.out.mono k3⟩
 ·exact⟨_,_,_,_,rfl,rfl,HQ4.out.mono k4⟩
 ·exact⟨_,_,_,_,rfl,rfl,HQ5.out.mono k5⟩
 ·exact⟨_,_,_,_,rfl,rfl,HQ6.out.mono k6⟩
 ·exact⟨_,_,_,_,rfl,rfl,(puts_bits (W:=w)).mono k0⟩
 ·exact⟨_,_,_,_,rfl,rfl,HQ7.out.mono k7⟩
 ·exact⟨_,_,_,_,rfl,rfl,HQ8.out.mono k8⟩
 ·exact⟨_,_,_,_,rfl,rfl,HQ9.out.mono k9⟩
 ·exact⟨_,_,_,_,rfl,rfl,(puts_pad (W:=w)).mono k0⟩
 ·exact⟨_,_,_,_,rfl,rfl,HST.out.mono k0⟩
end
theorem within_int (n l h:Int) (w:World) (h1:l≤n) (h2:n≤h):Calls Tryz.prog 165 #[.int .i64 n,.int .i64 l,.int .i64 h] w fun e w'=>e=.returned (.bool true)/\w'=w:=by
 go_enter Tryz.func165,Tryz.ntmps165;go_wp2;go_ret;exact⟨rfl,rfl⟩
theorem within_u64 (n l h:Int) (w:World) (h1:l≤n) (h2:n≤h):Calls Tryz.prog 166 #[.int .u64 n,.int .u64 l,.int .u64 h] w fun e w'=>e=.returned (.bool true)/\w'=w:=by
 go_enter Tryz.func166,Tryz.ntmps166;go_wp2;go_ret;exact⟨rfl,rfl⟩
def StAt (W:World) (g M:Nat) (f:Nat->Nat):Prop:=(∃cs,At W g cs 102/\∀i:Nat,i<M->cs[i]?=some (Value.int .u8 (f i)))/\∀i,f i=1\/f i=2
theorem StAt.below {W W':World} {g M:Nat} {f:Nat->Nat} (h:StAt W g M f) (hb:Below W.heap.size W W'):StAt W' g M f:=by
 obtain⟨⟨cs,h1,h2⟩,h3⟩:=h;exact⟨⟨cs,h1.below hb h1.lt,h2⟩,h3⟩
theorem StAt.cell {W:World} {g M:Nat} {f:Nat->Nat} (h:StAt W g M f) (i:Nat) (hi:i<M):W.cell? ⟨g,i,none⟩=some (.int .u8 (f i)):=by
 obtain⟨⟨cs,h1,h2⟩,h3⟩:=h;exact(h1.cell i).trans (h2 i hi)
theorem st_index {w:World} {g M:Nat} {f:Nat->Nat} (h:StAt w g M f) (n c:Nat) (hn:n≤M) (hM:M≤16):
  Calls Tryz.prog 232 #[.slice (some ⟨g,0,none⟩) n c,.int .u8 3] w fun e w'=>e=.returned (.int .i64 (-1))/\w'=w:=by
 have H:=Lib.hid h;clear h;go_enter Tryz.func232,Tryz.ntmps232;go_wp2;go_loopw [8] (fun q wr=>∃k:Nat,k≤n/\q=.int .i64 k/\wr=w) (fun q _=>n-(intOf q).toNat);case atStart=>exact⟨0,Nat.zero_le _,rfl,rfl⟩
 case round=>
  obtain⟨k,hk,rfl,rfl⟩:=hrel;by_cases hk2:k<n
  ·have ck:=H.out.cell k (by omega)
   have hf:¬f k=3:=by rcases H.out.2 k with e|e<;>omega
   generalize f k=x at*;have hx:(3:Int)=(x:Int)↔False:=⟨fun e=>by omega,False.elim⟩;have hx':((3:Int)==(x:Int))=false:=by simp;omega
   go_wp2;exact⟨⟨k+1,hk2,by go_num,by simp⟩,by simp[intOf];omega⟩
  ·obtain rfl:k=n:=by omega
   go_wp2;go_ret;exact⟨rfl,rfl⟩
theorem st_contains {w:World} {g M:Nat} {f:Nat->Nat} (h:StAt w g M f) (n c:Nat) (hn:n≤M) (hM:M≤16):
  Calls Tryz.prog 167 #[.slice (some ⟨g,0,none⟩) n c,.int .u8 3] w fun e w'=>e=.returned (.bool false)/\w'=w:=by
 have H:=Lib.hid (st_index h n c hn hM);clear h;go_enter Tryz.func167,Tryz.ntmps167;go_wp2_with (go_at_call 232;(with_reducible refine H.out.mono ?_);rintro e w1 ⟨rfl,hw1⟩;subst hw1);go_ret;exact⟨rfl,rfl⟩
structure SuOk (ev sf role M C S ring:Nat):Prop where
 M3:3≤M
 M16:M≤16
 C1:1≤C
 C16:C≤16
 S1:1≤S
 S256:S≤256
 ev1:1≤ev
 evh:ev≤4611686018427387904
 sf1:1≤sf
 sfh:sf≤ev
 role:role≤M
 ring5:5≤ring
 ringh:ring≤2048
theorem sb_check {w:World} {stg:Nat} {f:Nat->Nat} (id ev sf role M C S ring:Nat) (lazy:Bool) (h:StAt w stg M f) (ok:SuOk ev sf role M C S ring):
  Calls Tryz.prog 126 #[suV id ev sf role M C S ring lazy stg] w fun e w'=>e=.returned (.int .u16 0)/\Below w.heap.size w w':=by
 obtain⟨a1,a2,a3,a4,a5,a6,a7,a8,a9,a10,a11,a12,a13⟩:=ok;have hb1:Below w.heap.size w (w.alloc (.cells (suBox id ev sf role M C S ring lazy (.slice (some ⟨stg,0,none⟩) M M)) 64)):=(Below.refl _ _).alloc (Nat.le_refl _) _;have hb2:Below w.heap.size w ((w.alloc (.cells (suBox id ev sf role M C S ring lazy (.slice (some ⟨stg,0,none⟩) M M)) 64)).alloc (.cells #[.int .i64 M,.int .i64 C,.int .i64 S] 26)):=hb1.alloc hb1.size _;have HH:=Lib.hid (h.below hb2);have HB:=Lib.hid hb2;clear h hb1 hb2;go_enter Tryz.func126,Tryz.ntmps126
 go_wp2_with (first
  |(go_at_call 165;(with_reducible refine(within_int _ _ _ _ ?_ ?_).mono ?_);omega;omega;rintro e w1 ⟨rfl,hw1⟩;subst hw1)
  |(go_at_call 166;(with_reducible refine(within_u64 _ _ _ _ ?_ ?_).mono ?_);omega;omega;rintro e w1 ⟨rfl,hw1⟩;subst hw1))
 have hsb:=Lib.hid ((At.new w (suBox id ev sf role M C S ring lazy (.slice (some ⟨stg,0,none⟩) M M)) 64).alloc (.cells #[.int .i64 M,.int .i64 C,.int .i64 S] 26));have hgb:=At.new (w.alloc (.cells (suBox id ev sf role M C S ring lazy (.slice (some ⟨stg,0,none⟩) M M)) 64)) #[.int .i64 M,.int .i64 C,.int .i64 S] 26;rw[Zaa]at hgb;have hgb:=Lib.hid hgb;generalize hw2:(w.alloc (.cells (suBox id ev sf role M C S ring lazy (.slice (some ⟨stg,0,none⟩) M M)) 64)).alloc (.cells #[.int .i64 M,.int .i64 C,.int .i64 S] 26)=w2 at*;clear hw2;have d8:w2.cell? ⟨w.heap.size,10,none⟩=some (.slice (some ⟨stg,0,none⟩) M M):=hsb.out.cell 10;have d9:w2.cell? ⟨w.heap.size,11,none⟩=some (.int .i64 0):=hsb.out.cell 11;go_loopw [66,6] (fun q l wr=>∃k:Nat,k≤M/\q=.int .i64 k/\l=.int .i64 0/\wr=w2) (fun q _ _=>M-(intOf q).toNat);case atStart=>exact⟨0,Nat.zero_le _,rfl,rfl,rfl⟩
 case round=>
  obtain⟨k,hk,rfl,rfl,rfl⟩:=hrel;by_cases hk2:k<M
  ·have ck:=HH.out.cell k hk2
   have HCT:=Lib.hid (st_contains HH.out k M (Nat.le_of_lt hk2) a2);have hx:=HH.out.2 k;generalize f k=x at*;rcases hx with rfl|rfl
   all_goals
    go_wp2_with (first
     |(go_at_call 167;(with_reducible refine HCT.out.mono ?_);rintro e w3 ⟨rfl,hw3⟩;subst hw3))
    exact⟨⟨k+1,hk2,by go_num,rfl,by simp⟩,by simp[intOf];omega⟩
  ·obtain rfl:k=M:=by omega
   go_wp2_with (first
    |(go_at_call 165;(with_reducible refine(within_int _ _ _ _ ?_ ?_).mono ?_);omega;omega;rintro e w3 ⟨rfl,hw3⟩;subst hw3))
   go_ret;exact⟨rfl,HB.out⟩
section
open Go.RowKit CrcM
theorem StAt.fit {W:World} {g M:Nat} {f:Nat->Nat} (h:StAt W g M f) {id ev sf role C S ring:Nat} (ok:SuOk ev sf role M C S ring) (hid:id<18446744073709551616):SuFit W id ev sf role M C S ring g:=by
 obtain⟨a1,a2,a3,a4,a5,a6,a7,a8,a9,a10,a11,a12,a13⟩:=ok;obtain⟨⟨cs,h1,h2⟩,h3⟩:=h;exact⟨⟨f,cs,fun i=>by rcases h3 i with e|e<;>omega,h1,h2⟩,hid,by omega,by omega,by omega,a2,by omega,by omega,by omega⟩
structure EncAt (w w4 wr:World) (p g M:Nat) (su:Value) (sb:Array Value) (k:Nat):Prop where
 pk:∃l bv,l.length=sbTo M k/\PackAt wr w.heap.size p 128 bv l
 bel:Below w.heap.size w wr
 kp:Keeps w4 wr
 fl:FieldsAt w4 g M su
 sup:At w4 w.heap.size sb 64
theorem EncAt.next {w w4 wr w5:World} {p g M k:Nat} {su:Value} {sb:Array Value} {l:List UInt8} {o:Obj} {e:Ending} (h:EncAt w w4 wr p g M su sb k) (hl:l.length=sbTo M k) (hp:PutPost (wr.alloc o) w.heap.size p l (sbLen M k) e w5) (hk:k<13):EncAt w w4 w5 p g M su sb (k+1):=by
 obtain⟨-,l',h1,⟨bv,h2⟩,h3,h4⟩:=hp;exact⟨⟨l',bv,by rw[h1,hl,sbTo_succ M k hk],h2⟩,(h.bel.alloc h.bel.size o).trans h3,((h.kp.alloc o)).trans h4,h.fl,h.sup⟩
theorem sb_encode {w:World} {stg:Nat} {f:Nat->Nat} (id ev sf role M C S ring:Nat) (lazy:Bool) (h:StAt w stg M f) (ok:SuOk ev sf role M C S ring) (hid:id<18446744073709551616):
  Calls Tryz.prog 84 #[suV id ev sf role M C S ring lazy stg] w fun e w'=>∃v,e=.returned (.tuple #[v,.int .u16 0])/\(∃l:List UInt8,l.length=128/\w'.ownsRow w.heap.size 5 1 v 128 (ucells l))/\Below w.heap.size w w':=by
 have hM16:M≤16:=ok.M16;have hM3:3≤M:=ok.M3;obtain⟨w1,hw1⟩:∃w1,w1=w.alloc (.cells (suBox id ev sf role M C S ring lazy (.slice (some ⟨stg,0,none⟩) M M)) 64):=⟨_,rfl⟩;have HB1:Hid (Below w.heap.size w w1):=by rw[hw1];exact(Below.refl _ _).alloc (Nat.le_refl _) _
 have HS1:Hid (At w1 w.heap.size (suBox id ev sf role M C S ring lazy (.slice (some ⟨stg,0,none⟩) M M)) 64):=by rw[hw1];exact At.new _ _ _
 have HST1:=Lib.hid (h.below HB1.out);have HCK:Hid (Calls Tryz.prog 126 #[suV id ev sf role M C S ring lazy stg] w1 fun e w'=>e=.returned (.int .u16 0)/\Below w1.heap.size w1 w'):=sb_check id ev sf role M C S ring lazy HST1.out ok;have HNW:Hid (∀W,Calls Tryz.prog 127 #[.int .i64 128] W fun e w'=>∃p,e=.returned (.tuple #[.pointer (some ⟨p,0,none⟩),.int .u16 0])/\(∀B,B≤W.heap.size->PackAt w' B p 128 (.slice none 0 0) [])/\Below W.heap.size W w'):=fun W=>Zje 128 W (by omega)
 have HFL:Hid (∀W,Below w1.heap.size w1 W->Calls Tryz.prog 128 #[] W fun e w'=>∃g,e=.returned (.slice (some ⟨g,0,none⟩) 13 13)/\FieldsAt w' g M (suV id ev sf role M C S ring lazy stg)/\Below W.heap.size W w'):=fun W hW=>sb_fields W id ev sf role M C S ring stg lazy ((HST1.out.below hW).fit ok hid)
 have hsb0:(suBox id ev sf role M C S ring lazy (.slice (some ⟨stg,0,none⟩) M M))=(suBox id ev sf role M C S ring lazy (.slice (some ⟨stg,0,none⟩) M M)):=rfl;clear h ok;subst hw1;go_enter Tryz.func84,Tryz.ntmps84
 go_wp2_with (first
  |(go_at_call 126;(with_reducible refine HCK.out.mono ?_);rintro e w2 ⟨rfl,hb2⟩;have HB2:=Lib.hid (Zac HB1.out hb2);have HB12:=Lib.hid hb2;have HS2:=Lib.hid (HS1.out.below hb2 HS1.out.lt);clear hb2)
  |(go_at_call 127;(with_reducible refine(HNW.out _).mono ?_);rintro e w3 ⟨p,rfl,hp,hb3⟩;have HP3:=Lib.hid (hp w.heap.size HB2.out.size);have HB3:=Lib.hid (Zac HB2.out hb3);have HB13:=Lib.hid (Zac HB12.out hb3);have HS3:=Lib.hid (HS2.out.below hb3 HS2.out.lt);clear hp hb3)
  |(go_at_call 128;(with_reducible refine(HFL.out _ HB13.out).mono ?_);rintro e w4 ⟨g,rfl,hf,hb4⟩;have HE4:Hid (EncAt w w4 w4 p g M (suV id ev sf role M C S ring lazy stg) (suBox id ev sf role M C S ring lazy (.slice (some ⟨stg,0,none⟩) M M)) 0):=⟨⟨[],_,rfl,HP3.out.below hb4⟩,Zac HB3.out hb4,Keeps.refl _,hf,HS3.out.below hb4 HS3.out.lt⟩;clear hf hb4))
 go_loopw [24] (fun q wr=>∃k:Nat,k≤13/\q=.int .i64 k/\EncAt w w4 wr p g M (suV id ev sf role M C S ring lazy stg) (suBox id ev sf role M C S ring lazy (.slice (some ⟨stg,0,none⟩) M M)) k) (fun q _=>13-(intOf q).toNat);case atStart=>exact⟨0,Nat.zero_le _,rfl,HE4.out⟩
 case round=>
  obtain⟨k,hk,rfl,he⟩:=hrel;have HE:=Lib.hid he;clear he;by_cases hk2:k<13
  ·have hsup:=HE.out.kp _ _ _ (by decide) (by decide) HE.out.sup
   obtain⟨cs,hg,hfs⟩:=HE.out.fl.keeps HE.out.kp;obtain⟨fn,fc,fn2,fc2,hc1,hc2,hpu⟩:=hfs k hk2;obtain⟨l,bv,hl,hp⟩:=HE.out.pk;have g0:wr.cell? ⟨g,k*2,none⟩=some (.func (.func fn) #[] fc):=(hg.cell _).trans hc1;have g1:wr.cell? ⟨g,k*2+1,none⟩=some (.func (.func fn2) #[] fc2):=(hg.cell _).trans hc2;have hcf:=hpu.1;have hgl:=hg.lt;have hb5:Below wr.heap.size wr (wr.alloc (.cells #[.func (.func fn) #[] fc,.func (.func fn2) #[] fc2] 207)):=(Below.refl _ _).alloc (Nat.le_refl _) _;have hs5:=hsup.below hb5 hsup.lt;have HPU:=Lib.hid (hpu.2 _ w.heap.size p bv l (Keeps.of hb5) (hp.below hb5) (by have:=sbTo_le M (k+1) (by omega);rw[sbTo_succ M k hk2]at this;omega));have HL:=Lib.hid hl;have s0:=hs5.cell 0;have s1:=hs5.cell 1;have s2:=hs5.cell 2;have s3:=hs5.cell 3;have s4:=hs5.cell 4;have s5:=hs5.cell 5;have s6:=hs5.cell 6;have s7:=hs5.cell 7;have s8:=hs5.cell 8;have s9:=hs5.cell 9;have s10:=hs5.cell 10;have s11:=hs5.cell 11;have hsf:=fun (a:Addr) (fn:Fn) (c:Array Value) (w:World)=>run_store Tryz.prog w a (.func fn #[] c) .plain rfl
   clear hg hfs hc1 hc2 hpu hl hp hsup hb5 hs5
   go_wp2_with (first
    |((with_reducible refine HPU.out.mono ?_);rintro e w5 hp5;have HE5:=Lib.hid (HE.out.next HL.out hp5 hk2);obtain⟨he5,-⟩:=hp5;subst he5))
   exact⟨⟨k+1,hk2,by go_num,HE5.out⟩,by simp[intOf];omega⟩
  ·obtain rfl:k=13:=by omega
   obtain⟨l,bv,hl,hp⟩:=HE.out.pk;have hl':l.length=44+M:=hl;have HBW:=Lib.hid HE.out.bel;obtain⟨n,hn⟩:∃n,n=80-M:=⟨_,rfl⟩;have HAT:Hid (Calls Tryz.prog 130 #[.pointer (some ⟨p,0,none⟩)] wr fun e w'=>e=.returned (.int .i64 (124-(n:Int)))/\w'=wr):=by
    have:=le_at hp;rw[hl',show((44+M:Nat):Int)=124-(n:Int) by omega]at this;exact this
   have HFI:Hid (Calls Tryz.prog 129 #[.pointer (some ⟨p,0,none⟩),.int .i64 n,.int .u8 0] wr fun e w'=>e=.returned (.tuple #[])/\PackPost wr w.heap.size p 128 (l++List.replicate n 0) w'):=le_fill hp n (by omega) (by omega) (by omega);have HL1:Hid ((l++List.replicate n (0:UInt8)).length=124):=by show _=_;rw[List.length_append,List.length_replicate];omega
   generalize l++List.replicate n (0:UInt8)=L at*;have HBY:Hid (∀W bv',PackAt W w.heap.size p 128 bv' L->Calls Tryz.prog 131 #[.pointer (some ⟨p,0,none⟩)] W fun e w'=>∃v,e=.returned (.tuple #[v,.int .u16 0])/\w'.ownsRow W.heap.size 5 1 v 128 (ucells (padTo L 128))/\Below W.heap.size W w'):=fun W bv' hW=>Zek hW
   have HPL:Hid ((padTo L 128).length=128):=Zgi (by rw[HL1.out];omega);generalize padTo L 128=P at*;have HP2:Hid ((P.take 124).length=124):=by show _=_;rw[List.length_take,HPL.out];rfl
   have HSU:Hid (∀W v,Seg W v (P.take 124)->Calls Tryz.prog 133 #[v] W fun e w'=>e=.returned (.int .u32 ((more 0#32 (nats (P.take 124))).toNat:Int))/\Below W.heap.size W w'):=fun W v hv=>Zj7 v _ W (by rw[HP2.out];omega) hv
   have hsum:(more 0#32 (nats (P.take 124))).toNat<4294967296:=(more 0#32 (nats (P.take 124))).isLt;generalize (more 0#32 (nats (P.take 124))).toNat=s at*;have HU4:Hid (∀W bv',PackAt W w.heap.size p 128 bv' L->Calls Tryz.prog 132 #[.pointer (some ⟨p,0,none⟩),.int .u32 s] W fun e w'=>e=.returned (.tuple #[])/\PackPost W w.heap.size p 128 (L++leN s 4) w'):=fun W bv' hW=>Zc4 hW s hsum (by rw[HL1.out];omega)
   have HL2:Hid ((padTo (L++leN s 4) 128).length=128):=Zgi (by rw[List.length_append,HL1.out,Zal];omega);have HBZ:Hid (∀W bv',PackAt W w.heap.size p 128 bv' (L++leN s 4)->Calls Tryz.prog 131 #[.pointer (some ⟨p,0,none⟩)] W fun e w'=>∃v,e=.returned (.tuple #[v,.int .u16 0])/\w'.ownsRow W.heap.size 5 1 v 128 (ucells (padTo (L++leN s 4) 128))/\Below W.heap.size W w'):=fun W bv' hW=>Zek hW
   have hz:(124:Int)-(124-(n:Int))=n:=by omega
   have hn80:(n:Int)≤80:=by omega
   have hn64:(64:Int)≤n:=by omega
   clear hp hl hl' hn hM16 hM3
   go_wp2_with (first
    |(go_at_call 130;(with_reducible refine HAT.out.mono ?_);rintro e w5 ⟨rfl,hw5⟩;subst hw5)
    |(go_at_call 129;(with_reducible refine HFI.out.mono ?_);rintro e w6 ⟨rfl,⟨bv6,hp6⟩,hb6,hk6⟩;have HP6:=Lib.hid hp6;have HB6:=Lib.hid (HBW.out.trans hb6);clear hp6 hb6 hk6)
    |(go_at_call 131;(with_reducible refine(HBZ.out _ _ HP10.out).mono ?_);rintro e w11 ⟨v11,rfl,hv11,hb11⟩;have HV11:=Lib.hid hv11;have HB11:=Lib.hid (Zac HB10.out hb11);obtain⟨ya,yc,rfl⟩:=Zab hv11;clear hv11 hb11)
    |(go_at_call 131;(with_reducible refine(HBY.out _ _ HP6.out).mono ?_);rintro e w7 ⟨v7,rfl,hv7,hb7⟩;have hlt7:=hv7.1;obtain⟨xg,xc,rfl,hxg,hxg2⟩:=Zas hv7 (by omega);have hsg:=seg_of_128 hv7;have HSG:=Lib.hid ((show Seg w7 (.slice (some ⟨xg,0,none⟩) P.length xc) P from by rw[HPL.out];exact hsg).take 124 (by rw[HPL.out];omega));have hxc:=hsg.le;have HP7:=Lib.hid (HP6.out.below hb7);have HB7:=Lib.hid (Zac HB6.out hb7);clear hv7 hb7 hsg hlt7)
    |(go_at_call 133;(with_reducible refine(HSU.out _ _ HSG.out).mono ?_);rintro e w8 ⟨rfl,hb8⟩;have HP8:=Lib.hid (HP7.out.below hb8);have HB8:=Lib.hid (Zac HB7.out hb8);clear hb8)
    |(go_at_call 132;(with_reducible refine(HU4.out _ _ HP8.out).mono ?_);rintro e w10 ⟨rfl,⟨bv10,hp10⟩,hb10,hk10⟩;have HP10:=Lib.hid hp10;have HB10:=Lib.hid (HB8.out.trans hb10);clear hp10 hb10 hk10))
   go_ret2;exact⟨_,rfl,⟨_,HL2.out,Zc9 HV11.out HB10.out.size⟩,HB11.out⟩
end
end Go.Proofs.YtmemlkmnhcealaaGreat
