/- Several texts in one: BayN, RlV, MaxW, RlW, RlWe. -/
import Derived.Test.YtebmephdnjccjaaGreatMrg5
import Derived.Test.YtebmephdnjccjaaGreatExt2
import Derived.Test.YtebmephdnjccjaaGreatMrg1
import Derived.Test.YtebmephdnjccjaaGreatRows
import Derived.WalkSpells
import Derived.WalkLawsBesides
import Derived.BigFrame
import Derived.OwnWalk
set_option linter.unusedVariables false
set_option maxRecDepth 100000
set_option maxHeartbeats 32000000
namespace Go.Proofs.YtebmephdnjccjaaGreat
open Go.RowKit
theorem disk_failed (T:Nat->Nat) (t p:Nat) (d:Dsk) (w:World) (h:DiskAt w T t p d):
  Calls Tryz.prog 83 #[.pointer (some ⟨p,0,none⟩)] w fun e w'=>e=.returned (.bool d.failed)/\w'=w:=by
 obtain⟨gl,gm,cv,f,h1,_⟩:=h.at';have c3:w.cell? ⟨p,3,none⟩=some (.bool d.failed):=h1.cell 3;clear h1 h;generalize d.failed=b at*;go_enter Tryz.func83,Tryz.ntmps83;go_wp2;go_ret;exact⟨rfl,rfl⟩
theorem disk_pending_none (T:Nat->Nat) (t p:Nat) (d:Dsk) (w:World) (h:DiskAt w T t p d) (hc:d.cache= []):
  Calls Tryz.prog 84 #[.pointer (some ⟨p,0,none⟩)] w fun e w'=>e=.returned (.slice none 0 0)/\w'=w:=by
 obtain⟨gl,gm,cv,f,h1,-,h3,-⟩:=h.at';rw[hc]at h3;have h3':w.ownsRow 0 193 129 cv 0 (wcells []):=h3;obtain⟨ca,cc,rfl⟩:=ownsRow_shape h3';have c1:w.cell? ⟨p,1,none⟩=some (.slice ca 0 cc):=h1.cell 1;clear h1 h3 h3' h hc;go_enter Tryz.func84,Tryz.ntmps84;go_wp2;go_loopw [3,11] (fun o q wr=>o=.slice none 0 0/\q=.int .i64 0/\wr=w) (fun _ _ _=>0);case atStart=>exact⟨rfl,rfl,rfl⟩
 case round=>
  obtain⟨rfl,rfl,rfl⟩:=hrel;go_wp2;go_ret;exact⟨rfl,rfl⟩
theorem bay_has_some {w:World} {T:Nat->Nat} {b:Nat} {s:BaySt} (h:BayAt w T b s) (k:Nat) (hk:k<s.n) {x:Dev} (hx:s.pos (k*3)=some x) (hf:x.d.failed=false):
  Calls Tryz.prog 39 #[.pointer (some ⟨b,0,none⟩),.int .i64 k] w fun e w'=>e=.returned (.bool true)/\w'=w:=by
 obtain⟨gs,ptr,tg,dp,h⟩:=h;obtain⟨dv,hp,hD⟩:=h.some' (k*3) (by omega) x hx;have hin:=Lib.hid (bay_in h k hk);rw[hp]at hin;unfold pcell at hin;have d0:w.cell? ⟨dv,0,none⟩=some (.pointer (some ⟨dp (k*3),0,none⟩)):=hD.dev.cell 0;have HF:=disk_failed T (tg (k*3)) (dp (k*3)) x.d w hD.disk;rw[hf]at HF;have HF:=Lib.hid HF;clear h hp hD hx;generalize dp (k*3)=gd at*;go_enter Tryz.func39,Tryz.ntmps39
 go_wp2_with (first
  |(go_at_call 82;(with_reducible refine hin.out.mono ?_);rintro e w1 ⟨rfl,hw⟩;subst hw)
  |(go_at_call 83;(with_reducible refine HF.out.mono ?_);rintro e w1 ⟨rfl,hw⟩;subst hw))
 go_ret;exact⟨rfl,rfl⟩
theorem bay_pending_none {w:World} {T:Nat->Nat} {b:Nat} {s:BaySt} (h:BayAt w T b s) (k:Nat) (hk:k<s.n) {x:Dev} (hx:s.pos (k*3)=some x) (hc:x.d.cache= []):
  Calls Tryz.prog 40 #[.pointer (some ⟨b,0,none⟩),.int .i64 k] w fun e w'=>e=.returned (.slice none 0 0)/\w'=w:=by
 obtain⟨gs,ptr,tg,dp,h⟩:=h;obtain⟨dv,hp,hD⟩:=h.some' (k*3) (by omega) x hx;have hin:=Lib.hid (bay_in h k hk);rw[hp]at hin;unfold pcell at hin;have d0:w.cell? ⟨dv,0,none⟩=some (.pointer (some ⟨dp (k*3),0,none⟩)):=hD.dev.cell 0;have HF:=Lib.hid (disk_pending_none T (tg (k*3)) (dp (k*3)) x.d w hD.disk hc);clear h hp hD hx hc;generalize dp (k*3)=gd at*;go_enter Tryz.func40,Tryz.ntmps40
 go_wp2_with (first
  |(go_at_call 82;(with_reducible refine hin.out.mono ?_);rintro e w1 ⟨rfl,hw⟩;subst hw)
  |(go_at_call 84;(with_reducible refine HF.out.mono ?_);rintro e w1 ⟨rfl,hw⟩;subst hw))
 go_ret;exact⟨rfl,rfl⟩
open Go.RowKit
structure JkAt (w0 W:World) (T:Nat->Nat) (A:Adr) (R:RS) (m:Nat) (s:BaySt) (c d:Nat):Prop where
 rw:∃lg vw X,RwIn W T A {R with s:=s} lg vw X
 old:∀q,q<w0.heap.size->T q=0/\¬A.has q
 bel:Below w0.heap.size w0 W
 n:s.n=R.s.n
 fit:Fit s (fun _=>True) R.szs
 c0:s.cnt 0=0
 c1:s.cnt 1≤c
 c2:s.cnt 2≤d
 small:s.small c
 pos:∀q,q≠m*3->s.pos q=R.s.pos q
section
variable {w0 W w':World} {T T':Nat->Nat} {A:Adr} {R:RS} {m:Nat} {s s':BaySt} {c d:Nat}
theorem JkAt.below (h:JkAt w0 W T A R m s c d) (hb:Below W.heap.size W w'):JkAt w0 w' T A R m s c d:=by
 obtain⟨lg,vw,X,hr⟩:=h.rw;exact⟨⟨lg,vw,X,hr.below hb⟩,h.old,h.bel.trans (hb.mono h.bel.size),h.n,h.fit,h.c0,h.c1,h.c2,h.small,h.pos⟩
theorem JkAt.virg (h:JkAt w0 W T A R m s c d) (q:Nat) (hq:W.heap.size≤q):T q=0:=by
 obtain⟨lg,vw,X,hr⟩:=h.rw;exact bay_virgin' hr.bay q hq
theorem JkAt.next (h:JkAt w0 W T A R m s c d) (hp:BayPost W T A.b s' w'):∃T',(∃lg vw X,RwIn w' T' A {R with s:=s'} lg vw X)/\(∀q,q<w0.heap.size->T' q=0/\¬A.has q)/\Below w0.heap.size w0 w'/\(∀q,q<W.heap.size->T' q=T q)/\Chg (fun q=>T q≠0) W w':=by
 obtain⟨lg,vw,X,hr⟩:=h.rw;obtain⟨T',h1,h2,h3⟩:=hp;have hs:=h.bel.size;exact⟨T',⟨lg,vw,X,hr.turn h1 h2 h3⟩,fun q hq=>⟨(h2 q (by omega)).trans (h.old q hq).1,(h.old q hq).2⟩,h.bel.trans (h3.below fun q hq=>⟨by omega,fun e=>e (h.old q hq).1⟩),h2,h3⟩
theorem jk_write (h:JkAt w0 W T A R m s c d) (hm:m<R.s.n) (z:Nat) (hz:z<R.szs m) (hc:c≤100000) (v:Value) (l:List UInt8) (hl:l.length=128) (hv:Seg W v l) (hvT:∀a n k,v=.slice (some a) n k->T a.block=0):
  Calls Tryz.prog 35 #[.pointer (some ⟨A.b,0,none⟩),.int .i64 m,.int .i64 z,v] W fun e w'=>e=.returned (.int .u16 0)/\∃T' s',JkAt w0 w' T' A R m s' (c+1) d/\(∀q,q<W.heap.size->T' q=T q)/\Chg (fun q=>T q≠0) W w':=by
 obtain⟨lg,vw,X,hr⟩:=h.rw;have h1:=h.c1;have hwf:=write_fit h.fit m z l (by rw[h.n];exact hm) trivial hz hl;obtain⟨f1,f2⟩:=put_fit h.fit m z l (by rw[h.n];exact hm) trivial hz hl;refine(bay_write hr.bay m z v l (by show s.cnt 1≤_;omega) (h.small.mono (by omega)) hv hvT).mono ?_;rintro e w' ⟨rfl,hp⟩;have e1:BaySt.write ({R with s:=s}:RS).s (m:Int) (z:Int) l=(0,s.put m z l):=hwf;rw[e1]at hp ⊢;obtain⟨T',k1,k2,k3,k4,k5⟩:=h.next hp;exact⟨rfl,T',_,⟨k1,k2,k3,f2.n.trans h.n,f1,f2.c0.trans h.c0,by rw[f2.c1];push_cast;omega,by rw[f2.c2];exact h.c2,f2.small _ h.small,fun q hq=>(f2.pos q hq).trans (h.pos q hq)⟩,k4,k5⟩
theorem jk_flush (h:JkAt w0 W T A R m s c d) (hm:m<R.s.n) (hc:c≤100000) (hd:d≤100000):
  Calls Tryz.prog 37 #[.pointer (some ⟨A.b,0,none⟩),.int .i64 m] W fun e w'=>e=.returned (.int .u16 0)/\∃T' s',JkAt w0 w' T' A R m s' c (d+1)/\s'.dry m/\(∀q,q<W.heap.size->T' q=T q)/\Chg (fun q=>T q≠0) W w':=by
 obtain⟨lg,vw,X,hr⟩:=h.rw;have h2:=h.c2;have hwf:=flush_fit h.fit m (by rw[h.n];exact hm) trivial;obtain⟨f1,f2⟩:=dried_fit h.fit m (by rw[h.n];exact hm) trivial;refine(bay_flush hr.bay m (by show s.cnt 2≤_;omega) (h.small.mono (by omega))).mono ?_;rintro e w' ⟨rfl,hp⟩;have e1:BaySt.flush ({R with s:=s}:RS).s (m:Int)=(0,s.dried m):=hwf;rw[e1]at hp ⊢;obtain⟨T',k1,k2,k3,k4,k5⟩:=h.next hp;exact⟨rfl,T',_,⟨k1,k2,k3,f2.n.trans h.n,f1,f2.c0.trans h.c0,by rw[f2.c1];exact h.c1,by rw[f2.c2];push_cast;omega,f2.small _ h.small,fun q hq=>(f2.pos q hq).trans (h.pos q hq)⟩,f2.dry,k4,k5⟩
theorem jk_image (h:JkAt w0 W T A R m s c d) {L:List Sec} (hL:s.image (m:Int)=(0,some L)):
  Calls Tryz.prog 31 #[.pointer (some ⟨A.b,0,none⟩),.int .i64 m] W fun e w'=>∃v,e=.returned (.tuple #[v,.int .u16 0])/\Below W.heap.size W w'/\w'.ownsRow W.heap.size 5 1 v (128*L.length) (ucells L.flatten):=by
 obtain⟨lg,vw,X,hr⟩:=h.rw;have:=bay_image hr.bay (m:Int);rw[show BaySt.image ({R with s:=s}:RS).s (m:Int)=(0,some L)from hL]at this;refine this.mono ?_;rintro e w' ⟨v,rfl,h1,h2,-⟩;obtain⟨-,k⟩:=h2 L rfl;rw[secCells_flat,Nat.mul_comm]at k;exact⟨v,rfl,h1,k⟩
end
def RS.spare (R:RS) (m:Nat) (s:BaySt):RS:={R with s:=s,fr:=fun j=>if j=m then 0 else -1}
theorem spare_dn {R:RS} {m j r:Nat} {s:BaySt}:(R.spare m s).dn j r=decide (j=m):=by
 unfold RS.dn RS.spare;by_cases h:j=m
 ·simp[h]
 ·simp[h]
theorem spare_good {R:RS} {m:Nat} {s:BaySt} (h:Good R zeroV) (hf:R.fr=fun _=> -1) (hw:R.wait= []) (hm:m<R.M) (hn:s.n=R.s.n) (hd:s.dark=false) (ht:s.trip= -1) (hp:∀q,q≠m*3->s.pos q=R.s.pos q) (hfit:Fit R.s (fun _=>True) R.szs):Good (R.spare m s) zeroV:=by
 have hup:∀j r,R.dn j r=false:=fun j r=>by unfold RS.dn;rw[hf];simp
 have hG:∀j,(R.spare m s).G j->j≠m:=fun j hj e=>by
  rcases hj with hj|⟨-,r,-,hd⟩
  ·have:j=R.M:=hj
   omega
  ·rw[spare_dn,decide_eq_false_iff_not]at hd
   exact hd e
 refine⟨h.geo,hn.trans h.n,⟨hd,ht,fun j hj hgj=> ?_⟩,h.len,h.even,fun r hr i j hi hj e1 e2=> ?_,fun j r hj hr hwt hdn=> ?_,⟨h.jrn.z1,h.jrn.z2,h.jrn.tl,h.jrn.us,h.jrn.ep,h.jrn.nx,h.jrn.nx2⟩,h.inp,h.wv,h.few⟩
 ·have hj':j<s.n:=hj
  obtain⟨x,hx,hc⟩:=hfit.dev j (by rw[<-hn];exact hj') trivial;exact⟨x,(hp (j*3) (by have:=hG j hgj;omega)).trans hx,hc⟩
 ·have e1':(R.spare m s).dn i r=true:=e1
  have e2':(R.spare m s).dn j r=true:=e2;rw[spare_dn,decide_eq_true_eq]at e1' e2';rw[e1',e2']
 ·rw[spare_dn,decide_eq_false_iff_not]at hdn
  show s.sec j (1+r)=zsec
  rw[sec_of_pos (hp (j*3) (by omega))];exact h.sec j r hj hr (by rw[hw];rfl) (hup j r)
def BaySt.worn0 (s:BaySt) (m:Nat) (x:Dev):BaySt:={s with pos:=fun q=>if q=m*3 then some ⟨x.d,true,0⟩else s.pos q}
theorem jk_mark {w0 W:World} {T:Nat->Nat} {A:Adr} {R:RS} {m:Nat} {s:BaySt} {c d:Nat} (h:JkAt w0 W T A R m s c d) (hf:R.fr=fun _=> -1) (hm:m<R.M):
  Calls Tryz.prog 32 #[.pointer (some ⟨A.q,0,none⟩),.int .i64 m,.bool true,.int .i64 0] W fun e w'=>e=.returned (.tuple #[])/\(∃lg vw X,RwIn w' T A (R.spare m s) lg vw X)/\Below w0.heap.size w0 w'/\Chg (fun q=>A.has q) W w':=by
 obtain⟨lg,vw,X,hr⟩:=h.rw;refine(rows_mark hr m true hm).mono ?_;rintro e w' ⟨rfl,h1,h2⟩;have hs:=h.bel.size;have e1:RS.marked {R with s:=s} m true=R.spare m s:=by
  unfold RS.marked RS.spare;rw[hf];rfl
 rw[e1]at h1;exact⟨rfl,⟨lg,vw,X,h1⟩,h.bel.trans (h2.below fun q hq=>⟨by omega,fun e=>(h.old q hq).2 e⟩),h2⟩
theorem jk_wear {w0 W:World} {T:Nat->Nat} {A:Adr} {R:RS} {m:Nat} {s:BaySt} (hr:∃lg vw X,RwIn W T A (R.spare m s) lg vw X) (hold:∀q,q<w0.heap.size->T q=0/\¬A.has q) (hb:Below w0.heap.size w0 W) (hm:m<s.n) {x:Dev} (hx:s.pos (m*3)=some x):
  Calls Tryz.prog 38 #[.pointer (some ⟨A.b,0,none⟩),.int .i64 m,.int .i64 0] W fun e w'=>e=.returned (.int .u16 0)/\(∃lg vw X,RwIn w' T A (R.spare m (s.worn0 m x)) lg vw X)/\Below w0.heap.size w0 w'/\Chg (fun q=>T q≠0) W w':=by
 obtain⟨lg,vw,X,hr⟩:=hr;obtain⟨gs,ptr,tg,dp,hbay⟩:=hr.bay;refine(bay_wear_some hbay m hm x hx 0 (by omega) (by omega)).mono ?_;rintro e w' ⟨rfl,h1,h2⟩;have hs:=hb.size;exact⟨rfl,⟨lg,vw,X,hr.turn (s':=s.worn0 m x) ⟨gs,ptr,tg,dp,h1⟩ (fun _ _=>rfl) h2⟩,hb.trans (h2.below fun q hq=>⟨by omega,fun e=>e (hold q hq).1⟩),h2⟩
structure SpAt (w0 W:World) (T:Nat->Nat) (A:Adr) (R:RS) (V:Nat->Nat->Sec) (M C S ring m:Nat) (x:Dev) (a b:Nat) (al:Value) (L:List UInt8):Prop where
 at':LAt w0 W T A R V
 bud:Bud R a b
 M:R.M=M
 C:R.C=C
 S:R.S=S
 size:R.size=ring
 fr:R.fr=fun j=>if j=m then 0 else -1
 pos:R.s.pos (m*3)=some x
 row:ByteRow W T al L
theorem SpAt.step {w0 W W':World} {T T':Nat->Nat} {A:Adr} {R R':RS} {V V':Nat->Nat->Sec} {M C S ring m:Nat} {x:Dev} {a b a' b':Nat} {al:Value} {L:List UInt8} (h:SpAt w0 W T A R V M C S ring m x a b al L) (hm:m<M) (hl:LAt w0 W' T' A R' V') (hs:Stp W T A W' T') (hb:Bud R' a' b') (s:Same R R'):SpAt w0 W' T' A R' V' M C S ring m x a' b' al L:=by
 have hbs:=s.base;refine⟨hl,hb,s.M.trans h.M,s.C.trans h.C,s.S.trans h.S,s.size.trans h.size,s.fr.trans h.fr,?_,h.at'.bytes hs h.row⟩;rw[hbs.gone m (by rw[h.M];exact hm) (by rw[h.fr];simp)];exact h.pos
theorem SpAt.mono {w0 W:World} {T:Nat->Nat} {A:Adr} {R:RS} {V:Nat->Nat->Sec} {M C S ring m:Nat} {x:Dev} {a b a' b':Nat} {al:Value} {L:List UInt8} (h:SpAt w0 W T A R V M C S ring m x a b al L) (ha:a≤a') (hb:b≤b'):SpAt w0 W T A R V M C S ring m x a' b' al L:=
 ⟨h.at',h.bud.mono ha hb,h.M,h.C,h.S,h.size,h.fr,h.pos,h.row⟩
theorem SpAt.below {w0 W W':World} {T:Nat->Nat} {A:Adr} {R:RS} {V:Nat->Nat->Sec} {M C S ring m:Nat} {x:Dev} {a b:Nat} {al:Value} {L:List UInt8} (h:SpAt w0 W T A R V M C S ring m x a b al L) (hb:Below W.heap.size W W'):SpAt w0 W' T A R V M C S ring m x a b al L:=
 ⟨h.at'.below hb,h.bud,h.M,h.C,h.S,h.size,h.fr,h.pos,h.row.below hb⟩
theorem row_keep {W W':World} {T:Nat->Nat} {A:Adr} {R:RS} {lg:Option Nat} {vw:Value} {X:List OP} (hr:RwIn W T A R lg vw X) {v:Value} {l:List UInt8} (hv:ByteRow W T v l) (hc:Chg (fun q=>T q≠0\/A.has q) W W'):ByteRow W' T v l:=by
 obtain⟨⟨B,ho⟩,ht⟩:=hv;refine⟨⟨B,ownsRow_mod ho hc fun g hg e=> ?_⟩,ht⟩;rcases e with e|e|e|e|e
 ·exact e (ht g hg)
 ·exact own_ne_at ho hr.rw (by decide) (by rw[hg,e])
 ·exact own_ne_at ho hr.wal (by decide) (by rw[hg,e])
 ·exact own_ne_at ho hr.ring (by decide) (by rw[hg,e])
 ·exact own_ne_at ho hr.fr (by decide) (by rw[hg,e])
theorem spare_at {w0 W W':World} {T:Nat->Nat} {A:Adr} {R:RS} {M C S ring m c d:Nat} {s:BaySt} {x:Dev} {al:Value} {L:List UInt8} (hr:∃lg vw X,RwIn W' T A (R.spare m (s.worn0 m x)) lg vw X) (hb:Below w0.heap.size w0 W') (h:JkAt w0 W T A R m s c d) (hg:Good R zeroV) (hf:R.fr=fun _=> -1) (hw:R.wait= []) (hm:m<R.M) (hfit:Fit R.s (fun _=>True) R.szs) (hx:s.pos (m*3)=some x) (hcx:x.d.cache= []) (hM:R.M=M) (hC:R.C=C) (hS:R.S=S) (hz:R.size=ring) (hnx:R.next=1) (hc:c≤7000) (hd:d≤10) (hrow:ByteRow W' T al L):SpAt w0 W' T A (R.spare m (s.worn0 m x)) zeroV M C S ring m ⟨x.d,true,0⟩ 10000 10000 al L:=by
 have h1:=h.c1;have h2:=h.c2;refine⟨⟨hr,spare_good hg hf hw hm h.n h.fit.dark h.fit.trip (fun q hq=>(if_neg hq).trans (h.pos q hq)) hfit,.inr hw,h.old,hb⟩,⟨?_,?_,?_,?_,c,?_,?_⟩,hM,hC,hS,hz,rfl,if_pos rfl,hrow⟩
 ·show s.cnt 0≤_
  rw[h.c0];omega
 ·show s.cnt 1≤_
  omega
 ·show s.cnt 2≤_
  omega
 ·show R.next≤_
  omega
 ·intro i hi y hy
  change (if i=m*3 then some (⟨x.d,true,0⟩:Dev)else s.pos i)=some y at hy;by_cases e:i=m*3
  ·rw[if_pos e]at hy
   obtain rfl:=Option.some.inj hy;show x.d.cache.length≤c
   rw[hcx];exact Nat.zero_le _
  ·rw[if_neg e]at hy
   exact h.small i hi y hy
 ·show c+R.wait.length≤10000
  rw[hw];show c+0≤_
  omega
end Go.Proofs.YtebmephdnjccjaaGreat
namespace Go
theorem wpList_max {P:Program} {ops:Array Oper} {rest:List Oper} {o:Oper} {a:Act} {Q:Exit->Act->World->Prop} {w:World} (hg:o.guard=none) (x y:Operand) (t:TypeId) (hop:o.op=Op.call {callee:=Callee.builtin Builtin.max,args:= #[x,y],argTypes:= #[t,t]})
  (p q r:Int) (hx:a.eval x=.int .i64 p) (hy:a.eval y=.int .i64 q) (hr:r=if p<q then q else p)
  (h:wpList P ops Q rest (a.put o.dst (.int .i64 r)) w):wpList P ops Q (o::rest) a w:=by
 refine wpList_plain hg fun K' hK'=> ?_
 have hrun:(Builtin.max_ #[t,t] o.type #[.int .i64 p,.int .i64 q]).run P w=.ok (.int .i64 r) w:=by
  subst hr;by_cases hpq:p<q
  ·simp[Builtin.max_,Builtin.max2,hpq]
  ·simp[Builtin.max_,Builtin.max2,hpq]
 unfold Oper.wp;simp[execOp,hop,resolve,invoke,builtin,hx,hy,hrun,Result.andThen];exact hK' _ _ h
theorem wpList_min {P:Program} {ops:Array Oper} {rest:List Oper} {o:Oper} {a:Act} {Q:Exit->Act->World->Prop} {w:World} (hg:o.guard=none) (x y:Operand) (t:TypeId) (hop:o.op=Op.call {callee:=Callee.builtin Builtin.min,args:= #[x,y],argTypes:= #[t,t]})
  (p q r:Int) (hx:a.eval x=.int .i64 p) (hy:a.eval y=.int .i64 q) (hr:r=if q<p then q else p)
  (h:wpList P ops Q rest (a.put o.dst (.int .i64 r)) w):wpList P ops Q (o::rest) a w:=by
 refine wpList_plain hg fun K' hK'=> ?_
 have hrun:(Builtin.min_ #[t,t] o.type #[.int .i64 p,.int .i64 q]).run P w=.ok (.int .i64 r) w:=by
  subst hr;by_cases hpq:q<p
  ·simp[Builtin.min_,Builtin.min2,hpq]
  ·simp[Builtin.min_,Builtin.min2,hpq]
 unfold Oper.wp;simp[execOp,hop,resolve,invoke,builtin,hx,hy,hrun,Result.andThen];exact hK' _ _ h
theorem wpList_slice_h {P:Program} {ops:Array Oper} {rest:List Oper} {o:Oper} {a:Act} {Q:Exit->Act->World->Prop} {w:World} (hg:o.guard=none) (t:TypeId) (x y:Operand) (hop:o.op=Op.slice t x none (some y) none) (ht:P.underlying t=some (.slice (P.elem t))) (sz:Nat) (hs:∀w,(sizeOf (P.elem t)).run P w=.ok sz w)
  (va:Option Addr) (n c k:Nat) (hx:a.eval x=.slice va n c) (hy:a.eval y=.int .i64 k) (hk:k≤c) (h:∀v,v=sliced va 0 k c sz->wpList P ops Q rest (a.put o.dst v) w):wpList P ops Q (o::rest) a w:=by
 refine wpList_plain hg fun K' hK'=> ?_
 have hrun:(Instr.sliceAt t (.slice va n c) none (some (.int .i64 k)) none).run P w=.ok (sliced va 0 k c sz) w:=by
  rw[run_sliceAt_slice (h:=ht),run_slice_h (ht:=ht) (h0:=by omega) (h2:=by omega),hs];rfl
 unfold Oper.wp;simp[execOp,hop,hx,hy,hrun,Result.andThen];exact hK' _ _ (h _ rfl)
theorem wpList_slice_l {P:Program} {ops:Array Oper} {rest:List Oper} {o:Oper} {a:Act} {Q:Exit->Act->World->Prop} {w:World} (hg:o.guard=none) (t:TypeId) (x y:Operand) (hop:o.op=Op.slice t x (some y) none none) (ht:P.underlying t=some (.slice (P.elem t))) (sz:Nat) (hs:∀w,(sizeOf (P.elem t)).run P w=.ok sz w)
  (va:Option Addr) (n c k:Nat) (hx:a.eval x=.slice va n c) (hy:a.eval y=.int .i64 k) (hk:k≤n) (h:∀v,v=sliced va k n c sz->wpList P ops Q rest (a.put o.dst v) w):wpList P ops Q (o::rest) a w:=by
 refine wpList_plain hg fun K' hK'=> ?_
 have hrun:(Instr.sliceAt t (.slice va n c) (some (.int .i64 k)) none none).run P w=.ok (sliced va k n c sz) w:=by
  rw[run_sliceAt_slice (h:=ht),run_slice_l (ht:=ht) (h0:=by omega) (h1:=by omega),hs];rfl
 unfold Oper.wp;simp[execOp,hop,hx,hy,hrun,Result.andThen];exact hK' _ _ (h _ rfl)
open Go.RowKit
theorem wpList_make_want {P:Program} {ops:Array Oper} {rest:List Oper} {o:Oper} {a:Act} {Q:Exit->Act->World->Prop} {w:World} (hg:Region.wanted o (yielded ops a.tmps)=true) (l c:Operand) (t e:TypeId) (sz bytes:Nat)
  (hop:o.op=Op.makeSlice t l c) (hT:SliceOf P t e sz bytes) (u:Value) (hz:((P.info? e).bind (·.zero)).map (·.cells)=some (List.replicate sz u).toArray)
  (kl kc:IntKind) (L C:Int) (n:Nat) (hl:a.eval l=.int kl L) (hc:a.eval c=.int kc C) (hL:L=(n:Int)) (hC:C=(n:Int))
  (b2:bytes*n≤281474976710656) (b3:n≤maxLen)
  (hK:∀w',At w' w.heap.size (List.replicate (n*sz) u).toArray e->Below w.heap.size w w'->wpList P ops Q rest (a.put o.dst (.slice (some ⟨w.heap.size,0,none⟩) n n)) w'):
  wpList P ops Q (o::rest) a w:=by
 obtain⟨h1,h0,i,z',h2,h3,h4,h5,h6⟩:=hT;have hcells:z'.cells=(List.replicate sz u).toArray:=by
  rw[h2]at hz;simpa [h3]using hz
 obtain⟨w',hrun,hown,hgr⟩:=run_make_full (P:=P) w w.heap.size t e i z' sz h1 h2 h3 h4 kl kc n (by rw[h5];exact b2) b3 (Nat.le_refl _);refine BigFrame.wpList_want hg fun K' hK'=> ?_
 subst hL;subst hC;unfold Oper.wp;simp[execOp,hop,hl,hc,hrun,Result.andThen];refine hK' _ _ (hK w' ?_ ?_)
 ·obtain⟨hlen,hh⟩:=hown
  rcases hh with ⟨hh,_⟩|⟨g',cap,cur,hv,hb,hg',hc',_,hs,ht⟩
  ·cases hh
  ·simp only [Value.slice.injEq,Option.some.injEq,Addr.mk.injEq]at hv
   obtain⟨⟨rfl,_,_⟩,_,rfl⟩:=hv;have e1:cur.toList=List.replicate (n*sz) u:=by
    rw[List.take_of_length_le (by simp[hs])]at ht;rw[ht];apply List.ext_getElem?;intro j;rw[List.getElem?_replicate,hcells];by_cases hj:j<n*sz
    ·have hm:j%sz<sz:=Nat.mod_lt _ h0
     simp[madeCells,hj,hm]
    ·simp[madeCells,hj]
   rw[<-e1,Array.toArray_toList];exact hg'
 ·exact(Below.refl _ _).grown hgr (Nat.le_refl _) (fun k hk=>by simp at hk)
end Go
namespace Go.Proofs.YtebmephdnjccjaaGreat
open Go.RowKit
theorem RowsSpare_no (m c s ring:Int) (lazy:Bool) (more down:Int) (v:Value) (l:List ROp) (w:World) (hv:ROpSeg w v l) (h:mayIs m c s ring=false):
  Calls Tryz.prog 8 #[madeVal m c s ring lazy more,.int .i64 down,v] w fun e w'=>e=.returned (.bool true)/\Below w.heap.size w w':=by
 have hb0:Below w.heap.size w (w.alloc (.cells #[.int .i64 m,.int .i64 c,.int .i64 s,.int .i64 ring,.bool lazy,.int .i64 more] 25)):=(Below.refl _ _).alloc (Nat.le_refl _) _;have ha0:At (w.alloc (.cells #[.int .i64 m,.int .i64 c,.int .i64 s,.int .i64 ring,.bool lazy,.int .i64 more] 25)) w.heap.size #[.int .i64 m,.int .i64 c,.int .i64 s,.int .i64 ring,.bool lazy,.int .i64 more] 25:=At.new _ _ _;have KU:=Lib.hid (r14_much m c s v l _ (hv.below hb0));have KK:Hid (∀W,Calls Tryz.prog 10 #[] W fun e w'=>e=.returned (.bool true)/\Below W.heap.size W w'):=r14_known;have KB:=Lib.hid (fun W=>r14_begun_no m c s ring lazy more (-1) W h);have KM:=Lib.hid (fun W=>r14_may m c s ring lazy more W h);have HB0:=Lib.hid hb0;have HA0:=Lib.hid ha0;have hl0:=ha0.lt;unfold madeVal geo at*;clear hb0 ha0 h hv;go_enter Tryz.func8,Tryz.ntmps8
 go_wp2_with (first
  |(go_at_call 9;(with_reducible refine KU.out.mono ?_);rintro e w1 ⟨r,rfl,hr,hb1⟩;have HB1:=Lib.hid (below_then HB0.out hb1);have HA1:=Lib.hid (HA0.out.below hb1 HA0.out.lt);clear hr hb1)
  |(go_at_call 10;(with_reducible refine(KK.out _).mono ?_);rintro e w2 ⟨rfl,hb2⟩;have HB2:=Lib.hid (below_then HB1.out hb2);have ha2:=HA1.out.below hb2 HA1.out.lt;have c0:=ha2.cell 0;have c1:=ha2.cell 1;have c2:=ha2.cell 2;have c3:=ha2.cell 3;have c4:=ha2.cell 4;have c5:=ha2.cell 5;have hl2:=ha2.lt;have HA2:=Lib.hid ha2;clear ha2 hb2)
  |(go_at_call 11;(with_reducible refine(KB.out _).mono ?_);rintro e w3 ⟨rfl,hb3⟩;clear c0 c1 c2 c3 c4 c5;have HB3:=Lib.hid (below_then HB2.out hb3);have ha3:=HA2.out.below hb3 HA2.out.lt;have c0:=ha3.cell 0;have c1:=ha3.cell 1;have c2:=ha3.cell 2;have c3:=ha3.cell 3;have c4:=ha3.cell 4;have c5:=ha3.cell 5;have hl3:=ha3.lt;clear ha3 hb3)
  |(go_at_call 12;(with_reducible refine(KM.out _).mono ?_);rintro e w4 ⟨rfl,hb4⟩;have HB4:=Lib.hid (below_then HB3.out hb4);clear hb4))
 all_goals (first|(go_ret;exact⟨rfl,HB4.out⟩)|(go_ret;exact⟨rfl,HB1.out⟩))
theorem RowsSpare_go (M C S ring:Nat) (lazy:Bool) (more down:Int) (v:Value) (l:List ROp) (w:World) (hv:ROpSeg w v l) (hg:geoIs M C S=true) (h5:5≤ring) (h6:ring≤2048):
  Calls Tryz.prog 8 #[madeVal M C S ring lazy more,.int .i64 down,v] w fun e w'=>e=.returned (.bool true)/\Below w.heap.size w w':=by
 have hb0:Below w.heap.size w (w.alloc (.cells #[.int .i64 M,.int .i64 C,.int .i64 S,.int .i64 ring,.bool lazy,.int .i64 more] 25)):=(Below.refl _ _).alloc (Nat.le_refl _) _;have ha0:At (w.alloc (.cells #[.int .i64 M,.int .i64 C,.int .i64 S,.int .i64 ring,.bool lazy,.int .i64 more] 25)) w.heap.size #[.int .i64 M,.int .i64 C,.int .i64 S,.int .i64 ring,.bool lazy,.int .i64 more] 25:=At.new _ _ _;have KU:=Lib.hid (r14_much M C S v l _ (hv.below hb0));have KK:Hid (∀W,Calls Tryz.prog 10 #[] W fun e w'=>e=.returned (.bool true)/\Below W.heap.size W w'):=r14_known;have KB:=Lib.hid (fun W=>r14_begun M C S ring lazy more (-1) W hg h5 h6);have HRW:Hid (∀W,Calls Tryz.prog 30 #[.agg #[.int .i64 M,.int .i64 C,.int .i64 S]] W fun e w'=>e=.returned (.int .i64 ((S*C:Nat):Int))/\Below W.heap.size W w'):=fun W=>(ref_rows M C S W).mono fun e w' ⟨x1,x2⟩=>⟨by rw[x1];unfold geoRows;rw[if_pos hg,Int.natCast_mul],x2⟩
 have hgp:=geo_pos hg;have hm1:=hgp.1;have hm2:=hgp.2.1;have hb1':=hgp.2.2.1;have hb2':=hgp.2.2.2;clear hgp;generalize hBB:S*C=B at*;have HBB:=Lib.hid hBB;clear hBB;have tm: -(M:Int)<Int.tmod down M/\Int.tmod down M<M/\((Int.tmod down M).natAbs<M):=by
  have h1:=Int.natAbs_tmod down M;have h2:down.natAbs%M<M:=Nat.mod_lt _ (by omega);have h3:(Int.tmod down M).natAbs<M:=by rw[h1,Int.natAbs_natCast];exact h2
  omega
 obtain⟨tma,tmb,hmM⟩:=tm;have hmx:(((Int.tmod down M).natAbs:Nat):Int)=if Int.tmod down M< -Int.tmod down M then -Int.tmod down M else Int.tmod down M:=by split<;>omega
 have HMX:=Lib.hid hmx;clear hmx;generalize hem:(Int.tmod down M).natAbs=m at*;clear hem;have m0a:¬M=0:=by omega
 have m0c:¬(M:Int)=0:=by omega
 have HB0:=Lib.hid hb0;have HA0:=Lib.hid ha0;have hl0:=ha0.lt;have HV:=Lib.hid hv;have HR6:=Lib.hid h6;have hlf:=hv.few;obtain⟨va,vc,rfl⟩:=hv.shape;unfold madeVal geo at*;clear hb0 ha0 hv h5 h6;go_enter Tryz.func8,Tryz.ntmps8
 go_wp2_with (first
  |(go_at_call 9;(with_reducible refine KU.out.mono ?_);rintro e w1 ⟨r,rfl,hr,hb1⟩;have HMU:=Lib.hid hr;have HB1:=Lib.hid (below_then HB0.out hb1);have HA1:=Lib.hid (HA0.out.below hb1 HA0.out.lt);clear hr hb1)
  |(go_at_call 10;(with_reducible refine(KK.out _).mono ?_);rintro e w2 ⟨rfl,hb2⟩;have HB2:=Lib.hid (below_then HB1.out hb2);have ha2:=HA1.out.below hb2 HA1.out.lt;have c0:=ha2.cell 0;have c1:=ha2.cell 1;have c2:=ha2.cell 2;have c3:=ha2.cell 3;have c4:=ha2.cell 4;have c5:=ha2.cell 5;have hl2:=ha2.lt;have HA2:=Lib.hid ha2;clear ha2 hb2)
  |(refine wpList_max rfl _ _ 3 rfl _ _ (m:Int) rfl rfl HMX.out ?_)
  |(go_at_call 11;(with_reducible refine(KB.out w2).mono ?_);rintro e w3 ⟨T,A,R,rfl,hl3,hbg⟩;clear c0 c1 c2 c3 c4 c5;have HRN:=Lib.hid (hbg.run HR6.out hl3);have HBG:=Lib.hid hbg;have HMD:Hid (∀W,Below w2.heap.size w2 W->At W w.heap.size #[.int .i64 M,.int .i64 C,.int .i64 S,.int .i64 ring,.bool lazy,.int .i64 more] 25):=(fun W hW=>HA2.out.below hW HA2.out.lt);have HVV:Hid (∀W,Below w2.heap.size w2 W->ROpSeg W (.slice va l.length vc) l):=(fun W hW=>HV.out.below (HB2.out.trans (hW.mono HB2.out.size)));have HBE:Hid (∀W,Below w2.heap.size w2 W->Below w.heap.size w W):=(fun W hW=>HB2.out.trans (hW.mono HB2.out.size));have hm3:=HMD.out w3 hl3.bel;have c0:=hm3.cell 0;have hml3:=hm3.lt;clear hm3;clear hl3 hbg))
 any_goals (first|(go_ret;exact⟨rfl,HB1.out⟩)|skip)
 have HFW:Hid (FewOps M C S l):=HMU.out (by first|assumption|(exact Bool.eq_false_iff.2 (by assumption))|(cases r<;>simp_all));have HM3:=Lib.hid hmM;have hbg:=HBG.out;have HJK:Hid (JkAt w2 w3 T A R m R.s (ring+1) 1):=by
  have hl:=HRN.out.at';obtain⟨lg,vw,X,hr⟩:=hl.rw;exact⟨⟨lg,vw,X,hr⟩,hl.old,hl.bel,rfl,hbg.all (by unfold goneOf;rw[if_pos (by omega)]),hbg.c0,by rw[hbg.c1];push_cast;omega,by rw[hbg.c2];omega,hbg.small,fun _ _=>rfl⟩
 have HGD:=Lib.hid HRN.out.at'.good;have HFA:=Lib.hid (hbg.all (by unfold goneOf;rw[if_pos (by omega)]));have HFR:Hid (R.fr=fun _=> -1):=by
  show R.fr=_
  rw[hbg.fr];funext j;unfold goneOf;rw[if_neg (by rw[if_pos (by omega)];omega)]
 have HWT:Hid (R.wait= []):=hbg.wait;have HRM:Hid (R.M=M/\R.S*R.C=B/\R.C=C/\R.S=S/\R.size=ring/\R.lazy=lazy):=⟨HRN.out.M,by rw[HRN.out.S,HRN.out.C];exact HBB.out,HRN.out.C,HRN.out.S,HRN.out.size,HRN.out.lazy⟩;have HBG0:Hid (R.next=1/\R.size=ring/\R.used=0/\R.sure=true):=⟨hbg.next,hbg.size,hbg.used,hbg.sure⟩;clear hbg;go_loopw [11] (fun q wr=>∃k:Nat,k≤B/\q=.int .i64 k/\∃T s,JkAt w2 wr T A R m s (ring+1+k) 1) (fun q _=>B-(intOf q).toNat);case atStart=>exact⟨0,by omega,rfl,T,R.s,HJK.out⟩
 case round=>
  clear HJK HRN HM3 HBG T;obtain⟨k,hk,rfl,T,s,hjk⟩:=hrel;have HJ:=Lib.hid hjk;have hmd:=HMD.out wr hjk.bel;have c0:=hmd.cell 0;have c1:=hmd.cell 1;have c2:=hmd.cell 2;have hmdl:=hmd.lt;clear hmd hjk;by_cases hkB:k<B
  ·have K1:Hid (k+1≤B):=hkB
   obtain⟨x,hx⟩:∃x:UInt8,x=UInt8.ofNat (k+1):=⟨_,rfl⟩;have hxn:((x.toNat:Nat):Int)=((k:Int)+1)%256:=by
    rw[hx];show(((k+1)%256:Nat):Int)=((k:Int)+1)%256
    omega
   have HSC:Hid (∀W,Calls Tryz.prog 36 #[.int .u8 (((k:Int)+1)%256)] W fun e w'=>e=.returned (.slice (some ⟨W.heap.size,0,none⟩) 128 128)/\At w' W.heap.size (ucells (zsec.set 7 x)).toArray 5/\Below W.heap.size W w'):=fun W=>by
    have:=r14_sector x W;rw[hxn]at this;exact this
   have HWR:Hid (∀W T s v,JkAt w2 W T A R m s (ring+1+k) 1->Seg W v (zsec.set 7 x)->(∀a n c,v=.slice (some a) n c->T a.block=0)->Calls Tryz.prog 35 #[.pointer (some ⟨A.b,0,none⟩),.int .i64 m,.int .i64 (1+(k:Int)),v] W fun e w'=>e=.returned (.int .u16 0)/\∃T' s',JkAt w2 w' T' A R m s' (ring+1+k+1) 1/\(∀q,q<W.heap.size->T' q=T q)/\Chg (fun q=>T q≠0) W w'):=fun W T s v h hv hT=>by
    have:=jk_write h (by rw[HGD.out.n,HRM.out.1];omega) (1+k) (by unfold RS.szs;rw[if_pos (by rw[HRM.out.1];exact hmM),HRM.out.2.1];omega) (by have:=HR6.out;omega) v (zsec.set 7 x) (by simp[zsec]) hv hT;rw[show((1+k:Nat):Int)=1+(k:Int) by omega]at this;exact this
   clear hxn hx
   go_wp2_with (first
    |(go_at_call 30;(with_reducible refine(HRW.out wr).mono ?_);rintro e w4 ⟨rfl,hb4⟩;have HJ4:=Lib.hid (HJ.out.below hb4);clear hb4 c0 c1 c2)
    |(go_at_call 36;((with_reducible refine(HSC.out w4).mono ?_);rintro e w5 ⟨rfl,ha5,hb5⟩;have HJ5:=Lib.hid (HJ4.out.below hb5);have HA5:=Lib.hid ha5;have HT5:Hid (T w4.heap.size=0):=HJ4.out.virg _ (Nat.le_refl _);clear ha5 hb5))
    |(go_at_call 35;(with_reducible refine(HWR.out w5 T s _ HJ5.out (seg_of_at128 HA5.out (by simp[zsec])) (fun a n c hv=>by simp only [Value.slice.injEq,Option.some.injEq]at hv;rw[<-hv.1];exact HT5.out)).mono ?_);rintro e w6 ⟨rfl,T6,s6,hj6,-,-⟩;have HJ6:=Lib.hid hj6;clear hj6))
   exact⟨⟨k+1,K1.out,by go_num,T6,s6,HJ6.out⟩,by simp[intOf];omega⟩
  ·obtain rfl:k=B:=by omega
   have HMN:Hid (m<R.s.n):=by show m<R.s.n;rw[HGD.out.n,HRM.out.1];omega
   have HMR:Hid (m<R.M):=by show m<R.M;rw[HRM.out.1];exact hmM
   have HR7:Hid (ring+1+k≤7000):=by show _≤_;have:=HR6.out;omega
   clear hkB
   go_wp2_with (first
    |(go_at_call 30;(with_reducible refine(HRW.out wr).mono ?_);rintro e w4 ⟨rfl,hb4⟩;have HJ4:=Lib.hid (HJ.out.below hb4);clear hb4 c0 c1 c2)
    |(go_at_call 37;(with_reducible refine(jk_flush HJ4.out HMN.out (Nat.le_trans HR7.out (by omega)) (by omega)).mono ?_);rintro e w5 ⟨rfl,T5,s5,hj5,hd5,-,-⟩;have HJ5:=Lib.hid hj5;obtain⟨x,hx,hcx⟩:=hd5;have HX:=Lib.hid hx;have HCX:=Lib.hid hcx;have HCD:Hid (CalmDev x (R.szs m)):=(by obtain⟨y,e1,e2⟩:=hj5.fit.dev m (by rw[hj5.n];exact HMN.out) trivial;rw[hx]at e1;obtain rfl:=Option.some.inj e1;exact e2);have HIM:Hid (s5.image (m:Int)=(0,some x.d.last)):=(by show _=_;rw[image_some (by rw[hj5.n];exact HMN.out) hx,if_neg (by rw[HCD.out.failed];simp)]);clear hj5 hx hcx)
    |(go_at_call 31;(with_reducible refine(jk_image HJ5.out HIM.out).mono ?_);rintro e w6 ⟨v6,rfl,hb6,ho6⟩;obtain⟨x6,d6,rfl⟩:=ownsRow_shape ho6;have HJ6:=Lib.hid (HJ5.out.below hb6);have HV6:Hid (ByteRow w6 T5 (.slice x6 (128*x.d.last.length) d6) x.d.last.flatten):=⟨⟨w5.heap.size,by rw[flatten_length HCD.out.secs];exact ho6⟩,fun g hg=>HJ5.out.virg g (ho6.lt g hg).1⟩;clear hb6 ho6)
    |(go_at_call 32;(with_reducible refine(jk_mark HJ6.out HFR.out HMR.out).mono ?_);rintro e w7 ⟨rfl,hr7,hb7,hc7⟩;have HR7':=Lib.hid hr7;have HB7:=Lib.hid hb7;have HV7:Hid (ByteRow w7 T5 (.slice x6 (128*x.d.last.length) d6) x.d.last.flatten):=(by obtain⟨lg,vw,X,hr⟩:=HJ6.out.rw;exact row_keep hr HV6.out (hc7.mono fun q e=>.inr e));clear hr7 hb7 hc7)
    |(go_at_call 38;(with_reducible refine(jk_wear HR7'.out HJ6.out.old HB7.out (by rw[HJ6.out.n];exact HMN.out) HX.out).mono ?_);rintro e w8 ⟨rfl,hr8,hb8,hc8⟩;have HV8:Hid (ByteRow w8 T5 (.slice x6 (128*x.d.last.length) d6) x.d.last.flatten):=(by obtain⟨lg,vw,X,hr⟩:=HR7'.out;exact row_keep hr HV7.out (hc8.mono fun q e=>.inl e));have HS8:=Lib.hid (spare_at hr8 hb8 HJ6.out HGD.out HFR.out HWT.out HMR.out HFA.out HX.out HCX.out HRM.out.1 HRM.out.2.2.1 HRM.out.2.2.2.1 HRM.out.2.2.2.2.1 HBG0.out.1 HR7.out (by omega) HV8.out);clear hr8 hb8 hc8))
   obtain⟨x',hx'⟩:∃x':Dev,x'=⟨x.d,true,0⟩:=⟨_,rfl⟩;rw[<-hx']at HS8;have HXI:Hid (x'.d.last=x.d.last/\x'.d.failed=false/\x'.d.cache= []):=by rw[hx'];exact⟨rfl,HCD.out.failed,HCX.out⟩
   obtain⟨L,hL⟩:∃L,L=x.d.last.flatten:=⟨_,rfl⟩;rw[<-hL]at HS8;have HLX:Hid (x'.d.last.flatten=L):=by show _=_;rw[HXI.out.1,hL]
   have HLS:Hid (∀s∈x'.d.last,s.length=128):=by show ∀s∈x'.d.last,_;rw[HXI.out.1];exact HCD.out.secs
   have HLF:Hid (x'.d.last.length≤4097):=by show _≤_;rw[HXI.out.1,HCD.out.len];unfold RS.szs;rw[if_pos HMR.out,HRM.out.2.1];omega
   generalize 128*x.d.last.length=nL at*;obtain⟨al,hal⟩:∃al:Value,al=.slice x6 nL d6:=⟨_,rfl⟩;rw[<-hal]at HS8 ⊢;clear HV8 HV7 HV6 HR7' HB7 HJ6 HIM HCD HCX HX HJ5 HJ4 HJ hx' hL hal;go_loopw [14] (fun q wr=>∃k:Nat,k≤l.length/\q=.int .i64 k/\∃T R V,SpAt w2 wr T A R V M C S ring m x' (spentA k) (spentB l k+7000) al L) (fun q _=>l.length-(intOf q).toNat);case atStart=>exact⟨0,by omega,rfl,_,_,_,HS8.out.mono (by unfold spentA;omega) (by unfold spentB;omega)⟩
   case round=>
    clear HS8;obtain⟨k,hk,rfl,T,R,V,hsp⟩:=hrel;have HS0:=Lib.hid hsp;clear hsp;by_cases hkl:k<l.length
    ·have K1:Hid (k+1≤l.length):=hkl
     have hsel:=HVV.out w2 (Below.refl _ _);obtain⟨bb,off,rfl,hlt,hx⟩:=hsel.full (by omega);obtain⟨x0,-,x2,-,⟨u4,x4,q4⟩,-,-⟩:=hx k hkl;obtain⟨pa,pc,rfl⟩:=q4.shape;have hbw:=HS0.out.at'.bel;have y0:=(hbw.cell (p:=⟨bb,off+k*7,none⟩) hlt).trans x0;have y2:=(hbw.cell (p:=⟨bb,off+k*7+2,none⟩) hlt).trans x2;have y4:=(hbw.cell (p:=⟨bb,off+k*7+4,none⟩) hlt).trans x4;have hlt':bb<wr.heap.size:=Nat.lt_of_lt_of_le hlt hbw.size;have HQ4:=Lib.hid q4;have hin:=spent_in HFW.out hk;have hsb:=spentB_succ hkl;have hsa:=spentA_succ k;have hbb:spentB l (k+1)≤200000:=by
      have h1:=HFW.out.few;have h2:=HFW.out.sum;have h3:=opsSum_le l (k+1);unfold spentB;omega
     have HNX:Hid (∀W T R V a b,SpAt w2 W T A R V M C S ring m x' a b al L->a≤spentA k+10000000->b≤spentB l k+7000+8*(l[k]'hkl).puts.length+4->SpAt w2 W T A R V M C S ring m x' (spentA (k+1)) (spentB l (k+1)+7000) al L):=fun W T R V a b h h1 h2=>h.mono (by omega) (by omega)
     have HIN:Hid (∀a b,a≤spentA k+10000000->b≤spentB l k+7000+8*(l[k]'hkl).puts.length+4->Within a b):=fun a b h1 h2=>⟨by have:=hin.a;omega,by omega⟩
     clear x0 x2 x4 q4 hx hsel hin hsb hsa hbb hbw;generalize hkd:(l[k]'hkl).kind=kd at*;generalize (l[k]'hkl).puts=us at*;generalize (l[k]'hkl).n=nn at*;generalize spentB l k=sb at*;generalize spentA k=sa at*;clear hkd;have HI6:Hid (Within sa (sb+7000)):=HIN.out _ _ (by omega) (by omega);by_cases hk1:kd=1
     ·as_aux_lemma=>
       subst hk1;by_cases hnn:0≤nn/\nn<((S*C*(M-1):Nat):Int)
       ·obtain⟨n,rfl⟩:=Int.eq_ofNat_of_zero_le hnn.1
        have HRD:=Lib.hid (l_read HS0.out.at' HS0.out.bud HI6.out n (by rw[HS0.out.M,HS0.out.C,HS0.out.S];omega));clear hnn
        go_wp2_with (first
         |(go_at_call 14;(with_reducible refine HRD.out.mono ?_);rintro e w6 ⟨v6,c6,rfl,hc6,-,hl6,hch6⟩;have HS:=Lib.hid (HS0.out.step hmM hl6 (Stp.ofBay hch6) ((HS0.out.bud.ticks c6).mono (Nat.add_le_add_left hc6 sa) (Nat.le_refl _)) (Same.ticks R c6));clear hc6 hl6 hch6))
        exact⟨⟨k+1,K1.out,by go_num,_,_,_,HNX.out _ _ _ _ _ _ HS.out (by omega) (by omega)⟩,by simp[intOf];omega⟩
       ·have HRD:=Lib.hid (l_read_no HS0.out.at' nn (by have h3:=(geo_pos HS0.out.at'.good.geo).1;rw[HS0.out.M]at h3;rw[HS0.out.M,HS0.out.C,HS0.out.S,show(S:Int)*C*((M:Int)-1)=((S*C*(M-1):Nat):Int) by rw[Int.natCast_mul,Int.natCast_mul,Int.natCast_sub (by omega)];rfl];omega))
        clear hnn
        go_wp2_with (first
         |(go_at_call 14;(with_reducible refine HRD.out.mono ?_);rintro e w6 ⟨rfl,hb6⟩;have HS:=Lib.hid (HS0.out.below hb6);clear hb6))
        exact⟨⟨k+1,K1.out,by go_num,_,_,_,HNX.out _ _ _ _ _ _ HS.out (by omega) (by omega)⟩,by simp[intOf];omega⟩
     by_cases hk2:kd=2
     ·as_aux_lemma=>
       subst hk2
       go_wp2_with (first
        |(go_at_call 16;(with_reducible refine(l_write HS0.out.at' HS0.out.bud HI6.out _ us HQ4.out).mono ?_);rintro e w6 ⟨rfl,T6,R6,V6,hl6,hs6,hb6,hsm6,-⟩;have HS:=Lib.hid (HS0.out.step hmM hl6 hs6 hb6 hsm6);clear hl6 hs6 hb6 hsm6))
       exact⟨⟨k+1,K1.out,by go_num,_,_,_,HNX.out _ _ _ _ _ _ HS.out (by omega) (by omega)⟩,by simp[intOf];omega⟩
     by_cases hk3:kd=3
     ·as_aux_lemma=>
       subst hk3
       go_wp2_with (first
        |(go_at_call 19;(with_reducible refine(l_settle HS0.out.at' HS0.out.bud HI6.out).mono ?_);rintro e w6 ⟨rfl,T6,R6,hl6,hs6,hb6,hsm6,-⟩;have HS:=Lib.hid (HS0.out.step hmM hl6 hs6 hb6 hsm6);clear hl6 hs6 hb6 hsm6))
       exact⟨⟨k+1,K1.out,by go_num,_,_,_,HNX.out _ _ _ _ _ _ HS.out (by omega) (by omega)⟩,by simp[intOf];omega⟩
     by_cases hk7:kd=7
     ·as_aux_lemma=>
       subst hk7
       go_wp2_with (first
        |(go_at_call 34;(with_reducible refine(l_barrier HS0.out.at' HS0.out.bud HI6.out).mono ?_);rintro e w6 ⟨rfl,T6,hl6,hs6,hb6⟩;have HS:=Lib.hid (HS0.out.step hmM hl6 hs6 hb6 ⟨rfl,rfl,rfl,rfl,rfl,rfl,base_dries HS0.out.at'.good⟩);clear hl6 hs6 hb6))
       exact⟨⟨k+1,K1.out,by go_num,_,_,_,HNX.out _ _ _ _ _ _ HS.out (by omega) (by omega)⟩,by simp[intOf];omega⟩
     by_cases hk8:kd=8
     ·as_aux_lemma=>
       subst hk8
       go_wp2_with (first
        |(go_at_call 21;(with_reducible refine(l_empty HS0.out.at' HS0.out.bud HI6.out).mono ?_);rintro e w6 ⟨rfl,T6,R6,hl6,hs6,hb6,hsm6,-⟩;have HS:=Lib.hid (HS0.out.step hmM hl6 hs6 hb6 hsm6);clear hl6 hs6 hb6 hsm6))
       exact⟨⟨k+1,K1.out,by go_num,_,_,_,HNX.out _ _ _ _ _ _ HS.out (by omega) (by omega)⟩,by simp[intOf];omega⟩
     ·as_aux_lemma=>
       have hd1:(kd==1)=false:=beq_eq_false_iff_ne.2 hk1;have hd2:(kd==2)=false:=beq_eq_false_iff_ne.2 hk2;have hd3:(kd==3)=false:=beq_eq_false_iff_ne.2 hk3;have hd7:(kd==7)=false:=beq_eq_false_iff_ne.2 hk7;have hd8:(kd==8)=false:=beq_eq_false_iff_ne.2 hk8;have HS:=HS0;go_wp2;exact⟨⟨k+1,K1.out,by go_num,_,_,_,HNX.out _ _ _ _ _ _ HS.out (by omega) (by omega)⟩,by simp[intOf];omega⟩
    ·obtain rfl:k=l.length:=by omega
     have HMS:Hid (m<R.s.n):=by show m<R.s.n;rw[HS0.out.at'.good.n,HS0.out.M];omega
     have HIM:Hid (R.s.image (m:Int)=(0,some x'.d.last)):=by show _=_;rw[image_some HMS.out HS0.out.pos,if_neg (by rw[HXI.out.2.1];simp)]
     have HFE:Hid (L.length≤9223372036854775807):=by show _≤_;rw[<-HLX.out,flatten_length HLS.out];have:=HLF.out;omega
     have HHS:Hid (∀W,Below wr.heap.size wr W->Calls Tryz.prog 39 #[.pointer (some ⟨A.b,0,none⟩),.int .i64 m] W fun e w'=>e=.returned (.bool true)/\w'=W):=fun W hW=>by
      obtain⟨lg,vw,X,hr⟩:=(HS0.out.at'.below hW).rw;exact bay_has_some hr.bay m HMS.out HS0.out.pos HXI.out.2.1
     have HPE:Hid (∀W,Below wr.heap.size wr W->Calls Tryz.prog 40 #[.pointer (some ⟨A.b,0,none⟩),.int .i64 m] W fun e w'=>e=.returned (.slice none 0 0)/\w'=W):=fun W hW=>by
      obtain⟨lg,vw,X,hr⟩:=(HS0.out.at'.below hW).rw;exact bay_pending_none hr.bay m HMS.out HS0.out.pos HXI.out.2.2
     have HBL:=Lib.hid HS0.out.at'.bel
     go_wp2_with (first
      |(go_at_call 31;(with_reducible refine(l_image HS0.out.at' m HIM.out).mono ?_);rintro e w6 ⟨v6,rfl,hb6,ho6⟩;obtain⟨x6,d6,rfl⟩:=ownsRow_shape ho6;have HB6:=Lib.hid hb6;rw[HLX.out]at ho6;have HSG:=Lib.hid (seg_of_row ho6);have HSL:=Lib.hid (HS0.out.row.below hb6).seg;clear ho6 hb6)
      |(go_at_call 39;(with_reducible refine(HHS.out w6 HB6.out).mono ?_);rintro e w7 ⟨rfl,hw7⟩;subst hw7)
      |(go_at_call 15;(with_reducible refine(same_eq HFE.out HSL.out HSG.out).mono ?_);rintro e w8 ⟨rfl,hb8⟩;have HB8:Hid (Below wr.heap.size wr w8):=HB6.out.trans (hb8.mono HB6.out.size);clear hb8)
      |(go_at_call 40;(with_reducible refine(HPE.out w8 HB8.out).mono ?_);rintro e w9 ⟨rfl,hw9⟩;subst hw9))
     go_ret;exact⟨rfl,HBE.out _ (HBL.out.trans (HB8.out.mono HBL.out.size))⟩
open Go.RowKit Go.ChangeShapes Go.WideShapes Go.ChangeAt Go.Deep
theorem rowsSpare_walk {H:Type} (w:World) (enc:TypeId×Value->H) (base:Nat) (v:Value) (d:DataW H) (ps:List MemPlace) (hok:Value.okWide Tryz.prog w .any base 25 v) (h:DataW.Trod enc Tryz.prog w 0 (fun _=>true) true 25 v d ps)
  (a:Int) (_:(Lit.int .i64 a).wf=true)
  (enc':TypeId×Value->H) (base':Nat) (v':Value) (d':DataW H) (ps':List MemPlace) (hok':Value.okWide Tryz.prog w .any base' 26 v') (h':DataW.Trod enc' Tryz.prog w 0 (fun _=>true) true 26 v' d' ps') (hw':∀n∈d'.weights Tryz.prog 26,n≤reachBytes):
  Calls Tryz.prog 8 #[v,.int .i64 a,v'] w fun e w'=>e=.returned (.bool true)/\Below w.heap.size w w':=by
 obtain⟨m,c,s,ring,lazy,more,rfl⟩:=made_of_trod hok h;obtain⟨l,hv⟩:=rops_of_trod hok' h' hw';cases hm:mayIs m c s ring
 ·exact RowsSpare_no m c s ring lazy more a v' l w hv hm
 ·obtain⟨M,C,S,r,rfl,rfl,rfl,rfl,hg,h5,h6⟩:=may_nat hm
  exact RowsSpare_go M C S r lazy more a v' l w hv hg h5 h6
end Go.Proofs.YtebmephdnjccjaaGreat
