
/- Several texts in one: DiskF, BayA, BayB, BayC, BayD. -/
import Derived.Test.YtmemlkmnhcealaaGreatDiskE
set_option linter.unusedVariables false
set_option maxRecDepth 100000
set_option maxHeartbeats 4000000
namespace Go.Proofs.YtmemlkmnhcealaaGreat
open Value renaming int→O,pointer→Zs,slice→Zt
open IntKind renaming i64→Z
open Ending renaming returned→Zu
open Go.Proofs.Tryz renaming prog→Zw
open Go.RowKit
open Lib(hid)
variable {d':Dsk} {b dv gs i p t:Nat} {T dp tg:Nat->Nat} {ptr:Nat->Option Nat} {S:Nat->Prop} {W W' w w':World}
theorem Zfd(last:List Sec)(c:List (Nat×Sec)):∀i,settleTo last c (fun _=>false) i=last
 |0=>rfl
 |i+1=>by
  show(match c[i]? with|some x=>if false then (settleTo last c (fun _=>false) i).set x.1 x.2 else settleTo last c (fun _=>false) i|none=>settleTo last c (fun _=>false) i)=last
  rw[Zfd last c i];split<;>rfl
theorem Zgc(last:List Sec)(c:List (Nat×Sec))(hin:∀x∈c,x.1<last.length)(a:Nat)(ha:a<last.length):∀i,i≤c.length->
  (settleTo last c (fun _=>true) i).getD a zsec=(waits (c.take i) (a:Int)).getD (last.getD a zsec)
 |0,_=>by simp[settleTo,Zhg]
 |i+1,hi=>by
  have hi':i<c.length:=hi;have e:settleTo last c (fun _=>true) (i+1)=(settleTo last c (fun _=>true) i).set c[i].1 c[i].2:=by
   show(match c[i]? with|some x=>if true then (settleTo last c (fun _=>true) i).set x.1 x.2 else settleTo last c (fun _=>true) i|none=>settleTo last c (fun _=>true) i)=_
   rw[Zh hi'];rfl
  have ih:=Zgc last c hin a ha i (by omega);have et:c.take (i+1)=c.take i++ [(c[i].1,c[i].2)]:=by rw[List.take_add_one,Zh hi'];rfl
  rw[e,et,Zfw,Zi,List.getElem?_set];by_cases h:c[i].1=a
  ·rw[Zf h,Zf (by rw[Zak];omega),Zf (by exact_mod_cast h)]
   rfl
  ·rw[Ze h,Ze (by exact_mod_cast h),<-ih,Zi]
def Dsk.settled(d:Dsk):Dsk:=⟨settleTo d.last d.cache (fun _=>true) d.cache.length,[],d.failed⟩
theorem Zwa(i:Nat)(w:World):Calls Zw 135 #[O Z i] w fun e w'=>e=Zu (.bool true)/\Below w.heap.size w w':=by
 go_enter Tryz.func135,Tryz.ntmps135;go_wp2;go_ret;exact⟨rfl,Zb _ _⟩
theorem Zw9(i:Nat)(w:World):Calls Zw 136 #[O Z i] w fun e w'=>e=Zu (.bool false)/\Below w.heap.size w w':=by
 go_enter Tryz.func136,Tryz.ntmps136;go_wp2;go_ret;exact⟨rfl,Zb _ _⟩
theorem Zpz(T:Nat->Nat)(t p:Nat)(d:Dsk)(w:World)(h:DiskAt w T t p d)(hf:d.failed=false)(hm:d.cache.length≤1000000):
  Calls Zw 87 #[Zs (some ⟨p,0,none⟩)] w fun e w'=>e=Zu (.int .u16 0)/\DiskAt w' T t p d.settled/\Chg (fun k=>T k=t) w w':=by
 have hs:=hid (Zfy T t p d (fun _=>true) w h hm (fun i W _ _=>Zwa i W));obtain⟨gl,gm,cv,f,h1,_⟩:=h.at';have c3:w.cell? ⟨p,3,none⟩=some (.bool false):=by rw[<-hf];exact h1.cell 3
 clear h h1;go_enter Tryz.func87,Tryz.ntmps87;go_wp2_with (go_at_call 134;refine hs.out.mono ?_;rintro e w1 ⟨rfl,r1,r2⟩);go_ret;exact⟨rfl,r1,r2⟩
theorem Ziq(T:Nat->Nat)(t p:Nat)(d:Dsk)(w:World)(h:DiskAt w T t p d)(hf:d.failed=true):
  Calls Zw 87 #[Zs (some ⟨p,0,none⟩)] w fun e w'=>e=Zu (.int .u16 2)/\w'=w:=by
 obtain⟨gl,gm,cv,f,h1,_⟩:=h.at';have c3:w.cell? ⟨p,3,none⟩=some (.bool true):=by rw[<-hf];exact h1.cell 3
 clear h h1;go_enter Tryz.func87,Tryz.ntmps87;go_wp2;go_ret;exact⟨rfl,rfl⟩
theorem Zk8(T:Nat->Nat)(t p:Nat)(d:Dsk)(w:World)(h:DiskAt w T t p d)(hm:d.cache.length≤1000000):
  Calls Zw 94 #[Zs (some ⟨p,0,none⟩)] w fun e w'=>e=Zu (.tuple #[])/\DiskAt w' T t p ⟨d.last,[],true⟩/\Chg (fun k=>T k=t) w w':=by
 obtain⟨gl,gm,cv,f,h1,h2,h3,h4,h5,h6,h7,h8⟩:=h.at';have hset:Chg (fun k=>k=p) w (w.setCell ⟨p,3,none⟩ (.bool true)):=Zk (S:=fun k=>k=p) (Zl _ _) ⟨p,3,none⟩ (.inl rfl) _;have hpr:cv.ownBlock≠some p:=Za2 h1 h3 (by decide);have hpm:gm≠p:=fun e=>by subst e;exact h4.noCells h1
 have hlp:gl≠p:=fun e=>by
  have a:=h1;have b:=h2;subst e;unfold At at a b;rw[a]at b;simp only [Zg,Obj.cells.injEq]at b;exact absurd b.2.1 (by decide)
 have hd2:DiskAt (w.setCell ⟨p,3,none⟩ (.bool true)) T t p ⟨d.last,d.cache,true⟩:=
  ⟨⟨gl,gm,cv,f,h1.set 3 (.bool true),h2.mod hset hlp,Zad h3 hset (fun g hg e=>hpr (e ▸ hg)),h4.mod hset hpm,h5,h6,h7,h8⟩,h.tag,h.len,h.clen,h.cin,h.few,h.some'⟩
 have hs:=hid (Zgv T t p ⟨d.last,d.cache,true⟩ (fun _=>false) _ hd2 hm (fun i W _ _=>Zw9 i W));have hall:Chg (fun k=>T k=t) w (w.setCell ⟨p,3,none⟩ (.bool true)):=hset.mono fun k hk=>by subst hk;exact h.tag
 have c3:w.cell? ⟨p,3,none⟩=some (.bool d.failed):=h1.cell 3;have f3:=h1.free 3;clear h h1 h2 h3 h4 h5 hd2 hset;go_enter Tryz.func94,Tryz.ntmps94;go_wp2_with (go_at_call 134;refine hs.out.mono ?_;rintro e w1 ⟨rfl,r1,r2⟩);go_end0;refine⟨rfl,?_,hall.trans r2⟩;rw[Zfd]at r1;exact r1
theorem Zj5(T:Nat->Nat)(t p:Nat)(z:Int)(d:Dsk)(w:World)(h:DiskAt w T t p d)(hz:d.may z≠0):
  Calls Zw 159 #[Zs (some ⟨p,0,none⟩),O Z z] w fun e w'=>e=Zu (.tuple #[Zt none 0 0,.int .u16 (d.may z:Nat)])/\w'=w:=by
 have hmay:=hid (Zeh T t p d z w h);have hne:(((d.may z:Nat):Int) !=0)=true:=by simp;omega
 clear h;generalize d.may z=c at*;go_enter Tryz.func159,Tryz.ntmps159;go_wp2_with (go_at_call 119;refine hmay.out.mono ?_;rintro e w1 ⟨rfl,rfl⟩);go_ret2;exact⟨rfl,rfl⟩
theorem Ziw(T:Nat->Nat)(t p:Nat)(z:Int)(v:Value)(d:Dsk)(w:World)(h:DiskAt w T t p d)(hz:d.may z≠0):
  Calls Zw 78 #[Zs (some ⟨p,0,none⟩),O Z z,v] w fun e w'=>e=Zu (.int .u16 (d.may z:Nat))/\w'=w:=by
 have hmay:=hid (Zeh T t p d z w h);have hne:(((d.may z:Nat):Int) !=0)=true:=by simp;omega
 clear h;generalize d.may z=c at*;go_enter Tryz.func78,Tryz.ntmps78;go_wp2_with (go_at_call 119;refine hmay.out.mono ?_;rintro e w1 ⟨rfl,rfl⟩);go_ret;exact⟨rfl,rfl⟩
theorem Zhx(T:Nat->Nat)(t p:Nat)(z:Int)(a:Option Addr)(n c:Nat)(d:Dsk)(w:World)(h:DiskAt w T t p d)(hz:d.may z=0)(hn:n≠128):
  Calls Zw 78 #[Zs (some ⟨p,0,none⟩),O Z z,Zt a n c] w fun e w'=>e=Zu (.int .u16 4)/\w'=w:=by
 have hmay:=hid (Zeh T t p d z w h);rw[hz]at hmay;have hne:((n:Int) !=128)=true:=by simp;omega
 clear h hz;go_enter Tryz.func78,Tryz.ntmps78;go_wp2_with (go_at_call 119;refine hmay.out.mono ?_;rintro e w1 ⟨rfl,rfl⟩);go_ret;exact⟨rfl,rfl⟩
open Go.RowKit
structure Dev where
 d:Dsk
 worn:Bool
 left:Int
structure DevAt (W:World) (T:Nat->Nat) (t dv dp:Nat) (x:Dev):Prop where
 dev:At W dv #[Zs (some ⟨dp,0,none⟩),.bool x.worn,O Z x.left] 92
 tag:T dv=1
 two:2≤t
 disk:DiskAt W T t dp x.d
 lo:0≤x.left
 hi:x.left≤9223372036854775807
structure BaySt where
 n:Nat
 pos:Nat->Option Dev
 dark:Bool
 trip:Int
 cnt:Nat->Int
def pcell(p:Option Nat):Value:=.pointer (p.map fun b=>⟨b,0,none⟩)
def slotCells(ptr:Nat->Option Nat)(n:Nat):Array Value:=((List.range (3*n)).map fun i=>pcell (ptr i)).toArray
theorem Zbh(ptr:Nat->Option Nat)(n i:Nat)(h:i<3*n):(slotCells ptr n)[i]?=some (pcell (ptr i)):=by simp[slotCells,h]
def bayCells(gs:Nat)(s:BaySt):Array Value:= #[Zt (some ⟨gs,0,none⟩) s.n s.n,.bool s.dark,O Z s.trip,O Z (s.cnt 0),O Z (s.cnt 1),O Z (s.cnt 2)]
structure BayIn (W:World) (T:Nat->Nat) (b:Nat) (s:BaySt) (gs:Nat) (ptr:Nat->Option Nat) (tg dp:Nat->Nat):Prop where
 bay:At W b (bayCells gs s) 86
 slots:At W gs (slotCells ptr s.n) 94
 tb:T b=1
 ts:T gs=1
 some':∀i,i<3*s.n->∀x,s.pos i=some x->∃dv,ptr i=some dv/\DevAt W T (tg i) dv (dp i) x
 none':∀i,i<3*s.n->s.pos i=none->ptr i=none
 apart:∀i j,i<3*s.n->j<3*s.n->i≠j->s.pos i≠none->s.pos j≠none->tg i≠tg j
 own:∀i j,i<3*s.n->j<3*s.n->i≠j->∀dv,ptr i=some dv->ptr j≠some dv
 virgin:∀k,W.heap.size≤k->T k=0
 few:s.n≤17
 cl:∀j,0≤s.cnt j
 trl: -1≤s.trip
 trh:s.trip≤9223372036854775807
def BayAt(W:World)(T:Nat->Nat)(b:Nat)(s:BaySt):Prop:=∃gs ptr tg dp,BayIn W T b s gs ptr tg dp
theorem DevAt.keep{dp:Nat}{x:Dev}(h:DevAt W T t dv dp x)(hc:Chg S W W')(hS:∀k,T k=t\/k=dv->¬S k):DevAt W' T t dv dp x:=
 ⟨h.dev.mod hc (hS dv (.inr rfl)),h.tag,h.two,h.disk.keep hc (fun k hk=>hS k (.inl hk)),h.lo,h.hi⟩
theorem DevAt.retag{T':Nat->Nat}{dp:Nat}{x:Dev}(h:DevAt W T t dv dp x)(hT:∀g,g<W.heap.size->T' g=T g):DevAt W T' t dv dp x:=
 ⟨h.dev,by rw[hT dv h.dev.lt];exact h.tag,h.two,h.disk.retag hT,h.lo,h.hi⟩
theorem BayIn.keep{s:BaySt}(h:BayIn W T b s gs ptr tg dp)(hc:Chg S W W')(hS:∀k,T k≠0->¬S k):BayIn W' T b s gs ptr tg dp:=
 ⟨h.bay.mod hc (hS b (by rw[h.tb];omega)),h.slots.mod hc (hS gs (by rw[h.ts];omega)),h.tb,h.ts,
  fun i hi x hx=>by
   obtain⟨dv,h1,h2⟩:=h.some' i hi x hx
   exact⟨dv,h1,h2.keep hc (fun k hk=>hS k (by have:=h2.two;have:=h2.tag;rcases hk with hk|rfl<;>omega))⟩,
  h.none',h.apart,h.own,fun k hk=>h.virgin k (Zc hc.size hk),h.few,h.cl,h.trl,h.trh⟩
theorem BayAt.keep{s:BaySt}(h:BayAt W T b s)(hc:Chg S W W')(hS:∀k,T k≠0->¬S k):BayAt W' T b s:=by
 obtain⟨gs,ptr,tg,dp,h⟩:=h;exact⟨gs,ptr,tg,dp,h.keep hc hS⟩
theorem BayAt.below{s:BaySt}(h:BayAt W T b s)(hb:Below W.heap.size W W'):BayAt W' T b s:=
 h.keep (Zm hb (fun _=>False)) (fun _ _ h=>h)
def BaySt.is(s:BaySt)(k:Int):Prop:=0≤k/\k<(s.n:Int)
theorem Zcg{s:BaySt}(h:BayIn w T b s gs ptr tg dp)(k:Nat)(hk:k<s.n):
  Calls Zw 117 #[Zs (some ⟨b,0,none⟩),O Z k] w fun e w'=>e=Zu (Zs (some ⟨gs,k*3,none⟩))/\w'=w:=by
 have c0:w.cell? ⟨b,0,none⟩=some (Zt (some ⟨gs,0,none⟩) s.n s.n):=h.bay.cell 0;have hf:=h.few;clear h;generalize s.n=n at*;go_enter Tryz.func117,Tryz.ntmps117;go_wp2;go_ret;exact⟨rfl,rfl⟩
theorem Zcr{s:BaySt}(h:BayIn w T b s gs ptr tg dp)(k:Int)(hk:¬s.is k):
  Calls Zw 117 #[Zs (some ⟨b,0,none⟩),O Z k] w fun e w'=>e=Zu (.pointer none)/\w'=w:=by
 have c0:w.cell? ⟨b,0,none⟩=some (Zt (some ⟨gs,0,none⟩) s.n s.n):=h.bay.cell 0;have hf:=h.few;have hk':k<0\/(0≤k/\(s.n:Int)≤k):=by unfold BaySt.is at hk;omega
 clear h hk;generalize s.n=n at*;rcases hk' with hk|⟨hk,hk2⟩
 all_goals
  go_enter Tryz.func117,Tryz.ntmps117
  go_wp2
  go_ret
  exact⟨rfl,rfl⟩
theorem Zve{s:BaySt}(h:BayIn w T b s gs ptr tg dp)(k:Nat)(hk:k<s.n):
  Calls Zw 72 #[Zs (some ⟨b,0,none⟩),O Z k] w fun e w'=>e=Zu (pcell (ptr (k*3)))/\w'=w:=by
 have hat:=hid (Zcg h k hk);have c0:w.cell? ⟨gs,k*3,none⟩=some (pcell (ptr (k*3))):=(h.slots.cell (k*3)).trans (Zbh ptr s.n (k*3) (by omega));have hf:=h.few;clear h;unfold pcell at*;generalize (ptr (k*3)).map (fun b=>(⟨b,0,none⟩:Addr))=q at*;go_enter Tryz.func72,Tryz.ntmps72;go_wp2_with (go_at_call 117;refine hat.out.mono ?_;rintro e w1 ⟨rfl,rfl⟩);go_ret;exact⟨rfl,rfl⟩
theorem Zmp{s:BaySt}(h:BayIn w T b s gs ptr tg dp)(k:Int)(hk:¬s.is k):
  Calls Zw 72 #[Zs (some ⟨b,0,none⟩),O Z k] w fun e w'=>e=Zu (.pointer none)/\w'=w:=by
 have hat:=hid (Zcr h k hk);clear h;go_enter Tryz.func72,Tryz.ntmps72;go_wp2_with (go_at_call 117;refine hat.out.mono ?_;rintro e w1 ⟨rfl,rfl⟩);go_ret;exact⟨rfl,rfl⟩
theorem Zcf{s:BaySt}(h:BayIn w T b s gs ptr tg dp)(k dv:Nat)(hk:k<s.n)(hp:ptr (k*3)=some dv):
  Calls Zw 93 #[Zs (some ⟨b,0,none⟩),O Z k] w fun e w'=>e=Zu (.tuple #[Zs (some ⟨dv,0,none⟩),.int .u16 0])/\w'=w:=by
 have hat:=hid (Zcg h k hk);have hin:=hid (Zve h k hk);rw[hp]at hin;unfold pcell at hin;clear h;go_enter Tryz.func93,Tryz.ntmps93
 go_wp2_with (first
  |(go_at_call 117;refine hat.out.mono ?_;rintro e w1 ⟨rfl,rfl⟩)
  |(go_at_call 72;refine hin.out.mono ?_;rintro e w1 ⟨rfl,rfl⟩))
 go_ret2;exact⟨rfl,rfl⟩
theorem Za9{s:BaySt}(h:BayIn w T b s gs ptr tg dp)(k:Nat)(hk:k<s.n)(hp:ptr (k*3)=none):
  Calls Zw 93 #[Zs (some ⟨b,0,none⟩),O Z k] w fun e w'=>e=Zu (.tuple #[.pointer none,.int .u16 51])/\w'=w:=by
 have hat:=hid (Zcg h k hk);have hin:=hid (Zve h k hk);rw[hp]at hin;unfold pcell at hin;clear h;go_enter Tryz.func93,Tryz.ntmps93
 go_wp2_with (first
  |(go_at_call 117;refine hat.out.mono ?_;rintro e w1 ⟨rfl,rfl⟩)
  |(go_at_call 72;refine hin.out.mono ?_;rintro e w1 ⟨rfl,rfl⟩))
 go_ret2;exact⟨rfl,rfl⟩
theorem Zi1{s:BaySt}(h:BayIn w T b s gs ptr tg dp)(k:Int)(hk:¬s.is k):
  Calls Zw 93 #[Zs (some ⟨b,0,none⟩),O Z k] w fun e w'=>e=Zu (.tuple #[.pointer none,.int .u16 1])/\w'=w:=by
 have hat:=hid (Zcr h k hk);have hin:=hid (Zmp h k hk);clear h;go_enter Tryz.func93,Tryz.ntmps93
 go_wp2_with (first
  |(go_at_call 117;refine hat.out.mono ?_;rintro e w1 ⟨rfl,rfl⟩)
  |(go_at_call 72;refine hin.out.mono ?_;rintro e w1 ⟨rfl,rfl⟩))
 go_ret2;exact⟨rfl,rfl⟩
open Go.RowKit
def Dev.use(x:Dev):Dev:=if x.worn=false then x else if x.left=0 then ⟨⟨x.d.last,[],true⟩,false,x.left⟩else {x with left:=x.left-1}
theorem Zw8{dp:Nat}{x:Dev}(h:DevAt W T t dv dp x):dv≠dp:=by
 intro e;have:=h.tag;have:=h.two;have:=h.disk.tag;subst e;omega
theorem DevAt.turn{dp:Nat}{x:Dev}(h:DevAt W T t dv dp x)(worn:Bool)(left:Int)(hc:Chg (fun k=>k=dv) W W')(ha:At W' dv #[Zs (some ⟨dp,0,none⟩),.bool worn,O Z left] 92)(h0:0≤left)(h1:left≤9223372036854775807):
  DevAt W' T t dv dp ⟨x.d,worn,left⟩:=
 ⟨ha,h.tag,h.two,h.disk.keep hc (fun k hk e=>by have:=h.tag;have:=h.two;subst e;omega),h0,h1⟩
theorem DevAt.disk'{dp:Nat}{x:Dev}(h:DevAt W T t dv dp x)(hd:DiskAt W' T t dp d')(ha:At W' dv #[Zs (some ⟨dp,0,none⟩),.bool x.worn,O Z x.left] 92):DevAt W' T t dv dp ⟨d',x.worn,x.left⟩:=
 ⟨ha,h.tag,h.two,hd,h.lo,h.hi⟩
theorem Zf5(T:Nat->Nat)(t dv dp:Nat)(x:Dev)(w:World)(h:DevAt w T t dv dp x)(hm:x.d.cache.length≤1000000):
  Calls Zw 118 #[Zs (some ⟨dv,0,none⟩)] w fun e w'=>e=Zu (.tuple #[])/\DevAt w' T t dv dp x.use/\Chg (fun k=>T k=t\/k=dv) w w':=by
 have c0:w.cell? ⟨dv,0,none⟩=some (Zs (some ⟨dp,0,none⟩)):=h.dev.cell 0;have c1:w.cell? ⟨dv,1,none⟩=some (.bool x.worn):=h.dev.cell 1;have c2:w.cell? ⟨dv,2,none⟩=some (O Z x.left):=h.dev.cell 2;have f1:=h.dev.free 1;have f2:=h.dev.free 2;have hlo:=h.lo;have hhi:=h.hi;have htg:=h.tag;have H:=hid h;unfold Dev.use;cases hw:x.worn
 ·rw[hw]at c1
  rw[Zf rfl];clear h;go_enter Tryz.func118,Tryz.ntmps118;go_wp2;go_end0;exact⟨rfl,H.out,Zl _ _⟩
 ·rw[hw]at c1
  rw[Ze (by simp)];by_cases h0:x.left=0
  ·rw[Zf h0]
   rw[h0]at c2;have hfail:=hid (Zk8 T t dp x.d w h.disk hm);have hdp:dv≠dp:=Zw8 h;clear h;go_enter Tryz.func118,Tryz.ntmps118;go_wp2_with (go_at_call 94;refine hfail.out.mono ?_;rintro e w1 ⟨rfl,r1,r2⟩;have hd1:=H.out.dev.mod r2 (fun e=>by have:=H.out.two;omega);have e1:w1.cell? ⟨dv,1,none⟩=some (.bool x.worn):=hd1.cell 1;have g1:=hd1.free 1);go_end0;have hs:Chg (fun k=>k=dv) w1 (w1.setCell ⟨dv,1,none⟩ (.bool false)):=Zk (S:=fun k=>k=dv) (Zl _ _) ⟨dv,1,none⟩ (.inl rfl) _;refine⟨rfl,(H.out.disk' r1 hd1).turn false x.left hs (hd1.set 1 (.bool false)) hlo hhi,(r2.mono fun k hk=>.inl hk).trans (hs.mono fun k hk=>.inr hk)⟩
  ·rw[Ze h0]
   have q0:(x.left==0)=false:=beq_eq_false_iff_ne.2 h0;have ha:=hid (H.out.dev.set 2 (O Z (x.left-1)));have HT:=hid (fun (hx:At (w.setCell ⟨dv,2,none⟩ (O Z (x.left-1))) dv #[Zs (some ⟨dp,0,none⟩),.bool x.worn,O Z (x.left-1)] 92)=>H.out.turn x.worn (x.left-1) (Zk (S:=fun k=>k=dv) (Zl _ _) ⟨dv,2,none⟩ (.inl rfl) _) hx (by omega) (by omega));clear h;go_enter Tryz.func118,Tryz.ntmps118;go_wp2;go_end0;refine⟨rfl,?_,Zk (S:=fun k=>T k=t\/k=dv) (Zl _ _) ⟨dv,2,none⟩ (.inl (.inr rfl)) _⟩;have:=HT.out ha.out;rw[hw]at this;exact this
open Go.RowKit
theorem DiskAt.drew{d:Dsk}(h:DiskAt W T t p d):DiskAt W.drew T t p d:=h.keep ((Zl (fun _=>False) W).drew) (fun _ _ h=>h)
theorem Ze4(b:Nat)(w:World):Calls Zw 157 #[Zs (some ⟨b,3,none⟩)] w fun e w'=>e=Zu (Zs (some ⟨b,3,none⟩))/\w'=w:=by
 go_enter Tryz.func157,Tryz.ntmps157;go_wp2;go_ret;exact⟨rfl,rfl⟩
theorem Zef(b:Nat)(w:World):Calls Zw 76 #[Zs (some ⟨b,3,none⟩)] w fun e w'=>e=Zu (Zs (some ⟨b,4,none⟩))/\w'=w:=by
 go_enter Tryz.func76,Tryz.ntmps76;go_wp2;go_ret;exact⟨rfl,rfl⟩
theorem Zdq(b:Nat)(w:World):Calls Zw 85 #[Zs (some ⟨b,3,none⟩)] w fun e w'=>e=Zu (Zs (some ⟨b,5,none⟩))/\w'=w:=by
 go_enter Tryz.func85,Tryz.ntmps85;go_wp2;go_ret;exact⟨rfl,rfl⟩
def ReadDo(w:World)(db code:Nat)(s:Option Sec)(e:Ending)(w':World):Prop:=
 e=Zu (.int .u16 code)/\∃v,At w' db #[v] 36/\Chg (fun k=>k=db) w w'/\(∀x,s=some x->w'.ownsRow w.heap.size 5 1 v 128 (ucells x))/\(s=none->v=Zt none 0 0)
theorem Zqq(T:Nat->Nat)(t dv dp ab db i:Nat)(v0:Value)(x:Dev)(w:World)(h:DevAt w T t dv dp x)(hf:x.d.failed=false)(hi:i<x.d.last.length)(ha:At w ab #[O Z (i:Int)] 3)(hd:At w db #[v0] 36)(n1:db≠dv)(n2:db≠ab):
  Calls Zw 158 #[Zs (some ⟨dv,0,none⟩),Zs (some ⟨ab,0,none⟩),Zs (some ⟨db,0,none⟩)] w (ReadDo w db 0 (some (x.d.cur i))):=by
 have hread:=hid (Zsz T t dp i x.d w.drew h.disk.drew hf hi);have zv:=h.dev.lt;have za:=ha.lt;have zd:=hd.lt;have HSA:Hid (w.drew.cell? ⟨dv,0,none⟩=some (Zs (some ⟨dp,0,none⟩))/\w.drew.cell? ⟨ab,0,none⟩=some (O Z (i:Int))):=⟨h.dev.cell 0,ha.cell 0⟩;have HD:=hid hd;clear h ha hd hf hi;generalize x.d.cur i=s at*;go_enter Tryz.func158,Tryz.ntmps158;go_wp2;go_region_held3 (fun w'=>w'.cell? ⟨dv,0,none⟩=some (Zs (some ⟨dp,0,none⟩))/\w'.cell? ⟨ab,0,none⟩=some (O Z (i:Int)))
  (first|exact HSA.out|exact HSB|exact HSC)
  (first|(go_at_call 159;refine hread.out.mono ?_;rintro e w2 ⟨v,rfl,hown,hb⟩;have HSB:w2.cell? ⟨dv,0,none⟩=some (Zs (some ⟨dp,0,none⟩))/\w2.cell? ⟨ab,0,none⟩=some (O Z (i:Int)):=⟨(hb.cell (p:=⟨dv,0,none⟩) zv).trans HSA.out.1,(hb.cell (p:=⟨ab,0,none⟩) za).trans HSA.out.2⟩;have hd2:At w2 db #[v0] 36:=HD.out.drew.below hb zd;have d0:w2.cell? ⟨db,0,none⟩=some v0:=hd2.cell 0;have f0:=hd2.free 0;have HO:=hid hown;have HD2:=hid hd2;obtain⟨va,vc,rfl⟩:=Zab hown;clear hown hd2;have HSC:(w2.setCell ⟨db,0,none⟩ (Zt va 128 vc)).cell? ⟨dv,0,none⟩=some (Zs (some ⟨dp,0,none⟩))/\(w2.setCell ⟨db,0,none⟩ (Zt va 128 vc)).cell? ⟨ab,0,none⟩=some (O Z (i:Int)):=⟨(World.cell?_of_block (heap_setCell_other w2 ⟨db,0,none⟩ dv _ (Ne.symm n1))).trans HSB.1,(World.cell?_of_block (heap_setCell_other w2 ⟨db,0,none⟩ ab _ (Ne.symm n2))).trans HSB.2⟩))
 go_wp2;go_ret;have hs:Chg (fun k=>k=db) w2 (w2.setCell ⟨db,0,none⟩ (Zt va 128 vc)):=Zk (S:=fun k=>k=db) (Zl _ _) ⟨db,0,none⟩ (.inl rfl) _;have hdrew:Below w.heap.size w w2:=(Zb w.heap.size w).drew.trans hb;refine⟨rfl,Zt va 128 vc,HD2.out.set 0 _,(Zm hdrew _).trans hs,?_,fun h=>by cases h⟩;intro y hy;cases hy
 refine Zad HO.out hs (fun g hg e=> ?_);have:=(HO.out.lt g hg).1;have:w.drew.heap.size=w.heap.size:=rfl;omega
theorem Zmw(T:Nat->Nat)(t dv dp ab db:Nat)(z:Int)(v0:Value)(x:Dev)(w:World)(h:DevAt w T t dv dp x)(hz:x.d.may z≠0)(ha:At w ab #[O Z z] 3)(hd:At w db #[v0] 36)(n1:db≠dv)(n2:db≠ab):
  Calls Zw 158 #[Zs (some ⟨dv,0,none⟩),Zs (some ⟨ab,0,none⟩),Zs (some ⟨db,0,none⟩)] w (ReadDo w db (x.d.may z) none):=by
 have hread:=hid (Zj5 T t dp z x.d w.drew h.disk.drew hz);have HSA:Hid (w.drew.cell? ⟨dv,0,none⟩=some (Zs (some ⟨dp,0,none⟩))/\w.drew.cell? ⟨ab,0,none⟩=some (O Z z)):=⟨h.dev.cell 0,ha.cell 0⟩;have HSC:Hid ((w.drew.setCell ⟨db,0,none⟩ (Zt none 0 0)).cell? ⟨dv,0,none⟩=some (Zs (some ⟨dp,0,none⟩))/\(w.drew.setCell ⟨db,0,none⟩ (Zt none 0 0)).cell? ⟨ab,0,none⟩=some (O Z z)):=
  ⟨(World.cell?_of_block (heap_setCell_other w.drew ⟨db,0,none⟩ dv _ (Ne.symm n1))).trans HSA.out.1,(World.cell?_of_block (heap_setCell_other w.drew ⟨db,0,none⟩ ab _ (Ne.symm n2))).trans HSA.out.2⟩
 have HD:=hid hd;have d0:w.drew.cell? ⟨db,0,none⟩=some v0:=hd.cell 0;have f0:w.drew.frozen? ⟨db,0,none⟩=false:=hd.free 0;clear h ha hd hz;generalize x.d.may z=c at*;go_enter Tryz.func158,Tryz.ntmps158;go_wp2;go_region_held3 (fun w'=>w'.cell? ⟨dv,0,none⟩=some (Zs (some ⟨dp,0,none⟩))/\w'.cell? ⟨ab,0,none⟩=some (O Z z))
  (first|exact HSA.out|exact HSC.out)
  (first|(go_at_call 159;refine hread.out.mono ?_;rintro e w2 ⟨rfl,rfl⟩))
 go_wp2;go_ret;have hs:Chg (fun k=>k=db) w.drew (w.drew.setCell ⟨db,0,none⟩ (Zt none 0 0)):=Zk (S:=fun k=>k=db) (Zl _ _) ⟨db,0,none⟩ (.inl rfl) _;exact⟨rfl,Zt none 0 0,HD.out.drew.set 0 _,((Zl _ w).drew).trans hs,(fun y hy=>by cases hy),fun _=>rfl⟩
def DevPost(W:World)(T:Nat->Nat)(t dv dp:Nat)(x':Dev)(W':World):Prop:=
 ∃T',DevAt W' T' t dv dp x'/\(∀k,k<W.heap.size\/W'.heap.size≤k->T' k=T k)/\(∀k,T' k=T k\/T' k=t)/\Chg (fun k=>T k=t\/k=dv) W W'
theorem DevAt.post{dp:Nat}{x:Dev}(h:DevAt w T t dv dp x)(hp:DiskPost w T t dp d' w'):DevPost w T t dv dp ⟨d',x.worn,x.left⟩ w':=by
 obtain⟨T',h1,h2,h3,h4⟩:=hp;refine⟨T',⟨h.dev.mod h4 (fun e=>by have:=h.tag;have:=h.two;omega),by rw[h2 dv (.inl h.dev.lt)];exact h.tag,h.two,h1,h.lo,h.hi⟩,h2,h3,h4.mono fun k hk=>.inl hk⟩
theorem DiskPost.drew(h:DiskPost w.drew T t p d' w'):DiskPost w T t p d' w':=by
 obtain⟨T',h1,h2,h3,h4⟩:=h;exact⟨T',h1,h2,h3,((Zl _ w).drew).trans h4⟩
theorem DiskPost.same(h:DiskAt w' T t p d')(hc:Chg (fun k=>T k=t) w w'):DiskPost w T t p d' w':=
 ⟨T,h,fun _ _=>rfl,fun _=>.inl rfl,hc⟩
theorem Zm5(T:Nat->Nat)(t dv dp ab sb i:Nat)(v:Value)(s:Sec)(x:Dev)(w:World)(h:DevAt w T t dv dp x)(hf:x.d.failed=false)(hi:i<x.d.last.length)(ha:At w ab #[O Z (i:Int)] 3)(hb:At w sb #[v] 36)
  (hv:Seg w v s) (hs:s.length=128) (hc:x.d.cache.length≤1000000) (hvT:∀a n c,v=Zt (some a) n c->T a.block≠t) (n1:T ab≠t) (n2:T sb≠t):
  Calls Zw 77 #[Zs (some ⟨dv,0,none⟩),Zs (some ⟨ab,0,none⟩),Zs (some ⟨sb,0,none⟩)] w fun e w'=>e=Zu (.int .u16 0)/\DevPost w T t dv dp ⟨{x.d with cache:=x.d.cache++ [(i,s)]},x.worn,x.left⟩ w':=by
 have hvd:Seg w.drew v s:=hv.below ((Zb w.heap.size w).drew);have hwr:=hid (Zku T t dp i x.d s v w.drew h.disk.drew hf hi hvd hs hc hvT);obtain⟨va,vc,rfl⟩:=hv.shape;have HSA:Hid (w.drew.cell? ⟨dv,0,none⟩=some (Zs (some ⟨dp,0,none⟩))/\w.drew.cell? ⟨ab,0,none⟩=some (O Z (i:Int))/\w.drew.cell? ⟨sb,0,none⟩=some (Zt va s.length vc)):=⟨h.dev.cell 0,ha.cell 0,hb.cell 0⟩;have zv:=h.dev.lt;have za:=ha.lt;have zb:=hb.lt;have tv:T dv≠t:=by have:=h.tag;have:=h.two;omega
 have H:=hid h;clear h ha hb hf hi hv hvd hvT;generalize s.length=sn at*;subst hs;go_enter Tryz.func77,Tryz.ntmps77;go_wp2;go_region_held3 (fun w'=>w'.cell? ⟨dv,0,none⟩=some (Zs (some ⟨dp,0,none⟩))/\w'.cell? ⟨ab,0,none⟩=some (O Z (i:Int))/\w'.cell? ⟨sb,0,none⟩=some (Zt va 128 vc))
  (first|exact HSA.out|exact HSB)
  (first|(go_at_call 78;refine hwr.out.mono ?_;rintro e w2 ⟨rfl,hp⟩;have hp4:Chg (fun k=>T k=t) w.drew w2:=(by obtain⟨_,_,_,_,k⟩:=hp;exact k);have HSB:w2.cell? ⟨dv,0,none⟩=some (Zs (some ⟨dp,0,none⟩))/\w2.cell? ⟨ab,0,none⟩=some (O Z (i:Int))/\w2.cell? ⟨sb,0,none⟩=some (Zt va 128 vc):=⟨(hp4.cell (p:=⟨dv,0,none⟩) zv tv).trans HSA.out.1,(hp4.cell (p:=⟨ab,0,none⟩) za n1).trans HSA.out.2.1,(hp4.cell (p:=⟨sb,0,none⟩) zb n2).trans HSA.out.2.2⟩;have HP:=hid hp;clear hp))
 go_wp2;go_ret;exact⟨rfl,H.out.post HP.out.drew⟩
theorem Zl2(T:Nat->Nat)(t dv dp ab sb:Nat)(z:Int)(va:Option Addr)(sn vc code:Nat)(x:Dev)(w:World)(h:DevAt w T t dv dp x)(ha:At w ab #[O Z z] 3)(hb:At w sb #[Zt va sn vc] 36)
  (hcode:(x.d.may z≠0/\code=x.d.may z)\/(x.d.may z=0/\sn≠128/\code=4)):
  Calls Zw 77 #[Zs (some ⟨dv,0,none⟩),Zs (some ⟨ab,0,none⟩),Zs (some ⟨sb,0,none⟩)] w fun e w'=>e=Zu (.int .u16 (code:Int))/\w'=w.drew:=by
 have hwr:Hid (Calls Zw 78 #[Zs (some ⟨dp,0,none⟩),O Z z,Zt va sn vc] w.drew fun e w'=>e=Zu (.int .u16 (code:Int))/\w'=w.drew):=by
  rcases hcode with ⟨h1,rfl⟩|⟨h1,h2,rfl⟩
  ·exact Ziw T t dp z _ x.d w.drew h.disk.drew h1
  ·exact Zhx T t dp z va sn vc x.d w.drew h.disk.drew h1 h2
 have HSA:Hid (w.drew.cell? ⟨dv,0,none⟩=some (Zs (some ⟨dp,0,none⟩))/\w.drew.cell? ⟨ab,0,none⟩=some (O Z z)/\w.drew.cell? ⟨sb,0,none⟩=some (Zt va sn vc)):=⟨h.dev.cell 0,ha.cell 0,hb.cell 0⟩;clear h ha hb hcode;go_enter Tryz.func77,Tryz.ntmps77;go_wp2;go_region_held3 (fun w'=>w'.cell? ⟨dv,0,none⟩=some (Zs (some ⟨dp,0,none⟩))/\w'.cell? ⟨ab,0,none⟩=some (O Z z)/\w'.cell? ⟨sb,0,none⟩=some (Zt va sn vc))
  (first|exact HSA.out)
  (first|(go_at_call 78;refine hwr.out.mono ?_;rintro e w2 ⟨rfl,rfl⟩))
 go_wp2;go_ret;exact⟨rfl,rfl⟩
theorem Zn7(T:Nat->Nat)(t dv dp:Nat)(x:Dev)(w:World)(h:DevAt w T t dv dp x)(hf:x.d.failed=false)(hc:x.d.cache.length≤1000000):
  Calls Zw 86 #[Zs (some ⟨dv,0,none⟩)] w fun e w'=>e=Zu (.int .u16 0)/\DevPost w T t dv dp ⟨x.d.settled,x.worn,x.left⟩ w':=by
 have hfl:=hid (Zpz T t dp x.d w h.disk hf hc);have c0:w.cell? ⟨dv,0,none⟩=some (Zs (some ⟨dp,0,none⟩)):=h.dev.cell 0;have H:=hid h;clear h;go_enter Tryz.func86,Tryz.ntmps86;go_wp2_with (go_at_call 87;refine hfl.out.mono ?_;rintro e w2 ⟨rfl,r1,r2⟩);go_ret;exact⟨rfl,H.out.post (DiskPost.same r1 r2)⟩
theorem Zmd(T:Nat->Nat)(t dv dp:Nat)(x:Dev)(w:World)(h:DevAt w T t dv dp x)(hf:x.d.failed=true):
  Calls Zw 86 #[Zs (some ⟨dv,0,none⟩)] w fun e w'=>e=Zu (.int .u16 2)/\w'=w:=by
 have hfl:=hid (Ziq T t dp x.d w h.disk hf);have c0:w.cell? ⟨dv,0,none⟩=some (Zs (some ⟨dp,0,none⟩)):=h.dev.cell 0;clear h;go_enter Tryz.func86,Tryz.ntmps86;go_wp2_with (go_at_call 87;refine hfl.out.mono ?_;rintro e w2 ⟨rfl,rfl⟩);go_ret;exact⟨rfl,rfl⟩
open Go.RowKit
theorem BayIn.cells'{s:BaySt}(h:BayIn W T b s gs ptr tg dp)(hc:Chg (fun k=>k=b) W W')(dark:Bool)(trip:Int)(cnt:Nat->Int)
  (ha:At W' b #[Zt (some ⟨gs,0,none⟩) s.n s.n,.bool dark,O Z trip,O Z (cnt 0),O Z (cnt 1),O Z (cnt 2)] 86) (h1:∀j,0≤cnt j) (h2: -1≤trip) (h3:trip≤9223372036854775807):BayIn W' T b {s with dark:=dark,trip:=trip,cnt:=cnt} gs ptr tg dp:=by
 have hne:gs≠b:=fun e=>by
  have a:=h.bay;have c:=h.slots;subst e;unfold At at a c;rw[a]at c;simp only [Zg,Obj.cells.injEq]at c;exact absurd c.2.1 (by decide)
 refine⟨ha,h.slots.mod hc hne,h.tb,h.ts,fun i hi x hx=> ?_,h.none',h.apart,h.own,fun k hk=>h.virgin k (Zc hc.size hk),h.few,h1,h2,h3⟩;obtain⟨dv,k1,k2⟩:=h.some' i hi x hx;refine⟨dv,k1,k2.keep hc (fun k hk e=> ?_)⟩;subst e;rcases hk with hk|hk
 ·have:=h.tb;have:=k2.two;omega
 ·subst hk
  have a:=h.bay;have c:=k2.dev;unfold At at a c;rw[a]at c;simp only [Zg,Obj.cells.injEq]at c;exact absurd c.2.1 (by decide)
theorem BayIn.device{s:BaySt}(h:BayIn W T b s gs ptr tg dp){x x':Dev}(hi:i<3*s.n)(hx:s.pos i=some x)(hp:ptr i=some dv)(hd:DevPost W T (tg i) dv (dp i) x' W'):
  ∃T',BayIn W' T' b {s with pos:=fun q=>if q=i then some x' else s.pos q} gs ptr tg dp/\(∀k,k<W.heap.size->T' k=T k)/\Chg (fun k=>T k≠0) W W':=by
 obtain⟨T',d1,d2,d3,d4⟩:=hd;obtain⟨dv0,q1,q2⟩:=h.some' i hi x hx;rw[hp]at q1;simp only [Zg]at q1;subst q1;have htwo:=q2.two;have hne:∀g cs ty,At W g cs ty->ty≠92->g≠dv:=fun g cs ty ha hty e=>by
  subst e;have c:=q2.dev;unfold At at ha c;rw[ha]at c;simp only [Zg,Obj.cells.injEq]at c;exact hty c.2.1
 have hb:¬(T b=tg i\/b=dv):=by
  rintro (e|e)
  ·have:=h.tb;omega
  ·exact hne b _ _ h.bay (by decide) e
 have hs:¬(T gs=tg i\/gs=dv):=by
  rintro (e|e)
  ·have:=h.ts;omega
  ·exact hne gs _ _ h.slots (by decide) e
 refine⟨T',⟨h.bay.mod d4 hb,h.slots.mod d4 hs,by rw[d2 b (.inl h.bay.lt)];exact h.tb,by rw[d2 gs (.inl h.slots.lt)];exact h.ts,fun j hj y hy=> ?_,fun j hj hy=> ?_,fun j l hj hl hjl a c=> ?_,h.own,fun k hk=> ?_,h.few,h.cl,h.trl,h.trh⟩,fun k hk=>d2 k (.inl hk),d4.mono fun k hk=> ?_⟩
 ·by_cases hji:j=i
  ·subst hji
   simp only [Zf,Zg]at hy;subst hy;exact⟨dv,hp,d1⟩
  ·simp only [Ze hji]at hy
   obtain⟨dv2,e1,e2⟩:=h.some' j hj y hy;have hap:=h.apart j i hj hi hji (by rw[hy];simp) (by rw[hx];simp);refine⟨dv2,e1,?_⟩;refine⟨e2.dev.mod d4 ?_,by rw[d2 dv2 (.inl e2.dev.lt)];exact e2.tag,e2.two,?_,e2.lo,e2.hi⟩
   ·rintro (e|e)
    ·have:=e2.tag;omega
    ·exact h.own j i hj hi hji dv2 e1 (by rw[hp,e])
   ·refine(e2.disk.retag (fun g hg=>d2 g (.inl hg))).keep d4 (fun q hq e=> ?_)
    have hap':tg j≠tg i:=hap;rcases d3 q with h3|h3
    ·rw[h3]at hq
     rcases e with e|e
     ·omega
     ·subst e;have:=q2.tag;have:=e2.two;omega
    ·omega
 ·by_cases hji:j=i
  ·subst hji;simp at hy
  ·simp only [Ze hji]at hy;exact h.none' j hj hy
 ·have a':s.pos j≠none:=by
   by_cases hji:j=i
   ·subst hji;rw[hx];simp
   ·simpa [hji]using a
  have c':s.pos l≠none:=by
   by_cases hli:l=i
   ·subst hli;rw[hx];simp
   ·simpa [hli]using c
  exact h.apart j l hj hl hjl a' c'
 ·rw[d2 k (.inr hk)]
  exact h.virgin k (Zc d4.size hk)
 ·rcases hk with hk|hk
  ·omega
  ·subst hk;have:=q2.tag;omega
def BaySt.begun(s:BaySt)(j i:Nat)(x':Dev):BaySt:=
 {s with trip:=if 0<s.trip then s.trip-1 else s.trip,cnt:=fun q=>if q=j then s.cnt j+1 else s.cnt q,pos:=fun q=>if q=i then some x' else s.pos q}
theorem BayIn.used{s:BaySt}(h:BayIn W T b s gs ptr tg dp){x x':Dev}(hi:i<3*s.n)(hx:s.pos i=some x)(hp:ptr i=some dv)(hd:DevAt W' T (tg i) dv (dp i) x')(hc:Chg (fun k=>T k=tg i\/k=dv) W W'):
  BayIn W' T b {s with pos:=fun q=>if q=i then some x' else s.pos q} gs ptr tg dp/\Chg (fun k=>T k≠0) W W':=by
 obtain⟨dv0,q1,q2⟩:=h.some' i hi x hx;rw[hp]at q1;simp only [Zg]at q1;subst q1;have htwo:=q2.two;have hne:∀g cs ty,At W g cs ty->ty≠92->g≠dv:=fun g cs ty ha hty e=>by
  subst e;have c:=q2.dev;unfold At at ha c;rw[ha]at c;simp only [Zg,Obj.cells.injEq]at c;exact hty c.2.1
 refine⟨⟨h.bay.mod hc ?_,h.slots.mod hc ?_,h.tb,h.ts,fun j hj y hy=> ?_,fun j hj hy=> ?_,fun j l hj hl hjl a c=> ?_,h.own,fun k hk=>h.virgin k (Zc hc.size hk),h.few,h.cl,h.trl,h.trh⟩,hc.mono fun k hk=> ?_⟩
 ·rintro (e|e)
  ·have:=h.tb;omega
  ·exact hne b _ _ h.bay (by decide) e
 ·rintro (e|e)
  ·have:=h.ts;omega
  ·exact hne gs _ _ h.slots (by decide) e
 ·by_cases hji:j=i
  ·subst hji
   simp only [Zf,Zg]at hy;subst hy;exact⟨dv,hp,hd⟩
  ·simp only [Ze hji]at hy
   obtain⟨dv2,e1,e2⟩:=h.some' j hj y hy;have hap:=h.apart j i hj hi hji (by rw[hy];simp) (by rw[hx];simp);refine⟨dv2,e1,e2.keep hc (fun k hk e=> ?_)⟩;rcases hk with hk|hk
   ·rcases e with e|e
    ·omega
    ·subst e;have:=q2.tag;have:=e2.two;omega
   ·subst hk
    rcases e with e|e
    ·have:=e2.tag;omega
    ·exact h.own j i hj hi hji k e1 (by rw[hp,e])
 ·by_cases hji:j=i
  ·subst hji;simp at hy
  ·simp only [Ze hji]at hy;exact h.none' j hj hy
 ·have a':s.pos j≠none:=by
   by_cases hji:j=i
   ·subst hji;rw[hx];simp
   ·simpa [hji]using a
  have c':s.pos l≠none:=by
   by_cases hli:l=i
   ·subst hli;rw[hx];simp
   ·simpa [hli]using c
  exact h.apart j l hj hl hjl a' c'
 ·rcases hk with hk|hk
  ·omega
  ·subst hk;have:=q2.tag;omega
end Go.Proofs.YtmemlkmnhcealaaGreat
