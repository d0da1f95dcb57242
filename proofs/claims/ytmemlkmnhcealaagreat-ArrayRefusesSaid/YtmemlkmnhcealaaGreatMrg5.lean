
/- Several texts in one: BayH, SameB, LeA. -/
import Derived.Test.YtmemlkmnhcealaaGreatMrg4
set_option linter.unusedVariables false
set_option maxRecDepth 100000
set_option maxHeartbeats 4000000
namespace Go.Proofs.YtmemlkmnhcealaaGreat
open Value renaming int→O,pointer→Zs,slice→Zt
open IntKind renaming i64→Z
open Ending renaming returned→Zu
open Go.Proofs.Tryz renaming prog→Zw
open Go.RowKit
open Lib(hid)
variable {cs:Array Value} {s s':BaySt} {l:List UInt8} {xs:List Value} {B b g n p size:Nat} {T:Nat->Nat} {S:Nat->Prop} {t:TypeId} {bv v:Value} {W W' W'' w w1 w2:World}
theorem Zaj{S':Nat->Prop}(h1:Chg S w w1)(h2:Chg S' w1 w2)(h:∀q,q<w.heap.size->S' q->S q):Chg S w w2:=
 ⟨h2.os.trans h1.os,h2.tape.trans h1.tape,h2.output.trans h1.output,Zc h1.size h2.size,fun q hq hn=>(h2.block q (Zd hq h1.size) (fun hs=>hn (h q hq hs))).trans (h1.block q hq hn)⟩
theorem BayAt.virgin(h:BayAt w T b s):∀k,w.heap.size≤k->T k=0:=by
 obtain⟨gs,ptr,tg,dp,h⟩:=h;exact h.virgin
def BaySt.start(s:BaySt)(j:Nat)(k:Int):BaySt×(Nat ⊕ Dev):=
 if ¬(0≤k/\k<(s.n:Int))then (s,.inl 1)
 else if s.trip=0 then ({s with dark:=true,trip:= -1},.inl 50)
 else if s.dark=true then (s,.inl 50)
 else match s.pos (k.toNat*3)with
  |none=>({s with trip:=(if 0<s.trip then s.trip-1 else s.trip),cnt:=fun q=>if q=j then s.cnt j+1 else s.cnt q},.inl 51)
  |some x=>(s.begun j (k.toNat*3) x.use,.inr x.use)
def BaySt.laid(s:BaySt)(i:Nat)(y:Dev):BaySt:={s with pos:=fun q=>if q=i then some y else s.pos q}
def BaySt.read(s:BaySt)(k z:Int):Nat×Option Sec×BaySt:=
 match s.start 0 k with
 |(s',.inl c)=>(c,none,s')
 |(s',.inr x)=>((x.d.read z).1,(x.d.read z).2,s')
def BaySt.write(s:BaySt)(k z:Int)(l:List UInt8):Nat×BaySt:=
 match s.start 1 k with
 |(s',.inl c)=>(c,s')
 |(s',.inr x)=>((x.d.write z l).1,s'.laid (k.toNat*3) ⟨(x.d.write z l).2,x.worn,x.left⟩)
def BaySt.flush(s:BaySt)(k:Int):Nat×BaySt:=
 match s.start 2 k with
 |(s',.inl c)=>(c,s')
 |(s',.inr x)=>(x.d.flush.1,s'.laid (k.toNat*3) ⟨x.d.flush.2,x.worn,x.left⟩)
def BaySt.small(s:BaySt)(m:Nat):Prop:=∀i,i<3*s.n->∀x,s.pos i=some x->x.d.cache.length≤m
theorem Ze3{x:Dev}{m:Nat}(h:x.d.cache.length≤m):x.use.d.cache.length≤m:=by
 unfold Dev.use;split
 ·exact h
 ·split
  ·simp
  ·exact h
def ReadPost'(w:World)(T:Nat->Nat)(b:Nat)(r:Nat×Option Sec×BaySt)(e:Ending)(w':World):Prop:=
 ∃v,e=Zu (.tuple #[v,.int .u16 (r.1:Nat)])/\BayAt w' T b r.2.2/\Chg (fun k=>T k≠0) w w'/\(∀x,r.2.1=some x->w'.ownsRow w.heap.size 5 1 v 128 (ucells x))/\(r.2.1=none->v=Zt none 0 0)
def BayPost(w:World)(T:Nat->Nat)(b:Nat)(s':BaySt)(w':World):Prop:=∃T',BayAt w' T' b s'/\(∀q,q<w.heap.size->T' q=T q)/\Chg (fun q=>T q≠0) w w'
theorem BayPost.same{w':World}(h:BayAt w' T b s')(hc:Chg (fun q=>T q≠0) w w'):BayPost w T b s' w':=⟨T,h,fun _ _=>rfl,hc⟩
theorem BayPost.trans{T1:Nat->Nat}{s2:BaySt}(h1:∀q,q<w.heap.size->T1 q=T q)(hc:Chg (fun q=>T q≠0) w w1)(h:BayPost w1 T1 b s2 w2):BayPost w T b s2 w2:=by
 obtain⟨T',k1,k2,k3⟩:=h;exact⟨T',k1,fun q hq=>(k2 q (Zd hq hc.size)).trans (h1 q hq),Zaj hc k3 (fun q hq hs=>by rw[<-h1 q hq];exact hs)⟩
theorem Zc1(h:BayAt w T b s)(k z:Int)(c:Nat)
  (hop:∀W,BayAt W T b s->Calls Zw 75 #[Zs (some ⟨b,0,none⟩),O Z k,.func (.func 157) #[] #[],.func (.func 158) #[] #[Zs (some ⟨w.heap.size,0,none⟩),Zs (some ⟨w.heap.size+1,0,none⟩)]] W fun e W'=>e=Zu (.int .u16 (c:Nat))/\BayAt W' T b s'/\Chg (fun q=>T q≠0) W W'):
  Calls Zw 116 #[Zs (some ⟨b,0,none⟩),O Z k,O Z z] w fun e w'=>e=Zu (.tuple #[Zt none 0 0,.int .u16 (c:Nat)])/\BayAt w' T b s'/\Chg (fun q=>T q≠0) w w':=by
 have hB1:BayAt ((w.alloc (.cells #[O Z z] 3)).alloc (.cells #[Zt none 0 0] 36)) T b s:=h.keep (S:=fun _=>False) (((Zl _ _).alloc _).alloc _) (fun _ _ h=>h);have e1:(w.alloc (.cells #[O Z z] 3)).heap.size=w.heap.size+1:=Zaa _ _;have hv1:=h.virgin (w.heap.size+1) (by omega);have hD1:At ((w.alloc (.cells #[O Z z] 3)).alloc (.cells #[Zt none 0 0] 36)) (w.heap.size+1) #[Zt none 0 0] 36:=At.new2 _ _ _ _;have h0:Chg (fun q=>T q≠0) w ((w.alloc (.cells #[O Z z] 3)).alloc (.cells #[Zt none 0 0] 36)):=((Zl _ _).alloc _).alloc _;have hop:=hid (hop _ hB1);have HD:=hid hD1;have hvir:=hid h.virgin;clear hB1 hD1 h;go_enter Tryz.func116,Tryz.ntmps116;go_wp2_with (go_at_call 75;refine hop.out.mono ?_;rintro e w2 ⟨rfl,hB,k2⟩;have k1:=HD.out.mod k2 (by rw[hv1];simp);have d0:w2.cell? ⟨w.heap.size+1,0,none⟩=some (Zt none 0 0):=k1.cell 0;have f0:=k1.free 0;have K1:=hid k1;have HB:=hid hB;clear k1 hB);have hset:Chg (fun q=>q=w.heap.size+1) w2 (w2.setCell ⟨w.heap.size+1,0,none⟩ (Zt none 0 0)):=Zk (S:=fun q=>q=w.heap.size+1) (Zl _ _) ⟨w.heap.size+1,0,none⟩ (.inl rfl) _;have hrd:(w2.setCell ⟨w.heap.size+1,0,none⟩ (Zt none 0 0)).cell? ⟨w.heap.size+1,0,none⟩=some (Zt none 0 0):=(K1.out.set 0 (Zt none 0 0)).cell 0;have hb:=HB.out.keep hset (fun q hq e=>by subst e;omega);have hch:Chg (fun q=>T q≠0) w (w2.setCell ⟨w.heap.size+1,0,none⟩ (Zt none 0 0)):=Zaj (h0.trans k2) hset (fun q hq e=>by omega);(try simp only [Exit.inBlock,Exit.then]);refine bodyPost_ret (v:=.tuple #[Zt none 0 0,.int .u16 (c:Nat)]) ?_ rfl ⟨rfl,hb,hch⟩;rw[results_cell_tmp rfl];go_simp
theorem Zt8(h:BayAt w T b s)(k z:Int)(hcnt:s.cnt 0≤1000000000000)(hm:s.small 1000000):
  Calls Zw 116 #[Zs (some ⟨b,0,none⟩),O Z k,O Z z] w (ReadPost' w T b (s.read k z)):=by
 unfold BaySt.read BaySt.start;by_cases hk:0≤k/\k<(s.n:Int)
 ·rw[Ze (by simpa using hk)]
  obtain⟨k,rfl⟩:∃q:Nat,k=q:=⟨k.toNat,by omega⟩;have hkn:k<s.n:=by omega
  rw[show((k:Int)).toNat=k by omega];by_cases ht:s.trip=0
  ·rw[Zf ht]
   refine(Zc1 (s':={s with dark:=true,trip:= -1}) h k z 50 fun W hW=> ?_).mono fun e w' ⟨h1,h2,h3⟩=>⟨_,h1,h2,h3,fun x hx=>by simp at hx,fun _=>rfl⟩
   obtain⟨gs,ptr,tg,dp,hW⟩:=hW;refine(Zpm hW _ _ k hkn ht).mono fun e W' ⟨h1,h2,h3⟩=>⟨h1,⟨gs,ptr,tg,dp,h2⟩,h3.mono fun q hq=> ?_⟩
   subst hq;rw[hW.tb];simp
  ·rw[Ze ht]
   by_cases hd:s.dark=true
   ·rw[Zf hd]
    refine(Zc1 (s':=s) h k z 50 fun W hW=> ?_).mono fun e w' ⟨h1,h2,h3⟩=>⟨_,h1,h2,h3,fun x hx=>by simp at hx,fun _=>rfl⟩
    obtain⟨gs,ptr,tg,dp,hW⟩:=hW;refine(Zth hW _ _ k hkn ht hd).mono fun e W' ⟨h1,h2⟩=>⟨h1,?_,?_⟩
    ·rw[h2];exact⟨gs,ptr,tg,dp,hW⟩
    ·rw[h2];exact Zl _ _
   ·rw[Ze hd]
    cases hx:s.pos (k*3)with
    |none=>
     refine(Zc1 (s':={s with trip:=(if 0<s.trip then s.trip-1 else s.trip),cnt:=fun q=>if q=0 then s.cnt 0+1 else s.cnt q}) h k z 51 fun W hW=> ?_).mono fun e w' ⟨h1,h2,h3⟩=>⟨_,h1,h2,h3,fun x hx=>by simp at hx,fun _=>rfl⟩
     obtain⟨gs,ptr,tg,dp,hW⟩:=hW;refine(Zqw hW _ _ k hkn ht (by simpa using hd) hcnt (hW.none' (k*3) (by omega) hx)).mono fun e W' ⟨h1,h2,h3⟩=>⟨h1,⟨gs,ptr,tg,dp,h2⟩,h3.mono fun q hq=> ?_⟩
     subst hq;rw[hW.tb];simp
    |some x=>
     obtain⟨gs,ptr,tg,dp,h⟩:=h;exact(Zkf h k z hkn ht (by simpa using hd) hcnt x hx (hm _ (by omega) x hx)).mono fun e w' ⟨v,h1,h2,h3,h4,h5⟩=>⟨v,h1,⟨gs,ptr,tg,dp,h2⟩,h3,h4,h5⟩
 ·rw[Zf (by simpa using hk)]
  refine(Zc1 (s':=s) h k z 1 fun W hW=> ?_).mono fun e w' ⟨h1,h2,h3⟩=>⟨_,h1,h2,h3,fun x hx=>by simp at hx,fun _=>rfl⟩
  obtain⟨gs,ptr,tg,dp,hW⟩:=hW;refine(Zv0 hW _ _ k hk).mono fun e W' ⟨h1,h2⟩=>⟨h1,?_,?_⟩
  ·rw[h2];exact⟨gs,ptr,tg,dp,hW⟩
  ·rw[h2];exact Zl _ _
theorem Zcj(h:BayAt w T b s)(k z:Int)(c:Nat)(v:Value)(l:List UInt8)(hv:Seg w v l)
  (hop:∀W,BayAt W T b s->Calls Zw 75 #[Zs (some ⟨b,0,none⟩),O Z k,.func (.func 76) #[] #[],.func (.func 77) #[] #[Zs (some ⟨w.heap.size,0,none⟩),Zs (some ⟨w.heap.size+1,0,none⟩)]] W fun e W'=>e=Zu (.int .u16 (c:Nat))/\BayAt W' T b s'/\Chg (fun q=>T q≠0) W W'):
  Calls Zw 43 #[Zs (some ⟨b,0,none⟩),O Z k,O Z z,v] w fun e w'=>e=Zu (.int .u16 (c:Nat))/\BayAt w' T b s'/\Chg (fun q=>T q≠0) w w':=by
 obtain⟨va,vc,rfl⟩:=hv.shape;have hB1:BayAt ((w.alloc (.cells #[O Z z] 3)).alloc (.cells #[Zt va l.length vc] 36)) T b s:=h.keep (S:=fun _=>False) (((Zl _ _).alloc _).alloc _) (fun _ _ h=>h);have e1:(w.alloc (.cells #[O Z z] 3)).heap.size=w.heap.size+1:=Zaa _ _;have h0:Chg (fun q=>T q≠0) w ((w.alloc (.cells #[O Z z] 3)).alloc (.cells #[Zt va l.length vc] 36)):=((Zl _ _).alloc _).alloc _;have hop:=hid (hop _ hB1);clear hB1 h hv;go_enter Tryz.func43,Tryz.ntmps43;go_wp2_with (go_at_call 75;refine hop.out.mono ?_;rintro e w2 ⟨rfl,hB,k2⟩);go_ret;exact⟨rfl,hB,h0.trans k2⟩
theorem Zi8(s:BaySt)(j i:Nat)(x y:Dev):(s.begun j i x).laid i y=s.begun j i y:=Zht s j i x y
theorem Zk3(h:BayAt w T b s)(k z:Int)(v:Value)(l:List UInt8)(hcnt:s.cnt 1≤1000000000000)(hm:s.small 1000000)(hv:Seg w v l)(hvT:l.length=128->∀a n c,v=Zt (some a) n c->T a.block=0):
  Calls Zw 43 #[Zs (some ⟨b,0,none⟩),O Z k,O Z z,v] w fun e w'=>e=Zu (.int .u16 ((s.write k z l).1:Nat))/\BayPost w T b (s.write k z l).2 w':=by
 unfold BaySt.write BaySt.start;by_cases hk:0≤k/\k<(s.n:Int)
 ·rw[Ze (by simpa using hk)]
  obtain⟨k,rfl⟩:∃q:Nat,k=q:=⟨k.toNat,by omega⟩;have hkn:k<s.n:=by omega
  rw[show((k:Int)).toNat=k by omega];by_cases ht:s.trip=0
  ·rw[Zf ht]
   refine(Zcj (s':={s with dark:=true,trip:= -1}) h k z 50 v l hv fun W hW=> ?_).mono fun e w' ⟨h1,h2,h3⟩=>⟨h1,.same h2 h3⟩
   obtain⟨gs,ptr,tg,dp,hW⟩:=hW;refine(Znf hW _ _ k hkn ht).mono fun e W' ⟨h1,h2,h3⟩=>⟨h1,⟨gs,ptr,tg,dp,h2⟩,h3.mono fun q hq=> ?_⟩
   subst hq;rw[hW.tb];simp
  ·rw[Ze ht]
   by_cases hd:s.dark=true
   ·rw[Zf hd]
    refine(Zcj (s':=s) h k z 50 v l hv fun W hW=> ?_).mono fun e w' ⟨h1,h2,h3⟩=>⟨h1,.same h2 h3⟩
    obtain⟨gs,ptr,tg,dp,hW⟩:=hW;refine(Zqd hW _ _ k hkn ht hd).mono fun e W' ⟨h1,h2⟩=>⟨h1,?_,?_⟩
    ·rw[h2];exact⟨gs,ptr,tg,dp,hW⟩
    ·rw[h2];exact Zl _ _
   ·rw[Ze hd]
    cases hx:s.pos (k*3)with
    |none=>
     refine(Zcj (s':={s with trip:=(if 0<s.trip then s.trip-1 else s.trip),cnt:=fun q=>if q=1 then s.cnt 1+1 else s.cnt q}) h k z 51 v l hv fun W hW=> ?_).mono fun e w' ⟨h1,h2,h3⟩=>⟨h1,.same h2 h3⟩
     obtain⟨gs,ptr,tg,dp,hW⟩:=hW;refine(Znx hW _ _ k hkn ht (by simpa using hd) hcnt (hW.none' (k*3) (by omega) hx)).mono fun e W' ⟨h1,h2,h3⟩=>⟨h1,⟨gs,ptr,tg,dp,h2⟩,h3.mono fun q hq=> ?_⟩
     subst hq;rw[hW.tb];simp
    |some x=>
     obtain⟨gs,ptr,tg,dp,h⟩:=h;have hs:=hm _ (by omega) x hx;refine(Zit h k z v l hkn ht (by simpa using hd) hcnt x hx hs (Ze3 hs) hv hvT).mono fun e w' ⟨h1,T',h2,h3,h4⟩=>⟨h1,T',?_,h3,h4⟩
     show BayAt w' T' b ((s.begun 1 (k*3) x.use).laid (k*3) _)
     rw[Zi8];exact⟨gs,ptr,tg,dp,h2⟩
 ·rw[Zf (by simpa using hk)]
  refine(Zcj (s':=s) h k z 1 v l hv fun W hW=> ?_).mono fun e w' ⟨h1,h2,h3⟩=>⟨h1,.same h2 h3⟩
  obtain⟨gs,ptr,tg,dp,hW⟩:=hW;refine(Zue hW _ _ k hk).mono fun e W' ⟨h1,h2⟩=>⟨h1,?_,?_⟩
  ·rw[h2];exact⟨gs,ptr,tg,dp,hW⟩
  ·rw[h2];exact Zl _ _
theorem Zh4(h:BayAt w T b s)(k z:Int)(v:Value)(l:List UInt8)(hcnt:s.cnt 1≤1000000000000)(hm:s.small 1000000)(hv:Seg w v l)(hvT:∀a n c,v=Zt (some a) n c->T a.block=0):
  Calls Zw 43 #[Zs (some ⟨b,0,none⟩),O Z k,O Z z,v] w fun e w'=>e=Zu (.int .u16 ((s.write k z l).1:Nat))/\BayPost w T b (s.write k z l).2 w':=
 Zk3 h k z v l hcnt hm hv (fun _=>hvT)
theorem Zcl(h:BayAt w T b s)(k:Int)(c:Nat)
  (hop:Calls Zw 75 #[Zs (some ⟨b,0,none⟩),O Z k,.func (.func 85) #[] #[],.func (.func 86) #[] #[]] w fun e W'=>e=Zu (.int .u16 (c:Nat))/\BayAt W' T b s'/\Chg (fun q=>T q≠0) w W'):
  Calls Zw 47 #[Zs (some ⟨b,0,none⟩),O Z k] w fun e w'=>e=Zu (.int .u16 (c:Nat))/\BayAt w' T b s'/\Chg (fun q=>T q≠0) w w':=by
 have hop:=hid hop;clear h;go_enter Tryz.func47,Tryz.ntmps47;go_wp2_with (go_at_call 75;refine hop.out.mono ?_;rintro e w2 ⟨rfl,hB,k2⟩);go_ret;exact⟨rfl,hB,k2⟩
theorem Zh8(h:BayAt w T b s)(k:Int)(hcnt:s.cnt 2≤1000000000000)(hm:s.small 1000000):
  Calls Zw 47 #[Zs (some ⟨b,0,none⟩),O Z k] w fun e w'=>e=Zu (.int .u16 ((s.flush k).1:Nat))/\BayPost w T b (s.flush k).2 w':=by
 unfold BaySt.flush BaySt.start;by_cases hk:0≤k/\k<(s.n:Int)
 ·rw[Ze (by simpa using hk)]
  obtain⟨k,rfl⟩:∃q:Nat,k=q:=⟨k.toNat,by omega⟩;have hkn:k<s.n:=by omega
  rw[show((k:Int)).toNat=k by omega];have hW:=h;obtain⟨gs,ptr,tg,dp,hW⟩:=hW;by_cases ht:s.trip=0
  ·rw[Zf ht]
   refine(Zcl (s':={s with dark:=true,trip:= -1}) h k 50 ?_).mono fun e w' ⟨h1,h2,h3⟩=>⟨h1,.same h2 h3⟩
   refine(Zn5 hW k hkn ht).mono fun e W' ⟨h1,h2,h3⟩=>⟨h1,⟨gs,ptr,tg,dp,h2⟩,h3.mono fun q hq=> ?_⟩
   subst hq;rw[hW.tb];simp
  ·rw[Ze ht]
   by_cases hd:s.dark=true
   ·rw[Zf hd]
    refine(Zcl (s':=s) h k 50 ?_).mono fun e w' ⟨h1,h2,h3⟩=>⟨h1,.same h2 h3⟩
    refine(Zpy hW k hkn ht hd).mono fun e W' ⟨h1,h2⟩=>⟨h1,?_,?_⟩
    ·rw[h2];exact⟨gs,ptr,tg,dp,hW⟩
    ·rw[h2];exact Zl _ _
   ·rw[Ze hd]
    cases hx:s.pos (k*3)with
    |none=>
     refine(Zcl (s':={s with trip:=(if 0<s.trip then s.trip-1 else s.trip),cnt:=fun q=>if q=2 then s.cnt 2+1 else s.cnt q}) h k 51 ?_).mono fun e w' ⟨h1,h2,h3⟩=>⟨h1,.same h2 h3⟩
     refine(Zny hW k hkn ht (by simpa using hd) hcnt (hW.none' (k*3) (by omega) hx)).mono fun e W' ⟨h1,h2,h3⟩=>⟨h1,⟨gs,ptr,tg,dp,h2⟩,h3.mono fun q hq=> ?_⟩
     subst hq;rw[hW.tb];simp
    |some x=>
     have hs:=hm _ (by omega) x hx;refine(Zi2 hW k hkn ht (by simpa using hd) hcnt x hx hs (Ze3 hs)).mono fun e w' ⟨h1,T',h2,h3,h4⟩=>⟨h1,T',?_,h3,h4⟩
     show BayAt w' T' b ((s.begun 2 (k*3) x.use).laid (k*3) _)
     rw[Zi8];exact⟨gs,ptr,tg,dp,h2⟩
 ·rw[Zf (by simpa using hk)]
  refine(Zcl (s':=s) h k 1 ?_).mono fun e w' ⟨h1,h2,h3⟩=>⟨h1,.same h2 h3⟩
  obtain⟨gs,ptr,tg,dp,hW⟩:=h;refine(Ztp hW k hk).mono fun e W' ⟨h1,h2⟩=>⟨h1,?_,?_⟩
  ·rw[h2];exact⟨gs,ptr,tg,dp,hW⟩
  ·rw[h2];exact Zl _ _
open Go.RowKit
open Go.RowKit
theorem Za4{e:TypeId}{sz:Nat}(h:w.ownsRow B e sz v n xs)(ha:At w g cs t)(hne:e≠t):v.ownBlock≠some g:=by
 intro hv;rcases h.2 with ⟨rfl,_⟩|⟨g',cap,cur,rfl,_,hg,_⟩
 ·cases hv
 ·simp only [Value.ownBlock,Zg]at hv
  subst hv;unfold At at ha;rw[hg]at ha;simp only [Zg,Obj.cells.injEq]at ha;exact hne ha.2.1
theorem Zcb{a b c:World}(h:Below B a b)(hB:B≤b.heap.size)(hc:Chg S b c)(hS:∀q,S q->B≤q):Below B a c:=
 h.trans (hc.below fun q hq=>⟨by omega,fun hs=>by have:=hS q hs;omega⟩)
def leN:Nat->Nat->List UInt8
 |_,0=> []
 |v,k+1=>UInt8.ofNat (v%256)::leN (v/256) k
theorem Zal(v k:Nat):(leN v k).length=k:=by
 induction k generalizing v with
 |zero=>rfl
 |succ k ih=>show(leN (v/256) k).length+1=k+1;rw[ih]
theorem Zty(v k:Nat):leN v (k+1)=leN v k++ [UInt8.ofNat (v/256^k%256)]:=by
 induction k generalizing v with
 |zero=>show [UInt8.ofNat (v%256)]= []++ [UInt8.ofNat (v/256^0%256)];simp
 |succ k ih=>
  show UInt8.ofNat (v%256)::leN (v/256) (k+1)=(UInt8.ofNat (v%256)::leN (v/256) k)++_
  rw[ih (v/256),List.cons_append,Nat.div_div_eq_div_mul,Nat.pow_succ,Nat.mul_comm 256]
structure PackAt (W:World) (B p size:Nat) (bv:Value) (l:List UInt8):Prop where
 box:At W p #[O Z size,bv,.int .u16 0] 248
 row:W.ownsRow B 5 1 bv l.length (ucells l)
 lo:B≤p
 room:l.length≤size
 few:size≤4096
theorem PackAt.below(h:PackAt W B p size bv l)(hb:Below W.heap.size W W'):PackAt W' B p size bv l:=
 ⟨h.box.below hb h.box.lt,Zaf h.row hb (Za _),h.lo,h.room,h.few⟩
theorem PackAt.mod(h:PackAt W B p size bv l)(hc:Chg S W W')(hS:∀q,B≤q->¬S q):PackAt W' B p size bv l:=
 ⟨h.box.mod hc (hS p h.lo),Zad h.row hc (fun g hg=>hS g (h.row.lt g hg).1),h.lo,h.room,h.few⟩
theorem Zaw{g':Nat}{cs':Array Value}{t':TypeId}(h:At w g cs t)(h':At w g' cs' t')(ht:t≠t'):g≠g':=by
 rintro rfl;unfold At at h h';rw[h]at h';simp only [Zg,Obj.cells.injEq]at h';exact ht h'.2.1
def Keeps(W W':World):Prop:=∀g cs t,t≠5->t≠248->At W g cs t->At W' g cs t
theorem Keeps.refl(W:World):Keeps W W:=fun _ _ _ _ _ h=>h
theorem Keeps.trans(h:Keeps W W')(h':Keeps W' W''):Keeps W W'':=fun g cs t n1 n2 ha=>h' g cs t n1 n2 (h g cs t n1 n2 ha)
theorem Keeps.of(h:Below W.heap.size W W'):Keeps W W':=fun _ _ _ _ _ ha=>ha.below h ha.lt
theorem Keeps.alloc(h:Keeps W W')(o:Obj):Keeps W (W'.alloc o):=fun g cs t n1 n2 ha=>(h g cs t n1 n2 ha).alloc o
theorem Keeps.row(h:Keeps W W')(hr:W'.ownsRow B 5 1 v n xs)(hc:Chg (fun q=>v.ownBlock=some q) W' W''):Keeps W W'':=
 fun g cs t n1 n2 ha=>(h g cs t n1 n2 ha).mod hc (Za4 hr (h g cs t n1 n2 ha) (Ne.symm n1))
theorem Keeps.set{cs0:Array Value}(h:Keeps W W')(hp:At W' p cs0 248)(i:Nat)(v:Value):Keeps W (W'.setCell ⟨p,i,none⟩ v):=
 fun g cs t n1 n2 ha=>(h g cs t n1 n2 ha).setOther (Zaw (h g cs t n1 n2 ha) hp n2) v
def PackPost(W:World)(B p size:Nat)(l:List UInt8)(W':World):Prop:=(∃bv,PackAt W' B p size bv l)/\Below B W W'/\Keeps W W'
theorem Zje(n:Nat)(w:World)(hn:n≤4096):
  Calls Zw 127 #[O Z n] w fun e w'=>∃p,e=Zu (.tuple #[Zs (some ⟨p,0,none⟩),.int .u16 0])/\(∀B,B≤w.heap.size->PackAt w' B p n (Zt none 0 0) [])/\Below w.heap.size w w':=by
 go_enter Tryz.func127,Tryz.ntmps127;go_wp2;go_ret2;exact⟨w.heap.size,rfl,fun B hB=>⟨At.new _ _ _,World.ownsRow_nil _ _ _ _,hB,Nat.zero_le _,hn⟩,(Zb _ _).alloc (Za _) _⟩
theorem Zwf(h:PackAt w B p size bv l):
  Calls Zw 244 #[Zs (some ⟨p,0,none⟩)] w fun e w'=>e=Zu (O Z ((size:Int)-(l.length:Int)))/\Below w.heap.size w w':=by
 have c0:w.cell? ⟨p,0,none⟩=some (O Z size):=h.box.cell 0;have c1:w.cell? ⟨p,1,none⟩=some bv:=h.box.cell 1;obtain⟨a,c,rfl⟩:=Zab h.row;have h1:=h.room;have h2:=h.few;clear h;go_enter Tryz.func244,Tryz.ntmps244;go_wp2;go_quiet (fail);go_wp2;go_ret;exact⟨rfl,below_drewN (Zb _ _) _⟩
theorem Zsh(h:PackAt w B p size bv l)(n:Nat)(hn:l.length+n≤size):
  Calls Zw 199 #[Zs (some ⟨p,0,none⟩),O Z n] w fun e w'=>e=Zu (.bool true)/\Below w.heap.size w w':=by
 have c2:w.cell? ⟨p,2,none⟩=some (.int .u16 0):=h.box.cell 2;have HL:=hid (Zwf h);have HX:=hid h.box;have h2:=h.few;clear h;generalize l.length=k at*;go_enter Tryz.func199,Tryz.ntmps199
 go_wp2_with (first
  |(go_at_call 244;(with_reducible refine HL.out.mono ?_);rintro e w1 ⟨rfl,hb⟩;have HB:=hid hb;have c3:w1.cell? ⟨p,2,none⟩=some (.int .u16 0):=(HX.out.below hb HX.out.lt).cell 2;clear c2 hb))
 go_ret;exact⟨rfl,HB.out⟩
theorem Zsr(v:Nat):(((UInt8.ofNat (v%256)).toNat:Nat):Int)=(v:Int)%256:=by
 have h:(UInt8.ofNat (v%256)).toNat=v%256:=by simp[UInt8.toNat_ofNat']
 rw[h];omega
theorem Zlk(h:PackAt w B p size bv l)(v n:Nat)(hv:v<18446744073709551616)(hn:l.length+n≤size):
  Calls Zw 201 #[Zs (some ⟨p,0,none⟩),.int .u64 v,O Z n] w fun e w'=>e=Zu (.tuple #[])/\PackPost w B p size (l++leN v n) w':=by
 have HR:=hid (Zsh h n hn);have HP:=hid h;have h2:=h.few;have hlo:=h.lo;clear h;go_enter Tryz.func201,Tryz.ntmps201
 go_wp2_with (first
  |(go_at_call 199;(with_reducible refine HR.out.mono ?_);rintro e w1 ⟨rfl,hb0⟩;have HP1:=hid (HP.out.below hb0);have HB1:Hid (Below B w w1):=hb0.mono (Nat.le_of_lt (Nat.lt_of_le_of_lt hlo HP.out.box.lt));have HK1:=hid (Keeps.of hb0);clear hb0))
 go_loopw [1,11] (fun u q wx=>∃k:Nat,k≤n/\q=O Z k/\u=.int .u64 ((v/256^k:Nat):Int)/\(∃bv',PackAt wx B p size bv' (l++leN v k))/\Below B w wx/\Keeps w wx) (fun _ q _=>n-(intOf q).toNat);case atStart=>exact⟨0,by omega,rfl,by simp,⟨bv,by simpa [leN]using HP1.out⟩,HB1.out,HK1.out⟩
 case round=>
  obtain⟨k,hk,rfl,rfl,⟨bv',hp⟩,hb,hkp⟩:=hrel;have HB:=hid hb;have HKP:=hid hkp;clear hkp;by_cases hk2:k<n
  ·have K1:Hid (k+1≤n):=hk2
   have hll:(l++leN v k).length=l.length+k:=by rw[Zo,Zal]
   have HSN:Hid (l++leN v (k+1)=l++leN v k++ [UInt8.ofNat (v/256^k%256)]):=by show _=_;rw[Zty,List.append_assoc]
   have HDV:Hid (v/256^(k+1)=v/256^k/256):=by show _=_;rw[Nat.pow_succ,Nat.div_div_eq_div_mul]
   have hx:v/256^k<18446744073709551616:=Nat.lt_of_le_of_lt (Nat.div_le_self _ _) hv;generalize v/256^k=x at*;have hlen:=hp.room;rw[hll]at hlen;have hrow:=hp.row;rw[hll]at hrow;generalize l++leN v k=L at*;have c1:wr.cell? ⟨p,1,none⟩=some bv':=hp.box.cell 1;have hbox:At (wr.alloc (.cells #[.int .u8 ((x:Int)%256)] 5)) p #[O Z size,bv',.int .u16 0] 248:=hp.box.alloc _;have hne:bv'.ownBlock≠some p:=Za4 hp.row hp.box (by decide);have HPP:=hid hp;have HN1:Hid (∀ad:Addr,some (⟨wr.heap.size,0,none⟩:Addr)=some ad->∀j u,[Value.int .u8 ((x:Int)%256)][j]?=some u->(wr.alloc (.cells #[.int .u8 ((x:Int)%256)] 5)).cell? (ad.add j)=some u):=by
    intro ad had j u hu;obtain rfl:=Option.some.inj had;rw[Addr.add_lit,Nat.zero_add,(At.new wr #[.int .u8 ((x:Int)%256)] 5).cell j];simpa using hu
   have hw:B≤wr.heap.size:=Nat.le_of_lt (Nat.lt_of_le_of_lt hlo hp.box.lt);have HO:=hid (hrow.alloc (.cells #[.int .u8 ((x:Int)%256)] 5));have HBX:=hid hbox;have h64:(x:Int)%18446744073709551616=(x:Int):=by omega
   clear hp hrow hbox hll
   go_wp2_with (first
    |(refine Zar rfl _ _ 36 5 1 1 rfl Zat B bv' (l.length+k) _ rfl HO.out _ 1 1 [.int .u8 ((x:Int)%256)] rfl rfl (HN1.out _ rfl) (by intro u hu;simp at hu;rw[hu];rfl) (by unfold maxLen;omega) (by omega) (by rw[Zaa];omega) (by omega) ?_;intro v' w5 hrow5 hloc hch hkeep;have hb5:=HBX.out.mod hch hne;have d1:w5.cell? ⟨p,1,none⟩=some bv':=hb5.cell 1;have d1f:=hb5.free 1;have HB5:=hid hb5;have HROW:=hid hrow5;have HLOC:=hid hloc;have HCH:=hid hch;obtain⟨xa,xc,rfl⟩:=Zab hrow5;clear hrow5 hloc hch hkeep hb5))
   have hset:Chg (fun q=>q=p) w5 (w5.setCell ⟨p,1,none⟩ (Zt xa (l.length+k+1) xc)):=Zk (S:=fun q=>q=p) (Zl _ _) ⟨p,1,none⟩ (.inl rfl) _;have hbl:Below B w (w5.setCell ⟨p,1,none⟩ (Zt xa (l.length+k+1) xc)):=(Zcb (HB.out.alloc hw _) (by rw[Zaa];omega) HCH.out (fun q hq=>(HO.out.lt q hq).1)).setCell (p:=⟨p,1,none⟩) hlo _;refine⟨⟨k+1,K1.out,by go_num,by rw[HDV.out];go_num,⟨Zt xa (l.length+k+1) xc,?_⟩,hbl,((HKP.out.alloc _).row HO.out HCH.out).set HB5.out 1 _⟩,by simp[intOf];have:=K1.out;omega⟩;have hlk:(l++leN v (k+1)).length=l.length+k+1:=by rw[Zo,Zal];omega
   refine⟨HB5.out.set 1 _,?_,hlo,by rw[hlk];have:=K1.out;omega,HPP.out.few⟩;rw[hlk,HSN.out];have e:ucells (L++ [UInt8.ofNat (x%256)])=ucells L++ [.int .u8 ((x:Int)%256)]:=by
    unfold ucells;rw[List.map_append,List.map_cons,List.map_nil,Zsr]
   rw[e];exact Zad HROW.out hset (fun g hg e=>Za4 HROW.out HB5.out (by decide) (e ▸ hg))
  ·obtain rfl:k=n:=by omega
   have HPP:=hid hp;clear hp;go_wp2;go_end0;exact⟨rfl,⟨bv',HPP.out⟩,HB.out,HKP.out⟩
end Go.Proofs.YtmemlkmnhcealaaGreat
