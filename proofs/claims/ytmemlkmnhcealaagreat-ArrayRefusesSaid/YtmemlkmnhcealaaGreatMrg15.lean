
/- Several texts in one: PlnI, Lay. -/
import Derived.Test.YtmemlkmnhcealaaGreatPlnF
import Derived.Shelf.SlIterI.Nil
import Derived.Shelf.SortM.Plain
import Derived.Shelf.SortM.SortNone
import Derived.Shelf.SlSortCmp.WholeK
import Derived.Ground.GgzProg
import Derived.Ground.SlgmProg
import Derived.Ground.SlsfProg
import Derived.Test.YtmemlkmnhcealaaGreatProg
set_option linter.unusedVariables false
set_option maxRecDepth 100000
set_option maxHeartbeats 2000000
namespace Go.Proofs.YtmemlkmnhcealaaGreat
open Value renaming int→O,slice→Zt
open IntKind renaming i64→Z
open Go.Proofs.Tryz renaming prog→Zw
open Go.RowKit
variable {w:World}
theorem Zd4{B:Nat}{v:Value}{l:List Nat}(h:w.ownsRow B 3 1 v l.length (mcells l)):ISeg w v l:=by
 obtain⟨a,c,rfl⟩:=Zab h;refine⟨a,c,rfl,?_⟩;by_cases hl:l.length=0
 ·exact .inl (List.eq_nil_of_length_eq_zero hl)
 ·obtain⟨g,cap,hv,hB,hg,hc,-⟩:=Zb2 h (by omega)
  simp only [Zn]at hv;obtain⟨rfl,-,rfl⟩:=hv;exact .inr ⟨g,0,rfl,hg,fun j hj=>by rw[Nat.zero_add,hc j hj,Zl9 l j hj]⟩
theorem Seg.full'{a:Option Addr}{n c:Nat}{l:List UInt8}(h:Seg w (Zt a n c) l)(hl:0<l.length):∃b o,a=some ⟨b,o,none⟩/\b<w.heap.size/\∀j (h:j<l.length),w.cell? ⟨b,o+j,none⟩=some (.int .u8 ((l[j].toNat:Nat):Int)):=by
 obtain⟨b,o,c',hv,hb,hx⟩:=Seg.full h hl;simp only [Zn]at hv;obtain⟨rfl,-,rfl⟩:=hv;exact⟨b,o,rfl,hb,hx⟩
theorem Zn2(u v:Value)(l:List UInt8)(w:World)(hl:l.length≤140737488355328)(hu:Seg w u l)(hv:Seg w v l):
  Calls Zw 267 #[u,v] w fun e w'=>e=.returned (.bool true)/\Below w.heap.size w w':=by
 obtain⟨a,c,rfl⟩:=hu.shape;obtain⟨b,d,rfl⟩:=hv.shape;have hne:((l.length:Int) !=(l.length:Int))=false:=by simp
 go_enter Tryz.func267,Tryz.ntmps267;go_wp2_with fail;go_loopw [13] (fun i wr=>∃k:Nat,k≤l.length/\i=O Z k/\Below w.heap.size w wr) (fun i _=>l.length-(intOf i).toNat);case atStart=>exact⟨0,Nat.zero_le _,rfl,Zb _ _⟩
 case round=>
  obtain⟨k,hk,rfl,hbw⟩:=hrel;by_cases hlt:k<l.length
  ·obtain⟨b1,o1,rfl,hb1,h1⟩:=Seg.full' (hu.below hbw) (by omega)
   obtain⟨b2,o2,rfl,hb2,h2⟩:=Seg.full' (hv.below hbw) (by omega);have c1:=h1 k hlt;have c2:=h2 k hlt;have K1:Hid (k+1≤l.length):=hlt;clear h1 h2 hu hv;have hx:(((l[k].toNat:Nat):Int) !=((l[k].toNat:Nat):Int))=false:=by simp
   generalize ((l[k].toNat:Nat):Int)=x at*;go_wp2;go_quiet (fail);go_wp2;exact⟨⟨k+1,K1.out,by go_num,below_drewN hbw _⟩,by simp[intOf];omega⟩
  ·clear hu hv
   obtain rfl:k=l.length:=by omega
   go_wp2;go_ret;exact⟨rfl,hbw⟩
theorem Zpd(u v:Value)(l:List Nat)(w:World)(hl:l.length≤140737488355328)(hu:ISeg w u l)(hv:ISeg w v l):
  Calls Zw 269 #[u,v] w fun e w'=>e=.returned (.bool true)/\Below w.heap.size w w':=by
 obtain⟨a,c,rfl⟩:=hu.shape;obtain⟨b,d,rfl⟩:=hv.shape;have hne:((l.length:Int) !=(l.length:Int))=false:=by simp
 go_enter Tryz.func269,Tryz.ntmps269;go_wp2_with fail;go_loopw [13] (fun i wr=>∃k:Nat,k≤l.length/\i=O Z k/\Below w.heap.size w wr) (fun i _=>l.length-(intOf i).toNat);case atStart=>exact⟨0,Nat.zero_le _,rfl,Zb _ _⟩
 case round=>
  obtain⟨k,hk,rfl,hbw⟩:=hrel;by_cases hlt:k<l.length
  ·obtain⟨b1,o1,rfl,hb1,h1⟩:=ISeg.full (hu.below hbw) (by omega)
   obtain⟨b2,o2,rfl,hb2,h2⟩:=ISeg.full (hv.below hbw) (by omega);have c1:=h1 k hlt;have c2:=h2 k hlt;have K1:Hid (k+1≤l.length):=hlt;clear h1 h2 hu hv;have hx:(((l[k]:Nat):Int) !=((l[k]:Nat):Int))=false:=by simp
   generalize ((l[k]:Nat):Int)=x at*;go_wp2;go_quiet (fail);go_wp2;exact⟨⟨k+1,K1.out,by go_num,below_drewN hbw _⟩,by simp[intOf];omega⟩
  ·clear hu hv
   obtain rfl:k=l.length:=by omega
   go_wp2;go_ret;exact⟨rfl,hbw⟩
theorem Zt5(x y:Int)(u u':Value)(l:List UInt8)(w:World)(hl:l.length≤140737488355328)(hu:Seg w u l)(hv:Seg w u' l):
  Calls Zw 266 #[.agg #[O Z x,O Z y,u],.agg #[O Z x,O Z y,u']] w fun e w'=>e=.returned (.bool true)/\Below w.heap.size w w':=by
 obtain⟨a,c,rfl⟩:=hu.shape;obtain⟨b,d,rfl⟩:=hv.shape;have hb0:Below w.heap.size w ((w.alloc (.cells #[O Z x,O Z y,Zt a l.length c] 167)).alloc (.cells #[O Z x,O Z y,Zt b l.length d] 167)):=((Zb _ _).alloc (Za _) _).alloc (by rw[Zaa];omega) _;have heq:=Lib.hid (Zn2 _ _ l _ hl (hu.below hb0) (hv.below hb0));clear hu hv;go_enter Tryz.func266,Tryz.ntmps266;go_wp2_with (go_at_call 267;(with_reducible refine heq.out.mono ?_);rintro e w1 ⟨rfl,hb1⟩);go_ret;exact⟨rfl,Zac hb0 hb1⟩
theorem Zq1(u v:Value)(ps:List Pat)(w:World)(hu:PSeg w u ps)(hv:PSeg w v ps):
  Calls Zw 268 #[u,v,.func (.func 266) #[] #[]] w fun e w'=>e=.returned (.bool true)/\Below w.heap.size w w':=by
 obtain⟨a,c,rfl⟩:=hu.shape;obtain⟨b,d,rfl⟩:=hv.shape;have hfew:=hu.few;have hdl:Hid (∀p∈ps,p.d.length≤140737488355000):=by obtain⟨_,_,_,_,h,_⟩:=hu;exact h
 have hne:((ps.length:Int) !=(ps.length:Int))=false:=by simp
 go_enter Tryz.func268,Tryz.ntmps268;go_wp2;go_loopw [17] (fun i wr=>∃k:Nat,k≤ps.length/\i=O Z k/\Below w.heap.size w wr) (fun i _=>ps.length-(intOf i).toNat);case atStart=>exact⟨0,Nat.zero_le _,rfl,Zb _ _⟩
 case round=>
  obtain⟨k,hk,rfl,hbw⟩:=hrel;by_cases hlt:k<ps.length
  ·obtain⟨b1,o1,rfl,hb1,h1⟩:=PSeg.full (hu.below hbw) (by omega)
   obtain⟨b2,o2,rfl,hb2,h2⟩:=PSeg.full (hv.below hbw) (by omega);obtain⟨p0,p1,x,p2,hx⟩:PatAt wr b1 (o1+k*3) (ps.getD k pat0):=by rw[Zbx ps k hlt];exact h1 k hlt
   obtain⟨q0,q1,y,q2,hy⟩:PatAt wr b2 (o2+k*3) (ps.getD k pat0):=by rw[Zbx ps k hlt];exact h2 k hlt
   have hdk:(ps.getD k pat0).d.length≤140737488355000:=by rw[Zbx ps k hlt];exact hdl.out _ (Zj hlt)
   obtain⟨xa,xc,rfl⟩:=hx.shape;obtain⟨ya,yc,rfl⟩:=hy.shape;have K1:Hid (k+1≤ps.length):=hlt;have hlk:=Lib.hid (fun (W:World) (hW:Below wr.heap.size wr W)=>Zt5 (ps.getD k pat0).m (ps.getD k pat0).r _ _ (ps.getD k pat0).d W (by omega) (hx.below hW) (hy.below hW));clear h1 h2 hu hv hx hy;generalize (ps.getD k pat0).d.length=dn at*;generalize (ps.getD k pat0).m=pm at*;generalize (ps.getD k pat0).r=pr at*;have hb2:Hid (Below wr.heap.size wr ((wr.alloc (.cells #[O Z pm,O Z pr,Zt xa dn xc] 167)).alloc (.cells #[O Z pm,O Z pr,Zt ya dn yc] 167))):=((Zb _ _).alloc (Za _) _).alloc (by rw[Zaa];omega) _;go_wp2_with (go_at_call 266;(with_reducible refine(hlk.out _ hb2.out).mono ?_);rintro e w1 ⟨rfl,hb1⟩);exact⟨⟨k+1,K1.out,by go_num,Zac hbw (Zac hb2.out hb1)⟩,by simp[intOf];omega⟩
  ·clear hu hv
   obtain rfl:k=ps.length:=by omega
   go_wp2;go_ret;exact⟨rfl,hbw⟩
def planVal(r:Int)(md:Int)(par:Int)(vq vr:Value):Value:=.agg #[O Z r,.int .u8 md,O Z par,vq,vr]
theorem Ztj(r md par:Int)(vq vr vq' vr':Value)(ps:List Pat)(l:List Nat)(w:World)(hl:l.length≤1000000)(h1:PSeg w vq ps)(h2:ISeg w vr l)(h3:PSeg w vq' ps)(h4:ISeg w vr' l):
  Calls Zw 213 #[planVal r md par vq vr,planVal r md par vq' vr'] w fun e w'=>e=.returned (.bool true)/\Below w.heap.size w w':=by
 obtain⟨qa,qc,rfl⟩:=h1.shape;obtain⟨ra,rc,rfl⟩:=h2.shape;obtain⟨qa',qc',rfl⟩:=h3.shape;obtain⟨ra',rc',rfl⟩:=h4.shape;have hpf:=h1.few;have hb0:Below w.heap.size w ((w.alloc (.cells #[O Z r,.int .u8 md,O Z par,Zt qa ps.length qc,Zt ra l.length rc] 217)).alloc (.cells #[O Z r,.int .u8 md,O Z par,Zt qa' ps.length qc',Zt ra' l.length rc'] 217)):=((Zb _ _).alloc (Za _) _).alloc (by rw[Zaa];omega) _;have he:=Lib.hid (Zq1 _ _ ps _ (h1.below hb0) (h3.below hb0));have hi:=Lib.hid (fun (W:World) (hW:Below _ _ W)=>Zpd _ _ l W (by omega) ((h2.below hb0).below hW) ((h4.below hb0).below hW));have hA:At ((w.alloc (.cells #[O Z r,.int .u8 md,O Z par,Zt qa ps.length qc,Zt ra l.length rc] 217)).alloc (.cells #[O Z r,.int .u8 md,O Z par,Zt qa' ps.length qc',Zt ra' l.length rc'] 217)) w.heap.size #[O Z r,.int .u8 md,O Z par,Zt qa ps.length qc,Zt ra l.length rc] 217:=(At.new _ _ _).alloc _;have hB:At ((w.alloc (.cells #[O Z r,.int .u8 md,O Z par,Zt qa ps.length qc,Zt ra l.length rc] 217)).alloc (.cells #[O Z r,.int .u8 md,O Z par,Zt qa' ps.length qc',Zt ra' l.length rc'] 217)) (w.heap.size+1) #[O Z r,.int .u8 md,O Z par,Zt qa' ps.length qc',Zt ra' l.length rc'] 217:=At.new2 _ _ _ _;have HA:=Lib.hid hA;have HB:=Lib.hid hB;clear h1 h2 h3 h4 hA hB;unfold planVal;go_enter Tryz.func213,Tryz.ntmps213
 go_wp2_with (first
  |(go_at_call 268;(with_reducible refine he.out.mono ?_);rintro e w1 ⟨rfl,hb1⟩;have a4:=(HA.out.below hb1 HA.out.lt).cell 4;have b4:=(HB.out.below hb1 HB.out.lt).cell 4)
  |(go_at_call 269;(with_reducible refine(hi.out w1 hb1).mono ?_);rintro e w2 ⟨rfl,hb2⟩))
 go_ret;exact⟨rfl,Zac hb0 (Zac hb1 hb2)⟩
end Go.Proofs.YtmemlkmnhcealaaGreat
namespace Go.Proofs
open Go.Shelf
def Tryz.sortPatch_ren : Go.Shelf.Ren := ⟨fun | 6 => 217 | 15 => 207 | 14 => 270 | 28 => 256 | 29 => 257 | 20 => 285 | 21 => 286 | 22 => 287 | 23 => 288 | 24 => 289 | 25 => 290 | 26 => 291 | 27 => 292 | 46 => 294 | 47 => 279 | 48 => 280 | 49 => 295 | 50 => 296 | 57 => 297 | n => n, fun | 22 => 114 | 24 => 167 | 25 => 293 | 3 => 3 | 39 => 152 | 0 => 0 | 53 => 193 | 55 => 47 | 4 => 4 | 46 => 339 | 45 => 338 | 50 => 327 | 5 => 5 | 9 => 9 | 66 => 367 | 70 => 183 | 76 => 376 | 77 => 377 | n => n, fun | n => n⟩
theorem Tryz.sortPatch : Go.Proofs.SlLaysF0.n6 Tryz.prog Tryz.sortPatch_ren := {
  mixed := by kernel_rfl
  f6 := ⟨Tryz.f217.name, by decide, Tryz.func217.trans (congrArg some (by kernel_rfl))⟩
  f14 := ⟨Tryz.f270.name, by decide, Tryz.func270.trans (congrArg some (by kernel_rfl))⟩
  f15 := Tryz.func207.trans (congrArg some (by kernel_rfl))
  f20 := ⟨Tryz.f285.name, by decide, Tryz.func285.trans (congrArg some (by kernel_rfl))⟩
  f21 := ⟨Tryz.f286.name, by decide, Tryz.func286.trans (congrArg some (by kernel_rfl))⟩
  f22 := ⟨Tryz.f287.name, by decide, Tryz.func287.trans (congrArg some (by kernel_rfl))⟩
  f23 := ⟨Tryz.f288.name, by decide, Tryz.func288.trans (congrArg some (by kernel_rfl))⟩
  f24 := ⟨Tryz.f289.name, by decide, Tryz.func289.trans (congrArg some (by kernel_rfl))⟩
  f25 := ⟨Tryz.f290.name, by decide, Tryz.func290.trans (congrArg some (by kernel_rfl))⟩
  f26 := ⟨Tryz.f291.name, by decide, Tryz.func291.trans (congrArg some (by kernel_rfl))⟩
  f27 := ⟨Tryz.f292.name, by decide, Tryz.func292.trans (congrArg some (by kernel_rfl))⟩
  f28 := Tryz.func256.trans (congrArg some (by kernel_rfl))
  f29 := Tryz.func257.trans (congrArg some (by kernel_rfl))
  f46 := ⟨Tryz.f294.name, by decide, Tryz.func294.trans (congrArg some (by kernel_rfl))⟩
  f47 := Tryz.func279.trans (congrArg some (by kernel_rfl))
  f48 := Tryz.func280.trans (congrArg some (by kernel_rfl))
  f49 := ⟨Tryz.f295.name, by decide, Tryz.func295.trans (congrArg some (by kernel_rfl))⟩
  f50 := ⟨Tryz.f296.name, by decide, Tryz.func296.trans (congrArg some (by kernel_rfl))⟩
  f57 := ⟨Tryz.f297.name, by decide, Tryz.func297.trans (congrArg some (by kernel_rfl))⟩
  t0 := Tryz.underlying0
  a0 := Tryz.isAgg0
  z0 := Tryz.sizeOf0
  v0 := Tryz.zeroValue0
  t3 := Tryz.underlying3
  a3 := Tryz.isAgg3
  z3 := Tryz.sizeOf3
  v3 := Tryz.zeroValue3
  t4 := Tryz.underlying4
  a4 := Tryz.isAgg4
  z4 := Tryz.sizeOf4
  v4 := Tryz.zeroValue4
  t5 := Tryz.underlying5
  a5 := Tryz.isAgg5
  z5 := Tryz.sizeOf5
  v5 := Tryz.zeroValue5
  t9 := Tryz.underlying9
  a9 := Tryz.isAgg9
  z9 := Tryz.sizeOf9
  v9 := Tryz.zeroValue9
  t22 := Tryz.underlying114
  a22 := Tryz.isAgg114
  z22 := Tryz.sizeOf114
  v22 := Tryz.zeroValue114
  t25 := Tryz.underlying293
  a25 := Tryz.isAgg293
  z25 := Tryz.sizeOf293
  v25 := Tryz.zeroValue293
  t39 := Tryz.underlying152
  a39 := Tryz.isAgg152
  z39 := Tryz.sizeOf152
  v39 := Tryz.zeroValue152
  t45 := Tryz.underlying338
  a45 := Tryz.isAgg338
  z45 := Tryz.sizeOf338
  v45 := Tryz.zeroValue338
  t46 := Tryz.underlying339
  a46 := Tryz.isAgg339
  z46 := Tryz.sizeOf339
  v46 := Tryz.zeroValue339
  t50 := Tryz.underlying327
  a50 := Tryz.isAgg327
  z50 := Tryz.sizeOf327
  v50 := Tryz.zeroValue327
  t53 := Tryz.underlying193
  a53 := Tryz.isAgg193
  z53 := Tryz.sizeOf193
  v53 := Tryz.zeroValue193
  t55 := Tryz.underlying47
  a55 := Tryz.isAgg47
  z55 := Tryz.sizeOf47
  v55 := Tryz.zeroValue47
  t66 := Tryz.underlying367
  a66 := Tryz.isAgg367
  z66 := Tryz.sizeOf367
  v66 := Tryz.zeroValue367
  t70 := Tryz.underlying183
  a70 := Tryz.isAgg183
  z70 := Tryz.sizeOf183
  v70 := Tryz.zeroValue183
  t76 := Tryz.underlying376
  a76 := Tryz.isAgg376
  z76 := Tryz.sizeOf376
  v76 := Tryz.zeroValue376
  t77 := Tryz.underlying377
  a77 := Tryz.isAgg377
  z77 := Tryz.sizeOf377
  v77 := Tryz.zeroValue377 }
def Tryz.keysA_ren : Go.Shelf.Ren := ⟨fun | 7 => 100 | 10 => 141 | n => n, fun | 23 => 163 | 26 => 3 | 3 => 164 | 28 => 170 | 0 => 0 | 27 => 169 | 33 => 96 | 4 => 4 | n => n, fun | n => n⟩
theorem Tryz.keysA : Go.Proofs.SlLaysZI.n7 Tryz.prog Tryz.keysA_ren := {
  mixed := by kernel_rfl
  f7 := ⟨Tryz.f100.name, by decide, Tryz.func100.trans (congrArg some (by kernel_rfl))⟩
  f10 := ⟨Tryz.f141.name, by decide, Tryz.func141.trans (congrArg some (by kernel_rfl))⟩
  t0 := Tryz.underlying0
  a0 := Tryz.isAgg0
  z0 := Tryz.sizeOf0
  v0 := Tryz.zeroValue0
  t4 := Tryz.underlying4
  a4 := Tryz.isAgg4
  z4 := Tryz.sizeOf4
  v4 := Tryz.zeroValue4
  t23 := Tryz.underlying163
  a23 := Tryz.isAgg163
  z23 := Tryz.sizeOf163
  v23 := Tryz.zeroValue163
  t26 := Tryz.underlying3
  a26 := Tryz.isAgg3
  z26 := Tryz.sizeOf3
  v26 := Tryz.zeroValue3
  t27 := Tryz.underlying169
  a27 := Tryz.isAgg169
  z27 := Tryz.sizeOf169
  v27 := Tryz.zeroValue169
  t28 := Tryz.underlying170
  a28 := Tryz.isAgg170
  z28 := Tryz.sizeOf170
  v28 := Tryz.zeroValue170
  t33 := Tryz.underlying96
  a33 := Tryz.isAgg96
  z33 := Tryz.sizeOf96
  v33 := Tryz.zeroValue96 }
def Tryz.keysB_ren : Go.Shelf.Ren := ⟨fun | 7 => 101 | 10 => 142 | n => n, fun | 23 => 164 | 26 => 3 | 3 => 167 | 28 => 170 | 0 => 0 | 27 => 169 | 33 => 96 | 4 => 4 | n => n, fun | n => n⟩
theorem Tryz.keysB : Go.Proofs.SlLaysZI.n7 Tryz.prog Tryz.keysB_ren := {
  mixed := by kernel_rfl
  f7 := ⟨Tryz.f101.name, by decide, Tryz.func101.trans (congrArg some (by kernel_rfl))⟩
  f10 := ⟨Tryz.f142.name, by decide, Tryz.func142.trans (congrArg some (by kernel_rfl))⟩
  t0 := Tryz.underlying0
  a0 := Tryz.isAgg0
  z0 := Tryz.sizeOf0
  v0 := Tryz.zeroValue0
  t4 := Tryz.underlying4
  a4 := Tryz.isAgg4
  z4 := Tryz.sizeOf4
  v4 := Tryz.zeroValue4
  t23 := Tryz.underlying164
  a23 := Tryz.isAgg164
  z23 := Tryz.sizeOf164
  v23 := Tryz.zeroValue164
  t26 := Tryz.underlying3
  a26 := Tryz.isAgg3
  z26 := Tryz.sizeOf3
  v26 := Tryz.zeroValue3
  t27 := Tryz.underlying169
  a27 := Tryz.isAgg169
  z27 := Tryz.sizeOf169
  v27 := Tryz.zeroValue169
  t28 := Tryz.underlying170
  a28 := Tryz.isAgg170
  z28 := Tryz.sizeOf170
  v28 := Tryz.zeroValue170
  t33 := Tryz.underlying96
  a33 := Tryz.isAgg96
  z33 := Tryz.sizeOf96
  v33 := Tryz.zeroValue96 }
def Tryz.sortedA_ren : Go.Shelf.Ren := ⟨fun | 6 => 99 | 8 => 139 | 9 => 140 | 11 => 205 | 13 => 207 | 12 => 206 | 23 => 256 | 24 => 257 | 14 => 247 | 15 => 248 | 16 => 249 | 17 => 250 | 18 => 251 | 19 => 252 | 20 => 253 | 21 => 254 | 22 => 255 | 25 => 278 | 26 => 279 | 27 => 280 | 28 => 281 | 29 => 282 | 30 => 283 | 31 => 293 | n => n, fun | 26 => 3 | 28 => 170 | 24 => 41 | 0 => 0 | 3 => 3 | 37 => 152 | 48 => 193 | 50 => 47 | 4 => 4 | 40 => 339 | 39 => 338 | 45 => 327 | 5 => 5 | 9 => 9 | 51 => 367 | 55 => 183 | 57 => 376 | 58 => 377 | 33 => 96 | n => n, fun | n => n⟩
theorem Tryz.sortedA : Go.Proofs.SlLaysZI.n6 Tryz.prog Tryz.sortedA_ren := {
  mixed := by kernel_rfl
  f6 := ⟨Tryz.f99.name, by decide, Tryz.func99.trans (congrArg some (by kernel_rfl))⟩
  f8 := ⟨Tryz.f139.name, by decide, Tryz.func139.trans (congrArg some (by kernel_rfl))⟩
  f11 := ⟨Tryz.f205.name, by decide, Tryz.func205.trans (congrArg some (by kernel_rfl))⟩
  t0 := Tryz.underlying0
  a0 := Tryz.isAgg0
  z0 := Tryz.sizeOf0
  v0 := Tryz.zeroValue0
  t24 := Tryz.underlying41
  a24 := Tryz.isAgg41
  z24 := Tryz.sizeOf41
  v24 := Tryz.zeroValue41
  t26 := Tryz.underlying3
  a26 := Tryz.isAgg3
  z26 := Tryz.sizeOf3
  v26 := Tryz.zeroValue3
  t28 := Tryz.underlying170
  a28 := Tryz.isAgg170
  z28 := Tryz.sizeOf170
  v28 := Tryz.zeroValue170
  i26 := by kernel_rfl }
def Tryz.sortInt_ren : Go.Shelf.Ren := ⟨fun | 5 => 140 | 8 => 207 | 7 => 206 | 19 => 256 | 20 => 257 | 10 => 247 | 11 => 248 | 12 => 249 | 13 => 250 | 14 => 251 | 15 => 252 | 16 => 253 | 17 => 254 | 18 => 255 | 30 => 278 | 31 => 279 | 32 => 280 | 33 => 281 | 34 => 282 | 35 => 283 | 40 => 293 | n => n, fun | 23 => 41 | 25 => 3 | 3 => 3 | 32 => 152 | 22 => 41 | 0 => 0 | 44 => 193 | 46 => 47 | 4 => 4 | 36 => 339 | 35 => 338 | 41 => 327 | 5 => 5 | 9 => 9 | 53 => 367 | 57 => 183 | 63 => 376 | 64 => 377 | n => n, fun | n => n⟩
theorem Tryz.sortInt : Go.Proofs.SlLaysM.n5 Tryz.prog Tryz.sortInt_ren := {
  mixed := by kernel_rfl
  f5 := ⟨Tryz.f140.name, by decide, Tryz.func140.trans (congrArg some (by kernel_rfl))⟩
  f7 := ⟨Tryz.f206.name, by decide, Tryz.func206.trans (congrArg some (by kernel_rfl))⟩
  f8 := Tryz.func207.trans (congrArg some (by kernel_rfl))
  f10 := ⟨Tryz.f247.name, by decide, Tryz.func247.trans (congrArg some (by kernel_rfl))⟩
  f11 := ⟨Tryz.f248.name, by decide, Tryz.func248.trans (congrArg some (by kernel_rfl))⟩
  f12 := ⟨Tryz.f249.name, by decide, Tryz.func249.trans (congrArg some (by kernel_rfl))⟩
  f13 := ⟨Tryz.f250.name, by decide, Tryz.func250.trans (congrArg some (by kernel_rfl))⟩
  f14 := ⟨Tryz.f251.name, by decide, Tryz.func251.trans (congrArg some (by kernel_rfl))⟩
  f15 := ⟨Tryz.f252.name, by decide, Tryz.func252.trans (congrArg some (by kernel_rfl))⟩
  f16 := ⟨Tryz.f253.name, by decide, Tryz.func253.trans (congrArg some (by kernel_rfl))⟩
  f17 := ⟨Tryz.f254.name, by decide, Tryz.func254.trans (congrArg some (by kernel_rfl))⟩
  f18 := ⟨Tryz.f255.name, by decide, Tryz.func255.trans (congrArg some (by kernel_rfl))⟩
  f19 := Tryz.func256.trans (congrArg some (by kernel_rfl))
  f20 := Tryz.func257.trans (congrArg some (by kernel_rfl))
  f30 := ⟨Tryz.f278.name, by decide, Tryz.func278.trans (congrArg some (by kernel_rfl))⟩
  f31 := Tryz.func279.trans (congrArg some (by kernel_rfl))
  f32 := Tryz.func280.trans (congrArg some (by kernel_rfl))
  f33 := ⟨Tryz.f281.name, by decide, Tryz.func281.trans (congrArg some (by kernel_rfl))⟩
  f34 := ⟨Tryz.f282.name, by decide, Tryz.func282.trans (congrArg some (by kernel_rfl))⟩
  f35 := ⟨Tryz.f283.name, by decide, Tryz.func283.trans (congrArg some (by kernel_rfl))⟩
  f40 := ⟨Tryz.f293.name, by decide, Tryz.func293.trans (congrArg some (by kernel_rfl))⟩
  t0 := Tryz.underlying0
  a0 := Tryz.isAgg0
  z0 := Tryz.sizeOf0
  v0 := Tryz.zeroValue0
  t3 := Tryz.underlying3
  a3 := Tryz.isAgg3
  z3 := Tryz.sizeOf3
  v3 := Tryz.zeroValue3
  t4 := Tryz.underlying4
  a4 := Tryz.isAgg4
  z4 := Tryz.sizeOf4
  v4 := Tryz.zeroValue4
  t5 := Tryz.underlying5
  a5 := Tryz.isAgg5
  z5 := Tryz.sizeOf5
  v5 := Tryz.zeroValue5
  t9 := Tryz.underlying9
  a9 := Tryz.isAgg9
  z9 := Tryz.sizeOf9
  v9 := Tryz.zeroValue9
  t22 := Tryz.underlying41
  a22 := Tryz.isAgg41
  z22 := Tryz.sizeOf41
  v22 := Tryz.zeroValue41
  t23 := Tryz.underlying41
  a23 := Tryz.isAgg41
  z23 := Tryz.sizeOf41
  v23 := Tryz.zeroValue41
  t25 := Tryz.underlying3
  a25 := Tryz.isAgg3
  z25 := Tryz.sizeOf3
  v25 := Tryz.zeroValue3
  t32 := Tryz.underlying152
  a32 := Tryz.isAgg152
  z32 := Tryz.sizeOf152
  v32 := Tryz.zeroValue152
  t35 := Tryz.underlying338
  a35 := Tryz.isAgg338
  z35 := Tryz.sizeOf338
  v35 := Tryz.zeroValue338
  t36 := Tryz.underlying339
  a36 := Tryz.isAgg339
  z36 := Tryz.sizeOf339
  v36 := Tryz.zeroValue339
  t41 := Tryz.underlying327
  a41 := Tryz.isAgg327
  z41 := Tryz.sizeOf327
  v41 := Tryz.zeroValue327
  t44 := Tryz.underlying193
  a44 := Tryz.isAgg193
  z44 := Tryz.sizeOf193
  v44 := Tryz.zeroValue193
  t46 := Tryz.underlying47
  a46 := Tryz.isAgg47
  z46 := Tryz.sizeOf47
  v46 := Tryz.zeroValue47
  t53 := Tryz.underlying367
  a53 := Tryz.isAgg367
  z53 := Tryz.sizeOf367
  v53 := Tryz.zeroValue367
  t57 := Tryz.underlying183
  a57 := Tryz.isAgg183
  z57 := Tryz.sizeOf183
  v57 := Tryz.zeroValue183
  t63 := Tryz.underlying376
  a63 := Tryz.isAgg376
  z63 := Tryz.sizeOf376
  v63 := Tryz.zeroValue376
  t64 := Tryz.underlying377
  a64 := Tryz.isAgg377
  z64 := Tryz.sizeOf377
  v64 := Tryz.zeroValue377 }
end Go.Proofs
