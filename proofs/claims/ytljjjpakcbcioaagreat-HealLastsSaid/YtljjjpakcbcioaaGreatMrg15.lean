/- Several texts in one: PlnI, Lay. -/
import Derived.Test.YtljjjpakcbcioaaGreatPlnF
import Derived.Shelf.SlIterI.Nil
import Derived.Shelf.SortM.Plain
import Derived.Shelf.SortM.SortNone
import Derived.Shelf.SlSortCmp.WholeK
import Derived.Ground.GgzProg
import Derived.Ground.SlgmProg
import Derived.Ground.SlsfProg
import Derived.Test.YtljjjpakcbcioaaGreatProg
set_option linter.unusedVariables false
set_option maxRecDepth 100000
set_option maxHeartbeats 2000000
namespace Go.Proofs.YtljjjpakcbcioaaGreat
open Value renaming int→O,slice→Zt
open IntKind renaming i64→Z
open Go.Proofs.Tryz renaming prog→Zw
open Go.RowKit
variable {w:World}
theorem Zd4{B:Nat}{v:Value}{l:List Nat}(h:w.ownsRow B 3 1 v l.length (mcells l)):ISeg w v l:=by
 obtain⟨a,c,rfl⟩:=Zab h;refine⟨a,c,rfl,?_⟩;by_cases hl:l.length=0
 ·exact .inl (List.eq_nil_of_length_eq_zero hl)
 ·obtain⟨g,cap,hv,hB,hg,hc,-⟩:=Zb2 h (by omega)
  simp only [Zn]at hv;obtain⟨rfl,-,rfl⟩:=hv;exact .inr ⟨g,0,rfl,hg,fun j hj=>by rw[Nat.zero_add,hc j hj,Zl9 l j hj]⟩
theorem Seg.full'{a:Option Addr}{n c:Nat}{l:List UInt8}(h:Seg w (Zt a n c) l)(hl:0<l.length):∃b o,a=some ⟨b,o,none⟩/\b<w.heap.size/\∀j (h:j<l.length),w.cell? ⟨b,o+j,none⟩=some (.int .u8 ((l[j].toNat:Nat):Int)):=by
 obtain⟨b,o,c',hv,hb,hx⟩:=Seg.full h hl;simp only [Zn]at hv;obtain⟨rfl,-,rfl⟩:=hv;exact⟨b,o,rfl,hb,hx⟩
theorem Zn2(u v:Value)(l:List UInt8)(w:World)(hl:l.length≤140737488355328)(hu:Seg w u l)(hv:Seg w v l):
  Calls Zw 233 #[u,v] w fun e w'=>e=.returned (.bool true)/\Below w.heap.size w w':=by
 obtain⟨a,c,rfl⟩:=hu.shape;obtain⟨b,d,rfl⟩:=hv.shape;have hne:((l.length:Int) !=(l.length:Int))=false:=by simp
 go_enter Tryz.func233,Tryz.ntmps233;go_wp2_with fail;go_loopw [13] (fun i wr=>∃k:Nat,k≤l.length/\i=O Z k/\Below w.heap.size w wr) (fun i _=>l.length-(intOf i).toNat);case atStart=>exact⟨0,Nat.zero_le _,rfl,Zb _ _⟩
 case round=>
  obtain⟨k,hk,rfl,hbw⟩:=hrel;by_cases hlt:k<l.length
  ·obtain⟨b1,o1,rfl,hb1,h1⟩:=Seg.full' (hu.below hbw) (by omega)
   obtain⟨b2,o2,rfl,hb2,h2⟩:=Seg.full' (hv.below hbw) (by omega);have c1:=h1 k hlt;have c2:=h2 k hlt;have K1:Hid (k+1≤l.length):=hlt;clear h1 h2 hu hv;have hx:(((l[k].toNat:Nat):Int) !=((l[k].toNat:Nat):Int))=false:=by simp
   generalize ((l[k].toNat:Nat):Int)=x at*;go_wp2;go_quiet (fail);go_wp2;exact⟨⟨k+1,K1.out,by go_num,below_drewN hbw _⟩,by simp[intOf];omega⟩
  ·clear hu hv
   obtain rfl:k=l.length:=by omega
   go_wp2;go_ret;exact⟨rfl,hbw⟩
theorem Zpd(u v:Value)(l:List Nat)(w:World)(hl:l.length≤140737488355328)(hu:ISeg w u l)(hv:ISeg w v l):
  Calls Zw 235 #[u,v] w fun e w'=>e=.returned (.bool true)/\Below w.heap.size w w':=by
 obtain⟨a,c,rfl⟩:=hu.shape;obtain⟨b,d,rfl⟩:=hv.shape;have hne:((l.length:Int) !=(l.length:Int))=false:=by simp
 go_enter Tryz.func235,Tryz.ntmps235;go_wp2_with fail;go_loopw [13] (fun i wr=>∃k:Nat,k≤l.length/\i=O Z k/\Below w.heap.size w wr) (fun i _=>l.length-(intOf i).toNat);case atStart=>exact⟨0,Nat.zero_le _,rfl,Zb _ _⟩
 case round=>
  obtain⟨k,hk,rfl,hbw⟩:=hrel;by_cases hlt:k<l.length
  ·obtain⟨b1,o1,rfl,hb1,h1⟩:=ISeg.full (hu.below hbw) (by omega)
   obtain⟨b2,o2,rfl,hb2,h2⟩:=ISeg.full (hv.below hbw) (by omega);have c1:=h1 k hlt;have c2:=h2 k hlt;have K1:Hid (k+1≤l.length):=hlt;clear h1 h2 hu hv;have hx:(((l[k]:Nat):Int) !=((l[k]:Nat):Int))=false:=by simp
   generalize ((l[k]:Nat):Int)=x at*;go_wp2;go_quiet (fail);go_wp2;exact⟨⟨k+1,K1.out,by go_num,below_drewN hbw _⟩,by simp[intOf];omega⟩
  ·clear hu hv
   obtain rfl:k=l.length:=by omega
   go_wp2;go_ret;exact⟨rfl,hbw⟩
theorem Zt5(x y:Int)(u u':Value)(l:List UInt8)(w:World)(hl:l.length≤140737488355328)(hu:Seg w u l)(hv:Seg w u' l):
  Calls Zw 232 #[.agg #[O Z x,O Z y,u],.agg #[O Z x,O Z y,u']] w fun e w'=>e=.returned (.bool true)/\Below w.heap.size w w':=by
 obtain⟨a,c,rfl⟩:=hu.shape;obtain⟨b,d,rfl⟩:=hv.shape;have hb0:Below w.heap.size w ((w.alloc (.cells #[O Z x,O Z y,Zt a l.length c] 184)).alloc (.cells #[O Z x,O Z y,Zt b l.length d] 184)):=((Zb _ _).alloc (Za _) _).alloc (by rw[Zaa];omega) _;have heq:=Lib.hid (Zn2 _ _ l _ hl (hu.below hb0) (hv.below hb0));clear hu hv;go_enter Tryz.func232,Tryz.ntmps232;go_wp2_with (go_at_call 233;(with_reducible refine heq.out.mono ?_);rintro e w1 ⟨rfl,hb1⟩);go_ret;exact⟨rfl,Zac hb0 hb1⟩
theorem Zq1(u v:Value)(ps:List Pat)(w:World)(hu:PSeg w u ps)(hv:PSeg w v ps):
  Calls Zw 234 #[u,v,.func (.func 232) #[] #[]] w fun e w'=>e=.returned (.bool true)/\Below w.heap.size w w':=by
 obtain⟨a,c,rfl⟩:=hu.shape;obtain⟨b,d,rfl⟩:=hv.shape;have hfew:=hu.few;have hdl:Hid (∀p∈ps,p.d.length≤140737488355000):=by obtain⟨_,_,_,_,h,_⟩:=hu;exact h
 have hne:((ps.length:Int) !=(ps.length:Int))=false:=by simp
 go_enter Tryz.func234,Tryz.ntmps234;go_wp2;go_loopw [17] (fun i wr=>∃k:Nat,k≤ps.length/\i=O Z k/\Below w.heap.size w wr) (fun i _=>ps.length-(intOf i).toNat);case atStart=>exact⟨0,Nat.zero_le _,rfl,Zb _ _⟩
 case round=>
  obtain⟨k,hk,rfl,hbw⟩:=hrel;by_cases hlt:k<ps.length
  ·obtain⟨b1,o1,rfl,hb1,h1⟩:=PSeg.full (hu.below hbw) (by omega)
   obtain⟨b2,o2,rfl,hb2,h2⟩:=PSeg.full (hv.below hbw) (by omega);obtain⟨p0,p1,x,p2,hx⟩:PatAt wr b1 (o1+k*3) (ps.getD k pat0):=by rw[Zbx ps k hlt];exact h1 k hlt
   obtain⟨q0,q1,y,q2,hy⟩:PatAt wr b2 (o2+k*3) (ps.getD k pat0):=by rw[Zbx ps k hlt];exact h2 k hlt
   have hdk:(ps.getD k pat0).d.length≤140737488355000:=by rw[Zbx ps k hlt];exact hdl.out _ (Zj hlt)
   obtain⟨xa,xc,rfl⟩:=hx.shape;obtain⟨ya,yc,rfl⟩:=hy.shape;have K1:Hid (k+1≤ps.length):=hlt;have hlk:=Lib.hid (fun (W:World) (hW:Below wr.heap.size wr W)=>Zt5 (ps.getD k pat0).m (ps.getD k pat0).r _ _ (ps.getD k pat0).d W (by omega) (hx.below hW) (hy.below hW));clear h1 h2 hu hv hx hy;generalize (ps.getD k pat0).d.length=dn at*;generalize (ps.getD k pat0).m=pm at*;generalize (ps.getD k pat0).r=pr at*;have hb2:Hid (Below wr.heap.size wr ((wr.alloc (.cells #[O Z pm,O Z pr,Zt xa dn xc] 184)).alloc (.cells #[O Z pm,O Z pr,Zt ya dn yc] 184))):=((Zb _ _).alloc (Za _) _).alloc (by rw[Zaa];omega) _;go_wp2_with (go_at_call 232;(with_reducible refine(hlk.out _ hb2.out).mono ?_);rintro e w1 ⟨rfl,hb1⟩);exact⟨⟨k+1,K1.out,by go_num,Zac hbw (Zac hb2.out hb1)⟩,by simp[intOf];omega⟩
  ·clear hu hv
   obtain rfl:k=ps.length:=by omega
   go_wp2;go_ret;exact⟨rfl,hbw⟩
def planVal(r:Int)(md:Int)(par:Int)(vq vr:Value):Value:=.agg #[O Z r,.int .u8 md,O Z par,vq,vr]
theorem Ztj(r md par:Int)(vq vr vq' vr':Value)(ps:List Pat)(l:List Nat)(w:World)(hl:l.length≤1000000)(h1:PSeg w vq ps)(h2:ISeg w vr l)(h3:PSeg w vq' ps)(h4:ISeg w vr' l):
  Calls Zw 187 #[planVal r md par vq vr,planVal r md par vq' vr'] w fun e w'=>e=.returned (.bool true)/\Below w.heap.size w w':=by
 obtain⟨qa,qc,rfl⟩:=h1.shape;obtain⟨ra,rc,rfl⟩:=h2.shape;obtain⟨qa',qc',rfl⟩:=h3.shape;obtain⟨ra',rc',rfl⟩:=h4.shape;have hpf:=h1.few;have hb0:Below w.heap.size w ((w.alloc (.cells #[O Z r,.int .u8 md,O Z par,Zt qa ps.length qc,Zt ra l.length rc] 246)).alloc (.cells #[O Z r,.int .u8 md,O Z par,Zt qa' ps.length qc',Zt ra' l.length rc'] 246)):=((Zb _ _).alloc (Za _) _).alloc (by rw[Zaa];omega) _;have he:=Lib.hid (Zq1 _ _ ps _ (h1.below hb0) (h3.below hb0));have hi:=Lib.hid (fun (W:World) (hW:Below _ _ W)=>Zpd _ _ l W (by omega) ((h2.below hb0).below hW) ((h4.below hb0).below hW));have hA:At ((w.alloc (.cells #[O Z r,.int .u8 md,O Z par,Zt qa ps.length qc,Zt ra l.length rc] 246)).alloc (.cells #[O Z r,.int .u8 md,O Z par,Zt qa' ps.length qc',Zt ra' l.length rc'] 246)) w.heap.size #[O Z r,.int .u8 md,O Z par,Zt qa ps.length qc,Zt ra l.length rc] 246:=(At.new _ _ _).alloc _;have hB:At ((w.alloc (.cells #[O Z r,.int .u8 md,O Z par,Zt qa ps.length qc,Zt ra l.length rc] 246)).alloc (.cells #[O Z r,.int .u8 md,O Z par,Zt qa' ps.length qc',Zt ra' l.length rc'] 246)) (w.heap.size+1) #[O Z r,.int .u8 md,O Z par,Zt qa' ps.length qc',Zt ra' l.length rc'] 246:=At.new2 _ _ _ _;have HA:=Lib.hid hA;have HB:=Lib.hid hB;clear h1 h2 h3 h4 hA hB;unfold planVal;go_enter Tryz.func187,Tryz.ntmps187
 go_wp2_with (first
  |(go_at_call 234;(with_reducible refine he.out.mono ?_);rintro e w1 ⟨rfl,hb1⟩;have a4:=(HA.out.below hb1 HA.out.lt).cell 4;have b4:=(HB.out.below hb1 HB.out.lt).cell 4)
  |(go_at_call 235;(with_reducible refine(hi.out w1 hb1).mono ?_);rintro e w2 ⟨rfl,hb2⟩))
 go_ret;exact⟨rfl,Zac hb0 (Zac hb1 hb2)⟩
end Go.Proofs.YtljjjpakcbcioaaGreat
namespace Go.Proofs
open Go.Shelf
def Tryz.sortPatch_ren:Go.Shelf.Ren:=⟨fun|6=>188|15=>181|14=>236|28=>222|29=>223|20=>255|21=>256|22=>257|23=>258|24=>259|25=>260|26=>261|27=>262|46=>269|47=>249|48=>250|49=>270|50=>271|57=>272|n=>n,fun|22=>99|24=>184|25=>289|3=>3|39=>207|0=>0|53=>265|55=>64|4=>4|46=>327|45=>326|50=>230|5=>5|9=>9|66=>362|70=>226|76=>382|77=>383|n=>n,fun|n=>n⟩
theorem Tryz.sortPatch:Go.Proofs.SlLaysF0.n6 Tryz.prog Tryz.sortPatch_ren:={
 mixed:=by kernel_rfl
 f6:=⟨Tryz.f188.name,by decide,Tryz.func188.trans (congrArg some (by kernel_rfl))⟩
 f14:=⟨Tryz.f236.name,by decide,Tryz.func236.trans (congrArg some (by kernel_rfl))⟩
 f15:=Tryz.func181.trans (congrArg some (by kernel_rfl))
 f20:=⟨Tryz.f255.name,by decide,Tryz.func255.trans (congrArg some (by kernel_rfl))⟩
 f21:=⟨Tryz.f256.name,by decide,Tryz.func256.trans (congrArg some (by kernel_rfl))⟩
 f22:=⟨Tryz.f257.name,by decide,Tryz.func257.trans (congrArg some (by kernel_rfl))⟩
 f23:=⟨Tryz.f258.name,by decide,Tryz.func258.trans (congrArg some (by kernel_rfl))⟩
 f24:=⟨Tryz.f259.name,by decide,Tryz.func259.trans (congrArg some (by kernel_rfl))⟩
 f25:=⟨Tryz.f260.name,by decide,Tryz.func260.trans (congrArg some (by kernel_rfl))⟩
 f26:=⟨Tryz.f261.name,by decide,Tryz.func261.trans (congrArg some (by kernel_rfl))⟩
 f27:=⟨Tryz.f262.name,by decide,Tryz.func262.trans (congrArg some (by kernel_rfl))⟩
 f28:=Tryz.func222.trans (congrArg some (by kernel_rfl))
 f29:=Tryz.func223.trans (congrArg some (by kernel_rfl))
 f46:=⟨Tryz.f269.name,by decide,Tryz.func269.trans (congrArg some (by kernel_rfl))⟩
 f47:=Tryz.func249.trans (congrArg some (by kernel_rfl))
 f48:=Tryz.func250.trans (congrArg some (by kernel_rfl))
 f49:=⟨Tryz.f270.name,by decide,Tryz.func270.trans (congrArg some (by kernel_rfl))⟩
 f50:=⟨Tryz.f271.name,by decide,Tryz.func271.trans (congrArg some (by kernel_rfl))⟩
 f57:=⟨Tryz.f272.name,by decide,Tryz.func272.trans (congrArg some (by kernel_rfl))⟩
 t0:=Tryz.underlying0
 a0:=Tryz.isAgg0
 z0:=Tryz.sizeOf0
 v0:=Tryz.zeroValue0
 t3:=Tryz.underlying3
 a3:=Tryz.isAgg3
 z3:=Tryz.sizeOf3
 v3:=Tryz.zeroValue3
 t4:=Tryz.underlying4
 a4:=Tryz.isAgg4
 z4:=Tryz.sizeOf4
 v4:=Tryz.zeroValue4
 t5:=Tryz.underlying5
 a5:=Tryz.isAgg5
 z5:=Tryz.sizeOf5
 v5:=Tryz.zeroValue5
 t9:=Tryz.underlying9
 a9:=Tryz.isAgg9
 z9:=Tryz.sizeOf9
 v9:=Tryz.zeroValue9
 t22:=Tryz.underlying99
 a22:=Tryz.isAgg99
 z22:=Tryz.sizeOf99
 v22:=Tryz.zeroValue99
 t25:=Tryz.underlying289
 a25:=Tryz.isAgg289
 z25:=Tryz.sizeOf289
 v25:=Tryz.zeroValue289
 t39:=Tryz.underlying207
 a39:=Tryz.isAgg207
 z39:=Tryz.sizeOf207
 v39:=Tryz.zeroValue207
 t45:=Tryz.underlying326
 a45:=Tryz.isAgg326
 z45:=Tryz.sizeOf326
 v45:=Tryz.zeroValue326
 t46:=Tryz.underlying327
 a46:=Tryz.isAgg327
 z46:=Tryz.sizeOf327
 v46:=Tryz.zeroValue327
 t50:=Tryz.underlying230
 a50:=Tryz.isAgg230
 z50:=Tryz.sizeOf230
 v50:=Tryz.zeroValue230
 t53:=Tryz.underlying265
 a53:=Tryz.isAgg265
 z53:=Tryz.sizeOf265
 v53:=Tryz.zeroValue265
 t55:=Tryz.underlying64
 a55:=Tryz.isAgg64
 z55:=Tryz.sizeOf64
 v55:=Tryz.zeroValue64
 t66:=Tryz.underlying362
 a66:=Tryz.isAgg362
 z66:=Tryz.sizeOf362
 v66:=Tryz.zeroValue362
 t70:=Tryz.underlying226
 a70:=Tryz.isAgg226
 z70:=Tryz.sizeOf226
 v70:=Tryz.zeroValue226
 t76:=Tryz.underlying382
 a76:=Tryz.isAgg382
 z76:=Tryz.sizeOf382
 v76:=Tryz.zeroValue382
 t77:=Tryz.underlying383
 a77:=Tryz.isAgg383
 z77:=Tryz.sizeOf383
 v77:=Tryz.zeroValue383}
def Tryz.keysA_ren:Go.Shelf.Ren:=⟨fun|7=>97|10=>146|n=>n,fun|23=>176|26=>3|3=>181|28=>187|0=>0|27=>186|33=>110|4=>4|n=>n,fun|n=>n⟩
theorem Tryz.keysA:Go.Proofs.SlLaysZI.n7 Tryz.prog Tryz.keysA_ren:={
 mixed:=by kernel_rfl
 f7:=⟨Tryz.f97.name,by decide,Tryz.func97.trans (congrArg some (by kernel_rfl))⟩
 f10:=⟨Tryz.f146.name,by decide,Tryz.func146.trans (congrArg some (by kernel_rfl))⟩
 t0:=Tryz.underlying0
 a0:=Tryz.isAgg0
 z0:=Tryz.sizeOf0
 v0:=Tryz.zeroValue0
 t4:=Tryz.underlying4
 a4:=Tryz.isAgg4
 z4:=Tryz.sizeOf4
 v4:=Tryz.zeroValue4
 t23:=Tryz.underlying176
 a23:=Tryz.isAgg176
 z23:=Tryz.sizeOf176
 v23:=Tryz.zeroValue176
 t26:=Tryz.underlying3
 a26:=Tryz.isAgg3
 z26:=Tryz.sizeOf3
 v26:=Tryz.zeroValue3
 t27:=Tryz.underlying186
 a27:=Tryz.isAgg186
 z27:=Tryz.sizeOf186
 v27:=Tryz.zeroValue186
 t28:=Tryz.underlying187
 a28:=Tryz.isAgg187
 z28:=Tryz.sizeOf187
 v28:=Tryz.zeroValue187
 t33:=Tryz.underlying110
 a33:=Tryz.isAgg110
 z33:=Tryz.sizeOf110
 v33:=Tryz.zeroValue110}
def Tryz.keysB_ren:Go.Shelf.Ren:=⟨fun|7=>98|10=>147|n=>n,fun|23=>181|26=>3|3=>184|28=>187|0=>0|27=>186|33=>110|4=>4|n=>n,fun|n=>n⟩
theorem Tryz.keysB:Go.Proofs.SlLaysZI.n7 Tryz.prog Tryz.keysB_ren:={
 mixed:=by kernel_rfl
 f7:=⟨Tryz.f98.name,by decide,Tryz.func98.trans (congrArg some (by kernel_rfl))⟩
 f10:=⟨Tryz.f147.name,by decide,Tryz.func147.trans (congrArg some (by kernel_rfl))⟩
 t0:=Tryz.underlying0
 a0:=Tryz.isAgg0
 z0:=Tryz.sizeOf0
 v0:=Tryz.zeroValue0
 t4:=Tryz.underlying4
 a4:=Tryz.isAgg4
 z4:=Tryz.sizeOf4
 v4:=Tryz.zeroValue4
 t23:=Tryz.underlying181
 a23:=Tryz.isAgg181
 z23:=Tryz.sizeOf181
 v23:=Tryz.zeroValue181
 t26:=Tryz.underlying3
 a26:=Tryz.isAgg3
 z26:=Tryz.sizeOf3
 v26:=Tryz.zeroValue3
 t27:=Tryz.underlying186
 a27:=Tryz.isAgg186
 z27:=Tryz.sizeOf186
 v27:=Tryz.zeroValue186
 t28:=Tryz.underlying187
 a28:=Tryz.isAgg187
 z28:=Tryz.sizeOf187
 v28:=Tryz.zeroValue187
 t33:=Tryz.underlying110
 a33:=Tryz.isAgg110
 z33:=Tryz.sizeOf110
 v33:=Tryz.zeroValue110}
def Tryz.sortedA_ren:Go.Shelf.Ren:=⟨fun|6=>96|8=>144|9=>145|11=>179|13=>181|12=>180|23=>222|24=>223|14=>213|15=>214|16=>215|17=>216|18=>217|19=>218|20=>219|21=>220|22=>221|25=>248|26=>249|27=>250|28=>251|29=>252|30=>253|31=>268|n=>n,fun|26=>3|28=>187|24=>57|0=>0|3=>3|37=>207|48=>265|50=>64|4=>4|40=>327|39=>326|45=>230|5=>5|9=>9|51=>362|55=>226|57=>382|58=>383|33=>110|n=>n,fun|n=>n⟩
theorem Tryz.sortedA:Go.Proofs.SlLaysZI.n6 Tryz.prog Tryz.sortedA_ren:={
 mixed:=by kernel_rfl
 f6:=⟨Tryz.f96.name,by decide,Tryz.func96.trans (congrArg some (by kernel_rfl))⟩
 f8:=⟨Tryz.f144.name,by decide,Tryz.func144.trans (congrArg some (by kernel_rfl))⟩
 f11:=⟨Tryz.f179.name,by decide,Tryz.func179.trans (congrArg some (by kernel_rfl))⟩
 t0:=Tryz.underlying0
 a0:=Tryz.isAgg0
 z0:=Tryz.sizeOf0
 v0:=Tryz.zeroValue0
 t24:=Tryz.underlying57
 a24:=Tryz.isAgg57
 z24:=Tryz.sizeOf57
 v24:=Tryz.zeroValue57
 t26:=Tryz.underlying3
 a26:=Tryz.isAgg3
 z26:=Tryz.sizeOf3
 v26:=Tryz.zeroValue3
 t28:=Tryz.underlying187
 a28:=Tryz.isAgg187
 z28:=Tryz.sizeOf187
 v28:=Tryz.zeroValue187
 i26:=by kernel_rfl}
def Tryz.sortInt_ren:Go.Shelf.Ren:=⟨fun|5=>145|8=>181|7=>180|19=>222|20=>223|10=>213|11=>214|12=>215|13=>216|14=>217|15=>218|16=>219|17=>220|18=>221|30=>248|31=>249|32=>250|33=>251|34=>252|35=>253|40=>268|n=>n,fun|23=>57|25=>3|3=>3|32=>207|22=>57|0=>0|44=>265|46=>64|4=>4|36=>327|35=>326|41=>230|5=>5|9=>9|53=>362|57=>226|63=>382|64=>383|n=>n,fun|n=>n⟩
theorem Tryz.sortInt:Go.Proofs.SlLaysM.n5 Tryz.prog Tryz.sortInt_ren:={
 mixed:=by kernel_rfl
 f5:=⟨Tryz.f145.name,by decide,Tryz.func145.trans (congrArg some (by kernel_rfl))⟩
 f7:=⟨Tryz.f180.name,by decide,Tryz.func180.trans (congrArg some (by kernel_rfl))⟩
 f8:=Tryz.func181.trans (congrArg some (by kernel_rfl))
 f10:=⟨Tryz.f213.name,by decide,Tryz.func213.trans (congrArg some (by kernel_rfl))⟩
 f11:=⟨Tryz.f214.name,by decide,Tryz.func214.trans (congrArg some (by kernel_rfl))⟩
 f12:=⟨Tryz.f215.name,by decide,Tryz.func215.trans (congrArg some (by kernel_rfl))⟩
 f13:=⟨Tryz.f216.name,by decide,Tryz.func216.trans (congrArg some (by kernel_rfl))⟩
 f14:=⟨Tryz.f217.name,by decide,Tryz.func217.trans (congrArg some (by kernel_rfl))⟩
 f15:=⟨Tryz.f218.name,by decide,Tryz.func218.trans (congrArg some (by kernel_rfl))⟩
 f16:=⟨Tryz.f219.name,by decide,Tryz.func219.trans (congrArg some (by kernel_rfl))⟩
 f17:=⟨Tryz.f220.name,by decide,Tryz.func220.trans (congrArg some (by kernel_rfl))⟩
 f18:=⟨Tryz.f221.name,by decide,Tryz.func221.trans (congrArg some (by kernel_rfl))⟩
 f19:=Tryz.func222.trans (congrArg some (by kernel_rfl))
 f20:=Tryz.func223.trans (congrArg some (by kernel_rfl))
 f30:=⟨Tryz.f248.name,by decide,Tryz.func248.trans (congrArg some (by kernel_rfl))⟩
 f31:=Tryz.func249.trans (congrArg some (by kernel_rfl))
 f32:=Tryz.func250.trans (congrArg some (by kernel_rfl))
 f33:=⟨Tryz.f251.name,by decide,Tryz.func251.trans (congrArg some (by kernel_rfl))⟩
 f34:=⟨Tryz.f252.name,by decide,Tryz.func252.trans (congrArg some (by kernel_rfl))⟩
 f35:=⟨Tryz.f253.name,by decide,Tryz.func253.trans (congrArg some (by kernel_rfl))⟩
 f40:=⟨Tryz.f268.name,by decide,Tryz.func268.trans (congrArg some (by kernel_rfl))⟩
 t0:=Tryz.underlying0
 a0:=Tryz.isAgg0
 z0:=Tryz.sizeOf0
 v0:=Tryz.zeroValue0
 t3:=Tryz.underlying3
 a3:=Tryz.isAgg3
 z3:=Tryz.sizeOf3
 v3:=Tryz.zeroValue3
 t4:=Tryz.underlying4
 a4:=Tryz.isAgg4
 z4:=Tryz.sizeOf4
 v4:=Tryz.zeroValue4
 t5:=Tryz.underlying5
 a5:=Tryz.isAgg5
 z5:=Tryz.sizeOf5
 v5:=Tryz.zeroValue5
 t9:=Tryz.underlying9
 a9:=Tryz.isAgg9
 z9:=Tryz.sizeOf9
 v9:=Tryz.zeroValue9
 t22:=Tryz.underlying57
 a22:=Tryz.isAgg57
 z22:=Tryz.sizeOf57
 v22:=Tryz.zeroValue57
 t23:=Tryz.underlying57
 a23:=Tryz.isAgg57
 z23:=Tryz.sizeOf57
 v23:=Tryz.zeroValue57
 t25:=Tryz.underlying3
 a25:=Tryz.isAgg3
 z25:=Tryz.sizeOf3
 v25:=Tryz.zeroValue3
 t32:=Tryz.underlying207
 a32:=Tryz.isAgg207
 z32:=Tryz.sizeOf207
 v32:=Tryz.zeroValue207
 t35:=Tryz.underlying326
 a35:=Tryz.isAgg326
 z35:=Tryz.sizeOf326
 v35:=Tryz.zeroValue326
 t36:=Tryz.underlying327
 a36:=Tryz.isAgg327
 z36:=Tryz.sizeOf327
 v36:=Tryz.zeroValue327
 t41:=Tryz.underlying230
 a41:=Tryz.isAgg230
 z41:=Tryz.sizeOf230
 v41:=Tryz.zeroValue230
 t44:=Tryz.underlying265
 a44:=Tryz.isAgg265
 z44:=Tryz.sizeOf265
 v44:=Tryz.zeroValue265
 t46:=Tryz.underlying64
 a46:=Tryz.isAgg64
 z46:=Tryz.sizeOf64
 v46:=Tryz.zeroValue64
 t53:=Tryz.underlying362
 a53:=Tryz.isAgg362
 z53:=Tryz.sizeOf362
 v53:=Tryz.zeroValue362
 t57:=Tryz.underlying226
 a57:=Tryz.isAgg226
 z57:=Tryz.sizeOf226
 v57:=Tryz.zeroValue226
 t63:=Tryz.underlying382
 a63:=Tryz.isAgg382
 z63:=Tryz.sizeOf382
 v63:=Tryz.zeroValue382
 t64:=Tryz.underlying383
 a64:=Tryz.isAgg383
 z64:=Tryz.sizeOf383
 v64:=Tryz.zeroValue383}
end Go.Proofs
