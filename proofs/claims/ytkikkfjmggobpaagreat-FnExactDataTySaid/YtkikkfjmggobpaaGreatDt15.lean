/- Parts of the proof, merged: TypeOk2, FindType, FindPat, ProgOk, ConY, ArO. -/
import Derived.Test.YtkikkfjmggobpaaGreatDt14
namespace Go.Proofs.YtkikkfjmggobpaaGreat
open Go.RowKit
set_option maxRecDepth 100000
set_option maxHeartbeats 16000000
set_option linter.unusedVariables false
set_option linter.unusedSimpArgs false
attribute [local go_sem] Ext.cell
theorem l04Con_c (c:GCon) (hl:c.arg.items.length<=1152921504606846976) (pp:Int) (r:List Value) (lo:Nat) (w:World) (hr:GCon.R lo w r c) :
  Calls Tryz.prog 90 #[.agg r.toArray,.int .i64 pp] w fun e w'=>e=.returned (.bool (conDecl pp c))/\Below w.heap.size w w':=by
 obtain⟨cn,hb,⟨its⟩⟩:=c
 obtain⟨v0,rfl,hwf,a1⟩:=hr
 have H1:=a1
 obtain⟨ia,ic,rfl,il,im,j0⟩:=a1
 dsimp only at *
 obtain⟨m,hm⟩ : ∃m,m=its.length:=⟨_,rfl⟩
 have hC:conDecl pp ⟨cn,hb,⟨its⟩⟩=(conOk cn&&((if hb then tyOk ⟨its⟩ else its.length == 0)&&its.all (varIn pp))):=rfl
 have cC:=fun W=>specConOk_c cn hwf W
 have cT:=fun W (h:GTy.R lo W [.slice ia m ic] ⟨its⟩)=>specTyOk_c ⟨its⟩ hl [.slice ia m ic] lo W h
 rw[<- hm]at il hC H1 hl ⊢
 generalize conDecl pp ⟨cn,hb,⟨its⟩⟩=res at *
 generalize conOk cn=q1 at *
 generalize hq2:tyOk ⟨its⟩=q2 at *
 have H1' : ∀W,Below w.heap.size w W->GTy.R lo W [.slice ia m ic] ⟨its⟩:=fun W hW=>⟨_,rfl,trivial,H1.below GTyItem.good hW⟩
 have j0' : ∀W,Below w.heap.size w W->SlAt GTyItem.R 3 lo W ia its:=fun W hW=>j0.below GTyItem.good hW
 have hnil:m=0->its.all (varIn pp)=true:=fun h=>by rw[List.length_eq_zero_iff.1 (hm.symm.trans h)];rfl
 clear H1 hq2 hwf j0
 replace hm:=kH hm;replace H1':=kH H1';replace j0':=kH j0';replace cT:=kH cT
 show Calls Tryz.prog 90 #[.agg #[.string cn,.bool hb,.slice ia m ic],.int .i64 pp] w _
 cases q1
 ·have hres:res=false:=by rw[hC];rfl
  subst hres
  clear hC hnil
  go_enter Tryz.func90,Tryz.ntmps90
  go_upto_region 1 with fail
  have D:RowAt (w.alloc (.cells #[.string cn,.bool hb,.slice ia m ic] 105)) (w.heap.size) 0 [.string cn,.bool hb,.slice ia m ic]:=RowAt.box w #[.string cn,.bool hb,.slice ia m ic] 105
  have hw:Below w.heap.size w (w.alloc (.cells #[.string cn,.bool hb,.slice ia m ic] 105)):=by go_grown
  generalize (w.alloc (.cells #[.string cn,.bool hb,.slice ia m ic] 105))=w0 at *
  obtain⟨d_0,d_1,d_2⟩:=D.box3;have hsD:=bLt d_0
  go_wp2_with ((go_at_call 93;((with_reducible refine(cC _).mono ?_);rintro e w1 ⟨rfl,rfl⟩)))
  go_returns
  exact⟨rfl,hw⟩
 rw[Bool.true_and]at hC
 cases hb
 ·generalize hem:((m:Int) == 0)=em
  have heml:(m == 0)=em:=by rw[<- hem,Bool.eq_iff_iff];simp
  have hres:res=em:=by
   rw[hC]
   show((m == 0)&&_)=em
   rw[heml]
   cases em
   ·rfl
   ·rw[hnil (by simpa using heml)];rfl
  subst hres
  clear hC hnil heml
  go_enter Tryz.func90,Tryz.ntmps90
  go_upto_region 1 with fail
  have D:RowAt (w.alloc (.cells #[.string cn,.bool false,.slice ia m ic] 105)) (w.heap.size) 0 [.string cn,.bool false,.slice ia m ic]:=RowAt.box w #[.string cn,.bool false,.slice ia m ic] 105
  have hw:Below w.heap.size w (w.alloc (.cells #[.string cn,.bool false,.slice ia m ic] 105)):=by go_grown
  generalize (w.alloc (.cells #[.string cn,.bool false,.slice ia m ic] 105))=w0 at *
  obtain⟨d_0,d_1,d_2⟩:=D.box3;have hsD:=bLt d_0
  go_wp2_with ((go_at_call 93;((with_reducible refine(cC _).mono ?_);rintro e w1 ⟨rfl,rfl⟩)))
  go_returns
  exact⟨rfl,hw⟩
 replace hC:res=(q2&&its.all (varIn pp)):=hC
 replace hC:=kH hC
 clear hnil
 go_enter Tryz.func90,Tryz.ntmps90
 go_upto_region 1 with fail
 have D:RowAt (w.alloc (.cells #[.string cn,.bool true,.slice ia m ic] 105)) (w.heap.size) 0 [.string cn,.bool true,.slice ia m ic]:=RowAt.box w #[.string cn,.bool true,.slice ia m ic] 105
 have hw:Below w.heap.size w (w.alloc (.cells #[.string cn,.bool true,.slice ia m ic] 105)):=by go_grown
 generalize (w.alloc (.cells #[.string cn,.bool true,.slice ia m ic] 105))=w0 at *
 obtain⟨d_0,d_1,d_2⟩:=D.box3;have hsD:=bLt d_0
 go_wp2_with ((go_at_call 93;((with_reducible refine(cC _).mono ?_);rintro e w1 ⟨rfl,rfl⟩)))
 go_loopw [23] (fun ii wr=>∃j:Nat,j<=m/\ii=.int .i64 j/\Hid (∀y∈its.take j,varIn pp y=true)/\Below w.heap.size w wr/\RowAt wr w.heap.size 0 [.string cn,.bool true,.slice ia m ic]) (fun ii _=>m-(intOf ii).toNat)
 case atStart=>exact⟨0,by omega,rfl,fun y hy=>by simp at hy,hw,D⟩
 case round=>
  clear D d_0 d_1 d_2 hsD hw
  obtain⟨j,hj,rfl,hF,hw,D⟩:=hrel
  have hsz:=hw.size
  obtain⟨d_0,d_1,d_2⟩:=D.box3;have hsD:=bLt d_0
  by_cases hjm:j<m
  ·obtain⟨b2,o2,y,s2,_,rfl,P2,⟨rfl,hwy⟩,r2⟩:=(j0'.out _ hw).get hm.out hjm
   have P2':=P2.out
   have hbadv:varIn pp y=false->res=false:=fun h=>by rw[hC.out,all_bad P2' h,Bool.and_false]
   have hgoodv:=fun h=>all_stepL (f:=varIn pp) hF.out P2' h
   obtain⟨f_0,f_1,f_2⟩:=r2.cells3
   have hbb2:=World.block_lt_of_cell? _ _ f_0;dsimp only at hbb2
   obtain⟨xv,xs,xa⟩:=y
   have hV:varIn pp ⟨xv,xs,xa⟩ = !(xs.toList.isEmpty&&decide (pp<=xv)):=rfl
   dsimp only at *
   generalize varIn pp ⟨xv,xs,xa⟩=q at *
   clear r2 P2 P2' hF hwy
   replace hbadv:=kH hbadv;replace hgoodv:=kH hgoodv
   cases e1:xs.toList.isEmpty
   ·rw[e1]at hV
    replace hV:q=true:=hV
    subst hV
    have hF:=kH (hgoodv.out rfl)
    clear hbadv hgoodv
    go_wp2_with fail
    go_roundw
    case rel=>exact⟨j+1,by omega,by go_num,hF,hw.trans (Below.mono (by go_grown) hsz),D.below (by go_grown)⟩
    case measure=>simp[intOf];omega
   ·cases e2:decide (pp<=xv)
    ·rw[e1,e2]at hV
     replace hV:q=true:=hV
     subst hV
     have hF:=kH (hgoodv.out rfl)
     clear hbadv hgoodv
     go_wp2_with fail
     go_roundw
     case rel=>exact⟨j+1,by omega,by go_num,hF,hw.trans (Below.mono (by go_grown) hsz),D.below (by go_grown)⟩
     case measure=>simp[intOf];omega
    ·rw[e1,e2]at hV
     replace hV:q=false:=hV
     subst hV
     have hres:=hbadv.out rfl
     subst hres
     clear hbadv hgoodv hC
     go_wp2_with fail
     go_returns
     exact⟨rfl,hw.trans (Below.mono (by go_grown) hsz)⟩
  ·obtain rfl:j=m:=by omega
   have hc1:=hC.out
   rw[all_full hF.out hm.out,Bool.and_true]at hc1
   subst hc1
   have cT':=cT.out _ (H1'.out _ hw)
   replace cT':=kH cT'
   clear hC hF
   go_wp2_with (go_at_call 131;((with_reducible refine(cT'.out).mono ?_);rintro e w1 ⟨rfl,hb⟩;have hw:=hw.trans (hb.mono hw.size);have D:=D.below hb;obtain⟨d_0,d_1,d_2⟩:=D.box3;have hsD:=bLt d_0;clear hb))
   go_returns
   exact⟨rfl,hw⟩
theorem indexFuncType_c (xs:List GType) (p:GType->Bool) (g:Nat) (lb:Array Value) (lo:Nat) (u:Value) (w:World) (hu:Sl GType.R 3 lo w u xs)
  (hp:∀ (i:Nat) x r W,xs[i]? = some x->Below w.heap.size w W->GType.R lo W r x->Calls Tryz.prog g (#[.agg r.toArray] ++ lb) W fun e w'=>e=.returned (.bool (p x))/\Below W.heap.size W w') (eg:∀args w,(callFunc g args).run Tryz.prog w=.ok (.enter g args) w) :
  Calls Tryz.prog 107 #[u,.func (.func g) #[] lb] w (IdxPost p xs w):=by
 obtain⟨ua,uc,rfl,ul,um,h0⟩:=hu
 replace hp:=kH hp
 replace h0:=kH h0
 obtain⟨m,hm⟩ : ∃m,m=xs.length:=⟨_,rfl⟩
 rw[<- hm]at ul ⊢
 replace hm:=kH hm
 go_enter Tryz.func107,Tryz.ntmps107
 go_wp2_with fail
 go_loopw [8] (fun i wr=>∃k:Nat,k<=m/\i=.int .i64 k/\Below w.heap.size w wr/\Hid (∀y∈xs.take k,p y=false)) (fun i _=>m-(intOf i).toNat)
 case atStart=>exact⟨0,by omega,rfl,Below.refl _ _,fun y hy=>by simp at hy⟩
 case round=>
  obtain⟨k,hk,rfl,hw,hF⟩:=hrel
  by_cases hlt:k<m
  ·obtain⟨b1,o1,x,r,_,rfl,P1,hx,r1⟩:=(h0.out.below GType.good hw).get hm hlt
   have hc:=hp.out k x r wr P1.out hw hx
   obtain⟨u0,rfl,hxf⟩:=id hx
   obtain⟨e_0,e_1,e_2⟩:=r1.cells3
   clear r1 hx hxf
   replace P1:=P1
   generalize hq:p x=q at hc
   replace hq:=kH hq
   cases q with
   |true=>
    go_wp2_with (go_at_fn g;refine hc.mono ?_;rintro e w1 ⟨rfl,hb⟩)
    go_returns
    exact⟨k,rfl,by
     have:xs.any p=true:=List.any_eq_true.2 ⟨x,List.mem_of_getElem? P1.out,hq.out⟩
     rw[this];simp,hw.trans (hb.mono hw.size)⟩
   |false=>
    go_wp2_with (go_at_fn g;refine hc.mono ?_;rintro e w1 ⟨rfl,hb⟩)
    go_roundw
    case rel=>exact⟨k+1,by omega,by go_num,hw.trans (hb.mono hw.size),by
     show ∀y∈xs.take (k+1),p y=false
     rw[take_snoc' P1.out]
     intro y hy
     rcases List.mem_append.1 hy with h|h
     ·exact hF.out y h
     ·simp at h;subst h;exact hq.out⟩
    case measure=>simp[intOf];omega
  ·obtain rfl:k=m:=by omega
   go_wp2_with fail
   go_returns
   exact⟨-1,rfl,by
    have hF:=hF.out
    rw[take_full hm]at hF
    have:xs.any p=false:=List.any_eq_false.2 fun y hy=>by rw[hF y hy];simp
    rw[this];simp,hw⟩
theorem containsFuncType_c (xs:List GType) (p:GType->Bool) (g:Nat) (lb:Array Value) (lo:Nat) (u:Value) (w:World) (hu:Sl GType.R 3 lo w u xs)
  (hp:∀ (i:Nat) x r W,xs[i]? = some x->Below w.heap.size w W->GType.R lo W r x->Calls Tryz.prog g (#[.agg r.toArray] ++ lb) W fun e w'=>e=.returned (.bool (p x))/\Below W.heap.size W w') (eg:∀args w,(callFunc g args).run Tryz.prog w=.ok (.enter g args) w) :
  Calls Tryz.prog 60 #[u,.func (.func g) #[] lb] w fun e w'=>e=.returned (.bool (xs.any p))/\Below w.heap.size w w':=by
 have hc:=indexFuncType_c xs p g lb lo u w hu hp eg
 replace hc:Calls Tryz.prog 107 #[u,.func (.func g) #[] lb] w fun e w'=>∃n:Int,e=.returned (.int .i64 n)/\decide (0<=n)=xs.any p/\Below w.heap.size w w':=hc
 clear hp
 generalize xs.any p=q at *
 obtain⟨ua,uc,rfl⟩:=hu.form
 clear hu
 go_enter Tryz.func60,Tryz.ntmps60
 go_wp2_with (go_at_call 107;refine hc.mono ?_;rintro e w1 ⟨n,rfl,hn,hb⟩)
 go_returns
 exact⟨rfl,hb⟩
theorem indexFuncPat_c (xs:List GPat) (p:GPat->Bool) (g:Nat) (lb:Array Value) (lo:Nat) (u:Value) (w:World) (hu:Sl GPat.R 1 lo w u xs)
  (hp:∀ (i:Nat) x r W,xs[i]? = some x->Below w.heap.size w W->GPat.R lo W r x->Calls Tryz.prog g (#[.agg r.toArray] ++ lb) W fun e w'=>e=.returned (.bool (p x))/\Below W.heap.size W w') (eg:∀args w,(callFunc g args).run Tryz.prog w=.ok (.enter g args) w) :
  Calls Tryz.prog 148 #[u,.func (.func g) #[] lb] w (IdxPost p xs w):=by
 obtain⟨ua,uc,rfl,ul,um,h0⟩:=hu
 replace hp:=kH hp
 replace h0:=kH h0
 obtain⟨m,hm⟩ : ∃m,m=xs.length:=⟨_,rfl⟩
 rw[<- hm]at ul ⊢
 replace hm:=kH hm
 go_enter Tryz.func148,Tryz.ntmps148
 go_wp2_with fail
 go_loopw [8] (fun i wr=>∃k:Nat,k<=m/\i=.int .i64 k/\Below w.heap.size w wr/\Hid (∀y∈xs.take k,p y=false)) (fun i _=>m-(intOf i).toNat)
 case atStart=>exact⟨0,by omega,rfl,Below.refl _ _,fun y hy=>by simp at hy⟩
 case round=>
  obtain⟨k,hk,rfl,hw,hF⟩:=hrel
  by_cases hlt:k<m
  ·obtain⟨b1,o1,x,r,_,rfl,P1,hx,r1⟩:=(h0.out.below GPat.good hw).get hm hlt
   have hc:=hp.out k x r wr P1.out hw hx
   obtain⟨u0,rfl,hxf⟩:=id hx
   have e_0:wr.cell? ⟨b1,o1+k,none⟩=some u0:=by simpa using r1 0 _ rfl
   clear r1 hx hxf
   replace P1:=P1
   generalize hq:p x=q at hc
   replace hq:=kH hq
   cases q with
   |true=>
    go_wp2_with (go_at_fn g;refine hc.mono ?_;rintro e w1 ⟨rfl,hb⟩)
    go_returns
    exact⟨k,rfl,by
     have:xs.any p=true:=List.any_eq_true.2 ⟨x,List.mem_of_getElem? P1.out,hq.out⟩
     rw[this];simp,hw.trans (hb.mono hw.size)⟩
   |false=>
    go_wp2_with (go_at_fn g;refine hc.mono ?_;rintro e w1 ⟨rfl,hb⟩)
    go_roundw
    case rel=>exact⟨k+1,by omega,by go_num,hw.trans (hb.mono hw.size),by
     show ∀y∈xs.take (k+1),p y=false
     rw[take_snoc' P1.out]
     intro y hy
     rcases List.mem_append.1 hy with h|h
     ·exact hF.out y h
     ·simp at h;subst h;exact hq.out⟩
    case measure=>simp[intOf];omega
  ·obtain rfl:k=m:=by omega
   go_wp2_with fail
   go_returns
   exact⟨-1,rfl,by
    have hF:=hF.out
    rw[take_full hm]at hF
    have:xs.any p=false:=List.any_eq_false.2 fun y hy=>by rw[hF y hy];simp
    rw[this];simp,hw⟩
theorem containsFuncPat_c (xs:List GPat) (p:GPat->Bool) (g:Nat) (lb:Array Value) (lo:Nat) (u:Value) (w:World) (hu:Sl GPat.R 1 lo w u xs)
  (hp:∀ (i:Nat) x r W,xs[i]? = some x->Below w.heap.size w W->GPat.R lo W r x->Calls Tryz.prog g (#[.agg r.toArray] ++ lb) W fun e w'=>e=.returned (.bool (p x))/\Below W.heap.size W w') (eg:∀args w,(callFunc g args).run Tryz.prog w=.ok (.enter g args) w) :
  Calls Tryz.prog 104 #[u,.func (.func g) #[] lb] w fun e w'=>e=.returned (.bool (xs.any p))/\Below w.heap.size w w':=by
 have hc:=indexFuncPat_c xs p g lb lo u w hu hp eg
 replace hc:Calls Tryz.prog 148 #[u,.func (.func g) #[] lb] w fun e w'=>∃n:Int,e=.returned (.int .i64 n)/\decide (0<=n)=xs.any p/\Below w.heap.size w w':=hc
 clear hp
 generalize xs.any p=q at *
 obtain⟨ua,uc,rfl⟩:=hu.form
 clear hu
 go_enter Tryz.func104,Tryz.ntmps104
 go_wp2_with (go_at_call 148;refine hc.mono ?_;rintro e w1 ⟨n,rfl,hn,hb⟩)
 go_returns
 exact⟨rfl,hb⟩
def kidsAtN (N:List GNode) (i:Nat):List Int:=kidsAt (N.map asD) i
theorem kidsAtN_get {N:List GNode} {i:Nat} {x:GNode} (h:N[i]? = some x):kidsAtN N i=x.kids:=by
 unfold kidsAtN kidsAt
 rw[List.getElem?_map,h];rfl
def inOrd (N:List GNode):Bool:=decide (endsK N.length (kidsAtN N) (N.length+1) 0=N.length)
theorem inOrd_kids {N:List GNode} (h:inOrd N=true) {i:Nat} {x:GNode} (hx:N[i]? = some x):∀k∈x.kids,0<=k/\k<(N.length:Int):=by
 have h1:=of_decide_eq_true h
 have h2:=kids_in (d:=⟨N.map asD⟩) (i:=i) (x:=asD x) (by simp only[List.length_map];exact h1) (by rw[List.getElem?_map,hx];rfl)
 simpa [asD] using h2
def shapeP (p:GProgram):Bool:=(decide (1<=(p.nodes.length:Int)/\(p.nodes.length:Int)<=600)&&decide ((p.types.length:Int)<=8))&&(inOrd p.nodes&&(p.nodes.all (nodOk p.nodes)&&p.types.all typeOk))
def progOk (p:GProgram):Bool:=shapeP p&&p.nodes.all fun x=>patsOk x.pats
def nodeSm (x:GNode):Prop:=x.pats.length<=1152921504606846976/\∀q∈x.pats,q.nodes.length<=1152921504606846976
structure ProgSm (p:GProgram):Prop where
 n:p.nodes.length<=1152921504606846976
 t:p.types.length<=1152921504606846976
 ts:∀t∈p.types,typeSm t
 ns:∀x∈p.nodes,nodeSm x
theorem shapeKids_c (N:List GNode) (hN:N.length<=1152921504606846976) (u:Value) (lo b:Nat) (w:World) (hu:Sl GNode.R 6 lo w u N) (hb:w.cell? ⟨b,1,none⟩=some u) :
  KidsGive N.length (kidsAtN N) 141 #[.pointer (some ⟨b,0,none⟩)] lo w:=by
 intro i hi
 obtain⟨ua,uc,rfl,ul,um,h0⟩:=hu
 obtain⟨b1,o1,x,r,_,rfl,P1,⟨u0,u1,rfl,_,hk,_⟩,r1⟩:=h0.get (kH rfl) hi
 refine⟨u0,by rw[kidsAtN_get P1.out];exact hk,fun W hW=>?_⟩
 have e1:=cell_below hW hb
 have e2:W.cell? ⟨b1,o1+i*6+4,none⟩=some u0:=cell_below hW (by simpa using r1 4 _ rfl)
 clear h0 P1 hk r1 hb hW
 generalize N.length=n at *
 show Calls Tryz.prog 141 #[.int .i64 i,.pointer (some ⟨b,0,none⟩)] W _
 go_enter Tryz.func141,Tryz.ntmps141
 go_wp2_with fail
 go_returns
 exact⟨rfl,by go_grown⟩
theorem badType_c (t:GType) (ht:typeSm t) (r:List Value) (lo:Nat) (w:World) (hr:GType.R lo w r t) :
  Calls Tryz.prog 143 (#[.agg r.toArray] ++ #[]) w fun e w'=>e=.returned (.bool (!typeOk t))/\Below w.heap.size w w':=by
 have hR:=hr
 obtain⟨u0,rfl,_,h0⟩:=hr
 have c1:=fun W (hW:Below w.heap.size w W)=>typeOk_c t ht _ lo W (GType.good.below hR hW)
 clear h0 hR
 generalize typeOk t=k at *
 obtain⟨nm,pp,cs⟩:=t
 dsimp only at *
 replace c1:=kH c1
 show Calls Tryz.prog 143 #[.agg #[.string nm,.int .i64 pp,u0]] w _
 go_enter Tryz.func143,Tryz.ntmps143
 go_upto_region 1 with fail
 have C:RowAt (w.alloc (.cells #[.string nm,.int .i64 pp,u0] 101)) (w.heap.size) 0 [.string nm,.int .i64 pp,u0]:=RowAt.box w #[.string nm,.int .i64 pp,u0] 101
 have hw:Below w.heap.size w (w.alloc (.cells #[.string nm,.int .i64 pp,u0] 101)):=by go_grown
 generalize (w.alloc (.cells #[.string nm,.int .i64 pp,u0] 101))=w0 at *
 obtain⟨c_0,c_1,c_2⟩:=C.box3;have hsC:=bLt c_0
 go_wp2_with (go_at_call 144;((with_reducible refine(c1.out _ hw).mono ?_);rintro e w1 ⟨rfl,hb⟩;have hw:=hw.trans (hb.mono hw.size);have C:=C.below hb;obtain⟨c_0,c_1,c_2⟩:=C.box3;have hsC:=bLt c_0;clear hb))
 go_returns
 exact⟨rfl,hw⟩
theorem shapeOk_c (p:GProgram) (hs:ProgSm p) (r:List Value) (lo:Nat) (w:World) (hr:GProgram.R lo w r p) :
  Calls Tryz.prog 101 #[.agg r.toArray,.func (.func 102) #[] #[]] w fun e w'=>e=.returned (.bool (shapeP p))/\Below w.heap.size w w':=by
 obtain⟨Ts,N⟩:=p
 obtain⟨tv,nv,rfl,-,hT,hN⟩:=hr
 obtain⟨s1,s2,s3,s4⟩:=hs
 dsimp only at *
 have H1:=fun W (hW:Below w.heap.size w W)=>shapeKids_c N s1 nv lo w.heap.size W (hN.below GNode.good hW)
 have H3:=fun W (hk:KidsGive N.length (kidsAtN N) 141 #[.pointer (some ⟨w.heap.size,0,none⟩)] lo W)=>inOrder_c N.length s1 (kidsAtN N) 141 #[.pointer (some ⟨w.heap.size,0,none⟩)] lo W hk (fun _ _=>by kernel_rfl)
 have H4:=fun W (hW:Below w.heap.size w W)=>containsFuncType_c Ts (fun t=>!typeOk t) 143 #[] lo tv W (hT.below GType.good hW) (fun i x r W' hi hW' hx=>badType_c x (s3 x (List.mem_of_getElem? hi)) r lo W' hx) (fun _ _=>by kernel_rfl)
 have W1:=fun W=>within_c N.length 1 600 W
 have hS:shapeP ⟨Ts,N⟩=((decide (1<=(N.length:Int)/\(N.length:Int)<=600)&&decide ((Ts.length:Int)<=8))&&(inOrd N&&(N.all (nodOk N)&&Ts.all typeOk))):=rfl
 have hany:Ts.any (fun t=>!typeOk t) = !Ts.all typeOk:=by rw[<- List.not_all_eq_any_not]
 generalize shapeP ⟨Ts,N⟩=res at *
 rw[hany]at H4
 have hin:=fun h i x=>@inOrd_kids N h i x
 obtain⟨ta,tc,rfl⟩:=hT.form
 obtain⟨na,nc,hnv,ul,um,h0⟩:=hN
 subst hnv
 change ∀W,_->Calls Tryz.prog 67 _ W (fun e w'=>e=.returned (.bool (inOrd N))/\Below W.heap.size W w') at H3
 have hsl:∀W,Below w.heap.size w W->Sl GNode.R 6 lo W (.slice na N.length nc) N:=fun W hW=>⟨na,nc,rfl,ul,um,h0.below GNode.good hW⟩
 have hkk:∀W,Below w.heap.size w W->SlAt GNode.R 6 lo W na N:=fun W hW=>h0.below GNode.good hW
 have hNN:=s1
 obtain⟨n,hn⟩ : ∃n,n=N.length:=⟨_,rfl⟩
 obtain⟨tn,htn⟩ : ∃tn,tn=Ts.length:=⟨_,rfl⟩
 rw[<- hn]at ul H1 H3 W1 s1 hS hsl
 rw[<- htn]at hS s2 H4
 rw[<- hn,<- htn]
 clear hT h0 s3
 generalize htt:Ts.all typeOk=tt at *
 generalize hio:inOrd N=io at *
 replace hn:=kH hn;replace htn:=kH htn;replace H1:=kH H1;replace H3:=kH H3;replace H4:=kH H4;replace s4:=kH s4;replace hsl:=kH hsl;replace hkk:=kH hkk;replace hNN:=kH hNN
 replace hS:=kH hS;replace hin:=kH hin
 generalize hd1:decide (1<=(n:Int)/\(n:Int)<=600)=d1 at *
 generalize hd2:decide ((tn:Int)<=8)=d2 at *
 have hd3:decide (8<(tn:Int)) = !d2:=by rw[<- hd2,<- decide_not,decide_eq_decide];omega
 have hd3' : decide (8<tn) = !d2:=by rw[<- hd2,<- decide_not,decide_eq_decide];omega
 clear hd1 hd2 htt hio
 show Calls Tryz.prog 101 #[.agg #[.slice ta tn tc,.slice na n nc],.func (.func 102) #[] #[]] w _
 cases d1
 ·have hr:res=false:=hS.out
  subst hr
  clear hS
  go_enter Tryz.func101,Tryz.ntmps101
  go_upto_region 1 with fail
  have D:RowAt (w.alloc (.cells #[.slice ta tn tc,.slice na n nc] 39)) (w.heap.size) 0 [.slice ta tn tc,.slice na n nc]:=RowAt.box w #[.slice ta tn tc,.slice na n nc] 39
  have hw:Below w.heap.size w (w.alloc (.cells #[.slice ta tn tc,.slice na n nc] 39)):=by go_grown
  generalize (w.alloc (.cells #[.slice ta tn tc,.slice na n nc] 39))=w0 at *
  obtain⟨d_0,d_1⟩:=D.box2;have hsD:=bLt d_0
  go_wp2_with (go_at_call 66;((with_reducible refine(W1 _).mono ?_);rintro e w1 ⟨rfl,rfl⟩))
  go_returns
  exact⟨rfl,hw⟩
 cases d2
 ·have hr:res=false:=hS.out
  replace hd3:decide (8<(tn:Int))=true:=hd3
  replace hd3' : decide (8<tn)=true:=hd3'
  subst hr
  clear hS
  go_enter Tryz.func101,Tryz.ntmps101
  go_upto_region 1 with fail
  have D:RowAt (w.alloc (.cells #[.slice ta tn tc,.slice na n nc] 39)) (w.heap.size) 0 [.slice ta tn tc,.slice na n nc]:=RowAt.box w #[.slice ta tn tc,.slice na n nc] 39
  have hw:Below w.heap.size w (w.alloc (.cells #[.slice ta tn tc,.slice na n nc] 39)):=by go_grown
  generalize (w.alloc (.cells #[.slice ta tn tc,.slice na n nc] 39))=w0 at *
  obtain⟨d_0,d_1⟩:=D.box2;have hsD:=bLt d_0
  go_wp2_with (go_at_call 66;((with_reducible refine(W1 _).mono ?_);rintro e w1 ⟨rfl,rfl⟩))
  go_returns
  exact⟨rfl,hw⟩
 replace hd3:decide (8<(tn:Int))=false:=hd3
 replace hd3' : decide (8<tn)=false:=hd3'
 cases io
 ·have hr:res=false:=hS.out
  subst hr
  clear hS
  go_enter Tryz.func101,Tryz.ntmps101
  go_upto_region 1 with fail
  have D:RowAt (w.alloc (.cells #[.slice ta tn tc,.slice na n nc] 39)) (w.heap.size) 0 [.slice ta tn tc,.slice na n nc]:=RowAt.box w #[.slice ta tn tc,.slice na n nc] 39
  have hw:Below w.heap.size w (w.alloc (.cells #[.slice ta tn tc,.slice na n nc] 39)):=by go_grown
  generalize (w.alloc (.cells #[.slice ta tn tc,.slice na n nc] 39))=w0 at *
  obtain⟨d_0,d_1⟩:=D.box2;have hsD:=bLt d_0
  go_wp2_with (first|(go_at_call 66;((with_reducible refine(W1 _).mono ?_);rintro e w1 ⟨rfl,rfl⟩))|(go_at_call 67;((with_reducible refine(H3.out _ (H1.out _ hw d_1)).mono ?_);rintro e w1 ⟨rfl,hb⟩;have hw:=hw.trans (hb.mono hw.size);have D:=D.below hb;obtain⟨d_0,d_1⟩:=D.box2;have hsD:=bLt d_0;clear hb)))
  go_returns
  exact⟨rfl,hw⟩
 replace hS:Hid (res=(N.all (nodOk N)&&tt)):=hS
 have hin2:∀ (i:Nat) x,N[i]? = some x->∀k∈x.kids,0<=k/\k<(N.length:Int):=hin.out rfl
 clear hin
 replace hin2:=kH hin2
 go_enter Tryz.func101,Tryz.ntmps101
 go_upto_region 1 with fail
 have D:RowAt (w.alloc (.cells #[.slice ta tn tc,.slice na n nc] 39)) (w.heap.size) 0 [.slice ta tn tc,.slice na n nc]:=RowAt.box w #[.slice ta tn tc,.slice na n nc] 39
 have hw:Below w.heap.size w (w.alloc (.cells #[.slice ta tn tc,.slice na n nc] 39)):=by go_grown
 generalize (w.alloc (.cells #[.slice ta tn tc,.slice na n nc] 39))=w0 at *
 obtain⟨d_0,d_1⟩:=D.box2;have hsD:=bLt d_0
 go_wp2_with (first|(go_at_call 66;((with_reducible refine(W1 _).mono ?_);rintro e w1 ⟨rfl,rfl⟩))|(go_at_call 67;((with_reducible refine(H3.out _ (H1.out _ hw d_1)).mono ?_);rintro e w1 ⟨rfl,hb⟩;have hw:=hw.trans (hb.mono hw.size);have D:=D.below hb;obtain⟨d_0,d_1⟩:=D.box2;have hsD:=bLt d_0;clear hb)))
 go_loopw [27] (fun ii wr=>∃k:Nat,k<=n/\ii=.int .i64 k/\Hid (∀y∈N.take k,nodOk N y=true)/\Below w.heap.size w wr/\RowAt wr w.heap.size 0 [.slice ta tn tc,.slice na n nc]) (fun ii _=>n-(intOf ii).toNat)
 case atStart=>exact⟨0,by omega,rfl,fun y hy=>by simp at hy,hw,D⟩
 case round=>
  clear hw D d_0 d_1 hsD
  obtain⟨k,hk,rfl,hF,hw,D⟩:=hrel
  have hsz:=hw.size
  obtain⟨d_0,d_1⟩:=D.box2;have hsD:=bLt d_0
  by_cases hlt:k<n
  ·obtain⟨b1,o1,x,r,_,rfl,P1,hx,r1⟩:=(hkk.out _ hw).get hn.out hlt
   have P1':=P1.out
   have hxs:=s4.out x (List.mem_of_getElem? P1')
   have hxin:=hin2.out k x P1'
   have hgood:=fun h=>all_stepL (f:=nodOk N) hF.out P1' h
   have hbadp:nodOk N x=false->res=false:=fun h=>by rw[hS.out,all_bad P1' h];rfl
   obtain⟨v0,v1,rfl,hwf,hk0,hp0⟩:=hx
   have cN:=fun W (hW:Below wr.heap.size wr W) (hW2:Below w.heap.size w W)=>nodeOkN_c x hwf N hNN.out (.slice ta tn tc) (some ⟨b1,o1,none⟩) nc v0 v1 lo lo W (hn.out ▸ hsl.out W hW2) (hk0.below IntR.good hW) (by obtain⟨pa,pc,h⟩:=hp0.form;exact⟨pa,pc,h⟩) hxs.1 hxin
   rw[<- hn.out]at cN
   generalize nodOk N x=q at *
   obtain⟨kd,at_,nn,s,ks,ps⟩:=x
   obtain⟨ka,kc,rfl⟩:=hk0.form
   obtain⟨pa,pc,rfl⟩:=hp0.form
   dsimp only at *
   obtain⟨e_0,e_1,e_2,e_3,e_4,e_5⟩:=r1.cells6
   have hbb1:=World.block_lt_of_cell? _ _ e_0;dsimp only at hbb1
   clear hk0 hp0 hwf r1 P1 P1' hxin hxs hF
   generalize ks.length=m at *
   generalize ps.length=pm at *
   replace hgood:=kH hgood;replace hbadp:=kH hbadp;replace cN:=kH cN
   go_upto_region 8 with fail
   have hb1:Below wr.heap.size wr (wr.alloc (.cells #[.int .i64 kd,.int .i64 at_,.int .i64 nn,.string s,.slice ka m kc,.slice pa pm pc] 123)):=by go_grown
   have E:RowAt (wr.alloc (.cells #[.int .i64 kd,.int .i64 at_,.int .i64 nn,.string s,.slice ka m kc,.slice pa pm pc] 123)) wr.heap.size 0 [.int .i64 kd,.int .i64 at_,.int .i64 nn,.string s,.slice ka m kc,.slice pa pm pc]:=RowAt.box _ _ _
   have hw':=hw.trans (hb1.mono hsz)
   have D':=D.below hb1
   have cN':=cN.out _ hb1 hw'
   generalize wr.alloc (.cells #[.int .i64 kd,.int .i64 at_,.int .i64 nn,.string s,.slice ka m kc,.slice pa pm pc] 123)=w2 at *
   clear hw D d_0 d_1 hsD e_0 e_1 e_2 e_3 e_4 e_5 hb1 cN
   have hw:=hw';have D:=D'
   clear hw' D'
   replace cN':=kH cN'
   obtain⟨d_0,d_1⟩:=D.box2;have hsD:=bLt d_0;obtain⟨e_0,e_1,e_2,e_3,e_4,e_5⟩:=E.box6;have hsE:=bLt e_0
   cases q
   ·have hr:=hbadp.out rfl
    subst hr
    clear hbadp hgood hS
    go_wp2_with (go_at_call 142;((with_reducible refine(cN'.out).mono ?_);rintro e w1 ⟨rfl,hb⟩;have hw:=hw.trans (hb.mono hw.size);have D:=D.below hb;obtain⟨d_0,d_1⟩:=D.box2;have hsD:=bLt d_0;have E:=E.below hb;obtain⟨e_0,e_1,e_2,e_3,e_4,e_5⟩:=E.box6;have hsE:=bLt e_0;clear hb))
    go_returns
    exact⟨rfl,hw⟩
   ·have hF:=kH (hgood.out rfl)
    clear hbadp hgood
    go_wp2_with (go_at_call 142;((with_reducible refine(cN'.out).mono ?_);rintro e w1 ⟨rfl,hb⟩;have hw:=hw.trans (hb.mono hw.size);have D:=D.below hb;obtain⟨d_0,d_1⟩:=D.box2;have hsD:=bLt d_0;have E:=E.below hb;obtain⟨e_0,e_1,e_2,e_3,e_4,e_5⟩:=E.box6;have hsE:=bLt e_0;clear hb))
    go_roundw
    case rel=>exact⟨k+1,by omega,by go_num,hF,hw,D⟩
    case measure=>simp[intOf];omega
  ·obtain rfl:k=n:=by omega
   have hr:res=tt:=by rw[hS.out,all_full hF.out hn.out];rfl
   subst hr
   clear hF hS
   go_wp2_with (go_at_call 60;((with_reducible refine(H4.out _ hw).mono ?_);rintro e w1 ⟨rfl,hb⟩;have hw:=hw.trans (hb.mono hw.size);have D:=D.below hb;obtain⟨d_0,d_1⟩:=D.box2;have hsD:=bLt d_0;clear hb))
   go_returns
   exact⟨by simp,hw⟩
end Go.Proofs.YtkikkfjmggobpaaGreat
namespace Go.Proofs.YtkikkfjmggobpaaGreat
open Go.RowKit
set_option linter.unusedVariables false
set_option linter.unusedSimpArgs false
abbrev nmTrue:ByteArray:=⟨#[116,114,117,101]⟩
abbrev nmFalse:ByteArray:=⟨#[102,97,108,115,101]⟩
abbrev nmNil:ByteArray:=⟨#[91,93]⟩
abbrev nmCons:ByteArray:=⟨#[58,58]⟩
abbrev nmBool:ByteArray:=⟨#[98,111,111,108]⟩
abbrev nmList:ByteArray:=⟨#[108,105,115,116]⟩
abbrev nmStar:ByteArray:=⟨#[42]⟩
abbrev nmInt:ByteArray:=⟨#[105,110,116]⟩
abbrev nmUnit:ByteArray:=⟨#[117,110,105,116]⟩
abbrev nmString:ByteArray:=⟨#[115,116,114,105,110,103]⟩
def newVs (n:Nat):Nat->Sbs
 |0=>[]
 |k+1=>newVs n k ++ [((k:Int),.v ((n+k:Nat):Int))]
theorem newVs_len (n:Nat):∀k,(newVs n k).length=k
 |0=>rfl
 |k+1=>by rw[newVs,List.length_append,newVs_len n k];rfl
theorem newVs_mem {n:Nat} : ∀ {k:Nat} {p:Int × TyT},p∈newVs n k->0<=p.1/\p.1<(k:Int)/\p.2=.v ((n:Int)+p.1)
 |0,p,h=>by cases h
 |k+1,p,h=>by
  rw[newVs,List.mem_append,List.mem_singleton]at h
  rcases h with h|rfl
  ·obtain⟨h1,h2,h3⟩:=newVs_mem h;exact⟨h1,by omega,h3⟩
  ·exact⟨by dsimp only;omega,by dsimp only;omega,by dsimp only;rw[show((n+k:Nat):Int)=(n:Int)+(k:Int) by omega]⟩
theorem newVs_keys (n:Nat):∀k,KeysD (newVs n k)
 |0=>List.Pairwise.nil
 |k+1=>by
  unfold KeysD
  rw[newVs,List.pairwise_append]
  refine⟨newVs_keys n k,by simp,fun p hp q hq=>?_⟩
  simp only[List.mem_singleton]at hq
  subst hq
  have:=(newVs_mem hp).2.1
  dsimp only;omega
theorem newVs_get {n:Nat} : ∀ {k:Nat} {i:Int},0<=i->i<(k:Int)->getS (newVs n k) i=some (.v ((n:Int)+i))
 |0,i,h,h2=>by omega
 |k+1,i,h,h2=>by
  rw[newVs,getS_snoc]
  by_cases hi:i<(k:Int)
  ·rw[newVs_get h hi]
  ·obtain rfl:i=(k:Int):=by omega
   have:getS (newVs n k) (k:Int)=none:=getS_none.2 fun p hp=>by have:=(newVs_mem hp).2.1;omega
   rw[this]
   simp
theorem newVs_names (n k:Nat):NamesS (newVs n k):=fun p hp=>by rw[(newVs_mem hp).2.2];trivial
def ownY (name:ByteArray) (n:Nat):Nat->TyT
 |0=>.c0 name
 |1=>.c1 name (.v (n:Int))
 |_=>.c2 name (.v (n:Int)) (.v ((n+1:Nat):Int))
/-- The tree of a right list of items. -/
noncomputable def treeY (l:List GTyItem):TyT:=by
 classical exact if h:∃t,l=flatY t/\NamesY t/\szY t<=200 then Classical.choose h else .c0 nmInt
theorem treeY_is {l:List GTyItem} (h:∃t,l=flatY t/\NamesY t/\szY t<=200):l=flatY (treeY l)/\NamesY (treeY l)/\szY (treeY l)<=200:=by
 have hc:=Classical.choose_spec h
 unfold treeY
 rw[dif_pos h]
 exact hc
def findC (name:ByteArray):List GType->Option (GType × GCon)
 |[]=>none
 |t :: l=>match t.cons.find? (fun c=>decide (c.name=name)) with
  |some c=>some (t,c)
  |none=>findC name l
structure ConI where
 own:TyT
 arg:TyT
 has:Bool
 many:Nat
noncomputable def conI (T:List GType) (name:ByteArray) (n:Nat):Option ConI:=
 if name=nmTrue\/name=nmFalse then some ⟨.c0 nmBool,.c0 nmInt,false,0⟩
 else if name=nmNil\/name=nmCons then some ⟨.c1 nmList (.v (n:Int)),.c2 nmStar (.v (n:Int)) (.c1 nmList (.v (n:Int))),decide (name=nmCons),1⟩
 else match findC name T with
  |some (t,c)=>some ⟨ownY t.name n t.params.toNat,subY (newVs n t.params.toNat) (treeY c.arg.items),c.has,t.params.toNat⟩
  |none=>none
def TysOk (T:List GType):Prop:=∀t∈T,typeOk t=true/\t.wf/\∀c∈t.cons,c.wf
theorem findC_mem {name:ByteArray} : ∀ {T:List GType} {t:GType} {c:GCon},findC name T=some (t,c)->t∈T/\c∈t.cons
 |[],t,c,h=>by cases h
 |u :: l,t,c,h=>by
  unfold findC at h
  split at h
  ·rename_i d hd
   obtain⟨rfl,rfl⟩:=Prod.mk.inj (Option.some.inj h)
   exact⟨by simp,List.mem_of_find?_eq_some hd⟩
  ·have:=findC_mem h
   exact⟨List.mem_cons_of_mem _ this.1,this.2⟩
theorem typeOk_parts {t:GType} (h:typeOk t=true):nameOk t.name=true/\(0<=t.params/\t.params<=2)/\t.cons.length<=8/\∀c∈t.cons,conHas c=true/\∀x∈c.arg.items,varIn t.params x=true:=by
 unfold typeOk at h
 simp only[Bool.and_eq_true,decide_eq_true_eq,List.all_eq_true]at h
 obtain⟨h1,h2,h3,h4⟩:=h
 refine⟨h1,h2,by omega,fun c hc=>?_⟩
 have:=h4 c hc
 unfold conDecl at this
 simp only[Bool.and_eq_true,List.all_eq_true]at this
 exact this.2
theorem conHas_yes {c:GCon} (h:conHas c=true) (hh:c.has=true):c.arg.items=flatY (treeY c.arg.items)/\NamesY (treeY c.arg.items)/\szY (treeY c.arg.items)<=200:=by
 unfold conHas at h
 rw[if_pos hh]at h
 exact treeY_is (tyOk_tree h)
theorem conHas_no {c:GCon} (h:conHas c=true) (hh:c.has=false):c.arg.items=[]:=by
 unfold conHas at h
 rw[hh]at h
 simpa using h
theorem tyGo_items:∀ (l:List GTyItem) (n:Nat),tyGo n l=true->∀x∈l,itemOk x=true
 |[],n,_,x,hx=>by cases hx
 |y :: l,0,h,x,hx=>by simp[tyGo]at h
 |y :: l,n+1,h,x,hx=>by
  rw[tyGo,Bool.and_eq_true]at h
  rcases List.mem_cons.1 hx with rfl|hx
  ·exact h.1
  ·exact tyGo_items l _ h.2 x hx
theorem tyOk_items {x:GTy} (h:tyOk x=true):∀y∈x.items,itemOk y=true:=by
 unfold tyOk at h
 rw[Bool.and_eq_true]at h
 exact tyGo_items _ _ h.2
theorem arg_vars {t:GType} {c:GCon} (h:typeOk t=true) (hc:c∈t.cons) (hh:c.has=true):VarsIn t.params (treeY c.arg.items):=by
 obtain⟨-,-,-,h4⟩:=typeOk_parts h
 obtain⟨h5,h6⟩:=h4 c hc
 obtain⟨h7,h8,-⟩:=conHas_yes h5 hh
 have hty:tyOk c.arg=true:=by unfold conHas at h5;rwa [if_pos hh]at h5
 refine vars_items _ fun x hx hn=>?_
 rw[<- h7]at hx
 have h9:=h6 x hx
 unfold varIn at h9
 rw[hn]at h9
 simp at h9
 refine⟨?_,h9⟩
 have hit:itemOk x=true:=tyOk_items hty x hx
 unfold itemOk at hit
 rw[if_pos hn]at hit
 simp only[Bool.and_eq_true,decide_eq_true_eq]at hit
 exact hit.1.1
theorem ownY_in {s:IS} {name:ByteArray} {k:Nat} (hk:k<=2) (hn:name.toList.isEmpty=false) {m:Nat} (hm:s.nx+k<=m):VarsIn m (ownY name s.nx k)/\NamesY (ownY name s.nx k)/\szY (ownY name s.nx k)<=3:=by
 rcases show k=0\/k=1\/k=2 by omega with rfl|rfl|rfl
 ·exact⟨fun n h=>by simp[ownY,occY]at h,hn,by simp[ownY,szY]⟩
 ·refine⟨fun n h=>?_,⟨hn,trivial⟩,by simp[ownY,szY]⟩
  simp only[ownY,occY,beq_iff_eq]at h
  omega
 ·refine⟨fun n h=>?_,⟨hn,trivial,trivial⟩,by simp[ownY,szY]⟩
  simp only[ownY,occY,Bool.or_eq_true,beq_iff_eq]at h
  omega
theorem name_full {s:ByteArray} (h:nameOk s=true):s.toList.isEmpty=false:=by
 unfold nameOk wordOk at h
 simp only[Bool.and_eq_true,decide_eq_true_eq]at h
 have h1:1<=(s.size:Int):=h.1.1.2.1
 rw[ByteArray.toList_eq]
 have h2:s.data.toList.length=s.size:=Array.length_toList
 cases hs:s.data.toList with
 |nil=>rw[hs]at h2;simp at h2;omega
 |cons a l=>rfl
theorem SbO.fr {B b:Nat} {w w' : World} {ov:Value} {ps:List SubV} {τ:Sbs} (h:SbO B (b+1) w ov ps τ) (hf:IFr b w w') (hB:b<B):SbO B (b+1) w' ov ps τ:=
 ⟨h.own.kept hf.kept (fun g hg e=>by have:=h.own.base g hg;omega),h.len,fun i p q h1 h2=>let ⟨a,c,d⟩:=h.rd i p q h1 h2;⟨a,hf.sl GTyItem.good c,d⟩⟩
structure TySl where
 a:Option Addr
 n:Nat
 c:Nat
def TySl.v (p:TySl):Value:=.slice p.a p.n p.c
def tsRow (p:TySl):List Value:=[p.v]
def TySlR:Reading TySl:=fun _ _ r p=>r=tsRow p/\True
theorem flatTySl:Flat TySlR 1 tsRow (fun _=>True):=⟨fun h=>h,fun h _ _=>⟨rfl,h⟩,fun _=>rfl,fun _ u hu=>by simp[tsRow,TySl.v]at hu;subst hu;rfl,by decide⟩
structure ArO (B lo:Nat) (w:World) (ov:Value) (ps:List TySl) (ts:List TyT):Prop where
 own:OwnF 33 1 tsRow (fun _=>True) B w ov ps
 len:ps.length=ts.length
 rd:∀ (i:Nat) p t,ps[i]? = some p->ts[i]? = some t->Sl GTyItem.R 3 lo w p.v (flatY t)/\∀g,ov.ownBlock=some g->p.v.ownBlock≠some g
theorem ArO.below {B lo:Nat} {w w' : World} {ov:Value} {ps:List TySl} {ts:List TyT} (h:ArO B lo w ov ps ts) (hb:Below w.heap.size w w'):ArO B lo w' ov ps ts:=
 ⟨h.own.below hb,h.len,fun i p t h1 h2=>let ⟨a,c⟩:=h.rd i p t h1 h2;⟨a.below GTyItem.good hb,c⟩⟩
theorem ArO.fr {B b:Nat} {w w' : World} {ov:Value} {ps:List TySl} {ts:List TyT} (h:ArO B (b+1) w ov ps ts) (hf:IFr b w w') (hB:b<B):ArO B (b+1) w' ov ps ts:=
 ⟨h.own.kept hf.kept (fun g hg e=>by have:=h.own.base g hg;omega),h.len,fun i p t h1 h2=>let ⟨a,c⟩:=h.rd i p t h1 h2;⟨hf.sl GTyItem.good a,c⟩⟩
theorem ArO.nil {B lo:Nat} {w:World} {ov:Value} (h:OwnF 33 1 tsRow (fun _=>True) B w ov []):ArO B lo w ov [] []:=⟨h,rfl,fun i p t h=>by simp at h⟩
def tysOf (ts:List TyT):List GTy:=ts.map fun t=>⟨flatY t⟩
theorem ArO.sl {B lo:Nat} {w:World} {ov:Value} {ps:List TySl} {ts:List TyT} (h:ArO B lo w ov ps ts) (hlo:lo<=B):Sl GTy.R 1 lo w ov (tysOf ts):=by
 obtain⟨a,c,hv,h1,h2,h3⟩:=h.own.sl flatTySl
 have hl:(tysOf ts).length=ps.length:=by unfold tysOf;rw[List.length_map,h.len]
 rw[<- hl]at hv h1
 refine⟨a,c,hv,h1,h2,fun h0=>?_⟩
 obtain⟨b,off,h4,h5,h6⟩:=h3 (by rw[<- hl];exact h0)
 refine⟨b,off,Nat.le_trans hlo h4,h5,fun i q hq=>?_⟩
 unfold tysOf at hq
 rw[List.getElem?_map]at hq
 obtain⟨t,ht,rfl⟩:=Option.map_eq_some_iff.1 hq
 obtain⟨p,hp⟩ : ∃p,ps[i]? = some p:=⟨_,List.getElem?_eq_getElem (by have:=(List.getElem?_eq_some_iff.1 ht).1;have:=h.len;omega)⟩
 obtain⟨r,⟨rfl,-⟩,h7⟩:=h6 i p hp
 exact⟨_,⟨p.v,rfl,by trivial,(h.rd i p t hp ht).1⟩,h7⟩
theorem sl_block {lo:Nat} {w:World} {v:Value} {t:TyT} (h:Sl GTyItem.R 3 lo w v (flatY t)):∀b,v.ownBlock=some b->lo<=b/\b<w.heap.size:=fun b hb=>by
 obtain⟨a,c,rfl,_,_,h8⟩:=h
 have h0:0<(flatY t).length:=by rw[flatY_len];exact szY_pos t
 obtain⟨b2,off,hl,rfl,h9⟩:=h8 h0
 obtain rfl:b2=b:=by simpa [Value.ownBlock] using hb
 obtain⟨y,hy⟩ : ∃y,(flatY t)[0]? = some y:=⟨_,List.getElem?_eq_getElem h0⟩
 obtain⟨r,⟨rfl,_⟩,h10⟩:=h9 0 y hy
 have:=World.block_lt_of_cell? _ _ (h10 0 _ rfl)
 exact⟨hl,this⟩
theorem ArO.push {B lo g2 cap2 vn:Nat} {w w1 w6:World} {ov:Value} {ps:List TySl} {ts:List TyT} {p:TySl} {t:TyT} (h:ArO B lo w ov ps ts) (hvn:vn=ps.length) (hb:Below w.heap.size w w1)
  (hown:w6.ownsRow B 33 1 (.slice (some ⟨g2,0,none⟩) (vn+1) cap2) (vn+1) (rowsOf tsRow ps++tsRow p)) (hgrow:w1.grownBy w6 ov.ownBlock) (hat:ov.ownBlock=some g2\/w1.heap.size<=g2)
  (hr:Sl GTyItem.R 3 lo w1 p.v (flatY t)) (hne:∀g,ov.ownBlock=some g->p.v.ownBlock≠some g) :
  ArO B lo w6 (.slice (some ⟨g2,0,none⟩) (vn+1) cap2) (ps ++ [p]) (ts ++ [t]):=by
 have k6:=kept_grown hgrow
 have hz:=hb.size
 refine⟨⟨?_,fun x hx=>trivial⟩,by rw[List.length_append,List.length_append,h.len];rfl,fun i p' t' h1 h2=>?_⟩
 ·rw[List.length_append,<- hvn,rowsOf_append,rowsOf_one];exact hown
 ·have hg2:∀ (u:Value),(∀b,u.ownBlock=some b->b<w1.heap.size)->(∀g,ov.ownBlock=some g->u.ownBlock≠some g)->∀g,(Value.slice (some ⟨g2,0,none⟩) (vn+1) cap2).ownBlock=some g->u.ownBlock≠some g:=fun u h3 h4 g hg e=>by
   obtain rfl:g2=g:=by simpa [Value.ownBlock] using hg
   rcases hat with h5|h5
   ·exact h4 g2 h5 e
   ·have:=h3 g2 e;omega
  rcases Nat.lt_trichotomy i ps.length with hi|hi|hi
  ·rw[List.getElem?_append_left hi]at h1
   rw[List.getElem?_append_left (by rw[<- h.len];exact hi)]at h2
   obtain⟨h4,h5⟩:=h.rd i p' t' h1 h2
   have h4':=h4.below GTyItem.good hb
   exact⟨sl_kept2 flatTyItem h4' k6 (fun b hb' e=>h5 b e.symm hb'),hg2 _ (fun b hb'=>(sl_block h4' b hb').2) h5⟩
  ·subst hi
   rw[List.getElem?_append_right (Nat.le_refl _)]at h1
   rw[List.getElem?_append_right (by rw[h.len];exact Nat.le_refl _),<- h.len]at h2
   simp at h1 h2
   subst h1 h2
   exact⟨sl_kept2 flatTyItem hr k6 (fun b hb' e=>hne b e.symm hb'),hg2 _ (fun b hb'=>(sl_block hr b hb').2) hne⟩
  ·rw[List.getElem?_eq_none (by rw[List.length_append];simp;omega)]at h1;cases h1
theorem ArO.kept {S:Nat->Prop} {B lo:Nat} {w w' : World} {ov:Value} {ps:List TySl} {ts:List TyT} (h:ArO B lo w ov ps ts) (hk:Kept S w w') (h1:∀g,ov.ownBlock=some g->¬ S g) (h2:∀ (i:Nat) p,ps[i]? = some p->∀g,p.v.ownBlock=some g->¬ S g):ArO B lo w' ov ps ts:=
 ⟨h.own.kept hk h1,h.len,fun i p t h3 h4=>let ⟨a,c⟩:=h.rd i p t h3 h4;⟨sl_kept2 flatTyItem a hk (h2 i p h3),c⟩⟩
theorem SbO.kept {S:Nat->Prop} {B lo:Nat} {w w' : World} {ov:Value} {ps:List SubV} {τ:Sbs} (h:SbO B lo w ov ps τ) (hk:Kept S w w') (h1:∀g,ov.ownBlock=some g->¬ S g) (h2:∀ (i:Nat) p,ps[i]? = some p->∀g,p.v.ownBlock=some g->¬ S g):SbO B lo w' ov ps τ:=
 ⟨h.own.kept hk h1,h.len,fun i p q h3 h4=>let ⟨a,c,d⟩:=h.rd i p q h3 h4;⟨a,sl_kept2 flatTyItem c hk (h2 i p h3),d⟩⟩
theorem ArO.lt {B lo:Nat} {w:World} {ov:Value} {ps:List TySl} {ts:List TyT} (h:ArO B lo w ov ps ts):∀p∈ps,∀g,p.v.ownBlock=some g->g<w.heap.size:=fun p hp g hg=>by
 obtain⟨i,hi⟩:=List.getElem?_of_mem hp
 obtain⟨t,ht⟩ : ∃t,ts[i]? = some t:=⟨_,List.getElem?_eq_getElem (by have:=(List.getElem?_eq_some_iff.1 hi).1;have:=h.len;omega)⟩
 exact(sl_block (h.rd i p t hi ht).1 g hg).2
theorem SbO.lt {B lo:Nat} {w:World} {ov:Value} {ps:List SubV} {τ:Sbs} (h:SbO B lo w ov ps τ):∀p∈ps,∀g,p.v.ownBlock=some g->g<w.heap.size:=fun p hp g hg=>by
 obtain⟨i,hi⟩:=List.getElem?_of_mem hp
 obtain⟨t,ht⟩ : ∃t,τ[i]? = some t:=⟨_,List.getElem?_eq_getElem (by have:=(List.getElem?_eq_some_iff.1 hi).1;have:=h.len;omega)⟩
 exact(sl_block (h.rd i p t hi ht).2.1 g hg).2
structure TwoO (B lo:Nat) (w:World) (av:Value) (aps:List TySl) (ts:List TyT) (sv:Value) (sps:List SubV) (τ:Sbs):Prop where
 a:ArO B lo w av aps ts
 s:SbO B lo w sv sps τ
 x1:∀g,av.ownBlock=some g->sv.ownBlock≠some g
 x2:∀g,av.ownBlock=some g->∀p∈sps,p.v.ownBlock≠some g
 x3:∀g,sv.ownBlock=some g->∀p∈aps,p.v.ownBlock≠some g
theorem TwoO.fr {B b:Nat} {w w' : World} {av sv:Value} {aps:List TySl} {ts:List TyT} {sps:List SubV} {τ:Sbs} (h:TwoO B (b+1) w av aps ts sv sps τ) (hf:IFr b w w') (hB:b<B):TwoO B (b+1) w' av aps ts sv sps τ:=⟨h.a.fr hf hB,h.s.fr hf hB,h.x1,h.x2,h.x3⟩
theorem TwoO.below {B lo:Nat} {w w' : World} {av sv:Value} {aps:List TySl} {ts:List TyT} {sps:List SubV} {τ:Sbs} (h:TwoO B lo w av aps ts sv sps τ) (hb:Below w.heap.size w w'):TwoO B lo w' av aps ts sv sps τ:=⟨h.a.below hb,h.s.below hb,h.x1,h.x2,h.x3⟩
theorem TwoO.pushA {B lo g2 cap2 vn:Nat} {w w1 w6:World} {av sv:Value} {aps:List TySl} {ts:List TyT} {sps:List SubV} {τ:Sbs} {p:TySl} {t:TyT} (h:TwoO B lo w av aps ts sv sps τ) (hvn:vn=aps.length) (hb:Below w.heap.size w w1)
  (hown:w6.ownsRow B 33 1 (.slice (some ⟨g2,0,none⟩) (vn+1) cap2) (vn+1) (rowsOf tsRow aps++tsRow p)) (hgrow:w1.grownBy w6 av.ownBlock) (hat:av.ownBlock=some g2\/w1.heap.size<=g2)
  (hr:Sl GTyItem.R 3 lo w1 p.v (flatY t)) (hne:∀g,av.ownBlock=some g->p.v.ownBlock≠some g) (hns:∀g,sv.ownBlock=some g->p.v.ownBlock≠some g) :
  TwoO B lo w6 (.slice (some ⟨g2,0,none⟩) (vn+1) cap2) (aps ++ [p]) (ts ++ [t]) sv sps τ:=by
 have hz:=hb.size
 have hsb:=h.s.own.base
 have hsl:=h.s.lt
 have k6:=kept_grown hgrow
 have S1:=h.s.below hb
 have hg2:∀g,(Value.slice (some ⟨g2,0,none⟩) (vn+1) cap2).ownBlock=some g->g=g2:=fun g hg=>by simpa [Value.ownBlock] using hg.symm
 refine⟨h.a.push hvn hb hown hgrow hat hr hne,S1.kept k6 (fun g hg e=>h.x1 g e.symm hg) (fun i q hq g hg e=>h.x2 g e.symm q (List.mem_of_getElem? hq) hg),fun g hg e=>?_,fun g hg q hq e=>?_,fun g hg q hq e=>?_⟩
 ·obtain rfl:=hg2 g hg
  rcases hat with h1|h1
  ·exact h.x1 g h1 e
  ·have:=hsb g e;omega
 ·obtain rfl:=hg2 g hg
  rcases hat with h1|h1
  ·exact h.x2 g h1 q hq e
  ·have:=hsl q hq g e;omega
 ·rcases List.mem_append.1 hq with hq|hq
  ·exact h.x3 g hg q hq e
  ·simp only[List.mem_singleton]at hq;subst hq;exact hns g hg e
theorem TwoO.pushS {B lo g2 cap2 vn:Nat} {w w1 w6:World} {av sv:Value} {aps:List TySl} {ts:List TyT} {sps:List SubV} {τ:Sbs} {p:SubV} {q:Int × TyT} (h:TwoO B lo w av aps ts sv sps τ) (hvn:vn=sps.length) (hb:Below w.heap.size w w1)
  (hown:w6.ownsRow B 119 2 (.slice (some ⟨g2,0,none⟩) (vn+1) cap2) (vn+1) (rowsOf subRow sps++subRow p)) (hgrow:w1.grownBy w6 sv.ownBlock) (hat:sv.ownBlock=some g2\/w1.heap.size<=g2)
  (hk:p.k=q.1) (h64:I64 p.k) (hr:Sl GTyItem.R 3 lo w1 p.v (flatY q.2)) (hne:∀g,sv.ownBlock=some g->p.v.ownBlock≠some g) (hna:∀g,av.ownBlock=some g->p.v.ownBlock≠some g) :
  TwoO B lo w6 av aps ts (.slice (some ⟨g2,0,none⟩) (vn+1) cap2) (sps ++ [p]) (τ ++ [q]):=by
 have hz:=hb.size
 have hab:=h.a.own.base
 have hal:=h.a.lt
 have k6:=kept_grown hgrow
 have A1:=h.a.below hb
 have hg2:∀g,(Value.slice (some ⟨g2,0,none⟩) (vn+1) cap2).ownBlock=some g->g=g2:=fun g hg=>by simpa [Value.ownBlock] using hg.symm
 refine⟨A1.kept k6 (fun g hg e=>h.x1 g hg e.symm) (fun i u hu g hg e=>h.x3 g e.symm u (List.mem_of_getElem? hu) hg),h.s.push hvn hb hown hgrow hat hk h64 hr (fun b hb'=>(sl_block hr b hb').2) hne,fun g hg e=>?_,fun g hg u hu e=>?_,fun g hg u hu e=>?_⟩
 ·obtain rfl:=hg2 g e
  rcases hat with h1|h1
  ·exact h.x1 g hg h1
  ·have:=hab g hg;omega
 ·rcases List.mem_append.1 hu with hu|hu
  ·exact h.x2 g hg u hu e
  ·simp only[List.mem_singleton]at hu;subst hu;exact hna g hg e
 ·obtain rfl:=hg2 g hg
  rcases hat with h1|h1
  ·exact h.x3 g h1 u hu e
  ·have:=hal u hu g e;omega
def TyMem (b:Nat) (P0:Value) (T:List GType) (w:World):Prop:=∃w0:World,Sl GType.R 3 0 w0 P0 T/\w0.heap.size<=b/\Below w0.heap.size w0 w
theorem TyMem.fr {b:Nat} {P0:Value} {T:List GType} {w w' : World} (h:TyMem b P0 T w) (hf:IFr b w w'):TyMem b P0 T w':=let ⟨w0,h1,h2,h3⟩:=h;⟨w0,h1,h2,h3.trans (hf.below.mono h2)⟩
theorem TyMem.below {b:Nat} {P0:Value} {T:List GType} {w w' : World} (h:TyMem b P0 T w) (hf:Below w.heap.size w w') (hb:b<=w.heap.size):TyMem b P0 T w':=h.fr (IFr.of hf hb)
theorem TyMem.of {b:Nat} {P0:Value} {T:List GType} {w:World} (h:Sl GType.R 3 0 w P0 T) (w1:World) (hw:Below w.heap.size w w1) (hb:w.heap.size<=b):TyMem b P0 T w1:=⟨w,h,hb,hw⟩
end Go.Proofs.YtkikkfjmggobpaaGreat
