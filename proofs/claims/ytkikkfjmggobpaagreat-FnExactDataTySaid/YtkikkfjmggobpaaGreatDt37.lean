/- Parts of the proof, merged: DtLaw, Open, Opens. -/
import Derived.Deep.RegionHeld3
import Derived.Deep.Slices
import Derived.OpenShut
import Derived.Test.YtkikkfjmggobpaaGreatRows
import Derived.Test.YtkikkfjmggobpaaGreatDt36
namespace Go.Proofs.YtkikkfjmggobpaaGreat
open Go.RowKit
set_option linter.unusedVariables false
set_option linter.unusedSimpArgs false
attribute [local go_sem] Ext.cell
namespace fnExactDataTy
set_option maxRecDepth 100000 in
set_option maxHeartbeats 16000000 in
theorem law (x0:GProgram) (r0:List Value) (x1:GData) (r1:List Value) (w:World) (hx0:GProgram.R 0 w r0 x0) (hx1:GData.R 0 w r1 x1) :
  Calls Tryz.prog 3 #[.agg r0.toArray,.agg r1.toArray] w fun en w'=>en=.returned (.bool true)/\Below w.heap.size w w':=by
 have Hx0:=hx0
 obtain⟨u0,u1,rfl,-,a0,a1⟩:=hx0
 obtain⟨ua,uc,rfl⟩:=a0.form
 obtain⟨va,vc,rfl⟩:=a1.form
 have Hx1:=hx1
 obtain⟨u2,rfl,-,a2⟩:=hx1
 obtain⟨da,dc,rfl⟩:=a2.form
 clear a0 a1 a2
 have z0:=GProgram.bulk_nonneg x0
 have z1:=GData.bulk_nonneg x1
 go_enter Tryz.func3,Tryz.ntmps3
 go_upto_region 1 with fail
 have B:RowAt (w.alloc (.cells #[.slice ua x0.types.length uc,.slice va x0.nodes.length vc] 25)) (w.heap.size) 0 [.slice ua x0.types.length uc,.slice va x0.nodes.length vc]:=RowAt.box w #[.slice ua x0.types.length uc,.slice va x0.nodes.length vc] 25
 have B:=B.below (show Below (w.alloc (.cells #[.slice ua x0.types.length uc,.slice va x0.nodes.length vc] 25)).heap.size (w.alloc (.cells #[.slice ua x0.types.length uc,.slice va x0.nodes.length vc] 25)) ((w.alloc (.cells #[.slice ua x0.types.length uc,.slice va x0.nodes.length vc] 25)).alloc (.cells #[.slice da x1.nodes.length dc] 28)) by go_grown)
 have D:RowAt ((w.alloc (.cells #[.slice ua x0.types.length uc,.slice va x0.nodes.length vc] 25)).alloc (.cells #[.slice da x1.nodes.length dc] 28)) (w.heap.size+1) 0 [.slice da x1.nodes.length dc]:=by have h:=RowAt.box (w.alloc (.cells #[.slice ua x0.types.length uc,.slice va x0.nodes.length vc] 25)) #[.slice da x1.nodes.length dc] 28;simp only[World.size_alloc]at h;exact h
 have hw:Below w.heap.size w ((w.alloc (.cells #[.slice ua x0.types.length uc,.slice va x0.nodes.length vc] 25)).alloc (.cells #[.slice da x1.nodes.length dc] 28)):=by go_grown
 generalize ((w.alloc (.cells #[.slice ua x0.types.length uc,.slice va x0.nodes.length vc] 25)).alloc (.cells #[.slice da x1.nodes.length dc] 28))=w0 at *
 obtain⟨b_0,b_1⟩:=B.box2;have hsB:=bLt b_0;have d_0:=D.box1;have hsD:=bLt d_0
 go_wp2_with fail
 refine(szProgram_c x0 _ 0 _ (by omega) (by omega) _ (GProgram.good.below Hx0 hw)).mono ?_
 rintro en w1 ⟨n1,rfl,(⟨g0,rfl⟩|⟨g0,rfl⟩),hb⟩
 rotate_left
 ·replace hw:Below w.heap.size w w1:=hw.trans (hb.mono hw.size)
  go_wp2
  go_returns
  exact⟨rfl,hw⟩
 have hw:=hw.trans (hb.mono hw.size);have B:=B.below hb;obtain⟨b_0,b_1⟩:=B.box2;have hsB:=bLt b_0;have D:=D.below hb;have d_0:=D.box1;have hsD:=bLt d_0;clear hb
 have hd:(decide ((1048576:Int)-x0.bulk<0))=false:=decide_eq_false (by omega)
 obtain⟨lf,hlf⟩ : ∃z,z=(1048576:Int)-x0.bulk:=⟨_,rfl⟩
 rw[<- hlf]at hd ⊢
 have hl1:0<=lf:=by omega
 have hl2:lf<=1048576:=by omega
 replace hlf:=kH hlf
 go_wp2_with fail
 refine(szData_c x1 _ 0 _ (by omega) (by omega) _ (GData.good.below Hx1 hw)).mono ?_
 rintro en w2 ⟨n2,rfl,(⟨g1,rfl⟩|⟨g1,rfl⟩),hb⟩
 rotate_left
 ·replace hw:Below w.heap.size w w2:=hw.trans (hb.mono hw.size)
  clear g1
  go_wp2
  go_returns
  exact⟨rfl,hw⟩
 have hw:=hw.trans (hb.mono hw.size);have B:=B.below hb;obtain⟨b_0,b_1⟩:=B.box2;have hsB:=bLt b_0;have D:=D.below hb;have d_0:=D.box1;have hsD:=bLt d_0;clear hb
 have hlf:=hlf.out
 have hd2:(decide (lf-x1.bulk<0))=false:=decide_eq_false (by omega)
 have g1' : x1.bulk<=1048576:=by omega
 obtain⟨hcnt,hlT,hlN,hsm⟩:=progCnt_ok g0
 obtain⟨hk0,hl0⟩:=dataCnt_ok g1'
 have hboth:=both_cnt g0 g1'
 have hcc:=data_lenD g1'
 have cT:=fun W (hW:Below w.heap.size w W)=>toProgram_o x0 _ 0 g0 W (GProgram.good.below Hx0 hW)
 have cU:=fun W (hW:Below w.heap.size w W)=>toData_o x1 _ 0 g1' W (GData.good.below Hx1 hW)
 have cI:=fun(r s:List Value) (W:World) (hp:GProgram.R 0 W r x0) (hr:GData.R 0 W s x1)=>implDataTy_c x0 x1 hsm hcc r s W hp hr
 have cS:=fun(r s:List Value) (W:World) (hp:GProgram.R 0 W r x0) (hr:GData.R 0 W s x1)=>specDataTy_c x0 x1 hsm hcc r s W hp hr
 have hy:=dtyP_len x0 x1
 unfold DtyPost at cI cS
 obtain⟨y,hyq⟩ : ∃y,y=(dtyP x0 x1).1:=⟨_,rfl⟩
 obtain⟨cc,hcq⟩ : ∃y,y=(dtyP x0 x1).2:=⟨_,rfl⟩
 rw[<- hyq]at cI cS hy
 rw[<- hcq]at cI cS
 clear hyq hcq
 generalize hz2:lf-x1.bulk=n2 at *
 clear hz2 hlf hl1 hl2 z0 z1 g0 g1 g1' hsm hcc hd
 obtain⟨kx,hkx⟩ : ∃k:Nat,k=1+cntL cntType x0.types+cntL cntNode x0.nodes:=⟨_,rfl⟩
 have cM:=fun(bs:List Nat) (r:List Value) (lo:Nat) W hS hnd hlo hlw=>markProgram_c x0 r bs 1 lo W hS hnd hlo hlw hcnt hlT hlN
 rw[<- hkx]at cM hboth
 obtain⟨k2,hk2⟩ : ∃k:Nat,k=kx+cntData x1:=⟨_,rfl⟩
 have cN:=fun(bs:List Nat) (r:List Value) (lo:Nat) W hS hnd hlo hlw=>markDataO_c r bs kx lo _ rfl x1 W hS hnd hlo hlw hboth hl0
 rw[<- hk2]at cN
 have dk:decide ((k2:Int)<0)=false:=decide_eq_false (by omega)
 obtain⟨ny,hny⟩ : ∃n,n=y.length:=⟨_,rfl⟩
 have sy:∀ (lo:Nat) (W:World) (v:Value),OwnT lo W v y->∃a c,v=.slice a ny c:=fun _ _ _ h=>by obtain⟨a,c,rfl⟩:=h.form;rw[hny];exact⟨a,c,rfl⟩
 obtain⟨m2,hm2⟩ : ∃k:Nat,k=1+cntL cntTyItem y:=⟨_,rfl⟩
 have cMy:=fun(v:Value) (lo:Nat) W h hlo=>markTy_c y hy v lo W h hlo
 have cHy:=fun(v:Value) W h=>heldTy_c y hy v W h
 rw[<- hm2]at cMy cHy
 have dm:decide ((m2:Int)<0)=false:=decide_eq_false (by omega)
 have cE:=fun(u v:Value) (lo lo' : Nat) W (h1:Sl GTyItem.R 3 lo W u y) (h2:Sl GTyItem.R 3 lo' W v y)=>eqTy_eqD y u v lo lo' W h1 h2
 have cEp:=fun(r r2:List Value) (lo lo2:Nat) W (hr:GProgram.R lo W r x0) (hr2:GProgram.R lo2 W r2 x0)=>eqProgram_eqD x0 r r2 lo lo2 W hr hr2
 have cEd:=fun(r r2:List Value) (lo lo2:Nat) W (hr:GData.R lo W r x1) (hr2:GData.R lo2 W r2 x1)=>eqData_eqD x1 r r2 lo lo2 W hr hr2
 have e1:(cc != cc)=false:=by simp
 have e2:((m2:Int) != (m2:Int))=false:=by simp
 generalize hnt:x0.types.length=nt at *
 generalize hnn:x0.nodes.length=nn at *
 generalize hnd:x1.nodes.length=nd at *
 have Pform:∀ {bs:List Nat} {W:World} {r:List Value},GProgram.O bs W r x0->∃a c a' c',r=[.slice a nt c,.slice a' nn c']:=fun h=>by
  obtain⟨v0,p0,v1,p1,rfl,-,-,s0,s1⟩:=h
  obtain⟨a,c,rfl⟩:=s0.form
  obtain⟨a',c',rfl⟩:=s1.form
  rw[hnt,hnn];exact⟨a,c,a',c',rfl⟩
 have Dform:∀ {bs:List Nat} {W:World} {r:List Value},GData.O bs W r x1->∃a c,r=[.slice a nd c]:=fun h=>by
  obtain⟨v0,rfl,-,s0⟩:=h
  obtain⟨a,c,rfl⟩:=s0.form
  rw[hnd];exact⟨a,c,rfl⟩
 replace cT:=kH cT;replace cU:=kH cU;replace cS:=kH cS;replace cI:=kH cI;replace cM:=kH cM;replace cN:=kH cN;replace cMy:=kH cMy;replace cHy:=kH cHy;replace sy:=kH sy;replace cE:=kH cE;replace cEp:=kH cEp;replace cEd:=kH cEd
 replace hkx:=kH hkx;replace hk2:=kH hk2;replace hm2:=kH hm2;replace hny:=kH hny;replace hlT:=kH hlT;replace hlN:=kH hlN;replace hcnt:=kH hcnt;replace hk0:=kH hk0;replace hl0:=kH hl0;replace hboth:=kH hboth;replace Hx0:=kH Hx0;replace Hx1:=kH Hx1;replace hy:=kH hy;replace hnt:=kH hnt;replace hnn:=kH hnn;replace hnd:=kH hnd
 -- the reference's result
 go_upto_region 8 with fail
 have hz0:=hw.size
 go_cut [6,7] (fun s6 s7 wx=>∃ (g:Nat) (a:Option Addr) (c:Nat),s6=.pointer (some ⟨g,0,none⟩)/\s7=.int .i64 cc/\RowAt wx g 0 [.slice a ny c]/\g<wx.heap.size/\OwnT w2.heap.size wx (.slice a ny c) y/\Below w2.heap.size w2 wx)
 case first=>
  go_region_held3 (fun w'=>w'.cell? ⟨w.heap.size,0,none⟩=some (.slice ua nt uc)/\w'.cell? ⟨w.heap.size,1,none⟩=some (.slice va nn vc)/\w'.cell? ⟨w.heap.size+1,0,none⟩=some (.slice da nd dc)) (first|exact⟨b_0,b_1,d_0⟩|exact⟨x_0,x_1,y_0⟩|exact⟨(B5.set_other hX1.out _).box2.1,(B5.set_other hX1.out _).box2.2,(D5.set_other hX2.out _).box1⟩|go_keep)
   (first
    |(go_at_call 7;(with_reducible refine(cT.out _ (hw.trans (by go_grown))).mono ?_);rintro en w3 ⟨rt,bt,rfl,OT,-,fT,hb⟩;have h23:Below w2.heap.size w2 w3:=(show Below w2.heap.size w2 _ by go_grown).trans (hb.mono (by go_grown));have hz3:=h23.size;(first|(have BX:=(RowAt.box w2 #[.slice none 0 0] 33).below ((Below.refl _ _).drew.trans hb);have BXW:=(Wr.box w2 #[.slice none 0 0] 33).below ((Below.refl _ _).drew.trans hb);obtain⟨gx,hgx⟩ : ∃g,g=w2.heap.size:=⟨_,rfl⟩;rw[<- hgx]at BX BXW ⊢;have hX1:w.heap.size≠gx:=(by omega);have hX2:w.heap.size+1≠gx:=(by omega);replace hX1:=kH hX1;have hX3:w2.heap.size<=gx:=(by omega);replace hX2:=kH hX2;replace hgx:=kH hgx)|skip);have B3:=B.below h23;have D3:=D.below h23;obtain⟨x_0,x_1⟩:=B3.box2;have y_0:=D3.box1;clear hb)
    |(go_at_call 8;(with_reducible refine(cU.out _ ((hw.trans (h23.mono hz0)).trans (by go_grown))).mono ?_);rintro en w4 ⟨rd,bd,rfl,OD,-,fD,hb⟩;have h34:Below w3.heap.size w3 w4:=(show Below w3.heap.size w3 _ by go_grown).trans (hb.mono (by go_grown));have hz4:=h34.size;have hz24:=Nat.le_trans hz3 hz4;(first|(have BX:=BX.below hb;have BXW:=BXW.below hb)|(have BX:=(RowAt.box w3 #[.slice none 0 0] 33).below hb;have BXW:=(Wr.box w3 #[.slice none 0 0] 33).below hb;obtain⟨gx,hgx⟩ : ∃g,g=w3.heap.size:=⟨_,rfl⟩;rw[<- hgx]at BX BXW ⊢;have hX1:w.heap.size≠gx:=(by omega);have hX2:w.heap.size+1≠gx:=(by omega);replace hX1:=kH hX1;have hX3:w2.heap.size<=gx:=(by omega);replace hX2:=kH hX2;replace hgx:=kH hgx)|skip);have B4:=B3.below h34;have D4:=D3.below h34;obtain⟨x_0,x_1⟩:=B4.box2;have y_0:=D4.box1;have h24:=h23.trans (h34.mono hz3);have RT:=kH (GProgram.ok.read (GProgram.ok.below OT h34) (fun _ _=>Nat.zero_le _));have RD:=kH (GData.ok.read OD (fun _ _=>Nat.zero_le _));clear hb OT OD fT fD)
    |(go_at_call 6;(with_reducible refine(cS.out _ _ _ (GProgram.good.below RT.out (by go_grown)) (GData.good.below RD.out (by go_grown))).mono ?_);rintro en w5 ⟨vs,rfl,S,hb⟩;have h45:Below w4.heap.size w4 w5:=(show Below w4.heap.size w4 _ by go_grown).trans (hb.mono (by go_grown));have hz5:=h45.size;have hSb:=S.base;have S:=S.mono (show w2.heap.size<=_ by((try simp only[World.size_alloc,World.size_drew]);omega));(first|(have hg4:=World.block_lt_of_cell? _ _ BX.box1;dsimp only at hg4;have BX:=BX.below hb;have BXW:=BXW.below hb)|(have BX:=(RowAt.box w4 #[.slice none 0 0] 33).below hb;have BXW:=(Wr.box w4 #[.slice none 0 0] 33).below hb;obtain⟨gx,hgx⟩ : ∃g,g=w4.heap.size:=⟨_,rfl⟩;rw[<- hgx]at BX BXW ⊢;have hX1:w.heap.size≠gx:=(by omega);have hX2:w.heap.size+1≠gx:=(by omega);replace hX1:=kH hX1;have hX3:w2.heap.size<=gx:=(by omega);replace hX2:=kH hX2;replace hgx:=kH hgx)|skip);(try (have hSg:∀g,vs.ownBlock=some g->g≠gx:=(fun g hg=>by have h1:=(hSb g hg).1;(try simp only[World.size_alloc,World.size_drew]at h1);(try (have h2:=hgx.out));omega);replace hSg:=kH hSg));clear hSb;(try (have bx_0:=BX.box1;have bxf:=BXW.frz0 (by decide)));obtain⟨sa,sc,rfl⟩:=sy.out _ _ _ S;have B5:=B4.below h45;have D5:=D4.below h45;obtain⟨x_0,x_1⟩:=B5.box2;have y_0:=D5.box1;have h25:=h24.trans (h45.mono h24.size);clear hb))
  all_goals (go_wp2_with fail;go_meet)
  all_goals first
   |exact⟨w5.heap.size,sa,sc,rfl,rfl,RowAt.box w5 #[_] _,by simp,S.below (by go_grown),h25.trans (by go_grown)⟩
   |exact⟨gx,sa,sc,rfl,rfl,BX.putAt (j:=0) (by simp) _,by have:=World.block_lt_of_cell? _ _ bx_0;simpa using this,S.set_other (p:=⟨gx,0,none⟩) hSg.out _,h25.setCell (p:=⟨gx,0,none⟩) hX3 _⟩
 obtain⟨b4,sa,sc,rfl,rfl,W4,hb4,S4,h24⟩:=hcut
 obtain⟨w4,rfl⟩ : ∃q,q=wc:=⟨_,rfl⟩
 have hw4:=hw.trans (h24.mono hz0)
 have B4:=B.below h24
 have D4:=D.below h24
 have hSb:=S4.base
 have hz4:=hw4.size
 have hsB4:w.heap.size<w4.heap.size:=by have:=h24.size;omega
 have hsD4:w.heap.size+1<w4.heap.size:=by have:=h24.size;omega
 clear b_0 b_1 d_0 hsB hsD hz0 B D h24 hw
 replace S4:=kH S4;replace hSb:=kH hSb
 obtain⟨b4_0,b4_1⟩:=B4.box2;have hsB4:=bLt b4_0;have d4_0:=D4.box1;have hsD4:=bLt d4_0
 -- the arguments' copies
 go_upto_region 10 with(go_at_call 7;(with_reducible refine(cT.out _ hw4).mono ?_);rintro en w5 ⟨rx,bx,rfl,OX,ndX,fX,hb5⟩;obtain⟨xa,xc,xa',xc',rfl⟩:=Pform OX)
 have ltX:=GProgram.ok.lt OX
 obtain⟨w6,hW6⟩ : ∃W,W=w5.alloc (.cells #[.slice xa nt xc,.slice xa' nn xc'] 39):=⟨_,rfl⟩
 rw[<- hW6]
 have hb6:Below w5.heap.size w5 w6:=by rw[hW6];go_grown
 have X:RowAt w6 w5.heap.size 0 [.slice xa nt xc,.slice xa' nn xc']:=by rw[hW6];exact RowAt.box w5 #[_,_] _
 have hs6:w5.heap.size<w6.heap.size:=by rw[hW6];simp
 have F6:Below w4.heap.size w4 w6:=hb5.trans (hb6.mono hb5.size)
 have OX:=GProgram.ok.below OX hb6
 have hz5:=hb5.size
 obtain⟨b5,hb5'⟩ : ∃x,x=w5.heap.size:=⟨_,rfl⟩
 rw[<- hb5']at X hs6 ltX hz5 ⊢
 clear hW6 hb6 hb5 b4_0 b4_1 d4_0 hsB4 hsD4
 replace OX:=kH OX;replace ndX:=kH ndX;replace fX:=kH fX;replace ltX:=kH ltX;replace hb5':=kH hb5'
 have hw6:=hw4.trans (F6.mono hw4.size)
 have D6:=D4.below F6
 have d6_0:=D6.box1;have hsD6:=bLt d6_0
 go_upto_region 11 with(go_at_call 8;(with_reducible refine(cU.out _ hw6).mono ?_);rintro en w7 ⟨ry,by',rfl,OY,ndY,fY,hb7⟩;obtain⟨ya,yc,rfl⟩:=Dform OY)
 have ltY:=GData.ok.lt OY
 obtain⟨w8,hW8⟩ : ∃W,W=w7.alloc (.cells #[.slice ya nd yc] 43):=⟨_,rfl⟩
 rw[<- hW8]
 have hb8:Below w7.heap.size w7 w8:=by rw[hW8];go_grown
 have Y:RowAt w8 w7.heap.size 0 [.slice ya nd yc]:=by rw[hW8];exact RowAt.box w7 #[_] _
 have hs8:w7.heap.size<w8.heap.size:=by rw[hW8];simp
 have F68:Below w6.heap.size w6 w8:=hb7.trans (hb8.mono hb7.size)
 have OY:=GData.ok.below OY hb8
 have hz7:=hb7.size
 obtain⟨b7,hb7'⟩ : ∃x,x=w7.heap.size:=⟨_,rfl⟩
 rw[<- hb7']at Y hs8 ltY hz7 ⊢
 have F8:=F6.trans (F68.mono F6.size)
 have OX8:=kH (GProgram.ok.below OX.out F68)
 have X8:=X.below F68
 have hw8:=hw4.trans (F8.mono hw4.size)
 have h68:=F68.size
 clear hW8 hb8 hb7 d6_0 hsD6 D6 X OX F68
 replace ndY:=kH ndY;replace fY:=kH fY;replace ltY:=kH ltY;replace hb7':=kH hb7'
 have RX:=kH (GProgram.ok.read OX8.out (fun _ _=>Nat.zero_le _))
 have RY:=kH (GData.ok.read OY (fun _ _=>Nat.zero_le _))
 replace OY:=kH OY
 obtain⟨x8_0,x8_1⟩:=X8.box2;have hsX8:=bLt x8_0;have y_0:=Y.box1;have hsY:=bLt y_0
 -- the program's result
 go_upto_region 12 with(go_at_call 9;(with_reducible refine(cI.out _ _ _ RX.out RY.out).mono ?_);rintro en w9 ⟨vg,rfl,G,hb9⟩;obtain⟨ga,gc,rfl⟩:=sy.out _ _ _ G)
 have hGb:=G.base
 obtain⟨w10,hW10⟩ : ∃W,W=w9.alloc (.cells #[.slice ga ny gc] 33):=⟨_,rfl⟩
 rw[<- hW10]
 have hb10:Below w9.heap.size w9 w10:=by rw[hW10];go_grown
 have A:RowAt w10 w9.heap.size 0 [.slice ga ny gc]:=by rw[hW10];exact RowAt.box w9 #[_] _
 have hs10:w9.heap.size<w10.heap.size:=by rw[hW10];simp
 have hz9:=hb9.size
 obtain⟨b9,hb9'⟩ : ∃x,x=w9.heap.size:=⟨_,rfl⟩
 have F810:Below w8.heap.size w8 w10:=hb9.trans (hb10.mono hb9.size)
 have G:=G.below hb10
 rw[<- hb9']at A hs10 hz9 hGb ⊢
 have F10:=F8.trans (F810.mono F8.size)
 have X10:=X8.below F810
 have Y10:=Y.below F810
 have OX10:=kH (GProgram.ok.below OX8.out F810)
 have OY10:=kH (GData.ok.below OY.out F810)
 have hw10:=hw4.trans (F10.mono hw4.size)
 have h8z:=F8.size
 clear hW10 hb10 hb9 x8_0 x8_1 y_0 hsX8 hsY X8 Y RX RY OX8 OY F810
 replace G:=kH G;replace hGb:=kH hGb;replace hb9':=kH hb9'
 have W10:=W4.below F10
 have a_0:=A.box1;have hsA:=bLt a_0;have w10_0:=W10.box1;have hsW10:=bLt w10_0
 go_upto_region 14 with(go_at_call 10;(with_reducible refine(cE.out _ _ _ _ _ (G.out.sl flatTyItem) ((S4.out.below F10).sl flatTyItem)).mono ?_);rintro en w11 ⟨rfl,hb11⟩)
 have F11:=F10.trans (hb11.mono F10.size)
 have X11:=X10.below hb11
 have Y11:=Y10.below hb11
 have OX11:=kH (GProgram.ok.below OX10.out hb11)
 have OY11:=kH (GData.ok.below OY10.out hb11)
 have G11:=kH (G.out.below hb11)
 have A11:=A.below hb11
 have hz11:=hb11.size
 have hw11:=hw4.trans (F11.mono hw4.size)
 clear hb11 X10 Y10 OX10 OY10 G A a_0 hsA w10_0 hsW10 W10
 have B11:=B4.below F11
 obtain⟨b11_0,b11_1⟩:=B11.box2;have hsB11:=bLt b11_0;obtain⟨x11_0,x11_1⟩:=X11.box2;have hsX11:=bLt x11_0
 -- the arguments are as they were
 go_cut [58] (fun sx wx=>sx=.bool false/\Below w11.heap.size w11 wx)
 case first=>
  go_region_held3 (fun w'=>w'.cell? ⟨b5,0,none⟩=some (.slice xa nt xc)/\w'.cell? ⟨b5,1,none⟩=some (.slice xa' nn xc')/\w'.cell? ⟨w.heap.size,0,none⟩=some (.slice ua nt uc)/\w'.cell? ⟨w.heap.size,1,none⟩=some (.slice va nn vc)) (first|exact⟨x11_0,x11_1,b11_0,b11_1⟩|go_keep)
   (first
    |(go_at_call 7;(with_reducible refine(cT.out _ (hw11.trans (by go_grown))).mono ?_);rintro en w12 ⟨rt,bt,rfl,OT,-,fT,hb12⟩;have hb12' : Below w11.heap.size w11 w12:=(show Below w11.heap.size w11 w11.drew by go_grown).trans (hb12.mono (by go_grown));have RT:=kH (GProgram.ok.read OT fT);have X12:=X11.below hb12';have B12:=B11.below hb12';obtain⟨x12_0,x12_1⟩:=X12.box2;have hsX12:=bLt x12_0;obtain⟨b12_0,b12_1⟩:=B12.box2;have hsB12:=bLt b12_0;clear OT fT hb12)
    |(go_at_call 11;(with_reducible refine(cEp.out _ _ _ _ _ (GProgram.ok.read (GProgram.ok.below OX11.out hb12') fX.out) RT.out).mono ?_);rintro en w13 ⟨rfl,hb13⟩;have hb113:Below w11.heap.size w11 w13:=hb12'.trans (hb13.mono hb12'.size);have X13:=X11.below hb113;have B13:=B11.below hb113;obtain⟨x13_0,x13_1⟩:=X13.box2;have hsX13:=bLt x13_0;obtain⟨b13_0,b13_1⟩:=B13.box2;have hsB13:=bLt b13_0))
  all_goals (go_wp2_with fail;go_meet)
  all_goals exact⟨by first|rfl|(simp;done),hb113⟩
 obtain⟨rfl,hb⟩:=hcut
 obtain⟨w13,rfl⟩ : ∃q,q=wc:=⟨_,rfl⟩
 have F13:=F11.trans (hb.mono F11.size)
 have X13:=X11.below hb
 have Y13:=Y11.below hb
 have OX13:=kH (GProgram.ok.below OX11.out hb)
 have OY13:=kH (GData.ok.below OY11.out hb)
 have G13:=kH (G11.out.below hb)
 have A13:=A11.below hb
 have hz13:=hb.size
 have hw13:=hw4.trans (F13.mono hw4.size)
 clear hb X11 Y11 OX11 OY11 G11 A11 B11 b11_0 b11_1 hsB11 x11_0 x11_1 hsX11
 have D13:=D4.below F13
 have d13_0:=D13.box1;have hsD13:=bLt d13_0;have y13_0:=Y13.box1;have hsY13:=bLt y13_0
 go_upto_region 16 with fail
 go_cut [63] (fun sx wx=>sx=.bool false/\Below w13.heap.size w13 wx)
 case first=>
  go_region_held3 (fun w'=>w'.cell? ⟨b7,0,none⟩=some (.slice ya nd yc)/\w'.cell? ⟨w.heap.size+1,0,none⟩=some (.slice da nd dc)) (first|exact⟨y13_0,d13_0⟩|go_keep)
   (first
    |(go_at_call 8;(with_reducible refine(cU.out _ (hw13.trans (by go_grown))).mono ?_);rintro en w14 ⟨rt,bt,rfl,OT,-,fT,hb14⟩;have hb14' : Below w13.heap.size w13 w14:=(show Below w13.heap.size w13 w13.drew by go_grown).trans (hb14.mono (by go_grown));have RT:=kH (GData.ok.read OT fT);have Y14:=Y13.below hb14';have D14:=D13.below hb14';have y14_0:=Y14.box1;have hsY14:=bLt y14_0;have d14_0:=D14.box1;have hsD14:=bLt d14_0;clear OT fT hb14)
    |(go_at_call 12;(with_reducible refine(cEd.out _ _ _ _ _ (GData.ok.read (GData.ok.below OY13.out hb14') fY.out) RT.out).mono ?_);rintro en w15 ⟨rfl,hb15⟩;have hb135:Below w13.heap.size w13 w15:=hb14'.trans (hb15.mono hb14'.size);have Y15:=Y13.below hb135;have D15:=D13.below hb135;have y15_0:=Y15.box1;have hsY15:=bLt y15_0;have d15_0:=D15.box1;have hsD15:=bLt d15_0))
  all_goals (go_wp2_with fail;go_meet)
  all_goals exact⟨by first|rfl|(simp;done),hb135⟩
 obtain⟨rfl,hb⟩:=hcut
 obtain⟨w15,rfl⟩ : ∃q,q=wc:=⟨_,rfl⟩
 have F15:=F13.trans (hb.mono F13.size)
 have X15:=X13.below hb
 have Y15:=Y13.below hb
 have OX15:=kH (GProgram.ok.below OX13.out hb)
 have OY15:=kH (GData.ok.below OY13.out hb)
 have G15:=kH (G13.out.below hb)
 have A15:=A13.below hb
 have hz15:=hb.size
 clear hb X13 Y13 OX13 OY13 G13 A13 D13 d13_0 hsD13 y13_0 hsY13
 have h4z:=F15.size
 -- the copies' marks
 have hnx:∀b,b∈bx->w4.heap.size<=b/\b<b5:=fun b h=>⟨fX.out b h,ltX.out b h⟩
 have hny2:∀b,b∈by'->w6.heap.size<=b/\b<b7:=fun b h=>⟨fY.out b h,ltY.out b h⟩
 replace hnx:=kH hnx;replace hny2:=kH hny2
 have cM1:Calls Tryz.prog 13 #[.agg #[.slice xa nt xc,.slice xa' nn xc'],.int .i64 1] w15 fun e w'=>e=.returned (.int .i64 (kx:Int))/\Kept (·∈bx) w15 w'/\Below w4.heap.size w15 w':=cM.out bx _ w4.heap.size w15 OX15.out ndX.out fX.out (by omega)
 replace cM1:=kH cM1
 obtain⟨x15_0,x15_1⟩:=X15.box2;have hsX15:=bLt x15_0
 go_upto_region 20 with(go_at_call 13;(with_reducible refine(cM1.out).mono ?_);rintro en w16 ⟨rfl,hK,hb⟩)
 have F16:=F15.trans hb
 have Y16:=Y15.kept hK (fun h=>by have:=hnx.out _ h;omega)
 have OY16:=kH (GData.ok.kept OY15.out hK (fun b h1 h2=>by have:=hnx.out _ h2;have:=hny2.out _ h1;omega))
 have G16:=kH (G15.out.kept hK (fun g hg h=>by have h1:=hGb.out g hg;have h2:=hnx.out g h;omega))
 have A16:=A15.kept hK (fun h=>by have:=hnx.out _ h;omega)
 have hz16:=F16.size
 clear hK hb cM1 OX15 x15_0 x15_1 hsX15 X15 Y15 OY15 G15 A15
 have h46:=F6.size
 have cN1:Calls Tryz.prog 14 #[.agg #[.slice ya nd yc],.int .i64 (kx:Int)] w16 fun e w'=>e=.returned (.int .i64 (k2:Int))/\GData.O by' w' [.slice ya nd yc] (mkData kx x1)/\Kept (·∈by') w16 w'/\Below w4.heap.size w16 w':=cN.out by' _ w4.heap.size w16 OY16.out ndY.out (fun b h=>by have:=fY.out b h;omega) hz16
 replace cN1:=kH cN1
 have y16_0:=Y16.box1;have hsY16:=bLt y16_0
 go_upto_region 21 with(go_at_call 14;(with_reducible refine(cN1.out).mono ?_);rintro en w17 ⟨rfl,-,hK,hb⟩)
 have F17:=F16.trans hb
 have G17:=kH (G16.out.kept hK (fun g hg h=>by have h1:=hGb.out g hg;have h2:=hny2.out g h;omega))
 have A17:=A16.kept hK (fun h=>by have:=hny2.out _ h;omega)
 have hz17:=F17.size
 clear hK hb cN1 OY16 y16_0 hsY16 Y16 G16 A16
 have W17:=W4.below F17
 have a17_0:=A17.box1;have hsA17:=bLt a17_0;have w17_0:=W17.box1;have hsW17:=bLt w17_0
 go_upto_region 23 with(go_at_call 10;(with_reducible refine(cE.out _ _ _ _ _ (G17.out.sl flatTyItem) ((S4.out.below F17).sl flatTyItem)).mono ?_);rintro en w18 ⟨rfl,hb⟩)
 have F18:=F17.trans (hb.mono F17.size)
 have G18:=kH (G17.out.below hb)
 have A18:=A17.below hb
 have hz18:=hb.size
 clear hb G17 A17 a17_0 hsA17 w17_0 hsW17 W17
 have a18_0:=A18.box1;have hsA18:=bLt a18_0
 -- the result's marks
 have cM2:Calls Tryz.prog 15 #[.agg #[.slice ga ny gc],.int .i64 1] w18 fun e w'=>e=.returned (.int .i64 (m2:Int))/\MkTy y w' (.slice ga ny gc)/\Kept (fun q=>(Value.slice ga ny gc).ownBlock=some q) w18 w'/\Below w8.heap.size w18 w':=cMy.out _ w8.heap.size w18 G18.out (by have:=hsA18;omega)
 replace cM2:=kH cM2
 go_upto_region 25 with(go_at_call 15;(with_reducible refine(cM2.out).mono ?_);rintro en w19 ⟨rfl,M,hK,hb⟩)
 have F19:=F18.trans (hb.mono h8z)
 have A19:=A18.kept hK (fun h=>by have:=hGb.out _ h;omega)
 have hz19:=F19.size
 clear hK hb cM2 G18 A18 a18_0 hsA18
 have a19_0:=A19.box1;have hsA19:=bLt a19_0
 replace M:=kH M
 go_upto_region 27 with(go_at_call 16;(with_reducible refine(cHy.out _ _ M.out).mono ?_);rintro en w20 ⟨rfl,hb⟩)
 have F20:=F19.trans (hb.mono F19.size)
 have M20:=kH (M.out.below hb)
 have A20:=A19.below hb
 clear hb M A19 a19_0 hsA19
 have hw20:=hw4.trans (F20.mono hw4.size)
 have B20:=B4.below F20
 have D20:=D4.below F20
 have hwz20:=hw20.size
 obtain⟨b20_0,b20_1⟩:=B20.box2;have hsB20:=bLt b20_0;have d20_0:=D20.box1;have hsD20:=bLt d20_0
 -- the program's second result
 go_upto_region 31 with fail
 go_cut [15,16] (fun s6 s7 wx=>∃ (g:Nat) (a:Option Addr) (c:Nat),s6=.pointer (some ⟨g,0,none⟩)/\s7=.int .i64 cc/\RowAt wx g 0 [.slice a ny c]/\g<wx.heap.size/\OwnT w20.heap.size wx (.slice a ny c) y/\Below w20.heap.size w20 wx)
 case first=>
  go_region_held3 (fun w'=>w'.cell? ⟨w.heap.size,0,none⟩=some (.slice ua nt uc)/\w'.cell? ⟨w.heap.size,1,none⟩=some (.slice va nn vc)/\w'.cell? ⟨w.heap.size+1,0,none⟩=some (.slice da nd dc)) (first|exact⟨b20_0,b20_1,d20_0⟩|exact⟨x_0,x_1,y_0⟩|exact⟨(B23.set_other hX1.out _).box2.1,(B23.set_other hX1.out _).box2.2,(D23.set_other hX2.out _).box1⟩|go_keep)
   (first
    |(go_at_call 7;(with_reducible refine(cT.out _ (hw20.trans (by go_grown))).mono ?_);rintro en w21 ⟨rt,bt,rfl,OT,-,fT,hb⟩;have k23:Below w20.heap.size w20 w21:=(show Below w20.heap.size w20 _ by go_grown).trans (hb.mono (by go_grown));have kz3:=k23.size;(first|(have BX:=(RowAt.box w20 #[.slice none 0 0] 33).below ((Below.refl _ _).drew.trans hb);have BXW:=(Wr.box w20 #[.slice none 0 0] 33).below ((Below.refl _ _).drew.trans hb);obtain⟨gx,hgx⟩ : ∃g,g=w20.heap.size:=⟨_,rfl⟩;rw[<- hgx]at BX BXW ⊢;have hX1:w.heap.size≠gx:=(by omega);have hX2:w.heap.size+1≠gx:=(by omega);replace hX1:=kH hX1;have hX3:w20.heap.size<=gx:=(by omega);replace hX2:=kH hX2;replace hgx:=kH hgx)|skip);have B21:=B20.below k23;have D21:=D20.below k23;obtain⟨x_0,x_1⟩:=B21.box2;have y_0:=D21.box1;clear hb)
    |(go_at_call 8;(with_reducible refine(cU.out _ ((hw20.trans (k23.mono hwz20)).trans (by go_grown))).mono ?_);rintro en w22 ⟨rd,bd,rfl,OD,-,fD,hb⟩;have k34:Below w21.heap.size w21 w22:=(show Below w21.heap.size w21 _ by go_grown).trans (hb.mono (by go_grown));have kz4:=k34.size;have kz24:=Nat.le_trans kz3 kz4;(first|(have BX:=BX.below hb;have BXW:=BXW.below hb)|(have BX:=(RowAt.box w21 #[.slice none 0 0] 33).below hb;have BXW:=(Wr.box w21 #[.slice none 0 0] 33).below hb;obtain⟨gx,hgx⟩ : ∃g,g=w21.heap.size:=⟨_,rfl⟩;rw[<- hgx]at BX BXW ⊢;have hX1:w.heap.size≠gx:=(by omega);have hX2:w.heap.size+1≠gx:=(by omega);replace hX1:=kH hX1;have hX3:w20.heap.size<=gx:=(by omega);replace hX2:=kH hX2;replace hgx:=kH hgx)|skip);have B22:=B21.below k34;have D22:=D21.below k34;obtain⟨x_0,x_1⟩:=B22.box2;have y_0:=D22.box1;have k24:=k23.trans (k34.mono kz3);have RT:=kH (GProgram.ok.read (GProgram.ok.below OT k34) (fun _ _=>Nat.zero_le _));have RD:=kH (GData.ok.read OD (fun _ _=>Nat.zero_le _));clear hb OT OD fT fD)
    |(go_at_call 9;(with_reducible refine(cI.out _ _ _ (GProgram.good.below RT.out (by go_grown)) (GData.good.below RD.out (by go_grown))).mono ?_);rintro en w23 ⟨vh,rfl,H,hb⟩;have k45:Below w22.heap.size w22 w23:=(show Below w22.heap.size w22 _ by go_grown).trans (hb.mono (by go_grown));have kz5:=k45.size;have kSb:=H.base;have H:=H.mono (show w20.heap.size<=_ by((try simp only[World.size_alloc,World.size_drew]);omega));(first|(have hg4:=World.block_lt_of_cell? _ _ BX.box1;dsimp only at hg4;have BX:=BX.below hb;have BXW:=BXW.below hb)|(have BX:=(RowAt.box w22 #[.slice none 0 0] 33).below hb;have BXW:=(Wr.box w22 #[.slice none 0 0] 33).below hb;obtain⟨gx,hgx⟩ : ∃g,g=w22.heap.size:=⟨_,rfl⟩;rw[<- hgx]at BX BXW ⊢;have hX1:w.heap.size≠gx:=(by omega);have hX2:w.heap.size+1≠gx:=(by omega);replace hX1:=kH hX1;have hX3:w20.heap.size<=gx:=(by omega);replace hX2:=kH hX2;replace hgx:=kH hgx)|skip);(try (have kSg:∀g,vh.ownBlock=some g->g≠gx:=(fun g hg=>by have h1:=(kSb g hg).1;(try simp only[World.size_alloc,World.size_drew]at h1);(try (have h2:=hgx.out));omega);replace kSg:=kH kSg));clear kSb;(try (have bx_0:=BX.box1;have bxf:=BXW.frz0 (by decide)));obtain⟨ha,hc,rfl⟩:=sy.out _ _ _ H;have B23:=B22.below k45;have D23:=D22.below k45;obtain⟨x_0,x_1⟩:=B23.box2;have y_0:=D23.box1;have k25:=k24.trans (k45.mono k24.size);clear hb))
  all_goals (go_wp2_with fail;go_meet)
  all_goals first
   |exact⟨w23.heap.size,ha,hc,rfl,rfl,RowAt.box w23 #[_] _,by simp,H.below (by go_grown),k25.trans (by go_grown)⟩
   |exact⟨gx,ha,hc,rfl,rfl,BX.putAt (j:=0) (by simp) _,by have:=World.block_lt_of_cell? _ _ bx_0;simpa using this,H.set_other (p:=⟨gx,0,none⟩) kSg.out _,k25.setCell (p:=⟨gx,0,none⟩) hX3 _⟩
 obtain⟨bh,ha,hc,rfl,rfl,H4,hbh,HS,h20⟩:=hcut
 obtain⟨w24,rfl⟩ : ∃q,q=wc:=⟨_,rfl⟩
 have F24:=F20.trans (h20.mono F20.size)
 have M24:=kH (M20.out.below h20)
 have A24:=A20.below h20
 have W24:=W4.below F24
 replace HS:=kH HS
 clear b20_0 b20_1 d20_0 hsB20 hsD20 B20 D20 h20 M20 A20
 have h4_0:=H4.box1;have hsH4:=bLt h4_0;have w24_0:=W24.box1;have hsW24:=bLt w24_0
 go_upto_region 34 with(go_at_call 10;(with_reducible refine(cE.out _ _ _ _ _ (HS.out.sl flatTyItem) ((S4.out.below F24).sl flatTyItem)).mono ?_);rintro en w25 ⟨rfl,hb⟩)
 have F25:=F24.trans (hb.mono F24.size)
 have M25:=kH (M24.out.below hb)
 have A25:=A24.below hb
 have hw25:=hw4.trans (F25.mono hw4.size)
 clear hb M24 A24 h4_0 hsH4 w24_0 hsW24 HS H4 W24
 have a25_0:=A25.box1;have hsA25:=bLt a25_0
 go_wp2_with (go_at_call 16;(with_reducible refine(cHy.out _ _ M25.out).mono ?_);rintro en w26 ⟨rfl,hb⟩)
 go_returns
 exact⟨rfl,hw25.trans (hb.mono hw25.size)⟩
end fnExactDataTy
end Go.Proofs.YtkikkfjmggobpaaGreat
namespace Go.Proofs.YtkikkfjmggobpaaGreat
open Go.RowKit
set_option linter.unusedVariables false
def Opens {α:Type} (P:Program) (t:TypeId) (R:Reading α):Prop:=∀ (H:Type) (enc:TypeId × Value->H) (w:World) (spare:Nat->Bool) (held:Bool) (fuel:Nat) (cs:List Value) (x:DataW H × List MemPlace),
 DataW.trod enc P w 0 spare held fuel t cs=some x->∃y,R 0 w cs y
def SlR {α:Type} (R:Reading α) (sz:Nat):Reading (List α):=fun lo w r xs=>∃v,r=[v]/\Sl R sz lo w v xs
theorem opens_int {P:Program} {t:TypeId} (ht:P.underlying t=some (.int .i64)):Opens P t IntR:=by
 intro H enc w spare held fuel cs x h
 obtain⟨n,rfl,_,hw⟩:=DataW.trod_int ht h
 exact⟨n,rfl,bounds_i64 hw⟩
theorem opens_string {P:Program} {t:TypeId} (ht:P.underlying t=some .string):Opens P t StrR:=by
 intro H enc w spare held fuel cs x h
 obtain⟨n,rfl,_,hw⟩:=DataW.trod_string ht h
 exact⟨n,rfl,by unfold StrOk;unfold maxLen at hw;omega⟩
theorem opens_bool {P:Program} {t:TypeId} (ht:P.underlying t=some .bool):Opens P t BoolR:=by
 intro H enc w spare held fuel cs x h
 obtain⟨n,rfl,_⟩:=DataW.trod_bool ht h
 exact⟨n,rfl⟩
theorem list_of {α:Type} {p:Nat->α->Prop} : ∀ (n:Nat),(∀i,i<n->∃y,p i y)->∃l:List α,l.length=n/\∀i y,l[i]? = some y->p i y
 |0,_=>⟨[],rfl,fun i y h=>by simp at h⟩
 |n+1,h=>by
  obtain⟨l,hl,hp⟩:=list_of n (fun i hi=>h i (by omega))
  obtain⟨y,hy⟩:=h n (by omega)
  refine⟨l ++ [y],by simp[hl],fun i z hz=>?_⟩
  rcases Nat.lt_trichotomy i n with hi|hi|hi
  ·rw[List.getElem?_append_left (by omega)]at hz
   exact hp i z hz
  ·subst hi
   rw[List.getElem?_append_right (by omega),hl]at hz
   simp at hz
   exact hz ▸ hy
  ·rw[List.getElem?_eq_none (by simp;omega)]at hz
   cases hz
theorem add_none (b off n:Nat):(⟨b,off,none⟩ : Addr).add n=⟨b,off+n,none⟩:=by
 unfold Addr.add
 split
 ·subst_vars;rfl
 ·rfl
theorem opens_slice {α:Type} {P:Program} {t e:TypeId} {R:Reading α} {sz:Nat} (ht:P.underlying t=some (.slice e)) (hc:P.cellsOf e=sz) (hsz:0<sz) (hO:Opens P e R):Opens P t (SlR R sz):=by
 intro H enc w spare held fuel cs x h
 rcases Deep.open_slice ht h with⟨rfl,_⟩|⟨a,len,cap,m,n,D,Pl,rfl,_,hl,hm,hmm,_,hel⟩
 ·exact⟨[],_,rfl,Sl.nil⟩
 have hlm:len<=m:=by rw[hmm];split<;>omega
 rw[hc]at hel
 obtain⟨xs,hxl,hxs⟩:=list_of (p:=fun i y=>∃cs',w.cells? 0 (a.add (i*sz)) sz=some cs'/\R 0 w cs' y) len (fun i hi=>by
  obtain⟨cs',h1,h2⟩:=hel i (by omega)
  obtain⟨y,hy⟩:=hO H enc w spare held n cs' _ h2
  exact⟨y,cs',h1,hy⟩)
 subst hxl
 refine⟨xs,_,rfl,some a,cap,rfl,hl,by unfold maxLen at hm;omega,fun hne=>?_⟩
 have hspot:a.spot=none:=by
  obtain⟨cs',h1,_⟩:=hxs 0 xs[0] (by simp)
  obtain⟨_,h3,h4⟩:=World.cells?_some h1
  have h5:=h4 0 (by omega)
  have h6:∃v,w.cell? (a.add (0*sz) |>.add 0)=some v:=by
   obtain⟨v,hv⟩ : ∃v,cs'[0]? = some v:=⟨cs'[0]'(by omega),by simp⟩
   exact⟨v,by rw[h5,hv]⟩
  obtain⟨v,hv⟩:=h6
  have h7:=World.cell?_spot hv
  simpa [Addr.add] using h7
 obtain⟨b,off,sp⟩:=a
 simp only at hspot
 subst hspot
 refine⟨b,off,Nat.zero_le _,rfl,fun i y hy=>?_⟩
 obtain⟨cs',h1,h2⟩:=hxs i y hy
 obtain⟨_,h3,h4⟩:=World.cells?_some h1
 refine⟨cs',h2,fun j c hjc=>?_⟩
 have hj:j<sz:=by
  have:=(List.getElem?_eq_some_iff.1 hjc).1
  omega
 have h5:=h4 j hj
 rw[add_none,add_none]at h5
 rw[h5,hjc]
theorem list_len1 {α:Type} {l:List α} (h:l.length=1):∃a,l=[a]:=by
 match l,h with|[a],_=>exact⟨a,rfl⟩
theorem list_len2 {α:Type} {l:List α} (h:l.length=2):∃a b,l=[a,b]:=by
 match l,h with|[a,b],_=>exact⟨a,b,rfl⟩
theorem list_len3 {α:Type} {l:List α} (h:l.length=3):∃a b c,l=[a,b,c]:=by
 match l,h with|[a,b,c],_=>exact⟨a,b,c,rfl⟩
theorem list_len4 {α:Type} {l:List α} (h:l.length=4):∃a b c d,l=[a,b,c,d]:=by
 match l,h with|[a,b,c,d],_=>exact⟨a,b,c,d,rfl⟩
theorem list_len6 {α:Type} {l:List α} (h:l.length=6):∃a b c d e f,l=[a,b,c,d,e,f]:=by
 match l,h with|[a,b,c,d,e,f],_=>exact⟨a,b,c,d,e,f,rfl⟩
theorem open_struct {α:Type} {H:Type} {enc:TypeId × Value->H} {P:Program} {t:TypeId} {fs:Array Field} {R:Reading α} {w:World} {base:Nat} {v:Value} {d:DataW H} {spare:Nat->Bool} {held:Bool} {ps:List MemPlace}
  (hs:P.underlying t=some (.struct fs)) (hO:Opens P t R) (hv:Value.okWide P w .any base t v) (h:DataW.Trod enc P w 0 spare held t v d ps):∃r x,v=.agg r.toArray/\R 0 w r x:=by
 unfold Value.okWide at hv
 rw[hs]at hv
 obtain⟨cs,rfl,_,_⟩:=hv
 obtain⟨fuel,hf⟩:=h
 obtain⟨x,hx⟩:=hO H enc w spare held fuel _ _ hf
 exact⟨cs.toList,x,by simp,hx⟩
theorem opens_int_:Opens Tryz.prog 3 IntR:=opens_int Tryz.underlying3
theorem cells_int:Tryz.prog.cellsOf 3=1:=by kernel_rfl
theorem opens_str_:Opens Tryz.prog 9 StrR:=opens_string Tryz.underlying9
theorem cells_str:Tryz.prog.cellsOf 9=1:=by kernel_rfl
theorem cells_S_int:Tryz.prog.cellsOf 91=1:=by kernel_rfl
theorem opens_S_int:Opens Tryz.prog 91 (SlR IntR 1):=opens_slice Tryz.underlying91 cells_int (by decide) opens_int_
theorem cells_DNode:Tryz.prog.cellsOf 97=4:=by kernel_rfl
theorem opens_DNode:Opens Tryz.prog 97 GDNode.R:=by
 intro H enc w spare held fuel cs x h
 obtain⟨xs,n,rfl,_,hl,hxl,hf⟩:=DataW.trod_struct Tryz.underlying97 h
 rw[cells_DNode]at hl
 obtain⟨c0,c1,c2,c3,rfl⟩:=list_len4 hl
 have h0:DataW.trod enc Tryz.prog w 0 spare held n 3 (List.take (Tryz.prog.cellsOf 3) (List.drop 0 [c0,c1,c2,c3]))=xs[0]?:=hf 0 _ rfl
 rw[cells_int,List.getElem?_eq_getElem (by rw[hxl];decide)]at h0
 have h1:DataW.trod enc Tryz.prog w 0 spare held n 3 (List.take (Tryz.prog.cellsOf 3) (List.drop 1 [c0,c1,c2,c3]))=xs[1]?:=hf 1 _ rfl
 rw[cells_int,List.getElem?_eq_getElem (by rw[hxl];decide)]at h1
 have h2:DataW.trod enc Tryz.prog w 0 spare held n 9 (List.take (Tryz.prog.cellsOf 9) (List.drop 2 [c0,c1,c2,c3]))=xs[2]?:=hf 2 _ rfl
 rw[cells_str,List.getElem?_eq_getElem (by rw[hxl];decide)]at h2
 have h3:DataW.trod enc Tryz.prog w 0 spare held n 91 (List.take (Tryz.prog.cellsOf 91) (List.drop 3 [c0,c1,c2,c3]))=xs[3]?:=hf 3 _ rfl
 rw[cells_S_int,List.getElem?_eq_getElem (by rw[hxl];decide)]at h3
 obtain⟨z0,e0,w0⟩:=opens_int_ _ _ _ _ _ _ _ _ h0
 simp only[List.drop_zero,List.drop_succ_cons,List.take_succ_cons,List.take_zero,List.cons.injEq,and_true]at e0
 obtain rfl:=e0
 obtain⟨z1,e1,w1⟩:=opens_int_ _ _ _ _ _ _ _ _ h1
 simp only[List.drop_zero,List.drop_succ_cons,List.take_succ_cons,List.take_zero,List.cons.injEq,and_true]at e1
 obtain rfl:=e1
 obtain⟨z2,e2,w2⟩:=opens_str_ _ _ _ _ _ _ _ _ h2
 simp only[List.drop_zero,List.drop_succ_cons,List.take_succ_cons,List.take_zero,List.cons.injEq,and_true]at e2
 obtain rfl:=e2
 obtain⟨z3,v3,e3,s3⟩:=opens_S_int _ _ _ _ _ _ _ _ h3
 simp only[List.drop_zero,List.drop_succ_cons,List.take_succ_cons,List.take_zero,List.cons.injEq,and_true]at e3
 obtain rfl:=e3
 exact⟨⟨z0,z1,z2,z3⟩,_,rfl,⟨w0,w1,w2⟩,s3⟩
theorem cells_S_DNode:Tryz.prog.cellsOf 26=1:=by kernel_rfl
theorem opens_S_DNode:Opens Tryz.prog 26 (SlR GDNode.R 4):=opens_slice Tryz.underlying26 cells_DNode (by decide) opens_DNode
theorem cells_Data:Tryz.prog.cellsOf 28=1:=by kernel_rfl
theorem opens_Data:Opens Tryz.prog 28 GData.R:=by
 intro H enc w spare held fuel cs x h
 obtain⟨xs,n,rfl,_,hl,hxl,hf⟩:=DataW.trod_struct Tryz.underlying28 h
 rw[cells_Data]at hl
 obtain⟨c0,rfl⟩:=list_len1 hl
 have h0:DataW.trod enc Tryz.prog w 0 spare held n 26 (List.take (Tryz.prog.cellsOf 26) (List.drop 0 [c0]))=xs[0]?:=hf 0 _ rfl
 rw[cells_S_DNode,List.getElem?_eq_getElem (by rw[hxl];decide)]at h0
 obtain⟨z0,v0,e0,s0⟩:=opens_S_DNode _ _ _ _ _ _ _ _ h0
 simp only[List.drop_zero,List.drop_succ_cons,List.take_succ_cons,List.take_zero,List.cons.injEq,and_true]at e0
 obtain rfl:=e0
 exact⟨⟨z0⟩,_,rfl,trivial,s0⟩
theorem cells_PNode:Tryz.prog.cellsOf 241=4:=by kernel_rfl
theorem opens_PNode:Opens Tryz.prog 241 GPNode.R:=by
 intro H enc w spare held fuel cs x h
 obtain⟨xs,n,rfl,_,hl,hxl,hf⟩:=DataW.trod_struct Tryz.underlying241 h
 rw[cells_PNode]at hl
 obtain⟨c0,c1,c2,c3,rfl⟩:=list_len4 hl
 have h0:DataW.trod enc Tryz.prog w 0 spare held n 3 (List.take (Tryz.prog.cellsOf 3) (List.drop 0 [c0,c1,c2,c3]))=xs[0]?:=hf 0 _ rfl
 rw[cells_int,List.getElem?_eq_getElem (by rw[hxl];decide)]at h0
 have h1:DataW.trod enc Tryz.prog w 0 spare held n 3 (List.take (Tryz.prog.cellsOf 3) (List.drop 1 [c0,c1,c2,c3]))=xs[1]?:=hf 1 _ rfl
 rw[cells_int,List.getElem?_eq_getElem (by rw[hxl];decide)]at h1
 have h2:DataW.trod enc Tryz.prog w 0 spare held n 9 (List.take (Tryz.prog.cellsOf 9) (List.drop 2 [c0,c1,c2,c3]))=xs[2]?:=hf 2 _ rfl
 rw[cells_str,List.getElem?_eq_getElem (by rw[hxl];decide)]at h2
 have h3:DataW.trod enc Tryz.prog w 0 spare held n 91 (List.take (Tryz.prog.cellsOf 91) (List.drop 3 [c0,c1,c2,c3]))=xs[3]?:=hf 3 _ rfl
 rw[cells_S_int,List.getElem?_eq_getElem (by rw[hxl];decide)]at h3
 obtain⟨z0,e0,w0⟩:=opens_int_ _ _ _ _ _ _ _ _ h0
 simp only[List.drop_zero,List.drop_succ_cons,List.take_succ_cons,List.take_zero,List.cons.injEq,and_true]at e0
 obtain rfl:=e0
 obtain⟨z1,e1,w1⟩:=opens_int_ _ _ _ _ _ _ _ _ h1
 simp only[List.drop_zero,List.drop_succ_cons,List.take_succ_cons,List.take_zero,List.cons.injEq,and_true]at e1
 obtain rfl:=e1
 obtain⟨z2,e2,w2⟩:=opens_str_ _ _ _ _ _ _ _ _ h2
 simp only[List.drop_zero,List.drop_succ_cons,List.take_succ_cons,List.take_zero,List.cons.injEq,and_true]at e2
 obtain rfl:=e2
 obtain⟨z3,v3,e3,s3⟩:=opens_S_int _ _ _ _ _ _ _ _ h3
 simp only[List.drop_zero,List.drop_succ_cons,List.take_succ_cons,List.take_zero,List.cons.injEq,and_true]at e3
 obtain rfl:=e3
 exact⟨⟨z0,z1,z2,z3⟩,_,rfl,⟨w0,w1,w2⟩,s3⟩
theorem cells_S_PNode:Tryz.prog.cellsOf 206=1:=by kernel_rfl
theorem opens_S_PNode:Opens Tryz.prog 206 (SlR GPNode.R 4):=opens_slice Tryz.underlying206 cells_PNode (by decide) opens_PNode
theorem cells_Pat:Tryz.prog.cellsOf 208=1:=by kernel_rfl
theorem opens_Pat:Opens Tryz.prog 208 GPat.R:=by
 intro H enc w spare held fuel cs x h
 obtain⟨xs,n,rfl,_,hl,hxl,hf⟩:=DataW.trod_struct Tryz.underlying208 h
 rw[cells_Pat]at hl
 obtain⟨c0,rfl⟩:=list_len1 hl
 have h0:DataW.trod enc Tryz.prog w 0 spare held n 206 (List.take (Tryz.prog.cellsOf 206) (List.drop 0 [c0]))=xs[0]?:=hf 0 _ rfl
 rw[cells_S_PNode,List.getElem?_eq_getElem (by rw[hxl];decide)]at h0
 obtain⟨z0,v0,e0,s0⟩:=opens_S_PNode _ _ _ _ _ _ _ _ h0
 simp only[List.drop_zero,List.drop_succ_cons,List.take_succ_cons,List.take_zero,List.cons.injEq,and_true]at e0
 obtain rfl:=e0
 exact⟨⟨z0⟩,_,rfl,trivial,s0⟩
theorem cells_TyItem:Tryz.prog.cellsOf 250=3:=by kernel_rfl
theorem opens_TyItem:Opens Tryz.prog 250 GTyItem.R:=by
 intro H enc w spare held fuel cs x h
 obtain⟨xs,n,rfl,_,hl,hxl,hf⟩:=DataW.trod_struct Tryz.underlying250 h
 rw[cells_TyItem]at hl
 obtain⟨c0,c1,c2,rfl⟩:=list_len3 hl
 have h0:DataW.trod enc Tryz.prog w 0 spare held n 3 (List.take (Tryz.prog.cellsOf 3) (List.drop 0 [c0,c1,c2]))=xs[0]?:=hf 0 _ rfl
 rw[cells_int,List.getElem?_eq_getElem (by rw[hxl];decide)]at h0
 have h1:DataW.trod enc Tryz.prog w 0 spare held n 9 (List.take (Tryz.prog.cellsOf 9) (List.drop 1 [c0,c1,c2]))=xs[1]?:=hf 1 _ rfl
 rw[cells_str,List.getElem?_eq_getElem (by rw[hxl];decide)]at h1
 have h2:DataW.trod enc Tryz.prog w 0 spare held n 3 (List.take (Tryz.prog.cellsOf 3) (List.drop 2 [c0,c1,c2]))=xs[2]?:=hf 2 _ rfl
 rw[cells_int,List.getElem?_eq_getElem (by rw[hxl];decide)]at h2
 obtain⟨z0,e0,w0⟩:=opens_int_ _ _ _ _ _ _ _ _ h0
 simp only[List.drop_zero,List.drop_succ_cons,List.take_succ_cons,List.take_zero,List.cons.injEq,and_true]at e0
 obtain rfl:=e0
 obtain⟨z1,e1,w1⟩:=opens_str_ _ _ _ _ _ _ _ _ h1
 simp only[List.drop_zero,List.drop_succ_cons,List.take_succ_cons,List.take_zero,List.cons.injEq,and_true]at e1
 obtain rfl:=e1
 obtain⟨z2,e2,w2⟩:=opens_int_ _ _ _ _ _ _ _ _ h2
 simp only[List.drop_zero,List.drop_succ_cons,List.take_succ_cons,List.take_zero,List.cons.injEq,and_true]at e2
 obtain rfl:=e2
 exact⟨⟨z0,z1,z2⟩,rfl,⟨w0,w1,w2⟩⟩
theorem cells_S_TyItem:Tryz.prog.cellsOf 200=1:=by kernel_rfl
theorem opens_S_TyItem:Opens Tryz.prog 200 (SlR GTyItem.R 3):=opens_slice Tryz.underlying200 cells_TyItem (by decide) opens_TyItem
theorem cells_Ty:Tryz.prog.cellsOf 202=1:=by kernel_rfl
theorem opens_Ty:Opens Tryz.prog 202 GTy.R:=by
 intro H enc w spare held fuel cs x h
 obtain⟨xs,n,rfl,_,hl,hxl,hf⟩:=DataW.trod_struct Tryz.underlying202 h
 rw[cells_Ty]at hl
 obtain⟨c0,rfl⟩:=list_len1 hl
 have h0:DataW.trod enc Tryz.prog w 0 spare held n 200 (List.take (Tryz.prog.cellsOf 200) (List.drop 0 [c0]))=xs[0]?:=hf 0 _ rfl
 rw[cells_S_TyItem,List.getElem?_eq_getElem (by rw[hxl];decide)]at h0
 obtain⟨z0,v0,e0,s0⟩:=opens_S_TyItem _ _ _ _ _ _ _ _ h0
 simp only[List.drop_zero,List.drop_succ_cons,List.take_succ_cons,List.take_zero,List.cons.injEq,and_true]at e0
 obtain rfl:=e0
 exact⟨⟨z0⟩,_,rfl,trivial,s0⟩
theorem opens_bool_:Opens Tryz.prog 4 BoolR:=opens_bool Tryz.underlying4
theorem cells_bool:Tryz.prog.cellsOf 4=1:=by kernel_rfl
theorem cells_Con:Tryz.prog.cellsOf 204=3:=by kernel_rfl
theorem opens_Con:Opens Tryz.prog 204 GCon.R:=by
 intro H enc w spare held fuel cs x h
 obtain⟨xs,n,rfl,_,hl,hxl,hf⟩:=DataW.trod_struct Tryz.underlying204 h
 rw[cells_Con]at hl
 obtain⟨c0,c1,c2,rfl⟩:=list_len3 hl
 have h0:DataW.trod enc Tryz.prog w 0 spare held n 9 (List.take (Tryz.prog.cellsOf 9) (List.drop 0 [c0,c1,c2]))=xs[0]?:=hf 0 _ rfl
 rw[cells_str,List.getElem?_eq_getElem (by rw[hxl];decide)]at h0
 have h1:DataW.trod enc Tryz.prog w 0 spare held n 4 (List.take (Tryz.prog.cellsOf 4) (List.drop 1 [c0,c1,c2]))=xs[1]?:=hf 1 _ rfl
 rw[cells_bool,List.getElem?_eq_getElem (by rw[hxl];decide)]at h1
 have h2:DataW.trod enc Tryz.prog w 0 spare held n 202 (List.take (Tryz.prog.cellsOf 202) (List.drop 2 [c0,c1,c2]))=xs[2]?:=hf 2 _ rfl
 rw[cells_Ty,List.getElem?_eq_getElem (by rw[hxl];decide)]at h2
 obtain⟨z0,e0,w0⟩:=opens_str_ _ _ _ _ _ _ _ _ h0
 simp only[List.drop_zero,List.drop_succ_cons,List.take_succ_cons,List.take_zero,List.cons.injEq,and_true]at e0
 obtain rfl:=e0
 obtain⟨z1,e1⟩:=opens_bool_ _ _ _ _ _ _ _ _ h1
 unfold BoolR at e1
 simp only[List.drop_zero,List.drop_succ_cons,List.take_succ_cons,List.take_zero,List.cons.injEq,and_true]at e1
 obtain rfl:=e1
 obtain⟨z2,v2_0,e2,w2,s2_0⟩:=opens_Ty _ _ _ _ _ _ _ _ h2
 unfold GTy.wf at w2
 simp only[List.drop_zero,List.drop_succ_cons,List.take_succ_cons,List.take_zero,List.cons.injEq,and_true]at e2
 obtain rfl:=e2
 exact⟨⟨z0,z1,z2⟩,_,rfl,w0,s2_0⟩
theorem cells_S_Con:Tryz.prog.cellsOf 87=1:=by kernel_rfl
theorem opens_S_Con:Opens Tryz.prog 87 (SlR GCon.R 3):=opens_slice Tryz.underlying87 cells_Con (by decide) opens_Con
theorem cells_Type:Tryz.prog.cellsOf 89=3:=by kernel_rfl
theorem opens_Type:Opens Tryz.prog 89 GType.R:=by
 intro H enc w spare held fuel cs x h
 obtain⟨xs,n,rfl,_,hl,hxl,hf⟩:=DataW.trod_struct Tryz.underlying89 h
 rw[cells_Type]at hl
 obtain⟨c0,c1,c2,rfl⟩:=list_len3 hl
 have h0:DataW.trod enc Tryz.prog w 0 spare held n 9 (List.take (Tryz.prog.cellsOf 9) (List.drop 0 [c0,c1,c2]))=xs[0]?:=hf 0 _ rfl
 rw[cells_str,List.getElem?_eq_getElem (by rw[hxl];decide)]at h0
 have h1:DataW.trod enc Tryz.prog w 0 spare held n 3 (List.take (Tryz.prog.cellsOf 3) (List.drop 1 [c0,c1,c2]))=xs[1]?:=hf 1 _ rfl
 rw[cells_int,List.getElem?_eq_getElem (by rw[hxl];decide)]at h1
 have h2:DataW.trod enc Tryz.prog w 0 spare held n 87 (List.take (Tryz.prog.cellsOf 87) (List.drop 2 [c0,c1,c2]))=xs[2]?:=hf 2 _ rfl
 rw[cells_S_Con,List.getElem?_eq_getElem (by rw[hxl];decide)]at h2
 obtain⟨z0,e0,w0⟩:=opens_str_ _ _ _ _ _ _ _ _ h0
 simp only[List.drop_zero,List.drop_succ_cons,List.take_succ_cons,List.take_zero,List.cons.injEq,and_true]at e0
 obtain rfl:=e0
 obtain⟨z1,e1,w1⟩:=opens_int_ _ _ _ _ _ _ _ _ h1
 simp only[List.drop_zero,List.drop_succ_cons,List.take_succ_cons,List.take_zero,List.cons.injEq,and_true]at e1
 obtain rfl:=e1
 obtain⟨z2,v2,e2,s2⟩:=opens_S_Con _ _ _ _ _ _ _ _ h2
 simp only[List.drop_zero,List.drop_succ_cons,List.take_succ_cons,List.take_zero,List.cons.injEq,and_true]at e2
 obtain rfl:=e2
 exact⟨⟨z0,z1,z2⟩,_,rfl,⟨w0,w1⟩,s2⟩
theorem cells_S_Pat:Tryz.prog.cellsOf 92=1:=by kernel_rfl
theorem opens_S_Pat:Opens Tryz.prog 92 (SlR GPat.R 1):=opens_slice Tryz.underlying92 cells_Pat (by decide) opens_Pat
theorem cells_Node:Tryz.prog.cellsOf 94=6:=by kernel_rfl
theorem opens_Node:Opens Tryz.prog 94 GNode.R:=by
 intro H enc w spare held fuel cs x h
 obtain⟨xs,n,rfl,_,hl,hxl,hf⟩:=DataW.trod_struct Tryz.underlying94 h
 rw[cells_Node]at hl
 obtain⟨c0,c1,c2,c3,c4,c5,rfl⟩:=list_len6 hl
 have h0:DataW.trod enc Tryz.prog w 0 spare held n 3 (List.take (Tryz.prog.cellsOf 3) (List.drop 0 [c0,c1,c2,c3,c4,c5]))=xs[0]?:=hf 0 _ rfl
 rw[cells_int,List.getElem?_eq_getElem (by rw[hxl];decide)]at h0
 have h1:DataW.trod enc Tryz.prog w 0 spare held n 3 (List.take (Tryz.prog.cellsOf 3) (List.drop 1 [c0,c1,c2,c3,c4,c5]))=xs[1]?:=hf 1 _ rfl
 rw[cells_int,List.getElem?_eq_getElem (by rw[hxl];decide)]at h1
 have h2:DataW.trod enc Tryz.prog w 0 spare held n 3 (List.take (Tryz.prog.cellsOf 3) (List.drop 2 [c0,c1,c2,c3,c4,c5]))=xs[2]?:=hf 2 _ rfl
 rw[cells_int,List.getElem?_eq_getElem (by rw[hxl];decide)]at h2
 have h3:DataW.trod enc Tryz.prog w 0 spare held n 9 (List.take (Tryz.prog.cellsOf 9) (List.drop 3 [c0,c1,c2,c3,c4,c5]))=xs[3]?:=hf 3 _ rfl
 rw[cells_str,List.getElem?_eq_getElem (by rw[hxl];decide)]at h3
 have h4:DataW.trod enc Tryz.prog w 0 spare held n 91 (List.take (Tryz.prog.cellsOf 91) (List.drop 4 [c0,c1,c2,c3,c4,c5]))=xs[4]?:=hf 4 _ rfl
 rw[cells_S_int,List.getElem?_eq_getElem (by rw[hxl];decide)]at h4
 have h5:DataW.trod enc Tryz.prog w 0 spare held n 92 (List.take (Tryz.prog.cellsOf 92) (List.drop 5 [c0,c1,c2,c3,c4,c5]))=xs[5]?:=hf 5 _ rfl
 rw[cells_S_Pat,List.getElem?_eq_getElem (by rw[hxl];decide)]at h5
 obtain⟨z0,e0,w0⟩:=opens_int_ _ _ _ _ _ _ _ _ h0
 simp only[List.drop_zero,List.drop_succ_cons,List.take_succ_cons,List.take_zero,List.cons.injEq,and_true]at e0
 obtain rfl:=e0
 obtain⟨z1,e1,w1⟩:=opens_int_ _ _ _ _ _ _ _ _ h1
 simp only[List.drop_zero,List.drop_succ_cons,List.take_succ_cons,List.take_zero,List.cons.injEq,and_true]at e1
 obtain rfl:=e1
 obtain⟨z2,e2,w2⟩:=opens_int_ _ _ _ _ _ _ _ _ h2
 simp only[List.drop_zero,List.drop_succ_cons,List.take_succ_cons,List.take_zero,List.cons.injEq,and_true]at e2
 obtain rfl:=e2
 obtain⟨z3,e3,w3⟩:=opens_str_ _ _ _ _ _ _ _ _ h3
 simp only[List.drop_zero,List.drop_succ_cons,List.take_succ_cons,List.take_zero,List.cons.injEq,and_true]at e3
 obtain rfl:=e3
 obtain⟨z4,v4,e4,s4⟩:=opens_S_int _ _ _ _ _ _ _ _ h4
 simp only[List.drop_zero,List.drop_succ_cons,List.take_succ_cons,List.take_zero,List.cons.injEq,and_true]at e4
 obtain rfl:=e4
 obtain⟨z5,v5,e5,s5⟩:=opens_S_Pat _ _ _ _ _ _ _ _ h5
 simp only[List.drop_zero,List.drop_succ_cons,List.take_succ_cons,List.take_zero,List.cons.injEq,and_true]at e5
 obtain rfl:=e5
 exact⟨⟨z0,z1,z2,z3,z4,z5⟩,_,_,rfl,⟨w0,w1,w2,w3⟩,s4,s5⟩
theorem cells_S_Type:Tryz.prog.cellsOf 22=1:=by kernel_rfl
theorem opens_S_Type:Opens Tryz.prog 22 (SlR GType.R 3):=opens_slice Tryz.underlying22 cells_Type (by decide) opens_Type
theorem cells_S_Node:Tryz.prog.cellsOf 23=1:=by kernel_rfl
theorem opens_S_Node:Opens Tryz.prog 23 (SlR GNode.R 6):=opens_slice Tryz.underlying23 cells_Node (by decide) opens_Node
theorem cells_Program:Tryz.prog.cellsOf 25=2:=by kernel_rfl
theorem opens_Program:Opens Tryz.prog 25 GProgram.R:=by
 intro H enc w spare held fuel cs x h
 obtain⟨xs,n,rfl,_,hl,hxl,hf⟩:=DataW.trod_struct Tryz.underlying25 h
 rw[cells_Program]at hl
 obtain⟨c0,c1,rfl⟩:=list_len2 hl
 have h0:DataW.trod enc Tryz.prog w 0 spare held n 22 (List.take (Tryz.prog.cellsOf 22) (List.drop 0 [c0,c1]))=xs[0]?:=hf 0 _ rfl
 rw[cells_S_Type,List.getElem?_eq_getElem (by rw[hxl];decide)]at h0
 have h1:DataW.trod enc Tryz.prog w 0 spare held n 23 (List.take (Tryz.prog.cellsOf 23) (List.drop 1 [c0,c1]))=xs[1]?:=hf 1 _ rfl
 rw[cells_S_Node,List.getElem?_eq_getElem (by rw[hxl];decide)]at h1
 obtain⟨z0,v0,e0,s0⟩:=opens_S_Type _ _ _ _ _ _ _ _ h0
 simp only[List.drop_zero,List.drop_succ_cons,List.take_succ_cons,List.take_zero,List.cons.injEq,and_true]at e0
 obtain rfl:=e0
 obtain⟨z1,v1,e1,s1⟩:=opens_S_Node _ _ _ _ _ _ _ _ h1
 simp only[List.drop_zero,List.drop_succ_cons,List.take_succ_cons,List.take_zero,List.cons.injEq,and_true]at e1
 obtain rfl:=e1
 exact⟨⟨z0,z1⟩,_,_,rfl,trivial,s0,s1⟩
end Go.Proofs.YtkikkfjmggobpaaGreat
