/- Parts of the proof, merged: PatOk4, Node3, TyOk2, TyOk3, TypeOk. -/
import Derived.Test.YtkikkfjmggobpaaGreatDt13
namespace Go.Proofs.YtkikkfjmggobpaaGreat
open Go.RowKit
set_option maxRecDepth 100000
set_option maxHeartbeats 16000000
set_option linter.unusedVariables false
set_option linter.unusedSimpArgs false
attribute [local go_sem] Ext.cell
theorem mem_varsOf {l:List GDNode} {s:ByteArray} : s∈varsOf l ↔ ∃x∈l,x.kind=2/\x.s=s:=by
 unfold varsOf
 rw[List.mem_map]
 constructor
 ·rintro ⟨x,hx,rfl⟩
  obtain⟨h1,h2⟩:=List.mem_filter.1 hx
  exact⟨x,h1,by simpa using h2,rfl⟩
 ·rintro ⟨x,h1,h2,rfl⟩
  exact⟨x,List.mem_filter.2 ⟨h1,by simpa using h2⟩,rfl⟩
theorem specPatOk_c (d:GData) (hd:d.nodes.length<=1152921504606846976) (r:List Value) (lo:Nat) (w:World) (hr:GData.R lo w r d) :
  Calls Tryz.prog 133 #[.agg r.toArray] w fun e w'=>e=.returned (.bool (patOk d))/\Below w.heap.size w w':=by
 have Hr:=hr
 obtain⟨u,rfl,-,hu⟩:=hr
 obtain⟨a,c,rfl,ul,um,h0⟩:=hu
 have CE:=fun W (hW:Below w.heap.size w W)=>l04PEnd_c d hd (d.nodes.length+1) 0 [.slice a d.nodes.length c] lo W (GData.good.below Hr hW) (by omega)
 have CN:=fun(x:GDNode) (r2:List Value) (W:World) (hW:Below w.heap.size w W) (lo2:Nat) (hx:GDNode.R lo2 W r2 x)=>l04PNode_c x d hd [.slice a d.nodes.length c] r2 lo lo2 W (GData.good.below Hr hW) hx
 replace CE:=kH CE
 replace CN:=kH CN
 replace h0:=kH h0
 clear Hr
 obtain⟨n,hn⟩ : ∃n,n=d.nodes.length:=⟨_,rfl⟩
 rw[<- hn]at ul hd CN ⊢
 replace hn:=kH hn
 by_cases hs:n<1
 ·have d1:decide ((n:Int)<1)=true:=decide_eq_true (by omega)
  go_enter Tryz.func133,Tryz.ntmps133
  go_wp2_with fail
  go_returns
  exact⟨by unfold patOk;rw[<- hn.out,decide_eq_false (by omega)];rfl,by go_grown⟩
 by_cases hb:600<n
 ·have d1:decide ((n:Int)<1)=false:=decide_eq_false (by omega)
  have d2:decide (600<(n:Int))=true:=decide_eq_true (by omega)
  have d2' : decide (600<n)=true:=decide_eq_true (by omega)
  go_enter Tryz.func133,Tryz.ntmps133
  go_wp2_with fail
  go_returns
  exact⟨by unfold patOk;rw[<- hn.out,decide_eq_false (by omega)];rfl,by go_grown⟩
 have d1:decide ((n:Int)<1)=false:=decide_eq_false (by omega)
 have d2:decide (600<(n:Int))=false:=decide_eq_false (by omega)
 have d2' : decide (600<n)=false:=decide_eq_false (by omega)
 go_enter Tryz.func133,Tryz.ntmps133
 go_upto_region 1 with fail
 have B:RowAt (w.alloc (.cells #[.slice a n c] 177)) (w.heap.size) 0 [.slice a n c]:=RowAt.box w #[.slice a n c] 177
 have hw:Below w.heap.size w (w.alloc (.cells #[.slice a n c] 177)):=by go_grown
 generalize (w.alloc (.cells #[.slice a n c] 177))=w0 at *
 have b_0:=B.box1;have hsB:=bLt b_0
 go_wp2_with fail
 go_loopw [19] (fun i wr=>∃k:Nat,k<=n/\i=.int .i64 k/\Below w.heap.size w wr/\RowAt wr w.heap.size 0 [.slice a n c]/\Hid (∀y∈d.nodes.take k,pnOk d.nodes y=true)/\Hid (varsOf (d.nodes.take k)).Nodup) (fun i _=>n-(intOf i).toNat)
 case atStart=>exact⟨0,by omega,rfl,hw,B,fun y hy=>by simp at hy,by show(varsOf (d.nodes.take 0)).Nodup;simp[varsOf]⟩
 case round=>
  clear hw B b_0 hsB
  obtain⟨k,hk,rfl,hw,B,hF,hV⟩:=hrel
  have b_0:=B.box1;have hsB:=bLt b_0
  by_cases hlt:k<n
  ·obtain⟨b1,o1,x,s1,_,rfl,P1,hx,r1⟩:=(h0.out.below GDNode.good hw).get hn hlt
   obtain⟨kd,nn,s,ks⟩:=x
   have Hx:=hx
   obtain⟨u0,rfl,hwf,hkd⟩:=hx
   obtain⟨ka,kc,rfl,kl,km,k0⟩:=hkd
   have hss:StrOk s:=hwf.2.2
   dsimp only at r1 kl k0 hwf Hx
   obtain⟨m,hm⟩ : ∃m,m=ks.length:=⟨_,rfl⟩
   rw[<- hm]at r1 kl Hx
   replace hm:=kH hm
   obtain⟨e_0,e_1,e_2,e_3⟩:=r1.cells4
   clear r1 hwf k0
   replace Hx:=kH Hx
   go_upto_region 6 with fail
   have hz:=hw.size
   have hb1:Below wr.heap.size wr (wr.alloc (.cells #[.int .i64 kd,.int .i64 nn,.string s,.slice ka m kc] 220)):=by go_grown
   have B':=B.below hb1
   have D:RowAt (wr.alloc (.cells #[.int .i64 kd,.int .i64 nn,.string s,.slice ka m kc] 220)) wr.heap.size 0 [.int .i64 kd,.int .i64 nn,.string s,.slice ka m kc]:=RowAt.box _ _ _
   have hw' : Below w.heap.size w (wr.alloc (.cells #[.int .i64 kd,.int .i64 nn,.string s,.slice ka m kc] 220)):=by go_grown
   generalize wr.alloc (.cells #[.int .i64 kd,.int .i64 nn,.string s,.slice ka m kc] 220)=w1 at *
   have cN:=fun W (hW:Below w1.heap.size w1 W)=>CN.out ⟨kd,nn,s,ks⟩ [.int .i64 kd,.int .i64 nn,.string s,.slice ka m kc] W (hw'.trans (hW.mono hw'.size)) _ (GDNode.good.below Hx.out (hb1.trans (hW.mono hb1.size)))
   clear hw B b_0 hsB e_0 e_1 e_2 e_3 hz
   have B:=B';clear B' hb1 Hx
   have P1':=P1.out
   have htk:varsOf (d.nodes.take (k+1))=varsOf (d.nodes.take k)++(if kd=2 then [s] else []):=by rw[take_snoc' P1',varsOf_snoc]
   have hbad:pnOk d.nodes ⟨kd,nn,s,ks⟩=false->patOk d=false:=fun h=>patOk_bad P1' h
   have hstep:=fun h=>pn_step hF.out P1' h
   have htwice:kd=2->s∈varsOf (d.nodes.take k)->patOk d=false:=fun h1 h2=>patOk_twice (k:=k+1) (by
    rw[htk,if_pos h1,List.nodup_append]
    exact fun h=>h.2.2 s h2 s (by simp) rfl)
   generalize hq:pnOk d.nodes ⟨kd,nn,s,ks⟩=q at *
   clear P1 P1' hF hm
   replace cN:=kH cN;replace htk:=kH htk;replace hstep:=kH hstep;replace htwice:=kH htwice;replace hw':=kH hw'
   have hw:Below w1.heap.size w1 w1:=Below.refl _ _
   have b_0:=B.box1;have hsB:=bLt b_0;obtain⟨d_0,d_1,d_2,d_3⟩:=D.box4;have hsD:=bLt d_0
   cases q
   ·have hres:=kH (hbad rfl)
    clear hbad hq
    go_wp2_with (go_at_call 163;((with_reducible refine(cN.out _ hw).mono ?_);rintro e w1 ⟨rfl,hb⟩;have hw:=hw.trans (hb.mono hw.size);have B:=B.below hb;have b_0:=B.box1;have hsB:=bLt b_0;have D:=D.below hb;obtain⟨d_0,d_1,d_2,d_3⟩:=D.box4;have hsD:=bLt d_0;clear hb))
    go_returns
    exact⟨by rw[hres.out];rfl,hw'.out.trans (hw.mono hw'.out.size)⟩
   clear hbad hq
   go_wp2_with (go_at_call 163;((with_reducible refine(cN.out _ hw).mono ?_);rintro e w1 ⟨rfl,hb⟩;have hw:=hw.trans (hb.mono hw.size);have B:=B.below hb;have b_0:=B.box1;have hsB:=bLt b_0;have D:=D.below hb;obtain⟨d_0,d_1,d_2,d_3⟩:=D.box4;have hsD:=bLt d_0;clear hb))
   have hw:=hw'.out.trans (hw.mono hw'.out.size)
   generalize hbN:wr.heap.size=bN at *
   replace hbN:=kH hbN
   go_loopw [5] (fun i wr2=>∃j:Nat,j<=k/\i=.int .i64 j/\Below w.heap.size w wr2/\RowAt wr2 w.heap.size 0 [.slice (some ⟨b1,o1,none⟩) n c]/\RowAt wr2 bN 0 [.int .i64 kd,.int .i64 nn,.string s,.slice ka m kc]/\Hid (kd=2->s ∉ varsOf (d.nodes.take j))) (fun i _=>k-(intOf i).toNat)
   case atStart=>exact⟨0,by omega,rfl,hw,B,D,fun _=>by show s ∉ varsOf (d.nodes.take 0);simp[varsOf]⟩
   case round=>
    clear hw B D b_0 d_0 d_1 d_2 d_3 hsB hsD
    obtain⟨j,hj,rfl,hw,B,D,hI⟩:=hrel
    have b_0:=B.box1;have hsB:=bLt b_0;obtain⟨d_0,d_1,d_2,d_3⟩:=D.box4;have hsD:=bLt d_0
    by_cases hjk:j<k
    ·obtain⟨b3,o3,y,s3,_,hpa,P3,hy,r3⟩:=(h0.out.below GDNode.good hw).get hn (show j<n by omega)
     obtain⟨rfl,rfl⟩ : b3=b1/\o3=o1:=by injection hpa with h;injection h with h1 h2;exact⟨h1.symm,h2.symm⟩
     obtain⟨yd,yn,ys,yks⟩:=y
     obtain⟨y0,rfl,-,-⟩:=hy
     obtain⟨f_0,f_1,f_2,f_3⟩:=r3.cells4
     have hbj:=World.block_lt_of_cell? _ _ f_0
     dsimp only at hbj
     have P3':=P3.out
     have hin:∀ (h:yd=2) (h' : ys=s),s∈varsOf (d.nodes.take k):=fun h h'=>mem_varsOf.2 ⟨_,List.mem_take_iff_getElem.2 ⟨j,by have:=(List.getElem?_eq_some_iff.1 P3').1;omega,(List.getElem?_eq_some_iff.1 P3').2⟩,h,h'⟩
     have hnext:(kd=2->yd=2->ys≠s)->(kd=2->s ∉ varsOf (d.nodes.take (j+1))):=fun h hk2=>by
      rw[take_snoc' P3',varsOf_snoc]
      intro hm
      rcases List.mem_append.1 hm with h1|h1
      ·exact hI.out hk2 h1
      ·dsimp only at h1
       split at h1
       ·rename_i h2;simp only[List.mem_singleton]at h1;exact h hk2 h2 h1.symm
       ·cases h1
     have hse:(ys.toList == s.toList)=true ↔ ys=s:=by rw[beq_iff_eq];exact toList_eq _ _
     clear r3 P3 P3' hI hpa
     have hway:((kd == 2)=true/\(yd == 2)=true/\(ys.toList == s.toList)=true/\patOk d=false)\/(((kd == 2)=false\/(kd == 2)=true/\(yd == 2)=false\/(kd == 2)=true/\(yd == 2)=true/\(ys.toList == s.toList)=false)/\(kd=2->s ∉ varsOf (d.nodes.take (j+1)))):=by
      cases e1:(kd == 2)
      ·exact .inr ⟨.inl rfl,hnext fun h=>by simp[h]at e1⟩
      ·cases e2:(yd == 2)
       ·exact .inr ⟨.inr (.inl ⟨rfl,rfl⟩),hnext fun _ h=>by simp[h]at e2⟩
       ·cases e3:(ys.toList == s.toList)
        ·exact .inr ⟨.inr (.inr ⟨rfl,rfl,rfl⟩),hnext fun _ _ h=>by rw[hse.2 h]at e3;cases e3⟩
        ·exact .inl ⟨rfl,rfl,rfl,htwice.out (by simpa using e1) (hin (by simpa using e2) (hse.1 e3))⟩
     clear hin hnext hse
     rcases hway with⟨e1,e2,e3,hres⟩|⟨hno,hI⟩
     ·replace hres:=kH hres
      go_upto_region 11 with fail
      (refine wp_region_ext_lit (by kernel_rfl) (by kernel_rfl) ?_;(repeat (any_goals (first|go_big_quiet_step ((first|fail))|quiet_step ((first|fail))|(refine wpQuiet_step (fun K hK=>?_);go_simp;split<;>(refine hK _ ?_;clear hK K)))));all_goals (refine wpQuiet_nil ?_;rintro w1 ⟨⟨w2,hb⟩,rfl⟩;have hw:=hw.trans (hb.mono hw.size);have B:=B.below hb;have b_0:=B.box1;have hsB:=bLt b_0;have D:=D.below hb;obtain⟨d_0,d_1,d_2,d_3⟩:=D.box4;have hsD:=bLt d_0;clear hb))
      all_goals go_wp2_with fail
      all_goals go_returns
      all_goals exact⟨by rw[hres.out];rfl,hw⟩
     ·replace hI:=kH hI
      rcases hno with e1|⟨e1,e2⟩|⟨e1,e2,e3⟩
      all_goals go_upto_region 11 with fail
      all_goals (refine wp_region_ext_lit (by kernel_rfl) (by kernel_rfl) ?_;(repeat (any_goals (first|go_big_quiet_step ((first|fail))|quiet_step ((first|fail))|(refine wpQuiet_step (fun K hK=>?_);go_simp;split<;>(refine hK _ ?_;clear hK K)))));all_goals (refine wpQuiet_nil ?_;rintro w1 ⟨⟨w2,hb⟩,rfl⟩;have hw:=hw.trans (hb.mono hw.size);have B:=B.below hb;have b_0:=B.box1;have hsB:=bLt b_0;have D:=D.below hb;obtain⟨d_0,d_1,d_2,d_3⟩:=D.box4;have hsD:=bLt d_0;clear hb))
      all_goals go_wp2_with fail
      all_goals go_roundw
      all_goals first|exact⟨j+1,by omega,by go_num,hw,B,D,hI⟩|(simp[intOf];omega)
    ·obtain rfl:j=k:=by omega
     go_wp2_with fail
     go_roundw
     case rel=>exact⟨j+1,by omega,by go_num,hw,B,hstep.out trivial,by
      show(varsOf _).Nodup
      rw[htk.out]
      split
      ·rename_i h2;rw[List.nodup_append];exact⟨hV.out,by simp,fun a ha b hb=>by simp only[List.mem_singleton]at hb;subst hb;exact fun e=>hI.out h2 (e ▸ ha)⟩
      ·rw[List.append_nil];exact hV.out⟩
     case measure=>simp[intOf];omega
  ·obtain rfl:k=n:=by omega
   have CE':=fun W (hW:Below wr.heap.size wr W)=>CE.out W (hw.trans (hW.mono hw.size))
   have hgood:=patOk_good (d:=d) (by have:=hn.out;omega) (by have:=hn.out;omega) (hn.out ▸ hF.out) (hn.out ▸ hV.out)
   have hE:endsK d.nodes.length (kidsAt d.nodes) (d.nodes.length+1) 0=ends d.nodes (d.nodes.length+1) 0:=(ends_eq _ _ _).symm
   rw[hE]at hgood
   rw[<- hn.out]at hgood CE'
   replace hgood:=kH hgood
   generalize ends d.nodes (k+1) 0=E at *
   replace CE':=kH CE'
   go_wp2_with fail
   (refine wp_region_ext_lit (by kernel_rfl) (by kernel_rfl) ?_;(repeat (any_goals (first|go_big_quiet_step ((first|(go_at_call 164;exact Calls.ext (CE'.out _ (Subtype.property _)))))|quiet_step ((first|(go_at_call 164;exact Calls.ext (CE'.out _ (Subtype.property _)))))|(refine wpQuiet_step (fun K hK=>?_);go_simp;split<;>(refine hK _ ?_;clear hK K)))));all_goals (refine wpQuiet_nil ?_;rintro w1 ⟨⟨w2,hb⟩,rfl⟩;have hw:=hw.trans (hb.mono hw.size);have B:=B.below hb;have b_0:=B.box1;have hsB:=bLt b_0;clear hb))
   all_goals go_wp2_with fail
   all_goals go_returns
   all_goals exact⟨by rw[hgood.out];rfl,hw⟩
end Go.Proofs.YtkikkfjmggobpaaGreat
namespace Go.Proofs.YtkikkfjmggobpaaGreat
open Go.RowKit
set_option linter.unusedVariables false
set_option linter.unusedSimpArgs false
def patsOk (ps:List GPat):Bool:=ps.all fun q=>patOk (patD q)
def kidsIn (n:Nat) (ks:List Int):Bool:=ks.all fun k=>decide (0<=k)&&decide (k<(n:Int))
def nodSpec (N:List GNode) (x:GNode):Bool:=kidsIn N.length x.kids&&(nodOk N x&&patsOk x.pats)
def badA (x:GNode):Bool:=((((decide (x.kind<1)||decide (19<x.kind))||decide (x.at_<0))||(x.kind != 1&&x.n != 0))||decide (x.n<0))||decide (4611686018427387903<x.n)
def nodRest (N:List GNode) (x:GNode):Bool:=
 if x.kind=3\/x.kind=5\/x.kind=7\/x.kind=15 then nameOk x.s&&((x.pats.length:Int) == 0&&(x.kids.length:Int) == arP x.kind)
 else if x.kind=8 then nameOk x.s&&(((x.kids.length:Int) == 2&&firstK N x.kids == 5)&&(x.pats.length:Int) == 0)
 else if x.kind=10 then primOk x.s&&((x.pats.length:Int) == 0&&(x.kids.length:Int) == arP x.kind)
 else if x.kind=2 then ((x.pats.length:Int) == 0&&(x.kids.length:Int) == arP x.kind)
 else if x.kind=4 then ((x.pats.length:Int) == 0&&conShape x.s x.kids.length ((x.kids.length:Int) == 1&&firstK N x.kids == 11))
 else if x.kind=13 then x.s.toList.isEmpty&&(patsOk x.pats&&(decide (2<=(x.kids.length:Int))&&(x.pats.length:Int) == (x.kids.length:Int)-1))
 else x.s.toList.isEmpty&&((x.pats.length:Int) == 0&&(x.kids.length:Int) == arP x.kind)
theorem patsOk_nil {ps:List GPat} (h:((ps.length:Int) == 0)=true):patsOk ps=true:=by
 have:ps=[]:=List.length_eq_zero_iff.1 (by have:=eq_of_beq h;omega)
 subst this;rfl
theorem nodSpec_eq (N:List GNode) (x:GNode):nodSpec N x=(!badA x&&(kidsIn N.length x.kids&&nodRest N x)):=by
 obtain⟨kd,at_,nn,s,ks,ps⟩:=x
 unfold nodSpec nodOk nodBad nodBody badA nodRest nameN
 dsimp only
 generalize kidsIn N.length ks=ki
 have hps:=patsOk_nil (ps:=ps)
 have hp0:decide (0<(ps.length:Int)) = !((ps.length:Int) == 0):=by
  cases h:((ps.length:Int) == 0)
  ·have:=beq_eq_false_iff_ne.1 h;exact decide_eq_true (by omega)
  ·have:=eq_of_beq h;exact decide_eq_false (by omega)
 have hp1:decide (0<ps.length) = !((ps.length:Int) == 0):=by rw[<- hp0,decide_eq_decide];omega
 have e13:(decide (1<=(ps.length:Int))&&(ks.length:Int) == (ps.length:Int)+1)=(decide (2<=(ks.length:Int))&&(ps.length:Int) == (ks.length:Int)-1):=by
  rw[Bool.eq_iff_iff];simp;omega
 have nz:nn≠0->(nn != 0)=true:=fun h=>by simpa using h
 generalize patsOk ps=po at *
 generalize nameOk s=no
 generalize primOk s=pr
 generalize s.toList.isEmpty=se
 generalize firstK N ks=fk
 by_cases hz:nn=0
 ·subst hz
  rcases kind19 kd with rfl|rfl|rfl|rfl|rfl|rfl|rfl|rfl|rfl|rfl|rfl|rfl|rfl|rfl|rfl|rfl|rfl|rfl|rfl|hk
  case inr.inr.inr.inr.inr.inr.inr.inr.inr.inr.inr.inr.inr.inr.inr.inr.inr.inr.inr=>
   have:(decide (kd<1)||decide (19<kd))=true:=by simpa using hk
   rw[this]
   have e:∀j:Int,1<=j->j<=19->¬ kd=j:=fun j h1 h2=>by omega
   have n1:=e 1 (by omega) (by omega);have n2:=e 2 (by omega) (by omega);have n3:=e 3 (by omega) (by omega);have n4:=e 4 (by omega) (by omega);have n5:=e 5 (by omega) (by omega);have n6:=e 6 (by omega) (by omega);have n7:=e 7 (by omega) (by omega);have n8:=e 8 (by omega) (by omega);have n9:=e 9 (by omega) (by omega);have n10:=e 10 (by omega) (by omega);have n11:=e 11 (by omega) (by omega);have n12:=e 12 (by omega) (by omega);have n13:=e 13 (by omega) (by omega);have n14:=e 14 (by omega) (by omega);have n15:=e 15 (by omega) (by omega);have n16:=e 16 (by omega) (by omega);have n17:=e 17 (by omega) (by omega);have n18:=e 18 (by omega) (by omega);have n19:=e 19 (by omega) (by omega)
   simp[n1,n2,n3,n4,n5,n6,n7,n8,n9,n10,n11,n12,n13,n14,n15,n16,n17,n18,n19]
  all_goals simp[arP,hp0]
  all_goals try simp only[bne,hp1]
  case pos.inr.inr.inr.inr.inr.inr.inr.inr.inr.inr.inr.inr.inl=>
   rw[e13]
   generalize (decide (2<=(ks.length:Int))&&(ps.length:Int) == (ks.length:Int)-1)=q
   generalize decide (at_<0)=a
   cases ki<;>cases a<;>cases se<;>cases po<;>cases q<;>rfl
  all_goals generalize ((ps.length:Int) == 0)=pz at *
  all_goals generalize decide (at_<0)=a
  all_goals clear hp0 hp1 e13
  all_goals (try generalize conShape s _ _=cs)
  all_goals (try generalize ((ks.length:Int) == _)=kz)
  all_goals (try generalize (fk == 5)=f5)
  all_goals
   cases pz with
   |false=>cases ki<;>cases a<;>simp
   |true=>
    obtain rfl:=hps rfl
    cases ki<;>cases a<;>(try simp)<;>(try (cases kz<;>simp))
 ·rw[nz hz]
  by_cases h1:kd=1
  ·subst h1
   simp[arP,hp0]
   have q1:decide (nn<0) = !decide (0<=nn):=by rw[<- decide_not,decide_eq_decide];omega
   have q2:decide (4611686018427387903<nn) = !decide (nn<=4611686018427387903):=by rw[<- decide_not,decide_eq_decide];omega
   simp only[bne,hp1,q1,q2]
   generalize decide (0<=nn)=r1
   generalize decide (nn<=4611686018427387903)=r2
   generalize ((ps.length:Int) == 0)=pz at *
   generalize decide (at_<0)=a
   generalize ((ks.length:Int) == _)=kz
   clear hp0 hp1 e13 q1 q2
   cases pz with
   |false=>cases ki<;>cases a<;>cases r1<;>cases r2<;>simp
   |true=>
    obtain rfl:=hps rfl
    cases ki<;>cases a<;>cases r1<;>cases r2<;>(try simp)<;>(try (cases kz<;>simp))
  ·have h1' : (kd != 1)=true:=by simpa using h1
   by_cases h3:kd=3
   ·subst h3
    have h0:(nn == 0)=false:=by simpa using hz
    simp[h0,hz]
   ·have h3' : (kd != 3)=true:=by simpa using h3
    rw[h1',h3']
    simp
end Go.Proofs.YtkikkfjmggobpaaGreat
namespace Go.Proofs.YtkikkfjmggobpaaGreat
open Go.RowKit
set_option maxRecDepth 100000
set_option maxHeartbeats 16000000
set_option linter.unusedVariables false
set_option linter.unusedSimpArgs false
attribute [local go_sem] Ext.cell
theorem TyOk_c (x:GTy) (hl:x.items.length<=1152921504606846976) (r:List Value) (lo:Nat) (w:World) (hr:GTy.R lo w r x) :
  Calls Tryz.prog 171 #[.agg r.toArray] w fun e w'=>e=.returned (.bool (tyOk x))/\Below w.heap.size w w':=by
 obtain⟨u0,rfl,-,a0⟩:=hr
 have cT:=fun W (hW:Below w.heap.size w W)=>tyOk_c x.items hl u0 lo W (a0.below GTyItem.good hW)
 obtain⟨a,c,rfl⟩:=a0.form
 unfold tyOk
 generalize tyGo 1 x.items=t at *
 generalize x.items.length=n at *
 clear a0
 replace cT:=kH cT
 generalize hd:decide ((n:Int)<=200)=d
 have hd2:decide (n<=200)=d:=by rw[<- hd,decide_eq_decide];omega
 cases d
 all_goals
  show Calls Tryz.prog 171 #[.agg #[.slice a n c]] w _
  go_enter Tryz.func171,Tryz.ntmps171
  go_upto_region 1 with fail
  have D:RowAt (w.alloc (.cells #[.slice a n c] 33)) (w.heap.size) 0 [.slice a n c]:=RowAt.box w #[.slice a n c] 33
  have hw:Below w.heap.size w (w.alloc (.cells #[.slice a n c] 33)):=by go_grown
  generalize (w.alloc (.cells #[.slice a n c] 33))=w0 at *
  have d_0:=D.box1;have hsD:=bLt d_0
  go_wp2_with (go_at_call 182;((with_reducible refine(cT.out _ hw).mono ?_);rintro e w1 ⟨rfl,hb⟩;have hw:=hw.trans (hb.mono hw.size);have D:=D.below hb;have d_0:=D.box1;have hsD:=bLt d_0;clear hb))
  go_returns
  exact⟨rfl,hw⟩
theorem l04Item_c (x:GTyItem) (hx:x.wf) (w:World) :
  Calls Tryz.prog 162 #[.agg #[.int .i64 x.var,.string x.name,.int .i64 x.arity]] w fun e w'=>e=.returned (.bool (itemOk x))/\Below w.heap.size w w':=by
 obtain⟨xv,xs,xa⟩:=x
 have cN:=fun W=>spec_NameOk_c xs hx.2.1 W
 have ev:decide (0<=xv/\xv<=9999)=(decide (0<=xv)&&decide (xv<=9999)):=by rw[Bool.decide_and]
 have ea:decide (0<=xa/\xa<=2)=(decide (0<=xa)&&decide (xa<=2)):=by rw[Bool.decide_and]
 have x1:(xa == 1)=true->decide (0<=xa)=true/\decide (xa<=2)=true:=fun h=>by simp at h;subst h;simp
 have x2:(xa == 2)=true->decide (0<=xa)=true/\decide (xa<=2)=true:=fun h=>by simp at h;subst h;simp
 have k12:(xs.toList == sRef)=true->(xs.toList == sArrow)=false/\(xs.toList == sStar)=false:=fun h=>by rw[eq_of_beq h];decide
 unfold itemOk tyNameOk
 dsimp only
 rw[ev,ea]
 unfold sRef sArrow sStar at *
 generalize nameOk xs=no at *
 have eb:∀y:Int,(y != 0) = !(y == 0):=fun y=>rfl
 have e0:=eb xv
 clear hx ev ea eb
 obtain⟨q1,hq1⟩ : ∃q,decide (0<=xv)=q:=⟨_,rfl⟩
 obtain⟨q2,hq2⟩ : ∃q,decide (xv<=9999)=q:=⟨_,rfl⟩
 obtain⟨q3,hq3⟩ : ∃q,decide (0<=xa)=q:=⟨_,rfl⟩
 obtain⟨q4,hq4⟩ : ∃q,decide (xa<=2)=q:=⟨_,rfl⟩
 rw[hq1,hq2,hq3,hq4]
 rw[hq3,hq4]at x1 x2
 cases e1:xs.toList.isEmpty
 ·cases e2:(xv == 0)
  ·have e0' : (xv != 0)=true:=by rw[e0,e2];rfl
   clear e0 x1 x2 k12 hq1 hq2 hq3 hq4
   go_enter Tryz.func162,Tryz.ntmps162
   go_upto_region 1 with fail
   have D:RowAt (w.alloc (.cells #[.int .i64 xv,.string xs,.int .i64 xa] 107)) (w.heap.size) 0 [.int .i64 xv,.string xs,.int .i64 xa]:=RowAt.box w #[.int .i64 xv,.string xs,.int .i64 xa] 107
   have hw:Below w.heap.size w (w.alloc (.cells #[.int .i64 xv,.string xs,.int .i64 xa] 107)):=by go_grown
   generalize (w.alloc (.cells #[.int .i64 xv,.string xs,.int .i64 xa] 107))=w0 at *
   obtain⟨d_0,d_1,d_2⟩:=D.box3;have hsD:=bLt d_0
   go_wp2_with (go_at_call 89;((with_reducible refine(cN _).mono ?_);rintro e w1 ⟨rfl,hb⟩;have hw:=hw.trans (hb.mono hw.size);have D:=D.below hb;obtain⟨d_0,d_1,d_2⟩:=D.box3;have hsD:=bLt d_0;clear hb))
   go_returns
   exact⟨rfl,hw⟩
  ·have e0' : (xv != 0)=false:=by rw[e0,e2];rfl
   clear e0 hq1 hq2
   cases b1:(xs.toList == [114,101,102])
   ·clear k12
    cases b2:(xs.toList == [45,62])
    ·cases b3:(xs.toList == [42])
     ·clear x1 x2
      cases q3<;>cases q4<;>cases no
      all_goals
       go_enter Tryz.func162,Tryz.ntmps162
       go_upto_region 1 with fail
       have D:RowAt (w.alloc (.cells #[.int .i64 xv,.string xs,.int .i64 xa] 107)) (w.heap.size) 0 [.int .i64 xv,.string xs,.int .i64 xa]:=RowAt.box w #[.int .i64 xv,.string xs,.int .i64 xa] 107
       have hw:Below w.heap.size w (w.alloc (.cells #[.int .i64 xv,.string xs,.int .i64 xa] 107)):=by go_grown
       generalize (w.alloc (.cells #[.int .i64 xv,.string xs,.int .i64 xa] 107))=w0 at *
       obtain⟨d_0,d_1,d_2⟩:=D.box3;have hsD:=bLt d_0
       go_wp2_with (go_at_call 89;((with_reducible refine(cN _).mono ?_);rintro e w1 ⟨rfl,hb⟩;have hw:=hw.trans (hb.mono hw.size);have D:=D.below hb;obtain⟨d_0,d_1,d_2⟩:=D.box3;have hsD:=bLt d_0;clear hb))
       go_returns
       exact⟨rfl,hw⟩
     ·cases a2:(xa == 2)
      rotate_left
      obtain⟨rfl,rfl⟩:=x2 a2
      rotate_left
      all_goals clear x1 x2 hq3 hq4
      cases q3<;>cases q4
      all_goals
       go_enter Tryz.func162,Tryz.ntmps162
       go_upto_region 1 with fail
       have D:RowAt (w.alloc (.cells #[.int .i64 xv,.string xs,.int .i64 xa] 107)) (w.heap.size) 0 [.int .i64 xv,.string xs,.int .i64 xa]:=RowAt.box w #[.int .i64 xv,.string xs,.int .i64 xa] 107
       have hw:Below w.heap.size w (w.alloc (.cells #[.int .i64 xv,.string xs,.int .i64 xa] 107)):=by go_grown
       generalize (w.alloc (.cells #[.int .i64 xv,.string xs,.int .i64 xa] 107))=w0 at *
       obtain⟨d_0,d_1,d_2⟩:=D.box3;have hsD:=bLt d_0
       go_wp2_with (go_at_call 89;((with_reducible refine(cN _).mono ?_);rintro e w1 ⟨rfl,hb⟩;have hw:=hw.trans (hb.mono hw.size);have D:=D.below hb;obtain⟨d_0,d_1,d_2⟩:=D.box3;have hsD:=bLt d_0;clear hb))
       go_returns
       exact⟨rfl,hw⟩
    ·cases a2:(xa == 2)
     rotate_left
     obtain⟨rfl,rfl⟩:=x2 a2
     rotate_left
     all_goals clear x1 x2 hq3 hq4
     cases q3<;>cases q4
     all_goals
      go_enter Tryz.func162,Tryz.ntmps162
      go_upto_region 1 with fail
      have D:RowAt (w.alloc (.cells #[.int .i64 xv,.string xs,.int .i64 xa] 107)) (w.heap.size) 0 [.int .i64 xv,.string xs,.int .i64 xa]:=RowAt.box w #[.int .i64 xv,.string xs,.int .i64 xa] 107
      have hw:Below w.heap.size w (w.alloc (.cells #[.int .i64 xv,.string xs,.int .i64 xa] 107)):=by go_grown
      generalize (w.alloc (.cells #[.int .i64 xv,.string xs,.int .i64 xa] 107))=w0 at *
      obtain⟨d_0,d_1,d_2⟩:=D.box3;have hsD:=bLt d_0
      go_wp2_with (go_at_call 89;((with_reducible refine(cN _).mono ?_);rintro e w1 ⟨rfl,hb⟩;have hw:=hw.trans (hb.mono hw.size);have D:=D.below hb;obtain⟨d_0,d_1,d_2⟩:=D.box3;have hsD:=bLt d_0;clear hb))
      go_returns
      exact⟨rfl,hw⟩
   ·obtain⟨b2,b3⟩:=k12 b1
    clear k12
    cases a1:(xa == 1)
    rotate_left
    obtain⟨rfl,rfl⟩:=x1 a1
    rotate_left
    all_goals clear x1 x2 hq3 hq4
    cases q3<;>cases q4
    all_goals
     go_enter Tryz.func162,Tryz.ntmps162
     go_upto_region 1 with fail
     have D:RowAt (w.alloc (.cells #[.int .i64 xv,.string xs,.int .i64 xa] 107)) (w.heap.size) 0 [.int .i64 xv,.string xs,.int .i64 xa]:=RowAt.box w #[.int .i64 xv,.string xs,.int .i64 xa] 107
     have hw:Below w.heap.size w (w.alloc (.cells #[.int .i64 xv,.string xs,.int .i64 xa] 107)):=by go_grown
     generalize (w.alloc (.cells #[.int .i64 xv,.string xs,.int .i64 xa] 107))=w0 at *
     obtain⟨d_0,d_1,d_2⟩:=D.box3;have hsD:=bLt d_0
     go_wp2_with (go_at_call 89;((with_reducible refine(cN _).mono ?_);rintro e w1 ⟨rfl,hb⟩;have hw:=hw.trans (hb.mono hw.size);have D:=D.below hb;obtain⟨d_0,d_1,d_2⟩:=D.box3;have hsD:=bLt d_0;clear hb))
     go_returns
     exact⟨rfl,hw⟩
 ·cases q1<;>cases q2<;>cases e3:(xa == 0)
  all_goals clear x1 x2 k12 e0 hq3 hq4
  all_goals
   go_enter Tryz.func162,Tryz.ntmps162
   go_upto_region 1 with fail
   have D:RowAt (w.alloc (.cells #[.int .i64 xv,.string xs,.int .i64 xa] 107)) (w.heap.size) 0 [.int .i64 xv,.string xs,.int .i64 xa]:=RowAt.box w #[.int .i64 xv,.string xs,.int .i64 xa] 107
   have hw:Below w.heap.size w (w.alloc (.cells #[.int .i64 xv,.string xs,.int .i64 xa] 107)):=by go_grown
   generalize (w.alloc (.cells #[.int .i64 xv,.string xs,.int .i64 xa] 107))=w0 at *
   obtain⟨d_0,d_1,d_2⟩:=D.box3;have hsD:=bLt d_0
   go_wp2_with (go_at_call 89;((with_reducible refine(cN _).mono ?_);rintro e w1 ⟨rfl,hb⟩;have hw:=hw.trans (hb.mono hw.size);have D:=D.below hb;obtain⟨d_0,d_1,d_2⟩:=D.box3;have hsD:=bLt d_0;clear hb))
   go_returns
   exact⟨rfl,hw⟩
theorem l04End_c (x:GTy) (hl:x.items.length<=1152921504606846976) (hok:x.items.all itemOk=true):∀ (f i:Nat) (r:List Value) (lo:Nat) (w:World),GTy.R lo w r x->x.items.length<i+f->
  Calls Tryz.prog 138 #[.agg r.toArray,.int .i64 i] w fun e w'=>e=.returned (.int .i64 (tend x.items f i))/\Below w.heap.size w w'
 |f,i,r,lo,w,hx,hf=>by
  have ih:∀ (f' i:Nat) (r:List Value) (lo:Nat) (w:World),f=f' + 1->GTy.R lo w r x->x.items.length<i+f'->
   Calls Tryz.prog 138 #[.agg r.toArray,.int .i64 i] w fun e w'=>e=.returned (.int .i64 (tend x.items f' i))/\Below w.heap.size w w':=fun f' i r lo w h=>l04End_c x hl hok f' i r lo w
  have Hx:=hx
  obtain⟨u0,rfl,-,a0⟩:=hx
  obtain⟨a,c,rfl,ul,um,h0⟩:=a0
  obtain⟨n,hn⟩ : ∃n,n=x.items.length:=⟨_,rfl⟩
  rw[<- hn]at ul hl ih hf Hx ⊢
  replace hn:=kH hn
  have d0:decide ((i:Int)<0)=false:=decide_eq_false (by omega)
  by_cases hlt:i<n
  ·obtain⟨f,rfl⟩ : ∃f',f=f' + 1:=by
    cases f with
    |zero=>exact absurd hf (by omega)
    |succ f=>exact⟨f,rfl⟩
   have d1:decide ((n:Int)<=(i:Int))=false:=decide_eq_false (by omega)
   have d1' : decide (n<=i)=false:=decide_eq_false (by omega)
   obtain⟨b1,o1,y,s1,_,rfl,P1,⟨rfl,hwf⟩,r1⟩:=h0.get hn.out hlt
   have hR:GTy.R lo w [.slice (some ⟨b1,o1,none⟩) n c] x:=Hx
   have hao:itemOk y=true:=List.all_eq_true.1 hok y (List.mem_of_getElem? P1.out)
   obtain⟨ar0,ar2⟩:=itemOk_ar hao
   have hend:tend x.items (f+1) i=tendN (tend x.items f) y.arity.toNat (i+1):=by conv=>lhs;unfold tend;rw[P1.out]
   have hrg:=fun z (h:z<=n) (h2:n<z+f)=>tend_range x.items f z (by rw[<- hn.out];exact h2) (by rw[<- hn.out];exact h)
   rw[<- hn.out]at hrg
   rw[hend]
   obtain⟨e_0,e_1,e_2⟩:=r1.cells3
   have hb1:=World.block_lt_of_cell? _ _ e_0;dsimp only at hb1
   generalize y.arity=ar at *
   obtain⟨m,rfl⟩ : ∃m:Nat,ar=m:=⟨ar.toNat,by omega⟩
   rw[Int.toNat_natCast]
   replace ih:=kH (fun i r lo w=>ih f i r lo w rfl)
   generalize hres:tendN (tend x.items f) m (i+1)=res
   have h00:Hid (tendN (tend x.items f) (m-0) ((i+1:Nat):Int)=res):=hres
   replace hR:=kH hR;replace hrg:=kH hrg
   clear hres Hx hend P1 hao h0 hwf r1
   have hbw:∀W,Below w.heap.size w W->W.cell? ⟨b1,o1+i*3+2,none⟩=some (.int .i64 (m:Int)):=fun W hW=>cell_below hW e_2
   replace hbw:=kH hbw
   go_enter Tryz.func138,Tryz.ntmps138
   go_upto_region 1 with fail
   have D:RowAt (w.alloc (.cells #[.slice (some ⟨b1,o1,none⟩) n c] 33)) (w.heap.size) 0 [.slice (some ⟨b1,o1,none⟩) n c]:=RowAt.box w #[.slice (some ⟨b1,o1,none⟩) n c] 33
   have hw:Below w.heap.size w (w.alloc (.cells #[.slice (some ⟨b1,o1,none⟩) n c] 33)):=by go_grown
   generalize (w.alloc (.cells #[.slice (some ⟨b1,o1,none⟩) n c] 33))=w0 at *
   clear e_0 e_1 e_2
   have e_2:=hbw.out _ hw
   have d_0:=D.box1;have hsD:=bLt d_0
   go_wp2_with fail
   go_loopw [5,6] (fun nx ii wr=>∃ (j:Nat) (z:Int),j<=m/\(z = -1\/∃z' : Nat,z=z'/\i<z'/\z'<=n)/\nx=.int .i64 z/\ii=.int .i64 j/\Hid (tendN (tend x.items f) (m-j) z=res)/\Below w.heap.size w wr/\RowAt wr w.heap.size 0 [.slice (some ⟨b1,o1,none⟩) n c]) (fun _ ii _=>m-(intOf ii).toNat)
   case atStart=>exact⟨0,((i+1:Nat):Int),by omega,.inr ⟨i+1,rfl,by omega,by omega⟩,by go_num,rfl,h00,hw,D⟩
   case round=>
    clear e_2 D d_0 hsD hw h00
    obtain⟨j,z,hj,hz,rfl,rfl,hK,hw,D⟩:=hrel
    have e_2:=hbw.out _ hw
    have hsz:=hw.size
    have d_0:=D.box1;have hsD:=bLt d_0
    by_cases hjm:j<m
    ·rcases hz with rfl|⟨z,rfl,hz1,hz2⟩
     ·have hres:(-1:Int)=res:=by rw[<- hK.out];exact(tendN_neg _ _ _ (by omega)).symm
      subst hres
      have d3:decide ((j:Int)<(m:Int))=true:=decide_eq_true (by omega)
      clear hK
      go_wp2_with fail
      go_returns
      exact⟨rfl,hw⟩
     ·have hres:tendN (tend x.items f) (m-(j+1)) (tend x.items f z)=res:=by
       rw[<- hK.out,show m-j=(m-(j+1))+1 by omega]
       conv=>rhs;unfold tendN
       rw[if_neg (by omega),Int.toNat_natCast]
      have d3:decide ((j:Int)<(m:Int))=true:=decide_eq_true (by omega)
      have d4:decide ((0:Int)<=(z:Int))=true:=decide_eq_true (by omega)
      have c1:=ih.out z _ lo wr (GTy.good.below hR.out hw) (by omega)
      have hr2:=hrg.out z hz2 (by omega)
      generalize tend x.items f z=t at *
      replace hres:=kH hres;replace c1:=kH c1;replace hr2:=kH hr2
      clear hK
      go_wp2_with (go_at_call 138;(with_reducible refine(c1.out).mono ?_);rintro e w2 ⟨rfl,hb⟩)
      have hw2:=hw.trans (hb.mono hsz)
      have D2:=D.below hb
      go_roundw
      case rel=>exact⟨j+1,t,by omega,hr2.out.imp id (fun⟨z',h1,h2,h3⟩=>⟨z',h1,by omega,h3⟩),rfl,by go_num,hres,hw2,D2⟩
      case measure=>simp[intOf];omega
    ·obtain rfl:j=m:=by omega
     have hres:z=res:=by rw[<- hK.out,Nat.sub_self];rfl
     subst hres
     clear hK hz
     go_wp2_with fail
     go_returns
     exact⟨rfl,hw⟩
  ·have d1:decide ((n:Int)<=(i:Int))=true:=decide_eq_true (by omega)
   have d1' : decide (n<=i)=true:=decide_eq_true (by omega)
   have hend:tend x.items f i = -1:=by
    cases f with
    |zero=>rfl
    |succ f=>unfold tend;rw[List.getElem?_eq_none (by rw[<- hn.out];omega)]
   rw[hend]
   clear hend h0 ih Hx
   go_enter Tryz.func138,Tryz.ntmps138
   go_wp2_with fail
   go_returns
   exact⟨rfl,by go_grown⟩
theorem specTyOk_c (x:GTy) (hl:x.items.length<=1152921504606846976) (r:List Value) (lo:Nat) (w:World) (hx:GTy.R lo w r x) :
  Calls Tryz.prog 131 #[.agg r.toArray] w fun e w'=>e=.returned (.bool (tyOk x))/\Below w.heap.size w w':=by
 have Hx:=hx
 obtain⟨u0,rfl,-,a0⟩:=hx
 obtain⟨a,c,rfl,ul,um,h0⟩:=a0
 have cE:=fun h W (hW:Below w.heap.size w W)=>l04End_c x hl h (x.items.length+1) 0 _ lo W (GTy.good.below Hx hW) (by omega)
 obtain⟨n,hn⟩ : ∃n,n=x.items.length:=⟨_,rfl⟩
 have hT:tyOk x=(decide ((n:Int)<=200)&&(x.items.all itemOk&&decide (tend x.items (n+1) 0=n))):=by unfold tyOk;rw[tyGo_tend,hn]
 rw[<- hn]at ul hl cE ⊢
 replace hn:=kH hn;replace h0:=kH h0;replace cE:=kH cE
 clear Hx
 by_cases h2:200<n
 ·have d1:decide (200<(n:Int))=true:=decide_eq_true (by omega)
  have d1' : decide (200<n)=true:=decide_eq_true h2
  rw[decide_eq_false (by omega),Bool.false_and]at hT
  rw[hT]
  clear hT
  go_enter Tryz.func131,Tryz.ntmps131
  go_wp2_with fail
  go_returns
  exact⟨rfl,by go_grown⟩
 have d1:decide (200<(n:Int))=false:=decide_eq_false (by omega)
 have d1' : decide (200<n)=false:=decide_eq_false h2
 rw[decide_eq_true (by omega),Bool.true_and]at hT
 replace hT:=kH hT
 go_enter Tryz.func131,Tryz.ntmps131
 go_upto_region 1 with fail
 have D:RowAt (w.alloc (.cells #[.slice a n c] 33)) (w.heap.size) 0 [.slice a n c]:=RowAt.box w #[.slice a n c] 33
 have hw:Below w.heap.size w (w.alloc (.cells #[.slice a n c] 33)):=by go_grown
 generalize (w.alloc (.cells #[.slice a n c] 33))=w0 at *
 have d_0:=D.box1;have hsD:=bLt d_0
 go_wp2_with fail
 go_loopw [12] (fun ii wr=>∃k:Nat,k<=n/\ii=.int .i64 k/\Hid (∀y∈x.items.take k,itemOk y=true)/\Below w.heap.size w wr/\RowAt wr w.heap.size 0 [.slice a n c]) (fun ii _=>n-(intOf ii).toNat)
 case atStart=>exact⟨0,by omega,rfl,fun y hy=>by simp at hy,hw,D⟩
 case round=>
  clear D d_0 hsD hw
  obtain⟨k,hk,rfl,hF,hw,D⟩:=hrel
  have hsz:=hw.size
  have d_0:=D.box1;have hsD:=bLt d_0
  by_cases hlt:k<n
  ·obtain⟨b1,o1,y,s1,_,rfl,P1,⟨rfl,hwf⟩,r1⟩:=(h0.out.below GTyItem.good hw).get hn.out hlt
   have cI:=fun W=>l04Item_c y hwf W
   have hno:itemOk y=false->tyOk x=false:=fun h=>by
    rw[hT.out,show(x.items.all itemOk)=false from List.all_eq_false.2 ⟨y,List.mem_of_getElem? P1.out,by rw[h];decide⟩];rfl
   have hyes:itemOk y=true->∀z∈x.items.take (k+1),itemOk z=true:=fun h z hz=>by
    rw[take_snoc' P1.out]at hz
    rcases List.mem_append.1 hz with h'|h'
    ·exact hF.out z h'
    ·simp at h';subst h';exact h
   obtain⟨e_0,e_1,e_2⟩:=r1.cells3
   have hb1:=World.block_lt_of_cell? _ _ e_0;dsimp only at hb1
   obtain⟨xv,xs,xa⟩:=y
   dsimp only at *
   generalize itemOk ⟨xv,xs,xa⟩=q at *
   clear r1 hwf P1 hF
   replace hno:=kH hno;replace hyes:=kH hyes
   go_upto_region 6 with fail
   have hb1' : Below wr.heap.size wr (wr.alloc (.cells #[.int .i64 xv,.string xs,.int .i64 xa] 107)):=by go_grown
   have E:RowAt (wr.alloc (.cells #[.int .i64 xv,.string xs,.int .i64 xa] 107)) wr.heap.size 0 [.int .i64 xv,.string xs,.int .i64 xa]:=RowAt.box _ _ _
   have hw':=hw.trans (hb1'.mono hsz)
   have D':=D.below hb1'
   generalize wr.alloc (.cells #[.int .i64 xv,.string xs,.int .i64 xa] 107)=w0 at *
   clear hw hb1' e_0 e_1 e_2 D d_0
   have hw:=hw';clear hw'
   have D:=D';clear D'
   have d_0:=D.box1;have hsD:=bLt d_0;obtain⟨e_0,e_1,e_2⟩:=E.box3;have hsE:=bLt e_0
   cases q
   ·have hres:=hno.out rfl
    clear hno hyes
    replace hres:=kH hres
    go_wp2_with (go_at_call 162;((with_reducible refine(cI _).mono ?_);rintro e w1 ⟨rfl,hb⟩;have hw:=hw.trans (hb.mono hw.size);have D:=D.below hb;have d_0:=D.box1;have hsD:=bLt d_0;have E:=E.below hb;obtain⟨e_0,e_1,e_2⟩:=E.box3;have hsE:=bLt e_0;clear hb))
    go_returns
    exact⟨by rw[hres.out];rfl,hw⟩
   ·have hF:=kH (hyes.out rfl)
    clear hno hyes
    go_wp2_with (go_at_call 162;((with_reducible refine(cI _).mono ?_);rintro e w1 ⟨rfl,hb⟩;have hw:=hw.trans (hb.mono hw.size);have D:=D.below hb;have d_0:=D.box1;have hsD:=bLt d_0;have E:=E.below hb;obtain⟨e_0,e_1,e_2⟩:=E.box3;have hsE:=bLt e_0;clear hb))
    go_roundw
    case rel=>exact⟨k+1,by omega,by go_num,hF,hw,D⟩
    case measure=>simp[intOf];omega
  ·obtain rfl:k=n:=by omega
   have hall:x.items.all itemOk=true:=List.all_eq_true.2 fun y hy=>hF.out y (by rw[List.take_of_length_le (by rw[<- hn.out];exact Nat.le_refl _)];exact hy)
   have cE':=fun W (hW:Below wr.heap.size wr W)=>cE.out hall W (hw.trans (hW.mono hsz))
   have hT:=hT.out
   rw[hall,Bool.true_and]at hT
   generalize tend x.items (k+1) 0=t at *
   have ht:decide (t=(k:Int))=(t == (k:Int)):=by cases h:(t == (k:Int))<;>simp_all
   rw[ht]at hT
   generalize hq:(t == (k:Int))=q at *
   replace cE':=kH cE';replace hT:=kH hT
   clear hF hall ht cE
   go_upto_region 9 with fail
   (refine wp_region_ext_lit (by kernel_rfl) (by kernel_rfl) ?_;(repeat (any_goals (first|go_big_quiet_step ((first|(go_at_call 138;exact Calls.ext (cE'.out _ (Subtype.property _)))))|quiet_step ((first|(go_at_call 138;exact Calls.ext (cE'.out _ (Subtype.property _)))))|(refine wpQuiet_step (fun K hK=>?_);go_simp;split<;>(refine hK _ ?_;clear hK K)))));all_goals (refine wpQuiet_nil ?_;rintro w1 ⟨⟨w2,hb⟩,rfl⟩;have hw:=hw.trans (hb.mono hw.size);have D:=D.below hb;have d_0:=D.box1;have hsD:=bLt d_0;clear hb))
   all_goals go_wp2_with fail
   all_goals go_returns
   all_goals exact⟨by rw[hT.out];rfl,hw⟩
def varIn (p:Int) (x:GTyItem):Bool:=!(x.name.toList.isEmpty&&decide (p<=x.var))
def conHas (c:GCon):Bool:=if c.has then tyOk c.arg else c.arg.items.length == 0
def conDecl (p:Int) (c:GCon):Bool:=conOk c.name&&(conHas c&&c.arg.items.all (varIn p))
def typeOk (t:GType):Bool:=nameOk t.name&&(decide (0<=t.params/\t.params<=2)&&(decide (1<=(t.cons.length:Int)/\(t.cons.length:Int)<=8)&&t.cons.all (conDecl t.params)))
def typeSm (t:GType):Prop:=t.cons.length<=1152921504606846976/\∀c∈t.cons,c.arg.items.length<=1152921504606846976
theorem all_bad {α:Type} {l:List α} {f:α->Bool} {k:Nat} {x:α} (h:l[k]? = some x) (hf:f x=false):l.all f=false:=
 List.all_eq_false.2 ⟨x,List.mem_of_getElem? h,by rw[hf];decide⟩
theorem all_stepL {α:Type} {l:List α} {f:α->Bool} {k:Nat} {x:α} (h:∀y∈l.take k,f y=true) (hx:l[k]? = some x) (hf:f x=true):∀y∈l.take (k+1),f y=true:=by
 rw[take_snoc' hx]
 intro z hz
 rcases List.mem_append.1 hz with h'|h'
 ·exact h z h'
 ·simp at h';subst h';exact hf
theorem all_full {α:Type} {l:List α} {f:α->Bool} {k:Nat} (h:∀y∈l.take k,f y=true) (hk:k=l.length):l.all f=true:=
 List.all_eq_true.2 fun y hy=>h y (by rw[List.take_of_length_le (by omega)];exact hy)
theorem typeOk_c (t:GType) (hl:typeSm t) (r:List Value) (lo:Nat) (w:World) (hr:GType.R lo w r t) :
  Calls Tryz.prog 144 #[.agg r.toArray] w fun e w'=>e=.returned (.bool (typeOk t))/\Below w.heap.size w w':=by
 obtain⟨nm,pp,cs⟩:=t
 obtain⟨u0,rfl,hwf,a0⟩:=hr
 obtain⟨hl1,hl2⟩:=hl
 obtain⟨a,c,rfl,ul,um,h0⟩:=a0
 dsimp only at *
 have hT:typeOk ⟨nm,pp,cs⟩=(nameOk nm&&(decide (0<=pp/\pp<=2)&&(decide (1<=(cs.length:Int)/\(cs.length:Int)<=8)&&cs.all (conDecl pp)))):=rfl
 generalize typeOk ⟨nm,pp,cs⟩=res at *
 have cN:=fun W=>impl_NameOk_c nm hwf.1 W
 have W1:=fun W=>within_c pp 0 2 W
 have W2:=fun W=>within_c cs.length 1 8 W
 obtain⟨n,hn⟩ : ∃n,n=cs.length:=⟨_,rfl⟩
 rw[<- hn]at ul hl1 hT W2 ⊢
 replace hn:=kH hn;replace h0:=kH h0;replace hl2:=kH hl2
 show Calls Tryz.prog 144 #[.agg #[.string nm,.int .i64 pp,.slice a n c]] w _
 generalize hq1:nameOk nm=q1 at *
 generalize hq2:decide (0<=pp/\pp<=2)=q2 at *
 generalize hq3:decide (1<=(n:Int)/\(n:Int)<=8)=q3 at *
 clear hq1 hq2 hwf
 by_cases hbad:(q1&&(q2&&q3))=false
 ·have hres:res=false:=by rw[hT];cases q1<;>cases q2<;>cases q3<;>first|rfl|(exact absurd hbad (by decide))
  subst hres
  clear hT hq3 h0
  cases q1<;>cases q2<;>cases q3
  all_goals first
   |(exact absurd hbad (by decide))
   |(clear hbad
     go_enter Tryz.func144,Tryz.ntmps144
     go_upto_region 1 with fail
     have D:RowAt (w.alloc (.cells #[.string nm,.int .i64 pp,.slice a n c] 101)) (w.heap.size) 0 [.string nm,.int .i64 pp,.slice a n c]:=RowAt.box w #[.string nm,.int .i64 pp,.slice a n c] 101
     have hw:Below w.heap.size w (w.alloc (.cells #[.string nm,.int .i64 pp,.slice a n c] 101)):=by go_grown
     generalize (w.alloc (.cells #[.string nm,.int .i64 pp,.slice a n c] 101))=w0 at *
     obtain⟨d_0,d_1,d_2⟩:=D.box3;have hsD:=bLt d_0
     go_wp2_with (first|(go_at_call 103;((with_reducible refine(cN _).mono ?_);rintro e w1 ⟨rfl,hb⟩;have hw:=hw.trans (hb.mono hw.size);have D:=D.below hb;obtain⟨d_0,d_1,d_2⟩:=D.box3;have hsD:=bLt d_0;clear hb))|(go_at_call 66;((with_reducible refine(W1 _).mono ?_);rintro e w1 ⟨rfl,rfl⟩))|(go_at_call 66;((with_reducible refine(W2 _).mono ?_);rintro e w1 ⟨rfl,rfl⟩)))
     go_returns
     exact⟨rfl,hw⟩)
 have hq:q1=true/\q2=true/\q3=true:=by cases q1<;>cases q2<;>cases q3<;>first|exact⟨rfl,rfl,rfl⟩|exact absurd rfl hbad
 clear hbad
 obtain⟨rfl,rfl,rfl⟩:=hq
 simp only[Bool.true_and]at hT
 replace hT:=kH hT
 have hn18:=of_decide_eq_true hq3
 clear hq3
 go_enter Tryz.func144,Tryz.ntmps144
 go_upto_region 1 with fail
 have D:RowAt (w.alloc (.cells #[.string nm,.int .i64 pp,.slice a n c] 101)) (w.heap.size) 0 [.string nm,.int .i64 pp,.slice a n c]:=RowAt.box w #[.string nm,.int .i64 pp,.slice a n c] 101
 have hw:Below w.heap.size w (w.alloc (.cells #[.string nm,.int .i64 pp,.slice a n c] 101)):=by go_grown
 generalize (w.alloc (.cells #[.string nm,.int .i64 pp,.slice a n c] 101))=w0 at *
 obtain⟨d_0,d_1,d_2⟩:=D.box3;have hsD:=bLt d_0
 go_wp2_with (first|(go_at_call 103;((with_reducible refine(cN _).mono ?_);rintro e w1 ⟨rfl,hb⟩;have hw:=hw.trans (hb.mono hw.size);have D:=D.below hb;obtain⟨d_0,d_1,d_2⟩:=D.box3;have hsD:=bLt d_0;clear hb))|(go_at_call 66;((with_reducible refine(W1 _).mono ?_);rintro e w1 ⟨rfl,rfl⟩))|(go_at_call 66;((with_reducible refine(W2 _).mono ?_);rintro e w1 ⟨rfl,rfl⟩)))
 go_loopw [27] (fun ii wr=>∃k:Nat,k<=n/\ii=.int .i64 k/\Hid (∀y∈cs.take k,conDecl pp y=true)/\Below w.heap.size w wr/\RowAt wr w.heap.size 0 [.string nm,.int .i64 pp,.slice a n c]) (fun ii _=>n-(intOf ii).toNat)
 case atStart=>exact⟨0,by omega,rfl,fun y hy=>by simp at hy,hw,D⟩
 case round=>
  clear D d_0 d_1 d_2 hsD hw
  obtain⟨k,hk,rfl,hF,hw,D⟩:=hrel
  have hsz:=hw.size
  obtain⟨d_0,d_1,d_2⟩:=D.box3;have hsD:=bLt d_0
  by_cases hlt:k<n
  ·obtain⟨b1,o1,x,s1,_,rfl,P1,hx,r1⟩:=(h0.out.below GCon.good hw).get hn.out hlt
   have hsm:=hl2.out x (List.mem_of_getElem? P1.out)
   have P1':=P1.out
   obtain⟨cn,hb,⟨its⟩⟩:=x
   obtain⟨v0,rfl,hwf,a1⟩:=hx
   have H1:=a1
   obtain⟨ia,ic,rfl,il,im,j0⟩:=a1
   dsimp only at *
   have hbadc:conDecl pp ⟨cn,hb,⟨its⟩⟩=false->res=false:=fun h=>by rw[hT.out];exact all_bad P1' h
   have hgood:=fun h=>all_stepL (f:=conDecl pp) hF.out P1' h
   have hC:conDecl pp ⟨cn,hb,⟨its⟩⟩=(conOk cn&&((if hb then tyOk ⟨its⟩ else its.length == 0)&&its.all (varIn pp))):=rfl
   obtain⟨m,hm⟩ : ∃m,m=its.length:=⟨_,rfl⟩
   rw[<- hm]at il hC r1 H1
   have cC:=fun W=>ConOk_c cn hwf W
   have cT:=fun W lo' h=>TyOk_c ⟨its⟩ hsm [.slice ia m ic] lo' W h
   generalize conDecl pp ⟨cn,hb,⟨its⟩⟩=cd at *
   generalize hq1:conOk cn=q1 at *
   generalize hq2:tyOk ⟨its⟩=q2 at *
   obtain⟨e_0,e_1,e_2⟩:=r1.cells3
   have hbb1:=World.block_lt_of_cell? _ _ e_0;dsimp only at hbb1
   have hsm' : m<=1152921504606846976:=by rw[hm];exact hsm
   clear P1 P1' hF r1 hq1 hq2 hsm
   replace hbadc:=kH hbadc;replace hgood:=kH hgood;replace hm:=kH hm;replace H1:=kH H1;replace j0:=kH j0;replace cT:=kH cT
   go_upto_region 6 with fail
   have hb1' : Below wr.heap.size wr (wr.alloc (.cells #[.string cn,.bool hb,.slice ia m ic] 105)):=by go_grown
   have E:RowAt (wr.alloc (.cells #[.string cn,.bool hb,.slice ia m ic] 105)) wr.heap.size 0 [.string cn,.bool hb,.slice ia m ic]:=RowAt.box _ _ _
   have hw':=hw.trans (hb1'.mono hsz)
   have D':=D.below hb1'
   have j0':=j0.out.below GTyItem.good hb1'
   have H1' : GTy.R lo (wr.alloc (.cells #[.string cn,.bool hb,.slice ia m ic] 105)) [.slice ia m ic] ⟨its⟩:=⟨_,rfl,trivial,H1.out.below GTyItem.good hb1'⟩
   generalize hbE:wr.heap.size=bE at *
   generalize wr.alloc (.cells #[.string cn,.bool hb,.slice ia m ic] 105)=w0 at *
   clear hw hb1' e_0 e_1 e_2 D d_0 d_1 d_2 H1 j0 hbE
   have hw:=hw';clear hw'
   have D:=D';clear D'
   replace j0':=kH j0';replace H1':=kH H1'
   have hw0:=hw
   have hw00:=Below.refl w0.heap.size w0
   obtain⟨d_0,d_1,d_2⟩:=D.box3;have hsD:=bLt d_0;obtain⟨e_0,e_1,e_2⟩:=E.box3;have hsE:=bLt e_0
   have cT0:=cT.out w0 lo H1'.out
   clear cT
   replace cT0:=kH cT0
   generalize hem:((m:Int) == 0)=em
   have hdm:decide (0<(m:Int)) = !em:=by cases em<;>simp_all<;>omega
   have hdm' : decide (0<m) = !em:=by rw[<- hdm,decide_eq_decide];omega
   have heml:(m == 0)=em:=by rw[<- hem,Bool.eq_iff_iff];simp
   rw[heml]at hC
   by_cases hcd:(q1&&(if hb then q2 else em))=false
   ·have hc0:cd=false:=by rw[hC,<- Bool.and_assoc,hcd];rfl
    have hres:=hbadc.out hc0
    subst hres
    clear hC hc0 hbadc hgood hem heml
    cases q1<;>cases hb<;>cases q2<;>cases em
    all_goals first
     |(exact absurd hcd (by decide))
     |(clear hcd
       go_wp2_with (first|(go_at_call 151;((with_reducible refine(cC _).mono ?_);rintro e w1 ⟨rfl,rfl⟩))|(go_at_call 171;((with_reducible refine(cT0.out).mono ?_);rintro e w1 ⟨rfl,hb⟩;have hw:=hw.trans (hb.mono hw.size);have D:=D.below hb;obtain⟨d_0,d_1,d_2⟩:=D.box3;have hsD:=bLt d_0;have E:=E.below hb;obtain⟨e_0,e_1,e_2⟩:=E.box3;have hsE:=bLt e_0;clear hb)))
       go_returns
       exact⟨rfl,hw⟩)
   ·have hq:q1=true/\(if hb then q2 else em)=true:=by
     cases h1:q1<;>cases h2:(if hb then q2 else em)<;>rw[h1,h2]at hcd<;>first|exact⟨rfl,rfl⟩|exact absurd rfl hcd
    obtain⟨rfl,hq2⟩:=hq
    rw[hq2]at hC
    simp only[Bool.true_and]at hC
    replace hC:=kH hC
    clear hcd hem heml
    have hway:(hb=true/\q2=true)\/(hb=false/\em=true):=by
     cases hb
     ·exact .inr ⟨rfl,hq2⟩
     ·exact .inl ⟨rfl,hq2⟩
    clear hq2
    have hbi:∀W,Below w0.heap.size w0 W->SlAt GTyItem.R 3 lo W ia its:=fun W hW=>j0'.out.below GTyItem.good hW
    replace hbi:=kH hbi
    rcases hway with⟨rfl,rfl⟩|⟨rfl,rfl⟩
    all_goals
     go_wp2_with (first|(go_at_call 151;((with_reducible refine(cC _).mono ?_);rintro e w1 ⟨rfl,rfl⟩))|(go_at_call 171;(with_reducible refine(cT0.out).mono ?_);rintro e w1 ⟨rfl,hb⟩;have hw00:=hw00.trans (hb.mono hw00.size);have hw:=hw.trans (hb.mono hw.size);have D:=D.below hb;obtain⟨d_0,d_1,d_2⟩:=D.box3;have hsD:=bLt d_0;have E:=E.below hb;obtain⟨e_0,e_1,e_2⟩:=E.box3;have hsE:=bLt e_0;clear hb))
     go_loopw [61] (fun ii wr=>∃j:Nat,j<=m/\ii=.int .i64 j/\Hid (∀y∈its.take j,varIn pp y=true)/\Below w.heap.size w wr/\Below w0.heap.size w0 wr/\RowAt wr w.heap.size 0 [.string nm,.int .i64 pp,.slice (some ⟨b1,o1,none⟩) n c]) (fun ii _=>m-(intOf ii).toNat)
     case atStart=>exact⟨0,by omega,rfl,fun y hy=>by simp at hy,hw,hw00,D⟩
     case round=>
      clear D d_0 d_1 d_2 hsD hw hw00 E e_0 e_1 e_2 hsE
      obtain⟨j,hj,rfl,hF,hw,hw00,D⟩:=hrel
      have hsz':=hw.size
      have hsz0:=hw00.size
      obtain⟨d_0,d_1,d_2⟩:=D.box3;have hsD:=bLt d_0
      by_cases hjm:j<m
      ·obtain⟨b2,o2,y,s2,_,rfl,P2,⟨rfl,hwy⟩,r2⟩:=(hbi.out _ hw00).get hm.out hjm
       have P2':=P2.out
       have hbadv:varIn pp y=false->res=false:=fun h=>hbadc.out (by rw[hC.out];exact all_bad P2' h)
       have hgoodv:=fun h=>all_stepL (f:=varIn pp) hF.out P2' h
       obtain⟨f_0,f_1,f_2⟩:=r2.cells3
       have hbb2:=World.block_lt_of_cell? _ _ f_0;dsimp only at hbb2
       obtain⟨xv,xs,xa⟩:=y
       have hV:varIn pp ⟨xv,xs,xa⟩ = !(xs.toList.isEmpty&&decide (pp<=xv)):=rfl
       dsimp only at *
       generalize varIn pp ⟨xv,xs,xa⟩=q at *
       clear r2 P2 P2' hF hwy
       replace hbadv:=kH hbadv;replace hgoodv:=kH hgoodv
       cases e1:xs.toList.isEmpty
       ·rw[e1]at hV
        replace hV:q=true:=hV
        subst hV
        have hF:=kH (hgoodv.out rfl)
        clear hbadv hgoodv
        go_wp2_with fail
        go_roundw
        case rel=>exact⟨j+1,by omega,by go_num,hF,hw.trans (Below.mono (by go_grown) hsz'),hw00.trans (Below.mono (by go_grown) hsz0),D.below (by go_grown)⟩
        case measure=>simp[intOf];omega
       ·cases e2:decide (pp<=xv)
        ·rw[e1,e2]at hV
         replace hV:q=true:=hV
         subst hV
         have hF:=kH (hgoodv.out rfl)
         clear hbadv hgoodv
         go_wp2_with fail
         go_roundw
         case rel=>exact⟨j+1,by omega,by go_num,hF,hw.trans (Below.mono (by go_grown) hsz'),hw00.trans (Below.mono (by go_grown) hsz0),D.below (by go_grown)⟩
         case measure=>simp[intOf];omega
        ·rw[e1,e2]at hV
         replace hV:q=false:=hV
         subst hV
         have hres:=hbadv.out rfl
         subst hres
         clear hbadv hgoodv
         go_wp2_with fail
         go_returns
         exact⟨rfl,hw.trans (Below.mono (by go_grown) hsz')⟩
      ·obtain rfl:j=m:=by omega
       have hc1:=hC.out
       rw[all_full hF.out hm.out]at hc1
       have hF:=kH (hgood.out hc1)
       clear hC hc1
       go_wp2_with fail
       go_roundw
       case rel=>exact⟨k+1,by omega,by go_num,hF,hw,D⟩
       case measure=>simp[intOf];omega
  ·obtain rfl:k=n:=by omega
   have hres:res=true:=by rw[hT.out];exact all_full hF.out hn.out
   subst hres
   clear hF
   go_wp2_with fail
   go_returns
   exact⟨rfl,hw⟩
end Go.Proofs.YtkikkfjmggobpaaGreat
