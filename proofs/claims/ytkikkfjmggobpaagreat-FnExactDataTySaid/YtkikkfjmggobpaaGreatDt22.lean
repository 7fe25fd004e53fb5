/- Parts of the proof, merged: Us5, Us6. -/
import Derived.Deep.RegionHeld3
import Derived.Test.YtkikkfjmggobpaaGreatDt21
namespace Go.Proofs.YtkikkfjmggobpaaGreat
open Go.RowKit
set_option maxRecDepth 100000
set_option maxHeartbeats 16000000
set_option linter.unusedVariables false
set_option linter.unusedSimpArgs false
attribute [local go_sem] Ext.cell
theorem ar_flat:∀ (t:TyT),∀y∈flatY t,0<=y.arity/\y.arity<=2
 |.v n,y,h=>by simp[flatY]at h;subst h;simp
 |.c0 s,y,h=>by simp[flatY]at h;subst h;simp
 |.c1 s a,y,h=>by
  rcases List.mem_cons.1 (show y∈(⟨0,s,1⟩ : GTyItem) :: flatY a from h) with rfl|h
  ·simp
  ·exact ar_flat a y h
 |.c2 s a b,y,h=>by
  rcases List.mem_cons.1 (show y∈(⟨0,s,2⟩ : GTyItem) :: (flatY a++flatY b) from h) with rfl|h
  ·simp
  ·rcases List.mem_append.1 h with h|h
   ·exact ar_flat a y h
   ·exact ar_flat b y h
theorem tend_flat {A B:List GTyItem} {a:TyT} {f:Nat} (h:(A++(flatY a++B)).length<A.length+f):tend (A++(flatY a++B)) f A.length=((A.length+szY a:Nat):Int):=by
 rw[tend_eq _ _ _ h]
 unfold endT
 rw[List.drop_left,restT_one]
 simp only[List.length_append,flatY_len]
 omega
theorem l04EndA_c (x:GTy) (hl:x.items.length<=1152921504606846976) (hok:∀y∈x.items,0<=y.arity/\y.arity<=2):∀ (f i:Nat) (r:List Value) (lo:Nat) (w:World),GTy.R lo w r x->x.items.length<i+f->
  Calls Tryz.prog 138 #[.agg r.toArray,.int .i64 i] w fun e w'=>e=.returned (.int .i64 (tend x.items f i))/\Below w.heap.size w w'
 |f,i,r,lo,w,hx,hf=>by
  have ih:∀ (f' i:Nat) (r:List Value) (lo:Nat) (w:World),f=f' + 1->GTy.R lo w r x->x.items.length<i+f'->
   Calls Tryz.prog 138 #[.agg r.toArray,.int .i64 i] w fun e w'=>e=.returned (.int .i64 (tend x.items f' i))/\Below w.heap.size w w':=fun f' i r lo w h=>l04EndA_c x hl hok f' i r lo w
  have Hx:=hx
  obtain⟨u0,rfl,-,a0⟩:=hx
  obtain⟨a,c,rfl,ul,um,h0⟩:=a0
  obtain⟨n,hn⟩ : ∃n,n=x.items.length:=⟨_,rfl⟩
  rw[<- hn]at ul hl ih hf Hx ⊢
  replace hn:=kH hn
  have d0:decide ((i:Int)<0)=false:=decide_eq_false (by omega)
  by_cases hlt:i<n
  ·obtain⟨f,rfl⟩ : ∃f',f=f' + 1:=by
    cases f with
    |zero=>exact absurd hf (by omega)
    |succ f=>exact⟨f,rfl⟩
   have d1:decide ((n:Int)<=(i:Int))=false:=decide_eq_false (by omega)
   have d1' : decide (n<=i)=false:=decide_eq_false (by omega)
   obtain⟨b1,o1,y,s1,_,rfl,P1,⟨rfl,hwf⟩,r1⟩:=h0.get hn.out hlt
   have hR:GTy.R lo w [.slice (some ⟨b1,o1,none⟩) n c] x:=Hx
   obtain⟨ar0,ar2⟩:=hok y (List.mem_of_getElem? P1.out)
   have hend:tend x.items (f+1) i=tendN (tend x.items f) y.arity.toNat (i+1):=by conv=>lhs;unfold tend;rw[P1.out]
   have hrg:=fun z (h:z<=n) (h2:n<z+f)=>tend_range x.items f z (by rw[<- hn.out];exact h2) (by rw[<- hn.out];exact h)
   rw[<- hn.out]at hrg
   rw[hend]
   obtain⟨e_0,e_1,e_2⟩:=r1.cells3
   have hb1:=World.block_lt_of_cell? _ _ e_0;dsimp only at hb1
   generalize y.arity=ar at *
   obtain⟨m,rfl⟩ : ∃m:Nat,ar=m:=⟨ar.toNat,by omega⟩
   rw[Int.toNat_natCast]
   replace ih:=kH (fun i r lo w=>ih f i r lo w rfl)
   generalize hres:tendN (tend x.items f) m (i+1)=res
   have h00:Hid (tendN (tend x.items f) (m-0) ((i+1:Nat):Int)=res):=hres
   replace hR:=kH hR;replace hrg:=kH hrg
   clear hres Hx hend P1 h0 hwf r1
   have hbw:∀W,Below w.heap.size w W->W.cell? ⟨b1,o1+i*3+2,none⟩=some (.int .i64 (m:Int)):=fun W hW=>cell_below hW e_2
   replace hbw:=kH hbw
   go_enter Tryz.func138,Tryz.ntmps138
   go_upto_region 1 with fail
   have D:RowAt (w.alloc (.cells #[.slice (some ⟨b1,o1,none⟩) n c] 33)) (w.heap.size) 0 [.slice (some ⟨b1,o1,none⟩) n c]:=RowAt.box w #[.slice (some ⟨b1,o1,none⟩) n c] 33
   have hw:Below w.heap.size w (w.alloc (.cells #[.slice (some ⟨b1,o1,none⟩) n c] 33)):=by go_grown
   generalize (w.alloc (.cells #[.slice (some ⟨b1,o1,none⟩) n c] 33))=w0 at *
   clear e_0 e_1 e_2
   have e_2:=hbw.out _ hw
   have d_0:=D.box1;have hsD:=bLt d_0
   go_wp2_with fail
   go_loopw [5,6] (fun nx ii wr=>∃ (j:Nat) (z:Int),j<=m/\(z = -1\/∃z' : Nat,z=z'/\i<z'/\z'<=n)/\nx=.int .i64 z/\ii=.int .i64 j/\Hid (tendN (tend x.items f) (m-j) z=res)/\Below w.heap.size w wr/\RowAt wr w.heap.size 0 [.slice (some ⟨b1,o1,none⟩) n c]) (fun _ ii _=>m-(intOf ii).toNat)
   case atStart=>exact⟨0,((i+1:Nat):Int),by omega,.inr ⟨i+1,rfl,by omega,by omega⟩,by go_num,rfl,h00,hw,D⟩
   case round=>
    clear e_2 D d_0 hsD hw h00
    obtain⟨j,z,hj,hz,rfl,rfl,hK,hw,D⟩:=hrel
    have e_2:=hbw.out _ hw
    have hsz:=hw.size
    have d_0:=D.box1;have hsD:=bLt d_0
    by_cases hjm:j<m
    ·rcases hz with rfl|⟨z,rfl,hz1,hz2⟩
     ·have hres:(-1:Int)=res:=by rw[<- hK.out];exact(tendN_neg _ _ _ (by omega)).symm
      subst hres
      have d3:decide ((j:Int)<(m:Int))=true:=decide_eq_true (by omega)
      clear hK
      go_wp2_with fail
      go_returns
      exact⟨rfl,hw⟩
     ·have hres:tendN (tend x.items f) (m-(j+1)) (tend x.items f z)=res:=by
       rw[<- hK.out,show m-j=(m-(j+1))+1 by omega]
       conv=>rhs;unfold tendN
       rw[if_neg (by omega),Int.toNat_natCast]
      have d3:decide ((j:Int)<(m:Int))=true:=decide_eq_true (by omega)
      have d4:decide ((0:Int)<=(z:Int))=true:=decide_eq_true (by omega)
      have c1:=ih.out z _ lo wr (GTy.good.below hR.out hw) (by omega)
      have hr2:=hrg.out z hz2 (by omega)
      generalize tend x.items f z=t at *
      replace hres:=kH hres;replace c1:=kH c1;replace hr2:=kH hr2
      clear hK
      go_wp2_with (go_at_call 138;(with_reducible refine(c1.out).mono ?_);rintro e w2 ⟨rfl,hb⟩)
      have hw2:=hw.trans (hb.mono hsz)
      have D2:=D.below hb
      go_roundw
      case rel=>exact⟨j+1,t,by omega,hr2.out.imp id (fun⟨z',h1,h2,h3⟩=>⟨z',h1,by omega,h3⟩),rfl,by go_num,hres,hw2,D2⟩
      case measure=>simp[intOf];omega
    ·obtain rfl:j=m:=by omega
     have hres:z=res:=by rw[<- hK.out,Nat.sub_self];rfl
     subst hres
     clear hK hz
     go_wp2_with fail
     go_returns
     exact⟨rfl,hw⟩
  ·have d1:decide ((n:Int)<=(i:Int))=true:=decide_eq_true (by omega)
   have d1' : decide (n<=i)=true:=decide_eq_true (by omega)
   have hend:tend x.items f i = -1:=by
    cases f with
    |zero=>rfl
    |succ f=>unfold tend;rw[List.getElem?_eq_none (by rw[<- hn.out];omega)]
   rw[hend]
   clear hend h0 ih Hx
   go_enter Tryz.func138,Tryz.ntmps138
   go_wp2_with fail
   go_returns
   exact⟨rfl,by go_grown⟩
theorem Sl.mid {α:Type} {R:Reading α} {sz lo n c c' b o:Nat} {w:World} {A X B:List α} (h:Sl R sz lo w (.slice (some ⟨b,o,none⟩) n c) (A++(X++B))) (h0:0<X.length) (hc:X.length<=c') (hc2:c'<=9223372036854775807) :
  Sl R sz lo w (.slice (some ⟨b,o+A.length*sz,none⟩) X.length c') X:=by
 obtain⟨a',cap,hv,h1,h2,h3⟩:=h
 injection hv with e1 e2 e3
 subst e1
 obtain⟨b',off,hl,hb,hr⟩:=h3 (by simp only[List.length_append];omega)
 obtain⟨rfl,rfl⟩ : b=b'/\o=off:=by injection hb with hb;injection hb with e1 e2;exact⟨e1,e2⟩
 refine⟨_,c',rfl,hc,hc2,fun _=>⟨b,_,hl,rfl,fun i x hx=>?_⟩⟩
 have hi:=(List.getElem?_eq_some_iff.1 hx).1
 obtain⟨r,hr1,hr2⟩:=hr (A.length+i) x (by rw[List.getElem?_append_right (by omega),Nat.add_sub_cancel_left,List.getElem?_append_left hi];exact hx)
 exact⟨r,hr1,by rw[Nat.add_assoc,<- Nat.add_mul];exact hr2⟩
theorem l05Part_c (A B:List GTyItem) (a:TyT) (har:∀y∈A++(flatY a++B),0<=y.arity/\y.arity<=2) (hB:(A++(flatY a++B)).length<=1000000000) (tv:Value) (w:World) (ht:Sl GTyItem.R 3 0 w tv (A++(flatY a++B))) :
  Calls Tryz.prog 137 #[.agg #[tv],.int .i64 A.length] w (TyPost (flatY a) w):=by
 have hpost:∀W v,OwnT w.heap.size W v (flatY a)->Below w.heap.size w W->TyPost (flatY a) w (.returned (.agg #[v])) W:=fun W v h1 h3=>⟨v,rfl,h1,h3⟩
 generalize TyPost (flatY a) w=Q at *
 have h0:=szY_pos a
 have hfl:=flatY_len a
 have hend:=tend_flat (A:=A) (B:=B) (a:=a) (f:=(A++(flatY a++B)).length+1) (by omega)
 have cE:=fun(v:Value) W (hW:Sl GTyItem.R 3 0 W v (A++(flatY a++B)))=>l04EndA_c ⟨A++(flatY a++B)⟩ (by dsimp only;omega) har ((A++(flatY a++B)).length+1) A.length [v] 0 W ⟨v,rfl,by trivial,hW⟩ (by dsimp only;omega)
 dsimp only at cE
 rw[hend]at cE
 have hln:(A++(flatY a++B)).length=A.length+(szY a+B.length):=by simp only[List.length_append,hfl]
 have H:=ht
 obtain⟨ta,c,rfl,tl,tm,t0⟩:=ht
 obtain⟨b,o,-,rfl,-⟩:=t0 (by omega)
 have hK:=fun W (hW:Below w.heap.size w W)=>H.below GTyItem.good hW
 have hsub:∀W c',Below w.heap.size w W->szY a<=c'->c'<=9223372036854775807->Sl GTyItem.R 3 0 W (.slice (some ⟨b,o+A.length*3,none⟩) (szY a) c') (flatY a):=fun W c' hW h1 h2=>by
  have h:=Sl.mid (X:=flatY a) (hK W hW) (by omega) (c':=c') (by omega) h2
  rwa [hfl]at h
 replace cE:=fun W (hW:Below w.heap.size w W)=>cE _ W (hK W hW)
 obtain⟨n,hn⟩ : ∃x,x=(A++(flatY a++B)).length:=⟨_,rfl⟩
 obtain⟨k,hk⟩ : ∃x,x=A.length:=⟨_,rfl⟩
 obtain⟨sz,hsz⟩ : ∃x,x=szY a:=⟨_,rfl⟩
 rw[<- hn]at cE hln hB tl ⊢
 rw[<- hk]at cE hln hsub ⊢
 rw[<- hsz]at cE hln hsub hfl h0
 have hks:k+sz<=n:=by omega
 obtain⟨ez,hez⟩ : ∃x,x=k+sz:=⟨_,rfl⟩
 rw[<- hez]at cE hks
 have hsub' : ∀W c',Below w.heap.size w W->sz<=c'->c'<=9223372036854775807->Sl GTyItem.R 3 0 W (.slice (some ⟨b,o+k*3,none⟩) (ez-k) c') (flatY a):=fun W c' h1 h2 h3=>by
  rw[show ez-k=sz by omega];exact hsub W c' h1 h2 h3
 have hsub:=hsub'
 have hkc:k+sz<=c:=by omega
 have z1:(0:Int)<=(k:Int):=by omega
 have z2:(k:Int)<=(ez:Int):=by omega
 have z3:(ez:Int)<=(c:Int):=by omega
 have z4:(ez:Int)<=(n:Int):=by omega
 have z5 : ¬ c=k:=by omega
 replace hez:=kH hez
 clear hsub'
 replace hn:=kH hn;replace hk:=kH hk;replace hsz:=kH hsz;replace cE:=kH cE;replace hsub:=kH hsub;replace hpost:=kH hpost;replace hfl:=kH hfl
 clear t0 H hK hend hln har
 obtain⟨iI,hi0,hz0,hz1,hz2⟩:=info_parts info_TyItemS;have II:=kH hi0;have II0:=kH hz0;have II1:=kH hz1;have II2:=kH hz2;clear hi0 hz0 hz1 hz2
 go_enter Tryz.func137,Tryz.ntmps137
 go_upto_region 1 with fail
 have B:RowAt (w.alloc (.cells #[.slice (some ⟨b,o,none⟩) n c] 33)) (w.heap.size) 0 [.slice (some ⟨b,o,none⟩) n c]:=RowAt.box w #[.slice (some ⟨b,o,none⟩) n c] 33
 have B:=B.below (show Below (w.alloc (.cells #[.slice (some ⟨b,o,none⟩) n c] 33)).heap.size (w.alloc (.cells #[.slice (some ⟨b,o,none⟩) n c] 33)) ((w.alloc (.cells #[.slice (some ⟨b,o,none⟩) n c] 33)).alloc (.cells #[.slice none 0 0] 33)) by go_grown)
 have R:RowAt ((w.alloc (.cells #[.slice (some ⟨b,o,none⟩) n c] 33)).alloc (.cells #[.slice none 0 0] 33)) (w.heap.size+1) 0 [.slice none 0 0]:=by have h:=RowAt.box (w.alloc (.cells #[.slice (some ⟨b,o,none⟩) n c] 33)) #[.slice none 0 0] 33;simp only[World.size_alloc]at h;exact h
 have RW:Wr ((w.alloc (.cells #[.slice (some ⟨b,o,none⟩) n c] 33)).alloc (.cells #[.slice none 0 0] 33)) (w.heap.size+1) 0 1:=by have h:=Wr.box (w.alloc (.cells #[.slice (some ⟨b,o,none⟩) n c] 33)) #[.slice none 0 0] 33;simp only[World.size_alloc]at h;exact h
 have hw:Below w.heap.size w ((w.alloc (.cells #[.slice (some ⟨b,o,none⟩) n c] 33)).alloc (.cells #[.slice none 0 0] 33)):=by go_grown
 generalize ((w.alloc (.cells #[.slice (some ⟨b,o,none⟩) n c] 33)).alloc (.cells #[.slice none 0 0] 33))=w0 at *
 have b_0:=B.box1;have hsB:=bLt b_0;have rf_0:=RW.frz 0 (by omega);have r_0:=R.box1;have hsR:=bLt r_0
 have hsW:∀W,Below w0.heap.size w0 W->Sl GTyItem.R 3 0 W (.slice (some ⟨b,o+k*3,none⟩) (ez-k) (c-k)) (flatY a):=fun W hW=>hsub.out W (c-k) (hw.trans (hW.mono hw.size)) (by omega) (by omega)
 have hfe:(flatY a).length=ez-k:=by have:=hfl.out;have:=hez.out;omega
 replace hsW:=kH hsW;replace hfe:=kH hfe
 go_region_held3 (fun w'=>w'.cell? ⟨w.heap.size,0,none⟩=some (.slice (some ⟨b,o,none⟩) n c))
  (first|exact b_0|exact x_0|exact u_0|go_keep)
  (first
   |(go_at_call 138;(with_reducible refine(cE.out _ (hw.trans (Below.mono (by go_grown) hw.size))).mono ?_);rintro e w1 ⟨rfl,hb1'⟩;have hb1:Below w0.heap.size w0 w1:=Below.trans (by go_grown) (hb1'.mono (by first|exact Nat.le_refl _|(simp;done)|(simp;omega)));have x_0:=(B.below hb1).box1;have z_0:=(R.below hb1).box1;have zf_0:=(RW.below hb1).frz 0 (by omega);have hz1:=hb1.size;replace hb1:=kH hb1;replace hb1':=kH hb1')
   |(refine step_append_ne _ flatTyItem (by rfl) _ _ _ (by rfl) w0.heap.size 107 iI _ 32 Tryz.underlying31 II.out II0.out II1.out II2.out rfl (.slice (some ⟨w0.heap.size,0,none⟩) 0 0) 0 [] (by rfl) (own_below (own_empty_at (heap_alloc_new' w0 _ _ rfl) (Nat.le_refl _)) (Below.trans (by go_grown) ((hb1'.out.trans (Below.mono (by go_grown) hb1'.out.size)).mono (Nat.le_refl _)))) 0 _ (flatY a) (by rfl) (by have:=hfe.out;have:=hez.out;omega) (hsW.out _ (hb1.out.trans (Below.mono (by go_grown) hb1.out.size))) (by have:=hfe.out;unfold maxLen;omega) (by have:=hfe.out;omega) (by have:=hw.size;have:=hb1.out.size;simp;omega) _ rfl ?_;intro g2 cap2 w2 hown2 hgrow2 hat2;have k2:=kept_of hgrow2 (w:=w0) (hb1.out.trans (Below.mono (by go_grown) hb1.out.size));have hsz1:=hb1.out.size;have u_0:=(B.kept k2 (fun e=>by simp[Value.ownBlock]at e;omega)).box1;have y_0:=(R.kept k2 (fun e=>by simp[Value.ownBlock]at e;omega)).box1;have yf_0:=(RW.kept k2 (fun e=>by simp[Value.ownBlock]at e;omega)).frz 0 (by omega))
   |(refine step_append_ne _ flatTyItem (by rfl) _ _ _ (by rfl) w0.heap.size 107 iI _ 32 Tryz.underlying31 II.out II0.out II1.out II2.out rfl (.slice (some ⟨w1.heap.size,0,none⟩) 0 0) 0 [] (by rfl) (own_empty_at (by first|exact heap_alloc_new' _ _ _ rfl|(simp;done)) (by have:=hw.size;have:=hb1.out.size;omega)) 0 _ (flatY a) (by rfl) (by have:=hfe.out;have:=hez.out;omega) (hsW.out _ (hb1.out.trans (Below.mono (by go_grown) hb1.out.size))) (by have:=hfe.out;unfold maxLen;omega) (by have:=hfe.out;omega) (by have:=hw.size;have:=hb1.out.size;simp;omega) _ rfl ?_;intro g2 cap2 w2 hown2 hgrow2 hat2;have k2:=kept_of hgrow2 (w:=w0) (hb1.out.trans (Below.mono (by go_grown) hb1.out.size));have hsz1:=hb1.out.size;have u_0:=(B.kept k2 (fun e=>by simp[Value.ownBlock]at e;omega)).box1;have y_0:=(R.kept k2 (fun e=>by simp[Value.ownBlock]at e;omega)).box1;have yf_0:=(RW.kept k2 (fun e=>by simp[Value.ownBlock]at e;omega)).frz 0 (by omega)))
 all_goals
  have hw2:Below w.heap.size w w2:=hw.trans ((hb1.out.trans (Below.mono (by go_grown) hb1.out.size)).grown hgrow2 (by have:=hb1.out.size;simp;try omega) (fun g hg=>by simp[Value.ownBlock]at hg;have:=hb1.out.size;omega) |>.mono hw.size)
  have R2:=R.kept k2 (fun e=>by simp[Value.ownBlock]at e;omega)
  have O2:OwnT w0.heap.size w2 (.slice (some ⟨g2,0,none⟩) (flatY a).length cap2) (flatY a):=⟨by simpa using hown2,flatY_wf (hsW.out w0 (Below.refl _ _))⟩
  have hbase:=O2.base
  replace O2:=kH O2;replace hbase:=kH hbase
  generalize (flatY a).length=pn at *
  go_wp2_with fail
  refine bodyPost_ret (ret_ty (a:=4) Tryz.results137 rfl (R2.putAt (j:=0) (by simp) (.slice (some ⟨g2,0,none⟩) pn cap2))) rfl ?_
  exact hpost.out _ _ ((O2.out.mono hw.size).kept ((Kept.refl (· = w.heap.size+1) w2).set (p:=⟨w.heap.size+1,0,none⟩) rfl _) (fun g hg e=>by have:=hbase.out g hg;omega)) (hw2.setCell (p:=⟨w.heap.size+1,0,none⟩) (by dsimp only;omega) _)
theorem part_c {X a:TyT} {j:Nat} (h:(kidsY X)[j]? = some a) (hz:szY X<=1000000) (tv:Value) (w:World) (ht:Sl GTyItem.R 3 0 w tv (flatY X)) :
  Calls Tryz.prog 137 #[.agg #[tv],.int .i64 (posY X j:Nat)] w (TyPost (flatY a) w):=by
 have e:=flatY_at h
 have hl:=flatY_len X
 have ha:=ar_flat X
 rw[e]at ht hl ha
 rw[posY_len]
 exact l05Part_c _ _ a ha (by omega) tv w ht
theorem end_c {X a:TyT} {j:Nat} (h:(kidsY X)[j]? = some a) (hz:szY X<=1000000) (tv:Value) (w:World) (ht:Sl GTyItem.R 3 0 w tv (flatY X)) :
  Calls Tryz.prog 138 #[.agg #[tv],.int .i64 (posY X j:Nat)] w fun e w'=>e=.returned (.int .i64 (posY X (j+1):Nat))/\Below w.heap.size w w':=by
 rw[posY_succ h]
 have e:=flatY_at h
 have hl:=flatY_len X
 have ha:=ar_flat X
 rw[e]at ht hl ha
 rw[posY_len]
 have hend:=tend_flat (A:=hdY X :: flatYs ((kidsY X).take j)) (B:=flatYs ((kidsY X).drop (j+1))) (a:=a) (f:=szY X+1) (by omega)
 have:=l04EndA_c ⟨(hdY X :: flatYs ((kidsY X).take j))++(flatY a++flatYs ((kidsY X).drop (j+1)))⟩ (by dsimp only;omega) ha (szY X+1) (hdY X :: flatYs ((kidsY X).take j)).length [tv] 0 w ⟨tv,rfl,by trivial,ht⟩ (by dsimp only;omega)
 dsimp only at this
 rw[hend]at this
 exact this
theorem head_cells {w:World} {lo:Nat} {v:Value} {X:TyT} (h:Sl GTyItem.R 3 lo w v (flatY X)):∃b o c,v=.slice (some ⟨b,o,none⟩) (szY X) c/\szY X<=c/\c<=9223372036854775807/\RowAt w b o [.int .i64 (hdY X).var,.string (hdY X).name,.int .i64 (hdY X).arity]:=by
 have h0:0<(flatY X).length:=by rw[flatY_len];exact szY_pos X
 have hf:=flatY_len X
 obtain⟨a,c,rfl,h1,h2,h3⟩:=h
 obtain⟨b,o,-,rfl,h4⟩:=h3 h0
 obtain⟨r,⟨rfl,-⟩,h5⟩:=h4 0 (hdY X) (by rw[flatY_kids];rfl)
 rw[hf]at h1 ⊢
 exact⟨b,o,c,rfl,h1,h2,by simpa using h5⟩
def UniC (N:Int) (f:Nat):Prop:=∀ (x y:TyT) (σ:Sbs) (r:Int × Sbs),unifyF f x y σ=some r->GoodS N σ->VarsIn N x->VarsIn N y->NamesY x->NamesY y->NamesS σ->SmY σ x->SmY σ y->
  ∀ (xv yv lv:Value) (lo:Nat) (w:World),lo<=w.heap.size->Sl GTyItem.R 3 lo w xv (flatY x)->Sl GTyItem.R 3 lo w yv (flatY y)->Sl SubR 2 lo w lv σ->
  Calls Tryz.prog 97 #[.agg #[xv],.agg #[yv],lv] w (BindPost lo r w)
theorem l05Unify_step (N:Int) (hN:0<=N) (hN2:N<=1000000) (f:Nat) (ih:UniC N f) (x y:TyT) (σ:Sbs) (r:Int × Sbs) (h:unifyF (f+1) x y σ=some r) (hσ:GoodS N σ) (hx:VarsIn N x) (hy:VarsIn N y) (hnx:NamesY x) (hny:NamesY y) (hnσ:NamesS σ) (hsx:SmY σ x) (hsy:SmY σ y)
  (xv yv lv:Value) (lo:Nat) (w:World) (hlo:lo<=w.heap.size) (hxv:Sl GTyItem.R 3 lo w xv (flatY x)) (hyv:Sl GTyItem.R 3 lo w yv (flatY y)) (hl:Sl SubR 2 lo w lv σ) :
  Calls Tryz.prog 97 #[.agg #[xv],.agg #[yv],lv] w (BindPost lo r w):=by
  unfold UniC at ih
  have hpost:∀W lv,(∃a n c,lv=Value.slice a n c)->(r.1=0->Sl SubR 2 lo W lv r.2)->Below w.heap.size w W->BindPost lo r w (.returned (.tuple #[lv,.int .i64 r.1])) W:=fun W lv h1 h2 h3=>⟨lv,rfl,h1,h2,h3⟩
  generalize BindPost lo r w=Q at *
  have hXn:=names_sub hnσ x hnx
  have hYn:=names_sub hnσ y hny
  rw[unifyF_step f x y σ hXn hYn]at h
  have hXv:=hσ.vars hx
  have hYv:=hσ.vars hy
  have hXz:=hsx.sz hσ
  have hYz:=hsy.sz hσ
  have hXs:∀k∈kidsY (subY σ x),SmY σ k:=fun k hk=>hsx.kid hσ hk
  have hYs:∀k∈kidsY (subY σ y),SmY σ k:=fun k hk=>hsy.kid hσ hk
  have cX:∀W,Below w.heap.size w W->Calls Tryz.prog 24 #[.agg #[xv],lv] W (TyPost (flatY (subY σ x)) W):=fun W hW=>by
   rw[<- putL_flat _ _ hnx]
   exact l05Apply_c (flatY x) σ hσ.keys (by rw[putL_flat _ _ hnx,flatY_len];omega) xv lv W ((hxv.below GTyItem.good hW).mono GTyItem.good (Nat.zero_le _)) ((hl.below SubR.good hW).mono SubR.good (Nat.zero_le _))
  have cY:∀W,Below w.heap.size w W->Calls Tryz.prog 24 #[.agg #[yv],lv] W (TyPost (flatY (subY σ y)) W):=fun W hW=>by
   rw[<- putL_flat _ _ hny]
   exact l05Apply_c (flatY y) σ hσ.keys (by rw[putL_flat _ _ hny,flatY_len];omega) yv lv W ((hyv.below GTyItem.good hW).mono GTyItem.good (Nat.zero_le _)) ((hl.below SubR.good hW).mono SubR.good (Nat.zero_le _))
  unfold TyPost at cX cY
  have hLK:∀W,Below w.heap.size w W->Sl SubR 2 lo W lv σ:=fun W hW=>hl.below SubR.good hW
  have hlen:σ.length<=1000000:=by have:=hσ.len hN;omega
  generalize subY σ x=X at *
  generalize subY σ y=Y at *
  obtain⟨xa,xc,rfl⟩:=hxv.form
  obtain⟨ya,yc,rfl⟩:=hyv.form
  obtain⟨la,lc,rfl⟩:=hl.form
  generalize (flatY x).length=xn at *
  generalize (flatY y).length=yn at *
  generalize σ.length=m at *
  clear hxv hyv hl hsx hsy hnx hny hx hy
  have cB:∀n u uv W,((0<=n/\n<N)/\getS σ n=none)->NamesY u->szY u<=40000->lo<=W.heap.size->Below w.heap.size w W->Sl GTyItem.R 3 lo W uv (flatY u)->Calls Tryz.prog 136 #[.slice la m lc,.int .i64 n,.agg #[uv]] W (BindPost lo (bindY σ n u) W):=fun n u uv W h1 h2 h3 h4 h5 h6=>
   l05Bind_c σ n u ⟨by omega,by omega⟩ h2 hnσ hσ.sz h3 (by have:=hσ.len hN;omega) _ uv lo W h4 (hLK W h5) h6
  unfold BindPost at cB
  have hvX:(hdY X).name.toList.isEmpty=true->(0<=(hdY X).var/\(hdY X).var<N)/\getS σ (hdY X).var=none:=fun h=>by
   cases X<;>simp only[hdY]at h ⊢
   ·exact hXv _ (by simp[occY])
   ·exact absurd h (by rw[show _=false from hXn];simp)
   ·exact absurd h (by rw[hXn.1];simp)
   ·exact absurd h (by rw[hXn.1];simp)
  have hvY:(hdY Y).name.toList.isEmpty=true->(0<=(hdY Y).var/\(hdY Y).var<N)/\getS σ (hdY Y).var=none:=fun h=>by
   cases Y<;>simp only[hdY]at h ⊢
   ·exact hYv _ (by simp[occY])
   ·exact absurd h (by rw[show _=false from hYn];simp)
   ·exact absurd h (by rw[hYn.1];simp)
   ·exact absurd h (by rw[hYn.1];simp)
  have haX:=hdY_arity X
  have haY:=hdY_arity Y
  unfold stepY at h
  obtain⟨pv,hpv⟩ : ∃q,q=(hdY X).var:=⟨_,rfl⟩
  obtain⟨pn,hpn⟩ : ∃q,q=(hdY X).name:=⟨_,rfl⟩
  obtain⟨pa,hpa⟩ : ∃q,q=(hdY X).arity:=⟨_,rfl⟩
  obtain⟨qv,hqv⟩ : ∃q,q=(hdY Y).var:=⟨_,rfl⟩
  obtain⟨qn,hqn⟩ : ∃q,q=(hdY Y).name:=⟨_,rfl⟩
  obtain⟨qa,hqa⟩ : ∃q,q=(hdY Y).arity:=⟨_,rfl⟩
  have hcX:∀W v,Sl GTyItem.R 3 lo W v (flatY X)->∃b o c,v=.slice (some ⟨b,o,none⟩) (szY X) c/\szY X<=c/\c<=9223372036854775807/\RowAt W b o [.int .i64 pv,.string pn,.int .i64 pa]:=fun W v h=>by rw[hpv,hpn,hpa];exact head_cells h
  have hcY:∀W v,Sl GTyItem.R 3 lo W v (flatY Y)->∃b o c,v=.slice (some ⟨b,o,none⟩) (szY Y) c/\szY Y<=c/\c<=9223372036854775807/\RowAt W b o [.int .i64 qv,.string qn,.int .i64 qa]:=fun W v h=>by rw[hqv,hqn,hqa];exact head_cells h
  have hXp:=szY_pos X
  have hYp:=szY_pos Y
  rw[<- hpv,<- hpn,<- hpa,<- hqv,<- hqn,<- hqa]at h
  rw[<- hpv,<- hpn]at hvX
  rw[<- hqv,<- hqn]at hvY
  rw[<- hpa]at haX
  rw[<- hqa]at haY
  clear hpv hpn hpa hqv hqn hqa
  obtain⟨ex,hex⟩ : ∃q,pn.toList.isEmpty=q:=⟨_,rfl⟩
  obtain⟨ey,hey⟩ : ∃q,qn.toList.isEmpty=q:=⟨_,rfl⟩
  rw[hex]at h hvX
  rw[hey]at h hvY
  have ex1:(pn.toList == [])=ex:=by rw[<- hex];cases pn.toList<;>rfl
  have ey1:(qn.toList == [])=ey:=by rw[<- hey];cases qn.toList<;>rfl
  obtain⟨bn,hbn⟩ : ∃q,(pn.toList == qn.toList)=q:=⟨_,rfl⟩
  have hbn2:bn=true ↔ pn=qn:=by rw[<- hbn,beq_iff_eq,toList_eq]
  replace ih:=kH ih;replace hpost:=kH hpost;replace hXv:=kH hXv;replace hYv:=kH hYv;replace hXs:=kH hXs;replace hYs:=kH hYs;replace cX:=kH cX;replace cY:=kH cY;replace hLK:=kH hLK;replace cB:=kH cB;replace hvX:=kH hvX;replace hvY:=kH hvY;replace haX:=kH haX;replace haY:=kH haY;replace hcX:=kH hcX;replace hcY:=kH hcY;replace h:=kH h;replace hbn2:=kH hbn2;replace hσ:=kH hσ;replace hnσ:=kH hnσ;replace hXn:=kH hXn;replace hYn:=kH hYn
  go_enter Tryz.func97,Tryz.ntmps97
  go_upto_region 1 with fail
  have A:RowAt (w.alloc (.cells #[.slice xa xn xc] 33)) (w.heap.size) 0 [.slice xa xn xc]:=RowAt.box w #[.slice xa xn xc] 33
  have A:=A.below (show Below (w.alloc (.cells #[.slice xa xn xc] 33)).heap.size (w.alloc (.cells #[.slice xa xn xc] 33)) ((w.alloc (.cells #[.slice xa xn xc] 33)).alloc (.cells #[.slice ya yn yc] 33)) by go_grown)
  have C:RowAt ((w.alloc (.cells #[.slice xa xn xc] 33)).alloc (.cells #[.slice ya yn yc] 33)) (w.heap.size+1) 0 [.slice ya yn yc]:=by have h:=RowAt.box (w.alloc (.cells #[.slice xa xn xc] 33)) #[.slice ya yn yc] 33;simp only[World.size_alloc]at h;exact h
  have hw:Below w.heap.size w ((w.alloc (.cells #[.slice xa xn xc] 33)).alloc (.cells #[.slice ya yn yc] 33)):=by go_grown
  generalize ((w.alloc (.cells #[.slice xa xn xc] 33)).alloc (.cells #[.slice ya yn yc] 33))=w0 at *
  have a_0:=A.box1;have hsA:=bLt a_0;have c_0:=C.box1;have hsC:=bLt c_0
  obtain⟨zx,hzx⟩ : ∃q,q=szY X:=⟨_,rfl⟩
  obtain⟨zy,hzy⟩ : ∃q,q=szY Y:=⟨_,rfl⟩
  have hfX:=flatY_len X
  have hfY:=flatY_len Y
  rw[<- hzx]at hcX hXp hXz hfX
  rw[<- hzy]at hcY hYp hYz hfY
  replace hfX:=kH hfX;replace hfY:=kH hfY;replace hzx:=kH hzx;replace hzy:=kH hzy
  go_upto_region 2 with(go_at_call 24;(with_reducible refine(cX.out _ hw).mono ?_);rintro e w1 ⟨v1,rfl,T1,hb1⟩;obtain⟨a1,c1,rfl⟩:=T1.form;rw[hfX.out]at T1 ⊢)
  obtain⟨w2,hW2⟩ : ∃W,W=w1.alloc (.cells #[.slice a1 zx c1] 33):=⟨_,rfl⟩
  rw[<- hW2]
  have hb2:Below w1.heap.size w1 w2:=by rw[hW2];go_grown
  have X2:RowAt w2 w1.heap.size 0 [.slice a1 zx c1]:=by rw[hW2];exact RowAt.box w1 #[_] _
  have C2:=(C.below hb1).below hb2
  have hw1:=hw.trans (hb1.mono hw.size)
  have hw2:=hw1.trans (hb2.mono hw1.size)
  have S2:=((T1.sl flatTyItem).mono GTyItem.good (show lo<=w0.heap.size by have:=hw.size;omega)).below GTyItem.good hb2
  obtain⟨xb,hxb⟩ : ∃q,q=w1.heap.size:=⟨_,rfl⟩
  rw[<- hxb]at X2 ⊢
  have hz1:=hw1.size
  have hz2:=hw2.size
  clear hW2 a_0 hsA A c_0 hsC C T1 hb2 hb1 hw hw1
  replace hxb:=kH hxb;replace S2:=kH S2
  have c2_0:=C2.box1;have hsC2:=bLt c2_0;have x2_0:=X2.box1;have hsX2:=bLt x2_0
  go_upto_region 3 with(go_at_call 24;(with_reducible refine(cY.out _ hw2).mono ?_);rintro e w3 ⟨v3,rfl,T3,hb3⟩;obtain⟨a3,c3,rfl⟩:=T3.form;rw[hfY.out]at T3 ⊢)
  obtain⟨w4,hW4⟩ : ∃W,W=w3.alloc (.cells #[.slice a3 zy c3] 33):=⟨_,rfl⟩
  rw[<- hW4]
  have hb4:Below w3.heap.size w3 w4:=by rw[hW4];go_grown
  have Y4:RowAt w4 w3.heap.size 0 [.slice a3 zy c3]:=by rw[hW4];exact RowAt.box w3 #[_] _
  have X4:=(X2.below hb3).below hb4
  have hb24:=hb3.trans (hb4.mono hb3.size)
  have hw4:=hw2.trans (hb24.mono hw2.size)
  have SY:=((T3.sl flatTyItem).mono GTyItem.good (show lo<=w2.heap.size by omega)).below GTyItem.good hb4
  have SX:=S2.out.below GTyItem.good hb24
  obtain⟨yb,hyb⟩ : ∃q,q=w3.heap.size:=⟨_,rfl⟩
  rw[<- hyb]at Y4 ⊢
  have hz4:=hw4.size
  have hxy:xb<yb:=by have:=hb3.size;omega
  clear hW4 c2_0 hsC2 C2 x2_0 hsX2 X2 T3 hb3 hb4 hb24 S2 hw2
  obtain⟨bx,ox,cx,ex2,hx1,hx2,HX⟩:=hcX.out _ _ SX
  obtain⟨by_,oy,cy,ey2,hy1,hy2,HY⟩:=hcY.out _ _ SY
  obtain⟨rfl,rfl⟩ : a1=some ⟨bx,ox,none⟩/\c1=cx:=by injection ex2 with h1 h2 h3;exact⟨h1,h3⟩
  obtain⟨rfl,rfl⟩ : a3=some ⟨by_,oy,none⟩/\c3=cy:=by injection ey2 with h1 h2 h3;exact⟨h1,h3⟩
  clear ex2 ey2
  replace SX:=kH SX;replace SY:=kH SY;replace hyb:=kH hyb
  have x4_0:=X4.box1;have hsX4:=bLt x4_0;have y4_0:=Y4.box1;have hsY4:=bLt y4_0
  obtain⟨p_0,p_1,p_2⟩:=HX.cells3
  obtain⟨q_0,q_1,q_2⟩:=HY.cells3
  have hbx:=World.block_lt_of_cell? _ _ p_0;dsimp only at hbx
  have hby:=World.block_lt_of_cell? _ _ q_0;dsimp only at hby
  go_upto_region 5 with fail
  obtain⟨w5,hW5⟩ : ∃W,W=(w4.alloc (.cells #[.int .i64 pv,.string pn,.int .i64 pa] 107)).alloc (.cells #[.int .i64 qv,.string qn,.int .i64 qa] 107):=⟨_,rfl⟩
  rw[<- hW5]
  have hb45:Below w4.heap.size w4 w5:=by rw[hW5];go_grown
  have P5:RowAt w5 w4.heap.size 0 [.int .i64 pv,.string pn,.int .i64 pa]:=by rw[hW5];exact(RowAt.box w4 #[_,_,_] _).below (by go_grown)
  have Q5:RowAt w5 (w4.heap.size+1) 0 [.int .i64 qv,.string qn,.int .i64 qa]:=by rw[hW5];have h:=RowAt.box (w4.alloc (.cells #[.int .i64 pv,.string pn,.int .i64 pa] 107)) #[.int .i64 qv,.string qn,.int .i64 qa] 107;simp only[World.size_alloc]at h;exact h
  have X5:=X4.below hb45
  have Y5:=Y4.below hb45
  have SX5:=kH (SX.out.below GTyItem.good hb45)
  have SY5:=kH (SY.out.below GTyItem.good hb45)
  have hw5:=hw4.trans (hb45.mono hz4)
  obtain⟨pb,hpb⟩ : ∃q,q=w4.heap.size:=⟨_,rfl⟩
  rw[<- hpb]at P5 Q5 ⊢
  have hz5:=hw5.size
  clear hW5 p_0 p_1 p_2 q_0 q_1 q_2 hbx hby x4_0 hsX4 X4 y4_0 hsY4 Y4 HX HY SX SY hb45 hw4 hz4 hcX hcY
  replace hpb:=kH hpb
  have x5_0:=X5.box1;have hsX5:=bLt x5_0;have y5_0:=Y5.box1;have hsY5:=bLt y5_0;obtain⟨p5_0,p5_1,p5_2⟩:=P5.box3;have hsP5:=bLt p5_0;obtain⟨q5_0,q5_1,q5_2⟩:=Q5.box3;have hsQ5:=bLt q5_0
  have hrX:∀W,Below w5.heap.size w5 W->bindY σ pv Y=r->ex=true->Calls Tryz.prog 136 #[.slice la m lc,.int .i64 pv,.agg #[.slice (some ⟨by_,oy,none⟩) zy c3]] W (fun e w'=>∃lv',e=.returned (.tuple #[lv',.int .i64 r.1])/\(∃a n c,lv' = .slice a n c)/\(r.1=0->Sl SubR 2 lo w' lv' r.2)/\Below W.heap.size W w'):=fun W hW hr he=>by
   have:=cB.out pv Y (.slice (some ⟨by_,oy,none⟩) zy c3) W (hvX.out he) hYn.out (by have:=hzy.out;omega) (by have:=hW.size;omega) (hw5.trans (hW.mono hz5)) (SY5.out.below GTyItem.good hW)
   rwa [hr]at this
  have hrY:∀W,Below w5.heap.size w5 W->bindY σ qv X=r->ey=true->Calls Tryz.prog 136 #[.slice la m lc,.int .i64 qv,.agg #[.slice (some ⟨bx,ox,none⟩) zx c1]] W (fun e w'=>∃lv',e=.returned (.tuple #[lv',.int .i64 r.1])/\(∃a n c,lv' = .slice a n c)/\(r.1=0->Sl SubR 2 lo w' lv' r.2)/\Below W.heap.size W w'):=fun W hW hr he=>by
   have:=cB.out qv X (.slice (some ⟨bx,ox,none⟩) zx c1) W (hvY.out he) hXn.out (by have:=hzx.out;omega) (by have:=hW.size;omega) (hw5.trans (hW.mono hz5)) (SX5.out.below GTyItem.good hW)
   rwa [hr]at this
  replace hrX:=kH hrX;replace hrY:=kH hrY
  clear cX cY
  cases ex
  ·cases ey
   ·by_cases hn:pn=qn
    ·have hbt:bn=true:=hbn2.out.2 hn
     have hbf:(pn.toList == qn.toList)=true:=by rw[hbn,hbt]
     by_cases ha:pa=qa
     ·have h':=h.out
      rw[if_neg (by simp),if_neg (by simp),if_neg (by simp),if_neg (by simp[hn,ha])]at h'
      subst ha
      subst hn
      clear h hbt hbn hbn2 hbf hrX hrY hvX hvY cB ex1 ey1 hey
      have hpost0:=hpost
      have hkl:(kidsY Y).length=(kidsY X).length:=by have h1:=haX.out;have h2:=haY.out;omega
      have hk2:=kidsY_len X
      obtain⟨ar,har⟩ : ∃q,q=(kidsY X).length:=⟨_,rfl⟩
      obtain rfl:pa=(ar:Int):=by rw[har];exact haX.out
      rw[<- har]at hkl hk2
      have cPX:∀W j a,(kidsY X)[j]? = some a->Below w5.heap.size w5 W->Calls Tryz.prog 137 #[.agg #[.slice (some ⟨bx,ox,none⟩) zx c1],.int .i64 (posY X j:Nat)] W (fun e w'=>∃v,e=.returned (.agg #[v])/\Sl GTyItem.R 3 lo w' v (flatY a)/\∀V,Below V.heap.size V W->Below V.heap.size V w'):=fun W j a h1 hW=>
       (part_c h1 (by have:=hzx.out;omega) _ W ((SX5.out.below GTyItem.good hW).mono GTyItem.good (Nat.zero_le _))).mono (by rintro e w' ⟨v,rfl,h2,h3⟩;exact⟨v,rfl,(h2.sl flatTyItem).mono GTyItem.good (by have:=hW.size;omega),fun V hV=>hV.trans (h3.mono hV.size)⟩)
      have cPY:∀W j a,(kidsY Y)[j]? = some a->Below w5.heap.size w5 W->Calls Tryz.prog 137 #[.agg #[.slice (some ⟨by_,oy,none⟩) zy c3],.int .i64 (posY Y j:Nat)] W (fun e w'=>∃v,e=.returned (.agg #[v])/\Sl GTyItem.R 3 lo w' v (flatY a)/\∀V,Below V.heap.size V W->Below V.heap.size V w'):=fun W j a h1 hW=>
       (part_c h1 (by have:=hzy.out;omega) _ W ((SY5.out.below GTyItem.good hW).mono GTyItem.good (Nat.zero_le _))).mono (by rintro e w' ⟨v,rfl,h2,h3⟩;exact⟨v,rfl,(h2.sl flatTyItem).mono GTyItem.good (by have:=hW.size;omega),fun V hV=>hV.trans (h3.mono hV.size)⟩)
      have cEX:∀W j a,(kidsY X)[j]? = some a->Below w5.heap.size w5 W->Calls Tryz.prog 138 #[.agg #[.slice (some ⟨bx,ox,none⟩) zx c1],.int .i64 (posY X j:Nat)] W (fun e w'=>e=.returned (.int .i64 (posY X (j+1):Nat))/\Below W.heap.size W w'):=fun W j a h1 hW=>
       end_c h1 (by have:=hzx.out;omega) _ W ((SX5.out.below GTyItem.good hW).mono GTyItem.good (Nat.zero_le _))
      have cEY:∀W j a,(kidsY Y)[j]? = some a->Below w5.heap.size w5 W->Calls Tryz.prog 138 #[.agg #[.slice (some ⟨by_,oy,none⟩) zy c3],.int .i64 (posY Y j:Nat)] W (fun e w'=>e=.returned (.int .i64 (posY Y (j+1):Nat))/\Below W.heap.size W w'):=fun W j a h1 hW=>
       end_c h1 (by have:=hzy.out;omega) _ W ((SY5.out.below GTyItem.good hW).mono GTyItem.good (Nat.zero_le _))
      have hpX:=fun j=>Nat.le_trans (posY_le X j) (by have:=hzx.out;omega:szY X<=40000)
      have hpY:=fun j=>Nat.le_trans (posY_le Y j) (by have:=hzy.out;omega:szY Y<=40000)
      have hl0:=kH (hLK.out w5 hw5)
      have hr0:=kH h'
      have hg0:=kH (show GoodS N σ/\ExtS σ σ/\NamesS σ from ⟨hσ.out,ExtS.refl hσ.out,hnσ.out⟩)
      have hw50:=kH (Below.refl w5.heap.size w5)
      clear h'
      replace cPX:=kH cPX;replace cPY:=kH cPY;replace cEX:=kH cEX;replace cEY:=kH cEY;replace har:=kH har;replace hkl:=kH hkl;replace hpX:=kH hpX;replace hpY:=kH hpY
      go_wp2_with fail
      go_loopw [2,12,13,14] (fun sv iv kv nv wr=>∃ (j:Nat) (τ:Sbs) (lj:Value),lj=sv/\j<=ar/\iv=.int .i64 (posY X j:Nat)/\kv=.int .i64 (posY Y j:Nat)/\nv=.int .i64 j/\Hid (Sl SubR 2 lo wr lj τ)/\Hid (unifyKs f ((kidsY X).drop j) ((kidsY Y).drop j) τ=some r)/\Hid (GoodS N τ/\ExtS σ τ/\NamesS τ)/\Hid (Below w5.heap.size w5 wr)) (fun _ _ _ nv _=>ar-(intOf nv).toNat)
      case atStart=>exact⟨0,σ,_,rfl,by omega,rfl,rfl,rfl,hl0,hr0,hg0,hw50⟩
      case round=>
       clear hl0 hr0 hg0 hw50
       obtain⟨j,τ,lj,rfl,hj,rfl,rfl,rfl,hl,hr,hg,hw⟩:=hrel
       have X6:=X5.below hw.out
       have Y6:=Y5.below hw.out
       have P6:=P5.below hw.out
       clear x5_0 hsX5 y5_0 hsY5 p5_0 p5_1 p5_2 hsP5 q5_0 q5_1 q5_2 hsQ5
       have x6_0:=X6.box1;have hsX6:=bLt x6_0;have y6_0:=Y6.box1;have hsY6:=bLt y6_0;obtain⟨p6_0,p6_1,p6_2⟩:=P6.box3;have hsP6:=bLt p6_0
       have hz6:=hw.out.size
       have hpjX:=hpX.out j
       have hpjY:=hpY.out j
       by_cases hlt:j<ar
       ·obtain⟨a,ha⟩ : ∃a,(kidsY X)[j]? = some a:=⟨_,List.getElem?_eq_getElem (by have:=har.out;omega)⟩
        obtain⟨b,hb⟩ : ∃b,(kidsY Y)[j]? = some b:=⟨_,List.getElem?_eq_getElem (by have:=hkl.out;omega)⟩
        have hpj1X:=hpX.out (j+1)
        have hpj1Y:=hpY.out (j+1)
        have hr':=hr.out
        have dX:(kidsY X).drop j=a :: (kidsY X).drop (j+1):=by obtain⟨h1,rfl⟩:=List.getElem?_eq_some_iff.1 ha;exact List.drop_eq_getElem_cons h1
        have dY:(kidsY Y).drop j=b :: (kidsY Y).drop (j+1):=by obtain⟨h1,rfl⟩:=List.getElem?_eq_some_iff.1 hb;exact List.drop_eq_getElem_cons h1
        rw[dX,dY,unifyKs]at hr'
        obtain⟨c,τ',hq⟩ : ∃c τ',unifyF f a b τ=some (c,τ'):=by
         cases hq:unifyF f a b τ with
         |none=>rw[hq]at hr';cases hr'
         |some q=>exact⟨q.1,q.2,rfl⟩
        rw[hq]at hr'
        dsimp only at hr'
        obtain⟨hg1,hg2,hg3⟩:=hg.out
        have hma:=List.mem_of_getElem? ha
        have hmb:=List.mem_of_getElem? hb
        have cU:=fun va vb W (h1:Sl GTyItem.R 3 lo W va (flatY a)) (h2:Sl GTyItem.R 3 lo W vb (flatY b)) (hW:Below wr.heap.size wr W)=>ih.out a b τ (c,τ') hq hg1 (fun n hn=>(hXv.out n (kidsY_occ hma hn)).1) (fun n hn=>(hYv.out n (kidsY_occ hmb hn)).1) (kidsY_names hma hXn.out) (kidsY_names hmb hYn.out) hg3 ((hXs.out a hma).ext hg2) ((hYs.out b hmb).ext hg2) va vb lj lo W (by have:=hW.size;omega) h1 h2 (hl.out.below SubR.good hW)
        unfold BindPost at cU
        have hgood:=fun(h0:c=0)=>(show GoodS N τ'/\ExtS σ τ'/\NamesS τ' from ⟨(unifyF_good hN hg1 (fun n hn=>(hXv.out n (kidsY_occ hma hn)).1) (fun n hn=>(hYv.out n (kidsY_occ hmb hn)).1) hq h0).1,hg2.trans (unifyF_good hN hg1 (fun n hn=>(hXv.out n (kidsY_occ hma hn)).1) (fun n hn=>(hYv.out n (kidsY_occ hmb hn)).1) hq h0).2,unifyF_names _ _ _ _ _ _ hg3 (kidsY_names hma hXn.out) (kidsY_names hmb hYn.out) hq⟩)
        have cPX':=fun W (hW:Below wr.heap.size wr W)=>cPX.out W j a ha (hw.out.trans (hW.mono hz6))
        have cPY':=fun W (hW:Below wr.heap.size wr W)=>cPY.out W j b hb (hw.out.trans (hW.mono hz6))
        have cEX':=fun W (hW:Below wr.heap.size wr W)=>cEX.out W j a ha (hw.out.trans (hW.mono hz6))
        have cEY':=fun W (hW:Below wr.heap.size wr W)=>cEY.out W j b hb (hw.out.trans (hW.mono hz6))
        dsimp only at cU
        generalize hpA:posY X j=pA at *
        generalize hpB:posY Y j=pB at *
        generalize hpA' : posY X (j+1)=pA' at *
        generalize hpB' : posY Y (j+1)=pB' at *
        clear hq hg1 hg2 hg3 hma hmb dX dY hr
        replace hr':=kH hr';replace cU:=kH cU;replace hgood:=kH hgood;replace cPX':=kH cPX';replace cPY':=kH cPY';replace cEX':=kH cEX';replace cEY':=kH cEY';replace ha:=kH ha;replace hb:=kH hb;replace hpA:=kH hpA;replace hpB:=kH hpB;replace hpA':=kH hpA';replace hpB':=kH hpB'
        go_upto_region 18 with fail
        go_cut [15,16] (fun sv cv wx=>∃ (la' : Option Addr) (m' lc' : Nat),sv=.slice la' m' lc'/\cv=.int .i64 c/\Hid (c=0->Sl SubR 2 lo wx (.slice la' m' lc') τ')/\Hid (Below wr.heap.size wr wx))
        case first=>
         go_region_held3 (fun w'=>w'.cell? ⟨xb,0,none⟩=some (.slice (some ⟨bx,ox,none⟩) zx c1)/\w'.cell? ⟨yb,0,none⟩=some (.slice (some ⟨by_,oy,none⟩) zy c3))
          (first|exact⟨x6_0,y6_0⟩|exact⟨u_0,v_0⟩|go_keep)
          (first
           |(go_at_call 137;first
            |((with_reducible refine(cPX'.out _ ((Below.refl _ wr).drew)).mono ?_);rintro e wX ⟨vX,rfl,TX,hX⟩;have hX0:=hX wr ((Below.refl _ _).drew);have u_0:=(X6.below hX0).box1;have v_0:=(Y6.below hX0).box1;replace hX0:=kH hX0;replace TX:=kH TX;replace hX:=kH hX)
            |((with_reducible refine(cPX'.out _ hY0.out).mono ?_);rintro e wX ⟨vX,rfl,TX,hX⟩;have hX0:=hX wr hY0.out;replace TY:=kH (TY.out.below GTyItem.good (hX wY (Below.refl _ _)));have u_0:=(X6.below hX0).box1;have v_0:=(Y6.below hX0).box1;replace hX0:=kH hX0;replace TX:=kH TX;replace hX:=kH hX)
            |((with_reducible refine(cPY'.out _ ((Below.refl _ wr).drew)).mono ?_);rintro e wY ⟨vY,rfl,TY,hY⟩;have hY0:=hY wr ((Below.refl _ _).drew);have u_0:=(X6.below hY0).box1;have v_0:=(Y6.below hY0).box1;replace hY0:=kH hY0;replace TY:=kH TY;replace hY:=kH hY)
            |((with_reducible refine(cPY'.out _ hX0.out).mono ?_);rintro e wY ⟨vY,rfl,TY,hY⟩;have hY0:=hY wr hX0.out;replace TX:=kH (TX.out.below GTyItem.good (hY wX (Below.refl _ _)));have u_0:=(X6.below hY0).box1;have v_0:=(Y6.below hY0).box1;replace hY0:=kH hY0;replace TY:=kH TY;replace hY:=kH hY))
           |(go_at_call 97;first
            |((with_reducible refine(cU.out _ _ _ TX.out TY.out hX0.out).mono ?_);rintro e wU ⟨lvU,rfl,⟨aU,nU,cU',rfl⟩,hsU,hbU⟩;have hU0:=hX0.out.trans (hbU.mono hX0.out.size);have u_0:=(X6.below hU0).box1;have v_0:=(Y6.below hU0).box1;replace hsU:=kH hsU;replace hU0:=kH hU0;replace hbU:=kH hbU)
            |((with_reducible refine(cU.out _ _ _ TX.out TY.out hY0.out).mono ?_);rintro e wU ⟨lvU,rfl,⟨aU,nU,cU',rfl⟩,hsU,hbU⟩;have hU0:=hY0.out.trans (hbU.mono hY0.out.size);have u_0:=(X6.below hU0).box1;have v_0:=(Y6.below hU0).box1;replace hsU:=kH hsU;replace hU0:=kH hU0;replace hbU:=kH hbU)))
         all_goals go_wp2_with fail
         all_goals go_meet
         all_goals exact⟨_,_,_,rfl,rfl,hsU,hU0⟩
        obtain⟨lU,mU,cU2,hv1,rfl,hsU,hU0⟩:=hcut
        subst hv1
        have X7:=X6.below hU0.out
        have Y7:=Y6.below hU0.out
        have hz7:=hU0.out.size
        clear x6_0 hsX6 y6_0 hsY6 p6_0 p6_1 p6_2 hsP6 X6 Y6 cU cPX' cPY' cPX cPY
        have x7_0:=X7.box1;have hsX7:=bLt x7_0;have y7_0:=Y7.box1;have hsY7:=bLt y7_0
        by_cases h0:c=0
        ·subst h0
         have hr1:=hr'.out
         rw[if_pos rfl]at hr1
         have hg1:=hgood.out rfl
         replace hr1:=kH hr1;replace hg1:=kH hg1
         clear hr' hgood
         go_wp2_with (go_at_call 138;first
          |((with_reducible refine(cEX'.out _ hU0.out).mono ?_);rintro e w8 ⟨rfl,hb8⟩;have hU8:=hU0.out.trans (hb8.mono hz7);have y8_0:=(Y7.below hb8).box1;have hsY8:=bLt y8_0;clear x7_0 hsX7 y7_0 hsY7;replace hU8:=kH hU8;replace hb8:=kH hb8)
          |((with_reducible refine(cEY'.out _ hU8.out).mono ?_);rintro e w9 ⟨rfl,hb9⟩;have hU9:=hU8.out.trans (hb9.mono hU8.out.size);replace hU9:=kH hU9;replace hb9:=kH hb9))
         go_roundw
         case rel=>exact⟨j+1,τ',_,rfl,by omega,by rw[hpA'.out],by rw[hpB'.out],by go_num,kH ((hsU.out (by first|rfl|trivial)).below SubR.good (hb8.out.trans (hb9.out.mono hb8.out.size))),hr1,hg1,kH (hw.out.trans (hU9.out.mono hz6))⟩
         case measure=>simp[intOf];omega
        ·have d0:(c != 0)=true:=by simpa using h0
         have d1:(c == 0)=false:=beq_eq_false_iff_ne.2 h0
         have hr1:=hr'.out
         rw[if_neg h0]at hr1
         obtain rfl:=Option.some.inj hr1
         clear hr' hgood hr1 cEX' cEY'
         replace h0:=kH h0
         go_wp2_with fail
         exact hpost.out _ _ ⟨_,_,_,rfl⟩ (fun h=>absurd h h0.out) (hw5.trans ((hw.out.trans (hU0.out.mono hz6)).mono hz5))
       ·obtain rfl:j=ar:=by omega
        have hr':=hr.out
        have hd1:(kidsY X).drop j=[]:=List.drop_of_length_le (by have:=har.out;omega)
        rw[hd1]at hr'
        replace hr' : some ((0:Int),τ)=some r:=by rw[<- hr'];cases (kidsY Y).drop j<;>rfl
        obtain rfl:=Option.some.inj hr'
        obtain⟨la',lc',hv⟩:=hl.out.form
        obtain⟨m',hm'⟩ : ∃q,q=τ.length:=⟨_,rfl⟩
        rw[<- hm']at hv
        replace hm':=kH hm'
        subst hv
        clear hr hr' hd1
        go_wp2_with fail
        exact hpost.out _ _ ⟨_,_,_,rfl⟩ (fun _=>hl.out) (hw5.trans (hw.out.mono hz5))
     ·have h':=h.out
      rw[if_neg (by simp),if_neg (by simp),if_neg (by simp),if_pos (.inr ha)]at h'
      obtain rfl:=Option.some.inj h'
      have da:(pa == qa)=false:=beq_eq_false_iff_ne.2 ha
      clear h h' hn ha hbt hbn hbn2
      go_wp2_with fail
      exact hpost.out _ _ ⟨_,_,_,rfl⟩ (fun h=>by simp at h) hw5
    ·have hbf:(pn.toList == qn.toList)=false:=by rw[hbn,Bool.eq_false_iff];exact fun h=>hn (hbn2.out.1 h)
     have h':=h.out
     rw[if_neg (by simp),if_neg (by simp),if_neg (by simp),if_pos (.inl hn)]at h'
     obtain rfl:=Option.some.inj h'
     clear h h' hn hbn hbn2
     go_wp2_with fail
     exact hpost.out _ _ ⟨_,_,_,rfl⟩ (fun h=>by simp at h) hw5
   ·have h':=h.out
    rw[if_neg (by simp),if_neg (by simp),if_pos rfl]at h'
    have hr:=hrY.out w5 (Below.refl _ _) (Option.some.inj h') rfl
    replace hr:=kH hr
    clear h h'
    go_wp2_with (go_at_call 136;(with_reducible refine(hr.out).mono ?_);rintro e w6 ⟨lv6,rfl,⟨a6,n6,c6,rfl⟩,hs6,hb6⟩;replace hs6:=kH hs6)
    exact hpost.out _ _ ⟨_,_,_,rfl⟩ hs6.out (hw5.trans (hb6.mono hz5))
  ·have hgo:ey=true/\pv=qv\/ey=true/\pv<qv\/(ey=false\/qv<pv)/\¬ (ey=true/\pv=qv):=by cases ey<;>simp<;>omega
   rcases hgo with⟨rfl,he⟩|⟨rfl,hl⟩|⟨hl,hne⟩
   ·have h':=h.out
    rw[if_pos ⟨rfl,rfl,he⟩]at h'
    obtain rfl:=Option.some.inj h'
    subst he
    clear h h'
    go_wp2_with fail
    exact hpost.out _ _ ⟨_,_,_,rfl⟩ (fun _=>hLK.out _ hw5) hw5
   ·have h':=h.out
    rw[if_neg (by simp;omega),if_neg (by simp;omega),if_pos rfl]at h'
    have hr:=hrY.out w5 (Below.refl _ _) (Option.some.inj h') rfl
    have d1:(pv == qv)=false:=beq_eq_false_iff_ne.2 (by omega)
    have d2:decide (qv<pv)=false:=decide_eq_false (by omega)
    replace hr:=kH hr
    clear h h' hl
    go_wp2_with (go_at_call 136;(with_reducible refine(hr.out).mono ?_);rintro e w6 ⟨lv6,rfl,⟨a6,n6,c6,rfl⟩,hs6,hb6⟩;replace hs6:=kH hs6)
    exact hpost.out _ _ ⟨_,_,_,rfl⟩ hs6.out (hw5.trans (hb6.mono hz5))
   ·have h':=h.out
    rw[if_neg (fun h=>hne h.2),if_pos ⟨rfl,hl⟩]at h'
    have hr:=hrX.out w5 (Below.refl _ _) (Option.some.inj h') rfl
    replace hr:=kH hr
    clear h h'
    cases ey
    ·clear hl hne
     go_wp2_with (go_at_call 136;(with_reducible refine(hr.out).mono ?_);rintro e w6 ⟨lv6,rfl,⟨a6,n6,c6,rfl⟩,hs6,hb6⟩;replace hs6:=kH hs6)
     exact hpost.out _ _ ⟨_,_,_,rfl⟩ hs6.out (hw5.trans (hb6.mono hz5))
    ·have hl:qv<pv:=by rcases hl with h|h;cases h;exact h
     have d1:(pv == qv)=false:=beq_eq_false_iff_ne.2 (by omega)
     have d2:decide (qv<pv)=true:=decide_eq_true (by omega)
     clear hl hne
     go_wp2_with (go_at_call 136;(with_reducible refine(hr.out).mono ?_);rintro e w6 ⟨lv6,rfl,⟨a6,n6,c6,rfl⟩,hs6,hb6⟩;replace hs6:=kH hs6)
     exact hpost.out _ _ ⟨_,_,_,rfl⟩ hs6.out (hw5.trans (hb6.mono hz5))
theorem l05Unify_all (N:Int) (hN:0<=N) (hN2:N<=1000000) (f:Nat):UniC N f:=by
 induction f with
 |zero=>intro x y σ r h;simp[unifyF]at h
 |succ f ih=>exact fun x y σ r h h1 h2 h3 h4 h5 h6 h7 h8 xv yv lv lo w h9 h10 h11 h12=>l05Unify_step N hN hN2 f ih x y σ r h h1 h2 h3 h4 h5 h6 h7 h8 xv yv lv lo w h9 h10 h11 h12
theorem l05Unify_c (N:Int) (hN:0<=N) (hN2:N<=1000000) (f:Nat) (x y:TyT) (σ:Sbs) (r:Int × Sbs) (h:unifyF f x y σ=some r) (hσ:GoodS N σ) (hx:VarsIn N x) (hy:VarsIn N y) (hnx:NamesY x) (hny:NamesY y) (hnσ:NamesS σ) (hsx:SmY σ x) (hsy:SmY σ y)
  (xv yv lv:Value) (lo:Nat) (w:World) (hlo:lo<=w.heap.size) (hxv:Sl GTyItem.R 3 lo w xv (flatY x)) (hyv:Sl GTyItem.R 3 lo w yv (flatY y)) (hl:Sl SubR 2 lo w lv σ) :
  Calls Tryz.prog 97 #[.agg #[xv],.agg #[yv],lv] w (BindPost lo r w):=l05Unify_all N hN hN2 f x y σ r h hσ hx hy hnx hny hnσ hsx hsy xv yv lv lo w hlo hxv hyv hl
end Go.Proofs.YtkikkfjmggobpaaGreat
