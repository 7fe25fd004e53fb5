/- Parts of the proof, merged: Ist, InsOk, InsOk3a, PatD, Node, Node2. -/
import Derived.Shelf.Abstract
import Derived.Deep.RegionLaw
import Derived.Test.YtkikkfjmggobpaaGreatDt11
namespace Go.Proofs.YtkikkfjmggobpaaGreat
open Go.RowKit
set_option linter.unusedVariables false
set_option linter.unusedSimpArgs false
/-! ### Frames -/
structure IFr (b:Nat) (w w' : World):Prop where
 below:Below b w w'
 kept:Kept (fun q=>q=b) w w'
theorem IFr.size {b:Nat} {w w' : World} (h:IFr b w w'):w.heap.size<=w'.heap.size:=h.below.size
theorem IFr.refl (b:Nat) (w:World):IFr b w w:=⟨Below.refl _ _,Kept.refl _ _⟩
theorem IFr.trans {b:Nat} {w w1 w2:World} (h:IFr b w w1) (k:IFr b w1 w2):IFr b w w2:=⟨h.below.trans k.below,h.kept.trans h.size k.kept⟩
theorem IFr.of {b:Nat} {w w' : World} (h:Below w.heap.size w w') (hb:b<=w.heap.size):IFr b w w':=⟨h.mono hb,Kept.below h⟩
theorem IFr.set {b:Nat} {w w' : World} (h:IFr b w w') (o:Nat) (u:Value):IFr b w (w'.setCell ⟨b,o,none⟩ u):=⟨h.below.setCell (p:=⟨b,o,none⟩) (Nat.le_refl _) u,h.kept.set (p:=⟨b,o,none⟩) rfl u⟩
theorem IFr.setNew {b g o:Nat} {w w' : World} (h:IFr b w w') (hg:w.heap.size<=g) (hb:b<=g) (u:Value):IFr b w (w'.setCell ⟨g,o,none⟩ u):=
 ⟨h.below.setCell (p:=⟨g,o,none⟩) hb u,fun k h1 h2=>(Below.heap_setCell _ _ _ _ (by dsimp only;omega)).trans (h.kept k h1 h2)⟩
theorem IFr.grow {b:Nat} {w w' w2:World} (h:IFr b w w') (hb:Below w'.heap.size w' w2) (hbl:b<=w'.heap.size):IFr b w w2:=h.trans (IFr.of hb hbl)
theorem IFr.grown {b:Nat} {w w1 w2:World} {row:Option Nat} (h:IFr b w w1) (hg:w1.grownBy w2 row) (hb:b<=w1.heap.size) (hr:∀k,row=some k->w.heap.size<=k/\b<=k):IFr b w w2:=
 ⟨h.below.grown hg hb (fun k hk=>(hr k hk).2),fun k h1 h2=>(hg.block k (by have:=h.size;omega) (fun e=>by have:=(hr k e.symm).1;omega)).trans (h.kept k h1 h2)⟩
theorem IFr.agree {b:Nat} {w w' : World} (h:IFr b w w'):Agree (b+1) w w':=fun k h1 h2=>h.kept k h2 (by omega)
theorem IFr.sl {α:Type} {R:Reading α} {sz b:Nat} (g:R.Good) {w w' : World} {v:Value} {xs:List α} (h:IFr b w w') (hs:Sl R sz (b+1) w v xs):Sl R sz (b+1) w' v xs:=hs.agree g h.agree
theorem IFr.row {b g o:Nat} {w w' : World} {r:List Value} (h:IFr b w w') (hr:RowAt w g o r) (hg:g≠b):RowAt w' g o r:=hr.kept h.kept hg
/-! ### The plain state -/
structure IS where
 sub:Sbs
 nx:Nat
 cd:Int
 at_:Int
/-- The unifier. -/
noncomputable def unifyY (x y:TyT) (σ:Sbs):Int × Sbs:=by
 classical exact if h:∃r,∃f,unifyF f x y σ=some r then Classical.choose h else (2,[])
theorem unifyY_of {f:Nat} {x y:TyT} {σ:Sbs} {r:Int × Sbs} (h:unifyF f x y σ=some r):unifyY x y σ=r:=by
 have hex:∃r,∃f,unifyF f x y σ=some r:=⟨r,f,h⟩
 unfold unifyY
 rw[dif_pos hex]
 obtain⟨g,hg⟩:=Classical.choose_spec hex
 exact Option.some.inj ((unifyF_le (Nat.le_max_right f g) hg).symm.trans (unifyF_le (Nat.le_max_left f g) h))
theorem unifyY_is {N:Int} (hN:0<=N) {x y:TyT} {σ:Sbs} (hσ:GoodS N σ) (hx:VarsIn N x) (hy:VarsIn N y):∃f,unifyF f x y σ=some (unifyY x y σ):=by
 obtain⟨f,c,τ,h,-⟩:=unify_total hN (N-σ.length).toNat (szY (subY σ x)) x y σ hσ hx hy (by omega) (Nat.le_refl _)
 exact⟨f,by rw[unifyY_of h,h]⟩
def IS.fault (s:IS) (c a:Int):IS:=if s.cd=0 then ⟨s.sub,s.nx,c,a⟩ else s
def IS.big (s:IS) (t:TyT) (a:Int):IS:=if s.cd=0/\200<szY (subY s.sub t) then s.fault 26 a else s
noncomputable def IS.demand (s:IS) (x y:TyT) (a:Int):IS:=
 if ((s.big x a).big y a).cd=0 then (if (unifyY x y s.sub).1=0 then ⟨(unifyY x y s.sub).2,s.nx,0,s.at_⟩ else s.fault (22+(unifyY x y s.sub).1) a) else (s.big x a).big y a
def IS.new (s:IS):IS:=⟨s.sub,s.nx+1,s.cd,s.at_⟩
structure IS.Good (s:IS):Prop where
 sub:s.cd=0->GoodS s.nx s.sub/\NamesS s.sub
 cd:0<=s.cd/\s.cd<=99
 at_:I64 s.at_
def TyIn (s:IS) (t:TyT):Prop:=VarsIn s.nx t/\NamesY t
theorem VarsIn.up {N M:Int} {t:TyT} (h:VarsIn N t) (hm:N<=M):VarsIn M t:=fun n hn=>by have:=h n hn;omega
theorem TyIn.up {s s' : IS} {t:TyT} (h:TyIn s t) (hn:s.nx<=s'.nx):TyIn s' t:=⟨h.1.up (by omega),h.2⟩
theorem IS.Good.fault {s:IS} (h:s.Good) {c a:Int} (hc:0<c/\c<=99) (ha:I64 a):(s.fault c a).Good:=by
 unfold IS.fault
 split
 ·exact⟨fun h=>by dsimp only at h;omega,by dsimp only;omega,ha⟩
 ·exact h
theorem IS.fault_nx (s:IS) (c a:Int):(s.fault c a).nx=s.nx:=by unfold IS.fault;split<;>rfl
theorem IS.fault_cd {s:IS} {c a:Int} (hc:0<c):(s.fault c a).cd≠0:=by
 unfold IS.fault
 split
 ·show c≠0;omega
 ·rename_i h;exact h
theorem IS.Good.big {s:IS} (h:s.Good) (t:TyT) {a:Int} (ha:I64 a):(s.big t a).Good:=by
 unfold IS.big
 split
 ·exact h.fault (by omega) ha
 ·exact h
theorem IS.big_nx (s:IS) (t:TyT) (a:Int):(s.big t a).nx=s.nx:=by unfold IS.big;split;exact s.fault_nx _ _;rfl
theorem IS.big_ok {s:IS} {t:TyT} {a:Int} (h:(s.big t a).cd=0):s.big t a=s/\s.cd=0/\szY (subY s.sub t)<=200:=by
 unfold IS.big at *
 split at h
 ·exact absurd h (IS.fault_cd (by omega))
 ·rename_i hn;rw[if_neg hn];exact⟨rfl,h,by omega⟩
theorem IS.big2_ok {s:IS} {x y:TyT} {a:Int} (h:((s.big x a).big y a).cd=0):(s.big x a).big y a=s/\s.cd=0/\szY (subY s.sub x)<=200/\szY (subY s.sub y)<=200:=by
 obtain⟨h1,h2,h3⟩:=IS.big_ok h
 obtain⟨h4,h5,h6⟩:=IS.big_ok h2
 rw[h4]at h1 h3
 rw[h4]
 exact⟨h1,h5,h6,h3⟩
theorem unify_code:∀ (f:Nat) (x y:TyT) (σ:Sbs) (c:Int) (τ:Sbs),unifyF f x y σ=some (c,τ)->0<=c/\c<=4
 |0,x,y,σ,c,τ,h=>by simp[unifyF]at h
 |f+1,x,y,σ,c,τ,h=>by
  have hb:∀n u,some (bindY σ n u)=some (c,τ)->0<=c/\c<=4:=fun n u h=>by
   have h:=Option.some.inj h
   unfold bindY at h
   split at h
   ·have:=(Prod.mk.inj h).1;omega
   ·split at h
    ·have:=(Prod.mk.inj h).1;omega
    ·have:=(Prod.mk.inj h).1;omega
  have h2:some ((2:Int),([] : Sbs))=some (c,τ)->0<=c/\c<=4:=fun h=>by have:=(Prod.mk.inj (Option.some.inj h)).1;omega
  have h0:some ((0:Int),σ)=some (c,τ)->0<=c/\c<=4:=fun h=>by have:=(Prod.mk.inj (Option.some.inj h)).1;omega
  unfold unifyF at h
  generalize subY σ x=X at h
  generalize subY σ y=Y at h
  cases X<;>cases Y<;>dsimp only at h
  case v.v a b=>split at h;exact h0 h;split at h<;>exact hb _ _ h
  case c0.c0=>split at h;exact h0 h;exact h2 h
  case c1.c1=>
   split at h
   ·exact unify_code f _ _ _ _ _ h
   ·exact h2 h
  case c2.c2 s a b s' a' b'=>
   split at h
   ·cases h1:unifyF f a a' σ with
    |none=>rw[h1]at h;cases h
    |some q=>
     obtain⟨c1,τ1⟩:=q
     have i1:=unify_code f _ _ _ _ _ h1
     rw[h1]at h
     dsimp only at h
     split at h
     ·exact unify_code f _ _ _ _ _ h
     ·have:=(Prod.mk.inj (Option.some.inj h)).1;omega
   ·exact h2 h
  all_goals first|exact hb _ _ h|exact h2 h
theorem IS.Good.demand {s:IS} (h:s.Good) {x y:TyT} (hx:s.cd=0->TyIn s x) (hy:s.cd=0->TyIn s y) {a:Int} (ha:I64 a):(s.demand x y a).Good/\(s.demand x y a).nx=s.nx:=by
 unfold IS.demand
 split
 ·rename_i h0
  obtain⟨-,h1,h2,h3⟩:=IS.big2_ok h0
  obtain⟨g1,g2⟩:=h.sub h1
  obtain⟨f,hf⟩:=unifyY_is (by omega) g1 (hx h1).1 (hy h1).1
  obtain⟨c,τ,hr⟩ : ∃c τ,unifyY x y s.sub=(c,τ):=⟨_,_,rfl⟩
  rw[hr]at hf ⊢
  dsimp only
  have hc:=unify_code _ _ _ _ _ _ hf
  split
  ·rename_i h4
   exact⟨⟨fun _=>⟨(unifyF_good (by omega) g1 (hx h1).1 (hy h1).1 hf h4).1,unifyF_names _ _ _ _ _ _ g2 (hx h1).2 (hy h1).2 hf⟩,by dsimp only;omega,h.at_⟩,rfl⟩
  ·exact⟨h.fault (by omega) ha,IS.fault_nx _ _ _⟩
 ·exact⟨(h.big x ha).big y ha,by rw[IS.big_nx,IS.big_nx]⟩
theorem IS.Good.new {s:IS} (h:s.Good):s.new.Good:=⟨fun h0=>⟨(h.sub h0).1.up (by show(s.nx:Int)<=((s.nx+1:Nat):Int);omega),(h.sub h0).2⟩,h.cd,h.at_⟩
theorem TyIn.v (s:IS):TyIn s.new (.v s.nx):=⟨fun n hn=>by simp only[occY,beq_iff_eq]at hn;subst hn;exact⟨by omega,by show(s.nx:Int)<((s.nx+1:Nat):Int);omega⟩,trivial⟩
/-! ### In memory -/
structure SB (b:Nat) (P0 P1:Value) (w:World) (s:IS) (lv:Value):Prop where
 row:RowAt w b 0 [P0,P1,lv,.int .i64 (s.nx:Int),.int .i64 s.cd,.int .i64 s.at_]
 wr:Wr w b 0 6
 form:∃a n c,lv=.slice a n c
 sl:s.cd=0->Sl SubR 2 (b+1) w lv s.sub
theorem SB.lt {b:Nat} {P0 P1 lv:Value} {w:World} {s:IS} (h:SB b P0 P1 w s lv):b<w.heap.size:=World.block_lt_of_cell? _ _ (h.row 0 _ rfl)
theorem SB.below {b:Nat} {P0 P1 lv:Value} {w w' : World} {s:IS} (h:SB b P0 P1 w s lv) (hb:Below w.heap.size w w'):SB b P0 P1 w' s lv:=
 ⟨h.row.below hb,h.wr.below hb,h.form,fun h0=>(h.sl h0).below SubR.good hb⟩
theorem SB.fr {b:Nat} {P0 P1 lv:Value} {w w' : World} {s s' : IS} (h:SB b P0 P1 w s lv) (hf:IFr b w w') (hr:RowAt w' b 0 [P0,P1,lv,.int .i64 (s'.nx:Int),.int .i64 s'.cd,.int .i64 s'.at_]) (hw:Wr w' b 0 6) (hs:s'.sub=s.sub) (hc:s'.cd=0->s.cd=0):SB b P0 P1 w' s' lv:=
 ⟨hr,hw,h.form,fun h0=>by rw[hs];exact hf.sl SubR.good (h.sl (hc h0))⟩
def TV (b m:Nat) (cd:Int) (w:World) (v:Value) (t:TyT):Prop:=∃l,Sl GTyItem.R 3 (b+1) w v l/\l.length<=m/\(cd=0->l=flatY t)
theorem TV.form {b m:Nat} {cd:Int} {w:World} {v:Value} {t:TyT} (h:TV b m cd w v t):∃a n c,v=.slice a n c:=let ⟨l,h1,_⟩:=h;let ⟨a,c,h⟩:=h1.form;⟨a,_,c,h⟩
theorem TV.fr {b m:Nat} {cd:Int} {w w' : World} {v:Value} {t:TyT} (h:TV b m cd w v t) (hf:IFr b w w'):TV b m cd w' v t:=let ⟨l,h1,h2,h3⟩:=h;⟨l,hf.sl GTyItem.good h1,h2,h3⟩
theorem TV.below {b m:Nat} {cd:Int} {w w' : World} {v:Value} {t:TyT} (h:TV b m cd w v t) (hf:Below w.heap.size w w'):TV b m cd w' v t:=let ⟨l,h1,h2,h3⟩:=h;⟨l,h1.below GTyItem.good hf,h2,h3⟩
theorem TV.cd {b m m' : Nat} {cd cd' : Int} {w:World} {v:Value} {t:TyT} (h:TV b m cd w v t) (hc:cd' = 0->cd=0) (hm:m<=m'):TV b m' cd' w v t:=let ⟨l,h1,h2,h3⟩:=h;⟨l,h1,by omega,fun h=>h3 (hc h)⟩
theorem TV.good {b m:Nat} {w:World} {v:Value} {t:TyT} {cd:Int} (h:TV b m cd w v t) (hc:cd=0):Sl GTyItem.R 3 (b+1) w v (flatY t):=by
 obtain⟨l,h1,h2,h3⟩:=h
 rw[<- h3 hc];exact h1
theorem TV.of {b m:Nat} {cd:Int} {w:World} {v:Value} {t:TyT} (h:Sl GTyItem.R 3 (b+1) w v (flatY t)) (hm:szY t<=m):TV b m cd w v t:=⟨_,h,by rw[flatY_len];exact hm,fun _=>rfl⟩
theorem TV.none {b m:Nat} {cd:Int} {w:World} {t:TyT} (h:cd≠0):TV b m cd w (.slice none 0 0) t:=⟨[],Sl.nil,by simp,fun e=>absurd e h⟩
end Go.Proofs.YtkikkfjmggobpaaGreat
namespace Go.Proofs.YtkikkfjmggobpaaGreat
open Go.RowKit
set_option maxRecDepth 100000
set_option maxHeartbeats 16000000
set_option linter.unusedVariables false
set_option linter.unusedSimpArgs false
attribute [local go_sem] Ext.cell
def primB:List ByteArray:=[⟨#[43]⟩,⟨#[45]⟩,⟨#[42]⟩,⟨#[47]⟩,⟨#[37]⟩,⟨#[94]⟩,⟨#[61]⟩,⟨#[60,62]⟩,⟨#[60]⟩,⟨#[60,61]⟩]
def primOk (s:ByteArray):Bool:=primB.any fun y=>s.toList == y.toList
theorem prim_row (w:World) (T:TypeId):RowAt (w.alloc (.cells (primB.map Value.string).toArray T)) w.heap.size 0 (primB.map Value.string):=by
 have:=RowAt.box w (primB.map Value.string).toArray T
 simpa using this
theorem prim_ok:∀y∈primB,StrOk y:=by
 intro y hy
 have:y.size<=5:=by
  revert y
  decide
 unfold StrOk;omega
theorem primOps_c (w:World):Calls Tryz.prog 170 #[] w fun e w'=>∃g,e=.returned (.slice (some ⟨g,0,none⟩) 10 10)/\Sl StrR 1 0 w' (.slice (some ⟨g,0,none⟩) 10 10) primB/\Below w.heap.size w w':=by
 go_enter Tryz.func170,Tryz.ntmps170
 go_wp2_with fail
 go_returns
 refine⟨w.heap.size,rfl,?_,by go_grown⟩
 exact(row_strs (prim_row w 9) prim_ok 10 (by decide) (by omega)).mono StrR.good (Nat.zero_le _)
theorem l04Prim_c (s:ByteArray) (w:World):Calls Tryz.prog 132 #[.string s] w fun e w'=>e=.returned (.bool (primOk s))/\Below w.heap.size w w':=by
 have H:=row_strs (prim_row w 9) prim_ok 10 (by decide) (by omega)
 obtain⟨W0,hW0⟩ : ∃W0,W0=w.alloc (.cells (primB.map Value.string).toArray 9):=⟨_,rfl⟩
 have hw0:Below w.heap.size w W0:=by rw[hW0];go_grown
 rw[<- hW0]at H
 obtain⟨a,c,hv,-,-,h0⟩:=H
 injection hv with e1 e2 e3
 subst e1
 replace h0:=kH h0
 clear e2 e3
 go_enter Tryz.func132,Tryz.ntmps132
 go_upto_region 2 with fail
 rw[show w.alloc (.cells #[.string ⟨#[43]⟩,.string ⟨#[45]⟩,.string ⟨#[42]⟩,.string ⟨#[47]⟩,.string ⟨#[37]⟩,.string ⟨#[94]⟩,.string ⟨#[61]⟩,.string ⟨#[60,62]⟩,.string ⟨#[60]⟩,.string ⟨#[60,61]⟩] 9)=W0 from hW0.symm]
 clear hW0
 go_loopw [7] (fun i wr=>∃k:Nat,k<=10/\i=.int .i64 k/\Below w.heap.size w wr/\Below W0.heap.size W0 wr/\Hid (∀y∈primB.take k,(s.toList == y.toList)=false)) (fun i _=>10-(intOf i).toNat)
 case atStart=>exact⟨0,by omega,rfl,hw0,Below.refl _ _,fun y hy=>by simp at hy⟩
 case round=>
  obtain⟨k,hk,rfl,hw,hw1,hF⟩:=hrel
  have hlen:primB.length=10:=rfl
  by_cases hlt:k<10
  ·obtain⟨b1,o1,x,r,_,hab,P1,⟨rfl,-⟩,r1⟩:=(h0.out.below StrR.good hw1).get (n:=10) (kH rfl) hlt
   obtain⟨rfl,rfl⟩ : w.heap.size=b1/\0=o1:=by injection hab with h;injection h with h1 h2;exact⟨h1,h2⟩
   have e0:wr.cell? ⟨w.heap.size,k,none⟩=some (.string x):=by simpa using r1 0 _ rfl
   clear r1 hab hlen
   cases hq:(s.toList == x.toList) with
   |true=>
    have hfin:primOk s=true:=List.any_eq_true.2 ⟨x,List.mem_of_getElem? P1.out,by simpa using hq⟩
    replace hfin:=kH hfin
    go_wp2_with fail
    go_returns
    exact⟨by rw[hfin.out];rfl,hw⟩
   |false=>
    have hq':=kH hq
    go_wp2_with fail
    go_roundw
    case rel=>exact⟨k+1,by omega,by go_num,hw,hw1,by
     show ∀y∈primB.take (k+1),(s.toList == y.toList)=false
     rw[take_snoc' P1.out]
     intro y hy
     rcases List.mem_append.1 hy with h|h
     ·exact hF.out y h
     ·simp at h;subst h;exact hq'.out⟩
    case measure=>simp[intOf];omega
  ·obtain rfl:k=10:=by omega
   have hfin:primOk s=false:=List.any_eq_false.2 fun y hy=>by rw[hF.out y (by rw[List.take_of_length_le (by rw[hlen];omega)];exact hy)];simp
   replace hfin:=kH hfin
   clear hlen
   go_wp2_with fail
   go_returns
   exact⟨by rw[hfin.out];rfl,hw⟩
end Go.Proofs.YtkikkfjmggobpaaGreat
namespace Go.Proofs.YtkikkfjmggobpaaGreat
open Go.RowKit
set_option linter.unusedVariables false
set_option linter.unusedSimpArgs false
def toD (x:GPNode):GDNode:=⟨x.kind,x.n,x.s,x.kids⟩
def patD (q:GPat):GData:=⟨q.nodes.map toD⟩
theorem Sl.map' {α β:Type} {R:Reading α} {R' : Reading β} (f:α->β) (hf:∀lo w r x,R lo w r x->R' lo w r (f x)) {sz lo:Nat} {w:World} {v:Value} {xs:List α} (h:Sl R sz lo w v xs):Sl R' sz lo w v (xs.map f):=by
 obtain⟨a,c,rfl,h1,h2,h3⟩:=h
 refine⟨a,c,by rw[List.length_map],by rw[List.length_map];exact h1,h2,fun h0=>?_⟩
 obtain⟨b,off,h4,h5,h6⟩:=h3 (by rwa [List.length_map]at h0)
 refine⟨b,off,h4,h5,fun i y hy=>?_⟩
 rw[List.getElem?_map]at hy
 obtain⟨x,hx,rfl⟩:=Option.map_eq_some_iff.1 hy
 obtain⟨r,h7,h8⟩:=h6 i x hx
 exact⟨r,hf _ _ _ _ h7,h8⟩
theorem GPat.toData {lo:Nat} {w:World} {r:List Value} {q:GPat} (h:GPat.R lo w r q):GData.R lo w r (patD q):=by
 obtain⟨u0,hr,_,h0⟩:=h
 exact⟨u0,hr,trivial,h0.map' toD fun lo w r x hx=>hx⟩
end Go.Proofs.YtkikkfjmggobpaaGreat
namespace Go.Proofs.YtkikkfjmggobpaaGreat
open Go.RowKit
set_option maxRecDepth 100000
set_option maxHeartbeats 16000000
set_option linter.unusedVariables false
set_option linter.unusedSimpArgs false
attribute [local go_sem] Ext.cell
def asD (x:GNode):GDNode:=⟨x.kind,x.n,x.s,x.kids⟩
def nkind (N:List GNode) (k:Int):Int:=if 0<=k then (N[k.toNat]?.map (·.kind)).getD 0 else 0
def firstK (N:List GNode) (ks:List Int):Int:=match ks with
 |k :: _=>nkind N k
 |[]=>0
def arP (k:Int):Int:=if k=1\/k=2\/k=3\/k=12 then 0 else if k=5\/k=14\/k=16\/k=17 then 1 else if k=6\/k=7\/k=8\/k=10\/k=11\/k=15\/k=18\/k=19 then 2 else if k=9 then 3 else -1
def nodBad (x:GNode):Bool:=(decide (x.at_<0)||(decide (0<=arP x.kind)&&((x.kids.length:Int) != arP x.kind)))||((x.kind != 13&&decide (0<(x.pats.length:Int)))||((x.kind != 1&&x.kind != 3)&&(x.n != 0)))
def nameN (x:GNode):Bool:=nameOk x.s&&x.n == 0
def nodBody (N:List GNode) (x:GNode):Bool:=
 if x.kind=1 then decide (0<=x.n/\x.n<=4611686018427387903)&&x.s.toList.isEmpty
 else if x.kind=2 then true
 else if x.kind=3\/x.kind=5\/x.kind=7\/x.kind=15 then nameN x
 else if x.kind=8 then nameN x&&firstK N x.kids == 5
 else if x.kind=10 then primOk x.s
 else if x.kind=4 then conShape x.s x.kids.length ((x.kids.length:Int) == 1&&firstK N x.kids == 11)
 else if x.kind=6\/x.kind=9\/x.kind=11\/x.kind=12\/x.kind=14\/x.kind=16\/x.kind=17\/x.kind=18\/x.kind=19 then x.s.toList.isEmpty
 else if x.kind=13 then x.s.toList.isEmpty&&(decide (1<=(x.pats.length:Int))&&(x.kids.length:Int) == (x.pats.length:Int)+1)
 else false
def nodOk (N:List GNode) (x:GNode):Bool:=!nodBad x&&nodBody N x
theorem kind19 (k:Int):k=1\/k=2\/k=3\/k=4\/k=5\/k=6\/k=7\/k=8\/k=9\/k=10\/k=11\/k=12\/k=13\/k=14\/k=15\/k=16\/k=17\/k=18\/k=19\/(k<1\/19<k):=by omega
theorem kindOut {k:Int} (h:k<1\/19<k):∀j:Int,1<=j->j<=19->(k == j)=false:=fun j h1 h2=>by rw[beq_eq_false_iff_ne];omega
theorem arP_out {k:Int} (h:k<1\/19<k):arP k = -1:=by
 unfold arP
 rw[if_neg (by omega),if_neg (by omega),if_neg (by omega),if_neg (by omega)]
theorem arity_c (k:Int) (w:World):Calls Tryz.prog 169 #[.int .i64 k] w fun e w'=>e=.returned (.int .i64 (arP k))/\w=w':=by
 rcases kind19 k with rfl|rfl|rfl|rfl|rfl|rfl|rfl|rfl|rfl|rfl|rfl|rfl|rfl|rfl|rfl|rfl|rfl|rfl|rfl|h
 case inr.inr.inr.inr.inr.inr.inr.inr.inr.inr.inr.inr.inr.inr.inr.inr.inr.inr.inr=>
  rw[arP_out h]
  have hj:=kindOut h
  have n1:=hj 1 (by omega) (by omega);have n2:=hj 2 (by omega) (by omega);have n3:=hj 3 (by omega) (by omega);have n4:=hj 4 (by omega) (by omega);have n5:=hj 5 (by omega) (by omega);have n6:=hj 6 (by omega) (by omega);have n7:=hj 7 (by omega) (by omega);have n8:=hj 8 (by omega) (by omega);have n9:=hj 9 (by omega) (by omega);have n10:=hj 10 (by omega) (by omega);have n11:=hj 11 (by omega) (by omega);have n12:=hj 12 (by omega) (by omega);have n13:=hj 13 (by omega) (by omega);have n14:=hj 14 (by omega) (by omega);have n15:=hj 15 (by omega) (by omega);have n16:=hj 16 (by omega) (by omega);have n17:=hj 17 (by omega) (by omega);have n18:=hj 18 (by omega) (by omega);have n19:=hj 19 (by omega) (by omega)
  clear hj h
  go_enter Tryz.func169,Tryz.ntmps169
  go_wp2_with fail
  go_returns
  exact⟨rfl,rfl⟩
 all_goals
  go_enter Tryz.func169,Tryz.ntmps169
  go_wp2_with fail
  go_returns
  exact⟨rfl,rfl⟩
theorem l04Kids_c (k:Int) (w:World):Calls Tryz.prog 134 #[.int .i64 k] w fun e w'=>e=.returned (.int .i64 (arP k))/\w=w':=by
 rcases kind19 k with rfl|rfl|rfl|rfl|rfl|rfl|rfl|rfl|rfl|rfl|rfl|rfl|rfl|rfl|rfl|rfl|rfl|rfl|rfl|h
 case inr.inr.inr.inr.inr.inr.inr.inr.inr.inr.inr.inr.inr.inr.inr.inr.inr.inr.inr=>
  rw[arP_out h]
  have hj:=kindOut h
  have n1:=hj 1 (by omega) (by omega);have n2:=hj 2 (by omega) (by omega);have n3:=hj 3 (by omega) (by omega);have n4:=hj 4 (by omega) (by omega);have n5:=hj 5 (by omega) (by omega);have n6:=hj 6 (by omega) (by omega);have n7:=hj 7 (by omega) (by omega);have n8:=hj 8 (by omega) (by omega);have n9:=hj 9 (by omega) (by omega);have n10:=hj 10 (by omega) (by omega);have n11:=hj 11 (by omega) (by omega);have n12:=hj 12 (by omega) (by omega);have n13:=hj 13 (by omega) (by omega);have n14:=hj 14 (by omega) (by omega);have n15:=hj 15 (by omega) (by omega);have n16:=hj 16 (by omega) (by omega);have n17:=hj 17 (by omega) (by omega);have n18:=hj 18 (by omega) (by omega);have n19:=hj 19 (by omega) (by omega)
  clear hj h
  go_enter Tryz.func134,Tryz.ntmps134
  go_wp2_with fail
  go_returns
  exact⟨rfl,rfl⟩
 all_goals
  go_enter Tryz.func134,Tryz.ntmps134
  go_wp2_with fail
  go_returns
  exact⟨rfl,rfl⟩
theorem nameN_c (kd at_ nn:Int) (s:ByteArray) (u0 u1:Value) (hs:StrOk s) (w:World):Calls Tryz.prog 102 #[.agg #[.int .i64 kd,.int .i64 at_,.int .i64 nn,.string s,u0,u1]] w fun e w'=>e=.returned (.bool (nameOk s&&nn == 0))/\Below w.heap.size w w':=by
 have cN:=fun W=>impl_NameOk_c s hs W
 generalize nameOk s=q at *
 cases q<;>cases e1:(nn == 0)
 all_goals
  go_enter Tryz.func102,Tryz.ntmps102
  go_upto_region 1 with fail
  have D:RowAt (w.alloc (.cells #[.int .i64 kd,.int .i64 at_,.int .i64 nn,.string s,u0,u1] 123)) (w.heap.size) 0 [.int .i64 kd,.int .i64 at_,.int .i64 nn,.string s,u0,u1]:=RowAt.box w #[.int .i64 kd,.int .i64 at_,.int .i64 nn,.string s,u0,u1] 123
  have hw:Below w.heap.size w (w.alloc (.cells #[.int .i64 kd,.int .i64 at_,.int .i64 nn,.string s,u0,u1] 123)):=by go_grown
  generalize (w.alloc (.cells #[.int .i64 kd,.int .i64 at_,.int .i64 nn,.string s,u0,u1] 123))=w0 at *
  obtain⟨d_0,d_1,d_2,d_3,d_4,d_5⟩:=D.box6;have hsD:=bLt d_0
  go_wp2_with (go_at_call 103;((with_reducible refine(cN _).mono ?_);rintro e w1 ⟨rfl,hb⟩;have hw:=hw.trans (hb.mono hw.size);have D:=D.below hb;obtain⟨d_0,d_1,d_2,d_3,d_4,d_5⟩:=D.box6;have hsD:=bLt d_0;clear hb))
  go_returns
  exact⟨rfl,hw⟩
theorem nodeOkN_c (x:GNode) (hx:x.wf) (N:List GNode) (hN:N.length<=1152921504606846976) (tv:Value) (na:Option Addr) (nc:Nat) (u0 u1:Value) (lo1 lo2:Nat) (w:World)
  (h0:Sl GNode.R 6 lo1 w (.slice na N.length nc) N) (hk:Sl IntR 1 lo2 w u0 x.kids) (hp:∃pa pc,u1=.slice pa x.pats.length pc) (hpl:x.pats.length<=1152921504606846976) (hin:∀k∈x.kids,0<=k/\k<(N.length:Int)) :
  Calls Tryz.prog 142 #[.agg #[tv,.slice na N.length nc],.agg #[.int .i64 x.kind,.int .i64 x.at_,.int .i64 x.n,.string x.s,u0,u1],.func (.func 102) #[] #[]] w fun e w'=>e=.returned (.bool (nodOk N x))/\Below w.heap.size w w':=by
 obtain⟨kd,at_,nn,s,ks,ps⟩:=x
 obtain⟨pa,pc,rfl⟩:=hp
 obtain⟨ka,kc,rfl,kl,km,k0⟩:=hk
 obtain⟨hxk,hxa,hxn,hss⟩:=hx
 dsimp only at *
 have hres:nodOk N ⟨kd,at_,nn,s,ks,ps⟩=(!nodBad ⟨kd,at_,nn,s,ks,ps⟩ && nodBody N ⟨kd,at_,nn,s,ks,ps⟩):=rfl
 have hB0:nodBad ⟨kd,at_,nn,s,ks,ps⟩=((decide (at_<0)||(decide (0<=arP kd)&&((ks.length:Int) != arP kd)))||((kd != 13&&decide (0<(ps.length:Int)))||((kd != 1&&kd != 3)&&(nn != 0)))):=rfl
 generalize nodOk N ⟨kd,at_,nn,s,ks,ps⟩=res at *
 generalize nodBad ⟨kd,at_,nn,s,ks,ps⟩=bad at *
 have hfk:0<ks.length->∃ (j:Nat) (b o b2 o2:Nat) (y:Int),ka=some ⟨b,o,none⟩/\na=some ⟨b2,o2,none⟩/\w.cell? ⟨b,o,none⟩=some (.int .i64 (j:Int))/\j<N.length/\w.cell? ⟨b2,o2+j*6,none⟩=some (.int .i64 y)/\firstK N ks=y:=fun h=>by
  obtain⟨b1,o1,z,r,_,rfl,P1,⟨rfl,_⟩,r1⟩:=k0.get (kH rfl) h
  obtain⟨hz0,hz1⟩:=hin z (List.mem_of_getElem? P1.out)
  obtain⟨j,rfl⟩ : ∃j:Nat,z=j:=⟨z.toNat,by omega⟩
  obtain⟨na',nc',he,_,_,n0⟩:=h0
  obtain⟨rfl,rfl⟩ : na' = na/\nc' = nc:=by injection he with a b c;exact⟨a.symm,c.symm⟩
  obtain⟨b2,o2,y,r',_,rfl,P2,⟨v0,v1,rfl,_⟩,r2⟩:=n0.get (kH rfl) (show j<N.length by omega)
  refine⟨j,b1,o1,b2,o2,y.kind,rfl,rfl,by simpa using r1 0 _ rfl,by omega,by simpa using r2 0 _ rfl,?_⟩
  have hks:ks=(j:Int) :: ks.drop 1:=by
   have:=P1.out
   cases ks with
   |nil=>simp at h
   |cons a l=>simp at this;subst this;rfl
  rw[hks]
  show nkind N j=_
  unfold nkind
  rw[if_pos (by omega),Int.toNat_natCast,P2.out];rfl
 clear hin h0 k0
 obtain⟨m,hm⟩ : ∃m,m=ks.length:=⟨_,rfl⟩
 obtain⟨n,hn⟩ : ∃n,n=N.length:=⟨_,rfl⟩
 obtain⟨pm,hpm⟩ : ∃pm,pm=ps.length:=⟨_,rfl⟩
 have hBody:nodBody N ⟨kd,at_,nn,s,ks,ps⟩ =
  if kd=1 then decide (0<=nn/\nn<=4611686018427387903)&&s.toList.isEmpty
  else if kd=2 then true
  else if kd=3\/kd=5\/kd=7\/kd=15 then (nameOk s&&nn == 0)
  else if kd=8 then (nameOk s&&nn == 0)&&firstK N ks == 5
  else if kd=10 then primOk s
  else if kd=4 then conShape s ks.length ((ks.length:Int) == 1&&firstK N ks == 11)
  else if kd=6\/kd=9\/kd=11\/kd=12\/kd=14\/kd=16\/kd=17\/kd=18\/kd=19 then s.toList.isEmpty
  else if kd=13 then s.toList.isEmpty&&(decide (1<=(ps.length:Int))&&(ks.length:Int) == (ps.length:Int)+1)
  else false:=rfl
 generalize nodBody N ⟨kd,at_,nn,s,ks,ps⟩=body at *
 rw[<- hm,<- hpm]at hBody
 rw[<- hm,<- hpm]at hB0
 rw[<- hm,<- hn]at hfk
 rw[<- hm]at kl
 rw[<- hm,<- hn,<- hpm]
 rw[<- hn]at hN
 rw[<- hpm]at hpl
 have cA:=fun W=>arity_c kd W
 have cN:=fun W=>nameN_c kd at_ nn s (.slice ka m kc) (.slice pa pm pc) hss W
 have cS:=fun p W=>conShape_c s m p hss W
 generalize firstK N ks=fk at *
 obtain⟨ar,har⟩ : ∃ar,arP kd=ar:=⟨_,rfl⟩
 have har5:kd=8->0<=ar/\ar=2:=fun h=>by subst h;rw[<- har];exact⟨by decide,rfl⟩
 rw[har]at hB0 cA
 clear hm hn hpm
 replace hB0:=kH hB0;replace hBody:=kH hBody;replace hres:=kH hres;replace hfk:=kH hfk;replace har:=kH har;replace har5:=kH har5
 go_enter Tryz.func142,Tryz.ntmps142
 go_upto_region 1 with fail
 have D:RowAt (w.alloc (.cells #[tv,.slice na n nc] 39)) (w.heap.size) 0 [tv,.slice na n nc]:=RowAt.box w #[tv,.slice na n nc] 39
 have D:=D.below (show Below (w.alloc (.cells #[tv,.slice na n nc] 39)).heap.size (w.alloc (.cells #[tv,.slice na n nc] 39)) ((w.alloc (.cells #[tv,.slice na n nc] 39)).alloc (.cells #[.int .i64 kd,.int .i64 at_,.int .i64 nn,.string s,.slice ka m kc,.slice pa pm pc] 123)) by go_grown)
 have E:RowAt ((w.alloc (.cells #[tv,.slice na n nc] 39)).alloc (.cells #[.int .i64 kd,.int .i64 at_,.int .i64 nn,.string s,.slice ka m kc,.slice pa pm pc] 123)) (w.heap.size+1) 0 [.int .i64 kd,.int .i64 at_,.int .i64 nn,.string s,.slice ka m kc,.slice pa pm pc]:=by have h:=RowAt.box (w.alloc (.cells #[tv,.slice na n nc] 39)) #[.int .i64 kd,.int .i64 at_,.int .i64 nn,.string s,.slice ka m kc,.slice pa pm pc] 123;simp only[World.size_alloc]at h;exact h
 have hw:Below w.heap.size w ((w.alloc (.cells #[tv,.slice na n nc] 39)).alloc (.cells #[.int .i64 kd,.int .i64 at_,.int .i64 nn,.string s,.slice ka m kc,.slice pa pm pc] 123)):=by go_grown
 generalize ((w.alloc (.cells #[tv,.slice na n nc] 39)).alloc (.cells #[.int .i64 kd,.int .i64 at_,.int .i64 nn,.string s,.slice ka m kc,.slice pa pm pc] 123))=w0 at *
 have hw1:Below w.heap.size w w0:=hw
 obtain⟨d_0,d_1⟩:=D.box2;have hsD:=bLt d_0;obtain⟨e_0,e_1,e_2,e_3,e_4,e_5⟩:=E.box6;have hsE:=bLt e_0
 go_upto_region 3 with(go_at_call 169;((with_reducible refine(cA _).mono ?_);rintro e w1 ⟨rfl,rfl⟩))
 go_cut [52] (fun sx wx=>sx=.bool bad/\wx=w0)
 case first=>
  cases a1:decide (at_<0)
  ·cases a2:decide (0<=ar)
   ·cases a4:(kd != 13)
    ·cases a6:(kd != 1)
     ·(go_wp2_with fail;go_meet;refine⟨?_,rfl⟩;rw[hB0.out];simp[*];done)
     ·cases a7:(kd != 3)
      ·(go_wp2_with fail;go_meet;refine⟨?_,rfl⟩;rw[hB0.out];simp[*];done)
      ·cases a8:(nn != 0)
       ·(go_wp2_with fail;go_meet;refine⟨?_,rfl⟩;rw[hB0.out];simp[*];done)
       ·(go_wp2_with fail;go_meet;refine⟨?_,rfl⟩;rw[hB0.out];simp[*];done)
    ·cases a5:decide (0<(pm:Int))
     ·have a5' : decide (0<pm)=false:=by rw[<- a5,decide_eq_decide];omega
      cases a6:(kd != 1)
      ·(go_wp2_with fail;go_meet;refine⟨?_,rfl⟩;rw[hB0.out];simp[*];done)
      ·cases a7:(kd != 3)
       ·(go_wp2_with fail;go_meet;refine⟨?_,rfl⟩;rw[hB0.out];simp[*];done)
       ·cases a8:(nn != 0)
        ·(go_wp2_with fail;go_meet;refine⟨?_,rfl⟩;rw[hB0.out];simp[*];done)
        ·(go_wp2_with fail;go_meet;refine⟨?_,rfl⟩;rw[hB0.out];simp[*];done)
     ·have a5' : decide (0<pm)=true:=by rw[<- a5,decide_eq_decide];omega
      (go_wp2_with fail;go_meet;refine⟨?_,rfl⟩;rw[hB0.out];simp[*];done)
   ·cases a3:((m:Int) != ar)
    ·cases a4:(kd != 13)
     ·cases a6:(kd != 1)
      ·(go_wp2_with fail;go_meet;refine⟨?_,rfl⟩;rw[hB0.out];simp[*];done)
      ·cases a7:(kd != 3)
       ·(go_wp2_with fail;go_meet;refine⟨?_,rfl⟩;rw[hB0.out];simp[*];done)
       ·cases a8:(nn != 0)
        ·(go_wp2_with fail;go_meet;refine⟨?_,rfl⟩;rw[hB0.out];simp[*];done)
        ·(go_wp2_with fail;go_meet;refine⟨?_,rfl⟩;rw[hB0.out];simp[*];done)
     ·cases a5:decide (0<(pm:Int))
      ·have a5' : decide (0<pm)=false:=by rw[<- a5,decide_eq_decide];omega
       cases a6:(kd != 1)
       ·(go_wp2_with fail;go_meet;refine⟨?_,rfl⟩;rw[hB0.out];simp[*];done)
       ·cases a7:(kd != 3)
        ·(go_wp2_with fail;go_meet;refine⟨?_,rfl⟩;rw[hB0.out];simp[*];done)
        ·cases a8:(nn != 0)
         ·(go_wp2_with fail;go_meet;refine⟨?_,rfl⟩;rw[hB0.out];simp[*];done)
         ·(go_wp2_with fail;go_meet;refine⟨?_,rfl⟩;rw[hB0.out];simp[*];done)
      ·have a5' : decide (0<pm)=true:=by rw[<- a5,decide_eq_decide];omega
       (go_wp2_with fail;go_meet;refine⟨?_,rfl⟩;rw[hB0.out];simp[*];done)
    ·(go_wp2_with fail;go_meet;refine⟨?_,rfl⟩;rw[hB0.out];simp[*];done)
  ·(go_wp2_with fail;go_meet;refine⟨?_,rfl⟩;rw[hB0.out];simp[*];done)
 obtain⟨rfl,rfl⟩:=hcut
 have hres:=hres.out
 cases bad
 rotate_left
 ·replace hres:res=false:=hres
  subst hres
  go_wp2_with fail
  go_returns
  exact⟨rfl,hw⟩
 replace hres:res=body:=hres
 replace hres:=kH hres
 rcases kind19 kd with rfl|rfl|rfl|rfl|rfl|rfl|rfl|rfl|rfl|rfl|rfl|rfl|rfl|rfl|rfl|rfl|rfl|rfl|rfl|hk
 ·replace hBody:body=(decide (0<=nn/\nn<=4611686018427387903)&&s.toList.isEmpty):=hBody.out
  have cW:=fun W=>within_c nn 0 4611686018427387903 W
  generalize decide (0<=nn/\nn<=4611686018427387903)=q at *
  subst hBody
  cases q
  all_goals go_wp2_with (go_at_call 66;((with_reducible refine(cW _).mono ?_);rintro e w1 ⟨rfl,rfl⟩))
  all_goals go_returns
  all_goals exact⟨by rw[hres.out];rfl,hw⟩
 ·replace hBody:body=true:=hBody.out
  subst hBody
  go_wp2_with fail;go_returns;exact⟨by rw[hres.out];rfl,hw⟩
 ·replace hBody:body=(nameOk s&&nn == 0):=hBody.out
  rw[<- hBody]at cN
  clear hBody
  go_wp2_with (refine(cN _).mono ?_;rintro e w1 ⟨rfl,hb⟩;have hw:=hw.trans (hb.mono hw.size);have D:=D.below hb;obtain⟨d_0,d_1⟩:=D.box2;have hsD:=bLt d_0;have E:=E.below hb;obtain⟨e_0,e_1,e_2,e_3,e_4,e_5⟩:=E.box6;have hsE:=bLt e_0;clear hb)
  go_returns
  exact⟨by rw[hres.out];rfl,hw⟩
 ·replace hBody:body=conShape s m ((m:Int) == 1&&fk == 11):=hBody.out
  by_cases hm1:m=1
  ·subst hm1
   obtain⟨j,b,o,b2,o2,y,rfl,rfl,c1,hj,c2,rfl⟩:=hfk.out (by omega)
   replace c1:=cell_below hw c1
   replace c2:=cell_below hw c2
   have hbb:=World.block_lt_of_cell? _ _ c1;dsimp only at hbb
   have hbb2:=World.block_lt_of_cell? _ _ c2;dsimp only at hbb2
   have q1:decide ((j:Int)<(n:Int))=true:=decide_eq_true (by omega)
   have cS1:=fun W=>cS (fk == 11) W
   replace hBody:body=conShape s ((1:Nat):Int) (fk == 11):=hBody
   rw[<- hBody]at cS1
   clear hfk cS hBody
   go_upto_region 20 with fail
   generalize he5:(fk == 11)=e5 at *
   (refine wp_region_ext_lit (by kernel_rfl) (by kernel_rfl) ?_;(repeat (any_goals (first|go_big_quiet_step ((first|(go_at_call 113;exact Calls.ext_same (cS1 _))))|quiet_step ((first|(go_at_call 113;exact Calls.ext_same (cS1 _))))|(refine wpQuiet_step (fun K hK=>?_);go_simp;split<;>(refine hK _ ?_;clear hK K)))));all_goals (refine wpQuiet_nil ?_;rintro w1 ⟨⟨w2,hb⟩,rfl⟩;have hw:=hw.trans (hb.mono hw.size);have D:=D.below hb;obtain⟨d_0,d_1⟩:=D.box2;have hsD:=bLt d_0;have E:=E.below hb;obtain⟨e_0,e_1,e_2,e_3,e_4,e_5⟩:=E.box6;have hsE:=bLt e_0;clear hb))
   all_goals go_wp2_with fail
   all_goals go_returns
   all_goals exact⟨by rw[hres.out];rfl,hw⟩
  ·have e1:((m:Int) == 1)=false:=by rw[beq_eq_false_iff_ne];omega
   rw[e1]at hBody
   have cS1:=fun W=>cS false W
   replace hBody:body=conShape s m false:=hBody
   rw[<- hBody]at cS1
   clear hfk cS hBody hm1
   go_upto_region 20 with fail
   (refine wp_region_ext_lit (by kernel_rfl) (by kernel_rfl) ?_;(repeat (any_goals (first|go_big_quiet_step ((first|(go_at_call 113;exact Calls.ext_same (cS1 _))))|quiet_step ((first|(go_at_call 113;exact Calls.ext_same (cS1 _))))|(refine wpQuiet_step (fun K hK=>?_);go_simp;split<;>(refine hK _ ?_;clear hK K)))));all_goals (refine wpQuiet_nil ?_;rintro w1 ⟨⟨w2,hb⟩,rfl⟩;have hw:=hw.trans (hb.mono hw.size);have D:=D.below hb;obtain⟨d_0,d_1⟩:=D.box2;have hsD:=bLt d_0;have E:=E.below hb;obtain⟨e_0,e_1,e_2,e_3,e_4,e_5⟩:=E.box6;have hsE:=bLt e_0;clear hb))
   all_goals go_wp2_with fail
   all_goals go_returns
   all_goals exact⟨by rw[hres.out];rfl,hw⟩
 ·replace hBody:body=(nameOk s&&nn == 0):=hBody.out
  rw[<- hBody]at cN
  clear hBody
  go_wp2_with (refine(cN _).mono ?_;rintro e w1 ⟨rfl,hb⟩;have hw:=hw.trans (hb.mono hw.size);have D:=D.below hb;obtain⟨d_0,d_1⟩:=D.box2;have hsD:=bLt d_0;have E:=E.below hb;obtain⟨e_0,e_1,e_2,e_3,e_4,e_5⟩:=E.box6;have hsE:=bLt e_0;clear hb)
  go_returns
  exact⟨by rw[hres.out];rfl,hw⟩
 ·replace hBody:body=s.toList.isEmpty:=hBody.out
  subst hBody
  go_wp2_with fail;go_returns;exact⟨by rw[hres.out];rfl,hw⟩
 ·replace hBody:body=(nameOk s&&nn == 0):=hBody.out
  rw[<- hBody]at cN
  clear hBody
  go_wp2_with (refine(cN _).mono ?_;rintro e w1 ⟨rfl,hb⟩;have hw:=hw.trans (hb.mono hw.size);have D:=D.below hb;obtain⟨d_0,d_1⟩:=D.box2;have hsD:=bLt d_0;have E:=E.below hb;obtain⟨e_0,e_1,e_2,e_3,e_4,e_5⟩:=E.box6;have hsE:=bLt e_0;clear hb)
  go_returns
  exact⟨by rw[hres.out];rfl,hw⟩
 ·replace hBody:body=((nameOk s&&nn == 0)&&fk == 5):=hBody.out
  obtain⟨_,har5⟩:=har5.out rfl
  subst har5
  generalize (nameOk s&&nn == 0)=q at *
  have hm2:m=2:=by have h:=hB0.out;simp at h;omega
  subst hm2
  obtain⟨j,b,o,b2,o2,y,rfl,rfl,c1,hj,c2,rfl⟩:=hfk.out (by omega)
  replace c1:=cell_below hw c1
  replace c2:=cell_below hw c2
  have hbb:=World.block_lt_of_cell? _ _ c1;dsimp only at hbb
  have hbb2:=World.block_lt_of_cell? _ _ c2;dsimp only at hbb2
  have q1:decide ((j:Int)<(n:Int))=true:=decide_eq_true (by omega)
  subst hBody
  clear hfk
  go_upto_region 16 with fail
  cases q<;>cases e5:(fk == 5)
  all_goals (refine wp_region_ext_lit (by kernel_rfl) (by kernel_rfl) ?_;(repeat (any_goals (first|go_big_quiet_step (fail)|quiet_step (fail)|(refine wpQuiet_step (fun K hK=>?_);go_simp;refine⟨_,fun a=>(Calls.ext (cN _)),?_⟩;refine hK _ ?_;clear hK K)|(refine wpQuiet_step (fun K hK=>?_);go_simp;split<;>(refine hK _ ?_;clear hK K)))));all_goals (refine wpQuiet_nil ?_;rintro w1 ⟨⟨w2,hb⟩,rfl⟩;have hw:=hw.trans (hb.mono hw.size);have D:=D.below hb;obtain⟨d_0,d_1⟩:=D.box2;have hsD:=bLt d_0;have E:=E.below hb;obtain⟨e_0,e_1,e_2,e_3,e_4,e_5⟩:=E.box6;have hsE:=bLt e_0;clear hb))
  all_goals go_wp2_with fail
  all_goals go_returns
  all_goals exact⟨by rw[hres.out,e5];rfl,hw⟩
 ·replace hBody:body=s.toList.isEmpty:=hBody.out
  subst hBody
  go_wp2_with fail;go_returns;exact⟨by rw[hres.out];rfl,hw⟩
 ·replace hBody:body=primOk s:=hBody.out
  have cp:=fun g W h=>containsS_c primB s 0 (.slice (some ⟨g,0,none⟩) 10 10) W h
  replace cp:∀g W,_->Calls Tryz.prog 62 #[.slice (some ⟨g,0,none⟩) 10 10,.string s] W fun e w'=>e=.returned (.bool (primOk s))/\Below W.heap.size W w':=cp
  rw[<- hBody]at cp
  replace cp:=kH cp
  clear hBody
  go_upto_region 18 with fail
  go_region_law ((first|(go_simp;go_at_call 170;((with_reducible refine(primOps_c _).mono ?_);rintro e w1 ⟨g,rfl,hS,hb⟩;have hw1:=hw.trans (Below.trans (by go_grown) (hb.mono (by go_grown)):Below w.heap.size wc w1);have e_3' : w1.cell? ⟨w.heap.size+1,3,none⟩=some (.string s):=cell_below hb e_3))|(go_simp;go_at_call 62;((with_reducible refine(cp.out _ _ hS).mono ?_);rintro e w3 ⟨rfl,hb3⟩))))
  all_goals go_wp2_with fail
  all_goals go_returns
  all_goals exact⟨by rw[hres.out];rfl,hw1.trans (hb3.mono hw1.size)⟩
 ·replace hBody:body=s.toList.isEmpty:=hBody.out
  subst hBody
  go_wp2_with fail;go_returns;exact⟨by rw[hres.out];rfl,hw⟩
 ·replace hBody:body=s.toList.isEmpty:=hBody.out
  subst hBody
  go_wp2_with fail;go_returns;exact⟨by rw[hres.out];rfl,hw⟩
 ·replace hBody:body=(s.toList.isEmpty&&(decide (1<=(pm:Int))&&(m:Int) == (pm:Int)+1)):=hBody.out
  have hww:IntKind.i64.wrap ((pm:Int)+1)=(pm:Int)+1:=IntWalk.i64_in _ (by omega)
  cases e1:s.toList.isEmpty<;>cases e2:decide (1<=(pm:Int))<;>cases e3:((m:Int) == (pm:Int)+1)
  all_goals have e2' : decide (1<=pm)=decide (1<=(pm:Int)):=by rw[decide_eq_decide];omega
  all_goals rw[e2]at e2'
  all_goals rw[e1,e2,e3]at hBody
  all_goals clear har5 har hfk
  all_goals subst hBody
  all_goals go_wp2_with fail
  all_goals go_returns
  all_goals exact⟨by rw[hres.out];rfl,hw⟩
 ·replace hBody:body=s.toList.isEmpty:=hBody.out
  subst hBody
  go_wp2_with fail;go_returns;exact⟨by rw[hres.out];rfl,hw⟩
 ·replace hBody:body=(nameOk s&&nn == 0):=hBody.out
  rw[<- hBody]at cN
  clear hBody
  go_wp2_with (refine(cN _).mono ?_;rintro e w1 ⟨rfl,hb⟩;have hw:=hw.trans (hb.mono hw.size);have D:=D.below hb;obtain⟨d_0,d_1⟩:=D.box2;have hsD:=bLt d_0;have E:=E.below hb;obtain⟨e_0,e_1,e_2,e_3,e_4,e_5⟩:=E.box6;have hsE:=bLt e_0;clear hb)
  go_returns
  exact⟨by rw[hres.out];rfl,hw⟩
 ·replace hBody:body=s.toList.isEmpty:=hBody.out
  subst hBody
  go_wp2_with fail;go_returns;exact⟨by rw[hres.out];rfl,hw⟩
 ·replace hBody:body=s.toList.isEmpty:=hBody.out
  subst hBody
  go_wp2_with fail;go_returns;exact⟨by rw[hres.out];rfl,hw⟩
 ·replace hBody:body=s.toList.isEmpty:=hBody.out
  subst hBody
  go_wp2_with fail;go_returns;exact⟨by rw[hres.out];rfl,hw⟩
 ·replace hBody:body=s.toList.isEmpty:=hBody.out
  subst hBody
  go_wp2_with fail;go_returns;exact⟨by rw[hres.out];rfl,hw⟩
 ·have hj:=kindOut hk
  replace hBody:body=false:=by
   rw[hBody.out,if_neg (by omega),if_neg (by omega),if_neg (by omega),if_neg (by omega),if_neg (by omega),if_neg (by omega),if_neg (by omega),if_neg (by omega)]
  subst hBody
  have n1:=hj 1 (by omega) (by omega);have n2:=hj 2 (by omega) (by omega);have n3:=hj 3 (by omega) (by omega);have n4:=hj 4 (by omega) (by omega);have n5:=hj 5 (by omega) (by omega);have n6:=hj 6 (by omega) (by omega);have n7:=hj 7 (by omega) (by omega);have n8:=hj 8 (by omega) (by omega);have n9:=hj 9 (by omega) (by omega);have n10:=hj 10 (by omega) (by omega);have n11:=hj 11 (by omega) (by omega);have n12:=hj 12 (by omega) (by omega);have n13:=hj 13 (by omega) (by omega);have n14:=hj 14 (by omega) (by omega);have n15:=hj 15 (by omega) (by omega);have n16:=hj 16 (by omega) (by omega);have n17:=hj 17 (by omega) (by omega);have n18:=hj 18 (by omega) (by omega);have n19:=hj 19 (by omega) (by omega)
  clear hj hk
  go_wp2_with fail;go_returns;exact⟨by rw[hres.out];rfl,hw⟩
end Go.Proofs.YtkikkfjmggobpaaGreat
