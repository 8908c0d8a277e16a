/- Vectors, part five: With of both packages, Less of both packages, and what the laws use besides. Conditions: the vectors may be read, and are not too long. -/
import Derived.Test.YtbfailbgdnpaiaaGreatDoorX4
import Derived.Test.YtbfailbgdnpaiaaGreatDoorX2
import Derived.Test.YtbfailbgdnpaiaaGreatDoorX3
set_option maxRecDepth 20000
set_option maxHeartbeats 8000000
namespace Go.Proofs.YtbfailbgdnpaiaaGreatDoor
open Go.Eng Go.RowKit

abbrev MI (w:World) (base:Nat) (v:Value) (xs:List Int):Prop:=j5 w base fp 1 v xs.length (xs.map (Value.int .i64))
theorem vR (v:Value) (n:Nat):(madeCells #[v] n).toList=List.replicate n v:=by
 apply List.ext_getElem
 ·simp [madeCells]
 ·intro i h1 h2;simp [madeCells,Nat.mod_one]

def Sq (r n:Int):List Int:=(List.replicate r.toNat 0).set (r - 1).toNat n
def oM (xs:List Int) (r n:Int):List Int:=if r<1∨16<r∨n<1∨n≤atL xs r then joinL xs [] else joinL xs (Sq r n)

theorem mZ {va:Value} {xs:List Int} {r n:Int} {w:World} (ha:IL w va xs) (hx:xs.length≤1048576) :
  Calls Tryz.prog vG #[va,qn r n] w fun e w'=>∃ v,e = .returned v∧MI w' w.heap.size v (oM xs r n)∧Ext w w':=by
 refine ub Tryz.func74 Z Z <| er <| df <| fm Z (xp Z) Z ?_;have B:Blk (w.alloc (.cells (qn r n).cells t_api_Dot)) w.heap.size t_api_Dot [ii r,ii n]:=Blk.new w _ _;have e1:Ext w (w.alloc (.cells (qn r n).cells t_api_Dot)):=Fr.alloc _ _;generalize w.alloc (.cells (qn r n).cells t_api_Dot)=w1 at *;have hR:=B.cell 0;have hN:=B.cell 1;refine o_p Z Z Z <| on <| ss <| sr <| o_p Z Z Z <| fm Z (bx Z Z Z hR) Z <| o_p Z Z Z <| o_p Z Z Z ?_;have out:∀ W,Ext w1 W→(r<1∨16<r∨n<1∨n≤atL xs r)→Calls Tryz.prog iS #[va,.slice none 0 0] W fun e w'=>∃ v,e = .returned v∧MI w' w.heap.size v (oM xs r n)∧Ext w w':=by
  intro W hW hc;refine (wN (ha.ext (e1.trans hW)) (VL.nil _ _) hx (by simp)).mono ?_;rintro e w2 ⟨v,rfl,hM,hE⟩;refine ⟨v,rfl,?_,(e1.trans hW).trans hE⟩;rw [oM,if_pos hc];exact hM.weaken (e1.trans hW).size
 refine pS 9 Z (fun h1=> ?_) (fun h1=> ?_)
 ·have h1:=of_decide_eq_true h1;refine wx Z Z <| wx Z Z <| wx Z Z <| o_p Z Z Z <| o_p Z Z Z <| wx Z Z <| wx Z Z <| wx Z Z <| o_p Z Z Z <| on <| xd Z <| sr <| o_p Z Z Z <| jx Z (fu Z) Z <| (out w1 (Fr.refl _ _) (.inl h1)).mono ?_;rintro _ w2 ⟨v,rfl,hM,hE⟩;refine ⟨_,rfl,?_⟩;refine o_p Z Z Z ?_;exact (fk (cn (ig (jt (je Z Z ⟨v,rfl,hM,hE⟩)))))
 ·have h1:=of_decide_eq_false h1;refine o_p Z Z Z <| fm Z (bx Z Z Z hR) Z <| o_p Z Z Z <| o_p Z Z Z <| o_p Z Z Z ?_;refine pS 14 Z (fun h2=> ?_) (fun h2=> ?_)
  ·have h2:=of_decide_eq_true h2;refine wx Z Z <| wx Z Z <| wx Z Z <| o_p Z Z Z <| on <| xd Z <| sr <| o_p Z Z Z <| jx Z (fu Z) Z <| (out w1 (Fr.refl _ _) (.inr (.inl h2))).mono ?_;rintro _ w2 ⟨v,rfl,hM,hE⟩;refine ⟨_,rfl,?_⟩;refine o_p Z Z Z ?_;exact (fk (cn (ig (jt (je Z Z ⟨v,rfl,hM,hE⟩)))))
  ·have h2:=of_decide_eq_false h2;refine o_p Z Z Z <| fm Z (bx Z Z Z hN) Z <| o_p Z Z Z <| o_p Z Z Z ?_;refine on (zp Z (fun h3=> ?_) (fun h3=> ?_))
   ·refine sr <| o_p Z Z Z <| jx Z (fu Z) Z <| (out w1 (Fr.refl _ _) (.inr (.inr (.inl h3)))).mono ?_;rintro _ w2 ⟨v,rfl,hM,hE⟩;refine ⟨_,rfl,?_⟩;refine o_p Z Z Z ?_;exact (fk (cn (ig (jt (je Z Z ⟨v,rfl,hM,hE⟩)))))
   ·refine lu <| cn <| er <| er <| sk flo (fun W'=>Ext w1 W') (by decide) (Fr.drew _) <| d_p Z Z Z Z <| iw Z Z (fun W' hW'=>bx Z Z Z (hW'.cell hN)) Z <| d_p Z Z Z Z <| d_p Z Z Z Z <| iw Z Z (fun W' hW'=>bx Z Z Z (hW'.cell hR)) Z <| nq Z Z (fu Z) Z <| (md (ha.ext (e1.trans (Fr.drew _)))).mono ?_;rintro _ w2 ⟨rfl,rfl⟩;refine ⟨_,rfl,Fr.drew _,?_⟩;refine d_p Z Z Z Z ?_;refine (qa (cn (zp Z (fun h4=> ?_) (fun h4=> ?_))))
    ·refine sr <| o_p Z Z Z <| jx Z (fu Z) Z <| (out _ (Fr.drew _) (.inr (.inr (.inr h4)))).mono ?_;rintro _ w2 ⟨v,rfl,hM,hE⟩;refine ⟨_,rfl,?_⟩;refine o_p Z Z Z ?_;exact (fk (cn (ig (jt (je Z Z ⟨v,rfl,hM,hE⟩)))))
    ·have e2:Ext w1 w1.drew:=Fr.drew _;generalize w1.drew=w2 at *;refine lu <| cn <| er <| df <| o_p Z Z Z <| fm Z (bx Z Z Z (e2.cell hR)) Z <| G6 (n:=r.toNat) (base:=w2.heap.size) (sz:=1) Z Z Z Z Z Z Z Z (by omega) (by omega) (aqp _) ?_;intro w3 own e3;have hz3:=j5.block own Z;rw [aq8] at own;change j5 w3 _ _ _ _ _ (madeCells #[ii 0] r.toNat).toList at own;rw [vR] at own;refine o_p Z Z Z <| on <| sr <| o_p Z Z Z <| o_p Z Z Z <| fm Z (bx Z Z Z (Ext.cell (e2.trans e3) hR)) Z ?_;refine o_c Z Z Z (by unfold I64;omega) ?_;refine o_p Z Z Z <| fm Z (bx Z Z Z (Ext.cell (e2.trans e3) hN)) Z <| xM (r - 1).toNat Z Z Z (by omega) (by omega) ?_;obtain ⟨g,cap,cur,hv,hbg,hg3,hh,hcl,htk⟩:=j5.row own (by omega);simp only [Value.slice.injEq,apx,Addr.mk.injEq,atx,true_and] at hv;obtain ⟨rfl,rfl⟩:=hv;have hcell:=cell_of_row w3 _ (r - 1).toNat cur _ (0,0) hh;have hlt:(r - 1).toNat<cur.size:=by simp at hcl;omega
     obtain ⟨x0,hx0⟩:∃ u,cur[(r - 1).toNat]? = some u:=⟨_,Array.getElem?_eq_getElem hlt⟩;rw [hx0] at hcell;have h0:0+(r - 1).toNat=(r - 1).toNat:=aqy _;have hfr:=frozen_of_row w3 w2.heap.size (r - 1).toNat cur fp hh;rw [← h0] at hcell hfr;refine cI Z (xt Z Z Z Z Z hcell hfr) ?_;have st:=(World.ownsRow.stored (w:=w3) own (r - 1).toNat (ii n)).1;have f4:=Fr.setCell w3 ⟨w2.heap.size,(r - 1).toNat,none⟩ (ii n);have e4:Ext w1 (w3.setCell ⟨w2.heap.size,(r - 1).toNat,none⟩ (ii n)):=(e2.trans e3).trans' f4 (fun j hj h=>by have:=e2.size;simp at h;omega);change OW _ _ _ _ _ _ _ _ (w3.setCell ⟨w2.heap.size,0+(r - 1).toNat,none⟩ (ii n));rw [h0];generalize w3.setCell ⟨w2.heap.size,(r - 1).toNat,none⟩ (ii n)=w4 at *;have hone:IL w4 (.slice (some ⟨w2.heap.size,0,none⟩) r.toNat r.toNat) (Sq r n):=by
      have:=j5.sl st;unfold IL VL Sq;simp only [asw,atg,List.map_set,List.map_replicate];exact this
     refine on <| sr <| o_p Z Z Z <| o_p Z Z Z ?_;refine jx Z (fu Z) Z ((wN (ha.ext (e1.trans e4)) hone hx (by simp [Sq];omega)).mono ?_);rintro _ w5 ⟨v,rfl,hM,hE⟩;refine ⟨_,rfl,?_⟩;refine o_p Z Z Z <| fk <| cn <| ig <| je Z Z ⟨v,rfl,?_,(e1.trans e4).trans hE⟩;rw [oM,if_neg (by omega)];exact hM.weaken (e1.trans e4).size


instance:EqT Tryz.prog t_api_Dot:=⟨by kernel_rfl⟩
set_option maxRecDepth 100000 in
theorem Zc (a b c d:Int) (w:World):(Op.equalIn 10000 t_api_Dot (qn a b) (qn c d)).run Tryz.prog w = .ok (decide (a=c∧b=d)) w:=by
 have hS:Tryz.prog.underlying t_api_Dot=some (.struct (Tryz.prog.fieldsOf t_api_Dot)):=by kernel_rfl
 have hp:Tryz.prog.stoodInHeld t_api_Dot=false:=by kernel_rfl
 have hf : ∃ f g : Field, (Tryz.prog.fieldsOf t_api_Dot).toList = [f, g] ∧ f.name ≠ "_" ∧ g.name ≠ "_" ∧ f.type = fp ∧ g.type = fp ∧ f.offset = 0 ∧ g.offset = 1 :=
  ⟨_,_,rfl,by decide,by decide,rfl,rfl,rfl,rfl⟩
 obtain ⟨f,g,h1,h2,h3,h4,h5,h6,h7⟩:=hf;have ui:Tryz.prog.underlying fp=some (.int .i64):=by kernel_rfl
 rw [show (10000:Nat)=9998+1+1 from rfl,run_equalIn_struct w 9999 t_api_Dot _ _ hS hp,h1];have p0:∀ (x y:Int),(part fp #[ii x,ii y] 0).run Tryz.prog w = .ok (ii x) w:=fun x y=>by simp [part,isAgg,run_underlying ui]
 have p1:∀ (x y:Int),(part fp #[ii x,ii y] 1).run Tryz.prog w = .ok (ii y) w:=fun x y=>by simp [part,isAgg,run_underlying ui]
 have q:∀ x y:Int,(Op.equalIn 9999 fp (ii x) (ii y)).run Tryz.prog w = .ok (x == y) w:=fun x y=>run_equalIn_int w 9998 fp .i64 .i64 x y ui
 simp only [Op.eqFields,h2,h3,h4,h5,h6,h7,ne_eq,not_false_eq_true,ata,Sem.run_bind,p0,p1,q,Result.andThen_ok];by_cases e1:a=c <;> by_cases e2:b=d <;> simp [e1,e2,p1,q]

def yN (a b:Int):Int:=if a<b then -1 else if b<a then 1 else 0
theorem sO (a:Int) (w:World):Calls Tryz.prog cO #[ii a] w fun e w'=>e = .returned (.bool false)∧w=w':=by
 refine qP Tryz.func293 Z Z <| sr <| o_p Z Z Z <| on <| sr <| o_p Z Z Z <| o_p Z Z Z <| o_p Z Z Z <| o_p Z Z Z <| on ?_;exact ig (je Z Z ⟨by simp,rfl⟩)

theorem yO (a b:Int) (w:World):Calls Tryz.prog s9 #[ii a,ii b] w fun e w'=>e = .returned (ii (yN a b))∧w=w':=by
 refine ub Tryz.func252 Z Z <| sr <| o_p Z Z Z <| on <| sr <| o_p Z Z Z <| jx Z (fu Z) Z <| (sO a w).mono ?_;rintro _ w1 ⟨rfl,rfl⟩;refine ⟨_,rfl,?_⟩;refine o_p Z Z Z <| on <| sr <| o_p Z Z Z <| jx Z (fu Z) Z <| (sO b w).mono ?_;rintro _ w1 ⟨rfl,rfl⟩;refine ⟨_,rfl,?_⟩;refine o_p Z Z Z <| on <| ss <| sr <| o_p Z Z Z <| on <| xe Z <| lu <| cn <| ss <| sr <| o_p Z Z Z <| on <| xe Z <| lu <| cn <| ss <| sr <| o_p Z Z Z <| o_p Z Z Z <| o_p Z Z Z <| on ?_;refine zp Z (fun h1=>sr ?_) (fun h1=>lu (cn (ss (sr ?_))))
 ·refine o_p Z Z Z <| on ?_;exact ig (jt (je Z Z ⟨by simp [yN,h1],rfl⟩))
 ·refine o_p Z Z Z <| o_p Z Z Z <| o_p Z Z Z <| on ?_;refine zp Z (fun h2=>sr ?_) (fun h2=>lu (cn (sr ?_)))
  ·refine o_p Z Z Z <| on ?_;exact ig (jt (je Z Z ⟨by simp [yN,h1,h2],rfl⟩))
  ·refine o_p Z Z Z <| on ?_;exact ig (je Z Z ⟨by simp [yN,h1,h2],rfl⟩)

def Nx (ra na:Int) (xs:List Int) (rb nb:Int) (ys:List Int):Bool :=
 decide (pZ xs<pZ ys∨(pZ xs=pZ ys∧(ra<rb∨(ra=rb∧na<nb))))

def Ny (a b:Int):Int:=jY .or .u32 a b
def eX (a b:Int):Int:=jY .xor .u32 a b
def By (a b:Int):Int:=jY .and .u32 a b
def t6 (a b:Int):Int:=IntKind.u32.wrap (a+b)
def Bz (a:Int) (n:Nat):Int:=IntKind.u32.wrap (a*2 ^ n)
def Hs (a:Int) (n:Nat):Int:=a.fdiv (2 ^ n)
def nC (a:Int) (n:Nat):Int:=Ny (Bz a (32 - n)) (Hs a n)
theorem Fj:∀ n:Fin 32,1≤n.val→jY .and .u64 (IntKind.u64.wrap (IntKind.i64.wrap (0 - (n.val:Int)))) 31=((32 - n.val:Nat):Int):=by decide +kernel
theorem Nz:∀ n:Fin 32,1≤n.val→IntKind.u64.wrap (32 - ((32 - n.val:Nat):Int))=(n.val:Int):=by decide +kernel

theorem lC (x:Int) (n:Nat) (h1:1≤n) (h2:n<32) (w:World) :
  Calls Tryz.prog zh #[.int .u32 x,ii (IntKind.i64.wrap (0 - (n:Int)))] w fun e w'=>e = .returned (.int .u32 (nC x n))∧w=w':=by
 have ha:=Fj ⟨n,h2⟩ h1;have hb:=Nz ⟨n,h2⟩ h1;dsimp only at ha hb;refine ub Tryz.func266 Z Z <| sr <| o_p Z Z Z <| on <| sr <| o_p Z Z Z <| o_p Z Z Z <| o_p Z Z Z <| o_p Z Z Z <| on <| sr <| o_p Z Z Z <| o_p Z Z Z ?_;rw [ha]
 skip
 refine o_c Z Z Z (by omega) <| o_p Z Z Z <| o_p Z Z Z <| o_p Z Z Z ?_;rw [hb];refine o_c Z Z Z (by omega) <| o_p Z Z Z <| o_p Z Z Z <| on <| ig <| je Z Z ⟨?_,rfl⟩;have e1:min ((32 - n:Nat):Int).toNat 32=32 - n:=by omega
 have e2:min (n:Int).toNat 32=n:=by omega
 simp only [nC,Ny,Bz,Hs,IntKind.bits,e1,e2]

theorem kz (x:Int) (n:Nat) (h1:1≤n) (h2:n<32) (w:World) :
  Calls Tryz.prog yJ #[.int .u32 x,ii n] w fun e w'=>e = .returned (.int .u32 (nC x n))∧w=w':=by
 refine ub Tryz.func211 Z Z <| sr <| o_p Z Z Z <| on <| sr <| o_p Z Z Z <| o_p Z Z Z <| o_p Z Z Z <| jx Z (fu Z) Z <| (lC x n h1 h2 w).mono ?_;rintro _ _ ⟨rfl,rfl⟩;refine ⟨_,rfl,?_⟩;refine o_p Z Z Z <| on ?_;exact ig (je Z Z ⟨rfl,rfl⟩)

def sP (b:List Int) (i:Nat):Int:=b.getD i 0
def Xf (b:List Int) (i:Nat):Int :=
 Ny (Ny (Ny (Bz (IntKind.u32.wrap (sP b (4*i))) 24) (Bz (IntKind.u32.wrap (sP b (4*i+1))) 16)) (Bz (IntKind.u32.wrap (sP b (4*i+2))) 8)) (IntKind.u32.wrap (sP b (4*i+3)))
def ald (x:Int):Int:=eX (eX (nC x 7) (nC x 18)) (Hs x 3)
def ale (x:Int):Int:=eX (eX (nC x 17) (nC x 19)) (Hs x 10)
def wP (b W:List Int) (i:Nat):Int :=
 if i<16 then Xf b i else t6 (t6 (t6 (W.getD (i - 16) 0) (ald (W.getD (i - 15) 0))) (W.getD (i - 7) 0)) (ale (W.getD (i - 2) 0))
def i7 (b:List Int):Nat→List Int
 | 0 => []
 | i + 1 => i7 b i ++ [wP b (i7 b i) i]
theorem aU (b:List Int) (i:Nat):(i7 b i).length=i:=by
 induction i with
 | zero => rfl
 | succ i ih => simp [i7, ih]
def ie (l:List Int):List Value:=l.map (Value.int .u32)
def ux (b:List Int) (i:Nat):List Value:=ie (i7 b i)++List.replicate (64 - i) (.int .u32 0)
theorem sQ (b:List Int) (i:Nat) (h:i≤64):(ux b i).length=64:=by simp [ux,ie,aU];omega
theorem Fk (b:List Int) (i j:Nat) (h:j<i):(ux b i)[j]? = some (.int .u32 ((i7 b i).getD j 0)):=by
 have hl:=aU b i;rw [ux,aq6 (by simp [ie,hl];omega)];simp only [ie,ar3,aqf];rw [apv (by omega)]
 rfl
theorem sR (b:List Int) (i:Nat) (h:i<64):(ux b i).set i (.int .u32 (wP b (i7 b i) i))=ux b (i+1):=by
 have hl:=aU b i;unfold ux;rw [List.set_append_right _ _ (by simp [ie,hl])];have e:64 - i=(64 - (i+1))+1:=by omega
 rw [e,List.replicate_succ];simp [ie,i7,hl]

theorem B4 {vb:Value} {b:List Int} {w:World} (hb:VL (Value.int .u8) w vb b) (hl:64≤b.length) :
  Calls Tryz.prog yI #[vb] w fun e w'=>e = .returned (.agg (ie (i7 b 64)).toArray)∧Ext w w':=by
 obtain ⟨A,c,rfl,hnc,hcm,hz,hcell⟩:=hb.op;refine qP Tryz.func210 Z Z <| er <| df <| xP Z Z Z Z ?_;intro w1 B1 e1 z1;change Blk w1 w.heap.size jc (ux b 0) at B1;refine on <| ss <| sr <| o_p Z Z Z <| on ?_;refine k7 (fU (G:=Nat) (fun i=> [(0,.slice A b.length c),(2,pp w.heap.size),(6,ii i)]) (fun i W=>Ext w W∧Blk W w.heap.size jc (ux b i)∧i≤64) (fun i=>64 - i) ?_ ?_)
 ·exact ⟨0,⟨rfl,rfl,rfl,trivial⟩,e1,B1,by omega⟩
 rintro i W ⟨hE,B,hi⟩
 try dsimp only
 refine sr <| o_p Z Z Z <| on ?_;refine (er (zp Z (fun h=> ?_) (fun h=> ?_)))
 ·obtain ⟨bk,off,rfl,hbk,hc⟩:=hcell 0 (by omega);have hE':Ext w W.drew:=hE.trans (Fr.drew _);have hlen:=sQ b i (by omega);refine lu <| cn <| er <| k7 <| er <| df <| o_p Z Z Z <| o_p Z Z Z <| on <| ss <| sr <| o_p Z Z Z <| o_p Z Z Z <| on ?_;have h0:∀ j:Nat,0+j=j:=fun j=>aqy j
  have hex:∃ u,(ux b i)[i]? = some u:=⟨_,apv (by omega)⟩;obtain ⟨u,hu⟩:=hex;have hst:∀ W',Blk W' w.heap.size jc (ux b i)→W'.cell? ⟨w.heap.size,0+i,none⟩=some u∧W'.frozen? ⟨w.heap.size,0+i,none⟩=false:=by
   intro W' h;rw [h0];exact ⟨(h.cell i).trans hu,h.frozen i⟩
  refine zp Z (fun h2=> ?_) (fun h2=> ?_)
  ·have Bd:=B.ext (Fr.drew W);have hbyte:∀ j,j<4→W.drew.cell? ⟨bk,off+(4*i+j),none⟩=some (.int .u8 (sP b (4*i+j))):=by
    intro j hj;have:=hE'.cell (hc (4*i+j) (by omega));rw [this,sP,aqf,apv (by omega)]
    rfl
   refine er <| sk flo (fun W'=>∀ j,j<4→W'.cell? ⟨bk,off+(4*i+j),none⟩=some (.int .u8 (sP b (4*i+j)))) (by decide +kernel) hbyte <| d_p Z Z Z Z <| d_p Z Z Z Z <| d_p Z Z Z Z <| d_c Z Z Z Z (by (unfold I64;omega)) <| n6 (4*i+0) Z Z Z Z (by omega) (by omega) <| iw Z Z (fun W' hW'=>bx Z Z Z (hW' 0 (by omega))) Z <| d_p Z Z Z Z ?_;refine d_c Z Z Z Z (by (show (0:Int)≤_;omega)) ?_;refine d_p Z Z Z Z <| d_p Z Z Z Z ?_
   (iterate 2 refine d_c Z Z Z Z (by (unfold I64;omega)) ?_)
   refine n6 (4*i+1) Z Z Z Z (by omega) (by omega) <| iw Z Z (fun W' hW'=>bx Z Z Z (hW' 1 (by omega))) Z <| d_p Z Z Z Z ?_;refine d_c Z Z Z Z (by (show (0:Int)≤_;omega)) ?_;refine d_p Z Z Z Z <| d_p Z Z Z Z <| d_p Z Z Z Z ?_
   (iterate 2 refine d_c Z Z Z Z (by (unfold I64;omega)) ?_)
   refine n6 (4*i+2) Z Z Z Z (by omega) (by omega) <| iw Z Z (fun W' hW'=>bx Z Z Z (hW' 2 (by omega))) Z <| d_p Z Z Z Z ?_;refine d_c Z Z Z Z (by (show (0:Int)≤_;omega)) ?_;refine d_p Z Z Z Z <| d_p Z Z Z Z <| d_p Z Z Z Z ?_
   (iterate 2 refine d_c Z Z Z Z (by (unfold I64;omega)) ?_)
   refine n6 (4*i+3) Z Z Z Z (by omega) (by omega) <| iw Z Z (fun W' hW'=>bx Z Z Z (hW' 3 (by omega))) Z <| d_p Z Z Z Z <| d_p Z Z Z Z <| n6 (i) Z Z Z Z (by omega) (by omega) ?_;refine zU Z Z (xt Z Z Z Z Z (hst _ Bd).1 (hst _ Bd).2) ?_ ?_
   ·intro j hj;have hne:=hE.size;have hbl:=hbk;exact (Fr.cell' (Fr.setCell _ _ _) (hbyte j hj) (by simp;omega))
   refine qa <| cn <| yo <| ls <| ku <| cn <| df ?_;refine o_c Z Z Z (by unfold I64;omega) ?_;refine o_p Z Z Z ?_;have hn:wP b (i7 b i) i=Xf b i:=if_pos (by omega);have Bs:=Bd.set i (.int .u32 (wP b (i7 b i) i));rw [sR b i (by omega),hn] at Bs;have hzz:0+lX i 1=i:=by rw [b5];omega
   refine (fk (xm (i+1) ?_ ?_ ?_))
   ·exact ⟨rfl,rfl,rfl,trivial⟩
   ·refine ⟨hE'.trans' (Fr.setCell _ _ _) (fun j hj h=>by simp at h;omega),?_,by omega⟩;rw [hzz];exact Bs
   ·show 64 - (i+1)<64 - i;omega
  ·have h2':16≤i:=by omega
   have Bd:=B.ext (Fr.drew W);have hS:∀ j,j<i→W.drew.cell? ⟨w.heap.size,0+j,none⟩=some (.int .u32 ((i7 b i).getD j 0)):=fun j hj=>by
    rw [h0];exact (Bd.cell j).trans (Fk b i j hj)
   have hS2:∀ j,j<i→W.drew.drew.cell? ⟨w.heap.size,0+j,none⟩=some (.int .u32 ((i7 b i).getD j 0)):=fun j hj=>Ext.cell (Fr.drew _) (hS j hj)
   have hS3:∀ j,j<i→W.drew.drew.drew.cell? ⟨w.heap.size,0+j,none⟩=some (.int .u32 ((i7 b i).getD j 0)):=fun j hj=>Ext.cell (Fr.drew _) (hS2 j hj)
   refine lu <| cn <| er <| sk flo (fun W'=>∀ j,j<i→W'.cell? ⟨w.heap.size,0+j,none⟩=some (.int .u32 ((i7 b i).getD j 0))) (by decide +kernel) hS <| d_p Z Z Z Z <| d_c Z Z Z Z (by (unfold I64;omega)) <| n6 (i - 15) Z Z Z Z (by omega) (by omega) <| iw Z Z (fun W' hW'=>bx Z Z Z (hW' (i - 15) (by omega))) Z <| nq Z Z (fu Z) Z <| (kz _ 7 (by decide) (by decide) _).mono ?_;rintro _ _ ⟨rfl,rfl⟩;refine ⟨_,rfl,hS,?_⟩;refine d_p Z Z Z Z <| d_c Z Z Z Z (by (unfold I64;omega)) <| n6 (i - 15) Z Z Z Z (by omega) (by omega) <| iw Z Z (fun W' hW'=>bx Z Z Z (hW' (i - 15) (by omega))) Z <| nq Z Z (fu Z) Z <| (kz _ 18 (by decide) (by decide) _).mono ?_;rintro _ _ ⟨rfl,rfl⟩;refine ⟨_,rfl,hS,?_⟩;refine d_p Z Z Z Z <| d_p Z Z Z Z <| d_c Z Z Z Z (by (unfold I64;omega)) <| n6 (i - 15) Z Z Z Z (by omega) (by omega) <| iw Z Z (fun W' hW'=>bx Z Z Z (hW' (i - 15) (by omega))) Z ?_;refine d_c Z Z Z Z (by (show (0:Int)≤_;omega)) ?_;refine d_p Z Z Z Z <| d_p Z Z Z Z <| qa <| cn <| er <| sk flo (fun W'=>∀ j,j<i→W'.cell? ⟨w.heap.size,0+j,none⟩=some (.int .u32 ((i7 b i).getD j 0))) (by decide +kernel) hS2 <| d_p Z Z Z Z <| d_c Z Z Z Z (by (unfold I64;omega)) <| n6 (i - 2) Z Z Z Z (by omega) (by omega) <| iw Z Z (fun W' hW'=>bx Z Z Z (hW' (i - 2) (by omega))) Z <| nq Z Z (fu Z) Z <| (kz _ 17 (by decide) (by decide) _).mono ?_;rintro _ _ ⟨rfl,rfl⟩;refine ⟨_,rfl,hS2,?_⟩;refine d_p Z Z Z Z <| d_c Z Z Z Z (by (unfold I64;omega)) <| n6 (i - 2) Z Z Z Z (by omega) (by omega) <| iw Z Z (fun W' hW'=>bx Z Z Z (hW' (i - 2) (by omega))) Z <| nq Z Z (fu Z) Z <| (kz _ 19 (by decide) (by decide) _).mono ?_;rintro _ _ ⟨rfl,rfl⟩;refine ⟨_,rfl,hS2,?_⟩;refine d_p Z Z Z Z <| d_p Z Z Z Z <| d_c Z Z Z Z (by (unfold I64;omega)) <| n6 (i - 2) Z Z Z Z (by omega) (by omega) <| iw Z Z (fun W' hW'=>bx Z Z Z (hW' (i - 2) (by omega))) Z ?_;refine d_c Z Z Z Z (by (show (0:Int)≤_;omega)) ?_;refine d_p Z Z Z Z <| d_p Z Z Z Z <| qa <| cn <| sk flo (fun W'=>∀ j,j<i→W'.cell? ⟨w.heap.size,0+j,none⟩=some (.int .u32 ((i7 b i).getD j 0))) (by decide +kernel) hS3 <| d_p Z Z Z Z <| d_p Z Z Z Z <| d_c Z Z Z Z (by (unfold I64;omega)) <| n6 (i - 16) Z Z Z Z (by omega) (by omega) <| iw Z Z (fun W' hW'=>bx Z Z Z (hW' (i - 16) (by omega))) Z <| d_p Z Z Z Z <| d_p Z Z Z Z <| d_p Z Z Z Z <| d_c Z Z Z Z (by (unfold I64;omega)) <| n6 (i - 7) Z Z Z Z (by omega) (by omega) <| iw Z Z (fun W' hW'=>bx Z Z Z (hW' (i - 7) (by omega))) Z <| d_p Z Z Z Z <| d_p Z Z Z Z <| d_p Z Z Z Z <| n6 (i) Z Z Z Z (by omega) (by omega) ?_;have B3:=(Bd.ext (Fr.drew _)).ext (Fr.drew W.drew.drew);have hE3:Ext w W.drew.drew.drew:=(hE'.trans (Fr.drew _)).trans (Fr.drew _);refine zU Z Z (xt Z Z Z Z Z (hst _ B3).1 (hst _ B3).2) ?_ ?_
   ·intro j hj;have hne:(⟨w.heap.size,0+j,none⟩:Addr)≠⟨w.heap.size,0+lX i 1,none⟩:=by rw [b5];simp <;> omega
    rw [World.cell?_setCell_other _ _ _ _ hne.symm];exact hS3 j hj
   have hn:wP b (i7 b i) i=t6 (t6 (t6 ((i7 b i).getD (i - 16) 0) (ald ((i7 b i).getD (i - 15) 0))) ((i7 b i).getD (i - 7) 0)) (ale ((i7 b i).getD (i - 2) 0)):=if_neg (by omega);have Bs:=B3.set i (.int .u32 (wP b (i7 b i) i));rw [sR b i (by omega),hn] at Bs;have hzz:0+lX i 1=i:=by rw [b5];omega
   refine qa <| qo <| cn <| df ?_;refine o_c Z Z Z (by unfold I64;omega) ?_;refine o_p Z Z Z ?_;refine (fk (xm (i+1) ?_ ?_ ?_))
   ·exact ⟨rfl,rfl,rfl,trivial⟩
   ·refine ⟨hE3.trans' (Fr.setCell _ _ _) (fun j hj h=>by simp at h;omega),?_,by omega⟩;rw [hzz];exact Bs
   ·show 64 - (i+1)<64 - i;omega
 ·refine yo <| ls <| nl <| ku <| cn <| er <| df ?_;obtain rfl:i=64:=by omega
  have hlen:=sQ b 64 (by omega);have hW:ux b 64=ie (i7 b 64):=by simp [ux]
  rw [hW] at B hlen;generalize i7 b 64=X at *;refine fm Z (di (cs:=ie X) Z Z Z hlen (fun j _=>by rw [aqy];exact B.cell j)) Z ?_;refine cI Z (uk (vs:=ie X) Z Z Z Z (by rw [hlen];rfl) (by intro u hu;obtain ⟨x,_,rfl⟩:=ap8.1 hu;rfl) B (asd (by omega))) ?_;have Bf:=B.setRow (ds:=spl (ie X) 0 (ie X));have hspl:spl (ie X) 0 (ie X)=ie X:=by simp [spl]
  rw [hspl] at Bf;rw [hspl];refine (fk (cn (ig (fY Z Z Z Z (by rw [hlen];rfl) Bf ⟨rfl,?_⟩))));exact hE.trans' (Fr.setRow _ _ _) (fun j hj h=>by omega)

def nD:List Int:= [
 0x428a2f98,0x71374491,0xb5c0fbcf,0xe9b5dba5,0x3956c25b,0x59f111f1,0x923f82a4,0xab1c5ed5,
 0xd807aa98,0x12835b01,0x243185be,0x550c7dc3,0x72be5d74,0x80deb1fe,0x9bdc06a7,0xc19bf174,
 0xe49b69c1,0xefbe4786,0x0fc19dc6,0x240ca1cc,0x2de92c6f,0x4a7484aa,0x5cb0a9dc,0x76f988da,
 0x983e5152,0xa831c66d,0xb00327c8,0xbf597fc7,0xc6e00bf3,0xd5a79147,0x06ca6351,0x14292967,
 0x27b70a85,0x2e1b2138,0x4d2c6dfc,0x53380d13,0x650a7354,0x766a0abb,0x81c2c92e,0x92722c85,
 0xa2bfe8a1,0xa81a664b,0xc24b8b70,0xc76c51a3,0xd192e819,0xd6990624,0xf40e3585,0x106aa070,
 0x19a4c116,0x1e376c08,0x2748774c,0x34b0bcb5,0x391c0cb3,0x4ed8aa4a,0x5b9cca4f,0x682e6ff3,
 0x748f82ee,0x78a5636f,0x84c87814,0x8cc70208,0x90befffa,0xa4506ceb,0xbef9a3f7,0xc67178f2]
def uy:List Int:= [0x6a09e667,0xbb67ae85,0x3c6ef372,0xa54ff53a,0x510e527f,0x9b05688c,0x1f83d9ab,0x5be0cd19]

theorem x9 (l:List Int):∀ u∈ie l,u.oneCell'=true:=by intro u hu;obtain ⟨x,_,rfl⟩:=ap8.1 hu;rfl
theorem ya (l:List Int):(ie l).length=l.length:=by simp [ie]
theorem eY (l:List Int) (i:Nat) (h:i<l.length):(ie l)[i]? = some (.int .u32 (l.getD i 0)):=by
 simp only [ie,ar3,aqf];rw [apv h];rfl
theorem Ki (w:World):Calls Tryz.prog Fc #[] w fun e w'=>e = .returned (.agg (ie nD).toArray)∧Ext w w':=by
 refine D0 Tryz.func209 Z Z <| er <| df <| xP Z Z Z Z ?_;intro w1 B1 e1 z1;change Blk w1 w.heap.size jc (ie (List.replicate 64 0)) at B1;refine on <| sr ?_;refine iN (v:= .agg ⟨ie nD⟩) Z (uj (by kernel_rfl)) Z ?_;refine cI Z (xg (vs:=ie nD) Z Z Z Z Z (x9 _) B1 Z) ?_;exact (fk (cn (ig (fY Z Z Z Z Z (B1.setRow (ds:=ie nD)) ⟨rfl,e1.trans' (Fr.setRow _ _ _) (fun j hj h=>by omega)⟩))))
theorem Fo (w:World):Calls Tryz.prog Bm #[] w fun e w'=>e = .returned (.agg (ie uy).toArray)∧Ext w w':=by
 refine D0 Tryz.func138 Z Z <| er <| df <| xP Z Z Z Z ?_;intro w1 B1 e1 z1;change Blk w1 w.heap.size ju (ie (List.replicate 8 0)) at B1;refine on <| sr ?_;refine iN (v:= .agg ⟨ie uy⟩) Z (uj (by kernel_rfl)) Z ?_;refine cI Z (xg (vs:=ie uy) Z Z Z Z Z (x9 _) B1 Z) ?_;exact (fk (cn (ig (fY Z Z Z Z Z (B1.setRow (ds:=ie uy)) ⟨rfl,e1.trans' (Fr.setRow _ _ _) (fun j hj h=>by omega)⟩))))

structure W8 where
 a:Int
 b:Int
 c:Int
 d:Int
 e:Int
 f:Int
 g:Int
 h:Int
def W8.l (s:W8):List Int:= [s.a,s.b,s.c,s.d,s.e,s.f,s.g,s.h]
def alf (s:W8) (k x:Int):Int:=t6 (t6 (t6 (t6 s.h (eX (eX (nC s.e 6) (nC s.e 11)) (nC s.e 25))) (eX (By s.e s.f) (By (cpl .u32 s.e) s.g))) k) x
def ao7 (s:W8):Int:=t6 (eX (eX (nC s.a 2) (nC s.a 13)) (nC s.a 22)) (eX (eX (By s.a s.b) (By s.a s.c)) (By s.b s.c))
def rnd (s:W8) (k x:Int):W8:=⟨t6 (alf s k x) (ao7 s),s.a,s.b,s.c,t6 s.d (alf s k x),s.e,s.f,s.g⟩
def vS (s:W8) (K X:List Int):Nat→W8
 | 0 => s
 | n + 1 => rnd (vS s K X n) (K.getD n 0) (X.getD n 0)
def upd (A C:List Int) (i:Nat):List Int:=(List.range 8).map fun j=>if j<i then t6 (A.getD j 0) (C.getD j 0) else A.getD j 0
theorem gH (A C:List Int) (i:Nat):(upd A C i).length=8:=by simp [upd]
theorem Sr (A C:List Int) (i j:Nat) (h:j<8):(upd A C i).getD j 0=if j<i then t6 (A.getD j 0) (C.getD j 0) else A.getD j 0:=by
 rw [aqf,apv (by rw [gH];exact h)];simp [upd]
theorem Ss (A C:List Int) (i:Nat) (h:i<8):(upd A C i).set i (t6 (A.getD i 0) (C.getD i 0))=upd A C (i+1):=by
 apply List.ext_getElem
 ·simp [gH]
 ·intro j h1 h2;rw [List.getElem_set];simp only [upd,aq7,List.getElem_range]
  split
  ·rename_i e;subst e;rw [if_pos (by omega)]
  ·rename_i e
   by_cases hj:j<i
   ·rw [if_pos hj,if_pos (by omega)]
   ·rw [if_neg hj,if_neg (by omega)]
theorem N0 (A C:List Int) (h:A.length=8):upd A C 0=A:=by
 apply List.ext_getElem
 ·rw [gH,h]
 ·intro j h1 h2;simp [upd,apv h2]
def toW (l:List Int):W8:=⟨l.getD 0 0,l.getD 1 0,l.getD 2 0,l.getD 3 0,l.getD 4 0,l.getD 5 0,l.getD 6 0,l.getD 7 0⟩
theorem alg (l:List Int) (h:l.length=8):(toW l).l=l:=by
 match l,h with
 | [_, _, _, _, _, _, _, _], _ => rfl
def bZ (A b:List Int):List Int:=upd A (vS (toW A) nD (i7 b 64) 64).l 8
theorem jQ (A b:List Int):(bZ A b).length=8:=gH _ _ _

theorem Zd {P:Program} {fl:Oper→Bool} {ro:Option Nat} {N:Nat} {S:World→Prop} {l:List Oper} {k:Nat} {rest:List Oper} {Q:Exit→Act→World→Prop} {E E':List (Nat × Value)} {ds:List Deferred} {w:World} (hs:Sub E' E)
  (h:DW P fl ro N S l k rest Q E' ds w):DW P fl ro N S l k rest Q E ds w:=fun a hk hd hS hl=>h a (hk.sub hs) hd hS hl
def Ze:Option Code→Code
 | some (.seq r _) => r
 | _ => .skip
theorem Fp {vb:Value} {A b:List Int} {rest:List Value} {ga ta:Nat} {w:World} {Q':Exit→Act→World→Prop} (hb:VL (Value.int .u8) w vb b) (hl:64≤b.length) (hA:A.length=8) (BA:Blk w ga ta (ie A++rest))
  (H:∀ w8 gc gk gx,Ext w w8→w.heap.size≤gc→w.heap.size≤gk→w.heap.size≤gx→gc≠gk→gc≠gx→gk≠gx→Blk w8 gc ju (ie A)→Blk w8 gk jc (ie nD)→Blk w8 gx jc (ie (i7 b 64)) →
   PN Tryz.f140.ntmps Q' .normal [(0,pp ga),(4,pp gc),(5,pp gk),(6,pp gx)] [] w8) :
  CW Tryz.prog none Tryz.f140.ntmps (Ze Tryz.f140.body) Q' [(0,pp ga),(1,vb)] [] w:=by
 have hA8:(ie A).length=8:=by rw [ya,hA]
 let own:Nat→Value→Option Nat:=fun i v=>if 6≤i then (match v with | .pointer (some a)=>some a.block | _=>none) else none
 let φ:Nat→(Nat→Value)→World→Prop:=fun i vs w=>match i with
  | 0 => vs 0 = pp ga
  | 1 => vs 1 = pp ga
  | 2 => vs 2 = .agg (ie A).toArray
  | 3 => vs 3 = .agg (ie nD).toArray
  | 4 => vs 4 = vb
  | 5 => vs 5 = .agg (ie (i7 b 64)).toArray
  | 6 => ∃ g, vs 6 = pp g ∧ Blk w g ju (ie (List.replicate 8 0))
  | 7 => ∃ g, vs 7 = pp g ∧ Blk w g jc (ie (List.replicate 64 0))
  | 8 => ∃ g, vs 8 = pp g ∧ Blk w g jc (ie (List.replicate 64 0))
  | _ => True
 refine Yt (fl:=flo) 9 (fun _=>True) [(0,pp ga),(1,vb)] ⟨rfl,rfl,trivial⟩ Z (by kernel_rfl) φ own ?_ ?_ ?_ ?_
 ·intro j vs w1 w2 h hE
  match j,h with
  | 0, h | 1, h | 2, h | 3, h | 4, h | 5, h => exact h
  | 6, ⟨g, h1, h2⟩ => exact ⟨g, h1, h2.ext hE⟩
  | 7, ⟨g, h1, h2⟩ => exact ⟨g, h1, h2.ext hE⟩
  | 8, ⟨g, h1, h2⟩ => exact ⟨g, h1, h2.ext hE⟩
  | _ + 9, _ => trivial
 ·intro j vs vs' w1 h hv;have:=hv j Zl
  match j,h with
  | 0, h | 1, h | 2, h | 3, h | 4, h | 5, h => exact this.symm.trans h
  | 6, ⟨g, h1, h2⟩ => exact ⟨g, this.symm.trans h1, h2⟩
  | 7, ⟨g, h1, h2⟩ => exact ⟨g, this.symm.trans h1, h2⟩
  | 8, ⟨g, h1, h2⟩ => exact ⟨g, this.symm.trans h1, h2⟩
  | _ + 9, _ => trivial
 ·intro i o hi ho vs a w' hE hk hφ
  match i,hi,ho,hk,hφ with
  | 0, _, ho, hk, hφ =>
   obtain rfl:=arw ho;exact jB hk (xf (tt:=zo tts) (by kernel_rfl) w') ⟨Fr.refl _ _,rfl,fun g h=>by simp [own] at h⟩
  | 1, _, ho, hk, hφ =>
   obtain rfl:=arw ho;have h0:vs 0=pp ga:=hφ 0 (by decide +kernel);have hk:=hk.sub (E':= [(11,pp ga)]) ⟨by rw [← h0];kernel_rfl,trivial⟩;exact jB hk (xf (tt:=zo tts) (by kernel_rfl) w') ⟨Fr.refl _ _,rfl,fun g h=>by simp [own] at h⟩
  | 2, _, ho, hk, hφ =>
   obtain rfl:=arw ho;have h0:vs 1=pp ga:=hφ 1 (by decide +kernel);have hk:=hk.sub (E':= [(12,pp ga)]) ⟨by rw [← h0];kernel_rfl,trivial⟩;exact jB hk (di (tt:=zo tts) (cs:=ie A) Z Z Z hA8 (fun j hj=>by rw [aqy,(BA.ext hE).cell j,aq6 hj])) ⟨Fr.refl _ _,rfl,fun g h=>by simp [own] at h⟩
  | 3, _, ho, hk, hφ =>
   obtain rfl:=arw ho;have hk:=hk.sub (E':= []) trivial;refine Aa hk (fu Z) <| (Ki w').mono ?_;rintro e w'' ⟨rfl,he⟩;exact ⟨_,rfl,he,rfl,fun g h=>by simp [own] at h⟩
  | 4, _, ho, hk, hφ =>
   obtain rfl:=arw ho;have hk:=hk.sub (E':= [(1,vb)]) ⟨by kernel_rfl,trivial⟩;exact jB hk (xf (tt:=zo tts) (by kernel_rfl) w') ⟨Fr.refl _ _,rfl,fun g h=>by simp [own] at h⟩
  | 5, _, ho, hk, hφ =>
   obtain rfl:=arw ho;have h0:vs 4=vb:=hφ 4 (by decide +kernel);have hk:=hk.sub (E':= [(15,vb)]) ⟨by rw [← h0];kernel_rfl,trivial⟩;refine Aa hk (fu Z) <| (B4 (hb.ext hE) hl).mono ?_;rintro e w'' ⟨rfl,he⟩;exact ⟨_,rfl,he,rfl,fun g h=>by simp [own] at h⟩
  | 6, _, ho, hk, hφ =>
   obtain rfl:=arw ho;exact jB hk (xq (tt:=zo tts) Z) ⟨Fr.alloc _ _,⟨_,rfl,Blk.new w' ju (ie (List.replicate 8 0))⟩,fun g h=>by simp [own] at h;subst h;simp⟩
  | 7, _, ho, hk, hφ =>
   obtain rfl:=arw ho;exact jB hk (xq (tt:=zo tts) Z) ⟨Fr.alloc _ _,⟨_,rfl,Blk.new w' jc (ie (List.replicate 64 0))⟩,fun g h=>by simp [own] at h;subst h;simp⟩
  | 8, _, ho, hk, hφ =>
   obtain rfl:=arw ho;exact jB hk (xq (tt:=zo tts) Z) ⟨Fr.alloc _ _,⟨_,rfl,Blk.new w' jc (ie (List.replicate 64 0))⟩,fun g h=>by simp [own] at h;subst h;simp⟩
  | _ + 9, h, _, _, _ => omega
 ·intro vs w5 hE hφ hlow hap;have v2:vs 2 = .agg (ie A).toArray:=hφ 2 (by decide);have v3:vs 3 = .agg (ie nD).toArray:=hφ 3 (by decide);have v5:vs 5 = .agg (ie (i7 b 64)).toArray:=hφ 5 (by decide);obtain ⟨gc,v6,B6⟩:∃ g,vs 6=pp g∧Blk w5 g ju (ie (List.replicate 8 0)):=hφ 6 (by decide);obtain ⟨gk,v7,B7⟩:∃ g,vs 7=pp g∧Blk w5 g jc (ie (List.replicate 64 0)):=hφ 7 (by decide);obtain ⟨gx,v8,B8⟩:∃ g,vs 8=pp g∧Blk w5 g jc (ie (List.replicate 64 0)):=hφ 8 (by decide);have o6:own 6 (vs 6)=some gc:=by rw [v6];rfl
  have o7:own 7 (vs 7)=some gk:=by rw [v7];rfl
  have o8:own 8 (vs 8)=some gx:=by rw [v8];rfl
  have l6:=hlow 6 (by decide) gc o6;have l7:=hlow 7 (by decide) gk o7;have l8:=hlow 8 (by decide) gx o8;have n67:gc≠gk:=fun e=>hap 6 7 (by decide) (by decide) (by decide) gc o6 (by rw [o7,e])
  have n68:gc≠gx:=fun e=>hap 6 8 (by decide) (by decide) (by decide) gc o6 (by rw [o8,e])
  have n78:gk≠gx:=fun e=>hap 7 8 (by decide) (by decide) (by decide) gk o7 (by rw [o8,e])
  refine ⟨trivial,?_⟩;have hX:(i7 b 64).length=64:=aU b 64;have hK:nD.length=64:=rfl;generalize i7 b 64=X at *;generalize nD=K at *;refine Zd (E':= [(0,pp ga),(4,pp gc),(5,pp gk),(6,pp gx),(13,.agg (ie A).toArray),(14,.agg (ie K).toArray),(16,.agg (ie X).toArray)])
   ⟨by kernel_rfl,by rw [← v6];kernel_rfl,by rw [← v7];kernel_rfl,by rw [← v8];kernel_rfl,by rw [← v2];kernel_rfl,by rw [← v3];kernel_rfl,by rw [← v5];kernel_rfl,trivial⟩ ?_
  refine mD (vs:=ie A) Z Z Z Z Z Z Z (by rw [hA8];rfl) (x9 _) B6 (by rw [hA8];rfl) ?_;intro w6 C6 f6 z6;refine ⟨trivial,?_⟩;refine mD (vs:=ie K) Z Z Z Z Z Z Z (by rw [ya,hK];rfl) (x9 _) (B7.fr f6 (by omega)) (by rw [ya,hK];rfl) ?_;intro w7 C7 f7 z7;refine ⟨trivial,?_⟩;refine mD (vs:=ie X) Z Z Z Z Z Z Z (by rw [ya,hX];rfl) (x9 _) ((B8.fr f6 (by omega)).fr f7 (by omega)) (by rw [ya,hX];rfl) ?_;intro w8 C8 f8 z8;refine ⟨trivial,qa (Yf (E':= [(0,pp ga),(4,pp gc),(5,pp gk),(6,pp gx)]) ⟨rfl,rfl,rfl,rfl,trivial⟩ (H w8 gc gk gx ?_ l6.1 l7.1 l8.1 n67 n68 n78 ((C6.fr f7 (by omega)).fr f8 (by omega)) (C7.fr f8 (by omega)) C8))⟩;exact ((hE.trans' f6 (fun j hj h=>by omega)).trans' f7 (fun j hj h=>by omega)).trans' f8 (fun j hj h=>by omega)

theorem Fq {vb:Value} {A b:List Int} {rest:List Value} {ga ta:Nat} {w:World} (hb:VL (Value.int .u8) w vb b) (hl:64≤b.length) (hA:A.length=8) (BA:Blk w ga ta (ie A++rest)) :
  Calls Tryz.prog qj #[pp ga,vb] w fun e w'=>(∃ v,e = .returned v)∧Blk w' ga ta (ie (bZ A b)++rest)∧Fr (· = ga) w w':=by
 have hM:bZ A b=upd A (vS (toW A) nD (i7 b 64) 64).l 8:=rfl;have hX:(i7 b 64).length=64:=aU b 64;have hK:nD.length=64:=rfl;rw [hM];refine ub Tryz.func140 Z Z <| er <| Fp hb hl hA BA ?_;intro w8 gc gk gx e08 g1 g2 g3 n1 n2 n3 BC BK BX;generalize i7 b 64=X at *;generalize nD=K at *;have hga:ga<w.heap.size:=BA.lt;replace BC:Blk w8 gc ju (ie (vS (toW A) K X 0).l):=by
  rwa [show (vS (toW A) K X 0).l=A from alg A hA]
 refine cn <| ss <| sr <| o_p Z Z Z <| on ?_;refine k7 (fU (G:=Nat) (fun i=> [(0,pp ga),(4,pp gc),(5,pp gk),(6,pp gx),(17,ii i)])
  (fun i W=>Ext w W∧Blk W gc ju (ie (vS (toW A) K X i).l)∧Blk W gk jc (ie K)∧Blk W gx jc (ie X)∧i≤64) (fun i=>64 - i) ?_ ?_)
 ·exact ⟨0,⟨rfl,rfl,rfl,rfl,rfl,trivial⟩,e08,BC,BK,BX,by omega⟩
 rintro i W ⟨hE,BC,BK,BX,hi⟩
 try dsimp only
 refine sr <| o_p Z Z Z <| on ?_;refine er (zp Z (fun h=> ?_) (fun h=> ?_))
 ·have hnx:vS (toW A) K X (i+1)=rnd (vS (toW A) K X i) (K.getD i 0) (X.getD i 0):=rfl;generalize hs:vS (toW A) K X i=s at *;generalize hki:K.getD i 0=ki at *;generalize hxi:X.getD i 0=xi at *;have ck:∀ W',Ext W W'→W'.cell? ⟨gk,0+i,none⟩=some (.int .u32 ki):=fun W' hW'=>by
   rw [aqy,← hki];exact Ext.cell hW' ((BK.cell i).trans (eY K i (by omega)))
  have cx:∀ W',Ext W W'→W'.cell? ⟨gx,0+i,none⟩=some (.int .u32 xi):=fun W' hW'=>by
   rw [aqy,← hxi];exact Ext.cell hW' ((BX.cell i).trans (eY X i (by omega)))
  have cc:∀ W',Ext W W'→∀ j,W'.cell? ⟨gc,j,none⟩=(ie s.l)[j]?:=fun W' hW' j=>(BC.ext hW').cell j
  refine lu <| cn <| er <| k7 <| er <| df <| o_p Z Z Z <| o_p Z Z Z ?_;have d1:Ext W W.drew:=Fr.drew _;refine fk <| cn <| er <| sk flo (fun W'=>Ext W W') (by decide +kernel) d1 <| n6 (7) Z Z Z Z (by omega) (by omega) <| iw Z Z (fun W' hW'=>bx Z Z Z (cc W' hW' 7)) Z <| n6 (4) Z Z Z Z (by omega) (by omega) <| iw Z Z (fun W' hW'=>bx Z Z Z (cc W' hW' 4)) Z <| nq Z Z (fu Z) Z <| (kz _ 6 (by decide) (by decide) _).mono ?_;rintro _ _ ⟨rfl,rfl⟩;refine ⟨_,rfl,d1,?_⟩;refine n6 (4) Z Z Z Z (by omega) (by omega) <| iw Z Z (fun W' hW'=>bx Z Z Z (cc W' hW' 4)) Z <| nq Z Z (fu Z) Z <| (kz _ 11 (by decide) (by decide) _).mono ?_;rintro _ _ ⟨rfl,rfl⟩;refine ⟨_,rfl,d1,?_⟩;refine d_p Z Z Z Z <| n6 (4) Z Z Z Z (by omega) (by omega) <| iw Z Z (fun W' hW'=>bx Z Z Z (cc W' hW' 4)) Z <| nq Z Z (fu Z) Z <| (kz _ 25 (by decide) (by decide) _).mono ?_;rintro _ _ ⟨rfl,rfl⟩;refine ⟨_,rfl,d1,?_⟩;refine d_p Z Z Z Z <| d_p Z Z Z Z <| n6 (4) Z Z Z Z (by omega) (by omega) <| iw Z Z (fun W' hW'=>bx Z Z Z (cc W' hW' 4)) Z <| n6 (5) Z Z Z Z (by omega) (by omega) <| iw Z Z (fun W' hW'=>bx Z Z Z (cc W' hW' 5)) Z <| d_p Z Z Z Z <| n6 (4) Z Z Z Z (by omega) (by omega) <| iw Z Z (fun W' hW'=>bx Z Z Z (cc W' hW' 4)) Z <| d_p Z Z Z Z <| n6 (6) Z Z Z Z (by omega) (by omega) <| iw Z Z (fun W' hW'=>bx Z Z Z (cc W' hW' 6)) Z <| d_p Z Z Z Z <| d_p Z Z Z Z <| d_p Z Z Z Z <| d_p Z Z Z Z <| n6 (i) Z Z Z Z (by omega) (by omega) <| iw Z Z (fun W' hW'=>bx Z Z Z (ck W' hW')) Z <| d_p Z Z Z Z <| d_p Z Z Z Z <| n6 (i) Z Z Z Z (by omega) (by omega) <| iw Z Z (fun W' hW'=>bx Z Z Z (cx W' hW')) Z <| d_p Z Z Z Z <| d_p Z Z Z Z ?_;have d2:Ext W W.drew.drew:=d1.trans (Fr.drew _);refine qa <| cn <| er <| sk flo (fun W'=>Ext W W') (by decide +kernel) d2 <| n6 (0) Z Z Z Z (by omega) (by omega) <| iw Z Z (fun W' hW'=>bx Z Z Z (cc W' hW' 0)) Z <| nq Z Z (fu Z) Z <| (kz _ 2 (by decide) (by decide) _).mono ?_;rintro _ _ ⟨rfl,rfl⟩;refine ⟨_,rfl,d2,?_⟩;refine n6 (0) Z Z Z Z (by omega) (by omega) <| iw Z Z (fun W' hW'=>bx Z Z Z (cc W' hW' 0)) Z <| nq Z Z (fu Z) Z <| (kz _ 13 (by decide) (by decide) _).mono ?_;rintro _ _ ⟨rfl,rfl⟩;refine ⟨_,rfl,d2,?_⟩;refine d_p Z Z Z Z <| n6 (0) Z Z Z Z (by omega) (by omega) <| iw Z Z (fun W' hW'=>bx Z Z Z (cc W' hW' 0)) Z <| nq Z Z (fu Z) Z <| (kz _ 22 (by decide) (by decide) _).mono ?_;rintro _ _ ⟨rfl,rfl⟩;refine ⟨_,rfl,d2,?_⟩;refine d_p Z Z Z Z <| n6 (0) Z Z Z Z (by omega) (by omega) <| iw Z Z (fun W' hW'=>bx Z Z Z (cc W' hW' 0)) Z <| n6 (1) Z Z Z Z (by omega) (by omega) <| iw Z Z (fun W' hW'=>bx Z Z Z (cc W' hW' 1)) Z <| d_p Z Z Z Z <| n6 (0) Z Z Z Z (by omega) (by omega) <| iw Z Z (fun W' hW'=>bx Z Z Z (cc W' hW' 0)) Z <| n6 (2) Z Z Z Z (by omega) (by omega) <| iw Z Z (fun W' hW'=>bx Z Z Z (cc W' hW' 2)) Z <| d_p Z Z Z Z <| d_p Z Z Z Z <| n6 (1) Z Z Z Z (by omega) (by omega) <| iw Z Z (fun W' hW'=>bx Z Z Z (cc W' hW' 1)) Z <| n6 (2) Z Z Z Z (by omega) (by omega) <| iw Z Z (fun W' hW'=>bx Z Z Z (cc W' hW' 2)) Z <| d_p Z Z Z Z <| d_p Z Z Z Z <| d_p Z Z Z Z <| d_p Z Z Z Z <| qa <| cn <| df <| o_p Z Z Z <| o_p Z Z Z <| o_p Z Z Z <| xM (0) Z Z Z (by omega) (by omega) <| fm Z (bx Z Z Z (cc _ d2 0)) Z <| xM (1) Z Z Z (by omega) (by omega) <| fm Z (bx Z Z Z (cc _ d2 1)) Z <| xM (2) Z Z Z (by omega) (by omega) <| fm Z (bx Z Z Z (cc _ d2 2)) Z <| xM (3) Z Z Z (by omega) (by omega) <| fm Z (bx Z Z Z (cc _ d2 3)) Z <| o_p Z Z Z <| o_p Z Z Z <| xM (4) Z Z Z (by omega) (by omega) <| fm Z (bx Z Z Z (cc _ d2 4)) Z <| xM (5) Z Z Z (by omega) (by omega) <| fm Z (bx Z Z Z (cc _ d2 5)) Z <| xM (6) Z Z Z (by omega) (by omega) <| fm Z (bx Z Z Z (cc _ d2 6)) Z <| o_b Z Z Z <| Jp (vs:=ie (rnd s ki xi).l) Z Z Z Z Z Z Z (x9 _) (BC.ext d2) Z ?_;intro W9 B9 f9 z9;refine fk <| qo <| cn <| df ?_;refine o_c Z Z Z (by unfold I64;omega) ?_;refine o_p Z Z Z ?_;have hsz:=d2.size;refine (fk (xm (i+1) ?_ ?_ ?_))
  ·exact ⟨rfl,rfl,rfl,rfl,rfl,trivial⟩
  ·refine ⟨(hE.trans d2).trans' f9 (fun j hj h=>by omega),?_,(BK.ext d2).fr f9 (by omega),(BX.ext d2).fr f9 (by omega),by omega⟩;rw [hnx];exact B9
  ·show 64 - (i+1)<64 - i;omega
 ·obtain rfl:i=64:=by omega
  generalize hC:(vS (toW A) K X 64).l=C at *;have hC8:C.length=8:=by rw [← hC];rfl
  refine yo <| ls <| nl <| ku <| cn <| er <| df <| o_p Z Z Z <| on ?_;refine k7 (fU (G:=Nat) (fun i=> [(0,pp ga),(4,pp gc),(105,ii i)])
   (fun i W=>Fr (· = ga) w W∧Blk W ga ta (ie (upd A C i)++rest)∧Blk W gc ju (ie C)∧i≤8) (fun i=>8 - i) ?_ ?_)
  ·exact ⟨0,⟨rfl,rfl,rfl,trivial⟩,Ext.fr hE,by rw [N0 A C hA];exact BA.ext hE,BC,by omega⟩
  rintro i W ⟨hE,BA,BC,hi⟩
  try dsimp only
  refine sr <| o_p Z Z Z <| on ?_;refine er (zp Z (fun h=> ?_) (fun h=> ?_))
  ·have d1:Ext W W.drew:=Fr.drew _;have hu8:(ie (upd A C i)).length=8:=by rw [ya,gH]
   have ca:W.drew.cell? ⟨ga,0+i,none⟩=some (.int .u32 (A.getD i 0)):=by
    rw [aqy,(BA.ext d1).cell i,aq6 (by omega),eY _ _ (by rw [gH];omega),Sr _ _ _ _ (by omega),if_neg (by omega)]
   have cc:W.drew.cell? ⟨gc,0+i,none⟩=some (.int .u32 (C.getD i 0)):=by
    rw [aqy,(BC.ext d1).cell i,eY _ _ (by omega)]
   have cf:W.drew.frozen? ⟨ga,0+i,none⟩=false:=(BA.ext d1).frozen _;refine lu <| cn <| er <| k7 <| er <| df <| o_p Z Z Z <| o_p Z Z Z ?_;have hgag:ga≠gc:=by omega
   refine fk <| cn <| zX flo 11 (fun W'=>(W'.cell? ⟨gc,0+i,none⟩=some (.int .u32 (C.getD i 0)))∧(W'.cell? ⟨ga,0+i,none⟩=some (.int .u32 (A.getD i 0)))) (fun _=>True) Z (by decide +kernel) ⟨cc,ca⟩ <| d_p Z Z Z Z <| d_p Z Z Z Z <| d_p Z Z Z Z <| n6 (i) Z Z Z Z (by omega) (by omega) <| iw Z Z (fun W' hW'=>bx Z Z Z (hW'.2)) Z <| d_p Z Z Z Z <| n6 (i) Z Z Z Z (by omega) (by omega) <| iw Z Z (fun W' hW'=>bx Z Z Z (hW'.1)) Z <| d_p Z Z Z Z <| d_p Z Z Z Z <| n6 (i) Z Z Z Z (by omega) (by omega) <| qa <| zY Z trivial <| zU Z Z (xt Z Z Z Z Z ca cf) trivial <| qa <| qo <| cn <| df ?_;refine o_c Z Z Z (by unfold I64;omega) ?_;refine o_p Z Z Z ?_;have Bs:=(BA.ext d1).set i (.int .u32 (t6 (A.getD i 0) (C.getD i 0)));rw [List.set_append_left _ _ (by omega)] at Bs;have hset:(ie (upd A C i)).set i (.int .u32 (t6 (A.getD i 0) (C.getD i 0)))=ie (upd A C (i+1)):=by
    rw [← Ss A C i (by omega)];simp [ie,List.map_set]
   rw [hset] at Bs;have hzz:0+lX i 1=i:=by rw [b5];omega
   refine (fk (xm (i+1) ?_ ?_ ?_))
   ·exact ⟨rfl,rfl,rfl,trivial⟩
   ·refine ⟨(hE.trans (Ext.fr d1)).trans (Fr.setCell W.drew ⟨ga,_,none⟩ _),?_,(BC.ext d1).fr (Fr.setCell _ _ _) (by simp;omega),by omega⟩;rw [hzz];exact Bs
   ·show 8 - (i+1)<8 - i;omega
  ·refine yo <| ls <| nl <| ku <| G2 Z ⟨⟨_,rfl⟩,?_,hE⟩;obtain rfl:i=8:=by omega
   exact BA

def om (a:List Int) (r:Value) (n:Int) (m:Bool):List Value:=ie a ++ [r,ii n,.bool m]
theorem Su (a:List Int) (r:Value) (n:Int) (m:Bool) (h:a.length=8):(om a r n m)[8]? = some r∧(om a r n m)[9]? = some (ii n)∧(om a r n m)[10]? = some (.bool m):=by
 match a,h with
 | [_, _, _, _, _, _, _, _], _ => exact ⟨rfl, rfl, rfl⟩

theorem wQ {g t:Nat} {a:List Int} {r:Value} {n:Int} {m:Bool} {w:World} (hB:Blk w g t (om a r n m)) (ha:a.length=8) :
  Calls Tryz.prog kQ #[pp g] w fun e w'=>e = .returned (.bool (!m))∧w=w':=by
 have h10:=(hB.cell 10).trans (Su a r n m ha).2.2;refine qP Tryz.func139 Z Z <| sr <| o_p Z Z Z <| on <| sr <| o_p Z Z Z <| o_n Z Z Z <| o_p Z Z Z <| o_p Z Z Z <| o_p Z Z Z <| o_p Z Z Z <| fm Z (bx Z Z Z (h10)) Z <| o_p Z Z Z <| o_p Z Z Z <| o_p Z Z Z ?_;exact (fk (cn (ig (je Z Z ⟨rfl,rfl⟩))))

theorem N1 (w:World):Calls Tryz.prog wM #[] w fun e w'=>∃ g,e = .returned (pp g)∧w.heap.size≤g∧Blk w' g kf (om uy (.slice none 0 0) 0 true)∧Ext w w':=by
 refine D0 Tryz.func63 Z Z <| sr <| o_p Z Z Z <| on <| sr <| jx Z (fu Z) Z <| (Fo w).mono ?_;rintro _ w1 ⟨rfl,e1⟩;refine ⟨_,rfl,?_⟩;refine iN (v:= .agg ⟨om uy (.slice none 0 0) 0 true⟩) Z (uj (by kernel_rfl)) Z ?_;refine Mp Z Z Z Z ?_;intro w2 B2 e2 z2;refine o_p Z Z Z ?_;exact (fk (cn (ig (je Z Z ⟨_,rfl,e1.size,B2,e1.trans e2⟩))))

abbrev u8s (l:List Int):List Value:=l.map (Value.int .u8)
theorem ec (l:List Int):∀ u∈u8s l,u.oneCell'=true:=by intro u hu;obtain ⟨x,_,rfl⟩:=ap8.1 hu;rfl
def mg:Nat→List Int→List Int→List Int × List Int
 | 0, a, l => (a, l)
 | k + 1, a, l => if 64 ≤ l.length then mg k (bZ a (l.take 64)) (l.drop 64) else (a, l)
theorem sS (k:Nat) (a l:List Int) (h:l.length<64):mg k a l=(a,l):=by
 cases k with
 | zero => rfl
 | succ k => rw [mg, if_neg (by omega)]

abbrev MB (w:World) (base:Nat) (v:Value) (l:List Int):Prop:=j5 w base im 1 v l.length (u8s l)
theorem j5.made0 (w:World):MB (w.alloc (.cells #[] im)) w.heap.size (.slice (some ⟨w.heap.size,0,none⟩) 0 0) []:=World.ownsRow_made w #[] 0 (aqp _) (by decide) (by rfl)

theorem sU {va:Value} {xs:List Int} {w:World} (ha:VL (Value.int .u8) w va xs) (hlen:xs.length≤1048576) :
  Calls Tryz.prog aD #[va] w fun e w'=>∃ v,e = .returned v∧MB w' w.heap.size v xs∧Ext w w':=by
 refine qP Tryz.func28 Z Z ?_
 repeat (first | refine o_p Z Z Z ?_ | refine on ?_ | refine sr ?_ | refine ss ?_)
 refine fm Z (kw (vs:= []) (cells:= []) Z Z Z Z (by decide) (fun z hz=>by simp at hz;subst hz;rfl)) Z ?_
 repeat refine o_p Z Z Z ?_
 refine lZ Z Z Z Z Z Z Z Z (j5.made0 w) (ha.ext (Fr.alloc _ _)) (ec _) (by simp;omega) (by simp) ?_;intro v' w' own fr
 repeat refine o_p Z Z Z ?_
 refine on (ig (je Z Z ⟨_,rfl,by simpa [MB,u8s] using own,?_⟩));exact Fr.trans' (Fr.alloc _ _) fr (by intro j hj h;simp [Value.ownBlock] at h;omega)

theorem jR {va:Value} {xs:List Int} {w:World} (ha:VL (Value.int .u8) w va xs) (hlen:xs.length≤1048576) :
  Calls Tryz.prog vD #[va] w fun e w'=>∃ v,e = .returned v∧MB w' w.heap.size v xs∧Ext w w':=by
 obtain ⟨A,c,rfl,hnc,hcm,hz,hcell⟩:=ha.op;refine qP Tryz.func31 Z Z <| sr <| o_p Z Z Z <| on <| ss <| sr <| o_p Z Z Z <| o_n Z Z Z ?_;cases A with
 | none =>
  have h0:xs = []:=aql (by have:=hz Z;omega);subst h0;refine on <| xd Z <| sr <| o_p Z Z Z ?_;exact (fk (cn (ig (jt (je Z Z ⟨_,rfl,j5.nil _ _ _ _,Fr.refl _ _⟩)))))
 | some a =>
  refine on <| xe Z <| lu <| cn <| sr ?_;refine fm Z (kw (vs:= []) (cells:= []) Z Z Z Z (by decide) (fun z hz=>by simp at hz;subst hz;rfl)) Z ?_;refine o_p Z Z Z ?_;refine lZ Z Z Z Z Z Z Z Z (j5.made0 w) (ha.ext (Fr.alloc _ _)) (ec _) (by simp;omega) (by simp) ?_;intro v' w' own fr;refine o_p Z Z Z ?_;refine on (ig (je Z Z ⟨_,rfl,by simpa [MB,u8s] using own,?_⟩));exact Fr.trans' (Fr.alloc _ _) fr (by intro j hj h;simp [Value.ownBlock] at h;omega)

theorem hC8 {a:List Int} {r:Value} {n:Int} {m:Bool} (h:a.length=8):nth (om a r n m) 8=some r:=by
 match a,h with
 | [_, _, _, _, _, _, _, _], _ => rfl
theorem hC9 {a:List Int} {r:Value} {n:Int} {m:Bool} (h:a.length=8):nth (om a r n m) 9=some (ii n):=by
 match a,h with
 | [_, _, _, _, _, _, _, _], _ => rfl
theorem hS8 {a:List Int} {r r':Value} {n:Int} {m:Bool} (h:a.length=8):stO (om a r n m) 8 r'=some (om a r' n m):=by
 match a,h with
 | [_, _, _, _, _, _, _, _], _ => rfl
theorem hS9 {a:List Int} {r:Value} {n n':Int} {m:Bool} (h:a.length=8):stO (om a r n m) 9 (ii n')=some (om a r n' m):=by
 match a,h with
 | [_, _, _, _, _, _, _, _], _ => rfl
abbrev rB (v:Value) (l:List Int):SP:=row im 1 v l.length (u8s l)
theorem Zf (v:Value) (l m:List Int):row im 1 v (l.length+m.length) (u8s l++u8s m)=rB v (l++m):=by simp [rB,u8s]
theorem Ht {b:World} {F:List SP} {vb:Value} {A l:List Int} {rest:List Value} {ga ta:Nat} (hb:∀ w,Sat b (pt ga ta (ie A++rest)::F) w→VL (Value.int .u8) w vb l) (hl:64≤l.length) (hA:A.length=8) :
  SC Tryz.prog qj [pp ga,vb] b (pt ga ta (ie A++rest)::F) (fun _ F'=>F'=pt ga ta (ie (bZ A l)++rest)::F) :=
 fun w H=>(Fq (hb w H) hl hA (H.blk (k:=0) Z)).mono fun _ _ ⟨⟨v,hv⟩,B,f⟩=>⟨v,_,hv,rfl,H.write (k:=0) Z f B rfl⟩

theorem N2 {b:World} {F:List SP} {vb:Value} {A l:List Int} {ga ta:Nat} (hb:∀ w,Sat b (pt ga ta (ie A)::F) w→VL (Value.int .u8) w vb l) (hl:64≤l.length) (hA:A.length=8) :
  SC Tryz.prog qj [pp ga,vb] b (pt ga ta (ie A)::F) (fun _ F'=>F'=pt ga ta (ie (bZ A l))::F):=by
 have:=Ht (b:=b) (F:=F) (vb:=vb) (A:=A) (l:=l) (rest:= []) (ga:=ga) (ta:=ta) (by rw [aqg];exact hb) hl hA;rwa [aqg,aqg] at this

theorem Sv {b:World} {F:List SP} {g:Nat} {a rs xs:List Int} {r vb:Value} {n:Int} (ha:a.length=8) (hn:0≤n∧n≤1048576) (hlen:rs.length+xs.length≤1048576) (hb:∀ w,Sat b F w→VL (Value.int .u8) w vb xs) :
  SC Tryz.prog jK [pp g,vb] b (pt g kf (om a r n true)::rB r rs::F) (fun v F'=>v=ii 0 ∧
   ∃ r',F'=pt g kf (om (mg (rs.length+xs.length) a (rs++xs)).1 r' (n+xs.length) true)::rB r' (mg (rs.length+xs.length) a (rs++xs)).2::F):=by
 refine ao Tryz.func64 Z Z Z <| bu (fun w H=>(hb w (H.ent (af 2 [] Z))).form) ?_;rintro ⟨A,c,rfl,h1,h2,h3,h4⟩;refine anf <| ae Z <| ane <| ac <| anf <| ae Z <| au Z Z Z (SC.ofEq fun w H=>wQ (H.blk (k:=0) Z) ha) <| ane <| ai Z <| ah <| ab <| anf <| apo Z Z Z <| ix 0 Z Z Z Z Z Z (hC9 ha) Z <| apn Z Z <| ay Z <| apn Z Z <| dS 0 Z Z Z Z Z Z Z Z (hS9 ha) Z <| aby <| apo Z Z Z <| ae Z <| ix 0 Z Z Z Z Z Z (hC8 ha) Z <| ae Z <| ef 1 Z Z Z Z Z Z Z Z Z (fun w H=>hb w (H.ent (af 2 [] Z))) (ec _) (by omega) (fun _=>rfl) fun r'=> ?_;rw [Zf];refine apn Z Z <| b6 (fun w H=>(H.oat (k:=1) Z).one) fun h1=> ?_;refine dS 0 Z Z Z Z Z Z h1 Z (hS8 ha) Z <| ane <| ac <| ak ?_;refine d6 (S:=List Int × List Int × Value) (fun s=> [(0,pp g)]) (fun s=>pt g kf (om s.1 s.2.2 (n+xs.length) true)::rB s.2.2 s.2.1::F)
  (fun s=>s.1.length=8∧s.2.1.length≤1048576∧∃ k,s.2.1.length≤k∧mg k s.1 s.2.1=mg (rs.length+xs.length) a (rs++xs)) (fun s=>s.2.1.length) (a,rs++xs,r') av
  ⟨ha,by simp;omega,rs.length+xs.length,by simp,rfl⟩ ?_
 rintro ⟨a',l,r2⟩ ⟨ha',hl,k,hk,hab⟩;dsimp only at ha' hl hk hab ⊢;refine bu (fun w H=>(H.oat (k:=1) Z).form) ?_;rintro ⟨A2,c2,rfl,hc1,hc2,hc3⟩;refine ac <| anf <| apo Z Z Z <| ix 0 Z Z Z Z Z Z (hC8 ha') Z <| apn Z Z <| ane ?_;refine cj Z (fun h=> ?_) (fun h=> ?_)
 ·have hl64:64≤l.length:=by omega
  obtain ⟨g2,off2,rfl⟩:=hc3 (by omega);have htk:(u8s l).take (64*1)=u8s (l.take 64):=by simp [u8s,List.map_take]
  have hdk:(u8s l).drop (64*1)=u8s (l.drop 64):=by simp [u8s,List.map_drop]
  have ht64:(l.take 64).length=64:=by simp;omega
  refine ah <| ab <| ak <| ac <| ij flo 8 (pt g kf (om a' (.slice (some ⟨g2,off2,none⟩) l.length c2) (n+xs.length) true)::F) [] Z (by decide +kernel) (af 2 [0] Z) ?_
  (iterate 6 refine bj Z Zl ?_)
  refine zu 0 Z Z Z Z Z Z (hC8 ha') Z Z <| dx Z Z <| ap <| ik Z (dc _) ?_;refine dh Z Z Z Z (Ht (A:=a') (l:=l.take 64) (rest:= [.slice (some ⟨g2,off2,none⟩) l.length c2,ii (n+xs.length),.bool true]) (fun w H=> ?_) (by omega) ha') ?_
  ·have:=(Oat.take (H.oat (k:=1) Z) (k:=64) hl64).sl;rw [htk] at this;unfold VL;rw [ht64];exact this
  rintro _ _ rfl;refine ⟨dc _,ap ?_⟩;have hb8:=jQ a' (l.take 64);obtain ⟨a2,ha2⟩:∃ a2,a2=bZ a' (l.take 64):=⟨_,rfl⟩;rw [← ha2] at hb8 ⊢;refine ab <| aa <| apo Z Z Z <| ae Z <| ix 0 Z Z Z Z Z Z (hC8 hb8) Z <| ay Z <| apn Z Z <| eg (kD (j:=64) hl64 1 Z Z Z) ?_;rw [hdk];refine dS 0 Z Z Z Z Z Z Z Z (hS8 hb8) Z <| ad <| bg ?_;refine i9 (a2,l.drop 64,.slice (if c2=64 then some ⟨g2,off2,none⟩ else (some ⟨g2,off2,none⟩:Option Addr).map (·.add (64*1))) (l.length - 64) (c2 - 64)) ?_ ?_ ?_
  ·have e:(l.drop 64).length=l.length - 64:=by simp
   exact mo 1 Z (fun h hA=>by dsimp only [rB];rw [e];exact hA) Z
  ·refine ⟨hb8,by simp;omega,?_⟩;cases k with
   | zero => omega
   | succ k =>
    refine ⟨k,by simp;omega,?_⟩;rw [← hab];show _=mg (k+1) a' l;rw [mg,if_pos hl64,ha2]
  ·show (l.drop 64).length<l.length;simp;omega
 ·refine b8 <| aw <| ax <| aq <| ab <| anf <| ae Z <| ane <| aj ?_;have he:=sS k a' l (by omega);rw [hab] at he;refine bh Z Z av <| ⟨rfl,.slice A2 l.length c2,?_⟩;rw [he]

theorem alh {b:World} {F:List SP}:SC Tryz.prog wM [] b F (fun v F'=>∃ g,v=pp g∧F'=pt g kf (om uy (.slice none 0 0) 0 true)::rB (.slice none 0 0) []::F) :=
 fun w H=>(N1 w).mono fun _ w' ⟨g,h1,h2,B,x⟩=>⟨_,_,h1,⟨g,rfl,rfl⟩,(H.newOat (Fr.refl _ _) (Oat.nil w w.heap.size im 1)).alloc x B h2⟩

theorem td {F G:List SP} {v:Value} {n:Nat} {cs:List Value} {l:List Int} (k:Nat) (hk:nth F k=some (row im 1 v n cs)) (hl:n=l.length) (hc:cs=u8s l) (hG:jf F k (rB v l)=some G):Ent F G:=by
 subst hl;subst hc;exact mo k hk (fun _ h=>h) hG
theorem vlB {b:World} {F:List SP} {v:Value} {l:List Int} {k:Nat} (hk:nth F k=some (rB v l)):∀ w,Sat b F w→VL (Value.int .u8) w v l:=fun w H=>(H.oat hk).sl
theorem vl1 {b:World} {F:List SP} {g t:Nat} {l:List Int} {n k:Nat} (hn:n=l.length) (hm:n≤67108864) (hk:nth F k=some (pt g t (u8s l))):∀ w,Sat b F w→VL (Value.int .u8) w (.slice (some ⟨g,0,none⟩) n n) l:=fun w H=>by
 subst hn;exact (H.blk hk).sl (by simp) hm

theorem bz (l:List Int):(u8s l).length=l.length:=by simp [u8s]
def iV (l:List Int):Nat:=(120 - (l.length+1) % 64) % 64
def Kj (n:Int) (i:Nat):Int:=IntKind.u8.wrap ((IntKind.u64.wrap (IntKind.u64.wrap n*8)).fdiv (2 ^ (56 - 8*i)))
def vT (n:Int) (i:Nat):List Int:=(List.range i).map (Kj n)
def B5 (l:List Int) (n:Int):List Int:=l ++ [128]++List.replicate (iV l) 0++vT n 8
def idB (a:List Int) (i:Nat):Int:=IntKind.u8.wrap ((a.getD (i / 4) 0).fdiv (2 ^ (24 - 8*(i % 4))))
def idM (a:List Int):List Int:=(List.range 32).map (idB a)
def idP (a:List Int) (i:Nat):List Int:=(List.range i).map (idB a)++List.replicate (32 - i) 0
theorem Sw (a:List Int) (i:Nat) (h:i≤32):(idP a i).length=32:=by simp [idP];omega
theorem Sx (a:List Int) (i:Nat) (h:i<32):(u8s (idP a i)).set i (.int .u8 (idB a i))=u8s (idP a (i+1)):=by
 have e:32 - i=(32 - (i+1))+1:=by omega
 simp only [u8s,← List.map_set,idP];rw [List.set_append_right _ _ (by simp),e,List.replicate_succ,List.range_succ];simp
theorem Sy (a:List Int):idP a 32=idM a:=by simp [idP,idM]
theorem N3 (l:List Int) (n:Int):(B5 l n).length % 64=0∧(B5 l n).length≤l.length+80:=by
 simp only [B5,vT,iV,aps,atg,ap9,List.length_range,ap3,aro];omega
def N4 (a l:List Int) (n:Int):List Int:=(mg (B5 l n).length a (B5 l n)).1
abbrev idV (l:List Int):Value:= .agg ⟨u8s l⟩
theorem Zg (k:Nat):Int.tmod (k:Int) 64=((k % 64:Nat):Int):=by
 rw [asm (by omega)];omega
theorem hCw {a:List Int} {r:Value} {n:Int} {m:Bool} (h:a.length=8):sn (om a r n m) 0 8=some (ie a):=by
 match a,h with
 | [_, _, _, _, _, _, _, _], _ => rfl
theorem Zh {a:List Int} {j:Nat} (h:j<a.length):nth (ie a) j=some (.int .u32 (a.getD j 0)):=by rw [np];exact eY a j h
theorem Zi {cs r:List Value} {o:Nat} {v:Value} (h:o<cs.length) (hr:cs.set o v=r):stO cs o v=some r:=by
 subst hr
 induction cs generalizing o with
 | nil => simp at h
 | cons c cs ih =>
  cases o with
  | zero => rfl
  | succ o => simp only [stO, ih (by simpa using h)]; rfl
theorem cp {cs:List Value} {n:Nat} (h:n=cs.length):sn cs 0 n=some cs:=by
 subst h
 induction cs with
 | nil => rfl
 | cons c cs ih => simp only [ap3, sn, ih]


theorem Zj {b:World} {F:List SP} {g:Nat} {a rs:List Int} {r:Value} {n:Int} (ha:a.length=8) (hlen:rs.length≤1000000) :
  SC Tryz.prog mR [pp g] b (pt g kf (om a r n true)::rB r rs::F) (fun v F'=>v = .tuple ⟨[idV (idM (N4 a rs n)),ii 0]⟩∧F'=pt g kf (om a r n true)::rB r rs::F):=by
 have ha8:(ie a).length=8:=by rw [ya,ha]
 refine ao Tryz.func65 Z Z Z <| anf <| bq Z Z Z Z Z fun gi=>ae Z <| ane <| ac <| anf <| ae Z <| au Z Z Z (SC.ofEq fun w H=>wQ (H.blk (k:=1) Z) ha) <| ane <| ai Z <| ah <| ab <| anf <| apo Z Z Z <| b7 1 Z Z Z Z Z Z (hCw ha) Z <| bq Z Z Z Z Z fun ga=> ?_;refine eh 0 Z Z Z Z Z Z Z (by rw [ha8];rfl) (x9 _) (by rw [ha8];rfl) ?_;refine aby <| apo Z Z Z <| ix 2 Z Z Z Z Z Z (hC8 ha) Z <| am Z Z Z (SC.ofMade fun w H=>jR (vlB (k:=3) Z w H) (by omega)) ?_;rintro v4 _ rfl;refine lp [.int .u8 128] Z Z Z Z Z Z Z Z Z fun gl=> ?_;refine ef 1 Z Z Z Z Z Z Z Z Z (vl1 (l:= [128]) (k:=0) Z (by decide) Z) (ec [128]) (by simp;omega) (fun _=>rfl) fun v5=> ?_;refine eg ((td (l:=rs ++ [128]) 1 Z (by simp) (by simp) Z).trans (af 6 [1,2,3,4,5] Z)) ?_;refine ae Z <| ane <| ac <| ak ?_

 refine d6 (S:=Nat × Value) (fun s=> [(0,pp g),(2,pp gi),(4,pp ga),(5,s.2)])
  (fun s=>rB s.2 (rs ++ [128]++List.replicate s.1 0)::pt ga ju (ie a)::pt gi t_api_ID (u8s (List.replicate 32 0))::pt g kf (om a r n true)::rB r rs::F)
  (fun s=>s.1≤iV rs) (fun s=>iV rs - s.1) (0,v5) (td 0 Z (by simp) (by simp) Z) (aqc _) ?_
 rintro ⟨k,v⟩ hk;dsimp only at hk ⊢;have hL:(rs ++ [128]++List.replicate k 0).length=rs.length+1+k:=by simp;omega
 have hz:iV rs=(120 - (rs.length+1) % 64) % 64:=rfl;refine bu (fun w H=>(H.oat (k:=0) Z).form) ?_;rintro ⟨A7,c7,rfl,_,_,_⟩;refine ac <| anf <| apn Z Z <| ay Z <| ae Z <| ane ?_;refine jC Z (fun h=> ?_) (fun h=> ?_) <;> rw [Zg] at h
 ·refine ah <| ab <| ak <| aa <| ae Z <| lp [.int .u8 0] Z Z Z Z Z Z Z Z Z fun gl=> ?_;refine ef 1 Z Z Z Z Z Z Z Z Z (vl1 (l:= [0]) (k:=0) Z (by decide) Z) (ec [0]) (by simp;omega) (fun _=>rfl) fun v8=> ?_;refine eg ((td (l:=rs ++ [128]++List.replicate (k+1) 0) 1 Z (by simp;omega) (by rw [List.replicate_succ'];simp) Z).trans (af 6 [1,2,3,4,5] Z)) ?_;refine ae Z <| ad <| bg ?_;refine i9 (k+1,v8) av ?_ ?_
  ·show k+1≤iV rs;omega
  ·show iV rs - (k+1)<iV rs - k;omega
 have h':(rs ++ [128]++List.replicate k 0).length % 64=56:=by omega
 rw [hL] at h';obtain rfl:k=iV rs:=by omega
 refine b8 <| aw <| ax <| aq <| ab <| ac <| anf <| ae Z <| ane <| ak ?_

 generalize hP:rs ++ [128]++List.replicate (iV rs) 0=p at *;have hend:B5 rs n=p++vT n 8:=by rw [B5,hP]
 have hpl:p.length≤1000100:=by omega
 refine d6 (S:=Nat × Value) (fun s=> [(0,pp g),(2,pp gi),(4,pp ga),(5,s.2),(29,ii s.1)])
  (fun s=>rB s.2 (p++vT n s.1)::pt ga ju (ie a)::pt gi t_api_ID (u8s (List.replicate 32 0))::pt g kf (om a r n true)::rB r rs::F)
  (fun s=>s.1≤8) (fun s=>8 - s.1) (0,.slice A7 p.length c7) (td 0 Z (by simp [vT]) (by simp [vT]) Z) (aqc _) ?_
 rintro ⟨k,v⟩ hk;dsimp only at hk ⊢;have hLL:∀ j,(vT n j).length=j:=fun j=>by simp [vT]
 refine anf <| ae Z <| ane <| ac ?_;refine cj Z (fun h=> ?_) (fun h=> ?_)
 ·refine ah <| ab <| ac <| ak <| anf <| apn Z Z <| ane <| aa <| apo Z Z Z <| ae Z <| ix 3 Z Z Z Z Z Z (hC9 ha) Z <| apo Z Z Z <| ay Z <| ay Z <| ay Z <| ae Z ?_;have e:min (56 - 8*(k:Int)).toNat IntKind.u64.bits=56 - 8*k:=by
   show min _ 64=_;omega
  refine bn 43 (.int .u8 (Kj n k)) Z (by rw [Kj,e]) ?_;refine lp [.int .u8 (Kj n k)] Z Z Z Z Z Z Z Z Z fun gl=> ?_;refine ef 1 Z Z Z Z Z Z Z Z Z (vl1 (l:= [Kj n k]) (k:=0) Z (by decide) Z) (ec [Kj n k]) (by simp [hLL];omega) (fun _=>rfl) fun v8=> ?_;refine eg ((td (l:=p++vT n (k+1)) 1 Z (by simp [hLL];omega) (by simp [vT,List.range_succ]) Z).trans (af 6 [1,2,3,4,5] Z)) ?_;refine ae Z <| ad <| bg <| ab <| aa <| ay Z <| ae Z <| ad ?_;refine i9 (k+1,v8) av ?_ ?_
  ·show k+1≤8;omega
  ·show 8 - (k+1)<8 - k;omega
 obtain rfl:k=8:=by omega
 refine b8 <| aw <| ax <| aq <| ab <| ac <| ak ?_;rw [← hend];have hEL:=N3 rs n;generalize hE:B5 rs n=l0 at *

 refine d6 (S:=List Int × List Int × Value) (fun s=> [(0,pp g),(2,pp gi),(4,pp ga),(5,s.2.2)])
  (fun s=>rB s.2.2 s.2.1::pt ga ju (ie s.1)::pt gi t_api_ID (u8s (List.replicate 32 0))::pt g kf (om a r n true)::rB r rs::F)
  (fun s=>s.1.length=8∧s.2.1.length % 64=0∧s.2.1.length≤1000100∧∃ k,s.2.1.length≤k∧mg k s.1 s.2.1=mg l0.length a l0) (fun s=>s.2.1.length) (a,l0,v) av
  ⟨ha,hEL.1,by dsimp only;omega,l0.length,aqp _,rfl⟩ ?_
 rintro ⟨a',l,r2⟩ ⟨ha',hl64,hl,k,hk,hab⟩;dsimp only at ha' hl hk hab hl64 ⊢;refine bu (fun w H=>(H.oat (k:=0) Z).form) ?_;rintro ⟨A2,c2,rfl,hc1,hc2,hc3⟩;refine ac <| anf <| apo Z Z Z <| ane ?_;refine cj Z (fun h=> ?_) (fun h=> ?_)
 ·have h64:64≤l.length:=by omega
  obtain ⟨g2,off2,rfl⟩:=hc3 (by omega);have htk:(u8s l).take (64*1)=u8s (l.take 64):=by simp [u8s,List.map_take]
  have hdk:(u8s l).drop (64*1)=u8s (l.drop 64):=by simp [u8s,List.map_drop]
  have ht64:(l.take 64).length=64:=by simp;omega
  refine ah <| ab <| ac <| ak <| aa <| ae Z <| ay Z <| eg (af 3 [1,0,2] Z) ?_;refine am Z Z Z (N2 (A:=a') (l:=l.take 64) (fun w H=> ?_) (by omega) ha') ?_
  ·have:=(Oat.take (H.oat (k:=1) Z) (k:=64) h64).sl;rw [htk] at this;unfold VL;rw [ht64];exact this
  rintro _ _ rfl;have hb8:=jQ a' (l.take 64);refine ad <| bg <| ab <| aa <| ae Z <| ay Z <| ae Z <| ad <| ri (kD (j:=64) h64 1 Z Z Z) ?_;rw [hdk];refine i9 (bZ a' (l.take 64),l.drop 64,.slice (if c2=64 then some ⟨g2,off2,none⟩ else (some ⟨g2,off2,none⟩:Option Addr).map (·.add (64*1))) (l.length - 64) (c2 - 64)) ?_ ?_ ?_
  ·exact (td (l:=l.drop 64) 1 Z (by simp) Z Z).trans (af 3 [1,0,2] Z)
  ·refine ⟨hb8,by simp;omega,by simp;omega,?_⟩;cases k with
   | zero => omega
   | succ k =>
    refine ⟨k,by simp;omega,?_⟩;rw [← hab];show _=mg (k+1) a' l;rw [mg,if_pos h64]
  ·show (l.drop 64).length<l.length;simp;omega
 have hl0:l.length<64:=by omega
 have he:=sS k a' l hl0;rw [hab] at he;have hsum:N4 a rs n=a':=by rw [N4,hE,he]
 rw [hsum];refine b8 <| aw <| ax <| aq <| ab <| ac <| anf <| ae Z <| ane <| ak ?_

 refine d6 (S:=Nat) (fun s=> [(0,pp g),(2,pp gi),(4,pp ga),(55,ii s)])
  (fun s=>pt ga ju (ie a')::pt gi t_api_ID (u8s (idP a' s))::pt g kf (om a r n true)::rB r rs::F)
  (fun s=>s≤32) (fun s=>32 - s) 0 (af 3 [1,2] Z) (aqc _) ?_
 intro i hi;have hpl:=Sw a' i hi;refine anf <| ae Z <| ane <| ac ?_;refine cj Z (fun h=> ?_) (fun h=> ?_)
 ·refine ah <| ab <| ac <| ak <| anf <| apn Z Z <| ane <| aa <| apn Z Z <| ay Z ?_;have htd:IntKind.i64.wrap ((i:Int).tdiv 4)=((i / 4:Nat):Int):=by
   rw [Int.tdiv_eq_ediv_of_nonneg (by omega),I64.wrap (by unfold I64;omega)];omega
  have htm:(i:Int).tmod 4=((i % 4:Nat):Int):=by
   rw [asm (by omega)];omega
  refine V4 (i / 4) Z Z Z htd (by omega) ?_;refine ix 0 Z Z Z Z Z Z (by rw [b5];simpa using Zh (a:=a') (j:=i / 4) (by omega)) Z ?_;refine ae Z <| ay Z <| ay Z <| ay Z <| ay Z <| ae Z <| ay Z ?_;have e:min (24 - 8*((i % 4:Nat):Int)).toNat IntKind.u32.bits=24 - 8*(i % 4):=by
   show min _ 32=_;omega
  refine bn 68 (.int .u8 (idB a' i)) Z (by simp only [htm,e,idB,aqf]) ?_
  skip
  refine dS 1 Z Z Z Z Z Z Z Z (Zi (r:=u8s (idP a' (i+1))) (by rw [b5];simp [hpl];omega) (by rw [b5];simpa using Sx a' i (by omega))) Z ?_;refine ad <| bg <| ab <| aa <| ay Z <| ae Z <| ad ?_;refine i9 (i+1) av ?_ ?_
  ·show i+1≤32;omega
  ·show 32 - (i+1)<32 - i;omega
 obtain rfl:i=32:=by omega
 rw [Sy] at *;generalize idM a'=dg at *;refine b8 <| aw <| ax <| aq <| ab <| anf ?_;have hseg:sn (u8s dg) 0 32=some (u8s dg):=cp (by simp [hpl]);refine b7 1 Z Z Z Z Z Z hseg Z ?_;refine eh 1 Z Z Z Z Z Z Z (by rw [bz,hpl];rfl) (ec _) Z ?_;refine ae Z <| ane <| aj ?_;refine ez Z (.whole 1 Z Z Z Z (by rw [bz,hpl];rfl) (.tmp Z .nil)) (af 2 [] Z) ?_;exact ⟨rfl,rfl⟩

instance:EqT Tryz.prog t_api_ID:=⟨by kernel_rfl⟩
instance:ArrI Tryz.prog t_api_ID 32 .u8:=by
 obtain ⟨j,hj,hs,_⟩:=TT.info (P:=Tryz.prog) im _ Z;exact ⟨⟨im,j,by kernel_rfl,by kernel_rfl,hj,hs⟩⟩

def dt (xs:List Int):List Int:=idM (N4 (mg xs.length uy xs).1 (mg xs.length uy xs).2 xs.length)
theorem yb (xs:List Int):(dt xs).length=32:=by simp [dt,idM]
theorem Fs (k:Nat) (a l:List Int) (ha:a.length=8):(mg k a l).1.length=8∧(mg k a l).2.length≤l.length:=by
 induction k generalizing a l with
 | zero => exact ⟨ha, aqp _⟩
 | succ k ih =>
  rw [mg]
  split
  ·have:=ih (bZ a (l.take 64)) (l.drop 64) (jQ _ _);refine ⟨this.1,art this.2 (by simp)⟩
  ·exact ⟨ha,aqp _⟩

theorem ek {l:List Int} (h:l.length=32):sn (u8s l) 0 32=some (u8s l):=cp (by simp [h])
theorem Xg {b:World} {F:List SP} {vb:Value} {xs:List Int} (hlen:xs.length≤1000000) (hb:∀ w,Sat b F w→VL (Value.int .u8) w vb xs) :
  SC Tryz.prog wL [vb] b F (fun v F'=>v=idV (dt xs)∧F'=F):=by
 have hsl:=yb xs;have hd:dt xs=idM (N4 (mg xs.length uy xs).1 (mg xs.length uy xs).2 xs.length):=rfl;have hal:=Fs xs.length uy xs Z;refine ao Tryz.func20 Z Z Z <| anf <| bq Z Z Z Z Z fun gi=>aby <| am Z Z Z (alh) ?_
 rintro _ _ ⟨g,rfl,rfl⟩;refine ae Z <| aby <| apn Z Z ?_;refine am Z Z Z (Sv (F:=pt gi t_api_ID (u8s (List.replicate 32 0))::F) (a:=uy) (rs:= []) (n:=0) (xs:=xs) Z (by omega) (by simp;omega) (up hb (af 1 [] Z))) ?_;rintro _ _ ⟨rfl,r',rfl⟩;refine aby <| ae Z ?_;have e0:([]:List Int).length+xs.length=xs.length:=by simp
 have e1:(0:Int)+xs.length=xs.length:=by simp
 simp only [e0,e1,arb] at *;refine am Z Z Z (Zj hal.1 (by omega)) ?_;rintro _ _ ⟨rfl,rfl⟩;rw [← hd];generalize dt xs=d at *;refine apo Z Z Z <| bq Z Z Z Z Z fun g4=> ?_
 skip
 refine eh 0 Z Z Z Z Z Z Z (by rw [bz,hsl];rfl) (ec _) (by simp [hsl]) ?_;refine ae Z <| aby <| b7 0 Z Z Z Z Z Z (ek hsl) Z ?_;refine eh 3 Z Z Z Z Z Z Z (by rw [bz,hsl];rfl) (ec _) (by simp [hsl]) ?_;refine ane <| aj ?_;refine ez Z (.whole 3 Z Z Z Z (by rw [bz,hsl];rfl) .nil) (af 4 [] Z) ?_;exact ⟨rfl,rfl⟩

def sV (l:List Int) (n:Nat):List Int:=l.take n++List.replicate (32 - n) 0
theorem Ca (l:List Int) (n:Nat) (h:l.length=32) (hn:n≤32):(sV l n).length=32:=by simp [sV,h];omega
def dq (l:List Int) (w:Int):List Int:=if w<1∨32<w then List.replicate 32 0 else sV l w.toNat
def dH (w:Int):Int:=if w<1∨32<w then 3 else 0
theorem eZ (l:List Int) (w:Int) (h:l.length=32):(dq l w).length=32:=by
 unfold dq;split
 ·simp
 ·exact Ca l _ h (by omega)
theorem Xh {b:World} {F:List SP} {l:List Int} {w:Int} (hl:l.length=32) :
  SC Tryz.prog Ke [idV l,ii w] b F (fun v F'=>v = .tuple ⟨[idV (dq l w),ii (dH w)]⟩∧F'=F):=by
 refine ao Tryz.func29 Z Z Z <| anf <| br Z Z Z Z Z fun g2=>bq Z Z Z Z Z fun g4=>ae Z <| ane <| ac <| anf <| apo Z Z Z ?_
 refine ni 8 Z (fun h=> ?_) (fun h=> ?_)
 ·refine apo Z Z Z <| ane <| ar Z <| anf <| ae Z <| cg 0 Z Z Z Z <| ae Z <| ane <| aj <| al <| ez Z (.agg 0 Z Z Z Z Z (.tmp Z .nil)) (af 2 [] Z) ?_;exact ⟨by rw [dq,dH,if_pos (.inl h),if_pos (.inl h)];rfl,rfl⟩
 refine apo Z Z Z <| ane ?_;refine cj Z (fun h'=> ?_) (fun h'=> ?_)
 ·refine anf <| ae Z <| cg 0 Z Z Z Z <| ae Z <| ane <| aj <| al <| ez Z (.agg 0 Z Z Z Z Z (.tmp Z .nil)) (af 2 [] Z) ?_;exact ⟨by rw [dq,dH,if_pos (.inr h'),if_pos (.inr h')];rfl,rfl⟩
 refine ah <| ab <| anf <| ae Z <| ay Z ?_;have hw:(32 - w.toNat:Nat)≤32:=by omega
 have hcut:spl (u8s l) (if 32=w.toNat then 0 else 0+w.toNat*1) (List.replicate (((32:Nat):Int).toNat - w.toNat) (.int .u8 0))=u8s (sV l w.toNat):=by
  by_cases h32:32=w.toNat
  ·rw [if_pos h32,← h32];simp [spl,sV,u8s,hl];rw [aqh (by simp [hl])]
  ·rw [if_neg h32];have e1:0+w.toNat*1=w.toNat:=by omega
   have e2:((32:Nat):Int).toNat - w.toNat=32 - w.toNat:=by omega
   have e3:w.toNat+(32 - w.toNat)=32:=by omega
   rw [e1,e2];simp [spl,sV,u8s,e3,hl]
 refine Aj 1 Z Z Z Z Z Z Z Z (by simp [hl];split <;> omega) ?_;rw [hcut];have hcl:=Ca l w.toNat hl (by omega);have hR:dq l w=sV l w.toNat:=by rw [dq,if_neg (by omega)]
 have hE:dH w=0:=by rw [dH,if_neg (by omega)]
 rw [hR,hE];generalize sV l w.toNat=d at *;refine aby <| b7 1 Z Z Z Z Z Z (ek hcl) Z ?_;refine eh 0 Z Z Z Z Z Z Z (by rw [bz,hcl];rfl) (ec _) (by simp [hcl]) ?_;refine ae Z <| ane <| aj ?_;refine ez Z (.whole 0 Z Z Z Z (by rw [bz,hcl];rfl) (.tmp Z .nil)) (af 2 [] Z) ?_;exact ⟨rfl,rfl⟩

theorem Kk {b:World} {F:List SP} {vb:Value} {xs:List Int} {w:Int} (hlen:xs.length≤1000000) (hb:∀ w,Sat b F w→VL (Value.int .u8) w vb xs) :
  SC Tryz.prog rR [vb,ii w] b F (fun v F'=>v = .tuple ⟨[idV (dq (dt xs) w),ii (dH w)]⟩∧F'=F):=by
 have hcl:=eZ (dt xs) w (yb xs);refine ao Tryz.func11 Z Z Z <| anf <| bq Z Z Z Z Z fun g4=>ae Z <| aby <| ae Z <| au Z Z Z (Xg hlen (up hb (af 1 [] Z))) <| ae Z <| au Z Z Z (Xh (yb xs)) ?_
 generalize dq (dt xs) w=d at *;refine apn Z Z ?_;refine eh 0 Z Z Z Z Z Z Z (by rw [bz,hcl];rfl) (ec _) (by simp [hcl]) ?_;refine ae Z <| ane <| aj ?_;refine ez Z (.whole 0 Z Z Z Z (by rw [bz,hcl];rfl) (.tmp Z .nil)) (af 1 [] Z) ?_;exact ⟨rfl,rfl⟩

def Ft (l:List Int) (w:Int):Bool:=decide (dH w=0)&&decide (dq l w=l)
theorem ali {b:World} {F:List SP} {l:List Int} {w:Int} (hl:l.length=32) :
  SC Tryz.prog Kf [idV l,ii w] b F (fun v F'=>v = .bool (Ft l w)∧F'=F):=by
 have hcl:=eZ l w hl;refine ao Tryz.func259 Z Z Z <| anf <| br Z Z Z Z Z fun g2=>ae Z <| aby <| b7 0 Z Z Z Z Z Z (ek hl) Z <| ae Z <| au Z Z Z (Xh hl) ?_
 unfold Ft;generalize dq l w=d at *;refine apo Z Z Z <| bq Z Z Z Z Z fun g5=> ?_;refine eh 0 Z Z Z Z Z Z Z (by rw [bz,hcl];rfl) (ec _) (by simp [hcl]) ?_;refine ae Z <| aby <| apo Z Z Z ?_;refine ni 15 Z (fun h=> ?_) (fun h=> ?_)
 ·skip
  refine b7 0 Z Z Z Z Z Z (ek hcl) Z <| b7 1 Z Z Z Z Z Z (ek hl) Z <| j6 Z (xS (as00:=d) (bs:=l) Z Z hcl hl) Z <| apn Z Z <| ane <| aj <| bh Z Z (af 2 [] Z) ?_;exact ⟨by simp [h,pA],rfl⟩
 ·(iterate 5 refine ae Z ?_)
  refine ane <| aj <| bh Z Z (af 2 [] Z) ?_;exact ⟨by simp [h,pA],rfl⟩

def jd (l:List Int):Prop:=∀ c∈l,0≤c∧c<256

abbrev u8l (xs:List Int):List UInt8:=xs.map fun n=>UInt8.ofNat n.toNat
theorem Fu {b:World} {F:List SP} {va vb:Value} {xs ys:List Int} (ha:∀ w,Sat b F w→VL (Value.int .u8) w va xs) (hb:∀ w,Sat b F w→VL (Value.int .u8) w vb ys) :
  SC Tryz.prog pH [va,vb] b F (fun v F'=>v=ii (Lib.compareBytes (u8l xs) (u8l ys))∧F'=F):=by
 refine ao Tryz.func247 Z Z Z <| anf <| ae Z <| aby <| apn Z Z ?_;refine mG Z Z Z (fun w H=>Rz Tryz.func291 (by kernel_rfl) (by kernel_rfl) (by kernel_rfl) (by kernel_rfl) (ha w H) (hb w H)) ?_;refine ae Z <| ane <| aj <| bh Z Z av ?_;exact ⟨rfl,rfl⟩

def dig (c:Int):Int:=if 48≤c∧c≤57 then c - 48 else if 97≤c∧c≤102 then c - 87 else -1
def alj (s:List Int) (i:Nat):Int:=16*dig (s.getD (2*i) 0)+dig (s.getD (2*i+1) 0)
def okD (s:List Int) (i:Nat):Prop:=0≤dig (s.getD (2*i) 0)∧0≤dig (s.getD (2*i+1) 0)
instance (s:List Int) (i:Nat):Decidable (okD s i):=inferInstanceAs (Decidable (_∧_))
def okR (s:List Int):Prop:=s.length=64∧∀ i,i<32→okD s i
instance (s:List Int):Decidable (okR s):=inferInstanceAs (Decidable (_∧_))
def apq (s:List Int):List Int:=if okR s then (List.range 32).map (alj s) else List.replicate 32 0
def lD (x y:List Int):Int:=Lib.compareBytes (u8l x) (u8l y)
theorem wR {b:World} {F:List SP} {x y:List Int} (hx:x.length=32) (hy:y.length=32):SC Tryz.prog ze [idV x,idV y] b F (fun v F'=>v=ii (lD x y)∧F'=F):=by
 refine ao Tryz.func177 Z Z Z <| anf <| br Z Z Z Z Z fun g2=>br Z Z Z Z Z fun g3=>ae Z <| ane <| ac <| cq flo [] (by decide +kernel) (dc _) <| dx Z Z <| dx Z Z <| eu 5 (.slice (some ⟨g2,0,none⟩) 32 32) Z Z <| eu 6 (.slice (some ⟨g3,0,none⟩) 32 32) Z Z <| fe Z Z Z Z (Fu (vl1 (l:=x) (k:=1) hx.symm (by decide) Z) (vl1 (l:=y) (k:=0) hy.symm (by decide) Z)) (dc _) <| bj Z Zl <| ap <| ab <| aj <| bh Z Z (af 2 [] Z) ?_
 exact ⟨rfl,rfl⟩




theorem yc {P:Program} {tt:Nat→Option TI} [TT P tt] {ro:Option Nat} {N:Nat} {fl:Oper→Bool} {l rest:List Oper} {kk:Nat} {Q:Exit→Act→World→Prop} {E:List (Nat × Value)} {ds:List Deferred} {b:World} {F0 F G:List SP}
  {op:Op} {ty:TypeId} {pos:String} {aft:Array Edge} {g:Option (Nat × Bool)} {t g' t0:Nat} {x y:Operand} {i:TI} {cs vs:List Value} (k:Nat) (hg:cl l E g=some true) (hf:fl ⟨none,op,ty,pos,aft,g⟩=false) (hop:op = .store t x y) (ht:tt t=some i) (hx:ev E x=some (pp g')) (hy:ev E y=some (.agg ⟨vs⟩)) (hF:nth F k=some (pt g' t0 cs)) (hG:jf F k (pt g' t0 vs)=some G)
  (hs:vs.length=i.size) (hv:∀ u∈vs,u.oneCell'=true) (hc:vs.length=cs.length) (he:Ent G F0) (h:SD P fl ro N F0 l (kk+1) rest Q E ds b G):SD P fl ro N F0 l kk (⟨none,op,ty,pos,aft,g⟩::rest) Q E ds b F:=by
 subst hop;refine Ai hg hf (fun w H=> ?_) he h;have B:=H.blk hF;exact ⟨_,xg (vs:=vs) ht hx hy Z (by rw [hs];exact asp _) hv B hc,H.write hF (Fr.setRow _ _ _) B.setRow hG⟩

theorem N5 (x:Int):0≤IntKind.u8.wrap x∧IntKind.u8.wrap x<256:=by
 have:IntKind.u8.wrap x=x % 256:=by simp [IntKind.wrap,IntKind.signed,IntKind.bits]
 omega
theorem Kl (xs:List Int):jd (dt xs):=by
 intro c hc;simp only [dt,idM,ap8] at hc;obtain ⟨i,_,rfl⟩:=hc;exact N5 _
theorem Km {l:List Int} (h:jd l) (w:Int):jd (dq l w):=by
 intro c hc;unfold dq at hc
 split at hc
 ·rw [asr hc];omega
 ·rw [sV,ap6] at hc;rcases hc with hc | hc
  ·exact h c (arf hc)
  ·rw [asr hc];omega
def apr:ByteArray:=⟨#[98,97,55,56,49,54,98,102,56,102,48,49,99,102,101,97,52,49,52,49,52,48,100,101,53,100,97,101,50,50,50,51,98,48,48,51,54,49,97,51,57,54,49,55,55,97,57,99,98,52,49,48,102,102,54,49,102,50,48,48,49,53,97,100]⟩
theorem nF {x n:Int} (hx:x<0):x.tmod n = -((-x) % n):=by
 have h1:(-x).tmod n=(-x) % n:=asm (by omega);rw [← h1,Int.neg_tmod,Int.neg_neg]
theorem Sz {x n:Int} (hn:0<n) : -n<x.tmod n∧x.tmod n<n:=by
 by_cases hx:x<0
 ·have:=atw (-x) (by omega:n≠0);have:=ate (-x) hn;rw [nF hx];omega
 ·have:=atw x (by omega:n≠0);have:=ate x hn;rw [asm (by omega)];omega
theorem Hu {x n q s:Int} (h:x=n*q+s) (h0:0≤s) (h1:s<n):x % n=s:=by
 rw [h,Int.add_comm,Int.add_mul_emod_self_left,Int.emod_eq_of_lt h0 h1]
theorem S3 {x n:Int} (hn:0<n) (h:x.tmod n<0):x.tmod n+n=x % n:=by
 have hx:x<0:=by
  apply Classical.byContradiction;intro hx;have:=atw x (by omega:n≠0);rw [asm (by omega)] at h;omega
 rw [nF hx] at h ⊢;have h1:=ate (-x) hn;have h2:=Int.emod_add_mul_ediv (-x) n;refine (Hu (q:= -((-x) / n) - 1) ?_ (by omega) (by omega)).symm;rw [Int.mul_sub,Int.mul_neg];omega
theorem S4 {x n:Int} (hn:0<n) (h:¬ x.tmod n<0):x.tmod n=x % n:=by
 by_cases hx:x<0
 ·rw [nF hx] at h ⊢;have h1:=atw (-x) (by omega:n≠0);have h2:=Int.emod_add_mul_ediv (-x) n;have h3:(-x) % n=0:=by omega
  refine (Hu (q:= -((-x) / n)) ?_ (by omega) (by omega)).symm;rw [Int.mul_neg];omega
 ·exact asm (by omega)
theorem Zk {b:World} {F:List SP} {x n:Int} (hn:I64 n):SC Tryz.prog jH [ii x,ii n] b F (fun v F'=>v=ii (if n≤0 then 0 else x % n)∧F'=F):=by
 unfold I64 at hn;refine ao Tryz.func6 Z Z Z <| anf <| ae Z <| ane <| ac <| anf <| apn Z Z <| ane ?_;refine cj Z (fun h=> ?_) (fun h=> ?_)
 ·refine anf <| ae Z <| ane <| aj <| al <| bh Z Z av ?_;exact ⟨by rw [if_pos h];rfl,rfl⟩
 refine ah <| ab <| anf <| apn Z Z <| ay Z <| ae Z <| ane <| ac <| anf <| apn Z Z <| ane ?_;refine cj Z (fun h2=> ?_) (fun h2=> ?_)
 ·refine aa <| apn Z Z ?_;have hb:=Sz (x:=x) (n:=n) (by omega);have e:=S3 (x:=x) (n:=n) (by omega) h2;refine ay Z <| ae Z <| aby <| apn Z Z <| ane <| aj <| bh Z Z av ?_;exact ⟨by rw [if_neg h,← e];rfl,rfl⟩
 refine ah <| ab <| anf <| apn Z Z <| ane <| aj <| bh Z Z av ?_;exact ⟨by rw [if_neg h,← S4 (by omega) h2];rfl,rfl⟩

open Go.WideMaps

theorem Xi:ArrKey Tryz.prog t_api_ID im 32:=⟨by kernel_rfl,by kernel_rfl,by kernel_rfl,by kernel_rfl⟩
def idOk (a:List Int):Prop:=a.length=32∧∀ x∈a,(Lit.int .u8 x).wf=true
theorem aV:MK Tryz.prog t_api_ID (fun a:List Int=> .agg ⟨a.map (Value.int .u8)⟩) idOk:=Sc Xi (by kernel_rfl) ⟨_,(by kernel_rfl:Tryz.prog.types.size=(Tryz.prog.types.size - 1)+1)⟩

structure Kp where
 id:List Int
 b:List Int
 g:Nat
 v:Value
def kP (e:Kp):List SP:= [pt e.g eU [e.v],rB e.v e.b]
def kF:List Kp→List SP
 | [] => []
 | e :: l => kP e ++ kF l
def kM:List Kp→List (List Int × Value)
 | [] => []
 | e :: l => (e.id, pp e.g) :: kM l
def eq (a:List Int):List Kp→Option Kp
 | [] => none
 | e :: l => if e.id = a then some e else eq a l
abbrev mpB (gm:Nat) (l:List Kp):SP:=mp gm (fun a:List Int=> .agg ⟨a.map (Value.int .u8)⟩) idOk (kM l)
abbrev stC (w r u:Int) (gm:Nat):List Value:= [ii w,ii r,ii u,.map (some gm)]
abbrev stB (gs gm:Nat) (w r u:Int) (l:List Kp) (F:List SP):List SP:=pt gs kt (stC w r u gm)::mpB gm l::all (kF l)::F

theorem yP (a:List Int) (l:List Kp):jl a (kM l)=(eq a l).map fun e=>pp e.g:=by
 induction l with
 | nil => rfl
 | cons e l ih =>
  simp only [kM,jl,eq]
  split
  ·rfl
  ·exact ih
theorem Hv {l:List Kp} {a:List Int} {e:Kp} (h:eq a l=some e):∃ l1 l2,l=l1++e::l2∧e.id=a∧eq a l1=none∧(kF l).Perm (kP e++kF (l1++l2)):=by
 induction l with
 | nil => cases h
 | cons x l ih =>
  simp only [eq] at h
  split at h
  ·cases h;exact ⟨[],l,rfl,by assumption,rfl,List.Perm.refl _⟩
  ·rename_i hx
   obtain ⟨l1,l2,rfl,h1,h2,h3⟩:=ih h;refine ⟨x::l1,l2,rfl,h1,by simp only [eq];rw [if_neg hx];exact h2,?_⟩;simp only [kF,aq2];refine (h3.append_left (kP x)).trans ?_;rw [← ap0,← ap0];exact ase.append_right _

section
variable {b:World} {F:List SP} {gs gm:Nat} {w r u:Int} {l:List Kp}
theorem jS:SC Tryz.prog qe [pp gs] b (stB gs gm w r u l F) (fun v F'=>v = .bool false∧F'=stB gs gm w r u l F):=by
 refine ao Tryz.func30 Z Z Z <| anf <| ae Z <| aby ?_
 (iterate 6 refine ae Z ?_)
 refine ba 0 Z Z Z <| apo Z Z Z <| ane <| aj <| bh Z Z (af 0 [] Z) ?_;exact ⟨rfl,rfl⟩
end

section
variable {b:World} {F:List SP} {gs gm:Nat} {w r u:Int} {l:List Kp}
theorem Hw:SC Tryz.prog eI [pp gs] b (stB gs gm w r u l F) (fun v F'=>v=ii w∧F'=stB gs gm w r u l F):=by
 refine ao Tryz.func126 Z Z Z <| anf <| ae Z <| ane <| ac <| anf <| ae Z <| au Z Z Z (jS) <| ane <| ai Z <| ah <| ab <| anf <| apo Z Z Z <| ba 0 Z Z Z <| ae Z <| ane <| aj <| bh Z Z (af 0 [] Z) ?_;exact ⟨rfl,rfl⟩
theorem Zm:SC Tryz.prog gX [pp gs] b (stB gs gm w r u l F) (fun v F'=>v=ii u∧F'=stB gs gm w r u l F):=by
 refine ao Tryz.func60 Z Z Z <| anf <| ae Z <| ane <| ac <| anf <| ae Z <| au Z Z Z (jS) <| ane <| ai Z <| ah <| ab <| anf <| apo Z Z Z <| ba 0 Z Z Z <| ae Z <| ane <| aj <| bh Z Z (af 0 [] Z) ?_;exact ⟨rfl,rfl⟩
def alk (w r:Int):Prop:=¬ w<1∧¬ 32<w∧¬ r<0∧¬ 67108864<r
theorem Fv (h:alk w r):SC Tryz.prog Fa [ii w,ii r] b F (fun v F'=>∃ gs gm,v = .tuple ⟨[pp gs,ii 0]⟩∧F'=stB gs gm w r 0 [] F):=by
 obtain ⟨h1,h2,h3,h4⟩:=h;refine ao Tryz.func8 Z Z Z <| anf <| apn Z Z <| ane <| ac <| anf <| apo Z Z Z <| ni 8 Z (fun h=>(h1 h).elim) (fun h=>apo Z Z Z <| ae Z <| ni 12 Z (fun h=>(h2 h).elim) (fun h=>apo Z Z Z <| ae Z <| ni 16 Z (fun h=>(h3 h).elim) (fun h=>apo Z Z Z <| ane <| cj Z (fun h=>(h4 h).elim) (fun h=>ah <| ab <| anf <| apn Z Z <| qq (fun a:List Int=> .agg ⟨a.map (Value.int .u8)⟩) idOk Z Z Z fun gm=>ae Z <| br Z Z Z Z Z fun gs=>apn Z Z <| ane <| aj <| fb Z Z Z ((af 2 [0,1] Z).trans ((ee (G:= []) (F:=pt gs kt (stC w r 0 gm)::mpB gm []::F)).trans (af 3 [1,2,0] Z))) ?_))));exact ⟨gs,gm,rfl,rfl⟩
theorem sW {a:List Int} {e:Kp} (h:eq a l=some e):∃ l1 l2,l=l1++e::l2∧e.id=a∧eq a l1=none∧(∀ F,Ent (all (kF l)::F) (pt e.g eU [e.v]::rB e.v e.b::all (kF (l1++l2))::F))∧∀ F,Ent (pt e.g eU [e.v]::rB e.v e.b::all (kF (l1++l2))::F) (all (kF l)::F):=by
 obtain ⟨l1,l2,h1,h2,h3,h4⟩:=Hv h;exact ⟨l1,l2,h1,h2,h3,fun F=>xa h4,fun F=>qd h4⟩
theorem sX {id:List Int} (hid:idOk id) (h:eq id l=none) :
  SC Tryz.prog rk [pp gs,idV id] b (stB gs gm w r u l F) (fun v F'=>v = .tuple ⟨[.slice none 0 0,.bool false]⟩∧F'=stB gs gm w r u l F):=by
 refine ao Tryz.func12 Z Z Z <| anf <| br Z Z Z Z Z fun gi=>apn Z Z <| ane <| ac <| anf <| ae Z <| au Z Z Z ((jS (F:=pt gi t_api_ID (u8s id)::F)).at (af 4 [1,2,3,0] Z) (af 4 [3,0,1,2] Z)) <| ane <| ai Z <| ah <| ab <| ac <| cq flo (pt gi t_api_ID (u8s id)::stB gs gm w r u l F) (by decide +kernel) av <| bj Z Zl <| bj Z Zl <| bj Z Zl <| cd 1 Z Z Z Z <| fw 0 Z Z Z Z Z Z (ek hid.1) Z Z ?_
 refine dX 2 aV hid (by rw [yP,h];rfl) Z Z Z Z Z Z Z Z Z ?_
 (iterate 5 refine bj Z Zl ?_)
 refine ap <| ab <| ac <| anf <| apn Z Z <| ane <| ar Z <| anf <| apn Z Z <| ane <| aj <| al <| fb Z Z Z (af 1 [] Z) ?_;exact ⟨rfl,rfl⟩
theorem yd {id:List Int} {e:Kp} (hid:idOk id) (h:eq id l=some e) (hlen:e.b.length≤1000000) :
  SC Tryz.prog rk [pp gs,idV id] b (stB gs gm w r u l F) (fun v F'=>∃ v1,v = .tuple ⟨[v1,.bool true]⟩∧F'=rB v1 e.b::stB gs gm w r u l F):=by
 obtain ⟨l1,l2,h1,h2,h3,h4,h5⟩:=sW (l:=l) h;refine ao Tryz.func12 Z Z Z <| anf <| br Z Z Z Z Z fun gi=>apn Z Z <| ane <| ac <| anf <| ae Z <| au Z Z Z ((jS (F:=pt gi t_api_ID (u8s id)::F)).at (af 4 [1,2,3,0] Z) (af 4 [3,0,1,2] Z)) <| ane <| ai Z <| ah <| ab <| ac <| cq flo (pt gi t_api_ID (u8s id)::stB gs gm w r u l F) (by decide +kernel) av <| bj Z Zl <| bj Z Zl <| bj Z Zl <| cd 1 Z Z Z Z <| fw 0 Z Z Z Z Z Z (ek hid.1) Z Z ?_
 refine kG 2 aV hid (by rw [yP,h];rfl) Z Z Z Z Z Z Z Z Z ?_
 (iterate 5 refine bj Z Zl ?_)
 refine ap <| ab <| ac <| anf <| eg ((af 4 [3,0,1,2] Z:Ent _ (all (kF l)::pt gi t_api_ID (u8s id)::pt gs kt (stC w r u gm)::mpB gm l::F)).trans (h4 _)) <| apn Z Z <| ane <| ai Z <| ah <| ab <| anf <| apo Z Z Z <| ba 0 Z Z Z <| am Z Z Z (SC.ofMade fun w H=>jR (vlB (k:=1) Z w H) (by omega)) ?_;rintro v1 _ rfl;refine eg (td (l:=e.b) 0 Z Z Z Z) <| apn Z Z <| ane <| aj <| fb Z Z Z ((qr (h5 _)).trans (af 5 [0,3,4,1] Z)) ?_;exact ⟨v1,rfl,rfl⟩
end

def fC (a:List Int):List Kp→List Kp
 | [] => []
 | e :: l => if e.id = a then l else e :: fC a l
theorem Zn (a:List Int) (l:List Kp):cU a (kM l)=kM (fC a l):=by
 induction l with
 | nil => rfl
 | cons e l ih =>
  simp only [kM,cU,fC]
  split
  ·rfl
  ·simp only [kM,ih]
theorem Fw {a:List Int} {l1 l2:List Kp} {e:Kp} (h:eq a l1=none) (he:e.id=a):fC a (l1++e::l2)=l1++l2:=by
 induction l1 with
 | nil => simp [fC, he]
 | cons x l ih =>
  simp only [eq] at h
  split at h
  ·cases h
  ·rename_i hx
   simp only [aq2,fC,if_neg hx,ih h]
section
variable {b:World} {F:List SP} {gs gm:Nat} {w r u:Int} {l:List Kp}
theorem wS {id:List Int} {e:Kp} (hid:idOk id) (h:eq id l=some e) (hlen:e.b.length≤1000000) :
  SC Tryz.prog iC [pp gs,idV id] b (stB gs gm w r u l F) (fun v F'=>v = .tuple ⟨[ii e.b.length,.bool true]⟩∧F'=stB gs gm w r u l F):=by
 refine ao Tryz.func131 Z Z Z <| anf <| br Z Z Z Z Z fun gi=>apn Z Z <| aby <| ae Z <| b7 0 Z Z Z Z Z Z (ek hid.1) Z <| am Z Z Z ((yd (F:=pt gi t_api_ID (u8s id)::F) hid h hlen).ent (af 4 [1,2,3,0] Z)) ?_
 rintro _ _ ⟨v1,rfl,rfl⟩;refine b6 (fun w H=>(H.oat (k:=0) Z).form) ?_;rintro ⟨A7,c7,rfl,_,_,_⟩
 (iterate 5 refine ae Z ?_)
 refine aby ?_
 (iterate 5 refine ae Z ?_)
 refine ane <| aj <| fb Z Z Z (af 5 [1,2,3] Z) ?_;exact ⟨rfl,rfl⟩
theorem Ko {id:List Int} {e:Kp} (hid:idOk id) (h:eq id l=some e) (hlen:e.b.length≤1000000) (hu:(e.b.length:Int)≤u) (hu2:u≤67108864) :
  SC Tryz.prog iD [pp gs,idV id] b (stB gs gm w r u l F) (fun v F'=>v = .bool true∧F'=stB gs gm w r (u - e.b.length) (fC id l) F):=by
 obtain ⟨l1,l2,h1,h2,h3,h4,h5⟩:=sW (l:=l) h;have hd:fC id l=l1++l2:=by rw [h1];exact Fw h3 h2
 refine ao Tryz.func132 Z Z Z <| anf <| br Z Z Z Z Z fun gi=>ae Z <| aby <| ae Z <| b7 0 Z Z Z Z Z Z (ek hid.1) Z <| au Z Z Z ((wS (F:=pt gi t_api_ID (u8s id)::F) hid h hlen).at (af 4 [1,2,3,0] Z) (af 4 [3,0,1,2] Z)) ?_
 (iterate 5 refine ae Z ?_)
 refine ane <| ac <| anf <| ae Z <| ane <| ar Z <| anf <| apo Z Z Z <| ba 1 Z Z Z <| ae Z <| ay Z <| apn Z Z <| cg 1 Z Z Z Z <| ane <| cq flo (pt gi t_api_ID (u8s id)::pt gs kt (stC w r (u - e.b.length) gm)::F) (by decide +kernel) (af 4 [0,1] Z) <| bj Z Zl <| bj Z Zl <| bj Z Zl <| cd 1 Z Z Z Z <| fw 0 Z Z Z Z Z Z (ek hid.1) Z Z <| Ew 2 aV hid Z Z Z Z Z Z Z Z (af 4 [0,1] Z) <| ap ?_;rw [Zn,hd];refine ab <| anf <| apn Z Z <| ane <| aj <| bh Z Z (((af 4 [3,1,2] Z:Ent _ (all (kF l)::pt gs kt (stC w r (u - e.b.length) gm)::mpB gm (l1++l2)::F)).trans (h4 _)).trans (af 5 [3,4,2] Z)) ?_;exact ⟨rfl,rfl⟩
end

theorem Zo (x:Int):(Lit.int .u8 x).wf=true↔0≤x∧x<256:=by
 have h1:IntKind.u8.min=0:=by decide
 have h2:IntKind.u8.max=255:=by decide
 simp [Lit.wf,h1,h2];omega
theorem S5 {a:List Int} (h:a.length=32) (hw:jd a):idOk a:=⟨h,fun x hx=>(Zo x).2 (hw x hx)⟩
theorem Kq:∀ {x y:List Int},jd x→jd y→(strOfNums x).data=(strOfNums y).data→x=y:=by
 have key:∀ z:List Int,jd z→(z.map fun n=>UInt8.ofNat n.toNat).map (fun u=>(u.toNat:Int))=z:=fun z hz=>by
  rw [att]
  conv=>rhs;rw [← List.map_id z]
  refine List.map_congr_left fun n hn=> ?_;have:=hz n hn;simp only [Function.comp,id,UInt8.toNat_ofNat'];omega
 intro x y hx hy h;have h1:(strOfNums x).data.toList=(strOfNums y).data.toList:=by rw [h]
 simp only [strOfNums] at h1;rw [← key x hx,← key y hy,h1]
theorem wT {x y:List Int} (hx:jd x) (hy:jd y):decide ((strOfNums x).data=(strOfNums y).data)=decide (x=y):=ash.2 ⟨Kq hx hy,fun h=>by rw [h]⟩
section
variable {b:World} {F:List SP}
theorem yQ {e:Int}:SC Tryz.prog oL [.bool true,ii e] b F (fun v F'=>v=ii e∧F'=F):=by
 refine ao Tryz.func100 Z Z Z <| anf <| ae Z <| ane <| ac <| anf <| ae Z <| ane <| ar Z <| anf <| apn Z Z <| ane <| aj <| al <| bh Z Z (af 0 [] Z) ?_;exact ⟨rfl,rfl⟩
theorem nG {e:Int}:SC Tryz.prog oL [.bool false,ii e] b F (fun v F'=>v=ii 0∧F'=F):=by
 refine ao Tryz.func100 Z Z Z <| anf <| ae Z <| ane <| ac <| anf <| ae Z <| ane <| ai Z <| ah <| ab <| anf <| ae Z <| ane <| aj <| bh Z Z (af 0 [] Z) ?_;exact ⟨rfl,rfl⟩
theorem S6 {va vb:Value} {xs ys:List Int} (ha:∀ w,Sat b F w→VL (Value.int .u8) w va xs) (hb:∀ w,Sat b F w→VL (Value.int .u8) w vb ys) :
  SC Tryz.prog vI [va,vb] b F (fun v F'=>v = .bool (decide ((strOfNums xs).data=(strOfNums ys).data))∧F'=F):=by
 refine ao Tryz.func103 Z Z Z <| anf <| ae Z <| aby <| ae Z <| qZ Z Z Z Z Z Z Z ha <| ae Z <| qZ Z Z Z Z Z Z Z hb <| apn Z Z <| ane <| aj <| bh Z Z (af 0 [] Z) ?_;exact ⟨rfl,rfl⟩

variable {A:SP} {g9 g8 g5 g4 g3 gs gm:Nat} {is:Bool} {old vb:Value} {id xs:List Int} {w r u:Int} {l:List Kp}
abbrev dI (g9 g8 g5 g4 g3:Nat) (is:Bool) (old vb:Value) (id:List Int) (gs gm:Nat) (w r u:Int) (l:List Kp) (F:List SP):List SP :=
 pt g9 zi [.bool is]::pt g8 iT [old]::pt g5 eo [vb]::pt g4 t_api_ID (u8s id)::pt g3 jg [pp gs]::stB gs gm w r u l F
theorem N6 (hb:∀ w,Sat b F w→VL (Value.int .u8) w vb xs) (hlen:xs.length≤1000000) :
  SC Tryz.prog ge [pp g5] b (A::dI g9 g8 g5 g4 g3 is old vb id gs gm w r u l F) (fun v F'=>v=ii (if 4096<xs.length then 4 else 0)∧F'=A::dI g9 g8 g5 g4 g3 is old vb id gs gm w r u l F):=by
 refine ao Tryz.func99 Z Z Z <| bu (fun w H=>(hb w (H.ent (af 9 [] Z))).form) ?_;rintro ⟨bA,bc,rfl,h1,h2,h3,h4⟩;refine anf <| ae Z <| aby <| ba 3 Z Z Z <| apn Z Z ?_;by_cases h:4096<xs.length
 ·refine dR 4 Z <| au Z Z Z (yQ) <| ae Z <| ane <| aj <| bh Z Z (af 0 [] Z) ?_;exact ⟨by rw [if_pos h];rfl,rfl⟩
 ·refine qp 4 Z <| au Z Z Z (nG) <| ae Z <| ane <| aj <| bh Z Z (af 0 [] Z) ?_;exact ⟨by rw [if_neg h];rfl,rfl⟩
theorem N7 (hb:∀ w,Sat b F w→VL (Value.int .u8) w vb xs) (hlen:xs.length≤1000000) (hid:id.length=32) :
  SC Tryz.prog gj [pp g5,pp g3,pp g4] b (A::dI g9 g8 g5 g4 g3 is old vb id gs gm w r u l F)
   (fun v F'=>v=ii (if dq (dt xs) w=id then 0 else 8)∧F'=A::dI g9 g8 g5 g4 g3 is old vb id gs gm w r u l F):=by
 have hcl:=eZ (dt xs) w (yb xs);have hOf:∀ {b:World} {F:List SP},(∀ w,Sat b F w→VL (Value.int .u8) w vb xs)→SC Tryz.prog rR [vb,ii w] b F (fun v F'=>v = .tuple ⟨[idV (dq (dt xs) w),ii (dH w)]⟩∧F'=F):=fun h=>Kk hlen h
 generalize dq (dt xs) w=own at *;generalize dH w=ce at *;refine ao Tryz.func101 Z Z Z <| anf <| ae Z <| ane <| ac ?_;refine cK flo 12 _ (by kernel_rfl) Z av ?_;refine ve (T:=Nat) 10 [6,7,8,10,11] (fun g=> [(0,pp g5),(1,pp g3),(2,pp g4),(4,pp g),(12,.tuple ⟨[idV own,ii ce]⟩)])
  (fun g=>pt g t_api_ID (u8s (List.replicate 32 0))::A::dI g9 g8 g5 g4 g3 is old vb id gs gm w r u l F) (fun _=>True) ?_ (fun J=> ?_)
 rotate_left
 ·refine my (5,[0,1,2,3,4]) [(9,[])] (by kernel_rfl) ⟨dZ 0 5 Z Z Z ?_,fz _ Z av ?_,trivial⟩
  ·refine cd 3 Z Z Z Z <| cd 5 Z Z Z Z <| bj Z Zl <| bj Z Zl <| cd 6 Z Z Z Z <| fe Z Z Z Z (hOf (up hb (af 9 [] Z))) av ?_;refine ap (ip av (p9 9 0 (by kernel_rfl) Z ?_));refine iz Z Z Z Z Z Z av fun g=>ap <| ip (af 1 [] Z) ?_
   exact J g _ _ _ trivial (by kernel_rfl) ⟨rfl,rfl,rfl,rfl,rfl,trivial⟩ av
  ·refine iz Z Z Z Z Z Z av fun g=> ?_;refine ap (ip (af 1 [] Z) (p9 0 5 (by kernel_rfl) Z ?_));refine cd 3 Z Z Z Z <| cd 5 Z Z Z Z <| bj Z Zl <| bj Z Zl <| cd 6 Z Z Z Z <| fe Z Z Z Z (hOf (up hb (af 10 [] Z))) (af 1 [] Z) <| ap <| ip (af 1 [] Z) ?_;exact J g _ _ _ trivial (by kernel_rfl) ⟨rfl,rfl,rfl,rfl,rfl,trivial⟩ av
 intro gg _;refine my (10,[6,7]) [] (by kernel_rfl) ⟨i6 6 2 (L2:= []) Z Z ?_,trivial⟩;refine bj Z Zl <| bj Z Zl <| ap <| pk (af 1 [] Z) <| fz _ Z av ?_;refine yc 0 Z Z Z Z Z Z Z Z (by rw [bz,hcl];rfl) (ec _) (by simp [hcl]) (af 1 [] Z) ?_;refine ap (ip (af 1 [] Z) (kN 8 1 11 1 (by kernel_rfl) (by kernel_rfl) Z ?_));refine bj Z Zl <| ap <| Nm Z (af 1 [] Z) <| bj Z Zl <| ap <| ab <| anf <| b7 0 Z Z Z Z Z Z (ek hcl) Z <| b7 5 Z Z Z Z Z Z (ek hid) Z <| j6 Z (Ek (as00:=own) (bs:=id) Z Z hcl hid) Z ?_;by_cases h:own=id
 ·refine bn 17 (.bool false) Z (by simp [h]) ?_;refine au Z Z Z (nG) <| ae Z <| ane <| aj <| bh Z Z (af 1 [] Z) ?_;exact ⟨by rw [if_pos h];rfl,rfl⟩
 ·refine bn 17 (.bool true) Z (by simp [h]) ?_;refine au Z Z Z (yQ) <| ae Z <| ane <| aj <| bh Z Z (af 1 [] Z) ?_;exact ⟨by rw [if_neg h];rfl,rfl⟩
theorem Zp:SC Tryz.prog fh [pp g9,pp g8,pp g5] b (A::dI g9 g8 g5 g4 g3 false old vb id gs gm w r u l F)
   (fun v F'=>v=ii 0∧F'=A::dI g9 g8 g5 g4 g3 false old vb id gs gm w r u l F):=by
 refine ao Tryz.func102 Z Z Z <| anf <| ae Z <| ane <| ac <| cq flo (A::dI g9 g8 g5 g4 g3 false old vb id gs gm w r u l F) (by decide +kernel) av <| cd 1 Z Z Z Z ?_
 (iterate 6 refine bj Z Zl ?_)
 refine bj Z (.inr Z) <| bj Z Zl <| bj Z Zl <| fe Z Z Z Z (nG) av <| bj Z Zl <| ap <| ab <| aj <| bh Z Z (af 0 [] Z) ?_;exact ⟨rfl,rfl⟩
theorem Zq {e:Kp} (hb:∀ w,Sat b F w→VL (Value.int .u8) w vb xs) (hlen:xs.length≤1000000) (hw:jd xs) (he:eq id l=some e) (hew:jd e.b) :
  SC Tryz.prog fh [pp g9,pp g8,pp g5] b (A::dI g9 g8 g5 g4 g3 true (pp e.g) vb id gs gm w r u l F)
   (fun v F'=>v=ii (if e.b=xs then 0 else 9)∧F'=A::dI g9 g8 g5 g4 g3 true (pp e.g) vb id gs gm w r u l F):=by
 obtain ⟨l1,l2,h1,h2,h3,h4,h5⟩:=sW (l:=l) he;refine ao Tryz.func102 Z Z Z <| anf <| ae Z <| ane <| ac <| qb ((af 9 [8,0,1,2,3,4,5,6,7] Z:Ent _ (all (kF l)::A::pt g9 zi [.bool true]::pt g8 iT [pp e.g]::pt g5 eo [vb]::pt g4 t_api_ID (u8s id)::pt g3 jg [pp gs]::pt gs kt (stC w r u gm)::mpB gm l::F)).trans (h4 _)) <| cq flo _ (by decide +kernel) av <| cd 4 Z Z Z Z <| bj Z Zl <| cd 5 Z Z Z Z <| bj Z Zl <| bj Z Zl <| cd 0 Z Z Z Z <| cd 6 Z Z Z Z <| fe Z Z Z Z (S6 (vlB (k:=1) Z) (up hb (af 11 [] Z))) av <| bj Z Zl <| bj Z Zl ?_;have hdec:=wT hew hw;by_cases h:e.b=xs
 ·refine eu 13 (.bool false) Z (by simp [hdec,h]) ?_;refine fe Z Z Z Z (nG) av <| bj Z Zl <| ap <| ab <| aj <| bh Z Z ((h5 _).trans (af 9 [1,2,3,4,5,6,7,8,0] Z)) ?_;exact ⟨by rw [if_pos h];rfl,rfl⟩
 ·refine eu 13 (.bool true) Z (by simp [hdec,h]) ?_;refine fe Z Z Z Z (yQ) av <| bj Z Zl <| ap <| ab <| aj <| bh Z Z ((h5 _).trans (af 9 [1,2,3,4,5,6,7,8,0] Z)) ?_;exact ⟨by rw [if_neg h];rfl,rfl⟩
theorem Zr:SC Tryz.prog fj [pp g9,pp g3,pp g5] b (A::dI g9 g8 g5 g4 g3 true old vb id gs gm w r u l F)
   (fun v F'=>v=ii 0∧F'=A::dI g9 g8 g5 g4 g3 true old vb id gs gm w r u l F):=by
 refine ao Tryz.func104 Z Z Z <| anf <| ae Z <| ane <| ac <| cq flo (A::dI g9 g8 g5 g4 g3 true old vb id gs gm w r u l F) (by decide +kernel) av <| cd 1 Z Z Z Z ?_
 (iterate 15 refine bj Z Zl ?_)
 refine fe Z Z Z Z (nG) av <| bj Z Zl <| ap <| ab <| aj <| bh Z Z (af 0 [] Z) ?_;exact ⟨rfl,rfl⟩
theorem Zs (hb:∀ w,Sat b F w→VL (Value.int .u8) w vb xs) (hlen:xs.length≤1000000) (hu:0≤u∧u≤67108864) :
  SC Tryz.prog fj [pp g9,pp g3,pp g5] b (A::dI g9 g8 g5 g4 g3 false old vb id gs gm w r u l F)
   (fun v F'=>v=ii (if r<u+xs.length then 10 else 0)∧F'=A::dI g9 g8 g5 g4 g3 false old vb id gs gm w r u l F):=by
 refine ao Tryz.func104 Z Z Z <| bu (fun w H=>(hb w (H.ent (af 9 [] Z))).form) ?_;rintro ⟨bA,bc,rfl,h1,h2,h3,h4⟩;refine anf <| ae Z <| ane <| ac <| cq flo (A::dI g9 g8 g5 g4 g3 false old (.slice bA xs.length bc) id gs gm w r u l F) (by decide +kernel) av <| cd 1 Z Z Z Z <| bj Z Zl <| bj Z Zl <| cd 5 Z Z Z Z <| bj Z Zl <| bj Z Zl <| cd 6 Z Z Z Z <| cd 3 Z Z Z Z <| bj Z Zl <| dx Z Z <| cd 5 Z Z Z Z <| bj Z Zl <| bj Z Zl <| cd 6 Z Z Z Z <| bj Z Zl <| bj Z Zl ?_;by_cases h:r<u+xs.length
 ·refine cJ 19 Z h <| fe Z Z Z Z (yQ) av <| bj Z Zl <| ap <| ab <| aj <| bh Z Z (af 0 [] Z) ?_;exact ⟨by rw [if_pos h];rfl,rfl⟩
 ·refine oF 19 Z h <| fe Z Z Z Z (nG) av <| bj Z Zl <| ap <| ab <| aj <| bh Z Z (af 0 [] Z) ?_;exact ⟨by rw [if_neg h];rfl,rfl⟩
end

theorem Kr {a:List Int} {l:List Kp} (e:Kp) (he:e.id=a) (h:eq a l=none):lq a (pp e.g) (kM l)=kM (l ++ [e]):=by
 induction l with
 | nil => subst he; rfl
 | cons x l ih =>
  simp only [eq] at h
  split at h
  ·cases h
  ·rename_i hx
   simp only [kM,lq,if_neg hx,aq2,ih h]
theorem Zt (l:List Kp) (e:Kp):(kF (l ++ [e])).Perm (kP e++kF l):=by
 have:kF (l ++ [e])=kF l++kP e:=by
  induction l with
  | nil => simp [kF]
  | cons x l ih => simp only [aq2, kF, ih, ap0]
 rw [this];exact ase
section
variable {b:World} {F:List SP} {gs gm:Nat} {w r u:Int} {l:List Kp} {vb:Value} {id xs:List Int}
def kv:Nat→Int
 | 0 => 0
 | 1 => 1
 | 2 => 2
 | 3 => 3
 | _ => 4
def sY (id xs:List Int) (w r u:Int):Int:=if 4096<xs.length then 4 else if dq (dt xs) w=id then (if r<u+xs.length then 10 else 0) else 8
theorem N8 (hb:∀ w,Sat b F w→VL (Value.int .u8) w vb xs) (hlen:xs.length≤1000000) (hid:idOk id) (h:eq id l=none) (hu:0≤u∧u≤67108864) :
  SC Tryz.prog rl [pp gs,idV id,vb] b (stB gs gm w r u l F)
   (fun v F'=>if sY id xs w r u=0 then v = .tuple ⟨[.bool true,ii 0]⟩∧∃ g v1,F'=stB gs gm w r (u+xs.length) (l ++ [⟨id,xs,g,v1⟩]) F else v = .tuple ⟨[.bool false,ii (sY id xs w r u)]⟩∧F'=stB gs gm w r u l F):=by
 refine ao Tryz.func35 Z Z Z <| bu (fun w H=>(hb w (H.ent (af 3 [] Z))).form) ?_;rintro ⟨bA,bc,rfl,f1,f2,f3,f4⟩;refine anf <| br Z Z Z Z Z fun g3=>br Z Z Z Z Z fun g4=>br Z Z Z Z Z fun g5=>apn Z Z <| ane <| ac <| anf <| ba 2 Z Z Z <| au Z Z Z ((jS (F:=pt g5 eo [.slice bA xs.length bc]::pt g4 t_api_ID (u8s id)::pt g3 jg [pp gs]::F)).at (af 6 [3,4,5,0,1,2] Z) (af 6 [3,4,5,0,1,2] Z)) <| ane <| ai Z <| ah <| ab <| ac ?_
 refine cK flo 13 _ (by kernel_rfl) Z av ?_;refine ve (T:=Nat × Nat) 11 [0,1,2,3,4,5,6,7,8,11,12] (fun s=> [(3,pp g3),(4,pp g4),(5,pp g5),(8,pp s.1),(9,pp s.2)])
  (fun s=>dI s.2 s.1 g5 g4 g3 false (.pointer none) (.slice bA xs.length bc) id gs gm w r u l F) (fun _=>True) ?_ (fun J=> ?_)
 rotate_left
 ·refine my (9,[]) [(10,[])] (by kernel_rfl) ⟨fz _ Z av ?_,fz _ Z av ?_,trivial⟩
  ·refine iz Z Z Z Z Z Z av fun g8=> ?_;refine ap (ip (af 1 [] Z) (p9 10 0 (by kernel_rfl) Z ?_));refine iz Z Z Z Z Z Z (af 1 [] Z) fun g9=>ap <| ip (af 2 [] Z) ?_
   exact J (g8,g9) _ _ _ trivial (by kernel_rfl) ⟨rfl,rfl,rfl,rfl,rfl,trivial⟩ av
  ·refine iz Z Z Z Z Z Z av fun g9=> ?_;refine ap (ip (af 1 [] Z) (p9 9 0 (by kernel_rfl) Z ?_));refine iz Z Z Z Z Z Z (af 1 [] Z) fun g8=>ap <| ip (af 2 [] Z) ?_
   exact J (g8,g9) _ _ _ trivial (by kernel_rfl) ⟨rfl,rfl,rfl,rfl,rfl,trivial⟩ (af 2 [1,0] Z)
 rintro ⟨g8,g9⟩ _;dsimp only;refine my (11,[0,1,2,3,4,5,6,7]) [] (by kernel_rfl) ⟨i6 0 8 (L2:= []) Z Z ?_,trivial⟩;refine cd 2 Z Z Z Z <| bj Z Zl <| bj Z Zl <| cd 3 Z Z Z Z <| fw 1 Z Z Z Z Z Z (ek hid.1) Z Z ?_;refine dX 4 aV hid (by rw [yP,h];rfl) Z Z Z Z Z Z Z Z Z ?_;refine bj Z Zl <| bj Z Zl <| ap <| pk (af 2 [] Z) <| fz _ Z av <| xw 1 Z Z Z Z Z Z Z Z Z Z Z (af 2 [] Z) ?_;refine ap (ip (af 2 [] Z) (my (12,[8]) [] (by kernel_rfl) ⟨i6 8 1 (L2:= []) Z Z ?_,trivial⟩));refine bj Z Zl <| ap <| pk (af 2 [] Z) <| fz _ Z av <| xw 0 Z Z Z Z Z Z Z Z Z Z Z (af 2 [] Z) ?_;refine ap (ip (af 2 [] Z) (jG 0 0 (by kernel_rfl) (by kernel_rfl) Z (ap ?_)));refine ab <| ac <| anf <| apo Z Z Z <| ae Z ?_;refine lp [.func (.func ge) ⟨[]⟩ ⟨[pp g5]⟩,.func (.func gj) ⟨[]⟩ ⟨[pp g5,pp g3,pp g4]⟩,
  .func (.func fh) ⟨[]⟩ ⟨[pp g9,pp g8,pp g5]⟩,.func (.func fj) ⟨[]⟩ ⟨[pp g9,pp g3,pp g5]⟩] Z Z Z Z Z Z Z Z Z fun gl=> ?_
 refine apn Z Z <| ane <| ak ?_;have p1:=N6 (b:=b) (F:=F) (A:=pt gl k6 [.func (.func ge) ⟨[]⟩ ⟨[pp g5]⟩,.func (.func gj) ⟨[]⟩ ⟨[pp g5,pp g3,pp g4]⟩,
  .func (.func fh) ⟨[]⟩ ⟨[pp g9,pp g8,pp g5]⟩,.func (.func fj) ⟨[]⟩ ⟨[pp g9,pp g3,pp g5]⟩])
  (g9:=g9) (g8:=g8) (g5:=g5) (g4:=g4) (g3:=g3) (is:=false) (old:= .pointer none) (gs:=gs) (gm:=gm) (w:=w) (r:=r) (u:=u) (l:=l) (id:=id) hb hlen
 have p2:=N7 (b:=b) (F:=F) (A:=pt gl k6 [.func (.func ge) ⟨[]⟩ ⟨[pp g5]⟩,.func (.func gj) ⟨[]⟩ ⟨[pp g5,pp g3,pp g4]⟩,
  .func (.func fh) ⟨[]⟩ ⟨[pp g9,pp g8,pp g5]⟩,.func (.func fj) ⟨[]⟩ ⟨[pp g9,pp g3,pp g5]⟩])
  (g9:=g9) (g8:=g8) (g5:=g5) (g4:=g4) (g3:=g3) (is:=false) (old:= .pointer none) (gs:=gs) (gm:=gm) (w:=w) (r:=r) (u:=u) (l:=l) hb hlen hid.1
 have p4:=Zs (b:=b) (F:=F) (A:=pt gl k6 [.func (.func ge) ⟨[]⟩ ⟨[pp g5]⟩,.func (.func gj) ⟨[]⟩ ⟨[pp g5,pp g3,pp g4]⟩,
  .func (.func fh) ⟨[]⟩ ⟨[pp g9,pp g8,pp g5]⟩,.func (.func fj) ⟨[]⟩ ⟨[pp g9,pp g3,pp g5]⟩])
  (g9:=g9) (g8:=g8) (g5:=g5) (g4:=g4) (g3:=g3) (old:= .pointer none) (gs:=gs) (gm:=gm) (w:=w) (r:=r) (u:=u) (l:=l) (id:=id) hb hlen hu
 generalize hown:dq (dt xs) w=own at p2;have hE:sY id xs w r u=if 4096<xs.length then 4 else if own=id then (if r<u+xs.length then 10 else 0) else 8:=by rw [sY,hown]
 generalize sY id xs w r u=pe at hE ⊢;refine d6 (S:=Nat) (fun k=> [(3,pp g3),(4,pp g4),(5,pp g5),(8,pp g8),(9,pp g9),(28,.slice (some ⟨gl,0,none⟩) 4 4),(29,ii 4),(30,ii (kv k))]) (fun _=>_)
  (fun k=>k≤4∧(1≤k→¬ 4096<xs.length)∧(2≤k→own=id)∧(4≤k→¬ r<u+xs.length)) (fun k=>4 - k) 0 av ⟨by omega,by omega,by omega,by omega⟩ ?_
 rintro k ⟨hk,i1,i2,i4⟩
 match k,hk with
 | 0, _ =>
  have hk0:kv 0=0:=rfl;refine anf <| ae Z <| ane <| ac <| ar Z <| ah <| ab <| ac <| ak <| anf <| ay Z <| ba 0 Z Z Z <| ae Z <| aby <| ae Z ?_;by_cases h:4096<xs.length
  ·rw [if_pos h] at p1 hE;refine au Z Z Z (p1) <| ae Z <| aby <| apn Z Z <| ane <| ar Z <| anf <| apo Z Z Z <| ane <| aj <| az <| al <| du <| az <| al <| fb Z Z Z (af 6 [] Z) ?_;rw [hE,if_neg (by decide)];exact ⟨rfl,rfl⟩
  ·rw [if_neg h] at p1;refine au Z Z Z (p1) <| ae Z <| aby <| apn Z Z <| ane <| ai Z <| ah <| bg <| ab <| aa <| ay Z <| ae Z <| ad ?_;refine dj 1 av ⟨by omega,fun _=>h,by omega,by omega⟩
 | 1, _ =>
  have hk1:kv 1=1:=rfl;refine anf <| ae Z <| ane <| ac <| ar Z <| ah <| ab <| ac <| ak <| anf <| ay Z <| ba 0 Z Z Z <| ae Z <| aby <| ae Z ?_;rw [if_neg (i1 (by omega))] at hE;by_cases h:own=id
  ·rw [if_pos h] at p2;refine au Z Z Z (p2) <| ae Z <| aby <| apn Z Z <| ane <| ai Z <| ah <| bg <| ab <| aa <| ay Z <| ae Z <| ad ?_;refine dj 2 av ⟨by omega,fun _=>i1 (by omega),fun _=>h,by omega⟩
  ·rw [if_neg h] at p2 hE;refine au Z Z Z (p2) <| ae Z <| aby <| apn Z Z <| ane <| ar Z <| anf <| apo Z Z Z <| ane <| aj <| az <| al <| du <| az <| al <| fb Z Z Z (af 6 [] Z) ?_;rw [hE,if_neg (by decide)];exact ⟨rfl,rfl⟩
 | 2, _ =>
  have hk2:kv 2=2:=rfl;refine anf <| ae Z <| ane <| ac <| ar Z <| ah <| ab <| ac <| ak <| anf <| ay Z <| ba 0 Z Z Z <| ae Z <| aby <| ae Z <| au Z Z Z (Zp) <| ae Z <| aby <| apn Z Z <| ane <| ai Z <| ah <| bg <| ab <| aa <| ay Z <| ae Z <| ad ?_;refine dj 3 av ⟨by omega,fun _=>i1 (by omega),fun _=>i2 (by omega),by omega⟩
 | 3, _ =>
  have hk3:kv 3=3:=rfl;refine anf <| ae Z <| ane <| ac <| ar Z <| ah <| ab <| ac <| ak <| anf <| ay Z <| ba 0 Z Z Z <| ae Z <| aby <| ae Z ?_;rw [if_neg (i1 (by omega)),if_pos (i2 (by omega))] at hE;by_cases h:r<u+xs.length
  ·rw [if_pos h] at p4 hE;refine au Z Z Z (p4) <| ae Z <| aby <| apn Z Z <| ane <| ar Z <| anf <| apo Z Z Z <| ane <| aj <| az <| al <| du <| az <| al <| fb Z Z Z (af 6 [] Z) ?_;rw [hE,if_neg (by decide)];exact ⟨rfl,rfl⟩
  ·rw [if_neg h] at p4;refine au Z Z Z (p4) <| ae Z <| aby <| apn Z Z <| ane <| ai Z <| ah <| bg <| ab <| aa <| ay Z <| ae Z <| ad ?_;refine dj 4 av ⟨by omega,fun _=>i1 (by omega),fun _=>i2 (by omega),fun _=>h⟩
 | 4, _ =>
  rw [if_neg (i1 (by omega)),if_pos (i2 (by omega)),if_neg (i4 (by omega))] at hE;clear p1 p2 p4;have hk4:kv 4=4:=rfl;refine anf <| ae Z <| ane <| ac <| ai Z <| b8 <| aw <| ax <| aq <| ab <| ac <| anf <| ba 1 Z Z Z <| ane <| ai Z <| ah <| ab <| ac <| cq flo (pt g5 eo [.slice bA xs.length bc]::pt g4 t_api_ID (u8s id)::pt g3 jg [pp gs]::pt gs kt (stC w r u gm)::F) (by decide +kernel) (af 9 [3,4,5,6] Z) <| cd 2 Z Z Z Z <| bj Z Zl <| bj Z Zl <| cd 3 Z Z Z Z <| fw 1 Z Z Z Z Z Z (ek hid.1) Z Z <| cd 0 Z Z Z Z <| dh Z Z Z Z (SC.ofMade fun w H=>jR (hb w (H.ent (af 9 [] Z))) (by omega)) fun v1 F1 hF1=> ?_;subst hF1;refine ⟨af 10 [4,5,6,7] rfl,(lh (fun w H=>(H.oat (k:=0) Z).form) ?_)⟩;rintro ⟨A7,c7,rfl,_,_,_⟩;refine bj Z Zl <| El Z Z Z Z Z Z (af 10 [4,5,6,7] Z) fun gk=>rH 9 aV hid Z Z Z Z Z Z Z Z Z (af 11 [5,6,7,8] Z) <| ap ?_
  rw [Kr ⟨id,xs,gk,.slice A7 xs.length c7⟩ Z h];refine ab <| ac <| ij flo 9 (pt g5 eo [.slice bA xs.length bc]::pt g3 jg [pp gs]::pt gs kt (stC w r u gm)::F) [] Z (by decide +kernel) (af 11 [5,7,8] Z) <| cd 1 Z Z Z Z <| bj Z Zl <| bj Z Zl <| cd 2 Z Z Z Z <| cd 0 Z Z Z Z <| bj Z Zl <| dx Z Z <| bj Z Zl <| bj Z Zl <| ap <| ik Z (dc _) <| xw 8 Z Z Z Z Z Z Z Z Z Z Z (dc _) <| ap <| ab <| anf <| apn Z Z <| ane <| aj <| fb Z Z Z (((td (l:=xs) 1 Z Z Z Z).trans (af 11 [0,1,10,8,9] Z)).trans ((qd (Zt l ⟨id,xs,gk,.slice A7 xs.length c7⟩)).trans (af 3 [1,2,0] Z))) ?_;rw [if_pos hE];exact ⟨rfl,gk,.slice A7 xs.length c7,rfl⟩
end

section
variable {b:World} {F:List SP} {gs gm:Nat} {w r u:Int} {l:List Kp} {vb:Value} {id xs:List Int}
def wU (id xs:List Int) (e:Kp) (w:Int):Int:=if 4096<xs.length then 4 else if dq (dt xs) w=id then (if e.b=xs then 0 else 9) else 8
theorem N9 {e:Kp} (hb:∀ w,Sat b F w→VL (Value.int .u8) w vb xs) (hlen:xs.length≤1000000) (hid:idOk id) (h:eq id l=some e) (hw:jd xs) (hew:jd e.b) :
  SC Tryz.prog rl [pp gs,idV id,vb] b (stB gs gm w r u l F) (fun v F'=>v = .tuple ⟨[.bool false,ii (wU id xs e w)]⟩∧F'=stB gs gm w r u l F):=by
 refine ao Tryz.func35 Z Z Z <| bu (fun w H=>(hb w (H.ent (af 3 [] Z))).form) ?_;rintro ⟨bA,bc,rfl,f1,f2,f3,f4⟩;refine anf <| br Z Z Z Z Z fun g3=>br Z Z Z Z Z fun g4=>br Z Z Z Z Z fun g5=>apn Z Z <| ane <| ac <| anf <| ba 2 Z Z Z <| au Z Z Z ((jS (F:=pt g5 eo [.slice bA xs.length bc]::pt g4 t_api_ID (u8s id)::pt g3 jg [pp gs]::F)).at (af 6 [3,4,5,0,1,2] Z) (af 6 [3,4,5,0,1,2] Z)) <| ane <| ai Z <| ah <| ab <| ac ?_
 refine cK flo 13 _ (by kernel_rfl) Z av ?_;refine ve (T:=Nat × Nat) 11 [0,1,2,3,4,5,6,7,8,11,12] (fun s=> [(3,pp g3),(4,pp g4),(5,pp g5),(8,pp s.1),(9,pp s.2)])
  (fun s=>dI s.2 s.1 g5 g4 g3 false (.pointer none) (.slice bA xs.length bc) id gs gm w r u l F) (fun _=>True) ?_ (fun J=> ?_)
 rotate_left
 ·refine my (9,[]) [(10,[])] (by kernel_rfl) ⟨fz _ Z av ?_,fz _ Z av ?_,trivial⟩
  ·refine iz Z Z Z Z Z Z av fun g8=> ?_;refine ap (ip (af 1 [] Z) (p9 10 0 (by kernel_rfl) Z ?_));refine iz Z Z Z Z Z Z (af 1 [] Z) fun g9=>ap <| ip (af 2 [] Z) ?_
   exact J (g8,g9) _ _ _ trivial (by kernel_rfl) ⟨rfl,rfl,rfl,rfl,rfl,trivial⟩ av
  ·refine iz Z Z Z Z Z Z av fun g9=> ?_;refine ap (ip (af 1 [] Z) (p9 9 0 (by kernel_rfl) Z ?_));refine iz Z Z Z Z Z Z (af 1 [] Z) fun g8=>ap <| ip (af 2 [] Z) ?_
   exact J (g8,g9) _ _ _ trivial (by kernel_rfl) ⟨rfl,rfl,rfl,rfl,rfl,trivial⟩ (af 2 [1,0] Z)
 rintro ⟨g8,g9⟩ _;dsimp only;refine my (11,[0,1,2,3,4,5,6,7]) [] (by kernel_rfl) ⟨i6 0 8 (L2:= []) Z Z ?_,trivial⟩;refine cd 2 Z Z Z Z <| bj Z Zl <| bj Z Zl <| cd 3 Z Z Z Z <| fw 1 Z Z Z Z Z Z (ek hid.1) Z Z ?_;refine kG 4 aV hid (by rw [yP,h];rfl) Z Z Z Z Z Z Z Z Z ?_;refine bj Z Zl <| bj Z Zl <| ap <| pk (af 2 [] Z) <| fz _ Z av <| xw 1 Z Z Z Z Z Z Z Z Z Z Z (af 2 [] Z) ?_;refine ap (ip (af 2 [] Z) (my (12,[8]) [] (by kernel_rfl) ⟨i6 8 1 (L2:= []) Z Z ?_,trivial⟩));refine bj Z Zl <| ap <| pk (af 2 [] Z) <| fz _ Z av <| xw 0 Z Z Z Z Z Z Z Z Z Z Z (af 2 [] Z) ?_;refine ap (ip (af 2 [] Z) (jG 0 0 (by kernel_rfl) (by kernel_rfl) Z (ap ?_)));refine ab <| ac <| anf <| apo Z Z Z <| ae Z ?_;refine lp [.func (.func ge) ⟨[]⟩ ⟨[pp g5]⟩,.func (.func gj) ⟨[]⟩ ⟨[pp g5,pp g3,pp g4]⟩,
  .func (.func fh) ⟨[]⟩ ⟨[pp g9,pp g8,pp g5]⟩,.func (.func fj) ⟨[]⟩ ⟨[pp g9,pp g3,pp g5]⟩] Z Z Z Z Z Z Z Z Z fun gl=> ?_
 refine apn Z Z <| ane <| ak ?_;have p1:=N6 (b:=b) (F:=F) (A:=pt gl k6 [.func (.func ge) ⟨[]⟩ ⟨[pp g5]⟩,.func (.func gj) ⟨[]⟩ ⟨[pp g5,pp g3,pp g4]⟩,
  .func (.func fh) ⟨[]⟩ ⟨[pp g9,pp g8,pp g5]⟩,.func (.func fj) ⟨[]⟩ ⟨[pp g9,pp g3,pp g5]⟩])
  (g9:=g9) (g8:=g8) (g5:=g5) (g4:=g4) (g3:=g3) (is:=true) (old:=pp e.g) (gs:=gs) (gm:=gm) (w:=w) (r:=r) (u:=u) (l:=l) (id:=id) hb hlen
 have p2:=N7 (b:=b) (F:=F) (A:=pt gl k6 [.func (.func ge) ⟨[]⟩ ⟨[pp g5]⟩,.func (.func gj) ⟨[]⟩ ⟨[pp g5,pp g3,pp g4]⟩,
  .func (.func fh) ⟨[]⟩ ⟨[pp g9,pp g8,pp g5]⟩,.func (.func fj) ⟨[]⟩ ⟨[pp g9,pp g3,pp g5]⟩])
  (g9:=g9) (g8:=g8) (g5:=g5) (g4:=g4) (g3:=g3) (is:=true) (old:=pp e.g) (gs:=gs) (gm:=gm) (w:=w) (r:=r) (u:=u) (l:=l) hb hlen hid.1
 have p3:=Zq (b:=b) (F:=F) (A:=pt gl k6 [.func (.func ge) ⟨[]⟩ ⟨[pp g5]⟩,.func (.func gj) ⟨[]⟩ ⟨[pp g5,pp g3,pp g4]⟩,
  .func (.func fh) ⟨[]⟩ ⟨[pp g9,pp g8,pp g5]⟩,.func (.func fj) ⟨[]⟩ ⟨[pp g9,pp g3,pp g5]⟩])
  (g9:=g9) (g8:=g8) (g5:=g5) (g4:=g4) (g3:=g3) (gs:=gs) (gm:=gm) (w:=w) (r:=r) (u:=u) (l:=l) (id:=id) hb hlen hw h hew
 generalize hown:dq (dt xs) w=own at p2;have hE:wU id xs e w=if 4096<xs.length then 4 else if own=id then (if e.b=xs then 0 else 9) else 8:=by rw [wU,hown]
 generalize wU id xs e w=pe at hE ⊢;refine d6 (S:=Nat) (fun k=> [(3,pp g3),(4,pp g4),(5,pp g5),(8,pp g8),(9,pp g9),(28,.slice (some ⟨gl,0,none⟩) 4 4),(29,ii 4),(30,ii (kv k))]) (fun _=>_)
  (fun k=>k≤4∧(1≤k→¬ 4096<xs.length)∧(2≤k→own=id)∧(3≤k→e.b=xs)) (fun k=>4 - k) 0 av ⟨by omega,by omega,by omega,by omega⟩ ?_
 rintro k ⟨hk,i1,i2,i3⟩
 match k,hk with
 | 0, _ =>
  have hk0:kv 0=0:=rfl;refine anf <| ae Z <| ane <| ac <| ar Z <| ah <| ab <| ac <| ak <| anf <| ay Z <| ba 0 Z Z Z <| ae Z <| aby <| ae Z ?_;by_cases h:4096<xs.length
  ·rw [if_pos h] at p1 hE;refine au Z Z Z (p1) <| ae Z <| aby <| apn Z Z <| ane <| ar Z <| anf <| apo Z Z Z <| ane <| aj <| az <| al <| du <| az <| al <| fb Z Z Z (af 6 [] Z) ?_;rw [hE];exact ⟨rfl,rfl⟩
  ·rw [if_neg h] at p1;refine au Z Z Z (p1) <| ae Z <| aby <| apn Z Z <| ane <| ai Z <| ah <| bg <| ab <| aa <| ay Z <| ae Z <| ad ?_;refine dj 1 av ⟨by omega,fun _=>h,by omega,by omega⟩
 | 1, _ =>
  have hk1:kv 1=1:=rfl;refine anf <| ae Z <| ane <| ac <| ar Z <| ah <| ab <| ac <| ak <| anf <| ay Z <| ba 0 Z Z Z <| ae Z <| aby <| ae Z ?_;rw [if_neg (i1 (by omega))] at hE;by_cases h:own=id
  ·rw [if_pos h] at p2;refine au Z Z Z (p2) <| ae Z <| aby <| apn Z Z <| ane <| ai Z <| ah <| bg <| ab <| aa <| ay Z <| ae Z <| ad ?_;refine dj 2 av ⟨by omega,fun _=>i1 (by omega),fun _=>h,by omega⟩
  ·rw [if_neg h] at p2 hE;refine au Z Z Z (p2) <| ae Z <| aby <| apn Z Z <| ane <| ar Z <| anf <| apo Z Z Z <| ane <| aj <| az <| al <| du <| az <| al <| fb Z Z Z (af 6 [] Z) ?_;rw [hE];exact ⟨rfl,rfl⟩
 | 2, _ =>
  have hk2:kv 2=2:=rfl;refine anf <| ae Z <| ane <| ac <| ar Z <| ah <| ab <| ac <| ak <| anf <| ay Z <| ba 0 Z Z Z <| ae Z <| aby <| ae Z ?_;rw [if_neg (i1 (by omega)),if_pos (i2 (by omega))] at hE;by_cases h:e.b=xs
  ·rw [if_pos h] at p3;refine au Z Z Z (p3) <| ae Z <| aby <| apn Z Z <| ane <| ai Z <| ah <| bg <| ab <| aa <| ay Z <| ae Z <| ad ?_;refine dj 3 av ⟨by omega,fun _=>i1 (by omega),fun _=>i2 (by omega),fun _=>h⟩
  ·rw [if_neg h] at p3 hE;refine au Z Z Z (p3) <| ae Z <| aby <| apn Z Z <| ane <| ar Z <| anf <| apo Z Z Z <| ane <| aj <| az <| al <| du <| az <| al <| fb Z Z Z (af 6 [] Z) ?_;rw [hE];exact ⟨rfl,rfl⟩
 | 3, _ =>
  have hk3:kv 3=3:=rfl;refine anf <| ae Z <| ane <| ac <| ar Z <| ah <| ab <| ac <| ak <| anf <| ay Z <| ba 0 Z Z Z <| ae Z <| aby <| ae Z <| au Z Z Z (Zr) <| ae Z <| aby <| apn Z Z <| ane <| ai Z <| ah <| bg <| ab <| aa <| ay Z <| ae Z <| ad ?_;refine dj 4 av ⟨by omega,fun _=>i1 (by omega),fun _=>i2 (by omega),fun _=>i3 (by omega)⟩
 | 4, _ =>
  rw [if_neg (i1 (by omega)),if_pos (i2 (by omega)),if_pos (i3 (by omega))] at hE;clear p1 p2 p3;have hk4:kv 4=4:=rfl;refine anf <| ae Z <| ane <| ac <| ai Z <| b8 <| aw <| ax <| aq <| ab <| ac <| anf <| ba 1 Z Z Z <| ane <| ar Z <| anf <| apn Z Z <| ane <| aj <| al <| fb Z Z Z (af 6 [] Z) ?_;rw [hE];exact ⟨rfl,rfl⟩
end

def q6:List (List Int)→List Value
 | [] => []
 | a :: l => u8s a ++ q6 l
def nj (l:List (List Int)):Prop:=∀ a∈l,a.length=32
theorem sZ {l:List (List Int)} (h:nj l):(q6 l).length=l.length*32:=by
 induction l with
 | nil => rfl
 | cons a l ih => simp only [q6, aps, bz, h a (by simp), ih (fun x hx => h x (by simp [hx])), ap3]; omega
theorem fD {l:List (List Int)} (h:nj l) {i:Nat} (hi:i<l.length):((q6 l).drop (i*32)).take 32=u8s (l.getD i []):=by
 induction l generalizing i with
 | nil => simp at hi
 | cons a l ih =>
  have ha:=h a (by simp);have hl:nj l:=fun x hx=>h x (by simp [hx])
  cases i with
  | zero =>
   simp only [q6,atu,atb,List.getD_cons_zero];rw [aru (by rw [bz,ha];omega),aqh (by rw [bz,ha];omega)]
  | succ i =>
   simp only [q6,List.getD_cons_succ];rw [show (i+1)*32=(u8s a).length+i*32 by rw [bz,ha];omega,List.drop_append,aq0 (by omega),arb];rw [show (u8s a).length+i*32 - (u8s a).length=i*32 by omega];exact ih hl (by simpa using hi)
abbrev rI (A:Option Addr) (c:Nat) (l:List (List Int)):SP:=row t_api_ID 32 (.slice A l.length c) l.length (q6 l)
section
variable {b:World} {F:List SP} {A:Option Addr} {c:Nat} {l:List (List Int)}
theorem Zu:SC Tryz.prog n_blob_digests_Len [.slice A l.length c] b F (fun v F'=>v=ii l.length∧F'=F):=by
 refine ao Tryz.func124 Z Z Z <| anf <| ae Z <| aby <| apo Z Z Z <| ane <| aj <| bh Z Z (af 0 [] Z) ?_;exact ⟨rfl,rfl⟩
theorem lE {i j:Nat} (hl:nj l) (hi:i<l.length) (hj:j<l.length) :
  SC Tryz.prog n_blob_digests_Less [.slice A l.length c,ii i,ii j] b (rI A c l::F) (fun v F'=>v = .bool (decide (lD (l.getD i []) (l.getD j [])<0))∧F'=rI A c l::F):=by
 have hxi:(l.getD i []).length=32:=by rw [aqf,apv hi];exact hl _ (apw hi)
 have hxj:(l.getD j []).length=32:=by rw [aqf,apv hj];exact hl _ (apw hj)
 have si:=fD hl hi;have sj:=fD hl hj;generalize l.getD i []=x at *;generalize l.getD j []=y at *;refine ao Tryz.func354 Z Z Z <| bu (fun w H=>(H.oat (k:=0) Z).form) ?_;rintro ⟨A',c',hv,k1,k2,k3⟩;cases hv;obtain ⟨gg,oo,rfl⟩:=k3 (by omega);refine anf <| ae Z <| ane <| ac <| cq flo (rI (some ⟨gg,oo,none⟩) c l::F) (by decide +kernel) av <| bj Z Zl <| bj Z Zl <| dx Z Z ?_;refine su 0 (i*32) Z Z Z Z Z Z Z Z (by rw [b5,apu]) (by omega) si (by rw [bz,hxi];rfl) ?_;refine bj Z Zl <| bj Z Zl <| dx Z Z ?_;refine su 0 (j*32) Z Z Z Z Z Z Z Z (by rw [b5,apu]) (by omega) sj (by rw [bz,hxj];rfl) ?_
 skip
 refine fe Z Z Z Z (wR hxi hxj) av <| bj Z Zl <| bj Z Zl <| ap <| ab <| aj <| bh Z Z (af 0 [] Z) ?_;exact ⟨rfl,rfl⟩
theorem Cb {l:List (List Int)} (h:nj l) {i:Nat} {x:List Int} (hx:x.length=32) (hi:i<l.length):spl (q6 l) (i*32) (u8s x)=q6 (l.set i x):=by
 induction l generalizing i with
 | nil => simp at hi
 | cons a l ih =>
  have ha:=h a (by simp);have hl:nj l:=fun x hx=>h x (by simp [hx])
  cases i with
  | zero =>
   simp only [q6,spl,atu,ar1,arb,aqy,List.set_cons_zero];congr 1;rw [bz,hx,show 32=(u8s a).length by rw [bz,ha]];exact List.drop_left
  | succ i =>
   have:=ih hl (i:=i) (by simpa using hi);simp only [spl] at this;simp only [q6,List.set_cons_succ,← this,spl];rw [show (i+1)*32=(u8s a).length+i*32 by rw [bz,ha];omega,atr,aqh (by omega),List.drop_append,aq0 (l:=u8s a) (by omega)];rw [show (u8s a).length+i*32 - (u8s a).length=i*32 by omega,show (u8s a).length+i*32+(u8s x).length - (u8s a).length=i*32+(u8s x).length by omega];simp
def oq (l:List (List Int)) (i j:Nat):List (List Int):=(l.set i (l.getD j [])).set j (l.getD i [])
theorem gI {l:List (List Int)} (h:nj l) {x:List Int} (hx:x.length=32) (i:Nat):nj (l.set i x):=fun a ha=>by
 rcases asc ha with h' | rfl
 ·exact h a h'
 ·exact hx
theorem aW {l:List (List Int)} (h:nj l) {i:Nat} (hi:i<l.length):(l.getD i []).length=32:=by rw [aqf,apv hi];exact h _ (apw hi)
abbrev rN (A:Option Addr) (c n:Nat) (l:List (List Int)):SP:=row t_api_ID 32 (.slice A n c) n (q6 l)
theorem lF {i j n:Nat} (hl:nj l) (hn:l.length=n) (hi:i<n) (hj:j<n) :
  SC Tryz.prog n_blob_digests_Swap [.slice A n c,ii i,ii j] b (rN A c n l::F) (fun _ F'=>F'=rN A c n (oq l i j)::F):=by
 have hxi:=aW hl (hn▸hi);have hxj:=aW hl (hn▸hj);have si:=fD hl (hn▸hi);have sj:=fD hl (hn▸hj);have hsw:oq l i j=(l.set i (l.getD j [])).set j (l.getD i []):=rfl;have l1:=Cb hl hxj (hn▸hi);have l2:=Cb (gI hl hxj i) hxi (i:=j) (by simp;omega);have e1:=sZ hl;have e2:=sZ (gI hl hxj i);rw [asw] at e2;rw [hsw];generalize l.getD i []=x at *;generalize l.getD j []=y at *;have hij:i*32+32≤l.length*32∧j*32+32≤l.length*32:=by omega
 refine ao Tryz.func357 Z Z Z <| bu (fun w H=>(H.oat (k:=0) Z).form) ?_;rintro ⟨A',c',hv,k1,k2,k3⟩;cases hv;obtain ⟨gg,oo,rfl⟩:=k3 (by omega);refine cK flo 16 _ (by kernel_rfl) Z av ?_;refine my (13,[0,1,4,5,6,7,8,9,10,11,12]) [] (by kernel_rfl) ⟨i6 0 2 (L2:= [4,5,6,7,8,9,10,11,12]) Z Z ?_,trivial⟩;refine bj Z Zl <| bj Z Zl <| ap (pk av (i6 4 9 (L2:= []) Z Z (bj Z Zl <| bj Z Zl <| dx Z Z ?_)));refine su 0 (j*32) Z Z Z Z Z Z Z Z (by rw [b5,apu]) (by omega) sj (by rw [bz,hxj];rfl) ?_;refine bj Z Zl <| bj Z Zl <| dx Z Z ?_;refine su 0 (i*32) Z Z Z Z Z Z Z Z (by rw [b5,apu]) (by omega) si (by rw [bz,hxi];rfl) ?_;refine dx Z Z <| ap <| pk av <| fz [] Z (dc _) ?_;refine vp 0 (i*32) Z Z Z Z Z Z Z Z Z l1 (by rw [bz,hxj];rfl) (by rw [b5,apu]) (by rw [bz,hxj];omega) (ec _) (dc _) ?_;refine ap <| ip (dc _) ?_;refine my (15,[2,3,14]) [] (by kernel_rfl) ⟨i6 2 2 (L2:= [14]) Z Z ?_,trivial⟩;refine bj Z Zl <| bj Z Zl <| ap <| pk (dc _) <| dZ 14 1 Z Z Z <| dx Z Z ?_;refine vp 0 (j*32) Z Z Z Z Z Z Z Z Z l2 (by rw [bz,hxi];rfl) (by rw [b5,apu]) (by rw [bz,hxi];omega) (ec _) (dc _) ?_;refine ap (ip (dc _) (jG 16 0 (by kernel_rfl) Z Z ?_));refine ap <| io Z .nil (af 0 [] Z) ?_;exact Z
end

theorem S7 : Tryz.prog.underlying t_api_Dot = some (.struct ⟨[⟨ "R", fp, 0, false, "", "", 0⟩, ⟨ "N", fp, 1, false, "", "", 8⟩]⟩) := by kernel_rfl
theorem Xj:MK Tryz.prog t_api_Dot (fun p:Int × Int=>qn p.1 p.2) (fun p=>(Lit.int .i64 p.1).wf=true∧(Lit.int .i64 p.2).wf=true) where
 law:= .of (deep_law (m:=2) (by omega) (by kernel_rfl) (by kernel_rfl) (by rw [S7]))
 of:=fun p hp=>by
  have hkt:Tryz.prog.keyType t_api_Dot=true:=by kernel_rfl
  have hsz:Tryz.prog.cellsOf t_api_Dot=2:=by kernel_rfl
  have hci:Tryz.prog.cellsOf fp=1:=by kernel_rfl
  have hui:Tryz.prog.underlying fp=some (.int .i64):=by kernel_rfl
  obtain ⟨m,hm⟩:∃ m,Tryz.prog.types.size=m+1:=⟨_,(by kernel_rfl:Tryz.prog.types.size=(Tryz.prog.types.size - 1)+1)⟩;unfold keyOf;simp only [S7];rw [if_pos (by simp [hkt,Value.formed,S7,hsz,qn]),hm];unfold Program.keyLits;simp only [S7,Value.cells,qn];rw [if_pos (by simp [hsz])];simp [hci,Program.keyLits,hui,hp.1,hp.2]
 inj:=fun a c _ _ h=>by
  simp only [qn,Value.agg.injEq,Array.mk.injEq,asa,Value.int.injEq,true_and,atx] at h;exact Prod.ext h.1 h.2

structure Ev where
 r:Int
 n:Int
 dv:Value
 deps:List Int
 kind:Int
 repo:ByteArray
 tag:ByteArray
 id:List Int
 rv:Value
 refs:List (List Int)
structure Wn where
 g:Nat
 e:Ev
 src:Int
def evC (e:Ev):List Value:=ii e.r::ii e.n::e.dv::ii e.kind :: .string e.repo :: .string e.tag::(u8s e.id ++ [e.rv])
abbrev evV (e:Ev):Value:= .agg ⟨evC e⟩
abbrev Cc (l:List Int):List Value:=l.map (Value.int .i64)
abbrev rZ (v:Value) (l:List Int):SP:=row fp 1 v l.length (Cc l)
abbrev rD (v:Value) (l:List (List Int)):SP:=row t_api_ID 32 v l.length (q6 l)
abbrev lG (p:Int × Int):Prop:=(Lit.int .i64 p.1).wf=true∧(Lit.int .i64 p.2).wf=true
abbrev Zv (p:Int × Int):Value:=qn p.1 p.2
section
variable {b:World} {F:List SP} {gq gm:Nat} {v h:Value} {V:List Int} {R H:List Wn}
end

theorem vlZ {b:World} {F:List SP} {v:Value} {l:List Int} {k:Nat} (hk:nth F k=some (rZ v l)):∀ w,Sat b F w→VL (Value.int .i64) w v l:=fun w H=>by
 have:=(H.oat hk).sl;exact this
section
variable {b:World} {F:List SP} {va:Value}
theorem Fx {xs:List Int} (ha:∀ w,Sat b F w→VL (Value.int .i64) w va xs) (hn:xs.length≤1000000):SC Tryz.prog yn [va] b F (fun v F'=>F'=rZ v xs::F):=by
 refine ao Tryz.func150 Z Z Z <| bu (fun w H=>(ha w H).form) ?_;rintro ⟨A,c,rfl,h1,h2,h3,h4⟩;cases A with
 | none =>
  have hc:=h3 Z;have hx:xs = []:=ark.1 (by omega);subst hx;refine anf <| ae Z <| ane <| ac <| anf <| apn Z Z <| ane <| ar Z <| anf <| ae Z <| ane <| aj <| al <| bh Z Z (de fp 1 Z) ?_
  rfl
 | some a =>
  refine anf <| ae Z <| ane <| ac <| anf <| apn Z Z <| ane <| ai Z <| ah <| ab <| anf <| lp [] Z Z Z Z Z Z Z Z Z fun g0=>eg (kx (n:=0) (sz:=1) Z Z (by decide) 0 Z Z) <| ae Z <| ef 0 Z Z Z Z Z Z Z Z Z (up ha (af 1 [] Z)) Nv (by omega) (fun _=>rfl) fun v6=>ae Z <| ane <| aj <| bh Z Z av ?_
  show row fp 1 v6 _ _::F=rZ v6 xs::F;simp [rZ,Cc]
def tA (V:List Int):Prop:=∀ x∈V,0≤x∧x≤1048576
instance (V:List Int):Decidable (tA V):=by unfold tA;infer_instance
end

theorem qA {e:Ev} (h:e.id.length=32):(evC e).length=39:=by simp [evC,h]
theorem ci {w:World} {sz n:Nat} {v:Value} {cs:List Value} (h:SL w sz v n cs):∃ A c,v = .slice A n c∧n≤c∧c≤9223372036854775807∧(A=none→c=0)∧(0<n→∃ bk off,A=some ⟨bk,off,none⟩)∧cs.length=n*sz:=by
 obtain ⟨A,c,h1,h2,h3,h4,h5,h6⟩:=h;exact ⟨A,c,h1,h3,h4,h5,fun hp=>by obtain ⟨bk,off,hA,_⟩:=h6 hp;exact ⟨bk,off,hA⟩,h2⟩
section
variable {b:World} {F:List SP} {va:Value}
end

def Ev.own (e:Ev) (dv rv:Value):Ev:= {e with dv:=dv,rv:=rv}
section
variable {b:World} {F:List SP}
end
end Go.Proofs.YtbfailbgdnpaiaaGreatDoor
namespace Go.Heap

class HOrd (α:Type) where
 lt:α→α→Bool
 d:α
class HLaw (α:Type) [HOrd α]:Prop where
 asym:∀ x y:α,HOrd.lt x y=true→¬ HOrd.lt y x=true
 trans:∀ x y z:α,¬ HOrd.lt y x=true→¬ HOrd.lt z y=true→¬ HOrd.lt z x=true
def leG {α:Type} [HOrd α] (x y:α):Prop:=¬ HOrd.lt y x=true
abbrev atG {α:Type} [HOrd α] (l:List α) (i:Nat):α:=l.getD i HOrd.d
def hpG {α:Type} [HOrd α] (n:Nat) (l:List α):Prop:=∀ i,0<i→i<n→leG (atG l ((i - 1) / 2)) (atG l i)
end Go.Heap
namespace Go.Proofs.YtbfailbgdnpaiaaGreatDoor
open Go.Eng Go.RowKit Go.WideMaps Go.Heap

abbrev ltE (a c:Ev):Bool:=Nx a.r a.n a.deps c.r c.n c.deps
instance:HOrd Wn:=⟨fun a c=>ltE a.e c.e,⟨0,⟨0,0,.slice none 0 0,[],0,⟨#[]⟩,⟨#[]⟩,[],.slice none 0 0,[]⟩,0⟩⟩
theorem Xk (a c:Wn):HOrd.lt a c=ltE a.e c.e:=rfl
instance:HLaw Wn where
 asym:=fun x y h1 h2=>by
  rw [Xk,ltE,Nx,ar6] at h1 h2;omega
 trans:=fun x y z h1 h2 h3=>by
  rw [Xk,ltE,Nx,ar6] at h1 h2 h3;omega
section
variable {b:World} {F:List SP} {k:Nat} {H:List Wn} {e:Wn}
end
section
variable {b:World} {F:List SP}
variable {A:Option Addr} {c n:Nat} {R H:List Wn}
end

section
variable {b:World} {F:List SP} {A:Option Addr} {c n:Nat} {R H:List Wn}
end

section
variable {b:World} {F:List SP} {A:Option Addr} {c n gh t0 off:Nat} {R:List Wn} {cs:Value→List Value} {x:Wn}
end

theorem tB (l:List (List Int)) (x:List Int):q6 l++u8s x=q6 (l ++ [x]):=by
 induction l with
 | nil => simp [q6]
 | cons a l ih => simp only [q6, aq2, ap0, ih]
section
variable {b:World} {F:List SP} {A:Option Addr} {c n gh:Nat} {l:List (List Int)} {x:List Int}
theorem S8 (hx:x.length=32) (hn:n≤1000000) :
  SC Tryz.prog n_p_blob_digests_Push [pp gh,.iface t_api_ID (idV x)] b (pt gh cz [.slice A n c]::rN A c n l::F)
   (fun _ F'=>∃ A' c',F'=pt gh cz [.slice A' (n+1) c']::rN A' c' (n+1) (l ++ [x])::F):=by
 refine ao Tryz.func356 Z Z Z <| ij flo 9 (pt gh cz [.slice A n c]::F) [] Z (by decide +kernel) (af 2 [0] Z) <| bj Z Zl <| bj Z Zl <| bj Z Zl <| cd 0 Z Z Z Z <| bj Z Zl <| ab2 Z Z Z Z Z Z Z ?_;refine yr Z Z Z Z Z Z Z Z (by rw [bz,hx];rfl) (by decide) (af 2 [0] Z) fun gl=> ?_;refine xh 2 Z Z Z Z Z Z Z Z Z Z (m:=1) (news:=u8s x) (fun w H=>(H.blk (k:=0) Z).sl (by rw [bz,hx]) (by decide)) (ec _) (by omega) (fun _=>rfl) (fun _=>af 3 [1] Z) fun v8=> ?_;rw [tB];refine lh (fun w H=>(H.oat (k:=2) Z).form) ?_;rintro ⟨A7,c7,rfl,_,_,_⟩;refine bj Z Zl <| ap <| ik Z (dc _) <| xw 1 Z Z Z Z Z Z Z Z Z Z Z (dc _) <| ap <| io Z .nil (af 3 [1,2] Z) ?_;exact ⟨A7,c7,rfl⟩
theorem Zw {l0:List (List Int)} (hl:nj l0) (hx:x.length=32) :
  SC Tryz.prog n_p_blob_digests_Pop [pp gh] b (pt gh cz [.slice A (l0.length+1) c]::rN A c (l0.length+1) (l0 ++ [x])::F)
   (fun v F'=>v = .iface t_api_ID (idV x)∧F'=pt gh cz [.slice A l0.length c]::rN A c l0.length l0::F):=by
 have hl':nj (l0 ++ [x]):=fun a ha=>by
  rcases ap6.1 ha with h | h
  ·exact hl a h
  ·simp at h;subst h;exact hx
 have sx:=fD hl' (i:=l0.length) (by simp);have hg:(l0 ++ [x]).getD l0.length []=x:=by simp
 rw [hg] at sx;have hN:(((l0.length+1:Nat):Int) - 1).toNat=l0.length:=by omega
 refine ao Tryz.func355 Z Z Z <| bu (fun w H=>(H.oat (k:=1) Z).form) ?_;rintro ⟨A',c',hv,k1,k2,k3⟩;cases hv;obtain ⟨gg,oo,rfl⟩:=k3 (by omega);refine anf <| ae Z <| ane <| ac <| cq flo (pt gh cz [.slice (some ⟨gg,oo,none⟩) (l0.length+1) c]::rN (some ⟨gg,oo,none⟩) c (l0.length+1) (l0 ++ [x])::F) (by decide +kernel) av <| bj Z Zl <| bj Z Zl <| cd 0 Z Z Z Z <| bj Z Zl <| bj Z Zl <| cd 0 Z Z Z Z <| bj Z Zl <| dx Z Z <| dx Z Z ?_;refine su 1 (l0.length*32) Z Z Z Z Z Z Z Z (by rw [b5,hN]) (by omega) sx (by rw [bz,hx];rfl) ?_;refine iz Z Z Z Z Z Z (af 0 [] Z) fun g3=> ?_;refine yc 0 Z Z Z Z Z Z Z Z (by rw [bz,hx];rfl) (ec _) (by simp [hx]) (af 1 [] Z) ?_;refine ap <| ab <| ac <| ij flo 11 (pt gh cz [.slice (some ⟨gg,oo,none⟩) (l0.length+1) c]::F) [] Z (by decide +kernel) (af 3 [1] Z) <| bj Z Zl <| bj Z Zl <| bj Z Zl <| cd 0 Z Z Z Z <| bj Z Zl <| bj Z Zl <| cd 0 Z Z Z Z <| bj Z Zl <| dx Z Z <| dx Z Z <| bj Z Zl ?_;refine eu 23 (.slice (some ⟨gg,oo,none⟩) l0.length c) Z (by first | rfl | (rw [hN];rfl) | (simp [hN];done)) ?_
 skip
 refine ap <| ik Z (dc _) <| xw 1 Z Z Z Z Z Z Z Z Z Z Z (dc _) <| ap <| ab <| anf <| b7 0 Z Z Z Z Z Z (ek hx) Z <| apn Z Z <| ane <| aj ?_;have e1:(q6 (l0 ++ [x])).take (l0.length*32)=q6 l0:=by rw [← tB,← sZ hl,aty]
 refine bh Z Z ((wz (j:=l0.length) (by omega) 2 Z Z).trans (af 3 [1,2] Z)) ?_;rw [e1];exact ⟨rfl,rfl⟩
end

instance : MethP Tryz.prog il "Push" n_p_blob_digests_Push := ⟨by kernel_rfl, inferInstance⟩
instance : MethP Tryz.prog il "Pop" n_p_blob_digests_Pop := ⟨by kernel_rfl, inferInstance⟩
instance : MethV Tryz.prog il "Len" n_blob_digests_Len := ⟨by kernel_rfl, inferInstance⟩
instance : MethV Tryz.prog il "Less" n_blob_digests_Less := ⟨by kernel_rfl, inferInstance⟩
instance : MethV Tryz.prog il "Swap" n_blob_digests_Swap := ⟨by kernel_rfl, inferInstance⟩
end Go.Proofs.YtbfailbgdnpaiaaGreatDoor
