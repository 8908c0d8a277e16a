/- Uploads, part nine: Write. Conditions: none. -/
import Derived.Test.YtbfailbgdnpaiaaGreatDoorX10
import Derived.Test.YtbfailbgdnpaiaaGreatDoorX3
import Derived.Test.YtbfailbgdnpaiaaGreatDoorX8
import Derived.Test.YtbfailbgdnpaiaaGreatDoorX6
import Derived.Test.YtbfailbgdnpaiaaGreatDoorX5
import Derived.Test.YtbfailbgdnpaiaaGreatDoorX9
set_option maxRecDepth 20000
set_option maxHeartbeats 8000000
namespace Go.Proofs.YtbfailbgdnpaiaaGreatDoor
open Go Go.Eng Go.RowKit

section
variable {b:World} {F:List SP} {va:Value}
theorem Jf {xs:List Int} (ha:∀ w,Sat b F w→VL (Value.int .u8) w va xs) (hn:xs.length≤1000000):SC Tryz.prog oj [va] b F (fun v F'=>F'=rB v xs::F):=by
 refine ao Tryz.func91 Z Z Z <| bu (fun w H=>(ha w H).form) ?_;rintro ⟨A,c,rfl,h1,h2,h3,h4⟩;cases A with
 | none =>
  have hc:=h3 Z;have hx:xs = []:=ark.1 (by omega);subst hx;refine anf <| ae Z <| ane <| ac <| anf <| apn Z Z <| ane <| ar Z <| anf <| ae Z <| ane <| aj <| al <| bh Z Z (de im 1 Z) ?_
  rfl
 | some a =>
  refine anf <| ae Z <| ane <| ac <| anf <| apn Z Z <| ane <| ai Z <| ah <| ab <| anf <| lp [] Z Z Z Z Z Z Z Z Z fun g0=>eg (kx (n:=0) (sz:=1) Z Z (by decide) 0 Z Z) <| ae Z <| ef 0 Z Z Z Z Z Z Z Z Z (up ha (af 1 [] Z)) (ec _) (by omega) (fun _=>rfl) fun v6=>ae Z <| ane <| aj <| bh Z Z av ?_
  show row im 1 v6 _ _::F=rB v6 xs::F;simp [rB]
theorem Vd (a c:List (Value × List Int)):psF (a++c)=psF a++psF c:=by
 induction a with
 | nil => rfl
 | cons u a ih => simp only [aq2, psF, ih]
theorem Qg {l:List (Value × List Int)} {v:Value} {xs:List Int}:(psF (l ++ [(v,xs)])).Perm ([rB v xs]++psF l):=by
 rw [Vd];exact ase
abbrev wrF (gf gs gb gz:Nat) (f:Int) (u:Nat) (vb:Value) (z:Int) (F:List SP):List SP:=pt gf ja [ii f]::pt gs d5 [pp u]::pt gb eo [vb]::pt gz fp [ii z]::F
theorem Gt {gf gs gb gz:Nat} {u:Us} {z:Int} {vb:Value} {xs:List Int} (hb:∀ w,Sat b F w→VL (Value.int .u8) w vb xs) (h1:u.b.length+xs.length≤4096) (h2:u.ps.length<100000) :
  SCD Tryz.prog pa [pp gf,pp gs,pp gb,pp gz] b (wrF gf gs gb gz 0 u.g vb z (usP u++F))
   (fun _ F'=>∃ v pv',F'=wrF gf gs gb gz 0 u.g vb (u.b.length+xs.length) (usP ⟨u.g,u.n,u.r,pv',u.ps ++ [(v,xs)]⟩++F)):=by
 refine Hn Tryz.func95 Z Z Z <| bu (fun w H=>(hb w (H.ent (af 7 [] Z))).form) ?_;rintro ⟨bA,bc,rfl,b1,b2,b3,b4⟩;refine ac <| anf <| ba 0 Z Z Z <| ae Z <| ane <| ar Z <| ac <| ij flo 11 (pt gs d5 [pp u.g]::pt gb eo [.slice bA xs.length bc]::pt u.g p6 (usC u)::F) [] Z (by decide +kernel) (af 7 [1,2,4] Z) <| cd 0 Z Z Z Z <| cd 0 Z Z Z Z <| bj Z Zl <| bj Z Zl <| cd 2 Z Z Z Z <| cd 1 Z Z Z Z <| dh Z Z Z Z (Jf (up hb (af 7 [] Z)) (by omega)) ?_;rintro v F' rfl;refine ⟨af 8 [2,3,5] rfl,(lh (fun w H=>(H.oat (k:=0) Z).form) ?_)⟩;rintro ⟨A7,c7,rfl,_,_,_⟩;refine xT [.slice A7 xs.length c7] Z Z Z Z Z Z Z Z Z Z (af 8 [2,3,5] Z) fun gl=> ?_;refine xh 7 Z Z Z Z Z Z Z Z Z Z (m:=1) (news:= [.slice A7 xs.length c7]) (fun w H=>(H.blk (k:=0) Z).sl Z (by decide)) (by simp [Value.oneCell']) (by omega) (fun _=>rfl) (fun _=>af 9 [3,4,6] Z) fun v8=> ?_;refine lh (fun w H=>(H.oat (k:=7) Z).form) ?_;rintro ⟨A8,c8,rfl,_,_,_⟩;refine bj Z Zl <| bj Z Zl <| ap <| ik Z (dc _) <| xw 6 Z Z Z Z Z Z Z Z Z Z Z (dc _) <| ap <| ab <| ij flo 9 (pt gs d5 [pp u.g]::pt gb eo [.slice bA xs.length bc]::pt u.g p6 [ii u.n,ii u.b.length,.string u.r,.slice A8 (u.ps.length+1) c8]::F) [] Z (by decide +kernel) (af 9 [3,4,6] Z) <| cd 0 Z Z Z Z <| bj Z Zl <| bj Z Zl <| cd 2 Z Z Z Z <| cd 1 Z Z Z Z <| bj Z Zl <| dx Z Z <| bj Z Zl <| bj Z Zl <| ap <| ik Z (dc _) <| xw 6 Z Z Z Z Z Z Z Z Z Z Z (dc _) <| ap <| ab <| aa <| ba 3 Z Z Z <| apn Z Z <| ba 6 Z Z Z <| cg 5 Z Z Z Z <| ad ?_;obtain ⟨u',hu'⟩:∃ u':Us,u'=⟨u.g,u.n,u.r,.slice A8 (u.ps.length+1) c8,u.ps ++ [(.slice A7 xs.length c7,xs)]⟩:=⟨_,rfl⟩;have hrow:row eo 1 (.slice A8 (u.ps.length+1) c8) (u.ps.length+1) (u.ps.map (·.1) ++ [.slice A7 xs.length c7])=rPU u'.pv u'.ps:=by rw [hu'];simp [rPU]
 have hbl:u'.b.length=u.b.length+xs.length:=by rw [hu'];simp [Us.b]
 have hus : [ii u.n,ii ((u.b.length:Int)+(xs.length:Int)),.string u.r,.slice A8 (u.ps.length+1) c8]=usC u':=by rw [usC,hbl,hu'];simp
 have hg:u.g=u'.g:=by rw [hu']
 rw [hrow,hus];have hsn:(psF u'.ps).Perm ([rB (.slice A7 xs.length c7) xs]++psF u.ps):=by rw [hu'];exact Qg
 refine io Z .nil ((af 9 [1,8,2,3,4,5,6,7] Z).trans ((qd (A:=psF u'.ps) (B:= [rB (.slice A7 xs.length c7) xs]) (C:=psF u.ps) hsn).trans (af 7 [1,2,3,4,5,6,0] Z))) <| ⟨.slice A7 xs.length c7,.slice A8 (u.ps.length+1) c8,?_⟩;rw [← hu',hg];rfl
end

section
variable {b:World} {F:List SP} {va:Value}
theorem oW {gf gs gb gz:Nat} {u:Us} {z f:Int} {vb:Value} (hf:f≠0) :
  SCD Tryz.prog pa [pp gf,pp gs,pp gb,pp gz] b (wrF gf gs gb gz f u.g vb z (usP u++F))
   (fun _ F'=>F'=wrF gf gs gb gz f u.g vb u.b.length (usP u++F)):=by
 refine Hn Tryz.func95 Z Z Z <| ac <| anf <| ba 0 Z Z Z <| ae Z <| ane <| cj Z (fun h=>absurd h hf) (fun _=>ah <| ab <| aa <| ba 1 Z Z Z <| apn Z Z <| ba 4 Z Z Z <| cg 3 Z Z Z Z <| ad <| io Z .nil av ?_)
 rfl
abbrev w1F (gb gz goff:Nat) (vb:Value) (z off:Int) (F:List SP):List SP:=pt gb eo [vb]::pt gz fp [ii z]::pt goff fp [ii off]::F
theorem Qh {gb gz goff:Nat} {i z off:Int} {u:Us} {vb:Value} {xs:List Int} (hb:∀ w,Sat b F w→VL (Value.int .u8) w vb xs) (hxl:xs.length≤1000000) (hu:u.b.length≤4096) (h2:u.ps.length<100000) :
  SC Tryz.prog qt [ii i,pp u.g,pp gb,pp gz,pp goff] b (w1F gb gz goff vb z off (usP u++F))
   (fun v F'=>if off≠u.b.length then v=ii 13∧F'=w1F gb gz goff vb u.b.length off (usP u++F)
    else if (4096:Int)<u.b.length+xs.length then v=ii 4∧F'=w1F gb gz goff vb u.b.length off (usP u++F)
    else v=ii 0∧∃ w pv',F'=w1F gb gz goff vb (u.b.length+xs.length) off (usP ⟨u.g,u.n,u.r,pv',u.ps ++ [(w,xs)]⟩++F)):=by
 refine yt Tryz.func94 Z Z Z <| bu (fun w H=>(hb w (H.ent (af 6 [] Z))).form) ?_;rintro ⟨bA,bc,rfl,b1,b2,b3,b4⟩;refine anf <| br Z Z Z Z Z fun g6=> ?_
 skip
 refine bq Z Z Z Z Z fun g7=>aby <| ae Z <| wG Z Z <| ane <| ac <| ak <| ac <| cq flo _ (by decide +kernel) av <| cd 4 Z Z Z Z <| cd 1 Z Z Z Z <| bj Z Zl <| bj Z Zl <| cd 5 Z Z Z Z <| bj Z Zl <| bj Z Zl <| ap <| ab ?_
 refine jC Z (fun h=> ?_) (fun h=> ?_)
 ·refine anf <| cg 0 Z Z Z Z <| ane <| aj <| az <| al <| xX Z ((oW (gf:=g7) (gs:=g6) (gb:=gb) (gz:=gz) (u:=u) (z:=z) (f:=13) (F:=pt goff fp [ii off]::F) (vb:= .slice bA xs.length bc) (by decide)).ent (af 8 [0,1,2,3,5,6,7,4] Z)) ?_;rintro v F' rfl;refine ⟨_,_,.cell 0 Z Z Z Z Z .nil,af 8 [2,3,7,4,5,6] rfl,?_⟩;rw [if_pos h];exact ⟨rfl,rfl⟩
 ·have h':¬ off≠(u.b.length:Int):=by simpa using h
  refine ac <| cq flo _ (by decide +kernel) av <| cd 1 Z Z Z Z <| bj Z Zl <| bj Z Zl <| cd 5 Z Z Z Z <| cd 2 Z Z Z Z <| bj Z Zl <| dx Z Z <| bj Z Zl <| bj Z Zl <| ap <| ab ?_;refine cj Z (fun h4=> ?_) (fun h4=> ?_)
  ·refine anf <| cg 0 Z Z Z Z <| ane <| aj <| az <| al <| xX Z ((oW (gf:=g7) (gs:=g6) (gb:=gb) (gz:=gz) (u:=u) (z:=z) (f:=4) (F:=pt goff fp [ii off]::F) (vb:= .slice bA xs.length bc) (by decide)).ent (af 8 [0,1,2,3,5,6,7,4] Z)) ?_;rintro v F' rfl;refine ⟨_,_,.cell 0 Z Z Z Z Z .nil,af 8 [2,3,7,4,5,6] rfl,?_⟩;rw [if_neg h',if_pos h4];exact ⟨rfl,rfl⟩
  ·refine ah <| bg <| ab <| anf <| cg 0 Z Z Z Z <| ane <| aj <| xX Z ((Gt (gf:=g7) (gs:=g6) (gb:=gb) (gz:=gz) (u:=u) (z:=z) (xs:=xs) (F:=pt goff fp [ii off]::F) (vb:= .slice bA xs.length bc) (up hb (af 1 [] Z)) (by omega) h2).ent (af 8 [0,1,2,3,5,6,7,4] Z)) ?_;rintro v F' ⟨w',pv',rfl⟩;refine ⟨_,_,.cell 0 Z Z Z Z Z .nil,af 8 [2,3,7,4,5,6] rfl,?_⟩;rw [if_neg h',if_neg h4];exact ⟨rfl,w',pv',rfl⟩
end

structure abe (u u':Us) (xs:List Int):Prop where
 g:u'.g=u.g
 n:u'.n=u.n
 r:u'.r=u.r
 b:u'.b=u.b++xs
 ps:u'.ps.length=u.ps.length+1
theorem Ve {L:List Us} {i:Nat} {u':Us} (hi:i<L.length) (hg:u'.g=L[i].g):usK (L.set i u')=usK L:=by
 simp only [usK,List.map_set,hg];apply atn;intro j;rw [List.getElem?_set]
 split
 ·rename_i e;subst e;simp [hi]
 ·rfl
theorem Vf {L:List Us} {i:Nat} {u':Us} (hi:i<L.length):(usF (L.set i u')).Perm (usP u'++usF (L.eraseIdx i)):=by
 rw [List.set_eq_take_append_cons_drop,if_pos hi,as6];exact zH
section
variable {b:World} {F:List SP} {g:Nat} {w nx:Int} {A:Option Addr} {c n:Nat} {L:List Us}
theorem Lt {gb gz goff i:Nat} {z off:Int} {vb:Value} {xs:List Int} (hb:∀ w,Sat b F w→VL (Value.int .u8) w vb xs) (hxl:xs.length≤1000000) (hi:i<L.length) (ho:L[i].b.length≤4096) (h2:L[i].ps.length<100000) :
  SC Tryz.prog qt [ii i,pp (L[i].g),pp gb,pp gz,pp goff] b (tbU g w nx A c n L (w1F gb gz goff vb z off F))
   (fun v F'=>if off≠L[i].b.length then v=ii 13∧F'=tbU g w nx A c n L (w1F gb gz goff vb L[i].b.length off F)
    else if (4096:Int)<L[i].b.length+xs.length then v=ii 4∧F'=tbU g w nx A c n L (w1F gb gz goff vb L[i].b.length off F)
    else v=ii 0∧∃ u',abe L[i] u' xs∧F'=tbU g w nx A c n (L.set i u') (w1F gb gz goff vb (L[i].b.length+xs.length) off F)):=by
 refine ((Qh (F:=all (usF (L.eraseIdx i))::pt g jo [ii w,ii nx,.slice A n c]::usR A c n L::F) (up hb (af 3 [] Z)) hxl ho h2).ent ((af 6 [2,0,1,3,4,5] Z).trans ((xa (B:=usP L[i]) (bH hi)).trans (af 9 [6,7,8,0,1,2,3,4,5] Z)))).out ?_;intro v F' hR;have back:∀ {z':Int},Ent (w1F gb gz goff vb z' off (usP L[i]++(all (usF (L.eraseIdx i))::pt g jo [ii w,ii nx,.slice A n c]::usR A c n L::F))) (tbU g w nx A c n L (w1F gb gz goff vb z' off F)):=fun {z'} =>
  (af 9 [3,4,5,6,0,1,2,7,8] Z).trans ((qd (A:=usF L) (B:=usP L[i]) (bH hi)).trans (af 6 [4,5,0,1,2,3] Z))
 by_cases h:off≠(L[i].b.length:Int)
 ·rw [if_pos h] at hR;obtain ⟨rfl,rfl⟩:=hR;exact ⟨_,back,by rw [if_pos h];exact ⟨rfl,rfl⟩⟩
 rw [if_neg h] at hR;by_cases h4:(4096:Int)<L[i].b.length+xs.length
 ·rw [if_pos h4] at hR;obtain ⟨rfl,rfl⟩:=hR;exact ⟨_,back,by rw [if_neg h,if_pos h4];exact ⟨rfl,rfl⟩⟩
 rw [if_neg h4] at hR;obtain ⟨rfl,w',pv',rfl⟩:=hR;obtain ⟨u',hu'⟩:∃ u':Us,u'=⟨L[i].g,L[i].n,L[i].r,pv',L[i].ps ++ [(w',xs)]⟩:=⟨_,rfl⟩;have hg:abe L[i] u' xs:=by
  rw [hu'];exact ⟨rfl,rfl,rfl,by simp [Us.b],by simp⟩
 rw [← hu'];refine ⟨tbU g w nx A c n (L.set i u') (w1F gb gz goff vb (L[i].b.length+xs.length) off F),?_,by rw [if_neg h,if_neg h4];exact ⟨rfl,u',hg,rfl⟩⟩;have hk:=Ve hi hg.g;refine ((af 9 [3,4,5,6,0,1,2,7,8] Z).trans ((qd (A:=usF (L.set i u')) (B:=usP u') (Vf hi)).trans (af 6 [4,5,0,1,2,3] Z))).trans ?_;show Ent (pt g jo _::row d5 1 (.slice A n c) n (usK L)::_) (pt g jo _::row d5 1 (.slice A n c) n (usK (L.set i u'))::_);rw [hk];exact Ent.refl _
theorem Gu {x off:Int} {vb:Value} {xs:List Int} {i:Nat} (hb:∀ w,Sat b F w→VL (Value.int .u8) w vb xs) (hxl:xs.length≤1000000) (hw:w≠0) (hn:L.length=n) (h8:n≤1000) (hs:L.Pairwise (fun a c=>a.n<c.n)) (hi:i<L.length) (hx:L[i].n=x) (ho:L[i].b.length≤4096) (h2:L[i].ps.length<100000) :
  SC Tryz.prog bP [pp g,ii x,ii off,vb] b (tbU g w nx A c n L F)
   (fun v F'=>if off≠L[i].b.length then v = .tuple ⟨[ii L[i].b.length,ii 13]⟩∧F'=tbU g w nx A c n L F
    else if (4096:Int)<L[i].b.length+xs.length then v = .tuple ⟨[ii L[i].b.length,ii 4]⟩∧F'=tbU g w nx A c n L F
    else v = .tuple ⟨[ii (L[i].b.length+xs.length),ii 0]⟩∧∃ u',abe L[i] u' xs∧F'=tbU g w nx A c n (L.set i u') F):=by
 refine ao Tryz.func33 Z Z Z <| bu (fun w H=>(hb w (H.ent (af 3 [] Z))).form) ?_;rintro ⟨bA,bc,rfl,b1,b2,b3,b4⟩;refine anf <| br Z Z Z Z Z fun g6=> ?_
 skip
 refine br Z Z Z Z Z fun g7=> ?_
 skip
 refine bq Z Z Z Z Z fun g8=>ae Z <| aby <| apo Z Z Z <| am Z Z Z ((Dh hw hn h8 hs hi hx (Lt (gb:=g7) (gz:=g8) (goff:=g6) hb hxl hi ho h2)).ent (af 6 [3,4,5,1,0,2] Z)) ?_
 intro v F' hR;by_cases h:off≠(L[i].b.length:Int)
 ·rw [if_pos h] at hR;obtain ⟨rfl,rfl⟩:=hR;refine ae Z <| aby <| ba 4 Z Z Z <| ae Z <| cg 4 Z Z Z Z <| ae Z <| ane <| aj <| ez Z (.cell 4 Z Z Z Z Z (.tmp Z .nil)) (af 6 [0,1,2] Z) ?_;rw [if_pos h];exact ⟨rfl,rfl⟩
 rw [if_neg h] at hR;by_cases h4:(4096:Int)<L[i].b.length+xs.length
 ·rw [if_pos h4] at hR;obtain ⟨rfl,rfl⟩:=hR;refine ae Z <| aby <| ba 4 Z Z Z <| ae Z <| cg 4 Z Z Z Z <| ae Z <| ane <| aj <| ez Z (.cell 4 Z Z Z Z Z (.tmp Z .nil)) (af 6 [0,1,2] Z) ?_;rw [if_neg h,if_pos h4];exact ⟨rfl,rfl⟩
 rw [if_neg h4] at hR;obtain ⟨rfl,u',hg,rfl⟩:=hR;refine ae Z <| aby <| ba 4 Z Z Z <| ae Z <| cg 4 Z Z Z Z <| ae Z <| ane <| aj <| ez Z (.cell 4 Z Z Z Z Z (.tmp Z .nil)) (af 6 [0,1,2] Z) ?_;rw [if_neg h,if_neg h4];exact ⟨rfl,u',hg,rfl⟩
end

instance:EqT Tryz.prog t_api_Fault:=⟨by kernel_rfl⟩
set_option maxRecDepth 100000 in
theorem zI (a b c d:Int) (w:World):(Op.equalIn 10000 t_api_Fault (ftV (a,b)) (ftV (c,d))).run Tryz.prog w = .ok (decide (a=c∧b=d)) w:=by
 have hS:Tryz.prog.underlying t_api_Fault=some (.struct (Tryz.prog.fieldsOf t_api_Fault)):=by kernel_rfl
 have hp:Tryz.prog.stoodInHeld t_api_Fault=false:=by kernel_rfl
 have hf : ∃ f g : Field, (Tryz.prog.fieldsOf t_api_Fault).toList = [f, g] ∧ f.name ≠ "_" ∧ g.name ≠ "_" ∧ f.type = ja ∧ g.type = fp ∧ f.offset = 0 ∧ g.offset = 1 :=
  ⟨_,_,rfl,by decide,by decide,rfl,rfl,rfl,rfl⟩
 obtain ⟨f,g,h1,h2,h3,h4,h5,h6,h7⟩:=hf;have ui:Tryz.prog.underlying fp=some (.int .i64):=by kernel_rfl
 have ue:Tryz.prog.underlying ja=some (.int .i64):=by kernel_rfl
 rw [show (10000:Nat)=9998+1+1 from rfl,run_equalIn_struct w 9999 t_api_Fault _ _ hS hp,h1];have p0:∀ (x y:Int),(part ja #[ii x,ii y] 0).run Tryz.prog w = .ok (ii x) w:=fun x y=>by simp [part,isAgg,run_underlying ue]
 have p1:∀ (x y:Int),(part fp #[ii x,ii y] 1).run Tryz.prog w = .ok (ii y) w:=fun x y=>by simp [part,isAgg,run_underlying ui]
 have q:∀ x y:Int,(Op.equalIn 9999 fp (ii x) (ii y)).run Tryz.prog w = .ok (x == y) w:=fun x y=>run_equalIn_int w 9998 fp .i64 .i64 x y ui
 have q0:∀ x y:Int,(Op.equalIn 9999 ja (ii x) (ii y)).run Tryz.prog w = .ok (x == y) w:=fun x y=>run_equalIn_int w 9998 ja .i64 .i64 x y ue
 simp only [Op.eqFields,h2,h3,h4,h5,h6,h7,ne_eq,not_false_eq_true,ata,Sem.run_bind,p0,p1,q,q0,Result.andThen_ok];by_cases e1:a=c <;> by_cases e2:b=d <;> simp [e1,e2,p1,q]
section
variable {b:World} {F:List SP} {g:Nat} {w nx:Int} {A:Option Addr} {c n:Nat} {L:List Us}
def wr (L:List Int) (k:Nat) (nx:Int):Int:=if jk L≠(0,0) then 7 else if 8≤k then 10 else if 1048576<nx then 21 else 0
theorem Dj {u:Us}:(usF (L ++ [u])).Perm (usP u++usF L):=by
 have:=zH (l1:=L) (l2:= []) (u:=u);rwa [aqg] at this
theorem Qi {s:ByteArray} (hw:w≠0) (hn:L.length=n) (h8:n≤1000) (hnx:0≤nx):SC Tryz.prog bO [pp g,.string s] b (tbU g w nx A c n L F)
  (fun v F'=>if wr (dz s) n nx=0 then v = .tuple ⟨[ii nx,ii 0]⟩∧∃ A' c' gu,F'=tbU g w (nx+1) A' c' (n+1) (L ++ [⟨gu,nx,s,.slice none 0 0,[]⟩]) F
   else v = .tuple ⟨[ii 0,ii (wr (dz s) n nx)]⟩∧F'=tbU g w nx A c n L F):=by
 refine ao Tryz.func32 Z Z Z <| anf <| apn Z Z <| ane <| ac <| ak <| anf <| ae Z <| au Z Z Z (Jd) ?_;rw [aqo hw];refine ae Z <| ane <| ai Z <| anf <| ae Z <| au Z Z Z (tL) <| ae Z <| j6 Z (wk Z Z (zI (jk (dz s)).1 (jk (dz s)).2 0 0)) Z ?_;by_cases hr:jk (dz s)=(0,0)
 ·rw [hr];refine ae Z <| ane <| ai Z <| anf <| apo Z Z Z <| ba 0 Z Z Z <| apo Z Z Z <| ane ?_;have hr':¬ jk (dz s)≠(0,0):=by simp [hr]
  refine cj Z (fun h1=> ?_) (fun h1=> ?_)
  ·have e:wr (dz s) n nx=10:=by rw [wr,if_neg hr',if_pos (by omega)]
   refine anf <| apn Z Z <| ane <| aj <| az <| al <| fb Z Z Z av ?_;rw [e,if_neg (by decide)];exact ⟨rfl,rfl⟩
  refine anf <| apo Z Z Z <| ba 0 Z Z Z <| apn Z Z <| ane ?_;refine cj Z (fun h2=> ?_) (fun h2=> ?_)
  ·have e:wr (dz s) n nx=21:=by rw [wr,if_neg hr',if_neg (by omega),if_pos h2]
   refine anf <| apn Z Z <| ane <| aj <| az <| al <| fb Z Z Z av ?_;rw [e,if_neg (by decide)];exact ⟨rfl,rfl⟩
  have e:wr (dz s) n nx=0:=by rw [wr,if_neg hr',if_neg (by omega),if_neg h2]
  refine ah <| bg <| ab <| anf <| apo Z Z Z <| ba 0 Z Z Z <| ae Z <| aby <| apo Z Z Z <| ba 0 Z Z Z <| ay Z <| apn Z Z <| cg 0 Z Z Z Z <| aby <| apo Z Z Z <| ae Z <| ba 0 Z Z Z <| apo Z Z Z <| br Z Z Z Z Z fun gu=> ?_
  skip
  refine lp [pp gu] Z Z Z Z Z Z Z Z Z fun gl=> ?_;refine ef 3 Z Z Z Z Z Z Z Z Z (m:=1) (news:= [pp gu]) (fun w H=>(H.blk (k:=0) Z).sl Z (by decide)) (by simp [Value.oneCell']) (by omega) (fun _=>rfl) fun v8=> ?_;refine b6 (fun w H=>(H.oat (k:=3) Z).form) ?_;rintro ⟨A8,c8,rfl,_,_,_⟩;refine apn Z Z <| cg 2 Z Z Z Z <| aby <| apo Z Z Z <| ane <| aj ?_;have hrow:usK L ++ [pp gu]=usK (L ++ [⟨gu,nx,s,.slice none 0 0,[]⟩]):=by simp [usK]
  rw [hrow];refine fb Z Z Z ((af 5 [1,2,3,4] Z).trans ((de eo 1 Z).trans ((ee (G:= [])).trans ((af 6 [2,1,0,5,3,4] Z).trans ((qd (A:=usF (L ++ [⟨gu,nx,s,.slice none 0 0,[]⟩])) (B:=usP ⟨gu,nx,s,.slice none 0 0,[]⟩) (C:=usF L) Dj).trans (af 3 [1,2,0] Z)))))) ?_;rw [e,if_pos rfl];exact ⟨rfl,A8,c8,gu,rfl⟩
 ·have e:wr (dz s) n nx=7:=by rw [wr,if_pos hr]
  refine bn 14 (.bool true) Z ?_ ?_
  ·refine ap2 Value.bool ?_;have:¬ ((jk (dz s)).1=0∧(jk (dz s)).2=0):=fun h=>hr (Prod.ext h.1 h.2)
   simp [this]
  refine ae Z <| ane <| ar Z <| anf <| apn Z Z <| ane <| aj <| az <| al <| fb Z Z Z av ?_;rw [e,if_neg (by decide)];exact ⟨rfl,rfl⟩
end
open Go.WideMaps

section
variable {b:World} {F:List SP} {s:ByteArray}
theorem zJ {n:Bool} (hn:n=decide (jk (dz s)=(0,0))):SC Tryz.prog vK [.string s] b F (fun v F'=>v = .bool n∧F'=F):=by
 refine ao Tryz.func184 Z Z Z <| anf <| ae Z <| aby <| ae Z <| au Z Z Z (tL) <| ae Z <| j6 Z (y8 Z Z (zI (jk (dz s)).1 (jk (dz s)).2 0 0)) Z <| ae Z <| ane <| aj <| bh Z Z (af 0 [] Z) <| ⟨ap2 Value.bool ?_,rfl⟩;rw [hn];exact ash.2 ⟨fun h=>Prod.ext h.1 h.2,fun h=>by rw [h];exact ⟨rfl,rfl⟩⟩
end

theorem zK {s:ByteArray} {id:List Int}:∀ {L:List Ql},(∀ e∈L,e.id≠id)→jl (s,id) (qM s L)=none
 | [], _ => rfl
 | x :: L, h => by
  show (if (s,x.id)=(s,id) then _ else jl (s,id) (qM s L))=none;rw [if_neg fun e=>h x (.head _) (Prod.mk.inj e).2];exact zK fun e he=>h e (.tail _ he)
theorem Dk {s r:ByteArray} {id:List Int} (hr:r≠s):∀ {L:List Ql},jl (r,id) (qM s L)=none
 | [] => rfl
 | x :: L => by
  show (if (s,x.id)=(r,id) then _ else jl (r,id) (qM s L))=none;rw [if_neg fun e=>hr (Prod.mk.inj e).1.symm];exact Dk hr
theorem Jg {s:ByteArray} {id:List Int} {n:Int}:∀ {L:List Ql},(∃ e∈L,e.id=id)→(∀ e∈L,e.id=id→e.n=n)→jl (s,id) (qM s L)=some (.agg ⟨[ii n]⟩)
 | [], h, _ => by obtain ⟨e, he, _⟩ := h; cases he
 | x :: L, h, hn => by
  show (if (s,x.id)=(s,id) then some (.agg ⟨[ii x.n]⟩) else jl (s,id) (qM s L))=_;by_cases hx:x.id=id
  ·rw [if_pos (by rw [hx]),hn x (.head _) hx]
  ·rw [if_neg fun e=>hx (Prod.mk.inj e).2];obtain ⟨e,he,h1⟩:=h;rcases ap1.1 he with rfl | he
   ·exact absurd h1 hx
   ·exact Jg ⟨e,he,h1⟩ fun e he=>hn e (.tail _ he)
theorem Qj {s:ByteArray} {id:List Int} {n:Int}:∀ {L:List Ql},(∀ e∈L,e.id≠id)→lq (s,id) (.agg ⟨[ii n]⟩) (qM s L)=qM s (L ++ [⟨id,n⟩])
 | [], _ => rfl
 | x :: L, h => by
  show (if (s,x.id)=(s,id) then _ else (_,_)::lq (s,id) _ (qM s L))=_;rw [if_neg fun e=>h x (.head _) (Prod.mk.inj e).2,Qj fun e he=>h e (.tail _ he)]
  rfl
theorem Lu (L:List Ql) (e:Ql):n5 (L ++ [e])=n5 L+e.n:=by simp [n5]
theorem abf (s:ByteArray) (L:List Ql):(qM s L).length=L.length:=by simp [qM]
section
variable {b:World} {F:List SP} {gq gl gu gv gc:Nat} {lim:Int} {s:ByteArray} {L:List Ql}
abbrev hV (gc:Nat):Value:= .func (.func s0) ⟨[]⟩ ⟨[pp gc]⟩
abbrev cQ (gc gq:Nat):SP:=pt gc pI [pp gq]
theorem Vg {h:Value} {u n:Int} (hi:I64 (u+n)):SC Tryz.prog s0 [ii u,ii n,pp gc] b (cQ gc gq::stQ gq gl gu gv lim h s L F) (fun v F'=>v = .bool (decide (u+n≤lim))∧F'=cQ gc gq::stQ gq gl gu gv lim h s L F):=by
 refine ao Tryz.func106 Z Z Z <| anf <| ae Z <| aby <| apn Z Z <| ay Z <| ba 0 Z Z Z <| apn Z Z <| ba 1 Z Z Z <| apn Z Z <| ane <| aj <| bh Z Z (af 0 [] Z) ?_;exact ⟨rfl,rfl⟩
theorem X6 {h:Value} (hs:s.size≤maxLen):SC Tryz.prog qg [pp gq,.string s] b (stQ gq gl gu gv lim h s L F) (fun v F'=>v=ii (n5 L)∧F'=stQ gq gl gu gv lim h s L F):=by
 cases L with
 | nil => exact Gs hs
 | cons e L => exact ams hs
theorem Vh {h:Value} {r:ByteArray} {id:List Int} {n:Int} (hr:r.size≤maxLen) (hnm:jk (dz r)≠(0,0)) (hrs:r≠s) (hid:idOk id) :
  SC Tryz.prog qh [pp gq,.string r,idV id,ii n] b (stQ gq gl gu gv lim h s L F) (fun v F'=>v = .tuple ⟨[.bool false,ii 7]⟩∧F'=stQ gq gl gu gv lim h s L F):=by
 refine ao Tryz.func107 Z Z Z <| anf <| br Z Z Z Z Z fun g6=>apn Z Z <| ane <| ac <| cq flo _ (by decide +kernel) av <| bj Z Zl <| bj Z Zl <| bj Z Zl <| cd 1 Z Z Z Z <| bj Z Zl <| fw 0 Z Z Z Z Z Z (ek hid.1) Z Z ?_
 refine mJ Z Z Z Z ⟨rfl,(by show (u8s id).length=32;rw [bz,hid.1]),trivial⟩ ?_;refine dX 2 (a:=(r,id)) (L:=qM s L) lU ⟨hr,hid⟩ (Dk hrs) Z Z Z Z Z Z Z Z Z <| bj Z Zl <| bj Z Zl <| bj Z Zl <| iz Z Z Z Z Z Z av fun g10=> ?_
 skip
 refine qc 0 Z Z Z Z Z Z Z Z Z Z Z Z (af 1 [] Z) <| bj Z Zl <| ap <| ab <| ac <| ak <| anf <| ae Z ?_;refine au Z Z Z (zJ (n:=false) (by rw [aqo hnm])) ?_;refine apn Z Z <| ane <| ar Z <| anf <| apn Z Z <| ane <| aj <| az <| al <| fb Z Z Z (af 2 [] Z) ?_;exact ⟨rfl,rfl⟩
theorem Qk {h:Value} {id:List Int} {n:Int} (hs:s.size≤maxLen) (hnm:jk (dz s)=(0,0)) (hid:idOk id) (h0:0≤n∧n≤4096) (hex:∃ e∈L,e.id=id) (hn:∀ e∈L,e.id=id→e.n=n) :
  SC Tryz.prog qh [pp gq,.string s,idV id,ii n] b (stQ gq gl gu gv lim h s L F) (fun v F'=>v = .tuple ⟨[.bool false,ii 0]⟩∧F'=stQ gq gl gu gv lim h s L F):=by
 refine ao Tryz.func107 Z Z Z <| anf <| br Z Z Z Z Z fun g6=>apn Z Z <| ane <| ac <| cq flo _ (by decide +kernel) av <| bj Z Zl <| bj Z Zl <| bj Z Zl <| cd 1 Z Z Z Z <| bj Z Zl <| fw 0 Z Z Z Z Z Z (ek hid.1) Z Z ?_
 refine mJ Z Z Z Z ⟨rfl,(by show (u8s id).length=32;rw [bz,hid.1]),trivial⟩ ?_;refine kG 2 (a:=(s,id)) (L:=qM s L) lU ⟨hs,hid⟩ (Jg hex hn) Z Z Z Z Z Z Z Z Z <| bj Z Zl <| bj Z Zl <| bj Z Zl <| iz Z Z Z Z Z Z av fun g10=> ?_
 skip
 refine qc 0 Z Z Z Z Z Z Z Z Z Z Z Z (af 1 [] Z) <| bj Z Zl <| ap <| ab <| ac <| ak <| anf <| ae Z ?_;refine au Z Z Z (zJ (n:=true) (by rw [ap5 hnm])) ?_;refine apn Z Z <| ane <| ai Z <| anf <| apo Z Z Z <| qp 31 Z <| apo Z Z Z <| ae Z <| ane <| cj Z (fun h1=>absurd h1 (by omega)) (fun _=>anf <| apo Z Z Z <| ba 0 Z Z Z <| apo Z Z Z <| ae Z <| ane <| jC Z (fun h1=>absurd Z h1) (fun _=>anf <| apn Z Z <| ane <| ar Z <| anf <| apn Z Z <| ane <| aj <| az <| al <| fb Z Z Z (af 2 [] Z) ?_));exact ⟨rfl,rfl⟩
theorem Vi {id:List Int} {n:Int} (hs:s.size≤maxLen) (hnm:jk (dz s)=(0,0)) (hid:idOk id) (h0:0≤n∧n≤4096) (hno:∀ e∈L,e.id≠id) (hq0:0≤n5 L∧n5 L≤1000000) (hq:n5 L+n≤lim) (hl:L.length≤1000) :
  SC Tryz.prog qh [pp gq,.string s,idV id,ii n] b (cQ gc gq::stQ gq gl gu gv lim (hV gc) s L F) (fun v F'=>v = .tuple ⟨[.bool true,ii 0]⟩∧∃ gv',F'=stQ gq gl gu gv' lim (hV gc) s (L ++ [⟨id,n⟩]) F):=by
 refine ao Tryz.func107 Z Z Z <| anf <| br Z Z Z Z Z fun g6=>apn Z Z <| ane <| ac <| cq flo _ (by decide +kernel) av <| bj Z Zl <| bj Z Zl <| bj Z Zl <| cd 2 Z Z Z Z <| bj Z Zl <| fw 0 Z Z Z Z Z Z (ek hid.1) Z Z ?_
 refine mJ Z Z Z Z ⟨rfl,(by show (u8s id).length=32;rw [bz,hid.1]),trivial⟩ ?_;refine dX 3 (a:=(s,id)) (L:=qM s L) lU ⟨hs,hid⟩ (zK hno) Z Z Z Z Z Z Z Z Z <| bj Z Zl <| bj Z Zl <| bj Z Zl <| iz Z Z Z Z Z Z av fun g10=> ?_
 skip
 refine qc 0 Z Z Z Z Z Z Z Z Z Z Z Z (af 1 [] Z) <| bj Z Zl <| ap <| ab <| ac <| ak <| anf <| ae Z ?_;refine au Z Z Z (zJ (n:=true) (by rw [ap5 hnm])) ?_;refine apn Z Z <| ane <| ai Z <| anf <| apo Z Z Z <| qp 31 Z <| apo Z Z Z <| ae Z <| ane <| cj Z (fun h1=>absurd h1 (by omega)) (fun _=>anf ?_)
 (iterate 8 refine ae Z ?_)
 refine ane <| ai Z <| anf <| apn Z Z <| ane <| ai Z <| ac <| cq flo _ (by decide +kernel) av <| bj Z Zl <| bj Z Zl <| bj Z Zl <| cd 3 Z Z Z Z <| bj Z Zl <| bj Z Zl <| fe Z Z Z Z ((X6 (h:=hV gc) (L:=L) (F:=pt g10 kY [ii 0]::pt g6 t_api_ID (u8s id)::cQ gc gq::F) hs).at (af 7 [3,4,5,6,0,1,2] Z) (af 7 [4,5,6,0,1,2,3] Z)) av <| bj Z Zl ?_;refine fe Z Z Z Z ((Vg (h:=hV gc) (L:=L) (F:=pt g10 kY [ii 0]::pt g6 t_api_ID (u8s id)::F) (by unfold I64;omega)).at (af 7 [2,3,4,5,6,0,1] Z) (af 7 [5,6,0,1,2,3,4] Z)) av ?_;refine bj Z Zl <| bj Z Zl <| ap <| ab <| jC Z (fun h1=>absurd hq h1) (fun _=>anf <| apo Z Z Z <| ba 3 Z Z Z <| Hp 4 Z Z Z Z Z Z ?_);rw [abf];refine apn Z Z <| ane <| cj Z (fun h1=>absurd h1 (by omega)) (fun _=>ah <| bg <| ab <| ac <| ij flo 9 _ [] Z (by decide +kernel) av <| bj Z Zl <| bj Z Zl <| bj Z Zl <| cd 3 Z Z Z Z <| bj Z Zl <| fw 1 Z Z Z Z Z Z (ek hid.1) Z Z ?_);refine mJ Z Z Z Z ⟨rfl,(by show (u8s id).length=32;rw [bz,hid.1]),trivial⟩ ?_;refine bj Z Zl <| bj Z Zl <| ap <| ik Z (dc _) <| rH 4 (a:=(s,id)) (v:= .agg ⟨[ii n]⟩) (L:=qM s L) lU ⟨hs,hid⟩ Z Z Z Z Z Z Z Z Z (dc _) <| ap ?_;rw [Qj hno];cases L with
 | nil =>
  refine ab <| anf <| apo Z Z Z <| ba 3 Z Z Z <| ae Z ?_;refine zx 5 (a:=s) (L:=uM s gv []) (v:= .pointer none) bG hs (by rfl) Z Z Z Z Z Z Z Z ?_;refine ae Z <| ane <| ac <| anf <| apn Z Z <| ane <| ar Z <| anf <| ae Z <| br Z Z Z Z Z fun gv2=>ae Z <| ane <| aa <| apo Z Z Z <| ba 4 Z Z Z <| apn Z Z <| mI 6 (a:=s) (L:=uM s gv []) bG hs Z Z Z Z Z Z Z Z <| aby <| apo Z Z Z <| ba 0 Z Z Z <| ae Z <| ay Z <| apn Z Z <| cg 0 Z Z Z Z <| aby <| apo Z Z Z <| ba 0 Z Z Z <| ay Z <| apn Z Z <| cg 0 Z Z Z Z <| aby <| apn Z Z <| ane <| aj ?_
  refine fb Z Z Z (G:=stQ gq gl gu gv2 lim (hV gc) s [⟨id,n⟩] F) ?_ ⟨rfl,gv2,rfl⟩;have hp:pt gv2 mc [ii (0+n),ii (0+1)]=pt gv2 mc [ii (n5 [⟨id,n⟩]),ii (([⟨id,n⟩]:List Ql).length:Nat)]:=by
   have e1:n5 [⟨id,n⟩]=0+n:=by simp [n5]
   rw [e1];rfl
  exact (af 8 [0,4,5,6] Z).trans ((mo 0 (B:=pt gv2 mc [ii (n5 [⟨id,n⟩]),ii (([⟨id,n⟩]:List Ql).length:Nat)]) Z (fun _ hh=>by rw [← hp];exact hh) Z).trans ((ee (G:=qL gv2 [⟨id,n⟩])).trans (af 4 [1,2,3,0] Z)))
 | cons e L =>
  have hg:(jl s (uM s gv (e::L))).getD (.pointer none)=pp gv:=by
   show (if s=s then some _ else none).getD _=_;rw [if_pos rfl];rfl
  refine ab <| anf <| apo Z Z Z <| ba 3 Z Z Z <| ae Z <| zx 5 (a:=s) (L:=uM s gv (e::L)) (v:=pp gv) bG hs hg Z Z Z Z Z Z Z Z <| eg ((af 7 [6,0,1,2,3,4,5] Z).trans (k9 (G:=qL gv (e::L)))) <| ae Z <| ane <| ac <| anf <| apn Z Z <| ane <| ai Z <| ah <| ab <| anf <| apo Z Z Z <| ba 0 Z Z Z <| ae Z <| ay Z <| apn Z Z <| cg 0 Z Z Z Z <| aby <| apo Z Z Z <| ba 0 Z Z Z <| ay Z <| apn Z Z <| cg 0 Z Z Z Z <| aby <| apn Z Z <| ane <| aj <| fb Z Z Z (G:=stQ gq gl gu gv lim (hV gc) s (e::L ++ [⟨id,n⟩]) F) ?_ ⟨rfl,gv,rfl⟩;have hp:pt gv mc [ii (n5 (e::L)+n),ii (((e::L).length:Nat)+1)]=pt gv mc [ii (n5 (e::(L ++ [⟨id,n⟩]))),ii ((e::(L ++ [⟨id,n⟩])).length:Nat)]:=by
   have e1:n5 (e::(L ++ [⟨id,n⟩]))=n5 (e::L)+n:=Lu (e::L) _;have e2:(e::(L ++ [⟨id,n⟩])).length=(e::L).length+1:=by simp
   rw [e1,e2];rfl
  exact (af 7 [0,4,5,6] Z).trans ((mo 0 (B:=pt gv mc [ii (n5 (e::(L ++ [⟨id,n⟩]))),ii ((e::(L ++ [⟨id,n⟩])).length:Nat)]) Z (fun _ hh=>by rw [← hp];exact hh) Z).trans ((ee (G:=qL gv (e::L ++ [⟨id,n⟩]))).trans (af 4 [1,2,3,0] Z)))
theorem Qm {h:Value} {id:List Int} {n:Int} (hs:s.size≤maxLen) (hnm:jk (dz s)=(0,0)) (hid:idOk id) (h0:0≤n∧n≤4096) (hno:∀ e∈L,e.id≠id) (hq0:0≤n5 L∧n5 L≤1000000) (hq:n5 L+n≤lim) (hl:L.length≤1000) :
  SC Tryz.prog ma [pp gq,.string s,idV id,ii n] b (stQ gq gl gu gv lim h s L F) (fun v F'=>v = .tuple ⟨[.bool true,ii 0]⟩∧∃ gv' h',F'=stQ gq gl gu gv' lim h' s (L ++ [⟨id,n⟩]) F):=by
 refine ao Tryz.func36 Z Z Z <| anf <| br Z Z Z Z Z fun g4=>br Z Z Z Z Z fun g6=>apn Z Z <| ane <| ac <| anf <| ba 1 Z Z Z <| au Z Z Z ((y5 (h:=h) (L:=L) (F:=pt g6 t_api_ID (u8s id)::cQ g4 gq::F)).at (af 6 [2,3,4,5,0,1] Z) (af 6 [4,5,0,1,2,3] Z)) <| ane <| ai Z <| ah <| ab <| anf <| ba 1 Z Z Z <| apo Z Z Z <| cg 2 Z Z Z Z <| aby <| ba 1 Z Z Z <| ae Z <| b7 0 Z Z Z Z Z Z (ek hid.1) Z <| ae Z <| am Z Z Z ((Vi (gc:=g4) hs hnm hid h0 hno hq0 hq hl (F:=pt g6 t_api_ID (u8s id)::F)).ent (af 6 [1,2,3,4,5,0] Z)) ?_
 rintro _ _ ⟨rfl,gv',rfl⟩;refine apo Z Z Z <| ae Z <| ane <| aj <| fb Z Z Z (af 5 [0,1,2,3] Z) ?_;exact ⟨rfl,gv',_,rfl⟩
theorem Lv {h:Value} {id:List Int} {n:Int} (hs:s.size≤maxLen) (hnm:jk (dz s)=(0,0)) (hid:idOk id) (h0:0≤n∧n≤4096) (hex:∃ e∈L,e.id=id) (hn:∀ e∈L,e.id=id→e.n=n) :
  SC Tryz.prog ma [pp gq,.string s,idV id,ii n] b (stQ gq gl gu gv lim h s L F) (fun v F'=>v = .tuple ⟨[.bool false,ii 0]⟩∧∃ h',F'=stQ gq gl gu gv lim h' s L F):=by
 refine ao Tryz.func36 Z Z Z <| anf <| br Z Z Z Z Z fun g4=>br Z Z Z Z Z fun g6=>apn Z Z <| ane <| ac <| anf <| ba 1 Z Z Z <| au Z Z Z ((y5 (h:=h) (L:=L) (F:=pt g6 t_api_ID (u8s id)::cQ g4 gq::F)).at (af 6 [2,3,4,5,0,1] Z) (af 6 [4,5,0,1,2,3] Z)) <| ane <| ai Z <| ah <| ab <| anf <| ba 1 Z Z Z <| apo Z Z Z <| cg 2 Z Z Z Z <| aby <| ba 1 Z Z Z <| ae Z <| b7 0 Z Z Z Z Z Z (ek hid.1) Z <| ae Z <| am Z Z Z ((Qk (h:=hV g4) hs hnm hid h0 hex hn (F:=pt g6 t_api_ID (u8s id)::cQ g4 gq::F)).ent (af 6 [2,3,4,5,0,1] Z)) ?_
 rintro _ _ ⟨rfl,rfl⟩;refine apo Z Z Z <| ae Z <| ane <| aj <| fb Z Z Z (af 6 [0,1,2,3] Z) ?_;exact ⟨rfl,_,rfl⟩
theorem Qn {h:Value} {r:ByteArray} {id:List Int} {n:Int} (hr:r.size≤maxLen) (hnm:jk (dz r)≠(0,0)) (hrs:r≠s) (hid:idOk id) :
  SC Tryz.prog ma [pp gq,.string r,idV id,ii n] b (stQ gq gl gu gv lim h s L F) (fun v F'=>v = .tuple ⟨[.bool false,ii 7]⟩∧∃ h',F'=stQ gq gl gu gv lim h' s L F):=by
 refine ao Tryz.func36 Z Z Z <| anf <| br Z Z Z Z Z fun g4=>br Z Z Z Z Z fun g6=>apn Z Z <| ane <| ac <| anf <| ba 1 Z Z Z <| au Z Z Z ((y5 (h:=h) (L:=L) (F:=pt g6 t_api_ID (u8s id)::cQ g4 gq::F)).at (af 6 [2,3,4,5,0,1] Z) (af 6 [4,5,0,1,2,3] Z)) <| ane <| ai Z <| ah <| ab <| anf <| ba 1 Z Z Z <| apo Z Z Z <| cg 2 Z Z Z Z <| aby <| ba 1 Z Z Z <| ae Z <| b7 0 Z Z Z Z Z Z (ek hid.1) Z <| ae Z <| am Z Z Z ((Vh (h:=hV g4) hr hnm hrs hid (F:=pt g6 t_api_ID (u8s id)::cQ g4 gq::F)).ent (af 6 [2,3,4,5,0,1] Z)) ?_
 rintro _ _ ⟨rfl,rfl⟩;refine apo Z Z Z <| ae Z <| ane <| aj <| fb Z Z Z (af 6 [0,1,2,3] Z) ?_;exact ⟨rfl,_,rfl⟩
end

theorem X7 {s:ByteArray} {id:List Int}:∀ {L:List Ql},(∃ e∈L,e.id=id)→∃ n,jl (s,id) (qM s L)=some (.agg ⟨[ii n]⟩)
 | [], h => by obtain ⟨e, he, _⟩ := h; cases he
 | x :: L, h => by
  show ∃ n,(if (s,x.id)=(s,id) then some (.agg ⟨[ii x.n]⟩) else jl (s,id) (qM s L))=_;by_cases hx:x.id=id
  ·rw [if_pos (by rw [hx])];exact ⟨_,rfl⟩
  ·rw [if_neg fun e=>hx (Prod.mk.inj e).2];obtain ⟨e,he,h1⟩:=h;rcases ap1.1 he with rfl | he
   ·exact absurd h1 hx
   ·exact X7 ⟨e,he,h1⟩
theorem Qo {s:ByteArray} {id:List Int} {e:Ql} {L2:List Ql} (he:e.id=id):∀ {L1:List Ql},(∀ x∈L1,x.id≠id)→jl (s,id) (qM s (L1++e::L2))=some (.agg ⟨[ii e.n]⟩)∧cU (s,id) (qM s (L1++e::L2))=qM s (L1++L2)
 | [], _ => by
  show (if (s,e.id)=(s,id) then _ else _)=_∧(if (s,e.id)=(s,id) then _ else _)=_;rw [if_pos (by rw [he]),if_pos (by rw [he])];exact ⟨rfl,rfl⟩
 | x :: L1, h => by
  have hx:(s,x.id)≠(s,id):=fun q=>h x (.head _) (Prod.mk.inj q).2
  have ih:=Qo (s:=s) (L2:=L2) he (L1:=L1) fun y hy=>h y (.tail _ hy)
  show (if (s,x.id)=(s,id) then _ else jl (s,id) (qM s (L1++e::L2)))=_∧(if (s,x.id)=(s,id) then _ else _::cU (s,id) (qM s (L1++e::L2)))=_;rw [if_neg hx,if_neg hx,ih.1,ih.2];exact ⟨rfl,rfl⟩
theorem abg (gv:Nat) (L1 L2:List Ql) (e:Ql):qL gv (L1++e::L2) = [pt gv mc [ii (n5 (L1++e::L2)),ii ((L1++e::L2).length:Nat)]]:=by cases L1 <;> rfl
theorem abh (s:ByteArray) (gv:Nat) (L1 L2:List Ql) (e:Ql):uM s gv (L1++e::L2) = [(s,pp gv)]:=by
 unfold uM;rw [if_neg (by simp)]
theorem Qq (L1 L2:List Ql) (e:Ql):n5 (L1++e::L2)=n5 (L1++L2)+e.n:=by
 simp [n5];omega
section
variable {b:World} {F:List SP} {gq gl gu gv gc:Nat} {lim:Int} {s:ByteArray} {L:List Ql} {h:Value}
theorem Qr {id:List Int} (hs:s.size≤maxLen) (hid:idOk id) (hno:∀ e∈L,e.id≠id) :
  SC Tryz.prog wv [pp gq,.string s,idV id] b (stQ gq gl gu gv lim h s L F) (fun v F'=>v = .bool false∧F'=stQ gq gl gu gv lim h s L F):=by
 refine ao Tryz.func263 Z Z Z <| anf <| br Z Z Z Z Z fun g6=>ae Z <| ane <| ac <| anf <| ae Z <| au Z Z Z ((y5 (h:=h) (L:=L) (F:=pt g6 t_api_ID (u8s id)::F)).at (af 5 [1,2,3,4,0] Z) (af 5 [4,0,1,2,3] Z)) <| ane <| ai Z <| ah <| ab <| ac <| cq flo _ (by decide +kernel) av <| bj Z Zl <| bj Z Zl <| bj Z Zl <| cd 1 Z Z Z Z <| bj Z Zl <| fw 0 Z Z Z Z Z Z (ek hid.1) Z Z ?_
 refine mJ Z Z Z Z ⟨rfl,(by show (u8s id).length=32;rw [bz,hid.1]),trivial⟩ ?_;refine dX 2 (a:=(s,id)) (L:=qM s L) lU ⟨hs,hid⟩ (zK hno) Z Z Z Z Z Z Z Z Z <| bj Z Zl <| bj Z Zl <| bj Z Zl <| iz Z Z Z Z Z Z av fun g10=> ?_
 skip
 refine qc 0 Z Z Z Z Z Z Z Z Z Z Z Z (af 1 [] Z) <| bj Z Zl <| ap <| ab <| anf <| apn Z Z <| ane <| aj <| bh Z Z (af 2 [] Z) ?_;exact ⟨rfl,rfl⟩
theorem Qs {id:List Int} (hs:s.size≤maxLen) (hid:idOk id) (hex:∃ e∈L,e.id=id) :
  SC Tryz.prog wv [pp gq,.string s,idV id] b (stQ gq gl gu gv lim h s L F) (fun v F'=>v = .bool true∧F'=stQ gq gl gu gv lim h s L F):=by
 obtain ⟨n,hn⟩:=X7 (s:=s) hex;refine ao Tryz.func263 Z Z Z <| anf <| br Z Z Z Z Z fun g6=>ae Z <| ane <| ac <| anf <| ae Z <| au Z Z Z ((y5 (h:=h) (L:=L) (F:=pt g6 t_api_ID (u8s id)::F)).at (af 5 [1,2,3,4,0] Z) (af 5 [4,0,1,2,3] Z)) <| ane <| ai Z <| ah <| ab <| ac <| cq flo _ (by decide +kernel) av <| bj Z Zl <| bj Z Zl <| bj Z Zl <| cd 1 Z Z Z Z <| bj Z Zl <| fw 0 Z Z Z Z Z Z (ek hid.1) Z Z ?_
 refine mJ Z Z Z Z ⟨rfl,(by show (u8s id).length=32;rw [bz,hid.1]),trivial⟩ ?_;refine kG 2 (a:=(s,id)) (L:=qM s L) lU ⟨hs,hid⟩ hn Z Z Z Z Z Z Z Z Z <| bj Z Zl <| bj Z Zl <| bj Z Zl <| iz Z Z Z Z Z Z av fun g10=> ?_
 skip
 refine qc 0 Z Z Z Z Z Z Z Z Z Z Z Z (af 1 [] Z) <| bj Z Zl <| ap <| ab <| anf <| apn Z Z <| ane <| aj <| bh Z Z (af 2 [] Z) ?_;exact ⟨rfl,rfl⟩
theorem Dl {id:List Int} (hs:s.size≤maxLen) (hid:idOk id) (hno:∀ e∈L,e.id≠id) :
  SC Tryz.prog s8 [pp gq,.string s,idV id] b (stQ gq gl gu gv lim h s L F) (fun v F'=>v = .bool false∧F'=stQ gq gl gu gv lim h s L F):=by
 refine ao Tryz.func205 Z Z Z <| anf <| br Z Z Z Z Z fun g5=>ae Z <| ane <| ac <| anf <| apn Z Z <| b7 0 Z Z Z Z Z Z (ek hid.1) Z <| au Z Z Z ((Qr (h:=h) (L:=L) (F:=pt g5 t_api_ID (u8s id)::F) hs hid hno).at (af 5 [1,2,3,4,0] Z) (af 5 [4,0,1,2,3] Z)) <| ae Z <| ane <| ar Z <| anf <| ae Z <| ane <| aj <| al <| bh Z Z (af 1 [] Z) ?_
 exact ⟨rfl,rfl⟩
theorem Dm {id:List Int} {L1 L2:List Ql} {e:Ql} (hs:s.size≤maxLen) (hid:idOk id) (h1:∀ x∈L1,x.id≠id) (he:e.id=id) (hq:0≤n5 (L1++L2)∧n5 (L1++L2)≤1000000) (hn:0≤e.n∧e.n≤4096) (hl:(L1++L2).length≤1000) :
  SC Tryz.prog s8 [pp gq,.string s,idV id] b (stQ gq gl gu gv lim h s (L1++e::L2) F) (fun v F'=>v = .bool true∧F'=stQ gq gl gu gv lim h s (L1++L2) F):=by
 obtain ⟨hg,hd⟩:=Qo (s:=s) (L2:=L2) he h1;have hu:=abh s gv L1 L2 e;have hql:=abg gv L1 L2 e;have hsum:=Qq L1 L2 e;have hlen:(L1++e::L2).length=(L1++L2).length+1:=by simp;omega
 have hlk:(jl s [((s:ByteArray),Value.pointer (some ⟨gv,0,none⟩))]).getD (.pointer none)=pp gv:=by
  show (if s=s then some _ else none).getD _=_;rw [if_pos rfl];rfl
 have hE:∀ X,Ent (stQ gq gl gu gv lim h s (L1++e::L2) X) (pt gv mc [ii (n5 (L1++L2)+e.n),ii (((L1++L2).length+1:Nat))]::pt gq vf [ii lim,.map (some gl),.map (some gu),h]::mpQ gl (qM s (L1++e::L2))::mpU gu [(s,pp gv)]::X):=fun X=>by
  show Ent (pt gq vf [ii lim,.map (some gl),.map (some gu),h]::mpQ gl (qM s (L1++e::L2))::mpU gu (uM s gv (L1++e::L2))::all (qL gv (L1++e::L2))::X) _;rw [hu,hql,hlen,hsum];exact (af 4 [3,0,1,2] Z).trans k9
 refine ao Tryz.func205 Z Z Z <| anf <| br Z Z Z Z Z fun g5=>ae Z <| ane <| ac <| anf <| apn Z Z <| b7 0 Z Z Z Z Z Z (ek hid.1) Z ?_
 refine au Z Z Z ((Qs (h:=h) (L:=L1++e::L2) (F:=pt g5 t_api_ID (u8s id)::F) hs hid ⟨e,by simp,he⟩).at (af 5 [1,2,3,4,0] Z) (af 5 [4,0,1,2,3] Z)) ?_;refine eg ((af 5 [1,2,3,4,0] Z).trans (hE _)) ?_;generalize hX:qM s (L1++e::L2)=X at *;refine ae Z <| ane <| ai Z <| ah <| ab <| anf <| apo Z Z Z <| ba 1 Z Z Z <| ae Z <| zx 3 (a:=s) (L:= [(s,pp gv)]) (v:=pp gv) bG hs hlk Z Z Z Z Z Z Z Z <| ae Z <| ane <| ac <| ij flo 16 _ [] Z (by decide +kernel) av <| bj Z Zl <| bj Z Zl <| bj Z Zl <| cd 0 Z Z Z Z <| bj Z Zl <| bj Z Zl <| bj Z Zl <| cd 1 Z Z Z Z <| bj Z Zl <| fw 4 Z Z Z Z Z Z (ek hid.1) Z Z ?_;refine mJ Z Z Z Z ⟨rfl,(by show (u8s id).length=32;rw [bz,hid.1]),trivial⟩ ?_;refine Nj 2 (a:=(s,id)) (L:=X) (v:= .agg ⟨[ii e.n]⟩) lU ⟨hs,hid⟩ (by rw [hg];rfl) Z Z Z Z Z Z Z Z Z ?_;refine dU Z (E5 Z Z Z Z Z Z Z) Z Z <| dx Z Z <| bj Z Zl <| bj Z Zl <| ap <| ik Z (dc _) <| xw 0 Z Z Z Z Z Z Z Z Z Z Z (dc _) <| ap <| ab <| ac <| anf <| apo Z Z Z <| ba 0 Z Z Z <| ay Z <| apn Z Z <| cg 0 Z Z Z Z <| aby <| apo Z Z Z <| ba 0 Z Z Z <| ae Z <| ane ?_;have hs0:n5 (L1++L2)+e.n - e.n=n5 (L1++L2):=by omega
 have hs1:(((L1++L2).length+1:Nat):Int) - 1=((L1++L2).length:Nat):=by omega
 rw [hs0,hs1];refine cj Z (fun h2=> ?_) (fun h2=> ?_)
 ·have h3:L1++L2 = []:=ark.1 (by omega);rw [h3] at hd;refine aa <| apo Z Z Z <| ba 1 Z Z Z <| ae Z <| Y8 3 (a:=s) (L:= [(s,pp gv)]) bG hs Z Z Z Z Z Z Z ?_;have hdl:cU s [((s:ByteArray),Value.pointer (some ⟨gv,0,none⟩))] = []:=by
   show (if s=s then _ else _)=_;rw [if_pos rfl]
  rw [hdl];refine ane <| ac <| ij flo 7 _ [] Z (by decide +kernel) av <| bj Z Zl <| bj Z Zl <| bj Z Zl <| cd 1 Z Z Z Z <| bj Z Zl <| fw 4 Z Z Z Z Z Z (ek hid.1) Z Z ?_;refine mJ Z Z Z Z ⟨rfl,(by show (u8s id).length=32;rw [bz,hid.1]),trivial⟩ ?_
  skip
  refine ap <| ik Z (dc _) <| Ew 2 (a:=(s,id)) (L:=X) lU ⟨hs,hid⟩ Z Z Z Z Z Z Z Z (dc _) ?_;rw [hd];refine ap <| ab <| anf <| ae Z <| ane <| aj ?_;rw [h3];refine bh Z Z ((ee (G:= [])).trans (af 6 [2,3,4,0] Z)) ?_;exact ⟨rfl,rfl⟩
 ·have h3:L1++L2≠ []:=fun q=>h2 (by rw [q];rfl)
  obtain ⟨x,L3,h4⟩:=List.exists_cons_of_ne_nil h3;rw [h4] at hd ⊢;refine ah <| ab <| ac <| ij flo 7 _ [] Z (by decide +kernel) av <| bj Z Zl <| bj Z Zl <| bj Z Zl <| cd 1 Z Z Z Z <| bj Z Zl <| fw 4 Z Z Z Z Z Z (ek hid.1) Z Z ?_;refine mJ Z Z Z Z ⟨rfl,(by show (u8s id).length=32;rw [bz,hid.1]),trivial⟩ ?_
  skip
  refine ap <| ik Z (dc _) <| Ew 2 (a:=(s,id)) (L:=X) lU ⟨hs,hid⟩ Z Z Z Z Z Z Z Z (dc _) ?_;rw [hd];refine ap <| ab <| anf <| ae Z <| ane <| aj <| bh Z Z ((af 5 [0,1,2,3] Z).trans ((ee (G:=qL gv (x::L3))).trans (af 4 [1,2,3,0] Z))) ?_;exact ⟨rfl,rfl⟩
end
open Go.Heap

abbrev rTx (v:Value) (l:List ByteArray):SP:=row ko 1 v l.length (l.map Value.string)
def okT (xs:List ByteArray) (a:ByteArray) (vs:List Value) (_:SP):Prop:=vs = [.string a]∧xs.length<1000000
section
variable {b:World} {F:List SP} {gm gmb:Nat} {E:List (ByteArray × Value)}
theorem Vj:SC Tryz.prog kj [.map (some gm)] b F (fun u F'=>∃ gmb,u = .func (.func d7) ⟨[]⟩ ⟨[pp gmb]⟩∧F'=pt gmb ib [.map (some gm)]::F):=by
 refine ao Tryz.func137 Z Z Z <| anf <| br Z Z Z Z Z fun gs=>ae Z <| aby <| apn Z Z <| ane <| aj <| bh Z Z av ?_
 exact ⟨gs,rfl,rfl⟩
theorem Qt {m:Nat} {J:List ByteArray→SP} (hY:xy Tryz.prog m b okT J) (hn:E.length≤100000) :
  SC Tryz.prog d7 [.func (.yield m) ⟨[]⟩ ⟨[]⟩,pp gmb] b (J []::pt gmb ib [.map (some gm)]::mpU gm E::F) (fun _ F'=>∃ l,l.Perm (E.map Prod.fst)∧F'=J l::pt gmb ib [.map (some gm)]::mpU gm E::F):=by
 refine ao Tryz.func208 Z Z Z <| anf <| ba 1 Z Z Z <| rF 2 Z Z Z Z Z (fun _=>rfl) Z fun gi=>ane <| ak ?_
 refine d6 (S:=List ByteArray × List (ByteArray × Value) × Option (ByteArray × Value)) (fun s=> [(0,.func (.yield m) ⟨[]⟩ ⟨[]⟩),(1,pp gmb),(5,pp gi)])
  (fun s=>J s.1::pt gmb ib [.map (some gm)]::mr gm gi Value.string (fun s=>s.size≤maxLen) E s.2.1 s.2.2::F) (fun s=>(s.1++s.2.1.map Prod.fst).Perm (E.map Prod.fst)) (fun s=>s.2.1.length) ([],E,none) av (List.Perm.refl _) ?_
 rintro ⟨l,S,c⟩ hp;dsimp only at hp ⊢;have hpl:=hp.length_eq;rw [aps,ap9,ap9] at hpl;refine anf ?_;refine xW 2 Z Z Z Z (fun _ _ _=>rfl) Z (fun hR=> ?_) (fun R1 y R2 hR=> ?_)
 ·subst hR;rw [as9,aqg] at hp;refine ae Z <| ane <| ac <| ai Z <| b8 <| aw <| ax <| aq <| io Z .nil (Es 2 Z Z) ?_;exact ⟨l,hp,rfl⟩
 ·subst hR;rw [aps,ap3] at hpl;refine ae Z <| ane <| ac <| ar Z <| ah <| ab <| ak <| anf <| rG 2 Z Z Z Z Z <| apn Z Z <| aby <| apn Z Z ?_;refine uo hY Z Z Z av ⟨rfl,by omega⟩ ?_;refine ae Z <| ane <| ai Z <| ah <| bg ?_;refine i9 (l ++ [y.1],R1++R2,some y) av ?_ ?_
  ·dsimp only;refine List.Perm.trans ?_ hp;rw [ap0];refine List.Perm.append_left l ?_;simp only [aqa,aqt,List.singleton_append];exact aqz.symm
  ·dsimp only;simp only [aps,ap3];omega
theorem amu {gf:Nat} {caps:List Value} [Bodied Tryz.prog gf] {T:List ByteArray→List SP→Prop}
  (hg:∀ m J,xy Tryz.prog m b okT J→SC Tryz.prog gf (.func (.yield m) ⟨[]⟩ ⟨[]⟩::caps) b (J []::F) (fun _ F'=>∃ l F2,F'=J l::F2∧T l F2)) :
  SC Tryz.prog qx [.slice none 0 0,.func (.func gf) ⟨[]⟩ ⟨caps⟩] b F (fun u F'=>∃ l F2,T l F2∧F'=rTx u l::F2):=by
 refine yt Tryz.func264 Z Z Z <| anf <| br Z Z Z Z Z fun g2=>ae Z <| ane <| ac <| anf <| ae Z <| ane <| ak ?_
 refine qs Z okT (fun l=> [exP (fun _:Value=>True) fun v=> [pt g2 eV [v],rTx v l]]) F T ?_ Z ?_ ?_ hg ?_
 ·exact ((de ko 1 Z).trans (af 2 [1,0] Z)).trans (zw (p:=fun _:Value=>True) (G:=fun v=> [pt g2 eV [v],rTx v []]) (.slice none 0 0) trivial)
 ·rintro xs a vs A ⟨rfl,_⟩;rfl
 ·rintro m2 D l x vs A F0 Rr ⟨rfl,hl⟩ hR;refine qb (af 3 [2,0,1] Z) <| E3 fun v _=>qb (af 4 [2,0,1,3] Z) <| aa <| ae Z <| ad ?_
  skip
  refine ri (af 4 [0,1,2,3] Z) <| mM <| ak <| aa <| ba 1 Z Z Z <| ae Z <| li Z Z Z Z Z Z Z Z (by decide) fun gl=> ?_;refine ef 3 Z Z Z Z Z Z Z Z Z (m:=1) (news:= [Value.string x]) (fun w H=>(H.blk (k:=0) Z).sl Z (by decide)) (fun u hu=>by rw [apy.1 hu];rfl) (by omega) (fun _=>rfl) fun v8=> ?_;refine b6 (fun w H=>(H.oat (k:=3) Z).form) ?_;rintro ⟨A9,c9,rfl,_,_,_⟩;refine cg 2 Z Z Z Z <| ad <| bg <| ri (af 5 [1,2,3,4] Z) <| r8 fun w H=>hR w <| H.ent ?_
  have e9:row ko 1 (.slice A9 (l.length+1) c9) (l.length+1) (l.map Value.string ++ [Value.string x])=rTx (.slice A9 (l.length+1) c9) (l ++ [x]):=by
   rw [rTx,aqa,aps];rfl
  rw [e9];exact (af 4 [1,2,0,3] Z).trans ((zw (p:=fun _:Value=>True) (G:=fun v=> [pt g2 eV [v],rTx v (l ++ [x])]) (.slice A9 (l.length+1) c9) trivial).trans (af 3 [1,2,0] Z))
 ·rintro D l F2 hT;refine ri (af 2 [1,0] Z) <| E4 fun v _=>xQ (fun w H=>(H.oat (k:=1) Z).form) ?_
  rintro ⟨A9,c9,rfl,_,_,_⟩;refine bg <| ab <| anf <| ba 0 Z Z Z <| ae Z <| ane <| aj <| pX Z (k:=2) Z Z (.tmp Z .nil) (af 3 [1] Z) ?_;exact ⟨l,F2,hT,rfl⟩
theorem abi {A:Option Addr} {c n:Nat} (hn:n≤1):SC Tryz.prog qm [.slice A n c,ii 0,ii n] b F (fun _ F'=>F'=F):=by
 refine ao Tryz.func299 Z Z Z <| anf <| ae Z <| ay Z <| ae Z <| ane <| ak <| d6 (S:=Unit) (fun _=> [(2,ii n),(6,ii 1)]) (fun _=>F) (fun _=>True) (fun _=>0) () av trivial ?_;intro _ _;refine ac <| anf <| apo Z Z Z <| ane <| cj Z (fun h=>absurd h (by omega)) (fun _=>b8 <| aw <| ax <| aq <| io Z .nil av ?_)
 rfl
theorem Vk {A:Option Addr} {c n:Nat} (hn:n≤1):SC Tryz.prog uu [.slice A n c] b F (fun _ F'=>F'=F):=by
 have hpd:∀ {u:Value},SC Tryz.prog uw [.slice A n c,ii 0,ii n,u] b F (fun _ F'=>F'=F):=by
  intro u;refine ao Tryz.func265 Z Z Z <| anf <| ae Z <| aby <| ae Z <| ane <| ak <| d6 (S:=Unit) (fun _=> [(0,.slice A n c),(1,ii 0),(2,ii n)]) (fun _=>F) (fun _=>True) (fun _=>0) () av trivial ?_;intro _ _;refine ak <| anf <| apn Z Z <| ay Z <| ae Z <| ane <| ac <| anf <| apn Z Z <| ane <| Ad 23 Z <| ar Z <| anf <| apo Z Z Z <| am Z Z Z (abi hn) ?_;rintro _ _ rfl;refine ane <| aj <| al <| az <| du <| az <| ez Z .nil av ?_
  rfl
 refine ao Tryz.func207 Z Z Z <| anf <| apo Z Z Z <| ane <| aa <| apo Z Z Z <| ae Z <| bn 8 (.int .u64 n) Z (ap2 (Value.int .u64) (O7 (by omega))) <| am Z Z Z (Gj (by omega)) ?_;rintro u _ ⟨rfl⟩
 skip
 refine am Z Z Z (hpd) ?_;rintro _ _ rfl;refine ad <| io Z .nil av ?_
 rfl
end
section
variable {b:World} {F:List SP} {gq gl gu gv gc:Nat} {lim:Int} {s:ByteArray} {L:List Ql} {h:Value}
def mi (s:ByteArray) (L:List Ql):List ByteArray:=if L = [] then [] else [s]
theorem Jh (s:ByteArray) (gv:Nat) (L:List Ql):(uM s gv L).map Prod.fst=mi s L:=by
 unfold uM mi;split <;> rfl
theorem cH (s:ByteArray) (L:List Ql):(mi s L).length≤1:=by unfold mi;split <;> simp
theorem Qu {α:Type} {l m:List α} (hp:l.Perm m) (hm:m.length≤1):l=m:=by
 match m,hm with
 | [], _ => exact hp.eq_nil
 | [x], _ => exact List.perm_singleton.1 hp
theorem zL:SC Tryz.prog cW [pp gq] b (stQ gq gl gu gv lim h s L F) (fun u F'=>F'=rTx u (mi s L)::stQ gq gl gu gv lim h s L F):=by
 have hlen:(uM s gv L).length≤1:=by
  have:=cH s L;rw [← Jh s gv L,ap9] at this;exact this
 refine ao Tryz.func61 Z Z Z <| anf <| ae Z <| ane <| ac <| anf <| ae Z <| au Z Z Z (y5) <| ane <| ai Z <| ah <| ab <| anf <| apo Z Z Z <| ba 0 Z Z Z <| am Z Z Z (Vj) ?_;rintro _ _ ⟨gmb,rfl,rfl⟩;have hc:SC Tryz.prog aL [.func (.func d7) ⟨[]⟩ ⟨[pp gmb]⟩] b (pt gmb ib [.map (some gu)]::stQ gq gl gu gv lim h s L F) (fun u F'=>F'=rTx u (mi s L)::stQ gq gl gu gv lim h s L F):=by
  refine ao Tryz.func206 Z Z Z <| anf <| ae Z <| aby <| ae Z ?_;refine am rfl rfl rfl (amu (T:=fun l F2=>l.Perm ((uM s gv L).map Prod.fst)∧F2=pt gmb ib [.map (some gu)]::mpU gu (uM s gv L)::pt gq vf [ii lim,.map (some gl),.map (some gu),h]::mpQ gl (qM s L)::all (qL gv L)::F) (fun m J hY=>((Qt (E:=uM s gv L) hY (by omega)).mono (by rintro _ _ ⟨l,h1,rfl⟩;exact ⟨l,_,rfl,h1,rfl⟩)).ent (af 6 [0,1,4,2,3,5] rfl))) ?_;rintro u _ ⟨l,_,⟨hl,rfl⟩,rfl⟩;rw [Jh] at hl;obtain rfl:=Qu hl (cH s L);refine ae Z <| ane <| aj <| bh Z Z (af 6 [0,3,4,2,5] Z) ?_
  rfl
 have hst:SC Tryz.prog bU [.func (.func d7) ⟨[]⟩ ⟨[pp gmb]⟩] b (pt gmb ib [.map (some gu)]::stQ gq gl gu gv lim h s L F) (fun u F'=>F'=rTx u (mi s L)::stQ gq gl gu gv lim h s L F):=by
  have hl1:=cH s L;refine ao Tryz.func136 Z Z Z <| anf <| ae Z <| aby <| ae Z <| am Z Z Z (hc) ?_;rintro u _ rfl;refine b6 (fun w H=>(H.oat (k:=0) Z).form) ?_;rintro ⟨A,c,rfl,_⟩;refine ae Z <| aby <| ae Z <| am Z Z Z (Vk hl1) ?_;rintro _ _ rfl;refine aby <| apn Z Z <| ane <| aj <| bh Z Z av ?_
  rfl
 refine am Z Z Z (hst) ?_;rintro u _ rfl;refine ae Z <| ane <| aj <| bh Z Z av ?_
 rfl
theorem Dn {id:List Int} (hs:s.size≤maxLen) (hid:idOk id) (hno:∀ e∈L,e.id≠id) :
  SC Tryz.prog nt [pp gq,idV id] b (stQ gq gl gu gv lim h s L F) (fun u F'=>u=ii 0∧F'=stQ gq gl gu gv lim h s L F):=by
 have hl1:=cH s L;refine ao Tryz.func133 Z Z Z <| anf <| br Z Z Z Z Z fun g3=>ae Z <| ane <| ac <| anf <| ae Z <| am Z Z Z ((zL (F:=pt g3 t_api_ID (u8s id)::F)).ent (af 5 [1,2,3,4,0] Z)) ?_
 rintro u _ rfl;refine b6 (fun w H=>ci (H.sl (k:=0) Z)) ?_;rintro ⟨A,c,rfl,_,_,_,h4,_⟩;refine apn Z Z <| ane <| ak <| d6 (S:=Nat) (fun i=> [(0,pp gq),(3,pp g3),(4,ii 0),(8,.slice A (mi s L).length c),(9,ii ((mi s L).length:Nat)),(10,ii i)]) (fun _=>rTx (.slice A (mi s L).length c) (mi s L)::stQ gq gl gu gv lim h s L (pt g3 t_api_ID (u8s id)::F)) (fun i=>i≤(mi s L).length) (fun i=>(mi s L).length - i) 0 av (aqc _) ?_;intro i hi;refine anf <| ae Z <| ane <| ac ?_;refine cj Z (fun h1=> ?_) (fun h1=> ?_)
 ·have h1':i<(mi s L).length:=by omega
  have hgs:(mi s L)[i]=s:=by
   have hm:=apw h1';generalize (mi s L)[i]=x at *;unfold mi at hm
   split at hm
   ·cases hm
   ·exact apy.1 hm
  obtain ⟨gg,oo,rfl⟩:=h4 (by omega);refine ah <| ab <| ac <| ak <| anf <| ay Z ?_;refine fc Z (fun w H=>bx Z Z Z (by rw [b5,apu,aq8];exact zv (u:= .string s) (k:=0) Z (by rw [ar3,apv h1',hgs];rfl) w H)) Z ?_;refine ae Z <| aby <| apn Z Z <| b7 5 Z Z Z Z Z Z (ek hid.1) Z <| au Z Z Z ((Dl (h:=h) (L:=L) (F:=rTx (.slice (some ⟨gg,oo,none⟩) (mi s L).length c) (mi s L)::pt g3 t_api_ID (u8s id)::F) hs hid hno).at (af 6 [1,2,3,4,0,5] Z) (af 6 [4,0,1,2,3,5] Z)) <| ane <| ai Z <| ah <| bg <| ab <| aa <| ay Z <| ae Z <| ad ?_;rw [show (i:Int)+1=((i+1:Nat):Int) by omega];refine dj (i+1) av (show i+1≤_ by omega)
 ·refine b8 <| aw <| ax <| aq <| ab <| anf <| apn Z Z <| ane <| aj <| bh Z Z (af 6 [1,2,3,4] Z) ?_;exact ⟨rfl,rfl⟩
theorem Do {id:List Int} {L1 L2:List Ql} {e:Ql} (hs:s.size≤maxLen) (hid:idOk id) (h1:∀ x∈L1,x.id≠id) (he:e.id=id) (hq:0≤n5 (L1++L2)∧n5 (L1++L2)≤1000000) (hn:0≤e.n∧e.n≤4096) (hl:(L1++L2).length≤1000) :
  SC Tryz.prog nt [pp gq,idV id] b (stQ gq gl gu gv lim h s (L1++e::L2) F) (fun u F'=>u=ii 1∧F'=stQ gq gl gu gv lim h s (L1++L2) F):=by
 have hr:mi s (L1++e::L2) = [s]:=by unfold mi;rw [if_neg (by simp)]
 refine ao Tryz.func133 Z Z Z <| anf <| br Z Z Z Z Z fun g3=>ae Z <| ane <| ac <| anf <| ae Z <| am Z Z Z ((zL (L:=L1++e::L2) (F:=pt g3 t_api_ID (u8s id)::F)).ent (af 5 [1,2,3,4,0] Z)) ?_
 rintro u _ rfl;rw [hr];refine b6 (fun w H=>ci (H.sl (k:=0) Z)) ?_;rintro ⟨A,c,rfl,_,_,_,h4,_⟩;obtain ⟨gg,oo,rfl⟩:=h4 (aqp 1);refine apn Z Z <| ane <| ak <| d6 (S:=Bool) (fun i=> [(0,pp gq),(3,pp g3),(4,ii (if i then 1 else 0)),(8,.slice (some ⟨gg,oo,none⟩) 1 c),(9,ii 1),(10,ii (if i then 1 else 0))]) (fun i=>rTx (.slice (some ⟨gg,oo,none⟩) 1 c) [s]::stQ gq gl gu gv lim h s (if i then L1++L2 else L1++e::L2) (pt g3 t_api_ID (u8s id)::F)) (fun _=>True) (fun i=>if i then 0 else 1) false av trivial ?_;rintro (_ | _) _
 ·simp only [atd,if_false];refine anf <| ae Z <| ane <| ac <| ar Z <| ah <| ab <| ac <| ak <| anf <| ay Z ?_;refine fc Z (fun w H=>bx Z Z Z (by rw [b5,Int.toNat_zero,atu];exact zv (u:= .string s) (k:=0) Z Z w H)) Z ?_;refine ae Z <| aby <| apn Z Z <| b7 5 Z Z Z Z Z Z (ek hid.1) Z <| am Z Z Z ((Dm (h:=h) (F:=rTx (.slice (some ⟨gg,oo,none⟩) 1 c) [s]::pt g3 t_api_ID (u8s id)::F) hs hid h1 he hq hn hl).ent (af 6 [1,2,3,4,0,5] Z)) ?_;rintro _ _ ⟨rfl,rfl⟩;refine ane <| ar Z <| aa <| ae Z <| ay Z <| ae Z <| ad <| bg <| ab <| aa <| ay Z <| ae Z <| ad ?_;exact i9 true (af 6 [4,0,1,2,3,5] Z) trivial (by decide)
 ·simp only [ata];refine anf <| ae Z <| ane <| ac <| ai Z <| b8 <| aw <| ax <| aq <| ab <| anf <| apn Z Z <| ane <| aj <| bh Z Z (af 6 [1,2,3,4] Z) ?_;exact ⟨rfl,rfl⟩
end

abbrev mkE:Value:= .agg ⟨[]⟩
def eS (xs:List (List Int)):List (List Int × Value):=xs.foldl (fun E a=>lq a mkE E) []
theorem Vl (xs:List (List Int)) (a:List Int):eS (xs ++ [a])=lq a mkE (eS xs):=by unfold eS;rw [List.foldl_append];rfl
theorem Qv:∀ (xs:List (List Int)) (E:List (List Int × Value)) (x:List Int),x∈jw (xs.foldl (fun E a=>lq a mkE E) E)↔x∈jw E∨x∈xs
 | [], _, _ => by simp
 | a :: xs, E, x => by
  show x∈jw (xs.foldl _ (lq a mkE E))↔_;rw [Qv xs,fO,lO,ap1,or_assoc]
theorem Vm (xs:List (List Int)) (x:List Int):x∈jw (eS xs)↔x∈xs:=by
 rw [eS,Qv];exact ⟨fun q=>q.elim (fun q=>by cases q) id,.inr⟩
theorem Qw:∀ (xs:List (List Int)) (E:List (List Int × Value)),(∀ e∈E,e.2=mkE)→∀ e∈xs.foldl (fun E a=>lq a mkE E) E,e.2=mkE
 | [], _, h => h
 | a :: xs, E, h => Qw xs _ fun e he => (uI he).elim (fun q => by rw [q]) (h e)
section
variable {b:World} {F:List SP} {ga g1:Nat} {va:Value} {D:List (List Int)}
theorem Lw {A:Option Addr} {n c:Nat}:SC Tryz.prog s7 [.slice A n c] b F (fun u F'=>∃ g,u = .func (.func lg) ⟨[]⟩ ⟨[pp g]⟩∧F'=pt g jb [.slice A n c]::F):=by
 refine ao Tryz.func128 Z Z Z <| anf <| br Z Z Z Z Z fun gs=>ae Z <| aby <| apn Z Z <| ane <| aj <| bh Z Z av ?_
 exact ⟨gs,rfl,rfl⟩
theorem Lx {m:Nat} {J:List (List Int)→SP} {A:Option Addr} {c:Nat} (hY:xy Tryz.prog m b okI J) (ha:∀ w,Sat b F w→SL w 32 (.slice A D.length c) D.length (flC u8s D)) (hD:∀ x∈D,idOk x) (hn:D.length≤1000) :
  SC Tryz.prog lg [.func (.yield m) ⟨[]⟩ ⟨[]⟩,pp g1] b (J []::pt g1 jb [.slice A D.length c]::F) (fun _ F'=>F'=J D::pt g1 jb [.slice A D.length c]::F):=by
 refine ao Tryz.func203 Z Z Z <| bu (fun w H=>ci (ha w (H.ent (af 2 [] Z)))) ?_;rintro ⟨_,_,hv,_,_,_,h4,_⟩;cases hv;refine anf <| ba 1 Z Z Z <| apn Z Z <| ane <| ak <| d6 (S:=Nat) (fun i=> [(0,.func (.yield m) ⟨[]⟩ ⟨[]⟩),(1,pp g1),(5,.slice A D.length c),(6,ii D.length),(7,ii i)]) (fun i=>J (D.take i)::pt g1 jb [.slice A D.length c]::F) (fun i=>i≤D.length) (fun i=>D.length - i) 0 av (aqc _) ?_;intro i hi;refine anf <| ae Z <| ane <| ac ?_;refine cj Z (fun h1=> ?_) (fun h1=> ?_)
 ·have h1':i<D.length:=by omega
  obtain ⟨gg,oo,rfl⟩:=h4 (by omega);have h32:∀ x∈D,(u8s x).length=32:=fun x hx=>by rw [bz,(hD x hx).1]
  have hc2:∀ w,Sat b F w→∀ j,j<32→w.cell? ⟨gg,oo+i*32+j,none⟩=(u8s D[i])[j]?:=fun w H j hj=>ej (ha w H) h32 h1' hj
  have hx:=hD _ (apw h1');have hsn:D.take (i+1)=D.take i ++ [D[i]]:=apz h1';generalize D[i]=x at *;have xl:(u8s x).length=32:=by rw [bz,hx.1]
  refine ah <| ab <| ac <| ak <| anf <| ay Z ?_;refine fc Z (fun w H=>di (cs:=u8s x) Z Z Z xl (fun j hj=>by rw [b5,apu];exact hc2 w (H.ent (af 2 [] Z)) j (by rw [xl] at hj;exact hj))) Z ?_;refine bq Z Z Z Z Z fun g4=> ?_
  skip
  refine eh 0 Z Z Z Z Z Z Z (by rw [bz,hx.1];rfl) (ec _) (by simp [hx.1]) ?_;refine aby <| ae Z <| b7 0 Z Z Z Z Z Z (ek hx.1) Z ?_;refine uo hY Z Z Z (af 2 [1,0] Z) ⟨rfl,hx,by rw [ap7];omega⟩ ?_;refine ae Z <| ane <| ai Z <| ah <| bg <| ab <| aa <| ay Z <| ae Z <| ad ?_;rw [show (i:Int)+1=((i+1:Nat):Int) by omega];refine dj (i+1) ?_ (show i+1≤D.length by omega);rw [hsn];exact af 2 [0] Z
 ·obtain rfl:i=D.length:=by omega
  rw [aqk];refine b8 <| aw <| ax <| aq <| io Z .nil av ?_
  rfl
theorem Ly {gf:Nat} {caps:List Value} [Bodied Tryz.prog gf] {T:List (List Int)→List SP→Prop}
  (hg:∀ m J,xy Tryz.prog m b okI J→SC Tryz.prog gf (.func (.yield m) ⟨[]⟩ ⟨[]⟩::caps) b (J []::F) (fun _ F'=>∃ l F2,F'=J l::F2∧T l F2)) :
  SC Tryz.prog pD [.map (some ga),.func (.func gf) ⟨[]⟩ ⟨caps⟩] b (mpI ga []::F) (fun u F'=>∃ l F2,T l F2∧u = .map (some ga)∧F'=mpI ga (eS l)::F2):=by
 refine yt Tryz.func127 Z Z Z <| anf <| br Z Z Z Z Z fun g2=>ae Z <| ane <| ac <| anf <| ae Z <| ane <| ak ?_
 refine qs Z okI (fun l=> [mpI ga (eS l),pt g2 yx [.map (some ga)]]) F T (af 2 [1,0] Z) Z ?_ ?_ hg ?_
 ·rintro xs a vs A ⟨rfl,_⟩;rfl
 ·rintro m2 D2 l x vs A F0 Rr ⟨rfl,hx,hl⟩ hR;refine aa <| bq Z Z Z Z Z fun g5=> ?_
  skip
  refine eh 0 Z Z Z Z Z Z Z (by rw [bz,hx.1];rfl) (ec _) (by simp [hx.1]) ?_;refine ad <| ri (af 6 [1,2,3,4,5,0] Z) <| mM <| ak <| aa <| ba 3 Z Z Z <| b7 5 Z Z Z Z Z Z (ek hx.1) Z <| ae Z <| mI 2 (a:=x) (v:=mkE) (L:=eS l) aV hx Z Z Z Z Z Z Z Z <| ad <| bg <| ri (af 6 [0,1,2,3,4] Z) <| r8 fun w H=>hR w <| H.ent ?_
  rw [Vl];exact Ent.refl _
 ·rintro D2 l F2 hT;refine bg <| ab <| anf <| ba 2 Z Z Z <| ae Z <| ane <| aj <| pX Z (k:=0) Z Z (.tmp Z .nil) (af 3 [1] Z) ?_;exact ⟨l,F2,hT,rfl,rfl⟩
theorem Qx {g10:Nat} {x:List Int} {E:List (List Int × Value)} (hx:idOk x) (hE:∀ e∈E,e.2=mkE) :
  SC Tryz.prog cL [idV x,pp g10] b (pt g10 yx [.map (some ga)]::mpI ga E::F) (fun u F'=>u = .bool (decide (x∈jw E))∧F'=pt g10 yx [.map (some ga)]::mpI ga E::F):=by
 refine ao Tryz.func130 Z Z Z <| anf <| br Z Z Z Z Z fun g2=>ae Z <| aby <| ba 1 Z Z Z <| b7 0 Z Z Z Z Z Z (ek hx.1) Z ?_
 by_cases h:x∈jw E
 ·have hg:jl x E=some mkE:=by
   have h1:=yZ (a:=x) (l:=E);rw [ap5 h] at h1;cases hg:jl x E with
   | none => rw [hg] at h1; cases h1
   | some v =>
    obtain ⟨e,he,rfl⟩:=uK hg;rw [hE e he]
  refine dW 2 (a:=x) (L:=E) aV hx hg Z Z Z Z Z Z Z Z <| apo Z Z Z <| bq Z Z Z Z Z fun g4=>cg 0 Z Z Z Z <| ae Z <| aby <| apn Z Z <| ane <| aj <| bh Z Z (af 2 [] Z) ?_
  exact ⟨ap2 Value.bool (ap5 h).symm,rfl⟩
 ·refine vm 2 (a:=x) (L:=E) aV hx (r7 h) Z Z Z Z Z Z Z Z <| apo Z Z Z <| bq Z Z Z Z Z fun g4=>cg 0 Z Z Z Z <| ae Z <| aby <| apn Z Z <| ane <| aj <| bh Z Z (af 2 [] Z) ?_
  exact ⟨ap2 Value.bool (aqo h).symm,rfl⟩
end

def fgQ (a:List Int) (L:List Ql):List Ql:=L.filter fun e=>decide (e.id≠a)
theorem uN {a:List Int} {L:List Ql} (h:∀ e∈L,e.id≠a):fgQ a L=L:=by
 unfold fgQ;rw [aq9];intro e he;exact ap5 (h e he)
theorem Lz {a:List Int} {L1 L2:List Ql} {e:Ql} (h1:∀ x∈L1,x.id≠a) (h2:∀ x∈L2,x.id≠a) (he:e.id=a):fgQ a (L1++e::L2)=L1++L2:=by
 have e1:=uN h1;have e2:=uN h2;unfold fgQ at *;rw [ari,ard,e1,e2];simp [he]
theorem Vn {a:List Int} {L:List Ql} {e:Ql}:e∈fgQ a L↔e∈L∧e.id≠a:=by simp [fgQ]
structure LkI (L:List Ql):Prop where
 nd:(L.map Ql.id).Nodup
 n:∀ e∈L,0≤e.n∧e.n≤4096
 l:L.length≤100
theorem LkI.sum {L:List Ql} (h:LkI L):0≤n5 L∧n5 L≤1000000:=by
 have key:∀ (L:List Ql),(∀ e∈L,0≤e.n∧e.n≤4096)→0≤n5 L∧n5 L≤4096*L.length:=by
  intro L
  induction L with
  | nil => intro _; exact ⟨by decide, by decide⟩
  | cons x L ih =>
   intro hx;have h1:=ih fun e he=>hx e (.tail _ he)
   have h2:=hx x (.head _);have h3:n5 (x::L)=x.n+n5 L:=by simp [n5]
   rw [h3,ap3];omega
 have h1:=key L h.n;have h2:=h.l;omega
theorem LkI.fg {L:List Ql} (h:LkI L) (a:List Int):LkI (fgQ a L) where
 nd:=List.Nodup.sublist (List.Sublist.map _ (List.filter_sublist)) h.nd
 n:=fun e he=>h.n e (Vn.1 he).1
 l:=art (ar5 _ _) h.l
theorem oX {a:List Int}:∀ {L:List Ql},(L.map Ql.id).Nodup→(∃ e∈L,e.id=a)→∃ L1 e L2,L=L1++e::L2∧e.id=a∧(∀ x∈L1,x.id≠a)∧∀ x∈L2,x.id≠a
 | [], _, h => by obtain ⟨e, he, _⟩ := h; cases he
 | x :: L, hn, h => by
  rw [aqt,asb] at hn;by_cases hx:x.id=a
  ·exact ⟨[],x,L,rfl,hx,(fun y hy=>by cases hy),fun y hy q=>hn.1 (by rw [hx,← q];exact asz hy)⟩
  ·obtain ⟨e,he,h1⟩:=h;rcases ap1.1 he with rfl | he
   ·exact absurd h1 hx
   obtain ⟨L1,e2,L2,q1,q2,q3,q4⟩:=oX hn.2 ⟨e,he,h1⟩;exact ⟨x::L1,e2,L2,by rw [q1];rfl,q2,fun y hy=>(ap1.1 hy).elim (fun q=>q▸hx) (q3 y),q4⟩
section
variable {b:World} {F:List SP} {gq gl gu gv:Nat} {lim:Int} {s:ByteArray} {L:List Ql} {h:Value}
theorem Gv {id:List Int} (hs:s.size≤maxLen) (hid:idOk id) (hL:LkI L) :
  SC Tryz.prog nt [pp gq,idV id] b (stQ gq gl gu gv lim h s L F) (fun u F'=>u=ii ((L.length:Int) - (fgQ id L).length)∧F'=stQ gq gl gu gv lim h s (fgQ id L) F):=by
 by_cases hex:∃ e∈L,e.id=id
 ·obtain ⟨L1,e,L2,rfl,he,h1,h2⟩:=oX hL.nd hex;have hf:=hL.fg id;rw [Lz h1 h2 he] at hf ⊢;refine (Do hs hid h1 he hf.sum (hL.n e (by simp)) (by have:=hf.l;omega)).mono ?_;rintro _ _ ⟨rfl,rfl⟩;refine ⟨ap2 (Value.int .i64) ?_,rfl⟩;simp only [aps,ap3];omega
 ·have hno:∀ e∈L,e.id≠id:=fun e he q=>hex ⟨e,he,q⟩
  rw [uN hno];refine (Dn hs hid hno).mono ?_;rintro _ _ ⟨rfl,rfl⟩;exact ⟨ap2 (Value.int .i64) (by omega),rfl⟩
end
def zM (l:List Kp):Int:=(l.map fun e=>(e.b.length:Int)).sum
structure StK (l:List Kp) (u:Int):Prop where
 id:∀ e∈l,idOk e.id
 nd:(l.map Kp.id).Nodup
 b:∀ e∈l,e.b.length≤4096
 u:u=zM l
 n:l.length≤100
theorem qI {l:List Kp} (h:∀ e∈l,e.b.length≤4096):0≤zM l∧zM l≤4096*l.length:=by
 induction l with
 | nil => exact ⟨by decide, by decide⟩
 | cons x l ih =>
  have h1:=ih fun e he=>h e (.tail _ he)
  have h2:=h x (.head _);have h3:zM (x::l)=x.b.length+zM l:=by simp [zM]
  rw [h3,ap3];omega
theorem fS {a:List Int}:∀ {l:List Kp},(l.map Kp.id).Nodup→a∈l.map Kp.id→∃ l1 e l2,l=l1++e::l2∧e.id=a∧eq a l=some e∧fC a l=l1++l2
 | [], _, h => by cases h
 | x :: l, hn, h => by
  rw [aqt,asb] at hn;by_cases hx:x.id=a
  ·exact ⟨[],x,l,rfl,hx,by unfold eq;rw [if_pos hx],by unfold fC;rw [if_pos hx];rfl⟩
  ·have hm:a∈l.map Kp.id:=by
    rcases ap1.1 h with q | q
    ·exact absurd q.symm hx
    ·exact q
   obtain ⟨l1,e,l2,q1,q2,q3,q4⟩:=fS hn.2 hm;exact ⟨x::l1,e,l2,by rw [q1];rfl,q2,by unfold eq;rw [if_neg hx];exact q3,by unfold fC;rw [if_neg hx,q4];rfl⟩
theorem StK.del {l:List Kp} {u:Int} (h:StK l u) {a:List Int} (ha:a∈l.map Kp.id):∃ e,eq a l=some e∧e∈l∧e.id=a∧StK (fC a l) (u - e.b.length)∧(fC a l).length+1=l.length∧∀ x,x∈(fC a l).map Kp.id↔x∈l.map Kp.id∧x≠a:=by
 obtain ⟨l1,e,l2,q1,q2,q3,q4⟩:=fS h.nd ha;have hsub:∀ x∈l1++l2,x∈l:=fun x hx=>by
  rw [q1];rcases ap6.1 hx with q | q
  ·exact aqu _ q
  ·exact aq3 _ (.tail _ q)
 have hnd:=h.nd;rw [q1,aqa,aqt] at hnd;have hnd2:=asb.1 (aqz.nodup_iff.1 hnd);rw [← aqa] at hnd2;refine ⟨e,q3,by rw [q1];simp,q2,⟨fun x hx=>h.id x (hsub x (q4▸hx)),by rw [q4];exact hnd2.2,fun x hx=>h.b x (hsub x (q4▸hx)),?_,?_⟩,?_,fun x=> ?_⟩
 ·rw [h.u,q4,q1];simp [zM];omega
 ·have:=h.n;rw [q1] at this;rw [q4];simp at this ⊢;omega
 ·rw [q4,q1];simp;omega
 ·rw [q4,q1];rw [q2] at hnd2
  constructor
  ·intro hx;refine ⟨?_,fun q=>hnd2.1 (q▸hx)⟩;rw [aqa] at hx;rw [aqa,aqt];rcases ap6.1 hx with q | q
   ·exact aqu _ q
   ·exact aq3 _ (.tail _ q)
  ·rintro ⟨hx,hne⟩;rw [aqa,aqt] at hx;rw [aqa];rcases ap6.1 hx with q | q
   ·exact aqu _ q
   ·rcases ap1.1 q with q | q
    ·exact absurd (q.trans q2) hne
    ·exact aq3 _ q

def fgA (P:List (List Int)) (L:List Ql):List Ql:=L.filter fun e=>decide (e.id∉P)
theorem Ji (L:List Ql):fgA [] L=L:=by
 unfold fgA;rw [aq9];intro e _;exact ap5 (by simp)
theorem Qy (P:List (List Int)) (a:List Int) (L:List Ql):fgQ a (fgA P L)=fgA (P ++ [a]) L:=by
 unfold fgQ fgA;rw [aso];congr 1;funext e;simp only [ap6,apy,not_or,Bool.decide_and];rw [Bool.and_comm]
theorem Vo {a:List Int} {L:List Ql}:(fgQ a L).length≤L.length:=ar5 _ _
theorem Qz {A:Option Addr} {c:Nat} {l:List (List Int)}:rN A c l.length l=rJ (.slice A l.length c) l:=by rw [rN,rJ,yz]
structure Swp (l l':List Kp) (u':Int) (L L':List Ql) (P:List (List Int)):Prop where
 k:StK l' u'
 q:LkI L'
 i:∀ x,x∈l'.map Kp.id↔x∈l.map Kp.id∧x∉P
 f:∀ x,x∉P→eq x l'=eq x l
 L:L'=fgA P L
section
variable {b:World} {F:List SP} {gs gm gq gl gu gv:Nat} {w r u lim:Int} {s:ByteArray} {l:List Kp} {L:List Ql} {h mv:Value} {D:List (List Int)}
set_option maxHeartbeats 16000000 in
theorem zN (hw:w≠0) (hs:s.size≤maxLen) (hs0:(⟨#[]⟩:ByteArray)≠s) (hl:StK l u) (hL:LkI L) (hm:∀ w,Sat b F w→SL w 32 mv D.length (flC u8s D)) (hD:∀ x∈D,idOk x) (hn:D.length≤1000) :
  SC Tryz.prog zd [pp gs,pp gq,mv] b (stB gs gm w r u l (stQ gq gl gu gv lim h s L F)) (fun v F'=>∃ o O l' u' L' h',v = .tuple ⟨[.agg ⟨[o,ii (u - u'),ii ((L.length:Int) - L'.length)]⟩,ii 0]⟩∧O.Pairwise leM∧O.Nodup∧(∀ x,x∈O↔x∈l.map Kp.id∧x∉D)∧Swp l l' u' L L' O∧F'=rJ o O::stB gs gm w r u' l' (stQ gq gl gu gv lim h' s L' F)):=by
 have hzid:idOk (List.replicate 32 0):=⟨rfl,fun x hx=>by rw [asr hx];rfl⟩;have hrn:jk (dz ⟨#[]⟩)≠(0,0):=by decide +kernel
 refine ao Tryz.func58 Z Z Z <| bu (fun w H=>ci (hm w (H.ent (af 7 [] Z)))) ?_;rintro ⟨Am,cm,rfl,_⟩;refine anf <| bq Z Z Z Z Z fun g6=>ae Z <| ane <| ac <| anf <| apn Z Z <| am Z Z Z ((Qn (r:=⟨#[]⟩) (id:=List.replicate 32 0) (n:=0) (F:=pt g6 ky [nilV,ii 0,ii 0]::stB gs gm w r u l F) (by decide) hrn hs0 hzid).ent (af 8 [4,5,6,7,0,1,2,3] Z)) ?_
 rintro _ _ ⟨rfl,h1,rfl⟩
 (iterate 5 refine ae Z ?_)
 refine aby <| ae Z <| au Z Z Z ((Hw (F:=stQ gq gl gu gv lim h1 s L (pt g6 ky [nilV,ii 0,ii 0]::F))).at (af 8 [5,6,7,0,1,2,3,4] Z) (af 8 [3,4,5,6,7,0,1,2] Z)) <| apn Z Z <| iQ 24 Z hw <| apo Z Z Z <| ane <| ai Z <| ah <| ab <| anf <| qq idK idOk Z Z Z fun ga=>ae Z <| am Z Z Z (Lw) ?_
 rintro _ _ ⟨g1,rfl,rfl⟩;refine am rfl rfl rfl ((Ly (F:=pt g1 jb [.slice Am D.length cm]::stQ gq gl gu gv lim h1 s L (pt g6 ky [nilV,ii 0,ii 0]::stB gs gm w r u l F)) (T:=fun x F2=>D=x∧F2=pt g1 jb [.slice Am D.length cm]::stQ gq gl gu gv lim h1 s L (pt g6 ky [nilV,ii 0,ii 0]::stB gs gm w r u l F)) (fun m J hY=>(Lx hY (up hm (af 8 [] rfl)) hD hn).mono (by rintro _ _ rfl;exact ⟨_,_,rfl,rfl,rfl⟩))).ent (af 2 [1,0] rfl)) ?_;rintro _ _ ⟨_,_,⟨rfl,rfl⟩,rfl,rfl⟩
 skip
 refine bq Z Z Z Z Z fun g10=>cg 0 Z Z Z Z <| aby <| ae Z ?_
 refine am Z Z Z ((Od (l:=l) (fun e he=>hl.id e he) (by have:=hl.n;omega)).ent (af 11 [8,9,10,0,1,2,3,4,5,6,7] Z)) ?_;rintro _ _ ⟨A,c,Q,rfl,q1,q2,rfl⟩;have hQl:Q.length=l.length:=by rw [q2.length_eq,ap9]
 have hQi:∀ x∈Q,idOk x:=fun x hx=>by
  obtain ⟨e,he,rfl⟩:=ap8.1 (q2.mem_iff.1 hx);exact hl.id e he
 have hQn:Q.Nodup:=q2.nodup_iff.2 hl.nd;rw [Qz];refine ae Z ?_;refine am Z Z Z ((al9 (A:=A) (c:=c) (D:=Q) (f:=cL) (pre:= []) (post:= [pp g10]) (p:=fun x=>decide (x∈D)) (F:=pt g10 yx [.map (some ga)]::mpI ga (eS D)::pt g1 jb [.slice Am D.length cm]::stQ gq gl gu gv lim h1 s L (pt g6 ky [nilV,ii 0,ii 0]::stB gs gm w r u l F)) (fun x hx B=>by
  have e1:=Vm D x;have e2:decide (x∈D)=decide (x∈jw (eS D)):=ash.2 e1.symm;rw [e2];exact (Qx (b:=b) (F:=B++(pt g1 jb [.slice Am D.length cm]::stQ gq gl gu gv lim h1 s L (pt g6 ky [nilV,ii 0,ii 0]::stB gs gm w r u l F))) (hQi x hx) (Qw D [] (fun e he=>by cases he))).at (kh (aqz.trans (List.Perm.cons _ aqz))) (kh (aqz.trans (List.Perm.cons _ aqz)).symm)) (fun x hx=>by rw [bz,(hQi x hx).1]) (fun d _ u hu=>ec d u hu) (by have:=hl.n;omega)).ent (af 12 [0,4,5,6,7,8,9,10,11,1,2,3] Z)) ?_
 have hO0:(Q.filter fun e=> !decide (e∈D)).Pairwise leM∧(Q.filter fun e=> !decide (e∈D)).Nodup∧(∀ x,x∈Q.filter (fun e=> !decide (e∈D))↔x∈l.map Kp.id∧x∉D)∧(Q.filter fun e=> !decide (e∈D)).length≤100:=by
  refine ⟨q1.sublist List.filter_sublist,hQn.sublist List.filter_sublist,fun x=> ?_,?_⟩
  ·rw [aqv,q2.mem_iff];simp
  ·exact art (ar5 _ _) (by have:=hl.n;omega)
 generalize Q.filter (fun e=> !decide (e∈D))=O at *;obtain ⟨o1,o2,o3,o4⟩:=hO0;have hOi:∀ x∈O,idOk x:=fun x hx=>by
  obtain ⟨e,he,rfl⟩:=ap8.1 ((o3 x).1 hx).1;exact hl.id e he
 rintro _ _ ⟨rfl,rfl⟩;refine ae Z <| dS 8 Z Z Z Z Z Z Z Z Z Z <| ane <| ac <| anf <| ae Z <| ba 8 Z Z Z <| apn Z Z <| ane <| ak ?_;have hu0:=qI hl.b;have hu1:=hl.u;have hu2:=hl.n;have hL2:=hL.l;refine d6 (S:=Nat × List Kp × Int × List Ql × Value) (fun s=> [(0,pp gs),(1,pp gq),(6,pp g6),(39,.slice A O.length c),(40,ii O.length),(41,ii s.1)])
  (fun z=>rJ (.slice A O.length c) O::stQ gq gl gu gv lim z.2.2.2.2 s z.2.2.2.1 (pt g6 ky [.slice A O.length c,ii (u - z.2.2.1),ii ((L.length:Int) - z.2.2.2.1.length)]::stB gs gm w r z.2.2.1 z.2.1 F))
  (fun z=>z.1≤O.length∧Swp l z.2.1 z.2.2.1 L z.2.2.2.1 (O.take z.1)) (fun z=>O.length - z.1) (0,l,u,L,h1) (by dsimp only;rw [Int.sub_self,Int.sub_self];exact af 12 [0,4,5,6,7,8,9,10,11] Z) ⟨aqc _,⟨hl,hL,fun x=>by simp,fun x _=>rfl,(Ji L).symm⟩⟩ ?_
 rintro ⟨i,l',u',L',h'⟩ ⟨hi,hS⟩;dsimp only at hi hS ⊢;have hv0:=qI hS.k.b;have hv1:=hS.k.u;have hv2:=hS.k.n;have hL3:=hS.q.l;refine anf <| ae Z <| ane <| ac ?_;refine cj Z (fun g1=> ?_) (fun g1=> ?_)
 ·have g1':i<O.length:=by omega
  refine bu (fun w H=>ci ((H.oat (k:=0) Z).sl)) ?_;rintro ⟨_,_,hv,_,_,_,h4,_⟩;cases hv;obtain ⟨gg,oo,rfl⟩:=h4 (by omega);have h32:∀ x∈O,(u8s x).length=32:=fun x hx=>by rw [bz,(hOi x hx).1]
  have hx:=hOi _ (apw g1');have hxo:=(o3 _).1 (apw g1');have hxt:O[i]∉O.take i:=fun q=>by
   obtain ⟨j,hj,e⟩:=List.getElem_of_mem q;rw [List.getElem_take] at e;rw [ap7] at hj;exact arg.1 o2 j i _ _ (by omega) e
  have hc2:∀ (F:List SP) w,Sat b (rJ (.slice (some ⟨gg,oo,none⟩) O.length c) O::F) w→∀ j,j<32→w.cell? ⟨gg,oo+i*32+j,none⟩=(u8s O[i])[j]?:=fun F w H j hj=>ej ((H.oat (k:=0) Z).sl) h32 g1' hj
  have hsn:O.take (i+1)=O.take i ++ [O[i]]:=apz g1';generalize O[i]=x at *;have xl:(u8s x).length=32:=by rw [bz,hx.1]
  obtain ⟨e,e1,e2,e3,e4,e5,e6⟩:=hS.k.del ((hS.i x).2 ⟨hxo.1,hxt⟩);have e7:=hS.k.b e e2;have e8:(e.b.length:Int)≤u':=by
   have:=qI e4.b;have:=e4.u;omega
  refine ah <| ab <| ac <| ak <| anf <| ay Z ?_;refine fc Z (fun w H=>di (cs:=u8s x) Z Z Z xl (fun j hj=>by rw [b5,apu];exact hc2 _ w H j (by rw [xl] at hj;exact hj))) Z ?_;refine bq Z Z Z Z Z fun g12=> ?_
  skip
  refine eh 0 Z Z Z Z Z Z Z (by rw [bz,hx.1];rfl) (ec _) (by simp [hx.1]) ?_;refine aby <| ae Z <| b7 0 Z Z Z Z Z Z (ek hx.1) Z <| am Z Z Z ((wS (l:=l') hx e1 (by omega)).ent (af 10 [7,8,9,0,1,2,3,4,5,6] Z)) ?_;rintro _ _ ⟨rfl,rfl⟩
  (iterate 5 refine ae Z ?_)
  refine aby <| ae Z <| b7 3 Z Z Z Z Z Z (ek hx.1) Z <| am Z Z Z (Ko (l:=l') hx e1 (by omega) e8 (by omega)) ?_;rintro _ _ ⟨rfl,rfl⟩;refine aby <| ae Z <| ba 9 Z Z Z <| ae Z <| ay Z <| ae Z <| dS 9 Z Z Z Z Z Z Z Z Z Z <| ane <| qb (af 10 [5,6,7,8,9,0,1,2,3,4] Z) <| ij flo 7 (pt g12 t_api_ID (u8s x)::pt g6 ky [.slice (some ⟨gg,oo,none⟩) O.length c,ii (u - u'+e.b.length),ii ((L.length:Int) - L'.length)]::F) [] Z (by decide +kernel) (af 10 [8,4] Z) <| bj Z Zl <| cd 1 Z Z Z Z <| bj Z Zl <| fw 0 Z Z Z Z Z Z (ek hx.1) Z Z <| dh Z Z Z Z (Gv hs hx hS.q) ?_;rintro _ _ ⟨rfl,rfl⟩;refine ⟨af 10 [8,4] rfl,?_⟩;have hfl:=Vo (a:=x) (L:=L');refine dx Z Z <| bj Z Zl <| ap <| ik Z (dc _) ?_
  skip
  refine xw 4 Z Z Z Z Z Z Z Z Z Z Z (dc _) <| ap <| bg <| ab <| aa <| ay Z <| ae Z <| ad ?_;rw [show (i:Int)+1=((i+1:Nat):Int) by omega];refine i9 (i+1,fC x l',u' - e.b.length,fgQ x L',h') ?_ ⟨show i+1≤O.length by omega,?_⟩ (show O.length - (i+1)<O.length - i by omega)
  ·dsimp only;rw [show u - (u' - (e.b.length:Int))=u - u'+e.b.length by omega,show ((L.length:Int) - (fgQ x L').length)=(L.length:Int) - L'.length+((L'.length:Int) - (fgQ x L').length) by omega];exact af 10 [9,0,1,2,3,4,5,6,7] Z
  ·dsimp only;rw [hsn];refine ⟨e4,hS.q.fg x,fun y=> ?_,fun y hy=> ?_,?_⟩
   ·rw [e6,hS.i,ap6,apy,not_or,and_assoc]
   ·rw [ap6,apy,not_or] at hy;rw [Ks hy.2,hS.f y hy.1]
   ·rw [hS.L,Qy]
 ·obtain rfl:i=O.length:=by omega
  rw [aqk] at hS;refine b8 <| aw <| ax <| aq <| ab <| anf <| ba 5 Z Z Z <| cg 5 Z Z Z Z <| ae Z <| ane <| aj <| ez Z (.agg 5 Z Z Z Z Z (.tmp Z .nil)) (af 9 [0,6,7,8,1,2,3,4] Z) ?_;exact ⟨_,O,l',u',L',h',rfl,o1,o2,o3,hS,rfl⟩
end

structure Bl where
 v:Value
 b:List Int
def blF (l:List Bl):List SP:=l.map fun e=>rB e.v e.b
abbrev rBl (v:Value) (l:List Bl):SP:=row eo 1 v l.length (l.map Bl.v)
section
variable {b:World} {F:List SP} {l:List Bl} {v:Value}
theorem Jj {α β:Type} {f:α→β}:∀ {l:List α} {j:Nat} (hj:j<l.length),nth (l.map f) j=some (f l[j])
 | x :: l, 0, _ => rfl
 | x :: l, j + 1, h => by
  show nth (l.map f) j=_;exact Jj (l:=l) (by simpa using h)
theorem amv {k:Nat} (hk:nth F k=some (all (blF l))) {j:Nat} (hj:j<l.length):∀ w,Sat b F w→VL (Value.int .u8) w l[j].v l[j].b:=fun w H=>by
 obtain ⟨h1,L,H1,a,b',cc⟩:=H.mem.get hk;have hn:nth (blF l) j=some (rB l[j].v l[j].b):=Jj hj;exact (pU ((a j).trans L) (cc j _ hn)).sl
variable {xss:List (List Int)}
theorem Dp (hl:LB b v xss) (hF:nth F 0=some (Is b)) (hn:xss.length≤100) (hm:∀ xs∈xss,xs.length≤4096):SC Tryz.prog aA [v] b F (fun u F'=>∃ l:List Bl,l.map Bl.b=xss∧F'=rBl u l::all (blF l)::F):=by
 obtain ⟨A,c,rfl,f1,f2,f3⟩:=hl.get;refine ao Tryz.func10 Z Z Z <| anf <| ae Z <| aby <| ae Z <| ane <| ac <| anf <| ae Z <| ane <| ak ?_;refine d6 (S:=Nat × Value × List Bl) (fun s=> [(0,.slice A xss.length c),(3,s.2.1),(4,ii s.1)]) (fun s=>rBl s.2.1 s.2.2::all (blF s.2.2)::F) (fun s=>s.1≤xss.length∧s.2.2.map Bl.b=xss.take s.1) (fun s=>xss.length - s.1) (0,.slice none 0 0,[]) ((de eo 1 Z).trans ((ee (G:= [])).trans (af 2 [1,0] Z))) ⟨aqc _,by simp⟩ ?_;rintro ⟨i,u,l⟩ ⟨hi,hk⟩;dsimp only at hi hk ⊢;have hll:l.length=i:=by
  have:=ap2 List.length hk;rw [ap9,ap7] at this;omega
 refine ac <| anf <| apo Z Z Z <| ae Z <| ane ?_;refine cj Z (fun h1=> ?_) (fun h1=> ?_)
 ·have h1':i<xss.length:=by omega
  obtain ⟨bk,off,u1,rfl,g1,g2,g3,g4⟩:=f3 i h1';have hsn:xss.take (i+1)=xss.take i ++ [xss[i]]:=apz h1';have hx:=hm _ (apw h1');generalize xss[i]=x at *;refine ah <| ab <| ac <| ak <| aa <| apo Z Z Z <| ay Z ?_;refine fc Z (fun w H=>bx Z Z Z (by rw [b5,aq8];exact Hy hF g1 g2 w (H.ent (af 2 [] Z)))) Z ?_;refine am Z Z Z (SC.ofMade fun w H=>sU (xs:=x) (g3.ext ((H.is (k:=2) (by exact hF)))) (by omega)) ?_;rintro rc _ rfl;refine b6 (fun w H=>(H.oat (k:=0) Z).form) ?_;rintro ⟨A7,c7,rfl,_,_,_⟩;refine lp [.slice A7 x.length c7] Z Z Z Z Z Z Z Z Z fun gl=> ?_;refine ef 2 Z Z Z Z Z Z Z Z Z (m:=1) (news:= [.slice A7 x.length c7]) (fun w H=>(H.blk (k:=0) Z).sl Z (by decide)) (fun u hu=>by rw [apy.1 hu];rfl) (by omega) (fun _=>rfl) fun v8=> ?_;refine ae Z <| ad <| bg <| ab <| aa <| ae Z <| ay Z <| ae Z <| ad ?_;refine i9 (i+1,v8,l ++ [⟨.slice A7 x.length c7,x⟩]) ?_ ⟨show i+1≤xss.length by omega,?_⟩ (show xss.length - (i+1)<xss.length - i by omega)
  ·dsimp only;have e1:rBl v8 (l ++ [⟨.slice A7 x.length c7,x⟩])=row eo 1 v8 (l.length+1) (l.map Bl.v ++ [.slice A7 x.length c7]):=by simp [rBl]
   have e2:(blF (l ++ [⟨.slice A7 x.length c7,x⟩])).Perm ([rB (.slice A7 x.length c7) x]++blF l):=by
    unfold blF;rw [aqa];exact ase
   rw [e1];exact (af 4 [1,3,2] Z).trans ((qd e2).trans (af 2 [1,0] Z))
  ·dsimp only;rw [hsn,aqa,hk];rfl
 ·obtain rfl:i=xss.length:=by omega
  rw [aqk] at hk;refine b8 <| aw <| ax <| aq <| ab <| anf <| apn Z Z <| ane <| aj <| bh Z Z av ?_;exact ⟨l,hk,rfl⟩
end

section
variable {b:World} {F:List SP}
theorem oY {va vb:Value} {l:List Dc} (ha:∀ w,Sat b F w→SL w 35 va l.length (flC dcC l)) (hb:∀ w,Sat b F w→SL w 35 vb l.length (flC dcC l)) (hl:Cx l) (hm:l.length≤1000000):SC Tryz.prog aF [va,vb] b F (fun v F'=>v = .bool true∧F'=F):=by
 refine ao Tryz.func55 Z Z Z <| bu (fun w H=>ci (ha w H)) ?_;rintro ⟨A,c,rfl,h1,h2,h3,h4,_⟩;refine bu (fun w H=>ci (hb w H)) ?_;rintro ⟨B,d,rfl,q1,q2,q3,q4,_⟩;refine anf <| ae Z <| aby ?_
 (iterate 6 refine ae Z ?_)
 refine ane <| ac <| anf <| ae Z <| ane <| ak ?_;refine sm 5 (.bool true) Z (by simp) ?_;refine d6 (S:=Nat) (fun i=> [(0,.slice A l.length c),(1,.slice B l.length d),(5,.bool true),(6,ii i)]) (fun _=>F) (fun i=>i≤l.length) (fun i=>l.length - i) 0 av (aqc _) ?_;intro i hi;refine ac <| anf ?_
 (iterate 7 refine ae Z ?_)
 refine ane ?_;refine cj Z (fun g1=> ?_) (fun g1=> ?_)
 ·have g1':i<l.length:=by omega
  obtain ⟨gA,oA,rfl⟩:=h4 (by omega);obtain ⟨gB,oB,rfl⟩:=q4 (by omega);have hx:=hl _ (apw g1');have hxl:=d8 hx;have ca:∀ w,Sat b F w→∀ j,j<35→w.cell? ⟨gA,oA+i*35+j,none⟩=(dcC l[i])[j]?:=fun w H j hj=>ej (f:=dcC) (ha w H) (nP hl) g1' hj
  have cb:∀ w,Sat b F w→∀ j,j<35→w.cell? ⟨gB,oB+i*35+j,none⟩=(dcC l[i])[j]?:=fun w H j hj=>ej (f:=dcC) (hb w H) (nP hl) g1' hj
  generalize l[i]=x at *;refine ah <| ab <| ac <| ak <| cq flo _ (by decide +kernel) av <| bj Z Zl <| bj Z Zl <| dx Z Z ?_;refine j7 Z (fun w H=>di (cs:=dcC x) Z Z Z (by rw [hxl];rfl) (fun j hj=>by rw [b5,apu];exact ca w H j (by rw [hxl] at hj;exact hj))) Z Z ?_;refine bj Z Zl <| bj Z Zl <| dx Z Z ?_;refine j7 Z (fun w H=>di (cs:=dcC x) Z Z Z (by rw [hxl];rfl) (fun j hj=>by rw [b5,apu];exact cb w H j (by rw [hxl] at hj;exact hj))) Z Z ?_;refine dU Z (y8 (cx:=⟨dcC x⟩) (cy:=⟨dcC x⟩) Z Z (zE hx)) Z Z <| bj Z Zl <| ap <| bg <| ab <| aa <| ae Z <| ay Z <| ae Z <| ad ?_;refine i9 (i+1) av ?_ ?_
  ·show i+1≤l.length;omega
  ·show l.length - (i+1)<l.length - i;omega
 ·refine b8 <| aw <| ax <| aq <| ab <| anf <| apn Z Z <| ane <| aj <| bh Z Z av ?_;exact ⟨rfl,rfl⟩
variable {m:Mf} {lv sv lw sw:Value}
theorem uO (hc:m.cfg0.id.length=32) (h1:Cx m.layers) (h2:Cx m.subs) (ha:∀ w,Sat b F w→MR w m lv sv) (hb:∀ w,Sat b F w→MR w m lw sw) (hn:m.layers.length≤1000000) (hs:m.subs.length≤1000000) :
  SC Tryz.prog xz [.agg ⟨mfC m lv sv⟩,.agg ⟨mfC m lw sw⟩] b F (fun u F'=>u = .bool true∧F'=F):=by
 refine ao Tryz.func17 Z Z Z <| bu (fun w H=>ci (ha w H).l) ?_;rintro ⟨A1,c1,rfl,_⟩;refine bu (fun w H=>ci (ha w H).s) ?_;rintro ⟨A2,c2,rfl,_⟩;refine bu (fun w H=>ci (hb w H).l) ?_;rintro ⟨A3,c3,rfl,_⟩;refine bu (fun w H=>ci (hb w H).s) ?_;rintro ⟨A4,c4,rfl,_⟩;refine anf <| br Z Z Z Z Z fun g2=>br Z Z Z Z Z fun g3=>ae Z <| aby <| ae Z <| ba 1 Z Z Z <| ae Z <| ba 0 Z Z Z <| apn Z Z <| wt 10 Z Z <| ae Z <| ba 1 Z Z Z <| ae Z <| ba 0 Z Z Z <| apo Z Z Z <| wt 17 Z Z <| ae Z <| b7 1 Z Z Z Z Z Z (Cy hc) Z <| ae Z <| b7 0 Z Z Z Z Z Z (Cy hc) Z <| j6 Z (y8 (cx:=⟨dcC m.cfg0⟩) (cy:=⟨dcC m.cfg0⟩) Z Z (zE hc)) Z <| apo Z Z Z <| ix 1 Z Z Z Z Z Z (oU hc) Z <| ae Z <| ix 0 Z Z Z Z Z Z (oU hc) Z <| au Z Z Z (oY (fun w H=>(ha w (H.ent (af 2 [] Z))).l) (fun w H=>(hb w (H.ent (af 2 [] Z))).l) h1 hn) <| apo Z Z Z <| ix 1 Z Z Z Z Z Z (uC hc) Z <| ae Z <| ix 0 Z Z Z Z Z Z (uC hc) Z <| au Z Z Z (oY (fun w H=>(ha w (H.ent (af 2 [] Z))).s) (fun w H=>(hb w (H.ent (af 2 [] Z))).s) h2 hs) <| apn Z Z <| ane <| aj <| bh Z Z (af 2 [] Z) ?_
 exact ⟨rfl,rfl⟩
end

def arr (id xs:List Int) (l l':List Kp) (u u':Int):Prop:=(eq id l=none∧(∃ g v,l'=l ++ [⟨id,xs,g,v⟩])∧u'=u+xs.length)∨((∃ e,eq id l=some e∧e.b=xs)∧l'=l∧u'=u)
def lkA (id:List Int) (n:Int) (L:List Ql):List Ql:=if id∈L.map Ql.id then L else L ++ [⟨id,n⟩]
section
variable {b:World} {F:List SP} {gs gm gq gl gu gv:Nat} {w r u lim:Int} {s:ByteArray} {l:List Kp} {L:List Ql} {h vb:Value} {xs:List Int}
theorem uP (hb:∀ w,Sat b F w→VL (Value.int .u8) w vb xs) (hlen:xs.length≤4096) (hid:idOk (dq (dt xs) w)) (hl:StK l u) (hbw:∀ e∈l,jd e.b) (hx:jd xs) (hr:r=67108864) (hno:∀ e,eq (dq (dt xs) w) l=some e→e.b=xs) :
  SC Tryz.prog rl [pp gs,idV (dq (dt xs) w),vb] b (stB gs gm w r u l F) (fun v F'=>∃ t l' u',v = .tuple ⟨[.bool t,ii 0]⟩∧arr (dq (dt xs) w) xs l l' u u'∧F'=stB gs gm w r u' l' F):=by
 have h0:=qI hl.b;have h1:=hl.u;have h2:=hl.n;cases hf:eq (dq (dt xs) w) l with
 | none =>
  refine (N8 hb (by omega) hid hf (by omega)).mono fun v F' h=> ?_;have e0:sY (dq (dt xs) w) xs w r u=0:=by
   unfold sY;rw [if_neg (by omega),if_pos rfl,if_neg (by omega)]
  rw [if_pos e0] at h;obtain ⟨h3,g,v1,h4⟩:=h;exact ⟨true,_,_,h3,.inl ⟨hf,⟨g,v1,rfl⟩,rfl⟩,h4⟩
 | some e =>
  have he:=hno e hf;have hm:=uz hf;refine (N9 hb (by omega) hid hf hx (hbw e hm.1)).mono fun v F' h=> ?_;have e0:wU (dq (dt xs) w) xs e w=0:=by
   unfold wU;rw [if_neg (by omega),if_pos rfl,if_pos he]
  rw [e0] at h;exact ⟨false,l,u,h.1,.inr ⟨⟨e,hf,he⟩,rfl,rfl⟩,h.2⟩
theorem xG {id:List Int} {n:Int} (hs:s.size≤maxLen) (hnm:jk (dz s)=(0,0)) (hid:idOk id) (h0:0≤n∧n≤4096) (hL:LkI L) (hn:∀ e∈L,e.id=id→e.n=n) (hlim:lim=1099511627776) :
  SC Tryz.prog ma [pp gq,.string s,idV id,ii n] b (stQ gq gl gu gv lim h s L F) (fun v F'=>∃ t gv' h',v = .tuple ⟨[.bool t,ii 0]⟩∧F'=stQ gq gl gu gv' lim h' s (lkA id n L) F):=by
 have h1:=hL.sum;have h2:=hL.l;unfold lkA;by_cases hm:id∈L.map Ql.id
 ·rw [if_pos hm];refine (Lv hs hnm hid h0 (by obtain ⟨e,he,q⟩:=ap8.1 hm;exact ⟨e,he,q⟩) hn).mono ?_;rintro _ _ ⟨rfl,h',rfl⟩;exact ⟨_,_,_,rfl,rfl⟩
 ·rw [if_neg hm];refine (Qm hs hnm hid h0 (fun e he q=>hm (ap8.2 ⟨e,he,q⟩)) h1 (by omega) (by omega)).mono ?_;rintro _ _ ⟨rfl,gv',h',rfl⟩;exact ⟨_,_,_,rfl,rfl⟩
end
structure Shp (w:Int) (l:List Kp) (u:Int) (L:List Ql):Prop where
 k:StK l u
 q:LkI L
 d:∀ e∈l,e.id=dq (dt e.b) w
 b:∀ e∈l,jd e.b
 m:L.map Ql.id=l.map Kp.id
 n:∀ e∈l,∀ q∈L,q.id=e.id→q.n=e.b.length
theorem Shp.nil (w:Int):Shp w [] 0 [] where
 k:=⟨(fun e he=>by cases he),.nil,(fun e he=>by cases he),rfl,by decide⟩
 q:=⟨.nil,(fun e he=>by cases he),by decide⟩
 d:=fun e he=>by cases he
 b:=fun e he=>by cases he
 m:=rfl
 n:=fun e he=>by cases he
theorem Shp.arr {w u u':Int} {l l':List Kp} {L:List Ql} {xs:List Int} (H:Shp w l u L) (hid:idOk (dq (dt xs) w)) (hx:jd xs) (hl:xs.length≤4096) (hn:l.length≤90) (ha:arr (dq (dt xs) w) xs l l' u u') :
  Shp w l' u' (lkA (dq (dt xs) w) xs.length L)∧l'.length≤l.length+1∧∀ y,(∃ e∈l',e.b=y)↔(∃ e∈l,e.b=y)∨y=xs:=by
 rcases ha with ⟨h1,⟨g,v,rfl⟩,rfl⟩ | ⟨⟨e,h1,h2⟩,rfl,rfl⟩
 ·have hnm:dq (dt xs) w∉l.map Kp.id:=fun hm=>by
   obtain ⟨_,e,_,_,_,h3,_⟩:=fS H.k.nd hm;rw [h1] at h3;cases h3
  have hnL:dq (dt xs) w∉L.map Ql.id:=by rw [H.m];exact hnm
  have hm2:∀ e,e∈l ++ [(⟨dq (dt xs) w,xs,g,v⟩:Kp)]→e∈l∨e=⟨dq (dt xs) w,xs,g,v⟩:=fun e he=>by
   rcases ap6.1 he with q | q
   ·exact .inl q
   ·exact .inr (apy.1 q)
  have hnd:∀ {A:List (List Int)},A.Nodup→dq (dt xs) w∉A→(A ++ [dq (dt xs) w]).Nodup:=fun {A} h1 h2=>by
   rw [atk];exact ⟨h1,by simp,fun x hx y hy q=>h2 (by rw [apy] at hy;rw [← hy,← q];exact hx)⟩
  refine ⟨⟨⟨fun e he=> ?_,?_,fun e he=> ?_,?_,?_⟩,⟨?_,fun e he=> ?_,?_⟩,fun e he=> ?_,fun e he=> ?_,?_,fun e he q hq hqe=> ?_⟩,by simp,fun y=> ?_⟩
  ·rcases hm2 e he with q | rfl
   ·exact H.k.id e q
   ·exact hid
  ·rw [aqa];exact hnd H.k.nd hnm
  ·rcases hm2 e he with q | rfl
   ·exact H.k.b e q
   ·exact hl
  ·rw [H.k.u];simp [zM]
  ·simp;omega
  ·unfold lkA;rw [if_neg hnL,aqa];exact hnd H.q.nd hnL
  ·unfold lkA at he;rw [if_neg hnL] at he;rcases ap6.1 he with q | q
   ·exact H.q.n e q
   ·rw [apy.1 q];exact ⟨by simp,by show (xs.length:Int)≤4096;omega⟩
  ·have:=ap2 List.length H.m;unfold lkA;rw [if_neg hnL];simp at this ⊢;omega
  ·rcases hm2 e he with q | rfl
   ·exact H.d e q
   ·rfl
  ·rcases hm2 e he with q | rfl
   ·exact H.b e q
   ·exact hx
  ·unfold lkA;rw [if_neg hnL,aqa,aqa,H.m];rfl
  ·unfold lkA at hq;rw [if_neg hnL] at hq;rcases hm2 e he with h3 | rfl
   ·rcases ap6.1 hq with h4 | h4
    ·exact H.n e h3 q h4 hqe
    ·rw [apy.1 h4] at hqe;exact absurd (ap8.2 ⟨e,h3,hqe.symm⟩) hnm
   ·rcases ap6.1 hq with h4 | h4
    ·exact absurd (ap8.2 ⟨q,h4,hqe⟩) hnL
    ·rw [apy.1 h4]
  ·constructor
   ·rintro ⟨e,he,rfl⟩;rcases hm2 e he with q | rfl
    ·exact .inl ⟨e,q,rfl⟩
    ·exact .inr Z
   ·rintro (⟨e,he,rfl⟩ | rfl)
    ·exact ⟨e,aqu _ he,rfl⟩
    ·exact ⟨_,aq3 _ (.head _),rfl⟩
 ·have hm:=uz h1;have hL:lkA (dq (dt xs) w) xs.length L=L:=by
   unfold lkA;rw [if_pos];rw [H.m];exact ap8.2 ⟨e,hm.1,hm.2⟩
  rw [hL];exact ⟨H,by omega,fun y=>⟨.inl,fun q=>q.elim id fun q=>⟨e,hm.1,by rw [q,h2]⟩⟩⟩

theorem Q0 {w:World} {sz n:Nat} {v:Value} {cs:List Value} (h:SL w sz v n cs):∃ A c,v = .slice A n c∧n≤c∧c≤9223372036854775807∧(A=none→c=0)∧(0<n→∃ bk off,A=some ⟨bk,off,none⟩)∧cs.length=n*sz:=by
 obtain ⟨A,c,h1,h2,h3,h4,h5,h6⟩:=h;exact ⟨A,c,h1,h3,h4,h5,fun hp=>by obtain ⟨bk,off,hA,_⟩:=h6 hp;exact ⟨bk,off,hA⟩,h2⟩
structure SLs (W:World) (v:Value) (l:List Ds):Prop where
 sl:SL W 3 v l.length (flC dsC l)
 bs:∀ d∈l,VL (Value.int .u8) W d.bv d.b
def L6 (nx last:Int) (d:Se):Prop:=last<d.1∧d.1<nx∧d.2.2.length≤4096∧jk (dz d.2.1)=(0,0)
instance (nx last:Int) (d:Se):Decidable (L6 nx last d):=by unfold L6;infer_instance
def uQ (nx:Int):Int→List Se→Bool
 | _, [] => true
 | last, d :: l => decide (L6 nx last d) && uQ nx d.1 l
def Vp (w nx:Int):Prop:=1≤w∧w≤32∧1≤nx∧nx≤1048577
section
variable {b:World} {F:List SP} {w nx:Int} {va:Value} {l:List Ds}
theorem Vq (h:Vp w nx) (hl:∀ w,Sat b F w→SLs w va l):SC Tryz.prog vC [ii w,ii nx,va] b F
  (fun v F'=>if l.length≤8∧uQ nx 0 (l.map Ds.se)=true then ∃ g A c L,v = .tuple ⟨[pp g,ii 0]⟩∧L.map Us.se=l.map Ds.se∧(∀ u∈L,u.ps.length=1)∧F'=tbU g w nx A c L.length L F
   else v = .tuple ⟨[.pointer none,ii 2]⟩∧F'=F):=by
 obtain ⟨r1,r2,r3,r4⟩:=h;refine ao Tryz.func27 Z Z Z <| bu (fun w H=>Q0 (hl w H).sl) ?_;rintro ⟨A0,c0,rfl,q1,q2,q3,q4,_⟩;refine anf <| apn Z Z <| ane <| ac <| anf <| apo Z Z Z <| ni 14 Z (fun h=>absurd h (by omega)) (fun _=>apo Z Z Z <| ae Z <| ni 18 Z (fun h=>absurd h (by omega)) (fun _=>apo Z Z Z <| ae Z <| ni 22 Z (fun h=>absurd h (by omega)) (fun _=>apo Z Z Z <| ane <| cj Z (fun h=>absurd h (by omega)) (fun _=>ah <| ab <| anf <| apo Z Z Z <| br Z Z Z Z Z fun g=>ae Z <| ane <| ac <| anf <| apo Z Z Z <| ane ?_))));refine cj Z (fun h1=> ?_) (fun h1=> ?_)
 ·refine anf <| apn Z Z <| ane <| aj <| al <| fb Z Z Z (af 1 [] Z) ?_;rw [if_neg (by omega)];exact ⟨rfl,rfl⟩
 refine ah <| ab <| anf <| ae Z <| ane <| ac <| anf <| apo Z Z Z <| ane <| ak ?_;refine d6 (S:=List Us × Option Addr × Nat × Int) (fun s=> [(0,ii w),(1,ii nx),(8,pp g),(9,ii s.2.2.2),(33,.slice A0 l.length c0),(34,ii l.length),(35,ii s.1.length)]) (fun s=>tbU g w nx s.2.1 s.2.2.1 s.1.length s.1 F)
  (fun s=>s.1.length≤l.length∧s.1.map Us.se=(l.take s.1.length).map Ds.se∧(∀ u∈s.1,u.ps.length=1)∧uQ nx 0 (l.map Ds.se)=uQ nx s.2.2.2 ((l.drop s.1.length).map Ds.se)) (fun s=>l.length - s.1.length) ([],none,0,0)
  ((de d5 1 Z).trans ((ee (G:= [])).trans (af 3 [2,1,0] Z))) ⟨aqc _,rfl,fun u hu=>by simp at hu,rfl⟩ ?_
 rintro ⟨L,A,c,last⟩ ⟨hLn,hse,hps,hok⟩;dsimp only at hLn hse hps hok ⊢;refine anf <| ae Z <| ane <| ac ?_;refine cj Z (fun h2=> ?_) (fun h2=> ?_)
 ·have hi:L.length<l.length:=by omega
  obtain ⟨gg,oo,rfl⟩:=q4 (by omega);have hc:∀ w,Sat b F w→∀ j,j<3→w.cell? ⟨gg,oo+L.length*3+j,none⟩=(dsC l[L.length])[j]?:=fun w H j hj=>ej (hl w H).sl (Va l) hi hj
  have hv:∀ w,Sat b F w→VL (Value.int .u8) w l[L.length].bv l[L.length].b:=fun w H=>(hl w H).bs _ (apw hi)
  have hdrop:(l.drop L.length).map Ds.se=l[L.length].se::(l.drop (L.length+1)).map Ds.se:=by rw [aqq hi];rfl
  rw [hdrop] at hok;have htake:(l.take (L.length+1)).map Ds.se=(l.take L.length).map Ds.se ++ [l[L.length].se]:=by rw [apz hi,aqa,List.map_singleton]
  generalize l[L.length]=d at *;refine bu (fun w H=>(hv w (H.ent (af 3 [] Z))).form) ?_;rintro ⟨A7,c7,hv7,b1,b2,b3,b4⟩;obtain ⟨dn,dr,dbv,db⟩:=d;dsimp only at hv7 b1 b4 hv;subst hv7;refine ah <| ab <| ac <| ak <| anf <| ay Z ?_;refine fc Z (fun w H=>di (cs:=dsC ⟨dn,dr,.slice A7 db.length c7,db⟩) Z Z Z Z (fun q hq=>by rw [b5,apu];exact hc w (H.ent (af 3 [] Z)) q hq)) Z ?_
  skip
  refine bq Z Z Z Z Z fun g11=>cg 0 Z Z Z Z <| ane <| ac <| anf <| ae Z <| ba 0 Z Z Z <| apo Z Z Z ?_
  have bad:¬ L6 nx last (dn,dr,db)→¬ (l.length≤8∧uQ nx 0 (l.map Ds.se)=true):=by
   rintro hb ⟨_,h⟩;rw [hok] at h;simp only [Ds.se,uQ,aqi] at h;exact hb (of_decide_eq_true h.1)
  refine ni 43 Z (fun k1=> ?_) (fun k1=> ?_) <;> dsimp only at k1
  ·(iterate 18 refine ae Z ?_)
   refine ane <| ar Z <| anf <| apn Z Z <| ane <| aj <| al <| az <| al <| du <| az <| al <| fb Z Z Z (af 4 [] Z) ?_;rw [if_neg (bad fun h=>by have:=h.1;dsimp only at this;omega)];exact ⟨rfl,rfl⟩
  refine ae Z <| ba 0 Z Z Z <| apo Z Z Z <| ae Z ?_;refine ni 49 Z (fun k2=> ?_) (fun k2=> ?_) <;> dsimp only at k2
  ·(iterate 12 refine ae Z ?_)
   refine ane <| ar Z <| anf <| apn Z Z <| ane <| aj <| al <| az <| al <| du <| az <| al <| fb Z Z Z (af 4 [] Z) ?_;rw [if_neg (bad fun h=>by have:=h.2.1;dsimp only at this;omega)];exact ⟨rfl,rfl⟩
  refine ae Z <| ba 0 Z Z Z <| apo Z Z Z <| ae Z ?_;refine ni 55 Z (fun k3=> ?_) (fun k3=> ?_)
  ·(iterate 6 refine ae Z ?_)
   refine ane <| ar Z <| anf <| apn Z Z <| ane <| aj <| al <| az <| al <| du <| az <| al <| fb Z Z Z (af 4 [] Z) ?_;rw [if_neg (bad fun h=>by have:=h.2.2.1;dsimp only at this;omega)];exact ⟨rfl,rfl⟩
  refine ae Z <| ba 0 Z Z Z <| au Z Z Z (tL) <| ae Z <| j6 Z (wk Z Z (zI (jk (dz dr)).1 (jk (dz dr)).2 0 0)) Z ?_;by_cases hr:jk (dz dr)=(0,0)
  ·have hgood:L6 nx last (dn,dr,db):=⟨by dsimp only;omega,by dsimp only;omega,by dsimp only;omega,hr⟩;rw [hr];refine ae Z <| ane <| ai Z <| ah <| ab <| anf <| ae Z <| ba 0 Z Z Z <| ae Z <| ane <| ij flo 22 (pt g11 q5 (ssC dn dr (.slice A7 db.length c7))::pt g jo [ii w,ii nx,.slice A L.length c]::F) [] Z (by decide +kernel) (af 4 [0,1] Z) <| bj Z Zl <| bj Z Zl <| bj Z Zl <| bj Z Zl <| cd 1 Z Z Z Z <| bj Z Zl <| cd 0 Z Z Z Z <| bj Z Zl <| cd 0 Z Z Z Z <| bj Z Zl <| bj Z Zl <| cd 0 Z Z Z Z <| bj Z Zl <| cd 0 Z Z Z Z <| dh Z Z Z Z (Jf (up hv (af 4 [] Z)) (by omega)) ?_;rintro v F' rfl;refine ⟨af 5 [1,2] rfl,(lh (fun w H=>(H.oat (k:=0) Z).form) ?_)⟩;rintro ⟨A6,c6,rfl,_,_,_⟩;refine xT [.slice A6 db.length c6] Z Z Z Z Z Z Z Z Z Z (af 5 [1,2] Z) fun gl=>bj Z Zl <| El Z Z Z Z Z Z (af 6 [2,3] Z) fun gu=>xT [pp gu] Z Z Z Z Z Z Z Z Z Z (af 7 [3,4] Z) fun g2l=> ?_;refine xh 6 Z Z Z Z Z Z Z Z Z Z (m:=1) (news:= [pp gu]) (fun w H=>(H.blk (k:=0) Z).sl Z (by decide)) (by simp [Value.oneCell']) (by omega) (fun _=>rfl) (fun _=>af 8 [4,5] Z) fun v8=> ?_;refine lh (fun w H=>(H.oat (k:=6) Z).form) ?_;rintro ⟨A8,c8,rfl,_,_,_⟩;refine bj Z Zl <| bj Z Zl <| ap <| ik Z (dc _) <| xw 5 Z Z Z Z Z Z Z Z Z Z Z (dc _) <| ap <| bg <| ab <| aa <| ay Z <| ae Z <| ad ?_;obtain ⟨u,hu⟩:∃ u:Us,u=⟨gu,dn,dr,.slice (some ⟨gl,0,none⟩) 1 1,[(.slice A6 db.length c6,db)]⟩:=⟨_,rfl⟩;have hub:u.b=db:=by rw [hu];simp [Us.b]
   have hrow:usK L ++ [pp gu]=usK (L ++ [u]):=by rw [hu];simp [usK]
   have hus : [ii dn,ii db.length,.string dr,.slice (some ⟨gl,0,none⟩) 1 1]=usC u:=by rw [usC,hub,hu]
   have hP:usP u = [pt gu p6 (usC u),row eo 1 (.slice (some ⟨gl,0,none⟩) 1 1) 1 [.slice A6 db.length c6],all [rB (.slice A6 db.length c6) db]]:=by rw [usP,hu];rfl
   rw [hrow];have hse':u.se=(dn,dr,db):=by show (u.n,u.r,u.b)=_;rw [hub,hu]
   refine zr (L ++ [u],A8,c8,dn) ⟨rfl,rfl,rfl,rfl,rfl,rfl,?_,trivial⟩ ?_ ⟨?_,?_,?_,?_⟩ ?_
   ·dsimp only;rw [aps];rfl
   ·dsimp only;rw [aps,arv];refine (kx (n:=1) (sz:=1) Z Z (by decide) 2 Z Z).trans ((af 8 [3,1,2,5,6,7] Z).trans ((ee (G:= [rB (.slice A6 db.length c6) db])).trans ((af 6 [1,2,0,5,3,4] Z).trans (Ent.trans ?_ ((qd (A:=usF (L ++ [u])) (B:=usP u) (C:=usF L) (F:=pt g jo [ii w,ii nx,.slice A8 (L.length+1) c8]::usR A8 c8 (L.length+1) (L ++ [u])::F) Dj).trans (af 3 [1,2,0] Z))))));rw [hP,← hus];exact Ent.refl _
   ·dsimp only;rw [aps,arv];omega
   ·dsimp only;rw [aps,arv,htake,aqa,hse,List.map_singleton,hse'];rfl
   ·intro x hx;rcases ap6.1 hx with hx | hx
    ·exact hps x hx
    ·rw [apy.1 hx,hu];rfl
   ·dsimp only;rw [aps,arv,hok];show (decide (L6 nx last (dn,dr,db))&&uQ nx dn _)=_;rw [ap5 hgood,Bool.true_and]
   ·dsimp only;rw [aps,arv];omega
  ·refine bn 60 (.bool true) Z ?_ ?_
   ·refine ap2 Value.bool ?_;have:¬ ((jk (dz dr)).1=0∧(jk (dz dr)).2=0):=fun h=>hr (Prod.ext h.1 h.2)
    simp [this]
   refine ae Z <| ane <| ar Z <| anf <| apn Z Z <| ane <| aj <| al <| az <| al <| du <| az <| al <| fb Z Z Z (af 4 [] Z) ?_;rw [if_neg (bad fun h=>hr h.2.2.2)];exact ⟨rfl,rfl⟩
 ·have hii:L.length=l.length:=by omega
  refine b8 <| aw <| ax <| aq <| ab <| anf <| apo Z Z Z <| ane <| aj <| fb Z Z Z av ?_;rw [hii,List.drop_length] at hok;rw [if_pos ⟨by omega,by rw [hok];rfl⟩];exact ⟨g,A,c,L,rfl,by rw [hse,hii,aqk],hps,rfl⟩
end

section
variable {b:World} {F:List SP} {w:Int}
theorem Vr (W:World):SLs W (.slice none 0 0) []:=⟨⟨none,0,rfl,rfl,aqp _,by decide,fun _=>rfl,fun h=>absurd h (Nat.lt_irrefl 0)⟩,fun d hd=>by simp at hd⟩
theorem abj (h:1≤w∧w≤32):SC Tryz.prog yD [ii w] b F (fun v F'=>∃ g A c,v = .tuple ⟨[pp g,ii 0]⟩∧F'=tbU g w 1 A c 0 [] F):=by
 refine ao Tryz.func7 Z Z Z <| anf <| apn Z Z <| aby <| ae Z ?_;refine am Z Z Z (Vq (l:= []) ⟨h.1,h.2,by omega,by omega⟩ fun w _=>Vr w) ?_;intro v F' hR;rw [if_pos ⟨by simp,rfl⟩] at hR;obtain ⟨g,A,c,L,rfl,hL,_,rfl⟩:=hR;have hn:L = []:=by simpa using hL
 subst hn;refine apo Z Z Z <| ae Z <| ane <| aj <| fb Z Z Z av ?_;exact ⟨g,A,c,rfl,rfl⟩
end

section
variable {b:World} {F:List SP} {gx gs gm gq gl gu gv c:Nat} {A:Option Addr} {w r u lim nx kind:Int} {s:ByteArray} {l:List Kp} {L:List Ql} {h vb:Value} {xs:List Int}
abbrev shV (w:Int) (gx gs gq:Nat):Value:= .agg ⟨[ii w,pp gx,pp gs,pp gq]⟩
abbrev shP (gx:Nat) (w nx:Int) (A:Option Addr) (c:Nat) (gs gm:Nat) (r u:Int) (l:List Kp) (gq gl gu gv:Nat) (lim:Int) (h:Value) (s:ByteArray) (L:List Ql) (F:List SP):List SP:=tbU gx w nx A c 0 [] (stB gs gm w r u l (stQ gq gl gu gv lim h s L F))
set_option maxHeartbeats 16000000 in
theorem Vs (hb:∀ w,Sat b F w→VL (Value.int .u8) w vb xs) (hlen:xs.length≤60) (hx:jd xs) (hw:1≤w∧w≤32) (hr:r=67108864) (hlim:lim=1099511627776) (hnx:1≤nx∧nx≤1000) (hs:s.size≤maxLen) (hnm:jk (dz s)=(0,0)) (H:Shp w l u L) (hn:l.length≤90) (hno:∀ e,eq (dq (dt xs) w) l=some e→e.b=xs) :
  SC Tryz.prog y9 [shV w gx gs gq,.string s,ii kind,vb] b (shP gx w nx A c gs gm r u l gq gl gu gv lim h s L F) (fun v F'=>∃ A' c' l' u' L' gv' h',v = .tuple ⟨[.agg ⟨dcC ⟨kind,dq (dt xs) w,xs.length,⟨#[]⟩⟩⟩,.bool true]⟩∧Shp w l' u' L'∧l'.length≤l.length+1∧(∀ y,(∃ e∈l',e.b=y)↔(∃ e∈l,e.b=y)∨y=xs)∧F'=shP gx w (nx+1) A' c' gs gm r u' l' gq gl gu gv' lim h' s L' F):=by
 have hid:idOk (dq (dt xs) w):=jv _ _;have hse:wr (dz s) 0 nx=0:=by
  unfold wr;rw [if_neg (fun q=>q hnm),if_neg (by decide),if_neg (by omega)]
 refine ao Tryz.func14 Z Z Z <| bu (fun w H=>(hb w (H.ent (af 10 [] Z))).form) ?_;rintro ⟨bA,bc,rfl,b1,b2,b3,b4⟩;refine anf <| br Z Z Z Z Z fun g4=>bq Z Z Z Z Z fun g8=>ae Z <| aby <| ae Z <| ba 1 Z Z Z <| ae Z <| am Z Z Z ((Qi (s:=s) (g:=gx) (w:=w) (nx:=nx) (A:=A) (c:=c) (n:=0) (L:= []) (by omega) Z (by decide) (by omega)).ent (af 5 [2,3,4,0,1] Z)) ?_
 intro v F' hR;rw [if_pos hse] at hR;obtain ⟨rfl,A1,c1,gy,rfl⟩:=hR
 (iterate 5 refine ae Z ?_)
 refine ane <| ac <| anf <| ae Z <| ane <| ak ?_;refine d6 (S:=Nat × Us) (fun z=> [(1,.string s),(2,ii kind),(3,.slice bA xs.length bc),(4,pp g4),(8,pp g8),(9,.bool false),(10,ii nx),(11,ii 0),(12,ii z.1)])
  (fun z=>tbU gx w (nx+1) A1 c1 1 [z.2] (pt g8 t_api_Desc (dcC dcZ)::pt g4 ey [ii w,pp gx,pp gs,pp gq]::stB gs gm w r u l (stQ gq gl gu gv lim h s L F)))
  (fun z=>z.1≤xs.length∧z.2.b=xs.take z.1∧z.2.n=nx∧z.2.r=s∧z.2.ps.length=z.1) (fun z=>xs.length - z.1) (0,⟨gy,nx,s,.slice none 0 0,[]⟩) (af 5 [0,1,2,3,4] Z) ⟨aqc _,rfl,rfl,rfl,rfl⟩ ?_
 rintro ⟨i,z⟩ ⟨hi,z1,z2,z3,z4⟩;dsimp only at hi z1 z2 z3 z4 ⊢;refine ac <| anf ?_
 (iterate 5 refine ae Z ?_)
 by_cases g1:i<xs.length
 ·refine dR 32 Z <| apo Z Z Z <| ane <| ar Z <| ah <| ab <| ac <| ak ?_;have hsub:∀ w,Sat b F w→VL (Value.int .u8) w (.slice (if bc=(i:Int).toNat then bA else Option.map (fun x=>x.add ((i:Int).toNat*1)) bA) (((i:Int)+1).toNat - (i:Int).toNat) (bc - (i:Int).toNat)) [xs[i]]:=fun w H=>by
   have e1:((i:Int)+1).toNat=i+1:=by omega
   have q:=VL.sub (A':=Option.map (fun x=>x.add i) bA) (c':=bc - i) (l:=i) (h:=i+1) (hb w H) (by omega) (by omega) (by omega) (by omega) (fun _ bk off hA=>by rw [hA];simp [Addr.add]) (fun hz=>by
    cases bA with
    | none => have := b3 Z; omega
    | some a => cases hz)
   rw [e1,apu,aq8,if_neg (by omega)];have e2:(xs.take (i+1)).drop i = [xs[i]]:=by
    rw [apz g1,asf (by rw [ap7];omega)]
   rw [e2] at q;exact q
  refine cq flo (pt g4 ey [ii w,pp gx,pp gs,pp gq]::stB gs gm w r u l (stQ gq gl gu gv lim h s L F)) (by decide +kernel) (af 5 [4] Z) <| bj Z Zl <| cd 0 Z Z Z Z ?_
  (iterate 5 refine bj Z Zl ?_)
  refine dx Z Z <| dx Z Z ?_;refine dh Z Z Z Z (Gu (g:=gx) (w:=w) (nx:=nx+1) (A:=A1) (c:=c1) (n:=1) (L:= [z]) (i:=0) (x:=nx) (off:=(i:Int)) (xs:= [xs[i]]) (up hsub (af 9 [] Z)) (by simp) (by omega) Z (by decide) (by simp) (by simp) z2 (by rw [arz,z1,ap7];omega) (by rw [arz];omega)) ?_;intro v F' hR;have zl:z.b.length=i:=by rw [z1,ap7];omega
  rw [if_neg (by rw [arz,zl];exact fun q=>q Z),if_neg (by rw [arz,zl];simp;omega)] at hR;obtain ⟨rfl,z',hG,rfl⟩:=hR;refine ⟨af 5 [4] rfl,(bj Z Zl <| bj Z Zl <| bj Z Zl <| bj Z Zl <| ap <| bg <| ab <| aa <| ae Z <| ay Z <| ae Z <| ad ?_)⟩;rw [show (i:Int)+1=((i+1:Nat):Int) by omega];refine i9 (i+1,z') av ⟨show i+1≤xs.length by omega,?_,hG.n.trans z2,hG.r.trans z3,by rw [hG.ps];exact ap2 (· + 1) z4⟩ (show xs.length - (i+1)<xs.length - i by omega);dsimp only;rw [hG.b,apz g1];exact ap2 (· ++ [xs[i]]) z1
 ·have hce:dH w=0:=by unfold dH;rw [if_neg (by omega)]
  obtain rfl:i=xs.length:=by omega
  rw [aqk] at z1;refine qp 32 Z <| apo Z Z Z <| ane <| ai Z <| b8 <| aw <| ax <| aq <| ab <| anf <| apn Z Z <| ba 4 Z Z Z <| au Z Z Z (Kk (xs:=xs) (w:=w) (by omega) (up hb (af 12 [] Z))) ?_;rw [hce];refine apo Z Z Z <| bq Z Z Z Z Z fun g13=> ?_
  skip
  refine eh 0 Z Z Z Z Z Z Z (by rw [bz,hid.1];rfl) (ec _) (by simp [hid.1]) ?_;refine ae Z <| aby <| ae Z <| ba 5 Z Z Z <| ae Z <| b7 0 Z Z Z Z Z Z (ek hid.1) Z ?_;refine am Z Z Z ((Di (g:=gx) (w:=w) (nx:=nx+1) (A:=A1) (c:=c1) (n:=1) (L:= [z]) (i:=0) (x:=nx) hid.1 (by omega) Z (by decide) (by simp) (by simp) z2 ⟨by rw [arz,z1];omega,by rw [arz];omega⟩).ent (af 6 [1,2,3,0,4,5] Z)) ?_;intro v F' hR;rw [if_pos (by rw [arz,z1])] at hR;simp only [arz,z1,z2,z3] at hR;obtain ⟨bv,rfl,rfl⟩:=hR;refine b6 (fun w H=>(H.oat (k:=0) Z).form) ?_;rintro ⟨A7,c7,rfl,_,_,_⟩;refine apo Z Z Z <| bq Z Z Z Z Z fun g15=>cg 0 Z Z Z Z <| ae Z <| aby <| ae Z <| ba 7 Z Z Z <| b7 5 Z Z Z Z Z Z (ek hid.1) Z <| ae Z <| ba 0 Z Z Z <| am Z Z Z ((uP (gs:=gs) (gm:=gm) (w:=w) (r:=r) (u:=u) (l:=l) (vlB (l:=xs) (k:=1) Z) (by omega) hid H.k H.b hx hr hno).ent (af 11 [8,9,10,0,1,2,3,4,5,6,7] Z)) ?_
  rintro _ _ ⟨t,l',u',rfl,ha,rfl⟩
  (iterate 5 refine ae Z ?_)
  refine aby <| ae Z <| ba 10 Z Z Z <| ae Z <| b7 8 Z Z Z Z Z Z (ek hid.1) Z <| ae Z <| ba 3 Z Z Z <| ae Z ?_;have hln:∀ e∈L,e.id=dq (dt xs) w→e.n=(xs.length:Int):=fun e he q=>by
   have hm:e.id∈l.map Kp.id:=by rw [← H.m];exact asz he
   obtain ⟨k,hk,hke⟩:=ap8.1 hm;have:=hno k (by rw [← q,← hke];exact lI H.k.nd hk);rw [← this];exact H.n k hk e he hke.symm
  refine am Z Z Z ((xG (gq:=gq) (gl:=gl) (gu:=gu) (gv:=gv) (lim:=lim) (h:=h) (s:=s) (L:=L) (n:=xs.length) hs hnm hid (by omega) H.q hln hlim).ent (af 15 [11,12,13,14,0,1,2,3,4,5,6,7,8,9,10] Z)) ?_;rintro _ _ ⟨t2,gv',h',rfl,rfl⟩
  (iterate 5 refine ae Z ?_)
  refine ane <| ac <| cq flo (pt g13 t_api_ID (u8s (dq (dt xs) w))::pt g15 q5 [ii nx,.string s,.slice A7 xs.length c7]::F) (by decide +kernel) (af 15 [12,7] Z) <| bj Z Zl <| fw 0 Z Z Z Z Z Z (ek hid.1) Z Z <| bj Z Zl <| bj Z Zl ?_;refine mJ Z Z Z Z ⟨rfl,(by show (u8s _).length=32;rw [bz,hid.1]),rfl,trivial⟩ ?_;refine eu 90 (.agg ⟨dcC ⟨kind,dq (dt xs) w,xs.length,⟨#[]⟩⟩⟩) Z Z ?_
  (iterate 20 refine bj Z Zl ?_)
  refine cd 1 Z Z Z Z <| bj Z Zl <| fe Z Z Z Z (fF (vlB (l:=xs) (k:=8) Z) (up hb (af 15 [] Z)) hx hx) (af 15 [12,7] Z) <| cJ 113 Z Z <| bj Z Zl <| bj Z Zl <| bj Z Zl <| cd 1 Z Z Z Z <| bj Z Zl <| bj Z Zl <| bj Z Zl <| cJ 120 Z Z ?_;refine yc 13 Z Z Z Z Z Z Z Z (d8 hid.1) jq (by rw [d8 hid.1];rfl) (af 15 [12,7] Z) ?_;refine bj Z Zl <| ap <| ab <| aj <| ez Z (.whole 13 Z Z Z Z (d8 hid.1) (.tmp Z .nil)) (af 15 [9,10,11,4,5,6,0,1,2,3] Z) ?_;obtain ⟨H',h2,h3⟩:=H.arr hid hx (by omega) hn ha;exact ⟨A1,c1,l',u',_,gv',h',rfl,H',h2,h3,rfl⟩
end

def lV (b:World):Prop:=b.cell? ⟨0,116,none⟩=some (.int .u8 192)
section
variable {b:World} {F:List SP}
theorem L7 {k:Nat} (hI:nth F k=some (Is b)) (hP:lV b):SC Tryz.prog kS [.int .i32 116] b F (fun u F'=>u = .bool true∧F'=F):=by
 refine ao Tryz.func190 Z Z Z <| anf <| ae Z <| ane <| ac <| anf <| apo Z Z Z <| ane <| ar Z <| anf <| apn Z Z <| bn 7 (.int .u8 116) Z Z <| V4 (116) Z Z Z (by omega) (by omega) ?_
 skip
 refine fc Z (fun w H=>bx Z Z Z ((H.is hI).cell hP)) Z ?_
 skip
 refine apo Z Z Z <| ane <| aj <| al <| bh Z Z av ?_;exact ⟨rfl,rfl⟩
theorem Vt {k:Nat} (hI:nth F k=some (Is b)) (hP:lV b):SC Tryz.prog kO [.string tT] b F (fun u F'=>u = .agg ⟨[ii 0,ii 0]⟩∧F'=F):=by
 refine ao Tryz.func117 Z Z Z <| anf <| bq Z Z Z Z Z fun g2=>aby <| ae Z <| ane <| ac <| anf <| ae Z <| mK Z Z Z Z Z Z fun gi=>ane <| ak <| d6 (S:=Bool) (fun q=> [(0,.string tT),(2,pp g2),(8,pp gi),(3,ii (if q then 1 else 0))]) (fun q=>ob gi (.stringIter tT (if q then 1 else 0))::ftP g2::F) (fun _=>True) (fun q=>if q then 0 else 1) false av trivial ?_
 rintro (_ | _) _
 ·simp only [atd,if_false];have hd:Utf8.decode tT 0=(116,1):=by decide +kernel
  refine anf <| rO 0 Z Z Z Z Z (by decide) Z ?_;rw [hd];refine ae Z <| ane <| ac <| ar Z <| ah <| ab <| ak <| anf <| apo Z Z Z <| ae Z <| ane <| ac <| anf <| ae Z <| ay Z <| ae Z <| aby <| apn Z Z <| ane <| ai Z <| ah <| ab <| anf ?_
  (iterate 10 refine ae Z ?_)
  refine aby <| apo Z Z Z <| au Z Z Z (L7 (k:=k+2) (F:=ob gi (.stringIter tT (0+1))::ftP g2::F) hI hP) <| apn Z Z <| ane <| ai Z <| ah <| bg ?_;exact i9 true av trivial (by decide)
 ·simp only [ata];refine anf <| mL 0 Z Z Z Z Z (by decide) <| ae Z <| ane <| ac <| ai Z <| b8 <| aw <| ax <| aq <| ab <| anf <| ae Z <| cg 1 Z Z Z Z <| ane <| aj <| ez Z (.agg 1 Z Z Z Z Z .nil) (af 2 [] Z) ?_;exact ⟨rfl,rfl⟩
end

def lkC (m:Mf) (lv sv:Value) (w:Int):List Value:=mfC m lv sv ++ [ii w]
section
variable {m:Mf} {lv sv:Value} {w:Int}
theorem to (h:m.cfg0.id.length=32):(lkC m lv sv w).length=40:=by simp [lkC,jz h]
theorem qJ {α:Type} {A C:List α} {k:Nat} {x:α} (h:nth A k=some x):nth (A++C) k=some x:=by
 rw [o9,if_pos (by rw [np] at h;exact (ap4.1 h).1)];exact h
theorem apf (h:m.cfg0.id.length=32):nth (lkC m lv sv w) 37=some lv:=qJ (oU h)
theorem amw (h:m.cfg0.id.length=32):nth (lkC m lv sv w) 38=some sv:=qJ (uC h)
theorem abk (h:m.cfg0.id.length=32):nth (lkC m lv sv w) 39=some (ii w):=fQ (mfC m lv sv) (jz h)
end
abbrev lkV (m:Mf) (lv sv:Value) (w:Int):Value:= .agg ⟨lkC m lv sv w⟩
def rz (m:Mf) (lv sv:Value) (w:Int) (d:Dc) (at':Int) (gi gp:Nat):List Value:=lkC m lv sv w++(dcC d ++ [ii at',.map (some gi),.map (some gp)])
section
variable {m:Mf} {lv sv:Value} {w at':Int} {d:Dc} {gi gp:Nat}
theorem Gw (h:m.cfg0.id.length=32) (hd:d.id.length=32):(rz m lv sv w d at' gi gp).length=78:=by simp [rz,to h,d8 hd]
theorem apg (h:m.cfg0.id.length=32):nth (rz m lv sv w d at' gi gp) 39=some (ii w):=qJ (abk h)
theorem abl {k:Nat} {x:Value} (h:m.cfg0.id.length=32) (hx:nth (dcC d) k=some x):nth (rz m lv sv w d at' gi gp) (k+40)=some x:=by
 unfold rz;rw [o9,if_neg (by rw [to h];omega),to h,Nat.add_sub_cancel];exact qJ hx
theorem Dq (h:m.cfg0.id.length=32):nth (rz m lv sv w d at' gi gp) 40=some (ii d.media):=abl (k:=0) h amf
theorem Jk (h:m.cfg0.id.length=32) (hd:d.id.length=32):nth (rz m lv sv w d at' gi gp) 73=some (ii d.size):=abl (k:=33) h (xC hd)
theorem Q1 (h:m.cfg0.id.length=32) (hd:d.id.length=32):nth (rz m lv sv w d at' gi gp) 74=some (.string d.plat):=abl (k:=34) h (Pg hd)
theorem X8 (h:m.cfg0.id.length=32) (hd:d.id.length=32):sn (rz m lv sv w d at' gi gp) 41 32=some (u8s d.id):=by
 have e:=lQ (lkC m lv sv w ++ [ii d.media]) (B:=u8s d.id) (C:= [ii d.size,.string d.plat] ++ [ii at',.map (some gi),.map (some gp)]) (o:=41) (n:=32) (by simp [to h]) (by rw [bz,hd]);have h2:lkC m lv sv w ++ [ii d.media]++(u8s d.id++([ii d.size,.string d.plat] ++ [ii at',.map (some gi),.map (some gp)]))=rz m lv sv w d at' gi gp:=by simp [rz,dcC]
 rw [← h2];exact e
theorem abm {k:Nat} {x:Value} (h:m.cfg0.id.length=32) (hd:d.id.length=32) (hx:nth [ii at',.map (some gi),.map (some gp)] k=some x):nth (rz m lv sv w d at' gi gp) (k+75)=some x:=by
 unfold rz;rw [← ap0,o9,if_neg (by rw [aps,to h,d8 hd];omega),aps,to h,d8 hd,Nat.add_sub_cancel];exact hx
theorem amx (h:m.cfg0.id.length=32) (hd:d.id.length=32):nth (rz m lv sv w d at' gi gp) 75=some (ii at'):=abm (k:=0) h hd Z
theorem X9 (h:m.cfg0.id.length=32) (hd:d.id.length=32):nth (rz m lv sv w d at' gi gp) 76=some (.map (some gi)):=abm (k:=1) h hd Z
theorem Q3 (h:m.cfg0.id.length=32) (hd:d.id.length=32):nth (rz m lv sv w d at' gi gp) 77=some (.map (some gp)):=abm (k:=2) h hd Z
end
section
variable {b:World} {F:List SP} {m:Mf} {lv sv:Value} {w at':Int} {d:Dc} {gi gp:Nat}
theorem Q4 (h:m.cfg0.id.length=32) (hw:1≤w∧w≤32):SC Tryz.prog vq [lkV m lv sv w] b F (fun u F'=>u = .bool true∧F'=F):=by
 refine ao Tryz.func113 Z Z Z <| anf <| br Z Z Z Z Z fun g1=>ae Z <| aby <| ae Z <| ix 0 Z Z Z Z Z Z (abk h) Z <| apn Z Z <| dR 6 Z <| ae Z <| ix 0 Z Z Z Z Z Z (abk h) Z <| apo Z Z Z <| ane <| aj <| bh Z Z (af 1 [] Z) ?_
 exact ⟨ap2 Value.bool (ap5 (by omega)),rfl⟩
theorem Q5 (h:m.cfg0.id.length=32) (hk:m.kind=3) (hs:m.subs.length=0) (hm:∀ w,Sat b F w→MR w m lv sv):SC Tryz.prog vr [lkV m lv sv w] b F (fun u F'=>u = .bool true∧F'=F):=by
 refine ao Tryz.func114 Z Z Z <| bu (fun w H=>ci (hm w H).s) ?_;rintro ⟨A2,c2,rfl,_⟩;refine anf <| br Z Z Z Z Z fun g1=>ae Z <| ane <| ac <| anf <| apn Z Z <| ba 0 Z Z Z <| ane <| ak <| anf <| apn Z Z <| ane <| cj Z (fun _=>(anf <| apn Z Z <| ix 0 Z Z Z Z Z Z (amw h) Z <| apo Z Z Z <| ane <| aj <| az <| al <| bh Z Z (af 1 [] Z) ?_)) (fun q=>absurd hk q)
 exact ⟨ap2 Value.bool (ap5 (by omega)),rfl⟩
theorem Vu (h:m.cfg0.id.length=32) (hl:m.layers.length≤16) (hs:m.subs.length≤8) (hm:∀ w,Sat b F w→MR w m lv sv):SC Tryz.prog wu [lkV m lv sv w] b F (fun u F'=>u = .bool true∧F'=F):=by
 refine ao Tryz.func115 Z Z Z <| bu (fun w H=>ci (hm w H).s) ?_;rintro ⟨A2,c2,rfl,_⟩;refine bu (fun w H=>ci (hm w H).l) ?_;rintro ⟨A1,c1,rfl,_⟩;refine anf <| br Z Z Z Z Z fun g1=>ae Z <| aby <| apn Z Z <| ix 0 Z Z Z Z Z Z (apf h) Z <| apo Z Z Z <| dR 8 Z <| apn Z Z <| ix 0 Z Z Z Z Z Z (amw h) Z <| apo Z Z Z <| ae Z <| ane <| aj <| bh Z Z (af 1 [] Z) ?_
 exact ⟨ap2 Value.bool (ap5 (by omega)),rfl⟩
theorem Q6 (hk:m.kind=3):SC Tryz.prog vt [lkV m lv sv w] b F (fun u F'=>u = .bool true∧F'=F):=by
 refine ao Tryz.func116 Z Z Z <| anf <| br Z Z Z Z Z fun g1=>ae Z <| aby <| apn Z Z <| ba 0 Z Z Z <| apn Z Z ?_
 refine bn 7 (.bool true) Z (by rw [aqo (by omega)];rfl) ?_
 (iterate 7 refine ae Z ?_)
 refine ane <| aj <| bh Z Z (af 1 [] Z) ?_;exact ⟨rfl,rfl⟩
abbrev L8 (m:Mf) (lv sv:Value) (w:Int) (d:Dc) (at':Int) (gi gp:Nat):Value:= .agg ⟨rz m lv sv w d at' gi gp⟩
theorem Gx (h:m.cfg0.id.length=32) (hd:d.id.length=32) (hk:m.kind=3) (hq:d.media=if at'=0 then 1 else 2):SC Tryz.prog sf [L8 m lv sv w d at' gi gp] b F (fun u F'=>u = .bool true∧F'=F):=by
 refine ao Tryz.func191 Z Z Z <| anf <| br Z Z Z Z Z fun g1=>ae Z <| ane <| ac <| ak <| anf <| apo Z Z Z <| ba 0 Z Z Z <| apn Z Z <| ane <| cj Z (fun q=>absurd q (by omega)) (fun _=>anf <| ae Z <| ix 0 Z Z Z Z Z Z (amx h hd) Z <| apn Z Z <| ane ?_)
 refine cj Z (fun q=> ?_) (fun q=> ?_)
 ·rw [if_pos q] at hq;refine anf <| apn Z Z <| ix 0 Z Z Z Z Z Z (Dq h) Z <| apn Z Z <| ane <| aj <| az <| al <| bh Z Z (af 1 [] Z) ?_;exact ⟨ap2 Value.bool (ap5 hq),rfl⟩
 ·rw [if_neg q] at hq;refine ah <| bg <| ab <| anf <| apn Z Z <| ix 0 Z Z Z Z Z Z (Dq h) Z <| apn Z Z <| ane <| aj <| bh Z Z (af 1 [] Z) ?_;exact ⟨ap2 Value.bool (ap5 hq),rfl⟩
theorem Gy (h:m.cfg0.id.length=32) (hd:d.id.length=32) (hq:Ft d.id w=true):SC Tryz.prog sg [L8 m lv sv w d at' gi gp] b F (fun u F'=>u = .bool true∧F'=F):=by
 refine ao Tryz.func192 Z Z Z <| anf <| br Z Z Z Z Z fun g1=>ae Z <| aby <| apn Z Z <| b7 0 Z Z Z Z Z Z (X8 h hd) Z <| apn Z Z <| ix 0 Z Z Z Z Z Z (apg h) Z <| au Z Z Z (ali hd) <| ae Z <| ane <| aj <| bh Z Z (af 1 [] Z) ?_
 exact ⟨ap2 Value.bool hq,rfl⟩
theorem Vv (h:m.cfg0.id.length=32) (hd:d.id.length=32) (hq:0≤d.size∧d.size≤4096):SC Tryz.prog vu [L8 m lv sv w d at' gi gp] b F (fun u F'=>u = .bool true∧F'=F):=by
 refine ao Tryz.func193 Z Z Z <| anf <| br Z Z Z Z Z fun g1=>ae Z <| aby <| apn Z Z <| ix 0 Z Z Z Z Z Z (Jk h hd) Z <| apn Z Z <| dR 7 Z <| apn Z Z <| ix 0 Z Z Z Z Z Z (Jk h hd) Z <| apo Z Z Z <| ane <| aj <| bh Z Z (af 1 [] Z) ?_
 exact ⟨ap2 Value.bool (ap5 (by omega)),rfl⟩
theorem L9 (h:m.cfg0.id.length=32) (hd:d.id.length=32) (hq:d.media≠3) (hp:d.plat=⟨#[]⟩):SC Tryz.prog vw [L8 m lv sv w d at' gi gp] b F (fun u F'=>u = .bool true∧F'=F):=by
 refine ao Tryz.func194 Z Z Z <| anf <| br Z Z Z Z Z fun g1=>ae Z <| ane <| ac <| anf <| apn Z Z <| ix 0 Z Z Z Z Z Z (Dq h) Z <| ae Z <| ane <| cj Z (fun q=>absurd q hq) (fun _=>ah <| ab <| anf <| apn Z Z <| ix 0 Z Z Z Z Z Z (Q1 h hd) Z ?_)
 rw [hp];refine apn Z Z <| ane <| aj <| bh Z Z (af 1 [] Z) ?_;exact ⟨rfl,rfl⟩
end

abbrev mpS (g:Nat) (l:List (ByteArray × Value)):SP:=mp g Value.string (fun s=>s.size≤maxLen) l
def Q7 (d:Dc) (o:Option Value):Prop:=o=none∨∃ e:Dc,o=some (.agg ⟨dcC e⟩)∧e.id.length=32∧e.media=d.media∧e.size=d.size
def Ya (o:Option Value):Prop:=o=none∨∃ e:Dc,o=some (.agg ⟨dcC e⟩)∧e.id.length=32
section
variable {b:World} {F:List SP} {m:Mf} {lv sv:Value} {w at':Int} {d:Dc} {gi gp:Nat} {MI:List (List Int × Value)} {MP:List (ByteArray × Value)}
theorem Q8 (h:m.cfg0.id.length=32) (hd:idOk d.id) (hp:d.plat.size≤maxLen) (hk:m.kind=3) (hI:Q7 d (jl d.id MI)) (hO:Ya (jl d.plat MP)) :
  SC Tryz.prog tx [L8 m lv sv w d at' gi gp] b (mpI gi MI::mpS gp MP::F) (fun u F'=>u = .bool true∧F'=mpI gi MI::mpS gp MP::F):=by
 have hd32:=hd.1;refine ao Tryz.func195 Z Z Z <| anf <| br Z Z Z Z Z fun g1=>ae Z <| aby <| ae Z ?_
 refine ix 0 Z Z Z Z Z Z (X9 h hd32) Z ?_;refine apn Z Z <| b7 0 Z Z Z Z Z Z (X8 h hd32) Z ?_;rcases hI with hI | ⟨e,hI,e1,e2,e3⟩
 ·refine vm 1 (a:=d.id) (L:=MI) aV hd hI Z Z Z Z Z Z Z Z <| apo Z Z Z <| bq Z Z Z Z Z fun g3=>cg 0 Z Z Z Z <| ae Z <| aby <| ae Z <| ix 1 Z Z Z Z Z Z (Q3 h hd32) Z <| apn Z Z <| ix 1 Z Z Z Z Z Z (Q1 h hd32) Z ?_
  rcases hO with hO | ⟨e',hO,e4⟩
  ·refine vm 3 (a:=d.plat) (L:=MP) bG hp hO Z Z Z Z Z Z Z Z <| apo Z Z Z <| bq Z Z Z Z Z fun g5=>cg 0 Z Z Z Z <| ae Z <| ane <| ac <| anf <| apo Z Z Z <| ba 2 Z Z Z <| ae Z <| ane <| cj Z (fun q=>absurd q (by omega)) (fun _=>ah <| ab <| anf ?_)
   (iterate 19 refine ae Z ?_)
   refine ane <| aj <| bh Z Z (af 3 [] Z) ?_;exact ⟨rfl,rfl⟩
  ·refine dW 3 (a:=d.plat) (L:=MP) bG hp hO Z Z Z Z Z Z Z Z <| apo Z Z Z <| bq Z Z Z Z Z fun g5=> ?_
   skip
   refine eh 0 Z Z Z Z Z Z Z (d8 e4) jq (by rw [d8 e4];rfl) ?_;refine ae Z <| ane <| ac <| anf <| apo Z Z Z <| ba 2 Z Z Z <| ae Z <| ane <| cj Z (fun q=>absurd q (by omega)) (fun _=>ah <| ab <| anf ?_)
   (iterate 19 refine ae Z ?_)
   refine ane <| aj <| bh Z Z (af 3 [] Z) ?_;exact ⟨rfl,rfl⟩
 ·refine dW 1 (a:=d.id) (L:=MI) aV hd hI Z Z Z Z Z Z Z Z <| apo Z Z Z <| bq Z Z Z Z Z fun g3=> ?_
  skip
  refine eh 0 Z Z Z Z Z Z Z (d8 e1) jq (by rw [d8 e1];rfl) ?_;refine ae Z <| aby <| ae Z <| ix 1 Z Z Z Z Z Z (Q3 h hd32) Z <| apn Z Z <| ix 1 Z Z Z Z Z Z (Q1 h hd32) Z ?_;rcases hO with hO | ⟨e',hO,e4⟩
  ·refine vm 3 (a:=d.plat) (L:=MP) bG hp hO Z Z Z Z Z Z Z Z <| apo Z Z Z <| bq Z Z Z Z Z fun g5=>cg 0 Z Z Z Z <| ae Z <| ane <| ac <| anf <| apo Z Z Z <| ba 2 Z Z Z <| ae Z <| ane <| cj Z (fun q=>absurd q (by omega)) (fun _=>ah <| ab <| anf <| apo Z Z Z <| ae Z <| ba 1 Z Z Z <| apn Z Z <| ix 2 Z Z Z Z Z Z (Dq h) Z <| apn Z Z <| wt 51 Z e2 <| ae Z <| ix 1 Z Z Z Z Z Z (xC e1) Z <| apn Z Z <| ix 2 Z Z Z Z Z Z (Jk h hd32) Z <| apo Z Z Z <| ae Z <| ane <| aj <| bh Z Z (af 3 [] Z) ?_)
   exact ⟨ap2 Value.bool (ap5 e3),rfl⟩
  ·refine dW 3 (a:=d.plat) (L:=MP) bG hp hO Z Z Z Z Z Z Z Z <| apo Z Z Z <| bq Z Z Z Z Z fun g5=> ?_
   skip
   refine eh 0 Z Z Z Z Z Z Z (d8 e4) jq (by rw [d8 e4];rfl) ?_;refine ae Z <| ane <| ac <| anf <| apo Z Z Z <| ba 2 Z Z Z <| ae Z <| ane <| cj Z (fun q=>absurd q (by omega)) (fun _=>ah <| ab <| anf <| apo Z Z Z <| ae Z <| ba 1 Z Z Z <| apn Z Z <| ix 2 Z Z Z Z Z Z (Dq h) Z <| apn Z Z <| wt 51 Z e2 <| ae Z <| ix 1 Z Z Z Z Z Z (xC e1) Z <| apn Z Z <| ix 2 Z Z Z Z Z Z (Jk h hd32) Z <| apo Z Z Z <| ae Z <| ane <| aj <| bh Z Z (af 3 [] Z) ?_);exact ⟨ap2 Value.bool (ap5 e3),rfl⟩
end

structure Ma (w:Int) (D:List Dc):Prop where
 id:∀ d∈D,idOk d.id
 p:∀ d∈D,d.plat=⟨#[]⟩
 m:∀ i (hi:i<D.length),D[i].media=if (i:Int)=0 then 1 else 2
 h:∀ d∈D,Ft d.id w=true
 s:∀ d∈D,0≤d.size∧d.size≤4096
 a:∀ i (hi:i<D.length),Q7 D[i] (jl D[i].id (byM Dc.id (D.take i)))
theorem Ma.some {w:Int} {D:List Dc} (h:Ma w D) (i:Nat) (a:ByteArray):Ya (jl a (byM Dc.plat (D.take i))):=by
 cases hg:jl a (byM Dc.plat (D.take i)) with
 | none => exact .inl Z
 | some v =>
  obtain ⟨d,hd,_,rfl⟩:=Io hg;exact .inr ⟨d,rfl,(h.id d (arf hd)).1⟩
section
variable {m:Mf} {lv sv:Value} {w at':Int} {d:Dc} {gi gp:Nat}
theorem abn {d':Dc} (h:m.cfg0.id.length=32) (hd:d.id.length=32) (hd':d'.id.length=32):um (rz m lv sv w d at' gi gp) 40 (dcC d')=some (rz m lv sv w d' at' gi gp):=qE (lkC m lv sv w) (to h) (by rw [d8 hd,d8 hd'])
theorem abo {x:Int} (h:m.cfg0.id.length=32) (hd:d.id.length=32):stO (rz m lv sv w d at' gi gp) 75 (ii x)=some (rz m lv sv w d x gi gp):=by
 have e:=uB (lkC m lv sv w++dcC d) (x:=ii at') (y:=ii x) (C:= [.map (some gi),.map (some gp)]) (o:=75) (by rw [aps,to h,d8 hd]);have h1:∀ z,lkC m lv sv w++dcC d++Value.int .i64 z :: [.map (some gi),.map (some gp)]=rz m lv sv w d z gi gp:=fun z=>by simp [rz]
 rw [h1,h1] at e;exact e
theorem Jl (hl:lv.oneCell'=true) (hs:sv.oneCell'=true):∀ u∈lkC m lv sv w,u.oneCell'=true:=fun u hu=>by
 rcases ap6.1 hu with h | h
 ·exact y4 hl hs u h
 ·rw [apy.1 h];rfl
theorem abp (hl:lv.oneCell'=true) (hs:sv.oneCell'=true):∀ u∈rz m lv sv w d at' gi gp,u.oneCell'=true:=fun u hu=>by
 rcases ap6.1 hu with h | h
 ·exact Jl hl hs u h
 rcases ap6.1 h with h | h
 ·exact jq u h
 ·simp only [ap1,arj,or_false] at h;rcases h with rfl | rfl | rfl <;> rfl
end
def ruT:List (List Value):= [[ii 20,.func (.func sf) ⟨[]⟩ ⟨[]⟩],[ii 8,.func (.func sg) ⟨[]⟩ ⟨[]⟩],[ii 17,.func (.func vu) ⟨[]⟩ ⟨[]⟩],[ii 7,.func (.func vw) ⟨[]⟩ ⟨[]⟩],[ii 19,.func (.func tx) ⟨[]⟩ ⟨[]⟩]]
abbrev fT:Nat:=317
section
variable {b:World} {F:List SP} {m:Mf} {lv sv:Value} {w:Int}
theorem Q9 (h:m.cfg0.id.length=32) (hk:m.kind=3) (hm:∀ w,Sat b F w→MR w m lv sv) (hD:Ma w (mfD m)) (hn:(mfD m).length≤1000) :
  SC Tryz.prog pC [lkV m lv sv w] b F (fun u F'=>u = .agg ⟨[ii 0,ii 0]⟩∧F'=F):=by
 have ho:∀ w,Sat b F w→lv.oneCell'=true∧sv.oneCell'=true:=fun w H=>by
  obtain ⟨_,_,e1,_⟩:=(hm w H).l;obtain ⟨_,_,e2,_⟩:=(hm w H).s;rw [e1,e2];exact ⟨rfl,rfl⟩
 refine ao Tryz.func118 Z Z Z <| bu ho ?_;rintro ⟨o1,o2⟩;refine anf <| br Z Z Z Z Z fun g1=>bq Z Z Z Z Z fun g2=>aby ?_
 (iterate 5 refine ae Z ?_)
 refine Hq ruT Z Z Z Z Z Z (by decide) (by decide) Z fun g3=>ae Z <| aby ?_
 refine b7 2 Z Z Z Z Z Z (cp (by rw [to h];rfl)) Z ?_;refine qq idK idOk Z Z Z fun gi=>qq Value.string (fun s=>s.size≤maxLen) Z Z Z fun gp=>Ez Z Z Z ⟨to h,rfl,rfl,trivial⟩ <| bn 18 (L8 m lv sv w dcZ 0 gi gp) Z Z <| bq Z Z Z Z Z fun g4=> ?_;have hz:dcZ.id.length=32:=rfl;refine eh 0 Z Z Z Z Z Z Z (Gw h hz) (abp o1 o2) (by rw [Gw h hz];rfl) ?_;refine ane <| ac <| anf <| ae Z <| b7 5 Z Z Z Z Z Z (cA (l:=mfC m lv sv) [ii w] (jz h)) Z <| am Z Z Z (qF (F:=pt g4 pd (rz m lv sv w dcZ 0 gi gp)::mpS gp []::mpI gi []::pt g3 fT ruT.flatten::ftP g2::pt g1 iU (lkC m lv sv w)::F) h (up hm (af 6 [] Z)) (by omega)) ?_;rintro u _ rfl;refine b6 (fun w H=>ci (H.sl (k:=0) Z)) ?_;rintro ⟨A,c,rfl,_,_,_,h4,_⟩;generalize mfD m=D at *;refine apn Z Z <| ane <| ak ?_;refine d6 (S:=Nat × Dc × Int) (fun q=> [(2,pp g2),(3,.slice (some ⟨g3,0,none⟩) 5 5),(4,pp g4),(21,.slice A D.length c),(22,ii D.length),(23,ii q.1)])
  (fun q=>pt g4 pd (rz m lv sv w q.2.1 q.2.2 gi gp)::mpI gi (byM Dc.id (D.take q.1))::mpS gp (byM Dc.plat (D.take q.1))::pt g3 fT ruT.flatten::rDs (.slice A D.length c) D::ftP g2::F) (fun q=>q.1≤D.length∧q.2.1.id.length=32) (fun q=>D.length - q.1) (0,dcZ,0) (af 7 [1,3,2,4,0,5] Z) ⟨aqc _,hz⟩ ?_
 rintro ⟨i,d0,a0⟩ ⟨hi,hd0⟩;dsimp only at hi hd0 ⊢;refine anf <| ae Z <| ane <| ac ?_;refine cj Z (fun h1=> ?_) (fun h1=> ?_)
 ·have h1':i<D.length:=by omega
  obtain ⟨gg,oo,rfl⟩:=h4 (by omega);have hmem:=apw h1';have ok32D:Cx D:=fun d hd'=>(hD.id d hd').1
  have hc2:∀ {G:List SP} {k:Nat},nth G k=some (rDs (.slice (some ⟨gg,oo,none⟩) D.length c) D)→∀ w,Sat b G w→∀ j,j<35→w.cell? ⟨gg,oo+i*35+j,none⟩=(dcC D[i])[j]?:=fun hk w H j hj=>ej (H.sl hk) (nP ok32D) h1' hj
  have hsn:D.take (i+1)=D.take i ++ [D[i]]:=apz h1';have f1:=hD.id _ hmem;have f2:=hD.p _ hmem;have f3:=hD.m i h1';have f4:=hD.h _ hmem;have f5:=hD.s _ hmem;have f6:=hD.a i h1';have f7:=hD.some i;generalize D[i]=x at *;have xl:=d8 f1.1;refine ah <| ab <| ac <| ak <| anf <| ae Z <| ay Z ?_;refine fc Z (fun w H=>di (cs:=dcC x) Z Z Z xl (fun j hj=>by rw [b5,apu];exact hc2 (k:=4) Z w H j (by rw [xl] at hj;exact hj))) Z ?_;refine bq Z Z Z Z Z fun g6=>ae Z ?_
  refine eh 0 Z Z Z Z Z Z Z xl jq (by rw [xl];rfl) ?_;refine aby ?_;refine b7 0 Z Z Z Z Z Z (cp (by rw [xl];rfl)) Z ?_;refine apn Z Z ?_;refine mE (vs:=dcC x) (cs':=rz m lv sv w x a0 gi gp) 1 Z Z Z Z Z Z (by rw [xl];rfl) (aqm.2 jq) Z (abn h hd0 f1.1) Z ?_;refine ae Z <| dS (cs':=rz m lv sv w x (i:Int) gi gp) 1 Z Z Z Z Z Z Z Z (abo h f1.1) Z <| ane <| ac <| anf <| apo Z Z Z <| ane <| ak ?_;refine d6 (S:=Nat) (fun j=> [(2,pp g2),(3,.slice (some ⟨g3,0,none⟩) 5 5),(4,pp g4),(21,.slice (some ⟨gg,oo,none⟩) D.length c),(22,ii D.length),(23,ii i),(5,ii i),(6,pp g6),(32,.slice (some ⟨g3,0,none⟩) 5 5),(33,ii 5),(34,ii j)])
   (fun _=>pt g6 t_api_Desc (dcC x)::pt g4 pd (rz m lv sv w x (i:Int) gi gp)::mpI gi (byM Dc.id (D.take i))::mpS gp (byM Dc.plat (D.take i))::pt g3 fT ruT.flatten::rDs (.slice (some ⟨gg,oo,none⟩) D.length c) D::ftP g2::F) (fun j=>j≤5) (fun j=>5 - j) 0 av (aqc _) ?_
  intro j hj;have tl:=Gw (lv:=lv) (sv:=sv) (w:=w) (at':=(i:Int)) (gi:=gi) (gp:=gp) h f1.1
  match j,hj with
  | 0, _ =>
   refine anf <| ae Z <| ane <| ac <| ar Z <| ah <| ab <| ac <| ak <| anf <| ay Z <| ba 4 Z Z Z <| bq Z Z Z Z Z fun g8=>cg 0 Z Z Z Z <| aby <| ae Z <| ba 0 Z Z Z ?_
   refine b7 2 Z Z Z Z Z Z (cp (by rw [tl];rfl)) Z ?_;refine au Z Z Z (Gx h f1.1 hk f3) <| ae Z <| ane <| ai Z <| ah <| bg <| ab <| aa <| ay Z <| ae Z <| ad ?_;exact i9 1 (af 1 [] Z) (show 1≤5 by decide) (show 5 - 1<5 - 0 by decide)
  | 1, _ =>
   refine anf <| ae Z <| ane <| ac <| ar Z <| ah <| ab <| ac <| ak <| anf <| ay Z <| ba 4 Z Z Z <| bq Z Z Z Z Z fun g8=>cg 0 Z Z Z Z <| aby <| ae Z <| ba 0 Z Z Z ?_
   refine b7 2 Z Z Z Z Z Z (cp (by rw [tl];rfl)) Z ?_;refine au Z Z Z (Gy h f1.1 f4) <| ae Z <| ane <| ai Z <| ah <| bg <| ab <| aa <| ay Z <| ae Z <| ad ?_;exact i9 2 (af 1 [] Z) (show 2≤5 by decide) (show 5 - 2<5 - 1 by decide)
  | 2, _ =>
   refine anf <| ae Z <| ane <| ac <| ar Z <| ah <| ab <| ac <| ak <| anf <| ay Z <| ba 4 Z Z Z <| bq Z Z Z Z Z fun g8=>cg 0 Z Z Z Z <| aby <| ae Z <| ba 0 Z Z Z ?_
   refine b7 2 Z Z Z Z Z Z (cp (by rw [tl];rfl)) Z ?_;refine au Z Z Z (Vv h f1.1 f5) <| ae Z <| ane <| ai Z <| ah <| bg <| ab <| aa <| ay Z <| ae Z <| ad ?_;exact i9 3 (af 1 [] Z) (show 3≤5 by decide) (show 5 - 3<5 - 2 by decide)
  | 3, _ =>
   refine anf <| ae Z <| ane <| ac <| ar Z <| ah <| ab <| ac <| ak <| anf <| ay Z <| ba 4 Z Z Z <| bq Z Z Z Z Z fun g8=>cg 0 Z Z Z Z <| aby <| ae Z <| ba 0 Z Z Z ?_
   refine b7 2 Z Z Z Z Z Z (cp (by rw [tl];rfl)) Z ?_;refine au Z Z Z (L9 h f1.1 (by rw [f3];split <;> omega) f2) ?_;refine ae Z <| ane <| ai Z <| ah <| bg <| ab <| aa <| ay Z <| ae Z <| ad ?_;exact i9 4 (af 1 [] Z) (show 4≤5 by decide) (show 5 - 4<5 - 3 by decide)
  | 4, _ =>
   refine anf <| ae Z <| ane <| ac <| ar Z <| ah <| ab <| ac <| ak <| anf <| ay Z <| ba 4 Z Z Z <| bq Z Z Z Z Z fun g8=>cg 0 Z Z Z Z <| aby <| ae Z <| ba 0 Z Z Z ?_
   refine b7 2 Z Z Z Z Z Z (cp (by rw [tl];rfl)) Z ?_;refine am Z Z Z ((Q8 (F:=pt g6 t_api_Desc (dcC x)::pt g4 pd (rz m lv sv w x (i:Int) gi gp)::pt g3 fT ruT.flatten::rDs (.slice (some ⟨gg,oo,none⟩) D.length c) D::ftP g2::F) h f1 (by rw [f2];decide) hk f6 (f7 _)).ent (af 8 [3,4,1,2,5,6,7] Z)) ?_;rintro _ _ ⟨rfl,rfl⟩;refine ae Z <| ane <| ai Z <| ah <| bg <| ab <| aa <| ay Z <| ae Z <| ad ?_;exact i9 5 (af 7 [2,3,0,1,4,5,6] Z) (show 5≤5 by decide) (show 5 - 5<5 - 4 by decide)
  | 5, _ =>
   refine anf <| ae Z <| ane <| ac <| ai Z <| b8 <| aw <| ax <| aq <| ab <| cq flo (pt g6 t_api_Desc (dcC x)::pt g4 pd (rz m lv sv w x (i:Int) gi gp)::pt g3 fT ruT.flatten::rDs (.slice (some ⟨gg,oo,none⟩) D.length c) D::ftP g2::F) (by decide +kernel) (af 7 [0,1,4,5,6] Z) <| bj Z Zl ?_;refine zu 1 Z Z Z Z Z Z (X9 h f1.1) Z Z ?_;refine bj Z Zl <| fw 0 Z Z Z Z Z Z (Cw f1.1) Z Z <| bj Z Zl <| zu 1 Z Z Z Z Z Z (Q3 h f1.1) Z Z <| bj Z Zl <| zu 0 Z Z Z Z Z Z (Pg f1.1) Z Z ?_;refine fw 0 Z Z Z Z Z Z (cp (by rw [xl];rfl)) Z Z ?_;refine fw 0 Z Z Z Z Z Z (cp (by rw [xl];rfl)) Z Z ?_;refine rH 2 (a:=x.id) (v:= .agg ⟨dcC x⟩) aV f1 Z Z Z Z Z Z Z Z Z (af 7 [0,1,4,5,6] Z) ?_;refine rH 3 (a:=x.plat) (v:= .agg ⟨dcC x⟩) bG (by rw [f2];decide) Z Z Z Z Z Z Z Z Z (af 7 [0,1,4,5,6] Z) ?_;refine ap <| bg <| ab <| aa <| ay Z <| ae Z <| ad ?_;rw [show (i:Int)+1=((i+1:Nat):Int) by omega];refine dj (i+1,x,(i:Int)) ?_ ⟨by dsimp only;omega,f1.1⟩;dsimp only;rw [hsn,uA,uA];exact af 7 [1,2,3,4,5,6] Z
 ·refine b8 <| aw <| ax <| aq <| ab <| anf <| ae Z <| cg 5 Z Z Z Z <| ane <| aj <| ez Z (.agg 5 Z Z Z Z Z .nil) (af 6 [] Z) ?_;exact ⟨rfl,rfl⟩
end

def ruC:List (List Value):= [[ii 3,.func (.func vq) ⟨[]⟩ ⟨[]⟩],[ii 20,.func (.func vr) ⟨[]⟩ ⟨[]⟩],[ii 0,.nilFunc],[ii 4,.func (.func wu) ⟨[]⟩ ⟨[]⟩],[ii 15,.func (.func vt) ⟨[]⟩ ⟨[]⟩]]
section
variable {b:World} {F:List SP} {m:Mf} {lv sv:Value} {w:Int}
theorem Vw {k:Nat} (hI:nth F k=some (Is b)) (hP:lV b) (hw:MfW m) (hk:m.kind=3) (ht:m.title=tT) (hW:1≤w∧w≤32) (hm:∀ w,Sat b F w→MR w m lv sv) (hD:Ma w (mfD m)) (hn:(mfD m).length≤1000) :
  SC Tryz.prog rX [.agg ⟨mfC m lv sv⟩,ii w] b F (fun u F'=>u = .agg ⟨[ii 0,ii 0]⟩∧F'=F):=by
 have h:=hw.n.c.id.1;have hs0:m.subs.length=0:=by rw [hw.i hk];rfl
 have hl16:m.layers.length≤16:=by have:=hw.n.n;rw [Mf.many,aps] at this;omega
 have ho:∀ w,Sat b F w→lv.oneCell'=true∧sv.oneCell'=true:=fun w H=>by
  obtain ⟨_,_,e1,_⟩:=(hm w H).l;obtain ⟨_,_,e2,_⟩:=(hm w H).s;rw [e1,e2];exact ⟨rfl,rfl⟩
 have hT:∀ {G:List SP} {k:Nat},nth G k=some (Is b)→SC Tryz.prog kO [.string m.title] b G (fun u F'=>u = .agg ⟨[ii 0,ii 0]⟩∧F'=G):=fun hI=>by rw [ht];exact Vt hI hP
 refine ao Tryz.func54 Z Z Z <| bu ho ?_;rintro ⟨o1,o2⟩;refine anf <| br Z Z Z Z Z fun g2=>bq Z Z Z Z Z fun g4=>ane <| No <| anf ?_
 refine b7 1 Z Z Z Z Z Z (cp (by rw [jz h];rfl)) Z ?_;refine ae Z <| Ez Z Z Z ⟨jz h,rfl,trivial⟩ <| bn 13 (lkV m lv sv w) Z Z <| bq Z Z Z Z Z fun g5=> ?_;have ll:=to (lv:=lv) (sv:=sv) (w:=w) h;refine eh 0 Z Z Z Z Z Z Z ll (Jl o1 o2) (by rw [ll];rfl) ?_;refine aby ?_
 (iterate 5 refine ae Z ?_)
 refine Hq ruC Z Z Z Z Z Z (by decide) (by decide) Z fun g6=>ae Z <| ane <| ac <| Np <| ab <| ac <| anf <| apo Z Z Z <| ane <| ak ?_
 refine d6 (S:=Nat) (fun j=> [(1,ii w),(2,pp g2),(4,pp g4),(5,pp g5),(20,.slice (some ⟨g6,0,none⟩) 5 5),(21,ii 5),(22,ii j)])
  (fun _=>pt g6 205 ruC.flatten::pt g5 iU (lkC m lv sv w)::ftP g4::pt g2 b9 (mfC m lv sv)::F) (fun j=>j≤5) (fun j=>5 - j) 0 av (aqc _) ?_
 intro j hj
 match j,hj with
 | 0, _ =>
  refine anf <| ae Z <| ane <| ac <| ar Z <| ah <| ab <| ac <| ak <| anf <| ay Z <| ba 0 Z Z Z <| bq Z Z Z Z Z fun g8=>cg 0 Z Z Z Z <| ane <| ak <| anf <| ae Z <| ba 0 Z Z Z <| j6 Z (Bb Z Z Z Z Z) Z <| ae Z <| ane <| ai Z <| anf <| ae Z <| ba 0 Z Z Z ?_
  refine b7 2 Z Z Z Z Z Z (cp (by rw [ll];rfl)) Z ?_;refine au Z Z Z (Q4 h hW) <| apn Z Z <| ane <| ai Z <| ah <| bg <| bg <| ab <| aa <| ay Z <| ae Z <| ad ?_;exact i9 1 (af 1 [] Z) (show 1≤5 by decide) (show 5 - 1<5 - 0 by decide)
 | 1, _ =>
  refine anf <| ae Z <| ane <| ac <| ar Z <| ah <| ab <| ac <| ak <| anf <| ay Z <| ba 0 Z Z Z <| bq Z Z Z Z Z fun g8=>cg 0 Z Z Z Z <| ane <| ak <| anf <| ae Z <| ba 0 Z Z Z <| j6 Z (Bb Z Z Z Z Z) Z <| ae Z <| ane <| ai Z <| anf <| ae Z <| ba 0 Z Z Z ?_
  refine b7 2 Z Z Z Z Z Z (cp (by rw [ll];rfl)) Z ?_;refine au Z Z Z (Q5 h hk hs0 (up hm (af 5 [] Z))) <| apn Z Z <| ane <| ai Z <| ah <| bg <| bg <| ab <| aa <| ay Z <| ae Z <| ad ?_;exact i9 2 (af 1 [] Z) (show 2≤5 by decide) (show 5 - 2<5 - 1 by decide)
 | 2, _ =>
  refine anf <| ae Z <| ane <| ac <| ar Z <| ah <| ab <| ac <| ak <| anf <| ay Z <| ba 0 Z Z Z <| bq Z Z Z Z Z fun g8=>cg 0 Z Z Z Z <| ane <| ak <| anf <| ae Z <| ba 0 Z Z Z <| j6 Z (Bb Z Z Z Z Z) Z <| ae Z <| ane <| ar Z <| anf <| ae Z <| ba 4 Z Z Z <| au Z Z Z (hT (k:=k+5) hI) <| j6 Z (E5 Z Z Z Z Z Z Z) Z <| ae Z <| cg 3 Z Z Z Z <| aby <| ae Z <| ba 3 Z Z Z <| ae Z <| ane <| ai Z <| ah <| bg <| bg <| ab <| aa <| ay Z <| ae Z <| ad ?_
  exact i9 3 (af 1 [] Z) (show 3≤5 by decide) (show 5 - 3<5 - 2 by decide)
 | 3, _ =>
  refine anf <| ae Z <| ane <| ac <| ar Z <| ah <| ab <| ac <| ak <| anf <| ay Z <| ba 0 Z Z Z <| bq Z Z Z Z Z fun g8=>cg 0 Z Z Z Z <| ane <| ak <| anf <| ae Z <| ba 0 Z Z Z <| j6 Z (Bb Z Z Z Z Z) Z <| ae Z <| ane <| ai Z <| anf <| ae Z <| ba 0 Z Z Z ?_
  refine b7 2 Z Z Z Z Z Z (cp (by rw [ll];rfl)) Z ?_;refine au Z Z Z (Vu h hl16 hw.s (up hm (af 5 [] Z))) <| apn Z Z <| ane <| ai Z <| ah <| bg <| bg <| ab <| aa <| ay Z <| ae Z <| ad ?_;exact i9 4 (af 1 [] Z) (show 4≤5 by decide) (show 5 - 4<5 - 3 by decide)
 | 4, _ =>
  refine anf <| ae Z <| ane <| ac <| ar Z <| ah <| ab <| ac <| ak <| anf <| ay Z <| ba 0 Z Z Z <| bq Z Z Z Z Z fun g8=>cg 0 Z Z Z Z <| ane <| ak <| anf <| ae Z <| ba 0 Z Z Z <| j6 Z (Bb Z Z Z Z Z) Z <| ae Z <| ane <| ai Z <| anf <| ae Z <| ba 0 Z Z Z ?_
  refine b7 2 Z Z Z Z Z Z (cp (by rw [ll];rfl)) Z ?_;refine au Z Z Z (Q6 hk) <| apn Z Z <| ane <| ai Z <| ah <| bg <| bg <| ab <| aa <| ay Z <| ae Z <| ad ?_;exact i9 5 (af 1 [] Z) (show 5≤5 by decide) (show 5 - 5<5 - 4 by decide)
 | 5, _ =>
  refine anf <| ae Z <| ane <| ac <| ai Z <| b8 <| aw <| ax <| aq <| ab <| ac <| anf <| ae Z <| ba 2 Z Z Z <| ae Z <| ane <| ai Z <| ah <| ab <| ac <| anf ?_;refine b7 1 Z Z Z Z Z Z (cp (by rw [ll];rfl)) Z ?_;refine au Z Z Z (Q9 h hk (up hm (af 4 [] Z)) hD hn) <| cg 2 Z Z Z Z <| aby <| ae Z <| ba 2 Z Z Z <| ae Z <| ane <| ai Z <| ah <| ab <| anf ?_;refine b7 3 Z Z Z Z Z Z (cp (by rw [jz h];rfl)) Z ?_;refine am Z Z Z (nR hw (up hm (af 4 [] Z))) ?_;rintro _ _ ⟨r,rfl,rfl⟩
  (iterate 5 refine ae Z ?_)
  refine aby <| apn Z Z <| cg 3 Z Z Z Z <| ane <| aj <| Si ?_
  skip
  refine ez Z (.agg 3 Z Z Z Z Z .nil) (af 5 [] Z) ?_;exact ⟨rfl,rfl⟩
theorem abq {vb:Value} {k:Nat} (hI:nth F k=some (Is b)) (hP:lV b) (hw:MfW m) (hk:m.kind=3) (ht:m.title=tT) (hW:1≤w∧w≤32) (hD:Ma w (mfD m)) (hn:(mfD m).length≤1000) (hv:∀ w,Sat b F w→VL (Value.int .u8) w vb (mfB m)) :
  SC Tryz.prog vA [vb,ii w] b F (fun u F'=>∃ lv sv,u = .tuple ⟨[.agg ⟨mfC m lv sv⟩,ii 0]⟩∧F'=rDs lv m.layers::rDs sv m.subs::F):=by
 have hc32:=hw.n.c.id.1;refine ao Tryz.func16 Z Z Z <| anf <| bq Z Z Z Z Z fun g4=>ae Z <| aby <| ae Z <| am Z Z Z (nT hw (up hv (af 1 [] Z))) ?_
 rintro _ _ ⟨lv,sv,rfl,rfl⟩;refine b6 (fun w H=>(H.oat (k:=0) Z).form) ?_;rintro ⟨A1,c1,rfl,_,_,_⟩;refine b6 (fun w H=>(H.oat (k:=1) Z).form) ?_;rintro ⟨A2,c2,rfl,_,_,_⟩;have hl:=jz (lv:= .slice A1 m.layers.length c1) (sv:= .slice A2 m.subs.length c2) hc32;have ho:=y4 (m:=m) (lv:= .slice A1 m.layers.length c1) (sv:= .slice A2 m.subs.length c2) Z Z;refine apo Z Z Z <| bq Z Z Z Z Z fun g6=>bq Z Z Z Z Z fun g7=> ?_;refine eh 1 Z Z Z Z Z Z Z hl ho (by rw [hl];rfl) ?_;refine cg 0 Z Z Z Z <| ane <| ac <| anf <| ae Z <| ba 0 Z Z Z <| ae Z <| ane <| ar Z <| aa ?_;refine b7 1 Z Z Z Z Z Z (cp (by rw [hl];rfl)) Z ?_;refine ae Z <| au Z Z Z (Vw (k:=k+5) (F:=ftP g7::pt g6 b9 (mfC m (.slice A1 m.layers.length c1) (.slice A2 m.subs.length c2))::rDs (.slice A1 m.layers.length c1) m.layers::rDs (.slice A2 m.subs.length c2) m.subs::pt g4 b9 (mfC mfZ nilV nilV)::F) hI hP hw hk ht hW (fun w H=>⟨H.sl (k:=2) rfl,H.sl (k:=3) rfl⟩) hD hn) <| cg 0 Z Z Z Z <| ane <| ac <| anf <| ae Z <| ba 0 Z Z Z <| ae Z <| ane <| ai Z <| ah <| ab <| anf ?_;refine b7 1 Z Z Z Z Z Z (cp (by rw [hl];rfl)) Z ?_;refine eh 4 Z Z Z Z Z Z Z hl ho (by rw [hl];rfl) ?_;refine ae Z <| ane <| aj <| ez Z (.whole 4 Z Z Z Z hl (.tmp Z .nil)) (af 5 [2,3] Z) ?_;exact ⟨_,_,rfl,rfl⟩
end

def dcO (k w:Int) (xs:List Int):Dc:=⟨k,dq (dt xs) w,xs.length,⟨#[]⟩⟩
structure nU (w:Int) (Ls:List (List Int)) (cf:List Int):Prop where
 wd:1≤w∧w≤32
 n:Ls.length≤8
 b:∀ x∈Ls,x.length≤60∧jd x
 c:cf.length≤30∧jd cf
 out:∀ x∈Ls,dq (dt x) w≠dq (dt cf) w
 one:∀ x∈Ls,∀ y∈Ls,dq (dt x) w=dq (dt y) w→x=y
abbrev tp (w:Int) (Ls:List (List Int)) (cf:List Int):Mf:=nN (dcO 1 w cf) (Ls.map (dcO 2 w))
section
variable {w:Int} {Ls:List (List Int)} {cf:List Int}
theorem Dr (l:List Int) (h:1≤w∧w≤32):Ft (dq (dt l) w) w=true:=by
 have hs:=yb l;have hn:¬ (w<1∨32<w):=by omega
 have e:dq (dq (dt l) w) w=dq (dt l) w:=by
  have e1:dq (dt l) w=sV (dt l) w.toNat:=by unfold dq;rw [if_neg hn]
  rw [e1];unfold dq;rw [if_neg hn];unfold sV;rw [arl (by rw [ap7];omega)]
 unfold Ft dH;rw [if_neg hn,e];simp
theorem Yb {k:Int} {xs:List Int} (hk:k=1∨k=2) (hx:xs.length≤60):DcS (dcO k w xs) where
 m:=by show 0≤k∧k<192;omega
 id:=jv _ _
 s:=by show 0≤(xs.length:Int)∧(xs.length:Int)<192;omega
 p:=rfl
theorem nU.ok (h:nU w Ls cf):fP w (dcO 1 w cf) (Ls.map (dcO 2 w)) where
 cS:=Yb Zl (by have:=h.c.1;omega)
 cm:=rfl
 lS:=fun d hd=>by
  obtain ⟨x,hx,rfl⟩:=ap8.1 hd;exact Yb (.inr Z) (h.b x hx).1
 lm:=fun d hd=>by
  obtain ⟨x,hx,rfl⟩:=ap8.1 hd
  rfl
 n:=by rw [ap9];exact h.n
 has:=fun d hd=>by
  rcases ap1.1 hd with rfl | hd
  ·exact Dr _ h.wd
  ·obtain ⟨x,hx,rfl⟩:=ap8.1 hd;exact Dr _ h.wd
 out:=fun d hd=>by
  obtain ⟨x,hx,rfl⟩:=ap8.1 hd;exact h.out x hx
 one:=fun d hd e he q=>by
  obtain ⟨x,hx,rfl⟩:=ap8.1 hd;obtain ⟨y,hy,rfl⟩:=ap8.1 he;obtain rfl:=h.one x hx y hy q
  rfl
theorem qK (c:Dc) (l:List Dc):mfD (nN c l)=c::l:=by simp [mfD,nN]
theorem Vx (s:Dc):mfD (pQ s) = [s]:=rfl
theorem fP.th {c:Dc} {l:List Dc} (h:fP w c l):Ma w (mfD (nN c l)):=by
 rw [qK];refine ⟨fun d hd=>(h.all d hd).id,fun d hd=>(h.all d hd).p,fun i hi=> ?_,h.has,fun d hd=> ?_,fun i hi=> ?_⟩
 ·cases i with
  | zero => exact h.cm
  | succ i =>
   rw [if_neg (by omega)];exact h.lm _ (apw _)
 ·have:=(h.all d hd).s;omega
 ·cases hg:jl ((c::l)[i]).id (byM Dc.id ((c::l).take i)) with
  | none => exact .inl Z
  | some v =>
   obtain ⟨d,rfl,h1,h2,h3⟩:=h.single hi hg;exact .inr ⟨d,rfl,h1,h2,h3⟩
theorem fP.W {c:Dc} {l:List Dc} (h:fP w c l):MfW (nN c l) where
 n:=al7 h.cS h.lS h.n
 i:=fun _=>rfl
 x:=fun q=>absurd q (show (3:Int)≠4 by decide)
 s:=aqc _
theorem Ra {s:Dc} (h:DcN s):MfW (pQ s) where
 n:=Pc h
 i:=fun q=>absurd q (show (4:Int)≠3 by decide)
 x:=fun _=>⟨rfl,rfl⟩
 s:=(show [s].length≤8 by simp)
theorem nU.long (h:nU w Ls cf) {x:List Int} (hx:x∈Ls∨x=cf):x≠mfB (tp w Ls cf):=fun e=>by
 have h1:=Il h.ok.cS h.ok.lS h.ok.n;rw [← e,ap9] at h1;rcases hx with hx | rfl
 ·have h2:=(h.b x hx).1;have h3:0<Ls.length:=List.length_pos_of_mem hx;omega
 ·have:=h.c.1;omega
def uR (w:Int) (X:List Int):Dc:=⟨3,dq (dt X) w,X.length,Pb⟩
theorem Dt {X:List Int} (hX:X.length≤4096):DcN (uR w X) where
 m:=by show (0:Int)≤3∧(3:Int)<_;omega
 id:=jv _ _
 s:=by show 0≤(X.length:Int)∧(X.length:Int)<_;omega
 p:=by show Pb.size≤64;decide
end

structure Gz (w:Int) (Ls:List (List Int)) (cf:List Int) (l:List Kp):Prop where
 x:∃ e,eq (dq (dt (mfB (tp w Ls cf))) w) l=some e∧e.b=mfB (tp w Ls cf)
 a:∀ y,y∈Ls∨y=cf→∃ e,eq (dq (dt y) w) l=some e∧e.b=y
def yk (w:Int) (Ls:List (List Int)) (cf:List Int):List (List Int):=(cf::Ls).map fun y=>dq (dt y) w
section
variable {b:World} {gs gm:Nat} {w r u dep:Int} {l:List Kp} {Ls:List (List Int)} {cf:List Int} {d:Dc} {fi:Bool}
theorem Rb (w:Int) (Ls:List (List Int)) (cf:List Int):(((mfD (tp w Ls cf)).map fun d=> [d.id])).flatten=yk w Ls cf:=by
 rw [qK];unfold yk;show [dq (dt cf) w]++((Ls.map (dcO 2 w)).map fun d=> [d.id]).flatten=dq (dt cf) w::Ls.map fun y=>dq (dt y) w
 rw [att];have:∀ A:List (List Int),(A.map ((fun d:Dc=> [d.id]) ∘ dcO 2 w)).flatten=A.map fun y=>dq (dt y) w:=by
  intro A
  induction A with
  | nil => rfl
  | cons a A ih => rw [aqt, ar4, ih]; rfl
 rw [this];rfl
theorem nU.leaf (h:nU w Ls cf) (hl:Gz w Ls cf l) {d:Dc} (hd:d∈mfD (tp w Ls cf)):∃ e,eq d.id l=some e∧(e.b.length:Int)=d.size∧e.b.length≤4096∧(d.media=1∨d.media=2)∧idOk d.id:=by
 rw [qK] at hd;rcases ap1.1 hd with rfl | hd
 ·obtain ⟨e,h1,h2⟩:=hl.a cf (.inr Z);have:=h.c.1;exact ⟨e,h1,by rw [h2];rfl,by rw [h2];omega,.inl rfl,jv _ _⟩
 ·obtain ⟨x,hx,rfl⟩:=ap8.1 hd;obtain ⟨e,h1,h2⟩:=hl.a x (.inl hx);have:=(h.b x hx).1;exact ⟨e,h1,by rw [h2];rfl,by rw [h2];omega,.inr rfl,jv _ _⟩
theorem Du (h:nU w Ls cf) (hl:Gz w Ls cf l) (hd:d.id=dq (dt (mfB (tp w Ls cf))) w) (hf:fi=true∨(d.media=3∧d.size=(mfB (tp w Ls cf)).length)) (hdep:1≤dep∧dep≤3) :
  xF b gs gm w r u l d dep fi (dq (dt (mfB (tp w Ls cf))) w::yk w Ls cf):=by
 obtain ⟨e,e1,e2⟩:=hl.x;rw [← Rb w Ls cf,← hd];refine P7 (e:=e) (m0:=tp w Ls cf) (by rw [hd];exact jv _ _) (by rw [hd];exact e1) e2 h.ok.W ?_ ?_ (by omega) ?_ (by rw [ap9]) ?_
 ·exact hf.imp id fun q=>by rw [e2,q.2]
 ·exact hf.imp id fun q=>q.1
 ·exact hf.imp id fun q=>q.1.symm
 ·intro k hk hk2;rw [aq7];obtain ⟨e',h1,h2,h3,h4,h5⟩:=h.leaf hl (apw hk);exact aa5 h5 h1 h3 h2 h4
theorem xH (h:nU w Ls cf) (hl:Gz w Ls cf l) (hdep:1≤dep∧dep≤3) :
  uL b gs gm w r u l (dq (dt (mfB (tp w Ls cf))) w) dep (dq (dt (mfB (tp w Ls cf))) w::yk w Ls cf):=by
 obtain ⟨e,e1,e2⟩:=hl.x;rw [← Rb w Ls cf];refine I9 (e:=e) (m0:=tp w Ls cf) (jv _ _) e1 e2 h.ok.W (by omega) (by rw [ap9]) ?_ ?_
 ·intro d hd;obtain ⟨_,_,_,_,_,h5⟩:=h.leaf hl hd;exact h5
 ·intro k hk hk2;obtain ⟨_,_,_,_,h4,_⟩:=h.leaf hl (apw hk);exact .inl ⟨h4,by rw [aq7]⟩
variable {X Y:List Int}
theorem Rc (h:nU w Ls cf) (hl:Gz w Ls cf l) (hX:mfB (tp w Ls cf)=X) (hY:mfB (pQ (uR w X))=Y) (hX4:X.length≤4096) (hr:∃ e,eq (dq (dt Y) w) l=some e∧e.b=Y) :
  xF b gs gm w r u l (dsI (dq (dt Y) w)) 1 true (dq (dt Y) w::dq (dt X) w::yk w Ls cf):=by
 obtain ⟨e,e1,e2⟩:=hr;have hi:=Du (b:=b) (gs:=gs) (gm:=gm) (r:=r) (u:=u) (d:=uR w X) (fi:=false) (dep:=2) h hl (by rw [hX];rfl) (.inr ⟨rfl,by rw [hX];rfl⟩) (by decide);rw [hX] at hi;have:=P7 (b:=b) (gs:=gs) (gm:=gm) (r:=r) (u:=u) (l:=l) (d:=dsI (dq (dt Y) w)) (dep:=1) (fi:=true) (e:=e) (m0:=pQ (uR w X)) (ys:= [dq (dt X) w::yk w Ls cf]) (jv _ _) e1 (e2.trans hY.symm) (Ra (Dt hX4)) Zl Zl (by decide) Zl Z (fun k hk hk2=>by
  have:k=0:=by simpa using hk2
  subst this;exact hi)
 simpa using this
theorem Mb (h:nU w Ls cf) (hl:Gz w Ls cf l) (hX:mfB (tp w Ls cf)=X) (hY:mfB (pQ (uR w X))=Y) (hX4:X.length≤4096) (hr:∃ e,eq (dq (dt Y) w) l=some e∧e.b=Y) (hne:∀ x∈dq (dt X) w::yk w Ls cf,x≠dq (dt Y) w) :
  uL b gs gm w r u l (dq (dt Y) w) 1 (dq (dt Y) w::dq (dt X) w::yk w Ls cf):=by
 obtain ⟨e,e1,e2⟩:=hr;have hi:=xH (b:=b) (gs:=gs) (gm:=gm) (r:=r) (u:=u) (dep:=2) h hl (by decide);rw [hX] at hi;have:=I9 (b:=b) (gs:=gs) (gm:=gm) (r:=r) (u:=u) (l:=l) (id:=dq (dt Y) w) (dep:=1) (e:=e) (m0:=pQ (uR w X)) (ys:= [dq (dt X) w::yk w Ls cf]) (jv _ _) e1 (e2.trans hY.symm) (Ra (Dt hX4)) (by decide) Z (fun d hd=>by
  rw [Vx] at hd;rw [apy.1 hd];exact jv _ _) (fun k hk hk2=>by
  have:k=0:=by simpa using hk2
  subst this;exact .inr ⟨rfl,hi,fun x hx=>⟨hne x hx,by simp⟩⟩)
 simpa using this
end


structure RB where
 id:List Int
 b:List Int
 v:Value
section
variable {b:World} {F:List SP} {gr:Nat} {w r:Int} {A:Option Addr} {c n:Nat} {L:List RB}
end

section
variable {b:World} {F:List SP} {gr:Nat} {w r:Int} {A:Option Addr} {c n:Nat} {L:List RB} {id:List Int}
end

section
variable {b:World} {F:List SP} {gr:Nat} {w r:Int} {A:Option Addr} {c n:Nat} {L:List RB} {id xs:List Int} {vb:Value}
end

structure aph (w r u:Int) (l:List Kp) (L:List RB):Prop where
 st:StI w r u l
 pm:(L.map fun e=>(e.id,e.b)).Perm (l.map fun e=>(e.id,e.b))
 so:(L.map (·.id)).Pairwise leM
 one:∀ e∈L,e.v.oneCell'=true
theorem Rd {x y:List Int} (hx:jd x) (hy:jd y) (h1:leM x y) (h2:leM y x):x=y:=Tk hx hy (yS _ _ h2 h1)
section
variable {w r u:Int} {l:List Kp} {L:List RB} (h:aph w r u l L)
include h
end
end Go.Proofs.YtbfailbgdnpaiaaGreatDoor
