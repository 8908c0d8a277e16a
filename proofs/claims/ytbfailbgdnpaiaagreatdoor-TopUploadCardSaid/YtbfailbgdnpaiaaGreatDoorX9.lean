/- Closures, part two: sets of digests as maps: their digests gathered, and sorted. Conditions: not too many. -/
import Derived.Test.YtbfailbgdnpaiaaGreatDoorX8
import Derived.Test.YtbfailbgdnpaiaaGreatDoorX3
import Derived.Test.YtbfailbgdnpaiaaGreatDoorX6
import Derived.Test.YtbfailbgdnpaiaaGreatDoorX7
set_option maxRecDepth 20000
set_option maxHeartbeats 8000000
namespace Go.Proofs.YtbfailbgdnpaiaaGreatDoor
open Go Go.Eng Go.RowKit Go.WideMaps Go.Heap

abbrev idK:List Int→Value:=fun a=> .agg ⟨a.map (Value.int .u8)⟩
abbrev mpI (gm:Nat) (E:List (List Int × Value)):SP:=mp gm idK idOk E
abbrev rJ (v:Value) (l:List (List Int)):SP:=row t_api_ID 32 v l.length (flC u8s l)
def okI (xs:List (List Int)) (a:List Int) (vs:List Value) (_:SP):Prop:=vs = [idV a]∧idOk a∧xs.length<1000000
section
variable {b:World} {F:List SP} {gm gmb:Nat} {E:List (List Int × Value)}
theorem Pd {k:Nat} (hk:nth F k=some (mpI gm E)):∀ w,Sat b F w→∀ x∈E,idOk x.1:=fun w H=>by
 obtain ⟨_,_,_,_,h,_⟩:=H.mp hk;exact h
theorem Ug:SC Tryz.prog j8 [.map (some gm)] b F (fun u F'=>∃ gmb,u = .func (.func d4) ⟨[]⟩ ⟨[pp gmb]⟩∧F'=pt gmb d9 [.map (some gm)]::F):=by
 refine ao Tryz.func200 Z Z Z <| anf <| br Z Z Z Z Z fun gs=>ae Z <| aby <| apn Z Z <| ane <| aj <| bh Z Z av ?_
 exact ⟨gs,rfl,rfl⟩
theorem Pe {m:Nat} {J:List (List Int)→SP} (hY:xy Tryz.prog m b okI J) (hn:E.length≤100000) :
  SC Tryz.prog d4 [.func (.yield m) ⟨[]⟩ ⟨[]⟩,pp gmb] b (J []::pt gmb d9 [.map (some gm)]::mpI gm E::F) (fun _ F'=>∃ l,l.Perm (E.map Prod.fst)∧F'=J l::pt gmb d9 [.map (some gm)]::mpI gm E::F):=by
 refine ao Tryz.func262 Z Z Z <| bu (Pd (k:=2) Z) fun hid=> ?_;refine anf <| ba 1 Z Z Z <| rF 2 Z Z Z Z Z (fun _=>rfl) Z fun gi=>ane <| ak ?_
 refine d6 (S:=List (List Int) × List (List Int × Value) × Option (List Int × Value)) (fun s=> [(0,.func (.yield m) ⟨[]⟩ ⟨[]⟩),(1,pp gmb),(5,pp gi)])
  (fun s=>J s.1::pt gmb d9 [.map (some gm)]::mr gm gi idK idOk E s.2.1 s.2.2::F) (fun s=>(s.1++s.2.1.map Prod.fst).Perm (E.map Prod.fst)) (fun s=>s.2.1.length) ([],E,none) av (List.Perm.refl _) ?_
 rintro ⟨l,S,c⟩ hp;dsimp only at hp ⊢;have hpl:=hp.length_eq;rw [aps,ap9,ap9] at hpl;refine anf ?_;refine xW 2 Z Z Z Z (fun _ _ _=>rfl) Z (fun hR=> ?_) (fun R1 y R2 hR=> ?_)
 ·subst hR;rw [as9,aqg] at hp;refine ae Z <| ane <| ac <| ai Z <| b8 <| aw <| ax <| aq <| io Z .nil (Es 2 Z Z) ?_;exact ⟨l,hp,rfl⟩
 ·subst hR;rw [aps,ap3] at hpl;have hy:idOk y.1:=by
   obtain ⟨x,hx,e⟩:=ap8.1 (hp.mem_iff.1 (show y.1∈l++(R1++y::R2).map Prod.fst by simp));exact e▸hid x hx
  refine ae Z <| ane <| ac <| ar Z <| ah <| ab <| ak <| anf <| rG 2 Z Z Z Z Z <| ae Z <| bq Z Z Z Z Z fun g4=> ?_
  skip
  refine eh 0 Z Z Z Z Z Z Z (by rw [bz,hy.1];rfl) (ec _) (by simp [hy.1]) ?_;refine aby <| ae Z <| b7 0 Z Z Z Z Z Z (ek hy.1) Z ?_;refine uo hY Z Z Z (af 2 [1,0] Z) ⟨rfl,hy,by omega⟩ ?_;refine ae Z <| ane <| ai Z <| ah <| bg ?_;refine i9 (l ++ [y.1],R1++R2,some y) (af 2 [0] Z) ?_ ?_
  ·dsimp only;refine List.Perm.trans ?_ hp;rw [ap0];refine List.Perm.append_left l ?_;simp only [aqa,aqt,List.singleton_append];exact aqz.symm
  ·dsimp only;simp only [aps,ap3];omega
theorem ame {gf:Nat} {caps:List Value} [Bodied Tryz.prog gf] {T:List (List Int)→List SP→Prop}
  (hg:∀ m J,xy Tryz.prog m b okI J→SC Tryz.prog gf (.func (.yield m) ⟨[]⟩ ⟨[]⟩::caps) b (J []::F) (fun _ F'=>∃ l F2,F'=J l::F2∧T l F2)) :
  SC Tryz.prog qz [.slice none 0 0,.func (.func gf) ⟨[]⟩ ⟨caps⟩] b F (fun u F'=>∃ l F2,T l F2∧F'=rJ u l::F2):=by
 refine yt Tryz.func298 Z Z Z <| anf <| br Z Z Z Z Z fun g2=>ae Z <| ane <| ac <| anf <| ae Z <| ane <| ak ?_
 refine qs Z okI (fun l=> [exP (fun _:Value=>True) fun v=> [pt g2 jb [v],rJ v l]]) F T ?_ Z ?_ ?_ hg ?_
 ·exact ((de t_api_ID 32 Z).trans (af 2 [1,0] Z)).trans (zw (p:=fun _:Value=>True) (G:=fun v=> [pt g2 jb [v],rJ v []]) (.slice none 0 0) trivial)
 ·rintro xs a vs A ⟨rfl,_⟩;rfl
 ·rintro m2 D l x vs A F0 Rr ⟨rfl,hx,hl⟩ hR;refine qb (af 3 [2,0,1] Z) <| E3 fun v _=>qb (af 4 [2,0,1,3] Z) <| aa <| bq Z Z Z Z Z fun g5=> ?_
  skip
  refine eh 0 Z Z Z Z Z Z Z (by rw [bz,hx.1];rfl) (ec _) (by simp [hx.1]) ?_;refine ad <| ri (af 5 [1,2,3,4,0] Z) <| mM <| ak <| aa <| ba 1 Z Z Z <| b7 4 Z Z Z Z Z Z (ek hx.1) Z ?_;refine li Z Z Z Z Z Z Z (by rw [bz,hx.1];rfl) (by decide) fun gl=> ?_;refine ef 3 Z Z Z Z Z Z Z Z Z (m:=1) (news:=u8s x) (fun w H=>(H.blk (k:=0) Z).sl (by rw [bz,hx.1]) (by decide)) (ec _) (by omega) (fun _=>rfl) fun v8=> ?_;refine b6 (fun w H=>(H.oat (k:=3) Z).form) ?_;rintro ⟨A9,c9,rfl,_,_,_⟩;refine cg 2 Z Z Z Z <| ad <| bg <| ri (af 6 [1,2,3,4] Z) <| r8 fun w H=>hR w <| H.ent ?_
  have e9:row t_api_ID 32 (.slice A9 (l.length+1) c9) (l.length+1) (flC u8s l++u8s x)=rJ (.slice A9 (l.length+1) c9) (l ++ [x]):=by
   have:flC u8s l++u8s x=flC u8s (l ++ [x]):=by rw [ic];simp [flC]
   rw [rJ,this,aps];rfl
  rw [e9];exact (af 4 [1,2,0,3] Z).trans ((zw (p:=fun _:Value=>True) (G:=fun v=> [pt g2 jb [v],rJ v (l ++ [x])]) (.slice A9 (l.length+1) c9) trivial).trans (af 3 [1,2,0] Z))
 ·rintro D l F2 hT;refine ri (af 2 [1,0] Z) <| E4 fun v _=>xQ (fun w H=>(H.oat (k:=1) Z).form) ?_
  rintro ⟨A9,c9,rfl,_,_,_⟩;refine bg <| ab <| anf <| ba 0 Z Z Z <| ae Z <| ane <| aj <| pX Z (k:=2) Z Z (.tmp Z .nil) (af 3 [1] Z) ?_;exact ⟨l,F2,hT,rfl⟩
theorem La (hn:E.length≤12):SC Tryz.prog x4 [.func (.func d4) ⟨[]⟩ ⟨[pp gmb]⟩,.func (.func ze) ⟨[]⟩ ⟨[]⟩] b (pt gmb d9 [.map (some gm)]::mpI gm E::F) (fun u F'=>∃ M,M.Perm (E.map Prod.fst)∧M.Pairwise leM∧F'=rJ u M::pt gmb d9 [.map (some gm)]::mpI gm E::F):=by
 refine SC.know (Pd (k:=1) Z) fun hid=> ?_;have hc:SC Tryz.prog aR [.func (.func d4) ⟨[]⟩ ⟨[pp gmb]⟩] b (pt gmb d9 [.map (some gm)]::mpI gm E::F) (fun u F'=>∃ l,l.Perm (E.map Prod.fst)∧F'=rJ u l::pt gmb d9 [.map (some gm)]::mpI gm E::F):=by
  refine ao Tryz.func261 Z Z Z <| anf <| ae Z <| aby <| ae Z ?_;refine am rfl rfl rfl (ame (T:=fun l F2=>l.Perm (E.map Prod.fst)∧F2=pt gmb d9 [.map (some gm)]::mpI gm E::F) (fun m J hY=>(Pe hY (by omega)).mono (by rintro _ _ ⟨l,h1,rfl⟩;exact ⟨l,_,rfl,h1,rfl⟩))) ?_;rintro u _ ⟨l,_,⟨hl,rfl⟩,rfl⟩;refine ae Z <| ane <| aj <| bh Z Z av ?_;exact ⟨l,hl,rfl⟩
 refine ao Tryz.func199 Z Z Z <| anf <| ae Z <| aby <| ae Z <| am Z Z Z (hc) ?_;rintro u _ ⟨l,hl,rfl⟩;have hll:=hl.length_eq;rw [ap9] at hll;have h32:∀ x∈l,x.length=32:=fun x hx=>by
  obtain ⟨y,hy,rfl⟩:=ap8.1 (hl.mem_iff.1 hx);exact (hid y hy).1
 refine b6 (fun w H=>(H.oat (k:=0) Z).form) ?_;rintro ⟨A,c,rfl,_⟩;refine ae Z <| aby <| apn Z Z ?_;refine am Z Z Z (amb (A:=A) (c:=c) (D:=l) (cm:=lD) (f:=ze) (fun x hx y hy B=>wR (h32 x hx) (h32 y hy)) (fun x hx=>by rw [bz,h32 x hx]) (fun d _ u hu=>ec d u hu) (fun x _ y _ z _=>aX) (fun x _ y _=>fE _ _) Z (by omega)) ?_;rintro _ _ ⟨M,m1,m2,rfl⟩;refine aby <| apn Z Z <| ane <| aj <| bh Z Z av <| ⟨M,m1.trans hl,m2,?_⟩;rw [rJ,m1.length_eq];rfl
theorem Cu (hn:E.length≤12):SC Tryz.prog mU [.map (some gm)] b (mpI gm E::F) (fun u F'=>∃ M,M.Perm (E.map Prod.fst)∧M.Pairwise leM∧F'=rJ u M::mpI gm E::F):=by
 refine ao Tryz.func121 Z Z Z <| anf <| ae Z <| aby <| ae Z <| am Z Z Z (Ug) ?_;rintro _ _ ⟨gmb,rfl,rfl⟩
 skip
 refine am Z Z Z (La hn) ?_;rintro u _ ⟨M,m1,m2,rfl⟩;refine ae Z <| ane <| aj <| bh Z Z (af 3 [0,2] Z) ?_;exact ⟨M,m1,m2,rfl⟩
end

theorem lQ:∀ (A:List Value) {B C:List Value} {o n:Nat},A.length=o→B.length=n→sn (A++(B++C)) o n=some B
 | [], _, C, _, _, h, hb => by subst h; exact cA C hb
 | _ :: A, B, C, _, n, h, hb => by
  subst h;show sn (A++(B++C)) A.length n=some B;exact lQ A Z hb
theorem fQ:∀ (A:List Value) {x:Value} {C:List Value} {o:Nat},A.length=o→nth (A++x::C) o=some x
 | [], _, _, _, h => by subst h; rfl
 | _ :: A, x, C, _, h => by subst h; exact fQ A Z
theorem uB:∀ (A:List Value) {x y:Value} {C:List Value} {o:Nat},A.length=o→stO (A++x::C) o y=some (A++y::C)
 | [], _, _, _, _, h => by subst h; rfl
 | a :: A, x, y, C, _, h => by
  subst h;show stO (a::(A++x::C)) (A.length+1) y=_;rw [stO,uB A rfl];rfl
theorem Cv:∀ {B B':List Value} {C:List Value},B'.length=B.length→um (B++C) 0 B'=some (B'++C)
 | [], [], C, _ => by cases C <;> rfl
 | _ :: B, x :: B', C, h => by
  have ih:=Cv (B:=B) (B':=B') (C:=C) (by simpa using h);show um (_::(B++C)) 0 (x::B')=_;simp only [um,ih];rfl
 | [], _ :: _, _, h => by simp at h
 | _ :: _, [], _, h => by simp at h
theorem qE:∀ (A:List Value) {B B' C:List Value} {o:Nat},A.length=o→B'.length=B.length→um (A++(B++C)) o B'=some (A++(B'++C))
 | [], _, _, _, _, h, hb => by subst h; exact Cv hb
 | a :: A, B, B', C, _, h, hb => by
  subst h;show um (a::(A++(B++C))) (A.length+1) B'=_;rw [um,qE A Z hb];rfl
section
variable {d:Dc}
theorem amf:nth (dcC d) 0=some (ii d.media):=rfl
theorem Cw (h:d.id.length=32):sn (dcC d) 1 32=some (u8s d.id):=lQ [ii d.media] Z (by rw [bz,h])
theorem xC (h:d.id.length=32):nth (dcC d) 33=some (ii d.size):=fQ (ii d.media::u8s d.id) (by rw [ap3,bz,h])
theorem Pg (h:d.id.length=32):nth (dcC d) 34=some (.string d.plat):=fQ (ii d.media::(u8s d.id ++ [ii d.size])) (C:= []) (by rw [ap3,aps,bz,h];rfl) |> fun e=>by
 have h2:Value.int .i64 d.media::(u8s d.id ++ [ii d.size]) ++ [.string d.plat]=dcC d:=by simp [dcC]
 rw [← h2];exact e
theorem jq:∀ u∈dcC d,u.oneCell'=true:=fun u hu=>by
 unfold dcC at hu;rcases ap6.1 hu with h | h
 ·rw [apy.1 h];rfl
 rcases ap6.1 h with h | h
 ·exact ec _ u h
 ·simp only [ap1,arj,or_false] at h;rcases h with rfl | rfl <;> rfl
end
abbrev rDs (v:Value) (l:List Dc):SP:=row t_api_Desc 35 v l.length (flC dcC l)
def Cx (l:List Dc):Prop:=∀ d∈l,d.id.length=32
theorem nP {l:List Dc} (h:Cx l):∀ d∈l,(dcC d).length=35:=fun d hd=>d8 (h d hd)
def mfC (m:Mf) (lv sv:Value):List Value:= [ii m.kind,.string m.title]++(dcC m.cfg0 ++ [lv,sv])
section
variable {m:Mf} {lv sv:Value}
theorem jz (h:m.cfg0.id.length=32):(mfC m lv sv).length=39:=by simp [mfC,d8 h]
theorem Cy (h:m.cfg0.id.length=32):sn (mfC m lv sv) 2 35=some (dcC m.cfg0):=lQ [ii m.kind,.string m.title] Z (d8 h)
theorem oU (h:m.cfg0.id.length=32):nth (mfC m lv sv) 37=some lv:=fQ (ii m.kind :: .string m.title::dcC m.cfg0) (by rw [ap3,ap3,d8 h])
theorem uC (h:m.cfg0.id.length=32):nth (mfC m lv sv) 38=some sv:=by
 have e:=fQ (ii m.kind :: .string m.title::(dcC m.cfg0 ++ [lv])) (x:=sv) (C:= []) (o:=38) (by rw [ap3,ap3,aps,d8 h];rfl);have h2:Value.int .i64 m.kind :: .string m.title::(dcC m.cfg0 ++ [lv]) ++ [sv]=mfC m lv sv:=by simp [mfC]
 rw [← h2];exact e
theorem y4 (hl:lv.oneCell'=true) (hs:sv.oneCell'=true):∀ u∈mfC m lv sv,u.oneCell'=true:=fun u hu=>by
 unfold mfC at hu;rcases ap6.1 hu with h | h
 ·simp only [ap1,arj,or_false] at h;rcases h with rfl | rfl <;> rfl
 rcases ap6.1 h with h | h
 ·exact jq u h
 ·simp only [ap1,arj,or_false] at h;rcases h with rfl | rfl
  ·exact hl
  ·exact hs
end
def mfD (m:Mf):List Dc:=(if m.kind=3 then [m.cfg0] else [])++m.layers++m.subs
structure MR (W:World) (m:Mf) (lv sv:Value):Prop where
 l:SL W 35 lv m.layers.length (flC dcC m.layers)
 s:SL W 35 sv m.subs.length (flC dcC m.subs)
section
variable {b:World} {F:List SP} {m:Mf} {lv sv:Value}
theorem qF (hc:m.cfg0.id.length=32) (hm:∀ w,Sat b F w→MR w m lv sv) (hn:(mfD m).length≤1000000):SC Tryz.prog vE [.agg ⟨mfC m lv sv⟩] b F (fun u F'=>F'=rDs u (mfD m)::F):=by
 have hl:m.layers.length+m.subs.length+(if m.kind=3 then 1 else 0)=(mfD m).length:=by
  unfold mfD
  split <;> simp <;> omega
 refine ao Tryz.func39 Z Z Z <| bu (fun w H=>ci (hm w H).l) ?_;rintro ⟨A,c,rfl,_⟩;refine bu (fun w H=>ci (hm w H).s) ?_;rintro ⟨A2,c2,rfl,_⟩;refine anf <| br Z Z Z Z Z fun g1=>ae Z <| ane <| ac <| anf <| ae Z <| ba 0 Z Z Z <| ae Z <| ane ?_
 refine Hl (S:=Value × List Dc) (fun q=> [(1,pp g1),(2,q.1)]) (fun q=>rDs q.1 q.2::pt g1 b9 (mfC m (.slice A m.layers.length c) (.slice A2 m.subs.length c2))::F) (fun q=>q.2=if m.kind=3 then [m.cfg0] else []) ?_ (fun hj=> ?_)
 ·rintro ⟨v,l⟩ hq;dsimp only at hq ⊢;have hl1:l.length=if m.kind=3 then 1 else 0:=by rw [hq];split <;> rfl
  have hfin:flC dcC l++flC dcC m.layers++flC dcC m.subs=flC dcC (mfD m):=by rw [mfD,← hq,ic,ic]
  refine ac <| cq flo (pt g1 b9 (mfC m (.slice A m.layers.length c) (.slice A2 m.subs.length c2))::F) (by decide +kernel) (af 1 [] Z) <| bj Z Zl <| bj Z Zl <| zu 0 Z Z Z Z Z Z (oU hc) Z Z <| xh 0 Z Z Z Z Z Z Z Z Z Z (m:=m.layers.length) (news:=flC dcC m.layers) (fun w H=>(hm w (H.ent (af 2 [] Z))).l) (yy fun d _=>jq) (by omega) (fun _=>rfl) (fun _=>af 1 [] Z) fun v2=>bj Z Zl <| zu 0 Z Z Z Z Z Z (uC hc) Z Z <| xh 0 Z Z Z Z Z Z Z Z Z Z (m:=m.subs.length) (news:=flC dcC m.subs) (fun w H=>(hm w (H.ent (af 2 [] Z))).s) (yy fun d _=>jq) (by omega) (fun _=>rfl) (fun _=>af 1 [] Z) fun v3=>bj Z Zl <| ap <| ab <| aj <| bh Z Z (af 2 [0] Z) ?_
  rw [hfin,show l.length+m.layers.length+m.subs.length=(mfD m).length by omega]
  rfl
 ·refine cj Z (fun hk=> ?_) (fun hk=> ?_)
  ·refine aa <| apn Z Z <| b7 0 Z Z Z Z Z Z (Cy hc) Z <| li Z Z Z Z Z Z Z (d8 hc) (by decide) fun gl=>eg ((de t_api_Desc 35 Z)) <| ef 0 Z Z Z Z Z Z Z Z Z (m:=1) (news:=dcC m.cfg0) (fun w' H=>(H.blk (k:=1) Z).sl (d8 hc) (by decide)) jq (by omega) (fun _=>rfl) fun v8=>ae Z <| ad ?_
   refine hj (v8,[m.cfg0]) _ _ ?_ ?_ ?_
   ·dsimp only;rw [if_pos hk]
   ·exact ⟨rfl,rfl,trivial⟩
   have e9:flC dcC [m.cfg0] = []++dcC m.cfg0:=by simp [flC]
   dsimp only;rw [rDs,e9];exact af 3 [0,2] Z
  ·refine ah ?_;refine hj (.slice none 0 0,[]) _ _ ?_ ?_ ?_
   ·dsimp only;rw [if_neg hk]
   ·exact ⟨rfl,rfl,trivial⟩
   exact (de t_api_Desc 35 Z)
end

section
variable {b:World} {F:List SP} {A:Option Addr} {c n:Nat}
end

theorem lR {b:World} {F:List SP} {va:Value} {l:List Hd} (ha:∀ w,Sat b F w→SL w 34 va l.length (flC hdC l)) (ho:∀ d∈l,∀ u∈hdC d,u.oneCell'=true) (hn:l.length≤1000000):SC Tryz.prog qu [va] b F (fun v F'=>F'=row t_api_Held 34 v l.length (flC hdC l)::F):=by
 refine ao Tryz.func151 Z Z Z <| bu (fun w H=>ci (ha w H)) ?_;rintro ⟨A,c,rfl,h1,h2,h3,h4,_⟩;cases A with
 | none =>
  have hc:=h3 Z;have hx:l = []:=ark.1 (by omega);subst hx;refine anf <| ae Z <| ane <| ac <| anf <| apn Z Z <| ane <| ar Z <| anf <| ae Z <| ane <| aj <| al <| bh Z Z (de t_api_Held 34 Z) ?_
  rfl
 | some a =>
  refine anf <| ae Z <| ane <| ac <| anf <| apn Z Z <| ane <| ai Z <| ah <| ab <| anf <| Hi Z Z Z Z Z fun g0=>eg (kx (n:=0) (sz:=34) Z Z (by decide) 0 Z Z) <| ae Z <| ef 0 Z Z Z Z Z Z Z Z Z (up ha (af 1 [] Z)) (yy ho) (by omega) (fun _=>rfl) fun v6=>ae Z <| ane <| aj <| bh Z Z av ?_
  show row t_api_Held 34 v6 _ _::F=_;rw [aqy,arb];rfl
theorem amg {b:World} {F:List SP} {va:Value} {D:List Rp} {f:Nat} [Bodied Tryz.prog f] (hc:∀ i (hi:i+1<D.length),SC Tryz.prog f [.agg ⟨rpC D[i]⟩,.agg ⟨rpC D[i+1]⟩] b F (fun u F'=>(∃ z:Int,z<0∧u=ii z)∧F'=F)) (hz:∀ d∈D,(rpC d).length=3) (ha:∀ w,Sat b F w→SL w 3 va D.length (flC rpC D)) (hn:D.length≤1000000) :
  SC Tryz.prog wp [va,.func (.func f) ⟨[]⟩ ⟨[]⟩] b F (fun u F'=>u = .bool true∧F'=F):=by
 refine ao Tryz.func219 Z Z Z <| bu (fun w H=>ci (ha w H)) ?_;rintro ⟨A,c,rfl,_,_,_,h4,_⟩;refine anf <| ae Z <| ane <| ac <| anf <| ae Z <| ane <| ak <| d6 (S:=Nat) (fun i=> [(0,.slice A D.length c),(1,.func (.func f) ⟨[]⟩ ⟨[]⟩),(5,ii ((i+1:Nat):Int))]) (fun _=>F) (fun i=>i≤D.length) (fun i=>D.length - i) 0 av (aqc _) ?_;intro i hi;refine ac <| anf <| apo Z Z Z <| ae Z <| ane ?_;refine cj Z (fun h1=> ?_) (fun h1=> ?_)
 ·have h1':i+1<D.length:=by omega
  obtain ⟨gg,oo,rfl⟩:=h4 (by omega);have ca:∀ (k:Nat) (hk:k<D.length),∀ w,Sat b F w→∀ j,j<3→w.cell? ⟨gg,oo+k*3+j,none⟩=(rpC D[k])[j]?:=fun k hk w H j hj=>ej (ha w H) hz hk hj
  have c1:=ca i (by omega);have c2:=ca (i+1) h1';have l1:=hz _ (apw (show i<D.length by omega));have l2:=hz _ (apw h1');have hcy:=hc i h1';generalize rpC D[i]=x1 at *;generalize rpC D[i+1]=x2 at *;have e1:(((i+1:Nat):Int) - 1).toNat=i:=by omega
  refine ah <| ab <| ac <| ak <| ac <| cq flo _ (by decide +kernel) av <| bj Z Zl <| bj Z Zl <| bj Z Zl <| dx Z Z <| dx Z Z ?_;refine j7 Z (fun w H=>di (cs:=x1) Z Z Z l1 (fun j hj=>by rw [b5,e1];exact c1 w H j (by rw [l1] at hj;exact hj))) Z Z ?_;refine bj Z Zl <| bj Z Zl <| dx Z Z ?_;refine j7 Z (fun w H=>di (cs:=x2) Z Z Z l2 (fun j hj=>by rw [b5,apu];exact c2 w H j (by rw [l2] at hj;exact hj))) Z Z ?_;refine dh Z Z Z Z hcy ?_;rintro _ _ ⟨⟨z,hz,rfl⟩,rfl⟩;refine ⟨Ent.refl _,(bj Z Zl <| oF 23 Z (by omega) <| ap <| ab <| ai Z <| ah <| bg <| ab <| aa <| ae Z <| ay Z <| ae Z <| ad ?_)⟩;rw [show ((i+1:Nat):Int)+1=((i+1+1:Nat):Int) by omega];refine dj (i+1) av (show i+1≤D.length by omega)
 ·refine b8 <| aw <| ax <| aq <| ab <| anf <| ae Z <| ane <| aj <| bh Z Z av ?_;exact ⟨rfl,rfl⟩
theorem amh {b:World} {F:List SP} {va:Value} {D:List Tg} {f:Nat} [Bodied Tryz.prog f] (hc:∀ i (hi:i+1<D.length),SC Tryz.prog f [.agg ⟨tgC D[i]⟩,.agg ⟨tgC D[i+1]⟩] b F (fun u F'=>(∃ z:Int,z<0∧u=ii z)∧F'=F)) (hz:∀ d∈D,(tgC d).length=2) (ha:∀ w,Sat b F w→SL w 2 va D.length (flC tgC D)) (hn:D.length≤1000000) :
  SC Tryz.prog xb [va,.func (.func f) ⟨[]⟩ ⟨[]⟩] b F (fun u F'=>u = .bool true∧F'=F):=by
 refine ao Tryz.func220 Z Z Z <| bu (fun w H=>ci (ha w H)) ?_;rintro ⟨A,c,rfl,_,_,_,h4,_⟩;refine anf <| ae Z <| ane <| ac <| anf <| ae Z <| ane <| ak <| d6 (S:=Nat) (fun i=> [(0,.slice A D.length c),(1,.func (.func f) ⟨[]⟩ ⟨[]⟩),(5,ii ((i+1:Nat):Int))]) (fun _=>F) (fun i=>i≤D.length) (fun i=>D.length - i) 0 av (aqc _) ?_;intro i hi;refine ac <| anf <| apo Z Z Z <| ae Z <| ane ?_;refine cj Z (fun h1=> ?_) (fun h1=> ?_)
 ·have h1':i+1<D.length:=by omega
  obtain ⟨gg,oo,rfl⟩:=h4 (by omega);have ca:∀ (k:Nat) (hk:k<D.length),∀ w,Sat b F w→∀ j,j<2→w.cell? ⟨gg,oo+k*2+j,none⟩=(tgC D[k])[j]?:=fun k hk w H j hj=>ej (ha w H) hz hk hj
  have c1:=ca i (by omega);have c2:=ca (i+1) h1';have l1:=hz _ (apw (show i<D.length by omega));have l2:=hz _ (apw h1');have hcy:=hc i h1';generalize tgC D[i]=x1 at *;generalize tgC D[i+1]=x2 at *;have e1:(((i+1:Nat):Int) - 1).toNat=i:=by omega
  refine ah <| ab <| ac <| ak <| ac <| cq flo _ (by decide +kernel) av <| bj Z Zl <| bj Z Zl <| bj Z Zl <| dx Z Z <| dx Z Z ?_;refine j7 Z (fun w H=>di (cs:=x1) Z Z Z l1 (fun j hj=>by rw [b5,e1];exact c1 w H j (by rw [l1] at hj;exact hj))) Z Z ?_;refine bj Z Zl <| bj Z Zl <| dx Z Z ?_;refine j7 Z (fun w H=>di (cs:=x2) Z Z Z l2 (fun j hj=>by rw [b5,apu];exact c2 w H j (by rw [l2] at hj;exact hj))) Z Z ?_;refine dh Z Z Z Z hcy ?_;rintro _ _ ⟨⟨z,hz,rfl⟩,rfl⟩;refine ⟨Ent.refl _,(bj Z Zl <| oF 23 Z (by omega) <| ap <| ab <| ai Z <| ah <| bg <| ab <| aa <| ae Z <| ay Z <| ae Z <| ad ?_)⟩;rw [show ((i+1:Nat):Int)+1=((i+1+1:Nat):Int) by omega];refine dj (i+1) av (show i+1≤D.length by omega)
 ·refine b8 <| aw <| ax <| aq <| ab <| anf <| ae Z <| ane <| aj <| bh Z Z av ?_;exact ⟨rfl,rfl⟩
theorem ami {b:World} {F:List SP} {va:Value} {D:List Hd} {f:Nat} [Bodied Tryz.prog f] (hc:∀ i (hi:i+1<D.length),SC Tryz.prog f [.agg ⟨hdC D[i]⟩,.agg ⟨hdC D[i+1]⟩] b F (fun u F'=>(∃ z:Int,z<0∧u=ii z)∧F'=F)) (hz:∀ d∈D,(hdC d).length=34) (ha:∀ w,Sat b F w→SL w 34 va D.length (flC hdC D)) (hn:D.length≤1000000) :
  SC Tryz.prog aP [va,.func (.func f) ⟨[]⟩ ⟨[]⟩] b F (fun u F'=>u = .bool true∧F'=F):=by
 refine ao Tryz.func224 Z Z Z <| bu (fun w H=>ci (ha w H)) ?_;rintro ⟨A,c,rfl,_,_,_,h4,_⟩;refine anf <| ae Z <| ane <| ac <| anf <| ae Z <| ane <| ak <| d6 (S:=Nat) (fun i=> [(0,.slice A D.length c),(1,.func (.func f) ⟨[]⟩ ⟨[]⟩),(5,ii ((i+1:Nat):Int))]) (fun _=>F) (fun i=>i≤D.length) (fun i=>D.length - i) 0 av (aqc _) ?_;intro i hi;refine ac <| anf <| apo Z Z Z <| ae Z <| ane ?_;refine cj Z (fun h1=> ?_) (fun h1=> ?_)
 ·have h1':i+1<D.length:=by omega
  obtain ⟨gg,oo,rfl⟩:=h4 (by omega);have ca:∀ (k:Nat) (hk:k<D.length),∀ w,Sat b F w→∀ j,j<34→w.cell? ⟨gg,oo+k*34+j,none⟩=(hdC D[k])[j]?:=fun k hk w H j hj=>ej (ha w H) hz hk hj
  have c1:=ca i (by omega);have c2:=ca (i+1) h1';have l1:=hz _ (apw (show i<D.length by omega));have l2:=hz _ (apw h1');have hcy:=hc i h1';generalize hdC D[i]=x1 at *;generalize hdC D[i+1]=x2 at *;have e1:(((i+1:Nat):Int) - 1).toNat=i:=by omega
  refine ah <| ab <| ac <| ak <| ac <| cq flo _ (by decide +kernel) av <| bj Z Zl <| bj Z Zl <| bj Z Zl <| dx Z Z <| dx Z Z ?_;refine j7 Z (fun w H=>di (cs:=x1) Z Z Z l1 (fun j hj=>by rw [b5,e1];exact c1 w H j (by rw [l1] at hj;exact hj))) Z Z ?_;refine bj Z Zl <| bj Z Zl <| dx Z Z ?_;refine j7 Z (fun w H=>di (cs:=x2) Z Z Z l2 (fun j hj=>by rw [b5,apu];exact c2 w H j (by rw [l2] at hj;exact hj))) Z Z ?_;refine dh Z Z Z Z hcy ?_;rintro _ _ ⟨⟨z,hz,rfl⟩,rfl⟩;refine ⟨Ent.refl _,(bj Z Zl <| oF 23 Z (by omega) <| ap <| ab <| ai Z <| ah <| bg <| ab <| aa <| ae Z <| ay Z <| ae Z <| ad ?_)⟩;rw [show ((i+1:Nat):Int)+1=((i+1+1:Nat):Int) by omega];refine dj (i+1) av (show i+1≤D.length by omega)
 ·refine b8 <| aw <| ax <| aq <| ab <| anf <| ae Z <| ane <| aj <| bh Z Z av ?_;exact ⟨rfl,rfl⟩
theorem X1 {b:World} {F:List SP} {va:Value} {xs:List Int} {lo hi:Int} (ha:∀ w,Sat b F w→VL (Value.int .i64) w va xs) (h0:0<xs.length) (hb:∀ x∈xs,lo≤x∧x≤hi) (hn:xs.length≤1000000):SC Tryz.prog aI [va] b F (fun u F'=>(∃ z,lo≤z∧z≤hi∧u=ii z)∧F'=F):=by
 refine ao Tryz.func141 Z Z Z <| bu (fun w H=>(ha w H).form) ?_;rintro ⟨A,c,rfl,_,_,_,h4⟩;refine anf <| ae Z <| ane <| ac <| anf <| apo Z Z Z <| ane <| vj 7 Z ?_;obtain ⟨gg,oo,rfl⟩:=h4 h0;refine ai Z <| ah <| ab <| anf <| ae Z <| ay Z <| fc Z (fun w H=>bx Z Z Z (VL.at (ha w H) 0 h0)) Z <| ae Z <| ane <| ac <| anf <| ae Z <| ane <| ak <| d6 (S:=Nat × Int) (fun s=> [(0,.slice (some ⟨gg,oo,none⟩) xs.length c),(3,ii s.2),(4,ii ((s.1+1:Nat):Int))]) (fun _=>F) (fun s=>s.1≤xs.length∧lo≤s.2∧s.2≤hi) (fun s=>xs.length - s.1) (0,xs[0]) av ⟨aqc _,hb _ (apw h0)⟩ ?_;rintro ⟨i,m⟩ ⟨h1,h2,h3⟩;dsimp only at h1 h2 h3 ⊢;refine ac <| anf <| apo Z Z Z <| ae Z <| ane ?_;refine cj Z (fun h5=> ?_) (fun h5=> ?_)
 ·have h5':i+1<xs.length:=by omega
  have hx:=hb _ (apw h5');refine ah <| ab <| ac <| ak <| aa <| apo Z Z Z <| ay Z ?_;refine fc Z (fun w H=>bx Z Z Z (by rw [b5,apu,aq8];exact VL.at (ha w H) (i+1) h5')) Z ?_;refine apn Z Z <| ad <| bg <| ab <| aa <| ae Z <| ay Z <| ae Z <| ad ?_;rw [show ((i+1:Nat):Int)+1=((i+1+1:Nat):Int) by omega];refine dj (i+1,min m xs[i+1]) av ⟨by dsimp only;omega,by dsimp only;omega,by dsimp only;omega⟩
 ·refine b8 <| aw <| ax <| aq <| ab <| anf <| apn Z Z <| ane <| aj <| bh Z Z av ?_;exact ⟨⟨m,h2,h3,rfl⟩,rfl⟩
theorem amj {b:World} {F:List SP} {va:Value} {xs:List Int} {lo hi:Int} (ha:∀ w,Sat b F w→VL (Value.int .i64) w va xs) (h0:0<xs.length) (hb:∀ x∈xs,lo≤x∧x≤hi) (hn:xs.length≤1000000):SC Tryz.prog aJ [va] b F (fun u F'=>(∃ z,lo≤z∧z≤hi∧u=ii z)∧F'=F):=by
 refine ao Tryz.func142 Z Z Z <| bu (fun w H=>(ha w H).form) ?_;rintro ⟨A,c,rfl,_,_,_,h4⟩;refine anf <| ae Z <| ane <| ac <| anf <| apo Z Z Z <| ane <| vj 7 Z ?_;obtain ⟨gg,oo,rfl⟩:=h4 h0;refine ai Z <| ah <| ab <| anf <| ae Z <| ay Z <| fc Z (fun w H=>bx Z Z Z (VL.at (ha w H) 0 h0)) Z <| ae Z <| ane <| ac <| anf <| ae Z <| ane <| ak <| d6 (S:=Nat × Int) (fun s=> [(0,.slice (some ⟨gg,oo,none⟩) xs.length c),(3,ii s.2),(4,ii ((s.1+1:Nat):Int))]) (fun _=>F) (fun s=>s.1≤xs.length∧lo≤s.2∧s.2≤hi) (fun s=>xs.length - s.1) (0,xs[0]) av ⟨aqc _,hb _ (apw h0)⟩ ?_;rintro ⟨i,m⟩ ⟨h1,h2,h3⟩;dsimp only at h1 h2 h3 ⊢;refine ac <| anf <| apo Z Z Z <| ae Z <| ane ?_;refine cj Z (fun h5=> ?_) (fun h5=> ?_)
 ·have h5':i+1<xs.length:=by omega
  have hx:=hb _ (apw h5');refine ah <| ab <| ac <| ak <| aa <| apo Z Z Z <| ay Z ?_;refine fc Z (fun w H=>bx Z Z Z (by rw [b5,apu,aq8];exact VL.at (ha w H) (i+1) h5')) Z ?_;refine apn Z Z <| ad <| bg <| ab <| aa <| ae Z <| ay Z <| ae Z <| ad ?_;rw [show ((i+1:Nat):Int)+1=((i+1+1:Nat):Int) by omega];refine dj (i+1,max m xs[i+1]) av ⟨by dsimp only;omega,by dsimp only;omega,by dsimp only;omega⟩
 ·refine b8 <| aw <| ax <| aq <| ab <| anf <| apn Z Z <| ane <| aj <| bh Z Z av ?_;exact ⟨⟨m,h2,h3,rfl⟩,rfl⟩
section
variable {b:World} {F:List SP}
theorem Lb {x y:Rp}:SC Tryz.prog aM [.agg ⟨rpC x⟩,.agg ⟨rpC y⟩] b F (fun v F'=>v=ii (cbN x.nm y.nm)∧F'=F):=by
 refine ao Tryz.func216 Z Z Z <| anf <| br Z Z Z Z Z fun g2=>br Z Z Z Z Z fun g3=>ae Z <| aby <| ae Z <| ba 1 Z Z Z <| ae Z <| ba 0 Z Z Z <| au Z Z Z (cG) <| ae Z <| ane <| aj <| bh Z Z (af 2 [] Z) ?_
 exact ⟨rfl,rfl⟩
theorem Lc {x y:Tg}:SC Tryz.prog uv [.agg ⟨tgC x⟩,.agg ⟨tgC y⟩] b F (fun v F'=>v=ii (cbN x.nm y.nm)∧F'=F):=by
 refine ao Tryz.func218 Z Z Z <| anf <| br Z Z Z Z Z fun g2=>br Z Z Z Z Z fun g3=>ae Z <| aby <| ae Z <| ba 1 Z Z Z <| ae Z <| ba 0 Z Z Z <| au Z Z Z (cG) <| ae Z <| ane <| aj <| bh Z Z (af 2 [] Z) ?_
 exact ⟨rfl,rfl⟩
theorem Ld {x:Tg} {A:Option Addr} {n c:Nat} (hv:x.hv = .slice A n c):SC Tryz.prog aN [.agg ⟨tgC x⟩] b F (fun v F'=>v = .bool (decide (n=0))∧F'=F):=by
 refine ao Tryz.func221 Z Z Z <| anf <| br Z Z Z Z Z fun g1=>ae Z <| aby <| ae Z <| ba 0 Z Z Z <| bn 4 (.slice A n c) Z hv <| apo Z Z Z <| ane <| aj <| bh Z Z (af 1 [] Z) ?_
 exact ⟨ap2 Value.bool (ash.2 (by omega)),rfl⟩
theorem Uh {x:Tg} {A:Option Addr} {n c:Nat} (hv:x.hv = .slice A n c):SC Tryz.prog tu [.agg ⟨tgC x⟩] b F (fun v F'=>v = .bool (decide (n=0))∧F'=F):=by
 refine ao Tryz.func159 Z Z Z <| anf <| br Z Z Z Z Z fun g1=>ae Z <| aby <| ae Z <| ba 0 Z Z Z <| bn 4 (.slice A n c) Z hv <| apo Z Z Z <| ane <| aj <| bh Z Z (af 1 [] Z) ?_
 exact ⟨ap2 Value.bool (ash.2 (by omega)),rfl⟩
theorem Ui {x:Rp} {A B:Option Addr} {n c m d:Nat} (hv:x.tv = .slice A n c) (hm:x.mv = .slice B m d) (hn:n≤1000000) (hmm:m≤1000000):SC Tryz.prog tw [.agg ⟨rpC x⟩] b F (fun v F'=>v = .bool (decide (n+m=0))∧F'=F):=by
 refine ao Tryz.func161 Z Z Z <| anf <| br Z Z Z Z Z fun g1=>ae Z <| aby <| ae Z <| ba 0 Z Z Z <| bn 4 (.slice A n c) Z hv <| apn Z Z <| ba 0 Z Z Z <| bn 7 (.slice B m d) Z hm <| ae Z <| ay Z <| apn Z Z <| ane <| aj <| bh Z Z (af 1 [] Z) ?_
 exact ⟨ap2 Value.bool (ash.2 (by omega)),rfl⟩
theorem Ph {x:Tg}:SC Tryz.prog cM [.agg ⟨tgC x⟩] b F (fun v F'=>v = .bool (!decide (cB (dz x.nm)=(0,0)))∧F'=F):=by
 refine ao Tryz.func143 Z Z Z <| anf <| br Z Z Z Z Z fun g1=>ae Z <| aby <| ae Z <| ba 0 Z Z Z <| au Z Z Z (Xs) <| ae Z <| j6 Z (wk Z Z (n8 (cB (dz x.nm)).1 (cB (dz x.nm)).2 0 0)) Z <| ae Z <| ane <| aj <| bh Z Z (af 1 [] Z) ?_
 exact ⟨ap2 (fun q=>Value.bool (!q)) (ash.2 (by rw [Prod.ext_iff])),rfl⟩
theorem Uj {x:Rp} {s:ByteArray}:SC Tryz.prog tz [.agg ⟨rpC x⟩,.string s] b F (fun v F'=>v=ii (cbN x.nm s)∧F'=F):=by
 refine ao Tryz.func230 Z Z Z <| anf <| br Z Z Z Z Z fun g1=>ae Z <| aby <| ae Z <| ba 0 Z Z Z <| ae Z <| au Z Z Z (cG) <| ae Z <| ane <| aj <| bh Z Z (af 1 [] Z) ?_
 exact ⟨rfl,rfl⟩
theorem aaj {x:Tg} {s:ByteArray}:SC Tryz.prog vy [.agg ⟨tgC x⟩,.string s] b F (fun v F'=>v=ii (cbN x.nm s)∧F'=F):=by
 refine ao Tryz.func237 Z Z Z <| anf <| br Z Z Z Z Z fun g1=>ae Z <| aby <| ae Z <| ba 0 Z Z Z <| ae Z <| au Z Z Z (cG) <| ae Z <| ane <| aj <| bh Z Z (af 1 [] Z) ?_
 exact ⟨rfl,rfl⟩
theorem Pi {x:Hd} (hx:x.id.length=32):SC Tryz.prog bV [hdV x] b F (fun v F'=>v = .bool true∧F'=F):=by
 refine ao Tryz.func157 Z Z Z <| anf <| br Z Z Z Z Z fun g1=>ae Z <| aby <| ae Z <| ane <| aj <| bh Z Z (af 1 [] Z) ?_
 exact ⟨rfl,rfl⟩
end

def hR (r:Rp):List Hd:=(r.ts.flatMap fun g=>g.hs)++r.ms
def jX (l:List Rp):List Hd:=l.flatMap hR
theorem Le (l:List Rp):(jX l).map (·.d)=oS (l.map Rp.pl):=by
 induction l with
 | nil => rfl
 | cons r l ih =>
  show (hR r++jX l).map (·.d)=Ii r.pl++oS (l.map Rp.pl);rw [aqa,ih];congr 1;unfold hR Ii Rp.pl;rw [aqa,List.map_flatMap,List.flatMap_map];rfl
theorem xD {l:List Rp} {i:Nat} (hi:i<l.length):jX (l.take (i+1))=jX (l.take i)++hR l[i]:=by
 rw [apz hi];unfold jX;rw [arq];simp
theorem Ip {l:List Tg} {i:Nat} (hi:i<l.length):((l.take (i+1)).flatMap fun g=>g.hs)=((l.take i).flatMap fun g=>g.hs)++l[i].hs:=by
 rw [apz hi,arq];simp
theorem Pj {l:List Rp} {i:Nat} (hi:i<l.length):∃ T,jX l=jX (l.take i)++hR l[i]++T:=by
 refine ⟨jX (l.drop (i+1)),?_⟩;rw [← xD hi];unfold jX;rw [← arq,aqs]
theorem aak {l:List Tg} {i:Nat} (hi:i<l.length):∃ T,(l.flatMap fun g=>g.hs)=((l.take i).flatMap fun g=>g.hs)++l[i].hs++T:=by
 refine ⟨(l.drop (i+1)).flatMap fun g=>g.hs,?_⟩;rw [← Ip hi,← arq,aqs]
theorem Gk {w:World} {sz n:Nat} {v:Value} {cs:List Value} (h:SL w sz v n cs):v.oneCell'=true:=by
 obtain ⟨A,c,rfl,_⟩:=ci h;rfl
theorem RR.one {w:World} {r:Rp} (h:RR w r):∀ u∈rpC r,u.oneCell'=true:=by
 have h1:=Gk h.t;have h2:=Gk h.m;intro u hu;simp only [rpC,ap1,arj,or_false] at hu;rcases hu with rfl | rfl | rfl
 ·rfl
 ·exact h1
 ·exact h2
theorem zA {w:World} {g:Tg} (h:SL w 34 g.hv g.hs.length (zm g.hs)):∀ u∈tgC g,u.oneCell'=true:=by
 have h1:=Gk h;intro u hu;simp only [tgC,ap1,arj,or_false] at hu;rcases hu with rfl | rfl
 ·rfl
 ·exact h1
section
variable {b:World} {t:Tb} {f:Nat} [Bodied Tryz.prog f] {caps:List Value} {G:List Hd→List SP}
theorem amk (hW:TW t) (hT:∀ A w,Sat b (G A) w→TR w t)
  (hc:∀ (A hs T:List Hd) (nm tg:ByteArray) (pu:Bool) (v:Value) (B:List SP),jX t.rs=A++hs++T→(∃ r∈t.rs,(∃ g∈r.ts,hs=g.hs)∨hs=r.ms)→(∀ A' w,Sat b (B++G A') w→SL w 34 v hs.length (zm hs)) →
   SC Tryz.prog f ([.string nm,.string tg,.bool pu,v]++caps) b (B++G A) (fun u F'=>u = .bool true∧F'=B++G (A++hs))) :
  SC Tryz.prog Bq [tbV t,.func (.func f) ⟨[]⟩ ⟨caps⟩] b (G []) (fun u F'=>u = .bool true∧F'=G (jX t.rs)):=by
 refine ao Tryz.func222 Z Z Z <| bu (fun w H=>ci (hT [] w H).r) ?_;rintro ⟨A,c,hrv,_,_,_,h4,_⟩;have hrn:=hW.rn;refine anf <| br Z Z Z Z Z fun g2=>ae Z <| ane <| ac <| anf <| ae Z <| ba 0 Z Z Z <| bn 10 (.slice A t.rs.length c) Z hrv <| apn Z Z <| ane <| ak ?_
 refine d6 (S:=Nat) (fun i=> [(1,.func (.func f) ⟨[]⟩ ⟨caps⟩),(2,pp g2),(10,.slice A t.rs.length c),(11,ii t.rs.length),(12,ii i)]) (fun i=>pt g2 bt (tbC t)::G (jX (t.rs.take i))) (fun i=>i≤t.rs.length) (fun i=>t.rs.length - i) 0 (by rw [ar1];exact Ent.refl _) (aqc _) ?_;intro i hi;refine anf <| ae Z <| ane <| ac ?_;refine cj Z (fun h1=> ?_) (fun h1=> ?_);rotate_left
 ·obtain rfl:i=t.rs.length:=by omega
  refine b8 <| aw <| ax <| aq <| ab <| anf <| ae Z <| ane <| aj <| bh Z Z (af 1 [] Z) ?_;rw [aqk];exact ⟨rfl,rfl⟩
 have h1':i<t.rs.length:=by omega
 obtain ⟨gg,oo,rfl⟩:=h4 (by omega);have hrm:=apw h1';have hcr:∀ w,Sat b (G (jX (t.rs.take i))) w→∀ j,j<3→w.cell? ⟨gg,oo+i*3+j,none⟩=(rpC t.rs[i])[j]?:=fun w H j hj=>ej (f:=rpC) (by have:=(hT _ w H).r;rwa [hrv] at this) (fun _ _=>rfl) h1' hj
 have hrr:∀ A w,Sat b (G A) w→RR w t.rs[i]:=fun A w H=>(hT A w H).rr _ hrm
 have hrw:=hW.rw _ hrm;have hst:=xD h1';obtain ⟨T0,hT0⟩:=Pj h1';generalize hA:jX (t.rs.take i)=A0 at *;generalize t.rs[i]=r at *;have htn:=hrw.tn;refine ah <| ab <| ac <| ak <| anf <| ay Z ?_;refine fc Z (fun w H=>di (cs:=rpC r) Z Z Z Z (fun j hj=>by rw [b5,apu];exact hcr w (H.ent (af 1 [] Z)) j hj)) Z ?_;refine b6 (fun w H=>(hrr A0 w (H.ent (af 1 [] Z))).one) fun hone=> ?_;refine bq Z Z Z Z Z fun g6=> ?_;refine eh 0 Z Z Z Z Z Z Z Z hone Z <| ane <| ac <| anf <| ae Z <| ba 0 Z Z Z <| b6 (fun w H=>ci (hrr A0 w (H.ent (af 2 [] Z))).t) ?_;rintro ⟨A3,c3,htv,_,_,_,k4,_⟩;refine bn 17 (.slice A3 r.ts.length c3) Z htv <| apn Z Z <| ane <| ak ?_;refine d6 (S:=Nat) (fun k=> [(1,.func (.func f) ⟨[]⟩ ⟨caps⟩),(2,pp g2),(6,pp g6),(10,.slice (some ⟨gg,oo,none⟩) t.rs.length c),(11,ii t.rs.length),(12,ii i),(17,.slice A3 r.ts.length c3),(18,ii r.ts.length),(19,ii k)]) (fun k=>pt g6 bm (rpC r)::pt g2 bt (tbC t)::G (A0++(r.ts.take k).flatMap fun g=>g.hs)) (fun k=>k≤r.ts.length) (fun k=>r.ts.length - k) 0 (by rw [ar1,List.flatMap_nil,aqg];exact Ent.refl _) (aqc _) ?_;intro k hk;refine anf <| ae Z <| ane <| ac ?_;refine cj Z (fun h2=> ?_) (fun h2=> ?_)
 ·have h2':k<r.ts.length:=by omega
  obtain ⟨gt,ot,rfl⟩:=k4 (by omega);have hgm:=apw h2';have hct:∀ A w,Sat b (G A) w→∀ j,j<2→w.cell? ⟨gt,ot+k*2+j,none⟩=(tgC r.ts[k])[j]?:=fun A w H j hj=>ej (f:=tgC) (by have:=(hrr A w H).t;rwa [htv] at this) (fun _ _=>rfl) h2' hj
  have hgr:∀ A w,Sat b (G A) w→SL w 34 r.ts[k].hv r.ts[k].hs.length (zm r.ts[k].hs):=fun A w H=>(hrr A w H).g _ hgm
  have hst2:=Ip h2';obtain ⟨T1,hT1⟩:=aak h2';generalize hA1:((r.ts.take k).flatMap fun g=>g.hs)=A1 at *;generalize r.ts[k]=g at *;refine ah <| ab <| ac <| ak <| anf <| ay Z ?_;refine fc Z (fun w H=>di (cs:=tgC g) Z Z Z Z (fun j hj=>by rw [b5,apu];exact hct _ w (H.ent (af 2 [] Z)) j hj)) Z ?_;refine b6 (fun w H=>zA (hgr _ w (H.ent (af 2 [] Z)))) fun hone2=> ?_;refine bq Z Z Z Z Z fun g8=> ?_;refine eh 0 Z Z Z Z Z Z Z Z hone2 Z <| aby <| apn Z Z <| ba 1 Z Z Z <| ae Z <| ba 0 Z Z Z <| ae Z <| ba 0 Z Z Z ?_;refine am Z Z Z (hc (A0++A1) g.hs (T1++r.ms++T0) r.nm g.nm false g.hv [_,_,_] (by rw [hT0,hR,hT1];simp) ⟨r,hrm,.inl ⟨g,hgm,rfl⟩⟩ (fun A' w H=>hgr A' w (H.ent (af 3 [] Z)))) ?_;rintro _ _ ⟨rfl,rfl⟩;refine ae Z <| ane <| ai Z <| ah <| bg <| ab <| aa <| ay Z <| ae Z <| ad ?_;rw [ap0,← hst2];refine dj (k+1) (af 3 [1,2] Z) (show k+1≤_ by omega)
 ·obtain rfl:k=r.ts.length:=by omega
  rw [aqk];have e9:A0++(r.ts.flatMap fun g=>g.hs)++r.ms=jX (t.rs.take (i+1)):=by rw [hst,hR,ap0]
  refine b8 <| aw <| ax <| aq <| ab <| anf <| apn Z Z <| ba 0 Z Z Z <| ae Z <| ba 0 Z Z Z ?_;refine am Z Z Z (hc (A0++r.ts.flatMap fun g=>g.hs) r.ms T0 r.nm ⟨⟨[]⟩⟩ true r.mv [_,_] (by rw [hT0,hR];simp) ⟨r,hrm,.inr rfl⟩ (fun A' w H=>(hrr A' w (H.ent (af 2 [] Z))).m)) ?_;rintro _ _ ⟨rfl,rfl⟩;rw [e9];refine ae Z <| ane <| ai Z <| ah <| bg <| ab <| aa <| ay Z <| ae Z <| ad ?_;refine dj (i+1) (af 2 [1] Z) (show i+1≤_ by omega)
end
def dm (l:List Hd):List ((Int × Int) × Value):=l.map fun h=>(h.d,.agg ⟨[]⟩)
theorem Cz {α:Type} [DecidableEq α] {a:α}:∀ {l:List (α × Value)},(∀ x∈l,x.1≠a)→jl a l=none∧∀ v,lq a v l=l ++ [(a,v)]
 | [], _ => ⟨rfl, fun _ => rfl⟩
 | x :: l, h => by
  obtain ⟨i1,i2⟩:=Cz (l:=l) fun y hy=>h y (aqj _ hy)
  have hx:=h x aqe;exact ⟨by rw [jl,if_neg hx,i1],fun v=>by rw [lq,if_neg hx,i2];rfl⟩
theorem aal {A:List Hd} {h:Hd} {T:List Hd} (hn:((A++h::T).map (·.d)).Nodup):jl h.d (dm A)=none∧lq h.d (.agg ⟨[]⟩) (dm A)=dm (A ++ [h]):=by
 obtain ⟨h1,h2⟩:=Cz (a:=h.d) (l:=dm A) fun x hx=>by
  obtain ⟨y,hy,rfl⟩:=ap8.1 hx;rw [aqa,atk] at hn;exact hn.2.2 y.d (ap8.2 ⟨y,hy,rfl⟩) h.d (by simp)
 exact ⟨h1,by rw [h2];simp [dm]⟩
abbrev fmG (t:Tb) (g1 g7 gm:Nat) (F:List SP) (A:List Hd):List SP:=pt g7 eW [.map (some gm)]::mp gm Zv lG (dm A)::pt g1 bt (tbC t)::F
theorem C0 (x:Hd):sn (hdC x) 0 2=some [ii x.d.1,ii x.d.2]:=cA (l:= [ii x.d.1,ii x.d.2]) (u8s x.id) Z
theorem uD {x:Hd} (h:x.id.length=32):sn (hdC x) 2 32=some (u8s x.id):=cp (cs:=u8s x.id) (by rw [bz,h])
section
variable {b:World} {F:List SP} {t:Tb} {g1 g7 gm:Nat}
theorem Lf {A hs T:List Hd} {nm tg:ByteArray} {pu:Bool} {v:Value} (hok:∀ h∈hs,dJ h) (hn:hs.length≤1000) (hr:t8 hs) (hnd:((A++hs++T).map (·.d)).Nodup) (hh:∀ h∈hs,lj t.V h.d.1 h.d.2=true) (hv:∀ w,Sat b F w→VL (Value.int .i64) w t.vv t.V) (hs0:∀ w A',Sat b (fmG t g1 g7 gm F A') w→SL w 34 v hs.length (zm hs)) :
  SC Tryz.prog aO [.string nm,.string tg,.bool pu,v,pp g7,pp g1] b (fmG t g1 g7 gm F A) (fun u F'=>u = .bool true∧F'=fmG t g1 g7 gm F (A++hs)):=by
 have hz:∀ h∈hs,(hdC h).length=34:=fun h hh=>mq (hok h hh).id.1
 refine ao Tryz.func223 Z Z Z <| bu (fun w H=>ci (hs0 w A H)) ?_;rintro ⟨A0,c,rfl,_,_,_,h4,_⟩;refine anf <| ae Z <| ane <| ac <| anf <| apo Z Z Z <| ane <| ak ?_;refine d6 (S:=Nat) (fun i=> [(3,.slice A0 hs.length c),(4,pp g7),(5,pp g1),(15,.slice A0 hs.length c),(16,ii hs.length),(17,ii i)]) (fun i=>fmG t g1 g7 gm F (A++hs.take i)) (fun i=>i≤hs.length) (fun i=>hs.length - i) 0 (by rw [ar1,aqg];exact Ent.refl _) (aqc _) ?_;intro i hi;refine anf <| ae Z <| ane <| ac ?_;refine cj Z (fun h1=> ?_) (fun h1=> ?_)
 ·have h1':i<hs.length:=by omega
  obtain ⟨gg,oo,rfl⟩:=h4 (by omega);have hm:=apw h1';have hcr:∀ w,Sat b (fmG t g1 g7 gm F (A++hs.take i)) w→∀ j,j<34→w.cell? ⟨gg,oo+i*34+j,none⟩=(hdC hs[i])[j]?:=fun w H j hj=>ej (hs0 w _ H) hz h1' hj
  have hsn:hs.take (i+1)=hs.take i ++ [hs[i]]:=apz h1';have hxo:=hok _ hm;have hxh:=hh _ hm;have hdo:=aal (A:=A++hs.take i) (h:=hs[i]) (T:=hs.drop (i+1)++T) (by
   have:A++hs.take i++hs[i]::(hs.drop (i+1)++T)=A++hs++T:=by
    rw [← aq2,← aqq h1'];simp [← List.append_assoc];simp [ap0]
   rw [this];exact hnd)
  rw [ap0,← hsn] at hdo;generalize hs[i]=x at *;have xl:=mq hxo.id.1;have x1:=tm x;refine ah <| ab <| ac <| ak <| anf <| ay Z ?_;refine fc Z (fun w H=>di (cs:=hdC x) Z Z Z xl (fun j hj=>by rw [b5,apu];exact hcr w H j (by rw [xl] at hj;exact hj))) Z ?_;refine bq Z Z Z Z Z fun g12=> ?_;refine eh 0 Z Z Z Z Z Z Z xl x1 (by rw [xl];rfl) ?_;refine ane <| ac <| anf <| ba 1 Z Z Z <| ae Z <| b7 0 Z Z Z Z Z Z (C0 x) Z ?_
  skip
  refine vm 2 Xj hxo.d hdo.1 Z Z Z Z Z Z Z Z <| apo Z Z Z <| bq Z Z Z Z Z fun g13=> ?_;refine eh 0 Z Z Z Z Z Z Z Z (fun u hu=>by cases hu) Z ?_;refine ae Z <| aby <| apo Z Z Z <| ba 4 Z Z Z <| ae Z <| b7 1 Z Z Z Z Z Z (C0 x) Z <| au Z Z Z (Gd (up hv (af 5 [] Z))) ?_;rw [hxh];refine apn Z Z <| ane <| ai Z <| ah <| ab <| aa <| ba 2 Z Z Z <| ae Z <| b7 1 Z Z Z Z Z Z (C0 x) Z <| ae Z <| mI 3 Xj hxo.d Z Z Z Z Z Z Z Z ?_;rw [hdo.2];refine ad <| bg <| ab <| aa <| ay Z <| ae Z <| ad ?_;refine dj (i+1) (af 2 [] Z) (show i+1≤_ by omega)
 ·obtain rfl:i=hs.length:=by omega
  rw [aqk];refine b8 <| aw <| ax <| aq <| ab <| anf <| ae Z ?_;refine au Z Z Z (ami (D:=hs) (f:=zg) (fun i hi=>(Ik (hok _ (apw (show i<hs.length by omega))).id.1 (hok _ (apw hi)).id.1).mono fun u F' h=>⟨⟨_,tU.2 (arg.1 hr i (i+1) (by omega) hi (by omega)),h.1⟩,h.2⟩) hz (hs0 · (A++hs)) (by omega)) ?_;refine ae Z <| ane <| aj <| bh Z Z av ?_;exact ⟨rfl,rfl⟩
theorem Pk {a c d:SP} (B F:List SP):(B++a::c::d::F).Perm (a::c::d::(B++F)) :=
 aqz.trans (List.Perm.cons _ (aqz.trans (List.Perm.cons _ aqz)))
theorem RR.tgf {w:World} {r:Rp} (h:RR w r):∀ g∈r.ts,∃ A c,g.hv = .slice A g.hs.length c:=fun g hg=>by
 obtain ⟨A,c,h1,_⟩:=ci (h.g g hg);exact ⟨A,c,h1⟩
theorem Pm (hW:TW t) (hrs:zk (t.rs.map Rp.pl)) (hnd:(oS (t.rs.map Rp.pl)).Nodup) (hh:∀ d∈oS (t.rs.map Rp.pl),lj t.V d.1 d.2=true) (hT:∀ w,Sat b F w→TR w t) :
  SC Tryz.prog sD [tbV t] b F (fun u F'=>u = .bool true∧F'=F):=by
 have hrn:=hW.rn;have hpw:∀ (i j:Nat) (hi:i<t.rs.length) (hj:j<t.rs.length),i<j→cbN t.rs[i].nm t.rs[j].nm<0:=fun i j hi hj hij=>by
  have:=arg.1 hrs.rs i j (by rw [ap9];exact hi) (by rw [ap9];exact hj) hij;rwa [aq7,aq7] at this
 have hok:∀ r∈t.rs,alv r.pl:=fun r hr=>hrs.ok _ (ap8.2 ⟨r,hr,rfl⟩)
 refine ao Tryz.func146 Z Z Z <| bu (fun w H=>ci (hT w H).r) ?_;rintro ⟨A,c,hrv,_,_,_,h4,_⟩;refine anf <| br Z Z Z Z Z fun g1=>ae Z <| aby <| ae Z <| aby <| ae Z <| ane <| ac <| anf <| ae Z <| ba 0 Z Z Z <| ae Z <| bn 9 (.slice A t.rs.length c) Z hrv ?_
 skip
 refine au Z Z Z (amg (D:=t.rs) (f:=aM) (fun i hi=>Lb.mono fun u F' h=>⟨⟨_,hpw i (i+1) (by omega) hi (by omega),h.1⟩,h.2⟩) (fun _ _=>rfl) (fun w H=>by have:=(hT w (H.ent (af 1 [] Z))).r;rwa [hrv] at this) (by omega)) ?_;refine ae Z <| ane <| ai Z <| ah <| ab <| ac <| anf <| ae Z <| ba 0 Z Z Z <| bn 14 (.slice A t.rs.length c) Z hrv <| apn Z Z <| ane <| ak <| d6 (S:=Nat) (fun i=> [(1,pp g1),(4,.func (.func uv) ⟨[]⟩ ⟨[]⟩),(14,.slice A t.rs.length c),(15,ii t.rs.length),(16,ii i)]) (fun _=>pt g1 bt (tbC t)::F) (fun i=>i≤t.rs.length) (fun i=>t.rs.length - i) 0 av (aqc _) ?_;intro i hi;refine anf <| ae Z <| ane <| ac ?_;refine cj Z (fun h1=> ?_) (fun h1=> ?_)
 ·have h1':i<t.rs.length:=by omega
  obtain ⟨gg,oo,rfl⟩:=h4 (by omega);have hrm:=apw h1';have hcr:∀ w,Sat b F w→∀ j,j<3→w.cell? ⟨gg,oo+i*3+j,none⟩=(rpC t.rs[i])[j]?:=fun w H j hj=>ej (f:=rpC) (by have:=(hT w H).r;rwa [hrv] at this) (fun _ _=>rfl) h1' hj
  have hrr:∀ w,Sat b F w→RR w t.rs[i]:=fun w H=>(hT w H).rr _ hrm
  have hrw:=hW.rw _ hrm;have hro:=hok _ hrm;generalize t.rs[i]=r at *;have htn:=hrw.tn;have hmn:=hrw.mn;have hts:∀ (i j:Nat) (hi:i<r.ts.length) (hj:j<r.ts.length),i<j→cbN r.ts[i].nm r.ts[j].nm<0:=fun i j hi hj hij=>by
   have:=arg.1 hro.ts i j (by rw [Rp.pl,ap9];exact hi) (by rw [Rp.pl,ap9];exact hj) hij;unfold Rp.pl at this;rwa [aq7,aq7] at this
  have hne:r.ts.length+r.ms.length≠0:=fun h0=>by
   rcases hro.ne with h | h
   ·exact h (by unfold Rp.pl;rw [ark.1 (show r.ts.length=0 by omega)];rfl)
   ·exact h (ark.1 (show r.ms.length=0 by omega))
  have hgn:∀ g∈r.ts,g.hs.length≠0:=fun g hg h0=>(hro.th g.pl (ap8.2 ⟨g,hg,rfl⟩)).1 (ark.1 h0)
  refine ah <| ab <| ac <| ak <| anf <| ay Z ?_;refine fc Z (fun w H=>di (cs:=rpC r) Z Z Z Z (fun j hj=>by rw [b5,apu];exact hcr w (H.ent (af 1 [] Z)) j hj)) Z ?_;refine b6 (fun w H=>(hrr w (H.ent (af 1 [] Z))).one) fun hone=> ?_;refine b6 (fun w H=>ci (hrr w (H.ent (af 1 [] Z))).t) ?_;rintro ⟨A3,c3,htv,_⟩;refine b6 (fun w H=>ci (hrr w (H.ent (af 1 [] Z))).m) ?_;rintro ⟨A5,c5,hmv,_⟩;refine b6 (fun w H=>(hrr w (H.ent (af 1 [] Z))).tgf) fun htg=> ?_;refine bq Z Z Z Z Z fun g6=> ?_;refine eh 0 Z Z Z Z Z Z Z Z hone Z <| aby <| ae Z <| ba 0 Z Z Z <| ae Z ?_;have hsl:∀ w,Sat b (pt g6 bm (rpC r)::pt g1 bt (tbC t)::F) w→SL w 2 r.tv r.ts.length (fN r.ts):=fun w H=>(hrr w (H.ent (af 2 [] Z))).t
  refine au Z Z Z (amh (D:=r.ts) (f:=uv) (fun i hi=>Lc.mono fun u F' h=>⟨⟨_,hts i (i+1) (by omega) hi (by omega),h.1⟩,h.2⟩) (fun _ _=>rfl) hsl (by omega)) <| apo Z Z Z <| ba 0 Z Z Z <| bn 27 (.slice A3 r.ts.length c3) Z htv <| apn Z Z <| ba 0 Z Z Z <| bn 30 (.slice A5 r.ms.length c5) Z hmv <| ae Z <| ay Z <| apo Z Z Z <| qp 35 Z <| ae Z <| ba 0 Z Z Z ?_;refine au Z Z Z (Xy (D:=r.ts) (p:=fun g=>decide (g.hs.length=0)) (f:=aN) (pre:= []) (post:= []) (fun g hg B=>by
   obtain ⟨A9,c9,h9⟩:=htg g hg;exact Ld h9) (fun _ _=>rfl) hsl (by omega)) ?_
  rw [atl.2 fun g hg=>by simpa using hgn g hg];refine ae Z <| ane <| ai Z <| ah <| bg <| ab <| aa <| ay Z <| ae Z <| ad ?_;refine dj (i+1) (af 2 [1] Z) (show i+1≤_ by omega)
 ·refine b8 <| aw <| ax <| aq <| ab <| anf <| qq Zv lG Z Z Z fun gm=>bq Z Z Z Z Z fun g7=>cg 0 Z Z Z Z <| aby <| ba 2 Z Z Z <| ae Z ?_
  refine am Z Z Z (amk (t:=t) (f:=aO) (caps:= [pp g7,pp g1]) (G:=fmG t g1 g7 gm F) hW (fun A w H=>hT w (H.ent (af 3 [] Z))) (fun A hs T nm tg pu v B hall hx hsl=>by
   have hw:(∀ h∈hs,dJ h)∧hs.length≤1000∧t8 hs:=by
    obtain ⟨r,hr,⟨g,hg,rfl⟩ | rfl⟩:=hx
    ·exact ⟨(hW.rw r hr).gh g hg,(hW.rw r hr).gn g hg,((hok r hr).th g.pl (ap8.2 ⟨g,hg,rfl⟩)).2⟩
    ·exact ⟨(hW.rw r hr).mh,(hW.rw r hr).mn,(hok r hr).ms⟩
   have hd:=Le t.rs;refine ((Lf (F:=B++F) (T:=T) hw.1 hw.2.1 hw.2.2 (by rw [← hall,hd];exact hnd) (fun h hh'=>hh _ (by rw [← hd,hall];exact ap8.2 ⟨h,by simp [hh'],rfl⟩)) (fun w H=>(hT w (H.ent (kK B))).v) (fun w A' H=>hsl A' w (H.ent (kh (Pk B F).symm)))).ent (kh (Pk B F))).out ?_;rintro u _ ⟨h1,rfl⟩;exact ⟨_,kh (Pk B F).symm,h1,rfl⟩)) ?_
  rintro _ _ ⟨rfl,rfl⟩;refine ae Z <| ane <| aj <| bh Z Z (af 3 [] Z) ?_;exact ⟨rfl,rfl⟩
structure TK (t:Tb):Prop where
 w:TW t
 k:Tok t.pl
theorem uE (hk:TK t) (hT:∀ w,Sat b F w→TR w t):SC Tryz.prog vF [tbV t] b F (fun u F'=>u=ii 0∧F'=F):=by
 have hW:=hk.w;have hrn:=hW.rn;have hn1:1≤t.V.length:=hk.k.n1;have hn2:t.V.length≤16:=hk.k.n2;have hvo:∀ x∈t.V,0≤x∧x≤1048576:=hk.k.vo;refine ao Tryz.func66 Z Z Z <| bu (fun w H=>ci (hT w H).r) ?_;rintro ⟨A,c,hrv,_,_,_,h4,_⟩;refine bu (fun w H=>(hT w H).v.form) ?_;rintro ⟨A1,c1,hvv,_⟩;refine anf <| br Z Z Z Z Z fun g1=>ae Z <| ane <| ac <| anf <| ae Z <| ba 0 Z Z Z ?_
 have hvl:∀ w,Sat b (pt g1 bt (tbC t)::F) w→VL (Value.int .i64) w t.vv t.V:=fun w H=>(hT w (H.ent (af 1 [] Z))).v
 refine bn 7 (.slice A1 t.V.length c1) Z hvv <| apo Z Z Z <| qp 10 Z <| ae Z <| ba 0 Z Z Z <| bn 12 (.slice A1 t.V.length c1) Z hvv <| apo Z Z Z <| ae Z <| qp 16 Z <| ae Z <| ba 0 Z Z Z <| am Z Z Z (X1 hvl (by omega) hvo (by omega)) ?_;rintro _ _ ⟨⟨z,z1,z2,rfl⟩,rfl⟩;refine apo Z Z Z <| qp 22 Z <| ae Z <| ba 0 Z Z Z <| am Z Z Z (amj hvl (by omega) hvo (by omega)) ?_;rintro _ _ ⟨⟨z',z1',z2',rfl⟩,rfl⟩;refine apn Z Z <| ane <| vj 27 Z <| ai Z <| ah <| ab <| ac <| anf <| ae Z <| ba 0 Z Z Z <| bn 29 (.slice A t.rs.length c) Z hrv <| apn Z Z <| ane <| ak <| d6 (S:=Nat) (fun i=> [(1,pp g1),(29,.slice A t.rs.length c),(30,ii t.rs.length),(31,ii i)]) (fun _=>pt g1 bt (tbC t)::F) (fun i=>i≤t.rs.length) (fun i=>t.rs.length - i) 0 av (aqc _) ?_;intro i hi;refine anf <| ae Z <| ane <| ac ?_;refine cj Z (fun h1=> ?_) (fun h1=> ?_)
 ·have h1':i<t.rs.length:=by omega
  obtain ⟨gg,oo,rfl⟩:=h4 (by omega);have hrm:=apw h1';have hcr:∀ w,Sat b F w→∀ j,j<3→w.cell? ⟨gg,oo+i*3+j,none⟩=(rpC t.rs[i])[j]?:=fun w H j hj=>ej (f:=rpC) (by have:=(hT w H).r;rwa [hrv] at this) (fun _ _=>rfl) h1' hj
  have hrr:∀ w,Sat b F w→RR w t.rs[i]:=fun w H=>(hT w H).rr _ hrm
  have hrw:=hW.rw _ hrm;have hnm:=hk.k.nm t.rs[i].pl (ap8.2 ⟨_,hrm,rfl⟩);generalize t.rs[i]=r at *;have htn:=hrw.tn;have hnr:jk (dz r.nm)=(0,0):=hnm.1;have hnt:∀ g∈r.ts,cB (dz g.nm)=(0,0):=fun g hg=>hnm.2 g.pl (ap8.2 ⟨g,hg,rfl⟩)
  refine ah <| ab <| ac <| ak <| anf <| ay Z ?_;refine fc Z (fun w H=>di (cs:=rpC r) Z Z Z Z (fun j hj=>by rw [b5,apu];exact hcr w (H.ent (af 1 [] Z)) j hj)) Z ?_;refine b6 (fun w H=>(hrr w (H.ent (af 1 [] Z))).one) fun hone=> ?_;refine bq Z Z Z Z Z fun g4=> ?_;refine eh 0 Z Z Z Z Z Z Z Z hone Z <| aby <| ae Z <| aby <| ae Z <| ba 0 Z Z Z <| au Z Z Z (tL) ?_;rw [hnr];refine ae Z <| j6 Z (wk Z Z (n8 0 0 0 0)) Z <| bn 39 (.bool false) Z Z <| apn Z Z <| ba 0 Z Z Z <| ae Z <| au Z Z Z (Xy (D:=r.ts) (p:=fun g=> !decide (cB (dz g.nm)=(0,0))) (f:=cM) (pre:= []) (post:= []) (fun g hg B=>Ph) (fun _ _=>rfl) (fun w H=>(hrr w (H.ent (af 2 [] Z))).t) (by omega)) ?_;rw [atl.2 fun g hg=>by simpa using hnt g hg];refine ae Z <| ane <| ai Z <| ah <| bg <| ab <| aa <| ay Z <| ae Z <| ad ?_;refine dj (i+1) (af 2 [1] Z) (show i+1≤_ by omega)
 ·refine b8 <| aw <| ax <| aq <| ab <| ac <| anf <| ba 0 Z Z Z <| au Z Z Z (Pm hW hk.k.rs hk.k.nd hk.k.has (fun w H=>hT w (H.ent (af 1 [] Z)))) <| ae Z <| ane <| ai Z <| ah <| ab <| anf <| ae Z <| ane <| aj <| bh Z Z (af 1 [] Z) ?_;exact ⟨rfl,rfl⟩
end

theorem Iq {x:Hd}:∀ {l1 l2:List Hd},(∀ a∈l1,ltD a.d x.d)→(∀ a∈l2,¬ ltD a.d x.d)→q7 x (l1++l2)=l1++x::l2
 | [], [], _, _ => rfl
 | [], a :: l2, _, h => by rw [arb, q7, if_neg (h a aqe)]; rfl
 | a :: l1, l2, h1, h2 => by
  rw [aq2,q7,if_pos (h1 a aqe),Iq (fun y hy=>h1 y (aqj _ hy)) h2];rfl
section
variable {b:World} {F:List SP} {l:List Hd} {x:Hd} {A:Option Addr} {c:Nat}
theorem X2 (hl:∀ h∈l,dJ h) (hx:dJ x) (hr:t8 l) (hn:l.length≤100000):SC Tryz.prog Bn [.slice A l.length c,hdV x] b (row t_api_Held 34 (.slice A l.length c) l.length (zm l)::F) (fun u F'=>F'=rHs u (q7 x l)::F):=by
 have hz:∀ h∈l,(hdC h).length=34:=fun h hh=>mq (hl h hh).id.1
 have xl:=mq hx.id.1;refine ao Tryz.func153 Z Z Z <| anf <| br Z Z Z Z Z fun g3=>ae Z <| aby <| ae Z ?_
 refine b7 0 Z Z Z Z Z Z (cp (by rw [xl];rfl)) Z ?_;refine am Z Z Z (al6 (x:=x) (cm:=fun d=>ahD d.d x.d) (f:=zg) (fun d hd B=>Ik (hl d hd).id.1 hx.id.1) hz hx.id.1 (fun w H=>(H.oat (k:=1) Z).sl) (by omega) (fun i j hi hj hij h=>by
  exact tU.2 (xA (arg.1 hr i j hi hj hij) (tU.1 h)))) ?_
 rintro _ _ ⟨⟨l1,l2,hl12,h1,h2,rfl⟩,rfl⟩;have hins:q7 x l=l1++x::l2:=by
  rw [hl12];exact Iq (fun a ha=>tU.1 (h1 a ha)) (fun a ha hc=>h2 a ha (tU.2 hc))
 rw [hins];subst hl12
 (iterate 5 refine ae Z ?_)
 refine aby <| apn Z Z ?_;refine b7 0 Z Z Z Z Z Z (cp (by rw [xl];rfl)) Z ?_;refine li Z Z Z Z Z Z Z xl (by decide) fun gl=>am Z Z Z ((aag (F:=pt g3 t_api_Held (hdC x)::F) (fun d hd=>hz d (aqu _ hd)) (fun d hd=>hz d (aq3 _ hd)) xl (fun d _=>tm d) (tm x) (by omega)).ent (af 3 [2,0,1] Z)) ?_
 rintro v _ rfl;refine ae Z <| ane <| aj <| bh Z Z (af 2 [0] Z) ?_
 rfl
variable {e:Ev} {g4 g5 fa:Nat} {post:List Value} {q:Hd→Bool} [Bodied Tryz.prog fa]
abbrev iY (e:Ev) (q:Hd→Bool) (h:Hd):Bool:=lj e.deps h.d.1 h.d.2&&q h
theorem Uk (hx:dJ x) (he:∀ w,Sat b F w→ER w e) (ha:∀ B:List SP,SC Tryz.prog fa ([hdV x]++post) b (B++F) (fun u F'=>u = .bool (q x)∧F'=B++F)) :
  SC Tryz.prog eQ [hdV x,pp g4,pp g5] b (pt g5 pc [.func (.func fa) ⟨[]⟩ ⟨post⟩]::pt g4 dk (evC e)::F) (fun u F'=>u = .bool (iY e q x)∧F'=pt g5 pc [.func (.func fa) ⟨[]⟩ ⟨post⟩]::pt g4 dk (evC e)::F):=by
 have xl:=mq hx.id.1;refine ao Tryz.func235 Z Z Z <| anf <| br Z Z Z Z Z fun g3=>ae Z <| aby <| ae Z <| ba 2 Z Z Z <| ae Z <| b7 0 Z Z Z Z Z Z (C0 x) Z <| au Z Z Z (Gd (fun w H=>(he w (H.ent (af 3 [] Z))).dv)) ?_
 unfold iY;cases lj e.deps x.d.1 x.d.2 with
 | false =>
  (iterate 6 refine ae Z ?_)
  refine ane <| aj <| bh Z Z (af 3 [1,2] Z) ?_;exact ⟨rfl,rfl⟩
 | true =>
  refine ae Z <| ba 1 Z Z Z ?_;refine b7 0 Z Z Z Z Z Z (cp (by rw [xl];rfl)) Z ?_;refine au Z Z Z (ha [_,_,_]) <| apn Z Z <| ane <| aj <| bh Z Z (af 3 [1,2] Z) ?_;exact ⟨rfl,rfl⟩
theorem Gl (hl:∀ h∈l,dJ h) (he:∀ w,Sat b F w→ER w e) (h32:e.id.length=32) (ha:∀ h∈l,∀ B:List SP,SC Tryz.prog fa ([hdV h]++post) b (B++F) (fun u F'=>u = .bool (q h)∧F'=B++F)) (hn:l.length≤100000) :
  SC Tryz.prog yG [.slice A l.length c,evV e,.func (.func fa) ⟨[]⟩ ⟨post⟩] b (row t_api_Held 34 (.slice A l.length c) l.length (zm l)::F) (fun u F'=>u = .slice A (l.filter fun h=> !iY e q h).length c∧F'=row t_api_Held 34 (.slice A (l.filter fun h=> !iY e q h).length c) (l.filter fun h=> !iY e q h).length (zm (l.filter fun h=> !iY e q h))::F):=by
 have hz:∀ h∈l,(hdC h).length=34:=fun h hh=>mq (hl h hh).id.1
 refine ao Tryz.func154 Z Z Z <| anf <| br Z Z Z Z Z fun g4=>br Z Z Z Z Z fun g5=>ae Z <| aby <| apn Z Z ?_
 refine am Z Z Z ((al3 (F:=pt g5 pc [.func (.func fa) ⟨[]⟩ ⟨post⟩]::pt g4 dk (evC e)::F) (f:=eQ) (p:=iY e q) (pre:= []) (post:= [pp g4,pp g5]) (fun h hh B=>by
  refine ((Uk (F:=B++F) (g4:=g4) (g5:=g5) (q:=q) (hl h hh) (fun w H=>he w (H.ent (kK B))) (fun B2=>by have:=ha h hh (B2++B);rw [ap0] at this;exact this)).ent (kh (aqz.trans (List.Perm.cons _ aqz)))).out ?_;rintro u _ ⟨h1,rfl⟩;exact ⟨_,kh (aqz.trans (List.Perm.cons _ aqz)).symm,h1,rfl⟩) hz (fun d _=>tm d) hn).ent (af 3 [2,0,1] Z)) ?_
 rintro _ _ ⟨rfl,rfl⟩;refine ae Z <| ane <| aj <| bh Z Z (af 3 [0] Z) ?_;exact ⟨rfl,rfl⟩
theorem Ul {gE:Nat} (hx:dJ x) (h32:e.id.length=32):SC Tryz.prog tq [hdV x,pp gE] b (pt gE dk (evC e)::F) (fun u F'=>u = .bool (decide (x.id=e.id))∧F'=pt gE dk (evC e)::F):=by
 refine ao Tryz.func155 Z Z Z <| anf <| br Z Z Z Z Z fun g2=>ae Z <| aby <| ae Z <| b7 0 Z Z Z Z Z Z (uD hx.id.1) Z <| ae Z <| b7 1 Z Z Z Z Z Z (Fz h32) Z <| j6 Z (xS (as00:=x.id) (bs:=e.id) Z Z hx.id.1 h32) Z <| ae Z <| ane <| aj <| bh Z Z (af 2 [1] Z) ?_
 exact ⟨rfl,rfl⟩
end

def rp0 (s:ByteArray):Rp:=⟨s,.slice none 0 0,[],.slice none 0 0,[]⟩
def tg0 (s:ByteArray):Tg:=⟨s,.slice none 0 0,[]⟩
theorem Um {s:ByteArray} {l1 l2:List Rp} {F:List SP}:Ent (all (rpF (l1++l2))::F) (all (rpF (l1++rp0 s::l2))::F):=by
 have hp:(rpF (l1++rp0 s::l2)).Perm ([all (rpP (rp0 s))]++rpF (l1++l2)):=by
  rw [cF,rpF,cF];exact aqz
 refine Ent.trans (Ent.trans ?_ (ee (G:=rpP (rp0 s)))) (qd hp);exact ((ee (G:= [])).trans ((de t_api_Held 34 Z).trans (de dw 2 Z)))
theorem Un {s:ByteArray} {l1 l2:List Tg} {F:List SP}:Ent (all (tgF (l1++l2))::F) (all (tgF (l1++tg0 s::l2))::F):=by
 have hp:(tgF (l1++tg0 s::l2)).Perm ([rHs (tg0 s).hv (tg0 s).hs]++tgF (l1++l2)):=by
  rw [cE,tgF,cE];exact aqz
 exact Ent.trans (de t_api_Held 34 Z) (qd hp)
abbrev dkP (gd:Nat) (vv:Value) (A:Option Addr) (c:Nat) (rs:List Rp) (F:List SP):List SP:=pt gd ir [vv,.slice A rs.length c]::row bm 3 (.slice A rs.length c) rs.length (q8 rs)::all (rpF rs)::F
structure DK (k:Nat) (rs:List Rp):Prop where
 w:RSw (rs.map Rp.pl)
 r:∀ r∈rs,RW r
 n:rs.length≤k
 b:∀ r∈rs,r.ts.length≤k∧r.ms.length≤k∧∀ g∈r.ts,g.hs.length≤k
theorem DK.pw {k:Nat} {rs:List Rp} (h:DK k rs) {i j:Nat} (hi:i<rs.length) (hj:j<rs.length) (hij:i<j):cbN rs[i].nm rs[j].nm<0:=by
 have:=arg.1 h.w.rs i j (by rw [ap9];exact hi) (by rw [ap9];exact hj) hij;rwa [aq7,aq7] at this
theorem Pn {a s:ByteArray} (h:¬ cbN a s<0) (h0:cbN a s≠0):cbN s a<0:=by have:=tM a s;omega
theorem aml (s:ByteArray) (hs:s.size≤1000):RW (rp0 s):=⟨by simp [rp0],by simp [rp0],fun g hg=>(by cases hg),fun g hg=>(by cases hg),fun g hg=>(by cases hg),hs,fun g hg=>(by cases hg)⟩
section
variable {b:World} {F:List SP} {gd:Nat} {vv:Value} {A:Option Addr} {c:Nat} {rs:List Rp} {s:ByteArray} {k:Nat}
def amm (k gd:Nat) (vv:Value) (rs:List Rp) (s:ByteArray) (F:List SP) (u:Value) (F':List SP):Prop :=
 ∃ g o c' l1 r l2,u = .pointer (some ⟨g,o+l1.length*3,none⟩)∧r.nm=s∧DK (k+1) (l1++r::l2)∧(∀ p,atP p ((l1++r::l2).map Rp.pl)=atP p (rs.map Rp.pl))∧(r∈rs∨r=rp0 s)∧F'=dkP gd vv (some ⟨g,o,none⟩) c' (l1++r::l2) F
theorem Gm (hk:DK k rs) (h9:k≤900) (hs:s.size≤1000):SC Tryz.prog iE [pp gd,.string s] b (dkP gd vv A c rs F) (amm k gd vv rs s F):=by
 have hkn:=hk.n;refine ao Tryz.func152 Z Z Z <| anf <| ae Z <| aby <| apo Z Z Z <| ae Z <| ba 0 Z Z Z <| ae Z <| am Z Z Z (al5 (D:=rs) (cm:=fun r=>cbN r.nm s) (f:=tz) (fun d _ B=>Uj) (fun _ _=>rfl) (fun w H=>(H.oat (k:=1) Z).sl) (by omega) (fun i j hi hj hij h=>xk (hk.pw hi hj hij) h)) ?_;rintro _ _ ⟨⟨l1,l2,hl12,h1,h2,rfl⟩,rfl⟩;refine b6 (p:=∀ x∈rs,∀ u∈rpC x,u.oneCell'=true) (fun w H x hx=>(Gi (k:=2) Z hx w H).one) fun hone=> ?_;by_cases hf:∃ a l2',l2=a::l2'∧cbN a.nm s=0
 ·obtain ⟨a,l2',rfl,ha⟩:=hf;rw [at0,ap5 ha];subst hl12;refine b6 (fun w H=>(H.oat (k:=1) Z).form) ?_;rintro ⟨_,_,hv,hnc,_,q3⟩;cases hv;have hlt:l1.length<(l1++a::l2').length:=by simp
  obtain ⟨gA,oA,rfl⟩:=q3 (by omega)
  (iterate 5 refine ae Z ?_)
  refine ane <| ac <| anf <| apn Z Z <| ane <| ai Z <| ah <| ab <| anf <| apo Z Z Z <| ae Z <| ba 0 Z Z Z <| ae Z <| ay Z <| ae Z <| ane <| aj <| bh Z Z av ?_;exact ⟨gA,oA,c,l1,a,l2',by rw [b5,apu];rfl,Oz ha,⟨hk.w,hk.r,by omega,fun r hr=>⟨by have:=(hk.b r hr).1;omega,by have:=(hk.b r hr).2.1;omega,fun g hg=>by have:=(hk.b r hr).2.2 g hg;omega⟩⟩,fun _=>rfl,.inl (by simp),rfl⟩
 ·have hmt:at0 (fun r:Rp=>cbN r.nm s) l2=false:=by
   cases l2 with
   | nil => rfl
   | cons a l2 => exact aqo fun h0 => hf ⟨a, l2, rfl, h0⟩
  rw [hmt];have hgt:∀ x∈l2,cbN s x.nm<0:=by
   cases l2 with
   | nil => intro x hx; cases hx
   | cons a l2 =>
    have ha:=Pn (h2 a aqe) fun h0=>hf ⟨a,l2,rfl,h0⟩
    intro x hx;rcases ap1.1 hx with rfl | hx
    ·exact ha
    ·have hp:=hk.w.rs;rw [hl12,aqa,aqt] at hp;exact xk ha ((aq1.1 (arn.1 hp).2.1).1 x.pl (ap8.2 ⟨x,hx,rfl⟩))
  subst hl12;have hnew:=O5 (A:=l1.map Rp.pl) (B:=l2.map Rp.pl) (s:=s) (by rw [← aqa];exact hk.w) (fun x hx=>by
   obtain ⟨y,hy,rfl⟩:=ap8.1 hx;exact h1 y hy) (fun x hx=>by
   obtain ⟨y,hy,rfl⟩:=ap8.1 hx;exact hgt y hy)
  have hmap:(l1++rp0 s::l2).map Rp.pl=l1.map Rp.pl++⟨s,[],[]⟩::l2.map Rp.pl:=by rw [aqa,aqt];rfl
  have hll:(l1++rp0 s::l2).length=(l1++l2).length+1:=by simp;omega
  have hdk:DK (k+1) (l1++rp0 s::l2):=by
   refine ⟨by rw [hmap];exact hnew.1,fun r hr=> ?_,by omega,fun r hr=> ?_⟩;rcases ap6.1 hr with hr | hr
   ·exact hk.r r (aqu _ hr)
   ·rcases ap1.1 hr with rfl | hr
    ·exact aml s hs
    ·exact hk.r r (aq3 _ hr)
   ·have hold:∀ r∈l1++l2,r.ts.length≤k+1∧r.ms.length≤k+1∧∀ g∈r.ts,g.hs.length≤k+1:=fun r hr=>⟨by have:=(hk.b r hr).1;omega,by have:=(hk.b r hr).2.1;omega,fun g hg=>by have:=(hk.b r hr).2.2 g hg;omega⟩
    rcases ap6.1 hr with hr | hr
    ·exact hold r (aqu _ hr)
    ·rcases ap1.1 hr with rfl | hr
     ·exact ⟨by simp [rp0],by simp [rp0],fun g hg=>(by cases hg)⟩
     ·exact hold r (aq3 _ hr)
  (iterate 5 refine ae Z ?_)
  refine ane <| ac <| anf <| apn Z Z <| ane <| ar Z <| aa ?_
  (iterate 5 refine ae Z ?_)
  refine ba 0 Z Z Z <| apo Z Z Z <| li Z Z Z Z Z Z Z Z (by decide) fun gl=> ?_;refine am Z Z Z ((aaf (l1:=l1) (l2:=l2) (x:=rp0 s) (gl:=gl) (F:=pt gd ir [vv,.slice A (l1++l2).length c]::all (rpF (l1++l2))::F) (fun _ _=>rfl) (fun _ _=>rfl) Z (fun d hd=>hone d (aq3 _ hd)) (fun u hu=>by
   simp only [rpC,rp0,ap1,arj,or_false] at hu;rcases hu with rfl | rfl | rfl <;> rfl) (by omega)).ent (af 4 [2,0,1,3] Z)) ?_
  rintro v _ rfl;refine b6 (fun w H=>(H.oat (k:=0) Z).form) ?_;rintro ⟨A',c',rfl,hnc,_,q3⟩;obtain ⟨gA,oA,rfl⟩:=q3 (by omega);have hlt:l1.length<(l1++rp0 s::l2).length:=by simp
  refine apo Z Z Z <| cg 1 Z Z Z Z <| aby <| apo Z Z Z <| ae Z <| ba 1 Z Z Z <| ae Z <| ay Z <| ae Z <| ane <| aj <| bh Z Z ((af 3 [2,1,0] Z).trans ((Um (s:=s)).trans (af 3 [1,2,0] Z))) ?_;exact ⟨gA,oA,c',l1,rp0 s,l2,by rw [b5,apu];rfl,rfl,hdk,fun p=>by rw [hmap,hnew.2,aqa],.inr rfl,rfl⟩
end
theorem zB (P Q vs:List Value) (k:Nat):spl (P++Q) (P.length+k) vs=P++spl Q k vs:=by
 unfold spl;rw [List.take_length_add_append,show P.length+k+vs.length=P.length+(k+vs.length) by omega,List.drop_length_add_append];simp only [ap0]
theorem gU (l:List Rp):(q8 l).length=l.length*3:=l9 fun _ _=>rfl
theorem zC (l:List Tg):(fN l).length=l.length*2:=l9 fun _ _=>rfl
theorem Ir {l1 l2:List Rp} {r:Rp} {v:Value} (ts:List Tg):spl (q8 (l1++r::l2)) (l1.length*3+1) [v]=q8 (l1++⟨r.nm,v,ts,r.mv,r.ms⟩::l2):=by
 show spl (flC rpC _) _ _=flC rpC _;rw [ic,ic,← gU,zB];rfl
theorem It {l1 l2:List Rp} {r:Rp} {v:Value} (ms:List Hd):spl (q8 (l1++r::l2)) (l1.length*3+2) [v]=q8 (l1++⟨r.nm,r.tv,r.ts,v,ms⟩::l2):=by
 show spl (flC rpC _) _ _=flC rpC _;rw [ic,ic,← gU,zB];rfl
theorem Iu {l1 l2:List Tg} {g:Tg} {v:Value} (hs:List Hd):spl (fN (l1++g::l2)) (l1.length*2+1) [v]=fN (l1++⟨g.nm,v,hs⟩::l2):=by
 show spl (flC tgC _) _ _=flC tgC _;rw [ic,ic,← zC,zB];rfl
abbrev opP (gd:Nat) (vv:Value) (g o c:Nat) (l1:List Rp) (r:Rp) (l2:List Rp) (F:List SP):List SP :=
 pt gd ir [vv,.slice (some ⟨g,o,none⟩) (l1++r::l2).length c]::row bm 3 (.slice (some ⟨g,o,none⟩) (l1++r::l2).length c) (l1++r::l2).length (q8 (l1++r::l2))::rTs r.tv r.ts::rHs r.mv r.ms::all (tgF r.ts)::all (rpF (l1++l2))::F
section
variable {b:World} {F:List SP} {gd g o c:Nat} {vv:Value} {l1 l2:List Rp} {r:Rp}
theorem qG:(rpF (l1++r::l2)).Perm ([all (rpP r)]++rpF (l1++l2)):=by
 rw [cF,rpF,cF];exact aqz
theorem Gn:Ent (dkP gd vv (some ⟨g,o,none⟩) c (l1++r::l2) F) (opP gd vv g o c l1 r l2 F) :=
 qr (qr ((xa qG).trans (k9 (G:=rpP r))))
theorem Gp:Ent (opP gd vv g o c l1 r l2 F) (dkP gd vv (some ⟨g,o,none⟩) c (l1++r::l2) F) :=
 qr (qr ((ee (G:=rpP r)).trans (qd qG)))
theorem Iv {k1 k2:List Tg} {y:Tg}:(tgF (k1++y::k2)).Perm ([rHs y.hv y.hs]++tgF (k1++k2)):=by
 rw [cE,tgF,cE];exact aqz
end

def apd (k gd:Nat) (vv:Value) (rs:List Rp) (rp s:ByteArray) (F:List SP) (u:Value) (F':List SP):Prop :=
 ∃ g o c' l1 r l2 gT oT cT k1 y k2,u = .pointer (some ⟨gT,oT+k1.length*2,none⟩)∧r.nm=rp∧r.tv = .slice (some ⟨gT,oT,none⟩) r.ts.length cT∧r.ts=k1++y::k2∧y.nm=s∧DK (k+2) (l1++r::l2)∧(∀ p,atP p ((l1++r::l2).map Rp.pl)=atP p (rs.map Rp.pl))∧F'=opP gd vv g o c' l1 r l2 F
theorem DK.up {k j:Nat} {rs:List Rp} (h:DK k rs) (hj:k≤j):DK j rs:=⟨h.w,h.r,by have:=h.n;omega,fun r hr=>⟨by have:=(h.b r hr).1;omega,by have:=(h.b r hr).2.1;omega,fun g hg=>by have:=(h.b r hr).2.2 g hg;omega⟩⟩
theorem DK.chg {k j:Nat} {l1 l2:List Rp} {r r':Rp} (h:DK k (l1++r::l2)) (hw:RSw ((l1++r'::l2).map Rp.pl)) (hr:RW r') (hj:k≤j) (hb:r'.ts.length≤j∧r'.ms.length≤j∧∀ g∈r'.ts,g.hs.length≤j):DK j (l1++r'::l2):=by
 have h0:=h.up hj;have key:∀ x∈l1++r'::l2,x=r'∨x∈l1++r::l2:=fun x hx=>by
  rcases ap6.1 hx with hx | hx
  ·exact .inr (aqu _ hx)
  ·rcases ap1.1 hx with rfl | hx
   ·exact .inl Z
   ·exact .inr (aq3 _ (aqj _ hx))
 refine ⟨hw,fun x hx=> ?_,by have:=h0.n;simp only [aps,ap3] at this ⊢;exact this,fun x hx=> ?_⟩
 ·rcases key x hx with rfl | hx
  ·exact hr
  ·exact h0.r x hx
 ·rcases key x hx with rfl | hx
  ·exact hb
  ·exact h0.b x hx
theorem mu (l1:List Rp) (r:Rp) (l2:List Rp):(l1++r::l2).map Rp.pl=l1.map Rp.pl++r.pl::l2.map Rp.pl:=by rw [aqa,aqt]
section
variable {b:World} {F:List SP} {gd:Nat} {vv:Value} {A:Option Addr} {c:Nat} {rs:List Rp} {rp s:ByteArray} {k:Nat}
theorem X3 (hk:DK k rs) (h9:k≤890) (hrp:rp.size≤1000) (hs:s.size≤1000):SC Tryz.prog jL [pp gd,.string rp,.string s] b (dkP gd vv A c rs F) (apd k gd vv rs rp s F):=by
 refine ao Tryz.func156 Z Z Z <| anf <| ae Z <| aby <| apn Z Z <| am Z Z Z (Gm hk (by omega) hrp) ?_;rintro _ _ ⟨g,o,c',l1,r,l2,rfl,hrn,hdk,hat,_,rfl⟩;refine eg Gn ?_;have hrm:r∈l1++r::l2:=by simp
 have hrw:=hdk.r r hrm;have hrb:=hdk.b r hrm;have hll:(l1++r::l2).length=l1.length+l2.length+1:=by simp;omega
 have hpt:r.pl.ts.Pairwise fun a b=>cbN a.nm b.nm<0:=(hdk.w.ok r.pl (ap8.2 ⟨r,hrm,rfl⟩)).ts
 have hpw:∀ (i j:Nat) (hi:i<r.ts.length) (hj:j<r.ts.length),i<j→cbN r.ts[i].nm r.ts[j].nm<0:=fun i j hi hj hij=>by
  have:=arg.1 hpt i j (by rw [Rp.pl,ap9];exact hi) (by rw [Rp.pl,ap9];exact hj) hij;unfold Rp.pl at this;rwa [aq7,aq7] at this
 have hcell:∀ {F':List SP} {q n:Nat} (v1:Value) (ts:List Tg),n=(l1++r::l2).length→nth F' q=some (row bm 3 (.slice (some ⟨g,o,none⟩) n c') n (q8 (l1++⟨r.nm,v1,ts,r.mv,r.ms⟩::l2)))→∀ w,Sat b F' w→w.cell? ⟨g,o+l1.length*3+1,none⟩=some v1:=fun v1 ts hn hq w H=>by
  have h1:=(H.oat hq).sl;subst hn;have hlen:(l1++r::l2).length=(l1++(⟨r.nm,v1,ts,r.mv,r.ms⟩:Rp)::l2).length:=by simp
  rw [hlen] at h1;have h2:=ej (f:=rpC) h1 (fun _ _=>rfl) (i:=l1.length) (by simp) (j:=1) (by omega);rw [h2];simp
 refine b6 (fun w H=>ci ((H.oat (k:=2) Z).sl)) ?_;rintro ⟨A3,c3,htv,_⟩;have hr0:(⟨r.nm,r.tv,r.ts,r.mv,r.ms⟩:Rp)=r:=rfl;refine ae Z <| aby <| apo Z Z Z <| fc Z (fun w H=>bx (v:=r.tv) Z Z Z (hcell (q:=1) r.tv r.ts Z Z w H)) Z <| ae Z ?_;refine am Z Z Z (al4 (D:=r.ts) (cm:=fun y=>cbN y.nm s) (f:=vy) (fun d _ B=>aaj) (fun _ _=>rfl) (fun w H=>(H.oat (k:=2) Z).sl) (by have:=hrw.tn;omega) (fun i j hi hj hij h=>xk (hpw i j hi hj hij) h)) ?_;rintro _ _ ⟨⟨k1,k2,hk12,h1,h2,rfl⟩,rfl⟩;have htn:=hrw.tn;by_cases hf:∃ a k2',k2=a::k2'∧cbN a.nm s=0
 ·obtain ⟨a,k2',rfl,ha⟩:=hf;rw [at0,ap5 ha];have hlt:k1.length<r.ts.length:=by rw [hk12];simp
  refine b6 (fun w H=>(H.oat (k:=2) Z).form) ?_;rintro ⟨A4,c4,hv4,hnc,_,q3⟩;obtain ⟨gT,oT,rfl⟩:=q3 (by omega)
  (iterate 5 refine ae Z ?_)
  refine ane <| ac <| anf <| apn Z Z <| ane <| ai Z <| ah <| ab <| anf <| apo Z Z Z <| fc Z (fun w H=>bx (v:=r.tv) Z Z Z (hcell (q:=1) r.tv r.ts Z Z w H)) Z <| bn 39 (.slice (some ⟨gT,oT,none⟩) r.ts.length c4) Z hv4 <| ae Z <| ay Z <| ae Z <| ane <| aj <| bh Z Z av ?_;exact ⟨g,o,c',l1,r,l2,gT,oT,c4,k1,a,k2',by rw [b5,apu];rfl,hrn,hv4,hk12,Oz ha,hdk.up (by omega),hat,rfl⟩
 have hmt:at0 (fun y:Tg=>cbN y.nm s) k2=false:=by
  cases k2 with
  | nil => rfl
  | cons a l2 => exact aqo fun h0 => hf ⟨a, l2, rfl, h0⟩
 rw [hmt];have hgt:∀ x∈k2,cbN s x.nm<0:=by
  cases k2 with
  | nil => intro x hx; cases hx
  | cons a k2 =>
   have ha:=Pn (h2 a aqe) fun h0=>hf ⟨a,k2,rfl,h0⟩
   intro x hx;rcases ap1.1 hx with rfl | hx
   ·exact ha
   ·have hp:=hpt;unfold Rp.pl at hp;rw [hk12] at hp;dsimp only at hp;rw [aqa,aqt] at hp;exact xk ha ((aq1.1 (arn.1 hp).2.1).1 x.pl (ap8.2 ⟨x,hx,rfl⟩))
 refine b6 (p:=∀ x∈r.ts,∀ u∈tgC x,u.oneCell'=true) (fun w H x hx=>zA (Gh (k:=4) Z hx w H)) fun hone=> ?_;have hnew:=Ua (A:=l1.map Rp.pl) (B:=l2.map Rp.pl) (r:=r.pl) (A2:=k1.map Tg.pl) (B2:=k2.map Tg.pl) (s:=s) (by rw [← mu];exact hdk.w) (by show r.ts.map Tg.pl=_;rw [hk12,aqa]) (fun x hx=>by
  obtain ⟨y,hy,rfl⟩:=ap8.1 hx;exact h1 y hy) (fun x hx=>by
  obtain ⟨y,hy,rfl⟩:=ap8.1 hx;exact hgt y hy)
 (iterate 5 refine ae Z ?_)
 refine ane <| ac <| anf <| apn Z Z <| ane <| ar Z <| aa <| apo Z Z Z <| ae Z <| fc Z (fun w H=>bx (v:=r.tv) Z Z Z (hcell (q:=1) r.tv r.ts Z Z w H)) Z ?_;refine bn 28 (.slice A3 (k1++k2).length c3) Z (by rw [htv,hk12]) ?_;refine apo Z Z Z <| li Z Z Z Z Z Z Z Z (by decide) fun gl=> ?_;refine am Z Z Z ((aae (l1:=k1) (l2:=k2) (x:=tg0 s) (gl:=gl) (A:=A3) (c:=c3) (F:=pt gd ir [vv,.slice (some ⟨g,o,none⟩) (l1++r::l2).length c']::row bm 3 (.slice (some ⟨g,o,none⟩) (l1++r::l2).length c') (l1++r::l2).length (q8 (l1++r::l2))::rHs r.mv r.ms::all (tgF r.ts)::all (rpF (l1++l2))::F) (fun _ _=>rfl) (fun _ _=>rfl) Z (fun d hd=>hone d (by rw [hk12];exact aq3 _ hd)) (fun u hu=>by
  simp only [tgC,tg0,ap1,arj,or_false] at hu;rcases hu with rfl | rfl <;> rfl) (by rw [← hk12];omega)).ent (by rw [← hk12,← htv];exact af 7 [3,0,1,2,4,5,6] Z)) ?_
 rintro v _ rfl;refine b6 (fun w H=>(H.oat (k:=0) Z).form) ?_;rintro ⟨A',cT,rfl,hnc,_,q3⟩;have hlt:k1.length<(k1++tg0 s::k2).length:=by simp
 obtain ⟨gT,oT,rfl⟩:=q3 (by omega);refine apn Z Z ?_;refine zt 2 (l1.length*3+1) Z Z Z Z Z Z Z Z (Ir (k1++tg0 s::k2)) Z (by rw [ar9]) (by rw [gU,hll];simp only [ap3,aro];omega) (fun u hu=>by rw [apy.1 hu];rfl) ?_;refine aby <| apo Z Z Z <| fc Z (fun w H=>bx (v:= .slice (some ⟨gT,oT,none⟩) (k1++tg0 s::k2).length cT) Z Z Z (hcell (q:=2) _ (k1++tg0 s::k2) Z Z w H)) Z <| ae Z <| ay Z <| ae Z <| ane <| aj ?_;have hll2:(l1++r::l2).length=(l1++(⟨r.nm,.slice (some ⟨gT,oT,none⟩) (k1++tg0 s::k2).length cT,k1++tg0 s::k2,r.mv,r.ms⟩:Rp)::l2).length:=by simp
 rw [hll2];refine bh Z Z (G:=opP gd vv g o c' l1 ⟨r.nm,.slice (some ⟨gT,oT,none⟩) (k1++tg0 s::k2).length cT,k1++tg0 s::k2,r.mv,r.ms⟩ l2 F) ?_ ?_
 ·rw [hk12];exact (af 6 [4,1,2,0,3,5] Z).trans ((Un (s:=s)).trans (af 6 [1,2,3,4,0,5] Z))
 ·have hmap:(l1++(⟨r.nm,.slice (some ⟨gT,oT,none⟩) (k1++tg0 s::k2).length cT,k1++tg0 s::k2,r.mv,r.ms⟩:Rp)::l2).map Rp.pl=l1.map Rp.pl++⟨r.pl.nm,k1.map Tg.pl++⟨s,[]⟩::k2.map Tg.pl,r.pl.ms⟩::l2.map Rp.pl:=by
   rw [mu];unfold Rp.pl;dsimp only;rw [aqa,aqt];rfl
  have hmem:∀ y∈k1++tg0 s::k2,y=tg0 s∨y∈r.ts:=fun y hy=>by
   rw [hk12];rcases ap6.1 hy with hy | hy
   ·exact .inr (aqu _ hy)
   ·rcases ap1.1 hy with rfl | hy
    ·exact .inl Z
    ·exact .inr (aq3 _ hy)
  have hkl:(k1++tg0 s::k2).length=r.ts.length+1:=by rw [hk12];simp;omega
  refine ⟨g,o,c',l1,⟨r.nm,.slice (some ⟨gT,oT,none⟩) (k1++tg0 s::k2).length cT,k1++tg0 s::k2,r.mv,r.ms⟩,l2,gT,oT,cT,k1,tg0 s,k2,by rw [b5,apu];rfl,hrn,rfl,rfl,rfl,hdk.chg (r':=⟨r.nm,.slice (some ⟨gT,oT,none⟩) (k1++tg0 s::k2).length cT,k1++tg0 s::k2,r.mv,r.ms⟩) (by rw [hmap];exact hnew.1) ⟨by dsimp only;omega,hrw.mn,fun y hy=> ?_,hrw.mh,fun y hy=> ?_,hrw.ns,fun y hy=> ?_⟩ (by omega) ⟨by dsimp only;omega,by dsimp only;omega,fun y hy=> ?_⟩,fun p=>by rw [hmap,hnew.2,← mu,hat],rfl⟩
  ·rcases hmem y hy with rfl | hy
   ·simp [tg0]
   ·exact hrw.gn y hy
  ·rcases hmem y hy with rfl | hy
   ·intro h hh;cases hh
   ·exact hrw.gh y hy
  ·rcases hmem y hy with rfl | hy
   ·exact hs
   ·exact hrw.gs y hy
  ·rcases hmem y hy with rfl | hy
   ·simp [tg0]
   ·have:=hrb.2.2 y hy;omega
end

theorem Po {e:Ev} (h:EW e):dJ (hdE e):=⟨h.dot,h.id⟩
theorem aam {e:Ev} (h:e.kind=1) (p:Pl) (l:List Hd):wj e p l=if p=⟨e.repo,none⟩ then q7 (hdE e) l else l:=by
 unfold wj;by_cases hp:p=⟨e.repo,none⟩
 ·rw [if_pos ⟨h,hp⟩,if_pos hp]
 ·rw [if_neg fun hc=>hp hc.2,if_neg (by omega),if_neg (by omega),if_neg (by omega),if_neg hp]
theorem aan {e:Ev} (h:e.kind=2) (p:Pl) (l:List Hd):wj e p l=if p=⟨e.repo,none⟩ then wi e l else l:=by
 unfold wj;by_cases hp:p=⟨e.repo,none⟩
 ·rw [if_neg (by omega),if_pos ⟨h,hp⟩,if_pos hp]
 ·rw [if_neg (by omega),if_neg fun hc=>hp hc.2,if_neg (by omega),if_neg (by omega),if_neg hp]
theorem Pp {e:Ev} (h:e.kind=3) (p:Pl) (l:List Hd):wj e p l=if p=⟨e.repo,some e.tag⟩ then q7 (hdE e) (wg e l) else l:=by
 unfold wj;by_cases hp:p=⟨e.repo,some e.tag⟩
 ·rw [if_neg (by omega),if_neg (by omega),if_pos ⟨h,hp⟩,if_pos hp]
 ·rw [if_neg (by omega),if_neg (by omega),if_neg fun hc=>hp hc.2,if_neg (by omega),if_neg hp]
theorem Pq {e:Ev} (h:e.kind=4) (p:Pl) (l:List Hd):wj e p l=if p=⟨e.repo,some e.tag⟩ then wg e l else l:=by
 unfold wj;by_cases hp:p=⟨e.repo,some e.tag⟩
 ·rw [if_neg (by omega),if_neg (by omega),if_neg (by omega),if_pos ⟨h,hp⟩,if_pos hp]
 ·rw [if_neg (by omega),if_neg (by omega),if_neg (by omega),if_neg fun hc=>hp hc.2,if_neg hp]
theorem Pr {A B:List RP} {r:RP} (h:RSw (A++r::B)):atP ⟨r.nm,none⟩ (A++r::B)=r.ms:=by
 rw [vg (bF (f:=RP.nm) h.rs).1,if_pos rfl];rfl
theorem X4 {A B:List RP} {r:RP} {A2 B2:List TG} {g:TG} (h:RSw (A++r::B)) (hr:r.ts=A2++g::B2):atP ⟨r.nm,some g.nm⟩ (A++r::B)=g.hs:=by
 rw [vg (bF (f:=RP.nm) h.rs).1,if_pos rfl];show nk g.nm r.ts=_;have hts:=(h.ok r (by simp)).ts;rw [hr] at hts ⊢;rw [bE (bF (f:=TG.nm) hts).1,if_pos rfl]
def C1 (k gd:Nat) (vv:Value) (rs:List Rp) (e:Ev) (F F':List SP):Prop :=
 ∃ g o c' rs',DK (k+3) rs'∧(∀ p,atP p (rs'.map Rp.pl)=wj e p (atP p (rs.map Rp.pl)))∧F'=dkP gd vv (some ⟨g,o,none⟩) c' rs' F
theorem uF (h:Hd):∀ l:List Hd,(q7 h l).length=l.length+1
 | [] => rfl
 | x :: l => by
  rw [q7];split
  ·rw [ap3,uF h l,ap3]
  ·rfl
section
variable {b:World} {F:List SP} {gd:Nat} {vv:Value} {A:Option Addr} {c:Nat} {rs:List Rp} {e:Ev} {k:Nat}
theorem zD {F':List SP} {q g o c n:Nat} {l1 l2:List Rp} {r:Rp} {j:Nat} (hq:nth F' q=some (row bm 3 (.slice (some ⟨g,o,none⟩) n c) n (q8 (l1++r::l2)))) (hn:n=(l1++r::l2).length) (hj:j<3):∀ w,Sat b F' w→w.cell? ⟨g,o+l1.length*3+j,none⟩=(rpC r)[j]?:=fun w H=>by
 have h1:=(H.oat hq).sl;subst hn;have h2:=ej (f:=rpC) h1 (fun _ _=>rfl) (i:=l1.length) (by simp) (j:=j) hj;rw [h2];simp
theorem Iw {F':List SP} {q g o c n:Nat} {l1 l2:List Tg} {r:Tg} {j:Nat} (hq:nth F' q=some (row dw 2 (.slice (some ⟨g,o,none⟩) n c) n (fN (l1++r::l2)))) (hn:n=(l1++r::l2).length) (hj:j<2):∀ w,Sat b F' w→w.cell? ⟨g,o+l1.length*2+j,none⟩=(tgC r)[j]?:=fun w H=>by
 have h1:=(H.oat hq).sl;subst hn;have h2:=ej (f:=tgC) h1 (fun _ _=>rfl) (i:=l1.length) (by simp) (j:=j) hj;rw [h2];simp
theorem aao (hk:DK k rs) (h9:k≤800) (hew:EW e) (hr:e.repo.size≤1000) (h1:e.kind=1) (hfr:∀ p,∀ x∈atP p (rs.map Rp.pl),x.d≠iL e):SC Tryz.prog gY [pp gd,evV e] b (dkP gd vv A c rs F) (fun _ F'=>C1 k gd vv rs e F F'):=by
 have h32:=hew.l32;have hho:=Po hew;have xl:=mq hho.id.1;refine ao Tryz.func69 Z Z Z <| anf <| br Z Z Z Z Z fun g3=>aby <| apn Z Z <| ba 0 Z Z Z <| am Z Z Z ((Gm (F:=pt g3 dk (evC e)::F) hk (by omega) hr).ent (af 4 [1,2,3,0] Z)) ?_
 rintro _ _ ⟨g,o,c',l1,r,l2,rfl,hrn,hdk,hat,_,rfl⟩;refine eg Gn ?_;have hrm:r∈l1++r::l2:=by simp
 have hrw:=hdk.r r hrm;have hrb:=hdk.b r hrm;have hll:(l1++r::l2).length=l1.length+l2.length+1:=by simp;omega
 have hdw:=hdk.w;rw [mu] at hdw;have hms:t8 r.ms:=(hdw.ok r.pl (by simp)).ms;have hfm:∀ x∈r.ms,x.d≠iL e:=fun x hx=>hfr ⟨r.nm,none⟩ x (by rw [← hat,mu];exact (Pr (r:=r.pl) hdw).symm▸hx)
 refine b6 (fun w H=>ci ((H.oat (k:=3) Z).sl)) ?_;rintro ⟨A5,c5,hmv,_⟩;refine ae Z <| ane <| ij flo 11 (row bm 3 (.slice (some ⟨g,o,none⟩) (l1++r::l2).length c') (l1++r::l2).length (q8 (l1++r::l2))::pt g3 dk (evC e)::F) [] Z (by decide +kernel) (af 7 [1,6] Z) <| bj Z Zl <| bj Z Zl <| bj Z Zl <| bj Z Zl <| j7 Z (fun w H=>bx (v:=r.mv) Z Z Z ((zD (q:=0) (j:=2) Z Z (by omega) w H).trans Z)) Z Z <| eu 13 (.slice A5 r.ms.length c5) Z hmv <| bj Z Zl <| cd 1 Z Z Z Z <| bj Z Zl <| fw 1 Z Z Z Z Z Z (Fz h32) Z Z ?_;refine mJ Z Z Z Z ⟨rfl,(by show (u8s e.id).length=32;rw [bz,h32]),trivial⟩ ?_;refine eu 18 (hdV (hdE e)) Z Z ?_;refine dh Z Z Z Z ((X2 (A:=A5) (c:=c5) (F:=pt gd ir [vv,.slice (some ⟨g,o,none⟩) (l1++r::l2).length c']::row bm 3 (.slice (some ⟨g,o,none⟩) (l1++r::l2).length c') (l1++r::l2).length (q8 (l1++r::l2))::rTs r.tv r.ts::all (tgF r.ts)::all (rpF (l1++l2))::pt g3 dk (evC e)::F) hrw.mh hho hms (by have:=hrw.mn;omega)).ent (by rw [← hmv];exact af 7 [3,0,1,2,4,5,6] Z)) ?_;rintro v _ rfl;refine ⟨af 7 [2,6] rfl,(ap <| ik Z (dc _) <| lh (fun w H=>(H.oat (k:=0) Z).form) ?_)⟩;rintro ⟨A',c6,rfl,_,_,_⟩;refine bj Z Zl <| bj Z Zl ?_;refine vp 2 (l1.length*3+2) Z Z Z Z Z Z Z Z Z (It (q7 (hdE e) r.ms)) Z (by rw [ar9]) (by rw [gU,hll];simp only [ap3,aro];omega) (fun u hu=>by rw [apy.1 hu];rfl) (dc _) ?_;refine ap ?_
 skip
 have hnew:=Xv (r:=r.pl) (m:=q7 (hdE e) r.ms) hdw (nM hms hfm);have hmap:(l1++(⟨r.nm,r.tv,r.ts,.slice A' (q7 (hdE e) r.ms).length c6,q7 (hdE e) r.ms⟩:Rp)::l2).map Rp.pl=l1.map Rp.pl++⟨r.pl.nm,r.pl.ts,q7 (hdE e) r.ms⟩::l2.map Rp.pl:=mu _ _ _;have hll2:(l1++r::l2).length=(l1++(⟨r.nm,r.tv,r.ts,.slice A' (q7 (hdE e) r.ms).length c6,q7 (hdE e) r.ms⟩:Rp)::l2).length:=by simp
 rw [hll2];have hil:=uF (hdE e) r.ms;have hmn:=hrw.mn;refine io Z .nil (G:=dkP gd vv (some ⟨g,o,none⟩) c' (l1++(⟨r.nm,r.tv,r.ts,.slice A' (q7 (hdE e) r.ms).length c6,q7 (hdE e) r.ms⟩:Rp)::l2) F) ((af 7 [1,2,3,0,4,5] Z).trans Gp) ?_;refine ⟨g,o,c',_,hdk.chg (r':=⟨r.nm,r.tv,r.ts,.slice A' (q7 (hdE e) r.ms).length c6,q7 (hdE e) r.ms⟩) (by rw [hmap];exact hnew.1) ⟨hrw.tn,by dsimp only;omega,hrw.gn,fun h hh=> ?_,hrw.gh,hrw.ns,hrw.gs⟩ (by omega) ⟨by dsimp only;omega,by dsimp only;omega,fun g hg=>by have:=hrb.2.2 g hg;omega⟩,fun p=> ?_,rfl⟩
 ·rcases bC.1 hh with rfl | hh
  ·exact hho
  ·exact hrw.mh h hh
 ·rw [hmap,hnew.2,aam h1,← hat,mu];show (if p=⟨r.nm,none⟩ then _ else _)=_;rw [hrn]
  split
  ·rename_i hp
   rw [hp,← hrn];exact ap2 (q7 (hdE e)) (Pr (r:=r.pl) hdw).symm
  ·rfl
theorem aap (hk:DK k rs) (h9:k≤800) (hew:EW e) (hr:e.repo.size≤1000) (h1:e.kind=2) (he:∀ w,Sat b F w→ER w e):SC Tryz.prog gZ [pp gd,evV e] b (dkP gd vv A c rs F) (fun _ F'=>C1 k gd vv rs e F F'):=by
 have h32:=hew.l32;have el:=qA h32;refine ao Tryz.func70 Z Z Z <| anf <| br Z Z Z Z Z fun g3=>aby <| apn Z Z <| ba 0 Z Z Z <| am Z Z Z ((Gm (F:=pt g3 dk (evC e)::F) hk (by omega) hr).ent (af 4 [1,2,3,0] Z)) ?_
 rintro _ _ ⟨g,o,c',l1,r,l2,rfl,hrn,hdk,hat,_,rfl⟩;refine eg Gn ?_;have hrm:r∈l1++r::l2:=by simp
 have hrw:=hdk.r r hrm;have hrb:=hdk.b r hrm;have hll:(l1++r::l2).length=l1.length+l2.length+1:=by simp;omega
 have hdw:=hdk.w;rw [mu] at hdw;have hms:t8 r.ms:=(hdw.ok r.pl (by simp)).ms;refine b6 (fun w H=>ci ((H.oat (k:=3) Z).sl)) ?_;rintro ⟨A5,c5,hmv,_⟩;refine ae Z <| ane <| ij flo 8 (row bm 3 (.slice (some ⟨g,o,none⟩) (l1++r::l2).length c') (l1++r::l2).length (q8 (l1++r::l2))::pt g3 dk (evC e)::F) [] Z (by decide +kernel) (af 7 [1,6] Z) <| bj Z Zl <| bj Z Zl <| bj Z Zl <| bj Z Zl <| j7 Z (fun w H=>bx (v:=r.mv) Z Z Z ((zD (q:=0) (j:=2) Z Z (by omega) w H).trans Z)) Z Z <| eu 13 (.slice A5 r.ms.length c5) Z hmv ?_;refine fw 1 Z Z Z Z Z Z (cp (by rw [el];rfl)) Z Z ?_;refine bj Z Zl ?_;refine dh Z Z Z Z ((Gl (A:=A5) (c:=c5) (q:=fun h=>decide (h.id=e.id)) (post:= [pp g3]) (fa:=tq) (F:=pt gd ir [vv,.slice (some ⟨g,o,none⟩) (l1++r::l2).length c']::row bm 3 (.slice (some ⟨g,o,none⟩) (l1++r::l2).length c') (l1++r::l2).length (q8 (l1++r::l2))::rTs r.tv r.ts::all (tgF r.ts)::all (rpF (l1++l2))::pt g3 dk (evC e)::F) hrw.mh (fun w H=>he w (H.ent (af 6 [] Z))) h32 (fun h hh B=>by
  have hp:∀ {X:List SP} {a1 a2 a3 a4 a5:SP},(B++a1::a2::a3::a4::a5::pt g3 dk (evC e)::X).Perm (pt g3 dk (evC e)::(B ++ [a1,a2,a3,a4,a5]++X)):=fun {X a1 a2 a3 a4 a5}=>by
   have:=aqz (a:=pt g3 dk (evC e)) (l₁:=B ++ [a1,a2,a3,a4,a5]) (l₂:=X);simpa using this
  refine ((Ul (hrw.mh h hh) h32).ent (kh hp)).out ?_;rintro u _ ⟨q1,rfl⟩;exact ⟨_,kh hp.symm,q1,rfl⟩) (by have:=hrw.mn;omega)).ent (by rw [← hmv];exact af 7 [3,0,1,2,4,5,6] Z)) ?_
 rintro _ _ ⟨rfl,rfl⟩;refine ⟨af 7 [2,6] rfl,?_⟩;have hfe:(r.ms.filter fun h=> !iY e (fun h=>decide (h.id=e.id)) h)=wi e r.ms:=rfl;rw [hfe];have hgl:(wi e r.ms).length≤r.ms.length:=ar5 _ _;refine ap <| ik Z (dc _) <| bj Z Zl <| bj Z Zl ?_;refine vp 2 (l1.length*3+2) Z Z Z Z Z Z Z Z Z (It (wi e r.ms)) Z (by rw [ar9]) (by rw [gU,hll];simp only [ap3,aro];omega) (fun u hu=>by rw [apy.1 hu];rfl) (dc _) ?_;refine ap ?_
 skip
 have hnew:=Xv (r:=r.pl) (m:=wi e r.ms) hdw (ary _ hms);have hmap:(l1++(⟨r.nm,r.tv,r.ts,.slice A5 (wi e r.ms).length c5,wi e r.ms⟩:Rp)::l2).map Rp.pl=l1.map Rp.pl++⟨r.pl.nm,r.pl.ts,wi e r.ms⟩::l2.map Rp.pl:=mu _ _ _;have hll2:(l1++r::l2).length=(l1++(⟨r.nm,r.tv,r.ts,.slice A5 (wi e r.ms).length c5,wi e r.ms⟩:Rp)::l2).length:=by simp
 rw [hll2];have hmn:=hrw.mn;refine io Z .nil (G:=dkP gd vv (some ⟨g,o,none⟩) c' (l1++(⟨r.nm,r.tv,r.ts,.slice A5 (wi e r.ms).length c5,wi e r.ms⟩:Rp)::l2) F) ((af 7 [1,2,3,0,4,5] Z).trans Gp) ?_;refine ⟨g,o,c',_,hdk.chg (r':=⟨r.nm,r.tv,r.ts,.slice A5 (wi e r.ms).length c5,wi e r.ms⟩) (by rw [hmap];exact hnew.1) ⟨hrw.tn,by dsimp only;omega,hrw.gn,fun h hh=>hrw.mh h (aqv.1 hh).1,hrw.gh,hrw.ns,hrw.gs⟩ (by omega) ⟨by dsimp only;omega,by dsimp only;omega,fun g hg=>by have:=hrb.2.2 g hg;omega⟩,fun p=> ?_,rfl⟩;rw [hmap,hnew.2,aan h1,← hat,mu];show (if p=⟨r.nm,none⟩ then _ else _)=_;rw [hrn]
 split
 ·rename_i hp
  rw [hp,← hrn];exact ap2 (wi e) (Pr (r:=r.pl) hdw).symm
 ·rfl
end

theorem C2 (e:Ev) (l:List Hd):(l.filter fun h=> !iY e (fun _=>true) h)=wg e l:=by
 unfold wg iY;simp
abbrev wgP (gd:Nat) (vv:Value) (g o c gT oT cT:Nat) (l1:List Rp) (r:Rp) (l2:List Rp) (k1:List Tg) (y:Tg) (k2:List Tg) (F:List SP):List SP :=
 pt gd ir [vv,.slice (some ⟨g,o,none⟩) (l1++r::l2).length c]::row bm 3 (.slice (some ⟨g,o,none⟩) (l1++r::l2).length c) (l1++r::l2).length (q8 (l1++r::l2))::row dw 2 (.slice (some ⟨gT,oT,none⟩) (k1++y::k2).length cT) (k1++y::k2).length (fN (k1++y::k2))::rHs y.hv y.hs::rHs r.mv r.ms::all (tgF (k1++k2))::all (rpF (l1++l2))::F
section
variable {b:World} {F:List SP} {gd g o gT oT cT c:Nat} {vv:Value} {l1 l2:List Rp} {r:Rp} {k1 k2:List Tg} {y:Tg}
theorem Ps (h1:r.tv = .slice (some ⟨gT,oT,none⟩) r.ts.length cT) (h2:r.ts=k1++y::k2):Ent (opP gd vv g o c l1 r l2 F) (wgP gd vv g o c gT oT cT l1 r l2 k1 y k2 F):=by
 unfold opP;rw [h1,h2];exact (af 6 [4,0,1,2,3,5] Z).trans ((xa Iv).trans (af 7 [2,3,4,0,5,1,6] Z))
theorem Pt {hs:List Hd} {v:Value} (h1:r.tv = .slice (some ⟨gT,oT,none⟩) (k1++y::k2).length cT):Ent (pt gd ir [vv,.slice (some ⟨g,o,none⟩) (l1++r::l2).length c]::row bm 3 (.slice (some ⟨g,o,none⟩) (l1++r::l2).length c) (l1++r::l2).length (q8 (l1++r::l2))::row dw 2 (.slice (some ⟨gT,oT,none⟩) (k1++y::k2).length cT) (k1++y::k2).length (fN (k1++⟨y.nm,v,hs⟩::k2))::rHs v hs::rHs r.mv r.ms::all (tgF (k1++k2))::all (rpF (l1++l2))::F)
  (dkP gd vv (some ⟨g,o,none⟩) c (l1++⟨r.nm,r.tv,k1++⟨y.nm,v,hs⟩::k2,r.mv,r.ms⟩::l2) F):=by
 refine Ent.trans ?_ Gp;unfold opP rTs;have e1:q8 (l1++⟨r.nm,r.tv,k1++⟨y.nm,v,hs⟩::k2,r.mv,r.ms⟩::l2)=q8 (l1++r::l2):=by
  show flC rpC _=flC rpC _;rw [ic,ic];rfl
 have e2:(l1++(⟨r.nm,r.tv,k1++⟨y.nm,v,hs⟩::k2,r.mv,r.ms⟩:Rp)::l2).length=(l1++r::l2).length:=by simp
 have e3:(k1++(⟨y.nm,v,hs⟩:Tg)::k2).length=(k1++y::k2).length:=by simp
 rw [e1,e2];dsimp only;rw [h1,e3];exact (af 7 [3,5,0,1,2,4,6] Z).trans ((qd (A:=tgF (k1++⟨y.nm,v,hs⟩::k2)) Iv).trans (af 6 [1,2,3,4,0,5] Z))
end
section
variable {b:World} {F:List SP} {gd:Nat} {vv:Value} {A:Option Addr} {c:Nat} {rs:List Rp} {e:Ev} {k:Nat}
theorem C3 {g o c':Nat} {l1 l2:List Rp} {r:Rp} {k1 k2:List Tg} {y:Tg} {v:Value} {hs:List Hd} (hdk:DK (k+2) (l1++r::l2)) (h9:k≤800) (hts:r.ts=k1++y::k2) (hrn:r.nm=e.repo) (hyn:y.nm=e.tag)
  (hat:∀ p,atP p ((l1++r::l2).map Rp.pl)=atP p (rs.map Rp.pl)) (hok:∀ h∈hs,dJ h) (hl:hs.length≤y.hs.length+1) (hr:t8 hs) (hu:∀ p l,p=⟨e.repo,some e.tag⟩→l=y.hs→wj e p l=hs) (hu2:∀ p l,p≠⟨e.repo,some e.tag⟩→wj e p l=l):C1 k gd vv rs e F (dkP gd vv (some ⟨g,o,none⟩) c' (l1++⟨r.nm,r.tv,k1++⟨y.nm,v,hs⟩::k2,r.mv,r.ms⟩::l2) F):=by
 have hrm:r∈l1++r::l2:=by simp
 have hrw:=hdk.r r hrm;have hrb:=hdk.b r hrm;have hym:y∈r.ts:=by rw [hts];simp
 have hyb:=hrb.2.2 y hym;have hdw:=hdk.w;rw [mu] at hdw;have hpts:r.pl.ts=k1.map Tg.pl++y.pl::k2.map Tg.pl:=by show r.ts.map Tg.pl=_;rw [hts,aqa,aqt]
 have hnew:=alx hdw hpts hr;have hmap:(l1++(⟨r.nm,r.tv,k1++⟨y.nm,v,hs⟩::k2,r.mv,r.ms⟩:Rp)::l2).map Rp.pl=l1.map Rp.pl++⟨r.pl.nm,k1.map Tg.pl++⟨y.pl.nm,hs⟩::k2.map Tg.pl,r.pl.ms⟩::l2.map Rp.pl:=by
  rw [mu];unfold Rp.pl;dsimp only;rw [aqa,aqt];rfl
 have hmem:∀ z∈k1++(⟨y.nm,v,hs⟩:Tg)::k2,z=⟨y.nm,v,hs⟩∨z∈r.ts:=fun z hz=>by
  rw [hts];rcases ap6.1 hz with hz | hz
  ·exact .inr (aqu _ hz)
  ·rcases ap1.1 hz with rfl | hz
   ·exact .inl Z
   ·exact .inr (aq3 _ (aqj _ hz))
 have hkl:(k1++(⟨y.nm,v,hs⟩:Tg)::k2).length=r.ts.length:=by rw [hts];simp
 have hb1:=hrb.1;have hb2:=hrb.2.1;refine ⟨g,o,c',_,hdk.chg (r':=⟨r.nm,r.tv,k1++⟨y.nm,v,hs⟩::k2,r.mv,r.ms⟩) (by rw [hmap];exact hnew.1) ⟨by dsimp only;omega,by dsimp only;omega,fun z hz=> ?_,hrw.mh,fun z hz=> ?_,hrw.ns,fun z hz=> ?_⟩ (by omega) ⟨by dsimp only;omega,by dsimp only;omega,fun z hz=> ?_⟩,fun p=> ?_,rfl⟩
 ·rcases hmem z hz with rfl | hz
  ·dsimp only;omega
  ·exact hrw.gn z hz
 ·rcases hmem z hz with rfl | hz
  ·exact hok
  ·exact hrw.gh z hz
 ·rcases hmem z hz with rfl | hz
  ·exact hrw.gs y hym
  ·exact hrw.gs z hz
 ·rcases hmem z hz with rfl | hz
  ·dsimp only;omega
  ·have:=hrb.2.2 z hz;omega
 ·rw [hmap,hnew.2,← hat,mu];show (if p=⟨r.nm,some y.nm⟩ then _ else _)=_;rw [hrn,hyn]
  split
  ·rename_i hp
   refine (hu p _ hp ?_).symm;rw [hp,← hrn,← hyn];exact X4 (r:=r.pl) (g:=y.pl) hdw hpts
  ·rename_i hp
   exact (hu2 p _ hp).symm
theorem Uo (hk:DK k rs) (h9:k≤800) (hew:EW e) (hr:e.repo.size≤1000) (ht:e.tag.size≤1000) (h1:e.kind=3) (he:∀ w,Sat b F w→ER w e) (hfr:∀ p,∀ x∈atP p (rs.map Rp.pl),x.d≠iL e):SC Tryz.prog eB [pp gd,evV e] b (dkP gd vv A c rs F) (fun _ F'=>C1 k gd vv rs e F F'):=by
 have h32:=hew.l32;have el:=qA h32;have hho:=Po hew;have xl:=mq hho.id.1;refine ao Tryz.func71 Z Z Z <| anf <| br Z Z Z Z Z fun g3=>aby <| apn Z Z <| ba 0 Z Z Z <| ae Z <| ba 0 Z Z Z <| am Z Z Z ((X3 (F:=pt g3 dk (evC e)::F) hk (by omega) hr ht).ent (af 4 [1,2,3,0] Z)) ?_
 rintro _ _ ⟨g,o,c',l1,r,l2,gT,oT,cT,k1,y,k2,rfl,hrn,htv,hts,hyn,hdk,hat,rfl⟩;refine eg (Ps htv hts) ?_;have hrw:=hdk.r r (by simp);have hym:y∈r.ts:=by rw [hts];simp
 have hyn9:=hrw.gn y hym;have hyh:=hrw.gh y hym;have hdw:=hdk.w;rw [mu] at hdw;have hyr:t8 y.hs:=(hdw.ok r.pl (by simp)).th y.pl (ap8.2 ⟨y,hym,rfl⟩);have hfy:∀ x∈y.hs,x.d≠iL e:=fun x hx=>hfr ⟨r.nm,some y.nm⟩ x (by
  rw [← hat,mu];exact (X4 (r:=r.pl) (g:=y.pl) (A2:=k1.map Tg.pl) (B2:=k2.map Tg.pl) hdw (by show r.ts.map Tg.pl=_;rw [hts,aqa,aqt])).symm▸hx)
 have htl:(k1++y::k2).length=k1.length+k2.length+1:=by simp;omega
 refine b6 (fun w H=>ci ((H.oat (k:=3) Z).sl)) ?_;rintro ⟨A5,c5,hyv,_⟩;refine ae Z <| ane <| ij flo 13 (row dw 2 (.slice (some ⟨gT,oT,none⟩) (k1++y::k2).length cT) (k1++y::k2).length (fN (k1++y::k2))::pt g3 dk (evC e)::F) [] Z (by decide +kernel) (af 8 [2,7] Z) <| bj Z Zl <| bj Z Zl <| bj Z Zl <| bj Z Zl <| j7 Z (fun w H=>bx (v:=y.hv) Z Z Z ((Iw (q:=0) (j:=1) Z Z (by omega) w H).trans Z)) Z Z <| eu 15 (.slice A5 y.hs.length c5) Z hyv ?_;refine fw 1 Z Z Z Z Z Z (cp (by rw [el];rfl)) Z Z ?_;refine dh Z Z Z Z ((Gl (A:=A5) (c:=c5) (q:=fun _=>true) (post:= []) (fa:=bV) (F:=pt gd ir [vv,.slice (some ⟨g,o,none⟩) (l1++r::l2).length c']::row bm 3 (.slice (some ⟨g,o,none⟩) (l1++r::l2).length c') (l1++r::l2).length (q8 (l1++r::l2))::row dw 2 (.slice (some ⟨gT,oT,none⟩) (k1++y::k2).length cT) (k1++y::k2).length (fN (k1++y::k2))::rHs r.mv r.ms::all (tgF (k1++k2))::all (rpF (l1++l2))::pt g3 dk (evC e)::F) hyh (fun w H=>he w (H.ent (af 7 [] Z))) h32 (fun h hh B=>Pi (hyh h hh).id.1) (by omega)).ent (by rw [← hyv];exact af 8 [3,0,1,2,4,5,6,7] Z)) ?_;rintro _ _ ⟨rfl,rfl⟩;refine ⟨af 8 [3,7] rfl,?_⟩;rw [C2];have hsl:(wg e y.hs).length≤y.hs.length:=ar5 _ _;refine bj Z Zl <| cd 1 Z Z Z Z <| bj Z Zl <| fw 1 Z Z Z Z Z Z (Fz h32) Z Z ?_;refine mJ Z Z Z Z ⟨rfl,(by show (u8s e.id).length=32;rw [bz,h32]),trivial⟩ ?_;refine eu 22 (hdV (hdE e)) Z Z <| dh Z Z Z Z (X2 (fun h hh=>hyh h (aqv.1 hh).1) hho (ary _ hyr) (by omega)) ?_;rintro v _ rfl;refine ⟨af 8 [3,7] rfl,(ap <| ik Z (dc _) <| lh (fun w H=>(H.oat (k:=0) Z).form) ?_)⟩;rintro ⟨A',c6,rfl,_,_,_⟩;refine bj Z Zl <| bj Z Zl ?_;refine vp 3 (k1.length*2+1) Z Z Z Z Z Z Z Z Z (Iu (q7 (hdE e) (wg e y.hs))) Z (by rw [ar9]) (by rw [zC,htl];simp only [ap3,aro];omega) (fun u hu=>by rw [apy.1 hu];rfl) (dc _) ?_;refine ap ?_
 skip
 have hil:=uF (hdE e) (wg e y.hs);refine io Z .nil (G:=dkP gd vv (some ⟨g,o,none⟩) c' (l1++⟨r.nm,r.tv,k1++⟨y.nm,.slice A' (q7 (hdE e) (wg e y.hs)).length c6,q7 (hdE e) (wg e y.hs)⟩::k2,r.mv,r.ms⟩::l2) F) ((af 8 [1,2,3,0,4,5,6] Z).trans (Pt (by rw [htv,hts]))) ?_;refine C3 hdk h9 hts hrn hyn hat (fun h hh=> ?_) (by omega) (nM (ary _ hyr) fun x hx=>hfy x (aqv.1 hx).1) (fun p l hp hl=>by rw [Pp h1,if_pos hp,hl]) (fun p l hp=>by rw [Pp h1,if_neg hp]);rcases bC.1 hh with rfl | hh
 ·exact hho
 ·exact hyh h (aqv.1 hh).1
theorem Up (hk:DK k rs) (h9:k≤800) (hew:EW e) (hr:e.repo.size≤1000) (ht:e.tag.size≤1000) (h1:e.kind=4) (he:∀ w,Sat b F w→ER w e):SC Tryz.prog eC [pp gd,evV e] b (dkP gd vv A c rs F) (fun _ F'=>C1 k gd vv rs e F F'):=by
 have h32:=hew.l32;have el:=qA h32;refine ao Tryz.func72 Z Z Z <| anf <| br Z Z Z Z Z fun g3=>aby <| apn Z Z <| ba 0 Z Z Z <| ae Z <| ba 0 Z Z Z <| am Z Z Z ((X3 (F:=pt g3 dk (evC e)::F) hk (by omega) hr ht).ent (af 4 [1,2,3,0] Z)) ?_
 rintro _ _ ⟨g,o,c',l1,r,l2,gT,oT,cT,k1,y,k2,rfl,hrn,htv,hts,hyn,hdk,hat,rfl⟩;refine eg (Ps htv hts) ?_;have hrw:=hdk.r r (by simp);have hym:y∈r.ts:=by rw [hts];simp
 have hyn9:=hrw.gn y hym;have hyh:=hrw.gh y hym;have hdw:=hdk.w;rw [mu] at hdw;have hyr:t8 y.hs:=(hdw.ok r.pl (by simp)).th y.pl (ap8.2 ⟨y,hym,rfl⟩);have htl:(k1++y::k2).length=k1.length+k2.length+1:=by simp;omega
 refine b6 (fun w H=>ci ((H.oat (k:=3) Z).sl)) ?_;rintro ⟨A5,c5,hyv,_⟩;refine ae Z <| ane <| ij flo 7 (row dw 2 (.slice (some ⟨gT,oT,none⟩) (k1++y::k2).length cT) (k1++y::k2).length (fN (k1++y::k2))::pt g3 dk (evC e)::F) [] Z (by decide +kernel) (af 8 [2,7] Z) <| bj Z Zl <| bj Z Zl <| bj Z Zl <| bj Z Zl <| j7 Z (fun w H=>bx (v:=y.hv) Z Z Z ((Iw (q:=0) (j:=1) Z Z (by omega) w H).trans Z)) Z Z <| eu 15 (.slice A5 y.hs.length c5) Z hyv ?_;refine fw 1 Z Z Z Z Z Z (cp (by rw [el];rfl)) Z Z ?_;refine dh Z Z Z Z ((Gl (A:=A5) (c:=c5) (q:=fun _=>true) (post:= []) (fa:=bV) (F:=pt gd ir [vv,.slice (some ⟨g,o,none⟩) (l1++r::l2).length c']::row bm 3 (.slice (some ⟨g,o,none⟩) (l1++r::l2).length c') (l1++r::l2).length (q8 (l1++r::l2))::row dw 2 (.slice (some ⟨gT,oT,none⟩) (k1++y::k2).length cT) (k1++y::k2).length (fN (k1++y::k2))::rHs r.mv r.ms::all (tgF (k1++k2))::all (rpF (l1++l2))::pt g3 dk (evC e)::F) hyh (fun w H=>he w (H.ent (af 7 [] Z))) h32 (fun h hh B=>Pi (hyh h hh).id.1) (by omega)).ent (by rw [← hyv];exact af 8 [3,0,1,2,4,5,6,7] Z)) ?_;rintro _ _ ⟨rfl,rfl⟩;refine ⟨af 8 [3,7] rfl,?_⟩;rw [C2];have hsl:(wg e y.hs).length≤y.hs.length:=ar5 _ _;refine ap <| ik Z (dc _) <| bj Z Zl <| bj Z Zl ?_;refine vp 3 (k1.length*2+1) Z Z Z Z Z Z Z Z Z (Iu (wg e y.hs)) Z (by rw [ar9]) (by rw [zC,htl];simp only [ap3,aro];omega) (fun u hu=>by rw [apy.1 hu];rfl) (dc _) ?_;refine ap ?_
 skip
 refine io Z .nil (G:=dkP gd vv (some ⟨g,o,none⟩) c' (l1++⟨r.nm,r.tv,k1++⟨y.nm,.slice A5 (wg e y.hs).length c5,wg e y.hs⟩::k2,r.mv,r.ms⟩::l2) F) ((af 8 [1,2,3,0,4,5,6] Z).trans (Pt (by rw [htv,hts]))) ?_;exact C3 hdk h9 hts hrn hyn hat (fun h hh=>hyh h (aqv.1 hh).1) (by omega) (ary _ hyr) (fun p l hp hl=>by rw [Pq h1,if_pos hp,hl]) (fun p l hp=>by rw [Pq h1,if_neg hp])
end

theorem Uq (p:Tg→Bool) (l:List Tg):∃ B,(tgF l).Perm (B++tgF (l.filter p)):=by
 induction l with
 | nil => exact ⟨[], .refl _⟩
 | cons g l ih =>
  obtain ⟨B,hB⟩:=ih;rw [ard]
  split
  ·exact ⟨B,(hB.cons (rHs g.hv g.hs)).trans aqz.symm⟩
  ·exact ⟨rHs g.hv g.hs::B,hB.cons _⟩
theorem Ur (p:Rp→Bool) (l:List Rp):∃ B,(rpF l).Perm (B++rpF (l.filter p)):=by
 induction l with
 | nil => exact ⟨[], .refl _⟩
 | cons g l ih =>
  obtain ⟨B,hB⟩:=ih;rw [ard]
  split
  ·exact ⟨B,(hB.cons (all (rpP g))).trans aqz.symm⟩
  ·exact ⟨all (rpP g)::B,hB.cons _⟩
theorem C4 (p:Tg→Bool) {l:List Tg} {F:List SP}:Ent (all (tgF l)::F) (all (tgF (l.filter p))::F):=by
 obtain ⟨B,hB⟩:=Uq p l;exact (xa hB).trans (kK B)
theorem C5 (p:Rp→Bool) {l:List Rp} {F:List SP}:Ent (all (rpF l)::F) (all (rpF (l.filter p))::F):=by
 obtain ⟨B,hB⟩:=Ur p l;exact (xa hB).trans (kK B)
def tTs (l:List Tg):List Tg:=l.filter fun g=> !decide (g.hs.length=0)
def rq (r:Rp):ByteArray × List Tg × Value × List Hd:=(r.nm,r.ts,r.mv,r.ms)
def rqt (r:Rp):ByteArray × List Tg × Value × List Hd:=(r.nm,tTs r.ts,r.mv,r.ms)
def tRs (l:List Rp):List Rp:=l.filter fun r=> !decide (r.ts.length+r.ms.length=0)
theorem aaq (l:List Tg):(tTs l).map Tg.pl=fM (l.map Tg.pl):=by
 unfold tTs fM;rw [List.filter_map];rfl
theorem aar {rs rs1:List Rp} (h:rs1.map rq=rs.map rqt):(tRs rs1).map Rp.pl=tO (rs.map Rp.pl):=by
 have h1:rs1.map Rp.pl=(rs.map Rp.pl).map fun r=>(⟨r.nm,fM r.ts,r.ms⟩:RP):=by
  have:=ap2 (List.map fun q:ByteArray × List Tg × Value × List Hd=>(⟨q.1,q.2.1.map Tg.pl,q.2.2.2⟩:RP)) h;rw [att,att] at this;rw [att];refine Eq.trans this <| List.map_congr_left fun r _=> ?_;show (⟨r.nm,(tTs r.ts).map Tg.pl,r.ms⟩:RP)=_;rw [aaq];rfl
 unfold tO;rw [← h1,List.filter_map];unfold tRs;congr 1;refine asn fun r _=> ?_;show (!decide (r.ts.length+r.ms.length=0)) = !decide ((r.ts.map Tg.pl).length+r.ms.length=0);rw [ap9]
theorem aas {rs rs1:List Rp} (h:rs1.map rq=rs.map rqt) {r:Rp} (hr:r∈rs1):∃ x∈rs,rq r=rqt x:=by
 have:rq r∈rs.map rqt:=by rw [← h];exact ap8.2 ⟨r,hr,rfl⟩
 obtain ⟨x,hx,h1⟩:=ap8.1 this;exact ⟨x,hx,h1.symm⟩
theorem amn {r x:Rp} (h:rq r=rqt x) (hx:RW x):RW r:=by
 have e1:r.nm=x.nm:=ap2 (·.1) h;have e2:r.ts=tTs x.ts:=ap2 (·.2.1) h;have e3:r.ms=x.ms:=ap2 (·.2.2.2) h;have hl:(tTs x.ts).length≤x.ts.length:=ar5 _ _;have hm:∀ g∈r.ts,g∈x.ts:=fun g hg=>by rw [e2] at hg;exact (aqv.1 hg).1
 exact ⟨by rw [e2];have:=hx.tn;omega,by rw [e3];exact hx.mn,fun g hg=>hx.gn g (hm g hg),fun h hh=>hx.mh h (by rw [← e3];exact hh),fun g hg=>hx.gh g (hm g hg),by rw [e1];exact hx.ns,fun g hg=>hx.gs g (hm g hg)⟩
section
variable {b:World} {F:List SP} {gd g o:Nat} {vv:Value} {c:Nat} {rs:List Rp} {k:Nat}
theorem aat (hk:DK k rs) (h9:k≤1000):SC Tryz.prog hZ [pp gd] b (dkP gd vv (some ⟨g,o,none⟩) c rs F) (fun _ F'=>∃ c' rs',rs'.map Rp.pl=tO (rs.map Rp.pl)∧(∀ r∈rs',RW r)∧rs'.length≤k∧F'=dkP gd vv (some ⟨g,o,none⟩) c' rs' F):=by
 have hkn:=hk.n;refine ao Tryz.func73 Z Z Z <| ac <| anf <| apo Z Z Z <| ae Z <| ba 0 Z Z Z <| apn Z Z <| ane <| ak <| d6 (S:=Nat × List Rp) (fun s=> [(0,pp gd),(9,ii rs.length),(10,ii s.1)]) (fun s=>pt gd ir [vv,.slice (some ⟨g,o,none⟩) rs.length c]::row bm 3 (.slice (some ⟨g,o,none⟩) rs.length c) rs.length (q8 (s.2++rs.drop s.1))::all (rpF (s.2++rs.drop s.1))::F) (fun s=>s.1≤rs.length∧s.2.map rq=(rs.take s.1).map rqt) (fun s=>rs.length - s.1) (0,[]) av ⟨aqc _,rfl⟩ ?_;rintro ⟨i,r1⟩ ⟨hi,hq⟩;dsimp only at hi hq ⊢;have hl1:r1.length=i:=by have:=ap2 List.length hq;rw [ap9,ap9,ap7] at this;omega
 refine anf <| ae Z <| ane <| ac ?_;refine cj Z (fun h1=> ?_) (fun h1=> ?_)
 ·have h1':i<rs.length:=by omega
  have hrm:=apw h1';have hdr:rs.drop i=rs[i]::rs.drop (i+1):=aqq h1';have hsn:rs.take (i+1)=rs.take i ++ [rs[i]]:=apz h1';have hrw:=hk.r _ hrm;have hll:(r1++rs.drop i).length=rs.length:=by rw [aps,aqw];omega
  rw [hdr] at hll ⊢;generalize rs[i]=r at *;generalize hr2:rs.drop (i+1)=r2 at *;have hll':r1.length+(r2.length+1)=rs.length:=by rw [← hll,aps,ap3]
  refine ah <| ab <| ac <| ak <| anf <| apn Z Z <| aby <| apo Z Z Z <| ae Z <| ba 0 Z Z Z <| ae Z <| ay Z <| ae Z <| ane <| aa <| apo Z Z Z <| ae Z <| eg ((af 3 [2,0,1] Z).trans ((xa qG).trans (k9 (G:=rpP r)))) <| b6 (fun w H=>ci ((H.oat (k:=0) Z).sl)) ?_;rintro ⟨A3,c3,htv,_⟩;refine b6 (p:=∀ y∈r.ts,∃ A c,y.hv = .slice A y.hs.length c) (fun w H y hy=>by
   obtain ⟨A9,c9,h9,_⟩:=ci (Gh (k:=2) Z hy w H);exact ⟨A9,c9,h9⟩) fun htg=> ?_
  have hadr:o+lX (i:Int).toNat 3+1=o+r1.length*3+1:=by rw [b5,apu,hl1]
  refine fc Z (fun w H=>bx (v:=r.tv) Z Z Z (by rw [hadr];exact ((zD (q:=5) (j:=1) Z hll.symm (by omega) w H).trans Z))) Z ?_;refine bn 24 (.slice A3 r.ts.length c3) Z htv ?_;refine am Z Z Z ((alz (F:=rHs r.mv r.ms::all (tgF r.ts)::all (rpF (r1++r2))::pt gd ir [vv,.slice (some ⟨g,o,none⟩) rs.length c]::row bm 3 (.slice (some ⟨g,o,none⟩) rs.length c) rs.length (q8 (r1++r::r2))::F) (D:=r.ts) (A:=A3) (c:=c3) (p:=fun y=>decide (y.hs.length=0)) (f:=tu) (pre:= []) (post:= []) (fun y hy B=>by
   obtain ⟨A9,c9,h9⟩:=htg y hy;exact Uh h9) (fun _ _=>rfl) (fun y hy u hu=>by
   obtain ⟨A9,c9,h9⟩:=htg y hy;simp only [tgC,ap1,arj,or_false] at hu;rcases hu with rfl | rfl
   ·rfl
   ·rw [h9];rfl) (by have:=hrw.tn;omega)).ent (by rw [← htv];exact af 6 [0,1,2,3,4,5] Z)) ?_
  rintro _ _ ⟨rfl,rfl⟩;have hfe:(r.ts.filter fun y=> !decide (y.hs.length=0))=tTs r.ts:=rfl;rw [hfe];refine apn Z Z ?_;refine zt 5 (r1.length*3+1) Z Z Z Z Z Z Z Z (Ir (tTs r.ts)) Z (by rw [hadr,ar9]) (by rw [gU,hll];simp only [ap3,aro];omega) (fun u hu=>by rw [apy.1 hu];rfl) ?_;refine ad <| bg <| ab <| aa <| ay Z <| ae Z <| ad ?_;rw [show (i:Int)+1=((i+1:Nat):Int) by omega];refine dj (i+1,r1 ++ [⟨r.nm,.slice A3 (tTs r.ts).length c3,tTs r.ts,r.mv,r.ms⟩]) ?_ ⟨h1',by dsimp only;rw [hsn,aqa,aqa,hq];rfl⟩;dsimp only;rw [hr2,ap0];exact (af 4 [2,0,1,3] Z).trans ((C4 _).trans ((af 3 [1,2,0] Z).trans ((ee (G:=rpP ⟨r.nm,.slice A3 (tTs r.ts).length c3,tTs r.ts,r.mv,r.ms⟩)).trans ((qd qG).trans (af 3 [1,2,0] Z)))))
 ·obtain rfl:i=rs.length:=by omega
  rw [aqk] at hq;rw [List.drop_length,aqg,← hl1];have hrw:∀ r∈r1,RW r:=fun r hr=>by
   obtain ⟨x,hx,h2⟩:=aas hq hr;exact amn h2 (hk.r x hx)
  refine b8 <| aw <| ax <| aq <| ab <| aa ?_
  (iterate 5 refine ae Z ?_)
  refine ba 0 Z Z Z ?_;refine b6 (p:=∀ r∈r1,(∃ A c,r.tv = .slice A r.ts.length c)∧∃ A c,r.mv = .slice A r.ms.length c) (fun w H r hr=>by
   have h2:=Gi (k:=2) Z hr w H;obtain ⟨A9,c9,h9,_⟩:=ci h2.t;obtain ⟨A8,c8,h8,_⟩:=ci h2.m;exact ⟨⟨A9,c9,h9⟩,A8,c8,h8⟩) fun hfm=> ?_
  refine am Z Z Z ((al1 (F:=pt gd ir [vv,.slice (some ⟨g,o,none⟩) r1.length c]::all (rpF r1)::F) (D:=r1) (A:=some ⟨g,o,none⟩) (c:=c) (p:=fun r=>decide (r.ts.length+r.ms.length=0)) (f:=tw) (pre:= []) (post:= []) (fun r hr B=>by
   obtain ⟨⟨A9,c9,h9⟩,A8,c8,h8⟩:=hfm r hr;exact Ui h9 h8 (by have:=(hrw r hr).tn;omega) (by have:=(hrw r hr).mn;omega)) (fun _ _=>rfl) (fun r hr u hu=>by
   obtain ⟨⟨A9,c9,h9⟩,A8,c8,h8⟩:=hfm r hr;simp only [rpC,ap1,arj,or_false] at hu;rcases hu with rfl | rfl | rfl
   ·rfl
   ·rw [h9];rfl
   ·rw [h8];rfl) (by omega)).ent (af 3 [1,0,2] Z)) ?_
  rintro _ _ ⟨rfl,rfl⟩;have hfe:(r1.filter fun r=> !decide (r.ts.length+r.ms.length=0))=tRs r1:=rfl;rw [hfe];refine apo Z Z Z <| cg 1 Z Z Z Z <| ad <| io Z .nil ((af 3 [1,0,2] Z).trans (show Ent (_::_::all (rpF r1)::F) (_::_::all (rpF (tRs r1))::F) from qr (qr (C5 _)))) <| ⟨c,tRs r1,aar hq,fun r hr=>hrw r (aqv.1 hr).1,?_,rfl⟩;have:(tRs r1).length≤r1.length:=ar5 _ _;omega
end

theorem Pv {l:List Tg} {g:Tg}:(tgF (l ++ [g])).Perm ([rHs g.hv g.hs]++tgF l):=by
 rw [cE];exact ase
theorem Pw {l:List Rp} {r:Rp}:(rpF (l ++ [r])).Perm ([all (rpP r)]++rpF l):=by
 rw [cF];exact ase
section
variable {b:World} {F:List SP} {t:Tb}
theorem aau (hW:TW t) (hT:∀ w,Sat b F w→TR w t):SC Tryz.prog Bj [tbV t] b F (fun u F'=>∃ vv A c rs',u = .agg ⟨[vv,.slice A rs'.length c]⟩∧rs'.map Rp.pl=t.rs.map Rp.pl∧(∀ r∈rs',RW r)∧F'=rZ vv t.V::row bm 3 (.slice A rs'.length c) rs'.length (q8 rs')::all (rpF rs')::F):=by
 have hrn:=hW.rn;have hvn:=hW.vn;refine ao Tryz.func68 Z Z Z <| bu (fun w H=>ci (hT w H).r) ?_;rintro ⟨A,c,hrv,_,_,_,h4,_⟩;refine anf <| br Z Z Z Z Z fun g1=>bq Z Z Z Z Z fun g2=>aby <| ae Z <| ba 1 Z Z Z <| am Z Z Z (Fx (up (fun w H=>(hT w H).v) (af 2 [] Z)) (by omega)) ?_
 rintro vv _ rfl;refine b6 (fun w H=>(H.oat (k:=0) Z).form) ?_;rintro ⟨Av,cv,rfl,_,_,_⟩;refine ae Z <| bq Z Z Z Z Z fun g3=>cg 0 Z Z Z Z <| ane <| ac <| anf <| ae Z <| ba 3 Z Z Z <| bn 14 (.slice A t.rs.length c) Z hrv <| apn Z Z <| ane <| ak ?_
 refine d6 (S:=Nat × List Rp × Option Addr × Nat) (fun s=> [(1,pp g1),(2,pp g2),(3,pp g3),(14,.slice A t.rs.length c),(15,ii t.rs.length),(16,ii s.1)])
  (fun s=>pt g3 bt [.slice Av t.V.length cv,.slice s.2.2.1 s.2.1.length s.2.2.2]::row bm 3 (.slice s.2.2.1 s.2.1.length s.2.2.2) s.2.1.length (q8 s.2.1)::all (rpF s.2.1)::rZ (.slice Av t.V.length cv) t.V::pt g2 bt [.slice none 0 0,.slice none 0 0]::pt g1 bt (tbC t)::F)
  (fun s=>s.1≤t.rs.length∧s.2.1.map Rp.pl=(t.rs.take s.1).map Rp.pl∧∀ r∈s.2.1,RW r) (fun s=>t.rs.length - s.1) (0,[],none,0) ?_ ⟨aqc _,rfl,fun r hr=>(by cases hr)⟩ ?_
 ·exact ((ee (G:= [])).trans (de bm 3 Z)).trans (af 6 [2,0,1,3,4,5] Z)
 rintro ⟨i,r1,A1,c1⟩ ⟨hi,hpl,hrw1⟩;dsimp only at hi hpl hrw1 ⊢;have hl1:r1.length=i:=by have:=ap2 List.length hpl;rw [ap9,ap9,ap7] at this;omega
 refine anf <| ae Z <| ane <| ac ?_;refine cj Z (fun h1=> ?_) (fun h1=> ?_);rotate_left
 ·obtain rfl:i=t.rs.length:=by omega
  rw [aqk] at hpl;refine b8 <| aw <| ax <| aq <| ab <| anf <| ba 0 Z Z Z <| cg 4 Z Z Z Z <| ane <| aj <| ez Z (.agg 4 Z Z Z Z Z .nil) (af 6 [3,1,2] Z) ?_;exact ⟨_,A1,c1,r1,rfl,hpl,hrw1,rfl⟩
 have h1':i<t.rs.length:=by omega
 obtain ⟨gg,oo,rfl⟩:=h4 (by omega);have hrm:=apw h1';have hcr:∀ w,Sat b F w→∀ j,j<3→w.cell? ⟨gg,oo+i*3+j,none⟩=(rpC t.rs[i])[j]?:=fun w H j hj=>ej (f:=rpC) (by have:=(hT w H).r;rwa [hrv] at this) (fun _ _=>rfl) h1' hj
 have hrr:∀ w,Sat b F w→RR w t.rs[i]:=fun w H=>(hT w H).rr _ hrm
 have hrw:=hW.rw _ hrm;have hsn:t.rs.take (i+1)=t.rs.take i ++ [t.rs[i]]:=apz h1';generalize t.rs[i]=r at *;have htn:=hrw.tn;have hmn:=hrw.mn;refine ah <| ab <| ac <| ak <| anf <| ay Z ?_;refine fc Z (fun w H=>di (cs:=rpC r) Z Z Z Z (fun j hj=>by rw [b5,apu];exact hcr w (H.ent (af 6 [] Z)) j hj)) Z ?_;refine b6 (fun w H=>(hrr w (H.ent (af 6 [] Z))).one) fun hone=> ?_;refine b6 (fun w H=>ci (hrr w (H.ent (af 6 [] Z))).t) ?_;rintro ⟨A3,c3,htv,_,_,_,k4,_⟩;refine bq Z Z Z Z Z fun g5=> ?_;refine eh 0 Z Z Z Z Z Z Z Z hone Z <| ane <| ac ?_;refine cK flo 8 (pt g5 bm (rpC r)::F) (by kernel_rfl) Z (af 7 [0] Z) ?_;refine ve (T:=Nat × Option Addr × Nat) 6 [0,1,5,7] (fun q=> [(1,pp g1),(2,pp g2),(3,pp g3),(14,.slice (some ⟨gg,oo,none⟩) t.rs.length c),(15,ii t.rs.length),(16,ii i),(5,pp g5),(6,pp q.1),(24,.slice q.2.1 r.ms.length q.2.2)])
  (fun q=>pt q.1 bm [.string ⟨⟨[]⟩⟩,.slice none 0 0,.slice none 0 0]::rHs (.slice q.2.1 r.ms.length q.2.2) r.ms::pt g5 bm (rpC r)::pt g3 bt [.slice Av t.V.length cv,.slice A1 r1.length c1]::row bm 3 (.slice A1 r1.length c1) r1.length (q8 r1)::all (rpF r1)::rZ (.slice Av t.V.length cv) t.V::pt g2 bt [.slice none 0 0,.slice none 0 0]::pt g1 bt (tbC t)::F) (fun _=>True) ?_ (fun J=> ?_)
 ·rintro ⟨g6,A6,c6⟩ _;dsimp only;refine my (7,[0,1,5]) [] (by kernel_rfl) ⟨i6 0 2 (L2:= [5]) Z Z ?_,trivial⟩;refine bj Z Zl <| cd 0 Z Z Z Z <| ap (pk (af 9 [2] Z) (i6 5 1 (L2:= []) Z Z (bj Z Zl <| ap <| pk (af 9 [2] Z) <| fz _ Z av ?_)));refine yc (vs:= [.string r.nm,.slice none 0 0,.slice A6 r.ms.length c6]) 0 Z Z Z Z Z Z Z Z Z (by simp [Value.oneCell']) Z (af 9 [2] Z) ?_;refine ap (ip (af 9 [2] Z) (jG 0 0 (by kernel_rfl) (by kernel_rfl) Z (ap ?_)));refine ab <| ac <| anf <| ae Z <| ba 2 Z Z Z <| bn 27 (.slice A3 r.ts.length c3) Z htv <| apn Z Z <| ane <| ak ?_;refine d6 (S:=Nat × List Tg × Option Addr × Nat) (fun s=> [(1,pp g1),(2,pp g2),(3,pp g3),(14,.slice (some ⟨gg,oo,none⟩) t.rs.length c),(15,ii t.rs.length),(16,ii i),(6,pp g6),(27,.slice A3 r.ts.length c3),(28,ii r.ts.length),(29,ii s.1)])
   (fun s=>pt g6 bm [.string r.nm,.slice s.2.2.1 s.2.1.length s.2.2.2,.slice A6 r.ms.length c6]::row dw 2 (.slice s.2.2.1 s.2.1.length s.2.2.2) s.2.1.length (fN s.2.1)::all (tgF s.2.1)::rHs (.slice A6 r.ms.length c6) r.ms::pt g5 bm (rpC r)::pt g3 bt [.slice Av t.V.length cv,.slice A1 r1.length c1]::row bm 3 (.slice A1 r1.length c1) r1.length (q8 r1)::all (rpF r1)::rZ (.slice Av t.V.length cv) t.V::pt g2 bt [.slice none 0 0,.slice none 0 0]::pt g1 bt (tbC t)::F)
   (fun s=>s.1≤r.ts.length∧s.2.1.map Tg.pl=(r.ts.take s.1).map Tg.pl) (fun s=>r.ts.length - s.1) (0,[],none,0) ?_ ⟨aqc _,rfl⟩ ?_
  ·exact ((ee (G:= [])).trans (de dw 2 Z)).trans (af 3 [2,0,1] Z)
  rintro ⟨k,k1,A2,c2⟩ ⟨hk,hkp⟩;dsimp only at hk hkp ⊢;have hk1:k1.length=k:=by have:=ap2 List.length hkp;rw [ap9,ap9,ap7] at this;omega
  refine anf <| ae Z <| ane <| ac ?_;refine cj Z (fun h2=> ?_) (fun h2=> ?_)
  ·have h2':k<r.ts.length:=by omega
   obtain ⟨gt,ot,rfl⟩:=k4 (by omega);have hgm:=apw h2';have hct:∀ w,Sat b F w→∀ j,j<2→w.cell? ⟨gt,ot+k*2+j,none⟩=(tgC r.ts[k])[j]?:=fun w H j hj=>ej (f:=tgC) (by have:=(hrr w H).t;rwa [htv] at this) (fun _ _=>rfl) h2' hj
   have hgr:∀ w,Sat b F w→SL w 34 r.ts[k].hv r.ts[k].hs.length (zm r.ts[k].hs):=fun w H=>(hrr w H).g _ hgm
   have hsn2:r.ts.take (k+1)=r.ts.take k ++ [r.ts[k]]:=apz h2';have hgn:=hrw.gn _ hgm;generalize r.ts[k]=y at *;refine ah <| ab <| ac <| ak <| anf <| ay Z ?_;refine fc Z (fun w H=>di (cs:=tgC y) Z Z Z Z (fun j hj=>by rw [b5,apu];exact hct w (H.ent (af 11 [] Z)) j hj)) Z ?_;refine b6 (fun w H=>zA (hgr w (H.ent (af 11 [] Z)))) fun hone2=> ?_;refine bq Z Z Z Z Z fun g8=> ?_;refine eh 0 Z Z Z Z Z Z Z Z hone2 Z <| ane <| ij flo 10 (pt g8 dw (tgC y)::pt g6 bm [.string r.nm,.slice A2 k1.length c2,.slice A6 r.ms.length c6]::F) [] Z (by decide +kernel) (af 12 [0,1] Z) <| bj Z Zl <| cd 1 Z Z Z Z <| bj Z Zl <| cd 0 Z Z Z Z <| bj Z Zl <| cd 0 Z Z Z Z <| dh Z Z Z Z (lR (fun w H=>hgr w (H.ent (af 12 [] Z))) (fun d _=>tm d) (by omega)) ?_;rintro v7 _ rfl;refine ⟨af 13 [1,2] rfl,(lh (fun w H=>(H.oat (k:=0) Z).form) ?_)⟩;rintro ⟨A7,c7,rfl,_,_,_⟩;refine bj Z Zl <| yr (cs:=tgC ⟨y.nm,.slice A7 y.hs.length c7,y.hs⟩) Z Z Z Z Z Z Z Z Z (by decide) (af 13 [1,2] Z) fun gl=> ?_;refine xh 4 Z Z Z Z Z Z Z Z Z Z (m:=1) (news:=tgC ⟨y.nm,.slice A7 y.hs.length c7,y.hs⟩) (fun w' H=>(H.blk (k:=0) Z).sl Z (by decide)) (by simp [Value.oneCell']) (by omega) (fun _=>rfl) (fun _=>af 14 [2,3] Z) fun v8=> ?_;refine ap <| ik Z (dc _) <| lh (fun w H=>(H.oat (k:=4) Z).form) ?_;rintro ⟨A8,c8,rfl,_,_,_⟩;refine bj Z Zl <| xw 3 Z Z Z Z Z Z Z Z Z Z Z (dc _) <| ap <| bg <| ab <| aa <| ay Z <| ae Z <| ad ?_;have e1:fN k1++tgC ⟨y.nm,.slice A7 y.hs.length c7,y.hs⟩=fN (k1 ++ [⟨y.nm,.slice A7 y.hs.length c7,y.hs⟩]):=by
    show _=flC tgC _;rw [ic];rfl
   have e2:k1.length+1=(k1 ++ [(⟨y.nm,.slice A7 y.hs.length c7,y.hs⟩:Tg)]).length:=by simp
   rw [e1,e2];rw [show (k:Int)+1=((k+1:Nat):Int) by omega];refine dj (k+1,k1 ++ [⟨y.nm,.slice A7 y.hs.length c7,y.hs⟩],A8,c8) ?_ ⟨h2',by dsimp only;rw [hsn2,aqa,aqa,hkp];rfl⟩;exact (af 14 [1,5,3,4,6,7,8,9,10,11,12,13] Z).trans ((qd (Pv (l:=k1) (g:=⟨y.nm,.slice A7 y.hs.length c7,y.hs⟩))).trans (af 3 [1,2,0] Z))
  ·obtain rfl:k=r.ts.length:=by omega
   rw [aqk] at hkp;have hq:∀ y∈k1,∃ z∈r.ts,y.pl=z.pl:=fun y hy=>by
    have:y.pl∈r.ts.map Tg.pl:=by rw [← hkp];exact ap8.2 ⟨y,hy,rfl⟩
    obtain ⟨z,hz,h3⟩:=ap8.1 this;exact ⟨z,hz,h3.symm⟩
   have hq1:∀ {y z:Tg},y.pl=z.pl→y.nm=z.nm∧y.hs=z.hs:=fun h=>⟨ap2 TG.nm h,ap2 TG.hs h⟩
   have hw':RW ⟨r.nm,.slice A2 k1.length c2,k1,.slice A6 r.ms.length c6,r.ms⟩:=⟨by dsimp only;omega,hrw.mn,fun y hy=>by
     obtain ⟨z,hz,h3⟩:=hq y hy;rw [(hq1 h3).2];exact hrw.gn z hz,hrw.mh,fun y hy=>by
     obtain ⟨z,hz,h3⟩:=hq y hy;rw [(hq1 h3).2];exact hrw.gh z hz,hrw.ns,fun y hy=>by
     obtain ⟨z,hz,h3⟩:=hq y hy;rw [(hq1 h3).1];exact hrw.gs z hz⟩
   refine b8 <| aw <| ax <| aq <| ab <| aa <| ae Z <| ba 5 Z Z Z <| ba 0 Z Z Z <| li (cs:=rpC ⟨r.nm,.slice A2 k1.length c2,k1,.slice A6 r.ms.length c6,r.ms⟩) Z Z Z Z Z Z Z Z (by decide) fun gl=> ?_;refine ef 7 Z Z Z Z Z Z Z Z Z (m:=1) (news:=rpC ⟨r.nm,.slice A2 k1.length c2,k1,.slice A6 r.ms.length c6,r.ms⟩) (fun w' H=>(H.blk (k:=0) Z).sl Z (by decide)) (by simp [Value.oneCell']) (by omega) (fun _=>rfl) fun v8=> ?_;refine b6 (fun w H=>(H.oat (k:=7) Z).form) ?_;rintro ⟨A8,c8,rfl,_,_,_⟩;refine ae Z <| cg 6 Z Z Z Z <| ad <| bg <| ab <| aa <| ay Z <| ae Z <| ad ?_;have e1:q8 r1++rpC ⟨r.nm,.slice A2 k1.length c2,k1,.slice A6 r.ms.length c6,r.ms⟩=q8 (r1 ++ [⟨r.nm,.slice A2 k1.length c2,k1,.slice A6 r.ms.length c6,r.ms⟩]):=by
    show _=flC rpC _;rw [ic];rfl
   have e2:r1.length+1=(r1 ++ [(⟨r.nm,.slice A2 k1.length c2,k1,.slice A6 r.ms.length c6,r.ms⟩:Rp)]).length:=by simp
   rw [e1,e2];rw [show (i:Int)+1=((i+1:Nat):Int) by omega];refine dj (i+1,r1 ++ [⟨r.nm,.slice A2 k1.length c2,k1,.slice A6 r.ms.length c6,r.ms⟩],A8,c8) ?_ ⟨h1',by
    dsimp only;rw [hsn,aqa,aqa,hpl];show _ ++ [(⟨r.nm,k1.map Tg.pl,r.ms⟩:RP)]=_;rw [hkp];rfl,fun x hx=> ?_⟩
   ·exact (af 12 [2,4,3,8,6,7,9,10,11] Z).trans ((ee (G:=rpP ⟨r.nm,.slice A2 k1.length c2,k1,.slice A6 r.ms.length c6,r.ms⟩)).trans ((qd (Pw (l:=r1) (r:=⟨r.nm,.slice A2 k1.length c2,k1,.slice A6 r.ms.length c6,r.ms⟩))).trans (af 3 [1,2,0] Z)))
   ·rcases ap6.1 hx with hx | hx
    ·exact hrw1 x hx
    ·rw [apy.1 hx];exact hw'
 ·refine my (4,[2,3]) [(6,[])] (by kernel_rfl) ⟨dZ 2 2 Z Z Z ?_,fz _ Z av ?_,trivial⟩
  ·refine bj Z Zl <| cd 0 Z Z Z Z <| dh Z Z Z Z (lR (fun w H=>(hrr w (H.ent (af 7 [] Z))).m) (fun d _=>tm d) (by omega)) ?_;rintro v7 _ rfl;refine ⟨af 8 [1] rfl,(lh (fun w H=>(H.oat (k:=0) Z).form) ?_)⟩;rintro ⟨A7,c7,rfl,_,_,_⟩;refine ap (ip (af 8 [1] Z) (p9 6 0 (by kernel_rfl) Z ?_));refine iz Z Z Z Z Z Z (af 8 [1] Z) fun g6=>ap <| ip (af 9 [2] Z) ?_
   exact J (g6,A7,c7) _ _ _ trivial (by kernel_rfl) ⟨rfl,rfl,rfl,rfl,rfl,rfl,rfl,rfl,rfl,trivial⟩ av
  ·refine iz Z Z Z Z Z Z (af 7 [0] Z) fun g6=> ?_;refine ap (ip (af 8 [1] Z) (p9 2 2 (by kernel_rfl) Z ?_));refine bj Z Zl <| cd 0 Z Z Z Z <| dh Z Z Z Z (lR (fun w H=>(hrr w (H.ent (af 8 [] Z))).m) (fun d _=>tm d) (by omega)) ?_;rintro v7 _ rfl;refine ⟨af 9 [2] rfl,(lh (fun w H=>(H.oat (k:=0) Z).form) ?_)⟩;rintro ⟨A7,c7,rfl,_,_,_⟩;refine ap <| ip (af 9 [2] Z) ?_;exact J (g6,A7,c7) _ _ _ trivial (by kernel_rfl) ⟨rfl,rfl,rfl,rfl,rfl,rfl,rfl,rfl,rfl,trivial⟩ (af 9 [1,0,2,3,4,5,6,7,8] Z)
end

structure Nxt (V:List Int) (e:Ev):Prop where
 r1:1≤e.r
 r2:e.r≤V.length
 n1:1≤e.n
 n2:e.n≤1048576
 new:lj V e.r e.n=false
 dl:e.deps.length=V.length
 dn:tA e.deps
 nx:atL V e.r=e.n - 1
 le:jP e.deps V=true
 own:e.deps.getD (e.r - 1).toNat 0=e.n - 1
 k:1≤e.kind∧e.kind≤4
 repo:jk (dz e.repo)=(0,0)
 tag:e.kind=3∨e.kind=4→cB (dz e.tag)=(0,0)
theorem Nxt.nextL {V:List Int} {e:Ev} (h:Nxt V e):YtbfailbgdnpaiaaGreatDoor.Bx V e.r=(e.r,e.n):=by
 have h1:=h.r1;have h2:=h.nx;have h3:=h.n2;unfold YtbfailbgdnpaiaaGreatDoor.Bx;rw [if_neg (by unfold Kh;omega),h2];exact Prod.ext Z (by dsimp only;omega)
section
variable {b:World} {F:List SP} {t:Tb} {e:Ev}
theorem amo (hN:Nxt t.V e) (hn:t.V.length≤16) (hew:EW e) (hv:∀ w,Sat b F w→VL (Value.int .i64) w t.vv t.V) (he:∀ w,Sat b F w→ER w e):SC Tryz.prog Bi [tbV t,evV e] b F (fun u F'=>u=ii 0∧F'=F):=by
 have hnl:=hN.nextL;obtain ⟨r1,r2,n1,n2,hnew,dl,dn,nx,le,hown,⟨k1,k2⟩,hrepo,htag⟩:=hN;have h32:=hew.l32;refine ao Tryz.func67 Z Z Z <| bu (fun w H=>(hv w H).form) ?_;rintro ⟨A1,c1,hvv,_⟩;refine bu (fun w H=>(he w H).dv.form) ?_;rintro ⟨A2,c2,hdv,_,_,_,q4⟩;refine anf <| br Z Z Z Z Z fun g2=>br Z Z Z Z Z fun g3=>ae Z <| aby <| ae Z <| ba 0 Z Z Z <| bq Z Z Z Z Z fun g5=>cg 0 Z Z Z Z <| ane ?_
 have hvv1:∀ w,Sat b (pt g5 t_api_Dot [ii e.r,ii e.n]::pt g3 dk (evC e)::pt g2 bt (tbC t)::F) w→VL (Value.int .i64) w t.vv t.V:=up hv (af 3 [] Z);have hee:∀ w,Sat b (pt g5 t_api_Dot [ii e.r,ii e.n]::pt g3 dk (evC e)::pt g2 bt (tbC t)::F) w→ER w e:=up he (af 3 [] Z);refine qY (S:=Unit) (fun _=> [(2,pp g2),(3,pp g3),(5,pp g5),(6,.bool (decide (e.kind=3∨e.kind=4)))]) (fun _=>pt g5 t_api_Dot [ii e.r,ii e.n]::pt g3 dk (evC e)::pt g2 bt (tbC t)::F) (fun _=>True) ?_ (fun _ _=> ?_)
 ·refine aa <| ae Z <| ba 1 Z Z Z <| apn Z Z ?_;by_cases h3:e.kind=3
  ·refine wt 12 Z h3 ?_
   (iterate 5 refine ae Z ?_)
   refine ad <| ri av ?_;exact Ed () ⟨rfl,rfl,rfl,(by rw [ap5 (Or.inl h3)];rfl),trivial⟩ av trivial
  ·refine iQ 12 Z h3 <| ae Z <| ba 1 Z Z Z <| apo Z Z Z <| ad ?_;exact Ed () ⟨rfl,rfl,rfl,(by rw [show decide (e.kind=3∨e.kind=4)=decide (e.kind=4) from ash.2 (by omega)];rfl),trivial⟩ av trivial
 refine ac <| ak <| anf <| ae Z <| ba 0 Z Z Z <| apn Z Z <| qp 21 Z <| ae Z <| ba 0 Z Z Z <| ae Z <| ba 2 Z Z Z <| bn 25 (.slice A1 t.V.length c1) Z hvv <| apo Z Z Z <| ae Z <| qp 29 Z <| ae Z <| ba 0 Z Z Z <| apo Z Z Z <| qp 34 Z <| ae Z <| ba 0 Z Z Z <| apo Z Z Z <| ane <| vj 17 Z <| ai Z <| anf <| ae Z <| ba 2 Z Z Z <| ba 0 Z Z Z <| au Z Z Z (Gd hvv1) ?_;rw [hnew];refine ae Z <| ane <| ai Z <| anf <| ae Z <| ba 1 Z Z Z <| bn 46 (.slice A2 e.deps.length c2) Z hdv <| apn Z Z <| ba 2 Z Z Z <| bn 49 (.slice A1 t.V.length c1) Z hvv <| apo Z Z Z ?_;refine bn 52 (.bool false) Z (by
  show Value.bool (!decide _)=_;rw [ap5 (by omega)];rfl) ?_
 refine ae Z <| ba 1 Z Z Z <| am Z Z Z (X1 (fun w H=>(hee w H).dv) (by omega) dn (by omega)) ?_;rintro _ _ ⟨⟨z,z1,z2,rfl⟩,rfl⟩;refine apo Z Z Z <| ane <| vj 44 Z <| ai Z <| ac <| cq flo _ (by decide +kernel) av <| bj Z Zl <| cd 2 Z Z Z Z <| bj Z Zl <| cd 0 Z Z Z Z <| fe Z Z Z Z (SC.ofExt fun w H=>mY (hvv1 w H)) av ?_;rw [hnl];refine cd 0 Z Z Z Z <| dU Z (wk Z Z (Zc _ _ _ _)) Z Z <| bj Z Zl <| eu 66 (.bool false) Z (ap2 (fun q=>Value.bool (!q)) (ap5 ⟨rfl,rfl⟩)) <| bj Z Zl <| cd 1 Z Z Z Z <| bj Z Zl <| cd 2 Z Z Z Z <| fe Z Z Z Z (SC.ofExt fun w H=>Nw (hee w H).dv (hvv1 w H)) av ?_;rw [le];refine bj Z Zl <| bj Z Zl <| bj Z Zl <| bj Z Zl <| cd 1 Z Z Z Z <| bj Z Zl <| cd 0 Z Z Z Z <| dx Z Z ?_;obtain ⟨gg,oo,rfl⟩:=q4 (by omega);refine eu 76 (.slice (some ⟨gg,oo,none⟩) e.deps.length c2) Z hdv ?_;have hix:(e.r - 1).toNat<e.deps.length:=by omega
 have hgd:e.deps[(e.r - 1).toNat]=e.n - 1:=by rw [← yR hix];exact hown
 refine dx Z Z ?_;have hcell:∀ w,Sat b (pt g5 t_api_Dot [ii e.r,ii e.n]::pt g3 dk (evC e)::pt g2 bt (tbC t)::F) w→w.cell? ⟨gg,oo+(e.r - 1).toNat,none⟩=some (ii (e.n - 1)):=fun w H=>by
  have h1:=(hee w H).dv;rw [hdv] at h1;rw [← hgd];exact VL.at h1 (e.r - 1).toNat hix
 refine j7 Z (fun w H=>bx (v:=ii (e.n - 1)) Z Z Z (by rw [b5,aq8];exact hcell w H)) Z Z ?_;refine bj Z Zl <| cd 0 Z Z Z Z <| dx Z Z <| bj Z Zl <| bj Z Zl <| bj Z Zl ?_;refine eu 58 (.bool false) Z (by
  show Value.bool (!decide _)=_;rw [ap5 rfl];rfl) ?_
 refine ap <| ab <| ai Z <| anf <| ae Z <| ba 1 Z Z Z <| apn Z Z <| qp 91 Z <| ae Z <| ba 1 Z Z Z <| apo Z Z Z <| ane <| vj 87 Z <| ai Z <| anf <| ae Z <| ba 1 Z Z Z <| au Z Z Z (tL) ?_;rw [hrepo];refine ae Z <| j6 Z (wk Z Z (n8 0 0 0 0)) Z <| bn 101 (.bool false) Z Z <| apo Z Z Z ?_;by_cases h3:e.kind=3∨e.kind=4
 ·refine wt 104 Z h3 <| ae Z <| ba 1 Z Z Z <| au Z Z Z (Xs) ?_;rw [htag h3];refine ae Z <| j6 Z (wk Z Z (n8 0 0 0 0)) Z <| bn 109 (.bool false) Z Z <| apo Z Z Z <| ane <| ai Z <| ah <| bg <| ab <| anf <| ae Z <| ane <| aj <| bh Z Z (af 3 [] Z) ?_;exact ⟨rfl,rfl⟩
 ·refine iQ 104 Z h3 ?_
  (iterate 8 refine ae Z ?_)
  refine ane <| ai Z <| ah <| bg <| ab <| anf <| ae Z <| ane <| aj <| bh Z Z (af 3 [] Z) ?_;exact ⟨rfl,rfl⟩
theorem DK.of_pl {k:Nat} {rs rs':List Rp} (h:DK k rs) (hp:rs'.map Rp.pl=rs.map Rp.pl) (hw:∀ r∈rs',RW r):DK k rs':=by
 refine ⟨by rw [hp];exact h.w,hw,by have:=ap2 List.length hp;rw [ap9,ap9] at this;have:=h.n;omega,fun r hr=> ?_⟩;have:r.pl∈rs.map Rp.pl:=by rw [← hp];exact ap8.2 ⟨r,hr,rfl⟩
 obtain ⟨x,hx,h1⟩:=ap8.1 this;have e1:r.ts.map Tg.pl=x.ts.map Tg.pl:=(ap2 RP.ts h1).symm;have e2:r.ms=x.ms:=(ap2 RP.ms h1).symm;have hb:=h.b x hx;refine ⟨by have:=ap2 List.length e1;rw [ap9,ap9] at this;omega,by rw [e2];exact hb.2.1,fun g hg=> ?_⟩;have:g.pl∈x.ts.map Tg.pl:=by rw [← e1];exact ap8.2 ⟨g,hg,rfl⟩
 obtain ⟨y,hy,h2⟩:=ap8.1 this;have e3:g.hs=y.hs:=(ap2 TG.hs h2).symm;rw [e3];exact hb.2.2 y hy
def ape (k:Nat) (t:Tb) (e:Ev) (F:List SP) (u:Value) (F':List SP):Prop :=
 ∃ t':Tb,u = .tuple ⟨[tbV t',ii 0]⟩∧t'.V=oM t.V e.r e.n∧zk (t'.rs.map Rp.pl)∧(∀ p,atP p (t'.rs.map Rp.pl)=wj e p (atP p (t.rs.map Rp.pl)))∧(∀ r∈t'.rs,RW r)∧t'.rs.length≤k+3∧F'=tbP t'++F
theorem Ix {k:Nat} (hk:TK t) (hd:DK k t.rs) (h9:k≤800) (hN:Nxt t.V e) (hew:EW e) (hr:e.repo.size≤1000) (ht:e.tag.size≤1000) (hfr:∀ p,∀ x∈atP p (t.rs.map Rp.pl),x.d≠iL e) (hT:∀ w,Sat b F w→TR w t) (he:∀ w,Sat b F w→ER w e) :
  SC Tryz.prog vB [tbV t,evV e] b F (ape k t e F):=by
 have h32:=hew.l32;have el:=qA h32;have hvn:=hk.w.vn;refine ao Tryz.func21 Z Z Z <| anf <| br Z Z Z Z Z fun g2=>br Z Z Z Z Z fun g3=>bq Z Z Z Z Z fun g4=>ae Z <| ane <| ac <| anf <| ba 2 Z Z Z ?_
 have hT3:∀ w,Sat b (pt g4 bt [.slice none 0 0,.slice none 0 0]::pt g3 dk (evC e)::pt g2 bt (tbC t)::F) w→TR w t:=up hT (af 3 [] Z);refine au Z Z Z (uE hk hT3) <| ae Z <| aby <| apn Z Z <| ane <| ai Z <| ah <| ab <| ac <| anf <| ba 2 Z Z Z ?_;refine b7 1 Z Z Z Z Z Z (cp (by rw [el];rfl)) Z ?_;refine au Z Z Z (amo hN hvn hew (fun w H=>(hT3 w H).v) (up he (af 3 [] Z))) <| ae Z <| aby <| apn Z Z <| ane <| ai Z <| ah <| ab <| anf <| ba 2 Z Z Z <| am Z Z Z (aau hk.w hT3) ?_;rintro _ _ ⟨vv,A,c,rs',rfl,hpl,hrw,rfl⟩;refine b6 (fun w H=>(H.oat (k:=0) Z).form) ?_;rintro ⟨Av,cv,rfl,_,_,_⟩;refine ae Z <| br Z Z Z Z Z fun gd=> ?_;have hd':=hd.of_pl hpl hrw;refine eg (G:=dkP gd (.slice Av t.V.length cv) A c rs' (rZ (.slice Av t.V.length cv) t.V::pt g4 bt [.slice none 0 0,.slice none 0 0]::pt g3 dk (evC e)::pt g2 bt (tbC t)::F)) (af 7 [0,2,3,1,4,5,6] Z) <| ae Z <| ane ?_;refine qY (S:=Nat × Nat × Nat × List Rp) (fun _=> [(2,pp g2),(3,pp g3),(4,pp g4),(8,pp gd)])
  (fun s=>dkP gd (.slice Av t.V.length cv) (some ⟨s.1,s.2.1,none⟩) s.2.2.1 s.2.2.2 (rZ (.slice Av t.V.length cv) t.V::pt g4 bt [.slice none 0 0,.slice none 0 0]::pt g3 dk (evC e)::pt g2 bt (tbC t)::F)) (fun s=>DK (k+3) s.2.2.2∧∀ p,atP p (s.2.2.2.map Rp.pl)=wj e p (atP p (t.rs.map Rp.pl))) ?_ ?_
 ·refine cq flo (pt g3 dk (evC e)::pt g2 bt (tbC t)::F) (by decide +kernel) (af 7 [5,6] Z) ?_
  (iterate 10 refine bj Z Zl ?_)
  refine cd 0 Z Z Z Z ?_;have hk4:e.kind=1∨e.kind=2∨e.kind=3∨e.kind=4:=by have:=hN.k;omega
  have hfr':∀ p,∀ x∈atP p (rs'.map Rp.pl),x.d≠iL e:=by rw [hpl];exact hfr
  rcases hk4 with hk4 | hk4 | hk4 | hk4
  ·refine eu 36 (ii 1) Z (by rw [hk4]) ?_;refine My Z Z ⟨⟨by decide,by decide⟩,aqb rfl⟩ ?_;refine fw 0 Z Z Z Z Z Z (cp (by rw [el];rfl)) Z Z ?_;refine dh Z Z Z Z (aao (F:=rZ (.slice Av t.V.length cv) t.V::pt g4 bt [.slice none 0 0,.slice none 0 0]::pt g3 dk (evC e)::pt g2 bt (tbC t)::F) hd' h9 hew hr hk4 hfr') ?_;rintro u _ ⟨g,o,c',rs2,q1,q2,rfl⟩;refine ⟨af 7 [5,6] rfl,(ap ?_)⟩;exact iR (g,o,c',rs2) av ⟨q1,fun p=>by rw [q2,hpl]⟩
  ·refine eu 36 (ii 2) Z (by rw [hk4]) ?_;refine My Z Z ⟨⟨by decide,by decide⟩,aqb rfl⟩ ?_;refine fw 0 Z Z Z Z Z Z (cp (by rw [el];rfl)) Z Z ?_;refine dh Z Z Z Z (aap (F:=rZ (.slice Av t.V.length cv) t.V::pt g4 bt [.slice none 0 0,.slice none 0 0]::pt g3 dk (evC e)::pt g2 bt (tbC t)::F) hd' h9 hew hr hk4 (up he (af 4 [] Z))) ?_;rintro u _ ⟨g,o,c',rs2,q1,q2,rfl⟩;refine ⟨af 7 [5,6] rfl,(ap ?_)⟩;exact iR (g,o,c',rs2) av ⟨q1,fun p=>by rw [q2,hpl]⟩
  ·refine eu 36 (ii 3) Z (by rw [hk4]) ?_;refine My Z Z ⟨⟨by decide,by decide⟩,aqb rfl⟩ ?_;refine fw 0 Z Z Z Z Z Z (cp (by rw [el];rfl)) Z Z ?_;refine dh Z Z Z Z (Uo (F:=rZ (.slice Av t.V.length cv) t.V::pt g4 bt [.slice none 0 0,.slice none 0 0]::pt g3 dk (evC e)::pt g2 bt (tbC t)::F) hd' h9 hew hr ht hk4 (up he (af 4 [] Z)) hfr') ?_;rintro u _ ⟨g,o,c',rs2,q1,q2,rfl⟩;refine ⟨af 7 [5,6] rfl,(ap ?_)⟩;exact iR (g,o,c',rs2) av ⟨q1,fun p=>by rw [q2,hpl]⟩
  ·refine eu 36 (ii 4) Z (by rw [hk4]) ?_;refine My Z Z ⟨⟨by decide,by decide⟩,aqb rfl⟩ ?_;refine fw 0 Z Z Z Z Z Z (cp (by rw [el];rfl)) Z Z ?_;refine dh Z Z Z Z (Up (F:=rZ (.slice Av t.V.length cv) t.V::pt g4 bt [.slice none 0 0,.slice none 0 0]::pt g3 dk (evC e)::pt g2 bt (tbC t)::F) hd' h9 hew hr ht hk4 (up he (af 4 [] Z))) ?_;rintro u _ ⟨g,o,c',rs2,q1,q2,rfl⟩;refine ⟨af 7 [5,6] rfl,(ap ?_)⟩;exact iR (g,o,c',rs2) av ⟨q1,fun p=>by rw [q2,hpl]⟩
 rintro ⟨g,o,c',rs2⟩ ⟨q1,q2⟩;dsimp only at q1 q2 ⊢;refine anf <| ae Z <| am Z Z Z (aat q1 (by omega)) ?_;rintro _ _ ⟨c2,rs3,p1,p2,p3,rfl⟩;refine ane <| ac <| ij flo 9 (pt gd ir [.slice Av t.V.length cv,.slice (some ⟨g,o,none⟩) rs3.length c2]::pt g3 dk (evC e)::F) [] Z (by decide +kernel) (af 7 [0,5] Z) ?_
 (iterate 5 refine bj Z Zl ?_)
 refine cd 0 Z Z Z Z <| bj Z Zl <| cd 1 Z Z Z Z <| dh Z Z Z Z (SC.ofMade fun w H=>mZ (xs:=t.V) (r:=e.r) (n:=e.n) (vlZ (k:=3) Z w H) (by omega)) ?_;rintro v _ rfl;refine ⟨af 8 [1,6] rfl,(ap <| ik Z (dc _) <| lh (fun w H=>(H.oat (k:=0) Z).form) ?_)⟩;rintro ⟨A',c6,rfl,_,_,_⟩;refine bj Z Zl <| bj Z Zl <| bj Z Zl <| xw 1 Z Z Z Z Z Z Z Z Z Z Z (dc _) <| ap <| ab <| anf <| apo Z Z Z <| ba 1 Z Z Z <| cg 5 Z Z Z Z <| ae Z <| ane <| aj <| ez Z (.agg 5 Z Z Z Z Z (.tmp Z .nil)) (af 8 [0,2,3] Z) ?_;refine ⟨⟨.slice A' (oM t.V e.r e.n).length c6,oM t.V e.r e.n,.slice (some ⟨g,o,none⟩) rs3.length c2,rs3⟩,rfl,rfl,by dsimp only;rw [p1];exact Ub q1.w,fun p=>by dsimp only;rw [p1,Ij q1.w,q2],p2,p3,rfl⟩
end

section
variable {b:World} {F:List SP}
variable {fi ft:Nat} [Bodied Tryz.prog fi] [Bodied Tryz.prog ft] {pi pf:List Value} {is:Ev→Bool} {tk:Ev→Ev→Bool} {x e:Ev} {l:List Ev}
end

section
variable {b:World} {F:List SP} {repo tag:ByteArray} {e x:Ev} {g4 g5 g7:Nat}
variable {l:List Ev}
end

section
variable {b:World} {F:List SP} {l:List Ev} {n:Nat}
theorem aav (h1:1≤n) (h2:n≤16):SC Tryz.prog Bg [ii n] b F (fun u F'=>∃ vv,u = .tuple ⟨[.agg ⟨[vv,.slice none 0 0]⟩,ii 0]⟩∧F'=rZ vv (List.replicate n 0)::F):=by
 refine ao Tryz.func19 Z Z Z <| anf <| bq Z Z Z Z Z fun g2=>ae Z <| ane <| ac <| anf <| apo Z Z Z <| qp 6 Z <| apo Z Z Z <| ane <| vj 9 Z <| ai Z <| ah <| ab <| anf <| ae Z ?_
 refine Sd (sz:=1) (n:=n) (cs:=Cc (List.replicate n 0)) Z Z Z Z Z Z Z Z Z (by omega) (by rw [Cc,List.map_replicate];exact M8 _ _) fun g12=> ?_;refine ae Z <| cg 1 Z Z Z Z <| ae Z <| ane <| aj <| ez Z (.agg 1 Z Z Z Z Z (.tmp Z .nil)) (af 2 [0] Z) ?_;exact ⟨_,rfl,by rw [rZ,atg]⟩
end

section
variable {b:World} {F:List SP} {e:Ev} {n:Nat}
end

section
variable {b:World} {F:List SP} {l:List Ev} {z:Int}
end
open Go.MapKept
open Go.ChangeMaps (setBlock heap_setBlock_same heap_setBlock_other)

deriving instance DecidableEq for K9
section
variable {P:Program} {k g:Nat} {α:Type} {K:α→Value} {ok:α→Prop} {l:List (α × Value)} {a:α} {w:World} {es:Array MapEntry} {clock:Nat}
end
section
variable {P:Program} {tt:Nat→Option Go.Eng.TI} [TT P tt] {ro:Option Nat} {N:Nat} {l rest:List Oper} {Q:Exit→Act→World→Prop} {E:List (Nat × Value)} {ds:List Deferred} {b:World} {F G:List SP}
 {op:Op} {ty:TypeId} {pos:String} {aft:Array Edge} {g:Option (Nat × Bool)}
 {α:Type} [DecidableEq α] {K:α→Value} {ok:α→Prop} {L R:List (α × Value)} {y:α × Value}
end

structure En where
 sp:K9
 v:Value
 hs:List Hd
section
variable {b:World} {F:List SP} {gm:Nat} {E0:List En}
end

section
variable {b:World} {F:List SP} {gm gmb:Nat} {E:List En}
end


section
variable {b:World} {F:List SP} {l:List Ev} {n:Nat}
end

section
variable {b:World} {F:List SP} {l:List Ev} {e:Ev} {V:List Int} {vv:Value} {g3:Nat}
end

instance:EqT Tryz.prog t_api_Held:=⟨by kernel_rfl⟩
theorem Px (k0:Nat) {a:Hd} (h:a.id.length=32) (w:World):(Op.equalIn (k0+1+1+1) t_api_Held (.agg ⟨hdC a⟩) (.agg ⟨hdC a⟩)).run Tryz.prog w = .ok true w:=by
 have hS:Tryz.prog.underlying t_api_Held=some (.struct (Tryz.prog.fieldsOf t_api_Held)):=by kernel_rfl
 have hp:Tryz.prog.stoodInHeld t_api_Held=false:=by kernel_rfl
 have hf : ∃ f g : Field, (Tryz.prog.fieldsOf t_api_Held).toList = [f, g] ∧ f.name ≠ "_" ∧ g.name ≠ "_" ∧ f.type = t_api_Dot ∧ g.type = t_api_ID ∧ f.offset = 0 ∧ g.offset = 2 :=
  ⟨_,_,rfl,by decide,by decide,rfl,rfl,rfl,rfl⟩
 obtain ⟨f,g,h1,h2,h3,h4,h5,h6,h7⟩:=hf;rw [run_equalIn_struct w (k0+1+1) t_api_Held _ _ hS hp,h1];have ud:Tryz.prog.underlying t_api_Dot=some (.struct (Tryz.prog.fieldsOf t_api_Dot)):=by kernel_rfl
 obtain ⟨e,i,ua,_,_,_⟩:=(inferInstance:ArrI Tryz.prog t_api_ID 32 .u8).ex;have sd:(sizeOf t_api_Dot).run Tryz.prog w = .ok 2 w:=TT.run_size (P:=Tryz.prog) (t:=t_api_Dot) Z w;have sa:(sizeOf t_api_ID).run Tryz.prog w = .ok 32 w:=TT.run_size (P:=Tryz.prog) (t:=t_api_ID) Z w;have p0:(part t_api_Dot ⟨hdC a⟩ 0).run Tryz.prog w = .ok (qn a.d.1 a.d.2) w:=by
  simp [part,isAgg,run_underlying ud,sd]
  rfl
 have p1:(part t_api_ID ⟨hdC a⟩ 2).run Tryz.prog w = .ok (idV a.id) w:=by
  simp [part,isAgg,run_underlying ua,sa];simp [hdC,h];exact aqh (by rw [bz];omega)
 have q0:=T9 k0 a.d.1 a.d.2 w;have q1:=alw (P:=Tryz.prog) (t:=t_api_ID) k0 h w;clear hS hp ud ua sd sa;rw [bD h2 (by rw [h4,h6];exact p0) (by rw [h4,h6];exact p0) (by rw [h4];exact q0),bD h3 (by rw [h5,h7];exact p1) (by rw [h5,h7];exact p1) (by rw [h5];exact q1)]
 rfl
theorem Ut {a:Hd} (h:a.id.length=32) (w:World):(Op.equalIn 10000 t_api_Held (.agg ⟨hdC a⟩) (.agg ⟨hdC a⟩)).run Tryz.prog w = .ok true w:=by
 rw [show (10000:Nat)=9997+1+1+1 from rfl];exact Px 9997 h w
section
variable {b:World} {F:List SP}
theorem oV {va vc:Value} {hs:List Hd} (ha:∀ w,Sat b F w→SL w 34 va hs.length (zm hs)) (hc:∀ w,Sat b F w→SL w 34 vc hs.length (zm hs)) (hk:∀ h∈hs,h.id.length=32) (hn:hs.length≤1000):SC Tryz.prog aH [va,vc] b F (fun u F'=>u = .bool true∧F'=F):=by
 have hz:∀ h∈hs,(hdC h).length=34:=fun h hh=>mq (hk h hh)
 refine ao Tryz.func87 Z Z Z <| bu (fun w H=>ci (ha w H)) ?_;rintro ⟨A,c,rfl,_,_,_,k3,_⟩;refine bu (fun w H=>ci (hc w H)) ?_;rintro ⟨B,d,rfl,_,_,_,q3,_⟩;refine anf <| ae Z <| aby ?_
 (iterate 6 refine ae Z ?_)
 refine ane <| ac <| anf <| ae Z <| ane <| ak ?_;refine sm 5 (.bool true) Z (by simp) ?_;refine d6 (S:=Nat) (fun i=> [(0,.slice A hs.length c),(1,.slice B hs.length d),(5,.bool true),(6,ii i)]) (fun _=>F) (fun i=>i≤hs.length) (fun i=>hs.length - i) 0 av (aqc _) ?_;intro i hi;refine ac <| anf ?_
 (iterate 7 refine ae Z ?_)
 refine ane ?_;refine cj Z (fun h1=> ?_) (fun h1=> ?_)
 ·have h1':i<hs.length:=by omega
  obtain ⟨gA,oA,rfl⟩:=k3 (by omega);obtain ⟨gB,oB,rfl⟩:=q3 (by omega);have c1:∀ w,Sat b F w→∀ j,j<34→w.cell? ⟨gA,oA+i*34+j,none⟩=(hdC hs[i])[j]?:=fun w H j hj=>ej (ha w H) hz h1' hj
  have c2:∀ w,Sat b F w→∀ j,j<34→w.cell? ⟨gB,oB+i*34+j,none⟩=(hdC hs[i])[j]?:=fun w H j hj=>ej (hc w H) hz h1' hj
  have hx:=hk _ (apw h1');generalize hs[i]=x at *;have xl:=mq hx;refine ah <| ab <| ac <| ak <| cq flo _ (by decide +kernel) av <| bj Z Zl <| bj Z Zl <| dx Z Z ?_;refine j7 Z (fun w H=>di (cs:=hdC x) Z Z Z xl (fun j hj=>by rw [b5,apu];exact c1 w H j (by rw [xl] at hj;exact hj))) Z Z ?_;refine bj Z Zl <| bj Z Zl <| dx Z Z ?_;refine j7 Z (fun w H=>di (cs:=hdC x) Z Z Z xl (fun j hj=>by rw [b5,apu];exact c2 w H j (by rw [xl] at hj;exact hj))) Z Z ?_;refine dU Z (y8 Z Z (Ut hx)) Z Z <| bj Z Zl <| ap <| bg <| ab <| aa <| ae Z <| ay Z <| ae Z <| ad ?_;rw [show (i:Int)+1=((i+1:Nat):Int) by omega];exact dj (i+1) av (show i+1≤_ by omega)
 ·refine b8 <| aw <| ax <| aq <| ab <| anf <| apn Z Z <| ane <| aj <| bh Z Z av ?_;exact ⟨rfl,rfl⟩
theorem C9 {t t':Tb} (hp:t.pl=t'.pl) (hW:TW t) (hW':TW t') (hT:∀ w,Sat b F w→TR w t) (hT':∀ w,Sat b F w→TR w t'):SC Tryz.prog aC [tbV t,tbV t'] b F (fun u F'=>u = .bool true∧F'=F):=by
 obtain ⟨vv,V,rv,rs⟩:=t;obtain ⟨vv',V',rv',rs'⟩:=t';have hV:V=V':=ap2 TB.V hp;have hrs:rs.map Rp.pl=rs'.map Rp.pl:=ap2 TB.rs hp;have hlen:rs.length=rs'.length:=by have:=ap2 List.length hrs;rwa [ap9,ap9] at this
 have hrn:rs.length≤1000:=hW.rn;refine ao Tryz.func24 Z Z Z <| bu (fun w H=>ci (hT w H).r) ?_;rintro ⟨A,c,hrv,_,_,_,k3,_⟩;refine bu (fun w H=>ci (hT' w H).r) ?_;rintro ⟨A',c',hrv',_,_,_,k3',_⟩;dsimp only at hrv hrv' k3 k3';subst hrv hrv';refine anf <| br Z Z Z Z Z fun g2=>br Z Z Z Z Z fun g3=>ae Z <| ane <| ac <| anf <| ae Z <| ba 1 Z Z Z <| ae Z <| ba 0 Z Z Z <| au Z Z Z (F3 (xs:=V) (ys:=V') (fun w H=>(hT w (H.ent (af 2 [] Z))).v) (fun w H=>(hT' w (H.ent (af 2 [] Z))).v)) <| wt 13 Z hV <| apo Z Z Z <| ba 1 Z Z Z <| apn Z Z <| ba 0 Z Z Z <| apo Z Z Z <| ane ?_
 refine sm 23 (.bool false) Z (by
  show Value.bool (!decide _)=_;rw [ap5 (by omega)];rfl) ?_
 refine ai Z <| ah <| ab <| ac <| anf <| ae Z <| ane <| ak <| d6 (S:=Nat) (fun i=> [(2,pp g2),(3,pp g3),(5,ii i)]) (fun _=>pt g3 bt [vv',.slice A' rs'.length c']::pt g2 bt [vv,.slice A rs.length c]::F) (fun i=>i≤rs.length) (fun i=>rs.length - i) 0 av (aqc _) ?_;intro i hi;refine ac <| anf <| apn Z Z <| ba 1 Z Z Z <| apn Z Z <| ane ?_;refine cj Z (fun h1=> ?_) (fun h1=> ?_);rotate_left
 ·refine b8 <| aw <| ax <| aq <| ab <| anf <| ae Z <| ane <| aj <| bh Z Z (af 2 [] Z) ?_;exact ⟨rfl,rfl⟩
 have h1':i<rs.length:=by omega
 have h2':i<rs'.length:=by omega
 obtain ⟨gg,oo,rfl⟩:=k3 (by omega);obtain ⟨gg',oo',rfl⟩:=k3' (by omega);have hpe:rs[i].pl=rs'[i].pl:=by
  have:(rs.map Rp.pl)[i]'(by rw [ap9];exact h1')=(rs'.map Rp.pl)[i]'(by rw [ap9];exact h2'):=by simp only [hrs]
  rwa [aq7,aq7] at this
 have hcr:∀ w,Sat b F w→∀ j,j<3→w.cell? ⟨gg,oo+i*3+j,none⟩=(rpC rs[i])[j]?:=fun w H j hj=>ej (f:=rpC) (hT w H).r (fun _ _=>rfl) h1' hj
 have hcr':∀ w,Sat b F w→∀ j,j<3→w.cell? ⟨gg',oo'+i*3+j,none⟩=(rpC rs'[i])[j]?:=fun w H j hj=>ej (f:=rpC) (hT' w H).r (fun _ _=>rfl) h2' hj
 have hrr:∀ w,Sat b F w→RR w rs[i]:=fun w H=>(hT w H).rr _ (apw h1')
 have hrr':∀ w,Sat b F w→RR w rs'[i]:=fun w H=>(hT' w H).rr _ (apw h2')
 have hrw:=hW.rw _ (apw h1');generalize rs[i]=r at *;generalize rs'[i]=r' at *;obtain ⟨nm,tv,ts,mv,ms⟩:=r;obtain ⟨nm',tv',ts',mv',ms'⟩:=r';obtain rfl:nm=nm':=ap2 RP.nm hpe;obtain rfl:ms=ms':=ap2 RP.ms hpe;have hts:ts.map Tg.pl=ts'.map Tg.pl:=ap2 RP.ts hpe;have htl:ts.length=ts'.length:=by have:=ap2 List.length hts;rwa [ap9,ap9] at this
 have htn:ts.length≤1000:=hrw.tn;have hmn:ms.length≤1000:=hrw.mn;refine bu (fun w H=>ci (hrr w (H.ent (af 2 [] Z))).t) ?_;rintro ⟨B,d,htv,_,_,_,q3,_⟩;refine bu (fun w H=>ci (hrr' w (H.ent (af 2 [] Z))).t) ?_;rintro ⟨B',d',htv',_,_,_,q3',_⟩;refine bu (fun w H=>ci (hrr w (H.ent (af 2 [] Z))).m) ?_;rintro ⟨B2,d2,hmv,_⟩;refine bu (fun w H=>ci (hrr' w (H.ent (af 2 [] Z))).m) ?_;rintro ⟨B2',d2',hmv',_⟩;dsimp only at htv htv' hmv hmv' q3 q3';subst htv htv' hmv hmv';refine ah <| ab <| ac <| ak <| ac ?_;have hone:∀ (x:ByteArray) (A B:Option Addr) (n m c d:Nat),∀ u∈ [Value.string x,.slice A n c,.slice B m d],u.oneCell'=true:=fun x A B n m c d u hu=>by
  simp only [ap1,arj,or_false] at hu;rcases hu with rfl | rfl | rfl <;> rfl
 refine cK flo 14 _ (by kernel_rfl) Z av ?_;refine ve (T:=Nat × Nat) 12 [0,1,2,3,4,5,6,7,8,9,12,13] (fun s=> [(2,pp g2),(3,pp g3),(5,ii i),(6,pp s.1),(7,pp s.2)])
  (fun s=>pt s.1 bm [.string ⟨⟨[]⟩⟩,.slice none 0 0,.slice none 0 0]::pt s.2 bm [.string ⟨⟨[]⟩⟩,.slice none 0 0,.slice none 0 0]::pt g3 bt [vv',.slice (some ⟨gg',oo',none⟩) rs'.length c']::pt g2 bt [vv,.slice (some ⟨gg,oo,none⟩) rs.length c]::F) (fun _=>True) ?_ (fun J=> ?_)
 rotate_left
 ·refine my (10,[]) [(11,[])] (by kernel_rfl) ⟨fz _ Z av ?_,fz _ Z av ?_,trivial⟩
  ·refine iz Z Z Z Z Z Z av fun g6=> ?_;refine ap (ip (af 1 [] Z) (p9 11 0 (by kernel_rfl) Z ?_));refine iz Z Z Z Z Z Z (af 1 [] Z) fun g7=>ap <| ip (af 2 [] Z) ?_
   exact J (g6,g7) _ _ _ trivial (by kernel_rfl) ⟨rfl,rfl,rfl,rfl,rfl,trivial⟩ (af 2 [1,0] Z)
  ·refine iz Z Z Z Z Z Z av fun g7=> ?_;refine ap (ip (af 1 [] Z) (p9 10 0 (by kernel_rfl) Z ?_));refine iz Z Z Z Z Z Z (af 1 [] Z) fun g6=>ap <| ip (af 2 [] Z) ?_
   exact J (g6,g7) _ _ _ trivial (by kernel_rfl) ⟨rfl,rfl,rfl,rfl,rfl,trivial⟩ av
 rintro ⟨g6,g7⟩ _;dsimp only;refine my (12,[0,1,2,3,4]) [] (by kernel_rfl) ⟨i6 0 5 (L2:= []) Z Z ?_,trivial⟩;refine bj Z Zl <| cd 1 Z Z Z Z <| bj Z Zl <| dx Z Z ?_;refine j7 Z (fun w H=>di (cs:=rpC ⟨nm,.slice B ts.length d,ts,.slice B2 ms.length d2,ms⟩) Z Z Z Z (fun j hj=>by rw [b5,apu];exact hcr w (H.ent (af 2 [] Z)) j hj)) Z Z ?_;refine ap <| pk (af 2 [] Z) <| fz _ Z av <| yc (vs:=rpC ⟨nm,.slice B ts.length d,ts,.slice B2 ms.length d2,ms⟩) 0 Z Z Z Z Z Z Z Z Z (hone _ _ _ _ _ _ _) Z (af 2 [] Z) <| ap <| ip (af 2 [] Z) ?_;refine my (13,[5,6,7,8,9]) [] (by kernel_rfl) ⟨i6 5 5 (L2:= []) Z Z ?_,trivial⟩;refine bj Z Zl <| cd 0 Z Z Z Z <| bj Z Zl <| dx Z Z ?_;refine j7 Z (fun w H=>di (cs:=rpC ⟨nm,.slice B' ts'.length d',ts',.slice B2' ms.length d2',ms⟩) Z Z Z Z (fun j hj=>by rw [b5,apu];exact hcr' w (H.ent (af 2 [] Z)) j hj)) Z Z ?_;refine ap <| pk (af 2 [] Z) <| fz _ Z av <| yc (vs:=rpC ⟨nm,.slice B' ts'.length d',ts',.slice B2' ms.length d2',ms⟩) 1 Z Z Z Z Z Z Z Z Z (hone _ _ _ _ _ _ _) Z (af 2 [] Z) ?_;refine ap (ip (af 2 [] Z) (jG 0 0 (by kernel_rfl) (by kernel_rfl) Z (ap ?_)));refine ab <| ac <| anf <| ae Z <| ba 0 Z Z Z <| ae Z <| ba 1 Z Z Z <| apn Z Z ?_;refine bn 46 (.bool false) Z (by
  show Value.bool (!decide _)=_;rw [ap5 rfl];rfl) ?_
 refine ae Z <| ba 0 Z Z Z <| apn Z Z <| ba 1 Z Z Z <| apo Z Z Z <| ae Z ?_;refine bn 55 (.bool false) Z (by
  show Value.bool (!decide _)=_;rw [ap5 (by omega)];rfl) ?_
 refine ae Z <| ba 0 Z Z Z <| ae Z <| ba 1 Z Z Z <| au Z Z Z (oV (hs:=ms) (fun w H=>(hrr w (H.ent (af 4 [] Z))).m) (fun w H=>(hrr' w (H.ent (af 4 [] Z))).m) (fun h hh=>(hrw.mh h hh).id.1) hmn) <| apn Z Z <| ane <| ai Z <| ah <| ab <| anf <| ae Z <| ane <| ak <| d6 (S:=Nat) (fun j=> [(2,pp g2),(3,pp g3),(5,ii i),(6,pp g6),(7,pp g7),(8,ii j)]) (fun _=>pt g6 bm (rpC ⟨nm,.slice B ts.length d,ts,.slice B2 ms.length d2,ms⟩)::pt g7 bm (rpC ⟨nm,.slice B' ts'.length d',ts',.slice B2' ms.length d2',ms⟩)::pt g3 bt [vv',.slice (some ⟨gg',oo',none⟩) rs'.length c']::pt g2 bt [vv,.slice (some ⟨gg,oo,none⟩) rs.length c]::F) (fun j=>j≤ts.length) (fun j=>ts.length - j) 0 av (aqc _) ?_;intro j hj;refine ac <| anf <| apn Z Z <| ba 0 Z Z Z <| apn Z Z <| ane ?_;refine cj Z (fun h3=> ?_) (fun h3=> ?_);rotate_left
 ·refine b8 <| aw <| ax <| aq <| bg <| ab <| aa <| ae Z <| ay Z <| ae Z <| ad ?_;rw [show (i:Int)+1=((i+1:Nat):Int) by omega];exact dj (i+1) (af 4 [2,3] Z) (show i+1≤_ by omega)
 have h3':j<ts.length:=by omega
 have h4':j<ts'.length:=by omega
 obtain ⟨gT,oT,rfl⟩:=q3 (by omega);obtain ⟨gT',oT',rfl⟩:=q3' (by omega);have hxe:ts[j].pl=ts'[j].pl:=by
  have:(ts.map Tg.pl)[j]'(by rw [ap9];exact h3')=(ts'.map Tg.pl)[j]'(by rw [ap9];exact h4'):=by simp only [hts]
  rwa [aq7,aq7] at this
 have hct:∀ w,Sat b F w→∀ k,k<2→w.cell? ⟨gT,oT+j*2+k,none⟩=(tgC ts[j])[k]?:=fun w H k hk=>ej (f:=tgC) (hrr w H).t (fun _ _=>rfl) h3' hk
 have hct':∀ w,Sat b F w→∀ k,k<2→w.cell? ⟨gT',oT'+j*2+k,none⟩=(tgC ts'[j])[k]?:=fun w H k hk=>ej (f:=tgC) (hrr' w H).t (fun _ _=>rfl) h4' hk
 have hxh:∀ w,Sat b F w→SL w 34 ts[j].hv ts[j].hs.length (zm ts[j].hs):=fun w H=>(hrr w H).g _ (apw h3')
 have hxh':∀ w,Sat b F w→SL w 34 ts'[j].hv ts'[j].hs.length (zm ts'[j].hs):=fun w H=>(hrr' w H).g _ (apw h4')
 have hxk:=hrw.gh _ (apw h3');have hxn:=hrw.gn _ (apw h3');generalize ts[j]=x at *;generalize ts'[j]=x' at *;obtain ⟨xn,xv,xs⟩:=x;obtain ⟨xn',xv',xs'⟩:=x';obtain rfl:xn=xn':=ap2 TG.nm hxe;obtain rfl:xs=xs':=ap2 TG.hs hxe;refine ah <| ab <| ac <| ak <| ac <| cq flo _ (by decide +kernel) av <| bj Z Zl <| cd 0 Z Z Z Z <| bj Z Zl <| dx Z Z <| bj Z Zl ?_;refine j7 Z (fun w H=>bx (v:= .string xn) Z Z Z (by rw [b5,apu];exact (hct w (H.ent (af 4 [] Z)) 0 (by omega)).trans Z)) Z Z ?_;refine bj Z Zl <| cd 1 Z Z Z Z <| bj Z Zl <| dx Z Z <| bj Z Zl ?_;refine j7 Z (fun w H=>bx (v:= .string xn) Z Z Z (by rw [b5,apu];exact (hct' w (H.ent (af 4 [] Z)) 0 (by omega)).trans Z)) Z Z ?_;refine bj Z Zl <| bj Z Zl ?_;refine eu 83 (.bool false) Z (by
  show Value.bool (!decide _)=_;rw [ap5 rfl];rfl) ?_
 refine bj Z Zl <| cd 0 Z Z Z Z <| bj Z Zl <| dx Z Z <| bj Z Zl ?_;refine j7 Z (fun w H=>bx (v:=xv) Z Z Z (by rw [b5,apu];exact (hct w (H.ent (af 4 [] Z)) 1 (by omega)).trans Z)) Z Z ?_;refine bj Z Zl <| cd 1 Z Z Z Z <| bj Z Zl <| dx Z Z <| bj Z Zl ?_;refine j7 Z (fun w H=>bx (v:=xv') Z Z Z (by rw [b5,apu];exact (hct' w (H.ent (af 4 [] Z)) 1 (by omega)).trans Z)) Z Z ?_;refine fe Z Z Z Z (oV (hs:=xs) (fun w H=>hxh w (H.ent (af 4 [] Z))) (fun w H=>hxh' w (H.ent (af 4 [] Z))) (fun h hh=>(hxk h hh).id.1) hxn) av <| bj Z Zl <| bj Z Zl <| ap <| ab <| ai Z <| ah <| bg <| ab <| aa <| ae Z <| ay Z <| ae Z <| ad ?_;rw [show (j:Int)+1=((j+1:Nat):Int) by omega];exact dj (j+1) av (show j+1≤_ by omega)
end
end Go.Proofs.YtbfailbgdnpaiaaGreatDoor
