/- Digests, part one: words of 32 bits; how a block's 64 words are spread. Conditions: the bytes may be read. -/
import Derived.Test.YtbpdffopjkhelaaGreatX4
import Derived.Test.YtbpdffopjkhelaaGreatX2
import Derived.Test.YtbpdffopjkhelaaGreatX3
set_option maxRecDepth 20000
set_option maxHeartbeats 8000000
namespace Go.Proofs.YtbpdffopjkhelaaGreat
open Go.Eng Go.RowKit

def Nx (a b:Int):Int:=kU .or .u32 a b
def fO (a b:Int):Int:=kU .xor .u32 a b
def C9 (a b:Int):Int:=kU .and .u32 a b
def uo (a b:Int):Int:=IntKind.u32.wrap (a+b)
def Da (a:Int) (n:Nat):Int:=IntKind.u32.wrap (a*2 ^ n)
def Iy (a:Int) (n:Nat):Int:=a.fdiv (2 ^ n)
def oN (a:Int) (n:Nat):Int:=Nx (Da a (32 - n)) (Iy a n)
theorem Gn:∀ n:Fin 32,1≤n.val→kU .and .u64 (IntKind.u64.wrap (IntKind.i64.wrap (0 - (n.val:Int)))) 31=((32 - n.val:Nat):Int):=by decide +kernel
theorem Ny:∀ n:Fin 32,1≤n.val→IntKind.u64.wrap (32 - ((32 - n.val:Nat):Int))=(n.val:Int):=by decide +kernel

theorem mF (x:Int) (n:Nat) (h1:1≤n) (h2:n<32) (w:World) :
  Calls Tryz.prog aD #[.int .u32 x,ii (IntKind.i64.wrap (0 - (n:Int)))] w fun e w'=>e = .returned (.int .u32 (oN x n))∧w=w':=by
 have ha:=Gn ⟨n,h2⟩ h1;have hb:=Ny ⟨n,h2⟩ h1;dsimp only at ha hb;refine ut Tryz.func284 Z Z <| sr <| o_p Z Z Z <| on <| sr <| o_p Z Z Z <| o_p Z Z Z <| o_p Z Z Z <| o_p Z Z Z <| on <| sr <| o_p Z Z Z <| o_p Z Z Z ?_;rw [ha]
 skip
 refine o_c Z Z Z (by omega) <| o_p Z Z Z <| o_p Z Z Z <| o_p Z Z Z ?_;rw [hb];refine o_c Z Z Z (by omega) <| o_p Z Z Z <| o_p Z Z Z <| on <| fj <| ic Z Z ⟨?_,rfl⟩;have e1:min ((32 - n:Nat):Int).toNat 32=32 - n:=by omega
 have e2:min (n:Int).toNat 32=n:=by omega
 simp only [oN,Nx,Da,Iy,IntKind.bits,e1,e2]

theorem ku (x:Int) (n:Nat) (h1:1≤n) (h2:n<32) (w:World) :
  Calls Tryz.prog zR #[.int .u32 x,ii n] w fun e w'=>e = .returned (.int .u32 (oN x n))∧w=w':=by
 refine ut Tryz.func246 Z Z <| sr <| o_p Z Z Z <| on <| sr <| o_p Z Z Z <| o_p Z Z Z <| o_p Z Z Z <| iq Z (eh Z) Z <| (mF x n h1 h2 w).mono ?_;rintro _ _ ⟨rfl,rfl⟩;refine ⟨_,rfl,?_⟩;refine o_p Z Z Z <| on ?_;exact fj (ic Z Z ⟨rfl,rfl⟩)

def tD (b:List Int) (i:Nat):Int:=b.getD i 0
def Wl (b:List Int) (i:Nat):Int :=
 Nx (Nx (Nx (Da (IntKind.u32.wrap (tD b (4*i))) 24) (Da (IntKind.u32.wrap (tD b (4*i+1))) 16)) (Da (IntKind.u32.wrap (tD b (4*i+2))) 8)) (IntKind.u32.wrap (tD b (4*i+3)))
def ai4 (x:Int):Int:=fO (fO (oN x 7) (oN x 18)) (Iy x 3)
def ai5 (x:Int):Int:=fO (fO (oN x 17) (oN x 19)) (Iy x 10)
def xO (b W:List Int) (i:Nat):Int :=
 if i<16 then Wl b i else uo (uo (uo (W.getD (i - 16) 0) (ai4 (W.getD (i - 15) 0))) (W.getD (i - 7) 0)) (ai5 (W.getD (i - 2) 0))
def iy (b:List Int):Nat→List Int
 | 0 => []
 | i + 1 => iy b i ++ [xO b (iy b i) i]
theorem bK (b:List Int) (i:Nat):(iy b i).length=i:=by
 induction i with
 | zero => rfl
 | succ i ih => simp [iy, ih]
def gz (l:List Int):List Value:=l.map (Value.int .u32)
def u5 (b:List Int) (i:Nat):List Value:=gz (iy b i)++List.replicate (64 - i) (.int .u32 0)
theorem tE (b:List Int) (i:Nat) (h:i≤64):(u5 b i).length=64:=by simp [u5,gz,bK];omega
theorem Gp (b:List Int) (i j:Nat) (h:j<i):(u5 b i)[j]? = some (.int .u32 ((iy b i).getD j 0)):=by
 have hl:=bK b i;rw [u5,aot (by simp [gz,hl];omega)];simp only [gz,apj,ano];rw [am8 (by omega)]
 rfl
theorem tF (b:List Int) (i:Nat) (h:i<64):(u5 b i).set i (.int .u32 (xO b (iy b i) i))=u5 b (i+1):=by
 have hl:=bK b i;unfold u5;rw [List.set_append_right _ _ (by simp [gz,hl])];have e:64 - i=(64 - (i+1))+1:=by omega
 rw [e,List.replicate_succ];simp [gz,iy,hl]

theorem Db {vb:Value} {b:List Int} {w:World} (hb:VL (Value.int .u8) w vb b) (hl:64≤b.length) :
  Calls Tryz.prog zQ #[vb] w fun e w'=>e = .returned (.agg (gz (iy b 64)).toArray)∧Ext w w':=by
 obtain ⟨A,c,rfl,hnc,hcm,hz,hcell⟩:=hb.op;refine qX Tryz.func245 Z Z <| dz <| cu <| yW Z Z Z Z ?_;intro w1 B1 e1 z1;change Blk w1 w.heap.size i9 (u5 b 0) at B1;refine on <| ss <| sr <| o_p Z Z Z <| on ?_;refine jk (cC (G:=Nat) (fun i=> [(0,.slice A b.length c),(2,pp w.heap.size),(6,ii i)]) (fun i W=>Ext w W∧Blk W w.heap.size i9 (u5 b i)∧i≤64) (fun i=>64 - i) ?_ ?_)
 ·exact ⟨0,⟨rfl,rfl,rfl,trivial⟩,e1,B1,by omega⟩
 rintro i W ⟨hE,B,hi⟩
 try dsimp only
 refine sr <| o_p Z Z Z <| on ?_;refine (dz (wy Z (fun h=> ?_) (fun h=> ?_)))
 ·obtain ⟨bk,off,rfl,hbk,hc⟩:=hcell 0 (by omega);have hE':Ext w W.drew:=hE.trans (Fr.drew _);have hlen:=tE b i (by omega);refine jx <| b8 <| dz <| jk <| dz <| cu <| o_p Z Z Z <| o_p Z Z Z <| on <| ss <| sr <| o_p Z Z Z <| o_p Z Z Z <| on ?_;have h0:∀ j:Nat,0+j=j:=fun j=>aob j
  have hex:∃ u,(u5 b i)[i]? = some u:=⟨_,am8 (by omega)⟩;obtain ⟨u,hu⟩:=hex;have hst:∀ W',Blk W' w.heap.size i9 (u5 b i)→W'.cell? ⟨w.heap.size,0+i,none⟩=some u∧W'.frozen? ⟨w.heap.size,0+i,none⟩=false:=by
   intro W' h;rw [h0];exact ⟨(h.cell i).trans hu,h.frozen i⟩
  refine wy Z (fun h2=> ?_) (fun h2=> ?_)
  ·have Bd:=B.ext (Fr.drew W);have hbyte:∀ j,j<4→W.drew.cell? ⟨bk,off+(4*i+j),none⟩=some (.int .u8 (tD b (4*i+j))):=by
    intro j hj;have:=hE'.cell (hc (4*i+j) (by omega));rw [this,tD,ano,am8 (by omega)]
    rfl
   refine dz <| qc flo (fun W'=>∀ j,j<4→W'.cell? ⟨bk,off+(4*i+j),none⟩=some (.int .u8 (tD b (4*i+j)))) (by decide +kernel) hbyte <| d_p Z Z Z Z <| d_p Z Z Z Z <| d_p Z Z Z Z <| d_c Z Z Z Z (by (unfold I64;omega)) <| od (4*i+0) Z Z Z Z (by omega) (by omega) <| ie Z Z (fun W' hW'=>br Z Z Z (hW' 0 (by omega))) Z <| d_p Z Z Z Z ?_;refine d_c Z Z Z Z (by (show (0:Int)≤_;omega)) ?_;refine d_p Z Z Z Z <| d_p Z Z Z Z ?_
   (iterate 2 refine d_c Z Z Z Z (by (unfold I64;omega)) ?_)
   refine od (4*i+1) Z Z Z Z (by omega) (by omega) <| ie Z Z (fun W' hW'=>br Z Z Z (hW' 1 (by omega))) Z <| d_p Z Z Z Z ?_;refine d_c Z Z Z Z (by (show (0:Int)≤_;omega)) ?_;refine d_p Z Z Z Z <| d_p Z Z Z Z <| d_p Z Z Z Z ?_
   (iterate 2 refine d_c Z Z Z Z (by (unfold I64;omega)) ?_)
   refine od (4*i+2) Z Z Z Z (by omega) (by omega) <| ie Z Z (fun W' hW'=>br Z Z Z (hW' 2 (by omega))) Z <| d_p Z Z Z Z ?_;refine d_c Z Z Z Z (by (show (0:Int)≤_;omega)) ?_;refine d_p Z Z Z Z <| d_p Z Z Z Z <| d_p Z Z Z Z ?_
   (iterate 2 refine d_c Z Z Z Z (by (unfold I64;omega)) ?_)
   refine od (4*i+3) Z Z Z Z (by omega) (by omega) <| ie Z Z (fun W' hW'=>br Z Z Z (hW' 3 (by omega))) Z <| d_p Z Z Z Z <| d_p Z Z Z Z <| od (i) Z Z Z Z (by omega) (by omega) ?_;refine Br Z Z (vp Z Z Z Z Z (hst _ Bd).1 (hst _ Bd).2) ?_ ?_
   ·intro j hj;have hne:=hE.size;have hbl:=hbk;exact (Fr.cell' (Fr.setCell _ _ _) (hbyte j hj) (by simp;omega))
   refine ov <| b8 <| xq <| kj <| jw <| b8 <| cu ?_;refine o_c Z Z Z (by unfold I64;omega) ?_;refine o_p Z Z Z ?_;have hn:xO b (iy b i) i=Wl b i:=if_pos (by omega);have Bs:=Bd.set i (.int .u32 (xO b (iy b i) i));rw [tF b i (by omega),hn] at Bs;have hzz:0+nK i 1=i:=by rw [bq];omega
   refine (ec (vk (i+1) ?_ ?_ ?_))
   ·exact ⟨rfl,rfl,rfl,trivial⟩
   ·refine ⟨hE'.trans' (Fr.setCell _ _ _) (fun j hj h=>by simp at h;omega),?_,by omega⟩;rw [hzz];exact Bs
   ·show 64 - (i+1)<64 - i;omega
  ·have h2':16≤i:=by omega
   have Bd:=B.ext (Fr.drew W);have hS:∀ j,j<i→W.drew.cell? ⟨w.heap.size,0+j,none⟩=some (.int .u32 ((iy b i).getD j 0)):=fun j hj=>by
    rw [h0];exact (Bd.cell j).trans (Gp b i j hj)
   have hS2:∀ j,j<i→W.drew.drew.cell? ⟨w.heap.size,0+j,none⟩=some (.int .u32 ((iy b i).getD j 0)):=fun j hj=>Ext.cell (Fr.drew _) (hS j hj)
   have hS3:∀ j,j<i→W.drew.drew.drew.cell? ⟨w.heap.size,0+j,none⟩=some (.int .u32 ((iy b i).getD j 0)):=fun j hj=>Ext.cell (Fr.drew _) (hS2 j hj)
   refine jx <| b8 <| dz <| qc flo (fun W'=>∀ j,j<i→W'.cell? ⟨w.heap.size,0+j,none⟩=some (.int .u32 ((iy b i).getD j 0))) (by decide +kernel) hS <| d_p Z Z Z Z <| d_c Z Z Z Z (by (unfold I64;omega)) <| od (i - 15) Z Z Z Z (by omega) (by omega) <| ie Z Z (fun W' hW'=>br Z Z Z (hW' (i - 15) (by omega))) Z <| mc Z Z (eh Z) Z <| (ku _ 7 (by decide) (by decide) _).mono ?_;rintro _ _ ⟨rfl,rfl⟩;refine ⟨_,rfl,hS,?_⟩;refine d_p Z Z Z Z <| d_c Z Z Z Z (by (unfold I64;omega)) <| od (i - 15) Z Z Z Z (by omega) (by omega) <| ie Z Z (fun W' hW'=>br Z Z Z (hW' (i - 15) (by omega))) Z <| mc Z Z (eh Z) Z <| (ku _ 18 (by decide) (by decide) _).mono ?_;rintro _ _ ⟨rfl,rfl⟩;refine ⟨_,rfl,hS,?_⟩;refine d_p Z Z Z Z <| d_p Z Z Z Z <| d_c Z Z Z Z (by (unfold I64;omega)) <| od (i - 15) Z Z Z Z (by omega) (by omega) <| ie Z Z (fun W' hW'=>br Z Z Z (hW' (i - 15) (by omega))) Z ?_;refine d_c Z Z Z Z (by (show (0:Int)≤_;omega)) ?_;refine d_p Z Z Z Z <| d_p Z Z Z Z <| ov <| b8 <| dz <| qc flo (fun W'=>∀ j,j<i→W'.cell? ⟨w.heap.size,0+j,none⟩=some (.int .u32 ((iy b i).getD j 0))) (by decide +kernel) hS2 <| d_p Z Z Z Z <| d_c Z Z Z Z (by (unfold I64;omega)) <| od (i - 2) Z Z Z Z (by omega) (by omega) <| ie Z Z (fun W' hW'=>br Z Z Z (hW' (i - 2) (by omega))) Z <| mc Z Z (eh Z) Z <| (ku _ 17 (by decide) (by decide) _).mono ?_;rintro _ _ ⟨rfl,rfl⟩;refine ⟨_,rfl,hS2,?_⟩;refine d_p Z Z Z Z <| d_c Z Z Z Z (by (unfold I64;omega)) <| od (i - 2) Z Z Z Z (by omega) (by omega) <| ie Z Z (fun W' hW'=>br Z Z Z (hW' (i - 2) (by omega))) Z <| mc Z Z (eh Z) Z <| (ku _ 19 (by decide) (by decide) _).mono ?_;rintro _ _ ⟨rfl,rfl⟩;refine ⟨_,rfl,hS2,?_⟩;refine d_p Z Z Z Z <| d_p Z Z Z Z <| d_c Z Z Z Z (by (unfold I64;omega)) <| od (i - 2) Z Z Z Z (by omega) (by omega) <| ie Z Z (fun W' hW'=>br Z Z Z (hW' (i - 2) (by omega))) Z ?_;refine d_c Z Z Z Z (by (show (0:Int)≤_;omega)) ?_;refine d_p Z Z Z Z <| d_p Z Z Z Z <| ov <| b8 <| qc flo (fun W'=>∀ j,j<i→W'.cell? ⟨w.heap.size,0+j,none⟩=some (.int .u32 ((iy b i).getD j 0))) (by decide +kernel) hS3 <| d_p Z Z Z Z <| d_p Z Z Z Z <| d_c Z Z Z Z (by (unfold I64;omega)) <| od (i - 16) Z Z Z Z (by omega) (by omega) <| ie Z Z (fun W' hW'=>br Z Z Z (hW' (i - 16) (by omega))) Z <| d_p Z Z Z Z <| d_p Z Z Z Z <| d_p Z Z Z Z <| d_c Z Z Z Z (by (unfold I64;omega)) <| od (i - 7) Z Z Z Z (by omega) (by omega) <| ie Z Z (fun W' hW'=>br Z Z Z (hW' (i - 7) (by omega))) Z <| d_p Z Z Z Z <| d_p Z Z Z Z <| d_p Z Z Z Z <| od (i) Z Z Z Z (by omega) (by omega) ?_;have B3:=(Bd.ext (Fr.drew _)).ext (Fr.drew W.drew.drew);have hE3:Ext w W.drew.drew.drew:=(hE'.trans (Fr.drew _)).trans (Fr.drew _);refine Br Z Z (vp Z Z Z Z Z (hst _ B3).1 (hst _ B3).2) ?_ ?_
   ·intro j hj;have hne:(⟨w.heap.size,0+j,none⟩:Addr)≠⟨w.heap.size,0+nK i 1,none⟩:=by rw [bq];simp <;> omega
    rw [World.cell?_setCell_other _ _ _ _ hne.symm];exact hS3 j hj
   have hn:xO b (iy b i) i=uo (uo (uo ((iy b i).getD (i - 16) 0) (ai4 ((iy b i).getD (i - 15) 0))) ((iy b i).getD (i - 7) 0)) (ai5 ((iy b i).getD (i - 2) 0)):=if_neg (by omega);have Bs:=B3.set i (.int .u32 (xO b (iy b i) i));rw [tF b i (by omega),hn] at Bs;have hzz:0+nK i 1=i:=by rw [bq];omega
   refine ov <| nc <| b8 <| cu ?_;refine o_c Z Z Z (by unfold I64;omega) ?_;refine o_p Z Z Z ?_;refine (ec (vk (i+1) ?_ ?_ ?_))
   ·exact ⟨rfl,rfl,rfl,trivial⟩
   ·refine ⟨hE3.trans' (Fr.setCell _ _ _) (fun j hj h=>by simp at h;omega),?_,by omega⟩;rw [hzz];exact Bs
   ·show 64 - (i+1)<64 - i;omega
 ·refine xq <| kj <| ma <| jw <| b8 <| dz <| cu ?_;obtain rfl:i=64:=by omega
  have hlen:=tE b 64 (by omega);have hW:u5 b 64=gz (iy b 64):=by simp [u5]
  rw [hW] at B hlen;generalize iy b 64=X at *;refine ek Z (cg (cs:=gz X) Z Z Z hlen (fun j _=>by rw [aob];exact B.cell j)) Z ?_;refine aK Z (ux (vs:=gz X) Z Z Z Z (by rw [hlen];rfl) (by intro u hu;obtain ⟨x,_,rfl⟩:=anb.1 hu;rfl) B (aqb (by omega))) ?_;have Bf:=B.setRow (ds:=spl (gz X) 0 (gz X));have hspl:spl (gz X) 0 (gz X)=gz X:=by simp [spl]
  rw [hspl] at Bf;rw [hspl];refine (ec (b8 (fj (gO Z Z Z Z (by rw [hlen];rfl) Bf ⟨rfl,?_⟩))));exact hE.trans' (Fr.setRow _ _ _) (fun j hj h=>by omega)

def oO:List Int:= [
 0x428a2f98,0x71374491,0xb5c0fbcf,0xe9b5dba5,0x3956c25b,0x59f111f1,0x923f82a4,0xab1c5ed5,
 0xd807aa98,0x12835b01,0x243185be,0x550c7dc3,0x72be5d74,0x80deb1fe,0x9bdc06a7,0xc19bf174,
 0xe49b69c1,0xefbe4786,0x0fc19dc6,0x240ca1cc,0x2de92c6f,0x4a7484aa,0x5cb0a9dc,0x76f988da,
 0x983e5152,0xa831c66d,0xb00327c8,0xbf597fc7,0xc6e00bf3,0xd5a79147,0x06ca6351,0x14292967,
 0x27b70a85,0x2e1b2138,0x4d2c6dfc,0x53380d13,0x650a7354,0x766a0abb,0x81c2c92e,0x92722c85,
 0xa2bfe8a1,0xa81a664b,0xc24b8b70,0xc76c51a3,0xd192e819,0xd6990624,0xf40e3585,0x106aa070,
 0x19a4c116,0x1e376c08,0x2748774c,0x34b0bcb5,0x391c0cb3,0x4ed8aa4a,0x5b9cca4f,0x682e6ff3,
 0x748f82ee,0x78a5636f,0x84c87814,0x8cc70208,0x90befffa,0xa4506ceb,0xbef9a3f7,0xc67178f2]
def u6:List Int:= [0x6a09e667,0xbb67ae85,0x3c6ef372,0xa54ff53a,0x510e527f,0x9b05688c,0x1f83d9ab,0x5be0cd19]

theorem y1 (l:List Int):∀ u∈gz l,u.oneCell'=true:=by intro u hu;obtain ⟨x,_,rfl⟩:=anb.1 hu;rfl
theorem y2 (l:List Int):(gz l).length=l.length:=by simp [gz]
theorem fP (l:List Int) (i:Nat) (h:i<l.length):(gz l)[i]? = some (.int .u32 (l.getD i 0)):=by
 simp only [gz,apj,ano];rw [am8 h];rfl
theorem K7 (w:World):Calls Tryz.prog Gj #[] w fun e w'=>e = .returned (.agg (gz oO).toArray)∧Ext w w':=by
 refine Fi Tryz.func244 Z Z <| dz <| cu <| yW Z Z Z Z ?_;intro w1 B1 e1 z1;change Blk w1 w.heap.size i9 (gz (List.replicate 64 0)) at B1;refine on <| sr ?_;refine aL (v:= .agg ⟨gz oO⟩) Z (uw (by kernel_rfl)) Z ?_;refine aK Z (x7 (vs:=gz oO) Z Z Z Z Z (y1 _) B1 Z) ?_;exact (ec (b8 (fj (gO Z Z Z Z Z (B1.setRow (ds:=gz oO)) ⟨rfl,e1.trans' (Fr.setRow _ _ _) (fun j hj h=>by omega)⟩))))
theorem Gq (w:World):Calls Tryz.prog Cv #[] w fun e w'=>e = .returned (.agg (gz u6).toArray)∧Ext w w':=by
 refine Fi Tryz.func165 Z Z <| dz <| cu <| yW Z Z Z Z ?_;intro w1 B1 e1 z1;change Blk w1 w.heap.size jq (gz (List.replicate 8 0)) at B1;refine on <| sr ?_;refine aL (v:= .agg ⟨gz u6⟩) Z (uw (by kernel_rfl)) Z ?_;refine aK Z (x7 (vs:=gz u6) Z Z Z Z Z (y1 _) B1 Z) ?_;exact (ec (b8 (fj (gO Z Z Z Z Z (B1.setRow (ds:=gz u6)) ⟨rfl,e1.trans' (Fr.setRow _ _ _) (fun j hj h=>by omega)⟩))))

structure W8 where
 a:Int
 b:Int
 c:Int
 d:Int
 e:Int
 f:Int
 g:Int
 h:Int
def W8.l (s:W8):List Int:= [s.a,s.b,s.c,s.d,s.e,s.f,s.g,s.h]
def ai6 (s:W8) (k x:Int):Int:=uo (uo (uo (uo s.h (fO (fO (oN s.e 6) (oN s.e 11)) (oN s.e 25))) (fO (C9 s.e s.f) (C9 (cpl .u32 s.e) s.g))) k) x
def amq (s:W8):Int:=uo (fO (fO (oN s.a 2) (oN s.a 13)) (oN s.a 22)) (fO (fO (C9 s.a s.b) (C9 s.a s.c)) (C9 s.b s.c))
def rnd (s:W8) (k x:Int):W8:=⟨uo (ai6 s k x) (amq s),s.a,s.b,s.c,uo s.d (ai6 s k x),s.e,s.f,s.g⟩
def wI (s:W8) (K X:List Int):Nat→W8
 | 0 => s
 | n + 1 => rnd (wI s K X n) (K.getD n 0) (X.getD n 0)
def upd (A C:List Int) (i:Nat):List Int:=(List.range 8).map fun j=>if j<i then uo (A.getD j 0) (C.getD j 0) else A.getD j 0
theorem gW (A C:List Int) (i:Nat):(upd A C i).length=8:=by simp [upd]
theorem Sq (A C:List Int) (i j:Nat) (h:j<8):(upd A C i).getD j 0=if j<i then uo (A.getD j 0) (C.getD j 0) else A.getD j 0:=by
 rw [ano,am8 (by rw [gW];exact h)];simp [upd]
theorem Sr (A C:List Int) (i:Nat) (h:i<8):(upd A C i).set i (uo (A.getD i 0) (C.getD i 0))=upd A C (i+1):=by
 apply aqr
 ·simp [gW]
 ·intro j h1 h2;rw [List.getElem_set];simp only [upd,aox,List.getElem_range]
  split
  ·rename_i e;subst e;rw [if_pos (by omega)]
  ·rename_i e
   by_cases hj:j<i
   ·rw [if_pos hj,if_pos (by omega)]
   ·rw [if_neg hj,if_neg (by omega)]
theorem Nz (A C:List Int) (h:A.length=8):upd A C 0=A:=by
 apply aqr
 ·rw [gW,h]
 ·intro j h1 h2;simp [upd,am8 h2]
def toW (l:List Int):W8:=⟨l.getD 0 0,l.getD 1 0,l.getD 2 0,l.getD 3 0,l.getD 4 0,l.getD 5 0,l.getD 6 0,l.getD 7 0⟩
theorem ai7 (l:List Int) (h:l.length=8):(toW l).l=l:=by
 match l,h with
 | [_, _, _, _, _, _, _, _], _ => rfl
def cW (A b:List Int):List Int:=upd A (wI (toW A) oO (iy b 64) 64).l 8
theorem kE (A b:List Int):(cW A b).length=8:=gW _ _ _

theorem Yj {P:Program} {fl:Oper→Bool} {ro:Option Nat} {N:Nat} {S:World→Prop} {l:List Oper} {k:Nat} {rest:List Oper} {Q:Exit→Act→World→Prop} {E E':List (Nat × Value)} {ds:List Deferred} {w:World} (hs:Sub E' E)
  (h:DW P fl ro N S l k rest Q E' ds w):DW P fl ro N S l k rest Q E ds w:=fun a hk hd hS hl=>h a (hk.sub hs) hd hS hl
def Yk:Option Code→Code
 | some (.seq r _) => r
 | _ => .skip
theorem Gr {vb:Value} {A b:List Int} {rest:List Value} {ga ta:Nat} {w:World} {Q':Exit→Act→World→Prop} (hb:VL (Value.int .u8) w vb b) (hl:64≤b.length) (hA:A.length=8) (BA:Blk w ga ta (gz A++rest))
  (H:∀ w8 gc gk gx,Ext w w8→w.heap.size≤gc→w.heap.size≤gk→w.heap.size≤gx→gc≠gk→gc≠gx→gk≠gx→Blk w8 gc jq (gz A)→Blk w8 gk i9 (gz oO)→Blk w8 gx i9 (gz (iy b 64)) →
   PN Tryz.f167.ntmps Q' .normal [(0,pp ga),(4,pp gc),(5,pp gk),(6,pp gx)] [] w8) :
  CW Tryz.prog none Tryz.f167.ntmps (Yk Tryz.f167.body) Q' [(0,pp ga),(1,vb)] [] w:=by
 have hA8:(gz A).length=8:=by rw [y2,hA]
 let own:Nat→Value→Option Nat:=fun i v=>if 6≤i then (match v with | .pointer (some a)=>some a.block | _=>none) else none
 let φ:Nat→(Nat→Value)→World→Prop:=fun i vs w=>match i with
  | 0 => vs 0 = pp ga
  | 1 => vs 1 = pp ga
  | 2 => vs 2 = .agg (gz A).toArray
  | 3 => vs 3 = .agg (gz oO).toArray
  | 4 => vs 4 = vb
  | 5 => vs 5 = .agg (gz (iy b 64)).toArray
  | 6 => ∃ g, vs 6 = pp g ∧ Blk w g jq (gz (List.replicate 8 0))
  | 7 => ∃ g, vs 7 = pp g ∧ Blk w g i9 (gz (List.replicate 64 0))
  | 8 => ∃ g, vs 8 = pp g ∧ Blk w g i9 (gz (List.replicate 64 0))
  | _ => True
 refine X0 (fl:=flo) 9 (fun _=>True) [(0,pp ga),(1,vb)] ⟨rfl,rfl,trivial⟩ Z (by kernel_rfl) φ own ?_ ?_ ?_ ?_
 ·intro j vs w1 w2 h hE
  match j,h with
  | 0, h | 1, h | 2, h | 3, h | 4, h | 5, h => exact h
  | 6, ⟨g, h1, h2⟩ => exact ⟨g, h1, h2.ext hE⟩
  | 7, ⟨g, h1, h2⟩ => exact ⟨g, h1, h2.ext hE⟩
  | 8, ⟨g, h1, h2⟩ => exact ⟨g, h1, h2.ext hE⟩
  | _ + 9, _ => trivial
 ·intro j vs vs' w1 h hv;have:=hv j Zl
  match j,h with
  | 0, h | 1, h | 2, h | 3, h | 4, h | 5, h => exact this.symm.trans h
  | 6, ⟨g, h1, h2⟩ => exact ⟨g, this.symm.trans h1, h2⟩
  | 7, ⟨g, h1, h2⟩ => exact ⟨g, this.symm.trans h1, h2⟩
  | 8, ⟨g, h1, h2⟩ => exact ⟨g, this.symm.trans h1, h2⟩
  | _ + 9, _ => trivial
 ·intro i o hi ho vs a w' hE hk hφ
  match i,hi,ho,hk,hφ with
  | 0, _, ho, hk, hφ =>
   obtain rfl:=ao5 ho;exact jP hk (x6 (tt:=aJ tts) (by kernel_rfl) w') ⟨Fr.refl _ _,rfl,fun g h=>by simp [own] at h⟩
  | 1, _, ho, hk, hφ =>
   obtain rfl:=ao5 ho;have h0:vs 0=pp ga:=hφ 0 (by decide +kernel);have hk:=hk.sub (E':= [(11,pp ga)]) ⟨by rw [← h0];kernel_rfl,trivial⟩;exact jP hk (x6 (tt:=aJ tts) (by kernel_rfl) w') ⟨Fr.refl _ _,rfl,fun g h=>by simp [own] at h⟩
  | 2, _, ho, hk, hφ =>
   obtain rfl:=ao5 ho;have h0:vs 1=pp ga:=hφ 1 (by decide +kernel);have hk:=hk.sub (E':= [(12,pp ga)]) ⟨by rw [← h0];kernel_rfl,trivial⟩;exact jP hk (cg (tt:=aJ tts) (cs:=gz A) Z Z Z hA8 (fun j hj=>by rw [aob,(BA.ext hE).cell j,aot hj])) ⟨Fr.refl _ _,rfl,fun g h=>by simp [own] at h⟩
  | 3, _, ho, hk, hφ =>
   obtain rfl:=ao5 ho;have hk:=hk.sub (E':= []) trivial;refine Bx hk (eh Z) <| (K7 w').mono ?_;rintro e w'' ⟨rfl,he⟩;exact ⟨_,rfl,he,rfl,fun g h=>by simp [own] at h⟩
  | 4, _, ho, hk, hφ =>
   obtain rfl:=ao5 ho;have hk:=hk.sub (E':= [(1,vb)]) ⟨by kernel_rfl,trivial⟩;exact jP hk (x6 (tt:=aJ tts) (by kernel_rfl) w') ⟨Fr.refl _ _,rfl,fun g h=>by simp [own] at h⟩
  | 5, _, ho, hk, hφ =>
   obtain rfl:=ao5 ho;have h0:vs 4=vb:=hφ 4 (by decide +kernel);have hk:=hk.sub (E':= [(15,vb)]) ⟨by rw [← h0];kernel_rfl,trivial⟩;refine Bx hk (eh Z) <| (Db (hb.ext hE) hl).mono ?_;rintro e w'' ⟨rfl,he⟩;exact ⟨_,rfl,he,rfl,fun g h=>by simp [own] at h⟩
  | 6, _, ho, hk, hφ =>
   obtain rfl:=ao5 ho;exact jP hk (yc (tt:=aJ tts) Z) ⟨Fr.alloc _ _,⟨_,rfl,Blk.new w' jq (gz (List.replicate 8 0))⟩,fun g h=>by simp [own] at h;subst h;simp⟩
  | 7, _, ho, hk, hφ =>
   obtain rfl:=ao5 ho;exact jP hk (yc (tt:=aJ tts) Z) ⟨Fr.alloc _ _,⟨_,rfl,Blk.new w' i9 (gz (List.replicate 64 0))⟩,fun g h=>by simp [own] at h;subst h;simp⟩
  | 8, _, ho, hk, hφ =>
   obtain rfl:=ao5 ho;exact jP hk (yc (tt:=aJ tts) Z) ⟨Fr.alloc _ _,⟨_,rfl,Blk.new w' i9 (gz (List.replicate 64 0))⟩,fun g h=>by simp [own] at h;subst h;simp⟩
  | _ + 9, h, _, _, _ => omega
 ·intro vs w5 hE hφ hlow hap;have v2:vs 2 = .agg (gz A).toArray:=hφ 2 (by decide);have v3:vs 3 = .agg (gz oO).toArray:=hφ 3 (by decide);have v5:vs 5 = .agg (gz (iy b 64)).toArray:=hφ 5 (by decide);obtain ⟨gc,v6,B6⟩:∃ g,vs 6=pp g∧Blk w5 g jq (gz (List.replicate 8 0)):=hφ 6 (by decide);obtain ⟨gk,v7,B7⟩:∃ g,vs 7=pp g∧Blk w5 g i9 (gz (List.replicate 64 0)):=hφ 7 (by decide);obtain ⟨gx,v8,B8⟩:∃ g,vs 8=pp g∧Blk w5 g i9 (gz (List.replicate 64 0)):=hφ 8 (by decide);have o6:own 6 (vs 6)=some gc:=by rw [v6];rfl
  have o7:own 7 (vs 7)=some gk:=by rw [v7];rfl
  have o8:own 8 (vs 8)=some gx:=by rw [v8];rfl
  have l6:=hlow 6 (by decide) gc o6;have l7:=hlow 7 (by decide) gk o7;have l8:=hlow 8 (by decide) gx o8;have n67:gc≠gk:=fun e=>hap 6 7 (by decide) (by decide) (by decide) gc o6 (by rw [o7,e])
  have n68:gc≠gx:=fun e=>hap 6 8 (by decide) (by decide) (by decide) gc o6 (by rw [o8,e])
  have n78:gk≠gx:=fun e=>hap 7 8 (by decide) (by decide) (by decide) gk o7 (by rw [o8,e])
  refine ⟨trivial,?_⟩;have hX:(iy b 64).length=64:=bK b 64;have hK:oO.length=64:=rfl;generalize iy b 64=X at *;generalize oO=K at *;refine Yj (E':= [(0,pp ga),(4,pp gc),(5,pp gk),(6,pp gx),(13,.agg (gz A).toArray),(14,.agg (gz K).toArray),(16,.agg (gz X).toArray)])
   ⟨by kernel_rfl,by rw [← v6];kernel_rfl,by rw [← v7];kernel_rfl,by rw [← v8];kernel_rfl,by rw [← v2];kernel_rfl,by rw [← v3];kernel_rfl,by rw [← v5];kernel_rfl,trivial⟩ ?_
  refine nO (vs:=gz A) Z Z Z Z Z Z Z (by rw [hA8];rfl) (y1 _) B6 (by rw [hA8];rfl) ?_;intro w6 C6 f6 z6;refine ⟨trivial,?_⟩;refine nO (vs:=gz K) Z Z Z Z Z Z Z (by rw [y2,hK];rfl) (y1 _) (B7.fr f6 (by omega)) (by rw [y2,hK];rfl) ?_;intro w7 C7 f7 z7;refine ⟨trivial,?_⟩;refine nO (vs:=gz X) Z Z Z Z Z Z Z (by rw [y2,hX];rfl) (y1 _) ((B8.fr f6 (by omega)).fr f7 (by omega)) (by rw [y2,hX];rfl) ?_;intro w8 C8 f8 z8;refine ⟨trivial,ov (Xo (E':= [(0,pp ga),(4,pp gc),(5,pp gk),(6,pp gx)]) ⟨rfl,rfl,rfl,rfl,trivial⟩ (H w8 gc gk gx ?_ l6.1 l7.1 l8.1 n67 n68 n78 ((C6.fr f7 (by omega)).fr f8 (by omega)) (C7.fr f8 (by omega)) C8))⟩;exact ((hE.trans' f6 (fun j hj h=>by omega)).trans' f7 (fun j hj h=>by omega)).trans' f8 (fun j hj h=>by omega)

theorem Gs {vb:Value} {A b:List Int} {rest:List Value} {ga ta:Nat} {w:World} (hb:VL (Value.int .u8) w vb b) (hl:64≤b.length) (hA:A.length=8) (BA:Blk w ga ta (gz A++rest)) :
  Calls Tryz.prog qn #[pp ga,vb] w fun e w'=>(∃ v,e = .returned v)∧Blk w' ga ta (gz (cW A b)++rest)∧Fr (· = ga) w w':=by
 have hM:cW A b=upd A (wI (toW A) oO (iy b 64) 64).l 8:=rfl;have hX:(iy b 64).length=64:=bK b 64;have hK:oO.length=64:=rfl;rw [hM];refine ut Tryz.func167 Z Z <| dz <| Gr hb hl hA BA ?_;intro w8 gc gk gx e08 g1 g2 g3 n1 n2 n3 BC BK BX;generalize iy b 64=X at *;generalize oO=K at *;have hga:ga<w.heap.size:=BA.lt;replace BC:Blk w8 gc jq (gz (wI (toW A) K X 0).l):=by
  rwa [show (wI (toW A) K X 0).l=A from ai7 A hA]
 refine b8 <| ss <| sr <| o_p Z Z Z <| on ?_;refine jk (cC (G:=Nat) (fun i=> [(0,pp ga),(4,pp gc),(5,pp gk),(6,pp gx),(17,ii i)])
  (fun i W=>Ext w W∧Blk W gc jq (gz (wI (toW A) K X i).l)∧Blk W gk i9 (gz K)∧Blk W gx i9 (gz X)∧i≤64) (fun i=>64 - i) ?_ ?_)
 ·exact ⟨0,⟨rfl,rfl,rfl,rfl,rfl,trivial⟩,e08,BC,BK,BX,by omega⟩
 rintro i W ⟨hE,BC,BK,BX,hi⟩
 try dsimp only
 refine sr <| o_p Z Z Z <| on ?_;refine dz (wy Z (fun h=> ?_) (fun h=> ?_))
 ·have hnx:wI (toW A) K X (i+1)=rnd (wI (toW A) K X i) (K.getD i 0) (X.getD i 0):=rfl;generalize hs:wI (toW A) K X i=s at *;generalize hki:K.getD i 0=ki at *;generalize hxi:X.getD i 0=xi at *;have ck:∀ W',Ext W W'→W'.cell? ⟨gk,0+i,none⟩=some (.int .u32 ki):=fun W' hW'=>by
   rw [aob,← hki];exact Ext.cell hW' ((BK.cell i).trans (fP K i (by omega)))
  have cx:∀ W',Ext W W'→W'.cell? ⟨gx,0+i,none⟩=some (.int .u32 xi):=fun W' hW'=>by
   rw [aob,← hxi];exact Ext.cell hW' ((BX.cell i).trans (fP X i (by omega)))
  have cc:∀ W',Ext W W'→∀ j,W'.cell? ⟨gc,j,none⟩=(gz s.l)[j]?:=fun W' hW' j=>(BC.ext hW').cell j
  refine jx <| b8 <| dz <| jk <| dz <| cu <| o_p Z Z Z <| o_p Z Z Z ?_;have d1:Ext W W.drew:=Fr.drew _;refine ec <| b8 <| dz <| qc flo (fun W'=>Ext W W') (by decide +kernel) d1 <| od (7) Z Z Z Z (by omega) (by omega) <| ie Z Z (fun W' hW'=>br Z Z Z (cc W' hW' 7)) Z <| od (4) Z Z Z Z (by omega) (by omega) <| ie Z Z (fun W' hW'=>br Z Z Z (cc W' hW' 4)) Z <| mc Z Z (eh Z) Z <| (ku _ 6 (by decide) (by decide) _).mono ?_;rintro _ _ ⟨rfl,rfl⟩;refine ⟨_,rfl,d1,?_⟩;refine od (4) Z Z Z Z (by omega) (by omega) <| ie Z Z (fun W' hW'=>br Z Z Z (cc W' hW' 4)) Z <| mc Z Z (eh Z) Z <| (ku _ 11 (by decide) (by decide) _).mono ?_;rintro _ _ ⟨rfl,rfl⟩;refine ⟨_,rfl,d1,?_⟩;refine d_p Z Z Z Z <| od (4) Z Z Z Z (by omega) (by omega) <| ie Z Z (fun W' hW'=>br Z Z Z (cc W' hW' 4)) Z <| mc Z Z (eh Z) Z <| (ku _ 25 (by decide) (by decide) _).mono ?_;rintro _ _ ⟨rfl,rfl⟩;refine ⟨_,rfl,d1,?_⟩;refine d_p Z Z Z Z <| d_p Z Z Z Z <| od (4) Z Z Z Z (by omega) (by omega) <| ie Z Z (fun W' hW'=>br Z Z Z (cc W' hW' 4)) Z <| od (5) Z Z Z Z (by omega) (by omega) <| ie Z Z (fun W' hW'=>br Z Z Z (cc W' hW' 5)) Z <| d_p Z Z Z Z <| od (4) Z Z Z Z (by omega) (by omega) <| ie Z Z (fun W' hW'=>br Z Z Z (cc W' hW' 4)) Z <| d_p Z Z Z Z <| od (6) Z Z Z Z (by omega) (by omega) <| ie Z Z (fun W' hW'=>br Z Z Z (cc W' hW' 6)) Z <| d_p Z Z Z Z <| d_p Z Z Z Z <| d_p Z Z Z Z <| d_p Z Z Z Z <| od (i) Z Z Z Z (by omega) (by omega) <| ie Z Z (fun W' hW'=>br Z Z Z (ck W' hW')) Z <| d_p Z Z Z Z <| d_p Z Z Z Z <| od (i) Z Z Z Z (by omega) (by omega) <| ie Z Z (fun W' hW'=>br Z Z Z (cx W' hW')) Z <| d_p Z Z Z Z <| d_p Z Z Z Z ?_;have d2:Ext W W.drew.drew:=d1.trans (Fr.drew _);refine ov <| b8 <| dz <| qc flo (fun W'=>Ext W W') (by decide +kernel) d2 <| od (0) Z Z Z Z (by omega) (by omega) <| ie Z Z (fun W' hW'=>br Z Z Z (cc W' hW' 0)) Z <| mc Z Z (eh Z) Z <| (ku _ 2 (by decide) (by decide) _).mono ?_;rintro _ _ ⟨rfl,rfl⟩;refine ⟨_,rfl,d2,?_⟩;refine od (0) Z Z Z Z (by omega) (by omega) <| ie Z Z (fun W' hW'=>br Z Z Z (cc W' hW' 0)) Z <| mc Z Z (eh Z) Z <| (ku _ 13 (by decide) (by decide) _).mono ?_;rintro _ _ ⟨rfl,rfl⟩;refine ⟨_,rfl,d2,?_⟩;refine d_p Z Z Z Z <| od (0) Z Z Z Z (by omega) (by omega) <| ie Z Z (fun W' hW'=>br Z Z Z (cc W' hW' 0)) Z <| mc Z Z (eh Z) Z <| (ku _ 22 (by decide) (by decide) _).mono ?_;rintro _ _ ⟨rfl,rfl⟩;refine ⟨_,rfl,d2,?_⟩;refine d_p Z Z Z Z <| od (0) Z Z Z Z (by omega) (by omega) <| ie Z Z (fun W' hW'=>br Z Z Z (cc W' hW' 0)) Z <| od (1) Z Z Z Z (by omega) (by omega) <| ie Z Z (fun W' hW'=>br Z Z Z (cc W' hW' 1)) Z <| d_p Z Z Z Z <| od (0) Z Z Z Z (by omega) (by omega) <| ie Z Z (fun W' hW'=>br Z Z Z (cc W' hW' 0)) Z <| od (2) Z Z Z Z (by omega) (by omega) <| ie Z Z (fun W' hW'=>br Z Z Z (cc W' hW' 2)) Z <| d_p Z Z Z Z <| d_p Z Z Z Z <| od (1) Z Z Z Z (by omega) (by omega) <| ie Z Z (fun W' hW'=>br Z Z Z (cc W' hW' 1)) Z <| od (2) Z Z Z Z (by omega) (by omega) <| ie Z Z (fun W' hW'=>br Z Z Z (cc W' hW' 2)) Z <| d_p Z Z Z Z <| d_p Z Z Z Z <| d_p Z Z Z Z <| d_p Z Z Z Z <| ov <| b8 <| cu <| o_p Z Z Z <| o_p Z Z Z <| o_p Z Z Z <| rA (0) Z Z Z (by omega) (by omega) <| ek Z (br Z Z Z (cc _ d2 0)) Z <| rA (1) Z Z Z (by omega) (by omega) <| ek Z (br Z Z Z (cc _ d2 1)) Z <| rA (2) Z Z Z (by omega) (by omega) <| ek Z (br Z Z Z (cc _ d2 2)) Z <| rA (3) Z Z Z (by omega) (by omega) <| ek Z (br Z Z Z (cc _ d2 3)) Z <| o_p Z Z Z <| o_p Z Z Z <| rA (4) Z Z Z (by omega) (by omega) <| ek Z (br Z Z Z (cc _ d2 4)) Z <| rA (5) Z Z Z (by omega) (by omega) <| ek Z (br Z Z Z (cc _ d2 5)) Z <| rA (6) Z Z Z (by omega) (by omega) <| ek Z (br Z Z Z (cc _ d2 6)) Z <| o_b Z Z Z <| Kg (vs:=gz (rnd s ki xi).l) Z Z Z Z Z Z Z (y1 _) (BC.ext d2) Z ?_;intro W9 B9 f9 z9;refine ec <| nc <| b8 <| cu ?_;refine o_c Z Z Z (by unfold I64;omega) ?_;refine o_p Z Z Z ?_;have hsz:=d2.size;refine (ec (vk (i+1) ?_ ?_ ?_))
  ·exact ⟨rfl,rfl,rfl,rfl,rfl,trivial⟩
  ·refine ⟨(hE.trans d2).trans' f9 (fun j hj h=>by omega),?_,(BK.ext d2).fr f9 (by omega),(BX.ext d2).fr f9 (by omega),by omega⟩;rw [hnx];exact B9
  ·show 64 - (i+1)<64 - i;omega
 ·obtain rfl:i=64:=by omega
  generalize hC:(wI (toW A) K X 64).l=C at *;have hC8:C.length=8:=by rw [← hC];rfl
  refine xq <| kj <| ma <| jw <| b8 <| dz <| cu <| o_p Z Z Z <| on ?_;refine jk (cC (G:=Nat) (fun i=> [(0,pp ga),(4,pp gc),(105,ii i)])
   (fun i W=>Fr (· = ga) w W∧Blk W ga ta (gz (upd A C i)++rest)∧Blk W gc jq (gz C)∧i≤8) (fun i=>8 - i) ?_ ?_)
  ·exact ⟨0,⟨rfl,rfl,rfl,trivial⟩,Ext.fr hE,by rw [Nz A C hA];exact BA.ext hE,BC,by omega⟩
  rintro i W ⟨hE,BA,BC,hi⟩
  try dsimp only
  refine sr <| o_p Z Z Z <| on ?_;refine dz (wy Z (fun h=> ?_) (fun h=> ?_))
  ·have d1:Ext W W.drew:=Fr.drew _;have hu8:(gz (upd A C i)).length=8:=by rw [y2,gW]
   have ca:W.drew.cell? ⟨ga,0+i,none⟩=some (.int .u32 (A.getD i 0)):=by
    rw [aob,(BA.ext d1).cell i,aot (by omega),fP _ _ (by rw [gW];omega),Sq _ _ _ _ (by omega),if_neg (by omega)]
   have cc:W.drew.cell? ⟨gc,0+i,none⟩=some (.int .u32 (C.getD i 0)):=by
    rw [aob,(BC.ext d1).cell i,fP _ _ (by omega)]
   have cf:W.drew.frozen? ⟨ga,0+i,none⟩=false:=(BA.ext d1).frozen _;refine jx <| b8 <| dz <| jk <| dz <| cu <| o_p Z Z Z <| o_p Z Z Z ?_;have hgag:ga≠gc:=by omega
   refine ec <| b8 <| Bu flo 11 (fun W'=>(W'.cell? ⟨gc,0+i,none⟩=some (.int .u32 (C.getD i 0)))∧(W'.cell? ⟨ga,0+i,none⟩=some (.int .u32 (A.getD i 0)))) (fun _=>True) Z (by decide +kernel) ⟨cc,ca⟩ <| d_p Z Z Z Z <| d_p Z Z Z Z <| d_p Z Z Z Z <| od (i) Z Z Z Z (by omega) (by omega) <| ie Z Z (fun W' hW'=>br Z Z Z (hW'.2)) Z <| d_p Z Z Z Z <| od (i) Z Z Z Z (by omega) (by omega) <| ie Z Z (fun W' hW'=>br Z Z Z (hW'.1)) Z <| d_p Z Z Z Z <| d_p Z Z Z Z <| od (i) Z Z Z Z (by omega) (by omega) <| ov <| Bv Z trivial <| Br Z Z (vp Z Z Z Z Z ca cf) trivial <| ov <| nc <| b8 <| cu ?_;refine o_c Z Z Z (by unfold I64;omega) ?_;refine o_p Z Z Z ?_;have Bs:=(BA.ext d1).set i (.int .u32 (uo (A.getD i 0) (C.getD i 0)));rw [List.set_append_left _ _ (by omega)] at Bs;have hset:(gz (upd A C i)).set i (.int .u32 (uo (A.getD i 0) (C.getD i 0)))=gz (upd A C (i+1)):=by
    rw [← Sr A C i (by omega)];simp [gz,List.map_set]
   rw [hset] at Bs;have hzz:0+nK i 1=i:=by rw [bq];omega
   refine (ec (vk (i+1) ?_ ?_ ?_))
   ·exact ⟨rfl,rfl,rfl,trivial⟩
   ·refine ⟨(hE.trans (Ext.fr d1)).trans (Fr.setCell W.drew ⟨ga,_,none⟩ _),?_,(BC.ext d1).fr (Fr.setCell _ _ _) (by simp;omega),by omega⟩;rw [hzz];exact Bs
   ·show 8 - (i+1)<8 - i;omega
  ·refine xq <| kj <| ma <| jw <| Ij Z ⟨⟨_,rfl⟩,?_,hE⟩;obtain rfl:i=8:=by omega
   exact BA

def pc (a:List Int) (r:Value) (n:Int) (m:Bool):List Value:=gz a ++ [r,ii n,.bool m]
theorem Ss (a:List Int) (r:Value) (n:Int) (m:Bool) (h:a.length=8):(pc a r n m)[8]? = some r∧(pc a r n m)[9]? = some (ii n)∧(pc a r n m)[10]? = some (.bool m):=by
 match a,h with
 | [_, _, _, _, _, _, _, _], _ => exact ⟨rfl, rfl, rfl⟩

theorem xP {g t:Nat} {a:List Int} {r:Value} {n:Int} {m:Bool} {w:World} (hB:Blk w g t (pc a r n m)) (ha:a.length=8) :
  Calls Tryz.prog lT #[pp g] w fun e w'=>e = .returned (.bool (!m))∧w=w':=by
 have h10:=(hB.cell 10).trans (Ss a r n m ha).2.2;refine qX Tryz.func166 Z Z <| sr <| o_p Z Z Z <| on <| sr <| o_p Z Z Z <| o_n Z Z Z <| o_p Z Z Z <| o_p Z Z Z <| o_p Z Z Z <| o_p Z Z Z <| ek Z (br Z Z Z (h10)) Z <| o_p Z Z Z <| o_p Z Z Z <| o_p Z Z Z ?_;exact (ec (b8 (fj (ic Z Z ⟨rfl,rfl⟩))))

theorem N0 (w:World):Calls Tryz.prog xL #[] w fun e w'=>∃ g,e = .returned (pp g)∧w.heap.size≤g∧Blk w' g kg (pc u6 (.slice none 0 0) 0 true)∧Ext w w':=by
 refine Fi Tryz.func79 Z Z <| sr <| o_p Z Z Z <| on <| sr <| iq Z (eh Z) Z <| (Gq w).mono ?_;rintro _ w1 ⟨rfl,e1⟩;refine ⟨_,rfl,?_⟩;refine aL (v:= .agg ⟨pc u6 (.slice none 0 0) 0 true⟩) Z (uw (by kernel_rfl)) Z ?_;refine Mz Z Z Z Z ?_;intro w2 B2 e2 z2;refine o_p Z Z Z ?_;exact (ec (b8 (fj (ic Z Z ⟨_,rfl,e1.size,B2,e1.trans e2⟩))))

abbrev u8s (l:List Int):List Value:=l.map (Value.int .u8)
theorem ib (l:List Int):∀ u∈u8s l,u.oneCell'=true:=by intro u hu;obtain ⟨x,_,rfl⟩:=anb.1 hu;rfl
def my:Nat→List Int→List Int→List Int × List Int
 | 0, a, l => (a, l)
 | k + 1, a, l => if 64 ≤ l.length then my k (cW a (l.take 64)) (l.drop 64) else (a, l)
theorem tG (k:Nat) (a l:List Int) (h:l.length<64):my k a l=(a,l):=by
 cases k with
 | zero => rfl
 | succ k => rw [my, if_neg (by omega)]

abbrev MB (w:World) (base:Nat) (v:Value) (l:List Int):Prop:=j9 w base m8 1 v l.length (u8s l)
theorem j9.made0 (w:World):MB (w.alloc (.cells #[] m8)) w.heap.size (.slice (some ⟨w.heap.size,0,none⟩) 0 0) []:=World.ownsRow_made w #[] 0 (aoc _) (by decide) (by rfl)

theorem tH {va:Value} {xs:List Int} {w:World} (ha:VL (Value.int .u8) w va xs) (hlen:xs.length≤1048576) :
  Calls Tryz.prog vU #[va] w fun e w'=>∃ v,e = .returned v∧MB w' w.heap.size v xs∧Ext w w':=by
 obtain ⟨A,c,rfl,hnc,hcm,hz,hcell⟩:=ha.op;refine qX Tryz.func125 Z Z <| sr <| o_p Z Z Z <| on <| ss <| sr <| o_p Z Z Z <| o_n Z Z Z ?_;cases A with
 | none =>
  have h0:xs = []:=an3 (by have:=hz Z;omega);subst h0;refine on <| x4 Z <| sr <| o_p Z Z Z ?_;exact (ec (b8 (fj (ia (ic Z Z ⟨_,rfl,j9.nil _ _ _ _,Fr.refl _ _⟩)))))
 | some a =>
  refine on <| x5 Z <| jx <| b8 <| sr ?_;refine ek Z (kr (vs:= []) (cells:= []) Z Z Z Z (by decide) (fun z hz=>by simp at hz;subst hz;rfl)) Z ?_;refine o_p Z Z Z ?_;refine wT Z Z Z Z Z Z Z Z (j9.made0 w) (ha.ext (Fr.alloc _ _)) (ib _) (by simp;omega) (by simp) ?_;intro v' w' own fr;refine o_p Z Z Z ?_;refine on (fj (ic Z Z ⟨_,rfl,by simpa [MB,u8s] using own,?_⟩));exact Fr.trans' (Fr.alloc _ _) fr (by intro j hj h;simp [Value.ownBlock] at h;omega)

theorem hC8 {a:List Int} {r:Value} {n:Int} {m:Bool} (h:a.length=8):nth (pc a r n m) 8=some r:=by
 match a,h with
 | [_, _, _, _, _, _, _, _], _ => rfl
theorem hC9 {a:List Int} {r:Value} {n:Int} {m:Bool} (h:a.length=8):nth (pc a r n m) 9=some (ii n):=by
 match a,h with
 | [_, _, _, _, _, _, _, _], _ => rfl
theorem hS8 {a:List Int} {r r':Value} {n:Int} {m:Bool} (h:a.length=8):stO (pc a r n m) 8 r'=some (pc a r' n m):=by
 match a,h with
 | [_, _, _, _, _, _, _, _], _ => rfl
theorem hS9 {a:List Int} {r:Value} {n n':Int} {m:Bool} (h:a.length=8):stO (pc a r n m) 9 (ii n')=some (pc a r n' m):=by
 match a,h with
 | [_, _, _, _, _, _, _, _], _ => rfl
abbrev rB (v:Value) (l:List Int):SP:=row m8 1 v l.length (u8s l)
theorem Yl (v:Value) (l m:List Int):row m8 1 v (l.length+m.length) (u8s l++u8s m)=rB v (l++m):=by simp [rB,u8s]
theorem Iz {b:World} {F:List SP} {vb:Value} {A l:List Int} {rest:List Value} {ga ta:Nat} (hb:∀ w,Sat b (pt ga ta (gz A++rest)::F) w→VL (Value.int .u8) w vb l) (hl:64≤l.length) (hA:A.length=8) :
  SC Tryz.prog qn [pp ga,vb] b (pt ga ta (gz A++rest)::F) (fun _ F'=>F'=pt ga ta (gz (cW A l)++rest)::F) :=
 fun w H=>(Gs (hb w H) hl hA (H.blk (k:=0) Z)).mono fun _ _ ⟨⟨v,hv⟩,B,f⟩=>⟨v,_,hv,rfl,H.write (k:=0) Z f B rfl⟩

theorem N1 {b:World} {F:List SP} {vb:Value} {A l:List Int} {ga ta:Nat} (hb:∀ w,Sat b (pt ga ta (gz A)::F) w→VL (Value.int .u8) w vb l) (hl:64≤l.length) (hA:A.length=8) :
  SC Tryz.prog qn [pp ga,vb] b (pt ga ta (gz A)::F) (fun _ F'=>F'=pt ga ta (gz (cW A l))::F):=by
 have:=Iz (b:=b) (F:=F) (vb:=vb) (A:=A) (l:=l) (rest:= []) (ga:=ga) (ta:=ta) (by rw [anv];exact hb) hl hA;rwa [anv,anv] at this

theorem St {b:World} {F:List SP} {g:Nat} {a rs xs:List Int} {r vb:Value} {n:Int} (ha:a.length=8) (hn:0≤n∧n≤1048576) (hlen:rs.length+xs.length≤1048576) (hb:∀ w,Sat b F w→VL (Value.int .u8) w vb xs) :
  SC Tryz.prog jW [pp g,vb] b (pt g kg (pc a r n true)::rB r rs::F) (fun v F'=>v=ii 0 ∧
   ∃ r',F'=pt g kg (pc (my (rs.length+xs.length) a (rs++xs)).1 r' (n+xs.length) true)::rB r' (my (rs.length+xs.length) a (rs++xs)).2::F):=by
 refine aw Tryz.func80 Z Z Z <| bu (fun w H=>(hb w (H.ent (af 2 [] Z))).form) ?_;rintro ⟨A,c,rfl,h1,h2,h3,h4⟩;refine akw <| ae Z <| akv <| ad <| akw <| ae Z <| bg Z Z Z (SC.ofEq fun w H=>xP (H.blk (k:=0) Z) ha) <| akv <| aj Z <| ak <| ab <| akw <| am5 Z Z Z <| yk 0 Z Z Z Z Z Z (hC9 ha) Z <| am4 Z Z <| az Z <| am4 Z Z <| wX 0 Z Z Z Z Z Z Z Z (hS9 ha) Z <| aan <| am5 Z Z Z <| ae Z <| yk 0 Z Z Z Z Z Z (hC8 ha) Z <| ae Z <| ef 1 Z Z Z Z Z Z Z Z Z (fun w H=>hb w (H.ent (af 2 [] Z))) (ib _) (by omega) (fun _=>rfl) fun r'=> ?_;rw [Yl];refine am4 Z Z <| b9 (fun w H=>(H.oat (k:=1) Z).one) fun h1=> ?_;refine wX 0 Z Z Z Z Z Z h1 Z (hS8 ha) Z <| akv <| ad <| am ?_;refine dt (S:=List Int × List Int × Value) (fun s=> [(0,pp g)]) (fun s=>pt g kg (pc s.1 s.2.2 (n+xs.length) true)::rB s.2.2 s.2.1::F)
  (fun s=>s.1.length=8∧s.2.1.length≤1048576∧∃ k,s.2.1.length≤k∧my k s.1 s.2.1=my (rs.length+xs.length) a (rs++xs)) (fun s=>s.2.1.length) (a,rs++xs,r') ax
  ⟨ha,by simp;omega,rs.length+xs.length,by simp,rfl⟩ ?_
 rintro ⟨a',l,r2⟩ ⟨ha',hl,k,hk,hab⟩;dsimp only at ha' hl hk hab ⊢;refine bu (fun w H=>(H.oat (k:=1) Z).form) ?_;rintro ⟨A2,c2,rfl,hc1,hc2,hc3⟩;refine ad <| akw <| am5 Z Z Z <| yk 0 Z Z Z Z Z Z (hC8 ha') Z <| am4 Z Z <| akv ?_;refine de Z (fun h=> ?_) (fun h=> ?_)
 ·have hl64:64≤l.length:=by omega
  obtain ⟨g2,off2,rfl⟩:=hc3 (by omega);have htk:(u8s l).take (64*1)=u8s (l.take 64):=by simp [u8s,List.map_take]
  have hdk:(u8s l).drop (64*1)=u8s (l.drop 64):=by simp [u8s,List.map_drop]
  have ht64:(l.take 64).length=64:=by simp;omega
  refine ak <| ab <| am <| ad <| jc flo 8 (pt g kg (pc a' (.slice (some ⟨g2,off2,none⟩) l.length c2) (n+xs.length) true)::F) [] Z (by decide +kernel) (af 2 [0] Z) ?_
  (iterate 6 refine ay Z Zl ?_)
  refine rQ 0 Z Z Z Z Z Z (hC8 ha') Z Z <| cq Z Z <| aq <| jd Z (dc _) ?_;refine d9 Z Z Z Z (Iz (A:=a') (l:=l.take 64) (rest:= [.slice (some ⟨g2,off2,none⟩) l.length c2,ii (n+xs.length),.bool true]) (fun w H=> ?_) (by omega) ha') ?_
  ·have:=(Oat.take (H.oat (k:=1) Z) (k:=64) hl64).sl;rw [htk] at this;unfold VL;rw [ht64];exact this
  rintro _ _ rfl;refine ⟨dc _,aq ?_⟩;have hb8:=kE a' (l.take 64);obtain ⟨a2,ha2⟩:∃ a2,a2=cW a' (l.take 64):=⟨_,rfl⟩;rw [← ha2] at hb8 ⊢;refine ab <| aa <| am5 Z Z Z <| ae Z <| yk 0 Z Z Z Z Z Z (hC8 hb8) Z <| az Z <| am4 Z Z <| eo (lA (j:=64) hl64 1 Z Z Z) ?_;rw [hdk];refine wX 0 Z Z Z Z Z Z Z Z (hS8 hb8) Z <| ac <| bh ?_;refine ly (a2,l.drop 64,.slice (if c2=64 then some ⟨g2,off2,none⟩ else (some ⟨g2,off2,none⟩:Option Addr).map (·.add (64*1))) (l.length - 64) (c2 - 64)) ?_ ?_ ?_
  ·have e:(l.drop 64).length=l.length - 64:=by simp
   exact q7 1 Z (fun h hA=>by dsimp only [rB];rw [e];exact hA) Z
  ·refine ⟨hb8,by simp;omega,?_⟩;cases k with
   | zero => omega
   | succ k =>
    refine ⟨k,by simp;omega,?_⟩;rw [← hab];show _=my (k+1) a' l;rw [my,if_pos hl64,ha2]
  ·show (l.drop 64).length<l.length;simp;omega
 ·refine bz <| au <| av <| ap <| ab <| akw <| ae Z <| akv <| ai ?_;have he:=tG k a' l (by omega);rw [hab] at he;refine ar Z Z ax <| ⟨rfl,.slice A2 l.length c2,?_⟩;rw [he]

theorem ai8 {b:World} {F:List SP}:SC Tryz.prog xL [] b F (fun v F'=>∃ g,v=pp g∧F'=pt g kg (pc u6 (.slice none 0 0) 0 true)::rB (.slice none 0 0) []::F) :=
 fun w H=>(N0 w).mono fun _ w' ⟨g,h1,h2,B,x⟩=>⟨_,_,h1,⟨g,rfl,rfl⟩,(H.newOat (Fr.refl _ _) (Oat.nil w w.heap.size m8 1)).alloc x B h2⟩

theorem u7 {F G:List SP} {v:Value} {n:Nat} {cs:List Value} {l:List Int} (k:Nat) (hk:nth F k=some (row m8 1 v n cs)) (hl:n=l.length) (hc:cs=u8s l) (hG:jl F k (rB v l)=some G):Ent F G:=by
 subst hl;subst hc;exact q7 k hk (fun _ h=>h) hG
theorem vlB {b:World} {F:List SP} {v:Value} {l:List Int} {k:Nat} (hk:nth F k=some (rB v l)):∀ w,Sat b F w→VL (Value.int .u8) w v l:=fun w H=>(H.oat hk).sl
theorem vl1 {b:World} {F:List SP} {g t:Nat} {l:List Int} {n k:Nat} (hn:n=l.length) (hm:n≤67108864) (hk:nth F k=some (pt g t (u8s l))):∀ w,Sat b F w→VL (Value.int .u8) w (.slice (some ⟨g,0,none⟩) n n) l:=fun w H=>by
 subst hn;exact (H.blk hk).sl (by simp) hm

theorem dr (l:List Int):(u8s l).length=l.length:=by simp [u8s]
def jG (l:List Int):Nat:=(120 - (l.length+1) % 64) % 64
def K8 (n:Int) (i:Nat):Int:=IntKind.u8.wrap ((IntKind.u64.wrap (IntKind.u64.wrap n*8)).fdiv (2 ^ (56 - 8*i)))
def wJ (n:Int) (i:Nat):List Int:=(List.range i).map (K8 n)
def Dc (l:List Int) (n:Int):List Int:=l ++ [128]++List.replicate (jG l) 0++wJ n 8
def idB (a:List Int) (i:Nat):Int:=IntKind.u8.wrap ((a.getD (i / 4) 0).fdiv (2 ^ (24 - 8*(i % 4))))
def idM (a:List Int):List Int:=(List.range 32).map (idB a)
def idP (a:List Int) (i:Nat):List Int:=(List.range i).map (idB a)++List.replicate (32 - i) 0
theorem Su (a:List Int) (i:Nat) (h:i≤32):(idP a i).length=32:=by simp [idP];omega
theorem Sv (a:List Int) (i:Nat) (h:i<32):(u8s (idP a i)).set i (.int .u8 (idB a i))=u8s (idP a (i+1)):=by
 have e:32 - i=(32 - (i+1))+1:=by omega
 simp only [u8s,← List.map_set,idP];rw [List.set_append_right _ _ (by simp),e,List.replicate_succ,List.range_succ];simp
theorem Sw (a:List Int):idP a 32=idM a:=by simp [idP,idM]
theorem N2 (l:List Int) (n:Int):(Dc l n).length % 64=0∧(Dc l n).length≤l.length+80:=by
 simp only [Dc,wJ,jG,am9,apr,anf,aq9,anp,ao1];omega
def N3 (a l:List Int) (n:Int):List Int:=(my (Dc l n).length a (Dc l n)).1
abbrev idV (l:List Int):Value:= .agg ⟨u8s l⟩
theorem Ym (k:Nat):Int.tmod (k:Int) 64=((k % 64:Nat):Int):=by
 rw [aph (by omega)];omega
theorem hCw {a:List Int} {r:Value} {n:Int} {m:Bool} (h:a.length=8):wp (pc a r n m) 0 8=some (gz a):=by
 match a,h with
 | [_, _, _, _, _, _, _, _], _ => rfl
theorem Yn {a:List Int} {j:Nat} (h:j<a.length):nth (gz a) j=some (.int .u32 (a.getD j 0)):=by rw [lw];exact fP a j h
theorem zT {cs r:List Value} {o:Nat} {v:Value} (h:o<cs.length) (hr:cs.set o v=r):stO cs o v=some r:=by
 subst hr
 induction cs generalizing o with
 | nil => simp at h
 | cons c cs ih =>
  cases o with
  | zero => rfl
  | succ o => simp only [stO, ih (by simpa using h)]; rfl
theorem dj {cs:List Value} {n:Nat} (h:n=cs.length):wp cs 0 n=some cs:=by
 subst h
 induction cs with
 | nil => rfl
 | cons c cs ih => simp only [anp, wp, ih]


theorem Yo {b:World} {F:List SP} {g:Nat} {a rs:List Int} {r:Value} {n:Int} (ha:a.length=8) (hlen:rs.length≤1000000) :
  SC Tryz.prog nZ [pp g] b (pt g kg (pc a r n true)::rB r rs::F) (fun v F'=>v = .tuple ⟨[idV (idM (N3 a rs n)),ii 0]⟩∧F'=pt g kg (pc a r n true)::rB r rs::F):=by
 have ha8:(gz a).length=8:=by rw [y2,ha]
 refine aw Tryz.func81 Z Z Z <| akw <| db Z Z Z Z Z fun gi=>ae Z <| akv <| ad <| akw <| ae Z <| bg Z Z Z (SC.ofEq fun w H=>xP (H.blk (k:=1) Z) ha) <| akv <| aj Z <| ak <| ab <| akw <| am5 Z Z Z <| du 1 Z Z Z Z Z Z (hCw ha) Z <| db Z Z Z Z Z fun ga=> ?_;refine fh 0 Z Z Z Z Z Z Z (by rw [ha8];rfl) (y1 _) (by rw [ha8];rfl) ?_;refine aan <| am5 Z Z Z <| yk 2 Z Z Z Z Z Z (hC8 ha) Z <| bf Z Z Z (SC.ofMade fun w H=>tH (vlB (k:=3) Z w H) (by omega)) ?_;rintro v4 _ rfl;refine ql [.int .u8 128] Z Z Z Z Z Z Z Z Z fun gl=> ?_;refine ef 1 Z Z Z Z Z Z Z Z Z (vl1 (l:= [128]) (k:=0) Z (by decide) Z) (ib [128]) (by simp;omega) (fun _=>rfl) fun v5=> ?_;refine eo ((u7 (l:=rs ++ [128]) 1 Z (by simp) (by simp) Z).trans (af 6 [1,2,3,4,5] Z)) ?_;refine ae Z <| akv <| ad <| am ?_

 refine dt (S:=Nat × Value) (fun s=> [(0,pp g),(2,pp gi),(4,pp ga),(5,s.2)])
  (fun s=>rB s.2 (rs ++ [128]++List.replicate s.1 0)::pt ga jq (gz a)::pt gi t_api_ID (u8s (List.replicate 32 0))::pt g kg (pc a r n true)::rB r rs::F)
  (fun s=>s.1≤jG rs) (fun s=>jG rs - s.1) (0,v5) (u7 0 Z (by simp) (by simp) Z) (anq _) ?_
 rintro ⟨k,v⟩ hk;dsimp only at hk ⊢;have hL:(rs ++ [128]++List.replicate k 0).length=rs.length+1+k:=by simp;omega
 have hz:jG rs=(120 - (rs.length+1) % 64) % 64:=rfl;refine bu (fun w H=>(H.oat (k:=0) Z).form) ?_;rintro ⟨A7,c7,rfl,_,_,_⟩;refine ad <| akw <| am4 Z Z <| az Z <| ae Z <| akv ?_;refine cH Z (fun h=> ?_) (fun h=> ?_) <;> rw [Ym] at h
 ·refine ak <| ab <| am <| aa <| ae Z <| ql [.int .u8 0] Z Z Z Z Z Z Z Z Z fun gl=> ?_;refine ef 1 Z Z Z Z Z Z Z Z Z (vl1 (l:= [0]) (k:=0) Z (by decide) Z) (ib [0]) (by simp;omega) (fun _=>rfl) fun v8=> ?_;refine eo ((u7 (l:=rs ++ [128]++List.replicate (k+1) 0) 1 Z (by simp;omega) (by rw [List.replicate_succ'];simp) Z).trans (af 6 [1,2,3,4,5] Z)) ?_;refine ae Z <| ac <| bh ?_;refine ly (k+1,v8) ax ?_ ?_
  ·show k+1≤jG rs;omega
  ·show jG rs - (k+1)<jG rs - k;omega
 have h':(rs ++ [128]++List.replicate k 0).length % 64=56:=by omega
 rw [hL] at h';obtain rfl:k=jG rs:=by omega
 refine bz <| au <| av <| ap <| ab <| ad <| akw <| ae Z <| akv <| am ?_

 generalize hP:rs ++ [128]++List.replicate (jG rs) 0=p at *;have hend:Dc rs n=p++wJ n 8:=by rw [Dc,hP]
 have hpl:p.length≤1000100:=by omega
 refine dt (S:=Nat × Value) (fun s=> [(0,pp g),(2,pp gi),(4,pp ga),(5,s.2),(29,ii s.1)])
  (fun s=>rB s.2 (p++wJ n s.1)::pt ga jq (gz a)::pt gi t_api_ID (u8s (List.replicate 32 0))::pt g kg (pc a r n true)::rB r rs::F)
  (fun s=>s.1≤8) (fun s=>8 - s.1) (0,.slice A7 p.length c7) (u7 0 Z (by simp [wJ]) (by simp [wJ]) Z) (anq _) ?_
 rintro ⟨k,v⟩ hk;dsimp only at hk ⊢;have hLL:∀ j,(wJ n j).length=j:=fun j=>by simp [wJ]
 refine akw <| ae Z <| akv <| ad ?_;refine de Z (fun h=> ?_) (fun h=> ?_)
 ·refine ak <| ab <| ad <| am <| akw <| am4 Z Z <| akv <| aa <| am5 Z Z Z <| ae Z <| yk 3 Z Z Z Z Z Z (hC9 ha) Z <| am5 Z Z Z <| az Z <| az Z <| az Z <| ae Z ?_;have e:min (56 - 8*(k:Int)).toNat IntKind.u64.bits=56 - 8*k:=by
   show min _ 64=_;omega
  refine bm 43 (.int .u8 (K8 n k)) Z (by rw [K8,e]) ?_;refine ql [.int .u8 (K8 n k)] Z Z Z Z Z Z Z Z Z fun gl=> ?_;refine ef 1 Z Z Z Z Z Z Z Z Z (vl1 (l:= [K8 n k]) (k:=0) Z (by decide) Z) (ib [K8 n k]) (by simp [hLL];omega) (fun _=>rfl) fun v8=> ?_;refine eo ((u7 (l:=p++wJ n (k+1)) 1 Z (by simp [hLL];omega) (by simp [wJ,List.range_succ]) Z).trans (af 6 [1,2,3,4,5] Z)) ?_;refine ae Z <| ac <| bh <| ab <| aa <| az Z <| ae Z <| ac ?_;refine ly (k+1,v8) ax ?_ ?_
  ·show k+1≤8;omega
  ·show 8 - (k+1)<8 - k;omega
 obtain rfl:k=8:=by omega
 refine bz <| au <| av <| ap <| ab <| ad <| am ?_;rw [← hend];have hEL:=N2 rs n;generalize hE:Dc rs n=l0 at *

 refine dt (S:=List Int × List Int × Value) (fun s=> [(0,pp g),(2,pp gi),(4,pp ga),(5,s.2.2)])
  (fun s=>rB s.2.2 s.2.1::pt ga jq (gz s.1)::pt gi t_api_ID (u8s (List.replicate 32 0))::pt g kg (pc a r n true)::rB r rs::F)
  (fun s=>s.1.length=8∧s.2.1.length % 64=0∧s.2.1.length≤1000100∧∃ k,s.2.1.length≤k∧my k s.1 s.2.1=my l0.length a l0) (fun s=>s.2.1.length) (a,l0,v) ax
  ⟨ha,hEL.1,by dsimp only;omega,l0.length,aoc _,rfl⟩ ?_
 rintro ⟨a',l,r2⟩ ⟨ha',hl64,hl,k,hk,hab⟩;dsimp only at ha' hl hk hab hl64 ⊢;refine bu (fun w H=>(H.oat (k:=0) Z).form) ?_;rintro ⟨A2,c2,rfl,hc1,hc2,hc3⟩;refine ad <| akw <| am5 Z Z Z <| akv ?_;refine de Z (fun h=> ?_) (fun h=> ?_)
 ·have h64:64≤l.length:=by omega
  obtain ⟨g2,off2,rfl⟩:=hc3 (by omega);have htk:(u8s l).take (64*1)=u8s (l.take 64):=by simp [u8s,List.map_take]
  have hdk:(u8s l).drop (64*1)=u8s (l.drop 64):=by simp [u8s,List.map_drop]
  have ht64:(l.take 64).length=64:=by simp;omega
  refine ak <| ab <| ad <| am <| aa <| ae Z <| az Z <| eo (af 3 [1,0,2] Z) ?_;refine bf Z Z Z (N1 (A:=a') (l:=l.take 64) (fun w H=> ?_) (by omega) ha') ?_
  ·have:=(Oat.take (H.oat (k:=1) Z) (k:=64) h64).sl;rw [htk] at this;unfold VL;rw [ht64];exact this
  rintro _ _ rfl;have hb8:=kE a' (l.take 64);refine ac <| bh <| ab <| aa <| ae Z <| az Z <| ae Z <| ac <| rl (lA (j:=64) h64 1 Z Z Z) ?_;rw [hdk];refine ly (cW a' (l.take 64),l.drop 64,.slice (if c2=64 then some ⟨g2,off2,none⟩ else (some ⟨g2,off2,none⟩:Option Addr).map (·.add (64*1))) (l.length - 64) (c2 - 64)) ?_ ?_ ?_
  ·exact (u7 (l:=l.drop 64) 1 Z (by simp) Z Z).trans (af 3 [1,0,2] Z)
  ·refine ⟨hb8,by simp;omega,by simp;omega,?_⟩;cases k with
   | zero => omega
   | succ k =>
    refine ⟨k,by simp;omega,?_⟩;rw [← hab];show _=my (k+1) a' l;rw [my,if_pos h64]
  ·show (l.drop 64).length<l.length;simp;omega
 have hl0:l.length<64:=by omega
 have he:=tG k a' l hl0;rw [hab] at he;have hsum:N3 a rs n=a':=by rw [N3,hE,he]
 rw [hsum];refine bz <| au <| av <| ap <| ab <| ad <| akw <| ae Z <| akv <| am ?_

 refine dt (S:=Nat) (fun s=> [(0,pp g),(2,pp gi),(4,pp ga),(55,ii s)])
  (fun s=>pt ga jq (gz a')::pt gi t_api_ID (u8s (idP a' s))::pt g kg (pc a r n true)::rB r rs::F)
  (fun s=>s≤32) (fun s=>32 - s) 0 (af 3 [1,2] Z) (anq _) ?_
 intro i hi;have hpl:=Su a' i hi;refine akw <| ae Z <| akv <| ad ?_;refine de Z (fun h=> ?_) (fun h=> ?_)
 ·refine ak <| ab <| ad <| am <| akw <| am4 Z Z <| akv <| aa <| am4 Z Z <| az Z ?_;have htd:IntKind.i64.wrap ((i:Int).tdiv 4)=((i / 4:Nat):Int):=by
   rw [Int.tdiv_eq_ediv_of_nonneg (by omega),I64.wrap (by unfold I64;omega)];omega
  have htm:(i:Int).tmod 4=((i % 4:Nat):Int):=by
   rw [aph (by omega)];omega
  refine aao (i / 4) Z Z Z htd (by omega) ?_;refine yk 0 Z Z Z Z Z Z (by rw [bq];simpa using Yn (a:=a') (j:=i / 4) (by omega)) Z ?_;refine ae Z <| az Z <| az Z <| az Z <| az Z <| ae Z <| az Z ?_;have e:min (24 - 8*((i % 4:Nat):Int)).toNat IntKind.u32.bits=24 - 8*(i % 4):=by
   show min _ 32=_;omega
  refine bm 68 (.int .u8 (idB a' i)) Z (by simp only [htm,e,idB,ano]) ?_
  skip
  refine wX 1 Z Z Z Z Z Z Z Z (zT (r:=u8s (idP a' (i+1))) (by rw [bq];simp [hpl];omega) (by rw [bq];simpa using Sv a' i (by omega))) Z ?_;refine ac <| bh <| ab <| aa <| az Z <| ae Z <| ac ?_;refine ly (i+1) ax ?_ ?_
  ·show i+1≤32;omega
  ·show 32 - (i+1)<32 - i;omega
 obtain rfl:i=32:=by omega
 rw [Sw] at *;generalize idM a'=dg at *;refine bz <| au <| av <| ap <| ab <| akw ?_;have hseg:wp (u8s dg) 0 32=some (u8s dg):=dj (by simp [hpl]);refine du 1 Z Z Z Z Z Z hseg Z ?_;refine fh 1 Z Z Z Z Z Z Z (by rw [dr,hpl];rfl) (ib _) Z ?_;refine ae Z <| akv <| ai ?_;refine fw Z (.whole 1 Z Z Z Z (by rw [dr,hpl];rfl) (.tmp Z .nil)) (af 2 [] Z) ?_;exact ⟨rfl,rfl⟩

instance:EqT Tryz.prog t_api_ID:=⟨by kernel_rfl⟩
instance:ArrI Tryz.prog t_api_ID 32 .u8:=by
 obtain ⟨j,hj,hs,_⟩:=TT.info (P:=Tryz.prog) m8 _ Z;exact ⟨⟨m8,j,by kernel_rfl,by kernel_rfl,hj,hs⟩⟩

def we (xs:List Int):List Int:=idM (N3 (my xs.length u6 xs).1 (my xs.length u6 xs).2 xs.length)
theorem fQ (xs:List Int):(we xs).length=32:=by simp [we,idM]
theorem Gt (k:Nat) (a l:List Int) (ha:a.length=8):(my k a l).1.length=8∧(my k a l).2.length≤l.length:=by
 induction k generalizing a l with
 | zero => exact ⟨ha, aoc _⟩
 | succ k ih =>
  rw [my]
  split
  ·have:=ih (cW a (l.take 64)) (l.drop 64) (kE _ _);refine ⟨this.1,aoz this.2 (by simp)⟩
  ·exact ⟨ha,aoc _⟩

theorem ll {l:List Int} (h:l.length=32):wp (u8s l) 0 32=some (u8s l):=dj (by simp [h])
theorem Wm {b:World} {F:List SP} {vb:Value} {xs:List Int} (hlen:xs.length≤1000000) (hb:∀ w,Sat b F w→VL (Value.int .u8) w vb xs) :
  SC Tryz.prog xK [vb] b F (fun v F'=>v=idV (we xs)∧F'=F):=by
 have hsl:=fQ xs;have hd:we xs=idM (N3 (my xs.length u6 xs).1 (my xs.length u6 xs).2 xs.length):=rfl;have hal:=Gt xs.length u6 xs Z;refine aw Tryz.func23 Z Z Z <| akw <| db Z Z Z Z Z fun gi=>aan <| bf Z Z Z (ai8) ?_
 rintro _ _ ⟨g,rfl,rfl⟩;refine ae Z <| aan <| am4 Z Z ?_;refine bf Z Z Z (St (F:=pt gi t_api_ID (u8s (List.replicate 32 0))::F) (a:=u6) (rs:= []) (n:=0) (xs:=xs) Z (by omega) (by simp;omega) (up hb (af 1 [] Z))) ?_;rintro _ _ ⟨rfl,r',rfl⟩;refine aan <| ae Z ?_;have e0:([]:List Int).length+xs.length=xs.length:=by simp
 have e1:(0:Int)+xs.length=xs.length:=by simp
 simp only [e0,e1,aos] at *;refine bf Z Z Z (Yo hal.1 (by omega)) ?_;rintro _ _ ⟨rfl,rfl⟩;rw [← hd];generalize we xs=d at *;refine am5 Z Z Z <| db Z Z Z Z Z fun g4=> ?_
 skip
 refine fh 0 Z Z Z Z Z Z Z (by rw [dr,hsl];rfl) (ib _) (by simp [hsl]) ?_;refine ae Z <| aan <| du 0 Z Z Z Z Z Z (ll hsl) Z ?_;refine fh 3 Z Z Z Z Z Z Z (by rw [dr,hsl];rfl) (ib _) (by simp [hsl]) ?_;refine akv <| ai ?_;refine fw Z (.whole 3 Z Z Z Z (by rw [dr,hsl];rfl) .nil) (af 4 [] Z) ?_;exact ⟨rfl,rfl⟩

def Dd (l:List Int) (n:Nat):List Int:=l.take n++List.replicate (32 - n) 0
theorem De (l:List Int) (n:Nat) (h:l.length=32) (hn:n≤32):(Dd l n).length=32:=by simp [Dd,h];omega
def wv (l:List Int) (w:Int):List Int:=if w<1∨32<w then List.replicate 32 0 else Dd l w.toNat
def zU (w:Int):Int:=if w<1∨32<w then 3 else 0
theorem mG (l:List Int) (w:Int) (h:l.length=32):(wv l w).length=32:=by
 unfold wv;split
 ·simp
 ·exact De l _ h (by omega)
theorem Wo {b:World} {F:List SP} {l:List Int} {w:Int} (hl:l.length=32) :
  SC Tryz.prog K4 [idV l,ii w] b F (fun v F'=>v = .tuple ⟨[idV (wv l w),ii (zU w)]⟩∧F'=F):=by
 refine aw Tryz.func106 Z Z Z <| akw <| bx Z Z Z Z Z fun g2=>db Z Z Z Z Z fun g4=>ae Z <| akv <| ad <| akw <| am5 Z Z Z ?_
 refine np 8 Z (fun h=> ?_) (fun h=> ?_)
 ·refine am5 Z Z Z <| akv <| ao Z <| akw <| ae Z <| eu 0 Z Z Z Z <| ae Z <| akv <| ai <| ag <| fw Z (.agg 0 Z Z Z Z Z (.tmp Z .nil)) (af 2 [] Z) ?_;exact ⟨by rw [wv,zU,if_pos (.inl h),if_pos (.inl h)];rfl,rfl⟩
 refine am5 Z Z Z <| akv ?_;refine de Z (fun h'=> ?_) (fun h'=> ?_)
 ·refine akw <| ae Z <| eu 0 Z Z Z Z <| ae Z <| akv <| ai <| ag <| fw Z (.agg 0 Z Z Z Z Z (.tmp Z .nil)) (af 2 [] Z) ?_;exact ⟨by rw [wv,zU,if_pos (.inr h'),if_pos (.inr h')];rfl,rfl⟩
 refine ak <| ab <| akw <| ae Z <| az Z ?_;have hw:(32 - w.toNat:Nat)≤32:=by omega
 have hcut:spl (u8s l) (if 32=w.toNat then 0 else 0+w.toNat*1) (List.replicate (((32:Nat):Int).toNat - w.toNat) (.int .u8 0))=u8s (Dd l w.toNat):=by
  by_cases h32:32=w.toNat
  ·rw [if_pos h32,← h32];simp [spl,Dd,u8s,hl];rw [an1 (by simp [hl])]
  ·rw [if_neg h32];have e1:0+w.toNat*1=w.toNat:=by omega
   have e2:((32:Nat):Int).toNat - w.toNat=32 - w.toNat:=by omega
   have e3:w.toNat+(32 - w.toNat)=32:=by omega
   rw [e1,e2];simp [spl,Dd,u8s,e3,hl]
 refine Na 1 Z Z Z Z Z Z Z Z (by simp [hl];split <;> omega) ?_;rw [hcut];have hcl:=De l w.toNat hl (by omega);have hR:wv l w=Dd l w.toNat:=by rw [wv,if_neg (by omega)]
 have hE:zU w=0:=by rw [zU,if_neg (by omega)]
 rw [hR,hE];generalize Dd l w.toNat=d at *;refine aan <| du 1 Z Z Z Z Z Z (ll hcl) Z ?_;refine fh 0 Z Z Z Z Z Z Z (by rw [dr,hcl];rfl) (ib _) (by simp [hcl]) ?_;refine ae Z <| akv <| ai ?_;refine fw Z (.whole 0 Z Z Z Z (by rw [dr,hcl];rfl) (.tmp Z .nil)) (af 2 [] Z) ?_;exact ⟨rfl,rfl⟩

theorem ai9 {b:World} {F:List SP} {vb:Value} {xs:List Int} {w:Int} (hlen:xs.length≤1000000) (hb:∀ w,Sat b F w→VL (Value.int .u8) w vb xs) :
  SC Tryz.prog Cp [vb,ii w] b F (fun v F'=>v = .tuple ⟨[idV (wv (we xs) w),ii (zU w)]⟩∧F'=F):=by
 have hcl:=mG (we xs) w (fQ xs);refine aw Tryz.func31 Z Z Z <| akw <| db Z Z Z Z Z fun g4=>ae Z <| aan <| ae Z <| bg Z Z Z (Wm hlen (up hb (af 1 [] Z))) <| ae Z <| bg Z Z Z (Wo (fQ xs)) ?_
 generalize wv (we xs) w=d at *;refine am4 Z Z ?_;refine fh 0 Z Z Z Z Z Z Z (by rw [dr,hcl];rfl) (ib _) (by simp [hcl]) ?_;refine ae Z <| akv <| ai ?_;refine fw Z (.whole 0 Z Z Z Z (by rw [dr,hcl];rfl) (.tmp Z .nil)) (af 1 [] Z) ?_;exact ⟨rfl,rfl⟩

def fR (l:List Int) (w:Int):Bool:=decide (zU w=0)&&decide (wv l w=l)
theorem Wp {b:World} {F:List SP} {l:List Int} {w:Int} (hl:l.length=32) :
  SC Tryz.prog K5 [idV l,ii w] b F (fun v F'=>v = .bool (fR l w)∧F'=F):=by
 have hcl:=mG l w hl;refine aw Tryz.func199 Z Z Z <| akw <| bx Z Z Z Z Z fun g2=>ae Z <| aan <| du 0 Z Z Z Z Z Z (ll hl) Z <| ae Z <| bg Z Z Z (Wo hl) ?_
 unfold fR;generalize wv l w=d at *;refine am5 Z Z Z <| db Z Z Z Z Z fun g5=> ?_;refine fh 0 Z Z Z Z Z Z Z (by rw [dr,hcl];rfl) (ib _) (by simp [hcl]) ?_;refine ae Z <| aan <| am5 Z Z Z ?_;refine np 15 Z (fun h=> ?_) (fun h=> ?_)
 ·skip
  refine du 0 Z Z Z Z Z Z (ll hcl) Z <| du 1 Z Z Z Z Z Z (ll hl) Z <| nq Z (nT (as00:=d) (bs:=l) Z Z hcl hl) Z <| am4 Z Z <| akv <| ai <| ar Z Z (af 2 [] Z) ?_;exact ⟨by simp [h,pW],rfl⟩
 ·(iterate 5 refine ae Z ?_)
  refine akv <| ai <| ar Z Z (af 2 [] Z) ?_;exact ⟨by simp [h,pW],rfl⟩

def lv (l:List Int):Prop:=∀ c∈l,0≤c∧c<256

abbrev u8l (xs:List Int):List UInt8:=xs.map fun n=>UInt8.ofNat n.toNat
theorem Gu {b:World} {F:List SP} {va vb:Value} {xs ys:List Int} (ha:∀ w,Sat b F w→VL (Value.int .u8) w va xs) (hb:∀ w,Sat b F w→VL (Value.int .u8) w vb ys) :
  SC Tryz.prog pY [va,vb] b F (fun v F'=>v=ii (Lib.compareBytes (u8l xs) (u8l ys))∧F'=F):=by
 refine aw Tryz.func126 Z Z Z <| akw <| ae Z <| aan <| am4 Z Z ?_;refine nR Z Z Z (fun w H=>R7 Tryz.func202 (by kernel_rfl) (by kernel_rfl) (by kernel_rfl) (by kernel_rfl) (ha w H) (hb w H)) ?_;refine ae Z <| akv <| ai <| ar Z Z ax ?_;exact ⟨rfl,rfl⟩

def dig (c:Int):Int:=if 48≤c∧c≤57 then c - 48 else if 97≤c∧c≤102 then c - 87 else -1
def aja (s:List Int) (i:Nat):Int:=16*dig (s.getD (2*i) 0)+dig (s.getD (2*i+1) 0)
def okD (s:List Int) (i:Nat):Prop:=0≤dig (s.getD (2*i) 0)∧0≤dig (s.getD (2*i+1) 0)
instance (s:List Int) (i:Nat):Decidable (okD s i):=inferInstanceAs (Decidable (_∧_))
def okR (s:List Int):Prop:=s.length=64∧∀ i,i<32→okD s i
instance (s:List Int):Decidable (okR s):=inferInstanceAs (Decidable (_∧_))
def ajb (s:List Int):List Int:=if okR s then (List.range 32).map (aja s) else List.replicate 32 0
def pn (x y:List Int):Int:=Lib.compareBytes (u8l x) (u8l y)
theorem oP {b:World} {F:List SP} {x y:List Int} (hx:x.length=32) (hy:y.length=32):SC Tryz.prog jC [idV x,idV y] b F (fun v F'=>v=ii (pn x y)∧F'=F):=by
 refine aw Tryz.func46 Z Z Z <| akw <| bx Z Z Z Z Z fun g2=>bx Z Z Z Z Z fun g3=>ae Z <| akv <| ad <| cn flo [] (by decide +kernel) (dc _) <| cq Z Z <| cq Z Z <| cz 5 (.slice (some ⟨g2,0,none⟩) 32 32) Z Z <| cz 6 (.slice (some ⟨g3,0,none⟩) 32 32) Z Z <| dh Z Z Z Z (Gu (vl1 (l:=x) (k:=1) hx.symm (by decide) Z) (vl1 (l:=y) (k:=0) hy.symm (by decide) Z)) (dc _) <| ay Z Zl <| aq <| ab <| ai <| ar Z Z (af 2 [] Z) ?_
 exact ⟨rfl,rfl⟩




theorem aE {P:Program} {tt:Nat→Option TI} [TT P tt] {ro:Option Nat} {N:Nat} {fl:Oper→Bool} {l rest:List Oper} {kk:Nat} {Q:Exit→Act→World→Prop} {E:List (Nat × Value)} {ds:List Deferred} {b:World} {F0 F G:List SP}
  {op:Op} {ty:TypeId} {pos:String} {aft:Array Edge} {g:Option (Nat × Bool)} {t g' t0:Nat} {x y:Operand} {i:TI} {cs vs:List Value} (k:Nat) (hg:da l E g=some true) (hf:fl ⟨none,op,ty,pos,aft,g⟩=false) (hop:op = .store t x y) (ht:tt t=some i) (hx:ev E x=some (pp g')) (hy:ev E y=some (.agg ⟨vs⟩)) (hF:nth F k=some (pt g' t0 cs)) (hG:jl F k (pt g' t0 vs)=some G)
  (hs:vs.length=i.size) (hv:∀ u∈vs,u.oneCell'=true) (hc:vs.length=cs.length) (he:Ent G F0) (h:SD P fl ro N F0 l (kk+1) rest Q E ds b G):SD P fl ro N F0 l kk (⟨none,op,ty,pos,aft,g⟩::rest) Q E ds b F:=by
 subst hop;refine B5 hg hf (fun w H=> ?_) he h;have B:=H.blk hF;exact ⟨_,x7 (vs:=vs) ht hx hy Z (by rw [hs];exact aqn _) hv B hc,H.write hF (Fr.setRow _ _ _) B.setRow hG⟩

def amr:ByteArray:=⟨#[98,97,55,56,49,54,98,102,56,102,48,49,99,102,101,97,52,49,52,49,52,48,100,101,53,100,97,101,50,50,50,51,98,48,48,51,54,49,97,51,57,54,49,55,55,97,57,99,98,52,49,48,102,102,54,49,102,50,48,48,49,53,97,100]⟩
theorem rdA:ajb (fe amr)=we [97,98,99]:=by decide +kernel
theorem oQ {x n:Int} (hx:x<0):x.tmod n = -((-x) % n):=by
 have h1:(-x).tmod n=(-x) % n:=aph (by omega);rw [← h1,Int.neg_tmod,Int.neg_neg]
theorem Sx {x n:Int} (hn:0<n) : -n<x.tmod n∧x.tmod n<n:=by
 by_cases hx:x<0
 ·have:=ark (-x) (by omega:n≠0);have:=arl (-x) hn;rw [oQ hx];omega
 ·have:=ark x (by omega:n≠0);have:=arl x hn;rw [aph (by omega)];omega
theorem I0 {x n q s:Int} (h:x=n*q+s) (h0:0≤s) (h1:s<n):x % n=s:=by
 rw [h,Int.add_comm,Int.add_mul_emod_self_left,Int.emod_eq_of_lt h0 h1]
theorem Sy {x n:Int} (hn:0<n) (h:x.tmod n<0):x.tmod n+n=x % n:=by
 have hx:x<0:=by
  apply aqu;intro hx;have:=ark x (by omega:n≠0);rw [aph (by omega)] at h;omega
 rw [oQ hx] at h ⊢;have h1:=arl (-x) hn;have h2:=Int.emod_add_mul_ediv (-x) n;refine (I0 (q:= -((-x) / n) - 1) ?_ (by omega) (by omega)).symm;rw [Int.mul_sub,Int.mul_neg];omega
theorem Sz {x n:Int} (hn:0<n) (h:¬ x.tmod n<0):x.tmod n=x % n:=by
 by_cases hx:x<0
 ·rw [oQ hx] at h ⊢;have h1:=ark (-x) (by omega:n≠0);have h2:=Int.emod_add_mul_ediv (-x) n;have h3:(-x) % n=0:=by omega
  refine (I0 (q:= -((-x) / n)) ?_ (by omega) (by omega)).symm;rw [Int.mul_neg];omega
 ·exact aph (by omega)
theorem N4 {b:World} {F:List SP} {x n:Int} (hn:I64 n):SC Tryz.prog jT [ii x,ii n] b F (fun v F'=>v=ii (if n≤0 then 0 else x % n)∧F'=F):=by
 unfold I64 at hn;refine aw Tryz.func13 Z Z Z <| akw <| ae Z <| akv <| ad <| akw <| am4 Z Z <| akv ?_;refine de Z (fun h=> ?_) (fun h=> ?_)
 ·refine akw <| ae Z <| akv <| ai <| ag <| ar Z Z ax ?_;exact ⟨by rw [if_pos h];rfl,rfl⟩
 refine ak <| ab <| akw <| am4 Z Z <| az Z <| ae Z <| akv <| ad <| akw <| am4 Z Z <| akv ?_;refine de Z (fun h2=> ?_) (fun h2=> ?_)
 ·refine aa <| am4 Z Z ?_;have hb:=Sx (x:=x) (n:=n) (by omega);have e:=Sy (x:=x) (n:=n) (by omega) h2;refine az Z <| ae Z <| aan <| am4 Z Z <| akv <| ai <| ar Z Z ax ?_;exact ⟨by rw [if_neg h,← e];rfl,rfl⟩
 refine ak <| ab <| akw <| am4 Z Z <| akv <| ai <| ar Z Z ax ?_;exact ⟨by rw [if_neg h,← Sz (by omega) h2];rfl,rfl⟩

theorem N5 {xs:List Int} (h:∀ x∈xs,(Lit.int .u8 x).wf=true):lv xs:=by
 intro x hx;have:=h x hx;simp [Lit.wf,IntKind.min,IntKind.max,IntKind.signed,IntKind.bits] at this;omega
open Go.WideMaps

theorem ajc:ArrKey Tryz.prog t_api_ID m8 32:=⟨by kernel_rfl,by kernel_rfl,by kernel_rfl,by kernel_rfl⟩
def idOk (a:List Int):Prop:=a.length=32∧∀ x∈a,(Lit.int .u8 x).wf=true
theorem N6:MK Tryz.prog t_api_ID (fun a:List Int=> .agg ⟨a.map (Value.int .u8)⟩) idOk:=Sh ajc (by kernel_rfl) ⟨_,(by kernel_rfl:Tryz.prog.types.size=(Tryz.prog.types.size - 1)+1)⟩

structure Kp where
 id:List Int
 b:List Int
 g:Nat
 v:Value
def kP (e:Kp):List SP:= [pt e.g fK [e.v],rB e.v e.b]
def kF:List Kp→List SP
 | [] => []
 | e :: l => kP e ++ kF l
def kM:List Kp→List (List Int × Value)
 | [] => []
 | e :: l => (e.id, pp e.g) :: kM l
def qy (a:List Int):List Kp→Option Kp
 | [] => none
 | e :: l => if e.id = a then some e else qy a l
abbrev mpB (gm:Nat) (l:List Kp):SP:=mp gm (fun a:List Int=> .agg ⟨a.map (Value.int .u8)⟩) idOk (kM l)
abbrev stC (w r u:Int) (gm:Nat):List Value:= [ii w,ii r,ii u,.map (some gm)]
abbrev stB (gs gm:Nat) (w r u:Int) (l:List Kp) (F:List SP):List SP:=pt gs tc (stC w r u gm)::mpB gm l::all (kF l)::F

theorem N7 (a:List Int) (l:List Kp):md a (kM l)=(qy a l).map fun e=>pp e.g:=by
 induction l with
 | nil => rfl
 | cons e l ih =>
  simp only [kM,md,qy]
  split
  ·rfl
  ·exact ih
theorem I2 {l:List Kp} {a:List Int} {e:Kp} (h:qy a l=some e):∃ l1 l2,l=l1++e::l2∧e.id=a∧qy a l1=none∧(kF l).Perm (kP e++kF (l1++l2)):=by
 induction l with
 | nil => cases h
 | cons x l ih =>
  simp only [qy] at h
  split at h
  ·cases h;exact ⟨[],l,rfl,by assumption,rfl,aq0 _⟩
  ·rename_i hx
   obtain ⟨l1,l2,rfl,h1,h2,h3⟩:=ih h;refine ⟨x::l1,l2,rfl,h1,by simp only [qy];rw [if_neg hx];exact h2,?_⟩;simp only [kF,aoe];refine (h3.append_left (kP x)).trans ?_;rw [← anh,← anh];exact ao9.append_right _

section
variable {b:World} {F:List SP} {gs gm:Nat} {w r u:Int} {l:List Kp}
theorem Gv:SC Tryz.prog qm [pp gs] b (stB gs gm w r u l F) (fun v F'=>v = .bool false∧F'=stB gs gm w r u l F):=by
 refine aw Tryz.func107 Z Z Z <| akw <| ae Z <| aan ?_
 (iterate 6 refine ae Z ?_)
 refine bt 0 Z Z Z <| am5 Z Z Z <| akv <| ai <| ar Z Z (af 0 [] Z) ?_;exact ⟨rfl,rfl⟩
end

section
variable {b:World} {F:List SP} {gs gm:Nat} {w r u:Int} {l:List Kp}
theorem S4:SC Tryz.prog vy [pp gs] b (stB gs gm w r u l F) (fun v F'=>v=ii w∧F'=stB gs gm w r u l F):=by
 refine aw Tryz.func32 Z Z Z <| akw <| ae Z <| akv <| ad <| akw <| ae Z <| bg Z Z Z (Gv) <| akv <| aj Z <| ak <| ab <| akw <| am5 Z Z Z <| bt 0 Z Z Z <| ae Z <| akv <| ai <| ar Z Z (af 0 [] Z) ?_;exact ⟨rfl,rfl⟩
def Wq (w r:Int):Prop:=¬ w<1∧¬ 32<w∧¬ r<0∧¬ 67108864<r
theorem Gw (h:Wq w r):SC Tryz.prog sI [ii w,ii r] b F (fun v F'=>∃ gs gm,v = .tuple ⟨[pp gs,ii 0]⟩∧F'=stB gs gm w r 0 [] F):=by
 obtain ⟨h1,h2,h3,h4⟩:=h;refine aw Tryz.func10 Z Z Z <| akw <| am4 Z Z <| akv <| ad <| akw <| am5 Z Z Z <| np 8 Z (fun h=>(h1 h).elim) (fun h=>am5 Z Z Z <| ae Z <| np 12 Z (fun h=>(h2 h).elim) (fun h=>am5 Z Z Z <| ae Z <| np 16 Z (fun h=>(h3 h).elim) (fun h=>am5 Z Z Z <| akv <| de Z (fun h=>(h4 h).elim) (fun h=>ak <| ab <| akw <| am4 Z Z <| yo (fun a:List Int=> .agg ⟨a.map (Value.int .u8)⟩) idOk Z Z Z fun gm=>ae Z <| bx Z Z Z Z Z fun gs=>am4 Z Z <| akv <| ai <| fz Z Z Z ((af 2 [0,1] Z).trans ((eg (G:= []) (F:=pt gs tc (stC w r 0 gm)::mpB gm []::F)).trans (af 3 [1,2,0] Z))) ?_))));exact ⟨gs,gm,rfl,rfl⟩
theorem N8 {a:List Int} {e:Kp} (h:qy a l=some e):∃ l1 l2,l=l1++e::l2∧e.id=a∧qy a l1=none∧(∀ F,Ent (all (kF l)::F) (pt e.g fK [e.v]::rB e.v e.b::all (kF (l1++l2))::F))∧∀ F,Ent (pt e.g fK [e.v]::rB e.v e.b::all (kF (l1++l2))::F) (all (kF l)::F):=by
 obtain ⟨l1,l2,h1,h2,h3,h4⟩:=I2 h;exact ⟨l1,l2,h1,h2,h3,fun F=>qd h4,fun F=>ny h4⟩
end

section
variable {b:World} {F:List SP} {gs gm:Nat} {w r u:Int} {l:List Kp}
end

theorem ams (x:Int):(Lit.int .u8 x).wf=true↔0≤x∧x<256:=by
 have h1:IntKind.u8.min=0:=by decide
 have h2:IntKind.u8.max=255:=by decide
 simp [Lit.wf,h1,h2];omega
theorem K9:∀ {x y:List Int},lv x→lv y→(strOfNums x).data=(strOfNums y).data→x=y:=by
 have key:∀ z:List Int,lv z→(z.map fun n=>UInt8.ofNat n.toNat).map (fun u=>(u.toNat:Int))=z:=fun z hz=>by
  rw [apk]
  conv=>rhs;rw [← List.map_id z]
  refine aqj fun n hn=> ?_;have:=hz n hn;simp only [Function.comp,id,UInt8.toNat_ofNat'];omega
 intro x y hx hy h;have h1:(strOfNums x).data.toList=(strOfNums y).data.toList:=by rw [h]
 simp only [strOfNums] at h1;rw [← key x hx,← key y hy,h1]
theorem La {x y:List Int} (hx:lv x) (hy:lv y):decide ((strOfNums x).data=(strOfNums y).data)=decide (x=y):=aqd.2 ⟨K9 hx hy,fun h=>by rw [h]⟩
section
variable {b:World} {F:List SP}
theorem zV {e:Int}:SC Tryz.prog pO [.bool true,ii e] b F (fun v F'=>v=ii e∧F'=F):=by
 refine aw Tryz.func120 Z Z Z <| akw <| ae Z <| akv <| ad <| akw <| ae Z <| akv <| ao Z <| akw <| am4 Z Z <| akv <| ai <| ag <| ar Z Z (af 0 [] Z) ?_;exact ⟨rfl,rfl⟩
theorem oS {e:Int}:SC Tryz.prog pO [.bool false,ii e] b F (fun v F'=>v=ii 0∧F'=F):=by
 refine aw Tryz.func120 Z Z Z <| akw <| ae Z <| akv <| ad <| akw <| ae Z <| akv <| aj Z <| ak <| ab <| akw <| ae Z <| akv <| ai <| ar Z Z (af 0 [] Z) ?_;exact ⟨rfl,rfl⟩
theorem S5 {va vb:Value} {xs ys:List Int} (ha:∀ w,Sat b F w→VL (Value.int .u8) w va xs) (hb:∀ w,Sat b F w→VL (Value.int .u8) w vb ys) :
  SC Tryz.prog vT [va,vb] b F (fun v F'=>v = .bool (decide ((strOfNums xs).data=(strOfNums ys).data))∧F'=F):=by
 refine aw Tryz.func123 Z Z Z <| akw <| ae Z <| aan <| ae Z <| Fz Z Z Z Z Z Z Z ha <| ae Z <| Fz Z Z Z Z Z Z Z hb <| am4 Z Z <| akv <| ai <| ar Z Z (af 0 [] Z) ?_;exact ⟨rfl,rfl⟩

variable {A:SP} {g9 g8 g5 g4 g3 gs gm:Nat} {is:Bool} {old vb:Value} {id xs:List Int} {w r u:Int} {l:List Kp}
abbrev dZ (g9 g8 g5 g4 g3:Nat) (is:Bool) (old vb:Value) (id:List Int) (gs gm:Nat) (w r u:Int) (l:List Kp) (F:List SP):List SP :=
 pt g9 tb [.bool is]::pt g8 jF [old]::pt g5 u4 [vb]::pt g4 t_api_ID (u8s id)::pt g3 j7 [pp gs]::stB gs gm w r u l F
theorem N9 (hb:∀ w,Sat b F w→VL (Value.int .u8) w vb xs) (hlen:xs.length≤1000000) :
  SC Tryz.prog f0 [pp g5] b (A::dZ g9 g8 g5 g4 g3 is old vb id gs gm w r u l F) (fun v F'=>v=ii (if 4096<xs.length then 4 else 0)∧F'=A::dZ g9 g8 g5 g4 g3 is old vb id gs gm w r u l F):=by
 refine aw Tryz.func119 Z Z Z <| bu (fun w H=>(hb w (H.ent (af 9 [] Z))).form) ?_;rintro ⟨bA,bc,rfl,h1,h2,h3,h4⟩;refine akw <| ae Z <| aan <| bt 3 Z Z Z <| am4 Z Z ?_;by_cases h:4096<xs.length
 ·refine wz 4 Z <| bg Z Z Z (zV) <| ae Z <| akv <| ai <| ar Z Z (af 0 [] Z) ?_;exact ⟨by rw [if_pos h];rfl,rfl⟩
 ·refine px 4 Z <| bg Z Z Z (oS) <| ae Z <| akv <| ai <| ar Z Z (af 0 [] Z) ?_;exact ⟨by rw [if_neg h];rfl,rfl⟩
theorem Oa (hb:∀ w,Sat b F w→VL (Value.int .u8) w vb xs) (hlen:xs.length≤1000000) (hid:id.length=32) :
  SC Tryz.prog ge [pp g5,pp g3,pp g4] b (A::dZ g9 g8 g5 g4 g3 is old vb id gs gm w r u l F)
   (fun v F'=>v=ii (if wv (we xs) w=id then 0 else 8)∧F'=A::dZ g9 g8 g5 g4 g3 is old vb id gs gm w r u l F):=by
 have hcl:=mG (we xs) w (fQ xs);have hOf:∀ {b:World} {F:List SP},(∀ w,Sat b F w→VL (Value.int .u8) w vb xs)→SC Tryz.prog Cp [vb,ii w] b F (fun v F'=>v = .tuple ⟨[idV (wv (we xs) w),ii (zU w)]⟩∧F'=F):=fun h=>ai9 hlen h
 generalize wv (we xs) w=own at *;generalize zU w=ce at *;refine aw Tryz.func121 Z Z Z <| akw <| ae Z <| akv <| ad ?_;refine w9 flo 12 _ (by kernel_rfl) Z ax ?_;refine q8 (T:=Nat) 10 [6,7,8,10,11] (fun g=> [(0,pp g5),(1,pp g3),(2,pp g4),(4,pp g),(12,.tuple ⟨[idV own,ii ce]⟩)])
  (fun g=>pt g t_api_ID (u8s (List.replicate 32 0))::A::dZ g9 g8 g5 g4 g3 is old vb id gs gm w r u l F) (fun _=>True) ?_ (fun J=> ?_)
 rotate_left
 ·refine pg (5,[0,1,2,3,4]) [(9,[])] (by kernel_rfl) ⟨xa 0 5 Z Z Z ?_,jf _ Z ax ?_,trivial⟩
  ·refine cl 3 Z Z Z Z <| cl 5 Z Z Z Z <| ay Z Zl <| ay Z Zl <| cl 6 Z Z Z Z <| dh Z Z Z Z (hOf (up hb (af 9 [] Z))) ax ?_;refine aq (io ax (nu 9 0 (by kernel_rfl) Z ?_));refine jt Z Z Z Z Z Z ax fun g=>aq <| io (af 1 [] Z) ?_
   exact J g _ _ _ trivial (by kernel_rfl) ⟨rfl,rfl,rfl,rfl,rfl,trivial⟩ ax
  ·refine jt Z Z Z Z Z Z ax fun g=> ?_;refine aq (io (af 1 [] Z) (nu 0 5 (by kernel_rfl) Z ?_));refine cl 3 Z Z Z Z <| cl 5 Z Z Z Z <| ay Z Zl <| ay Z Zl <| cl 6 Z Z Z Z <| dh Z Z Z Z (hOf (up hb (af 10 [] Z))) (af 1 [] Z) <| aq <| io (af 1 [] Z) ?_;exact J g _ _ _ trivial (by kernel_rfl) ⟨rfl,rfl,rfl,rfl,rfl,trivial⟩ ax
 intro gg _;refine pg (10,[6,7]) [] (by kernel_rfl) ⟨jm 6 2 (L2:= []) Z Z ?_,trivial⟩;refine ay Z Zl <| ay Z Zl <| aq <| s0 (af 1 [] Z) <| jf _ Z ax ?_;refine aE 0 Z Z Z Z Z Z Z Z (by rw [dr,hcl];rfl) (ib _) (by simp [hcl]) (af 1 [] Z) ?_;refine aq (io (af 1 [] Z) (lN 8 1 11 1 (by kernel_rfl) (by kernel_rfl) Z ?_));refine ay Z Zl <| aq <| Ns Z (af 1 [] Z) <| ay Z Zl <| aq <| ab <| akw <| du 0 Z Z Z Z Z Z (ll hcl) Z <| du 5 Z Z Z Z Z Z (ll hid) Z <| nq Z (F5 (as00:=own) (bs:=id) Z Z hcl hid) Z ?_;by_cases h:own=id
 ·refine bm 17 (.bool false) Z (by simp [h]) ?_;refine bg Z Z Z (oS) <| ae Z <| akv <| ai <| ar Z Z (af 1 [] Z) ?_;exact ⟨by rw [if_pos h];rfl,rfl⟩
 ·refine bm 17 (.bool true) Z (by simp [h]) ?_;refine bg Z Z Z (zV) <| ae Z <| akv <| ai <| ar Z Z (af 1 [] Z) ?_;exact ⟨by rw [if_neg h];rfl,rfl⟩
theorem Yp:SC Tryz.prog fk [pp g9,pp g8,pp g5] b (A::dZ g9 g8 g5 g4 g3 false old vb id gs gm w r u l F)
   (fun v F'=>v=ii 0∧F'=A::dZ g9 g8 g5 g4 g3 false old vb id gs gm w r u l F):=by
 refine aw Tryz.func122 Z Z Z <| akw <| ae Z <| akv <| ad <| cn flo (A::dZ g9 g8 g5 g4 g3 false old vb id gs gm w r u l F) (by decide +kernel) ax <| cl 1 Z Z Z Z ?_
 (iterate 6 refine ay Z Zl ?_)
 refine ay Z (.inr Z) <| ay Z Zl <| ay Z Zl <| dh Z Z Z Z (oS) ax <| ay Z Zl <| aq <| ab <| ai <| ar Z Z (af 0 [] Z) ?_;exact ⟨rfl,rfl⟩
theorem Yq {e:Kp} (hb:∀ w,Sat b F w→VL (Value.int .u8) w vb xs) (hlen:xs.length≤1000000) (hw:lv xs) (he:qy id l=some e) (hew:lv e.b) :
  SC Tryz.prog fk [pp g9,pp g8,pp g5] b (A::dZ g9 g8 g5 g4 g3 true (pp e.g) vb id gs gm w r u l F)
   (fun v F'=>v=ii (if e.b=xs then 0 else 9)∧F'=A::dZ g9 g8 g5 g4 g3 true (pp e.g) vb id gs gm w r u l F):=by
 obtain ⟨l1,l2,h1,h2,h3,h4,h5⟩:=N8 (l:=l) he;refine aw Tryz.func122 Z Z Z <| akw <| ae Z <| akv <| ad <| yj ((af 9 [8,0,1,2,3,4,5,6,7] Z:Ent _ (all (kF l)::A::pt g9 tb [.bool true]::pt g8 jF [pp e.g]::pt g5 u4 [vb]::pt g4 t_api_ID (u8s id)::pt g3 j7 [pp gs]::pt gs tc (stC w r u gm)::mpB gm l::F)).trans (h4 _)) <| cn flo _ (by decide +kernel) ax <| cl 4 Z Z Z Z <| ay Z Zl <| cl 5 Z Z Z Z <| ay Z Zl <| ay Z Zl <| cl 0 Z Z Z Z <| cl 6 Z Z Z Z <| dh Z Z Z Z (S5 (vlB (k:=1) Z) (up hb (af 11 [] Z))) ax <| ay Z Zl <| ay Z Zl ?_;have hdec:=La hew hw;by_cases h:e.b=xs
 ·refine cz 13 (.bool false) Z (by simp [hdec,h]) ?_;refine dh Z Z Z Z (oS) ax <| ay Z Zl <| aq <| ab <| ai <| ar Z Z ((h5 _).trans (af 9 [1,2,3,4,5,6,7,8,0] Z)) ?_;exact ⟨by rw [if_pos h];rfl,rfl⟩
 ·refine cz 13 (.bool true) Z (by simp [hdec,h]) ?_;refine dh Z Z Z Z (zV) ax <| ay Z Zl <| aq <| ab <| ai <| ar Z Z ((h5 _).trans (af 9 [1,2,3,4,5,6,7,8,0] Z)) ?_;exact ⟨by rw [if_neg h];rfl,rfl⟩
theorem Yr:SC Tryz.prog fm [pp g9,pp g3,pp g5] b (A::dZ g9 g8 g5 g4 g3 true old vb id gs gm w r u l F)
   (fun v F'=>v=ii 0∧F'=A::dZ g9 g8 g5 g4 g3 true old vb id gs gm w r u l F):=by
 refine aw Tryz.func124 Z Z Z <| akw <| ae Z <| akv <| ad <| cn flo (A::dZ g9 g8 g5 g4 g3 true old vb id gs gm w r u l F) (by decide +kernel) ax <| cl 1 Z Z Z Z ?_
 (iterate 15 refine ay Z Zl ?_)
 refine dh Z Z Z Z (oS) ax <| ay Z Zl <| aq <| ab <| ai <| ar Z Z (af 0 [] Z) ?_;exact ⟨rfl,rfl⟩
theorem Yt (hb:∀ w,Sat b F w→VL (Value.int .u8) w vb xs) (hlen:xs.length≤1000000) (hu:0≤u∧u≤67108864) :
  SC Tryz.prog fm [pp g9,pp g3,pp g5] b (A::dZ g9 g8 g5 g4 g3 false old vb id gs gm w r u l F)
   (fun v F'=>v=ii (if r<u+xs.length then 10 else 0)∧F'=A::dZ g9 g8 g5 g4 g3 false old vb id gs gm w r u l F):=by
 refine aw Tryz.func124 Z Z Z <| bu (fun w H=>(hb w (H.ent (af 9 [] Z))).form) ?_;rintro ⟨bA,bc,rfl,h1,h2,h3,h4⟩;refine akw <| ae Z <| akv <| ad <| cn flo (A::dZ g9 g8 g5 g4 g3 false old (.slice bA xs.length bc) id gs gm w r u l F) (by decide +kernel) ax <| cl 1 Z Z Z Z <| ay Z Zl <| ay Z Zl <| cl 5 Z Z Z Z <| ay Z Zl <| ay Z Zl <| cl 6 Z Z Z Z <| cl 3 Z Z Z Z <| ay Z Zl <| cq Z Z <| cl 5 Z Z Z Z <| ay Z Zl <| ay Z Zl <| cl 6 Z Z Z Z <| ay Z Zl <| ay Z Zl ?_;by_cases h:r<u+xs.length
 ·refine yn 19 Z h <| dh Z Z Z Z (zV) ax <| ay Z Zl <| aq <| ab <| ai <| ar Z Z (af 0 [] Z) ?_;exact ⟨by rw [if_pos h];rfl,rfl⟩
 ·refine vr 19 Z h <| dh Z Z Z Z (oS) ax <| ay Z Zl <| aq <| ab <| ai <| ar Z Z (af 0 [] Z) ?_;exact ⟨by rw [if_neg h];rfl,rfl⟩
end

theorem Lb {a:List Int} {l:List Kp} (e:Kp) (he:e.id=a) (h:qy a l=none):sy a (pp e.g) (kM l)=kM (l ++ [e]):=by
 induction l with
 | nil => subst he; rfl
 | cons x l ih =>
  simp only [qy] at h
  split at h
  ·cases h
  ·rename_i hx
   simp only [kM,sy,if_neg hx,aoe,ih h]
theorem Yu (l:List Kp) (e:Kp):(kF (l ++ [e])).Perm (kP e++kF l):=by
 have:kF (l ++ [e])=kF l++kP e:=by
  induction l with
  | nil => simp [kF]
  | cons x l ih => simp only [aoe, kF, ih, anh]
 rw [this];exact ao9
section
variable {b:World} {F:List SP} {gs gm:Nat} {w r u:Int} {l:List Kp} {vb:Value} {id xs:List Int}
def kv:Nat→Int
 | 0 => 0
 | 1 => 1
 | 2 => 2
 | 3 => 3
 | _ => 4
def fS (id xs:List Int) (w r u:Int):Int:=if 4096<xs.length then 4 else if wv (we xs) w=id then (if r<u+xs.length then 10 else 0) else 8
theorem Ob (hb:∀ w,Sat b F w→VL (Value.int .u8) w vb xs) (hlen:xs.length≤1000000) (hid:idOk id) (h:qy id l=none) (hu:0≤u∧u≤67108864) :
  SC Tryz.prog ry [pp gs,idV id,vb] b (stB gs gm w r u l F)
   (fun v F'=>if fS id xs w r u=0 then v = .tuple ⟨[.bool true,ii 0]⟩∧∃ g v1,F'=stB gs gm w r (u+xs.length) (l ++ [⟨id,xs,g,v1⟩]) F else v = .tuple ⟨[.bool false,ii (fS id xs w r u)]⟩∧F'=stB gs gm w r u l F):=by
 refine aw Tryz.func44 Z Z Z <| bu (fun w H=>(hb w (H.ent (af 3 [] Z))).form) ?_;rintro ⟨bA,bc,rfl,f1,f2,f3,f4⟩;refine akw <| bx Z Z Z Z Z fun g3=>bx Z Z Z Z Z fun g4=>bx Z Z Z Z Z fun g5=>am4 Z Z <| akv <| ad <| akw <| bt 2 Z Z Z <| bg Z Z Z ((Gv (F:=pt g5 u4 [.slice bA xs.length bc]::pt g4 t_api_ID (u8s id)::pt g3 j7 [pp gs]::F)).at (af 6 [3,4,5,0,1,2] Z) (af 6 [3,4,5,0,1,2] Z)) <| akv <| aj Z <| ak <| ab <| ad ?_
 refine w9 flo 13 _ (by kernel_rfl) Z ax ?_;refine q8 (T:=Nat × Nat) 11 [0,1,2,3,4,5,6,7,8,11,12] (fun s=> [(3,pp g3),(4,pp g4),(5,pp g5),(8,pp s.1),(9,pp s.2)])
  (fun s=>dZ s.2 s.1 g5 g4 g3 false (.pointer none) (.slice bA xs.length bc) id gs gm w r u l F) (fun _=>True) ?_ (fun J=> ?_)
 rotate_left
 ·refine pg (9,[]) [(10,[])] (by kernel_rfl) ⟨jf _ Z ax ?_,jf _ Z ax ?_,trivial⟩
  ·refine jt Z Z Z Z Z Z ax fun g8=> ?_;refine aq (io (af 1 [] Z) (nu 10 0 (by kernel_rfl) Z ?_));refine jt Z Z Z Z Z Z (af 1 [] Z) fun g9=>aq <| io (af 2 [] Z) ?_
   exact J (g8,g9) _ _ _ trivial (by kernel_rfl) ⟨rfl,rfl,rfl,rfl,rfl,trivial⟩ ax
  ·refine jt Z Z Z Z Z Z ax fun g9=> ?_;refine aq (io (af 1 [] Z) (nu 9 0 (by kernel_rfl) Z ?_));refine jt Z Z Z Z Z Z (af 1 [] Z) fun g8=>aq <| io (af 2 [] Z) ?_
   exact J (g8,g9) _ _ _ trivial (by kernel_rfl) ⟨rfl,rfl,rfl,rfl,rfl,trivial⟩ (af 2 [1,0] Z)
 rintro ⟨g8,g9⟩ _;dsimp only;refine pg (11,[0,1,2,3,4,5,6,7]) [] (by kernel_rfl) ⟨jm 0 8 (L2:= []) Z Z ?_,trivial⟩;refine cl 2 Z Z Z Z <| ay Z Zl <| ay Z Zl <| cl 3 Z Z Z Z <| js 1 Z Z Z Z Z Z (ll hid.1) Z Z ?_;refine lG 4 N6 hid (by rw [N7,h];rfl) Z Z Z Z Z Z Z Z Z ?_;refine ay Z Zl <| ay Z Zl <| aq <| s0 (af 2 [] Z) <| jf _ Z ax <| aM 1 Z Z Z Z Z Z Z Z Z Z Z (af 2 [] Z) ?_;refine aq (io (af 2 [] Z) (pg (12,[8]) [] (by kernel_rfl) ⟨jm 8 1 (L2:= []) Z Z ?_,trivial⟩));refine ay Z Zl <| aq <| s0 (af 2 [] Z) <| jf _ Z ax <| aM 0 Z Z Z Z Z Z Z Z Z Z Z (af 2 [] Z) ?_;refine aq (io (af 2 [] Z) (yq 0 0 (by kernel_rfl) (by kernel_rfl) Z (aq ?_)));refine ab <| ad <| akw <| am5 Z Z Z <| ae Z ?_;refine ql [.func (.func f0) ⟨[]⟩ ⟨[pp g5]⟩,.func (.func ge) ⟨[]⟩ ⟨[pp g5,pp g3,pp g4]⟩,
  .func (.func fk) ⟨[]⟩ ⟨[pp g9,pp g8,pp g5]⟩,.func (.func fm) ⟨[]⟩ ⟨[pp g9,pp g3,pp g5]⟩] Z Z Z Z Z Z Z Z Z fun gl=> ?_
 refine am4 Z Z <| akv <| am ?_;have p1:=N9 (b:=b) (F:=F) (A:=pt gl ld [.func (.func f0) ⟨[]⟩ ⟨[pp g5]⟩,.func (.func ge) ⟨[]⟩ ⟨[pp g5,pp g3,pp g4]⟩,
  .func (.func fk) ⟨[]⟩ ⟨[pp g9,pp g8,pp g5]⟩,.func (.func fm) ⟨[]⟩ ⟨[pp g9,pp g3,pp g5]⟩])
  (g9:=g9) (g8:=g8) (g5:=g5) (g4:=g4) (g3:=g3) (is:=false) (old:= .pointer none) (gs:=gs) (gm:=gm) (w:=w) (r:=r) (u:=u) (l:=l) (id:=id) hb hlen
 have p2:=Oa (b:=b) (F:=F) (A:=pt gl ld [.func (.func f0) ⟨[]⟩ ⟨[pp g5]⟩,.func (.func ge) ⟨[]⟩ ⟨[pp g5,pp g3,pp g4]⟩,
  .func (.func fk) ⟨[]⟩ ⟨[pp g9,pp g8,pp g5]⟩,.func (.func fm) ⟨[]⟩ ⟨[pp g9,pp g3,pp g5]⟩])
  (g9:=g9) (g8:=g8) (g5:=g5) (g4:=g4) (g3:=g3) (is:=false) (old:= .pointer none) (gs:=gs) (gm:=gm) (w:=w) (r:=r) (u:=u) (l:=l) hb hlen hid.1
 have p4:=Yt (b:=b) (F:=F) (A:=pt gl ld [.func (.func f0) ⟨[]⟩ ⟨[pp g5]⟩,.func (.func ge) ⟨[]⟩ ⟨[pp g5,pp g3,pp g4]⟩,
  .func (.func fk) ⟨[]⟩ ⟨[pp g9,pp g8,pp g5]⟩,.func (.func fm) ⟨[]⟩ ⟨[pp g9,pp g3,pp g5]⟩])
  (g9:=g9) (g8:=g8) (g5:=g5) (g4:=g4) (g3:=g3) (old:= .pointer none) (gs:=gs) (gm:=gm) (w:=w) (r:=r) (u:=u) (l:=l) (id:=id) hb hlen hu
 generalize hown:wv (we xs) w=own at p2;have hE:fS id xs w r u=if 4096<xs.length then 4 else if own=id then (if r<u+xs.length then 10 else 0) else 8:=by rw [fS,hown]
 generalize fS id xs w r u=pe at hE ⊢;refine dt (S:=Nat) (fun k=> [(3,pp g3),(4,pp g4),(5,pp g5),(8,pp g8),(9,pp g9),(28,.slice (some ⟨gl,0,none⟩) 4 4),(29,ii 4),(30,ii (kv k))]) (fun _=>_)
  (fun k=>k≤4∧(1≤k→¬ 4096<xs.length)∧(2≤k→own=id)∧(4≤k→¬ r<u+xs.length)) (fun k=>4 - k) 0 ax ⟨by omega,by omega,by omega,by omega⟩ ?_
 rintro k ⟨hk,i1,i2,i4⟩
 match k,hk with
 | 0, _ =>
  have hk0:kv 0=0:=rfl;refine akw <| ae Z <| akv <| ad <| ao Z <| ak <| ab <| ad <| am <| akw <| az Z <| bt 0 Z Z Z <| ae Z <| aan <| ae Z ?_;by_cases h:4096<xs.length
  ·rw [if_pos h] at p1 hE;refine bg Z Z Z (p1) <| ae Z <| aan <| am4 Z Z <| akv <| ao Z <| akw <| am5 Z Z Z <| akv <| ai <| al <| ag <| cd <| al <| ag <| fz Z Z Z (af 6 [] Z) ?_;rw [hE,if_neg (by decide)];exact ⟨rfl,rfl⟩
  ·rw [if_neg h] at p1;refine bg Z Z Z (p1) <| ae Z <| aan <| am4 Z Z <| akv <| aj Z <| ak <| bh <| ab <| aa <| az Z <| ae Z <| ac ?_;refine cw 1 ax ⟨by omega,fun _=>h,by omega,by omega⟩
 | 1, _ =>
  have hk1:kv 1=1:=rfl;refine akw <| ae Z <| akv <| ad <| ao Z <| ak <| ab <| ad <| am <| akw <| az Z <| bt 0 Z Z Z <| ae Z <| aan <| ae Z ?_;rw [if_neg (i1 (by omega))] at hE;by_cases h:own=id
  ·rw [if_pos h] at p2;refine bg Z Z Z (p2) <| ae Z <| aan <| am4 Z Z <| akv <| aj Z <| ak <| bh <| ab <| aa <| az Z <| ae Z <| ac ?_;refine cw 2 ax ⟨by omega,fun _=>i1 (by omega),fun _=>h,by omega⟩
  ·rw [if_neg h] at p2 hE;refine bg Z Z Z (p2) <| ae Z <| aan <| am4 Z Z <| akv <| ao Z <| akw <| am5 Z Z Z <| akv <| ai <| al <| ag <| cd <| al <| ag <| fz Z Z Z (af 6 [] Z) ?_;rw [hE,if_neg (by decide)];exact ⟨rfl,rfl⟩
 | 2, _ =>
  have hk2:kv 2=2:=rfl;refine akw <| ae Z <| akv <| ad <| ao Z <| ak <| ab <| ad <| am <| akw <| az Z <| bt 0 Z Z Z <| ae Z <| aan <| ae Z <| bg Z Z Z (Yp) <| ae Z <| aan <| am4 Z Z <| akv <| aj Z <| ak <| bh <| ab <| aa <| az Z <| ae Z <| ac ?_;refine cw 3 ax ⟨by omega,fun _=>i1 (by omega),fun _=>i2 (by omega),by omega⟩
 | 3, _ =>
  have hk3:kv 3=3:=rfl;refine akw <| ae Z <| akv <| ad <| ao Z <| ak <| ab <| ad <| am <| akw <| az Z <| bt 0 Z Z Z <| ae Z <| aan <| ae Z ?_;rw [if_neg (i1 (by omega)),if_pos (i2 (by omega))] at hE;by_cases h:r<u+xs.length
  ·rw [if_pos h] at p4 hE;refine bg Z Z Z (p4) <| ae Z <| aan <| am4 Z Z <| akv <| ao Z <| akw <| am5 Z Z Z <| akv <| ai <| al <| ag <| cd <| al <| ag <| fz Z Z Z (af 6 [] Z) ?_;rw [hE,if_neg (by decide)];exact ⟨rfl,rfl⟩
  ·rw [if_neg h] at p4;refine bg Z Z Z (p4) <| ae Z <| aan <| am4 Z Z <| akv <| aj Z <| ak <| bh <| ab <| aa <| az Z <| ae Z <| ac ?_;refine cw 4 ax ⟨by omega,fun _=>i1 (by omega),fun _=>i2 (by omega),fun _=>h⟩
 | 4, _ =>
  rw [if_neg (i1 (by omega)),if_pos (i2 (by omega)),if_neg (i4 (by omega))] at hE;clear p1 p2 p4;have hk4:kv 4=4:=rfl;refine akw <| ae Z <| akv <| ad <| aj Z <| bz <| au <| av <| ap <| ab <| ad <| akw <| bt 1 Z Z Z <| akv <| aj Z <| ak <| ab <| ad <| cn flo (pt g5 u4 [.slice bA xs.length bc]::pt g4 t_api_ID (u8s id)::pt g3 j7 [pp gs]::pt gs tc (stC w r u gm)::F) (by decide +kernel) (af 9 [3,4,5,6] Z) <| cl 2 Z Z Z Z <| ay Z Zl <| ay Z Zl <| cl 3 Z Z Z Z <| js 1 Z Z Z Z Z Z (ll hid.1) Z Z <| cl 0 Z Z Z Z <| d9 Z Z Z Z (SC.ofMade fun w H=>tH (hb w (H.ent (af 9 [] Z))) (by omega)) fun v1 F1 hF1=> ?_;subst hF1;refine ⟨af 10 [4,5,6,7] rfl,(ix (fun w H=>(H.oat (k:=0) Z).form) ?_)⟩;rintro ⟨A7,c7,rfl,_,_,_⟩;refine ay Z Zl <| X5 Z Z Z Z Z Z (af 10 [4,5,6,7] Z) fun gk=>rU 9 N6 hid Z Z Z Z Z Z Z Z Z (af 11 [5,6,7,8] Z) <| aq ?_
  rw [Lb ⟨id,xs,gk,.slice A7 xs.length c7⟩ Z h];refine ab <| ad <| jc flo 9 (pt g5 u4 [.slice bA xs.length bc]::pt g3 j7 [pp gs]::pt gs tc (stC w r u gm)::F) [] Z (by decide +kernel) (af 11 [5,7,8] Z) <| cl 1 Z Z Z Z <| ay Z Zl <| ay Z Zl <| cl 2 Z Z Z Z <| cl 0 Z Z Z Z <| ay Z Zl <| cq Z Z <| ay Z Zl <| ay Z Zl <| aq <| jd Z (dc _) <| aM 8 Z Z Z Z Z Z Z Z Z Z Z (dc _) <| aq <| ab <| akw <| am4 Z Z <| akv <| ai <| fz Z Z Z (((u7 (l:=xs) 1 Z Z Z Z).trans (af 11 [0,1,10,8,9] Z)).trans ((ny (Yu l ⟨id,xs,gk,.slice A7 xs.length c7⟩)).trans (af 3 [1,2,0] Z))) ?_;rw [if_pos hE];exact ⟨rfl,gk,.slice A7 xs.length c7,rfl⟩
end

section
variable {b:World} {F:List SP} {gs gm:Nat} {w r u:Int} {l:List Kp} {vb:Value} {id xs:List Int}
def xQ (id xs:List Int) (e:Kp) (w:Int):Int:=if 4096<xs.length then 4 else if wv (we xs) w=id then (if e.b=xs then 0 else 9) else 8
theorem Od {e:Kp} (hb:∀ w,Sat b F w→VL (Value.int .u8) w vb xs) (hlen:xs.length≤1000000) (hid:idOk id) (h:qy id l=some e) (hw:lv xs) (hew:lv e.b) :
  SC Tryz.prog ry [pp gs,idV id,vb] b (stB gs gm w r u l F) (fun v F'=>v = .tuple ⟨[.bool false,ii (xQ id xs e w)]⟩∧F'=stB gs gm w r u l F):=by
 refine aw Tryz.func44 Z Z Z <| bu (fun w H=>(hb w (H.ent (af 3 [] Z))).form) ?_;rintro ⟨bA,bc,rfl,f1,f2,f3,f4⟩;refine akw <| bx Z Z Z Z Z fun g3=>bx Z Z Z Z Z fun g4=>bx Z Z Z Z Z fun g5=>am4 Z Z <| akv <| ad <| akw <| bt 2 Z Z Z <| bg Z Z Z ((Gv (F:=pt g5 u4 [.slice bA xs.length bc]::pt g4 t_api_ID (u8s id)::pt g3 j7 [pp gs]::F)).at (af 6 [3,4,5,0,1,2] Z) (af 6 [3,4,5,0,1,2] Z)) <| akv <| aj Z <| ak <| ab <| ad ?_
 refine w9 flo 13 _ (by kernel_rfl) Z ax ?_;refine q8 (T:=Nat × Nat) 11 [0,1,2,3,4,5,6,7,8,11,12] (fun s=> [(3,pp g3),(4,pp g4),(5,pp g5),(8,pp s.1),(9,pp s.2)])
  (fun s=>dZ s.2 s.1 g5 g4 g3 false (.pointer none) (.slice bA xs.length bc) id gs gm w r u l F) (fun _=>True) ?_ (fun J=> ?_)
 rotate_left
 ·refine pg (9,[]) [(10,[])] (by kernel_rfl) ⟨jf _ Z ax ?_,jf _ Z ax ?_,trivial⟩
  ·refine jt Z Z Z Z Z Z ax fun g8=> ?_;refine aq (io (af 1 [] Z) (nu 10 0 (by kernel_rfl) Z ?_));refine jt Z Z Z Z Z Z (af 1 [] Z) fun g9=>aq <| io (af 2 [] Z) ?_
   exact J (g8,g9) _ _ _ trivial (by kernel_rfl) ⟨rfl,rfl,rfl,rfl,rfl,trivial⟩ ax
  ·refine jt Z Z Z Z Z Z ax fun g9=> ?_;refine aq (io (af 1 [] Z) (nu 9 0 (by kernel_rfl) Z ?_));refine jt Z Z Z Z Z Z (af 1 [] Z) fun g8=>aq <| io (af 2 [] Z) ?_
   exact J (g8,g9) _ _ _ trivial (by kernel_rfl) ⟨rfl,rfl,rfl,rfl,rfl,trivial⟩ (af 2 [1,0] Z)
 rintro ⟨g8,g9⟩ _;dsimp only;refine pg (11,[0,1,2,3,4,5,6,7]) [] (by kernel_rfl) ⟨jm 0 8 (L2:= []) Z Z ?_,trivial⟩;refine cl 2 Z Z Z Z <| ay Z Zl <| ay Z Zl <| cl 3 Z Z Z Z <| js 1 Z Z Z Z Z Z (ll hid.1) Z Z ?_;refine lH 4 N6 hid (by rw [N7,h];rfl) Z Z Z Z Z Z Z Z Z ?_;refine ay Z Zl <| ay Z Zl <| aq <| s0 (af 2 [] Z) <| jf _ Z ax <| aM 1 Z Z Z Z Z Z Z Z Z Z Z (af 2 [] Z) ?_;refine aq (io (af 2 [] Z) (pg (12,[8]) [] (by kernel_rfl) ⟨jm 8 1 (L2:= []) Z Z ?_,trivial⟩));refine ay Z Zl <| aq <| s0 (af 2 [] Z) <| jf _ Z ax <| aM 0 Z Z Z Z Z Z Z Z Z Z Z (af 2 [] Z) ?_;refine aq (io (af 2 [] Z) (yq 0 0 (by kernel_rfl) (by kernel_rfl) Z (aq ?_)));refine ab <| ad <| akw <| am5 Z Z Z <| ae Z ?_;refine ql [.func (.func f0) ⟨[]⟩ ⟨[pp g5]⟩,.func (.func ge) ⟨[]⟩ ⟨[pp g5,pp g3,pp g4]⟩,
  .func (.func fk) ⟨[]⟩ ⟨[pp g9,pp g8,pp g5]⟩,.func (.func fm) ⟨[]⟩ ⟨[pp g9,pp g3,pp g5]⟩] Z Z Z Z Z Z Z Z Z fun gl=> ?_
 refine am4 Z Z <| akv <| am ?_;have p1:=N9 (b:=b) (F:=F) (A:=pt gl ld [.func (.func f0) ⟨[]⟩ ⟨[pp g5]⟩,.func (.func ge) ⟨[]⟩ ⟨[pp g5,pp g3,pp g4]⟩,
  .func (.func fk) ⟨[]⟩ ⟨[pp g9,pp g8,pp g5]⟩,.func (.func fm) ⟨[]⟩ ⟨[pp g9,pp g3,pp g5]⟩])
  (g9:=g9) (g8:=g8) (g5:=g5) (g4:=g4) (g3:=g3) (is:=true) (old:=pp e.g) (gs:=gs) (gm:=gm) (w:=w) (r:=r) (u:=u) (l:=l) (id:=id) hb hlen
 have p2:=Oa (b:=b) (F:=F) (A:=pt gl ld [.func (.func f0) ⟨[]⟩ ⟨[pp g5]⟩,.func (.func ge) ⟨[]⟩ ⟨[pp g5,pp g3,pp g4]⟩,
  .func (.func fk) ⟨[]⟩ ⟨[pp g9,pp g8,pp g5]⟩,.func (.func fm) ⟨[]⟩ ⟨[pp g9,pp g3,pp g5]⟩])
  (g9:=g9) (g8:=g8) (g5:=g5) (g4:=g4) (g3:=g3) (is:=true) (old:=pp e.g) (gs:=gs) (gm:=gm) (w:=w) (r:=r) (u:=u) (l:=l) hb hlen hid.1
 have p3:=Yq (b:=b) (F:=F) (A:=pt gl ld [.func (.func f0) ⟨[]⟩ ⟨[pp g5]⟩,.func (.func ge) ⟨[]⟩ ⟨[pp g5,pp g3,pp g4]⟩,
  .func (.func fk) ⟨[]⟩ ⟨[pp g9,pp g8,pp g5]⟩,.func (.func fm) ⟨[]⟩ ⟨[pp g9,pp g3,pp g5]⟩])
  (g9:=g9) (g8:=g8) (g5:=g5) (g4:=g4) (g3:=g3) (gs:=gs) (gm:=gm) (w:=w) (r:=r) (u:=u) (l:=l) (id:=id) hb hlen hw h hew
 generalize hown:wv (we xs) w=own at p2;have hE:xQ id xs e w=if 4096<xs.length then 4 else if own=id then (if e.b=xs then 0 else 9) else 8:=by rw [xQ,hown]
 generalize xQ id xs e w=pe at hE ⊢;refine dt (S:=Nat) (fun k=> [(3,pp g3),(4,pp g4),(5,pp g5),(8,pp g8),(9,pp g9),(28,.slice (some ⟨gl,0,none⟩) 4 4),(29,ii 4),(30,ii (kv k))]) (fun _=>_)
  (fun k=>k≤4∧(1≤k→¬ 4096<xs.length)∧(2≤k→own=id)∧(3≤k→e.b=xs)) (fun k=>4 - k) 0 ax ⟨by omega,by omega,by omega,by omega⟩ ?_
 rintro k ⟨hk,i1,i2,i3⟩
 match k,hk with
 | 0, _ =>
  have hk0:kv 0=0:=rfl;refine akw <| ae Z <| akv <| ad <| ao Z <| ak <| ab <| ad <| am <| akw <| az Z <| bt 0 Z Z Z <| ae Z <| aan <| ae Z ?_;by_cases h:4096<xs.length
  ·rw [if_pos h] at p1 hE;refine bg Z Z Z (p1) <| ae Z <| aan <| am4 Z Z <| akv <| ao Z <| akw <| am5 Z Z Z <| akv <| ai <| al <| ag <| cd <| al <| ag <| fz Z Z Z (af 6 [] Z) ?_;rw [hE];exact ⟨rfl,rfl⟩
  ·rw [if_neg h] at p1;refine bg Z Z Z (p1) <| ae Z <| aan <| am4 Z Z <| akv <| aj Z <| ak <| bh <| ab <| aa <| az Z <| ae Z <| ac ?_;refine cw 1 ax ⟨by omega,fun _=>h,by omega,by omega⟩
 | 1, _ =>
  have hk1:kv 1=1:=rfl;refine akw <| ae Z <| akv <| ad <| ao Z <| ak <| ab <| ad <| am <| akw <| az Z <| bt 0 Z Z Z <| ae Z <| aan <| ae Z ?_;rw [if_neg (i1 (by omega))] at hE;by_cases h:own=id
  ·rw [if_pos h] at p2;refine bg Z Z Z (p2) <| ae Z <| aan <| am4 Z Z <| akv <| aj Z <| ak <| bh <| ab <| aa <| az Z <| ae Z <| ac ?_;refine cw 2 ax ⟨by omega,fun _=>i1 (by omega),fun _=>h,by omega⟩
  ·rw [if_neg h] at p2 hE;refine bg Z Z Z (p2) <| ae Z <| aan <| am4 Z Z <| akv <| ao Z <| akw <| am5 Z Z Z <| akv <| ai <| al <| ag <| cd <| al <| ag <| fz Z Z Z (af 6 [] Z) ?_;rw [hE];exact ⟨rfl,rfl⟩
 | 2, _ =>
  have hk2:kv 2=2:=rfl;refine akw <| ae Z <| akv <| ad <| ao Z <| ak <| ab <| ad <| am <| akw <| az Z <| bt 0 Z Z Z <| ae Z <| aan <| ae Z ?_;rw [if_neg (i1 (by omega)),if_pos (i2 (by omega))] at hE;by_cases h:e.b=xs
  ·rw [if_pos h] at p3;refine bg Z Z Z (p3) <| ae Z <| aan <| am4 Z Z <| akv <| aj Z <| ak <| bh <| ab <| aa <| az Z <| ae Z <| ac ?_;refine cw 3 ax ⟨by omega,fun _=>i1 (by omega),fun _=>i2 (by omega),fun _=>h⟩
  ·rw [if_neg h] at p3 hE;refine bg Z Z Z (p3) <| ae Z <| aan <| am4 Z Z <| akv <| ao Z <| akw <| am5 Z Z Z <| akv <| ai <| al <| ag <| cd <| al <| ag <| fz Z Z Z (af 6 [] Z) ?_;rw [hE];exact ⟨rfl,rfl⟩
 | 3, _ =>
  have hk3:kv 3=3:=rfl;refine akw <| ae Z <| akv <| ad <| ao Z <| ak <| ab <| ad <| am <| akw <| az Z <| bt 0 Z Z Z <| ae Z <| aan <| ae Z <| bg Z Z Z (Yr) <| ae Z <| aan <| am4 Z Z <| akv <| aj Z <| ak <| bh <| ab <| aa <| az Z <| ae Z <| ac ?_;refine cw 4 ax ⟨by omega,fun _=>i1 (by omega),fun _=>i2 (by omega),fun _=>i3 (by omega)⟩
 | 4, _ =>
  rw [if_neg (i1 (by omega)),if_pos (i2 (by omega)),if_pos (i3 (by omega))] at hE;clear p1 p2 p3;have hk4:kv 4=4:=rfl;refine akw <| ae Z <| akv <| ad <| aj Z <| bz <| au <| av <| ap <| ab <| ad <| akw <| bt 1 Z Z Z <| akv <| ao Z <| akw <| am4 Z Z <| akv <| ai <| ag <| fz Z Z Z (af 6 [] Z) ?_;rw [hE];exact ⟨rfl,rfl⟩
end

def ig:List (List Int)→List Value
 | [] => []
 | a :: l => u8s a ++ ig l
def fT (l:List (List Int)):Prop:=∀ a∈l,a.length=32
section
variable {b:World} {F:List SP} {A:Option Addr} {c:Nat} {l:List (List Int)}
end

section
variable {b:World} {F:List SP} {A:Option Addr} {c n gh:Nat} {l:List (List Int)} {x:List Int}
end


theorem ajd (j:Nat):Int.tdiv ((j:Int) - 1) 2=(((j - 1) / 2:Nat):Int):=by
 cases j with
 | zero => rfl
 | succ j =>
  have:(((j+1:Nat):Int) - 1)=(j:Int):=by omega
  rw [this,Nat.add_sub_cancel]
  rfl
theorem Gx {j:Nat} (h:j≤1000000):IntKind.i64.wrap (Int.tdiv ((j:Int) - 1) 2)=(((j - 1) / 2:Nat):Int):=by
 rw [ajd];exact I64.wrap (by unfold I64;omega)
section
variable {b:World} {F:List SP} {A:Option Addr} {c n gh:Nat} {l:List (List Int)}
end
end Go.Proofs.YtbpdffopjkhelaaGreat
