/- A part: contracts and laws. -/
import Derived.Test.YtmaoneengdafhaaGreatDoorPartD
set_option linter.unusedVariables false
set_option linter.unusedSectionVars false
set_option linter.defProp false
noncomputable section
open Go renaming TypeId->ag,Value->ad,undef->ak
set_option maxRecDepth 100000
namespace Go.Proofs.YtmaoneengdafhaaGreatDoor
open Go Go.Eng
def qr:di:=λc a b=>aV a λd=>aN 5 d λe=>bT c 6 [e,I 80] λf=>gF f (dh b) λg=>gF f (zt2 g) λh=>gF f (WD h (I 60)) λi=>gF f (dh i) λj=>gT j (dh b) λk=>gT j (zt2 k) λl=>gT j (zb5 l (I 400)) λm=>gF f (jQ j m (.bool false)) λn=>aO f (.bool true) n λo=>gF o (dh b) λp=>gF o (zt2 p) λr=>gF o (WD r (I 410)) λs=>aO o (.bool true) s λt=>gI t (bT c 7 [] λu=>yO [(u,none)]) (aN 5 d λu=>bT c 8 [u,b] λv=>ap v 0 λw=>ap v 1 λx=>ap v 2 λy=>aF 34 λz=>aA 7 z w λA=>aN 5 d λB=>bT c 9 [B,b] λC=>ap C 0 λD=>ap C 1 λE=>ap C 2 λF=>aF 34 λG=>aA 7 G D λH=>aN 7 z λJ=>aN 7 G λK=>bT c 10 [J,K] λL=>gT L (dh x) λM=>gT L (dh E) λN=>gT L (PV M N) λO=>aO L O (.bool false) λP=>gT P (dh y) λQ=>gT P (dh F) λa0=>gT P (apF Q a0) λb0=>aO P b0 (.bool false) λd0=>gT d0 (zc c 7 []) λe0=>aO d0 e0 (.bool false) λf0=>yO [(f0,none)])
def wG{x0 x1 W r}(h:qr aY x0 x1 W=some r):OG 3 #[] [x0,x1] W r:=oM 59 h (by kernel_rfl)
def jz:cE:=λc S=>bK (S 51) (S 50) λa=>gI a (bF 1 (S 49) (S 51) λb=>aB b λd=>aD (S 7) λe=>az 5 e λf=>aB f λg=>jk d (I 1) λh=>bF 25 g h λi=>aN 25 i λj=>aF 77 λk=>aA 25 k j λl=>aN 7 (S 11) λm=>az 4 k λn=>aN 12 n λo=>bT c 25 [m,o] λp=>ap p 0 λr=>ap p 1 λs=>ap p 2 λt=>aF 34 λu=>aF 50 λv=>aA 7 u r λw=>aA 9 v s λx=>aN 25 k λy=>bT c 26 [y] λz=>gT z (dF 9 v) λA=>gT z (gO 16 k) λB=>gT z (dF 9 B) λC=>gT z (adH A C) λD=>aO z D (.bool false) λE=>let T:=q (q (q (q (q (q (q (q (q S 52 [a,S 51,b,d]) 12 [S 51,d]) 56 [S 7,e,f,g,d,h,i,j]) 14 [k]) 65 [m,n,o,p]) 64 [p]) 69 [r,s,t]) 15 [u,v,t]) 72 [y,z,z,A,B,C,D,E];gI E (aN 7 (S 4) λF=>aA 7 (S 4) F λG=>yR (q (q T 80 [F,S 51]) 5 [S 51,I 6])) (aN 7 u λF=>aA 7 (S 11) F λG=>bD (S 51) (I 1) λH=>yN (q (q T 82 [F,H]) 51 [H]))) (yE 0 (q S 52 [a]))
def yp:di:=λc a b=>aV a λd=>aF 34 λe=>aN 5 d λf=>bT c 22 [f] λg=>ap g 0 λh=>ap g 1 λi=>ap g 2 λj=>cu j (I 0) λk=>gI k (aN 7 e λl=>aA 7 e l λm=>yO [(e,some 34),(I 0,none),(j,none)]) (gJ b λl=>qz l (I 400) λm=>gI m (aN 7 e λn=>aA 7 e n λo=>yO [(e,some 34),(I 0,none),(I 3,none)]) (bT c 23 [h,b] λn=>ap n 0 λo=>ap n 1 λp=>cu p (I 0) λr=>gI r (aN 7 e λs=>aA 7 e s λt=>yO [(e,some 34),(o,none),(p,none)]) (az 0 d λs=>aN 4 s λt=>bT c 24 [t] λu=>ap u 0 λv=>ap u 1 λw=>aF 34 λx=>aA 7 x v λy=>gJ b λz=>gL (jz c) (q (q (q (q (q (q (q (q (q (q (q (q (q (q (q (q (q (q (q (q (cz 0 [a,b] ai.blank) 2 [d]) 4 [e,I 0,I 0]) 19 [f,g]) 18 [g]) 21 [h,i,j]) 7 [h,i]) 6 [j]) 24 [j,k]) 28 [b,l,m]) 33 [h,b,n]) 32 [n]) 36 [o,p]) 9 [o,p]) 38 [p,r]) 44 [s,t,u]) 43 [u]) 47 [v,w]) 11 [x]) 6 [w]) 49 [b,z,I 0]) λA S=>gX 0 A (aN 7 (S 11) λB=>aA 7 (S 4) B λC=>yO [(S 4,some 34),(I 0,none),(S 6,none)]) (gR A (yO [(S 4,some 34),(S 5,none),(S 6,none)])))))
def Cu{x0 x1 W r}(h:yp aY x0 x1 W=some r):OG 8 #[] [x0,x1] W r:=oM 86 h (by kernel_rfl)
def lK:cE:=λc S=>gJ (S 1) λa=>bK (S 12) a λb=>let T:=q S 50 [S 12,S 1,a,b];gI b (bF 1 (S 1) (S 12) λd=>aB d λe=>jk e (I 1) λf=>bF 25 (S 7) f λg=>aN 25 g λh=>aF 77 λi=>aA 25 i h λj=>aN 7 (S 10) λk=>az 4 i λl=>aN 12 l λm=>bT c 13 [k,m] λn=>ap n 0 λo=>ap n 1 λp=>ap n 2 λr=>aF 34 λs=>aF 50 λt=>aA 7 s o λu=>aA 9 t p λv=>az 3 i λw=>aB w λx=>gB (Gf x (I 0)) λy=>gT y (dF 9 t) λz=>gT y (gO 16 i) λA=>gT y (dF 9 A) λB=>gT y (adH z B) λC=>aO y C (.bool false) λD=>let U:=q (q (q (q (q (q (q T 56 [S 7,S 1,S 12,d,e,f,g,h]) 13 [i]) 65 [k,l,m,n]) 64 [n]) 69 [o,p,r]) 14 [s,t,r]) 72 [w,x,y,y,z,A,B,C,D];gI D (aX 34 [] λE=>aA 7 (S 4) E λF=>yR (q (q U 81 [E,S 12]) 5 [S 12,I 6])) (aN 7 s λE=>aA 7 (S 10) E λF=>bD (S 12) (I 1) λG=>yN (q (q (q U 83 [E]) 54 [S 12,G]) 12 [G]))) (yE 0 T)
def je:asL:=λc S a b d e f=>cu f (I 0) λg=>gI g (aX 34 [] λh=>aA 7 d h λi=>yO [(d,some 34),(I 0,none),(f,none)]) (bT c 28 [e,a] λh=>ap h 0 λi=>ap h 1 λj=>cu j (I 0) λk=>gI k (aX 34 [] λl=>aA 7 d l λm=>yO [(d,some 34),(i,none),(j,none)]) (az 0 b λl=>aN 4 l λm=>bT c 12 [m] λn=>ap n 0 λo=>ap n 1 λp=>aF 34 λr=>aA 7 r o λs=>gL (lK c) (q (q (q (q (q (q (q (q (q (q (q S 29 [f,g]) 34 [e,a,h]) 33 [h]) 37 [i,j]) 9 [i]) 8 [j]) 39 [j,k]) 45 [l,m,n]) 44 [n]) 48 [o,p]) 10 [r,p,I 0]) λt T=>gX 0 t (aN 7 (T 10) λu=>aA 7 (T 4) u λv=>yO [(T 4,some 34),(I 0,none),(I 0,none)]) (gR t (yO [(T 4,some 34),(T 5,none),(T 6,none)]))))
def B5:di:=λc a b=>aV a λd=>aF 34 λe=>aN 5 d λf=>bT c 27 [f] λg=>ap g 0 λh=>ap g 1 λi=>lT i (I 0) λj=>gT j (dh b) λk=>gT j (zt2 k) λl=>gT j (WD l (I 400)) λm=>aO j m (.bool false) λn=>let S:=q (q (q (q (q (q (q (cz 0 [a,b] ai.blank) 2 [d]) 4 [e,I 0,I 0]) 18 [f,g]) 17 [g]) 20 [h,i]) 7 [h,i]) 22 [i,j,j,k,l,m,n];gI n (je c (q S 8 [I 3]) b d e h (I 3)) (je c S b d e h i)
def Fx{x0 x1 W r}(h:B5 aY x0 x1 W=some r):OG 9 #[] [x0,x1] W r:=oM 85 h (by kernel_rfl)
def vK:cE:=λc S=>az 5 (S 2) λa=>aB a λb=>gB (DK b) λd=>bK (S 5) d λe=>let T:=q S 39 [S 5,a,b,d,e];gI e (az 5 (S 2) λf=>aB f λg=>bF 5 g (S 5) λh=>aN 5 h λi=>az 5 (S 3) λj=>aB j λk=>bF 5 k (S 5) λl=>aN 5 l λm=>gB (aqR i m) λn=>let U:=q T 46 [f,g,S 5,h,i,j,k,S 5,l,m,n];gI n (yR (q U 4 [.bool false])) (bD (S 5) (I 1) λo=>yN (q (q U 44 [S 5,o]) 5 [o]))) (yE 0 T)
def pO:cE:=λc S=>az 6 (S 2) λa=>aB a λb=>bF 1 b (S 6) λd=>aB d λe=>me e λf=>bK (S 7) f λg=>let T:=q S 77 [S 7,a,b,S 6,d,e,f,g];gI g (az 6 (S 2) λh=>aB h λi=>bF 1 i (S 6) λj=>aB j λk=>bF 1 k (S 7) λl=>aB l λm=>az 6 (S 3) λn=>aB n λo=>bF 1 o (S 6) λp=>aB p λr=>bF 1 r (S 7) λs=>aB s λt=>gB (Vc m t) λu=>let U:=q T 87 [h,i,S 6,j,k,S 7,l,m,n,o,S 6,p,r,S 7,s,t,u];gI u (yR (q U 4 [.bool false])) (bD (S 7) (I 1) λv=>yN (q (q U 85 [S 7,v]) 7 [v]))) (yE 4 T)
def vD:cE:=λc S=>az 6 (S 2) λa=>aB a λb=>gB (H3 b) λd=>bK (S 6) d λe=>let T:=q S 57 [S 6,a,b,d,e];gI e (az 6 (S 2) λf=>aB f λg=>bF 1 g (S 6) λh=>aB h λi=>me i λj=>az 6 (S 3) λk=>aB k λl=>bF 1 l (S 6) λm=>aB m λn=>me n λo=>gB (JB j o) λp=>let U:=q T 64 [f,g,S 6,h,i,j,k,l,S 6,m,n,o,p];gI p (yR (q U 4 [.bool false])) (gL (pO c) (q U 7 [I 0]) λr V=>gX 4 r (bD (V 6) (I 1) λs=>yN (q (q V 62 [V 6,s]) 6 [s])) (gR r (yR V)))) (yE 2 T)
def Ko:di:=λc a b=>aV a λd=>aV b λe=>az 0 d λf=>aN 4 f λg=>az 0 e λh=>aN 4 h λi=>bT c 29 [g,i] λj=>dL .not j λk=>gF k (gO 4 d) λl=>gF k (bu l) λm=>gF k (gO 4 e) λn=>gF k (bu n) λo=>gF k (abG m o) λp=>aO k (.bool true) p λr=>gF r (gO 5 d) λs=>gF r (bu s) λt=>gF r (DK t) λu=>gF r (gO 5 e) λv=>gF r (bu v) λw=>gF r (DK w) λx=>gF r (JB u x) λy=>aO r (.bool true) y λz=>gF z (gO 6 d) λA=>gF z (bu A) λB=>gF z (H3 B) λC=>gF z (gO 6 e) λD=>gF z (bu D) λE=>gF z (H3 E) λF=>gF z (JB C F) λG=>aO z (.bool true) G λH=>gI H (yO [(.bool false,none)]) (gL (vK c) (q (q (q (cz 0 [a,b] ai.blank) 2 [d,e,.bool false]) 8 [f,g,h,i,j,k,k,l,m,n,o,p,r,r,s,t,u,v,w,x,y,z,z,A,B,C,D,E,F,G,H]) 5 [I 0]) λJ S=>gX 0 J (gL (vD c) (q S 6 [I 0]) λK T=>gX 2 K (yO [(.bool true,none)]) (gR K (yO [(T 4,none)]))) (gR J (yO [(S 4,none)])))
def LV{x0 x1 W r}(h:Ko aY x0 x1 W=some r):OG 10 #[] [x0,x1] W r:=oM 104 h (by kernel_rfl)
def xP:cE:=λc S=>az 3 (S 1) λa=>aB a λb=>gB (LN b) λd=>bK (S 7) d λe=>let T:=q S 21 [S 7,a,b,d,e];gI e (az 6 (S 6) λf=>aB f λg=>br 32 1 [(0,.slice none 0 0)] λh=>b8 #[32,32] g h λi=>az 6 (S 6) λj=>aA 1 j i λk=>bD (S 7) (I 1) λl=>yN (q (q (q T 28 [f,g,h,i,j]) 26 [S 7,l]) 7 [l])) (yE 0 T)
def Gu:fx:=λc a=>aV a λb=>aF 34 λd=>aN 4 b λe=>bT c 30 [e] λf=>ap f 0 λg=>ap f 1 λh=>cu h (I 0) λi=>gI i (aX 34 [] λj=>aA 7 d j λk=>yO [(d,some 34),(h,none)]) (aN 4 b λj=>gB (sm 31 g g) λk=>aX 34 [(0,j),(2,k)] λl=>aF 34 λm=>aA 7 m l λn=>gL (xP c) (q (q (q (q (q (q (q (q (cz 0 [a] ai.blank) 1 [b,d,I 0]) 9 [e,f]) 8 [f]) 11 [g,h]) 4 [g,h]) 13 [h,i]) 17 [j,g,k,l]) 6 [m,I 0]) λo S=>gX 0 o (aN 7 (S 6) λp=>aA 7 (S 2) p λr=>yO [(S 2,some 34),(I 0,none)]) yZ)
def OI{x0 W r}(h:Gu aY x0 W=some r):OG 12 #[] [x0] W r:=oM 34 h (by kernel_rfl)
def ju:LW:=λc a b d e f=>az 0 f λg=>aB g λh=>cu h (I 0) λi=>gI i (aN 7 a λj=>aN 9 f λk=>aA 7 b j λl=>gA (λW=>jP true (dF 9 f W) k&&true) (aA 9 d k λm=>yO [(b,some 34),(d,some 50),(I 0,none)])) (aN 7 e λj=>aN 9 f λk=>aA 7 b j λl=>gA (λW=>jP true (dF 9 f W) k&&true) (aA 9 d k λm=>yO [(b,some 34),(d,some 50),(I 0,none)]))
def qn:auz:=λc a b d e f g h=>gI h (aN 7 f λi=>aN 12 b λj=>bT c 38 [i,j] λk=>ap k 0 λl=>ap k 1 λm=>aA 7 f l λn=>aA 9 g m λo=>ju c a d e f g) (aN 7 f λi=>aN 12 b λj=>bT c 39 [i,j] λk=>ap k 0 λl=>ap k 1 λm=>aA 7 f l λn=>aA 9 g m λo=>ju c a d e f g)
def qK:LW:=λc a b d e f=>cu f (I 0) λg=>gI g (aN 7 a λh=>aX 50 [] λi=>aA 7 d h λj=>aA 9 e i λk=>yO [(d,some 34),(e,some 50),(f,none)]) (aN 7 a λh=>aN 12 b λi=>bT c 33 [h,i] λj=>cu j (I 0) λk=>gI k (aN 7 a λl=>aX 50 [(0,j)] λm=>aA 7 d l λn=>aA 9 e m λo=>yO [(d,some 34),(e,some 50),(I 0,none)]) (aN 7 a λl=>bT c 34 [l] λm=>aF 34 λn=>aA 7 n m λo=>aF 50 λp=>az 0 b λr=>aB r λs=>bY s (I 1) λt=>gI t (aN 7 a λu=>az 0 a λv=>az 2 v λw=>aB w λx=>bT c 35 [u,x] λy=>az 3 p λz=>aA 1 z y λA=>ju c a d e n p) (bY s (I 12) λu=>gI u (az 11 b λv=>aB v λw=>az 4 a λx=>aB x λy=>gB (YM w y) λz=>gI z (aN 7 a λA=>aX 50 [(0,I 18)] λB=>aA 7 d A λC=>aA 9 e B λD=>yO [(d,some 34),(e,some 50),(I 0,none)]) (aN 7 n λA=>az 11 b λB=>aB B λC=>bT c 36 [A,C] λD=>aA 7 n D λE=>ju c a d e n p)) (bY s (I 3) λv=>gI v (aN 7 n λw=>aN 12 b λx=>bT c 37 [w,x] λy=>ap y 0 λz=>ap y 1 λA=>aA 7 n z λB=>aA 9 p A λC=>ju c a d e n p) (bY s (I 10) λw=>gI w (qn c a b d e n p w) (bY s (I 11) λx=>qn c a b d e n p x))))))
def KX:di:=λc a b=>aV a λd=>aV b λe=>aF 34 λf=>aF 50 λg=>aN 7 d λh=>bT c 31 [h] λi=>lT i (I 0) λj=>gI j (aN 12 e λk=>bT c 32 [k] λl=>qK c d e f g l) (qK c d e f g i)
def RY{x0 x1 W r}(h:KX aY x0 x1 W=some r):OG 13 #[] [x0,x1] W r:=oM 84 h (by kernel_rfl)
def fB:di:=λc a b=>bT c 121 [a,b] λd=>gB (Gf d (I 0)) λe=>yO [(e,none)]
def jK{x0 x1 W r}(h:fB aY x0 x1 W=some r):OG 95 #[] [x0,x1] W r:=oM 9 h (by kernel_rfl)
def ir:fx:=λc a=>gB (aqC a (.slice none 0 0)) λb=>gI b (yO [(.slice none 0 0,none)]) (br 31 0 [] λd=>b8 #[31,31] d a λe=>yO [(e,none)])
def mN{x0 W r}(h:ir aY x0 W=some r):OG 122 #[] [x0] W r:=oM 8 h (by kernel_rfl)
def gj:cE:=λc S=>bK (S 16) (S 15) λa=>let T:=q S 17 [a];gI a (bF 1 (S 14) (S 16) λb=>aB b λd=>lS d (I 1) λe=>gF e (dh d) λf=>gF e (bu (S 2)) λg=>gF e (vP g) λh=>gF e (gO 5 h) λi=>gF e (bu i) λj=>gF e (zt6 j) λk=>gF e (zb4 f k) λl=>aO e (.bool true) l λm=>let U:=q (q (q (q T 18 [S 16,b,d]) 7 [S 16,d]) 22 [d,e,e,f,g,h,i,j,k,l,m]) 21 [m];gI m (aA 1 (S 4) (S 16) λn=>aA 1 (S 5) (I 4) λo=>yR (q U 33 [S 16])) (aB (S 6) λn=>gB (zz 115 n d false) λo=>let V:=q (q U 35 [n,d,o]) 34 [o];gI o (aA 1 (S 4) (S 16) λp=>aA 1 (S 5) (I 8) λr=>yR (q V 38 [S 16])) (aB (S 6) λp=>gB (uy 115 p d (.bool true)) λr=>bD (S 16) (I 1) λs=>yN (q (q V 39 [p,d,s]) 16 [s])))) (yE 0 T)
def jT:cE:=λc S=>aF 77 λa=>aA 25 a (S 44) λb=>yN (q S 9 [a])
def pp(call:Eng.Callee)(R:Nat->ad)(W:AW):fW Tryz.prog call false 68 (BP [1,1,1,0,1,0,0] (Fw 23)) LT R W np=jT call R W:=by kernel_rfl
def jX:cE:=λc S=>aB (S 6) λa=>az 0 (S 9) λb=>aB b λd=>gB (zz 115 a d false) λe=>dL .not e λf=>let T:=q S 45 [a,b,d,e,f];gI f (aB (S 3) λg=>gJ g λh=>aA 1 (S 4) h λi=>aA 1 (S 5) (I 10) λj=>yR (q T 50 [g,h])) (yN T)
def pu(call:Eng.Callee)(R:Nat->ad)(W:AW):fW Tryz.prog call false 68 (BP [1,1,1,0,1,0,1] (Fw 23)) LT R W np=jX call R W:=by kernel_rfl
def gv:cE:=λc S=>bK (S 54) (S 53) λa=>gI a (bF 1 (S 52) (S 54) λb=>aB b λd=>aF 3 λe=>aA 1 e d λf=>gB (ut (.func 53) #[] #[S 2,e]) λg=>aB (S 3) λh=>bD (S 54) (I 1) λi=>gB (oe 28 h (some i) none none) λj=>bT c 54 [j,g] λk=>let T:=q (q (q (q (q (q S 55 [a,S 54,b,d]) 11 [e]) 10 [S 54]) 59 [g]) 12 [g]) 60 [h,S 54,i,j,g,k];gI k (aA 1 (S 4) (S 54) λl=>aA 1 (S 5) (I 9) λm=>yR (q T 66 [S 54])) (bD (S 54) (I 1) λl=>yN (q (q T 67 [l]) 54 [l]))) (yE 5 (q S 55 [a]))
def iH:di:=λc a b=>aV a λd=>aV b λe=>aF 3 λf=>aF 35 λg=>gB (IL 115 none) λh=>aF 115 λi=>aA 1 i h λj=>aB e λk=>gJ k λl=>gL (gj c) (q (q (q (q (cz 0 [a,b] ai.blank) 2 [d,e,f,g]) 13 [h]) 6 [i]) 14 [k,l,I 0]) λm S=>gX 0 m (aB (S 2) λn=>bT c 52 [n,wI 26] λo=>gB (kX c o (.loop .ready none (q S 42 [n,o]) 68 #[44] (BP [1,1,1,0,1,0,0] (Fw 23)) (BP [1,1,1,0,1,0,1] (Fw 23)))) λp=>gM p (aB (S 3) λr=>gJ r λs=>gL (gv c) (q (q S 42 [n,o]) 52 [r,s,I 0]) λt T=>gX 5 t (aA 1 (T 4) (I 0) λu=>aA 1 (T 5) (I 0) λv=>yO [(T 4,some 3),(T 5,some 35)]) (gR t (yO [(T 4,some 3),(T 5,some 35)]))) (gR p (yO [(S 4,some 3),(S 5,some 35)]))) (gR m (yO [(S 4,some 3),(S 5,some 35)]))
def rN{x0 x1 W r}(h:iH aY x0 x1 W=some r):OG 23 #[] [x0,x1] W r:=oM 68 h (by kernel_rfl)
def Gk:fx:=λc a=>aV a λb=>aF 34 λd=>aN 4 b λe=>bT c 55 [e] λf=>ap f 0 λg=>ap f 1 λh=>cu h (I 0) λi=>gI i (aX 34 [] λj=>aA 7 d j λk=>yO [(d,some 34),(h,none)]) (aN 4 b λj=>gB (sm 31 g g) λk=>az 3 b λl=>aB l λm=>gB (LN m) λn=>gB (sm 32 n n) λo=>aX 34 [(0,j),(2,k),(3,o)] λp=>aA 7 d p λr=>yO [(d,some 34),(I 0,none)])
def PS{x0 W r}(h:Gk aY x0 W=some r):OG 24 #[] [x0] W r:=oM 23 h (by kernel_rfl)
def Lj:di:=λc a b=>aV a λd=>aV b λe=>aF 34 λf=>aF 50 λg=>aN 7 d λh=>bT c 56 [h] λi=>cu i (I 0) λj=>gI j (aN 7 d λk=>aX 50 [] λl=>aA 7 f k λm=>aA 9 g l λn=>yO [(f,some 34),(g,some 50),(i,none)]) (aN 7 d λk=>aN 12 e λl=>bT c 57 [k,l] λm=>ap m 0 λn=>ap m 1 λo=>ap m 2 λp=>aA 7 f n λr=>aA 9 g o λs=>yO [(f,some 34),(g,some 50),(p,none)])
def RZ{x0 x1 W r}(h:Lj aY x0 x1 W=some r):OG 25 #[] [x0,x1] W r:=oM 21 h (by kernel_rfl)
def oT:cE:=λc S=>bK (S 8) (S 6) λa=>let T:=q S 33 [S 8,S 6,a];gI a (bF 1 (S 1) (S 8) λb=>aB b λd=>gB (PV d (S 7)) λe=>let U:=q T 38 [S 1,S 8,b,d,S 7,e];gI e (yR (q (q U 44 [S 6]) 4 [S 6,I 8])) (bD (S 8) (I 1) λf=>yN (q (q U 36 [S 8,f]) 8 [f]))) (yE 2 T)
def tJ:cE:=λc S=>gJ (S 1) λa=>bK (S 6) a λb=>let T:=q S 14 [S 6,S 1,a,b];gI b (bF 1 (S 1) (S 6) λd=>aB d λe=>lS e (I 1) λf=>gF f (dh e) λg=>gF f (dh (S 0)) λh=>gF f (zt6 h) λi=>gF f (zb4 g i) λj=>aO f (.bool true) j λk=>let U:=q (q (q T 20 [S 1,S 6,d,e]) 7 [e]) 24 [e,f,f,g,h,i,j,k];gI k (yR (q (q U 32 [S 6]) 4 [S 6,I 4])) (gL (oT c) (q U 8 [I 0]) λl V=>gX 2 l (bD (V 6) (I 1) λm=>yN (q (q V 18 [V 6,m]) 6 [m])) (gR l (yR V)))) (yE 0 T)
def ox:cE:=λc S=>gJ (S 1) λa=>bK (S 11) a λb=>let T:=q S 57 [S 11,S 1,a,b];gI b (gF (S 10) (dh (S 1)) λd=>gF (S 10) (dh (S 11)) λe=>gF (S 10) (nY 1 d e) λf=>gF (S 10) (bu f) λg=>gF (S 10) (dh (S 9)) λh=>gF (S 10) (zb3 h (I 1)) λi=>gF (S 10) (PV g i) λj=>aO (S 10) (.bool true) j λk=>bD (S 11) (I 1) λl=>yN (q (q (q (q T 63 [S 10,S 10,d,e,f,g,h,i,j,k]) 10 [k]) 61 [S 11,l]) 11 [l])) (yE 6 T)
def tT:cE:=λc S=>gB (zt6 (S 0)) λa=>bK (S 9) a λb=>let T:=q S 45 [S 9,S 0,a,b];gI b (bF 25 (S 0) (S 9) λd=>az 3 d λe=>aB e λf=>lS f (I 0) λg=>gL (ox c) (q (q T 51 [S 0,S 9,d,e,f,g]) 10 [g,I 0]) λh U=>gX 6 h (dL .not (U 10) λi=>gI i (gJ (U 1) λj=>yR (q (q U 73 [U 10,i,U 1,j]) 4 [j,I 10])) (bD (U 9) (I 1) λj=>yN (q (q (q U 73 [U 10,i]) 49 [U 9,j]) 9 [j]))) yZ) (yE 4 T)
def pc:cE:=λc S=>gJ (S 1) λa=>bK (S 13) a λb=>let T:=q S 85 [S 13,S 1,a,b];gI b (bF 1 (S 1) (S 13) λd=>aB d λe=>jk e (I 1) λf=>bF 25 (S 0) f λg=>aN 25 g λh=>bF 1 (S 1) (S 12) λi=>aB i λj=>jk j (I 1) λk=>bF 25 (S 0) k λl=>aN 25 l λm=>bT c 60 [h,m] λn=>let U:=q T 91 [S 0,S 1,S 13,d,e,f,g,h,S 0,S 1,S 12,i,j,k,l,m,n];gI n (yR (q (q U 108 [S 12]) 4 [S 12,I 9])) (bD (S 13) (I 1) λo=>yN (q (q U 89 [S 13,o]) 13 [o]))) (yE 10 T)
def tP:cE:=λc S=>gJ (S 1) λa=>bK (S 12) a λb=>let T:=q S 77 [S 12,S 1,a,b];gI b (bD (S 12) (I 1) λd=>gL (pc c) (q (q T 83 [S 12,d]) 13 [d]) λe U=>gX 10 e (bD (U 12) (I 1) λf=>yN (q (q U 81 [U 12,f]) 12 [f])) (gR e (yR U))) (yE 8 T)
def zf:di:=λc a b=>gL (tJ c) (q (cz 0 [a,b] ai.blank) 4 [I 0,I 0,I 0]) λd S=>gX 0 d (gL (tT c) (q S 9 [I 0]) λe T=>gX 4 e (gL (tP c) (q T 12 [I 0]) λf U=>gX 8 f (yO [(I 0,none),(I 0,none)]) (gR f (yO [(U 4,none),(U 5,none)]))) (gR e (yO [(T 4,none),(T 5,none)]))) (gR d (yO [(S 4,none),(S 5,none)]))
def Kn{x0 x1 W r}(h:zf aY x0 x1 W=some r):OG 28 #[] [x0,x1] W r:=oM 109 h (by kernel_rfl)
def tn:cE:=λc S=>bK (S 5) (S 3) λa=>let T:=q S 36 [S 5,S 3,a];gI a (az 5 (S 1) λb=>aB b λd=>bF 5 d (S 5) λe=>aN 5 e λf=>bT c 63 [f] λg=>cu g (I 0) λh=>let U:=q T 41 [b,d,S 5,e,f,g,h];gI h (yR (q U 2 [I 6])) (bD (S 5) (I 1) λi=>yN (q (q U 39 [S 5,i]) 5 [i]))) (yE 0 T)
def kL:cE:=λc S=>me (S 7) λa=>bK (S 8) a λb=>let T:=q S 70 [S 8,S 7,a,b];gI b (bF 1 (S 7) (S 8) λd=>aB d λe=>bT c 64 [S 7,e] λf=>bK f (S 8) λg=>let U:=q T 76 [S 7,S 7,S 8,d,e,f,S 8,g];gI g (yR (q U 2 [I 8])) (bD (S 8) (I 1) λh=>yN (q (q U 74 [S 8,h]) 8 [h]))) (yE 4 T)
def tA:cE:=λc S=>az 6 (S 1) λa=>aB a λb=>gB (H3 b) λd=>bK (S 6) d λe=>let T:=q S 48 [S 6,a,b,d,e];gI e (az 6 (S 1) λf=>aB f λg=>bF 1 g (S 6) λh=>aB h λi=>me i λj=>az 0 (S 1) λk=>az 3 k λl=>aB l λm=>bF 3 m (S 6) λn=>az 2 n λo=>aB o λp=>gB (zb4 j p) λr=>let U:=q (q (q T 55 [f,g,S 6,h,i]) 7 [i]) 60 [i,j,k,l,m,S 6,n,o,p,r];gI r (yR (q U 2 [I 3])) (gL (kL c) (q U 8 [I 0]) λs V=>gX 4 s (bD (V 6) (I 1) λt=>yN (q (q V 53 [V 6,t]) 6 [t])) (gR s (yR V)))) (yE 2 T)
def Hq:fx:=λc a=>aV a λb=>az 0 b λd=>aN 4 d λe=>bT c 30 [e] λf=>ap f 0 λg=>ap f 1 λh=>cu h (I 0) λi=>gI i (yO [(h,none)]) (az 4 b λj=>aB j λk=>gB (Mw k (I 0)) λl=>gI l (yO [(I 7,none)]) (az 5 b λm=>aB m λn=>gB (DK n) λo=>gB (JB o g) λp=>gF p (gO 6 b) λr=>gF p (bu r) λs=>gF p (H3 s) λt=>gF p (gO 0 b) λu=>gF p (gO 3 u) λv=>gF p (bu v) λw=>gF p (LN w) λx=>gF p (JB t x) λy=>aO p (.bool true) y λz=>gI z (yO [(I 6,none)]) (gL (tn c) (q (q (q (q (q (q (q (q (cz 0 [a] ai.blank) 1 [b,I 0]) 10 [d,e,f]) 9 [f]) 13 [g,h]) 3 [g,h]) 15 [h,i]) 18 [j,k,l,m,n,o,g,p,p,r,s,t,u,v,w,x,y,z]) 5 [I 0]) λA S=>gX 0 A (gL (tA c) (q S 6 [I 0]) λB T=>gX 2 B (yO [(I 0,none)]) (gR B (yO [(T 2,none)]))) (gR A (yO [(S 2,none)])))))
def Jb{x0 W r}(h:Hq aY x0 W=some r):OG 31 #[] [x0] W r:=oM 84 h (by kernel_rfl)
def lh:LW:=λc a b d e f=>gI f (lS e (I 0) λg=>gF g (dh e) λh=>gF g (gO 0 a) λi=>gF g (gO 3 i) λj=>gF g (bu j) λk=>gF g (LN k) λl=>gF g (K5 h l) λm=>aO g (.bool true) m λn=>gI n (yO [(I 4,none)]) (az 0 b λo=>aB o λp=>bY p (I 3) λr=>gT r (gO 5 b) λs=>gT r (bu s) λt=>gT r (zb1 t (I 1)) λu=>gT r (dh u) λv=>gF v (gO 5 b) λw=>gF v (bu w) λx=>gF v (WD x (I 8)) λy=>gT r (jQ v (.bool true) y) λz=>aO r z (.bool false) λA=>gI A (yO [(I 7,none)]) (yO [(I 0,none)]))) (lS d (I 0) λg=>gF g (dh d) λh=>gF g (gO 5 a) λi=>gF g (bu i) λj=>gF g (DK j) λk=>gF g (K5 h k) λl=>aO g (.bool true) l λm=>gI m (yO [(I 4,none)]) (yO [(I 0,none)]))
def lj:akO:=λc a b d e f g=>gI g (yO [(I 0,none)]) (bY f (I 3) λh=>gI h (lh c a b d e h) (bY f (I 10) λi=>gI i (lh c a b d e i) (bY f (I 11) λj=>lh c a b d e j)))
def HB:di:=λc a b=>aV a λd=>aV b λe=>az 0 e λf=>aB f λg=>bT c 65 [g] λh=>gT h (gO 2 e) λi=>gT h (bu i) λj=>gT h (gO 4 d) λk=>gT h (bu k) λl=>gT h (Yn j l) λm=>aO h m (.bool false) λn=>gI n (yO [(I 13,none)]) (az 0 e λo=>aB o λp=>bY p (I 8) λr=>gT r (gO 1 e) λs=>gT r (bu s) λt=>gT r (afR t (.int .u32 0)) λu=>aO r u (.bool false) λv=>gF v (gO 0 e) λw=>gF v (bu w) λx=>gF v (zb7 x (I 6)) λy=>gF v (dh y) λz=>gF z (gO 0 e) λA=>gF z (bu A) λB=>gF z (zb7 B (I 7)) λC=>gF v (jQ z (.bool true) C) λD=>gF v (dh D) λE=>gT E (gO 7 e) λF=>gT E (gO 1 F) λG=>gT E (bu G) λH=>gT E (gO 1 e) λJ=>gT E (bu J) λK=>gT E (Vc H K) λL=>gF v (jQ E L (.bool false)) λM=>aO v (.bool true) M λN=>gI N (yO [(I 14,none)]) (aN 12 e λO=>bT c 66 [O] λP=>ap P 0 λQ=>ap P 1 λa0=>ap P 2 λb0=>az 0 e λd0=>aB d0 λe0=>bY e0 (I 1) λf0=>gI f0 (lj c d e Q a0 e0 f0) (bY e0 (I 12) λg0=>lj c d e Q a0 e0 g0)))
def JD{x0 x1 W r}(h:HB aY x0 x1 W=some r):OG 33 #[] [x0,x1] W r:=oM 91 h (by kernel_rfl)
def qc:cE:=λc S=>az 6 (S 1) λa=>aB a λb=>gB (H3 b) λd=>bK (S 4) d λe=>let T:=q S 10 [S 4,a,b,d,e];gI e (br 88 0 [] λf=>az 6 (S 1) λg=>aB g λh=>bF 1 h (S 4) λi=>aB i λj=>b8 #[88,88] f j λk=>br 32 1 [(0,k)] λl=>b8 #[32,32] (S 3) l λm=>bD (S 4) (I 1) λn=>yN (q (q (q (q T 17 [S 3,f,g,h,S 4,i,j,k,l,m]) 3 [m]) 15 [S 4,n]) 4 [n])) (yE 0 T)
def C8:fx:=λc a=>aV a λb=>aF 34 λd=>br 31 0 [] λe=>az 5 b λf=>aB f λg=>b8 #[31,31] e g λh=>az 5 b λi=>aA 1 i h λj=>gL (qc c) (q (q (q (cz 0 [a] ai.blank) 1 [b,d]) 5 [e,f,g,h,i]) 3 [.slice none 0 0,I 0]) λk S=>gX 0 k (az 6 (S 1) λl=>aA 1 l (S 3) λm=>aN 7 (S 1) λn=>aA 7 (S 2) n λo=>yO [(S 2,some 34)]) yZ
def Mt{x0 W r}(h:C8 aY x0 W=some r):OG 34 #[] [x0] W r:=oM 30 h (by kernel_rfl)
def Hn:di:=λc a b=>aV a λd=>az 4 d λe=>aB e λf=>bT c 67 [f,b] λg=>ap g 0 λh=>ap g 1 λi=>yO [(h,none)]
def KG{x0 x1 W r}(h:Hn aY x0 x1 W=some r):OG 35 #[] [x0,x1] W r:=oM 15 h (by kernel_rfl)
def qj:cE:=λc S=>az 5 (S 2) λa=>aB a λb=>gB (DK b) λd=>bK (S 6) d λe=>let T:=q S 14 [S 6,a,b,d,e];gI e (az 5 (S 2) λf=>aB f λg=>bF 5 g (S 6) λh=>az 2 h λi=>aB i λj=>bT c 68 [j,S 1] λk=>ap k 0 λl=>ap k 1 λm=>az 5 (S 2) λn=>aB n λo=>bF 5 o (S 6) λp=>az 0 p λr=>aB r λs=>bY s (I 1) λt=>gT t (dh l) λu=>aO t u (.bool false) λv=>let U:=q (q (q (q (q T 22 [f,g,S 6,h,i,j,S 1,k]) 21 [k]) 30 [l,m]) 7 [l,m]) 32 [n,o,S 6,p,r,s,t,t,u,v];gI v (br 28 1 [(0,S 6)] λw=>b8 #[28,28] (S 5) w λx=>bD (S 6) (I 1) λy=>yN (q (q (q (q U 42 [S 5,S 6,w,x]) 5 [x]) 19 [S 6,y]) 6 [y])) (bD (S 6) (I 1) λw=>yN (q (q U 19 [S 6,w]) 6 [w]))) (yE 0 T)
def lH:cE:=λc S=>gJ (S 5) λa=>bK (S 10) a λb=>let T:=q S 49 [S 10,S 5,a,b];gI b (az 5 (S 2) λd=>aB d λe=>bF 1 (S 5) (S 10) λf=>aB f λg=>bF 5 e g λh=>az 2 h λi=>aB i λj=>az 5 (S 2) λk=>aB k λl=>bF 1 (S 5) (S 9) λm=>aB m λn=>bF 5 l n λo=>az 2 o λp=>aB p λr=>gB (YM j r) λs=>let U:=q T 55 [d,e,S 5,S 10,f,g,h,i,j,k,l,S 5,S 9,m,n,o,p,r,s];gI s (bD (S 10) (I 1) λt=>yN (q (q (q (q U 74 [S 10]) 9 [S 10]) 53 [S 10,t]) 10 [t])) (bD (S 10) (I 1) λt=>yN (q (q U 53 [S 10,t]) 10 [t]))) (yE 4 T)
def ql:cE:=λc S=>gJ (S 5) λa=>qz a (I 0) λb=>let T:=q S 46 [S 5,a,b];gI b (gL (lH c) (q T 9 [I 0,I 0]) λd U=>gX 4 d (bF 1 (U 5) (U 9) λe=>aB e λf=>br 28 0 [] λg=>gB (oe 28 (U 5) none (some (U 9)) none) λh=>bD (U 9) (I 1) λi=>gB (oe 28 (U 5) (some i) none none) λj=>b8 #[28,28] g h λk=>b8 #[28,28] k j λl=>az 5 (U 2) λm=>aB m λn=>az 5 (U 2) λo=>aB o λp=>bF 5 p f λr=>aN 5 r λs=>bT c 69 [s,U 1] λt=>gA (λW=>jP true (bu m W) n&&true) (ap t 0 λu=>ap t 1 λv=>bF 5 n f λw=>aA 5 w u λx=>aN 7 (U 2) λy=>bT c 70 [y,f] λz=>aA 7 (U 2) z λA=>yN (q (q (q (q (q (q (q (q (q (q U 75 [U 5,U 9,e,f]) 11 [f]) 79 [g,U 5,U 9,h]) 84 [U 5,U 9,i,j]) 83 [k]) 88 [l]) 5 [l]) 90 [m,n,f,o,p,f,r,s,U 1,t]) 89 [t]) 100 [u,v,w,y,f,z]))) yZ) (yE 2 T)
def CN:di:=λc a b=>aV a λd=>aF 34 λe=>az 4 d λf=>aA 1 f b λg=>gL (qj c) (q (q (q (q (cz 0 [a,b] ai.blank) 2 [d]) 4 [e]) 12 [b,f]) 5 [.slice none 0 0,I 0]) λh S=>gX 0 h (gL (ql c) S λi T=>gX 2 i (aN 7 (T 2) λj=>aA 7 (T 4) j λk=>yO [(T 4,some 34)]) yZ) yZ
def MD{x0 x1 W r}(h:CN aY x0 x1 W=some r):OG 36 #[] [x0,x1] W r:=oM 107 h (by kernel_rfl)
def oD:cE:=λc S=>az 5 (S 2) λa=>aB a λb=>gB (DK b) λd=>bK (S 7) d λe=>let T:=q S 12 [S 7,a,b,d,e];gI e (az 5 (S 2) λf=>aB f λg=>bF 5 g (S 7) λh=>az 0 h λi=>aB i λj=>bY j (I 0) λk=>br 135 1 [(0,k)] λl=>b8 #[135,135] (S 6) l λm=>bD (S 7) (I 1) λn=>yN (q (q (q (q T 19 [S 6,f,g,S 7,h,i,j,k,l,m]) 6 [m]) 17 [S 7,n]) 7 [n])) (yE 0 T)
def oc:cE:=λc S=>az 5 (S 3) λa=>aB a λb=>dN (S 8) b λd=>bK (S 11) d λe=>let T:=q S 51 [S 11,S 8,a,b,d,e];gI e (az 5 (S 2) λf=>aB f λg=>az 5 (S 2) λh=>aB h λi=>bF 5 i (S 11) λj=>aN 5 j λk=>az 1 (S 3) λl=>aB l λm=>bT c 72 [k,m,S 10] λn=>gA (λW=>jP true (bu f W) g&&true) (ap n 0 λo=>ap n 1 λp=>bF 5 g (S 11) λr=>aA 5 r o λs=>bD (S 11) (I 1) λt=>yN (q (q (q (q (q T 60 [f,g,S 11,h,i,S 11,j,k,l,m,S 10,n]) 59 [n]) 72 [o,p,r]) 57 [S 11,t]) 11 [t]))) (yE 2 T)
def zu:di:=λc a b=>aV a λd=>aV b λe=>aF 34 λf=>aF 50 λg=>gL (oD c) (q (cz 0 [a,b] ai.blank) 2 [d,e,f,g,.slice none 0 0,I 0]) λh S=>gX 0 h (az 0 (S 2) λi=>aN 4 i λj=>az 4 (S 3) λk=>aB k λl=>az 5 (S 3) λm=>aB m λn=>bT c 71 [j,S 6,l,n] λo=>ap o 0 λp=>ap o 1 λr=>cu r (I 0) λs=>gI s (aN 7 (S 2) λt=>aX 50 [(0,r)] λu=>aA 7 (S 4) t λv=>aA 9 (S 5) u λw=>yO [(S 4,some 34),(S 5,some 50)]) (aN 7 (S 2) λt=>az 0 (S 2) λu=>az 1 u λv=>aB v λw=>bT c 35 [t,w] λx=>gL (oc c) (q (q (q (q (q (q (q (q (q S 30 [i,j,S 6,k,l,m,n,o]) 29 [o]) 38 [p,r]) 8 [p,r]) 40 [r,s]) 45 [t,u,v,w,x]) 10 [x]) 50 [p]) 11 [p]) λy T=>gX 2 y (aN 7 (T 2) λz=>az 5 (T 3) λA=>aB A λB=>aX 50 [(1,T 8),(2,B),(3,T 10)] λC=>aA 7 (T 4) z λD=>gA (λW=>jP true (bu A W) B&&true) (aA 9 (T 5) C λE=>yO [(T 4,some 34),(T 5,some 50)])) yZ)) yZ
def Ks{x0 x1 W r}(h:zu aY x0 x1 W=some r):OG 37 #[] [x0,x1] W r:=oM 81 h (by kernel_rfl)
def zh:di:=λc a b=>aV a λd=>aV b λe=>aF 34 λf=>aF 50 λg=>az 6 d λh=>aB h λi=>az 4 e λj=>aB j λk=>bF 1 i k λl=>aB l λm=>az 1 e λn=>aB n λo=>bT c 64 [m,o] λp=>az 0 e λr=>aB r λs=>bY s (I 11) λt=>gI t (lS p (I 0) λu=>gI u (aN 7 d λv=>aX 50 [(0,I 4)] λw=>aA 7 f v λx=>aA 9 g w λy=>yO [(f,some 34),(g,some 50)]) (az 6 d λv=>aB v λw=>az 4 e λx=>aB x λy=>br 88 0 [] λz=>gB (oe 88 m none (some p) none) λA=>bD p (I 1) λB=>gB (oe 88 m (some B) none none) λC=>b8 #[88,88] z A λD=>gA (λW=>jP true (bu x W) y&&(jP true (bu v W) w&&true)) (b8 #[88,88] D C λE=>gA (λW=>jP true (bu x W) y&&(jP true (bu v W) w&&true)) (bF 1 w y λF=>aA 1 F E λG=>aN 7 d λH=>aX 50 [] λJ=>aA 7 f H λK=>aA 9 g J λL=>yO [(f,some 34),(g,some 50)])))) (me m λu=>az 0 d λv=>az 3 v λw=>aB w λx=>az 4 e λy=>aB y λz=>bF 3 x z λA=>az 2 A λB=>aB B λC=>gB (K5 u C) λD=>gI D (aN 7 d λE=>aX 50 [(0,I 5)] λF=>aA 7 f E λG=>aA 9 g F λH=>yO [(f,some 34),(g,some 50)]) (gB (Gf p (I 0)) λE=>gI E (aN 7 d λF=>aX 50 [(0,I 8)] λG=>aA 7 f F λH=>aA 9 g G λJ=>yO [(f,some 34),(g,some 50)]) (az 6 d λF=>aB F λG=>az 4 e λH=>aB H λJ=>br 88 0 [] λK=>az 1 e λL=>aB L λM=>br 88 1 [(0,M)] λN=>b8 #[88,88] K m λO=>gA (λW=>jP true (bu L W) M&&(jP true (bu H W) J&&(jP true (bu F W) G&&true))) (b8 #[88,88] O N λP=>gA (λW=>jP true (bu H W) J&&(jP true (bu F W) G&&true)) (bF 1 G J λQ=>aA 1 Q P λa0=>aN 7 d λb0=>me m λd0=>bD d0 (I 1) λe0=>aX 50 [(5,e0)] λf0=>aA 7 f b0 λg0=>aA 9 g f0 λh0=>yO [(f,some 34),(g,some 50)])))))
def KL{x0 x1 W r}(h:zh aY x0 x1 W=some r):OG 38 #[] [x0,x1] W r:=oM 76 h (by kernel_rfl)
def fG:GH:=λc a b d e=>aN 7 a λf=>aN 9 e λg=>aA 7 b f λh=>gA (λW=>jP true (dF 9 e W) g&&true) (aA 9 d g λi=>yO [(b,some 34),(d,some 50)])
def qe:ao1:=λc a b d e f g h i=>gI i (aN 5 f λj=>fu 3 43 e λk=>bT c 79 [j,k] λl=>ap l 0 λm=>ap l 1 λn=>az 4 g λo=>aA 4 o m λp=>fG c a b d g) (bY h (I 4) λj=>gI j (gI j (aN 7 a λk=>bT c 70 [k,e] λl=>aA 7 a l λm=>fG c a b d g) (fG c a b d g)) (bY h (I 7) λk=>gI k (gI k (aN 7 a λl=>bT c 70 [l,e] λm=>aA 7 a m λn=>fG c a b d g) (fG c a b d g)) (bY h (I 8) λl=>gI l (aN 7 a λm=>bT c 70 [m,e] λn=>aA 7 a n λo=>fG c a b d g) (fG c a b d g))))
def fF:ao1:=λc a b d e f g h i=>cu h (I 0) λj=>gI j (aN 7 a λk=>aX 50 [(0,h)] λl=>aA 7 d k λm=>aA 9 e l λn=>yO [(d,some 34),(e,some 50)]) (az 5 a λk=>aB k λl=>aN 5 g λm=>bF 5 l f λn=>aA 5 n m λo=>az 0 b λp=>aB p λr=>bY r (I 5) λs=>gI s (qe c a d e f g i r s) (bY r (I 6) λt=>qe c a d e f g i r t))
def C7:di:=λc a b=>aV a λd=>aV b λe=>aF 34 λf=>aF 50 λg=>aN 12 e λh=>bT c 66 [h] λi=>ap i 0 λj=>ap i 1 λk=>ap i 2 λl=>az 5 d λm=>aB m λn=>bF 5 n j λo=>aN 5 o λp=>aF 87 λr=>aA 5 r p λs=>aF 50 λt=>az 0 e λu=>aB u λv=>bY v (I 2) λw=>gI w (aN 7 d λx=>az 0 d λy=>az 1 y λz=>aB z λA=>bT c 35 [x,A] λB=>az 3 t λC=>aA 1 C B λD=>aN 5 r λE=>az 1 e λF=>aB F λG=>az 3 t λH=>aB H λJ=>bT c 72 [E,G,J] λK=>ap K 0 λL=>ap K 1 λM=>aA 5 r L λN=>fF c d e f g j r M t) (bY v (I 4) λx=>gI x (aN 5 r λy=>az 1 e λz=>aB z λA=>bT c 73 [y,A] λB=>ap B 0 λC=>ap B 1 λD=>aA 5 r C λE=>fF c d e f g j r D t) (bY v (I 5) λy=>gI y (aN 5 r λz=>az 1 e λA=>aB A λB=>bT c 74 [z,B] λC=>ap C 0 λD=>ap C 1 λE=>aA 5 r D λF=>fF c d e f g j r E t) (bY v (I 6) λz=>gI z (aN 5 r λA=>az 7 e λB=>aN 4 B λC=>az 6 e λD=>aB D λE=>bT c 75 [A,C,E] λF=>ap F 0 λG=>ap F 1 λH=>aA 5 r G λJ=>fF c d e f g j r H t) (bY v (I 7) λA=>gI A (aN 5 r λB=>az 7 e λC=>aN 4 C λD=>bT c 76 [B,D] λE=>ap E 0 λF=>ap E 1 λG=>aA 5 r F λH=>fF c d e f g j r G t) (bY v (I 8) λB=>gI B (aN 5 r λC=>bT c 77 [C] λD=>ap D 0 λE=>ap D 1 λF=>aA 5 r E λG=>fF c d e f g j r F t) (aN 5 r λC=>az 7 e λD=>aN 4 D λE=>bT c 78 [C,E] λF=>fF c d e f g j r F t))))))
def Md{x0 x1 W r}(h:C7 aY x0 x1 W=some r):OG 39 #[] [x0,x1] W r:=oM 123 h (by kernel_rfl)
def dy:cE:=λc S=>bK (S 8) (S 7) λa=>gI a (bF 5 (S 0) (S 8) λb=>aN 5 b λd=>gB (c (S 1) [d]) λe=>let T:=q (q (q S 9 [a,S 8]) 5 [S 8]) 11 [S 1,S 0,S 8,b,d,e];gI e (yR (q (q T 17 [S 8]) 4 [S 8])) (bD (S 8) (I 1) λf=>yN (q (q T 18 [f]) 8 [f]))) (yE 0 (q S 9 [a]))
def gg:di:=λc a b=>gB (DK a) λd=>gL (dy c) (q (q (cz 0 [a,b] ai.blank) 4 [I 0]) 6 [a,d,I 0]) λe S=>gX 0 e (yO [(I (-1),none)]) (gR e (yO [(S 4,none)]))
def kM{x0 x1 W r}(h:gg aY x0 x1 W=some r):OG 121 #[] [x0,x1] W r:=oM 19 h (by kernel_rfl)
def kZ:pk:=λc a b d=>aB b λe=>aD e λf=>az 5 f λg=>aB g λh=>jk a (I 1) λi=>bF 25 h i λj=>aN 25 j λk=>aB b λl=>aD l λm=>az 5 m λn=>aB n λo=>aB d λp=>jk p (I 1) λr=>bF 25 o r λs=>aN 25 s λt=>bT c 42 [k,t] λu=>yO [(u,none)]
def qH{x0 x1 x2 W r}(h:kZ aY x0 x1 x2 W=some r):OG 53 #[x1,x2] [x0] W r:=oM 22 h (by kernel_rfl)
def kI:cE:=λc S=>bK (S 66) (S 65) λa=>gI a (bF 1 (S 64) (S 66) λb=>aB b λd=>gB (zz 166 (S 7) d false) λe=>let T:=q (q (q S 67 [a,b,d]) 9 [d]) 70 [S 7,d,e];gI e (yR (q T 2 [I 8])) (gB (uy 166 (S 7) d (.bool true)) λf=>bD (S 66) (I 1) λg=>yN (q (q T 73 [S 7,d,g]) 66 [g]))) (yE 3 (q S 67 [a]))
def tN:cE:=λc S=>bK (S 48) (S 47) λa=>gI a (bF 1 (S 46) (S 48) λb=>aB b λd=>me d λe=>az 0 (S 1) λf=>az 3 f λg=>aB g λh=>bF 3 h (S 48) λi=>az 2 i λj=>aB j λk=>gB (zb4 e k) λl=>let T:=q (q (q S 49 [a,S 48,b,d]) 5 [S 48,d]) 53 [d,e,f,g,h,S 48,i,j,k,l];gI l (yR (q T 2 [I 3])) (gB (IL 166 none) λm=>me d λn=>gL (kI c) (q (q (q T 63 [m]) 7 [m]) 64 [d,n,I 0]) λo U=>gX 3 o (bD (U 48) (I 1) λp=>yN (q (q U 76 [p]) 48 [p])) (gR o (yR U)))) (yE 1 (q S 49 [a]))
def HK:fx:=λc a=>aV a λb=>az 0 b λd=>aN 4 d λe=>bT c 55 [e] λf=>ap f 0 λg=>ap f 1 λh=>cu h (I 0) λi=>gI i (yO [(h,none)]) (az 4 b λj=>aB j λk=>gB (Mw k (I 0)) λl=>gI l (yO [(I 7,none)]) (az 5 b λm=>aB m λn=>gB (DK n) λo=>gB (JB o g) λp=>gF p (gO 6 b) λr=>gF p (bu r) λs=>gF p (H3 s) λt=>gF p (gO 0 b) λu=>gF p (gO 3 u) λv=>gF p (bu v) λw=>gF p (LN w) λx=>gF p (JB t x) λy=>aO p (.bool true) y λz=>gF z (gO 5 b) λA=>gF z (bu A) λB=>gF z (zc c 95 [B,wI 96]) λC=>aO z (.bool true) C λD=>gI D (yO [(I 6,none)]) (az 6 b λE=>aB E λF=>gB (H3 F) λG=>gL (tN c) (q (q (q (q (q (q (q (q (q (q (q (q (cz 0 [a] ai.blank) 1 [b,I 0]) 11 [d,e,f]) 10 [f]) 14 [g,h]) 3 [g,h]) 17 [h,i]) 16 [i]) 21 [j,k,l]) 20 [l]) 25 [m,n,o,g,p,p,r,s,t,u,v,w,x,y,z,z,A,B,C,D]) 24 [D]) 45 [E,F,G,I 0]) λH S=>gX 1 H (yO [(I 0,none)]) (gR H (yO [(S 2,none)])))))
def Js{x0 W r}(h:HK aY x0 W=some r):OG 56 #[] [x0] W r:=oM 77 h (by kernel_rfl)
def JT:di:=λc a b=>aV a λd=>aV b λe=>aF 34 λf=>aF 50 λg=>aN 12 e λh=>bT c 98 [h] λi=>ap i 0 λj=>ap i 1 λk=>ap i 2 λl=>cu l (I 0) λm=>gI m (aN 7 d λn=>aX 50 [] λo=>aA 7 f n λp=>aA 9 g o λr=>yO [(f,some 34),(g,some 50),(l,none)]) (aN 7 d λn=>aN 12 e λo=>bT c 99 [n,o,j,k] λp=>cu p (I 0) λr=>gI r (aN 7 d λs=>aX 50 [(0,p)] λt=>aA 7 f s λu=>aA 9 g t λv=>yO [(f,some 34),(g,some 50),(I 0,none)]) (aN 7 d λs=>aN 12 e λt=>bT c 100 [s] λu=>gA (λW=>jP true (dF 12 e W) t&&true) (aX 170 [(0,u),(1,t),(2,j)] λv=>aV v λw=>az 0 e λx=>aB x λy=>aF 50 λz=>bT c 101 [] λA=>gA (λW=>jP true (bu x W) y&&true) (gB (kK 172 A y) λB=>gB (c B [w]) λC=>aA 9 z C λD=>az 0 z λE=>aB E λF=>cu F (I 0) λG=>gI G (aN 7 d λH=>aN 9 z λJ=>aA 7 f H λK=>gA (λW=>jP true (dF 9 z W) J&&true) (aA 9 g J λL=>yO [(f,some 34),(g,some 50),(I 0,none)])) (aD w λH=>az 0 H λJ=>aN 7 J λK=>aN 9 z λL=>aA 7 f K λM=>gA (λW=>jP true (dF 9 z W) L&&true) (aA 9 g L λN=>yO [(f,some 34),(g,some 50),(I 0,none)]))))))
def QT{x0 x1 W r}(h:JT aY x0 x1 W=some r):OG 57 #[] [x0,x1] W r:=oM 56 h (by kernel_rfl)
def sX:cE:=λc S=>me (S 0) λa=>bK (S 5) a λb=>let T:=q S 6 [S 5,S 0,a,b];gI b (bF 1 (S 0) (S 5) λd=>aB d λe=>gB (ams e (S 1)) λf=>let U:=q T 12 [S 0,S 5,d,e,S 1,f];gI f (yR (q (q U 18 [S 5]) 4 [S 5])) (bD (S 5) (I 1) λg=>yN (q (q U 10 [S 5,g]) 5 [g]))) (yE 0 T)
def Hj:di:=λc a b=>gL (sX c) (q (cz 0 [a,b] ai.blank) 4 [I 0,I 0]) λd S=>gX 0 d (yO [(I (-1),none)]) (gR d (yO [(S 4,none)]))
def JN{x0 x1 W r}(h:Hj aY x0 x1 W=some r):OG 64 #[] [x0,x1] W r:=oM 19 h (by kernel_rfl)
def B3:fx:=λc a=>gB (Vh a (I 1)) λb=>gT b (dh a) λd=>gT b (Vh d (I 9)) λe=>aO b e (.bool false) λf=>gT f (dh a) λg=>gT f (Vh g (I 12)) λh=>aO f h (.bool false) λi=>yO [(i,none)]
def FU{x0 W r}(h:B3 aY x0 W=some r):OG 65 #[] [x0] W r:=oM 13 h (by kernel_rfl)
def Nx:di:=λc a b=>bT c 104 [a,b] λd=>cu d (I 0) λe=>gI e (yO [(I 0,none),(d,none)]) (gB (an6 (I 9223372036854775807) b) λf=>gB (ag0 a f) λg=>gI g (yO [(I 9223372036854775807,none),(I 0,none)]) (gB (aqG a b) λh=>yO [(h,none),(I 0,none)]))
def P5{x0 x1 W r}(h:Nx aY x0 x1 W=some r):OG 67 #[] [x0,x1] W r:=oM 20 h (by kernel_rfl)
def vI:di:=λc a b=>aV a λd=>aF 34 λe=>az 0 d λf=>aN 4 f λg=>bT c 107 [g,b] λh=>ap h 0 λi=>ap h 1 λj=>aF 177 λk=>aA 3 k i λl=>az 6 d λm=>aB m λn=>az 0 k λo=>aB o λp=>bF 1 n p λr=>aB r λs=>me s λt=>bY t (I 0) λu=>gI u (aN 7 d λv=>aA 7 e v λw=>yO [(e,some 34)]) (az 5 d λv=>aB v λw=>az 5 d λx=>aB x λy=>bF 5 y b λz=>aN 5 z λA=>bF 1 s (I 0) λB=>aB B λC=>aN 7 d λD=>az 0 d λE=>az 1 E λF=>aB F λG=>bT c 35 [D,G] λH=>gA (λW=>jP true (bu B W) C&&(jP true (dF 5 z W) A&&(jP true (bu x W) y&&(jP true (bu v W) w&&true)))) (bT c 72 [A,C,H] λJ=>gA (λW=>jP true (bu v W) w&&true) (ap J 0 λK=>ap J 1 λL=>bF 5 w b λM=>aA 5 M K λN=>az 6 d λO=>aB O λP=>az 0 k λQ=>aB Q λa0=>br 88 0 [] λb0=>gB (oe 88 s (some (I 1)) none none) λd0=>b8 #[88,88] b0 d0 λe0=>gA (λW=>jP true (bu Q W) a0&&(jP true (bu O W) P&&true)) (bF 1 P a0 λf0=>aA 1 f0 e0 λg0=>aN 7 d λh0=>aA 7 e h0 λi0=>yO [(e,some 34)]))))
def FG{x0 x1 W r}(h:vI aY x0 x1 W=some r):OG 70 #[] [x0,x1] W r:=oM 56 h (by kernel_rfl)
def Kl:GH:=λc a b d e=>aV a λf=>aN 4 f λg=>bT c 108 [g,b,d,e] λh=>ap h 0 λi=>ap h 1 λj=>cu j (I 0) λk=>gI k (yO [(I 0,none),(j,none)]) (aN 4 f λl=>bT c 109 [l,b,d,e] λm=>lS m (I 0) λn=>gI n (yO [(I 0,none),(I 15,none)]) (yO [(m,none),(I 0,none)]))
def MH{x0 x1 x2 x3 W r}(h:Kl aY x0 x1 x2 x3 W=some r):OG 71 #[] [x0,x1,x2,x3] W r:=oM 32 h (by kernel_rfl)
def vG:LW:=λc a b d e f=>cu f (I 0) λg=>gI g (aN 5 d λh=>aA 5 e h λi=>yO [(e,some 87),(f,none)]) (az 0 d λh=>aA 1 h (I 1) λi=>az 1 d λj=>aA 1 j a λk=>az 2 d λl=>aA 1 l b λm=>aN 5 d λn=>aA 5 e n λo=>yO [(e,some 87),(I 0,none)])
def uZ:LW:=λc a b d e f=>lT f (I 0) λg=>gI g (aN 5 d λh=>bT c 105 [h,I 0] λi=>vG c a b d e i) (vG c a b d e f)
def J4:pk:=λc a b d=>aV a λe=>aF 87 λf=>aN 5 e λg=>bT c 63 [g] λh=>lT h (I 0) λi=>gT i (dh d) λj=>gT i (Mw j (I 0)) λk=>aO i k (.bool false) λl=>gI l (uZ c b d e f (I 7)) (uZ c b d e f h)
def L8{x0 x1 x2 W r}(h:J4 aY x0 x1 x2 W=some r):OG 72 #[] [x0,x1,x2] W r:=oM 31 h (by kernel_rfl)
def od:GH:=λc a b d e=>cu e (I 0) λf=>gI f (aN 5 b λg=>aA 5 d g λh=>yO [(d,some 87),(e,none)]) (az 3 b λg=>aB g λh=>gB (VN h (.int .u64 1)) λi=>az 1 b λj=>aA 1 j a λk=>az 3 b λl=>aA 1 l i λm=>aN 5 b λn=>aA 5 d n λo=>yO [(d,some 87),(I 0,none)])
def Ae:pk:=λc a b d=>aV a λe=>aV b λf=>aF 87 λg=>aN 5 e λh=>aN 4 f λi=>bT c 78 [h,i] λj=>lT j (I 0) λk=>gT k (gO 3 e) λl=>gT k (bu l) λm=>gT k (U6 m (.int .u64 18446744073709551615)) λn=>aO k n (.bool false) λo=>gI o (od c d e g (I 17)) (od c d e g j)
def Ej{x0 x1 x2 W r}(h:Ae aY x0 x1 x2 W=some r):OG 75 #[] [x0,x1,x2] W r:=oM 30 h (by kernel_rfl)
def DF:di:=λc a b=>aV a λd=>aV b λe=>aF 87 λf=>aN 5 d λg=>aN 4 e λh=>bT c 78 [g,h] λi=>cu i (I 0) λj=>gI j (aN 5 d λk=>aA 5 f k λl=>yO [(f,some 87),(i,none)]) (aN 5 d λk=>bT c 106 [k] λl=>aA 5 f l λm=>yO [(f,some 87),(I 0,none)])
def HT{x0 x1 W r}(h:DF aY x0 x1 W=some r):OG 76 #[] [x0,x1] W r:=oM 16 h (by kernel_rfl)
def rA:pk:=λc a b d=>cu d (I 0) λe=>gI e (aN 5 a λf=>aA 5 b f λg=>yO [(b,some 87),(d,none)]) (aN 5 a λf=>bT c 106 [f] λg=>aA 5 a g λh=>az 4 a λi=>aB i λj=>gB (VN j (.int .u64 1)) λk=>az 4 a λl=>aA 1 l k λm=>aN 5 a λn=>aA 5 b n λo=>yO [(b,some 87),(I 0,none)])
def Eo:fx:=λc a=>aV a λb=>aF 87 λd=>aN 5 b λe=>bT c 105 [e,I 2] λf=>lT f (I 0) λg=>gT g (gO 4 b) λh=>gT g (bu h) λi=>gT g (U6 i (.int .u64 18446744073709551615)) λj=>aO g j (.bool false) λk=>gI k (rA c b d (I 17)) (rA c b d f)
def Ic{x0 W r}(h:Eo aY x0 W=some r):OG 77 #[] [x0] W r:=oM 25 h (by kernel_rfl)
def G1:di:=λc a b=>aV a λd=>aV b λe=>aN 5 d λf=>bT c 105 [f,I 2] λg=>lT g (I 0) λh=>gT h (gO 1 e) λi=>gT h (bu i) λj=>gT h (gO 1 d) λk=>gT h (bu k) λl=>gT h (Vc j l) λm=>gT h (dh m) λn=>gF n (gO 2 e) λo=>gF n (bu o) λp=>gF n (gO 3 d) λr=>gF n (bu r) λs=>gF n (akk p s) λt=>gT h (jQ n (.bool true) t) λu=>gT h (dh u) λv=>gF v (gO 3 e) λw=>gF v (bu w) λx=>gF v (gO 4 d) λy=>gF v (bu y) λz=>gF v (akk x z) λA=>gT h (jQ v (.bool true) A) λB=>aO h B (.bool false) λC=>gI C (yO [(I 16,none)]) (yO [(g,none)])
def Jz{x0 x1 W r}(h:G1 aY x0 x1 W=some r):OG 78 #[] [x0,x1] W r:=oM 32 h (by kernel_rfl)
def DJ:di:=λc a b=>aV a λd=>aF 46 λe=>aN 5 d λf=>bT c 105 [f,I 2] λg=>cu g (I 0) λh=>gI h (aX 46 [] λi=>aA 4 e i λj=>yO [(e,some 46),(g,none)]) (az 1 d λi=>aB i λj=>az 3 d λk=>aB k λl=>az 4 d λm=>aB m λn=>aX 46 [(0,b),(1,j),(2,l),(3,n)] λo=>aA 4 e o λp=>yO [(e,some 46),(I 0,none)])
def H6{x0 x1 W r}(h:DJ aY x0 x1 W=some r):OG 79 #[] [x0,x1] W r:=oM 21 h (by kernel_rfl)
def Ca:fx:=λc a=>aV a λb=>aN 5 b λd=>bT c 97 [d] λe=>cu e (I 0) λf=>yO [(f,none)]
def Fg{x0 W r}(h:Ca aY x0 W=some r):OG 96 #[] [x0] W r:=oM 6 h (by kernel_rfl)
def ji:di:=λc a b=>lS a (I 0) λd=>gF d (dh a) λe=>gF d (gO 5 b) λf=>gF d (bu f) λg=>gF d (DK g) λh=>gF d (K5 e h) λi=>aO d (.bool true) i λj=>gI j (yO [(I 4,none)]) (yO [(I 0,none)])
def iT:LW:=λc a b d e f=>gI f (lS b (I 0) λg=>gF g (dh b) λh=>gF g (gO 6 d) λi=>gF g (bu i) λj=>gF g (H3 j) λk=>gF g (K5 h k) λl=>aO g (.bool true) l λm=>gI m (yO [(I 4,none)]) (az 0 e λn=>aB n λo=>bY o (I 3) λp=>gT p (gO 5 e) λr=>gT p (bu r) λs=>gT p (zb1 s (I 1)) λt=>gT p (dh t) λu=>gF u (gO 5 e) λv=>gF u (bu v) λw=>gF u (WD w (I 8)) λx=>gT p (jQ u (.bool true) x) λy=>aO p y (.bool false) λz=>gI z (yO [(I 7,none)]) (yO [(I 0,none)]))) (ji c a d)
def lN:akO:=λc a b d e f g=>gI g (az 1 e λh=>aB h λi=>az 7 e λj=>az 1 j λk=>aB k λl=>gB (Vc i l) λm=>gI m (yO [(I 14,none)]) (ji c a d)) (bY f (I 3) λh=>gI h (iT c a b d e h) (bY f (I 10) λi=>gI i (iT c a b d e i) (bY f (I 11) λj=>iT c a b d e j)))
def lM:GH:=λc a b d e=>az 0 e λf=>aB f λg=>bY g (I 8) λh=>gI h (az 1 e λi=>aB i λj=>gB (afR j (.int .u32 0)) λk=>gI k (yO [(I 14,none)]) (ji c a d)) (bY g (I 6) λi=>gI i (lN c a b d e g i) (bY g (I 7) λj=>lN c a b d e g j))
def lJ:akO:=λc a b d e f g=>gI g (yO [(I 0,none)]) (bY f (I 9) λh=>gI h (lM c a b d e) (az 2 e λi=>aB i λj=>az 4 d λk=>aB k λl=>gB (Yn j l) λm=>gI m (yO [(I 13,none)]) (lM c a b d e)))
def Co:GH:=λc a b d e=>aV a λf=>aV b λg=>az 0 g λh=>aB h λi=>bY i (I 1) λj=>gI j (lJ c d e f g i j) (bY i (I 12) λk=>lJ c d e f g i k)
def FO{x0 x1 x2 x3 W r}(h:Co aY x0 x1 x2 x3 W=some r):OG 99 #[] [x0,x1,x2,x3] W r:=oM 74 h (by kernel_rfl)
def mV:cE:=λc S=>bK (S 17) (S 16) λa=>gI a (bF 1 (S 15) (S 17) λb=>aB b λd=>bT c 123 [d] λe=>bF 1 (S 3) (S 17) λf=>aA 1 f e λg=>bD (S 17) (I 1) λh=>yN (q (q (q (q S 18 [a,S 17,b,d]) 4 [S 17,d]) 22 [S 3,S 17,d,e,f,h]) 17 [h])) (yE 0 (q S 18 [a]))
def xJ:fx:=λc a=>aV a λb=>aF 34 λd=>az 5 b λe=>aB e λf=>bT c 122 [f] λg=>az 5 b λh=>aA 1 h g λi=>az 6 b λj=>aB j λk=>gB (H3 k) λl=>gB (sm 32 l l) λm=>az 6 b λn=>aB n λo=>gB (H3 o) λp=>gL (mV c) (q (q (q (q (cz 0 [a] ai.blank) 1 [b,d]) 6 [e,f,g,h,j,k,l,m]) 3 [m]) 14 [n,o,p,I 0]) λr S=>gX 0 r (az 6 (S 1) λs=>aA 1 s (S 3) λt=>aN 7 (S 1) λu=>aA 7 (S 2) u λv=>yO [(S 2,some 34)]) yZ
def Ia{x0 W r}(h:xJ aY x0 W=some r):OG 100 #[] [x0] W r:=oM 31 h (by kernel_rfl)
def CL:avD:=λc=>aF 172 λa=>aX 172 [(1,wI 124),(2,wI 125),(3,wI 126),(4,wI 127),(5,wI 128),(6,wI 129),(7,wI 130),(8,wI 131),(9,wI 132),(10,wI 133),(11,wI 134),(12,wI 135)] λb=>aA 13 a b λd=>yO [(a,some 172)]
def L1{W r}(h:CL aY W=some r):OG 101 #[] [] W r:=oM 2 h (by kernel_rfl)
def pW:LW:=λc a b d e f=>cu f (I 0) λg=>gI g (yO [(.slice none 0 0,none),(f,none)]) (aN 4 e λh=>bT c 138 [h,a,b,d] λi=>yO [(i,none),(I 0,none)])
def Ch:GH:=λc a b d e=>aV a λf=>aN 4 f λg=>bT c 137 [g,b,d] λh=>lT h (I 0) λi=>gT i (dh e) λj=>gT i (zb1 j (I 1)) λk=>gT i (dh k) λl=>gF l (dh e) λm=>gF l (WD m (I 8)) λn=>gT i (jQ l (.bool true) n) λo=>aO i o (.bool false) λp=>gI p (pW c b d e f (I 7)) (pW c b d e f h)
def Fc{x0 x1 x2 x3 W r}(h:Ch aY x0 x1 x2 x3 W=some r):OG 108 #[] [x0,x1,x2,x3] W r:=oM 33 h (by kernel_rfl)
def vC:cE:=λc S=>gJ (S 9) λa=>bK (S 12) a λb=>let T:=q S 19 [S 12,S 9,a,b];gI b (aN 4 (S 4) λd=>bF 1 (S 9) (S 12) λe=>aB e λf=>bT c 140 [S 1,f,S 3] λg=>gA (λW=>jP true (dF 4 (S 4) W) d&&true) (bT c 139 [d,g,S 2] λh=>lS (S 10) (I 0) λi=>gF i (dh h) λj=>gF i (dh (S 11)) λk=>gF i (MI j k) λl=>aO i (.bool true) l λm=>let U:=q (q (q (q (q (q T 25 [d,S 1,S 9,S 12,e,f,S 3]) 33 [S 2]) 32 [g]) 34 [h]) 13 [h]) 35 [S 10,i,i,j,k,l,m];gI m (bF 1 (S 9) (S 12) λn=>aB n λo=>bD (S 12) (I 1) λp=>yN (q (q (q (q U 42 [S 9,S 12,n,o,h]) 10 [o,h]) 23 [S 12,p]) 12 [p])) (bD (S 12) (I 1) λn=>yN (q (q U 23 [S 12,n]) 12 [n])))) (yE 0 T)
def Jk:GH:=λc a b d e=>aV a λf=>aN 4 f λg=>bT c 138 [g,b,d,e] λh=>gL (vC c) (q (q (q (q (cz 0 [a,b,d,e] ai.blank) 4 [f]) 8 [I 0]) 14 [g,b,d,e,h]) 9 [h,I (-1),I 0,I 0]) λi S=>gX 0 i (yO [(S 10,none)]) yZ
def Mj{x0 x1 x2 x3 W r}(h:Jk aY x0 x1 x2 x3 W=some r):OG 109 #[] [x0,x1,x2,x3] W r:=oM 48 h (by kernel_rfl)
def mH:fx:=λc a=>gB (apG a (.slice none 0 0)) λb=>gI b (yO [(.slice none 0 0,none)]) (br 88 0 [] λd=>b8 #[88,88] d a λe=>yO [(e,none)])
def rZ{x0 W r}(h:mH aY x0 W=some r):OG 123 #[] [x0] W r:=oM 8 h (by kernel_rfl)
def uv:fx:=λc a=>aF 50 λb=>aD a λd=>az 0 d λe=>az 0 e λf=>az 2 f λg=>aB g λh=>bT c 150 [a,h] λi=>aX 50 [(3,i)] λj=>aA 9 b j λk=>yO [(b,some 50)]
def zE{x0 W r}(h:uv aY x0 W=some r):OG 124 #[] [x0] W r:=oM 12 h (by kernel_rfl)
def uu:fx:=λc a=>aF 50 λb=>aD a λd=>az 0 d λe=>az 0 e λf=>az 1 f λg=>aB g λh=>bT c 150 [a,h] λi=>aD a λj=>az 0 j λk=>az 5 k λl=>aB l λm=>aD a λn=>az 19 n λo=>aB o λp=>bF 5 m p λr=>aN 5 r λs=>aD a λt=>az 7 t λu=>az 1 u λv=>aB v λw=>bT c 152 [s,w,i] λx=>ap x 0 λy=>ap x 1 λz=>bT c 151 [a,y,z] λA=>cu A (I 0) λB=>gI B (aX 50 [(0,A)] λC=>aA 9 b C λD=>yO [(b,some 50)]) (aX 50 [(3,i)] λC=>aA 9 b C λD=>yO [(b,some 50)])
def zX{x0 W r}(h:uu aY x0 W=some r):OG 125 #[] [x0] W r:=oM 41 h (by kernel_rfl)
def gP:cE:=λc S=>bK (S 23) (S 22) λa=>gI a (bF 5 (S 21) (S 23) λb=>aN 5 b λd=>aF 87 λe=>aA 5 e d λf=>az 0 e λg=>aB g λh=>bY h (I 0) λi=>bF 1 (S 3) (S 23) λj=>aA 1 j i λk=>bD (S 23) (I 1) λl=>yN (q (q (q (q (q S 24 [a,S 23,b,d]) 5 [e]) 4 [S 23]) 28 [S 3,S 23,g,h,i,j,l]) 23 [l])) (yE 0 (q S 24 [a]))
def gQ:cE:=λc S=>bK (S 72) (S 71) λa=>gI a (aD (S 0) λb=>az 0 b λd=>az 5 d λe=>aB e λf=>dN (S 6) (S 72) λg=>aD (S 0) λh=>az 0 h λi=>az 5 i λj=>aB j λk=>dN (S 6) (S 72) λl=>bF 5 k l λm=>aN 5 m λn=>aD (S 0) λo=>az 7 o λp=>az 1 p λr=>aB r λs=>bT c 152 [n,s,S 8] λt=>gA (λW=>jP true (bu e W) f&&true) (ap t 0 λu=>ap t 1 λv=>bF 5 f g λw=>aA 5 w u λx=>bD (S 72) (I 1) λy=>yN (q (q (q (q (q (q S 73 [a,S 72]) 9 [S 72]) 76 [S 0,b,d,e,f,S 6,S 72,g,S 0,h,i,j,k,S 6,S 72,l,m,n,S 0,o,p,r,s,S 8,t]) 75 [t]) 101 [u,v,w,y]) 72 [y]))) (yE 2 (q S 73 [a]))
def tD:fx:=λc a=>aF 50 λb=>aD a λd=>az 0 d λe=>az 5 e λf=>aB f λg=>gB (DK g) λh=>gB (sm 135 h h) λi=>aD a λj=>az 0 j λk=>az 5 k λl=>aB l λm=>gB (DK m) λn=>gL (gP c) (q (q (q (q (cz 0 [a] ai.blank) 2 [b]) 10 [a,d,e,f,g,h,i]) 3 [i]) 17 [a,j,k,l,m,n,I 0]) λo S=>gX 0 o (aD (S 0) λp=>az 0 p λr=>az 0 r λs=>aN 4 s λt=>aD (S 0) λu=>az 7 u λv=>az 4 v λw=>aB w λx=>aD (S 0) λy=>az 7 y λz=>az 5 z λA=>aB A λB=>bT c 153 [t,S 3,x,B] λC=>ap C 0 λD=>ap C 1 λE=>cu E (I 0) λF=>gI F (aX 50 [(0,E)] λG=>aA 9 (S 2) G λH=>yO [(S 2,some 50)]) (aD (S 0) λG=>az 0 G λH=>az 0 H λJ=>az 1 J λK=>aB K λL=>bT c 150 [S 0,L] λM=>aD (S 0) λN=>az 7 N λO=>az 5 O λP=>aB P λQ=>gL (gQ c) (q (q (q (q (q (q (q (q S 36 [S 0,p,r,s,t,S 3,S 0,u,v,w,x,S 0,y,z,A,B,C]) 35 [C]) 53 [D,E]) 6 [D,E]) 55 [E,F]) 59 [S 0,S 0,G,H,J,K,L,M]) 8 [M]) 67 [S 0,N,O,P,Q,I 0]) λa0 T=>gX 2 a0 (aD (T 0) λb0=>az 7 b0 λd0=>az 5 d0 λe0=>aB e0 λf0=>aX 50 [(1,T 6),(2,f0),(3,T 8)] λg0=>aA 9 (T 2) g0 λh0=>yO [(T 2,some 50)]) yZ)) yZ
def yC{x0 W r}(h:tD aY x0 W=some r):OG 126 #[] [x0] W r:=oM 113 h (by kernel_rfl)
def qF:fx:=λc a=>aF 50 λb=>aD a λd=>az 0 d λe=>az 5 e λf=>aB f λg=>aD a λh=>az 19 h λi=>aB i λj=>bF 5 g j λk=>aN 5 k λl=>aD a λm=>az 7 m λn=>az 1 n λo=>aB o λp=>bT c 155 [l,p] λr=>ap r 0 λs=>ap r 1 λt=>bT c 154 [a,s,t] λu=>aA 9 b u λv=>yO [(b,some 50)]
def wK{x0 W r}(h:qF aY x0 W=some r):OG 127 #[] [x0] W r:=oM 24 h (by kernel_rfl)
def wA:fx:=λc a=>aF 50 λb=>aD a λd=>az 0 d λe=>az 5 e λf=>aB f λg=>aD a λh=>az 19 h λi=>aB i λj=>bF 5 g j λk=>aN 5 k λl=>aD a λm=>az 7 m λn=>az 1 n λo=>aB o λp=>bT c 157 [l,p] λr=>ap r 0 λs=>ap r 1 λt=>bT c 156 [a,s,t] λu=>aA 9 b u λv=>yO [(b,some 50)]
def BV{x0 W r}(h:wA aY x0 W=some r):OG 128 #[] [x0] W r:=oM 24 h (by kernel_rfl)
def pz:fx:=λc a=>aF 50 λb=>aD a λd=>az 0 d λe=>az 5 e λf=>aB f λg=>aD a λh=>az 19 h λi=>aB i λj=>bF 5 g j λk=>aN 5 k λl=>aD a λm=>az 7 m λn=>az 7 n λo=>aN 4 o λp=>aD a λr=>az 7 r λs=>az 6 s λt=>aB t λu=>bT c 158 [l,p,u] λv=>ap v 0 λw=>ap v 1 λx=>bT c 156 [a,w,x] λy=>aA 9 b y λz=>yO [(b,some 50)]
def vJ{x0 W r}(h:pz aY x0 W=some r):OG 129 #[] [x0] W r:=oM 29 h (by kernel_rfl)
def rL:fx:=λc a=>aF 50 λb=>aD a λd=>az 0 d λe=>az 5 e λf=>aB f λg=>aD a λh=>az 19 h λi=>aB i λj=>bF 5 g j λk=>aN 5 k λl=>aD a λm=>az 7 m λn=>az 7 n λo=>aN 4 o λp=>bT c 159 [l,p] λr=>ap r 0 λs=>ap r 1 λt=>bT c 154 [a,s,t] λu=>aA 9 b u λv=>yO [(b,some 50)]
def xI{x0 W r}(h:rL aY x0 W=some r):OG 130 #[] [x0] W r:=oM 24 h (by kernel_rfl)
def rI:fx:=λc a=>aF 50 λb=>aD a λd=>az 0 d λe=>az 5 e λf=>aB f λg=>aD a λh=>az 19 h λi=>aB i λj=>bF 5 g j λk=>aN 5 k λl=>bT c 160 [l] λm=>ap m 0 λn=>ap m 1 λo=>bT c 154 [a,n,o] λp=>aA 9 b p λr=>yO [(b,some 50)]
def xd{x0 W r}(h:rI aY x0 W=some r):OG 131 #[] [x0] W r:=oM 19 h (by kernel_rfl)
def py:fx:=λc a=>aF 50 λb=>aD a λd=>az 0 d λe=>az 5 e λf=>aB f λg=>aD a λh=>az 19 h λi=>aB i λj=>bF 5 g j λk=>aN 5 k λl=>aD a λm=>az 7 m λn=>az 7 n λo=>aN 4 o λp=>bT c 161 [l,p] λr=>aX 50 [(0,r)] λs=>aA 9 b s λt=>yO [(b,some 50)]
def vd{x0 W r}(h:py aY x0 W=some r):OG 132 #[] [x0] W r:=oM 21 h (by kernel_rfl)
def fS:fx:=λc a=>aF 50 λb=>aD a λd=>az 0 d λe=>az 6 e λf=>aB f λg=>aD a λh=>az 7 h λi=>az 4 i λj=>aB j λk=>bF 1 g k λl=>aD l λm=>aB m λn=>me n λo=>aD a λp=>az 0 p λr=>az 0 r λs=>az 3 s λt=>aB t λu=>aD a λv=>az 7 v λw=>az 4 w λx=>aB x λy=>bF 3 u y λz=>az 2 z λA=>aB A λB=>gB (K5 o B) λC=>gI C (aX 50 [(0,I 5)] λD=>aA 9 b D λE=>yO [(b,some 50)]) (aD l λD=>aB D λE=>aD a λF=>az 7 F λG=>az 1 G λH=>aB H λJ=>bT c 162 [E,J] λK=>gI K (aX 50 [(0,I 8)] λL=>aA 9 b L λM=>yO [(b,some 50)]) (aD l λL=>aB L λM=>aD a λN=>az 7 N λO=>az 1 O λP=>aB P λQ=>br 88 1 [(0,Q)] λa0=>b8 #[88,88] M a0 λb0=>aD l λd0=>aA 1 d0 b0 λe0=>aD l λf0=>aB f0 λg0=>me g0 λh0=>aX 50 [(5,h0)] λi0=>aA 9 b i0 λj0=>yO [(b,some 50)]))
def qu{x0 W r}(h:fS aY x0 W=some r):OG 133 #[] [x0] W r:=oM 64 h (by kernel_rfl)
def nv:fx:=λc a=>aF 50 λb=>aD a λd=>az 0 d λe=>az 6 e λf=>aB f λg=>aD a λh=>az 7 h λi=>az 4 i λj=>aB j λk=>bF 1 g k λl=>aD l λm=>aB m λn=>aD a λo=>az 7 o λp=>az 1 p λr=>aB r λs=>bT c 163 [n,s] λt=>lS t (I 0) λu=>gI u (aX 50 [(0,I 4)] λv=>aA 9 b v λw=>yO [(b,some 50)]) (aD l λv=>aB v λw=>bD t (I 1) λx=>bT c 164 [w,t,x] λy=>aD l λz=>aA 1 z y λA=>aX 50 [] λB=>aA 9 b B λC=>yO [(b,some 50)])
def pE{x0 W r}(h:nv aY x0 W=some r):OG 134 #[] [x0] W r:=oM 38 h (by kernel_rfl)
def iy:cE:=λc S=>bK (S 37) (S 36) λa=>gI a (bF 5 (S 35) (S 37) λb=>aN 5 b λd=>aF 87 λe=>aA 5 e d λf=>az 2 e λg=>aB g λh=>aB (S 1) λi=>aD i λj=>az 0 j λk=>az 4 k λl=>aB l λm=>bT c 165 [h,m] λn=>ap n 0 λo=>ap n 1 λp=>gT o (gO 0 e) λr=>gT o (bu r) λs=>gT o (zb7 s (I 1)) λt=>aO o t (.bool false) λu=>let T:=q (q (q (q (q (q (q (q S 38 [a,S 37,b,d]) 5 [e]) 4 [S 37]) 43 [g,h,i,j,k,l,m,n]) 42 [n]) 51 [o,p]) 6 [o,p]) 53 [o,o,r,s,t,u];gI u (br 28 1 [(0,S 37)] λv=>b8 #[28,28] (S 3) v λw=>bD (S 37) (I 1) λx=>yN (q (q (q (q T 59 [S 3,S 37,v,w]) 3 [w]) 63 [x]) 37 [x])) (bD (S 37) (I 1) λv=>yN (q (q T 63 [v]) 37 [v]))) (yE 0 (q S 38 [a]))
def fQ:cE:=λc S=>bK (S 69) (S 68) λa=>gI a (bF 1 (S 67) (S 69) λb=>aB b λd=>aB (S 1) λe=>aD e λf=>az 0 f λg=>az 5 g λh=>aB h λi=>aB (S 1) λj=>aD j λk=>az 0 k λl=>az 5 l λm=>aB m λn=>bF 5 n d λo=>aN 5 o λp=>aB (S 1) λr=>aD r λs=>az 0 s λt=>az 4 t λu=>aB u λv=>bT c 169 [p,v] λw=>gA (λW=>jP true (bu h W) i&&(jP true (bu (S 1) W) e&&true)) (ap w 0 λx=>ap w 1 λy=>bF 5 i d λz=>aA 5 z x λA=>aB (S 1) λB=>bT c 170 [B,d] λC=>bD (S 69) (I 1) λD=>yN (q (q (q (q (q (q S 70 [a,b,d]) 9 [d]) 74 [e,f,g,h,i,d,j,k,l,m,n,d,o,p,r,s,t,u,v,w]) 73 [w]) 94 [x,y,z,B,d,C,D]) 69 [D]))) (yE 2 (q S 70 [a]))
def iz:fx:=λc a=>aV a λb=>aF 50 λd=>aB b λe=>aD e λf=>az 7 f λg=>az 11 g λh=>aB h λi=>aB b λj=>aD j λk=>az 0 k λl=>az 4 l λm=>aB m λn=>gB (YM i n) λo=>gI o (aX 50 [(0,I 18)] λp=>aA 9 d p λr=>yO [(d,some 50)]) (aB b λp=>aB b λr=>aD r λs=>az 7 s λt=>az 11 t λu=>aB u λv=>aD p λw=>az 0 w λx=>az 4 x λy=>aA 1 y v λz=>aB b λA=>aD A λB=>az 0 B λC=>az 5 C λD=>aB D λE=>gB (DK E) λF=>gL (iy c) (q (q (q (q (q (cz 0 [a] ai.blank) 1 [b,d]) 10 [e,f,g,h,i,j,k,l,m,n,o]) 22 [p,r,s,t,u,v,w,x,y]) 3 [.slice none 0 0]) 31 [A,B,C,D,E,F,I 0]) λG S=>gX 0 G (gB (ut (.func 167) #[] #[S 1]) λH=>bT c 166 [S 3,H] λJ=>gJ (S 3) λK=>gL (fQ c) (q S 64 [S 3,H,J,S 3,K,I 0]) λL T=>gX 2 L (aX 50 [] λM=>aA 9 (T 2) M λN=>yO [(T 2,some 50)]) yZ) yZ)
def qG{x0 W r}(h:iz aY x0 W=some r):OG 135 #[] [x0] W r:=oM 102 h (by kernel_rfl)
def sM:pk:=λc a b d=>lT d (I 0) λe=>gT e (dh a) λf=>gT e (zb1 f (I 0)) λg=>gT e (dh g) λh=>gF h (dh a) λi=>gF h (gO 3 b) λj=>gF h (bu j) λk=>gF h (LN k) λl=>gF h (K5 i l) λm=>gT e (jQ h (.bool true) m) λn=>aO e n (.bool false) λo=>gI o (yO [(I 4,none)]) (yO [(d,none)])
def HG:pk:=λc a b d=>aV a λe=>aN 4 e λf=>bT c 30 [f] λg=>ap g 0 λh=>ap g 1 λi=>lT i (I 0) λj=>gT j (dh b) λk=>gT j (alV k) λl=>gT j (dh h) λm=>gT j (JB l m) λn=>aO j n (.bool false) λo=>gI o (sM c d e (I 6)) (sM c d e i)
def Jw{x0 x1 x2 W r}(h:HG aY x0 x1 x2 W=some r):OG 137 #[] [x0,x1,x2] W r:=oM 36 h (by kernel_rfl)
def mq:cE:=λc S=>dN (S 12) (S 3) λa=>bF 3 (S 9) (S 11) λb=>az 2 b λd=>aB d λe=>gB (acU a e) λf=>let T:=q S 23 [S 12,S 3,a,S 9,S 11,b,d,e,f];gI f (bF 3 (S 9) (S 11) λg=>az 1 g λh=>aB h λi=>dN i (S 12) λj=>br 28 1 [(0,j)] λk=>b8 #[28,28] (S 10) k λl=>bD (S 12) (I 1) λm=>yN (q (q (q (q T 34 [S 10,S 9,S 11,g,h,i,S 12,j,k,l]) 10 [l]) 32 [S 12,m]) 12 [m])) (yE 2 T)
def pX:cE:=λc S=>gB (abf (S 9)) λa=>bK (S 11) a λb=>let T:=q S 17 [S 11,S 9,a,b];gI b (gL (mq c) (q T 12 [I 0]) λd U=>gX 2 d (bD (U 11) (I 1) λe=>yN (q (q U 21 [U 11,e]) 11 [e])) yZ) (yE 0 T)
def Ce:GH:=λc a b d e=>aV a λf=>aN 4 f λg=>bT c 171 [g,b,d] λh=>gL (pX c) (q (q (q (q (cz 0 [a,b,d,e] ai.blank) 4 [f]) 8 [.slice none 0 0]) 13 [g,b,d,h]) 9 [h,.slice none 0 0,I 0]) λi S=>gX 0 i (yO [(S 10,none)]) yZ
def GD{x0 x1 x2 x3 W r}(h:Ce aY x0 x1 x2 x3 W=some r):OG 138 #[] [x0,x1,x2,x3] W r:=oM 45 h (by kernel_rfl)
def tx:cE:=λc S=>gB (abf (S 7)) λa=>bK (S 9) a λb=>let T:=q S 14 [S 9,S 7,a,b];gI b (bF 3 (S 7) (S 9) λd=>az 2 d λe=>aB e λf=>bY f (I 1) λg=>let U:=q T 20 [S 7,S 9,d,e,f,g];gI g (bD (S 8) (I 1) λh=>bD (S 9) (I 1) λi=>yN (q (q (q (q U 26 [S 8,h]) 8 [h]) 18 [S 9,i]) 9 [i])) (bD (S 9) (I 1) λh=>yN (q (q U 18 [S 9,h]) 9 [h]))) (yE 0 T)
def GM:pk:=λc a b d=>aV a λe=>aN 4 e λf=>bT c 171 [f,b,d] λg=>gL (tx c) (q (q (q (q (cz 0 [a,b,d] ai.blank) 3 [e]) 6 [I 0]) 10 [f,b,d,g]) 7 [g,I 0,I 0]) λh S=>gX 0 h (yO [(S 8,none)]) yZ
def KU{x0 x1 x2 W r}(h:GM aY x0 x1 x2 W=some r):OG 139 #[] [x0,x1,x2] W r:=oM 29 h (by kernel_rfl)
def pM:cE:=λc S=>dN (S 1) (S 2) λa=>bK (S 8) a λb=>let T:=q S 13 [S 8,S 1,S 2,a,b];gI b (bF 1 (S 7) (S 8) λd=>aA 1 d (.bool false) λe=>bD (S 8) (I 1) λf=>yN (q (q (q T 20 [S 7,S 8,d]) 18 [S 8,f]) 8 [f])) (yE 0 T)
def Cq:pk:=λc a b d=>br 135 0 [] λe=>b8 #[135,135] e a λf=>gL (pM c) (q (q (q (q (q (cz 0 [a,b,d] ai.blank) 6 [.slice none 0 0]) 9 [e,a,f]) 7 [f]) 12 [b]) 8 [b]) λg S=>gX 0 g (yO [(S 7,none)]) yZ
def Gx{x0 x1 x2 W r}(h:Cq aY x0 x1 x2 W=some r):OG 140 #[] [x0,x1,x2] W r:=oM 24 h (by kernel_rfl)
def tH:di:=λc a b=>aD a λd=>az 0 d λe=>az 4 e λf=>aB f λg=>bT c 185 [g,b] λh=>ap h 0 λi=>ap h 1 λj=>yO [(i,none)]
def yG{x0 x1 W r}(h:tH aY x0 x1 W=some r):OG 150 #[] [x0,x1] W r:=oM 18 h (by kernel_rfl)
def mw:pk:=λc a b d=>aV b λe=>lT d (I 0) λf=>gI f (aD a λg=>az 0 g λh=>az 5 h λi=>aB i λj=>aD a λk=>az 19 k λl=>aB l λm=>aN 5 e λn=>bF 5 j m λo=>aA 5 o n λp=>yO [(d,none)]) (yO [(d,none)])
def xD{x0 x1 x2 W r}(h:mw aY x0 x1 x2 W=some r):OG 151 #[] [x0,x1,x2] W r:=oM 21 h (by kernel_rfl)
def Kr:pk:=λc a b d=>aV a λe=>aF 87 λf=>aN 5 e λg=>aN 5 e λh=>bT c 187 [g,d] λi=>gA (λW=>jP true (dF 5 e W) h&&true) (bT c 188 [h,I 0] λj=>br 251 2 [(0,i),(1,j)] λk=>bT c 186 [k] λl=>cu l (I 0) λm=>gI m (aN 5 e λn=>aA 5 f n λo=>yO [(f,some 87),(l,none)]) (az 0 e λn=>aA 1 n (I 1) λo=>az 1 e λp=>aA 1 p b λr=>az 2 e λs=>aA 1 s d λt=>aN 5 e λu=>aA 5 f u λv=>yO [(f,some 87),(I 0,none)]))
def LX{x0 x1 x2 W r}(h:Kr aY x0 x1 x2 W=some r):OG 152 #[] [x0,x1,x2] W r:=oM 26 h (by kernel_rfl)
def Cf:GH:=λc a b d e=>aV a λf=>aN 4 f λg=>bT c 189 [g,b,d] λh=>cu h (I 0) λi=>gI i (yO [(I 0,none),(h,none)]) (bT c 190 [e] λj=>dL .not j λk=>gI k (yO [(I 0,none),(I 7,none)]) (aN 4 f λl=>bT c 192 [l,b,d] λm=>bT c 191 [m,e] λn=>ap n 0 λo=>ap n 1 λp=>aF 240 λr=>aA 5 r o λs=>dL .not p λt=>gI t (yO [(I 0,none),(I 15,none)]) (az 0 r λu=>az 1 u λv=>aB v λw=>az 3 r λx=>aB x λy=>dN w y λz=>yO [(z,none),(I 0,none)])))
def FB{x0 x1 x2 x3 W r}(h:Cf aY x0 x1 x2 x3 W=some r):OG 153 #[] [x0,x1,x2,x3] W r:=oM 40 h (by kernel_rfl)
def nA:pk:=λc a b d=>aV b λe=>aF 50 λf=>aN 5 e λg=>bT c 151 [a,g,d] λh=>lT h (I 0) λi=>gI i (aD a λj=>az 19 j λk=>aB k λl=>bT c 170 [a,l] λm=>aX 50 [(0,h)] λn=>aA 9 f n λo=>yO [(f,some 50)]) (aX 50 [(0,h)] λj=>aA 9 f j λk=>yO [(f,some 50)])
def yw{x0 x1 x2 W r}(h:nA aY x0 x1 x2 W=some r):OG 154 #[] [x0,x1,x2] W r:=oM 21 h (by kernel_rfl)
def oR:pk:=λc a b d=>aV b λe=>aF 50 λf=>aN 5 e λg=>bT c 151 [a,g,d] λh=>cu h (I 0) λi=>gI i (aX 50 [(0,h)] λj=>aA 9 f j λk=>yO [(f,some 50)]) (aN 5 e λj=>aD a λk=>az 19 k λl=>aB l λm=>fu 3 43 m λn=>aF 46 λo=>bT c 195 [j,n] λp=>ap p 0 λr=>ap p 1 λs=>aA 4 o r λt=>aN 4 o λu=>aX 50 [(4,u)] λv=>aA 9 f v λw=>yO [(f,some 50)])
def Ac{x0 x1 x2 W r}(h:oR aY x0 x1 x2 W=some r):OG 156 #[] [x0,x1,x2] W r:=oM 29 h (by kernel_rfl)
def AF:pk:=λc a b d=>aV a λe=>aV b λf=>aF 87 λg=>aN 5 e λh=>aN 4 f λi=>bT c 161 [h,i] λj=>cu j (I 0) λk=>gI k (aN 5 e λl=>aA 5 g l λm=>yO [(g,some 87),(j,none)]) (aN 5 e λl=>bT c 196 [l,d] λm=>ap m 0 λn=>ap m 1 λo=>aA 5 g n λp=>yO [(g,some 87),(o,none)])
def Ex{x0 x1 x2 W r}(h:AF aY x0 x1 x2 W=some r):OG 158 #[] [x0,x1,x2] W r:=oM 21 h (by kernel_rfl)
def DV:di:=λc a b=>aV a λd=>aV b λe=>aF 87 λf=>aN 5 d λg=>aN 4 e λh=>bT c 161 [g,h] λi=>cu i (I 0) λj=>gI j (aN 5 d λk=>aA 5 f k λl=>yO [(f,some 87),(i,none)]) (aN 5 d λk=>bT c 194 [k] λl=>aA 5 f l λm=>yO [(f,some 87),(I 0,none)])
def HR{x0 x1 W r}(h:DV aY x0 x1 W=some r):OG 159 #[] [x0,x1] W r:=oM 16 h (by kernel_rfl)
def DW:fx:=λc a=>aV a λb=>aF 87 λd=>aN 5 b λe=>bT c 188 [e,I 2] λf=>cu f (I 0) λg=>gI g (aN 5 b λh=>aA 5 d h λi=>yO [(d,some 87),(f,none)]) (az 4 b λh=>aB h λi=>gB (U6 i (.int .u64 18446744073709551615)) λj=>gI j (aN 5 b λk=>aA 5 d k λl=>yO [(d,some 87),(I 17,none)]) (az 4 b λk=>aB k λl=>gB (VN l (.int .u64 1)) λm=>az 4 b λn=>aA 1 n m λo=>aN 5 b λp=>bT c 194 [p] λr=>aA 5 d r λs=>yO [(d,some 87),(I 0,none)]))
def Ip{x0 W r}(h:DW aY x0 W=some r):OG 160 #[] [x0] W r:=oM 21 h (by kernel_rfl)
def HL:di:=λc a b=>aV a λd=>aV b λe=>aN 5 d λf=>az 0 e λg=>aB g λh=>bT c 195 [f,h] λi=>ap i 0 λj=>ap i 1 λk=>aF 46 λl=>aA 4 l j λm=>cu k (I 0) λn=>gI n (yO [(k,none)]) (aN 4 l λo=>aN 4 e λp=>gB (anF o p) λr=>gI r (yO [(I 16,none)]) (yO [(I 0,none)]))
def LB{x0 x1 W r}(h:HL aY x0 x1 W=some r):OG 161 #[] [x0,x1] W r:=oM 22 h (by kernel_rfl)
def kD:di:=λc a b=>bT c 163 [a,b] λd=>gB (Gf d (I 0)) λe=>yO [(e,none)]
def pS{x0 x1 W r}(h:kD aY x0 x1 W=some r):OG 162 #[] [x0,x1] W r:=oM 9 h (by kernel_rfl)
def gw:cE:=λc S=>bK (S 8) (S 7) λa=>gI a (bF 1 (S 0) (S 8) λb=>aB b λd=>gB (ams (S 1) d) λe=>let T:=q (q (q S 9 [a,S 8]) 5 [S 8]) 11 [S 1,S 0,S 8,b,d,e];gI e (yR (q (q T 17 [S 8]) 4 [S 8])) (bD (S 8) (I 1) λf=>yN (q (q T 18 [f]) 8 [f]))) (yE 0 (q S 9 [a]))
def mM:di:=λc a b=>me a λd=>gL (gw c) (q (q (cz 0 [a,b] ai.blank) 4 [I 0]) 6 [a,d,I 0]) λe S=>gX 0 e (yO [(I (-1),none)]) (gR e (yO [(S 4,none)]))
def rR{x0 x1 W r}(h:mM aY x0 x1 W=some r):OG 163 #[] [x0,x1] W r:=oM 19 h (by kernel_rfl)
def rK:pk:=λc a b d=>aB d λe=>aD e λf=>az 0 f λg=>az 5 g λh=>aB h λi=>bF 5 i a λj=>az 2 j λk=>aB k λl=>aB d λm=>aD m λn=>az 0 n λo=>az 5 o λp=>aB p λr=>bF 5 r b λs=>az 2 s λt=>aB t λu=>bT c 168 [l,u] λv=>yO [(v,none)]
def xe{x0 x1 x2 W r}(h:rK aY x0 x1 x2 W=some r):OG 167 #[x2] [x0,x1] W r:=oM 25 h (by kernel_rfl)
def nf:di:=λc a b=>aD a λd=>az 0 d λe=>az 0 e λf=>aN 4 f λg=>bT c 200 [g,b] λh=>ap h 0 λi=>ap h 1 λj=>aF 177 λk=>aA 3 k i λl=>aD a λm=>az 0 m λn=>az 6 n λo=>aB o λp=>az 0 k λr=>aB r λs=>bF 1 p s λt=>aB t λu=>me u λv=>qz v (I 0) λw=>gI w (aD a λx=>az 0 x λy=>az 5 y λz=>aB z λA=>aD a λB=>az 0 B λC=>az 5 C λD=>aB D λE=>bF 5 E b λF=>aN 5 F λG=>bF 1 u (I 0) λH=>aB H λJ=>aD a λK=>az 0 K λL=>az 0 L λM=>az 1 M λN=>aB N λO=>bT c 150 [a,O] λP=>gA (λW=>jP true (bu H W) J&&(jP true (dF 5 F W) G&&(jP true (bu D W) E&&(jP true (bu z W) A&&true)))) (bT c 152 [G,J,P] λQ=>gA (λW=>jP true (bu z W) A&&true) (ap Q 0 λa0=>ap Q 1 λb0=>bF 5 A b λd0=>aA 5 d0 a0 λe0=>aD a λf0=>az 0 f0 λg0=>az 6 g0 λh0=>aB h0 λi0=>az 0 k λj0=>aB j0 λk0=>gB (oe 88 u (some (I 1)) none none) λl0=>bF 1 i0 k0 λm0=>aA 1 m0 l0 λn0=>yO []))) (yO [])
def yP{x0 x1 W r}(h:nf aY x0 x1 W=some r):OG 170 #[] [x0,x1] W r:=oM 69 h (by kernel_rfl)
def iQ:atI:=λc S a b=>gB (abf a) λd=>jk d (I 1) λe=>bF 3 a e λf=>az 2 f λg=>aB g λh=>bD h (I 1) λi=>bF 3 a e λj=>az 2 j λk=>aA 1 k i λl=>bD b (I 1) λm=>yN (q (q (q S 54 [a,a,d,e,f,g,h,i,j,k]) 39 [b,m]) 13 [m])
def lE:cE:=λc S=>dN (S 9) (S 10) λa=>bK (S 13) a λb=>let T:=q S 34 [S 13,S 9,S 10,a,b];gI b (bF 1 (S 1) (S 13) λd=>aB d λe=>dL .not e λf=>let U:=q T 41 [S 1,S 13,d,e,f];gI f (bD (S 13) (I 1) λg=>yN (q (q (q U 12 [.bool false]) 39 [S 13,g]) 13 [g])) (dL .not (S 12) λg=>gI g (aX 222 [(0,S 8),(1,S 13)] λh=>br 219 1 [(0,h)] λi=>b8 #[219,219] (S 7) i λj=>iQ c (q (q (q U 46 [S 12,g,S 7,S 8,S 13,h,i,j]) 7 [j]) 12 [.bool true]) j (S 13)) (iQ c (q U 46 [S 12,g]) (S 7) (S 13)))) (yE 2 T)
def vH:cE:=λc S=>az 3 (S 3) λa=>aB a λb=>bF 3 b (S 2) λd=>az 1 d λe=>aB e λf=>gJ f λg=>bK (S 8) g λh=>let T:=q S 14 [S 8,a,b,S 2,d,e,f,g,h];gI h (aN 4 (S 3) λi=>bT c 201 [i,S 2,S 8] λj=>ap j 0 λk=>ap j 1 λl=>ap j 2 λm=>gL (lE c) (q (q (q (q (q (q T 26 [i,S 2,S 8,j]) 25 [j]) 30 [k,l,m]) 9 [k,l,m,.bool false]) 33 [k]) 13 [k]) λn U=>gX 2 n (bD (U 8) (I 1) λo=>yN (q (q U 23 [U 8,o]) 8 [o])) yZ) (yE 0 T)
def Kh:pk:=λc a b d=>aV a λe=>gL (vH c) (q (q (cz 0 [a,b,d] ai.blank) 3 [e]) 6 [.slice none 0 0,.slice none 0 0,I 0]) λf S=>gX 0 f (yO [(S 7,none)]) yZ
def L7{x0 x1 x2 W r}(h:Kh aY x0 x1 x2 W=some r):OG 171 #[] [x0,x1,x2] W r:=oM 65 h (by kernel_rfl)
def MT:di:=λc a b=>br 150 2 [(0,a),(1,b)] λd=>bT c 197 [d] λe=>gI e (yO [(I 0,none),(I 7,none)]) (fu 2 44 a λf=>fu 2 44 b λg=>gB (aok f g) λh=>gB (ao8 h (.int .u64 63)) λi=>gB (U6 i (.int .u64 0)) λj=>gI j (fu 44 2 h λk=>yO [(k,none),(I 0,none)]) (yO [(I 9223372036854775807,none),(I 0,none)]))
def Ps{x0 x1 W r}(h:MT aY x0 x1 W=some r):OG 185 #[] [x0,x1] W r:=oM 21 h (by kernel_rfl)
def AC:pk:=λc a b d=>aV a λe=>aN 4 e λf=>bT c 55 [f] λg=>ap g 0 λh=>ap g 1 λi=>cu i (I 0) λj=>gI j (yO [(i,none)]) (gB (alV b) λk=>gB (JB k h) λl=>gI l (yO [(I 6,none)]) (lS d (I 0) λm=>gF m (dh d) λn=>gF m (gO 3 e) λo=>gF m (bu o) λp=>gF m (LN p) λr=>gF m (K5 n r) λs=>aO m (.bool true) s λt=>gI t (yO [(I 4,none)]) (yO [(I 0,none)])))
def D4{x0 x1 x2 W r}(h:AC aY x0 x1 x2 W=some r):OG 189 #[] [x0,x1,x2] W r:=oM 33 h (by kernel_rfl)
def zL:fx:=λc a=>gB (Gf a (I 1)) λb=>gT b (dh a) λd=>gT b (zb5 d (I 8)) λe=>aO b e (.bool false) λf=>yO [(f,none)]
def Dn{x0 W r}(h:zL aY x0 W=some r):OG 190 #[] [x0] W r:=oM 9 h (by kernel_rfl)
def uX:cE:=λc S=>aF 240 λa=>aA 5 a (S 11) λb=>yN (q S 7 [a])
def y8(call:Eng.Callee)(R:Nat->ad)(W:AW):fW Tryz.prog call false 26 (BP [1,1,0,1,0,0] (Fw 191)) LT R W np=uX call R W:=by kernel_rfl
def oP:cE:=λc S=>aB (S 5) λa=>dL .not a λb=>gF b (bu (S 6)) λd=>gF b (dF 5 (S 7)) λe=>gF b (bu (S 6)) λf=>gF b (dF 5 (S 4)) λg=>gF b (c d [e]) λh=>gA (λW=>jP (sW b false) (dF 5 (S 4) W) g&&(jP (sW b false) (bu (S 6) W) f&&true)) (gF b (c f [g]) λi=>gF b (MI h i) λj=>aO b (.bool true) j λk=>let T:=q (q (q (q S 12 [a,b,b,d,e]) 18 [f,g]) 17 [h]) 20 [i,j,k];gI k (aN 5 (S 7) λl=>aA 5 (S 4) l λm=>aA 1 (S 5) (.bool true) λn=>yN (q T 23 [l])) (yN T))
def Af(call:Eng.Callee)(R:Nat->ad)(W:AW):fW Tryz.prog call false 26 (BP [1,1,0,1,0,1] (Fw 191)) LT R W np=oP call R W:=by kernel_rfl
def Ci:di:=λc a b=>aF 240 λd=>aF 4 λe=>aF 252 λf=>aA 1 f (wI 208) λg=>bT c 210 [a,b] λh=>gB (kX c h (.loop .ready none (q (q (cz 0 [a,b] ai.blank) 4 [d,e,f]) 8 [a,b,h]) 26 #[11] (BP [1,1,0,1,0,0] (Fw 191)) (BP [1,1,0,1,0,1] (Fw 191)))) λi=>gM i (aN 5 d λj=>aB e λk=>aA 5 d j λl=>gA (λW=>jP true (bu e W) k&&true) (aA 1 e k λm=>yO [(d,some 240),(e,some 4)])) yZ
def F0{x0 x1 W r}(h:Ci aY x0 x1 W=some r):OG 191 #[] [x0,x1] W r:=oM 26 h (by kernel_rfl)
def gy:atF:=λc S a b d=>bD d (I 1) λe=>aX 222 [(0,a),(1,e)] λf=>aA 3 b f λg=>bD d (I 1) λh=>yN (q (q (q S 67 [a,d,e,f]) 43 [d,h]) 14 [h])
def iR:cE:=λc S=>dN (S 8) (S 12) λa=>gB (acU (S 14) a) λb=>let T:=q S 38 [S 14,S 8,S 12,a,b];gI b (dN (S 8) (S 12) λd=>bK (S 14) d λe=>gT e (dh (S 1)) λf=>gT e (dh (S 14)) λg=>gT e (nY 1 f g) λh=>gT e (bu h) λi=>aO e i (.bool false) λj=>let U:=q T 45 [S 14,S 8,S 12,d,e,e,f,g,h,i,j];gI j (az 2 (S 13) λk=>aB k λl=>bD l (I 1) λm=>az 2 (S 13) λn=>aA 1 n m λo=>bD (S 14) (I 1) λp=>yN (q (q (q U 56 [k,l,m,n]) 43 [S 14,p]) 14 [p])) (az 2 (S 13) λk=>aB k λl=>qz l (I 0) λm=>let V:=q U 60 [k,l,m];gI m (aN 3 (S 13) λn=>br 219 1 [(0,n)] λo=>b8 #[219,219] (S 7) o λp=>gy c (q (q V 63 [S 7,n,o,p]) 7 [p]) (S 11) (S 13) (S 14)) (gy c V (S 11) (S 13) (S 14)))) (yE 2 T)
def pK:cE:=λc S=>bK (S 29) (S 28) λa=>gI a (bF 1 (S 27) (S 29) λb=>aB b λd=>aX 222 [(0,S 29),(1,S 8)] λe=>aF 222 λf=>aA 3 f e λg=>gL (iR c) (q (q (q (q (q (q S 30 [a,S 29,b,d]) 11 [S 29,d]) 34 [S 29,S 8,e]) 13 [f]) 37 [S 8]) 14 [S 8]) λh T=>gX 2 h (dN (T 8) (T 12) λi=>bD (T 29) (I 1) λj=>yN (q (q (q (q T 71 [T 8,T 12,i]) 8 [i]) 74 [j]) 29 [j])) yZ) (yE 0 (q S 30 [a]))
def Cr:pk:=λc a b d=>aV a λe=>aN 4 e λf=>bT c 211 [f,d] λg=>ap g 0 λh=>ap g 1 λi=>ap g 2 λj=>az 3 e λk=>aB k λl=>bF 3 l d λm=>az 1 m λn=>aB n λo=>gJ o λp=>gL (pK c) (q (q (q (q (q (q (q (cz 0 [a,b,d] ai.blank) 3 [e]) 6 [.slice none 0 0,.slice none 0 0]) 16 [f,d,g]) 15 [g]) 19 [h,i,j]) 8 [h,i,j]) 22 [k,l,d,m,n,o,p,I 0]) λr S=>gX 0 r (yO [(S 7,none)]) yZ
def F7{x0 x1 x2 W r}(h:Cr aY x0 x1 x2 W=some r):OG 192 #[] [x0,x1,x2] W r:=oM 76 h (by kernel_rfl)
def EN:di:=λc a b=>aV a λd=>aF 46 λe=>aN 5 d λf=>bT c 188 [f,I 2] λg=>cu g (I 0) λh=>gI h (aX 46 [] λi=>aA 4 e i λj=>yO [(e,some 46),(g,none)]) (az 1 d λi=>aB i λj=>az 3 d λk=>aB k λl=>az 4 d λm=>aB m λn=>aX 46 [(0,b),(1,j),(2,l),(3,n)] λo=>aA 4 e o λp=>yO [(e,some 46),(I 0,none)])
def In{x0 x1 W r}(h:EN aY x0 x1 W=some r):OG 195 #[] [x0,x1] W r:=oM 21 h (by kernel_rfl)
def yr:fx:=λc a=>aV a λb=>az 3 b λd=>aB d λe=>az 4 b λf=>aB f λg=>az 0 b λh=>az 2 h λi=>aB i λj=>bT c 209 [e] λk=>gA (λW=>jP true (bu i W) j&&(jP true (bu f W) g&&true)) (bT c 209 [g] λl=>gA (λW=>jP true (bu i W) j&&true) (dN k l λm=>bT c 209 [j] λn=>iB m n λo=>yO [(o,none)]))
def CS{x0 W r}(h:yr aY x0 W=some r):OG 208 #[] [x0] W r:=oM 15 h (by kernel_rfl)
def Aj:fx:=λc a=>bY a (I 1) λb=>gI b (yO [(I 1,none)]) (yO [(I 0,none)])
def Dq{x0 W r}(h:Aj aY x0 W=some r):OG 209 #[] [x0] W r:=oM 5 h (by kernel_rfl)
def pV:di:=λc a b=>aV a λd=>aV b λe=>gB (ut (.func 220) #[] #[d,e]) λf=>yO [(f,none)]
def BT{x0 x1 W r}(h:pV aY x0 x1 W=some r):OG 210 #[] [x0,x1] W r:=oM 6 h (by kernel_rfl)
def iG:cE:=λc S=>bK (S 19) (S 18) λa=>gI a (aN 3 (S 5) λb=>az 2 (S 5) λd=>aB d λe=>aB (S 2) λf=>iB e f λg=>iB g (S 19) λh=>aX 240 [(0,b),(1,S 19),(2,h)] λi=>gB (c (S 0) [i]) λj=>dL .not j λk=>let T:=q (q (q S 20 [a,S 19]) 6 [S 19]) 22 [S 0,b,S 19,d,e,f,g,S 19,h,i,j,k];gI k (yR T) (bD (S 19) (I 1) λl=>yN (q (q T 34 [l]) 19 [l]))) (yE 2 (q S 20 [a]))
def kg:cE:=λc S=>bK (S 9) (S 8) λa=>gI a (bF 3 (S 7) (S 9) λb=>aN 3 b λd=>aF 222 λe=>aA 3 e d λf=>az 2 e λg=>aB g λh=>aB (S 2) λi=>iB h i λj=>bD j (I 1) λk=>gB (aqr k (I 0)) λl=>gL (iG c) (q (q (q S 10 [a,b,d]) 5 [e]) 13 [g,h,i,j,k,l,I 0]) λm T=>gX 2 m (bD (T 9) (I 1) λn=>yN (q (q T 35 [n]) 9 [n])) (gR m (yR T))) (yE 0 (q S 10 [a]))
def nl:pk:=λc a b d=>aB b λe=>gB (abf e) λf=>gL (kg c) (q (cz 0 [a,b,d] ai.blank) 7 [e,f,I 0]) λg S=>gX 0 g (yO []) (gR g (yO []))
def yJ{x0 x1 x2 W r}(h:nl aY x0 x1 x2 W=some r):OG 220 #[x1,x2] [x0] W r:=oM 36 h (by kernel_rfl)
structure LG where
 a:Int
 b:Int
 c:Int
 d:Int
def ti0:LG:=⟨0,0,0,0⟩
abbrev tiC(t:LG):List ad:=[.int .u32 t.a,.int .u32 t.b,.int .u64 t.c,.int .u64 t.d]
abbrev RW(t:LG):ad:=.agg #[.int .u32 t.a,.int .u32 t.b,.int .u64 t.c,.int .u64 t.d]
def KI(W:AW):dg Tryz.prog 46 W=some (.pointer (some ⟨W.next,0,none⟩),W.add (.cells (tiC ti0))):=aT (by kernel_rfl) rfl
def aiv(a b c d:Int)(W:AW):fd Tryz.prog 46 [(0,.int .u32 a),(1,.int .u32 b),(2,.int .u64 c),(3,.int .u64 d)] W=some (RW ⟨a,b,c,d⟩,W):=aT (by kernel_rfl) rfl
def adq(W:AW):fd Tryz.prog 46 [] W=some (RW ti0,W):=aT (by kernel_rfl) rfl
def Wy(x:ad)(W:AW):iU Tryz.prog 46 x W=dF 4 x W:=by kernel_rfl
def atj:Tryz.prog.eqGuardType Tryz.prog.depth 46=false:=by kernel_rfl
def auC(a b c d a' b' c' d':Int):PB Tryz.prog 8 46 (.agg #[.int .u32 a,.int .u32 b,.int .u64 c,.int .u64 d]) (.agg #[.int .u32 a',.int .u32 b',.int .u64 c',.int .u64 d'])=yd [(a,a'),(b,b'),(c,c'),(d,d')]:=by kernel_rfl
def an4(a b c d a' b' c' d':Int)(k l:Bool)(W:AW):bO Tryz.prog .neq 46 k l (.agg #[.int .u32 a,.int .u32 b,.int .u64 c,.int .u64 d]) (.agg #[.int .u32 a',.int .u32 b',.int .u64 c',.int .u64 d']) W=some (.bool (!(decide (a=a')&&(decide (b=b')&&(decide (c=c')&&decide (d=d'))))),W):=by refine sd atj ((auC ..).trans ?_);rw[sD];simp only[dz,wU,oz];rfl
def Qu(x:fq)(n:Int):LG:=if wz x 2=0 then⟨n,x.ow,x.se,x.ep⟩else ti0
def zb(x:fq)(n:Int)(W:AW):aY (.func (.func 195) #[] #[]) [iS x,.int .u32 n] W=some (.tuple #[RW (Qu x n),.ae (wz x 2)],W):=by
 refine aQ rfl ?_ In;unfold EN Qu;by_cases c:wz x 2=0
 ·simp(maxDischargeDepth:=9) only[SX,MX,HX,Nat.reduceAdd,KI,fg,c,aiv,bB,Wy]
 ·simp(maxDischargeDepth:=9) only[SX,MX,HX,Nat.reduceAdd,KI,fg,aJ c,adq,bB,Wy,aq c]
def Cz(x:fq)(t:LG):Int:=if wz x 2=0 then bif decide (x.ow=t.b)&&(decide (x.se=t.c)&&decide (x.ep=t.d))then 0 else 16 else wz x 2
def sF(x:fq)(t:LG)(W:AW):aY (.func (.func 161) #[] #[]) [iS x,RW t] W=some (.ae (Cz x t),W):=by
 refine aQ rfl ?_ LB;unfold HL Cz;by_cases c:wz x 2=0
 ·have e:Qu x t.a=⟨t.a,x.ow,x.se,x.ep⟩:=an c;cases d:(decide (x.ow=t.b)&&(decide (x.se=t.c)&&decide (x.ep=t.d)))<;>simp(maxDischargeDepth:=9) only[SX,MX,HX,Nat.reduceAdd,Nat.reduceEqDiff,KI,zb,e,c,an4,d,eV,gp]
 ·have e:Qu x t.a=ti0:=aq c;simp(maxDischargeDepth:=9) only[SX,MX,HX,Nat.reduceAdd,Nat.reduceEqDiff,KI,zb,e,aJ c,aq c]
def Ov(x:fq)(n:Int)(W:AW):aY (.func (.func 79) #[] #[]) [iS x,.int .u32 n] W=some (.tuple #[RW (Qu x n),.ae (wz x 2)],W):=by
 refine aQ rfl ?_ H6;unfold DJ Qu;by_cases c:wz x 2=0
 ·simp(maxDischargeDepth:=9) only[SX,MX,HX,Nat.reduceAdd,KI,i7,c,aiv,bB,Wy]
 ·simp(maxDischargeDepth:=9) only[SX,MX,HX,Nat.reduceAdd,KI,i7,aJ c,adq,bB,Wy,aq c]
def nM(x:fq)(t:LG)(W:AW):aY (.func (.func 78) #[] #[]) [iS x,RW t] W=some (.ae (Cz x t),W):=by
 refine aQ rfl ?_ Jz;unfold G1 Cz;rw[decide_eq_decide.2 (@eq_comm _ x.ow t.b),decide_eq_decide.2 (@eq_comm _ x.se t.c),decide_eq_decide.2 (@eq_comm _ x.ep t.d)];by_cases c:wz x 2=0
 ·cases d1:decide (t.b=x.ow)<;>cases d2:decide (t.c=x.se)<;>cases d3:decide (t.d=x.ep)<;>simp(maxDischargeDepth:=9) only[SX,MX,HX,Nat.reduceAdd,i7,c,d1,d2,d3,eV,gp]
 ·simp(maxDischargeDepth:=9) only[SX,MX,HX,Nat.reduceAdd,i7,aJ c,aq c]
def Zh(x:fq)(t:LG):Int:=if Cz x t=0 then Io x else Cz x t
def Ym(x:fq)(t:LG)(o:Int):fq:=if Cz x t=0 then Fv x o else x
def Mq(x:fq)(t:LG)(o:Int)(W:AW):aY (.func (.func 158) #[] #[]) [iS x,RW t,.int .u32 o] W=some (.tuple #[iS (Ym x t o),.ae (Zh x t)],W):=by
 refine aQ rfl ?_ Ex;unfold AF Ym Zh;by_cases c:Cz x t=0
 ·simp(maxDischargeDepth:=9) only[SX,MX,HX,Nat.reduceAdd,Nat.reduceEqDiff,p7,sF,Si,c,bB,iL]
 ·simp(maxDischargeDepth:=9) only[SX,MX,HX,Nat.reduceAdd,Nat.reduceEqDiff,p7,sF,aJ c,bB,iL,aq c]
def ahK{x:fq}(h:wz x 2=0):x.st=2/\x.dl=0:=by
 unfold wz D8 at h;repeat' split at h
 all_goals first|omega|exact⟨by omega,by omega⟩
def agl{x:fq}{t:LG}(h:Cz x t=0):x.st=2/\x.dl=0:=by
 unfold Cz at h;split at h
 ·exact ahK ‹_›
 ·omega
def Lg(x:fq)(t:LG)(o:Int)(W:AW):aY (.func (.func 75) #[] #[]) [iS x,RW t,.int .u32 o] W=some (.tuple #[iS (Ym x t o),.ae (Zh x t)],W):=by
 refine aQ rfl ?_ Ej;unfold Ae od Ym Zh Fv Io;by_cases c:Cz x t=0
 ·obtain⟨h1,h2⟩:=agl c;by_cases k:x.se=18446744073709551615
  ·have k2:=aK k;simp(maxDischargeDepth:=9) only[SX,MX,HX,Nat.reduceAdd,Nat.reduceEqDiff,p7,nM,c,k2,bB,iL,an k,Int.reduceEq]
  ·have k2:=aJ k;simp(maxDischargeDepth:=9) only[SX,MX,HX,Nat.reduceAdd,Nat.reduceEqDiff,Nat.reduceLT,p7,nM,c,k2,VM,bB,iL,aq k];rw[h1,h2]
 ·simp(maxDischargeDepth:=9) only[SX,MX,HX,Nat.reduceAdd,Nat.reduceEqDiff,p7,nM,aJ c,bB,iL,aq c]
def rfS(x:fq)(t:LG):fq:=if Cz x t=0 then mG x else x
def Ql(x:fq)(t:LG)(W:AW):aY (.func (.func 159) #[] #[]) [iS x,RW t] W=some (.tuple #[iS (rfS x t),.ae (Cz x t)],W):=by
 refine aQ rfl ?_ HR;unfold DV rfS;by_cases c:Cz x t=0
 ·simp(maxDischargeDepth:=9) only[SX,MX,HX,Nat.reduceAdd,Nat.reduceEqDiff,p7,sF,Bk,c,bB,iL]
 ·simp(maxDischargeDepth:=9) only[SX,MX,HX,Nat.reduceAdd,Nat.reduceEqDiff,p7,sF,aJ c,bB,iL,aq c]
def PL(x:fq)(t:LG)(W:AW):aY (.func (.func 76) #[] #[]) [iS x,RW t] W=some (.tuple #[iS (rfS x t),.ae (Cz x t)],W):=by
 refine aQ rfl ?_ HT;unfold DF rfS;by_cases c:Cz x t=0
 ·simp(maxDischargeDepth:=9) only[SX,MX,HX,Nat.reduceAdd,Nat.reduceEqDiff,p7,nM,xV,c,bB,iL]
 ·simp(maxDischargeDepth:=9) only[SX,MX,HX,Nat.reduceAdd,Nat.reduceEqDiff,p7,nM,aJ c,bB,iL,aq c]
def Y7(x:fq):Int:=if wz x 2=0 then(if x.ep=18446744073709551615 then 17 else 0)else wz x 2
def rvS(x:fq):fq:=if wz x 2=0 then(if x.ep=18446744073709551615 then x else⟨0,0,0,x.se,IntKind.u64.wrap (x.ep+1)⟩)else x
def afZ(a b c d e:Int)(W:AW):aY (.func (.func 194) #[] #[]) [.agg #[.ae a,.int .u32 b,.ae c,.int .u64 d,.int .u64 e]] W=some (iS ⟨0,0,0,d,e⟩,W):=Bk ⟨a,b,c,d,e⟩ W
def Qt(x:fq)(W:AW):aY (.func (.func 160) #[] #[]) [iS x] W=some (.tuple #[iS (rvS x),.ae (Y7 x)],W):=by
 refine aQ rfl ?_ Ip;unfold DW rvS Y7;by_cases c:wz x 2=0
 ·by_cases k:x.ep=18446744073709551615
  ·have k2:=aK k;simp(maxDischargeDepth:=9) only[SX,MX,HX,Nat.reduceAdd,p7,fg,c,k2,bB,iL,an k]
  ·have k2:=aJ k;simp(maxDischargeDepth:=9) only[SX,MX,HX,Nat.reduceAdd,Nat.reduceLT,p7,fg,c,k2,VM,afZ,bB,iL,aq k]
 ·simp(maxDischargeDepth:=9) only[SX,MX,HX,Nat.reduceAdd,p7,fg,aJ c,bB,iL,aq c]
def aaL(a b c d e:Int)(W:AW):aY (.func (.func 106) #[] #[]) [.agg #[.ae a,.int .u32 b,.ae c,.int .u64 d,.int .u64 e]] W=some (iS ⟨0,0,0,d,e⟩,W):=xV ⟨a,b,c,d,e⟩ W
def OH(x:fq)(W:AW):aY (.func (.func 77) #[] #[]) [iS x] W=some (.tuple #[iS (rvS x),.ae (Y7 x)],W):=by
 refine aQ rfl ?_ Ic;unfold Eo rA rvS Y7;by_cases c:wz x 2=0
 ·by_cases k:x.ep=18446744073709551615
  ·have k2:=aK k;simp(maxDischargeDepth:=9) only[SX,MX,HX,Nat.reduceAdd,p7,i7,c,k2,bB,iL,an k,Int.reduceEq]
  ·have k2:=aJ k;simp(maxDischargeDepth:=9) only[SX,MX,HX,Nat.reduceAdd,Nat.reduceLT,p7,i7,c,k2,VM,aaL,bB,iL,aq k]
 ·simp(maxDischargeDepth:=9) only[SX,MX,HX,Nat.reduceAdd,p7,i7,aJ c,bB,iL,aq c]
def Oj(x:fq)(t:Int):Int:=if IF x t=0 then wz x 0 else IF x t
def M4(x:fq)(o t:Int):fq:=if Oj x t=0 then⟨1,o,t,x.se,x.ep⟩else x
def an8(W:AW)(B:Nat)(a b:Int)(h:aH W B=some [.ae a,.ae b])(hB:B<W.next):aY (.func (.func 186) #[] #[]) [.slice (some ⟨B,0,none⟩) 2 2] W=some (.ae (if a=0 then b else a),W):=
 adD ⟨_,_,rfl,.inr ⟨B,0,_,rfl,hB,h,λi hi=>by rcases(show i=0\/i=1 by simp at hi;omega)with rfl|rfl<;>rfl⟩⟩
def AV(x:fq)(o t:Int)(W:AW):aY (.func (.func 152) #[] #[]) [iS x,.int .u32 o,.ae t] W=some (.tuple #[iS (M4 x o t),.ae (Oj x t)],W):=by
 refine aQ rfl ?_ LX;unfold Kr M4;have h:=an8 (((W.add (.cells (dJ x))).add (.cells (dJ Cv))).add (.cells [.ae (IF x t),.ae (wz x 0)])) (W.next+2) (IF x t) (wz x 0) (bC) (by simp only[AW.av];omega);rw[show(if IF x t=0 then wz x 0 else IF x t)=Oj x t from rfl]at h;by_cases c:Oj x t=0
 ·simp(maxDischargeDepth:=9) only[SX,MX,HX,Nat.reduceAdd,Nat.reduceEqDiff,Nat.reduceLT,p7,sC,fg,qO,NH,h,c,bB,iL]
 ·simp(maxDischargeDepth:=9) only[SX,MX,HX,Nat.reduceAdd,Nat.reduceEqDiff,Nat.reduceLT,p7,sC,fg,qO,NH,h,aJ c,bB,iL,aq c]
def C6(x:fq)(o t:Int)(W:AW):aY (.func (.func 72) #[] #[]) [iS x,.int .u32 o,.ae t] W=some (.tuple #[iS (M4 x o t),.ae (Oj x t)],W):=by
 refine aQ rfl ?_ L8;unfold J4 uZ vG M4 Oj IF;by_cases c:D8 x=0
 ·by_cases k:t<0
  ·have k2:=aK k;simp(maxDischargeDepth:=9) only[SX,MX,HX,Nat.reduceAdd,Nat.reduceLT,p7,io,c,k2,an k,bB,iL,Int.reduceEq]
  ·have k2:=aJ k;by_cases i:wz x 0=0
   ·simp(maxDischargeDepth:=9) only[SX,MX,HX,Nat.reduceAdd,Nat.reduceLT,p7,io,c,k2,aq k,i7,i,bB,iL]
   ·simp(maxDischargeDepth:=9) only[SX,MX,HX,Nat.reduceAdd,Nat.reduceLT,p7,io,c,k2,aq k,i7,aJ i,aq i,bB,iL]
 ·simp(maxDischargeDepth:=9) only[SX,MX,HX,Nat.reduceAdd,Nat.reduceLT,p7,io,aJ c,bB,iL,aq c]
def eu(a b:Int):Int:=if a<0\/b<0 then 0 else min (a+b) 9223372036854775807
def acm(n:Int)(W:AW):wu Tryz.prog 2 44 (.ae n) W=some (.int .u64 (IntKind.u64.wrap n),W):=aT (by kernel_rfl) rfl
def amg(n:Int)(W:AW):wu Tryz.prog 44 2 (.int .u64 n) W=some (.ae (IntKind.i64.wrap n),W):=aT (by kernel_rfl) rfl
def apx(n:Int)(c d:Bool)(W:AW):bO Tryz.prog .shr 44 c d (.int .u64 n) (.int .u64 63) W=some (.int .u64 (n.fdiv 9223372036854775808),W):=by refine we (by simp[rV,H7]) rfl rfl rfl ?_;simp[eqGuard,binOp,Op.shift];rfl
def EH{n:Int}(h1:0<=n)(h2:n<18446744073709551616):IntKind.u64.wrap n=n:=by unfold IntKind.wrap;simp only[IntKind.bits,IntKind.signed];simp;omega
def ajv{a b:Int}(ha:a<9223372036854775808)(hb:b<9223372036854775808)(W:AW):aY (.func (.func 185) #[] #[]) [.ae a,.ae b] W=some (.tuple #[.ae (eu a b),.ae (if a<0\/b<0 then 7 else 0)],W):=by
 refine aQ rfl ?_ Ps;unfold MT eu;have hI:dR (W.add (.cells [.ae a,.ae b])) (.slice (some ⟨W.next,0,none⟩) 2 2) [a,b]:=Tg [a,b] 2 W;have hm:=Ho.Rz hI;by_cases c:a<0\/b<0
 ·rw[aK (show min a b<0 by omega)]at hm;simp(maxDischargeDepth:=9) only[SX,MX,HX,Ho.ahH,hm,an c]
 ·rw[aJ (show¬min a b<0 by omega)]at hm;have w1:=EH (n:=a) (by omega) (by omega);have w2:=EH (n:=b) (by omega) (by omega);have w3:=EH (n:=a+b) (by omega) (by omega);by_cases k:a+b<9223372036854775808
  ·have k2:decide ((a+b).fdiv 9223372036854775808=0)=true:=aK (by rw[Pn _ (by omega)];omega);have w4:=zJ (n:=a+b) (by omega) (by omega);simp(maxDischargeDepth:=9) only[SX,MX,HX,Ho.ahH,hm,acm,w1,w2,VM,w3,apx,k2,amg,w4,aq c,Int.min_eq_left (show a+b<=9223372036854775807 by omega)]
  ·have k2:decide ((a+b).fdiv 9223372036854775808=0)=false:=aJ (by rw[Pn _ (by omega)];omega);simp(maxDischargeDepth:=9) only[SX,MX,HX,Ho.ahH,hm,acm,w1,w2,VM,w3,apx,k2,aq c,Int.min_eq_right (show 9223372036854775807<=a+b by omega)]
def PJ(a b:Int)(W:AW):aY (.func (.func 104) #[] #[]) [.ae a,.ae b] W=some (.ae (if a<0\/b<0 then 7 else 0),W):=by
 refine aQ rfl ?_ Cj;unfold C1;by_cases c:a<0
 ·have c2:=aK c;simp(maxDischargeDepth:=9) only[SX,MX,HX,c2,an (Or.inl c)]
 ·have c2:=aJ c;by_cases k:b<0
  ·have k2:=aK k;simp(maxDischargeDepth:=9) only[SX,MX,HX,c2,k2,an (Or.inr k)]
  ·have k2:=aJ k;simp(maxDischargeDepth:=9) only[SX,MX,HX,c2,k2,aq (show¬(a<0\/b<0)by omega)]
def Zp{a b:Int}(ha:a<9223372036854775808)(hb:b<9223372036854775808)(W:AW):aY (.func (.func 67) #[] #[]) [.ae a,.ae b] W=some (.tuple #[.ae (eu a b),.ae (if a<0\/b<0 then 7 else 0)],W):=by
 refine aQ rfl ?_ P5;unfold Nx eu;by_cases c:a<0\/b<0
 ·simp(maxDischargeDepth:=9) only[SX,MX,HX,PJ,an c,Int.reduceEq]
 ·have s1:=λW'=>tG (P:=Tryz.prog) (W:=W') (t:=2) (c:=true) (d:=false) (a:=9223372036854775807) (b:=b) (by omega) (by omega)
  by_cases k:9223372036854775807-b<a
  ·have k2:=aK k;simp(maxDischargeDepth:=9) only[SX,MX,HX,PJ,aq c,s1,k2,Int.min_eq_right (show 9223372036854775807<=a+b by omega)]
  ·have k2:=aJ k;have s2:=λW'=>mF (P:=Tryz.prog) (W:=W') (t:=2) (c:=false) (d:=false) (a:=a) (b:=b) (by omega) (by omega)
   simp(maxDischargeDepth:=9) only[SX,MX,HX,PJ,aq c,s1,s2,k2,Int.min_eq_left (show a+b<=9223372036854775807 by omega)]
def Gy{α:Type}{W:AW}{z:Nat}{f:α->List ad}(hf:∀a,(f a).length=z){v:ad}{l:List α}(h:Rd W z f v l):Row W z (xf z f) v l:=by
 obtain⟨a,c,rfl,h⟩:=h;refine⟨a,c,rfl,?_⟩;rcases h with h|⟨b,o,cs,h1,h2,h3,h4⟩
 ·exact .inl h
 ·refine .inr ⟨b,o,cs,h1,h2,h3,λi hi=>?_⟩;unfold xf;have e0:l.flatMap f=(l.take i).flatMap f++(f l[i]++(l.drop (i+1)).flatMap f):=by rw[<-fN,<-ri hi,<-jo,wX]
  have e1:((l.take i).flatMap f).length=i*z:=by rw[cm hf,cR,oN (by omega)]
  have e2:(((cs.drop o).take (l.length*z)).drop (i*z)).take z=f l[i]:=by rw[h4,e0,<-e1,xW,<-hf l[i],xj]
  have e3:i*z+z<=l.length*z:=by rw[<-Nat.succ_mul];exact mo z hi
  rw[List.drop_take,xF,List.take_take,oN (by omega)]at e2;exact e2
def na(x:fq):(dJ x).length=5:=rfl
def WT(x:fq):(dJ x).all Eng.one=true:=rfl
def qI(n:Int):List ad:=[.int .u32 n]
def iu(n:Int):(qI n).length=1:=rfl
def ol(n:Int):(qI n).all Eng.one=true:=rfl
def oX(l:List Int):l.flatMap qI=l.map (Value.int .u32):=by
 induction l with
 |nil=>rfl
 |cons a l ih=>rw[fN,ih];rfl
abbrev Qb(W:AW)(v:ad)(l:List fq):Prop:=Rd W 5 dJ v l
abbrev Qa(W:AW)(v:ad)(l:List Int):Prop:=Rd W 1 qI v l
def apX:mL Tryz.prog #[31,31] 5 40=true:=by kernel_rfl
def Cm:mL Tryz.prog #[88,88] 1 4=true:=by kernel_rfl
def aaf(W:AW):cX Tryz.prog 31 0 [] W=some (.slice (some ⟨W.next,0,none⟩) 0 0,W.add (.cells [])):=aT (by kernel_rfl) rfl
def Dm(W:AW):cX Tryz.prog 88 0 [] W=some (.slice (some ⟨W.next,0,none⟩) 0 0,W.add (.cells [])):=aT (by kernel_rfl) rfl
def u25:Tryz.prog.underlying 31=some (.slice 87):=by kernel_rfl
def amv:Tryz.prog.underlying 88=some (.slice 43):=by kernel_rfl
def uK:((#[31]:Array ag)[0]?).bind Tryz.prog.underlying=some (.slice 87):=by kernel_rfl
def oJ:((#[88]:Array ag)[0]?).bind Tryz.prog.underlying=some (.slice 43):=by kernel_rfl
def Wg{t e:ag}(hu:Tryz.prog.underlying t=some (.slice e))(a:Option Addr)(c d:Bool)(l k:Nat)(W:AW):bO Tryz.prog .eql t c d (.slice a l k) (.slice none 0 0) W=some (.bool a.isNone,W):=by
 cases a with
 |none=>unfold bO rV px;simp only[hu,Option.isNone_none]
 |some a=>unfold bO rV px;simp only[hu,Option.isNone_some]
def Ak{α:Type}{t:ag}{z bytes:Nat}{f:α->List ad}(hk:mL Tryz.prog #[t,t] z bytes=true)(hf:∀a,(f a).length=z)(h1:∀a,(f a).all Eng.one=true){W:AW}{v:ad}{l:List α}(h:Rd W z f v l)
 (hb:l.length<1099511627776)(lA:(2*l.length+192)*bytes<=281474976710656):
 ∃u W',dB Tryz.prog (W.add (.cells [])) #[t,t] (.slice (some ⟨W.next,0,none⟩) 0 0) v=some (u,W')/\Le W W'/\EL W.next W' z f u l:=by
 have hE:EL W.next (W.add (.cells [])) z f (.slice (some ⟨W.next,0,none⟩) 0 0) []:=EL.anK _ _ _ _ _;obtain⟨u,W',k1,k2,k3,k4⟩:=hE.app hk hf h1 (h.keep ((Le.refl W).add (.cells []))) (by simpa using hb) (by simpa using lA) (by rw[AW.av];omega);rw[jG]at k2;exact⟨u,W',k1,⟨by rw[AW.av]at k3;omega,λb hb=>(k4 b hb).trans (AW.aG _ _ (by omega))⟩,k2⟩
def ac9{α:Type}{z:Nat}{f:α->List ad}{W:AW}{l:List α}{n c:Nat}(h:Rd W z f (.slice none n c) l):l=[]:=by
 obtain⟨a,c',e,h⟩:=h;injection e with e1 e2 e3;rcases h with h|⟨b,o,cs,e,-⟩
 ·exact h
 ·rw[<-e1]at e;cases e
def jm{α:Type}{z:Nat}{f:α->List ad}{W:AW}{v:ad}{l:List α}(h:Rd W z f v l){ts:Array ag}{e:ag}(ht:(ts[0]?).bind Tryz.prog.underlying=some (.slice e))(W':AW)(ty:ag)(cf:Array Bool):aZ Tryz.prog .len ts ty cf [v] W'=some (.ae (l.length:Int),W'):=by obtain⟨a,c,rfl,-⟩:=h;exact df ht _ _ _
def Qa.get{W:AW}{v:ad}{l:List Int}(h:Qa W v l){i:Nat}(hi:i<l.length):∃b o,(∀W' k,nY 1 v (.int k (i:Int)) W'=some (.pointer (some ⟨b,o,none⟩),W'))/\b<W.next/\∀W',W'.get b=W.get b->bu (.pointer (some ⟨b,o,none⟩)) W'=some (.int .u32 l[i],W'):=by obtain⟨b,o,cs,h1,h2,h3,h4⟩:=(Gy iu h).elem hi;exact⟨b,o,h1,h2,λW' hg=>aP (by unfold aH at h3|-;rw[hg];exact h3) ((ga h4 (j:=0) (by omega)).trans rfl)⟩
def Qb.get{W:AW}{v:ad}{l:List fq}(h:Qb W v l){i:Nat}(hi:i<l.length):∃b o,(∀W' k,nY 5 v (.int k (i:Int)) W'=some (.pointer (some ⟨b,o,none⟩),W'))/\b<W.next/\∀W',W'.get b=W.get b->dF 5 (.pointer (some ⟨b,o,none⟩)) W'=some (iS l[i],W'):=by
 obtain⟨b,o,cs,h1,h2,h3,h4⟩:=(Gy na h).elem hi;refine⟨b,o,h1,h2,λW' hg=>?_⟩;have hc:aH W' b=some cs:=by unfold aH at h3|-;rw[hg];exact h3
 have e0:(cs.drop o).take 5=dJ l[i]:=h4;have:=bz (n:=5) (o:=o) hc (by rw[e0];rfl);rw[e0]at this;exact this
def Ru{W:AW}{v:ad}{l:List Int}(h:Qa W v l)(hl:l.length<=10000)(x:Int):aY (.func (.func 163) #[] #[]) [v,.int .u32 x] W=some (.ae (nc (λy=>decide (x=y)) l),W):=by
 refine aQ rfl ?_ rR;unfold mM;simp only[SX,jm h oJ];refine a8 l.length (by omega) (λk R W'=>W'=W/\R 0=v/\R 1=.int .u32 x/\R 7=.ae (l.length:Int)/\R 8=.ae (k:Int)/\(l.take k).any (λy=>decide (x=y))=false)
  (λr=>r.2.2=W/\((r.1=.exit 0/\nc (λy=>decide (x=y)) l= -1)\/(r.1=.ret/\r.2.1 4=.ae (nc (λy=>decide (x=y)) l)))) ⟨rfl,rfl,rfl,rfl,rfl,rfl⟩ ?_ ?_ ?_
 ·rintro k R W' hk ⟨rfl,h0,h1,h7,h8,ha⟩;unfold gw;obtain⟨b,o,g1,-,g2⟩:=h.get hk;have e1:((k:Int)<(l.length:Int)):=by omega
  have e2:(k:Int)+1=((k+1:Nat):Int):=by omega
  have ea:=bc W' k 1;simp only[SX,h0,h1,h7,h8,e1,g1,g2 _ rfl];cases hx:decide (x=l[k])
  ·simp only[SX,ea,af];exact .inl ⟨aj,aj,h0,h1,h7,by rw[<-e2];rfl,qA hk hx ha⟩
  ·simp only[SX,af];exact .inr ⟨by simp,aj,.inr ⟨aj,by rw[wt hk hx ha];rfl⟩⟩
 ·rintro R W' ⟨rfl,h0,h1,h7,h8,ha⟩;unfold gw;have e1:¬((l.length:Int)<(l.length:Int)):=by omega
  rw[cO]at ha;simp only[SX,h7,h8,e1,af];exact⟨by simp,aj,.inl ⟨aj,wk ha⟩⟩
 ·rintro⟨y,R,W'⟩ ⟨hW,hq⟩;simp only at hW hq;subst hW;rcases hq with⟨rfl,hq⟩|⟨rfl,h4⟩
  ·simp(maxDischargeDepth:=9) only[SX,MX,HX,hq]
  ·simp(maxDischargeDepth:=9) only[SX,MX,HX,h4]
def GR{W:AW}{v:ad}{l:List Int}(h:Qa W v l)(hl:l.length<=10000)(x:Int):aY (.func (.func 162) #[] #[]) [v,.int .u32 x] W=some (.bool (l.any λy=>decide (x=y)),W):=by refine aQ rfl ?_ pS;unfold kD;simp(maxDischargeDepth:=9) only[SX,MX,HX,Ru h hl,Ag]
section
variable {α:Type} {z:Nat} {f:α->List ad}
def KK(hf:∀a,(f a).length=z){xs:List α}{j:Nat}{x:α}(h:xs[j]? =some x):xs.flatMap f=(xs.take j).flatMap f++(f x++(xs.drop (j+1)).flatMap f)/\((xs.take j).flatMap f).length=j*z:=by obtain⟨hi,e⟩:=da.1 h;refine⟨?_,by rw[cm hf,cR,oN (by omega)]⟩;rw[<-e,<-fN,<-ri hi,<-jo,wX]
def FP(hf:∀a,(f a).length=z){xs:List α}{j:Nat}{x:α}(h:xs[j]? =some x):((xs.flatMap f).drop (j*z)).take z=f x:=by obtain⟨e1,e2⟩:=KK hf h;rw[e1,<-e2,xW,<-hf x,xj]
def adJ(hf:∀a,(f a).length=z){xs:List α}{j:Nat}{x:α}(h:xs[j]? =some x)(y:α):ip (xs.flatMap f) (j*z) (f y)=(xs.set j y).flatMap f:=by obtain⟨e1,e2⟩:=KK hf h;obtain⟨hi,-⟩:=da.1 h;have e3:xs.set j y=xs.take j++y::xs.drop (j+1):=OK.trans (an hi);unfold ip;rw[e3,jo,fN,e1,<-e2,xj,hf y,<-hf x,<-xF,xW,xW,iK]
end
def Bl{W V:AW}{v:ad}{Q:AW->Prop}(hq:Q V)(hb:Le W V->Q W):∃W',gc W (v,V)=(v,W')/\Q W':=by
 unfold gc;split
 ·rename_i h;exact⟨W,rfl,hb h.2⟩
 ·exact⟨V,rfl,hq⟩
structure cS where
 v:ge
 now:Int
 st:List fq
 qs:List (List Int)
abbrev Da(o:kP):List ad:=[.ae o.k,.int .u32 o.ow,.ae o.un,.ae o.se,.ae o.sc,.ae o.n,.int .u32 o.to,.int .u32 o.t1,.int .u32 o.t2,.int .u64 o.t3,.int .u64 o.t4,.ae o.nw]
abbrev NT(v:ge)(sv:ad)(now:Int)(sq qq:ad)(o:kP)(s:Int):List ad:=[.ae v.sh,.ae v.cL,.ae v.eO,sv,.ae now,sq,qq,
 .ae o.k,.int .u32 o.ow,.ae o.un,.ae o.se,.ae o.sc,.ae o.n,.int .u32 o.to,.int .u32 o.t1,.int .u32 o.t2,.int .u64 o.t3,.int .u64 o.t4,.ae o.nw,.ae s]
abbrev ba(b:Nat):ad:=.pointer (some ⟨b,0,none⟩)
abbrev fI(b n:Nat):ad:=.slice (some ⟨b,0,none⟩) n (eJ+5)
abbrev oa(b n:Nat):ad:=.slice (some ⟨b,0,none⟩) n n
def QA(W:AW)(u:ad)(l:List Int)(B:Nat):Prop:=(l=[]/\(u=.slice none 0 0\/∃a,u=.slice (some a) 0 0))\/∃o cs,u=.slice (some ⟨B,o,none⟩) l.length (eJ+1)/\W.get B=some (.cells cs)/\(cs.drop o).take l.length=l.map (Value.int .u32)
def QA.keep{W W':AW}{u:ad}{l:List Int}{B:Nat}(h:QA W u l B)(hg:W'.get B=W.get B):QA W' u l B:=by
 rcases h with h|⟨o,cs,h1,h2,h3⟩
 ·exact .inl h
 ·exact .inr ⟨o,cs,h1,by rw[hg];exact h2,h3⟩
def QA.slice{W:AW}{u:ad}{l:List Int}{B:Nat}(h:QA W u l B):∃a c,u=.slice a l.length c:=by
 rcases h with⟨rfl,rfl|⟨a,rfl⟩⟩|⟨o,cs,h1,h2,h3⟩
 ·exact⟨_,_,rfl⟩
 ·exact⟨_,_,rfl⟩
 ·exact⟨_,_,h1⟩
def QsA(W:AW)(qb:Nat)(bq:Nat->Nat)(qs:List (List Int)):Prop:=∃qv,W.get qb=some (.cells qv)/\qv.length=qs.length/\∀k (h:k<qs.length),∃u,qv[k]? =some u/\QA W u qs[k] (bq k)
structure fA (W0 W:AW) (ob sb qb:Nat) (bq:Nat->Nat) (x:cS) (sv:ad) (o:kP) (s:Int):Prop where
 le:Le W0 W
 lo:W0.next<=ob/\W0.next<=sb/\W0.next<=qb
 hi:ob<W.next/\sb<W.next/\qb<W.next
 ne:ob≠sb/\ob≠qb/\sb≠qb
 nq:∀k,W0.next<=bq k/\bq k<W.next/\bq k≠ob/\bq k≠sb/\bq k≠qb
 sec:fC W0 sv x.v.ax
 go:W.get ob=some (.cells (NT x.v sv x.now (fI sb x.st.length) (oa qb x.qs.length) o s))
 gs:W.get sb=some (.cells (x.st.flatMap dJ))
 gq:QsA W qb bq x.qs
section
variable {W0 W W':AW} {ob sb qb:Nat} {bq:Nat->Nat} {x x':cS} {sv:ad} {o:kP} {s:Int}
def QsA.keep{qs:List (List Int)}(h:QsA W qb bq qs)(h1:W'.get qb=W.get qb)(h2:∀k,W'.get (bq k)=W.get (bq k)):QsA W' qb bq qs:=by obtain⟨qv,a,b,c⟩:=h;refine⟨qv,by rw[h1];exact a,b,λk hk=>?_⟩;obtain⟨u,c1,c2⟩:=c k hk;exact⟨u,c1,c2.keep (h2 k)⟩
def Fr(W W':AW)(sb qb:Nat):Prop:=W.next<=W'.next/\∀b,b<W.next->b≠sb->b≠qb->W'.get b=W.get b
def Fr.refl(W:AW)(sb qb:Nat):Fr W W sb qb:=⟨aR _,λ_ _ _ _=>rfl⟩
def Fr.trans{A B C:AW}(h:Fr A B sb qb)(k:Fr B C sb qb):Fr A C sb qb:=⟨dW h.1 k.1,λb hb h1 h2=>(k.2 b (fb hb h.1) h1 h2).trans (h.2 b hb h1 h2)⟩
def Fr.of_le{A B:AW}(h:Le A B):Fr A B sb qb:=⟨h.next,λb hb _ _=>h.get b hb⟩
def fA.step(h:fA W0 W ob sb qb bq x sv o s)(hf:Fr W W' sb qb)(e1:x'.v=x.v)(e2:x'.now=x.now)(e3:x'.st.length=x.st.length)(e4:x'.qs.length=x.qs.length)
 (gs:W'.get sb=some (.cells (x'.st.flatMap dJ)))(gq:QsA W' qb bq x'.qs):fA W0 W' ob sb qb bq x' sv o s where
 le:=⟨dW h.le.next hf.1,λb hb=>(hf.2 b (fb hb h.le.next) (by have:=h.lo;omega) (by have:=h.lo;omega)).trans (h.le.get b hb)⟩
 lo:=h.lo
 hi:=by have:=h.hi;have:=hf.1;omega
 ne:=h.ne
 nq:=λk=>by have:=h.nq k;have:=hf.1;omega
 sec:=by rw[e1];exact h.sec
 go:=by rw[hf.2 ob h.hi.1 h.ne.1 h.ne.2.1,e1,e2,e3,e4];exact h.go
 gs:=gs
 gq:=gq
def fA.mono(h:fA W0 W ob sb qb bq x sv o s)(aM:Le W W'):fA W0 W' ob sb qb bq x sv o s:=
 h.step (.of_le aM) rfl rfl rfl rfl (by rw[aM.get _ h.hi.2.1];exact h.gs) (h.gq.keep (aM.get _ h.hi.2.2) λk=>aM.get _ (h.nq k).2.1)
def fA.back(h:fA W0 W ob sb qb bq x sv o s)(h2:fA W0 W' ob sb qb bq x' sv o s)(aM:Le W W'):fA W0 W ob sb qb bq x' sv o s where
 le:=h.le
 lo:=h.lo
 hi:=h.hi
 ne:=h.ne
 nq:=h.nq
 sec:=h2.sec
 go:=by rw[<-aM.get _ h.hi.1];exact h2.go
 gs:=by rw[<-aM.get _ h.hi.2.1];exact h2.gs
 gq:=h2.gq.keep (aM.get _ h.hi.2.2).symm λk=>(aM.get _ (h.nq k).2.1).symm
def fA.other(h:fA W0 W ob sb qb bq x sv o s){b:Nat}{c:dH}(h1:W0.next<=b)(h2:b≠ob)(h3:b≠sb)(h4:b≠qb)(h5:∀k,b≠bq k):fA W0 (W.put b c) ob sb qb bq x sv o s where
 le:=h.le.put h1 _
 lo:=h.lo
 hi:=h.hi
 ne:=h.ne
 nq:=h.nq
 sec:=h.sec
 go:=by rw[AW.ay _ _ h2];exact h.go
 gs:=by rw[AW.ay _ _ h3];exact h.gs
 gq:=h.gq.keep (AW.ay _ _ h4) λk=>AW.ay _ _ (h5 k)
def fA.c(h:fA W0 W ob sb qb bq x sv o s):aH W ob=some (NT x.v sv x.now (fI sb x.st.length) (oa qb x.qs.length) o (s:Int)):=ao h.go
def rE{s n b:Nat}(hs:s<n)(W':AW):nY 5 (fI b n) (.ae (s:Int)) W'=some (.pointer (some ⟨b,s*5,none⟩),W'):=by have:=rH (z:=5) (b:=b) (o:=0) (c:=eJ+5) (W:=W') (k:=.i64) hs;rwa [aI]at this
def Gn{l:List fq}{y:fq}{b s:Nat}{W:AW}(hb:W.get b=some (.cells (l.flatMap dJ)))(h:l[s]? =some y):dF 5 (.pointer (some ⟨b,s*5,none⟩)) W=some (iS y,W):=by have e:=FP na h;have:=bz (W:=W) (n:=5) (o:=s*5) (ao hb) (by rw[e];rfl);rw[e]at this;exact this
def zj{l:List fq}{y z:fq}{b s:Nat}{W:AW}(hb:W.get b=some (.cells (l.flatMap dJ)))(h:l[s]? =some y):fm 5 (.pointer (some ⟨b,s*5,none⟩)) (iS z) W=some (ak,W.put b (.cells ((l.set s z).flatMap dJ))):=by
 have hl:s*5+5<=(l.flatMap dJ).length:=by rw[cm na];have:=(da.1 h).1;omega
 refine(zx (n:=5) (o:=s*5) (v:=iS z) hb rfl hl rfl).trans ?_;rw[<-adJ na h z];rfl
def fA.ld(h:fA W0 W ob sb qb bq x sv o s){i:Nat}{u:ad}(hi:(NT x.v sv x.now (fI sb x.st.length) (oa qb x.qs.length) o (s:Int))[i]? =some u):bu (.pointer (some ⟨ob,i,none⟩)) W=some (u,W):=aP h.c hi
def fA.l5(h:fA W0 W ob sb qb bq x sv o s):bu (.pointer (some ⟨ob,5,none⟩)) W=some (fI sb x.st.length,W):=h.ld rfl
def fA.l6(h:fA W0 W ob sb qb bq x sv o s):bu (.pointer (some ⟨ob,6,none⟩)) W=some (oa qb x.qs.length,W):=h.ld rfl
def fA.l19(h:fA W0 W ob sb qb bq x sv o s):bu (.pointer (some ⟨ob,19,none⟩)) W=some (.ae (s:Int),W):=h.ld rfl
def ze(h:fA W0 W ob sb qb bq x sv o s){more:Int}(h1:x.now<9223372036854775808)(h2:more<9223372036854775808):aY (.func (.func 150) #[] #[]) [ba ob,.ae more] W=some (.ae (eu x.now more),W):=by refine aQ rfl ?_ yG;unfold tH;simp(maxDischargeDepth:=9) only[SX,MX,HX,aS,h.c,ajv h1 h2]
def Ng(x:cS)(s:Nat)(y:fq)(e:Int):cS:=if e=0 then{x with st:=x.st.set s y}else x
def Fa{s:Nat}(h:fA W0 W ob sb qb bq x sv o s)(hs:s<x.st.length)(y:fq)(e:Int):∃W',aY (.func (.func 151) #[] #[]) [ba ob,iS y,.ae e] W=some (.ae e,W')/\fA W0 W' ob sb qb bq (Ng x s y e) sv o s/\Fr W W' sb qb:=by
 have hq:Ok (mw aY (ba ob) (iS y) (.ae e) W) λr=>r.1=.ae e/\fA W0 r.2 ob sb qb bq (Ng x s y e) sv o s/\Fr W r.2 sb qb:=by
  unfold mw Ng;have aM:Le W (W.add (.cells (dJ y))):=(Le.refl W).add _;have h1:=h.mono aM;have g1:(W.add (.cells (dJ y))).get W.next=some (.cells (dJ y)):=AW.aL _ _;have n1:=AW.av W (.cells (dJ y));simp only[SX];generalize W.add (.cells (dJ y))=W1 at *;by_cases c:e=0
  ·have st:=zj (z:=y) h1.gs (bJ hs);simp only[SX,c,aS,aI,h1.l5,h1.l19,bR g1,rE hs,st,bi,af];have hf:Fr W (W1.put sb (.cells ((x.st.set s y).flatMap dJ))) sb qb:=⟨by rw[AW.bH];omega,λb hb b1 b2=>by rw[AW.ay _ _ (bh b1)];exact aM.get b hb⟩;refine⟨aj,h.step (x':={x with st:=x.st.set s y}) hf rfl rfl (by simp) rfl (AW.aW _ _ _) (h.gq.keep ?_ λk=>?_),hf⟩
   ·exact(AW.ay _ _ h.ne.2.2).trans (aM.get _ h.hi.2.2)
   ·exact(AW.ay _ _ (bh (h.nq k).2.2.2.1)).trans (aM.get _ (h.nq k).2.1)
  ·have d:=aJ c;simp only[SX,d,aq c,af];exact⟨aj,h1,.of_le aM⟩
 obtain⟨⟨v,V⟩,k1,rfl,k2⟩:=hq;have hg:=xD k1;obtain⟨V2,e',q⟩:=Bl (v:=.ae e) (Q:=λV=>fA W0 V ob sb qb bq (Ng x s y e) sv o s/\Fr W V sb qb) k2 λhp=>⟨h.back k2.1 hp,.refl _ _ _⟩
 exact⟨V2,by rw[hg,e'],q⟩
end
def tV(v:ge)(s:Nat):Nat:=(dC v s).1.1
def mI(x:cS)(s:Nat)(a:Int):fq:=M4 (x.st.getD s Cv) a (eu x.now x.v.cL)
def lz(x:cS)(s:Nat):cS:=match x.qs[tV x.v s]? with
 |some (a::t)=>{x with st:=x.st.set s (mI x s a),qs:=x.qs.set (tV x.v s) t}
 |_=>x
def aph:nX Tryz.prog 43=some 1:=by kernel_rfl
def alq{B o n:Nat}(h:0<n)(W:AW):eP Tryz.prog 88 (.slice (some ⟨B,o,none⟩) n (eJ+1)) (some (.ae 1)) none none W=some (.slice (some ⟨B,o+1,none⟩) (n-1) (eJ+1),W):=by
 unfold eP mz;have e1:kJ (.ae 1)=some 1:=rfl;have e2:((⟨B,o,none⟩:Addr).add (1*1))=⟨B,o+1,none⟩:=by rw[dv]
 simp only[amv,aph,ft,e1,an (show 1<=n by omega),uO,Nat.zero_lt_one,bi,aR,e2]
def QA.tail{W:AW}{a:Int}{t:List Int}{B o:Nat}{cs:List ad}(h2:W.get B=some (.cells cs))(h3:(cs.drop o).take (a::t).length=(a::t).map (Value.int .u32)):QA W (.slice (some ⟨B,o+1,none⟩) ((a::t).length-1) (eJ+1)) t B:=by rw[show(a::t).length-1=t.length from rfl];refine .inr ⟨o+1,cs,rfl,h2,?_⟩;have e:=ii (List.drop 1) h3;rw[List.drop_take,xF]at e;exact e
section
variable {W0 W W':AW} {ob sb qb:Nat} {bq:Nat->Nat} {x x':cS} {sv:ad} {o:kP} {s:Int}
def fA.l4(h:fA W0 W ob sb qb bq x sv o s):dF 4 (.pointer (some ⟨ob,0,none⟩)) W=some (fH x.v sv,W):=bz h.c rfl
def fA.l1(h:fA W0 W ob sb qb bq x sv o s):bu (.pointer (some ⟨ob,1,none⟩)) W=some (.ae x.v.cL,W):=h.ld rfl
def ad3(W:AW):∃W1,dg Tryz.prog 177 W=some (.pointer (some ⟨W.next,0,none⟩),W1)/\W1.next=W.next+1/\Le W W1/\aU W1 W.next=some [.ae 0,.ae 0,.ae 0]:=ads W
def Tf(h:fA W0 W ob sb qb bq x sv o s){i:Nat}(hs:i<x.st.length)(hk:tV x.v i<x.qs.length)(hv:x.v.ax.length<1000)(h1:x.now<9223372036854775808)(h2:x.v.cL<9223372036854775808):
 ∃W',aY (.func (.func 170) #[] #[]) [ba ob,.ae (i:Int)] W=some (.tuple #[],W')/\fA W0 W' ob sb qb bq (lz x i) sv o s/\Fr W W' sb qb:=by
 have hq:Ok (nf aY (ba ob) (.ae (i:Int)) W) λr=>r.1=.tuple #[]/\fA W0 r.2 ob sb qb bq (lz x i) sv o s/\Fr W r.2 sb qb:=by
  unfold nf;have pP:=abV (v:=x.v) (sv:=sv) (W:=W) (bP:=(i:Int)) (h.sec.mono h.le) hv;obtain⟨V1,a1,n1,l1,r1⟩:=ad3 W;have b1:=Hh (a:=((dC x.v i).1.1:Int)) (c:=((dC x.v i).1.2.1:Int)) (d:=((dC x.v i).1.2.2:Int)) r1;have gb:(V1.put W.next (.cells [.ae ((dC x.v i).1.1:Int),.ae ((dC x.v i).1.2.1:Int),.ae ((dC x.v i).1.2.2:Int)])).get W.next=some (.cells [.ae ((dC x.v i).1.1:Int),.ae ((dC x.v i).1.2.1:Int),.ae ((dC x.v i).1.2.2:Int)]):=AW.aW _ _ _;have l2:=l1.put (aR _) (.cells [.ae ((dC x.v i).1.1:Int),.ae ((dC x.v i).1.2.1:Int),.ae ((dC x.v i).1.2.2:Int)]);have n2:(V1.put W.next (.cells [.ae ((dC x.v i).1.1:Int),.ae ((dC x.v i).1.2.1:Int),.ae ((dC x.v i).1.2.2:Int)])).next=W.next+1:=n1;simp only[SX,aS,aI,h.l4,pP,a1,b1];generalize V1.put W.next (.cells [.ae ((dC x.v i).1.1:Int),.ae ((dC x.v i).1.2.1:Int),.ae ((dC x.v i).1.2.2:Int)])=W1 at *;have h':=h.mono l2;have gi:∀V:AW,V.get W.next=W1.get W.next->bu (.pointer (some ⟨W.next,0,none⟩)) V=some (.ae (tV x.v i:Int),V):=λV hV=>aP (ao (hV.trans gb)) rfl
  obtain⟨qv,q1,q2,q3⟩:=h'.gq;obtain⟨u,u1,u2⟩:=q3 _ hk;have ix:∀V:AW,nY 1 (oa qb x.qs.length) (.ae (tV x.v i:Int)) V=some (.pointer (some ⟨qb,tV x.v i,none⟩),V):=λV=>by have:=rH (z:=1) (b:=qb) (o:=0) (c:=x.qs.length) (W:=V) (k:=.i64) hk;rwa [aI,iI]at this
  have lu:bu (.pointer (some ⟨qb,tV x.v i,none⟩)) W1=some (u,W1):=aP (ao q1) u1;obtain⟨ua,uc,ue⟩:=u2.slice;have ul:∀V:AW,aZ Tryz.prog .len #[88] 3 #[false] [u] V=some (.ae ((x.qs[tV x.v i]).length:Int),V):=λV=>by rw[ue];exact df oJ _ _ _
  simp only[SX,gi W1 rfl,h'.l6,ix,lu,ul];cases he:x.qs[tV x.v i]with
  |nil=>
   have e0:lz x i=x:=by unfold lz;rw[bJ hk,he]
   rw[e0];simp only[SX,p8,Int.lt_irrefl,af,show((0:Nat):Int)=0 from rfl];exact⟨aj,h',.of_le l2⟩
  |cons a t=>
   have e0:lz x i={x with st:=x.st.set i (mI x i a),qs:=x.qs.set (tV x.v i) t}:=by unfold lz;rw[bJ hk,he]
   rw[e0];rw[he]at u2;rcases u2 with⟨hx,_⟩|⟨oo,cs,rfl,u3,u4⟩
   ·cases hx
   have t8:decide ((0:Int)<(((a::t).length:Nat):Int))=true:=aK (by rw[cP];omega);have Zj:=bJ hs;have hg0:x.st.getD i Cv=x.st[i]:=by simp[List.getD,Zj]
   have LD:=Gn (W:=W1) h'.gs Zj;have ix0:∀V:AW,nY 1 (.slice (some ⟨bq (tV x.v i),oo,none⟩) (a::t).length (eJ+1)) (.ae 0) V=some (.pointer (some ⟨bq (tV x.v i),oo,none⟩),V):=λV=>by have:=rH (z:=1) (b:=bq (tV x.v i)) (o:=oo) (l:=(a::t).length) (i:=0) (c:=eJ+1) (W:=V) (k:=.i64) (by rw[cP];omega);rwa [uV,eQ]at this
   have la:bu (.pointer (some ⟨bq (tV x.v i),oo,none⟩)) W1=some (.int .u32 a,W1):=aP (ao u3) (by have:=ii (λl:List ad=>l[0]?) u4;simp only[lY,qZ,cP,eQ,Nat.zero_lt_succ,bi,mc,FI]at this;exact this);have st:=zj (z:=mI x i a) h'.gs Zj;have hho:M4 x.st[i] a (eu x.now x.v.cL)=mI x i a:=by unfold mI;rw[hg0]
   simp only[SX,t8,h'.l5,rE hs,LD,ix0,la,h'.l1,ze h' h1 h2,cV,i9,qO,fJ,fM,AV,hho,st];have Ft:fA W0 (W1.put sb (.cells ((x.st.set i (mI x i a)).flatMap dJ))) ob sb qb bq {x with st:=x.st.set i (mI x i a)} sv o s:=
    h'.step ⟨by rw[AW.bH];omega,λb _ b1 _=>AW.ay _ _ (bh b1)⟩ rfl rfl (by simp) rfl (AW.aW _ _ _) (h'.gq.keep (AW.ay _ _ h.ne.2.2) λk=>AW.ay _ _ (bh (h.nq k).2.2.2.1))
   have gi2:=gi (W1.put sb (.cells ((x.st.set i (mI x i a)).flatMap dJ))) (AW.ay _ _ (by have:=h.hi.2.1;omega));have q1':aU (W1.put sb (.cells ((x.st.set i (mI x i a)).flatMap dJ))) qb=some qv:=cT ((AW.ay _ _ h.ne.2.2).trans q1);have gsb:=AW.aW W1 sb (.cells ((x.st.set i (mI x i a)).flatMap dJ));have Wz:∀b,b≠sb->(W1.put sb (.cells ((x.st.set i (mI x i a)).flatMap dJ))).get b=W1.get b:=λb hb=>AW.ay _ _ (bh hb)
   have nn:(W1.put sb (.cells ((x.st.set i (mI x i a)).flatMap dJ))).next=W1.next:=rfl;generalize W1.put sb (.cells ((x.st.set i (mI x i a)).flatMap dJ))=W2 at *;have l6:bu (.pointer (some ⟨ob,6,none⟩)) W2=some (oa qb x.qs.length,W2):=Ft.l6;have NM:tV x.v i<qv.length:=by omega
   have sq:fm 1 (.pointer (some ⟨qb,tV x.v i,none⟩)) (.slice (some ⟨bq (tV x.v i),oo+1,none⟩) ((a::t).length-1) (eJ+1)) W2=some (ak,W2.put qb (.cells (qv.set (tV x.v i) (.slice (some ⟨bq (tV x.v i),oo+1,none⟩) ((a::t).length-1) (eJ+1))))):=by rw[jh,q1',bM,an NM]
   simp only[SX,l6,gi2,alq (show 0<(a::t).length by rw[cP];omega),ix,sq,af];have hf:Fr W (W2.put qb (.cells (qv.set (tV x.v i) (.slice (some ⟨bq (tV x.v i),oo+1,none⟩) ((a::t).length-1) (eJ+1))))) sb qb:=
    ⟨by rw[AW.bH];omega,λb hb b1 b2=>(AW.ay _ _ (bh b2)).trans ((Wz b b1).trans (l2.get b hb))⟩
   refine⟨aj,h.step (x':={x with st:=x.st.set i (mI x i a),qs:=x.qs.set (tV x.v i) t}) hf rfl rfl (by simp) (by simp) ((AW.ay _ _ (bh h.ne.2.2)).trans gsb) ?_,hf⟩;have gk:∀k,(W2.put qb (.cells (qv.set (tV x.v i) (.slice (some ⟨bq (tV x.v i),oo+1,none⟩) ((a::t).length-1) (eJ+1))))).get (bq k)=W1.get (bq k):=λk=>(AW.ay _ _ (bh (h.nq k).2.2.2.2)).trans (Wz _ (h.nq k).2.2.2.1)
   refine⟨_,AW.aW _ _ _,by simp[q2],λk ya=>?_⟩;have WS:k<x.qs.length:=by simpa using ya
   by_cases Xm:tV x.v i=k
   ·subst Xm;refine⟨_,by rw[y6 NM],?_⟩;rw[AK];exact QA.tail ((gk _).trans u3) u4
   ·obtain⟨u',v1,v2⟩:=q3 k WS;refine⟨u',by rw[Ah Xm];exact v1,?_⟩;rw[Ds Xm];exact v2.keep (gk k)
 obtain⟨⟨v,V⟩,k1,rfl,k2⟩:=hq;have hg:=yP k1;obtain⟨V2,e,q⟩:=Bl (v:=.tuple #[]) (Q:=λV=>fA W0 V ob sb qb bq (lz x i) sv o s/\Fr W V sb qb) k2 λhp=>⟨h.back k2.1 hp,.refl _ _ _⟩
 exact⟨V2,by rw[hg,e],q⟩
end
abbrev jr(r:mE):List ad:=[.ae r.er,.ae r.se,.ae r.n,.ae r.dl,.int .u32 r.t1,.int .u32 r.t2,.int .u64 r.t3,.int .u64 r.t4,.ae r.pl]
def Cb(W:AW):dg Tryz.prog 50 W=some (ba W.next,W.add (.cells (jr gz))):=aT (by kernel_rfl) rfl
def adX(x:ad)(W:AW):iU Tryz.prog 50 x W=dF 9 x W:=by kernel_rfl
def pY(e:Int):mE:={gz with er:=e}
def Ul(d:Int):mE:={gz with dl:=d}
def rpT(t:LG):mE:={gz with t1:=t.a,t2:=t.b,t3:=t.c,t4:=t.d}
def km(e:Int)(W:AW):fd Tryz.prog 50 [(0,.ae e)] W=some (fX (pY e),W):=aT (by kernel_rfl) rfl
def ac7(e:Int)(W:AW):fd Tryz.prog 50 [(3,.ae e)] W=some (fX (Ul e),W):=aT (by kernel_rfl) rfl
def akK(t:LG)(W:AW):fd Tryz.prog 50 [(4,RW t)] W=some (fX (rpT t),W):=aT (by kernel_rfl) rfl
def ni(W:AW):∃V,dg Tryz.prog 50 W=some (ba W.next,V)/\Le W V/\V.next=W.next+1/\V.get W.next=some (.cells (jr gz)):=⟨_,Cb W,(Le.refl _).add _,AW.av _ _,AW.aL _ _⟩
section
variable {W0 W V:AW} {ob sb qb:Nat} {bq:Nat->Nat} {x x':cS} {sv:ad} {o:kP} {s:Int}
def ud{b:Nat}{r0:mE}(hg:V.get b=some (.cells (jr r0)))(r:mE):fm 9 (ba b) (fX r) V=some (ak,V.put b (.cells (jr r)))/\iP Tryz.prog [(ba b,some 50)] (V.put b (.cells (jr r)))=some (fX r,V.put b (.cells (jr r))):=by refine⟨gU (vs:=(jr r).toArray) hg rfl rfl rfl,?_⟩;rw[rT,adX,bz (cs:=jr r) (ao (AW.aW _ _ _)) rfl];rfl
def gt{b:Nat}(h:fA W0 W ob sb qb bq x sv o s)(h2:fA W0 V ob sb qb bq x' sv o s)(hf:Fr W V sb qb)(hb:W.next<=b)(c:dH):fA W0 (V.put b c) ob sb qb bq x' sv o s/\Fr W (V.put b c) sb qb:=
 ⟨h2.other (by have:=h.le.next;omega) (by have:=h.hi;omega) (by have:=h.hi;omega) (by have:=h.hi;omega) (λk=>by have:=h.nq k;omega),
   by rw[AW.bH];exact hf.1,λi hi i1 i2=>(AW.ay _ _ (by omega)).trans (hf.2 i hi i1 i2)⟩
def Tx(x:cS)(s:Nat)(y:fq)(e:Int):cS:=if e=0 then lz {x with st:=x.st.set s y} s else x
structure Bd (x:cS) (s:Nat):Prop where
 i:s<x.st.length
 k:tV x.v s<x.qs.length
 v:x.v.ax.length<1000
 now:x.now<9223372036854775808
 cL:x.v.cL<9223372036854775808
 eO:x.v.eO<9223372036854775808
def Bd.ch{s:Nat}(h:Bd x s)(y:fq):Bd {x with st:=x.st.set s y} s:=⟨by simpa using h.i,h.k,h.v,h.now,h.cL,h.eO⟩
def Lu{s:Nat}(h:fA W0 W ob sb qb bq x sv o s)(hb:Bd x s)(y:fq)(e:Int):∃W',aY (.func (.func 154) #[] #[]) [ba ob,iS y,.ae e] W=some (fX (pY e),W')/\fA W0 W' ob sb qb bq (Tx x s y e) sv o s/\Fr W W' sb qb:=by
 have hq:Ok (nA aY (ba ob) (iS y) (.ae e) W) λr=>r.1=fX (pY e)/\fA W0 r.2 ob sb qb bq (Tx x s y e) sv o s/\Fr W r.2 sb qb:=by
  unfold nA;have MN:Le W (W.add (.cells (dJ y))):=(Le.refl W).add _;obtain⟨V,al,iN,n2,g2⟩:=ni (W.add (.cells (dJ y)));have g1:V.get W.next=some (.cells (dJ y)):=(iN.get _ (by rw[AW.av];omega)).trans (AW.aL _ _);have aM:=MN.trans iN;rw[AW.av]at n2 g2;simp only[SX];rw[al];simp only[SX,AW.av,bR g1];obtain⟨V2,k1,k2,k3⟩:=Fa (h.mono aM) hb.i y e;have g3:V2.get (W.next+1)=some (.cells (jr gz)):=(k3.2 _ (by omega) (by have:=h.hi;omega) (by have:=h.hi;omega)).trans g2;have f3:Fr W V2 sb qb:=(Fr.of_le aM).trans k3;by_cases c:e=0
  ·have e1:Ng x s y e={x with st:=x.st.set s y}:=an c;have e2:Tx x s y e=lz {x with st:=x.st.set s y} s:=an c;rw[e1]at k2;rw[e2];have IE:=hb.ch y;obtain⟨V3,m1,m2,m3⟩:=Tf k2 IE.i IE.k IE.v IE.now IE.cL;have g4:V3.get (W.next+1)=some (.cells (jr gz)):=(m3.2 _ (by have:=k3.1;omega) (by have:=h.hi;omega) (by have:=h.hi;omega)).trans g3;obtain⟨p1,p2⟩:=ud g4 (pY e);have d:=aK c;simp only[SX,k1,d,aS,k2.l19,aI,m1,km,p1,p2,af];exact⟨aj,gt h m2 (f3.trans m3) (by omega) _⟩
  ·have e1:Ng x s y e=x:=aq c;have e2:Tx x s y e=x:=aq c;rw[e1]at k2;rw[e2];obtain⟨p1,p2⟩:=ud g3 (pY e);have d:=aJ c;simp only[SX,k1,d,km,p1,p2,af];exact⟨aj,gt h k2 f3 (by omega) _⟩
 obtain⟨⟨v,V⟩,k1,rfl,k2⟩:=hq;have hg:=yw k1;obtain⟨V2,e',q⟩:=Bl (v:=fX (pY e)) (Q:=λV=>fA W0 V ob sb qb bq (Tx x s y e) sv o s/\Fr W V sb qb) k2 λhp=>⟨h.back k2.1 hp,.refl _ _ _⟩
 exact⟨V2,by rw[hg,e'],q⟩
def Z3(s:Nat)(y:fq)(e:Int):mE:=if e=0 then rpT (Qu y s)else pY e
def aeh{n:Nat}(h:n<4294967296)(W:AW):wu Tryz.prog 3 43 (.ae (n:Int)) W=some (.int .u32 (n:Int),W):=by
 have e:IntKind.u32.wrap (n:Int)=n:=by unfold IntKind.wrap;simp only[IntKind.bits,IntKind.signed];simp;omega
 have:=(aT (by kernel_rfl) rfl:wu Tryz.prog 3 43 (.ae (n:Int)) W=some (.int .u32 (IntKind.u32.wrap (n:Int)),W));rw[e]at this;exact this
def ame(W:AW):∃V,dg Tryz.prog 46 W=some (ba W.next,V)/\Le W V/\V.next=W.next+1/\V.get W.next=some (.cells (tiC ti0)):=⟨_,KI W,(Le.refl _).add _,AW.av _ _,AW.aL _ _⟩
def avf{b:Nat}{t0:LG}(hg:V.get b=some (.cells (tiC t0)))(t:LG):fm 4 (ba b) (RW t) V=some (ak,V.put b (.cells (tiC t)))/\dF 4 (ba b) (V.put b (.cells (tiC t)))=some (RW t,V.put b (.cells (tiC t))):=
 ⟨gU (vs:=(tiC t).toArray) hg rfl rfl rfl,bz (cs:=tiC t) (ao (AW.aW _ _ _)) rfl⟩
def Xj{s:Nat}(h:fA W0 W ob sb qb bq x sv o s)(hb:Bd x s)(hs:s<4294967296)(y:fq)(e:Int):∃W',aY (.func (.func 156) #[] #[]) [ba ob,iS y,.ae e] W=some (fX (Z3 s y e),W')/\fA W0 W' ob sb qb bq (Ng x s y e) sv o s/\Fr W W' sb qb:=by
 have hq:Ok (oR aY (ba ob) (iS y) (.ae e) W) λr=>r.1=fX (Z3 s y e)/\fA W0 r.2 ob sb qb bq (Ng x s y e) sv o s/\Fr W r.2 sb qb:=by
  unfold oR;have MN:Le W (W.add (.cells (dJ y))):=(Le.refl W).add _;obtain⟨V,al,iN,n2,g2⟩:=ni (W.add (.cells (dJ y)));have g1:V.get W.next=some (.cells (dJ y)):=(iN.get _ (by rw[AW.av];omega)).trans (AW.aL _ _);have aM:=MN.trans iN;rw[AW.av]at n2 g2;simp only[SX];rw[al];simp only[SX,AW.av,bR g1];obtain⟨V2,k1,k2,k3⟩:=Fa (h.mono aM) hb.i y e;have g3:V2.get (W.next+1)=some (.cells (jr gz)):=(k3.2 _ (by omega) (by have:=h.hi;omega) (by have:=h.hi;omega)).trans g2;have g3':V2.get W.next=some (.cells (dJ y)):=(k3.2 _ (by omega) (by have:=h.hi;omega) (by have:=h.hi;omega)).trans g1;have f3:Fr W V2 sb qb:=(Fr.of_le aM).trans k3;by_cases c:e=0
  ·have e2:Z3 s y e=rpT (Qu y s):=an c;rw[e2];have d:=aK c;obtain⟨V3,m1,m2,m3,m4⟩:=ame V2;obtain⟨p1,p2⟩:=avf m4 (Qu y s);have amx:Le V2 (V3.put V2.next (.cells (tiC (Qu y s)))):=m2.put (aR _) _;have hn4:(V3.put V2.next (.cells (tiC (Qu y s)))).next=V2.next+1:=m3;have g4:(V3.put V2.next (.cells (tiC (Qu y s)))).get (W.next+1)=some (.cells (jr gz)):=(amx.get _ (by have:=k3.1;omega)).trans g3;obtain⟨p3,p4⟩:=ud g4 (rpT (Qu y s));simp only[SX,k1,d,bR g3',aS,k2.l19,aI,aeh hs,m1,zb,p1,p2,akK,p3,p4,af];exact⟨aj,gt h (k2.mono amx) (f3.trans (.of_le amx)) (by omega) _⟩
  ·have e2:Z3 s y e=pY e:=aq c;rw[e2];obtain⟨p1,p2⟩:=ud g3 (pY e);have d:=aJ c;simp only[SX,k1,d,km,p1,p2,af];exact⟨aj,gt h k2 f3 (by omega) _⟩
 obtain⟨⟨v,V⟩,k1,rfl,k2⟩:=hq;have hg:=Ac k1;obtain⟨V2,e',q⟩:=Bl (v:=fX (Z3 s y e)) (Q:=λV=>fA W0 V ob sb qb bq (Ng x s y e) sv o s/\Fr W V sb qb) k2 λhp=>⟨h.back k2.1 hp,.refl _ _ _⟩
 exact⟨V2,by rw[hg,e'],q⟩
def lC(W0 W:AW)(ob sb qb:Nat)(bq:Nat->Nat)(sv:ad)(o:kP)(s:Int)(F:Nat)(x':cS)(r:mE):Prop:=∃W' bq',aY (.func (.func F) #[] #[]) [ba ob] W=some (fX r,W')/\fA W0 W' ob sb qb bq' x' sv o s/\W.next<=W'.next/\(∀b,ob<b->b<W.next->W'.get b=W.get b)/\∀k,bq' k=bq k\/W.next<=bq' k
def mS(h:fA W0 W ob sb qb bq x sv o s)(yS:sb<ob/\qb<ob){F:Nat}{t:Option (ad×AW)}{r:mE}(Nq:∀{r},t=some r->aY (.func (.func F) #[] #[]) [ba ob] W=some (gc W r))
 (ht:Ok t λq=>q.1=fX r/\fA W0 q.2 ob sb qb bq x' sv o s/\Fr W q.2 sb qb):lC W0 W ob sb qb bq sv o s F x' r:=by
 obtain⟨⟨v,V⟩,k1,rfl,k2⟩:=ht;obtain⟨V2,e',q1,q2,q3⟩:=Bl (v:=fX r) (Q:=λV=>fA W0 V ob sb qb bq x' sv o s/\Fr W V sb qb) k2 λhp=>⟨h.back k2.1 hp,.refl _ _ _⟩
 exact⟨V2,bq,by rw[Nq k1,e'],q1,q2,λb b1 b2=>q3 b b2 (by omega) (by omega),λ_=>.inl rfl⟩
def fA.l8(h:fA W0 W ob sb qb bq x sv o s):bu (.pointer (some ⟨ob,8,none⟩)) W=some (.int .u32 o.ow,W):=h.ld rfl
def fA.l13(h:fA W0 W ob sb qb bq x sv o s):bu (.pointer (some ⟨ob,13,none⟩)) W=some (.int .u32 o.to,W):=h.ld rfl
def fA.l2(h:fA W0 W ob sb qb bq x sv o s):bu (.pointer (some ⟨ob,2,none⟩)) W=some (.ae x.v.eO,W):=h.ld rfl
abbrev wE(o:kP):LG:=⟨o.t1,o.t2,o.t3,o.t4⟩
def fA.l14(h:fA W0 W ob sb qb bq x sv o s):dF 4 (.pointer (some ⟨ob,14,none⟩)) W=some (RW (wE o),W):=bz h.c rfl
abbrev cr(x:cS)(s:Nat):fq:=x.st.getD s Cv
def fA.ls{s:Nat}(h:fA W0 W ob sb qb bq x sv o s)(hs:s<x.st.length):dF 5 (.pointer (some ⟨sb,s*5,none⟩)) W=some (iS (cr x s),W):=by
 have e:x.st[s]? =some (cr x s):=by rw[bJ hs];simp[cr,bJ hs]
 exact Gn h.gs e
def ZG(h:fA W0 W ob sb qb bq x sv o s)(yS:sb<ob/\qb<ob)(h1n:x.now<9223372036854775808)(h2n:x.v.eO<9223372036854775808):lC W0 W ob sb qb bq sv o s 124 x (Ul (eu x.now x.v.eO)):=by refine mS h yS zE ?_;unfold uv;obtain⟨V,al,aM,n2,g2⟩:=ni W;have h1:=h.mono aM;obtain⟨p1,p2⟩:=ud g2 (Ul (eu x.now x.v.eO));simp only[SX,al,aS,aI,h1.l2,ze h1 h1n h2n,ac7,p1,p2,af];exact⟨aj,gt h h1 (.of_le aM) (aR _) _⟩
def Pq{s:Nat}(h:fA W0 W ob sb qb bq x sv o s)(yS:sb<ob/\qb<ob)(hb:Bd x s):lC W0 W ob sb qb bq sv o s 127 (Tx x s (Mg (cr x s) o.ow) (lW (cr x s) o.ow)) (pY (lW (cr x s) o.ow)):=by refine mS h yS wK ?_;unfold qF;obtain⟨V,al,aM,n2,g2⟩:=ni W;have h1:=h.mono aM;obtain⟨V2,c1,c2,c3⟩:=Lu h1 hb (Mg (cr x s) o.ow) (lW (cr x s) o.ow);obtain⟨p1,p2⟩:=ud ((c3.2 _ (by omega) (by have:=h.hi;omega) (by have:=h.hi;omega)).trans g2) (pY (lW (cr x s) o.ow));simp only[SX,al,aS,aI,h1.l5,h1.l19,rE hb.i,h1.ls hb.i,h1.l8,Ob,c1,p1,p2,af];exact⟨aj,gt h c2 ((Fr.of_le aM).trans c3) (aR _) _⟩
def S4{s:Nat}(h:fA W0 W ob sb qb bq x sv o s)(yS:sb<ob/\qb<ob)(hb:Bd x s):lC W0 W ob sb qb bq sv o s 130 (Tx x s (rfS (cr x s) (wE o)) (Cz (cr x s) (wE o))) (pY (Cz (cr x s) (wE o))):=by refine mS h yS xI ?_;unfold rL;obtain⟨V,al,aM,n2,g2⟩:=ni W;have h1:=h.mono aM;obtain⟨V2,c1,c2,c3⟩:=Lu h1 hb (rfS (cr x s) (wE o)) (Cz (cr x s) (wE o));obtain⟨p1,p2⟩:=ud ((c3.2 _ (by omega) (by have:=h.hi;omega) (by have:=h.hi;omega)).trans g2) (pY (Cz (cr x s) (wE o)));simp only[SX,al,aS,aI,Nat.reduceAdd,h1.l5,h1.l19,rE hb.i,h1.ls hb.i,h1.l14,Ql,c1,p1,p2,af];exact⟨aj,gt h c2 ((Fr.of_le aM).trans c3) (aR _) _⟩
def QJ{s:Nat}(h:fA W0 W ob sb qb bq x sv o s)(yS:sb<ob/\qb<ob)(hb:Bd x s):lC W0 W ob sb qb bq sv o s 131 (Tx x s (rvS (cr x s)) (Y7 (cr x s))) (pY (Y7 (cr x s))):=by refine mS h yS xd ?_;unfold rI;obtain⟨V,al,aM,n2,g2⟩:=ni W;have h1:=h.mono aM;obtain⟨V2,c1,c2,c3⟩:=Lu h1 hb (rvS (cr x s)) (Y7 (cr x s));obtain⟨p1,p2⟩:=ud ((c3.2 _ (by omega) (by have:=h.hi;omega) (by have:=h.hi;omega)).trans g2) (pY (Y7 (cr x s)));simp only[SX,al,aS,aI,h1.l5,h1.l19,rE hb.i,h1.ls hb.i,Qt,c1,p1,p2,af];exact⟨aj,gt h c2 ((Fr.of_le aM).trans c3) (aR _) _⟩
def aeN{s:Nat}(h:fA W0 W ob sb qb bq x sv o s)(yS:sb<ob/\qb<ob)(hb:Bd x s)(hs:s<4294967296):lC W0 W ob sb qb bq sv o s 128 (Ng x s (Ge (cr x s) o.ow) (EX (cr x s) o.ow)) (Z3 s (Ge (cr x s) o.ow) (EX (cr x s) o.ow)):=by refine mS h yS BV ?_;unfold wA;obtain⟨V,al,aM,n2,g2⟩:=ni W;have h1:=h.mono aM;obtain⟨V2,c1,c2,c3⟩:=Xj h1 hb hs (Ge (cr x s) o.ow) (EX (cr x s) o.ow);obtain⟨p1,p2⟩:=ud ((c3.2 _ (by omega) (by have:=h.hi;omega) (by have:=h.hi;omega)).trans g2) (Z3 s (Ge (cr x s) o.ow) (EX (cr x s) o.ow));simp only[SX,al,aS,aI,Nat.reduceAdd,h1.l5,h1.l19,rE hb.i,h1.ls hb.i,h1.l8,aba,c1,p1,p2,af];exact⟨aj,gt h c2 ((Fr.of_le aM).trans c3) (aR _) _⟩
def Mc{s:Nat}(h:fA W0 W ob sb qb bq x sv o s)(yS:sb<ob/\qb<ob)(hb:Bd x s)(hs:s<4294967296):lC W0 W ob sb qb bq sv o s 129 (Ng x s (Ym (cr x s) (wE o) o.to) (Zh (cr x s) (wE o))) (Z3 s (Ym (cr x s) (wE o) o.to) (Zh (cr x s) (wE o))):=by refine mS h yS vJ ?_;unfold pz;obtain⟨V,al,aM,n2,g2⟩:=ni W;have h1:=h.mono aM;obtain⟨V2,c1,c2,c3⟩:=Xj h1 hb hs (Ym (cr x s) (wE o) o.to) (Zh (cr x s) (wE o));obtain⟨p1,p2⟩:=ud ((c3.2 _ (by omega) (by have:=h.hi;omega) (by have:=h.hi;omega)).trans g2) (Z3 s (Ym (cr x s) (wE o) o.to) (Zh (cr x s) (wE o)));simp only[SX,al,aS,aI,Nat.reduceAdd,h1.l5,h1.l19,rE hb.i,h1.ls hb.i,h1.l14,h1.l13,Mq,c1,p1,p2,af];exact⟨aj,gt h c2 ((Fr.of_le aM).trans c3) (aR _) _⟩
def TS{s:Nat}(h:fA W0 W ob sb qb bq x sv o s)(yS:sb<ob/\qb<ob)(hb:Bd x s):lC W0 W ob sb qb bq sv o s 132 x (pY (Cz (cr x s) (wE o))):=by refine mS h yS vd ?_;unfold py;obtain⟨V,al,aM,n2,g2⟩:=ni W;have h1:=h.mono aM;obtain⟨p1,p2⟩:=ud g2 (pY (Cz (cr x s) (wE o)));simp only[SX,al,aS,aI,Nat.reduceAdd,h1.l5,h1.l19,rE hb.i,h1.ls hb.i,h1.l14,sF,km,p1,p2,af];exact⟨aj,gt h h1 (.of_le aM) (aR _) _⟩
def hoR(e d:Int):mE:=if e=0 then Ul d else pY e
def Yx{s:Nat}(h:fA W0 W ob sb qb bq x sv o s)(yS:sb<ob/\qb<ob)(hb:Bd x s):lC W0 W ob sb qb bq sv o s 125 (Ng x s (M4 (cr x s) o.ow (eu x.now x.v.cL)) (Oj (cr x s) (eu x.now x.v.cL))) (hoR (Oj (cr x s) (eu x.now x.v.cL)) (eu x.now x.v.cL)):=by
 refine mS h yS zX ?_;unfold uu;obtain⟨V,al,aM,n2,g2⟩:=ni W;have h1:=h.mono aM;obtain⟨V2,c1,c2,c3⟩:=Fa h1 hb.i (M4 (cr x s) o.ow (eu x.now x.v.cL)) (Oj (cr x s) (eu x.now x.v.cL));have g3:=(c3.2 _ (by omega) (by have:=h.hi;omega) (by have:=h.hi;omega)).trans g2;have hf:=(Fr.of_le aM).trans c3;by_cases c:Oj (cr x s) (eu x.now x.v.cL)=0
 ·have e1:hoR (Oj (cr x s) (eu x.now x.v.cL)) (eu x.now x.v.cL)=Ul (eu x.now x.v.cL):=an c;rw[e1];obtain⟨p1,p2⟩:=ud g3 (Ul (eu x.now x.v.cL));have d:=aK c;simp only[SX,al,aS,aI,Nat.reduceAdd,h1.l1,ze h1 hb.now hb.cL,h1.l5,h1.l19,rE hb.i,h1.ls hb.i,h1.l8,AV,c1,d,ac7,p1,p2,af];exact⟨aj,gt h c2 hf (aR _) _⟩
 ·have e1:hoR (Oj (cr x s) (eu x.now x.v.cL)) (eu x.now x.v.cL)=pY (Oj (cr x s) (eu x.now x.v.cL)):=aq c;rw[e1];obtain⟨p1,p2⟩:=ud g3 (pY (Oj (cr x s) (eu x.now x.v.cL)));have d:=aJ c;simp only[SX,al,aS,aI,Nat.reduceAdd,h1.l1,ze h1 hb.now hb.cL,h1.l5,h1.l19,rE hb.i,h1.ls hb.i,h1.l8,AV,c1,d,km,p1,p2,af];exact⟨aj,gt h c2 hf (aR _) _⟩
end
def QX(W:AW)(u:ad)(l:List Int)(B:Nat):Prop:=(l=[]/\(u=.slice none 0 0\/∃a,u=.slice (some a) 0 0))\/(l≠[]/\B<W.next/\u=.slice (some ⟨B,0,none⟩) l.length (eJ+1)/\W.get B=some (.cells (l.map (Value.int .u32))))
def QsX(W:AW)(qb:Nat)(bq:Nat->Nat)(qs:List (List Int)):Prop:=∃qv,W.get qb=some (.cells qv)/\qv.length=qs.length/\(∀k (h:k<qs.length),∃u,qv[k]? =some u/\QX W u qs[k] (bq k))/\∀k k' (h:k<qs.length) (h':k'<qs.length),k≠k'->qs[k]≠[]->qs[k']≠[]->bq k≠bq k'
def QX.mono{W W':AW}{u:ad}{l:List Int}{B:Nat}(h:QX W u l B)(aM:Le W W'):QX W' u l B:=by
 rcases h with h|⟨h0,h1,h2,h3⟩
 ·exact .inl h
 ·exact .inr ⟨h0,fb h1 aM.next,h2,by rw[aM.get _ h1];exact h3⟩
def QsX.mono{W W':AW}{qb:Nat}{bq:Nat->Nat}{qs:List (List Int)}(h:QsX W qb bq qs)(hb:qb<W.next)(aM:Le W W'):QsX W' qb bq qs:=by obtain⟨qv,a,b,c,d⟩:=h;exact⟨qv,by rw[aM.get _ hb];exact a,b,λk hk=>let⟨u,c1,c2⟩:=c k hk;⟨u,c1,c2.mono aM⟩,d⟩
def QX.qa{W:AW}{u:ad}{l:List Int}{B:Nat}(h:QX W u l B):QA W u l B:=by
 rcases h with h|⟨h0,h1,h2,h3⟩
 ·exact .inl h
 ·exact .inr ⟨0,_,h2,h3,by rw[jB,<-xl,cO]⟩
def QX.rd{W:AW}{u:ad}{l:List Int}{B:Nat}(h:QX W u l B):Qa W u l:=by
 rcases h with⟨rfl,rfl|⟨a,rfl⟩⟩|⟨h0,h1,rfl,h3⟩
 ·exact⟨_,_,rfl,.inl rfl⟩
 ·exact⟨_,_,rfl,.inl rfl⟩
 ·refine⟨_,_,rfl,.inr ⟨B,0,_,rfl,h1,ao h3,?_⟩⟩;rw[jB,iI,<-xl,cO,oX]
def QX.push{W:AW}{u:ad}{l:List Int}{B b:Nat}{a:Int}(h:QX W u l B)(hc:aH W b=some (qI a))(hl:l.length<=1000):
 ∃v' W',dB Tryz.prog W #[88,88] u (.slice (some ⟨b,0,none⟩) 1 1)=some (v',W')/\QX W' v' (l++[a]) W.next/\W'.next=W.next+1/\∀c,c<W.next->(l≠[]->c≠B)->W'.get c=W.get c:=by
 have key:∀{v':ad} {W':AW},g9 W' 1 qI v' (l++[a]) (some W.next)->QX W' v' (l++[a]) W.next:=λ{v' W'} k=>by
  rcases k with⟨k,-⟩|⟨k0,B',k1,k2,k3,k4⟩
  ·simp at k
  ·injection k1 with k1;subst k1;exact .inr ⟨k0,k2,k3,by rw[k4,oX]⟩
 rcases h with⟨rfl,rfl|⟨a',rfl⟩⟩|⟨h0,h1,rfl,h3⟩
 ·obtain⟨v',W',k1,k2,k3,k4⟩:=g9.push (P:=Tryz.prog) (W:=W) (l:=([]:List Int)) (bo:=none) Cm iu ol (.inl ⟨rfl,rfl,rfl⟩) hc (by simp) (by simp);exact⟨v',W',k1,key k2,k3,λc hc _=>k4 c hc (by simp)⟩
 ·refine⟨_,_,Fo Cm hc (by rw[jB]) rfl (by omega) rfl (by omega) (by omega),.inr ⟨by simp,by rw[AW.av];omega,rfl,?_⟩,AW.av _ _,λc hc _=>AW.aG _ _ (by omega)⟩;rw[AW.aL];first|done|rfl
 ·obtain⟨v',W',k1,k2,k3,k4⟩:=g9.push (P:=Tryz.prog) (W:=W) (l:=l) (bo:=some B) Cm iu ol (.inr ⟨h0,B,rfl,h1,rfl,by rw[h3,oX]⟩) hc (by omega) (by omega);exact⟨v',W',k1,key k2,k3,λc hc hn=>k4 c hc (λe=>by injection e with e;exact hn h0 e.symm)⟩
def yK(v:ge)(k:Nat):Int:=((v.ax[k]?).map (·.q)).getD 0
abbrev ik(x:cS)(k:Nat):List Int:=x.qs.getD k []
def wv(x:cS)(k:Nat)(ow:Int):Int:=if yK x.v k<=((ik x k).length:Int)then 5 else if((ik x k).any λy=>decide (ow=y))=true then 8 else 0
def yn(x:cS)(k:Nat)(ow:Int):cS:=if wv x k ow=0 then{x with qs:=x.qs.set k (ik x k++[ow])}else x
def rpP(n:Int):mE:={gz with pl:=n}
def y9(x:cS)(k:Nat)(ow:Int):mE:=if wv x k ow=0 then rpP (((ik x k).length:Int)+1)else pY (wv x k ow)
def MP(x:cS)(k:Nat)(ow:Int):Int:=nc (λy=>decide (ow=y)) (ik x k)
def Zk(l:List Int)(i:Nat):List Int:=l.take i++l.drop (i+1)
def sI(x:cS)(k:Nat)(ow:Int):cS:=if MP x k ow<0 then x else{x with qs:=x.qs.set k (Zk (ik x k) (MP x k ow).toNat)}
def F3(x:cS)(k:Nat)(ow:Int):mE:=if MP x k ow<0 then pY 4 else gz
def aaK(e:Int)(W:AW):fd Tryz.prog 50 [(5,.ae e)] W=some (fX (rpP e),W):=aT (by kernel_rfl) rfl
def aiJ(a:Int)(W:AW):cX Tryz.prog 88 1 [(0,.int .u32 a)] W=some (.slice (some ⟨W.next,0,none⟩) 1 1,W.add (.cells (qI a))):=aT (by kernel_rfl) rfl
def Wb{α:Type}{p:α->Bool}{l:List α}(h:¬nc p l<0):∃i:Nat,i<l.length/\nc p l=(i:Int):=by
 unfold nc at h|-;cases e:l.findIdx? p with
 |none=>rw[e]at h;exact absurd (by decide) h
 |some i=>exact⟨i,(List.findIdx?_eq_some_iff_findIdx_eq.1 e).1,rfl⟩
section
variable {W0 W V:AW} {ob sb qb:Nat} {bq:Nat->Nat} {x x':cS} {sv:ad} {o:kP} {s:Int}
def fA.l11(h:fA W0 W ob sb qb bq x sv o s):bu (.pointer (some ⟨ob,11,none⟩)) W=some (.ae o.sc,W):=h.ld rfl
def fA.l3(h:fA W0 W ob sb qb bq x sv o s):bu (.pointer (some ⟨ob,3,none⟩)) W=some (sv,W):=h.ld rfl
def ixQ{n b k:Nat}(hk:k<n)(W':AW):nY 1 (oa b n) (.ae (k:Int)) W'=some (.pointer (some ⟨b,k,none⟩),W'):=by have:=rH (z:=1) (b:=b) (o:=0) (c:=n) (W:=W') (k:=.i64) hk;rwa [aI,iI]at this
def agq(h:fA W0 W ob sb qb bq x sv o s){k:Nat}(hk:k<x.v.ax.length):∃b i,(∀W',nY 3 sv (.ae (k:Int)) W'=some (.pointer (some ⟨b,i,none⟩),W'))/\∀W',Le W0 W'->bu (.pointer (some ⟨b,i+2,none⟩)) W'=some (.ae (yK x.v k),W'):=by
 obtain⟨b,i,rv,g1,-,-,-,-,g5⟩:=ig.get h.sec.1 hk;refine⟨b,i,λW'=>g1 W' _,λW' aM=>?_⟩;have e:yK x.v k=x.v.ax[k].q:=by unfold yK;rw[bJ hk];rfl
 rw[e];exact g5 W' aM
def ah2(h:fA W0 W ob sb qb bq x sv o s)(hx:QsX W qb bq x.qs)(yS:sb<ob/\qb<ob/\∀k,bq k<ob){k:Nat}(hk:k<x.qs.length)(PG:o.sc=(k:Int))(Vb:k<x.v.ax.length)(hl:(ik x k).length<=1000):
 lC W0 W ob sb qb bq sv o s 133 (yn x k o.ow) (y9 x k o.ow):=by
 have e0:x.qs[k]=ik x k:=by simp[ik,bJ hk]
 have wj:∀{x':cS} {r:mE},(Ok (fS aY (ba ob) W) λq=>q.1=fX r/\fA W0 q.2 ob sb qb bq x' sv o s/\Fr W q.2 sb qb)->lC W0 W ob sb qb bq sv o s 133 x' r:=λht=>mS h ⟨yS.1,yS.2.1⟩ qu ht
 obtain⟨V,al,aM,n2,g2⟩:=ni W;have h1:=h.mono aM;obtain⟨qv,q1,q2,q3,q4⟩:=hx.mono h.hi.2.2 aM;obtain⟨u,u1,u2⟩:=q3 _ hk;rw[e0]at u2;have lu:bu (.pointer (some ⟨qb,k,none⟩)) V=some (u,V):=aP (ao q1) u1;have ul:∀V:AW,aZ Tryz.prog .len #[88] 3 #[false] [u] V=some (.ae ((ik x k).length:Int),V):=λV=>jm u2.rd oJ _ _ _
 obtain⟨sb',si,s1,s2⟩:=agq h1 Vb;by_cases c:yK x.v k<=((ik x k).length:Int)
 ·have e1:wv x k o.ow=5:=an c;have e2:yn x k o.ow=x:=aq (by rw[e1];omega);have e3:y9 x k o.ow=pY 5:=by unfold y9;rw[e1,bL]
  rw[e2,e3];refine wj ?_;unfold fS;obtain⟨p1,p2⟩:=ud g2 (pY 5);have d:=aK c;simp only[SX,al,aS,aI,Nat.reduceAdd,h1.l6,h1.l11,PG,ixQ hk,lu,ul,h1.l3,s1,s2 _ h1.le,d,km,p1,p2,af];exact⟨aj,gt h h1 (.of_le aM) (aR _) _⟩
 have d:=aJ c;by_cases c2:((ik x k).any λy=>decide (o.ow=y))=true
 ·have e1:wv x k o.ow=8:=by unfold wv;rw[aq c,an c2]
  have e2:yn x k o.ow=x:=aq (by rw[e1];omega);have e3:y9 x k o.ow=pY 8:=by unfold y9;rw[e1,bL]
  rw[e2,e3];refine wj ?_;unfold fS;obtain⟨p1,p2⟩:=ud g2 (pY 8);simp only[SX,al,aS,aI,Nat.reduceAdd,h1.l6,h1.l11,PG,ixQ hk,lu,ul,h1.l3,s1,s2 _ h1.le,d,h1.l8,GR u2.rd (by omega),c2,km,p1,p2,af];exact⟨aj,gt h h1 (.of_le aM) (aR _) _⟩
 have c2':((ik x k).any λy=>decide (o.ow=y))=false:=uY.2 c2;have e1:wv x k o.ow=0:=by unfold wv;rw[aq c,aq c2]
 have e2:yn x k o.ow={x with qs:=x.qs.set k (ik x k++[o.ow])}:=an e1;have e3:y9 x k o.ow=rpP (((ik x k).length:Int)+1):=an e1;rw[e2,e3];have avC:Le V (V.add (.cells (qI o.ow))):=(Le.refl V).add _;obtain⟨v',V5,k1,k2,k3,k4⟩:=(u2.mono avC).push (b:=V.next) (a:=o.ow) (bC) hl;have k3':V5.next=V.next+2:=by rw[k3,AW.av]
 have kk:∀c,c<V.next->(ik x k≠[]->c≠bq k)->V5.get c=V.get c:=λc hc hn=>(k4 c (by rw[AW.av];omega) hn).trans (AW.aG _ _ (by omega))
 have hbq:=h.nq k;have kq:V5.get qb=some (.cells qv):=(kk _ (by have:=h1.hi;omega) (λ_ e=>hbq.2.2.2.2 e.symm)).trans q1;have NM:k<qv.length:=by omega
 have k2':=k2;rcases k2 with⟨hn,-⟩|⟨-,k20,rfl,k21⟩
 ·simp at hn
 have sq:fm 1 (.pointer (some ⟨qb,k,none⟩)) (.slice (some ⟨(V.add (.cells (qI o.ow))).next,0,none⟩) (ik x k++[o.ow]).length (eJ+1)) V5=some (ak,V5.put qb (.cells (qv.set k (.slice (some ⟨(V.add (.cells (qI o.ow))).next,0,none⟩) (ik x k++[o.ow]).length (eJ+1))))):=by rw[jh,cT kq,bM,an NM]
 have nbE:(V.add (.cells (qI o.ow))).next=V.next+1:=AW.av _ _;rw[nbE]at sq k1 k2' k20 k21;obtain⟨U,hU⟩:∃U,U=V5.put qb (.cells (qv.set k (.slice (some ⟨V.next+1,0,none⟩) (ik x k++[o.ow]).length (eJ+1)))):=⟨_,rfl⟩;rw[<-hU]at sq;have uq:U.get qb=some (.cells (qv.set k (.slice (some ⟨V.next+1,0,none⟩) (ik x k++[o.ow]).length (eJ+1)))):=by rw[hU];exact AW.aW _ _ _
 have uo:∀c,c≠qb->U.get c=V5.get c:=λc hc=>by rw[hU];exact AW.ay _ _ (bh hc)
 have un:U.next=V.next+2:=by rw[hU,AW.bH,k3']
 clear hU;have l6:bu (.pointer (some ⟨qb,k,none⟩)) U=some (.slice (some ⟨V.next+1,0,none⟩) (ik x k++[o.ow]).length (eJ+1),U):=aP (ao uq) (y6 NM);have lx:(((ik x k++[o.ow]).length:Nat):Int)=((ik x k).length:Int)+1:=by simp
 have Uc:=h.hi;have g5:U.get W.next=some (.cells (jr gz)):=((uo _ (by omega)).trans (kk _ (by omega) (λ_=>by omega))).trans g2;obtain⟨p1,p2⟩:=ud g5 (rpP (((ik x k).length:Int)+1));have ht:fS aY (ba ob) W=some (fX (rpP (((ik x k).length:Int)+1)),U.put W.next (.cells (jr (rpP (((ik x k).length:Int)+1))))):=by unfold fS;simp only[SX,al,aS,aI,Nat.reduceAdd,h1.l6,h1.l11,PG,ixQ hk,lu,ul,h1.l3,s1,s2 _ h1.le,d,h1.l8,GR u2.rd (by omega),c2',aiJ,k1,sq,l6,df oJ,lx,aaK,p1,p2]
 have hg:=qu ht;have hnp:¬Le W (U.put W.next (.cells (jr (rpP (((ik x k).length:Int)+1))))):=λhp=>by
  have e:=hp.get qb Uc.2.2;rw[AW.ay _ _ (by omega),uq,<-aM.get qb Uc.2.2,q1]at e;injection e with e;injection e with e;have e4:=ii (λl:List ad=>l[k]?) e;simp only[y6 NM,u1]at e4;injection e4 with e4;rcases u2 with⟨hn,rfl|⟨a,rfl⟩⟩|⟨hn,hb,rfl,hc⟩
  ·cases e4
  ·injection e4 with _ e5 _;simp at e5
  ·injection e4 with e5;injection e5 with e5;injection e5 with e5;omega
 unfold OG gc at hg;rw[aq (λz=>hnp z.2)]at hg;refine⟨_,λj=>if j=k then V.next+1 else bq j,hg,?_,by rw[AW.bH];omega,λb b1 b2=>?_,λj=>?_⟩
 ·have gW:∀b,b<W.next->b≠qb->(ik x k≠[]->b≠bq k)->(U.put W.next (.cells (jr (rpP (((ik x k).length:Int)+1))))).get b=W.get b:=λb hb h2 h3=>(AW.ay _ _ (by omega)).trans ((uo _ h2).trans ((kk b (by omega) h3).trans (aM.get b hb)))
  refine{le:=⟨by rw[AW.bH];have:=h.le.next;omega,λb hb=>(gW b (fb hb h.le.next) (by have:=h.lo;omega) (λ_=>by omega)).trans (h.le.get b hb)⟩,lo:=h.lo,hi:=by rw[AW.bH];omega,ne:=h.ne,nq:=λj=>?_,sec:=h.sec,go:=?_,gs:=?_,gq:=?_}
  ·by_cases hj:j=k
   ·simp only[hj,bi,AW.bH];have:=h.le.next;omega
   ·simp only[hj,b9,AW.bH];have:=h.nq j;omega
  ·rw[gW _ Uc.1 h.ne.2.1 (λ_=>bh hbq.2.2.1)];simp only[xU];exact h.go
  ·rw[gW _ Uc.2.1 h.ne.2.2 (λ_=>bh hbq.2.2.2.1)];exact h.gs
  ·refine⟨_,(AW.ay _ _ (by omega)).trans uq,by simp[q2],λj hj=>?_⟩;have ZZ:j<x.qs.length:=by simpa using hj
   by_cases Z4:k=j
   ·subst Z4;refine⟨_,y6 NM,?_⟩;simp only[AK,bi];exact k2'.qa.keep ((AW.ay _ _ (by omega)).trans (uo _ (by omega)))
   ·obtain⟨w,w1,w2⟩:=q3 j ZZ;refine⟨w,by rw[Ah Z4];exact w1,?_⟩;simp only[Ds Z4,aq (bh Z4)];by_cases hem:x.qs[j]=[]
    ·rw[hem]at w2|-;rcases w2 with w2|⟨w3,-⟩
     ·exact .inl w2
     ·exact absurd rfl w3
    ·refine w2.qa.keep ?_;have hj3:=h.nq j;have e5:=gW (bq j) (by have:=h.nq j;have:=aM.next;omega) hj3.2.2.2.2 (λfe=>q4 j k ZZ hk (bh Z4) hem (by rw[e0];exact fe));exact e5.trans (aM.get _ (by omega)).symm
 ·have hbo:=yS.2.2 k;exact(AW.ay _ _ (by omega)).trans ((uo _ (by omega)).trans ((kk b (by omega) (λ_=>by omega)).trans (aM.get b b2)))
 ·show(if j=k then V.next+1 else bq j)=bq j\/W.next<=(if j=k then V.next+1 else bq j);by_cases hj:j=k
  ·rw[an hj];exact .inr (by omega)
  ·rw[aq hj];exact .inl rfl
end
def arr(n:Nat)(f:Nat->Int):List ad:=(List.range n).map λt=>.ae (f t)
def Bs(n:Nat)(f:Nat->Int):(arr n f).length=n:=by simp[arr]
def D7{n i:Nat}(f:Nat->Int)(hi:i<n):(arr n f)[i]? =some (.ae (f i)):=by unfold arr;rw[ly,List.getElem?_range hi];rfl
def ag4{n i:Nat}(f:Nat->Int)(x:Int):(arr n f).set i (.ae x)=arr n λt=>if t=i then x else f t:=by
 apply oi;intro t;rw[uk];by_cases c:i=t
 ·subst c;rw[an rfl,Bs];split
  ·rename_i h;rw[D7 _ h,an rfl]
  ·rw[kn (by rw[Bs];omega)]
 ·rw[aq c];by_cases h:t<n
  ·rw[D7 _ h,D7 _ h,aq (λe=>c e.symm)]
  ·rw[kn (by rw[Bs];omega),kn (by rw[Bs];omega)]
structure kN (V:AW) (B n:Nat) (f:Nat->Int) (U:AW):Prop where
 nx:U.next=V.next
 ot:∀b,b≠B->U.get b=V.get b
 bl:B<V.next
 ce:U.get B=some (.cells (arr n f))
section
variable {V U W:AW} {B n:Nat} {f g:Nat->Int}
def kN.congr(h:kN V B n f U)(hg:∀t,f t=g t):kN V B n g U:=by rw[<-show f=g from funext hg];exact h
def kN.ld(h:kN V B n f U){i:Nat}(hi:i<n):bu (.pointer (some ⟨B,i,none⟩)) U=some (.ae (f i),U):=aP (ao h.ce) (D7 f hi)
def kN.st(h:kN V B n f U){i:Nat}(hi:i<n)(x:Int):fm 1 (.pointer (some ⟨B,i,none⟩)) (.ae x) U=some (ak,U.put B (.cells (arr n λt=>if t=i then x else f t)))/\kN V B n (λt=>if t=i then x else f t) (U.put B (.cells (arr n λt=>if t=i then x else f t))):=by
 refine⟨?_,⟨by rw[AW.bH];exact h.nx,λb hb=>by rw[AW.ay _ _ (λe=>hb e.symm)];exact h.ot b hb,h.bl,AW.aW _ _ _⟩⟩;have hr:aU U B=some (arr n f):=by unfold aU;rw[h.ce]
 rw[sj rfl rfl,hr,bM,an (by rw[Bs];exact hi),ag4]
def Rq{n c i:Nat}(hi:i<n)(k:IntKind)(W:AW):nY 1 (.slice (some ⟨B,0,none⟩) n c) (.int k (i:Int)) W=some (.pointer (some ⟨B,i,none⟩),W):=by have:=rH (W:=W) (z:=1) (b:=B) (o:=0) (l:=n) (c:=c) (i:=i) (k:=k) hi;rwa [aI,iI]at this
def aeX{o t:Option (ad×AW)}(h:Ok t λr=>r.1=.tuple #[]/\kN V B n g r.2)(hW:kN V B n f W)(Nq:∀{r},t=some r->o=some (gc W r)):∃U,o=some (.tuple #[],U)/\kN V B n g U:=by
 obtain⟨⟨r,U⟩,h1,h2,h3⟩:=h;simp only at h2 h3;subst h2;rw[Nq h1];unfold gc;split
 ·rename_i c;refine⟨W,rfl,hW.nx,hW.ot,hW.bl,?_⟩;have:=c.2.get B (by rw[hW.nx];exact hW.bl);exact this.symm.trans h3.ce
 ·exact⟨U,rfl,h3⟩
end
def swp(f:Nat->Int)(i j:Nat)(t:Nat):Int:=if t=j then f i else if t=i then f j else f t
inductive nW (a b:Nat) (f:Nat->Int):(Nat->Int)->Prop
 |refl:nW a b f f
 |step {g:Nat->Int} {i j:Nat}:nW a b f g->a<=i->i<b->a<=j->j<b->nW a b f (swp g i j)
section
variable {a b a' b':Nat} {f g h:Nat->Int}
def nW.mono(p:nW a b f g)(h1:a'<=a)(h2:b<=b'):nW a' b' f g:=by
 induction p with
 |refl=>exact .refl
 |step _ q1 q2 q3 q4 ih=>exact .step ih (by omega) (by omega) (by omega) (by omega)
def nW.trans(p:nW a b f g)(q:nW a b g h):nW a b f h:=by
 induction q with
 |refl=>exact p
 |step _ q1 q2 q3 q4 ih=>exact .step ih q1 q2 q3 q4
def nW.out(p:nW a b f g){t:Nat}(ht:¬(a<=t/\t<b)):g t=f t:=by
 induction p with
 |refl=>rfl
 |step _ q1 q2 q3 q4 ih=>unfold swp;rw[aq (by rintro rfl;omega),aq (by rintro rfl;omega)];exact ih
def nW.sub(p:nW a b f g):∀t,a<=t->t<b->∃s,a<=s/\s<b/\g t=f s:=by
 induction p with
 |refl=>exactλt h1 h2=>⟨t,h1,h2,rfl⟩
 |step _ q1 q2 q3 q4 ih=>
  intro t h1 h2;unfold swp;split
  ·exact ih _ q1 q2
  ·split
   ·exact ih _ q3 q4
   ·exact ih t h1 h2
end
def sR(f:Nat->Int)(a b n:Nat)(t:Nat):Int:=if a<=t/\t<a+n then f (b+(t-a))else if b<=t/\t<b+n then f (a+(t-b))else f t
def W7(f:Nat->Int)(a b t:Nat):sR f a b 0 t=f t:=by unfold sR;rw[bL,bL]
def WN(f:Nat->Int){a b i:Nat}(h:a+(i+1)<=b)(t:Nat):swp (sR f a b i) (a+i) (b+i) t=sR f a b (i+1) t:=by
 unfold swp sR;repeat' split
 all_goals first|omega|rfl|(congr 1;omega)
def OW(f:Nat->Int){a b lo hi:Nat}(h1:lo<=a):∀n,a+n<=b->b+n<=hi->nW lo hi f (sR f a b n)
 |0,_,_=>by rw[show sR f a b 0=f from funext (W7 f a b)];exact .refl
 |n+1,h2,h3=>by rw[<-show swp (sR f a b n) (a+n) (b+n)=sR f a b (n+1)from funext (WN f h2)];exact .step (OW f h1 n (by omega) (by omega)) (by omega) (by omega) (by omega) (by omega)
def lF(f:Nat->Int)(a m b:Nat)(t:Nat):Int:=if a<=t/\t<a+(b-m)then f (t+(m-a))else if a+(b-m)<=t/\t<b then f (t-(b-m))else f t
def WP(g:Nat->Int){m i j:Nat}(hi:i<=m)(hj:0<j)(h:j<i)(t:Nat):lF (sR g (m-i) m j) (m-(i-j)) m (m+j) t=lF g (m-i) m (m+j) t:=by
 unfold lF sR;repeat' split
 all_goals first|omega|rfl|(congr 1;omega)
def Nd(g:Nat->Int){m i j:Nat}(hi:i<=m)(h0:0<i)(h:i<j)(t:Nat):lF (sR g (m-i) (m+j-i) i) (m-i) m (m+(j-i)) t=lF g (m-i) m (m+j) t:=by
 unfold lF sR;repeat' split
 all_goals first|omega|rfl|(congr 1;omega)
def aeH(g:Nat->Int){m i:Nat}(hi:i<=m)(t:Nat):sR g (m-i) m i t=lF g (m-i) m (m+i) t:=by
 unfold lF sR;repeat' split
 all_goals first|omega|rfl|(congr 1;omega)
def yD{a b:Nat}(h:a+b<1000000000000)(t:ag)(c d:Bool)(W:AW):bO Tryz.prog .add t c d (.ae (a:Int)) (.ae (b:Int)) W=some (.ae ((a+b:Nat):Int),W):=by rw[mF (by omega) (by omega)];congr 3
def BN{a b:Nat}(h:b<=a)(ha:a<1000000000000)(t:ag)(c d:Bool)(W:AW):bO Tryz.prog .sub t c d (.ae (a:Int)) (.ae (b:Int)) W=some (.ae ((a-b:Nat):Int),W):=by rw[tG (by omega) (by omega)];congr 3;omega
section
variable {V U W:AW} {B n c:Nat} {f g:Nat->Int} {fv:ad}
def Ke(hn:n<=10000)(hW:kN V B n f W){a b k:Nat}(h1:a+k<=b)(h2:b+k<=n):∃U,aY (.func (.func 226) #[] #[]) [.slice (some ⟨B,0,none⟩) n c,.ae (a:Int),.ae (b:Int),.ae (k:Int),fv] W=some (.tuple #[],U)/\kN V B n (sR f a b k) U:=by
 refine aeX ?_ hW qp;unfold kW;refine a8 k (by omega) (λi R U=>R 0=.slice (some ⟨B,0,none⟩) n c/\R 1=.ae (a:Int)/\R 2=.ae (b:Int)/\R 3=.ae (k:Int)/\R 10=.ae (i:Int)/\kN V B n (sR f a b i) U)
  (λr=>r.1=.exit 0/\kN V B n (sR f a b k) r.2.2) ⟨rfl,rfl,rfl,rfl,rfl,hW.congr λt=>(W7 f a b t).symm⟩ ?_ ?_ ?_
 ·rintro i R U hi ⟨r0,r1,r2,r3,my,u⟩;unfold fP;have t1:((i:Int)<(k:Int)):=by omega
  have t2:=λt c d W'=>yD (a:=i) (b:=1) (by omega) t c d W'
  have ta:=λt c d W'=>yD (a:=a) (b:=i) (by omega) t c d W'
  have tb:=λt c d W'=>yD (a:=b) (b:=i) (by omega) t c d W'
  obtain⟨s1,u1⟩:=u.st (i:=a+i) (by omega) (sR f a b i (b+i));obtain⟨s2,u2⟩:=u1.st (i:=b+i) (by omega) (sR f a b i (a+i));have ha:∀q W',nY 1 (.slice (some ⟨B,0,none⟩) n c) (.int q ((a+i:Nat):Int)) W'=some (.pointer (some ⟨B,a+i,none⟩),W'):=λq W'=>Rq (by omega) q W'
  have hb:∀q W',nY 1 (.slice (some ⟨B,0,none⟩) n c) (.int q ((b+i:Nat):Int)) W'=some (.pointer (some ⟨B,b+i,none⟩),W'):=λq W'=>Rq (by omega) q W'
  simp only[SX,r0,r1,r2,r3,my,t1,ta,tb,ha,hb,u.ld (i:=b+i) (by omega),u.ld (i:=a+i) (by omega),s1,s2,show((1:Int))=((1:Nat):Int)from rfl,t2,af];refine .inl ⟨aj,r0,r1,r2,r3,rfl,u2.congr λt=>?_⟩;rw[<-WN f (by omega) t];unfold swp;by_cases e1:t=b+i
  ·rw[an e1]
  ·rw[aq e1]
 ·rintro R U ⟨r0,r1,r2,r3,my,u⟩;unfold fP;have t1:¬((k:Int)<(k:Int)):=by omega
  simp only[SX,r3,my,t1,af];exact⟨by simp,aj,u⟩
 ·rintro⟨q,R,U⟩ ⟨rfl,u⟩;simp only[SX,af];exact⟨aj,u⟩
def ZE(hn:n<=10000)(hW:kN V B n f W){a m b:Nat}(h1:a<m)(h2:m<b)(h3:b<=n):∃U,aY (.func (.func 221) #[] #[]) [.slice (some ⟨B,0,none⟩) n c,.ae (a:Int),.ae (m:Int),.ae (b:Int),fv] W=some (.tuple #[],U)/\kN V B n (lF f a m b) U:=by
 refine aeX ?_ hW sN;unfold nQ;have s1:=λt c d W'=>BN (a:=m) (b:=a) (by omega) (by omega) t c d W'
 have s2:=λt c d W'=>BN (a:=b) (b:=m) (by omega) (by omega) t c d W'
 simp only[SX,s1,s2];refine a8 (b-a) (by omega) (λk R U=>R 0=.slice (some ⟨B,0,none⟩) n c/\R 2=.ae (m:Int)/\R 4=fv/\∃i j:Nat,R 10=.ae (i:Int)/\R 11=.ae (j:Int)/\0<i/\0<j/\i<=m/\m+j<=n/\i+j+k<=b-a/\∃g,kN V B n g U/\∀t,lF g (m-i) m (m+j) t=lF f a m b t)
  (λr=>r.1=.exit 0/\r.2.1 0=.slice (some ⟨B,0,none⟩) n c/\r.2.1 2=.ae (m:Int)/\r.2.1 4=fv/\∃i:Nat,r.2.1 10=.ae (i:Int)/\0<i/\i<=m/\m+i<=n/\∃g,kN V B n g r.2.2/\∀t,lF g (m-i) m (m+i) t=lF f a m b t)
  ⟨rfl,rfl,rfl,m-a,b-m,rfl,rfl,by omega,by omega,by omega,by omega,by omega,f,hW,λt=>by rw[show m-(m-a)=a by omega,show m+(b-m)=b by omega]⟩ ?_ ?_ ?_
 ·rintro k R U hk ⟨r0,r2,r4,i,j,my,nZ,i0,j0,im,jn,hm,g,u,hg⟩;unfold ll;by_cases e:i=j
  ·subst e;have t1:(!decide ((i:Int)=(i:Int)))=false:=by simp
   simp only[SX,my,nZ,af];exact .inr ⟨by simp,aj,r0,r2,r4,i,my,i0,im,jn,g,u,hg⟩
  ·have t1:(!decide ((i:Int)=(j:Int)))=true:=by rw[bS];rfl
   by_cases lt:j<i
   ·have t2:decide ((j:Int)<(i:Int))=true:=cd;have s3:=λt c d W'=>BN (a:=m) (b:=i) (by omega) (by omega) t c d W'
    have s4:=λt c d W'=>BN (a:=i) (b:=j) (by omega) (by omega) t c d W'
    obtain⟨U1,e1,e2⟩:=Ke (c:=c) (fv:=fv) hn u (a:=m-i) (b:=m) (k:=j) (by omega) (by omega);simp only[SX,r0,r2,r4,my,nZ,t1,t2,s3,e1,s4,af];refine .inl ⟨aj,r0,r2,r4,i-j,j,rfl,nZ,by omega,j0,by omega,jn,by omega,_,e2,λt=>?_⟩;rw[WP g im j0 lt t];exact hg t
   ·have t2:decide ((j:Int)<(i:Int))=false:=bS;have s3:=λt c d W'=>BN (a:=m) (b:=i) (by omega) (by omega) t c d W'
    have s4:=λt c d W'=>BN (a:=j) (b:=i) (by omega) (by omega) t c d W'
    have s5:=λt c d W'=>yD (a:=m) (b:=j) (by omega) t c d W'
    have s6:=λt c d W'=>BN (a:=m+j) (b:=i) (by omega) (by omega) t c d W'
    obtain⟨U1,e1,e2⟩:=Ke (c:=c) (fv:=fv) hn u (a:=m-i) (b:=m+j-i) (k:=i) (by omega) (by omega);simp only[SX,r0,r2,r4,my,nZ,t1,t2,s3,s5,s6,e1,s4,af];refine .inl ⟨aj,r0,r2,r4,i,j-i,my,rfl,i0,by omega,im,by omega,by omega,_,e2,λt=>?_⟩;rw[Nd g im i0 (by omega) t];exact hg t
 ·rintro R U ⟨r0,r2,r4,i,j,my,nZ,i0,j0,im,jn,hm,g,u,hg⟩;omega
 ·rintro⟨q,R,U⟩ ⟨rfl,r0,r2,r4,i,my,i0,im,jn,g,u,hg⟩;simp only at r0 r2 r4 my u;have s3:=λt c d W'=>BN (a:=m) (b:=i) (by omega) (by omega) t c d W'
  obtain⟨U1,e1,e2⟩:=Ke (c:=c) (fv:=fv) hn u (a:=m-i) (b:=m) (k:=i) (by omega) (by omega);simp only[SX,r0,r2,r4,my,s3,e1,af];exact⟨aj,e2.congr λt=>(aeH g im t).trans (hg t)⟩
def NV(f:Nat->Int):∀(k:Nat) {m i j lo hi:Nat} (g:Nat->Int),i+j<=k->0<i->0<j->lo<=m-i->i<=m->m+j<=hi->nW lo hi f g->nW lo hi f (lF g (m-i) m (m+j))
 |0,m,i,j,lo,hi,g,h,i0,_,_,_,_,_=>by omega
 |k+1,m,i,j,lo,hi,g,h,i0,j0,h1,h2,h3,p=>by
  by_cases e:i=j
  ·subst e;rw[<-show sR g (m-i) m i=lF g (m-i) m (m+i)from funext (aeH g h2)];exact p.trans (OW g h1 i (by omega) (by omega))
  ·by_cases lt:j<i
   ·rw[<-show lF (sR g (m-i) m j) (m-(i-j)) m (m+j)=_ from funext (WP g h2 j0 lt)];exact NV f k _ (by omega) (by omega) j0 (by omega) (by omega) h3 (p.trans (OW g h1 j (by omega) (by omega)))
   ·rw[<-show lF (sR g (m-i) (m+j-i) i) (m-i) m (m+(j-i))=_ from funext (Nd g h2 i0 (by omega))];exact NV f k _ (by omega) i0 (by omega) h1 h2 (by omega) (p.trans (OW g h1 i (by omega) (by omega)))
def RC(f:Nat->Int){a m b:Nat}(h1:a<m)(h2:m<b):nW a b f (lF f a m b):=by have:=NV f (b-a) (m:=m) (i:=m-a) (j:=b-m) (lo:=a) (hi:=b) f (by omega) (by omega) (by omega) (by omega) (by omega) (by omega) .refl;rwa [show m-(m-a)=a by omega,show m+(b-m)=b by omega]at this
end
def wf1:sW ak false=false:=aT rfl rfl
def wf2:sW ak true=false:=aT rfl rfl
def LF(k:Int->Int)(x y:Int):Prop:=k x<k y\/k x=k y/\x<y
def LF.trans{k:Int->Int}{x y z:Int}(h1:LF k x y)(h2:LF k y z):LF k x z:=by unfold LF at *;omega
def sw(k:Int->Int)(f:Nat->Int)(a b:Nat):Prop:=∀i j,a<=i->i<j->j<b->LF k (f i) (f j)
def Iq(V:AW)(B n:Nat)(fv:ad)(k:Int->Int)(D:Int->Prop):Prop:=∀U f,kN V B n f U->∀x y,D x->D y->∃c:Int,aY fv [.ae x,.ae y] U=some (.ae c,U)/\(c<0<->k x<k y)
section
variable {V U W:AW} {B n c:Nat} {f g:Nat->Int} {fv:ad} {k:Int->Int} {D:Int->Prop}
def nW.qP{a b:Nat}(p:nW a b f g)(hb:b<=n)(hD:∀t,t<n->D (f t)):∀t,t<n->D (g t):=λt ht=>by
 by_cases h:a<=t/\t<b
 ·obtain⟨s,s1,s2,e⟩:=p.sub t h.1 h.2;rw[e];exact hD s (by omega)
 ·rw[p.out h];exact hD t ht
def JW{o t:Option (ad×AW)}{Q:(Nat->Int)->Prop}(h:Ok t λr=>r.1=.tuple #[]/\∃g,kN V B n g r.2/\Q g)(hW:kN V B n f W)(Nq:∀{r},t=some r->o=some (gc W r)):∃U g,o=some (.tuple #[],U)/\kN V B n g U/\Q g:=by obtain⟨r,h1,h2,g,h3,h4⟩:=h;obtain⟨U,e1,e2⟩:=aeX ⟨r,h1,h2,h3⟩ hW Nq;exact⟨U,g,e1,e2,h4⟩
def YA(k:Int->Int)(f g:Nat->Int)(a i j:Nat):Prop:=nW a (i+1) f g/\g j=f i/\(∀s t,a<=s->s<t->t<=i->t≠j->LF k (g s) (g t))/\∀s,a<=s->s<=i->s≠j->g s<f i
def YA.step{a i j:Nat}(h:YA k f g a i j)(h1:a<j)(h2:j<=i)(hk:k (g j)<k (g (j-1))):YA k f (swp g j (j-1)) a i (j-1):=by
 obtain⟨p,e,s,l⟩:=h;refine⟨.step p (by omega) (by omega) (by omega) (by omega),?_,λx y x1 x2 x3 x4=>?_,λx x1 x2 x3=>?_⟩
 ·unfold swp;rw[an rfl];exact e
 ·unfold swp;rw[aq x4];by_cases c:y=j
  ·subst c;rw[an rfl];by_cases c2:x=y-1
   ·rw[an c2];exact .inl hk
   ·rw[aq c2,bL];exact s x (y-1) x1 (by omega) (by omega) (by omega)
  ·rw[aq c];by_cases c2:x=j-1
   ·rw[an c2];exact s j y (by omega) (by omega) x3 c
   ·rw[aq c2];by_cases c3:x=j
    ·rw[an c3];exact s (j-1) y (by omega) (by omega) x3 c
    ·rw[aq c3];exact s x y x1 x2 x3 c
 ·unfold swp;rw[aq x3];split
  ·exact l (j-1) (by omega) (by omega) (by omega)
  ·rename_i c;exact l x x1 x2 c
def YA.done{a i j:Nat}(h:YA k f g a i j)(h1:a<=j)(h2:j<=i)(hk:j=a\/¬k (g j)<k (g (j-1))):sw k g a (i+1):=by
 obtain⟨p,e,s,l⟩:=h;intro x y x1 x2 x3;by_cases c:y=j
 ·subst c;rcases hk with hk|hk
  ·omega
  ·have h3:LF k (g (y-1)) (g y):=by have:=l (y-1) (by omega) (by omega) (by omega);rw[<-e]at this;unfold LF;omega
   by_cases c2:x=y-1
   ·rw[c2];exact h3
   ·exact(s x (y-1) x1 (by omega) (by omega) (by omega)).trans h3
 ·exact s x y x1 x2 (by omega) c
def ab0{R:ai.Fr}{K:LT->Option LT}{G:LT->Prop}(hn:n<=10000)(hc:Iq V B n fv k D)(hD:∀t,t<n->D (f t)){a i:Nat}(hi:a<i)(nH:i<n)(hW:kN V B n f U)(hs:sw k f a i)(hl:∀s,a<=s->s<i->f s<f i)
 (r0:R 0=.slice (some ⟨B,0,none⟩) n c)(r1:R 1=.ae (a:Int))(r3:R 3=fv)(r9:R 9=.ae (i:Int))
 (hk:∀(R':ai.Fr) (U':AW) g,R' 0=R 0->R' 1=R 1->R' 2=R 2->R' 3=R 3->R' 8=R 8->kN V B n g U'->nW a (i+1) f g->sw k g a (i+1)->Ok (K (X.exit 2,R',U')) G):
 Ok (eY (fV (cY aY) R U) K) G:=by
 refine a8 (i-a) (by omega) (λq Q U=>Q 0=R 0/\Q 1=R 1/\Q 2=R 2/\Q 3=R 3/\Q 8=R 8/\∃j:Nat,j+q=i/\a<=j/\Q 9=.ae (j:Int)/\∃g,kN V B n g U/\YA k f g a i j)
  (λr=>r.1=.exit 2/\r.2.1 0=R 0/\r.2.1 1=R 1/\r.2.1 2=R 2/\r.2.1 3=R 3/\r.2.1 8=R 8/\∃g,kN V B n g r.2.2/\nW a (i+1) f g/\sw k g a (i+1))
  ⟨rfl,rfl,rfl,rfl,rfl,i,by omega,by omega,r9,f,hW,.refl,rfl,λs t h1 h2 h3 h4=>hs s t h1 h2 (by omega),λs h1 h2 h3=>hl s h1 (by omega)⟩ ?_ ?_ ?_
 ·rintro q Q U hq ⟨q0,q1,q2,q3,q8,j,j1,j2,q9,g,u,I⟩;have ja:a<j:=by omega
  have z1:((a:Int)<(j:Int)):=by omega
  have s1:=λt c d W'=>BN (a:=j) (b:=1) (by omega) (by omega) t c d W'
  have hDg:=I.1.qP (n:=n) (by omega) hD;obtain⟨cv,c1,c2⟩:=hc U g u (g j) (g (j-1)) (hDg j (by omega)) (hDg (j-1) (by omega));have x1:∀k W',nY 1 (.slice (some ⟨B,0,none⟩) n c) (.int k (j:Int)) W'=some (.pointer (some ⟨B,j,none⟩),W'):=λk W'=>Rq (by omega) k W'
  have x2:∀k W',nY 1 (.slice (some ⟨B,0,none⟩) n c) (.int k ((j-1:Nat):Int)) W'=some (.pointer (some ⟨B,j-1,none⟩),W'):=λk W'=>Rq (by omega) k W'
  unfold cY;by_cases lt:cv<0
  ·have d1:=aK lt;obtain⟨v1,u1⟩:=u.st (i:=j) (by omega) (g (j-1));obtain⟨v2,u2⟩:=u1.st (i:=j-1) (by omega) (g j);simp only[SX,q0,q1,q3,r0,r1,r3,q9,z1,show((1:Int))=((1:Nat):Int)from rfl,s1,x1,x2,u.ld (i:=j) (by omega),u.ld (i:=j-1) (by omega),c1,d1,v1,v2,af];refine .inl ⟨aj,q0.trans r0,q1.trans r1,q2,q3.trans r3,q8,j-1,by omega,by omega,rfl,_,u2,?_⟩;have:=I.step ja (by omega) (c2.1 lt);unfold swp at this;exact this
  ·have d1:=aJ lt;simp only[SX,q0,q1,q3,r0,r1,r3,q9,z1,show((1:Int))=((1:Nat):Int)from rfl,s1,x1,x2,u.ld (i:=j) (by omega),u.ld (i:=j-1) (by omega),c1,d1,af];exact .inr ⟨by simp,aj,q0.trans r0,q1.trans r1,q2,q3.trans r3,q8,g,u,I.1,I.done j2 (by omega) (.inr λh=>lt (c2.2 h))⟩
 ·rintro Q U ⟨q0,q1,q2,q3,q8,j,j1,j2,q9,g,u,I⟩;have ja:j=a:=by omega
  have z1:¬((a:Int)<(j:Int)):=by omega
  unfold cY;simp only[SX,q1,r1,q9,z1,af];exact⟨by simp,aj,q0,q1.trans r1,q2,q3,q8,g,u,I.1,I.done j2 (by omega) (.inl ja)⟩
 ·rintro⟨q,Q,U⟩ ⟨rfl,q0,q1,q2,q3,q8,g,u,p,s⟩;exact hk Q U g q0 q1 q2 q3 q8 u p s
def DC(hn:n<=10000)(hc:Iq V B n fv k D)(hD:∀t,t<n->D (f t))(hW:kN V B n f W){a b:Nat}(ha:a<=100000)(hb:b<=n)(hl:∀s t,a<=s->s<t->t<b->f s<f t):∃U g,aY (.func (.func 213) #[] #[]) [.slice (some ⟨B,0,none⟩) n c,.ae (a:Int),.ae (b:Int),fv] W=some (.tuple #[],U)/\kN V B n g U/\nW a b f g/\sw k g a b:=by
 by_cases hab:b<=a
 ·refine JW (Q:=λg=>nW a b f g/\sw k g a b) ?_ hW eW;unfold dI;have t2:=λt c d W'=>yD (a:=a) (b:=1) (by omega) t c d W'
  simp only[SX,show((1:Int))=((1:Nat):Int)from rfl,t2];refine a8 0 (by omega) (λq Q U=>U=W/\Q 2=.ae (b:Int)/\Q 8=.ae ((a+1:Nat):Int)) (λr=>r.1=.exit 0/\r.2.2=W) ⟨rfl,rfl,rfl⟩ (λq Q U h=>by omega) ?_ ?_
  ·rintro Q U ⟨rfl,q2,q8⟩;unfold cM;have z1:¬(((a+1:Nat):Int)<(b:Int)):=by omega
   simp only[SX,q2,q8,z1,af];exact⟨by simp,aj,aj⟩
  ·rintro⟨q,Q,U⟩ ⟨rfl,rfl⟩;simp only[SX,af];exact⟨aj,f,hW,.refl,λi j h1 h2 h3=>by omega⟩
 ·refine JW (Q:=λg=>nW a b f g/\sw k g a b) ?_ hW eW;unfold dI;have t2:=λt c d W'=>yD (a:=a) (b:=1) (by omega) t c d W'
  simp only[SX,show((1:Int))=((1:Nat):Int)from rfl,t2];refine a8 (b-(a+1)) (by omega) (λq Q U=>Q 0=.slice (some ⟨B,0,none⟩) n c/\Q 1=.ae (a:Int)/\Q 2=.ae (b:Int)/\Q 3=fv/\Q 8=.ae ((a+1+q:Nat):Int)/\∃g,kN V B n g U/\nW a (a+1+q) f g/\sw k g a (a+1+q))
   (λr=>r.1=.exit 0/\∃g,kN V B n g r.2.2/\nW a b f g/\sw k g a b) ⟨rfl,rfl,rfl,rfl,rfl,f,hW,.refl,λi j h1 h2 h3=>by omega⟩ ?_ ?_ ?_
  ·rintro q Q U hq ⟨q0,q1,q2,q3,q8,g,u,p,s⟩;unfold cM;have z1:(((a+1+q:Nat):Int)<(b:Int)):=by omega
   have t3:=λt c d W'=>yD (a:=a+1+q) (b:=1) (by omega) t c d W'
   simp only[SX,q2,q8,z1];refine ab0 (f:=g) (i:=a+1+q) (a:=a) (c:=c) hn hc (p.qP (by omega) hD) (by omega) (by omega) u s (λx x1 x2=>?_) q0 q1 q3 rfl λR' U' g' r0 r1 r2 r3 r8 u' p' s'=>?_
   ·obtain⟨y,y1,y2,e⟩:=p.sub x x1 x2;rw[e,p.out (by omega)];exact hl y _ y1 y2 (by omega)
   ·have r8':R' 8=.ae ((a+1+q:Nat):Int):=r8.trans q8;simp only[SX,r8',show((1:Int))=((1:Nat):Int)from rfl,t3,af];exact .inl ⟨aj,r0.trans q0,r1.trans q1,r2.trans q2,r3.trans q3,rfl,g',u',(p.mono (aR _) (by omega)).trans p',s'⟩
  ·rintro Q U ⟨q0,q1,q2,q3,q8,g,u,p,s⟩;unfold cM;rw[show a+1+(b-(a+1))=b by omega]at q8 p s;have z1:¬((b:Int)<(b:Int)):=by omega
   simp only[SX,q2,q8,z1,af];exact⟨by simp,aj,g,u,p,s⟩
  ·rintro⟨q,Q,U⟩ ⟨rfl,g,u,p,s⟩;simp only[SX,af];exact⟨aj,g,u,p,s⟩
end
def Tc{n:Nat}(h:n<1000000000000)(W:AW):wu Tryz.prog 3 228 (.ae (n:Int)) W=some (.int .u64 (n:Int),W):=by have:wu Tryz.prog 3 228 (.ae (n:Int)) W=some (.int .u64 (IntKind.u64.wrap (n:Int)),W):=aT (by kernel_rfl) rfl;rw[this,EH (by omega) (by omega)]
def cv3{n:Nat}(h:n<1000000000000)(W:AW):wu Tryz.prog 228 3 (.int .u64 (n:Int)) W=some (.ae (n:Int),W):=by have:wu Tryz.prog 228 3 (.int .u64 (n:Int)) W=some (.ae (IntKind.i64.wrap (n:Int)),W):=aT (by kernel_rfl) rfl;rw[this,zJ (by omega) (by omega)]
def J9(n:Nat)(W:AW):bO Tryz.prog .shr 228 false true (.int .u64 (n:Int)) (.int .u64 1) W=some (.int .u64 ((n/2:Nat):Int),W):=by refine we (by simp[rV,H7]) rfl rfl rfl ?_;simp[eqGuard,binOp,Op.shift];have e:((n:Int)).fdiv (2^ min 1 IntKind.u64.bits)=(n:Int)/2:=Pn _ (by decide);rw[e];rfl
def Tk{a:Nat}(h:a<100000000000)(t:ag)(c d:Bool)(W:AW):bO Tryz.prog .add t c d (.ae (a:Int)) (.ae 1) W=some (.ae ((a+1:Nat):Int),W):=yD (a:=a) (b:=1) (by omega) t c d W
def aeg{a:Nat}(h:1<=a)(ha:a<100000000000)(t:ag)(c d:Bool)(W:AW):bO Tryz.prog .sub t c d (.ae (a:Int)) (.ae 1) W=some (.ae ((a-1:Nat):Int),W):=BN (a:=a) (b:=1) h (by omega) t c d W
section
variable {ρ:Type} {V U W:AW} {B n c:Nat} {f g:Nat->Int} {fv:ad} {k:Int->Int} {D:Int->Prop} {R:ai.Fr} {K:LT->Option ρ} {G:ρ->Prop}
def Ui(hn:n<=10000)(hc:Iq V B n fv k D)(hD:∀t,t<n->D (f t))(u:kN V B n f U){s0 r0 p:Nat}(h1:s0<=r0)(h2:r0<=n)(hp:p<100000)(hb:∀x,s0<=x->x<r0->x<=p/\p-x<n)
 (hX:∀x y,s0<=x->x<=y->y<r0->k (f x)<=k (f y))(hY:∀x y,s0<=x->x<=y->y<r0->k (f (p-y))<=k (f (p-x)))
 (q0:R 0=.slice (some ⟨B,0,none⟩) n c)(q4:R 4=fv)(q20:R 20=.ae (s0:Int))(q21:R 21=.ae (r0:Int))(q22:R 22=.ae (p:Int))
 (hk:∀(R':ai.Fr) (st:Nat),s0<=st->st<=r0->(∀x,s0<=x->x<st->k (f x)<=k (f (p-x)))->(∀x,st<=x->x<r0->k (f (p-x))<k (f x))->R' 0=R 0->R' 1=R 1->R' 2=R 2->R' 3=R 3->R' 4=R 4->R' 18=R 18->R' 19=R 19->R' 20=.ae (st:Int)->Ok (K (X.exit 8,R',U)) G):
 Ok (eY (fV (dZ aY) R U) K) G:=by
 refine a8 (r0-s0) (by omega) (λi Q U'=>U'=U/\Q 0=R 0/\Q 1=R 1/\Q 2=R 2/\Q 3=R 3/\Q 4=R 4/\Q 18=R 18/\Q 19=R 19/\Q 22=R 22/\∃st r:Nat,Q 20=.ae (st:Int)/\Q 21=.ae (r:Int)/\s0<=st/\st<=r/\r<=r0/\r-st+i<=r0-s0/\(∀x,s0<=x->x<st->k (f x)<=k (f (p-x)))/\∀x,r<=x->x<r0->k (f (p-x))<k (f x))
  (λr=>r.1=.exit 8/\r.2.2=U/\r.2.1 0=R 0/\r.2.1 1=R 1/\r.2.1 2=R 2/\r.2.1 3=R 3/\r.2.1 4=R 4/\r.2.1 18=R 18/\r.2.1 19=R 19/\∃st:Nat,r.2.1 20=.ae (st:Int)/\s0<=st/\st<=r0/\(∀x,s0<=x->x<st->k (f x)<=k (f (p-x)))/\∀x,st<=x->x<r0->k (f (p-x))<k (f x))
  ⟨rfl,rfl,rfl,rfl,rfl,rfl,rfl,rfl,rfl,s0,r0,q20,q21,by omega,h1,by omega,by omega,λx a b=>by omega,λx a b=>by omega⟩ ?_ ?_ ?_
 ·rintro i Q U' hi ⟨rfl,z0,z1,z2,z3,z4,Vx,TG,z22,st,r,z20,YO,a1,a2,a3,a4,a5,a6⟩;unfold dZ;by_cases e:st=r
  ·subst e;have t1:¬((st:Int)<(st:Int)):=by omega
   simp only[SX,z20,YO,t1,af];exact .inr ⟨by simp,aj,aj,z0,z1,z2,z3,z4,Vx,TG,st,z20,a1,a3,a5,a6⟩
  ·have t1:((st:Int)<(r:Int)):=by omega
   obtain⟨x,hx⟩:∃x,x=(st+r)/2:=⟨_,rfl⟩;have b1:st<=x:=by omega
   have b2:x<r:=by omega
   have ta:=λt c d W'=>yD (a:=st) (b:=r) (by omega) t c d W'
   have tb:=λW'=>Tc (n:=st+r) (by omega) W'
   have tc:=λW'=>J9 (st+r) W'
   rw[<-hx]at tc;have td:=λW'=>cv3 (n:=x) (by omega) W'
   obtain⟨b3,b4⟩:=hb x (by omega) (by omega);have te:=λt c d W'=>BN (a:=p) (b:=x) b3 (by omega) t c d W'
   have tf:=λt c d W'=>Tk (a:=x) (by omega) t c d W'
   obtain⟨cv,c1,c2⟩:=hc U' f u (f (p-x)) (f x) (hD _ b4) (hD _ (by omega));have x1:∀k W',nY 1 (.slice (some ⟨B,0,none⟩) n c) (.int k (x:Int)) W'=some (.pointer (some ⟨B,x,none⟩),W'):=λk W'=>Rq (by omega) k W'
   have x2:∀k W',nY 1 (.slice (some ⟨B,0,none⟩) n c) (.int k ((p-x:Nat):Int)) W'=some (.pointer (some ⟨B,p-x,none⟩),W'):=λk W'=>Rq b4 k W'
   have z0':=z0.trans q0;have z4':=z4.trans q4;have aax:=z22.trans q22;by_cases lt:cv<0
   ·have d1:=aK lt;simp only[SX,z20,YO,t1,ta,tb,tc,td,aax,te,z0',z4',x1,x2,u.ld (i:=x) (by omega),u.ld (i:=p-x) b4,c1,d1,tf,af];refine .inl ⟨aj,aj,z0,z1,z2,z3,z4,Vx,TG,z22,st,x,z20,rfl,a1,b1,by omega,by omega,a5,λy y1 y2=>?_⟩;by_cases c:r<=y
    ·exact a6 y c y2
    ·have:=hX x y (by omega) y1 y2;have:=hY x y (by omega) y1 y2;have:=c2.1 lt;omega
   ·have d1:=aJ lt;simp only[SX,z20,YO,t1,ta,tb,tc,td,aax,te,z0',z4',x1,x2,u.ld (i:=x) (by omega),u.ld (i:=p-x) b4,c1,d1,tf,af];refine .inl ⟨aj,aj,z0,z1,z2,z3,z4,Vx,TG,z22,x+1,r,rfl,YO,by omega,by omega,a3,by omega,λy y1 y2=>?_,a6⟩;have h3:=hX y x y1 (by omega) (by omega);have h4:=hY y x y1 (by omega) (by omega);have:¬k (f (p-x))<k (f x):=λh=>lt (c2.2 h)
    omega
 ·rintro Q U' ⟨rfl,z0,z1,z2,z3,z4,Vx,TG,z22,st,r,z20,YO,a1,a2,a3,a4,a5,a6⟩;have e:st=r:=by omega
  subst e;unfold dZ;have t1:¬((st:Int)<(st:Int)):=by omega
  simp only[SX,z20,YO,t1,af];exact⟨by simp,aj,aj,z0,z1,z2,z3,z4,Vx,TG,st,z20,a1,a3,a5,a6⟩
 ·rintro⟨q,Q,U'⟩ ⟨rfl,rfl,z0,z1,z2,z3,z4,Vx,TG,st,z20,a1,a3,a5,a6⟩;exact hk Q st a1 a3 a5 a6 z0 z1 z2 z3 z4 Vx TG z20
def VH(hn:n<=10000)(hc:Iq V B n fv k D)(hD:∀t,t<n->D (f t))(u:kN V B n f U){s0 r0 p:Nat}(h1:s0<=r0)(h2:r0<=n)(hp:p<100000)(hb:∀x,s0<=x->x<r0->x<=p/\p-x<n)
 (hX:∀x y,s0<=x->x<=y->y<r0->k (f x)<=k (f y))(hY:∀x y,s0<=x->x<=y->y<r0->k (f (p-y))<=k (f (p-x)))
 (q0:R 0=.slice (some ⟨B,0,none⟩) n c)(q4:R 4=fv)(q20:R 20=.ae (s0:Int))(q21:R 21=.ae (r0:Int))(q22:R 22=.ae (p:Int))
 (hk:∀(R':ai.Fr) (st:Nat),s0<=st->st<=r0->(∀x,s0<=x->x<st->k (f x)<=k (f (p-x)))->(∀x,st<=x->x<r0->k (f (p-x))<k (f x))->R' 0=R 0->R' 1=R 1->R' 2=R 2->R' 3=R 3->R' 4=R 4->R' 18=R 18->R' 19=R 19->R' 20=.ae (st:Int)->Ok (K (X.exit 8,R',U)) G):
 Ok (eY (fV (ez aY) R U) K) G:=by
 refine a8 (r0-s0) (by omega) (λi Q U'=>U'=U/\Q 0=R 0/\Q 1=R 1/\Q 2=R 2/\Q 3=R 3/\Q 4=R 4/\Q 18=R 18/\Q 19=R 19/\Q 22=R 22/\∃st r:Nat,Q 20=.ae (st:Int)/\Q 21=.ae (r:Int)/\s0<=st/\st<=r/\r<=r0/\r-st+i<=r0-s0/\(∀x,s0<=x->x<st->k (f x)<=k (f (p-x)))/\∀x,r<=x->x<r0->k (f (p-x))<k (f x))
  (λr=>r.1=.exit 8/\r.2.2=U/\r.2.1 0=R 0/\r.2.1 1=R 1/\r.2.1 2=R 2/\r.2.1 3=R 3/\r.2.1 4=R 4/\r.2.1 18=R 18/\r.2.1 19=R 19/\∃st:Nat,r.2.1 20=.ae (st:Int)/\s0<=st/\st<=r0/\(∀x,s0<=x->x<st->k (f x)<=k (f (p-x)))/\∀x,st<=x->x<r0->k (f (p-x))<k (f x))
  ⟨rfl,rfl,rfl,rfl,rfl,rfl,rfl,rfl,rfl,s0,r0,q20,q21,by omega,h1,by omega,by omega,λx a b=>by omega,λx a b=>by omega⟩ ?_ ?_ ?_
 ·rintro i Q U' hi ⟨rfl,z0,z1,z2,z3,z4,Vx,TG,z22,st,r,z20,YO,a1,a2,a3,a4,a5,a6⟩;unfold ez;by_cases e:st=r
  ·subst e;have t1:¬((st:Int)<(st:Int)):=by omega
   simp only[SX,z20,YO,t1,af];exact .inr ⟨by simp,aj,aj,z0,z1,z2,z3,z4,Vx,TG,st,z20,a1,a3,a5,a6⟩
  ·have t1:((st:Int)<(r:Int)):=by omega
   obtain⟨x,hx⟩:∃x,x=(st+r)/2:=⟨_,rfl⟩;have b1:st<=x:=by omega
   have b2:x<r:=by omega
   have ta:=λt c d W'=>yD (a:=st) (b:=r) (by omega) t c d W'
   have tb:=λW'=>Tc (n:=st+r) (by omega) W'
   have tc:=λW'=>J9 (st+r) W'
   rw[<-hx]at tc;have td:=λW'=>cv3 (n:=x) (by omega) W'
   obtain⟨b3,b4⟩:=hb x (by omega) (by omega);have te:=λt c d W'=>BN (a:=p) (b:=x) b3 (by omega) t c d W'
   have tf:=λt c d W'=>Tk (a:=x) (by omega) t c d W'
   obtain⟨cv,c1,c2⟩:=hc U' f u (f (p-x)) (f x) (hD _ b4) (hD _ (by omega));have x1:∀k W',nY 1 (.slice (some ⟨B,0,none⟩) n c) (.int k (x:Int)) W'=some (.pointer (some ⟨B,x,none⟩),W'):=λk W'=>Rq (by omega) k W'
   have x2:∀k W',nY 1 (.slice (some ⟨B,0,none⟩) n c) (.int k ((p-x:Nat):Int)) W'=some (.pointer (some ⟨B,p-x,none⟩),W'):=λk W'=>Rq b4 k W'
   have z0':=z0.trans q0;have z4':=z4.trans q4;have aax:=z22.trans q22;by_cases lt:cv<0
   ·have d1:=aK lt;simp only[SX,z20,YO,t1,ta,tb,tc,td,aax,te,z0',z4',x1,x2,u.ld (i:=x) (by omega),u.ld (i:=p-x) b4,c1,d1,tf,af];refine .inl ⟨aj,aj,z0,z1,z2,z3,z4,Vx,TG,z22,st,x,z20,rfl,a1,b1,by omega,by omega,a5,λy y1 y2=>?_⟩;by_cases c:r<=y
    ·exact a6 y c y2
    ·have:=hX x y (by omega) y1 y2;have:=hY x y (by omega) y1 y2;have:=c2.1 lt;omega
   ·have d1:=aJ lt;simp only[SX,z20,YO,t1,ta,tb,tc,td,aax,te,z0',z4',x1,x2,u.ld (i:=x) (by omega),u.ld (i:=p-x) b4,c1,d1,tf,af];refine .inl ⟨aj,aj,z0,z1,z2,z3,z4,Vx,TG,z22,x+1,r,rfl,YO,by omega,by omega,a3,by omega,λy y1 y2=>?_,a6⟩;have h3:=hX y x y1 (by omega) (by omega);have h4:=hY y x y1 (by omega) (by omega);have:¬k (f (p-x))<k (f x):=λh=>lt (c2.2 h)
    omega
 ·rintro Q U' ⟨rfl,z0,z1,z2,z3,z4,Vx,TG,z22,st,r,z20,YO,a1,a2,a3,a4,a5,a6⟩;have e:st=r:=by omega
  subst e;unfold ez;have t1:¬((st:Int)<(st:Int)):=by omega
  simp only[SX,z20,YO,t1,af];exact⟨by simp,aj,aj,z0,z1,z2,z3,z4,Vx,TG,st,z20,a1,a3,a5,a6⟩
 ·rintro⟨q,Q,U'⟩ ⟨rfl,rfl,z0,z1,z2,z3,z4,Vx,TG,st,z20,a1,a3,a5,a6⟩;exact hk Q st a1 a3 a5 a6 z0 z1 z2 z3 z4 Vx TG z20
end
noncomputable def aed(R:Nat->ad)(U:AW):Option (ad×AW):=eY (bO Tryz.prog .sub 3 false false (R 19) (R 20) U) λMa=>eY (bO Tryz.prog .lss 3 false false (R 20) (R 2) Ma.2) λXX=>eY (qR (sW XX.1 true) (dh (R 2) XX.2) (some (ak,XX.2))) λr84=>eY (qR (sW XX.1 true) (dh Ma.1 r84.2) (some (ak,r84.2))) λr85=>eY (qR (sW XX.1 true) (bO Tryz.prog .lss 3 false false r84.1 r85.1 r85.2) (some (ak,r85.2))) λr86=>eY (jQ XX.1 r86.1 (.bool false) r86.2) λZY=>Qg ZY.1 (eY (aY (wI 221) [(R 0),(R 20),(R 2),Ma.1,(R 4)] ZY.2) λr88=>eY (bO Tryz.prog .lss 3 false false (R 1) (R 20) r88.2) λTY=>eY (qR (sW TY.1 true) (dh (R 20) TY.2) (some (ak,TY.2))) λr90=>eY (qR (sW TY.1 true) (dh (R 18) r90.2) (some (ak,r90.2))) λr91=>eY (qR (sW TY.1 true) (bO Tryz.prog .lss 3 false false r90.1 r91.1 r91.2) (some (ak,r91.2))) λr92=>eY (jQ TY.1 r92.1 (.bool false) r92.2) λr93=>Qg r93.1 (eY (aY (wI 214) [(R 0),(R 1),(R 20),(R 18),(R 4)] r93.2) λr94=>eY (bO Tryz.prog .lss 3 false false (R 18) Ma.1 r94.2) λXS=>eY (qR (sW XS.1 true) (dh Ma.1 XS.2) (some (ak,XS.2))) λr96=>eY (qR (sW XS.1 true) (dh (R 3) r96.2) (some (ak,r96.2))) λr97=>eY (qR (sW XS.1 true) (bO Tryz.prog .lss 3 false false r96.1 r97.1 r97.2) (some (ak,r97.2))) λr98=>eY (jQ XS.1 r98.1 (.bool false) r98.2) λr99=>Qg r99.1 (eY (aY (wI 214) [(R 0),(R 18),Ma.1,(R 3),(R 4)] r99.2) λaj0=>iP Tryz.prog [] aj0.2) (iP Tryz.prog [] r99.2)) (eY (bO Tryz.prog .lss 3 false false (R 18) Ma.1 r93.2) λZt=>eY (qR (sW Zt.1 true) (dh Ma.1 Zt.2) (some (ak,Zt.2))) λamF=>eY (qR (sW Zt.1 true) (dh (R 3) amF.2) (some (ak,amF.2))) λajP=>eY (qR (sW Zt.1 true) (bO Tryz.prog .lss 3 false false amF.1 ajP.1 ajP.2) (some (ak,ajP.2))) λapS=>eY (jQ Zt.1 apS.1 (.bool false) apS.2) λamh=>Qg amh.1 (eY (aY (wI 214) [(R 0),(R 18),Ma.1,(R 3),(R 4)] amh.2) λauh=>iP Tryz.prog [] auh.2) (iP Tryz.prog [] amh.2))) (eY (bO Tryz.prog .lss 3 false false (R 1) (R 20) ZY.2) λX8=>eY (qR (sW X8.1 true) (dh (R 20) X8.2) (some (ak,X8.2))) λakv=>eY (qR (sW X8.1 true) (dh (R 18) akv.2) (some (ak,akv.2))) λajX=>eY (qR (sW X8.1 true) (bO Tryz.prog .lss 3 false false akv.1 ajX.1 ajX.2) (some (ak,ajX.2))) λaqJ=>eY (jQ X8.1 aqJ.1 (.bool false) aqJ.2) λakf=>Qg akf.1 (eY (aY (wI 214) [(R 0),(R 1),(R 20),(R 18),(R 4)] akf.2) λasJ=>eY (bO Tryz.prog .lss 3 false false (R 18) Ma.1 asJ.2) λZJ=>eY (qR (sW ZJ.1 true) (dh Ma.1 ZJ.2) (some (ak,ZJ.2))) λaml=>eY (qR (sW ZJ.1 true) (dh (R 3) aml.2) (some (ak,aml.2))) λajE=>eY (qR (sW ZJ.1 true) (bO Tryz.prog .lss 3 false false aml.1 ajE.1 ajE.2) (some (ak,ajE.2))) λapI=>eY (jQ ZJ.1 apI.1 (.bool false) apI.2) λamI=>Qg amI.1 (eY (aY (wI 214) [(R 0),(R 18),Ma.1,(R 3),(R 4)] amI.2) λatv=>iP Tryz.prog [] atv.2) (iP Tryz.prog [] amI.2)) (eY (bO Tryz.prog .lss 3 false false (R 18) Ma.1 akf.2) λY0=>eY (qR (sW Y0.1 true) (dh Ma.1 Y0.2) (some (ak,Y0.2))) λakS=>eY (qR (sW Y0.1 true) (dh (R 3) akS.2) (some (ak,akS.2))) λajF=>eY (qR (sW Y0.1 true) (bO Tryz.prog .lss 3 false false akS.1 ajF.1 ajF.2) (some (ak,ajF.2))) λapL=>eY (jQ Y0.1 apL.1 (.bool false) apL.2) λalZ=>Qg alZ.1 (eY (aY (wI 214) [(R 0),(R 18),Ma.1,(R 3),(R 4)] alZ.2) λaur=>iP Tryz.prog [] aur.2) (iP Tryz.prog [] alZ.2)))
noncomputable def S7(R:Nat->ad)(en:ad)(U:AW):Option (ad×AW):=eY (bO Tryz.prog .lss 3 false false (R 18) en U) λXS=>eY (qR (sW XS.1 true) (dh en XS.2) (some (ak,XS.2))) λr96=>eY (qR (sW XS.1 true) (dh (R 3) r96.2) (some (ak,r96.2))) λr97=>eY (qR (sW XS.1 true) (bO Tryz.prog .lss 3 false false r96.1 r97.1 r97.2) (some (ak,r97.2))) λr98=>eY (jQ XS.1 r98.1 (.bool false) r98.2) λr99=>Qg r99.1 (eY (aY (wI 214) [(R 0),(R 18),en,(R 3),(R 4)] r99.2) λaj0=>iP Tryz.prog [] aj0.2) (iP Tryz.prog [] r99.2)
noncomputable def Jl(R:Nat->ad)(en:ad)(U:AW):Option (ad×AW):=eY (bO Tryz.prog .lss 3 false false (R 1) (R 20) U) λTY=>eY (qR (sW TY.1 true) (dh (R 20) TY.2) (some (ak,TY.2))) λr90=>eY (qR (sW TY.1 true) (dh (R 18) r90.2) (some (ak,r90.2))) λr91=>eY (qR (sW TY.1 true) (bO Tryz.prog .lss 3 false false r90.1 r91.1 r91.2) (some (ak,r91.2))) λr92=>eY (jQ TY.1 r92.1 (.bool false) r92.2) λr93=>Qg r93.1 (eY (aY (wI 214) [(R 0),(R 1),(R 20),(R 18),(R 4)] r93.2) λr94=>S7 R en r94.2) (S7 R en r93.2)
def YR(R:Nat->ad)(U:AW):aed R U=eY (bO Tryz.prog .sub 3 false false (R 19) (R 20) U) λMa=>eY (bO Tryz.prog .lss 3 false false (R 20) (R 2) Ma.2) λXX=>eY (qR (sW XX.1 true) (dh (R 2) XX.2) (some (ak,XX.2))) λr84=>eY (qR (sW XX.1 true) (dh Ma.1 r84.2) (some (ak,r84.2))) λr85=>eY (qR (sW XX.1 true) (bO Tryz.prog .lss 3 false false r84.1 r85.1 r85.2) (some (ak,r85.2))) λr86=>eY (jQ XX.1 r86.1 (.bool false) r86.2) λZY=>Qg ZY.1 (eY (aY (wI 221) [(R 0),(R 20),(R 2),Ma.1,(R 4)] ZY.2) λr88=>Jl R Ma.1 r88.2) (Jl R Ma.1 ZY.2):=rfl
def sw.le{k:Int->Int}{f:Nat->Int}{a b i j:Nat}(h:sw k f a b)(h1:a<=i)(h2:i<=j)(h3:j<b):k (f i)<=k (f j):=by
 by_cases e:i=j
 ·rw[e];exact rQ _
 ·have:=h i j h1 (by omega) h3;unfold LF at this;omega
def sw.sub{k:Int->Int}{f:Nat->Int}{a b a' b':Nat}(h:sw k f a b)(h1:a<=a')(h2:b'<=b):sw k f a' b':=λi j x1 x2 x3=>h i j (by omega) x2 (by omega)
structure J1 (k:Int->Int) (f:Nat->Int) (a m b:Nat):Prop where
 l:sw k f a m
 r:sw k f m b
 s:∀s t,a<=s->s<m->m<=t->t<b->f s<f t
section
variable {k:Int->Int} {f g g2 g3:Nat->Int} {a m b st mid en:Nat}
structure Hlf (k:Int->Int) (g:Nat->Int) (a st mid en b:Nat):Prop where
 l:J1 k g a st mid
 r:J1 k g mid en b
 x:∀s t,a<=s->s<mid->mid<=t->t<b->LF k (g s) (g t)
def J1.half(h:J1 k f a m b)(h1:a<=st)(h2:st<=m)(h3:st<=mid)(he:st+en=mid+m)(h4:m<=en)(h5:en<=b)(f1:st=a\/en=b\/k (f (st-1))<=k (f en))(f2:st=m\/en=m\/k (f (en-1))<k (f st)):Hlf k (lF f st m en) a st mid en b:=by
 have ra:∀t,t<st->lF f st m en t=f t:=λt ht=>by unfold lF;rw[bL,bL]
 have rb:∀t,st<=t->t<mid->lF f st m en t=f (t+(m-st)):=λt x y=>by unfold lF;rw[kH]
 have rc:∀t,mid<=t->t<en->lF f st m en t=f (t-(en-m)):=λt x y=>by unfold lF;rw[bL,kH]
 have rd:∀t,en<=t->lF f st m en t=f t:=λt ht=>by unfold lF;rw[bL,bL]
 refine⟨⟨λi j x1 x2 x3=>?_,λi j x1 x2 x3=>?_,λs t x1 x2 x3 x4=>?_⟩,⟨λi j x1 x2 x3=>?_,λi j x1 x2 x3=>?_,λs t x1 x2 x3 x4=>?_⟩,λs t x1 x2 x3 x4=>?_⟩
 ·rw[ra i (by omega),ra j x3];exact h.l i j x1 x2 (by omega)
 ·rw[rb i x1 (by omega),rb j (by omega) x3];exact h.r _ _ (by omega) (by omega) (by omega)
 ·rw[ra s x2,rb t x3 x4];exact h.s _ _ x1 (by omega) (by omega) (by omega)
 ·rw[rc i x1 (by omega),rc j (by omega) x3];exact h.l _ _ (by omega) (by omega) (by omega)
 ·rw[rd i x1,rd j (by omega)];exact h.r _ _ (by omega) x2 x3
 ·rw[rc s x1 x2,rd t x3];exact h.s _ _ (by omega) (by omega) (by omega) x4
 ·by_cases c1:s<st
  ·rw[ra s c1];by_cases c2:t<en
   ·rw[rc t x3 c2];exact h.l _ _ x1 (by omega) (by omega)
   ·rw[rd t (by omega)];have q:k (f (st-1))<=k (f en):=by rcases f1 with f1|f1|f1<;>omega
    have q1:=h.l.le (i:=s) (j:=st-1) x1 (by omega) (by omega);have q2:=h.r.le (i:=en) (j:=t) h4 (by omega) x4;have q3:=h.s s t x1 (by omega) (by omega) x4;unfold LF;omega
  ·rw[rb s (by omega) x2];by_cases c2:t<en
   ·rw[rc t x3 c2];have q:k (f (en-1))<k (f st):=by rcases f2 with f2|f2|f2<;>omega
    have q1:=h.r.le (i:=s+(m-st)) (j:=en-1) (by omega) (by omega) (by omega);have q2:=h.l.le (i:=st) (j:=t-(en-m)) h1 (by omega) (by omega);exact .inl (by omega)
   ·rw[rd t (by omega)];exact h.r _ _ (by omega) (by omega) x4
def Hlf.join(h:Hlf k g a st mid en b)(p2:nW a mid g g2)(s2:sw k g2 a mid)(p3:nW mid b g2 g3)(s3:sw k g3 mid b):sw k g3 a b:=by
 intro i j x1 x2 x3;by_cases c1:i<mid
 ·rw[p3.out (t:=i) (by omega)];by_cases c2:j<mid
  ·rw[p3.out (t:=j) (by omega)];exact s2 i j x1 x2 c2
  ·obtain⟨i',i1,i2,e1⟩:=p2.sub i x1 c1;obtain⟨j',j1,j2,e2⟩:=p3.sub j (by omega) x3;rw[e1,e2,p2.out (t:=j') (by omega)];exact h.x _ _ i1 i2 j1 j2
 ·exact s3 i j (by omega) x2 x3
end
def afP(V:AW)(B n c:Nat)(fv:ad)(k:Int->Int)(D:Int->Prop)(d:Nat):Prop:=∀a m b f W,b-a<d->a<m->m<b->b<=n->kN V B n f W->(∀t,t<n->D (f t))->J1 k f a m b->
 ∃U g,aY (.func (.func 214) #[] #[]) [.slice (some ⟨B,0,none⟩) n c,.ae (a:Int),.ae (m:Int),.ae (b:Int),fv] W=some (.tuple #[],U)/\kN V B n g U/\nW a b f g/\sw k g a b
section
variable {V U W:AW} {B n c:Nat} {f g:Nat->Int} {fv:ad} {k:Int->Int} {D:Int->Prop} {R:ai.Fr} {a m b st mid en d:Nat}
def abW(hS:afP V B n c fv k D d)(hd:b-mid<d)(h1:mid<=en)(h2:en<=b)(hb:b<=n)(u:kN V B n g U)(hD:∀t,t<n->D (g t))(h:J1 k g mid en b)
 (r0:R 0=.slice (some ⟨B,0,none⟩) n c)(r3:R 3=.ae (b:Int))(r4:R 4=fv)(PO:R 18=.ae (mid:Int)):Ok (S7 R (.ae (en:Int)) U) λr=>r.1=.tuple #[]/\∃g3,kN V B n g3 r.2/\nW mid b g g3/\sw k g3 mid b:=by
 unfold S7;by_cases c1:mid<en
 ·have d1:decide ((mid:Int)<(en:Int))=true:=cd;by_cases c2:en<b
  ·have d2:decide ((en:Int)<(b:Int))=true:=cd;obtain⟨U1,g3,e1,e2,e3,e4⟩:=hS mid en b g U hd c1 c2 hb u hD h;simp only[SX,r0,r3,r4,PO,d1,d2,e1,af];exact⟨aj,g3,e2,e3,e4⟩
  ·have d2:decide ((en:Int)<(b:Int))=false:=bS;simp only[SX,r0,r3,r4,PO,d1,d2,af];exact⟨aj,g,u,.refl,h.l.sub (aR _) (by omega)⟩
 ·have d1:decide ((mid:Int)<(en:Int))=false:=bS;simp only[SX,r0,r3,r4,PO,d1,af];exact⟨aj,g,u,.refl,h.r.sub (by omega) (aR _)⟩
def J1.keep{g2:Nat->Int}{a':Nat}(p:nW a' mid g g2)(h:J1 k g mid en b)(h1:mid<=en):J1 k g2 mid en b:=by
 have e:∀t,mid<=t->g2 t=g t:=λt ht=>p.out (by omega)
 exact⟨λi j x1 x2 x3=>by rw[e i x1,e j (by omega)];exact h.l i j x1 x2 x3,λi j x1 x2 x3=>by rw[e i (by omega),e j (by omega)];exact h.r i j x1 x2 x3,λi j x1 x2 x3 x4=>by rw[e i x1,e j (by omega)];exact h.s i j x1 x2 x3 x4⟩
def Zu(hS:afP V B n c fv k D d)(hd1:mid-a<d)(hd2:b-mid<d)(h1:a<=st)(h2:st<=mid)(h3:mid<=en)(h4:en<=b)(hb:b<=n)(u:kN V B n g U)(hD:∀t,t<n->D (g t))(h:Hlf k g a st mid en b)
 (r0:R 0=.slice (some ⟨B,0,none⟩) n c)(r1:R 1=.ae (a:Int))(r3:R 3=.ae (b:Int))(r4:R 4=fv)(PO:R 18=.ae (mid:Int))(Z8:R 20=.ae (st:Int)):Ok (Jl R (.ae (en:Int)) U) λr=>r.1=.tuple #[]/\∃g3,kN V B n g3 r.2/\nW a b g g3/\sw k g3 a b:=by
 have key:∀g2 U2,kN V B n g2 U2->nW a mid g g2->sw k g2 a mid->Ok (S7 R (.ae (en:Int)) U2) λr=>r.1=.tuple #[]/\∃g3,kN V B n g3 r.2/\nW a b g g3/\sw k g3 a b:=λg2 U2 u2 p2 s2=>by obtain⟨r,e1,e2,g3,e3,e4,e5⟩:=abW hS hd2 h3 h4 hb u2 (p2.qP (by omega) hD) (h.r.keep p2 h3) r0 r3 r4 PO;exact⟨r,e1,e2,g3,e3,(p2.mono (aR _) (by omega)).trans (e4.mono (by omega) (aR _)),h.join p2 s2 e4 e5⟩
 unfold Jl;by_cases c1:a<st
 ·have d1:decide ((a:Int)<(st:Int))=true:=cd;by_cases c2:st<mid
  ·have d2:decide ((st:Int)<(mid:Int))=true:=cd;obtain⟨U1,g2,e1,e2,e3,e4⟩:=hS a st mid g U hd1 c1 c2 (by omega) u hD h.l;simp only[SX,r0,r1,r4,PO,Z8,d1,d2,e1];exact key g2 U1 e2 e3 e4
  ·have d2:decide ((st:Int)<(mid:Int))=false:=bS;simp only[SX,r0,r1,r4,PO,Z8,d1,d2];exact key g U u .refl (h.l.l.sub (aR _) (by omega))
 ·have d1:decide ((a:Int)<(st:Int))=false:=bS;simp only[SX,r0,r1,r4,PO,Z8,d1];exact key g U u .refl (h.l.r.sub (by omega) (aR _))
def Np(hn:n<=10000)(hS:afP V B n c fv k D d)(hd1:mid-a<d)(hd2:b-mid<d)(h1:a<=st)(h2:st<=m)(Ft:st<=mid)(he:st+en=mid+m)(h3:m<=en)(h4:en<=b)(amp:mid<=en)(hb:b<=n)(u:kN V B n f U)(hD:∀t,t<n->D (f t))(h:J1 k f a m b)
 (f1:st=a\/en=b\/k (f (st-1))<=k (f en))(f2:st=m\/en=m\/k (f (en-1))<k (f st))
 (r0:R 0=.slice (some ⟨B,0,none⟩) n c)(r1:R 1=.ae (a:Int))(r2:R 2=.ae (m:Int))(r3:R 3=.ae (b:Int))(r4:R 4=fv)(PO:R 18=.ae (mid:Int))(r19:R 19=.ae ((mid+m:Nat):Int))(Z8:R 20=.ae (st:Int)):Ok (aed R U) λr=>r.1=.tuple #[]/\∃g,kN V B n g r.2/\nW a b f g/\sw k g a b:=by
 have hh:=h.half h1 h2 Ft he h3 h4 f1 f2;have key:∀U2,kN V B n (lF f st m en) U2->nW a b f (lF f st m en)->Ok (Jl R (.ae (en:Int)) U2) λr=>r.1=.tuple #[]/\∃g,kN V B n g r.2/\nW a b f g/\sw k g a b:=λU2 u2 p=>by obtain⟨r,e1,e2,g,e3,e4,e5⟩:=Zu hS hd1 hd2 h1 Ft amp h4 hb u2 (p.qP hb hD) hh r0 r1 r3 r4 PO Z8;exact⟨r,e1,e2,g,e3,p.trans e4,e5⟩
 rw[YR];have t1:=λt c d W'=>BN (a:=mid+m) (b:=st) (by omega) (by omega) t c d W'
 rw[show mid+m-st=en by omega]at t1;by_cases c1:st<m
 ·have d1:decide ((st:Int)<(m:Int))=true:=cd;by_cases c2:m<en
  ·have d2:decide ((m:Int)<(en:Int))=true:=cd;obtain⟨U1,e1,e2⟩:=ZE (c:=c) (fv:=fv) hn u c1 c2 (by omega);simp only[SX,r0,r2,r4,r19,Z8,t1,d1,d2,e1];exact key U1 e2 ((RC f c1 c2).mono h1 h4)
  ·have d2:decide ((m:Int)<(en:Int))=false:=bS;simp only[SX,r0,r2,r4,r19,Z8,t1,d1,d2];have e:∀t,f t=lF f st m en t:=λt=>by
    unfold lF;split
    ·omega
    ·split
     ·congr 1;omega
     ·rfl
   refine key U (u.congr e) ?_;rw[<-show f=lF f st m en from funext e];exact .refl
 ·have d1:decide ((st:Int)<(m:Int))=false:=bS;simp only[SX,r0,r2,r4,r19,Z8,t1,d1];have e:∀t,f t=lF f st m en t:=λt=>by
   unfold lF;split
   ·congr 1;omega
   ·split
    ·omega
    ·rfl
  refine key U (u.congr e) ?_;rw[<-show f=lF f st m en from funext e];exact .refl
end
section
variable {ρ:Type} {V U W:AW} {B n c:Nat} {f g:Nat->Int} {fv:ad} {k:Int->Int} {D:Int->Prop} {R:ai.Fr} {K:LT->Option ρ} {G:ρ->Prop} {a m b:Nat}
def acr(hn:n<=10000)(hc:Iq V B n fv k D)(hD:∀t,t<n->D (f t))(u:kN V B n f U)(h1:a<m)(h2:m<=b)(hb:b<=n)(hs:sw k f m b)
 (q0:R 0=.slice (some ⟨B,0,none⟩) n c)(q1:R 1=.ae (a:Int))(q4:R 4=fv)(YB:R 10=.ae (m:Int))(q11:R 11=.ae (b:Int))
 (hk:∀(R':ai.Fr) (i:Nat),m<=i->i<=b->(∀x,m<=x->x<i->k (f x)<k (f a))->(∀x,i<=x->x<b->k (f a)<=k (f x))->R' 0=.slice (some ⟨B,0,none⟩) n c->R' 1=.ae (a:Int)->R' 10=.ae (i:Int)->Ok (K (X.exit 0,R',U)) G):
 Ok (eY (fV (eC aY) R U) K) G:=by
 refine a8 (b-m) (by omega) (λq Q U'=>U'=U/\Q 0=.slice (some ⟨B,0,none⟩) n c/\Q 1=.ae (a:Int)/\Q 4=fv/\∃i j:Nat,Q 10=.ae (i:Int)/\Q 11=.ae (j:Int)/\m<=i/\i<=j/\j<=b/\j-i+q<=b-m/\(∀x,m<=x->x<i->k (f x)<k (f a))/\∀x,j<=x->x<b->k (f a)<=k (f x))
  (λr=>r.1=.exit 0/\r.2.2=U/\r.2.1 0=.slice (some ⟨B,0,none⟩) n c/\r.2.1 1=.ae (a:Int)/\∃i:Nat,r.2.1 10=.ae (i:Int)/\m<=i/\i<=b/\(∀x,m<=x->x<i->k (f x)<k (f a))/\∀x,i<=x->x<b->k (f a)<=k (f x))
  ⟨rfl,q0,q1,q4,m,b,YB,q11,by omega,by omega,by omega,by omega,λx y z=>by omega,λx y z=>by omega⟩ ?_ ?_ ?_
 ·rintro q Q U' hq ⟨rfl,z0,z1,z4,i,j,Th,z11,a1,a2,a3,a4,a5,a6⟩;unfold eC;by_cases e:i=j
  ·subst e;have t1:¬((i:Int)<(i:Int)):=by omega
   simp only[SX,Th,z11,t1,af];exact .inr ⟨by simp,aj,aj,z0,z1,i,Th,a1,a3,a5,a6⟩
  ·have t1:((i:Int)<(j:Int)):=by omega
   obtain⟨x,hx⟩:∃x,x=(i+j)/2:=⟨_,rfl⟩;have ta:=λt c d W'=>yD (a:=i) (b:=j) (by omega) t c d W'
   have tb:=λW'=>Tc (n:=i+j) (by omega) W'
   have tc:=λW'=>J9 (i+j) W'
   rw[<-hx]at tc;have td:=λW'=>cv3 (n:=x) (by omega) W'
   have tf:=λt c d W'=>Tk (a:=x) (by omega) t c d W'
   obtain⟨cv,c1,c2⟩:=hc U' f u (f x) (f a) (hD _ (by omega)) (hD _ (by omega));have x1:∀k W',nY 1 (.slice (some ⟨B,0,none⟩) n c) (.int k (x:Int)) W'=some (.pointer (some ⟨B,x,none⟩),W'):=λk W'=>Rq (by omega) k W'
   have x2:∀k W',nY 1 (.slice (some ⟨B,0,none⟩) n c) (.int k (a:Int)) W'=some (.pointer (some ⟨B,a,none⟩),W'):=λk W'=>Rq (by omega) k W'
   by_cases lt:cv<0
   ·have d1:=aK lt;simp only[SX,z0,z1,z4,Th,z11,t1,ta,tb,tc,td,x1,x2,u.ld (i:=x) (by omega),u.ld (i:=a) (by omega),c1,d1,tf,af];refine .inl ⟨aj,aj,z0,z1,z4,x+1,j,rfl,z11,by omega,by omega,a3,by omega,λy y1 y2=>?_,a6⟩;have:=hs.le (i:=y) (j:=x) y1 (by omega) (by omega);have:=c2.1 lt;omega
   ·have d1:=aJ lt;simp only[SX,z0,z1,z4,Th,z11,t1,ta,tb,tc,td,x1,x2,u.ld (i:=x) (by omega),u.ld (i:=a) (by omega),c1,d1,tf,af];refine .inl ⟨aj,aj,z0,z1,z4,i,x,Th,rfl,by omega,by omega,by omega,by omega,a5,λy y1 y2=>?_⟩;have:=hs.le (i:=x) (j:=y) (by omega) y1 y2;have:¬k (f x)<k (f a):=λh=>lt (c2.2 h)
    omega
 ·rintro Q U' ⟨rfl,z0,z1,z4,i,j,Th,z11,a1,a2,a3,a4,a5,a6⟩;have e:i=j:=by omega
  subst e;unfold eC;have t1:¬((i:Int)<(i:Int)):=by omega
  simp only[SX,Th,z11,t1,af];exact⟨by simp,aj,aj,z0,z1,i,Th,a1,a3,a5,a6⟩
 ·rintro⟨q,Q,U'⟩ ⟨rfl,rfl,z0,z1,i,Th,a1,a3,a5,a6⟩;exact hk Q i a1 a3 a5 a6 z0 z1 Th
def ac0(hn:n<=10000)(u:kN V B n f U){i:Nat}(h1:a+1<=i)(hb:i<=n)
 (q0:R 0=.slice (some ⟨B,0,none⟩) n c)(YB:R 10=.ae (i:Int))(q13:R 13=.ae (a:Int))
 (hk:∀(R':ai.Fr) (U':AW),kN V B n (lF f a (a+1) i) U'->Ok (K (X.exit 2,R',U')) G):
 Ok (eY (fV (eg aY) R U) K) G:=by
 have ts:=λt c d W'=>aeg (a:=i) (by omega) (by omega) t c d W'
 refine a8 (i-1-a) (by omega) (λq Q U'=>Q 0=.slice (some ⟨B,0,none⟩) n c/\Q 10=.ae (i:Int)/\Q 13=.ae ((a+q:Nat):Int)/\kN V B n (lF f a (a+1) (a+1+q)) U')
  (λr=>r.1=.exit 2/\kN V B n (lF f a (a+1) i) r.2.2) ⟨q0,YB,q13,u.congr λt=>?_⟩ ?_ ?_ ?_
 ·unfold lF;split
  ·omega
  ·split
   ·congr 1;omega
   ·rfl
 ·rintro q Q U' hq ⟨z0,Th,z13,u'⟩;unfold eg;have t1:(((a+q:Nat):Int)<((i-1:Nat):Int)):=by omega
  have tf:=λt c d W'=>Tk (a:=a+q) (by omega) t c d W'
  have x1:∀k W',nY 1 (.slice (some ⟨B,0,none⟩) n c) (.int k ((a+q:Nat):Int)) W'=some (.pointer (some ⟨B,a+q,none⟩),W'):=λk W'=>Rq (by omega) k W'
  have x2:∀k W',nY 1 (.slice (some ⟨B,0,none⟩) n c) (.int k ((a+q+1:Nat):Int)) W'=some (.pointer (some ⟨B,a+q+1,none⟩),W'):=λk W'=>Rq (by omega) k W'
  obtain⟨s1,u1⟩:=u'.st (i:=a+q) (by omega) (lF f a (a+1) (a+1+q) (a+q+1));obtain⟨s2,u2⟩:=u1.st (i:=a+q+1) (by omega) (lF f a (a+1) (a+1+q) (a+q));simp only[SX,z0,Th,z13,ts,t1,tf,x1,x2,u'.ld (i:=a+q) (by omega),u'.ld (i:=a+q+1) (by omega),s1,s2,af];refine .inl ⟨aj,z0,Th,rfl,u2.congr λt=>?_⟩;unfold lF;repeat' split
  all_goals first|omega|rfl|(congr 1;omega)
 ·rintro Q U' ⟨z0,Th,z13,u'⟩;unfold eg;have t1:¬(((a+(i-1-a):Nat):Int)<((i-1:Nat):Int)):=by omega
  simp only[SX,Th,z13,ts,t1,af];exact⟨by simp,aj,u'.congr λt=>by rw[show a+1+(i-1-a)=i by omega]⟩
 ·rintro⟨q,Q,U'⟩ ⟨rfl,u'⟩;exact hk Q U' u'
def adC(hn:n<=10000)(hc:Iq V B n fv k D)(hD:∀t,t<n->D (f t))(u:kN V B n f U)(h1:a<=m)(h2:m<n)(hs:sw k f a m)
 (q0:R 0=.slice (some ⟨B,0,none⟩) n c)(q2:R 2=.ae (m:Int))(q4:R 4=fv)(q14:R 14=.ae (a:Int))(q15:R 15=.ae (m:Int))
 (hk:∀(R':ai.Fr) (i:Nat),a<=i->i<=m->(∀x,a<=x->x<i->k (f x)<=k (f m))->(∀x,i<=x->x<m->k (f m)<k (f x))->R' 0=.slice (some ⟨B,0,none⟩) n c->R' 2=.ae (m:Int)->R' 14=.ae (i:Int)->Ok (K (X.exit 4,R',U)) G):
 Ok (eY (fV (eh aY) R U) K) G:=by
 refine a8 (m-a) (by omega) (λq Q U'=>U'=U/\Q 0=.slice (some ⟨B,0,none⟩) n c/\Q 2=.ae (m:Int)/\Q 4=fv/\∃i j:Nat,Q 14=.ae (i:Int)/\Q 15=.ae (j:Int)/\a<=i/\i<=j/\j<=m/\j-i+q<=m-a/\(∀x,a<=x->x<i->k (f x)<=k (f m))/\∀x,j<=x->x<m->k (f m)<k (f x))
  (λr=>r.1=.exit 4/\r.2.2=U/\r.2.1 0=.slice (some ⟨B,0,none⟩) n c/\r.2.1 2=.ae (m:Int)/\∃i:Nat,r.2.1 14=.ae (i:Int)/\a<=i/\i<=m/\(∀x,a<=x->x<i->k (f x)<=k (f m))/\∀x,i<=x->x<m->k (f m)<k (f x))
  ⟨rfl,q0,q2,q4,a,m,q14,q15,by omega,by omega,by omega,by omega,λx y z=>by omega,λx y z=>by omega⟩ ?_ ?_ ?_
 ·rintro q Q U' hq ⟨rfl,z0,z2,z4,i,j,VL,z15,a1,a2,a3,a4,a5,a6⟩;unfold eh;by_cases e:i=j
  ·subst e;have t1:¬((i:Int)<(i:Int)):=by omega
   simp only[SX,VL,z15,t1,af];exact .inr ⟨by simp,aj,aj,z0,z2,i,VL,a1,a3,a5,a6⟩
  ·have t1:((i:Int)<(j:Int)):=by omega
   obtain⟨x,hx⟩:∃x,x=(i+j)/2:=⟨_,rfl⟩;have ta:=λt c d W'=>yD (a:=i) (b:=j) (by omega) t c d W'
   have tb:=λW'=>Tc (n:=i+j) (by omega) W'
   have tc:=λW'=>J9 (i+j) W'
   rw[<-hx]at tc;have td:=λW'=>cv3 (n:=x) (by omega) W'
   have tf:=λt c d W'=>Tk (a:=x) (by omega) t c d W'
   obtain⟨cv,c1,c2⟩:=hc U' f u (f m) (f x) (hD _ (by omega)) (hD _ (by omega));have x1:∀k W',nY 1 (.slice (some ⟨B,0,none⟩) n c) (.int k (x:Int)) W'=some (.pointer (some ⟨B,x,none⟩),W'):=λk W'=>Rq (by omega) k W'
   have x2:∀k W',nY 1 (.slice (some ⟨B,0,none⟩) n c) (.int k (m:Int)) W'=some (.pointer (some ⟨B,m,none⟩),W'):=λk W'=>Rq (by omega) k W'
   by_cases lt:cv<0
   ·have d1:=aK lt;simp only[SX,z0,z2,z4,VL,z15,t1,ta,tb,tc,td,x1,x2,u.ld (i:=x) (by omega),u.ld (i:=m) (by omega),c1,d1,tf,af];refine .inl ⟨aj,aj,z0,z2,z4,i,x,VL,rfl,by omega,by omega,by omega,by omega,a5,λy y1 y2=>?_⟩;have:=hs.le (i:=x) (j:=y) (by omega) y1 y2;have:=c2.1 lt;omega
   ·have d1:=aJ lt;simp only[SX,z0,z2,z4,VL,z15,t1,ta,tb,tc,td,x1,x2,u.ld (i:=x) (by omega),u.ld (i:=m) (by omega),c1,d1,tf,af];refine .inl ⟨aj,aj,z0,z2,z4,x+1,j,rfl,z15,by omega,by omega,a3,by omega,λy y1 y2=>?_,a6⟩;have:=hs.le (i:=y) (j:=x) y1 (by omega) (by omega);have:¬k (f m)<k (f x):=λh=>lt (c2.2 h)
    omega
 ·rintro Q U' ⟨rfl,z0,z2,z4,i,j,VL,z15,a1,a2,a3,a4,a5,a6⟩;have e:i=j:=by omega
  subst e;unfold eh;have t1:¬((i:Int)<(i:Int)):=by omega
  simp only[SX,VL,z15,t1,af];exact⟨by simp,aj,aj,z0,z2,i,VL,a1,a3,a5,a6⟩
 ·rintro⟨q,Q,U'⟩ ⟨rfl,rfl,z0,z2,i,VL,a1,a3,a5,a6⟩;exact hk Q i a1 a3 a5 a6 z0 z2 VL
def aeE(hn:n<=10000)(u:kN V B n f U){i:Nat}(h1:i<=m)(hb:m<n)
 (q0:R 0=.slice (some ⟨B,0,none⟩) n c)(q14:R 14=.ae (i:Int))(q17:R 17=.ae (m:Int))
 (hk:∀(R':ai.Fr) (U':AW),kN V B n (lF f i m (m+1)) U'->Ok (K (X.exit 6,R',U')) G):
 Ok (eY (fV (eE aY) R U) K) G:=by
 refine a8 (m-i) (by omega) (λq Q U'=>Q 0=.slice (some ⟨B,0,none⟩) n c/\Q 14=.ae (i:Int)/\∃j:Nat,j+q=m/\Q 17=.ae (j:Int)/\kN V B n (lF f j m (m+1)) U')
  (λr=>r.1=.exit 6/\kN V B n (lF f i m (m+1)) r.2.2) ⟨q0,q14,m,rfl,q17,u.congr λt=>?_⟩ ?_ ?_ ?_
 ·unfold lF;split
  ·congr 1;omega
  ·split
   ·omega
   ·rfl
 ·rintro q Q U' hq ⟨z0,VL,j,hj,z17,u'⟩;unfold eE;have t1:((i:Int)<(j:Int)):=by omega
  have ts:=λt c d W'=>aeg (a:=j) (by omega) (by omega) t c d W'
  have x1:∀k W',nY 1 (.slice (some ⟨B,0,none⟩) n c) (.int k (j:Int)) W'=some (.pointer (some ⟨B,j,none⟩),W'):=λk W'=>Rq (by omega) k W'
  have x2:∀k W',nY 1 (.slice (some ⟨B,0,none⟩) n c) (.int k ((j-1:Nat):Int)) W'=some (.pointer (some ⟨B,j-1,none⟩),W'):=λk W'=>Rq (by omega) k W'
  obtain⟨s1,u1⟩:=u'.st (i:=j) (by omega) (lF f j m (m+1) (j-1));obtain⟨s2,u2⟩:=u1.st (i:=j-1) (by omega) (lF f j m (m+1) j);simp only[SX,z0,VL,z17,ts,t1,x1,x2,u'.ld (i:=j) (by omega),u'.ld (i:=j-1) (by omega),s1,s2,af];refine .inl ⟨aj,z0,VL,j-1,by omega,rfl,u2.congr λt=>?_⟩;unfold lF;repeat' split
  all_goals first|omega|rfl|(congr 1;omega)
 ·rintro Q U' ⟨z0,VL,j,hj,z17,u'⟩;have e:j=i:=by omega
  subst e;unfold eE;have t1:¬((j:Int)<(j:Int)):=by omega
  simp only[SX,VL,z17,t1,af];exact⟨by simp,aj,u'⟩
 ·rintro⟨q,Q,U'⟩ ⟨rfl,u'⟩;exact hk Q U' u'
end
def Sl(f:Nat->Int)(a b t:Nat):lF f a b b t=f t/\lF f a a b t=f t:=by unfold lF;refine⟨?_,?_⟩<;>(split;first|omega|(congr 1;omega))<;>split<;>first|omega|rfl|(congr 1;omega)
def Sq(f:Nat->Int){a m b:Nat}(h1:a<=m)(h2:m<=b):nW a b f (lF f a m b):=by
 by_cases c1:a<m
 ·by_cases c2:m<b
  ·exact RC f c1 c2
  ·have:m=b:=by omega
   subst this;rw[show lF f a m m=f from funext λt=>(Sl f a m t).1];exact .refl
 ·have:a=m:=by omega
  subst this;rw[show lF f a a b=f from funext λt=>(Sl f a b t).2];exact .refl
section
variable {V U W:AW} {B n c:Nat} {f g:Nat->Int} {fv:ad} {k:Int->Int} {D:Int->Prop} {a m b:Nat}
def J1.first{i:Nat}(h:J1 k f a (a+1) b)(h1:a+1<=i)(h2:i<=b)(s1:∀x,a+1<=x->x<i->k (f x)<k (f a))(s2:∀x,i<=x->x<b->k (f a)<=k (f x)):sw k (lF f a (a+1) i) a b:=by
 have ra:∀t,a<=t->t<i-1->lF f a (a+1) i t=f (t+1):=λt x y=>by unfold lF;rw[kH];congr 1;omega
 have rb:lF f a (a+1) i (i-1)=f a:=by unfold lF;rw[bL,kH];congr 1;omega
 have rc:∀t,i<=t->lF f a (a+1) i t=f t:=λt x=>by unfold lF;rw[bL,bL]
 intro s t x1 x2 x3;by_cases c1:s<i-1
 ·rw[ra s x1 c1];by_cases c2:t<i-1
  ·rw[ra t (by omega) c2];exact h.r _ _ (by omega) (by omega) (by omega)
  ·by_cases c3:t=i-1
   ·rw[c3,rb];exact .inl (s1 _ (by omega) (by omega))
   ·rw[rc t (by omega)];exact h.r _ _ (by omega) (by omega) x3
 ·by_cases c2:s=i-1
  ·rw[c2,rb,rc t (by omega)];have:=s2 t (by omega) x3;have:=h.s a t (by omega) (by omega) (by omega) x3;unfold LF;omega
  ·rw[rc s (by omega),rc t (by omega)];exact h.r _ _ (by omega) x2 x3
def J1.last{i:Nat}(h:J1 k f a m (m+1))(h1:a<=i)(h2:i<=m)(s1:∀x,a<=x->x<i->k (f x)<=k (f m))(s2:∀x,i<=x->x<m->k (f m)<k (f x)):sw k (lF f i m (m+1)) a (m+1):=by
 have ra:∀t,t<i->lF f i m (m+1) t=f t:=λt x=>by unfold lF;rw[bL,bL]
 have rb:lF f i m (m+1) i=f m:=by unfold lF;rw[kH];congr 1;omega
 have rc:∀t,i<t->t<=m->lF f i m (m+1) t=f (t-1):=λt x y=>by unfold lF;rw[bL,kH];congr 1;omega
 intro s t x1 x2 x3;by_cases c1:s<i
 ·rw[ra s c1];by_cases c2:t<i
  ·rw[ra t c2];exact h.l _ _ x1 x2 (by omega)
  ·by_cases c3:t=i
   ·rw[c3,rb];have:=s1 s x1 c1;have:=h.s s m x1 (by omega) (by omega) (by omega);unfold LF;omega
   ·rw[rc t (by omega) (by omega)];exact h.l _ _ x1 (by omega) (by omega)
 ·by_cases c2:s=i
  ·rw[c2,rb,rc t (by omega) (by omega)];exact .inl (s2 _ (by omega) (by omega))
  ·rw[rc s (by omega) (by omega),rc t (by omega) (by omega)];exact h.l _ _ (by omega) (by omega) (by omega)
def AD(hn:n<=10000)(hc:Iq V B n fv k D):∀d,afP V B n c fv k D d
 |0=>λa m b f W h=>by omega
 |d+1=>by
  intro a m b f W hd h1 h2 hb hW hD h;have ih:=AD hn hc d;refine JW (Q:=λg=>nW a b f g/\sw k g a b) ?_ hW rF;unfold lX;have s1:=λt c d W'=>BN (a:=m) (b:=a) (by omega) (by omega) t c d W'
  by_cases e1:m-a=1
  ·have d1:decide (((m-a:Nat):Int)=1)=true:=cd;obtain rfl:m=a+1:=by omega
   simp only[SX,s1,d1];refine acr (c:=c) (a:=a) (m:=a+1) (b:=b) hn hc hD hW (by omega) (by omega) hb h.r ?_ ?_ ?_ ?_ ?_ λR' i i1 i2 i3 i4 r0 r1 my=>?_
   ·rfl
   ·rfl
   ·rfl
   ·rfl
   ·rfl
   simp only[SX,r1];refine ac0 (c:=c) (a:=a) (i:=i) hn hW i1 (by omega) ?_ ?_ ?_ λR'' U' u'=>?_
   ·exact r0
   ·exact my
   ·rfl
   simp only[SX,af];exact⟨aj,_,u',(Sq f (by omega) i1).mono (aR _) i2,h.first i1 i2 i3 i4⟩
  have d1:decide (((m-a:Nat):Int)=1)=false:=bS;have s2:=λt c d W'=>BN (a:=b) (b:=m) (by omega) (by omega) t c d W'
  by_cases e2:b-m=1
  ·have d2:decide (((b-m:Nat):Int)=1)=true:=cd;obtain rfl:b=m+1:=by omega
   simp only[SX,s1,d1,s2,d2];refine adC (c:=c) (a:=a) (m:=m) hn hc hD hW (by omega) (by omega) h.l ?_ ?_ ?_ ?_ ?_ λR' i i1 i2 i3 i4 r0 r2 Vf=>?_
   ·rfl
   ·rfl
   ·rfl
   ·rfl
   ·rfl
   simp only[SX,r2];refine aeE (c:=c) (m:=m) (i:=i) hn hW i2 (by omega) ?_ ?_ ?_ λR'' U' u'=>?_
   ·exact r0
   ·exact Vf
   ·rfl
   simp only[SX,af];exact⟨aj,_,u',(Sq f i2 (by omega)).mono i1 (aR _),h.last i1 i2 i3 i4⟩
  have d2:decide (((b-m:Nat):Int)=1)=false:=bS;obtain⟨mid,amp⟩:∃mid,mid=(a+b)/2:=⟨_,rfl⟩;have ta:=λt c d W'=>yD (a:=a) (b:=b) (by omega) t c d W'
  have tb:=λW'=>Tc (n:=a+b) (by omega) W'
  have tc:=λW'=>J9 (a+b) W'
  rw[<-amp]at tc;have td:=λW'=>cv3 (n:=mid) (by omega) W'
  have te:=λt c d W'=>yD (a:=mid) (b:=m) (by omega) t c d W'
  have tp:=λt c d W'=>aeg (a:=mid+m) (by omega) (by omega) t c d W'
  by_cases lt:mid<m
  ·have d3:decide ((mid:Int)<(m:Int))=true:=cd;have tg:=λt c d W'=>BN (a:=mid+m) (b:=b) (by omega) (by omega) t c d W'
   simp only[SX,s1,d1,s2,d2,ta,tb,tc,td,te,d3,tg,tp];refine Ui (c:=c) (s0:=mid+m-b) (r0:=mid) (p:=mid+m-1) hn hc hD hW (by omega) (by omega) (by omega) (λx x1 x2=>by omega) (λx y x1 x2 x3=>h.l.le (by omega) x2 (by omega)) (λx y x1 x2 x3=>h.r.le (by omega) (by omega) (by omega)) ?_ ?_ ?_ ?_ ?_ λR' st y1 y2 y3 y4 r0 r1 r2 r3 r4 PO r19 Z8=>?_
   ·rfl
   ·rfl
   ·rfl
   ·rfl
   ·rfl
   exact Np (a:=a) (m:=m) (b:=b) (st:=st) (mid:=mid) (en:=mid+m-st) hn ih (by omega) (by omega) (by omega) (by omega) (by omega) (by omega) (by omega) (by omega) (by omega) hb hW hD h
    (by
      by_cases c:st=mid+m-b
      ·exact .inr (.inl (by omega))
      ·have:=y3 (st-1) (by omega) (by omega);rw[show mid+m-1-(st-1)=mid+m-st by omega]at this;exact .inr (.inr this))
    (by
      by_cases c:st=mid
      ·exact .inr (.inl (by omega))
      ·have:=y4 st (by omega) (by omega);rw[show mid+m-1-st=mid+m-st-1 by omega]at this;exact .inr (.inr this)) r0 r1 r2 r3 r4 PO r19 Z8
  ·have d3:decide ((mid:Int)<(m:Int))=false:=bS;simp only[SX,s1,d1,s2,d2,ta,tb,tc,td,te,d3,tp];refine VH (c:=c) (s0:=a) (r0:=m) (p:=mid+m-1) hn hc hD hW (by omega) (by omega) (by omega) (λx x1 x2=>by omega) (λx y x1 x2 x3=>h.l.le (by omega) x2 (by omega)) (λx y x1 x2 x3=>h.r.le (by omega) (by omega) (by omega)) ?_ ?_ ?_ ?_ ?_ λR' st y1 y2 y3 y4 r0 r1 r2 r3 r4 PO r19 Z8=>?_
   ·rfl
   ·rfl
   ·rfl
   ·rfl
   ·rfl
   exact Np (a:=a) (m:=m) (b:=b) (st:=st) (mid:=mid) (en:=mid+m-st) hn ih (by omega) (by omega) (by omega) (by omega) (by omega) (by omega) (by omega) (by omega) (by omega) hb hW hD h
    (by
      by_cases c:st=a
      ·exact .inl c
      ·have:=y3 (st-1) (by omega) (by omega);rw[show mid+m-1-(st-1)=mid+m-st by omega]at this;exact .inr (.inr this))
    (by
      by_cases c:st=m
      ·exact .inl c
      ·have:=y4 st (by omega) (by omega);rw[show mid+m-1-st=mid+m-st-1 by omega]at this;exact .inr (.inr this)) r0 r1 r2 r3 r4 PO r19 Z8
end
def Kp(s n:Nat)(f g:Nat->Int):Prop:=∀q i,(i<q*s->∃j,j<q*s/\g i=f j)/\(q*s<=i->i<n->∃j,q*s<=j/\j<n/\g i=f j)
def Kp.refl(s n:Nat)(f:Nat->Int):Kp s n f f:=λq i=>⟨λh=>⟨i,h,rfl⟩,λh1 h2=>⟨i,h1,h2,rfl⟩⟩
def Kp.trans{s n:Nat}{f g h:Nat->Int}(a:Kp s n f g)(b:Kp s n g h):Kp s n f h:=λq i=>by
 refine⟨λh1=>?_,λh1 h2=>?_⟩
 ·obtain⟨j,j1,e⟩:=(b q i).1 h1;obtain⟨j',j1',e'⟩:=(a q j).1 j1;exact⟨j',j1',e.trans e'⟩
 ·obtain⟨j,j1,j2,e⟩:=(b q i).2 h1 h2;obtain⟨j',j1',j2',e'⟩:=(a q j).2 j1 j2;exact⟨j',j1',j2',e.trans e'⟩
def nW.kp{s n b q0:Nat}{f g:Nat->Int}(p:nW (q0*s) b f g)(h1:b<=q0*s+s)(h2:b<=n):Kp s n f g:=λq i=>by
 by_cases c:q0*s<=i/\i<b
 ·obtain⟨j,j1,j2,e⟩:=p.sub i c.1 c.2;refine⟨λh=>⟨j,?_,e⟩,λh3 h4=>⟨j,?_,by omega,e⟩⟩
  ·by_cases d:q<=q0
   ·have:=mo s d;omega
   ·have:=mo s (show q0+1<=q by omega);rw[jE,kv]at this;omega
  ·by_cases d:q<=q0
   ·have:=mo s d;omega
   ·have:=mo s (show q0+1<=q by omega);rw[jE,kv]at this;omega
 ·exact⟨λh=>⟨i,h,p.out c⟩,λh3 h4=>⟨i,h3,h4,p.out c⟩⟩
def Sep(s n:Nat)(f:Nat->Int):Prop:=∀q i j,i<q*s->q*s<=j->j<n->f i<f j
def Sep.keep{s n:Nat}{f g:Nat->Int}(h:Sep s n f)(p:Kp s n f g):Sep s n g:=λq i j h1 h2 h3=>by obtain⟨i',i1,e⟩:=(p q i).1 h1;obtain⟨j',j1,j2,e'⟩:=(p q j).2 h2 h3;rw[e,e'];exact h q i' j' i1 j1 j2
def Blk(k:Int->Int)(s n:Nat)(f:Nat->Int):Prop:=∀q,sw k f (q*s) (min n (q*s+s))
section
variable {V U W:AW} {B n c:Nat} {f g:Nat->Int} {fv:ad} {k:Int->Int} {D:Int->Prop}
def sw.Mk{a b:Nat}(h:sw k f a b)(e:∀t,a<=t->t<b->g t=f t):sw k g a b:=λi j x1 x2 x3=>by rw[e i x1 (by omega),e j (by omega) x3];exact h i j x1 x2 x3
def J1.of{s q b:Nat}(hb:Blk k s n f)(hs:Sep s n f)(h1:2*q*s+s<b)(h2:b<=n)(h3:b<=2*q*s+s+s):J1 k f (2*q*s) (2*q*s+s) b:=by
 have e:(2*q+1)*s=2*q*s+s:=by rw[jE,kv]
 refine⟨(hb (2*q)).sub (aR _) (by omega),?_,λi j x1 x2 x3 x4=>hs (2*q+1) i j (by omega) (by omega) (by omega)⟩;have:=hb (2*q+1);rw[e]at this;exact this.sub (aR _) (by omega)
end
def amb{a b:Nat}(h:a*b<1000000000000)(t:ag)(c d:Bool)(W:AW):bO Tryz.prog .mul t c d (.ae (a:Int)) (.ae (b:Int)) W=some (.ae ((a*b:Nat):Int),W):=by
 have e:(a:Int)*(b:Int)=((a*b:Nat):Int):=by rw[Int.natCast_mul]
 rw[aec (by rw[e];omega) (by rw[e];omega),e]
section
variable {ρ:Type} {V U W:AW} {B n c:Nat} {f g:Nat->Int} {fv:ad} {k:Int->Int} {D:Int->Prop} {R:ai.Fr} {K:LT->Option ρ} {G:ρ->Prop}
def J1.Mk{a m b:Nat}(h:J1 k f a m b)(h1:a<=m)(h2:m<=b)(e:∀t,a<=t->t<b->g t=f t):J1 k g a m b:=
 ⟨h.l.Mk λt x y=>e t x (by omega),h.r.Mk λt x y=>e t (by omega) y,λs t x1 x2 x3 x4=>by rw[e s x1 (by omega),e t (by omega) x4];exact h.s s t x1 x2 x3 x4⟩
def aby(hn:n<=10000)(hc:Iq V B n fv k D)(hD:∀t,t<n->D (f t))(hf:∀i j,i<j->j<n->f i<f j)(hW:kN V B n f U)
 (q0:R 0=.slice (some ⟨B,0,none⟩) n c)(q1:R 1=.ae (n:Int))(q2:R 2=fv)(q6:R 6=.ae 20)(q7:R 7=.ae 0)(q8:R 8=.ae 20)
 (hk:∀(R':ai.Fr) (U':AW) (q:Nat) (g:Nat->Int),R' 0=.slice (some ⟨B,0,none⟩) n c->R' 1=.ae (n:Int)->R' 2=fv->R' 6=.ae 20->R' 7=.ae ((q*20:Nat):Int)->q*20<=n->n<q*20+20->kN V B n g U'->Kp 20 n f g->nW 0 n f g->(∀p,p<q->sw k g (p*20) (p*20+20))->(∀t,q*20<=t->g t=f t)->Ok (K (X.exit 0,R',U')) G):
 Ok (eY (fV (dE aY) R U) K) G:=by
 refine a8 (n/20) (by omega) (λq Q U=>Q 0=.slice (some ⟨B,0,none⟩) n c/\Q 1=.ae (n:Int)/\Q 2=fv/\Q 6=.ae 20/\Q 7=.ae ((q*20:Nat):Int)/\Q 8=.ae ((q*20+20:Nat):Int)/\∃g,kN V B n g U/\Kp 20 n f g/\nW 0 n f g/\(∀p,p<q->sw k g (p*20) (p*20+20))/\∀t,q*20<=t->g t=f t)
  (λr=>r.1=.exit 0/\r.2.1 0=.slice (some ⟨B,0,none⟩) n c/\r.2.1 1=.ae (n:Int)/\r.2.1 2=fv/\r.2.1 6=.ae 20/\r.2.1 7=.ae ((n/20*20:Nat):Int)/\∃g,kN V B n g r.2.2/\Kp 20 n f g/\nW 0 n f g/\(∀p,p<n/20->sw k g (p*20) (p*20+20))/\∀t,n/20*20<=t->g t=f t)
  ⟨q0,q1,q2,q6,q7,q8,f,hW,.refl _ _ _,.refl,λp hp=>by omega,λt _=>rfl⟩ ?_ ?_ ?_
 ·rintro q Q U hq ⟨z0,z1,z2,z6,z7,z8,g,u,kp,p,s,l⟩;unfold dE;have t1:decide (((q*20+20:Nat):Int)<=(n:Int))=true:=cd;have ta:∀t c d W',bO Tryz.prog .add t c d (.ae ((q*20+20:Nat):Int)) (.ae 20) W'=some (.ae ((q*20+20+20:Nat):Int),W'):=λt c d W'=>yD (a:=q*20+20) (b:=20) (by omega) t c d W'
  obtain⟨U1,g1,e1,e2,e3,e4⟩:=DC (c:=c) (a:=q*20) (b:=q*20+20) hn hc (p.qP (aR _) hD) u (by omega) (by omega) (λi j x1 x2 x3=>by rw[l i x1,l j (by omega)];exact hf i j x2 (by omega));simp only[SX,z0,z1,z2,z6,z7,z8,t1,e1,ta,af];refine .inl ⟨aj,z0,z1,z2,z6,by rw[jE,kv];rfl,by rw[jE,kv];rfl,g1,e2,kp.trans (e3.kp (aR _) (by omega)),p.trans (e3.mono (qg _) (by omega)),λr hr=>?_,λt ht=>?_⟩
  ·by_cases c:r=q
   ·rw[c];exact e4
   ·exact(s r (by omega)).Mk λt x y=>e3.out (by omega)
  ·rw[jE,kv]at ht;rw[e3.out (by omega)];exact l t (by omega)
 ·rintro Q U ⟨z0,z1,z2,z6,z7,z8,g,u,kp,p,s,l⟩;unfold dE;have t1:decide (((n/20*20+20:Nat):Int)<=(n:Int))=false:=bS;simp only[SX,z1,z8,t1,af];exact⟨by simp,aj,z0,z1,z2,z6,z7,g,u,kp,p,s,l⟩
 ·rintro⟨e,Q,U⟩ ⟨rfl,z0,z1,z2,z6,z7,g,u,kp,p,s,l⟩;exact hk Q U (n/20) g z0 z1 z2 z6 z7 (by omega) (by omega) u kp p s l
def aeY{s:Nat}(hn:n<=10000)(hc:Iq V B n fv k D)(hD:∀t,t<n->D (f t))(hb:Blk k s n f)(hs:Sep s n f)(h0:0<s)(hsn:s<n)(hW:kN V B n f U)
 (q0:R 0=.slice (some ⟨B,0,none⟩) n c)(q1:R 1=.ae (n:Int))(q2:R 2=fv)(q6:R 6=.ae (s:Int))(q7:R 7=.ae 0)(q8:R 8=.ae ((2*s:Nat):Int))
 (hk:∀(R':ai.Fr) (U':AW) (q:Nat) (g:Nat->Int),R' 0=.slice (some ⟨B,0,none⟩) n c->R' 1=.ae (n:Int)->R' 2=fv->R' 6=.ae (s:Int)->R' 7=.ae ((q*(2*s):Nat):Int)->q*(2*s)<=n->n<q*(2*s)+2*s->kN V B n g U'->Kp (2*s) n f g->nW 0 n f g->(∀p,p<q->sw k g (p*(2*s)) (p*(2*s)+2*s))->(∀t,q*(2*s)<=t->g t=f t)->Ok (K (X.exit 4,R',U')) G):
 Ok (eY (fV (dP aY) R U) K) G:=by
 refine a8 n (by omega) (λi Q U=>Q 0=.slice (some ⟨B,0,none⟩) n c/\Q 1=.ae (n:Int)/\Q 2=fv/\Q 6=.ae (s:Int)/\∃q:Nat,i<=q*(2*s)/\q*(2*s)<=n/\Q 7=.ae ((q*(2*s):Nat):Int)/\Q 8=.ae ((q*(2*s)+2*s:Nat):Int)/\∃g,kN V B n g U/\Kp (2*s) n f g/\nW 0 n f g/\(∀p,p<q->sw k g (p*(2*s)) (p*(2*s)+2*s))/\∀t,q*(2*s)<=t->g t=f t)
  (λr=>r.1=.exit 4/\r.2.1 0=.slice (some ⟨B,0,none⟩) n c/\r.2.1 1=.ae (n:Int)/\r.2.1 2=fv/\r.2.1 6=.ae (s:Int)/\∃q:Nat,q*(2*s)<=n/\n<q*(2*s)+2*s/\r.2.1 7=.ae ((q*(2*s):Nat):Int)/\∃g,kN V B n g r.2.2/\Kp (2*s) n f g/\nW 0 n f g/\(∀p,p<q->sw k g (p*(2*s)) (p*(2*s)+2*s))/\∀t,q*(2*s)<=t->g t=f t)
  ⟨q0,q1,q2,q6,0,by omega,by omega,by rw[uV];exact q7,by rw[uV,aI];exact q8,f,hW,.refl _ _ _,.refl,λp hp=>by omega,λt _=>rfl⟩ ?_ ?_ ?_
 ·rintro i Q U hi ⟨z0,z1,z2,z6,q,y1,y2,z7,z8,g,u,kp,p,so,l⟩;unfold dP;by_cases e:q*(2*s)+2*s<=n
  ·have t1:decide (((q*(2*s)+2*s:Nat):Int)<=(n:Int))=true:=cd;have e2:q*(2*s)=2*q*s:=by rw[Nat.mul_comm 2 q,Nat.mul_assoc]
   have ta:=λt c d W'=>yD (a:=q*(2*s)) (b:=s) (by omega) t c d W'
   have tm:∀t c d W',bO Tryz.prog .mul t c d (.ae 2) (.ae (s:Int)) W'=some (.ae ((2*s:Nat):Int),W'):=λt c d W'=>amb (a:=2) (b:=s) (by omega) t c d W'
   have tb:=λt c d W'=>yD (a:=q*(2*s)+2*s) (b:=2*s) (by omega) t c d W'
   have two:J1 k g (q*(2*s)) (q*(2*s)+s) (q*(2*s)+2*s):=by have:=J1.of (q:=q) (b:=2*q*s+2*s) hb hs (by omega) (by omega) (by omega);rw[<-e2]at this;exact this.Mk (by omega) (by omega) λt x y=>l t x
   obtain⟨U1,g1,f1,f2,f3,f4⟩:=AD (c:=c) hn hc (2*s+1) (q*(2*s)) (q*(2*s)+s) (q*(2*s)+2*s) g U (by omega) (by omega) (by omega) e u (p.qP (aR _) hD) two;simp only[SX,z0,z1,z2,z6,z7,z8,t1,ta,f1,tm,tb,af];refine .inl ⟨aj,z0,z1,z2,z6,q+1,by rw[jE,kv];omega,by rw[jE,kv];omega,by rw[jE,kv];rfl,by rw[jE,kv];rfl,g1,f2,kp.trans (f3.kp (aR _) e),p.trans (f3.mono (qg _) e),λr hr=>?_,λt ht=>?_⟩
   ·by_cases c:r=q
    ·rw[c];exact f4
    ·have:=mo (2*s) (show r+1<=q by omega);rw[jE,kv]at this;exact(so r (by omega)).Mk λt x y=>f3.out (by omega)
   ·rw[jE,kv]at ht;rw[f3.out (by omega)];exact l t (by omega)
  ·have t1:decide (((q*(2*s)+2*s:Nat):Int)<=(n:Int))=false:=bS;simp only[SX,z1,z8,t1,af];exact .inr ⟨by simp,aj,z0,z1,z2,z6,q,y2,by omega,z7,g,u,kp,p,so,l⟩
 ·rintro Q U ⟨z0,z1,z2,z6,q,y1,y2,z7,z8,g,u,kp,p,so,l⟩;unfold dP;have t1:decide (((q*(2*s)+2*s:Nat):Int)<=(n:Int))=false:=bS;simp only[SX,z1,z8,t1,af];exact⟨by simp,aj,z0,z1,z2,z6,q,y2,by omega,z7,g,u,kp,p,so,l⟩
 ·rintro⟨e,Q,U⟩ ⟨rfl,z0,z1,z2,z6,q,y1,y2,z7,g,u,kp,p,so,l⟩;exact hk Q U q g z0 z1 z2 z6 z7 y1 y2 u kp p so l
end
def Sep.dbl{s n:Nat}{f:Nat->Int}(h:Sep s n f):Sep (2*s) n f:=λq i j h1 h2 h3=>by
 have e:q*(2*s)=2*q*s:=by rw[Nat.mul_comm 2 q,Nat.mul_assoc]
 exact h (2*q) i j (by omega) (by omega) h3
section
variable {V U W:AW} {B n c:Nat} {f g:Nat->Int} {fv:ad} {k:Int->Int} {D:Int->Prop}
def Y1(hn:n<=10000)(hc:Iq V B n fv k D)(hD:∀t,t<n->D (f t))(hf:∀i j,i<j->j<n->f i<f j)(hW:kN V B n f W):∃U g,aY (.func (.func 198) #[] #[]) [.slice (some ⟨B,0,none⟩) n c,.ae (n:Int),fv] W=some (.tuple #[],U)/\kN V B n g U/\nW 0 n f g/\sw k g 0 n:=by
 refine JW (Q:=λg=>nW 0 n f g/\sw k g 0 n) ?_ hW kQ;unfold jf;refine aby (c:=c) hn hc hD hf hW ?_ ?_ ?_ ?_ ?_ ?_ λR' U1 q g r0 r1 r2 r6 r7 y1 y2 u kp p s l=>?_
 ·rfl
 ·rfl
 ·rfl
 ·rfl
 ·rfl
 ·rfl
 obtain⟨U2,g2,e1,e2,e3,e4⟩:=DC (c:=c) (a:=q*20) (b:=n) hn hc (p.qP (aR _) hD) u (by omega) (aR _) (λi j x1 x2 x3=>by rw[l i x1,l j (by omega)];exact hf i j x2 x3);simp only[SX,r0,r1,r2,r7,e1];have hb:Blk k 20 n g2:=λr=>by
  by_cases c1:r<q
  ·have:=(s r c1).Mk (g:=g2) λt x y=>e3.out (by omega)
   exact this.sub (aR _) (by omega)
  ·by_cases c2:r=q
   ·rw[c2];exact e4.sub (aR _) (by omega)
   ·exactλi j x1 x2 x3=>by omega
 have hs:Sep 20 n g2:=Sep.keep (λq i j h1 h2 h3=>hf i j (by omega) h3) (kp.trans (e3.kp (by omega) (aR _)));refine a8 n (by omega) (λi Q U=>Q 0=.slice (some ⟨B,0,none⟩) n c/\Q 1=.ae (n:Int)/\Q 2=fv/\∃s:Nat,i<s/\s<=20000/\Q 6=.ae (s:Int)/\∃g,kN V B n g U/\nW 0 n f g/\Blk k s n g/\Sep s n g)
  (λr=>r.1=.exit 2/\∃g,kN V B n g r.2.2/\nW 0 n f g/\sw k g 0 n)
  ⟨r0,r1,r2,20,by omega,by omega,r6,g2,e2,p.trans (e3.mono (qg _) (aR _)),hb,hs⟩ ?_ ?_ ?_
 ·rintro i Q U hi ⟨z0,z1,z2,s,y1,y2,z6,g,u,p,hb,hs⟩;unfold fc;by_cases lt:s<n
  ·have t1:decide ((s:Int)<(n:Int))=true:=cd;have tm:∀t c d W',bO Tryz.prog .mul t c d (.ae 2) (.ae (s:Int)) W'=some (.ae ((2*s:Nat):Int),W'):=λt c d W'=>amb (a:=2) (b:=s) (by omega) t c d W'
   have tm2:∀t c d W',bO Tryz.prog .mul t c d (.ae (s:Int)) (.ae 2) W'=some (.ae ((s*2:Nat):Int),W'):=λt c d W'=>amb (a:=s) (b:=2) (by omega) t c d W'
   simp only[SX,z1,z6,t1,tm];refine aeY (s:=s) (c:=c) (f:=g) hn hc (p.qP (aR _) hD) hb hs (by omega) lt u ?_ ?_ ?_ ?_ ?_ ?_ λR'' U' q g' w0 w1 w2 w6 w7 x1 x2 u' kp' p' so l'=>?_
   ·exact z0
   ·exact z1
   ·exact z2
   ·exact z6
   ·rfl
   ·rfl
   have ta:=λt c d W'=>yD (a:=q*(2*s)) (b:=s) (by omega) t c d W'
   have e2:q*(2*s)=2*q*s:=by rw[Nat.mul_comm 2 q,Nat.mul_assoc]
   have mf:∀g3 U3,kN V B n g3 U3->nW (q*(2*s)) n g' g3->sw k g3 (q*(2*s)) n->∃g,kN V B n g U3/\nW 0 n f g/\Blk k (s*2) n g/\Sep (s*2) n g:=λg3 U3 u3 p3 s3=>by
    refine⟨g3,u3,(p.trans p').trans (p3.mono (qg _) (aR _)),?_,?_⟩
    ·rw[Nat.mul_comm s 2];intro r;by_cases c1:r<q
     ·have h:=mo (2*s) (show r+1<=q by omega);rw[jE,kv]at h;have:=(so r c1).Mk (g:=g3) λt x y=>p3.out (by omega)
      exact this.sub (aR _) (by omega)
     ·by_cases c2:r=q
      ·rw[c2];exact s3.sub (aR _) (by omega)
      ·have h:=mo (2*s) (show q+1<=r by omega);rw[jE,kv]at h;exactλi j x1 x2 x3=>by omega
    ·rw[Nat.mul_comm s 2];exact(hs.dbl.keep kp').keep (p3.kp (by omega) (aR _))
   by_cases c1:q*(2*s)+s<n
   ·have t2:decide (((q*(2*s)+s:Nat):Int)<(n:Int))=true:=cd;have two:J1 k g' (q*(2*s)) (q*(2*s)+s) n:=by have:=J1.of (q:=q) (b:=n) hb hs (by omega) (aR _) (by omega);rw[<-e2]at this;exact this.Mk (by omega) (by omega) λt x y=>l' t x
    obtain⟨U3,g3,f1,f2,f3,f4⟩:=AD (c:=c) hn hc (n+1) (q*(2*s)) (q*(2*s)+s) n g' U' (by omega) (by omega) c1 (aR _) u' ((p.trans p').qP (aR _) hD) two;simp only[SX,w0,w1,w2,w6,w7,ta,t2,f1,tm2,af];exact .inl ⟨aj,w0,w1,w2,s*2,by omega,by omega,rfl,mf g3 U3 f2 f3 f4⟩
   ·have t2:decide (((q*(2*s)+s:Nat):Int)<(n:Int))=false:=bS;simp only[SX,w0,w1,w2,w6,w7,ta,t2,tm2,af];refine .inl ⟨aj,w0,w1,w2,s*2,by omega,by omega,rfl,mf g' U' u' .refl ?_⟩;have:=hb (2*q);rw[<-e2]at this;exact(this.Mk (g:=g') λt x y=>l' t x).sub (aR _) (by omega)
  ·have t1:decide ((s:Int)<(n:Int))=false:=bS;simp only[SX,z1,z6,t1,af];refine .inr ⟨by simp,aj,g,u,p,?_⟩;have:=hb 0;rw[uV]at this;exact this.sub (aR _) (by omega)
 ·rintro Q U ⟨z0,z1,z2,s,y1,y2,z6,g,u,p,hb,hs⟩;unfold fc;have t1:decide ((s:Int)<(n:Int))=false:=bS;simp only[SX,z1,z6,t1,af];refine⟨by simp,aj,g,u,p,?_⟩;have:=hb 0;rw[uV]at this;exact this.sub (aR _) (by omega)
 ·rintro⟨e,Q,U⟩ ⟨rfl,g,u,p,s⟩;simp only[SX,af];exact⟨aj,g,u,p,s⟩
def MG(hn:n<=10000)(hc:Iq V B n fv k D)(hD:∀t,t<n->D (f t))(hf:∀i j,i<j->j<n->f i<f j)(hW:kN V B n f W):∃U g,aY (.func (.func 166) #[] #[]) [.slice (some ⟨B,0,none⟩) n c,fv] W=some (.tuple #[],U)/\kN V B n g U/\nW 0 n f g/\sw k g 0 n:=by
 refine JW (Q:=λg=>nW 0 n f g/\sw k g 0 n) ?_ hW jg;unfold gn;obtain⟨U,g,e1,e2,e3,e4⟩:=Y1 (c:=c) hn hc hD hf hW;have hl:∀W',aZ Tryz.prog .len #[28] 3 #[false] [.slice (some ⟨B,0,none⟩) n c] W'=some (.ae (n:Int),W'):=λW'=>df vw _ _ _
 simp only[SX,hl,e1,af];exact⟨aj,g,e2,e3,e4⟩
end
def vT:di:=λc a b=>bT c 199 [a] λd=>bT c 199 [b] λe=>gI d (gI e (yO [(I 0,none)]) (yO [(I (-1),none)])) (gI e (yO [(I 1,none)]) (gB (YM a b) λf=>gI f (yO [(I (-1),none)]) (gB (ag0 a b) λg=>gI g (yO [(I 1,none)]) (yO [(I 0,none)]))))
def BS{x0 x1 W r}(h:vT aY x0 x1 W=some r):OG 168 #[] [x0,x1] W r:=oM 20 h (by kernel_rfl)
def zM:fx:=λc a=>gB (abG a a) λb=>yO [(b,none)]
def ET{x0 W r}(h:zM aY x0 W=some r):OG 199 #[] [x0] W r:=oM 6 h (by kernel_rfl)
def SH{W0 W:AW}{ob sb qb:Nat}{bq:Nat->Nat}{x x':cS}{sv:ad}{o:kP}{s:Int}(h:fA W0 W ob sb qb bq x sv o s){F:Nat}{t:Option (ad×AW)}{r:mE}(Nq:∀{r},t=some r->aY (.func (.func F) #[] #[]) [ba ob] W=some (gc W r))
 (ht:Ok t λq=>q.1=fX r/\fA W0 q.2 ob sb qb bq x' sv o s/\W.next<=q.2.next/\∀b,ob<b->b<W.next->q.2.get b=W.get b):lC W0 W ob sb qb bq sv o s F x' r:=by
 obtain⟨⟨v,V⟩,k1,rfl,k2⟩:=ht;obtain⟨V2,e',q1,q2⟩:=Bl (v:=fX r) (Q:=λV=>fA W0 V ob sb qb bq x' sv o s/\W.next<=V.next/\∀b,ob<b->b<W.next->V.get b=W.get b) k2 λhp=>⟨h.back k2.1 hp,aR _,λ_ _ _=>rfl⟩
 exact⟨V2,bq,by rw[Nq k1,e'],q1,q2.1,q2.2,λ_=>.inl rfl⟩
def CO(W:AW):fd Tryz.prog 50 [] W=some (fX gz,W):=aT (by kernel_rfl) rfl
section
variable {W0 W V:AW} {ob sb qb:Nat} {bq:Nat->Nat} {x x':cS} {sv:ad} {o:kP} {s:Int}
def aeB(h:fA W0 W ob sb qb bq x sv o s)(hx:QsX W qb bq x.qs)(yS:sb<ob/\qb<ob/\∀k,bq k<ob){k:Nat}(hk:k<x.qs.length)(PG:o.sc=(k:Int))(hl:(ik x k).length<=1000):
 lC W0 W ob sb qb bq sv o s 134 (sI x k o.ow) (F3 x k o.ow):=by
 have e0:x.qs[k]=ik x k:=by simp[ik,bJ hk]
 obtain⟨V,al,aM,n2,g2⟩:=ni W;have h1:=h.mono aM;obtain⟨qv,q1,q2,q3,q4⟩:=hx.mono h.hi.2.2 aM;obtain⟨u,u1,u2⟩:=q3 _ hk;rw[e0]at u2;have lu:bu (.pointer (some ⟨qb,k,none⟩)) V=some (u,V):=aP (ao q1) u1;have hix:=Ru u2.rd (by omega) o.ow;rw[show nc (λy=>decide (o.ow=y)) (ik x k)=MP x k o.ow from rfl]at hix;by_cases c:MP x k o.ow<0
 ·have e2:sI x k o.ow=x:=an c;have e3:F3 x k o.ow=pY 4:=an c;rw[e2,e3];refine mS h ⟨yS.1,yS.2.1⟩ pE ?_;unfold nv;obtain⟨p1,p2⟩:=ud g2 (pY 4);have d:=aK c;simp only[SX,al,aS,aI,Nat.reduceAdd,h1.l6,h1.l11,PG,ixQ hk,lu,h1.l8,hix,d,km,p1,p2,af];exact⟨aj,gt h h1 (.of_le aM) (aR _) _⟩
 ·obtain⟨i,hi,ei⟩:=Wb c;rw[show nc (λy=>decide (o.ow=y)) (ik x k)=MP x k o.ow from rfl]at ei;have e2:sI x k o.ow={x with qs:=x.qs.set k (Zk (ik x k) i)}:=(aq c).trans (by rw[ei];rfl);have e3:F3 x k o.ow=gz:=aq c;rw[e2,e3];refine SH h pE ?_;have fe:ik x k≠[]:=λe=>by rw[e]at hi;cases hi
  rcases u2 with⟨hn,-⟩|⟨-,hb,rfl,hc⟩
  ·exact absurd hn fe
  have Uc:=h.hi;have hbq:=h.nq k;have agM:=Zb (W:=V) (args:=[.slice (some ⟨bq k,0,none⟩) (ik x k).length (eJ+1),.ae (i:Nat),.ae ((i:Int)+1)]) ⟨bq k,ik x k,i,hi,rfl,hc,rfl⟩;have t1:=λW'=>bc W' i 1
  have d:=aJ c;rw[ei]at d hix;obtain⟨V5,Ms⟩:∃V5,V5=V.put (bq k) (.cells ((sG (ik x k) i).map (Value.int .u32))):=⟨_,rfl⟩;rw[<-Ms]at agM;have vo:∀c,c≠bq k->V5.get c=V.get c:=λc hc=>by rw[Ms];exact AW.ay _ _ (bh hc)
  have vb:V5.get (bq k)=some (.cells ((sG (ik x k) i).map (Value.int .u32))):=by rw[Ms];exact AW.aW _ _ _
  have vn:V5.next=V.next:=by rw[Ms];rfl
  clear Ms;have NM:k<qv.length:=by omega
  have sq:fm 1 (.pointer (some ⟨qb,k,none⟩)) (.slice (some ⟨bq k,0,none⟩) ((ik x k).length-1) (eJ+1)) V5=some (ak,V5.put qb (.cells (qv.set k (.slice (some ⟨bq k,0,none⟩) ((ik x k).length-1) (eJ+1))))):=by rw[jh,cT ((vo _ (by omega)).trans q1),bM,an NM]
  obtain⟨U,hU⟩:∃U,U=V5.put qb (.cells (qv.set k (.slice (some ⟨bq k,0,none⟩) ((ik x k).length-1) (eJ+1)))):=⟨_,rfl⟩;rw[<-hU]at sq;have uq:U.get qb=some (.cells (qv.set k (.slice (some ⟨bq k,0,none⟩) ((ik x k).length-1) (eJ+1)))):=by rw[hU];exact AW.aW _ _ _
  have uo:∀c,c≠qb->U.get c=V5.get c:=λc hc=>by rw[hU];exact AW.ay _ _ (bh hc)
  have un:U.next=V.next:=by rw[hU,AW.bH,vn]
  clear hU;have g5:U.get W.next=some (.cells (jr gz)):=((uo _ (by omega)).trans (vo _ (by omega))).trans g2;obtain⟨p1,p2⟩:=ud g5 gz;unfold nv;simp only[SX,al,aS,aI,Nat.reduceAdd,h1.l6,h1.l11,PG,ixQ hk,lu,h1.l8,hix,d,t1,agM,sq,CO,p1,p2,af];have gW:∀b,b<W.next->b≠qb->b≠bq k->(U.put W.next (.cells (jr gz))).get b=W.get b:=λb hb h2 h3=>(AW.ay _ _ (by omega)).trans ((uo _ h2).trans ((vo b h3).trans (aM.get b hb)))
  refine⟨aj,{le:=⟨by rw[AW.bH];have:=h.le.next;omega,λb hb=>(gW b (fb hb h.le.next) (by have:=h.lo;omega) (by omega)).trans (h.le.get b hb)⟩,lo:=h.lo,hi:=by rw[AW.bH];omega,ne:=h.ne,nq:=λj=>?_,sec:=h.sec,go:=?_,gs:=?_,gq:=?_},by rw[AW.bH];omega,λb b1 b2=>gW b b2 (by omega) (by have:=yS.2.2 k;omega)⟩
  ·rw[AW.bH];have:=h.nq j;omega
  ·rw[gW _ Uc.1 h.ne.2.1 (bh hbq.2.2.1)];simp only[xU];exact h.go
  ·rw[gW _ Uc.2.1 h.ne.2.2 (bh hbq.2.2.2.1)];exact h.gs
  ·refine⟨_,(AW.ay _ _ (by omega)).trans uq,by simp[q2],λj hj=>?_⟩;have ZZ:j<x.qs.length:=by simpa using hj
   by_cases Z4:k=j
   ·subst Z4;refine⟨_,y6 NM,?_⟩;simp only[AK];have dS:(Zk (ik x k) i).length=(ik x k).length-1:=by unfold Zk;rw[cD,cR,mr];omega
    refine .inr ⟨0,_,by rw[dS],((AW.ay _ _ (by omega)).trans (uo _ (by omega))).trans vb,?_⟩;rw[jB,<-xl];congr 1;have:sG (ik x k) i=Zk (ik x k) i++[0]:=rfl;rw[this,xj]
   ·obtain⟨w,w1,w2⟩:=q3 j ZZ;refine⟨w,by rw[Ah Z4];exact w1,?_⟩;simp only[Ds Z4];by_cases hem:x.qs[j]=[]
    ·rw[hem]at w2|-;rcases w2 with w2|⟨w3,-⟩
     ·exact .inl w2
     ·exact absurd rfl w3
    ·refine w2.qa.keep ?_;have hj3:=h.nq j;have e5:=gW (bq j) (by omega) hj3.2.2.2.2 (q4 j k ZZ hk (bh Z4) hem (by rw[e0];exact fe));exact e5.trans (aM.get _ (by omega)).symm
end
def aaO(a b:Int):Int:=if a<b then -1 else if b<a then 1 else 0
def Ln(a:Int)(W:AW):aY (.func (.func 199) #[] #[]) [.ae a] W=some (.bool false,W):=by refine aQ rfl ?_ ET;unfold zM;have d:decide (a=a)=true:=aK rfl;simp(maxDischargeDepth:=9) only[SX,MX,HX]
def ac2(a b:Int)(W:AW):aY (.func (.func 168) #[] #[]) [.ae a,.ae b] W=some (.ae (aaO a b),W):=by
 refine aQ rfl ?_ BS;unfold vT aaO;by_cases c:a<b
 ·have d:=aK c;simp(maxDischargeDepth:=9) only[SX,MX,HX,Ln,d,an c]
 ·have d:=aJ c;by_cases c2:b<a
  ·have d2:=aK c2;simp(maxDischargeDepth:=9) only[SX,MX,HX,Ln,d,d2,aq c,an c2]
  ·have d2:=aJ c2;simp(maxDischargeDepth:=9) only[SX,MX,HX,Ln,d,d2,aq c,aq c2]
def adQ(a b:Int):aaO a b<0<->a<b:=by
 unfold aaO;split
 ·omega
 ·split<;>omega
def NS{o t:Option (ad×AW)}{W:AW}(h:Ok t λr=>r.1=.tuple #[]/\r.2=W)(Nq:∀{r},t=some r->o=some (gc W r)):o=some (.tuple #[],W):=by obtain⟨⟨v,V⟩,h1,rfl,rfl⟩:=h;rw[Nq h1,jx rfl]
def ahq(v fv:ad)(W:AW):aY (.func (.func 213) #[] #[]) [v,.ae 0,.ae 0,fv] W=some (.tuple #[],W):=by
 refine NS ?_ eW;unfold dI;have t1:=λW'=>bc W' 0 1
 simp only[SX,t1];refine a8 0 (by omega) (λk R V=>V=W/\R 8=.ae 1/\R 2=.ae 0) (λr=>r.1=.exit 0/\r.2.2=W) ⟨rfl,rfl,rfl⟩ (by omega) ?_ ?_
 ·rintro R V ⟨rfl,r8,r2⟩;unfold cM;simp only[SX,r8,r2,Int.reduceLT,af];exact⟨by simp,aj,aj⟩
 ·rintro⟨e,R,V⟩ ⟨rfl,rfl⟩;simp only[SX,af];exact⟨aj,aj⟩
def TR(v fv:ad)(W:AW):aY (.func (.func 198) #[] #[]) [v,.ae 0,fv] W=some (.tuple #[],W):=by
 refine NS ?_ kQ;unfold jf;refine a8 0 (by omega) (λk R V=>V=W/\R 0=v/\R 1=.ae 0/\R 2=fv/\R 6=.ae 20/\R 7=.ae 0/\R 8=.ae 20) (λr=>r.1=.exit 0/\r.2.2=W/\r.2.1 0=v/\r.2.1 1=.ae 0/\r.2.1 2=fv/\r.2.1 6=.ae 20/\r.2.1 7=.ae 0) ⟨rfl,rfl,rfl,rfl,rfl,rfl,rfl⟩ (by omega) ?_ ?_
 ·rintro R V ⟨rfl,r0,r1,r2,r6,r7,r8⟩;unfold dE;simp only[SX,r8,r1,Int.reduceLE,af];exact⟨by simp,aj,aj,r0,r1,r2,r6,r7⟩
 ·rintro⟨e,R,V⟩ ⟨rfl,rfl,r0,r1,r2,r6,r7⟩;simp only at r0 r1 r2 r6 r7;simp only[SX,r0,r1,r2,r7,ahq];refine a8 0 (by omega) (λk R V'=>V'=V/\R 6=.ae 20/\R 1=.ae 0) (λr=>r.1=.exit 2/\r.2.2=V) ⟨rfl,r6,r1⟩ (by omega) ?_ ?_
  ·rintro R V ⟨rfl,r6,r1⟩;unfold fc;simp only[SX,r6,r1,Int.reduceLT,af];exact⟨by simp,aj,aj⟩
  ·rintro⟨e,R,V⟩ ⟨rfl,rfl⟩;simp only[SX,af];exact⟨aj,aj⟩
def adV(fv:ad)(W:AW):aY (.func (.func 166) #[] #[]) [.slice none 0 0,fv] W=some (.tuple #[],W):=by
 refine NS ?_ jg;unfold gn;have hl:∀W',aZ Tryz.prog .len #[28] 3 #[false] [.slice none 0 0] W'=some (.ae 0,W'):=λW'=>df vw _ _ _
 simp only[SX,hl,TR,af];exact⟨aj,aj⟩
structure TL where
 ops:List kU
 Hb:List Int
 busy:Int->Option Int
 CA:Nat
def TL.init:TL:=⟨[],[],λ_=>none,0⟩
def abP(ops:List kU)(j:Nat)(k:Int)(r:mE):List kU:=match ops[j]? with
 |some o=>ops.set j {o with to:=k,rp:=r}
 |none=>ops
open Classical in
noncomputable def dD(s:TL)(x:gD):Int:=
 if x.th<1\/64<x.th then 7 else
 if x.ret=true then(if s.busy x.th=some x.id/\x.op=ZT then 0 else 6)else
 if(s.busy x.th).isSome=true\/x.id≠(s.ops.length:Int)+1\/x.rp≠gz\/zZ x.op≠0 then 6 else 0
def yh(s:TL)(k:Nat)(x:gD):TL:=
 if x.ret=true then⟨abP s.ops (x.id-1).toNat k x.rp,s.Hb++[((s.CA-1:Nat):Int)],λt=>if t=x.th then none else s.busy t,s.CA-1⟩
 else⟨s.ops++[⟨x.id,x.th,k,-1,x.op,gz⟩],s.Hb++[((s.CA+1:Nat):Int)],λt=>if t=x.th then some x.id else s.busy t,s.CA+1⟩
inductive yo (l:List gD):Nat->TL->Prop
 |zero:yo l 0 TL.init
 |succ {k:Nat} {s:TL} {x:gD}:yo l k s->l[k]? =some x->dD s x=0->yo l (k+1) (yh s k x)
structure Inv (l:List gD) (k:Nat) (s:TL):Prop where
 ids:∀(j:Nat) (o:kU),s.ops[j]? =some o->o.id=(j:Int)+1/\∃(i:Nat) (x:gD),i<k/\l[i]? =some x/\o.fr=(i:Int)/\x.ret=false/\x.id=(j:Int)+1/\x.th=o.th/\x.op=o.op
 cal:∀(i:Nat) (x:gD),i<k->l[i]? =some x->x.ret=false->∃(j:Nat) (o:kU),s.ops[j]? =some o/\x.id=(j:Int)+1/\o.fr=(i:Int)
 ret:∀(i:Nat) (x:gD),i<k->l[i]? =some x->x.ret=true->∃(j:Nat) (o:kU),s.ops[j]? =some o/\x.id=(j:Int)+1/\o.to=(i:Int)/\o.rp=x.rp
 tos:∀(j:Nat) (o:kU),s.ops[j]? =some o->(o.to= -1/\o.rp=gz)\/∃(i:Nat) (x:gD),i<k/\l[i]? =some x/\o.to=(i:Int)/\x.ret=true/\x.id=(j:Int)+1
 bsy:∀t id:Int,s.busy t=some id<->∃(j:Nat) (o:kU),s.ops[j]? =some o/\id=(j:Int)+1/\o.th=t/\o.to= -1
 cnc:((l.take k).filter λe=> !e.ret).length=s.ops.length
 opl:s.Hb.length=k
 opk:s.ops.length<=k
def qt{α:Type}{l:List α}{a b:α}{j:Nat}:(l++[a])[j]? =some b<->l[j]? =some b\/(j=l.length/\b=a):=by
 rw[xi];by_cases h:j<l.length
 ·rw[an h];constructor
  ·exact .inl
  ·rintro(h1|⟨h1,-⟩)
   ·exact h1
   ·omega
 ·rw[aq h,kn (l:=l) (by omega)];by_cases h2:j=l.length
  ·subst h2;rw[Bb];simp[eq_comm]
  ·rw[kn (by simp;omega)];simp[h2]
def Fy{l:List gD}{k:Nat}{x:gD}(h:l[k]? =some x):l.take (k+1)=l.take k++[x]:=by obtain⟨h1,rfl⟩:=da.1 h;exact iY h1
def Yy{s:TL}{x:gD}(hr:x.ret=true)(h:dD s x=0):s.busy x.th=some x.id/\x.op=ZT/\1<=x.th/\x.th<=64:=by
 unfold dD at h;split at h
 ·omega
 ·try rw[an hr]at h
  split at h
  ·rename_i h1 h2;exact⟨h2.1,h2.2,by omega,by omega⟩
  ·omega
def KO{s:TL}{x:gD}(hr:x.ret=false)(h:dD s x=0):s.busy x.th=none/\x.id=(s.ops.length:Int)+1/\x.rp=gz/\zZ x.op=0/\1<=x.th/\x.th<=64:=by
 unfold dD at h;split at h
 ·omega
 ·try rw[aq (by rw[hr];simp)]at h
  split at h
  ·omega
  ·rename_i h1 h2;simp only[not_or,Classical.not_not]at h2;refine⟨?_,h2.2.1,h2.2.2.1,h2.2.2.2,by omega,by omega⟩;cases hb:s.busy x.th with
   |none=>rfl
   |some v=>rw[hb]at h2;simp at h2
def yo.inv{l:List gD}{k:Nat}{s:TL}(h:yo l k s):Inv l k s:=by
 induction h with
 |zero=>exact⟨by simp[TL.init],λi x hi=>by omega,λi x hi=>by omega,by simp[TL.init],by simp[TL.init],by simp[TL.init],rfl,by simp[TL.init]⟩
 | @succ k s x lZ hx he ih=>
  have mC:=(da.1 hx).1;cases hr:x.ret with
  |true=>
   obtain⟨hb,vO,-,-⟩:=Yy hr he;obtain⟨j,o0,g0,gid,gth,gto⟩:=(ih.bsy _ _).1 hb;have ej:(x.id-1).toNat=j:=by omega
   have hj:j<s.ops.length:=(da.1 g0).1;have hs:yh s k x=⟨s.ops.set j {o0 with to:=(k:Int),rp:=x.rp},s.Hb++[((s.CA-1:Nat):Int)],λt=>if t=x.th then none else s.busy t,s.CA-1⟩:=by unfold yh abP;rw[an hr,ej,g0]
   rw[hs];have dX:∀(j':Nat) (o:kU),(s.ops.set j {o0 with to:=(k:Int),rp:=x.rp})[j']? =some o<->(j'=j/\o={o0 with to:=(k:Int),rp:=x.rp})\/(j'≠j/\s.ops[j']? =some o):=λj' o=>by
    rw[uk];by_cases e:j=j'
    ·subst e;rw[an rfl,an hj];simp[eq_comm]
    ·rw[aq e];simp[bh e]
   refine⟨λj' o ho=>?_,λi y hi hy Ty=>?_,λi y hi hy Ty=>?_,λj' o ho=>?_,λt id=>?_,?_,by simp[ih.opl],by simp;have:=ih.opk;omega⟩
   ·rcases(dX j' o).1 ho with⟨rfl,rfl⟩|⟨fe,ho⟩
    ·obtain⟨h1,i,y,h2,h3⟩:=ih.ids _ _ g0;exact⟨h1,i,y,by omega,h3⟩
    ·obtain⟨h1,i,y,h2,h3⟩:=ih.ids _ _ ho;exact⟨h1,i,y,by omega,h3⟩
   ·by_cases ei:i=k
    ·subst ei;rw[hx]at hy;injection hy with hy;subst hy;rw[hr]at Ty;cases Ty
    ·obtain⟨j',o,h1,h2,h3⟩:=ih.cal i y (by omega) hy Ty;by_cases e:j'=j
     ·subst e;rw[g0]at h1;injection h1 with h1;subst h1;exact⟨j',_,(dX _ _).2 (.inl ⟨rfl,rfl⟩),h2,h3⟩
     ·exact⟨j',o,(dX _ _).2 (.inr ⟨e,h1⟩),h2,h3⟩
   ·by_cases ei:i=k
    ·subst ei;rw[hx]at hy;injection hy with hy;subst hy;exact⟨j,_,(dX _ _).2 (.inl ⟨rfl,rfl⟩),gid,rfl,rfl⟩
    ·obtain⟨j',o,h1,h2,h3,h4⟩:=ih.ret i y (by omega) hy Ty;by_cases e:j'=j
     ·subst e;rw[g0]at h1;injection h1 with h1;subst h1;omega
     ·exact⟨j',o,(dX _ _).2 (.inr ⟨e,h1⟩),h2,h3,h4⟩
   ·rcases(dX j' o).1 ho with⟨rfl,rfl⟩|⟨fe,ho⟩
    ·exact .inr ⟨k,x,by omega,hx,rfl,hr,gid⟩
    ·rcases ih.tos _ _ ho with h|⟨i,y,h1,h2⟩
     ·exact .inl h
     ·exact .inr ⟨i,y,by omega,h2⟩
   ·simp only;constructor
    ·intro h;split at h
     ·cases h
     ·rename_i fe;obtain⟨j',o,h1,h2,h3,h4⟩:=(ih.bsy t id).1 h;have e:j'≠j:=λe=>by subst e;rw[g0]at h1;injection h1 with h1;subst h1;exact fe (h3.symm.trans gth)
      exact⟨j',o,(dX _ _).2 (.inr ⟨e,h1⟩),h2,h3,h4⟩
    ·rintro⟨j',o,h1,h2,h3,h4⟩;rcases(dX j' o).1 h1 with⟨rfl,rfl⟩|⟨fe,ho⟩
     ·simp only at h4;omega
     ·have h5:=(ih.bsy t id).2 ⟨j',o,ho,h2,h3,h4⟩;by_cases et:t=x.th
      ·subst et;rw[hb]at h5;injection h5 with h5;omega
      ·rw[aq et];exact h5
   ·rw[Fy hx,vz];simp[hr,ih.cnc]
  |false=>
   obtain⟨hb,LM,hrp,vO,-,-⟩:=KO hr he;have hs:yh s k x=⟨s.ops++[⟨x.id,x.th,(k:Int),-1,x.op,gz⟩],s.Hb++[((s.CA+1:Nat):Int)],λt=>if t=x.th then some x.id else s.busy t,s.CA+1⟩:=by unfold yh;rw[aq (by rw[hr];simp)]
   rw[hs];refine⟨λj' o ho=>?_,λi y hi hy Ty=>?_,λi y hi hy Ty=>?_,λj' o ho=>?_,λt id=>?_,?_,by simp[ih.opl],by simp;have:=ih.opk;omega⟩
   ·rcases qt.1 ho with ho|⟨rfl,rfl⟩
    ·obtain⟨h1,i,y,h2,h3⟩:=ih.ids _ _ ho;exact⟨h1,i,y,by omega,h3⟩
    ·exact⟨LM,k,x,by omega,hx,rfl,hr,LM,rfl,rfl⟩
   ·by_cases ei:i=k
    ·subst ei;rw[hx]at hy;injection hy with hy;subst hy;exact⟨_,_,qt.2 (.inr ⟨rfl,rfl⟩),LM,rfl⟩
    ·obtain⟨j',o,h1,h2,h3⟩:=ih.cal i y (by omega) hy Ty;exact⟨j',o,qt.2 (.inl h1),h2,h3⟩
   ·by_cases ei:i=k
    ·subst ei;rw[hx]at hy;injection hy with hy;subst hy;rw[hr]at Ty;cases Ty
    ·obtain⟨j',o,h1,h2,h3,h4⟩:=ih.ret i y (by omega) hy Ty;exact⟨j',o,qt.2 (.inl h1),h2,h3,h4⟩
   ·rcases qt.1 ho with ho|⟨rfl,rfl⟩
    ·rcases ih.tos _ _ ho with h|⟨i,y,h1,h2⟩
     ·exact .inl h
     ·exact .inr ⟨i,y,by omega,h2⟩
    ·exact .inl ⟨rfl,rfl⟩
   ·simp only;constructor
    ·intro h;split at h
     ·rename_i et;injection h with h;exact⟨_,_,qt.2 (.inr ⟨rfl,rfl⟩),by omega,et.symm,rfl⟩
     ·obtain⟨j',o,h1,h2,h3,h4⟩:=(ih.bsy t id).1 h;exact⟨j',o,qt.2 (.inl h1),h2,h3,h4⟩
    ·rintro⟨j',o,h1,h2,h3,h4⟩;rcases qt.1 h1 with ho|⟨rfl,rfl⟩
     ·have h5:=(ih.bsy t id).2 ⟨j',o,ho,h2,h3,h4⟩;by_cases et:t=x.th
      ·subst et;rw[hb]at h5;cases h5
      ·rw[aq et];exact h5
     ·simp only at h3;rw[an h3.symm];congr 1;omega
   ·rw[Fy hx,vz];simp[hr,ih.cnc]
def Inv.Aa{l:List gD}{k:Nat}{s:TL}(h:Inv l k s)(t id:Int):s.busy t=some id<->(∃(i:Nat) (x:gD),i<k/\l[i]? =some x/\x.ret=false/\x.id=id/\x.th=t)/\∀(i:Nat) (x:gD),i<k->l[i]? =some x->x.ret=true->x.id≠id:=by
 rw[h.bsy];constructor
 ·rintro⟨j,o,h1,h2,h3,h4⟩;obtain⟨-,i,x,a1,a2,a3,a4,a5,a6,-⟩:=h.ids j o h1;refine⟨⟨i,x,a1,a2,a4,by omega,by rw[a6];exact h3⟩,λi' x' b1 b2 b3 b4=>?_⟩;obtain⟨j',o',c1,c2,c3,-⟩:=h.ret i' x' b1 b2 b3;have:j'=j:=by omega
  subst this;rw[h1]at c1;injection c1 with c1;subst c1;omega
 ·rintro⟨⟨i,x,a1,a2,a3,a4,a5⟩,hn⟩;obtain⟨j,o,b1,b2,b3⟩:=h.cal i x a1 a2 a3;obtain⟨-,i',x',c1,c2,c3,-,-,c4,-⟩:=h.ids j o b1;have:i'=i:=by omega
  subst this;rw[a2]at c2;injection c2 with c2;subst c2;refine⟨j,o,b1,by omega,by rw[<-c4];exact a5,?_⟩;rcases h.tos j o b1 with⟨d,-⟩|⟨i2,x2,d1,d2,d3,d4,d5⟩
  ·exact d
  ·exact absurd (by omega) (hn i2 x2 d1 d2 d4)
def Yo{W:AW}{v:ad}{l:List gD}(h:QF W v l)(hl:l.length<=1000){n:Nat}(hn:n<=l.length)(id:Int):∃r:Int,aY (.func (.func 136) #[] #[]) [v,.ae (n:Int),.ae id] W=some (.ae r,W)/\((r= -1/\∀(i:Nat) (x:gD),i<n->l[i]? =some x->x.ret=false->x.id≠id)\/∃(i:Nat) (x:gD),i<n/\l[i]? =some x/\x.ret=false/\x.id=id/\r=(i:Int)):=by
 have jL:Ok (xZ aY v (.ae (n:Int)) (.ae id) W) λq=>q.2=W/\∃r:Int,q.1=.ae r/\((r= -1/\∀(i:Nat) (x:gD),i<n->l[i]? =some x->x.ret=false->x.id≠id)\/∃(i:Nat) (x:gD),i<n/\l[i]? =some x/\x.ret=false/\x.id=id/\r=(i:Int)):=by
  unfold xZ;simp only[SX];refine a8 n (by omega) (λk R W'=>W'=W/\R 0=v/\R 1=.ae (n:Int)/\R 2=.ae id/\R 7=.ae (k:Int)/\∀(i:Nat) (x:gD),i<k->l[i]? =some x->x.ret=false->x.id≠id)
   (λr=>r.2.2=W/\((r.1=.exit 0/\∀(i:Nat) (x:gD),i<n->l[i]? =some x->x.ret=false->x.id≠id)\/(r.1=.ret/\∃(i:Nat) (x:gD),i<n/\l[i]? =some x/\x.ret=false/\x.id=id/\r.2.1 6=.ae (i:Int)))) ⟨rfl,rfl,rfl,rfl,rfl,λi _ hi=>by omega⟩ ?_ ?_ ?_
  ·rintro k R W' hk ⟨rfl,r0,r1,r2,r7,hx⟩;unfold rB;have ya:k<l.length:=by omega
   obtain⟨b,o,i1,i2,i3⟩:=QF.get h ya;obtain⟨-,f0,f1,f2,-⟩:=i3 W' rfl;have t1:((k:Int)<(n:Int)):=by omega
   have t2:=λW'=>bc W' k 1
   have hg:l[k]? =some l[k]:=bJ ya;generalize l[k]=x at f0 f1 f2 hg;have next:(x.ret=false->x.id≠id)->∀(i:Nat) (y:gD),i<k+1->l[i]? =some y->y.ret=false->y.id≠id:=λh0 i y hi hy hr=>by
    by_cases e:i=k
    ·subst e;rw[hg]at hy;injection hy with hy;subst hy;exact h0 hr
    ·exact hx i y (by omega) hy hr
   cases hr:x.ret with
   |true=>rw[hr]at f2;simp only[SX,r0,r1,r2,r7,t1,i1,f2,t2,af];exact .inl ⟨aj,aj,r0,r1,r2,by rw[show((k+1:Nat):Int)=(k:Int)+1 by omega];rfl,next λh1=>by rw[hr]at h1;cases h1⟩
   |false=>
    rw[hr]at f2;by_cases e:x.id=id
    ·have e':decide (x.id=id)=true:=aK e;simp only[SX,r0,r1,r2,r7,t1,i1,f2,eQ,f0,e',af];exact .inr ⟨by simp,aj,.inr ⟨aj,k,x,hk,hg,hr,e,rfl⟩⟩
    ·have e':decide (x.id=id)=false:=aJ e;simp only[SX,r0,r1,r2,r7,t1,i1,f2,eQ,f0,e',t2,af];exact .inl ⟨aj,aj,r0,r1,r2,by rw[show((k+1:Nat):Int)=(k:Int)+1 by omega];rfl,next λ_=>e⟩
  ·rintro R W' ⟨rfl,r0,r1,r2,r7,hx⟩;unfold rB;have t1:¬((n:Int)<(n:Int)):=by omega
   simp only[SX,r1,r7,t1,af];exact⟨by simp,aj,.inl ⟨aj,hx⟩⟩
  ·rintro⟨q,R,W'⟩ ⟨rfl,hx⟩;simp only at hx;rcases hx with⟨rfl,hx⟩|⟨rfl,i,x,h1,h2,h3,h4,h5⟩
   ·simp only[SX,af];exact⟨aj,-1,rfl,.inl ⟨rfl,hx⟩⟩
   ·simp only[SX,h5,af];exact⟨aj,_,rfl,.inr ⟨i,x,h1,h2,h3,h4,rfl⟩⟩
 obtain⟨⟨q,W'⟩,h1,rfl,r,h2,h3⟩:=jL;simp only at h2;subst h2;exact⟨r,aQ rfl ⟨_,h1,rfl,.refl _⟩ Is,h3⟩
def zm{W:AW}{v:ad}{l:List gD}(h:QF W v l)(hl:l.length<=1000){n:Nat}(hn:n<=l.length)(id:Int):∃r:Int,aY (.func (.func 103) #[] #[]) [v,.ae (n:Int),.ae id] W=some (.ae r,W)/\((r= -1/\∀(i:Nat) (x:gD),i<n->l[i]? =some x->x.ret=true->x.id≠id)\/∃(i:Nat) (x:gD),i<n/\l[i]? =some x/\x.ret=true/\x.id=id/\r=(i:Int)):=by
 have jL:Ok (tw aY v (.ae (n:Int)) (.ae id) W) λq=>q.2=W/\∃r:Int,q.1=.ae r/\((r= -1/\∀(i:Nat) (x:gD),i<n->l[i]? =some x->x.ret=true->x.id≠id)\/∃(i:Nat) (x:gD),i<n/\l[i]? =some x/\x.ret=true/\x.id=id/\r=(i:Int)):=by
  unfold tw;simp only[SX];refine a8 n (by omega) (λk R W'=>W'=W/\R 0=v/\R 1=.ae (n:Int)/\R 2=.ae id/\R 7=.ae (k:Int)/\∀(i:Nat) (x:gD),i<k->l[i]? =some x->x.ret=true->x.id≠id)
   (λr=>r.2.2=W/\((r.1=.exit 0/\∀(i:Nat) (x:gD),i<n->l[i]? =some x->x.ret=true->x.id≠id)\/(r.1=.ret/\∃(i:Nat) (x:gD),i<n/\l[i]? =some x/\x.ret=true/\x.id=id/\r.2.1 6=.ae (i:Int)))) ⟨rfl,rfl,rfl,rfl,rfl,λi _ hi=>by omega⟩ ?_ ?_ ?_
  ·rintro k R W' hk ⟨rfl,r0,r1,r2,r7,hx⟩;unfold oH;have ya:k<l.length:=by omega
   obtain⟨b,o,i1,i2,i3⟩:=QF.get h ya;obtain⟨-,f0,f1,f2,-⟩:=i3 W' rfl;have t1:((k:Int)<(n:Int)):=by omega
   have t2:=λW'=>bc W' k 1
   have hg:l[k]? =some l[k]:=bJ ya;generalize l[k]=x at f0 f1 f2 hg;have next:(x.ret=true->x.id≠id)->∀(i:Nat) (y:gD),i<k+1->l[i]? =some y->y.ret=true->y.id≠id:=λh0 i y hi hy hr=>by
    by_cases e:i=k
    ·subst e;rw[hg]at hy;injection hy with hy;subst hy;exact h0 hr
    ·exact hx i y (by omega) hy hr
   cases hr:x.ret with
   |false=>rw[hr]at f2;simp only[SX,r0,r1,r2,r7,t1,i1,f2,t2,af];exact .inl ⟨aj,aj,r0,r1,r2,by rw[show((k+1:Nat):Int)=(k:Int)+1 by omega];rfl,next λh1=>by rw[hr]at h1;cases h1⟩
   |true=>
    rw[hr]at f2;by_cases e:x.id=id
    ·have e':decide (x.id=id)=true:=aK e;simp only[SX,r0,r1,r2,r7,t1,i1,f2,eQ,f0,e',af];exact .inr ⟨by simp,aj,.inr ⟨aj,k,x,hk,hg,hr,e,rfl⟩⟩
    ·have e':decide (x.id=id)=false:=aJ e;simp only[SX,r0,r1,r2,r7,t1,i1,f2,eQ,f0,e',t2,af];exact .inl ⟨aj,aj,r0,r1,r2,by rw[show((k+1:Nat):Int)=(k:Int)+1 by omega];rfl,next λ_=>e⟩
  ·rintro R W' ⟨rfl,r0,r1,r2,r7,hx⟩;unfold oH;have t1:¬((n:Int)<(n:Int)):=by omega
   simp only[SX,r1,r7,t1,af];exact⟨by simp,aj,.inl ⟨aj,hx⟩⟩
  ·rintro⟨q,R,W'⟩ ⟨rfl,hx⟩;simp only at hx;rcases hx with⟨rfl,hx⟩|⟨rfl,i,x,h1,h2,h3,h4,h5⟩
   ·simp only[SX,af];exact⟨aj,-1,rfl,.inl ⟨rfl,hx⟩⟩
   ·simp only[SX,h5,af];exact⟨aj,_,rfl,.inr ⟨i,x,h1,h2,h3,h4,rfl⟩⟩
 obtain⟨⟨q,W'⟩,h1,rfl,r,h2,h3⟩:=jL;simp only at h2;subst h2;exact⟨r,aQ rfl ⟨_,h1,rfl,.refl _⟩ Em,h3⟩
def Inv.uniq{l:List gD}{k:Nat}{s:TL}(I:Inv l k s){i i':Nat}{x x':gD}(h1:i<k)(h2:l[i]? =some x)(h3:x.ret=false)(Gb:i'<k)(Ft:l[i']? =some x')(h3':x'.ret=false)(e:x.id=x'.id):i=i':=by
 obtain⟨j,o,a1,a2,a3⟩:=I.cal i x h1 h2 h3;obtain⟨j',o',b1,b2,b3⟩:=I.cal i' x' Gb Ft h3';have:j=j':=by omega
 subst this;rw[a1]at b1;injection b1 with b1;subst b1;omega
def fT(l:List gD)(i:Nat):Nat:=((l.take i).filter λe=> !e.ret).length
def EA{l:List gD}{i:Nat}{x:gD}(h:l[i]? =some x):fT l (i+1)=fT l i+if x.ret=true then 0 else 1:=by unfold fT;rw[Fy h,vz,cD];cases hr:x.ret<;>simp[hr]
def Vz(l:List gD)(i:Nat):fT l i<=i:=by unfold fT;refine dW (xB _ _) ?_;rw[cR];omega
open Classical in
def aeu{W:AW}{v:ad}{l:List gD}(h:QF W v l)(hl:l.length<=1000){k:Nat}{s:TL}{x:gD}(I:Inv l k s)(hx:l[k]? =some x):aY (.func (.func 102) #[] #[]) [v,.ae (k:Int)] W=some (.ae (dD s x),W):=by
 obtain⟨hk,hxe⟩:=da.1 hx;refine aQ rfl ?_ K9;unfold HM;obtain⟨b,o,i1,i2,i3⟩:=QF.get h hk;obtain⟨fa,-⟩:=i3 W rfl;rw[hxe]at fa;obtain⟨V,V2,a1,a2,l2,n2,x2⟩:=aa1 x W;have h2:=h.mono l2;have LJ:=CF x2;by_cases c1:x.th<1
 ·have e7:dD s x=7:=by unfold dD;rw[an (.inl c1)]
  simp only[SX,i1,fa,a1,a2,aI,LJ,c1,af];exact⟨by rw[e7],l2⟩
 by_cases c2:64<x.th
 ·have e7:dD s x=7:=by unfold dD;rw[an (.inr c2)]
  simp only[SX,i1,fa,a1,a2,aI,LJ,c1,c2,af];exact⟨by rw[e7],l2⟩
 have cc:¬(x.th<1\/64<x.th):=by omega
 simp only[SX,i1,fa,a1,a2,aI,LJ,c1,c2];cases hr:x.ret with
 |true=>
  have oG:=Bj x2;rw[hr]at oG;have he:dD s x=0/\(s.busy x.th=some x.id/\x.op=ZT)\/dD s x=6/\¬(s.busy x.th=some x.id/\x.op=ZT):=by
   unfold dD;rw[aq cc,an hr];by_cases e:s.busy x.th=some x.id/\x.op=ZT
   ·exact .inl ⟨an e,e⟩
   ·exact .inr ⟨aq e,e⟩
  obtain⟨r,p1,p2⟩:=Yo h2 hl (n:=k) (by omega) x.id;rcases p2 with⟨rfl,p2⟩|⟨i,y,q1,q2,q3,q4,rfl⟩
  ·have d1:decide ((-1:Int)<0)=true:=rfl;rcases he with⟨-,he,-⟩|⟨he,-⟩
   ·obtain⟨⟨i,y,b1,b2,b3,b4,-⟩,-⟩:=(I.Aa _ _).1 he;exact absurd b4 (p2 i y b1 b2 b3)
   ·simp only[SX,oG,rq x2,p1,d1,af];exact⟨by rw[he],l2⟩
  ·have d1:decide ((i:Int)<0)=false:=bS;obtain⟨r2,p3,p4⟩:=zm h2 hl (n:=k) (by omega) x.id;rcases p4 with⟨rfl,p4⟩|⟨i',y',z1,z2,z3,z4,rfl⟩
   ·have d2:decide ((0:Int)<= -1)=false:=rfl;have hi:i<l.length:=by omega
    obtain⟨b',o',j1,j2,j3⟩:=QF.get h2 hi;obtain⟨-,-,g1,-⟩:=j3 V2 rfl;have hye:l[i]=y:=(da.1 q2).2;rw[hye]at g1;have hb:s.busy x.th=some x.id<->y.th=x.th:=by
     rw[I.Aa];constructor
     ·rintro⟨⟨i3,y3,b1,b2,b3,b4,b5⟩,-⟩;have:=I.uniq b1 b2 b3 q1 q2 q3 (by rw[b4,q4]);subst this;rw[q2]at b2;injection b2 with b2;rw[b2];exact b5
     ·intro e;exact⟨⟨i,y,q1,q2,q3,q4,e⟩,p4⟩
    by_cases e:y.th=x.th
    ·have d3:decide (y.th=x.th)=true:=aK e;have nq:=ah6 x.op ZT false false V2;by_cases e2:x.op=ZT
     ·rw[aK e2]at nq;rcases he with⟨he,-⟩|⟨-,he⟩
      ·simp only[SX,oG,rq x2,LJ,p1,d1,p3,d2,j1,g1,d3,pF x2,WW,nq,af];exact⟨by rw[he],l2⟩
      ·exact absurd ⟨hb.2 e,e2⟩ he
     ·rw[aJ e2]at nq;rcases he with⟨-,-,he⟩|⟨he,-⟩
      ·exact absurd he e2
      ·simp only[SX,oG,rq x2,LJ,p1,d1,p3,d2,j1,g1,d3,pF x2,WW,nq,af];exact⟨by rw[he],l2⟩
    ·have d3:decide (y.th=x.th)=false:=aJ e;rcases he with⟨-,he,-⟩|⟨he,-⟩
     ·exact absurd (hb.1 he) e
     ·simp only[SX,oG,rq x2,LJ,p1,d1,p3,d2,j1,g1,d3,af];exact⟨by rw[he],l2⟩
   ·have d2:decide ((0:Int)<=(i':Int))=true:=cd;rcases he with⟨-,he,-⟩|⟨he,-⟩
    ·exact absurd z4 (((I.Aa _ _).1 he).2 i' y' z1 z2 z3)
    ·simp only[SX,oG,rq x2,p1,d1,p3,d2,af];exact⟨by rw[he],l2⟩
 |false=>
  have oG:=Bj x2;rw[hr]at oG;simp only[SX,oG];refine a8 k (by omega) (λi R V'=>V'=V2/\R 0=v/\R 1=.ae (k:Int)/\R 5=.pointer (some ⟨W.next,0,none⟩)/\R 7=.ae (fT l i:Int)/\R 8=.ae (i:Int)/\∀(j:Nat) (y:gD),j<i->l[j]? =some y->y.ret=false->y.th=x.th->∃(j':Nat) (y':gD),j'<k/\l[j']? =some y'/\y'.ret=true/\y'.id=y.id)
   (λr=>r.2.2=V2/\((r.1=.exit 0/\r.2.1 5=.pointer (some ⟨W.next,0,none⟩)/\r.2.1 7=.ae (s.ops.length:Int)/\(s.busy x.th).isSome=false)\/(r.1=.ret/\r.2.1 4=.ae 6/\(s.busy x.th).isSome=true))) ⟨rfl,rfl,rfl,rfl,rfl,rfl,λj y hj=>by omega⟩ ?_ ?_ ?_
  ·rintro i R V' hi ⟨rfl,r0,r1,r5,r7,r8,hn⟩;unfold tI;have hil:i<l.length:=by omega
   obtain⟨b',o',j1,j2,j3⟩:=QF.get h2 hil;obtain⟨-,g0,g1,g2,-⟩:=j3 V' rfl;have hy:l[i]? =some l[i]:=bJ hil;generalize l[i]=y at g0 g1 g2 hy;have t1:((i:Int)<(k:Int)):=by omega
   have t2:=λW'=>bc W' i 1
   have e3:((i+1:Nat):Int)=(i:Int)+1:=by omega
   have nT:=EA hy;have Hs:=Vz l i;have next:(y.ret=false->y.th=x.th->∃(j':Nat) (y':gD),j'<k/\l[j']? =some y'/\y'.ret=true/\y'.id=y.id)->∀(j:Nat) (z:gD),j<i+1->l[j]? =some z->z.ret=false->z.th=x.th->∃(j':Nat) (y':gD),j'<k/\l[j']? =some y'/\y'.ret=true/\y'.id=z.id:=λh0 j z hj hz hzr hzt=>by
    by_cases e:j=i
    ·subst e;rw[hy]at hz;injection hz with hz;subst hz;exact h0 hzr hzt
    ·exact hn j z (by omega) hz hzr hzt
   cases Ty:y.ret with
   |true=>rw[Ty]at g2 nT;rw[an rfl]at nT;simp only[SX,r0,r1,r8,t1,j1,g2,t2,af];exact .inl ⟨aj,aj,r0,r1,r5,by rw[nT];exact r7,by rw[e3];rfl,next λh1=>by rw[Ty]at h1;cases h1⟩
   |false=>
    rw[Ty]at g2 nT;rw[aq (by simp)]at nT;have t3:=λW'=>bc W' (fT l i:Int) 1
    have e4:((fT l (i+1):Nat):Int)=(fT l i:Int)+1:=by omega
    by_cases e:y.th=x.th
    ·have d1:decide (y.th=x.th)=true:=aK e;obtain⟨r,p1,p2⟩:=zm h2 hl (n:=k) (by omega) y.id;rcases p2 with⟨rfl,p2⟩|⟨i',y',z1,z2,z3,z4,rfl⟩
     ·have d2:decide ((-1:Int)<0)=true:=rfl;simp only[SX,r0,r1,r5,r7,r8,t1,j1,g2,t3,aI,eQ,g1,LJ,d1,g0,p1,d2,af];refine .inr ⟨by simp,aj,.inr ⟨aj,rfl,?_⟩⟩;rw[(I.Aa x.th y.id).2 ⟨⟨i,y,by omega,hy,Ty,rfl,e⟩,p2⟩];rfl
     ·have d2:decide ((i':Int)<0)=false:=bS;simp only[SX,r0,r1,r5,r7,r8,t1,j1,g2,t3,aI,eQ,g1,LJ,d1,g0,p1,d2,t2,af];exact .inl ⟨aj,aj,r0,r1,r5,by rw[e4];rfl,by rw[e3];rfl,next λ_ _=>⟨i',y',z1,z2,z3,z4⟩⟩
    ·have d1:decide (y.th=x.th)=false:=aJ e;simp only[SX,r0,r1,r5,r7,r8,t1,j1,g2,t3,aI,g1,LJ,d1,t2,af];exact .inl ⟨aj,aj,r0,r1,r5,by rw[e4];rfl,by rw[e3];rfl,next λ_ h1=>absurd h1 e⟩
  ·rintro R V' ⟨rfl,r0,r1,r5,r7,r8,hn⟩;unfold tI;have t1:¬((k:Int)<(k:Int)):=by omega
   simp only[SX,r1,r8,t1,af];refine⟨by simp,aj,.inl ⟨aj,r5,(r7.trans (ii (λn:Nat=>Value.int .i64 (n:Int)) I.cnc)),?_⟩⟩;cases hb:s.busy x.th with
   |none=>rfl
   |some id=>obtain⟨⟨i,y,b1,b2,b3,b4,b5⟩,b6⟩:=(I.Aa _ _).1 hb;obtain⟨j',y',z1,z2,z3,z4⟩:=hn i y b1 b2 b3 b5;exact absurd (z4.trans b4) (b6 j' y' z1 z2 z3)
  ·rintro⟨q,R,V'⟩ ⟨rfl,hq⟩;simp only at hq l2 x2;have mD:=I.opk;rcases hq with⟨rfl,r5,r7,hb⟩|⟨rfl,r4,hb⟩;case inr=>
    have e6:dD s x=6:=by unfold dD;rw[aq cc,aq (by rw[hr];simp),an (.inl hb)]
    simp only[SX,r4,af];exact⟨by rw[e6],l2⟩
   have LM:=rq x2;have t3:=λW'=>bc W' (s.ops.length:Int) 1
   have hE:∀{b:Bool},(b=true<->(x.id≠(s.ops.length:Int)+1\/x.rp≠gz\/zZ x.op≠0))->dD s x=if b=true then 6 else 0:=λ{b} Qd=>by
    unfold dD;rw[aq cc,aq (by rw[hr];simp)];have:((s.busy x.th).isSome=true\/x.id≠(s.ops.length:Int)+1\/x.rp≠gz\/zZ x.op≠0)<->b=true:=by rw[Qd,hb];simp
    by_cases IE:b=true
    ·rw[an IE,an (this.2 IE)]
    ·rw[aq IE,aq λh=>IE (this.1 h)]
   by_cases e1:x.id=(s.ops.length:Int)+1
   ·have d1:decide (x.id=(s.ops.length:Int)+1)=true:=aK e1;have nq:=Nr x.rp gz false false V';by_cases e2:x.rp=gz
    ·rw[aK e2]at nq;by_cases e3:zZ x.op=0
     ·have d3:decide (zZ x.op=0)=true:=aK e3;have:=hE (b:=false) (by simp[e1,e2,e3]);rw[aq (by simp)]at this;simp only[SX,r5,r7,aI,LM,t3,d1,zQ x2,Nf,nq,pF x2,GI,d3,af];exact⟨by rw[this],l2⟩
     ·have d3:decide (zZ x.op=0)=false:=aJ e3;have:=hE (b:=true) (by simp[e3]);rw[an rfl]at this;simp only[SX,r5,r7,aI,LM,t3,d1,zQ x2,Nf,nq,pF x2,GI,d3,af];exact⟨by rw[this],l2⟩
    ·rw[aJ e2]at nq;have:=hE (b:=true) (by simp[e2]);rw[an rfl]at this;simp only[SX,r5,r7,aI,LM,t3,d1,zQ x2,Nf,nq,af];exact⟨by rw[this],l2⟩
   ·have d1:decide (x.id=(s.ops.length:Int)+1)=false:=aJ e1;have:=hE (b:=true) (by simp[e1]);rw[an rfl]at this;simp only[SX,r5,r7,aI,LM,t3,d1,af];exact⟨by rw[this],l2⟩
def yo.prev{l:List gD}{n:Nat}{s':TL}(h:yo l n s'){k:Nat}(e:n=k+1):∃(s:TL) (x:gD),yo l k s/\l[k]? =some x/\dD s x=0/\s'=yh s k x:=by
 cases h with
 |zero=>omega
 | @succ m s x h1 h2 h3=>
  have:m=k:=by omega
  subst this;exact⟨s,x,h1,h2,h3,rfl⟩
def yo.I7{l:List gD}{k:Nat}{s:TL}(h:yo l k s):∀{s':TL},yo l k s'->s'=s:=by
 induction h with
 |zero=>intro s' h';cases h';rfl
 | @succ k s x h1 h2 h3 ih=>intro s' h';obtain⟨s2,x2,a1,a2,a3,rfl⟩:=h'.prev rfl;rw[h2]at a2;injection a2 with a2;subst a2;rw[ih a1]
def yo.pre{l:List gD}{k:Nat}{s:TL}(h:yo l k s):∀{m:Nat},m<=k->∃s',yo l m s':=by
 induction h with
 |zero=>intro m hm;have:m=0:=by omega
        subst this;exact⟨_,.zero⟩
 | @succ k s x h1 h2 h3 ih=>
  intro m hm;by_cases e:m=k+1
  ·subst e;exact⟨_,.succ h1 h2 h3⟩
  ·exact ih (by omega)
def yo.stop{l:List gD}{k:Nat}{s:TL}{x:gD}(h:yo l k s)(hx:l[k]? =some x)(he:dD s x≠0){m:Nat}{s':TL}(h':yo l m s'):m<=k:=by
 by_cases hm:m<=k
 ·exact hm
 ·obtain⟨s2,h2⟩:=h'.pre (m:=k+1) (by omega);obtain⟨s3,x3,a1,a2,a3,-⟩:=h2.prev rfl;rw[hx]at a2;injection a2 with a2;subst a2;rw[h.I7 a1]at a3;exact absurd a3 he
inductive LI (e0:Int) (l:List gD):Int->Int->Prop
 |Db:e0≠0->LI e0 l (-1) e0
 |len:e0=0->400<l.length->LI e0 l (-1) 3
 |bad {k:Nat} {s:TL} {x:gD}:e0=0->l.length<=400->yo l k s->l[k]? =some x->dD s x≠0->LI e0 l (k:Int) (dD s x)
 |ok {s:TL}:e0=0->l.length<=400->yo l l.length s->LI e0 l 0 0
def LI.I7{e0:Int}{l:List gD}{a e a' e':Int}(h:LI e0 l a e)(h':LI e0 l a' e'):a=a'/\e=e':=by
 cases h with
 |Db h1=>cases h' with
  |Db h2=>exact⟨rfl,rfl⟩
  |len h2 _=>exact absurd h2 h1
  |bad h2=>exact absurd h2 h1
  |ok h2=>exact absurd h2 h1
 |len h1 h2=>cases h' with
  |Db h3=>exact absurd h1 h3
  |len=>exact⟨rfl,rfl⟩
  |bad h3 h4=>omega
  |ok h3 h4=>omega
 | @bad k s x h1 h2 h3 h4 h5=>cases h' with
  |Db h6=>exact absurd h1 h6
  |len h6 h7=>omega
  | @bad k' s' x' h6 h7 h8 h9 Jv=>
   have a1:=h3.stop h4 h5 h8;have a2:=h8.stop h9 Jv h3;have:k=k':=by omega
   subst this;rw[h4]at h9;injection h9 with h9;subst h9;rw[h3.I7 h8];exact⟨rfl,rfl⟩
  |ok h6 h7 h8=>have a1:=h3.stop h4 h5 h8;have a2:=(da.1 h4).1;omega
 | @ok s h1 h2 h3=>cases h' with
  |Db h6=>exact absurd h1 h6
  |len h6 h7=>omega
  | @bad k' s' x' h6 h7 h8 h9 Jv=>have a1:=h8.stop h9 Jv h3;have a2:=(da.1 h9).1;omega
  |ok=>exact⟨rfl,rfl⟩
def LI.tZ{e0:Int}{l:List gD}{a e:Int}(h:LI e0 l a e)(he:e=0):a=0/\l.length<=400/\∃s,yo l l.length s:=by
 cases h with
 |Db h1=>exact absurd he h1
 |len=>omega
 |bad h1 h2 h3 h4 h5=>exact absurd he h5
 |ok h1 h2 h3=>exact⟨rfl,h2,_,h3⟩
abbrev KY(v:ge)(sv ev:ad):ad:=.agg #[.ae v.sh,.ae v.cL,.ae v.eO,sv,ev]
structure HiA (W:AW) (v:ge) (sv ev:ad) (l:List gD):Prop where
 ax:fC W sv v.ax
 small:v.ax.length<1000
 rows:∀s∈v.ax,s.rows.length<1000
 Fu:QF W ev l
def HiA.mono{W W':AW}{v:ge}{sv ev:ad}{l:List gD}(h:HiA W v sv ev l)(aM:Le W W'):HiA W' v sv ev l:=⟨h.ax.mono aM,h.small,h.rows,h.Fu.mono aM⟩
def awD(v:ge)(sv ev:ad)(W:AW):rD (KY v sv ev) W=some (.pointer (some ⟨W.next,0,none⟩),W.add (.cells [.ae v.sh,.ae v.cL,.ae v.eO,sv,ev])):=jR _
def FD{W:AW}{v:ge}{sv ev:ad}{l:List gD}(h:HiA W v sv ev l):∃a e:Int,LI (dn v).2 l a e/\aY (.func (.func 58) #[] #[]) [KY v sv ev] W=some (.tuple #[.ae a,.ae e],W):=by
 have jL:Ok (zA aY (KY v sv ev) W) λq=>∃a e:Int,LI (dn v).2 l a e/\q.1=.tuple #[.ae a,.ae e]/\Le W q.2:=by
  unfold zA;have aM:Le W (W.add (.cells [.ae v.sh,.ae v.cL,.ae v.eO,sv,ev])):=(Le.refl W).add _;have hc:aH (W.add (.cells [.ae v.sh,.ae v.cL,.ae v.eO,sv,ev])) W.next=some [.ae v.sh,.ae v.cL,.ae v.eO,sv,ev]:=bC;simp only[SX,aI];generalize W.add (.cells [.ae v.sh,.ae v.cL,.ae v.eO,sv,ev])=W1 at *;have h1:=h.mono aM;have c4:bu (.pointer (some ⟨W.next,4,none⟩)) W1=some (ev,W1):=aP hc rfl;have cA:dF 4 (.pointer (some ⟨W.next,0,none⟩)) W1=some (fH v sv,W1):=bz hc rfl;have hv:=A3 h1.ax.1 h1.small h1.rows;by_cases e0:(dn v).2=0
  ·have d0:decide ((dn v).2=0)=true:=aK e0;by_cases e1:400<l.length
   ·have d1:decide ((400:Int)<(l.length:Int))=true:=cd;simp only[SX,cA,hv,d0,c4,h1.Fu.len sY,d1,af];exact⟨-1,3,.len e0 e1,rfl,aM⟩
   ·have d1:decide ((400:Int)<(l.length:Int))=false:=bS;simp only[SX,cA,hv,d0,c4,h1.Fu.len sY,d1];refine a8 l.length (by omega) (λi R V=>V=W1/\R 1=.pointer (some ⟨W.next,0,none⟩)/\R 6=.ae (i:Int)/\∃s,yo l i s)
     (λr=>r.2.2=W1/\((r.1=.exit 0/\∃s,yo l l.length s)\/(r.1=.ret/\∃(k:Nat) (s:TL) (x:gD),yo l k s/\l[k]? =some x/\dD s x≠0/\r.2.1 2=.ae (k:Int)/\r.2.1 3=.ae (dD s x)))) ⟨rfl,rfl,rfl,_,.zero⟩ ?_ ?_ ?_
    ·rintro i R V hi ⟨rfl,r1,r6,s,hs⟩;unfold tu;have hx:l[i]? =some l[i]:=bJ hi;have t1:((i:Int)<(l.length:Int)):=by omega
     have t2:=λW'=>bc W' i 1
     have e3:((i+1:Nat):Int)=(i:Int)+1:=by omega
     have he:=aeu h1.Fu (by omega) hs.inv hx;generalize l[i]=x at hx he;by_cases e:dD s x=0
     ·have d2:decide (dD s x=0)=true:=aK e;simp only[SX,r1,r6,aI,c4,h1.Fu.len sY,t1,he,d2,t2,af];exact .inl ⟨aj,aj,r1,by rw[e3];rfl,_,.succ hs hx e⟩
     ·have d2:decide (dD s x=0)=false:=aJ e;simp only[SX,r1,r6,aI,c4,h1.Fu.len sY,t1,he,d2,af];exact .inr ⟨by simp,aj,.inr ⟨aj,i,s,x,hs,hx,e,rfl,rfl⟩⟩
    ·rintro R V ⟨rfl,r1,r6,s,hs⟩;unfold tu;have t1:¬((l.length:Int)<(l.length:Int)):=by omega
     simp only[SX,r1,r6,aI,c4,h1.Fu.len sY,t1,af];exact⟨by simp,aj,.inl ⟨aj,s,hs⟩⟩
    ·rintro⟨q,R,V⟩ ⟨rfl,hq⟩;simp only at hq;rcases hq with⟨rfl,s,hs⟩|⟨rfl,k,s,x,hs,hx,he,r2,r3⟩
     ·simp only[SX,af];exact⟨0,0,.ok e0 (by omega) hs,rfl,aM⟩
     ·simp only[SX,r2,r3,af];exact⟨_,_,.bad e0 (by omega) hs hx he,rfl,aM⟩
  ·have d0:decide ((dn v).2=0)=false:=aJ e0;simp only[SX,cA,hv,d0,af];exact⟨-1,_,.Db e0,rfl,aM⟩
 obtain⟨⟨q,W'⟩,h1,a,e,h2,rfl,h3⟩:=jL;exact⟨a,e,h2,aQ rfl ⟨_,h1,rfl,h3⟩ Kz⟩
def ak7:mL Tryz.prog #[78,78] 25 184=true:=by kernel_rfl
def Y3:mL Tryz.prog #[28,28] 1 8=true:=by kernel_rfl
def ajB(h:kU)(W:AW):cX Tryz.prog 78 1 [(0,GQ h)] W=some (.slice (some ⟨W.next,0,none⟩) 1 1,W.add (.cells (gf h))):=aT (by kernel_rfl) rfl
def acD(a:Int)(W:AW):cX Tryz.prog 28 1 [(0,.ae a)] W=some (.slice (some ⟨W.next,0,none⟩) 1 1,W.add (.cells (jc a))):=aT (by kernel_rfl) rfl
def ah7(id th fr to:Int)(o:kP)(W:AW):fd Tryz.prog 77 [(0,.ae id),(1,.ae th),(2,.ae fr),(3,.ae to),(4,yc o)] W=some (GQ ⟨id,th,fr,to,o,gz⟩,W):=aT (by kernel_rfl) rfl
abbrev Xw(v:ge)(sv ev ov pv:ad):List ad:=[.ae v.sh,.ae v.cL,.ae v.eO,sv,ev,ov,pv]
def aqf(v:ge)(sv ev:ad)(W:AW):fd Tryz.prog 80 [(0,KY v sv ev)] W=some (.agg #[.ae v.sh,.ae v.cL,.ae v.eO,sv,ev,.slice none 0 0,.slice none 0 0],W):=aT (by kernel_rfl) rfl
def anC(W:AW):vf Tryz.prog 112 none W=some (.map (some W.next),W.add (.map [] 0)):=rfl
def aeI:Tryz.prog.underlying 112=some (.map 3 3):=by kernel_rfl
def ty3:Tryz.prog.underlying 3=some (.int .i64):=by kernel_rfl
def tz3:kG Tryz.prog 3=some (.ae 0):=by kernel_rfl
def acM:((#[112]:Array ag)[0]?).bind Tryz.prog.underlying=some (.map 3 3):=by kernel_rfl
def S1{P:Program}{W:AW}{r n:Nat}{m:Int->Option ad}{ts:Array ag}{k e:ag}(h:xn W r m n)(ht:(ts[0]?).bind P.underlying=some (.map k e))(ty:ag)(cf:Array Bool):aZ P .len ts ty cf [.map (some r)] W=some (.ae (n:Int),W):=by obtain⟨l,c,hg,hn,hl,hm⟩:=h;unfold aZ;simp only[ht,hg];rw[show(yB l).length=n by unfold yB;rw[fj,hl]];rfl
def wo(r:mE):iw (fX r) (fX r)=true:=pI (by simp[Y6,Ax])
def Rv(pre mid post vs:List ad)(p:Nat)(h:p+vs.length<=mid.length):ip (pre++(mid++post)) (pre.length+p) vs=pre++(ip mid p vs++post):=by unfold ip;rw[List.take_length_add_append,List.take_append_of_le_length (by omega),gV,List.drop_length_add_append,List.drop_append_of_le_length h];simp only[iK]
def amB(o:kU)(k:Int):ip (gf o) 3 [.ae k]=gf {o with to:=k}:=by unfold ip;rfl
def acO(o:kU)(r:mE):ip (gf o) 16 (fX r).cells.toList=gf {o with rp:=r}:=by unfold ip;rfl
def Q2{ops:List kU}{j:Nat}{o:kU}(hj:ops[j]? =some o)(o':kU):(ops.set j o').flatMap gf=(ops.take j).flatMap gf++(gf o'++(ops.drop (j+1)).flatMap gf):=by obtain⟨h1,-⟩:=da.1 hj;rw[OK,an h1,jo,fN]
def Y9{ops:List kU}{j:Nat}{o:kU}(hj:ops[j]? =some o):ops.flatMap gf=(ops.take j).flatMap gf++(gf o++(ops.drop (j+1)).flatMap gf):=by
 have h:=Q2 hj o;obtain⟨h1,h2⟩:=da.1 hj;have:ops.set j o=ops:=by rw[<-h2,List.set_getElem_self]
 rw[this]at h;exact h
def ah4{ops:List kU}{j:Nat}(h:j<=ops.length):((ops.take j).flatMap gf).length=j*25:=by rw[cm kB,cR,oN h]
def amH{V:AW}{ov:ad}{ops:List kU}{bo:Option Nat}(h:g9 V 25 gf ov ops bo){j:Nat}{o:kU}(hj:ops[j]? =some o)(k:Int)(r:mE):
 ∃B cs,bo=some B/\B<V.next/\(∀(W:AW) k',nY 25 ov (.int k' (j:Int)) W=some (.pointer (some ⟨B,j*25,none⟩),W))/\
  (∀W:AW,W.get B=V.get B->fm 1 (.pointer (some ⟨B,j*25+3,none⟩)) (.ae k) W=some (ak,W.put B (.cells cs)))/\
  (∀W:AW,W.get B=some (.cells cs)->fm 9 (.pointer (some ⟨B,j*25+16,none⟩)) (fX r) W=some (ak,W.put B (.cells ((ops.set j {o with to:=k,rp:=r}).flatMap gf))))/\
  ∀W:AW,V.next<=W.next->W.get B=some (.cells ((ops.set j {o with to:=k,rp:=r}).flatMap gf))->g9 W 25 gf ov (ops.set j {o with to:=k,rp:=r}) bo:=by
 obtain⟨h1,-⟩:=da.1 hj;have hl:=ah4 (ops:=ops) (j:=j) (by omega);rcases h with⟨rfl,-,-⟩|⟨h0,B,rfl,h2,rfl,h4⟩
 ·simp at h1
 refine⟨B,(ops.take j).flatMap gf++(gf {o with to:=k}++(ops.drop (j+1)).flatMap gf),rfl,h2,λW k'=>?_,λW hW=>?_,λW hW=>?_,λW hn hW=>.inr ⟨λe=>h0 (by simpa using e),B,rfl,by omega,by rw[xU],hW⟩⟩
 ·rw[rH h1,aI]
 ·rw[h4,Y9 hj]at hW;rw[zx (n:=1) (v:=.ae k) hW rfl (by rw[cD,cD,hl,kB];show j*25+3+1<=_;omega) rfl];have:=Rv ((ops.take j).flatMap gf) (gf o) ((ops.drop (j+1)).flatMap gf) [.ae k] 3 (by rw[kB];show 3+1<=25;omega);rw[hl,amB]at this;exact ii (λc=>some (ak,W.put B (.cells c))) this
 ·rw[zx (n:=9) (v:=fX r) hW rfl (by rw[cD,cD,hl,kB];show j*25+16+9<=_;omega) rfl];have:=Rv ((ops.take j).flatMap gf) (gf {o with to:=k}) ((ops.drop (j+1)).flatMap gf) (fX r).cells.toList 16 (by rw[kB];show 16+9<=25;omega);rw[hl,acO]at this;rw[Q2 hj];exact ii (λc=>some (ak,W.put B (.cells c))) this
def aiH{α:Type}{P:Program}{W:AW}{ts:Array ag}{z bytes:Nat}{f:α->List ad}{v:ad}{l:List α}{bo:Option Nat}(a:α)(hk:mL P ts z bytes=true)(hf:∀a,(f a).length=z)(h1:∀a,(f a).all Eng.one=true)
 (h:g9 W z f v l bo)(hb:l.length+1<1099511627776)(lA:(2*(l.length+1)+192)*bytes<=281474976710656):
 ∃v' W',dB P (W.add (.cells (f a))) ts v (.slice (some ⟨W.next,0,none⟩) 1 1)=some (v',W')/\g9 W' z f v' (l++[a]) (some (W.next+1))/\W'.next=W.next+2/\∀b,b<W.next->bo≠some b->W'.get b=W.get b:=by
 have h':g9 (W.add (.cells (f a))) z f v l bo:=h.keep (by rw[AW.av];omega) λB hB=>AW.aG _ _ (by have:=h.lt hB;omega)
 obtain⟨v',W',a1,a2,a3,a4⟩:=h'.push (a:=a) hk hf h1 (b:=W.next) (c:=1) bC hb lA;rw[AW.av]at a2 a3;exact⟨v',W',a1,a2,a3,λb hb fe=>(a4 b (by rw[AW.av];omega) fe).trans (AW.aG _ _ (by omega))⟩
def I4{α:Type}{W:AW}{z:Nat}{f:α->List ad}{v:ad}{l:List α}{bo:Option Nat}(h:g9 W z f v l bo):v.cells=#[v]/\Eng.one v=true:=by rcases h with⟨-,rfl,-⟩|⟨-,B,-,-,rfl,-⟩<;>exact⟨rfl,rfl⟩
def QW{U:AW}{tb:Nat}{v:ge}{sv ev ov pv:ad}{Hb:List Int}{bp:Option Nat}(hc:U.get tb=some (.cells (Xw v sv ev ov pv)))(hp:g9 U 1 jc pv Hb bp)(hbp:bp≠some tb)(htb:tb<U.next)(hl:Hb.length<=1000)(n:Int):
 ∃pv' U1 U2,dB Tryz.prog (U.add (.cells (jc n))) #[28,28] pv (.slice (some ⟨U.next,0,none⟩) 1 1)=some (pv',U1)/\fm 1 (.pointer (some ⟨tb,6,none⟩)) pv' U1=some (ak,U2)/\U2.get tb=some (.cells (Xw v sv ev ov pv'))/\g9 U2 1 jc pv' (Hb++[n]) (some (U.next+1))/\U2.next=U.next+2/\∀b,b<U.next->b≠tb->bp≠some b->U2.get b=U.get b:=by
 obtain⟨pv',U1,a1,a2,a3,a4⟩:=aiH n Y3 jV wF hp (by omega) (by omega);have ht:U1.get tb=some (.cells (Xw v sv ev ov pv)):=(a4 tb htb hbp).trans hc;refine⟨pv',U1,U1.put tb (.cells (Xw v sv ev ov pv')),a1,?_,AW.aW _ _ _,a2.keep (by rw[AW.bH];omega) λB hB=>AW.ay _ _ (by injection hB with hB;omega),by rw[AW.bH,a3],λb hb fe Qd=>(AW.ay _ _ (bh fe)).trans (a4 b hb Qd)⟩;rw[sj (I4 a2).1 (I4 a2).2,alj ht];rfl
def ago{U:AW}{tb:Nat}{v:ge}{sv ev ov pv:ad}{ops:List kU}{bo:Option Nat}(hc:U.get tb=some (.cells (Xw v sv ev ov pv)))(hp:g9 U 25 gf ov ops bo)(hbp:bo≠some tb)(htb:tb<U.next)(hl:ops.length<=1000)(n:kU):
 ∃ov' U1 U2,dB Tryz.prog (U.add (.cells (gf n))) #[78,78] ov (.slice (some ⟨U.next,0,none⟩) 1 1)=some (ov',U1)/\fm 1 (.pointer (some ⟨tb,5,none⟩)) ov' U1=some (ak,U2)/\U2.get tb=some (.cells (Xw v sv ev ov' pv))/\g9 U2 25 gf ov' (ops++[n]) (some (U.next+1))/\U2.next=U.next+2/\∀b,b<U.next->b≠tb->bo≠some b->U2.get b=U.get b:=by
 obtain⟨ov',U1,a1,a2,a3,a4⟩:=aiH n ak7 kB Pu hp (by omega) (by omega);have ht:U1.get tb=some (.cells (Xw v sv ev ov pv)):=(a4 tb htb hbp).trans hc;refine⟨ov',U1,U1.put tb (.cells (Xw v sv ev ov' pv)),a1,?_,AW.aW _ _ _,a2.keep (by rw[AW.bH];omega) λB hB=>AW.ay _ _ (by injection hB with hB;omega),by rw[AW.bH,a3],λb hb fe Qd=>(AW.ay _ _ (bh fe)).trans (a4 b hb Qd)⟩;rw[sj (I4 a2).1 (I4 a2).2,alj ht];rfl
def sP(x:cS)(nw:Int)(i:Nat):Bool:=decide ((cr x i).dl<=nw)&&decide ((cr x i).st=1)
def fE(x:cS)(nw:Int):List Nat:=(List.range x.st.length).filter (sP x nw)
def wB(nw:Int)(x:cS)(i:Nat):cS:=lz {x with st:=x.st.set i (lL (cr x i) nw)} i
def zl(x:cS)(nw:Int)(L:List Nat):cS:=L.foldl (wB nw) {x with now:=nw}
def Zy(x:cS)(a:Int):Int:=(cr x a.toNat).dl
def Rx(x:cS)(a b:Nat):Prop:=LF (Zy x) (a:Int) (b:Int)
def yb(x:cS)(nw:Int)(L:List Nat):Prop:=L.Perm (fE x nw)/\L.Pairwise (Rx x)
def yb.one{x:cS}{nw:Int}{L L':List Nat}(h:yb x nw L)(h':yb x nw L'):L=L':=by refine List.Perm.eq_of_pairwise (le:=Rx x) ?_ h.2 h'.2 (h.1.trans h'.1.symm);intro a b _ _ h1 h2;unfold Rx LF at h1 h2;omega
def adW(f:Nat->Int){n i j:Nat}(hi:i<n)(hj:j<n):((List.range n).map (swp f i j)).Perm ((List.range n).map f):=by
 have hl:((List.range n).map f).length=n:=by simp
 have e:(List.range n).map (swp f i j)=(((List.range n).map f).set i ((List.range n).map f)[j]).set j ((List.range n).map f)[i]:=by
  apply List.ext_getElem (by simp);intro t h1 h2;simp only[List.getElem_map,List.getElem_range,List.getElem_set];unfold swp;by_cases c:t=j
  ·subst c;simp
  ·by_cases c2:t=i
   ·subst c2;simp[c,bh c]
   ·simp[c,c2,bh c,bh c2]
 rw[e];exact List.set_set_perm (by omega) (by omega)
def nW.perm{n:Nat}{f g:Nat->Int}(p:nW 0 n f g):((List.range n).map g).Perm ((List.range n).map f):=by
 induction p with
 |refl=>exact List.Perm.refl _
 |step _ _ q2 _ q4 ih=>exact(adW _ q2 q4).trans ih
def aaC(x:cS)(nw:Int){t:Nat}(ht:t<(fE x nw).length):(fE x nw)[t]<x.st.length:=by have:=cG ht;unfold fE at this;rw[tF,pL]at this;exact this.1
def aai(x:cS)(nw:Int){i j:Nat}(hij:i<j)(hj:j<(fE x nw).length):(fE x nw)[i]<(fE x nw)[j]:=by have:=(List.pairwise_lt_range (n:=x.st.length)).filter (sP x nw);exact List.pairwise_iff_getElem.1 this i j (by unfold fE at hj;omega) hj hij
section
variable {W0 W V:AW} {ob sb qb:Nat} {bq:Nat->Nat} {x x':cS} {sv:ad} {o:kP} {s:Int}
def fA.l18(h:fA W0 W ob sb qb bq x sv o s):bu (.pointer (some ⟨ob,18,none⟩)) W=some (.ae o.nw,W):=h.ld rfl
def fA.Ua(h:fA W0 W ob sb qb bq x sv o s):bu (.pointer (some ⟨ob,4,none⟩)) W=some (.ae x.now,W):=h.ld rfl
def fA.lsi(h:fA W0 W ob sb qb bq x sv o s){i:Nat}(hi:i<x.st.length):dF 5 (.pointer (some ⟨sb,i*5,none⟩)) W=some (iS (cr x i),W):=by
 have e:x.st[i]? =some (cr x i):=by rw[bJ hi];simp[cr,bJ hi]
 exact Gn h.gs e
def fA.amE(h:fA W0 W ob sb qb bq x sv o s)(nw:Int):∃W',fm 1 (.pointer (some ⟨ob,4,none⟩)) (.ae nw) W=some (ak,W')/\fA W0 W' ob sb qb bq {x with now:=nw} sv o s/\W'.next=W.next/\∀b,b≠ob->W'.get b=W.get b:=by
 refine⟨W.put ob (.cells (NT x.v sv nw (fI sb x.st.length) (oa qb x.qs.length) o (s:Int))),?_,?_,AW.bH _ _ _,λb hb=>AW.ay _ _ (bh hb)⟩
 ·rw[xq,cT h.go];rfl
 ·have g:∀b,b≠ob->(W.put ob (.cells (NT x.v sv nw (fI sb x.st.length) (oa qb x.qs.length) o (s:Int)))).get b=W.get b:=λb hb=>AW.ay _ _ (bh hb)
  exact{le:=h.le.put h.lo.1 _,lo:=h.lo,hi:=h.hi,ne:=h.ne,nq:=h.nq,sec:=h.sec,go:=AW.aW _ _ _,gs:=(g _ (bh h.ne.1)).trans h.gs,gq:=h.gq.keep (g _ (bh h.ne.2.1)) λk=>g _ (h.nq k).2.2.1}
def aci{rb:Nat}{U:AW}{i j n nq:Nat}{l:List fq}{v:ge}{now:Int}(h1:aH U rb=some [ba ob])(h2:aH U ob=some (NT v sv now (fI sb n) (oa qb nq) o (s:Int)))(h3:aH U sb=some (l.flatMap dJ))(hn:l.length=n)(hi:i<n)(hj:j<n):
 aY (.func (.func 167) #[] #[ba rb]) [.ae (i:Int),.ae (j:Int)] U=some (.ae (aaO (l.getD i Cv).dl (l.getD j Cv).dl),U):=by
 refine aQ rfl ?_ xe;unfold rK;have at_:∀{t:Nat},t<n->(l.flatMap dJ)[t*5+2]? =some (.ae (l.getD t Cv).dl):=λ{t} ht=>by
  have hl:l[t]? =some (l.getD t Cv):=by rw[bJ (by omega)];simp[bJ (show t<l.length by omega)]
  have e:=ii (λc:List ad=>c[2]?) (FP na hl);simp only[lY,qZ]at e;simpa using e
 simp(maxDischargeDepth:=9) only[SX,MX,HX,aS,h1,h2,h3,rE hi,rE hj,at_ hi,at_ hj,ac2]
def ac4{R:ai.Fr}{W2:AW}{rb:Nat}{v0:ad}{n:Nat}(hn:x.st.length=n)(hn2:n<=10000){K:LT->Option (ad×AW)}{G:ad×AW->Prop}(h:fA W0 W2 ob sb qb bq x sv o s)(hr:W2.get rb=some (.cells [ba ob]))(hrb:rb<W2.next)
 (n8:∀y∈x.st,D8 y=0)(yx:0<=x.now)(r1:R 1=ba rb)(r2:R 2=v0)(r3:R 3=.slice none 0 0)(r35:R 35=fI sb n)(r36:R 36=.ae (n:Int))(r37:R 37=.ae 0)
 (hK:∀R' V v,Le W2 V->R' 1=ba rb->R' 2=v0->R' 3=v->sO W2.next V 1 jc v ((fE x x.now).map λi:Nat=>(i:Int))->Ok (K (.exit 0,R',V)) G):Ok (eY (fV (iy aY) R W2) K) G:=by
 refine a8 n (by omega) (λk R V=>Le W2 V/\R 1=ba rb/\R 2=v0/\R 35=fI sb n/\R 36=.ae (n:Int)/\R 37=.ae (k:Int)/\sO W2.next V 1 jc (R 3) (((List.range k).filter (sP x x.now)).map λi:Nat=>(i:Int)))
  (λr=>r.1=.exit 0/\Le W2 r.2.2/\r.2.1 1=ba rb/\r.2.1 2=v0/\sO W2.next r.2.2 1 jc (r.2.1 3) ((fE x x.now).map λi:Nat=>(i:Int))) ⟨Le.refl _,r1,r2,r35,r36,r37,by rw[r3];exact sO.nil _ _ _ _⟩ ?_ ?_ ?_
 ·rintro k R V hk ⟨aM,r1,r2,r35,r36,r37,hL⟩;unfold iy;have t1:decide ((k:Int)<(n:Int))=true:=cd;have t2:=λW'=>bc W' k 1
  have e3:((k+1:Nat):Int)=(k:Int)+1:=by omega
  have hV:=h.mono aM;have cb:aH V rb=some [ba ob]:=ao ((aM.get _ hrb).trans hr);have co:=hV.c;have n1:(rb=V.next)=False:=eq_false (by have:=aM.next;omega);have n2:(ob=V.next)=False:=eq_false (by have:=hV.hi;omega);have ls:=hV.lsi (show k<x.st.length by omega);have N7:cr x k∈x.st:=by
   have:cr x k=x.st[k]'(by omega):=by simp[cr,bJ (show k<x.st.length by omega)]
   rw[this];exact cG _
  have hdl:0<=(cr x k).dl:=by
   have:=n8 _ N7;unfold D8 at this;repeat' split at this
   all_goals omega
  have hps:=Ho.M8 hdl yx;have VT:(List.range (k+1)).filter (sP x x.now)=(List.range k).filter (sP x x.now)++(if sP x x.now k=true then [k]else []):=by
   rw[qW,vz];congr 1;by_cases c:sP x x.now k=true
   ·rw[an c,List.filter_cons_of_pos c,List.filter_nil]
   ·rw[aq c,List.filter_cons_of_neg c,List.filter_nil]
  simp only[SX,r1,r35,r36,r37,t1,rE hk,ls];by_cases c:sP x x.now k=true
  ·have hc:=c;unfold sP at hc;rw[bA]at hc;have dS:(((List.range k).filter (sP x x.now)).map λi:Nat=>(i:Int)).length<=k:=by rw[fj];exact dW (xB _ _) (by simp)
   obtain⟨V3,A0⟩:∃V3,V3=V.add (.cells (dJ (cr x k))):=⟨_,rfl⟩;have l3:Le V V3:=by rw[A0];exact(Le.refl V).add _
   obtain⟨v',V4,k1,k2,k3,k4⟩:=((hL.mono l3).mono ((Le.refl V3).add (.cells (jc (k:Int))))).push (P:=Tryz.prog) Y3 jV wF (b:=V3.next) (c:=1) bC (by omega) (by omega) (by rw[AW.av];have:=aM.next;have:=l3.next;omega);rw[A0,AW.av]at k1;simp(maxDischargeDepth:=9) only[SX,MX,HX,Nat.reduceAdd,p7,cb,co,n1,n2,aS,hps,hc.1,hc.2,acD,k1,t2];refine .inl ⟨k4 _ ((aM.trans l3).trans ((Le.refl _).add _)) (aR _),r1,r2,r35,r36,by rw[e3];rfl,?_⟩;rw[VT,an c,qX];exact k2
  ·have hc:(decide ((cr x k).dl<=x.now)&&decide ((cr x k).st=1))=false:=by unfold sP at c;exact uY.2 c
   have mf:∀V3,Le V V3->Le W2 V3/\sO W2.next V3 1 jc (R 3) (((List.range (k+1)).filter (sP x x.now)).map λi:Nat=>(i:Int)):=λV3 l3=>⟨aM.trans l3,by rw[VT,aq c,fp];exact hL.mono l3⟩
   have l3:Le V (V.add (.cells (dJ (cr x k)))):=(Le.refl V).add _;obtain⟨f1,f2⟩:=mf _ l3;cases d1:decide ((cr x k).dl<=x.now)
   ·simp(maxDischargeDepth:=9) only[SX,MX,HX,Nat.reduceAdd,p7,cb,co,n1,n2,aS,hps,d1,t2];exact .inl ⟨f1,r1,r2,r35,r36,by rw[e3];rfl,f2⟩
   ·rw[d1,gK]at hc;simp(maxDischargeDepth:=9) only[SX,MX,HX,Nat.reduceAdd,p7,cb,co,n1,n2,aS,hps,d1,hc,t2];exact .inl ⟨f1,r1,r2,r35,r36,by rw[e3];rfl,f2⟩
 ·rintro R V ⟨aM,r1,r2,r35,r36,r37,hL⟩;unfold iy;have t1:decide ((n:Int)<(n:Int))=false:=bS;simp only[SX,r36,r37,t1,af];exact⟨by simp,aj,aM,r1,r2,by rw[fE,hn];exact hL⟩
 ·rintro⟨e,R,V⟩ ⟨rfl,h1,h2,h3,h4⟩;exact hK R V _ h1 h2 h3 rfl h4
end
def wC(x:cS)(i:Nat):(lz x i).v=x.v/\(lz x i).now=x.now/\(lz x i).st.length=x.st.length/\(lz x i).qs.length=x.qs.length:=by unfold lz;split<;>simp
def BG(nw:Int)(x:cS)(L:List Nat):(L.foldl (wB nw) x).v=x.v/\(L.foldl (wB nw) x).now=x.now/\(L.foldl (wB nw) x).st.length=x.st.length/\(L.foldl (wB nw) x).qs.length=x.qs.length:=by
 induction L generalizing x with
 |nil=>exact⟨rfl,rfl,rfl,rfl⟩
 |cons i L ih=>rw[uI];obtain⟨a,b,c,d⟩:=ih (wB nw x i);obtain⟨a',b',c',d'⟩:=wC {x with st:=x.st.set i (lL (cr x i) nw)} i;exact⟨a.trans a',b.trans b',c.trans (c'.trans (by simp)),d.trans d'⟩
def zK(a:Option Addr)(W:AW):rD (.pointer a) W=some (ba W.next,W.add (.cells [.pointer a])):=aT rfl rfl
section
variable {W0 W V:AW} {ob sb qb:Nat} {bq:Nat->Nat} {x x':cS} {sv:ad} {o:kP} {s:Int}
def aj9{R:ai.Fr}{U:AW}{rb B c m:Nat}{v0:ad}{L:List Nat}{K:LT->Option (ad×AW)}{G:ad×AW->Prop}(h:fA W0 U ob sb qb bq x sv o s)(yS:sb<ob/\qb<ob)
 (hr:U.get rb=some (.cells [ba ob]))(hrb:rb<U.next)(hrn:rb≠sb/\rb≠qb)(hB:L≠[]->U.get B=some (.cells (L.map λi:Nat=>Value.int .i64 (i:Int)))/\B<U.next/\B≠sb/\B≠qb)
 (hL:∀i∈L,i<x.st.length)(dS:L.length=m)(hm:m<=10000)(hk:∀i,i<x.st.length->tV x.v i<x.qs.length)(hv:x.v.ax.length<1000)(h1:x.now<9223372036854775808)(h2:x.v.cL<9223372036854775808)
 {v:ad}(hv0:v=.slice (some ⟨B,0,none⟩) m c\/L=[])(r1:R 1=ba rb)(r2:R 2=v0)(r67:R 67=v)(r68:R 68=.ae (m:Int))(r69:R 69=.ae 0)
 (hK:∀R' V,R' 2=v0->fA W0 V ob sb qb bq (L.foldl (wB x.now) x) sv o s->Fr U V sb qb->Ok (K (.exit 2,R',V)) G):Ok (eY (fV (fQ aY) R U) K) G:=by
 refine a8 m (by omega) (λk R V=>fA W0 V ob sb qb bq ((L.take k).foldl (wB x.now) x) sv o s/\Fr U V sb qb/\R 1=ba rb/\R 2=v0/\R 67=v/\R 68=.ae (m:Int)/\R 69=.ae (k:Int))
  (λr=>r.1=.exit 2/\fA W0 r.2.2 ob sb qb bq (L.foldl (wB x.now) x) sv o s/\Fr U r.2.2 sb qb/\r.2.1 2=v0) ⟨h,.refl _ _ _,r1,r2,r67,r68,r69⟩ ?_ ?_ ?_
 ·rintro k R V hkm ⟨hO,hF,r1,r2,r67,r68,r69⟩;unfold fQ;have hkL:k<L.length:=by omega
  have fe:L≠[]:=λe=>by rw[e]at hkL;cases hkL
  obtain⟨b1,b2,b3,b4⟩:=hB fe;rcases hv0 with rfl|hv0;case inr=>exact absurd hv0 fe
  have t1:decide ((k:Int)<(m:Int))=true:=cd;have t2:=λW'=>bc W' k 1
  have e3:((k+1:Nat):Int)=(k:Int)+1:=by omega
  obtain⟨s1,s2,s3,s4⟩:=BG x.now x (L.take k);have gB:V.get B=some (.cells (L.map λi:Nat=>Value.int .i64 (i:Int))):=(hF.2 B b2 b3 b4).trans b1;have lB:bu (.pointer (some ⟨B,k,none⟩)) V=some (.ae (L[k]:Int),V):=aP (ao gB) (by rw[ly,bJ hkL];rfl);have gr:∀V',V'.get rb=some (.cells [ba ob])->bu (ba rb) V'=some (ba ob,V'):=λV' hV=>aP (ao hV) rfl
  have gr0:V.get rb=some (.cells [ba ob]):=(hF.2 rb hrb hrn.1 hrn.2).trans hr;have hi:L[k]<((L.take k).foldl (wB x.now) x).st.length:=by rw[s3];exact hL _ (cG _)
  generalize hy:(L.take k).foldl (wB x.now) x=y at *;have LD:=hO.lsi hi;have ug:=zj (z:=lL (cr y L[k]) y.now) hO.gs (show y.st[L[k]]? =some (cr y L[k])by rw[bJ hi];simp[cr,bJ hi]);have vp:iw (ba ob) (ba ob)=true:=by simp only[MX]
  simp only[SX,r1,r67,r68,r69,t1,Rq hkm,lB,gr _ gr0,aS,aI,hO.l5,rE hi,LD,hO.Ua,QS,cV,fJ,vp,fM,ug];have Wz:∀b,b≠sb->(V.put sb (.cells ((y.st.set L[k] (lL (cr y L[k]) y.now)).flatMap dJ))).get b=V.get b:=λb hb=>AW.ay _ _ (bh hb)
  have hf1:Fr V (V.put sb (.cells ((y.st.set L[k] (lL (cr y L[k]) y.now)).flatMap dJ))) sb qb:=⟨aR _,λb _ h1 _=>Wz b h1⟩;have Pg:=hO.step (x':={y with st:=y.st.set L[k] (lL (cr y L[k]) y.now)}) hf1 rfl rfl (by simp) rfl (AW.aW _ _ _) (hO.gq.keep (Wz _ (bh hO.ne.2.2)) λj=>Wz _ (hO.nq j).2.2.2.1);generalize V.put sb (.cells ((y.st.set L[k] (lL (cr y L[k]) y.now)).flatMap dJ))=V1 at *;obtain⟨V2,k1,k2,k3⟩:=Tf Pg (i:=L[k]) (by simpa using hi) (by show tV y.v L[k]<y.qs.length;rw[s1,s4];exact hk _ (by rw[<-s3];exact hi)) (by show y.v.ax.length<1000;rw[s1];exact hv) (by show y.now<_;rw[s2];exact h1) (by show y.v.cL<_;rw[s1];exact h2);simp only[SX,gr V1 ((Wz rb hrn.1).trans gr0),k1,t2,af];refine .inl ⟨aj,?_,hF.trans (hf1.trans k3),r1,r2,r67,r68,by rw[e3];rfl⟩;rw[iY hkL,Bn,hy,uI,List.foldl_nil];unfold wB;rw[<-s2];exact k2
 ·rintro R V ⟨hO,hF,r1,r2,r67,r68,r69⟩;unfold fQ;have t1:decide ((m:Int)<(m:Int))=false:=bS;rw[<-dS,cO]at hO;simp only[SX,r68,r69,t1,af];exact⟨by simp,aj,hO,hF,r2⟩
 ·rintro⟨e,R,V⟩ ⟨rfl,a,b,c⟩;exact hK R V c a b
def Bz{l:List Int}:arr l.length (λt=>l.getD t 0)=l.map (Value.int .i64):=by
 apply oi;intro t;by_cases h:t<l.length
 ·rw[D7 _ h,ly,bJ h];simp[List.getD,bJ h]
 ·rw[kn (by rw[Bs];omega),kn (by simp;omega)]
def acw(x:cS)(nw:Int):(List.range (fE x nw).length).map (λt=>((fE x nw).map λi:Nat=>(i:Int)).getD t 0)=(fE x nw).map λi:Nat=>(i:Int):=by
 apply List.ext_getElem (by simp);intro t h1 h2;have h3:t<(fE x nw).length:=by simpa using h2
 simp[List.getD,h3]
def acd{x:cS}{nw:Int}{g:Nat->Int}(p:nW 0 (fE x nw).length (λt=>((fE x nw).map λi:Nat=>(i:Int)).getD t 0) g)(hs:sw (Zy x) g 0 (fE x nw).length):yb x nw ((List.range (fE x nw).length).map λt=>(g t).toNat)/\∀t,t<(fE x nw).length->g t=((g t).toNat:Int):=by
 have hp:=p.perm;rw[acw]at hp;have t8:∀t,t<(fE x nw).length->g t=((g t).toNat:Int):=λt ht=>by
  have:g t∈(fE x nw).map λi:Nat=>(i:Int):=hp.mem_iff.1 (mB.2 ⟨t,pL.2 ht,rfl⟩)
  obtain⟨i,-,e⟩:=mB.1 this;rw[<-e];simp
 refine⟨⟨?_,?_⟩,t8⟩
 ·have h2:=hp.map Int.toNat;rw[List.map_map,List.map_map]at h2;have e:(Int.toNat ∘λi:Nat=>(i:Int))=id:=by funext i;simp
  rw[e,List.map_id]at h2;exact h2
 ·rw[List.pairwise_map];refine List.Pairwise.imp_of_mem ?_ (List.pairwise_lt_range (n:=(fE x nw).length));intro a b ha hb hab;have h1:=hs a b (qg _) hab (pL.1 hb);unfold Rx;rw[<-t8 a (pL.1 ha),<-t8 b (pL.1 hb)];exact h1
end
structure TkB (x:cS) (o:kP):Prop where
 n:x.st.length<=10000
 se:∀y∈x.st,D8 y=0
 now:0<=x.now
 nw:o.nw<9223372036854775808
 cL:x.v.cL<9223372036854775808
 v:x.v.ax.length<1000
 k:∀i,i<x.st.length->tV x.v i<x.qs.length
section
variable {W0 W V:AW} {ob sb qb:Nat} {bq:Nat->Nat} {x x':cS} {sv:ad} {o:kP} {s:Int}
def Sh(h:fA W0 W ob sb qb bq x sv o s)(yS:sb<ob/\qb<ob)(hc:o.nw<x.now):lC W0 W ob sb qb bq sv o s 135 x (pY 18):=by refine mS h yS qG ?_;unfold iz;have MN:Le W (W.add (.cells [ba ob])):=(Le.refl W).add _;obtain⟨V,al,iN,n2,g2⟩:=ni (W.add (.cells [ba ob]));rw[AW.av]at al n2 g2;have aM:=MN.trans iN;have gr:V.get W.next=some (.cells [ba ob]):=(iN.get _ (by rw[AW.av];omega)).trans (AW.aL _ _);have lr:bu (ba W.next) V=some (ba ob,V):=aP (ao gr) rfl;have h1:=h.mono aM;obtain⟨p1,p2⟩:=ud g2 (pY 18);have d:=aK hc;simp only[SX,zK,al,lr,aS,aI,Nat.reduceAdd,h1.l18,h1.Ua,d,km,p1,p2,af];exact⟨aj,gt h h1 (.of_le aM) (by omega) _⟩
def afU(h:fA W0 W ob sb qb bq x sv o s)(yS:sb<ob/\qb<ob)(hb:TkB x o)(hc:¬o.nw<x.now):∃L,yb x o.nw L/\lC W0 W ob sb qb bq sv o s 135 (zl x o.nw L) gz:=by
 have hq:∃L,yb x o.nw L/\Ok (iz aY (ba ob) W) λq=>q.1=fX gz/\fA W0 q.2 ob sb qb bq (zl x o.nw L) sv o s/\W.next<=q.2.next/\∀b,ob<b->b<W.next->q.2.get b=W.get b:=by
  have Uc:=h.hi;have MN:Le W (W.add (.cells [ba ob])):=(Le.refl W).add _;obtain⟨V,al,iN,n2,g2⟩:=ni (W.add (.cells [ba ob]));rw[AW.av]at al n2 g2;have aM:=MN.trans iN;have gr:V.get W.next=some (.cells [ba ob]):=(iN.get _ (by rw[AW.av];omega)).trans (AW.aL _ _);have lr:bu (ba W.next) V=some (ba ob,V):=aP (ao gr) rfl;have h1:=h.mono aM;obtain⟨V1,st1,h2,n3,o3⟩:=h1.amE o.nw;have gr1:V1.get W.next=some (.cells [ba ob]):=(o3 _ (by omega)).trans gr;have g3:V1.get (W.next+1)=some (.cells (jr gz)):=(o3 _ (by omega)).trans g2;have lr1:bu (ba W.next) V1=some (ba ob,V1):=aP (ao gr1) rfl;have d:=aJ hc;have mf:∀{L:List Nat} {U:AW} {R:ai.Fr} {v:ad} {B c:Nat},yb x o.nw L->V1.next<=U.next->(∀b,b<V1.next->U.get b=V1.get b)->R 1=ba W.next->R 2=ba (W.next+1)->R 3=v->(v=.slice (some ⟨B,0,none⟩) L.length c\/L=[]/\v=.slice none 0 0)->
   (L≠[]->U.get B=some (.cells (L.map λi:Nat=>Value.int .i64 (i:Int)))/\B<U.next/\V1.next<=B)->∀R',R' 1=ba W.next->R' 2=ba (W.next+1)->R' 67=v->R' 68=.ae (L.length:Int)->R' 69=.ae 0->
   Ok (eY (fV (fQ aY) R' U) λZY=>B9 2 ZY.1 (eY (fd Tryz.prog 50 [] ZY.2.2) λr88=>eY (fm 9 (ZY.2.1 2) r88.1 r88.2) λTY=>iP Tryz.prog [((ZY.2.1 2),some 50)] TY.2) none) λq=>q.1=fX gz/\fA W0 q.2 ob sb qb bq (zl x o.nw L) sv o s/\W.next<=q.2.next/\∀b,ob<b->b<W.next->q.2.get b=W.get b:=by
   intro L U R v B c hD un uo _ _ _ hv hB R' a1 a2 a67 a68 a69;have hU:fA W0 U ob sb qb bq {x with now:=o.nw} sv o s:=h2.mono ⟨un,uo⟩;have N7:∀i∈L,i<x.st.length:=λi hi=>by have:=hD.1.mem_iff.1 hi;unfold fE at this;rw[tF,pL]at this;exact this.1
   have dS:L.length<=10000:=by rw[hD.1.length_eq];exact dW (xB _ _) (by rw[Ei];exact hb.n)
   refine aj9 (x:={x with now:=o.nw}) (B:=B) (c:=c) (m:=L.length) (v0:=ba (W.next+1)) (v:=v) hU yS ((uo _ (by omega)).trans gr1) (by omega) ⟨by omega,by omega⟩
    (λfe=>let⟨e1,e2,e3⟩:=hB fe;⟨e1,e2,by omega,by omega⟩) N7 rfl dS hb.k hb.v hb.nw hb.cL (hv.imp id (·.1)) a1 a2 a67 a68 a69 ?_
   intro R2 V2 z2 zO zF;have g5:V2.get (W.next+1)=some (.cells (jr gz)):=((zF.2 _ (by omega) (by omega) (by omega)).trans (uo _ (by omega))).trans g3;obtain⟨p1,p2⟩:=ud g5 gz;simp only[SX,CO,z2,p1,p2,af];have zo:∀b,ob<b->b<W.next->V2.get b=W.get b:=λb b1 b2=>(zF.2 b (by omega) (by omega) (by omega)).trans ((uo b (by omega)).trans ((o3 b (by omega)).trans (aM.get b b2)))
   refine⟨aj,zO.other (by have:=h.le.next;omega) (by omega) (by omega) (by omega) (λk=>by have:=h.nq k;omega),by rw[AW.bH];have:=zF.1;omega,λb b1 b2=>(AW.ay _ _ (by omega)).trans (zo b b1 b2)⟩
  by_cases hd:fE x o.nw=[]
  ·refine⟨[],⟨by rw[hd],List.Pairwise.nil⟩,?_⟩;have hI:yb x o.nw []:=⟨by rw[hd],List.Pairwise.nil⟩;unfold iz;simp only[SX,zK,al,lr,aS,aI,Nat.reduceAdd,h1.l18,h1.Ua,d,st1,lr1,h2.l5,df uK];refine ac4 (x:={x with now:=o.nw}) (n:=x.st.length) (v0:=ba (W.next+1)) (rb:=W.next) rfl hb.n h2 gr1 (by omega) hb.se (by show 0<=o.nw;have:=hb.now;omega) rfl rfl rfl rfl rfl rfl ?_;intro R3 V3 v l3 q1 q2 q3 q4;have q4':sO V1.next V3 1 jc v ((fE x o.nw).map λi:Nat=>(i:Int)):=q4;rw[hd]at q4';rcases q4' with⟨-,rfl⟩|⟨e,-⟩;case inr=>exact absurd rfl e
   simp only[SX,q1,q3,adV,df vw];exact mf (B:=0) (c:=0) (v:=.slice none 0 0) (R:=R3) hI l3.next (λb hb=>l3.get b hb) q1 q2 q3 (.inr ⟨rfl,rfl⟩) (λfe=>absurd rfl fe) _ q1 q2 rfl rfl rfl
  ·obtain⟨f,hf⟩:∃f:Nat->Int,f=λt=>((fE x o.nw).map λi:Nat=>(i:Int)).getD t 0:=⟨_,rfl⟩
   have hm:0<(fE x o.nw).length:=BF.2 hd;have KM:∀t (ht:t<(fE x o.nw).length),f t=(((fE x o.nw)[t]:Nat):Int):=λt ht=>by rw[hf];simp[List.getD,ht]
   have dS:(fE x o.nw).length<=10000:=dW (xB _ _) (by rw[Ei];exact hb.n);obtain⟨L,hL⟩:∃L,yb x o.nw L:=by
    classical
    refine⟨(fE x o.nw).mergeSort (λa b=>decide (Rx x a b\/a=b)),I6 _ _,?_⟩;have h1:=List.pairwise_mergeSort (le:=λa b=>decide (Rx x a b\/a=b)) (λa b c h1 h2=>by
     simp only[iA]at *;rcases h1 with h1|rfl
     ·rcases h2 with h2|rfl
      ·exact .inl (LF.trans h1 h2)
      ·exact .inl h1
     ·exact h2) (λa b=>by
     simp only[pd,iA];unfold Rx LF;omega) (fE x o.nw);have h2:((fE x o.nw).mergeSort (λa b=>decide (Rx x a b\/a=b))).Nodup:=(I6 _ _).nodup_iff.2 ((List.nodup_range (n:=x.st.length)).filter _);refine(h1.and h2).imp λ{a b} hh=>?_
    have h3:=hh.1;simp only[iA]at h3;rcases h3 with h3|h3
    ·exact h3
    ·exact absurd h3 hh.2
   refine⟨L,hL,?_⟩;unfold iz;simp only[SX,zK,al,lr,aS,aI,Nat.reduceAdd,h1.l18,h1.Ua,d,st1,lr1,h2.l5,df uK];refine ac4 (x:={x with now:=o.nw}) (n:=x.st.length) (v0:=ba (W.next+1)) (rb:=W.next) rfl hb.n h2 gr1 (by omega) hb.se (by show 0<=o.nw;have:=hb.now;omega) rfl rfl rfl rfl rfl rfl ?_;intro R3 V3 v l3 q1 q2 q3 q4;have q4':sO V1.next V3 1 jc v ((fE x o.nw).map λi:Nat=>(i:Int)):=q4;rcases q4' with⟨e,-⟩|⟨-,B,i1,i2,rfl,i4⟩
   ·exact absurd (List.map_eq_nil_iff.1 e) hd
   rw[fj]at q3;have hA:kN V3 B (fE x o.nw).length f V3:=⟨rfl,λ_ _=>rfl,i2,by
    rw[i4,QP,hf];have:=Bz (l:=(fE x o.nw).map λi:Nat=>(i:Int));rw[fj]at this;rw[this]⟩;have auO:Iq V3 B (fE x o.nw).length (.func (.func 167) #[] #[ba W.next]) (Zy x) (λa=>∃i:Nat,i<x.st.length/\a=(i:Int)):=by
    intro U f' hU a b ⟨i,hi,ea⟩ ⟨j,hj,eb⟩;subst ea eb;have gu:∀b,b<V1.next->aH U b=aH V1 b:=λb hb=>by unfold aH;rw[hU.ot b (by omega),l3.get b hb]
    have e1:=aci (ob:=ob) (sb:=sb) (rb:=W.next) (U:=U) (s:=s) (o:=o) (sv:=sv) (nq:=x.qs.length) (qb:=qb) (v:=x.v) (now:=o.nw) (l:=x.st) (i:=i) (j:=j) ((gu _ (by omega)).trans (ao gr1)) ((gu _ (by omega)).trans h2.c) ((gu _ (by omega)).trans (ao h2.gs)) rfl hi hj;refine⟨_,e1,?_⟩;rw[adQ];unfold Zy;simp only[vq]
   obtain⟨U,g,e1,e2,e3,e4⟩:=MG (c:=eJ+1) dS auO (λt ht=>⟨_,aaC x o.nw ht,KM t ht⟩) (λi j h1 h2=>by rw[KM i (by omega),KM j h2];exact Int.ofNat_lt.2 (aai x o.nw h1 h2)) hA;rw[hf]at e3;obtain⟨d1,d2⟩:=acd e3 e4;have eL:=hL.one d1;have aqL:L.length=(fE x o.nw).length:=hL.1.length_eq;simp only[SX,q1,q3,e1,df vw];have q3':R3 3=.slice (some ⟨B,0,none⟩) L.length (eJ+1):=by rw[aqL];exact q3
   rw[<-aqL];refine mf (B:=B) (c:=eJ+1) (v:=.slice (some ⟨B,0,none⟩) L.length (eJ+1)) (R:=R3) hL (by rw[e2.nx];exact l3.next) (λb hb=>(e2.ot b (by omega)).trans (l3.get b hb)) q1 q2 q3' (.inl rfl) (λ_=>⟨?_,by rw[e2.nx];exact i2,i1⟩) _ q1 q2 rfl rfl rfl;rw[e2.ce,eL];unfold arr;rw[List.map_map];congr 2;refine List.map_congr_left λt ht=>?_
   rw[pL]at ht;show Value.int .i64 (g t)=Value.int .i64 (((g t).toNat:Nat):Int);rw[<-d2 t ht]
 obtain⟨L,hL,ht⟩:=hq;exact⟨L,hL,SH h qG ht⟩
end
def FK(k se sc t1 e:Int):Int×Int×Int:=
 if e≠0 then(0,0,e)else if k=2\/k=4\/k=5\/k=8 then(se,-1,0)else if k=6\/k=7\/k=9 then(IntKind.i64.wrap t1,-1,0)else if k=3\/k=10\/k=11 then(-1,sc,0)else(-1,-1,0)
def VP(x:Int×Int×Int):ad:=.tuple #[.ae x.1,.ae x.2.1,.ae x.2.2]
def Xg(n:Int)(W:AW):wu Tryz.prog 43 3 (.int .u32 n) W=some (.ae (IntKind.i64.wrap n),W):=aT (by kernel_rfl) rfl
def rh(a b:Int):Int:=IntKind.i64.wrap ↑(BitVec.ofInt IntKind.i64.bits a&&&BitVec.ofInt IntKind.i64.bits b).toNat
def Yb{t:ag}{c d:Bool}{a b:Int}{W:AW}:bO Tryz.prog .and t c d (.ae a) (.ae b) W=some (.ae (rh a b),W):=aaF
def apn:rh 1 4=0/\rh 1 64=0/\rh 1 8=0/\rh 7 4=4/\rh 7 64=0/\rh 7 8=0/\rh 11 4=0/\rh 11 64=0/\rh 11 8=8/\rh 27 4=0/\rh 27 64=0/\rh 27 8=8/\rh 64 4=0/\rh 64 64=64/\rh 64 8=0/\rh 67 4=0/\rh 67 64=64/\rh 67 8=0/\rh 99 4=0/\rh 99 64=64/\rh 99 8=0/\rh 128 4=0/\rh 128 64=0/\rh 128 8=0:=by decide+kernel
def Jf(k:Int):k=1\/k=2\/k=3\/k=4\/k=5\/k=6\/k=7\/k=8\/k=9\/k=10\/k=11\/k=12\/k<1\/12<k:=by omega
def Xu{k ow un se sc n to t1 t2 t3 t4 nw:Int}(hk:k<1\/12<k):zI k ow un se sc n to t1 t2 t3 t4 nw=2:=an hk
def Mr(k ow un se sc n to t1 t2 t3 t4 nw:Int){W:AW}(hG:GW W):aY (.func (.func 98) #[] #[]) [.agg (iX k ow un se sc n to t1 t2 t3 t4 nw)] W=some (VP (FK k se sc t1 (zI k ow un se sc n to t1 t2 t3 t4 nw)),W):=by
 refine aQ rfl ?_ HV;have hP:∀o,aY (.func (.func 51) #[] #[]) [.agg (iX k ow un se sc n to t1 t2 t3 t4 nw)] (W.add o)=some (.ae (zI k ow un se sc n to t1 t2 t3 t4 nw),W.add o):=λo=>D1 k ow un se sc n to t1 t2 t3 t4 nw (hG.mono ((Le.refl W).add o))
 have hU:∀o,aH (W.add o) 0=some yu:=λo=>GW.cells (hG.mono ((Le.refl W).add o))
 have hp:=hG.pos;have ix:∀(i:Int) (U:AW),0<=i/\i<13->ixA 13 1 (.pointer (some ⟨0,0,none⟩)) (.ae i) U=some (.pointer (some ⟨0,i.toNat,none⟩),U):=λi U hi=>by have:=VY (len:=13) (z:=1) (b:=0) (o:=0) (n:=i) (k:=.i64) (W:=U) hi.1 (by omega);simpa using this
 have h0:¬(0=W.next):=by omega
 have hUW:=hG.cells;unfold iX at hP;unfold D0 iX FK;by_cases he:zI k ow un se sc n to t1 t2 t3 t4 nw=0;case neg=>have d:=aJ he;simp(maxDischargeDepth:=9) only[SX,MX,HX,Nat.reduceAdd,hP,d,an he];rfl
 obtain rfl|rfl|rfl|rfl|rfl|rfl|rfl|rfl|rfl|rfl|rfl|rfl|h:=Jf k;rotate_right
 ·rw[Xu h]at he;cases he
 all_goals
  simp(maxDischargeDepth:=9) only[SX,MX,HX,Nat.reduceAdd,hP,he,ix,hU,yu,TU,mc,mY,Yb,Int.reduceToNat,Int.reduceLT,Int.reduceLE,Int.reduceEq,apn,Xg]
  simp[VP]
def PU(k ow un se sc n to t1 t2 t3 t4 nw:Int)(W:AW):aY (.func (.func 66) #[] #[]) [.agg (iX k ow un se sc n to t1 t2 t3 t4 nw)] W=some (VP (FK k se sc t1 (zI k ow un se sc n to t1 t2 t3 t4 nw)),W):=by
 refine aQ rfl ?_ H4;have hP:∀o,aY (.func (.func 32) #[] #[]) [.agg (iX k ow un se sc n to t1 t2 t3 t4 nw)] (W.add o)=some (.ae (zI k ow un se sc n to t1 t2 t3 t4 nw),W.add o):=λo=>Hd k ow un se sc n to t1 t2 t3 t4 nw (W.add o)
 unfold iX at hP;unfold DH iX FK;by_cases he:zI k ow un se sc n to t1 t2 t3 t4 nw=0;case neg=>have d:=aJ he;simp(maxDischargeDepth:=9) only[SX,MX,HX,Nat.reduceAdd,hP,d,an he];rfl
 obtain rfl|rfl|rfl|rfl|rfl|rfl|rfl|rfl|rfl|rfl|rfl|rfl|h:=Jf k;rotate_right
 ·rw[Xu h]at he;cases he
 all_goals
  simp(maxDischargeDepth:=9) only[SX,MX,HX,Nat.reduceAdd,hP,he,Int.reduceEq,Xg,mX,mT,jZ]
  simp[VP]
def BH(bP ns:Int):Int:=if bP<0\/ns<=bP then 4 else 0
def ZX(k sec nq n:Int):Int:=if sec<0\/nq<=sec then 4 else if k=3/\(n<1\/8<n)then 7 else 0
def wrE(now bP sec ns nq:Int)(o:kP):Int:=if o.k=1\/o.k=12 then 0 else if o.k≠9/\o.un<=now then 13 else if(o.k=8/\o.ow≠0)\/((o.k=6\/o.k=7)/\o.ow≠o.t2)then 14 else if o.k=3\/o.k=10\/o.k=11 then ZX o.k sec nq o.n else BH bP ns
def Ab:((#[32]:Array ag)[0]?).bind Tryz.prog.underlying=some (.slice 88):=by kernel_rfl
def zg:((#[22]:Array ag)[0]?).bind Tryz.prog.underlying=some (.slice 63):=by kernel_rfl
section
variable {W:AW} {b ob:Nat} {sh cL eO now bP sec ns nq:Int} {sv sq qq:ad} {o:kP}
def ade(hc:aH W b=some [.ae sh,.ae cL,.ae eO,sv,.ae now,sq,qq])(hs:∀W',aZ Tryz.prog .len #[31] 3 #[false] [sq] W'=some (.ae ns,W')):
 ji aY (.ae bP) (ba b) W=some (.ae (BH bP ns),W):=by
 unfold ji BH;by_cases c:bP<0
 ·have d:=aK c;simp(maxDischargeDepth:=9) only[SX,d,an (Or.inl c)]
 ·have d:=aJ c;by_cases c2:ns<=bP
  ·have d2:=aK c2;simp(maxDischargeDepth:=9) only[SX,MX,d,hc,hs,d2,an (Or.inr c2)]
  ·have d2:=aJ c2;simp(maxDischargeDepth:=9) only[SX,MX,d,hc,hs,d2,aq (show¬(bP<0\/ns<=bP)by omega)]
def Wj(hc:aH W b=some [.ae sh,.ae cL,.ae eO,sv,.ae now,sq,qq])(ho:aH W ob=some (Da o))(hs:∀W',aZ Tryz.prog .len #[31] 3 #[false] [sq] W'=some (.ae ns,W'))(hq:∀W',aZ Tryz.prog .len #[32] 3 #[false] [qq] W'=some (.ae nq,W'))(c:Bool):
 iT aY (.ae bP) (.ae sec) (ba b) (ba ob) (.bool c) W=some (.ae (bif c then ZX o.k sec nq o.n else BH bP ns),W):=by
 unfold iT;cases c
 ·simp(maxDischargeDepth:=9) only[SX,MX,ade hc hs,gp]
 unfold ZX;by_cases c:sec<0
 ·have d:=aK c;simp(maxDischargeDepth:=9) only[SX,MX,d,eV,an (Or.inl c)]
 have d:=aJ c;by_cases c2:nq<=sec
 ·have d2:=aK c2;simp(maxDischargeDepth:=9) only[SX,MX,d,hc,hq,d2,eV,an (Or.inr c2)]
 have d2:=aJ c2;have e0:¬(sec<0\/nq<=sec):=by omega
 by_cases k3:o.k=3
 ·have d3:=aK k3;by_cases n1:o.n<1
  ·have d4:=aK n1;simp(maxDischargeDepth:=9) only[SX,MX,d,hc,hq,ho,d2,d3,d4,eV,aq e0,an (show o.k=3/\(o.n<1\/8<o.n)from⟨k3,.inl n1⟩)]
  ·have d4:=aJ n1;by_cases n2:8<o.n
   ·have d5:=aK n2;simp(maxDischargeDepth:=9) only[SX,MX,d,hc,hq,ho,d2,d3,d4,d5,eV,aq e0,an (show o.k=3/\(o.n<1\/8<o.n)from⟨k3,.inr n2⟩)]
   ·have d5:=aJ n2;simp(maxDischargeDepth:=9) only[SX,MX,d,hc,hq,ho,d2,d3,d4,d5,eV,aq e0,aq (show¬(o.k=3/\(o.n<1\/8<o.n))by omega)]
 ·have d3:=aJ k3;simp(maxDischargeDepth:=9) only[SX,MX,HX,d,hc,hq,ho,d2,d3,eV,aq e0,aq (show¬(o.k=3/\(o.n<1\/8<o.n))fromλz=>k3 z.1)]
def w3(k:Int)(a b:Int):Int:=if k=3\/k=10\/k=11 then a else b
def abX(hc:aH W b=some [.ae sh,.ae cL,.ae eO,sv,.ae now,sq,qq])(ho:aH W ob=some (Da o))(hs:∀W',aZ Tryz.prog .len #[31] 3 #[false] [sq] W'=some (.ae ns,W'))(hq:∀W',aZ Tryz.prog .len #[32] 3 #[false] [qq] W'=some (.ae nq,W'))(c:Bool):
 lN aY (.ae bP) (.ae sec) (ba b) (ba ob) (.ae o.k) (.bool c) W=some (.ae (bif c then(if o.ow=o.t2 then BH bP ns else 14)else w3 o.k (ZX o.k sec nq o.n) (BH bP ns)),W):=by
 unfold lN w3;cases c
 ·by_cases k3:o.k=3
  ·have d3:=aK k3;simp(maxDischargeDepth:=9) only[SX,MX,Nat.reduceAdd,d3,Wj hc ho hs hq,eV,gp,an (show o.k=3\/o.k=10\/o.k=11 from .inl k3)]
  have d3:=aJ k3;by_cases k4:o.k=10
  ·have d4:=aK k4;simp(maxDischargeDepth:=9) only[SX,MX,Nat.reduceAdd,d3,d4,Wj hc ho hs hq,eV,gp,an (show o.k=3\/o.k=10\/o.k=11 from .inr (.inl k4))]
  have d4:=aJ k4;by_cases k5:o.k=11
  ·have d5:=aK k5;simp(maxDischargeDepth:=9) only[SX,MX,Nat.reduceAdd,d3,d4,d5,Wj hc ho hs hq,eV,gp,an (show o.k=3\/o.k=10\/o.k=11 from .inr (.inr k5))]
  ·have d5:=aJ k5;simp(maxDischargeDepth:=9) only[SX,MX,Nat.reduceAdd,d3,d4,d5,Wj hc ho hs hq,gp,aq (show¬(o.k=3\/o.k=10\/o.k=11)by omega)]
 ·by_cases c:o.ow=o.t2
  ·have d:=aK c;simp(maxDischargeDepth:=9) only[SX,MX,Nat.reduceAdd,ho,d,ade hc hs,eV,an c]
  ·have d:=aJ c;simp(maxDischargeDepth:=9) only[SX,MX,Nat.reduceAdd,ho,d,eV,aq c]
def w4(bP sec ns nq:Int)(o:kP):Int:=if o.k=8 then(if o.ow=0 then BH bP ns else 14)else if o.k=6\/o.k=7 then(if o.ow=o.t2 then BH bP ns else 14)else w3 o.k (ZX o.k sec nq o.n) (BH bP ns)
def aip(hc:aH W b=some [.ae sh,.ae cL,.ae eO,sv,.ae now,sq,qq])(ho:aH W ob=some (Da o))(hs:∀W',aZ Tryz.prog .len #[31] 3 #[false] [sq] W'=some (.ae ns,W'))(hq:∀W',aZ Tryz.prog .len #[32] 3 #[false] [qq] W'=some (.ae nq,W')):
 lM aY (.ae bP) (.ae sec) (ba b) (ba ob) W=some (.ae (w4 bP sec ns nq o),W):=by
 unfold lM w4;by_cases k8:o.k=8
 ·have d8:=aK k8;by_cases c:o.ow=0
  ·have d:=aK c;simp(maxDischargeDepth:=9) only[SX,MX,ho,d8,d,ade hc hs,an k8,an c]
  ·have d:=aJ c;simp(maxDischargeDepth:=9) only[SX,MX,ho,d8,d,an k8,aq c]
 have d8:=aJ k8;by_cases k6:o.k=6
 ·have d6:=aK k6;simp(maxDischargeDepth:=9) only[SX,MX,ho,d8,d6,abX hc ho hs hq,eV,aq k8,an (show o.k=6\/o.k=7 from .inl k6)]
 have d6:=aJ k6;by_cases k7:o.k=7
 ·have d7:=aK k7;simp(maxDischargeDepth:=9) only[SX,MX,ho,d8,d6,d7,abX hc ho hs hq,eV,aq k8,an (show o.k=6\/o.k=7 from .inr k7)]
 ·have d7:=aJ k7;simp(maxDischargeDepth:=9) only[SX,MX,ho,d8,d6,d7,abX hc ho hs hq,gp,aq k8,aq (show¬(o.k=6\/o.k=7)by omega)]
def w5(now bP sec ns nq:Int)(o:kP):Int:=if o.k=9 then w4 bP sec ns nq o else if o.un<=now then 13 else w4 bP sec ns nq o
def aaA(hc:aH W b=some [.ae sh,.ae cL,.ae eO,sv,.ae now,sq,qq])(ho:aH W ob=some (Da o))(hs:∀W',aZ Tryz.prog .len #[31] 3 #[false] [sq] W'=some (.ae ns,W'))(hq:∀W',aZ Tryz.prog .len #[32] 3 #[false] [qq] W'=some (.ae nq,W'))(c:Bool):
 lJ aY (.ae bP) (.ae sec) (ba b) (ba ob) (.ae o.k) (.bool c) W=some (.ae (bif c then 0 else w5 now bP sec ns nq o),W):=by
 unfold lJ w5;cases c
 ·by_cases k9:o.k=9
  ·have d9:=aK k9;simp(maxDischargeDepth:=9) only[SX,MX,ho,d9,aip hc ho hs hq,gp,an k9]
  have d9:=aJ k9;by_cases c:o.un<=now
  ·have d:=aK c;simp(maxDischargeDepth:=9) only[SX,MX,hc,ho,d9,d,gp,aq k9,an c]
  ·have d:=aJ c;simp(maxDischargeDepth:=9) only[SX,MX,hc,ho,d9,d,aip hc ho hs hq,gp,aq k9,aq c]
 ·simp(maxDischargeDepth:=9) only[SX,MX,eV]
def akj:wrE now bP sec ns nq o=if o.k=1\/o.k=12 then 0 else w5 now bP sec ns nq o:=by
 unfold wrE w5 w4 w3;by_cases h:o.k=1\/o.k=12
 ·rw[an h,an h]
 rw[aq h,aq h];by_cases h9:o.k=9
 ·rw[bL,bL,bL,an h9,bL,bL]
 rw[aq h9];by_cases hu:o.un<=now
 ·rw[an ⟨h9,hu⟩,an hu]
 rw[bL,aq hu];by_cases h8:o.k=8
 ·rw[an h8];by_cases c:o.ow=0
  ·rw[bL,bL,an c]
  ·rw[kH,aq c]
 rw[aq h8];by_cases h6:o.k=6\/o.k=7
 ·rw[an h6];by_cases c:o.ow=o.t2
  ·rw[bL,bL,an c]
  ·rw[kH,aq c]
 ·rw[aq h6,bL]
def UY(hs:∀W',aZ Tryz.prog .len #[31] 3 #[false] [sq] W'=some (.ae ns,W'))(hq:∀W',aZ Tryz.prog .len #[32] 3 #[false] [qq] W'=some (.ae nq,W')):
 aY (.func (.func 99) #[] #[]) [.agg #[.ae sh,.ae cL,.ae eO,sv,.ae now,sq,qq],yc o,.ae bP,.ae sec] W=some (.ae (wrE now bP sec ns nq o),W):=by
 refine aQ rfl ?_ FO;rw[akj];unfold Co;obtain⟨V,hV⟩:∃V,V=(W.add (.cells [.ae sh,.ae cL,.ae eO,sv,.ae now,sq,qq])).add (.cells (Da o)):=⟨_,rfl⟩;have aM:Le W V:=by rw[hV];exact((Le.refl W).add _).add _
 have hc:aH V W.next=some [.ae sh,.ae cL,.ae eO,sv,.ae now,sq,qq]:=by rw[hV];simp(maxDischargeDepth:=9) only[MX,HX]
 have ho:aH V (W.next+1)=some (Da o):=by rw[hV];simp(maxDischargeDepth:=9) only[MX,HX]
 simp only[SX,AW.av];rw[<-hV];clear hV;have lk:bu (.pointer (some ⟨W.next+1,0,none⟩)) V=some (.ae o.k,V):=aP ho rfl;by_cases k1:o.k=1
 ·have d1:=aK k1;simp only[SX,aI,lk,d1,aaA hc ho hs hq,eV,an (show o.k=1\/o.k=12 from .inl k1),af];exact⟨aj,aM⟩
 have d1:=aJ k1;by_cases k2:o.k=12
 ·have d2:=aK k2;simp only[SX,aI,lk,d1,d2,aaA hc ho hs hq,eV,an (show o.k=1\/o.k=12 from .inr k2),af];exact⟨aj,aM⟩
 ·have d2:=aJ k2;simp only[SX,aI,lk,d1,d2,aaA hc ho hs hq,gp,aq (show¬(o.k=1\/o.k=12)by omega),af];exact⟨aj,aM⟩
end
def Cl{α:Type}(lo:Nat)(W:AW)(z:Nat)(f:α->List ad)(u:ad)(l:List α):Prop:=(l=[]/\(u=.slice none 0 0\/∃a,u=.slice (some a) 0 0))\/(l≠[]/\∃B,lo<=B/\B<W.next/\u=.slice (some ⟨B,0,none⟩) l.length (eJ+z)/\W.get B=some (.cells (l.flatMap f)))
def Ud{α:Type}{t:ag}{z bytes:Nat}{f:α->List ad}(hk:mL Tryz.prog #[t,t] z bytes=true)(hf:∀a,(f a).length=z)(h1:∀a,(f a).all Eng.one=true){W:AW}{v:ad}{l:List α}(h:Rd W z f v l)
 (hb:l.length<1099511627776)(lA:(2*l.length+192)*bytes<=281474976710656):
 ∃u W',dB Tryz.prog (W.add (.cells [])) #[t,t] (.slice (some ⟨W.next,0,none⟩) 0 0) v=some (u,W')/\Le W W'/\Cl W.next W' z f u l:=by
 obtain⟨a,c,rfl,hh⟩:=h.keep ((Le.refl W).add (.cells []));by_cases h0:l=[]
 ·subst h0;cases a with
  |none=>exact⟨_,_,v8 hk (aR _) (by omega) (by simpa using lA),(Le.refl W).add _,.inl ⟨rfl,.inr ⟨_,rfl⟩⟩⟩
  |some a=>exact⟨_,_,v8 hk (aR _) (by omega) (by simpa using lA),(Le.refl W).add _,.inl ⟨rfl,.inr ⟨_,rfl⟩⟩⟩
 ·rcases hh with hh|⟨b,o,cs,rfl,i2,i3,i4⟩
  ·exact absurd hh h0
  have hl:0<l.length:=BF.2 h0;refine⟨_,_,Fo hk i3 i4.symm (cm hf l) hl (K4 h1 l) hb lA,((Le.refl W).add _).add _,.inr ⟨h0,_,?_,?_,rfl,AW.aL _ _⟩⟩
  ·simp only[AW.av];omega
  ·simp only[AW.av];omega
def RG{α:Type}{lo z:Nat}{f:α->List ad}{W W':AW}{v:ad}{l:List α}(h:Cl lo W' z f v l)(hp:bN v=true):Cl lo W z f v l:=by
 rcases h with h|⟨h0,B,i1,i2,rfl,i4⟩
 ·exact .inl h
 ·cases hp
def aeV{W:AW}{v:ad}{l:List fq}(h:Qb W v l)(hl:l.length<=10000):∃u W',aY (.func (.func 122) #[] #[]) [v] W=some (u,W')/\Le W W'/\Cl W.next W' 5 dJ u l:=by
 refine Hm (Q:=λu W'=>Le W W'/\Cl W.next W' 5 dJ u l) ?_ mN λu W' hq _ hp=>⟨Le.refl _,RG hq.2 hp⟩
 unfold ir;obtain⟨a,c,rfl,-⟩:=id h;cases a with
 |none=>cases ac9 h;simp(maxDischargeDepth:=9) only[SX,MX,HX,Wg u25,Option.isNone_none];exact .inl ⟨rfl,.inl rfl⟩
 |some a=>obtain⟨u,W',k1,k2,k3⟩:=Ud apX na WT h (by omega) (by omega);simp(maxDischargeDepth:=9) only[SX,MX,HX,Wg u25,Option.isNone_some,aaf,k1,k2,k3]
def ad6{W:AW}{v:ad}{l:List Int}(h:Qa W v l)(hl:l.length<=10000):∃u W',aY (.func (.func 123) #[] #[]) [v] W=some (u,W')/\Le W W'/\Cl W.next W' 1 qI u l:=by
 refine Hm (Q:=λu W'=>Le W W'/\Cl W.next W' 1 qI u l) ?_ rZ λu W' hq _ hp=>⟨Le.refl _,RG hq.2 hp⟩
 unfold mH;obtain⟨a,c,rfl,-⟩:=id h;cases a with
 |none=>cases ac9 h;simp(maxDischargeDepth:=9) only[SX,MX,HX,Wg amv,Option.isNone_none];exact .inl ⟨rfl,.inl rfl⟩
 |some a=>obtain⟨u,W',k1,k2,k3⟩:=Ud Cm iu ol h (by omega) (by omega);simp(maxDischargeDepth:=9) only[SX,MX,HX,Wg amv,Option.isNone_some,Dm,k1,k2,k3]
def avh:Tryz.prog.underlying 32=some (.slice 88):=by kernel_rfl
def auN:(Tryz.prog.info? 88).map (·.bytes)=some 24:=by kernel_rfl
def asC:nX Tryz.prog 88=some 1:=by kernel_rfl
def aub:kG Tryz.prog 88=some (.slice none 0 0):=by kernel_rfl
def SZ(n:Nat):yA [.slice none 0 0] n=List.replicate n (.slice none 0 0):=by
 induction n with
 |zero=>rfl
 |succ n ih=>show [.slice none 0 0]++yA [.slice none 0 0] n=_;rw[ih,uU];rfl
def aos{n:Nat}(h:n<=10000)(W:AW):gh Tryz.prog 32 (.ae (n:Int)) (.ae (n:Int)) W=some (oa W.next n,W.add (.cells (List.replicate n (.slice none 0 0)))):=by
 show gh Tryz.prog 32 (.ae (Int.ofNat n)) (.ae (Int.ofNat n)) W=_;unfold gh;have e:=zn (z:=.slice none 0 0) (len:=n) (n:=1) rfl;have e2:(kF (.slice none 0 0) (n*1)).toList=List.replicate n (.slice none 0 0):=by rw[e];exact SZ n
 have e3:(List.replicate n (Value.slice none 0 0)).all cC=true:=by rw[<-SZ];exact vQ _ _ rfl n
 simp only[avh,asC,aub,auN];rw[e2,an ⟨aR _,by omega,by omega,e3⟩]
def asK(W:AW)(cs:List ad)(p:Nat)(l:List Int):Prop:=∃u,cs[p]? =some u/\Qa W u l
abbrev Qf(W:AW)(v:ad)(qs:List (List Int)):Prop:=Row W 1 (asK W) v qs
def Qf.mono{W W':AW}{v:ad}{qs:List (List Int)}(h:Qf W v qs)(aM:Le W W'):Qf W' v qs:=
 Row.imp h aM λcs p l ⟨u,h1,h2⟩=>⟨u,h1,h2.keep aM⟩
def Qf.get{W:AW}{v:ad}{qs:List (List Int)}(h:Qf W v qs){k:Nat}(hk:k<qs.length):∃b o u,(∀W' kk,nY 1 v (.int kk (k:Int)) W'=some (.pointer (some ⟨b,o,none⟩),W'))/\b<W.next/\Qa W u qs[k]/\∀W',W'.get b=W.get b->bu (.pointer (some ⟨b,o,none⟩)) W'=some (u,W'):=by obtain⟨b,o,cs,h1,h2,h3,u,h4,h5⟩:=h.elem hk;exact⟨b,o,u,h1,h2,h5,λW' hg=>aP (by unfold aH at h3|-;rw[hg];exact h3) h4⟩
abbrev eT(x:cS)(sv sq qq:ad):List ad:=[.ae x.v.sh,.ae x.v.cL,.ae x.v.eO,sv,.ae x.now,sq,qq]
abbrev ky(x:cS)(sv sq qq:ad):ad:=.agg #[.ae x.v.sh,.ae x.v.cL,.ae x.v.eO,sv,.ae x.now,sq,qq]
def nO(W:AW):dg Tryz.prog 34 W=some (ba W.next,W.add (.cells [.ae 0,.ae 0,.ae 0,.slice none 0 0,.ae 0,.slice none 0 0,.slice none 0 0])):=aT (by kernel_rfl) rfl
def EG(x:ad)(W:AW):iU Tryz.prog 34 x W=dF 7 x W:=by kernel_rfl
structure Cop (W0 V:AW) (sb qb:Nat) (bq:Nat->Nat) (x:cS):Prop where
 le:Le W0 V
 lo:W0.next<=sb/\sb<qb/\qb<V.next
 gs:V.get sb=some (.cells (x.st.flatMap dJ))
 qx:QsX V qb bq x.qs
 nq:∀k,W0.next<=bq k/\bq k<V.next/\bq k≠sb/\bq k≠qb
end Go.Proofs.YtmaoneengdafhaaGreatDoor
