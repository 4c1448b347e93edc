/- Layer 11: what the functions compute. -/
import Derived.Test.YtphpnbdfngdinaaTn1b
namespace Go.Proofs.Ytphpnbdfngdinaa.Ab
open Go
set_option linter.all false
abbrev nlTn1_8 : List (List Nat) := [[],[],[0],[0,2],[0,2,3],[],[],[5],[5,7],[5,7,8],[0,2,3,5,7,8],[0,2,3,5,7,8],[0,2,3,5,7,8],[0,2,3,5,7,8],[0,2,3,5,7,8],[0,2,3,5,7,8],[0,2,3,5,7,8],[0,2,3,5,7,8],[0,2,3,5,7,8],[0,2,3,5,7,8],[0,2,3,5,7,8],[0,2,3,5,7,8],[0,2,3,5,7,8],[0,2,3,5,7,8],[0,2,3,5,7,8],[0,2,3,5,7,8],[0,2,3,5,7,8],[0,2,3,5,7,8],[0,2,3,5,7,8],[0,2,3,5,7,8],[0,2,3,5,7,8],[0,2,3,5,7,8],[0,2,3,5,7,8],[0,2,3,5,7,8],[0,2,3,5,7,8],[0,2,3,5,7,8],[0,2,3,5,7,8],[0,2,3,5,7,8],[0,2,3,5,7,8],[0,2,3,5,7,8],[0,2,3,5,7,8],[0,2,3,5,7,8],[0,2,3,5,7,8],[0,2,3,5,7,8],[0,2,3,5,7,8],[0,2,3,5,7,8],[0,2,3,5,7,8],[0,2,3,5,7,8],[0,2,3,5,7,8],[0,2,3,5,7,8],[0,2,3,5,7,8],[0,2,3,5,7,8],[0,2,3,5,7,8],[0,2,3,5,7,8],[0,2,3,5,7,8],[0,2,3,5,7,8],[0,2,3,5,7,8],[0,2,3,5,7,8],[0,2,3,5,7,8],[0,2,3,5,7,8],[0,2,3,5,7,8],[0,2,3,5,7,8],[0,2,3,5,7,8],[0,2,3,5,7,8],[0,2,3,5,7,8]]
abbrev nlTn1_9 : List (List Nat) := [[],[],[0,1],[0,1,2],[0,1,2,3],[],[],[5,6],[5,6,7],[5,6,7,8],[0,1,2,3,4,5,6,7,8,9],[0,1,2,3,4,5,6,7,8,9,10],[0,1,2,3,4,5,6,7,8,9,10,11],[0,1,2,3,4,5,6,7,8,9,10,11],[0,1,2,3,4,5,6,7,8,9,10,11,12,13],[0,1,2,3,4,5,6,7,8,9,10,11,12,13,14],[0,1,2,3,4,5,6,7,8,9,10,11,12,13,14,15],[0,1,2,3,4,5,6,7,8,9,10,11],[0,1,2,3,4,5,6,7,8,9,10,11],[0,1,2,3,4,5,6,7,8,9,10,11,17,18],[0,1,2,3,4,5,6,7,8,9,10,11,17,18,19],[0,1,2,3,4,5,6,7,8,9,10,11,17,18,19,20],[0,1,2,3,4,5,6,7,8,9,10,11,12,13,14,15,16,17,18,19,20,21],[0,1,2,3,4,5,6,7,8,9,10,11,12,13,14,15,16,17,18,19,20,21,22],[0,1,2,3,4,5,6,7,8,9,10,11,12,13,14,15,16,17,18,19,20,21,22,23],[0,1,2,3,4,5,6,7,8,9,10,11,12,13,14,15,16,17,18,19,20,21,22,23,24],[0,1,2,3,4,5,6,7,8,9,10,11,12,13,14,15,16,17,18,19,20,21,22,23,24],[0,1,2,3,4,5,6,7,8,9,10,11,12,13,14,15,16,17,18,19,20,21,22,23,24,25,26],[0,1,2,3,4,5,6,7,8,9,10,11,12,13,14,15,16,17,18,19,20,21,22,23,24,25,26,27],[0,1,2,3,4,5,6,7,8,9,10,11,12,13,14,15,16,17,18,19,20,21,22,23,24,25,26,27,28],[0,1,2,3,4,5,6,7,8,9,10,11,12,13,14,15,16,17,18,19,20,21,22,23,24],[0,1,2,3,4,5,6,7,8,9,10,11,12,13,14,15,16,17,18,19,20,21,22,23,24],[0,1,2,3,4,5,6,7,8,9,10,11,12,13,14,15,16,17,18,19,20,21,22,23,24,30,31],[0,1,2,3,4,5,6,7,8,9,10,11,12,13,14,15,16,17,18,19,20,21,22,23,24,30,31,32],[0,1,2,3,4,5,6,7,8,9,10,11,12,13,14,15,16,17,18,19,20,21,22,23,24,30,31,32,33],[0,1,2,3,4,5,6,7,8,9,10,11,12,13,14,15,16,17,18,19,20,21,22,23,24,25,26,27,28,29,30,31,32,33,34],[0,1,2,3,4,5,6,7,8,9,10,11,12,13,14,15,16,17,18,19,20,21,22,23,24,25,26,27,28,29,30,31,32,33,34,35],[0,1,2,3,4,5,6,7,8,9,10,11,12,13,14,15,16,17,18,19,20,21,22,23,24,25,26,27,28,29,30,31,32,33,34,35,36],[0,1,2,3,4,5,6,7,8,9,10,11,12,13,14,15,16,17,18,19,20,21,22,23,24,25,26,27,28,29,30,31,32,33,34,35,36,37],[0,1,2,3,4,5,6,7,8,9,10,11,12,13,14,15,16,17,18,19,20,21,22,23,24,25,26,27,28,29,30,31,32,33,34,35,36,37,38],[0,1,2,3,4,5,6,7,8,9,10,11,12,13,14,15,16,17,18,19,20,21,22,23,24,25,26,27,28,29,30,31,32,33,34,35,36,37,38,39],[0,1,2,3,4,5,6,7,8,9,10,11,12,13,14,15,16,17,18,19,20,21,22,23,24,25,26,27,28,29,30,31,32,33,34,35,36,37,38,39],[0,1,2,3,4,5,6,7,8,9,10,11,12,13,14,15,16,17,18,19,20,21,22,23,24,25,26,27,28,29,30,31,32,33,34,35,36,37,38,39,40,41],[0,1,2,3,4,5,6,7,8,9,10,11,12,13,14,15,16,17,18,19,20,21,22,23,24,25,26,27,28,29,30,31,32,33,34,35,36,37,38,39,40,41,42],[0,1,2,3,4,5,6,7,8,9,10,11,12,13,14,15,16,17,18,19,20,21,22,23,24,25,26,27,28,29,30,31,32,33,34,35,36,37,38,39,40,41,42,43],[0,1,2,3,4,5,6,7,8,9,10,11,12,13,14,15,16,17,18,19,20,21,22,23,24,25,26,27,28,29,30,31,32,33,34,35,36,37,38,39],[0,1,2,3,4,5,6,7,8,9,10,11,12,13,14,15,16,17,18,19,20,21,22,23,24,25,26,27,28,29,30,31,32,33,34,35,36,37,38,39],[0,1,2,3,4,5,6,7,8,9,10,11,12,13,14,15,16,17,18,19,20,21,22,23,24,25,26,27,28,29,30,31,32,33,34,35,36,37,38,39,45,46],[0,1,2,3,4,5,6,7,8,9,10,11,12,13,14,15,16,17,18,19,20,21,22,23,24,25,26,27,28,29,30,31,32,33,34,35,36,37,38,39,45,46,47],[0,1,2,3,4,5,6,7,8,9,10,11,12,13,14,15,16,17,18,19,20,21,22,23,24,25,26,27,28,29,30,31,32,33,34,35,36,37,38,39,45,46,47,48],[0,1,2,3,4,5,6,7,8,9,10,11,12,13,14,15,16,17,18,19,20,21,22,23,24,25,26,27,28,29,30,31,32,33,34,35,36,37,38,39,40,41,42,43,44,45,46,47,48,49],[0,1,2,3,4,5,6,7,8,9,10,11,12,13,14,15,16,17,18,19,20,21,22,23,24,25,26,27,28,29,30,31,32,33,34,35,36,37,38,39,40,41,42,43,44,45,46,47,48,49,50],[0,1,2,3,4,5,6,7,8,9,10,11,12,13,14,15,16,17,18,19,20,21,22,23,24,25,26,27,28,29,30,31,32,33,34,35,36,37,38,39,40,41,42,43,44,45,46,47,48,49,50,51],[0,1,2,3,4,5,6,7,8,9,10,11,12,13,14,15,16,17,18,19,20,21,22,23,24,25,26,27,28,29,30,31,32,33,34,35,36,37,38,39,40,41,42,43,44,45,46,47,48,49,50,51,52],[0,1,2,3,4,5,6,7,8,9,10,11,12,13,14,15,16,17,18,19,20,21,22,23,24,25,26,27,28,29,30,31,32,33,34,35,36,37,38,39,40,41,42,43,44,45,46,47,48,49,50,51,52,53],[0,1,2,3,4,5,6,7,8,9,10,11,12,13,14,15,16,17,18,19,20,21,22,23,24,25,26,27,28,29,30,31,32,33,34,35,36,37,38,39,40,41,42,43,44,45,46,47,48,49,50,51,52,53],[0,1,2,3,4,5,6,7,8,9,10,11,12,13,14,15,16,17,18,19,20,21,22,23,24,25,26,27,28,29,30,31,32,33,34,35,36,37,38,39,40,41,42,43,44,45,46,47,48,49,50,51,52,53,54,55],[0,1,2,3,4,5,6,7,8,9,10,11,12,13,14,15,16,17,18,19,20,21,22,23,24,25,26,27,28,29,30,31,32,33,34,35,36,37,38,39,40,41,42,43,44,45,46,47,48,49,50,51,52,53,54,55,56],[0,1,2,3,4,5,6,7,8,9,10,11,12,13,14,15,16,17,18,19,20,21,22,23,24,25,26,27,28,29,30,31,32,33,34,35,36,37,38,39,40,41,42,43,44,45,46,47,48,49,50,51,52,53,54,55,56,57],[0,1,2,3,4,5,6,7,8,9,10,11,12,13,14,15,16,17,18,19,20,21,22,23,24,25,26,27,28,29,30,31,32,33,34,35,36,37,38,39,40,41,42,43,44,45,46,47,48,49,50,51,52,53],[0,1,2,3,4,5,6,7,8,9,10,11,12,13,14,15,16,17,18,19,20,21,22,23,24,25,26,27,28,29,30,31,32,33,34,35,36,37,38,39,40,41,42,43,44,45,46,47,48,49,50,51,52,53],[0,1,2,3,4,5,6,7,8,9,10,11,12,13,14,15,16,17,18,19,20,21,22,23,24,25,26,27,28,29,30,31,32,33,34,35,36,37,38,39,40,41,42,43,44,45,46,47,48,49,50,51,52,53,59,60],[0,1,2,3,4,5,6,7,8,9,10,11,12,13,14,15,16,17,18,19,20,21,22,23,24,25,26,27,28,29,30,31,32,33,34,35,36,37,38,39,40,41,42,43,44,45,46,47,48,49,50,51,52,53,59,60,61],[0,1,2,3,4,5,6,7,8,9,10,11,12,13,14,15,16,17,18,19,20,21,22,23,24,25,26,27,28,29,30,31,32,33,34,35,36,37,38,39,40,41,42,43,44,45,46,47,48,49,50,51,52,53,59,60,61,62],[0,1,2,3,4,5,6,7,8,9,10,11,12,13,14,15,16,17,18,19,20,21,22,23,24,25,26,27,28,29,30,31,32,33,34,35,36,37,38,39,40,41,42,43,44,45,46,47,48,49,50,51,52,53],[0,1,2,3,4,5,6,7,8,9,10,11,12,13,14,15,16,17,18,19,20,21,22,23,24,25,26,27,28,29,30,31,32,33,34,35,36,37,38,39,40,41,42,43,44,45,46,47,48,49,50,51,52,53,54,55,56,57,58,59,60,61,62,63,64],[0,1,2,3,4,5,6,7,8,9,10,11,12,13,14,15,16,17,18,19,20,21,22,23,24,25,26,27,28,29,30,31,32,33,34,35,36,37,38,39,40,41,42,43,44,45,46,47,48,49,50,51,52,53,54,55,56,57,58,59,60,61,62,63,64,65],[0,1,2,3,4,5,6,7,8,9,10,11,12,13,14,15,16,17,18,19,20,21,22,23,24,25,26,27,28,29,30,31,32,33,34,35,36,37,38,39,40,41,42,43,44,45,46,47,48,49,50,51,52,53,54,55,56,57,58,59,60,61,62,63,64,65,66]]
abbrev nlTn1_10 : List (List Nat) := [[],[],[0],[0,2],[0,2,3],[],[],[5],[5,7],[5,7,8],[0,2,3,5,7,8],[0,2,3,5,7,8],[0,2,3,5,7,8],[0,2,3,5,7,8],[0,2,3,5,7,8,12],[0,2,3,5,7,8,12,14],[0,2,3,5,7,8,12,14,15],[0,2,3,5,7,8],[0,2,3,5,7,8],[0,2,3,5,7,8,17],[0,2,3,5,7,8,17,19],[0,2,3,5,7,8,17,19,20],[0,2,3,5,7,8,12,14,15,17,19,20],[0,2,3,5,7,8,12,14,15,17,19,20],[0,2,3,5,7,8,12,14,15,17,19,20],[0,2,3,5,7,8,12,14,15,17,19,20],[0,2,3,5,7,8,12,14,15,17,19,20],[0,2,3,5,7,8,12,14,15,17,19,20],[0,2,3,5,7,8,12,14,15,17,19,20],[0,2,3,5,7,8,12,14,15,17,19,20],[0,2,3,5,7,8,12,14,15,17,19,20],[0,2,3,5,7,8,12,14,15,17,19,20],[0,2,3,5,7,8,12,14,15,17,19,20],[0,2,3,5,7,8,12,14,15,17,19,20],[0,2,3,5,7,8,12,14,15,17,19,20],[0,2,3,5,7,8,12,14,15,17,19,20],[0,2,3,5,7,8,12,14,15,17,19,20],[0,2,3,5,7,8,12,14,15,17,19,20],[0,2,3,5,7,8,12,14,15,17,19,20],[0,2,3,5,7,8,12,14,15,17,19,20],[0,2,3,5,7,8,12,14,15,17,19,20],[0,2,3,5,7,8,12,14,15,17,19,20],[0,2,3,5,7,8,12,14,15,17,19,20],[0,2,3,5,7,8,12,14,15,17,19,20],[0,2,3,5,7,8,12,14,15,17,19,20],[0,2,3,5,7,8,12,14,15,17,19,20],[0,2,3,5,7,8,12,14,15,17,19,20],[0,2,3,5,7,8,12,14,15,17,19,20],[0,2,3,5,7,8,12,14,15,17,19,20],[0,2,3,5,7,8,12,14,15,17,19,20],[0,2,3,5,7,8,12,14,15,17,19,20],[0,2,3,5,7,8,12,14,15,17,19,20],[0,2,3,5,7,8,12,14,15,17,19,20],[0,2,3,5,7,8,12,14,15,17,19,20],[0,2,3,5,7,8,12,14,15,17,19,20],[0,2,3,5,7,8,12,14,15,17,19,20],[0,2,3,5,7,8,12,14,15,17,19,20],[0,2,3,5,7,8,12,14,15,17,19,20],[0,2,3,5,7,8,12,14,15,17,19,20],[0,2,3,5,7,8,12,14,15,17,19,20],[0,2,3,5,7,8,12,14,15,17,19,20],[0,2,3,5,7,8,12,14,15,17,19,20],[0,2,3,5,7,8,12,14,15,17,19,20],[0,2,3,5,7,8,12,14,15,17,19,20],[0,2,3,5,7,8,12,14,15,17,19,20]]
abbrev nlTn1_11 : List (List Nat) := [[],[],[0],[0,2],[0,2,3],[],[],[5],[5,7],[5,7,8],[0,2,3,5,7,8],[0,2,3,5,7,8],[0,2,3,5,7,8],[0,2,3,5,7,8],[0,2,3,5,7,8,12],[0,2,3,5,7,8,12,14],[0,2,3,5,7,8,12,14,15],[0,2,3,5,7,8],[0,2,3,5,7,8],[0,2,3,5,7,8,17],[0,2,3,5,7,8,17,19],[0,2,3,5,7,8,17,19,20],[0,2,3,5,7,8,12,14,15,17,19,20],[0,2,3,5,7,8,12,14,15,17,19,20],[0,2,3,5,7,8,12,14,15,17,19,20],[0,2,3,5,7,8,12,14,15,17,19,20],[0,2,3,5,7,8,12,14,15,17,19,20],[0,2,3,5,7,8,12,14,15,17,19,20,25],[0,2,3,5,7,8,12,14,15,17,19,20,25,27],[0,2,3,5,7,8,12,14,15,17,19,20,25,27,28],[0,2,3,5,7,8,12,14,15,17,19,20],[0,2,3,5,7,8,12,14,15,17,19,20],[0,2,3,5,7,8,12,14,15,17,19,20,30],[0,2,3,5,7,8,12,14,15,17,19,20,30,32],[0,2,3,5,7,8,12,14,15,17,19,20,30,32,33],[0,2,3,5,7,8,12,14,15,17,19,20,25,27,28,30,32,33],[0,2,3,5,7,8,12,14,15,17,19,20,25,27,28,30,32,33],[0,2,3,5,7,8,12,14,15,17,19,20,25,27,28,30,32,33],[0,2,3,5,7,8,12,14,15,17,19,20,25,27,28,30,32,33],[0,2,3,5,7,8,12,14,15,17,19,20,25,27,28,30,32,33],[0,2,3,5,7,8,12,14,15,17,19,20,25,27,28,30,32,33],[0,2,3,5,7,8,12,14,15,17,19,20,25,27,28,30,32,33],[0,2,3,5,7,8,12,14,15,17,19,20,25,27,28,30,32,33],[0,2,3,5,7,8,12,14,15,17,19,20,25,27,28,30,32,33],[0,2,3,5,7,8,12,14,15,17,19,20,25,27,28,30,32,33],[0,2,3,5,7,8,12,14,15,17,19,20,25,27,28,30,32,33],[0,2,3,5,7,8,12,14,15,17,19,20,25,27,28,30,32,33],[0,2,3,5,7,8,12,14,15,17,19,20,25,27,28,30,32,33],[0,2,3,5,7,8,12,14,15,17,19,20,25,27,28,30,32,33],[0,2,3,5,7,8,12,14,15,17,19,20,25,27,28,30,32,33],[0,2,3,5,7,8,12,14,15,17,19,20,25,27,28,30,32,33],[0,2,3,5,7,8,12,14,15,17,19,20,25,27,28,30,32,33],[0,2,3,5,7,8,12,14,15,17,19,20,25,27,28,30,32,33],[0,2,3,5,7,8,12,14,15,17,19,20,25,27,28,30,32,33],[0,2,3,5,7,8,12,14,15,17,19,20,25,27,28,30,32,33],[0,2,3,5,7,8,12,14,15,17,19,20,25,27,28,30,32,33],[0,2,3,5,7,8,12,14,15,17,19,20,25,27,28,30,32,33],[0,2,3,5,7,8,12,14,15,17,19,20,25,27,28,30,32,33],[0,2,3,5,7,8,12,14,15,17,19,20,25,27,28,30,32,33],[0,2,3,5,7,8,12,14,15,17,19,20,25,27,28,30,32,33],[0,2,3,5,7,8,12,14,15,17,19,20,25,27,28,30,32,33],[0,2,3,5,7,8,12,14,15,17,19,20,25,27,28,30,32,33],[0,2,3,5,7,8,12,14,15,17,19,20,25,27,28,30,32,33],[0,2,3,5,7,8,12,14,15,17,19,20,25,27,28,30,32,33],[0,2,3,5,7,8,12,14,15,17,19,20,25,27,28,30,32,33]]
abbrev nlTn1_12 : List (List Nat) := [[],[],[0],[0,2],[0,2,3],[],[],[5],[5,7],[5,7,8],[0,2,3,5,7,8],[0,2,3,5,7,8],[0,2,3,5,7,8],[0,2,3,5,7,8],[0,2,3,5,7,8,12],[0,2,3,5,7,8,12,14],[0,2,3,5,7,8,12,14,15],[0,2,3,5,7,8],[0,2,3,5,7,8],[0,2,3,5,7,8,17],[0,2,3,5,7,8,17,19],[0,2,3,5,7,8,17,19,20],[0,2,3,5,7,8,12,14,15,17,19,20],[0,2,3,5,7,8,12,14,15,17,19,20],[0,2,3,5,7,8,12,14,15,17,19,20],[0,2,3,5,7,8,12,14,15,17,19,20],[0,2,3,5,7,8,12,14,15,17,19,20],[0,2,3,5,7,8,12,14,15,17,19,20,25],[0,2,3,5,7,8,12,14,15,17,19,20,25,27],[0,2,3,5,7,8,12,14,15,17,19,20,25,27,28],[0,2,3,5,7,8,12,14,15,17,19,20],[0,2,3,5,7,8,12,14,15,17,19,20],[0,2,3,5,7,8,12,14,15,17,19,20,30],[0,2,3,5,7,8,12,14,15,17,19,20,30,32],[0,2,3,5,7,8,12,14,15,17,19,20,30,32,33],[0,2,3,5,7,8,12,14,15,17,19,20,25,27,28,30,32,33],[0,2,3,5,7,8,12,14,15,17,19,20,25,27,28,30,32,33],[0,2,3,5,7,8,12,14,15,17,19,20,25,27,28,30,32,33],[0,2,3,5,7,8,12,14,15,17,19,20,25,27,28,30,32,33],[0,2,3,5,7,8,12,14,15,17,19,20,25,27,28,30,32,33],[0,2,3,5,7,8,12,14,15,17,19,20,25,27,28,30,32,33],[0,2,3,5,7,8,12,14,15,17,19,20,25,27,28,30,32,33],[0,2,3,5,7,8,12,14,15,17,19,20,25,27,28,30,32,33,40],[0,2,3,5,7,8,12,14,15,17,19,20,25,27,28,30,32,33,40,42],[0,2,3,5,7,8,12,14,15,17,19,20,25,27,28,30,32,33,40,42,43],[0,2,3,5,7,8,12,14,15,17,19,20,25,27,28,30,32,33],[0,2,3,5,7,8,12,14,15,17,19,20,25,27,28,30,32,33],[0,2,3,5,7,8,12,14,15,17,19,20,25,27,28,30,32,33,45],[0,2,3,5,7,8,12,14,15,17,19,20,25,27,28,30,32,33,45,47],[0,2,3,5,7,8,12,14,15,17,19,20,25,27,28,30,32,33,45,47,48],[0,2,3,5,7,8,12,14,15,17,19,20,25,27,28,30,32,33,40,42,43,45,47,48],[0,2,3,5,7,8,12,14,15,17,19,20,25,27,28,30,32,33,40,42,43,45,47,48],[0,2,3,5,7,8,12,14,15,17,19,20,25,27,28,30,32,33,40,42,43,45,47,48],[0,2,3,5,7,8,12,14,15,17,19,20,25,27,28,30,32,33,40,42,43,45,47,48],[0,2,3,5,7,8,12,14,15,17,19,20,25,27,28,30,32,33,40,42,43,45,47,48],[0,2,3,5,7,8,12,14,15,17,19,20,25,27,28,30,32,33,40,42,43,45,47,48],[0,2,3,5,7,8,12,14,15,17,19,20,25,27,28,30,32,33,40,42,43,45,47,48],[0,2,3,5,7,8,12,14,15,17,19,20,25,27,28,30,32,33,40,42,43,45,47,48],[0,2,3,5,7,8,12,14,15,17,19,20,25,27,28,30,32,33,40,42,43,45,47,48],[0,2,3,5,7,8,12,14,15,17,19,20,25,27,28,30,32,33,40,42,43,45,47,48],[0,2,3,5,7,8,12,14,15,17,19,20,25,27,28,30,32,33,40,42,43,45,47,48],[0,2,3,5,7,8,12,14,15,17,19,20,25,27,28,30,32,33,40,42,43,45,47,48],[0,2,3,5,7,8,12,14,15,17,19,20,25,27,28,30,32,33,40,42,43,45,47,48],[0,2,3,5,7,8,12,14,15,17,19,20,25,27,28,30,32,33,40,42,43,45,47,48],[0,2,3,5,7,8,12,14,15,17,19,20,25,27,28,30,32,33,40,42,43,45,47,48]]
abbrev nlTn1_13 : List (List Nat) := [[],[],[0],[0,2],[0,2,3],[],[],[5],[5,7],[5,7,8],[0,2,3,5,7,8],[0,2,3,5,7,8],[0,2,3,5,7,8],[0,2,3,5,7,8],[0,2,3,5,7,8,12],[0,2,3,5,7,8,12,14],[0,2,3,5,7,8,12,14,15],[0,2,3,5,7,8],[0,2,3,5,7,8],[0,2,3,5,7,8,17],[0,2,3,5,7,8,17,19],[0,2,3,5,7,8,17,19,20],[0,2,3,5,7,8,12,14,15,17,19,20],[0,2,3,5,7,8,12,14,15,17,19,20],[0,2,3,5,7,8,12,14,15,17,19,20],[0,2,3,5,7,8,12,14,15,17,19,20],[0,2,3,5,7,8,12,14,15,17,19,20],[0,2,3,5,7,8,12,14,15,17,19,20,25],[0,2,3,5,7,8,12,14,15,17,19,20,25,27],[0,2,3,5,7,8,12,14,15,17,19,20,25,27,28],[0,2,3,5,7,8,12,14,15,17,19,20],[0,2,3,5,7,8,12,14,15,17,19,20],[0,2,3,5,7,8,12,14,15,17,19,20,30],[0,2,3,5,7,8,12,14,15,17,19,20,30,32],[0,2,3,5,7,8,12,14,15,17,19,20,30,32,33],[0,2,3,5,7,8,12,14,15,17,19,20,25,27,28,30,32,33],[0,2,3,5,7,8,12,14,15,17,19,20,25,27,28,30,32,33],[0,2,3,5,7,8,12,14,15,17,19,20,25,27,28,30,32,33],[0,2,3,5,7,8,12,14,15,17,19,20,25,27,28,30,32,33],[0,2,3,5,7,8,12,14,15,17,19,20,25,27,28,30,32,33],[0,2,3,5,7,8,12,14,15,17,19,20,25,27,28,30,32,33],[0,2,3,5,7,8,12,14,15,17,19,20,25,27,28,30,32,33],[0,2,3,5,7,8,12,14,15,17,19,20,25,27,28,30,32,33,40],[0,2,3,5,7,8,12,14,15,17,19,20,25,27,28,30,32,33,40,42],[0,2,3,5,7,8,12,14,15,17,19,20,25,27,28,30,32,33,40,42,43],[0,2,3,5,7,8,12,14,15,17,19,20,25,27,28,30,32,33],[0,2,3,5,7,8,12,14,15,17,19,20,25,27,28,30,32,33],[0,2,3,5,7,8,12,14,15,17,19,20,25,27,28,30,32,33,45],[0,2,3,5,7,8,12,14,15,17,19,20,25,27,28,30,32,33,45,47],[0,2,3,5,7,8,12,14,15,17,19,20,25,27,28,30,32,33,45,47,48],[0,2,3,5,7,8,12,14,15,17,19,20,25,27,28,30,32,33,40,42,43,45,47,48],[0,2,3,5,7,8,12,14,15,17,19,20,25,27,28,30,32,33,40,42,43,45,47,48],[0,2,3,5,7,8,12,14,15,17,19,20,25,27,28,30,32,33,40,42,43,45,47,48],[0,2,3,5,7,8,12,14,15,17,19,20,25,27,28,30,32,33,40,42,43,45,47,48],[0,2,3,5,7,8,12,14,15,17,19,20,25,27,28,30,32,33,40,42,43,45,47,48],[0,2,3,5,7,8,12,14,15,17,19,20,25,27,28,30,32,33,40,42,43,45,47,48],[0,2,3,5,7,8,12,14,15,17,19,20,25,27,28,30,32,33,40,42,43,45,47,48,54],[0,2,3,5,7,8,12,14,15,17,19,20,25,27,28,30,32,33,40,42,43,45,47,48,54,56],[0,2,3,5,7,8,12,14,15,17,19,20,25,27,28,30,32,33,40,42,43,45,47,48,54,56,57],[0,2,3,5,7,8,12,14,15,17,19,20,25,27,28,30,32,33,40,42,43,45,47,48],[0,2,3,5,7,8,12,14,15,17,19,20,25,27,28,30,32,33,40,42,43,45,47,48],[0,2,3,5,7,8,12,14,15,17,19,20,25,27,28,30,32,33,40,42,43,45,47,48,59],[0,2,3,5,7,8,12,14,15,17,19,20,25,27,28,30,32,33,40,42,43,45,47,48,59,61],[0,2,3,5,7,8,12,14,15,17,19,20,25,27,28,30,32,33,40,42,43,45,47,48,59,61,62],[0,2,3,5,7,8,12,14,15,17,19,20,25,27,28,30,32,33,40,42,43,45,47,48]]
abbrev nlTn1_14 : List (List Nat) := [[],[],[0],[0,2],[0,2,3],[],[],[5],[5,7],[5,7,8],[0,2,3,5,7,8],[0,2,3,5,7,8],[0,2,3,5,7,8],[0,2,3,5,7,8],[0,2,3,5,7,8,12],[0,2,3,5,7,8,12,14],[0,2,3,5,7,8,12,14,15],[0,2,3,5,7,8],[0,2,3,5,7,8],[0,2,3,5,7,8,17],[0,2,3,5,7,8,17,19],[0,2,3,5,7,8,17,19,20],[0,2,3,5,7,8,12,14,15,17,19,20],[0,2,3,5,7,8,12,14,15,17,19,20],[0,2,3,5,7,8,12,14,15,17,19,20],[0,2,3,5,7,8,12,14,15,17,19,20],[0,2,3,5,7,8,12,14,15,17,19,20],[0,2,3,5,7,8,12,14,15,17,19,20,25],[0,2,3,5,7,8,12,14,15,17,19,20,25,27],[0,2,3,5,7,8,12,14,15,17,19,20,25,27,28],[0,2,3,5,7,8,12,14,15,17,19,20],[0,2,3,5,7,8,12,14,15,17,19,20],[0,2,3,5,7,8,12,14,15,17,19,20,30],[0,2,3,5,7,8,12,14,15,17,19,20,30,32],[0,2,3,5,7,8,12,14,15,17,19,20,30,32,33],[0,2,3,5,7,8,12,14,15,17,19,20,25,27,28,30,32,33],[0,2,3,5,7,8,12,14,15,17,19,20,25,27,28,30,32,33],[0,2,3,5,7,8,12,14,15,17,19,20,25,27,28,30,32,33],[0,2,3,5,7,8,12,14,15,17,19,20,25,27,28,30,32,33],[0,2,3,5,7,8,12,14,15,17,19,20,25,27,28,30,32,33],[0,2,3,5,7,8,12,14,15,17,19,20,25,27,28,30,32,33],[0,2,3,5,7,8,12,14,15,17,19,20,25,27,28,30,32,33],[0,2,3,5,7,8,12,14,15,17,19,20,25,27,28,30,32,33],[0,2,3,5,7,8,12,14,15,17,19,20,25,27,28,30,32,33],[0,2,3,5,7,8,12,14,15,17,19,20,25,27,28,30,32,33],[0,2,3,5,7,8,12,14,15,17,19,20,25,27,28,30,32,33],[0,2,3,5,7,8,12,14,15,17,19,20,25,27,28,30,32,33],[0,2,3,5,7,8,12,14,15,17,19,20,25,27,28,30,32,33],[0,2,3,5,7,8,12,14,15,17,19,20,25,27,28,30,32,33],[0,2,3,5,7,8,12,14,15,17,19,20,25,27,28,30,32,33],[0,2,3,5,7,8,12,14,15,17,19,20,25,27,28,30,32,33],[0,2,3,5,7,8,12,14,15,17,19,20,25,27,28,30,32,33],[0,2,3,5,7,8,12,14,15,17,19,20,25,27,28,30,32,33],[0,2,3,5,7,8,12,14,15,17,19,20,25,27,28,30,32,33],[0,2,3,5,7,8,12,14,15,17,19,20,25,27,28,30,32,33],[0,2,3,5,7,8,12,14,15,17,19,20,25,27,28,30,32,33],[0,2,3,5,7,8,12,14,15,17,19,20,25,27,28,30,32,33,54],[0,2,3,5,7,8,12,14,15,17,19,20,25,27,28,30,32,33,54,56],[0,2,3,5,7,8,12,14,15,17,19,20,25,27,28,30,32,33,54,56,57],[0,2,3,5,7,8,12,14,15,17,19,20,25,27,28,30,32,33],[0,2,3,5,7,8,12,14,15,17,19,20,25,27,28,30,32,33],[0,2,3,5,7,8,12,14,15,17,19,20,25,27,28,30,32,33,59],[0,2,3,5,7,8,12,14,15,17,19,20,25,27,28,30,32,33,59,61],[0,2,3,5,7,8,12,14,15,17,19,20,25,27,28,30,32,33,59,61,62],[0,2,3,5,7,8,12,14,15,17,19,20,25,27,28,30,32,33]]
noncomputable def r11_Exps_b (g0 : (List TApiExpr) → (List TApiExpr) → (Bool) → Option (Bool)) (a0 : List TApiExpr) (a1 : List TApiExpr) (a2 : Bool) : Option (Bool) :=
  (bif ((a0.length : Int) != (a1.length : Int)) then some false else (Option.bind (α := (Unit) ⊕ (Bool)) (loopM (fun (s132 : Int) => (bif (decide (s132 < (a0.length : Int))) then (Option.bind (α := Bool) ((idx a0 s132).bind fun x238 => ((idx a1 s132).bind fun x239 => (bif (x238.gOp != x239.gOp) then some true else ((idx a0 s132).bind fun x241 => ((idx a1 s132).bind fun x242 => (bif (x241.gN != x242.gN) then some true else ((idx a0 s132).bind fun x244 => ((idx a1 s132).bind fun x245 => (bif (!decide (x244.gName = x245.gName)) then some true else (bif a2 then ((idx a0 s132).bind fun x248 => ((idx a1 s132).bind fun x249 => (bif (x248.gAt != x249.gAt) then some true else ((idx a0 s132).bind fun x251 => ((idx a1 s132).bind fun x252 => ((g0 x251.gKids x252.gKids a2).bind fun x253 => some (!x253))))))) else ((idx a0 s132).bind fun x254 => ((idx a1 s132).bind fun x255 => ((g0 x254.gKids x255.gKids a2).bind fun x256 => some (!x256)))))))))))))) fun y237 => (bif y237 then some (.done (.inr false)) else some (.next (IntKind.i64.wrap (s132 + (1 : Int)))))) else some (.done (.inl ())))) (0 : Int)) (Sum.elim (fun y131 => some true) (fun r => some r))))
set_option maxRecDepth 100000 in
set_option maxHeartbeats 2000000 in
theorem r11_Exps_b_ok (g0 : (List TApiExpr) → (List TApiExpr) → (Bool) → Option (Bool)) (hg0 : ∀ (a0 : List TApiExpr) (a1 : List TApiExpr) (a2 : Bool) (r : Bool) (h0 : g0 a0 a1 a2 = some r), CallsD Try.prog 46 [.lst 5 (a0.map eTApiExpr) .no, .lst 5 (a1.map eTApiExpr) .no, .v (.bool a2)] [] [] (fun d h k => d = .v (.bool r) ∧ h = [] ∧ k = [])) (a0 : List TApiExpr) (a1 : List TApiExpr) (a2 : Bool) (r : Bool) (h0 : r11_Exps_b g0 a0 a1 a2 = some r) : CallsD Try.prog 46 [.lst 5 (a0.map eTApiExpr) .no, .lst 5 (a1.map eTApiExpr) .no, .v (.bool a2)] [] [] (fun d h k => d = .v (.bool r) ∧ h = [] ∧ k = []) := by
  have hm := yes_of h0
  unfold r11_Exps_b at hm
  clear h0
  refine enterX htab Try.func46 rfl rfl rfl rfl rfl (fun C => ?_)
  refine wpD_seq ?_
  refine wpD_region ?_
  refine p_pure htab rfl rfl rfl rfl ?_
  refine ops_nil ?_
  refine then_normal ?_
  refine wpD_seq ?_
  refine wpD_seq ?_
  refine wpD_region ?_
  refine p_pure htab rfl rfl rfl rfl ?_
  refine p_lenL htab rfl rfl rfl rfl rfl rfl rfl (by first | exact map_len | rfl) ?_
  refine p_pure htab rfl rfl rfl rfl ?_
  refine p_lenL htab rfl rfl rfl rfl rfl rfl rfl (by first | exact map_len | rfl) ?_
  refine p_pure htab rfl rfl rfl rfl ?_
  refine ops_nil ?_
  refine then_normal ?_
  refine wpD_cond rfl (fun hc2 => ?_) (fun hc2 => ?_)
  · replace hm := yes_t hc2 hm
    refine wpD_seq ?_
    refine wpD_region ?_
    refine p_pure htab rfl rfl rfl rfl ?_
    refine ops_nil ?_
    refine then_normal ?_
    refine wpD_ret ?_
    refine then_ret ?_
    have er3 := yes_eq hm; subst er3
    refine retX.of (s' := ⟨[(6, .v (.bool false))], [], []⟩) (WkS.perm (WkS.cons rfl (Wk.refl _) (WkS.nil)) (List.Perm.refl _) (List.Perm.refl _)) (retD_mk (hh := []) (.inl rfl) (resL_cons (resOne_tmp rfl) (resL_nil)) (List.nil_sublist _) (List.Sublist.refl _) ?_)
    exact ⟨rfl, rfl, rfl⟩
  · replace hm := yes_f hc2 hm
    refine wpD_skip ?_
    refine then_normal ?_
    refine wpD_seq ?_
    refine wpD_seq ?_
    refine wpD_region ?_
    refine p_pure htab rfl rfl rfl rfl ?_
    refine ops_nil ?_
    refine then_normal ?_
    obtain ⟨x131, q131, ho131⟩ := yes_bind hm
    refine wpD_midX (τ := Unit) (Y := Unit) (fun y131 z131 => (⟨[], [], []⟩ : S)) x131 ?_ ?_
    · clear hm; have hm := yes_of q131
      refine wpD_block ?_
      obtain ⟨u132, hl132, hq132⟩ := yes_m hm
      refine loop_M (Y := Unit) hl132 (fun s132 z132 => (⟨[(0, .lst 5 (a0.map eTApiExpr) .no), (1, .lst 5 (a1.map eTApiExpr) .no), (2, .v (.bool a2)), (7, .v (.int .i64 s132))], [], []⟩ : S)) ?_ ?_
      · skip
        exact WkX.of () (WkS.perm (WkS.cons rfl (Wk.refl _) (WkS.cons rfl (Wk.refl _) (WkS.cons rfl (Wk.refl _) (WkS.cons rfl (Wk.refl _) (WkS.nil))))) (List.Perm.refl _) (List.Perm.refl _))
      · intro G132 s132 z132 hm
        refine wpD_seq ?_
        refine wpD_seq ?_
        refine wpD_region ?_
        refine p_pure htab rfl rfl rfl rfl ?_
        refine p_pure htab rfl rfl rfl rfl ?_
        refine p_lenL htab rfl rfl rfl rfl rfl rfl rfl (by first | exact map_len | rfl) ?_
        refine p_pure htab rfl rfl rfl rfl ?_
        refine ops_nil ?_
        refine then_normal ?_
        refine wpD_cond rfl (fun hc217 => ?_) (fun hc217 => ?_)
        · replace hm := yes_t hc217 hm
          refine wpD_skip ?_
          refine then_normal ?_
          refine wpD_seq ?_
          refine wpD_block ?_
          refine wpD_seq ?_
          obtain ⟨y237, q237, ho237⟩ := yes_bind hm
          refine wpD_mid (Y := Unit) (fun z237 => (⟨[(0, .lst 5 (a0.map eTApiExpr) .no), (1, .lst 5 (a1.map eTApiExpr) .no), (2, .v (.bool a2)), (7, .v (.int .i64 s132)), (86, .v (.bool y237))], [], []⟩ : S)) ?_ ?_
          · clear hm; have hm := yes_of q237
            obtain ⟨x238, q238, hm⟩ := yes_bind hm
            obtain ⟨x239, q239, hm⟩ := yes_bind hm
            refine bycB (x238.gOp != x239.gOp) (fun hs240 => ?_) (fun hs240 => ?_)
            · replace hm := yes_t hs240 hm
              refine wpD_draws 65 [] nlTn1_8 [0,2,3,5,7,8] nlTn1_9 (by kernel_rfl) (by kernel_rfl) (by kernel_rfl) (by rfl) (by rfl) (by kernel_rfl) ?_
              apply Exists.intro
              apply Exists.intro
              apply Exists.intro
              apply Exists.intro
              apply Exists.intro
              apply Exists.intro
              intro bs
              refine z_e rfl rfl (ex_pure htab rfl) rfl rfl rfl rfl rfl rfl ?_
              refine z_q rfl rfl (ex_pure htab rfl) rfl rfl rfl rfl rfl rfl ?_
              refine z_e rfl rfl (Ex.wk (x_elem htab rfl rfl rfl rfl rfl rfl rfl (idx_nonneg q238) (idx_map q238)) (Wk.of_eq (congrArg D.el (eTApiExpr_eq x238)))) rfl rfl rfl rfl rfl rfl ?_
              refine z_e rfl rfl (ex_pure htab rfl) rfl rfl rfl rfl rfl rfl ?_
              refine z_qM rfl rfl (xm_loadEl htab rfl rfl rfl rfl rfl) rfl rfl rfl rfl rfl rfl ?_
              refine z_e rfl rfl (ex_pure htab rfl) rfl rfl rfl rfl rfl rfl ?_
              refine z_q rfl rfl (ex_pure htab rfl) rfl rfl rfl rfl rfl rfl ?_
              refine z_e rfl rfl (Ex.wk (x_elem htab rfl rfl rfl rfl rfl rfl rfl (idx_nonneg q239) (idx_map q239)) (Wk.of_eq (congrArg D.el (eTApiExpr_eq x239)))) rfl rfl rfl rfl rfl rfl ?_
              refine z_e rfl rfl (ex_pure htab rfl) rfl rfl rfl rfl rfl rfl ?_
              refine z_qM rfl rfl (xm_loadEl htab rfl rfl rfl rfl rfl) rfl rfl rfl rfl rfl rfl ?_
              refine z_q rfl rfl (ex_pure htab rfl) rfl rfl rfl rfl rfl rfl ?_
              refine z_q rfl rfl (ex_pure htab rfl) rfl rfl rfl rfl rfl rfl ?_
              refine z_known (j := 30) (b' := true) rfl hs240 ?_
              refine z_skip rfl rfl rfl rfl ?_
              refine z_skip rfl rfl rfl rfl ?_
              refine z_skip rfl rfl rfl rfl ?_
              refine z_skip rfl rfl rfl rfl ?_
              refine z_skip rfl rfl rfl rfl ?_
              refine z_skip rfl rfl rfl rfl ?_
              refine z_skip rfl rfl rfl rfl ?_
              refine z_skip rfl rfl rfl rfl ?_
              refine z_skip rfl rfl rfl rfl ?_
              refine z_skip rfl rfl rfl rfl ?_
              refine z_skip rfl rfl rfl rfl ?_
              refine z_q rfl rfl (x_pickT rfl rfl rfl) rfl rfl rfl rfl rfl rfl ?_
              refine z_q rfl rfl (ex_pure htab rfl) rfl rfl rfl rfl rfl rfl ?_
              refine z_skip rfl rfl rfl rfl ?_
              refine z_skip rfl rfl rfl rfl ?_
              refine z_skip rfl rfl rfl rfl ?_
              refine z_skip rfl rfl rfl rfl ?_
              refine z_skip rfl rfl rfl rfl ?_
              refine z_skip rfl rfl rfl rfl ?_
              refine z_skip rfl rfl rfl rfl ?_
              refine z_skip rfl rfl rfl rfl ?_
              refine z_skip rfl rfl rfl rfl ?_
              refine z_skip rfl rfl rfl rfl ?_
              refine z_skip rfl rfl rfl rfl ?_
              refine z_q rfl rfl (x_pickT rfl rfl rfl) rfl rfl rfl rfl rfl rfl ?_
              refine z_q rfl rfl (ex_pure htab rfl) rfl rfl rfl rfl rfl rfl ?_
              refine z_skip rfl rfl rfl rfl ?_
              refine z_skip rfl rfl rfl rfl ?_
              refine z_skip rfl rfl rfl rfl ?_
              refine z_skip rfl rfl rfl rfl ?_
              refine z_skip rfl rfl rfl rfl ?_
              refine z_skip rfl rfl rfl rfl ?_
              refine z_skip rfl rfl rfl rfl ?_
              refine z_skip rfl rfl rfl rfl ?_
              refine z_skip rfl rfl rfl rfl ?_
              refine z_skip rfl rfl rfl rfl ?_
              refine z_skip rfl rfl rfl rfl ?_
              refine z_skip rfl rfl rfl rfl ?_
              refine z_skip rfl rfl rfl rfl ?_
              refine z_skip rfl rfl rfl rfl ?_
              refine z_q rfl rfl (x_pickT rfl rfl rfl) rfl rfl rfl rfl rfl rfl ?_
              refine z_q rfl rfl (ex_pure htab rfl) rfl rfl rfl rfl rfl rfl ?_
              refine z_skip rfl rfl rfl rfl ?_
              refine z_skip rfl rfl rfl rfl ?_
              refine z_skip rfl rfl rfl rfl ?_
              refine z_skip rfl rfl rfl rfl ?_
              refine z_skip rfl rfl rfl rfl ?_
              refine z_skip rfl rfl rfl rfl ?_
              refine z_skip rfl rfl rfl rfl ?_
              refine z_skip rfl rfl rfl rfl ?_
              refine z_skip rfl rfl rfl rfl ?_
              refine z_skip rfl rfl rfl rfl ?_
              refine z_skip rfl rfl rfl rfl ?_
              refine z_nil rfl rfl (fun e he => by simp [isAl] at he) ?_
              refine p_skip rfl rfl rfl ?_
              refine p_skip rfl rfl rfl ?_
              refine p_pickT rfl rfl rfl rfl rfl rfl ?_
              refine ops_nil ?_
              have e237 := yes_eq hm; subst e237
              refine ⟨rfl, ?_⟩
              exact WkX.of () (WkS.perm (WkS.cons rfl (Wk.refl _) (WkS.cons rfl (Wk.refl _) (WkS.cons rfl (Wk.refl _) (WkS.cons rfl (Wk.refl _) (WkS.cons rfl (Wk.refl _) (WkS.nil)))))) (List.Perm.refl _) (List.Perm.refl _))
            · replace hm := yes_f hs240 hm
              obtain ⟨x241, q241, hm⟩ := yes_bind hm
              obtain ⟨x242, q242, hm⟩ := yes_bind hm
              refine bycB (x241.gN != x242.gN) (fun hs243 => ?_) (fun hs243 => ?_)
              · replace hm := yes_t hs243 hm
                refine wpD_draws 65 [] nlTn1_10 [0,2,3,5,7,8,12,14,15,17,19,20] nlTn1_9 (by kernel_rfl) (by kernel_rfl) (by kernel_rfl) (by rfl) (by rfl) (by kernel_rfl) ?_
                apply Exists.intro
                apply Exists.intro
                apply Exists.intro
                apply Exists.intro
                apply Exists.intro
                apply Exists.intro
                apply Exists.intro
                apply Exists.intro
                apply Exists.intro
                apply Exists.intro
                apply Exists.intro
                apply Exists.intro
                intro bs
                refine z_e rfl rfl (ex_pure htab rfl) rfl rfl rfl rfl rfl rfl ?_
                refine z_q rfl rfl (ex_pure htab rfl) rfl rfl rfl rfl rfl rfl ?_
                refine z_e rfl rfl (Ex.wk (x_elem htab rfl rfl rfl rfl rfl rfl rfl (idx_nonneg q238) (idx_map q238)) (Wk.of_eq (congrArg D.el (eTApiExpr_eq x238)))) rfl rfl rfl rfl rfl rfl ?_
                refine z_e rfl rfl (ex_pure htab rfl) rfl rfl rfl rfl rfl rfl ?_
                refine z_qM rfl rfl (xm_loadEl htab rfl rfl rfl rfl rfl) rfl rfl rfl rfl rfl rfl ?_
                refine z_e rfl rfl (ex_pure htab rfl) rfl rfl rfl rfl rfl rfl ?_
                refine z_q rfl rfl (ex_pure htab rfl) rfl rfl rfl rfl rfl rfl ?_
                refine z_e rfl rfl (Ex.wk (x_elem htab rfl rfl rfl rfl rfl rfl rfl (idx_nonneg q239) (idx_map q239)) (Wk.of_eq (congrArg D.el (eTApiExpr_eq x239)))) rfl rfl rfl rfl rfl rfl ?_
                refine z_e rfl rfl (ex_pure htab rfl) rfl rfl rfl rfl rfl rfl ?_
                refine z_qM rfl rfl (xm_loadEl htab rfl rfl rfl rfl rfl) rfl rfl rfl rfl rfl rfl ?_
                refine z_q rfl rfl (ex_pure htab rfl) rfl rfl rfl rfl rfl rfl ?_
                refine z_q rfl rfl (ex_pure htab rfl) rfl rfl rfl rfl rfl rfl ?_
                refine z_known (j := 30) (b' := false) rfl hs240 ?_
                refine z_e rfl rfl (ex_pure htab rfl) rfl rfl rfl rfl rfl rfl ?_
                refine z_q rfl rfl (ex_pure htab rfl) rfl rfl rfl rfl rfl rfl ?_
                refine z_e rfl rfl (Ex.wk (x_elem htab rfl rfl rfl rfl rfl rfl rfl (idx_nonneg q241) (idx_map q241)) (Wk.of_eq (congrArg D.el (eTApiExpr_eq x241)))) rfl rfl rfl rfl rfl rfl ?_
                refine z_e rfl rfl (ex_pure htab rfl) rfl rfl rfl rfl rfl rfl ?_
                refine z_qM rfl rfl (xm_loadEl htab rfl rfl rfl rfl rfl) rfl rfl rfl rfl rfl rfl ?_
                refine z_e rfl rfl (ex_pure htab rfl) rfl rfl rfl rfl rfl rfl ?_
                refine z_q rfl rfl (ex_pure htab rfl) rfl rfl rfl rfl rfl rfl ?_
                refine z_e rfl rfl (Ex.wk (x_elem htab rfl rfl rfl rfl rfl rfl rfl (idx_nonneg q242) (idx_map q242)) (Wk.of_eq (congrArg D.el (eTApiExpr_eq x242)))) rfl rfl rfl rfl rfl rfl ?_
                refine z_e rfl rfl (ex_pure htab rfl) rfl rfl rfl rfl rfl rfl ?_
                refine z_qM rfl rfl (xm_loadEl htab rfl rfl rfl rfl rfl) rfl rfl rfl rfl rfl rfl ?_
                refine z_q rfl rfl (ex_pure htab rfl) rfl rfl rfl rfl rfl rfl ?_
                refine z_q rfl rfl (x_pickF rfl rfl rfl) rfl rfl rfl rfl rfl rfl ?_
                refine z_q rfl rfl (ex_pure htab rfl) rfl rfl rfl rfl rfl rfl ?_
                refine z_known (j := 43) (b' := true) rfl hs243 ?_
                refine z_skip rfl rfl rfl rfl ?_
                refine z_skip rfl rfl rfl rfl ?_
                refine z_skip rfl rfl rfl rfl ?_
                refine z_skip rfl rfl rfl rfl ?_
                refine z_skip rfl rfl rfl rfl ?_
                refine z_skip rfl rfl rfl rfl ?_
                refine z_skip rfl rfl rfl rfl ?_
                refine z_skip rfl rfl rfl rfl ?_
                refine z_skip rfl rfl rfl rfl ?_
                refine z_skip rfl rfl rfl rfl ?_
                refine z_skip rfl rfl rfl rfl ?_
                refine z_q rfl rfl (x_pickT rfl rfl rfl) rfl rfl rfl rfl rfl rfl ?_
                refine z_q rfl rfl (ex_pure htab rfl) rfl rfl rfl rfl rfl rfl ?_
                refine z_skip rfl rfl rfl rfl ?_
                refine z_skip rfl rfl rfl rfl ?_
                refine z_skip rfl rfl rfl rfl ?_
                refine z_skip rfl rfl rfl rfl ?_
                refine z_skip rfl rfl rfl rfl ?_
                refine z_skip rfl rfl rfl rfl ?_
                refine z_skip rfl rfl rfl rfl ?_
                refine z_skip rfl rfl rfl rfl ?_
                refine z_skip rfl rfl rfl rfl ?_
                refine z_skip rfl rfl rfl rfl ?_
                refine z_skip rfl rfl rfl rfl ?_
                refine z_skip rfl rfl rfl rfl ?_
                refine z_skip rfl rfl rfl rfl ?_
                refine z_skip rfl rfl rfl rfl ?_
                refine z_q rfl rfl (x_pickT rfl rfl rfl) rfl rfl rfl rfl rfl rfl ?_
                refine z_q rfl rfl (ex_pure htab rfl) rfl rfl rfl rfl rfl rfl ?_
                refine z_skip rfl rfl rfl rfl ?_
                refine z_skip rfl rfl rfl rfl ?_
                refine z_skip rfl rfl rfl rfl ?_
                refine z_skip rfl rfl rfl rfl ?_
                refine z_skip rfl rfl rfl rfl ?_
                refine z_skip rfl rfl rfl rfl ?_
                refine z_skip rfl rfl rfl rfl ?_
                refine z_skip rfl rfl rfl rfl ?_
                refine z_skip rfl rfl rfl rfl ?_
                refine z_skip rfl rfl rfl rfl ?_
                refine z_skip rfl rfl rfl rfl ?_
                refine z_nil rfl rfl (fun e he => by simp [isAl] at he) ?_
                refine p_skip rfl rfl rfl ?_
                refine p_skip rfl rfl rfl ?_
                refine p_pickT rfl rfl rfl rfl rfl rfl ?_
                refine ops_nil ?_
                have e237 := yes_eq hm; subst e237
                refine ⟨rfl, ?_⟩
                exact WkX.of () (WkS.perm (WkS.cons rfl (Wk.refl _) (WkS.cons rfl (Wk.refl _) (WkS.cons rfl (Wk.refl _) (WkS.cons rfl (Wk.refl _) (WkS.cons rfl (Wk.refl _) (WkS.nil)))))) (List.Perm.refl _) (List.Perm.refl _))
              · replace hm := yes_f hs243 hm
                obtain ⟨x244, q244, hm⟩ := yes_bind hm
                obtain ⟨x245, q245, hm⟩ := yes_bind hm
                refine bycB (!decide (x244.gName = x245.gName)) (fun hs246 => ?_) (fun hs246 => ?_)
                · replace hm := yes_t hs246 hm
                  refine wpD_draws 65 [] nlTn1_11 [0,2,3,5,7,8,12,14,15,17,19,20,25,27,28,30,32,33] nlTn1_9 (by kernel_rfl) (by kernel_rfl) (by kernel_rfl) (by rfl) (by rfl) (by kernel_rfl) ?_
                  apply Exists.intro
                  apply Exists.intro
                  apply Exists.intro
                  apply Exists.intro
                  apply Exists.intro
                  apply Exists.intro
                  apply Exists.intro
                  apply Exists.intro
                  apply Exists.intro
                  apply Exists.intro
                  apply Exists.intro
                  apply Exists.intro
                  apply Exists.intro
                  apply Exists.intro
                  apply Exists.intro
                  apply Exists.intro
                  apply Exists.intro
                  apply Exists.intro
                  intro bs
                  refine z_e rfl rfl (ex_pure htab rfl) rfl rfl rfl rfl rfl rfl ?_
                  refine z_q rfl rfl (ex_pure htab rfl) rfl rfl rfl rfl rfl rfl ?_
                  refine z_e rfl rfl (Ex.wk (x_elem htab rfl rfl rfl rfl rfl rfl rfl (idx_nonneg q238) (idx_map q238)) (Wk.of_eq (congrArg D.el (eTApiExpr_eq x238)))) rfl rfl rfl rfl rfl rfl ?_
                  refine z_e rfl rfl (ex_pure htab rfl) rfl rfl rfl rfl rfl rfl ?_
                  refine z_qM rfl rfl (xm_loadEl htab rfl rfl rfl rfl rfl) rfl rfl rfl rfl rfl rfl ?_
                  refine z_e rfl rfl (ex_pure htab rfl) rfl rfl rfl rfl rfl rfl ?_
                  refine z_q rfl rfl (ex_pure htab rfl) rfl rfl rfl rfl rfl rfl ?_
                  refine z_e rfl rfl (Ex.wk (x_elem htab rfl rfl rfl rfl rfl rfl rfl (idx_nonneg q239) (idx_map q239)) (Wk.of_eq (congrArg D.el (eTApiExpr_eq x239)))) rfl rfl rfl rfl rfl rfl ?_
                  refine z_e rfl rfl (ex_pure htab rfl) rfl rfl rfl rfl rfl rfl ?_
                  refine z_qM rfl rfl (xm_loadEl htab rfl rfl rfl rfl rfl) rfl rfl rfl rfl rfl rfl ?_
                  refine z_q rfl rfl (ex_pure htab rfl) rfl rfl rfl rfl rfl rfl ?_
                  refine z_q rfl rfl (ex_pure htab rfl) rfl rfl rfl rfl rfl rfl ?_
                  refine z_known (j := 30) (b' := false) rfl hs240 ?_
                  refine z_e rfl rfl (ex_pure htab rfl) rfl rfl rfl rfl rfl rfl ?_
                  refine z_q rfl rfl (ex_pure htab rfl) rfl rfl rfl rfl rfl rfl ?_
                  refine z_e rfl rfl (Ex.wk (x_elem htab rfl rfl rfl rfl rfl rfl rfl (idx_nonneg q241) (idx_map q241)) (Wk.of_eq (congrArg D.el (eTApiExpr_eq x241)))) rfl rfl rfl rfl rfl rfl ?_
                  refine z_e rfl rfl (ex_pure htab rfl) rfl rfl rfl rfl rfl rfl ?_
                  refine z_qM rfl rfl (xm_loadEl htab rfl rfl rfl rfl rfl) rfl rfl rfl rfl rfl rfl ?_
                  refine z_e rfl rfl (ex_pure htab rfl) rfl rfl rfl rfl rfl rfl ?_
                  refine z_q rfl rfl (ex_pure htab rfl) rfl rfl rfl rfl rfl rfl ?_
                  refine z_e rfl rfl (Ex.wk (x_elem htab rfl rfl rfl rfl rfl rfl rfl (idx_nonneg q242) (idx_map q242)) (Wk.of_eq (congrArg D.el (eTApiExpr_eq x242)))) rfl rfl rfl rfl rfl rfl ?_
                  refine z_e rfl rfl (ex_pure htab rfl) rfl rfl rfl rfl rfl rfl ?_
                  refine z_qM rfl rfl (xm_loadEl htab rfl rfl rfl rfl rfl) rfl rfl rfl rfl rfl rfl ?_
                  refine z_q rfl rfl (ex_pure htab rfl) rfl rfl rfl rfl rfl rfl ?_
                  refine z_q rfl rfl (x_pickF rfl rfl rfl) rfl rfl rfl rfl rfl rfl ?_
                  refine z_q rfl rfl (ex_pure htab rfl) rfl rfl rfl rfl rfl rfl ?_
                  refine z_known (j := 43) (b' := false) rfl hs243 ?_
                  refine z_e rfl rfl (ex_pure htab rfl) rfl rfl rfl rfl rfl rfl ?_
                  refine z_q rfl rfl (ex_pure htab rfl) rfl rfl rfl rfl rfl rfl ?_
                  refine z_e rfl rfl (Ex.wk (x_elem htab rfl rfl rfl rfl rfl rfl rfl (idx_nonneg q244) (idx_map q244)) (Wk.of_eq (congrArg D.el (eTApiExpr_eq x244)))) rfl rfl rfl rfl rfl rfl ?_
                  refine z_e rfl rfl (ex_pure htab rfl) rfl rfl rfl rfl rfl rfl ?_
                  refine z_qM rfl rfl (xm_loadEl htab rfl rfl rfl rfl rfl) rfl rfl rfl rfl rfl rfl ?_
                  refine z_e rfl rfl (ex_pure htab rfl) rfl rfl rfl rfl rfl rfl ?_
                  refine z_q rfl rfl (ex_pure htab rfl) rfl rfl rfl rfl rfl rfl ?_
                  refine z_e rfl rfl (Ex.wk (x_elem htab rfl rfl rfl rfl rfl rfl rfl (idx_nonneg q245) (idx_map q245)) (Wk.of_eq (congrArg D.el (eTApiExpr_eq x245)))) rfl rfl rfl rfl rfl rfl ?_
                  refine z_e rfl rfl (ex_pure htab rfl) rfl rfl rfl rfl rfl rfl ?_
                  refine z_qM rfl rfl (xm_loadEl htab rfl rfl rfl rfl rfl) rfl rfl rfl rfl rfl rfl ?_
                  refine z_q rfl rfl (ex_pure htab rfl) rfl rfl rfl rfl rfl rfl ?_
                  refine z_q rfl rfl (x_pickF rfl rfl rfl) rfl rfl rfl rfl rfl rfl ?_
                  refine z_q rfl rfl (ex_pure htab rfl) rfl rfl rfl rfl rfl rfl ?_
                  refine z_known (j := 56) (b' := true) rfl hs246 ?_
                  refine z_skip rfl rfl rfl rfl ?_
                  refine z_skip rfl rfl rfl rfl ?_
                  refine z_skip rfl rfl rfl rfl ?_
                  refine z_skip rfl rfl rfl rfl ?_
                  refine z_skip rfl rfl rfl rfl ?_
                  refine z_skip rfl rfl rfl rfl ?_
                  refine z_skip rfl rfl rfl rfl ?_
                  refine z_skip rfl rfl rfl rfl ?_
                  refine z_skip rfl rfl rfl rfl ?_
                  refine z_skip rfl rfl rfl rfl ?_
                  refine z_skip rfl rfl rfl rfl ?_
                  refine z_skip rfl rfl rfl rfl ?_
                  refine z_skip rfl rfl rfl rfl ?_
                  refine z_skip rfl rfl rfl rfl ?_
                  refine z_q rfl rfl (x_pickT rfl rfl rfl) rfl rfl rfl rfl rfl rfl ?_
                  refine z_q rfl rfl (ex_pure htab rfl) rfl rfl rfl rfl rfl rfl ?_
                  refine z_skip rfl rfl rfl rfl ?_
                  refine z_skip rfl rfl rfl rfl ?_
                  refine z_skip rfl rfl rfl rfl ?_
                  refine z_skip rfl rfl rfl rfl ?_
                  refine z_skip rfl rfl rfl rfl ?_
                  refine z_skip rfl rfl rfl rfl ?_
                  refine z_skip rfl rfl rfl rfl ?_
                  refine z_skip rfl rfl rfl rfl ?_
                  refine z_skip rfl rfl rfl rfl ?_
                  refine z_skip rfl rfl rfl rfl ?_
                  refine z_skip rfl rfl rfl rfl ?_
                  refine z_nil rfl rfl (fun e he => by simp [isAl] at he) ?_
                  refine p_skip rfl rfl rfl ?_
                  refine p_skip rfl rfl rfl ?_
                  refine p_pickT rfl rfl rfl rfl rfl rfl ?_
                  refine ops_nil ?_
                  have e237 := yes_eq hm; subst e237
                  refine ⟨rfl, ?_⟩
                  exact WkX.of () (WkS.perm (WkS.cons rfl (Wk.refl _) (WkS.cons rfl (Wk.refl _) (WkS.cons rfl (Wk.refl _) (WkS.cons rfl (Wk.refl _) (WkS.cons rfl (Wk.refl _) (WkS.nil)))))) (List.Perm.refl _) (List.Perm.refl _))
                · replace hm := yes_f hs246 hm
                  refine bycB a2 (fun hs247 => ?_) (fun hs247 => ?_)
                  · replace hm := yes_t hs247 hm
                    obtain ⟨x248, q248, hm⟩ := yes_bind hm
                    obtain ⟨x249, q249, hm⟩ := yes_bind hm
                    refine bycB (x248.gAt != x249.gAt) (fun hs250 => ?_) (fun hs250 => ?_)
                    · replace hm := yes_t hs250 hm
                      refine wpD_draws 65 [] nlTn1_12 [0,2,3,5,7,8,12,14,15,17,19,20,25,27,28,30,32,33,40,42,43,45,47,48] nlTn1_9 (by kernel_rfl) (by kernel_rfl) (by kernel_rfl) (by rfl) (by rfl) (by kernel_rfl) ?_
                      apply Exists.intro
                      apply Exists.intro
                      apply Exists.intro
                      apply Exists.intro
                      apply Exists.intro
                      apply Exists.intro
                      apply Exists.intro
                      apply Exists.intro
                      apply Exists.intro
                      apply Exists.intro
                      apply Exists.intro
                      apply Exists.intro
                      apply Exists.intro
                      apply Exists.intro
                      apply Exists.intro
                      apply Exists.intro
                      apply Exists.intro
                      apply Exists.intro
                      apply Exists.intro
                      apply Exists.intro
                      apply Exists.intro
                      apply Exists.intro
                      apply Exists.intro
                      apply Exists.intro
                      intro bs
                      refine z_e rfl rfl (ex_pure htab rfl) rfl rfl rfl rfl rfl rfl ?_
                      refine z_q rfl rfl (ex_pure htab rfl) rfl rfl rfl rfl rfl rfl ?_
                      refine z_e rfl rfl (Ex.wk (x_elem htab rfl rfl rfl rfl rfl rfl rfl (idx_nonneg q238) (idx_map q238)) (Wk.of_eq (congrArg D.el (eTApiExpr_eq x238)))) rfl rfl rfl rfl rfl rfl ?_
                      refine z_e rfl rfl (ex_pure htab rfl) rfl rfl rfl rfl rfl rfl ?_
                      refine z_qM rfl rfl (xm_loadEl htab rfl rfl rfl rfl rfl) rfl rfl rfl rfl rfl rfl ?_
                      refine z_e rfl rfl (ex_pure htab rfl) rfl rfl rfl rfl rfl rfl ?_
                      refine z_q rfl rfl (ex_pure htab rfl) rfl rfl rfl rfl rfl rfl ?_
                      refine z_e rfl rfl (Ex.wk (x_elem htab rfl rfl rfl rfl rfl rfl rfl (idx_nonneg q239) (idx_map q239)) (Wk.of_eq (congrArg D.el (eTApiExpr_eq x239)))) rfl rfl rfl rfl rfl rfl ?_
                      refine z_e rfl rfl (ex_pure htab rfl) rfl rfl rfl rfl rfl rfl ?_
                      refine z_qM rfl rfl (xm_loadEl htab rfl rfl rfl rfl rfl) rfl rfl rfl rfl rfl rfl ?_
                      refine z_q rfl rfl (ex_pure htab rfl) rfl rfl rfl rfl rfl rfl ?_
                      refine z_q rfl rfl (ex_pure htab rfl) rfl rfl rfl rfl rfl rfl ?_
                      refine z_known (j := 30) (b' := false) rfl hs240 ?_
                      refine z_e rfl rfl (ex_pure htab rfl) rfl rfl rfl rfl rfl rfl ?_
                      refine z_q rfl rfl (ex_pure htab rfl) rfl rfl rfl rfl rfl rfl ?_
                      refine z_e rfl rfl (Ex.wk (x_elem htab rfl rfl rfl rfl rfl rfl rfl (idx_nonneg q241) (idx_map q241)) (Wk.of_eq (congrArg D.el (eTApiExpr_eq x241)))) rfl rfl rfl rfl rfl rfl ?_
                      refine z_e rfl rfl (ex_pure htab rfl) rfl rfl rfl rfl rfl rfl ?_
                      refine z_qM rfl rfl (xm_loadEl htab rfl rfl rfl rfl rfl) rfl rfl rfl rfl rfl rfl ?_
                      refine z_e rfl rfl (ex_pure htab rfl) rfl rfl rfl rfl rfl rfl ?_
                      refine z_q rfl rfl (ex_pure htab rfl) rfl rfl rfl rfl rfl rfl ?_
                      refine z_e rfl rfl (Ex.wk (x_elem htab rfl rfl rfl rfl rfl rfl rfl (idx_nonneg q242) (idx_map q242)) (Wk.of_eq (congrArg D.el (eTApiExpr_eq x242)))) rfl rfl rfl rfl rfl rfl ?_
                      refine z_e rfl rfl (ex_pure htab rfl) rfl rfl rfl rfl rfl rfl ?_
                      refine z_qM rfl rfl (xm_loadEl htab rfl rfl rfl rfl rfl) rfl rfl rfl rfl rfl rfl ?_
                      refine z_q rfl rfl (ex_pure htab rfl) rfl rfl rfl rfl rfl rfl ?_
                      refine z_q rfl rfl (x_pickF rfl rfl rfl) rfl rfl rfl rfl rfl rfl ?_
                      refine z_q rfl rfl (ex_pure htab rfl) rfl rfl rfl rfl rfl rfl ?_
                      refine z_known (j := 43) (b' := false) rfl hs243 ?_
                      refine z_e rfl rfl (ex_pure htab rfl) rfl rfl rfl rfl rfl rfl ?_
                      refine z_q rfl rfl (ex_pure htab rfl) rfl rfl rfl rfl rfl rfl ?_
                      refine z_e rfl rfl (Ex.wk (x_elem htab rfl rfl rfl rfl rfl rfl rfl (idx_nonneg q244) (idx_map q244)) (Wk.of_eq (congrArg D.el (eTApiExpr_eq x244)))) rfl rfl rfl rfl rfl rfl ?_
                      refine z_e rfl rfl (ex_pure htab rfl) rfl rfl rfl rfl rfl rfl ?_
                      refine z_qM rfl rfl (xm_loadEl htab rfl rfl rfl rfl rfl) rfl rfl rfl rfl rfl rfl ?_
                      refine z_e rfl rfl (ex_pure htab rfl) rfl rfl rfl rfl rfl rfl ?_
                      refine z_q rfl rfl (ex_pure htab rfl) rfl rfl rfl rfl rfl rfl ?_
                      refine z_e rfl rfl (Ex.wk (x_elem htab rfl rfl rfl rfl rfl rfl rfl (idx_nonneg q245) (idx_map q245)) (Wk.of_eq (congrArg D.el (eTApiExpr_eq x245)))) rfl rfl rfl rfl rfl rfl ?_
                      refine z_e rfl rfl (ex_pure htab rfl) rfl rfl rfl rfl rfl rfl ?_
                      refine z_qM rfl rfl (xm_loadEl htab rfl rfl rfl rfl rfl) rfl rfl rfl rfl rfl rfl ?_
                      refine z_q rfl rfl (ex_pure htab rfl) rfl rfl rfl rfl rfl rfl ?_
                      refine z_q rfl rfl (x_pickF rfl rfl rfl) rfl rfl rfl rfl rfl rfl ?_
                      refine z_q rfl rfl (ex_pure htab rfl) rfl rfl rfl rfl rfl rfl ?_
                      refine z_known (j := 56) (b' := false) rfl hs246 ?_
                      refine z_q rfl rfl (ex_pure htab rfl) rfl rfl rfl rfl rfl rfl ?_
                      refine z_q rfl rfl (ex_pure htab rfl) rfl rfl rfl rfl rfl rfl ?_
                      refine z_known (j := 58) (b' := true) rfl hs247 ?_
                      refine z_e rfl rfl (ex_pure htab rfl) rfl rfl rfl rfl rfl rfl ?_
                      refine z_q rfl rfl (ex_pure htab rfl) rfl rfl rfl rfl rfl rfl ?_
                      refine z_e rfl rfl (Ex.wk (x_elem htab rfl rfl rfl rfl rfl rfl rfl (idx_nonneg q248) (idx_map q248)) (Wk.of_eq (congrArg D.el (eTApiExpr_eq x248)))) rfl rfl rfl rfl rfl rfl ?_
                      refine z_e rfl rfl (ex_pure htab rfl) rfl rfl rfl rfl rfl rfl ?_
                      refine z_qM rfl rfl (xm_loadEl htab rfl rfl rfl rfl rfl) rfl rfl rfl rfl rfl rfl ?_
                      refine z_e rfl rfl (ex_pure htab rfl) rfl rfl rfl rfl rfl rfl ?_
                      refine z_q rfl rfl (ex_pure htab rfl) rfl rfl rfl rfl rfl rfl ?_
                      refine z_e rfl rfl (Ex.wk (x_elem htab rfl rfl rfl rfl rfl rfl rfl (idx_nonneg q249) (idx_map q249)) (Wk.of_eq (congrArg D.el (eTApiExpr_eq x249)))) rfl rfl rfl rfl rfl rfl ?_
                      refine z_e rfl rfl (ex_pure htab rfl) rfl rfl rfl rfl rfl rfl ?_
                      refine z_qM rfl rfl (xm_loadEl htab rfl rfl rfl rfl rfl) rfl rfl rfl rfl rfl rfl ?_
                      refine z_q rfl rfl (ex_pure htab rfl) rfl rfl rfl rfl rfl rfl ?_
                      refine z_q rfl rfl (x_pickT rfl rfl rfl) rfl rfl rfl rfl rfl rfl ?_
                      refine z_q rfl rfl (x_pickF rfl rfl rfl) rfl rfl rfl rfl rfl rfl ?_
                      refine z_q rfl rfl (ex_pure htab rfl) rfl rfl rfl rfl rfl rfl ?_
                      refine z_known (j := 72) (b' := true) rfl hs250 ?_
                      refine z_skip rfl rfl rfl rfl ?_
                      refine z_skip rfl rfl rfl rfl ?_
                      refine z_skip rfl rfl rfl rfl ?_
                      refine z_skip rfl rfl rfl rfl ?_
                      refine z_skip rfl rfl rfl rfl ?_
                      refine z_skip rfl rfl rfl rfl ?_
                      refine z_skip rfl rfl rfl rfl ?_
                      refine z_skip rfl rfl rfl rfl ?_
                      refine z_skip rfl rfl rfl rfl ?_
                      refine z_skip rfl rfl rfl rfl ?_
                      refine z_skip rfl rfl rfl rfl ?_
                      refine z_nil rfl rfl (fun e he => by simp [isAl] at he) ?_
                      refine p_skip rfl rfl rfl ?_
                      refine p_skip rfl rfl rfl ?_
                      refine p_pickT rfl rfl rfl rfl rfl rfl ?_
                      refine ops_nil ?_
                      have e237 := yes_eq hm; subst e237
                      refine ⟨rfl, ?_⟩
                      exact WkX.of () (WkS.perm (WkS.cons rfl (Wk.refl _) (WkS.cons rfl (Wk.refl _) (WkS.cons rfl (Wk.refl _) (WkS.cons rfl (Wk.refl _) (WkS.cons rfl (Wk.refl _) (WkS.nil)))))) (List.Perm.refl _) (List.Perm.refl _))
                    · replace hm := yes_f hs250 hm
                      obtain ⟨x251, q251, hm⟩ := yes_bind hm
                      obtain ⟨x252, q252, hm⟩ := yes_bind hm
                      refine wpD_draws 65 [] nlTn1_13 [0,2,3,5,7,8,12,14,15,17,19,20,25,27,28,30,32,33,40,42,43,45,47,48,54,56,57,58,59,61,62,63] nlTn1_9 (by kernel_rfl) (by kernel_rfl) (by kernel_rfl) (by rfl) (by rfl) (by kernel_rfl) ?_
                      apply Exists.intro
                      apply Exists.intro
                      apply Exists.intro
                      apply Exists.intro
                      apply Exists.intro
                      apply Exists.intro
                      apply Exists.intro
                      apply Exists.intro
                      apply Exists.intro
                      apply Exists.intro
                      apply Exists.intro
                      apply Exists.intro
                      apply Exists.intro
                      apply Exists.intro
                      apply Exists.intro
                      apply Exists.intro
                      apply Exists.intro
                      apply Exists.intro
                      apply Exists.intro
                      apply Exists.intro
                      apply Exists.intro
                      apply Exists.intro
                      apply Exists.intro
                      apply Exists.intro
                      apply Exists.intro
                      apply Exists.intro
                      apply Exists.intro
                      apply Exists.intro
                      apply Exists.intro
                      apply Exists.intro
                      apply Exists.intro
                      apply Exists.intro
                      intro bs
                      refine z_e rfl rfl (ex_pure htab rfl) rfl rfl rfl rfl rfl rfl ?_
                      refine z_q rfl rfl (ex_pure htab rfl) rfl rfl rfl rfl rfl rfl ?_
                      refine z_e rfl rfl (Ex.wk (x_elem htab rfl rfl rfl rfl rfl rfl rfl (idx_nonneg q238) (idx_map q238)) (Wk.of_eq (congrArg D.el (eTApiExpr_eq x238)))) rfl rfl rfl rfl rfl rfl ?_
                      refine z_e rfl rfl (ex_pure htab rfl) rfl rfl rfl rfl rfl rfl ?_
                      refine z_qM rfl rfl (xm_loadEl htab rfl rfl rfl rfl rfl) rfl rfl rfl rfl rfl rfl ?_
                      refine z_e rfl rfl (ex_pure htab rfl) rfl rfl rfl rfl rfl rfl ?_
                      refine z_q rfl rfl (ex_pure htab rfl) rfl rfl rfl rfl rfl rfl ?_
                      refine z_e rfl rfl (Ex.wk (x_elem htab rfl rfl rfl rfl rfl rfl rfl (idx_nonneg q239) (idx_map q239)) (Wk.of_eq (congrArg D.el (eTApiExpr_eq x239)))) rfl rfl rfl rfl rfl rfl ?_
                      refine z_e rfl rfl (ex_pure htab rfl) rfl rfl rfl rfl rfl rfl ?_
                      refine z_qM rfl rfl (xm_loadEl htab rfl rfl rfl rfl rfl) rfl rfl rfl rfl rfl rfl ?_
                      refine z_q rfl rfl (ex_pure htab rfl) rfl rfl rfl rfl rfl rfl ?_
                      refine z_q rfl rfl (ex_pure htab rfl) rfl rfl rfl rfl rfl rfl ?_
                      refine z_known (j := 30) (b' := false) rfl hs240 ?_
                      refine z_e rfl rfl (ex_pure htab rfl) rfl rfl rfl rfl rfl rfl ?_
                      refine z_q rfl rfl (ex_pure htab rfl) rfl rfl rfl rfl rfl rfl ?_
                      refine z_e rfl rfl (Ex.wk (x_elem htab rfl rfl rfl rfl rfl rfl rfl (idx_nonneg q241) (idx_map q241)) (Wk.of_eq (congrArg D.el (eTApiExpr_eq x241)))) rfl rfl rfl rfl rfl rfl ?_
                      refine z_e rfl rfl (ex_pure htab rfl) rfl rfl rfl rfl rfl rfl ?_
                      refine z_qM rfl rfl (xm_loadEl htab rfl rfl rfl rfl rfl) rfl rfl rfl rfl rfl rfl ?_
                      refine z_e rfl rfl (ex_pure htab rfl) rfl rfl rfl rfl rfl rfl ?_
                      refine z_q rfl rfl (ex_pure htab rfl) rfl rfl rfl rfl rfl rfl ?_
                      refine z_e rfl rfl (Ex.wk (x_elem htab rfl rfl rfl rfl rfl rfl rfl (idx_nonneg q242) (idx_map q242)) (Wk.of_eq (congrArg D.el (eTApiExpr_eq x242)))) rfl rfl rfl rfl rfl rfl ?_
                      refine z_e rfl rfl (ex_pure htab rfl) rfl rfl rfl rfl rfl rfl ?_
                      refine z_qM rfl rfl (xm_loadEl htab rfl rfl rfl rfl rfl) rfl rfl rfl rfl rfl rfl ?_
                      refine z_q rfl rfl (ex_pure htab rfl) rfl rfl rfl rfl rfl rfl ?_
                      refine z_q rfl rfl (x_pickF rfl rfl rfl) rfl rfl rfl rfl rfl rfl ?_
                      refine z_q rfl rfl (ex_pure htab rfl) rfl rfl rfl rfl rfl rfl ?_
                      refine z_known (j := 43) (b' := false) rfl hs243 ?_
                      refine z_e rfl rfl (ex_pure htab rfl) rfl rfl rfl rfl rfl rfl ?_
                      refine z_q rfl rfl (ex_pure htab rfl) rfl rfl rfl rfl rfl rfl ?_
                      refine z_e rfl rfl (Ex.wk (x_elem htab rfl rfl rfl rfl rfl rfl rfl (idx_nonneg q244) (idx_map q244)) (Wk.of_eq (congrArg D.el (eTApiExpr_eq x244)))) rfl rfl rfl rfl rfl rfl ?_
                      refine z_e rfl rfl (ex_pure htab rfl) rfl rfl rfl rfl rfl rfl ?_
                      refine z_qM rfl rfl (xm_loadEl htab rfl rfl rfl rfl rfl) rfl rfl rfl rfl rfl rfl ?_
                      refine z_e rfl rfl (ex_pure htab rfl) rfl rfl rfl rfl rfl rfl ?_
                      refine z_q rfl rfl (ex_pure htab rfl) rfl rfl rfl rfl rfl rfl ?_
                      refine z_e rfl rfl (Ex.wk (x_elem htab rfl rfl rfl rfl rfl rfl rfl (idx_nonneg q245) (idx_map q245)) (Wk.of_eq (congrArg D.el (eTApiExpr_eq x245)))) rfl rfl rfl rfl rfl rfl ?_
                      refine z_e rfl rfl (ex_pure htab rfl) rfl rfl rfl rfl rfl rfl ?_
                      refine z_qM rfl rfl (xm_loadEl htab rfl rfl rfl rfl rfl) rfl rfl rfl rfl rfl rfl ?_
                      refine z_q rfl rfl (ex_pure htab rfl) rfl rfl rfl rfl rfl rfl ?_
                      refine z_q rfl rfl (x_pickF rfl rfl rfl) rfl rfl rfl rfl rfl rfl ?_
                      refine z_q rfl rfl (ex_pure htab rfl) rfl rfl rfl rfl rfl rfl ?_
                      refine z_known (j := 56) (b' := false) rfl hs246 ?_
                      refine z_q rfl rfl (ex_pure htab rfl) rfl rfl rfl rfl rfl rfl ?_
                      refine z_q rfl rfl (ex_pure htab rfl) rfl rfl rfl rfl rfl rfl ?_
                      refine z_known (j := 58) (b' := true) rfl hs247 ?_
                      refine z_e rfl rfl (ex_pure htab rfl) rfl rfl rfl rfl rfl rfl ?_
                      refine z_q rfl rfl (ex_pure htab rfl) rfl rfl rfl rfl rfl rfl ?_
                      refine z_e rfl rfl (Ex.wk (x_elem htab rfl rfl rfl rfl rfl rfl rfl (idx_nonneg q248) (idx_map q248)) (Wk.of_eq (congrArg D.el (eTApiExpr_eq x248)))) rfl rfl rfl rfl rfl rfl ?_
                      refine z_e rfl rfl (ex_pure htab rfl) rfl rfl rfl rfl rfl rfl ?_
                      refine z_qM rfl rfl (xm_loadEl htab rfl rfl rfl rfl rfl) rfl rfl rfl rfl rfl rfl ?_
                      refine z_e rfl rfl (ex_pure htab rfl) rfl rfl rfl rfl rfl rfl ?_
                      refine z_q rfl rfl (ex_pure htab rfl) rfl rfl rfl rfl rfl rfl ?_
                      refine z_e rfl rfl (Ex.wk (x_elem htab rfl rfl rfl rfl rfl rfl rfl (idx_nonneg q249) (idx_map q249)) (Wk.of_eq (congrArg D.el (eTApiExpr_eq x249)))) rfl rfl rfl rfl rfl rfl ?_
                      refine z_e rfl rfl (ex_pure htab rfl) rfl rfl rfl rfl rfl rfl ?_
                      refine z_qM rfl rfl (xm_loadEl htab rfl rfl rfl rfl rfl) rfl rfl rfl rfl rfl rfl ?_
                      refine z_q rfl rfl (ex_pure htab rfl) rfl rfl rfl rfl rfl rfl ?_
                      refine z_q rfl rfl (x_pickT rfl rfl rfl) rfl rfl rfl rfl rfl rfl ?_
                      refine z_q rfl rfl (x_pickF rfl rfl rfl) rfl rfl rfl rfl rfl rfl ?_
                      refine z_q rfl rfl (ex_pure htab rfl) rfl rfl rfl rfl rfl rfl ?_
                      refine z_known (j := 72) (b' := false) rfl hs250 ?_
                      refine z_e rfl rfl (ex_pure htab rfl) rfl rfl rfl rfl rfl rfl ?_
                      refine z_q rfl rfl (ex_pure htab rfl) rfl rfl rfl rfl rfl rfl ?_
                      refine z_e rfl rfl (Ex.wk (x_elem htab rfl rfl rfl rfl rfl rfl rfl (idx_nonneg q251) (idx_map q251)) (Wk.of_eq (congrArg D.el (eTApiExpr_eq x251)))) rfl rfl rfl rfl rfl rfl ?_
                      refine z_e rfl rfl (ex_pure htab rfl) rfl rfl rfl rfl rfl rfl ?_
                      refine z_eM rfl rfl (xm_loadEl htab rfl rfl rfl rfl rfl) rfl rfl rfl rfl rfl rfl ?_
                      refine z_e rfl rfl (ex_pure htab rfl) rfl rfl rfl rfl rfl rfl ?_
                      refine z_q rfl rfl (ex_pure htab rfl) rfl rfl rfl rfl rfl rfl ?_
                      refine z_e rfl rfl (Ex.wk (x_elem htab rfl rfl rfl rfl rfl rfl rfl (idx_nonneg q252) (idx_map q252)) (Wk.of_eq (congrArg D.el (eTApiExpr_eq x252)))) rfl rfl rfl rfl rfl rfl ?_
                      refine z_e rfl rfl (ex_pure htab rfl) rfl rfl rfl rfl rfl rfl ?_
                      refine z_eM rfl rfl (xm_loadEl htab rfl rfl rfl rfl rfl) rfl rfl rfl rfl rfl rfl ?_
                      refine z_q rfl rfl (ex_pure htab rfl) rfl rfl rfl rfl rfl rfl ?_
                      refine z_nil rfl rfl (fun e he => by simp [isAl] at he) ?_
                      obtain ⟨x253, q253, hm⟩ := yes_bind hm
                      refine p_call0 (hg0 x251.gKids x252.gKids a2 x253 q253) rfl rfl rfl rfl rfl (WkL.refl _) ?_
                      rintro _ rfl
                      refine p_pure htab rfl rfl rfl rfl ?_
                      refine p_pickF rfl rfl rfl rfl rfl rfl ?_
                      refine ops_nil ?_
                      have e237 := yes_eq hm; subst e237
                      refine ⟨rfl, ?_⟩
                      exact WkX.of () (WkS.perm (WkS.cons rfl (Wk.refl _) (WkS.cons rfl (Wk.refl _) (WkS.cons rfl (Wk.refl _) (WkS.cons rfl (Wk.refl _) (WkS.cons rfl (Wk.refl _) (WkS.nil)))))) (List.Perm.refl _) (List.Perm.refl _))
                  · replace hm := yes_f hs247 hm
                    obtain ⟨x254, q254, hm⟩ := yes_bind hm
                    obtain ⟨x255, q255, hm⟩ := yes_bind hm
                    refine wpD_draws 65 [] nlTn1_14 [0,2,3,5,7,8,12,14,15,17,19,20,25,27,28,30,32,33,54,56,57,58,59,61,62,63] nlTn1_9 (by kernel_rfl) (by kernel_rfl) (by kernel_rfl) (by rfl) (by rfl) (by kernel_rfl) ?_
                    apply Exists.intro
                    apply Exists.intro
                    apply Exists.intro
                    apply Exists.intro
                    apply Exists.intro
                    apply Exists.intro
                    apply Exists.intro
                    apply Exists.intro
                    apply Exists.intro
                    apply Exists.intro
                    apply Exists.intro
                    apply Exists.intro
                    apply Exists.intro
                    apply Exists.intro
                    apply Exists.intro
                    apply Exists.intro
                    apply Exists.intro
                    apply Exists.intro
                    apply Exists.intro
                    apply Exists.intro
                    apply Exists.intro
                    apply Exists.intro
                    apply Exists.intro
                    apply Exists.intro
                    apply Exists.intro
                    apply Exists.intro
                    intro bs
                    refine z_e rfl rfl (ex_pure htab rfl) rfl rfl rfl rfl rfl rfl ?_
                    refine z_q rfl rfl (ex_pure htab rfl) rfl rfl rfl rfl rfl rfl ?_
                    refine z_e rfl rfl (Ex.wk (x_elem htab rfl rfl rfl rfl rfl rfl rfl (idx_nonneg q238) (idx_map q238)) (Wk.of_eq (congrArg D.el (eTApiExpr_eq x238)))) rfl rfl rfl rfl rfl rfl ?_
                    refine z_e rfl rfl (ex_pure htab rfl) rfl rfl rfl rfl rfl rfl ?_
                    refine z_qM rfl rfl (xm_loadEl htab rfl rfl rfl rfl rfl) rfl rfl rfl rfl rfl rfl ?_
                    refine z_e rfl rfl (ex_pure htab rfl) rfl rfl rfl rfl rfl rfl ?_
                    refine z_q rfl rfl (ex_pure htab rfl) rfl rfl rfl rfl rfl rfl ?_
                    refine z_e rfl rfl (Ex.wk (x_elem htab rfl rfl rfl rfl rfl rfl rfl (idx_nonneg q239) (idx_map q239)) (Wk.of_eq (congrArg D.el (eTApiExpr_eq x239)))) rfl rfl rfl rfl rfl rfl ?_
                    refine z_e rfl rfl (ex_pure htab rfl) rfl rfl rfl rfl rfl rfl ?_
                    refine z_qM rfl rfl (xm_loadEl htab rfl rfl rfl rfl rfl) rfl rfl rfl rfl rfl rfl ?_
                    refine z_q rfl rfl (ex_pure htab rfl) rfl rfl rfl rfl rfl rfl ?_
                    refine z_q rfl rfl (ex_pure htab rfl) rfl rfl rfl rfl rfl rfl ?_
                    refine z_known (j := 30) (b' := false) rfl hs240 ?_
                    refine z_e rfl rfl (ex_pure htab rfl) rfl rfl rfl rfl rfl rfl ?_
                    refine z_q rfl rfl (ex_pure htab rfl) rfl rfl rfl rfl rfl rfl ?_
                    refine z_e rfl rfl (Ex.wk (x_elem htab rfl rfl rfl rfl rfl rfl rfl (idx_nonneg q241) (idx_map q241)) (Wk.of_eq (congrArg D.el (eTApiExpr_eq x241)))) rfl rfl rfl rfl rfl rfl ?_
                    refine z_e rfl rfl (ex_pure htab rfl) rfl rfl rfl rfl rfl rfl ?_
                    refine z_qM rfl rfl (xm_loadEl htab rfl rfl rfl rfl rfl) rfl rfl rfl rfl rfl rfl ?_
                    refine z_e rfl rfl (ex_pure htab rfl) rfl rfl rfl rfl rfl rfl ?_
                    refine z_q rfl rfl (ex_pure htab rfl) rfl rfl rfl rfl rfl rfl ?_
                    refine z_e rfl rfl (Ex.wk (x_elem htab rfl rfl rfl rfl rfl rfl rfl (idx_nonneg q242) (idx_map q242)) (Wk.of_eq (congrArg D.el (eTApiExpr_eq x242)))) rfl rfl rfl rfl rfl rfl ?_
                    refine z_e rfl rfl (ex_pure htab rfl) rfl rfl rfl rfl rfl rfl ?_
                    refine z_qM rfl rfl (xm_loadEl htab rfl rfl rfl rfl rfl) rfl rfl rfl rfl rfl rfl ?_
                    refine z_q rfl rfl (ex_pure htab rfl) rfl rfl rfl rfl rfl rfl ?_
                    refine z_q rfl rfl (x_pickF rfl rfl rfl) rfl rfl rfl rfl rfl rfl ?_
                    refine z_q rfl rfl (ex_pure htab rfl) rfl rfl rfl rfl rfl rfl ?_
                    refine z_known (j := 43) (b' := false) rfl hs243 ?_
                    refine z_e rfl rfl (ex_pure htab rfl) rfl rfl rfl rfl rfl rfl ?_
                    refine z_q rfl rfl (ex_pure htab rfl) rfl rfl rfl rfl rfl rfl ?_
                    refine z_e rfl rfl (Ex.wk (x_elem htab rfl rfl rfl rfl rfl rfl rfl (idx_nonneg q244) (idx_map q244)) (Wk.of_eq (congrArg D.el (eTApiExpr_eq x244)))) rfl rfl rfl rfl rfl rfl ?_
                    refine z_e rfl rfl (ex_pure htab rfl) rfl rfl rfl rfl rfl rfl ?_
                    refine z_qM rfl rfl (xm_loadEl htab rfl rfl rfl rfl rfl) rfl rfl rfl rfl rfl rfl ?_
                    refine z_e rfl rfl (ex_pure htab rfl) rfl rfl rfl rfl rfl rfl ?_
                    refine z_q rfl rfl (ex_pure htab rfl) rfl rfl rfl rfl rfl rfl ?_
                    refine z_e rfl rfl (Ex.wk (x_elem htab rfl rfl rfl rfl rfl rfl rfl (idx_nonneg q245) (idx_map q245)) (Wk.of_eq (congrArg D.el (eTApiExpr_eq x245)))) rfl rfl rfl rfl rfl rfl ?_
                    refine z_e rfl rfl (ex_pure htab rfl) rfl rfl rfl rfl rfl rfl ?_
                    refine z_qM rfl rfl (xm_loadEl htab rfl rfl rfl rfl rfl) rfl rfl rfl rfl rfl rfl ?_
                    refine z_q rfl rfl (ex_pure htab rfl) rfl rfl rfl rfl rfl rfl ?_
                    refine z_q rfl rfl (x_pickF rfl rfl rfl) rfl rfl rfl rfl rfl rfl ?_
                    refine z_q rfl rfl (ex_pure htab rfl) rfl rfl rfl rfl rfl rfl ?_
                    refine z_known (j := 56) (b' := false) rfl hs246 ?_
                    refine z_q rfl rfl (ex_pure htab rfl) rfl rfl rfl rfl rfl rfl ?_
                    refine z_q rfl rfl (ex_pure htab rfl) rfl rfl rfl rfl rfl rfl ?_
                    refine z_known (j := 58) (b' := false) rfl hs247 ?_
                    refine z_skip rfl rfl rfl rfl ?_
                    refine z_skip rfl rfl rfl rfl ?_
                    refine z_skip rfl rfl rfl rfl ?_
                    refine z_skip rfl rfl rfl rfl ?_
                    refine z_skip rfl rfl rfl rfl ?_
                    refine z_skip rfl rfl rfl rfl ?_
                    refine z_skip rfl rfl rfl rfl ?_
                    refine z_skip rfl rfl rfl rfl ?_
                    refine z_skip rfl rfl rfl rfl ?_
                    refine z_skip rfl rfl rfl rfl ?_
                    refine z_skip rfl rfl rfl rfl ?_
                    refine z_q rfl rfl (x_pickF rfl rfl rfl) rfl rfl rfl rfl rfl rfl ?_
                    refine z_q rfl rfl (x_pickF rfl rfl rfl) rfl rfl rfl rfl rfl rfl ?_
                    refine z_q rfl rfl (ex_pure htab rfl) rfl rfl rfl rfl rfl rfl ?_
                    refine z_e rfl rfl (ex_pure htab rfl) rfl rfl rfl rfl rfl rfl ?_
                    refine z_q rfl rfl (ex_pure htab rfl) rfl rfl rfl rfl rfl rfl ?_
                    refine z_e rfl rfl (Ex.wk (x_elem htab rfl rfl rfl rfl rfl rfl rfl (idx_nonneg q254) (idx_map q254)) (Wk.of_eq (congrArg D.el (eTApiExpr_eq x254)))) rfl rfl rfl rfl rfl rfl ?_
                    refine z_e rfl rfl (ex_pure htab rfl) rfl rfl rfl rfl rfl rfl ?_
                    refine z_eM rfl rfl (xm_loadEl htab rfl rfl rfl rfl rfl) rfl rfl rfl rfl rfl rfl ?_
                    refine z_e rfl rfl (ex_pure htab rfl) rfl rfl rfl rfl rfl rfl ?_
                    refine z_q rfl rfl (ex_pure htab rfl) rfl rfl rfl rfl rfl rfl ?_
                    refine z_e rfl rfl (Ex.wk (x_elem htab rfl rfl rfl rfl rfl rfl rfl (idx_nonneg q255) (idx_map q255)) (Wk.of_eq (congrArg D.el (eTApiExpr_eq x255)))) rfl rfl rfl rfl rfl rfl ?_
                    refine z_e rfl rfl (ex_pure htab rfl) rfl rfl rfl rfl rfl rfl ?_
                    refine z_eM rfl rfl (xm_loadEl htab rfl rfl rfl rfl rfl) rfl rfl rfl rfl rfl rfl ?_
                    refine z_q rfl rfl (ex_pure htab rfl) rfl rfl rfl rfl rfl rfl ?_
                    refine z_nil rfl rfl (fun e he => by simp [isAl] at he) ?_
                    obtain ⟨x256, q256, hm⟩ := yes_bind hm
                    refine p_call0 (hg0 x254.gKids x255.gKids a2 x256 q256) rfl rfl rfl rfl rfl (WkL.refl _) ?_
                    rintro _ rfl
                    refine p_pure htab rfl rfl rfl rfl ?_
                    refine p_pickF rfl rfl rfl rfl rfl rfl ?_
                    refine ops_nil ?_
                    have e237 := yes_eq hm; subst e237
                    refine ⟨rfl, ?_⟩
                    exact WkX.of () (WkS.perm (WkS.cons rfl (Wk.refl _) (WkS.cons rfl (Wk.refl _) (WkS.cons rfl (Wk.refl _) (WkS.cons rfl (Wk.refl _) (WkS.cons rfl (Wk.refl _) (WkS.nil)))))) (List.Perm.refl _) (List.Perm.refl _))
          · intro s237 hw237; clear hm; have hm := ho237; clear q237 ho237
            refine then_normal ?_
            refine wpD_wkX hw237 (fun z237 => ?_)
            refine wpD_cond rfl (fun hc257 => ?_) (fun hc257 => ?_)
            · replace hm := yes_t hc257 hm
              refine wpD_seq ?_
              refine wpD_region ?_
              refine p_pure htab rfl rfl rfl rfl ?_
              refine ops_nil ?_
              refine then_normal ?_
              refine wpD_ret ?_
              refine block_ret ?_
              refine then_ret ?_
              have e132 := lp_done hm; subst e132; clear hm; have hm := hq132
              refine then_ret ?_
              refine block_ret ?_
              have e131 := yes_eq hm; subst e131; refine midX_inr ?_; clear hm; have hm := ho131; simp only [Sum.elim_inr] at hm
              refine then_ret ?_
              have er258 := yes_eq hm; subst er258
              refine retX.of (s' := ⟨[(6, .v (.bool false))], [], []⟩) (WkS.perm (WkS.cons rfl (Wk.refl _) (WkS.nil)) (List.Perm.refl _) (List.Perm.refl _)) (retD_mk (hh := []) (.inl rfl) (resL_cons (resOne_tmp rfl) (resL_nil)) (List.nil_sublist _) (List.Sublist.refl _) ?_)
              exact ⟨rfl, rfl, rfl⟩
            · replace hm := yes_f hc257 hm
              refine wpD_skip ?_
              refine block_normal ?_
              refine then_normal ?_
              refine wpD_region ?_
              refine p_pure htab rfl rfl rfl rfl ?_
              refine p_pure htab rfl rfl rfl rfl ?_
              refine p_pure htab rfl rfl rfl rfl ?_
              refine ops_nil ?_
              refine then_normal ⟨_, lp_next hm, ?_⟩
              exact WkX.of () (WkS.perm (WkS.cons rfl (Wk.refl _) (WkS.cons rfl (Wk.refl _) (WkS.cons rfl (Wk.refl _) (WkS.cons rfl (Wk.refl _) (WkS.nil))))) (List.Perm.refl _) (List.Perm.refl _))
        · replace hm := yes_f hc217 hm
          refine wpD_exit ?_
          refine then_exit ?_
          have e132 := lp_done hm; subst e132; clear hm; have hm := hq132
          refine then_exit ?_
          refine block_hit ?_
          have e131 := yes_eq hm; subst e131
          refine midX_inl ?_
          exact WkX.of () (WkS.perm (WkS.nil) (List.Perm.refl _) (List.Perm.refl _))
    · intro y131 s131 hx131 hw131; subst hx131; clear hm; have hm := ho131; simp only [Sum.elim_inl] at hm; clear q131 ho131
      refine then_normal ?_
      refine wpD_wkX hw131 (fun z131 => ?_)
      refine wpD_seq ?_
      refine wpD_region ?_
      refine p_pure htab rfl rfl rfl rfl ?_
      refine ops_nil ?_
      refine then_normal ?_
      refine wpD_ret ?_
      have er259 := yes_eq hm; subst er259
      refine retX.of (s' := ⟨[(6, .v (.bool true))], [], []⟩) (WkS.perm (WkS.cons rfl (Wk.refl _) (WkS.nil)) (List.Perm.refl _) (List.Perm.refl _)) (retD_mk (hh := []) (.inl rfl) (resL_cons (resOne_tmp rfl) (resL_nil)) (List.nil_sublist _) (List.Sublist.refl _) ?_)
      exact ⟨rfl, rfl, rfl⟩
noncomputable def r11_Exps_g : Nat → ((List TApiExpr) → (List TApiExpr) → (Bool) → Option (Bool))
  | 0 => (fun _ _ _ => none)
  | n + 1 => (r11_Exps_b ((r11_Exps_g n)))
theorem r11_Exps_g_ok : ∀ n, (∀ (a0 : List TApiExpr) (a1 : List TApiExpr) (a2 : Bool) (r : Bool) (h0 : (r11_Exps_g n) a0 a1 a2 = some r), CallsD Try.prog 46 [.lst 5 (a0.map eTApiExpr) .no, .lst 5 (a1.map eTApiExpr) .no, .v (.bool a2)] [] [] (fun d h k => d = .v (.bool r) ∧ h = [] ∧ k = []))
  | 0 => fun _ _ _ _ h0 => by cases h0
  | n + 1 => by
    have ih := r11_Exps_g_ok n
    exact r11_Exps_b_ok (r11_Exps_g n) ih
theorem r11_Exps_g_le : ∀ n, (∀ (a0 : List TApiExpr) (a1 : List TApiExpr) (a2 : Bool), Le ((r11_Exps_g n) a0 a1 a2) ((r11_Exps_g (n + 1)) a0 a1 a2))
  | 0 => fun _ _ _ => Le.none _
  | n + 1 => by
    have ih := r11_Exps_g_le n
    exact fun a0 a1 a2 => by show Le (r11_Exps_b ((r11_Exps_g n)) a0 a1 a2) (r11_Exps_b ((r11_Exps_g (n + 1))) a0 a1 a2); unfold r11_Exps_b; repeat (first | exact Le.refl _ | exact ih _ _ _ | assumption | (refine Le.bind ?_ (fun _ => ?_)) | (refine Le.cond ?_ ?_) | (refine Le.loop (fun _ => ?_)) | (refine Le.elim (fun _ => ?_) (fun _ => ?_)))
noncomputable def r11_Exps (a0 : List TApiExpr) (a1 : List TApiExpr) (a2 : Bool) : Option (Bool) := anyN fun n => (r11_Exps_g n) a0 a1 a2
theorem r11_Exps_of (a0 : List TApiExpr) (a1 : List TApiExpr) (a2 : Bool) {r : Bool} (n : Nat) (h : (r11_Exps_g n) a0 a1 a2 = some r) : r11_Exps a0 a1 a2 = some r := anyN_of (fun m => (r11_Exps_g_le m) a0 a1 a2) h
theorem r11_Exps_ok (a0 : List TApiExpr) (a1 : List TApiExpr) (a2 : Bool) (r : Bool) (h0 : r11_Exps a0 a1 a2 = some r) : CallsD Try.prog 46 [.lst 5 (a0.map eTApiExpr) .no, .lst 5 (a1.map eTApiExpr) .no, .v (.bool a2)] [] [] (fun d h k => d = .v (.bool r) ∧ h = [] ∧ k = []) :=
  let ⟨n, hn⟩ := anyN_inv h0; (r11_Exps_g_ok n) a0 a1 a2  r hn
noncomputable def r11_Same (a0 : TApiExpr) (a1 : TApiExpr) : Option (Bool) :=
  ((r11_Exps ([a0] : List TApiExpr) ([a1] : List TApiExpr) false).bind fun x3 => some x3)
set_option maxRecDepth 100000 in
set_option maxHeartbeats 2000000 in
theorem r11_Same_ok (a0 : TApiExpr) (a1 : TApiExpr) (r : Bool) (h0 : r11_Same a0 a1 = some r) : CallsD Try.prog 25 [eTApiExpr a0, eTApiExpr a1] [] [] (fun d h k => d = .v (.bool r) ∧ h = [] ∧ k = []) := by
  have hm := yes_of h0
  unfold r11_Same at hm
  clear h0
  refine enterX htab Try.func25 rfl rfl rfl rfl rfl (fun C => ?_)
  refine w_eq (i := 0) rfl (Wk.of_eq (eTApiExpr_eq a0)) ?_
  refine w_eq (i := 1) rfl (Wk.of_eq (eTApiExpr_eq a1)) ?_
  refine wpD_seq ?_
  refine wpD_region ?_
  refine p_box rfl rfl rfl rfl rfl rfl rfl (fun b1 => ?_)
  refine p_box rfl rfl rfl rfl rfl rfl rfl (fun b2 => ?_)
  refine p_pure htab rfl rfl rfl rfl ?_
  refine ops_nil ?_
  refine then_normal ?_
  refine wpD_seq ?_
  refine wpD_region ?_
  refine p_load (d := .agg [.v (.int .i64 a0.gOp), .v (.int .i64 a0.gN), .v (.string a0.gName), .lst 5 (a0.gKids.map eTApiExpr) .no, .v (.int .i64 a0.gAt)]) 0 htab rfl rfl rfl rfl rfl rfl rfl rfl ?_
  refine p_lit htab rfl rfl rfl rfl rfl rfl rfl rfl rfl rfl rfl rfl rfl rfl ?_
  refine p_eq (i := 6) (d' := .lst 5 (([a0] : List TApiExpr).map eTApiExpr) .full) rfl (Wk.lst0 (.cons (WkC.trans (WkC.agg (WkR.refl _)) (WkC.of_eq (eTApiExpr_eq a0).symm)) (.nil))) ?_
  refine p_load (d := .agg [.v (.int .i64 a1.gOp), .v (.int .i64 a1.gN), .v (.string a1.gName), .lst 5 (a1.gKids.map eTApiExpr) .no, .v (.int .i64 a1.gAt)]) 1 htab rfl rfl rfl rfl rfl rfl rfl rfl ?_
  refine p_lit htab rfl rfl rfl rfl rfl rfl rfl rfl rfl rfl rfl rfl rfl rfl ?_
  refine p_eq (i := 8) (d' := .lst 5 (([a1] : List TApiExpr).map eTApiExpr) .full) rfl (Wk.lst0 (.cons (WkC.trans (WkC.agg (WkR.refl _)) (WkC.of_eq (eTApiExpr_eq a1).symm)) (.nil))) ?_
  obtain ⟨x3, q3, hm⟩ := yes_bind hm
  refine p_call0 (r11_Exps_ok ([a0] : List TApiExpr) ([a1] : List TApiExpr) false x3 q3) rfl rfl rfl rfl rfl (WkL.cons (Wk.no) (WkL.cons (Wk.no) (WkL.cons (Wk.refl _) (WkL.refl _)))) ?_
  rintro _ rfl
  refine p_pure htab rfl rfl rfl rfl ?_
  refine ops_nil ?_
  refine then_normal ?_
  refine wpD_ret ?_
  have er4 := yes_eq hm; subst er4
  refine retX.of (s' := ⟨[(4, .v (.bool x3))], [], []⟩) (WkS.perm (WkS.cons rfl (Wk.refl _) (WkS.nil)) (List.Perm.refl _) (List.Perm.refl _)) (retD_mk (hh := []) (.inl rfl) (resL_cons (resOne_tmp rfl) (resL_nil)) (List.nil_sublist _) (List.Sublist.refl _) ?_)
  exact ⟨rfl, rfl, rfl⟩
noncomputable def tree_SameAll_b (g0 : (List TApiStmt) → (List TApiStmt) → Option (Bool)) (g1 : (List TApiStmt) → (List TApiStmt) → Option (Bool)) (g2 : (TApiStmt) → (TApiStmt) → Option (Bool)) (a0 : List TApiStmt) (a1 : List TApiStmt) : Option (Bool) :=
  ((g1 a0 a1).bind fun x1 => some x1)
set_option maxRecDepth 100000 in
set_option maxHeartbeats 2000000 in
theorem tree_SameAll_b_ok (g0 : (List TApiStmt) → (List TApiStmt) → Option (Bool)) (g1 : (List TApiStmt) → (List TApiStmt) → Option (Bool)) (g2 : (TApiStmt) → (TApiStmt) → Option (Bool)) (hg0 : ∀ (a0 : List TApiStmt) (a1 : List TApiStmt) (r : Bool) (h0 : g0 a0 a1 = some r), CallsD Try.prog 26 [.lst 7 (a0.map eTApiStmt) .no, .lst 7 (a1.map eTApiStmt) .no] [] [] (fun d h k => d = .v (.bool r) ∧ h = [] ∧ k = [])) (hg1 : ∀ (a0 : List TApiStmt) (a1 : List TApiStmt) (r : Bool) (h0 : g1 a0 a1 = some r), CallsD Try.prog 47 [.lst 7 (a0.map eTApiStmt) .no, .lst 7 (a1.map eTApiStmt) .no, .fn (.func 48) [] []] [] [] (fun d h k => d = .v (.bool r) ∧ h = [] ∧ k = [])) (hg2 : ∀ (a0 : TApiStmt) (a1 : TApiStmt) (r : Bool) (h0 : g2 a0 a1 = some r), CallsD Try.prog 48 [eTApiStmt a0, eTApiStmt a1] [] [] (fun d h k => d = .v (.bool r) ∧ h = [] ∧ k = [])) (a0 : List TApiStmt) (a1 : List TApiStmt) (r : Bool) (h0 : tree_SameAll_b g0 g1 g2 a0 a1 = some r) : CallsD Try.prog 26 [.lst 7 (a0.map eTApiStmt) .no, .lst 7 (a1.map eTApiStmt) .no] [] [] (fun d h k => d = .v (.bool r) ∧ h = [] ∧ k = []) := by
  have hm := yes_of h0
  unfold tree_SameAll_b at hm
  clear h0
  refine enterX htab Try.func26 rfl rfl rfl rfl rfl (fun C => ?_)
  refine wpD_seq ?_
  refine wpD_region ?_
  refine p_pure htab rfl rfl rfl rfl ?_
  refine ops_nil ?_
  refine then_normal ?_
  refine wpD_seq ?_
  refine wpD_region ?_
  refine p_pure htab rfl rfl rfl rfl ?_
  refine p_pure htab rfl rfl rfl rfl ?_
  obtain ⟨x1, q1, hm⟩ := yes_bind hm
  refine p_call0 (hg1 a0 a1 x1 q1) rfl rfl rfl rfl rfl (WkL.refl _) ?_
  rintro _ rfl
  refine p_pure htab rfl rfl rfl rfl ?_
  refine ops_nil ?_
  refine then_normal ?_
  refine wpD_ret ?_
  have er2 := yes_eq hm; subst er2
  refine retX.of (s' := ⟨[(4, .v (.bool x1))], [], []⟩) (WkS.perm (WkS.cons rfl (Wk.refl _) (WkS.nil)) (List.Perm.refl _) (List.Perm.refl _)) (retD_mk (hh := []) (.inl rfl) (resL_cons (resOne_tmp rfl) (resL_nil)) (List.nil_sublist _) (List.Sublist.refl _) ?_)
  exact ⟨rfl, rfl, rfl⟩
noncomputable def slices_EqualFunc_api_Stmt_api_Stmt_api_Stmt_api_Stmt_b (g0 : (List TApiStmt) → (List TApiStmt) → Option (Bool)) (g1 : (List TApiStmt) → (List TApiStmt) → Option (Bool)) (g2 : (TApiStmt) → (TApiStmt) → Option (Bool)) (a0 : List TApiStmt) (a1 : List TApiStmt) : Option (Bool) :=
  (bif ((a0.length : Int) != (a1.length : Int)) then some false else (Option.bind (α := (Unit) ⊕ (Bool)) (loopM (fun (s30 : Int) => (bif (decide (s30 < (a0.length : Int))) then ((idx a0 s30).bind fun x48 => ((idx a1 s30).bind fun x50 => ((g2 x48 x50).bind fun x52 => (bif (!x52) then some (.done (.inr false)) else some (.next (IntKind.i64.wrap (s30 + (1 : Int)))))))) else some (.done (.inl ())))) (0 : Int)) (Sum.elim (fun y29 => some true) (fun r => some r))))
set_option maxRecDepth 100000 in
set_option maxHeartbeats 2000000 in
theorem slices_EqualFunc_api_Stmt_api_Stmt_api_Stmt_api_Stmt_b_ok (g0 : (List TApiStmt) → (List TApiStmt) → Option (Bool)) (g1 : (List TApiStmt) → (List TApiStmt) → Option (Bool)) (g2 : (TApiStmt) → (TApiStmt) → Option (Bool)) (hg0 : ∀ (a0 : List TApiStmt) (a1 : List TApiStmt) (r : Bool) (h0 : g0 a0 a1 = some r), CallsD Try.prog 26 [.lst 7 (a0.map eTApiStmt) .no, .lst 7 (a1.map eTApiStmt) .no] [] [] (fun d h k => d = .v (.bool r) ∧ h = [] ∧ k = [])) (hg1 : ∀ (a0 : List TApiStmt) (a1 : List TApiStmt) (r : Bool) (h0 : g1 a0 a1 = some r), CallsD Try.prog 47 [.lst 7 (a0.map eTApiStmt) .no, .lst 7 (a1.map eTApiStmt) .no, .fn (.func 48) [] []] [] [] (fun d h k => d = .v (.bool r) ∧ h = [] ∧ k = [])) (hg2 : ∀ (a0 : TApiStmt) (a1 : TApiStmt) (r : Bool) (h0 : g2 a0 a1 = some r), CallsD Try.prog 48 [eTApiStmt a0, eTApiStmt a1] [] [] (fun d h k => d = .v (.bool r) ∧ h = [] ∧ k = [])) (a0 : List TApiStmt) (a1 : List TApiStmt) (r : Bool) (h0 : slices_EqualFunc_api_Stmt_api_Stmt_api_Stmt_api_Stmt_b g0 g1 g2 a0 a1 = some r) : CallsD Try.prog 47 [.lst 7 (a0.map eTApiStmt) .no, .lst 7 (a1.map eTApiStmt) .no, .fn (.func 48) [] []] [] [] (fun d h k => d = .v (.bool r) ∧ h = [] ∧ k = []) := by
  have hm := yes_of h0
  unfold slices_EqualFunc_api_Stmt_api_Stmt_api_Stmt_api_Stmt_b at hm
  clear h0
  refine enterX htab Try.func47 rfl rfl rfl rfl rfl (fun C => ?_)
  refine wpD_seq ?_
  refine wpD_region ?_
  refine p_pure htab rfl rfl rfl rfl ?_
  refine ops_nil ?_
  refine then_normal ?_
  refine wpD_seq ?_
  refine wpD_seq ?_
  refine wpD_region ?_
  refine p_pure htab rfl rfl rfl rfl ?_
  refine p_lenL htab rfl rfl rfl rfl rfl rfl rfl (by first | exact map_len | rfl) ?_
  refine p_pure htab rfl rfl rfl rfl ?_
  refine p_lenL htab rfl rfl rfl rfl rfl rfl rfl (by first | exact map_len | rfl) ?_
  refine p_pure htab rfl rfl rfl rfl ?_
  refine ops_nil ?_
  refine then_normal ?_
  refine wpD_cond rfl (fun hc2 => ?_) (fun hc2 => ?_)
  · replace hm := yes_t hc2 hm
    refine wpD_seq ?_
    refine wpD_region ?_
    refine p_pure htab rfl rfl rfl rfl ?_
    refine ops_nil ?_
    refine then_normal ?_
    refine wpD_ret ?_
    refine then_ret ?_
    have er3 := yes_eq hm; subst er3
    refine retX.of (s' := ⟨[(6, .v (.bool false))], [], []⟩) (WkS.perm (WkS.cons rfl (Wk.refl _) (WkS.nil)) (List.Perm.refl _) (List.Perm.refl _)) (retD_mk (hh := []) (.inl rfl) (resL_cons (resOne_tmp rfl) (resL_nil)) (List.nil_sublist _) (List.Sublist.refl _) ?_)
    exact ⟨rfl, rfl, rfl⟩
  · replace hm := yes_f hc2 hm
    refine wpD_skip ?_
    refine then_normal ?_
    refine wpD_seq ?_
    refine wpD_seq ?_
    refine wpD_region ?_
    refine p_pure htab rfl rfl rfl rfl ?_
    refine p_lenL htab rfl rfl rfl rfl rfl rfl rfl (by first | exact map_len | rfl) ?_
    refine p_pure htab rfl rfl rfl rfl ?_
    refine ops_nil ?_
    refine then_normal ?_
    obtain ⟨x29, q29, ho29⟩ := yes_bind hm
    refine wpD_midX (τ := Unit) (Y := Unit) (fun y29 z29 => (⟨[], [], []⟩ : S)) x29 ?_ ?_
    · clear hm; have hm := yes_of q29
      refine wpD_block ?_
      obtain ⟨u30, hl30, hq30⟩ := yes_m hm
      refine loop_M (Y := Unit) hl30 (fun s30 z30 => (⟨[(1, .lst 7 (a1.map eTApiStmt) .no), (2, .fn (.func 48) [] []), (15, .lst 7 (a0.map eTApiStmt) .no), (16, .v (.int .i64 (a0.length : Int))), (17, .v (.int .i64 s30))], [], []⟩ : S)) ?_ ?_
      · skip
        exact WkX.of () (WkS.perm (WkS.cons rfl (Wk.refl _) (WkS.cons rfl (Wk.refl _) (WkS.cons rfl (Wk.refl _) (WkS.cons rfl (Wk.refl _) (WkS.cons rfl (Wk.refl _) (WkS.nil)))))) (List.Perm.refl _) (List.Perm.refl _))
      · intro G30 s30 z30 hm
        refine wpD_seq ?_
        refine wpD_region ?_
        refine p_pure htab rfl rfl rfl rfl ?_
        refine ops_nil ?_
        refine then_normal ?_
        refine wpD_seq ?_
        refine wpD_cond rfl (fun hc47 => ?_) (fun hc47 => ?_)
        · replace hm := yes_t hc47 hm
          refine wpD_skip ?_
          refine then_normal ?_
          refine wpD_seq ?_
          refine wpD_block ?_
          refine wpD_seq ?_
          refine wpD_region ?_
          refine p_pure htab rfl rfl rfl rfl ?_
          obtain ⟨x48, q48, hm⟩ := yes_bind hm
          refine p_elem htab rfl rfl rfl rfl rfl rfl rfl rfl rfl rfl (idx_nonneg q48) (idx_map q48) ?_
          refine p_eq (i := 20) rfl (Wk.of_eq (congrArg D.el (eTApiStmt_eq x48))) ?_
          refine p_loadEl (d := .agg [.v (.int .i64 x48.gOp), .v (.string x48.gName), .v (.string x48.gFunc), .lst 5 (x48.gExps.map eTApiExpr) .no, .lst 7 (x48.gKids.map eTApiStmt) .no, .lst 7 (x48.gElse.map eTApiStmt) .no, .v (.int .i64 x48.gAt)]) htab rfl rfl rfl rfl rfl rfl rfl rfl ?_
          refine p_alloc htab rfl rfl rfl rfl rfl rfl rfl (fun b49 => ?_)
          refine p_pure htab rfl rfl rfl rfl ?_
          refine p_store (ds' := [.v (.int .i64 x48.gOp), .v (.string x48.gName), .v (.string x48.gFunc), .lst 5 (x48.gExps.map eTApiExpr) .no, .lst 7 (x48.gKids.map eTApiStmt) .no, .lst 7 (x48.gElse.map eTApiStmt) .no, .v (.int .i64 x48.gAt)]) (h' := [(b49, Blk.cells [.v (.int .i64 x48.gOp), .v (.string x48.gName), .v (.string x48.gFunc), .lst 5 (x48.gExps.map eTApiExpr) .no, .lst 7 (x48.gKids.map eTApiStmt) .no, .lst 7 (x48.gElse.map eTApiStmt) .no, .v (.int .i64 x48.gAt)] 56)]) 0 htab rfl rfl rfl rfl rfl rfl rfl rfl rfl rfl rfl rfl ?_
          refine ops_nil ?_
          refine then_normal ?_
          refine wpD_seq ?_
          refine wpD_region ?_
          refine p_pure htab rfl rfl rfl rfl ?_
          refine p_pure htab rfl rfl rfl rfl ?_
          obtain ⟨x50, q50, hm⟩ := yes_bind hm
          refine p_elem htab rfl rfl rfl rfl rfl rfl rfl rfl rfl rfl (idx_nonneg q50) (idx_map q50) ?_
          refine p_eq (i := 24) rfl (Wk.of_eq (congrArg D.el (eTApiStmt_eq x50))) ?_
          refine p_loadEl (d := .agg [.v (.int .i64 x50.gOp), .v (.string x50.gName), .v (.string x50.gFunc), .lst 5 (x50.gExps.map eTApiExpr) .no, .lst 7 (x50.gKids.map eTApiStmt) .no, .lst 7 (x50.gElse.map eTApiStmt) .no, .v (.int .i64 x50.gAt)]) htab rfl rfl rfl rfl rfl rfl rfl rfl ?_
          refine p_alloc htab rfl rfl rfl rfl rfl rfl rfl (fun b51 => ?_)
          refine p_store (ds' := [.v (.int .i64 x50.gOp), .v (.string x50.gName), .v (.string x50.gFunc), .lst 5 (x50.gExps.map eTApiExpr) .no, .lst 7 (x50.gKids.map eTApiStmt) .no, .lst 7 (x50.gElse.map eTApiStmt) .no, .v (.int .i64 x50.gAt)]) (h' := [(b49, Blk.cells [.v (.int .i64 x48.gOp), .v (.string x48.gName), .v (.string x48.gFunc), .lst 5 (x48.gExps.map eTApiExpr) .no, .lst 7 (x48.gKids.map eTApiStmt) .no, .lst 7 (x48.gElse.map eTApiStmt) .no, .v (.int .i64 x48.gAt)] 56), (b51, Blk.cells [.v (.int .i64 x50.gOp), .v (.string x50.gName), .v (.string x50.gFunc), .lst 5 (x50.gExps.map eTApiExpr) .no, .lst 7 (x50.gKids.map eTApiStmt) .no, .lst 7 (x50.gElse.map eTApiStmt) .no, .v (.int .i64 x50.gAt)] 56)]) 1 htab rfl rfl rfl rfl rfl rfl rfl rfl rfl rfl rfl rfl ?_
          refine ops_nil ?_
          refine then_normal ?_
          refine wpD_seq ?_
          refine wpD_region ?_
          refine p_pure htab rfl rfl rfl rfl ?_
          refine p_load (d := .agg [.v (.int .i64 x48.gOp), .v (.string x48.gName), .v (.string x48.gFunc), .lst 5 (x48.gExps.map eTApiExpr) .no, .lst 7 (x48.gKids.map eTApiStmt) .no, .lst 7 (x48.gElse.map eTApiStmt) .no, .v (.int .i64 x48.gAt)]) 0 htab rfl rfl rfl rfl rfl rfl rfl rfl ?_
          refine p_load (d := .agg [.v (.int .i64 x50.gOp), .v (.string x50.gName), .v (.string x50.gFunc), .lst 5 (x50.gExps.map eTApiExpr) .no, .lst 7 (x50.gKids.map eTApiStmt) .no, .lst 7 (x50.gElse.map eTApiStmt) .no, .v (.int .i64 x50.gAt)]) 1 htab rfl rfl rfl rfl rfl rfl rfl rfl ?_
          obtain ⟨x52, q52, hm⟩ := yes_bind hm
          refine p_callV0 (hg2 x48 x50 x52 q52) rfl rfl rfl rfl rfl rfl rfl (WkL.cons (Wk.trans (Wk.agg (WkR.refl _)) (Wk.of_eq (eTApiStmt_eq x48).symm)) (WkL.cons (Wk.trans (Wk.agg (WkR.refl _)) (Wk.of_eq (eTApiStmt_eq x50).symm)) (WkL.refl _))) ?_
          rintro _ rfl
          refine p_pure htab rfl rfl rfl rfl ?_
          refine ops_nil ?_
          refine then_normal ?_
          refine wpD_cond rfl (fun hc53 => ?_) (fun hc53 => ?_)
          · replace hm := yes_t hc53 hm
            refine wpD_seq ?_
            refine wpD_region ?_
            refine p_pure htab rfl rfl rfl rfl ?_
            refine ops_nil ?_
            refine then_normal ?_
            refine wpD_ret ?_
            refine block_ret ?_
            refine then_ret ?_
            have e30 := lp_done hm; subst e30; clear hm; have hm := hq30
            refine then_ret ?_
            refine block_ret ?_
            have e29 := yes_eq hm; subst e29; refine midX_inr ?_; clear hm; have hm := ho29; simp only [Sum.elim_inr] at hm
            refine then_ret ?_
            have er54 := yes_eq hm; subst er54
            refine retX.of (s' := ⟨[(6, .v (.bool false))], [], []⟩) (WkS.perm (WkS.cons rfl (Wk.refl _) (WkS.nil)) (List.Perm.refl _) (List.Perm.refl _)) (retD_mk (hh := []) (.inl rfl) (resL_cons (resOne_tmp rfl) (resL_nil)) (List.nil_sublist _) (List.Sublist.refl _) ?_)
            exact ⟨rfl, rfl, rfl⟩
          · replace hm := yes_f hc53 hm
            refine wpD_skip ?_
            refine block_normal ?_
            refine then_normal ?_
            refine wpD_region ?_
            refine p_pure htab rfl rfl rfl rfl ?_
            refine p_pure htab rfl rfl rfl rfl ?_
            refine ops_nil ?_
            refine then_normal ⟨_, lp_next hm, ?_⟩
            exact WkX.of () (WkS.perm (WkS.cons rfl (Wk.refl _) (WkS.cons rfl (Wk.refl _) (WkS.cons rfl (Wk.refl _) (WkS.cons rfl (Wk.refl _) (WkS.cons rfl (Wk.refl _) (WkS.nil)))))) (List.Perm.refl _) (List.Perm.refl _))
        · replace hm := yes_f hc47 hm
          refine wpD_exit ?_
          refine then_exit ?_
          have e30 := lp_done hm; subst e30; clear hm; have hm := hq30
          refine then_exit ?_
          refine block_hit ?_
          have e29 := yes_eq hm; subst e29
          refine midX_inl ?_
          exact WkX.of () (WkS.perm (WkS.nil) (List.Perm.refl _) (List.Perm.refl _))
    · intro y29 s29 hx29 hw29; subst hx29; clear hm; have hm := ho29; simp only [Sum.elim_inl] at hm; clear q29 ho29
      refine then_normal ?_
      refine wpD_wkX hw29 (fun z29 => ?_)
      refine wpD_seq ?_
      refine wpD_region ?_
      refine p_pure htab rfl rfl rfl rfl ?_
      refine ops_nil ?_
      refine then_normal ?_
      refine wpD_ret ?_
      have er55 := yes_eq hm; subst er55
      refine retX.of (s' := ⟨[(6, .v (.bool true))], [], []⟩) (WkS.perm (WkS.cons rfl (Wk.refl _) (WkS.nil)) (List.Perm.refl _) (List.Perm.refl _)) (retD_mk (hh := []) (.inl rfl) (resL_cons (resOne_tmp rfl) (resL_nil)) (List.nil_sublist _) (List.Sublist.refl _) ?_)
      exact ⟨rfl, rfl, rfl⟩
noncomputable def tree_sameStmt_b (g0 : (List TApiStmt) → (List TApiStmt) → Option (Bool)) (g1 : (List TApiStmt) → (List TApiStmt) → Option (Bool)) (g2 : (TApiStmt) → (TApiStmt) → Option (Bool)) (a0 : TApiStmt) (a1 : TApiStmt) : Option (Bool) :=
  (Option.bind (α := Bool) (bif (a0.gOp != a1.gOp) then some true else (bif (!decide (a0.gName = a1.gName)) then some true else some (!decide (a0.gFunc = a1.gFunc)))) fun y5 => (bif y5 then some false else ((slices_EqualFunc_api_Expr_api_Expr_api_Expr_api_Expr a0.gExps a1.gExps).bind fun x11 => (bif x11 then ((g0 a0.gKids a1.gKids).bind fun x13 => (bif x13 then ((g0 a0.gElse a1.gElse).bind fun x15 => some x15) else some false)) else some false))))
set_option maxRecDepth 100000 in
set_option maxHeartbeats 2000000 in
theorem tree_sameStmt_b_ok (g0 : (List TApiStmt) → (List TApiStmt) → Option (Bool)) (g1 : (List TApiStmt) → (List TApiStmt) → Option (Bool)) (g2 : (TApiStmt) → (TApiStmt) → Option (Bool)) (hg0 : ∀ (a0 : List TApiStmt) (a1 : List TApiStmt) (r : Bool) (h0 : g0 a0 a1 = some r), CallsD Try.prog 26 [.lst 7 (a0.map eTApiStmt) .no, .lst 7 (a1.map eTApiStmt) .no] [] [] (fun d h k => d = .v (.bool r) ∧ h = [] ∧ k = [])) (hg1 : ∀ (a0 : List TApiStmt) (a1 : List TApiStmt) (r : Bool) (h0 : g1 a0 a1 = some r), CallsD Try.prog 47 [.lst 7 (a0.map eTApiStmt) .no, .lst 7 (a1.map eTApiStmt) .no, .fn (.func 48) [] []] [] [] (fun d h k => d = .v (.bool r) ∧ h = [] ∧ k = [])) (hg2 : ∀ (a0 : TApiStmt) (a1 : TApiStmt) (r : Bool) (h0 : g2 a0 a1 = some r), CallsD Try.prog 48 [eTApiStmt a0, eTApiStmt a1] [] [] (fun d h k => d = .v (.bool r) ∧ h = [] ∧ k = [])) (a0 : TApiStmt) (a1 : TApiStmt) (r : Bool) (h0 : tree_sameStmt_b g0 g1 g2 a0 a1 = some r) : CallsD Try.prog 48 [eTApiStmt a0, eTApiStmt a1] [] [] (fun d h k => d = .v (.bool r) ∧ h = [] ∧ k = []) := by
  have hm := yes_of h0
  unfold tree_sameStmt_b at hm
  clear h0
  refine enterX htab Try.func48 rfl rfl rfl rfl rfl (fun C => ?_)
  refine w_eq (i := 0) rfl (Wk.of_eq (eTApiStmt_eq a0)) ?_
  refine w_eq (i := 1) rfl (Wk.of_eq (eTApiStmt_eq a1)) ?_
  refine wpD_seq ?_
  refine wpD_region ?_
  refine p_box rfl rfl rfl rfl rfl rfl rfl (fun b1 => ?_)
  refine p_box rfl rfl rfl rfl rfl rfl rfl (fun b2 => ?_)
  refine p_pure htab rfl rfl rfl rfl ?_
  refine ops_nil ?_
  refine then_normal ?_
  refine wpD_seq ?_
  refine wpD_seq ?_
  obtain ⟨y5, q5, ho5⟩ := yes_bind hm
  refine wpD_mid (Y := Unit) (fun z5 => (⟨[(2, .ptr b1 0), (3, .ptr b2 0), (23, .v (.bool y5))], [(b1, Blk.cells [.v (.int .i64 a0.gOp), .v (.string a0.gName), .v (.string a0.gFunc), .lst 5 (a0.gExps.map eTApiExpr) .no, .lst 7 (a0.gKids.map eTApiStmt) .no, .lst 7 (a0.gElse.map eTApiStmt) .no, .v (.int .i64 a0.gAt)] 56), (b2, Blk.cells [.v (.int .i64 a1.gOp), .v (.string a1.gName), .v (.string a1.gFunc), .lst 5 (a1.gExps.map eTApiExpr) .no, .lst 7 (a1.gKids.map eTApiStmt) .no, .lst 7 (a1.gElse.map eTApiStmt) .no, .v (.int .i64 a1.gAt)] 56)], []⟩ : S)) ?_ ?_
  · clear hm; have hm := yes_of q5
    refine wpD_region ?_
    refine p_pure htab rfl rfl rfl rfl ?_
    refine p_load 0 htab rfl rfl rfl rfl rfl rfl rfl rfl ?_
    refine p_pure htab rfl rfl rfl rfl ?_
    refine p_load 1 htab rfl rfl rfl rfl rfl rfl rfl rfl ?_
    refine p_pure htab rfl rfl rfl rfl ?_
    refine p_pure htab rfl rfl rfl rfl ?_
    refine p_split (i := 10) rfl (fun hg6 => ?_) (fun hg6 => ?_)
    · replace hm := yes_t hg6 hm
      refine p_skip rfl rfl rfl ?_
      refine p_skip rfl rfl rfl ?_
      refine p_skip rfl rfl rfl ?_
      refine p_skip rfl rfl rfl ?_
      refine p_skip rfl rfl rfl ?_
      refine p_pickT rfl rfl rfl rfl rfl rfl ?_
      refine p_pure htab rfl rfl rfl rfl ?_
      refine p_skip rfl rfl rfl ?_
      refine p_skip rfl rfl rfl ?_
      refine p_skip rfl rfl rfl ?_
      refine p_skip rfl rfl rfl ?_
      refine p_skip rfl rfl rfl ?_
      refine p_pickT rfl rfl rfl rfl rfl rfl ?_
      refine ops_nil ?_
      have e5 := yes_eq hm; subst e5
      refine ⟨rfl, ?_⟩
      exact WkX.of () (WkS.perm (WkS.cons rfl (Wk.refl _) (WkS.cons rfl (Wk.refl _) (WkS.cons rfl (Wk.refl _) (WkS.nil)))) (List.Perm.refl _) (List.Perm.refl _))
    · replace hm := yes_f hg6 hm
      refine p_pure htab rfl rfl rfl rfl ?_
      refine p_load 0 htab rfl rfl rfl rfl rfl rfl rfl rfl ?_
      refine p_pure htab rfl rfl rfl rfl ?_
      refine p_load 1 htab rfl rfl rfl rfl rfl rfl rfl rfl ?_
      refine p_pure htab rfl rfl rfl rfl ?_
      refine p_pickF rfl rfl rfl rfl rfl rfl ?_
      refine p_pure htab rfl rfl rfl rfl ?_
      refine p_split (i := 17) rfl (fun hg7 => ?_) (fun hg7 => ?_)
      · replace hm := yes_t hg7 hm
        refine p_skip rfl rfl rfl ?_
        refine p_skip rfl rfl rfl ?_
        refine p_skip rfl rfl rfl ?_
        refine p_skip rfl rfl rfl ?_
        refine p_skip rfl rfl rfl ?_
        refine p_pickT rfl rfl rfl rfl rfl rfl ?_
        refine ops_nil ?_
        have e5 := yes_eq hm; subst e5
        refine ⟨rfl, ?_⟩
        exact WkX.of () (WkS.perm (WkS.cons rfl (Wk.refl _) (WkS.cons rfl (Wk.refl _) (WkS.cons rfl (Wk.refl _) (WkS.nil)))) (List.Perm.refl _) (List.Perm.refl _))
      · replace hm := yes_f hg7 hm
        refine p_pure htab rfl rfl rfl rfl ?_
        refine p_load 0 htab rfl rfl rfl rfl rfl rfl rfl rfl ?_
        refine p_pure htab rfl rfl rfl rfl ?_
        refine p_load 1 htab rfl rfl rfl rfl rfl rfl rfl rfl ?_
        refine p_pure htab rfl rfl rfl rfl ?_
        refine p_pickF rfl rfl rfl rfl rfl rfl ?_
        refine ops_nil ?_
        have e5 := yes_eq hm; subst e5
        refine ⟨rfl, ?_⟩
        exact WkX.of () (WkS.perm (WkS.cons rfl (Wk.refl _) (WkS.cons rfl (Wk.refl _) (WkS.cons rfl (Wk.refl _) (WkS.nil)))) (List.Perm.refl _) (List.Perm.refl _))
  · intro s5 hw5; clear hm; have hm := ho5; clear q5 ho5
    refine then_normal ?_
    refine wpD_wkX hw5 (fun z5 => ?_)
    refine wpD_cond rfl (fun hc9 => ?_) (fun hc9 => ?_)
    · replace hm := yes_t hc9 hm
      refine wpD_seq ?_
      refine wpD_region ?_
      refine p_pure htab rfl rfl rfl rfl ?_
      refine ops_nil ?_
      refine then_normal ?_
      refine wpD_ret ?_
      refine then_ret ?_
      have er10 := yes_eq hm; subst er10
      refine retX.of (s' := ⟨[(4, .v (.bool false))], [], []⟩) (WkS.perm (WkS.cons rfl (Wk.refl _) (WkS.nil)) (List.Perm.refl _) (List.Perm.refl _)) (retD_mk (hh := []) (.inl rfl) (resL_cons (resOne_tmp rfl) (resL_nil)) (List.nil_sublist _) (List.Sublist.refl _) ?_)
      exact ⟨rfl, rfl, rfl⟩
    · replace hm := yes_f hc9 hm
      refine wpD_skip ?_
      refine then_normal ?_
      refine wpD_seq ?_
      refine wpD_region ?_
      refine p_pure htab rfl rfl rfl rfl ?_
      refine p_load 0 htab rfl rfl rfl rfl rfl rfl rfl rfl ?_
      refine p_pure htab rfl rfl rfl rfl ?_
      refine p_load 1 htab rfl rfl rfl rfl rfl rfl rfl rfl ?_
      obtain ⟨x11, q11, hm⟩ := yes_bind hm
      refine p_call0 (slices_EqualFunc_api_Expr_api_Expr_api_Expr_api_Expr_ok a0.gExps a1.gExps x11 q11) rfl rfl rfl rfl rfl (WkL.refl _) ?_
      rintro _ rfl
      refine p_pure htab rfl rfl rfl rfl ?_
      refine p_split (i := 29) rfl (fun hg12 => ?_) (fun hg12 => ?_)
      · replace hm := yes_t hg12 hm
        refine p_pure htab rfl rfl rfl rfl ?_
        refine p_load 0 htab rfl rfl rfl rfl rfl rfl rfl rfl ?_
        refine p_pure htab rfl rfl rfl rfl ?_
        refine p_load 1 htab rfl rfl rfl rfl rfl rfl rfl rfl ?_
        obtain ⟨x13, q13, hm⟩ := yes_bind hm
        refine p_call0 (hg0 a0.gKids a1.gKids x13 q13) rfl rfl rfl rfl rfl (WkL.refl _) ?_
        rintro _ rfl
        refine p_pickT rfl rfl rfl rfl rfl rfl ?_
        refine p_pure htab rfl rfl rfl rfl ?_
        refine p_split (i := 36) rfl (fun hg14 => ?_) (fun hg14 => ?_)
        · replace hm := yes_t hg14 hm
          refine p_pure htab rfl rfl rfl rfl ?_
          refine p_load 0 htab rfl rfl rfl rfl rfl rfl rfl rfl ?_
          refine p_pure htab rfl rfl rfl rfl ?_
          refine p_load 1 htab rfl rfl rfl rfl rfl rfl rfl rfl ?_
          obtain ⟨x15, q15, hm⟩ := yes_bind hm
          refine p_call0 (hg0 a0.gElse a1.gElse x15 q15) rfl rfl rfl rfl rfl (WkL.refl _) ?_
          rintro _ rfl
          refine p_pickT rfl rfl rfl rfl rfl rfl ?_
          refine p_pure htab rfl rfl rfl rfl ?_
          refine ops_nil ?_
          refine then_normal ?_
          refine wpD_ret ?_
          have er16 := yes_eq hm; subst er16
          refine retX.of (s' := ⟨[(4, .v (.bool x15))], [], []⟩) (WkS.perm (WkS.cons rfl (Wk.refl _) (WkS.nil)) (List.Perm.refl _) (List.Perm.refl _)) (retD_mk (hh := []) (.inl rfl) (resL_cons (resOne_tmp rfl) (resL_nil)) (List.nil_sublist _) (List.Sublist.refl _) ?_)
          exact ⟨rfl, rfl, rfl⟩
        · replace hm := yes_f hg14 hm
          refine p_skip rfl rfl rfl ?_
          refine p_skip rfl rfl rfl ?_
          refine p_skip rfl rfl rfl ?_
          refine p_skip rfl rfl rfl ?_
          refine p_skip rfl rfl rfl ?_
          refine p_pickF rfl rfl rfl rfl rfl rfl ?_
          refine p_pure htab rfl rfl rfl rfl ?_
          refine ops_nil ?_
          refine then_normal ?_
          refine wpD_ret ?_
          have er17 := yes_eq hm; subst er17
          refine retX.of (s' := ⟨[(4, .v (.bool false))], [], []⟩) (WkS.perm (WkS.cons rfl (Wk.refl _) (WkS.nil)) (List.Perm.refl _) (List.Perm.refl _)) (retD_mk (hh := []) (.inl rfl) (resL_cons (resOne_tmp rfl) (resL_nil)) (List.nil_sublist _) (List.Sublist.refl _) ?_)
          exact ⟨rfl, rfl, rfl⟩
      · replace hm := yes_f hg12 hm
        refine p_skip rfl rfl rfl ?_
        refine p_skip rfl rfl rfl ?_
        refine p_skip rfl rfl rfl ?_
        refine p_skip rfl rfl rfl ?_
        refine p_skip rfl rfl rfl ?_
        refine p_pickF rfl rfl rfl rfl rfl rfl ?_
        refine p_pure htab rfl rfl rfl rfl ?_
        refine p_skip rfl rfl rfl ?_
        refine p_skip rfl rfl rfl ?_
        refine p_skip rfl rfl rfl ?_
        refine p_skip rfl rfl rfl ?_
        refine p_skip rfl rfl rfl ?_
        refine p_pickF rfl rfl rfl rfl rfl rfl ?_
        refine p_pure htab rfl rfl rfl rfl ?_
        refine ops_nil ?_
        refine then_normal ?_
        refine wpD_ret ?_
        have er18 := yes_eq hm; subst er18
        refine retX.of (s' := ⟨[(4, .v (.bool false))], [], []⟩) (WkS.perm (WkS.cons rfl (Wk.refl _) (WkS.nil)) (List.Perm.refl _) (List.Perm.refl _)) (retD_mk (hh := []) (.inl rfl) (resL_cons (resOne_tmp rfl) (resL_nil)) (List.nil_sublist _) (List.Sublist.refl _) ?_)
        exact ⟨rfl, rfl, rfl⟩
noncomputable def tree_SameAll_g : Nat → ((List TApiStmt) → (List TApiStmt) → Option (Bool)) × ((List TApiStmt) → (List TApiStmt) → Option (Bool)) × ((TApiStmt) → (TApiStmt) → Option (Bool))
  | 0 => (fun _ _ => none, fun _ _ => none, fun _ _ => none)
  | n + 1 => (tree_SameAll_b ((tree_SameAll_g n).1) ((tree_SameAll_g n).2.1) ((tree_SameAll_g n).2.2), slices_EqualFunc_api_Stmt_api_Stmt_api_Stmt_api_Stmt_b ((tree_SameAll_g n).1) ((tree_SameAll_g n).2.1) ((tree_SameAll_g n).2.2), tree_sameStmt_b ((tree_SameAll_g n).1) ((tree_SameAll_g n).2.1) ((tree_SameAll_g n).2.2))
theorem tree_SameAll_g_ok : ∀ n, (∀ (a0 : List TApiStmt) (a1 : List TApiStmt) (r : Bool) (h0 : (tree_SameAll_g n).1 a0 a1 = some r), CallsD Try.prog 26 [.lst 7 (a0.map eTApiStmt) .no, .lst 7 (a1.map eTApiStmt) .no] [] [] (fun d h k => d = .v (.bool r) ∧ h = [] ∧ k = [])) ∧ (∀ (a0 : List TApiStmt) (a1 : List TApiStmt) (r : Bool) (h0 : (tree_SameAll_g n).2.1 a0 a1 = some r), CallsD Try.prog 47 [.lst 7 (a0.map eTApiStmt) .no, .lst 7 (a1.map eTApiStmt) .no, .fn (.func 48) [] []] [] [] (fun d h k => d = .v (.bool r) ∧ h = [] ∧ k = [])) ∧ (∀ (a0 : TApiStmt) (a1 : TApiStmt) (r : Bool) (h0 : (tree_SameAll_g n).2.2 a0 a1 = some r), CallsD Try.prog 48 [eTApiStmt a0, eTApiStmt a1] [] [] (fun d h k => d = .v (.bool r) ∧ h = [] ∧ k = []))
  | 0 => ⟨(fun _ _ _ h0 => by cases h0), (fun _ _ _ h0 => by cases h0), (fun _ _ _ h0 => by cases h0)⟩
  | n + 1 => by
    have ih := tree_SameAll_g_ok n
    exact ⟨tree_SameAll_b_ok ((tree_SameAll_g n).1) ((tree_SameAll_g n).2.1) ((tree_SameAll_g n).2.2) (ih.1) (ih.2.1) (ih.2.2), slices_EqualFunc_api_Stmt_api_Stmt_api_Stmt_api_Stmt_b_ok ((tree_SameAll_g n).1) ((tree_SameAll_g n).2.1) ((tree_SameAll_g n).2.2) (ih.1) (ih.2.1) (ih.2.2), tree_sameStmt_b_ok ((tree_SameAll_g n).1) ((tree_SameAll_g n).2.1) ((tree_SameAll_g n).2.2) (ih.1) (ih.2.1) (ih.2.2)⟩
theorem tree_SameAll_g_le : ∀ n, (∀ (a0 : List TApiStmt) (a1 : List TApiStmt), Le ((tree_SameAll_g n).1 a0 a1) ((tree_SameAll_g (n + 1)).1 a0 a1)) ∧ (∀ (a0 : List TApiStmt) (a1 : List TApiStmt), Le ((tree_SameAll_g n).2.1 a0 a1) ((tree_SameAll_g (n + 1)).2.1 a0 a1)) ∧ (∀ (a0 : TApiStmt) (a1 : TApiStmt), Le ((tree_SameAll_g n).2.2 a0 a1) ((tree_SameAll_g (n + 1)).2.2 a0 a1))
  | 0 => ⟨fun _ _ => Le.none _, fun _ _ => Le.none _, fun _ _ => Le.none _⟩
  | n + 1 => by
    have ih := tree_SameAll_g_le n
    exact ⟨fun a0 a1 => by show Le (tree_SameAll_b ((tree_SameAll_g n).1) ((tree_SameAll_g n).2.1) ((tree_SameAll_g n).2.2) a0 a1) (tree_SameAll_b ((tree_SameAll_g (n + 1)).1) ((tree_SameAll_g (n + 1)).2.1) ((tree_SameAll_g (n + 1)).2.2) a0 a1); unfold tree_SameAll_b; repeat (first | exact Le.refl _ | exact ih.1 _ _ | exact ih.2.1 _ _ | exact ih.2.2 _ _ | assumption | (refine Le.bind ?_ (fun _ => ?_)) | (refine Le.cond ?_ ?_) | (refine Le.loop (fun _ => ?_)) | (refine Le.elim (fun _ => ?_) (fun _ => ?_))), fun a0 a1 => by show Le (slices_EqualFunc_api_Stmt_api_Stmt_api_Stmt_api_Stmt_b ((tree_SameAll_g n).1) ((tree_SameAll_g n).2.1) ((tree_SameAll_g n).2.2) a0 a1) (slices_EqualFunc_api_Stmt_api_Stmt_api_Stmt_api_Stmt_b ((tree_SameAll_g (n + 1)).1) ((tree_SameAll_g (n + 1)).2.1) ((tree_SameAll_g (n + 1)).2.2) a0 a1); unfold slices_EqualFunc_api_Stmt_api_Stmt_api_Stmt_api_Stmt_b; repeat (first | exact Le.refl _ | exact ih.1 _ _ | exact ih.2.1 _ _ | exact ih.2.2 _ _ | assumption | (refine Le.bind ?_ (fun _ => ?_)) | (refine Le.cond ?_ ?_) | (refine Le.loop (fun _ => ?_)) | (refine Le.elim (fun _ => ?_) (fun _ => ?_))), fun a0 a1 => by show Le (tree_sameStmt_b ((tree_SameAll_g n).1) ((tree_SameAll_g n).2.1) ((tree_SameAll_g n).2.2) a0 a1) (tree_sameStmt_b ((tree_SameAll_g (n + 1)).1) ((tree_SameAll_g (n + 1)).2.1) ((tree_SameAll_g (n + 1)).2.2) a0 a1); unfold tree_sameStmt_b; repeat (first | exact Le.refl _ | exact ih.1 _ _ | exact ih.2.1 _ _ | exact ih.2.2 _ _ | assumption | (refine Le.bind ?_ (fun _ => ?_)) | (refine Le.cond ?_ ?_) | (refine Le.loop (fun _ => ?_)) | (refine Le.elim (fun _ => ?_) (fun _ => ?_)))⟩
noncomputable def tree_SameAll (a0 : List TApiStmt) (a1 : List TApiStmt) : Option (Bool) := anyN fun n => (tree_SameAll_g n).1 a0 a1
theorem tree_SameAll_of (a0 : List TApiStmt) (a1 : List TApiStmt) {r : Bool} (n : Nat) (h : (tree_SameAll_g n).1 a0 a1 = some r) : tree_SameAll a0 a1 = some r := anyN_of (fun m => (tree_SameAll_g_le m).1 a0 a1) h
theorem tree_SameAll_ok (a0 : List TApiStmt) (a1 : List TApiStmt) (r : Bool) (h0 : tree_SameAll a0 a1 = some r) : CallsD Try.prog 26 [.lst 7 (a0.map eTApiStmt) .no, .lst 7 (a1.map eTApiStmt) .no] [] [] (fun d h k => d = .v (.bool r) ∧ h = [] ∧ k = []) :=
  let ⟨n, hn⟩ := anyN_inv h0; (tree_SameAll_g_ok n).1 a0 a1  r hn
noncomputable def slices_EqualFunc_api_Stmt_api_Stmt_api_Stmt_api_Stmt (a0 : List TApiStmt) (a1 : List TApiStmt) : Option (Bool) := anyN fun n => (tree_SameAll_g n).2.1 a0 a1
theorem slices_EqualFunc_api_Stmt_api_Stmt_api_Stmt_api_Stmt_of (a0 : List TApiStmt) (a1 : List TApiStmt) {r : Bool} (n : Nat) (h : (tree_SameAll_g n).2.1 a0 a1 = some r) : slices_EqualFunc_api_Stmt_api_Stmt_api_Stmt_api_Stmt a0 a1 = some r := anyN_of (fun m => (tree_SameAll_g_le m).2.1 a0 a1) h
theorem slices_EqualFunc_api_Stmt_api_Stmt_api_Stmt_api_Stmt_ok (a0 : List TApiStmt) (a1 : List TApiStmt) (r : Bool) (h0 : slices_EqualFunc_api_Stmt_api_Stmt_api_Stmt_api_Stmt a0 a1 = some r) : CallsD Try.prog 47 [.lst 7 (a0.map eTApiStmt) .no, .lst 7 (a1.map eTApiStmt) .no, .fn (.func 48) [] []] [] [] (fun d h k => d = .v (.bool r) ∧ h = [] ∧ k = []) :=
  let ⟨n, hn⟩ := anyN_inv h0; (tree_SameAll_g_ok n).2.1 a0 a1  r hn
noncomputable def tree_sameStmt (a0 : TApiStmt) (a1 : TApiStmt) : Option (Bool) := anyN fun n => (tree_SameAll_g n).2.2 a0 a1
theorem tree_sameStmt_of (a0 : TApiStmt) (a1 : TApiStmt) {r : Bool} (n : Nat) (h : (tree_SameAll_g n).2.2 a0 a1 = some r) : tree_sameStmt a0 a1 = some r := anyN_of (fun m => (tree_SameAll_g_le m).2.2 a0 a1) h
theorem tree_sameStmt_ok (a0 : TApiStmt) (a1 : TApiStmt) (r : Bool) (h0 : tree_sameStmt a0 a1 = some r) : CallsD Try.prog 48 [eTApiStmt a0, eTApiStmt a1] [] [] (fun d h k => d = .v (.bool r) ∧ h = [] ∧ k = []) :=
  let ⟨n, hn⟩ := anyN_inv h0; (tree_SameAll_g_ok n).2.2 a0 a1  r hn
end Go.Proofs.Ytphpnbdfngdinaa.Ab
